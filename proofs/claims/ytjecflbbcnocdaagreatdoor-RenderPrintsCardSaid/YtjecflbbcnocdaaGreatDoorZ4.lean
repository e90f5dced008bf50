/- Lemmas of the proof, part 4: what the functions of the program do (contracts), and what follows. -/
import Derived.Test.YtjecflbbcnocdaaGreatDoorZ2
import Derived.Test.YtjecflbbcnocdaaGreatDoorZ3
import Derived.Lib.ParseIntB
import Derived.Lib.ItoaLen
import Derived.Lib.Strings
import Derived.Lib.Builder
import Derived.Lib.UnsafeStr
import Derived.Laws.Externs
import Derived.Lib.AppendStr
namespace Go.Proofs.YtjecflbbcnocdaaGreatDoor
open Go.Lir
set_option maxHeartbeats 1000000
attribute [local irreducible] LC.wp Q3 QW Q13 retQ Q2i LO.wp Qv Calls
set_option linter.unusedSimpArgs false
set_option linter.unusedVariables false
attribute [local irreducible] Lib.itoa Lib.join
theorem Q4m {n : Int} {cx : Cx} {w : World} {L : List Res} (h0 : -9223372036854775808 ≤ n) (h1 : n ≤ 9223372036854775807) (hT : PowT cx) (hS : St cx w L) :
    Rets Tryz.prog 63 [.int .i64 n] w fun u w' => u = .string ⟨(Lib.itoa n).toArray⟩ ∧ St cx w' L := by
  refine Calls.mono (Tryz.strconv_Itoa n h0 h1 w (hT.now hS)) ?_
  rintro e w' ⟨rfl, k, os, rfl⟩
  exact ⟨_, rfl, rfl, hS.fr0 (Qox w k os)⟩
theorem QmH {xs : List (List UInt8)} {sep : List UInt8} {cx : Cx} {w : World} {L : List Res} {T : TypeId} {i : Nat} {v : Value} {css : List (List Value)} (hS : St cx w L) (hi : nth L i = some (sl T 1 v css))
    (hl : strR.ls cx css (xs.map fun x => ⟨x.toArray⟩)) (hn : xs.length ≤ 140737488355328) (hlen : (Lib.join xs sep).length ≤ 140737488355328) :
    Rets Tryz.prog 108 [v, .string ⟨sep.toArray⟩] w fun u w' => u = .string ⟨(Lib.join xs sep).toArray⟩ ∧ St cx w' L := by
  obtain ⟨a, cap, rfl, hcap, hc⟩ := hS.strs hi hl
  have hm : (xs.map fun x => (⟨x.toArray⟩ : ByteArray)).map (·.data.toList) = xs := by
    rw [List.map_map]; exact (List.map_congr_left fun x _ => rfl).trans (List.map_id xs)
  rcases hc with hc | ⟨b, off, rfl, hb, hcells⟩
  · have hx : xs = [] := by simpa using hc
    subst hx
    refine Calls.mono (Tryz.strings_Join_none a cap ⟨sep.toArray⟩ w) ?_
    rintro e w' ⟨rfl, rfl⟩
    exact ⟨_, rfl, by rw [Lib.join_nil], hS⟩
  · have := Tryz.strings_Join b off cap (xs.map fun x => ⟨x.toArray⟩) ⟨sep.toArray⟩ w hcells hb (by simpa using hn) hcap (by rw [hm]; exact hlen)
    rw [hm] at this
    refine Calls.mono this ?_
    rintro e w' ⟨rfl, hbw⟩
    exact ⟨_, rfl, rfl, hS.fr0 (below_fr hbw)⟩
theorem ttext_c : ∀ (t : Ty), t.InR → t.nodes ≤ 100000 → ∀ {cx : Cx} {w : World} {L : List Res} {cs : List Value}, tyR.at cx cs t → PowT cx → St cx w L →
    Rets Tryz.prog Q2m [.agg ⟨cs⟩] w fun u w' => u = .string ⟨t.txt.toArray⟩ ∧ St cx w' L := by
  intro t
  induction t using Ty.ind with
  | h k r l ih =>
    intro hr hn cx w L cs ht hT hS
    obtain ⟨v, rfl, hl⟩ := QG ht
    simp only [Ty.kind, Ty.r, Ty.l] at hl ht ⊢
    obtain ⟨hk, ⟨hr0, hr1⟩, hsub⟩ := hr.parts
    have hi := Lib.itoa_length_le r hr0 hr1
    rw [Ty.nodes] at hn
    have hlen := Tys.nodes_len l
    have hnm : ∀ x ∈ l, x.nodes ≤ 100000 := fun x hx => by have := Tys.nodes_mem hx; omega
    have hjl := Tys.join_len l hsub
    rw [Ty.txt]
    all_goals refine QfV ?_
    all_goals (unfold types_Text_lc; refine Q0 ?_; refine Q2 ?_; refine zb hS ?_; intro p1 w1 hS; refine zm ?_; refine zn ?_; refine Q0 ?_; refine Q2 ?_; refine Q1 rfl ?_; refine zl hS ?_; refine zR1 (c := Q4m hr0 hr1 hT hS) (h := ?_); rintro v1 w1 ⟨rfl, hS⟩; refine zm ?_; refine zn ?_; refine Q0 ?_; refine Q0 ?_; refine Q2 ?_; refine Q1 rfl ?_; refine zl hS ?_; refine zn ?_; refine Q8 ?_; refine Q0 ?_; refine Q2 ?_)
    all_goals (first | (refine Qq ?_) | (refine Qr ?_) | (refine Qf rfl rfl (fun hc => ?_) (fun hc => ?_)))
    all_goals (refine zm ?_; refine zn ?_)
    all_goals
      first
      | (refine Q5 rfl ?_ -- Q2m c0
         all_goals (refine Q0 ?_; refine Q2 ?_; refine zm ?_; refine Qi rfl rfl (by first | omega | (simp only [List.length_append, List.length_cons, List.length_nil]; omega)) ?_; refine zm ?_; refine zn ?_; refine zr ?_; refine zf ?_)
         all_goals (refine ⟨_, rfl, ?_, hS.sp⟩; rw [if_pos (by omega)]; done))
      | (refine Q4 rfl ?_ -- Q2m c0
         all_goals (refine Q0 ?_; refine Q2 ?_)
         all_goals (first | (refine Qq ?_) | (refine Qr ?_) | (refine Qf rfl rfl (fun hc => ?_) (fun hc => ?_)))
         all_goals (refine zm ?_; refine zn ?_)
         all_goals
           first
           | (refine Q5 rfl ?_ -- Q2m c1
              all_goals (refine Q0 ?_; refine Q2 ?_; refine zm ?_; refine Qi rfl rfl (by first | omega | (simp only [List.length_append, List.length_cons, List.length_nil]; omega)) ?_; refine zm ?_; refine zn ?_; refine zr ?_; refine zf ?_)
              all_goals (first | (refine ⟨_, rfl, ?_, hS.sp⟩; rw [if_pos (by omega)]; done) | (refine ⟨_, rfl, ?_, hS.sp⟩; rw [if_neg (by omega), if_pos (by omega)]; done)))
           | (refine Q4 rfl ?_ -- Q2m c1
              all_goals (refine Q0 ?_; refine Q2 ?_)
              all_goals (first | (refine Qq ?_) | (refine Qr ?_) | (refine Qf rfl rfl (fun hc => ?_) (fun hc => ?_)))
              all_goals (refine zm ?_; refine zn ?_)
              all_goals
                first
                | (refine Q5 rfl ?_ -- Q2m c2
                   all_goals (refine Q0 ?_; refine Q2 ?_; refine zm ?_; refine zn ?_; refine Q0 ?_; refine Q0 ?_; refine Q2 ?_; refine Q1 rfl ?_; refine zl hS ?_; refine zL ?_; refine zm ?_; refine zn ?_; refine Q8 ?_)
                   refine zoL hS [3, 23, 24] (fun A LL ρ' w' => ∃ (j : Nat) (u : Value) (css : List (List Value)), Has ρ' A ∧ Has ρ' [(4, u), (25, .int .i64 j)] ∧ (j ≤ l.length) ∧ (strR.ls cx css ((l.take j).map fun x => ⟨x.txt.toArray⟩)) ∧ (oneC u = true) ∧ St cx w' (sl 9 1 u css :: LL)) (fun ρ' _ => (l.length - iv (ρ' 25)).toNat) ?_ ?_
                   · exact ⟨0, .slice none 0 0, [], zh, zh, (by omega), Rep.LR.nil _ _ _, rfl, by have hS := hS.nil (T := 9) (es := 1); exact hS.sp⟩
                   rintro ρ w1 ⟨j, u, css, hA, hρ, hj, hls, hu, hS⟩; obtain ⟨ρ, rfl⟩ := env2 hA hρ
                   unfold Q4Z
                   all_goals (refine Q0 ?_; refine Q2 ?_; refine Qp rfl rfl ?_; refine zn ?_; refine Q0 ?_)
                   refine Ql rfl (fun hc => ?_) (fun hc => ?_)
                   · skip
                     all_goals (refine zsk ?_; refine Q0 ?_; refine Q8 ?_; refine Q0 ?_; refine Q2 ?_; refine zi ?_; intro b1 o1 cs1 x1 hat1 hx1 he1; obtain ⟨vl1, rfl, hl1⟩ := QG he1; (first | (refine zv hS ?_) | (refine zvk hS ?_)); refine Qc hS ?_; intro p6 w1 hS; refine zsn hS ?_; intro w1 hS; have hS := hS.ns; refine zn ?_; refine Q2 ?_; refine zm ?_; refine zv hS ?_; refine zR1 (c := ih _ (List.mem_of_getElem? hx1) (hsub _ (List.mem_of_getElem? hx1)) (hnm _ (List.mem_of_getElem? hx1)) he1 hT hS) (h := ?_); rintro v1 w1 ⟨rfl, hS⟩; refine zB1 hS [_] ?_; intro b1 w1 hS; refine za Q1r Q2q hS ?_; intro vp1 w1 css1 hls1 hv1 hS; have hS := hS.ns; refine zm ?_; refine zn ?_; refine Q2 ?_; refine zad ?_; refine zm ?_; refine zn ?_; exact ⟨⟨j + 1, _, _, zh, zh, (by omega), by rw [Q1T hx1, List.map_append]; assumption, by assumption, hS.sp⟩, Qk (by omega)⟩)
                   · skip
                     all_goals (refine zex ?_; refine Q0 ?_; refine Q2 ?_; refine zm ?_; refine Qi rfl rfl (by first | omega | (simp only [List.length_append, List.length_cons, List.length_nil]; omega)) ?_; refine Qi rfl rfl (by first | omega | (simp only [List.length_append, List.length_cons, List.length_nil]; omega)) ?_; refine zm ?_; refine zR2 (c := QmH (xs := Tys.txts l) (sep := [44, 32]) hS fd (by rw [List.take_of_length_le (by omega)] at hls; rw [Tys.txts_map, List.map_map]; exact hls) (by rw [Tys.txts_map, List.length_map]; omega) (by omega)) (h := ?_); rintro v1 w1 ⟨rfl, hS⟩; refine Qi rfl rfl (by first | omega | (simp only [List.length_append, List.length_cons, List.length_nil]; omega)) ?_; refine Qi rfl rfl (by first | omega | (simp only [List.length_append, List.length_cons, List.length_nil]; omega)) ?_; refine zm ?_; refine zn ?_; refine zr ?_; refine zf ?_)
                     all_goals (first | (refine ⟨_, rfl, ?_, hS.sp⟩; rw [if_pos (by omega)]; done) | (refine ⟨_, rfl, ?_, hS.sp⟩; rw [if_neg (by omega), if_pos (by omega)]; done) | (refine ⟨_, rfl, ?_, hS.sp⟩; rw [if_neg (by omega), if_neg (by omega), if_pos (by omega)]; done)))
                | (refine Q4 rfl ?_ -- Q2m c2
                   all_goals (refine zsk ?_; refine Q0 ?_; refine Q2 ?_; refine zm ?_; refine zn ?_; refine zr ?_; refine zf ?_)
                   all_goals (first | (refine ⟨_, rfl, ?_, hS.sp⟩; rw [if_pos (by omega)]; done) | (refine ⟨_, rfl, ?_, hS.sp⟩; rw [if_neg (by omega), if_pos (by omega)]; done) | (refine ⟨_, rfl, ?_, hS.sp⟩; rw [if_neg (by omega), if_neg (by omega), if_pos (by omega)]; done) | (refine ⟨_, rfl, ?_, hS.sp⟩; rw [if_neg (by omega), if_neg (by omega), if_neg (by omega)]; done)))))
theorem Qjp {l : List Ty} (hn : Tys.nodes l ≤ 100000) (hsub : ∀ x ∈ l, x.InR) (ih : ∀ x ∈ l, ∀ {cx : Cx} {w : World} {L : List Res} {cs : List Value}, tyR.at cx cs x → PowT cx → St cx w L → Rets Tryz.prog Q1W [.agg ⟨cs⟩] w fun u w' => u = .string ⟨x.txt.toArray⟩ ∧ St cx w' L)
    {cx : Cx} {w : World} {L : List Res} {v : Value} (hl : tyR.sl cx v l) (hT : PowT cx) (hS : St cx w L) : Rets Tryz.prog Q38 [v] w fun u w' => u = .string ⟨([40] ++ Lib.join (Tys.txts l) [44, 32] ++ [41]).toArray⟩ ∧ St cx w' L := by
  have hlen := Tys.nodes_len l
  all_goals refine QdH ?_
  all_goals (unfold R_typesText_lc; refine Q0 ?_; refine Q2 ?_; refine zm ?_; refine zn ?_; refine Q0 ?_; refine Q2 ?_; refine zm ?_; refine zn ?_; refine Q0 ?_; refine Q0 ?_; refine Q2 ?_; refine zm ?_; refine zn ?_; refine Q8 ?_)
  refine zoL hS [0] (fun A LL ρ' w' => ∃ (j : Nat) (s : List UInt8), Has ρ' A ∧ Has ρ' [(3, .string ⟨s.toArray⟩), (4, .int .i64 j)] ∧ (j ≤ l.length) ∧ (s = [40] ++ Tys.upto l j) ∧ (s.length ≤ 60 * Tys.nodes l + 1) ∧ St cx w' (LL)) (fun ρ' _ => (l.length - iv (ρ' 4)).toNat) ?_ ?_
  · exact ⟨0, [40], zh, zh, (by omega), by rw [Tys.upto_zero]; rfl, by simp, hS.sp⟩
  rintro ρ w1 ⟨j, s, hA, hρ, hj, hs, hsl, hS⟩; obtain ⟨ρ, rfl⟩ := env2 hA hρ
  unfold Q57
  all_goals (refine Q0 ?_; refine Q0 ?_; refine Q2 ?_; refine zm ?_; refine zm ?_; refine zL ?_; refine Qp rfl rfl ?_; refine zn ?_)
  refine Ql rfl (fun hc => ?_) (fun hc => ?_)
  · skip
    all_goals (refine zsk ?_; refine Q0 ?_; refine Q8 ?_; refine Q0 ?_; refine Q0 ?_; refine Q2 ?_; refine zm ?_)
    all_goals (first | (refine Qz ?_) | (refine QF ?_) | (refine Qh rfl rfl (fun hc => ?_) (fun hc => ?_)))
    all_goals (refine zn ?_)
    all_goals
      first
      | (refine Q5 rfl ?_ -- Q38 c1
         all_goals (refine Q2 ?_; refine zm ?_; refine Qi rfl rfl (by first | omega | (simp only [List.length_append, List.length_cons, List.length_nil]; omega)) ?_; refine zm ?_)
         all_goals refine zn ?_)
      | (refine Q4 rfl ?_ -- Q38 c1
         all_goals refine zsk ?_)
    all_goals (refine Q2 ?_; refine zm ?_; refine zm ?_; refine zm ?_; refine zi ?_; intro b1 o1 cs1 x1 hat1 hx1 he1; obtain ⟨vl1, rfl, hl1⟩ := QG he1; (first | (refine zv hS ?_) | (refine zvk hS ?_)); have hxn := Tys.nodes_mem (List.mem_of_getElem? hx1); have hxl := Ty.txt_len x1 (hsub _ (List.mem_of_getElem? hx1)); have hup := Tys.upto_len hsub (j + 1); refine zR1 (c := ih _ (List.mem_of_getElem? hx1) he1 hT hS) (h := ?_); rintro v1 w1 ⟨rfl, hS⟩; refine Qi rfl rfl (by first | omega | (simp only [List.length_append, List.length_cons, List.length_nil]; omega)) ?_; refine zm ?_; refine zn ?_; refine Q2 ?_; refine zm ?_; refine zad ?_; refine zm ?_; refine zn ?_; (first | (exact ⟨⟨j + 1, _, zh, zh, (by omega), by rw [hs, Tys.upto_succ (by omega) hx1]; simp [List.append_assoc], by rw [Tys.upto_succ (by omega) hx1] at hup; rw [hs]; simp only [List.length_append, List.length_cons, List.length_nil] at hup ⊢; omega, hS.sp⟩, Qk (by omega)⟩) | (exact ⟨⟨j + 1, _, zh, zh, (by omega), by rw [hs]; exact up_one (by omega) hx1, by rw [hs, up_one (by omega) hx1]; simp only [List.length_append, List.length_cons, List.length_nil] at hup ⊢; omega, hS.sp⟩, Qk (by omega)⟩)))
  · skip
    all_goals (refine zex ?_; refine Q0 ?_; refine Q2 ?_; refine zm ?_; refine Qi rfl rfl (by first | omega | (simp only [List.length_append, List.length_cons, List.length_nil]; omega)) ?_; refine zm ?_; refine zn ?_; refine zr ?_; refine zf ?_; refine ⟨_, rfl, ?_, hS.sp⟩; rw [hs, Tys.upto_all (by omega)]; done)
theorem rtext_c : ∀ (t : Ty), t.InR → t.nodes ≤ 100000 → ∀ {cx : Cx} {w : World} {L : List Res} {cs : List Value}, tyR.at cx cs t → PowT cx → St cx w L →
    Rets Tryz.prog Q1W [.agg ⟨cs⟩] w fun u w' => u = .string ⟨t.txt.toArray⟩ ∧ St cx w' L := by
  intro t
  induction t using Ty.ind with
  | h k r l ih =>
    intro hr hn cx w L cs ht hT hS
    obtain ⟨v, rfl, hl⟩ := QG ht
    simp only [Ty.kind, Ty.r, Ty.l] at hl ht ⊢
    obtain ⟨hk, ⟨hr0, hr1⟩, hsub⟩ := hr.parts
    have hi := Lib.itoa_length_le r hr0 hr1
    rw [Ty.nodes] at hn
    have hlen := Tys.nodes_len l
    have hnm : ∀ x ∈ l, x.nodes ≤ 100000 := fun x hx => by have := Tys.nodes_mem hx; omega
    have hjl := Tys.join_len l hsub
    rw [Ty.txt]
    all_goals refine Qi6 ?_
    all_goals (unfold R_TypeText_lc; refine Q0 ?_; refine Q2 ?_; refine zb hS ?_; intro p1 w1 hS; refine zm ?_; refine zn ?_; refine Q0 ?_; refine Q2 ?_; refine zm ?_; refine zn ?_; refine Q0 ?_; refine Q0 ?_; refine Q2 ?_; refine Q1 rfl ?_; refine zl hS ?_; refine zn ?_; refine Q8 ?_; refine Q0 ?_; refine Q2 ?_)
    all_goals (first | (refine Qq ?_) | (refine Qr ?_) | (refine Qf rfl rfl (fun hc => ?_) (fun hc => ?_)))
    all_goals (refine zm ?_; refine zn ?_)
    all_goals
      first
      | (refine Q5 rfl ?_ -- Q1W c0
         all_goals (refine Q2 ?_; refine Q1 rfl ?_; refine zl hS ?_; refine zR1 (c := Q4m hr0 hr1 hT hS) (h := ?_); rintro v1 w1 ⟨rfl, hS⟩; refine Qi rfl rfl (by first | omega | (simp only [List.length_append, List.length_cons, List.length_nil]; omega)) ?_; refine zm ?_)
         all_goals refine zn ?_)
      | (refine Q4 rfl ?_ -- Q1W c0
         all_goals (refine Q0 ?_; refine Q2 ?_)
         all_goals (first | (refine Qq ?_) | (refine Qr ?_) | (refine Qf rfl rfl (fun hc => ?_) (fun hc => ?_)))
         all_goals (refine zm ?_; refine zn ?_)
         all_goals
           first
           | (refine Q5 rfl ?_ -- Q1W c1
              all_goals (refine Q2 ?_; refine Q1 rfl ?_; refine zl hS ?_; refine zR1 (c := Q4m hr0 hr1 hT hS) (h := ?_); rintro v1 w1 ⟨rfl, hS⟩; refine Qi rfl rfl (by first | omega | (simp only [List.length_append, List.length_cons, List.length_nil]; omega)) ?_; refine zm ?_)
              all_goals refine zn ?_)
           | (refine Q4 rfl ?_ -- Q1W c1
              all_goals (refine Q0 ?_; refine Q2 ?_)
              all_goals (first | (refine Qq ?_) | (refine Qr ?_) | (refine Qf rfl rfl (fun hc => ?_) (fun hc => ?_)))
              all_goals (refine zm ?_; refine zn ?_)
              all_goals
                first
                | (refine Q5 rfl ?_ -- Q1W c2
                   all_goals (refine zC [(0, none), (1, none), (5, none), (6, none), (2, some (some [6])), (3, none), (4, none), (7, some (some [])), (8, none), (9, some none)] ?_; have hS := hS.drew; refine s_cq ?_; refine Q1 rfl ?_; refine zt ?_; refine s_cq ?_; refine zl hS ?_; refine zt ?_; refine s_cq ?_; refine Q1 rfl ?_; refine zt ?_; refine s_cq ?_; refine zl hS ?_; refine zt ?_; refine Qx ?_; refine zR1 (c := Q4m hr0 hr1 hT hS) (h := ?_); rintro v1 w1 ⟨rfl, hS⟩; refine zt ?_; refine zy ?_; refine s_cq ?_; refine Qi rfl rfl (by first | omega | (simp only [List.length_append, List.length_cons, List.length_nil]; omega)) ?_; refine zt ?_; refine s_cq ?_; refine Qi rfl rfl (by first | omega | (simp only [List.length_append, List.length_cons, List.length_nil]; omega)) ?_; refine zt ?_; refine Qx ?_; refine zR1 (c := Qjp (by omega) hsub (fun x hx => ih x hx (hsub x hx) (hnm x hx)) hl hT hS) (h := ?_); rintro v1 w1 ⟨rfl, hS⟩; refine zt ?_; refine zy ?_; refine s_cq ?_; refine Qi rfl rfl (by first | omega | (simp only [List.length_append, List.length_cons, List.length_nil]; omega)) ?_; refine zt ?_; refine s_cf ?_; refine zm ?_; refine zt ?_)
                   all_goals refine zcn ?_)
                | (refine Q4 rfl ?_ -- Q1W c2
                   all_goals refine zsk ?_)))
    all_goals (refine Q0 ?_; refine Q2 ?_; refine zm ?_; refine zm ?_; refine zn ?_; refine zr ?_; refine zf ?_; (first | (refine ⟨_, rfl, ?_, hS.sp⟩; rw [if_pos (by omega)]; done) | (refine ⟨_, rfl, ?_, hS.sp⟩; rw [if_neg (by omega), if_pos (by omega)]; done) | (refine ⟨_, rfl, ?_, hS.sp⟩; rw [if_neg (by omega), if_neg (by omega), if_pos (by omega)]; simp [List.append_assoc]; done) | (refine ⟨_, rfl, ?_, hS.sp⟩; rw [if_neg (by omega), if_neg (by omega), if_neg (by omega)]; done)))
end Go.Proofs.YtjecflbbcnocdaaGreatDoor
namespace Go.Lir
set_option linter.unusedVariables false
def isLet (c : UInt8) : Bool := decide (97 ≤ c.toNat ∧ c.toNat ≤ 122)
def isDig (c : UInt8) : Bool := decide (48 ≤ c.toNat ∧ c.toNat ≤ 57)
def isSig (c : UInt8) : Bool := decide (c ∈ [(40 : UInt8), 41, 123, 125, 60, 62, 44, 59])
/-- A number's text, read. -/
def numOf (t : List UInt8) : Option Int := match Lib.parseIntB 64 t with
  | .ok n => if Lib.itoa n = t then some n else none
  | _ => none
abbrev TokR := Except Int (List UInt8 × Option Int)
/-- 8: a number that is none. -/
def numT (t : List UInt8) : TokR := match numOf t with
  | some n => .ok (t, some n)
  | none => .error 8
/-- The token that stands at the beginning: its text, its number; 6: none. -/
def tok1 : List UInt8 → TokR
  | [] => .error 6
  | c :: r =>
    if isLet c = true then .ok ((c :: r).takeWhile isLet, none)
    else if isDig c = true then numT ((c :: r).takeWhile isDig)
    else if c = 45 then match r with
      | [] => .error 6
      | d :: r' => if d = 62 then .ok ([45, 62], none) else if isDig d = true then numT (45 :: (d :: r').takeWhile isDig) else .error 6
    else if isSig c = true then .ok ([c], none) else .error 6
/-- What stands between tokens, left away; true: within a remark. -/
def skip : Bool → List UInt8 → List UInt8
  | _, [] => []
  | true, c :: r => if c = 10 then skip false r else skip true r
  | false, c :: r => if c = 10 ∨ c = 32 ∨ c = 9 ∨ c = 13 then skip false r else if c = 35 then skip true r else c :: r
structure Tok where
  at_ : Nat
  text : List UInt8
  num : Option Int
def scanL (n : Nat) : Nat → List UInt8 → List Tok → Except Flt (List Tok)
  | 0, _, acc => .ok acc
  | k + 1, l, acc => match l with
    | [] => .ok acc
    | c :: r => match tok1 (c :: r) with
      | .error e => .error (e, (n : Int) - (c :: r).length)
      | .ok (t, m) => scanL n k (skip false ((c :: r).drop t.length)) (acc ++ [⟨n - (c :: r).length, t, m⟩])
/-- Scan -/
def scan (s : List UInt8) : Except Flt (List Tok) := if 40000 < s.length then .error (2, 40000) else scanL s.length (s.length + 1) (skip false s) []
/-- The same but for the place. -/
def Tok.like (a b : Tok) : Prop := a.text = b.text ∧ a.num = b.num
end Go.Lir
namespace Go.Lir
section
variable {P : Program} {l : List GO} {Q : QT} {ρ : Env} {w : World} {a : List UInt8}
theorem Qlc (a : List UInt8) : (⟨a.toArray⟩ : ByteArray).size = a.length := by rw [Lib.size_eq]
theorem Qle {d : Nat} {x : Operand} (hx : ρ.ev x = .string ⟨a.toArray⟩) (h : Q3 P l Q (upd ρ d (.int .i64 a.length)) w) : Q3 P (⟨none, .slen d x⟩ :: l) Q ρ w := s_slen hx (by rw [Qlc]; exact h)
end
end Go.Lir
namespace Go.Proofs.YtjecflbbcnocdaaGreatDoor
open Go.Lir
set_option maxHeartbeats 1000000
attribute [local irreducible] LC.wp Q3 QW Q13 retQ Q2i LO.wp Qv Calls
set_option linter.unusedSimpArgs false
set_option linter.unusedVariables false
variable {cx : Cx} {w : World} {L : List Res}
end Go.Proofs.YtjecflbbcnocdaaGreatDoor
namespace Go.Proofs.YtjecflbbcnocdaaGreatDoor
open Go.Lir
set_option maxHeartbeats 1000000
attribute [local irreducible] LC.wp Q3 QW Q13 retQ Q2i LO.wp Qv Calls
set_option linter.unusedSimpArgs false
set_option linter.unusedVariables false
attribute [local irreducible] Lib.itoa Lib.parseIntB
variable {cx : Cx} {w : World} {L : List Res}
/-- An error of the library's lies in what is only read. -/
def ErrV (c : Cx) (g : Nat) : Prop := c.K g ∧ ∀ w : World, w.heap[g]? = c.H0[g]? → ∃ ev, w.cell? ⟨g, 0, none⟩ = some ev ∧ (ev = .nilIface ∨ ∃ te pe, ev = .iface te pe)
theorem ErrV.up {c c' : Cx} {g : Nat} (h : ErrV c g) (hle : c.Le c') : ErrV c' g := ⟨(hle.K g h.1).1, fun w hw => h.2 w (hw.trans (hle.K g h.1).2)⟩
theorem ErrV.now {c : Cx} {g : Nat} (h : ErrV c g) (hS : St c w L) : ∃ ev, w.cell? ⟨g, 0, none⟩ = some ev ∧ (ev = .nilIface ∨ ∃ te pe, ev = .iface te pe) := h.2 w (hS.1.same g h.1)
/-- What the numbers' texts need. -/
structure NumK (c : Cx) : Prop where
  pow : PowT c
  syn : ErrV c 2
  rng : ErrV c 3
theorem NumK.up {c c' : Cx} (h : NumK c) (hle : c.Le c') : NumK c' := ⟨h.pow.up hle, h.syn.up hle, h.rng.up hle⟩
theorem ifmt_c {n : Int} (h0 : -9223372036854775808 ≤ n) (h1 : n ≤ 9223372036854775807) (hT : PowT cx) (hS : St cx w L) :
    Rets Tryz.prog 141 [.int .i64 n, .int .i64 10] w fun u w' => u = .string ⟨(Lib.itoa n).toArray⟩ ∧ St cx w' L := by
  refine Calls.mono (Tryz.internal_strconv_FormatInt_10 n h0 h1 w (hT.now hS)) ?_
  rintro e w' ⟨rfl, k, os, rfl⟩
  exact ⟨_, rfl, rfl, hS.fr0 (Qox w k os)⟩
theorem fmtp_c {n : Int} (h0 : -9223372036854775808 ≤ n) (h1 : n ≤ 9223372036854775807) (hT : PowT cx) (hS : St cx w L) :
    Rets Tryz.prog 109 [.int .i64 n, .int .i64 10] w fun u w' => u = .string ⟨(Lib.itoa n).toArray⟩ ∧ St cx w' L := by
  all_goals refine Q4Q ?_
  all_goals (unfold strconv_FormatInt_lc; refine Q0 ?_; refine Q2 ?_; refine zm ?_; refine zn ?_; refine Q0 ?_; refine Q2 ?_; refine zm ?_; refine zm ?_; refine zR2 (c := ifmt_c h0 h1 hT hS) (h := ?_); rintro v1 w1 ⟨rfl, hS⟩; refine zm ?_; refine zn ?_; refine zr ?_; refine zf ?_; exact ⟨_, rfl, rfl, hS.sp⟩)
end Go.Proofs.YtjecflbbcnocdaaGreatDoor
namespace Go.Lir
section
variable {c : UInt8} {r l : List UInt8} {rem : Bool} {src : List UInt8} {i at0 : Nat}
end
end Go.Lir
namespace Go.Lir
section
variable {src t : List UInt8} {m : Option Int} {e : Int} {k i n : Nat} {out : List Tok}
end
end Go.Lir
namespace Go.Lir
end Go.Lir
namespace Go.Lir
set_option linter.unusedVariables false
abbrev PGot (α : Type) := Except Flt (α × List Tok)
/-- A fault where the tokens stand; e: where the text ends. -/
def failAt (e : Nat) (c : Int) : List Tok → Flt
  | [] => (if c = 4 then 5 else c, e)
  | t :: _ => (c, t.at_)
def isT (s : List UInt8) : List Tok → Bool
  | [] => false
  | t :: _ => t.num.isNone && decide (t.text = s)
def want (e : Nat) (s : List UInt8) (l : List Tok) : PGot Unit := if isT s l = true then .ok ((), l.tail) else .error (failAt e 4 l)
abbrev Q5d : List UInt8 := [106, 117, 109, 112]
abbrev tIf : List UInt8 := [105, 102]
abbrev tTo : List UInt8 := [116, 111]
abbrev Q5e : List UInt8 := [101, 108, 115, 101]
abbrev tRet : List UInt8 := [114, 101, 116]
abbrev Q31 : List UInt8 := [98, 108, 111, 99, 107]
abbrev Q4N : List UInt8 := [102, 117, 110, 99]
abbrev Q32 : List UInt8 := [45, 62]
def opWords : List (List UInt8) := [[110, 117, 109], [98, 105, 110], [110, 101, 119], [102, 114, 101, 101], [116, 117, 112, 108, 101], [103, 101, 116], [115, 101, 116], [97, 114, 114, 97, 121], [108, 111, 97, 100], [115, 116, 111, 114, 101], [108, 101, 110], [105, 110], [111, 117, 116], [99, 97, 108, 108]]
def kindWords : List (List UInt8) := [[97, 100, 100], [115, 117, 98], [109, 117, 108], [100, 105, 118], [109, 111, 100], [108, 101, 115, 115], [101, 113], [97, 110, 100], [120, 111, 114]]
def wordN (ws : List (List UInt8)) (k : Int) : List UInt8 := if k < 1 then [] else ws.getD (k.toNat - 1) []
end Go.Lir
namespace Go.Lir
set_option linter.unusedVariables false
def QV (b : List UInt8) (l : List Int) (e : List UInt8) : List UInt8 := b ++ Lib.join (l.map Lib.itoa) [44, 32] ++ e
def Q3c (l : List Ty) : List UInt8 := [40] ++ Lib.join (Tys.txts l) [44, 32] ++ [41]
def To.txt (t : To) : List UInt8 := Lib.itoa t.block ++ [32] ++ QV [60] t.regs [62] ++ [32] ++ QV [40] t.args [41]
/-- What stands behind an instruction's word. -/
def Ins.rest (x : Ins) : List (List UInt8) :=
  if x.op = 1 then [Lib.itoa x.n]
  else if x.op = 2 then [wordN kindWords x.k, Lib.itoa x.a, Lib.itoa x.b]
  else if x.op = 4 ∨ x.op = 11 ∨ x.op = 13 then [Lib.itoa x.a]
  else if x.op = 5 then [Lib.itoa x.a, QV [40] x.args [41]]
  else if x.op = 6 then [Lib.itoa x.a, Lib.itoa x.k]
  else if x.op = 7 then [Lib.itoa x.a, Lib.itoa x.k, Lib.itoa x.b]
  else if x.op = 8 ∨ x.op = 9 then [Lib.itoa x.a, Lib.itoa x.b]
  else if x.op = 10 then [Lib.itoa x.a, Lib.itoa x.b, Lib.itoa x.c]
  else if x.op = 14 then [Lib.itoa x.k, QV [60] x.regs [62], QV [40] x.args [41]]
  else []
def Ins.txt (x : Ins) : List UInt8 := Lib.join (wordN opWords x.op :: x.rest) [32]
def Tail.txt (t : Tail) : List UInt8 :=
  if t.op = 1 then Q5d ++ [32] ++ t.yes.txt
  else if t.op = 2 then tIf ++ [32] ++ Lib.itoa t.a ++ [32] ++ tTo ++ [32] ++ t.yes.txt ++ [32] ++ Q5e ++ [32] ++ t.no.txt
  else tRet ++ [32] ++ QV [40] t.args [41]
def Q1x : List Ins → List UInt8
  | [] => []
  | x :: l => [9] ++ x.txt ++ [59, 10] ++ Q1x l
def Block.txt (b : Block) : List UInt8 := Q31 ++ [32] ++ Lib.itoa b.regs ++ [32] ++ Q3c b.params ++ [32, 123, 10] ++ Q1x b.code ++ [9] ++ b.fin.txt ++ [59, 10, 125, 10]
def QN : List Block → List UInt8
  | [] => []
  | b :: l => b.txt ++ QN l
def Fun.txt (f : Fun) : List UInt8 := Q4N ++ [32] ++ Lib.itoa f.regs ++ [32] ++ Q3c f.params ++ [32] ++ Q32 ++ [32] ++ Q3c f.results ++ [32, 123, 10] ++ QN f.blocks ++ [125, 10]
def Q1D : List Fun → List UInt8
  | [] => []
  | f :: l => f.txt ++ Q1D l
def Module.txt (m : Module) : List UInt8 := Q1D m.funcs
/-! which numbers may be Qak -/
def smallN (n : Int) : Bool := decide (0 ≤ n ∧ n ≤ 1000000)
def smallL (l : List Int) : Bool := l.all smallN
def Ins.small (x : Ins) : Bool := smallL [x.a, x.b, x.c, x.k] && smallL x.regs && smallL x.args
def To.small (t : To) : Bool := smallL t.regs && smallL t.args
def Tail.small (t : Tail) : Bool := smallN t.a && smallL t.args && t.yes.small && t.no.small
def Block.small (b : Block) : Bool := b.code.all Ins.small && b.fin.small
def Fun.small (f : Fun) : Bool := f.blocks.all Block.small
def Module.small (m : Module) : Bool := m.funcs.all Fun.small
def Qak (m : Module) : Except Flt (List UInt8) :=
  if m.fault.1 ≠ 0 then .error m.fault else if m.small = false then .error (8, -1) else if 40000 < m.txt.length then .error (2, -1) else .ok m.txt
end Go.Lir
namespace Go.Lir
set_option linter.unusedVariables false
def Q4D (l : List Int) : Prop := l.length ≤ 16 ∧ ∀ n ∈ l, InI n
def QlN (l : List Ty) : Prop := Tys.nodes l ≤ 40000 ∧ ∀ x ∈ l, x.InR
def To.Pr (t : To) : Prop := InI t.block ∧ Q4D t.regs ∧ Q4D t.args
def Ins.Pr (x : Ins) : Prop := (InI x.op ∧ InI x.a ∧ InI x.b ∧ InI x.c ∧ InI x.k ∧ InI x.n) ∧ Q4D x.regs ∧ Q4D x.args
def Tail.Pr (x : Tail) : Prop := InI x.a ∧ x.yes.Pr ∧ x.no.Pr ∧ Q4D x.args
def Block.Pr (x : Block) : Prop := InI x.regs ∧ QlN x.params ∧ (x.code.length ≤ 40 ∧ ∀ i ∈ x.code, i.Pr) ∧ x.fin.Pr
def Fun.Pr (x : Fun) : Prop := InI x.regs ∧ QlN x.params ∧ QlN x.results ∧ x.blocks.length ≤ 12 ∧ ∀ b ∈ x.blocks, b.Pr
def Module.Pr (m : Module) : Prop := m.funcs.length ≤ 8 ∧ ∀ f ∈ m.funcs, f.Pr
theorem Q1f {n : Int} (h : InI n) : (Lib.itoa n).length ≤ 21 := Lib.itoa_length_le n h.1 h.2
theorem QnM {k : Nat} : ∀ {xs : List (List UInt8)}, (∀ x ∈ xs, x.length ≤ k) → (Lib.joinTail [44, 32] xs).length ≤ (k + 2) * xs.length
  | [], _ => by simp [Lib.joinTail]
  | x :: xs, h => by
    have h1 := h x (List.mem_cons_self ..)
    have h2 := QnM (xs := xs) fun y hy => h y (List.mem_cons_of_mem _ hy)
    rw [List.length_cons, Nat.mul_succ]
    simp only [Lib.joinTail, List.map_cons, List.flatten_cons, List.length_append, List.length_cons, List.length_nil] at h2 ⊢
    omega
theorem join_le {k : Nat} {xs : List (List UInt8)} (h : ∀ x ∈ xs, x.length ≤ k) : (Lib.join xs [44, 32]).length ≤ (k + 2) * xs.length := by
  cases xs with
  | nil => rw [Lib.join_nil]; simp
  | cons x xs =>
    have h1 := h x (List.mem_cons_self ..)
    have h2 := QnM (xs := xs) fun y hy => h y (List.mem_cons_of_mem _ hy)
    rw [Lib.join_cons, List.length_append, List.length_cons, Nat.mul_succ]
    omega
theorem Qlx {l : List Int} (h : Q4D l) : (Lib.join (l.map Lib.itoa) [44, 32]).length ≤ 368 := by
  have := join_le (k := 21) (xs := l.map Lib.itoa) (by intro x hx; obtain ⟨n, hn, rfl⟩ := List.mem_map.1 hx; exact Q1f (h.2 n hn))
  rw [List.length_map] at this
  have := h.1; omega
theorem Q1l {l : List Int} {b e : List UInt8} (h : Q4D l) (hb : b.length = 1) (he : e.length = 1) : (QV b l e).length ≤ 370 := by
  have := Qlx h
  unfold QV
  simp only [List.length_append]; omega
theorem To.txt_le {t : To} (h : t.Pr) : t.txt.length ≤ 763 := by
  have h1 := Q1f h.1
  have h2 := Q1l h.2.1 (b := [60]) (e := [62]) rfl rfl
  have h3 := Q1l h.2.2 (b := [40]) (e := [41]) rfl rfl
  unfold To.txt
  simp only [List.length_append, List.length_cons, List.length_nil]; omega
theorem Q5S {ws : List (List UInt8)} (h : ws.all (fun w => decide (w.length ≤ 6)) = true) (k : Int) : (wordN ws k).length ≤ 6 := by
  unfold wordN
  split
  · simp
  · rw [List.getD_eq_getElem?_getD]
    cases hg : ws[k.toNat - 1]? with
    | none => simp
    | some w => simpa using of_decide_eq_true (List.all_eq_true.1 h w (List.mem_of_getElem? hg))
theorem Q6n (x y : List UInt8) : Lib.join [x, y] [32] = x ++ [32] ++ y := by rw [Lib.join_cons]; simp [Lib.joinTail]
theorem Q6m (x y z : List UInt8) : Lib.join [x, y, z] [32] = x ++ [32] ++ y ++ [32] ++ z := by rw [Lib.join_cons]; simp [Lib.joinTail]
theorem Q6l (x y z u : List UInt8) : Lib.join [x, y, z, u] [32] = x ++ [32] ++ y ++ [32] ++ z ++ [32] ++ u := by rw [Lib.join_cons]; simp [Lib.joinTail]
theorem Ins.txt_le {x : Ins} (h : x.Pr) : x.txt.length ≤ 800 := by
  obtain ⟨⟨h0, h1, h2, h3, h4, h5⟩, h6, h7⟩ := h
  have w1 := Q5S (ws := opWords) (by decide) x.op
  have w2 := Q5S (ws := kindWords) (by decide) x.k
  have g1 := Q1f h1
  have g2 := Q1f h2
  have g3 := Q1f h3
  have g4 := Q1f h4
  have g5 := Q1f h5
  have g6 := Q1l h6 (b := [60]) (e := [62]) rfl rfl
  have g7 := Q1l h7 (b := [40]) (e := [41]) rfl rfl
  unfold Ins.txt Ins.rest
  repeat' split
  all_goals (first | rw [Lib.join_one] | rw [Q6n] | rw [Q6m] | rw [Q6l])
  all_goals ((try simp only [List.length_append, List.length_cons, List.length_nil]); omega)
theorem Tail.txt_le {t : Tail} (h : t.Pr) : t.txt.length ≤ 1600 := by
  have h1 := Q1f h.1
  have h2 := To.txt_le h.2.1
  have h3 := To.txt_le h.2.2.1
  have h4 := Q1l h.2.2.2 (b := [40]) (e := [41]) rfl rfl
  unfold Tail.txt
  repeat' split
  all_goals (simp only [List.length_append, List.length_cons, List.length_nil]; omega)
theorem Q7G : ∀ {l : List Ins}, (∀ i ∈ l, i.Pr) → (Q1x l).length ≤ 803 * l.length
  | [], _ => by simp [Q1x]
  | x :: l, h => by
    have h1 := Ins.txt_le (h x (List.mem_cons_self ..))
    have h2 := Q7G (l := l) fun y hy => h y (List.mem_cons_of_mem _ hy)
    rw [Q1x]
    simp only [List.length_append, List.length_cons, List.length_nil]; omega
theorem Q2r {l : List Ty} (h : QlN l) : (Q3c l).length ≤ 2400002 := by
  have := Tys.join_len l h.2
  have h1 := h.1
  unfold Q3c
  simp only [List.length_append, List.length_cons, List.length_nil]; omega
theorem Block.txt_le {b : Block} (h : b.Pr) : b.txt.length ≤ 2500000 := by
  have h1 := Q1f h.1
  have h2 := Q2r h.2.1
  have h3 := Q7G h.2.2.1.2
  have h4 := h.2.2.1.1
  have h5 := Tail.txt_le h.2.2.2
  unfold Block.txt
  simp only [List.length_append, List.length_cons, List.length_nil]; omega
theorem Q4s : ∀ {l : List Block}, (∀ i ∈ l, i.Pr) → (QN l).length ≤ 2500000 * l.length
  | [], _ => by simp [QN]
  | x :: l, h => by
    have h1 := Block.txt_le (h x (List.mem_cons_self ..))
    have h2 := Q4s (l := l) fun y hy => h y (List.mem_cons_of_mem _ hy)
    rw [QN]
    simp only [List.length_append, List.length_cons]; omega
theorem Fun.txt_le {b : Fun} (h : b.Pr) : b.txt.length ≤ 35000000 := by
  have h1 := Q1f h.1
  have h2 := Q2r h.2.1
  have h3 := Q2r h.2.2.1
  have h4 := h.2.2.2.1
  have h5 := Q4s h.2.2.2.2
  unfold Fun.txt
  simp only [List.length_append, List.length_cons, List.length_nil]; omega
theorem Q7l : ∀ {l : List Fun}, (∀ i ∈ l, i.Pr) → (Q1D l).length ≤ 35000000 * l.length
  | [], _ => by simp [Q1D]
  | x :: l, h => by
    have h1 := Fun.txt_le (h x (List.mem_cons_self ..))
    have h2 := Q7l (l := l) fun y hy => h y (List.mem_cons_of_mem _ hy)
    rw [Q1D]
    simp only [List.length_append, List.length_cons]; omega
theorem QaE : ∀ (l m : List Ins), Q1x (l ++ m) = Q1x l ++ Q1x m
  | [], m => rfl
  | x :: l, m => by rw [List.cons_append, Q1x, Q1x, QaE l m]; simp only [List.append_assoc]
theorem Q6P : ∀ (l m : List Block), QN (l ++ m) = QN l ++ QN m
  | [], m => rfl
  | x :: l, m => by rw [List.cons_append, QN, QN, Q6P l m]; simp only [List.append_assoc]
theorem Qap : ∀ (l m : List Fun), Q1D (l ++ m) = Q1D l ++ Q1D m
  | [], m => rfl
  | x :: l, m => by rw [List.cons_append, Q1D, Q1D, Qap l m]; simp only [List.append_assoc]
/-! ### which modules may be Qak -/
def Qjy : Nat → Nat
  | 0 => 1
  | k + 1 => 1 + 8 * Qjy k
theorem QgJ {b : Nat} : ∀ {l : List Ty}, (∀ t ∈ l, t.nodes ≤ b) → Tys.nodes l ≤ b * l.length
  | [], _ => by simp [Tys.nodes]
  | x :: l, h => by
    have h1 := h x (List.mem_cons_self ..)
    have h2 := QgJ (l := l) fun y hy => h y (List.mem_cons_of_mem _ hy)
    rw [Tys.nodes, List.length_cons, Nat.mul_succ]; omega
theorem Qmu (n : Int) : ∀ (k : Nat) (t : Ty), t.deepB k = true → t.wrong 8 n = 0 → t.nodes ≤ Qjy k
  | k, .mk kd r l, hd, hw => by
    obtain ⟨w1, w2, w3, w4, w5⟩ := Ty.wrong_parts hw
    rw [Ty.deepB] at hd
    split at hd; · cases hd
    have h6 := QmO hd
    rw [Ty.nodes]
    match k with
    | 0 =>
      cases l with
      | nil => rw [Tys.nodes, Qjy]; omega
      | cons x l =>
        have := h6 x (List.mem_cons_self ..)
        obtain ⟨a, b, c⟩ := x
        rw [Ty.deepB, if_pos (by omega)] at this
        cases this
    | k + 1 =>
      have := QgJ (b := Qjy k) (l := l) fun t ht => Qmu n k t (by rw [show (k : Int) = ((k + 1 : Nat) : Int) - 1 by omega]; exact h6 t ht) (w5 t ht)
      have h8 := Nat.mul_le_mul_left (Qjy k) w4
      rw [Qjy]; omega
theorem QnK {l : List Ty} {n : Int} (hr : ∀ t ∈ l, t.InR) (h : Qm l n = 0) : QlN l := by
  unfold Qm at h
  split at h; · cases h
  refine ⟨?_, hr⟩
  have := QgJ (b := Qjy 4) (l := l) fun t ht => by
    have h1 := Q9o h t ht
    unfold Ty.fault at h1
    split at h1; · cases h1
    exact Qmu n 4 t (by simpa using ‹¬ t.deepB 4 = false›) h1
  have e : Qjy 4 = 4681 := by decide
  rw [e] at this
  omega
theorem to_pr {n : Nat} {t : To} {is : Bool} (hr : t.InR) (h : Q1S n t is = 0) : t.Pr := by
  obtain ⟨h1, h2, h3⟩ := hr
  unfold Q1S at h
  split at h
  · split at h; · cases h
    exact ⟨h1, ⟨by omega, h2⟩, by omega, h3⟩
  · split at h; · cases h
    split at h; · cases h
    exact ⟨h1, ⟨by omega, h2⟩, by omega, h3⟩
theorem end_pr {n : Nat} {e : Tail} (hr : e.InR) (h : Q2k n e = 0) : e.Pr := by
  obtain ⟨h1, h2, h3, h4, h5⟩ := hr
  unfold Q2k at h
  split at h; · cases h
  split at h; · cases h
  split at h; · cases h
  unfold orC at h
  split at h
  · rename_i h0; exact absurd h h0
  rename_i q1 q2 q3 h0
  exact ⟨h2, to_pr h3 (Classical.not_not.1 h0), to_pr h4 h, by omega, h5⟩
theorem ins_pr {n : Nat} {x : Ins} (hr : x.InR) (h : Q1I n x = 0) : x.Pr := by
  obtain ⟨h1, h2, h3⟩ := hr
  unfold Q1I at h
  split at h; · cases h
  rename_i ho
  split at h; · cases h
  rename_i hod
  unfold Ins.odd at hod
  refine ⟨h1, ?_⟩
  unfold Q1H at h
  rcases op_cases (op := x.op) (by omega) (by omega) with e | e | e | e | e | e | e | e | e | e | e | e | e | e <;> rw [e] at h hod <;> simp [fG, fR] at hod h
  all_goals (refine ⟨⟨?_, h2⟩, ?_, h3⟩ <;> first | omega | simp [hod])
theorem mod_pr {m : Module} (hr : m.InR) (h : m.fault.1 = 0) : m.Pr := by
  refine ⟨?_, fun f hf => ?_⟩
  · apply Classical.byContradiction
    intro h9
    unfold Module.fault at h
    rw [if_pos (by omega), Q3F (by rw [Q1C]; decide), Q1C] at h
    cases h
  obtain ⟨i, hi⟩ := List.mem_iff_getElem?.1 hf
  obtain ⟨g1, g2, g3, g4⟩ := hr f hf
  obtain ⟨_, _, e1, e2, _, e3⟩ := QlC (QoA h hi)
  refine ⟨g1, QnK g2 e1, QnK g3 e2, e3, fun b hb => ?_⟩
  obtain ⟨j, hj⟩ := List.mem_iff_getElem?.1 hb
  obtain ⟨k1, k2, k3⟩ := QlD h hi hj
  obtain ⟨_, _, e3, _, e4⟩ := QlK k1
  obtain ⟨r1, r2, r3, r4⟩ := g4 b hb
  exact ⟨r1, QnK r2 e3, ⟨e4, fun x hx => ins_pr (r3 x hx) (k2 x hx)⟩, end_pr r4 k3⟩
/-! ### a list's text as it grows -/
def Q2O {α : Type} (f : α → List UInt8) (l : List α) (j : Nat) : List UInt8 := Lib.join ((l.take j).map f) [44, 32]
theorem joinTo_0 {α : Type} (f : α → List UInt8) (l : List α) : Q2O f l 0 = [] := by unfold Q2O; rw [List.take_zero]; rfl
theorem QmJ {α : Type} {f : α → List UInt8} {l : List α} {j : Nat} {x : α} (hj : j = 0) (h : l[j]? = some x) : Q2O f l (j + 1) = Q2O f l j ++ f x := by
  subst hj
  unfold Q2O
  rw [List.take_add_one, h, List.take_zero]
  show Lib.join [f x] _ = _
  rw [Lib.join_one]; rfl
theorem QmI {α : Type} {f : α → List UInt8} {l : List α} {j : Nat} {x : α} (hj : 0 < j) (h : l[j]? = some x) : Q2O f l (j + 1) = Q2O f l j ++ [44, 32] ++ f x := by
  have hlt := (List.getElem?_eq_some_iff.1 h).1
  unfold Q2O
  rw [List.take_add_one, h, List.map_append]
  exact QjF (by intro hc; have h0 : ((l.take j).map f).length = 0 := (by rw [hc]; rfl); rw [List.length_map, List.length_take] at h0; omega)
theorem Qne {α : Type} {f : α → List UInt8} {l : List α} {j : Nat} (h : l.length ≤ j) : Q2O f l j = Lib.join (l.map f) [44, 32] := by
  unfold Q2O; rw [List.take_of_length_le h]
theorem Qoq {l : List Int} (h : Q4D l) (j : Nat) : (Q2O Lib.itoa l j).length ≤ 368 := by
  have h2 : Q4D (l.take j) := ⟨by have := h.1; rw [List.length_take]; omega, fun n hn => h.2 n (List.mem_of_mem_take hn)⟩
  exact Qlx h2
end Go.Lir
namespace Go.Lir
set_option linter.unusedVariables false
section
variable {P : Program} {l : List GO} {Q : QT} {ρ : Env} {w : World} {c : Cx} {L : List Res} {v : Value}
theorem s_pne_f {d T te n : Nat} {x y : Operand} {a : Addr} (hp : P.underlying T = some (.pointer te)) (hsz : Q2M P te = some n) (hx : ρ.ev x = .pointer (some a)) (hy : ρ.ev y = .pointer (some a))
    (h : Q3 P l Q (upd ρ d (.bool false)) w) : Q3 P (⟨none, .bin d .neq T x y⟩ :: l) Q ρ w :=
  ⟨_, fun w0 => by
    rw [hx, hy]
    obtain ⟨j, hte, _⟩ := Option.map_eq_some_iff.1 hsz
    have := Lib.run_neq_ptr_same w0 a hp hte
    simp [eqGuard, this], h⟩
/-- A closure, with what it holds. -/
theorem QnR {d f : Nat} {caps : List Operand} {u : List Value} (hu : caps.map ρ.ev = u) (h : Q3 P l Q (upd ρ d (.func (.func f) #[] ⟨u⟩)) w) : Q3 P (⟨none, .mkfn d f caps⟩ :: l) Q ρ w := by
  subst hu; exact h
theorem QaG {H : Heap} {b T : Nat} {cs : List Value} {w : World} (h : Blk w.heap b T cs) : w.shape? b = some (T, cs.length) := by
  obtain ⟨fz, h1, _⟩ := h
  simp [World.shape?, h1]
theorem s_toU {d T U t Ty n : Nat} {x : Operand} {i b : Nat} {cs : List Value} {T0 : TypeId} (hs : P.underlying T = some (.pointer t)) (hd : P.underlying U = some .unsafePointer) (hsz : Q2M P t = some (n + 1)) (hS : St c w L)
    (hi : nth L i = some (blk b T0 cs)) (hc : 0 < cs.length) (hx : ρ.ev x = .pointer (some ⟨b, 0, none⟩)) (h : Q3 P l Q (upd ρ d (.pointer (some ⟨b, 0, none⟩))) w) : Q3 P (⟨none, .raw ⟨some d, .convert T U x, Ty, "", #[], none⟩⟩ :: l) Q ρ w := by
  refine QI (v := .pointer (some ⟨b, 0, none⟩)) (w' := w) ?_ h
  obtain ⟨j, ht, hj⟩ : ∃ j, P.info? t = some j ∧ j.size ≠ 0 := by
    unfold Q2M at hsz
    rw [Option.map_eq_some_iff] at hsz
    obtain ⟨j, h1, h2⟩ := hsz
    exact ⟨j, h1, by omega⟩
  have hb := hS.blkAt hi
  have := Lib.run_to_unsafe (P := P) (w := w) ⟨b, 0, none⟩ hs hd ht hj (QaG (H := w.heap) hb) hc
  simp only [execOp, hx, Sem.run_bind, this]
  rfl
theorem s_fromU {d T U u Ty n : Nat} {x : Operand} {i b : Nat} {cs : List Value} {T0 : TypeId} (hs : P.underlying T = some .unsafePointer) (hd : P.underlying U = some (.pointer u)) (hsz : Q2M P u = some n) (hS : St c w L)
    (hi : nth L i = some (blk b T0 cs)) (hl : liesAt P P.depth T0 (cs.length / P.cellsOf T0) 0 u 1 = true) (hx : ρ.ev x = .pointer (some ⟨b, 0, none⟩)) (h : Q3 P l Q (upd ρ d (.pointer (some ⟨b, 0, none⟩))) w) : Q3 P (⟨none, .raw ⟨some d, .convert T U x, Ty, "", #[], none⟩⟩ :: l) Q ρ w := by
  refine QI (v := .pointer (some ⟨b, 0, none⟩)) (w' := w) ?_ h
  obtain ⟨j, hu, _⟩ := Option.map_eq_some_iff.1 hsz
  have hb := hS.blkAt hi
  have := Lib.run_from_unsafe (P := P) (w := w) ⟨b, 0, none⟩ hs hd hu (QaG (H := w.heap) hb) hl
  simp only [execOp, hx, Sem.run_bind, this]
  rfl
theorem s_noesc {d f U Ty : Nat} {x : Operand} {fn : Func} (hf : P.funcs[f]? = some fn) (hname : (fn.name == "runtime.NumGoroutine") = false) (hb : fn.body.isNone = true) (hn : Extern.findNext fn = none) (he : Extern.find fn = some Extern.AbiNoEscape.same) (hx : ρ.ev x = v)
    (h : Q3 P l Q (upd ρ d v) w) : Q3 P (⟨none, .raw ⟨some d, .call ⟨.value (.func f), #[x], #[U]⟩, Ty, "", #[], none⟩⟩ :: l) Q ρ w := by
  refine QI (v := v) (w' := w) ?_ h
  have hr := run_callFunc_extern (P := P) hf hname hb hn he #[v] w
  have h9 : (Extern.AbiNoEscape.same #[v]).run P w = .ok v w := rfl
  rw [h9] at hr
  have e0 : ρ.ev (.func f) = .func (.func f) #[] #[] := rfl
  have e1 : (#[x].map ρ.ev) = #[v] := by simp [hx]
  have e2 : (resolve ρ.ev ⟨.value (.func f), #[x], #[U]⟩ Ty).run P w = .ok ⟨.fn (.func f) #[], #[v]⟩ w := by
    simp [resolve, Deferred.ofValue, e0, hx]
  simp only [execOp, Sem.run_bind, e2, Result.andThen_ok, invoke]
  simpa [callFunc] using hr
/-- What a string may give to be appended. -/
theorem src_str (w : World) (t : List UInt8) : Src P w 1 (.string ⟨t.toArray⟩) (t.map Q2p) := by
  have hf : (t.map Q2p).flatten = Lib.byteCells t := by
    induction t with
    | nil => rfl
    | cons x t ih => rw [List.map_cons, List.flatten_cons, ih]; rfl
  refine ⟨?_, ?_, ?_, fun w' _ => ?_⟩
  · have e : (⟨t.toArray⟩ : ByteArray).size = t.length := Qlc t
    simp [Builtin.lenOf, e]
  · intro c hc; obtain ⟨x, _, rfl⟩ := List.mem_map.1 hc; rfl
  · intro c hc u hu; obtain ⟨x, _, rfl⟩ := List.mem_map.1 hc; simp [Q2p] at hu; subst hu; rfl
  · have := Lib.run_firstCells_string (P := P) w' 1 ⟨t.toArray⟩
    rw [Lib.strCells_eq, Qlc] at this
    rw [List.length_map, hf]
    exact this
/-- append(b, s...) -/
theorem s_appStr {d Ts Ts2 Ty T nb i : Nat} {z : List Value} {x y : Operand} {css : List (List Value)} {t : List UInt8} (hel : Q2u P Ts = some (T, 1, nb, z)) (hts : P.underlying Ts2 = some .string) (hS : St c w L) (hx : ρ.ev x = v) (hy : ρ.ev y = .string ⟨t.toArray⟩)
    (hi : nth L i = some (sl T 1 v css)) (hb : (css.length + t.length) * nb ≤ 140737488355328)
    (h : ∀ v' w', St c w' (L.set i (sl T 1 v' (css ++ t.map Q2p))) → Q3 P l Q (upd ρ d v') w') : Q3 P (⟨none, .raw ⟨some d, .call ⟨.builtin .append, #[x, y], #[Ts, Ts2]⟩, Ty, "", #[], none⟩⟩ :: l) Q ρ w :=
  Qmx hel (.inr hts) hS hx hy hi (src_str w t) (by rw [List.length_map]; exact hb) h
theorem QjD {e : TypeId} (hc : P.cellsOf e = 1) (count off n : Nat) (hn : off + n ≤ count) : liesAt P P.depth e count off e n = true := by
  have hd : P.depth = (2 * (P.types.size + Made.depth) + 1) + 1 := rfl
  rw [hd]
  simp only [liesAt, Bool.or_eq_true]
  left
  rw [hd]
  simp [rowAt, hc, hn, sameLayout, Nat.mod_one]
/-- unsafe.SliceData and unsafe.String of own bytes: they are the string, and no more one's own. -/
theorem s_sdata {d T Ty n cp : Nat} {x : Operand} {a : Addr} (hx : ρ.ev x = .slice (some a) n cp) (hc : cp ≠ 0) (h : Q3 P l Q (upd ρ d (.pointer (some a))) w) : Q3 P (⟨none, .raw ⟨some d, .call ⟨.builtin .unsafeSliceData, #[x], #[T]⟩, Ty, "", #[], none⟩⟩ :: l) Q ρ w := by
  refine QI (v := .pointer (some a)) (w' := w) ?_ h
  have := Lib.run_unsafeSliceData_row (P := P) w #[T] Ty a n cp hc
  simp only [execOp, resolve, Sem.run_bind, Sem.run_pure, Result.andThen_ok, invoke, builtin]
  have e1 : (#[x].map ρ.ev) = #[.slice (some a) n cp] := by simp [hx]
  rw [e1, this]; rfl
theorem run_ustr (pt it ty e : TypeId) (hp : P.underlying pt = some (.pointer e)) (hc : P.cellsOf e = 1) (g off cells : Nat) (hsh : w.shape? g = some (e, cells)) (l : List UInt8) (h0 : l ≠ []) (hn : off + l.length ≤ cells) (h63 : l.length ≤ 9223372036854775807)
    (hcell : ∀ j x, l[j]? = some x → w.cell? ((⟨g, off, none⟩ : Addr).add j) = some (.int .u8 x.toNat)) :
    (Builtin.unsafeString_ #[pt, it] ty #[.pointer (some ⟨g, off, none⟩), .int .i64 l.length]).run P w = .ok (.string ⟨l.toArray⟩) (w.freeze ⟨g, off, none⟩ l.length) := by
  have hl : l.length ≠ 0 := by simpa using h0
  have hlb := Lib.run_loadBytes (P := P) w l ⟨g, off, none⟩ .empty hcell
  have hlies := QjD (P := P) hc (cells / P.cellsOf e) off l.length (by rw [hc]; simpa using hn)
  have h63' : ¬ (9223372036854775807 : Int) < (l.length : Int) := by omega
  have hdef : Builtin.unsafeString_ #[pt, it] ty #[.pointer (some ⟨g, off, none⟩), .int .i64 l.length] =
      (do
        let n ← asInt (.int .i64 l.length)
        if n < 0 then runtimePanic (.error "unsafe.String: len out of range")
        if n > IntKind.i64.max then unsupported (.unsafePointer "String: a length above the largest int")
        if n = 0 then pure (.string .empty)
        else if ← variablesAt ⟨g, off, none⟩ (← elemOf pt) n.toNat then do
          let s ← loadBytes ⟨g, off, none⟩ .empty n.toNat
          freeze ⟨g, off, none⟩ n.toNat
          pure (.string s)
        else unsupported (.unsafePointer "String: not so many bytes at ptr")) := rfl
  rw [hdef]
  have hmax : IntKind.i64.max = 9223372036854775807 := rfl
  have hneg : ¬ (l.length : Int) < 0 := by omega
  simp [asInt, asIntOf, hmax, h63', hneg, hl, variablesAt, hsh, elemOf, run_underlying hp, hlies, hlb]
theorem Qoy (w : World) (a : Addr) (n : Nat) : Fr (· = a.block) w (w.freeze a n) := by
  unfold World.freeze
  split
  · exact (Fr.refl _ _)
  · refine ⟨rfl, rfl, rfl, by simp, fun b hb hne => ?_⟩
    simp only
    rw [Array.getElem?_modify, if_neg (fun e => hne e.symm)]
theorem s_ustr {d pt it Ty e i g off cp : Nat} {x y : Operand} {t : List UInt8} (hp : P.underlying pt = some (.pointer e)) (hc : P.cellsOf e = 1) (hS : St c w L) (hi : nth L i = some (sl e 1 (.slice (some ⟨g, off, none⟩) t.length cp) (t.map Q2p))) (h0 : t ≠ []) (h63 : t.length ≤ 140737488355328)
    (hx : ρ.ev x = .pointer (some ⟨g, off, none⟩)) (hy : ρ.ev y = .int .i64 t.length)
    (h : ∀ w', St c w' (L.set i emp) → Q3 P l Q (upd ρ d (.string ⟨t.toArray⟩)) w') : Q3 P (⟨none, .raw ⟨some d, .call ⟨.builtin .unsafeString, #[x, y], #[pt, it]⟩, Ty, "", #[], none⟩⟩ :: l) Q ρ w := by
  obtain ⟨F, hr, hd, hst⟩ := hS.step hi
  obtain ⟨h1, ⟨h2, _⟩ | ⟨b, o, cap, arr, h2, h3, h4, h5, h6, h7⟩⟩ := hr
  · cases h2
  · simp only [Value.slice.injEq, Option.some.injEq, Addr.mk.injEq] at h2
    obtain ⟨⟨rfl, rfl, _⟩, h8, rfl⟩ := h2
    rw [List.length_map] at h3
    have hcell : ∀ j z, t[j]? = some z → w.cell? ((⟨g, off, none⟩ : Addr).add j) = some (.int .u8 z.toNat) := by
      intro j z hj
      have hlt := (List.getElem?_eq_some_iff.1 hj).1
      have h9 := h6 j (by rw [List.length_map]; omega)
      have hf : (t.map Q2p).flatten[j]? = some (.int .u8 z.toNat) := by
        have := Q3R h1 (m := j) (j := 0) (c := Q2p z) (by rw [List.getElem?_map, hj]; rfl) (by decide)
        rw [Nat.mul_one, Nat.add_zero] at this
        rw [this]; rfl
      rw [hf] at h9
      rw [Q1M]
      exact h4.cell h9
    have hrun := run_ustr (P := P) (w := w) pt it Ty e hp hc g off arr.length (QaG (H := w.heap) h4) t h0 (by omega) (by omega) hcell
    refine QI (v := .string ⟨t.toArray⟩) (w' := w.freeze ⟨g, off, none⟩ t.length) ?_ ?_
    · simp only [execOp, resolve, Sem.run_bind, Sem.run_pure, Result.andThen_ok, invoke, builtin]
      have e1 : (#[x, y].map ρ.ev) = #[.pointer (some ⟨g, off, none⟩), .int .i64 t.length] := by simp [hx, hy]
      rw [e1, hrun]; rfl
    · refine h _ (hst _ (fun _ => False) emp (fun _ h => h) ⟨?_, fun _ h => h.elim⟩)
      exact (Qoy w ⟨g, off, none⟩ t.length).mono fun b _ hb => (h7 b).2 hb
end
end Go.Lir
namespace Go.Proofs.YtjecflbbcnocdaaGreatDoor
open Go.Lir
set_option maxHeartbeats 1000000
attribute [local irreducible] LC.wp Q3 QW Q13 retQ Q2i LO.wp Qv Calls
set_option linter.unusedSimpArgs false
set_option linter.unusedVariables false
variable {cx : Cx} {w : World} {L : List Res}
/-- A builder, its bytes. -/
@[reducible] def bldr (b : Nat) (p v : Value) : Res := blk b 107 [p, v]
theorem bcheck_c {b : Nat} {p v : Value} (hp : p = .pointer none ∨ p = .pointer (some ⟨b, 0, none⟩)) (hS : St cx w (bldr b p v :: L)) :
    Rets Tryz.prog Q28 [.pointer (some ⟨b, 0, none⟩)] w fun u w' => u = .tuple #[] ∧ St cx w' (bldr b (.pointer (some ⟨b, 0, none⟩)) v :: L) := by
  rcases hp with rfl | rfl
  · skip
    all_goals refine Q1J ?_
    all_goals (unfold strings_Builder_copyCheck_lc; refine Q0 ?_; refine Q2 ?_; refine zm ?_; refine Q1L rfl ?_; refine Q1 rfl ?_; refine zl hS ?_; refine s_pnil_t (e := 107) (by kernel_rfl) rfl rfl ?_; refine zn ?_)
    all_goals refine Q5 rfl ?_
    all_goals (refine Q2 ?_; refine zm ?_; refine zm ?_; refine s_toU (t := 107) (n := 1) (by kernel_rfl) (by kernel_rfl) (by kernel_rfl) hS fd (by show 0 < 2; omega) rfl ?_; refine s_noesc Tryz.func139 (by kernel_rfl) (by kernel_rfl) (by kernel_rfl) (by kernel_rfl) rfl ?_; refine s_fromU (u := 107) (n := 2) (by kernel_rfl) (by kernel_rfl) (by kernel_rfl) hS fd (by kernel_rfl) rfl ?_; refine Q1L rfl ?_; refine Q1 rfl ?_; refine zst hS ?_; intro w1 hS; have hS := hS.ns; refine zn ?_; refine Q3U ?_; exact ⟨_, rfl, rfl, hS.sp⟩)
  · skip
    all_goals refine Q1J ?_
    all_goals (unfold strings_Builder_copyCheck_lc; refine Q0 ?_; refine Q2 ?_; refine zm ?_; refine Q1L rfl ?_; refine Q1 rfl ?_; refine zl hS ?_; refine s_pnil_f (e := 107) (by kernel_rfl) rfl rfl ?_; refine zn ?_)
    all_goals refine Q4 rfl ?_
    all_goals (refine Q0 ?_; refine Q2 ?_; refine zm ?_; refine Q1L rfl ?_; refine Q1 rfl ?_; refine zl hS ?_; refine zm ?_; refine s_pne_f (te := 107) (n := 2) (by kernel_rfl) (by kernel_rfl) rfl rfl ?_; refine zn ?_)
    all_goals refine Q4 rfl ?_
    all_goals (refine zsk ?_; refine Q3U ?_; exact ⟨_, rfl, rfl, hS.sp⟩)
theorem bwrite_c {b : Nat} {p v : Value} {t s : List UInt8} (hp : p = .pointer none ∨ p = .pointer (some ⟨b, 0, none⟩)) (hn : t.length + s.length ≤ 140737488355328) (hS : St cx w (bldr b p v :: sl 5 1 v (t.map Q2p) :: L)) :
    Rets Tryz.prog Q1o [.pointer (some ⟨b, 0, none⟩), .string ⟨s.toArray⟩] w fun u w' => (∃ v', u = .tuple #[.int .i64 s.length, .nilIface] ∧ oneC v' = true ∧ St cx w' (bldr b (.pointer (some ⟨b, 0, none⟩)) v' :: sl 5 1 v' ((t ++ s).map Q2p) :: L)) := by
  all_goals refine Q2I ?_
  all_goals (unfold strings_Builder_WriteString_lc; refine Q0 ?_; refine Q2 ?_; refine zm ?_; refine zm ?_; refine zn ?_; refine Q0 ?_; refine Q2 ?_; refine zm ?_; refine zR1 (c := bcheck_c hp hS) (h := ?_); rintro v1 w1 ⟨rfl, hS⟩; refine zn ?_; refine Q0 ?_; refine Q2 ?_; refine zm ?_; refine zm ?_; refine Q1L rfl ?_; refine Q1 rfl ?_; refine zl hS ?_; refine zm ?_; refine s_appStr el_T105 (by kernel_rfl) hS vw vw (i := 1) rfl (by rw [List.length_map]; omega) ?_; intro v2 w2 hS; have hS : St cx w2 (bldr b (.pointer (some ⟨b, 0, none⟩)) v :: sl 5 1 v2 (t.map Q2p ++ s.map Q2p) :: L) := hS; have ho := hS.oneC (i := 1) rfl; refine Q1L rfl ?_; refine Q1 rfl ?_; refine zst hS ?_; intro w1 hS; have hS := hS.ns; refine zn ?_; refine Q0 ?_; refine Q2 ?_; refine zm ?_; refine Qle rfl ?_; refine zm ?_; refine zm ?_; refine zn ?_; refine zr ?_; refine zf2 ?_; exact ⟨_, rfl, v2, rfl, ho, by rw [List.map_append]; exact hS.sp⟩)
theorem Q6O {b : Nat} {p v : Value} {t s : List UInt8} (hp : p = .pointer none ∨ p = .pointer (some ⟨b, 0, none⟩)) (hn : t.length + s.length ≤ 140737488355328) (hS : St cx w (bldr b p v :: sl 5 1 v (t.map Q2p) :: L)) :
    Rets Tryz.prog Q1o [.pointer (some ⟨b, 0, none⟩), .string ⟨s.toArray⟩] w fun u w' => (∃ v' t', t' = t ++ s ∧ u = .tuple #[.int .i64 s.length, .nilIface] ∧ oneC v' = true ∧ St cx w' (bldr b (.pointer (some ⟨b, 0, none⟩)) v' :: sl 5 1 v' (t'.map Q2p) :: L)) :=
  (bwrite_c hp hn hS).mono fun _ _ ⟨v', h1, h2, h3⟩ => ⟨v', _, rfl, h1, h2, h3⟩
theorem QoG {b : Nat} {p v : Value} {t : List UInt8} (h0 : t ≠ []) (hn : t.length ≤ 140737488355328) (hS : St cx w (bldr b p v :: sl 5 1 v (t.map Q2p) :: L)) :
    Rets Tryz.prog Q2y [.pointer (some ⟨b, 0, none⟩)] w fun u w' => u = .string ⟨t.toArray⟩ ∧ St cx w' L := by
  obtain ⟨g, off, cp, rfl, hcp⟩ : ∃ g off cp, v = .slice (some ⟨g, off, none⟩) t.length cp ∧ cp ≠ 0 := by
    obtain ⟨F, hr, _⟩ := hS.step (i := 1) rfl
    obtain ⟨h1, ⟨h2, h3, _⟩ | ⟨b, o, cap, arr, h2, h3, _⟩⟩ := hr
    · exact absurd (List.map_eq_nil_iff.1 h3) h0
    · rw [List.length_map] at h2 h3
      exact ⟨b, o, cap, h2, by have := List.length_pos_iff.2 h0; omega⟩
  all_goals refine Q3p ?_
  all_goals (unfold strings_Builder_String_lc; refine Q0 ?_; refine Q2 ?_; refine zm ?_; refine zn ?_; refine Q0 ?_; refine zC [(0, none), (1, none), (2, none), (3, none), (5, none), (6, none), (7, none), (8, none), (9, none), (4, some (some [8])), (10, some none), (11, some none)] ?_; have hS := hS.drew; refine s_cq ?_; refine zm ?_; refine zt ?_; refine s_cq ?_; refine Q1L rfl ?_; refine zt ?_; refine s_cq ?_; refine Q1 rfl ?_; refine zt ?_; refine s_cq ?_; refine zl hS ?_; refine zt ?_; refine s_cq ?_; refine zm ?_; refine zt ?_; refine s_cq ?_; refine Q1L rfl ?_; refine zt ?_; refine s_cq ?_; refine Q1 rfl ?_; refine zt ?_; refine s_cq ?_; refine zl hS ?_; refine zt ?_; refine s_cq ?_; (first | (refine zL ?_) | (refine zLe hS ?_)); refine zt ?_; refine Qx ?_; refine s_sdata rfl hcp ?_; refine zt ?_; refine zy ?_; refine s_cf ?_; refine s_ustr (e := 5) (by kernel_rfl) (by kernel_rfl) hS (i := 1) rfl h0 hn rfl rfl ?_; intro w2 hS; have hS : St cx w2 (bldr b p (.slice (some ⟨g, off, none⟩) t.length cp) :: emp :: L) := hS; refine zt ?_; refine s_cf ?_; refine zm ?_; refine zt ?_; refine zcn ?_; refine zr ?_; refine zf ?_; refine ⟨_, rfl, ?_, hS.sp⟩; exact rfl; done)
end Go.Proofs.YtjecflbbcnocdaaGreatDoor
namespace Go.Proofs.YtjecflbbcnocdaaGreatDoor
open Go.Lir
set_option maxHeartbeats 1000000
attribute [local irreducible] LC.wp Q3 QW Q13 retQ Q2i LO.wp Qv Calls
set_option linter.unusedSimpArgs false
set_option linter.unusedVariables false
attribute [local irreducible] Lib.itoa Lib.join
variable {cx : Cx} {w : World} {L : List Res}
abbrev strV (t : List UInt8) : Value := .string ⟨t.toArray⟩
theorem Qmt {ws : List (List UInt8)} {k : Int} (h1 : 1 ≤ k) (h2 : k ≤ ws.length) : (([] :: ws).map strV)[k.toNat]? = some (strV (wordN ws k)) := by
  obtain ⟨n, rfl⟩ : ∃ n : Nat, k = (n : Int) + 1 := ⟨(k - 1).toNat, by omega⟩
  rw [List.map_cons, show ((n : Int) + 1).toNat = n + 1 by omega, List.getElem?_cons_succ, List.getElem?_map]
  unfold wordN
  rw [if_neg (by omega), List.getD_eq_getElem?_getD, show ((n : Int) + 1).toNat - 1 = n by omega, List.getElem?_eq_getElem (by omega)]; rfl
theorem Qjf {ws : List (List UInt8)} {k : Int} (h1 : 1 ≤ k) (h2 : k ≤ ws.length) : (ws.map strV)[(k - 1).toNat]? = some (strV (wordN ws k)) := by
  obtain ⟨n, rfl⟩ : ∃ n : Nat, k = (n : Int) + 1 := ⟨(k - 1).toNat, by omega⟩
  rw [show ((n : Int) + 1 - 1).toNat = n by omega, List.getElem?_map]
  unfold wordN
  rw [if_neg (by omega), List.getD_eq_getElem?_getD, show ((n : Int) + 1).toNat - 1 = n by omega, List.getElem?_eq_getElem (by omega)]; rfl
theorem Q9d {ws : List (List UInt8)} {k : Int} (h : k < 1 ∨ ws.length < k) : wordN ws k = [] := by
  unfold wordN
  split
  · rfl
  · rw [List.getD_eq_getElem?_getD, List.getElem?_eq_none (by omega)]; rfl
theorem popw_c {k : Int} (hS : St cx w L) : Rets Tryz.prog QmD [.int .i64 k] w fun u w' => u = strV (wordN opWords k) ∧ St cx w' L := by
  have hlen : opWords.length = 14 := rfl
  by_cases hb : k < 0 ∨ 14 < k
  · rw [Q9d (by omega)]
    all_goals refine Q5o ?_
    all_goals (unfold parse_Op_lc; refine Q0 ?_; refine Q2 ?_; refine zm ?_; refine zn ?_; refine Q0 ?_; refine Q0 ?_; refine Q2 ?_; refine zm ?_)
    all_goals (first | (refine Q1z ?_) | (refine Q1A ?_) | (refine QK rfl rfl (fun hc => ?_) (fun hc => ?_)))
    all_goals (refine zm ?_; (first | refine s_gn rfl rfl ?_ | (refine s_gy rfl ?_; refine zm ?_)))
    all_goals (first | refine s_gn rfl rfl ?_ | (refine s_gy rfl ?_; refine Qz ?_))
    all_goals ((first | (refine zpt ?_) | (refine zpf ?_)); refine zn ?_)
    all_goals refine Q5 rfl ?_
    all_goals (refine Q0 ?_; refine Q2 ?_; refine zm ?_; refine zn ?_; refine zr ?_; refine zf ?_; refine ⟨_, rfl, ?_, hS.sp⟩; (rfl); done)
  · by_cases h0 : k = 0
    · subst h0
      all_goals refine Q5o ?_
      all_goals (unfold parse_Op_lc; refine Q0 ?_; refine Q2 ?_; refine zm ?_; refine zn ?_; refine Q0 ?_; refine Q0 ?_; refine Q2 ?_; refine zm ?_)
      all_goals (first | (refine Q1z ?_) | (refine Q1A ?_))
      all_goals (refine zm ?_; (first | refine s_gn rfl rfl ?_ | (refine s_gy rfl ?_; refine zm ?_)))
      all_goals (first | refine s_gn rfl rfl ?_ | (refine s_gy rfl ?_; (first | (refine Qz ?_) | (refine QF ?_))))
      all_goals ((first | (refine zpt ?_) | (refine zpf ?_)); refine zn ?_)
      all_goals refine Q4 rfl ?_
      all_goals (refine zsk ?_; refine Q0 ?_; refine Q2 ?_; refine Q9I (cs := [_, _, _, _, _, _, _, _, _, _, _, _, _, _, _]) vw vw vw vw vw vw vw vw vw vw vw vw vw vw vw (by rfl) ?_; refine zm ?_; refine Qjm (n := 15) (e := 9) (by kernel_rfl) (by kernel_rfl) (by kernel_rfl) vw vw (by omega) (by omega) (show ((([] :: opWords).map strV)[(0 : Int).toNat]? = some (strV [])) from rfl) ?_; refine zm ?_; refine zn ?_; refine zr ?_; refine zf ?_; refine ⟨_, rfl, ?_, hS.sp⟩; (rfl); done)
    · have hu := Qmt (ws := opWords) (k := k) (by omega) (by omega)
      generalize wordN opWords k = s at hu ⊢
      all_goals refine Q5o ?_
      all_goals (unfold parse_Op_lc; refine Q0 ?_; refine Q2 ?_; refine zm ?_; refine zn ?_; refine Q0 ?_; refine Q0 ?_; refine Q2 ?_; refine zm ?_)
      all_goals (first | (refine Q1z ?_) | (refine Q1A ?_))
      all_goals (refine zm ?_; (first | refine s_gn rfl rfl ?_ | (refine s_gy rfl ?_; refine zm ?_)))
      all_goals (first | refine s_gn rfl rfl ?_ | (refine s_gy rfl ?_; (first | (refine Qz ?_) | (refine QF ?_))))
      all_goals ((first | (refine zpt ?_) | (refine zpf ?_)); refine zn ?_)
      all_goals refine Q4 rfl ?_
      all_goals (refine zsk ?_; refine Q0 ?_; refine Q2 ?_; refine Q9I (cs := [_, _, _, _, _, _, _, _, _, _, _, _, _, _, _]) vw vw vw vw vw vw vw vw vw vw vw vw vw vw vw (by rfl) ?_; refine zm ?_; refine Qjm (n := 15) (e := 9) (by kernel_rfl) (by kernel_rfl) (by kernel_rfl) vw vw (by omega) (by omega) hu ?_; refine zm ?_; refine zn ?_; refine zr ?_; refine zf ?_; refine ⟨_, rfl, ?_, hS.sp⟩; (rfl); done)
theorem pkindw_c {k : Int} (hS : St cx w L) : Rets Tryz.prog Qfj [.int .i64 k] w fun u w' => u = strV (wordN kindWords k) ∧ St cx w' L := by
  have hlen : kindWords.length = 9 := rfl
  by_cases hb : k < 0 ∨ 9 < k
  · rw [Q9d (by omega)]
    all_goals refine Q3O ?_
    all_goals (unfold parse_Kind_lc; refine Q0 ?_; refine Q2 ?_; refine zm ?_; refine zn ?_; refine Q0 ?_; refine Q0 ?_; refine Q2 ?_; refine zm ?_)
    all_goals (first | (refine Q1z ?_) | (refine Q1A ?_) | (refine QK rfl rfl (fun hc => ?_) (fun hc => ?_)))
    all_goals (refine zm ?_; (first | refine s_gn rfl rfl ?_ | (refine s_gy rfl ?_; refine zm ?_)))
    all_goals (first | refine s_gn rfl rfl ?_ | (refine s_gy rfl ?_; refine Qz ?_))
    all_goals ((first | (refine zpt ?_) | (refine zpf ?_)); refine zn ?_)
    all_goals refine Q5 rfl ?_
    all_goals (refine Q0 ?_; refine Q2 ?_; refine zm ?_; refine zn ?_; refine zr ?_; refine zf ?_; refine ⟨_, rfl, ?_, hS.sp⟩; (rfl); done)
  · by_cases h0 : k = 0
    · subst h0
      all_goals refine Q3O ?_
      all_goals (unfold parse_Kind_lc; refine Q0 ?_; refine Q2 ?_; refine zm ?_; refine zn ?_; refine Q0 ?_; refine Q0 ?_; refine Q2 ?_; refine zm ?_)
      all_goals (first | (refine Q1z ?_) | (refine Q1A ?_))
      all_goals (refine zm ?_; (first | refine s_gn rfl rfl ?_ | (refine s_gy rfl ?_; refine zm ?_)))
      all_goals (first | refine s_gn rfl rfl ?_ | (refine s_gy rfl ?_; (first | (refine Qz ?_) | (refine QF ?_))))
      all_goals ((first | (refine zpt ?_) | (refine zpf ?_)); refine zn ?_)
      all_goals refine Q4 rfl ?_
      all_goals (refine zsk ?_; refine Q0 ?_; refine Q2 ?_; refine zb10 [_, _, _, _, _, _, _, _, _, _] ?_; refine zm ?_; refine Qjm (n := 10) (e := 9) (by kernel_rfl) (by kernel_rfl) (by kernel_rfl) vw vw (by omega) (by omega) (show ((([] :: kindWords).map strV)[(0 : Int).toNat]? = some (strV [])) from rfl) ?_; refine zm ?_; refine zn ?_; refine zr ?_; refine zf ?_; refine ⟨_, rfl, ?_, hS.sp⟩; (rfl); done)
    · have hu := Qmt (ws := kindWords) (k := k) (by omega) (by omega)
      generalize wordN kindWords k = s at hu ⊢
      all_goals refine Q3O ?_
      all_goals (unfold parse_Kind_lc; refine Q0 ?_; refine Q2 ?_; refine zm ?_; refine zn ?_; refine Q0 ?_; refine Q0 ?_; refine Q2 ?_; refine zm ?_)
      all_goals (first | (refine Q1z ?_) | (refine Q1A ?_))
      all_goals (refine zm ?_; (first | refine s_gn rfl rfl ?_ | (refine s_gy rfl ?_; refine zm ?_)))
      all_goals (first | refine s_gn rfl rfl ?_ | (refine s_gy rfl ?_; (first | (refine Qz ?_) | (refine QF ?_))))
      all_goals ((first | (refine zpt ?_) | (refine zpf ?_)); refine zn ?_)
      all_goals refine Q4 rfl ?_
      all_goals (refine zsk ?_; refine Q0 ?_; refine Q2 ?_; refine zb10 [_, _, _, _, _, _, _, _, _, _] ?_; refine zm ?_; refine Qjm (n := 10) (e := 9) (by kernel_rfl) (by kernel_rfl) (by kernel_rfl) vw vw (by omega) (by omega) hu ?_; refine zm ?_; refine zn ?_; refine zr ?_; refine zf ?_; refine ⟨_, rfl, ?_, hS.sp⟩; (rfl); done)
theorem ropw_c {k : Int} (hS : St cx w L) : Rets Tryz.prog QmV [.int .i64 k] w fun u w' => u = strV (wordN opWords k) ∧ St cx w' L := by
  have hlen : opWords.length = 14 := rfl
  by_cases hb : k < 1 ∨ 14 < k
  · rw [Q9d (by omega)]
    all_goals refine QbK ?_
    all_goals (unfold R_OpWord_lc; refine Q0 ?_; refine Q2 ?_; refine zm ?_; refine zn ?_; refine Q0 ?_; refine Q0 ?_; refine Q2 ?_; refine zm ?_)
    all_goals (first | (refine Q1z ?_) | (refine Q1A ?_) | (refine QK rfl rfl (fun hc => ?_) (fun hc => ?_)))
    all_goals (refine zm ?_; (first | refine s_gn rfl rfl ?_ | (refine s_gy rfl ?_; refine zm ?_)))
    all_goals (first | refine s_gn rfl rfl ?_ | (refine s_gy rfl ?_; refine Qz ?_))
    all_goals ((first | (refine zpt ?_) | (refine zpf ?_)); refine zn ?_)
    all_goals refine Q5 rfl ?_
    all_goals (refine Q0 ?_; refine Q2 ?_; refine zm ?_; refine zn ?_; refine zr ?_; refine zf ?_; refine ⟨_, rfl, ?_, hS.sp⟩; (rfl); done)
  · have hu := Qjf (ws := opWords) (k := k) (by omega) (by omega)
    generalize wordN opWords k = s at hu ⊢
    all_goals refine QbK ?_
    all_goals (unfold R_OpWord_lc; refine Q0 ?_; refine Q2 ?_; refine zm ?_; refine zn ?_; refine Q0 ?_; refine Q0 ?_; refine Q2 ?_; refine zm ?_)
    all_goals (first | (refine Q1z ?_) | (refine Q1A ?_))
    all_goals (refine zm ?_; (first | refine s_gn rfl rfl ?_ | (refine s_gy rfl ?_; refine zm ?_)))
    all_goals (first | refine s_gn rfl rfl ?_ | (refine s_gy rfl ?_; (first | (refine Qz ?_) | (refine QF ?_))))
    all_goals ((first | (refine zpt ?_) | (refine zpf ?_)); refine zn ?_)
    all_goals refine Q4 rfl ?_
    all_goals (refine zsk ?_; refine Q0 ?_; refine Q2 ?_; refine Qn3 (cs := opWords.map strV) vw vw vw vw vw vw vw vw vw vw vw vw vw vw (by rfl) ?_; intro b1 w1 hb1 hf1 _ hk1; have hS := hS.laid hb1 hf1 hk1; have hS := St.slOf (es := 1) (n := 14) (css := (opWords.map strV).map fun v => [v]) hS rfl (by intro c hc; obtain ⟨_, _, rfl⟩ := List.mem_map.1 hc; rfl) rfl; refine zm ?_; refine zsu ?_; refine QnX hS vw rfl (i := 0) rfl (by omega) (by show k - 1 < _; rw [List.length_map, List.length_map, hlen]; omega) ?_; intro b2 o2 hel2; refine QnT hS hel2 rfl (i := 0) rfl rfl (by rw [List.getElem?_map, hu]; rfl) rfl ?_; refine zm ?_; refine zn ?_; refine zr ?_; refine zf ?_; refine ⟨_, rfl, ?_, hS.sp⟩; (rfl); done)
theorem rkindw_c {k : Int} (hS : St cx w L) : Rets Tryz.prog Qfv [.int .i64 k] w fun u w' => u = strV (wordN kindWords k) ∧ St cx w' L := by
  have hlen : kindWords.length = 9 := rfl
  by_cases hb : k < 1 ∨ 9 < k
  · rw [Q9d (by omega)]
    all_goals refine Q6Y ?_
    all_goals (unfold R_KindWord_lc; refine Q0 ?_; refine Q2 ?_; refine zm ?_; refine zn ?_; refine Q0 ?_; refine Q0 ?_; refine Q2 ?_; refine zm ?_)
    all_goals (first | (refine Q1z ?_) | (refine Q1A ?_) | (refine QK rfl rfl (fun hc => ?_) (fun hc => ?_)))
    all_goals (refine zm ?_; (first | refine s_gn rfl rfl ?_ | (refine s_gy rfl ?_; refine zm ?_)))
    all_goals (first | refine s_gn rfl rfl ?_ | (refine s_gy rfl ?_; refine Qz ?_))
    all_goals ((first | (refine zpt ?_) | (refine zpf ?_)); refine zn ?_)
    all_goals refine Q5 rfl ?_
    all_goals (refine Q0 ?_; refine Q2 ?_; refine zm ?_; refine zn ?_; refine zr ?_; refine zf ?_; refine ⟨_, rfl, ?_, hS.sp⟩; (rfl); done)
  · have hu := Qjf (ws := kindWords) (k := k) (by omega) (by omega)
    generalize wordN kindWords k = s at hu ⊢
    all_goals refine Q6Y ?_
    all_goals (unfold R_KindWord_lc; refine Q0 ?_; refine Q2 ?_; refine zm ?_; refine zn ?_; refine Q0 ?_; refine Q0 ?_; refine Q2 ?_; refine zm ?_)
    all_goals (first | (refine Q1z ?_) | (refine Q1A ?_))
    all_goals (refine zm ?_; (first | refine s_gn rfl rfl ?_ | (refine s_gy rfl ?_; refine zm ?_)))
    all_goals (first | refine s_gn rfl rfl ?_ | (refine s_gy rfl ?_; (first | (refine Qz ?_) | (refine QF ?_))))
    all_goals ((first | (refine zpt ?_) | (refine zpf ?_)); refine zn ?_)
    all_goals refine Q4 rfl ?_
    all_goals (refine zsk ?_; refine Q0 ?_; refine Q2 ?_; refine QnZ (cs := kindWords.map strV) vw vw vw vw vw vw vw vw vw (by rfl) ?_; intro b1 w1 hb1 hf1 _ hk1; have hS := hS.laid hb1 hf1 hk1; have hS := St.slOf (es := 1) (n := 9) (css := (kindWords.map strV).map fun v => [v]) hS rfl (by intro c hc; obtain ⟨_, _, rfl⟩ := List.mem_map.1 hc; rfl) rfl; refine zm ?_; refine zsu ?_; refine QnX hS vw rfl (i := 0) rfl (by omega) (by show k - 1 < _; rw [List.length_map, List.length_map, hlen]; omega) ?_; intro b2 o2 hel2; refine QnT hS hel2 rfl (i := 0) rfl rfl (by rw [List.getElem?_map, hu]; rfl) rfl ?_; refine zm ?_; refine zn ?_; refine zr ?_; refine zf ?_; refine ⟨_, rfl, ?_, hS.sp⟩; (rfl); done)
theorem Q3G {n : Int} (h : InI n) (hT : PowT cx) (hS : St cx w L) : Rets Tryz.prog Qfi [.int .i64 n] w fun u w' => u = strV (Lib.itoa n) ∧ St cx w' L := by
  all_goals refine Qgg ?_
  all_goals (unfold render_num_lc; refine Q0 ?_; refine Q2 ?_; refine zm ?_; refine zn ?_; refine Q0 ?_; refine Q2 ?_; refine zm ?_; refine zR1 (c := Q4m h.1 h.2 hT hS) (h := ?_); rintro v1 w1 ⟨rfl, hS⟩; refine zm ?_; refine zn ?_; refine zr ?_; refine zf ?_; refine ⟨_, rfl, ?_, hS.sp⟩; exact rfl; done)
end Go.Proofs.YtjecflbbcnocdaaGreatDoor
namespace Go.Proofs.YtjecflbbcnocdaaGreatDoor
open Go.Lir
set_option maxHeartbeats 1000000
attribute [local irreducible] LC.wp Q3 QW Q13 retQ Q2i LO.wp Qv Calls
set_option linter.unusedSimpArgs false
set_option linter.unusedVariables false
attribute [local irreducible] Lib.itoa Lib.join Q2O
variable {cx : Cx} {w : World} {L : List Res}
theorem Qn8 {b e : List UInt8} {l : List Int} {v : Value} (hb : b.length ≤ 10) (he : e.length ≤ 10) (hp : Q4D l) (hl : intR.sl cx v l) (hT : PowT cx) (hS : St cx w L) :
    Rets Tryz.prog Qfh [strV b, v, strV e] w fun u w' => u = strV (QV b l e) ∧ St cx w' L := by
  have hjl := Qlx hp
  have hll := hp.1
  unfold QV
  all_goals refine Qgd ?_
  all_goals (unfold render_row_lc; refine Q0 ?_; refine Q2 ?_; refine zm ?_; refine zn ?_; refine Q0 ?_; refine Q2 ?_; refine zm ?_; refine zn ?_; refine Q0 ?_; refine Q0 ?_; refine Q2 ?_; refine zm ?_; refine zL ?_; refine zm ?_; refine zn ?_; refine Q8 ?_)
  refine zoL hS [0, 2, 10, 11] (fun A LL ρ' w' => ∃ (j : Nat) (u : Value) (css : List (List Value)), Has ρ' A ∧ Has ρ' [(7, u), (12, .int .i64 j)] ∧ (j ≤ l.length) ∧ (strR.ls cx css ((l.take j).map fun n => ⟨(Lib.itoa n).toArray⟩)) ∧ (oneC u = true) ∧ St cx w' (sl 9 1 u css :: LL)) (fun ρ' _ => (l.length - iv (ρ' 12)).toNat) ?_ ?_
  · exact ⟨0, .slice none 0 0, [], zh, zh, (by omega), Rep.LR.nil _ _ _, rfl, by have hS := hS.nil (T := 9) (es := 1); exact hS.sp⟩
  rintro ρ w1 ⟨j, u, css, hA, hρ, hj, hls, hu, hS⟩; obtain ⟨ρ, rfl⟩ := env2 hA hρ
  unfold Q5W
  all_goals (refine Q0 ?_; refine Q2 ?_; refine Qp rfl rfl ?_; refine zn ?_; refine Q0 ?_)
  refine Ql rfl (fun hc => ?_) (fun hc => ?_)
  · skip
    all_goals (refine zsk ?_; refine Q0 ?_; refine Q8 ?_; refine Q0 ?_; refine Q2 ?_; refine zi ?_; intro b1 o1 cs1 x1 hat1 hx1 he1; obtain rfl := Q3i he1; (first | (refine zl hS ?_) | (refine zlk hS ?_)); refine zm ?_; refine zn ?_; refine Q2 ?_; refine zm ?_; refine zm ?_; refine zR1 (c := Q3G (hp.2 _ (List.mem_of_getElem? hx1)) hT hS) (h := ?_); rintro v1 w1 ⟨rfl, hS⟩; refine zB1 hS [_] ?_; intro b1 w1 hS; refine za Q1r Q2q hS ?_; intro vp1 w1 css1 hls1 hv1 hS; have hS := hS.ns; refine zm ?_; refine zn ?_; refine Q2 ?_; refine zad ?_; refine zm ?_; refine zn ?_; exact ⟨⟨j + 1, _, _, zh, zh, (by omega), by rw [Q1T hx1, List.map_append]; assumption, by assumption, hS.sp⟩, Qk (by omega)⟩)
  · skip
    all_goals (refine zex ?_; refine Q0 ?_; refine Q2 ?_; refine zm ?_; refine zm ?_; refine zR2 (c := QmH (xs := l.map Lib.itoa) (sep := [44, 32]) hS fd (by rw [List.take_of_length_le (by omega)] at hls; rw [List.map_map]; exact hls) (by rw [List.length_map]; omega) (by omega)) (h := ?_); rintro v1 w1 ⟨rfl, hS⟩; refine Qi rfl rfl (by omega) ?_; refine zm ?_; refine Qi rfl rfl (by first | omega | (simp only [List.length_append, List.length_cons, List.length_nil]; omega)) ?_; refine zm ?_; refine zn ?_; refine zr ?_; refine zf ?_; refine ⟨_, rfl, ?_, hS.sp⟩; (rfl); done)
theorem Qla {l : List Ty} {v : Value} (hp : QlN l) (hl : tyR.sl cx v l) (hT : PowT cx) (hS : St cx w L) : Rets Tryz.prog Q7X [v] w fun u w' => u = strV (Q3c l) ∧ St cx w' L := by
  have hjl := Tys.join_len l hp.2
  have hln := Tys.nodes_len l
  have hn := hp.1
  have hnm : ∀ x ∈ l, x.nodes ≤ 100000 := fun x hx => by have := Tys.nodes_mem hx; omega
  unfold Q3c
  all_goals refine Qa5 ?_
  all_goals (unfold render_typed_lc; refine Q0 ?_; refine Q2 ?_; refine zm ?_; refine zn ?_; refine Q0 ?_; refine Q2 ?_; refine zm ?_; refine zn ?_; refine Q0 ?_; refine Q0 ?_; refine Q2 ?_; refine zm ?_; refine zL ?_; refine zm ?_; refine zn ?_; refine Q8 ?_)
  refine zoL hS [6, 7] (fun A LL ρ' w' => ∃ (j : Nat) (u : Value) (css : List (List Value)), Has ρ' A ∧ Has ρ' [(3, u), (8, .int .i64 j)] ∧ (j ≤ l.length) ∧ (strR.ls cx css ((l.take j).map fun x => ⟨x.txt.toArray⟩)) ∧ (oneC u = true) ∧ St cx w' (sl 9 1 u css :: LL)) (fun ρ' _ => (l.length - iv (ρ' 8)).toNat) ?_ ?_
  · exact ⟨0, .slice none 0 0, [], zh, zh, (by omega), Rep.LR.nil _ _ _, rfl, by have hS := hS.nil (T := 9) (es := 1); exact hS.sp⟩
  rintro ρ w1 ⟨j, u, css, hA, hρ, hj, hls, hu, hS⟩; obtain ⟨ρ, rfl⟩ := env2 hA hρ
  unfold Q4d
  all_goals (refine Q0 ?_; refine Q2 ?_; refine Qp rfl rfl ?_; refine zn ?_; refine Q0 ?_)
  refine Ql rfl (fun hc => ?_) (fun hc => ?_)
  · skip
    all_goals (refine zsk ?_; refine Q0 ?_; refine Q8 ?_; refine Q0 ?_; refine Q2 ?_; refine zi ?_; intro b1 o1 cs1 x1 hat1 hx1 he1; obtain ⟨vl1, rfl, hl1⟩ := QG he1; (first | (refine zv hS ?_) | (refine zvk hS ?_)); refine Qc hS ?_; intro p5 w1 hS; refine zsn hS ?_; intro w1 hS; have hS := hS.ns; refine zn ?_; refine Q2 ?_; refine zm ?_; refine zv hS ?_; refine zR1 (c := ttext_c _ (hp.2 _ (List.mem_of_getElem? hx1)) (hnm _ (List.mem_of_getElem? hx1)) he1 hT hS) (h := ?_); rintro v1 w1 ⟨rfl, hS⟩; refine zB1 hS [_] ?_; intro b1 w1 hS; refine za Q1r Q2q hS ?_; intro vp1 w1 css1 hls1 hv1 hS; have hS := hS.ns; refine zm ?_; refine zn ?_; refine Q2 ?_; refine zad ?_; refine zm ?_; refine zn ?_; exact ⟨⟨j + 1, _, _, zh, zh, (by omega), by rw [Q1T hx1, List.map_append]; assumption, by assumption, hS.sp⟩, Qk (by omega)⟩)
  · skip
    all_goals (refine zex ?_; refine Q0 ?_; refine Q2 ?_; refine zm ?_; refine zR2 (c := QmH (xs := Tys.txts l) (sep := [44, 32]) hS fd (by rw [List.take_of_length_le (by omega)] at hls; rw [Tys.txts_map, List.map_map]; exact hls) (by rw [Tys.txts_map, List.length_map]; omega) (by omega)) (h := ?_); rintro v1 w1 ⟨rfl, hS⟩; refine Qi rfl rfl (by first | omega | (simp only [List.length_append, List.length_cons, List.length_nil]; omega)) ?_; refine Qi rfl rfl (by first | omega | (simp only [List.length_append, List.length_cons, List.length_nil]; omega)) ?_; refine zm ?_; refine zn ?_; refine zr ?_; refine zf ?_; refine ⟨_, rfl, ?_, hS.sp⟩; (rfl); done)
theorem Q4a {b e : List UInt8} {l : List Int} {v : Value} (hb : b.length ≤ 10) (he : e.length ≤ 10) (hp : Q4D l) (hl : intR.sl cx v l) (hT : PowT cx) (hS : St cx w L) :
    Rets Tryz.prog Q4M [strV b, v, strV e] w fun u w' => u = strV (QV b l e) ∧ St cx w' L := by
  have hll := hp.1
  have hjl : ∀ j, (Q2O Lib.itoa l j).length ≤ 368 := Qoq hp
  unfold QV
  all_goals refine QhF ?_
  all_goals (unfold R_intsText_lc; refine Q0 ?_; refine Q2 ?_; refine zm ?_; refine zn ?_; refine Q0 ?_; refine Q2 ?_; refine zm ?_; refine zm ?_; refine zn ?_; refine Q0 ?_; refine Q0 ?_; refine Q2 ?_; refine zm ?_; refine zn ?_; refine Q8 ?_)
  refine zoL hS [1, 2] (fun A LL ρ' w' => ∃ (j : Nat) (s : List UInt8), Has ρ' A ∧ Has ρ' [(7, .string ⟨s.toArray⟩), (8, .int .i64 j)] ∧ (j ≤ l.length) ∧ (s = b ++ Q2O Lib.itoa l j) ∧ (s.length ≤ 378) ∧ St cx w' (LL)) (fun ρ' _ => (l.length - iv (ρ' 8)).toNat) ?_ ?_
  · exact ⟨0, b, zh, zh, (by omega), by rw [joinTo_0, List.append_nil], by omega, hS.sp⟩
  rintro ρ w1 ⟨j, s, hA, hρ, hj, hs, hsl, hS⟩; obtain ⟨ρ, rfl⟩ := env2 hA hρ
  unfold Q6U
  all_goals (refine Q0 ?_; refine Q0 ?_; refine Q2 ?_; refine zm ?_; refine zm ?_; refine zL ?_; refine Qp rfl rfl ?_; refine zn ?_)
  refine Ql rfl (fun hc => ?_) (fun hc => ?_)
  · skip
    all_goals (refine zsk ?_; refine Q0 ?_; refine Q8 ?_; refine Q0 ?_; refine Q0 ?_; have h1 := hjl j; have h2 := hjl (j + 1); refine Q2 ?_; refine zm ?_)
    all_goals (first | (refine Qz ?_) | (refine QF ?_) | (refine Qh rfl rfl (fun hc => ?_) (fun hc => ?_)))
    all_goals (refine zn ?_)
    all_goals
      first
      | (refine Q5 rfl ?_ -- Q4M c1
         all_goals (refine Q2 ?_; refine zm ?_; refine Qi rfl rfl (by first | omega | (simp only [List.length_append, List.length_cons, List.length_nil]; omega)) ?_; refine zm ?_)
         all_goals refine zn ?_)
      | (refine Q4 rfl ?_ -- Q4M c1
         all_goals refine zsk ?_)
    all_goals (refine Q2 ?_; refine zm ?_; refine zm ?_; refine zm ?_; refine zi ?_; intro b1 o1 cs1 x1 hat1 hx1 he1; obtain rfl := Q3i he1; (first | (refine zl hS ?_) | (refine zlk hS ?_)); have hi := hp.2 _ (List.mem_of_getElem? hx1); have hil := Q1f hi; refine zR1 (c := Q4m hi.1 hi.2 hT hS) (h := ?_); rintro v1 w1 ⟨rfl, hS⟩; refine Qi rfl rfl (by first | omega | (simp only [List.length_append, List.length_cons, List.length_nil]; omega)) ?_; refine zm ?_; refine zn ?_; refine Q2 ?_; refine zm ?_; refine zad ?_; refine zm ?_; refine zn ?_; (first | (exact ⟨⟨j + 1, _, zh, zh, (by omega), by rw [hs, QmI (by omega) hx1]; simp [List.append_assoc], by rw [QmI (by omega) hx1] at h2; rw [hs]; simp only [List.length_append, List.length_cons, List.length_nil] at h2 ⊢; omega, hS.sp⟩, Qk (by omega)⟩) | (exact ⟨⟨j + 1, _, zh, zh, (by omega), by rw [hs, QmJ (by omega) hx1, List.append_assoc], by rw [QmJ (by omega) hx1] at h2; rw [hs]; simp only [List.length_append, List.length_cons, List.length_nil] at h2 ⊢; omega, hS.sp⟩, Qk (by omega)⟩)))
  · skip
    all_goals (refine zex ?_; refine Q0 ?_; refine Q2 ?_; refine zm ?_; refine zm ?_; refine Qi rfl rfl (by omega) ?_; refine zm ?_; refine zn ?_; refine zr ?_; refine zf ?_; refine ⟨_, rfl, ?_, hS.sp⟩; rw [hs, Qne (by omega)]; done)
theorem QnL {t : To} {cs : List Value} (hp : t.Pr) (hx : toR.at cx cs t) (hT : PowT cx) (hS : St cx w L) : Rets Tryz.prog Qjw [.agg ⟨cs⟩] w fun u w' => u = strV t.txt ∧ St cx w' L := by
  obtain ⟨n, xr, xa⟩ := t
  obtain ⟨v1, v2, rfl, h1, h2⟩ := Q3K hx
  obtain ⟨g1, g2, g3⟩ := hp
  have l1 := Q1f g1
  have l2 := Q1l g2 (b := [60]) (e := [62]) rfl rfl
  have l3 := Q1l g3 (b := [40]) (e := [41]) rfl rfl
  unfold To.txt
  simp only at *
  all_goals refine Qju ?_
  all_goals (unfold render_to_lc; refine Q0 ?_; refine Q2 ?_; refine zb hS ?_; intro p1 w1 hS; refine zm ?_; refine zn ?_; refine Q0 ?_; refine zC [(0, none), (1, none), (4, none), (5, none), (9, none), (10, none), (2, some (some [5, 10])), (3, none), (6, some (some [10])), (7, none), (8, none), (11, some (some [])), (12, none), (13, some none)] ?_; have hS := hS.drew; refine s_cq ?_; refine Q1 rfl ?_; refine zt ?_; refine s_cq ?_; refine zl hS ?_; refine zt ?_; refine s_cq ?_; refine Q1 rfl ?_; refine zt ?_; refine s_cq ?_; refine zl hS ?_; refine zt ?_; refine s_cq ?_; refine Q1 rfl ?_; refine zt ?_; refine s_cq ?_; refine zl hS ?_; refine zt ?_; refine Qx ?_; refine zR1 (c := Q3G g1 hT hS) (h := ?_); rintro v1 w1 ⟨rfl, hS⟩; refine zt ?_; refine zy ?_; refine s_cq ?_; refine Qi rfl rfl (by first | omega | (simp only [List.length_append, List.length_cons, List.length_nil]; omega)) ?_; refine zt ?_; refine Qx ?_; refine zR3 (c := Qn8 (by decide) (by decide) g2 h1 hT hS) (h := ?_); rintro v1 w1 ⟨rfl, hS⟩; refine zt ?_; refine zy ?_; refine s_cq ?_; refine Qi rfl rfl (by first | omega | (simp only [List.length_append, List.length_cons, List.length_nil]; omega)) ?_; refine zt ?_; refine s_cq ?_)
  all_goals (refine Qi rfl rfl (by first | omega | (simp only [List.length_append, List.length_cons, List.length_nil]; omega)) ?_; refine zt ?_; refine Qx ?_; refine zR3 (c := Qn8 (by decide) (by decide) g3 h2 hT hS) (h := ?_); rintro v1 w1 ⟨rfl, hS⟩; refine zt ?_; refine zy ?_; refine s_cq ?_; refine Qi rfl rfl (by first | omega | (simp only [List.length_append, List.length_cons, List.length_nil]; omega)) ?_; refine zt ?_; refine s_cf ?_; refine zm ?_; refine zt ?_; refine zcn ?_; refine zr ?_; refine zf ?_; refine ⟨_, rfl, ?_, hS.sp⟩; (rfl); done)
theorem Qli {t : To} {cs : List Value} (hp : t.Pr) (hx : toR.at cx cs t) (hT : PowT cx) (hS : St cx w L) : Rets Tryz.prog QmT [.agg ⟨cs⟩] w fun u w' => u = strV t.txt ∧ St cx w' L := by
  obtain ⟨n, xr, xa⟩ := t
  obtain ⟨v1, v2, rfl, h1, h2⟩ := Q3K hx
  obtain ⟨g1, g2, g3⟩ := hp
  have l1 := Q1f g1
  have l2 := Q1l g2 (b := [60]) (e := [62]) rfl rfl
  have l3 := Q1l g3 (b := [40]) (e := [41]) rfl rfl
  unfold To.txt
  simp only at *
  all_goals refine QlQ ?_
  all_goals (unfold R_toText_lc; refine Q0 ?_; refine Q2 ?_; refine zb hS ?_; intro p1 w1 hS; refine zm ?_; refine zn ?_; refine Q0 ?_; refine zC [(0, none), (1, none), (4, none), (5, none), (9, none), (10, none), (2, some (some [5, 10])), (3, none), (6, some (some [10])), (7, none), (8, none), (11, some (some [])), (12, none), (13, some none)] ?_; have hS := hS.drew; refine s_cq ?_; refine Q1 rfl ?_; refine zt ?_; refine s_cq ?_; refine zl hS ?_; refine zt ?_; refine s_cq ?_; refine Q1 rfl ?_; refine zt ?_; refine s_cq ?_; refine zl hS ?_; refine zt ?_; refine s_cq ?_; refine Q1 rfl ?_; refine zt ?_; refine s_cq ?_; refine zl hS ?_; refine zt ?_; refine Qx ?_; refine zR1 (c := Q4m g1.1 g1.2 hT hS) (h := ?_); rintro v1 w1 ⟨rfl, hS⟩; refine zt ?_; refine zy ?_; refine s_cq ?_; refine Qi rfl rfl (by first | omega | (simp only [List.length_append, List.length_cons, List.length_nil]; omega)) ?_; refine zt ?_; refine Qx ?_; refine zR3 (c := Q4a (by decide) (by decide) g2 h1 hT hS) (h := ?_); rintro v1 w1 ⟨rfl, hS⟩; refine zt ?_; refine zy ?_; refine s_cq ?_; refine Qi rfl rfl (by first | omega | (simp only [List.length_append, List.length_cons, List.length_nil]; omega)) ?_; refine zt ?_)
  all_goals (refine s_cq ?_; refine Qi rfl rfl (by first | omega | (simp only [List.length_append, List.length_cons, List.length_nil]; omega)) ?_; refine zt ?_; refine Qx ?_; refine zR3 (c := Q4a (by decide) (by decide) g3 h2 hT hS) (h := ?_); rintro v1 w1 ⟨rfl, hS⟩; refine zt ?_; refine zy ?_; refine s_cq ?_; refine Qi rfl rfl (by first | omega | (simp only [List.length_append, List.length_cons, List.length_nil]; omega)) ?_; refine zt ?_; refine s_cf ?_; refine zm ?_; refine zt ?_; refine zcn ?_; refine zr ?_; refine zf ?_; refine ⟨_, rfl, ?_, hS.sp⟩; (rfl); done)
theorem Qg3 {l : List Ty} {v : Value} (hp : QlN l) (hl : tyR.sl cx v l) (hT : PowT cx) (hS : St cx w L) : Rets Tryz.prog Q38 [v] w fun u w' => u = strV (Q3c l) ∧ St cx w' L :=
  Qjp (by have := hp.1; omega) hp.2 (fun x hx => rtext_c x (hp.2 x hx) (by have := Tys.nodes_mem hx; have := hp.1; omega)) hl hT hS
end Go.Proofs.YtjecflbbcnocdaaGreatDoor
namespace Go.Proofs.YtjecflbbcnocdaaGreatDoor
open Go.Lir
set_option maxHeartbeats 1000000
attribute [local irreducible] LC.wp Q3 QW Q13 retQ Q2i LO.wp Qv Calls
set_option linter.unusedSimpArgs false
set_option linter.unusedVariables false
attribute [local irreducible] Lib.itoa Lib.join Q2O wordN
variable {cx : Cx} {w : World} {L : List Res}
abbrev toBA (t : List UInt8) : ByteArray := ⟨t.toArray⟩
theorem strs (l : List (List UInt8)) : strR.ls cx (l.map fun t => [strV t]) (l.map toBA) :=
  ⟨by simp, fun m x hx => by
    rw [List.getElem?_map, Option.map_eq_some_iff] at hx
    obtain ⟨t, h1, rfl⟩ := hx
    exact ⟨[strV t], by rw [List.getElem?_map, h1]; rfl, rfl⟩⟩
theorem str1 {b T : Nat} {t1 : List UInt8} (hS : St cx w (blk b T [strV t1] :: L)) : St cx w (sl T 1 (.slice (some ⟨b, 0, none⟩) 1 1) [[strV t1]] :: L) ∧ strR.ls cx [[strV t1]] ([t1].map toBA) ∧ ([t1].map toBA).length = 1 :=
  ⟨St.slOf hS rfl (by intro c hc; simp at hc; subst hc; rfl) rfl, strs [t1], rfl⟩
theorem str2 {b T : Nat} {t1 t2 : List UInt8} (hS : St cx w (blk b T [strV t1, strV t2] :: L)) : St cx w (sl T 1 (.slice (some ⟨b, 0, none⟩) 2 2) [[strV t1], [strV t2]] :: L) ∧ strR.ls cx [[strV t1], [strV t2]] ([t1, t2].map toBA) ∧ ([t1, t2].map toBA).length = 2 :=
  ⟨St.slOf hS rfl (by intro c hc; simp at hc; rcases hc with rfl | rfl <;> rfl) rfl, strs [t1, t2], rfl⟩
theorem str3 {b T : Nat} {t1 t2 t3 : List UInt8} (hS : St cx w (blk b T [strV t1, strV t2, strV t3] :: L)) : St cx w (sl T 1 (.slice (some ⟨b, 0, none⟩) 3 3) [[strV t1], [strV t2], [strV t3]] :: L) ∧ strR.ls cx [[strV t1], [strV t2], [strV t3]] ([t1, t2, t3].map toBA) ∧ ([t1, t2, t3].map toBA).length = 3 :=
  ⟨St.slOf hS rfl (by intro c hc; simp at hc; rcases hc with rfl | rfl | rfl <;> rfl) rfl, strs [t1, t2, t3], rfl⟩
section
variable {x : Ins}
theorem rest_1 (h : x.op = 1) : x.rest = [Lib.itoa x.n] := by unfold Ins.rest; rw [if_pos h]
theorem rest_2 (h : x.op = 2) : x.rest = [wordN kindWords x.k, Lib.itoa x.a, Lib.itoa x.b] := by unfold Ins.rest; rw [if_neg (by omega), if_pos h]
theorem QmA (h : x.op = 4 ∨ x.op = 11 ∨ x.op = 13) : x.rest = [Lib.itoa x.a] := by unfold Ins.rest; rw [if_neg (by omega), if_neg (by omega), if_pos h]
theorem rest_5 (h : x.op = 5) : x.rest = [Lib.itoa x.a, QV [40] x.args [41]] := by unfold Ins.rest; rw [if_neg (by omega), if_neg (by omega), if_neg (by omega), if_pos h]
theorem rest_6 (h : x.op = 6) : x.rest = [Lib.itoa x.a, Lib.itoa x.k] := by unfold Ins.rest; rw [if_neg (by omega), if_neg (by omega), if_neg (by omega), if_neg (by omega), if_pos h]
theorem rest_7 (h : x.op = 7) : x.rest = [Lib.itoa x.a, Lib.itoa x.k, Lib.itoa x.b] := by unfold Ins.rest; rw [if_neg (by omega), if_neg (by omega), if_neg (by omega), if_neg (by omega), if_neg (by omega), if_pos h]
theorem Qo7 (h : x.op = 8 ∨ x.op = 9) : x.rest = [Lib.itoa x.a, Lib.itoa x.b] := by unfold Ins.rest; rw [if_neg (by omega), if_neg (by omega), if_neg (by omega), if_neg (by omega), if_neg (by omega), if_neg (by omega), if_pos h]
theorem Qo9 (h : x.op = 10) : x.rest = [Lib.itoa x.a, Lib.itoa x.b, Lib.itoa x.c] := by unfold Ins.rest; rw [if_neg (by omega), if_neg (by omega), if_neg (by omega), if_neg (by omega), if_neg (by omega), if_neg (by omega), if_neg (by omega), if_pos h]
theorem Qo8 (h : x.op = 14) : x.rest = [Lib.itoa x.k, QV [60] x.regs [62], QV [40] x.args [41]] := by unfold Ins.rest; rw [if_neg (by omega), if_neg (by omega), if_neg (by omega), if_neg (by omega), if_neg (by omega), if_neg (by omega), if_neg (by omega), if_neg (by omega), if_pos h]
theorem QmB (h : x.op ≠ 1 ∧ x.op ≠ 2 ∧ x.op ≠ 4 ∧ x.op ≠ 11 ∧ x.op ≠ 13 ∧ x.op ≠ 5 ∧ x.op ≠ 6 ∧ x.op ≠ 7 ∧ x.op ≠ 8 ∧ x.op ≠ 9 ∧ x.op ≠ 10 ∧ x.op ≠ 14) : x.rest = [] := by
  unfold Ins.rest; rw [if_neg (by omega), if_neg (by omega), if_neg (by omega), if_neg (by omega), if_neg (by omega), if_neg (by omega), if_neg (by omega), if_neg (by omega), if_neg (by omega)]
theorem rest_len : x.rest.length ≤ 3 := by unfold Ins.rest; (repeat' split) <;> simp
end
theorem ins_txt {x : Ins} {cs : List Value} (hp : x.Pr) (hx : insR.at cx cs x) (hT : PowT cx) (hS : St cx w L) : Rets Tryz.prog Qu [.agg ⟨cs⟩] w fun u w' => u = strV (x.txt ++ [59]) ∧ St cx w' L := by
  have htl := Ins.txt_le hp
  have hrl := rest_len (x := x)
  have htl2 : (Lib.join (wordN opWords x.op :: x.rest) [32]).length ≤ 800 := htl
  obtain ⟨vr, va, rfl, hr, ha⟩ := Q1u hx
  obtain ⟨⟨g0, g1, g2, g3, g4, g5⟩, g6, g7⟩ := hp
  have h0 := strs (cx := cx) [wordN opWords x.op]
  all_goals refine Qgr ?_
  all_goals (unfold render_ins_lc; refine Q0 ?_; refine Q2 ?_; refine zb hS ?_; intro p1 w1 hS; refine zm ?_; refine zn ?_; refine Q0 ?_; refine Q2 ?_; refine Q1 rfl ?_; refine zl hS ?_; refine zR1 (c := popw_c hS) (h := ?_); rintro v1 w1 ⟨rfl, hS⟩; refine zB1 hS [_] ?_; intro b1 w1 hS; (first | (obtain ⟨hS, h9, h8⟩ := str3 hS) | (obtain ⟨hS, h9, h8⟩ := str2 hS) | (obtain ⟨hS, h9, h8⟩ := str1 hS)); refine zm ?_; refine zn ?_)
  refine zM [] (fun A ρ' w' => ∃ (vb : Value) (css : List (List Value)), Has ρ' A ∧ Has ρ' [(3, vb)] ∧ (strR.ls cx css ((wordN opWords x.op :: x.rest).map toBA)) ∧ (oneC vb = true) ∧ St cx w' (sl 9 1 vb css :: L)) ?_ ?_
  · skip
    all_goals (refine Q0 ?_; refine Q2 ?_; refine Q1 rfl ?_; refine zl hS ?_; refine zn ?_; refine Q8 ?_; refine Q0 ?_; refine Q2 ?_)
    all_goals (first | (refine Qq ?_) | (refine Qr ?_) | (refine Qf rfl rfl (fun hc => ?_) (fun hc => ?_)))
    all_goals (refine zm ?_; refine zn ?_)
    all_goals
      first
      | (refine Q5 rfl ?_ -- Qu c0
         all_goals (refine Q2 ?_; refine zm ?_; refine Q1 rfl ?_; refine zl hS ?_; refine zR2 (c := fmtp_c g5.1 g5.2 hT hS) (h := ?_); rintro v1 w1 ⟨rfl, hS⟩; refine zB1 hS [_] ?_; intro b1 w1 hS; (first | (obtain ⟨hS, h9, h8⟩ := str3 hS) | (obtain ⟨hS, h9, h8⟩ := str2 hS) | (obtain ⟨hS, h9, h8⟩ := str1 hS)); (first | (refine za Q1r Q2q hS ?_; intro vp1 w1 css1 hls1 hv1 hS; have hS := hS.ns) | (refine zak Q1r Q2q hS ?_; intro vp1 w1 css1 hls1 hv1 hS; have hS := hS.ns) | (refine zas Q1r Q2q hS ?_; intro vp1 w1 css1 hls1 hv1 hS; have hS := hS.ns)); refine zm ?_)
         all_goals refine zn ?_)
      | (refine Q4 rfl ?_ -- Qu c0
         all_goals (refine Q0 ?_; refine Q2 ?_)
         all_goals (first | (refine Qq ?_) | (refine Qr ?_) | (refine Qf rfl rfl (fun hc => ?_) (fun hc => ?_)))
         all_goals (refine zm ?_; refine zn ?_)
         all_goals
           first
           | (refine Q5 rfl ?_ -- Qu c1
              all_goals (refine zC [(0, none), (1, none), (2, none), (4, none), (5, none), (7, none), (8, none), (3, some (some [5, 8])), (6, some (some [8])), (9, some (some [])), (10, some (some [])), (11, some none), (12, some none)] ?_; have hS := hS.drew; refine s_cq ?_; refine zm ?_; refine zt ?_; refine s_cq ?_; refine Q1 rfl ?_; refine zt ?_; refine s_cq ?_; refine zl hS ?_; refine zt ?_; refine s_cq ?_; refine Q1 rfl ?_; refine zt ?_; refine s_cq ?_; refine zl hS ?_; refine zt ?_; refine s_cq ?_; refine Q1 rfl ?_; refine zt ?_; refine s_cq ?_; refine zl hS ?_; refine zt ?_; refine Qx ?_; refine zR1 (c := pkindw_c hS) (h := ?_); rintro v1 w1 ⟨rfl, hS⟩; refine zt ?_; refine zy ?_; refine Qx ?_; refine zR1 (c := Q3G (by assumption) hT hS) (h := ?_); rintro v1 w1 ⟨rfl, hS⟩; refine zt ?_; refine zy ?_; refine Qx ?_; refine zR1 (c := Q3G (by assumption) hT hS) (h := ?_); rintro v1 w1 ⟨rfl, hS⟩; refine zt ?_; refine zy ?_; refine Qx ?_; refine zB3 hS [_, _, _] ?_; intro b1 w1 hS; obtain ⟨hS, h9, h8⟩ := str3 hS; refine zt ?_; refine zy ?_; refine s_cf ?_; (first | (refine za Q1r Q2q hS ?_; intro vp2 w2 css2 hls2 hv2 hS; have hS := hS.ns) | (refine zak Q1r Q2q hS ?_; intro vp2 w2 css2 hls2 hv2 hS; have hS := hS.ns) | (refine zas Q1r Q2q hS ?_; intro vp2 w2 css2 hls2 hv2 hS; have hS := hS.ns)))
              all_goals (refine zt ?_; refine s_cf ?_; refine zm ?_; refine zt ?_)
              all_goals refine zcn ?_)
           | (refine Q4 rfl ?_ -- Qu c1
              all_goals (refine Q0 ?_; refine Q0 ?_; refine Q2 ?_)
              all_goals (first | (refine Qq ?_) | (refine Qr ?_) | (refine Qf rfl rfl (fun hc => ?_) (fun hc => ?_)))
              all_goals (refine zm ?_; refine zn ?_)
              all_goals
                first
                | (refine Q5 rfl ?_ -- Qu c2
                   all_goals refine zsk ?_)
                | (refine Q4 rfl ?_ -- Qu c2
                   all_goals (refine Q0 ?_; refine Q2 ?_)
                   all_goals (first | (refine Qq ?_) | (refine Qr ?_) | (refine Qf rfl rfl (fun hc => ?_) (fun hc => ?_)))
                   all_goals (refine zm ?_; refine zn ?_)
                   all_goals
                     first
                     | (refine Q5 rfl ?_ -- Qu c3
                        all_goals refine zsk ?_)
                     | (refine Q4 rfl ?_ -- Qu c3
                        all_goals (refine Q2 ?_)
                        all_goals (first | (refine Qq ?_) | (refine Qr ?_) | (refine Qf rfl rfl (fun hc => ?_) (fun hc => ?_)))
                        all_goals (refine zm ?_)
                        all_goals refine zn ?_))
              all_goals
                first
                | (refine Q5 rfl ?_ -- Qu c4
                   all_goals (refine Q2 ?_; refine zm ?_; refine Q1 rfl ?_; refine zl hS ?_; refine zR1 (c := Q3G (by assumption) hT hS) (h := ?_); rintro v1 w1 ⟨rfl, hS⟩; refine zB1 hS [_] ?_; intro b1 w1 hS; (first | (obtain ⟨hS, h9, h8⟩ := str3 hS) | (obtain ⟨hS, h9, h8⟩ := str2 hS) | (obtain ⟨hS, h9, h8⟩ := str1 hS)); (first | (refine za Q1r Q2q hS ?_; intro vp3 w3 css3 hls3 hv3 hS; have hS := hS.ns) | (refine zak Q1r Q2q hS ?_; intro vp3 w3 css3 hls3 hv3 hS; have hS := hS.ns) | (refine zas Q1r Q2q hS ?_; intro vp3 w3 css3 hls3 hv3 hS; have hS := hS.ns)); refine zm ?_)
                   all_goals refine zn ?_)
                | (refine Q4 rfl ?_ -- Qu c4
                   all_goals (refine Q0 ?_; refine Q2 ?_)
                   all_goals (first | (refine Qq ?_) | (refine Qr ?_) | (refine Qf rfl rfl (fun hc => ?_) (fun hc => ?_)))
                   all_goals (refine zm ?_; refine zn ?_)
                   all_goals
                     first
                     | (refine Q5 rfl ?_ -- Qu c5
                        all_goals (refine zC [(0, none), (1, none), (2, none), (4, none), (5, none), (3, some (some [5])), (6, some (some [])), (7, some (some [])), (8, some none), (9, some none)] ?_; have hS := hS.drew; refine s_cq ?_; refine zm ?_; refine zt ?_; refine s_cq ?_; refine Q1 rfl ?_; refine zt ?_; refine s_cq ?_; refine zl hS ?_; refine zt ?_; refine s_cq ?_; refine Q1 rfl ?_; refine zt ?_; refine s_cq ?_; refine zl hS ?_; refine zt ?_; refine Qx ?_; refine zR1 (c := Q3G (by assumption) hT hS) (h := ?_); rintro v1 w1 ⟨rfl, hS⟩; refine zt ?_; refine zy ?_; refine Qx ?_; refine zR3 (c := Qn8 (by decide) (by decide) g7 ha hT hS) (h := ?_); rintro v1 w1 ⟨rfl, hS⟩; refine zt ?_; refine zy ?_; refine Qx ?_; refine zB2 hS [_, _] ?_; intro b1 w1 hS; (first | (obtain ⟨hS, h9, h8⟩ := str3 hS) | (obtain ⟨hS, h9, h8⟩ := str2 hS)); refine zt ?_; refine zy ?_; refine s_cf ?_; (first | (refine za Q1r Q2q hS ?_; intro vp4 w4 css4 hls4 hv4 hS; have hS := hS.ns) | (refine zak Q1r Q2q hS ?_; intro vp4 w4 css4 hls4 hv4 hS; have hS := hS.ns) | (refine zas Q1r Q2q hS ?_; intro vp4 w4 css4 hls4 hv4 hS; have hS := hS.ns)); refine zt ?_; refine s_cf ?_; refine zm ?_; refine zt ?_)
                        all_goals refine zcn ?_)
                     | (refine Q4 rfl ?_ -- Qu c5
                        all_goals (refine Q0 ?_; refine Q2 ?_)
                        all_goals (first | (refine Qq ?_) | (refine Qr ?_) | (refine Qf rfl rfl (fun hc => ?_) (fun hc => ?_)))
                        all_goals (refine zm ?_; refine zn ?_)
                        all_goals
                          first
                          | (refine Q5 rfl ?_ -- Qu c6
                             all_goals (refine zC [(0, none), (1, none), (2, none), (4, none), (5, none), (3, some (some [5])), (6, some (some [])), (7, some (some [])), (8, some none), (9, some none)] ?_; have hS := hS.drew; refine s_cq ?_; refine zm ?_; refine zt ?_; refine s_cq ?_; refine Q1 rfl ?_; refine zt ?_; refine s_cq ?_; refine zl hS ?_; refine zt ?_; refine s_cq ?_; refine Q1 rfl ?_; refine zt ?_; refine s_cq ?_; refine zl hS ?_; refine zt ?_; refine Qx ?_; refine zR1 (c := Q3G (by assumption) hT hS) (h := ?_); rintro v1 w1 ⟨rfl, hS⟩; refine zt ?_; refine zy ?_; refine Qx ?_; refine zR1 (c := Q3G (by assumption) hT hS) (h := ?_); rintro v1 w1 ⟨rfl, hS⟩; refine zt ?_; refine zy ?_; refine Qx ?_; refine zB2 hS [_, _] ?_; intro b1 w1 hS; (first | (obtain ⟨hS, h9, h8⟩ := str3 hS) | (obtain ⟨hS, h9, h8⟩ := str2 hS)); refine zt ?_; refine zy ?_; refine s_cf ?_; (first | (refine za Q1r Q2q hS ?_; intro vp5 w5 css5 hls5 hv5 hS; have hS := hS.ns) | (refine zak Q1r Q2q hS ?_; intro vp5 w5 css5 hls5 hv5 hS; have hS := hS.ns) | (refine zas Q1r Q2q hS ?_; intro vp5 w5 css5 hls5 hv5 hS; have hS := hS.ns)); refine zt ?_; refine s_cf ?_; refine zm ?_; refine zt ?_)
                             all_goals refine zcn ?_)
                          | (refine Q4 rfl ?_ -- Qu c6
                             all_goals (refine Q0 ?_; refine Q2 ?_)
                             all_goals (first | (refine Qq ?_) | (refine Qr ?_) | (refine Qf rfl rfl (fun hc => ?_) (fun hc => ?_)))
                             all_goals (refine zm ?_; refine zn ?_)
                             all_goals
                               first
                               | (refine Q5 rfl ?_ -- Qu c7
                                  all_goals (refine zC [(0, none), (1, none), (2, none), (4, none), (5, none), (7, none), (8, none), (3, some (some [5, 8])), (6, some (some [8])), (9, some (some [])), (10, some (some [])), (11, some none), (12, some none)] ?_; have hS := hS.drew; refine s_cq ?_; refine zm ?_; refine zt ?_; refine s_cq ?_; refine Q1 rfl ?_; refine zt ?_; refine s_cq ?_; refine zl hS ?_; refine zt ?_; refine s_cq ?_; refine Q1 rfl ?_; refine zt ?_; refine s_cq ?_; refine zl hS ?_; refine zt ?_; refine s_cq ?_; refine Q1 rfl ?_; refine zt ?_; refine s_cq ?_; refine zl hS ?_; refine zt ?_; refine Qx ?_; refine zR1 (c := Q3G (by assumption) hT hS) (h := ?_); rintro v1 w1 ⟨rfl, hS⟩; refine zt ?_; refine zy ?_; refine Qx ?_; refine zR1 (c := Q3G (by assumption) hT hS) (h := ?_); rintro v1 w1 ⟨rfl, hS⟩; refine zt ?_; refine zy ?_; refine Qx ?_; refine zR1 (c := Q3G (by assumption) hT hS) (h := ?_); rintro v1 w1 ⟨rfl, hS⟩; refine zt ?_; refine zy ?_; refine Qx ?_; refine zB3 hS [_, _, _] ?_; intro b1 w1 hS; obtain ⟨hS, h9, h8⟩ := str3 hS; refine zt ?_; refine zy ?_; refine s_cf ?_; (first | (refine za Q1r Q2q hS ?_; intro vp6 w6 css6 hls6 hv6 hS; have hS := hS.ns) | (refine zak Q1r Q2q hS ?_; intro vp6 w6 css6 hls6 hv6 hS; have hS := hS.ns) | (refine zas Q1r Q2q hS ?_; intro vp6 w6 css6 hls6 hv6 hS; have hS := hS.ns)))
                                  all_goals (refine zt ?_; refine s_cf ?_; refine zm ?_; refine zt ?_)
                                  all_goals refine zcn ?_)
                               | (refine Q4 rfl ?_ -- Qu c7
                                  all_goals (refine Q0 ?_; refine Q0 ?_; refine Q2 ?_)
                                  all_goals (first | (refine Qq ?_) | (refine Qr ?_) | (refine Qf rfl rfl (fun hc => ?_) (fun hc => ?_)))
                                  all_goals (refine zm ?_; refine zn ?_)
                                  all_goals
                                    first
                                    | (refine Q5 rfl ?_ -- Qu c8
                                       all_goals refine zsk ?_)
                                    | (refine Q4 rfl ?_ -- Qu c8
                                       all_goals (refine Q2 ?_)
                                       all_goals (first | (refine Qq ?_) | (refine Qr ?_) | (refine Qf rfl rfl (fun hc => ?_) (fun hc => ?_)))
                                       all_goals (refine zm ?_)
                                       all_goals refine zn ?_)
                                  all_goals
                                    first
                                    | (refine Q5 rfl ?_ -- Qu c9
                                       all_goals (refine zC [(0, none), (1, none), (2, none), (4, none), (5, none), (3, some (some [5])), (6, some (some [])), (7, some (some [])), (8, some none), (9, some none)] ?_; have hS := hS.drew; refine s_cq ?_; refine zm ?_; refine zt ?_; refine s_cq ?_; refine Q1 rfl ?_; refine zt ?_; refine s_cq ?_; refine zl hS ?_; refine zt ?_; refine s_cq ?_; refine Q1 rfl ?_; refine zt ?_; refine s_cq ?_; refine zl hS ?_; refine zt ?_; refine Qx ?_; refine zR1 (c := Q3G (by assumption) hT hS) (h := ?_); rintro v1 w1 ⟨rfl, hS⟩; refine zt ?_; refine zy ?_; refine Qx ?_; refine zR1 (c := Q3G (by assumption) hT hS) (h := ?_); rintro v1 w1 ⟨rfl, hS⟩; refine zt ?_; refine zy ?_; refine Qx ?_; refine zB2 hS [_, _] ?_; intro b1 w1 hS; (first | (obtain ⟨hS, h9, h8⟩ := str3 hS) | (obtain ⟨hS, h9, h8⟩ := str2 hS)); refine zt ?_; refine zy ?_; refine s_cf ?_; (first | (refine za Q1r Q2q hS ?_; intro vp7 w7 css7 hls7 hv7 hS; have hS := hS.ns) | (refine zak Q1r Q2q hS ?_; intro vp7 w7 css7 hls7 hv7 hS; have hS := hS.ns) | (refine zas Q1r Q2q hS ?_; intro vp7 w7 css7 hls7 hv7 hS; have hS := hS.ns)); refine zt ?_; refine s_cf ?_; refine zm ?_; refine zt ?_)
                                       all_goals refine zcn ?_)
                                    | (refine Q4 rfl ?_ -- Qu c9
                                       all_goals (refine Q0 ?_; refine Q2 ?_)
                                       all_goals (first | (refine Qq ?_) | (refine Qr ?_) | (refine Qf rfl rfl (fun hc => ?_) (fun hc => ?_)))
                                       all_goals (refine zm ?_; refine zn ?_)
                                       all_goals
                                         first
                                         | (refine Q5 rfl ?_ -- Qu c10
                                            all_goals (refine zC [(0, none), (1, none), (2, none), (4, none), (5, none), (7, none), (8, none), (3, some (some [5, 8])), (6, some (some [8])), (9, some (some [])), (10, some (some [])), (11, some none), (12, some none)] ?_; have hS := hS.drew; refine s_cq ?_; refine zm ?_; refine zt ?_; refine s_cq ?_; refine Q1 rfl ?_; refine zt ?_; refine s_cq ?_; refine zl hS ?_; refine zt ?_; refine s_cq ?_; refine Q1 rfl ?_; refine zt ?_; refine s_cq ?_; refine zl hS ?_; refine zt ?_; refine s_cq ?_; refine Q1 rfl ?_; refine zt ?_; refine s_cq ?_; refine zl hS ?_; refine zt ?_; refine Qx ?_; refine zR1 (c := Q3G (by assumption) hT hS) (h := ?_); rintro v1 w1 ⟨rfl, hS⟩; refine zt ?_; refine zy ?_; refine Qx ?_; refine zR1 (c := Q3G (by assumption) hT hS) (h := ?_); rintro v1 w1 ⟨rfl, hS⟩; refine zt ?_; refine zy ?_; refine Qx ?_; refine zR1 (c := Q3G (by assumption) hT hS) (h := ?_); rintro v1 w1 ⟨rfl, hS⟩; refine zt ?_; refine zy ?_; refine Qx ?_; refine zB3 hS [_, _, _] ?_; intro b1 w1 hS; obtain ⟨hS, h9, h8⟩ := str3 hS; refine zt ?_; refine zy ?_; refine s_cf ?_; (first | (refine za Q1r Q2q hS ?_; intro vp8 w8 css8 hls8 hv8 hS; have hS := hS.ns) | (refine zak Q1r Q2q hS ?_; intro vp8 w8 css8 hls8 hv8 hS; have hS := hS.ns) | (refine zas Q1r Q2q hS ?_; intro vp8 w8 css8 hls8 hv8 hS; have hS := hS.ns)))
                                            all_goals (refine zt ?_; refine s_cf ?_; refine zm ?_; refine zt ?_)
                                            all_goals refine zcn ?_)
                                         | (refine Q4 rfl ?_ -- Qu c10
                                            all_goals (refine Q0 ?_; refine Q2 ?_)
                                            all_goals (first | (refine Qq ?_) | (refine Qr ?_) | (refine Qf rfl rfl (fun hc => ?_) (fun hc => ?_)))
                                            all_goals (refine zm ?_; refine zn ?_)
                                            all_goals
                                              first
                                              | (refine Q5 rfl ?_ -- Qu c11
                                                 all_goals (refine zC [(0, none), (1, none), (2, none), (4, none), (5, none), (7, none), (8, none), (3, some (some [5, 8])), (6, some (some [8])), (9, some (some [])), (10, some (some [])), (11, some none), (12, some none)] ?_; have hS := hS.drew; refine s_cq ?_; refine zm ?_; refine zt ?_; refine s_cq ?_; refine Q1 rfl ?_; refine zt ?_; refine s_cq ?_; refine zl hS ?_; refine zt ?_; refine s_cq ?_; refine Q1 rfl ?_; refine zt ?_; refine s_cq ?_; refine zl hS ?_; refine zt ?_; refine s_cq ?_; refine Q1 rfl ?_; refine zt ?_; refine s_cq ?_; refine zl hS ?_; refine zt ?_; refine Qx ?_; refine zR1 (c := Q3G (by assumption) hT hS) (h := ?_); rintro v1 w1 ⟨rfl, hS⟩; refine zt ?_; refine zy ?_; refine Qx ?_; refine zR3 (c := Qn8 (by decide) (by decide) g6 hr hT hS) (h := ?_); rintro v1 w1 ⟨rfl, hS⟩; refine zt ?_; refine zy ?_; refine Qx ?_; refine zR3 (c := Qn8 (by decide) (by decide) g7 ha hT hS) (h := ?_); rintro v1 w1 ⟨rfl, hS⟩; refine zt ?_; refine zy ?_; refine Qx ?_; refine zB3 hS [_, _, _] ?_; intro b1 w1 hS; obtain ⟨hS, h9, h8⟩ := str3 hS; refine zt ?_; refine zy ?_)
                                                 all_goals (refine s_cf ?_; (first | (refine za Q1r Q2q hS ?_; intro vp9 w9 css9 hls9 hv9 hS; have hS := hS.ns) | (refine zak Q1r Q2q hS ?_; intro vp9 w9 css9 hls9 hv9 hS; have hS := hS.ns) | (refine zas Q1r Q2q hS ?_; intro vp9 w9 css9 hls9 hv9 hS; have hS := hS.ns)); refine zt ?_; refine s_cf ?_; refine zm ?_; refine zt ?_)
                                                 all_goals refine zcn ?_)
                                              | (refine Q4 rfl ?_ -- Qu c11
                                                 all_goals refine zsk ?_)))))))))
    all_goals ((first | (exact ⟨_, _, zh, zh, by rw [rest_1 (by omega)]; assumption, by assumption, hS.sp⟩) | (exact ⟨_, _, zh, zh, by rw [rest_2 (by omega)]; assumption, by assumption, hS.sp⟩) | (exact ⟨_, _, zh, zh, by rw [QmA (by omega)]; assumption, by assumption, hS.sp⟩) | (exact ⟨_, _, zh, zh, by rw [rest_5 (by omega)]; assumption, by assumption, hS.sp⟩) | (exact ⟨_, _, zh, zh, by rw [rest_6 (by omega)]; assumption, by assumption, hS.sp⟩) | (exact ⟨_, _, zh, zh, by rw [rest_7 (by omega)]; assumption, by assumption, hS.sp⟩) | (exact ⟨_, _, zh, zh, by rw [Qo7 (by omega)]; assumption, by assumption, hS.sp⟩) | (exact ⟨_, _, zh, zh, by rw [Qo9 (by omega)]; assumption, by assumption, hS.sp⟩) | (exact ⟨_, _, zh, zh, by rw [Qo8 (by omega)]; assumption, by assumption, hS.sp⟩) | (exact ⟨_, _, zh, zh, by rw [QmB (by omega)]; assumption, rfl, hS.sp⟩)))
  rintro ρ w1 ⟨vb, css, hA, hρ, hls, hvb, hS⟩; obtain ⟨ρ, rfl⟩ := env2 hA hρ
  all_goals (refine Q0 ?_; refine Q2 ?_; refine zm ?_; refine zR2 (c := QmH (xs := wordN opWords x.op :: x.rest) (sep := [32]) hS fd hls (by rw [List.length_cons]; omega) (by unfold Ins.txt at htl; omega)) (h := ?_); rintro v1 w1 ⟨rfl, hS⟩; refine Qi rfl rfl (by first | omega | (simp only [List.length_append, List.length_cons, List.length_nil]; omega)) ?_; refine zm ?_; refine zn ?_; refine zr ?_; refine zf ?_; refine ⟨_, rfl, ?_, hS.sp⟩; (rfl); done)
theorem end_txt {t : Tail} {cs : List Value} (hp : t.Pr) (hx : endR.at cx cs t) (hT : PowT cx) (hS : St cx w L) : Rets Tryz.prog Q2W [.agg ⟨cs⟩] w fun u w' => u = strV (t.txt ++ [59]) ∧ St cx w' L := by
  have htl := Tail.txt_le hp
  obtain ⟨v1, v2, v3, v4, v5, rfl, h1, h2, h3, h4, h5⟩ := QgP hx
  obtain ⟨g1, g2, g3, g4⟩ := hp
  have l1 := Q1f g1
  have l2 := To.txt_le g2
  have l3 := To.txt_le g3
  have l4 := Q1l g4 (b := [40]) (e := [41]) rfl rfl
  have hy : toR.at cx [.int .i64 t.yes.block, v1, v2] t.yes := ⟨_, _, rfl, h1, h2⟩
  have hn : toR.at cx [.int .i64 t.no.block, v3, v4] t.no := ⟨_, _, rfl, h3, h4⟩
  all_goals refine QgA ?_
  all_goals (unfold render_end_lc; refine Q0 ?_; refine Q2 ?_; refine zb hS ?_; intro p1 w1 hS; refine zm ?_; refine zn ?_; refine Q0 ?_; refine Q0 ?_; refine Q2 ?_; refine Q1 rfl ?_; refine zl hS ?_; refine zn ?_; refine Q8 ?_; refine Q0 ?_; refine Q2 ?_)
  all_goals (first | (refine Qq ?_) | (refine Qr ?_) | (refine Qf rfl rfl (fun hc => ?_) (fun hc => ?_)))
  all_goals (refine zm ?_; refine zn ?_)
  all_goals
    first
    | (refine Q5 rfl ?_ -- Q2W c0
       all_goals (refine Q0 ?_; refine Q2 ?_; refine Q1 rfl ?_; refine zv hS ?_; refine zR1 (c := QnL g2 hy hT hS) (h := ?_); rintro v1 w1 ⟨rfl, hS⟩; refine Qi rfl rfl (by first | omega | (simp only [List.length_append, List.length_cons, List.length_nil]; omega)) ?_; refine Qi rfl rfl (by first | omega | (simp only [List.length_append, List.length_cons, List.length_nil]; omega)) ?_; refine zm ?_; refine zn ?_; refine zr ?_; refine zf ?_)
       all_goals (refine ⟨_, rfl, ?_, hS.sp⟩; unfold Tail.txt; rw [if_pos (by omega)]; simp only [List.append_assoc]; rfl; done))
    | (refine Q4 rfl ?_ -- Q2W c0
       all_goals (refine Q0 ?_; refine Q2 ?_)
       all_goals (first | (refine Qq ?_) | (refine Qr ?_) | (refine Qf rfl rfl (fun hc => ?_) (fun hc => ?_)))
       all_goals (refine zm ?_; refine zn ?_)
       all_goals
         first
         | (refine Q5 rfl ?_ -- Q2W c1
            all_goals (refine Q0 ?_; refine zC [(0, none), (1, none), (5, none), (6, none), (10, none), (11, none), (2, some (some [6, 11])), (3, none), (4, none), (7, some (some [11])), (8, none), (9, none), (12, some (some [])), (13, none), (14, none), (15, some none)] ?_; have hS := hS.drew; refine s_cq ?_; refine Q1 rfl ?_; refine zt ?_; refine s_cq ?_; refine zl hS ?_; refine zt ?_; refine s_cq ?_; refine Q1 rfl ?_; refine zt ?_; refine s_cq ?_; refine zv hS ?_; refine zt ?_; refine s_cq ?_; refine Q1 rfl ?_; refine zt ?_; refine s_cq ?_; refine zv hS ?_; refine zt ?_; refine Qx ?_; refine zR1 (c := Q3G g1 hT hS) (h := ?_); rintro v1 w1 ⟨rfl, hS⟩; refine zt ?_; refine zy ?_; refine s_cq ?_; refine Qi rfl rfl (by first | omega | (simp only [List.length_append, List.length_cons, List.length_nil]; omega)) ?_; refine zt ?_; refine s_cq ?_; refine Qi rfl rfl (by first | omega | (simp only [List.length_append, List.length_cons, List.length_nil]; omega)) ?_; refine zt ?_; refine Qx ?_; refine zR1 (c := QnL g2 hy hT hS) (h := ?_); rintro v1 w1 ⟨rfl, hS⟩; refine zt ?_; refine zy ?_; refine s_cq ?_; refine Qi rfl rfl (by first | omega | (simp only [List.length_append, List.length_cons, List.length_nil]; omega)) ?_)
            all_goals (refine zt ?_; refine s_cq ?_; refine Qi rfl rfl (by first | omega | (simp only [List.length_append, List.length_cons, List.length_nil]; omega)) ?_; refine zt ?_; refine Qx ?_; refine zR1 (c := QnL g3 hn hT hS) (h := ?_); rintro v1 w1 ⟨rfl, hS⟩; refine zt ?_; refine zy ?_; refine s_cq ?_; refine Qi rfl rfl (by first | omega | (simp only [List.length_append, List.length_cons, List.length_nil]; omega)) ?_; refine zt ?_; refine s_cq ?_; refine Qi rfl rfl (by first | omega | (simp only [List.length_append, List.length_cons, List.length_nil]; omega)) ?_; refine zt ?_; refine s_cf ?_; refine zm ?_; refine zt ?_; refine zcn ?_; refine zr ?_; refine zf ?_)
            all_goals (first | (refine ⟨_, rfl, ?_, hS.sp⟩; unfold Tail.txt; rw [if_pos (by omega)]; simp only [List.append_assoc]; rfl; done) | (refine ⟨_, rfl, ?_, hS.sp⟩; unfold Tail.txt; rw [if_neg (by omega), if_pos (by omega)]; simp only [List.append_assoc]; rfl; done)))
         | (refine Q4 rfl ?_ -- Q2W c1
            all_goals refine zsk ?_))
  all_goals (refine Q0 ?_; refine Q2 ?_; refine Q1 rfl ?_; refine zl hS ?_; refine zR3 (c := Qn8 (by decide) (by decide) g4 h5 hT hS) (h := ?_); rintro v1 w1 ⟨rfl, hS⟩; refine Qi rfl rfl (by first | omega | (simp only [List.length_append, List.length_cons, List.length_nil]; omega)) ?_; refine Qi rfl rfl (by first | omega | (simp only [List.length_append, List.length_cons, List.length_nil]; omega)) ?_; refine zm ?_; refine zn ?_; refine zr ?_; refine zf ?_; (first | (refine ⟨_, rfl, ?_, hS.sp⟩; unfold Tail.txt; rw [if_pos (by omega)]; simp only [List.append_assoc]; rfl; done) | (refine ⟨_, rfl, ?_, hS.sp⟩; unfold Tail.txt; rw [if_neg (by omega), if_pos (by omega)]; simp only [List.append_assoc]; rfl; done) | (refine ⟨_, rfl, ?_, hS.sp⟩; unfold Tail.txt; rw [if_neg (by omega), if_neg (by omega)]; simp only [List.append_assoc]; rfl; done)))
end Go.Proofs.YtjecflbbcnocdaaGreatDoor
namespace Go.Proofs.YtjecflbbcnocdaaGreatDoor
open Go.Lir
set_option maxHeartbeats 1000000
attribute [local irreducible] LC.wp Q3 QW Q13 retQ Q2i LO.wp Qv Calls
set_option linter.unusedSimpArgs false
set_option linter.unusedVariables false
theorem Q9J {l m : List Int} {cx : Cx} {w : World} {L : List Res} {v v2 : Value} (hl : intR.sl cx v l) (hm : intR.sl cx v2 m) (hS : St cx w L) : Rets Tryz.prog Q2Z [v, v2] w fun u w' => u = .bool (decide (l = m)) ∧ St cx w' L := by
  have hlen := hl.len
  all_goals refine Qik ?_
  all_goals (unfold R_SameInts_lc; refine Q0 ?_; refine Q2 ?_; refine zm ?_; refine zn ?_; refine Q0 ?_; refine Q0 ?_; refine Q2 ?_; refine zm ?_; refine zL ?_; refine zm ?_; refine zL ?_)
  all_goals (first | (refine Q1m ?_) | (refine Q1n ?_) | (refine Qs rfl rfl (fun hc => ?_) (fun hc => ?_)))
  all_goals (refine zn ?_)
  all_goals
    first
    | (refine Q5 rfl ?_ -- Q2Z c0
       all_goals (refine Q0 ?_; refine Q2 ?_; refine zm ?_; refine zn ?_; refine zr ?_; refine zf ?_)
       all_goals (refine ⟨_, rfl, ?_, hS.sp⟩; rw [decide_eq_false]; exact fun e => absurd (congrArg List.length e) (by omega); done))
    | (refine Q4 rfl ?_ -- Q2Z c0
       all_goals refine zsk ?_)
  all_goals (refine Q0 ?_; refine Q0 ?_; refine Q2 ?_; refine zm ?_; refine zn ?_; refine Q8 ?_)
  refine zoL hS [0, 1] (fun A LL ρ' w' => ∃ (j : Nat), Has ρ' A ∧ Has ρ' [(5, .int .i64 j)] ∧ (j ≤ l.length) ∧ (l.length = m.length) ∧ (l = m ↔ l.drop j = m.drop j) ∧ St cx w' (LL)) (fun ρ' _ => (l.length - iv (ρ' 5)).toNat) ?_ ?_
  · exact ⟨0, zh, zh, (by omega), (by omega), by simp, hS.sp⟩
  rintro ρ w1 ⟨j, hA, hρ, hj, hlm, hd, hS⟩; obtain ⟨ρ, rfl⟩ := env2 hA hρ
  unfold Q6V
  all_goals (refine Q0 ?_; refine Q0 ?_; refine Q2 ?_; refine zm ?_; refine zm ?_; refine zL ?_; refine Qp rfl rfl ?_; refine zn ?_)
  refine Ql rfl (fun hc => ?_) (fun hc => ?_)
  · skip
    all_goals (refine zsk ?_; refine Q0 ?_; refine Q8 ?_; refine Q0 ?_; refine zD [(0, none), (1, none), (2, none), (3, none), (4, none), (5, none), (6, none), (7, none), (8, some none)] ?_; have hS := hS.drew; refine zm ?_; refine zm ?_; refine zi ?_; intro b1 o1 cs1 x1 hat1 hx1 he1; obtain rfl := Q3i he1; (first | (refine zl hS ?_) | (refine zlk hS ?_)); refine zm ?_; refine zm ?_; refine zi ?_; intro b2 o2 cs2 x2 hat2 hx2 he2; obtain rfl := Q3i he2; (first | (refine zl hS ?_) | (refine zlk hS ?_)))
    all_goals (first | (refine Q1m ?_) | (refine Q1n ?_) | (refine Qs rfl rfl (fun hc => ?_) (fun hc => ?_)))
    all_goals (refine zn ?_)
    all_goals
      first
      | (refine Q5 rfl ?_ -- Q2Z c2
         all_goals (refine Q0 ?_; refine Q2 ?_; refine zm ?_; refine zn ?_; refine zr ?_; refine zf ?_)
         all_goals (first | (refine ⟨_, rfl, ?_, hS.sp⟩; rw [decide_eq_false]; exact fun e => absurd (congrArg List.length e) (by omega); done) | (refine ⟨_, rfl, ?_, hS.sp⟩; rw [decide_eq_false]; rw [hd, Q7 hx1, Q7 hx2]; simp [*]; done)))
      | (refine Q4 rfl ?_ -- Q2Z c2
         all_goals refine zsk ?_)
    all_goals (refine Q2 ?_; refine zm ?_; refine zad ?_; refine zm ?_; refine zn ?_; exact ⟨⟨j + 1, zh, zh, (by omega), (by omega), by rw [hd, Q7 hx1, Q7 hx2, show x1 = x2 by omega]; simp, hS.sp⟩, Qk (by omega)⟩)
  · skip
    all_goals (refine zex ?_; refine Q0 ?_; refine Q2 ?_; refine zm ?_; refine zn ?_; refine zr ?_; refine zf ?_; (first | (refine ⟨_, rfl, ?_, hS.sp⟩; rw [decide_eq_false]; exact fun e => absurd (congrArg List.length e) (by omega); done) | (refine ⟨_, rfl, ?_, hS.sp⟩; rw [decide_eq_false]; rw [hd, Q7 hx1, Q7 hx2]; simp [*]; done) | (refine ⟨_, rfl, ?_, hS.sp⟩; rw [decide_eq_true]; rw [hd, List.drop_of_length_le (by omega), List.drop_of_length_le (by omega)]; done)))
theorem Qjq {x y : To} {cx : Cx} {w : World} {L : List Res} {cs ds : List Value} (hx : toR.at cx cs x) (hy : toR.at cx ds y) (hS : St cx w L) : Rets Tryz.prog QmU [.agg ⟨cs⟩, .agg ⟨ds⟩] w fun u w' => u = .bool (decide (x = y)) ∧ St cx w' L := by
  obtain ⟨n, xr, xa⟩ := x
  obtain ⟨n2, yr, ya⟩ := y
  obtain ⟨v1, v2, rfl, h1, h2⟩ := Q3K hx
  obtain ⟨v3, v4, rfl, h3, h4⟩ := Q3K hy
  simp only [To.mk.injEq] at *
  all_goals refine Qm5 ?_
  all_goals (unfold R_sameTo_lc; refine Q0 ?_; refine Q2 ?_; refine zb hS ?_; intro p2 w1 hS; refine zb hS ?_; intro p3 w1 hS; refine zm ?_; refine zn ?_; refine Q0 ?_; refine Q2 ?_; refine Q1 rfl ?_; refine zl hS ?_; refine Q1 rfl ?_; refine zl hS ?_)
  all_goals (first | (refine Qq ?_) | (refine Qr ?_) | (refine Qf rfl rfl (fun hc => ?_) (fun hc => ?_)))
  all_goals (refine zm ?_; (first | refine s_gn rfl rfl ?_ | (refine s_gy rfl ?_; refine Q1 rfl ?_)); (first | refine s_gn rfl rfl ?_ | (refine s_gy rfl ?_; refine zl hS ?_)); (first | refine s_gn rfl rfl ?_ | (refine s_gy rfl ?_; refine Q1 rfl ?_)); (first | refine s_gn rfl rfl ?_ | (refine s_gy rfl ?_; refine zl hS ?_)))
  all_goals ((first | (refine s_gn rfl rfl ?_) | (refine s_gy rfl ?_; refine zR2 (c := Q9J h1 h3 hS) (h := ?_); rintro v1 w1 ⟨rfl, hS⟩; (cases hdec : decide (xr = yr)); have hg := of_decide_eq_false hdec; rotate_left; have hg := of_decide_eq_true hdec; all_goals skip)))
  all_goals ((first | (refine zpt ?_) | (refine zpf ?_)); refine zm ?_; (first | refine s_gn rfl rfl ?_ | (refine s_gy rfl ?_; refine Q1 rfl ?_)); (first | refine s_gn rfl rfl ?_ | (refine s_gy rfl ?_; refine zl hS ?_)); (first | refine s_gn rfl rfl ?_ | (refine s_gy rfl ?_; refine Q1 rfl ?_)); (first | refine s_gn rfl rfl ?_ | (refine s_gy rfl ?_; refine zl hS ?_)); (first | (refine s_gn rfl rfl ?_) | (refine s_gy rfl ?_; refine zR2 (c := Q9J h2 h4 hS) (h := ?_); rintro v1 w1 ⟨rfl, hS⟩)); (first | (refine zpt ?_) | (refine zpf ?_)); refine zm ?_; refine zn ?_; refine zr ?_; refine zf ?_; refine ⟨_, rfl, ?_, hS.sp⟩; (simp [*]); done)
theorem Qn6 {x y : Ins} {cx : Cx} {w : World} {L : List Res} {cs ds : List Value} (hx : insR.at cx cs x) (hy : insR.at cx ds y) (hS : St cx w L) : Rets Tryz.prog Qk1 [.agg ⟨cs⟩, .agg ⟨ds⟩] w fun u w' => u = .bool (decide (x = y)) ∧ St cx w' L := by
  obtain ⟨n, a, b, c, k, nn, xr, xa⟩ := x
  obtain ⟨n2, a2, b2, c2, k2, nn2, yr, ya⟩ := y
  obtain ⟨v1, v2, rfl, h1, h2⟩ := Q1u hx
  obtain ⟨v3, v4, rfl, h3, h4⟩ := Q1u hy
  simp only [Ins.mk.injEq] at *
  all_goals refine Qk0 ?_
  all_goals (unfold R_sameIns_lc; refine Q0 ?_; refine Q2 ?_; refine zb hS ?_; intro p2 w1 hS; refine zb hS ?_; intro p3 w1 hS; refine zm ?_; refine zn ?_; refine Q0 ?_; refine Q2 ?_; refine Q1 rfl ?_; refine zl hS ?_; refine Q1 rfl ?_; refine zl hS ?_)
  all_goals (first | (refine Qq ?_) | (refine Qr ?_) | (refine Qf rfl rfl (fun hc => ?_) (fun hc => ?_)))
  all_goals (refine zm ?_; (first | refine s_gn rfl rfl ?_ | (refine s_gy rfl ?_; refine Q1 rfl ?_)); (first | refine s_gn rfl rfl ?_ | (refine s_gy rfl ?_; refine zl hS ?_)); (first | refine s_gn rfl rfl ?_ | (refine s_gy rfl ?_; refine Q1 rfl ?_)); (first | refine s_gn rfl rfl ?_ | (refine s_gy rfl ?_; refine zl hS ?_)))
  all_goals (first | refine s_gn rfl rfl ?_ | (refine s_gy rfl ?_; (first | (refine Qq ?_) | (refine Qr ?_) | (refine Qf rfl rfl (fun hc => ?_) (fun hc => ?_)))))
  all_goals ((first | (refine zpt ?_) | (refine zpf ?_)); refine zm ?_; (first | refine s_gn rfl rfl ?_ | (refine s_gy rfl ?_; refine Q1 rfl ?_)); (first | refine s_gn rfl rfl ?_ | (refine s_gy rfl ?_; refine zl hS ?_)); (first | refine s_gn rfl rfl ?_ | (refine s_gy rfl ?_; refine Q1 rfl ?_)); (first | refine s_gn rfl rfl ?_ | (refine s_gy rfl ?_; refine zl hS ?_)))
  all_goals (first | refine s_gn rfl rfl ?_ | (refine s_gy rfl ?_; (first | (refine Qq ?_) | (refine Qr ?_) | (refine Qf rfl rfl (fun hc => ?_) (fun hc => ?_)))))
  all_goals ((first | (refine zpt ?_) | (refine zpf ?_)); refine zm ?_; (first | refine s_gn rfl rfl ?_ | (refine s_gy rfl ?_; refine Q1 rfl ?_)); (first | refine s_gn rfl rfl ?_ | (refine s_gy rfl ?_; refine zl hS ?_)); (first | refine s_gn rfl rfl ?_ | (refine s_gy rfl ?_; refine Q1 rfl ?_)); (first | refine s_gn rfl rfl ?_ | (refine s_gy rfl ?_; refine zl hS ?_)))
  all_goals (first | refine s_gn rfl rfl ?_ | (refine s_gy rfl ?_; (first | (refine Qq ?_) | (refine Qr ?_) | (refine Qf rfl rfl (fun hc => ?_) (fun hc => ?_)))))
  all_goals ((first | (refine zpt ?_) | (refine zpf ?_)); refine zm ?_; (first | refine s_gn rfl rfl ?_ | (refine s_gy rfl ?_; refine Q1 rfl ?_)); (first | refine s_gn rfl rfl ?_ | (refine s_gy rfl ?_; refine zl hS ?_)); (first | refine s_gn rfl rfl ?_ | (refine s_gy rfl ?_; refine Q1 rfl ?_)); (first | refine s_gn rfl rfl ?_ | (refine s_gy rfl ?_; refine zl hS ?_)))
  all_goals (first | refine s_gn rfl rfl ?_ | (refine s_gy rfl ?_; (first | (refine Qq ?_) | (refine Qr ?_) | (refine Qf rfl rfl (fun hc => ?_) (fun hc => ?_)))))
  all_goals ((first | (refine zpt ?_) | (refine zpf ?_)); refine zm ?_; (first | refine s_gn rfl rfl ?_ | (refine s_gy rfl ?_; refine Q1 rfl ?_)); (first | refine s_gn rfl rfl ?_ | (refine s_gy rfl ?_; refine zl hS ?_)); (first | refine s_gn rfl rfl ?_ | (refine s_gy rfl ?_; refine Q1 rfl ?_)); (first | refine s_gn rfl rfl ?_ | (refine s_gy rfl ?_; refine zl hS ?_)))
  all_goals (first | refine s_gn rfl rfl ?_ | (refine s_gy rfl ?_; (first | (refine Qq ?_) | (refine Qr ?_) | (refine Qf rfl rfl (fun hc => ?_) (fun hc => ?_)))))
  all_goals ((first | (refine zpt ?_) | (refine zpf ?_)); refine zm ?_; (first | refine s_gn rfl rfl ?_ | (refine s_gy rfl ?_; refine Q1 rfl ?_)); (first | refine s_gn rfl rfl ?_ | (refine s_gy rfl ?_; refine zl hS ?_)); (first | refine s_gn rfl rfl ?_ | (refine s_gy rfl ?_; refine Q1 rfl ?_)); (first | refine s_gn rfl rfl ?_ | (refine s_gy rfl ?_; refine zl hS ?_)))
  all_goals ((first | (refine s_gn rfl rfl ?_) | (refine s_gy rfl ?_; refine zR2 (c := Q9J h1 h3 hS) (h := ?_); rintro v1 w1 ⟨rfl, hS⟩; (cases hdec : decide (xr = yr)); have hg := of_decide_eq_false hdec; rotate_left; have hg := of_decide_eq_true hdec; all_goals skip)))
  all_goals ((first | (refine zpt ?_) | (refine zpf ?_)); refine zm ?_; (first | refine s_gn rfl rfl ?_ | (refine s_gy rfl ?_; refine Q1 rfl ?_)); (first | refine s_gn rfl rfl ?_ | (refine s_gy rfl ?_; refine zl hS ?_)); (first | refine s_gn rfl rfl ?_ | (refine s_gy rfl ?_; refine Q1 rfl ?_)); (first | refine s_gn rfl rfl ?_ | (refine s_gy rfl ?_; refine zl hS ?_)); (first | (refine s_gn rfl rfl ?_) | (refine s_gy rfl ?_; refine zR2 (c := Q9J h2 h4 hS) (h := ?_); rintro v1 w1 ⟨rfl, hS⟩)); (first | (refine zpt ?_) | (refine zpf ?_)); refine zm ?_; refine zn ?_; refine zr ?_; refine zf ?_; refine ⟨_, rfl, ?_, hS.sp⟩; (simp [*]); done)
theorem Q3C {l : List Int} (hb : l.length ≤ 1000000) {cx : Cx} {w : World} {L : List Res} {v : Value} (hl : intR.sl cx v l) (hS : St cx w L) : Rets Tryz.prog Qk6 [v] w fun u w' => ∃ c', cx.Le c' ∧ intR.sl c' u l ∧ St c' w' L := by
  have hS := hS.nil (T := 3) (es := 1)
  have hn : intR.ls cx [] [] := Rep.LR.nil _ _ _
  all_goals refine Qk5 ?_
  all_goals (unfold R_ownInts_lc; refine Q0 ?_; refine Q2 ?_; refine zm ?_; refine zn ?_; refine Q0 ?_; refine Q2 ?_; refine zm ?_; refine zn ?_; refine Q0 ?_; refine Q2 ?_; refine zm ?_; refine zm ?_; (first | (refine za el_T46 u_T46 hS ?_; intro vp1 w1 css1 hls1 hv1 hS; have hS := hS.ns) | (refine zak el_T46 u_T46 hS ?_; intro vp1 w1 css1 hls1 hv1 hS; have hS := hS.ns)); refine zm ?_; refine zn ?_; refine zr ?_; refine zf ?_; obtain ⟨c3, hle3, hS, hl3⟩ := St.freezeL (r := intR) (l := l) (T := 3) (es := 1) (L := L) hS.sp hls1 rfl (by omega); exact ⟨_, rfl, c3, hle3, hl3, hS⟩)
theorem Qmy {x : To} (hb1 : x.regs.length ≤ 1000000) (hb2 : x.args.length ≤ 1000000) {cx : Cx} {w : World} {L : List Res} {cs : List Value} (hx : toR.at cx cs x) (hS : St cx w L) : Rets Tryz.prog QoL [.agg ⟨cs⟩] w fun u w' => ∃ c' ds, u = .agg ⟨ds⟩ ∧ cx.Le c' ∧ toR.at c' ds x ∧ St c' w' L := by
  obtain ⟨v1, v2, rfl, h1, h2⟩ := Q3K hx
  all_goals refine Qnz ?_
  all_goals (unfold R_ownTo_lc; refine Q0 ?_; refine Q2 ?_; refine zb hS ?_; intro p1 w1 hS; refine Qc hS ?_; intro p2 w1 hS; refine zn ?_; refine Q0 ?_; refine zC [(0, none), (1, none), (2, none), (3, none), (5, none), (6, none), (4, some (some [1, 6])), (7, some (some [1])), (8, none), (9, some none)] ?_; have hS := hS.drew; refine s_cq ?_; refine Q1 rfl ?_; refine zt ?_; refine s_cq ?_; refine zl hS ?_; refine zt ?_; refine s_cq ?_; refine Q1 rfl ?_; refine zt ?_; refine s_cq ?_; refine zl hS ?_; refine zt ?_; refine s_cq ?_; refine Q1 rfl ?_; refine zt ?_; refine s_cq ?_; refine zl hS ?_; refine zt ?_; refine Qx ?_; refine zR1 (c := Q3C hb1 h1 hS) (h := ?_); rintro v1 w1 ⟨c1, hle, hl1, hS⟩; obtain ⟨a1, n1, rfl⟩ := Rep.SR.shape hl1; have h2 := Rep.SR.up h2 hle; refine zt ?_; refine zy ?_; refine Qx ?_; refine zR1 (c := Q3C hb2 h2 hS) (h := ?_); rintro v1 w1 ⟨c2, hle2, hl2, hS⟩; obtain ⟨a2, n2, rfl⟩ := Rep.SR.shape hl2; have hl1 := Rep.SR.up hl1 hle2; refine zt ?_; refine zy ?_; refine s_cq ?_; refine zb3 [_, _, _] ?_; refine zt ?_; refine s_cf ?_; refine zsn hS ?_; intro w1 hS; have hS := hS.ns; refine zt ?_)
  all_goals (refine zcn ?_; refine zr ?_; refine Q2c vw (Qe (n := 3) (by kernel_rfl) (by kernel_rfl) (hS.blkAt fd) (by rfl) (by rfl)) ?_; exact ⟨_, rfl, c2, _, rfl, hle.trans hle2, ⟨_, _, rfl, hl1, hl2⟩, hS.sp⟩)
end Go.Proofs.YtjecflbbcnocdaaGreatDoor
namespace Go.Proofs.YtjecflbbcnocdaaGreatDoor
open Go.Lir
set_option maxHeartbeats 1000000
attribute [local irreducible] LC.wp Q3 QW Q13 retQ Q2i LO.wp Qv Calls
set_option linter.unusedSimpArgs false
set_option linter.unusedVariables false
theorem Qng {x : Module} {cx : Cx} {w : World} {L : List Res} {cs : List Value} (hx : modR.at cx cs x) (hS : St cx w L) : Rets Tryz.prog QY [.agg ⟨cs⟩] w fun u w' => ∃ b, u = .bool b ∧ (b = false → x.Short) ∧ St cx w' L := by
  obtain ⟨vf, rfl, hl⟩ := Q1B hx
  obtain ⟨l⟩ := x
  have hl : funcR.sl cx vf l := hl
  have hlen := hl.len
  all_goals refine Q9c ?_
  all_goals (unfold R_GreatModule_lc; refine Q0 ?_; refine Q2 ?_; refine zb hS ?_; intro p1 w1 hS; refine zm ?_; refine zn ?_; refine Q0 ?_; refine Q0 ?_; refine Q2 ?_; refine Q1 rfl ?_; refine zl hS ?_; refine zL ?_)
  all_goals (first | (refine Qz ?_) | (refine QF ?_) | (refine Qh rfl rfl (fun hc => ?_) (fun hc => ?_)))
  all_goals (refine zn ?_)
  all_goals
    first
    | (refine Q5 rfl ?_ -- QY c0
       all_goals (refine Q0 ?_; refine Q2 ?_; refine zm ?_; refine zn ?_; refine zr ?_; refine zf ?_)
       all_goals (exact ⟨_, rfl, true, rfl, fun h => Bool.noConfusion h, hS.sp⟩))
    | (refine Q4 rfl ?_ -- QY c0
       all_goals refine zsk ?_)
  all_goals (refine Q0 ?_; refine Q0 ?_; refine Q2 ?_; refine zm ?_; refine zn ?_; refine Q8 ?_)
  refine zoL hS [1] (fun A LL ρ' w' => ∃ (j : Nat), Has ρ' A ∧ Has ρ' [(3, .int .i64 j)] ∧ (j ≤ l.length) ∧ (l.length ≤ 20) ∧ (∀ f ∈ l.take j, f.Short) ∧ St cx w' (LL)) (fun ρ' _ => (l.length - iv (ρ' 3)).toNat) ?_ ?_
  · exact ⟨0, zh, zh, (by omega), (by omega), by simp, hS.sp⟩
  rintro ρ w1 ⟨j, hA, hρ, hj, hl20, hd, hS⟩; obtain ⟨ρ, rfl⟩ := env2 hA hρ
  unfold Q40
  all_goals (refine Q0 ?_; refine Q0 ?_; refine Q2 ?_; refine zm ?_; refine Q1 rfl ?_; refine zl hS ?_; refine zL ?_; refine Qp rfl rfl ?_; refine zn ?_)
  refine Ql rfl (fun hc => ?_) (fun hc => ?_)
  · skip
    all_goals (refine zsk ?_; refine Q0 ?_; refine Q8 ?_; refine Q0 ?_; refine Q2 ?_; refine Q1 rfl ?_; refine zl hS ?_; refine zm ?_; refine zi ?_; intro b1 o1 cs1 x1 hat1 hx1 he1; obtain ⟨vp1, vr1, vb1, rfl, hp1, hr1, hb1⟩ := QQ he1; (first | (refine zv hS ?_) | (refine zvk hS ?_)); refine Qc hS ?_; intro p4 w1 hS; refine zsn hS ?_; intro w1 hS; have hS := hS.ns; refine zn ?_; refine Q0 ?_; refine Q0 ?_; refine Q2 ?_; refine Q1 rfl ?_; refine zl hS ?_; refine zL ?_)
    all_goals (first | (refine Qz ?_) | (refine QF ?_) | (refine Qh rfl rfl (fun hc => ?_) (fun hc => ?_)))
    all_goals (refine zm ?_; (first | refine s_gn rfl rfl ?_ | (refine s_gy rfl ?_; refine Q1 rfl ?_)); (first | refine s_gn rfl rfl ?_ | (refine s_gy rfl ?_; refine zl hS ?_)))
    all_goals ((first | (refine s_gn rfl rfl ?_) | (refine s_gy rfl ?_; refine zR1 (c := QgL hp1 hS) (h := ?_); rintro v1 w1 ⟨rfl, hS⟩; cases hg1 : Tys.great x1.params)))
    all_goals ((first | (refine zpt ?_) | (refine zpf ?_)); refine zm ?_; (first | refine s_gn rfl rfl ?_ | (refine s_gy rfl ?_; refine Q1 rfl ?_)); (first | refine s_gn rfl rfl ?_ | (refine s_gy rfl ?_; refine zl hS ?_)))
    all_goals ((first | (refine s_gn rfl rfl ?_) | (refine s_gy rfl ?_; refine zR1 (c := QgL hr1 hS) (h := ?_); rintro v1 w1 ⟨rfl, hS⟩; cases hg2 : Tys.great x1.results)))
    all_goals ((first | (refine zpt ?_) | (refine zpf ?_)); refine zn ?_)
    all_goals
      first
      | (refine Q5 rfl ?_ -- QY c2
         all_goals (refine Q0 ?_; refine Q2 ?_; refine zm ?_; refine zn ?_; refine zr ?_; refine zf ?_)
         all_goals (exact ⟨_, rfl, true, rfl, fun h => Bool.noConfusion h, hS.sp⟩))
      | (refine Q4 rfl ?_ -- QY c2
         all_goals refine zsk ?_)
    all_goals (refine Q0 ?_; have hlb := hb1.len; refine Q2 ?_; refine zm ?_; refine zn ?_; refine Q8 ?_)
    refine zoL hS [1, 3, 4] (fun A LL ρ' w' => ∃ (i : Nat), Has ρ' A ∧ Has ρ' [(5, .int .i64 i)] ∧ (i ≤ x1.blocks.length) ∧ (x1.blocks.length ≤ 30) ∧ (Tys.great x1.params = false) ∧ (Tys.great x1.results = false) ∧ (∀ f ∈ x1.blocks.take i, f.Short) ∧ St cx w' (LL)) (fun ρ' _ => (x1.blocks.length - iv (ρ' 5)).toNat) ?_ ?_
    · exact ⟨0, zh, zh, (by omega), (by omega), by assumption, by assumption, by simp, hS.sp⟩
    rintro ρ w1 ⟨i, hA, hρ, hi, hl30, hg1, hg2, hd1, hS⟩; obtain ⟨ρ, rfl⟩ := env2 hA hρ
    unfold Q3Z
    all_goals (refine Q0 ?_; refine Q0 ?_; refine Q2 ?_; refine zm ?_; refine Q1 rfl ?_; refine zl hS ?_; refine zL ?_; refine Qp rfl rfl ?_; refine zn ?_)
    refine Ql rfl (fun hc => ?_) (fun hc => ?_)
    · skip
      all_goals (refine zsk ?_; refine Q0 ?_; refine Q8 ?_; refine Q0 ?_; refine Q2 ?_; refine Q1 rfl ?_; refine zl hS ?_; refine zm ?_; refine zi ?_; intro b2 o2 cs2 x2 hat2 hx2 he2; obtain ⟨vp2, vc2, ve21, ve22, ve23, ve24, ve25, rfl, hp2, hc2, he21, he22, he23, he24, he25⟩ := Q12 he2; (first | (refine zv hS ?_) | (refine zvk hS ?_)); refine Qc hS ?_; intro p6 w1 hS; refine zsn hS ?_; intro w1 hS; have hS := hS.ns; refine zn ?_; refine Q0 ?_; refine Q0 ?_; refine Q2 ?_; refine Q1 rfl ?_; refine zl hS ?_; refine zL ?_)
      all_goals (first | (refine Qz ?_) | (refine QF ?_) | (refine Qh rfl rfl (fun hc => ?_) (fun hc => ?_)))
      all_goals (refine zm ?_; (first | refine s_gn rfl rfl ?_ | (refine s_gy rfl ?_; refine Q1 rfl ?_)); (first | refine s_gn rfl rfl ?_ | (refine s_gy rfl ?_; refine zl hS ?_)))
      all_goals ((first | (refine s_gn rfl rfl ?_) | (refine s_gy rfl ?_; refine zR1 (c := QgL hp2 hS) (h := ?_); rintro v1 w1 ⟨rfl, hS⟩; cases hg3 : Tys.great x2.params)))
      all_goals ((first | (refine zpt ?_) | (refine zpf ?_)); refine zm ?_; (first | refine s_gn rfl rfl ?_ | (refine s_gy rfl ?_; refine Q1 rfl ?_)); (first | refine s_gn rfl rfl ?_ | (refine s_gy rfl ?_; (first | refine Q1 rfl ?_ | refine QS rfl ?_))); (first | refine s_gn rfl rfl ?_ | (refine s_gy rfl ?_; refine zl hS ?_)); (first | refine s_gn rfl rfl ?_ | (refine s_gy rfl ?_; refine zL ?_)))
      all_goals (first | refine s_gn rfl rfl ?_ | (refine s_gy rfl ?_; (first | (refine Qz ?_) | (refine QF ?_) | (refine Qh rfl rfl (fun hc => ?_) (fun hc => ?_)))))
      all_goals ((first | (refine zpt ?_) | (refine zpf ?_)); refine zm ?_; (first | refine s_gn rfl rfl ?_ | (refine s_gy rfl ?_; refine Q1 rfl ?_)); (first | refine s_gn rfl rfl ?_ | (refine s_gy rfl ?_; (first | refine Q1 rfl ?_ | refine QS rfl ?_))); (first | refine s_gn rfl rfl ?_ | (refine s_gy rfl ?_; (first | refine Q1 rfl ?_ | refine QS rfl ?_))); (first | refine s_gn rfl rfl ?_ | (refine s_gy rfl ?_; refine zl hS ?_)); (first | refine s_gn rfl rfl ?_ | (refine s_gy rfl ?_; refine zL ?_)))
      all_goals (first | refine s_gn rfl rfl ?_ | (refine s_gy rfl ?_; (first | (refine Qz ?_) | (refine QF ?_) | (refine Qh rfl rfl (fun hc => ?_) (fun hc => ?_)))))
      all_goals ((first | (refine zpt ?_) | (refine zpf ?_)); refine zm ?_; (first | refine s_gn rfl rfl ?_ | (refine s_gy rfl ?_; refine Q1 rfl ?_)); (first | refine s_gn rfl rfl ?_ | (refine s_gy rfl ?_; (first | refine Q1 rfl ?_ | refine QS rfl ?_))); (first | refine s_gn rfl rfl ?_ | (refine s_gy rfl ?_; (first | refine Q1 rfl ?_ | refine QS rfl ?_))); (first | refine s_gn rfl rfl ?_ | (refine s_gy rfl ?_; refine zl hS ?_)); (first | refine s_gn rfl rfl ?_ | (refine s_gy rfl ?_; refine zL ?_)))
      all_goals (first | refine s_gn rfl rfl ?_ | (refine s_gy rfl ?_; (first | (refine Qz ?_) | (refine QF ?_) | (refine Qh rfl rfl (fun hc => ?_) (fun hc => ?_)))))
      all_goals ((first | (refine zpt ?_) | (refine zpf ?_)); refine zm ?_; (first | refine s_gn rfl rfl ?_ | (refine s_gy rfl ?_; refine Q1 rfl ?_)); (first | refine s_gn rfl rfl ?_ | (refine s_gy rfl ?_; (first | refine Q1 rfl ?_ | refine QS rfl ?_))); (first | refine s_gn rfl rfl ?_ | (refine s_gy rfl ?_; (first | refine Q1 rfl ?_ | refine QS rfl ?_))); (first | refine s_gn rfl rfl ?_ | (refine s_gy rfl ?_; refine zl hS ?_)); (first | refine s_gn rfl rfl ?_ | (refine s_gy rfl ?_; refine zL ?_)))
      all_goals (first | refine s_gn rfl rfl ?_ | (refine s_gy rfl ?_; (first | (refine Qz ?_) | (refine QF ?_) | (refine Qh rfl rfl (fun hc => ?_) (fun hc => ?_)))))
      all_goals ((first | (refine zpt ?_) | (refine zpf ?_)); refine zm ?_; (first | refine s_gn rfl rfl ?_ | (refine s_gy rfl ?_; refine Q1 rfl ?_)); (first | refine s_gn rfl rfl ?_ | (refine s_gy rfl ?_; (first | refine Q1 rfl ?_ | refine QS rfl ?_))); (first | refine s_gn rfl rfl ?_ | (refine s_gy rfl ?_; (first | refine Q1 rfl ?_ | refine QS rfl ?_))); (first | refine s_gn rfl rfl ?_ | (refine s_gy rfl ?_; refine zl hS ?_)); (first | refine s_gn rfl rfl ?_ | (refine s_gy rfl ?_; refine zL ?_)))
      all_goals (first | refine s_gn rfl rfl ?_ | (refine s_gy rfl ?_; (first | (refine Qz ?_) | (refine QF ?_) | (refine Qh rfl rfl (fun hc => ?_) (fun hc => ?_)))))
      all_goals ((first | (refine zpt ?_) | (refine zpf ?_)); refine zn ?_)
      all_goals
        first
        | (refine Q5 rfl ?_ -- QY c4
           all_goals (refine Q0 ?_; refine Q2 ?_; refine zm ?_; refine zn ?_; refine zr ?_; refine zf ?_)
           all_goals (exact ⟨_, rfl, true, rfl, fun h => Bool.noConfusion h, hS.sp⟩))
        | (refine Q4 rfl ?_ -- QY c4
           all_goals refine zsk ?_)
      all_goals (refine Q0 ?_; have hlc := hc2.len; refine Q2 ?_; refine zm ?_; refine zn ?_; refine Q8 ?_)
      refine zoL hS [1, 3, 4, 5, 6] (fun A LL ρ' w' => ∃ (k : Nat), Has ρ' A ∧ Has ρ' [(7, .int .i64 k)] ∧ (k ≤ x2.code.length) ∧ (x2.code.length ≤ 200) ∧ (Tys.great x2.params = false) ∧ (x2.fin.Short) ∧ (∀ f ∈ x2.code.take k, f.Short) ∧ St cx w' (LL)) (fun ρ' _ => (x2.code.length - iv (ρ' 7)).toNat) ?_ ?_
      · exact ⟨0, zh, zh, (by omega), (by omega), by assumption, ⟨⟨by omega, by omega⟩, ⟨by omega, by omega⟩, by omega⟩, by simp, hS.sp⟩
      rintro ρ w1 ⟨k, hA, hρ, hk, hl200, hg3, hfin, hd2, hS⟩; obtain ⟨ρ, rfl⟩ := env2 hA hρ
      unfold Q3I
      all_goals (refine Q0 ?_; refine Q0 ?_; refine Q2 ?_; refine zm ?_; refine Q1 rfl ?_; refine zl hS ?_; refine zL ?_; refine Qp rfl rfl ?_; refine zn ?_)
      refine Ql rfl (fun hc => ?_) (fun hc => ?_)
      · skip
        all_goals (refine zsk ?_; refine Q0 ?_; refine Q8 ?_; refine Q0 ?_; refine Q2 ?_; refine Q1 rfl ?_; refine zl hS ?_; refine zm ?_; refine zi ?_; intro b3 o3 cs3 x3 hat3 hx3 he3; obtain ⟨vr3, va3, rfl, hr3, ha3⟩ := Q1u he3; (first | refine Q1 rfl ?_ | refine QS rfl ?_); (first | (refine zl hS ?_) | (refine zlk hS ?_) | (refine zlj hS ?_)); refine zL ?_)
        all_goals (first | (refine Qz ?_) | (refine QF ?_) | (refine Qh rfl rfl (fun hc => ?_) (fun hc => ?_)))
        all_goals (refine zm ?_; (first | refine s_gn rfl rfl ?_ | (refine s_gy rfl ?_; refine Q1 rfl ?_)); (first | refine s_gn rfl rfl ?_ | (refine s_gy rfl ?_; refine zl hS ?_)); (first | refine s_gn rfl rfl ?_ | (refine s_gy rfl ?_; refine zm ?_)); (first | (refine s_gn rfl rfl ?_) | (refine s_gy rfl ?_; refine QnW vw rfl (by assumption) rfl (by omega) ?_; intro b4 o4 cs4 x4 hat4 hx4 he4; rw [hx3] at hx4; obtain rfl : x3 = x4 := Option.some.inj hx4; obtain ⟨vr4, va4, rfl, hr4, ha4⟩ := Q1u he4)); (first | refine s_gn rfl rfl ?_ | (refine s_gy rfl ?_; (first | refine Q1 rfl ?_ | refine QS rfl ?_))); (first | refine s_gn rfl rfl ?_ | (refine s_gy rfl ?_; (first | (refine zl hS ?_) | (refine zlk hS ?_) | (refine zlj hS ?_)))); (first | refine s_gn rfl rfl ?_ | (refine s_gy rfl ?_; refine zL ?_)))
        all_goals (first | refine s_gn rfl rfl ?_ | (refine s_gy rfl ?_; (first | (refine Qz ?_) | (refine QF ?_) | (refine Qh rfl rfl (fun hc => ?_) (fun hc => ?_)))))
        all_goals ((first | (refine zpt ?_) | (refine zpf ?_)); refine zn ?_)
        all_goals
          first
          | (refine Q5 rfl ?_ -- QY c6
             all_goals (refine Q0 ?_; refine Q2 ?_; refine zm ?_; refine zn ?_; refine zr ?_; refine zf ?_)
             all_goals (exact ⟨_, rfl, true, rfl, fun h => Bool.noConfusion h, hS.sp⟩))
          | (refine Q4 rfl ?_ -- QY c6
             all_goals refine zsk ?_)
        all_goals (refine Q2 ?_; refine zm ?_; refine zad ?_; refine zm ?_; refine zn ?_; exact ⟨⟨k + 1, zh, zh, (by omega), (by omega), by assumption, by assumption, Q6R hd2 hx3 ⟨by omega, by omega⟩, hS.sp⟩, Qk (by omega)⟩)
      · skip
        all_goals (refine zex ?_; refine Q2 ?_; refine zm ?_; refine zad ?_; refine zm ?_; refine zn ?_; exact ⟨⟨i + 1, zh, zh, (by omega), (by omega), by assumption, by assumption, Q6R hd1 hx2 ⟨Tys.Short.of_great hg3, by omega, Q9j hd2 (by omega), hfin⟩, hS.sp⟩, Qk (by omega)⟩)
    · skip
      all_goals (refine zex ?_; refine Q2 ?_; refine zm ?_; refine zad ?_; refine zm ?_; refine zn ?_; exact ⟨⟨j + 1, zh, zh, (by omega), (by omega), Q6R hd hx1 ⟨Tys.Short.of_great hg1, Tys.Short.of_great hg2, by omega, Q9j hd1 (by omega)⟩, hS.sp⟩, Qk (by omega)⟩)
  · skip
    all_goals (refine zex ?_; refine Q0 ?_; refine Q2 ?_; refine zm ?_; refine zn ?_; refine zr ?_; refine zf ?_)
    all_goals (first | (exact ⟨_, rfl, true, rfl, fun h => Bool.noConfusion h, hS.sp⟩) | (have h1 : l.length ≤ 100000 := (by omega); exact ⟨_, rfl, false, rfl, fun _ => ⟨h1, Q9j (l := l) hd (by omega)⟩, hS.sp⟩))
end Go.Proofs.YtjecflbbcnocdaaGreatDoor
namespace Go.Proofs.YtjecflbbcnocdaaGreatDoor
open Go.Lir
set_option maxHeartbeats 1000000
attribute [local irreducible] LC.wp Q3 QW Q13 retQ Q2i LO.wp Qv Calls
set_option linter.unusedSimpArgs false
set_option linter.unusedVariables false
variable {cx : Cx} {w : World} {L : List Res} {i : Nat}
abbrev jdg (b : Nat) (vf : Value) (g : Flt) (at' : Int) : Res := blk b 97 [vf, .int .i64 g.1, .int .i64 g.2, .int .i64 at']
theorem Q1Y {is : Bool} {c : Int} {vf : Value} {g : Flt} {at' : Int} {b : Nat} (hc0 : is = true → c ≠ 0) (hS : St cx w L) (hi : nth L i = some (jdg b vf g at')) :
    Rets Tryz.prog Q2w [.pointer (some ⟨b, 0, none⟩), .bool is, .int .i64 c] w fun u w' => u = .tuple #[] ∧ St cx w' (L.set i (jdg b vf (orF g (mkF (if is = true then c else 0) at')) at')) := by
  have hS := hS.out hi
  cases is with
  | false =>
    have e : orF g (mkF (if false = true then c else 0) at') = g := Qnb rfl
    rw [e]
    all_goals refine Q2v ?_
    all_goals (unfold code_judge_fail_lc; refine Q0 ?_; refine Q2 ?_; refine zm ?_; refine zm ?_; refine s_gn rfl rfl ?_; refine s_gn rfl rfl ?_; refine s_gn rfl rfl ?_; refine s_gn rfl rfl ?_; refine s_gn rfl rfl ?_)
    all_goals (refine s_gn rfl rfl ?_)
    all_goals ((first | (refine zpt ?_) | (refine zpf ?_)); refine zn ?_)
    all_goals
      first
      | (refine Q5 rfl ?_ -- Q2w c0
         all_goals (refine Q2 ?_; refine zm ?_; refine zm ?_; refine zm ?_; refine Q1L rfl ?_; refine Q1 rfl ?_; refine zl hS ?_; refine zb2 [_, _] ?_; refine Q1L rfl ?_; refine Q1 rfl ?_; refine zsn hS ?_; intro w1 hS; have hS := hS.ns)
         all_goals refine zn ?_)
      | (refine Q4 rfl ?_ -- Q2w c0
         all_goals refine zsk ?_)
    all_goals (refine Q3U ?_; exact ⟨_, rfl, rfl, St.back hS hi⟩)
  | true =>
    have hc0 := hc0 rfl
    by_cases h0 : g.1 = 0
    · have e : orF g (mkF (if true = true then c else 0) at') = (c, at') := by rw [if_pos rfl, Q6k hc0]; unfold orF; rw [if_pos ⟨h0, hc0⟩]
      rw [e]
      all_goals refine Q2v ?_
      all_goals (unfold code_judge_fail_lc; refine Q0 ?_; refine Q2 ?_; refine zm ?_; refine zm ?_; (first | refine s_gn rfl rfl ?_ | (refine s_gy rfl ?_; refine zm ?_)); (first | refine s_gn rfl rfl ?_ | (refine s_gy rfl ?_; refine Q1L rfl ?_)); (first | refine s_gn rfl rfl ?_ | (refine s_gy rfl ?_; refine Q1 rfl ?_)); (first | refine s_gn rfl rfl ?_ | (refine s_gy rfl ?_; (first | refine Q1 rfl ?_ | refine QS rfl ?_))); (first | refine s_gn rfl rfl ?_ | (refine s_gy rfl ?_; refine zl hS ?_)))
      all_goals (first | refine s_gn rfl rfl ?_ | (refine s_gy rfl ?_; refine Qq ?_))
      all_goals (refine zpt ?_; refine zn ?_)
      all_goals refine Q5 rfl ?_
      all_goals (refine Q2 ?_; refine zm ?_; refine zm ?_; refine zm ?_; refine Q1L rfl ?_; refine Q1 rfl ?_; refine zl hS ?_; refine zb2 [_, _] ?_; refine Q1L rfl ?_; refine Q1 rfl ?_; (first | (refine zsn hS ?_; intro w1 hS; have hS := hS.ns) | (refine zsm hS ?_; intro w1 hS; have hS := hS.ns)); refine zn ?_; refine Q3U ?_; exact ⟨_, rfl, rfl, St.back hS hi⟩)
    · rw [Q3F h0]
      all_goals refine Q2v ?_
      all_goals (unfold code_judge_fail_lc; refine Q0 ?_; refine Q2 ?_; refine zm ?_; refine zm ?_; (first | refine s_gn rfl rfl ?_ | (refine s_gy rfl ?_; refine zm ?_)); (first | refine s_gn rfl rfl ?_ | (refine s_gy rfl ?_; refine Q1L rfl ?_)); (first | refine s_gn rfl rfl ?_ | (refine s_gy rfl ?_; refine Q1 rfl ?_)); (first | refine s_gn rfl rfl ?_ | (refine s_gy rfl ?_; (first | refine Q1 rfl ?_ | refine QS rfl ?_))); (first | refine s_gn rfl rfl ?_ | (refine s_gy rfl ?_; refine zl hS ?_)))
      all_goals (first | refine s_gn rfl rfl ?_ | (refine s_gy rfl ?_; (first | (refine Qq ?_) | (refine Qr ?_))))
      all_goals (refine zpt ?_; refine zn ?_)
      all_goals refine Q4 rfl ?_
      all_goals (refine zsk ?_; refine Q3U ?_; exact ⟨_, rfl, rfl, St.back hS hi⟩)
theorem uindex_c {s : List UInt8} {c : Nat} {v : Value} (hK : u8R.sl cx v s) (hS : St cx w L) : Rets Tryz.prog Q1q [v, .int .u8 c] w fun u w' => ∃ r : Int, u = .int .i64 r ∧ (0 ≤ r ↔ (s.any fun b => decide (b.toNat = c)) = true) ∧ St cx w' L := by
  have hlen := hK.len
  all_goals refine Q3z ?_
  all_goals (unfold slices_Index_byte_byte_lc; refine Q0 ?_; refine Q2 ?_; refine zm ?_; refine zn ?_; refine Q0 ?_; refine Q0 ?_; refine Q2 ?_; refine zm ?_; refine zL ?_; refine zm ?_; refine zn ?_; refine Q8 ?_)
  refine zoL hS [0, 1, 7] (fun A LL ρ' w' => ∃ (j : Nat), Has ρ' A ∧ Has ρ' [(8, .int .i64 j)] ∧ (j ≤ s.length) ∧ ((s.any fun b => decide (b.toNat = c)) = ((s.drop j).any fun b => decide (b.toNat = c))) ∧ St cx w' (LL)) (fun ρ' _ => (s.length - iv (ρ' 8)).toNat) ?_ ?_
  · exact ⟨0, zh, zh, (by omega), by simp, hS.sp⟩
  rintro ρ w1 ⟨j, hA, hρ, hj, hd, hS⟩; obtain ⟨ρ, rfl⟩ := env2 hA hρ
  unfold Q29
  all_goals (refine Q0 ?_; refine Q2 ?_; refine Qp rfl rfl ?_; refine zn ?_; refine Q0 ?_)
  refine Ql rfl (fun hc => ?_) (fun hc => ?_)
  · skip
    all_goals (refine zsk ?_; refine Q0 ?_; refine Q8 ?_; refine Q0 ?_; refine Q2 ?_; refine zm ?_; refine zm ?_; refine zn ?_; refine Q0 ?_; refine Q2 ?_; refine zm ?_; refine zm ?_; refine zm ?_; refine zi ?_; intro b1 o1 cs1 x1 hat1 hx1 he1; (first | (obtain rfl := Q3i he1) | (obtain rfl := u8R_out he1)); (first | (refine zl hS ?_) | (refine zlk hS ?_)))
    all_goals (first | (refine Qq ?_) | (refine Qr ?_) | (refine Qf rfl rfl (fun hc => ?_) (fun hc => ?_)))
    all_goals (refine zn ?_)
    all_goals
      first
      | (refine Q5 rfl ?_ -- Q1q c1
         all_goals (refine Q0 ?_; refine Q2 ?_; refine zm ?_; refine zm ?_; refine zn ?_; refine zr ?_; refine zf ?_)
         all_goals (exact ⟨_, rfl, j, rfl, by rw [hd, Q7 hx1, List.any_cons, decide_eq_true (by omega), Bool.true_or]; simp, hS.sp⟩))
      | (refine Q4 rfl ?_ -- Q1q c1
         all_goals refine zsk ?_)
    all_goals (refine Q2 ?_; refine zad ?_; refine zm ?_; refine zn ?_; exact ⟨⟨j + 1, zh, zh, (by omega), by rw [hd, Q7 hx1, List.any_cons, decide_eq_false (by omega), Bool.false_or], hS.sp⟩, Qk (by omega)⟩)
  · skip
    all_goals (refine zex ?_; refine Q0 ?_; refine Q2 ?_; refine zm ?_; refine zn ?_; refine zr ?_; refine zf ?_; (first | (exact ⟨_, rfl, j, rfl, by rw [hd, Q7 hx1, List.any_cons, decide_eq_true (by omega), Bool.true_or]; simp, hS.sp⟩) | (exact ⟨_, rfl, -1, rfl, by rw [hd, List.drop_of_length_le (by omega)]; simp, hS.sp⟩)))
theorem Ql8 {s : List UInt8} {c : Nat} {v : Value} (hK : u8R.sl cx v s) (hS : St cx w L) : Rets Tryz.prog Q2a [v, .int .u8 c] w fun u w' => u = .bool (s.any fun b => decide (b.toNat = c)) ∧ St cx w' L := by
  all_goals refine Q2U ?_
  all_goals (unfold slices_Contains_byte_byte_lc; refine Q0 ?_; refine Q2 ?_; refine zm ?_; refine zn ?_; refine Q0 ?_; refine Q2 ?_; refine zm ?_; refine zm ?_; refine zR2 (c := uindex_c hK hS) (h := ?_); rintro v1 w1 ⟨r, rfl, hr, hS⟩)
  all_goals (first | (refine Q9k ?_) | (refine Q9l ?_) | (refine Q34 rfl rfl (fun hc => ?_) (fun hc => ?_)))
  all_goals (refine zm ?_; refine zn ?_; refine zr ?_; refine zf ?_)
  all_goals (refine ⟨_, rfl, ?_, hS.sp⟩; (cases hb : (s.any fun b => decide (b.toNat = c)) <;> simp_all); done)
theorem Q9m {s : ByteArray} {c : Nat} (hs : s.size ≤ 1000000) (hS : St cx w L) : Rets Tryz.prog QjP [.string s, .int .u8 c] w fun u w' => u = .bool (Q1i s c) ∧ St cx w' L := by
  have hle := St.refl hS
  all_goals refine QjO ?_
  all_goals (unfold code_with_lc; refine Q0 ?_; refine Q2 ?_; refine zm ?_; refine zn ?_; refine Q0 ?_; refine Q2 ?_; refine zm ?_; refine s_bytes (e := 5) (by kernel_rfl) (by kernel_rfl) (by kernel_rfl) hS vw ?_; intro v1 w1 hS; obtain ⟨c1, hle2, hS, hk1⟩ := St.freezeL (r := u8R) hS (u8R_ls _) rfl (by rw [Array.length_toList]; show s.size ≤ 140737488355328; omega); refine zm ?_; refine zR2 (c := Ql8 hk1 hS) (h := ?_); rintro v1 w1 ⟨rfl, hS⟩; refine zm ?_; refine zn ?_; refine zr ?_; refine zf ?_; exact ⟨_, rfl, rfl, St.weak hS.sp hle2⟩)
theorem has_c {op : Int} (hS : St cx w L) : Rets Tryz.prog QmP [.int .i64 op] w fun u w' => u = .string (hasF op) ∧ St cx w' L := by
  by_cases hb : op < 1 ∨ 14 < op
  · have e : hasF op = ⟨#[]⟩ := by unfold hasF; rw [if_pos hb]
    rw [e]
    all_goals refine Qav ?_
    all_goals (unfold code_has_lc; refine Q0 ?_; refine Q2 ?_; refine zm ?_; refine zn ?_; refine Q0 ?_; refine Q0 ?_; refine Q2 ?_; refine zm ?_)
    all_goals (first | (refine Q1z ?_) | (refine Q1A ?_) | (refine QK rfl rfl (fun hc => ?_) (fun hc => ?_)))
    all_goals (refine zm ?_; (first | refine s_gn rfl rfl ?_ | (refine s_gy rfl ?_; refine zm ?_)))
    all_goals (first | refine s_gn rfl rfl ?_ | (refine s_gy rfl ?_; refine Qz ?_))
    all_goals ((first | (refine zpt ?_) | (refine zpf ?_)); refine zn ?_)
    all_goals refine Q5 rfl ?_
    all_goals (refine Q0 ?_; refine Q2 ?_; refine zm ?_; refine zn ?_; refine zr ?_; refine zf ?_; refine ⟨_, rfl, ?_, hS.sp⟩; (rfl); done)
  · have hu : (hasTab.map Value.string)[op.toNat]? = some (.string (hasF op)) := by
      rcases op_cases (op := op) (by omega) (by omega) with rfl | rfl | rfl | rfl | rfl | rfl | rfl | rfl | rfl | rfl | rfl | rfl | rfl | rfl <;> rfl
    generalize hasF op = s at hu ⊢
    all_goals refine Qav ?_
    all_goals (unfold code_has_lc; refine Q0 ?_; refine Q2 ?_; refine zm ?_; refine zn ?_; refine Q0 ?_; refine Q0 ?_; refine Q2 ?_; refine zm ?_)
    all_goals (first | (refine Q1z ?_) | (refine Q1A ?_))
    all_goals (refine zm ?_; (first | refine s_gn rfl rfl ?_ | (refine s_gy rfl ?_; refine zm ?_)))
    all_goals (first | refine s_gn rfl rfl ?_ | (refine s_gy rfl ?_; (first | (refine Qz ?_) | (refine QF ?_))))
    all_goals ((first | (refine zpt ?_) | (refine zpf ?_)); refine zn ?_)
    all_goals refine Q4 rfl ?_
    all_goals (refine zsk ?_; refine Q0 ?_; refine Q2 ?_; refine Q9I (cs := [_, _, _, _, _, _, _, _, _, _, _, _, _, _, _]) vw vw vw vw vw vw vw vw vw vw vw vw vw vw vw (by rfl) ?_; refine zm ?_; refine Qjm (n := 15) (e := 9) (by kernel_rfl) (by kernel_rfl) (by kernel_rfl) vw vw (by omega) (by omega) hu ?_; refine zm ?_; refine zn ?_; refine zr ?_; refine zf ?_; refine ⟨_, rfl, ?_, hS.sp⟩; (rfl); done)
theorem Qow (op : Int) : (hasF op).size ≤ 1000000 := by
  by_cases hb : op < 1 ∨ 14 < op
  · unfold hasF; rw [if_pos hb]; decide
  · rcases op_cases (op := op) (by omega) (by omega) with rfl | rfl | rfl | rfl | rfl | rfl | rfl | rfl | rfl | rfl | rfl | rfl | rfl | rfl <;> decide
theorem ins_end {g : Flt} {at' : Int} {n : Nat} {x : Ins} {q : Bool} {c3 : Int} (hq : q = true ↔ (((((((Q1i (hasF x.op) 97 = false ∧ x.a ≠ 0) ∨ (Q1i (hasF x.op) 98 = false ∧ x.b ≠ 0)) ∨ (Q1i (hasF x.op) 99 = false ∧ x.c ≠ 0)) ∨ (Q1i (hasF x.op) 107 = false ∧ x.k ≠ 0)) ∨ (Q1i (hasF x.op) 110 = false ∧ x.n ≠ 0)) ∨ (Q1i (hasF x.op) 103 = false ∧ 0 < x.regs.length)) ∨ (Q1i (hasF x.op) 114 = false ∧ 0 < x.args.length))) (h3 : c3 = Q1H n x) :
    orF (orF (orF g (mkF (if x.op < 1 ∨ 14 < x.op then 3 else 0) at')) (mkF (if q = true then 4 else 0) at')) (mkF c3 at') = orF g (mkF (Q1I n x) at') := by
  rw [Q2t, Q2t]
  congr 2
  subst h3
  unfold Q1I
  by_cases hb : x.op < 1 ∨ 14 < x.op
  · rw [if_pos hb, if_pos hb]; rfl
  · rw [if_neg hb, if_neg hb]
    obtain ⟨h1, h2, h3, h4, h5, h6, h7⟩ := with_all x.op hb
    rw [h1, h2, h3, h4, h5, h6, h7] at hq
    simp only [or_assoc] at hq
    by_cases ho : x.odd
    · rw [if_pos ho, if_pos (hq.2 ho)]; rfl
    · rw [if_neg ho, if_neg fun h => ho (hq.1 h)]; rfl
theorem Q4j {a b : Int} (h : a ≠ 0) : orC a b = a := if_pos h
theorem Q41 (b : Int) : orC 0 b = b := rfl
section
attribute [local irreducible] orF mkF orC Q1H Q1I Q1S Q2k
set_option maxHeartbeats 1000000 in
theorem ins_c {x : Ins} {n : List Fun} {vf : Value} {g : Flt} {at' : Int} {b : Nat} {cs : List Value} (hx : insR.at cx cs x) (hf : funcR.sl cx vf n) (hS : St cx w L) (hi : nth L i = some (jdg b vf g at')) :
    Rets Tryz.prog QH [.pointer (some ⟨b, 0, none⟩), .agg ⟨cs⟩] w fun u w' => u = .tuple #[] ∧ St cx w' (L.set i (jdg b vf (orF g (mkF (Q1I n.length x) at')) at')) := by
  have hS := hS.out hi
  obtain ⟨vr, va, rfl, hr, ha⟩ := Q1u hx
  have hlr := hr.len
  have hla := ha.len
  have hln := hf.len
  have hsz := Qow x.op
  all_goals refine Q7y ?_
  all_goals (unfold code_judge_ins_lc; refine Q0 ?_; refine Q2 ?_; refine zb hS ?_; intro p3 w1 hS; refine zn ?_)
  refine zM [0, 3] (fun A ρ' w' => Has ρ' A ∧ Has ρ' [] ∧ St cx w' (blk p3 54 [.int .i64 x.op, .int .i64 x.a, .int .i64 x.b, .int .i64 x.c, .int .i64 x.k, .int .i64 x.n, vr, va] :: jdg b vf (orF g (mkF (if x.op < 1 ∨ 14 < x.op then 3 else 0) at')) at' :: L.eraseIdx i)) ?_ ?_
  · skip
    all_goals (refine Q2 ?_; refine zm ?_; refine Q1 rfl ?_; refine zl hS ?_)
    all_goals (first | (refine Q1z ?_) | (refine Q1A ?_) | (refine QK rfl rfl (fun hc => ?_) (fun hc => ?_)))
    all_goals (refine zm ?_; (first | refine s_gn rfl rfl ?_ | (refine s_gy rfl ?_; refine Q1 rfl ?_)); (first | refine s_gn rfl rfl ?_ | (refine s_gy rfl ?_; refine zl hS ?_)))
    all_goals (first | refine s_gn rfl rfl ?_ | (refine s_gy rfl ?_; (first | (refine Qz ?_) | (refine QF ?_) | (refine Qh rfl rfl (fun hc => ?_) (fun hc => ?_)))))
    all_goals ((first | (refine zpt ?_) | (refine zpf ?_)); refine zR3 (c := Q1Y (by intro _; decide) hS fd) (h := ?_); rintro v1 w1 ⟨rfl, hS⟩; simp only [List.set_cons_zero, List.set_cons_succ, if_true, Bool.false_eq_true, if_false] at hS; refine zn ?_; exact ⟨zh, zh, by first | (rw [if_pos (by omega)]; exact hS.sp) | (rw [if_neg (by omega)]; exact hS.sp)⟩)
  rintro ρ w1 ⟨hA, hρ, hS⟩; obtain ⟨ρ, rfl⟩ := env2 hA hρ
  all_goals (refine Q0 ?_; refine Q2 ?_; refine Q1 rfl ?_; refine zl hS ?_; refine zR1 (c := has_c hS) (h := ?_); rintro v1 w1 ⟨rfl, hS⟩; refine zm ?_; refine zn ?_; generalize hh : hasF x.op = h at *; refine Q0 ?_; refine Q2 ?_)
  refine zKL hS 9 [0, 3, 4] (fun A LL ρ' w' => ∃ (q1 : Bool), Has ρ' A ∧ Has ρ' [(18, .pointer (some ⟨b, 0, none⟩)), (26, .bool q1)] ∧ (q1 = true ↔ (Q1i h 97 = false ∧ x.a ≠ 0)) ∧ St cx w' (LL)) ?_ ?_
  · skip
    all_goals (refine zm ?_; refine zm ?_; refine zR2 (c := Q9m hsz hS) (h := ?_); rintro v1 w1 ⟨rfl, hS⟩)
    all_goals (cases ha1 : Q1i h 97)
    all_goals (refine Q1G rfl ?_; refine zm ?_; (first | refine s_gn rfl rfl ?_ | (refine s_gy rfl ?_; refine Q1 rfl ?_)); (first | refine s_gn rfl rfl ?_ | (refine s_gy rfl ?_; refine zl hS ?_)))
    all_goals (first | refine s_gn rfl rfl ?_ | (refine s_gy rfl ?_; (first | (refine Q1m ?_) | (refine Q1n ?_) | (refine Qs rfl rfl (fun hc => ?_) (fun hc => ?_)))))
    all_goals ((first | (refine zpt ?_) | (refine zpf ?_)); refine Q3M ?_; refine Q1X ?_)
    all_goals (first | (exact ⟨_, zh, zh, by exact ⟨fun _ => ⟨(by first | rfl | assumption), by omega⟩, fun _ => rfl⟩, hS.sp⟩) | (exact ⟨_, zh, zh, by exact ⟨fun h => Bool.noConfusion h, fun h => by obtain ⟨h1, h2⟩ := h; first | (exfalso; omega) | (simp_all; done)⟩, hS.sp⟩))
  rintro ρ w1 ⟨q1, hA, hρ, hq1, hS⟩; obtain ⟨ρ, rfl⟩ := env2 hA hρ
  refine zKL hS 10 [0, 3, 4, 18] (fun A LL ρ' w' => ∃ (q2 : Bool), Has ρ' A ∧ Has ρ' [(36, .bool q2)] ∧ (q2 = true ↔ ((Q1i h 97 = false ∧ x.a ≠ 0) ∨ (Q1i h 98 = false ∧ x.b ≠ 0))) ∧ St cx w' (LL)) ?_ ?_
  · skip
    all_goals (cases q1)
    all_goals (refine zm ?_; (first | refine s_gn rfl rfl ?_ | (refine s_gy rfl ?_; refine zm ?_)); (first | refine s_gn rfl rfl ?_ | (refine s_gy rfl ?_; refine zR2 (c := Q9m hsz hS) (h := ?_); rintro v1 w1 ⟨rfl, hS⟩)))
    all_goals (cases ha2 : Q1i h 98)
    all_goals ((first | refine s_gn rfl rfl ?_ | (refine s_gy rfl ?_; refine Q1G rfl ?_)); (first | refine s_gn rfl rfl ?_ | (refine s_gy rfl ?_; refine zm ?_)); (first | refine s_gn rfl rfl ?_ | (refine s_gy rfl ?_; refine Q1 rfl ?_)); (first | refine s_gn rfl rfl ?_ | (refine s_gy rfl ?_; refine zl hS ?_)))
    all_goals (first | refine s_gn rfl rfl ?_ | (refine s_gy rfl ?_; (first | (refine Q1m ?_) | (refine Q1n ?_) | (refine Qs rfl rfl (fun hc => ?_) (fun hc => ?_)))))
    all_goals ((first | refine s_gn rfl rfl ?_ | (refine s_gy rfl ?_; (first | (refine zpt ?_) | (refine zpf ?_)))); (first | (refine zpt ?_) | (refine zpf ?_)); refine Q3M ?_; refine Q1X ?_)
    all_goals (first | (exact ⟨_, zh, zh, by exact ⟨fun _ => .inl (hq1.1 rfl), fun _ => rfl⟩, hS.sp⟩) | (exact ⟨_, zh, zh, by exact ⟨fun _ => .inr ⟨(by first | rfl | assumption), by omega⟩, fun _ => rfl⟩, hS.sp⟩) | (exact ⟨_, zh, zh, by exact ⟨fun h => Bool.noConfusion h, fun h => h.elim (fun h => hq1.2 h) (fun h => by obtain ⟨h1, h2⟩ := h; first | (exfalso; omega) | (simp_all; done))⟩, hS.sp⟩))
  rintro ρ w1 ⟨q2, hA, hρ, hq2, hS⟩; obtain ⟨ρ, rfl⟩ := env2 hA hρ
  refine zKL hS 10 [0, 3, 4, 18] (fun A LL ρ' w' => ∃ (q3 : Bool), Has ρ' A ∧ Has ρ' [(46, .bool q3)] ∧ (q3 = true ↔ (((Q1i h 97 = false ∧ x.a ≠ 0) ∨ (Q1i h 98 = false ∧ x.b ≠ 0)) ∨ (Q1i h 99 = false ∧ x.c ≠ 0))) ∧ St cx w' (LL)) ?_ ?_
  · skip
    all_goals (cases q2)
    all_goals (refine zm ?_; (first | refine s_gn rfl rfl ?_ | (refine s_gy rfl ?_; refine zm ?_)); (first | refine s_gn rfl rfl ?_ | (refine s_gy rfl ?_; refine zR2 (c := Q9m hsz hS) (h := ?_); rintro v1 w1 ⟨rfl, hS⟩)))
    all_goals (cases ha3 : Q1i h 99)
    all_goals ((first | refine s_gn rfl rfl ?_ | (refine s_gy rfl ?_; refine Q1G rfl ?_)); (first | refine s_gn rfl rfl ?_ | (refine s_gy rfl ?_; refine zm ?_)); (first | refine s_gn rfl rfl ?_ | (refine s_gy rfl ?_; refine Q1 rfl ?_)); (first | refine s_gn rfl rfl ?_ | (refine s_gy rfl ?_; refine zl hS ?_)))
    all_goals (first | refine s_gn rfl rfl ?_ | (refine s_gy rfl ?_; (first | (refine Q1m ?_) | (refine Q1n ?_) | (refine Qs rfl rfl (fun hc => ?_) (fun hc => ?_)))))
    all_goals ((first | refine s_gn rfl rfl ?_ | (refine s_gy rfl ?_; (first | (refine zpt ?_) | (refine zpf ?_)))); (first | (refine zpt ?_) | (refine zpf ?_)); refine Q3M ?_; refine Q1X ?_)
    all_goals (first | (exact ⟨_, zh, zh, by exact ⟨fun _ => .inl (hq2.1 rfl), fun _ => rfl⟩, hS.sp⟩) | (exact ⟨_, zh, zh, by exact ⟨fun _ => .inr ⟨(by first | rfl | assumption), by omega⟩, fun _ => rfl⟩, hS.sp⟩) | (exact ⟨_, zh, zh, by exact ⟨fun h => Bool.noConfusion h, fun h => h.elim (fun h => hq2.2 h) (fun h => by obtain ⟨h1, h2⟩ := h; first | (exfalso; omega) | (simp_all; done))⟩, hS.sp⟩))
  rintro ρ w1 ⟨q3, hA, hρ, hq3, hS⟩; obtain ⟨ρ, rfl⟩ := env2 hA hρ
  refine zKL hS 10 [0, 3, 4, 18] (fun A LL ρ' w' => ∃ (q4 : Bool), Has ρ' A ∧ Has ρ' [(56, .bool q4)] ∧ (q4 = true ↔ ((((Q1i h 97 = false ∧ x.a ≠ 0) ∨ (Q1i h 98 = false ∧ x.b ≠ 0)) ∨ (Q1i h 99 = false ∧ x.c ≠ 0)) ∨ (Q1i h 107 = false ∧ x.k ≠ 0))) ∧ St cx w' (LL)) ?_ ?_
  · skip
    all_goals (cases q3)
    all_goals (refine zm ?_; (first | refine s_gn rfl rfl ?_ | (refine s_gy rfl ?_; refine zm ?_)); (first | refine s_gn rfl rfl ?_ | (refine s_gy rfl ?_; refine zR2 (c := Q9m hsz hS) (h := ?_); rintro v1 w1 ⟨rfl, hS⟩)))
    all_goals (cases ha4 : Q1i h 107)
    all_goals ((first | refine s_gn rfl rfl ?_ | (refine s_gy rfl ?_; refine Q1G rfl ?_)); (first | refine s_gn rfl rfl ?_ | (refine s_gy rfl ?_; refine zm ?_)); (first | refine s_gn rfl rfl ?_ | (refine s_gy rfl ?_; refine Q1 rfl ?_)); (first | refine s_gn rfl rfl ?_ | (refine s_gy rfl ?_; refine zl hS ?_)))
    all_goals (first | refine s_gn rfl rfl ?_ | (refine s_gy rfl ?_; (first | (refine Q1m ?_) | (refine Q1n ?_) | (refine Qs rfl rfl (fun hc => ?_) (fun hc => ?_)))))
    all_goals ((first | refine s_gn rfl rfl ?_ | (refine s_gy rfl ?_; (first | (refine zpt ?_) | (refine zpf ?_)))); (first | (refine zpt ?_) | (refine zpf ?_)); refine Q3M ?_; refine Q1X ?_)
    all_goals (first | (exact ⟨_, zh, zh, by exact ⟨fun _ => .inl (hq3.1 rfl), fun _ => rfl⟩, hS.sp⟩) | (exact ⟨_, zh, zh, by exact ⟨fun _ => .inr ⟨(by first | rfl | assumption), by omega⟩, fun _ => rfl⟩, hS.sp⟩) | (exact ⟨_, zh, zh, by exact ⟨fun h => Bool.noConfusion h, fun h => h.elim (fun h => hq3.2 h) (fun h => by obtain ⟨h1, h2⟩ := h; first | (exfalso; omega) | (simp_all; done))⟩, hS.sp⟩))
  rintro ρ w1 ⟨q4, hA, hρ, hq4, hS⟩; obtain ⟨ρ, rfl⟩ := env2 hA hρ
  refine zKL hS 10 [0, 3, 4, 18] (fun A LL ρ' w' => ∃ (q5 : Bool), Has ρ' A ∧ Has ρ' [(66, .bool q5)] ∧ (q5 = true ↔ (((((Q1i h 97 = false ∧ x.a ≠ 0) ∨ (Q1i h 98 = false ∧ x.b ≠ 0)) ∨ (Q1i h 99 = false ∧ x.c ≠ 0)) ∨ (Q1i h 107 = false ∧ x.k ≠ 0)) ∨ (Q1i h 110 = false ∧ x.n ≠ 0))) ∧ St cx w' (LL)) ?_ ?_
  · skip
    all_goals (cases q4)
    all_goals (refine zm ?_; (first | refine s_gn rfl rfl ?_ | (refine s_gy rfl ?_; refine zm ?_)); (first | refine s_gn rfl rfl ?_ | (refine s_gy rfl ?_; refine zR2 (c := Q9m hsz hS) (h := ?_); rintro v1 w1 ⟨rfl, hS⟩)))
    all_goals (cases ha5 : Q1i h 110)
    all_goals ((first | refine s_gn rfl rfl ?_ | (refine s_gy rfl ?_; refine Q1G rfl ?_)); (first | refine s_gn rfl rfl ?_ | (refine s_gy rfl ?_; refine zm ?_)); (first | refine s_gn rfl rfl ?_ | (refine s_gy rfl ?_; refine Q1 rfl ?_)); (first | refine s_gn rfl rfl ?_ | (refine s_gy rfl ?_; refine zl hS ?_)))
    all_goals (first | refine s_gn rfl rfl ?_ | (refine s_gy rfl ?_; (first | (refine Q1m ?_) | (refine Q1n ?_) | (refine Qs rfl rfl (fun hc => ?_) (fun hc => ?_)))))
    all_goals ((first | refine s_gn rfl rfl ?_ | (refine s_gy rfl ?_; (first | (refine zpt ?_) | (refine zpf ?_)))); (first | (refine zpt ?_) | (refine zpf ?_)); refine Q3M ?_; refine Q1X ?_)
    all_goals (first | (exact ⟨_, zh, zh, by exact ⟨fun _ => .inl (hq4.1 rfl), fun _ => rfl⟩, hS.sp⟩) | (exact ⟨_, zh, zh, by exact ⟨fun _ => .inr ⟨(by first | rfl | assumption), by omega⟩, fun _ => rfl⟩, hS.sp⟩) | (exact ⟨_, zh, zh, by exact ⟨fun h => Bool.noConfusion h, fun h => h.elim (fun h => hq4.2 h) (fun h => by obtain ⟨h1, h2⟩ := h; first | (exfalso; omega) | (simp_all; done))⟩, hS.sp⟩))
  rintro ρ w1 ⟨q5, hA, hρ, hq5, hS⟩; obtain ⟨ρ, rfl⟩ := env2 hA hρ
  refine zKL hS 11 [0, 3, 4, 18] (fun A LL ρ' w' => ∃ (q6 : Bool), Has ρ' A ∧ Has ρ' [(77, .bool q6)] ∧ (q6 = true ↔ ((((((Q1i h 97 = false ∧ x.a ≠ 0) ∨ (Q1i h 98 = false ∧ x.b ≠ 0)) ∨ (Q1i h 99 = false ∧ x.c ≠ 0)) ∨ (Q1i h 107 = false ∧ x.k ≠ 0)) ∨ (Q1i h 110 = false ∧ x.n ≠ 0)) ∨ (Q1i h 103 = false ∧ 0 < x.regs.length))) ∧ St cx w' (LL)) ?_ ?_
  · skip
    all_goals (cases q5)
    all_goals (refine zm ?_; (first | refine s_gn rfl rfl ?_ | (refine s_gy rfl ?_; refine zm ?_)); (first | refine s_gn rfl rfl ?_ | (refine s_gy rfl ?_; refine zR2 (c := Q9m hsz hS) (h := ?_); rintro v1 w1 ⟨rfl, hS⟩)))
    all_goals (cases ha6 : Q1i h 103)
    all_goals ((first | refine s_gn rfl rfl ?_ | (refine s_gy rfl ?_; refine Q1G rfl ?_)); (first | refine s_gn rfl rfl ?_ | (refine s_gy rfl ?_; refine zm ?_)); (first | refine s_gn rfl rfl ?_ | (refine s_gy rfl ?_; refine Q1 rfl ?_)); (first | refine s_gn rfl rfl ?_ | (refine s_gy rfl ?_; refine zl hS ?_)); (first | refine s_gn rfl rfl ?_ | (refine s_gy rfl ?_; refine zL ?_)))
    all_goals (first | refine s_gn rfl rfl ?_ | (refine s_gy rfl ?_; (first | (refine Qz ?_) | (refine QF ?_) | (refine Qh rfl rfl (fun hc => ?_) (fun hc => ?_)))))
    all_goals ((first | refine s_gn rfl rfl ?_ | (refine s_gy rfl ?_; (first | (refine zpt ?_) | (refine zpf ?_)))); (first | (refine zpt ?_) | (refine zpf ?_)); refine Q3M ?_; refine Q1X ?_)
    all_goals (first | (exact ⟨_, zh, zh, by exact ⟨fun _ => .inl (hq5.1 rfl), fun _ => rfl⟩, hS.sp⟩) | (exact ⟨_, zh, zh, by exact ⟨fun _ => .inr ⟨(by first | rfl | assumption), by omega⟩, fun _ => rfl⟩, hS.sp⟩) | (exact ⟨_, zh, zh, by exact ⟨fun h => Bool.noConfusion h, fun h => h.elim (fun h => hq5.2 h) (fun h => by obtain ⟨h1, h2⟩ := h; first | (exfalso; omega) | (simp_all; done))⟩, hS.sp⟩))
  rintro ρ w1 ⟨q6, hA, hρ, hq6, hS⟩; obtain ⟨ρ, rfl⟩ := env2 hA hρ
  refine zKL hS 11 [0, 3, 18] (fun A LL ρ' w' => ∃ (q7 : Bool), Has ρ' A ∧ Has ρ' [(88, .bool q7)] ∧ (q7 = true ↔ (((((((Q1i h 97 = false ∧ x.a ≠ 0) ∨ (Q1i h 98 = false ∧ x.b ≠ 0)) ∨ (Q1i h 99 = false ∧ x.c ≠ 0)) ∨ (Q1i h 107 = false ∧ x.k ≠ 0)) ∨ (Q1i h 110 = false ∧ x.n ≠ 0)) ∨ (Q1i h 103 = false ∧ 0 < x.regs.length)) ∨ (Q1i h 114 = false ∧ 0 < x.args.length))) ∧ St cx w' (LL)) ?_ ?_
  · skip
    all_goals (cases q6)
    all_goals (refine zm ?_; (first | refine s_gn rfl rfl ?_ | (refine s_gy rfl ?_; refine zm ?_)); (first | refine s_gn rfl rfl ?_ | (refine s_gy rfl ?_; refine zR2 (c := Q9m hsz hS) (h := ?_); rintro v1 w1 ⟨rfl, hS⟩)))
    all_goals (cases ha7 : Q1i h 114)
    all_goals ((first | refine s_gn rfl rfl ?_ | (refine s_gy rfl ?_; refine Q1G rfl ?_)); (first | refine s_gn rfl rfl ?_ | (refine s_gy rfl ?_; refine zm ?_)); (first | refine s_gn rfl rfl ?_ | (refine s_gy rfl ?_; refine Q1 rfl ?_)); (first | refine s_gn rfl rfl ?_ | (refine s_gy rfl ?_; refine zl hS ?_)); (first | refine s_gn rfl rfl ?_ | (refine s_gy rfl ?_; refine zL ?_)))
    all_goals (first | refine s_gn rfl rfl ?_ | (refine s_gy rfl ?_; (first | (refine Qz ?_) | (refine QF ?_) | (refine Qh rfl rfl (fun hc => ?_) (fun hc => ?_)))))
    all_goals ((first | refine s_gn rfl rfl ?_ | (refine s_gy rfl ?_; (first | (refine zpt ?_) | (refine zpf ?_)))); (first | (refine zpt ?_) | (refine zpf ?_)); refine Q3M ?_; refine Q1X ?_)
    all_goals (first | (exact ⟨_, zh, zh, by exact ⟨fun _ => .inl (hq6.1 rfl), fun _ => rfl⟩, hS.sp⟩) | (exact ⟨_, zh, zh, by exact ⟨fun _ => .inr ⟨(by first | rfl | assumption), by omega⟩, fun _ => rfl⟩, hS.sp⟩) | (exact ⟨_, zh, zh, by exact ⟨fun h => Bool.noConfusion h, fun h => h.elim (fun h => hq6.2 h) (fun h => by obtain ⟨h1, h2⟩ := h; first | (exfalso; omega) | (simp_all; done))⟩, hS.sp⟩))
  rintro ρ w1 ⟨q7, hA, hρ, hq7, hS⟩; obtain ⟨ρ, rfl⟩ := env2 hA hρ
  all_goals (refine zR3 (c := Q1Y (by intro _; decide) hS fd) (h := ?_); rintro v1 w1 ⟨rfl, hS⟩; simp only [List.set_cons_zero, List.set_cons_succ, if_true, Bool.false_eq_true, if_false] at hS; refine zn ?_; refine Q0 ?_; clear hq1 hq2 hq3 hq4 hq5 hq6; have hq := hq7; clear hq7; refine Q2 ?_; refine Q1 rfl ?_; refine zl hS ?_; refine zn ?_; refine Q8 ?_; refine Q0 ?_; refine Q2 ?_)
  all_goals (first | (refine Qq ?_) | (refine Qr ?_) | (refine Qf rfl rfl (fun hc => ?_) (fun hc => ?_)))
  all_goals (refine zm ?_; refine zn ?_)
  all_goals
    first
    | (refine Q5 rfl ?_ -- QH c0
       all_goals (refine Q2 ?_; refine zm ?_; refine Q1 rfl ?_; refine zl hS ?_)
       all_goals (first | (refine Q1z ?_) | (refine Q1A ?_) | (refine QK rfl rfl (fun hc => ?_) (fun hc => ?_)))
       all_goals (refine zm ?_; (first | refine s_gn rfl rfl ?_ | (refine s_gy rfl ?_; refine Q1 rfl ?_)); (first | refine s_gn rfl rfl ?_ | (refine s_gy rfl ?_; refine zl hS ?_)))
       all_goals (first | refine s_gn rfl rfl ?_ | (refine s_gy rfl ?_; (first | (refine Qz ?_) | (refine QF ?_) | (refine Qh rfl rfl (fun hc => ?_) (fun hc => ?_)))))
       all_goals ((first | (refine zpt ?_) | (refine zpf ?_)); refine zR3 (c := Q1Y (by intro _; decide) hS fd) (h := ?_); rintro v1 w1 ⟨rfl, hS⟩; simp only [List.set_cons_zero, List.set_cons_succ, if_true, Bool.false_eq_true, if_false] at hS)
       all_goals refine zn ?_)
    | (refine Q4 rfl ?_ -- QH c0
       all_goals (refine Q0 ?_; refine Q2 ?_)
       all_goals (first | (refine Qq ?_) | (refine Qr ?_) | (refine Qf rfl rfl (fun hc => ?_) (fun hc => ?_)))
       all_goals (refine zm ?_; refine zn ?_)
       all_goals
         first
         | (refine Q5 rfl ?_ -- QH c1
            all_goals (refine Q2 ?_; refine zm ?_; refine Q1 rfl ?_; refine zl hS ?_; refine zL ?_)
            all_goals (first | (refine Qz ?_) | (refine QF ?_) | (refine Qh rfl rfl (fun hc => ?_) (fun hc => ?_)))
            all_goals (refine zR3 (c := Q1Y (by intro _; decide) hS fd) (h := ?_); rintro v1 w1 ⟨rfl, hS⟩; simp only [List.set_cons_zero, List.set_cons_succ, if_true, Bool.false_eq_true, if_false] at hS)
            all_goals refine zn ?_)
         | (refine Q4 rfl ?_ -- QH c1
            all_goals (refine Q0 ?_; refine Q0 ?_; refine Q2 ?_)
            all_goals (first | (refine Qq ?_) | (refine Qr ?_) | (refine Qf rfl rfl (fun hc => ?_) (fun hc => ?_)))
            all_goals (refine zm ?_; refine zn ?_)
            all_goals
              first
              | (refine Q5 rfl ?_ -- QH c2
                 all_goals refine zsk ?_)
              | (refine Q4 rfl ?_ -- QH c2
                 all_goals (refine Q2 ?_)
                 all_goals (first | (refine Qq ?_) | (refine Qr ?_) | (refine Qf rfl rfl (fun hc => ?_) (fun hc => ?_)))
                 all_goals (refine zm ?_)
                 all_goals refine zn ?_)
            all_goals
              first
              | (refine Q5 rfl ?_ -- QH c3
                 all_goals (refine Q2 ?_; refine zm ?_; refine Q1 rfl ?_; refine zl hS ?_)
                 all_goals (first | (refine Q1z ?_) | (refine Q1A ?_) | (refine QK rfl rfl (fun hc => ?_) (fun hc => ?_)))
                 all_goals (refine zm ?_; (first | refine s_gn rfl rfl ?_ | (refine s_gy rfl ?_; refine Q1 rfl ?_)); (first | refine s_gn rfl rfl ?_ | (refine s_gy rfl ?_; refine zl hS ?_)))
                 all_goals (first | refine s_gn rfl rfl ?_ | (refine s_gy rfl ?_; (first | (refine Q9k ?_) | (refine Q9l ?_) | (refine Q34 rfl rfl (fun hc => ?_) (fun hc => ?_)))))
                 all_goals ((first | (refine zpt ?_) | (refine zpf ?_)); refine zR3 (c := Q1Y (by intro _; decide) hS fd) (h := ?_); rintro v1 w1 ⟨rfl, hS⟩; simp only [List.set_cons_zero, List.set_cons_succ, if_true, Bool.false_eq_true, if_false] at hS)
                 all_goals refine zn ?_)
              | (refine Q4 rfl ?_ -- QH c3
                 all_goals (refine Q0 ?_; refine Q2 ?_)
                 all_goals (first | (refine Qq ?_) | (refine Qr ?_) | (refine Qf rfl rfl (fun hc => ?_) (fun hc => ?_)))
                 all_goals (refine zm ?_; refine zn ?_)
                 all_goals
                   first
                   | (refine Q5 rfl ?_ -- QH c4
                      all_goals (refine Q0 ?_; refine zD [(0, none), (1, none), (2, none), (3, none), (4, none), (5, none), (6, none), (7, none), (8, none), (9, none), (10, none), (11, none), (12, none), (13, none), (14, none), (15, some none)] ?_; have hS := hS.drew; refine zm ?_; refine Q1 rfl ?_; refine zl hS ?_)
                      all_goals (first | (refine Q1z ?_) | (refine Q1A ?_) | (refine QK rfl rfl (fun hc => ?_) (fun hc => ?_)))
                      all_goals (refine zm ?_; (first | refine s_gn rfl rfl ?_ | (refine s_gy rfl ?_; refine Q1 rfl ?_)); (first | refine s_gn rfl rfl ?_ | (refine s_gy rfl ?_; refine zl hS ?_)); (first | refine s_gn rfl rfl ?_ | (refine s_gy rfl ?_; refine zm ?_)); (first | refine s_gn rfl rfl ?_ | (refine s_gy rfl ?_; refine Q1L rfl ?_)); (first | refine s_gn rfl rfl ?_ | (refine s_gy rfl ?_; refine Q1 rfl ?_)); (first | refine s_gn rfl rfl ?_ | (refine s_gy rfl ?_; refine Q1 rfl ?_)); (first | refine s_gn rfl rfl ?_ | (refine s_gy rfl ?_; refine zl hS ?_)); (first | refine s_gn rfl rfl ?_ | (refine s_gy rfl ?_; refine zL ?_)))
                      all_goals (first | refine s_gn rfl rfl ?_ | (refine s_gy rfl ?_; (first | (refine Q9k ?_) | (refine Q9l ?_) | (refine Q34 rfl rfl (fun hc => ?_) (fun hc => ?_)))))
                      all_goals ((first | (refine zpt ?_) | (refine zpf ?_)); refine zR3 (c := Q1Y (by intro _; decide) hS fd) (h := ?_); rintro v1 w1 ⟨rfl, hS⟩; simp only [List.set_cons_zero, List.set_cons_succ, if_true, Bool.false_eq_true, if_false] at hS; refine zn ?_; refine Q2 ?_; refine zm ?_; refine Q1 rfl ?_; refine zl hS ?_; refine zL ?_)
                      all_goals (first | (refine Qz ?_) | (refine QF ?_) | (refine Qh rfl rfl (fun hc => ?_) (fun hc => ?_)))
                      all_goals (refine zm ?_; (first | refine s_gn rfl rfl ?_ | (refine s_gy rfl ?_; refine Q1 rfl ?_)); (first | refine s_gn rfl rfl ?_ | (refine s_gy rfl ?_; refine zl hS ?_)); (first | refine s_gn rfl rfl ?_ | (refine s_gy rfl ?_; refine zL ?_)))
                      all_goals (first | refine s_gn rfl rfl ?_ | (refine s_gy rfl ?_; (first | (refine Qz ?_) | (refine QF ?_) | (refine Qh rfl rfl (fun hc => ?_) (fun hc => ?_)))))
                      all_goals ((first | (refine zpt ?_) | (refine zpf ?_)); refine zR3 (c := Q1Y (by intro _; decide) hS fd) (h := ?_); rintro v1 w1 ⟨rfl, hS⟩; simp only [List.set_cons_zero, List.set_cons_succ, if_true, Bool.false_eq_true, if_false] at hS)
                      all_goals refine zn ?_)
                   | (refine Q4 rfl ?_ -- QH c4
                      all_goals refine zsk ?_))))
  all_goals (refine Q3U ?_; refine ⟨_, rfl, rfl, ?_⟩; subst hh; rw [← ins_end (c3 := Q1H n.length x) hq rfl]; clear hq hx hr ha hf hsz; have hS := hS.drop; refine St.back ?_ hi; first | (rw [show Q1H n.length x = 0 from (by unfold Q1H; (repeat (first | rw [if_pos (by omega)] | rw [if_neg (by omega)])))]; first | (rw [Q1R, Qnb rfl]; exact hS) | exact hS | (rw [Q2t, Q41] at hS; exact hS)) | (rw [show Q1H n.length x = 1 from (by unfold Q1H; (repeat (first | rw [if_pos (by omega)] | rw [if_neg (by omega)])))]; first | exact hS | (rw [Q2t, Q4j (by decide)] at hS; exact hS)) | (rw [show Q1H n.length x = 2 from (by unfold Q1H; (repeat (first | rw [if_pos (by omega)] | rw [if_neg (by omega)])))]; first | exact hS | (rw [Q2t, Q41] at hS; exact hS)) | (trace_state; fail "end"))
theorem to_c {x : Fun} {t : To} {is : Bool} {vf : Value} {g : Flt} {at' : Int} {b : Nat} {cs ds : List Value} (hx : funcR.at cx cs x) (ht : toR.at cx ds t) (hS : St cx w L) (hi : nth L i = some (jdg b vf g at')) :
    Rets Tryz.prog Q6s [.pointer (some ⟨b, 0, none⟩), .agg ⟨cs⟩, .agg ⟨ds⟩, .bool is] w fun u w' => u = .tuple #[] ∧ St cx w' (L.set i (jdg b vf (orF g (mkF (Q1S x.blocks.length t is) at')) at')) := by
  have hS := hS.out hi
  obtain ⟨vp, vr, vb, rfl, hp, hr, hb⟩ := QQ hx
  obtain ⟨v1, v2, rfl, h1, h2⟩ := Q3K ht
  have hlb := hb.len
  have hl1 := h1.len
  have hl2 := h2.len
  cases is with
  | false =>
    all_goals refine Q3V ?_
    all_goals (unfold code_judge_to_lc; refine Q0 ?_; refine Q2 ?_; refine zb hS ?_; intro p5 w1 hS; refine zb hS ?_; intro p6 w1 hS; refine zn ?_; refine Q0 ?_; refine Q0 ?_; refine Q2 ?_; refine zm ?_; refine Q1G rfl ?_; refine zn ?_)
    all_goals refine Q5 rfl ?_
    all_goals (refine Q0 ?_; refine Q2 ?_; refine zm ?_; refine Q1 rfl ?_; refine zl hS ?_)
    all_goals (first | (refine Q1m ?_) | (refine Q1n ?_) | (refine Qs rfl rfl (fun hc => ?_) (fun hc => ?_)))
    all_goals (refine zm ?_; (first | refine s_gn rfl rfl ?_ | (refine s_gy rfl ?_; refine Q1 rfl ?_)); (first | refine s_gn rfl rfl ?_ | (refine s_gy rfl ?_; refine zl hS ?_)); (first | refine s_gn rfl rfl ?_ | (refine s_gy rfl ?_; refine zL ?_)))
    all_goals (first | refine s_gn rfl rfl ?_ | (refine s_gy rfl ?_; (first | (refine Qz ?_) | (refine QF ?_) | (refine Qh rfl rfl (fun hc => ?_) (fun hc => ?_)))))
    all_goals ((first | (refine zpt ?_) | (refine zpf ?_)); refine zm ?_; (first | refine s_gn rfl rfl ?_ | (refine s_gy rfl ?_; refine Q1 rfl ?_)); (first | refine s_gn rfl rfl ?_ | (refine s_gy rfl ?_; refine zl hS ?_)); (first | refine s_gn rfl rfl ?_ | (refine s_gy rfl ?_; refine zL ?_)))
    all_goals (first | refine s_gn rfl rfl ?_ | (refine s_gy rfl ?_; (first | (refine Qz ?_) | (refine QF ?_) | (refine Qh rfl rfl (fun hc => ?_) (fun hc => ?_)))))
    all_goals ((first | (refine zpt ?_) | (refine zpf ?_)); refine zR3 (c := Q1Y (by intro _; decide) hS fd) (h := ?_); rintro v1 w1 ⟨rfl, hS⟩; simp only [List.set_cons_zero, List.set_cons_succ, if_true, Bool.false_eq_true, if_false] at hS; refine zn ?_; refine zr ?_; refine q_ret0 ?_; refine ⟨_, rfl, rfl, ?_⟩; have hS := hS.drop.drop; refine St.back ?_ hi; first | (rw [show Q1S x.blocks.length t false = 4 from (by unfold Q1S; rw [if_pos rfl, if_pos (by omega)])]; exact hS) | (rw [show Q1S x.blocks.length t false = 0 from (by unfold Q1S; rw [if_pos rfl, if_neg (by omega)])]; exact hS))
  | true =>
    all_goals refine Q3V ?_
    all_goals (unfold code_judge_to_lc; refine Q0 ?_; refine Q2 ?_; refine zb hS ?_; intro p5 w1 hS; refine zb hS ?_; intro p6 w1 hS; refine zn ?_; refine Q0 ?_; refine Q0 ?_; refine Q2 ?_; refine zm ?_; refine Q1G rfl ?_; refine zn ?_)
    all_goals refine Q4 rfl ?_
    all_goals (refine zsk ?_; refine Q0 ?_; refine Q2 ?_; refine zm ?_; refine Q1 rfl ?_; refine zl hS ?_)
    all_goals (first | (refine Q1z ?_) | (refine Q1A ?_) | (refine QK rfl rfl (fun hc => ?_) (fun hc => ?_)))
    all_goals (refine zm ?_; (first | refine s_gn rfl rfl ?_ | (refine s_gy rfl ?_; refine Q1 rfl ?_)); (first | refine s_gn rfl rfl ?_ | (refine s_gy rfl ?_; refine zl hS ?_)); (first | refine s_gn rfl rfl ?_ | (refine s_gy rfl ?_; refine Q1 rfl ?_)); (first | refine s_gn rfl rfl ?_ | (refine s_gy rfl ?_; refine zl hS ?_)); (first | refine s_gn rfl rfl ?_ | (refine s_gy rfl ?_; refine zL ?_)))
    all_goals (first | refine s_gn rfl rfl ?_ | (refine s_gy rfl ?_; (first | (refine Q9k ?_) | (refine Q9l ?_) | (refine Q34 rfl rfl (fun hc => ?_) (fun hc => ?_)))))
    all_goals ((first | (refine zpt ?_) | (refine zpf ?_)); refine zR3 (c := Q1Y (by intro _; decide) hS fd) (h := ?_); rintro v1 w1 ⟨rfl, hS⟩; simp only [List.set_cons_zero, List.set_cons_succ, if_true, Bool.false_eq_true, if_false] at hS; refine zn ?_; refine Q2 ?_; refine zm ?_; refine Q1 rfl ?_; refine zl hS ?_; refine zL ?_)
    all_goals (first | (refine Qz ?_) | (refine QF ?_) | (refine Qh rfl rfl (fun hc => ?_) (fun hc => ?_)))
    all_goals (refine zm ?_; (first | refine s_gn rfl rfl ?_ | (refine s_gy rfl ?_; refine Q1 rfl ?_)); (first | refine s_gn rfl rfl ?_ | (refine s_gy rfl ?_; refine zl hS ?_)); (first | refine s_gn rfl rfl ?_ | (refine s_gy rfl ?_; refine zL ?_)))
    all_goals (first | refine s_gn rfl rfl ?_ | (refine s_gy rfl ?_; (first | (refine Qz ?_) | (refine QF ?_) | (refine Qh rfl rfl (fun hc => ?_) (fun hc => ?_)))))
    all_goals ((first | (refine zpt ?_) | (refine zpf ?_)); refine zR3 (c := Q1Y (by intro _; decide) hS fd) (h := ?_); rintro v1 w1 ⟨rfl, hS⟩; simp only [List.set_cons_zero, List.set_cons_succ, if_true, Bool.false_eq_true, if_false] at hS; refine zn ?_; refine Q3U ?_; refine ⟨_, rfl, rfl, ?_⟩; have hS := hS.drop.drop; rw [Q2t] at hS; refine St.back ?_ hi; first | (rw [show Q1S x.blocks.length t true = 1 from (by unfold Q1S; rw [if_neg Bool.noConfusion, if_pos (by omega)])]; rw [Q4j (by decide)] at hS; exact hS) | (rw [show Q1S x.blocks.length t true = 2 from (by unfold Q1S; rw [if_neg Bool.noConfusion, if_neg (by omega), if_pos (by omega)])]; rw [Q41] at hS; exact hS) | (rw [show Q1S x.blocks.length t true = 0 from (by unfold Q1S; rw [if_neg Bool.noConfusion, if_neg (by omega), if_neg (by omega)])]; rw [Q41] at hS; exact hS))
theorem end_sum {g : Flt} {at' : Int} {n : Nat} {e : Tail} : orF (orF (orF (orF (orF g (mkF (if e.op < 1 ∨ 3 < e.op then 3 else 0) at')) (mkF (if e.op ≠ 2 ∧ e.a ≠ 0 ∨ e.op ≠ 3 ∧ 0 < e.args.length then 4 else 0) at')) (mkF (if 8 < e.args.length then 2 else 0) at')) (mkF (Q1S n e.yes (decide (e.op ≠ 3))) at')) (mkF (Q1S n e.no (decide (e.op = 2))) at') = orF g (mkF (Q2k n e) at') := by
  rw [Q2t, Q2t, Q2t, Q2t]
  congr 2
  unfold Q2k
  split
  · simp only [Q4j (show (3 : Int) ≠ 0 by decide)]
  · rw [Q41]
    split
    · simp only [Q4j (show (4 : Int) ≠ 0 by decide)]
    · rw [Q41]
      split
      · simp only [Q4j (show (2 : Int) ≠ 0 by decide)]
      · rw [Q41]
theorem end_c {x : Fun} {e : Tail} {vf : Value} {g : Flt} {at' : Int} {b : Nat} {cs ds : List Value} (hx : funcR.at cx cs x) (he : endR.at cx ds e) (hS : St cx w L) (hi : nth L i = some (jdg b vf g at')) :
    Rets Tryz.prog Q55 [.pointer (some ⟨b, 0, none⟩), .agg ⟨cs⟩, .agg ⟨ds⟩] w fun u w' => u = .tuple #[] ∧ St cx w' (L.set i (jdg b vf (orF g (mkF (Q2k x.blocks.length e) at')) at')) := by
  have hS := hS.out hi
  obtain ⟨vp, vr, vb, rfl, hp, hr, hb⟩ := QQ hx
  obtain ⟨v1, v2, v3, v4, v5, rfl, h1, h2, h3, h4, h5⟩ := QgP he
  have hl5 := h5.len
  all_goals refine Q7F ?_
  all_goals (unfold code_judge_end_lc; refine Q0 ?_; refine Q2 ?_; refine zb hS ?_; intro p4 w1 hS; refine zb hS ?_; intro p5 w1 hS; refine zn ?_)
  refine zM [0, 4, 5] (fun A ρ' w' => Has ρ' A ∧ Has ρ' [] ∧ St cx w' (blk p5 50 [.int .i64 e.op, .int .i64 e.a, .int .i64 e.yes.block, v1, v2, .int .i64 e.no.block, v3, v4, v5] :: blk p4 43 [.int .i64 x.regs, vp, vr, vb] :: jdg b vf (orF g (mkF (if e.op < 1 ∨ 3 < e.op then 3 else 0) at')) at' :: L.eraseIdx i)) ?_ ?_
  · skip
    all_goals (refine Q2 ?_; refine zm ?_; refine Q1 rfl ?_; refine zl hS ?_)
    all_goals (first | (refine Q1z ?_) | (refine Q1A ?_) | (refine QK rfl rfl (fun hc => ?_) (fun hc => ?_)))
    all_goals (refine zm ?_; (first | refine s_gn rfl rfl ?_ | (refine s_gy rfl ?_; refine Q1 rfl ?_)); (first | refine s_gn rfl rfl ?_ | (refine s_gy rfl ?_; refine zl hS ?_)))
    all_goals (first | refine s_gn rfl rfl ?_ | (refine s_gy rfl ?_; (first | (refine Qz ?_) | (refine QF ?_) | (refine Qh rfl rfl (fun hc => ?_) (fun hc => ?_)))))
    all_goals ((first | (refine zpt ?_) | (refine zpf ?_)); refine zR3 (c := Q1Y (by intro _; decide) hS fd) (h := ?_); rintro v1 w1 ⟨rfl, hS⟩; simp only [List.set_cons_zero, List.set_cons_succ, if_true, Bool.false_eq_true, if_false] at hS; refine zn ?_; exact ⟨zh, zh, by first | (rw [if_pos (by omega)]; exact hS.sp) | (rw [if_neg (by omega)]; exact hS.sp)⟩)
  rintro ρ w1 ⟨hA, hρ, hS⟩; obtain ⟨ρ, rfl⟩ := env2 hA hρ
  refine zM [0, 4, 5] (fun A ρ' w' => Has ρ' A ∧ Has ρ' [] ∧ St cx w' (blk p5 50 [.int .i64 e.op, .int .i64 e.a, .int .i64 e.yes.block, v1, v2, .int .i64 e.no.block, v3, v4, v5] :: blk p4 43 [.int .i64 x.regs, vp, vr, vb] :: jdg b vf (orF (orF g (mkF (if e.op < 1 ∨ 3 < e.op then 3 else 0) at')) (mkF (if e.op ≠ 2 ∧ e.a ≠ 0 ∨ e.op ≠ 3 ∧ 0 < e.args.length then 4 else 0) at')) at' :: L.eraseIdx i)) ?_ ?_
  · skip
    all_goals (refine Q2 ?_; refine zm ?_; refine Q1 rfl ?_; refine zl hS ?_)
    all_goals (first | (refine Q1m ?_) | (refine Q1n ?_) | (refine Qs rfl rfl (fun hc => ?_) (fun hc => ?_)))
    all_goals (refine zm ?_; (first | refine s_gn rfl rfl ?_ | (refine s_gy rfl ?_; refine Q1 rfl ?_)); (first | refine s_gn rfl rfl ?_ | (refine s_gy rfl ?_; refine zl hS ?_)))
    all_goals (first | refine s_gn rfl rfl ?_ | (refine s_gy rfl ?_; (first | (refine Q1m ?_) | (refine Q1n ?_) | (refine Qs rfl rfl (fun hc => ?_) (fun hc => ?_)))))
    all_goals ((first | (refine zpt ?_) | (refine zpf ?_)); refine zm ?_; (first | refine s_gn rfl rfl ?_ | (refine s_gy rfl ?_; refine Q1 rfl ?_)); (first | refine s_gn rfl rfl ?_ | (refine s_gy rfl ?_; refine zl hS ?_)))
    all_goals (first | refine s_gn rfl rfl ?_ | (refine s_gy rfl ?_; (first | (refine Q1m ?_) | (refine Q1n ?_) | (refine Qs rfl rfl (fun hc => ?_) (fun hc => ?_)))))
    all_goals ((first | refine s_gn rfl rfl ?_ | (refine s_gy rfl ?_; refine zm ?_)); (first | refine s_gn rfl rfl ?_ | (refine s_gy rfl ?_; refine Q1 rfl ?_)); (first | refine s_gn rfl rfl ?_ | (refine s_gy rfl ?_; refine zl hS ?_)); (first | refine s_gn rfl rfl ?_ | (refine s_gy rfl ?_; refine zL ?_)))
    all_goals (first | refine s_gn rfl rfl ?_ | (refine s_gy rfl ?_; (first | (refine Qz ?_) | (refine QF ?_) | (refine Qh rfl rfl (fun hc => ?_) (fun hc => ?_)))))
    all_goals ((first | refine s_gn rfl rfl ?_ | (refine s_gy rfl ?_; (first | (refine zpt ?_) | (refine zpf ?_)))); (first | (refine zpt ?_) | (refine zpf ?_)); refine zR3 (c := Q1Y (by intro _; decide) hS fd) (h := ?_); rintro v1 w1 ⟨rfl, hS⟩; simp only [List.set_cons_zero, List.set_cons_succ, if_true, Bool.false_eq_true, if_false] at hS; refine zn ?_; exact ⟨zh, zh, by first | (rw [if_pos (c := e.op ≠ 2 ∧ e.a ≠ 0 ∨ e.op ≠ 3 ∧ 0 < e.args.length) (by omega)]; exact hS.sp) | (rw [if_neg (c := e.op ≠ 2 ∧ e.a ≠ 0 ∨ e.op ≠ 3 ∧ 0 < e.args.length) (by omega)]; exact hS.sp)⟩)
  rintro ρ w1 ⟨hA, hρ, hS⟩; obtain ⟨ρ, rfl⟩ := env2 hA hρ
  refine zM [0, 4, 5] (fun A ρ' w' => Has ρ' A ∧ Has ρ' [] ∧ St cx w' (blk p5 50 [.int .i64 e.op, .int .i64 e.a, .int .i64 e.yes.block, v1, v2, .int .i64 e.no.block, v3, v4, v5] :: blk p4 43 [.int .i64 x.regs, vp, vr, vb] :: jdg b vf (orF (orF (orF g (mkF (if e.op < 1 ∨ 3 < e.op then 3 else 0) at')) (mkF (if e.op ≠ 2 ∧ e.a ≠ 0 ∨ e.op ≠ 3 ∧ 0 < e.args.length then 4 else 0) at')) (mkF (if 8 < e.args.length then 2 else 0) at')) at' :: L.eraseIdx i)) ?_ ?_
  · skip
    all_goals (refine Q2 ?_; refine zm ?_; refine Q1 rfl ?_; refine zl hS ?_; refine zL ?_)
    all_goals (first | (refine Qz ?_) | (refine QF ?_) | (refine Qh rfl rfl (fun hc => ?_) (fun hc => ?_)))
    all_goals (refine zR3 (c := Q1Y (by intro _; decide) hS fd) (h := ?_); rintro v1 w1 ⟨rfl, hS⟩; simp only [List.set_cons_zero, List.set_cons_succ, if_true, Bool.false_eq_true, if_false] at hS; refine zn ?_; exact ⟨zh, zh, by first | (rw [if_pos (c := 8 < e.args.length) (by omega)]; exact hS.sp) | (rw [if_neg (c := 8 < e.args.length) (by omega)]; exact hS.sp)⟩)
  rintro ρ w1 ⟨hA, hρ, hS⟩; obtain ⟨ρ, rfl⟩ := env2 hA hρ
  all_goals (refine Q0 ?_; refine Q2 ?_; refine zm ?_; refine zv hS ?_; refine Q1 rfl ?_; refine zv hS ?_; refine Q1 rfl ?_; refine zl hS ?_; refine Q5f rfl rfl ?_; refine zR4 (c := to_c (t := e.yes) hx ⟨_, _, rfl, h1, h2⟩ hS fd) (h := ?_); rintro v1 w1 ⟨rfl, hS⟩; have hS := hS.ns; refine zn ?_; refine Q2 ?_; refine zm ?_; refine zv hS ?_; refine Q1 rfl ?_; refine zv hS ?_; refine Q1 rfl ?_; refine zl hS ?_; refine Q9G rfl rfl ?_; refine zR4 (c := to_c (t := e.no) hx ⟨_, _, rfl, h3, h4⟩ hS fd) (h := ?_); rintro v1 w1 ⟨rfl, hS⟩; have hS := hS.ns; refine zn ?_; refine Q3U ?_; refine ⟨_, rfl, rfl, ?_⟩; rw [end_sum] at hS; exact St.back hS.drop.drop hi)
end
end Go.Proofs.YtjecflbbcnocdaaGreatDoor
namespace Go.Proofs.YtjecflbbcnocdaaGreatDoor
open Go.Lir
set_option maxHeartbeats 1000000
attribute [local irreducible] LC.wp Q3 QW Q13 retQ Q2i LO.wp Qv Calls
set_option linter.unusedSimpArgs false
set_option linter.unusedVariables false
variable {cx : Cx} {w : World} {L : List Res}
theorem Q4e (f : Nat) (hf : f ≤ 1000000) (hS : St cx w L) : Rets Tryz.prog QmW [.int .i64 f] w fun u w' => u = .int .i64 (Q2z f) ∧ St cx w' L := by
  unfold Q2z
  all_goals refine Qmp ?_
  all_goals (unfold R_AtFunc_lc; refine Q0 ?_; refine Q2 ?_; refine zm ?_; refine zn ?_; refine Q0 ?_; refine Q2 ?_; refine zm ?_; refine zmu ?_; refine zad ?_; refine zm ?_; refine zn ?_; refine zr ?_; refine zf ?_; refine ⟨_, rfl, ?_, hS.sp⟩; (first | rfl | (congr 1; omega)); done)
theorem Qoh (f : Nat) (hf : f ≤ 1000000) (hS : St cx w L) : Rets Tryz.prog Qax [.int .i64 f] w fun u w' => u = .int .i64 (Q2z f) ∧ St cx w' L := by
  unfold Q2z
  all_goals refine Qdl ?_
  all_goals (unfold code_FuncAt_lc; refine Q0 ?_; refine Q2 ?_; refine zm ?_; refine zn ?_; refine Q0 ?_; refine Q2 ?_; refine zm ?_; refine zmu ?_; refine zad ?_; refine zm ?_; refine zn ?_; refine zr ?_; refine zf ?_; refine ⟨_, rfl, ?_, hS.sp⟩; (rfl); done)
theorem Q4H (f b : Nat) (hf : f ≤ 1000000) (hb : b ≤ 1000000) (hS : St cx w L) : Rets Tryz.prog Ql3 [.int .i64 f, .int .i64 b] w fun u w' => u = .int .i64 (Q2B f b) ∧ St cx w' L := by
  unfold Q2B
  all_goals refine Ql2 ?_
  all_goals (unfold R_AtBlock_lc; refine Q0 ?_; refine Q2 ?_; refine zm ?_; refine zn ?_; refine Q0 ?_; refine Q2 ?_; refine zm ?_; refine zmu ?_; refine zm ?_; refine zmu ?_; refine zad ?_; refine zad ?_; refine zm ?_; refine zn ?_; refine zr ?_; refine zf ?_; refine ⟨_, rfl, ?_, hS.sp⟩; (first | rfl | (congr 1; omega)); done)
theorem Qna (f b : Nat) (hf : f ≤ 1000000) (hb : b ≤ 1000000) (hS : St cx w L) : Rets Tryz.prog Q7Z [.int .i64 f, .int .i64 b] w fun u w' => u = .int .i64 (Q2B f b) ∧ St cx w' L := by
  unfold Q2B
  all_goals refine QaD ?_
  all_goals (unfold code_BlockAt_lc; refine Q0 ?_; refine Q2 ?_; refine zm ?_; refine zn ?_; refine Q0 ?_; refine Q2 ?_; refine zm ?_; refine zmu ?_; refine zm ?_; refine zmu ?_; refine zad ?_; refine zad ?_; refine zm ?_; refine zn ?_; refine zr ?_; refine zf ?_; refine ⟨_, rfl, ?_, hS.sp⟩; (rfl); done)
theorem rEndAt_c (f b : Nat) (hf : f ≤ 1000000) (hb : b ≤ 1000000) (hS : St cx w L) : Rets Tryz.prog QoN [.int .i64 f, .int .i64 b] w fun u w' => u = .int .i64 (Qdx f b) ∧ St cx w' L := by
  unfold Qdx
  all_goals refine QnG ?_
  all_goals (unfold R_AtEnd_lc; refine Q0 ?_; refine Q2 ?_; refine zm ?_; refine zn ?_; refine Q0 ?_; refine Q2 ?_; refine zm ?_; refine zmu ?_; refine zm ?_; refine zmu ?_; refine zad ?_; refine zad ?_; refine zm ?_; refine zn ?_; refine zr ?_; refine zf ?_; refine ⟨_, rfl, ?_, hS.sp⟩; (first | rfl | (congr 1; omega)); done)
theorem pEndAt_c (f b : Nat) (hf : f ≤ 1000000) (hb : b ≤ 1000000) (hS : St cx w L) : Rets Tryz.prog Qfs [.int .i64 f, .int .i64 b] w fun u w' => u = .int .i64 (Qdx f b) ∧ St cx w' L := by
  unfold Qdx
  all_goals refine QgY ?_
  all_goals (unfold code_EndAt_lc; refine Q0 ?_; refine Q2 ?_; refine zm ?_; refine zn ?_; refine Q0 ?_; refine Q2 ?_; refine zm ?_; refine zmu ?_; refine zm ?_; refine zmu ?_; refine zad ?_; refine zad ?_; refine zm ?_; refine zn ?_; refine zr ?_; refine zf ?_; refine ⟨_, rfl, ?_, hS.sp⟩; (rfl); done)
theorem rInsAt_c (f b i : Nat) (hf : f ≤ 1000000) (hb : b ≤ 1000000) (hi : i ≤ 1000000) (hS : St cx w L) : Rets Tryz.prog QoM [.int .i64 f, .int .i64 b, .int .i64 i] w fun u w' => u = .int .i64 (QaH f b i) ∧ St cx w' L := by
  unfold QaH
  all_goals refine QnD ?_
  all_goals (unfold R_AtIns_lc; refine Q0 ?_; refine Q2 ?_; refine zm ?_; refine zn ?_; refine Q0 ?_; refine Q2 ?_; refine zm ?_; refine zmu ?_; refine zm ?_; refine zmu ?_; refine zad ?_; refine zm ?_; refine zad ?_; refine zm ?_; refine zn ?_; refine zr ?_; refine zf ?_; refine ⟨_, rfl, ?_, hS.sp⟩; (first | rfl | (congr 1; omega)); done)
theorem pInsAt_c (f b i : Nat) (hf : f ≤ 1000000) (hb : b ≤ 1000000) (hi : i ≤ 1000000) (hS : St cx w L) : Rets Tryz.prog Qfr [.int .i64 f, .int .i64 b, .int .i64 i] w fun u w' => u = .int .i64 (QaH f b i) ∧ St cx w' L := by
  unfold QaH
  all_goals refine QgV ?_
  all_goals (unfold code_InsAt_lc; refine Q0 ?_; refine Q2 ?_; refine zm ?_; refine zn ?_; refine Q0 ?_; refine Q2 ?_; refine zm ?_; refine zmu ?_; refine zm ?_; refine zmu ?_; refine zad ?_; refine zm ?_; refine zad ?_; refine zm ?_; refine zn ?_; refine zr ?_; refine zf ?_; refine ⟨_, rfl, ?_, hS.sp⟩; (rfl); done)
theorem rF_c {c a : Int} (hS : St cx w L) : Rets Tryz.prog R_F [.int .i64 c, .int .i64 a] w fun u w' => u = .agg ⟨[.int .i64 c, .int .i64 a]⟩ ∧ St cx w' L := by
  all_goals refine R_F_in ?_
  all_goals (unfold R_F_lc; refine Q0 ?_; refine Q2 ?_; refine Qc hS ?_; intro p4 w1 hS; refine zn ?_; refine Q0 ?_; refine Q2 ?_; refine zm ?_; refine zm ?_; refine zb2 [_, _] ?_; refine zsn hS ?_; intro w1 hS; have hS := hS.ns; refine zn ?_; refine zr ?_; refine Q2c vw (Qe (n := 2) (by kernel_rfl) (by kernel_rfl) (hS.blkAt fd) (by rfl) (by rfl)) ?_; refine ⟨_, rfl, ?_, hS.sp⟩; (rfl); done)
theorem Qlj {l : List Ty} {regs : Int} {v : Value} (hl : tyR.sl cx v l) (hS : St cx w L) : Rets Tryz.prog Q2Y [v, .int .i64 regs] w fun u w' => u = .int .i64 (Qm l regs) ∧ St cx w' L := by
  have hlen := hl.len
  unfold Qm
  all_goals refine Qhv ?_
  all_goals (unfold R_listForm_lc; refine Q0 ?_; refine Q2 ?_; refine zm ?_; refine zn ?_; refine Q0 ?_; refine Q0 ?_; refine Q2 ?_; refine zm ?_; refine zL ?_)
  all_goals (first | (refine Qz ?_) | (refine QF ?_) | (refine Qh rfl rfl (fun hc => ?_) (fun hc => ?_)))
  all_goals (refine zn ?_)
  all_goals
    first
    | (refine Q5 rfl ?_ -- Q2Y c0
       all_goals (refine Q0 ?_; refine Q2 ?_; refine zm ?_; refine zn ?_; refine zr ?_; refine zf ?_)
       all_goals (refine ⟨_, rfl, ?_, hS.sp⟩; rw [if_pos (by omega)]; done))
    | (refine Q4 rfl ?_ -- Q2Y c0
       all_goals refine zsk ?_)
  all_goals (refine Q0 ?_; refine Q0 ?_; refine Q2 ?_; refine zm ?_; refine zn ?_; refine Q8 ?_)
  refine zoL hS [0, 1] (fun A LL ρ' w' => ∃ (j : Nat), Has ρ' A ∧ Has ρ' [(5, .int .i64 j)] ∧ (j ≤ l.length) ∧ (Q2h regs l = Q2h regs (l.drop j)) ∧ St cx w' (LL)) (fun ρ' _ => (l.length - iv (ρ' 5)).toNat) ?_ ?_
  · exact ⟨0, zh, zh, (by omega), by simp, hS.sp⟩
  rintro ρ w1 ⟨j, hA, hρ, hj, hd, hS⟩; obtain ⟨ρ, rfl⟩ := env2 hA hρ
  unfold Q6T
  all_goals (refine Q0 ?_; refine Q0 ?_; refine Q2 ?_; refine zm ?_; refine zm ?_; refine zL ?_; refine Qp rfl rfl ?_; refine zn ?_)
  refine Ql rfl (fun hc => ?_) (fun hc => ?_)
  · skip
    all_goals (refine zsk ?_; refine Q0 ?_; refine Q8 ?_; refine Q0 ?_; refine Q2 ?_; refine zm ?_; refine zm ?_; refine zi ?_; intro b1 o1 cs1 x1 hat1 hx1 he1; obtain ⟨vl1, rfl, hl1⟩ := QG he1; (first | (refine zv hS ?_) | (refine zvk hS ?_)); refine zm ?_; refine zR2 (c := Qo4 (by assumption) hS) (h := ?_); rintro v1 w1 ⟨rfl, hS⟩; refine zm ?_; refine zn ?_; refine Q0 ?_; refine Q2 ?_; refine zm ?_)
    all_goals (first | (refine Q1m ?_) | (refine Q1n ?_) | (refine Qs rfl rfl (fun hc => ?_) (fun hc => ?_)))
    all_goals (refine zn ?_)
    all_goals
      first
      | (refine Q5 rfl ?_ -- Q2Y c2
         all_goals (refine Q0 ?_; refine Q2 ?_; refine zm ?_; refine zm ?_; refine zn ?_; refine zr ?_; refine zf ?_)
         all_goals (first | (refine ⟨_, rfl, ?_, hS.sp⟩; rw [if_pos (by omega)]; done) | (refine ⟨_, rfl, ?_, hS.sp⟩; rw [if_neg (by omega), hd, Q7 hx1, Q2h, Q4j (by assumption)]; done)))
      | (refine Q4 rfl ?_ -- Q2Y c2
         all_goals refine zsk ?_)
    all_goals (refine Q2 ?_; refine zm ?_; refine zad ?_; refine zm ?_; refine zn ?_; exact ⟨⟨j + 1, zh, zh, (by omega), by rw [hd, Q7 hx1, Q2h, show x1.fault regs = 0 by omega, Q41], hS.sp⟩, Qk (by omega)⟩)
  · skip
    all_goals (refine zex ?_; refine Q0 ?_; refine Q2 ?_; refine zm ?_; refine zn ?_; refine zr ?_; refine zf ?_; (first | (refine ⟨_, rfl, ?_, hS.sp⟩; rw [if_pos (by omega)]; done) | (refine ⟨_, rfl, ?_, hS.sp⟩; rw [if_neg (by omega), hd, Q7 hx1, Q2h, Q4j (by assumption)]; done) | (refine ⟨_, rfl, ?_, hS.sp⟩; rw [if_neg (by omega), hd, List.drop_of_length_le (by omega), Q2h]; done)))
theorem QmN {op : Int} (hS : St cx w L) : Rets Tryz.prog Q9 [.int .i64 op] w fun u w' => u = .tuple #[.agg ⟨[.bool (fA op), .bool (fB op), .bool (fC op), .bool (fK op), .bool (fN op), .bool (fG op), .bool (fR op)]⟩, .bool (decide (1 ≤ op ∧ op ≤ 14))] ∧ St cx w' L := by
  have hbad : (op < 1 ∨ 14 < op) → fA op = false ∧ fB op = false ∧ fC op = false ∧ fK op = false ∧ fN op = false ∧ fG op = false ∧ fR op = false ∧ decide (1 ≤ op ∧ op ≤ 14) = false := by
    intro h
    refine ⟨?_, ?_, ?_, ?_, ?_, ?_, ?_, ?_⟩ <;> (first | unfold fA | unfold fB | unfold fC | unfold fK | unfold fN | unfold fG | unfold fR | skip) <;> rw [decide_eq_false_iff_not] <;> omega
  by_cases hb : op < 1 ∨ 14 < op
  · obtain ⟨h1, h2, h3, h4, h5, h6, h7, h8⟩ := hbad hb
    rw [h1, h2, h3, h4, h5, h6, h7, h8]
    clear hbad h1 h2 h3 h4 h5 h6 h7 h8
    all_goals refine Q6Z ?_
    all_goals (unfold R_FieldsOf_lc; refine Q0 ?_; refine Q2 ?_; refine Qc hS ?_; intro p2 w1 hS; refine zm ?_; refine zn ?_; refine Q0 ?_; refine Q0 ?_; refine Q2 ?_; refine zm ?_; refine zn ?_; refine Q8 ?_; refine Q0 ?_; refine Q2 ?_)
    all_goals (first | (refine Qq ?_) | (refine Qr ?_))
    all_goals (refine zm ?_; refine zn ?_)
    all_goals
      first
      | (refine Q5 rfl ?_ -- Q9 c0
         all_goals (refine Q0 ?_; refine Q2 ?_; refine zb1 [_, _, _, _, _, _, _] ?_; refine zsn hS ?_; intro w1 hS; have hS := hS.ns; refine zm ?_; refine zn ?_; refine zr ?_; refine Q1w vw (Qe (n := 7) (by kernel_rfl) (by kernel_rfl) (hS.blkAt fd) (by rfl) (by rfl)) vw ?_)
         all_goals (refine ⟨_, rfl, ?_, hS.sp⟩; (rfl); done))
      | (refine Q4 rfl ?_ -- Q9 c0
         all_goals (refine Q0 ?_; refine Q0 ?_; refine Q2 ?_)
         all_goals (first | (refine Qq ?_) | (refine Qr ?_))
         all_goals (refine zm ?_; refine zn ?_)
         all_goals
           first
           | (refine Q5 rfl ?_ -- Q9 c1
              all_goals refine zsk ?_)
           | (refine Q4 rfl ?_ -- Q9 c1
              all_goals (refine Q2 ?_)
              all_goals (first | (refine Qq ?_) | (refine Qr ?_))
              all_goals (refine zm ?_)
              all_goals refine zn ?_)
         all_goals
           first
           | (refine Q5 rfl ?_ -- Q9 c2
              all_goals (refine Q0 ?_; refine Q2 ?_; refine zb3 [_, _, _, _, _, _, _] ?_; refine zsn hS ?_; intro w1 hS; have hS := hS.ns; refine zm ?_; refine zn ?_; refine zr ?_; refine Q1w vw (Qe (n := 7) (by kernel_rfl) (by kernel_rfl) (hS.blkAt fd) (by rfl) (by rfl)) vw ?_)
              all_goals (refine ⟨_, rfl, ?_, hS.sp⟩; (rfl); done))
           | (refine Q4 rfl ?_ -- Q9 c2
              all_goals (refine Q0 ?_; refine Q0 ?_; refine Q2 ?_)
              all_goals (first | (refine Qq ?_) | (refine Qr ?_))
              all_goals (refine zm ?_; refine zn ?_)
              all_goals
                first
                | (refine Q5 rfl ?_ -- Q9 c3
                   all_goals refine zsk ?_)
                | (refine Q4 rfl ?_ -- Q9 c3
                   all_goals (refine Q2 ?_)
                   all_goals (first | (refine Qq ?_) | (refine Qr ?_))
                   all_goals (refine zm ?_)
                   all_goals refine zn ?_)
              all_goals
                first
                | (refine Q5 rfl ?_ -- Q9 c4
                   all_goals (refine Q0 ?_; refine Q2 ?_; refine zb0 [_, _, _, _, _, _, _] ?_; refine zsn hS ?_; intro w1 hS; have hS := hS.ns; refine zm ?_; refine zn ?_; refine zr ?_; refine Q1w vw (Qe (n := 7) (by kernel_rfl) (by kernel_rfl) (hS.blkAt fd) (by rfl) (by rfl)) vw ?_)
                   all_goals (refine ⟨_, rfl, ?_, hS.sp⟩; (rfl); done))
                | (refine Q4 rfl ?_ -- Q9 c4
                   all_goals (refine Q0 ?_; refine Q0 ?_; refine Q2 ?_)
                   all_goals (first | (refine Qq ?_) | (refine Qr ?_))
                   all_goals (refine zm ?_; refine zn ?_)
                   all_goals
                     first
                     | (refine Q5 rfl ?_ -- Q9 c5
                        all_goals refine zsk ?_)
                     | (refine Q4 rfl ?_ -- Q9 c5
                        all_goals (refine Q0 ?_; refine Q2 ?_)
                        all_goals (first | (refine Qq ?_) | (refine Qr ?_))
                        all_goals (refine zm ?_; refine zn ?_)
                        all_goals
                          first
                          | (refine Q5 rfl ?_ -- Q9 c6
                             all_goals refine zsk ?_)
                          | (refine Q4 rfl ?_ -- Q9 c6
                             all_goals (refine Q2 ?_)
                             all_goals (first | (refine Qq ?_) | (refine Qr ?_))
                             all_goals (refine zm ?_)
                             all_goals refine zn ?_))
                   all_goals
                     first
                     | (refine Q5 rfl ?_ -- Q9 c7
                        all_goals (refine Q0 ?_; refine Q2 ?_; refine zb1 [_, _, _, _, _, _, _] ?_; refine zsn hS ?_; intro w1 hS; have hS := hS.ns; refine zm ?_; refine zn ?_; refine zr ?_; refine Q1w vw (Qe (n := 7) (by kernel_rfl) (by kernel_rfl) (hS.blkAt fd) (by rfl) (by rfl)) vw ?_)
                        all_goals (refine ⟨_, rfl, ?_, hS.sp⟩; (rfl); done))
                     | (refine Q4 rfl ?_ -- Q9 c7
                        all_goals (refine Q0 ?_; refine Q2 ?_)
                        all_goals (first | (refine Qq ?_) | (refine Qr ?_))
                        all_goals (refine zm ?_; refine zn ?_)
                        all_goals
                          first
                          | (refine Q5 rfl ?_ -- Q9 c8
                             all_goals (refine Q0 ?_; refine Q2 ?_; refine zb2 [_, _, _, _, _, _, _] ?_; refine zsn hS ?_; intro w1 hS; have hS := hS.ns; refine zm ?_; refine zn ?_; refine zr ?_; refine Q1w vw (Qe (n := 7) (by kernel_rfl) (by kernel_rfl) (hS.blkAt fd) (by rfl) (by rfl)) vw ?_)
                             all_goals (refine ⟨_, rfl, ?_, hS.sp⟩; (rfl); done))
                          | (refine Q4 rfl ?_ -- Q9 c8
                             all_goals (refine Q0 ?_; refine Q2 ?_)
                             all_goals (first | (refine Qq ?_) | (refine Qr ?_))
                             all_goals (refine zm ?_; refine zn ?_)
                             all_goals
                               first
                               | (refine Q5 rfl ?_ -- Q9 c9
                                  all_goals (refine Q0 ?_; refine Q2 ?_; refine zb2 [_, _, _, _, _, _, _] ?_; refine zsn hS ?_; intro w1 hS; have hS := hS.ns; refine zm ?_; refine zn ?_; refine zr ?_; refine Q1w vw (Qe (n := 7) (by kernel_rfl) (by kernel_rfl) (hS.blkAt fd) (by rfl) (by rfl)) vw ?_)
                                  all_goals (refine ⟨_, rfl, ?_, hS.sp⟩; (rfl); done))
                               | (refine Q4 rfl ?_ -- Q9 c9
                                  all_goals (refine Q0 ?_; refine Q0 ?_; refine Q2 ?_)
                                  all_goals (first | (refine Qq ?_) | (refine Qr ?_))
                                  all_goals (refine zm ?_; refine zn ?_)
                                  all_goals
                                    first
                                    | (refine Q5 rfl ?_ -- Q9 c10
                                       all_goals refine zsk ?_)
                                    | (refine Q4 rfl ?_ -- Q9 c10
                                       all_goals (refine Q2 ?_)
                                       all_goals (first | (refine Qq ?_) | (refine Qr ?_))
                                       all_goals (refine zm ?_)
                                       all_goals refine zn ?_)
                                  all_goals
                                    first
                                    | (refine Q5 rfl ?_ -- Q9 c11
                                       all_goals (refine Q0 ?_; refine Q2 ?_; refine zb2 [_, _, _, _, _, _, _] ?_; refine zsn hS ?_; intro w1 hS; have hS := hS.ns; refine zm ?_; refine zn ?_; refine zr ?_; refine Q1w vw (Qe (n := 7) (by kernel_rfl) (by kernel_rfl) (hS.blkAt fd) (by rfl) (by rfl)) vw ?_)
                                       all_goals (refine ⟨_, rfl, ?_, hS.sp⟩; (rfl); done))
                                    | (refine Q4 rfl ?_ -- Q9 c11
                                       all_goals (refine Q0 ?_; refine Q2 ?_)
                                       all_goals (first | (refine Qq ?_) | (refine Qr ?_))
                                       all_goals (refine zm ?_; refine zn ?_)
                                       all_goals
                                         first
                                         | (refine Q5 rfl ?_ -- Q9 c12
                                            all_goals (refine Q0 ?_; refine Q2 ?_; refine zb3 [_, _, _, _, _, _, _] ?_; refine zsn hS ?_; intro w1 hS; have hS := hS.ns; refine zm ?_; refine zn ?_; refine zr ?_; refine Q1w vw (Qe (n := 7) (by kernel_rfl) (by kernel_rfl) (hS.blkAt fd) (by rfl) (by rfl)) vw ?_)
                                            all_goals (refine ⟨_, rfl, ?_, hS.sp⟩; (rfl); done))
                                         | (refine Q4 rfl ?_ -- Q9 c12
                                            all_goals (refine Q0 ?_; refine Q2 ?_)
                                            all_goals (first | (refine Qq ?_) | (refine Qr ?_))
                                            all_goals (refine zm ?_; refine zn ?_)
                                            all_goals
                                              first
                                              | (refine Q5 rfl ?_ -- Q9 c13
                                                 all_goals (refine Q0 ?_; refine Q2 ?_; refine zb3 [_, _, _, _, _, _, _] ?_; refine zsn hS ?_; intro w1 hS; have hS := hS.ns; refine zm ?_; refine zn ?_; refine zr ?_; refine Q1w vw (Qe (n := 7) (by kernel_rfl) (by kernel_rfl) (hS.blkAt fd) (by rfl) (by rfl)) vw ?_)
                                                 all_goals (refine ⟨_, rfl, ?_, hS.sp⟩; (rfl); done))
                                              | (refine Q4 rfl ?_ -- Q9 c13
                                                 all_goals refine zsk ?_)))))))))
    all_goals (refine Q0 ?_; refine Q2 ?_; refine zb0 [_, _, _, _, _, _, _] ?_; refine zsn hS ?_; intro w1 hS; have hS := hS.ns; refine zm ?_; refine zn ?_; refine zr ?_; refine Q1w vw (Qe (n := 7) (by kernel_rfl) (by kernel_rfl) (hS.blkAt fd) (by rfl) (by rfl)) vw ?_; refine ⟨_, rfl, ?_, hS.sp⟩; (rfl); done)
  · clear hbad
    rcases op_cases (op := op) (by omega) (by omega) with rfl | rfl | rfl | rfl | rfl | rfl | rfl | rfl | rfl | rfl | rfl | rfl | rfl | rfl
    all_goals clear hb
    all_goals refine Q6Z ?_
    all_goals (unfold R_FieldsOf_lc; skip; refine Q0 ?_; refine Q2 ?_; refine Qc hS ?_; intro p2 w1 hS; refine zm ?_; refine zn ?_; refine Q0 ?_; refine Q0 ?_; refine Q2 ?_; refine zm ?_; refine zn ?_; refine Q8 ?_; refine Q0 ?_; refine Q2 ?_)
    all_goals (first | (refine Qq ?_) | (refine Qr ?_))
    all_goals (refine zm ?_; refine zn ?_)
    all_goals
      first
      | (refine Q5 rfl ?_ -- Q9 c0
         all_goals (refine Q0 ?_; refine Q2 ?_; refine zb1 [_, _, _, _, _, _, _] ?_; refine zsn hS ?_; intro w1 hS; have hS := hS.ns; refine zm ?_; refine zn ?_; refine zr ?_; refine Q1w vw (Qe (n := 7) (by kernel_rfl) (by kernel_rfl) (hS.blkAt fd) (by rfl) (by rfl)) vw ?_)
         all_goals (refine ⟨_, rfl, ?_, hS.sp⟩; (rfl); done))
      | (refine Q4 rfl ?_ -- Q9 c0
         all_goals (refine Q0 ?_; refine Q0 ?_; refine Q2 ?_)
         all_goals (first | (refine Qq ?_) | (refine Qr ?_))
         all_goals (refine zm ?_; refine zn ?_)
         all_goals
           first
           | (refine Q5 rfl ?_ -- Q9 c1
              all_goals refine zsk ?_)
           | (refine Q4 rfl ?_ -- Q9 c1
              all_goals (refine Q2 ?_)
              all_goals (first | (refine Qq ?_) | (refine Qr ?_))
              all_goals (refine zm ?_)
              all_goals refine zn ?_)
         all_goals
           first
           | (refine Q5 rfl ?_ -- Q9 c2
              all_goals (refine Q0 ?_; refine Q2 ?_; refine zb3 [_, _, _, _, _, _, _] ?_; refine zsn hS ?_; intro w1 hS; have hS := hS.ns; refine zm ?_; refine zn ?_; refine zr ?_; refine Q1w vw (Qe (n := 7) (by kernel_rfl) (by kernel_rfl) (hS.blkAt fd) (by rfl) (by rfl)) vw ?_)
              all_goals (refine ⟨_, rfl, ?_, hS.sp⟩; (rfl); done))
           | (refine Q4 rfl ?_ -- Q9 c2
              all_goals (refine Q0 ?_; refine Q0 ?_; refine Q2 ?_)
              all_goals (first | (refine Qq ?_) | (refine Qr ?_))
              all_goals (refine zm ?_; refine zn ?_)
              all_goals
                first
                | (refine Q5 rfl ?_ -- Q9 c3
                   all_goals refine zsk ?_)
                | (refine Q4 rfl ?_ -- Q9 c3
                   all_goals (refine Q2 ?_)
                   all_goals (first | (refine Qq ?_) | (refine Qr ?_))
                   all_goals (refine zm ?_)
                   all_goals refine zn ?_)
              all_goals
                first
                | (refine Q5 rfl ?_ -- Q9 c4
                   all_goals (refine Q0 ?_; refine Q2 ?_; refine zb0 [_, _, _, _, _, _, _] ?_; refine zsn hS ?_; intro w1 hS; have hS := hS.ns; refine zm ?_; refine zn ?_; refine zr ?_; refine Q1w vw (Qe (n := 7) (by kernel_rfl) (by kernel_rfl) (hS.blkAt fd) (by rfl) (by rfl)) vw ?_)
                   all_goals (refine ⟨_, rfl, ?_, hS.sp⟩; (rfl); done))
                | (refine Q4 rfl ?_ -- Q9 c4
                   all_goals (refine Q0 ?_; refine Q0 ?_; refine Q2 ?_)
                   all_goals (first | (refine Qq ?_) | (refine Qr ?_))
                   all_goals (refine zm ?_; refine zn ?_)
                   all_goals
                     first
                     | (refine Q5 rfl ?_ -- Q9 c5
                        all_goals refine zsk ?_)
                     | (refine Q4 rfl ?_ -- Q9 c5
                        all_goals (refine Q0 ?_; refine Q2 ?_)
                        all_goals (first | (refine Qq ?_) | (refine Qr ?_))
                        all_goals (refine zm ?_; refine zn ?_)
                        all_goals
                          first
                          | (refine Q5 rfl ?_ -- Q9 c6
                             all_goals refine zsk ?_)
                          | (refine Q4 rfl ?_ -- Q9 c6
                             all_goals (refine Q2 ?_)
                             all_goals (first | (refine Qq ?_) | (refine Qr ?_))
                             all_goals (refine zm ?_)
                             all_goals refine zn ?_))
                   all_goals
                     first
                     | (refine Q5 rfl ?_ -- Q9 c7
                        all_goals (refine Q0 ?_; refine Q2 ?_; refine zb1 [_, _, _, _, _, _, _] ?_; refine zsn hS ?_; intro w1 hS; have hS := hS.ns; refine zm ?_; refine zn ?_; refine zr ?_; refine Q1w vw (Qe (n := 7) (by kernel_rfl) (by kernel_rfl) (hS.blkAt fd) (by rfl) (by rfl)) vw ?_)
                        all_goals (refine ⟨_, rfl, ?_, hS.sp⟩; (rfl); done))
                     | (refine Q4 rfl ?_ -- Q9 c7
                        all_goals (refine Q0 ?_; refine Q2 ?_)
                        all_goals (first | (refine Qq ?_) | (refine Qr ?_))
                        all_goals (refine zm ?_; refine zn ?_)
                        all_goals
                          first
                          | (refine Q5 rfl ?_ -- Q9 c8
                             all_goals (refine Q0 ?_; refine Q2 ?_; refine zb2 [_, _, _, _, _, _, _] ?_; refine zsn hS ?_; intro w1 hS; have hS := hS.ns; refine zm ?_; refine zn ?_; refine zr ?_; refine Q1w vw (Qe (n := 7) (by kernel_rfl) (by kernel_rfl) (hS.blkAt fd) (by rfl) (by rfl)) vw ?_)
                             all_goals (refine ⟨_, rfl, ?_, hS.sp⟩; (rfl); done))
                          | (refine Q4 rfl ?_ -- Q9 c8
                             all_goals (refine Q0 ?_; refine Q2 ?_)
                             all_goals (first | (refine Qq ?_) | (refine Qr ?_))
                             all_goals (refine zm ?_; refine zn ?_)
                             all_goals
                               first
                               | (refine Q5 rfl ?_ -- Q9 c9
                                  all_goals (refine Q0 ?_; refine Q2 ?_; refine zb2 [_, _, _, _, _, _, _] ?_; refine zsn hS ?_; intro w1 hS; have hS := hS.ns; refine zm ?_; refine zn ?_; refine zr ?_; refine Q1w vw (Qe (n := 7) (by kernel_rfl) (by kernel_rfl) (hS.blkAt fd) (by rfl) (by rfl)) vw ?_)
                                  all_goals (refine ⟨_, rfl, ?_, hS.sp⟩; (rfl); done))
                               | (refine Q4 rfl ?_ -- Q9 c9
                                  all_goals (refine Q0 ?_; refine Q0 ?_; refine Q2 ?_)
                                  all_goals (first | (refine Qq ?_) | (refine Qr ?_))
                                  all_goals (refine zm ?_; refine zn ?_)
                                  all_goals
                                    first
                                    | (refine Q5 rfl ?_ -- Q9 c10
                                       all_goals refine zsk ?_)
                                    | (refine Q4 rfl ?_ -- Q9 c10
                                       all_goals (refine Q2 ?_)
                                       all_goals (first | (refine Qq ?_) | (refine Qr ?_))
                                       all_goals (refine zm ?_)
                                       all_goals refine zn ?_)
                                  all_goals
                                    first
                                    | (refine Q5 rfl ?_ -- Q9 c11
                                       all_goals (refine Q0 ?_; refine Q2 ?_; refine zb2 [_, _, _, _, _, _, _] ?_; refine zsn hS ?_; intro w1 hS; have hS := hS.ns; refine zm ?_; refine zn ?_; refine zr ?_; refine Q1w vw (Qe (n := 7) (by kernel_rfl) (by kernel_rfl) (hS.blkAt fd) (by rfl) (by rfl)) vw ?_)
                                       all_goals (refine ⟨_, rfl, ?_, hS.sp⟩; (rfl); done))
                                    | (refine Q4 rfl ?_ -- Q9 c11
                                       all_goals (refine Q0 ?_; refine Q2 ?_)
                                       all_goals (first | (refine Qq ?_) | (refine Qr ?_))
                                       all_goals (refine zm ?_; refine zn ?_)
                                       all_goals
                                         first
                                         | (refine Q5 rfl ?_ -- Q9 c12
                                            all_goals (refine Q0 ?_; refine Q2 ?_; refine zb3 [_, _, _, _, _, _, _] ?_; refine zsn hS ?_; intro w1 hS; have hS := hS.ns; refine zm ?_; refine zn ?_; refine zr ?_; refine Q1w vw (Qe (n := 7) (by kernel_rfl) (by kernel_rfl) (hS.blkAt fd) (by rfl) (by rfl)) vw ?_)
                                            all_goals (refine ⟨_, rfl, ?_, hS.sp⟩; (rfl); done))
                                         | (refine Q4 rfl ?_ -- Q9 c12
                                            all_goals (refine Q0 ?_; refine Q2 ?_)
                                            all_goals (refine Qq ?_)
                                            all_goals (refine zm ?_; refine zn ?_)
                                            all_goals
                                              first
                                              | (refine Q5 rfl ?_ -- Q9 c13
                                                 all_goals (refine Q0 ?_; refine Q2 ?_; refine zb3 [_, _, _, _, _, _, _] ?_; refine zsn hS ?_; intro w1 hS; have hS := hS.ns; refine zm ?_; refine zn ?_; refine zr ?_; refine Q1w vw (Qe (n := 7) (by kernel_rfl) (by kernel_rfl) (hS.blkAt fd) (by rfl) (by rfl)) vw ?_)
                                                 all_goals (refine ⟨_, rfl, ?_, hS.sp⟩; (rfl); done))))))))))
    all_goals (refine Q0 ?_; refine Q2 ?_; refine zb0 [_, _, _, _, _, _, _] ?_; refine zsn hS ?_; intro w1 hS; have hS := hS.ns; refine zm ?_; refine zn ?_; refine zr ?_; refine Q1w vw (Qe (n := 7) (by kernel_rfl) (by kernel_rfl) (hS.blkAt fd) (by rfl) (by rfl)) vw ?_; refine ⟨_, rfl, ?_, hS.sp⟩; (rfl); done)
theorem rins_c {x : Ins} {m : Module} {cs ds : List Value} (hm : modR.at cx cs m) (hx : insR.at cx ds x) (hS : St cx w L) : Rets Tryz.prog Qy [.agg ⟨cs⟩, .agg ⟨ds⟩] w fun u w' => u = .int .i64 (Q1I m.funcs.length x) ∧ St cx w' L := by
  obtain ⟨vf, rfl, hf⟩ := Q1B hm
  obtain ⟨vr, va, rfl, hr, ha⟩ := Q1u hx
  have hlr := hr.len
  have hla := ha.len
  have hln := hf.len
  unfold Q1I
  all_goals refine QkL ?_
  all_goals (unfold R_InsForm_lc; refine Q0 ?_; refine Q2 ?_; refine zb hS ?_; intro p2 w1 hS; refine zb hS ?_; intro p3 w1 hS; refine zm ?_; refine zn ?_; refine Q0 ?_; refine Q2 ?_; refine Q1 rfl ?_; refine zl hS ?_; refine zR1 (c := QmN hS) (h := ?_); rintro v1 w1 ⟨rfl, hS⟩; refine zm ?_; refine QcP rfl rfl ?_; refine QcP rfl rfl ?_; refine Qc hS ?_; intro p5 w1 hS; refine zsn hS ?_; intro w1 hS; have hS := hS.ns; refine zm ?_; refine zn ?_)
  refine zML hS [2, 3, 5] (fun A LL ρ' w' => Has ρ' A ∧ Has ρ' [] ∧ (1 ≤ x.op ∧ x.op ≤ 14) ∧ St cx w' (LL)) ?_ ?_
  · skip
    all_goals (refine Q0 ?_)
    all_goals (cases hop : decide (1 ≤ x.op ∧ x.op ≤ 14))
    all_goals (refine Q2 ?_; refine zm ?_; refine Q1G rfl ?_; refine zn ?_)
    all_goals
      first
      | (refine Q5 rfl ?_ -- Qy c0
         all_goals (refine Q0 ?_; refine Q2 ?_; refine zm ?_; refine zn ?_; refine zr ?_; refine zf ?_)
         all_goals (refine ⟨_, rfl, ?_, hS.sp⟩; rw [if_pos (by have := of_decide_eq_false hop; omega)]; done))
      | (refine Q4 rfl ?_ -- Qy c0
         all_goals refine zsk ?_)
    all_goals (exact ⟨zh, zh, by exact of_decide_eq_true hop, hS.sp⟩)
  rintro ρ w1 ⟨hA, hρ, hop, hS⟩; obtain ⟨ρ, rfl⟩ := env2 hA hρ; obtain ⟨a1, ha1⟩ : ∃ b, fA x.op = b := ⟨_, rfl⟩; obtain ⟨a2, ha2⟩ : ∃ b, fB x.op = b := ⟨_, rfl⟩; obtain ⟨a3, ha3⟩ : ∃ b, fC x.op = b := ⟨_, rfl⟩; obtain ⟨a4, ha4⟩ : ∃ b, fK x.op = b := ⟨_, rfl⟩; obtain ⟨a5, ha5⟩ : ∃ b, fN x.op = b := ⟨_, rfl⟩; obtain ⟨a6, ha6⟩ : ∃ b, fG x.op = b := ⟨_, rfl⟩; obtain ⟨a7, ha7⟩ : ∃ b, fR x.op = b := ⟨_, rfl⟩; rw [ha1, ha2, ha3, ha4, ha5, ha6, ha7] at hS
  refine zML hS [2, 3] (fun A LL ρ' w' => Has ρ' A ∧ Has ρ' [] ∧ (¬ x.odd) ∧ St cx w' (LL)) ?_ ?_
  · skip
    all_goals (refine Q0 ?_; refine Q2 ?_)
    refine zKL hS 8 [2, 3, 5] (fun A LL ρ' w' => ∃ (q1 : Bool), Has ρ' A ∧ Has ρ' [(22, .bool q1)] ∧ (q1 = true ↔ (fA x.op = false ∧ x.a ≠ 0)) ∧ St cx w' (LL)) ?_ ?_
    · skip
      all_goals (refine Q1 rfl ?_; refine zl hS ?_)
      all_goals (cases a1)
      all_goals (refine Q1G rfl ?_; refine zm ?_; (first | refine s_gn rfl rfl ?_ | (refine s_gy rfl ?_; refine Q1 rfl ?_)); (first | refine s_gn rfl rfl ?_ | (refine s_gy rfl ?_; refine zl hS ?_)))
      all_goals (first | refine s_gn rfl rfl ?_ | (refine s_gy rfl ?_; (first | (refine Q1m ?_) | (refine Q1n ?_) | (refine Qs rfl rfl (fun hc => ?_) (fun hc => ?_)))))
      all_goals ((first | (refine zpt ?_) | (refine zpf ?_)); refine Q3M ?_; refine Q1X ?_)
      all_goals (first | (exact ⟨_, zh, zh, by exact ⟨fun _ => ⟨(by first | rfl | assumption), by omega⟩, fun _ => rfl⟩, hS.sp⟩) | (exact ⟨_, zh, zh, by exact ⟨fun h => Bool.noConfusion h, fun h => by obtain ⟨h1, h2⟩ := h; first | (exfalso; omega) | (simp_all; done)⟩, hS.sp⟩))
    rintro ρ w1 ⟨q1, hA, hρ, hq1, hS⟩; obtain ⟨ρ, rfl⟩ := env2 hA hρ
    refine zKL hS 10 [2, 3, 5] (fun A LL ρ' w' => ∃ (q2 : Bool), Has ρ' A ∧ Has ρ' [(32, .bool q2)] ∧ (q2 = true ↔ ((fA x.op = false ∧ x.a ≠ 0) ∨ (fB x.op = false ∧ x.b ≠ 0))) ∧ St cx w' (LL)) ?_ ?_
    · skip
      all_goals (cases q1)
      all_goals (refine zm ?_; (first | refine s_gn rfl rfl ?_ | (refine s_gy rfl ?_; refine Q1 rfl ?_)); (first | refine s_gn rfl rfl ?_ | (refine s_gy rfl ?_; refine zl hS ?_)))
      all_goals (cases a2)
      all_goals ((first | refine s_gn rfl rfl ?_ | (refine s_gy rfl ?_; refine Q1G rfl ?_)); (first | refine s_gn rfl rfl ?_ | (refine s_gy rfl ?_; refine zm ?_)); (first | refine s_gn rfl rfl ?_ | (refine s_gy rfl ?_; refine Q1 rfl ?_)); (first | refine s_gn rfl rfl ?_ | (refine s_gy rfl ?_; refine zl hS ?_)))
      all_goals (first | refine s_gn rfl rfl ?_ | (refine s_gy rfl ?_; (first | (refine Q1m ?_) | (refine Q1n ?_) | (refine Qs rfl rfl (fun hc => ?_) (fun hc => ?_)))))
      all_goals ((first | refine s_gn rfl rfl ?_ | (refine s_gy rfl ?_; (first | (refine zpt ?_) | (refine zpf ?_)))); (first | (refine zpt ?_) | (refine zpf ?_)); refine Q3M ?_; refine Q1X ?_)
      all_goals (first | (exact ⟨_, zh, zh, by exact ⟨fun _ => .inl (hq1.1 rfl), fun _ => rfl⟩, hS.sp⟩) | (exact ⟨_, zh, zh, by exact ⟨fun _ => .inr ⟨(by first | rfl | assumption), by omega⟩, fun _ => rfl⟩, hS.sp⟩) | (exact ⟨_, zh, zh, by exact ⟨fun h => Bool.noConfusion h, fun h => h.elim (fun h => hq1.2 h) (fun h => by obtain ⟨h1, h2⟩ := h; first | (exfalso; omega) | (simp_all; done))⟩, hS.sp⟩))
    rintro ρ w1 ⟨q2, hA, hρ, hq2, hS⟩; obtain ⟨ρ, rfl⟩ := env2 hA hρ
    refine zKL hS 10 [2, 3, 5] (fun A LL ρ' w' => ∃ (q3 : Bool), Has ρ' A ∧ Has ρ' [(42, .bool q3)] ∧ (q3 = true ↔ (((fA x.op = false ∧ x.a ≠ 0) ∨ (fB x.op = false ∧ x.b ≠ 0)) ∨ (fC x.op = false ∧ x.c ≠ 0))) ∧ St cx w' (LL)) ?_ ?_
    · skip
      all_goals (cases q2)
      all_goals (refine zm ?_; (first | refine s_gn rfl rfl ?_ | (refine s_gy rfl ?_; refine Q1 rfl ?_)); (first | refine s_gn rfl rfl ?_ | (refine s_gy rfl ?_; refine zl hS ?_)))
      all_goals (cases a3)
      all_goals ((first | refine s_gn rfl rfl ?_ | (refine s_gy rfl ?_; refine Q1G rfl ?_)); (first | refine s_gn rfl rfl ?_ | (refine s_gy rfl ?_; refine zm ?_)); (first | refine s_gn rfl rfl ?_ | (refine s_gy rfl ?_; refine Q1 rfl ?_)); (first | refine s_gn rfl rfl ?_ | (refine s_gy rfl ?_; refine zl hS ?_)))
      all_goals (first | refine s_gn rfl rfl ?_ | (refine s_gy rfl ?_; (first | (refine Q1m ?_) | (refine Q1n ?_) | (refine Qs rfl rfl (fun hc => ?_) (fun hc => ?_)))))
      all_goals ((first | refine s_gn rfl rfl ?_ | (refine s_gy rfl ?_; (first | (refine zpt ?_) | (refine zpf ?_)))); (first | (refine zpt ?_) | (refine zpf ?_)); refine Q3M ?_; refine Q1X ?_)
      all_goals (first | (exact ⟨_, zh, zh, by exact ⟨fun _ => .inl (hq2.1 rfl), fun _ => rfl⟩, hS.sp⟩) | (exact ⟨_, zh, zh, by exact ⟨fun _ => .inr ⟨(by first | rfl | assumption), by omega⟩, fun _ => rfl⟩, hS.sp⟩) | (exact ⟨_, zh, zh, by exact ⟨fun h => Bool.noConfusion h, fun h => h.elim (fun h => hq2.2 h) (fun h => by obtain ⟨h1, h2⟩ := h; first | (exfalso; omega) | (simp_all; done))⟩, hS.sp⟩))
    rintro ρ w1 ⟨q3, hA, hρ, hq3, hS⟩; obtain ⟨ρ, rfl⟩ := env2 hA hρ
    refine zKL hS 10 [2, 3, 5] (fun A LL ρ' w' => ∃ (q4 : Bool), Has ρ' A ∧ Has ρ' [(52, .bool q4)] ∧ (q4 = true ↔ ((((fA x.op = false ∧ x.a ≠ 0) ∨ (fB x.op = false ∧ x.b ≠ 0)) ∨ (fC x.op = false ∧ x.c ≠ 0)) ∨ (fK x.op = false ∧ x.k ≠ 0))) ∧ St cx w' (LL)) ?_ ?_
    · skip
      all_goals (cases q3)
      all_goals (refine zm ?_; (first | refine s_gn rfl rfl ?_ | (refine s_gy rfl ?_; refine Q1 rfl ?_)); (first | refine s_gn rfl rfl ?_ | (refine s_gy rfl ?_; refine zl hS ?_)))
      all_goals (cases a4)
      all_goals ((first | refine s_gn rfl rfl ?_ | (refine s_gy rfl ?_; refine Q1G rfl ?_)); (first | refine s_gn rfl rfl ?_ | (refine s_gy rfl ?_; refine zm ?_)); (first | refine s_gn rfl rfl ?_ | (refine s_gy rfl ?_; refine Q1 rfl ?_)); (first | refine s_gn rfl rfl ?_ | (refine s_gy rfl ?_; refine zl hS ?_)))
      all_goals (first | refine s_gn rfl rfl ?_ | (refine s_gy rfl ?_; (first | (refine Q1m ?_) | (refine Q1n ?_) | (refine Qs rfl rfl (fun hc => ?_) (fun hc => ?_)))))
      all_goals ((first | refine s_gn rfl rfl ?_ | (refine s_gy rfl ?_; (first | (refine zpt ?_) | (refine zpf ?_)))); (first | (refine zpt ?_) | (refine zpf ?_)); refine Q3M ?_; refine Q1X ?_)
      all_goals (first | (exact ⟨_, zh, zh, by exact ⟨fun _ => .inl (hq3.1 rfl), fun _ => rfl⟩, hS.sp⟩) | (exact ⟨_, zh, zh, by exact ⟨fun _ => .inr ⟨(by first | rfl | assumption), by omega⟩, fun _ => rfl⟩, hS.sp⟩) | (exact ⟨_, zh, zh, by exact ⟨fun h => Bool.noConfusion h, fun h => h.elim (fun h => hq3.2 h) (fun h => by obtain ⟨h1, h2⟩ := h; first | (exfalso; omega) | (simp_all; done))⟩, hS.sp⟩))
    rintro ρ w1 ⟨q4, hA, hρ, hq4, hS⟩; obtain ⟨ρ, rfl⟩ := env2 hA hρ
    refine zKL hS 10 [2, 3, 5] (fun A LL ρ' w' => ∃ (q5 : Bool), Has ρ' A ∧ Has ρ' [(62, .bool q5)] ∧ (q5 = true ↔ (((((fA x.op = false ∧ x.a ≠ 0) ∨ (fB x.op = false ∧ x.b ≠ 0)) ∨ (fC x.op = false ∧ x.c ≠ 0)) ∨ (fK x.op = false ∧ x.k ≠ 0)) ∨ (fN x.op = false ∧ x.n ≠ 0))) ∧ St cx w' (LL)) ?_ ?_
    · skip
      all_goals (cases q4)
      all_goals (refine zm ?_; (first | refine s_gn rfl rfl ?_ | (refine s_gy rfl ?_; refine Q1 rfl ?_)); (first | refine s_gn rfl rfl ?_ | (refine s_gy rfl ?_; refine zl hS ?_)))
      all_goals (cases a5)
      all_goals ((first | refine s_gn rfl rfl ?_ | (refine s_gy rfl ?_; refine Q1G rfl ?_)); (first | refine s_gn rfl rfl ?_ | (refine s_gy rfl ?_; refine zm ?_)); (first | refine s_gn rfl rfl ?_ | (refine s_gy rfl ?_; refine Q1 rfl ?_)); (first | refine s_gn rfl rfl ?_ | (refine s_gy rfl ?_; refine zl hS ?_)))
      all_goals (first | refine s_gn rfl rfl ?_ | (refine s_gy rfl ?_; (first | (refine Q1m ?_) | (refine Q1n ?_) | (refine Qs rfl rfl (fun hc => ?_) (fun hc => ?_)))))
      all_goals ((first | refine s_gn rfl rfl ?_ | (refine s_gy rfl ?_; (first | (refine zpt ?_) | (refine zpf ?_)))); (first | (refine zpt ?_) | (refine zpf ?_)); refine Q3M ?_; refine Q1X ?_)
      all_goals (first | (exact ⟨_, zh, zh, by exact ⟨fun _ => .inl (hq4.1 rfl), fun _ => rfl⟩, hS.sp⟩) | (exact ⟨_, zh, zh, by exact ⟨fun _ => .inr ⟨(by first | rfl | assumption), by omega⟩, fun _ => rfl⟩, hS.sp⟩) | (exact ⟨_, zh, zh, by exact ⟨fun h => Bool.noConfusion h, fun h => h.elim (fun h => hq4.2 h) (fun h => by obtain ⟨h1, h2⟩ := h; first | (exfalso; omega) | (simp_all; done))⟩, hS.sp⟩))
    rintro ρ w1 ⟨q5, hA, hρ, hq5, hS⟩; obtain ⟨ρ, rfl⟩ := env2 hA hρ
    refine zKL hS 11 [2, 3, 5] (fun A LL ρ' w' => ∃ (q6 : Bool), Has ρ' A ∧ Has ρ' [(73, .bool q6)] ∧ (q6 = true ↔ ((((((fA x.op = false ∧ x.a ≠ 0) ∨ (fB x.op = false ∧ x.b ≠ 0)) ∨ (fC x.op = false ∧ x.c ≠ 0)) ∨ (fK x.op = false ∧ x.k ≠ 0)) ∨ (fN x.op = false ∧ x.n ≠ 0)) ∨ (fG x.op = false ∧ 0 < x.regs.length))) ∧ St cx w' (LL)) ?_ ?_
    · skip
      all_goals (cases q5)
      all_goals (refine zm ?_; (first | refine s_gn rfl rfl ?_ | (refine s_gy rfl ?_; refine Q1 rfl ?_)); (first | refine s_gn rfl rfl ?_ | (refine s_gy rfl ?_; refine zl hS ?_)))
      all_goals (cases a6)
      all_goals ((first | refine s_gn rfl rfl ?_ | (refine s_gy rfl ?_; refine Q1G rfl ?_)); (first | refine s_gn rfl rfl ?_ | (refine s_gy rfl ?_; refine zm ?_)); (first | refine s_gn rfl rfl ?_ | (refine s_gy rfl ?_; refine Q1 rfl ?_)); (first | refine s_gn rfl rfl ?_ | (refine s_gy rfl ?_; refine zl hS ?_)); (first | refine s_gn rfl rfl ?_ | (refine s_gy rfl ?_; refine zL ?_)))
      all_goals (first | refine s_gn rfl rfl ?_ | (refine s_gy rfl ?_; (first | (refine Qz ?_) | (refine QF ?_) | (refine Qh rfl rfl (fun hc => ?_) (fun hc => ?_)))))
      all_goals ((first | refine s_gn rfl rfl ?_ | (refine s_gy rfl ?_; (first | (refine zpt ?_) | (refine zpf ?_)))); (first | (refine zpt ?_) | (refine zpf ?_)); refine Q3M ?_; refine Q1X ?_)
      all_goals (first | (exact ⟨_, zh, zh, by exact ⟨fun _ => .inl (hq5.1 rfl), fun _ => rfl⟩, hS.sp⟩) | (exact ⟨_, zh, zh, by exact ⟨fun _ => .inr ⟨(by first | rfl | assumption), by omega⟩, fun _ => rfl⟩, hS.sp⟩) | (exact ⟨_, zh, zh, by exact ⟨fun h => Bool.noConfusion h, fun h => h.elim (fun h => hq5.2 h) (fun h => by obtain ⟨h1, h2⟩ := h; first | (exfalso; omega) | (simp_all; done))⟩, hS.sp⟩))
    rintro ρ w1 ⟨q6, hA, hρ, hq6, hS⟩; obtain ⟨ρ, rfl⟩ := env2 hA hρ
    all_goals (cases q6)
    all_goals (refine zm ?_; (first | refine s_gn rfl rfl ?_ | (refine s_gy rfl ?_; refine Q1 rfl ?_)); (first | refine s_gn rfl rfl ?_ | (refine s_gy rfl ?_; refine zl hS ?_)))
    all_goals (cases a7)
    all_goals ((first | refine s_gn rfl rfl ?_ | (refine s_gy rfl ?_; refine Q1G rfl ?_)); (first | refine s_gn rfl rfl ?_ | (refine s_gy rfl ?_; refine zm ?_)); (first | refine s_gn rfl rfl ?_ | (refine s_gy rfl ?_; refine Q1 rfl ?_)); (first | refine s_gn rfl rfl ?_ | (refine s_gy rfl ?_; refine zl hS ?_)); (first | refine s_gn rfl rfl ?_ | (refine s_gy rfl ?_; refine zL ?_)))
    all_goals (first | refine s_gn rfl rfl ?_ | (refine s_gy rfl ?_; (first | (refine Qz ?_) | (refine QF ?_) | (refine Qh rfl rfl (fun hc => ?_) (fun hc => ?_)))))
    all_goals ((first | refine s_gn rfl rfl ?_ | (refine s_gy rfl ?_; (first | (refine zpt ?_) | (refine zpf ?_)))); (first | (refine zpt ?_) | (refine zpf ?_)); refine zn ?_)
    all_goals
      first
      | (refine Q5 rfl ?_ -- Qy c1
         all_goals (refine Q0 ?_; refine Q2 ?_; refine zm ?_; refine zn ?_; refine zr ?_; refine zf ?_)
         all_goals (first | (refine ⟨_, rfl, ?_, hS.sp⟩; rw [if_pos (by have := of_decide_eq_false hop; omega)]; done) | (refine ⟨_, rfl, ?_, hS.sp⟩; have ho : x.odd := (by unfold Ins.odd; simp only [← or_assoc]; first | exact .inl (hq6.1 rfl) | exact .inr ⟨(by first | rfl | assumption), by omega⟩); rw [if_neg (by omega), if_pos ho]; done)))
      | (refine Q4 rfl ?_ -- Qy c1
         all_goals refine zsk ?_)
    all_goals (exact ⟨zh, zh, by intro h; unfold Ins.odd at h; simp only [← or_assoc] at h; exact h.elim (fun h => Bool.noConfusion (hq6.2 h)) (fun h => by obtain ⟨h1, h2⟩ := h; first | (exfalso; omega) | (simp_all; done)), hS.sp⟩)
  rintro ρ w1 ⟨hA, hρ, hodd, hS⟩; obtain ⟨ρ, rfl⟩ := env2 hA hρ
  all_goals (refine Q0 ?_; refine Q0 ?_; clear hm hx; refine Q2 ?_; refine Q1 rfl ?_; refine zl hS ?_; refine zn ?_; refine Q8 ?_; refine Q0 ?_; refine Q2 ?_)
  all_goals (first | (refine Qq ?_) | (refine Qr ?_) | (refine Qf rfl rfl (fun hc => ?_) (fun hc => ?_)))
  all_goals (refine zm ?_; refine zn ?_)
  all_goals
    first
    | (refine Q5 rfl ?_ -- Qy c2
       all_goals (refine Q0 ?_; refine Q2 ?_; refine Q1 rfl ?_; refine zl hS ?_)
       all_goals (first | (refine Q1z ?_) | (refine Q1A ?_) | (refine QK rfl rfl (fun hc => ?_) (fun hc => ?_)))
       all_goals (refine zm ?_; (first | refine s_gn rfl rfl ?_ | (refine s_gy rfl ?_; refine Q1 rfl ?_)); (first | refine s_gn rfl rfl ?_ | (refine s_gy rfl ?_; refine zl hS ?_)))
       all_goals (first | refine s_gn rfl rfl ?_ | (refine s_gy rfl ?_; (first | (refine Qz ?_) | (refine QF ?_) | (refine Qh rfl rfl (fun hc => ?_) (fun hc => ?_)))))
       all_goals ((first | (refine zpt ?_) | (refine zpf ?_)); refine zn ?_)
       all_goals
         first
         | (refine Q5 rfl ?_ -- Qy c3
            all_goals (refine Q0 ?_; refine Q2 ?_; refine zm ?_; refine zn ?_; refine zr ?_; refine zf ?_)
            all_goals (first | (refine ⟨_, rfl, ?_, hS.sp⟩; rw [if_pos (by have := of_decide_eq_false hop; omega)]; done) | (refine ⟨_, rfl, ?_, hS.sp⟩; have ho : x.odd := (by unfold Ins.odd; simp only [← or_assoc]; first | exact .inl (hq6.1 rfl) | exact .inr ⟨(by first | rfl | assumption), by omega⟩); rw [if_neg (by omega), if_pos ho]; done) | (refine ⟨_, rfl, ?_, hS.sp⟩; rw [if_neg (by omega), if_neg hodd]; unfold Q1H; (repeat (first | rw [if_pos (by omega)] | rw [if_neg (by omega)])); done)))
         | (refine Q4 rfl ?_ -- Qy c3
            all_goals refine zsk ?_))
    | (refine Q4 rfl ?_ -- Qy c2
       all_goals (refine Q0 ?_; refine Q2 ?_)
       all_goals (first | (refine Qq ?_) | (refine Qr ?_) | (refine Qf rfl rfl (fun hc => ?_) (fun hc => ?_)))
       all_goals (refine zm ?_; refine zn ?_)
       all_goals
         first
         | (refine Q5 rfl ?_ -- Qy c4
            all_goals (refine Q0 ?_; refine Q2 ?_; refine Q1 rfl ?_; refine zl hS ?_; refine zL ?_)
            all_goals (first | (refine Qz ?_) | (refine QF ?_) | (refine Qh rfl rfl (fun hc => ?_) (fun hc => ?_)))
            all_goals (refine zn ?_)
            all_goals
              first
              | (refine Q5 rfl ?_ -- Qy c5
                 all_goals (refine Q0 ?_; refine Q2 ?_; refine zm ?_; refine zn ?_; refine zr ?_; refine zf ?_)
                 all_goals (first | (refine ⟨_, rfl, ?_, hS.sp⟩; rw [if_pos (by have := of_decide_eq_false hop; omega)]; done) | (refine ⟨_, rfl, ?_, hS.sp⟩; have ho : x.odd := (by unfold Ins.odd; simp only [← or_assoc]; first | exact .inl (hq6.1 rfl) | exact .inr ⟨(by first | rfl | assumption), by omega⟩); rw [if_neg (by omega), if_pos ho]; done) | (refine ⟨_, rfl, ?_, hS.sp⟩; rw [if_neg (by omega), if_neg hodd]; unfold Q1H; (repeat (first | rw [if_pos (by omega)] | rw [if_neg (by omega)])); done)))
              | (refine Q4 rfl ?_ -- Qy c5
                 all_goals refine zsk ?_))
         | (refine Q4 rfl ?_ -- Qy c4
            all_goals (refine Q0 ?_; refine Q0 ?_; refine Q2 ?_)
            all_goals (first | (refine Qq ?_) | (refine Qr ?_) | (refine Qf rfl rfl (fun hc => ?_) (fun hc => ?_)))
            all_goals (refine zm ?_; refine zn ?_)
            all_goals
              first
              | (refine Q5 rfl ?_ -- Qy c6
                 all_goals refine zsk ?_)
              | (refine Q4 rfl ?_ -- Qy c6
                 all_goals (refine Q2 ?_)
                 all_goals (first | (refine Qq ?_) | (refine Qr ?_) | (refine Qf rfl rfl (fun hc => ?_) (fun hc => ?_)))
                 all_goals (refine zm ?_)
                 all_goals refine zn ?_)
            all_goals
              first
              | (refine Q5 rfl ?_ -- Qy c7
                 all_goals (refine Q0 ?_; refine Q2 ?_; refine Q1 rfl ?_; refine zl hS ?_)
                 all_goals (first | (refine Q1z ?_) | (refine Q1A ?_) | (refine QK rfl rfl (fun hc => ?_) (fun hc => ?_)))
                 all_goals (refine zm ?_; (first | refine s_gn rfl rfl ?_ | (refine s_gy rfl ?_; refine Q1 rfl ?_)); (first | refine s_gn rfl rfl ?_ | (refine s_gy rfl ?_; refine zl hS ?_)))
                 all_goals (first | refine s_gn rfl rfl ?_ | (refine s_gy rfl ?_; (first | (refine Qz ?_) | (refine QF ?_) | (refine Qh rfl rfl (fun hc => ?_) (fun hc => ?_)))))
                 all_goals ((first | (refine zpt ?_) | (refine zpf ?_)); refine zn ?_)
                 all_goals
                   first
                   | (refine Q5 rfl ?_ -- Qy c8
                      all_goals (refine Q0 ?_; refine Q2 ?_; refine zm ?_; refine zn ?_; refine zr ?_; refine zf ?_)
                      all_goals (first | (refine ⟨_, rfl, ?_, hS.sp⟩; rw [if_pos (by have := of_decide_eq_false hop; omega)]; done) | (refine ⟨_, rfl, ?_, hS.sp⟩; have ho : x.odd := (by unfold Ins.odd; simp only [← or_assoc]; first | exact .inl (hq6.1 rfl) | exact .inr ⟨(by first | rfl | assumption), by omega⟩); rw [if_neg (by omega), if_pos ho]; done) | (refine ⟨_, rfl, ?_, hS.sp⟩; rw [if_neg (by omega), if_neg hodd]; unfold Q1H; (repeat (first | rw [if_pos (by omega)] | rw [if_neg (by omega)])); done)))
                   | (refine Q4 rfl ?_ -- Qy c8
                      all_goals refine zsk ?_))
              | (refine Q4 rfl ?_ -- Qy c7
                 all_goals (refine Q0 ?_; refine Q2 ?_)
                 all_goals (first | (refine Qq ?_) | (refine Qr ?_) | (refine Qf rfl rfl (fun hc => ?_) (fun hc => ?_)))
                 all_goals (refine zm ?_; refine zn ?_)
                 all_goals
                   first
                   | (refine Q5 rfl ?_ -- Qy c9
                      all_goals (refine Q0 ?_; refine Q0 ?_; refine Q2 ?_; refine Q1 rfl ?_; refine zl hS ?_)
                      all_goals (first | (refine Q1z ?_) | (refine Q1A ?_) | (refine QK rfl rfl (fun hc => ?_) (fun hc => ?_)))
                      all_goals (refine zm ?_; (first | refine s_gn rfl rfl ?_ | (refine s_gy rfl ?_; refine Q1 rfl ?_)); (first | refine s_gn rfl rfl ?_ | (refine s_gy rfl ?_; refine zl hS ?_)); (first | refine s_gn rfl rfl ?_ | (refine s_gy rfl ?_; refine Q1 rfl ?_)); (first | refine s_gn rfl rfl ?_ | (refine s_gy rfl ?_; refine zl hS ?_)); (first | refine s_gn rfl rfl ?_ | (refine s_gy rfl ?_; refine zL ?_)))
                      all_goals (first | refine s_gn rfl rfl ?_ | (refine s_gy rfl ?_; (first | (refine Q9k ?_) | (refine Q9l ?_) | (refine Q34 rfl rfl (fun hc => ?_) (fun hc => ?_)))))
                      all_goals ((first | (refine zpt ?_) | (refine zpf ?_)); refine zn ?_)
                      all_goals
                        first
                        | (refine Q5 rfl ?_ -- Qy c10
                           all_goals (refine Q0 ?_; refine Q2 ?_; refine zm ?_; refine zn ?_; refine zr ?_; refine zf ?_)
                           all_goals (first | (refine ⟨_, rfl, ?_, hS.sp⟩; rw [if_pos (by have := of_decide_eq_false hop; omega)]; done) | (refine ⟨_, rfl, ?_, hS.sp⟩; have ho : x.odd := (by unfold Ins.odd; simp only [← or_assoc]; first | exact .inl (hq6.1 rfl) | exact .inr ⟨(by first | rfl | assumption), by omega⟩); rw [if_neg (by omega), if_pos ho]; done) | (refine ⟨_, rfl, ?_, hS.sp⟩; rw [if_neg (by omega), if_neg hodd]; unfold Q1H; (repeat (first | rw [if_pos (by omega)] | rw [if_neg (by omega)])); done)))
                        | (refine Q4 rfl ?_ -- Qy c10
                           all_goals refine zsk ?_)
                      all_goals (refine Q0 ?_; refine Q2 ?_; refine Q1 rfl ?_; refine zl hS ?_; refine zL ?_)
                      all_goals (first | (refine Qz ?_) | (refine QF ?_) | (refine Qh rfl rfl (fun hc => ?_) (fun hc => ?_)))
                      all_goals (refine zm ?_; (first | refine s_gn rfl rfl ?_ | (refine s_gy rfl ?_; refine Q1 rfl ?_)); (first | refine s_gn rfl rfl ?_ | (refine s_gy rfl ?_; refine zl hS ?_)); (first | refine s_gn rfl rfl ?_ | (refine s_gy rfl ?_; refine zL ?_)))
                      all_goals (first | refine s_gn rfl rfl ?_ | (refine s_gy rfl ?_; (first | (refine Qz ?_) | (refine QF ?_) | (refine Qh rfl rfl (fun hc => ?_) (fun hc => ?_)))))
                      all_goals ((first | (refine zpt ?_) | (refine zpf ?_)); refine zn ?_)
                      all_goals
                        first
                        | (refine Q5 rfl ?_ -- Qy c11
                           all_goals (refine Q0 ?_; refine Q2 ?_; refine zm ?_; refine zn ?_; refine zr ?_; refine zf ?_)
                           all_goals (first | (refine ⟨_, rfl, ?_, hS.sp⟩; rw [if_pos (by have := of_decide_eq_false hop; omega)]; done) | (refine ⟨_, rfl, ?_, hS.sp⟩; have ho : x.odd := (by unfold Ins.odd; simp only [← or_assoc]; first | exact .inl (hq6.1 rfl) | exact .inr ⟨(by first | rfl | assumption), by omega⟩); rw [if_neg (by omega), if_pos ho]; done) | (refine ⟨_, rfl, ?_, hS.sp⟩; rw [if_neg (by omega), if_neg hodd]; unfold Q1H; (repeat (first | rw [if_pos (by omega)] | rw [if_neg (by omega)])); done)))
                        | (refine Q4 rfl ?_ -- Qy c11
                           all_goals refine zsk ?_))
                   | (refine Q4 rfl ?_ -- Qy c9
                      all_goals refine zsk ?_))))
  all_goals (refine Q0 ?_; refine Q2 ?_; refine zm ?_; refine zn ?_; refine zr ?_; refine zf ?_; (first | (refine ⟨_, rfl, ?_, hS.sp⟩; rw [if_pos (by have := of_decide_eq_false hop; omega)]; done) | (refine ⟨_, rfl, ?_, hS.sp⟩; have ho : x.odd := (by unfold Ins.odd; simp only [← or_assoc]; first | exact .inl (hq6.1 rfl) | exact .inr ⟨(by first | rfl | assumption), by omega⟩); rw [if_neg (by omega), if_pos ho]; done) | (refine ⟨_, rfl, ?_, hS.sp⟩; rw [if_neg (by omega), if_neg hodd]; unfold Q1H; (repeat (first | rw [if_pos (by omega)] | rw [if_neg (by omega)])); done)))
end Go.Proofs.YtjecflbbcnocdaaGreatDoor
namespace Go.Proofs.YtjecflbbcnocdaaGreatDoor
open Go.Lir
set_option maxHeartbeats 1000000
attribute [local irreducible] LC.wp Q3 QW Q13 retQ Q2i LO.wp Qv Calls
set_option linter.unusedSimpArgs false
set_option linter.unusedVariables false
attribute [local irreducible] Lib.itoa Lib.join Q2O wordN QV
variable {cx : Cx} {w : World} {L : List Res}
def sfx (b : Bool) (t : List UInt8) : List UInt8 := match b with
  | true => [32] ++ t
  | false => []
theorem QfZ {b : Bool} {s t : List UInt8} (h : b = true) : s ++ ([32] ++ t) = s ++ sfx b t := by subst h; rfl
theorem Qg0 {b : Bool} {s t : List UInt8} (h : b = false) : s = s ++ sfx b t := by subst h; exact (List.append_nil _).symm
theorem Qot (x : Ins) : wordN opWords x.op ++ sfx (decide (x.op = 2)) (wordN kindWords x.k) ++ sfx (decide (x.op = 1)) (Lib.itoa x.n) ++ sfx (decide (x.op = 14)) (Lib.itoa x.k) ++ sfx (fA x.op) (Lib.itoa x.a) ++ sfx (decide (x.op = 6 ∨ x.op = 7)) (Lib.itoa x.k) ++ sfx (fB x.op) (Lib.itoa x.b) ++ sfx (fC x.op) (Lib.itoa x.c) ++ sfx (fG x.op) (QV [60] x.regs [62]) ++ sfx (fR x.op) (QV [40] x.args [41]) = x.txt := by
  unfold Ins.txt
  by_cases h : x.op < 1 ∨ 14 < x.op
  · rw [QmB (by omega), Lib.join_one]
    simp [sfx, fA, fB, fC, fG, fR, show ¬ x.op = 1 by omega, show ¬ x.op = 2 by omega, show ¬ x.op = 4 by omega, show ¬ x.op = 5 by omega, show ¬ x.op = 6 by omega, show ¬ x.op = 7 by omega, show ¬ x.op = 8 by omega, show ¬ x.op = 9 by omega, show ¬ x.op = 10 by omega, show ¬ x.op = 11 by omega, show ¬ x.op = 13 by omega, show ¬ x.op = 14 by omega]
  · rcases op_cases (op := x.op) (by omega) (by omega) with e | e | e | e | e | e | e | e | e | e | e | e | e | e
    · rw [rest_1 e, Q6n, e]; simp [sfx, fA, fB, fC, fG, fR]
    · rw [rest_2 e, Q6l, e]; simp [sfx, fA, fB, fC, fG, fR]
    · rw [QmB (by omega), Lib.join_one, e]; simp [sfx, fA, fB, fC, fG, fR]
    · rw [QmA (by omega), Q6n, e]; simp [sfx, fA, fB, fC, fG, fR]
    · rw [rest_5 e, Q6m, e]; simp [sfx, fA, fB, fC, fG, fR]
    · rw [rest_6 e, Q6m, e]; simp [sfx, fA, fB, fC, fG, fR]
    · rw [rest_7 e, Q6l, e]; simp [sfx, fA, fB, fC, fG, fR]
    · rw [Qo7 (by omega), Q6m, e]; simp [sfx, fA, fB, fC, fG, fR]
    · rw [Qo7 (by omega), Q6m, e]; simp [sfx, fA, fB, fC, fG, fR]
    · rw [Qo9 e, Q6l, e]; simp [sfx, fA, fB, fC, fG, fR]
    · rw [QmA (by omega), Q6n, e]; simp [sfx, fA, fB, fC, fG, fR]
    · rw [QmB (by omega), Lib.join_one, e]; simp [sfx, fA, fB, fC, fG, fR]
    · rw [QmA (by omega), Q6n, e]; simp [sfx, fA, fB, fC, fG, fR]
    · rw [Qo8 e, Q6l, e]; simp [sfx, fA, fB, fC, fG, fR]
theorem ins1_c {sb : Nat} {s : List UInt8} {k : Int} (hk : InI k) (hsl : s.length ≤ 10000) (hT : PowT cx) (hS : St cx w (blk sb 9 [strV s] :: L)) :
    Rets Tryz.prog Q5F [.int .i64 k, .pointer (some ⟨sb, 0, none⟩)] w fun u w' => u = .tuple #[] ∧ St cx w' (blk sb 9 [strV (s ++ ([32] ++ Lib.itoa k))] :: L) := by
  have hl := Q1f hk
  all_goals refine Qe8 ?_
  all_goals (unfold R_insText_1_lc; refine zC [(0, none), (1, none), (2, some (some [0])), (3, none), (4, none), (5, some none)] ?_; have hS := hS.drew; refine s_cq ?_; refine zl hS ?_; refine zt ?_; refine s_cq ?_; refine zm ?_; refine zt ?_; refine Qx ?_; refine zR1 (c := Q4m hk.1 hk.2 hT hS) (h := ?_); rintro v1 w1 ⟨rfl, hS⟩; refine zt ?_; refine zy ?_; refine s_cq ?_; refine Qi rfl rfl (by first | omega | (simp only [List.length_append, List.length_cons, List.length_nil]; omega)) ?_; refine zt ?_; refine s_cq ?_; refine Qi rfl rfl (by first | omega | (simp only [List.length_append, List.length_cons, List.length_nil]; omega)) ?_; refine zt ?_; refine s_cf ?_; refine zst hS ?_; intro w1 hS; have hS := hS.ns; refine zt ?_; refine zcn ?_; refine Q3U ?_; exact ⟨_, rfl, rfl, hS.sp⟩)
theorem QjI {sb i : Nat} {s : List UInt8} {k : Int} (hk : InI k) (hsl : s.length ≤ 10000) (hT : PowT cx) (hS : St cx w L) (hi : nth L i = some (blk sb 9 [strV s])) :
    Rets Tryz.prog Q5F [.int .i64 k, .pointer (some ⟨sb, 0, none⟩)] w fun u w' => u = .tuple #[] ∧ St cx w' (L.set i (blk sb 9 [strV (s ++ ([32] ++ Lib.itoa k))])) :=
  (ins1_c hk hsl hT (hS.out hi)).mono fun _ _ ⟨h1, h2⟩ => ⟨h1, St.back h2 hi⟩
theorem rins_txt {x : Ins} {cs : List Value} (hp : x.Pr) (hx : insR.at cx cs x) (hT : PowT cx) (hS : St cx w L) : Rets Tryz.prog QO [.agg ⟨cs⟩] w fun u w' => u = strV x.txt ∧ St cx w' L := by
  rw [← Qot x]
  obtain ⟨vr, va, rfl, hr, ha⟩ := Q1u hx
  obtain ⟨⟨g0, g1, g2, g3, g4, g5⟩, g6, g7⟩ := hp
  have w1 := Q5S (ws := opWords) (by decide) x.op
  have w2 := Q5S (ws := kindWords) (by decide) x.k
  have l1 := Q1f g1
  have l2 := Q1f g2
  have l3 := Q1f g3
  have l4 := Q1f g4
  have l5 := Q1f g5
  have l6 := Q1l g6 (b := [60]) (e := [62]) rfl rfl
  have l7 := Q1l g7 (b := [40]) (e := [41]) rfl rfl
  all_goals refine Qkh ?_
  all_goals (unfold R_insText_lc; refine Q0 ?_; refine Q2 ?_; refine zb hS ?_; intro p1 w1 hS; refine zm ?_; refine zn ?_; refine Q0 ?_; refine Q2 ?_; refine Q1 rfl ?_; refine zl hS ?_; refine zR1 (c := ropw_c hS) (h := ?_); rintro v1 w1 ⟨rfl, hS⟩; refine Qc hS ?_; intro p3 w1 hS; refine zst hS ?_; intro w1 hS; have hS := hS.ns; refine zn ?_; refine Q0 ?_; refine Q2 ?_; refine Q1 rfl ?_; refine zl hS ?_; refine zR1 (c := QmN hS) (h := ?_); rintro v1 w1 ⟨rfl, hS⟩; refine zm ?_; refine QcP rfl rfl ?_; refine QcP rfl rfl ?_; refine Qc hS ?_; intro p4 w1 hS; refine zsn hS ?_; intro w1 hS; have hS := hS.ns; refine zm ?_; refine zn ?_; refine Q0 ?_; refine Q2 ?_; refine QnR (u := [.pointer (some ⟨p3, 0, none⟩)]) rfl ?_; refine zm ?_; refine zn ?_)
  refine zM [1, 3, 4, 6] (fun A ρ' w' => ∃ (s : List UInt8), Has ρ' A ∧ Has ρ' [] ∧ (s = wordN opWords x.op ++ sfx (decide (x.op = 2)) (wordN kindWords x.k)) ∧ (s.length ≤ 13) ∧ St cx w' (blk p4 156 [.bool (fA x.op), .bool (fB x.op), .bool (fC x.op), .bool (fK x.op), .bool (fN x.op), .bool (fG x.op), .bool (fR x.op)] :: blk p3 9 [.string ⟨s.toArray⟩] :: blk p1 54 [.int .i64 x.op, .int .i64 x.a, .int .i64 x.b, .int .i64 x.c, .int .i64 x.k, .int .i64 x.n, vr, va] :: L)) ?_ ?_
  · skip
    all_goals (refine Q0 ?_; refine Q2 ?_; refine Q1 rfl ?_; refine zl hS ?_)
    all_goals (first | (refine Qq ?_) | (refine Qr ?_) | (refine Qf rfl rfl (fun hc => ?_) (fun hc => ?_)))
    all_goals (refine zn ?_)
    all_goals
      first
      | (refine Q5 rfl ?_ -- QO c0
         all_goals (refine zC [(0, none), (1, none), (2, none), (3, some (some [0])), (4, none), (5, none), (6, some none)] ?_; have hS := hS.drew; refine s_cq ?_; refine zl hS ?_; refine zt ?_; refine s_cq ?_; refine Q1 rfl ?_; refine zt ?_; refine s_cq ?_; refine zl hS ?_; refine zt ?_; refine Qx ?_; refine zR1 (c := rkindw_c hS) (h := ?_); rintro v1 w1 ⟨rfl, hS⟩; refine zt ?_; refine zy ?_; refine s_cq ?_; refine Qi rfl rfl (by first | omega | (simp only [List.length_append, List.length_cons, List.length_nil]; omega)) ?_; refine zt ?_; refine s_cq ?_; refine Qi rfl rfl (by first | omega | (simp only [List.length_append, List.length_cons, List.length_nil]; omega)) ?_; refine zt ?_; refine s_cf ?_; refine zst hS ?_; intro w1 hS; have hS := hS.ns; refine zt ?_)
         all_goals refine zcn ?_)
      | (refine Q4 rfl ?_ -- QO c0
         all_goals refine zsk ?_)
    all_goals ((first | (exact ⟨wordN opWords x.op ++ ([32] ++ (wordN kindWords x.k)), zh, zh, by exact QfZ (decide_eq_true (by omega)), by simp only [List.length_append, List.length_cons, List.length_nil]; omega, hS.sp⟩) | (exact ⟨wordN opWords x.op, zh, zh, by exact Qg0 (decide_eq_false (by omega)), by omega, hS.sp⟩)))
  rintro ρ w1 ⟨s, hA, hρ, hs, hsl, hS⟩; obtain ⟨ρ, rfl⟩ := env2 hA hρ
  refine zM [1, 3, 4, 6] (fun A ρ' w' => ∃ (s : List UInt8), Has ρ' A ∧ Has ρ' [] ∧ (s = wordN opWords x.op ++ sfx (decide (x.op = 2)) (wordN kindWords x.k) ++ sfx (decide (x.op = 1)) (Lib.itoa x.n)) ∧ (s.length ≤ 35) ∧ St cx w' (blk p4 156 [.bool (fA x.op), .bool (fB x.op), .bool (fC x.op), .bool (fK x.op), .bool (fN x.op), .bool (fG x.op), .bool (fR x.op)] :: blk p3 9 [.string ⟨s.toArray⟩] :: blk p1 54 [.int .i64 x.op, .int .i64 x.a, .int .i64 x.b, .int .i64 x.c, .int .i64 x.k, .int .i64 x.n, vr, va] :: L)) ?_ ?_
  · skip
    all_goals (refine Q0 ?_; refine Q2 ?_; refine Q1 rfl ?_; refine zl hS ?_)
    all_goals (first | (refine Qq ?_) | (refine Qr ?_) | (refine Qf rfl rfl (fun hc => ?_) (fun hc => ?_)))
    all_goals (refine zn ?_)
    all_goals
      first
      | (refine Q5 rfl ?_ -- QO c1
         all_goals (refine zC [(0, none), (1, none), (2, none), (3, some (some [0])), (4, none), (5, none), (6, some none)] ?_; have hS := hS.drew; refine s_cq ?_; refine zl hS ?_; refine zt ?_; refine s_cq ?_; refine Q1 rfl ?_; refine zt ?_; refine s_cq ?_; refine zl hS ?_; refine zt ?_; refine Qx ?_; refine zR2 (c := fmtp_c g5.1 g5.2 hT hS) (h := ?_); rintro v1 w1 ⟨rfl, hS⟩; refine zt ?_; refine zy ?_; refine s_cq ?_; refine Qi rfl rfl (by first | omega | (simp only [List.length_append, List.length_cons, List.length_nil]; omega)) ?_; refine zt ?_; refine s_cq ?_; refine Qi rfl rfl (by first | omega | (simp only [List.length_append, List.length_cons, List.length_nil]; omega)) ?_; refine zt ?_; refine s_cf ?_; refine zst hS ?_; intro w1 hS; have hS := hS.ns; refine zt ?_)
         all_goals refine zcn ?_)
      | (refine Q4 rfl ?_ -- QO c1
         all_goals refine zsk ?_)
    all_goals ((first | (exact ⟨s ++ ([32] ++ (Lib.itoa x.n)), zh, zh, by rw [hs]; exact QfZ (decide_eq_true (by omega)), by simp only [List.length_append, List.length_cons, List.length_nil]; omega, hS.sp⟩) | (exact ⟨s, zh, zh, by rw [hs]; exact Qg0 (decide_eq_false (by omega)), by omega, hS.sp⟩)))
  rintro ρ w1 ⟨s, hA, hρ, hs, hsl, hS⟩; obtain ⟨ρ, rfl⟩ := env2 hA hρ
  refine zM [1, 3, 4, 6] (fun A ρ' w' => ∃ (s : List UInt8), Has ρ' A ∧ Has ρ' [] ∧ (s = wordN opWords x.op ++ sfx (decide (x.op = 2)) (wordN kindWords x.k) ++ sfx (decide (x.op = 1)) (Lib.itoa x.n) ++ sfx (decide (x.op = 14)) (Lib.itoa x.k)) ∧ (s.length ≤ 57) ∧ St cx w' (blk p4 156 [.bool (fA x.op), .bool (fB x.op), .bool (fC x.op), .bool (fK x.op), .bool (fN x.op), .bool (fG x.op), .bool (fR x.op)] :: blk p3 9 [.string ⟨s.toArray⟩] :: blk p1 54 [.int .i64 x.op, .int .i64 x.a, .int .i64 x.b, .int .i64 x.c, .int .i64 x.k, .int .i64 x.n, vr, va] :: L)) ?_ ?_
  · skip
    all_goals (refine Q0 ?_; refine Q2 ?_; refine Q1 rfl ?_; refine zl hS ?_)
    all_goals (first | (refine Qq ?_) | (refine Qr ?_) | (refine Qf rfl rfl (fun hc => ?_) (fun hc => ?_)))
    all_goals (refine zn ?_)
    all_goals
      first
      | (refine Q5 rfl ?_ -- QO c2
         all_goals (refine Q2 ?_; refine zm ?_; refine Q1 rfl ?_; refine zl hS ?_; refine Q1K rfl (by kernel_rfl) rfl (QjI (s := s) (i := 1) (by assumption) (by omega) hT hS rfl) ?_; rintro v1 w1 ⟨rfl, hS⟩; have hS := hS.ns)
         all_goals refine zn ?_)
      | (refine Q4 rfl ?_ -- QO c2
         all_goals refine zsk ?_)
    all_goals ((first | (exact ⟨s ++ ([32] ++ (Lib.itoa x.k)), zh, zh, by rw [hs]; exact QfZ (decide_eq_true (by omega)), by simp only [List.length_append, List.length_cons, List.length_nil]; omega, hS.sp⟩) | (exact ⟨s, zh, zh, by rw [hs]; exact Qg0 (decide_eq_false (by omega)), by omega, hS.sp⟩)))
  rintro ρ w1 ⟨s, hA, hρ, hs, hsl, hS⟩; obtain ⟨ρ, rfl⟩ := env2 hA hρ
  refine zM [1, 3, 4, 6] (fun A ρ' w' => ∃ (s : List UInt8), Has ρ' A ∧ Has ρ' [] ∧ (s = wordN opWords x.op ++ sfx (decide (x.op = 2)) (wordN kindWords x.k) ++ sfx (decide (x.op = 1)) (Lib.itoa x.n) ++ sfx (decide (x.op = 14)) (Lib.itoa x.k) ++ sfx (fA x.op) (Lib.itoa x.a)) ∧ (s.length ≤ 79) ∧ St cx w' (blk p4 156 [.bool (fA x.op), .bool (fB x.op), .bool (fC x.op), .bool (fK x.op), .bool (fN x.op), .bool (fG x.op), .bool (fR x.op)] :: blk p3 9 [.string ⟨s.toArray⟩] :: blk p1 54 [.int .i64 x.op, .int .i64 x.a, .int .i64 x.b, .int .i64 x.c, .int .i64 x.k, .int .i64 x.n, vr, va] :: L)) ?_ ?_
  · skip
    all_goals (refine Q0 ?_; refine Q2 ?_; refine Q1 rfl ?_)
    all_goals (refine zl hS ?_; cases hq10 : fA x.op <;> rw [hq10] at hS)
    all_goals (refine zn ?_)
    all_goals
      first
      | (refine Q5 rfl ?_ -- QO c3
         all_goals (refine Q2 ?_; refine zm ?_; refine Q1 rfl ?_; refine zl hS ?_; refine Q1K rfl (by kernel_rfl) rfl (QjI (s := s) (i := 1) (by assumption) (by omega) hT hS rfl) ?_; rintro v1 w1 ⟨rfl, hS⟩; have hS := hS.ns)
         all_goals refine zn ?_)
      | (refine Q4 rfl ?_ -- QO c3
         all_goals refine zsk ?_)
    all_goals ((first | (exact ⟨s ++ ([32] ++ (Lib.itoa x.a)), zh, zh, by rw [hs]; exact QfZ rfl, by simp only [List.length_append, List.length_cons, List.length_nil]; omega, hS.sp⟩) | (exact ⟨s, zh, zh, by rw [hs]; exact Qg0 rfl, by omega, hS.sp⟩)))
  rintro ρ w1 ⟨s, hA, hρ, hs, hsl, hS⟩; obtain ⟨ρ, rfl⟩ := env2 hA hρ
  refine zM [1, 3, 4, 6] (fun A ρ' w' => ∃ (s : List UInt8), Has ρ' A ∧ Has ρ' [] ∧ (s = wordN opWords x.op ++ sfx (decide (x.op = 2)) (wordN kindWords x.k) ++ sfx (decide (x.op = 1)) (Lib.itoa x.n) ++ sfx (decide (x.op = 14)) (Lib.itoa x.k) ++ sfx (fA x.op) (Lib.itoa x.a) ++ sfx (decide (x.op = 6 ∨ x.op = 7)) (Lib.itoa x.k)) ∧ (s.length ≤ 101) ∧ St cx w' (blk p4 156 [.bool (fA x.op), .bool (fB x.op), .bool (fC x.op), .bool (fK x.op), .bool (fN x.op), .bool (fG x.op), .bool (fR x.op)] :: blk p3 9 [.string ⟨s.toArray⟩] :: blk p1 54 [.int .i64 x.op, .int .i64 x.a, .int .i64 x.b, .int .i64 x.c, .int .i64 x.k, .int .i64 x.n, vr, va] :: L)) ?_ ?_
  · skip
    all_goals (refine Q0 ?_; refine Q2 ?_; refine Q1 rfl ?_; refine zl hS ?_)
    all_goals (first | (refine Qq ?_) | (refine Qr ?_) | (refine Qf rfl rfl (fun hc => ?_) (fun hc => ?_)))
    all_goals (refine zm ?_; (first | refine s_gn rfl rfl ?_ | (refine s_gy rfl ?_; refine Q1 rfl ?_)); (first | refine s_gn rfl rfl ?_ | (refine s_gy rfl ?_; refine zl hS ?_)))
    all_goals (first | refine s_gn rfl rfl ?_ | (refine s_gy rfl ?_; (first | (refine Qq ?_) | (refine Qr ?_) | (refine Qf rfl rfl (fun hc => ?_) (fun hc => ?_)))))
    all_goals ((first | (refine zpt ?_) | (refine zpf ?_)); refine zn ?_)
    all_goals
      first
      | (refine Q5 rfl ?_ -- QO c4
         all_goals (refine Q2 ?_; refine zm ?_; refine Q1 rfl ?_; refine zl hS ?_; refine Q1K rfl (by kernel_rfl) rfl (QjI (s := s) (i := 1) (by assumption) (by omega) hT hS rfl) ?_; rintro v1 w1 ⟨rfl, hS⟩; have hS := hS.ns)
         all_goals refine zn ?_)
      | (refine Q4 rfl ?_ -- QO c4
         all_goals refine zsk ?_)
    all_goals ((first | (exact ⟨s ++ ([32] ++ (Lib.itoa x.k)), zh, zh, by rw [hs]; exact QfZ (decide_eq_true (by omega)), by simp only [List.length_append, List.length_cons, List.length_nil]; omega, hS.sp⟩) | (exact ⟨s, zh, zh, by rw [hs]; exact Qg0 (decide_eq_false (by omega)), by omega, hS.sp⟩)))
  rintro ρ w1 ⟨s, hA, hρ, hs, hsl, hS⟩; obtain ⟨ρ, rfl⟩ := env2 hA hρ
  refine zM [1, 3, 4, 6] (fun A ρ' w' => ∃ (s : List UInt8), Has ρ' A ∧ Has ρ' [] ∧ (s = wordN opWords x.op ++ sfx (decide (x.op = 2)) (wordN kindWords x.k) ++ sfx (decide (x.op = 1)) (Lib.itoa x.n) ++ sfx (decide (x.op = 14)) (Lib.itoa x.k) ++ sfx (fA x.op) (Lib.itoa x.a) ++ sfx (decide (x.op = 6 ∨ x.op = 7)) (Lib.itoa x.k) ++ sfx (fB x.op) (Lib.itoa x.b)) ∧ (s.length ≤ 123) ∧ St cx w' (blk p4 156 [.bool (fA x.op), .bool (fB x.op), .bool (fC x.op), .bool (fK x.op), .bool (fN x.op), .bool (fG x.op), .bool (fR x.op)] :: blk p3 9 [.string ⟨s.toArray⟩] :: blk p1 54 [.int .i64 x.op, .int .i64 x.a, .int .i64 x.b, .int .i64 x.c, .int .i64 x.k, .int .i64 x.n, vr, va] :: L)) ?_ ?_
  · skip
    all_goals (refine Q0 ?_; refine Q2 ?_; refine Q1 rfl ?_)
    all_goals (refine zl hS ?_; cases hq14 : fB x.op <;> rw [hq14] at hS)
    all_goals (refine zn ?_)
    all_goals
      first
      | (refine Q5 rfl ?_ -- QO c5
         all_goals (refine Q2 ?_; refine zm ?_; refine Q1 rfl ?_; refine zl hS ?_; refine Q1K rfl (by kernel_rfl) rfl (QjI (s := s) (i := 1) (by assumption) (by omega) hT hS rfl) ?_; rintro v1 w1 ⟨rfl, hS⟩; have hS := hS.ns)
         all_goals refine zn ?_)
      | (refine Q4 rfl ?_ -- QO c5
         all_goals refine zsk ?_)
    all_goals ((first | (exact ⟨s ++ ([32] ++ (Lib.itoa x.b)), zh, zh, by rw [hs]; exact QfZ rfl, by simp only [List.length_append, List.length_cons, List.length_nil]; omega, hS.sp⟩) | (exact ⟨s, zh, zh, by rw [hs]; exact Qg0 rfl, by omega, hS.sp⟩)))
  rintro ρ w1 ⟨s, hA, hρ, hs, hsl, hS⟩; obtain ⟨ρ, rfl⟩ := env2 hA hρ
  refine zM [1, 3, 4] (fun A ρ' w' => ∃ (s : List UInt8), Has ρ' A ∧ Has ρ' [] ∧ (s = wordN opWords x.op ++ sfx (decide (x.op = 2)) (wordN kindWords x.k) ++ sfx (decide (x.op = 1)) (Lib.itoa x.n) ++ sfx (decide (x.op = 14)) (Lib.itoa x.k) ++ sfx (fA x.op) (Lib.itoa x.a) ++ sfx (decide (x.op = 6 ∨ x.op = 7)) (Lib.itoa x.k) ++ sfx (fB x.op) (Lib.itoa x.b) ++ sfx (fC x.op) (Lib.itoa x.c)) ∧ (s.length ≤ 145) ∧ St cx w' (blk p4 156 [.bool (fA x.op), .bool (fB x.op), .bool (fC x.op), .bool (fK x.op), .bool (fN x.op), .bool (fG x.op), .bool (fR x.op)] :: blk p3 9 [.string ⟨s.toArray⟩] :: blk p1 54 [.int .i64 x.op, .int .i64 x.a, .int .i64 x.b, .int .i64 x.c, .int .i64 x.k, .int .i64 x.n, vr, va] :: L)) ?_ ?_
  · skip
    all_goals (refine Q0 ?_; refine Q2 ?_; refine Q1 rfl ?_)
    all_goals (refine zl hS ?_; cases hq16 : fC x.op <;> rw [hq16] at hS)
    all_goals (refine zn ?_)
    all_goals
      first
      | (refine Q5 rfl ?_ -- QO c6
         all_goals (refine Q2 ?_; refine zm ?_; refine Q1 rfl ?_; refine zl hS ?_; refine Q1K rfl (by kernel_rfl) rfl (QjI (s := s) (i := 1) (by assumption) (by omega) hT hS rfl) ?_; rintro v1 w1 ⟨rfl, hS⟩; have hS := hS.ns)
         all_goals refine zn ?_)
      | (refine Q4 rfl ?_ -- QO c6
         all_goals refine zsk ?_)
    all_goals ((first | (exact ⟨s ++ ([32] ++ (Lib.itoa x.c)), zh, zh, by rw [hs]; exact QfZ rfl, by simp only [List.length_append, List.length_cons, List.length_nil]; omega, hS.sp⟩) | (exact ⟨s, zh, zh, by rw [hs]; exact Qg0 rfl, by omega, hS.sp⟩)))
  rintro ρ w1 ⟨s, hA, hρ, hs, hsl, hS⟩; obtain ⟨ρ, rfl⟩ := env2 hA hρ
  refine zM [1, 3, 4] (fun A ρ' w' => ∃ (s : List UInt8), Has ρ' A ∧ Has ρ' [] ∧ (s = wordN opWords x.op ++ sfx (decide (x.op = 2)) (wordN kindWords x.k) ++ sfx (decide (x.op = 1)) (Lib.itoa x.n) ++ sfx (decide (x.op = 14)) (Lib.itoa x.k) ++ sfx (fA x.op) (Lib.itoa x.a) ++ sfx (decide (x.op = 6 ∨ x.op = 7)) (Lib.itoa x.k) ++ sfx (fB x.op) (Lib.itoa x.b) ++ sfx (fC x.op) (Lib.itoa x.c) ++ sfx (fG x.op) (QV [60] x.regs [62])) ∧ (s.length ≤ 516) ∧ St cx w' (blk p4 156 [.bool (fA x.op), .bool (fB x.op), .bool (fC x.op), .bool (fK x.op), .bool (fN x.op), .bool (fG x.op), .bool (fR x.op)] :: blk p3 9 [.string ⟨s.toArray⟩] :: blk p1 54 [.int .i64 x.op, .int .i64 x.a, .int .i64 x.b, .int .i64 x.c, .int .i64 x.k, .int .i64 x.n, vr, va] :: L)) ?_ ?_
  · skip
    all_goals (refine Q0 ?_; refine Q2 ?_; refine Q1 rfl ?_)
    all_goals (refine zl hS ?_; cases hq18 : fG x.op <;> rw [hq18] at hS)
    all_goals (refine zn ?_)
    all_goals
      first
      | (refine Q5 rfl ?_ -- QO c7
         all_goals (refine zC [(0, none), (1, none), (2, none), (3, some (some [0])), (4, none), (5, none), (6, some none)] ?_; have hS := hS.drew; refine s_cq ?_; refine zl hS ?_; refine zt ?_; refine s_cq ?_; refine Q1 rfl ?_; refine zt ?_; refine s_cq ?_; refine zl hS ?_; refine zt ?_; refine Qx ?_; refine zR3 (c := Q4a (by decide) (by decide) g6 hr hT hS) (h := ?_); rintro v1 w1 ⟨rfl, hS⟩; refine zt ?_; refine zy ?_; refine s_cq ?_; refine Qi rfl rfl (by first | omega | (simp only [List.length_append, List.length_cons, List.length_nil]; omega)) ?_; refine zt ?_; refine s_cq ?_; refine Qi rfl rfl (by first | omega | (simp only [List.length_append, List.length_cons, List.length_nil]; omega)) ?_; refine zt ?_; refine s_cf ?_; refine zst hS ?_; intro w1 hS; have hS := hS.ns; refine zt ?_)
         all_goals refine zcn ?_)
      | (refine Q4 rfl ?_ -- QO c7
         all_goals refine zsk ?_)
    all_goals ((first | (exact ⟨s ++ ([32] ++ (QV [60] x.regs [62])), zh, zh, by rw [hs]; exact QfZ rfl, by simp only [List.length_append, List.length_cons, List.length_nil]; omega, hS.sp⟩) | (exact ⟨s, zh, zh, by rw [hs]; exact Qg0 rfl, by omega, hS.sp⟩)))
  rintro ρ w1 ⟨s, hA, hρ, hs, hsl, hS⟩; obtain ⟨ρ, rfl⟩ := env2 hA hρ
  refine zM [3] (fun A ρ' w' => ∃ (s : List UInt8), Has ρ' A ∧ Has ρ' [] ∧ (s = wordN opWords x.op ++ sfx (decide (x.op = 2)) (wordN kindWords x.k) ++ sfx (decide (x.op = 1)) (Lib.itoa x.n) ++ sfx (decide (x.op = 14)) (Lib.itoa x.k) ++ sfx (fA x.op) (Lib.itoa x.a) ++ sfx (decide (x.op = 6 ∨ x.op = 7)) (Lib.itoa x.k) ++ sfx (fB x.op) (Lib.itoa x.b) ++ sfx (fC x.op) (Lib.itoa x.c) ++ sfx (fG x.op) (QV [60] x.regs [62]) ++ sfx (fR x.op) (QV [40] x.args [41])) ∧ (s.length ≤ 887) ∧ St cx w' (blk p4 156 [.bool (fA x.op), .bool (fB x.op), .bool (fC x.op), .bool (fK x.op), .bool (fN x.op), .bool (fG x.op), .bool (fR x.op)] :: blk p3 9 [.string ⟨s.toArray⟩] :: blk p1 54 [.int .i64 x.op, .int .i64 x.a, .int .i64 x.b, .int .i64 x.c, .int .i64 x.k, .int .i64 x.n, vr, va] :: L)) ?_ ?_
  · skip
    all_goals (refine Q0 ?_; refine Q2 ?_; refine Q1 rfl ?_)
    all_goals (refine zl hS ?_; cases hq20 : fR x.op <;> rw [hq20] at hS)
    all_goals (refine zn ?_)
    all_goals
      first
      | (refine Q5 rfl ?_ -- QO c8
         all_goals (refine zC [(0, none), (1, none), (2, none), (3, some (some [0])), (4, none), (5, none), (6, some none)] ?_; have hS := hS.drew; refine s_cq ?_; refine zl hS ?_; refine zt ?_; refine s_cq ?_; refine Q1 rfl ?_; refine zt ?_; refine s_cq ?_; refine zl hS ?_; refine zt ?_; refine Qx ?_; refine zR3 (c := Q4a (by decide) (by decide) g7 ha hT hS) (h := ?_); rintro v1 w1 ⟨rfl, hS⟩; refine zt ?_; refine zy ?_; refine s_cq ?_; refine Qi rfl rfl (by first | omega | (simp only [List.length_append, List.length_cons, List.length_nil]; omega)) ?_; refine zt ?_; refine s_cq ?_; refine Qi rfl rfl (by first | omega | (simp only [List.length_append, List.length_cons, List.length_nil]; omega)) ?_; refine zt ?_; refine s_cf ?_; refine zst hS ?_; intro w1 hS; have hS := hS.ns; refine zt ?_)
         all_goals refine zcn ?_)
      | (refine Q4 rfl ?_ -- QO c8
         all_goals refine zsk ?_)
    all_goals ((first | (exact ⟨s ++ ([32] ++ (QV [40] x.args [41])), zh, zh, by rw [hs]; exact QfZ rfl, by simp only [List.length_append, List.length_cons, List.length_nil]; omega, hS.sp⟩) | (exact ⟨s, zh, zh, by rw [hs]; exact Qg0 rfl, by omega, hS.sp⟩)))
  rintro ρ w1 ⟨s, hA, hρ, hs, hsl, hS⟩; obtain ⟨ρ, rfl⟩ := env2 hA hρ
  all_goals (refine Q0 ?_; refine Q2 ?_; refine zl hS ?_; refine zm ?_; refine zn ?_; refine zr ?_; refine zf ?_; refine ⟨_, rfl, ?_, hS.sp⟩; rw [hs]; done)
end Go.Proofs.YtjecflbbcnocdaaGreatDoor
namespace Go.Lir
theorem St.lent {c : Cx} {w : World} {L : List Res} {r : Res} (h : St c w (r :: L)) : ∃ c' F, c.Le c' ∧ St c' w L ∧ r.A c'.H0 F ∧ (∀ b, F b → c'.K b) ∧ ∀ {w' : World} {L' : List Res}, St c' w' L' → St c w' (r :: L') := by
  obtain ⟨ok, F, ⟨F1, F2, h1, h2, h3, h4⟩, hd⟩ := h
  have hle : c.Le ⟨c.base, fun b => c.K b ∨ F1 b, w.heap⟩ := ⟨rfl, fun b hb => ⟨.inl hb, ok.same b hb⟩, ok.size, ok.lt⟩
  refine ⟨⟨c.base, fun b => c.K b ∨ F1 b, w.heap⟩, F1, hle, ⟨⟨ok.os, ok.tape, ok.output, Nat.le_refl _, fun b hb => hb.elim (fun hb => Nat.lt_of_lt_of_le (ok.lt b hb) ok.size) (r.lt h1 b), fun b _ => rfl⟩, F2, h2, ?_⟩, h1, fun b hb => .inr hb, ?_⟩
  · rintro b hb (hk | hk)
    · exact hd b ((h4 b).2 (.inr hb)) hk
    · exact h3 b hk hb
  · intro w' L' hS
    have hw := hS.weak hle
    obtain ⟨ok', F', hF', hd'⟩ := hS
    refine ⟨hw.1, fun b => F1 b ∨ F' b, ⟨F1, F', r.loc h1 fun b hb _ => ok'.same b (.inr hb), hF', fun b hb hb' => hd' b hb' (.inr hb), fun b => Iff.rfl⟩, ?_⟩
    rintro b (hb | hb) hk
    · exact hd b ((h4 b).2 (.inl hb)) hk
    · exact hd' b hb (.inl hk)
theorem St.lend {α : Type} {r : Rep α} {c : Cx} {w : World} {L : List Res} {T : TypeId} {es : Nat} {v : Value} {css : List (List Value)} {l : List α} (h : St c w (sl T es v css :: L)) (hl : r.ls c css l) (hes : r.es = es) (hm : l.length ≤ 140737488355328) :
    ∃ c', c.Le c' ∧ St c' w L ∧ r.sl c' v l ∧ ∀ {w' : World} {L' : List Res}, St c' w' L' → St c w' (sl T es v css :: L') := by
  subst hes
  obtain ⟨c', F, h1, h2, h3, h4, h5⟩ := h.lent
  exact ⟨c', h1, h2, ⟨css, SlR.mono (Sl.toR h3) fun b _ hb => h4 b hb, hl.up h1, hm⟩, h5⟩
end Go.Lir
