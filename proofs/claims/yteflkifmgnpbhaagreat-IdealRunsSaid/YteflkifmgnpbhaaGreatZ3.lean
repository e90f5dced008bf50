/- Lemmas of the proof, part 3: what the functions of the program do (contracts), and what follows. -/
import Derived.Test.YteflkifmgnpbhaaGreatZ2
import Derived.Test.YteflkifmgnpbhaaGreatZ1
namespace Go.Proofs.YteflkifmgnpbhaaGreat
open Go.Lir
set_option maxHeartbeats 1000000
attribute [local irreducible] LC.wp Q0 QF QE retQ Q16 LO.wp Qf Calls
set_option linter.unusedSimpArgs false
set_option linter.unusedVariables false
variable {cx : Cx} {w : World} {L : List Res} {i : Nat} {N : Nat} {h : Value} {s : HpS}
theorem Qcr : Q1Q Tryz.prog 265 = some (272, 2, 32, [.bool false, .slice none 0 0]) := by kernel_rfl
theorem QaL : Q1Q Tryz.prog 125 = some (267, 4, 48, [.bool false, .slice none 0 0, .int .i64 0, .int .i64 0]) := by kernel_rfl
theorem Q6n : Q1Q Tryz.prog 108 = some (224, 4, 32, [.int .i64 0, .int .i64 0, .int .i64 0, .int .i64 0]) := by kernel_rfl
theorem Qbd : ∃ e2, Tryz.prog.underlying 265 = some (.slice e2) := ⟨272, by kernel_rfl⟩
theorem Qae : ∃ e2, Tryz.prog.underlying 125 = some (.slice e2) := ⟨267, by kernel_rfl⟩
theorem Q7d : ∃ e2, Tryz.prog.underlying 108 = some (.slice e2) := ⟨224, by kernel_rfl⟩
theorem Q7E {s : HpS} {v : Val} {n : Int} (hc : s.can v = false) : s.code v n = 20 := by unfold HpS.code; rw [hc]; rfl
theorem Q4B {s : HpS} {v : Val} {n : Int} (hc : s.code v n ≠ 0) (kind : Int) (t : Thg) : s.put v n t = s ∧ s.putV v kind n = Val.zero := by unfold HpS.put HpS.putV; rw [if_neg hc, if_neg hc]; exact ⟨rfl, rfl⟩
theorem one2 {a b : Value} (h1 : oneC a = true) (h2 : oneC b = true) : ∀ u ∈ [a, b], oneC u = true := by
 intro u hu; simp only [List.mem_cons, List.not_mem_nil, or_false] at hu; rcases hu with rfl | rfl; exact h1; exact h2
theorem Q7b (l : List Val) : ∀ c ∈ l.map Val.cells, ∀ u ∈ c, oneC u = true := by
 intro c hc u hu; obtain ⟨v, _, rfl⟩ := List.mem_map.1 hc; simp [Val.cells] at hu; rcases hu with rfl | rfl | rfl | rfl <;> rfl

def Q4b (r : RgnV) (v : Value) (t : ThgV) : RgnV := ⟨r.there, v, r.l ++ [t], r.pages, r.used⟩
theorem Q64 {r : RgnV} {v : Value} {t : ThgV} : (Q4b r v t).abs = r.abs.push t.abs := by simp [Q4b, RgnV.abs, Rgn.push]
theorem Q9j {r : RgnV} : r.abs.l.length = r.l.length := List.length_map _
theorem Q90 {s : HpS} {m : Nat} {vt vn n kind : Int} {t : Thg} {r : RgnV} (hc : s.code ⟨2, m, vt, vn⟩ n = 0) (hsl : s.l[m]? = some r.abs) (hrs : s.reg m = r.abs) :
 s.put ⟨2, m, vt, vn⟩ n t = ⟨s.l.set m ((r.abs.room n).push t), if r.abs.more n then s.left - 1 else s.left⟩ ∧ (s.put ⟨2, m, vt, vn⟩ n t).live = s.live ∧ s.putV ⟨2, m, vt, vn⟩ kind n = ⟨kind, m, r.abs.l.length, 0⟩ := by
 have e : s.put ⟨2, m, vt, vn⟩ n t = ⟨s.l.set m ((r.abs.room n).push t), if r.abs.more n then s.left - 1 else s.left⟩ := by
  unfold HpS.put; rw [if_pos hc]; simp only [hrs, Int.toNat_natCast]
 refine ⟨e, ?_, ?_⟩
 · rw [e]
   have h1 := Q5O (r' := (r.abs.room n).push t) hsl
   have h2 : ((r.abs.room n).push t).there = r.abs.there := by unfold Rgn.room; split <;> rfl
   rw [h2] at h1
   show (s.l.set m _).countP (fun r => r.there) = s.l.countP fun r => r.there
   omega
 · unfold HpS.putV; rw [if_pos hc]; simp only [hrs]
theorem hput_c (v : Val) (kind n : Int) (arr : Bool) (tlv : Value) (tl : List Val) (hn : 1 ≤ n ∧ n ≤ 1000) (hN : N ≤ 100000) (htl : tl.length ≤ 1000) (h1 : oneC tlv = true) (hS : St cx w (sl H0.Tv 4 tlv (tl.map Val.cells) :: L)) (hi : nth L i = some (Q1B N h s)) :
 Rets Tryz.prog Q7r [h, v.v, .int .i64 kind, .int .i64 n, .agg ⟨[.bool arr, tlv]⟩] w fun u w' => u = .tuple #[(s.putV v kind n).v, .int .i64 (s.code v n)] ∧ St cx w' (L.set i (Q1B (N + 1) h (s.put v n ⟨arr, tl⟩))) := by
 obtain ⟨hok, b, rfl⟩ := Q1X hS.drop hi
 obtain ⟨lv, rv, ho, hS⟩ := Q3i hS (i := i + 1) hi
 simp only [List.eraseIdx_cons_succ] at hS
 have ho1 : HpO (N + 1) s rv := ⟨ho.hr, hok.mono (by omega)⟩
 by_cases hk : v.kind = 2
 · cases hh : s.has v.region with
   | false =>
     have hcan : s.can v = false := by unfold HpS.can; rw [hh, Bool.and_false]
     have hc := Q7E (n := n) hcan
     obtain ⟨e1, e2⟩ := Q4B (s := s) (v := v) (n := n) (by omega) kind ⟨arr, tl⟩
     rw [e1, e2, hc]
     all_goals refine lgo tyD Tryz.func217 ?_
     all_goals (refine Zaa ?_; refine QZ hS vw (by rfl) ?_; intro b6 w1 hS; simp only [Val.cells] at hS; refine QZ hS vw (by rfl) ?_; intro b9 w1 hS; refine Qg hS ?_; intro b10 w1 hS; refine ZaT ?_; refine zf0 ?_; refine zl hS ?_)
     all_goals (first | (refine QC ?_) | (refine QJ ?_))
     all_goals (refine zm ?_; (first | refine zgn ?_ | (refine Zam ?_)); (first | refine zgn ?_ | (refine zgy ?_; refine zf0 ?_)); (first | refine zgn ?_ | (refine zgy ?_; refine zl hS ?_)); (first | refine zgn ?_ | (refine zgy ?_; refine zR2 (c := Q6c _ ho (St.rot3 hS)) (h := ?_); rintro v1 w1 ⟨rfl, hS⟩; rw [hh])); (first | refine zgn ?_ | (refine ZaP ?_)); refine Zaf ?_)
     all_goals refine zct ?_
     all_goals (refine Zaa ?_; refine zb0 [_, _, _, _] ?_; refine zsn hS ?_; intro w1 hS; have hS := hS.ns; refine Zae ?_; refine QH vw (Q4 (n := 4) (by kernel_rfl) (by kernel_rfl) (hS.blkAt fd) (by rfl) (by rfl)) vw ?_; exact ⟨_, rfl, rfl, (Qs ho1 (L := L.eraseIdx i) hS.sp).back hi⟩)
   | true =>
     obtain ⟨vk, vr, vt, vn⟩ := v
     obtain rfl : vk = 2 := hk
     obtain ⟨m, rfl, hm⟩ := ho.has_in hh
     replace hh : s.has (m : Int) = true := hh
     obtain ⟨r, hr, hrs, hsl⟩ := ho.at_ hm
     have hcan : s.can ⟨2, m, vt, vn⟩ = true := by unfold HpS.can; rw [hh]; rfl
     have hrn := ho.rng hr
     have hpg := hok.pages
     have hpr := hpg.2 r.abs (List.mem_of_getElem? hsl)
     have hl0 := hok.left
     have hlm : (rv.map RgnV.cells).length = rv.length := List.length_map _
     have hls : ∀ r', ((rv.set m r').map RgnV.cells).length = rv.length := fun r' => by rw [List.length_map, List.length_set]
     have hpr' : r.pages + s.left ≤ 1000 := hpr
     have hcd : s.code ⟨2, m, vt, vn⟩ n = if r.abs.more n = true ∧ s.left = 0 then 14 else 0 := by unfold HpS.code; rw [hcan]; simp only [Bool.not_true, Bool.false_eq_true, if_false, hrs]
     obtain ⟨e3, e4, e5⟩ := roomV_abs (r := r) (n := n)
     all_goals refine lgo tyD Tryz.func217 ?_
     all_goals (refine Zaa ?_; refine QZ hS vw (by rfl) ?_; intro b6 w1 hS; simp only [Val.cells] at hS; refine QZ hS vw (by rfl) ?_; intro b9 w1 hS; refine Qg hS ?_; intro b10 w1 hS; refine ZaT ?_; refine zf0 ?_; (first | (refine Q1 hS hel rfl fd (hls _) (Qp (QN (by omega))) rfl ?_) | (refine zl hS ?_)))
     all_goals (first | (refine QC ?_) | (refine QJ ?_))
     all_goals (refine zm ?_; (first | refine zgn ?_ | (refine Zam ?_)); (first | refine zgn ?_ | (refine zgy ?_; refine zf0 ?_)); (first | refine zgn ?_ | (refine zgy ?_; (first | (refine Q1 hS hel rfl fd (hls _) (Qp (QN (by omega))) rfl ?_) | (refine zl hS ?_)))); (first | refine zgn ?_ | (refine zgy ?_; refine zR2 (c := Q6c _ ho (St.rot3 hS)) (h := ?_); rintro v1 w1 ⟨rfl, hS⟩; rw [hh])); (first | refine zgn ?_ | (refine ZaP ?_)); refine Zaf ?_)
     all_goals refine zcf ?_
     all_goals (refine zsk ?_; refine Qb ?_; refine zD (ci 8 [7]) ?_; have hS := hS.drew; refine Zbe ?_; refine zf0 ?_; (first | (refine Q1 hS hel rfl fd (hls _) (Qp (QN (by omega))) rfl ?_) | (refine zl hS ?_)); refine zf0 ?_; (first | (refine Q1 hS hel rfl fd (hls _) (Qp (QN (by omega))) rfl ?_) | (refine zl hS ?_)); refine Q29 hS vw rfl fd (by omega) ?_; rw [hlm]; intro b12 o12 hel; refine ZaG ?_; refine ZaO ?_)
     all_goals (refine zR3 (c := hroom_c hn hel hr ⟨hl0, hpg.1⟩ ⟨hrn.2.2.1, by omega⟩ ⟨hrn.2.2.2.1, hrn.2.2.2.2.1⟩ hS) (h := ?_); rintro v2 w2 (⟨rfl, hmo, h0, hS⟩ | ⟨rfl, hnm, hS⟩))
     all_goals (refine ZaE ?_)
     all_goals (first | (refine QC ?_) | (refine QJ ?_))
     all_goals (refine zn ?_)
     all_goals
      first
      | (refine zct ?_
         all_goals (refine Zaa ?_; refine zb0 [_, _, _, _] ?_; refine zm ?_; refine zsn hS ?_; intro w1 hS; have hS := hS.ns; refine Zae ?_; refine QH vw (Q4 (n := 4) (by kernel_rfl) (by kernel_rfl) (hS.blkAt fd) (by rfl) (by rfl)) vw ?_)
         all_goals (rw [if_pos ⟨hmo, h0⟩] at hcd; obtain ⟨e1, e2⟩ := Q4B (s := s) (v := ⟨2, m, vt, vn⟩) (n := n) (by omega) kind ⟨arr, tl⟩; rw [e1, e2, hcd]; exact ⟨_, rfl, rfl, (Qs ho1 (L := L.eraseIdx i) hS.sp).back hi⟩))
      | (refine zcf ?_
         all_goals refine zsk ?_)
     all_goals (refine Qb ?_; rw [if_neg hnm] at hcd; have hS := Qq (H := H0) hS (QN (by omega)); have hrl := hrn.1; rw [← e5] at hrl; refine zC [(0, none), (1, none), (2, none), (3, none), (4, none), (5, none), (6, some (some [4])), (7, some (some [])), (8, none), (9, none), (10, some none)] ?_; have hS := hS.drew; refine Zbs ?_; refine Zbx ?_; refine Q1 hS hel rfl fd (hls _) (Qp (QN (by omega))) rfl ?_; refine Zab ?_; refine zv hS ?_; refine Zar ?_; refine zB1 hS [_, _] ?_; intro b1 w1 hS; refine zt ?_; refine ⟨List.forall_mem_cons.2 ⟨(by (exact QA hS hel rfl fd (hls _) (Qp (QN (by omega))) rfl)), fun _ h => (List.not_mem_nil h).elim⟩, ?_⟩; refine Q4n ?_; refine Q1x Qcr (.inl Qbd) hS vw vw fd (hS.srcB fd (by rfl) (one2 rfl h1)) (by first | omega | (simp only [List.length_map, List.length_append, List.length_cons, List.length_nil, List.length_set, List.length_replicate]; omega)) ?_; intro v7 w7 hS; have hS := hS.ns; have hS := hS.drop)
     all_goals (refine zt ?_; refine ⟨fun _ h => (List.not_mem_nil h).elim, ?_⟩; refine s_cq ?_; refine znc ?_; refine ZbP ?_; refine QM hS hel rfl vw fd (hls (r.roomV n)) (Qp (QN (r := r.roomV n) (by omega))) (by omega) (by first | rfl | assumption | exact hS.oneC fd) (Q4A (r' := Q4b (r.roomV n) v7 ⟨arr, tlv, tl⟩) rfl) ?_; intro w8 hS; have hS := hS.ns; rw [List.set_set] at hS; refine Zaw ?_; refine Qb ?_; refine zD (ci 12 [10, 11]) ?_; have hS := hS.drew; refine zm ?_; refine zf0 ?_; (first | (refine Q1 hS hel rfl fd (hls _) (Qp (QN (by omega))) rfl ?_) | (refine zl hS ?_)); refine ZaW ?_; refine Q1 (j := 1) (u := v7) hS hel rfl fd (hls _) (Qp (QN (r := Q4b (r.roomV n) v7 ⟨arr, tlv, tl⟩) (by omega))) rfl ?_; refine QY (n := r.l.length + 1) hS vw fd (by simp [e5]) ?_; refine Q4e rfl rfl (by omega) (by omega) ?_; rw [show ((r.l.length + 1 : Nat) : Int) - 1 = r.l.length by omega]; refine zb3 [_, _, _, _] ?_; refine zsn hS ?_; intro w1 hS; have hS := hS.ns)
     all_goals (refine Zae ?_; refine QH vw (Q4 (n := 4) (by kernel_rfl) (by kernel_rfl) (hS.blkAt fd) (by rfl) (by rfl)) vw ?_; (first | (rw [if_pos ⟨hmo, h0⟩] at hcd; obtain ⟨e1, e2⟩ := Q4B (s := s) (v := ⟨2, m, vt, vn⟩) (n := n) (by omega) kind ⟨arr, tl⟩; rw [e1, e2, hcd]; exact ⟨_, rfl, rfl, (Qs ho1 (L := L.eraseIdx i) hS.sp).back hi⟩) | (have hS : St cx _ (ThgV.res H0 ⟨arr, tlv, tl⟩ :: big (ThgV.res H0) (r.roomV n).l :: sl H0.Tt 2 v7 (((r.roomV n).l ++ [(⟨arr, tlv, tl⟩ : ThgV)]).map ThgV.cells) :: blk b 127 [lv, .int .i64 (if r.abs.more n then s.left - 1 else s.left), .int .i64 s.live] :: sl 267 4 lv ((rv.set m (Q4b (r.roomV n) v7 ⟨arr, tlv, tl⟩)).map RgnV.cells) :: big (RgnV.res H0) ((rv.set m (r.roomV n)).eraseIdx m) :: L.eraseIdx i) := (by rw [List.map_append]; exact hS.sp); have hS := Q62 (H := H0) (rv := rv.set m (r.roomV n)) (k := m) (r := Q4b (r.roomV n) v7 ⟨arr, tlv, tl⟩) (by rw [List.length_set]; omega) (St.big_push hS).mv1; rw [List.set_set] at hS; obtain ⟨e6, e7, e8⟩ := Q90 (t := ⟨arr, tl⟩) (kind := kind) hcd hsl hrs; have ho2 : HpO (N + 1) (s.put ⟨2, m, vt, vn⟩ n ⟨arr, tl⟩) (rv.set m (Q4b (r.roomV n) v7 ⟨arr, tlv, tl⟩)) := ⟨by rw [List.map_set, Q64, e3, ho.hr, e6]; rfl, HpS.ok_put hok hn htl⟩; rw [e8, hcd]; exact ⟨_, rfl, by rw [Q9j]; rfl, (Qs ho2 (by rw [e7, e6]; exact hS)).back hi⟩)))
 · have hcan : s.can v = false := by unfold HpS.can; rw [decide_eq_false hk, Bool.false_and]
   have hc := Q7E (n := n) hcan
   obtain ⟨e1, e2⟩ := Q4B (s := s) (v := v) (n := n) (by omega) kind ⟨arr, tl⟩
   rw [e1, e2, hc]
   all_goals refine lgo tyD Tryz.func217 ?_
   all_goals (refine Zaa ?_; refine QZ hS vw (by rfl) ?_; intro b6 w1 hS; simp only [Val.cells] at hS; refine QZ hS vw (by rfl) ?_; intro b9 w1 hS; refine Qg hS ?_; intro b10 w1 hS; refine ZaT ?_; refine zf0 ?_; refine zl hS ?_)
   all_goals (refine QC ?_)
   all_goals (refine zm ?_; refine zgn ?_; refine zgn ?_; refine zgn ?_; refine zgn ?_; refine zgn ?_; refine zpt ?_; refine zn ?_)
   all_goals refine zct ?_
   all_goals (refine Zaa ?_; refine zb0 [_, _, _, _] ?_; refine zsn hS ?_; intro w1 hS; have hS := hS.ns; refine Zae ?_; refine QH vw (Q4 (n := 4) (by kernel_rfl) (by kernel_rfl) (hS.blkAt fd) (by rfl) (by rfl)) vw ?_; exact ⟨_, rfl, rfl, (Qs ho1 (L := L.eraseIdx i) hS.sp).back hi⟩)
theorem hclone_c {v : Value} {l : List Val} (hS : St cx w L) (hi : nth L i = some (sl H0.Tv 4 v (l.map Val.cells))) (hl : l.length ≤ 1000000) : Rets Tryz.prog Q2r [v] w fun u w' => St cx w' (sl H0.Tv 4 u (l.map Val.cells) :: L) ∧ oneC u = true := by
 obtain ⟨a, c, hv⟩ := hS.shape hi
 have hlen : (l.map Val.cells).length = l.length := List.length_map _
 cases a with
 | none =>
   have hn : l.map Val.cells = [] := by
    obtain ⟨F, hr, _⟩ := hS.step hi
    obtain ⟨_, ⟨_, h2, _⟩ | ⟨b, off, cap, arr, h1, _⟩⟩ := hr
    · exact h2
    · rw [hv] at h1; simp at h1
   subst hv
   all_goals refine lgo tyD Tryz.func218 ?_
   all_goals (refine Zbk ?_; refine Q55 (e := 224) (by kernel_rfl) rfl rfl ?_; refine zn ?_)
   all_goals refine zct ?_
   all_goals (refine Zaq ?_; exact ⟨_, rfl, by rw [hn]; exact hS.nil, rfl⟩)
 | some a =>
   all_goals refine lgo tyD Tryz.func218 ?_
   all_goals (refine Zbk ?_; refine Q55 (e := 224) (by kernel_rfl) hv rfl ?_; refine zn ?_)
   all_goals refine zcf ?_
   all_goals (refine zsk ?_; refine Zaa ?_; refine Q8M Q6n ?_; intro v1 w1 hf1 hs1 hz1; have hS := hS.new (r := sl 224 4 v1 []) hs1 hf1 (fun b hb => Nat.le_of_eq hb.symm); refine zm ?_; refine Q1x Q6n (.inl Q7d) hS vw vw nth0 (St.srcS (i := i + 1) (T := H0.Tv) (v := v) (css := l.map Val.cells) hS hi (Q7b l)) (by rw [hlen, List.length_nil]; omega) ?_; intro v2 w2 hS; have hS := hS.ns; have h1 := hS.oneC nth0; refine Zah ?_; exact ⟨_, rfl, hS, h1⟩)
theorem hopen_c (hN : N ≤ 100000) (hS : St cx w L) (hi : nth L i = some (Q1B N h s)) : Rets Tryz.prog Q6H [h] w fun u w' => u = .tuple #[s.openV.v, .bool (!s.full)] ∧ St cx w' (L.set i (Q1B (N + 1) h s.open)) := by
 obtain ⟨hok, b, rfl⟩ := Q1X hS hi
 obtain ⟨lv, rv, ho, hS⟩ := Q3i hS hi
 have hlv := hok.live
 have hlen := ho.len
 have hsl := hok.len
 cases hf : s.full with
 | true =>
   have h16 : s.live = 16 := of_decide_eq_true hf
   have e1 : s.open = s := by unfold HpS.open; rw [hf]; rfl
   have e2 : s.openV = Val.zero := by unfold HpS.openV; rw [hf]; rfl
   rw [e1, e2]
   all_goals refine lgo tyD Tryz.func171 ?_
   all_goals (refine Zbh ?_; intro p2 w1 hS; refine ZaG ?_; refine znc ?_; refine zf0 ?_; refine zl hS ?_)
   all_goals (refine Qd ?_)
   all_goals (refine zn ?_)
   all_goals refine zct ?_
   all_goals (refine Zaa ?_; refine zb0 [_, _, _, _] ?_; refine zsn hS ?_; intro w1 hS; have hS := hS.ns; refine Zae ?_; refine QH vw (Q4 (n := 4) (by kernel_rfl) (by kernel_rfl) (hS.blkAt fd) (by rfl) (by rfl)) vw ?_; exact ⟨_, rfl, rfl, (Qs (⟨ho.hr, hok.mono (by omega)⟩ : HpO (N + 1) s rv) (L := L.eraseIdx i) hS.sp).back hi⟩)
 | false =>
   have h16 : s.live ≠ 16 := of_decide_eq_false hf
   have e1 : s.open = ⟨s.l ++ [⟨true, [], 0, 0⟩], s.left⟩ := by unfold HpS.open; rw [hf]; rfl
   have e2 : s.openV = ⟨2, s.l.length, 0, 0⟩ := by unfold HpS.openV; rw [hf]; rfl
   have e3 : (s.open.live : Int) = s.live + 1 := by
    have : s.open.live = s.live + 1 := by rw [e1]; unfold HpS.live; simp [List.countP_append]
    omega
   have ho2 : HpO (N + 1) s.open (rv ++ [⟨true, .slice none 0 0, [], 0, 0⟩]) := ⟨by rw [List.map_append, ho.hr, e1]; rfl, HpS.ok_open hok⟩
   all_goals refine lgo tyD Tryz.func171 ?_
   all_goals (refine Zbh ?_; intro p2 w1 hS; refine ZaG ?_; refine znc ?_; refine zf0 ?_; refine zl hS ?_)
   all_goals (first | (refine Qd ?_) | (refine Qh ?_))
   all_goals (refine zn ?_)
   all_goals refine zcf ?_
   all_goals (refine zsk ?_; refine Zad ?_; refine znc ?_; refine zf0 ?_; refine zl hS ?_; refine zad ?_; refine znc ?_; refine zf0 ?_; refine zst hS ?_; intro w1 hS; have hS := hS.ns; refine Zbi ?_; refine Zbe ?_; refine zf0 ?_; refine zl hS ?_; refine zb1 [_, _, _, _] ?_; refine zB1 hS [_, _, _, _] ?_; intro b1 w1 hS; refine Q1x QaL (.inl Qae) hS vw vw fd (hS.srcB fd (by rfl) (by simp [oneC])) (by first | omega | (simp only [List.length_map, List.length_append, List.length_cons, List.length_nil, List.length_set, List.length_replicate]; omega)) ?_; intro v7 w7 hS; have hS := hS.ns; refine znc ?_; refine zf0 ?_; refine zst hS ?_; intro w1 hS; have hS := hS.ns)
   all_goals (refine Zbi ?_; refine znc ?_; refine zf0 ?_; refine zl hS ?_; refine QY (n := rv.length + 1) hS vw fd (by simp) ?_; refine Q4e rfl rfl (by omega) (by omega) ?_; rw [show ((rv.length + 1 : Nat) : Int) - 1 = s.l.length by omega]; refine zb2 [_, _, _, _] ?_; refine zsn hS ?_; intro w1 hS; have hS := hS.ns; refine Zae ?_; refine QH vw (Q4 (n := 4) (by kernel_rfl) (by kernel_rfl) (hS.blkAt fd) (by rfl) (by rfl)) vw ?_; rw [e2]; refine ⟨_, rfl, rfl, (Qs (lv := v7) ho2 (L := L.eraseIdx i) ?_).back hi⟩; rw [e3]; have hS : St cx _ (big (RgnV.res H0) rv :: blk b 127 [v7, .int .i64 s.left, .int .i64 (s.live + 1)] :: sl 267 4 v7 ((rv ++ [(⟨true, .slice none 0 0, [], 0, 0⟩ : RgnV)]).map RgnV.cells) :: L.eraseIdx i) := (by rw [List.map_append]; exact hS.sp); have hS := St.star' (St.nil (T := H0.Tt) (es := 2) (St.big_nil (ThgV.res H0) hS)); have hS := St.big_push (f := RgnV.res H0) (l := rv) (x := ⟨true, .slice none 0 0, [], 0, 0⟩) hS; rw [e1]; exact hS.sp)
theorem Q7h {s : HpS} {v : Val} (h : s.can v = false) : s.shut v = s := by unfold HpS.shut; rw [h]; rfl
theorem big_nilR {rv : List RgnV} {k : Nat} (hk : k < rv.length) {x y : Res} (hS : St cx w (x :: y :: big (RgnV.res H0) (rv.eraseIdx k) :: L)) : St cx w (x :: y :: big (RgnV.res H0) (rv.set k RgnV.nil) :: L) :=
 Q62 (H := H0) (r := RgnV.nil) hk (St.nil (St.big_nil (ThgV.res H0) hS))
theorem hshut_c (v : Val) (hS : St cx w L) (hi : nth L i = some (Q1B N h s)) : Rets Tryz.prog Q6G [h, v.v] w fun u w' => u = .bool (s.can v) ∧ St cx w' (L.set i (Q1B N h (s.shut v))) := by
 obtain ⟨hok, b, rfl⟩ := Q1X hS hi
 obtain ⟨lv, rv, ho, hS⟩ := Q3i hS hi
 have hlv := hok.live
 by_cases hk : v.kind = 2
 · cases hh : s.has v.region with
   | false =>
     have hcan : s.can v = false := by unfold HpS.can; rw [hh, Bool.and_false]
     rw [Q7h hcan, hcan]
     all_goals refine lgo tyD Tryz.func173 ?_
     all_goals (refine Zaa ?_; refine QZ hS vw (by rfl) ?_; intro b6 w1 hS; simp only [Val.cells] at hS; refine ZaT ?_; refine zf0 ?_; refine zl hS ?_)
     all_goals (first | (refine QC ?_) | (refine QJ ?_))
     all_goals (refine zm ?_; (first | refine zgn ?_ | (refine Zam ?_)); (first | refine zgn ?_ | (refine zgy ?_; refine zf0 ?_)); (first | refine zgn ?_ | (refine zgy ?_; refine zl hS ?_)); (first | refine zgn ?_ | (refine zgy ?_; refine zR2 (c := Q6c _ ho (St.rot1 hS)) (h := ?_); rintro v1 w1 ⟨rfl, hS⟩; rw [hh])); (first | refine zgn ?_ | (refine ZaP ?_)); refine Zaf ?_)
     all_goals refine zct ?_
     all_goals (refine Zaq ?_; exact ⟨_, rfl, rfl, (Qs ho (L := L.eraseIdx i) hS.sp).back hi⟩)
   | true =>
     obtain ⟨vk, vr, vt, vn⟩ := v
     obtain rfl : vk = 2 := hk
     obtain ⟨m, rfl, hm⟩ := ho.has_in hh
     replace hh : s.has (m : Int) = true := hh
     obtain ⟨r, hr, hrs, hsl⟩ := ho.at_ hm
     have hcan : s.can ⟨2, m, vt, vn⟩ = true := by unfold HpS.can; rw [hh]; rfl
     have hrn := ho.rng hr
     have hpg := hok.pages
     have hpr' : r.pages + s.left ≤ 1000 := hpg.2 r.abs (List.mem_of_getElem? hsl)
     have hl0 := hok.left
     have hth : r.there = true := by unfold HpS.has at hh; rw [hrs] at hh; exact hh
     have hlm : (rv.map RgnV.cells).length = rv.length := List.length_map _
     have e1 : s.shut ⟨2, m, vt, vn⟩ = ⟨s.l.set m Rgn.none, s.left + r.pages⟩ := by unfold HpS.shut; rw [if_pos hcan]; simp only [hrs, Int.toNat_natCast]; rfl
     have e2 : ((s.shut ⟨2, m, vt, vn⟩).live : Int) = s.live - 1 := by
      rw [e1]
      have h1 := Q5O (r' := Rgn.none) hsl
      have h2 : r.abs.there = true := hth
      rw [h2] at h1
      simp only [Rgn.none, if_true, Bool.false_eq_true, if_false] at h1
      show (((s.l.set m Rgn.none).countP fun r => r.there : Nat) : Int) = ((s.l.countP fun r => r.there : Nat) : Int) - 1
      simp only [Rgn.none]
      omega
     have hlive : 1 ≤ s.live := by omega
     have ho2 : HpO N (s.shut ⟨2, m, vt, vn⟩) (rv.set m RgnV.nil) := ⟨by rw [List.map_set, ho.hr, e1]; rfl, by rw [e1]; exact HpS.ok_shut hok hsl⟩
     rw [hcan]
     all_goals refine lgo tyD Tryz.func173 ?_
     all_goals (refine Zaa ?_; refine QZ hS vw (by rfl) ?_; intro b6 w1 hS; simp only [Val.cells] at hS; refine ZaT ?_; refine zf0 ?_; (first | (refine Q1 hS hel rfl fd hlm (Qp hr) rfl ?_) | (refine zl hS ?_)))
     all_goals (first | (refine QC ?_) | (refine QJ ?_))
     all_goals (refine zm ?_; (first | refine zgn ?_ | (refine Zam ?_)); (first | refine zgn ?_ | (refine zgy ?_; refine zf0 ?_)); (first | refine zgn ?_ | (refine zgy ?_; (first | (refine Q1 hS hel rfl fd hlm (Qp hr) rfl ?_) | (refine zl hS ?_)))); (first | refine zgn ?_ | (refine zgy ?_; refine zR2 (c := Q6c _ ho (St.rot1 hS)) (h := ?_); rintro v1 w1 ⟨rfl, hS⟩; rw [hh])); (first | refine zgn ?_ | (refine ZaP ?_)); refine Zaf ?_)
     all_goals refine zcf ?_
     all_goals (refine zsk ?_; refine Qb ?_; refine zD (ci 8 [7]) ?_; have hS := hS.drew; refine Zbe ?_; refine zf0 ?_; (first | (refine Q1 hS hel rfl fd hlm (Qp hr) rfl ?_) | (refine zl hS ?_)); refine zf0 ?_; (first | (refine Q1 hS hel rfl fd hlm (Qp hr) rfl ?_) | (refine zl hS ?_)); refine Q29 hS vw rfl fd (by omega) ?_; rw [hlm]; intro b12 o12 hel; refine Zan ?_; refine zD (ci 12 [11]) ?_; have hS := hS.drew; refine Zbe ?_; refine zf0 ?_; (first | (refine Q1 hS hel rfl fd hlm (Qp hr) rfl ?_) | (refine zl hS ?_)); refine ZaW ?_; refine Q1 hS hel rfl fd hlm (Qp hr) rfl ?_; refine zad ?_)
     all_goals (refine znc ?_; refine zf0 ?_; refine zst hS ?_; intro w1 hS; have hS := hS.ns; refine Zbi ?_; refine zb0 [_, _, _, _] ?_; refine znc ?_; refine Q31 hS hel rfl rfl (by rfl) fd hlm (Qp hr) rfl (by simp [oneC]) (rcset (r' := RgnV.nil)) ?_; intro w8 hS; have hS := hS.ns; have hS := big_nilR hm ((Qq (H := H0) hS hr).drop.drop); refine Zbi ?_; refine znc ?_; refine zf0 ?_; (first | (refine Q1 hS hel rfl fd hlm (Qp hr) rfl ?_) | (refine zl hS ?_)); refine zsu ?_; refine znc ?_; refine zf0 ?_; refine zst hS ?_; intro w1 hS; have hS := hS.ns; refine zn ?_; refine Zaq ?_; exact ⟨_, rfl, rfl, (Qs ho2 (L := L.eraseIdx i) (by rw [e2, e1]; exact hS.sp)).back hi⟩)
 · have hcan : s.can v = false := by unfold HpS.can; rw [decide_eq_false hk, Bool.false_and]
   rw [Q7h hcan, hcan]
   all_goals refine lgo tyD Tryz.func173 ?_
   all_goals (refine Zaa ?_; refine QZ hS vw (by rfl) ?_; intro b6 w1 hS; simp only [Val.cells] at hS; refine ZaT ?_; refine zf0 ?_; refine zl hS ?_)
   all_goals (refine QC ?_)
   all_goals (refine zm ?_; refine zgn ?_; refine zgn ?_; refine zgn ?_; refine zgn ?_; refine zgn ?_; refine zpt ?_; refine zn ?_)
   all_goals refine zct ?_
   all_goals (refine Zaq ?_; exact ⟨_, rfl, rfl, (Qs ho (L := L.eraseIdx i) hS.sp).back hi⟩)
theorem hpages_c (hS : St cx w L) (hi : nth L i = some (Q1B N h s)) : Rets Tryz.prog Q6f [h] w fun u w' => u = .int .i64 s.left ∧ St cx w' L := by
 obtain ⟨hok, b, rfl⟩ := Q1X hS hi
 obtain ⟨lv, rv, ho, hS⟩ := Q3i hS hi
 all_goals refine lgo tyD Tryz.func26 ?_
 all_goals (refine Zbb ?_; refine znc ?_; refine zf0 ?_; refine zl hS ?_; refine Zah ?_; exact ⟨_, rfl, rfl, (Qs ho hS).back0 hi⟩)
theorem hlive_c (hS : St cx w L) (hi : nth L i = some (Q1B N h s)) : Rets Tryz.prog Q6I [h] w fun u w' => u = .int .i64 s.live ∧ St cx w' L := by
 obtain ⟨hok, b, rfl⟩ := Q1X hS hi
 obtain ⟨lv, rv, ho, hS⟩ := Q3i hS hi
 all_goals refine lgo tyD Tryz.func27 ?_
 all_goals (refine Zbb ?_; refine znc ?_; refine zf0 ?_; refine zl hS ?_; refine Zah ?_; exact ⟨_, rfl, rfl, (Qs ho hS).back0 hi⟩)
theorem HpS.ok_new {n : Int} (hn : 0 ≤ n ∧ n ≤ 1000) : (⟨[], n⟩ : HpS).Ok 0 := ⟨Nat.le_refl _, by simp, hn.1, by simp; omega, by simp [HpS.live]⟩
theorem Qa4 (n : Int) (hn : 0 ≤ n ∧ n ≤ 1000) (hS : St cx w L) : Rets Tryz.prog heap_New [.int .i64 n] w fun u w' => ∃ b, u = .pointer (some ⟨b, 0, none⟩) ∧ St cx w' (Q1B 0 (.pointer (some ⟨b, 0, none⟩)) ⟨[], n⟩ :: L) := by
 all_goals refine lgo tyD Tryz.func63 ?_
 all_goals (refine Zbb ?_; refine zb1 [_, _, _] ?_; refine zb hS ?_; intro p5 w1 hS; refine Zah ?_; exact ⟨_, rfl, _, rfl, Qs (lv := .slice none 0 0) (rv := []) ⟨rfl, HpS.ok_new hn⟩ ((St.nil (T := 267) (es := 4) (St.big_nil (RgnV.res H0) hS)).sub (by (repeat (first | exact Sub.same _ | refine Sub.t2 ?_ | refine Sub.t0 ?_ | refine Sub.t1 ?_)); first | done | fail))⟩)
theorem hlen_c (v : Val) (hS : St cx w L) (hi : nth L i = some (Q1B N h s)) : Rets Tryz.prog Q7u [h, v.v] w fun u w' => u = .tuple #[.int .i64 (s.len v).1, .int .i64 (s.len v).2] ∧ St cx w' L := by
 obtain ⟨hok, b, rfl⟩ := Q1X hS hi
 obtain ⟨lv, rv, ho, hS⟩ := Q3i hS hi
 all_goals refine lgo tyD Tryz.func182 ?_
 all_goals (refine Zaa ?_; refine QZ hS vw (by rfl) ?_; intro b6 w1 hS; refine zm ?_; refine ZaE ?_; refine zv hS ?_)
 all_goals (refine zR2 (c := hat_c v ho (St.rot1 hS)) (h := ?_); rintro v1 w1 ⟨hS, (⟨e0, rfl⟩ | ⟨k, t, th, e0, r, b7, o7, hr, hth, rfl, hel⟩)⟩)
 all_goals (refine ZaG ?_; (first | refine Q3X (e := 272) (by kernel_rfl) rfl rfl ?_ | refine Q3Y (e := 272) (by kernel_rfl) rfl rfl ?_); refine zn ?_)
 all_goals
  first
  | (refine zct ?_
     all_goals (refine Zad ?_; refine Zae ?_; refine zf2 ?_)
     all_goals ((first | exact ⟨_, rfl, by unfold HpS.len; rw [e0]; simp only [ho.thg hr hth]; rfl, (Qs ho (L := L.eraseIdx i) hS.sp).back0 hi⟩ | exact ⟨_, rfl, by unfold HpS.len; rw [e0], (Qs ho (L := L.eraseIdx i) hS.sp).back0 hi⟩)))
  | (refine zcf ?_
     all_goals refine zsk ?_)
 all_goals (refine Zad ?_; refine Zag ?_; refine Q1 (Qq (H := H0) hS hr) hel rfl nth0 (List.length_map _) (Q1J hth) rfl ?_; refine QY (Q2v (H := H0) (Qq (H := H0) hS hr) hth) vw nth0 (by exact List.length_map _) ?_; refine zm ?_; refine Zae ?_; refine zf2 ?_; exact ⟨_, rfl, by unfold HpS.len; rw [e0]; simp only [ho.thg hr hth]; rfl, (Qs ho (L := L.eraseIdx i) hS.sp).back0 hi⟩)
theorem Q6d (v : Val) (k : Int) (hS : St cx w L) (hi : nth L i = some (Q1B N h s)) : Rets Tryz.prog Q7v [h, v.v, .int .i64 k] w fun u w' => u = .tuple #[(s.get v k).1.v, .int .i64 (s.get v k).2] ∧ St cx w' L := by
 obtain ⟨hok, b, rfl⟩ := Q1X hS hi
 obtain ⟨lv, rv, ho, hS⟩ := Q3i hS hi
 all_goals refine lgo tyD Tryz.func178 ?_
 all_goals (refine Zaa ?_; refine QZ hS vw (by rfl) ?_; intro b6 w1 hS; refine Qg hS ?_; intro b8 w1 hS; refine ZaE ?_; refine zv hS ?_)
 all_goals (refine zR2 (c := hat_c v ho (St.rot2 hS)) (h := ?_); rintro v1 w1 ⟨hS, (⟨e0, rfl⟩ | ⟨kr, t, th, e0, r, b7, o7, hr, hth, rfl, hel⟩)⟩)
 all_goals (refine ZaG ?_; (first | refine Q3X (e := 272) (by kernel_rfl) rfl rfl ?_ | refine Q3Y (e := 272) (by kernel_rfl) rfl rfl ?_); refine zn ?_)
 all_goals
  first
  | (refine zct ?_
     all_goals (refine Zaa ?_; refine zb0 [_, _, _, _] ?_; refine zsn hS ?_; intro w1 hS; have hS := hS.ns; refine Zae ?_; refine QH vw (Q4 (n := 4) (by kernel_rfl) (by kernel_rfl) (hS.blkAt fd) (by rfl) (by rfl)) vw ?_)
     all_goals (have hge : s.get v k = (Val.zero, 20) := (by unfold HpS.get; rw [e0]); rw [hge]; exact ⟨_, rfl, rfl, (Qs ho (L := L.eraseIdx i) hS.sp).back0 hi⟩))
  | (refine zcf ?_
     all_goals refine zsk ?_)
 all_goals (refine Zbv ?_; have hge : s.get v k = if 0 ≤ k ∧ k < th.l.length then (th.l.getD k.toNat Val.zero, 0) else (Val.zero, 1) := (by unfold HpS.get; rw [e0]; simp only [ho.thg hr hth]; rfl); refine Zak ?_)
 all_goals (first | (refine Q1c ?_) | (refine Q1l ?_) | (refine QB rfl rfl (fun hc => ?_) (fun hc => ?_)))
 all_goals (refine zm ?_; (first | refine zgn ?_ | (refine Zam ?_)); (first | refine zgn ?_ | (refine Zam ?_)); (first | refine zgn ?_ | (refine ZaQ ?_)); (first | refine zgn ?_ | (refine Zaj ?_)); (first | refine zgn ?_ | (refine zgy ?_; refine Q1 (Qq (H := H0) hS hr) hel rfl nth0 (List.length_map _) (Q1J hth) rfl ?_)); (first | (refine zgn ?_) | (refine zgy ?_; refine QY (Q2v (H := H0) (Qq (H := H0) hS hr) hth) vw nth0 (by exact List.length_map _) ?_)))
 all_goals (first | refine zgn ?_ | (refine zgy ?_; (first | (refine Q2l ?_) | (refine Q2U ?_) | (refine Q1M rfl rfl (fun hc => ?_) (fun hc => ?_)))))
 all_goals (refine Zaf ?_)
 all_goals
  first
  | (refine zct ?_
     all_goals (refine Zaa ?_; refine zb0 [_, _, _, _] ?_; refine zsn hS ?_; intro w1 hS; have hS := hS.ns; refine Zae ?_; refine QH vw (Q4 (n := 4) (by kernel_rfl) (by kernel_rfl) (hS.blkAt fd) (by rfl) (by rfl)) vw ?_)
     all_goals ((first | (have hge : s.get v k = (Val.zero, 20) := (by unfold HpS.get; rw [e0]); rw [hge]; exact ⟨_, rfl, rfl, (Qs ho (L := L.eraseIdx i) hS.sp).back0 hi⟩) | (rw [if_neg (by omega)] at hge; rw [hge]; exact ⟨_, rfl, rfl, (Qs ho (L := L.eraseIdx i) hS.sp).back0 hi⟩))))
  | (refine zcf ?_
     all_goals refine zsk ?_)
 all_goals (refine Zad ?_; refine Zag ?_; refine Q1 (Qq (H := H0) hS hr) hel rfl nth0 (List.length_map _) (Q1J hth) rfl ?_; refine zm ?_; refine QV (Q2v (H := H0) (Qq (H := H0) hS hr) hth) vw rfl nth0 (by omega) (by first | omega | (simp only [List.length_map, List.length_append, List.length_cons, List.length_nil, List.length_set, List.length_replicate]; omega)) ?_; rw [List.length_map]; intro b9 o9 hel9; refine Q1i (Q2v (H := H0) (Qq (H := H0) hS hr) hth) hel9 rfl nth0 (List.length_map _) (vcget (by omega)) ?_; refine Q1n hS rfl rfl (by rfl) fd (by simp) (by simp [Val.cells, oneC]) (by rfl) ?_; intro w1 hS; have hS := hS.ns; refine Zae ?_; refine QH vw (Q4 (n := 4) (by kernel_rfl) (by kernel_rfl) (hS.blkAt fd) (by rfl) (by rfl)) vw ?_; (first | (have hge : s.get v k = (Val.zero, 20) := (by unfold HpS.get; rw [e0]); rw [hge]; exact ⟨_, rfl, rfl, (Qs ho (L := L.eraseIdx i) hS.sp).back0 hi⟩) | (rw [if_neg (by omega)] at hge; rw [hge]; exact ⟨_, rfl, rfl, (Qs ho (L := L.eraseIdx i) hS.sp).back0 hi⟩) | (rw [if_pos (by omega)] at hge; rw [hge]; exact ⟨_, rfl, rfl, (Qs ho (L := L.eraseIdx i) hS.sp).back0 hi⟩)))
theorem QQ (v : Val) : ∀ u ∈ v.cells, oneC u = true := by simp [Val.cells, oneC]
theorem vcset {l : List Val} {k : Nat} {x : Val} : (l.map Val.cells).set k x.cells = (l.set k x).map Val.cells := List.map_set.symm
theorem Q2A {s : HpS} {v : Val} {k : Int} {x : Val} (h : s.setC v k x ≠ 0) : s.set v k x = s := by
 unfold HpS.set
 split
 · rfl
 · rw [if_neg h]
def upd2 (r : RgnV) (t : Nat) (th : ThgV) (k : Nat) (x : Val) : RgnV := ⟨r.there, r.lv, r.l.set t ⟨th.array, th.lv, th.l.set k x⟩, r.pages, r.used⟩
theorem upd2_abs {r : RgnV} {t k : Nat} {th : ThgV} {x : Val} : (upd2 r t th k x).abs = r.abs.upd t (th.abs.upd k x) := by simp [upd2, RgnV.abs, Rgn.upd, List.map_set]; rfl
theorem Qbi {s : HpS} {v : Val} {k : Int} {x : Val} {kr t : Nat} {r : RgnV} {th : ThgV} {rv : List RgnV} (ho : HpO N s rv) (hr : rv[kr]? = some r) (hth : r.l[t]? = some th) (e0 : s.at_ v = some (kr, t)) (hc : s.setC v k x = 0) (hk : k.toNat < th.l.length) :
 s.set v k x = ⟨s.l.set kr (r.abs.upd t (th.abs.upd k.toNat x)), s.left⟩ ∧ (s.set v k x).live = s.live ∧ HpO N (s.set v k x) (rv.set kr (upd2 r t th k.toNat x)) := by
 obtain ⟨r', h1, h2, h3⟩ := ho.at_ (List.getElem?_eq_some_iff.1 hr).1
 rw [hr] at h1; cases h1
 have e : s.set v k x = ⟨s.l.set kr (r.abs.upd t (th.abs.upd k.toNat x)), s.left⟩ := by
  unfold HpS.set; rw [e0]; simp only [hc, if_true, h2, ho.thg hr hth]
 have hl := Q5O (r' := r.abs.upd t (th.abs.upd k.toNat x)) h3
 have hth2 : (r.abs.upd t (th.abs.upd k.toNat x)).there = r.abs.there := rfl
 rw [hth2] at hl
 have hlive : (s.set v k x).live = s.live := by
  rw [e]; show (s.l.set kr _).countP (fun r => r.there) = s.l.countP fun r => r.there; omega
 obtain ⟨g1, g2, g3, g4, g5, g6⟩ := ho.rng hr
 refine ⟨e, hlive, ⟨by rw [List.map_set, upd2_abs, ho.hr, e], ?_⟩⟩
 rw [e]
 have hok := ho.ok
 have hth3 : r.there = true := by
  cases hx : r.there with
  | true => rfl
  | false =>
    have := (g6 hx).1
    have := (List.getElem?_eq_some_iff.1 hth).1
    omega
 refine HpS.ok_set hok h3 (Nat.le_refl _) hok.left rfl (by show s.live + _ ≤ _; have := hok.live; rw [hth2]; omega) ⟨by simp [Rgn.upd, RgnV.abs]; exact g1, fun y hy => ?_, g3, g4, g5, fun hf => by simp [Rgn.upd, RgnV.abs, hth3] at hf⟩
 rcases mem_set_or hy with rfl | hy
 · simp only [Thg.upd, List.length_set]; exact g2 th (List.mem_of_getElem? hth)
 · obtain ⟨z, hz, rfl⟩ := List.mem_map.1 hy; exact g2 z hz
theorem hset_c (v : Val) (k : Int) (x : Val) (hS : St cx w L) (hi : nth L i = some (Q1B N h s)) : Rets Tryz.prog Q7t [h, v.v, .int .i64 k, x.v] w fun u w' => u = .int .i64 (s.setC v k x) ∧ St cx w' (L.set i (Q1B N h (s.set v k x))) := by
 obtain ⟨hok, b, rfl⟩ := Q1X hS hi
 obtain ⟨lv, rv, ho, hS⟩ := Q3i hS hi
 all_goals refine lgo tyD Tryz.func179 ?_
 all_goals (refine Zaa ?_; refine QZ hS vw (by rfl) ?_; intro b6 w1 hS; refine QZ hS vw (by rfl) ?_; intro b8 w1 hS; simp only [Val.cells] at hS; refine ZaE ?_; refine zv hS ?_)
 all_goals (refine zR2 (c := hat_c v ho (St.rot2 hS)) (h := ?_); rintro v1 w1 ⟨hS, (⟨e0, rfl⟩ | ⟨kr, t, th, e0, r, b7, o7, hr, hth, rfl, hel⟩)⟩)
 all_goals (refine ZaG ?_; (first | refine Q3X (e := 272) (by kernel_rfl) rfl rfl ?_ | refine Q3Y (e := 272) (by kernel_rfl) rfl rfl ?_); refine zm ?_; (first | refine zgn ?_ | (refine Zam ?_)); (first | refine zgn ?_ | (refine ZaQ ?_)); (first | refine zgn ?_ | (refine Zaj ?_)))
 all_goals (first | (refine zgn ?_) | (have hge : s.setC v k x = (if th.array = true ∧ x.kind ≠ 1 then 20 else if 0 ≤ k ∧ k < th.l.length then 0 else 1) := (by unfold HpS.setC; rw [e0]; simp only [ho.thg hr hth]; rfl); refine zgy ?_; refine Q1 (j := 0) (u := .bool th.array) (Qq (H := H0) hS hr) hel rfl nth0 (List.length_map _) (Q1J hth) rfl ?_; cases hta : th.array <;> by_cases hx1 : x.kind = 1))
 all_goals ((first | refine zgn ?_ | (refine Zam ?_)); (first | refine zgn ?_ | (refine zgy ?_; refine zf0 ?_)); (first | refine zgn ?_ | (refine zgy ?_; (first | (refine Q1 (Qq (H := H0) hS hr) hel rfl nth0 (List.length_map _) (Q1J hth) rfl ?_) | (refine zl hS ?_)))))
 all_goals (first | refine zgn ?_ | (refine ZaL ?_))
 all_goals ((first | refine zgn ?_ | (refine ZaB ?_)); refine Zaf ?_)
 all_goals
  first
  | (refine zct ?_
     all_goals (refine Zaq ?_)
     all_goals ((first | (have hc1 : s.setC v k x = 20 := (by unfold HpS.setC; rw [e0]; first | done | fail); rw [Q2A (by omega), hc1]; exact ⟨_, rfl, rfl, (Qs ho (L := L.eraseIdx i) hS.sp).back hi⟩) | (have hc1 : s.setC v k x = 20 := (by rw [hge, if_pos ⟨hta, hx1⟩]); rw [Q2A (by omega), hc1]; exact ⟨_, rfl, rfl, (Qs ho (L := L.eraseIdx i) hS.sp).back hi⟩))))
  | (refine zcf ?_
     all_goals refine zsk ?_)
 all_goals (refine ZaA ?_)
 all_goals (first | (refine Q1c ?_) | (refine Q1l ?_) | (refine QB rfl rfl (fun hc => ?_) (fun hc => ?_)))
 all_goals (refine zm ?_; (first | refine zgn ?_ | (refine Zam ?_)); (first | refine zgn ?_ | (refine Zam ?_)); (first | refine zgn ?_ | (refine ZaQ ?_)); (first | refine zgn ?_ | (refine Zaj ?_)); (first | refine zgn ?_ | (refine zgy ?_; refine Q1 (Qq (H := H0) hS hr) hel rfl nth0 (List.length_map _) (Q1J hth) rfl ?_)); (first | refine zgn ?_ | (refine zgy ?_; refine QY (Q2v (H := H0) (Qq (H := H0) hS hr) hth) vw nth0 (by exact List.length_map _) ?_)))
 all_goals (first | refine zgn ?_ | (refine zgy ?_; (first | (refine Q2l ?_) | (refine Q2U ?_) | (refine Q1M rfl rfl (fun hc => ?_) (fun hc => ?_)))))
 all_goals (refine Zaf ?_)
 all_goals
  first
  | (refine zct ?_
     all_goals (refine Zaq ?_)
     all_goals ((first | (have hc1 : s.setC v k x = 20 := (by unfold HpS.setC; rw [e0]; first | done | fail); rw [Q2A (by omega), hc1]; exact ⟨_, rfl, rfl, (Qs ho (L := L.eraseIdx i) hS.sp).back hi⟩) | (have hc1 : s.setC v k x = 20 := (by rw [hge, if_pos ⟨hta, hx1⟩]); rw [Q2A (by omega), hc1]; exact ⟨_, rfl, rfl, (Qs ho (L := L.eraseIdx i) hS.sp).back hi⟩) | (have hc1 : s.setC v k x = 1 := (by rw [hge, if_neg (by simp [hta, hx1]), if_neg (by omega)]); rw [Q2A (by omega), hc1]; exact ⟨_, rfl, rfl, (Qs ho (L := L.eraseIdx i) hS.sp).back hi⟩))))
  | (refine zcf ?_
     all_goals refine zsk ?_)
 all_goals (refine Qb ?_; have hS := Q2v (H := H0) (Qq (H := H0) hS hr) hth; refine zD (ci 8 [7]) ?_; have hS := hS.drew; refine ZaW ?_; refine Q1 hS hel rfl fd (List.length_map _) (Q1J hth) rfl ?_; refine zm ?_; refine zv hS ?_; refine QV hS vw rfl nth0 (by omega) (by first | omega | (simp only [List.length_map, List.length_append, List.length_cons, List.length_nil, List.length_set, List.length_replicate]; omega)) ?_; rw [List.length_map]; intro b9 o9 hel9; refine Q31 hS hel9 rfl rfl (by rfl) nth0 (List.length_map _) (vcget (by omega)) rfl (QQ x) vcset ?_; intro w8 hS; have hS := hS.ns; have hS := thg_in (H := H0) (l := r.l) (k := t) (t := ⟨th.array, th.lv, th.l.set k.toNat x⟩) (List.getElem?_eq_some_iff.1 hth).1 hS; refine zn ?_; refine Zaq ?_; (first | (have hc1 : s.setC v k x = 20 := (by unfold HpS.setC; rw [e0]; first | done | fail); rw [Q2A (by omega), hc1]; exact ⟨_, rfl, rfl, (Qs ho (L := L.eraseIdx i) hS.sp).back hi⟩) | (have hc1 : s.setC v k x = 20 := (by rw [hge, if_pos ⟨hta, hx1⟩]); rw [Q2A (by omega), hc1]; exact ⟨_, rfl, rfl, (Qs ho (L := L.eraseIdx i) hS.sp).back hi⟩) | (have hc1 : s.setC v k x = 1 := (by rw [hge, if_neg (by simp [hta, hx1]), if_neg (by omega)]); rw [Q2A (by omega), hc1]; exact ⟨_, rfl, rfl, (Qs ho (L := L.eraseIdx i) hS.sp).back hi⟩) | (have hc1 : s.setC v k x = 0 := (by rw [hge, if_neg (by simp [hta, hx1]), if_pos (by omega)]); obtain ⟨e1, e2, ho2⟩ := Qbi ho hr hth e0 hc1 (by omega); rw [hc1]; have htc : ((r.l.set t ⟨th.array, th.lv, th.l.set k.toNat x⟩).map ThgV.cells) = r.l.map ThgV.cells := (by rw [List.map_set]; exact Q3W (by rw [List.getElem?_map, hth]; rfl)); rw [← htc] at hS; have hS := Q62 (H := H0) (rv := rv) (k := kr) (r := upd2 r t th k.toNat x) (List.getElem?_eq_some_iff.1 hr).1 (L := L.eraseIdx i) (by unfold upd2; exact hS.sp); refine ⟨_, rfl, rfl, (Qs (lv := lv) ho2 (L := L.eraseIdx i) ?_).back hi⟩; have hbc : ((rv.set kr (upd2 r t th k.toNat x)).map RgnV.cells) = rv.map RgnV.cells := (by rw [List.map_set]; exact Q3W (by rw [List.getElem?_map, hr]; rfl)); rw [e2]; unfold Q4Q; rw [hbc, e1]; exact hS)))
theorem Qc3 (l : List Val) : max (l.length : Int) 1 = Q1U l := by unfold Q1U; split <;> omega
theorem Q7R {l : List Val} (h : l.length ≤ 1000) : 1 ≤ Q1U l ∧ Q1U l ≤ 1000 := by unfold Q1U; split <;> omega
theorem htuple_c (v : Val) (vl : Value) (l : List Val) {j : Nat} (hN : N ≤ 100000) (hl : l.length ≤ 1000) (hS : St cx w L) (hi : nth L i = some (Q1B N h s)) (hj : nth L j = some (sl H0.Tv 4 vl (l.map Val.cells))) :
 Rets Tryz.prog Q6e [h, v.v, vl] w fun u w' => u = .tuple #[(s.putV v 3 (Q1U l)).v, .int .i64 (s.code v (Q1U l))] ∧ St cx w' (L.set i (Q1B (N + 1) h (s.tuple v l))) := by
 have hlen : (l.map Val.cells).length = l.length := List.length_map _
 all_goals refine lgo tyD Tryz.func176 ?_
 all_goals (refine Zaa ?_; refine QZ hS vw (by rfl) ?_; intro b4 w1 hS; simp only [Val.cells] at hS; refine Qg hS ?_; intro b6 w1 hS; refine Zan ?_; refine zC [(0, none), (1, none), (2, none), (3, none), (4, none), (5, none), (6, some (some [1])), (7, none), (8, some none), (9, none), (10, none), (11, some none), (12, some none)] ?_; have hS := hS.drew; refine ZaF ?_; refine zv hS ?_; refine Zat ?_; refine QY hS vw (show nth (_ :: _ :: L) (j + 2) = _ from hj) hlen ?_; refine Zab ?_; refine s_max rfl rfl ?_; rw [Qc3]; refine ZbY ?_; refine Zar ?_; refine zR1 (c := hclone_c hS (show nth (_ :: _ :: L) (j + 2) = _ from hj) (by omega)) (h := ?_); rintro v1 w1 ⟨hS, hone⟩; obtain ⟨a_, c_, rfl⟩ := hS.shape nth0; refine ZaI ?_; refine zb1 [_, _] ?_; refine Zax ?_; refine Q9F vw vw vw vw vw (hput_c v 3 (Q1U l) false _ l (Q7R hl) hN hl hone hS (show nth (_ :: _ :: L) (i + 2) = _ from hi)) ?_; rintro v2 w2 ⟨rfl, hS⟩; have hS := hS.ns)
 all_goals (refine Zab ?_; refine Zbu ?_; refine Zax ?_; refine Q1n hS rfl rfl (by rfl) fd (by simp) (QQ _) (by rfl) ?_; intro w1 hS; have hS := hS.ns; refine ZbD ?_; refine zr ?_; refine QH vw (Q4 (n := 4) (by kernel_rfl) (by kernel_rfl) (hS.blkAt fd) (by rfl) (by rfl)) vw ?_; exact ⟨_, rfl, rfl, hS.drop.drop⟩)
theorem Q5v {j : Nat} : (Q2y ((j : Int) + 1)) = Q2y j ++ [⟨1, 0, 0, 0⟩] := by
 unfold Q2y; rw [show ((j : Int) + 1).toNat = j + 1 by omega, Int.toNat_natCast, List.replicate_succ']
theorem Q67 {n : Nat} : (Q2y n).length = n := by simp [Q2y]
theorem Q7w (v : Val) (n : Int) (hN : N ≤ 100000) (hS : St cx w L) (hi : nth L i = some (Q1B N h s)) :
 Rets Tryz.prog Q6g [h, v.v, .int .i64 n] w fun u w' => u = .tuple #[(s.arrV v n).v, .int .i64 (s.arrC v n)] ∧ St cx w' (L.set i (Q1B (N + 1) h (s.arr v n))) := by
 by_cases hn : n < 0 ∨ 15 < n
 · have e1 : s.arr v n = s := by unfold HpS.arr; rw [if_pos hn]
   have e2 : s.arrV v n = Val.zero := by unfold HpS.arrV; rw [if_pos hn]
   have e3 : s.arrC v n = 1 := by unfold HpS.arrC; rw [if_pos hn]
   rw [e1, e2, e3]
   obtain ⟨hok, b, rfl⟩ := Q1X hS hi
   all_goals refine lgo tyD Tryz.func220 ?_
   all_goals (refine Zaa ?_; refine QZ hS vw (by rfl) ?_; intro b4 w1 hS; simp only [Val.cells] at hS; refine Qg hS ?_; intro b6 w1 hS; refine ZaG ?_)
   all_goals (first | (refine Q1c ?_) | (refine Q1l ?_) | (refine QB rfl rfl (fun hc => ?_) (fun hc => ?_)))
   all_goals (refine zm ?_; (first | refine zgn ?_ | (refine Zam ?_)))
   all_goals (first | refine zgn ?_ | (refine zgy ?_; refine QG ?_))
   all_goals (refine Zaf ?_)
   all_goals refine zct ?_
   all_goals (refine Zaa ?_; refine zb0 [_, _, _, _] ?_; refine zsn hS ?_; intro w1 hS; have hS := hS.ns; refine Zae ?_; refine QH vw (Q4 (n := 4) (by kernel_rfl) (by kernel_rfl) (hS.blkAt fd) (by rfl) (by rfl)) vw ?_; refine ⟨_, rfl, rfl, ?_⟩; obtain ⟨lv, rv, ho, hS⟩ := Q3i hS.drop.drop hi; exact (Qs (⟨ho.hr, hok.mono (by omega)⟩ : HpO (N + 1) s rv) hS).back hi)
 · obtain ⟨m, rfl⟩ := Int.eq_ofNat_of_zero_le (show 0 ≤ n by omega)
   have e1 : s.arr v m = s.put v (1 + m) ⟨true, Q2y m⟩ := by unfold HpS.arr; rw [if_neg hn, Int.add_comm]
   have e2 : s.arrV v m = s.putV v 4 (1 + m) := by unfold HpS.arrV; rw [if_neg hn, Int.add_comm]
   have e3 : s.arrC v m = s.code v (1 + m) := by unfold HpS.arrC; rw [if_neg hn, Int.add_comm]
   rw [e1, e2, e3]
   all_goals refine lgo tyD Tryz.func220 ?_
   all_goals (refine Zaa ?_; refine QZ hS vw (by rfl) ?_; intro b4 w1 hS; simp only [Val.cells] at hS; refine Qg hS ?_; intro b6 w1 hS; refine ZaG ?_)
   all_goals (first | (refine Q1c ?_) | (refine Q1l ?_))
   all_goals (refine zm ?_; (first | refine zgn ?_ | (refine Zam ?_)))
   all_goals (first | refine zgn ?_ | (refine ZbR ?_))
   all_goals (refine Zaf ?_)
   all_goals refine zcf ?_
   all_goals (refine zsk ?_; refine Zaa ?_; refine zb1 [_, _] ?_; refine Qg hS ?_; intro b8 w1 hS; refine Q1n hS rfl rfl (by rfl) fd (by simp) (by first | exact QQ _ | exact one2 rfl rfl) (by rfl) ?_; intro w1 hS; have hS := hS.ns; refine zn ?_; refine ZaA ?_; refine ZaC ?_; have hS := hS.nil (T := H0.Tv) (es := 4))
   refine zo [] (fun A ρ' w' => ∃ (j : Nat) (va : Value), Has ρ' A ∧ Has ρ' [(0, h), (2, .int .i64 m), (4, .pointer (some ⟨b4, 0, none⟩)), (6, .pointer (some ⟨b6, 0, none⟩)), (8, .pointer (some ⟨b8, 0, none⟩)), (17, .int .i64 m), (18, .int .i64 j)] ∧ (j ≤ m) ∧ St cx w' (sl H0.Tv 4 va ((Q2y j).map Val.cells) :: blk b8 272 [.bool true, va] :: blk b6 224 [.int .i64 0, .int .i64 0, .int .i64 0, .int .i64 0] :: blk b4 224 [.int .i64 v.kind, .int .i64 v.region, .int .i64 v.thing, .int .i64 v.n] :: L)) (fun ρ' _ => (m - iv (ρ' 18)).toNat) ?_ ?_
   · exact ⟨0, .slice none 0 0, zh, zh, (by omega), hS.sp⟩
   rintro ρ w1 ⟨j, va, hA, hρ, hj, hS⟩; obtain ⟨ρ, rfl⟩ := env2 hA hρ; have hnl := Q67 (n := j)
   all_goals (refine ZbH ?_)
   refine Qt rfl (fun hc => ?_) (fun hc => ?_)
   · skip
     all_goals (refine ZaJ ?_; refine Qn ?_; refine zf0 ?_; refine zl hS ?_; refine zb1 [_, _, _, _] ?_; refine zB1 hS [_, _, _, _] ?_; intro b1 w1 hS; refine Q1x Q6n (.inl Q7d) hS vw vw fd (hS.srcB fd (by rfl) (by simp [oneC])) (by first | omega | (simp only [List.length_map, List.length_append, List.length_cons, List.length_nil, List.length_set, List.length_replicate]; omega)) ?_; intro v7 w7 hS; have hS := hS.ns; refine zf0 ?_; refine zst hS ?_; intro w1 hS; have hS := hS.ns; refine zn ?_; refine Qn ?_; refine zad ?_; refine Zac ?_; exact ⟨⟨j + 1, _, zh, zh, (by omega), by rw [show ((j + 1 : Nat) : Int) = (j : Int) + 1 by omega, Q5v, List.map_append]; exact hS.sp⟩, Qu (by omega)⟩)
   · skip
     all_goals (refine zex ?_; obtain rfl : j = m := (by omega); have hone := hS.oneC nth0; refine Zad ?_; refine zv hS ?_; refine zm ?_; refine zad ?_; refine zv hS ?_; refine Q9F vw vw vw vw vw (hput_c v 4 (1 + j) true va (Q2y j) (by omega) hN (by omega) hone hS (show nth (_ :: _ :: _ :: L) (i + 3) = _ from hi)) ?_; rintro v2 w2 ⟨rfl, hS⟩; have hS := hS.ns; refine ZaV ?_; refine Q1n hS rfl rfl (by rfl) fd (by simp) (by exact QQ _) (by rfl) ?_; intro w1 hS; have hS := hS.ns; refine Zae ?_; refine QH vw (Q4 (n := 4) (by kernel_rfl) (by kernel_rfl) (hS.blkAt fd) (by rfl) (by rfl)) vw ?_; exact ⟨_, rfl, rfl, hS.drop.drop.drop⟩)
end Go.Proofs.YteflkifmgnpbhaaGreat
namespace Go.Lir
abbrev wr (n : Int) : Int := IntKind.i64.wrap n
def divF (a b : Int) : Int × Bool := if b = 0 then (0, false) else if b = -1 then (wr (0 - a), true) else (wr (a.tdiv b), true)
def opF (k a b : Int) : Int × Bool :=
 if k = 1 then (wr (a + b), true) else if k = 2 then (wr (a - b), true) else if k = 3 then (wr (a * b), true)
 else if k = 4 then divF a b else if k = 5 then (if (divF a b).2 then (wr (a - wr ((divF a b).1 * b)), true) else (0, false))
 else if k = 6 then (if a < b then 1 else 0, true) else if k = 7 then (if a = b then 1 else 0, true) else if k = 8 then (bitI .and .i64 a b, true) else if k = 9 then (bitI .xor .i64 a b, true) else (0, false)
end Go.Lir
namespace Go.Proofs.YteflkifmgnpbhaaGreat
open Go.Lir
set_option maxHeartbeats 1000000
attribute [local irreducible] LC.wp Q0 QF QE retQ Q16 LO.wp Qf Calls
set_option linter.unusedSimpArgs false
set_option linter.unusedVariables false
theorem Qbf (b : Bool) (w : World) : Rets Tryz.prog Q9i [.bool b] w fun v w' => v = .int .i64 (if b then 1 else 0) ∧ w' = w := by
 cases b
 all_goals
  all_goals refine lgo tyD Tryz.func195 ?_
  all_goals (refine Qb ?_; refine Qn ?_; refine Qi (by (conv => lhs; whnf); first | done | exact rfl) ?_; refine QW ?_; (repeat (first | refine Qo ?_ | refine Qa ?_)); refine Qb ?_; refine Qb ?_; refine Qn ?_; refine Qi (by (conv => lhs; whnf); first | done | exact rfl) ?_; refine QW ?_; (repeat (first | refine Qo ?_ | refine Qa ?_)))
  all_goals
   first
   | (refine QR rfl ?_
      all_goals (refine Qb ?_; refine Qn ?_; refine Qi (by (conv => lhs; whnf); first | done | exact rfl) ?_; refine QW ?_; (repeat (first | refine Qo ?_ | refine Qa ?_)); refine Q27 ?_; (repeat (first | refine Q1s ?_ | refine Q1t ?_)); refine QbU (by (conv => lhs; whnf); first | done | exact rfl) ?_)
      all_goals (exact ⟨_, rfl, rfl, rfl⟩))
   | (refine QU rfl ?_
      all_goals (refine Q32 ?_; (repeat (first | refine Qo ?_ | refine Qa ?_))))
  all_goals (refine Qb ?_; refine Qn ?_; refine Qi (by (conv => lhs; whnf); first | done | exact rfl) ?_; refine QW ?_; (repeat (first | refine Qo ?_ | refine Qa ?_)); refine Q27 ?_; (repeat (first | refine Q1s ?_ | refine Q1t ?_)); refine QbU (by (conv => lhs; whnf); first | done | exact rfl) ?_; exact ⟨_, rfl, rfl, rfl⟩)
theorem Qa7 (a b : Int) (w : World) : Rets Tryz.prog Q8m [.int .i64 a, .int .i64 b] w fun v w' => v = .tuple #[.int .i64 (divF a b).1, .bool (divF a b).2] ∧ w' = w := by
 all_goals refine lgo tyD Tryz.func194 ?_
 all_goals (refine Qb ?_; refine Qn ?_; refine Qi (by (conv => lhs; whnf); first | done | exact rfl) ?_; refine Qi (by (conv => lhs; whnf); first | done | exact rfl) ?_; refine QW ?_; (repeat (first | refine Qo ?_ | refine Qa ?_)); refine Qb ?_; refine Qb ?_; refine Qn ?_; refine Qi (by (conv => lhs; whnf); first | done | exact rfl) ?_; refine QW ?_; (repeat (first | refine Qo ?_ | refine Qa ?_)); refine Q2w ?_; refine Qb ?_; refine Qn ?_)
 all_goals (first | (refine Q14 rfl rfl (by omega) ?_) | (refine Q15 rfl rfl (by omega) ?_) | (refine Q6 rfl rfl (fun hc => ?_) (fun hc => ?_)))
 all_goals (refine Qi (by (conv => lhs; whnf); first | done | exact rfl) ?_; refine QW ?_; (repeat (first | refine Qo ?_ | refine Qa ?_)))
 all_goals
  first
  | (refine QR rfl ?_
     all_goals (refine Qb ?_; refine Qn ?_; refine Qi (by (conv => lhs; whnf); first | done | exact rfl) ?_; refine Qi (by (conv => lhs; whnf); first | done | exact rfl) ?_; refine QW ?_; (repeat (first | refine Qo ?_ | refine Qa ?_)); refine Q27 ?_; (repeat (first | refine Q1s ?_ | refine Q1t ?_)); refine Q1y (by (conv => lhs; whnf); first | done | exact rfl) (by (conv => lhs; whnf); first | done | exact rfl) ?_)
     all_goals (exact ⟨_, rfl, by simp [divF, *], rfl⟩))
  | (refine QU rfl ?_
     all_goals (refine Qb ?_; refine Qn ?_)
     all_goals (first | (refine Q14 rfl rfl (by omega) ?_) | (refine Q15 rfl rfl (by omega) ?_) | (refine Q6 rfl rfl (fun hc => ?_) (fun hc => ?_)))
     all_goals (refine Qi (by (conv => lhs; whnf); first | done | exact rfl) ?_; refine QW ?_; (repeat (first | refine Qo ?_ | refine Qa ?_)))
     all_goals
      first
      | (refine QR rfl ?_
         all_goals (refine Qb ?_; refine Qn ?_; refine Qi (by (conv => lhs; whnf); first | done | exact rfl) ?_; refine s_neg rfl ?_; refine Qi (by (conv => lhs; whnf); first | done | exact rfl) ?_; refine Qi (by (conv => lhs; whnf); first | done | exact rfl) ?_; refine QW ?_; (repeat (first | refine Qo ?_ | refine Qa ?_)); refine Q27 ?_; (repeat (first | refine Q1s ?_ | refine Q1t ?_)); refine Q1y (by (conv => lhs; whnf); first | done | exact rfl) (by (conv => lhs; whnf); first | done | exact rfl) ?_)
         all_goals (exact ⟨_, rfl, by simp [divF, *], rfl⟩))
      | (refine QU rfl ?_
         all_goals (refine Q32 ?_; (repeat (first | refine Qo ?_ | refine Qa ?_)))))
 all_goals (refine Qb ?_; refine Qn ?_; refine Qi (by (conv => lhs; whnf); first | done | exact rfl) ?_; refine Qi (by (conv => lhs; whnf); first | done | exact rfl) ?_; refine s_quo rfl rfl (by omega) ?_; refine Qi (by (conv => lhs; whnf); first | done | exact rfl) ?_; refine Qi (by (conv => lhs; whnf); first | done | exact rfl) ?_; refine QW ?_; (repeat (first | refine Qo ?_ | refine Qa ?_)); refine Q27 ?_; (repeat (first | refine Q1s ?_ | refine Q1t ?_)); refine Q1y (by (conv => lhs; whnf); first | done | exact rfl) (by (conv => lhs; whnf); first | done | exact rfl) ?_; exact ⟨_, rfl, by simp [divF, *], rfl⟩)
set_option maxHeartbeats 1000000 in
theorem op_c (k a b : Int) (w : World) : Rets Tryz.prog Qab [.int .i64 k, .int .i64 a, .int .i64 b] w fun v w' => v = .tuple #[.int .i64 (opF k a b).1, .bool (opF k a b).2] ∧ w' = w := by
 cases hd : (divF a b).2
 all_goals
  all_goals refine lgo tyD Tryz.func134 ?_
  all_goals (refine Qb ?_; refine Qn ?_; refine Qi (by (conv => lhs; whnf); first | done | exact rfl) ?_; refine Qi (by (conv => lhs; whnf); first | done | exact rfl) ?_; refine QW ?_; (repeat (first | refine Qo ?_ | refine Qa ?_)); refine Qb ?_; refine Qb ?_; refine Qn ?_; refine Qi (by (conv => lhs; whnf); first | done | exact rfl) ?_; refine QW ?_; (repeat (first | refine Qo ?_ | refine Qa ?_)); refine Q2w ?_; refine Qb ?_; refine Qn ?_)
  all_goals (first | (refine Q14 rfl rfl (by omega) ?_) | (refine Q15 rfl rfl (by omega) ?_) | (refine Q6 rfl rfl (fun hc => ?_) (fun hc => ?_)))
  all_goals (refine Qi (by (conv => lhs; whnf); first | done | exact rfl) ?_; refine QW ?_; (repeat (first | refine Qo ?_ | refine Qa ?_)))
  all_goals
   first
   | (refine QR rfl ?_
      all_goals (refine Qb ?_; refine Qn ?_; refine Qi (by (conv => lhs; whnf); first | done | exact rfl) ?_; refine Qi (by (conv => lhs; whnf); first | done | exact rfl) ?_; refine Q4z rfl rfl ?_; refine Qi (by (conv => lhs; whnf); first | done | exact rfl) ?_; refine Qi (by (conv => lhs; whnf); first | done | exact rfl) ?_; refine QW ?_; (repeat (first | refine Qo ?_ | refine Qa ?_)); refine Q27 ?_; (repeat (first | refine Q1s ?_ | refine Q1t ?_)); refine Q1y (by (conv => lhs; whnf); first | done | exact rfl) (by (conv => lhs; whnf); first | done | exact rfl) ?_)
      all_goals (exact ⟨_, rfl, by simp [opF, *], rfl⟩))
   | (refine QU rfl ?_
      all_goals (refine Qb ?_; refine Qn ?_)
      all_goals (first | (refine Q14 rfl rfl (by omega) ?_) | (refine Q15 rfl rfl (by omega) ?_) | (refine Q6 rfl rfl (fun hc => ?_) (fun hc => ?_)))
      all_goals (refine Qi (by (conv => lhs; whnf); first | done | exact rfl) ?_; refine QW ?_; (repeat (first | refine Qo ?_ | refine Qa ?_)))
      all_goals
       first
       | (refine QR rfl ?_
          all_goals (refine Qb ?_; refine Qn ?_; refine Qi (by (conv => lhs; whnf); first | done | exact rfl) ?_; refine Qi (by (conv => lhs; whnf); first | done | exact rfl) ?_; (first | (refine Q4z rfl rfl ?_) | (refine Q4l rfl rfl ?_)); refine Qi (by (conv => lhs; whnf); first | done | exact rfl) ?_; refine Qi (by (conv => lhs; whnf); first | done | exact rfl) ?_; refine QW ?_; (repeat (first | refine Qo ?_ | refine Qa ?_)); refine Q27 ?_; (repeat (first | refine Q1s ?_ | refine Q1t ?_)); refine Q1y (by (conv => lhs; whnf); first | done | exact rfl) (by (conv => lhs; whnf); first | done | exact rfl) ?_)
          all_goals (exact ⟨_, rfl, by simp [opF, *], rfl⟩))
       | (refine QU rfl ?_
          all_goals (refine Qb ?_; refine Qn ?_)
          all_goals (first | (refine Q14 rfl rfl (by omega) ?_) | (refine Q15 rfl rfl (by omega) ?_) | (refine Q6 rfl rfl (fun hc => ?_) (fun hc => ?_)))
          all_goals (refine Qi (by (conv => lhs; whnf); first | done | exact rfl) ?_; refine QW ?_; (repeat (first | refine Qo ?_ | refine Qa ?_)))
          all_goals
           first
           | (refine QR rfl ?_
              all_goals (refine Qb ?_; refine Qn ?_; refine Qi (by (conv => lhs; whnf); first | done | exact rfl) ?_; refine Qi (by (conv => lhs; whnf); first | done | exact rfl) ?_; (first | (refine Q4z rfl rfl ?_) | (refine Q4l rfl rfl ?_) | (refine Qbs rfl rfl ?_)); refine Qi (by (conv => lhs; whnf); first | done | exact rfl) ?_; refine Qi (by (conv => lhs; whnf); first | done | exact rfl) ?_; refine QW ?_; (repeat (first | refine Qo ?_ | refine Qa ?_)); refine Q27 ?_; (repeat (first | refine Q1s ?_ | refine Q1t ?_)); refine Q1y (by (conv => lhs; whnf); first | done | exact rfl) (by (conv => lhs; whnf); first | done | exact rfl) ?_)
              all_goals (exact ⟨_, rfl, by simp [opF, *], rfl⟩))
           | (refine QU rfl ?_
              all_goals (refine Qb ?_; refine Qn ?_)
              all_goals (first | (refine Q14 rfl rfl (by omega) ?_) | (refine Q15 rfl rfl (by omega) ?_) | (refine Q6 rfl rfl (fun hc => ?_) (fun hc => ?_)))
              all_goals (refine Qi (by (conv => lhs; whnf); first | done | exact rfl) ?_; refine QW ?_; (repeat (first | refine Qo ?_ | refine Qa ?_)))
              all_goals
               first
               | (refine QR rfl ?_
                  all_goals (refine Qb ?_; refine Qn ?_; refine Qi (by (conv => lhs; whnf); first | done | exact rfl) ?_; refine Qi (by (conv => lhs; whnf); first | done | exact rfl) ?_; refine Q4f rfl (Qa7 _ _ _) ?_; rw [hd]; rintro _ _ ⟨rfl, rfl⟩; refine Qbx rfl rfl ?_; refine Qbx rfl rfl ?_; refine Qi (by (conv => lhs; whnf); first | done | exact rfl) ?_; refine Qi (by (conv => lhs; whnf); first | done | exact rfl) ?_; refine QW ?_; (repeat (first | refine Qo ?_ | refine Qa ?_)); refine Q27 ?_; (repeat (first | refine Q1s ?_ | refine Q1t ?_)); refine Q1y (by (conv => lhs; whnf); first | done | exact rfl) (by (conv => lhs; whnf); first | done | exact rfl) ?_)
                  all_goals (exact ⟨_, rfl, by simp [opF, *], rfl⟩))
               | (refine QU rfl ?_
                  all_goals (refine Qb ?_; refine Qn ?_)
                  all_goals (first | (refine Q14 rfl rfl (by omega) ?_) | (refine Q15 rfl rfl (by omega) ?_) | (refine Q6 rfl rfl (fun hc => ?_) (fun hc => ?_)))
                  all_goals (refine Qi (by (conv => lhs; whnf); first | done | exact rfl) ?_; refine QW ?_; (repeat (first | refine Qo ?_ | refine Qa ?_)))
                  all_goals
                   first
                   | (refine QR rfl ?_
                      all_goals (refine Qb ?_; refine Qn ?_; refine Qi (by (conv => lhs; whnf); first | done | exact rfl) ?_; refine Qi (by (conv => lhs; whnf); first | done | exact rfl) ?_; refine Q4f rfl (Qa7 _ _ _) ?_; rw [hd]; rintro _ _ ⟨rfl, rfl⟩; refine Qi (by (conv => lhs; whnf); first | done | exact rfl) ?_; refine Qbx rfl rfl ?_; refine Qbx rfl rfl ?_; refine Qi (by (conv => lhs; whnf); first | done | exact rfl) ?_; refine Qi (by (conv => lhs; whnf); first | done | exact rfl) ?_; refine QW ?_; (repeat (first | refine Qo ?_ | refine Qa ?_)); refine Qb ?_; refine Qb ?_; refine Qn ?_; refine Qi (by (conv => lhs; whnf); first | done | exact rfl) ?_; refine s_not rfl ?_; refine QW ?_; (repeat (first | refine Qo ?_ | refine Qa ?_)))
                      all_goals
                       first
                       | (refine QR rfl ?_
                          all_goals (refine Qb ?_; refine Qn ?_; refine Qi (by (conv => lhs; whnf); first | done | exact rfl) ?_; refine Qi (by (conv => lhs; whnf); first | done | exact rfl) ?_; refine QW ?_; (repeat (first | refine Qo ?_ | refine Qa ?_)); refine Q27 ?_; (repeat (first | refine Q1s ?_ | refine Q1t ?_)); refine Q1y (by (conv => lhs; whnf); first | done | exact rfl) (by (conv => lhs; whnf); first | done | exact rfl) ?_)
                          all_goals (exact ⟨_, rfl, by simp [opF, *], rfl⟩))
                       | (refine QU rfl ?_
                          all_goals (refine Q32 ?_; (repeat (first | refine Qo ?_ | refine Qa ?_))))
                      all_goals (refine Qb ?_; refine Qn ?_; refine Qi (by (conv => lhs; whnf); first | done | exact rfl) ?_; refine Qi (by (conv => lhs; whnf); first | done | exact rfl) ?_; refine Qi (by (conv => lhs; whnf); first | done | exact rfl) ?_; (first | (refine Q4z rfl rfl ?_) | (refine Q4l rfl rfl ?_) | (refine Qbs rfl rfl ?_)); (first | (refine Q4z rfl rfl ?_) | (refine Q4l rfl rfl ?_)); refine Qi (by (conv => lhs; whnf); first | done | exact rfl) ?_; refine Qi (by (conv => lhs; whnf); first | done | exact rfl) ?_; refine QW ?_; (repeat (first | refine Qo ?_ | refine Qa ?_)); refine Q27 ?_; (repeat (first | refine Q1s ?_ | refine Q1t ?_)); refine Q1y (by (conv => lhs; whnf); first | done | exact rfl) (by (conv => lhs; whnf); first | done | exact rfl) ?_)
                      all_goals (exact ⟨_, rfl, by simp [opF, *], rfl⟩))
                   | (refine QU rfl ?_
                      all_goals (refine Qb ?_; refine Qn ?_)
                      all_goals (first | (refine Q14 rfl rfl (by omega) ?_) | (refine Q15 rfl rfl (by omega) ?_) | (refine Q6 rfl rfl (fun hc => ?_) (fun hc => ?_)))
                      all_goals (refine Qi (by (conv => lhs; whnf); first | done | exact rfl) ?_; refine QW ?_; (repeat (first | refine Qo ?_ | refine Qa ?_)))
                      all_goals
                       first
                       | (refine QR rfl ?_
                          all_goals (refine Qb ?_; refine Qn ?_; refine Qi (by (conv => lhs; whnf); first | done | exact rfl) ?_; refine Qi (by (conv => lhs; whnf); first | done | exact rfl) ?_)
                          all_goals (first | (refine Q8N rfl rfl (by omega) ?_) | (refine Q8O rfl rfl (by omega) ?_) | (refine QB rfl rfl (fun hc => ?_) (fun hc => ?_)))
                          all_goals (refine Q4f rfl (Qbf _ _) ?_; rintro _ _ ⟨rfl, rfl⟩; refine Qi (by (conv => lhs; whnf); first | done | exact rfl) ?_; refine Qi (by (conv => lhs; whnf); first | done | exact rfl) ?_; refine QW ?_; (repeat (first | refine Qo ?_ | refine Qa ?_)); refine Q27 ?_; (repeat (first | refine Q1s ?_ | refine Q1t ?_)); refine Q1y (by (conv => lhs; whnf); first | done | exact rfl) (by (conv => lhs; whnf); first | done | exact rfl) ?_)
                          all_goals (exact ⟨_, rfl, by simp [opF, *], rfl⟩))
                       | (refine QU rfl ?_
                          all_goals (refine Qb ?_; refine Qn ?_)
                          all_goals (first | (refine Q14 rfl rfl (by omega) ?_) | (refine Q15 rfl rfl (by omega) ?_) | (refine Q6 rfl rfl (fun hc => ?_) (fun hc => ?_)))
                          all_goals (refine Qi (by (conv => lhs; whnf); first | done | exact rfl) ?_; refine QW ?_; (repeat (first | refine Qo ?_ | refine Qa ?_)))
                          all_goals
                           first
                           | (refine QR rfl ?_
                              all_goals (refine Qb ?_; refine Qn ?_; refine Qi (by (conv => lhs; whnf); first | done | exact rfl) ?_; refine Qi (by (conv => lhs; whnf); first | done | exact rfl) ?_)
                              all_goals (first | (refine Q14 rfl rfl (by omega) ?_) | (refine Q15 rfl rfl (by omega) ?_) | (refine Q6 rfl rfl (fun hc => ?_) (fun hc => ?_)))
                              all_goals (refine Q4f rfl (Qbf _ _) ?_; rintro _ _ ⟨rfl, rfl⟩; refine Qi (by (conv => lhs; whnf); first | done | exact rfl) ?_; refine Qi (by (conv => lhs; whnf); first | done | exact rfl) ?_; refine QW ?_; (repeat (first | refine Qo ?_ | refine Qa ?_)); refine Q27 ?_; (repeat (first | refine Q1s ?_ | refine Q1t ?_)); refine Q1y (by (conv => lhs; whnf); first | done | exact rfl) (by (conv => lhs; whnf); first | done | exact rfl) ?_)
                              all_goals (exact ⟨_, rfl, by simp [opF, *], rfl⟩))
                           | (refine QU rfl ?_
                              all_goals (refine Qb ?_; refine Qn ?_)
                              all_goals (first | (refine Q14 rfl rfl (by omega) ?_) | (refine Q15 rfl rfl (by omega) ?_) | (refine Q6 rfl rfl (fun hc => ?_) (fun hc => ?_)))
                              all_goals (refine Qi (by (conv => lhs; whnf); first | done | exact rfl) ?_; refine QW ?_; (repeat (first | refine Qo ?_ | refine Qa ?_)))
                              all_goals
                               first
                               | (refine QR rfl ?_
                                  all_goals (refine Qb ?_; refine Qn ?_; refine Qi (by (conv => lhs; whnf); first | done | exact rfl) ?_; refine Qi (by (conv => lhs; whnf); first | done | exact rfl) ?_; refine s_and rfl rfl ?_; refine Qi (by (conv => lhs; whnf); first | done | exact rfl) ?_; refine Qi (by (conv => lhs; whnf); first | done | exact rfl) ?_; refine QW ?_; (repeat (first | refine Qo ?_ | refine Qa ?_)); refine Q27 ?_; (repeat (first | refine Q1s ?_ | refine Q1t ?_)); refine Q1y (by (conv => lhs; whnf); first | done | exact rfl) (by (conv => lhs; whnf); first | done | exact rfl) ?_)
                                  all_goals (exact ⟨_, rfl, by simp [opF, *], rfl⟩))
                               | (refine QU rfl ?_
                                  all_goals (refine Qb ?_; refine Qn ?_)
                                  all_goals (first | (refine Q14 rfl rfl (by omega) ?_) | (refine Q15 rfl rfl (by omega) ?_) | (refine Q6 rfl rfl (fun hc => ?_) (fun hc => ?_)))
                                  all_goals (refine Qi (by (conv => lhs; whnf); first | done | exact rfl) ?_; refine QW ?_; (repeat (first | refine Qo ?_ | refine Qa ?_)))
                                  all_goals
                                   first
                                   | (refine QR rfl ?_
                                      all_goals (refine Qb ?_; refine Qn ?_; refine Qi (by (conv => lhs; whnf); first | done | exact rfl) ?_; refine Qi (by (conv => lhs; whnf); first | done | exact rfl) ?_; refine s_xor rfl rfl ?_; refine Qi (by (conv => lhs; whnf); first | done | exact rfl) ?_; refine Qi (by (conv => lhs; whnf); first | done | exact rfl) ?_; refine QW ?_; (repeat (first | refine Qo ?_ | refine Qa ?_)); refine Q27 ?_; (repeat (first | refine Q1s ?_ | refine Q1t ?_)); refine Q1y (by (conv => lhs; whnf); first | done | exact rfl) (by (conv => lhs; whnf); first | done | exact rfl) ?_)
                                      all_goals (exact ⟨_, rfl, by simp [opF, *], rfl⟩))
                                   | (refine QU rfl ?_
                                      all_goals (refine Q32 ?_; (repeat (first | refine Qo ?_ | refine Qa ?_))))))))))))
  all_goals (refine Qb ?_; refine Qn ?_; refine Qi (by (conv => lhs; whnf); first | done | exact rfl) ?_; refine Qi (by (conv => lhs; whnf); first | done | exact rfl) ?_; refine QW ?_; (repeat (first | refine Qo ?_ | refine Qa ?_)); refine Q27 ?_; (repeat (first | refine Q1s ?_ | refine Q1t ?_)); refine Q1y (by (conv => lhs; whnf); first | done | exact rfl) (by (conv => lhs; whnf); first | done | exact rfl) ?_; exact ⟨_, rfl, by simp [opF, *], rfl⟩)
theorem op_s {cx : Cx} {w : World} {L : List Res} {k a b : Int} (hS : St cx w L) : Rets Tryz.prog Qab [.int .i64 k, .int .i64 a, .int .i64 b] w fun v w' => v = .tuple #[.int .i64 (opF k a b).1, .bool (opF k a b).2] ∧ St cx w' L :=
 (op_c k a b w).mono fun _ _ ⟨h1, h2⟩ => ⟨h1, by rw [h2]; exact hS⟩
end Go.Proofs.YteflkifmgnpbhaaGreat
namespace Go.Lir
set_option linter.unusedVariables false
structure Frm where
 f : Nat
 b : Nat
 i : Nat
 vals : List Val
 regs : List Int
structure MS where
 h : HpS
 g : Frm
 st : List Frm
 inp : List Int
 out : List Int
 fuel : Nat
inductive Stp where
 | go (s : MS)
 | halt (e : Int)
 | done (l : List Int)
 | lost
def Q1e {α : Type} (x : Option α) (f : α → Stp) : Stp := match x with
 | none => .lost
 | some a => f a
theorem Qx {α : Type} {x : Option α} {f : α → Stp} (h : x = none) : Q1e x f = .lost := by rw [h]; rfl
theorem Q3 {α : Type} {x : Option α} {f : α → Stp} {a : α} (h : x = some a) : Q1e x f = f a := by rw [h]; rfl
abbrev intV (n : Int) : Val := ⟨1, 0, 0, n⟩
def Frm.val (g : Frm) (k : Int) : Option Val := if k < 0 then none else g.vals[k.toNat]?
def Frm.num (g : Frm) (k : Int) : Option Int := match g.val k with
 | none => none
 | some v => if v.kind = 1 then some v.n else none
def Frm.args (g : Frm) : List Int → Option (List Val)
 | [] => some []
 | k :: l => match g.val k, g.args l with
   | some v, some vs => some (v :: vs)
   | _, _ => none
def Frm.reg (g : Frm) (k : Int) : Option Int := if k < 0 then none else g.regs[k.toNat]?
def Frm.rgs (g : Frm) : List Int → Option (List Int)
 | [] => some []
 | k :: l => match g.reg k, g.rgs l with
   | some v, some vs => some (v :: vs)
   | _, _ => none
def MS.put (s : MS) (vs : List Val) : MS := ⟨s.h, ⟨s.g.f, s.g.b, s.g.i, s.g.vals ++ vs, s.g.regs⟩, s.st, s.inp, s.out, s.fuel⟩
def MS.hp (s : MS) (h : HpS) : MS := ⟨h, s.g, s.st, s.inp, s.out, s.fuel⟩
def MS.fr (s : MS) (g : Frm) : MS := ⟨s.h, g, s.st, s.inp, s.out, s.fuel⟩
def MS.made (s : MS) (e : Int) (h : HpS) (v : Val) : Stp := if e = 14 then .halt 6 else if e ≠ 0 then .lost else .go ((s.hp h).put [v])
def Q3f (v : Val) (e : Int) (k : Stp) : Stp := if v.kind ≠ 4 then .lost else if e = 1 then .halt 2 else if e ≠ 0 then .lost else k
def MS.newR (s : MS) : Stp := if s.h.full = true then .halt 6 else .go ((⟨s.h.open, ⟨s.g.f, s.g.b, s.g.i, s.g.vals, s.g.regs ++ [s.h.openV.region]⟩, s.st, s.inp, s.out, s.fuel⟩ : MS).put [s.h.openV])
def MS.inS (s : MS) : Stp := match s.inp with
 | [] => .halt 4
 | n :: r => .go ((⟨s.h, s.g, s.st, r, s.out, s.fuel⟩ : MS).put [intV n])
def MS.outS (s : MS) (n : Int) : Stp := if s.out.length = 2000 then .halt 8 else .go ⟨s.h, s.g, s.st, s.inp, s.out ++ [n], s.fuel⟩
def MS.call (m : Module) (s : MS) (x : Ins) : Stp := match m.funcs[x.k.toNat]? with
 | none => .lost
 | some g => Q1e (s.g.rgs x.regs) fun rs => Q1e (s.g.args x.args) fun vs =>
   if (rs.length : Int) ≠ g.regs ∨ vs.length ≠ g.params.length then .lost else if s.st.length + 1 = 40 then .halt 5 else .go ⟨s.h, ⟨x.k.toNat, 0, 0, vs, rs⟩, s.g :: s.st, s.inp, s.out, s.fuel⟩
def MS.ins (m : Module) (s : MS) (x : Ins) : Stp :=
 if x.op = 1 then .go (s.put [intV x.n])
 else if x.op = 2 then Q1e (s.g.num x.a) fun a => Q1e (s.g.num x.b) fun b => if (opF x.k a b).2 = false then .halt 1 else .go (s.put [intV (opF x.k a b).1])
 else if x.op = 3 then s.newR
 else if x.op = 4 then Q1e (s.g.val x.a) fun v => if s.h.can v = false then .lost else .go (s.hp (s.h.shut v))
 else if x.op = 5 then Q1e (s.g.val x.a) fun v => Q1e (s.g.args x.args) fun l => s.made (s.h.code v (Q1U l)) (s.h.tuple v l) (s.h.putV v 3 (Q1U l))
 else if x.op = 6 then Q1e (s.g.val x.a) fun v => if v.kind ≠ 3 then .lost else if (s.h.get v x.k).2 ≠ 0 then .lost else .go (s.put [(s.h.get v x.k).1])
 else if x.op = 7 then Q1e (s.g.val x.a) fun v => if v.kind ≠ 3 then .lost else Q1e (s.g.val x.b) fun y => if s.h.setC v x.k y ≠ 0 then .lost else .go (s.hp (s.h.set v x.k y))
 else if x.op = 8 then Q1e (s.g.val x.a) fun v => Q1e (s.g.num x.b) fun n => if n < 0 ∨ 15 < n then .halt 3 else s.made (s.h.arrC v n) (s.h.arr v n) (s.h.arrV v n)
 else if x.op = 9 then Q1e (s.g.val x.a) fun v => Q1e (s.g.num x.b) fun n => Q3f v (s.h.get v n).2 (.go (s.put [(s.h.get v n).1]))
 else if x.op = 10 then Q1e (s.g.val x.a) fun v => Q1e (s.g.num x.b) fun n => Q1e (s.g.num x.c) fun c => Q3f v (s.h.setC v n (intV c)) (.go (s.hp (s.h.set v n (intV c))))
 else if x.op = 11 then Q1e (s.g.val x.a) fun v => Q3f v (s.h.len v).2 (.go (s.put [intV (s.h.len v).1]))
 else if x.op = 12 then s.inS
 else if x.op = 13 then Q1e (s.g.num x.a) fun n => s.outS n
 else s.call m x
def MS.to (f : Fun) (s : MS) (t : To) : Stp := match f.blocks[t.block.toNat]? with
 | none => .lost
 | some b => Q1e (s.g.rgs t.regs) fun rs => Q1e (s.g.args t.args) fun vs =>
   if (rs.length : Int) ≠ b.regs ∨ vs.length ≠ b.params.length then .lost else .go (s.fr ⟨s.g.f, t.block.toNat, 0, vs, rs⟩)
def intsV : List Val → Option (List Int)
 | [] => some []
 | v :: l => match intsV l with
   | none => none
   | some ns => if v.kind = 1 then some (v.n :: ns) else none
def MS.ret (f : Fun) (s : MS) (e : Tail) : Stp := Q1e (s.g.args e.args) fun vs => if vs.length ≠ f.results.length then .lost else match s.st with
 | c :: st => .go ((⟨s.h, c, st, s.inp, s.out, s.fuel⟩ : MS).put vs)
 | [] => match intsV vs with
   | none => .lost
   | some ns => .done ns
def MS.fin (f : Fun) (s : MS) (e : Tail) : Stp :=
 if e.op = 1 then s.to f e.yes
 else if e.op = 2 then Q1e (s.g.num e.a) fun n => if n ≠ 0 then s.to f e.yes else s.to f e.no
 else s.ret f e
def MS.next (s : MS) : MS := s.fr ⟨s.g.f, s.g.b, s.g.i + 1, s.g.vals, s.g.regs⟩
def MS.one (m : Module) (s : MS) : Stp := match m.funcs[s.g.f]? with
 | none => .lost
 | some f => match f.blocks[s.g.b]? with
   | none => .lost
   | some b => match b.code[s.g.i]? with
     | some x => s.next.ins m x
     | none => s.fin f b.fin
def MS.place (m : Module) (s : MS) : Int := match m.funcs[s.g.f]? with
 | none => 0
 | some f => match f.blocks[s.g.b]? with
   | none => 0
   | some b => if s.g.i < b.code.length then Q4Y s.g.f s.g.b s.g.i else Q5o s.g.f s.g.b
def MS.tick (s : MS) : MS := ⟨s.h, s.g, s.st, s.inp, s.out, s.fuel + 1⟩
inductive Run where
 | on (s : MS)
 | over (s : MS) (e : Int) (back : List Int)
 | stuck (f : Flt)
def Run.of (m : Module) (s : MS) : Stp → Run
 | .go s' => .on s'
 | .halt e => .over s.tick e []
 | .done l => .over s.tick 0 l
 | .lost => .stuck (20, s.place m)
def Run.step (m : Module) (most : Nat) : Run → Run
 | .on s => if s.fuel = most then .over s 7 [] else .of m s (s.tick.one m)
 | r => r
def Run.steps (m : Module) (most : Nat) : Nat → Run → Run
 | 0, r => r
 | k + 1, r => Run.steps m most k (r.step m most)
def MS.start (inp : List Int) (pages : Int) : MS := ⟨⟨[], pages⟩, ⟨0, 0, 0, [], []⟩, [], inp, [], 0⟩
structure Oc where
 e : Int
 back : List Int
 out : List Int
 fuel : Int
def Run.oc : Run → Oc
 | .on s => ⟨0, [], s.out, s.fuel⟩
 | .over s e back => ⟨e, back, s.out, s.fuel⟩
 | .stuck _ => ⟨0, [], [], 0⟩
def Run.flt : Run → Flt
 | .stuck f => f
 | _ => (0, 0)
def Run.all (m : Module) (inp : List Int) (most : Nat) (pages : Int) : Run := Run.steps m most (most + 1) (.on (MS.start inp pages))
end Go.Lir
namespace Go.Proofs.YteflkifmgnpbhaaGreat
open Go.Lir
set_option maxHeartbeats 1000000
attribute [local irreducible] LC.wp Q0 QF QE retQ Q16 LO.wp Qf Calls
set_option linter.unusedSimpArgs false
set_option linter.unusedVariables false
theorem size_c : ∀ (t : Ty) {cx : Cx} {w : World} {L : List Res} {cs : List Value} {left : Int}, tyR.at cx cs t → -1 ≤ left → left ≤ 1000000 → St cx w L →
 Rets Tryz.prog QaV [.agg ⟨cs⟩, .int .i64 left] w fun v w' => v = .int .i64 (t.size left) ∧ St cx w' L := by
 intro t
 induction t using Ty.ind with
 | h k r l ih =>
   intro cx w L cs left ht h1 h2 hS
   obtain ⟨v, rfl, hl⟩ := QX ht
   simp only [Ty.kind, Ty.r, Ty.l] at hl ht ⊢
   have hlen := hl.len
   rw [Ty.size]
   all_goals refine lgo tyD Tryz.func158 ?_
   all_goals (refine Zaz ?_; intro p2 w1 hS; refine ZaE ?_; refine zsu ?_; refine ZbU ?_)
   refine zoL hS [2] (fun A LL ρ' w' => ∃ (j : Nat) (n : Int), Has ρ' A ∧ Has ρ' [(1, .int .i64 n), (5, .int .i64 j)] ∧ (j ≤ l.length) ∧ (n ≤ 1000000) ∧ (-2 ≤ n) ∧ (Tys.size l (left - 1) = Tys.size (l.drop j) n) ∧ St cx w' (LL)) (fun ρ' _ => (l.length - iv (ρ' 5)).toNat) ?_ ?_
   · exact ⟨0, left - 1, zh, zh, (by omega), (by omega), (by omega), by simp, hS.sp⟩
   rintro ρ w1 ⟨j, n, hA, hρ, hj, hn, hn1, hd, hS⟩; obtain ⟨ρ, rfl⟩ := env2 hA hρ
   all_goals (refine ZaA ?_; refine zf0 ?_; refine zl hS ?_; refine zL ?_)
   all_goals (first | (refine Q1c ?_) | (refine Q1l ?_) | (refine QB rfl rfl (fun hc => ?_) (fun hc => ?_)))
   all_goals (refine zm ?_; (first | refine zgn ?_ | (refine Zam ?_)))
   all_goals (first | refine zgn ?_ | (refine zgy ?_; (first | (refine Q2l ?_) | (refine Q2U ?_) | (refine Q1M rfl rfl (fun hc => ?_) (fun hc => ?_)))))
   all_goals (refine Zaf ?_)
   all_goals
    first
    | (refine zcf ?_
       all_goals (refine zex ?_; refine Zbt ?_)
       all_goals (refine ⟨_, rfl, ?_, hS.sp⟩; (rw [hd]; congr 1; first | (rw [Tys.size_neg _ (by omega)]; done) | (rw [List.drop_of_length_le (by omega), Tys.size]; done)); done))
    | (refine zct ?_
       all_goals (refine ZaJ ?_; refine Qn ?_; refine zf0 ?_; refine zl hS ?_; refine zm ?_; refine zi ?_; intro b1 o1 cs1 x1 hat1 hx1 he1; obtain ⟨vl1, rfl, hl1⟩ := QX he1; refine ZbQ ?_; refine zR2 (c := ih _ (List.mem_of_getElem? (by assumption)) (by assumption) (by omega) (by omega) hS) (h := ?_); rintro v1 w1 ⟨rfl, hS⟩; refine Zac ?_; refine Zak ?_; refine zad ?_; refine Zac ?_)
       all_goals (exact ⟨⟨j + 1, _, zh, zh, (by omega), by have := Ty.size_rng x1 (left := n) (by omega); omega, by have := Ty.size_rng x1 (left := n) (by omega); omega, by rw [hd, Q2 hx1, Tys.size, if_pos (by omega)], hS.sp⟩, Qu (by omega)⟩))
theorem great_c {t : Ty} {cx : Cx} {w : World} {L : List Res} {cs : List Value} (ht : tyR.at cx cs t) (hS : St cx w L) :
 Rets Tryz.prog Q9p [.agg ⟨cs⟩] w fun v w' => v = .bool t.great ∧ St cx w' L := by
 obtain ⟨v, rfl, hl⟩ := QX ht
 all_goals refine lgo tyD Tryz.func101 ?_
 all_goals (refine Zaz ?_; intro p1 w1 hS; refine ZbB ?_; refine zv hS ?_; refine zR2 (c := size_c t ht (by omega) (by omega) hS) (h := ?_); rintro v1 w1 ⟨rfl, hS⟩; refine Q5W rfl rfl ?_; refine Zah ?_; refine ⟨_, rfl, ?_, hS.sp⟩; (rfl); done)
theorem Q42 {l : List Ty} {cx : Cx} {w : World} {L : List Res} {v : Value} (hl : tyR.sl cx v l) (hS : St cx w L) :
 Rets Tryz.prog Q8o [v] w fun u w' => u = .bool (Tys.great l) ∧ St cx w' L := by
 have hlen := hl.len
 unfold Tys.great
 all_goals refine lgo tyD Tryz.func58 ?_
 all_goals (refine Zbk ?_; refine zL ?_)
 all_goals (first | (refine QG ?_) | (refine QL ?_) | (refine Qc rfl rfl (fun hc => ?_) (fun hc => ?_)))
 all_goals (refine zn ?_)
 all_goals
  first
  | (refine zct ?_
     all_goals (refine Zaq ?_)
     all_goals (refine ⟨_, rfl, ?_, hS.sp⟩; rw [decide_eq_true (by omega), Bool.true_or]; done))
  | (refine zcf ?_
     all_goals refine zsk ?_)
 all_goals (refine Zbr ?_)
 refine zoL hS [0] (fun A LL ρ' w' => ∃ (j : Nat), Has ρ' A ∧ Has ρ' [(3, .int .i64 j)] ∧ (j ≤ l.length) ∧ (l.any Ty.great = (l.drop j).any Ty.great) ∧ St cx w' (LL)) (fun ρ' _ => (l.length - iv (ρ' 3)).toNat) ?_ ?_
 · exact ⟨0, zh, zh, (by omega), by simp, hS.sp⟩
 rintro ρ w1 ⟨j, hA, hρ, hj, hd, hS⟩; obtain ⟨ρ, rfl⟩ := env2 hA hρ
 all_goals (refine ZbK ?_; refine zL ?_; refine Zau ?_)
 refine Qt rfl (fun hc => ?_) (fun hc => ?_)
 · skip
   all_goals (refine ZaJ ?_; refine Zby ?_; refine zi ?_; intro b1 o1 cs1 x1 hat1 hx1 he1; obtain ⟨vl1, rfl, hl1⟩ := QX he1; (first | (refine zv hS ?_) | (refine zvk hS ?_)))
   all_goals (refine zR1 (c := great_c (by assumption) hS) (h := ?_); rintro v1 w1 ⟨rfl, hS⟩; cases hg : x1.great)
   all_goals (refine zn ?_)
   all_goals
    first
    | (refine zct ?_
       all_goals (refine Zaq ?_)
       all_goals (first | (refine ⟨_, rfl, ?_, hS.sp⟩; rw [decide_eq_true (by omega), Bool.true_or]; done) | (refine ⟨_, rfl, ?_, hS.sp⟩; rw [decide_eq_false (by omega), hd, Bool.false_or, Q2 hx1, List.any_cons, hg, Bool.true_or]; done)))
    | (refine zcf ?_
       all_goals refine zsk ?_)
   all_goals (refine Zak ?_; refine zad ?_; refine Zac ?_; exact ⟨⟨j + 1, zh, zh, (by omega), by rw [hd, Q2 hx1, List.any_cons, hg, Bool.false_or], hS.sp⟩, Qu (by omega)⟩)
 · skip
   all_goals (refine ZbC ?_; (first | (refine ⟨_, rfl, ?_, hS.sp⟩; rw [decide_eq_true (by omega), Bool.true_or]; done) | (refine ⟨_, rfl, ?_, hS.sp⟩; rw [decide_eq_false (by omega), hd, Bool.false_or, Q2 hx1, List.any_cons, hg, Bool.true_or]; done) | (refine ⟨_, rfl, ?_, hS.sp⟩; rw [decide_eq_false (by omega), hd, Bool.false_or, List.drop_of_length_le (by omega)]; rfl; done)))
theorem deep_c : ∀ (t : Ty) {cx : Cx} {w : World} {L : List Res} {cs : List Value} {left : Int}, tyR.at cx cs t → left ≤ 1000000 → St cx w L →
 Rets Tryz.prog Qaf [.agg ⟨cs⟩, .int .i64 left] w fun v w' => v = .bool (t.deepB left) ∧ St cx w' L := by
 intro t
 induction t using Ty.ind with
 | h k r l ih =>
   intro cx w L cs left ht h1 hS
   obtain ⟨v, rfl, hl⟩ := QX ht
   simp only [Ty.kind, Ty.r, Ty.l] at hl ht ⊢
   have hlen := hl.len
   rw [Ty.deepB]
   all_goals refine lgo tyD Tryz.func211 ?_
   all_goals (refine Zaz ?_; intro p2 w1 hS; refine ZaG ?_)
   all_goals (first | (refine Q1c ?_) | (refine Q1l ?_) | (refine QB rfl rfl (fun hc => ?_) (fun hc => ?_)))
   all_goals (refine zn ?_)
   all_goals
    first
    | (refine zct ?_
       all_goals (refine Zaq ?_)
       all_goals (refine ⟨_, rfl, ?_, hS.sp⟩; rw [if_pos (by omega)]; done))
    | (refine zcf ?_
       all_goals refine zsk ?_)
   all_goals (refine Zav ?_; refine zf0 ?_; refine zl hS ?_; refine zL ?_; refine ZaC ?_)
   refine zoL hS [1, 10, 11] (fun A LL ρ' w' => ∃ (j : Nat), Has ρ' A ∧ Has ρ' [(12, .int .i64 j)] ∧ (j ≤ l.length) ∧ (Tys.deepB l (left - 1) = Tys.deepB (l.drop j) (left - 1)) ∧ St cx w' (LL)) (fun ρ' _ => (l.length - iv (ρ' 12)).toNat) ?_ ?_
   · exact ⟨0, zh, zh, (by omega), by simp, hS.sp⟩
   rintro ρ w1 ⟨j, hA, hρ, hj, hd, hS⟩; obtain ⟨ρ, rfl⟩ := env2 hA hρ
   all_goals (refine ZbH ?_)
   refine Qt rfl (fun hc => ?_) (fun hc => ?_)
   · skip
     all_goals (refine Zbn ?_; refine zi ?_; intro b1 o1 cs1 x1 hat1 hx1 he1; obtain ⟨vl1, rfl, hl1⟩ := QX he1; refine Zas ?_; intro p6 w1 hS; refine zsn hS ?_; intro w1 hS; have hS := hS.ns; refine ZaS ?_; refine zv hS ?_; refine zm ?_; refine zsu ?_)
     all_goals (refine zR2 (c := ih _ (List.mem_of_getElem? (by assumption)) (by assumption) (by omega) hS) (h := ?_); rintro v1 w1 ⟨rfl, hS⟩; cases hg : x1.deepB (left - 1))
     all_goals (refine Zba ?_)
     all_goals
      first
      | (refine zcf ?_
         all_goals refine zsk ?_)
      | (refine zct ?_
         all_goals (refine Zaq ?_)
         all_goals (first | (refine ⟨_, rfl, ?_, hS.sp⟩; rw [if_pos (by omega)]; done) | (refine ⟨_, rfl, ?_, hS.sp⟩; rw [if_neg (by omega), hd, Q2 hx1, Tys.deepB, hg, Bool.false_and]; done)))
     all_goals (refine Qn ?_; refine zad ?_; refine Zac ?_; exact ⟨⟨j + 1, zh, zh, (by omega), by rw [hd, Q2 hx1, Tys.deepB, hg, Bool.true_and], hS.sp⟩, Qu (by omega)⟩)
   · skip
     all_goals (refine ZbC ?_; (first | (refine ⟨_, rfl, ?_, hS.sp⟩; rw [if_pos (by omega)]; done) | (refine ⟨_, rfl, ?_, hS.sp⟩; rw [if_neg (by omega), hd, Q2 hx1, Tys.deepB, hg, Bool.false_and]; done) | (refine ⟨_, rfl, ?_, hS.sp⟩; rw [if_neg (by omega), hd, List.drop_of_length_le (by omega), Tys.deepB]; done)))
theorem wrong_c : ∀ (t : Ty) {cx : Cx} {w : World} {L : List Res} {cs : List Value} {regs : Int}, tyR.at cx cs t → St cx w L →
 Rets Tryz.prog Q8F [.agg ⟨cs⟩, .int .i64 regs] w fun v w' => v = .int .i64 (t.wrong 8 regs) ∧ St cx w' L := by
 intro t
 induction t using Ty.ind with
 | h k r l ih =>
   intro cx w L cs regs ht hS
   obtain ⟨v, rfl, hl⟩ := QX ht
   simp only [Ty.kind, Ty.r, Ty.l] at hl ht ⊢
   have hlen := hl.len
   rw [Ty.wrong]
   all_goals refine lgo tyD Tryz.func212 ?_
   all_goals (refine Zaz ?_; intro p2 w1 hS; refine Zac ?_)
   refine zML hS [1, 2] (fun A LL ρ' w' => Has ρ' A ∧ Has ρ' [] ∧ (1 ≤ k ∧ k ≤ 4 ∧ k ≠ 1 ∧ (k ≠ 3 → l.length = 0) ∧ l.length ≤ 8) ∧ St cx w' (LL)) ?_ ?_
   · skip
     all_goals (refine Zaa ?_; refine zf0 ?_; refine zl hS ?_; refine ZbF ?_; refine Zaa ?_)
     all_goals (first | (refine Qd ?_) | (refine Qh ?_) | (refine Q6 rfl rfl (fun hc => ?_) (fun hc => ?_)))
     all_goals (refine Zac ?_)
     all_goals
      first
      | (refine zct ?_
         all_goals (refine Zav ?_; refine zf0 ?_; refine zl hS ?_)
         all_goals (first | (refine QC ?_) | (refine QJ ?_) | (refine Qj rfl rfl (fun hc => ?_) (fun hc => ?_)))
         all_goals (refine zm ?_; (first | refine zgn ?_ | (refine zgy ?_; refine zf0 ?_)); (first | refine zgn ?_ | (refine zgy ?_; refine zl hS ?_)); (first | refine zgn ?_ | (refine zgy ?_; refine zL ?_)))
         all_goals (first | refine zgn ?_ | (refine zgy ?_; (first | (refine QG ?_) | (refine QL ?_) | (refine Qc rfl rfl (fun hc => ?_) (fun hc => ?_)))))
         all_goals (refine Zaf ?_)
         all_goals
          first
          | (refine zct ?_
             all_goals (refine Zaq ?_)
             all_goals (refine ⟨_, rfl, ?_, hS.sp⟩; (repeat (first | rw [if_pos (by omega)] | rw [if_neg (by omega)])); done))
          | (refine zcf ?_
             all_goals refine zsk ?_)
         all_goals (refine Zaq ?_)
         all_goals (first | (refine ⟨_, rfl, ?_, hS.sp⟩; (repeat (first | rw [if_pos (by omega)] | rw [if_neg (by omega)])); done) | (refine ⟨_, rfl, ?_, hS.sp⟩; ((repeat (first | rw [if_pos (by omega)] | rw [if_neg (by omega)])); rw [hd, Q2 hx1, Tys.wrong, if_pos (by assumption)]); done) | (refine ⟨_, rfl, ?_, hS.sp⟩; ((repeat (first | rw [if_pos (by omega)] | rw [if_neg (by omega)])); rw [List.eq_nil_of_length_eq_zero (l := l) (by omega), Tys.wrong]); done)))
      | (refine zcf ?_
         all_goals (refine Zav ?_)
         all_goals (first | (refine Qd ?_) | (refine Qh ?_) | (refine Q6 rfl rfl (fun hc => ?_) (fun hc => ?_)))
         all_goals (refine Zac ?_)
         all_goals
          first
          | (refine zct ?_
             all_goals refine zsk ?_)
          | (refine zcf ?_
             all_goals (refine Qn ?_)
             all_goals (first | (refine Qd ?_) | (refine Qh ?_) | (refine Q6 rfl rfl (fun hc => ?_) (fun hc => ?_)))
             all_goals (refine zm ?_)
             all_goals refine zn ?_)
         all_goals
          first
          | (refine zct ?_
             all_goals (refine Zaa ?_; refine zf0 ?_; refine zl hS ?_; refine zL ?_)
             all_goals (first | (refine QG ?_) | (refine QL ?_) | (refine Qc rfl rfl (fun hc => ?_) (fun hc => ?_)))
             all_goals (refine zn ?_)
             all_goals
              first
              | (refine zct ?_
                 all_goals (refine Zaq ?_)
                 all_goals (refine ⟨_, rfl, ?_, hS.sp⟩; (repeat (first | rw [if_pos (by omega)] | rw [if_neg (by omega)])); done))
              | (refine zcf ?_
                 all_goals refine zsk ?_))
          | (refine zcf ?_
             all_goals (refine Zaa ?_)
             all_goals (first | (refine Qd ?_) | (refine Qh ?_) | (refine Q6 rfl rfl (fun hc => ?_) (fun hc => ?_)))
             all_goals (refine Zac ?_)
             all_goals
              first
              | (refine zct ?_
                 all_goals (refine Zaa ?_; refine zf0 ?_; refine zl hS ?_; refine zL ?_)
                 all_goals (first | (refine QG ?_) | (refine QL ?_) | (refine Qc rfl rfl (fun hc => ?_) (fun hc => ?_)))
                 all_goals (refine zn ?_)
                 all_goals
                  first
                  | (refine zct ?_
                     all_goals (refine Zaq ?_)
                     all_goals (refine ⟨_, rfl, ?_, hS.sp⟩; (repeat (first | rw [if_pos (by omega)] | rw [if_neg (by omega)])); done))
                  | (refine zcf ?_
                     all_goals refine zsk ?_))
              | (refine zcf ?_
                 all_goals (refine Zaq ?_)
                 all_goals (refine ⟨_, rfl, ?_, hS.sp⟩; (repeat (first | rw [if_pos (by omega)] | rw [if_neg (by omega)])); done))))
     all_goals (exact ⟨zh, zh, by omega, hS.sp⟩)
   rintro ρ w1 ⟨hA, hρ, hk, hS⟩; obtain ⟨ρ, rfl⟩ := env2 hA hρ
   all_goals (refine Zav ?_; refine zf0 ?_; refine zl hS ?_)
   all_goals (first | (refine Q1c ?_) | (refine Q1l ?_) | (refine QB rfl rfl (fun hc => ?_) (fun hc => ?_)))
   all_goals (refine zm ?_; (first | refine zgn ?_ | (refine zgy ?_; refine zf0 ?_)); (first | refine zgn ?_ | (refine zgy ?_; refine zl hS ?_)); (first | refine zgn ?_ | (refine Zam ?_)))
   all_goals (first | refine zgn ?_ | (refine zgy ?_; (first | (refine Q2l ?_) | (refine Q2U ?_) | (refine Q1M rfl rfl (fun hc => ?_) (fun hc => ?_)))))
   all_goals (refine Zaf ?_)
   all_goals
    first
    | (refine zct ?_
       all_goals (refine Zaq ?_)
       all_goals (refine ⟨_, rfl, ?_, hS.sp⟩; (repeat (first | rw [if_pos (by omega)] | rw [if_neg (by omega)])); done))
    | (refine zcf ?_
       all_goals refine zsk ?_)
   all_goals (refine Zav ?_; refine zf0 ?_; refine zl hS ?_; refine zL ?_; refine ZaC ?_)
   refine zoL hS [1, 44, 45] (fun A LL ρ' w' => ∃ (j : Nat), Has ρ' A ∧ Has ρ' [(46, .int .i64 j)] ∧ (j ≤ l.length) ∧ (Tys.wrong 8 l regs = Tys.wrong 8 (l.drop j) regs) ∧ St cx w' (LL)) (fun ρ' _ => (l.length - iv (ρ' 46)).toNat) ?_ ?_
   · exact ⟨0, zh, zh, (by omega), by simp, hS.sp⟩
   rintro ρ w1 ⟨j, hA, hρ, hj, hd, hS⟩; obtain ⟨ρ, rfl⟩ := env2 hA hρ
   all_goals (refine ZbH ?_)
   refine Qt rfl (fun hc => ?_) (fun hc => ?_)
   · skip
     all_goals (refine Zbn ?_; refine zi ?_; intro b1 o1 cs1 x1 hat1 hx1 he1; obtain ⟨vl1, rfl, hl1⟩ := QX he1; refine Zas ?_; intro p6 w1 hS; refine zsn hS ?_; intro w1 hS; have hS := hS.ns; refine ZaS ?_; refine zv hS ?_; refine zm ?_; refine zR2 (c := ih _ (List.mem_of_getElem? (by assumption)) (by assumption) hS) (h := ?_); rintro v1 w1 ⟨rfl, hS⟩; refine ZaE ?_)
     all_goals (first | (refine QC ?_) | (refine QJ ?_) | (refine Qj rfl rfl (fun hc => ?_) (fun hc => ?_)))
     all_goals (refine zn ?_)
     all_goals
      first
      | (refine zct ?_
         all_goals (refine Zbt ?_)
         all_goals (first | (refine ⟨_, rfl, ?_, hS.sp⟩; (repeat (first | rw [if_pos (by omega)] | rw [if_neg (by omega)])); done) | (refine ⟨_, rfl, ?_, hS.sp⟩; ((repeat (first | rw [if_pos (by omega)] | rw [if_neg (by omega)])); rw [hd, Q2 hx1, Tys.wrong, if_pos (by assumption)]); done)))
      | (refine zcf ?_
         all_goals refine zsk ?_)
     all_goals (refine Qn ?_; refine zad ?_; refine Zac ?_; exact ⟨⟨j + 1, zh, zh, (by omega), by rw [hd, Q2 hx1, Tys.wrong, if_neg (by omega)], hS.sp⟩, Qu (by omega)⟩)
   · skip
     all_goals (refine ZbC ?_; (first | (refine ⟨_, rfl, ?_, hS.sp⟩; (repeat (first | rw [if_pos (by omega)] | rw [if_neg (by omega)])); done) | (refine ⟨_, rfl, ?_, hS.sp⟩; ((repeat (first | rw [if_pos (by omega)] | rw [if_neg (by omega)])); rw [hd, Q2 hx1, Tys.wrong, if_pos (by assumption)]); done) | (refine ⟨_, rfl, ?_, hS.sp⟩; ((repeat (first | rw [if_pos (by omega)] | rw [if_neg (by omega)])); rw [List.eq_nil_of_length_eq_zero (l := l) (by omega), Tys.wrong]); done) | (refine ⟨_, rfl, ?_, hS.sp⟩; ((repeat (first | rw [if_pos (by omega)] | rw [if_neg (by omega)])); rw [hd, List.drop_of_length_le (by omega), Tys.wrong]); done)))
theorem tcheck_c {t : Ty} {cx : Cx} {w : World} {L : List Res} {cs : List Value} {regs : Int} (ht : tyR.at cx cs t) (hS : St cx w L) :
 Rets Tryz.prog Q8G [.agg ⟨cs⟩, .int .i64 regs] w fun v w' => v = .int .i64 (t.fault regs) ∧ St cx w' L := by
 obtain ⟨v, rfl, hl⟩ := QX ht
 unfold Ty.fault
 all_goals refine lgo tyD Tryz.func159 ?_
 all_goals (refine Zaz ?_; intro p2 w1 hS; refine ZaT ?_; refine zv hS ?_)
 all_goals (refine zR2 (c := deep_c t ht (by omega) hS) (h := ?_); rintro v1 w1 ⟨rfl, hS⟩; cases hg : t.deepB 4)
 all_goals (refine Zba ?_)
 all_goals
  first
  | (refine zct ?_
     all_goals (refine Zaq ?_)
     all_goals (refine ⟨_, rfl, ?_, hS.sp⟩; (rfl); done))
  | (refine zcf ?_
     all_goals refine zsk ?_)
 all_goals (refine Zaa ?_; refine zv hS ?_; refine zm ?_; refine zR2 (c := wrong_c t ht hS) (h := ?_); rintro v1 w1 ⟨rfl, hS⟩; refine Zah ?_; refine ⟨_, rfl, ?_, hS.sp⟩; (rfl); done)
theorem depth_c : ∀ (t : Ty) {cx : Cx} {w : World} {L : List Res} {cs : List Value} {most : Int}, tyR.at cx cs t → 0 ≤ most → most ≤ 1000 → St cx w L →
 Rets Tryz.prog R_DeepOf [.agg ⟨cs⟩, .int .i64 most] w fun v w' => v = .int .i64 (t.depth most) ∧ St cx w' L := by
 intro t
 induction t using Ty.ind with
 | h k r l ih =>
   intro cx w L cs most ht h0 h1 hS
   obtain ⟨v, rfl, hl⟩ := QX ht
   simp only [Ty.kind, Ty.r, Ty.l] at hl ht ⊢
   have hlen := hl.len
   rw [Ty.depth]
   all_goals refine lgo tyD Tryz.func152 ?_
   all_goals (refine Zaz ?_; intro p2 w1 hS; refine ZbB ?_; refine ZbU ?_)
   refine zoL hS [1, 2] (fun A LL ρ' w' => ∃ (j : Nat) (n : Int), Has ρ' A ∧ Has ρ' [(5, .int .i64 n), (6, .int .i64 j)] ∧ (j ≤ l.length) ∧ (0 ≤ n) ∧ (n ≤ 1002) ∧ (Tys.depth l most 0 = Tys.depth (l.drop j) most n) ∧ St cx w' (LL)) (fun ρ' _ => (l.length - iv (ρ' 6)).toNat) ?_ ?_
   · exact ⟨0, 0, zh, zh, (by omega), (by omega), (by omega), by simp, hS.sp⟩
   rintro ρ w1 ⟨j, n, hA, hρ, hj, hn0, hn, hd, hS⟩; obtain ⟨ρ, rfl⟩ := env2 hA hρ
   all_goals (refine ZaA ?_; refine zf0 ?_; refine zl hS ?_; refine zL ?_)
   all_goals (first | (refine Q1c ?_) | (refine Q1l ?_) | (refine QB rfl rfl (fun hc => ?_) (fun hc => ?_)))
   all_goals (refine zm ?_; (first | refine zgn ?_ | (refine Zam ?_)); (first | refine zgn ?_ | (refine Zam ?_)))
   all_goals (first | refine zgn ?_ | (refine zgy ?_; (first | (refine zleqt ?_) | (refine zleqf ?_) | (refine Qbv rfl rfl (fun hc => ?_) (fun hc => ?_)))))
   all_goals (refine Zaf ?_)
   all_goals
    first
    | (refine zcf ?_
       all_goals (refine zex ?_; refine Zbt ?_)
       all_goals (first | (refine ⟨_, rfl, ?_, hS.sp⟩; rw [hd]; cases hx : l.drop j with | nil => exact absurd (List.drop_eq_nil_iff.1 hx) (by omega) | cons y m => rw [Tys.depth, if_pos (by omega), if_pos (by omega)]; done) | (refine ⟨_, rfl, ?_, hS.sp⟩; rw [hd, List.drop_of_length_le (by omega), Tys.depth]; done) | (refine ⟨_, rfl, ?_, hS.sp⟩; rw [hd]; cases hx : l.drop j with | nil => rw [Tys.depth] | cons y m => rw [Tys.depth, if_neg (by omega)]; done)))
    | (refine zct ?_
       all_goals (refine ZaJ ?_; refine ZaA ?_)
       all_goals (first | (refine Qd ?_) | (refine Qh ?_) | (refine Q6 rfl rfl (fun hc => ?_) (fun hc => ?_)))
       all_goals (refine zn ?_)
       all_goals
        first
        | (refine zct ?_
           all_goals (refine Zaq ?_)
           all_goals (refine ⟨_, rfl, ?_, hS.sp⟩; rw [hd]; cases hx : l.drop j with | nil => exact absurd (List.drop_eq_nil_iff.1 hx) (by omega) | cons y m => rw [Tys.depth, if_pos (by omega), if_pos (by omega)]; done))
        | (refine zcf ?_
           all_goals refine zsk ?_)
       all_goals (refine Zaa ?_; refine zf0 ?_; refine zl hS ?_; refine zm ?_; refine zi ?_; intro b1 o1 cs1 x1 hat1 hx1 he1; obtain ⟨vl1, rfl, hl1⟩ := QX he1; refine ZbQ ?_; refine zsu ?_; have hb := Ty.depth_rng x1 (most := most - 1) (by omega); refine zR2 (c := ih _ (List.mem_of_getElem? (by assumption)) (by assumption) (by omega) (by omega) hS) (h := ?_); rintro v1 w1 ⟨rfl, hS⟩; refine zad ?_; refine ZaE ?_; refine zm ?_)
       all_goals (first | (refine QG ?_) | (refine QL ?_) | (refine Qc rfl rfl (fun hc => ?_) (fun hc => ?_)))
       all_goals (refine zn ?_)
       all_goals
        first
        | (refine zct ?_
           all_goals (refine ZbX ?_)
           all_goals refine zn ?_)
        | (refine zcf ?_
           all_goals refine zsk ?_)
       all_goals (refine Zak ?_; refine zad ?_; refine Zac ?_)
       all_goals (first | (exact ⟨⟨j + 1, _, zh, zh, (by omega), (by omega), (by omega), by rw [hd, Q2 hx1, Tys.depth, if_pos (by omega), if_neg (by omega), if_pos (by omega)], hS.sp⟩, Qu (by omega)⟩) | (exact ⟨⟨j + 1, _, zh, zh, (by omega), (by omega), (by omega), by rw [hd, Q2 hx1, Tys.depth, if_pos (by omega), if_neg (by omega), if_neg (by omega)], hS.sp⟩, Qu (by omega)⟩)))
theorem rwrong_c : ∀ (t : Ty) {cx : Cx} {w : World} {L : List Res} {cs : List Value} {regs : Int}, tyR.at cx cs t → St cx w L →
 Rets Tryz.prog Q9k [.agg ⟨cs⟩, .int .i64 regs] w fun v w' => v = .int .i64 (t.wrong 8 regs) ∧ St cx w' L := by
 intro t
 induction t using Ty.ind with
 | h k r l ih =>
   intro cx w L cs regs ht hS
   obtain ⟨v, rfl, hl⟩ := QX ht
   simp only [Ty.kind, Ty.r, Ty.l] at hl ht ⊢
   have hlen := hl.len
   rw [Ty.wrong]
   all_goals refine lgo tyD Tryz.func167 ?_
   all_goals (refine Zaz ?_; intro p2 w1 hS; refine ZaT ?_; refine zf0 ?_; refine zl hS ?_)
   all_goals (first | (refine Q1c ?_) | (refine Q1l ?_) | (refine QB rfl rfl (fun hc => ?_) (fun hc => ?_)))
   all_goals (refine zm ?_; (first | refine zgn ?_ | (refine zgy ?_; refine zf0 ?_)); (first | refine zgn ?_ | (refine zgy ?_; refine zl hS ?_)))
   all_goals (first | refine zgn ?_ | (refine zgy ?_; (first | (refine QG ?_) | (refine QL ?_) | (refine Qc rfl rfl (fun hc => ?_) (fun hc => ?_)))))
   all_goals (refine Zaf ?_)
   all_goals
    first
    | (refine zct ?_
       all_goals (refine Zaq ?_)
       all_goals (refine ⟨_, rfl, ?_, hS.sp⟩; (repeat (first | rw [if_pos (by omega)] | rw [if_neg (by omega)])); done))
    | (refine zcf ?_
       all_goals refine zsk ?_)
   refine zML hS [1, 2] (fun A LL ρ' w' => Has ρ' A ∧ Has ρ' [] ∧ (1 ≤ k ∧ k ≤ 4 ∧ (k = 1 → r = 0) ∧ (k ≠ 3 → l.length = 0)) ∧ St cx w' (LL)) ?_ ?_
   · skip
     all_goals (refine Zaa ?_; refine zf0 ?_; refine zl hS ?_)
     all_goals (first | (refine Qd ?_) | (refine Qh ?_) | (refine Q6 rfl rfl (fun hc => ?_) (fun hc => ?_)))
     all_goals (refine zm ?_; (first | refine zgn ?_ | (refine zgy ?_; refine zf0 ?_)); (first | refine zgn ?_ | (refine zgy ?_; refine zl hS ?_)))
     all_goals (first | refine zgn ?_ | (refine zgy ?_; (first | (refine QC ?_) | (refine QJ ?_) | (refine Qj rfl rfl (fun hc => ?_) (fun hc => ?_)))))
     all_goals (refine Zai ?_; (first | refine zgn ?_ | (refine zgy ?_; refine zf0 ?_)); (first | refine zgn ?_ | (refine zgy ?_; refine zl hS ?_)))
     all_goals (first | refine zgn ?_ | (refine zgy ?_; (first | (refine QC ?_) | (refine QJ ?_) | (refine Qj rfl rfl (fun hc => ?_) (fun hc => ?_)))))
     all_goals ((first | refine zgn ?_ | (refine Zam ?_)); (first | refine zgn ?_ | (refine zgy ?_; refine zf0 ?_)); (first | refine zgn ?_ | (refine zgy ?_; refine zl hS ?_)); (first | refine zgn ?_ | (refine zgy ?_; refine zL ?_)))
     all_goals (first | refine zgn ?_ | (refine zgy ?_; (first | (refine QG ?_) | (refine QL ?_) | (refine Qc rfl rfl (fun hc => ?_) (fun hc => ?_)))))
     all_goals ((first | refine zgn ?_ | (refine ZaB ?_)); refine Zaf ?_)
     all_goals
      first
      | (refine zct ?_
         all_goals (refine Zaq ?_)
         all_goals (refine ⟨_, rfl, ?_, hS.sp⟩; (repeat (first | rw [if_pos (by omega)] | rw [if_neg (by omega)])); done))
      | (refine zcf ?_
         all_goals refine zsk ?_)
     all_goals (exact ⟨zh, zh, by omega, hS.sp⟩)
   rintro ρ w1 ⟨hA, hρ, hk, hS⟩; obtain ⟨ρ, rfl⟩ := env2 hA hρ
   all_goals (refine Zav ?_; refine zf0 ?_; refine zl hS ?_; refine zL ?_)
   all_goals (first | (refine QG ?_) | (refine QL ?_) | (refine Qc rfl rfl (fun hc => ?_) (fun hc => ?_)))
   all_goals (refine zn ?_)
   all_goals
    first
    | (refine zct ?_
       all_goals (refine Zaq ?_)
       all_goals (refine ⟨_, rfl, ?_, hS.sp⟩; (repeat (first | rw [if_pos (by omega)] | rw [if_neg (by omega)])); done))
    | (refine zcf ?_
       all_goals refine zsk ?_)
   refine zML hS [1, 2] (fun A LL ρ' w' => Has ρ' A ∧ Has ρ' [] ∧ (l.length ≤ 8) ∧ (k ≠ 1 → 0 ≤ r ∧ r < regs) ∧ St cx w' (LL)) ?_ ?_
   · skip
     all_goals (refine Zaa ?_; refine zf0 ?_; refine zl hS ?_)
     all_goals (first | (refine QC ?_) | (refine QJ ?_) | (refine Qj rfl rfl (fun hc => ?_) (fun hc => ?_)))
     all_goals (refine zm ?_; (first | refine zgn ?_ | (refine zgy ?_; refine zf0 ?_)); (first | refine zgn ?_ | (refine zgy ?_; refine zl hS ?_)))
     all_goals (first | refine zgn ?_ | (refine zgy ?_; (first | (refine Q1c ?_) | (refine Q1l ?_) | (refine QB rfl rfl (fun hc => ?_) (fun hc => ?_)))))
     all_goals ((first | refine zgn ?_ | (refine Zam ?_)); (first | refine zgn ?_ | (refine zgy ?_; refine zf0 ?_)); (first | refine zgn ?_ | (refine zgy ?_; refine zl hS ?_)); (first | refine zgn ?_ | (refine Zam ?_)))
     all_goals (first | refine zgn ?_ | (refine zgy ?_; (first | (refine Q2l ?_) | (refine Q2U ?_) | (refine Q1M rfl rfl (fun hc => ?_) (fun hc => ?_)))))
     all_goals ((first | refine zgn ?_ | (refine ZaB ?_)); refine Zaf ?_)
     all_goals
      first
      | (refine zct ?_
         all_goals (refine Zaq ?_)
         all_goals (refine ⟨_, rfl, ?_, hS.sp⟩; (repeat (first | rw [if_pos (by omega)] | rw [if_neg (by omega)])); done))
      | (refine zcf ?_
         all_goals refine zsk ?_)
     all_goals (exact ⟨zh, zh, by omega, by omega, hS.sp⟩)
   rintro ρ w1 ⟨hA, hρ, hk2, hk3, hS⟩; obtain ⟨ρ, rfl⟩ := env2 hA hρ
   all_goals (refine Zbr ?_)
   refine zoL hS [1, 2] (fun A LL ρ' w' => ∃ (j : Nat), Has ρ' A ∧ Has ρ' [(5, .int .i64 j)] ∧ (j ≤ l.length) ∧ (Tys.wrong 8 l regs = Tys.wrong 8 (l.drop j) regs) ∧ St cx w' (LL)) (fun ρ' _ => (l.length - iv (ρ' 5)).toNat) ?_ ?_
   · exact ⟨0, zh, zh, (by omega), by simp, hS.sp⟩
   rintro ρ w1 ⟨j, hA, hρ, hj, hd, hS⟩; obtain ⟨ρ, rfl⟩ := env2 hA hρ
   all_goals (refine ZaA ?_; refine zf0 ?_; refine zl hS ?_; refine zL ?_; refine Zau ?_)
   refine Qt rfl (fun hc => ?_) (fun hc => ?_)
   · skip
     all_goals (refine Zbn ?_; refine zf0 ?_; refine zl hS ?_; refine zm ?_; refine zi ?_; intro b1 o1 cs1 x1 hat1 hx1 he1; obtain ⟨vl1, rfl, hl1⟩ := QX he1; refine ZbQ ?_; refine zR2 (c := ih _ (List.mem_of_getElem? (by assumption)) (by assumption) hS) (h := ?_); rintro v1 w1 ⟨rfl, hS⟩; refine ZaE ?_)
     all_goals (first | (refine QC ?_) | (refine QJ ?_) | (refine Qj rfl rfl (fun hc => ?_) (fun hc => ?_)))
     all_goals (refine zn ?_)
     all_goals
      first
      | (refine zct ?_
         all_goals (refine Zbt ?_)
         all_goals (first | (refine ⟨_, rfl, ?_, hS.sp⟩; (repeat (first | rw [if_pos (by omega)] | rw [if_neg (by omega)])); done) | (refine ⟨_, rfl, ?_, hS.sp⟩; ((repeat (first | rw [if_pos (by omega)] | rw [if_neg (by omega)])); rw [hd, Q2 hx1, Tys.wrong, if_pos (by assumption)]); done)))
      | (refine zcf ?_
         all_goals refine zsk ?_)
     all_goals (refine Zak ?_; refine zad ?_; refine Zac ?_; exact ⟨⟨j + 1, zh, zh, (by omega), by rw [hd, Q2 hx1, Tys.wrong, if_neg (by omega)], hS.sp⟩, Qu (by omega)⟩)
   · skip
     all_goals (refine ZbC ?_; (first | (refine ⟨_, rfl, ?_, hS.sp⟩; (repeat (first | rw [if_pos (by omega)] | rw [if_neg (by omega)])); done) | (refine ⟨_, rfl, ?_, hS.sp⟩; ((repeat (first | rw [if_pos (by omega)] | rw [if_neg (by omega)])); rw [hd, Q2 hx1, Tys.wrong, if_pos (by assumption)]); done) | (refine ⟨_, rfl, ?_, hS.sp⟩; ((repeat (first | rw [if_pos (by omega)] | rw [if_neg (by omega)])); rw [hd, List.drop_of_length_le (by omega), Tys.wrong]); done)))
theorem QbJ {t : Ty} {cx : Cx} {w : World} {L : List Res} {cs : List Value} {regs : Int} (ht : tyR.at cx cs t) (hS : St cx w L) :
 Rets Tryz.prog Q9m [.agg ⟨cs⟩, .int .i64 regs] w fun v w' => v = .int .i64 (t.fault regs) ∧ St cx w' L := by
 obtain ⟨v, rfl, hl⟩ := QX ht
 have hdp := Ty.depth_iff t (most := 4) (by omega)
 unfold Ty.fault
 all_goals refine lgo tyD Tryz.func112 ?_
 all_goals (refine Zaz ?_; intro p2 w1 hS; refine ZaT ?_; refine zv hS ?_; refine zR2 (c := depth_c t ht (by omega) (by omega) hS) (h := ?_); rintro v1 w1 ⟨rfl, hS⟩)
 all_goals (first | (refine QG ?_) | (refine QL ?_) | (refine Qc rfl rfl (fun hc => ?_) (fun hc => ?_)))
 all_goals (refine zn ?_)
 all_goals
  first
  | (refine zct ?_
     all_goals (refine Zaq ?_)
     all_goals (refine ⟨_, rfl, ?_, hS.sp⟩; (rw [if_pos]; cases hg : t.deepB 4 <;> simp_all <;> omega); done))
  | (refine zcf ?_
     all_goals refine zsk ?_)
 all_goals (refine Zaa ?_; refine zv hS ?_; refine zm ?_; refine zR2 (c := rwrong_c t ht hS) (h := ?_); rintro v1 w1 ⟨rfl, hS⟩; refine Zah ?_)
 all_goals (first | (refine ⟨_, rfl, ?_, hS.sp⟩; (rw [if_pos]; cases hg : t.deepB 4 <;> simp_all <;> omega); done) | (refine ⟨_, rfl, ?_, hS.sp⟩; (rw [if_neg]; cases hg : t.deepB 4 <;> simp_all <;> omega); done))
end Go.Proofs.YteflkifmgnpbhaaGreat
namespace Go.Proofs.YteflkifmgnpbhaaGreat
open Go.Lir
set_option maxHeartbeats 1000000
attribute [local irreducible] LC.wp Q0 QF QE retQ Q16 LO.wp Qf Calls
set_option linter.unusedSimpArgs false
set_option linter.unusedVariables false
theorem Q9O {l : List Ty} (hlen : l.length ≤ 100000) (ih : ∀ x ∈ l, ∀ {cx : Cx} {w : World} {L : List Res} {cs : List Value}, tyR.at cx cs x → St cx w L → Rets Tryz.prog Q8x [.agg ⟨cs⟩] w fun u w' => ∃ c' ds, u = .agg ⟨ds⟩ ∧ cx.Le c' ∧ tyR.at c' ds x ∧ St c' w' L)
 {cx : Cx} {w : World} {L : List Res} {v : Value} (hl : tyR.sl cx v l) (hS : St cx w L) : Rets Tryz.prog Q76 [v] w fun u w' => ∃ c', cx.Le c' ∧ tyR.sl c' u l ∧ St c' w' L := by
 all_goals refine lgo tyD Tryz.func59 ?_
 all_goals (refine Zaa ?_; refine ZbB ?_; refine ZbU ?_)
 refine zoL hS [0] (fun A LL ρ' w' => ∃ (c1 : Cx) (j : Nat) (u : Value) (css : List (List Value)), Has ρ' A ∧ Has ρ' [(3, u), (4, .int .i64 j)] ∧ (cx.Le c1) ∧ (j ≤ l.length) ∧ (tyR.ls c1 css (l.take j)) ∧ (oneC u = true) ∧ St c1 w' (sl 115 3 u css :: LL)) (fun ρ' _ => (l.length - iv (ρ' 4)).toNat) ?_ ?_
 · exact ⟨cx, 0, .slice none 0 0, [], zh, zh, St.refl hS, (by omega), Rep.LR.nil _ _ _, rfl, by have hS := hS.nil (T := 115) (es := 3); exact hS⟩
 rintro ρ w1 ⟨c1, j, u, css, hA, hρ, hle, hj, hls, hu, hS⟩; obtain ⟨ρ, rfl⟩ := env2 hA hρ; have hl := Rep.SR.up hl hle
 all_goals (refine ZbK ?_; refine zL ?_; refine Zau ?_)
 refine Qt rfl (fun hc => ?_) (fun hc => ?_)
 · skip
   all_goals (refine ZaJ ?_; refine ZbN ?_; refine zi ?_; intro b1 o1 cs1 x1 hat1 hx1 he1; obtain ⟨vl1, rfl, hl1⟩ := QX he1; (first | (refine zv hS ?_) | (refine zvk hS ?_)); refine zR1 (c := ih _ (List.mem_of_getElem? hx1) he1 hS) (h := ?_); rintro v1 w1 ⟨c2, ds, rfl, hle2, hd, hS⟩; obtain ⟨v2, rfl, hv2⟩ := QX hd; have hls := Rep.LR.up hls hle2; refine zB1 hS [_, _, _] ?_; intro b1 w1 hS; refine za el_T86 u_T86 hS ?_; intro vp1 w1 css1 hls1 hv1 hS; have hS := hS.ns; refine Zac ?_; refine Zak ?_; refine zad ?_; refine Zac ?_; exact ⟨⟨c2, j + 1, _, _, zh, zh, hle.trans hle2, (by omega), by rw [Q28 hx1]; assumption, by assumption, hS.sp⟩, Qu (by omega)⟩)
 · skip
   all_goals (refine zex ?_; refine Zbt ?_; obtain ⟨c3, hle3, hS, hl3⟩ := St.freezeL (r := tyR) (l := l) (T := 115) (es := 3) (v := u) (css := css) (L := L) hS.sp (by rw [List.take_of_length_le (by omega)] at hls; exact hls) rfl (by omega); exact ⟨_, rfl, c3, hle.trans hle3, hl3, hS⟩)
theorem rown_c : ∀ (t : Ty), t.Short → ∀ {cx : Cx} {w : World} {L : List Res} {cs : List Value}, tyR.at cx cs t → St cx w L →
 Rets Tryz.prog Q8x [.agg ⟨cs⟩] w fun u w' => ∃ c' ds, u = .agg ⟨ds⟩ ∧ cx.Le c' ∧ tyR.at c' ds t ∧ St c' w' L := by
 intro t
 induction t using Ty.ind with
 | h k r l ih =>
   intro hs cx w L cs ht hS
   obtain ⟨v, rfl, hl⟩ := QX ht
   simp only [Ty.kind, Ty.r, Ty.l] at hl ht ⊢
   obtain ⟨hlen, hsub⟩ := hs.parts
   all_goals refine lgo tyD Tryz.func102 ?_
   all_goals (refine Zaz ?_; intro p1 w1 hS; refine Qg hS ?_; intro p2 w1 hS; refine ZaZ ?_; refine zC [(0, none), (1, none), (2, none), (3, none), (4, none), (5, none), (6, some (some [1, 3])), (7, none), (8, some none)] ?_; have hS := hS.drew; refine s_cq ?_; refine zf0 ?_; refine Zab ?_; refine zl hS ?_; refine Zab ?_; refine zf0 ?_; refine Zab ?_; refine zl hS ?_; refine Zab ?_; refine zf0 ?_; refine Zab ?_; refine zl hS ?_; refine Zar ?_; refine zR1 (c := Q9O hlen (fun x hx => ih x hx (hsub x hx)) hl hS) (h := ?_); rintro v1 w1 ⟨c1, hle, hl1, hS⟩; obtain ⟨a1, n1, rfl⟩ := Rep.SR.shape hl1; refine ZaI ?_; refine zb3 [_, _, _] ?_; refine Zax ?_; refine zsn hS ?_; intro w1 hS; have hS := hS.ns; refine Zaw ?_; refine zr ?_; refine Q19 vw (Q4 (n := 3) (by kernel_rfl) (by kernel_rfl) (hS.blkAt fd) (by rfl) (by rfl)) ?_; exact ⟨_, rfl, c1, _, rfl, hle, Qbe hl1, hS.sp⟩)
theorem Q3A {l : List Ty} (hlen : l.length ≤ 100000) (hs : ∀ x ∈ l, x.Short) {cx : Cx} {w : World} {L : List Res} {v : Value} (hl : tyR.sl cx v l) (hS : St cx w L) : Rets Tryz.prog Q76 [v] w fun u w' => ∃ c', cx.Le c' ∧ tyR.sl c' u l ∧ St c' w' L :=
 Q9O hlen (fun x hx => rown_c x (hs x hx)) hl hS
theorem Q9W {l : List Ty} (hlen : l.length ≤ 100000) (ih : ∀ x ∈ l, ∀ {cx : Cx} {w : World} {L : List Res} {cs : List Value}, tyR.at cx cs x → St cx w L → Rets Tryz.prog Q5y [.agg ⟨cs⟩] w fun u w' => ∃ c' ds, u = .agg ⟨ds⟩ ∧ cx.Le c' ∧ tyR.at c' ds x ∧ St c' w' L)
 {cx : Cx} {w : World} {L : List Res} {v : Value} (hl : tyR.sl cx v l) (hS : St cx w L) : Rets Tryz.prog Q4U [v] w fun u w' => ∃ c', cx.Le c' ∧ tyR.sl c' u l ∧ St c' w' L := by
 all_goals refine lgo tyD Tryz.func109 ?_
 all_goals (refine Zaa ?_; refine Zac ?_; refine Zbk ?_; refine zL ?_; refine ZaC ?_)
 refine zoL hS [6, 7] (fun A LL ρ' w' => ∃ (c1 : Cx) (j : Nat) (u : Value) (css : List (List Value)), Has ρ' A ∧ Has ρ' [(3, u), (8, .int .i64 j)] ∧ (cx.Le c1) ∧ (j ≤ l.length) ∧ (tyR.ls c1 css (l.take j)) ∧ (oneC u = true) ∧ St c1 w' (sl 115 3 u css :: LL)) (fun ρ' _ => (l.length - iv (ρ' 8)).toNat) ?_ ?_
 · exact ⟨cx, 0, .slice none 0 0, [], zh, zh, St.refl hS, (by omega), Rep.LR.nil _ _ _, rfl, by have hS := hS.nil (T := 115) (es := 3); exact hS⟩
 rintro ρ w1 ⟨c1, j, u, css, hA, hρ, hle, hj, hls, hu, hS⟩; obtain ⟨ρ, rfl⟩ := env2 hA hρ; have hl := Rep.SR.up hl hle
 all_goals (refine ZbH ?_)
 refine Qt rfl (fun hc => ?_) (fun hc => ?_)
 · skip
   all_goals (refine Zbn ?_; refine zi ?_; intro b1 o1 cs1 x1 hat1 hx1 he1; obtain ⟨vl1, rfl, hl1⟩ := QX he1; refine Zas ?_; intro p5 w1 hS; refine zsn hS ?_; intro w1 hS; have hS := hS.ns; refine Zbd ?_; refine zv hS ?_; refine zR1 (c := ih _ (List.mem_of_getElem? hx1) he1 hS) (h := ?_); rintro v1 w1 ⟨c2, ds, rfl, hle2, hd, hS⟩; obtain ⟨v2, rfl, hv2⟩ := QX hd; have hls := Rep.LR.up hls hle2; refine zB1 hS [_, _, _] ?_; intro b1 w1 hS; refine za el_T86 u_T86 hS ?_; intro vp1 w1 css1 hls1 hv1 hS; have hS := hS.ns; refine Zac ?_; refine Qn ?_; refine zad ?_; refine Zac ?_; exact ⟨⟨c2, j + 1, _, _, zh, zh, hle.trans hle2, (by omega), by rw [Q28 hx1]; assumption, by assumption, hS.sp⟩, Qu (by omega)⟩)
 · skip
   all_goals (refine zex ?_; refine Zbt ?_; obtain ⟨c3, hle3, hS, hl3⟩ := St.freezeL (r := tyR) (l := l) (T := 115) (es := 3) (v := u) (css := css) (L := L) hS.sp (by rw [List.take_of_length_le (by omega)] at hls; exact hls) rfl (by omega); exact ⟨_, rfl, c3, hle.trans hle3, hl3, hS⟩)
theorem pown_c : ∀ (t : Ty), t.Short → ∀ {cx : Cx} {w : World} {L : List Res} {cs : List Value}, tyR.at cx cs t → St cx w L →
 Rets Tryz.prog Q5y [.agg ⟨cs⟩] w fun u w' => ∃ c' ds, u = .agg ⟨ds⟩ ∧ cx.Le c' ∧ tyR.at c' ds t ∧ St c' w' L := by
 intro t
 induction t using Ty.ind with
 | h k r l ih =>
   intro hs cx w L cs ht hS
   obtain ⟨v, rfl, hl⟩ := QX ht
   simp only [Ty.kind, Ty.r, Ty.l] at hl ht ⊢
   obtain ⟨hlen, hsub⟩ := hs.parts
   all_goals refine lgo tyD Tryz.func166 ?_
   all_goals (refine Zaz ?_; intro p1 w1 hS; refine Qg hS ?_; intro p2 w1 hS; refine ZaS ?_; refine zf0 ?_; refine zl hS ?_; refine zf0 ?_; refine zl hS ?_; refine zb2 [_, _, _] ?_; refine Qg hS ?_; intro p3 w1 hS; refine zsn hS ?_; intro w1 hS; have hS := hS.ns; refine ZaS ?_; refine zf0 ?_; refine zl hS ?_; refine zR1 (c := Q9W hlen (fun x hx => ih x hx (hsub x hx)) hl hS) (h := ?_); rintro v1 w1 ⟨c1, hle, hl1, hS⟩; obtain ⟨a1, n1, rfl⟩ := Rep.SR.shape hl1; refine zf0 ?_; refine zst hS ?_; intro w1 hS; have hS := hS.ns; refine ZaS ?_; refine zv hS ?_; refine zsn hS ?_; intro w1 hS; have hS := hS.ns; refine ZaX ?_; refine Q19 vw (Q4 (n := 3) (by kernel_rfl) (by kernel_rfl) (hS.blkAt fd) (by rfl) (by rfl)) ?_; exact ⟨_, rfl, c1, _, rfl, hle, Qbe hl1, hS.sp⟩)
theorem Q3D {l : List Ty} (hlen : l.length ≤ 100000) (hs : ∀ x ∈ l, x.Short) {cx : Cx} {w : World} {L : List Res} {v : Value} (hl : tyR.sl cx v l) (hS : St cx w L) : Rets Tryz.prog Q4U [v] w fun u w' => ∃ c', cx.Le c' ∧ tyR.sl c' u l ∧ St c' w' L :=
 Q9W hlen (fun x hx => pown_c x (hs x hx)) hl hS
end Go.Proofs.YteflkifmgnpbhaaGreat
namespace Go.Proofs.YteflkifmgnpbhaaGreat
open Go.Lir
set_option maxHeartbeats 1000000
attribute [local irreducible] LC.wp Q0 QF QE retQ Q16 LO.wp Qf Calls
set_option linter.unusedSimpArgs false
set_option linter.unusedVariables false
theorem Q81 {l : List Ty} (ih : ∀ x ∈ l, ∀ (y : Ty) {cx : Cx} {w : World} {L : List Res} {cs ds : List Value}, tyR.at cx cs x → tyR.at cx ds y → St cx w L → Rets Tryz.prog Q75 [.agg ⟨cs⟩, .agg ⟨ds⟩] w fun u w' => u = .bool (decide (x = y)) ∧ St cx w' L)
 {m : List Ty} {cx : Cx} {w : World} {L : List Res} {v v2 : Value} (hl : tyR.sl cx v l) (hm : tyR.sl cx v2 m) (hS : St cx w L) : Rets Tryz.prog Q6y [v, v2] w fun u w' => u = .bool (decide (l = m)) ∧ St cx w' L := by
 have hlen := hl.len
 all_goals refine lgo tyD Tryz.func76 ?_
 all_goals (refine Zbk ?_; refine zL ?_; refine zm ?_; refine zL ?_)
 all_goals (first | (refine QC ?_) | (refine QJ ?_) | (refine Qj rfl rfl (fun hc => ?_) (fun hc => ?_)))
 all_goals (refine zn ?_)
 all_goals
  first
  | (refine zct ?_
     all_goals (refine Zaq ?_)
     all_goals (refine ⟨_, rfl, ?_, hS.sp⟩; rw [decide_eq_false]; exact fun e => absurd (congrArg List.length e) (by omega); done))
  | (refine zcf ?_
     all_goals refine zsk ?_)
 all_goals (refine Zbr ?_)
 refine zoL hS [0, 1] (fun A LL ρ' w' => ∃ (j : Nat), Has ρ' A ∧ Has ρ' [(5, .int .i64 j)] ∧ (j ≤ l.length) ∧ (l.length = m.length) ∧ (l = m ↔ l.drop j = m.drop j) ∧ St cx w' (LL)) (fun ρ' _ => (l.length - iv (ρ' 5)).toNat) ?_ ?_
 · exact ⟨0, zh, zh, (by omega), (by omega), by simp, hS.sp⟩
 rintro ρ w1 ⟨j, hA, hρ, hj, hlm, hd, hS⟩; obtain ⟨ρ, rfl⟩ := env2 hA hρ
 all_goals (refine ZbK ?_; refine zL ?_; refine Zau ?_)
 refine Qt rfl (fun hc => ?_) (fun hc => ?_)
 · skip
   all_goals (refine ZbL ?_; refine zD (ci 10 [8, 9]) ?_; have hS := hS.drew; refine ZaO ?_; refine zi ?_; intro b1 o1 cs1 x1 hat1 hx1 he1; obtain ⟨vl1, rfl, hl1⟩ := QX he1; (first | (refine zv hS ?_) | (refine zvk hS ?_)); refine ZaO ?_; refine zi ?_; intro b2 o2 cs2 x2 hat2 hx2 he2; obtain ⟨vl2, rfl, hl2⟩ := QX he2; (first | (refine zv hS ?_) | (refine zvk hS ?_)))
   all_goals (refine zR2 (c := ih _ (List.mem_of_getElem? hx1) _ he1 he2 hS) (h := ?_); rintro v1 w1 ⟨rfl, hS⟩; (cases hdec : decide (x1 = x2)); have hg := of_decide_eq_false hdec; rotate_left; have hg := of_decide_eq_true hdec; all_goals skip)
   all_goals (refine Zba ?_)
   all_goals
    first
    | (refine zct ?_
       all_goals (refine Zaq ?_)
       all_goals (first | (refine ⟨_, rfl, ?_, hS.sp⟩; rw [decide_eq_false]; exact fun e => absurd (congrArg List.length e) (by omega); done) | (refine ⟨_, rfl, ?_, hS.sp⟩; rw [decide_eq_false]; rw [hd, Q2 hx1, Q2 hx2]; simp [hg]; done)))
    | (refine zcf ?_
       all_goals refine zsk ?_)
   all_goals (refine Zak ?_; refine zad ?_; refine Zac ?_; exact ⟨⟨j + 1, zh, zh, (by omega), (by omega), by rw [hd, Q2 hx1, Q2 hx2, hg]; simp, hS.sp⟩, Qu (by omega)⟩)
 · skip
   all_goals (refine ZbC ?_; (first | (refine ⟨_, rfl, ?_, hS.sp⟩; rw [decide_eq_false]; exact fun e => absurd (congrArg List.length e) (by omega); done) | (refine ⟨_, rfl, ?_, hS.sp⟩; rw [decide_eq_false]; rw [hd, Q2 hx1, Q2 hx2]; simp [hg]; done) | (refine ⟨_, rfl, ?_, hS.sp⟩; rw [decide_eq_true]; rw [hd, List.drop_of_length_le (by omega), List.drop_of_length_le (by omega)]; done)))
theorem rsame_c : ∀ (t u : Ty) {cx : Cx} {w : World} {L : List Res} {cs ds : List Value}, tyR.at cx cs t → tyR.at cx ds u → St cx w L →
 Rets Tryz.prog Q75 [.agg ⟨cs⟩, .agg ⟨ds⟩] w fun v w' => v = .bool (decide (t = u)) ∧ St cx w' L := by
 intro t
 induction t using Ty.ind with
 | h k r l ih =>
   rintro ⟨k2, r2, m⟩ cx w L cs ds ht hu hS
   obtain ⟨v, rfl, hl⟩ := QX ht
   obtain ⟨v2, rfl, hm⟩ := QX hu
   simp only [Ty.kind, Ty.r, Ty.l, Ty.mk.injEq] at hl hm ht hu ⊢
   all_goals refine lgo tyD Tryz.func128 ?_
   all_goals (refine Zaz ?_; intro p2 w1 hS; refine zb hS ?_; intro p3 w1 hS; refine ZbB ?_; refine zf0 ?_; refine zl hS ?_; refine zf0 ?_; refine zl hS ?_)
   all_goals (first | (refine Qd ?_) | (refine Qh ?_) | (refine Q6 rfl rfl (fun hc => ?_) (fun hc => ?_)))
   all_goals (refine zm ?_; (first | refine zgn ?_ | (refine zgy ?_; refine zf0 ?_)); (first | refine zgn ?_ | (refine zgy ?_; refine zl hS ?_)); (first | refine zgn ?_ | (refine zgy ?_; refine zf0 ?_)); (first | refine zgn ?_ | (refine zgy ?_; refine zl hS ?_)))
   all_goals (first | refine zgn ?_ | (refine zgy ?_; (first | (refine Qd ?_) | (refine Qh ?_) | (refine Q6 rfl rfl (fun hc => ?_) (fun hc => ?_)))))
   all_goals (refine Zai ?_; (first | refine zgn ?_ | (refine zgy ?_; refine zf0 ?_)); (first | refine zgn ?_ | (refine zgy ?_; refine zl hS ?_)); (first | refine zgn ?_ | (refine zgy ?_; refine zf0 ?_)); (first | refine zgn ?_ | (refine zgy ?_; refine zl hS ?_)); (first | refine zgn ?_ | (refine zgy ?_; refine zR2 (c := Q81 ih hl hm hS) (h := ?_); rintro v1 w1 ⟨rfl, hS⟩)); refine Zbf ?_; refine ⟨_, rfl, ?_, hS.sp⟩; (simp [*]); done)
theorem Q3Z {l m : List Ty} {cx : Cx} {w : World} {L : List Res} {v v2 : Value} (hl : tyR.sl cx v l) (hm : tyR.sl cx v2 m) (hS : St cx w L) : Rets Tryz.prog Q6y [v, v2] w fun u w' => u = .bool (decide (l = m)) ∧ St cx w' L :=
 Q81 (fun x _ => rsame_c x) hl hm hS
theorem eqfT_c {l : List Ty} {f : FuncId} (hf : Q4j Tryz.prog f = true) {m : List Ty} {cx : Cx} {w : World} {L : List Res} {v v2 : Value}
 (hcall : ∀ x ∈ l, ∀ y ∈ m, ∀ {w : World} {L : List Res} {cs ds : List Value}, tyR.at cx cs x → tyR.at cx ds y → St cx w L → Rets Tryz.prog f [.agg ⟨cs⟩, .agg ⟨ds⟩] w fun u w' => u = .bool (decide (x = y)) ∧ St cx w' L)
 (hl : tyR.sl cx v l) (hm : tyR.sl cx v2 m) (hS : St cx w L) : Rets Tryz.prog Q1o [v, v2, .func (.func f) #[] #[]] w fun u w' => u = .bool (decide (l = m)) ∧ St cx w' L := by
 have hlen := hl.len
 all_goals refine lgo tyD Tryz.func162 ?_
 all_goals (refine Zbk ?_; refine zL ?_; refine zm ?_; refine zL ?_)
 all_goals (first | (refine QC ?_) | (refine QJ ?_) | (refine Qj rfl rfl (fun hc => ?_) (fun hc => ?_)))
 all_goals (refine zn ?_)
 all_goals
  first
  | (refine zct ?_
     all_goals (refine Zaq ?_)
     all_goals (refine ⟨_, rfl, ?_, hS.sp⟩; rw [decide_eq_false]; exact fun e => absurd (congrArg List.length e) (by omega); done))
  | (refine zcf ?_
     all_goals refine zsk ?_)
 all_goals (refine ZaA ?_; refine zL ?_; refine ZaC ?_)
 refine zoL hS [1, 2, 15, 16] (fun A LL ρ' w' => ∃ (j : Nat), Has ρ' A ∧ Has ρ' [(17, .int .i64 j)] ∧ (j ≤ l.length) ∧ (l.length = m.length) ∧ (l = m ↔ l.drop j = m.drop j) ∧ St cx w' (LL)) (fun ρ' _ => (l.length - iv (ρ' 17)).toNat) ?_ ?_
 · exact ⟨0, zh, zh, (by omega), (by omega), by simp, hS.sp⟩
 rintro ρ w1 ⟨j, hA, hρ, hj, hlm, hd, hS⟩; obtain ⟨ρ, rfl⟩ := env2 hA hρ
 all_goals (refine ZbH ?_)
 refine Qt rfl (fun hc => ?_) (fun hc => ?_)
 · skip
   all_goals (refine ZaJ ?_; refine Zad ?_; refine zi ?_; intro b1 o1 cs1 x1 hat1 hx1 he1; obtain ⟨vl1, rfl, hl1⟩ := QX he1; refine Zas ?_; intro p8 w1 hS; refine zm ?_; refine zsn hS ?_; intro w1 hS; have hS := hS.ns; refine Zbi ?_; refine zm ?_; refine zi ?_; intro b2 o2 cs2 x2 hat2 hx2 he2; obtain ⟨vl2, rfl, hl2⟩ := QX he2; refine Zas ?_; intro p9 w1 hS; refine zsn hS ?_; intro w1 hS; have hS := hS.ns; refine Zbi ?_; refine zv hS ?_; refine zv hS ?_)
   all_goals (refine Qbq rfl hf (by rfl) (hcall _ (List.mem_of_getElem? hx1) _ (List.mem_of_getElem? hx2) he1 he2 hS) ?_; rintro v1 w1 ⟨rfl, hS⟩; (cases hdec : decide (x1 = x2)); have hg := of_decide_eq_false hdec; rotate_left; have hg := of_decide_eq_true hdec; all_goals skip)
   all_goals (refine Zba ?_)
   all_goals
    first
    | (refine zct ?_
       all_goals (refine Zaq ?_)
       all_goals (first | (refine ⟨_, rfl, ?_, hS.sp⟩; rw [decide_eq_false]; exact fun e => absurd (congrArg List.length e) (by omega); done) | (refine ⟨_, rfl, ?_, hS.sp⟩; rw [decide_eq_false]; rw [hd, Q2 hx1, Q2 hx2]; simp [hg]; done)))
    | (refine zcf ?_
       all_goals refine zsk ?_)
   all_goals (refine Qn ?_; refine zad ?_; refine Zac ?_; exact ⟨⟨j + 1, zh, zh, (by omega), (by omega), by rw [hd, Q2 hx1, Q2 hx2, hg]; simp, hS.sp⟩, Qu (by omega)⟩)
 · skip
   all_goals (refine ZbC ?_; (first | (refine ⟨_, rfl, ?_, hS.sp⟩; rw [decide_eq_false]; exact fun e => absurd (congrArg List.length e) (by omega); done) | (refine ⟨_, rfl, ?_, hS.sp⟩; rw [decide_eq_false]; rw [hd, Q2 hx1, Q2 hx2]; simp [hg]; done) | (refine ⟨_, rfl, ?_, hS.sp⟩; rw [decide_eq_true]; rw [hd, List.drop_of_length_le (by omega), List.drop_of_length_le (by omega)]; done)))
theorem psame_c : ∀ (t u : Ty) {cx : Cx} {w : World} {L : List Res} {cs ds : List Value}, tyR.at cx cs t → tyR.at cx ds u → St cx w L →
 Rets Tryz.prog Qag [.agg ⟨cs⟩, .agg ⟨ds⟩] w fun v w' => v = .bool (decide (t = u)) ∧ St cx w' L := by
 intro t
 induction t using Ty.ind with
 | h k r l ih =>
   rintro ⟨k2, r2, m⟩ cx w L cs ds ht hu hS
   obtain ⟨v, rfl, hl⟩ := QX ht
   obtain ⟨v2, rfl, hm⟩ := QX hu
   simp only [Ty.kind, Ty.r, Ty.l, Ty.mk.injEq] at hl hm ht hu ⊢
   all_goals refine lgo tyD Tryz.func163 ?_
   all_goals (refine Zaz ?_; intro p2 w1 hS; refine zb hS ?_; intro p3 w1 hS; refine ZbB ?_; refine zf0 ?_; refine zl hS ?_; refine zf0 ?_; refine zl hS ?_)
   all_goals (first | (refine Qd ?_) | (refine Qh ?_) | (refine Q6 rfl rfl (fun hc => ?_) (fun hc => ?_)))
   all_goals (refine zm ?_; (first | refine zgn ?_ | (refine zgy ?_; refine zf0 ?_)); (first | refine zgn ?_ | (refine zgy ?_; refine zl hS ?_)); (first | refine zgn ?_ | (refine zgy ?_; refine zf0 ?_)); (first | refine zgn ?_ | (refine zgy ?_; refine zl hS ?_)))
   all_goals (first | refine zgn ?_ | (refine zgy ?_; (first | (refine Qd ?_) | (refine Qh ?_) | (refine Q6 rfl rfl (fun hc => ?_) (fun hc => ?_)))))
   all_goals (refine Zai ?_; (first | refine zgn ?_ | (refine zgy ?_; refine zf0 ?_)); (first | refine zgn ?_ | (refine zgy ?_; refine zl hS ?_)); (first | refine zgn ?_ | (refine zgy ?_; refine zf0 ?_)); (first | refine zgn ?_ | (refine zgy ?_; refine zl hS ?_)); (first | refine zgn ?_ | (refine zgy ?_; refine zR3 (c := eqfT_c (by kernel_rfl) (fun x hx y _ {_ _ _ _} h1 h2 h3 => ih x hx y h1 h2 h3) hl hm hS) (h := ?_); rintro v1 w1 ⟨rfl, hS⟩)); refine Zbf ?_; refine ⟨_, rfl, ?_, hS.sp⟩; (simp [*]); done)
end Go.Proofs.YteflkifmgnpbhaaGreat
namespace Go.Proofs.YteflkifmgnpbhaaGreat
open Go.Lir
set_option maxHeartbeats 1000000
attribute [local irreducible] LC.wp Q0 QF QE retQ Q16 LO.wp Qf Calls
set_option linter.unusedSimpArgs false
set_option linter.unusedVariables false
theorem Q61 {l m : List Int} {cx : Cx} {w : World} {L : List Res} {v v2 : Value} (hl : intR.sl cx v l) (hm : intR.sl cx v2 m) (hS : St cx w L) : Rets Tryz.prog QaX [v, v2] w fun u w' => u = .bool (decide (l = m)) ∧ St cx w' L := by
 have hlen := hl.len
 all_goals refine lgo tyD Tryz.func131 ?_
 all_goals (refine Zbk ?_; refine zL ?_; refine zm ?_; refine zL ?_)
 all_goals (first | (refine QC ?_) | (refine QJ ?_) | (refine Qj rfl rfl (fun hc => ?_) (fun hc => ?_)))
 all_goals (refine zn ?_)
 all_goals
  first
  | (refine zct ?_
     all_goals (refine Zaq ?_)
     all_goals (refine ⟨_, rfl, ?_, hS.sp⟩; rw [decide_eq_false]; exact fun e => absurd (congrArg List.length e) (by omega); done))
  | (refine zcf ?_
     all_goals refine zsk ?_)
 all_goals (refine Zbr ?_)
 refine zoL hS [0, 1] (fun A LL ρ' w' => ∃ (j : Nat), Has ρ' A ∧ Has ρ' [(5, .int .i64 j)] ∧ (j ≤ l.length) ∧ (l.length = m.length) ∧ (l = m ↔ l.drop j = m.drop j) ∧ St cx w' (LL)) (fun ρ' _ => (l.length - iv (ρ' 5)).toNat) ?_ ?_
 · exact ⟨0, zh, zh, (by omega), (by omega), by simp, hS.sp⟩
 rintro ρ w1 ⟨j, hA, hρ, hj, hlm, hd, hS⟩; obtain ⟨ρ, rfl⟩ := env2 hA hρ
 all_goals (refine ZbK ?_; refine zL ?_; refine Zau ?_)
 refine Qt rfl (fun hc => ?_) (fun hc => ?_)
 · skip
   all_goals (refine ZbL ?_; refine zD (ci 9 [8]) ?_; have hS := hS.drew; refine ZaO ?_; refine zi ?_; intro b1 o1 cs1 x1 hat1 hx1 he1; obtain rfl := Q1z he1; (first | (refine zl hS ?_) | (refine zlk hS ?_)); refine ZaO ?_; refine zi ?_; intro b2 o2 cs2 x2 hat2 hx2 he2; obtain rfl := Q1z he2; (first | (refine zl hS ?_) | (refine zlk hS ?_)))
   all_goals (first | (refine QC ?_) | (refine QJ ?_) | (refine Qj rfl rfl (fun hc => ?_) (fun hc => ?_)))
   all_goals (refine zn ?_)
   all_goals
    first
    | (refine zct ?_
       all_goals (refine Zaq ?_)
       all_goals (first | (refine ⟨_, rfl, ?_, hS.sp⟩; rw [decide_eq_false]; exact fun e => absurd (congrArg List.length e) (by omega); done) | (refine ⟨_, rfl, ?_, hS.sp⟩; rw [decide_eq_false]; rw [hd, Q2 hx1, Q2 hx2]; simp [*]; done)))
    | (refine zcf ?_
       all_goals refine zsk ?_)
   all_goals (refine Zak ?_; refine zad ?_; refine Zac ?_; exact ⟨⟨j + 1, zh, zh, (by omega), (by omega), by rw [hd, Q2 hx1, Q2 hx2, show x1 = x2 by omega]; simp, hS.sp⟩, Qu (by omega)⟩)
 · skip
   all_goals (refine ZbC ?_; (first | (refine ⟨_, rfl, ?_, hS.sp⟩; rw [decide_eq_false]; exact fun e => absurd (congrArg List.length e) (by omega); done) | (refine ⟨_, rfl, ?_, hS.sp⟩; rw [decide_eq_false]; rw [hd, Q2 hx1, Q2 hx2]; simp [*]; done) | (refine ⟨_, rfl, ?_, hS.sp⟩; rw [decide_eq_true]; rw [hd, List.drop_of_length_le (by omega), List.drop_of_length_le (by omega)]; done)))
theorem Q80 {x y : To} {cx : Cx} {w : World} {L : List Res} {cs ds : List Value} (hx : toR.at cx cs x) (hy : toR.at cx ds y) (hS : St cx w L) : Rets Tryz.prog R_sameTo [.agg ⟨cs⟩, .agg ⟨ds⟩] w fun u w' => u = .bool (decide (x = y)) ∧ St cx w' L := by
 obtain ⟨n, xr, xa⟩ := x
 obtain ⟨n2, yr, ya⟩ := y
 obtain ⟨v1, v2, rfl, h1, h2⟩ := Q2u hx
 obtain ⟨v3, v4, rfl, h3, h4⟩ := Q2u hy
 simp only [To.mk.injEq] at *
 all_goals refine lgo tyD Tryz.func130 ?_
 all_goals (refine Zaz ?_; intro p2 w1 hS; refine zb hS ?_; intro p3 w1 hS; refine ZbB ?_; refine zf0 ?_; refine zl hS ?_; refine zf0 ?_; refine zl hS ?_)
 all_goals (first | (refine Qd ?_) | (refine Qh ?_) | (refine Q6 rfl rfl (fun hc => ?_) (fun hc => ?_)))
 all_goals (refine zm ?_; (first | refine zgn ?_ | (refine zgy ?_; refine zf0 ?_)); (first | refine zgn ?_ | (refine zgy ?_; refine zl hS ?_)); (first | refine zgn ?_ | (refine zgy ?_; refine zf0 ?_)); (first | refine zgn ?_ | (refine zgy ?_; refine zl hS ?_)))
 all_goals ((first | (refine zgn ?_) | (refine zgy ?_; refine zR2 (c := Q61 h1 h3 hS) (h := ?_); rintro v1 w1 ⟨rfl, hS⟩; (cases hdec : decide (xr = yr)); have hg := of_decide_eq_false hdec; rotate_left; have hg := of_decide_eq_true hdec; all_goals skip)))
 all_goals (refine Zai ?_; (first | refine zgn ?_ | (refine zgy ?_; refine zf0 ?_)); (first | refine zgn ?_ | (refine zgy ?_; refine zl hS ?_)); (first | refine zgn ?_ | (refine zgy ?_; refine zf0 ?_)); (first | refine zgn ?_ | (refine zgy ?_; refine zl hS ?_)); (first | (refine zgn ?_) | (refine zgy ?_; refine zR2 (c := Q61 h2 h4 hS) (h := ?_); rintro v1 w1 ⟨rfl, hS⟩)); refine Zbf ?_; refine ⟨_, rfl, ?_, hS.sp⟩; (simp [*]); done)
theorem Qan {x y : Ins} {cx : Cx} {w : World} {L : List Res} {cs ds : List Value} (hx : insR.at cx cs x) (hy : insR.at cx ds y) (hS : St cx w L) : Rets Tryz.prog QcD [.agg ⟨cs⟩, .agg ⟨ds⟩] w fun u w' => u = .bool (decide (x = y)) ∧ St cx w' L := by
 obtain ⟨n, a, b, c, k, nn, xr, xa⟩ := x
 obtain ⟨n2, a2, b2, c2, k2, nn2, yr, ya⟩ := y
 obtain ⟨v1, v2, rfl, h1, h2⟩ := Q1a hx
 obtain ⟨v3, v4, rfl, h3, h4⟩ := Q1a hy
 simp only [Ins.mk.injEq] at *
 all_goals refine lgo tyD Tryz.func129 ?_
 all_goals (refine Zaz ?_; intro p2 w1 hS; refine zb hS ?_; intro p3 w1 hS; refine ZbB ?_; refine zf0 ?_; refine zl hS ?_; refine zf0 ?_; refine zl hS ?_)
 all_goals (first | (refine Qd ?_) | (refine Qh ?_) | (refine Q6 rfl rfl (fun hc => ?_) (fun hc => ?_)))
 all_goals (refine zm ?_; (first | refine zgn ?_ | (refine zgy ?_; refine zf0 ?_)); (first | refine zgn ?_ | (refine zgy ?_; refine zl hS ?_)); (first | refine zgn ?_ | (refine zgy ?_; refine zf0 ?_)); (first | refine zgn ?_ | (refine zgy ?_; refine zl hS ?_)))
 all_goals (first | refine zgn ?_ | (refine zgy ?_; (first | (refine Qd ?_) | (refine Qh ?_) | (refine Q6 rfl rfl (fun hc => ?_) (fun hc => ?_)))))
 all_goals (refine Zai ?_; (first | refine zgn ?_ | (refine zgy ?_; refine zf0 ?_)); (first | refine zgn ?_ | (refine zgy ?_; refine zl hS ?_)); (first | refine zgn ?_ | (refine zgy ?_; refine zf0 ?_)); (first | refine zgn ?_ | (refine zgy ?_; refine zl hS ?_)))
 all_goals (first | refine zgn ?_ | (refine zgy ?_; (first | (refine Qd ?_) | (refine Qh ?_) | (refine Q6 rfl rfl (fun hc => ?_) (fun hc => ?_)))))
 all_goals (refine Zai ?_; (first | refine zgn ?_ | (refine zgy ?_; refine zf0 ?_)); (first | refine zgn ?_ | (refine zgy ?_; refine zl hS ?_)); (first | refine zgn ?_ | (refine zgy ?_; refine zf0 ?_)); (first | refine zgn ?_ | (refine zgy ?_; refine zl hS ?_)))
 all_goals (first | refine zgn ?_ | (refine zgy ?_; (first | (refine Qd ?_) | (refine Qh ?_) | (refine Q6 rfl rfl (fun hc => ?_) (fun hc => ?_)))))
 all_goals (refine Zai ?_; (first | refine zgn ?_ | (refine zgy ?_; refine zf0 ?_)); (first | refine zgn ?_ | (refine zgy ?_; refine zl hS ?_)); (first | refine zgn ?_ | (refine zgy ?_; refine zf0 ?_)); (first | refine zgn ?_ | (refine zgy ?_; refine zl hS ?_)))
 all_goals (first | refine zgn ?_ | (refine zgy ?_; (first | (refine Qd ?_) | (refine Qh ?_) | (refine Q6 rfl rfl (fun hc => ?_) (fun hc => ?_)))))
 all_goals (refine Zai ?_; (first | refine zgn ?_ | (refine zgy ?_; refine zf0 ?_)); (first | refine zgn ?_ | (refine zgy ?_; refine zl hS ?_)); (first | refine zgn ?_ | (refine zgy ?_; refine zf0 ?_)); (first | refine zgn ?_ | (refine zgy ?_; refine zl hS ?_)))
 all_goals (first | refine zgn ?_ | (refine zgy ?_; (first | (refine Qd ?_) | (refine Qh ?_) | (refine Q6 rfl rfl (fun hc => ?_) (fun hc => ?_)))))
 all_goals (refine Zai ?_; (first | refine zgn ?_ | (refine zgy ?_; refine zf0 ?_)); (first | refine zgn ?_ | (refine zgy ?_; refine zl hS ?_)); (first | refine zgn ?_ | (refine zgy ?_; refine zf0 ?_)); (first | refine zgn ?_ | (refine zgy ?_; refine zl hS ?_)))
 all_goals ((first | (refine zgn ?_) | (refine zgy ?_; refine zR2 (c := Q61 h1 h3 hS) (h := ?_); rintro v1 w1 ⟨rfl, hS⟩; (cases hdec : decide (xr = yr)); have hg := of_decide_eq_false hdec; rotate_left; have hg := of_decide_eq_true hdec; all_goals skip)))
 all_goals (refine Zai ?_; (first | refine zgn ?_ | (refine zgy ?_; refine zf0 ?_)); (first | refine zgn ?_ | (refine zgy ?_; refine zl hS ?_)); (first | refine zgn ?_ | (refine zgy ?_; refine zf0 ?_)); (first | refine zgn ?_ | (refine zgy ?_; refine zl hS ?_)); (first | (refine zgn ?_) | (refine zgy ?_; refine zR2 (c := Q61 h2 h4 hS) (h := ?_); rintro v1 w1 ⟨rfl, hS⟩)); refine Zbf ?_; refine ⟨_, rfl, ?_, hS.sp⟩; (simp [*]); done)
theorem Q34 {l : List Int} (hb : l.length ≤ 1000000) {cx : Cx} {w : World} {L : List Res} {v : Value} (hl : intR.sl cx v l) (hS : St cx w L) : Rets Tryz.prog QcE [v] w fun u w' => ∃ c', cx.Le c' ∧ intR.sl c' u l ∧ St c' w' L := by
 have hS := hS.nil (T := 3) (es := 1)
 have hn : intR.ls cx [] [] := Rep.LR.nil _ _ _
 all_goals refine lgo tyD Tryz.func60 ?_
 all_goals (refine Zaa ?_; refine Zac ?_; refine Zbb ?_; refine zm ?_; (first | (refine za Q2R Q53 hS ?_; intro vp1 w1 css1 hls1 hv1 hS; have hS := hS.ns) | (refine zak Q2R Q53 hS ?_; intro vp1 w1 css1 hls1 hv1 hS; have hS := hS.ns)); refine Zah ?_; obtain ⟨c3, hle3, hS, hl3⟩ := St.freezeL (r := intR) (l := l) (T := 3) (es := 1) (L := L) hS.sp hls1 rfl (by omega); exact ⟨_, rfl, c3, hle3, hl3, hS⟩)
theorem Q4E {l : List Int} (hb : l.length ≤ 1000000) {cx : Cx} {w : World} {L : List Res} {v : Value} (hl : intR.sl cx v l) (hS : St cx w L) : Rets Tryz.prog Q48 [v] w fun u w' => ∃ c', cx.Le c' ∧ intR.sl c' u l ∧ St c' w' L := by
 obtain ⟨a, c, hv⟩ := Rep.SR.shape hl
 cases a with
 | none =>
   have hl0 := Rep.SR.nil_of hl hv
   subst hl0
   subst hv
   all_goals refine lgo tyD Tryz.func111 ?_
   all_goals (refine Zbk ?_; refine Q55 (e := 3) (by kernel_rfl) rfl rfl ?_; refine zn ?_)
   all_goals
    first
    | (refine zct ?_
       all_goals (refine Zaq ?_)
       all_goals (exact ⟨_, rfl, cx, St.refl hS, Rep.SR.nil _ _ _, hS⟩))
   all_goals (refine Zaa ?_; fail "no law for buildSlice"; refine zm ?_; refine za Q2R Q53 hS ?_; intro vp1 w1 css1 hls1 hv1 hS; have hS := hS.ns; refine Zah ?_; exact ⟨_, rfl, cx, St.refl hS, Rep.SR.nil _ _ _, hS⟩)
 | some a =>
   have hn : intR.ls cx [] [] := Rep.LR.nil _ _ _
   all_goals refine lgo tyD Tryz.func111 ?_
   all_goals (refine Zbk ?_; refine Q55 (e := 3) (by kernel_rfl) hv rfl ?_; refine zn ?_)
   all_goals refine zcf ?_
   all_goals (refine zsk ?_; refine Zaa ?_; refine Q8M Q2R ?_; intro v1 w1 hf1 hs1 hz1; have hS := hS.new (r := sl 3 1 v1 []) hs1 hf1 (fun b hb => Nat.le_of_eq hb.symm); refine zm ?_; (first | (refine za Q2R Q53 hS ?_; intro vp1 w1 css1 hls1 hv1 hS; have hS := hS.ns) | (refine zak Q2R Q53 hS ?_; intro vp1 w1 css1 hls1 hv1 hS; have hS := hS.ns)); refine Zah ?_; obtain ⟨c3, hle3, hS, hl3⟩ := St.freezeL (r := intR) (l := l) (T := 3) (es := 1) (L := L) hS.sp hls1 rfl (by omega); exact ⟨_, rfl, c3, hle3, hl3, hS⟩)
theorem Q9N {x : To} (hb1 : x.regs.length ≤ 1000000) (hb2 : x.args.length ≤ 1000000) {cx : Cx} {w : World} {L : List Res} {cs : List Value} (hx : toR.at cx cs x) (hS : St cx w L) : Rets Tryz.prog R_ownTo [.agg ⟨cs⟩] w fun u w' => ∃ c' ds, u = .agg ⟨ds⟩ ∧ cx.Le c' ∧ toR.at c' ds x ∧ St c' w' L := by
 obtain ⟨v1, v2, rfl, h1, h2⟩ := Q2u hx
 all_goals refine lgo tyD Tryz.func61 ?_
 all_goals (refine Zaz ?_; intro p1 w1 hS; refine Qg hS ?_; intro p2 w1 hS; refine ZaZ ?_; refine zC [(0, none), (1, none), (2, none), (3, none), (5, none), (6, none), (4, some (some [1, 6])), (7, some (some [1])), (8, none), (9, some none)] ?_; have hS := hS.drew; refine s_cq ?_; refine zf0 ?_; refine Zab ?_; refine zl hS ?_; refine Zab ?_; refine zf0 ?_; refine Zab ?_; refine zl hS ?_; refine Zab ?_; refine zf0 ?_; refine Zab ?_; refine zl hS ?_; refine Zar ?_; refine zR1 (c := Q34 hb1 h1 hS) (h := ?_); rintro v1 w1 ⟨c1, hle, hl1, hS⟩; obtain ⟨a1, n1, rfl⟩ := Rep.SR.shape hl1; have h2 := Rep.SR.up h2 hle; refine ZaD ?_; refine zR1 (c := Q34 hb2 h2 hS) (h := ?_); rintro v1 w1 ⟨c2, hle2, hl2, hS⟩; obtain ⟨a2, n2, rfl⟩ := Rep.SR.shape hl2; have hl1 := Rep.SR.up hl1 hle2; refine ZaI ?_; refine zb3 [_, _, _] ?_; refine Zax ?_; refine zsn hS ?_; intro w1 hS; have hS := hS.ns; refine Zaw ?_; refine zr ?_)
 all_goals (refine Q19 vw (Q4 (n := 3) (by kernel_rfl) (by kernel_rfl) (hS.blkAt fd) (by rfl) (by rfl)) ?_; exact ⟨_, rfl, c2, _, rfl, hle.trans hle2, ⟨_, _, rfl, hl1, hl2⟩, hS.sp⟩)
theorem Q9V {x : To} (hb1 : x.regs.length ≤ 1000000) (hb2 : x.args.length ≤ 1000000) {cx : Cx} {w : World} {L : List Res} {cs : List Value} (hx : toR.at cx cs x) (hS : St cx w L) : Rets Tryz.prog QaO [.agg ⟨cs⟩] w fun u w' => ∃ c' ds, u = .agg ⟨ds⟩ ∧ cx.Le c' ∧ toR.at c' ds x ∧ St c' w' L := by
 obtain ⟨v1, v2, rfl, h1, h2⟩ := Q2u hx
 all_goals refine lgo tyD Tryz.func110 ?_
 all_goals (refine Zaz ?_; intro p1 w1 hS; refine Qg hS ?_; intro p2 w1 hS; refine ZaZ ?_; refine zC [(0, none), (1, none), (2, none), (3, none), (5, none), (6, none), (4, some (some [1, 6])), (7, some (some [1])), (8, none), (9, some none)] ?_; have hS := hS.drew; refine s_cq ?_; refine zf0 ?_; refine Zab ?_; refine zl hS ?_; refine Zab ?_; refine zf0 ?_; refine Zab ?_; refine zl hS ?_; refine Zab ?_; refine zf0 ?_; refine Zab ?_; refine zl hS ?_; refine Zar ?_; refine zR1 (c := Q4E hb1 h1 hS) (h := ?_); rintro v1 w1 ⟨c1, hle, hl1, hS⟩; obtain ⟨a1, n1, rfl⟩ := Rep.SR.shape hl1; have h2 := Rep.SR.up h2 hle; refine ZaD ?_; refine zR1 (c := Q4E hb2 h2 hS) (h := ?_); rintro v1 w1 ⟨c2, hle2, hl2, hS⟩; obtain ⟨a2, n2, rfl⟩ := Rep.SR.shape hl2; have hl1 := Rep.SR.up hl1 hle2; refine ZaI ?_; refine zb3 [_, _, _] ?_; refine Zax ?_; refine zsn hS ?_; intro w1 hS; have hS := hS.ns; refine Zaw ?_; refine zr ?_)
 all_goals (refine Q19 vw (Q4 (n := 3) (by kernel_rfl) (by kernel_rfl) (hS.blkAt fd) (by rfl) (by rfl)) ?_; exact ⟨_, rfl, c2, _, rfl, hle.trans hle2, ⟨_, _, rfl, hl1, hl2⟩, hS.sp⟩)
end Go.Proofs.YteflkifmgnpbhaaGreat
namespace Go.Proofs.YteflkifmgnpbhaaGreat
open Go.Lir
set_option maxHeartbeats 1000000
attribute [local irreducible] LC.wp Q0 QF QE retQ Q16 LO.wp Qf Calls
set_option linter.unusedSimpArgs false
set_option linter.unusedVariables false
theorem QaC {x : Module} {cx : Cx} {w : World} {L : List Res} {cs : List Value} (hx : modR.at cx cs x) (hS : St cx w L) : Rets Tryz.prog Q50 [.agg ⟨cs⟩] w fun u w' => ∃ b, u = .bool b ∧ (b = false → x.Short) ∧ St cx w' L := by
 obtain ⟨vf, rfl, hl⟩ := Q1k hx
 obtain ⟨l⟩ := x
 have hl : funcR.sl cx vf l := hl
 have hlen := hl.len
 all_goals refine lgo tyD Tryz.func18 ?_
 all_goals (refine Zaz ?_; intro p1 w1 hS; refine ZaT ?_; refine zf0 ?_; refine zl hS ?_; refine zL ?_)
 all_goals (first | (refine QG ?_) | (refine QL ?_) | (refine Qc rfl rfl (fun hc => ?_) (fun hc => ?_)))
 all_goals (refine zn ?_)
 all_goals
  first
  | (refine zct ?_
     all_goals (refine Zaq ?_)
     all_goals (exact ⟨_, rfl, true, rfl, fun h => Bool.noConfusion h, hS.sp⟩))
  | (refine zcf ?_
     all_goals refine zsk ?_)
 all_goals (refine Zbr ?_)
 refine zoL hS [1] (fun A LL ρ' w' => ∃ (j : Nat), Has ρ' A ∧ Has ρ' [(3, .int .i64 j)] ∧ (j ≤ l.length) ∧ (l.length ≤ 20) ∧ (∀ f ∈ l.take j, f.Short) ∧ St cx w' (LL)) (fun ρ' _ => (l.length - iv (ρ' 3)).toNat) ?_ ?_
 · exact ⟨0, zh, zh, (by omega), (by omega), by simp, hS.sp⟩
 rintro ρ w1 ⟨j, hA, hρ, hj, hl20, hd, hS⟩; obtain ⟨ρ, rfl⟩ := env2 hA hρ
 all_goals (refine ZaA ?_; refine zf0 ?_; refine zl hS ?_; refine zL ?_; refine Zau ?_)
 refine Qt rfl (fun hc => ?_) (fun hc => ?_)
 · skip
   all_goals (refine Zbn ?_; refine zf0 ?_; refine zl hS ?_; refine zm ?_; refine zi ?_; intro b1 o1 cs1 x1 hat1 hx1 he1; obtain ⟨vp1, vr1, vb1, rfl, hp1, hr1, hb1⟩ := Qv he1; refine Zas ?_; intro p4 w1 hS; refine zsn hS ?_; intro w1 hS; have hS := hS.ns; refine ZbT ?_; refine zf0 ?_; refine zl hS ?_; refine zL ?_)
   all_goals (first | (refine QG ?_) | (refine QL ?_) | (refine Qc rfl rfl (fun hc => ?_) (fun hc => ?_)))
   all_goals (refine zm ?_; (first | refine zgn ?_ | (refine zgy ?_; refine zf0 ?_)); (first | refine zgn ?_ | (refine zgy ?_; refine zl hS ?_)))
   all_goals ((first | (refine zgn ?_) | (refine zgy ?_; refine zR1 (c := Q42 hp1 hS) (h := ?_); rintro v1 w1 ⟨rfl, hS⟩; cases hg1 : Tys.great x1.params)))
   all_goals (refine Zai ?_; (first | refine zgn ?_ | (refine zgy ?_; refine zf0 ?_)); (first | refine zgn ?_ | (refine zgy ?_; refine zl hS ?_)))
   all_goals ((first | (refine zgn ?_) | (refine zgy ?_; refine zR1 (c := Q42 hr1 hS) (h := ?_); rintro v1 w1 ⟨rfl, hS⟩; cases hg2 : Tys.great x1.results)))
   all_goals (refine Zaf ?_)
   all_goals
    first
    | (refine zct ?_
       all_goals (refine Zaq ?_)
       all_goals (exact ⟨_, rfl, true, rfl, fun h => Bool.noConfusion h, hS.sp⟩))
    | (refine zcf ?_
       all_goals refine zsk ?_)
   all_goals (refine Qb ?_; have hlb := hb1.len; refine Qn ?_; refine ZaC ?_)
   refine zoL hS [1, 3, 4] (fun A LL ρ' w' => ∃ (i : Nat), Has ρ' A ∧ Has ρ' [(5, .int .i64 i)] ∧ (i ≤ x1.blocks.length) ∧ (x1.blocks.length ≤ 30) ∧ (Tys.great x1.params = false) ∧ (Tys.great x1.results = false) ∧ (∀ f ∈ x1.blocks.take i, f.Short) ∧ St cx w' (LL)) (fun ρ' _ => (x1.blocks.length - iv (ρ' 5)).toNat) ?_ ?_
   · exact ⟨0, zh, zh, (by omega), (by omega), by assumption, by assumption, by simp, hS.sp⟩
   rintro ρ w1 ⟨i, hA, hρ, hi, hl30, hg1, hg2, hd1, hS⟩; obtain ⟨ρ, rfl⟩ := env2 hA hρ
   all_goals (refine ZaA ?_; refine zf0 ?_; refine zl hS ?_; refine zL ?_; refine Zau ?_)
   refine Qt rfl (fun hc => ?_) (fun hc => ?_)
   · skip
     all_goals (refine Zbn ?_; refine zf0 ?_; refine zl hS ?_; refine zm ?_; refine zi ?_; intro b2 o2 cs2 x2 hat2 hx2 he2; obtain ⟨vp2, vc2, ve21, ve22, ve23, ve24, ve25, rfl, hp2, hc2, he21, he22, he23, he24, he25⟩ := Q13 he2; refine Zas ?_; intro p6 w1 hS; refine zsn hS ?_; intro w1 hS; have hS := hS.ns; refine ZbT ?_; refine zf0 ?_; refine zl hS ?_; refine zL ?_)
     all_goals (first | (refine QG ?_) | (refine QL ?_) | (refine Qc rfl rfl (fun hc => ?_) (fun hc => ?_)))
     all_goals (refine zm ?_; (first | refine zgn ?_ | (refine zgy ?_; refine zf0 ?_)); (first | refine zgn ?_ | (refine zgy ?_; refine zl hS ?_)))
     all_goals ((first | (refine zgn ?_) | (refine zgy ?_; refine zR1 (c := Q42 hp2 hS) (h := ?_); rintro v1 w1 ⟨rfl, hS⟩; cases hg3 : Tys.great x2.params)))
     all_goals (refine Zai ?_; (first | refine zgn ?_ | (refine zgy ?_; refine zf0 ?_)); (first | refine zgn ?_ | (refine Zaj ?_)); (first | refine zgn ?_ | (refine zgy ?_; refine zl hS ?_)); (first | refine zgn ?_ | (refine zgy ?_; refine zL ?_)))
     all_goals (first | refine zgn ?_ | (refine zgy ?_; (first | (refine QG ?_) | (refine QL ?_) | (refine Qc rfl rfl (fun hc => ?_) (fun hc => ?_)))))
     all_goals (refine Zai ?_; (first | refine zgn ?_ | (refine zgy ?_; refine zf0 ?_)); (first | refine zgn ?_ | (refine Zaj ?_)); (first | refine zgn ?_ | (refine Zaj ?_)); (first | refine zgn ?_ | (refine zgy ?_; refine zl hS ?_)); (first | refine zgn ?_ | (refine zgy ?_; refine zL ?_)))
     all_goals (first | refine zgn ?_ | (refine zgy ?_; (first | (refine QG ?_) | (refine QL ?_) | (refine Qc rfl rfl (fun hc => ?_) (fun hc => ?_)))))
     all_goals (refine Zai ?_; (first | refine zgn ?_ | (refine zgy ?_; refine zf0 ?_)); (first | refine zgn ?_ | (refine Zaj ?_)); (first | refine zgn ?_ | (refine Zaj ?_)); (first | refine zgn ?_ | (refine zgy ?_; refine zl hS ?_)); (first | refine zgn ?_ | (refine zgy ?_; refine zL ?_)))
     all_goals (first | refine zgn ?_ | (refine zgy ?_; (first | (refine QG ?_) | (refine QL ?_) | (refine Qc rfl rfl (fun hc => ?_) (fun hc => ?_)))))
     all_goals (refine Zai ?_; (first | refine zgn ?_ | (refine zgy ?_; refine zf0 ?_)); (first | refine zgn ?_ | (refine Zaj ?_)); (first | refine zgn ?_ | (refine Zaj ?_)); (first | refine zgn ?_ | (refine zgy ?_; refine zl hS ?_)); (first | refine zgn ?_ | (refine zgy ?_; refine zL ?_)))
     all_goals (first | refine zgn ?_ | (refine zgy ?_; (first | (refine QG ?_) | (refine QL ?_) | (refine Qc rfl rfl (fun hc => ?_) (fun hc => ?_)))))
     all_goals (refine Zai ?_; (first | refine zgn ?_ | (refine zgy ?_; refine zf0 ?_)); (first | refine zgn ?_ | (refine Zaj ?_)); (first | refine zgn ?_ | (refine Zaj ?_)); (first | refine zgn ?_ | (refine zgy ?_; refine zl hS ?_)); (first | refine zgn ?_ | (refine zgy ?_; refine zL ?_)))
     all_goals (first | refine zgn ?_ | (refine zgy ?_; (first | (refine QG ?_) | (refine QL ?_) | (refine Qc rfl rfl (fun hc => ?_) (fun hc => ?_)))))
     all_goals (refine Zaf ?_)
     all_goals
      first
      | (refine zct ?_
         all_goals (refine Zaq ?_)
         all_goals (exact ⟨_, rfl, true, rfl, fun h => Bool.noConfusion h, hS.sp⟩))
      | (refine zcf ?_
         all_goals refine zsk ?_)
     all_goals (refine Qb ?_; have hlc := hc2.len; refine Qn ?_; refine ZaC ?_)
     refine zoL hS [1, 3, 4, 5, 6] (fun A LL ρ' w' => ∃ (k : Nat), Has ρ' A ∧ Has ρ' [(7, .int .i64 k)] ∧ (k ≤ x2.code.length) ∧ (x2.code.length ≤ 200) ∧ (Tys.great x2.params = false) ∧ (x2.fin.Short) ∧ (∀ f ∈ x2.code.take k, f.Short) ∧ St cx w' (LL)) (fun ρ' _ => (x2.code.length - iv (ρ' 7)).toNat) ?_ ?_
     · exact ⟨0, zh, zh, (by omega), (by omega), by assumption, ⟨⟨by omega, by omega⟩, ⟨by omega, by omega⟩, by omega⟩, by simp, hS.sp⟩
     rintro ρ w1 ⟨k, hA, hρ, hk, hl200, hg3, hfin, hd2, hS⟩; obtain ⟨ρ, rfl⟩ := env2 hA hρ
     all_goals (refine ZaA ?_; refine zf0 ?_; refine zl hS ?_; refine zL ?_; refine Zau ?_)
     refine Qt rfl (fun hc => ?_) (fun hc => ?_)
     · skip
       all_goals (refine Zbn ?_; refine zf0 ?_; refine zl hS ?_; refine zm ?_; refine zi ?_; intro b3 o3 cs3 x3 hat3 hx3 he3; obtain ⟨vr3, va3, rfl, hr3, ha3⟩ := Q1a he3; refine Zbp ?_; refine zL ?_)
       all_goals (first | (refine QG ?_) | (refine QL ?_) | (refine Qc rfl rfl (fun hc => ?_) (fun hc => ?_)))
       all_goals (refine zm ?_; (first | refine zgn ?_ | (refine zgy ?_; refine zf0 ?_)); (first | refine zgn ?_ | (refine zgy ?_; refine zl hS ?_)); (first | refine zgn ?_ | (refine Zam ?_)); (first | (refine zgn ?_) | (refine zgy ?_; refine Q5X vw rfl (by assumption) rfl (by omega) ?_; intro b4 o4 cs4 x4 hat4 hx4 he4; rw [hx3] at hx4; obtain rfl : x3 = x4 := Option.some.inj hx4; obtain ⟨vr4, va4, rfl, hr4, ha4⟩ := Q1a he4)); (first | refine zgn ?_ | (refine Zaj ?_)); (first | refine zgn ?_ | (refine ZbS ?_)); (first | refine zgn ?_ | (refine zgy ?_; refine zL ?_)))
       all_goals (first | refine zgn ?_ | (refine zgy ?_; (first | (refine QG ?_) | (refine QL ?_) | (refine Qc rfl rfl (fun hc => ?_) (fun hc => ?_)))))
       all_goals (refine Zaf ?_)
       all_goals
        first
        | (refine zct ?_
           all_goals (refine Zaq ?_)
           all_goals (exact ⟨_, rfl, true, rfl, fun h => Bool.noConfusion h, hS.sp⟩))
        | (refine zcf ?_
           all_goals refine zsk ?_)
       all_goals (refine Zak ?_; refine zad ?_; refine Zac ?_; exact ⟨⟨k + 1, zh, zh, (by omega), (by omega), by assumption, by assumption, Q2S hd2 hx3 ⟨by omega, by omega⟩, hS.sp⟩, Qu (by omega)⟩)
     · skip
       all_goals (refine zex ?_; refine Zak ?_; refine zad ?_; refine Zac ?_; exact ⟨⟨i + 1, zh, zh, (by omega), (by omega), by assumption, by assumption, Q2S hd1 hx2 ⟨Tys.Short.of_great hg3, by omega, Q3o hd2 (by omega), hfin⟩, hS.sp⟩, Qu (by omega)⟩)
   · skip
     all_goals (refine zex ?_; refine Zak ?_; refine zad ?_; refine Zac ?_; exact ⟨⟨j + 1, zh, zh, (by omega), (by omega), Q2S hd hx1 ⟨Tys.Short.of_great hg1, Tys.Short.of_great hg2, by omega, Q3o hd1 (by omega)⟩, hS.sp⟩, Qu (by omega)⟩)
 · skip
   all_goals (refine ZbC ?_)
   all_goals (first | (exact ⟨_, rfl, true, rfl, fun h => Bool.noConfusion h, hS.sp⟩) | (have h1 : l.length ≤ 100000 := (by omega); exact ⟨_, rfl, false, rfl, fun _ => ⟨h1, Q3o (l := l) hd (by omega)⟩, hS.sp⟩))
end Go.Proofs.YteflkifmgnpbhaaGreat
namespace Go.Proofs.YteflkifmgnpbhaaGreat
open Go.Lir
set_option maxHeartbeats 1000000
attribute [local irreducible] LC.wp Q0 QF QE retQ Q16 LO.wp Qf Calls
set_option linter.unusedSimpArgs false
set_option linter.unusedVariables false
variable {cx : Cx} {w : World} {L : List Res} {i : Nat}
abbrev jdg (b : Nat) (vf : Value) (g : Flt) (at' : Int) : Res := blk b 173 [vf, .int .i64 g.1, .int .i64 g.2, .int .i64 at']
theorem Q1Z {is : Bool} {c : Int} {vf : Value} {g : Flt} {at' : Int} {b : Nat} (hc0 : is = true → c ≠ 0) (hS : St cx w L) (hi : nth L i = some (jdg b vf g at')) :
 Rets Tryz.prog Q6s [.pointer (some ⟨b, 0, none⟩), .bool is, .int .i64 c] w fun u w' => u = .tuple #[] ∧ St cx w' (L.set i (jdg b vf (orF g (mkF (if is = true then c else 0) at')) at')) := by
 have hS := hS.out hi
 cases is with
 | false =>
   have e : orF g (mkF (if false = true then c else 0) at') = g := Qar rfl
   rw [e]
   all_goals refine lgo tyD Tryz.func103 ?_
   all_goals (refine Zby ?_; refine zgn ?_; refine zgn ?_; refine zgn ?_; refine zgn ?_; refine zgn ?_)
   all_goals (refine zgn ?_)
   all_goals (refine Zaf ?_)
   all_goals
    first
    | (refine zct ?_
       all_goals (refine ZbN ?_; refine znc ?_; refine zf0 ?_; refine zl hS ?_; refine zb2 [_, _] ?_; refine znc ?_; refine zf0 ?_; refine zsn hS ?_; intro w1 hS; have hS := hS.ns)
       all_goals refine zn ?_)
    | (refine zcf ?_
       all_goals refine zsk ?_)
   all_goals (refine Q1j ?_; exact ⟨_, rfl, rfl, St.back hS hi⟩)
 | true =>
   have hc0 := hc0 rfl
   by_cases h0 : g.1 = 0
   · have e : orF g (mkF (if true = true then c else 0) at') = (c, at') := by rw [if_pos rfl, Q4I hc0]; unfold orF; rw [if_pos ⟨h0, hc0⟩]
     rw [e]
     all_goals refine lgo tyD Tryz.func103 ?_
     all_goals (refine Zby ?_; (first | refine zgn ?_ | (refine Zam ?_)); (first | refine zgn ?_ | (refine ZaQ ?_)); (first | refine zgn ?_ | (refine zgy ?_; refine zf0 ?_)); (first | refine zgn ?_ | (refine Zaj ?_)); (first | refine zgn ?_ | (refine zgy ?_; refine zl hS ?_)))
     all_goals (first | refine zgn ?_ | (refine zgy ?_; refine Qd ?_))
     all_goals (refine zpt ?_; refine zn ?_)
     all_goals refine zct ?_
     all_goals (refine ZbN ?_; refine znc ?_; refine zf0 ?_; refine zl hS ?_; refine zb2 [_, _] ?_; refine znc ?_; refine zf0 ?_; (first | (refine zsn hS ?_; intro w1 hS; have hS := hS.ns) | (refine zsm hS ?_; intro w1 hS; have hS := hS.ns)); refine ZbM ?_; exact ⟨_, rfl, rfl, St.back hS hi⟩)
   · rw [Q3r h0]
     all_goals refine lgo tyD Tryz.func103 ?_
     all_goals (refine Zby ?_; (first | refine zgn ?_ | (refine Zam ?_)); (first | refine zgn ?_ | (refine ZaQ ?_)); (first | refine zgn ?_ | (refine zgy ?_; refine zf0 ?_)); (first | refine zgn ?_ | (refine Zaj ?_)); (first | refine zgn ?_ | (refine zgy ?_; refine zl hS ?_)))
     all_goals (first | refine zgn ?_ | (refine zgy ?_; (first | (refine Qd ?_) | (refine Qh ?_))))
     all_goals (refine zpt ?_; refine zn ?_)
     all_goals refine zcf ?_
     all_goals (refine zsk ?_; refine Q1j ?_; exact ⟨_, rfl, rfl, St.back hS hi⟩)
theorem uindex_c {s : List UInt8} {c : Nat} {v : Value} (hK : u8R.sl cx v s) (hS : St cx w L) : Rets Tryz.prog Q3q [v, .int .u8 c] w fun u w' => ∃ r : Int, u = .int .i64 r ∧ (0 ≤ r ↔ (s.any fun b => decide (b.toNat = c)) = true) ∧ St cx w' L := by
 have hlen := hK.len
 all_goals refine lgo tyD Tryz.func265 ?_
 all_goals (refine Zbk ?_; refine zL ?_; refine ZaC ?_)
 refine zoL hS [0, 1, 7] (fun A LL ρ' w' => ∃ (j : Nat), Has ρ' A ∧ Has ρ' [(8, .int .i64 j)] ∧ (j ≤ s.length) ∧ ((s.any fun b => decide (b.toNat = c)) = ((s.drop j).any fun b => decide (b.toNat = c))) ∧ St cx w' (LL)) (fun ρ' _ => (s.length - iv (ρ' 8)).toNat) ?_ ?_
 · exact ⟨0, zh, zh, (by omega), by simp, hS.sp⟩
 rintro ρ w1 ⟨j, hA, hρ, hj, hd, hS⟩; obtain ⟨ρ, rfl⟩ := env2 hA hρ
 all_goals (refine ZbH ?_)
 refine Qt rfl (fun hc => ?_) (fun hc => ?_)
 · skip
   all_goals (refine ZaJ ?_; refine Zad ?_; refine ZaE ?_; refine ZaO ?_; refine zi ?_; intro b1 o1 cs1 x1 hat1 hx1 he1; (first | (obtain rfl := Q1z he1) | (obtain rfl := u8R_out he1)); (first | (refine zl hS ?_) | (refine zlk hS ?_)))
   all_goals (first | (refine Qd ?_) | (refine Qh ?_) | (refine Q6 rfl rfl (fun hc => ?_) (fun hc => ?_)))
   all_goals (refine zn ?_)
   all_goals
    first
    | (refine zct ?_
       all_goals (refine Zbt ?_)
       all_goals (exact ⟨_, rfl, j, rfl, by rw [hd, Q2 hx1, List.any_cons, decide_eq_true (by omega), Bool.true_or]; simp, hS.sp⟩))
    | (refine zcf ?_
       all_goals refine zsk ?_)
   all_goals (refine Qn ?_; refine zad ?_; refine Zac ?_; exact ⟨⟨j + 1, zh, zh, (by omega), by rw [hd, Q2 hx1, List.any_cons, decide_eq_false (by omega), Bool.false_or], hS.sp⟩, Qu (by omega)⟩)
 · skip
   all_goals (refine ZbC ?_; (first | (exact ⟨_, rfl, j, rfl, by rw [hd, Q2 hx1, List.any_cons, decide_eq_true (by omega), Bool.true_or]; simp, hS.sp⟩) | (exact ⟨_, rfl, -1, rfl, by rw [hd, List.drop_of_length_le (by omega)]; simp, hS.sp⟩)))
theorem Q8C {s : List UInt8} {c : Nat} {v : Value} (hK : u8R.sl cx v s) (hS : St cx w L) : Rets Tryz.prog Q2W [v, .int .u8 c] w fun u w' => u = .bool (s.any fun b => decide (b.toNat = c)) ∧ St cx w' L := by
 all_goals refine lgo tyD Tryz.func252 ?_
 all_goals (refine Zbb ?_; refine zm ?_; refine zR2 (c := uindex_c hK hS) (h := ?_); rintro v1 w1 ⟨r, rfl, hr, hS⟩)
 all_goals (first | (refine Q2l ?_) | (refine Q2U ?_) | (refine Q1M rfl rfl (fun hc => ?_) (fun hc => ?_)))
 all_goals (refine Zah ?_)
 all_goals (refine ⟨_, rfl, ?_, hS.sp⟩; (cases hb : (s.any fun b => decide (b.toNat = c)) <;> simp_all); done)
theorem Q5S {s : ByteArray} {c : Nat} (hs : s.size ≤ 1000000) (hS : St cx w L) : Rets Tryz.prog Qct [.string s, .int .u8 c] w fun u w' => u = .bool (Q1m s c) ∧ St cx w' L := by
 have hle := St.refl hS
 all_goals refine lgo tyD Tryz.func214 ?_
 all_goals (refine Zbb ?_; refine s_bytes (e := 5) (by kernel_rfl) (by kernel_rfl) (by kernel_rfl) hS vw ?_; intro v1 w1 hS; obtain ⟨c1, hle2, hS, hk1⟩ := St.freezeL (r := u8R) hS (u8R_ls _) rfl (by rw [Array.length_toList]; show s.size ≤ 140737488355328; omega); refine zm ?_; refine zR2 (c := Q8C hk1 hS) (h := ?_); rintro v1 w1 ⟨rfl, hS⟩; refine Zah ?_; exact ⟨_, rfl, rfl, St.weak hS.sp hle2⟩)
theorem has_c {op : Int} (hS : St cx w L) : Rets Tryz.prog code_has [.int .i64 op] w fun u w' => u = .string (hasF op) ∧ St cx w' L := by
 by_cases hb : op < 1 ∨ 14 < op
 · have e : hasF op = ⟨#[]⟩ := by unfold hasF; rw [if_pos hb]
   rw [e]
   all_goals refine lgo tyD Tryz.func213 ?_
   all_goals (refine Zbk ?_)
   all_goals (first | (refine Q1c ?_) | (refine Q1l ?_) | (refine QB rfl rfl (fun hc => ?_) (fun hc => ?_)))
   all_goals (refine zm ?_; (first | refine zgn ?_ | (refine Zam ?_)))
   all_goals (first | refine zgn ?_ | (refine zgy ?_; refine QG ?_))
   all_goals (refine Zaf ?_)
   all_goals refine zct ?_
   all_goals (refine Zaq ?_; refine ⟨_, rfl, ?_, hS.sp⟩; (rfl); done)
 · have hu : (hasTab.map Value.string)[op.toNat]? = some (.string (hasF op)) := by
    rcases op_cases (op := op) (by omega) (by omega) with rfl | rfl | rfl | rfl | rfl | rfl | rfl | rfl | rfl | rfl | rfl | rfl | rfl | rfl <;> rfl
   generalize hasF op = s at hu ⊢
   all_goals refine lgo tyD Tryz.func213 ?_
   all_goals (refine Zbk ?_)
   all_goals (first | (refine Q1c ?_) | (refine Q1l ?_))
   all_goals (refine zm ?_; (first | refine zgn ?_ | (refine Zam ?_)))
   all_goals (first | refine zgn ?_ | (refine ZbR ?_))
   all_goals (refine Zaf ?_)
   all_goals refine zcf ?_
   all_goals (refine zsk ?_; refine Zaa ?_; refine QbD (cs := [_, _, _, _, _, _, _, _, _, _, _, _, _, _, _]) vw vw vw vw vw vw vw vw vw vw vw vw vw vw vw (by rfl) ?_; refine zm ?_; refine s_idxv (n := 15) (e := 9) (by kernel_rfl) (by kernel_rfl) (by kernel_rfl) vw vw (by omega) (by omega) hu ?_; refine Zah ?_; refine ⟨_, rfl, ?_, hS.sp⟩; (rfl); done)
theorem Qcg (op : Int) : (hasF op).size ≤ 1000000 := by
 by_cases hb : op < 1 ∨ 14 < op
 · unfold hasF; rw [if_pos hb]; decide
 · rcases op_cases (op := op) (by omega) (by omega) with rfl | rfl | rfl | rfl | rfl | rfl | rfl | rfl | rfl | rfl | rfl | rfl | rfl | rfl <;> decide
theorem ins_end {g : Flt} {at' : Int} {n : Nat} {x : Ins} {q : Bool} {c3 : Int} (hq : q = true ↔ (((((((Q1m (hasF x.op) 97 = false ∧ x.a ≠ 0) ∨ (Q1m (hasF x.op) 98 = false ∧ x.b ≠ 0)) ∨ (Q1m (hasF x.op) 99 = false ∧ x.c ≠ 0)) ∨ (Q1m (hasF x.op) 107 = false ∧ x.k ≠ 0)) ∨ (Q1m (hasF x.op) 110 = false ∧ x.n ≠ 0)) ∨ (Q1m (hasF x.op) 103 = false ∧ 0 < x.regs.length)) ∨ (Q1m (hasF x.op) 114 = false ∧ 0 < x.args.length))) (h3 : c3 = Q1w n x) :
 orF (orF (orF g (mkF (if x.op < 1 ∨ 14 < x.op then 3 else 0) at')) (mkF (if q = true then 4 else 0) at')) (mkF c3 at') = orF g (mkF (Q1g n x) at') := by
 rw [Q2c, Q2c]
 congr 2
 subst h3
 unfold Q1g
 by_cases hb : x.op < 1 ∨ 14 < x.op
 · rw [if_pos hb, if_pos hb]; rfl
 · rw [if_neg hb, if_neg hb]
   obtain ⟨h1, h2, h3, h4, h5, h6, h7⟩ := with_all x.op hb
   rw [h1, h2, h3, h4, h5, h6, h7] at hq
   simp only [or_assoc] at hq
   by_cases ho : x.odd
   · rw [if_pos ho, if_pos (hq.2 ho)]; rfl
   · rw [if_neg ho, if_neg fun h => ho (hq.1 h)]; rfl
theorem Q3G {a b : Int} (h : a ≠ 0) : orC a b = a := if_pos h
theorem Q3s (b : Int) : orC 0 b = b := rfl
section
attribute [local irreducible] orF mkF orC Q1w Q1g Q1r Q1I
set_option maxHeartbeats 1000000 in
theorem ins_c {x : Ins} {n : List Fun} {vf : Value} {g : Flt} {at' : Int} {b : Nat} {cs : List Value} (hx : insR.at cx cs x) (hf : funcR.sl cx vf n) (hS : St cx w L) (hi : nth L i = some (jdg b vf g at')) :
 Rets Tryz.prog Q6K [.pointer (some ⟨b, 0, none⟩), .agg ⟨cs⟩] w fun u w' => u = .tuple #[] ∧ St cx w' (L.set i (jdg b vf (orF g (mkF (Q1g n.length x) at')) at')) := by
 have hS := hS.out hi
 obtain ⟨vr, va, rfl, hr, ha⟩ := Q1a hx
 have hlr := hr.len
 have hla := ha.len
 have hln := hf.len
 have hsz := Qcg x.op
 all_goals refine lgo tyD Tryz.func164 ?_
 all_goals (refine Zaz ?_; intro p3 w1 hS; refine zn ?_)
 refine zM [0, 3] (fun A ρ' w' => Has ρ' A ∧ Has ρ' [] ∧ St cx w' (blk p3 84 [.int .i64 x.op, .int .i64 x.a, .int .i64 x.b, .int .i64 x.c, .int .i64 x.k, .int .i64 x.n, vr, va] :: jdg b vf (orF g (mkF (if x.op < 1 ∨ 14 < x.op then 3 else 0) at')) at' :: L.eraseIdx i)) ?_ ?_
 · skip
   all_goals (refine Zak ?_; refine zf0 ?_; refine zl hS ?_)
   all_goals (first | (refine Q1c ?_) | (refine Q1l ?_) | (refine QB rfl rfl (fun hc => ?_) (fun hc => ?_)))
   all_goals (refine zm ?_; (first | refine zgn ?_ | (refine zgy ?_; refine zf0 ?_)); (first | refine zgn ?_ | (refine zgy ?_; refine zl hS ?_)))
   all_goals (first | refine zgn ?_ | (refine zgy ?_; (first | (refine QG ?_) | (refine QL ?_) | (refine Qc rfl rfl (fun hc => ?_) (fun hc => ?_)))))
   all_goals ((first | (refine zpt ?_) | (refine zpf ?_)); refine zR3 (c := Q1Z (by intro _; decide) hS fd) (h := ?_); rintro v1 w1 ⟨rfl, hS⟩; simp only [List.set_cons_zero, List.set_cons_succ, if_true, Bool.false_eq_true, if_false] at hS; refine zn ?_; exact ⟨zh, zh, by first | (rw [if_pos (by omega)]; exact hS.sp) | (rw [if_neg (by omega)]; exact hS.sp)⟩)
 rintro ρ w1 ⟨hA, hρ, hS⟩; obtain ⟨ρ, rfl⟩ := env2 hA hρ
 all_goals (refine Zaa ?_; refine zf0 ?_; refine zl hS ?_; refine zR1 (c := has_c hS) (h := ?_); rintro v1 w1 ⟨rfl, hS⟩; refine Zac ?_; generalize hh : hasF x.op = h at *; refine Zaa ?_)
 refine zKL hS 9 [0, 3, 4] (fun A LL ρ' w' => ∃ (q1 : Bool), Has ρ' A ∧ Has ρ' [(18, .pointer (some ⟨b, 0, none⟩)), (26, .bool q1)] ∧ (q1 = true ↔ (Q1m h 97 = false ∧ x.a ≠ 0)) ∧ St cx w' (LL)) ?_ ?_
 · skip
   all_goals (refine ZaO ?_; refine zR2 (c := Q5S hsz hS) (h := ?_); rintro v1 w1 ⟨rfl, hS⟩)
   all_goals (cases ha1 : Q1m h 97)
   all_goals (refine znt ?_; refine zm ?_; (first | refine zgn ?_ | (refine zgy ?_; refine zf0 ?_)); (first | refine zgn ?_ | (refine zgy ?_; refine zl hS ?_)))
   all_goals (first | refine zgn ?_ | (refine zgy ?_; (first | (refine QC ?_) | (refine QJ ?_) | (refine Qj rfl rfl (fun hc => ?_) (fun hc => ?_)))))
   all_goals (refine Zbq ?_)
   all_goals (first | (exact ⟨_, zh, zh, by exact ⟨fun _ => ⟨(by first | rfl | assumption), by omega⟩, fun _ => rfl⟩, hS.sp⟩) | (exact ⟨_, zh, zh, by exact ⟨fun h => Bool.noConfusion h, fun h => by obtain ⟨h1, h2⟩ := h; first | (exfalso; omega) | (simp_all; done)⟩, hS.sp⟩))
 rintro ρ w1 ⟨q1, hA, hρ, hq1, hS⟩; obtain ⟨ρ, rfl⟩ := env2 hA hρ
 refine zKL hS 10 [0, 3, 4, 18] (fun A LL ρ' w' => ∃ (q2 : Bool), Has ρ' A ∧ Has ρ' [(36, .bool q2)] ∧ (q2 = true ↔ ((Q1m h 97 = false ∧ x.a ≠ 0) ∨ (Q1m h 98 = false ∧ x.b ≠ 0))) ∧ St cx w' (LL)) ?_ ?_
 · skip
   all_goals (cases q1)
   all_goals (refine zm ?_; (first | refine zgn ?_ | (refine Zam ?_)); (first | refine zgn ?_ | (refine zgy ?_; refine zR2 (c := Q5S hsz hS) (h := ?_); rintro v1 w1 ⟨rfl, hS⟩)))
   all_goals (cases ha2 : Q1m h 98)
   all_goals ((first | refine zgn ?_ | (refine ZaP ?_)); (first | refine zgn ?_ | (refine Zam ?_)); (first | refine zgn ?_ | (refine zgy ?_; refine zf0 ?_)); (first | refine zgn ?_ | (refine zgy ?_; refine zl hS ?_)))
   all_goals (first | refine zgn ?_ | (refine zgy ?_; (first | (refine QC ?_) | (refine QJ ?_) | (refine Qj rfl rfl (fun hc => ?_) (fun hc => ?_)))))
   all_goals ((first | refine zgn ?_ | (refine ZaB ?_)); refine Zbq ?_)
   all_goals (first | (exact ⟨_, zh, zh, by exact ⟨fun _ => .inl (hq1.1 rfl), fun _ => rfl⟩, hS.sp⟩) | (exact ⟨_, zh, zh, by exact ⟨fun _ => .inr ⟨(by first | rfl | assumption), by omega⟩, fun _ => rfl⟩, hS.sp⟩) | (exact ⟨_, zh, zh, by exact ⟨fun h => Bool.noConfusion h, fun h => h.elim (fun h => hq1.2 h) (fun h => by obtain ⟨h1, h2⟩ := h; first | (exfalso; omega) | (simp_all; done))⟩, hS.sp⟩))
 rintro ρ w1 ⟨q2, hA, hρ, hq2, hS⟩; obtain ⟨ρ, rfl⟩ := env2 hA hρ
 refine zKL hS 10 [0, 3, 4, 18] (fun A LL ρ' w' => ∃ (q3 : Bool), Has ρ' A ∧ Has ρ' [(46, .bool q3)] ∧ (q3 = true ↔ (((Q1m h 97 = false ∧ x.a ≠ 0) ∨ (Q1m h 98 = false ∧ x.b ≠ 0)) ∨ (Q1m h 99 = false ∧ x.c ≠ 0))) ∧ St cx w' (LL)) ?_ ?_
 · skip
   all_goals (cases q2)
   all_goals (refine zm ?_; (first | refine zgn ?_ | (refine Zam ?_)); (first | refine zgn ?_ | (refine zgy ?_; refine zR2 (c := Q5S hsz hS) (h := ?_); rintro v1 w1 ⟨rfl, hS⟩)))
   all_goals (cases ha3 : Q1m h 99)
   all_goals ((first | refine zgn ?_ | (refine ZaP ?_)); (first | refine zgn ?_ | (refine Zam ?_)); (first | refine zgn ?_ | (refine zgy ?_; refine zf0 ?_)); (first | refine zgn ?_ | (refine zgy ?_; refine zl hS ?_)))
   all_goals (first | refine zgn ?_ | (refine zgy ?_; (first | (refine QC ?_) | (refine QJ ?_) | (refine Qj rfl rfl (fun hc => ?_) (fun hc => ?_)))))
   all_goals ((first | refine zgn ?_ | (refine ZaB ?_)); refine Zbq ?_)
   all_goals (first | (exact ⟨_, zh, zh, by exact ⟨fun _ => .inl (hq2.1 rfl), fun _ => rfl⟩, hS.sp⟩) | (exact ⟨_, zh, zh, by exact ⟨fun _ => .inr ⟨(by first | rfl | assumption), by omega⟩, fun _ => rfl⟩, hS.sp⟩) | (exact ⟨_, zh, zh, by exact ⟨fun h => Bool.noConfusion h, fun h => h.elim (fun h => hq2.2 h) (fun h => by obtain ⟨h1, h2⟩ := h; first | (exfalso; omega) | (simp_all; done))⟩, hS.sp⟩))
 rintro ρ w1 ⟨q3, hA, hρ, hq3, hS⟩; obtain ⟨ρ, rfl⟩ := env2 hA hρ
 refine zKL hS 10 [0, 3, 4, 18] (fun A LL ρ' w' => ∃ (q4 : Bool), Has ρ' A ∧ Has ρ' [(56, .bool q4)] ∧ (q4 = true ↔ ((((Q1m h 97 = false ∧ x.a ≠ 0) ∨ (Q1m h 98 = false ∧ x.b ≠ 0)) ∨ (Q1m h 99 = false ∧ x.c ≠ 0)) ∨ (Q1m h 107 = false ∧ x.k ≠ 0))) ∧ St cx w' (LL)) ?_ ?_
 · skip
   all_goals (cases q3)
   all_goals (refine zm ?_; (first | refine zgn ?_ | (refine Zam ?_)); (first | refine zgn ?_ | (refine zgy ?_; refine zR2 (c := Q5S hsz hS) (h := ?_); rintro v1 w1 ⟨rfl, hS⟩)))
   all_goals (cases ha4 : Q1m h 107)
   all_goals ((first | refine zgn ?_ | (refine ZaP ?_)); (first | refine zgn ?_ | (refine Zam ?_)); (first | refine zgn ?_ | (refine zgy ?_; refine zf0 ?_)); (first | refine zgn ?_ | (refine zgy ?_; refine zl hS ?_)))
   all_goals (first | refine zgn ?_ | (refine zgy ?_; (first | (refine QC ?_) | (refine QJ ?_) | (refine Qj rfl rfl (fun hc => ?_) (fun hc => ?_)))))
   all_goals ((first | refine zgn ?_ | (refine ZaB ?_)); refine Zbq ?_)
   all_goals (first | (exact ⟨_, zh, zh, by exact ⟨fun _ => .inl (hq3.1 rfl), fun _ => rfl⟩, hS.sp⟩) | (exact ⟨_, zh, zh, by exact ⟨fun _ => .inr ⟨(by first | rfl | assumption), by omega⟩, fun _ => rfl⟩, hS.sp⟩) | (exact ⟨_, zh, zh, by exact ⟨fun h => Bool.noConfusion h, fun h => h.elim (fun h => hq3.2 h) (fun h => by obtain ⟨h1, h2⟩ := h; first | (exfalso; omega) | (simp_all; done))⟩, hS.sp⟩))
 rintro ρ w1 ⟨q4, hA, hρ, hq4, hS⟩; obtain ⟨ρ, rfl⟩ := env2 hA hρ
 refine zKL hS 10 [0, 3, 4, 18] (fun A LL ρ' w' => ∃ (q5 : Bool), Has ρ' A ∧ Has ρ' [(66, .bool q5)] ∧ (q5 = true ↔ (((((Q1m h 97 = false ∧ x.a ≠ 0) ∨ (Q1m h 98 = false ∧ x.b ≠ 0)) ∨ (Q1m h 99 = false ∧ x.c ≠ 0)) ∨ (Q1m h 107 = false ∧ x.k ≠ 0)) ∨ (Q1m h 110 = false ∧ x.n ≠ 0))) ∧ St cx w' (LL)) ?_ ?_
 · skip
   all_goals (cases q4)
   all_goals (refine zm ?_; (first | refine zgn ?_ | (refine Zam ?_)); (first | refine zgn ?_ | (refine zgy ?_; refine zR2 (c := Q5S hsz hS) (h := ?_); rintro v1 w1 ⟨rfl, hS⟩)))
   all_goals (cases ha5 : Q1m h 110)
   all_goals ((first | refine zgn ?_ | (refine ZaP ?_)); (first | refine zgn ?_ | (refine Zam ?_)); (first | refine zgn ?_ | (refine zgy ?_; refine zf0 ?_)); (first | refine zgn ?_ | (refine zgy ?_; refine zl hS ?_)))
   all_goals (first | refine zgn ?_ | (refine zgy ?_; (first | (refine QC ?_) | (refine QJ ?_) | (refine Qj rfl rfl (fun hc => ?_) (fun hc => ?_)))))
   all_goals ((first | refine zgn ?_ | (refine ZaB ?_)); refine Zbq ?_)
   all_goals (first | (exact ⟨_, zh, zh, by exact ⟨fun _ => .inl (hq4.1 rfl), fun _ => rfl⟩, hS.sp⟩) | (exact ⟨_, zh, zh, by exact ⟨fun _ => .inr ⟨(by first | rfl | assumption), by omega⟩, fun _ => rfl⟩, hS.sp⟩) | (exact ⟨_, zh, zh, by exact ⟨fun h => Bool.noConfusion h, fun h => h.elim (fun h => hq4.2 h) (fun h => by obtain ⟨h1, h2⟩ := h; first | (exfalso; omega) | (simp_all; done))⟩, hS.sp⟩))
 rintro ρ w1 ⟨q5, hA, hρ, hq5, hS⟩; obtain ⟨ρ, rfl⟩ := env2 hA hρ
 refine zKL hS 11 [0, 3, 4, 18] (fun A LL ρ' w' => ∃ (q6 : Bool), Has ρ' A ∧ Has ρ' [(77, .bool q6)] ∧ (q6 = true ↔ ((((((Q1m h 97 = false ∧ x.a ≠ 0) ∨ (Q1m h 98 = false ∧ x.b ≠ 0)) ∨ (Q1m h 99 = false ∧ x.c ≠ 0)) ∨ (Q1m h 107 = false ∧ x.k ≠ 0)) ∨ (Q1m h 110 = false ∧ x.n ≠ 0)) ∨ (Q1m h 103 = false ∧ 0 < x.regs.length))) ∧ St cx w' (LL)) ?_ ?_
 · skip
   all_goals (cases q5)
   all_goals (refine zm ?_; (first | refine zgn ?_ | (refine Zam ?_)); (first | refine zgn ?_ | (refine zgy ?_; refine zR2 (c := Q5S hsz hS) (h := ?_); rintro v1 w1 ⟨rfl, hS⟩)))
   all_goals (cases ha6 : Q1m h 103)
   all_goals ((first | refine zgn ?_ | (refine ZaP ?_)); (first | refine zgn ?_ | (refine Zam ?_)); (first | refine zgn ?_ | (refine zgy ?_; refine zf0 ?_)); (first | refine zgn ?_ | (refine zgy ?_; refine zl hS ?_)); (first | refine zgn ?_ | (refine zgy ?_; refine zL ?_)))
   all_goals (first | refine zgn ?_ | (refine zgy ?_; (first | (refine QG ?_) | (refine QL ?_) | (refine Qc rfl rfl (fun hc => ?_) (fun hc => ?_)))))
   all_goals ((first | refine zgn ?_ | (refine ZaB ?_)); refine Zbq ?_)
   all_goals (first | (exact ⟨_, zh, zh, by exact ⟨fun _ => .inl (hq5.1 rfl), fun _ => rfl⟩, hS.sp⟩) | (exact ⟨_, zh, zh, by exact ⟨fun _ => .inr ⟨(by first | rfl | assumption), by omega⟩, fun _ => rfl⟩, hS.sp⟩) | (exact ⟨_, zh, zh, by exact ⟨fun h => Bool.noConfusion h, fun h => h.elim (fun h => hq5.2 h) (fun h => by obtain ⟨h1, h2⟩ := h; first | (exfalso; omega) | (simp_all; done))⟩, hS.sp⟩))
 rintro ρ w1 ⟨q6, hA, hρ, hq6, hS⟩; obtain ⟨ρ, rfl⟩ := env2 hA hρ
 refine zKL hS 11 [0, 3, 18] (fun A LL ρ' w' => ∃ (q7 : Bool), Has ρ' A ∧ Has ρ' [(88, .bool q7)] ∧ (q7 = true ↔ (((((((Q1m h 97 = false ∧ x.a ≠ 0) ∨ (Q1m h 98 = false ∧ x.b ≠ 0)) ∨ (Q1m h 99 = false ∧ x.c ≠ 0)) ∨ (Q1m h 107 = false ∧ x.k ≠ 0)) ∨ (Q1m h 110 = false ∧ x.n ≠ 0)) ∨ (Q1m h 103 = false ∧ 0 < x.regs.length)) ∨ (Q1m h 114 = false ∧ 0 < x.args.length))) ∧ St cx w' (LL)) ?_ ?_
 · skip
   all_goals (cases q6)
   all_goals (refine zm ?_; (first | refine zgn ?_ | (refine Zam ?_)); (first | refine zgn ?_ | (refine zgy ?_; refine zR2 (c := Q5S hsz hS) (h := ?_); rintro v1 w1 ⟨rfl, hS⟩)))
   all_goals (cases ha7 : Q1m h 114)
   all_goals ((first | refine zgn ?_ | (refine ZaP ?_)); (first | refine zgn ?_ | (refine Zam ?_)); (first | refine zgn ?_ | (refine zgy ?_; refine zf0 ?_)); (first | refine zgn ?_ | (refine zgy ?_; refine zl hS ?_)); (first | refine zgn ?_ | (refine zgy ?_; refine zL ?_)))
   all_goals (first | refine zgn ?_ | (refine zgy ?_; (first | (refine QG ?_) | (refine QL ?_) | (refine Qc rfl rfl (fun hc => ?_) (fun hc => ?_)))))
   all_goals ((first | refine zgn ?_ | (refine ZaB ?_)); refine Zbq ?_)
   all_goals (first | (exact ⟨_, zh, zh, by exact ⟨fun _ => .inl (hq6.1 rfl), fun _ => rfl⟩, hS.sp⟩) | (exact ⟨_, zh, zh, by exact ⟨fun _ => .inr ⟨(by first | rfl | assumption), by omega⟩, fun _ => rfl⟩, hS.sp⟩) | (exact ⟨_, zh, zh, by exact ⟨fun h => Bool.noConfusion h, fun h => h.elim (fun h => hq6.2 h) (fun h => by obtain ⟨h1, h2⟩ := h; first | (exfalso; omega) | (simp_all; done))⟩, hS.sp⟩))
 rintro ρ w1 ⟨q7, hA, hρ, hq7, hS⟩; obtain ⟨ρ, rfl⟩ := env2 hA hρ
 all_goals (refine zR3 (c := Q1Z (by intro _; decide) hS fd) (h := ?_); rintro v1 w1 ⟨rfl, hS⟩; simp only [List.set_cons_zero, List.set_cons_succ, if_true, Bool.false_eq_true, if_false] at hS; refine ZaZ ?_; clear hq1 hq2 hq3 hq4 hq5 hq6; have hq := hq7; clear hq7; refine Qn ?_; refine zf0 ?_; refine zl hS ?_; refine ZbF ?_; refine Zaa ?_)
 all_goals (first | (refine Qd ?_) | (refine Qh ?_) | (refine Q6 rfl rfl (fun hc => ?_) (fun hc => ?_)))
 all_goals (refine Zac ?_)
 all_goals
  first
  | (refine zct ?_
     all_goals (refine Zak ?_; refine zf0 ?_; refine zl hS ?_)
     all_goals (first | (refine Q1c ?_) | (refine Q1l ?_) | (refine QB rfl rfl (fun hc => ?_) (fun hc => ?_)))
     all_goals (refine zm ?_; (first | refine zgn ?_ | (refine zgy ?_; refine zf0 ?_)); (first | refine zgn ?_ | (refine zgy ?_; refine zl hS ?_)))
     all_goals (first | refine zgn ?_ | (refine zgy ?_; (first | (refine QG ?_) | (refine QL ?_) | (refine Qc rfl rfl (fun hc => ?_) (fun hc => ?_)))))
     all_goals ((first | (refine zpt ?_) | (refine zpf ?_)); refine zR3 (c := Q1Z (by intro _; decide) hS fd) (h := ?_); rintro v1 w1 ⟨rfl, hS⟩; simp only [List.set_cons_zero, List.set_cons_succ, if_true, Bool.false_eq_true, if_false] at hS)
     all_goals refine zn ?_)
  | (refine zcf ?_
     all_goals (refine Zaa ?_)
     all_goals (first | (refine Qd ?_) | (refine Qh ?_) | (refine Q6 rfl rfl (fun hc => ?_) (fun hc => ?_)))
     all_goals (refine Zac ?_)
     all_goals
      first
      | (refine zct ?_
         all_goals (refine Zak ?_; refine zf0 ?_; refine zl hS ?_; refine zL ?_)
         all_goals (first | (refine QG ?_) | (refine QL ?_) | (refine Qc rfl rfl (fun hc => ?_) (fun hc => ?_)))
         all_goals (refine zR3 (c := Q1Z (by intro _; decide) hS fd) (h := ?_); rintro v1 w1 ⟨rfl, hS⟩; simp only [List.set_cons_zero, List.set_cons_succ, if_true, Bool.false_eq_true, if_false] at hS)
         all_goals refine zn ?_)
      | (refine zcf ?_
         all_goals (refine Zav ?_)
         all_goals (first | (refine Qd ?_) | (refine Qh ?_) | (refine Q6 rfl rfl (fun hc => ?_) (fun hc => ?_)))
         all_goals (refine Zac ?_)
         all_goals
          first
          | (refine zct ?_
             all_goals refine zsk ?_)
          | (refine zcf ?_
             all_goals (refine Qn ?_)
             all_goals (first | (refine Qd ?_) | (refine Qh ?_) | (refine Q6 rfl rfl (fun hc => ?_) (fun hc => ?_)))
             all_goals (refine zm ?_)
             all_goals refine zn ?_)
         all_goals
          first
          | (refine zct ?_
             all_goals (refine Zak ?_; refine zf0 ?_; refine zl hS ?_)
             all_goals (first | (refine Q1c ?_) | (refine Q1l ?_) | (refine QB rfl rfl (fun hc => ?_) (fun hc => ?_)))
             all_goals (refine zm ?_; (first | refine zgn ?_ | (refine zgy ?_; refine zf0 ?_)); (first | refine zgn ?_ | (refine zgy ?_; refine zl hS ?_)))
             all_goals (first | refine zgn ?_ | (refine zgy ?_; (first | (refine Q2l ?_) | (refine Q2U ?_) | (refine Q1M rfl rfl (fun hc => ?_) (fun hc => ?_)))))
             all_goals ((first | (refine zpt ?_) | (refine zpf ?_)); refine zR3 (c := Q1Z (by intro _; decide) hS fd) (h := ?_); rintro v1 w1 ⟨rfl, hS⟩; simp only [List.set_cons_zero, List.set_cons_succ, if_true, Bool.false_eq_true, if_false] at hS)
             all_goals refine zn ?_)
          | (refine zcf ?_
             all_goals (refine Zaa ?_)
             all_goals (first | (refine Qd ?_) | (refine Qh ?_) | (refine Q6 rfl rfl (fun hc => ?_) (fun hc => ?_)))
             all_goals (refine Zac ?_)
             all_goals
              first
              | (refine zct ?_
                 all_goals (refine Qb ?_; refine zD (ci 16 [15]) ?_; have hS := hS.drew; refine zm ?_; refine zf0 ?_; refine zl hS ?_)
                 all_goals (first | (refine Q1c ?_) | (refine Q1l ?_) | (refine QB rfl rfl (fun hc => ?_) (fun hc => ?_)))
                 all_goals (refine zm ?_; (first | refine zgn ?_ | (refine zgy ?_; refine zf0 ?_)); (first | refine zgn ?_ | (refine zgy ?_; refine zl hS ?_)); (first | refine zgn ?_ | (refine Zam ?_)); (first | refine zgn ?_ | (refine ZaQ ?_)); (first | refine zgn ?_ | (refine zgy ?_; refine zf0 ?_)); (first | refine zgn ?_ | (refine zgy ?_; refine zf0 ?_)); (first | refine zgn ?_ | (refine zgy ?_; refine zl hS ?_)); (first | refine zgn ?_ | (refine zgy ?_; refine zL ?_)))
                 all_goals (first | refine zgn ?_ | (refine zgy ?_; (first | (refine Q2l ?_) | (refine Q2U ?_) | (refine Q1M rfl rfl (fun hc => ?_) (fun hc => ?_)))))
                 all_goals ((first | (refine zpt ?_) | (refine zpf ?_)); refine zR3 (c := Q1Z (by intro _; decide) hS fd) (h := ?_); rintro v1 w1 ⟨rfl, hS⟩; simp only [List.set_cons_zero, List.set_cons_succ, if_true, Bool.false_eq_true, if_false] at hS; refine Zbd ?_; refine zf0 ?_; refine zl hS ?_; refine zL ?_)
                 all_goals (first | (refine QG ?_) | (refine QL ?_) | (refine Qc rfl rfl (fun hc => ?_) (fun hc => ?_)))
                 all_goals (refine zm ?_; (first | refine zgn ?_ | (refine zgy ?_; refine zf0 ?_)); (first | refine zgn ?_ | (refine zgy ?_; refine zl hS ?_)); (first | refine zgn ?_ | (refine zgy ?_; refine zL ?_)))
                 all_goals (first | refine zgn ?_ | (refine zgy ?_; (first | (refine QG ?_) | (refine QL ?_) | (refine Qc rfl rfl (fun hc => ?_) (fun hc => ?_)))))
                 all_goals ((first | (refine zpt ?_) | (refine zpf ?_)); refine zR3 (c := Q1Z (by intro _; decide) hS fd) (h := ?_); rintro v1 w1 ⟨rfl, hS⟩; simp only [List.set_cons_zero, List.set_cons_succ, if_true, Bool.false_eq_true, if_false] at hS)
                 all_goals refine zn ?_)
              | (refine zcf ?_
                 all_goals refine zsk ?_))))
 all_goals (refine Q1j ?_; refine ⟨_, rfl, rfl, ?_⟩; subst hh; rw [← ins_end (c3 := Q1w n.length x) hq rfl]; clear hq hx hr ha hf hsz; have hS := hS.drop; refine St.back ?_ hi; first | (rw [show Q1w n.length x = 0 from (by unfold Q1w; (repeat (first | rw [if_pos (by omega)] | rw [if_neg (by omega)])))]; first | (rw [Q1S, Qar rfl]; exact hS) | exact hS | (rw [Q2c, Q3s] at hS; exact hS)) | (rw [show Q1w n.length x = 1 from (by unfold Q1w; (repeat (first | rw [if_pos (by omega)] | rw [if_neg (by omega)])))]; first | exact hS | (rw [Q2c, Q3G (by decide)] at hS; exact hS)) | (rw [show Q1w n.length x = 2 from (by unfold Q1w; (repeat (first | rw [if_pos (by omega)] | rw [if_neg (by omega)])))]; first | exact hS | (rw [Q2c, Q3s] at hS; exact hS)) | (trace_state; fail "end"))
theorem to_c {x : Fun} {t : To} {is : Bool} {vf : Value} {g : Flt} {at' : Int} {b : Nat} {cs ds : List Value} (hx : funcR.at cx cs x) (ht : toR.at cx ds t) (hS : St cx w L) (hi : nth L i = some (jdg b vf g at')) :
 Rets Tryz.prog Q7D [.pointer (some ⟨b, 0, none⟩), .agg ⟨cs⟩, .agg ⟨ds⟩, .bool is] w fun u w' => u = .tuple #[] ∧ St cx w' (L.set i (jdg b vf (orF g (mkF (Q1r x.blocks.length t is) at')) at')) := by
 have hS := hS.out hi
 obtain ⟨vp, vr, vb, rfl, hp, hr, hb⟩ := Qv hx
 obtain ⟨v1, v2, rfl, h1, h2⟩ := Q2u ht
 have hlb := hb.len
 have hl1 := h1.len
 have hl2 := h2.len
 cases is with
 | false =>
   all_goals refine lgo tyD Tryz.func215 ?_
   all_goals (refine Zaz ?_; intro p5 w1 hS; refine zb hS ?_; intro p6 w1 hS; refine zn ?_; refine ZaA ?_; refine Zba ?_)
   all_goals refine zct ?_
   all_goals (refine Zad ?_; refine zf0 ?_; refine zl hS ?_)
   all_goals (first | (refine QC ?_) | (refine QJ ?_) | (refine Qj rfl rfl (fun hc => ?_) (fun hc => ?_)))
   all_goals (refine zm ?_; (first | refine zgn ?_ | (refine zgy ?_; refine zf0 ?_)); (first | refine zgn ?_ | (refine zgy ?_; refine zl hS ?_)); (first | refine zgn ?_ | (refine zgy ?_; refine zL ?_)))
   all_goals (first | refine zgn ?_ | (refine zgy ?_; (first | (refine QG ?_) | (refine QL ?_) | (refine Qc rfl rfl (fun hc => ?_) (fun hc => ?_)))))
   all_goals (refine Zai ?_; (first | refine zgn ?_ | (refine zgy ?_; refine zf0 ?_)); (first | refine zgn ?_ | (refine zgy ?_; refine zl hS ?_)); (first | refine zgn ?_ | (refine zgy ?_; refine zL ?_)))
   all_goals (first | refine zgn ?_ | (refine zgy ?_; (first | (refine QG ?_) | (refine QL ?_) | (refine Qc rfl rfl (fun hc => ?_) (fun hc => ?_)))))
   all_goals ((first | (refine zpt ?_) | (refine zpf ?_)); refine zR3 (c := Q1Z (by intro _; decide) hS fd) (h := ?_); rintro v1 w1 ⟨rfl, hS⟩; simp only [List.set_cons_zero, List.set_cons_succ, if_true, Bool.false_eq_true, if_false] at hS; refine ZaX ?_; refine q_ret0 ?_; refine ⟨_, rfl, rfl, ?_⟩; have hS := hS.drop.drop; refine St.back ?_ hi; first | (rw [show Q1r x.blocks.length t false = 4 from (by unfold Q1r; rw [if_pos rfl, if_pos (by omega)])]; exact hS) | (rw [show Q1r x.blocks.length t false = 0 from (by unfold Q1r; rw [if_pos rfl, if_neg (by omega)])]; exact hS))
 | true =>
   all_goals refine lgo tyD Tryz.func215 ?_
   all_goals (refine Zaz ?_; intro p5 w1 hS; refine zb hS ?_; intro p6 w1 hS; refine zn ?_; refine ZaA ?_; refine Zba ?_)
   all_goals refine zcf ?_
   all_goals (refine zsk ?_; refine Zad ?_; refine zf0 ?_; refine zl hS ?_)
   all_goals (first | (refine Q1c ?_) | (refine Q1l ?_) | (refine QB rfl rfl (fun hc => ?_) (fun hc => ?_)))
   all_goals (refine zm ?_; (first | refine zgn ?_ | (refine zgy ?_; refine zf0 ?_)); (first | refine zgn ?_ | (refine zgy ?_; refine zl hS ?_)); (first | refine zgn ?_ | (refine zgy ?_; refine zf0 ?_)); (first | refine zgn ?_ | (refine zgy ?_; refine zl hS ?_)); (first | refine zgn ?_ | (refine zgy ?_; refine zL ?_)))
   all_goals (first | refine zgn ?_ | (refine zgy ?_; (first | (refine Q2l ?_) | (refine Q2U ?_) | (refine Q1M rfl rfl (fun hc => ?_) (fun hc => ?_)))))
   all_goals ((first | (refine zpt ?_) | (refine zpf ?_)); refine zR3 (c := Q1Z (by intro _; decide) hS fd) (h := ?_); rintro v1 w1 ⟨rfl, hS⟩; simp only [List.set_cons_zero, List.set_cons_succ, if_true, Bool.false_eq_true, if_false] at hS; refine Zbd ?_; refine zf0 ?_; refine zl hS ?_; refine zL ?_)
   all_goals (first | (refine QG ?_) | (refine QL ?_) | (refine Qc rfl rfl (fun hc => ?_) (fun hc => ?_)))
   all_goals (refine zm ?_; (first | refine zgn ?_ | (refine zgy ?_; refine zf0 ?_)); (first | refine zgn ?_ | (refine zgy ?_; refine zl hS ?_)); (first | refine zgn ?_ | (refine zgy ?_; refine zL ?_)))
   all_goals (first | refine zgn ?_ | (refine zgy ?_; (first | (refine QG ?_) | (refine QL ?_) | (refine Qc rfl rfl (fun hc => ?_) (fun hc => ?_)))))
   all_goals ((first | (refine zpt ?_) | (refine zpf ?_)); refine zR3 (c := Q1Z (by intro _; decide) hS fd) (h := ?_); rintro v1 w1 ⟨rfl, hS⟩; simp only [List.set_cons_zero, List.set_cons_succ, if_true, Bool.false_eq_true, if_false] at hS; refine ZbM ?_; refine ⟨_, rfl, rfl, ?_⟩; have hS := hS.drop.drop; rw [Q2c] at hS; refine St.back ?_ hi; first | (rw [show Q1r x.blocks.length t true = 1 from (by unfold Q1r; rw [if_neg Bool.noConfusion, if_pos (by omega)])]; rw [Q3G (by decide)] at hS; exact hS) | (rw [show Q1r x.blocks.length t true = 2 from (by unfold Q1r; rw [if_neg Bool.noConfusion, if_neg (by omega), if_pos (by omega)])]; rw [Q3s] at hS; exact hS) | (rw [show Q1r x.blocks.length t true = 0 from (by unfold Q1r; rw [if_neg Bool.noConfusion, if_neg (by omega), if_neg (by omega)])]; rw [Q3s] at hS; exact hS))
theorem end_sum {g : Flt} {at' : Int} {n : Nat} {e : Tail} : orF (orF (orF (orF (orF g (mkF (if e.op < 1 ∨ 3 < e.op then 3 else 0) at')) (mkF (if e.op ≠ 2 ∧ e.a ≠ 0 ∨ e.op ≠ 3 ∧ 0 < e.args.length then 4 else 0) at')) (mkF (if 8 < e.args.length then 2 else 0) at')) (mkF (Q1r n e.yes (decide (e.op ≠ 3))) at')) (mkF (Q1r n e.no (decide (e.op = 2))) at') = orF g (mkF (Q1I n e) at') := by
 rw [Q2c, Q2c, Q2c, Q2c]
 congr 2
 unfold Q1I
 split
 · simp only [Q3G (show (3 : Int) ≠ 0 by decide)]
 · rw [Q3s]
   split
   · simp only [Q3G (show (4 : Int) ≠ 0 by decide)]
   · rw [Q3s]
     split
     · simp only [Q3G (show (2 : Int) ≠ 0 by decide)]
     · rw [Q3s]
theorem end_c {x : Fun} {e : Tail} {vf : Value} {g : Flt} {at' : Int} {b : Nat} {cs ds : List Value} (hx : funcR.at cx cs x) (he : endR.at cx ds e) (hS : St cx w L) (hi : nth L i = some (jdg b vf g at')) :
 Rets Tryz.prog Q6L [.pointer (some ⟨b, 0, none⟩), .agg ⟨cs⟩, .agg ⟨ds⟩] w fun u w' => u = .tuple #[] ∧ St cx w' (L.set i (jdg b vf (orF g (mkF (Q1I x.blocks.length e) at')) at')) := by
 have hS := hS.out hi
 obtain ⟨vp, vr, vb, rfl, hp, hr, hb⟩ := Qv hx
 obtain ⟨v1, v2, v3, v4, v5, rfl, h1, h2, h3, h4, h5⟩ := Q2Q he
 have hl5 := h5.len
 all_goals refine lgo tyD Tryz.func165 ?_
 all_goals (refine Zaz ?_; intro p4 w1 hS; refine zb hS ?_; intro p5 w1 hS; refine zn ?_)
 refine zM [0, 4, 5] (fun A ρ' w' => Has ρ' A ∧ Has ρ' [] ∧ St cx w' (blk p5 90 [.int .i64 e.op, .int .i64 e.a, .int .i64 e.yes.block, v1, v2, .int .i64 e.no.block, v3, v4, v5] :: blk p4 95 [.int .i64 x.regs, vp, vr, vb] :: jdg b vf (orF g (mkF (if e.op < 1 ∨ 3 < e.op then 3 else 0) at')) at' :: L.eraseIdx i)) ?_ ?_
 · skip
   all_goals (refine Zak ?_; refine zf0 ?_; refine zl hS ?_)
   all_goals (first | (refine Q1c ?_) | (refine Q1l ?_) | (refine QB rfl rfl (fun hc => ?_) (fun hc => ?_)))
   all_goals (refine zm ?_; (first | refine zgn ?_ | (refine zgy ?_; refine zf0 ?_)); (first | refine zgn ?_ | (refine zgy ?_; refine zl hS ?_)))
   all_goals (first | refine zgn ?_ | (refine zgy ?_; (first | (refine QG ?_) | (refine QL ?_) | (refine Qc rfl rfl (fun hc => ?_) (fun hc => ?_)))))
   all_goals ((first | (refine zpt ?_) | (refine zpf ?_)); refine zR3 (c := Q1Z (by intro _; decide) hS fd) (h := ?_); rintro v1 w1 ⟨rfl, hS⟩; simp only [List.set_cons_zero, List.set_cons_succ, if_true, Bool.false_eq_true, if_false] at hS; refine zn ?_; exact ⟨zh, zh, by first | (rw [if_pos (by omega)]; exact hS.sp) | (rw [if_neg (by omega)]; exact hS.sp)⟩)
 rintro ρ w1 ⟨hA, hρ, hS⟩; obtain ⟨ρ, rfl⟩ := env2 hA hρ
 refine zM [0, 4, 5] (fun A ρ' w' => Has ρ' A ∧ Has ρ' [] ∧ St cx w' (blk p5 90 [.int .i64 e.op, .int .i64 e.a, .int .i64 e.yes.block, v1, v2, .int .i64 e.no.block, v3, v4, v5] :: blk p4 95 [.int .i64 x.regs, vp, vr, vb] :: jdg b vf (orF (orF g (mkF (if e.op < 1 ∨ 3 < e.op then 3 else 0) at')) (mkF (if e.op ≠ 2 ∧ e.a ≠ 0 ∨ e.op ≠ 3 ∧ 0 < e.args.length then 4 else 0) at')) at' :: L.eraseIdx i)) ?_ ?_
 · skip
   all_goals (refine Zak ?_; refine zf0 ?_; refine zl hS ?_)
   all_goals (first | (refine QC ?_) | (refine QJ ?_) | (refine Qj rfl rfl (fun hc => ?_) (fun hc => ?_)))
   all_goals (refine zm ?_; (first | refine zgn ?_ | (refine zgy ?_; refine zf0 ?_)); (first | refine zgn ?_ | (refine zgy ?_; refine zl hS ?_)))
   all_goals (first | refine zgn ?_ | (refine zgy ?_; (first | (refine QC ?_) | (refine QJ ?_) | (refine Qj rfl rfl (fun hc => ?_) (fun hc => ?_)))))
   all_goals (refine Zai ?_; (first | refine zgn ?_ | (refine zgy ?_; refine zf0 ?_)); (first | refine zgn ?_ | (refine zgy ?_; refine zl hS ?_)))
   all_goals (first | refine zgn ?_ | (refine zgy ?_; (first | (refine QC ?_) | (refine QJ ?_) | (refine Qj rfl rfl (fun hc => ?_) (fun hc => ?_)))))
   all_goals ((first | refine zgn ?_ | (refine Zam ?_)); (first | refine zgn ?_ | (refine zgy ?_; refine zf0 ?_)); (first | refine zgn ?_ | (refine zgy ?_; refine zl hS ?_)); (first | refine zgn ?_ | (refine zgy ?_; refine zL ?_)))
   all_goals (first | refine zgn ?_ | (refine zgy ?_; (first | (refine QG ?_) | (refine QL ?_) | (refine Qc rfl rfl (fun hc => ?_) (fun hc => ?_)))))
   all_goals ((first | refine zgn ?_ | (refine ZaB ?_)); (first | (refine zpt ?_) | (refine zpf ?_)); refine zR3 (c := Q1Z (by intro _; decide) hS fd) (h := ?_); rintro v1 w1 ⟨rfl, hS⟩; simp only [List.set_cons_zero, List.set_cons_succ, if_true, Bool.false_eq_true, if_false] at hS; refine zn ?_; exact ⟨zh, zh, by first | (rw [if_pos (c := e.op ≠ 2 ∧ e.a ≠ 0 ∨ e.op ≠ 3 ∧ 0 < e.args.length) (by omega)]; exact hS.sp) | (rw [if_neg (c := e.op ≠ 2 ∧ e.a ≠ 0 ∨ e.op ≠ 3 ∧ 0 < e.args.length) (by omega)]; exact hS.sp)⟩)
 rintro ρ w1 ⟨hA, hρ, hS⟩; obtain ⟨ρ, rfl⟩ := env2 hA hρ
 refine zM [0, 4, 5] (fun A ρ' w' => Has ρ' A ∧ Has ρ' [] ∧ St cx w' (blk p5 90 [.int .i64 e.op, .int .i64 e.a, .int .i64 e.yes.block, v1, v2, .int .i64 e.no.block, v3, v4, v5] :: blk p4 95 [.int .i64 x.regs, vp, vr, vb] :: jdg b vf (orF (orF (orF g (mkF (if e.op < 1 ∨ 3 < e.op then 3 else 0) at')) (mkF (if e.op ≠ 2 ∧ e.a ≠ 0 ∨ e.op ≠ 3 ∧ 0 < e.args.length then 4 else 0) at')) (mkF (if 8 < e.args.length then 2 else 0) at')) at' :: L.eraseIdx i)) ?_ ?_
 · skip
   all_goals (refine Zak ?_; refine zf0 ?_; refine zl hS ?_; refine zL ?_)
   all_goals (first | (refine QG ?_) | (refine QL ?_) | (refine Qc rfl rfl (fun hc => ?_) (fun hc => ?_)))
   all_goals (refine zR3 (c := Q1Z (by intro _; decide) hS fd) (h := ?_); rintro v1 w1 ⟨rfl, hS⟩; simp only [List.set_cons_zero, List.set_cons_succ, if_true, Bool.false_eq_true, if_false] at hS; refine zn ?_; exact ⟨zh, zh, by first | (rw [if_pos (c := 8 < e.args.length) (by omega)]; exact hS.sp) | (rw [if_neg (c := 8 < e.args.length) (by omega)]; exact hS.sp)⟩)
 rintro ρ w1 ⟨hA, hρ, hS⟩; obtain ⟨ρ, rfl⟩ := env2 hA hρ
 all_goals (refine Zad ?_; refine zv hS ?_; refine zf0 ?_; refine zv hS ?_; refine zf0 ?_; refine zl hS ?_; refine Q4m rfl rfl ?_; refine zR4 (c := to_c (t := e.yes) hx ⟨_, _, rfl, h1, h2⟩ hS fd) (h := ?_); rintro v1 w1 ⟨rfl, hS⟩; have hS := hS.ns; refine Zbd ?_; refine zv hS ?_; refine zf0 ?_; refine zv hS ?_; refine zf0 ?_; refine zl hS ?_; refine Q5Y rfl rfl ?_; refine zR4 (c := to_c (t := e.no) hx ⟨_, _, rfl, h3, h4⟩ hS fd) (h := ?_); rintro v1 w1 ⟨rfl, hS⟩; have hS := hS.ns; refine ZbM ?_; refine ⟨_, rfl, rfl, ?_⟩; rw [end_sum] at hS; exact St.back hS.drop.drop hi)
end
end Go.Proofs.YteflkifmgnpbhaaGreat
namespace Go.Proofs.YteflkifmgnpbhaaGreat
open Go.Lir
set_option maxHeartbeats 1000000
attribute [local irreducible] LC.wp Q0 QF QE retQ Q16 LO.wp Qf Calls
set_option linter.unusedSimpArgs false
set_option linter.unusedVariables false
structure FrmV where
 f : Nat
 b : Nat
 i : Nat
 vv : Value
 vals : List Val
 rv : Value
 regs : List Int
abbrev Q8 (l : List Int) : List (List Value) := l.map fun n => [.int .i64 n]
def FrmV.abs (x : FrmV) : Frm := ⟨x.f, x.b, x.i, x.vals, x.regs⟩
def FrmV.cells (x : FrmV) : List Value := [.int .i64 x.f, .int .i64 x.b, .int .i64 x.i, x.vv, x.rv]
def FrmV.res (x : FrmV) : Res := star (sl 224 4 x.vv (x.vals.map Val.cells)) (sl 3 1 x.rv (Q8 x.regs))
structure MC where
 hp : Value
 fn : Value
 lv : Value
 iv : Value
 e : Int
 bv : Value
 ov : Value
 fu : Int
 mo : Int
 dn : Bool
 c : Int
 a : Int
@[reducible] def MC.cells (x : MC) : List Value := [x.hp, x.fn, x.lv, x.iv, .int .i64 x.e, x.bv, x.ov, .int .i64 x.fu, .int .i64 x.mo, .bool x.dn, .int .i64 x.c, .int .i64 x.a]
@[reducible] def Q1v (fr : List FrmV) (g : FrmV) : List (List Value) := fr.map FrmV.cells ++ [g.cells]
theorem Q5 (fr : List FrmV) (g : FrmV) : (Q1v fr g).length = fr.length + 1 := by simp
theorem Q7 (fr : List FrmV) (g : FrmV) : (Q1v fr g)[fr.length]? = some g.cells := by
 rw [List.getElem?_append_right (by simp)]; simp
theorem Q1O {fr : List FrmV} {g g' : FrmV} {j : Nat} {u : Value} (h : g.cells.set j u = g'.cells) : (Q1v fr g).set fr.length (g.cells.set j u) = Q1v fr g' := by
 rw [h]
 unfold Q1v
 rw [List.set_append_right _ _ (by simp)]; simp
@[reducible] def mL (p : Nat) (c : MC) (fr : List FrmV) (g : FrmV) (L : List Res) : List Res := blk p 55 c.cells :: sl 110 5 c.lv (Q1v fr g) :: sl 224 4 g.vv (g.vals.map Val.cells) :: sl 3 1 g.rv (Q8 g.regs) :: big FrmV.res fr :: L
@[reducible] def Q3v : Value := .iface 121 (.agg ⟨[]⟩)
@[reducible] def Q8I (e : Int) : Value := .iface 122 (.int .i64 e)
variable {cx : Cx} {w : World} {L : List Res} {p : Nat} {c : MC} {fr : List FrmV} {g : FrmV}
theorem Q2e (hS : St cx w L) : Rets Tryz.prog Q70 [.bool true] w fun u w' => u = .tuple #[] ∧ St cx w' L := by
 all_goals refine lgo tyD Tryz.func172 ?_
 all_goals (refine Zad ?_; refine Zba ?_)
 all_goals refine zcf ?_
 all_goals (refine zsk ?_; refine Q1j ?_; exact ⟨_, rfl, rfl, hS.sp⟩)
theorem Q2i (hS : St cx w L) : Fins Tryz.prog Q70 [.bool false] w (fun _ _ => False) (fun u w' => u = Q3v ∧ St cx w' L) := by
 unfold Fins
 all_goals refine lgo tyD Tryz.func172 ?_
 all_goals (refine Zad ?_; refine Zba ?_)
 all_goals refine zct ?_
 all_goals (refine Qn ?_; refine zb0 [] ?_; refine zki ?_; refine Qbr rfl ?_; (repeat (first | refine Ql ?_ | refine Qm ?_)); refine QI ?_; exact .inr ⟨_, rfl, rfl, hS.sp⟩)
theorem Q3M {e : Int} (hS : St cx w L) : Rets Tryz.prog Q71 [.bool false, .int .i64 e] w fun u w' => u = .tuple #[] ∧ St cx w' L := by
 all_goals refine lgo tyD Tryz.func117 ?_
 all_goals (refine Zaa ?_; refine Zac ?_)
 all_goals refine zcf ?_
 all_goals (refine zsk ?_; refine Q1j ?_; exact ⟨_, rfl, rfl, hS.sp⟩)
theorem Q3L {e : Int} (hS : St cx w L) : Fins Tryz.prog Q71 [.bool true, .int .i64 e] w (fun _ _ => False) (fun u w' => u = Q8I e ∧ St cx w' L) := by
 unfold Fins
 all_goals refine lgo tyD Tryz.func117 ?_
 all_goals (refine Zaa ?_; refine Zac ?_)
 all_goals refine zct ?_
 all_goals (refine Zak ?_; refine zki ?_; refine Qbr rfl ?_; (repeat (first | refine Ql ?_ | refine Qm ?_)); refine QI ?_; exact .inr ⟨_, rfl, rfl, hS.sp⟩)
theorem Q4H {n : Int} (hS : St cx w L) : Rets Tryz.prog Q8c [.int .i64 n] w fun u w' => u = (intV n).v ∧ St cx w' L := by
 all_goals refine lgo tyD Tryz.func169 ?_
 all_goals (refine Zbh ?_; intro p2 w1 hS; refine Zbi ?_; refine zb2 [_, _, _, _] ?_; refine zsn hS ?_; intro w1 hS; have hS := hS.ns; refine ZaX ?_; refine Q19 vw (Q4 (n := 4) (by kernel_rfl) (by kernel_rfl) (hS.blkAt fd) (by rfl) (by rfl)) ?_; exact ⟨_, rfl, rfl, hS.sp⟩)
theorem Q3u (hf : fr.length ≤ 1000) (hS : St cx w (mL p c fr g L)) : Rets Tryz.prog Q5f [.pointer (some ⟨p, 0, none⟩)] w fun u w' => ∃ b o, u = .pointer (some ⟨b, o, none⟩) ∧ ElP c.lv (fr.length + 1) 5 fr.length b o ∧ St cx w' (mL p c fr g L) := by
 all_goals refine lgo tyD Tryz.func114 ?_
 all_goals (refine Zaa ?_; refine Zan ?_; refine zD (ci 12 [11]) ?_; have hS := hS.drew; refine Zbe ?_; refine zf0 ?_; refine zl hS ?_; refine Zbe ?_; refine zf0 ?_; refine zl hS ?_; refine QY hS vw fd (Q5 fr g) ?_; refine Q4e rfl rfl (by omega) (by omega) ?_; rw [show ((fr.length + 1 : Nat) : Int) - 1 = fr.length by omega]; refine Q29 hS vw rfl fd (by rw [Q5]; omega) ?_; rw [Q5]; intro b1 o1 hel; refine Zah ?_; exact ⟨_, rfl, b1, o1, rfl, hel, hS.sp⟩)
theorem Q2V {k : Int} (hf : fr.length ≤ 1000) (hS : St cx w (mL p c fr g L)) : Fins Tryz.prog Q5e [.pointer (some ⟨p, 0, none⟩), .int .i64 k] w
 (fun u w' => ∃ v : Val, g.abs.val k = some v ∧ u = v.v ∧ St cx w' (mL p c fr g L)) (fun u w' => g.abs.val k = none ∧ u = Q3v ∧ St cx w' (mL p c fr g L)) := by
 unfold Fins
 by_cases hk : 0 ≤ k ∧ k < g.vals.length
 · obtain ⟨v, hv⟩ : ∃ v, g.vals[k.toNat]? = some v := ⟨_, List.getElem?_eq_getElem (by omega)⟩
   have hg : g.abs.val k = some v := by unfold Frm.val; rw [if_neg (by omega)]; exact hv
   all_goals refine lgo tyD Tryz.func174 ?_
   all_goals (refine Zbh ?_; intro p4 w1 hS; refine ZaZ ?_; have hS : St cx _ (mL p c fr g (blk p4 224 [.int .i64 0, .int .i64 0, .int .i64 0, .int .i64 0] :: L)) := hS.sp; refine Zak ?_; refine zR1 (c := Q3u hf hS) (h := ?_); rintro v1 w1 ⟨b1, o1, rfl, hel, hS⟩; refine Zag ?_; refine Q1 hS hel rfl fd (Q5 fr g) (Q7 fr g) rfl ?_; refine ZaE ?_)
   all_goals (refine Q2l ?_)
   all_goals (refine zm ?_; (first | refine zgn ?_ | (refine Zam ?_)); (first | refine zgn ?_ | (refine Zam ?_)); (first | refine zgn ?_ | (refine ZaM ?_)))
   all_goals (first | refine zgn ?_ | (refine zgy ?_; refine Q1c ?_))
   all_goals (refine zpt ?_; refine zR1 (c := Q2e hS) (h := ?_); rintro v1 w1 ⟨rfl, hS⟩; refine Zbi ?_; refine zm ?_; refine QV hS vw rfl fd (by omega) (by rw [List.length_map]; omega) ?_; rw [List.length_map]; intro b2 o2 hel2; refine Q1i hS hel2 rfl fd (List.length_map _) (show (g.vals.map Val.cells)[k.toNat]? = some v.cells by rw [List.getElem?_map, hv]; rfl) ?_; refine Q1n hS rfl rfl (by rfl) fd (by simp) (by simp [Val.cells, oneC]) (by rfl) ?_; intro w1 hS; have hS := hS.ns; refine ZaX ?_; refine Q19 vw (Q4 (n := 4) (by kernel_rfl) (by kernel_rfl) (hS.blkAt fd) (by rfl) (by rfl)) ?_; exact .inl ⟨_, rfl, v, hg, rfl, hS.sp⟩)
 · have hg : g.abs.val k = none := by
    unfold Frm.val
    by_cases h0 : k < 0
    · rw [if_pos h0]
    · rw [if_neg h0]; exact List.getElem?_eq_none (by show g.vals.length ≤ _; omega)
   all_goals refine lgo tyD Tryz.func174 ?_
   all_goals (refine Zbh ?_; intro p4 w1 hS; refine ZaZ ?_; have hS : St cx _ (mL p c fr g (blk p4 224 [.int .i64 0, .int .i64 0, .int .i64 0, .int .i64 0] :: L)) := hS.sp; refine Zak ?_; refine zR1 (c := Q3u hf hS) (h := ?_); rintro v1 w1 ⟨b1, o1, rfl, hel, hS⟩; refine Zag ?_; refine Q1 hS hel rfl fd (Q5 fr g) (Q7 fr g) rfl ?_; refine ZaE ?_)
   all_goals (first | (refine Q2l ?_) | (refine Q2U ?_) | (refine Q1M rfl rfl (fun hc => ?_) (fun hc => ?_)))
   all_goals (refine zm ?_; (first | refine zgn ?_ | (refine Zam ?_)); (first | refine zgn ?_ | (refine Zam ?_)); (first | refine zgn ?_ | (refine ZaM ?_)))
   all_goals (first | refine zgn ?_ | (refine ZbG ?_))
   all_goals ((first | (refine zpt ?_) | (refine zpf ?_)))
   all_goals (first | (refine zR1 (c := Q2e hS) (h := ?_); rintro v1 w1 ⟨rfl, hS⟩) | (refine zE1 (c := Q2i hS) (p := by rintro v9 w9 ⟨rfl, hS⟩; (repeat (first | refine Ql ?_ | refine Qm ?_ | refine fun _ => ?_)); refine QI ?_; refine .inr ⟨_, rfl, ?_⟩; first | (exact ⟨hg, rfl, hS.sp⟩)) (h := fun _ _ h => h.elim)))
   all_goals (refine Zbi ?_; refine zm ?_; refine zi ?_; intro b1 o1 cs1 x1 hat1 hx1 he1; obtain ⟨vp1, vr1, vb1, rfl, hp1, hr1, hb1⟩ := Qv he1; refine zv hS ?_; refine zsn hS ?_; intro w1 hS; have hS := hS.ns; refine ZaX ?_; refine Q19 vw (Q4 (n := 4) (by kernel_rfl) (by kernel_rfl) (hS.blkAt fd) (by rfl) (by rfl)) ?_; trace_state; fail "no ret fits")
end Go.Proofs.YteflkifmgnpbhaaGreat
namespace Go.Lir
theorem Q8n {g : Frm} {l : List Int} {q : Nat} {k : Int} {v : Val} {out : List Val} (hd : g.args l = (g.args (l.drop q)).map fun r => out ++ r) (hx : l[q]? = some k) (hv : g.val k = some v) : g.args l = (g.args (l.drop (q + 1))).map fun r => (out ++ [v]) ++ r := by
 rw [hd, Q2 hx, Frm.args, hv]
 cases g.args (l.drop (q + 1)) with
 | none => rfl
 | some r => simp
theorem Q7I {g : Frm} {l : List Int} {q : Nat} {k : Int} {out : List Val} (hd : g.args l = (g.args (l.drop q)).map fun r => out ++ r) (hx : l[q]? = some k) (hv : g.val k = none) : g.args l = none := by
 rw [hd, Q2 hx, Frm.args, hv]; rfl
theorem Qac {g : Frm} {l : List Int} {q : Nat} {out : List Val} (hd : g.args l = (g.args (l.drop q)).map fun r => out ++ r) (hq : l.length ≤ q) : g.args l = some out := by
 rw [hd, List.drop_of_length_le hq, Frm.args]; simp
theorem args_0 {g : Frm} {l : List Int} : g.args l = (g.args (l.drop 0)).map fun r => [] ++ r := by
 rw [List.drop_zero]; cases g.args l <;> rfl
theorem Q9Q {g : Frm} {l : List Int} {q : Nat} {k v : Int} {out : List Int} (hd : g.rgs l = (g.rgs (l.drop q)).map fun r => out ++ r) (hx : l[q]? = some k) (hv : g.reg k = some v) : g.rgs l = (g.rgs (l.drop (q + 1))).map fun r => (out ++ [v]) ++ r := by
 rw [hd, Q2 hx, Frm.rgs, hv]
 cases g.rgs (l.drop (q + 1)) with
 | none => rfl
 | some r => simp
theorem Q8X {g : Frm} {l : List Int} {q : Nat} {k : Int} {out : List Int} (hd : g.rgs l = (g.rgs (l.drop q)).map fun r => out ++ r) (hx : l[q]? = some k) (hv : g.reg k = none) : g.rgs l = none := by
 rw [hd, Q2 hx, Frm.rgs, hv]; rfl
theorem QbN {g : Frm} {l : List Int} {q : Nat} {out : List Int} (hd : g.rgs l = (g.rgs (l.drop q)).map fun r => out ++ r) (hq : l.length ≤ q) : g.rgs l = some out := by
 rw [hd, List.drop_of_length_le hq, Frm.rgs]; simp
theorem rgs_0 {g : Frm} {l : List Int} : g.rgs l = (g.rgs (l.drop 0)).map fun r => [] ++ r := by
 rw [List.drop_zero]; cases g.rgs l <;> rfl
theorem num_y {g : Frm} {k : Int} {v : Val} (h : g.val k = some v) (hk : v.kind = 1) : g.num k = some v.n := by unfold Frm.num; rw [h]; exact if_pos hk
theorem num_n {g : Frm} {k : Int} {v : Val} (h : g.val k = some v) (hk : v.kind ≠ 1) : g.num k = none := by unfold Frm.num; rw [h]; exact if_neg hk
theorem num_0 {g : Frm} {k : Int} (h : g.val k = none) : g.num k = none := by unfold Frm.num; rw [h]
theorem regf_y {g : Frm} {k v : Int} (h0 : 0 ≤ k) (h : g.regs[k.toNat]? = some v) : g.reg k = some v := by unfold Frm.reg; rw [if_neg (by omega)]; exact h
theorem QbR {g : Frm} {k : Int} (h : k < 0 ∨ (g.regs.length : Int) ≤ k) : g.reg k = none := by
 unfold Frm.reg
 by_cases h0 : k < 0
 · rw [if_pos h0]
 · rw [if_neg h0]; exact List.getElem?_eq_none (by omega)
end Go.Lir
namespace Go.Proofs.YteflkifmgnpbhaaGreat
open Go.Lir
set_option maxHeartbeats 1000000
attribute [local irreducible] LC.wp Q0 QF QE retQ Q16 LO.wp Qf Calls
set_option linter.unusedSimpArgs false
set_option linter.unusedVariables false
variable {cx : Cx} {w : World} {L : List Res} {p : Nat} {c : MC} {fr : List FrmV} {g : FrmV}
attribute [local irreducible] Frm.val Frm.num Frm.args Frm.rgs Frm.reg
theorem Q5a {k : Int} (hf : fr.length ≤ 1000) (hS : St cx w (mL p c fr g L)) : Fins Tryz.prog Q5i [.pointer (some ⟨p, 0, none⟩), .int .i64 k] w
 (fun u w' => ∃ n : Int, g.abs.num k = some n ∧ u = .int .i64 n ∧ St cx w' (mL p c fr g L)) (fun u w' => g.abs.num k = none ∧ u = Q3v ∧ St cx w' (mL p c fr g L)) := by
 unfold Fins
 all_goals refine lgo tyD Tryz.func170 ?_
 all_goals (refine Zbb ?_; refine zm ?_; refine zE2 (c := Q2V hf hS) (p := by rintro u9 w9 ⟨hv, rfl, hS⟩; (repeat (first | refine Ql ?_ | refine Qm ?_ | refine fun _ => ?_)); refine QI ?_; refine .inr ⟨_, rfl, ?_⟩; exact ⟨num_0 hv, rfl, hS.sp⟩) (h := ?_); rintro u1 w2 ⟨v, hv, rfl, hS⟩; unfold Val.v Val.cells; refine Qg hS ?_; intro p5 w1 hS; refine zsn hS ?_; intro w1 hS; have hS := hS.ns; refine ZaS ?_; refine zf0 ?_; refine zl hS ?_)
 all_goals (first | (refine Qd ?_) | (refine Qh ?_) | (refine Q6 rfl rfl (fun hc => ?_) (fun hc => ?_)))
 all_goals (first | (refine zR1 (c := Q2e hS) (h := ?_); rintro v1 w1 ⟨rfl, hS⟩) | (refine zE1 (c := Q2i hS) (p := by rintro v9 w9 ⟨rfl, hS⟩; (repeat (first | refine Ql ?_ | refine Qm ?_ | refine fun _ => ?_)); refine QI ?_; refine .inr ⟨_, rfl, ?_⟩; first | (exact ⟨num_n hv (by omega), rfl, hS.sp⟩)) (h := fun _ _ h => h.elim)))
 all_goals (refine ZaS ?_; refine zf0 ?_; refine zl hS ?_; refine Zah ?_; exact .inl ⟨_, rfl, v.n, num_y hv (by omega), rfl, hS.sp⟩)
def FrmV.push (g : FrmV) (tv : Value) (vs : List Val) : FrmV := ⟨g.f, g.b, g.i, tv, g.vals ++ vs, g.rv, g.regs⟩
theorem Q4a {j : Nat} {v2 : Value} {vs : List Val} (hf : fr.length ≤ 1000) (hn : g.vals.length + vs.length ≤ 1000000) (hS : St cx w (mL p c fr g L)) (hj : nth L j = some (sl 224 4 v2 (vs.map Val.cells))) :
 Rets Tryz.prog Q5g [.pointer (some ⟨p, 0, none⟩), v2] w fun u w' => ∃ tv, u = .tuple #[] ∧ St cx w' (mL p c fr (g.push tv vs) L) := by
 all_goals refine lgo tyD Tryz.func168 ?_
 all_goals (refine Zak ?_; refine zR1 (c := Q3u hf hS) (h := ?_); rintro v1 w1 ⟨b1, o1, rfl, hel1, hS⟩; refine zm ?_; refine zR1 (c := Q3u hf hS) (h := ?_); rintro v2 w1 ⟨b2, o2, rfl, hel2, hS⟩; refine Zag ?_; refine Q1 hS hel2 rfl fd (Q5 fr g) (Q7 fr g) rfl ?_; refine zm ?_; refine Q1x Q6n (.inl Q7d) hS vw vw (i := 2) rfl (hS.srcS (i := j + 5) hj (Q7b vs)) (by rw [List.length_map, List.length_map]; omega) ?_; intro v7 w7 hS; have hS := hS.ns; have ho7 := hS.oneC (i := 2) rfl; rw [← List.map_append] at hS; refine Zag ?_; refine QM hS hel1 rfl vw fd (Q5 fr g) (Q7 fr g) (by omega) ho7 (Q1O (g' := g.push v7 vs) rfl) ?_; intro w8 hS; have hS := hS.ns; refine ZbM ?_; exact ⟨_, rfl, v7, rfl, hS.sp⟩)
end Go.Proofs.YteflkifmgnpbhaaGreat
namespace Go.Proofs.YteflkifmgnpbhaaGreat
open Go.Lir
set_option maxHeartbeats 1000000
attribute [local irreducible] LC.wp Q0 QF QE retQ Q16 LO.wp Qf Calls
set_option linter.unusedSimpArgs false
set_option linter.unusedVariables false
variable {cx : Cx} {w : World} {L : List Res} {p : Nat} {c : MC} {fr : List FrmV} {g : FrmV}
attribute [local irreducible] Frm.val Frm.num Frm.args Frm.rgs Frm.reg
theorem Q7S {l : List Int} {v1 : Value} (hl1 : l.length ≤ 100000) (hf : fr.length ≤ 1000) (hl : intR.sl cx v1 l) (hS : St cx w (mL p c fr g L)) : Fins Tryz.prog Q4K [.pointer (some ⟨p, 0, none⟩), v1] w
 (fun u w' => ∃ vs : List Val, g.abs.args l = some vs ∧ vs.length = l.length ∧ oneC u = true ∧ St cx w' (mL p c fr g (sl 224 4 u (vs.map Val.cells) :: L))) (fun u w' => g.abs.args l = none ∧ u = Q3v ∧ St cx w' (mL p c fr g L)) := by
 have hlen := hl.len
 unfold Fins
 all_goals refine lgo tyD Tryz.func177 ?_
 all_goals (refine Zaa ?_; refine Zac ?_; refine Zbk ?_; refine zL ?_; refine ZaC ?_; have hS : St cx _ (mL p c fr g (sl 224 4 (.slice none 0 0) (([] : List Val).map Val.cells) :: L)) := (by have hS := hS.nil (T := 224) (es := 4); exact hS.sp))
 refine zo [0, 8, 9] (fun A ρ' w' => ∃ (q : Nat) (vo : Value) (out : List Val), Has ρ' A ∧ Has ρ' [(5, vo), (10, .int .i64 q)] ∧ (q ≤ l.length) ∧ (out.length = q) ∧ (oneC vo = true) ∧ (g.abs.args l = (g.abs.args (l.drop q)).map fun r => out ++ r) ∧ St cx w' (mL p c fr g (sl 224 4 vo (out.map Val.cells) :: L))) (fun ρ' _ => (l.length - iv (ρ' 10)).toNat) ?_ ?_
 · exact ⟨0, .slice none 0 0, [], zh, zh, (by omega), rfl, rfl, args_0, hS.sp⟩
 rintro ρ w1 ⟨q, vo, out, hA, hρ, hq, hol, hvo, hd, hS⟩; obtain ⟨ρ, rfl⟩ := env2 hA hρ
 all_goals (refine ZbH ?_)
 refine Qt rfl (fun hc => ?_) (fun hc => ?_)
 · skip
   all_goals (refine Zbn ?_; refine zi ?_; intro b1 o1 cs1 x1 hat1 hx1 he1; obtain rfl := Q1z he1; (first | (refine zl hS ?_) | (refine zlk hS ?_)); refine Zac ?_; refine ZbN ?_; refine zE2 (c := Q2V hf hS) (p := by rintro u9 w9 ⟨hv, rfl, hS⟩; (repeat (first | refine Ql ?_ | refine Qm ?_ | refine fun _ => ?_)); refine QI ?_; refine .inr ⟨_, rfl, ?_⟩; exact ⟨Q7I hd hx1 hv, rfl, hS.sp⟩) (h := ?_); rintro u1 w2 ⟨v, hv, rfl, hS⟩; unfold Val.v Val.cells; refine zB1 hS [_, _, _, _] ?_; intro b1 w1 hS; refine Q1x Q6n (.inl Q7d) hS vw vw (i := 6) rfl (hS.srcB (i := 0) rfl (by rfl) (by simp [oneC])) (by rw [List.length_map]; simp only [List.length_cons, List.length_nil]; omega) ?_; intro v7 w7 hS; have hS := hS.ns; have ho7 := hS.oneC (i := 6) rfl; refine Zac ?_; refine Qn ?_; refine zad ?_; refine Zac ?_; exact ⟨⟨q + 1, v7, out ++ [v], zh, zh, (by omega), by rw [List.length_append, hol]; rfl, ho7, Q8n hd hx1 hv, by rw [List.map_append]; exact hS.sp⟩, Qu (by omega)⟩)
 · skip
   all_goals (refine zex ?_; refine Zbt ?_; exact .inl ⟨_, rfl, out, Qac hd (by omega), by omega, hvo, hS.sp⟩)
theorem regs_c {l : List Int} {v1 : Value} (hl1 : l.length ≤ 100000) (hf : fr.length ≤ 1000) (hl : intR.sl cx v1 l) (hS : St cx w (mL p c fr g L)) : Fins Tryz.prog Q4L [.pointer (some ⟨p, 0, none⟩), v1] w
 (fun u w' => ∃ vs : List Int, g.abs.rgs l = some vs ∧ vs.length = l.length ∧ oneC u = true ∧ St cx w' (mL p c fr g (sl 3 1 u (Q8 vs) :: L))) (fun u w' => g.abs.rgs l = none ∧ u = Q3v ∧ St cx w' (mL p c fr g L)) := by
 have hlen := hl.len
 unfold Fins
 all_goals refine lgo tyD Tryz.func221 ?_
 all_goals (refine Zaa ?_; refine Zac ?_; refine Zbk ?_; refine zL ?_; refine ZaC ?_; have hS : St cx _ (mL p c fr g (sl 3 1 (.slice none 0 0) (Q8 []) :: L)) := (by have hS := hS.nil (T := 3) (es := 1); exact hS.sp))
 refine zo [0, 9, 10] (fun A ρ' w' => ∃ (q : Nat) (vo : Value) (out : List Int), Has ρ' A ∧ Has ρ' [(5, vo), (11, .int .i64 q)] ∧ (q ≤ l.length) ∧ (out.length = q) ∧ (oneC vo = true) ∧ (g.abs.rgs l = (g.abs.rgs (l.drop q)).map fun r => out ++ r) ∧ St cx w' (mL p c fr g (sl 3 1 vo (Q8 out) :: L))) (fun ρ' _ => (l.length - iv (ρ' 11)).toNat) ?_ ?_
 · exact ⟨0, .slice none 0 0, [], zh, zh, (by omega), rfl, rfl, rgs_0, hS.sp⟩
 rintro ρ w1 ⟨q, vo, out, hA, hρ, hq, hol, hvo, hd, hS⟩; obtain ⟨ρ, rfl⟩ := env2 hA hρ
 all_goals (refine ZbH ?_)
 refine Qt rfl (fun hc => ?_) (fun hc => ?_)
 · skip
   all_goals (refine Zbn ?_; refine zi ?_; intro b1 o1 cs1 x1 hat1 hx1 he1; obtain rfl := Q1z he1; (first | (refine Q1 hS hel rfl (i := 1) rfl (Q5 fr g) (Q7 fr g) rfl ?_) | (refine zl hS ?_) | (refine zlk hS ?_)); refine ZaE ?_; refine zR1 (c := Q3u hf hS) (h := ?_); rintro v1 w1 ⟨b1, o1, rfl, hel, hS⟩; refine ZaE ?_)
   all_goals (first | (refine Q2l ?_) | (refine Q2U ?_) | (refine Q1M rfl rfl (fun hc => ?_) (fun hc => ?_)))
   all_goals (refine zm ?_; (first | refine zgn ?_ | (refine Zam ?_)); (first | refine zgn ?_ | (refine Zam ?_)); (first | refine zgn ?_ | (refine ZaQ ?_)); (first | refine zgn ?_ | (refine Zaj ?_)); (first | refine zgn ?_ | (refine zgy ?_; refine Q1 hS hel rfl (i := 1) rfl (Q5 fr g) (Q7 fr g) rfl ?_)); (first | refine zgn ?_ | (refine ZaM ?_)))
   all_goals (first | refine zgn ?_ | (refine zgy ?_; (first | (refine Q1c ?_) | (refine Q1l ?_) | (refine QB rfl rfl (fun hc => ?_) (fun hc => ?_)))))
   all_goals ((first | (refine zpt ?_) | (refine zpf ?_)))
   all_goals (first | (refine zR1 (c := Q2e hS) (h := ?_); rintro v1 w1 ⟨rfl, hS⟩) | (refine zE1 (c := Q2i hS) (p := by rintro v9 w9 ⟨rfl, hS⟩; (repeat (first | refine Ql ?_ | refine Qm ?_ | refine fun _ => ?_)); refine QI ?_; refine .inr ⟨_, rfl, ?_⟩; first | (exact ⟨Q8X hd hx1 (QbR (by show x1 < 0 ∨ (g.regs.length : Int) ≤ x1; omega)), rfl, hS.sp⟩)) (h := fun _ _ h => h.elim)))
   all_goals (refine zn ?_; obtain ⟨r9, hr9⟩ : ∃ r, g.regs[x1.toNat]? = some r := ⟨_, List.getElem?_eq_getElem (by omega)⟩; have hrow : (Q8 g.regs)[x1.toNat]? = some [.int .i64 r9] := (by rw [List.getElem?_map, hr9]; rfl); have hrg : g.abs.reg x1 = some r9 := regf_y (by omega) hr9; refine Zak ?_; refine ZaW ?_; refine Q1 hS hel rfl (i := 1) rfl (Q5 fr g) (Q7 fr g) rfl ?_; refine zm ?_; (first | ((first | refine zi ?_ | refine zj ?_); intro b2 o2 cs2 x2 hat2 hx2 he2; obtain rfl := Q1z he2) | (refine zie hS ?_; intro b2 o2 hel2) | (refine zij hS ?_; intro b2 o2 hel2)); refine Q1f hS hel2 rfl (i := 3) rfl rfl hrow rfl ?_; refine zB1 hS [_] ?_; intro b1 w1 hS; refine Q1x Q2R (.inl Q53) hS vw vw (i := 6) rfl (hS.srcB (i := 0) rfl (by rfl) (by simp [oneC])) (by rw [List.length_map]; simp only [List.length_cons, List.length_nil]; omega) ?_; intro v7 w7 hS; have hS := hS.ns; have ho7 := hS.oneC (i := 6) rfl; refine Zac ?_)
   all_goals (refine Qn ?_; refine zad ?_; refine Zac ?_; exact ⟨⟨q + 1, v7, out ++ [r9], zh, zh, (by omega), by rw [List.length_append, hol]; rfl, ho7, Q9Q hd hx1 hrg, by rw [Q8, List.map_append]; exact hS.sp⟩, Qu (by omega)⟩)
 · skip
   all_goals (refine zex ?_; refine Zbt ?_; exact .inl ⟨_, rfl, out, QbN hd (by omega), by omega, hvo, hS.sp⟩)
end Go.Proofs.YteflkifmgnpbhaaGreat
namespace Go.Proofs.YteflkifmgnpbhaaGreat
open Go.Lir
set_option maxHeartbeats 1000000
attribute [local irreducible] LC.wp Q0 QF QE retQ Q16 LO.wp Qf Calls
set_option linter.unusedSimpArgs false
set_option linter.unusedVariables false
variable {cx : Cx} {w : World} {L : List Res} {p N : Nat} {c : MC} {fr : List FrmV} {g : FrmV} {h : HpS} {out : List Int}
attribute [local irreducible] Frm.val Frm.num Frm.args Frm.rgs Frm.reg HpS.get HpS.set HpS.setC HpS.len HpS.code HpS.put HpS.putV HpS.open HpS.shut HpS.full HpS.openV HpS.can HpS.arr HpS.arrC HpS.arrV HpS.tuple
theorem Qa1 {v : Val} {e : Int} (hf : fr.length ≤ 1000) (hn : g.vals.length ≤ 900000) (hS : St cx w (mL p c fr g L)) : Fins Tryz.prog Q4N [.pointer (some ⟨p, 0, none⟩), v.v, .int .i64 e] w
 (fun u w' => e = 0 ∧ ∃ tv, u = .tuple #[] ∧ St cx w' (mL p c fr (g.push tv [v]) L)) (fun u w' => (e = 14 ∧ u = Q8I 6 ∨ e ≠ 14 ∧ e ≠ 0 ∧ u = Q3v) ∧ St cx w' (mL p c fr g L)) := by
 unfold Fins Val.v Val.cells
 all_goals refine lgo tyD Tryz.func175 ?_
 all_goals (refine Zaz ?_; intro p4 w1 hS; refine Zbi ?_)
 all_goals (first | (refine Qd ?_) | (refine Qh ?_) | (refine Q6 rfl rfl (fun hc => ?_) (fun hc => ?_)))
 all_goals (first | (refine zR2 (c := Q3M hS) (h := ?_); rintro v1 w1 ⟨rfl, hS⟩) | (refine zE2 (c := Q3L hS) (p := by rintro v9 w9 ⟨rfl, hS⟩; (repeat (first | refine Ql ?_ | refine Qm ?_ | refine fun _ => ?_)); refine QI ?_; refine .inr ⟨_, rfl, ?_⟩; first | (exact ⟨.inl ⟨by omega, rfl⟩, hS.sp⟩)) (h := fun _ _ h => h.elim)))
 all_goals (refine Zbi ?_)
 all_goals (first | (refine Qd ?_) | (refine Qh ?_) | (refine Q6 rfl rfl (fun hc => ?_) (fun hc => ?_)))
 all_goals (first | (refine zR1 (c := Q2e hS) (h := ?_); rintro v1 w1 ⟨rfl, hS⟩) | (refine zE1 (c := Q2i hS) (p := by rintro v9 w9 ⟨rfl, hS⟩; (repeat (first | refine Ql ?_ | refine Qm ?_ | refine fun _ => ?_)); refine QI ?_; refine .inr ⟨_, rfl, ?_⟩; first | (exact ⟨.inr ⟨by omega, by omega, rfl⟩, hS.sp⟩)) (h := fun _ _ h => h.elim)))
 all_goals (refine Zbd ?_; refine zv hS ?_; refine zB1 hS [_, _, _, _] ?_; intro b1 w1 hS; have hS := St.slOf (T := 224) (es := 4) (css := [v].map Val.cells) hS rfl (by simp [Val.cells]) rfl; have hS : St cx _ (mL p c fr g (sl 224 4 (.slice (some ⟨b1, 0, none⟩) 1 1) ([v].map Val.cells) :: L)) := hS.sp; refine zR2 (c := Q4a (j := 0) hf (by simp only [List.length_cons, List.length_nil]; omega) hS rfl) (h := ?_); rintro u1 w1 ⟨tv, rfl, hS⟩; refine ZbM ?_; exact .inl ⟨_, rfl, by omega, tv, rfl, hS.sp⟩)
theorem Q6W {x : Ins} {cs : List Value} {e : Int} (hx : insR.at cx cs x) (hf : fr.length ≤ 1000) (hS : St cx w (mL p c fr g L)) : Fins Tryz.prog Q4M [.pointer (some ⟨p, 0, none⟩), .agg ⟨cs⟩, .int .i64 e] w
 (fun u w' => (∃ v, g.abs.val x.a = some v ∧ v.kind = 4) ∧ e = 0 ∧ u = .tuple #[] ∧ St cx w' (mL p c fr g L))
 (fun u w' => ((∀ v, g.abs.val x.a = some v → v.kind = 4 → e ≠ 1 ∧ e ≠ 0) ∧ u = Q3v ∨ (∃ v, g.abs.val x.a = some v ∧ v.kind = 4) ∧ e = 1 ∧ u = Q8I 2) ∧ St cx w' (mL p c fr g L)) := by
 obtain ⟨vr, va, rfl, hr, ha⟩ := Q1a hx
 unfold Fins
 all_goals refine lgo tyD Tryz.func181 ?_
 all_goals (refine Zaz ?_; intro p4 w1 hS; refine Zbi ?_; refine zf0 ?_; refine zl hS ?_; have hS : St cx _ (mL p c fr g (blk p4 84 [.int .i64 x.op, .int .i64 x.a, .int .i64 x.b, .int .i64 x.c, .int .i64 x.k, .int .i64 x.n, vr, va] :: L)) := hS.sp)
 all_goals (refine zE2 (c := Q2V hf hS) (p := by rintro u9 w9 ⟨hv, rfl, hS⟩; (repeat (first | refine Ql ?_ | refine Qm ?_ | refine fun _ => ?_)); refine QI ?_; refine .inr ⟨_, rfl, ?_⟩; exact ⟨.inl ⟨fun v h => (by rw [hv] at h; cases h), rfl⟩, hS.sp⟩) (h := ?_); rintro u1 w2 ⟨v, hv, rfl, hS⟩; unfold Val.v Val.cells)
 all_goals (refine Q9I rfl rfl ?_)
 all_goals (first | (refine Qd ?_) | (refine Qh ?_) | (refine Q6 rfl rfl (fun hc => ?_) (fun hc => ?_)))
 all_goals (first | (refine zR1 (c := Q2e hS) (h := ?_); rintro v1 w1 ⟨rfl, hS⟩) | (refine zE1 (c := Q2i hS) (p := by rintro v9 w9 ⟨rfl, hS⟩; (repeat (first | refine Ql ?_ | refine Qm ?_ | refine fun _ => ?_)); refine QI ?_; refine .inr ⟨_, rfl, ?_⟩; exact ⟨.inl ⟨fun v' h h4 => (by rw [hv] at h; cases h; omega), rfl⟩, hS.sp⟩) (h := fun _ _ h => h.elim)))
 all_goals (refine Zbi ?_)
 all_goals (first | (refine Qd ?_) | (refine Qh ?_) | (refine Q6 rfl rfl (fun hc => ?_) (fun hc => ?_)))
 all_goals (first | (refine zR2 (c := Q3M hS) (h := ?_); rintro v1 w1 ⟨rfl, hS⟩) | (refine zE2 (c := Q3L hS) (p := by rintro v9 w9 ⟨rfl, hS⟩; (repeat (first | refine Ql ?_ | refine Qm ?_ | refine fun _ => ?_)); refine QI ?_; refine .inr ⟨_, rfl, ?_⟩; first | (exact ⟨.inr ⟨⟨v, hv, by omega⟩, by omega, rfl⟩, hS.sp⟩)) (h := fun _ _ h => h.elim)))
 all_goals (refine Zbd ?_)
 all_goals (first | (refine Qd ?_) | (refine Qh ?_) | (refine Q6 rfl rfl (fun hc => ?_) (fun hc => ?_)))
 all_goals (first | (refine zR1 (c := Q2e hS) (h := ?_); rintro v1 w1 ⟨rfl, hS⟩) | (refine zE1 (c := Q2i hS) (p := by rintro v9 w9 ⟨rfl, hS⟩; (repeat (first | refine Ql ?_ | refine Qm ?_ | refine fun _ => ?_)); refine QI ?_; refine .inr ⟨_, rfl, ?_⟩; exact ⟨.inl ⟨fun v' h h4 => (by rw [hv] at h; cases h; omega), rfl⟩, hS.sp⟩) (h := fun _ _ h => h.elim)))
 all_goals (refine ZbM ?_; exact .inl ⟨_, rfl, ⟨v, hv, by omega⟩, by omega, rfl, hS.sp⟩)
end Go.Proofs.YteflkifmgnpbhaaGreat
namespace Go.Proofs.YteflkifmgnpbhaaGreat
open Go.Lir
set_option maxHeartbeats 1000000
attribute [local irreducible] LC.wp Q0 QF QE retQ Q16 LO.wp Qf Calls
set_option linter.unusedSimpArgs false
set_option linter.unusedVariables false
@[reducible] def mS (p : Nat) (c : MC) (fr : List FrmV) (g : FrmV) (N : Nat) (h : HpS) (out : List Int) (L : List Res) : List Res := mL p c fr g (Q1B N c.hp h :: sl 2 1 c.ov (Q8 out) :: L)
def msOf (h : HpS) (g : FrmV) (fr : List FrmV) (inp out : List Int) (fu : Nat) : MS := ⟨h, g.abs, (fr.map FrmV.abs).reverse, inp, out, fu⟩
@[reducible] def MC.upd (c : MC) (lv iv ov : Value) : MC := ⟨c.hp, c.fn, lv, iv, c.e, c.bv, ov, c.fu, c.mo, c.dn, c.c, c.a⟩
def GoS (p : Nat) (c : MC) (N : Nat) (fu : Nat) (X : Stp) (cx : Cx) (L : List Res) (u : Value) (w' : World) : Prop :=
 ∃ lv iv ov fr' g' N' h' inp' out', X = .go (msOf h' g' fr' inp' out' fu) ∧ intR.sl cx iv inp' ∧ N' ≤ N + 1 ∧ u = .tuple #[] ∧ St cx w' (mS p (c.upd lv iv ov) fr' g' N' h' out' L)
def BadS (p : Nat) (c : MC) (N : Nat) (h : HpS) (out : List Int) (X : Stp) (cx : Cx) (L : List Res) (u : Value) (w' : World) : Prop :=
 (X = .lost ∧ u = Q3v ∧ St cx w' (blk p 55 c.cells :: L)) ∨ (∃ e, X = .halt e ∧ u = Q8I e ∧ ∃ fr' g' N', N' ≤ N + 1 ∧ St cx w' (mS p c fr' g' N' h out L))
variable {cx : Cx} {w : World} {L : List Res} {p N : Nat} {c : MC} {fr : List FrmV} {g : FrmV} {h : HpS} {out inp : List Int} {fu : Nat}
attribute [local irreducible] Frm.val Frm.num Frm.args Frm.rgs Frm.reg HpS.get HpS.set HpS.setC HpS.len HpS.code HpS.putV HpS.open HpS.shut HpS.full HpS.openV HpS.can HpS.tuple
theorem Q3h {s : MS} {e : Int} {v : Val} (he : e = 14) : s.made e h v = .halt 6 := if_pos he
theorem Q1N {s : MS} {e : Int} {v : Val} (he : e ≠ 14) (h0 : e ≠ 0) : s.made e h v = .lost := by unfold MS.made; rw [if_neg he, if_pos h0]
theorem Q2j {s : MS} {e : Int} {v : Val} (he : e = 0) : s.made e h v = .go ((s.hp h).put [v]) := by unfold MS.made; rw [if_neg (by omega), if_neg (by omega)]
theorem Q8k {h : HpS} {v : Val} {n : Int} (e : h.arrC v n ≠ 0) : h.arr v n = h := by
 unfold HpS.arrC at e
 unfold HpS.arr
 split
 · rfl
 · rename_i hn
   rw [if_neg hn] at e
   unfold HpS.put; exact if_neg e
def arrX (s : MS) (x : Ins) : Stp := Q1e (s.g.val x.a) fun v => Q1e (s.g.num x.b) fun n => if n < 0 ∨ 15 < n then .halt 3 else s.made (s.h.arrC v n) (s.h.arr v n) (s.h.arrV v n)
attribute [local irreducible] HpS.arr HpS.arrC HpS.arrV
theorem array_c {x : Ins} {cs : List Value} (hx : insR.at cx cs x) (hi : intR.sl cx c.iv inp) (hf : fr.length ≤ 1000) (hn : g.vals.length ≤ 900000) (hN : N ≤ 99999) (hS : St cx w (mS p c fr g N h out L)) :
 Fins Tryz.prog Q4s [.pointer (some ⟨p, 0, none⟩), .agg ⟨cs⟩] w (GoS p c N fu (arrX (msOf h g fr inp out fu) x) cx L) (BadS p c N h out (arrX (msOf h g fr inp out fu) x) cx L) := by
 obtain ⟨vr, va, rfl, hr, ha⟩ := Q1a hx
 unfold Fins GoS BadS arrX
 all_goals refine lgo tyD Tryz.func180 ?_
 all_goals (refine Zaz ?_; intro p3 w1 hS; refine ZaZ ?_; have hS : St cx _ (mS p c fr g N h out (blk p3 84 [.int .i64 x.op, .int .i64 x.a, .int .i64 x.b, .int .i64 x.c, .int .i64 x.k, .int .i64 x.n, vr, va] :: L)) := hS.sp)
 refine Q1p 3 8 (by kernel_rfl) ?_ ?_
 · skip
   refine Q1p 7 8 (by kernel_rfl) ?_ ?_
   · skip
     all_goals (refine zC [(0, none), (1, none), (2, none), (4, none), (5, none), (6, none), (3, some (some [6])), (7, some none), (8, some none), (9, some none), (10, some none)] ?_; have hS := hS.drew; refine ZaF ?_; refine zf0 ?_; refine Zab ?_; refine zl hS ?_; refine Zat ?_; refine zf0 ?_; refine Zab ?_; refine zl hS ?_; refine Zar ?_; refine zE2 (c := Q2V hf (show St cx _ (mL p c fr g _) from hS.sp)) (p := by rintro u9 w9 ⟨hv, rfl, hS⟩; (repeat (first | refine Ql ?_ | refine Qm ?_ | refine fun _ => ?_)); refine QI ?_; refine .inr ⟨_, rfl, ?_⟩; exact .inl ⟨Qx hv, rfl, hS.sp⟩) (h := ?_); rintro u1 w2 ⟨v, hv, rfl, hS⟩; refine ZaK ?_; refine zE2 (c := Q5a hf (show St cx _ (mL p c fr g _) from hS.sp)) (p := by rintro u9 w9 ⟨hm, rfl, hS⟩; (repeat (first | refine Ql ?_ | refine Qm ?_ | refine fun _ => ?_)); refine QI ?_; refine .inr ⟨_, rfl, ?_⟩; exact .inl ⟨(Q3 hv).trans (Qx hm), rfl, hS.sp⟩) (h := ?_); rintro u1 w2 ⟨n, hm, rfl, hS⟩; refine Zax ?_; refine Qg hS ?_; intro p4 w1 hS; refine Zax ?_; unfold Val.v Val.cells; refine zsn hS ?_; intro w1 hS; have hS := hS.ns)
     all_goals (refine ZbD ?_; refine Zad ?_)
     all_goals (first | (refine Q1c ?_) | (refine Q1l ?_) | (refine QB rfl rfl (fun hc => ?_) (fun hc => ?_)))
     all_goals (refine zm ?_; (first | refine zgn ?_ | (refine Zam ?_)))
     all_goals (first | refine zgn ?_ | (refine zgy ?_; (first | (refine QG ?_) | (refine QL ?_) | (refine Qc rfl rfl (fun hc => ?_) (fun hc => ?_)))))
     all_goals ((first | (refine zpt ?_) | (refine zpf ?_)))
     all_goals (first | (refine zR2 (c := Q3M hS) (h := ?_); rintro v1 w1 ⟨rfl, hS⟩) | (refine zE2 (c := Q3L hS) (p := by rintro v9 w9 ⟨rfl, hS⟩; (repeat (first | refine Ql ?_ | refine Qm ?_ | refine fun _ => ?_)); refine QI ?_; refine .inr ⟨_, rfl, ?_⟩; first | (exact .inr ⟨3, (Q3 hv).trans ((Q3 hm).trans (if_pos (by omega))), rfl, fr, g, N, by omega, hS.sp⟩)) (h := fun _ _ h => h.elim)))
     all_goals (refine zn ?_; refine zC [(0, none), (1, none), (2, none), (3, none), (4, none), (5, none), (6, none), (7, some (some [])), (8, none), (9, none), (10, some none)] ?_; have hS := hS.drew; refine ZbV ?_; refine zf0 ?_; refine Zab ?_; refine zl hS ?_; refine Zab ?_; refine zv hS ?_; refine ZbY ?_; refine Zar ?_; refine zR3 (c := Q7w (N := N) (s := h) (h := c.hp) v n (by omega) hS fd) (h := ?_); rintro v1 w1 ⟨rfl, hS⟩; have hS := hS.ns; refine ZaI ?_; refine Zbu ?_; refine Zax ?_)
     all_goals (refine zE3 (c := Qa1 (v := h.arrV v n) hf hn (show St cx _ (mL p c fr g _) from hS.sp)) (p := by rintro u9 w9 ⟨he, hS⟩; (repeat (first | refine Ql ?_ | refine Qm ?_ | refine fun _ => ?_)); refine QI ?_; refine .inr ⟨_, rfl, ?_⟩; rcases he with ⟨e0, rfl⟩ | ⟨e0, e1, rfl⟩; exact .inr ⟨6, (Q3 hv).trans ((Q3 hm).trans ((if_neg (by omega)).trans (Q3h e0))), rfl, fr, g, N + 1, Nat.le_refl _, by rw [Q8k (by omega)] at hS; exact hS.sp⟩; exact .inl ⟨(Q3 hv).trans ((Q3 hm).trans ((if_neg (by omega)).trans (Q1N e0 e1))), rfl, hS.sp⟩) (h := ?_); rintro u1 w2 ⟨e0, tv, rfl, hS⟩)
     all_goals (refine Zaw ?_; refine Q1j ?_; exact .inl ⟨_, rfl, c.lv, c.iv, c.ov, fr, _, _, _, inp, out, (Q3 hv).trans ((Q3 hm).trans ((if_neg (by omega)).trans (Q2j e0))), hi, Nat.le_refl _, rfl, hS.sp⟩)
   · skip
     all_goals (refine zC [(0, none), (1, none), (2, none), (4, none), (5, none), (6, none), (3, some (some [6])), (8, some (some [6])), (7, some none), (9, some none), (10, some none)] ?_; have hS := hS.drew; refine ZaF ?_; refine zf0 ?_; refine Zab ?_; refine zl hS ?_; refine Zat ?_; refine zf0 ?_; refine Zab ?_; refine zl hS ?_; refine Zar ?_; refine zE2 (c := Q2V hf (show St cx _ (mL p c fr g _) from hS.sp)) (p := by rintro u9 w9 ⟨hv, rfl, hS⟩; (repeat (first | refine Ql ?_ | refine Qm ?_ | refine fun _ => ?_)); refine QI ?_; refine .inr ⟨_, rfl, ?_⟩; exact .inl ⟨Qx hv, rfl, hS.sp⟩) (h := ?_); rintro u1 w2 ⟨v, hv, rfl, hS⟩; refine ZbJ ?_; intro p4 w1 hS; refine ZaK ?_; refine zE2 (c := Q5a hf (show St cx _ (mL p c fr g _) from hS.sp)) (p := by rintro u9 w9 ⟨hm, rfl, hS⟩; (repeat (first | refine Ql ?_ | refine Qm ?_ | refine fun _ => ?_)); refine QI ?_; refine .inr ⟨_, rfl, ?_⟩; exact .inl ⟨(Q3 hv).trans (Qx hm), rfl, hS.sp⟩) (h := ?_); rintro u1 w2 ⟨n, hm, rfl, hS⟩; refine Zax ?_; unfold Val.v Val.cells)
     all_goals (refine zsn hS ?_; intro w1 hS; have hS := hS.ns; refine ZbD ?_; refine Zad ?_)
     all_goals (first | (refine Q1c ?_) | (refine Q1l ?_) | (refine QB rfl rfl (fun hc => ?_) (fun hc => ?_)))
     all_goals (refine zm ?_; (first | refine zgn ?_ | (refine Zam ?_)))
     all_goals (first | refine zgn ?_ | (refine zgy ?_; (first | (refine QG ?_) | (refine QL ?_) | (refine Qc rfl rfl (fun hc => ?_) (fun hc => ?_)))))
     all_goals ((first | (refine zpt ?_) | (refine zpf ?_)))
     all_goals (first | (refine zR2 (c := Q3M hS) (h := ?_); rintro v1 w1 ⟨rfl, hS⟩) | (refine zE2 (c := Q3L hS) (p := by rintro v9 w9 ⟨rfl, hS⟩; (repeat (first | refine Ql ?_ | refine Qm ?_ | refine fun _ => ?_)); refine QI ?_; refine .inr ⟨_, rfl, ?_⟩; first | (exact .inr ⟨3, (Q3 hv).trans ((Q3 hm).trans (if_pos (by omega))), rfl, fr, g, N, by omega, hS.sp⟩)) (h := fun _ _ h => h.elim)))
     all_goals (refine zn ?_; refine zC [(0, none), (1, none), (2, none), (3, none), (4, none), (5, none), (6, none), (7, some (some [])), (8, none), (9, none), (10, some none)] ?_; have hS := hS.drew; refine ZbV ?_; refine zf0 ?_; refine Zab ?_; refine zl hS ?_; refine Zab ?_; refine zv hS ?_; refine ZbY ?_; refine Zar ?_; refine zR3 (c := Q7w (N := N) (s := h) (h := c.hp) v n (by omega) hS fd) (h := ?_); rintro v1 w1 ⟨rfl, hS⟩; have hS := hS.ns; refine ZaI ?_; refine Zbu ?_; refine Zax ?_)
     all_goals (refine zE3 (c := Qa1 (v := h.arrV v n) hf hn (show St cx _ (mL p c fr g _) from hS.sp)) (p := by rintro u9 w9 ⟨he, hS⟩; (repeat (first | refine Ql ?_ | refine Qm ?_ | refine fun _ => ?_)); refine QI ?_; refine .inr ⟨_, rfl, ?_⟩; rcases he with ⟨e0, rfl⟩ | ⟨e0, e1, rfl⟩; exact .inr ⟨6, (Q3 hv).trans ((Q3 hm).trans ((if_neg (by omega)).trans (Q3h e0))), rfl, fr, g, N + 1, Nat.le_refl _, by rw [Q8k (by omega)] at hS; exact hS.sp⟩; exact .inl ⟨(Q3 hv).trans ((Q3 hm).trans ((if_neg (by omega)).trans (Q1N e0 e1))), rfl, hS.sp⟩) (h := ?_); rintro u1 w2 ⟨e0, tv, rfl, hS⟩)
     all_goals (refine Zaw ?_; refine Q1j ?_; exact .inl ⟨_, rfl, c.lv, c.iv, c.ov, fr, _, _, _, inp, out, (Q3 hv).trans ((Q3 hm).trans ((if_neg (by omega)).trans (Q2j e0))), hi, Nat.le_refl _, rfl, hS.sp⟩)
 · skip
   all_goals (refine zC [(0, none), (1, none), (2, none), (4, none), (5, none), (6, none), (8, some (some [2, 6])), (3, some (some [6])), (7, some none), (9, some none), (10, some none)] ?_; have hS := hS.drew; refine ZaF ?_; refine zf0 ?_; refine Zab ?_; refine zl hS ?_; refine Zat ?_; refine zf0 ?_; refine Zab ?_; refine zl hS ?_; refine ZaR ?_; intro p4 w1 hS; refine ZaD ?_; refine zE2 (c := Q2V hf (show St cx _ (mL p c fr g _) from hS.sp)) (p := by rintro u9 w9 ⟨hv, rfl, hS⟩; (repeat (first | refine Ql ?_ | refine Qm ?_ | refine fun _ => ?_)); refine QI ?_; refine .inr ⟨_, rfl, ?_⟩; exact .inl ⟨Qx hv, rfl, hS.sp⟩) (h := ?_); rintro u1 w2 ⟨v, hv, rfl, hS⟩; refine ZaK ?_; refine zE2 (c := Q5a hf (show St cx _ (mL p c fr g _) from hS.sp)) (p := by rintro u9 w9 ⟨hm, rfl, hS⟩; (repeat (first | refine Ql ?_ | refine Qm ?_ | refine fun _ => ?_)); refine QI ?_; refine .inr ⟨_, rfl, ?_⟩; exact .inl ⟨(Q3 hv).trans (Qx hm), rfl, hS.sp⟩) (h := ?_); rintro u1 w2 ⟨n, hm, rfl, hS⟩; refine Zax ?_; unfold Val.v Val.cells)
   all_goals (refine zsn hS ?_; intro w1 hS; have hS := hS.ns; refine ZbD ?_; refine Zad ?_)
   all_goals (first | (refine Q1c ?_) | (refine Q1l ?_) | (refine QB rfl rfl (fun hc => ?_) (fun hc => ?_)))
   all_goals (refine zm ?_; (first | refine zgn ?_ | (refine Zam ?_)))
   all_goals (first | refine zgn ?_ | (refine zgy ?_; (first | (refine QG ?_) | (refine QL ?_) | (refine Qc rfl rfl (fun hc => ?_) (fun hc => ?_)))))
   all_goals ((first | (refine zpt ?_) | (refine zpf ?_)))
   all_goals (first | (refine zR2 (c := Q3M hS) (h := ?_); rintro v1 w1 ⟨rfl, hS⟩) | (refine zE2 (c := Q3L hS) (p := by rintro v9 w9 ⟨rfl, hS⟩; (repeat (first | refine Ql ?_ | refine Qm ?_ | refine fun _ => ?_)); refine QI ?_; refine .inr ⟨_, rfl, ?_⟩; first | (exact .inr ⟨3, (Q3 hv).trans ((Q3 hm).trans (if_pos (by omega))), rfl, fr, g, N, by omega, hS.sp⟩)) (h := fun _ _ h => h.elim)))
   all_goals (refine zn ?_; refine zC [(0, none), (1, none), (2, none), (3, none), (4, none), (5, none), (6, none), (7, some (some [])), (8, none), (9, none), (10, some none)] ?_; have hS := hS.drew; refine ZbV ?_; refine zf0 ?_; refine Zab ?_; refine zl hS ?_; refine Zab ?_; refine zv hS ?_; refine ZbY ?_; refine Zar ?_; refine zR3 (c := Q7w (N := N) (s := h) (h := c.hp) v n (by omega) hS fd) (h := ?_); rintro v1 w1 ⟨rfl, hS⟩; have hS := hS.ns; refine ZaI ?_; refine Zbu ?_; refine Zax ?_)
   all_goals (refine zE3 (c := Qa1 (v := h.arrV v n) hf hn (show St cx _ (mL p c fr g _) from hS.sp)) (p := by rintro u9 w9 ⟨he, hS⟩; (repeat (first | refine Ql ?_ | refine Qm ?_ | refine fun _ => ?_)); refine QI ?_; refine .inr ⟨_, rfl, ?_⟩; rcases he with ⟨e0, rfl⟩ | ⟨e0, e1, rfl⟩; exact .inr ⟨6, (Q3 hv).trans ((Q3 hm).trans ((if_neg (by omega)).trans (Q3h e0))), rfl, fr, g, N + 1, Nat.le_refl _, by rw [Q8k (by omega)] at hS; exact hS.sp⟩; exact .inl ⟨(Q3 hv).trans ((Q3 hm).trans ((if_neg (by omega)).trans (Q1N e0 e1))), rfl, hS.sp⟩) (h := ?_); rintro u1 w2 ⟨e0, tv, rfl, hS⟩)
   all_goals (refine Zaw ?_; refine Q1j ?_; exact .inl ⟨_, rfl, c.lv, c.iv, c.ov, fr, _, _, _, inp, out, (Q3 hv).trans ((Q3 hm).trans ((if_neg (by omega)).trans (Q2j e0))), hi, Nat.le_refl _, rfl, hS.sp⟩)
end Go.Proofs.YteflkifmgnpbhaaGreat
namespace Go.Proofs.YteflkifmgnpbhaaGreat
open Go.Lir
set_option maxHeartbeats 1000000
attribute [local irreducible] LC.wp Q0 QF QE retQ Q16 LO.wp Qf Calls
set_option linter.unusedSimpArgs false
set_option linter.unusedVariables false
variable {cx : Cx} {w : World} {L : List Res} {p N : Nat} {c : MC} {fr : List FrmV} {g : FrmV} {h : HpS} {out inp : List Int} {fu : Nat} {m : Module}
theorem Q85 {g' : FrmV} : msOf h g' (fr ++ [g]) inp out fu = ⟨h, g'.abs, g.abs :: (fr.map FrmV.abs).reverse, inp, out, fu⟩ := by unfold msOf; simp
theorem call_X {s : MS} {x : Ins} {gf : Fun} (hg : m.funcs[x.k.toNat]? = some gf) : s.call m x = Q1e (s.g.rgs x.regs) fun rs => Q1e (s.g.args x.args) fun vs =>
 if (rs.length : Int) ≠ gf.regs ∨ vs.length ≠ gf.params.length then .lost else if s.st.length + 1 = 40 then .halt 5 else .go ⟨s.h, ⟨x.k.toNat, 0, 0, vs, rs⟩, s.g :: s.st, s.inp, s.out, s.fuel⟩ := by unfold MS.call; rw [hg]
theorem big_g (hS : St cx w (sl 224 4 g.vv (g.vals.map Val.cells) :: sl 3 1 g.rv (Q8 g.regs) :: big FrmV.res fr :: L)) : St cx w (big FrmV.res (fr ++ [g]) :: L) :=
 St.big_push (f := FrmV.res) (x := g) (St.star' hS)
theorem Q82 {g' : FrmV} : Q1v fr g ++ [g'.cells] = Q1v (fr ++ [g]) g' := by simp [Q1v]
attribute [local irreducible] Frm.val Frm.num Frm.args Frm.rgs Frm.reg
theorem call_c {x : Ins} {cs : List Value} (hx : insR.at cx cs x) (hfn : funcR.sl cx c.fn m.funcs) (hi : intR.sl cx c.iv inp) (hk0 : 0 ≤ x.k) (hk1 : x.k < m.funcs.length) (h6 : x.regs.length ≤ 100) (h8 : x.args.length ≤ 100) (hf : fr.length ≤ 1000) (hS : St cx w (mS p c fr g N h out L)) :
 Fins Tryz.prog Q4O [.pointer (some ⟨p, 0, none⟩), .agg ⟨cs⟩] w (GoS p c N fu ((msOf h g fr inp out fu).call m x) cx L) (BadS p c N h out ((msOf h g fr inp out fu).call m x) cx L) := by
 obtain ⟨vr, va, rfl, hr, ha⟩ := Q1a hx
 have hfl := hfn.len
 unfold Fins GoS BadS
 all_goals refine lgo tyD Tryz.func183 ?_
 all_goals (refine Zaz ?_; intro p3 w1 hS; refine ZaZ ?_; have hS : St cx _ (mS p c fr g N h out (blk p3 84 [.int .i64 x.op, .int .i64 x.a, .int .i64 x.b, .int .i64 x.c, .int .i64 x.k, .int .i64 x.n, vr, va] :: L)) := hS.sp; refine zC [(0, none), (1, none), (2, none), (3, none), (4, none), (5, none), (6, none), (7, none), (8, none), (9, some (some [4, 6, 8])), (10, some none)] ?_; have hS := hS.drew; refine Zbo ?_; refine zf0 ?_; refine ZaU ?_; refine zl hS ?_; refine Zab ?_; refine zf0 ?_; refine Zab ?_; refine zl hS ?_; refine Zab ?_; refine zj ?_; intro b1 o1 cs1 x1 hat1 hx1 he1; obtain ⟨vp1, vr1, vb1, rfl, hp1, hr1, hb1⟩ := Qv he1; have hX := call_X (s := msOf h g fr inp out fu) hx1)
 all_goals (refine ZaY ?_; refine ZaR ?_; intro p4 w1 hS; refine ZaK ?_; refine zsn hS ?_; intro w1 hS; have hS := hS.ns; refine Zaw ?_; refine Qb ?_; refine zC [(0, none), (1, none), (2, none), (4, none), (5, none), (6, none), (3, some (some [6])), (7, some none), (8, none), (9, some none)] ?_; have hS := hS.drew; refine ZaF ?_; refine zf0 ?_; refine Zab ?_; refine zl hS ?_; refine Zat ?_; refine zf0 ?_; refine Zab ?_; refine zl hS ?_; refine Zar ?_; refine zE2 (c := regs_c (by omega) hf hr (show St cx _ (mL p c fr g _) from hS.sp)) (p := by rintro u9 w9 ⟨hrs, rfl, hS⟩; (repeat (first | refine Ql ?_ | refine Qm ?_ | refine fun _ => ?_)); refine QI ?_; refine .inr ⟨_, rfl, ?_⟩; exact .inl ⟨hX.trans (Qx hrs), rfl, hS.sp⟩) (h := ?_); rintro u1 w2 ⟨rs, hrs, hrl, ho1, hS⟩; obtain ⟨a1, n1, rfl⟩ := hS.shape (i := 5) rfl)
 all_goals (refine ZaK ?_; refine zE2 (c := Q7S (by omega) hf ha (show St cx _ (mL p c fr g _) from hS.sp)) (p := by rintro u9 w9 ⟨hvs, rfl, hS⟩; (repeat (first | refine Ql ?_ | refine Qm ?_ | refine fun _ => ?_)); refine QI ?_; refine .inr ⟨_, rfl, ?_⟩; exact .inl ⟨hX.trans ((Q3 hrs).trans (Qx hvs)), rfl, hS.sp⟩) (h := ?_); rintro u2 w2 ⟨vs, hvs, hvl, ho2, hS⟩; obtain ⟨a2, n2, rfl⟩ := hS.shape (i := 5) rfl; refine ZbY ?_; refine ZbD ?_; refine Zad ?_; (first | (refine zL ?_) | (refine zLe hS ?_)); refine zf0 ?_; refine zl hS ?_)
 all_goals (first | (refine Qd ?_) | (refine Qh ?_) | (refine Q6 rfl rfl (fun hc => ?_) (fun hc => ?_)))
 all_goals (refine zm ?_; (first | refine zgn ?_ | (refine Zam ?_)); (first | refine zgn ?_ | (refine ZaM ?_)); (first | refine zgn ?_ | (refine zgy ?_; refine zf0 ?_)); (first | refine zgn ?_ | (refine zgy ?_; refine zl hS ?_)); (first | refine zgn ?_ | (refine zgy ?_; refine zL ?_)))
 all_goals (first | refine zgn ?_ | (refine zgy ?_; (first | (refine Qd ?_) | (refine Qh ?_) | (refine Q6 rfl rfl (fun hc => ?_) (fun hc => ?_)))))
 all_goals ((first | (refine zpt ?_) | (refine zpf ?_)))
 all_goals (first | (refine zR1 (c := Q2e hS) (h := ?_); rintro v1 w1 ⟨rfl, hS⟩) | (refine zE1 (c := Q2i hS) (p := by rintro v9 w9 ⟨rfl, hS⟩; (repeat (first | refine Ql ?_ | refine Qm ?_ | refine fun _ => ?_)); refine QI ?_; refine .inr ⟨_, rfl, ?_⟩; first | (exact .inl ⟨hX.trans ((Q3 hrs).trans ((Q3 hvs).trans (if_pos (by omega)))), rfl, hS.sp⟩)) (h := fun _ _ h => h.elim)))
 all_goals (refine Zbi ?_; refine znc ?_; refine zf0 ?_; refine zl hS ?_; refine QY hS vw fd (Q5 fr g) ?_)
 all_goals (first | (refine Qd ?_) | (refine Qh ?_) | (refine Q6 rfl rfl (fun hc => ?_) (fun hc => ?_)))
 all_goals (first | (refine zR2 (c := Q3M hS) (h := ?_); rintro v1 w1 ⟨rfl, hS⟩) | (refine zE2 (c := Q3L hS) (p := by rintro v9 w9 ⟨rfl, hS⟩; (repeat (first | refine Ql ?_ | refine Qm ?_ | refine fun _ => ?_)); refine QI ?_; refine .inr ⟨_, rfl, ?_⟩; first | (exact .inr ⟨5, hX.trans ((Q3 hrs).trans ((Q3 hvs).trans ((if_neg (by omega)).trans (if_pos (by show ((fr.map FrmV.abs).reverse).length + 1 = 40; rw [List.length_reverse, List.length_map]; omega))))), rfl, fr, g, N, by omega, hS.sp⟩)) (h := fun _ _ h => h.elim)))
 all_goals (refine zn ?_; refine zC [(0, none), (1, none), (2, none), (3, none), (4, none), (5, none), (6, none), (7, none), (8, none), (9, none), (10, some (some [4])), (11, some (some [])), (12, none), (13, none), (14, some none)] ?_; have hS := hS.drew; refine ZbV ?_; refine zf0 ?_; refine Zab ?_; refine zl hS ?_; refine Zab ?_; refine zf0 ?_; refine Zab ?_; refine zl hS ?_; refine Zat ?_; refine Zal ?_; refine zb3 [_, _, _, _, _] ?_; refine Zar ?_; refine zB1 hS [_, _, _, _, _] ?_; intro b1 w1 hS; refine ZaD ?_; refine Q1x el_T53 (.inl u_T53) hS vw vw fd (hS.srcB fd (by rfl) (by simp [oneC, ho1, ho2])) (by rw [Q5]; simp only [List.length_cons, List.length_nil]; omega) ?_; intro v7 w7 hS; have hS := hS.ns)
 all_goals (refine ZaI ?_; refine ZaN ?_; refine zf0 ?_; refine Zax ?_; refine zst hS ?_; intro w1 hS; have hS := hS.ns; refine Zaw ?_; refine Q1j ?_; rw [show (Value.int .i64 x.k) = .int .i64 ((x.k.toNat : Nat) : Int) by rw [Int.toNat_of_nonneg hk0]] at hS; have hS := big_g (g := g) (fr := fr) (L := blk p 55 _ :: sl 110 5 v7 _ :: sl 224 4 (.slice a2 _ n2) _ :: sl 3 1 (.slice a1 _ n1) _ :: Q1B N c.hp h :: sl 2 1 c.ov _ :: L) hS.sp; exact .inl ⟨_, rfl, v7, c.iv, c.ov, fr ++ [g], ⟨x.k.toNat, 0, 0, .slice a2 (vs.map Val.cells).length n2, vs, .slice a1 (Q8 rs).length n1, rs⟩, N, h, inp, out, hX.trans ((Q3 hrs).trans ((Q3 hvs).trans ((if_neg (by omega)).trans ((if_neg (by show ¬ ((fr.map FrmV.abs).reverse).length + 1 = 40; rw [List.length_reverse, List.length_map]; omega)).trans (by rw [Q85]; rfl))))), hi, by omega, rfl, by have e9 : Q1v fr g ++ [[.int .i64 ((x.k.toNat : Nat) : Int), vi 0, vi 0, .slice a2 (vs.map Val.cells).length n2, .slice a1 (Q8 rs).length n1]] = Q1v (fr ++ [g]) ⟨x.k.toNat, 0, 0, .slice a2 (vs.map Val.cells).length n2, vs, .slice a1 (Q8 rs).length n1, rs⟩ := Q82 (g' := ⟨x.k.toNat, 0, 0, .slice a2 (vs.map Val.cells).length n2, vs, .slice a1 (Q8 rs).length n1, rs⟩); rw [e9] at hS; exact hS.sp⟩)
end Go.Proofs.YteflkifmgnpbhaaGreat
namespace Go.Proofs.YteflkifmgnpbhaaGreat
open Go.Lir
set_option maxHeartbeats 1000000
attribute [local irreducible] LC.wp Q0 QF QE retQ Q16 LO.wp Qf Calls
set_option linter.unusedSimpArgs false
set_option linter.unusedVariables false
variable {cx : Cx} {w : World} {L : List Res} {p N : Nat} {c : MC} {fr : List FrmV} {g : FrmV} {h : HpS} {out inp : List Int} {fu : Nat} {m : Module}
theorem to_X {s : MS} {f : Fun} {t : To} {b : Block} (hb : f.blocks[t.block.toNat]? = some b) : s.to f t = Q1e (s.g.rgs t.regs) fun rs => Q1e (s.g.args t.args) fun vs =>
 if (rs.length : Int) ≠ b.regs ∨ vs.length ≠ b.params.length then .lost else .go (s.fr ⟨s.g.f, t.block.toNat, 0, vs, rs⟩) := by unfold MS.to; rw [hb]
theorem QbL {g' : FrmV} : (Q1v fr g).set fr.length g'.cells = Q1v fr g' := by
 unfold Q1v
 rw [List.set_append_right _ _ (by simp)]; simp
attribute [local irreducible] Frm.val Frm.num Frm.args Frm.rgs Frm.reg
theorem mto_c {f : Fun} {t : To} {cs : List Value} (hx : toR.at cx cs t) (hfn : funcR.sl cx c.fn m.funcs) (hi : intR.sl cx c.iv inp) (hfx : m.funcs[g.f]? = some f) (hb0 : 0 ≤ t.block) (hb1 : t.block < f.blocks.length) (h6 : t.regs.length ≤ 100) (h8 : t.args.length ≤ 100) (hf : fr.length ≤ 1000) (hS : St cx w (mS p c fr g N h out L)) :
 Fins Tryz.prog Q5H [.pointer (some ⟨p, 0, none⟩), .agg ⟨cs⟩] w (GoS p c N fu ((msOf h g fr inp out fu).to f t) cx L) (BadS p c N h out ((msOf h g fr inp out fu).to f t) cx L) := by
 obtain ⟨vr, va, rfl, hr, ha⟩ := Q2u hx
 have hfl := hfn.len
 have hgf := (List.getElem?_eq_some_iff.1 hfx).1
 unfold Fins GoS BadS
 all_goals refine lgo tyD Tryz.func184 ?_
 all_goals (refine Zaz ?_; intro p3 w1 hS; refine ZaZ ?_; have hS : St cx _ (mS p c fr g N h out (blk p3 88 [.int .i64 t.block, vr, va] :: L)) := hS.sp; refine Zak ?_; refine zR1 (c := Q3u hf hS) (h := ?_); rintro v1 w1 ⟨b9, o9, rfl, hel, hS⟩; refine Zan ?_; refine zC [(0, none), (1, none), (2, none), (3, none), (4, none), (5, none), (6, none), (7, none), (8, none), (9, none), (10, none), (11, none), (12, none), (13, none), (14, none), (15, none), (16, some (some [4, 8, 11, 13, 15])), (17, some none)] ?_; have hS := hS.drew; refine Zbo ?_; refine zf0 ?_; refine ZaU ?_; refine zl hS ?_; refine Zat ?_; refine Zbx ?_; refine Q1f hS hel rfl fd (Q5 fr g) (Q7 fr g) rfl ?_; refine Zab ?_; refine zi ?_; intro b8 o8 cs8 x8 hat8 hx8 he8; obtain rfl : x8 = f := Option.some.inj (hx8.symm.trans hfx); obtain ⟨vp8, vr8, vb8, rfl, hp8, hr8, hb8⟩ := Qv he8)
 all_goals (refine Zbg ?_; refine Zab ?_; refine zf0 ?_; refine Zab ?_; refine zl hS ?_; refine Zab ?_; ((first | refine zi ?_ | refine zj ?_); intro b1 o1 cs1 x1 hat1 hx1 he1; obtain ⟨vp1, vc1, ve11, ve12, ve13, ve14, ve15, rfl, hp1, hc1, he11, he12, he13, he14, he15⟩ := Q13 he1); refine ZaY ?_; refine ZaR ?_; intro p5 w1 hS; refine zt ?_; refine ⟨List.forall_mem_cons.2 ⟨(by first | (exact QA hS hel rfl fd (Q5 fr g) (Q7 fr g) rfl) | (exact Q1E hS rfl fd rfl)), List.forall_mem_cons.2 ⟨(by (exact QA hS hel rfl fd (Q5 fr g) (Q7 fr g) rfl)), List.forall_mem_cons.2 ⟨(by first | (exact QA hS hel rfl fd (Q5 fr g) (Q7 fr g) rfl) | (exact Q1E hS rfl fd rfl) | (exact Q39 hS (by assumption) rfl rfl) | (exact Q3j hS (by assumption) rfl rfl)), List.forall_mem_cons.2 ⟨(by first | (exact QA hS hel rfl fd (Q5 fr g) (Q7 fr g) rfl) | (exact Q1E hS rfl fd rfl)), List.forall_mem_cons.2 ⟨(by first | (exact QA hS hel rfl fd (Q5 fr g) (Q7 fr g) rfl) | (exact Q38 hS rfl fd rfl rfl) | (exact Q2C hS (by assumption) rfl rfl rfl)), fun _ h => (List.not_mem_nil h).elim⟩⟩⟩⟩⟩, ?_⟩)
 all_goals (refine s_cf ?_; refine zsn hS ?_; intro w1 hS; have hS := hS.ns; refine Zaw ?_; refine Qb ?_; have hX := to_X (s := msOf h g fr inp out fu) hx1; refine zC [(0, none), (1, none), (2, none), (4, none), (5, none), (6, none), (3, some (some [6])), (7, some none), (8, none), (9, some none)] ?_; have hS := hS.drew; refine ZaF ?_; refine zf0 ?_; refine Zab ?_; refine zl hS ?_; refine Zat ?_; refine zf0 ?_; refine Zab ?_; refine zl hS ?_; refine Zar ?_; refine zE2 (c := regs_c (by omega) hf hr (show St cx _ (mL p c fr g _) from hS.sp)) (p := by rintro u9 w9 ⟨hrs, rfl, hS⟩; (repeat (first | refine Ql ?_ | refine Qm ?_ | refine fun _ => ?_)); refine QI ?_; refine .inr ⟨_, rfl, ?_⟩; exact .inl ⟨hX.trans (Qx hrs), rfl, hS.sp⟩) (h := ?_); rintro u1 w2 ⟨rs, hrs, hrl, ho1, hS⟩; obtain ⟨a1, n1, rfl⟩ := hS.shape (i := 5) rfl; refine zt ?_; refine ⟨List.forall_mem_cons.2 ⟨(by first | (exact QA hS hel rfl fd (Q5 fr g) (Q7 fr g) rfl) | (exact Q1E hS rfl fd rfl)), fun _ h => (List.not_mem_nil h).elim⟩, ?_⟩)
 all_goals (refine s_cf ?_; refine zE2 (c := Q7S (by omega) hf ha (show St cx _ (mL p c fr g _) from hS.sp)) (p := by rintro u9 w9 ⟨hvs, rfl, hS⟩; (repeat (first | refine Ql ?_ | refine Qm ?_ | refine fun _ => ?_)); refine QI ?_; refine .inr ⟨_, rfl, ?_⟩; exact .inl ⟨hX.trans ((Q3 hrs).trans (Qx hvs)), rfl, hS.sp⟩) (h := ?_); rintro u2 w2 ⟨vs, hvs, hvl, ho2, hS⟩; obtain ⟨a2, n2, rfl⟩ := hS.shape (i := 5) rfl; refine ZbY ?_; refine ZbD ?_; refine Zad ?_; (first | (refine zL ?_) | (refine zLe hS ?_)); refine zf0 ?_; refine zl hS ?_)
 all_goals (first | (refine Qd ?_) | (refine Qh ?_) | (refine Q6 rfl rfl (fun hc => ?_) (fun hc => ?_)))
 all_goals (refine zm ?_; (first | refine zgn ?_ | (refine Zam ?_)); (first | refine zgn ?_ | (refine ZaM ?_)); (first | refine zgn ?_ | (refine zgy ?_; refine zf0 ?_)); (first | refine zgn ?_ | (refine zgy ?_; refine zl hS ?_)); (first | refine zgn ?_ | (refine zgy ?_; refine zL ?_)))
 all_goals (first | refine zgn ?_ | (refine zgy ?_; (first | (refine Qd ?_) | (refine Qh ?_) | (refine Q6 rfl rfl (fun hc => ?_) (fun hc => ?_)))))
 all_goals ((first | (refine zpt ?_) | (refine zpf ?_)))
 all_goals (first | (refine zR1 (c := Q2e hS) (h := ?_); rintro v1 w1 ⟨rfl, hS⟩) | (refine zE1 (c := Q2i hS) (p := by rintro v9 w9 ⟨rfl, hS⟩; (repeat (first | refine Ql ?_ | refine Qm ?_ | refine fun _ => ?_)); refine QI ?_; refine .inr ⟨_, rfl, ?_⟩; first | (exact .inl ⟨hX.trans ((Q3 hrs).trans ((Q3 hvs).trans (if_pos (by omega)))), rfl, hS.sp⟩)) (h := fun _ _ h => h.elim)))
 all_goals (refine zn ?_; refine zD (ci 12 [11]) ?_; have hS := hS.drew; refine ZaO ?_; refine Zag ?_; refine Q1f hS hel rfl fd (Q5 fr g) (Q7 fr g) rfl ?_; refine zf0 ?_; refine zl hS ?_; refine ZaO ?_; refine zb4 [_, _, _, _, _] ?_; refine znc ?_; refine Q31 (css' := Q1v fr ⟨g.f, t.block.toNat, 0, .slice a2 (vs.map Val.cells).length n2, vs, .slice a1 (Q8 rs).length n1, rs⟩) hS hel rfl vw (by rfl) fd (Q5 fr g) (Q7 fr g) rfl (by simp [oneC, ho1, ho2]) (by rw [show Value.int .i64 t.block = .int .i64 ((t.block.toNat : Nat) : Int) by rw [Int.toNat_of_nonneg hb0]]; exact QbL (g' := ⟨g.f, t.block.toNat, 0, .slice a2 (vs.map Val.cells).length n2, vs, .slice a1 (Q8 rs).length n1, rs⟩)) ?_; intro w8 hS; have hS := hS.ns; refine ZbM ?_; exact .inl ⟨_, rfl, c.lv, c.iv, c.ov, fr, ⟨g.f, t.block.toNat, 0, .slice a2 (vs.map Val.cells).length n2, vs, .slice a1 (Q8 rs).length n1, rs⟩, N, h, inp, out, hX.trans ((Q3 hrs).trans ((Q3 hvs).trans (if_neg (by omega)))), hi, by omega, rfl, hS.sp⟩)
end Go.Proofs.YteflkifmgnpbhaaGreat
namespace Go.Lir
theorem ret_l {s : MS} {f : Fun} {e : Tail} (h : s.g.args e.args = none) : s.ret f e = .lost := by unfold MS.ret; exact Qx h
theorem ret_n {s : MS} {f : Fun} {e : Tail} {vs : List Val} (h : s.g.args e.args = some vs) (hl : vs.length ≠ f.results.length) : s.ret f e = .lost := by unfold MS.ret; rw [Q3 h, if_pos hl]
theorem ret_k {s : MS} {f : Fun} {e : Tail} {vs : List Val} {c : Frm} {st : List Frm} (h : s.g.args e.args = some vs) (hl : vs.length = f.results.length) (hs : s.st = c :: st) : s.ret f e = .go ((⟨s.h, c, st, s.inp, s.out, s.fuel⟩ : MS).put vs) := by
 unfold MS.ret; rw [Q3 h, if_neg (fun hn => hn hl), hs]
theorem ret_d {s : MS} {f : Fun} {e : Tail} {vs : List Val} {ns : List Int} (h : s.g.args e.args = some vs) (hl : vs.length = f.results.length) (hs : s.st = []) (hn : intsV vs = some ns) : s.ret f e = .done ns := by
 unfold MS.ret; rw [Q3 h, if_neg (fun hn => hn hl), hs]; dsimp only; rw [hn]
theorem ret_b {s : MS} {f : Fun} {e : Tail} {vs : List Val} (h : s.g.args e.args = some vs) (hl : vs.length = f.results.length) (hs : s.st = []) (hn : intsV vs = none) : s.ret f e = .lost := by
 unfold MS.ret; rw [Q3 h, if_neg (fun hn => hn hl), hs]; dsimp only; rw [hn]
theorem Qca {v : Val} {l : List Val} (h : v.kind = 1) : intsV (v :: l) = (intsV l).map fun r => v.n :: r := by
 rw [intsV]
 cases intsV l with
 | none => rfl
 | some ns => exact if_pos h
theorem ints_n {v : Val} {l : List Val} (h : v.kind ≠ 1) : intsV (v :: l) = none := by
 rw [intsV]
 cases intsV l with
 | none => rfl
 | some ns => exact if_neg h
theorem Qcb {vs : List Val} {q : Nat} {v : Val} {ns : List Int} (hd : intsV vs = (intsV (vs.drop q)).map fun r => ns ++ r) (hx : vs[q]? = some v) (hk : v.kind = 1) : intsV vs = (intsV (vs.drop (q + 1))).map fun r => (ns ++ [v.n]) ++ r := by
 rw [hd, Q2 hx, Qca hk]
 cases intsV (vs.drop (q + 1)) with
 | none => rfl
 | some r => simp
theorem ints_bad {vs : List Val} {q : Nat} {v : Val} {ns : List Int} (hd : intsV vs = (intsV (vs.drop q)).map fun r => ns ++ r) (hx : vs[q]? = some v) (hk : v.kind ≠ 1) : intsV vs = none := by
 rw [hd, Q2 hx, ints_n hk]; rfl
theorem ints_end {vs : List Val} {q : Nat} {ns : List Int} (hd : intsV vs = (intsV (vs.drop q)).map fun r => ns ++ r) (hq : vs.length ≤ q) : intsV vs = some ns := by
 rw [hd, List.drop_of_length_le hq, intsV]; simp
theorem ints_0 {vs : List Val} : intsV vs = (intsV (vs.drop 0)).map fun r => [] ++ r := by
 rw [List.drop_zero]; cases intsV vs <;> rfl
end Go.Lir
namespace Go.Proofs.YteflkifmgnpbhaaGreat
open Go.Lir
set_option maxHeartbeats 1000000
attribute [local irreducible] LC.wp Q0 QF QE retQ Q16 LO.wp Qf Calls
set_option linter.unusedSimpArgs false
set_option linter.unusedVariables false
variable {cx : Cx} {w : World} {L : List Res} {p N : Nat} {c : MC} {fr : List FrmV} {g : FrmV} {h : HpS} {out inp : List Int} {fu : Nat} {m : Module}
def DoneS (p : Nat) (c : MC) (N : Nat) (h : HpS) (out : List Int) (X : Stp) (cx : Cx) (L : List Res) (u : Value) (w' : World) : Prop :=
 ∃ ns bv fr' g', X = .done ns ∧ u = .tuple #[] ∧ St cx w' (mS p ⟨c.hp, c.fn, c.lv, c.iv, c.e, bv, c.ov, c.fu, c.mo, true, c.c, c.a⟩ fr' g' N h out (sl 2 1 bv (Q8 ns) :: L))
attribute [local irreducible] Frm.val Frm.num Frm.args Frm.rgs Frm.reg intsV
theorem mret_0 {f : Fun} {e : Tail} {cs : List Value} (hx : endR.at cx cs e) (hfn : funcR.sl cx c.fn m.funcs) (hfx : m.funcs[g.f]? = some f) (h8 : e.args.length ≤ 100) (hS : St cx w (mS p c [] g N h out L)) :
 Fins Tryz.prog Q2n [.pointer (some ⟨p, 0, none⟩), .agg ⟨cs⟩] w (fun u w' => DoneS p c N h out ((msOf h g [] inp out fu).ret f e) cx L u w') (BadS p c N h out ((msOf h g [] inp out fu).ret f e) cx L) := by
 obtain ⟨v1, v2, v3, v4, v5, rfl, k1, k2, k3, k4, k5⟩ := Q2Q hx
 have hfl := hfn.len
 have hgf := (List.getElem?_eq_some_iff.1 hfx).1
 have hf0 : ([] : List FrmV).length ≤ 1000 := by simp
 unfold Fins BadS DoneS
 all_goals refine lgo tyD Tryz.func185 ?_
 all_goals (refine Zaz ?_; intro p3 w1 hS; refine ZaZ ?_; have hS : St cx _ (mS p c [] g N h out (blk p3 90 [.int .i64 e.op, .int .i64 e.a, .int .i64 e.yes.block, v1, v2, .int .i64 e.no.block, v3, v4, v5] :: L)) := hS.sp; refine Zak ?_; refine zf0 ?_; refine zl hS ?_; refine zE2 (c := Q7S (by omega) hf0 k5 (show St cx _ (mL p c [] g _) from hS.sp)) (p := by rintro u9 w9 ⟨hvs, rfl, hS⟩; (repeat (first | refine Ql ?_ | refine Qm ?_ | refine fun _ => ?_)); refine QI ?_; refine .inr ⟨_, rfl, ?_⟩; exact .inl ⟨ret_l hvs, rfl, hS.sp⟩) (h := ?_); rintro u2 w2 ⟨vs, hvs, hvl, ho2, hS⟩; obtain ⟨a2, n2, rfl⟩ := hS.shape (i := 5) rfl; refine Zan ?_; refine zC [(0, none), (1, none), (2, none), (3, none), (4, none), (5, none), (6, none), (7, none), (8, some (some [6])), (9, none), (10, none), (11, none), (12, none), (13, none), (14, none), (15, none), (16, none), (17, some none)] ?_; have hS := hS.drew; refine ZaF ?_; (first | (refine zL ?_) | (refine zLe hS ?_)); refine Zat ?_; refine ZaN ?_; refine zf0 ?_; refine zt ?_)
 all_goals (refine s_cq ?_; (first | refine zf0 ?_ | refine zfd ?_); refine Zab ?_; refine zl hS ?_; refine ZbY ?_; refine Zar ?_; refine zR1 (c := Q3u hf0 (show St cx _ (mL p c [] g _) from hS.sp)) (h := ?_); rintro v9 w1 ⟨b9, o9, rfl, hel, hS⟩; refine ZaI ?_; refine Zbx ?_; refine Q1f hS hel rfl fd (Q5 [] g) (Q7 [] g) rfl ?_; refine Zab ?_; refine zi ?_; intro b8 o8 cs8 x8 hat8 hx8 he8; obtain rfl : x8 = f := Option.some.inj (hx8.symm.trans hfx); obtain ⟨vp8, vr8, vb8, rfl, hp8, hr8, hb8⟩ := Qv he8; refine Zbg ?_; refine Zab ?_; refine zL ?_; refine Zab ?_)
 all_goals (first | (refine Qd ?_) | (refine Qh ?_) | (refine Q6 rfl rfl (fun hc => ?_) (fun hc => ?_)))
 all_goals (refine Zax ?_)
 all_goals (first | (refine zR1 (c := Q2e hS) (h := ?_); rintro v1 w1 ⟨rfl, hS⟩) | (refine zE1 (c := Q2i hS) (p := by rintro v9 w9 ⟨rfl, hS⟩; (repeat (first | refine Ql ?_ | refine Qm ?_ | refine fun _ => ?_)); refine QI ?_; refine .inr ⟨_, rfl, ?_⟩; first | (exact .inl ⟨ret_n hvs (by omega), rfl, hS.sp⟩)) (h := fun _ _ h => h.elim)))
 all_goals (refine Zaw ?_; refine ZaA ?_; refine znc ?_; refine zf0 ?_; refine zl hS ?_; refine QY hS vw fd (show (Q1v [] g).length = 1 from rfl) ?_)
 all_goals (first | (refine QG ?_) | (refine QL ?_))
 all_goals (refine zn ?_)
 all_goals refine zcf ?_
 all_goals (refine zsk ?_; refine Zbk ?_; (first | (refine zL ?_) | (refine zLe hS ?_)); refine ZaC ?_; have hS := hS.nil (T := 2) (es := 1))
 refine zo [0, 53, 54] (fun A ρ' w' => ∃ (q : Nat) (vo : Value) (ns : List Int), Has ρ' A ∧ Has ρ' [(5, vo), (55, .int .i64 q)] ∧ (q ≤ vs.length) ∧ (ns.length = q) ∧ (oneC vo = true) ∧ (intsV vs = (intsV (vs.drop q)).map fun r => ns ++ r) ∧ St cx w' (sl 2 1 vo (Q8 ns) :: sl 224 4 (.slice a2 (vs.map Val.cells).length n2) (vs.map Val.cells) :: mS p c [] g N h out L)) (fun ρ' _ => (vs.length - iv (ρ' 55)).toNat) ?_ ?_
 · exact ⟨0, .slice none 0 0, [], zh, zh, (by omega), rfl, rfl, ints_0, hS.sp⟩
 rintro ρ w1 ⟨q, vo, ns, hA, hρ, hq, hol, hvo, hd, hS⟩; obtain ⟨ρ, rfl⟩ := env2 hA hρ
 all_goals (refine ZbH ?_)
 refine Qt rfl (fun hc => ?_) (fun hc => ?_)
 · skip
   all_goals (refine Zbn ?_; obtain ⟨v9, hv9⟩ : ∃ v, vs[q]? = some v := ⟨_, List.getElem?_eq_getElem (by omega)⟩; refine Q29 hS vw rfl (i := 1) rfl (by rw [List.length_map]; omega) ?_; intro b7 o7 hel7; refine Q1i hS hel7 rfl (i := 1) rfl rfl (show (vs.map Val.cells)[q]? = some v9.cells by rw [List.getElem?_map, hv9]; rfl) ?_; unfold Val.cells; refine Qg hS ?_; intro p7 w1 hS; refine zsn hS ?_; intro w1 hS; have hS := hS.ns; refine ZaS ?_; refine zf0 ?_; refine zl hS ?_)
   all_goals (first | (refine Qd ?_) | (refine Qh ?_) | (refine Q6 rfl rfl (fun hc => ?_) (fun hc => ?_)))
   all_goals (first | (refine zR1 (c := Q2e hS) (h := ?_); rintro v1 w1 ⟨rfl, hS⟩) | (refine zE1 (c := Q2i hS) (p := by rintro v9 w9 ⟨rfl, hS⟩; (repeat (first | refine Ql ?_ | refine Qm ?_ | refine fun _ => ?_)); refine QI ?_; refine .inr ⟨_, rfl, ?_⟩; first | (first | exact .inl ⟨ret_n hvs (by omega), rfl, hS.sp⟩ | exact .inl ⟨ret_b hvs (by omega) rfl (ints_bad hd hv9 (by omega)), rfl, hS.sp⟩)) (h := fun _ _ h => h.elim)))
   all_goals (refine Zbd ?_; refine zf0 ?_; refine zl hS ?_; refine zB1 hS [_] ?_; intro b1 w1 hS; refine Q1x Q5x (.inl Q8E) hS vw vw (i := 2) rfl (hS.srcB (i := 0) rfl (by rfl) (by simp [oneC])) (by rw [List.length_map]; simp only [List.length_cons, List.length_nil]; omega) ?_; intro v7 w7 hS; have hS := hS.ns; have ho7 := hS.oneC (i := 2) rfl; refine Zac ?_; refine Qn ?_; refine zad ?_; refine Zac ?_; exact ⟨⟨q + 1, v7, ns ++ [v9.n], zh, zh, (by omega), by rw [List.length_append, hol]; rfl, ho7, Qcb hd hv9 (by omega), by rw [Q8, List.map_append]; exact hS.sp⟩, Qu (by omega)⟩)
 · skip
   all_goals (refine zex ?_; refine Zad ?_; refine Zbe ?_; refine zf0 ?_; (first | refine zf0 ?_ | refine zfd ?_); refine zst hS ?_; intro w1 hS; have hS := hS.ns; refine Zbd ?_; refine znc ?_; refine zf0 ?_; refine zst hS ?_; intro w1 hS; have hS := hS.ns; refine ZbM ?_; exact .inl ⟨_, rfl, ns, vo, [], g, ret_d hvs (by omega) rfl (ints_end hd (by omega)), rfl, hS.sp⟩)
theorem Q9M {k : FrmV} : ((Q1v (fr ++ [k]) g).take (fr ++ [k]).length).drop 0 = Q1v fr k := by
 unfold Q1v
 rw [List.drop_zero, List.take_append_of_le_length (by simp), List.take_of_length_le (by simp), List.map_append]; rfl
theorem big_k {k : FrmV} (hS : St cx w (big FrmV.res (fr ++ [k]) :: L)) : St cx w (sl 224 4 k.vv (k.vals.map Val.cells) :: sl 3 1 k.rv (Q8 k.regs) :: big FrmV.res fr :: L) := by
 have h1 := hS.bigOut (i := 0) (k := fr.length) (x := k) rfl (by simp)
 have h2 : (fr ++ [k]).eraseIdx fr.length = fr := by rw [List.eraseIdx_append_of_length_le (Nat.le_refl _)]; simp
 rw [List.set_cons_zero, h2] at h1
 exact St.star h1
theorem mret_1 {f : Fun} {e : Tail} {cs : List Value} {k : FrmV} (hx : endR.at cx cs e) (hfn : funcR.sl cx c.fn m.funcs) (hi : intR.sl cx c.iv inp) (hfx : m.funcs[g.f]? = some f) (h8 : e.args.length ≤ 100) (hf : fr.length ≤ 900) (hn : k.vals.length ≤ 900000) (hS : St cx w (mS p c (fr ++ [k]) g N h out L)) :
 Fins Tryz.prog Q2n [.pointer (some ⟨p, 0, none⟩), .agg ⟨cs⟩] w (GoS p c N fu ((msOf h g (fr ++ [k]) inp out fu).ret f e) cx L) (BadS p c N h out ((msOf h g (fr ++ [k]) inp out fu).ret f e) cx L) := by
 obtain ⟨v1, v2, v3, v4, v5, rfl, k1, k2, k3, k4, k5⟩ := Q2Q hx
 have hfl := hfn.len
 have hgf := (List.getElem?_eq_some_iff.1 hfx).1
 have hl1 : (fr ++ [k]).length = fr.length + 1 := by simp
 have hf0 : (fr ++ [k]).length ≤ 1000 := by omega
 have hst : (msOf h g (fr ++ [k]) inp out fu).st = k.abs :: (fr.map FrmV.abs).reverse := by unfold msOf; simp
 unfold Fins BadS GoS
 all_goals refine lgo tyD Tryz.func185 ?_
 all_goals (refine Zaz ?_; intro p3 w1 hS; refine ZaZ ?_; have hS : St cx _ (mS p c (fr ++ [k]) g N h out (blk p3 90 [.int .i64 e.op, .int .i64 e.a, .int .i64 e.yes.block, v1, v2, .int .i64 e.no.block, v3, v4, v5] :: L)) := hS.sp; refine Zak ?_; refine zf0 ?_; refine zl hS ?_; refine zE2 (c := Q7S (by omega) hf0 k5 (show St cx _ (mL p c (fr ++ [k]) g _) from hS.sp)) (p := by rintro u9 w9 ⟨hvs, rfl, hS⟩; (repeat (first | refine Ql ?_ | refine Qm ?_ | refine fun _ => ?_)); refine QI ?_; refine .inr ⟨_, rfl, ?_⟩; exact .inl ⟨ret_l hvs, rfl, hS.sp⟩) (h := ?_); rintro u2 w2 ⟨vs, hvs, hvl, ho2, hS⟩; obtain ⟨a2, n2, rfl⟩ := hS.shape (i := 5) rfl; refine Zan ?_; refine zC [(0, none), (1, none), (2, none), (3, none), (4, none), (5, none), (6, none), (7, none), (8, some (some [6])), (9, none), (10, none), (11, none), (12, none), (13, none), (14, none), (15, none), (16, none), (17, some none)] ?_; have hS := hS.drew; refine ZaF ?_; (first | (refine zL ?_) | (refine zLe hS ?_)); refine Zat ?_; refine ZaN ?_; refine zf0 ?_)
 all_goals (refine ZaU ?_; refine zl hS ?_; refine ZbY ?_; refine Zar ?_; refine zR1 (c := Q3u hf0 (show St cx _ (mL p c (fr ++ [k]) g _) from hS.sp)) (h := ?_); rintro v9 w1 ⟨b9, o9, rfl, hel, hS⟩; refine ZaI ?_; refine Zbx ?_; refine Q1f hS hel rfl fd (Q5 (fr ++ [k]) g) (Q7 (fr ++ [k]) g) rfl ?_; refine Zab ?_; refine zi ?_; intro b8 o8 cs8 x8 hat8 hx8 he8; obtain rfl : x8 = f := Option.some.inj (hx8.symm.trans hfx); obtain ⟨vp8, vr8, vb8, rfl, hp8, hr8, hb8⟩ := Qv he8; refine Zbg ?_; refine Zab ?_; refine zL ?_; refine Zab ?_)
 all_goals (first | (refine Qd ?_) | (refine Qh ?_) | (refine Q6 rfl rfl (fun hc => ?_) (fun hc => ?_)))
 all_goals (refine Zax ?_)
 all_goals (first | (refine zR1 (c := Q2e hS) (h := ?_); rintro v1 w1 ⟨rfl, hS⟩) | (refine zE1 (c := Q2i hS) (p := by rintro v9 w9 ⟨rfl, hS⟩; (repeat (first | refine Ql ?_ | refine Qm ?_ | refine fun _ => ?_)); refine QI ?_; refine .inr ⟨_, rfl, ?_⟩; first | (exact .inl ⟨ret_n hvs (by omega), rfl, hS.sp⟩)) (h := fun _ _ h => h.elim)))
 all_goals (refine Zaw ?_; refine ZaA ?_; refine znc ?_; refine zf0 ?_; refine zl hS ?_; refine QY (n := fr.length + 2) hS vw fd (by rw [Q5]; omega) ?_)
 all_goals (refine QG ?_)
 all_goals (refine zn ?_)
 all_goals refine zct ?_
 all_goals (refine Qb ?_; refine zD (ci 15 [14]) ?_; have hS := hS.drew; refine ZaO ?_; refine znc ?_; refine zf0 ?_; refine zl hS ?_; refine Zbe ?_; refine zf0 ?_; refine zl hS ?_; refine QY (n := fr.length + 2) hS vw fd (by rw [Q5]; omega) ?_; refine Q4e rfl rfl (by omega) (by omega) ?_; rw [show ((fr.length + 2 : Nat) : Int) - 1 = (((fr ++ [k]).length : Nat) : Int) by omega]; refine s_subE (l' := 0) (h' := (fr ++ [k]).length) hS vw (i := 1) rfl rfl ⟨_, rfl⟩ rfl (by rw [Q5]; omega) (by omega) ?_; intro v7 hS; rw [Q9M] at hS; have hS := hS.ns; have ho7 := hS.oneC (i := 1) rfl; refine znc ?_; refine zf0 ?_; refine zst hS ?_; intro w1 hS; have hS := hS.ns; refine Zbi ?_; refine zm ?_; have hS := big_k (fr := fr) (k := k) (L := blk p 55 _ :: sl 110 5 v7 (Q1v fr k) :: sl 224 4 (.slice a2 _ n2) _ :: Q1B N c.hp h :: sl 2 1 c.ov (Q8 out) :: L) hS.sp; have hS : St cx _ (mL p (c.upd v7 c.iv c.ov) fr k (sl 224 4 (.slice a2 (vs.map Val.cells).length n2) (vs.map Val.cells) :: Q1B N c.hp h :: sl 2 1 c.ov (Q8 out) :: L)) := hS.sp; refine zR2 (c := Q4a (j := 0) (vs := vs) (by omega) (by omega) hS rfl) (h := ?_); rintro u1 w1 ⟨tv, rfl, hS⟩)
 all_goals (refine ZaX ?_; refine q_ret0 ?_; exact .inl ⟨_, rfl, v7, c.iv, c.ov, fr, k.push tv vs, N, h, inp, out, ret_k hvs (by omega) hst, hi, by omega, rfl, hS.sp⟩)
end Go.Proofs.YteflkifmgnpbhaaGreat
namespace Go.Proofs.YteflkifmgnpbhaaGreat
open Go.Lir
set_option maxHeartbeats 1000000
attribute [local irreducible] LC.wp Q0 QF QE retQ Q16 LO.wp Qf Calls
set_option linter.unusedSimpArgs false
set_option linter.unusedVariables false
variable {cx : Cx} {w : World} {L : List Res} {p N : Nat} {c : MC} {fr : List FrmV} {g : FrmV} {h : HpS} {out inp : List Int} {fu : Nat} {m : Module}
def OkS (p : Nat) (c : MC) (N : Nat) (h : HpS) (out : List Int) (fu : Nat) (X : Stp) (cx : Cx) (L : List Res) (u : Value) (w' : World) : Prop := GoS p c N fu X cx L u w' ∨ DoneS p c N h out X cx L u w'
theorem mret_c {f : Fun} {e : Tail} {cs : List Value} (hx : endR.at cx cs e) (hfn : funcR.sl cx c.fn m.funcs) (hi : intR.sl cx c.iv inp) (hfx : m.funcs[g.f]? = some f) (h8 : e.args.length ≤ 100) (hf : fr.length ≤ 900) (hn : ∀ x ∈ fr, x.vals.length ≤ 900000) (hS : St cx w (mS p c fr g N h out L)) :
 Fins Tryz.prog Q2n [.pointer (some ⟨p, 0, none⟩), .agg ⟨cs⟩] w (OkS p c N h out fu ((msOf h g fr inp out fu).ret f e) cx L) (BadS p c N h out ((msOf h g fr inp out fu).ret f e) cx L) := by
 rcases List.eq_nil_or_concat fr with rfl | ⟨fr0, k, hk⟩
 · exact (mret_0 hx hfn hfx h8 hS).mono (fun _ _ h => .inr h) (fun _ _ h => h)
 · obtain rfl : fr = fr0 ++ [k] := by simpa using hk
   exact (mret_1 hx hfn hi hfx h8 (by rw [List.length_append] at hf; omega) (hn k (by simp)) hS).mono (fun _ _ h => .inl h) (fun _ _ h => h)
theorem GoS.tup {X : Stp} {u : Value} (hG : GoS p c N fu X cx L u w) : u = .tuple #[] ∧ GoS p c N fu X cx L u w := ⟨by obtain ⟨lv, iv, ov, fr', g', N', h', inp', out', _, _, _, hu, _⟩ := hG; exact hu, hG⟩
theorem GoS.drop {X : Stp} {u : Value} {r : Res} (hG : GoS p c N fu X cx (r :: L) u w) : GoS p c N fu X cx L u w := by
 obtain ⟨lv, iv, ov, fr', g', N', h', inp', out', h1, h2, h3, h4, hS⟩ := hG
 exact ⟨lv, iv, ov, fr', g', N', h', inp', out', h1, h2, h3, h4, hS.sp⟩
theorem BadS.drop {X : Stp} {u : Value} {r : Res} (hB : BadS p c N h out X cx (r :: L) u w) : BadS p c N h out X cx L u w := by
 rcases hB with ⟨h1, h2, hS⟩ | ⟨e, h1, h2, fr', g', N', h3, hS⟩
 · exact .inl ⟨h1, h2, hS.sp⟩
 · exact .inr ⟨e, h1, h2, fr', g', N', h3, hS.sp⟩
theorem DoneS.drop {X : Stp} {u : Value} {r : Res} (hD : DoneS p c N h out X cx (r :: L) u w) : DoneS p c N h out X cx L u w := by
 obtain ⟨ns, bv, fr', g', h1, h2, hS⟩ := hD
 exact ⟨ns, bv, fr', g', h1, h2, hS.sp⟩
theorem GoS.ok {X : Stp} {u : Value} (hG : GoS p c N fu X cx L u w) : OkS p c N h out fu X cx L u w := .inl hG
theorem OkS.drop {X : Stp} {u : Value} {r : Res} (hG : OkS p c N h out fu X cx (r :: L) u w) : OkS p c N h out fu X cx L u w := hG.elim (fun h => .inl h.drop) (fun h => .inr h.drop)
theorem OkS.tup {X : Stp} {u : Value} (hG : OkS p c N h out fu X cx L u w) : u = .tuple #[] ∧ OkS p c N h out fu X cx L u w := by
 refine ⟨?_, hG⟩
 rcases hG with h | ⟨ns, bv, fr', g', h1, h2, hS⟩
 · exact h.tup.1
 · exact h2
def ToOK (f : Fun) (t : To) : Prop := (0 ≤ t.block ∧ t.block < f.blocks.length) ∧ t.regs.length ≤ 100 ∧ t.args.length ≤ 100
attribute [local irreducible] Frm.val Frm.num Frm.args Frm.rgs Frm.reg intsV MS.to MS.ret GoS BadS DoneS OkS
theorem bad_n {x : Option Int} {X : Int → Stp} (hx : x = none) (hS : St cx w (mS p c fr g N h out L)) : BadS p c N h out (Q1e x X) cx L Q3v w := by
 unfold BadS; exact .inl ⟨Qx hx, rfl, hS.sp⟩
theorem mend_c {f : Fun} {e : Tail} {cs : List Value} (hx : endR.at cx cs e) (hfn : funcR.sl cx c.fn m.funcs) (hi : intR.sl cx c.iv inp) (hfx : m.funcs[g.f]? = some f) (h8 : e.args.length ≤ 100) (hop : 1 ≤ e.op ∧ e.op ≤ 3) (hy : e.op ≠ 3 → ToOK f e.yes) (hno : e.op = 2 → ToOK f e.no) (hf : fr.length ≤ 900) (hn : ∀ x ∈ fr, x.vals.length ≤ 900000) (hS : St cx w (mS p c fr g N h out L)) :
 Fins Tryz.prog Q5k [.pointer (some ⟨p, 0, none⟩), .agg ⟨cs⟩] w (OkS p c N h out fu ((msOf h g fr inp out fu).fin f e) cx L) (BadS p c N h out ((msOf h g fr inp out fu).fin f e) cx L) := by
 obtain ⟨v1, v2, v3, v4, v5, rfl, k1, k2, k3, k4, k5⟩ := Q2Q hx
 unfold Fins
 rcases (show e.op = 1 ∨ e.op = 2 ∨ e.op = 3 by omega) with h1 | h1 | h1
 · have hX : (msOf h g fr inp out fu).fin f e = (msOf h g fr inp out fu).to f e.yes := if_pos h1
   obtain ⟨⟨y1, y2⟩, y3, y4⟩ := hy (by omega)
   rw [hX]
   all_goals refine lgo tyD Tryz.func119 ?_
   all_goals (refine Zaz ?_; intro p3 w1 hS; refine ZaS ?_; refine zf0 ?_; refine zl hS ?_; refine ZbF ?_; refine Qb ?_; have hS : St cx _ (mS p c fr g N h out (blk p3 90 [.int .i64 e.op, .int .i64 e.a, .int .i64 e.yes.block, v1, v2, .int .i64 e.no.block, v3, v4, v5] :: L)) := hS.sp; refine Qn ?_)
   all_goals (refine Qd ?_)
   all_goals (refine Zac ?_)
   all_goals refine zct ?_
   all_goals (refine Zak ?_; refine zf0 ?_; refine zv hS ?_; refine zE2 (c := mto_c (t := e.yes) (inp := inp) (fu := fu) ⟨_, _, rfl, k1, k2⟩ hfn hi hfx y1 y2 y3 y4 (by omega) hS) (p := by rintro u9 w9 hB; (repeat (first | refine Ql ?_ | refine Qm ?_ | refine fun _ => ?_)); refine QI ?_; refine .inr ⟨_, rfl, ?_⟩; exact hB.drop) (h := ?_); rintro u1 w2 hG; refine ZbM ?_; have hG := hG.drop; obtain ⟨rfl, hG⟩ := hG.tup; exact .inl ⟨_, rfl, hG.ok⟩)
 · have hX : (msOf h g fr inp out fu).fin f e = Q1e (g.abs.num e.a) fun n => if n ≠ 0 then (msOf h g fr inp out fu).to f e.yes else (msOf h g fr inp out fu).to f e.no := (if_neg (by omega)).trans (if_pos h1)
   obtain ⟨⟨y1, y2⟩, y3, y4⟩ := hy (by omega)
   obtain ⟨⟨n1, n2⟩, n3, n4⟩ := hno h1
   rw [hX]
   all_goals refine lgo tyD Tryz.func119 ?_
   all_goals (refine Zaz ?_; intro p3 w1 hS; refine ZaS ?_; refine zf0 ?_; refine zl hS ?_; refine ZbF ?_; refine Qb ?_; have hS : St cx _ (mS p c fr g N h out (blk p3 90 [.int .i64 e.op, .int .i64 e.a, .int .i64 e.yes.block, v1, v2, .int .i64 e.no.block, v3, v4, v5] :: L)) := hS.sp; refine Qn ?_)
   all_goals (first | (refine Qd ?_) | (refine Qh ?_))
   all_goals (refine Zac ?_)
   all_goals refine zcf ?_
   all_goals (refine Zaa ?_)
   all_goals (refine Qd ?_)
   all_goals (refine Zac ?_)
   all_goals refine zct ?_
   all_goals (refine Zad ?_; refine zf0 ?_; refine zl hS ?_; refine zE2 (c := Q5a (by omega) hS) (p := by rintro u9 w9 ⟨hnn, rfl, hS⟩; (repeat (first | refine Ql ?_ | refine Qm ?_ | refine fun _ => ?_)); refine QI ?_; refine .inr ⟨_, rfl, ?_⟩; exact (bad_n hnn (show St cx _ (mS p c fr g N h out _) from hS.sp)).drop) (h := ?_); rintro u1 w2 ⟨n, hnn, rfl, hS⟩; rw [Q3 hnn])
   all_goals (first | (refine QC ?_) | (refine QJ ?_) | (refine Qj rfl rfl (fun hc => ?_) (fun hc => ?_)))
   all_goals (refine zn ?_)
   all_goals
    first
    | (refine zct ?_
       all_goals (rw [if_pos (show n ≠ 0 by omega)]; refine Zak ?_; refine zf0 ?_; refine zv hS ?_; refine zE2 (c := mto_c (t := e.yes) (inp := inp) (fu := fu) ⟨_, _, rfl, k1, k2⟩ hfn hi hfx y1 y2 y3 y4 (by omega) hS) (p := by rintro u9 w9 hB; (repeat (first | refine Ql ?_ | refine Qm ?_ | refine fun _ => ?_)); refine QI ?_; refine .inr ⟨_, rfl, ?_⟩; exact hB.drop) (h := ?_); rintro u1 w2 hG)
       all_goals refine zn ?_)
    | (refine zcf ?_
       all_goals (rw [if_neg (show ¬ n ≠ 0 by omega)]; refine Zak ?_; refine zf0 ?_; refine zv hS ?_; refine zE2 (c := mto_c (t := e.no) (inp := inp) (fu := fu) ⟨_, _, rfl, k3, k4⟩ hfn hi hfx n1 n2 n3 n4 (by omega) hS) (p := by rintro u9 w9 hB; (repeat (first | refine Ql ?_ | refine Qm ?_ | refine fun _ => ?_)); refine QI ?_; refine .inr ⟨_, rfl, ?_⟩; exact hB.drop) (h := ?_); rintro u1 w2 hG)
       all_goals refine zn ?_)
   all_goals (refine Q1j ?_; have hG := hG.drop; obtain ⟨rfl, hG⟩ := hG.tup; exact .inl ⟨_, rfl, hG.ok⟩)
 · have hX : (msOf h g fr inp out fu).fin f e = (msOf h g fr inp out fu).ret f e := (if_neg (by omega)).trans (if_neg (by omega))
   rw [hX]
   all_goals refine lgo tyD Tryz.func119 ?_
   all_goals (refine Zaz ?_; intro p3 w1 hS; refine ZaS ?_; refine zf0 ?_; refine zl hS ?_; refine ZbF ?_; refine Qb ?_; have hS : St cx _ (mS p c fr g N h out (blk p3 90 [.int .i64 e.op, .int .i64 e.a, .int .i64 e.yes.block, v1, v2, .int .i64 e.no.block, v3, v4, v5] :: L)) := hS.sp; refine Qn ?_)
   all_goals (first | (refine Qd ?_) | (refine Qh ?_))
   all_goals (refine Zac ?_)
   all_goals refine zcf ?_
   all_goals (refine Zaa ?_)
   all_goals (first | (refine Qd ?_) | (refine Qh ?_))
   all_goals (refine Zac ?_)
   all_goals refine zcf ?_
   all_goals (refine Zaa ?_)
   all_goals (refine Qd ?_)
   all_goals (refine Zac ?_)
   all_goals refine zct ?_
   all_goals (refine Zak ?_; refine zv hS ?_; refine zE2 (c := mret_c (e := e) (inp := inp) (fu := fu) hx hfn hi hfx h8 hf hn hS) (p := by rintro u9 w9 hB; (repeat (first | refine Ql ?_ | refine Qm ?_ | refine fun _ => ?_)); refine QI ?_; refine .inr ⟨_, rfl, ?_⟩; exact hB.drop) (h := ?_); rintro u1 w2 hG; refine ZbM ?_; have hG := hG.drop; obtain ⟨rfl, hG⟩ := hG.tup; exact .inl ⟨_, rfl, hG⟩)
end Go.Proofs.YteflkifmgnpbhaaGreat
