/- Lemmas of the proof, part 4: what the functions of the program do (contracts), and what follows. -/
import Derived.Test.YteflkifmgnpbhaaGreatZ2
import Derived.Test.YteflkifmgnpbhaaGreatZ3
namespace Go.Lir
section
variable {m : Module} {s : MS} {x : Ins}
theorem xins_1 (h : x.op = 1) : s.ins m x = .go (s.put [intV x.n]) := by unfold MS.ins; rw [if_pos h]
theorem Q9z (h : x.op = 2) : s.ins m x = Q1e (s.g.num x.a) fun a => Q1e (s.g.num x.b) fun b => if (opF x.k a b).2 = false then .halt 1 else .go (s.put [intV (opF x.k a b).1]) := by unfold MS.ins; rw [if_neg (by omega), if_pos h]
theorem Q7Q (h : x.op = 3) : s.ins m x = s.newR := by unfold MS.ins; rw [if_neg (by omega), if_neg (by omega), if_pos h]
theorem Q9y (h : x.op = 4) : s.ins m x = Q1e (s.g.val x.a) fun v => if s.h.can v = false then .lost else .go (s.hp (s.h.shut v)) := by unfold MS.ins; rw [if_neg (by omega), if_neg (by omega), if_neg (by omega), if_pos h]
theorem Q9x (h : x.op = 5) : s.ins m x = Q1e (s.g.val x.a) fun v => Q1e (s.g.args x.args) fun l => s.made (s.h.code v (Q1U l)) (s.h.tuple v l) (s.h.putV v 3 (Q1U l)) := by unfold MS.ins; rw [if_neg (by omega), if_neg (by omega), if_neg (by omega), if_neg (by omega), if_pos h]
theorem Q9w (h : x.op = 6) : s.ins m x = Q1e (s.g.val x.a) fun v => if v.kind ≠ 3 then .lost else if (s.h.get v x.k).2 ≠ 0 then .lost else .go (s.put [(s.h.get v x.k).1]) := by unfold MS.ins; rw [if_neg (by omega), if_neg (by omega), if_neg (by omega), if_neg (by omega), if_neg (by omega), if_pos h]
theorem Q7P (h : x.op = 7) : s.ins m x = Q1e (s.g.val x.a) fun v => if v.kind ≠ 3 then .lost else Q1e (s.g.val x.b) fun y => if s.h.setC v x.k y ≠ 0 then .lost else .go (s.hp (s.h.set v x.k y)) := by unfold MS.ins; rw [if_neg (by omega), if_neg (by omega), if_neg (by omega), if_neg (by omega), if_neg (by omega), if_neg (by omega), if_pos h]
theorem Q9v (h : x.op = 9) : s.ins m x = Q1e (s.g.val x.a) fun v => Q1e (s.g.num x.b) fun n => Q3f v (s.h.get v n).2 (.go (s.put [(s.h.get v n).1])) := by unfold MS.ins; rw [if_neg (by omega), if_neg (by omega), if_neg (by omega), if_neg (by omega), if_neg (by omega), if_neg (by omega), if_neg (by omega), if_neg (by omega), if_pos h]
theorem Q79 (h : x.op = 10) : s.ins m x = Q1e (s.g.val x.a) fun v => Q1e (s.g.num x.b) fun n => Q1e (s.g.num x.c) fun c => Q3f v (s.h.setC v n (intV c)) (.go (s.hp (s.h.set v n (intV c)))) := by unfold MS.ins; rw [if_neg (by omega), if_neg (by omega), if_neg (by omega), if_neg (by omega), if_neg (by omega), if_neg (by omega), if_neg (by omega), if_neg (by omega), if_neg (by omega), if_pos h]
theorem Q8B (h : x.op = 11) : s.ins m x = Q1e (s.g.val x.a) fun v => Q3f v (s.h.len v).2 (.go (s.put [intV (s.h.len v).1])) := by unfold MS.ins; rw [if_neg (by omega), if_neg (by omega), if_neg (by omega), if_neg (by omega), if_neg (by omega), if_neg (by omega), if_neg (by omega), if_neg (by omega), if_neg (by omega), if_neg (by omega), if_pos h]
theorem Q8A (h : x.op = 12) : s.ins m x = s.inS := by unfold MS.ins; rw [if_neg (by omega), if_neg (by omega), if_neg (by omega), if_neg (by omega), if_neg (by omega), if_neg (by omega), if_neg (by omega), if_neg (by omega), if_neg (by omega), if_neg (by omega), if_neg (by omega), if_pos h]
theorem Q78 (h : x.op = 13) : s.ins m x = Q1e (s.g.num x.a) fun n => s.outS n := by unfold MS.ins; rw [if_neg (by omega), if_neg (by omega), if_neg (by omega), if_neg (by omega), if_neg (by omega), if_neg (by omega), if_neg (by omega), if_neg (by omega), if_neg (by omega), if_neg (by omega), if_neg (by omega), if_neg (by omega), if_pos h]
theorem Qb2 (h : x.op = 14) : s.ins m x = s.call m x := by unfold MS.ins; rw [if_neg (by omega), if_neg (by omega), if_neg (by omega), if_neg (by omega), if_neg (by omega), if_neg (by omega), if_neg (by omega), if_neg (by omega), if_neg (by omega), if_neg (by omega), if_neg (by omega), if_neg (by omega), if_neg (by omega)]
theorem part_4 {v : Val} {e : Int} {k : Stp} (hv : v.kind ≠ 4) : Q3f v e k = .lost := if_pos hv
theorem Q35 {v : Val} {e : Int} {k : Stp} (hv : v.kind = 4) (he : e = 1) : Q3f v e k = .halt 2 := by unfold Q3f; rw [if_neg (by omega), if_pos he]
theorem Q25 {v : Val} {e : Int} {k : Stp} (he : v.kind = 4 → e ≠ 1 ∧ e ≠ 0) : Q3f v e k = .lost := by
 unfold Q3f
 by_cases hv : v.kind = 4
 · obtain ⟨h1, h2⟩ := he hv
   rw [if_neg (by omega), if_neg h1, if_pos h2]
 · rw [if_pos hv]
theorem Q1b {v : Val} {e : Int} {k : Stp} (hv : v.kind = 4) (he : e = 0) : Q3f v e k = k := by unfold Q3f; rw [if_neg (by omega), if_neg (by omega), if_neg (by omega)]
theorem Q5L {h : HpS} {v : Val} {l : List Val} (e : h.code v (Q1U l) ≠ 0) : h.tuple v l = h := by unfold HpS.tuple HpS.put; exact if_neg e
theorem Qc2 {h : HpS} (e : h.full = true) : h.open = h := by unfold HpS.open; exact if_pos e
theorem new_no (e : s.h.full = true) : s.newR = .halt 6 := by unfold MS.newR; exact if_pos e
theorem Q6X (e : s.h.full = false) : s.newR = .go ((⟨s.h.open, ⟨s.g.f, s.g.b, s.g.i, s.g.vals, s.g.regs ++ [s.h.openV.region]⟩, s.st, s.inp, s.out, s.fuel⟩ : MS).put [s.h.openV]) := by unfold MS.newR; exact if_neg (by rw [e]; decide)
theorem in_0 (e : s.inp = []) : s.inS = .halt 4 := by unfold MS.inS; rw [e]
theorem in_s {n : Int} {r : List Int} (e : s.inp = n :: r) : s.inS = .go ((⟨s.h, s.g, s.st, r, s.out, s.fuel⟩ : MS).put [intV n]) := by unfold MS.inS; rw [e]
theorem out_0 {n : Int} (e : s.out.length = 2000) : s.outS n = .halt 8 := if_pos e
theorem out_s {n : Int} (e : s.out.length ≠ 2000) : s.outS n = .go ⟨s.h, s.g, s.st, s.inp, s.out ++ [n], s.fuel⟩ := if_neg e
end
end Go.Lir
namespace Go.Proofs.YteflkifmgnpbhaaGreat
open Go.Lir
set_option maxHeartbeats 1000000
attribute [local irreducible] LC.wp Q0 QF QE retQ Q16 LO.wp Qf Calls
set_option linter.unusedSimpArgs false
set_option linter.unusedVariables false
variable {cx : Cx} {w : World} {L : List Res} {p N : Nat} {c : MC} {fr : List FrmV} {g : FrmV} {h : HpS} {out inp : List Int} {fu : Nat} {m : Module}
def FrmV.nx (g : FrmV) : FrmV := ⟨g.f, g.b, g.i + 1, g.vv, g.vals, g.rv, g.regs⟩
theorem QaA {l : List Int} {n : Int} : Q8 l ++ [[.int .i64 n]] = Q8 (l ++ [n]) := by unfold Q8; rw [List.map_append]; rfl
section
variable {s : MS} {x : Ins}
theorem xins_8 (h : x.op = 8) : s.ins m x = arrX s x := by unfold MS.ins; rw [if_neg (by omega), if_neg (by omega), if_neg (by omega), if_neg (by omega), if_neg (by omega), if_neg (by omega), if_neg (by omega), if_pos h]; rfl
end
attribute [local irreducible] Frm.val Frm.num Frm.args Frm.rgs Frm.reg intsV MS.ins MS.call HpS.get HpS.set HpS.setC HpS.len HpS.code HpS.put HpS.putV HpS.open HpS.shut HpS.full HpS.openV HpS.can HpS.tuple HpS.arr HpS.arrC HpS.arrV opF Q1U
theorem mins_c {x : Ins} {cs : List Value} (hx : insR.at cx cs x) (hfn : funcR.sl cx c.fn m.funcs) (hi : intR.sl cx c.iv inp) (hop : 1 ≤ x.op ∧ x.op ≤ 14) (hk : x.op = 14 → 0 ≤ x.k ∧ x.k < m.funcs.length) (h6 : x.regs.length ≤ 100) (h8 : x.args.length ≤ 100) (hgi : g.i ≤ 1000) (hf : fr.length ≤ 900) (hn : g.vals.length ≤ 800000) (hrn : g.regs.length ≤ 800000) (hN : N ≤ 99999) (hol : out.length ≤ 2000) (hS : St cx w (mS p c fr g N h out L)) :
 Fins Tryz.prog Q5j [.pointer (some ⟨p, 0, none⟩), .agg ⟨cs⟩] w (GoS p c N fu ((msOf h g.nx fr inp out fu).ins m x) cx L) (BadS p c N h out ((msOf h g.nx fr inp out fu).ins m x) cx L) := by
 obtain ⟨vr, va, rfl, hr, ha⟩ := Q1a hx
 have hil := hi.len
 unfold Fins
 all_goals refine lgo tyD Tryz.func118 ?_
 all_goals (refine Zaz ?_; intro p3 w1 hS; refine ZaZ ?_; have hS : St cx _ (mS p c fr g N h out (blk p3 84 [.int .i64 x.op, .int .i64 x.a, .int .i64 x.b, .int .i64 x.c, .int .i64 x.k, .int .i64 x.n, vr, va] :: L)) := hS.sp; refine Zak ?_; refine zR1 (c := Q3u (by omega) hS) (h := ?_); rintro v1 w1 ⟨b9, o9, rfl, hel, hS⟩; refine Zag ?_; refine Q1 hS hel rfl fd (Q5 fr g) (Q7 fr g) rfl ?_; refine s_add rfl rfl (by omega) (by omega) ?_; rw [show ((g.i : Int) + 1) = ((g.i + 1 : Nat) : Int) by omega]; refine Zag ?_; refine QM hS hel rfl vw fd (Q5 fr g) (Q7 fr g) (by omega) rfl (Q1O (g' := g.nx) rfl) ?_; intro w8 hS; have hS := hS.ns; have hS : St cx _ (mS p c fr g.nx N h out (blk p3 84 [.int .i64 x.op, .int .i64 x.a, .int .i64 x.b, .int .i64 x.c, .int .i64 x.k, .int .i64 x.n, vr, va] :: L)) := hS.sp; refine ZaS ?_; refine zf0 ?_; refine zl hS ?_; refine ZbF ?_; refine Zaa ?_)
 all_goals (first | (refine Qd ?_) | (refine Qh ?_) | (refine Q6 rfl rfl (fun hc => ?_) (fun hc => ?_)))
 all_goals (refine Zac ?_)
 all_goals
  first
  | (refine zct ?_
     all_goals (have hX := xins_1 (m := m) (s := msOf h g.nx fr inp out fu) (x := x) (by omega); refine Zak ?_; refine zf0 ?_; refine zl hS ?_; refine zR1 (c := Q4H hS) (h := ?_); rintro v1 w1 ⟨rfl, hS⟩; unfold Val.v Val.cells; refine zB1 hS [_, _, _, _] ?_; intro b1 w1 hS; have hS := St.slOf (T := 224) (es := 4) (css := [intV x.n].map Val.cells) hS rfl (by simp [Val.cells]) rfl; have hS : St cx _ (mL p c fr g.nx (sl 224 4 (.slice (some ⟨b1, 0, none⟩) 1 1) ([intV x.n].map Val.cells) :: Q1B (N) c.hp (h) :: sl 2 1 c.ov (Q8 out) :: blk p3 84 [.int .i64 x.op, .int .i64 x.a, .int .i64 x.b, .int .i64 x.c, .int .i64 x.k, .int .i64 x.n, vr, va] :: L)) := hS.sp; refine zR2 (c := Q4a (j := 0) (by omega) (by show g.vals.length + 1 ≤ 1000000; omega) hS rfl) (h := ?_); rintro u1 w1 ⟨tv, rfl, hS⟩; refine zn ?_; have hG : GoS p c N fu ((msOf h g.nx fr inp out fu).ins m x) cx L (.tuple #[]) w1 := ⟨c.lv, c.iv, c.ov, fr, g.nx.push tv [intV x.n], N, h, inp, out, hX, hi, by omega, rfl, hS.sp⟩)
     all_goals (refine Q1j ?_; exact .inl ⟨_, rfl, hG⟩))
  | (refine zcf ?_
     all_goals (refine Zaa ?_)
     all_goals (first | (refine Qd ?_) | (refine Qh ?_) | (refine Q6 rfl rfl (fun hc => ?_) (fun hc => ?_)))
     all_goals (refine Zac ?_)
     all_goals
      first
      | (refine zct ?_
         all_goals (refine Qb ?_; have hX := Q9z (m := m) (s := msOf h g.nx fr inp out fu) (x := x) (by omega); refine zC [(0, none), (1, none), (2, none), (3, none), (4, none), (6, none), (7, none), (8, none), (5, some (some [1, 8])), (9, some (some [1])), (10, some none), (11, none), (12, none), (13, none), (14, none), (15, some none)] ?_; have hS := hS.drew; refine s_cq ?_; refine zf0 ?_; refine Zab ?_; refine zl hS ?_; refine Zat ?_; refine zf0 ?_; refine Zab ?_; refine zl hS ?_; refine Zat ?_; refine zf0 ?_; refine Zab ?_; refine zl hS ?_; refine Zar ?_; refine zE2 (c := Q5a (by omega) (show St cx _ (mL p c fr g.nx _) from hS.sp)) (p := by rintro u9 w9 ⟨hna, rfl, hS⟩; (repeat (first | refine Ql ?_ | refine Qm ?_ | refine fun _ => ?_)); refine QI ?_; refine .inr ⟨_, rfl, ?_⟩; exact .inl ⟨hX.trans (Qx hna), rfl, hS.sp⟩) (h := ?_); rintro u1 w2 ⟨na, hna, rfl, hS⟩; refine zt ?_)
         all_goals (refine zy ?_; refine Q4n ?_; refine zE2 (c := Q5a (by omega) (show St cx _ (mL p c fr g.nx _) from hS.sp)) (p := by rintro u9 w9 ⟨hnb, rfl, hS⟩; (repeat (first | refine Ql ?_ | refine Qm ?_ | refine fun _ => ?_)); refine QI ?_; refine .inr ⟨_, rfl, ?_⟩; exact .inl ⟨hX.trans ((Q3 hna).trans (Qx hnb)), rfl, hS.sp⟩) (h := ?_); rintro u1 w2 ⟨nb, hnb, rfl, hS⟩; refine ZaK ?_)
         all_goals (refine zR3 (c := op_s hS) (h := ?_); rintro v1 w1 ⟨rfl, hS⟩; cases hd : (opF x.k na nb).2)
         all_goals (refine Zat ?_; refine Zbl ?_; refine Zbl ?_; refine zm ?_; refine ZbD ?_; refine Zad ?_; refine znt ?_)
         all_goals (first | (refine zR2 (c := Q3M hS) (h := ?_); rintro v1 w1 ⟨rfl, hS⟩) | (refine zE2 (c := Q3L hS) (p := by rintro v9 w9 ⟨rfl, hS⟩; (repeat (first | refine Ql ?_ | refine Qm ?_ | refine fun _ => ?_)); refine QI ?_; refine .inr ⟨_, rfl, ?_⟩; exact .inr ⟨1, hX.trans ((Q3 hna).trans ((Q3 hnb).trans (if_pos hd))), rfl, fr, g.nx, N, by omega, hS.sp⟩) (h := fun _ _ h => h.elim)))
         all_goals (refine Zbd ?_; refine zm ?_; refine zR1 (c := Q4H hS) (h := ?_); rintro v1 w1 ⟨rfl, hS⟩; unfold Val.v Val.cells; refine zB1 hS [_, _, _, _] ?_; intro b1 w1 hS; have hS := St.slOf (T := 224) (es := 4) (css := [intV (opF x.k na nb).1].map Val.cells) hS rfl (by simp [Val.cells]) rfl; have hS : St cx _ (mL p c fr g.nx (sl 224 4 (.slice (some ⟨b1, 0, none⟩) 1 1) ([intV (opF x.k na nb).1].map Val.cells) :: Q1B (N) c.hp (h) :: sl 2 1 c.ov (Q8 out) :: blk p3 84 [.int .i64 x.op, .int .i64 x.a, .int .i64 x.b, .int .i64 x.c, .int .i64 x.k, .int .i64 x.n, vr, va] :: L)) := hS.sp; refine zR2 (c := Q4a (j := 0) (by omega) (by show g.vals.length + 1 ≤ 1000000; omega) hS rfl) (h := ?_); rintro u1 w1 ⟨tv, rfl, hS⟩; refine zn ?_; have hG : GoS p c N fu ((msOf h g.nx fr inp out fu).ins m x) cx L (.tuple #[]) w1 := ⟨c.lv, c.iv, c.ov, fr, g.nx.push tv [intV (opF x.k na nb).1], N, h, inp, out, hX.trans ((Q3 hna).trans ((Q3 hnb).trans (if_neg (by rw [hd]; decide)))), hi, by omega, rfl, hS.sp⟩)
         all_goals (refine Q1j ?_; exact .inl ⟨_, rfl, hG⟩))
      | (refine zcf ?_
         all_goals (refine Zaa ?_)
         all_goals (first | (refine Qd ?_) | (refine Qh ?_) | (refine Q6 rfl rfl (fun hc => ?_) (fun hc => ?_)))
         all_goals (refine Zac ?_)
         all_goals
          first
          | (refine zct ?_
             all_goals (refine Qb ?_; have hX := Q7Q (m := m) (s := msOf h g.nx fr inp out fu) (x := x) (by omega); refine Zak ?_; refine znc ?_; refine zf0 ?_; refine zl hS ?_)
             all_goals (refine zR1 (c := hopen_c (N := N) (s := h) (h := c.hp) (by omega) hS fd) (h := ?_); rintro v1 w1 ⟨rfl, hS⟩; have hS := hS.ns; unfold Val.v Val.cells; cases hfu : h.full)
             all_goals (refine ZbE ?_; intro p6 w1 hS; refine zsn hS ?_; intro w1 hS; have hS := hS.ns; refine ZaE ?_; refine znt ?_)
             all_goals (first | (refine zR2 (c := Q3M hS) (h := ?_); rintro v1 w1 ⟨rfl, hS⟩) | (refine zE2 (c := Q3L hS) (p := by rintro v9 w9 ⟨rfl, hS⟩; (repeat (first | refine Ql ?_ | refine Qm ?_ | refine fun _ => ?_)); refine QI ?_; refine .inr ⟨_, rfl, ?_⟩; rw [Qc2 hfu] at hS; exact .inr ⟨6, hX.trans (new_no hfu), rfl, fr, g.nx, N + 1, Nat.le_refl _, hS.sp⟩) (h := fun _ _ h => h.elim)))
             all_goals (refine ZaZ ?_)
             refine Q1p 1 9 (by kernel_rfl) ?_ ?_
             · skip
               refine Q1p 3 9 (by kernel_rfl) ?_ ?_
               · skip
                 all_goals (refine zC [(0, none), (2, none), (7, none), (8, none), (1, some (some [8])), (3, some (some [8])), (4, none), (5, none), (6, none), (9, some (some [6])), (10, some none), (11, none), (12, none), (13, some none)] ?_; have hS := hS.drew; refine Zbs ?_; refine zf0 ?_; refine Zab ?_; refine zl hS ?_; refine Zar ?_; refine zR1 (c := Q3u (by omega) (show St cx _ (mL p c fr g.nx _) from hS.sp)) (h := ?_); rintro v1 w1 ⟨b8, o8, rfl, hel8, hS⟩; refine ZaD ?_; refine zR1 (c := Q3u (by omega) (show St cx _ (mL p c fr g.nx _) from hS.sp)) (h := ?_); rintro v1 w1 ⟨b7, o7, rfl, hel7, hS⟩; refine ZaI ?_; refine Zbx ?_; refine Q1 hS hel7 rfl fd (Q5 fr g.nx) (Q7 fr g.nx) rfl ?_; refine Zar ?_; refine zB1 hS [_] ?_; intro b1 w1 hS; refine zt ?_; refine ⟨List.forall_mem_cons.2 ⟨(by (exact QA hS hel7 rfl fd (Q5 fr g.nx) (Q7 fr g.nx) rfl)), fun _ h => (List.not_mem_nil h).elim⟩, ?_⟩)
                 all_goals (refine s_cf ?_; refine Q1x Q2R (.inl Q53) hS vw vw (v := g.rv) (css := Q8 g.regs) fd (hS.srcB fd (by rfl) (by simp [oneC])) (by rw [List.length_map]; simp only [List.length_cons, List.length_nil]; omega) ?_; intro v7 w7 hS; have hS := hS.ns; refine Zab ?_; refine znc ?_; refine ZbP ?_; refine QM hS hel8 rfl vw fd (Q5 fr g.nx) (Q7 fr g.nx) (by omega) (hS.oneC (v := v7) (css := Q8 g.regs ++ [[.int .i64 h.openV.region]]) fd) (Q1O (g' := ⟨g.f, g.b, g.i + 1, g.vv, g.vals, v7, g.regs ++ [h.openV.region]⟩) rfl) ?_; intro w8 hS; have hS := hS.ns; refine Zaw ?_; have hS : St cx _ (mS p c fr ⟨g.f, g.b, g.i + 1, g.vv, g.vals, v7, g.regs ++ [h.openV.region]⟩ (N + 1) h.open out (blk p6 224 h.openV.cells :: blk p3 84 [.int .i64 x.op, .int .i64 x.a, .int .i64 x.b, .int .i64 x.c, .int .i64 x.k, .int .i64 x.n, vr, va] :: L)) := (by show St cx _ (blk p _ _ :: sl _ 5 c.lv _ :: sl _ 4 g.vv _ :: sl _ 1 v7 (List.map _ (g.regs ++ [h.openV.region])) :: _); rw [List.map_append]; exact hS.sp); refine Zak ?_; refine zv hS ?_; refine zB1 hS [_, _, _, _] ?_; intro b1 w1 hS; have hS := St.slOf (T := 224) (es := 4) (css := [h.openV].map Val.cells) hS rfl (by simp [Val.cells]) rfl; have hS : St cx _ (mL p c fr ⟨g.f, g.b, g.i + 1, g.vv, g.vals, v7, g.regs ++ [h.openV.region]⟩ (sl 224 4 (.slice (some ⟨b1, 0, none⟩) 1 1) ([h.openV].map Val.cells) :: Q1B (N + 1) c.hp (h.open) :: sl 2 1 c.ov (Q8 out) :: blk p3 84 [.int .i64 x.op, .int .i64 x.a, .int .i64 x.b, .int .i64 x.c, .int .i64 x.k, .int .i64 x.n, vr, va] :: L)) := hS.sp; refine zR2 (c := Q4a (j := 0) (by omega) (by show g.vals.length + 1 ≤ 1000000; omega) hS rfl) (h := ?_); rintro u1 w1 ⟨tv, rfl, hS⟩)
                 all_goals (refine zn ?_; have hG : GoS p c N fu ((msOf h g.nx fr inp out fu).ins m x) cx L (.tuple #[]) w1 := ⟨c.lv, c.iv, c.ov, fr, FrmV.push ⟨g.f, g.b, g.i + 1, g.vv, g.vals, v7, g.regs ++ [h.openV.region]⟩ tv [h.openV], N + 1, h.open, inp, out, hX.trans (Q6X hfu), hi, Nat.le_refl _, rfl, hS.sp⟩; refine Q1j ?_; exact .inl ⟨_, rfl, hG⟩)
               · skip
                 all_goals (refine zC [(0, none), (2, none), (7, none), (8, none), (1, some (some [8])), (9, some (some [])), (3, some (some [8])), (4, none), (5, none), (6, none), (10, some none), (11, none), (12, none), (13, some none)] ?_; have hS := hS.drew; refine Zbs ?_; refine zf0 ?_; refine Zab ?_; refine zl hS ?_; refine Zar ?_; refine zR1 (c := Q3u (by omega) (show St cx _ (mL p c fr g.nx _) from hS.sp)) (h := ?_); rintro v1 w1 ⟨b8, o8, rfl, hel8, hS⟩; refine ZaD ?_; refine zB1 hS [_] ?_; intro b1 w1 hS; refine zt ?_; refine ⟨fun _ h => (List.not_mem_nil h).elim, ?_⟩; refine Q4n ?_; refine zR1 (c := Q3u (by omega) (show St cx _ (mL p c fr g.nx _) from hS.sp)) (h := ?_); rintro v1 w1 ⟨b7, o7, rfl, hel7, hS⟩; refine ZaI ?_; refine Zbx ?_; refine Q1 hS hel7 rfl fd (Q5 fr g.nx) (Q7 fr g.nx) rfl ?_; refine Zax ?_; refine Q1x Q2R (.inl Q53) hS vw vw (v := g.rv) (css := Q8 g.regs) fd (hS.srcB fd (by rfl) (by simp [oneC])) (by rw [List.length_map]; simp only [List.length_cons, List.length_nil]; omega) ?_; intro v7 w7 hS; have hS := hS.ns)
                 all_goals (refine Zab ?_; refine znc ?_; refine ZbP ?_; refine QM hS hel8 rfl vw fd (Q5 fr g.nx) (Q7 fr g.nx) (by omega) (hS.oneC (v := v7) (css := Q8 g.regs ++ [[.int .i64 h.openV.region]]) fd) (Q1O (g' := ⟨g.f, g.b, g.i + 1, g.vv, g.vals, v7, g.regs ++ [h.openV.region]⟩) rfl) ?_; intro w8 hS; have hS := hS.ns; refine Zaw ?_; have hS : St cx _ (mS p c fr ⟨g.f, g.b, g.i + 1, g.vv, g.vals, v7, g.regs ++ [h.openV.region]⟩ (N + 1) h.open out (blk p6 224 h.openV.cells :: blk p3 84 [.int .i64 x.op, .int .i64 x.a, .int .i64 x.b, .int .i64 x.c, .int .i64 x.k, .int .i64 x.n, vr, va] :: L)) := (by show St cx _ (blk p _ _ :: sl _ 5 c.lv _ :: sl _ 4 g.vv _ :: sl _ 1 v7 (List.map _ (g.regs ++ [h.openV.region])) :: _); rw [List.map_append]; exact hS.sp); refine Zak ?_; refine zv hS ?_; refine zB1 hS [_, _, _, _] ?_; intro b1 w1 hS; have hS := St.slOf (T := 224) (es := 4) (css := [h.openV].map Val.cells) hS rfl (by simp [Val.cells]) rfl; have hS : St cx _ (mL p c fr ⟨g.f, g.b, g.i + 1, g.vv, g.vals, v7, g.regs ++ [h.openV.region]⟩ (sl 224 4 (.slice (some ⟨b1, 0, none⟩) 1 1) ([h.openV].map Val.cells) :: Q1B (N + 1) c.hp (h.open) :: sl 2 1 c.ov (Q8 out) :: blk p3 84 [.int .i64 x.op, .int .i64 x.a, .int .i64 x.b, .int .i64 x.c, .int .i64 x.k, .int .i64 x.n, vr, va] :: L)) := hS.sp; refine zR2 (c := Q4a (j := 0) (by omega) (by show g.vals.length + 1 ≤ 1000000; omega) hS rfl) (h := ?_); rintro u1 w1 ⟨tv, rfl, hS⟩)
                 all_goals (refine zn ?_; have hG : GoS p c N fu ((msOf h g.nx fr inp out fu).ins m x) cx L (.tuple #[]) w1 := ⟨c.lv, c.iv, c.ov, fr, FrmV.push ⟨g.f, g.b, g.i + 1, g.vv, g.vals, v7, g.regs ++ [h.openV.region]⟩ tv [h.openV], N + 1, h.open, inp, out, hX.trans (Q6X hfu), hi, Nat.le_refl _, rfl, hS.sp⟩; refine Q1j ?_; exact .inl ⟨_, rfl, hG⟩)
             · skip
               all_goals (refine zC [(0, none), (2, none), (7, none), (8, none), (9, some (some [])), (1, some (some [8])), (3, some (some [8])), (4, none), (5, none), (6, none), (10, some none), (11, none), (12, none), (13, some none)] ?_; have hS := hS.drew; refine Zbs ?_; refine zf0 ?_; refine Zab ?_; refine zl hS ?_; refine Zar ?_; refine zB1 hS [_] ?_; intro b1 w1 hS; refine zt ?_; refine ⟨fun _ h => (List.not_mem_nil h).elim, ?_⟩; refine Q4n ?_; refine zR1 (c := Q3u (by omega) (show St cx _ (mL p c fr g.nx _) from hS.sp)) (h := ?_); rintro v1 w1 ⟨b8, o8, rfl, hel8, hS⟩; refine ZaD ?_; refine zR1 (c := Q3u (by omega) (show St cx _ (mL p c fr g.nx _) from hS.sp)) (h := ?_); rintro v1 w1 ⟨b7, o7, rfl, hel7, hS⟩; refine ZaI ?_; refine Zbx ?_; refine Q1 hS hel7 rfl fd (Q5 fr g.nx) (Q7 fr g.nx) rfl ?_; refine Zax ?_; refine Q1x Q2R (.inl Q53) hS vw vw (v := g.rv) (css := Q8 g.regs) fd (hS.srcB fd (by rfl) (by simp [oneC])) (by rw [List.length_map]; simp only [List.length_cons, List.length_nil]; omega) ?_; intro v7 w7 hS; have hS := hS.ns)
               all_goals (refine Zab ?_; refine znc ?_; refine ZbP ?_; refine QM hS hel8 rfl vw fd (Q5 fr g.nx) (Q7 fr g.nx) (by omega) (hS.oneC (v := v7) (css := Q8 g.regs ++ [[.int .i64 h.openV.region]]) fd) (Q1O (g' := ⟨g.f, g.b, g.i + 1, g.vv, g.vals, v7, g.regs ++ [h.openV.region]⟩) rfl) ?_; intro w8 hS; have hS := hS.ns; refine Zaw ?_; have hS : St cx _ (mS p c fr ⟨g.f, g.b, g.i + 1, g.vv, g.vals, v7, g.regs ++ [h.openV.region]⟩ (N + 1) h.open out (blk p6 224 h.openV.cells :: blk p3 84 [.int .i64 x.op, .int .i64 x.a, .int .i64 x.b, .int .i64 x.c, .int .i64 x.k, .int .i64 x.n, vr, va] :: L)) := (by show St cx _ (blk p _ _ :: sl _ 5 c.lv _ :: sl _ 4 g.vv _ :: sl _ 1 v7 (List.map _ (g.regs ++ [h.openV.region])) :: _); rw [List.map_append]; exact hS.sp); refine Zak ?_; refine zv hS ?_; refine zB1 hS [_, _, _, _] ?_; intro b1 w1 hS; have hS := St.slOf (T := 224) (es := 4) (css := [h.openV].map Val.cells) hS rfl (by simp [Val.cells]) rfl; have hS : St cx _ (mL p c fr ⟨g.f, g.b, g.i + 1, g.vv, g.vals, v7, g.regs ++ [h.openV.region]⟩ (sl 224 4 (.slice (some ⟨b1, 0, none⟩) 1 1) ([h.openV].map Val.cells) :: Q1B (N + 1) c.hp (h.open) :: sl 2 1 c.ov (Q8 out) :: blk p3 84 [.int .i64 x.op, .int .i64 x.a, .int .i64 x.b, .int .i64 x.c, .int .i64 x.k, .int .i64 x.n, vr, va] :: L)) := hS.sp; refine zR2 (c := Q4a (j := 0) (by omega) (by show g.vals.length + 1 ≤ 1000000; omega) hS rfl) (h := ?_); rintro u1 w1 ⟨tv, rfl, hS⟩)
               all_goals (refine zn ?_; have hG : GoS p c N fu ((msOf h g.nx fr inp out fu).ins m x) cx L (.tuple #[]) w1 := ⟨c.lv, c.iv, c.ov, fr, FrmV.push ⟨g.f, g.b, g.i + 1, g.vv, g.vals, v7, g.regs ++ [h.openV.region]⟩ tv [h.openV], N + 1, h.open, inp, out, hX.trans (Q6X hfu), hi, Nat.le_refl _, rfl, hS.sp⟩)
               all_goals (refine Q1j ?_; exact .inl ⟨_, rfl, hG⟩))
          | (refine zcf ?_
             all_goals (refine Zaa ?_)
             all_goals (first | (refine Qd ?_) | (refine Qh ?_) | (refine Q6 rfl rfl (fun hc => ?_) (fun hc => ?_)))
             all_goals (refine Zac ?_)
             all_goals
              first
              | (refine zct ?_
                 all_goals (have hX := Q9y (m := m) (s := msOf h g.nx fr inp out fu) (x := x) (by omega); refine zC [(0, none), (1, none), (2, none), (3, none), (4, none), (5, none), (6, none), (7, some (some [3])), (8, some none), (9, some none)] ?_; have hS := hS.drew; refine Zbo ?_; refine zf0 ?_; refine Zab ?_; refine zl hS ?_; refine Zat ?_; refine zf0 ?_; refine Zab ?_; refine zl hS ?_; refine Zar ?_; refine zE2 (c := Q2V (by omega) (show St cx _ (mL p c fr g.nx _) from hS.sp)) (p := by rintro u9 w9 ⟨hv, rfl, hS⟩; (repeat (first | refine Ql ?_ | refine Qm ?_ | refine fun _ => ?_)); refine QI ?_; refine .inr ⟨_, rfl, ?_⟩; exact .inl ⟨hX.trans (Qx hv), rfl, hS.sp⟩) (h := ?_); rintro u1 w2 ⟨v, hv, rfl, hS⟩; refine ZaK ?_)
                 all_goals (refine zR2 (c := hshut_c (N := N) (s := h) (h := c.hp) v hS fd) (h := ?_); rintro v1 w1 ⟨rfl, hS⟩; have hS := hS.ns; cases hcn : h.can v)
                 all_goals (refine Zax ?_)
                 all_goals (first | (refine zR1 (c := Q2e hS) (h := ?_); rintro v1 w1 ⟨rfl, hS⟩) | (refine zE1 (c := Q2i hS) (p := by rintro v9 w9 ⟨rfl, hS⟩; (repeat (first | refine Ql ?_ | refine Qm ?_ | refine fun _ => ?_)); refine QI ?_; refine .inr ⟨_, rfl, ?_⟩; exact .inl ⟨hX.trans ((Q3 hv).trans (if_pos hcn)), rfl, hS.sp⟩) (h := fun _ _ h => h.elim)))
                 all_goals (refine Zaw ?_; have hG : GoS p c N fu ((msOf h g.nx fr inp out fu).ins m x) cx L (.tuple #[]) w1 := ⟨c.lv, c.iv, c.ov, fr, g.nx, N, h.shut v, inp, out, hX.trans ((Q3 hv).trans (if_neg (by rw [show (msOf h g.nx fr inp out fu).h.can v = h.can v from rfl, hcn]; decide))), hi, by omega, rfl, hS.sp⟩)
                 all_goals (refine Q1j ?_; exact .inl ⟨_, rfl, hG⟩))
              | (refine zcf ?_
                 all_goals (refine Zaa ?_)
                 all_goals (first | (refine Qd ?_) | (refine Qh ?_) | (refine Q6 rfl rfl (fun hc => ?_) (fun hc => ?_)))
                 all_goals (refine Zac ?_)
                 all_goals
                  first
                  | (refine zct ?_
                     all_goals (have hX := Q9x (m := m) (s := msOf h g.nx fr inp out fu) (x := x) (by omega); refine zC [(0, none), (1, none), (2, none), (3, none), (4, none), (5, none), (6, none), (7, none), (9, none), (10, none), (11, none), (8, some (some [4, 11])), (12, some (some [4])), (13, some (some [])), (14, none), (15, none), (16, some none)] ?_; have hS := hS.drew; refine ZbV ?_; refine zf0 ?_; refine Zab ?_; refine zl hS ?_; refine Zat ?_; refine zf0 ?_; refine Zab ?_; refine zl hS ?_; refine Zat ?_; refine zf0 ?_; refine Zab ?_; refine zl hS ?_; refine Zar ?_; refine zE2 (c := Q2V (by omega) (show St cx _ (mL p c fr g.nx _) from hS.sp)) (p := by rintro u9 w9 ⟨hv, rfl, hS⟩; (repeat (first | refine Ql ?_ | refine Qm ?_ | refine fun _ => ?_)); refine QI ?_; refine .inr ⟨_, rfl, ?_⟩; exact .inl ⟨hX.trans (Qx hv), rfl, hS.sp⟩) (h := ?_); rintro u1 w2 ⟨v, hv, rfl, hS⟩)
                     all_goals (refine ZaD ?_; refine zE2 (c := Q7S (by omega) (by omega) ha (show St cx _ (mL p c fr g.nx _) from hS.sp)) (p := by rintro u9 w9 ⟨hvs, rfl, hS⟩; (repeat (first | refine Ql ?_ | refine Qm ?_ | refine fun _ => ?_)); refine QI ?_; refine .inr ⟨_, rfl, ?_⟩; exact .inl ⟨hX.trans ((Q3 hv).trans (Qx hvs)), rfl, hS.sp⟩) (h := ?_); rintro u2 w2 ⟨vs, hvs, hvl, ho2, hS⟩; refine ZaD ?_; refine zR3 (c := htuple_c (N := N) (s := h) (h := c.hp) (j := 5) v _ vs (by omega) (by omega) hS fd rfl) (h := ?_); rintro v1 w1 ⟨rfl, hS⟩; have hS := hS.ns; refine ZaI ?_; refine Zbu ?_; refine Zax ?_)
                     all_goals (refine zE3 (c := Qa1 (v := h.putV v 3 (Q1U vs)) (by omega) (by show g.vals.length ≤ 900000; omega) (show St cx _ (mL p c fr g.nx _) from hS.sp)) (p := by rintro u9 w9 ⟨he, hS⟩; (repeat (first | refine Ql ?_ | refine Qm ?_ | refine fun _ => ?_)); refine QI ?_; refine .inr ⟨_, rfl, ?_⟩; rcases he with ⟨e0, rfl⟩ | ⟨e0, e1, rfl⟩; rw [Q5L (by omega)] at hS; exact .inr ⟨6, hX.trans ((Q3 hv).trans ((Q3 hvs).trans (Q3h e0))), rfl, fr, g.nx, N + 1, Nat.le_refl _, hS.sp⟩; exact .inl ⟨hX.trans ((Q3 hv).trans ((Q3 hvs).trans (Q1N e0 e1))), rfl, hS.sp⟩) (h := ?_); rintro u1 w1 ⟨e0, tv, rfl, hS⟩)
                     all_goals (refine Zaw ?_; have hG : GoS p c N fu ((msOf h g.nx fr inp out fu).ins m x) cx L (.tuple #[]) w1 := ⟨c.lv, c.iv, c.ov, fr, g.nx.push tv [h.putV v 3 (Q1U vs)], N + 1, h.tuple v vs, inp, out, hX.trans ((Q3 hv).trans ((Q3 hvs).trans (Q2j e0))), hi, Nat.le_refl _, rfl, hS.sp⟩)
                     all_goals (refine Q1j ?_; exact .inl ⟨_, rfl, hG⟩))
                  | (refine zcf ?_
                     all_goals (refine Zaa ?_)
                     all_goals (first | (refine Qd ?_) | (refine Qh ?_) | (refine Q6 rfl rfl (fun hc => ?_) (fun hc => ?_)))
                     all_goals (refine Zac ?_)
                     all_goals
                      first
                      | (refine zct ?_
                         all_goals (refine Qb ?_; have hX := Q9w (m := m) (s := msOf h g.nx fr inp out fu) (x := x) (by omega); refine Zak ?_; refine zf0 ?_; refine zl hS ?_; refine zE2 (c := Q2V (by omega) (show St cx _ (mL p c fr g.nx _) from hS.sp)) (p := by rintro u9 w9 ⟨hv, rfl, hS⟩; (repeat (first | refine Ql ?_ | refine Qm ?_ | refine fun _ => ?_)); refine QI ?_; refine .inr ⟨_, rfl, ?_⟩; exact .inl ⟨hX.trans (Qx hv), rfl, hS.sp⟩) (h := ?_); rintro u1 w2 ⟨v, hv, rfl, hS⟩; unfold Val.v Val.cells; refine Q9I rfl rfl ?_)
                         all_goals (first | (refine Qd ?_) | (refine Qh ?_) | (refine Q6 rfl rfl (fun hc => ?_) (fun hc => ?_)))
                         all_goals (first | (refine zR1 (c := Q2e hS) (h := ?_); rintro v1 w1 ⟨rfl, hS⟩) | (refine zE1 (c := Q2i hS) (p := by rintro v9 w9 ⟨rfl, hS⟩; (repeat (first | refine Ql ?_ | refine Qm ?_ | refine fun _ => ?_)); refine QI ?_; refine .inr ⟨_, rfl, ?_⟩; exact .inl ⟨hX.trans ((Q3 hv).trans (if_pos (by omega))), rfl, hS.sp⟩) (h := fun _ _ h => h.elim)))
                         all_goals (refine ZaZ ?_)
                         refine Q1p 7 14 (by kernel_rfl) ?_ ?_
                         · skip
                           refine Q1p 10 14 (by kernel_rfl) ?_ ?_
                           · skip
                             all_goals (refine zC [(0, none), (1, none), (2, none), (3, none), (4, none), (5, none), (6, none), (8, none), (9, none), (7, some (some [3, 9])), (10, some none), (11, none), (12, none), (13, none), (14, some (some [])), (15, some (some [])), (16, some none)] ?_; have hS := hS.drew; refine Zbo ?_; refine zf0 ?_; refine Zab ?_; refine zl hS ?_; refine Zat ?_; refine zf0 ?_; refine Zab ?_; refine zl hS ?_; refine Zab ?_; refine zf0 ?_; refine Zab ?_; refine zl hS ?_; refine Zar ?_)
                             all_goals (refine zE2 (c := Q2V (by omega) (show St cx _ (mL p c fr g.nx _) from hS.sp)) (p := by rintro u9 w9 ⟨hv2, rfl, hS⟩; (repeat (first | refine Ql ?_ | refine Qm ?_ | refine fun _ => ?_)); refine QI ?_; refine .inr ⟨_, rfl, ?_⟩; rw [hv] at hv2; cases hv2) (h := ?_); rintro u1 w2 ⟨v2, hv2, rfl, hS⟩; obtain rfl : v = v2 := Option.some.inj (hv.symm.trans hv2))
                             all_goals (refine ZaK ?_; refine zR3 (c := Q6d (N := N) (s := h) (h := c.hp) v x.k hS fd) (h := ?_); rintro v1 w1 ⟨rfl, hS⟩; unfold Val.v Val.cells; refine ZbO ?_; refine ZaR ?_; intro p8 w1 hS; refine ZaD ?_; refine zsn hS ?_; intro w1 hS; have hS := hS.ns; refine ZbW ?_; refine Zad ?_)
                             all_goals (first | (refine Qd ?_) | (refine Qh ?_) | (refine Q6 rfl rfl (fun hc => ?_) (fun hc => ?_)))
                             all_goals (first | (refine zR1 (c := Q2e hS) (h := ?_); rintro v1 w1 ⟨rfl, hS⟩) | (refine zE1 (c := Q2i hS) (p := by rintro v9 w9 ⟨rfl, hS⟩; (repeat (first | refine Ql ?_ | refine Qm ?_ | refine fun _ => ?_)); refine QI ?_; refine .inr ⟨_, rfl, ?_⟩; exact .inl ⟨hX.trans ((Q3 hv).trans ((if_neg (by omega)).trans (if_pos (by show (h.get v x.k).2 ≠ 0; omega)))), rfl, hS.sp⟩) (h := fun _ _ h => h.elim)))
                             all_goals (refine Zbd ?_; refine zv hS ?_; refine zB1 hS [_, _, _, _] ?_; intro b1 w1 hS; have hS := St.slOf (T := 224) (es := 4) (css := [(h.get v x.k).1].map Val.cells) hS rfl (by simp [Val.cells]) rfl; have hS : St cx _ (mL p c fr g.nx (sl 224 4 (.slice (some ⟨b1, 0, none⟩) 1 1) ([(h.get v x.k).1].map Val.cells) :: Q1B (N) c.hp (h) :: sl 2 1 c.ov (Q8 out) :: blk p3 84 [.int .i64 x.op, .int .i64 x.a, .int .i64 x.b, .int .i64 x.c, .int .i64 x.k, .int .i64 x.n, vr, va] :: L)) := hS.sp; refine zR2 (c := Q4a (j := 0) (by omega) (by show g.vals.length + 1 ≤ 1000000; omega) hS rfl) (h := ?_); rintro u1 w1 ⟨tv, rfl, hS⟩; refine zn ?_; have hG : GoS p c N fu ((msOf h g.nx fr inp out fu).ins m x) cx L (.tuple #[]) w1 := ⟨c.lv, c.iv, c.ov, fr, g.nx.push tv [(h.get v x.k).1], N, h, inp, out, hX.trans ((Q3 hv).trans ((if_neg (by omega)).trans (if_neg (by show ¬ (h.get v x.k).2 ≠ 0; omega)))), hi, by omega, rfl, hS.sp⟩; refine Q1j ?_; exact .inl ⟨_, rfl, hG⟩)
                           · skip
                             all_goals (refine zC [(0, none), (1, none), (2, none), (3, none), (4, none), (5, none), (6, none), (8, none), (9, none), (7, some (some [3, 9])), (14, some (some [3, 9])), (10, some none), (11, none), (12, none), (13, none), (15, some (some [])), (16, some none)] ?_; have hS := hS.drew; refine Zbo ?_; refine zf0 ?_; refine Zab ?_; refine zl hS ?_; refine Zat ?_; refine zf0 ?_; refine Zab ?_; refine zl hS ?_; refine Zab ?_; refine zf0 ?_; refine Zab ?_; refine zl hS ?_; refine Zar ?_)
                             all_goals (refine zE2 (c := Q2V (by omega) (show St cx _ (mL p c fr g.nx _) from hS.sp)) (p := by rintro u9 w9 ⟨hv2, rfl, hS⟩; (repeat (first | refine Ql ?_ | refine Qm ?_ | refine fun _ => ?_)); refine QI ?_; refine .inr ⟨_, rfl, ?_⟩; rw [hv] at hv2; cases hv2) (h := ?_); rintro u1 w2 ⟨v2, hv2, rfl, hS⟩; obtain rfl : v = v2 := Option.some.inj (hv.symm.trans hv2))
                             all_goals (refine ZbJ ?_; intro p8 w1 hS; refine ZaK ?_; refine zR3 (c := Q6d (N := N) (s := h) (h := c.hp) v x.k hS fd) (h := ?_); rintro v1 w1 ⟨rfl, hS⟩; unfold Val.v Val.cells; refine ZbO ?_; refine Zar ?_; refine zsn hS ?_; intro w1 hS; have hS := hS.ns; refine ZbW ?_; refine Zad ?_)
                             all_goals (first | (refine Qd ?_) | (refine Qh ?_) | (refine Q6 rfl rfl (fun hc => ?_) (fun hc => ?_)))
                             all_goals (first | (refine zR1 (c := Q2e hS) (h := ?_); rintro v1 w1 ⟨rfl, hS⟩) | (refine zE1 (c := Q2i hS) (p := by rintro v9 w9 ⟨rfl, hS⟩; (repeat (first | refine Ql ?_ | refine Qm ?_ | refine fun _ => ?_)); refine QI ?_; refine .inr ⟨_, rfl, ?_⟩; exact .inl ⟨hX.trans ((Q3 hv).trans ((if_neg (by omega)).trans (if_pos (by show (h.get v x.k).2 ≠ 0; omega)))), rfl, hS.sp⟩) (h := fun _ _ h => h.elim)))
                             all_goals (refine Zbd ?_; refine zv hS ?_; refine zB1 hS [_, _, _, _] ?_; intro b1 w1 hS; have hS := St.slOf (T := 224) (es := 4) (css := [(h.get v x.k).1].map Val.cells) hS rfl (by simp [Val.cells]) rfl; have hS : St cx _ (mL p c fr g.nx (sl 224 4 (.slice (some ⟨b1, 0, none⟩) 1 1) ([(h.get v x.k).1].map Val.cells) :: Q1B (N) c.hp (h) :: sl 2 1 c.ov (Q8 out) :: blk p3 84 [.int .i64 x.op, .int .i64 x.a, .int .i64 x.b, .int .i64 x.c, .int .i64 x.k, .int .i64 x.n, vr, va] :: L)) := hS.sp; refine zR2 (c := Q4a (j := 0) (by omega) (by show g.vals.length + 1 ≤ 1000000; omega) hS rfl) (h := ?_); rintro u1 w1 ⟨tv, rfl, hS⟩; refine zn ?_; have hG : GoS p c N fu ((msOf h g.nx fr inp out fu).ins m x) cx L (.tuple #[]) w1 := ⟨c.lv, c.iv, c.ov, fr, g.nx.push tv [(h.get v x.k).1], N, h, inp, out, hX.trans ((Q3 hv).trans ((if_neg (by omega)).trans (if_neg (by show ¬ (h.get v x.k).2 ≠ 0; omega)))), hi, by omega, rfl, hS.sp⟩; refine Q1j ?_; exact .inl ⟨_, rfl, hG⟩)
                         · skip
                           all_goals (refine zC [(0, none), (1, none), (2, none), (3, none), (4, none), (5, none), (6, none), (8, none), (9, none), (14, some (some [3, 6, 9])), (7, some (some [3, 9])), (10, some none), (11, none), (12, none), (13, none), (15, some (some [])), (16, some none)] ?_; have hS := hS.drew; refine Zbo ?_; refine zf0 ?_; refine Zab ?_; refine zl hS ?_; refine Zat ?_; refine zf0 ?_; refine Zab ?_; refine zl hS ?_; refine Zab ?_; refine zf0 ?_; refine Zab ?_; refine zl hS ?_; refine ZaR ?_; intro p8 w1 hS; refine ZaD ?_)
                           all_goals (refine zE2 (c := Q2V (by omega) (show St cx _ (mL p c fr g.nx _) from hS.sp)) (p := by rintro u9 w9 ⟨hv2, rfl, hS⟩; (repeat (first | refine Ql ?_ | refine Qm ?_ | refine fun _ => ?_)); refine QI ?_; refine .inr ⟨_, rfl, ?_⟩; rw [hv] at hv2; cases hv2) (h := ?_); rintro u1 w2 ⟨v2, hv2, rfl, hS⟩; obtain rfl : v = v2 := Option.some.inj (hv.symm.trans hv2))
                           all_goals (refine ZaK ?_; refine zR3 (c := Q6d (N := N) (s := h) (h := c.hp) v x.k hS fd) (h := ?_); rintro v1 w1 ⟨rfl, hS⟩; unfold Val.v Val.cells; refine ZbO ?_; refine Zar ?_; refine zsn hS ?_; intro w1 hS; have hS := hS.ns; refine ZbW ?_; refine Zad ?_)
                           all_goals (first | (refine Qd ?_) | (refine Qh ?_) | (refine Q6 rfl rfl (fun hc => ?_) (fun hc => ?_)))
                           all_goals (first | (refine zR1 (c := Q2e hS) (h := ?_); rintro v1 w1 ⟨rfl, hS⟩) | (refine zE1 (c := Q2i hS) (p := by rintro v9 w9 ⟨rfl, hS⟩; (repeat (first | refine Ql ?_ | refine Qm ?_ | refine fun _ => ?_)); refine QI ?_; refine .inr ⟨_, rfl, ?_⟩; exact .inl ⟨hX.trans ((Q3 hv).trans ((if_neg (by omega)).trans (if_pos (by show (h.get v x.k).2 ≠ 0; omega)))), rfl, hS.sp⟩) (h := fun _ _ h => h.elim)))
                           all_goals (refine Zbd ?_; refine zv hS ?_; refine zB1 hS [_, _, _, _] ?_; intro b1 w1 hS; have hS := St.slOf (T := 224) (es := 4) (css := [(h.get v x.k).1].map Val.cells) hS rfl (by simp [Val.cells]) rfl; have hS : St cx _ (mL p c fr g.nx (sl 224 4 (.slice (some ⟨b1, 0, none⟩) 1 1) ([(h.get v x.k).1].map Val.cells) :: Q1B (N) c.hp (h) :: sl 2 1 c.ov (Q8 out) :: blk p3 84 [.int .i64 x.op, .int .i64 x.a, .int .i64 x.b, .int .i64 x.c, .int .i64 x.k, .int .i64 x.n, vr, va] :: L)) := hS.sp; refine zR2 (c := Q4a (j := 0) (by omega) (by show g.vals.length + 1 ≤ 1000000; omega) hS rfl) (h := ?_); rintro u1 w1 ⟨tv, rfl, hS⟩; refine zn ?_; have hG : GoS p c N fu ((msOf h g.nx fr inp out fu).ins m x) cx L (.tuple #[]) w1 := ⟨c.lv, c.iv, c.ov, fr, g.nx.push tv [(h.get v x.k).1], N, h, inp, out, hX.trans ((Q3 hv).trans ((if_neg (by omega)).trans (if_neg (by show ¬ (h.get v x.k).2 ≠ 0; omega)))), hi, by omega, rfl, hS.sp⟩)
                           all_goals (refine Q1j ?_; exact .inl ⟨_, rfl, hG⟩))
                      | (refine zcf ?_
                         all_goals (refine Zaa ?_)
                         all_goals (first | (refine Qd ?_) | (refine Qh ?_) | (refine Q6 rfl rfl (fun hc => ?_) (fun hc => ?_)))
                         all_goals (refine Zac ?_)
                         all_goals
                          first
                          | (refine zct ?_
                             all_goals (refine Qb ?_; have hX := Q7P (m := m) (s := msOf h g.nx fr inp out fu) (x := x) (by omega); refine Zak ?_; refine zf0 ?_; refine zl hS ?_; refine zE2 (c := Q2V (by omega) (show St cx _ (mL p c fr g.nx _) from hS.sp)) (p := by rintro u9 w9 ⟨hv, rfl, hS⟩; (repeat (first | refine Ql ?_ | refine Qm ?_ | refine fun _ => ?_)); refine QI ?_; refine .inr ⟨_, rfl, ?_⟩; exact .inl ⟨hX.trans (Qx hv), rfl, hS.sp⟩) (h := ?_); rintro u1 w2 ⟨v, hv, rfl, hS⟩; unfold Val.v Val.cells; refine Q9I rfl rfl ?_)
                             all_goals (first | (refine Qd ?_) | (refine Qh ?_) | (refine Q6 rfl rfl (fun hc => ?_) (fun hc => ?_)))
                             all_goals (first | (refine zR1 (c := Q2e hS) (h := ?_); rintro v1 w1 ⟨rfl, hS⟩) | (refine zE1 (c := Q2i hS) (p := by rintro v9 w9 ⟨rfl, hS⟩; (repeat (first | refine Ql ?_ | refine Qm ?_ | refine fun _ => ?_)); refine QI ?_; refine .inr ⟨_, rfl, ?_⟩; exact .inl ⟨hX.trans ((Q3 hv).trans (if_pos (by omega))), rfl, hS.sp⟩) (h := fun _ _ h => h.elim)))
                             all_goals (refine zn ?_; refine zC [(0, none), (1, none), (2, none), (3, none), (4, none), (5, none), (6, none), (8, none), (9, none), (10, none), (11, none), (12, none), (7, some (some [3, 9, 12])), (13, some (some [3, 9])), (14, some none), (15, none), (16, some none)] ?_; have hS := hS.drew; refine Zbo ?_; refine zf0 ?_; refine Zab ?_; refine zl hS ?_; refine Zat ?_; refine zf0 ?_; refine Zab ?_; refine zl hS ?_; refine Zab ?_; refine zf0 ?_; refine Zab ?_; refine zl hS ?_; refine Zat ?_; refine zf0 ?_; refine Zab ?_; refine zl hS ?_; refine Zar ?_)
                             all_goals (refine zE2 (c := Q2V (by omega) (show St cx _ (mL p c fr g.nx _) from hS.sp)) (p := by rintro u9 w9 ⟨hv2, rfl, hS⟩; (repeat (first | refine Ql ?_ | refine Qm ?_ | refine fun _ => ?_)); refine QI ?_; refine .inr ⟨_, rfl, ?_⟩; rw [hv] at hv2; cases hv2) (h := ?_); rintro u1 w2 ⟨v2, hv2, rfl, hS⟩; obtain rfl : v = v2 := Option.some.inj (hv.symm.trans hv2))
                             all_goals (refine ZaD ?_; refine zE2 (c := Q2V (by omega) (show St cx _ (mL p c fr g.nx _) from hS.sp)) (p := by rintro u9 w9 ⟨hy, rfl, hS⟩; (repeat (first | refine Ql ?_ | refine Qm ?_ | refine fun _ => ?_)); refine QI ?_; refine .inr ⟨_, rfl, ?_⟩; exact .inl ⟨hX.trans ((Q3 hv).trans ((if_neg (by omega)).trans (Qx hy))), rfl, hS.sp⟩) (h := ?_); rintro u1 w2 ⟨y, hy, rfl, hS⟩; refine ZaK ?_; refine zR4 (c := hset_c (N := N) (s := h) (h := c.hp) v x.k y hS fd) (h := ?_); rintro v1 w1 ⟨rfl, hS⟩; have hS := hS.ns; refine Zab ?_)
                             all_goals (first | (refine Qd ?_) | (refine Qh ?_) | (refine Q6 rfl rfl (fun hc => ?_) (fun hc => ?_)))
                             all_goals (refine Zax ?_)
                             all_goals (first | (refine zR1 (c := Q2e hS) (h := ?_); rintro v1 w1 ⟨rfl, hS⟩) | (refine zE1 (c := Q2i hS) (p := by rintro v9 w9 ⟨rfl, hS⟩; (repeat (first | refine Ql ?_ | refine Qm ?_ | refine fun _ => ?_)); refine QI ?_; refine .inr ⟨_, rfl, ?_⟩; exact .inl ⟨hX.trans ((Q3 hv).trans ((if_neg (by omega)).trans ((Q3 hy).trans (if_pos (by show h.setC v x.k y ≠ 0; omega))))), rfl, hS.sp⟩) (h := fun _ _ h => h.elim)))
                             all_goals (refine Zaw ?_; have hG : GoS p c N fu ((msOf h g.nx fr inp out fu).ins m x) cx L (.tuple #[]) w1 := ⟨c.lv, c.iv, c.ov, fr, g.nx, N, h.set v x.k y, inp, out, hX.trans ((Q3 hv).trans ((if_neg (by omega)).trans ((Q3 hy).trans (if_neg (by show ¬ h.setC v x.k y ≠ 0; omega))))), hi, by omega, rfl, hS.sp⟩)
                             all_goals (refine Q1j ?_; exact .inl ⟨_, rfl, hG⟩))
                          | (refine zcf ?_
                             all_goals (refine Zaa ?_)
                             all_goals (first | (refine Qd ?_) | (refine Qh ?_) | (refine Q6 rfl rfl (fun hc => ?_) (fun hc => ?_)))
                             all_goals (refine Zac ?_)
                             all_goals
                              first
                              | (refine zct ?_
                                 all_goals (have hX := xins_8 (m := m) (s := msOf h g.nx fr inp out fu) (x := x) (by omega); rw [hX]; refine Zak ?_; refine zv hS ?_; refine zE2 (c := array_c (inp := inp) (fu := fu) (x := x) hx hi (by omega) (by show g.vals.length ≤ 900000; omega) hN hS) (p := by rintro u9 w9 hB; (repeat (first | refine Ql ?_ | refine Qm ?_ | refine fun _ => ?_)); refine QI ?_; refine .inr ⟨_, rfl, ?_⟩; exact hB.drop) (h := ?_); rintro u1 w1 hG; refine zn ?_; have hG := hG.drop; obtain ⟨rfl, hG⟩ := hG.tup)
                                 all_goals (refine Q1j ?_; exact .inl ⟨_, rfl, hG⟩))
                              | (refine zcf ?_
                                 all_goals (refine Zaa ?_)
                                 all_goals (first | (refine Qd ?_) | (refine Qh ?_) | (refine Q6 rfl rfl (fun hc => ?_) (fun hc => ?_)))
                                 all_goals (refine Zac ?_)
                                 all_goals
                                  first
                                  | (refine zct ?_
                                     all_goals (refine Qb ?_; have hX := Q9v (m := m) (s := msOf h g.nx fr inp out fu) (x := x) (by omega))
                                     refine Q1p 7 16 (by kernel_rfl) ?_ ?_
                                     · skip
                                       refine Q1p 11 16 (by kernel_rfl) ?_ ?_
                                       · skip
                                         refine Q1p 12 16 (by kernel_rfl) ?_ ?_
                                         · skip
                                           all_goals (refine zC [(0, none), (1, none), (2, none), (3, none), (4, none), (5, none), (6, none), (8, none), (9, none), (10, none), (7, some (some [3, 10])), (11, some (some [3])), (12, some none), (13, none), (14, none), (15, none), (16, some (some [])), (17, some (some [])), (18, some none)] ?_; have hS := hS.drew; refine Zbo ?_; refine zf0 ?_; refine Zab ?_; refine zl hS ?_; refine Zat ?_; refine zf0 ?_; refine Zab ?_; refine zl hS ?_; refine Zat ?_; refine zf0 ?_; refine Zab ?_; refine zl hS ?_; refine Zar ?_; refine zE2 (c := Q2V (by omega) (show St cx _ (mL p c fr g.nx _) from hS.sp)) (p := by rintro u9 w9 ⟨hv, rfl, hS⟩; (repeat (first | refine Ql ?_ | refine Qm ?_ | refine fun _ => ?_)); refine QI ?_; refine .inr ⟨_, rfl, ?_⟩; exact .inl ⟨hX.trans (Qx hv), rfl, hS.sp⟩) (h := ?_); rintro u1 w2 ⟨v, hv, rfl, hS⟩)
                                           all_goals (refine ZaD ?_; refine zE2 (c := Q5a (by omega) (show St cx _ (mL p c fr g.nx _) from hS.sp)) (p := by rintro u9 w9 ⟨hnn, rfl, hS⟩; (repeat (first | refine Ql ?_ | refine Qm ?_ | refine fun _ => ?_)); refine QI ?_; refine .inr ⟨_, rfl, ?_⟩; exact .inl ⟨hX.trans ((Q3 hv).trans (Qx hnn)), rfl, hS.sp⟩) (h := ?_); rintro u1 w2 ⟨n, hnn, rfl, hS⟩; refine ZaK ?_; refine zR3 (c := Q6d (N := N) (s := h) (h := c.hp) v n hS fd) (h := ?_); rintro v1 w1 ⟨rfl, hS⟩; unfold Val.v Val.cells; refine ZbO ?_; refine ZaR ?_; intro p10 w1 hS; refine ZaD ?_; refine zsn hS ?_; intro w1 hS; have hS := hS.ns; refine ZbW ?_; refine Zad ?_; refine zv hS ?_; refine zm ?_)
                                           all_goals (refine zE3 (c := Q6W (x := x) hx (by omega) (show St cx _ (mL p c fr g.nx _) from hS.sp)) (p := by rintro u9 w9 ⟨he, hS⟩; (repeat (first | refine Ql ?_ | refine Qm ?_ | refine fun _ => ?_)); refine QI ?_; refine .inr ⟨_, rfl, ?_⟩; rcases he with ⟨e0, rfl⟩ | ⟨⟨v3, hv3, hk4⟩, e0, rfl⟩; exact .inl ⟨hX.trans ((Q3 hv).trans ((Q3 hnn).trans (Q25 (e0 v hv)))), rfl, hS.sp⟩; obtain rfl : v = v3 := Option.some.inj (hv.symm.trans hv3); exact .inr ⟨2, hX.trans ((Q3 hv).trans ((Q3 hnn).trans (Q35 hk4 e0))), rfl, fr, g.nx, N, by omega, hS.sp⟩) (h := ?_); rintro u1 w1 ⟨⟨v3, hv3, hk4⟩, e0, rfl, hS⟩; obtain rfl : v = v3 := Option.some.inj (hv.symm.trans hv3))
                                           all_goals (refine Zbd ?_; refine zv hS ?_; refine zB1 hS [_, _, _, _] ?_; intro b1 w1 hS; have hS := St.slOf (T := 224) (es := 4) (css := [(h.get v n).1].map Val.cells) hS rfl (by simp [Val.cells]) rfl; have hS : St cx _ (mL p c fr g.nx (sl 224 4 (.slice (some ⟨b1, 0, none⟩) 1 1) ([(h.get v n).1].map Val.cells) :: Q1B (N) c.hp (h) :: sl 2 1 c.ov (Q8 out) :: blk p3 84 [.int .i64 x.op, .int .i64 x.a, .int .i64 x.b, .int .i64 x.c, .int .i64 x.k, .int .i64 x.n, vr, va] :: L)) := hS.sp; refine zR2 (c := Q4a (j := 0) (by omega) (by show g.vals.length + 1 ≤ 1000000; omega) hS rfl) (h := ?_); rintro u1 w1 ⟨tv, rfl, hS⟩; refine zn ?_; have hG : GoS p c N fu ((msOf h g.nx fr inp out fu).ins m x) cx L (.tuple #[]) w1 := ⟨c.lv, c.iv, c.ov, fr, g.nx.push tv [(h.get v n).1], N, h, inp, out, hX.trans ((Q3 hv).trans ((Q3 hnn).trans (Q1b hk4 e0))), hi, by omega, rfl, hS.sp⟩; refine Q1j ?_; exact .inl ⟨_, rfl, hG⟩)
                                         · skip
                                           all_goals (refine zC [(0, none), (1, none), (2, none), (3, none), (4, none), (5, none), (6, none), (8, none), (9, none), (10, none), (7, some (some [3, 10])), (11, some (some [3])), (16, some (some [3])), (12, some none), (13, none), (14, none), (15, none), (17, some (some [])), (18, some none)] ?_; have hS := hS.drew; refine Zbo ?_; refine zf0 ?_; refine Zab ?_; refine zl hS ?_; refine Zat ?_; refine zf0 ?_; refine Zab ?_; refine zl hS ?_; refine Zat ?_; refine zf0 ?_; refine Zab ?_; refine zl hS ?_; refine Zar ?_; refine zE2 (c := Q2V (by omega) (show St cx _ (mL p c fr g.nx _) from hS.sp)) (p := by rintro u9 w9 ⟨hv, rfl, hS⟩; (repeat (first | refine Ql ?_ | refine Qm ?_ | refine fun _ => ?_)); refine QI ?_; refine .inr ⟨_, rfl, ?_⟩; exact .inl ⟨hX.trans (Qx hv), rfl, hS.sp⟩) (h := ?_); rintro u1 w2 ⟨v, hv, rfl, hS⟩)
                                           all_goals (refine ZaD ?_; refine zE2 (c := Q5a (by omega) (show St cx _ (mL p c fr g.nx _) from hS.sp)) (p := by rintro u9 w9 ⟨hnn, rfl, hS⟩; (repeat (first | refine Ql ?_ | refine Qm ?_ | refine fun _ => ?_)); refine QI ?_; refine .inr ⟨_, rfl, ?_⟩; exact .inl ⟨hX.trans ((Q3 hv).trans (Qx hnn)), rfl, hS.sp⟩) (h := ?_); rintro u1 w2 ⟨n, hnn, rfl, hS⟩; refine ZbJ ?_; intro p10 w1 hS; refine ZaK ?_; refine zR3 (c := Q6d (N := N) (s := h) (h := c.hp) v n hS fd) (h := ?_); rintro v1 w1 ⟨rfl, hS⟩; unfold Val.v Val.cells; refine ZbO ?_; refine Zar ?_; refine zsn hS ?_; intro w1 hS; have hS := hS.ns; refine ZbW ?_; refine Zad ?_; refine zv hS ?_; refine zm ?_)
                                           all_goals (refine zE3 (c := Q6W (x := x) hx (by omega) (show St cx _ (mL p c fr g.nx _) from hS.sp)) (p := by rintro u9 w9 ⟨he, hS⟩; (repeat (first | refine Ql ?_ | refine Qm ?_ | refine fun _ => ?_)); refine QI ?_; refine .inr ⟨_, rfl, ?_⟩; rcases he with ⟨e0, rfl⟩ | ⟨⟨v3, hv3, hk4⟩, e0, rfl⟩; exact .inl ⟨hX.trans ((Q3 hv).trans ((Q3 hnn).trans (Q25 (e0 v hv)))), rfl, hS.sp⟩; obtain rfl : v = v3 := Option.some.inj (hv.symm.trans hv3); exact .inr ⟨2, hX.trans ((Q3 hv).trans ((Q3 hnn).trans (Q35 hk4 e0))), rfl, fr, g.nx, N, by omega, hS.sp⟩) (h := ?_); rintro u1 w1 ⟨⟨v3, hv3, hk4⟩, e0, rfl, hS⟩; obtain rfl : v = v3 := Option.some.inj (hv.symm.trans hv3))
                                           all_goals (refine Zbd ?_; refine zv hS ?_; refine zB1 hS [_, _, _, _] ?_; intro b1 w1 hS; have hS := St.slOf (T := 224) (es := 4) (css := [(h.get v n).1].map Val.cells) hS rfl (by simp [Val.cells]) rfl; have hS : St cx _ (mL p c fr g.nx (sl 224 4 (.slice (some ⟨b1, 0, none⟩) 1 1) ([(h.get v n).1].map Val.cells) :: Q1B (N) c.hp (h) :: sl 2 1 c.ov (Q8 out) :: blk p3 84 [.int .i64 x.op, .int .i64 x.a, .int .i64 x.b, .int .i64 x.c, .int .i64 x.k, .int .i64 x.n, vr, va] :: L)) := hS.sp; refine zR2 (c := Q4a (j := 0) (by omega) (by show g.vals.length + 1 ≤ 1000000; omega) hS rfl) (h := ?_); rintro u1 w1 ⟨tv, rfl, hS⟩; refine zn ?_; have hG : GoS p c N fu ((msOf h g.nx fr inp out fu).ins m x) cx L (.tuple #[]) w1 := ⟨c.lv, c.iv, c.ov, fr, g.nx.push tv [(h.get v n).1], N, h, inp, out, hX.trans ((Q3 hv).trans ((Q3 hnn).trans (Q1b hk4 e0))), hi, by omega, rfl, hS.sp⟩; refine Q1j ?_; exact .inl ⟨_, rfl, hG⟩)
                                       · skip
                                         all_goals (refine zC [(0, none), (1, none), (2, none), (3, none), (4, none), (5, none), (6, none), (8, none), (9, none), (10, none), (7, some (some [3, 10])), (16, some (some [3, 10])), (11, some (some [3])), (12, some none), (13, none), (14, none), (15, none), (17, some (some [])), (18, some none)] ?_; have hS := hS.drew; refine Zbo ?_; refine zf0 ?_; refine Zab ?_; refine zl hS ?_; refine Zat ?_; refine zf0 ?_; refine Zab ?_; refine zl hS ?_; refine Zat ?_; refine zf0 ?_; refine Zab ?_; refine zl hS ?_; refine Zar ?_; refine zE2 (c := Q2V (by omega) (show St cx _ (mL p c fr g.nx _) from hS.sp)) (p := by rintro u9 w9 ⟨hv, rfl, hS⟩; (repeat (first | refine Ql ?_ | refine Qm ?_ | refine fun _ => ?_)); refine QI ?_; refine .inr ⟨_, rfl, ?_⟩; exact .inl ⟨hX.trans (Qx hv), rfl, hS.sp⟩) (h := ?_); rintro u1 w2 ⟨v, hv, rfl, hS⟩)
                                         all_goals (refine ZbJ ?_; intro p10 w1 hS; refine ZaD ?_; refine zE2 (c := Q5a (by omega) (show St cx _ (mL p c fr g.nx _) from hS.sp)) (p := by rintro u9 w9 ⟨hnn, rfl, hS⟩; (repeat (first | refine Ql ?_ | refine Qm ?_ | refine fun _ => ?_)); refine QI ?_; refine .inr ⟨_, rfl, ?_⟩; exact .inl ⟨hX.trans ((Q3 hv).trans (Qx hnn)), rfl, hS.sp⟩) (h := ?_); rintro u1 w2 ⟨n, hnn, rfl, hS⟩; refine ZaK ?_; refine zR3 (c := Q6d (N := N) (s := h) (h := c.hp) v n hS fd) (h := ?_); rintro v1 w1 ⟨rfl, hS⟩; unfold Val.v Val.cells; refine ZbO ?_; refine Zar ?_; refine zsn hS ?_; intro w1 hS; have hS := hS.ns; refine ZbW ?_; refine Zad ?_; refine zv hS ?_; refine zm ?_)
                                         all_goals (refine zE3 (c := Q6W (x := x) hx (by omega) (show St cx _ (mL p c fr g.nx _) from hS.sp)) (p := by rintro u9 w9 ⟨he, hS⟩; (repeat (first | refine Ql ?_ | refine Qm ?_ | refine fun _ => ?_)); refine QI ?_; refine .inr ⟨_, rfl, ?_⟩; rcases he with ⟨e0, rfl⟩ | ⟨⟨v3, hv3, hk4⟩, e0, rfl⟩; exact .inl ⟨hX.trans ((Q3 hv).trans ((Q3 hnn).trans (Q25 (e0 v hv)))), rfl, hS.sp⟩; obtain rfl : v = v3 := Option.some.inj (hv.symm.trans hv3); exact .inr ⟨2, hX.trans ((Q3 hv).trans ((Q3 hnn).trans (Q35 hk4 e0))), rfl, fr, g.nx, N, by omega, hS.sp⟩) (h := ?_); rintro u1 w1 ⟨⟨v3, hv3, hk4⟩, e0, rfl, hS⟩; obtain rfl : v = v3 := Option.some.inj (hv.symm.trans hv3))
                                         all_goals (refine Zbd ?_; refine zv hS ?_; refine zB1 hS [_, _, _, _] ?_; intro b1 w1 hS; have hS := St.slOf (T := 224) (es := 4) (css := [(h.get v n).1].map Val.cells) hS rfl (by simp [Val.cells]) rfl; have hS : St cx _ (mL p c fr g.nx (sl 224 4 (.slice (some ⟨b1, 0, none⟩) 1 1) ([(h.get v n).1].map Val.cells) :: Q1B (N) c.hp (h) :: sl 2 1 c.ov (Q8 out) :: blk p3 84 [.int .i64 x.op, .int .i64 x.a, .int .i64 x.b, .int .i64 x.c, .int .i64 x.k, .int .i64 x.n, vr, va] :: L)) := hS.sp; refine zR2 (c := Q4a (j := 0) (by omega) (by show g.vals.length + 1 ≤ 1000000; omega) hS rfl) (h := ?_); rintro u1 w1 ⟨tv, rfl, hS⟩; refine zn ?_; have hG : GoS p c N fu ((msOf h g.nx fr inp out fu).ins m x) cx L (.tuple #[]) w1 := ⟨c.lv, c.iv, c.ov, fr, g.nx.push tv [(h.get v n).1], N, h, inp, out, hX.trans ((Q3 hv).trans ((Q3 hnn).trans (Q1b hk4 e0))), hi, by omega, rfl, hS.sp⟩; refine Q1j ?_; exact .inl ⟨_, rfl, hG⟩)
                                     · skip
                                       all_goals (refine zC [(0, none), (1, none), (2, none), (3, none), (4, none), (5, none), (6, none), (8, none), (9, none), (10, none), (16, some (some [3, 6, 10])), (7, some (some [3, 10])), (11, some (some [3])), (12, some none), (13, none), (14, none), (15, none), (17, some (some [])), (18, some none)] ?_; have hS := hS.drew; refine Zbo ?_; refine zf0 ?_; refine Zab ?_; refine zl hS ?_; refine Zat ?_; refine zf0 ?_; refine Zab ?_; refine zl hS ?_; refine Zat ?_; refine zf0 ?_; refine Zab ?_; refine zl hS ?_; refine ZaR ?_; intro p10 w1 hS; refine ZaD ?_; refine zE2 (c := Q2V (by omega) (show St cx _ (mL p c fr g.nx _) from hS.sp)) (p := by rintro u9 w9 ⟨hv, rfl, hS⟩; (repeat (first | refine Ql ?_ | refine Qm ?_ | refine fun _ => ?_)); refine QI ?_; refine .inr ⟨_, rfl, ?_⟩; exact .inl ⟨hX.trans (Qx hv), rfl, hS.sp⟩) (h := ?_); rintro u1 w2 ⟨v, hv, rfl, hS⟩)
                                       all_goals (refine ZaD ?_; refine zE2 (c := Q5a (by omega) (show St cx _ (mL p c fr g.nx _) from hS.sp)) (p := by rintro u9 w9 ⟨hnn, rfl, hS⟩; (repeat (first | refine Ql ?_ | refine Qm ?_ | refine fun _ => ?_)); refine QI ?_; refine .inr ⟨_, rfl, ?_⟩; exact .inl ⟨hX.trans ((Q3 hv).trans (Qx hnn)), rfl, hS.sp⟩) (h := ?_); rintro u1 w2 ⟨n, hnn, rfl, hS⟩; refine ZaK ?_; refine zR3 (c := Q6d (N := N) (s := h) (h := c.hp) v n hS fd) (h := ?_); rintro v1 w1 ⟨rfl, hS⟩; unfold Val.v Val.cells; refine ZbO ?_; refine Zar ?_; refine zsn hS ?_; intro w1 hS; have hS := hS.ns; refine ZbW ?_; refine Zad ?_; refine zv hS ?_; refine zm ?_)
                                       all_goals (refine zE3 (c := Q6W (x := x) hx (by omega) (show St cx _ (mL p c fr g.nx _) from hS.sp)) (p := by rintro u9 w9 ⟨he, hS⟩; (repeat (first | refine Ql ?_ | refine Qm ?_ | refine fun _ => ?_)); refine QI ?_; refine .inr ⟨_, rfl, ?_⟩; rcases he with ⟨e0, rfl⟩ | ⟨⟨v3, hv3, hk4⟩, e0, rfl⟩; exact .inl ⟨hX.trans ((Q3 hv).trans ((Q3 hnn).trans (Q25 (e0 v hv)))), rfl, hS.sp⟩; obtain rfl : v = v3 := Option.some.inj (hv.symm.trans hv3); exact .inr ⟨2, hX.trans ((Q3 hv).trans ((Q3 hnn).trans (Q35 hk4 e0))), rfl, fr, g.nx, N, by omega, hS.sp⟩) (h := ?_); rintro u1 w1 ⟨⟨v3, hv3, hk4⟩, e0, rfl, hS⟩; obtain rfl : v = v3 := Option.some.inj (hv.symm.trans hv3))
                                       all_goals (refine Zbd ?_; refine zv hS ?_; refine zB1 hS [_, _, _, _] ?_; intro b1 w1 hS; have hS := St.slOf (T := 224) (es := 4) (css := [(h.get v n).1].map Val.cells) hS rfl (by simp [Val.cells]) rfl; have hS : St cx _ (mL p c fr g.nx (sl 224 4 (.slice (some ⟨b1, 0, none⟩) 1 1) ([(h.get v n).1].map Val.cells) :: Q1B (N) c.hp (h) :: sl 2 1 c.ov (Q8 out) :: blk p3 84 [.int .i64 x.op, .int .i64 x.a, .int .i64 x.b, .int .i64 x.c, .int .i64 x.k, .int .i64 x.n, vr, va] :: L)) := hS.sp; refine zR2 (c := Q4a (j := 0) (by omega) (by show g.vals.length + 1 ≤ 1000000; omega) hS rfl) (h := ?_); rintro u1 w1 ⟨tv, rfl, hS⟩; refine zn ?_; have hG : GoS p c N fu ((msOf h g.nx fr inp out fu).ins m x) cx L (.tuple #[]) w1 := ⟨c.lv, c.iv, c.ov, fr, g.nx.push tv [(h.get v n).1], N, h, inp, out, hX.trans ((Q3 hv).trans ((Q3 hnn).trans (Q1b hk4 e0))), hi, by omega, rfl, hS.sp⟩)
                                       all_goals (refine Q1j ?_; exact .inl ⟨_, rfl, hG⟩))
                                  | (refine zcf ?_
                                     all_goals (refine Zaa ?_)
                                     all_goals (first | (refine Qd ?_) | (refine Qh ?_) | (refine Q6 rfl rfl (fun hc => ?_) (fun hc => ?_)))
                                     all_goals (refine Zac ?_)
                                     all_goals
                                      first
                                      | (refine zct ?_
                                         all_goals (refine Qb ?_; have hX := Q79 (m := m) (s := msOf h g.nx fr inp out fu) (x := x) (by omega); refine zC [(0, none), (1, none), (2, none), (3, none), (4, none), (5, none), (6, none), (8, none), (9, none), (10, none), (12, none), (13, none), (14, none), (7, some (some [3, 10, 14])), (11, some (some [3, 14])), (15, some (some [3])), (16, some (some [3])), (17, some none), (18, some none)] ?_; have hS := hS.drew; refine Zbo ?_; refine zf0 ?_; refine Zab ?_; refine zl hS ?_; refine Zat ?_; refine zf0 ?_; refine Zab ?_; refine zl hS ?_; refine Zat ?_; refine zf0 ?_; refine Zab ?_; refine zl hS ?_; refine Zat ?_; refine zf0 ?_; refine Zab ?_; refine zl hS ?_)
                                         all_goals (refine Zar ?_; refine zE2 (c := Q2V (by omega) (show St cx _ (mL p c fr g.nx _) from hS.sp)) (p := by rintro u9 w9 ⟨hv, rfl, hS⟩; (repeat (first | refine Ql ?_ | refine Qm ?_ | refine fun _ => ?_)); refine QI ?_; refine .inr ⟨_, rfl, ?_⟩; exact .inl ⟨hX.trans (Qx hv), rfl, hS.sp⟩) (h := ?_); rintro u1 w2 ⟨v, hv, rfl, hS⟩; refine ZaD ?_; refine zE2 (c := Q5a (by omega) (show St cx _ (mL p c fr g.nx _) from hS.sp)) (p := by rintro u9 w9 ⟨hnn, rfl, hS⟩; (repeat (first | refine Ql ?_ | refine Qm ?_ | refine fun _ => ?_)); refine QI ?_; refine .inr ⟨_, rfl, ?_⟩; exact .inl ⟨hX.trans ((Q3 hv).trans (Qx hnn)), rfl, hS.sp⟩) (h := ?_); rintro u1 w2 ⟨n, hnn, rfl, hS⟩; refine ZaD ?_; refine zE2 (c := Q5a (by omega) (show St cx _ (mL p c fr g.nx _) from hS.sp)) (p := by rintro u9 w9 ⟨hyy, rfl, hS⟩; (repeat (first | refine Ql ?_ | refine Qm ?_ | refine fun _ => ?_)); refine QI ?_; refine .inr ⟨_, rfl, ?_⟩; exact .inl ⟨hX.trans ((Q3 hv).trans ((Q3 hnn).trans (Qx hyy))), rfl, hS.sp⟩) (h := ?_); rintro u1 w2 ⟨y, hyy, rfl, hS⟩; refine ZaD ?_; refine zR1 (c := Q4H hS) (h := ?_); rintro v1 w1 ⟨rfl, hS⟩; refine ZaK ?_; refine zR4 (c := hset_c (N := N) (s := h) (h := c.hp) v n (intV y) hS fd) (h := ?_); rintro v1 w1 ⟨rfl, hS⟩; have hS := hS.ns)
                                         all_goals (refine ZbD ?_; refine Zak ?_; refine zv hS ?_; refine zm ?_)
                                         all_goals (refine zE3 (c := Q6W (x := x) hx (by omega) (show St cx _ (mL p c fr g.nx _) from hS.sp)) (p := by rintro u9 w9 ⟨he, hS⟩; (repeat (first | refine Ql ?_ | refine Qm ?_ | refine fun _ => ?_)); refine QI ?_; refine .inr ⟨_, rfl, ?_⟩; rcases he with ⟨e0, rfl⟩ | ⟨⟨v3, hv3, hk4⟩, e0, rfl⟩; exact .inl ⟨hX.trans ((Q3 hv).trans ((Q3 hnn).trans ((Q3 hyy).trans (Q25 (e0 v hv))))), rfl, hS.sp⟩; obtain rfl : v = v3 := Option.some.inj (hv.symm.trans hv3); rw [Q2A (by omega)] at hS; exact .inr ⟨2, hX.trans ((Q3 hv).trans ((Q3 hnn).trans ((Q3 hyy).trans (Q35 hk4 e0)))), rfl, fr, g.nx, N, by omega, hS.sp⟩) (h := ?_); rintro u1 w1 ⟨⟨v3, hv3, hk4⟩, e0, rfl, hS⟩; obtain rfl : v = v3 := Option.some.inj (hv.symm.trans hv3))
                                         all_goals (refine zn ?_)
                                         all_goals (have hG : GoS p c N fu ((msOf h g.nx fr inp out fu).ins m x) cx L (.tuple #[]) w1 := ⟨c.lv, c.iv, c.ov, fr, g.nx, N, h.set v n (intV y), inp, out, hX.trans ((Q3 hv).trans ((Q3 hnn).trans ((Q3 hyy).trans (Q1b hk4 e0)))), hi, by omega, rfl, hS.sp⟩))
                                      | (refine zcf ?_
                                         all_goals (refine Zaa ?_)
                                         all_goals (first | (refine Qd ?_) | (refine Qh ?_) | (refine Q6 rfl rfl (fun hc => ?_) (fun hc => ?_)))
                                         all_goals (refine Zac ?_)
                                         all_goals
                                          first
                                          | (refine zct ?_
                                             all_goals (refine Qb ?_; have hX := Q8B (m := m) (s := msOf h g.nx fr inp out fu) (x := x) (by omega); refine zC [(0, none), (1, none), (2, none), (3, none), (4, none), (5, none), (6, none), (7, some (some [3])), (8, some none), (9, none), (10, none), (11, none), (12, none), (13, some none)] ?_; have hS := hS.drew; refine Zbo ?_; refine zf0 ?_; refine Zab ?_; refine zl hS ?_; refine Zat ?_; refine zf0 ?_; refine Zab ?_; refine zl hS ?_; refine Zar ?_; refine zE2 (c := Q2V (by omega) (show St cx _ (mL p c fr g.nx _) from hS.sp)) (p := by rintro u9 w9 ⟨hv, rfl, hS⟩; (repeat (first | refine Ql ?_ | refine Qm ?_ | refine fun _ => ?_)); refine QI ?_; refine .inr ⟨_, rfl, ?_⟩; exact .inl ⟨hX.trans (Qx hv), rfl, hS.sp⟩) (h := ?_); rintro u1 w2 ⟨v, hv, rfl, hS⟩; refine ZaK ?_; refine zR2 (c := hlen_c (N := N) (s := h) (h := c.hp) v hS fd) (h := ?_); rintro v1 w1 ⟨rfl, hS⟩; refine ZbY ?_)
                                             all_goals (refine Zab ?_; refine Zbl ?_; refine Zbl ?_; refine zm ?_; refine ZbD ?_; refine Zad ?_; refine zv hS ?_; refine zm ?_)
                                             all_goals (refine zE3 (c := Q6W (x := x) hx (by omega) (show St cx _ (mL p c fr g.nx _) from hS.sp)) (p := by rintro u9 w9 ⟨he, hS⟩; (repeat (first | refine Ql ?_ | refine Qm ?_ | refine fun _ => ?_)); refine QI ?_; refine .inr ⟨_, rfl, ?_⟩; rcases he with ⟨e0, rfl⟩ | ⟨⟨v3, hv3, hk4⟩, e0, rfl⟩; exact .inl ⟨hX.trans ((Q3 hv).trans (Q25 (e0 v hv))), rfl, hS.sp⟩; obtain rfl : v = v3 := Option.some.inj (hv.symm.trans hv3); exact .inr ⟨2, hX.trans ((Q3 hv).trans (Q35 hk4 e0)), rfl, fr, g.nx, N, by omega, hS.sp⟩) (h := ?_); rintro u1 w1 ⟨⟨v3, hv3, hk4⟩, e0, rfl, hS⟩; obtain rfl : v = v3 := Option.some.inj (hv.symm.trans hv3))
                                             all_goals (refine Zbd ?_; refine zm ?_; refine zR1 (c := Q4H hS) (h := ?_); rintro v1 w1 ⟨rfl, hS⟩; unfold Val.v Val.cells; refine zB1 hS [_, _, _, _] ?_; intro b1 w1 hS; have hS := St.slOf (T := 224) (es := 4) (css := [intV (h.len v).1].map Val.cells) hS rfl (by simp [Val.cells]) rfl; have hS : St cx _ (mL p c fr g.nx (sl 224 4 (.slice (some ⟨b1, 0, none⟩) 1 1) ([intV (h.len v).1].map Val.cells) :: Q1B (N) c.hp (h) :: sl 2 1 c.ov (Q8 out) :: blk p3 84 [.int .i64 x.op, .int .i64 x.a, .int .i64 x.b, .int .i64 x.c, .int .i64 x.k, .int .i64 x.n, vr, va] :: L)) := hS.sp; refine zR2 (c := Q4a (j := 0) (by omega) (by show g.vals.length + 1 ≤ 1000000; omega) hS rfl) (h := ?_); rintro u1 w1 ⟨tv, rfl, hS⟩; refine zn ?_)
                                             all_goals (have hG : GoS p c N fu ((msOf h g.nx fr inp out fu).ins m x) cx L (.tuple #[]) w1 := ⟨c.lv, c.iv, c.ov, fr, g.nx.push tv [intV (h.len v).1], N, h, inp, out, hX.trans ((Q3 hv).trans (Q1b hk4 e0)), hi, by omega, rfl, hS.sp⟩))
                                          | (refine zcf ?_
                                             all_goals (refine Zaa ?_)
                                             all_goals (first | (refine Qd ?_) | (refine Qh ?_) | (refine Q6 rfl rfl (fun hc => ?_) (fun hc => ?_)))
                                             all_goals (refine Zac ?_)
                                             all_goals
                                              first
                                              | (refine zct ?_
                                                 all_goals (refine Qb ?_; have hX := Q8A (m := m) (s := msOf h g.nx fr inp out fu) (x := x) (by omega); obtain ⟨av, nv, hiv⟩ := Rep.SR.shape hi; refine Zak ?_; refine znc ?_; refine zf0 ?_; refine zl hS ?_; refine Qbw vw hi ?_)
                                                 all_goals (first | (refine Qd ?_) | (refine Qh ?_) | (refine Q6 rfl rfl (fun hc => ?_) (fun hc => ?_)))
                                                 all_goals (first | (refine zR2 (c := Q3M hS) (h := ?_); rintro v1 w1 ⟨rfl, hS⟩) | (refine zE2 (c := Q3L hS) (p := by rintro v9 w9 ⟨rfl, hS⟩; (repeat (first | refine Ql ?_ | refine Qm ?_ | refine fun _ => ?_)); refine QI ?_; refine .inr ⟨_, rfl, ?_⟩; first | (first | exact .inr ⟨8, hX.trans ((Q3 hnn).trans (out_0 (by show out.length = 2000; omega))), rfl, fr, g.nx, N, by omega, hS.sp⟩ | exact .inr ⟨4, hX.trans (in_0 (List.length_eq_zero_iff.1 (by show inp.length = 0; omega))), rfl, fr, g.nx, N, by omega, hS.sp⟩)) (h := fun _ _ h => h.elim)))
                                                 all_goals (refine ZaZ ?_; obtain ⟨n0, r0, hir⟩ : ∃ n0 r0, inp = n0 :: r0 := List.exists_cons_of_length_pos (by omega); refine Zak ?_; refine Zbe ?_; refine zf0 ?_; refine zl hS ?_)
                                                 all_goals (refine Q5X (m := 0) vw rfl hi rfl (by omega) ?_; intro b8 o8 cs8 x8 hat8 hx8 he8; rw [hir, List.getElem?_cons_zero] at hx8; cases hx8; obtain rfl := Q1z he8)
                                                 all_goals ((first | (refine zl hS ?_) | (refine zlk hS ?_)); refine zR1 (c := Q4H hS) (h := ?_); rintro v1 w1 ⟨rfl, hS⟩; unfold Val.v Val.cells; refine zB1 hS [_, _, _, _] ?_; intro b1 w1 hS; have hS := St.slOf (T := 224) (es := 4) (css := [intV n0].map Val.cells) hS rfl (by simp [Val.cells]) rfl; have hS : St cx _ (mL p c fr g.nx (sl 224 4 (.slice (some ⟨b1, 0, none⟩) 1 1) ([intV n0].map Val.cells) :: Q1B (N) c.hp (h) :: sl 2 1 c.ov (Q8 out) :: blk p3 84 [.int .i64 x.op, .int .i64 x.a, .int .i64 x.b, .int .i64 x.c, .int .i64 x.k, .int .i64 x.n, vr, va] :: L)) := hS.sp; refine zR2 (c := Q4a (j := 0) (by omega) (by show g.vals.length + 1 ≤ 1000000; omega) hS rfl) (h := ?_); rintro u1 w1 ⟨tv, rfl, hS⟩; refine Zbd ?_; refine Zbe ?_; refine zf0 ?_; refine zl hS ?_; refine s_subL (l' := 1) (h' := inp.length) vw hi rfl rfl rfl ⟨_, rfl⟩ (by omega) (by omega) ?_; intro v7 hk7; have hk7 : intR.sl cx v7 r0 := (by rw [hir] at hk7; simpa using hk7); obtain ⟨a7, n7, rfl⟩ := Rep.SR.shape hk7; refine znc ?_; refine zf0 ?_; refine zst hS ?_; intro w1 hS; have hS := hS.ns)
                                                 all_goals (refine zn ?_)
                                                 all_goals (have hG : GoS p c N fu ((msOf h g.nx fr inp out fu).ins m x) cx L (.tuple #[]) w1 := ⟨c.lv, _, c.ov, fr, g.nx.push tv [intV n0], N, h, r0, out, hX.trans (in_s hir), hk7, by omega, rfl, hS.sp⟩))
                                              | (refine zcf ?_
                                                 all_goals (refine Zaa ?_)
                                                 all_goals (first | (refine Qd ?_) | (refine Qh ?_) | (refine Q6 rfl rfl (fun hc => ?_) (fun hc => ?_)))
                                                 all_goals (refine Zac ?_)
                                                 all_goals
                                                  first
                                                  | (refine zct ?_
                                                     all_goals (refine Qb ?_; have hX := Q78 (m := m) (s := msOf h g.nx fr inp out fu) (x := x) (by omega); refine Zak ?_; refine zf0 ?_; refine zl hS ?_; refine zE2 (c := Q5a (by omega) (show St cx _ (mL p c fr g.nx _) from hS.sp)) (p := by rintro u9 w9 ⟨hnn, rfl, hS⟩; (repeat (first | refine Ql ?_ | refine Qm ?_ | refine fun _ => ?_)); refine QI ?_; refine .inr ⟨_, rfl, ?_⟩; exact .inl ⟨hX.trans (Qx hnn), rfl, hS.sp⟩) (h := ?_); rintro u1 w2 ⟨n, hnn, rfl, hS⟩; refine ZaE ?_; refine znc ?_; refine zf0 ?_; (first | refine zf0 ?_ | refine zfd ?_); refine zl hS ?_; refine QY (n := out.length) hS vw fd (List.length_map _) ?_)
                                                     all_goals (first | (refine Qd ?_) | (refine Qh ?_) | (refine Q6 rfl rfl (fun hc => ?_) (fun hc => ?_)))
                                                     all_goals (first | (refine zR2 (c := Q3M hS) (h := ?_); rintro v1 w1 ⟨rfl, hS⟩) | (refine zE2 (c := Q3L hS) (p := by rintro v9 w9 ⟨rfl, hS⟩; (repeat (first | refine Ql ?_ | refine Qm ?_ | refine fun _ => ?_)); refine QI ?_; refine .inr ⟨_, rfl, ?_⟩; first | (exact .inr ⟨8, hX.trans ((Q3 hnn).trans (out_0 (by show out.length = 2000; omega))), rfl, fr, g.nx, N, by omega, hS.sp⟩)) (h := fun _ _ h => h.elim)))
                                                     all_goals (refine Zbd ?_; refine Zbe ?_; refine zf0 ?_; (first | refine zf0 ?_ | refine zfd ?_); refine zl hS ?_; refine zm ?_; refine zB1 hS [_] ?_; intro b1 w1 hS; refine Q1x Q5x (.inl Q8E) hS vw vw (v := c.ov) (css := Q8 out) fd (hS.srcB fd (by rfl) (by simp [oneC])) (by rw [List.length_map]; simp only [List.length_cons, List.length_nil]; omega) ?_; intro v7 w7 hS; have hS := hS.ns; have ho7 := hS.oneC (v := v7) (css := Q8 out ++ [[.int .i64 n]]) fd; rw [QaA] at hS; refine znc ?_; refine zf0 ?_; (first | refine zf0 ?_ | refine zfd ?_); refine zst hS ?_; intro w1 hS; have hS := hS.ns; refine zn ?_)
                                                     all_goals (have hG : GoS p c N fu ((msOf h g.nx fr inp out fu).ins m x) cx L (.tuple #[]) w1 := ⟨c.lv, c.iv, v7, fr, g.nx, N, h, inp, out ++ [n], hX.trans ((Q3 hnn).trans (out_s (by show out.length ≠ 2000; omega))), hi, by omega, rfl, hS.sp⟩))
                                                  | (refine zcf ?_
                                                     all_goals (refine Zaa ?_)
                                                     all_goals (refine Qd ?_)
                                                     all_goals (refine Zac ?_)
                                                     all_goals
                                                      first
                                                      | (refine zct ?_
                                                         all_goals (have hX := Qb2 (m := m) (s := msOf h g.nx fr inp out fu) (x := x) (by omega); rw [hX]; obtain ⟨hk0, hk1⟩ := hk (by omega); refine Zak ?_; refine zv hS ?_; refine zE2 (c := call_c (inp := inp) (fu := fu) (x := x) hx hfn hi hk0 hk1 h6 h8 (by omega) hS) (p := by rintro u9 w9 hB; (repeat (first | refine Ql ?_ | refine Qm ?_ | refine fun _ => ?_)); refine QI ?_; refine .inr ⟨_, rfl, ?_⟩; exact hB.drop) (h := ?_); rintro u1 w1 hG; refine zn ?_)
                                                         all_goals (have hG := hG.drop; obtain ⟨rfl, hG⟩ := hG.tup))))))
                                     all_goals (refine Q1j ?_; exact .inl ⟨_, rfl, hG⟩))))))))))
end Go.Proofs.YteflkifmgnpbhaaGreat
namespace Go.Proofs.YteflkifmgnpbhaaGreat
open Go.Lir
set_option maxHeartbeats 1000000
attribute [local irreducible] LC.wp Q0 QF QE retQ Q16 LO.wp Qf Calls
set_option linter.unusedSimpArgs false
set_option linter.unusedVariables false
variable {cx : Cx} {w : World} {L : List Res}
theorem Q3C (f : Nat) (hf : f ≤ 1000000) (hS : St cx w L) : Rets Tryz.prog R_AtFunc [.int .i64 f] w fun u w' => u = .int .i64 (Q2k f) ∧ St cx w' L := by
 unfold Q2k
 all_goals refine lgo tyD Tryz.func66 ?_
 all_goals (refine Zbb ?_; refine zmu ?_; refine zad ?_; refine Zah ?_; refine ⟨_, rfl, ?_, hS.sp⟩; (first | rfl | (congr 1; omega)); done)
theorem Qc1 (f : Nat) (hf : f ≤ 1000000) (hS : St cx w L) : Rets Tryz.prog Q9f [.int .i64 f] w fun u w' => u = .int .i64 (Q2k f) ∧ St cx w' L := by
 unfold Q2k
 all_goals refine lgo tyD Tryz.func104 ?_
 all_goals (refine Zbb ?_; refine zmu ?_; refine zad ?_; refine Zah ?_; refine ⟨_, rfl, ?_, hS.sp⟩; (rfl); done)
theorem Q40 (f b : Nat) (hf : f ≤ 1000000) (hb : b ≤ 1000000) (hS : St cx w L) : Rets Tryz.prog QcH [.int .i64 f, .int .i64 b] w fun u w' => u = .int .i64 (Q2o f b) ∧ St cx w' L := by
 unfold Q2o
 all_goals refine lgo tyD Tryz.func113 ?_
 all_goals (refine Zbb ?_; refine zmu ?_; refine zm ?_; refine zmu ?_; refine zad ?_; refine zad ?_; refine Zah ?_; refine ⟨_, rfl, ?_, hS.sp⟩; (first | rfl | (congr 1; omega)); done)
theorem Qap (f b : Nat) (hf : f ≤ 1000000) (hb : b ≤ 1000000) (hS : St cx w L) : Rets Tryz.prog Q8h [.int .i64 f, .int .i64 b] w fun u w' => u = .int .i64 (Q2o f b) ∧ St cx w' L := by
 unfold Q2o
 all_goals refine lgo tyD Tryz.func161 ?_
 all_goals (refine Zbb ?_; refine zmu ?_; refine zm ?_; refine zmu ?_; refine zad ?_; refine zad ?_; refine Zah ?_; refine ⟨_, rfl, ?_, hS.sp⟩; (rfl); done)
theorem Q9U (f b : Nat) (hf : f ≤ 1000000) (hb : b ≤ 1000000) (hS : St cx w L) : Rets Tryz.prog R_AtEnd [.int .i64 f, .int .i64 b] w fun u w' => u = .int .i64 (Q5o f b) ∧ St cx w' L := by
 unfold Q5o
 all_goals refine lgo tyD Tryz.func57 ?_
 all_goals (refine Zbb ?_; refine zmu ?_; refine zm ?_; refine zmu ?_; refine zad ?_; refine zad ?_; refine Zah ?_; refine ⟨_, rfl, ?_, hS.sp⟩; (first | rfl | (congr 1; omega)); done)
theorem Q9Z (f b : Nat) (hf : f ≤ 1000000) (hb : b ≤ 1000000) (hS : St cx w L) : Rets Tryz.prog QaQ [.int .i64 f, .int .i64 b] w fun u w' => u = .int .i64 (Q5o f b) ∧ St cx w' L := by
 unfold Q5o
 all_goals refine lgo tyD Tryz.func116 ?_
 all_goals (refine Zbb ?_; refine zmu ?_; refine zm ?_; refine zmu ?_; refine zad ?_; refine zad ?_; refine Zah ?_; refine ⟨_, rfl, ?_, hS.sp⟩; (rfl); done)
theorem Q9T (f b i : Nat) (hf : f ≤ 1000000) (hb : b ≤ 1000000) (hi : i ≤ 1000000) (hS : St cx w L) : Rets Tryz.prog R_AtIns [.int .i64 f, .int .i64 b, .int .i64 i] w fun u w' => u = .int .i64 (Q4Y f b i) ∧ St cx w' L := by
 unfold Q4Y
 all_goals refine lgo tyD Tryz.func55 ?_
 all_goals (refine Zbb ?_; refine zmu ?_; refine zm ?_; refine zmu ?_; refine zad ?_; refine zm ?_; refine zad ?_; refine Zah ?_; refine ⟨_, rfl, ?_, hS.sp⟩; (first | rfl | (congr 1; omega)); done)
theorem Q9Y (f b i : Nat) (hf : f ≤ 1000000) (hb : b ≤ 1000000) (hi : i ≤ 1000000) (hS : St cx w L) : Rets Tryz.prog QaP [.int .i64 f, .int .i64 b, .int .i64 i] w fun u w' => u = .int .i64 (Q4Y f b i) ∧ St cx w' L := by
 unfold Q4Y
 all_goals refine lgo tyD Tryz.func115 ?_
 all_goals (refine Zbb ?_; refine zmu ?_; refine zm ?_; refine zmu ?_; refine zad ?_; refine zm ?_; refine zad ?_; refine Zah ?_; refine ⟨_, rfl, ?_, hS.sp⟩; (rfl); done)
theorem rF_c {c a : Int} (hS : St cx w L) : Rets Tryz.prog R_F [.int .i64 c, .int .i64 a] w fun u w' => u = .agg ⟨[.int .i64 c, .int .i64 a]⟩ ∧ St cx w' L := by
 all_goals refine lgo tyD Tryz.func52 ?_
 all_goals (refine Zbh ?_; intro p4 w1 hS; refine Zbi ?_; refine zm ?_; refine zb2 [_, _] ?_; refine zsn hS ?_; intro w1 hS; have hS := hS.ns; refine ZaX ?_; refine Q19 vw (Q4 (n := 2) (by kernel_rfl) (by kernel_rfl) (hS.blkAt fd) (by rfl) (by rfl)) ?_; refine ⟨_, rfl, ?_, hS.sp⟩; (rfl); done)
theorem Q8V {l : List Ty} {regs : Int} {v : Value} (hl : tyR.sl cx v l) (hS : St cx w L) : Rets Tryz.prog QaW [v, .int .i64 regs] w fun u w' => u = .int .i64 (Qy l regs) ∧ St cx w' L := by
 have hlen := hl.len
 unfold Qy
 all_goals refine lgo tyD Tryz.func67 ?_
 all_goals (refine Zbk ?_; refine zL ?_)
 all_goals (first | (refine QG ?_) | (refine QL ?_) | (refine Qc rfl rfl (fun hc => ?_) (fun hc => ?_)))
 all_goals (refine zn ?_)
 all_goals
  first
  | (refine zct ?_
     all_goals (refine Zaq ?_)
     all_goals (refine ⟨_, rfl, ?_, hS.sp⟩; rw [if_pos (by omega)]; done))
  | (refine zcf ?_
     all_goals refine zsk ?_)
 all_goals (refine Zbr ?_)
 refine zoL hS [0, 1] (fun A LL ρ' w' => ∃ (j : Nat), Has ρ' A ∧ Has ρ' [(5, .int .i64 j)] ∧ (j ≤ l.length) ∧ (Q2m regs l = Q2m regs (l.drop j)) ∧ St cx w' (LL)) (fun ρ' _ => (l.length - iv (ρ' 5)).toNat) ?_ ?_
 · exact ⟨0, zh, zh, (by omega), by simp, hS.sp⟩
 rintro ρ w1 ⟨j, hA, hρ, hj, hd, hS⟩; obtain ⟨ρ, rfl⟩ := env2 hA hρ
 all_goals (refine ZbK ?_; refine zL ?_; refine Zau ?_)
 refine Qt rfl (fun hc => ?_) (fun hc => ?_)
 · skip
   all_goals (refine ZaJ ?_; refine Zby ?_; refine zi ?_; intro b1 o1 cs1 x1 hat1 hx1 he1; obtain ⟨vl1, rfl, hl1⟩ := QX he1; refine ZbQ ?_; refine zR2 (c := QbJ (by assumption) hS) (h := ?_); rintro v1 w1 ⟨rfl, hS⟩; refine ZaE ?_)
   all_goals (first | (refine QC ?_) | (refine QJ ?_) | (refine Qj rfl rfl (fun hc => ?_) (fun hc => ?_)))
   all_goals (refine zn ?_)
   all_goals
    first
    | (refine zct ?_
       all_goals (refine Zbt ?_)
       all_goals (first | (refine ⟨_, rfl, ?_, hS.sp⟩; rw [if_pos (by omega)]; done) | (refine ⟨_, rfl, ?_, hS.sp⟩; rw [if_neg (by omega), hd, Q2 hx1, Q2m, Q3G (by assumption)]; done)))
    | (refine zcf ?_
       all_goals refine zsk ?_)
   all_goals (refine Zak ?_; refine zad ?_; refine Zac ?_; exact ⟨⟨j + 1, zh, zh, (by omega), by rw [hd, Q2 hx1, Q2m, show x1.fault regs = 0 by omega, Q3s], hS.sp⟩, Qu (by omega)⟩)
 · skip
   all_goals (refine ZbC ?_; (first | (refine ⟨_, rfl, ?_, hS.sp⟩; rw [if_pos (by omega)]; done) | (refine ⟨_, rfl, ?_, hS.sp⟩; rw [if_neg (by omega), hd, Q2 hx1, Q2m, Q3G (by assumption)]; done) | (refine ⟨_, rfl, ?_, hS.sp⟩; rw [if_neg (by omega), hd, List.drop_of_length_le (by omega), Q2m]; done)))
theorem fields_c {op : Int} (hS : St cx w L) : Rets Tryz.prog QaZ [.int .i64 op] w fun u w' => u = .tuple #[.agg ⟨[.bool (fA op), .bool (fB op), .bool (fC op), .bool (fK op), .bool (fN op), .bool (fG op), .bool (fR op)]⟩, .bool (decide (1 ≤ op ∧ op ≤ 14))] ∧ St cx w' L := by
 have hbad : (op < 1 ∨ 14 < op) → fA op = false ∧ fB op = false ∧ fC op = false ∧ fK op = false ∧ fN op = false ∧ fG op = false ∧ fR op = false ∧ decide (1 ≤ op ∧ op ≤ 14) = false := by
  intro h
  refine ⟨?_, ?_, ?_, ?_, ?_, ?_, ?_, ?_⟩ <;> (first | unfold fA | unfold fB | unfold fC | unfold fK | unfold fN | unfold fG | unfold fR | skip) <;> rw [decide_eq_false_iff_not] <;> omega
 by_cases hb : op < 1 ∨ 14 < op
 · obtain ⟨h1, h2, h3, h4, h5, h6, h7, h8⟩ := hbad hb
   rw [h1, h2, h3, h4, h5, h6, h7, h8]
   clear hbad h1 h2 h3 h4 h5 h6 h7 h8
   all_goals refine lgo tyD Tryz.func150 ?_
   all_goals (refine Zbh ?_; intro p2 w1 hS; refine ZbU ?_; refine Zaa ?_)
   all_goals (first | (refine Qd ?_) | (refine Qh ?_))
   all_goals (refine Zac ?_)
   all_goals
    first
    | (refine zct ?_
       all_goals (refine Zaa ?_; refine zb1 [_, _, _, _, _, _, _] ?_; refine zsn hS ?_; intro w1 hS; have hS := hS.ns; refine Zae ?_; refine QH vw (Q4 (n := 7) (by kernel_rfl) (by kernel_rfl) (hS.blkAt fd) (by rfl) (by rfl)) vw ?_)
       all_goals (refine ⟨_, rfl, ?_, hS.sp⟩; (rfl); done))
    | (refine zcf ?_
       all_goals (refine Zav ?_)
       all_goals (first | (refine Qd ?_) | (refine Qh ?_))
       all_goals (refine Zac ?_)
       all_goals
        first
        | (refine zct ?_
           all_goals refine zsk ?_)
        | (refine zcf ?_
           all_goals (refine Qn ?_)
           all_goals (first | (refine Qd ?_) | (refine Qh ?_))
           all_goals (refine zm ?_)
           all_goals refine zn ?_)
       all_goals
        first
        | (refine zct ?_
           all_goals (refine Zaa ?_; refine zb3 [_, _, _, _, _, _, _] ?_; refine zsn hS ?_; intro w1 hS; have hS := hS.ns; refine Zae ?_; refine QH vw (Q4 (n := 7) (by kernel_rfl) (by kernel_rfl) (hS.blkAt fd) (by rfl) (by rfl)) vw ?_)
           all_goals (refine ⟨_, rfl, ?_, hS.sp⟩; (rfl); done))
        | (refine zcf ?_
           all_goals (refine Zav ?_)
           all_goals (first | (refine Qd ?_) | (refine Qh ?_))
           all_goals (refine Zac ?_)
           all_goals
            first
            | (refine zct ?_
               all_goals refine zsk ?_)
            | (refine zcf ?_
               all_goals (refine Qn ?_)
               all_goals (first | (refine Qd ?_) | (refine Qh ?_))
               all_goals (refine zm ?_)
               all_goals refine zn ?_)
           all_goals
            first
            | (refine zct ?_
               all_goals (refine Zaa ?_; refine zb0 [_, _, _, _, _, _, _] ?_; refine zsn hS ?_; intro w1 hS; have hS := hS.ns; refine Zae ?_; refine QH vw (Q4 (n := 7) (by kernel_rfl) (by kernel_rfl) (hS.blkAt fd) (by rfl) (by rfl)) vw ?_)
               all_goals (refine ⟨_, rfl, ?_, hS.sp⟩; (rfl); done))
            | (refine zcf ?_
               all_goals (refine Zav ?_)
               all_goals (first | (refine Qd ?_) | (refine Qh ?_))
               all_goals (refine Zac ?_)
               all_goals
                first
                | (refine zct ?_
                   all_goals refine zsk ?_)
                | (refine zcf ?_
                   all_goals (refine Zaa ?_)
                   all_goals (first | (refine Qd ?_) | (refine Qh ?_))
                   all_goals (refine Zac ?_)
                   all_goals
                    first
                    | (refine zct ?_
                       all_goals refine zsk ?_)
                    | (refine zcf ?_
                       all_goals (refine Qn ?_)
                       all_goals (first | (refine Qd ?_) | (refine Qh ?_))
                       all_goals (refine zm ?_)
                       all_goals refine zn ?_))
               all_goals
                first
                | (refine zct ?_
                   all_goals (refine Zaa ?_; refine zb1 [_, _, _, _, _, _, _] ?_; refine zsn hS ?_; intro w1 hS; have hS := hS.ns; refine Zae ?_; refine QH vw (Q4 (n := 7) (by kernel_rfl) (by kernel_rfl) (hS.blkAt fd) (by rfl) (by rfl)) vw ?_)
                   all_goals (refine ⟨_, rfl, ?_, hS.sp⟩; (rfl); done))
                | (refine zcf ?_
                   all_goals (refine Zaa ?_)
                   all_goals (first | (refine Qd ?_) | (refine Qh ?_))
                   all_goals (refine Zac ?_)
                   all_goals
                    first
                    | (refine zct ?_
                       all_goals (refine Zaa ?_; refine zb2 [_, _, _, _, _, _, _] ?_; refine zsn hS ?_; intro w1 hS; have hS := hS.ns; refine Zae ?_; refine QH vw (Q4 (n := 7) (by kernel_rfl) (by kernel_rfl) (hS.blkAt fd) (by rfl) (by rfl)) vw ?_)
                       all_goals (refine ⟨_, rfl, ?_, hS.sp⟩; (rfl); done))
                    | (refine zcf ?_
                       all_goals (refine Zaa ?_)
                       all_goals (first | (refine Qd ?_) | (refine Qh ?_))
                       all_goals (refine Zac ?_)
                       all_goals
                        first
                        | (refine zct ?_
                           all_goals (refine Zaa ?_; refine zb2 [_, _, _, _, _, _, _] ?_; refine zsn hS ?_; intro w1 hS; have hS := hS.ns; refine Zae ?_; refine QH vw (Q4 (n := 7) (by kernel_rfl) (by kernel_rfl) (hS.blkAt fd) (by rfl) (by rfl)) vw ?_)
                           all_goals (refine ⟨_, rfl, ?_, hS.sp⟩; (rfl); done))
                        | (refine zcf ?_
                           all_goals (refine Zav ?_)
                           all_goals (first | (refine Qd ?_) | (refine Qh ?_))
                           all_goals (refine Zac ?_)
                           all_goals
                            first
                            | (refine zct ?_
                               all_goals refine zsk ?_)
                            | (refine zcf ?_
                               all_goals (refine Qn ?_)
                               all_goals (first | (refine Qd ?_) | (refine Qh ?_))
                               all_goals (refine zm ?_)
                               all_goals refine zn ?_)
                           all_goals
                            first
                            | (refine zct ?_
                               all_goals (refine Zaa ?_; refine zb2 [_, _, _, _, _, _, _] ?_; refine zsn hS ?_; intro w1 hS; have hS := hS.ns; refine Zae ?_; refine QH vw (Q4 (n := 7) (by kernel_rfl) (by kernel_rfl) (hS.blkAt fd) (by rfl) (by rfl)) vw ?_)
                               all_goals (refine ⟨_, rfl, ?_, hS.sp⟩; (rfl); done))
                            | (refine zcf ?_
                               all_goals (refine Zaa ?_)
                               all_goals (first | (refine Qd ?_) | (refine Qh ?_))
                               all_goals (refine Zac ?_)
                               all_goals
                                first
                                | (refine zct ?_
                                   all_goals (refine Zaa ?_; refine zb3 [_, _, _, _, _, _, _] ?_; refine zsn hS ?_; intro w1 hS; have hS := hS.ns; refine Zae ?_; refine QH vw (Q4 (n := 7) (by kernel_rfl) (by kernel_rfl) (hS.blkAt fd) (by rfl) (by rfl)) vw ?_)
                                   all_goals (refine ⟨_, rfl, ?_, hS.sp⟩; (rfl); done))
                                | (refine zcf ?_
                                   all_goals (refine Zaa ?_)
                                   all_goals (first | (refine Qd ?_) | (refine Qh ?_))
                                   all_goals (refine Zac ?_)
                                   all_goals
                                    first
                                    | (refine zct ?_
                                       all_goals (refine Zaa ?_; refine zb3 [_, _, _, _, _, _, _] ?_; refine zsn hS ?_; intro w1 hS; have hS := hS.ns; refine Zae ?_; refine QH vw (Q4 (n := 7) (by kernel_rfl) (by kernel_rfl) (hS.blkAt fd) (by rfl) (by rfl)) vw ?_)
                                       all_goals (refine ⟨_, rfl, ?_, hS.sp⟩; (rfl); done))
                                    | (refine zcf ?_
                                       all_goals refine zsk ?_)))))))))
   all_goals (refine Zaa ?_; refine zb0 [_, _, _, _, _, _, _] ?_; refine zsn hS ?_; intro w1 hS; have hS := hS.ns; refine Zae ?_; refine QH vw (Q4 (n := 7) (by kernel_rfl) (by kernel_rfl) (hS.blkAt fd) (by rfl) (by rfl)) vw ?_; refine ⟨_, rfl, ?_, hS.sp⟩; (rfl); done)
 · clear hbad
   rcases op_cases (op := op) (by omega) (by omega) with rfl | rfl | rfl | rfl | rfl | rfl | rfl | rfl | rfl | rfl | rfl | rfl | rfl | rfl
   all_goals clear hb
   all_goals refine lgo tyD Tryz.func150 ?_
   all_goals (skip; refine Zbh ?_; intro p2 w1 hS; refine ZbU ?_; refine Zaa ?_)
   all_goals (first | (refine Qd ?_) | (refine Qh ?_))
   all_goals (refine Zac ?_)
   all_goals
    first
    | (refine zct ?_
       all_goals (refine Zaa ?_; refine zb1 [_, _, _, _, _, _, _] ?_; refine zsn hS ?_; intro w1 hS; have hS := hS.ns; refine Zae ?_; refine QH vw (Q4 (n := 7) (by kernel_rfl) (by kernel_rfl) (hS.blkAt fd) (by rfl) (by rfl)) vw ?_)
       all_goals (refine ⟨_, rfl, ?_, hS.sp⟩; (rfl); done))
    | (refine zcf ?_
       all_goals (refine Zav ?_)
       all_goals (first | (refine Qd ?_) | (refine Qh ?_))
       all_goals (refine Zac ?_)
       all_goals
        first
        | (refine zct ?_
           all_goals refine zsk ?_)
        | (refine zcf ?_
           all_goals (refine Qn ?_)
           all_goals (first | (refine Qd ?_) | (refine Qh ?_))
           all_goals (refine zm ?_)
           all_goals refine zn ?_)
       all_goals
        first
        | (refine zct ?_
           all_goals (refine Zaa ?_; refine zb3 [_, _, _, _, _, _, _] ?_; refine zsn hS ?_; intro w1 hS; have hS := hS.ns; refine Zae ?_; refine QH vw (Q4 (n := 7) (by kernel_rfl) (by kernel_rfl) (hS.blkAt fd) (by rfl) (by rfl)) vw ?_)
           all_goals (refine ⟨_, rfl, ?_, hS.sp⟩; (rfl); done))
        | (refine zcf ?_
           all_goals (refine Zav ?_)
           all_goals (first | (refine Qd ?_) | (refine Qh ?_))
           all_goals (refine Zac ?_)
           all_goals
            first
            | (refine zct ?_
               all_goals refine zsk ?_)
            | (refine zcf ?_
               all_goals (refine Qn ?_)
               all_goals (first | (refine Qd ?_) | (refine Qh ?_))
               all_goals (refine zm ?_)
               all_goals refine zn ?_)
           all_goals
            first
            | (refine zct ?_
               all_goals (refine Zaa ?_; refine zb0 [_, _, _, _, _, _, _] ?_; refine zsn hS ?_; intro w1 hS; have hS := hS.ns; refine Zae ?_; refine QH vw (Q4 (n := 7) (by kernel_rfl) (by kernel_rfl) (hS.blkAt fd) (by rfl) (by rfl)) vw ?_)
               all_goals (refine ⟨_, rfl, ?_, hS.sp⟩; (rfl); done))
            | (refine zcf ?_
               all_goals (refine Zav ?_)
               all_goals (first | (refine Qd ?_) | (refine Qh ?_))
               all_goals (refine Zac ?_)
               all_goals
                first
                | (refine zct ?_
                   all_goals refine zsk ?_)
                | (refine zcf ?_
                   all_goals (refine Zaa ?_)
                   all_goals (first | (refine Qd ?_) | (refine Qh ?_))
                   all_goals (refine Zac ?_)
                   all_goals
                    first
                    | (refine zct ?_
                       all_goals refine zsk ?_)
                    | (refine zcf ?_
                       all_goals (refine Qn ?_)
                       all_goals (first | (refine Qd ?_) | (refine Qh ?_))
                       all_goals (refine zm ?_)
                       all_goals refine zn ?_))
               all_goals
                first
                | (refine zct ?_
                   all_goals (refine Zaa ?_; refine zb1 [_, _, _, _, _, _, _] ?_; refine zsn hS ?_; intro w1 hS; have hS := hS.ns; refine Zae ?_; refine QH vw (Q4 (n := 7) (by kernel_rfl) (by kernel_rfl) (hS.blkAt fd) (by rfl) (by rfl)) vw ?_)
                   all_goals (refine ⟨_, rfl, ?_, hS.sp⟩; (rfl); done))
                | (refine zcf ?_
                   all_goals (refine Zaa ?_)
                   all_goals (first | (refine Qd ?_) | (refine Qh ?_))
                   all_goals (refine Zac ?_)
                   all_goals
                    first
                    | (refine zct ?_
                       all_goals (refine Zaa ?_; refine zb2 [_, _, _, _, _, _, _] ?_; refine zsn hS ?_; intro w1 hS; have hS := hS.ns; refine Zae ?_; refine QH vw (Q4 (n := 7) (by kernel_rfl) (by kernel_rfl) (hS.blkAt fd) (by rfl) (by rfl)) vw ?_)
                       all_goals (refine ⟨_, rfl, ?_, hS.sp⟩; (rfl); done))
                    | (refine zcf ?_
                       all_goals (refine Zaa ?_)
                       all_goals (first | (refine Qd ?_) | (refine Qh ?_))
                       all_goals (refine Zac ?_)
                       all_goals
                        first
                        | (refine zct ?_
                           all_goals (refine Zaa ?_; refine zb2 [_, _, _, _, _, _, _] ?_; refine zsn hS ?_; intro w1 hS; have hS := hS.ns; refine Zae ?_; refine QH vw (Q4 (n := 7) (by kernel_rfl) (by kernel_rfl) (hS.blkAt fd) (by rfl) (by rfl)) vw ?_)
                           all_goals (refine ⟨_, rfl, ?_, hS.sp⟩; (rfl); done))
                        | (refine zcf ?_
                           all_goals (refine Zav ?_)
                           all_goals (first | (refine Qd ?_) | (refine Qh ?_))
                           all_goals (refine Zac ?_)
                           all_goals
                            first
                            | (refine zct ?_
                               all_goals refine zsk ?_)
                            | (refine zcf ?_
                               all_goals (refine Qn ?_)
                               all_goals (first | (refine Qd ?_) | (refine Qh ?_))
                               all_goals (refine zm ?_)
                               all_goals refine zn ?_)
                           all_goals
                            first
                            | (refine zct ?_
                               all_goals (refine Zaa ?_; refine zb2 [_, _, _, _, _, _, _] ?_; refine zsn hS ?_; intro w1 hS; have hS := hS.ns; refine Zae ?_; refine QH vw (Q4 (n := 7) (by kernel_rfl) (by kernel_rfl) (hS.blkAt fd) (by rfl) (by rfl)) vw ?_)
                               all_goals (refine ⟨_, rfl, ?_, hS.sp⟩; (rfl); done))
                            | (refine zcf ?_
                               all_goals (refine Zaa ?_)
                               all_goals (first | (refine Qd ?_) | (refine Qh ?_))
                               all_goals (refine Zac ?_)
                               all_goals
                                first
                                | (refine zct ?_
                                   all_goals (refine Zaa ?_; refine zb3 [_, _, _, _, _, _, _] ?_; refine zsn hS ?_; intro w1 hS; have hS := hS.ns; refine Zae ?_; refine QH vw (Q4 (n := 7) (by kernel_rfl) (by kernel_rfl) (hS.blkAt fd) (by rfl) (by rfl)) vw ?_)
                                   all_goals (refine ⟨_, rfl, ?_, hS.sp⟩; (rfl); done))
                                | (refine zcf ?_
                                   all_goals (refine Zaa ?_)
                                   all_goals (refine Qd ?_)
                                   all_goals (refine Zac ?_)
                                   all_goals
                                    first
                                    | (refine zct ?_
                                       all_goals (refine Zaa ?_; refine zb3 [_, _, _, _, _, _, _] ?_; refine zsn hS ?_; intro w1 hS; have hS := hS.ns; refine Zae ?_; refine QH vw (Q4 (n := 7) (by kernel_rfl) (by kernel_rfl) (hS.blkAt fd) (by rfl) (by rfl)) vw ?_)
                                       all_goals (refine ⟨_, rfl, ?_, hS.sp⟩; (rfl); done))))))))))
   all_goals (refine Zaa ?_; refine zb0 [_, _, _, _, _, _, _] ?_; refine zsn hS ?_; intro w1 hS; have hS := hS.ns; refine Zae ?_; refine QH vw (Q4 (n := 7) (by kernel_rfl) (by kernel_rfl) (hS.blkAt fd) (by rfl) (by rfl)) vw ?_; refine ⟨_, rfl, ?_, hS.sp⟩; (rfl); done)
theorem rins_c {x : Ins} {m : Module} {cs ds : List Value} (hm : modR.at cx cs m) (hx : insR.at cx ds x) (hS : St cx w L) : Rets Tryz.prog QcF [.agg ⟨cs⟩, .agg ⟨ds⟩] w fun u w' => u = .int .i64 (Q1g m.funcs.length x) ∧ St cx w' L := by
 obtain ⟨vf, rfl, hf⟩ := Q1k hm
 obtain ⟨vr, va, rfl, hr, ha⟩ := Q1a hx
 have hlr := hr.len
 have hla := ha.len
 have hln := hf.len
 unfold Q1g
 all_goals refine lgo tyD Tryz.func94 ?_
 all_goals (refine Zaz ?_; intro p2 w1 hS; refine zb hS ?_; intro p3 w1 hS; refine ZbB ?_; refine zf0 ?_; refine zl hS ?_; refine zR1 (c := fields_c hS) (h := ?_); rintro v1 w1 ⟨rfl, hS⟩; refine ZbE ?_; intro p5 w1 hS; refine zsn hS ?_; intro w1 hS; have hS := hS.ns; refine Zac ?_)
 refine zML hS [2, 3, 5] (fun A LL ρ' w' => Has ρ' A ∧ Has ρ' [] ∧ (1 ≤ x.op ∧ x.op ≤ 14) ∧ St cx w' (LL)) ?_ ?_
 · skip
   all_goals (refine Qb ?_)
   all_goals (cases hop : decide (1 ≤ x.op ∧ x.op ≤ 14))
   all_goals (refine Zak ?_; refine Zba ?_)
   all_goals
    first
    | (refine zct ?_
       all_goals (refine Zaq ?_)
       all_goals (refine ⟨_, rfl, ?_, hS.sp⟩; rw [if_pos (by have := of_decide_eq_false hop; omega)]; done))
    | (refine zcf ?_
       all_goals refine zsk ?_)
   all_goals (exact ⟨zh, zh, by exact of_decide_eq_true hop, hS.sp⟩)
 rintro ρ w1 ⟨hA, hρ, hop, hS⟩; obtain ⟨ρ, rfl⟩ := env2 hA hρ; obtain ⟨a1, ha1⟩ : ∃ b, fA x.op = b := ⟨_, rfl⟩; obtain ⟨a2, ha2⟩ : ∃ b, fB x.op = b := ⟨_, rfl⟩; obtain ⟨a3, ha3⟩ : ∃ b, fC x.op = b := ⟨_, rfl⟩; obtain ⟨a4, ha4⟩ : ∃ b, fK x.op = b := ⟨_, rfl⟩; obtain ⟨a5, ha5⟩ : ∃ b, fN x.op = b := ⟨_, rfl⟩; obtain ⟨a6, ha6⟩ : ∃ b, fG x.op = b := ⟨_, rfl⟩; obtain ⟨a7, ha7⟩ : ∃ b, fR x.op = b := ⟨_, rfl⟩; rw [ha1, ha2, ha3, ha4, ha5, ha6, ha7] at hS
 refine zML hS [2, 3] (fun A LL ρ' w' => Has ρ' A ∧ Has ρ' [] ∧ (¬ x.odd) ∧ St cx w' (LL)) ?_ ?_
 · skip
   all_goals (refine Zaa ?_)
   refine zKL hS 8 [2, 3, 5] (fun A LL ρ' w' => ∃ (q1 : Bool), Has ρ' A ∧ Has ρ' [(22, .bool q1)] ∧ (q1 = true ↔ (fA x.op = false ∧ x.a ≠ 0)) ∧ St cx w' (LL)) ?_ ?_
   · skip
     all_goals (refine zf0 ?_; refine zl hS ?_)
     all_goals (cases a1)
     all_goals (refine znt ?_; refine zm ?_; (first | refine zgn ?_ | (refine zgy ?_; refine zf0 ?_)); (first | refine zgn ?_ | (refine zgy ?_; refine zl hS ?_)))
     all_goals (first | refine zgn ?_ | (refine zgy ?_; (first | (refine QC ?_) | (refine QJ ?_) | (refine Qj rfl rfl (fun hc => ?_) (fun hc => ?_)))))
     all_goals (refine Zbq ?_)
     all_goals (first | (exact ⟨_, zh, zh, by exact ⟨fun _ => ⟨(by first | rfl | assumption), by omega⟩, fun _ => rfl⟩, hS.sp⟩) | (exact ⟨_, zh, zh, by exact ⟨fun h => Bool.noConfusion h, fun h => by obtain ⟨h1, h2⟩ := h; first | (exfalso; omega) | (simp_all; done)⟩, hS.sp⟩))
   rintro ρ w1 ⟨q1, hA, hρ, hq1, hS⟩; obtain ⟨ρ, rfl⟩ := env2 hA hρ
   refine zKL hS 10 [2, 3, 5] (fun A LL ρ' w' => ∃ (q2 : Bool), Has ρ' A ∧ Has ρ' [(32, .bool q2)] ∧ (q2 = true ↔ ((fA x.op = false ∧ x.a ≠ 0) ∨ (fB x.op = false ∧ x.b ≠ 0))) ∧ St cx w' (LL)) ?_ ?_
   · skip
     all_goals (cases q1)
     all_goals (refine zm ?_; (first | refine zgn ?_ | (refine zgy ?_; refine zf0 ?_)); (first | refine zgn ?_ | (refine zgy ?_; refine zl hS ?_)))
     all_goals (cases a2)
     all_goals ((first | refine zgn ?_ | (refine ZaP ?_)); (first | refine zgn ?_ | (refine Zam ?_)); (first | refine zgn ?_ | (refine zgy ?_; refine zf0 ?_)); (first | refine zgn ?_ | (refine zgy ?_; refine zl hS ?_)))
     all_goals (first | refine zgn ?_ | (refine zgy ?_; (first | (refine QC ?_) | (refine QJ ?_) | (refine Qj rfl rfl (fun hc => ?_) (fun hc => ?_)))))
     all_goals ((first | refine zgn ?_ | (refine ZaB ?_)); refine Zbq ?_)
     all_goals (first | (exact ⟨_, zh, zh, by exact ⟨fun _ => .inl (hq1.1 rfl), fun _ => rfl⟩, hS.sp⟩) | (exact ⟨_, zh, zh, by exact ⟨fun _ => .inr ⟨(by first | rfl | assumption), by omega⟩, fun _ => rfl⟩, hS.sp⟩) | (exact ⟨_, zh, zh, by exact ⟨fun h => Bool.noConfusion h, fun h => h.elim (fun h => hq1.2 h) (fun h => by obtain ⟨h1, h2⟩ := h; first | (exfalso; omega) | (simp_all; done))⟩, hS.sp⟩))
   rintro ρ w1 ⟨q2, hA, hρ, hq2, hS⟩; obtain ⟨ρ, rfl⟩ := env2 hA hρ
   refine zKL hS 10 [2, 3, 5] (fun A LL ρ' w' => ∃ (q3 : Bool), Has ρ' A ∧ Has ρ' [(42, .bool q3)] ∧ (q3 = true ↔ (((fA x.op = false ∧ x.a ≠ 0) ∨ (fB x.op = false ∧ x.b ≠ 0)) ∨ (fC x.op = false ∧ x.c ≠ 0))) ∧ St cx w' (LL)) ?_ ?_
   · skip
     all_goals (cases q2)
     all_goals (refine zm ?_; (first | refine zgn ?_ | (refine zgy ?_; refine zf0 ?_)); (first | refine zgn ?_ | (refine zgy ?_; refine zl hS ?_)))
     all_goals (cases a3)
     all_goals ((first | refine zgn ?_ | (refine ZaP ?_)); (first | refine zgn ?_ | (refine Zam ?_)); (first | refine zgn ?_ | (refine zgy ?_; refine zf0 ?_)); (first | refine zgn ?_ | (refine zgy ?_; refine zl hS ?_)))
     all_goals (first | refine zgn ?_ | (refine zgy ?_; (first | (refine QC ?_) | (refine QJ ?_) | (refine Qj rfl rfl (fun hc => ?_) (fun hc => ?_)))))
     all_goals ((first | refine zgn ?_ | (refine ZaB ?_)); refine Zbq ?_)
     all_goals (first | (exact ⟨_, zh, zh, by exact ⟨fun _ => .inl (hq2.1 rfl), fun _ => rfl⟩, hS.sp⟩) | (exact ⟨_, zh, zh, by exact ⟨fun _ => .inr ⟨(by first | rfl | assumption), by omega⟩, fun _ => rfl⟩, hS.sp⟩) | (exact ⟨_, zh, zh, by exact ⟨fun h => Bool.noConfusion h, fun h => h.elim (fun h => hq2.2 h) (fun h => by obtain ⟨h1, h2⟩ := h; first | (exfalso; omega) | (simp_all; done))⟩, hS.sp⟩))
   rintro ρ w1 ⟨q3, hA, hρ, hq3, hS⟩; obtain ⟨ρ, rfl⟩ := env2 hA hρ
   refine zKL hS 10 [2, 3, 5] (fun A LL ρ' w' => ∃ (q4 : Bool), Has ρ' A ∧ Has ρ' [(52, .bool q4)] ∧ (q4 = true ↔ ((((fA x.op = false ∧ x.a ≠ 0) ∨ (fB x.op = false ∧ x.b ≠ 0)) ∨ (fC x.op = false ∧ x.c ≠ 0)) ∨ (fK x.op = false ∧ x.k ≠ 0))) ∧ St cx w' (LL)) ?_ ?_
   · skip
     all_goals (cases q3)
     all_goals (refine zm ?_; (first | refine zgn ?_ | (refine zgy ?_; refine zf0 ?_)); (first | refine zgn ?_ | (refine zgy ?_; refine zl hS ?_)))
     all_goals (cases a4)
     all_goals ((first | refine zgn ?_ | (refine ZaP ?_)); (first | refine zgn ?_ | (refine Zam ?_)); (first | refine zgn ?_ | (refine zgy ?_; refine zf0 ?_)); (first | refine zgn ?_ | (refine zgy ?_; refine zl hS ?_)))
     all_goals (first | refine zgn ?_ | (refine zgy ?_; (first | (refine QC ?_) | (refine QJ ?_) | (refine Qj rfl rfl (fun hc => ?_) (fun hc => ?_)))))
     all_goals ((first | refine zgn ?_ | (refine ZaB ?_)); refine Zbq ?_)
     all_goals (first | (exact ⟨_, zh, zh, by exact ⟨fun _ => .inl (hq3.1 rfl), fun _ => rfl⟩, hS.sp⟩) | (exact ⟨_, zh, zh, by exact ⟨fun _ => .inr ⟨(by first | rfl | assumption), by omega⟩, fun _ => rfl⟩, hS.sp⟩) | (exact ⟨_, zh, zh, by exact ⟨fun h => Bool.noConfusion h, fun h => h.elim (fun h => hq3.2 h) (fun h => by obtain ⟨h1, h2⟩ := h; first | (exfalso; omega) | (simp_all; done))⟩, hS.sp⟩))
   rintro ρ w1 ⟨q4, hA, hρ, hq4, hS⟩; obtain ⟨ρ, rfl⟩ := env2 hA hρ
   refine zKL hS 10 [2, 3, 5] (fun A LL ρ' w' => ∃ (q5 : Bool), Has ρ' A ∧ Has ρ' [(62, .bool q5)] ∧ (q5 = true ↔ (((((fA x.op = false ∧ x.a ≠ 0) ∨ (fB x.op = false ∧ x.b ≠ 0)) ∨ (fC x.op = false ∧ x.c ≠ 0)) ∨ (fK x.op = false ∧ x.k ≠ 0)) ∨ (fN x.op = false ∧ x.n ≠ 0))) ∧ St cx w' (LL)) ?_ ?_
   · skip
     all_goals (cases q4)
     all_goals (refine zm ?_; (first | refine zgn ?_ | (refine zgy ?_; refine zf0 ?_)); (first | refine zgn ?_ | (refine zgy ?_; refine zl hS ?_)))
     all_goals (cases a5)
     all_goals ((first | refine zgn ?_ | (refine ZaP ?_)); (first | refine zgn ?_ | (refine Zam ?_)); (first | refine zgn ?_ | (refine zgy ?_; refine zf0 ?_)); (first | refine zgn ?_ | (refine zgy ?_; refine zl hS ?_)))
     all_goals (first | refine zgn ?_ | (refine zgy ?_; (first | (refine QC ?_) | (refine QJ ?_) | (refine Qj rfl rfl (fun hc => ?_) (fun hc => ?_)))))
     all_goals ((first | refine zgn ?_ | (refine ZaB ?_)); refine Zbq ?_)
     all_goals (first | (exact ⟨_, zh, zh, by exact ⟨fun _ => .inl (hq4.1 rfl), fun _ => rfl⟩, hS.sp⟩) | (exact ⟨_, zh, zh, by exact ⟨fun _ => .inr ⟨(by first | rfl | assumption), by omega⟩, fun _ => rfl⟩, hS.sp⟩) | (exact ⟨_, zh, zh, by exact ⟨fun h => Bool.noConfusion h, fun h => h.elim (fun h => hq4.2 h) (fun h => by obtain ⟨h1, h2⟩ := h; first | (exfalso; omega) | (simp_all; done))⟩, hS.sp⟩))
   rintro ρ w1 ⟨q5, hA, hρ, hq5, hS⟩; obtain ⟨ρ, rfl⟩ := env2 hA hρ
   refine zKL hS 11 [2, 3, 5] (fun A LL ρ' w' => ∃ (q6 : Bool), Has ρ' A ∧ Has ρ' [(73, .bool q6)] ∧ (q6 = true ↔ ((((((fA x.op = false ∧ x.a ≠ 0) ∨ (fB x.op = false ∧ x.b ≠ 0)) ∨ (fC x.op = false ∧ x.c ≠ 0)) ∨ (fK x.op = false ∧ x.k ≠ 0)) ∨ (fN x.op = false ∧ x.n ≠ 0)) ∨ (fG x.op = false ∧ 0 < x.regs.length))) ∧ St cx w' (LL)) ?_ ?_
   · skip
     all_goals (cases q5)
     all_goals (refine zm ?_; (first | refine zgn ?_ | (refine zgy ?_; refine zf0 ?_)); (first | refine zgn ?_ | (refine zgy ?_; refine zl hS ?_)))
     all_goals (cases a6)
     all_goals ((first | refine zgn ?_ | (refine ZaP ?_)); (first | refine zgn ?_ | (refine Zam ?_)); (first | refine zgn ?_ | (refine zgy ?_; refine zf0 ?_)); (first | refine zgn ?_ | (refine zgy ?_; refine zl hS ?_)); (first | refine zgn ?_ | (refine zgy ?_; refine zL ?_)))
     all_goals (first | refine zgn ?_ | (refine zgy ?_; (first | (refine QG ?_) | (refine QL ?_) | (refine Qc rfl rfl (fun hc => ?_) (fun hc => ?_)))))
     all_goals ((first | refine zgn ?_ | (refine ZaB ?_)); refine Zbq ?_)
     all_goals (first | (exact ⟨_, zh, zh, by exact ⟨fun _ => .inl (hq5.1 rfl), fun _ => rfl⟩, hS.sp⟩) | (exact ⟨_, zh, zh, by exact ⟨fun _ => .inr ⟨(by first | rfl | assumption), by omega⟩, fun _ => rfl⟩, hS.sp⟩) | (exact ⟨_, zh, zh, by exact ⟨fun h => Bool.noConfusion h, fun h => h.elim (fun h => hq5.2 h) (fun h => by obtain ⟨h1, h2⟩ := h; first | (exfalso; omega) | (simp_all; done))⟩, hS.sp⟩))
   rintro ρ w1 ⟨q6, hA, hρ, hq6, hS⟩; obtain ⟨ρ, rfl⟩ := env2 hA hρ
   all_goals (cases q6)
   all_goals (refine zm ?_; (first | refine zgn ?_ | (refine zgy ?_; refine zf0 ?_)); (first | refine zgn ?_ | (refine zgy ?_; refine zl hS ?_)))
   all_goals (cases a7)
   all_goals ((first | refine zgn ?_ | (refine ZaP ?_)); (first | refine zgn ?_ | (refine Zam ?_)); (first | refine zgn ?_ | (refine zgy ?_; refine zf0 ?_)); (first | refine zgn ?_ | (refine zgy ?_; refine zl hS ?_)); (first | refine zgn ?_ | (refine zgy ?_; refine zL ?_)))
   all_goals (first | refine zgn ?_ | (refine zgy ?_; (first | (refine QG ?_) | (refine QL ?_) | (refine Qc rfl rfl (fun hc => ?_) (fun hc => ?_)))))
   all_goals ((first | refine zgn ?_ | (refine ZaB ?_)); refine Zaf ?_)
   all_goals
    first
    | (refine zct ?_
       all_goals (refine Zaq ?_)
       all_goals (first | (refine ⟨_, rfl, ?_, hS.sp⟩; rw [if_pos (by have := of_decide_eq_false hop; omega)]; done) | (refine ⟨_, rfl, ?_, hS.sp⟩; have ho : x.odd := (by unfold Ins.odd; simp only [← or_assoc]; first | exact .inl (hq6.1 rfl) | exact .inr ⟨(by first | rfl | assumption), by omega⟩); rw [if_neg (by omega), if_pos ho]; done)))
    | (refine zcf ?_
       all_goals refine zsk ?_)
   all_goals (exact ⟨zh, zh, by intro h; unfold Ins.odd at h; simp only [← or_assoc] at h; exact h.elim (fun h => Bool.noConfusion (hq6.2 h)) (fun h => by obtain ⟨h1, h2⟩ := h; first | (exfalso; omega) | (simp_all; done)), hS.sp⟩)
 rintro ρ w1 ⟨hA, hρ, hodd, hS⟩; obtain ⟨ρ, rfl⟩ := env2 hA hρ
 all_goals (refine Zbv ?_; clear hm hx; refine Qn ?_; refine zf0 ?_; refine zl hS ?_; refine ZbF ?_; refine Zaa ?_)
 all_goals (first | (refine Qd ?_) | (refine Qh ?_) | (refine Q6 rfl rfl (fun hc => ?_) (fun hc => ?_)))
 all_goals (refine Zac ?_)
 all_goals
  first
  | (refine zct ?_
     all_goals (refine Zaa ?_; refine zf0 ?_; refine zl hS ?_)
     all_goals (first | (refine Q1c ?_) | (refine Q1l ?_) | (refine QB rfl rfl (fun hc => ?_) (fun hc => ?_)))
     all_goals (refine zm ?_; (first | refine zgn ?_ | (refine zgy ?_; refine zf0 ?_)); (first | refine zgn ?_ | (refine zgy ?_; refine zl hS ?_)))
     all_goals (first | refine zgn ?_ | (refine zgy ?_; (first | (refine QG ?_) | (refine QL ?_) | (refine Qc rfl rfl (fun hc => ?_) (fun hc => ?_)))))
     all_goals (refine Zaf ?_)
     all_goals
      first
      | (refine zct ?_
         all_goals (refine Zaq ?_)
         all_goals (first | (refine ⟨_, rfl, ?_, hS.sp⟩; rw [if_pos (by have := of_decide_eq_false hop; omega)]; done) | (refine ⟨_, rfl, ?_, hS.sp⟩; have ho : x.odd := (by unfold Ins.odd; simp only [← or_assoc]; first | exact .inl (hq6.1 rfl) | exact .inr ⟨(by first | rfl | assumption), by omega⟩); rw [if_neg (by omega), if_pos ho]; done) | (refine ⟨_, rfl, ?_, hS.sp⟩; rw [if_neg (by omega), if_neg hodd]; unfold Q1w; (repeat (first | rw [if_pos (by omega)] | rw [if_neg (by omega)])); done)))
      | (refine zcf ?_
         all_goals refine zsk ?_))
  | (refine zcf ?_
     all_goals (refine Zaa ?_)
     all_goals (first | (refine Qd ?_) | (refine Qh ?_) | (refine Q6 rfl rfl (fun hc => ?_) (fun hc => ?_)))
     all_goals (refine Zac ?_)
     all_goals
      first
      | (refine zct ?_
         all_goals (refine Zaa ?_; refine zf0 ?_; refine zl hS ?_; refine zL ?_)
         all_goals (first | (refine QG ?_) | (refine QL ?_) | (refine Qc rfl rfl (fun hc => ?_) (fun hc => ?_)))
         all_goals (refine zn ?_)
         all_goals
          first
          | (refine zct ?_
             all_goals (refine Zaq ?_)
             all_goals (first | (refine ⟨_, rfl, ?_, hS.sp⟩; rw [if_pos (by have := of_decide_eq_false hop; omega)]; done) | (refine ⟨_, rfl, ?_, hS.sp⟩; have ho : x.odd := (by unfold Ins.odd; simp only [← or_assoc]; first | exact .inl (hq6.1 rfl) | exact .inr ⟨(by first | rfl | assumption), by omega⟩); rw [if_neg (by omega), if_pos ho]; done) | (refine ⟨_, rfl, ?_, hS.sp⟩; rw [if_neg (by omega), if_neg hodd]; unfold Q1w; (repeat (first | rw [if_pos (by omega)] | rw [if_neg (by omega)])); done)))
          | (refine zcf ?_
             all_goals refine zsk ?_))
      | (refine zcf ?_
         all_goals (refine Zav ?_)
         all_goals (first | (refine Qd ?_) | (refine Qh ?_) | (refine Q6 rfl rfl (fun hc => ?_) (fun hc => ?_)))
         all_goals (refine Zac ?_)
         all_goals
          first
          | (refine zct ?_
             all_goals refine zsk ?_)
          | (refine zcf ?_
             all_goals (refine Qn ?_)
             all_goals (first | (refine Qd ?_) | (refine Qh ?_) | (refine Q6 rfl rfl (fun hc => ?_) (fun hc => ?_)))
             all_goals (refine zm ?_)
             all_goals refine zn ?_)
         all_goals
          first
          | (refine zct ?_
             all_goals (refine Zaa ?_; refine zf0 ?_; refine zl hS ?_)
             all_goals (first | (refine Q1c ?_) | (refine Q1l ?_) | (refine QB rfl rfl (fun hc => ?_) (fun hc => ?_)))
             all_goals (refine zm ?_; (first | refine zgn ?_ | (refine zgy ?_; refine zf0 ?_)); (first | refine zgn ?_ | (refine zgy ?_; refine zl hS ?_)))
             all_goals (first | refine zgn ?_ | (refine zgy ?_; (first | (refine QG ?_) | (refine QL ?_) | (refine Qc rfl rfl (fun hc => ?_) (fun hc => ?_)))))
             all_goals (refine Zaf ?_)
             all_goals
              first
              | (refine zct ?_
                 all_goals (refine Zaq ?_)
                 all_goals (first | (refine ⟨_, rfl, ?_, hS.sp⟩; rw [if_pos (by have := of_decide_eq_false hop; omega)]; done) | (refine ⟨_, rfl, ?_, hS.sp⟩; have ho : x.odd := (by unfold Ins.odd; simp only [← or_assoc]; first | exact .inl (hq6.1 rfl) | exact .inr ⟨(by first | rfl | assumption), by omega⟩); rw [if_neg (by omega), if_pos ho]; done) | (refine ⟨_, rfl, ?_, hS.sp⟩; rw [if_neg (by omega), if_neg hodd]; unfold Q1w; (repeat (first | rw [if_pos (by omega)] | rw [if_neg (by omega)])); done)))
              | (refine zcf ?_
                 all_goals refine zsk ?_))
          | (refine zcf ?_
             all_goals (refine Zaa ?_)
             all_goals (first | (refine Qd ?_) | (refine Qh ?_) | (refine Q6 rfl rfl (fun hc => ?_) (fun hc => ?_)))
             all_goals (refine Zac ?_)
             all_goals
              first
              | (refine zct ?_
                 all_goals (refine Zav ?_; refine zf0 ?_; refine zl hS ?_)
                 all_goals (first | (refine Q1c ?_) | (refine Q1l ?_) | (refine QB rfl rfl (fun hc => ?_) (fun hc => ?_)))
                 all_goals (refine zm ?_; (first | refine zgn ?_ | (refine zgy ?_; refine zf0 ?_)); (first | refine zgn ?_ | (refine zgy ?_; refine zl hS ?_)); (first | refine zgn ?_ | (refine zgy ?_; refine zf0 ?_)); (first | refine zgn ?_ | (refine zgy ?_; refine zl hS ?_)); (first | refine zgn ?_ | (refine zgy ?_; refine zL ?_)))
                 all_goals (first | refine zgn ?_ | (refine zgy ?_; (first | (refine Q2l ?_) | (refine Q2U ?_) | (refine Q1M rfl rfl (fun hc => ?_) (fun hc => ?_)))))
                 all_goals (refine Zaf ?_)
                 all_goals
                  first
                  | (refine zct ?_
                     all_goals (refine Zaq ?_)
                     all_goals (first | (refine ⟨_, rfl, ?_, hS.sp⟩; rw [if_pos (by have := of_decide_eq_false hop; omega)]; done) | (refine ⟨_, rfl, ?_, hS.sp⟩; have ho : x.odd := (by unfold Ins.odd; simp only [← or_assoc]; first | exact .inl (hq6.1 rfl) | exact .inr ⟨(by first | rfl | assumption), by omega⟩); rw [if_neg (by omega), if_pos ho]; done) | (refine ⟨_, rfl, ?_, hS.sp⟩; rw [if_neg (by omega), if_neg hodd]; unfold Q1w; (repeat (first | rw [if_pos (by omega)] | rw [if_neg (by omega)])); done)))
                  | (refine zcf ?_
                     all_goals refine zsk ?_)
                 all_goals (refine Zaa ?_; refine zf0 ?_; refine zl hS ?_; refine zL ?_)
                 all_goals (first | (refine QG ?_) | (refine QL ?_) | (refine Qc rfl rfl (fun hc => ?_) (fun hc => ?_)))
                 all_goals (refine zm ?_; (first | refine zgn ?_ | (refine zgy ?_; refine zf0 ?_)); (first | refine zgn ?_ | (refine zgy ?_; refine zl hS ?_)); (first | refine zgn ?_ | (refine zgy ?_; refine zL ?_)))
                 all_goals (first | refine zgn ?_ | (refine zgy ?_; (first | (refine QG ?_) | (refine QL ?_) | (refine Qc rfl rfl (fun hc => ?_) (fun hc => ?_)))))
                 all_goals (refine Zaf ?_)
                 all_goals
                  first
                  | (refine zct ?_
                     all_goals (refine Zaq ?_)
                     all_goals (first | (refine ⟨_, rfl, ?_, hS.sp⟩; rw [if_pos (by have := of_decide_eq_false hop; omega)]; done) | (refine ⟨_, rfl, ?_, hS.sp⟩; have ho : x.odd := (by unfold Ins.odd; simp only [← or_assoc]; first | exact .inl (hq6.1 rfl) | exact .inr ⟨(by first | rfl | assumption), by omega⟩); rw [if_neg (by omega), if_pos ho]; done) | (refine ⟨_, rfl, ?_, hS.sp⟩; rw [if_neg (by omega), if_neg hodd]; unfold Q1w; (repeat (first | rw [if_pos (by omega)] | rw [if_neg (by omega)])); done)))
                  | (refine zcf ?_
                     all_goals refine zsk ?_))
              | (refine zcf ?_
                 all_goals refine zsk ?_))))
 all_goals (refine Zaq ?_; (first | (refine ⟨_, rfl, ?_, hS.sp⟩; rw [if_pos (by have := of_decide_eq_false hop; omega)]; done) | (refine ⟨_, rfl, ?_, hS.sp⟩; have ho : x.odd := (by unfold Ins.odd; simp only [← or_assoc]; first | exact .inl (hq6.1 rfl) | exact .inr ⟨(by first | rfl | assumption), by omega⟩); rw [if_neg (by omega), if_pos ho]; done) | (refine ⟨_, rfl, ?_, hS.sp⟩; rw [if_neg (by omega), if_neg hodd]; unfold Q1w; (repeat (first | rw [if_pos (by omega)] | rw [if_neg (by omega)])); done)))
end Go.Proofs.YteflkifmgnpbhaaGreat
namespace Go.Lir
theorem QbY {m : Module} {s : MS} {f : Fun} {b : Block} (hf : m.funcs[s.g.f]? = some f) (hb : f.blocks[s.g.b]? = some b) (h : s.g.i < b.code.length) : s.place m = Q4Y s.g.f s.g.b s.g.i := by
 unfold MS.place; simp only [hf, hb]; exact if_pos h
theorem QbZ {m : Module} {s : MS} {f : Fun} {b : Block} (hf : m.funcs[s.g.f]? = some f) (hb : f.blocks[s.g.b]? = some b) (h : ¬ s.g.i < b.code.length) : s.place m = Q5o s.g.f s.g.b := by
 unfold MS.place; simp only [hf, hb]; exact if_neg h
theorem one_i {m : Module} {s : MS} {f : Fun} {b : Block} {x : Ins} (hf : m.funcs[s.g.f]? = some f) (hb : f.blocks[s.g.b]? = some b) (h : b.code[s.g.i]? = some x) : s.one m = s.next.ins m x := by
 unfold MS.one; simp only [hf, hb, h]
theorem one_e {m : Module} {s : MS} {f : Fun} {b : Block} (hf : m.funcs[s.g.f]? = some f) (hb : f.blocks[s.g.b]? = some b) (h : b.code.length ≤ s.g.i) : s.one m = s.fin f b.fin := by
 unfold MS.one; simp only [hf, hb, List.getElem?_eq_none h]
end Go.Lir
namespace Go.Proofs.YteflkifmgnpbhaaGreat
open Go.Lir
set_option maxHeartbeats 1000000
attribute [local irreducible] LC.wp Q0 QF QE retQ Q16 LO.wp Qf Calls
set_option linter.unusedSimpArgs false
set_option linter.unusedVariables false
variable {cx : Cx} {w : World} {L : List Res} {p N : Nat} {c : MC} {fr : List FrmV} {g : FrmV} {h : HpS} {out inp : List Int} {fu : Nat} {m : Module}
@[reducible] def MC.tick (c : MC) : MC := ⟨c.hp, c.fn, c.lv, c.iv, c.e, c.bv, c.ov, c.fu + 1, c.mo, c.dn, c.c, c.a⟩
def QcJ (m : Module) (x : Ins) : Prop := (1 ≤ x.op ∧ x.op ≤ 14) ∧ (x.op = 14 → 0 ≤ x.k ∧ x.k < m.funcs.length) ∧ x.regs.length ≤ 100 ∧ x.args.length ≤ 100
def QcK (f : Fun) (e : Tail) : Prop := e.args.length ≤ 100 ∧ (1 ≤ e.op ∧ e.op ≤ 3) ∧ (e.op ≠ 3 → ToOK f e.yes) ∧ (e.op = 2 → ToOK f e.no)
attribute [local irreducible] Frm.val Frm.num Frm.args Frm.rgs Frm.reg MS.place Q4Y Q5o
theorem place_c {f : Fun} {b : Block} (hfn : funcR.sl cx c.fn m.funcs) (hfx : m.funcs[g.f]? = some f) (hbx : f.blocks[g.b]? = some b) (hf : fr.length ≤ 900) (k1 : g.f ≤ 1000000) (k2 : g.b ≤ 1000000) (k3 : g.i ≤ 1000000) (hS : St cx w (mS p c fr g N h out L)) :
 Rets Tryz.prog Q4r [.pointer (some ⟨p, 0, none⟩)] w fun u w' => u = .int .i64 ((msOf h g fr inp out fu).place m) ∧ St cx w' (mS p c fr g N h out L) := by
 have hgf := (List.getElem?_eq_some_iff.1 hfx).1
 have hgb := (List.getElem?_eq_some_iff.1 hbx).1
 all_goals refine lgo tyD Tryz.func69 ?_
 all_goals (refine Zbb ?_; refine zR1 (c := Q3u (by omega) hS) (h := ?_); rintro v1 w1 ⟨b9, o9, rfl, hel, hS⟩; refine ZbA ?_; refine zD (ci 25 [24]) ?_; have hS := hS.drew; refine ZaW ?_; refine Q1 (j := 2) hS hel rfl fd (Q5 fr g) (Q7 fr g) rfl ?_; refine Zbe ?_; refine zf0 ?_; (first | refine zf0 ?_ | refine zfd ?_); refine zl hS ?_; refine ZaW ?_; refine Q1f hS hel rfl fd (Q5 fr g) (Q7 fr g) rfl ?_; refine zi ?_; intro b8 o8 cs8 x8 hat8 hx8 he8; obtain rfl : x8 = f := Option.some.inj (hx8.symm.trans hfx); obtain ⟨vp8, vr8, vb8, rfl, hp8, hr8, hb8⟩ := Qv he8; refine Zbp ?_)
 all_goals (refine ZaW ?_; refine Q1 (j := 1) hS hel rfl fd (Q5 fr g) (Q7 fr g) rfl ?_; refine zi ?_; intro b7 o7 cs7 x7 hat7 hx7 he7; obtain rfl : x7 = b := Option.some.inj (hx7.symm.trans hbx); obtain ⟨vp7, vc7, u1, u2, u3, u4, u5, rfl, hp7, hc7, hu1, hu2, hu3, hu4, hu5⟩ := Q13 he7; refine Zbp ?_; refine zL ?_)
 all_goals (first | (refine Q1c ?_) | (refine Q1l ?_) | (refine QB rfl rfl (fun hc => ?_) (fun hc => ?_)))
 all_goals (refine zn ?_)
 all_goals
  first
  | (refine zct ?_
     all_goals (refine Qb ?_; have hX := QbY (m := m) (s := msOf h g fr inp out fu) hfx hbx (by show g.i < x7.code.length; omega); refine zD (ci 14 [12, 13]) ?_; have hS := hS.drew; refine ZaW ?_; refine Q1f hS hel rfl fd (Q5 fr g) (Q7 fr g) rfl ?_; refine ZaW ?_; refine Q1 (j := 1) hS hel rfl fd (Q5 fr g) (Q7 fr g) rfl ?_; refine ZaW ?_; refine Q1 (j := 2) hS hel rfl fd (Q5 fr g) (Q7 fr g) rfl ?_; refine zR3 (c := Q9Y g.f g.b g.i k1 k2 k3 hS) (h := ?_); rintro v1 w1 ⟨rfl, hS⟩; refine Zah ?_)
     all_goals (refine ⟨_, rfl, ?_, hS.sp⟩; rw [hX]; rfl; done))
  | (refine zcf ?_
     all_goals refine zsk ?_)
 all_goals (refine Qb ?_; have hX := QbZ (m := m) (s := msOf h g fr inp out fu) hfx hbx (by show ¬ g.i < x7.code.length; omega); refine zD (ci 10 [8, 9]) ?_; have hS := hS.drew; refine ZaW ?_; refine Q1f hS hel rfl fd (Q5 fr g) (Q7 fr g) rfl ?_; refine ZaW ?_; refine Q1 (j := 1) hS hel rfl fd (Q5 fr g) (Q7 fr g) rfl ?_; refine zR2 (c := Q9Z g.f g.b k1 k2 hS) (h := ?_); rintro v1 w1 ⟨rfl, hS⟩; refine Zah ?_; refine ⟨_, rfl, ?_, hS.sp⟩; rw [hX]; rfl; done)
attribute [local irreducible] MS.ins MS.fin MS.one GoS BadS DoneS OkS
theorem one_c {f : Fun} {b : Block} (hfn : funcR.sl cx c.fn m.funcs) (hi : intR.sl cx c.iv inp) (hfx : m.funcs[g.f]? = some f) (hbx : f.blocks[g.b]? = some b) (hci : ∀ x ∈ b.code, QcJ m x) (hce : QcK f b.fin) (hgi : g.i ≤ 1000) (hf : fr.length ≤ 900) (hn : g.vals.length ≤ 800000) (hrn : g.regs.length ≤ 800000) (hfr : ∀ x ∈ fr, x.vals.length ≤ 900000) (hN : N ≤ 99999) (hol : out.length ≤ 2000) (hfu : 0 ≤ c.fu ∧ c.fu ≤ 10000000) (hS : St cx w (mS p c fr g N h out L)) :
 Fins Tryz.prog Q5h [.pointer (some ⟨p, 0, none⟩)] w (fun u w' => c.fu ≠ c.mo ∧ OkS p c.tick N h out fu ((msOf h g fr inp out fu).one m) cx L u w')
  (fun u w' => (c.fu = c.mo ∧ u = Q8I 7 ∧ St cx w' (mS p c fr g N h out L)) ∨ (c.fu ≠ c.mo ∧ BadS p c.tick N h out ((msOf h g fr inp out fu).one m) cx L u w')) := by
 have hgf := (List.getElem?_eq_some_iff.1 hfx).1
 have hgb := (List.getElem?_eq_some_iff.1 hbx).1
 unfold Fins
 all_goals refine lgo tyD Tryz.func71 ?_
 all_goals (refine Qb ?_; refine zD (ci 11 [10]) ?_; have hS := hS.drew; refine Zbe ?_; refine zf0 ?_; (first | refine zf0 ?_ | refine zfd ?_); refine zl hS ?_; refine Zbe ?_; refine zf0 ?_; refine zl hS ?_)
 all_goals (first | (refine Qd ?_) | (refine Qh ?_) | (refine Q6 rfl rfl (fun hc => ?_) (fun hc => ?_)))
 all_goals (first | (refine zR2 (c := Q3M hS) (h := ?_); rintro v1 w1 ⟨rfl, hS⟩) | (refine zE2 (c := Q3L hS) (p := by rintro v9 w9 ⟨rfl, hS⟩; (repeat (first | refine Ql ?_ | refine Qm ?_ | refine fun _ => ?_)); refine QI ?_; refine .inr ⟨_, rfl, ?_⟩; first | (exact .inl ⟨by omega, rfl, hS.sp⟩)) (h := fun _ _ h => h.elim)))
 all_goals (refine ZaZ ?_; have hmo : c.fu ≠ c.mo := (by omega); refine Zak ?_; refine znc ?_; refine zf0 ?_; (first | refine zf0 ?_ | refine zfd ?_); refine zl hS ?_; refine zad ?_; refine znc ?_; refine zf0 ?_; (first | refine zf0 ?_ | refine zfd ?_); refine zst hS ?_; intro w1 hS; have hS := hS.ns; refine Zbi ?_; have hS : St cx _ (mS p c.tick fr g N h out L) := hS.sp; refine zR1 (c := Q3u (by omega) hS) (h := ?_); rintro v1 w1 ⟨b9, o9, rfl, hel, hS⟩; refine Zan ?_; refine zC [(0, none), (1, none), (2, none), (3, none), (4, none), (5, none), (6, none), (7, none), (8, none), (9, none), (10, none), (11, none), (12, none), (13, none), (14, none), (15, none), (16, none), (17, none), (18, some (some [4, 8, 11, 15, 17])), (19, some none)] ?_; have hS := hS.drew; refine Zbo ?_; refine zf0 ?_; refine Zap ?_)
 all_goals (refine Zab ?_; refine zl hS ?_; refine Zat ?_; refine Zbx ?_; refine Q1f hS hel rfl fd (Q5 fr g) (Q7 fr g) rfl ?_; refine Zab ?_; refine zi ?_; intro b8 o8 cs8 x8 hat8 hx8 he8; obtain rfl : x8 = f := Option.some.inj (hx8.symm.trans hfx); obtain ⟨vp8, vr8, vb8, rfl, hp8, hr8, hb8⟩ := Qv he8; refine Zbg ?_; refine Zat ?_; refine Zbx ?_; refine Q1 (j := 1) hS hel rfl fd (Q5 fr g) (Q7 fr g) rfl ?_; refine Zab ?_; refine zi ?_; intro b7 o7 cs7 x7 hat7 hx7 he7; obtain rfl : x7 = b := Option.some.inj (hx7.symm.trans hbx); obtain ⟨vp7, vc7, u1, u2, u3, u4, u5, rfl, hp7, hc7, hu1, hu2, hu3, hu4, hu5⟩ := Q13 he7; refine ZaY ?_; refine zt ?_)
 all_goals (refine Q4n ?_; refine Qg hS ?_; intro p3 w1 hS; refine zt ?_; refine ⟨List.forall_mem_cons.2 ⟨(by first | (first | exact QA hS hel rfl fd (Q5 fr g) (Q7 fr g) rfl | exact QA (j := 0) hS hel rfl fd (Q5 fr g) (Q7 fr g) rfl | exact QA (j := 1) hS hel rfl fd (Q5 fr g) (Q7 fr g) rfl | exact QA (j := 2) hS hel rfl fd (Q5 fr g) (Q7 fr g) rfl) | (exact Q1E hS rfl fd rfl)), List.forall_mem_cons.2 ⟨(by (exact QA hS hel rfl fd (Q5 fr g) (Q7 fr g) rfl)), List.forall_mem_cons.2 ⟨(by first | (first | exact QA hS hel rfl fd (Q5 fr g) (Q7 fr g) rfl | exact QA (j := 0) hS hel rfl fd (Q5 fr g) (Q7 fr g) rfl | exact QA (j := 1) hS hel rfl fd (Q5 fr g) (Q7 fr g) rfl | exact QA (j := 2) hS hel rfl fd (Q5 fr g) (Q7 fr g) rfl) | (exact Q1E hS rfl fd rfl) | (exact Q39 hS (by assumption) rfl rfl) | (exact Q3j hS (by assumption) rfl rfl)), List.forall_mem_cons.2 ⟨(by (exact QA hS hel rfl fd (Q5 fr g) (Q7 fr g) rfl)), List.forall_mem_cons.2 ⟨(by first | (first | exact QA hS hel rfl fd (Q5 fr g) (Q7 fr g) rfl | exact QA (j := 0) hS hel rfl fd (Q5 fr g) (Q7 fr g) rfl | exact QA (j := 1) hS hel rfl fd (Q5 fr g) (Q7 fr g) rfl | exact QA (j := 2) hS hel rfl fd (Q5 fr g) (Q7 fr g) rfl) | (exact Q38 hS rfl fd rfl rfl) | (exact Q2C hS (by assumption) rfl rfl rfl)), fun _ h => (List.not_mem_nil h).elim⟩⟩⟩⟩⟩, ?_⟩)
 all_goals (refine s_cf ?_; refine zsn hS ?_; intro w1 hS; have hS := hS.ns; refine Zaw ?_; refine Qb ?_; refine zD (ci 8 [7]) ?_; have hS := hS.drew; refine ZaW ?_; refine Q1 (j := 2) hS hel rfl fd (Q5 fr g) (Q7 fr g) rfl ?_; refine zf0 ?_; refine zl hS ?_; refine zL ?_)
 all_goals (first | (refine Q1c ?_) | (refine Q1l ?_) | (refine QB rfl rfl (fun hc => ?_) (fun hc => ?_)))
 all_goals (refine zn ?_)
 all_goals
  first
  | (refine zct ?_
     all_goals (refine zD (ci 10 [9]) ?_; have hS := hS.drew; refine zm ?_; refine zf0 ?_; refine zl hS ?_; refine ZaW ?_; refine Q1 (j := 2) hS hel rfl fd (Q5 fr g) (Q7 fr g) rfl ?_; refine zi ?_; intro b6 o6 cs6 x6 hat6 hx6 he6; obtain ⟨vr6, va6, rfl, hr6, ha6⟩ := Q1a he6; have hX := one_i (m := m) (s := msOf h g fr inp out fu) hfx hbx hx6; obtain ⟨q1, q2, q3, q4⟩ := hci _ (List.mem_of_getElem? hx6); (first | (refine zv hS ?_) | (refine zvk hS ?_)); refine zE2 (c := mins_c (c := c.tick) (fu := fu) (inp := inp) he6 hfn hi q1 q2 q3 q4 hgi hf hn hrn hN hol (show St cx _ (mS p c.tick fr g N h out _) from hS.sp)) (p := by rintro u9 w9 hB; (repeat (first | refine Ql ?_ | refine Qm ?_ | refine fun _ => ?_)); refine QI ?_; refine .inr ⟨_, rfl, ?_⟩; exact .inr ⟨hmo, hX ▸ hB.drop⟩) (h := ?_); rintro u7 w7 hG; refine zn ?_)
     all_goals (have hG : OkS p c.tick N h out fu ((msOf h g fr inp out fu).one m) cx L u7 w7 := hX ▸ hG.drop.ok; obtain ⟨rfl, hG⟩ := hG.tup))
  | (refine zcf ?_
     all_goals (have hX := one_e (m := m) (s := msOf h g fr inp out fu) hfx hbx (by show x7.code.length ≤ g.i; omega); obtain ⟨q1, q2, q3, q4⟩ := hce; refine Zak ?_; refine zf0 ?_; refine zv hS ?_; refine zE2 (c := mend_c (c := c.tick) (fu := fu) (inp := inp) (e := x7.fin) ⟨_, _, _, _, _, rfl, hu1, hu2, hu3, hu4, hu5⟩ hfn hi hfx q1 q2 q3 q4 hf hfr (show St cx _ (mS p c.tick fr g N h out _) from hS.sp)) (p := by rintro u9 w9 hB; (repeat (first | refine Ql ?_ | refine Qm ?_ | refine fun _ => ?_)); refine QI ?_; refine .inr ⟨_, rfl, ?_⟩; exact .inr ⟨hmo, hX ▸ hB.drop⟩) (h := ?_); rintro u7 w7 hG; refine zn ?_)
     all_goals (have hG : OkS p c.tick N h out fu ((msOf h g fr inp out fu).one m) cx L u7 w7 := hX ▸ hG.drop; obtain ⟨rfl, hG⟩ := hG.tup))
 all_goals (refine Q1j ?_; exact .inl ⟨_, rfl, hmo, hG⟩)
end Go.Proofs.YteflkifmgnpbhaaGreat
namespace Go.Proofs.YteflkifmgnpbhaaGreat
open Go.Lir
set_option maxHeartbeats 1000000
attribute [local irreducible] LC.wp Q0 QF QE retQ Q16 LO.wp Qf Calls
set_option linter.unusedSimpArgs false
set_option linter.unusedVariables false
attribute [local irreducible] orF mkF orC Q1w Q1g Q1r Q1I Qy Qw QD Q2k Q2o Q5o Q4Y
variable {cx : Cx} {w : World} {L : List Res} {i : Nat}
theorem fault_if (c : Int) : (if decide (c ≠ 0) = true then c else 0) = c := by by_cases h : c = 0 <;> simp [h]
theorem rto_c {x : Fun} {t : To} {is : Bool} {cs ds : List Value} (hx : funcR.at cx cs x) (ht : toR.at cx ds t) (hS : St cx w L) :
 Rets Tryz.prog R_toForm [.agg ⟨cs⟩, .agg ⟨ds⟩, .bool is] w fun u w' => u = .int .i64 (Q1r x.blocks.length t is) ∧ St cx w' L := by
 obtain ⟨vp, vr, vb, rfl, hp, hr, hb⟩ := Qv hx
 obtain ⟨v1, v2, rfl, h1, h2⟩ := Q2u ht
 have hlb := hb.len
 have hb1 := h1.len
 have hb2 := h2.len
 unfold Q1r
 cases is with
 | false =>
   all_goals refine lgo tyD Tryz.func156 ?_
   all_goals (refine Zaz ?_; intro p3 w1 hS; refine zb hS ?_; intro p4 w1 hS; refine ZbI ?_)
   all_goals refine zct ?_
   all_goals (refine Zav ?_; refine zf0 ?_; refine zl hS ?_)
   all_goals (first | (refine QC ?_) | (refine QJ ?_) | (refine Qj rfl rfl (fun hc => ?_) (fun hc => ?_)))
   all_goals (refine zm ?_; (first | refine zgn ?_ | (refine zgy ?_; refine zf0 ?_)); (first | refine zgn ?_ | (refine zgy ?_; refine zl hS ?_)); (first | refine zgn ?_ | (refine zgy ?_; refine zL ?_)); (first | refine zgn ?_ | (refine zgy ?_; refine zf0 ?_)); (first | refine zgn ?_ | (refine zgy ?_; refine zl hS ?_)); (first | refine zgn ?_ | (refine zgy ?_; refine zL ?_)); (first | refine zgn ?_ | (refine zgy ?_; refine zad ?_)))
   all_goals (first | refine zgn ?_ | (refine zgy ?_; (first | (refine QG ?_) | (refine QL ?_) | (refine Qc rfl rfl (fun hc => ?_) (fun hc => ?_)))))
   all_goals (refine Zaf ?_)
   all_goals
    first
    | (refine zct ?_
       all_goals (refine Zaq ?_)
       all_goals (refine ⟨_, rfl, ?_, hS.sp⟩; (rw [if_pos rfl]; first | rw [if_pos (by omega)] | rw [if_neg (by omega)]); done))
    | (refine zcf ?_
       all_goals refine zsk ?_)
   all_goals (refine Zaq ?_; refine ⟨_, rfl, ?_, hS.sp⟩; (rw [if_pos rfl]; first | rw [if_pos (by omega)] | rw [if_neg (by omega)]); done)
 | true =>
   all_goals refine lgo tyD Tryz.func156 ?_
   all_goals (refine Zaz ?_; intro p3 w1 hS; refine zb hS ?_; intro p4 w1 hS; refine ZbI ?_)
   all_goals refine zcf ?_
   all_goals (refine zsk ?_; refine Zav ?_; refine zf0 ?_; refine zl hS ?_)
   all_goals (first | (refine Q1c ?_) | (refine Q1l ?_) | (refine QB rfl rfl (fun hc => ?_) (fun hc => ?_)))
   all_goals (refine zm ?_; (first | refine zgn ?_ | (refine zgy ?_; refine zf0 ?_)); (first | refine zgn ?_ | (refine zgy ?_; refine zl hS ?_)); (first | refine zgn ?_ | (refine zgy ?_; refine zf0 ?_)); (first | refine zgn ?_ | (refine zgy ?_; refine zl hS ?_)); (first | refine zgn ?_ | (refine zgy ?_; refine zL ?_)))
   all_goals (first | refine zgn ?_ | (refine zgy ?_; (first | (refine Q2l ?_) | (refine Q2U ?_) | (refine Q1M rfl rfl (fun hc => ?_) (fun hc => ?_)))))
   all_goals (refine Zaf ?_)
   all_goals
    first
    | (refine zct ?_
       all_goals (refine Zaq ?_)
       all_goals (refine ⟨_, rfl, ?_, hS.sp⟩; rw [if_neg Bool.noConfusion]; (repeat (first | rw [if_pos (by omega)] | rw [if_neg (by omega)])); done))
    | (refine zcf ?_
       all_goals refine zsk ?_)
   all_goals (refine Zav ?_; refine zf0 ?_; refine zl hS ?_; refine zL ?_)
   all_goals (first | (refine QG ?_) | (refine QL ?_) | (refine Qc rfl rfl (fun hc => ?_) (fun hc => ?_)))
   all_goals (refine zm ?_; (first | refine zgn ?_ | (refine zgy ?_; refine zf0 ?_)); (first | refine zgn ?_ | (refine zgy ?_; refine zl hS ?_)); (first | refine zgn ?_ | (refine zgy ?_; refine zL ?_)))
   all_goals (first | refine zgn ?_ | (refine zgy ?_; (first | (refine QG ?_) | (refine QL ?_) | (refine Qc rfl rfl (fun hc => ?_) (fun hc => ?_)))))
   all_goals (refine Zaf ?_)
   all_goals
    first
    | (refine zct ?_
       all_goals (refine Zaq ?_)
       all_goals (refine ⟨_, rfl, ?_, hS.sp⟩; rw [if_neg Bool.noConfusion]; (repeat (first | rw [if_pos (by omega)] | rw [if_neg (by omega)])); done))
    | (refine zcf ?_
       all_goals refine zsk ?_)
   all_goals (refine Zaq ?_; refine ⟨_, rfl, ?_, hS.sp⟩; rw [if_neg Bool.noConfusion]; (repeat (first | rw [if_pos (by omega)] | rw [if_neg (by omega)])); done)
theorem rend_c {x : Fun} {e : Tail} {cs ds : List Value} (hx : funcR.at cx cs x) (he : endR.at cx ds e) (hS : St cx w L) :
 Rets Tryz.prog QcG [.agg ⟨cs⟩, .agg ⟨ds⟩] w fun u w' => u = .int .i64 (Q1I x.blocks.length e) ∧ St cx w' L := by
 obtain ⟨vp, vr, vb, rfl, hp, hr, hb⟩ := Qv hx
 obtain ⟨v1, v2, v3, v4, v5, rfl, h1, h2, h3, h4, h5⟩ := Q2Q he
 have s5 := h5.len
 unfold Q1I
 all_goals refine lgo tyD Tryz.func96 ?_
 all_goals (refine Zaz ?_; intro p2 w1 hS; refine zb hS ?_; intro p3 w1 hS; refine ZaT ?_; refine zf0 ?_; refine zl hS ?_)
 all_goals (first | (refine Q1c ?_) | (refine Q1l ?_) | (refine QB rfl rfl (fun hc => ?_) (fun hc => ?_)))
 all_goals (refine zm ?_; (first | refine zgn ?_ | (refine zgy ?_; refine zf0 ?_)); (first | refine zgn ?_ | (refine zgy ?_; refine zl hS ?_)))
 all_goals (first | refine zgn ?_ | (refine zgy ?_; (first | (refine QG ?_) | (refine QL ?_) | (refine Qc rfl rfl (fun hc => ?_) (fun hc => ?_)))))
 all_goals (refine Zaf ?_)
 all_goals
  first
  | (refine zct ?_
     all_goals (refine Zaq ?_)
     all_goals (refine ⟨_, rfl, ?_, hS.sp⟩; rw [if_pos (by omega)]; done))
  | (refine zcf ?_
     all_goals refine zsk ?_)
 refine zML hS [2, 3] (fun A LL ρ' w' => Has ρ' A ∧ Has ρ' [] ∧ (¬ (e.op < 1 ∨ 3 < e.op)) ∧ (¬ (e.op ≠ 2 ∧ e.a ≠ 0 ∨ e.op ≠ 3 ∧ 0 < e.args.length)) ∧ St cx w' (LL)) ?_ ?_
 · skip
   all_goals (refine Zaa ?_; refine zf0 ?_; refine zl hS ?_)
   all_goals (first | (refine QC ?_) | (refine QJ ?_) | (refine Qj rfl rfl (fun hc => ?_) (fun hc => ?_)))
   all_goals (refine zm ?_; (first | refine zgn ?_ | (refine zgy ?_; refine zf0 ?_)); (first | refine zgn ?_ | (refine zgy ?_; refine zl hS ?_)))
   all_goals (first | refine zgn ?_ | (refine zgy ?_; (first | (refine QC ?_) | (refine QJ ?_) | (refine Qj rfl rfl (fun hc => ?_) (fun hc => ?_)))))
   all_goals (refine Zai ?_; (first | refine zgn ?_ | (refine zgy ?_; refine zf0 ?_)); (first | refine zgn ?_ | (refine zgy ?_; refine zl hS ?_)); (first | refine zgn ?_ | (refine zgy ?_; refine zL ?_)))
   all_goals (first | refine zgn ?_ | (refine zgy ?_; (first | (refine QG ?_) | (refine QL ?_) | (refine Qc rfl rfl (fun hc => ?_) (fun hc => ?_)))))
   all_goals ((first | refine zgn ?_ | (refine Zam ?_)); (first | refine zgn ?_ | (refine zgy ?_; refine zf0 ?_)); (first | refine zgn ?_ | (refine zgy ?_; refine zl hS ?_)))
   all_goals (first | refine zgn ?_ | (refine zgy ?_; (first | (refine QC ?_) | (refine QJ ?_) | (refine Qj rfl rfl (fun hc => ?_) (fun hc => ?_)))))
   all_goals ((first | refine zgn ?_ | (refine ZaB ?_)); refine Zaf ?_)
   all_goals
    first
    | (refine zct ?_
       all_goals (refine Zaq ?_)
       all_goals (first | (refine ⟨_, rfl, ?_, hS.sp⟩; rw [if_pos (by omega)]; done) | (refine ⟨_, rfl, ?_, hS.sp⟩; rw [if_neg (by omega), if_pos (by omega)]; done)))
    | (refine zcf ?_
       all_goals refine zsk ?_)
   all_goals (exact ⟨zh, zh, by omega, by omega, hS.sp⟩)
 rintro ρ w1 ⟨hA, hρ, k1, k2, hS⟩; obtain ⟨ρ, rfl⟩ := env2 hA hρ
 all_goals (refine Zav ?_; refine zf0 ?_; refine zl hS ?_; refine zL ?_)
 all_goals (first | (refine QG ?_) | (refine QL ?_) | (refine Qc rfl rfl (fun hc => ?_) (fun hc => ?_)))
 all_goals (refine zn ?_)
 all_goals
  first
  | (refine zct ?_
     all_goals (refine Zaq ?_)
     all_goals (first | (refine ⟨_, rfl, ?_, hS.sp⟩; rw [if_pos (by omega)]; done) | (refine ⟨_, rfl, ?_, hS.sp⟩; rw [if_neg (by omega), if_pos (by omega)]; done) | (refine ⟨_, rfl, ?_, hS.sp⟩; rw [if_neg k1, if_neg k2, if_pos (by omega)]; done)))
  | (refine zcf ?_
     all_goals refine zsk ?_)
 all_goals (refine Zav ?_; refine zv hS ?_; refine zf0 ?_; refine zv hS ?_; refine zf0 ?_; refine zl hS ?_; refine Q4m rfl rfl ?_; refine zR3 (c := rto_c (t := e.yes) hx ⟨_, _, rfl, h1, h2⟩ hS) (h := ?_); rintro v1 w1 ⟨rfl, hS⟩; refine ZaE ?_)
 all_goals (first | (refine QC ?_) | (refine QJ ?_) | (refine Qj rfl rfl (fun hc => ?_) (fun hc => ?_)))
 all_goals (refine zn ?_)
 all_goals
  first
  | (refine zct ?_
     all_goals (refine Zbt ?_)
     all_goals (first | (refine ⟨_, rfl, ?_, hS.sp⟩; rw [if_pos (by omega)]; done) | (refine ⟨_, rfl, ?_, hS.sp⟩; rw [if_neg (by omega), if_pos (by omega)]; done) | (refine ⟨_, rfl, ?_, hS.sp⟩; rw [if_neg k1, if_neg k2, if_pos (by omega)]; done) | (refine ⟨_, rfl, ?_, hS.sp⟩; (rw [if_neg k1, if_neg k2, if_neg (by omega)]; first | rw [Q3G (by assumption)] | (rw [Classical.not_not.1 (by assumption : ¬ Q1r x.blocks.length e.yes (decide (e.op ≠ 3)) ≠ 0), Q3s])); done)))
  | (refine zcf ?_
     all_goals refine zsk ?_)
 all_goals (refine Zaa ?_; refine zv hS ?_; refine zf0 ?_; refine zv hS ?_; refine zf0 ?_; refine zl hS ?_; refine Q5Y rfl rfl ?_; refine zR3 (c := rto_c (t := e.no) hx ⟨_, _, rfl, h3, h4⟩ hS) (h := ?_); rintro v1 w1 ⟨rfl, hS⟩; refine Zah ?_; (first | (refine ⟨_, rfl, ?_, hS.sp⟩; rw [if_pos (by omega)]; done) | (refine ⟨_, rfl, ?_, hS.sp⟩; rw [if_neg (by omega), if_pos (by omega)]; done) | (refine ⟨_, rfl, ?_, hS.sp⟩; rw [if_neg k1, if_neg k2, if_pos (by omega)]; done) | (refine ⟨_, rfl, ?_, hS.sp⟩; (rw [if_neg k1, if_neg k2, if_neg (by omega)]; first | rw [Q3G (by assumption)] | (rw [Classical.not_not.1 (by assumption : ¬ Q1r x.blocks.length e.yes (decide (e.op ≠ 3)) ≠ 0), Q3s])); done)))
theorem Q91 {l : List Ty} {regs : Int} {v vf : Value} {g : Flt} {at' : Int} {b : Nat} (hl : tyR.sl cx v l) (hS : St cx w L) (hi : nth L i = some (jdg b vf g at')) :
 Rets Tryz.prog Q6r [.pointer (some ⟨b, 0, none⟩), v, .int .i64 regs] w fun u w' => u = .tuple #[] ∧ St cx w' (L.set i (jdg b vf (orF g (mkF (Qy l regs) at')) at')) := by
 have hS := hS.out hi
 have hlen := hl.len
 have e0 : orF g (mkF (Qy l regs) at') = orF g (mkF (orC (if 8 < l.length then 2 else 0) (Q2m regs l)) at') := by
  congr 2
  unfold Qy
  split
  · rw [Q3G (by decide)]
  · rw [Q3s]
 rw [e0]
 all_goals refine lgo tyD Tryz.func105 ?_
 refine zM [0, 1, 2] (fun A ρ' w' => Has ρ' A ∧ Has ρ' [] ∧ St cx w' (jdg b vf (orF g (mkF (if 8 < l.length then 2 else 0) at')) at' :: L.eraseIdx i)) ?_ ?_
 · skip
   all_goals (refine ZbX ?_; refine zL ?_)
   all_goals (first | (refine QG ?_) | (refine QL ?_) | (refine Qc rfl rfl (fun hc => ?_) (fun hc => ?_)))
   all_goals (refine zR3 (c := Q1Z (by intro _; decide) hS fd) (h := ?_); rintro v1 w1 ⟨rfl, hS⟩; simp only [List.set_cons_zero, List.set_cons_succ, if_true, Bool.false_eq_true, if_false] at hS; refine zn ?_; exact ⟨zh, zh, by first | (rw [if_pos (by omega)]; exact hS.sp) | (rw [if_neg (by omega)]; exact hS.sp)⟩)
 rintro ρ w1 ⟨hA, hρ, hS⟩; obtain ⟨ρ, rfl⟩ := env2 hA hρ
 all_goals (refine Zad ?_; refine zL ?_; refine ZaC ?_)
 refine zo [0, 2, 14, 15] (fun A ρ' w' => ∃ (j : Nat) (h : Flt), Has ρ' A ∧ Has ρ' [(16, .int .i64 j)] ∧ (j ≤ l.length) ∧ (orF g (mkF (orC (if 8 < l.length then 2 else 0) (Q2m regs l)) at') = orF h (mkF (Q2m regs (l.drop j)) at')) ∧ St cx w' (jdg b vf h at' :: L.eraseIdx i)) (fun ρ' _ => (l.length - iv (ρ' 16)).toNat) ?_ ?_
 · exact ⟨0, _, zh, zh, (by omega), by rw [List.drop_zero, Q2c], hS.sp⟩
 rintro ρ w1 ⟨j, h, hA, hρ, hj, hd, hS⟩; obtain ⟨ρ, rfl⟩ := env2 hA hρ
 all_goals (refine ZbH ?_)
 refine Qt rfl (fun hc => ?_) (fun hc => ?_)
 · skip
   all_goals (refine Zbn ?_; refine zi ?_; intro b1 o1 cs1 x1 hat1 hx1 he1; obtain ⟨vl1, rfl, hl1⟩ := QX he1; refine Zas ?_; intro p7 w1 hS; refine zsn hS ?_; intro w1 hS; have hS := hS.ns; refine ZaS ?_; refine zv hS ?_; refine zm ?_; refine zR2 (c := tcheck_c (by assumption) hS) (h := ?_); rintro v1 w1 ⟨rfl, hS⟩; refine Zac ?_; refine ZbX ?_; refine Q4m rfl rfl ?_; refine zm ?_; refine zR3 (c := Q1Z (by intro h; exact of_decide_eq_true h) hS fd) (h := ?_); rintro v1 w1 ⟨rfl, hS⟩; simp only [List.set_cons_zero, List.set_cons_succ, fault_if] at hS; refine zn ?_; refine Qn ?_; refine zad ?_; refine Zac ?_; exact ⟨⟨j + 1, _, zh, zh, (by omega), by rw [hd, Q2 hx1, Q2m, ← Q2c], hS.sp⟩, Qu (by omega)⟩)
 · skip
   all_goals (refine zex ?_; refine Q1j ?_; refine ⟨_, rfl, rfl, ?_⟩; rw [hd, List.drop_of_length_le (by omega), Q2m, Q1S, Qar rfl]; exact St.back hS hi)
def fltV (g : Flt) : Value := .agg ⟨[.int .i64 g.1, .int .i64 g.2]⟩
theorem rblock_c {m : Module} {f b : Nat} {x : Fun} {y : Block} (hxf : m.funcs[f]? = some x) (hyb : x.blocks[b]? = some y) (hf0 : f ≤ 1000000) (hb0 : b ≤ 1000000) (hlc : y.code.length ≤ 100000) {cs : List Value} (hm : modR.at cx cs m) (hS : St cx w L) :
 Rets Tryz.prog Q8p [.agg ⟨cs⟩, .int .i64 f, .int .i64 b] w fun u w' => u = fltV (QO m.funcs.length f x b y) ∧ St cx w' L := by
 have hm' := hm
 obtain ⟨vf, rfl, hf⟩ := Q1k hm
 have hflt := (List.getElem?_eq_some_iff.1 hxf).1
 have hblt := (List.getElem?_eq_some_iff.1 hyb).1
 all_goals refine lgo tyD Tryz.func68 ?_
 all_goals (refine Zaz ?_; intro p3 w1 hS; refine Qg hS ?_; intro p6 w1 hS; refine ZaS ?_; refine zf0 ?_; refine zl hS ?_; refine zm ?_; refine zi ?_; intro b1 o1 cs1 x1 hat1 hx1 he1; obtain ⟨vp1, vr1, vb1, rfl, hp1, hr1, hb1⟩ := Qv he1; refine Zas ?_; intro p7 w1 hS; refine zsn hS ?_; intro w1 hS; have hS := hS.ns; refine zn ?_; have e1 : x = x1 := Option.some.inj (hxf.symm.trans hx1); subst e1; refine Zaa ?_; refine zf0 ?_; refine zl hS ?_; refine zm ?_; refine zi ?_; intro b2 o2 cs2 x2 hat2 hx2 he2; obtain ⟨vp2, vc2, ve21, ve22, ve23, ve24, ve25, rfl, hp2, hc2, he21, he22, he23, he24, he25⟩ := Q13 he2; refine Zas ?_; intro p8 w1 hS; refine zsn hS ?_; intro w1 hS; have hS := hS.ns; refine zn ?_; have e2 : y = x2 := Option.some.inj (hyb.symm.trans hx2); subst e2; refine Zbv ?_)
 all_goals (refine Qn ?_; refine zf0 ?_; refine zl hS ?_; refine zf0 ?_; refine zl hS ?_)
 all_goals (first | (refine Q1c ?_) | (refine Q1l ?_) | (refine QB rfl rfl (fun hc => ?_) (fun hc => ?_)))
 all_goals (refine zm ?_; (first | refine zgn ?_ | (refine zgy ?_; refine zf0 ?_)); (first | refine zgn ?_ | (refine zgy ?_; refine zl hS ?_)))
 all_goals (first | refine zgn ?_ | (refine zgy ?_; (first | (refine QG ?_) | (refine QL ?_) | (refine Qc rfl rfl (fun hc => ?_) (fun hc => ?_)))))
 all_goals (refine Zaf ?_)
 all_goals
  first
  | (refine zct ?_
     all_goals (refine Zby ?_; refine zR2 (c := Q40 f b hf0 hb0 hS) (h := ?_); rintro v1 w1 ⟨rfl, hS⟩; refine zR2 (c := rF_c hS) (h := ?_); rintro v1 w1 ⟨rfl, hS⟩; refine zsn hS ?_; intro w1 hS; have hS := hS.ns; refine ZaX ?_; refine Q19 vw (Q4 (n := 2) (by kernel_rfl) (by kernel_rfl) (hS.blkAt fd) (by rfl) (by rfl)) ?_)
     all_goals (refine ⟨_, rfl, ?_, hS.sp⟩; rw [Q1u (c := 1) (by unfold Qw; rw [if_pos (by omega)]) (by decide)]; rfl; done))
  | (refine zcf ?_
     all_goals refine zsk ?_)
 all_goals (refine Zav ?_; refine zf0 ?_; refine zl hS ?_; refine zf0 ?_; refine zl hS ?_; refine zR2 (c := Q8V (by assumption) hS) (h := ?_); rintro v1 w1 ⟨rfl, hS⟩; refine ZaE ?_)
 all_goals (first | (refine QC ?_) | (refine QJ ?_) | (refine Qj rfl rfl (fun hc => ?_) (fun hc => ?_)))
 all_goals (refine zn ?_)
 all_goals
  first
  | (refine zct ?_
     all_goals (refine Zad ?_; refine ZaO ?_; refine zR2 (c := Q40 f b hf0 hb0 hS) (h := ?_); rintro v1 w1 ⟨rfl, hS⟩; refine zR2 (c := rF_c hS) (h := ?_); rintro v1 w1 ⟨rfl, hS⟩; refine zsn hS ?_; intro w1 hS; have hS := hS.ns; refine ZaX ?_; refine Q19 vw (Q4 (n := 2) (by kernel_rfl) (by kernel_rfl) (hS.blkAt fd) (by rfl) (by rfl)) ?_)
     all_goals (first | (refine ⟨_, rfl, ?_, hS.sp⟩; rw [Q1u (c := 1) (by unfold Qw; rw [if_pos (by omega)]) (by decide)]; rfl; done) | (refine ⟨_, rfl, ?_, hS.sp⟩; rw [Q1u (c := Qy y.params y.regs) (by unfold Qw; rw [if_neg (by omega), if_pos (by assumption)]) (by assumption)]; rfl; done)))
  | (refine zcf ?_
     all_goals refine zsk ?_)
 all_goals (refine Zav ?_)
 refine zKL hS 17 [1, 2, 3, 6, 7, 8] (fun A LL ρ' w' => ∃ (q : Bool), Has ρ' A ∧ Has ρ' [(65, .bool q)] ∧ (q = true ↔ (b = 0 ∧ (y.regs ≠ x.regs ∨ y.params ≠ x.params))) ∧ St cx w' (LL)) ?_ ?_
 · skip
   all_goals (refine zm ?_)
   all_goals (first | (refine Qd ?_) | (refine Qh ?_) | (refine Q6 rfl rfl (fun hc => ?_) (fun hc => ?_)))
   all_goals (refine zm ?_; (first | refine zgn ?_ | (refine zgy ?_; refine zf0 ?_)); (first | refine zgn ?_ | (refine zgy ?_; refine zl hS ?_)); (first | refine zgn ?_ | (refine zgy ?_; refine zf0 ?_)); (first | refine zgn ?_ | (refine zgy ?_; refine zl hS ?_)))
   all_goals (first | refine zgn ?_ | (refine zgy ?_; (first | (refine QC ?_) | (refine QJ ?_) | (refine Qj rfl rfl (fun hc => ?_) (fun hc => ?_)))))
   all_goals ((first | refine zgn ?_ | (refine Zam ?_)); (first | refine zgn ?_ | (refine zgy ?_; refine zf0 ?_)); (first | refine zgn ?_ | (refine zgy ?_; refine zl hS ?_)); (first | refine zgn ?_ | (refine zgy ?_; refine zf0 ?_)); (first | refine zgn ?_ | (refine zgy ?_; refine zl hS ?_)))
   all_goals (first | refine zgn ?_ | (refine zgy ?_; refine zR2 (c := Q3Z hp2 hp1 hS) (h := ?_); rintro v1 w1 ⟨rfl, hS⟩; (cases hdec : decide (y.params = x.params)); have hg := of_decide_eq_false hdec; rotate_left; have hg := of_decide_eq_true hdec; all_goals skip))
   all_goals ((first | refine zgn ?_ | (refine ZaP ?_)); (first | refine zgn ?_ | (refine ZaB ?_)); refine Zbq ?_)
   all_goals (first | (exact ⟨_, zh, zh, by exact ⟨fun _ => ⟨by omega, .inl (by assumption)⟩, fun _ => rfl⟩, hS.sp⟩) | (exact ⟨_, zh, zh, by exact ⟨fun _ => ⟨by omega, .inr (by assumption)⟩, fun _ => rfl⟩, hS.sp⟩) | (exact ⟨_, zh, zh, by exact ⟨fun h => Bool.noConfusion h, fun h => absurd h.1 (by omega)⟩, hS.sp⟩) | (exact ⟨_, zh, zh, by exact ⟨fun h => Bool.noConfusion h, fun h => h.2.elim (fun h => absurd h (by assumption)) (fun h => absurd (by assumption) h)⟩, hS.sp⟩))
 rintro ρ w1 ⟨q, hA, hρ, hq, hS⟩; obtain ⟨ρ, rfl⟩ := env2 hA hρ
 all_goals (refine zn ?_)
 all_goals (cases q)
 all_goals
  first
  | (refine zct ?_
     all_goals (refine Zby ?_; refine zR2 (c := Q40 f b hf0 hb0 hS) (h := ?_); rintro v1 w1 ⟨rfl, hS⟩; refine zR2 (c := rF_c hS) (h := ?_); rintro v1 w1 ⟨rfl, hS⟩; refine zsn hS ?_; intro w1 hS; have hS := hS.ns; refine ZaX ?_; refine Q19 vw (Q4 (n := 2) (by kernel_rfl) (by kernel_rfl) (hS.blkAt fd) (by rfl) (by rfl)) ?_)
     all_goals (first | (refine ⟨_, rfl, ?_, hS.sp⟩; rw [Q1u (c := 1) (by unfold Qw; rw [if_pos (by omega)]) (by decide)]; rfl; done) | (refine ⟨_, rfl, ?_, hS.sp⟩; rw [Q1u (c := Qy y.params y.regs) (by unfold Qw; rw [if_neg (by omega), if_pos (by assumption)]) (by assumption)]; rfl; done) | (refine ⟨_, rfl, ?_, hS.sp⟩; rw [Q1u (c := 9) (by unfold Qw; rw [if_neg (by omega), if_neg (by omega), if_pos (hq.1 rfl)]) (by decide)]; rfl; done)))
  | (refine zcf ?_
     all_goals refine zsk ?_)
 refine zML hS [1, 2, 3, 6, 7, 8] (fun A LL ρ' w' => Has ρ' A ∧ Has ρ' [] ∧ (Qw x b y = 0) ∧ St cx w' (LL)) ?_ ?_
 · skip
   all_goals (refine Zaa ?_; refine zf0 ?_; refine zl hS ?_; refine zL ?_)
   all_goals (first | (refine QG ?_) | (refine QL ?_) | (refine Qc rfl rfl (fun hc => ?_) (fun hc => ?_)))
   all_goals (refine zn ?_)
   all_goals
    first
    | (refine zct ?_
       all_goals (refine Zby ?_; refine zR2 (c := Q40 f b hf0 hb0 hS) (h := ?_); rintro v1 w1 ⟨rfl, hS⟩; refine zR2 (c := rF_c hS) (h := ?_); rintro v1 w1 ⟨rfl, hS⟩; refine zsn hS ?_; intro w1 hS; have hS := hS.ns; refine ZaX ?_; refine Q19 vw (Q4 (n := 2) (by kernel_rfl) (by kernel_rfl) (hS.blkAt fd) (by rfl) (by rfl)) ?_)
       all_goals (first | (refine ⟨_, rfl, ?_, hS.sp⟩; rw [Q1u (c := 1) (by unfold Qw; rw [if_pos (by omega)]) (by decide)]; rfl; done) | (refine ⟨_, rfl, ?_, hS.sp⟩; rw [Q1u (c := Qy y.params y.regs) (by unfold Qw; rw [if_neg (by omega), if_pos (by assumption)]) (by assumption)]; rfl; done) | (refine ⟨_, rfl, ?_, hS.sp⟩; rw [Q1u (c := 9) (by unfold Qw; rw [if_neg (by omega), if_neg (by omega), if_pos (hq.1 rfl)]) (by decide)]; rfl; done) | (refine ⟨_, rfl, ?_, hS.sp⟩; rw [Q1u (c := 2) (by unfold Qw; rw [if_neg (by omega), if_neg (by omega), if_neg (fun h => Bool.noConfusion (hq.2 h)), if_pos (by omega)]) (by decide)]; rfl; done)))
    | (refine zcf ?_
       all_goals refine zsk ?_)
   all_goals (exact ⟨zh, zh, by unfold Qw; rw [if_neg (by omega), if_neg (by omega), if_neg (fun h => Bool.noConfusion (hq.2 h)), if_neg (by omega)], hS.sp⟩)
 rintro ρ w1 ⟨hA, hρ, hh, hS⟩; obtain ⟨ρ, rfl⟩ := env2 hA hρ
 all_goals (refine Zbr ?_)
 refine zoL hS [1, 2, 3, 6, 7, 8] (fun A LL ρ' w' => ∃ (j : Nat), Has ρ' A ∧ Has ρ' [(10, .int .i64 j)] ∧ (j ≤ y.code.length) ∧ (Q11 m.funcs.length f b 0 y.code = Q11 m.funcs.length f b j (y.code.drop j)) ∧ St cx w' (LL)) (fun ρ' _ => (y.code.length - iv (ρ' 10)).toNat) ?_ ?_
 · exact ⟨0, zh, zh, (by omega), by simp, hS.sp⟩
 rintro ρ w1 ⟨j, hA, hρ, hj, hd, hS⟩; obtain ⟨ρ, rfl⟩ := env2 hA hρ
 all_goals (refine ZaA ?_; refine zf0 ?_; refine zl hS ?_; refine zL ?_; refine Zau ?_)
 refine Qt rfl (fun hc => ?_) (fun hc => ?_)
 · skip
   all_goals (refine ZbL ?_; refine zD (ci 8 [6, 7]) ?_; have hS := hS.drew; refine zv hS ?_; refine zf0 ?_; refine zl hS ?_; refine zm ?_; refine zi ?_; intro b3 o3 cs3 x3 hat3 hx3 he3; obtain ⟨vr3, va3, rfl, hr3, ha3⟩ := Q1a he3; (first | (refine zv hS ?_) | (refine zvk hS ?_)); refine zR2 (c := rins_c hm' (by assumption) hS) (h := ?_); rintro v1 w1 ⟨rfl, hS⟩; refine ZaE ?_)
   all_goals (first | (refine QC ?_) | (refine QJ ?_) | (refine Qj rfl rfl (fun hc => ?_) (fun hc => ?_)))
   all_goals (refine zn ?_)
   all_goals
    first
    | (refine zct ?_
       all_goals (refine Zad ?_; refine ZaO ?_; refine zm ?_; refine zR3 (c := Q9T f b j hf0 hb0 (by omega) hS) (h := ?_); rintro v1 w1 ⟨rfl, hS⟩; refine zR2 (c := rF_c hS) (h := ?_); rintro v1 w1 ⟨rfl, hS⟩; refine zsn hS ?_; intro w1 hS; have hS := hS.ns; refine ZaX ?_; refine Q19 vw (Q4 (n := 2) (by kernel_rfl) (by kernel_rfl) (hS.blkAt fd) (by rfl) (by rfl)) ?_)
       all_goals (first | (refine ⟨_, rfl, ?_, hS.sp⟩; rw [Q1u (c := 1) (by unfold Qw; rw [if_pos (by omega)]) (by decide)]; rfl; done) | (refine ⟨_, rfl, ?_, hS.sp⟩; rw [Q1u (c := Qy y.params y.regs) (by unfold Qw; rw [if_neg (by omega), if_pos (by assumption)]) (by assumption)]; rfl; done) | (refine ⟨_, rfl, ?_, hS.sp⟩; rw [Q1u (c := 9) (by unfold Qw; rw [if_neg (by omega), if_neg (by omega), if_pos (hq.1 rfl)]) (by decide)]; rfl; done) | (refine ⟨_, rfl, ?_, hS.sp⟩; rw [Q1u (c := 2) (by unfold Qw; rw [if_neg (by omega), if_neg (by omega), if_neg (fun h => Bool.noConfusion (hq.2 h)), if_pos (by omega)]) (by decide)]; rfl; done) | (refine ⟨_, rfl, ?_, hS.sp⟩; rw [Q9h (F := (Q1g m.funcs.length x3, Q4Y f b j)) hh (by rw [hd, Q2 hx3, Q2Z (by assumption)]) (by assumption)]; rfl; done)))
    | (refine zcf ?_
       all_goals refine zsk ?_)
   all_goals (refine Zak ?_; refine zad ?_; refine Zac ?_; exact ⟨⟨j + 1, zh, zh, (by omega), by rw [hd, Q2 hx3, Q6M (by omega)], hS.sp⟩, Qu (by omega)⟩)
 · skip
   all_goals (refine zex ?_; refine Zav ?_; refine zv hS ?_; refine zf0 ?_; refine zv hS ?_; refine zR2 (c := rend_c (e := y.fin) he1 ⟨_, _, _, _, _, rfl, he21, he22, he23, he24, he25⟩ hS) (h := ?_); rintro v1 w1 ⟨rfl, hS⟩; refine ZaE ?_)
   all_goals (first | (refine QC ?_) | (refine QJ ?_) | (refine Qj rfl rfl (fun hc => ?_) (fun hc => ?_)))
   all_goals (refine zn ?_)
   all_goals
    first
    | (refine zct ?_
       all_goals (refine Zad ?_; refine ZaO ?_; refine zR2 (c := Q9U f b hf0 hb0 hS) (h := ?_); rintro v1 w1 ⟨rfl, hS⟩; refine zR2 (c := rF_c hS) (h := ?_); rintro v1 w1 ⟨rfl, hS⟩; refine zsn hS ?_; intro w1 hS; have hS := hS.ns; refine ZaX ?_; refine Q19 vw (Q4 (n := 2) (by kernel_rfl) (by kernel_rfl) (hS.blkAt fd) (by rfl) (by rfl)) ?_)
       all_goals (first | (refine ⟨_, rfl, ?_, hS.sp⟩; rw [Q1u (c := 1) (by unfold Qw; rw [if_pos (by omega)]) (by decide)]; rfl; done) | (refine ⟨_, rfl, ?_, hS.sp⟩; rw [Q1u (c := Qy y.params y.regs) (by unfold Qw; rw [if_neg (by omega), if_pos (by assumption)]) (by assumption)]; rfl; done) | (refine ⟨_, rfl, ?_, hS.sp⟩; rw [Q1u (c := 9) (by unfold Qw; rw [if_neg (by omega), if_neg (by omega), if_pos (hq.1 rfl)]) (by decide)]; rfl; done) | (refine ⟨_, rfl, ?_, hS.sp⟩; rw [Q1u (c := 2) (by unfold Qw; rw [if_neg (by omega), if_neg (by omega), if_neg (fun h => Bool.noConfusion (hq.2 h)), if_pos (by omega)]) (by decide)]; rfl; done) | (refine ⟨_, rfl, ?_, hS.sp⟩; rw [Q9h (F := (Q1g m.funcs.length x3, Q4Y f b j)) hh (by rw [hd, Q2 hx3, Q2Z (by assumption)]) (by assumption)]; rfl; done) | (refine ⟨_, rfl, ?_, hS.sp⟩; (rw [bf_end hh (by rw [hd, List.drop_of_length_le (by omega), Q11])]; first | (rw [Q4I (by assumption)]; rfl) | (rw [show Q1I x.blocks.length y.fin = 0 by omega, Q1S]; rfl)); done)))
    | (refine zcf ?_
       all_goals refine zsk ?_)
   all_goals (refine Zaa ?_; refine zb0 [_, _] ?_; refine zsn hS ?_; intro w1 hS; have hS := hS.ns; refine ZaX ?_; refine Q19 vw (Q4 (n := 2) (by kernel_rfl) (by kernel_rfl) (hS.blkAt fd) (by rfl) (by rfl)) ?_)
   all_goals (first | (refine ⟨_, rfl, ?_, hS.sp⟩; rw [Q1u (c := 1) (by unfold Qw; rw [if_pos (by omega)]) (by decide)]; rfl; done) | (refine ⟨_, rfl, ?_, hS.sp⟩; rw [Q1u (c := Qy y.params y.regs) (by unfold Qw; rw [if_neg (by omega), if_pos (by assumption)]) (by assumption)]; rfl; done) | (refine ⟨_, rfl, ?_, hS.sp⟩; rw [Q1u (c := 9) (by unfold Qw; rw [if_neg (by omega), if_neg (by omega), if_pos (hq.1 rfl)]) (by decide)]; rfl; done) | (refine ⟨_, rfl, ?_, hS.sp⟩; rw [Q1u (c := 2) (by unfold Qw; rw [if_neg (by omega), if_neg (by omega), if_neg (fun h => Bool.noConfusion (hq.2 h)), if_pos (by omega)]) (by decide)]; rfl; done) | (refine ⟨_, rfl, ?_, hS.sp⟩; rw [Q9h (F := (Q1g m.funcs.length x3, Q4Y f b j)) hh (by rw [hd, Q2 hx3, Q2Z (by assumption)]) (by assumption)]; rfl; done) | (refine ⟨_, rfl, ?_, hS.sp⟩; (rw [bf_end hh (by rw [hd, List.drop_of_length_le (by omega), Q11])]; first | (rw [Q4I (by assumption)]; rfl) | (rw [show Q1I x.blocks.length y.fin = 0 by omega, Q1S]; rfl)); done))
theorem Q9R {m : Module} (hsh : m.Short) {cs : List Value} (hm : modR.at cx cs m) (hS : St cx w L) :
 Rets Tryz.prog Q9t [.agg ⟨cs⟩] w fun u w' => u = fltV m.fault ∧ St cx w' L := by
 have hm' := hm
 obtain ⟨vf, rfl, hf⟩ := Q1k hm
 have hlf := hf.len
 have hsf := hsh.2
 unfold Module.fault
 all_goals refine lgo tyD Tryz.func21 ?_
 all_goals (refine Zaz ?_; intro p1 w1 hS; refine Qg hS ?_; intro p2 w1 hS; refine zn ?_)
 refine zML hS [1, 2] (fun A LL ρ' w' => Has ρ' A ∧ Has ρ' [] ∧ (1 ≤ m.funcs.length ∧ m.funcs.length ≤ 8) ∧ St cx w' (LL)) ?_ ?_
 · skip
   all_goals (refine Zaa ?_; refine zf0 ?_; refine zl hS ?_; refine zL ?_)
   all_goals (first | (refine Q1c ?_) | (refine Q1l ?_) | (refine QB rfl rfl (fun hc => ?_) (fun hc => ?_)))
   all_goals (refine zm ?_; (first | refine zgn ?_ | (refine zgy ?_; refine zf0 ?_)); (first | refine zgn ?_ | (refine zgy ?_; refine zl hS ?_)); (first | refine zgn ?_ | (refine zgy ?_; refine zL ?_)))
   all_goals (first | refine zgn ?_ | (refine zgy ?_; (first | (refine QG ?_) | (refine QL ?_) | (refine Qc rfl rfl (fun hc => ?_) (fun hc => ?_)))))
   all_goals (refine Zaf ?_)
   all_goals
    first
    | (refine zct ?_
       all_goals (refine Zaa ?_; refine zR2 (c := rF_c hS) (h := ?_); rintro v1 w1 ⟨rfl, hS⟩; refine zsn hS ?_; intro w1 hS; have hS := hS.ns; refine ZaX ?_; refine Q19 vw (Q4 (n := 2) (by kernel_rfl) (by kernel_rfl) (hS.blkAt fd) (by rfl) (by rfl)) ?_)
       all_goals (refine ⟨_, rfl, ?_, hS.sp⟩; rw [if_pos (by omega), Q3r (by rw [Q21]; decide), Q4I (by decide)]; rfl; done))
    | (refine zcf ?_
       all_goals refine zsk ?_)
   all_goals (exact ⟨zh, zh, by omega, hS.sp⟩)
 rintro ρ w1 ⟨hA, hρ, hl8, hS⟩; obtain ⟨ρ, rfl⟩ := env2 hA hρ
 all_goals (refine Zbr ?_)
 refine zoL hS [1, 2] (fun A LL ρ' w' => ∃ (f : Nat), Has ρ' A ∧ Has ρ' [(3, .int .i64 f)] ∧ (f ≤ m.funcs.length) ∧ (Q1h m.funcs.length 0 m.funcs = Q1h m.funcs.length f (m.funcs.drop f)) ∧ St cx w' (LL)) (fun ρ' _ => (m.funcs.length - iv (ρ' 3)).toNat) ?_ ?_
 · exact ⟨0, zh, zh, (by omega), by simp, hS.sp⟩
 rintro ρ w1 ⟨f, hA, hρ, hj, hd, hS⟩; obtain ⟨ρ, rfl⟩ := env2 hA hρ
 all_goals (refine ZaA ?_; refine zf0 ?_; refine zl hS ?_; refine zL ?_; refine Zau ?_)
 refine Qt rfl (fun hc => ?_) (fun hc => ?_)
 · skip
   all_goals (refine Zbn ?_; refine zf0 ?_; refine zl hS ?_; refine zm ?_; refine zi ?_; intro b1 o1 cs1 x1 hat1 hx1 he1; obtain ⟨vp1, vr1, vb1, rfl, hp1, hr1, hb1⟩ := Qv he1; refine Zas ?_; intro p4 w1 hS; refine zsn hS ?_; intro w1 hS; have hS := hS.ns; refine zn ?_; have hsx := hsf x1 (List.mem_of_getElem? hx1); have hlb := hb1.len; have hlr := hr1.len; refine Zav ?_; refine zf0 ?_; refine zl hS ?_)
   all_goals (first | (refine Q1c ?_) | (refine Q1l ?_) | (refine QB rfl rfl (fun hc => ?_) (fun hc => ?_)))
   all_goals (refine zm ?_; (first | refine zgn ?_ | (refine zgy ?_; refine zf0 ?_)); (first | refine zgn ?_ | (refine zgy ?_; refine zl hS ?_)))
   all_goals (first | refine zgn ?_ | (refine zgy ?_; (first | (refine QG ?_) | (refine QL ?_) | (refine Qc rfl rfl (fun hc => ?_) (fun hc => ?_)))))
   all_goals (refine Zaf ?_)
   all_goals
    first
    | (refine zct ?_
       all_goals (refine Zad ?_; refine zR1 (c := Q3C f (by omega) hS) (h := ?_); rintro v1 w1 ⟨rfl, hS⟩; refine zR2 (c := rF_c hS) (h := ?_); rintro v1 w1 ⟨rfl, hS⟩; refine zsn hS ?_; intro w1 hS; have hS := hS.ns; refine ZaX ?_; refine Q19 vw (Q4 (n := 2) (by kernel_rfl) (by kernel_rfl) (hS.blkAt fd) (by rfl) (by rfl)) ?_)
       all_goals (first | (refine ⟨_, rfl, ?_, hS.sp⟩; rw [if_pos (by omega), Q3r (by rw [Q21]; decide), Q4I (by decide)]; rfl; done) | (refine ⟨_, rfl, ?_, hS.sp⟩; rw [if_neg (by omega), Q1S, Q1R Qr, hd, Q2 hx1]; rw [Qe (by rw [Q10 (c := 1) (by unfold QD; rw [if_pos (by omega)]) (by decide)]; simp), Q10 (c := 1) (by unfold QD; rw [if_pos (by omega)]) (by decide)]; rfl; done)))
    | (refine zcf ?_
       all_goals refine zsk ?_)
   all_goals (refine Zav ?_; refine zf0 ?_; refine zl hS ?_; refine zf0 ?_; refine zl hS ?_; refine zR2 (c := Q8V hp1 hS) (h := ?_); rintro v1 w1 ⟨rfl, hS⟩; refine ZaE ?_)
   all_goals (first | (refine QC ?_) | (refine QJ ?_) | (refine Qj rfl rfl (fun hc => ?_) (fun hc => ?_)))
   all_goals (refine zn ?_)
   all_goals
    first
    | (refine zct ?_
       all_goals (refine Zby ?_; refine zR1 (c := Q3C f (by omega) hS) (h := ?_); rintro v1 w1 ⟨rfl, hS⟩; refine zR2 (c := rF_c hS) (h := ?_); rintro v1 w1 ⟨rfl, hS⟩; refine zsn hS ?_; intro w1 hS; have hS := hS.ns; refine ZaX ?_; refine Q19 vw (Q4 (n := 2) (by kernel_rfl) (by kernel_rfl) (hS.blkAt fd) (by rfl) (by rfl)) ?_)
       all_goals (first | (refine ⟨_, rfl, ?_, hS.sp⟩; rw [if_pos (by omega), Q3r (by rw [Q21]; decide), Q4I (by decide)]; rfl; done) | (refine ⟨_, rfl, ?_, hS.sp⟩; rw [if_neg (by omega), Q1S, Q1R Qr, hd, Q2 hx1]; rw [Qe (by rw [Q10 (c := 1) (by unfold QD; rw [if_pos (by omega)]) (by decide)]; simp), Q10 (c := 1) (by unfold QD; rw [if_pos (by omega)]) (by decide)]; rfl; done) | (refine ⟨_, rfl, ?_, hS.sp⟩; have e := Q10 (n := m.funcs.length) (f := f) (x := x1) (c := Qy x1.params x1.regs) (by unfold QD; rw [if_neg (by omega), if_pos (by assumption)]) (by assumption); rw [if_neg (by omega), Q1S, Q1R Qr, hd, Q2 hx1, Qe (by rw [e]; assumption), e]; rfl; done)))
    | (refine zcf ?_
       all_goals refine zsk ?_)
   all_goals (refine Zav ?_; refine zf0 ?_; refine zl hS ?_; refine zf0 ?_; refine zl hS ?_; refine zR2 (c := Q8V hr1 hS) (h := ?_); rintro v1 w1 ⟨rfl, hS⟩; refine ZaE ?_)
   all_goals (first | (refine QC ?_) | (refine QJ ?_) | (refine Qj rfl rfl (fun hc => ?_) (fun hc => ?_)))
   all_goals (refine zn ?_)
   all_goals
    first
    | (refine zct ?_
       all_goals (refine Zby ?_; refine zR1 (c := Q3C f (by omega) hS) (h := ?_); rintro v1 w1 ⟨rfl, hS⟩; refine zR2 (c := rF_c hS) (h := ?_); rintro v1 w1 ⟨rfl, hS⟩; refine zsn hS ?_; intro w1 hS; have hS := hS.ns; refine ZaX ?_; refine Q19 vw (Q4 (n := 2) (by kernel_rfl) (by kernel_rfl) (hS.blkAt fd) (by rfl) (by rfl)) ?_)
       all_goals (first | (refine ⟨_, rfl, ?_, hS.sp⟩; rw [if_pos (by omega), Q3r (by rw [Q21]; decide), Q4I (by decide)]; rfl; done) | (refine ⟨_, rfl, ?_, hS.sp⟩; rw [if_neg (by omega), Q1S, Q1R Qr, hd, Q2 hx1]; rw [Qe (by rw [Q10 (c := 1) (by unfold QD; rw [if_pos (by omega)]) (by decide)]; simp), Q10 (c := 1) (by unfold QD; rw [if_pos (by omega)]) (by decide)]; rfl; done) | (refine ⟨_, rfl, ?_, hS.sp⟩; have e := Q10 (n := m.funcs.length) (f := f) (x := x1) (c := Qy x1.params x1.regs) (by unfold QD; rw [if_neg (by omega), if_pos (by assumption)]) (by assumption); rw [if_neg (by omega), Q1S, Q1R Qr, hd, Q2 hx1, Qe (by rw [e]; assumption), e]; rfl; done) | (refine ⟨_, rfl, ?_, hS.sp⟩; have e := Q10 (n := m.funcs.length) (f := f) (x := x1) (c := Qy x1.results x1.regs) (by unfold QD; rw [if_neg (by omega), if_neg (by assumption), if_pos (by assumption)]) (by assumption); rw [if_neg (by omega), Q1S, Q1R Qr, hd, Q2 hx1, Qe (by rw [e]; assumption), e]; rfl; done)))
    | (refine zcf ?_
       all_goals refine zsk ?_)
   refine zML hS [1, 2, 3, 4] (fun A LL ρ' w' => Has ρ' A ∧ Has ρ' [] ∧ (¬ (x1.regs < 0 ∨ 6 < x1.regs)) ∧ (¬ Qy x1.params x1.regs ≠ 0) ∧ (¬ Qy x1.results x1.regs ≠ 0) ∧ (¬ (x1.blocks.length < 1 ∨ 12 < x1.blocks.length)) ∧ St cx w' (LL)) ?_ ?_
   · skip
     all_goals (refine Zaa ?_; refine zf0 ?_; refine zl hS ?_; refine zL ?_)
     all_goals (first | (refine Q1c ?_) | (refine Q1l ?_) | (refine QB rfl rfl (fun hc => ?_) (fun hc => ?_)))
     all_goals (refine zm ?_; (first | refine zgn ?_ | (refine zgy ?_; refine zf0 ?_)); (first | refine zgn ?_ | (refine zgy ?_; refine zl hS ?_)); (first | refine zgn ?_ | (refine zgy ?_; refine zL ?_)))
     all_goals (first | refine zgn ?_ | (refine zgy ?_; (first | (refine QG ?_) | (refine QL ?_) | (refine Qc rfl rfl (fun hc => ?_) (fun hc => ?_)))))
     all_goals (refine Zaf ?_)
     all_goals
      first
      | (refine zct ?_
         all_goals (refine Zad ?_; refine zR1 (c := Q3C f (by omega) hS) (h := ?_); rintro v1 w1 ⟨rfl, hS⟩; refine zR2 (c := rF_c hS) (h := ?_); rintro v1 w1 ⟨rfl, hS⟩; refine zsn hS ?_; intro w1 hS; have hS := hS.ns; refine ZaX ?_; refine Q19 vw (Q4 (n := 2) (by kernel_rfl) (by kernel_rfl) (hS.blkAt fd) (by rfl) (by rfl)) ?_)
         all_goals (first | (refine ⟨_, rfl, ?_, hS.sp⟩; rw [if_pos (by omega), Q3r (by rw [Q21]; decide), Q4I (by decide)]; rfl; done) | (refine ⟨_, rfl, ?_, hS.sp⟩; rw [if_neg (by omega), Q1S, Q1R Qr, hd, Q2 hx1]; rw [Qe (by rw [Q10 (c := 1) (by unfold QD; rw [if_pos (by omega)]) (by decide)]; simp), Q10 (c := 1) (by unfold QD; rw [if_pos (by omega)]) (by decide)]; rfl; done) | (refine ⟨_, rfl, ?_, hS.sp⟩; have e := Q10 (n := m.funcs.length) (f := f) (x := x1) (c := Qy x1.params x1.regs) (by unfold QD; rw [if_neg (by omega), if_pos (by assumption)]) (by assumption); rw [if_neg (by omega), Q1S, Q1R Qr, hd, Q2 hx1, Qe (by rw [e]; assumption), e]; rfl; done) | (refine ⟨_, rfl, ?_, hS.sp⟩; have e := Q10 (n := m.funcs.length) (f := f) (x := x1) (c := Qy x1.results x1.regs) (by unfold QD; rw [if_neg (by omega), if_neg (by assumption), if_pos (by assumption)]) (by assumption); rw [if_neg (by omega), Q1S, Q1R Qr, hd, Q2 hx1, Qe (by rw [e]; assumption), e]; rfl; done) | (refine ⟨_, rfl, ?_, hS.sp⟩; have e := Q10 (n := m.funcs.length) (f := f) (x := x1) (c := 2) (by unfold QD; rw [if_neg (by omega), if_neg (by assumption), if_neg (by assumption), if_pos (by omega)]) (by decide); rw [if_neg (by omega), Q1S, Q1R Qr, hd, Q2 hx1, Qe (by rw [e]; simp), e]; rfl; done)))
      | (refine zcf ?_
         all_goals refine zsk ?_)
     all_goals (exact ⟨zh, zh, by omega, by assumption, by assumption, by omega, hS.sp⟩)
   rintro ρ w1 ⟨hA, hρ, k1, k2, k3, k4, hS⟩; obtain ⟨ρ, rfl⟩ := env2 hA hρ
   refine zML hS [1, 2, 3, 4] (fun A LL ρ' w' => Has ρ' A ∧ Has ρ' [] ∧ (QD f x1 = 0) ∧ St cx w' (LL)) ?_ ?_
   · skip
     all_goals (refine Zad ?_)
     all_goals (first | (refine Qd ?_) | (refine Qh ?_) | (refine Q6 rfl rfl (fun hc => ?_) (fun hc => ?_)))
     all_goals (refine zn ?_)
     all_goals
      first
      | (refine zct ?_
         all_goals (refine Zaa ?_)
         refine zKL hS 9 [1, 2, 3, 4] (fun A LL ρ' w' => ∃ (q : Bool), Has ρ' A ∧ Has ρ' [(90, .bool q)] ∧ (q = true ↔ (x1.regs = 0 ∧ x1.params.length = 0)) ∧ St cx w' (LL)) ?_ ?_
         · skip
           all_goals (refine zf0 ?_; refine zl hS ?_)
           all_goals (first | (refine Qd ?_) | (refine Qh ?_) | (refine Q6 rfl rfl (fun hc => ?_) (fun hc => ?_)))
           all_goals (refine zm ?_; (first | refine zgn ?_ | (refine zgy ?_; refine zf0 ?_)); (first | refine zgn ?_ | (refine zgy ?_; refine zl hS ?_)); (first | refine zgn ?_ | (refine zgy ?_; refine zL ?_)))
           all_goals (first | refine zgn ?_ | (refine zgy ?_; (first | (refine Qd ?_) | (refine Qh ?_) | (refine Q6 rfl rfl (fun hc => ?_) (fun hc => ?_)))))
           all_goals (refine Zbq ?_)
           all_goals (first | (exact ⟨_, zh, zh, by exact ⟨fun _ => ⟨by omega, by omega⟩, fun _ => rfl⟩, hS.sp⟩) | (exact ⟨_, zh, zh, by exact ⟨fun h => Bool.noConfusion h, fun h => by omega⟩, hS.sp⟩))
         rintro ρ w1 ⟨q, hA, hρ, hq, hS⟩; obtain ⟨ρ, rfl⟩ := env2 hA hρ
         all_goals (refine ZbU ?_)
         refine zoL hS [1, 2, 3, 4] (fun A LL ρ' w' => ∃ (i : Nat) (q : Bool), Has ρ' A ∧ Has ρ' [(7, .bool q), (8, .int .i64 i)] ∧ (i ≤ x1.results.length) ∧ (q = true ↔ (x1.regs = 0 ∧ x1.params.length = 0 ∧ ∀ t ∈ x1.results.take i, t.kind = 1)) ∧ (f = 0) ∧ St cx w' (LL)) (fun ρ' _ => (x1.results.length - iv (ρ' 8)).toNat) ?_ ?_
         · exact ⟨0, q, zh, zh, (by omega), by rw [hq]; simp, by omega, hS.sp⟩
         rintro ρ w1 ⟨i, q, hA, hρ, hi, hq2, hf0, hS⟩; obtain ⟨ρ, rfl⟩ := env2 hA hρ
         all_goals (refine ZaA ?_; refine zf0 ?_; refine zl hS ?_; refine zL ?_; refine Zau ?_)
         refine Qt rfl (fun hc => ?_) (fun hc => ?_)
         · skip
           all_goals (refine ZaJ ?_)
           all_goals (cases q)
           all_goals (refine ZbX ?_; (first | refine zgn ?_ | (refine zgy ?_; refine zf0 ?_)); (first | refine zgn ?_ | (refine zgy ?_; refine zl hS ?_)); (first | refine zgn ?_ | (refine Zam ?_)); (first | refine zgn ?_ | (refine zgy ?_; refine zi ?_; intro b2 o2 cs2 x2 hat2 hx2 he2; obtain ⟨vl2, rfl, hl2⟩ := QX he2)); (first | refine zgn ?_ | (refine Zaj ?_)); (first | refine zgn ?_ | (refine zgy ?_; (first | (refine zl hS ?_) | (refine zlk hS ?_)))))
           all_goals (first | refine zgn ?_ | (refine zgy ?_; (first | (refine Qd ?_) | (refine Qh ?_) | (refine Q6 rfl rfl (fun hc => ?_) (fun hc => ?_)))))
           all_goals ((first | (refine zpt ?_) | (refine zpf ?_)); refine Zac ?_; refine Zak ?_; refine zad ?_; refine Zac ?_)
           all_goals (first | (exact ⟨⟨i + 1, false, zh, zh, (by omega), by exact ⟨fun h => Bool.noConfusion h, fun h => hq2.2 ⟨h.1, h.2.1, fun t ht => h.2.2 t (List.mem_of_mem_take (i := i) (by rw [List.take_take, Nat.min_eq_left (by omega)]; exact ht))⟩⟩, hf0, hS.sp⟩, Qu (by omega)⟩) | (exact ⟨⟨i + 1, true, zh, zh, (by omega), by exact ⟨fun _ => ⟨(hq2.1 rfl).1, (hq2.1 rfl).2.1, Q2S (hq2.1 rfl).2.2 hx2 (by assumption)⟩, fun _ => rfl⟩, hf0, hS.sp⟩, Qu (by omega)⟩) | (exact ⟨⟨i + 1, false, zh, zh, (by omega), by exact ⟨fun h => Bool.noConfusion h, fun h => absurd (h.2.2 x2 (by rw [Q28 hx2]; simp)) (by assumption)⟩, hf0, hS.sp⟩, Qu (by omega)⟩))
         · skip
           all_goals (refine zex ?_; refine Qb ?_)
           all_goals (cases q)
           all_goals (refine Zak ?_; refine Zba ?_)
           all_goals
            first
            | (refine zct ?_
               all_goals (refine Zad ?_; refine zR1 (c := Q3C f (by omega) hS) (h := ?_); rintro v1 w1 ⟨rfl, hS⟩; refine zR2 (c := rF_c hS) (h := ?_); rintro v1 w1 ⟨rfl, hS⟩; refine zsn hS ?_; intro w1 hS; have hS := hS.ns; refine ZaX ?_; refine Q19 vw (Q4 (n := 2) (by kernel_rfl) (by kernel_rfl) (hS.blkAt fd) (by rfl) (by rfl)) ?_)
               all_goals (first | (refine ⟨_, rfl, ?_, hS.sp⟩; rw [if_pos (by omega), Q3r (by rw [Q21]; decide), Q4I (by decide)]; rfl; done) | (refine ⟨_, rfl, ?_, hS.sp⟩; rw [if_neg (by omega), Q1S, Q1R Qr, hd, Q2 hx1]; rw [Qe (by rw [Q10 (c := 1) (by unfold QD; rw [if_pos (by omega)]) (by decide)]; simp), Q10 (c := 1) (by unfold QD; rw [if_pos (by omega)]) (by decide)]; rfl; done) | (refine ⟨_, rfl, ?_, hS.sp⟩; have e := Q10 (n := m.funcs.length) (f := f) (x := x1) (c := Qy x1.params x1.regs) (by unfold QD; rw [if_neg (by omega), if_pos (by assumption)]) (by assumption); rw [if_neg (by omega), Q1S, Q1R Qr, hd, Q2 hx1, Qe (by rw [e]; assumption), e]; rfl; done) | (refine ⟨_, rfl, ?_, hS.sp⟩; have e := Q10 (n := m.funcs.length) (f := f) (x := x1) (c := Qy x1.results x1.regs) (by unfold QD; rw [if_neg (by omega), if_neg (by assumption), if_pos (by assumption)]) (by assumption); rw [if_neg (by omega), Q1S, Q1R Qr, hd, Q2 hx1, Qe (by rw [e]; assumption), e]; rfl; done) | (refine ⟨_, rfl, ?_, hS.sp⟩; have e := Q10 (n := m.funcs.length) (f := f) (x := x1) (c := 2) (by unfold QD; rw [if_neg (by omega), if_neg (by assumption), if_neg (by assumption), if_pos (by omega)]) (by decide); rw [if_neg (by omega), Q1S, Q1R Qr, hd, Q2 hx1, Qe (by rw [e]; simp), e]; rfl; done) | (refine ⟨_, rfl, ?_, hS.sp⟩; have e := Q10 (n := m.funcs.length) (f := f) (x := x1) (c := 18) (by unfold QD; rw [if_neg k1, if_neg k2, if_neg k3, if_neg k4, if_pos]; refine ⟨hf0, ?_⟩; rw [List.take_of_length_le (by omega)] at hq2; refine Classical.byContradiction fun h => ?_; have := hq2.2 ⟨by omega, by omega, fun t ht => Classical.byContradiction fun hk => h (.inr (.inr ⟨t, ht, hk⟩))⟩; cases this) (by decide); rw [if_neg (by omega), Q1S, Q1R Qr, hd, Q2 hx1, Qe (by rw [e]; simp), e]; rfl; done)))
            | (refine zcf ?_
               all_goals refine zsk ?_)
           all_goals (first | (exact ⟨zh, zh, by unfold QD; rw [if_neg k1, if_neg k2, if_neg k3, if_neg k4, if_neg (fun h => absurd h.1 (by omega))], hS.sp⟩) | (exact ⟨zh, zh, by unfold QD; rw [if_neg k1, if_neg k2, if_neg k3, if_neg k4, if_neg]; rintro ⟨_, h⟩; obtain ⟨a1, a2, a3⟩ := hq2.1 rfl; rw [List.take_of_length_le (by omega)] at a3; rcases h with h | h | ⟨t, ht, hk⟩ <;> first | (exfalso; omega) | exact hk (a3 t ht), hS.sp⟩)))
      | (refine zcf ?_
         all_goals (refine zsk ?_)
         all_goals (exact ⟨zh, zh, by unfold QD; rw [if_neg k1, if_neg k2, if_neg k3, if_neg k4, if_neg (fun h => absurd h.1 (by omega))], hS.sp⟩))
   rintro ρ w1 ⟨hA, hρ, hh, hS⟩; obtain ⟨ρ, rfl⟩ := env2 hA hρ
   all_goals (refine Zaa ?_; refine ZaC ?_)
   refine zoL hS [1, 2, 3, 4] (fun A LL ρ' w' => ∃ (b : Nat), Has ρ' A ∧ Has ρ' [(9, .int .i64 b)] ∧ (b ≤ x1.blocks.length) ∧ (QP m.funcs.length f x1 0 x1.blocks = QP m.funcs.length f x1 b (x1.blocks.drop b)) ∧ St cx w' (LL)) (fun ρ' _ => (x1.blocks.length - iv (ρ' 9)).toNat) ?_ ?_
   · exact ⟨0, zh, zh, (by omega), by simp, hS.sp⟩
   rintro ρ w1 ⟨b, hA, hρ, hb, hd2, hS⟩; obtain ⟨ρ, rfl⟩ := env2 hA hρ
   all_goals (refine ZaA ?_; refine zf0 ?_; refine zl hS ?_; refine zL ?_; refine Zau ?_)
   refine Qt rfl (fun hc => ?_) (fun hc => ?_)
   · skip
     all_goals (refine ZbL ?_; obtain ⟨y, hy⟩ : ∃ y, x1.blocks[b]? = some y := ⟨_, List.getElem?_eq_getElem (by omega)⟩; have hsy := hsx.2.2.2 y (List.mem_of_getElem? hy); refine Qn ?_; refine zv hS ?_; refine ZaO ?_; refine zR3 (c := rblock_c hx1 hy (by omega) (by omega) hsy.2.1 hm' hS) (h := ?_); rintro v1 w1 ⟨rfl, hS⟩; unfold fltV; refine Qg hS ?_; intro p10 w1 hS; refine zsn hS ?_; intro w1 hS; have hS := hS.ns; refine ZaS ?_; refine zf0 ?_; refine zl hS ?_)
     all_goals (first | (refine QC ?_) | (refine QJ ?_) | (refine Qj rfl rfl (fun hc => ?_) (fun hc => ?_)))
     all_goals (refine zn ?_)
     all_goals
      first
      | (refine zct ?_
         all_goals (refine Zaa ?_; refine zv hS ?_; refine zsn hS ?_; intro w1 hS; have hS := hS.ns; refine ZaX ?_; refine Q19 vw (Q4 (n := 2) (by kernel_rfl) (by kernel_rfl) (hS.blkAt fd) (by rfl) (by rfl)) ?_)
         all_goals (first | (refine ⟨_, rfl, ?_, hS.sp⟩; rw [if_pos (by omega), Q3r (by rw [Q21]; decide), Q4I (by decide)]; rfl; done) | (refine ⟨_, rfl, ?_, hS.sp⟩; rw [if_neg (by omega), Q1S, Q1R Qr, hd, Q2 hx1]; rw [Qe (by rw [Q10 (c := 1) (by unfold QD; rw [if_pos (by omega)]) (by decide)]; simp), Q10 (c := 1) (by unfold QD; rw [if_pos (by omega)]) (by decide)]; rfl; done) | (refine ⟨_, rfl, ?_, hS.sp⟩; have e := Q10 (n := m.funcs.length) (f := f) (x := x1) (c := Qy x1.params x1.regs) (by unfold QD; rw [if_neg (by omega), if_pos (by assumption)]) (by assumption); rw [if_neg (by omega), Q1S, Q1R Qr, hd, Q2 hx1, Qe (by rw [e]; assumption), e]; rfl; done) | (refine ⟨_, rfl, ?_, hS.sp⟩; have e := Q10 (n := m.funcs.length) (f := f) (x := x1) (c := Qy x1.results x1.regs) (by unfold QD; rw [if_neg (by omega), if_neg (by assumption), if_pos (by assumption)]) (by assumption); rw [if_neg (by omega), Q1S, Q1R Qr, hd, Q2 hx1, Qe (by rw [e]; assumption), e]; rfl; done) | (refine ⟨_, rfl, ?_, hS.sp⟩; have e := Q10 (n := m.funcs.length) (f := f) (x := x1) (c := 2) (by unfold QD; rw [if_neg (by omega), if_neg (by assumption), if_neg (by assumption), if_pos (by omega)]) (by decide); rw [if_neg (by omega), Q1S, Q1R Qr, hd, Q2 hx1, Qe (by rw [e]; simp), e]; rfl; done) | (refine ⟨_, rfl, ?_, hS.sp⟩; have e := Q10 (n := m.funcs.length) (f := f) (x := x1) (c := 18) (by unfold QD; rw [if_neg k1, if_neg k2, if_neg k3, if_neg k4, if_pos]; refine ⟨hf0, ?_⟩; rw [List.take_of_length_le (by omega)] at hq2; refine Classical.byContradiction fun h => ?_; have := hq2.2 ⟨by omega, by omega, fun t ht => Classical.byContradiction fun hk => h (.inr (.inr ⟨t, ht, hk⟩))⟩; cases this) (by decide); rw [if_neg (by omega), Q1S, Q1R Qr, hd, Q2 hx1, Qe (by rw [e]; simp), e]; rfl; done) | (refine ⟨_, rfl, ?_, hS.sp⟩; have e : (QO m.funcs.length f x1 b y).1 ≠ 0 := (by assumption); have e2 : Q1G m.funcs.length f x1 = QO m.funcs.length f x1 b y := (by rw [Q6k hh, hd2, Q2 hy, Q3p e]); rw [if_neg (by omega), Q1S, Q1R Qr, hd, Q2 hx1, Qe (by rw [e2]; exact e), e2]; rfl; done)))
      | (refine zcf ?_
         all_goals refine zsk ?_)
     all_goals (refine Zak ?_; refine zad ?_; refine Zac ?_; exact ⟨⟨b + 1, zh, zh, (by omega), by rw [hd2, Q2 hy, Q5J (by omega)], hS.sp⟩, Qu (by omega)⟩)
   · skip
     all_goals (refine zex ?_; refine Zak ?_; refine zad ?_; refine Zac ?_; exact ⟨⟨f + 1, zh, zh, (by omega), by rw [hd, Q2 hx1, Q6J]; rw [Q6k hh, hd2, List.drop_of_length_le (by omega)]; rfl, hS.sp⟩, Qu (by omega)⟩)
 · skip
   all_goals (refine zex ?_; refine Zaa ?_; refine zb0 [_, _] ?_; refine zsn hS ?_; intro w1 hS; have hS := hS.ns; refine ZaX ?_; refine Q19 vw (Q4 (n := 2) (by kernel_rfl) (by kernel_rfl) (hS.blkAt fd) (by rfl) (by rfl)) ?_)
   all_goals (first | (refine ⟨_, rfl, ?_, hS.sp⟩; rw [if_pos (by omega), Q3r (by rw [Q21]; decide), Q4I (by decide)]; rfl; done) | (refine ⟨_, rfl, ?_, hS.sp⟩; rw [if_neg (by omega), Q1S, Q1R Qr, hd, Q2 hx1]; rw [Qe (by rw [Q10 (c := 1) (by unfold QD; rw [if_pos (by omega)]) (by decide)]; simp), Q10 (c := 1) (by unfold QD; rw [if_pos (by omega)]) (by decide)]; rfl; done) | (refine ⟨_, rfl, ?_, hS.sp⟩; have e := Q10 (n := m.funcs.length) (f := f) (x := x1) (c := Qy x1.params x1.regs) (by unfold QD; rw [if_neg (by omega), if_pos (by assumption)]) (by assumption); rw [if_neg (by omega), Q1S, Q1R Qr, hd, Q2 hx1, Qe (by rw [e]; assumption), e]; rfl; done) | (refine ⟨_, rfl, ?_, hS.sp⟩; have e := Q10 (n := m.funcs.length) (f := f) (x := x1) (c := Qy x1.results x1.regs) (by unfold QD; rw [if_neg (by omega), if_neg (by assumption), if_pos (by assumption)]) (by assumption); rw [if_neg (by omega), Q1S, Q1R Qr, hd, Q2 hx1, Qe (by rw [e]; assumption), e]; rfl; done) | (refine ⟨_, rfl, ?_, hS.sp⟩; have e := Q10 (n := m.funcs.length) (f := f) (x := x1) (c := 2) (by unfold QD; rw [if_neg (by omega), if_neg (by assumption), if_neg (by assumption), if_pos (by omega)]) (by decide); rw [if_neg (by omega), Q1S, Q1R Qr, hd, Q2 hx1, Qe (by rw [e]; simp), e]; rfl; done) | (refine ⟨_, rfl, ?_, hS.sp⟩; have e := Q10 (n := m.funcs.length) (f := f) (x := x1) (c := 18) (by unfold QD; rw [if_neg k1, if_neg k2, if_neg k3, if_neg k4, if_pos]; refine ⟨hf0, ?_⟩; rw [List.take_of_length_le (by omega)] at hq2; refine Classical.byContradiction fun h => ?_; have := hq2.2 ⟨by omega, by omega, fun t ht => Classical.byContradiction fun hk => h (.inr (.inr ⟨t, ht, hk⟩))⟩; cases this) (by decide); rw [if_neg (by omega), Q1S, Q1R Qr, hd, Q2 hx1, Qe (by rw [e]; simp), e]; rfl; done) | (refine ⟨_, rfl, ?_, hS.sp⟩; have e : (QO m.funcs.length f x1 b y).1 ≠ 0 := (by assumption); have e2 : Q1G m.funcs.length f x1 = QO m.funcs.length f x1 b y := (by rw [Q6k hh, hd2, Q2 hy, Q3p e]); rw [if_neg (by omega), Q1S, Q1R Qr, hd, Q2 hx1, Qe (by rw [e2]; exact e), e2]; rfl; done) | (refine ⟨_, rfl, ?_, hS.sp⟩; rw [if_neg (by omega), Q1S, Q1R Qr, hd, List.drop_of_length_le (l := m.funcs) (by omega), Q1h]; rfl; done))
theorem kindne_c {t : Ty} {cs : List Value} (ht : tyR.at cx cs t) (hS : St cx w L) : Rets Tryz.prog Q3P [.agg ⟨cs⟩] w fun u w' => u = .bool (decide (t.kind ≠ 1)) ∧ St cx w' L := by
 obtain ⟨v, rfl, hl⟩ := QX ht
 all_goals refine lgo tyD Tryz.func107 ?_
 all_goals (refine Zaz ?_; intro p1 w1 hS; refine ZbB ?_; refine zf0 ?_; refine zl hS ?_; refine Q4m rfl rfl ?_; refine Zah ?_; refine ⟨_, rfl, ?_, hS.sp⟩; (rfl); done)
theorem pcont_c {l : List Ty} {v : Value} (hl : tyR.sl cx v l) (hS : St cx w L) : Rets Tryz.prog Q20 [v, .func (.func Q3P) #[] #[]] w fun u w' => ∃ q, u = .bool q ∧ (q = true ↔ ∃ t ∈ l, t.kind ≠ 1) ∧ St cx w' L := by
 have hlen := hl.len
 have hidx : ∀ {w : World} {L : List Res}, St cx w L → Rets Tryz.prog Q26 [v, .func (.func Q3P) #[] #[]] w fun u w' => ∃ r : Int, u = .int .i64 r ∧ (0 ≤ r ↔ ∃ t ∈ l, t.kind ≠ 1) ∧ St cx w' L := by
  intro w L hS
  all_goals refine lgo tyD Tryz.func160 ?_
  all_goals (refine Zbk ?_; refine zL ?_; refine ZaC ?_)
  refine zoL hS [0, 1, 7] (fun A LL ρ' w' => ∃ (j : Nat), Has ρ' A ∧ Has ρ' [(8, .int .i64 j)] ∧ (j ≤ l.length) ∧ (∀ t ∈ l.take j, t.kind = 1) ∧ St cx w' (LL)) (fun ρ' _ => (l.length - iv (ρ' 8)).toNat) ?_ ?_
  · exact ⟨0, zh, zh, (by omega), by simp, hS.sp⟩
  rintro ρ w1 ⟨j, hA, hρ, hj, hd, hS⟩; obtain ⟨ρ, rfl⟩ := env2 hA hρ
  all_goals (refine ZbH ?_)
  refine Qt rfl (fun hc => ?_) (fun hc => ?_)
  · skip
    all_goals (refine ZaJ ?_; refine Zad ?_; refine ZaE ?_; refine ZaO ?_; refine zi ?_; intro b1 o1 cs1 x1 hat1 hx1 he1; obtain ⟨vl1, rfl, hl1⟩ := QX he1; (first | (refine zv hS ?_) | (refine zvk hS ?_)))
    all_goals (refine Qbq rfl (by kernel_rfl) (by rfl) (kindne_c he1 hS) ?_; rintro v1 w1 ⟨rfl, hS⟩; (cases hdec : decide (x1.kind ≠ 1)); have hg := of_decide_eq_false hdec; rotate_left; have hg := of_decide_eq_true hdec; all_goals skip)
    all_goals (refine zn ?_)
    all_goals
     first
     | (refine zct ?_
        all_goals (refine Zbt ?_)
        all_goals (exact ⟨_, rfl, j, rfl, ⟨fun _ => ⟨x1, List.mem_of_getElem? hx1, hg⟩, fun _ => by omega⟩, hS.sp⟩))
     | (refine zcf ?_
        all_goals refine zsk ?_)
    all_goals (refine Qn ?_; refine zad ?_; refine Zac ?_; exact ⟨⟨j + 1, zh, zh, (by omega), Q2S hd hx1 (Classical.not_not.1 hg), hS.sp⟩, Qu (by omega)⟩)
  · skip
    all_goals (refine ZbC ?_)
    all_goals (first | (exact ⟨_, rfl, j, rfl, ⟨fun _ => ⟨x1, List.mem_of_getElem? hx1, hg⟩, fun _ => by omega⟩, hS.sp⟩) | (exact ⟨_, rfl, -1, rfl, ⟨fun h => by omega, fun ⟨t, ht, hk⟩ => absurd (Q3o hd (by omega) t ht) hk⟩, hS.sp⟩))
 all_goals refine lgo tyD Tryz.func106 ?_
 all_goals (refine Zbb ?_; refine zm ?_; refine zR2 (c := hidx hS) (h := ?_); rintro v1 w1 ⟨r, rfl, hr, hS⟩)
 all_goals (first | (refine Q2l ?_) | (refine Q2U ?_) | (refine Q1M rfl rfl (fun hc => ?_) (fun hc => ?_)))
 all_goals (refine Zah ?_)
 all_goals (first | (exact ⟨_, rfl, _, rfl, ⟨fun _ => hr.1 (by omega), fun _ => rfl⟩, hS.sp⟩) | (exact ⟨_, rfl, _, rfl, ⟨fun h => Bool.noConfusion h, fun h => by have := hr.2 h; omega⟩, hS.sp⟩))
theorem QcA {g : Flt} {a : Int} {x : Fun} {b : Nat} {y : Block} {q : Bool} (hq : q = true ↔ (b = 0 ∧ (y.regs ≠ x.regs ∨ y.params ≠ x.params))) :
 orF (orF (orF (orF g (mkF (if y.regs < x.regs ∨ 16 < y.regs then 1 else 0) a)) (mkF (Qy y.params y.regs) a)) (mkF (if q = true then 9 else 0) a)) (mkF (if 40 < y.code.length then 2 else 0) a) = orF g (mkF (Qw x b y) a) := by
 rw [Q2c, Q2c, Q2c]
 congr 2
 unfold Qw
 by_cases h0 : y.regs < x.regs ∨ 16 < y.regs
 · rw [if_pos h0, if_pos h0]; simp only [Q3G (show (1 : Int) ≠ 0 by decide)]
 · rw [if_neg h0, if_neg h0, Q3s]
   by_cases h : Qy y.params y.regs ≠ 0
   · rw [if_pos h]; simp only [Q3G h]
   · rw [if_neg h, Classical.not_not.1 h, Q3s]
     by_cases hb : b = 0 ∧ (y.regs ≠ x.regs ∨ y.params ≠ x.params)
     · rw [if_pos hb, if_pos (hq.2 hb)]; simp only [Q3G (show (9 : Int) ≠ 0 by decide)]
     · rw [if_neg hb, if_neg (fun h => hb (hq.1 h)), Q3s]
theorem pblock_c {fs : List Fun} {f b : Nat} {x : Fun} {y : Block} {vf : Value} {g : Flt} {a : Int} {p : Nat} (hxf : fs[f]? = some x) (hyb : x.blocks[b]? = some y) (hf0 : f ≤ 1000000) (hb0 : b ≤ 1000000) (hlc : y.code.length ≤ 100000) (hf : funcR.sl cx vf fs) (hS : St cx w L) (hi : nth L i = some (jdg p vf g a)) :
 Rets Tryz.prog Q5I [.pointer (some ⟨p, 0, none⟩), .int .i64 f, .int .i64 b] w fun u w' => u = .tuple #[] ∧ ∃ a', St cx w' (L.set i (jdg p vf (orF g (QO fs.length f x b y)) a')) := by
 have hflt := (List.getElem?_eq_some_iff.1 hxf).1
 have hblt := (List.getElem?_eq_some_iff.1 hyb).1
 have hS := hS.out hi
 all_goals refine lgo tyD Tryz.func108 ?_
 all_goals (refine Zad ?_; refine znc ?_; refine zf0 ?_; refine zf0 ?_; refine zl hS ?_; refine zm ?_; refine zi ?_; intro b1 o1 cs1 x1 hat1 hx1 he1; obtain ⟨vp1, vr1, vb1, rfl, hp1, hr1, hb1⟩ := Qv he1; refine Zas ?_; intro p6 w1 hS; refine zsn hS ?_; intro w1 hS; have hS := hS.ns; refine zn ?_; have e1 : x = x1 := Option.some.inj (hxf.symm.trans hx1); subst e1; refine Zaa ?_; refine zf0 ?_; refine zl hS ?_; refine zm ?_; refine zi ?_; intro b2 o2 cs2 x2 hat2 hx2 he2; obtain ⟨vp2, vc2, ve21, ve22, ve23, ve24, ve25, rfl, hp2, hc2, he21, he22, he23, he24, he25⟩ := Q13 he2; refine Zas ?_; intro p7 w1 hS; refine zsn hS ?_; intro w1 hS; have hS := hS.ns; refine zn ?_; have e2 : y = x2 := Option.some.inj (hyb.symm.trans hx2); subst e2)
 refine zM [0, 1, 2, 6, 7] (fun A ρ' w' => Has ρ' A ∧ Has ρ' [] ∧ St cx w' (blk p7 92 [.int .i64 y.regs, vp2, vc2, .int .i64 y.fin.op, .int .i64 y.fin.a, .int .i64 y.fin.yes.block, ve21, ve22, .int .i64 y.fin.no.block, ve23, ve24, ve25] :: blk p6 95 [.int .i64 x.regs, vp1, vr1, vb1] :: jdg p vf g (Q2o f b) :: L.eraseIdx i)) ?_ ?_
 · skip
   all_goals (refine ZbN ?_; refine zR2 (c := Qap f b hf0 hb0 hS) (h := ?_); rintro v1 w1 ⟨rfl, hS⟩; refine znc ?_; refine zf0 ?_; refine zst hS ?_; intro w1 hS; have hS := hS.ns; refine zn ?_; exact ⟨zh, zh, hS.sp⟩)
 rintro ρ w1 ⟨hA, hρ, hS⟩; obtain ⟨ρ, rfl⟩ := env2 hA hρ
 refine zM [0, 1, 2, 6, 7] (fun A ρ' w' => Has ρ' A ∧ Has ρ' [] ∧ St cx w' (blk p7 92 [.int .i64 y.regs, vp2, vc2, .int .i64 y.fin.op, .int .i64 y.fin.a, .int .i64 y.fin.yes.block, ve21, ve22, .int .i64 y.fin.no.block, ve23, ve24, ve25] :: blk p6 95 [.int .i64 x.regs, vp1, vr1, vb1] :: jdg p vf (orF g (mkF (if y.regs < x.regs ∨ 16 < y.regs then 1 else 0) (Q2o f b))) (Q2o f b) :: L.eraseIdx i)) ?_ ?_
 · skip
   all_goals (refine Zak ?_; refine zf0 ?_; refine zl hS ?_; refine zf0 ?_; refine zl hS ?_)
   all_goals (first | (refine Q1c ?_) | (refine Q1l ?_) | (refine QB rfl rfl (fun hc => ?_) (fun hc => ?_)))
   all_goals (refine zm ?_; (first | refine zgn ?_ | (refine zgy ?_; refine zf0 ?_)); (first | refine zgn ?_ | (refine zgy ?_; refine zl hS ?_)))
   all_goals (first | refine zgn ?_ | (refine zgy ?_; (first | (refine QG ?_) | (refine QL ?_) | (refine Qc rfl rfl (fun hc => ?_) (fun hc => ?_)))))
   all_goals ((first | (refine zpt ?_) | (refine zpf ?_)); refine zR3 (c := Q1Z (g := _) (by intro _; decide) hS fd) (h := ?_); rintro v1 w1 ⟨rfl, hS⟩; simp only [List.set_cons_zero, List.set_cons_succ, if_true, Bool.false_eq_true, if_false] at hS; refine zn ?_; exact ⟨zh, zh, by first | (rw [if_pos (by omega)]; exact hS.sp) | (rw [if_neg (by omega)]; exact hS.sp)⟩)
 rintro ρ w1 ⟨hA, hρ, hS⟩; obtain ⟨ρ, rfl⟩ := env2 hA hρ
 all_goals (refine Zad ?_; refine zf0 ?_; refine zl hS ?_; refine zf0 ?_; refine zl hS ?_; refine zR3 (c := Q91 hp2 hS fd) (h := ?_); rintro v1 w1 ⟨rfl, hS⟩; have hS := hS.ns; refine ZaS ?_)
 refine zKL hS 18 [0, 1, 2, 6, 7] (fun A LL ρ' w' => ∃ (q : Bool), Has ρ' A ∧ Has ρ' [(46, .pointer (some ⟨p, 0, none⟩)), (63, .bool q)] ∧ (q = true ↔ (b = 0 ∧ (y.regs ≠ x.regs ∨ y.params ≠ x.params))) ∧ St cx w' (LL)) ?_ ?_
 · skip
   all_goals (refine ZaO ?_)
   all_goals (first | (refine Qd ?_) | (refine Qh ?_) | (refine Q6 rfl rfl (fun hc => ?_) (fun hc => ?_)))
   all_goals (refine zm ?_; (first | refine zgn ?_ | (refine zgy ?_; refine zf0 ?_)); (first | refine zgn ?_ | (refine zgy ?_; refine zl hS ?_)); (first | refine zgn ?_ | (refine zgy ?_; refine zf0 ?_)); (first | refine zgn ?_ | (refine zgy ?_; refine zl hS ?_)))
   all_goals (first | refine zgn ?_ | (refine zgy ?_; (first | (refine QC ?_) | (refine QJ ?_) | (refine Qj rfl rfl (fun hc => ?_) (fun hc => ?_)))))
   all_goals ((first | refine zgn ?_ | (refine Zam ?_)); (first | refine zgn ?_ | (refine zgy ?_; refine zf0 ?_)); (first | refine zgn ?_ | (refine zgy ?_; refine zl hS ?_)); (first | refine zgn ?_ | (refine zgy ?_; refine zf0 ?_)); (first | refine zgn ?_ | (refine zgy ?_; refine zl hS ?_)))
   all_goals (first | refine zgn ?_ | (refine zgy ?_; refine zR3 (c := eqfT_c (by kernel_rfl) (fun a _ b _ {_ _ _ _} h1 h2 h3 => psame_c a b h1 h2 h3) hp2 hp1 hS) (h := ?_); rintro v1 w1 ⟨rfl, hS⟩; (cases hdec : decide (y.params = x.params)); have hg := of_decide_eq_false hdec; rotate_left; have hg := of_decide_eq_true hdec; all_goals skip))
   all_goals ((first | refine zgn ?_ | (refine ZaP ?_)); (first | refine zgn ?_ | (refine ZaB ?_)); refine Zbq ?_)
   all_goals (first | (exact ⟨_, zh, zh, by exact ⟨fun _ => ⟨by omega, .inl (by assumption)⟩, fun _ => rfl⟩, hS.sp⟩) | (exact ⟨_, zh, zh, by exact ⟨fun _ => ⟨by omega, .inr (by assumption)⟩, fun _ => rfl⟩, hS.sp⟩) | (exact ⟨_, zh, zh, by exact ⟨fun h => Bool.noConfusion h, fun h => absurd h.1 (by omega)⟩, hS.sp⟩) | (exact ⟨_, zh, zh, by exact ⟨fun h => Bool.noConfusion h, fun h => h.2.elim (fun h => absurd h (by assumption)) (fun h => absurd (by assumption) h)⟩, hS.sp⟩))
 rintro ρ w1 ⟨q, hA, hρ, hq, hS⟩; obtain ⟨ρ, rfl⟩ := env2 hA hρ
 all_goals (refine zR3 (c := Q1Z (g := _) (by intro _; decide) hS fd) (h := ?_); rintro v1 w1 ⟨rfl, hS⟩; simp only [List.set_cons_zero, List.set_cons_succ, if_true, Bool.false_eq_true, if_false] at hS; refine zn ?_)
 refine zM [0, 1, 2, 6, 7] (fun A ρ' w' => Has ρ' A ∧ Has ρ' [] ∧ St cx w' (blk p7 92 [.int .i64 y.regs, vp2, vc2, .int .i64 y.fin.op, .int .i64 y.fin.a, .int .i64 y.fin.yes.block, ve21, ve22, .int .i64 y.fin.no.block, ve23, ve24, ve25] :: blk p6 95 [.int .i64 x.regs, vp1, vr1, vb1] :: jdg p vf (orF g (mkF (Qw x b y) (Q2o f b))) (Q2o f b) :: L.eraseIdx i)) ?_ ?_
 · skip
   all_goals (refine Zak ?_; refine zf0 ?_; refine zl hS ?_; refine zL ?_)
   all_goals (first | (refine QG ?_) | (refine QL ?_) | (refine Qc rfl rfl (fun hc => ?_) (fun hc => ?_)))
   all_goals (refine zR3 (c := Q1Z (g := _) (by intro _; decide) hS fd) (h := ?_); rintro v1 w1 ⟨rfl, hS⟩; simp only [List.set_cons_zero, List.set_cons_succ, if_true, Bool.false_eq_true, if_false] at hS; refine zn ?_; exact ⟨zh, zh, by rw [← QcA hq]; first | (rw [if_pos (c := 40 < y.code.length) (by omega)]; exact hS.sp) | (rw [if_neg (c := 40 < y.code.length) (by omega)]; exact hS.sp)⟩)
 rintro ρ w1 ⟨hA, hρ, hS⟩; obtain ⟨ρ, rfl⟩ := env2 hA hρ
 all_goals (refine Zbr ?_)
 refine zo [0, 1, 2, 6, 7] (fun A ρ' w' => ∃ (j : Nat) (h : Flt) (at2 : Int), Has ρ' A ∧ Has ρ' [(8, .int .i64 j)] ∧ (j ≤ y.code.length) ∧ (orF (orF g (mkF (Qw x b y) (Q2o f b))) (Q11 fs.length f b 0 y.code) = orF h (Q11 fs.length f b j (y.code.drop j))) ∧ St cx w' (blk p7 92 [.int .i64 y.regs, vp2, vc2, .int .i64 y.fin.op, .int .i64 y.fin.a, .int .i64 y.fin.yes.block, ve21, ve22, .int .i64 y.fin.no.block, ve23, ve24, ve25] :: blk p6 95 [.int .i64 x.regs, vp1, vr1, vb1] :: jdg p vf h at2 :: L.eraseIdx i)) (fun ρ' _ => (y.code.length - iv (ρ' 8)).toNat) ?_ ?_
 · exact ⟨0, _, _, zh, zh, (by omega), by rw [List.drop_zero], hS.sp⟩
 rintro ρ w1 ⟨j, h, at2, hA, hρ, hj, hd, hS⟩; obtain ⟨ρ, rfl⟩ := env2 hA hρ
 all_goals (refine ZaA ?_; refine zf0 ?_; refine zl hS ?_; refine zL ?_)
 all_goals (first | (refine Q1c ?_) | (refine Q1l ?_) | (refine QB rfl rfl (fun hc => ?_) (fun hc => ?_)))
 all_goals (refine zm ?_; (first | refine zgn ?_ | (refine Zam ?_)); (first | refine zgn ?_ | (refine ZaQ ?_)); (first | refine zgn ?_ | (refine zgy ?_; refine zf0 ?_)); (first | refine zgn ?_ | (refine Zaj ?_)); (first | refine zgn ?_ | (refine zgy ?_; refine zl hS ?_)))
 all_goals (first | refine zgn ?_ | (refine zgy ?_; (first | (refine Qd ?_) | (refine Qh ?_) | (refine Q6 rfl rfl (fun hc => ?_) (fun hc => ?_)))))
 all_goals (refine Zaf ?_)
 all_goals
  first
  | (refine zct ?_
     all_goals (refine ZaJ ?_; refine Zad ?_; refine ZaO ?_; refine zm ?_; refine zR3 (c := Q9Y f b j hf0 hb0 (by omega) hS) (h := ?_); rintro v1 w1 ⟨rfl, hS⟩; refine znc ?_; refine zf0 ?_; refine zst hS ?_; intro w1 hS; have hS := hS.ns; refine zn ?_; have hS : St cx _ (blk p7 92 [.int .i64 y.regs, vp2, vc2, .int .i64 y.fin.op, .int .i64 y.fin.a, .int .i64 y.fin.yes.block, ve21, ve22, .int .i64 y.fin.no.block, ve23, ve24, ve25] :: blk p6 95 [.int .i64 x.regs, vp1, vr1, vb1] :: jdg p vf h (Q4Y f b j) :: L.eraseIdx i) := hS; refine Zak ?_; refine zf0 ?_; refine zl hS ?_; refine zm ?_; refine zi ?_; intro b3 o3 cs3 x3 hat3 hx3 he3; obtain ⟨vr3, va3, rfl, hr3, ha3⟩ := Q1a he3; (first | (refine zv hS ?_) | (refine zvk hS ?_)); refine zR2 (c := ins_c he3 hf hS fd) (h := ?_); rintro v1 w1 ⟨rfl, hS⟩; have hS := hS.ns; refine Zbd ?_; refine zad ?_; refine Zac ?_)
     all_goals (exact ⟨⟨j + 1, _, _, zh, zh, (by omega), by rw [hd, Q2 hx3, Q11, Q2J], hS.sp⟩, Qu (by omega)⟩))
  | (refine zcf ?_
     all_goals (refine zex ?_; (first | (rw [List.drop_of_length_le (by omega), Q11, Qar (b := (0, 0)) rfl] at hd) | (rw [Q3r (a := h) (by assumption)] at hd)); refine Zad ?_; refine ZaO ?_; refine zR2 (c := Q9Z f b hf0 hb0 hS) (h := ?_); rintro v1 w1 ⟨rfl, hS⟩; refine znc ?_; refine zf0 ?_; refine zst hS ?_; intro w1 hS; have hS := hS.ns; refine zn ?_; have hS : St cx _ (blk p7 92 [.int .i64 y.regs, vp2, vc2, .int .i64 y.fin.op, .int .i64 y.fin.a, .int .i64 y.fin.yes.block, ve21, ve22, .int .i64 y.fin.no.block, ve23, ve24, ve25] :: blk p6 95 [.int .i64 x.regs, vp1, vr1, vb1] :: jdg p vf h (Q5o f b) :: L.eraseIdx i) := hS; refine Zak ?_; refine zv hS ?_; refine zf0 ?_; refine zv hS ?_; refine zR3 (c := end_c (e := y.fin) he1 ⟨_, _, _, _, _, rfl, he21, he22, he23, he24, he25⟩ hS fd) (h := ?_); rintro v1 w1 ⟨rfl, hS⟩; have hS := hS.ns; refine zn ?_)
     all_goals (refine Q1j ?_; refine ⟨_, rfl, rfl, Q5o f b, ?_⟩; have hS := hS.drop.drop; rw [show orF g (QO fs.length f x b y) = orF h (mkF (Q1I x.blocks.length y.fin) (Q5o f b)) from (by unfold QO; rw [← Q2J, ← Q2J, hd])]; exact St.back hS hi))
theorem Qcl {g : Flt} {a : Int} {x : Fun} {f : Nat} {q : Bool} (hq : q = true ↔ (f = 0 ∧ (0 < x.regs ∨ 0 < x.params.length ∨ ∃ t ∈ x.results, t.kind ≠ 1))) :
 orF (orF (orF (orF (orF g (mkF (if x.regs < 0 ∨ 6 < x.regs then 1 else 0) a)) (mkF (Qy x.params x.regs) a)) (mkF (Qy x.results x.regs) a)) (mkF (if x.blocks.length < 1 ∨ 12 < x.blocks.length then 2 else 0) a)) (mkF (if q = true then 18 else 0) a) = orF g (mkF (QD f x) a) := by
 rw [Q2c, Q2c, Q2c, Q2c]
 congr 2
 unfold QD
 by_cases h0 : x.regs < 0 ∨ 6 < x.regs
 · rw [if_pos h0, if_pos h0]; simp only [Q3G (show (1 : Int) ≠ 0 by decide)]
 · rw [if_neg h0, if_neg h0, Q3s]
   by_cases h : Qy x.params x.regs ≠ 0
   · rw [if_pos h]; simp only [Q3G h]
   · rw [if_neg h, Classical.not_not.1 h, Q3s]
     by_cases h1 : Qy x.results x.regs ≠ 0
     · rw [if_pos h1]; simp only [Q3G h1]
     · rw [if_neg h1, Classical.not_not.1 h1, Q3s]
       by_cases h2 : x.blocks.length < 1 ∨ 12 < x.blocks.length
       · rw [if_pos h2, if_pos h2]; simp only [Q3G (show (2 : Int) ≠ 0 by decide)]
       · rw [if_neg h2, if_neg h2, Q3s]
         by_cases hb : f = 0 ∧ (0 < x.regs ∨ 0 < x.params.length ∨ ∃ t ∈ x.results, t.kind ≠ 1)
         · rw [if_pos hb, if_pos (hq.2 hb)]
         · rw [if_neg hb, if_neg (fun h => hb (hq.1 h))]
theorem pcheck_c {m : Module} (hsh : m.Short) {cs : List Value} (hm : modR.at cx cs m) (hS : St cx w L) :
 Rets Tryz.prog QaR [.agg ⟨cs⟩] w fun u w' => u = fltV m.fault ∧ St cx w' L := by
 obtain ⟨vf, rfl, hf⟩ := Q1k hm
 have hsl := hsh.1
 have hsf := hsh.2
 obtain ⟨a0, n0, rfl⟩ := Rep.SR.shape hf
 generalize hvf : Value.slice a0 m.funcs.length n0 = vf at *
 all_goals refine lgo tyD Tryz.func62 ?_
 all_goals (refine Zaz ?_; intro p1 w1 hS; refine Qg hS ?_; intro p2 w1 hS; refine ZaS ?_; refine zv hS ?_; refine Q9J (cs := [vf, .int .i64 0, .int .i64 0, .int .i64 (-1)]) vw vw (by subst hvf; rfl) ?_; refine zb hS ?_; intro p9 w1 hS; refine Zac ?_)
 refine zM [1, 2, 3] (fun A ρ' w' => Has ρ' A ∧ Has ρ' [] ∧ St cx w' (jdg p9 vf (mkF (if m.funcs.length < 1 ∨ 8 < m.funcs.length then 2 else 0) (-1)) (-1) :: blk p2 29 [.int .i64 0, .int .i64 0] :: blk p1 24 [vf] :: L)) ?_ ?_
 · skip
   all_goals (have hS : St cx _ (jdg p9 vf (0, 0) (-1) :: blk p2 29 [.int .i64 0, .int .i64 0] :: blk p1 24 [vf] :: L) := hS; refine Zak ?_; refine zf0 ?_; refine zl hS ?_; refine zL ?_)
   all_goals (first | (refine Qd ?_) | (refine Qh ?_) | (refine Q6 rfl rfl (fun hc => ?_) (fun hc => ?_)))
   all_goals (refine zm ?_; (first | refine zgn ?_ | (refine zgy ?_; refine zf0 ?_)); (first | refine zgn ?_ | (refine zgy ?_; refine zl hS ?_)); (first | refine zgn ?_ | (refine zgy ?_; refine zL ?_)))
   all_goals (first | refine zgn ?_ | (refine zgy ?_; (first | (refine QG ?_) | (refine QL ?_) | (refine Qc rfl rfl (fun hc => ?_) (fun hc => ?_)))))
   all_goals ((first | (refine zpt ?_) | (refine zpf ?_)); refine zR3 (c := Q1Z (g := _) (by intro _; decide) hS fd) (h := ?_); rintro v1 w1 ⟨rfl, hS⟩; simp only [List.set_cons_zero, List.set_cons_succ, if_true, Bool.false_eq_true, if_false] at hS; refine zn ?_; exact ⟨zh, zh, by rw [Q1R (Q86 _ _)] at hS; first | (rw [if_pos (by omega)]; exact hS.sp) | (rw [if_neg (by omega)]; exact hS.sp)⟩)
 rintro ρ w1 ⟨hA, hρ, hS⟩; obtain ⟨ρ, rfl⟩ := env2 hA hρ
 all_goals (refine Zbr ?_)
 refine zo [1, 2, 3] (fun A ρ' w' => ∃ (f : Nat) (h : Flt) (a : Int), Has ρ' A ∧ Has ρ' [(4, .int .i64 f)] ∧ (f ≤ m.funcs.length) ∧ (m.fault = orF h (Q1h m.funcs.length f (m.funcs.drop f))) ∧ St cx w' (jdg p9 vf h a :: blk p2 29 [.int .i64 0, .int .i64 0] :: blk p1 24 [vf] :: L)) (fun ρ' _ => (m.funcs.length - iv (ρ' 4)).toNat) ?_ ?_
 · exact ⟨0, _, _, zh, zh, (by omega), by rw [List.drop_zero]; rfl, hS.sp⟩
 rintro ρ w1 ⟨f, h, a, hA, hρ, hj, hd, hS⟩; obtain ⟨ρ, rfl⟩ := env2 hA hρ
 all_goals (refine ZaA ?_; refine zf0 ?_; refine zl hS ?_; refine zL ?_)
 all_goals (first | (refine Q1c ?_) | (refine Q1l ?_) | (refine QB rfl rfl (fun hc => ?_) (fun hc => ?_)))
 all_goals (refine zm ?_; (first | refine zgn ?_ | (refine Zam ?_)); (first | refine zgn ?_ | (refine ZaQ ?_)); (first | refine zgn ?_ | (refine zgy ?_; refine zf0 ?_)); (first | refine zgn ?_ | (refine Zaj ?_)); (first | refine zgn ?_ | (refine zgy ?_; refine zl hS ?_)))
 all_goals (first | refine zgn ?_ | (refine zgy ?_; (first | (refine Qd ?_) | (refine Qh ?_) | (refine Q6 rfl rfl (fun hc => ?_) (fun hc => ?_)))))
 all_goals (refine Zaf ?_)
 all_goals
  first
  | (refine zct ?_
     all_goals (refine Zbn ?_; refine zf0 ?_; refine zl hS ?_; refine zm ?_; refine zi ?_; intro b1 o1 cs1 x1 hat1 hx1 he1; obtain ⟨vp1, vr1, vb1, rfl, hp1, hr1, hb1⟩ := Qv he1; refine Zas ?_; intro p5 w1 hS; refine zsn hS ?_; intro w1 hS; have hS := hS.ns; refine zn ?_; have hsx := hsf x1 (List.mem_of_getElem? hx1); have hlb := hsx.2.2.1; have hlp := hp1.len; have hlr := hr1.len; refine Zby ?_; refine zR1 (c := Qc1 f (by omega) hS) (h := ?_); rintro v1 w1 ⟨rfl, hS⟩; refine znc ?_; refine zf0 ?_; refine zst hS ?_; intro w1 hS; have hS := hS.ns; refine zn ?_)
     refine zM [1, 2, 3, 4, 5] (fun A ρ' w' => Has ρ' A ∧ Has ρ' [] ∧ St cx w' (blk p5 95 [.int .i64 x1.regs, vp1, vr1, vb1] :: jdg p9 vf (orF h (mkF (if x1.regs < 0 ∨ 6 < x1.regs then 1 else 0) (Q2k f))) (Q2k f) :: blk p2 29 [.int .i64 0, .int .i64 0] :: blk p1 24 [vf] :: L)) ?_ ?_
     · skip
       all_goals (have hS : St cx _ (blk p5 95 [.int .i64 x1.regs, vp1, vr1, vb1] :: jdg p9 vf h (Q2k f) :: blk p2 29 [.int .i64 0, .int .i64 0] :: blk p1 24 [vf] :: L) := hS; refine Zak ?_; refine zf0 ?_; refine zl hS ?_)
       all_goals (first | (refine Q1c ?_) | (refine Q1l ?_) | (refine QB rfl rfl (fun hc => ?_) (fun hc => ?_)))
       all_goals (refine zm ?_; (first | refine zgn ?_ | (refine zgy ?_; refine zf0 ?_)); (first | refine zgn ?_ | (refine zgy ?_; refine zl hS ?_)))
       all_goals (first | refine zgn ?_ | (refine zgy ?_; (first | (refine QG ?_) | (refine QL ?_) | (refine Qc rfl rfl (fun hc => ?_) (fun hc => ?_)))))
       all_goals ((first | (refine zpt ?_) | (refine zpf ?_)); refine zR3 (c := Q1Z (g := _) (by intro _; decide) hS fd) (h := ?_); rintro v1 w1 ⟨rfl, hS⟩; simp only [List.set_cons_zero, List.set_cons_succ, if_true, Bool.false_eq_true, if_false] at hS; refine zn ?_; exact ⟨zh, zh, by first | (rw [if_pos (by omega)]; exact hS.sp) | (rw [if_neg (by omega)]; exact hS.sp)⟩)
     rintro ρ w1 ⟨hA, hρ, hS⟩; obtain ⟨ρ, rfl⟩ := env2 hA hρ
     all_goals (refine Zad ?_; refine zf0 ?_; refine zl hS ?_; refine zf0 ?_; refine zl hS ?_; refine zR3 (c := Q91 hp1 hS fd) (h := ?_); rintro v1 w1 ⟨rfl, hS⟩; have hS := hS.ns; refine Zbi ?_; refine zf0 ?_; refine zl hS ?_; refine zf0 ?_; refine zl hS ?_; refine zR3 (c := Q91 hr1 hS fd) (h := ?_); rintro v1 w1 ⟨rfl, hS⟩; have hS := hS.ns; refine zn ?_)
     refine zM [1, 2, 3, 4, 5] (fun A ρ' w' => Has ρ' A ∧ Has ρ' [] ∧ St cx w' (blk p5 95 [.int .i64 x1.regs, vp1, vr1, vb1] :: jdg p9 vf (orF (orF (orF (orF h (mkF (if x1.regs < 0 ∨ 6 < x1.regs then 1 else 0) (Q2k f))) (mkF (Qy x1.params x1.regs) (Q2k f))) (mkF (Qy x1.results x1.regs) (Q2k f))) (mkF (if x1.blocks.length < 1 ∨ 12 < x1.blocks.length then 2 else 0) (Q2k f))) (Q2k f) :: blk p2 29 [.int .i64 0, .int .i64 0] :: blk p1 24 [vf] :: L)) ?_ ?_
     · skip
       all_goals (refine Zak ?_; refine zf0 ?_; refine zl hS ?_; refine zL ?_)
       all_goals (first | (refine Qd ?_) | (refine Qh ?_) | (refine Q6 rfl rfl (fun hc => ?_) (fun hc => ?_)))
       all_goals (refine zm ?_; (first | refine zgn ?_ | (refine zgy ?_; refine zf0 ?_)); (first | refine zgn ?_ | (refine zgy ?_; refine zl hS ?_)); (first | refine zgn ?_ | (refine zgy ?_; refine zL ?_)))
       all_goals (first | refine zgn ?_ | (refine zgy ?_; (first | (refine QG ?_) | (refine QL ?_) | (refine Qc rfl rfl (fun hc => ?_) (fun hc => ?_)))))
       all_goals ((first | (refine zpt ?_) | (refine zpf ?_)); refine zR3 (c := Q1Z (g := _) (by intro _; decide) hS fd) (h := ?_); rintro v1 w1 ⟨rfl, hS⟩; simp only [List.set_cons_zero, List.set_cons_succ, if_true, Bool.false_eq_true, if_false] at hS; refine zn ?_; exact ⟨zh, zh, by first | (rw [if_pos (c := x1.blocks.length < 1 ∨ 12 < x1.blocks.length) (by omega)]; exact hS.sp) | (rw [if_neg (c := x1.blocks.length < 1 ∨ 12 < x1.blocks.length) (by omega)]; exact hS.sp)⟩)
     rintro ρ w1 ⟨hA, hρ, hS⟩; obtain ⟨ρ, rfl⟩ := env2 hA hρ
     refine zM [1, 2, 3, 4, 5] (fun A ρ' w' => Has ρ' A ∧ Has ρ' [] ∧ St cx w' (blk p5 95 [.int .i64 x1.regs, vp1, vr1, vb1] :: jdg p9 vf (orF h (mkF (QD f x1) (Q2k f))) (Q2k f) :: blk p2 29 [.int .i64 0, .int .i64 0] :: blk p1 24 [vf] :: L)) ?_ ?_
     · skip
       all_goals (refine Qn ?_)
       refine zKL hS 19 [1, 2, 3, 4, 5] (fun A LL ρ' w' => ∃ (q : Bool), Has ρ' A ∧ Has ρ' [(81, .pointer (some ⟨p9, 0, none⟩)), (99, .bool q)] ∧ (q = true ↔ (f = 0 ∧ (0 < x1.regs ∨ 0 < x1.params.length ∨ ∃ t ∈ x1.results, t.kind ≠ 1))) ∧ St cx w' (LL)) ?_ ?_
       · skip
         all_goals (refine ZaO ?_)
         all_goals (first | (refine Qd ?_) | (refine Qh ?_) | (refine Q6 rfl rfl (fun hc => ?_) (fun hc => ?_)))
         all_goals (refine zm ?_; (first | refine zgn ?_ | (refine zgy ?_; refine zf0 ?_)); (first | refine zgn ?_ | (refine zgy ?_; refine zl hS ?_)))
         all_goals (first | refine zgn ?_ | (refine zgy ?_; (first | (refine QG ?_) | (refine QL ?_) | (refine Qc rfl rfl (fun hc => ?_) (fun hc => ?_)))))
         all_goals ((first | refine zgn ?_ | (refine Zam ?_)); (first | refine zgn ?_ | (refine zgy ?_; refine zf0 ?_)); (first | refine zgn ?_ | (refine zgy ?_; refine zl hS ?_)); (first | refine zgn ?_ | (refine zgy ?_; refine zL ?_)))
         all_goals (first | refine zgn ?_ | (refine zgy ?_; (first | (refine QG ?_) | (refine QL ?_) | (refine Qc rfl rfl (fun hc => ?_) (fun hc => ?_)))))
         all_goals ((first | refine zgn ?_ | (refine ZaB ?_)); (first | refine zgn ?_ | (refine Zam ?_)); (first | refine zgn ?_ | (refine zgy ?_; refine zf0 ?_)); (first | refine zgn ?_ | (refine zgy ?_; refine zl hS ?_)))
         all_goals ((first | (refine zgn ?_) | (refine zgy ?_; refine zR2 (c := pcont_c hr1 hS) (h := ?_); rintro v1 w1 ⟨qc, rfl, hqc, hS⟩; cases qc)))
         all_goals ((first | refine zgn ?_ | (refine ZaB ?_)); refine Zbq ?_)
         all_goals (first | (exact ⟨_, zh, zh, by exact ⟨fun _ => ⟨by omega, .inl (by omega)⟩, fun _ => rfl⟩, hS.sp⟩) | (exact ⟨_, zh, zh, by exact ⟨fun _ => ⟨by omega, .inr (.inl (by omega))⟩, fun _ => rfl⟩, hS.sp⟩) | (exact ⟨_, zh, zh, by exact ⟨fun _ => ⟨by omega, .inr (.inr (hqc.1 rfl))⟩, fun _ => rfl⟩, hS.sp⟩) | (exact ⟨_, zh, zh, by exact ⟨fun h => Bool.noConfusion h, fun h => absurd h.1 (by omega)⟩, hS.sp⟩) | (exact ⟨_, zh, zh, by exact ⟨fun h => Bool.noConfusion h, fun h => h.2.elim (fun h => by omega) (fun h => h.elim (fun h => by omega) (fun h => Bool.noConfusion (hqc.2 h)))⟩, hS.sp⟩))
       rintro ρ w1 ⟨q, hA, hρ, hq, hS⟩; obtain ⟨ρ, rfl⟩ := env2 hA hρ
       all_goals (refine zR3 (c := Q1Z (g := _) (by intro _; decide) hS fd) (h := ?_); rintro v1 w1 ⟨rfl, hS⟩; simp only [List.set_cons_zero, List.set_cons_succ, if_true, Bool.false_eq_true, if_false] at hS; refine zn ?_; exact ⟨zh, zh, by rw [← Qcl hq]; exact hS.sp⟩)
     rintro ρ w1 ⟨hA, hρ, hS⟩; obtain ⟨ρ, rfl⟩ := env2 hA hρ
     all_goals (refine Zaa ?_; refine ZaC ?_)
     refine zo [1, 2, 3, 4, 5] (fun A ρ' w' => ∃ (b : Nat) (h2 : Flt) (a2 : Int), Has ρ' A ∧ Has ρ' [(6, .int .i64 b)] ∧ (b ≤ x1.blocks.length) ∧ (orF (orF h (mkF (QD f x1) (Q2k f))) (QP m.funcs.length f x1 0 x1.blocks) = orF h2 (QP m.funcs.length f x1 b (x1.blocks.drop b))) ∧ St cx w' (blk p5 95 [.int .i64 x1.regs, vp1, vr1, vb1] :: jdg p9 vf h2 a2 :: blk p2 29 [.int .i64 0, .int .i64 0] :: blk p1 24 [vf] :: L)) (fun ρ' _ => (x1.blocks.length - iv (ρ' 6)).toNat) ?_ ?_
     · exact ⟨0, _, _, zh, zh, (by omega), by rw [List.drop_zero], hS.sp⟩
     rintro ρ w1 ⟨b, h2, a2, hA, hρ, hb, hd2, hS⟩; obtain ⟨ρ, rfl⟩ := env2 hA hρ
     all_goals (refine ZaA ?_; refine zf0 ?_; refine zl hS ?_; refine zL ?_)
     all_goals (first | (refine Q1c ?_) | (refine Q1l ?_) | (refine QB rfl rfl (fun hc => ?_) (fun hc => ?_)))
     all_goals (refine zm ?_; (first | refine zgn ?_ | (refine Zam ?_)); (first | refine zgn ?_ | (refine ZaQ ?_)); (first | refine zgn ?_ | (refine zgy ?_; refine zf0 ?_)); (first | refine zgn ?_ | (refine Zaj ?_)); (first | refine zgn ?_ | (refine zgy ?_; refine zl hS ?_)))
     all_goals (first | refine zgn ?_ | (refine zgy ?_; (first | (refine Qd ?_) | (refine Qh ?_) | (refine Q6 rfl rfl (fun hc => ?_) (fun hc => ?_)))))
     all_goals (refine Zaf ?_)
     all_goals
      first
      | (refine zct ?_
         all_goals (refine ZaJ ?_; obtain ⟨y, hy⟩ : ∃ y, x1.blocks[b]? = some y := ⟨_, List.getElem?_eq_getElem (by omega)⟩; have hsy := hsx.2.2.2 y (List.mem_of_getElem? hy); refine ZbN ?_; refine zR3 (c := pblock_c hx1 hy (by omega) (by omega) hsy.2.1 hf hS fd) (h := ?_); rintro v1 w1 ⟨rfl, a3, hS⟩; have hS := hS.ns; refine Zbd ?_; refine zad ?_; refine Zac ?_)
         all_goals (exact ⟨⟨b + 1, _, _, zh, zh, (by omega), by rw [hd2, Q2 hy, QP, Q2J], hS.sp⟩, Qu (by omega)⟩))
      | (refine zcf ?_
         all_goals (refine zex ?_; (first | (rw [List.drop_of_length_le (by omega), QP, Qar (b := (0, 0)) rfl] at hd2) | (rw [Q3r (a := h2) (by assumption)] at hd2)); refine Zak ?_; refine zad ?_; refine Zac ?_)
         all_goals (exact ⟨⟨f + 1, h2, a2, zh, zh, (by omega), by rw [hd, Q2 hx1, Q1h, ← Q2J, show orF h (Q1G m.funcs.length f x1) = h2 from (by unfold Q1G; rw [← Q2J, hd2])], hS.sp⟩, Qu (by omega)⟩)))
  | (refine zcf ?_
     all_goals (refine zex ?_; (first | (rw [List.drop_of_length_le (by omega), Q1h, Qar (b := (0, 0)) rfl] at hd) | (rw [Q3r (a := h) (by assumption)] at hd)); refine Zad ?_; refine znc ?_; refine zf0 ?_; refine zv hS ?_; refine zsn hS ?_; intro w1 hS; have hS := hS.ns; refine ZaX ?_; refine Q19 vw (Q4 (n := 2) (by kernel_rfl) (by kernel_rfl) (hS.blkAt fd) (by rfl) (by rfl)) ?_)
     all_goals (refine ⟨_, rfl, ?_, hS.sp⟩; rw [hd]; rfl; done))
end Go.Proofs.YteflkifmgnpbhaaGreat
namespace Go.Lir
section
variable {P : Program} {Q : QT} {ρ : Env} {w : World} {l : List GO}
theorem Qbz {d : Nat} {Ty : TypeId} {x : Operand} {ms : Array (String × TypeId)} (ht : P.underlying Ty = some (.interface ms)) (hx : ρ.ev x = .nilIface) (h : Q0 P l Q (upd ρ d (.bool true)) w) : Q0 P (⟨none, .bin d .eql Ty x (.const .nilIface)⟩ :: l) Q ρ w :=
 ⟨_, fun w0 => by rw [hx]; simp [Env.ev, eqGuard, binOp, Q6D ht], h⟩
theorem Q7Y {d : Nat} {Ty U : TypeId} {v : Value} {x : Operand} {ms : Array (String × TypeId)} (ht : P.underlying Ty = some (.interface ms)) (hx : ρ.ev x = .iface U v) (h : Q0 P l Q (upd ρ d (.bool false)) w) : Q0 P (⟨none, .bin d .eql Ty x (.const .nilIface)⟩ :: l) Q ρ w :=
 ⟨_, fun w0 => by rw [hx]; simp [Env.ev, eqGuard, binOp, Q5Z ht], h⟩
end
end Go.Lir
namespace Go.Proofs.YteflkifmgnpbhaaGreat
open Go.Lir
set_option maxHeartbeats 1000000
attribute [local irreducible] LC.wp Q0 QF QE retQ Q16 LO.wp Qf Calls
set_option linter.unusedSimpArgs false
set_option linter.unusedVariables false
variable {cx : Cx} {w : World} {L : List Res} {p N : Nat} {c : MC} {fr : List FrmV} {g : FrmV} {h : HpS} {out inp : List Int} {fu : Nat} {m : Module}
theorem Q7U {P : Program} {T : TypeId} (h : aggT P T = true) : ∃ D, P.underlying T = some D ∧ ∀ m, D ≠ .interface m := by
 unfold aggT at h
 split at h
 · exact ⟨_, by assumption, by intro m h; cases h⟩
 · exact ⟨_, by assumption, by intro m h; cases h⟩
 · cases h
@[reducible] def capS (p3 p1 p2 : Nat) : List Value := [.pointer (some ⟨p3, 0, none⟩), .pointer (some ⟨p1, 0, none⟩), .pointer (some ⟨p2, 0, none⟩)]
@[reducible] def catS (p p1 p2 p3 : Nat) (a : Int) (L : List Res) : List Res := blk p3 3 [.int .i64 a] :: blk p2 29 [.int .i64 0, .int .i64 0] :: blk p1 39 [.pointer (some ⟨p, 0, none⟩)] :: L
theorem step1_n {p1 p2 p3 : Nat} {a : Int} (hS : St cx w (catS p p1 p2 p3 a L)) : Defs Tryz.prog Q22 (capS p3 p1 p2) .returning w fun u' w' => u' = .returning ∧ St cx w' (catS p p1 p2 p3 a L) := by
 unfold Defs
 all_goals refine lgr tyD Tryz.func70 ?_
 all_goals (refine r_seq ?_; refine r_sp ?_; refine zn ?_; refine zn ?_; refine r_pl ?_; refine Q2w ?_; refine Zaa ?_; refine Qbz (ms := #[]) (by kernel_rfl) rfl ?_; refine zn ?_)
 all_goals refine zct ?_
 all_goals (refine Qn ?_; refine Zac ?_; refine QbV ?_; refine Q1j ?_; exact ⟨⟨_, rfl⟩, rfl, hS.sp⟩)
@[reducible] def MC.stk (c : MC) (a : Int) : MC := ⟨c.hp, c.fn, c.lv, c.iv, c.e, c.bv, c.ov, c.fu, c.mo, c.dn, 20, a⟩
theorem step1_s {p1 p2 p3 : Nat} {a : Int} (hS : St cx w (catS p p1 p2 p3 a (blk p 55 c.cells :: L))) : Defs Tryz.prog Q22 (capS p3 p1 p2) (.panicking [{ v := Q3v, recovered := false }]) w fun u' w' => u' = .panicking [{ v := Q3v, recovered := true }] ∧ St cx w' (blk p2 29 [.int .i64 20, .int .i64 a] :: blk p 55 (c.stk a).cells :: L) := by
 obtain ⟨D, hD, hi⟩ := Q7U (P := Tryz.prog) (T := 121) (by kernel_rfl)
 unfold Defs
 all_goals refine lgr tyD Tryz.func70 ?_
 all_goals (refine r_seq ?_; refine r_sp ?_; refine zn ?_; refine zn ?_; refine r_pl ?_; refine Q2w ?_; refine Zaa ?_; refine Q7Y (ms := #[]) (by kernel_rfl) rfl ?_; refine zn ?_)
 all_goals refine zcf ?_
 all_goals (refine Zaa ?_; refine Q9K hD hi rfl ?_; refine ZaV ?_; refine zn ?_)
 all_goals refine zct ?_
 all_goals (refine Zbh ?_; intro p4 w1 hS; refine zsn hS ?_; intro w1 hS; have hS := hS.ns; refine ZaS ?_; refine zl hS ?_; refine zl hS ?_; refine zb2 [_, _] ?_; refine znc ?_; refine zf0 ?_; (first | (refine zsn hS ?_; intro w1 hS; have hS := hS.ns) | (refine zsm hS ?_; intro w1 hS; have hS := hS.ns)); refine zn ?_; refine Qn ?_; refine zl hS ?_; refine znc ?_; refine zf0 ?_; refine zv hS ?_; refine zsn hS ?_; intro w1 hS; have hS := hS.ns; refine zn ?_; refine QbV ?_; refine Q1j ?_; exact ⟨⟨_, rfl⟩, rfl, hS.sp⟩)
@[reducible] def MC.over (c : MC) (e : Int) : MC := ⟨c.hp, c.fn, c.lv, c.iv, e, c.bv, c.ov, c.fu, c.mo, true, c.c, c.a⟩
theorem Qbh {p1 p2 p3 : Nat} {a e : Int} (hS : St cx w (catS p p1 p2 p3 a (blk p 55 c.cells :: L))) : Defs Tryz.prog Q22 (capS p3 p1 p2) (.panicking [{ v := Q8I e, recovered := false }]) w fun u' w' => u' = .panicking [{ v := Q8I e, recovered := true }] ∧ St cx w' (blk p2 29 [.int .i64 0, .int .i64 0] :: blk p 55 (c.over e).cells :: L) := by
 obtain ⟨D, hD, hi⟩ := Q7U (P := Tryz.prog) (T := 121) (by kernel_rfl)
 unfold Defs
 all_goals refine lgr tyD Tryz.func70 ?_
 all_goals (refine r_seq ?_; refine r_sp ?_; refine zn ?_; refine zn ?_; refine r_pl ?_; refine Q2w ?_; refine Zaa ?_; refine Q7Y (ms := #[]) (by kernel_rfl) rfl ?_; refine zn ?_)
 all_goals refine zcf ?_
 all_goals (refine Zaa ?_; refine Q8U (z := .agg ⟨[]⟩) hD hi (by kernel_rfl) rfl (by decide) ?_; refine ZaV ?_; refine zn ?_)
 all_goals refine zcf ?_
 all_goals (refine Zaa ?_; refine Q9K (D := .int .i64) (by kernel_rfl) (by intro m; exact TypeDesc.noConfusion) rfl ?_; refine ZaV ?_; refine zn ?_)
 all_goals refine zct ?_
 all_goals (refine Zaa ?_; refine Zac ?_; refine Qn ?_; refine zl hS ?_; refine zl hS ?_; refine Zbe ?_; refine zf0 ?_; refine zst hS ?_; intro w1 hS; have hS := hS.ns; refine znc ?_; refine zf0 ?_; (first | refine zf0 ?_ | refine zfd ?_); refine zst hS ?_; intro w1 hS; have hS := hS.ns; refine zn ?_; refine QbV ?_; refine Q1j ?_; exact ⟨⟨_, rfl⟩, rfl, hS.sp⟩)
theorem OkS.form {X : Stp} {u : Value} (hG : OkS p c N h out fu X cx L u w) : ∃ M, St cx w (M ++ L) ∧ ∀ w' L2, St cx w' (M ++ L2) → OkS p c N h out fu X cx L2 u w' := by
 rcases hG with ⟨lv, iv, ov, fr', g', N', h', inp', out', h1, h2, h3, h4, hS⟩ | ⟨ns, bv, fr', g', h1, h2, hS⟩
 · exact ⟨mS p (c.upd lv iv ov) fr' g' N' h' out' [], hS, fun w' L2 hS => .inl ⟨lv, iv, ov, fr', g', N', h', inp', out', h1, h2, h3, h4, hS⟩⟩
 · exact ⟨_ :: _ :: _ :: _ :: _ :: _ :: _ :: _ :: [], hS, fun w' L2 hS => .inr ⟨ns, bv, fr', g', h1, h2, hS⟩⟩
theorem St.app {M : List Res} (hS : St cx w (M ++ L)) : St cx w (L ++ M) := hS.perm List.perm_append_comm
def StepS (m : Module) (p : Nat) (c : MC) (fr : List FrmV) (g : FrmV) (N : Nat) (h : HpS) (inp out : List Int) (fu : Nat) (cx : Cx) (L : List Res) (u : Value) (w' : World) : Prop :=
 (c.fu = c.mo ∧ u = fltV (0, 0) ∧ St cx w' (mS p (c.over 7) fr g N h out L)) ∨ (c.fu ≠ c.mo ∧ ((u = fltV (0, 0) ∧ OkS p c.tick N h out fu ((msOf h g fr inp out fu).one m) cx L (.tuple #[]) w') ∨
   (∃ e, (msOf h g fr inp out fu).one m = .halt e ∧ u = fltV (0, 0) ∧ ∃ fr' g' N', N' ≤ N + 1 ∧ St cx w' (mS p (c.tick.over e) fr' g' N' h out L)) ∨
   ((msOf h g fr inp out fu).one m = .lost ∧ u = fltV (20, (msOf h g fr inp out fu).place m) ∧ St cx w' (blk p 55 (c.tick.stk ((msOf h g fr inp out fu).place m)).cells :: L))))
attribute [local irreducible] MS.ins MS.fin MS.one MS.place GoS DoneS OkS
theorem step_c {f : Fun} {b : Block} (hdn : c.dn = false) (hc0 : c.c = 0) (hfn : funcR.sl cx c.fn m.funcs) (hi : intR.sl cx c.iv inp) (hfx : m.funcs[g.f]? = some f) (hbx : f.blocks[g.b]? = some b) (hci : ∀ x ∈ b.code, QcJ m x) (hce : QcK f b.fin) (hgf : g.f ≤ 1000000) (hgb : g.b ≤ 1000000) (hgi : g.i ≤ 1000) (hf : fr.length ≤ 900) (hn : g.vals.length ≤ 800000) (hrn : g.regs.length ≤ 800000) (hfr : ∀ x ∈ fr, x.vals.length ≤ 900000) (hN : N ≤ 99999) (hol : out.length ≤ 2000) (hfu : 0 ≤ c.fu ∧ c.fu ≤ 10000000) (hS : St cx w (mS p c fr g N h out L)) :
 Rets Tryz.prog Q1P [.pointer (some ⟨p, 0, none⟩)] w (StepS m p c fr g N h inp out fu cx L) := by
 unfold StepS
 all_goals refine lgd tyD Tryz.func23 ?_
 all_goals (refine QaN ?_; refine d_pl ?_; refine Qn ?_; refine zb hS ?_; intro p1 w1 hS; refine Qg hS ?_; intro p2 w1 hS; refine zn ?_; refine QaN ?_; refine d_pl ?_; refine Zaa ?_; refine zl hS ?_; refine znc ?_; refine zf0 ?_; refine zl hS ?_; rw [hdn]; refine zm ?_; (first | refine zgn ?_ | (refine zgy ?_; refine zl hS ?_)); (first | refine zgn ?_ | (refine ZaQ ?_)); (first | refine zgn ?_ | (refine zgy ?_; refine zf0 ?_)); (first | refine zgn ?_ | (refine Zaj ?_)); (first | (refine zgn ?_) | (refine zgy ?_; refine zl hS ?_; rw [hc0])))
 all_goals (first | refine zgn ?_ | (refine ZaL ?_))
 all_goals (refine Zaf ?_)
 all_goals refine zcf ?_
 all_goals (refine zsk ?_; refine QaN ?_; refine d_pl ?_; have hS : St cx _ (mS p c fr g N h out (blk p2 29 [.int .i64 0, .int .i64 0] :: blk p1 39 [.pointer (some ⟨p, 0, none⟩)] :: L)) := hS.sp; refine Qn ?_; refine zl hS ?_; refine zR1 (c := place_c (inp := inp) (fu := fu) hfn hfx hbx hf hgf hgb (by omega) hS) (h := ?_); rintro v1 w1 ⟨rfl, hS⟩; refine Qg hS ?_; intro p3 w1 hS; refine zst hS ?_; intro w1 hS; have hS := hS.ns; refine zn ?_; refine QaN ?_; refine d_sp ?_; refine s_mkfn ?_; refine zn ?_; refine ⟨_, _, rfl, ?_⟩; have hS : St cx _ (mS p c fr g N h out (catS p p1 p2 p3 ((msOf h g fr inp out fu).place m) L)) := hS.sp; refine zn ?_; refine d_pl ?_; refine Zaa ?_; refine zl hS ?_)
 all_goals (refine zE1 (c := one_c (inp := inp) (fu := fu) hfn hi hfx hbx hci hce hgi hf hn hrn hfr hN hol hfu hS) (p := by rintro v9 w9 hB; (repeat (first | refine Ql ?_ | refine Qm ?_)); refine q_panD ?_; rcases hB with ⟨hmo, rfl, hS⟩ | ⟨hmo, ⟨hX, rfl, hS⟩ | ⟨e, hX, rfl, fr', g', N', hN', hS⟩⟩; refine Q4J (by intro h; cases h) (by kernel_rfl) (Qbh (c := c) (a := (msOf h g fr inp out fu).place m) (show St cx _ (catS p p1 p2 p3 _ (blk p 55 c.cells :: _)) from hS.sp)) ?_; rintro u' w' ⟨rfl, hS⟩; refine Q36 ?_; refine Q19 vw (Q4 (n := 2) (by kernel_rfl) (by kernel_rfl) (hS.blkAt fd) (by rfl) (by rfl)) ?_; exact ⟨_, rfl, .inl ⟨hmo, rfl, hS.sp⟩⟩; refine Q4J (by intro h; cases h) (by kernel_rfl) (step1_s (c := c.tick) (a := (msOf h g fr inp out fu).place m) (show St cx _ (catS p p1 p2 p3 _ (blk p 55 c.tick.cells :: _)) from hS.sp)) ?_; rintro u' w' ⟨rfl, hS⟩; refine Q36 ?_; refine Q19 vw (Q4 (n := 2) (by kernel_rfl) (by kernel_rfl) (hS.blkAt fd) (by rfl) (by rfl)) ?_; exact ⟨_, rfl, .inr ⟨hmo, .inr (.inr ⟨hX, rfl, hS.sp⟩)⟩⟩; refine Q4J (by intro h; cases h) (by kernel_rfl) (Qbh (c := c.tick) (a := (msOf h g fr inp out fu).place m) (show St cx _ (catS p p1 p2 p3 _ (blk p 55 c.tick.cells :: _)) from hS.sp)) ?_; rintro u' w' ⟨rfl, hS⟩; refine Q36 ?_; refine Q19 vw (Q4 (n := 2) (by kernel_rfl) (by kernel_rfl) (hS.blkAt fd) (by rfl) (by rfl)) ?_; exact ⟨_, rfl, .inr ⟨hmo, .inr (.inl ⟨e, hX, rfl, fr', g', N', hN', hS.sp⟩)⟩⟩) (h := ?_); rintro u1 w1 ⟨hmo, hG⟩; obtain ⟨rfl, hG⟩ := hG.tup; obtain ⟨M, hS, hK⟩ := hG.form; have hS : St cx _ (catS p p1 p2 p3 ((msOf h g fr inp out fu).place m) (L ++ M)) := St.app hS)
 all_goals (refine ZaS ?_; refine zb0 [_, _] ?_; refine zsn hS ?_; intro w1 hS; have hS := hS.ns; refine ZaX ?_)
 all_goals (refine q_retD ?_; refine Q4J (by intro h; cases h) (by kernel_rfl) (step1_n hS) ?_; rintro u1 w1 ⟨rfl, hS⟩; refine Q36 ?_)
 all_goals (refine Q19 vw (Q4 (n := 2) (by kernel_rfl) (by kernel_rfl) (hS.blkAt fd) (by rfl) (by rfl)) ?_; exact ⟨_, rfl, .inr ⟨hmo, .inl ⟨rfl, hK _ _ (St.app (L := M) (M := L) (show St cx _ (L ++ M) from hS.drop.drop.drop))⟩⟩⟩)
theorem Qah (hc : c.dn = true ∨ c.c ≠ 0) (hS : St cx w (blk p 55 c.cells :: L)) : Rets Tryz.prog Q1P [.pointer (some ⟨p, 0, none⟩)] w fun u w' => u = fltV (c.c, c.a) ∧ St cx w' (blk p 55 c.cells :: L) := by
 cases hdn : c.dn
 all_goals (first | (have hc9 : c.c ≠ 0 := hc.resolve_left (by rw [hdn]; decide)) | skip)
 all_goals
  all_goals refine lgd tyD Tryz.func23 ?_
  all_goals (refine QaN ?_; refine d_pl ?_; refine Qn ?_; refine zb hS ?_; intro p1 w1 hS; refine Qg hS ?_; intro p2 w1 hS; refine zn ?_; refine QaN ?_; refine d_pl ?_; refine Zaa ?_; refine zl hS ?_; refine znc ?_; refine zf0 ?_; refine zl hS ?_; rw [hdn]; refine zm ?_; (first | refine zgn ?_ | (refine zgy ?_; refine zl hS ?_)); (first | refine zgn ?_ | (refine ZaQ ?_)); (first | refine zgn ?_ | (refine zgy ?_; refine zf0 ?_)); (first | refine zgn ?_ | (refine Zaj ?_)); (first | refine zgn ?_ | (refine zgy ?_; refine zl hS ?_)))
  all_goals (first | refine zgn ?_ | (refine zgy ?_; refine QC ?_))
  all_goals (refine Zaf ?_)
  all_goals refine zct ?_
  all_goals (refine Zaa ?_; refine zl hS ?_; refine znc ?_; refine zf0 ?_; refine zv hS ?_; refine zsn hS ?_; intro w1 hS; have hS := hS.ns; refine ZaX ?_; refine q_retD ?_; refine Q36 ?_; refine Q19 vw (Q4 (n := 2) (by kernel_rfl) (by kernel_rfl) (hS.blkAt fd) (by rfl) (by rfl)) ?_; exact ⟨_, rfl, rfl, hS.sp⟩)
end Go.Proofs.YteflkifmgnpbhaaGreat
namespace Go.Proofs.YteflkifmgnpbhaaGreat
open Go.Lir
set_option maxHeartbeats 1000000
attribute [local irreducible] LC.wp Q0 QF QE retQ Q16 LO.wp Qf Calls
set_option linter.unusedSimpArgs false
set_option linter.unusedVariables false
variable {cx : Cx} {w : World} {L : List Res} {p N : Nat} {c : MC} {fr : List FrmV} {g : FrmV} {h : HpS} {out inp : List Int} {fu : Nat} {m : Module}
theorem done_c (hS : St cx w (blk p 55 c.cells :: L)) : Rets Tryz.prog Q4P [.pointer (some ⟨p, 0, none⟩)] w fun u w' => u = .bool c.dn ∧ St cx w' (blk p 55 c.cells :: L) := by
 all_goals refine lgo tyD Tryz.func25 ?_
 all_goals (refine Zbb ?_; refine znc ?_; refine zf0 ?_; refine zl hS ?_; refine Zah ?_; exact ⟨_, rfl, rfl, hS.sp⟩)
theorem Q3a {l : List Int} (hb : l.length ≤ 1000000) {v : Value} (hl : intR.sl cx v l) (hS : St cx w L) : Rets Tryz.prog Q30 [v] w fun u w' => ∃ c', cx.Le c' ∧ intR.sl c' u l ∧ St c' w' L := by
 obtain ⟨a, c, hv⟩ := Rep.SR.shape hl
 cases a with
 | none =>
   have hl0 := Rep.SR.nil_of hl hv
   subst hl0
   subst hv
   all_goals refine lgo tyD Tryz.func65 ?_
   all_goals (refine Zbk ?_; refine Q55 (e := 2) (by kernel_rfl) rfl rfl ?_; refine zn ?_)
   all_goals
    first
    | (refine zct ?_
       all_goals (refine Zaq ?_)
       all_goals (exact ⟨_, rfl, cx, St.refl hS, Rep.SR.nil _ _ _, hS⟩))
   all_goals (refine Zaa ?_; fail "no law for buildSlice"; refine zm ?_; refine za Q5x Q8E hS ?_; intro vp1 w1 css1 hls1 hv1 hS; have hS := hS.ns; refine Zah ?_; exact ⟨_, rfl, cx, St.refl hS, Rep.SR.nil _ _ _, hS⟩)
 | some a =>
   have hn : intR.ls cx [] [] := Rep.LR.nil _ _ _
   all_goals refine lgo tyD Tryz.func65 ?_
   all_goals (refine Zbk ?_; refine Q55 (e := 2) (by kernel_rfl) hv rfl ?_; refine zn ?_)
   all_goals refine zcf ?_
   all_goals (refine zsk ?_; refine Zaa ?_; refine Q8M Q5x ?_; intro v1 w1 hf1 hs1 hz1; have hS := hS.new (r := sl 2 1 v1 []) hs1 hf1 (fun b hb => Nat.le_of_eq hb.symm); refine zm ?_; (first | (refine za Q5x Q8E hS ?_; intro vp1 w1 css1 hls1 hv1 hS; have hS := hS.ns) | (refine zak Q5x Q8E hS ?_; intro vp1 w1 css1 hls1 hv1 hS; have hS := hS.ns)); refine Zah ?_; obtain ⟨c3, hle3, hS, hl3⟩ := St.freezeL (r := intR) (l := l) (T := 2) (es := 1) (L := L) hS.sp hls1 rfl (by omega); exact ⟨_, rfl, c3, hle3, hl3, hS⟩)
theorem Q65 {back : List Int} (h1 : back.length ≤ 1000000) (h2 : out.length ≤ 1000000) (hb : intR.sl cx c.bv back) (ho : intR.sl cx c.ov out) (hS : St cx w (blk p 55 c.cells :: L)) :
 Rets Tryz.prog Q2t [.pointer (some ⟨p, 0, none⟩)] w fun u w' => ∃ c' v1 v2, cx.Le c' ∧ u = .agg ⟨[.int .i64 c.e, v1, v2, .int .i64 c.fu]⟩ ∧ intR.sl c' v1 back ∧ intR.sl c' v2 out ∧ St c' w' (blk p 55 c.cells :: L) := by
 obtain ⟨hp, fn, lv, iv, e0, bv, ov, fu0, mo, dn, cc, ca⟩ := c
 dsimp only [MC.cells] at hb ho hS ⊢
 obtain ⟨ab, nb, rfl⟩ := Rep.SR.shape hb
 obtain ⟨ao, no, rfl⟩ := Rep.SR.shape ho
 all_goals refine lgo tyD Tryz.func29 ?_
 all_goals (refine Zbh ?_; intro p2 w1 hS; refine Zbi ?_; refine znc ?_; refine zf0 ?_; refine zv hS ?_; refine Qg hS ?_; intro p3 w1 hS; refine zsn hS ?_; intro w1 hS; have hS := hS.ns; refine ZaZ ?_; refine zC [(0, none), (1, none), (3, none), (4, none), (2, some (some [4])), (6, none), (5, some (some [])), (7, some none), (8, none), (9, some none)] ?_; have hS := hS.drew; refine s_cq ?_; refine zf0 ?_; refine Zab ?_; refine zl hS ?_; refine Zab ?_; refine zf0 ?_; refine Zab ?_; refine zl hS ?_; refine Zar ?_; refine zR1 (c := Q3a h1 hb hS) (h := ?_); rintro v1 w1 ⟨c1, hle1, hv1, hS⟩; have ho := Rep.SR.up ho hle1; obtain ⟨a1, n1, rfl⟩ := Rep.SR.shape hv1; refine ZaI ?_; refine zf0 ?_; refine Zar ?_; refine zR1 (c := Q3a h2 ho hS) (h := ?_); rintro v2 w2 ⟨c2, hle2, hv2, hS⟩; have hv1 := Rep.SR.up hv1 hle2; obtain ⟨a2, n2, rfl⟩ := Rep.SR.shape hv2; refine Zao ?_)
 all_goals (refine s_cf ?_; refine zst hS ?_; intro w1 hS; have hS := hS.ns; refine Zab ?_; refine zf0 ?_; refine Zax ?_; refine zst hS ?_; intro w1 hS; have hS := hS.ns; refine Zaw ?_; refine Zaa ?_; refine zv hS ?_; refine zsn hS ?_; intro w1 hS; have hS := hS.ns; refine ZaX ?_; refine Q19 vw (Q4 (n := 4) (by kernel_rfl) (by kernel_rfl) (hS.blkAt fd) (by rfl) (by rfl)) ?_; exact ⟨_, rfl, c2, _, _, hle1.trans hle2, rfl, hv1, hv2, hS.sp⟩)
end Go.Proofs.YteflkifmgnpbhaaGreat
