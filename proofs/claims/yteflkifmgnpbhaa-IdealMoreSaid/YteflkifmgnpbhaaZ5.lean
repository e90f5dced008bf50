/- Lemmas of the proof, part 5: what the functions of the program do (contracts), and what follows. -/
import Derived.Test.YteflkifmgnpbhaaZ2
import Derived.Test.YteflkifmgnpbhaaZ4
import Derived.Test.YteflkifmgnpbhaaZ3
import Derived.Lib.Strings
import Derived.Test.YteflkifmgnpbhaaZ1
namespace Go.Lir
theorem place_i {m : Module} {s : MS} {f : Fun} {b : Block} (hf : m.funcs[s.g.f]? = some f) (hb : f.blocks[s.g.b]? = some b) (h : s.g.i < b.code.length) : s.place m = Qjz s.g.f s.g.b s.g.i := by
  unfold MS.place; simp only [hf, hb]; exact if_pos h
theorem place_e {m : Module} {s : MS} {f : Fun} {b : Block} (hf : m.funcs[s.g.f]? = some f) (hb : f.blocks[s.g.b]? = some b) (h : ¬ s.g.i < b.code.length) : s.place m = Qgs s.g.f s.g.b := by
  unfold MS.place; simp only [hf, hb]; exact if_neg h
theorem one_i {m : Module} {s : MS} {f : Fun} {b : Block} {x : Ins} (hf : m.funcs[s.g.f]? = some f) (hb : f.blocks[s.g.b]? = some b) (h : b.code[s.g.i]? = some x) : s.one m = s.next.ins m x := by
  unfold MS.one; simp only [hf, hb, h]
theorem one_e {m : Module} {s : MS} {f : Fun} {b : Block} (hf : m.funcs[s.g.f]? = some f) (hb : f.blocks[s.g.b]? = some b) (h : b.code.length ≤ s.g.i) : s.one m = s.fin f b.fin := by
  unfold MS.one; simp only [hf, hb, List.getElem?_eq_none h]
end Go.Lir
namespace Go.Proofs.Yteflkifmgnpbhaa
open Go.Lir
set_option maxHeartbeats 1000000
attribute [local irreducible] LC.wp Q2 Qy QD retQ Q1n LO.wp Ql Calls
set_option linter.unusedSimpArgs false
set_option linter.unusedVariables false
variable {cx : Cx} {w : World} {L : List Res} {p N : Nat} {c : MC} {fr : List FrmV} {g : FrmV} {h : HpS} {out inp : List Int} {fu : Nat} {m : Module}
@[reducible] def MC.tick (c : MC) : MC := ⟨c.hp, c.fn, c.lv, c.iv, c.e, c.bv, c.ov, c.fu + 1, c.mo, c.dn, c.c, c.a⟩
def InsOK (m : Module) (x : Ins) : Prop := (1 ≤ x.op ∧ x.op ≤ 14) ∧ (x.op = 14 → 0 ≤ x.k ∧ x.k < m.funcs.length) ∧ x.regs.length ≤ 100 ∧ x.args.length ≤ 100
def FinOK (f : Fun) (e : Tail) : Prop := e.args.length ≤ 100 ∧ (1 ≤ e.op ∧ e.op ≤ 3) ∧ (e.op ≠ 3 → ToOK f e.yes) ∧ (e.op = 2 → ToOK f e.no)
attribute [local irreducible] Frm.val Frm.num Frm.args Frm.rgs Frm.reg MS.place Qjz Qgs
theorem place_c {f : Fun} {b : Block} (hfn : funcR.sl cx c.fn m.funcs) (hfx : m.funcs[g.f]? = some f) (hbx : f.blocks[g.b]? = some b) (hf : fr.length ≤ 900) (k1 : g.f ≤ 1000000) (k2 : g.b ≤ 1000000) (k3 : g.i ≤ 1000000) (hS : St cx w (mS p c fr g N h out L)) :
    Rets Try.prog Q1w [.pointer (some ⟨p, 0, none⟩)] w fun u w' => u = .int .i64 ((msOf h g fr inp out fu).place m) ∧ St cx w' (mS p c fr g N h out L) := by
  have hgf := (List.getElem?_eq_some_iff.1 hfx).1
  have hgb := (List.getElem?_eq_some_iff.1 hbx).1
  all_goals refine Q5e ?_
  all_goals (unfold ideal_Machine_place_lc; refine Q0 ?_; refine Q1 ?_; refine zm ?_; refine zn ?_; refine Q0 ?_; refine Q1 ?_; refine zm ?_; refine zR1 (c := Q5v (by omega) hS) (h := ?_); rintro v1 w1 ⟨b9, o9, rfl, hel, hS⟩; refine zm ?_; refine zn ?_; refine Q0 ?_; refine Q0 ?_; refine zD [(0, none), (1, none), (2, none), (3, none), (4, none), (5, none), (6, none), (7, none), (8, none), (9, none), (10, none), (11, none), (12, none), (13, none), (14, none), (15, none), (16, none), (17, none), (18, none), (19, none), (20, none), (21, none), (22, none), (23, none), (24, some none)] ?_; have hS := hS.drew; refine zm ?_; refine znc ?_; (first | refine zf0 ?_ | refine zfd ?_); refine Q5 (j := 2) hS hel rfl fd (Qa fr g) (Qe fr g) rfl ?_; refine zm ?_; refine znc ?_; refine zf0 ?_; (first | refine zf0 ?_ | refine zfd ?_); refine zl hS ?_; refine zm ?_; refine znc ?_; (first | refine zf0 ?_ | refine zfd ?_); refine Q4E hS hel rfl fd (Qa fr g) (Qe fr g) rfl ?_; refine zi ?_; intro b8 o8 cs8 x8 hat8 hx8 he8; obtain rfl : x8 = f := Option.some.inj (hx8.symm.trans hfx); obtain ⟨vp8, vr8, vb8, rfl, hp8, hr8, hb8⟩ := QW he8; (first | refine zf0 ?_ | refine zfd ?_); (first | (refine zl hS ?_) | (refine zlk hS ?_) | (refine zlj hS ?_)))
  all_goals (refine zm ?_; refine znc ?_; (first | refine zf0 ?_ | refine zfd ?_); refine Q5 (j := 1) hS hel rfl fd (Qa fr g) (Qe fr g) rfl ?_; refine zi ?_; intro b7 o7 cs7 x7 hat7 hx7 he7; obtain rfl : x7 = b := Option.some.inj (hx7.symm.trans hbx); obtain ⟨vp7, vc7, u1, u2, u3, u4, u5, rfl, hp7, hc7, hu1, hu2, hu3, hu4, hu5⟩ := Q3m he7; (first | refine zf0 ?_ | refine zfd ?_); (first | (refine zl hS ?_) | (refine zlk hS ?_) | (refine zlj hS ?_)); refine zL ?_)
  all_goals (first | (refine Q1G ?_) | (refine Q1N ?_) | (refine QJ rfl rfl (fun hc => ?_) (fun hc => ?_)))
  all_goals (refine zn ?_)
  all_goals
    first
    | (refine zct ?_ -- Q1w c0
       all_goals (refine Q0 ?_; have hX := place_i (m := m) (s := msOf h g fr inp out fu) hfx hbx (by show g.i < x7.code.length; omega); refine zD [(0, none), (1, none), (2, none), (3, none), (4, none), (5, none), (6, none), (7, none), (8, none), (9, none), (10, none), (11, none), (12, some none), (13, some none)] ?_; have hS := hS.drew; refine zm ?_; refine znc ?_; (first | refine zf0 ?_ | refine zfd ?_); refine Q4E hS hel rfl fd (Qa fr g) (Qe fr g) rfl ?_; refine zm ?_; refine znc ?_; (first | refine zf0 ?_ | refine zfd ?_); refine Q5 (j := 1) hS hel rfl fd (Qa fr g) (Qe fr g) rfl ?_; refine zm ?_; refine znc ?_; (first | refine zf0 ?_ | refine zfd ?_); refine Q5 (j := 2) hS hel rfl fd (Qa fr g) (Qe fr g) rfl ?_; refine zR3 (c := Qll g.f g.b g.i k1 k2 k3 hS) (h := ?_); rintro v1 w1 ⟨rfl, hS⟩; refine zm ?_; refine zn ?_; refine zr ?_; refine zf ?_)
       all_goals (refine ⟨_, rfl, ?_, hS.sp⟩; rw [hX]; rfl; done))
    | (refine zcf ?_ -- Q1w c0
       all_goals refine zsk ?_)
  all_goals (refine Q0 ?_; have hX := place_e (m := m) (s := msOf h g fr inp out fu) hfx hbx (by show ¬ g.i < x7.code.length; omega); refine zD [(0, none), (1, none), (2, none), (3, none), (4, none), (5, none), (6, none), (7, none), (8, some none), (9, some none)] ?_; have hS := hS.drew; refine zm ?_; refine znc ?_; (first | refine zf0 ?_ | refine zfd ?_); refine Q4E hS hel rfl fd (Qa fr g) (Qe fr g) rfl ?_; refine zm ?_; refine znc ?_; (first | refine zf0 ?_ | refine zfd ?_); refine Q5 (j := 1) hS hel rfl fd (Qa fr g) (Qe fr g) rfl ?_; refine zR2 (c := Qlm g.f g.b k1 k2 hS) (h := ?_); rintro v1 w1 ⟨rfl, hS⟩; refine zm ?_; refine zn ?_; refine zr ?_; refine zf ?_; refine ⟨_, rfl, ?_, hS.sp⟩; rw [hX]; rfl; done)
attribute [local irreducible] MS.ins MS.fin MS.one GoS BadS DoneS OkS
theorem one_c {f : Fun} {b : Block} (hfn : funcR.sl cx c.fn m.funcs) (hi : intR.sl cx c.iv inp) (hfx : m.funcs[g.f]? = some f) (hbx : f.blocks[g.b]? = some b) (hci : ∀ x ∈ b.code, InsOK m x) (hce : FinOK f b.fin) (hgi : g.i ≤ 1000) (hf : fr.length ≤ 900) (hn : g.vals.length ≤ 800000) (hrn : g.regs.length ≤ 800000) (hfr : ∀ x ∈ fr, x.vals.length ≤ 900000) (hN : N ≤ 99999) (hol : out.length ≤ 2000) (hfu : 0 ≤ c.fu ∧ c.fu ≤ 10000000) (hS : St cx w (mS p c fr g N h out L)) :
    Fins Try.prog Q1U [.pointer (some ⟨p, 0, none⟩)] w (fun u w' => c.fu ≠ c.mo ∧ OkS p c.tick N h out fu ((msOf h g fr inp out fu).one m) cx L u w')
      (fun u w' => (c.fu = c.mo ∧ u = Qk1 7 ∧ St cx w' (mS p c fr g N h out L)) ∨ (c.fu ≠ c.mo ∧ BadS p c.tick N h out ((msOf h g fr inp out fu).one m) cx L u w')) := by
  have hgf := (List.getElem?_eq_some_iff.1 hfx).1
  have hgb := (List.getElem?_eq_some_iff.1 hbx).1
  unfold Fins
  all_goals refine Q8p ?_
  all_goals (unfold ideal_Machine_one_lc; refine Q0 ?_; refine zD [(0, none), (1, none), (2, none), (3, none), (4, none), (5, none), (6, none), (7, none), (8, none), (9, none), (10, some none)] ?_; have hS := hS.drew; refine zm ?_; refine znc ?_; refine zf0 ?_; (first | refine zf0 ?_ | refine zfd ?_); refine zl hS ?_; refine zm ?_; refine znc ?_; refine zf0 ?_; refine zl hS ?_)
  all_goals (first | (refine Qx ?_) | (refine QE ?_) | (refine Qb rfl rfl (fun hc => ?_) (fun hc => ?_)))
  all_goals (first | (refine zR2 (c := Q7B hS) (h := ?_); rintro v1 w1 ⟨rfl, hS⟩) | (refine zE2 (c := Q7A hS) (p := by rintro v9 w9 ⟨rfl, hS⟩; (repeat (first | refine Qc ?_ | refine Qd ?_ | refine fun _ => ?_)); refine Qp ?_; refine .inr ⟨_, rfl, ?_⟩; first | (exact .inl ⟨by omega, rfl, hS.sp⟩)) (h := fun _ _ h => h.elim)))
  all_goals (refine zn ?_; refine Q0 ?_; have hmo : c.fu ≠ c.mo := (by omega); refine Q1 ?_; refine zm ?_; refine znc ?_; refine zf0 ?_; (first | refine zf0 ?_ | refine zfd ?_); refine zl hS ?_; refine zad ?_; refine znc ?_; refine zf0 ?_; (first | refine zf0 ?_ | refine zfd ?_); refine zst hS ?_; intro w1 hS; have hS := hS.ns; refine zn ?_; refine Q0 ?_; refine Q1 ?_; refine zm ?_; have hS : St cx _ (mS p c.tick fr g N h out L) := hS.sp; refine zR1 (c := Q5v (by omega) hS) (h := ?_); rintro v1 w1 ⟨b9, o9, rfl, hel, hS⟩; refine zm ?_; refine zn ?_; refine Q0 ?_; refine zC [(0, none), (1, none), (2, none), (3, none), (4, none), (5, none), (6, none), (7, none), (8, none), (9, none), (10, none), (11, none), (12, none), (13, none), (14, none), (15, none), (16, none), (17, none), (18, some (some [4, 8, 11, 15, 17])), (19, some none)] ?_; have hS := hS.drew; refine s_cq ?_; refine zm ?_; refine zt ?_; refine s_cq ?_; refine znc ?_; refine zt ?_; refine s_cq ?_; refine zf0 ?_; refine zt ?_; refine s_cq ?_; (first | refine zf0 ?_ | refine zfd ?_))
  all_goals (refine zt ?_; refine s_cq ?_; refine zl hS ?_; refine zt ?_; refine s_cq ?_; refine zm ?_; refine zt ?_; refine s_cq ?_; refine znc ?_; refine zt ?_; refine s_cq ?_; (first | refine zf0 ?_ | refine zfd ?_); refine zt ?_; refine s_cq ?_; refine Q4E hS hel rfl fd (Qa fr g) (Qe fr g) rfl ?_; refine zt ?_; refine s_cq ?_; refine zi ?_; intro b8 o8 cs8 x8 hat8 hx8 he8; obtain rfl : x8 = f := Option.some.inj (hx8.symm.trans hfx); obtain ⟨vp8, vr8, vb8, rfl, hp8, hr8, hb8⟩ := QW he8; refine zt ?_; refine s_cq ?_; (first | refine zf0 ?_ | refine zfd ?_); refine zt ?_; refine s_cq ?_; (first | (refine zl hS ?_) | (refine zlk hS ?_) | (refine zlj hS ?_)); refine zt ?_; refine s_cq ?_; refine zm ?_; refine zt ?_; refine s_cq ?_; refine znc ?_; refine zt ?_; refine s_cq ?_; (first | refine zf0 ?_ | refine zfd ?_); refine zt ?_; refine s_cq ?_; refine Q5 (j := 1) hS hel rfl fd (Qa fr g) (Qe fr g) rfl ?_; refine zt ?_; refine s_cq ?_; refine zi ?_; intro b7 o7 cs7 x7 hat7 hx7 he7; obtain rfl : x7 = b := Option.some.inj (hx7.symm.trans hbx); obtain ⟨vp7, vc7, u1, u2, u3, u4, u5, rfl, hp7, hc7, hu1, hu2, hu3, hu4, hu5⟩ := Q3m he7; refine zt ?_; refine s_cq ?_; (first | (refine zv hS ?_) | (refine zvk hS ?_)); refine zt ?_)
  all_goals (refine Qi ?_; refine Q8 hS ?_; intro p3 w1 hS; refine zt ?_; refine ⟨List.forall_mem_cons.2 ⟨(by first | (first | exact QP hS hel rfl fd (Qa fr g) (Qe fr g) rfl | exact QP (j := 0) hS hel rfl fd (Qa fr g) (Qe fr g) rfl | exact QP (j := 1) hS hel rfl fd (Qa fr g) (Qe fr g) rfl | exact QP (j := 2) hS hel rfl fd (Qa fr g) (Qe fr g) rfl) | (exact Q3T hS rfl fd rfl)), List.forall_mem_cons.2 ⟨(by (exact QP hS hel rfl fd (Qa fr g) (Qe fr g) rfl)), List.forall_mem_cons.2 ⟨(by first | (first | exact QP hS hel rfl fd (Qa fr g) (Qe fr g) rfl | exact QP (j := 0) hS hel rfl fd (Qa fr g) (Qe fr g) rfl | exact QP (j := 1) hS hel rfl fd (Qa fr g) (Qe fr g) rfl | exact QP (j := 2) hS hel rfl fd (Qa fr g) (Qe fr g) rfl) | (exact Q3T hS rfl fd rfl) | (exact Qak hS (by assumption) rfl rfl) | (exact Qal hS (by assumption) rfl rfl)), List.forall_mem_cons.2 ⟨(by (exact QP hS hel rfl fd (Qa fr g) (Qe fr g) rfl)), List.forall_mem_cons.2 ⟨(by first | (first | exact QP hS hel rfl fd (Qa fr g) (Qe fr g) rfl | exact QP (j := 0) hS hel rfl fd (Qa fr g) (Qe fr g) rfl | exact QP (j := 1) hS hel rfl fd (Qa fr g) (Qe fr g) rfl | exact QP (j := 2) hS hel rfl fd (Qa fr g) (Qe fr g) rfl) | (exact Qaj hS rfl fd rfl rfl) | (exact Q7N hS (by assumption) rfl rfl rfl)), fun _ h => (List.not_mem_nil h).elim⟩⟩⟩⟩⟩, ?_⟩)
  all_goals (refine s_cf ?_; refine zsn hS ?_; intro w1 hS; have hS := hS.ns; refine zt ?_; refine zcn ?_; refine Q0 ?_; refine zD [(0, none), (1, none), (2, none), (3, none), (4, none), (5, none), (6, none), (7, some none)] ?_; have hS := hS.drew; refine zm ?_; refine znc ?_; (first | refine zf0 ?_ | refine zfd ?_); refine Q5 (j := 2) hS hel rfl fd (Qa fr g) (Qe fr g) rfl ?_; refine zf0 ?_; refine zl hS ?_; refine zL ?_)
  all_goals (first | (refine Q1G ?_) | (refine Q1N ?_) | (refine QJ rfl rfl (fun hc => ?_) (fun hc => ?_)))
  all_goals (refine zn ?_)
  all_goals
    first
    | (refine zct ?_ -- Q1U c0
       all_goals (refine zD [(0, none), (1, none), (2, none), (3, none), (4, none), (5, none), (6, none), (7, none), (8, none), (9, some none)] ?_; have hS := hS.drew; refine zm ?_; refine zf0 ?_; refine zl hS ?_; refine zm ?_; refine znc ?_; (first | refine zf0 ?_ | refine zfd ?_); refine Q5 (j := 2) hS hel rfl fd (Qa fr g) (Qe fr g) rfl ?_; refine zi ?_; intro b6 o6 cs6 x6 hat6 hx6 he6; obtain ⟨vr6, va6, rfl, hr6, ha6⟩ := Q2T he6; have hX := one_i (m := m) (s := msOf h g fr inp out fu) hfx hbx hx6; obtain ⟨q1, q2, q3, q4⟩ := hci _ (List.mem_of_getElem? hx6); (first | (refine zv hS ?_) | (refine zvk hS ?_)); refine zE2 (c := mins_c (c := c.tick) (fu := fu) (inp := inp) he6 hfn hi q1 q2 q3 q4 hgi hf hn hrn hN hol (show St cx _ (mS p c.tick fr g N h out _) from hS.sp)) (p := by rintro u9 w9 hB; (repeat (first | refine Qc ?_ | refine Qd ?_ | refine fun _ => ?_)); refine Qp ?_; refine .inr ⟨_, rfl, ?_⟩; exact .inr ⟨hmo, hX ▸ hB.drop⟩) (h := ?_); rintro u7 w7 hG; refine zn ?_)
       all_goals (have hG : OkS p c.tick N h out fu ((msOf h g fr inp out fu).one m) cx L u7 w7 := hX ▸ hG.drop.ok; obtain ⟨rfl, hG⟩ := hG.tup))
    | (refine zcf ?_ -- Q1U c0
       all_goals (have hX := one_e (m := m) (s := msOf h g fr inp out fu) hfx hbx (by show x7.code.length ≤ g.i; omega); obtain ⟨q1, q2, q3, q4⟩ := hce; refine Q1 ?_; refine zm ?_; refine zf0 ?_; refine zv hS ?_; refine zE2 (c := mend_c (c := c.tick) (fu := fu) (inp := inp) (e := x7.fin) ⟨_, _, _, _, _, rfl, hu1, hu2, hu3, hu4, hu5⟩ hfn hi hfx q1 q2 q3 q4 hf hfr (show St cx _ (mS p c.tick fr g N h out _) from hS.sp)) (p := by rintro u9 w9 hB; (repeat (first | refine Qc ?_ | refine Qd ?_ | refine fun _ => ?_)); refine Qp ?_; refine .inr ⟨_, rfl, ?_⟩; exact .inr ⟨hmo, hX ▸ hB.drop⟩) (h := ?_); rintro u7 w7 hG; refine zn ?_)
       all_goals (have hG : OkS p c.tick N h out fu ((msOf h g fr inp out fu).one m) cx L u7 w7 := hX ▸ hG.drop; obtain ⟨rfl, hG⟩ := hG.tup))
  all_goals (refine QG ?_; exact .inl ⟨_, rfl, hmo, hG⟩)
end Go.Proofs.Yteflkifmgnpbhaa
namespace Go.Proofs.Yteflkifmgnpbhaa
open Go.Lir
set_option maxHeartbeats 1000000
attribute [local irreducible] LC.wp Q2 Qy QD retQ Q1n LO.wp Ql Calls
set_option linter.unusedSimpArgs false
set_option linter.unusedVariables false
attribute [local irreducible] orF mkF orC Q2i Q1L Q1y Q2P QU Q2J Q4W Q3E Q4a Qgs Qjz
variable {cx : Cx} {w : World} {L : List Res} {i : Nat}
theorem fault_if (c : Int) : (if decide (c ≠ 0) = true then c else 0) = c := by by_cases h : c = 0 <;> simp [h]
theorem Qkd {l : List Ty} {regs : Int} {v vf : Value} {g : Flt} {at' : Int} {b : Nat} (hl : tyR.sl cx v l) (hS : St cx w L) (hi : nth L i = some (jdg b vf g at')) :
    Rets Try.prog Q7E [.pointer (some ⟨b, 0, none⟩), v, .int .i64 regs] w fun u w' => u = .tuple #[] ∧ St cx w' (L.set i (jdg b vf (orF g (mkF (QU l regs) at')) at')) := by
  have hS := hS.out hi
  have hlen := hl.len
  have e0 : orF g (mkF (QU l regs) at') = orF g (mkF (orC (if 8 < l.length then 2 else 0) (Q9e regs l)) at') := by
    congr 2
    unfold QU
    split
    · rw [QaX (by decide)]
    · rw [Q9g]
  rw [e0]
  all_goals refine Qav ?_
  all_goals (unfold code_judge_list_lc)
  refine zM [0, 1, 2] (fun A ρ' w' => Has ρ' A ∧ Has ρ' [] ∧ St cx w' (jdg b vf (orF g (mkF (if 8 < l.length then 2 else 0) at')) at' :: L.eraseIdx i)) ?_ ?_
  · skip
    all_goals (refine Q1 ?_; refine zm ?_; refine zm ?_; refine zL ?_)
    all_goals (first | (refine QQ ?_) | (refine Q1c ?_) | (refine Qo rfl rfl (fun hc => ?_) (fun hc => ?_)))
    all_goals (refine zR3 (c := Q1Y (by intro _; decide) hS fd) (h := ?_); rintro v1 w1 ⟨rfl, hS⟩; simp only [List.set_cons_zero, List.set_cons_succ, if_true, Bool.false_eq_true, if_false] at hS; refine zn ?_; exact ⟨zh, zh, by first | (rw [if_pos (by omega)]; exact hS.sp) | (rw [if_neg (by omega)]; exact hS.sp)⟩)
  rintro ρ w1 ⟨hA, hρ, hS⟩; obtain ⟨ρ, rfl⟩ := env2 hA hρ
  all_goals (refine Q0 ?_; refine Q1 ?_; refine zm ?_; refine zL ?_; refine zm ?_; refine zn ?_; refine Qh ?_)
  refine zo [0, 2, 14, 15] (fun A ρ' w' => ∃ (j : Nat) (h : Flt), Has ρ' A ∧ Has ρ' [(16, .int .i64 j)] ∧ (j ≤ l.length) ∧ (orF g (mkF (orC (if 8 < l.length then 2 else 0) (Q9e regs l)) at') = orF h (mkF (Q9e regs (l.drop j)) at')) ∧ St cx w' (jdg b vf h at' :: L.eraseIdx i)) (fun ρ' _ => (l.length - iv (ρ' 16)).toNat) ?_ ?_
  · exact ⟨0, _, zh, zh, (by omega), by rw [List.drop_zero, Q2A], hS.sp⟩
  rintro ρ w1 ⟨j, h, hA, hρ, hj, hd, hS⟩; obtain ⟨ρ, rfl⟩ := env2 hA hρ
  unfold Q3U
  all_goals (refine Q0 ?_; refine Q1 ?_; refine Q1h rfl rfl ?_; refine zn ?_; refine Q0 ?_)
  refine Q1g rfl (fun hc => ?_) (fun hc => ?_)
  · skip
    all_goals (refine zsk ?_; refine Q0 ?_; refine Qh ?_; refine Q0 ?_; refine Q1 ?_; refine zi ?_; intro b1 o1 cs1 x1 hat1 hx1 he1; obtain ⟨vl1, rfl, hl1⟩ := Q1v he1; (first | (refine zv hS ?_) | (refine zvk hS ?_)); refine Q8 hS ?_; intro p7 w1 hS; refine zsn hS ?_; intro w1 hS; have hS := hS.ns; refine zn ?_; refine Q0 ?_; refine Q1 ?_; refine zv hS ?_; refine zm ?_; refine zR2 (c := tcheck_c (by assumption) hS) (h := ?_); rintro v1 w1 ⟨rfl, hS⟩; refine zm ?_; refine zn ?_; refine Q1 ?_; refine zm ?_; refine zm ?_; refine QaS rfl rfl ?_; refine zm ?_; refine zR3 (c := Q1Y (by intro h; exact of_decide_eq_true h) hS fd) (h := ?_); rintro v1 w1 ⟨rfl, hS⟩; simp only [List.set_cons_zero, List.set_cons_succ, fault_if] at hS; refine zn ?_; refine Q1 ?_; refine zad ?_; refine zm ?_; refine zn ?_; exact ⟨⟨j + 1, _, zh, zh, (by omega), by rw [hd, Qj hx1, Q9e, ← Q2A], hS.sp⟩, Q1j (by omega)⟩)
  · skip
    all_goals (refine zex ?_; refine QG ?_; refine ⟨_, rfl, rfl, ?_⟩; rw [hd, List.drop_of_length_le (by omega), Q9e, mkF_0, QlM rfl]; exact St.back hS hi)
def fltV (g : Flt) : Value := .agg ⟨[.int .i64 g.1, .int .i64 g.2]⟩
theorem kindne_c {t : Ty} {cs : List Value} (ht : tyR.at cx cs t) (hS : St cx w L) : Rets Try.prog Q3V [.agg ⟨cs⟩] w fun u w' => u = .bool (decide (t.kind ≠ 1)) ∧ St cx w' L := by
  obtain ⟨v, rfl, hl⟩ := Q1v ht
  all_goals refine Qfh ?_
  all_goals (unfold code_Check_1_lc; refine Q0 ?_; refine Q1 ?_; refine zb hS ?_; intro p1 w1 hS; refine zm ?_; refine zn ?_; refine Q0 ?_; refine Q1 ?_; refine zf0 ?_; refine zl hS ?_; refine QaS rfl rfl ?_; refine zm ?_; refine zn ?_; refine zr ?_; refine zf ?_; refine ⟨_, rfl, ?_, hS.sp⟩; (rfl); done)
theorem pcont_c {l : List Ty} {v : Value} (hl : tyR.sl cx v l) (hS : St cx w L) : Rets Try.prog Q1f [v, .func (.func Q3V) #[] #[]] w fun u w' => ∃ q, u = .bool q ∧ (q = true ↔ ∃ t ∈ l, t.kind ≠ 1) ∧ St cx w' L := by
  have hlen := hl.len
  have hidx : ∀ {w : World} {L : List Res}, St cx w L → Rets Try.prog Qw [v, .func (.func Q3V) #[] #[]] w fun u w' => ∃ r : Int, u = .int .i64 r ∧ (0 ≤ r ↔ ∃ t ∈ l, t.kind ≠ 1) ∧ St cx w' L := by
    intro w L hS
    all_goals refine Q27 ?_
    all_goals (unfold slices_IndexFunc_api_Type_api_Type_lc; refine Q0 ?_; refine Q1 ?_; refine zm ?_; refine zn ?_; refine Q0 ?_; refine Q0 ?_; refine Q1 ?_; refine zm ?_; refine zL ?_; refine zm ?_; refine zn ?_; refine Qh ?_)
    refine zoL hS [0, 1, 7] (fun A LL ρ' w' => ∃ (j : Nat), Has ρ' A ∧ Has ρ' [(8, .int .i64 j)] ∧ (j ≤ l.length) ∧ (∀ t ∈ l.take j, t.kind = 1) ∧ St cx w' (LL)) (fun ρ' _ => (l.length - iv (ρ' 8)).toNat) ?_ ?_
    · exact ⟨0, zh, zh, (by omega), by simp, hS.sp⟩
    rintro ρ w1 ⟨j, hA, hρ, hj, hd, hS⟩; obtain ⟨ρ, rfl⟩ := env2 hA hρ
    unfold Q1e
    all_goals (refine Q0 ?_; refine Q1 ?_; refine Q1h rfl rfl ?_; refine zn ?_; refine Q0 ?_)
    refine Q1g rfl (fun hc => ?_) (fun hc => ?_)
    · skip
      all_goals (refine zsk ?_; refine Q0 ?_; refine Qh ?_; refine Q0 ?_; refine Q1 ?_; refine zm ?_; refine zm ?_; refine zn ?_; refine Q0 ?_; refine Q1 ?_; refine zm ?_; refine zm ?_; refine zm ?_; refine zi ?_; intro b1 o1 cs1 x1 hat1 hx1 he1; obtain ⟨vl1, rfl, hl1⟩ := Q1v he1; (first | (refine zv hS ?_) | (refine zvk hS ?_)))
      all_goals (refine Qmq rfl (by kernel_rfl) (by rfl) (kindne_c he1 hS) ?_; rintro v1 w1 ⟨rfl, hS⟩; (cases hdec : decide (x1.kind ≠ 1)); have hg := of_decide_eq_false hdec; rotate_left; have hg := of_decide_eq_true hdec; all_goals skip)
      all_goals (refine zn ?_)
      all_goals
        first
        | (refine zct ?_ -- Qw c1
           all_goals (refine Q0 ?_; refine Q1 ?_; refine zm ?_; refine zm ?_; refine zn ?_; refine zr ?_; refine zf ?_)
           all_goals (exact ⟨_, rfl, j, rfl, ⟨fun _ => ⟨x1, List.mem_of_getElem? hx1, hg⟩, fun _ => by omega⟩, hS.sp⟩))
        | (refine zcf ?_ -- Qw c1
           all_goals refine zsk ?_)
      all_goals (refine Q1 ?_; refine zad ?_; refine zm ?_; refine zn ?_; exact ⟨⟨j + 1, zh, zh, (by omega), Qe8 hd hx1 (Classical.not_not.1 hg), hS.sp⟩, Q1j (by omega)⟩)
    · skip
      all_goals (refine zex ?_; refine Q0 ?_; refine Q1 ?_; refine zm ?_; refine zn ?_; refine zr ?_; refine zf ?_)
      all_goals (first | (exact ⟨_, rfl, j, rfl, ⟨fun _ => ⟨x1, List.mem_of_getElem? hx1, hg⟩, fun _ => by omega⟩, hS.sp⟩) | (exact ⟨_, rfl, -1, rfl, ⟨fun h => by omega, fun ⟨t, ht, hk⟩ => absurd (Qe7 hd (by omega) t ht) hk⟩, hS.sp⟩))
  all_goals refine Q1J ?_
  all_goals (unfold slices_ContainsFunc_api_Type_api_Type_lc; refine Q0 ?_; refine Q1 ?_; refine zm ?_; refine zn ?_; refine Q0 ?_; refine Q1 ?_; refine zm ?_; refine zm ?_; refine zR2 (c := hidx hS) (h := ?_); rintro v1 w1 ⟨r, rfl, hr, hS⟩)
  all_goals (first | (refine Q7T ?_) | (refine QaN ?_) | (refine Q34 rfl rfl (fun hc => ?_) (fun hc => ?_)))
  all_goals (refine zm ?_; refine zn ?_; refine zr ?_; refine zf ?_)
  all_goals (first | (exact ⟨_, rfl, _, rfl, ⟨fun _ => hr.1 (by omega), fun _ => rfl⟩, hS.sp⟩) | (exact ⟨_, rfl, _, rfl, ⟨fun h => Bool.noConfusion h, fun h => by have := hr.2 h; omega⟩, hS.sp⟩))
theorem Qnd {g : Flt} {a : Int} {x : Fun} {b : Nat} {y : Block} {q : Bool} (hq : q = true ↔ (b = 0 ∧ (y.regs ≠ x.regs ∨ y.params ≠ x.params))) :
    orF (orF (orF (orF g (mkF (if y.regs < x.regs ∨ 16 < y.regs then 1 else 0) a)) (mkF (QU y.params y.regs) a)) (mkF (if q = true then 9 else 0) a)) (mkF (if 40 < y.code.length then 2 else 0) a) = orF g (mkF (Q2J x b y) a) := by
  rw [Q2A, Q2A, Q2A]
  congr 2
  unfold Q2J
  by_cases h0 : y.regs < x.regs ∨ 16 < y.regs
  · rw [if_pos h0, if_pos h0]; simp only [QaX (show (1 : Int) ≠ 0 by decide)]
  · rw [if_neg h0, if_neg h0, Q9g]
    by_cases h : QU y.params y.regs ≠ 0
    · rw [if_pos h]; simp only [QaX h]
    · rw [if_neg h, Classical.not_not.1 h, Q9g]
      by_cases hb : b = 0 ∧ (y.regs ≠ x.regs ∨ y.params ≠ x.params)
      · rw [if_pos hb, if_pos (hq.2 hb)]; simp only [QaX (show (9 : Int) ≠ 0 by decide)]
      · rw [if_neg hb, if_neg (fun h => hb (hq.1 h)), Q9g]
theorem pblock_c {fs : List Fun} {f b : Nat} {x : Fun} {y : Block} {vf : Value} {g : Flt} {a : Int} {p : Nat} (hxf : fs[f]? = some x) (hyb : x.blocks[b]? = some y) (hf0 : f ≤ 1000000) (hb0 : b ≤ 1000000) (hlc : y.code.length ≤ 100000) (hf : funcR.sl cx vf fs) (hS : St cx w L) (hi : nth L i = some (jdg p vf g a)) :
    Rets Try.prog Q2f [.pointer (some ⟨p, 0, none⟩), .int .i64 f, .int .i64 b] w fun u w' => u = .tuple #[] ∧ ∃ a', St cx w' (L.set i (jdg p vf (orF g (Q4u fs.length f x b y)) a')) := by
  have hflt := (List.getElem?_eq_some_iff.1 hxf).1
  have hblt := (List.getElem?_eq_some_iff.1 hyb).1
  have hS := hS.out hi
  all_goals refine Q9J ?_
  all_goals (unfold code_judge_block_lc; refine Q0 ?_; refine Q1 ?_; refine zm ?_; refine znc ?_; refine zf0 ?_; refine zf0 ?_; refine zl hS ?_; refine zm ?_; refine zi ?_; intro b1 o1 cs1 x1 hat1 hx1 he1; obtain ⟨vp1, vr1, vb1, rfl, hp1, hr1, hb1⟩ := QW he1; (first | (refine zv hS ?_) | (refine zvk hS ?_)); refine Q8 hS ?_; intro p6 w1 hS; refine zsn hS ?_; intro w1 hS; have hS := hS.ns; refine zn ?_; have e1 : x = x1 := Option.some.inj (hxf.symm.trans hx1); subst e1; refine Q0 ?_; refine Q1 ?_; refine zf0 ?_; refine zl hS ?_; refine zm ?_; refine zi ?_; intro b2 o2 cs2 x2 hat2 hx2 he2; obtain ⟨vp2, vc2, ve21, ve22, ve23, ve24, ve25, rfl, hp2, hc2, he21, he22, he23, he24, he25⟩ := Q3m he2; (first | (refine zv hS ?_) | (refine zvk hS ?_)); refine Q8 hS ?_; intro p7 w1 hS; refine zsn hS ?_; intro w1 hS; have hS := hS.ns; refine zn ?_; have e2 : y = x2 := Option.some.inj (hyb.symm.trans hx2); subst e2)
  refine zM [0, 1, 2, 6, 7] (fun A ρ' w' => Has ρ' A ∧ Has ρ' [] ∧ St cx w' (blk p7 50 [.int .i64 y.regs, vp2, vc2, .int .i64 y.fin.op, .int .i64 y.fin.a, .int .i64 y.fin.yes.block, ve21, ve22, .int .i64 y.fin.no.block, ve23, ve24, ve25] :: blk p6 53 [.int .i64 x.regs, vp1, vr1, vb1] :: jdg p vf g (Q4a f b) :: L.eraseIdx i)) ?_ ?_
  · skip
    all_goals (refine Q1 ?_; refine zm ?_; refine zm ?_; refine zm ?_; refine zR2 (c := QlL f b hf0 hb0 hS) (h := ?_); rintro v1 w1 ⟨rfl, hS⟩; refine znc ?_; refine zf0 ?_; refine zst hS ?_; intro w1 hS; have hS := hS.ns; refine zn ?_; exact ⟨zh, zh, hS.sp⟩)
  rintro ρ w1 ⟨hA, hρ, hS⟩; obtain ⟨ρ, rfl⟩ := env2 hA hρ
  refine zM [0, 1, 2, 6, 7] (fun A ρ' w' => Has ρ' A ∧ Has ρ' [] ∧ St cx w' (blk p7 50 [.int .i64 y.regs, vp2, vc2, .int .i64 y.fin.op, .int .i64 y.fin.a, .int .i64 y.fin.yes.block, ve21, ve22, .int .i64 y.fin.no.block, ve23, ve24, ve25] :: blk p6 53 [.int .i64 x.regs, vp1, vr1, vb1] :: jdg p vf (orF g (mkF (if y.regs < x.regs ∨ 16 < y.regs then 1 else 0) (Q4a f b))) (Q4a f b) :: L.eraseIdx i)) ?_ ?_
  · skip
    all_goals (refine Q1 ?_; refine zm ?_; refine zf0 ?_; refine zl hS ?_; refine zf0 ?_; refine zl hS ?_)
    all_goals (first | (refine Q1G ?_) | (refine Q1N ?_) | (refine QJ rfl rfl (fun hc => ?_) (fun hc => ?_)))
    all_goals (refine zm ?_; (first | refine zgn ?_ | (refine zgy ?_; refine zf0 ?_)); (first | refine zgn ?_ | (refine zgy ?_; refine zl hS ?_)))
    all_goals (first | refine zgn ?_ | (refine zgy ?_; (first | (refine QQ ?_) | (refine Q1c ?_) | (refine Qo rfl rfl (fun hc => ?_) (fun hc => ?_)))))
    all_goals ((first | (refine zpt ?_) | (refine zpf ?_)); refine zR3 (c := Q1Y (g := _) (by intro _; decide) hS fd) (h := ?_); rintro v1 w1 ⟨rfl, hS⟩; simp only [List.set_cons_zero, List.set_cons_succ, if_true, Bool.false_eq_true, if_false] at hS; refine zn ?_; exact ⟨zh, zh, by first | (rw [if_pos (by omega)]; exact hS.sp) | (rw [if_neg (by omega)]; exact hS.sp)⟩)
  rintro ρ w1 ⟨hA, hρ, hS⟩; obtain ⟨ρ, rfl⟩ := env2 hA hρ
  all_goals (refine Q0 ?_; refine Q1 ?_; refine zm ?_; refine zf0 ?_; refine zl hS ?_; refine zf0 ?_; refine zl hS ?_; refine zR3 (c := Qkd hp2 hS fd) (h := ?_); rintro v1 w1 ⟨rfl, hS⟩; have hS := hS.ns; refine zn ?_; refine Q0 ?_; refine Q1 ?_)
  refine zKL hS 18 [0, 1, 2, 6, 7] (fun A LL ρ' w' => ∃ (q : Bool), Has ρ' A ∧ Has ρ' [(46, .pointer (some ⟨p, 0, none⟩)), (63, .bool q)] ∧ (q = true ↔ (b = 0 ∧ (y.regs ≠ x.regs ∨ y.params ≠ x.params))) ∧ St cx w' (LL)) ?_ ?_
  · skip
    all_goals (refine zm ?_; refine zm ?_)
    all_goals (first | (refine Qx ?_) | (refine QE ?_) | (refine Qb rfl rfl (fun hc => ?_) (fun hc => ?_)))
    all_goals (refine zm ?_; (first | refine zgn ?_ | (refine zgy ?_; refine zf0 ?_)); (first | refine zgn ?_ | (refine zgy ?_; refine zl hS ?_)); (first | refine zgn ?_ | (refine zgy ?_; refine zf0 ?_)); (first | refine zgn ?_ | (refine zgy ?_; refine zl hS ?_)))
    all_goals (first | refine zgn ?_ | (refine zgy ?_; (first | (refine Q1o ?_) | (refine Q1B ?_) | (refine Q1b rfl rfl (fun hc => ?_) (fun hc => ?_)))))
    all_goals ((first | refine zgn ?_ | (refine zgy ?_; refine zm ?_)); (first | refine zgn ?_ | (refine zgy ?_; refine zf0 ?_)); (first | refine zgn ?_ | (refine zgy ?_; refine zl hS ?_)); (first | refine zgn ?_ | (refine zgy ?_; refine zf0 ?_)); (first | refine zgn ?_ | (refine zgy ?_; refine zl hS ?_)))
    all_goals (first | refine zgn ?_ | (refine zgy ?_; refine zR3 (c := eqfT_c (by kernel_rfl) (fun a _ b _ {_ _ _ _} h1 h2 h3 => psame_c a b h1 h2 h3) hp2 hp1 hS) (h := ?_); rintro v1 w1 ⟨rfl, hS⟩; (cases hdec : decide (y.params = x.params)); have hg := of_decide_eq_false hdec; rotate_left; have hg := of_decide_eq_true hdec; all_goals skip))
    all_goals ((first | refine zgn ?_ | (refine zgy ?_; refine znt ?_)); (first | refine zgn ?_ | (refine zgy ?_; (first | (refine zpt ?_) | (refine zpf ?_)))); (first | (refine zpt ?_) | (refine zpf ?_)); refine Q1l ?_; refine Qt ?_)
    all_goals (first | (exact ⟨_, zh, zh, by exact ⟨fun _ => ⟨by omega, .inl (by assumption)⟩, fun _ => rfl⟩, hS.sp⟩) | (exact ⟨_, zh, zh, by exact ⟨fun _ => ⟨by omega, .inr (by assumption)⟩, fun _ => rfl⟩, hS.sp⟩) | (exact ⟨_, zh, zh, by exact ⟨fun h => Bool.noConfusion h, fun h => absurd h.1 (by omega)⟩, hS.sp⟩) | (exact ⟨_, zh, zh, by exact ⟨fun h => Bool.noConfusion h, fun h => h.2.elim (fun h => absurd h (by assumption)) (fun h => absurd (by assumption) h)⟩, hS.sp⟩))
  rintro ρ w1 ⟨q, hA, hρ, hq, hS⟩; obtain ⟨ρ, rfl⟩ := env2 hA hρ
  all_goals (refine zR3 (c := Q1Y (g := _) (by intro _; decide) hS fd) (h := ?_); rintro v1 w1 ⟨rfl, hS⟩; simp only [List.set_cons_zero, List.set_cons_succ, if_true, Bool.false_eq_true, if_false] at hS; refine zn ?_)
  refine zM [0, 1, 2, 6, 7] (fun A ρ' w' => Has ρ' A ∧ Has ρ' [] ∧ St cx w' (blk p7 50 [.int .i64 y.regs, vp2, vc2, .int .i64 y.fin.op, .int .i64 y.fin.a, .int .i64 y.fin.yes.block, ve21, ve22, .int .i64 y.fin.no.block, ve23, ve24, ve25] :: blk p6 53 [.int .i64 x.regs, vp1, vr1, vb1] :: jdg p vf (orF g (mkF (Q2J x b y) (Q4a f b))) (Q4a f b) :: L.eraseIdx i)) ?_ ?_
  · skip
    all_goals (refine Q1 ?_; refine zm ?_; refine zf0 ?_; refine zl hS ?_; refine zL ?_)
    all_goals (first | (refine QQ ?_) | (refine Q1c ?_) | (refine Qo rfl rfl (fun hc => ?_) (fun hc => ?_)))
    all_goals (refine zR3 (c := Q1Y (g := _) (by intro _; decide) hS fd) (h := ?_); rintro v1 w1 ⟨rfl, hS⟩; simp only [List.set_cons_zero, List.set_cons_succ, if_true, Bool.false_eq_true, if_false] at hS; refine zn ?_; exact ⟨zh, zh, by rw [← Qnd hq]; first | (rw [if_pos (c := 40 < y.code.length) (by omega)]; exact hS.sp) | (rw [if_neg (c := 40 < y.code.length) (by omega)]; exact hS.sp)⟩)
  rintro ρ w1 ⟨hA, hρ, hS⟩; obtain ⟨ρ, rfl⟩ := env2 hA hρ
  all_goals (refine Q0 ?_; refine Q0 ?_; refine Q1 ?_; refine zm ?_; refine zn ?_; refine Qh ?_)
  refine zo [0, 1, 2, 6, 7] (fun A ρ' w' => ∃ (j : Nat) (h : Flt) (at2 : Int), Has ρ' A ∧ Has ρ' [(8, .int .i64 j)] ∧ (j ≤ y.code.length) ∧ (orF (orF g (mkF (Q2J x b y) (Q4a f b))) (Q32 fs.length f b 0 y.code) = orF h (Q32 fs.length f b j (y.code.drop j))) ∧ St cx w' (blk p7 50 [.int .i64 y.regs, vp2, vc2, .int .i64 y.fin.op, .int .i64 y.fin.a, .int .i64 y.fin.yes.block, ve21, ve22, .int .i64 y.fin.no.block, ve23, ve24, ve25] :: blk p6 53 [.int .i64 x.regs, vp1, vr1, vb1] :: jdg p vf h at2 :: L.eraseIdx i)) (fun ρ' _ => (y.code.length - iv (ρ' 8)).toNat) ?_ ?_
  · exact ⟨0, _, _, zh, zh, (by omega), by rw [List.drop_zero], hS.sp⟩
  rintro ρ w1 ⟨j, h, at2, hA, hρ, hj, hd, hS⟩; obtain ⟨ρ, rfl⟩ := env2 hA hρ
  unfold Q3D
  all_goals (refine Q0 ?_; refine Q0 ?_; refine Q1 ?_; refine zm ?_; refine zf0 ?_; refine zl hS ?_; refine zL ?_)
  all_goals (first | (refine Q1G ?_) | (refine Q1N ?_) | (refine QJ rfl rfl (fun hc => ?_) (fun hc => ?_)))
  all_goals (refine zm ?_; (first | refine zgn ?_ | (refine zgy ?_; refine zm ?_)); (first | refine zgn ?_ | (refine zgy ?_; refine znc ?_)); (first | refine zgn ?_ | (refine zgy ?_; refine zf0 ?_)); (first | refine zgn ?_ | (refine zgy ?_; (first | refine zf0 ?_ | refine zfd ?_))); (first | refine zgn ?_ | (refine zgy ?_; refine zl hS ?_)))
  all_goals (first | refine zgn ?_ | (refine zgy ?_; (first | (refine Qx ?_) | (refine QE ?_) | (refine Qb rfl rfl (fun hc => ?_) (fun hc => ?_)))))
  all_goals ((first | (refine zpt ?_) | (refine zpf ?_)); refine zn ?_)
  all_goals
    first
    | (refine zct ?_ -- Q2f c0
       all_goals (refine zsk ?_; refine Q0 ?_; refine Qh ?_; refine Q0 ?_; refine Q1 ?_; refine zm ?_; refine zm ?_; refine zm ?_; refine zm ?_; refine zR3 (c := Qll f b j hf0 hb0 (by omega) hS) (h := ?_); rintro v1 w1 ⟨rfl, hS⟩; refine znc ?_; refine zf0 ?_; refine zst hS ?_; intro w1 hS; have hS := hS.ns; refine zn ?_; have hS : St cx _ (blk p7 50 [.int .i64 y.regs, vp2, vc2, .int .i64 y.fin.op, .int .i64 y.fin.a, .int .i64 y.fin.yes.block, ve21, ve22, .int .i64 y.fin.no.block, ve23, ve24, ve25] :: blk p6 53 [.int .i64 x.regs, vp1, vr1, vb1] :: jdg p vf h (Qjz f b j) :: L.eraseIdx i) := hS; refine Q1 ?_; refine zm ?_; refine zf0 ?_; refine zl hS ?_; refine zm ?_; refine zi ?_; intro b3 o3 cs3 x3 hat3 hx3 he3; obtain ⟨vr3, va3, rfl, hr3, ha3⟩ := Q2T he3; (first | (refine zv hS ?_) | (refine zvk hS ?_)); refine zR2 (c := ins_c he3 hf hS fd) (h := ?_); rintro v1 w1 ⟨rfl, hS⟩; have hS := hS.ns; refine zn ?_; refine Q1 ?_; refine zm ?_; refine zad ?_; refine zm ?_; refine zn ?_)
       all_goals (exact ⟨⟨j + 1, _, _, zh, zh, (by omega), by rw [hd, Qj hx3, Q32, Q3z], hS.sp⟩, Q1j (by omega)⟩))
    | (refine zcf ?_ -- Q2f c0
       all_goals (refine zex ?_; (first | (rw [List.drop_of_length_le (by omega), Q32, QlM (b := (0, 0)) rfl] at hd) | (rw [orF_l (a := h) (by assumption)] at hd)); refine Q0 ?_; refine Q1 ?_; refine zm ?_; refine zm ?_; refine zm ?_; refine zR2 (c := Qlm f b hf0 hb0 hS) (h := ?_); rintro v1 w1 ⟨rfl, hS⟩; refine znc ?_; refine zf0 ?_; refine zst hS ?_; intro w1 hS; have hS := hS.ns; refine zn ?_; have hS : St cx _ (blk p7 50 [.int .i64 y.regs, vp2, vc2, .int .i64 y.fin.op, .int .i64 y.fin.a, .int .i64 y.fin.yes.block, ve21, ve22, .int .i64 y.fin.no.block, ve23, ve24, ve25] :: blk p6 53 [.int .i64 x.regs, vp1, vr1, vb1] :: jdg p vf h (Qgs f b) :: L.eraseIdx i) := hS; refine Q1 ?_; refine zm ?_; refine zv hS ?_; refine zf0 ?_; refine zv hS ?_; refine zR3 (c := end_c (e := y.fin) he1 ⟨_, _, _, _, _, rfl, he21, he22, he23, he24, he25⟩ hS fd) (h := ?_); rintro v1 w1 ⟨rfl, hS⟩; have hS := hS.ns; refine zn ?_)
       all_goals (refine QG ?_; refine ⟨_, rfl, rfl, Qgs f b, ?_⟩; have hS := hS.drop.drop; rw [show orF g (Q4u fs.length f x b y) = orF h (mkF (Q2P x.blocks.length y.fin) (Qgs f b)) from (by unfold Q4u; rw [← Q3z, ← Q3z, hd])]; exact St.back hS hi))
theorem Qn4 {g : Flt} {a : Int} {x : Fun} {f : Nat} {q : Bool} (hq : q = true ↔ (f = 0 ∧ (0 < x.regs ∨ 0 < x.params.length ∨ ∃ t ∈ x.results, t.kind ≠ 1))) :
    orF (orF (orF (orF (orF g (mkF (if x.regs < 0 ∨ 6 < x.regs then 1 else 0) a)) (mkF (QU x.params x.regs) a)) (mkF (QU x.results x.regs) a)) (mkF (if x.blocks.length < 1 ∨ 12 < x.blocks.length then 2 else 0) a)) (mkF (if q = true then 18 else 0) a) = orF g (mkF (Q4W f x) a) := by
  rw [Q2A, Q2A, Q2A, Q2A]
  congr 2
  unfold Q4W
  by_cases h0 : x.regs < 0 ∨ 6 < x.regs
  · rw [if_pos h0, if_pos h0]; simp only [QaX (show (1 : Int) ≠ 0 by decide)]
  · rw [if_neg h0, if_neg h0, Q9g]
    by_cases h : QU x.params x.regs ≠ 0
    · rw [if_pos h]; simp only [QaX h]
    · rw [if_neg h, Classical.not_not.1 h, Q9g]
      by_cases h1 : QU x.results x.regs ≠ 0
      · rw [if_pos h1]; simp only [QaX h1]
      · rw [if_neg h1, Classical.not_not.1 h1, Q9g]
        by_cases h2 : x.blocks.length < 1 ∨ 12 < x.blocks.length
        · rw [if_pos h2, if_pos h2]; simp only [QaX (show (2 : Int) ≠ 0 by decide)]
        · rw [if_neg h2, if_neg h2, Q9g]
          by_cases hb : f = 0 ∧ (0 < x.regs ∨ 0 < x.params.length ∨ ∃ t ∈ x.results, t.kind ≠ 1)
          · rw [if_pos hb, if_pos (hq.2 hb)]
          · rw [if_neg hb, if_neg (fun h => hb (hq.1 h))]
theorem pcheck_c {m : Module} (hsh : m.Short) {cs : List Value} (hm : modR.at cx cs m) (hS : St cx w L) :
    Rets Try.prog Q3l [.agg ⟨cs⟩] w fun u w' => u = fltV m.fault ∧ St cx w' L := by
  obtain ⟨vf, rfl, hf⟩ := Q2e hm
  have hsl := hsh.1
  have hsf := hsh.2
  obtain ⟨a0, n0, rfl⟩ := Rep.SR.shape hf
  generalize hvf : Value.slice a0 m.funcs.length n0 = vf at *
  all_goals refine Qic ?_
  all_goals (unfold code_Check_lc; refine Q0 ?_; refine Q1 ?_; refine zb hS ?_; intro p1 w1 hS; refine Q8 hS ?_; intro p2 w1 hS; refine zn ?_; refine Q0 ?_; refine Q1 ?_; refine zv hS ?_; refine Qlf (cs := [vf, .int .i64 0, .int .i64 0, .int .i64 (-1)]) vw vw (by subst hvf; rfl) ?_; refine zb hS ?_; intro p9 w1 hS; refine zm ?_; refine zn ?_)
  refine zM [1, 2, 3] (fun A ρ' w' => Has ρ' A ∧ Has ρ' [] ∧ St cx w' (jdg p9 vf (mkF (if m.funcs.length < 1 ∨ 8 < m.funcs.length then 2 else 0) (-1)) (-1) :: blk p2 29 [.int .i64 0, .int .i64 0] :: blk p1 24 [vf] :: L)) ?_ ?_
  · skip
    all_goals (have hS : St cx _ (jdg p9 vf (0, 0) (-1) :: blk p2 29 [.int .i64 0, .int .i64 0] :: blk p1 24 [vf] :: L) := hS; refine Q1 ?_; refine zm ?_; refine zf0 ?_; refine zl hS ?_; refine zL ?_)
    all_goals (first | (refine Qx ?_) | (refine QE ?_) | (refine Qb rfl rfl (fun hc => ?_) (fun hc => ?_)))
    all_goals (refine zm ?_; (first | refine zgn ?_ | (refine zgy ?_; refine zf0 ?_)); (first | refine zgn ?_ | (refine zgy ?_; refine zl hS ?_)); (first | refine zgn ?_ | (refine zgy ?_; refine zL ?_)))
    all_goals (first | refine zgn ?_ | (refine zgy ?_; (first | (refine QQ ?_) | (refine Q1c ?_) | (refine Qo rfl rfl (fun hc => ?_) (fun hc => ?_)))))
    all_goals ((first | (refine zpt ?_) | (refine zpf ?_)); refine zR3 (c := Q1Y (g := _) (by intro _; decide) hS fd) (h := ?_); rintro v1 w1 ⟨rfl, hS⟩; simp only [List.set_cons_zero, List.set_cons_succ, if_true, Bool.false_eq_true, if_false] at hS; refine zn ?_; exact ⟨zh, zh, by rw [orF_0 (mkF_z _ _)] at hS; first | (rw [if_pos (by omega)]; exact hS.sp) | (rw [if_neg (by omega)]; exact hS.sp)⟩)
  rintro ρ w1 ⟨hA, hρ, hS⟩; obtain ⟨ρ, rfl⟩ := env2 hA hρ
  all_goals (refine Q0 ?_; refine Q0 ?_; refine Q1 ?_; refine zm ?_; refine zn ?_; refine Qh ?_)
  refine zo [1, 2, 3] (fun A ρ' w' => ∃ (f : Nat) (h : Flt) (a : Int), Has ρ' A ∧ Has ρ' [(4, .int .i64 f)] ∧ (f ≤ m.funcs.length) ∧ (m.fault = orF h (Q3C m.funcs.length f (m.funcs.drop f))) ∧ St cx w' (jdg p9 vf h a :: blk p2 29 [.int .i64 0, .int .i64 0] :: blk p1 24 [vf] :: L)) (fun ρ' _ => (m.funcs.length - iv (ρ' 4)).toNat) ?_ ?_
  · exact ⟨0, _, _, zh, zh, (by omega), by rw [List.drop_zero]; rfl, hS.sp⟩
  rintro ρ w1 ⟨f, h, a, hA, hρ, hj, hd, hS⟩; obtain ⟨ρ, rfl⟩ := env2 hA hρ
  unfold QaG
  all_goals (refine Q0 ?_; refine Q0 ?_; refine Q1 ?_; refine zm ?_; refine zf0 ?_; refine zl hS ?_; refine zL ?_)
  all_goals (first | (refine Q1G ?_) | (refine Q1N ?_) | (refine QJ rfl rfl (fun hc => ?_) (fun hc => ?_)))
  all_goals (refine zm ?_; (first | refine zgn ?_ | (refine zgy ?_; refine zm ?_)); (first | refine zgn ?_ | (refine zgy ?_; refine znc ?_)); (first | refine zgn ?_ | (refine zgy ?_; refine zf0 ?_)); (first | refine zgn ?_ | (refine zgy ?_; (first | refine zf0 ?_ | refine zfd ?_))); (first | refine zgn ?_ | (refine zgy ?_; refine zl hS ?_)))
  all_goals (first | refine zgn ?_ | (refine zgy ?_; (first | (refine Qx ?_) | (refine QE ?_) | (refine Qb rfl rfl (fun hc => ?_) (fun hc => ?_)))))
  all_goals ((first | (refine zpt ?_) | (refine zpf ?_)); refine zn ?_)
  all_goals
    first
    | (refine zct ?_ -- Q3l c0
       all_goals (refine zsk ?_; refine Q0 ?_; refine Qh ?_; refine Q0 ?_; refine Q1 ?_; refine zf0 ?_; refine zl hS ?_; refine zm ?_; refine zi ?_; intro b1 o1 cs1 x1 hat1 hx1 he1; obtain ⟨vp1, vr1, vb1, rfl, hp1, hr1, hb1⟩ := QW he1; (first | (refine zv hS ?_) | (refine zvk hS ?_)); refine Q8 hS ?_; intro p5 w1 hS; refine zsn hS ?_; intro w1 hS; have hS := hS.ns; refine zn ?_; have hsx := hsf x1 (List.mem_of_getElem? hx1); have hlb := hsx.2.2.1; have hlp := hp1.len; have hlr := hr1.len; refine Q0 ?_; refine Q1 ?_; refine zm ?_; refine zm ?_; refine zR1 (c := QmO f (by omega) hS) (h := ?_); rintro v1 w1 ⟨rfl, hS⟩; refine znc ?_; refine zf0 ?_; refine zst hS ?_; intro w1 hS; have hS := hS.ns; refine zn ?_)
       refine zM [1, 2, 3, 4, 5] (fun A ρ' w' => Has ρ' A ∧ Has ρ' [] ∧ St cx w' (blk p5 53 [.int .i64 x1.regs, vp1, vr1, vb1] :: jdg p9 vf (orF h (mkF (if x1.regs < 0 ∨ 6 < x1.regs then 1 else 0) (Q3E f))) (Q3E f) :: blk p2 29 [.int .i64 0, .int .i64 0] :: blk p1 24 [vf] :: L)) ?_ ?_
       · skip
         all_goals (have hS : St cx _ (blk p5 53 [.int .i64 x1.regs, vp1, vr1, vb1] :: jdg p9 vf h (Q3E f) :: blk p2 29 [.int .i64 0, .int .i64 0] :: blk p1 24 [vf] :: L) := hS; refine Q1 ?_; refine zm ?_; refine zf0 ?_; refine zl hS ?_)
         all_goals (first | (refine Q1G ?_) | (refine Q1N ?_) | (refine QJ rfl rfl (fun hc => ?_) (fun hc => ?_)))
         all_goals (refine zm ?_; (first | refine zgn ?_ | (refine zgy ?_; refine zf0 ?_)); (first | refine zgn ?_ | (refine zgy ?_; refine zl hS ?_)))
         all_goals (first | refine zgn ?_ | (refine zgy ?_; (first | (refine QQ ?_) | (refine Q1c ?_) | (refine Qo rfl rfl (fun hc => ?_) (fun hc => ?_)))))
         all_goals ((first | (refine zpt ?_) | (refine zpf ?_)); refine zR3 (c := Q1Y (g := _) (by intro _; decide) hS fd) (h := ?_); rintro v1 w1 ⟨rfl, hS⟩; simp only [List.set_cons_zero, List.set_cons_succ, if_true, Bool.false_eq_true, if_false] at hS; refine zn ?_; exact ⟨zh, zh, by first | (rw [if_pos (by omega)]; exact hS.sp) | (rw [if_neg (by omega)]; exact hS.sp)⟩)
       rintro ρ w1 ⟨hA, hρ, hS⟩; obtain ⟨ρ, rfl⟩ := env2 hA hρ
       all_goals (refine Q0 ?_; refine Q1 ?_; refine zm ?_; refine zf0 ?_; refine zl hS ?_; refine zf0 ?_; refine zl hS ?_; refine zR3 (c := Qkd hp1 hS fd) (h := ?_); rintro v1 w1 ⟨rfl, hS⟩; have hS := hS.ns; refine zn ?_; refine Q0 ?_; refine Q1 ?_; refine zm ?_; refine zf0 ?_; refine zl hS ?_; refine zf0 ?_; refine zl hS ?_; refine zR3 (c := Qkd hr1 hS fd) (h := ?_); rintro v1 w1 ⟨rfl, hS⟩; have hS := hS.ns; refine zn ?_)
       refine zM [1, 2, 3, 4, 5] (fun A ρ' w' => Has ρ' A ∧ Has ρ' [] ∧ St cx w' (blk p5 53 [.int .i64 x1.regs, vp1, vr1, vb1] :: jdg p9 vf (orF (orF (orF (orF h (mkF (if x1.regs < 0 ∨ 6 < x1.regs then 1 else 0) (Q3E f))) (mkF (QU x1.params x1.regs) (Q3E f))) (mkF (QU x1.results x1.regs) (Q3E f))) (mkF (if x1.blocks.length < 1 ∨ 12 < x1.blocks.length then 2 else 0) (Q3E f))) (Q3E f) :: blk p2 29 [.int .i64 0, .int .i64 0] :: blk p1 24 [vf] :: L)) ?_ ?_
       · skip
         all_goals (refine Q1 ?_; refine zm ?_; refine zf0 ?_; refine zl hS ?_; refine zL ?_)
         all_goals (first | (refine Qx ?_) | (refine QE ?_) | (refine Qb rfl rfl (fun hc => ?_) (fun hc => ?_)))
         all_goals (refine zm ?_; (first | refine zgn ?_ | (refine zgy ?_; refine zf0 ?_)); (first | refine zgn ?_ | (refine zgy ?_; refine zl hS ?_)); (first | refine zgn ?_ | (refine zgy ?_; refine zL ?_)))
         all_goals (first | refine zgn ?_ | (refine zgy ?_; (first | (refine QQ ?_) | (refine Q1c ?_) | (refine Qo rfl rfl (fun hc => ?_) (fun hc => ?_)))))
         all_goals ((first | (refine zpt ?_) | (refine zpf ?_)); refine zR3 (c := Q1Y (g := _) (by intro _; decide) hS fd) (h := ?_); rintro v1 w1 ⟨rfl, hS⟩; simp only [List.set_cons_zero, List.set_cons_succ, if_true, Bool.false_eq_true, if_false] at hS; refine zn ?_; exact ⟨zh, zh, by first | (rw [if_pos (c := x1.blocks.length < 1 ∨ 12 < x1.blocks.length) (by omega)]; exact hS.sp) | (rw [if_neg (c := x1.blocks.length < 1 ∨ 12 < x1.blocks.length) (by omega)]; exact hS.sp)⟩)
       rintro ρ w1 ⟨hA, hρ, hS⟩; obtain ⟨ρ, rfl⟩ := env2 hA hρ
       refine zM [1, 2, 3, 4, 5] (fun A ρ' w' => Has ρ' A ∧ Has ρ' [] ∧ St cx w' (blk p5 53 [.int .i64 x1.regs, vp1, vr1, vb1] :: jdg p9 vf (orF h (mkF (Q4W f x1) (Q3E f))) (Q3E f) :: blk p2 29 [.int .i64 0, .int .i64 0] :: blk p1 24 [vf] :: L)) ?_ ?_
       · skip
         all_goals (refine Q1 ?_)
         refine zKL hS 19 [1, 2, 3, 4, 5] (fun A LL ρ' w' => ∃ (q : Bool), Has ρ' A ∧ Has ρ' [(81, .pointer (some ⟨p9, 0, none⟩)), (99, .bool q)] ∧ (q = true ↔ (f = 0 ∧ (0 < x1.regs ∨ 0 < x1.params.length ∨ ∃ t ∈ x1.results, t.kind ≠ 1))) ∧ St cx w' (LL)) ?_ ?_
         · skip
           all_goals (refine zm ?_; refine zm ?_)
           all_goals (first | (refine Qx ?_) | (refine QE ?_) | (refine Qb rfl rfl (fun hc => ?_) (fun hc => ?_)))
           all_goals (refine zm ?_; (first | refine zgn ?_ | (refine zgy ?_; refine zf0 ?_)); (first | refine zgn ?_ | (refine zgy ?_; refine zl hS ?_)))
           all_goals (first | refine zgn ?_ | (refine zgy ?_; (first | (refine QQ ?_) | (refine Q1c ?_) | (refine Qo rfl rfl (fun hc => ?_) (fun hc => ?_)))))
           all_goals ((first | refine zgn ?_ | (refine zgy ?_; refine zm ?_)); (first | refine zgn ?_ | (refine zgy ?_; refine zf0 ?_)); (first | refine zgn ?_ | (refine zgy ?_; refine zl hS ?_)); (first | refine zgn ?_ | (refine zgy ?_; refine zL ?_)))
           all_goals (first | refine zgn ?_ | (refine zgy ?_; (first | (refine QQ ?_) | (refine Q1c ?_) | (refine Qo rfl rfl (fun hc => ?_) (fun hc => ?_)))))
           all_goals ((first | refine zgn ?_ | (refine zgy ?_; (first | (refine zpt ?_) | (refine zpf ?_)))); (first | refine zgn ?_ | (refine zgy ?_; refine zm ?_)); (first | refine zgn ?_ | (refine zgy ?_; refine zf0 ?_)); (first | refine zgn ?_ | (refine zgy ?_; refine zl hS ?_)))
           all_goals ((first | (refine zgn ?_) | (refine zgy ?_; refine zR2 (c := pcont_c hr1 hS) (h := ?_); rintro v1 w1 ⟨qc, rfl, hqc, hS⟩; cases qc)))
           all_goals ((first | refine zgn ?_ | (refine zgy ?_; (first | (refine zpt ?_) | (refine zpf ?_)))); (first | (refine zpt ?_) | (refine zpf ?_)); refine Q1l ?_; refine Qt ?_)
           all_goals (first | (exact ⟨_, zh, zh, by exact ⟨fun _ => ⟨by omega, .inl (by omega)⟩, fun _ => rfl⟩, hS.sp⟩) | (exact ⟨_, zh, zh, by exact ⟨fun _ => ⟨by omega, .inr (.inl (by omega))⟩, fun _ => rfl⟩, hS.sp⟩) | (exact ⟨_, zh, zh, by exact ⟨fun _ => ⟨by omega, .inr (.inr (hqc.1 rfl))⟩, fun _ => rfl⟩, hS.sp⟩) | (exact ⟨_, zh, zh, by exact ⟨fun h => Bool.noConfusion h, fun h => absurd h.1 (by omega)⟩, hS.sp⟩) | (exact ⟨_, zh, zh, by exact ⟨fun h => Bool.noConfusion h, fun h => h.2.elim (fun h => by omega) (fun h => h.elim (fun h => by omega) (fun h => Bool.noConfusion (hqc.2 h)))⟩, hS.sp⟩))
         rintro ρ w1 ⟨q, hA, hρ, hq, hS⟩; obtain ⟨ρ, rfl⟩ := env2 hA hρ
         all_goals (refine zR3 (c := Q1Y (g := _) (by intro _; decide) hS fd) (h := ?_); rintro v1 w1 ⟨rfl, hS⟩; simp only [List.set_cons_zero, List.set_cons_succ, if_true, Bool.false_eq_true, if_false] at hS; refine zn ?_; exact ⟨zh, zh, by rw [← Qn4 hq]; exact hS.sp⟩)
       rintro ρ w1 ⟨hA, hρ, hS⟩; obtain ⟨ρ, rfl⟩ := env2 hA hρ
       all_goals (refine Q0 ?_; refine Q1 ?_; refine zm ?_; refine zn ?_; refine Qh ?_)
       refine zo [1, 2, 3, 4, 5] (fun A ρ' w' => ∃ (b : Nat) (h2 : Flt) (a2 : Int), Has ρ' A ∧ Has ρ' [(6, .int .i64 b)] ∧ (b ≤ x1.blocks.length) ∧ (orF (orF h (mkF (Q4W f x1) (Q3E f))) (Q1M m.funcs.length f x1 0 x1.blocks) = orF h2 (Q1M m.funcs.length f x1 b (x1.blocks.drop b))) ∧ St cx w' (blk p5 53 [.int .i64 x1.regs, vp1, vr1, vb1] :: jdg p9 vf h2 a2 :: blk p2 29 [.int .i64 0, .int .i64 0] :: blk p1 24 [vf] :: L)) (fun ρ' _ => (x1.blocks.length - iv (ρ' 6)).toNat) ?_ ?_
       · exact ⟨0, _, _, zh, zh, (by omega), by rw [List.drop_zero], hS.sp⟩
       rintro ρ w1 ⟨b, h2, a2, hA, hρ, hb, hd2, hS⟩; obtain ⟨ρ, rfl⟩ := env2 hA hρ
       unfold Q9b
       all_goals (refine Q0 ?_; refine Q0 ?_; refine Q1 ?_; refine zm ?_; refine zf0 ?_; refine zl hS ?_; refine zL ?_)
       all_goals (first | (refine Q1G ?_) | (refine Q1N ?_) | (refine QJ rfl rfl (fun hc => ?_) (fun hc => ?_)))
       all_goals (refine zm ?_; (first | refine zgn ?_ | (refine zgy ?_; refine zm ?_)); (first | refine zgn ?_ | (refine zgy ?_; refine znc ?_)); (first | refine zgn ?_ | (refine zgy ?_; refine zf0 ?_)); (first | refine zgn ?_ | (refine zgy ?_; (first | refine zf0 ?_ | refine zfd ?_))); (first | refine zgn ?_ | (refine zgy ?_; refine zl hS ?_)))
       all_goals (first | refine zgn ?_ | (refine zgy ?_; (first | (refine Qx ?_) | (refine QE ?_) | (refine Qb rfl rfl (fun hc => ?_) (fun hc => ?_)))))
       all_goals ((first | (refine zpt ?_) | (refine zpf ?_)); refine zn ?_)
       all_goals
         first
         | (refine zct ?_ -- Q3l c1
            all_goals (refine zsk ?_; refine Q0 ?_; refine Qh ?_; obtain ⟨y, hy⟩ : ∃ y, x1.blocks[b]? = some y := ⟨_, List.getElem?_eq_getElem (by omega)⟩; have hsy := hsx.2.2.2 y (List.mem_of_getElem? hy); refine Q1 ?_; refine zm ?_; refine zm ?_; refine zm ?_; refine zR3 (c := pblock_c hx1 hy (by omega) (by omega) hsy.2.1 hf hS fd) (h := ?_); rintro v1 w1 ⟨rfl, a3, hS⟩; have hS := hS.ns; refine zn ?_; refine Q1 ?_; refine zm ?_; refine zad ?_; refine zm ?_; refine zn ?_)
            all_goals (exact ⟨⟨b + 1, _, _, zh, zh, (by omega), by rw [hd2, Qj hy, Q1M, Q3z], hS.sp⟩, Q1j (by omega)⟩))
         | (refine zcf ?_ -- Q3l c1
            all_goals (refine zex ?_; (first | (rw [List.drop_of_length_le (by omega), Q1M, QlM (b := (0, 0)) rfl] at hd2) | (rw [orF_l (a := h2) (by assumption)] at hd2)); refine Q1 ?_; refine zm ?_; refine zad ?_; refine zm ?_; refine zn ?_)
            all_goals (exact ⟨⟨f + 1, h2, a2, zh, zh, (by omega), by rw [hd, Qj hx1, Q3C, ← Q3z, show orF h (Qe4 m.funcs.length f x1) = h2 from (by unfold Qe4; rw [← Q3z, hd2])], hS.sp⟩, Q1j (by omega)⟩)))
    | (refine zcf ?_ -- Q3l c0
       all_goals (refine zex ?_; (first | (rw [List.drop_of_length_le (by omega), Q3C, QlM (b := (0, 0)) rfl] at hd) | (rw [orF_l (a := h) (by assumption)] at hd)); refine Q0 ?_; refine Q1 ?_; refine zm ?_; refine znc ?_; refine zf0 ?_; refine zv hS ?_; refine zsn hS ?_; intro w1 hS; have hS := hS.ns; refine zn ?_; refine zr ?_; refine Q2W vw (Qg (n := 2) (by kernel_rfl) (by kernel_rfl) (hS.blkAt fd) (by rfl) (by rfl)) ?_)
       all_goals (refine ⟨_, rfl, ?_, hS.sp⟩; rw [hd]; rfl; done))
end Go.Proofs.Yteflkifmgnpbhaa
namespace Go.Lir
section
variable {P : Program} {Q : QT} {ρ : Env} {w : World} {l : List GO}
theorem Qmy {d : Nat} {Ty : TypeId} {x : Operand} {ms : Array (String × TypeId)} (ht : P.underlying Ty = some (.interface ms)) (hx : ρ.ev x = .nilIface) (h : Q2 P l Q (upd ρ d (.bool true)) w) : Q2 P (⟨none, .bin d .eql Ty x (.const .nilIface)⟩ :: l) Q ρ w :=
  ⟨_, fun w0 => by rw [hx]; simp [Env.ev, eqGuard, binOp, Qg8 ht], h⟩
theorem Qiy {d : Nat} {Ty U : TypeId} {v : Value} {x : Operand} {ms : Array (String × TypeId)} (ht : P.underlying Ty = some (.interface ms)) (hx : ρ.ev x = .iface U v) (h : Q2 P l Q (upd ρ d (.bool false)) w) : Q2 P (⟨none, .bin d .eql Ty x (.const .nilIface)⟩ :: l) Q ρ w :=
  ⟨_, fun w0 => by rw [hx]; simp [Env.ev, eqGuard, binOp, Qew ht], h⟩
end
end Go.Lir
namespace Go.Proofs.Yteflkifmgnpbhaa
open Go.Lir
set_option maxHeartbeats 1000000
attribute [local irreducible] LC.wp Q2 Qy QD retQ Q1n LO.wp Ql Calls
set_option linter.unusedSimpArgs false
set_option linter.unusedVariables false
variable {cx : Cx} {w : World} {L : List Res} {p N : Nat} {c : MC} {fr : List FrmV} {g : FrmV} {h : HpS} {out inp : List Int} {fu : Nat} {m : Module}
theorem Qis {P : Program} {T : TypeId} (h : aggT P T = true) : ∃ D, P.underlying T = some D ∧ ∀ m, D ≠ .interface m := by
  unfold aggT at h
  split at h
  · exact ⟨_, by assumption, by intro m h; cases h⟩
  · exact ⟨_, by assumption, by intro m h; cases h⟩
  · cases h
@[reducible] def capS (p3 p1 p2 : Nat) : List Value := [.pointer (some ⟨p3, 0, none⟩), .pointer (some ⟨p1, 0, none⟩), .pointer (some ⟨p2, 0, none⟩)]
/-- The three blocks that what catches holds. -/
@[reducible] def catS (p p1 p2 p3 : Nat) (a : Int) (L : List Res) : List Res := blk p3 3 [.int .i64 a] :: blk p2 29 [.int .i64 0, .int .i64 0] :: blk p1 56 [.pointer (some ⟨p, 0, none⟩)] :: L
theorem step1_n {p1 p2 p3 : Nat} {a : Int} (hS : St cx w (catS p p1 p2 p3 a L)) : Defs Try.prog Q1p (capS p3 p1 p2) .returning w fun u' w' => u' = .returning ∧ St cx w' (catS p p1 p2 p3 a L) := by
  unfold Defs
  all_goals refine Q1s ?_
  all_goals (unfold ideal_Machine_Step_1_ld; refine r_seq ?_; refine r_sp ?_; refine zn ?_; refine zn ?_; refine r_pl ?_; refine Qh ?_; refine Q0 ?_; refine Q1 ?_; refine Qmy (ms := #[]) (by kernel_rfl) rfl ?_; refine zn ?_)
  all_goals refine zct ?_
  all_goals (refine Q1 ?_; refine zm ?_; refine zn ?_; refine QmK ?_; refine QG ?_; exact ⟨⟨_, rfl⟩, rfl, hS.sp⟩)
theorem step1_s {p1 p2 p3 : Nat} {a : Int} (hS : St cx w (catS p p1 p2 p3 a (blk p 74 c.cells :: L))) : Defs Try.prog Q1p (capS p3 p1 p2) (.panicking [{ v := Q5w, recovered := false }]) w fun u' w' => u' = .panicking [{ v := Q5w, recovered := true }] ∧ St cx w' (blk p2 29 [.int .i64 20, .int .i64 a] :: L) := by
  obtain ⟨D, hD, hi⟩ := Qis (P := Try.prog) (T := 77) (by kernel_rfl)
  unfold Defs
  all_goals refine Q1s ?_
  all_goals (unfold ideal_Machine_Step_1_ld; refine r_seq ?_; refine r_sp ?_; refine zn ?_; refine zn ?_; refine r_pl ?_; refine Qh ?_; refine Q0 ?_; refine Q1 ?_; refine Qiy (ms := #[]) (by kernel_rfl) rfl ?_; refine zn ?_)
  all_goals refine zcf ?_
  all_goals (refine Q0 ?_; refine Q1 ?_; refine Qlg hD hi rfl ?_; refine zxt ?_; refine zxt ?_; refine zn ?_)
  all_goals refine zct ?_
  all_goals (refine Q0 ?_; refine Q1 ?_; refine Q8 hS ?_; intro p4 w1 hS; refine zsn hS ?_; intro w1 hS; have hS := hS.ns; refine zn ?_; refine Q0 ?_; refine Q1 ?_; refine zl hS ?_; refine zl hS ?_; refine zb2 [_, _] ?_; refine znc ?_; refine zf0 ?_; (first | (refine zsn hS ?_; intro w1 hS; have hS := hS.ns) | (refine zsm hS ?_; intro w1 hS; have hS := hS.ns)); refine zn ?_; refine Q1 ?_; refine zl hS ?_; refine znc ?_; refine zf0 ?_; refine zv hS ?_; refine zsn hS ?_; intro w1 hS; have hS := hS.ns; refine zn ?_; refine QmK ?_; refine QG ?_; exact ⟨⟨_, rfl⟩, rfl, hS.sp⟩)
@[reducible] def MC.over (c : MC) (e : Int) : MC := ⟨c.hp, c.fn, c.lv, c.iv, e, c.bv, c.ov, c.fu, c.mo, true, c.c, c.a⟩
theorem Qmh {p1 p2 p3 : Nat} {a e : Int} (hS : St cx w (catS p p1 p2 p3 a (blk p 74 c.cells :: L))) : Defs Try.prog Q1p (capS p3 p1 p2) (.panicking [{ v := Qk1 e, recovered := false }]) w fun u' w' => u' = .panicking [{ v := Qk1 e, recovered := true }] ∧ St cx w' (blk p2 29 [.int .i64 0, .int .i64 0] :: blk p 74 (c.over e).cells :: L) := by
  obtain ⟨D, hD, hi⟩ := Qis (P := Try.prog) (T := 77) (by kernel_rfl)
  unfold Defs
  all_goals refine Q1s ?_
  all_goals (unfold ideal_Machine_Step_1_ld; refine r_seq ?_; refine r_sp ?_; refine zn ?_; refine zn ?_; refine r_pl ?_; refine Qh ?_; refine Q0 ?_; refine Q1 ?_; refine Qiy (ms := #[]) (by kernel_rfl) rfl ?_; refine zn ?_)
  all_goals refine zcf ?_
  all_goals (refine Q0 ?_; refine Q1 ?_; refine Qk8 (z := .agg ⟨[]⟩) hD hi (by kernel_rfl) rfl (by decide) ?_; refine zxt ?_; refine zxt ?_; refine zn ?_)
  all_goals refine zcf ?_
  all_goals (refine Q0 ?_; refine Q1 ?_; refine Qlg (D := .int .i64) (by kernel_rfl) (by intro m; exact TypeDesc.noConfusion) rfl ?_; refine zxt ?_; refine zxt ?_; refine zn ?_)
  all_goals refine zct ?_
  all_goals (refine Q0 ?_; refine Q1 ?_; refine zm ?_; refine zn ?_; refine Q1 ?_; refine zl hS ?_; refine zl hS ?_; refine zm ?_; refine znc ?_; refine zf0 ?_; refine zst hS ?_; intro w1 hS; have hS := hS.ns; refine znc ?_; refine zf0 ?_; (first | refine zf0 ?_ | refine zfd ?_); refine zst hS ?_; intro w1 hS; have hS := hS.ns; refine zn ?_; refine QmK ?_; refine QG ?_; exact ⟨⟨_, rfl⟩, rfl, hS.sp⟩)
theorem OkS.form {X : Stp} {u : Value} (hG : OkS p c N h out fu X cx L u w) : ∃ M, St cx w (M ++ L) ∧ ∀ w' L2, St cx w' (M ++ L2) → OkS p c N h out fu X cx L2 u w' := by
  rcases hG with ⟨lv, iv, ov, fr', g', N', h', inp', out', h1, h2, h3, h4, hS⟩ | ⟨ns, bv, fr', g', h1, h2, hS⟩
  · exact ⟨mS p (c.upd lv iv ov) fr' g' N' h' out' [], hS, fun w' L2 hS => .inl ⟨lv, iv, ov, fr', g', N', h', inp', out', h1, h2, h3, h4, hS⟩⟩
  · exact ⟨_ :: _ :: _ :: _ :: _ :: _ :: _ :: _ :: [], hS, fun w' L2 hS => .inr ⟨ns, bv, fr', g', h1, h2, hS⟩⟩
theorem St.app {M : List Res} (hS : St cx w (M ++ L)) : St cx w (L ++ M) := hS.perm List.perm_append_comm
/-- What a step leaves. -/
def StepS (m : Module) (p : Nat) (c : MC) (fr : List FrmV) (g : FrmV) (N : Nat) (h : HpS) (inp out : List Int) (fu : Nat) (cx : Cx) (L : List Res) (u : Value) (w' : World) : Prop :=
  (c.fu = c.mo ∧ u = fltV (0, 0) ∧ St cx w' (mS p (c.over 7) fr g N h out L)) ∨ (c.fu ≠ c.mo ∧ ((u = fltV (0, 0) ∧ OkS p c.tick N h out fu ((msOf h g fr inp out fu).one m) cx L (.tuple #[]) w') ∨
    (∃ e, (msOf h g fr inp out fu).one m = .halt e ∧ u = fltV (0, 0) ∧ ∃ fr' g' N', N' ≤ N + 1 ∧ St cx w' (mS p (c.tick.over e) fr' g' N' h out L)) ∨
    ((msOf h g fr inp out fu).one m = .lost ∧ u = fltV (20, (msOf h g fr inp out fu).place m) ∧ St cx w' L)))
attribute [local irreducible] MS.ins MS.fin MS.one MS.place GoS DoneS OkS
theorem step_c {f : Fun} {b : Block} (hdn : c.dn = false) (hc0 : c.c = 0) (hfn : funcR.sl cx c.fn m.funcs) (hi : intR.sl cx c.iv inp) (hfx : m.funcs[g.f]? = some f) (hbx : f.blocks[g.b]? = some b) (hci : ∀ x ∈ b.code, InsOK m x) (hce : FinOK f b.fin) (hgf : g.f ≤ 1000000) (hgb : g.b ≤ 1000000) (hgi : g.i ≤ 1000) (hf : fr.length ≤ 900) (hn : g.vals.length ≤ 800000) (hrn : g.regs.length ≤ 800000) (hfr : ∀ x ∈ fr, x.vals.length ≤ 900000) (hN : N ≤ 99999) (hol : out.length ≤ 2000) (hfu : 0 ≤ c.fu ∧ c.fu ≤ 10000000) (hS : St cx w (mS p c fr g N h out L)) :
    Rets Try.prog Q2F [.pointer (some ⟨p, 0, none⟩)] w (StepS m p c fr g N h inp out fu cx L) := by
  unfold StepS
  all_goals refine Q7u ?_
  all_goals (unfold ideal_Machine_Step_ld; refine d_seq ?_; refine d_pl ?_; refine Q1 ?_; refine zb hS ?_; intro p1 w1 hS; refine Q8 hS ?_; intro p2 w1 hS; refine zn ?_; refine d_seq ?_; refine d_pl ?_; refine Q0 ?_; refine Q1 ?_; refine zl hS ?_; refine znc ?_; refine zf0 ?_; refine zl hS ?_; rw [hdn]; refine zm ?_; (first | refine zgn ?_ | (refine zgy ?_; refine zl hS ?_)); (first | refine zgn ?_ | (refine zgy ?_; refine znc ?_)); (first | refine zgn ?_ | (refine zgy ?_; refine zf0 ?_)); (first | refine zgn ?_ | (refine zgy ?_; (first | refine zf0 ?_ | refine zfd ?_))); (first | (refine zgn ?_) | (refine zgy ?_; refine zl hS ?_; rw [hc0])))
  all_goals (first | refine zgn ?_ | (refine zgy ?_; (first | (refine Q1o ?_) | (refine Q1B ?_))))
  all_goals ((first | (refine zpt ?_) | (refine zpf ?_)); refine zn ?_)
  all_goals refine zcf ?_
  all_goals (refine zsk ?_; refine d_seq ?_; refine d_pl ?_; have hS : St cx _ (mS p c fr g N h out (blk p2 29 [.int .i64 0, .int .i64 0] :: blk p1 56 [.pointer (some ⟨p, 0, none⟩)] :: L)) := hS.sp; refine Q1 ?_; refine zl hS ?_; refine zR1 (c := place_c (inp := inp) (fu := fu) hfn hfx hbx hf hgf hgb (by omega) hS) (h := ?_); rintro v1 w1 ⟨rfl, hS⟩; refine Q8 hS ?_; intro p3 w1 hS; refine zst hS ?_; intro w1 hS; have hS := hS.ns; refine zn ?_; refine d_seq ?_; refine d_sp ?_; refine s_mkfn ?_; refine zn ?_; refine ⟨_, _, rfl, ?_⟩; have hS : St cx _ (mS p c fr g N h out (catS p p1 p2 p3 ((msOf h g fr inp out fu).place m) L)) := hS.sp; refine zn ?_; refine d_pl ?_; refine Q0 ?_; refine Q1 ?_; refine zl hS ?_)
  all_goals (refine zE1 (c := one_c (inp := inp) (fu := fu) hfn hi hfx hbx hci hce hgi hf hn hrn hfr hN hol hfu hS) (p := by rintro v9 w9 hB; (repeat (first | refine Qc ?_ | refine Qd ?_)); refine q_panD ?_; rcases hB with ⟨hmo, rfl, hS⟩ | ⟨hmo, ⟨hX, rfl, hS⟩ | ⟨e, hX, rfl, fr', g', N', hN', hS⟩⟩; refine Q9X (by intro h; cases h) (by kernel_rfl) (Qmh (c := c) (a := (msOf h g fr inp out fu).place m) (show St cx _ (catS p p1 p2 p3 _ (blk p 74 c.cells :: _)) from hS.sp)) ?_; rintro u' w' ⟨rfl, hS⟩; refine Q7M ?_; refine Q2W vw (Qg (n := 2) (by kernel_rfl) (by kernel_rfl) (hS.blkAt fd) (by rfl) (by rfl)) ?_; exact ⟨_, rfl, .inl ⟨hmo, rfl, hS.sp⟩⟩; refine Q9X (by intro h; cases h) (by kernel_rfl) (step1_s (c := c.tick) (a := (msOf h g fr inp out fu).place m) (show St cx _ (catS p p1 p2 p3 _ (blk p 74 c.tick.cells :: _)) from hS.sp)) ?_; rintro u' w' ⟨rfl, hS⟩; refine Q7M ?_; refine Q2W vw (Qg (n := 2) (by kernel_rfl) (by kernel_rfl) (hS.blkAt fd) (by rfl) (by rfl)) ?_; exact ⟨_, rfl, .inr ⟨hmo, .inr (.inr ⟨hX, rfl, hS.sp⟩)⟩⟩; refine Q9X (by intro h; cases h) (by kernel_rfl) (Qmh (c := c.tick) (a := (msOf h g fr inp out fu).place m) (show St cx _ (catS p p1 p2 p3 _ (blk p 74 c.tick.cells :: _)) from hS.sp)) ?_; rintro u' w' ⟨rfl, hS⟩; refine Q7M ?_; refine Q2W vw (Qg (n := 2) (by kernel_rfl) (by kernel_rfl) (hS.blkAt fd) (by rfl) (by rfl)) ?_; exact ⟨_, rfl, .inr ⟨hmo, .inr (.inl ⟨e, hX, rfl, fr', g', N', hN', hS.sp⟩)⟩⟩) (h := ?_); rintro u1 w1 ⟨hmo, hG⟩; obtain ⟨rfl, hG⟩ := hG.tup; obtain ⟨M, hS, hK⟩ := hG.form; have hS : St cx _ (catS p p1 p2 p3 ((msOf h g fr inp out fu).place m) (L ++ M)) := St.app hS)
  all_goals (refine zn ?_; refine Q0 ?_; refine Q1 ?_; refine zb0 [_, _] ?_; refine zsn hS ?_; intro w1 hS; have hS := hS.ns; refine zn ?_; refine zr ?_)
  all_goals (refine q_retD ?_; refine Q9X (by intro h; cases h) (by kernel_rfl) (step1_n hS) ?_; rintro u1 w1 ⟨rfl, hS⟩; refine Q7M ?_)
  all_goals (refine Q2W vw (Qg (n := 2) (by kernel_rfl) (by kernel_rfl) (hS.blkAt fd) (by rfl) (by rfl)) ?_; exact ⟨_, rfl, .inr ⟨hmo, .inl ⟨rfl, hK _ _ (St.app (L := M) (M := L) (show St cx _ (L ++ M) from hS.drop.drop.drop))⟩⟩⟩)
end Go.Proofs.Yteflkifmgnpbhaa
namespace Go.Proofs.Yteflkifmgnpbhaa
open Go.Lir
set_option maxHeartbeats 1000000
attribute [local irreducible] LC.wp Q2 Qy QD retQ Q1n LO.wp Ql Calls
set_option linter.unusedSimpArgs false
set_option linter.unusedVariables false
variable {cx : Cx} {w : World} {L : List Res} {p N : Nat} {c : MC} {fr : List FrmV} {g : FrmV} {h : HpS} {out inp : List Int} {fu : Nat} {m : Module}
theorem done_c (hS : St cx w (blk p 74 c.cells :: L)) : Rets Try.prog Q3Q [.pointer (some ⟨p, 0, none⟩)] w fun u w' => u = .bool c.dn ∧ St cx w' (blk p 74 c.cells :: L) := by
  all_goals refine Q7x ?_
  all_goals (unfold ideal_Machine_Done_lc; refine Q0 ?_; refine Q1 ?_; refine zm ?_; refine zn ?_; refine Q0 ?_; refine Q1 ?_; refine zm ?_; refine znc ?_; refine zf0 ?_; refine zl hS ?_; refine zm ?_; refine zn ?_; refine zr ?_; refine zf ?_; exact ⟨_, rfl, rfl, hS.sp⟩)
theorem Q4t {l : List Int} (hb : l.length ≤ 1000000) {v : Value} (hl : intR.sl cx v l) (hS : St cx w L) : Rets Try.prog Q1r [v] w fun u w' => ∃ c', cx.Le c' ∧ intR.sl c' u l ∧ St c' w' L := by
  obtain ⟨a, c, hv⟩ := Rep.SR.shape hl
  cases a with
  | none =>
    have hl0 := Rep.SR.nil_of hl hv
    subst hl0
    subst hv
    all_goals refine Q1K ?_
    all_goals (unfold slices_Clone_int64_int64_lc; refine Q0 ?_; refine Q1 ?_; refine zm ?_; refine zn ?_; refine Q0 ?_; refine Q0 ?_; refine Q1 ?_; refine zm ?_; refine QaT (e := 2) (by kernel_rfl) rfl rfl ?_; refine zn ?_)
    all_goals
      first
      | (refine zct ?_ -- Q1r c0
         all_goals (refine Q0 ?_; refine Q1 ?_; refine zm ?_; refine zn ?_; refine zr ?_; refine zf ?_)
         all_goals (exact ⟨_, rfl, cx, St.refl hS, Rep.SR.nil _ _ _, hS⟩))
    all_goals (refine Q0 ?_; refine Q1 ?_; fail "no law for buildSlice"; refine zm ?_; refine za QgX Qma hS ?_; intro vp1 w1 css1 hls1 hv1 hS; have hS := hS.ns; refine zm ?_; refine zn ?_; refine zr ?_; refine zf ?_; exact ⟨_, rfl, cx, St.refl hS, Rep.SR.nil _ _ _, hS⟩)
  | some a =>
    have hn : intR.ls cx [] [] := Rep.LR.nil _ _ _
    all_goals refine Q1K ?_
    all_goals (unfold slices_Clone_int64_int64_lc; refine Q0 ?_; refine Q1 ?_; refine zm ?_; refine zn ?_; refine Q0 ?_; refine Q0 ?_; refine Q1 ?_; refine zm ?_; refine QaT (e := 2) (by kernel_rfl) hv rfl ?_; refine zn ?_)
    all_goals refine zcf ?_
    all_goals (refine zsk ?_; refine Q0 ?_; refine Q1 ?_; refine Qk4 QgX ?_; intro v1 w1 hf1 hs1 hz1; have hS := hS.new (r := sl 2 1 v1 []) hs1 hf1 (fun b hb => Nat.le_of_eq hb.symm); refine zm ?_; (first | (refine za QgX Qma hS ?_; intro vp1 w1 css1 hls1 hv1 hS; have hS := hS.ns) | (refine zak QgX Qma hS ?_; intro vp1 w1 css1 hls1 hv1 hS; have hS := hS.ns)); refine zm ?_; refine zn ?_; refine zr ?_; refine zf ?_; obtain ⟨c3, hle3, hS, hl3⟩ := St.freezeL (r := intR) (l := l) (T := 2) (es := 1) (L := L) hS.sp hls1 rfl (by omega); exact ⟨_, rfl, c3, hle3, hl3, hS⟩)
theorem QmP {back : List Int} (h1 : back.length ≤ 1000000) (h2 : out.length ≤ 1000000) (hb : intR.sl cx c.bv back) (ho : intR.sl cx c.ov out) (hS : St cx w (blk p 74 c.cells :: L)) :
    Rets Try.prog Q30 [.pointer (some ⟨p, 0, none⟩)] w fun u w' => ∃ c' v1 v2, cx.Le c' ∧ u = .agg ⟨[.int .i64 c.e, v1, v2, .int .i64 c.fu]⟩ ∧ intR.sl c' v1 back ∧ intR.sl c' v2 out ∧ St c' w' (blk p 74 c.cells :: L) := by
  obtain ⟨hp, fn, lv, iv, e0, bv, ov, fu0, mo, dn, cc, ca⟩ := c
  dsimp only [MC.cells] at hb ho hS ⊢
  obtain ⟨ab, nb, rfl⟩ := Rep.SR.shape hb
  obtain ⟨ao, no, rfl⟩ := Rep.SR.shape ho
  all_goals refine Q4q ?_
  all_goals (unfold ideal_Machine_Outcome_lc; refine Q0 ?_; refine Q1 ?_; refine Q8 hS ?_; intro p2 w1 hS; refine zn ?_; refine Q0 ?_; refine Q1 ?_; refine zm ?_; refine znc ?_; refine zf0 ?_; refine zv hS ?_; refine Q8 hS ?_; intro p3 w1 hS; refine zsn hS ?_; intro w1 hS; have hS := hS.ns; refine zn ?_; refine Q0 ?_; refine zC [(0, none), (1, none), (3, none), (4, none), (2, some (some [4])), (6, none), (5, some (some [])), (7, some none), (8, none), (9, some none)] ?_; have hS := hS.drew; refine s_cq ?_; refine zf0 ?_; refine zt ?_; refine s_cq ?_; refine zl hS ?_; refine zt ?_; refine s_cq ?_; refine zf0 ?_; refine zt ?_; refine s_cq ?_; refine zl hS ?_; refine zt ?_; refine Qi ?_; refine zR1 (c := Q4t h1 hb hS) (h := ?_); rintro v1 w1 ⟨c1, hle1, hv1, hS⟩; have ho := Rep.SR.up ho hle1; obtain ⟨a1, n1, rfl⟩ := Rep.SR.shape hv1; refine zt ?_; refine zy ?_; refine s_cq ?_; refine zf0 ?_; refine zt ?_; refine Qi ?_; refine zR1 (c := Q4t h2 ho hS) (h := ?_); rintro v2 w2 ⟨c2, hle2, hv2, hS⟩; have hv1 := Rep.SR.up hv1 hle2; obtain ⟨a2, n2, rfl⟩ := Rep.SR.shape hv2)
  all_goals (refine zt ?_; refine zy ?_; refine s_cf ?_; refine zst hS ?_; intro w1 hS; have hS := hS.ns; refine zt ?_; refine s_cq ?_; refine zf0 ?_; refine zt ?_; refine s_cf ?_; refine zst hS ?_; intro w1 hS; have hS := hS.ns; refine zt ?_; refine zcn ?_; refine Q0 ?_; refine Q1 ?_; refine zv hS ?_; refine zsn hS ?_; intro w1 hS; have hS := hS.ns; refine zn ?_; refine zr ?_; refine Q2W vw (Qg (n := 4) (by kernel_rfl) (by kernel_rfl) (hS.blkAt fd) (by rfl) (by rfl)) ?_; exact ⟨_, rfl, c2, _, _, hle1.trans hle2, rfl, hv1, hv2, hS.sp⟩)
end Go.Proofs.Yteflkifmgnpbhaa
namespace Go.Proofs.Yteflkifmgnpbhaa
open Go.Lir
set_option maxHeartbeats 1000000
attribute [local irreducible] LC.wp Q2 Qy QD retQ Q1n LO.wp Ql Calls
set_option linter.unusedSimpArgs false
set_option linter.unusedVariables false
theorem Q9S {x : Module} (hsm : x.Short) {cx : Cx} {w : World} {L : List Res} {cs : List Value} (hx : modR.at cx cs x) (hS : St cx w L) : Rets Try.prog Qlx [.agg ⟨cs⟩] w fun u w' => ∃ c' ds, u = .agg ⟨ds⟩ ∧ cx.Le c' ∧ modR.at c' ds x ∧ St c' w' L := by
  obtain ⟨vf, rfl, hf⟩ := Q2e hx
  obtain ⟨l⟩ := x
  have hf : funcR.sl cx vf l := hf
  have hsl : l.length ≤ 100000 := hsm.1
  have hsm : ∀ f ∈ l, f.Short := hsm.2
  have hle := St.refl hS
  all_goals refine QkH ?_
  all_goals (unfold code_Own_lc; refine Q0 ?_; refine Q1 ?_; refine zb hS ?_; intro p1 w1 hS; refine Q8 hS ?_; intro p2 w1 hS; refine zn ?_; refine Q0 ?_; refine Q1 ?_; refine Q8 hS ?_; intro p3 w1 hS; refine zn ?_; refine Q0 ?_; refine Q0 ?_; refine Q1 ?_; refine zf0 ?_; refine zl hS ?_; refine zL ?_; refine zm ?_; refine zn ?_; refine Qh ?_)
  refine zo [2, 3, 13, 14] (fun A ρ' w' => ∃ (k0 : Cx) (j : Nat) (u : Value) (css : List (List Value)), Has ρ' A ∧ Has ρ' [(15, .int .i64 j)] ∧ (cx.Le k0) ∧ (j ≤ l.length) ∧ (funcR.ls k0 css (l.take j)) ∧ (oneC u = true) ∧ St k0 w' (sl 53 4 u css :: blk p3 24 [u] :: blk p2 24 [.slice none 0 0] :: blk p1 24 [vf] :: L)) (fun ρ' _ => (l.length - iv (ρ' 15)).toNat) ?_ ?_
  · exact ⟨cx, 0, .slice none 0 0, [], zh, zh, St.refl hS, (by omega), Rep.LR.nil _ _ _, rfl, by have hS := hS.nil (T := 53) (es := 4); exact hS⟩
  rintro ρ w1 ⟨k0, j, u, css, hA, hρ, hle2, hj, hls, hu, hS⟩; obtain ⟨ρ, rfl⟩ := env2 hA hρ; have hL0 := hle2; (try have hle := hle.trans hle2); (try have hf := hf.up hle2)
  unfold Qfc
  all_goals (refine Q0 ?_; refine Q1 ?_; refine Q1h rfl rfl ?_; refine zn ?_; refine Q0 ?_)
  refine Q1g rfl (fun hc => ?_) (fun hc => ?_)
  · skip
    all_goals (refine zsk ?_; refine Q0 ?_; refine Qh ?_; refine Q0 ?_; refine Q1 ?_; refine zi ?_; intro b1 o1 cs1 x1 hat1 hx1 he1; obtain ⟨vp1, vr1, vb1, rfl, hp1, hr1, hb1⟩ := QW he1; (first | (refine zv hS ?_) | (refine zvk hS ?_)); refine Q8 hS ?_; intro p5 w1 hS; refine zsn hS ?_; intro w1 hS; have hS := hS.ns; refine zn ?_; have hsh := hsm x1 (List.mem_of_getElem? hx1); have hlb := hsh.2.2.1)
    have hJ6 := St.refl hS
    refine zML hS [2, 3, 5, 13, 14, 15] (fun A LL ρ' w' => ∃ (k6 : Cx) (a1 a2 : Option Addr) (n1 n2 p6 : Nat), Has ρ' A ∧ Has ρ' [(6, .pointer (some ⟨p6, 0, none⟩))] ∧ (k0.Le k6) ∧ (tyR.sl k6 (.slice a1 x1.params.length n1) x1.params) ∧ (tyR.sl k6 (.slice a2 x1.results.length n2) x1.results) ∧ St k6 w' (blk p6 53 [.int .i64 x1.regs, .slice a1 x1.params.length n1, .slice a2 x1.results.length n2, .slice none 0 0] :: LL)) ?_ ?_
    · skip
      refine Q2g 4 9 (by kernel_rfl) ?_ ?_
      · skip
        refine Q2g 7 9 (by kernel_rfl) ?_ ?_
        · skip
          all_goals (refine zC [(0, none), (1, none), (2, none), (3, none), (5, none), (6, none), (4, some (some [1, 6])), (7, some (some [1])), (8, none), (9, some (some [1])), (10, some none)] ?_; have hS := hS.drew; refine s_cq ?_; refine zf0 ?_; refine zt ?_; refine s_cq ?_; refine zl hS ?_; refine zt ?_; refine s_cq ?_; refine zf0 ?_; refine zt ?_; refine s_cq ?_; refine zl hS ?_; refine zt ?_; refine s_cq ?_; refine zf0 ?_; refine zt ?_; refine s_cq ?_; refine zl hS ?_; refine zt ?_; refine Qi ?_)
          all_goals (refine zR1 (c := Q5D hsh.1.1 hsh.1.2 hp1 hS) (h := ?_); rintro v1 w1 ⟨c1, hle2, hk1, hS⟩; obtain ⟨a1, n1, rfl⟩ := Rep.SR.shape hk1; (try have hle := hle.trans hle2); (try have hL0 := hL0.trans hle2); (try have hJ6 := hJ6.trans hle2); (try have hf := hf.up hle2); (try have hp1 := hp1.up hle2); (try have hr1 := hr1.up hle2); (try have hb1 := hb1.up hle2); (try have he1 := he1.up hle2); (try have hls := hls.up hle2))
          all_goals (refine zt ?_; refine zy ?_; refine Qi ?_)
          all_goals (refine zR1 (c := Q5D hsh.2.1.1 hsh.2.1.2 hr1 hS) (h := ?_); rintro v1 w1 ⟨c2, hle2, hk2, hS⟩; obtain ⟨a2, n2, rfl⟩ := Rep.SR.shape hk2; (try have hle := hle.trans hle2); (try have hL0 := hL0.trans hle2); (try have hJ6 := hJ6.trans hle2); (try have hf := hf.up hle2); (try have hk1 := hk1.up hle2); (try have hp1 := hp1.up hle2); (try have hr1 := hr1.up hle2); (try have hb1 := hb1.up hle2); (try have he1 := he1.up hle2); (try have hls := hls.up hle2))
          all_goals (refine zt ?_; refine zy ?_; refine s_cq ?_; refine zb3 [_, _, _, _] ?_; refine zt ?_; refine Qi ?_; refine Q8 hS ?_; intro p6 w1 hS; refine zt ?_; refine zy ?_; refine s_cf ?_; refine zsn hS ?_; intro w1 hS; have hS := hS.ns; refine zt ?_; refine zcn ?_; exact ⟨_, a1, a2, n1, n2, p6, zh, zh, hJ6, by assumption, by assumption, hS.sp⟩)
        · skip
          all_goals (refine zC [(0, none), (1, none), (2, none), (3, none), (5, none), (6, none), (4, some (some [1, 6])), (9, some (some [1, 6])), (7, some (some [1])), (8, none), (10, some none)] ?_; have hS := hS.drew; refine s_cq ?_; refine zf0 ?_; refine zt ?_; refine s_cq ?_; refine zl hS ?_; refine zt ?_; refine s_cq ?_; refine zf0 ?_; refine zt ?_; refine s_cq ?_; refine zl hS ?_; refine zt ?_; refine s_cq ?_; refine zf0 ?_; refine zt ?_; refine s_cq ?_; refine zl hS ?_; refine zt ?_; refine Qi ?_)
          all_goals (refine zR1 (c := Q5D hsh.1.1 hsh.1.2 hp1 hS) (h := ?_); rintro v1 w1 ⟨c1, hle2, hk1, hS⟩; obtain ⟨a1, n1, rfl⟩ := Rep.SR.shape hk1; (try have hle := hle.trans hle2); (try have hL0 := hL0.trans hle2); (try have hJ6 := hJ6.trans hle2); (try have hf := hf.up hle2); (try have hp1 := hp1.up hle2); (try have hr1 := hr1.up hle2); (try have hb1 := hb1.up hle2); (try have he1 := he1.up hle2); (try have hls := hls.up hle2))
          all_goals (refine zt ?_; refine zy ?_; refine Qi ?_; refine Q8 hS ?_; intro p6 w1 hS; refine zt ?_; refine zy ?_; refine Qi ?_)
          all_goals (refine zR1 (c := Q5D hsh.2.1.1 hsh.2.1.2 hr1 hS) (h := ?_); rintro v1 w1 ⟨c2, hle2, hk2, hS⟩; obtain ⟨a2, n2, rfl⟩ := Rep.SR.shape hk2; (try have hle := hle.trans hle2); (try have hL0 := hL0.trans hle2); (try have hJ6 := hJ6.trans hle2); (try have hf := hf.up hle2); (try have hk1 := hk1.up hle2); (try have hp1 := hp1.up hle2); (try have hr1 := hr1.up hle2); (try have hb1 := hb1.up hle2); (try have he1 := he1.up hle2); (try have hls := hls.up hle2))
          all_goals (refine zt ?_; refine zy ?_; refine s_cq ?_; refine zb3 [_, _, _, _] ?_; refine zt ?_; refine s_cf ?_; refine zsn hS ?_; intro w1 hS; have hS := hS.ns; refine zt ?_; refine zcn ?_; exact ⟨_, a1, a2, n1, n2, p6, zh, zh, hJ6, by assumption, by assumption, hS.sp⟩)
      · skip
        all_goals (refine zC [(0, none), (1, none), (2, none), (3, none), (5, none), (6, none), (9, some (some [1, 3, 6])), (4, some (some [1, 6])), (7, some (some [1])), (8, none), (10, some none)] ?_; have hS := hS.drew; refine s_cq ?_; refine zf0 ?_; refine zt ?_; refine s_cq ?_; refine zl hS ?_; refine zt ?_; refine s_cq ?_; refine zf0 ?_; refine zt ?_; refine s_cq ?_; refine zl hS ?_; refine zt ?_; refine s_cq ?_; refine zf0 ?_; refine zt ?_; refine s_cq ?_; refine zl hS ?_; refine zt ?_; refine Qi ?_; refine Q8 hS ?_; intro p6 w1 hS; refine zt ?_; refine zy ?_; refine Qi ?_)
        all_goals (refine zR1 (c := Q5D hsh.1.1 hsh.1.2 hp1 hS) (h := ?_); rintro v1 w1 ⟨c1, hle2, hk1, hS⟩; obtain ⟨a1, n1, rfl⟩ := Rep.SR.shape hk1; (try have hle := hle.trans hle2); (try have hL0 := hL0.trans hle2); (try have hJ6 := hJ6.trans hle2); (try have hf := hf.up hle2); (try have hp1 := hp1.up hle2); (try have hr1 := hr1.up hle2); (try have hb1 := hb1.up hle2); (try have he1 := he1.up hle2); (try have hls := hls.up hle2))
        all_goals (refine zt ?_; refine zy ?_; refine Qi ?_)
        all_goals (refine zR1 (c := Q5D hsh.2.1.1 hsh.2.1.2 hr1 hS) (h := ?_); rintro v1 w1 ⟨c2, hle2, hk2, hS⟩; obtain ⟨a2, n2, rfl⟩ := Rep.SR.shape hk2; (try have hle := hle.trans hle2); (try have hL0 := hL0.trans hle2); (try have hJ6 := hJ6.trans hle2); (try have hf := hf.up hle2); (try have hk1 := hk1.up hle2); (try have hp1 := hp1.up hle2); (try have hr1 := hr1.up hle2); (try have hb1 := hb1.up hle2); (try have he1 := he1.up hle2); (try have hls := hls.up hle2))
        all_goals (refine zt ?_; refine zy ?_; refine s_cq ?_; refine zb3 [_, _, _, _] ?_; refine zt ?_; refine s_cf ?_; refine zsn hS ?_; intro w1 hS; have hS := hS.ns; refine zt ?_; refine zcn ?_; exact ⟨_, a1, a2, n1, n2, p6, zh, zh, hJ6, by assumption, by assumption, hS.sp⟩)
    rintro ρ w1 ⟨k6, a1, a2, n1, n2, p6, hA, hρ, hle2, hk1, hk2, hS⟩; obtain ⟨ρ, rfl⟩ := env2 hA hρ; (try have hle := hle.trans hle2); (try have hL0 := hL0.trans hle2); (try have hJ6 := hJ6.trans hle2); (try have hf := hf.up hle2); (try have hp1 := hp1.up hle2); (try have hr1 := hr1.up hle2); (try have hb1 := hb1.up hle2); (try have he1 := he1.up hle2); (try have hls := hls.up hle2)
    all_goals (refine Q0 ?_; refine Q0 ?_; refine Q1 ?_; refine zf0 ?_; refine zl hS ?_; refine zL ?_; refine zm ?_; refine zn ?_; refine Qh ?_)
    refine zo [2, 3, 6, 13, 14, 15, 29, 30] (fun A ρ' w' => ∃ (k1 : Cx) (i : Nat) (ub : Value) (cssB : List (List Value)), Has ρ' A ∧ Has ρ' [(31, .int .i64 i)] ∧ (k6.Le k1) ∧ (i ≤ x1.blocks.length) ∧ (blockR.ls k1 cssB (x1.blocks.take i)) ∧ (oneC ub = true) ∧ St k1 w' (sl 50 12 ub cssB :: blk p6 53 [.int .i64 x1.regs, .slice a1 x1.params.length n1, .slice a2 x1.results.length n2, ub] :: blk p5 53 [.int .i64 x1.regs, vp1, vr1, vb1] :: sl 53 4 u css :: blk p3 24 [u] :: blk p2 24 [.slice none 0 0] :: blk p1 24 [vf] :: L)) (fun ρ' _ => (x1.blocks.length - iv (ρ' 31)).toNat) ?_ ?_
    · exact ⟨k6, 0, .slice none 0 0, [], zh, zh, St.refl hS, (by omega), Rep.LR.nil _ _ _, rfl, by have hS := hS.nil (T := 50) (es := 12); exact hS.sp⟩
    rintro ρ w1 ⟨k1, i, ub, cssB, hA, hρ, hle2, hi, hlsB, hub, hS⟩; obtain ⟨ρ, rfl⟩ := env2 hA hρ; have hL1 := hle2; (try have hle := hle.trans hle2); (try have hL0 := hL0.trans hle2); (try have hJ6 := hJ6.trans hle2); (try have hf := hf.up hle2); (try have hk1 := hk1.up hle2); (try have hk2 := hk2.up hle2); (try have hp1 := hp1.up hle2); (try have hr1 := hr1.up hle2); (try have hb1 := hb1.up hle2); (try have he1 := he1.up hle2); (try have hls := hls.up hle2)
    unfold Qfb
    all_goals (refine Q0 ?_; refine Q1 ?_; refine Q1h rfl rfl ?_; refine zn ?_; refine Q0 ?_)
    refine Q1g rfl (fun hc => ?_) (fun hc => ?_)
    · skip
      all_goals (refine zsk ?_; refine Q0 ?_; refine Qh ?_; refine Q0 ?_; refine Q1 ?_; refine zi ?_; intro b2 o2 cs2 x2 hat2 hx2 he2; obtain ⟨vp2, vc2, ve21, ve22, ve23, ve24, ve25, rfl, hp2, hc2, he21, he22, he23, he24, he25⟩ := Q3m he2; (first | (refine zv hS ?_) | (refine zvk hS ?_)); refine Q8 hS ?_; intro p8 w1 hS; refine zsn hS ?_; intro w1 hS; have hS := hS.ns; refine zn ?_; have hsb := hsh.2.2.2 x2 (List.mem_of_getElem? hx2); have hlc := hsb.2.1)
      have hJ10 := St.refl hS
      refine zML hS [2, 3, 6, 8, 13, 14, 15, 29, 30, 31] (fun A LL ρ' w' => ∃ (k10 : Cx) (a3 : Option Addr) (n3 p9 : Nat), Has ρ' A ∧ Has ρ' [(9, .pointer (some ⟨p9, 0, none⟩))] ∧ (k1.Le k10) ∧ (tyR.sl k10 (.slice a3 x2.params.length n3) x2.params) ∧ St k10 w' (blk p9 50 [.int .i64 x2.regs, .slice a3 x2.params.length n3, .slice none 0 0, .int .i64 x2.fin.op, .int .i64 x2.fin.a, .int .i64 x2.fin.yes.block, ve21, ve22, .int .i64 x2.fin.no.block, ve23, ve24, ve25] :: LL)) ?_ ?_
      · skip
        all_goals (obtain ⟨q1, m1, rfl⟩ := Rep.SR.shape he21; obtain ⟨q2, m2, rfl⟩ := Rep.SR.shape he22; obtain ⟨q3, m3, rfl⟩ := Rep.SR.shape he23; obtain ⟨q4, m4, rfl⟩ := Rep.SR.shape he24; obtain ⟨q5, m5, rfl⟩ := Rep.SR.shape he25)
        refine Q2g 4 8 (by kernel_rfl) ?_ ?_
        · skip
          all_goals (refine zC [(0, none), (1, none), (2, none), (3, none), (5, none), (6, none), (4, some (some [1, 6])), (7, none), (8, some (some [1, 6])), (9, some none)] ?_; have hS := hS.drew; refine s_cq ?_; refine zf0 ?_; refine zt ?_; refine s_cq ?_; refine zl hS ?_; refine zt ?_; refine s_cq ?_; refine zf0 ?_; refine zt ?_; refine s_cq ?_; refine zl hS ?_; refine zt ?_; refine s_cq ?_; refine zf0 ?_; refine zt ?_; refine s_cq ?_; refine zv hS ?_; refine zt ?_; refine Qi ?_)
          all_goals (refine zR1 (c := Q5D hsb.1.1 hsb.1.2 hp2 hS) (h := ?_); rintro v1 w1 ⟨c3, hle2, hk3, hS⟩; obtain ⟨a3, n3, rfl⟩ := Rep.SR.shape hk3; (try have hle := hle.trans hle2); (try have hL0 := hL0.trans hle2); (try have hL1 := hL1.trans hle2); (try have hJ6 := hJ6.trans hle2); (try have hJ10 := hJ10.trans hle2); (try have hf := hf.up hle2); (try have hk1 := hk1.up hle2); (try have hk2 := hk2.up hle2); (try have hp1 := hp1.up hle2); (try have hr1 := hr1.up hle2); (try have hb1 := hb1.up hle2); (try have hp2 := hp2.up hle2); (try have hc2 := hc2.up hle2); (try have he21 := he21.up hle2); (try have he22 := he22.up hle2); (try have he23 := he23.up hle2); (try have he24 := he24.up hle2); (try have he25 := he25.up hle2); (try have he1 := he1.up hle2); (try have he2 := he2.up hle2); (try have hls := hls.up hle2); (try have hlsB := hlsB.up hle2))
          all_goals (refine zt ?_; refine zy ?_; refine s_cq ?_; refine zb3 [_, _, _, _, _, _, _, _, _, _, _, _] ?_; refine zt ?_; refine Qi ?_; refine Q8 hS ?_; intro p9 w1 hS; refine zt ?_; refine zy ?_; refine s_cf ?_; refine zsn hS ?_; intro w1 hS; have hS := hS.ns; refine zt ?_; refine zcn ?_; exact ⟨_, a3, n3, p9, zh, zh, hJ10, by assumption, hS.sp⟩)
        · skip
          all_goals (refine zC [(0, none), (1, none), (2, none), (3, none), (5, none), (6, none), (8, some (some [1, 3, 6])), (4, some (some [1, 6])), (7, none), (9, some none)] ?_; have hS := hS.drew; refine s_cq ?_; refine zf0 ?_; refine zt ?_; refine s_cq ?_; refine zl hS ?_; refine zt ?_; refine s_cq ?_; refine zf0 ?_; refine zt ?_; refine s_cq ?_; refine zl hS ?_; refine zt ?_; refine s_cq ?_; refine zf0 ?_; refine zt ?_; refine s_cq ?_; refine zv hS ?_; refine zt ?_; refine Qi ?_; refine Q8 hS ?_; intro p9 w1 hS; refine zt ?_; refine zy ?_; refine Qi ?_)
          all_goals (refine zR1 (c := Q5D hsb.1.1 hsb.1.2 hp2 hS) (h := ?_); rintro v1 w1 ⟨c3, hle2, hk3, hS⟩; obtain ⟨a3, n3, rfl⟩ := Rep.SR.shape hk3; (try have hle := hle.trans hle2); (try have hL0 := hL0.trans hle2); (try have hL1 := hL1.trans hle2); (try have hJ6 := hJ6.trans hle2); (try have hJ10 := hJ10.trans hle2); (try have hf := hf.up hle2); (try have hk1 := hk1.up hle2); (try have hk2 := hk2.up hle2); (try have hp1 := hp1.up hle2); (try have hr1 := hr1.up hle2); (try have hb1 := hb1.up hle2); (try have hp2 := hp2.up hle2); (try have hc2 := hc2.up hle2); (try have he21 := he21.up hle2); (try have he22 := he22.up hle2); (try have he23 := he23.up hle2); (try have he24 := he24.up hle2); (try have he25 := he25.up hle2); (try have he1 := he1.up hle2); (try have he2 := he2.up hle2); (try have hls := hls.up hle2); (try have hlsB := hlsB.up hle2))
          all_goals (refine zt ?_; refine zy ?_; refine s_cq ?_; refine zb3 [_, _, _, _, _, _, _, _, _, _, _, _] ?_; refine zt ?_; refine s_cf ?_; refine zsn hS ?_; intro w1 hS; have hS := hS.ns; refine zt ?_; refine zcn ?_; exact ⟨_, a3, n3, p9, zh, zh, hJ10, by assumption, hS.sp⟩)
      rintro ρ w1 ⟨k10, a3, n3, p9, hA, hρ, hle2, hk3, hS⟩; obtain ⟨ρ, rfl⟩ := env2 hA hρ; (try have hle := hle.trans hle2); (try have hL0 := hL0.trans hle2); (try have hL1 := hL1.trans hle2); (try have hJ6 := hJ6.trans hle2); (try have hJ10 := hJ10.trans hle2); (try have hf := hf.up hle2); (try have hk1 := hk1.up hle2); (try have hk2 := hk2.up hle2); (try have hp1 := hp1.up hle2); (try have hr1 := hr1.up hle2); (try have hb1 := hb1.up hle2); (try have hp2 := hp2.up hle2); (try have hc2 := hc2.up hle2); (try have he21 := he21.up hle2); (try have he22 := he22.up hle2); (try have he23 := he23.up hle2); (try have he24 := he24.up hle2); (try have he25 := he25.up hle2); (try have he1 := he1.up hle2); (try have he2 := he2.up hle2); (try have hls := hls.up hle2); (try have hlsB := hlsB.up hle2)
      all_goals (refine Q0 ?_; refine zC [(0, none), (1, none), (2, none), (4, none), (5, none), (6, none), (8, none), (9, none), (10, none), (3, some (some [6, 10])), (12, none), (13, none), (7, some (some [10])), (11, some (some [])), (14, some none), (15, none), (16, none), (17, some none), (18, none), (19, none), (20, some none)] ?_; have hS := hS.drew; refine s_cq ?_; refine zf0 ?_; refine zt ?_; refine s_cq ?_; (first | refine zf0 ?_ | refine zfd ?_); refine zt ?_; refine s_cq ?_; refine zv hS ?_; refine zt ?_; refine s_cq ?_; refine zf0 ?_; refine zt ?_; refine s_cq ?_; (first | refine zf0 ?_ | refine zfd ?_); refine zt ?_; refine s_cq ?_; refine zv hS ?_; refine zt ?_; refine s_cq ?_; refine zf0 ?_; refine zt ?_; refine s_cq ?_; (first | refine zf0 ?_ | refine zfd ?_); refine zt ?_; refine s_cq ?_; refine zl hS ?_; refine zt ?_; refine Qi ?_)
      all_goals (refine zR1 (c := Qlj (x := x2.fin.yes) (by have := hsb.2.2.2.1.1; omega) (by have := hsb.2.2.2.1.2; omega) ⟨_, _, rfl, he21, he22⟩ hS) (h := ?_); rintro v1 w1 ⟨c7, ds, rfl, hle2, hk7, hS⟩; obtain ⟨y1, y2, rfl, hy1, hy2⟩ := Qer hk7; obtain ⟨a7, n7, rfl⟩ := Rep.SR.shape hy1; obtain ⟨a8, n8, rfl⟩ := Rep.SR.shape hy2; (try have hle := hle.trans hle2); (try have hL0 := hL0.trans hle2); (try have hL1 := hL1.trans hle2); (try have hJ6 := hJ6.trans hle2); (try have hJ10 := hJ10.trans hle2); (try have hf := hf.up hle2); (try have hk1 := hk1.up hle2); (try have hk2 := hk2.up hle2); (try have hk3 := hk3.up hle2); (try have hp1 := hp1.up hle2); (try have hr1 := hr1.up hle2); (try have hb1 := hb1.up hle2); (try have hp2 := hp2.up hle2); (try have hc2 := hc2.up hle2); (try have he21 := he21.up hle2); (try have he22 := he22.up hle2); (try have he23 := he23.up hle2); (try have he24 := he24.up hle2); (try have he25 := he25.up hle2); (try have he1 := he1.up hle2); (try have he2 := he2.up hle2); (try have hls := hls.up hle2); (try have hlsB := hlsB.up hle2))
      all_goals (refine zt ?_; refine zy ?_; refine s_cq ?_; refine zf0 ?_; refine zt ?_; refine s_cq ?_; (first | refine zf0 ?_ | refine zfd ?_); refine zt ?_; refine Qi ?_)
      all_goals (refine zR1 (c := Qlj (x := x2.fin.no) (by have := hsb.2.2.2.2.1.1; omega) (by have := hsb.2.2.2.2.1.2; omega) ⟨_, _, rfl, he23, he24⟩ hS) (h := ?_); rintro v1 w1 ⟨c8, ds, rfl, hle2, hk8, hS⟩; obtain ⟨z1, z2, rfl, hz1, hz2⟩ := Qer hk8; obtain ⟨a9, n9, rfl⟩ := Rep.SR.shape hz1; obtain ⟨a10, n10, rfl⟩ := Rep.SR.shape hz2; (try have hle := hle.trans hle2); (try have hL0 := hL0.trans hle2); (try have hL1 := hL1.trans hle2); (try have hJ6 := hJ6.trans hle2); (try have hJ10 := hJ10.trans hle2); (try have hf := hf.up hle2); (try have hk1 := hk1.up hle2); (try have hk2 := hk2.up hle2); (try have hk3 := hk3.up hle2); (try have hk7 := hk7.up hle2); (try have hp1 := hp1.up hle2); (try have hr1 := hr1.up hle2); (try have hb1 := hb1.up hle2); (try have hp2 := hp2.up hle2); (try have hc2 := hc2.up hle2); (try have he21 := he21.up hle2); (try have he22 := he22.up hle2); (try have he23 := he23.up hle2); (try have he24 := he24.up hle2); (try have he25 := he25.up hle2); (try have he1 := he1.up hle2); (try have he2 := he2.up hle2); (try have hls := hls.up hle2); (try have hy1 := hy1.up hle2); (try have hy2 := hy2.up hle2); (try have hlsB := hlsB.up hle2))
      all_goals (refine zt ?_; refine zy ?_; refine Qi ?_)
      all_goals (refine zR1 (c := Q9T (by have := hsb.2.2.2.2.2; omega) he25 hS) (h := ?_); rintro v1 w1 ⟨c9, hle2, hw1, hS⟩; obtain ⟨a11, n11, rfl⟩ := Rep.SR.shape hw1; (try have hle := hle.trans hle2); (try have hL0 := hL0.trans hle2); (try have hL1 := hL1.trans hle2); (try have hJ6 := hJ6.trans hle2); (try have hJ10 := hJ10.trans hle2); (try have hf := hf.up hle2); (try have hk1 := hk1.up hle2); (try have hk2 := hk2.up hle2); (try have hk3 := hk3.up hle2); (try have hk7 := hk7.up hle2); (try have hk8 := hk8.up hle2); (try have hp1 := hp1.up hle2); (try have hr1 := hr1.up hle2); (try have hb1 := hb1.up hle2); (try have hp2 := hp2.up hle2); (try have hc2 := hc2.up hle2); (try have he21 := he21.up hle2); (try have he22 := he22.up hle2); (try have he23 := he23.up hle2); (try have he24 := he24.up hle2); (try have he25 := he25.up hle2); (try have he1 := he1.up hle2); (try have he2 := he2.up hle2); (try have hls := hls.up hle2); (try have hy1 := hy1.up hle2); (try have hy2 := hy2.up hle2); (try have hz1 := hz1.up hle2); (try have hz2 := hz2.up hle2); (try have hlsB := hlsB.up hle2))
      all_goals (refine zt ?_; refine zy ?_; refine s_cf ?_; (first | (refine zsn hS ?_; intro w1 hS; have hS := hS.ns) | (refine zsm hS ?_; intro w1 hS; have hS := hS.ns)); refine zt ?_; refine s_cq ?_; refine zf0 ?_; refine zt ?_; refine s_cq ?_; (first | refine zf0 ?_ | refine zfd ?_); refine zt ?_; refine s_cf ?_; (first | (refine zsn hS ?_; intro w1 hS; have hS := hS.ns) | (refine zsm hS ?_; intro w1 hS; have hS := hS.ns)); refine zt ?_; refine s_cq ?_; refine zf0 ?_; refine zt ?_; refine s_cq ?_; (first | refine zf0 ?_ | refine zfd ?_); refine zt ?_; refine s_cf ?_; refine zst hS ?_; intro w1 hS; have hS := hS.ns; refine zt ?_; refine zcn ?_; refine Q0 ?_; refine Q0 ?_; refine Q1 ?_; refine zf0 ?_; refine zl hS ?_; refine zL ?_; refine zm ?_; refine zn ?_; refine Qh ?_)
      refine zo [2, 3, 6, 9, 13, 14, 15, 29, 30, 31, 62, 63] (fun A ρ' w' => ∃ (k2 : Cx) (k : Nat) (uc : Value) (cssC : List (List Value)), Has ρ' A ∧ Has ρ' [(64, .int .i64 k)] ∧ (c9.Le k2) ∧ (k ≤ x2.code.length) ∧ (insR.ls k2 cssC (x2.code.take k)) ∧ (oneC uc = true) ∧ St k2 w' (sl 42 8 uc cssC :: blk p9 50 [.int .i64 x2.regs, .slice a3 x2.params.length n3, uc, .int .i64 x2.fin.op, .int .i64 x2.fin.a, .int .i64 x2.fin.yes.block, .slice a7 x2.fin.yes.regs.length n7, .slice a8 x2.fin.yes.args.length n8, .int .i64 x2.fin.no.block, .slice a9 x2.fin.no.regs.length n9, .slice a10 x2.fin.no.args.length n10, .slice a11 x2.fin.args.length n11] :: blk p8 50 [.int .i64 x2.regs, vp2, vc2, .int .i64 x2.fin.op, .int .i64 x2.fin.a, .int .i64 x2.fin.yes.block, ve21, ve22, .int .i64 x2.fin.no.block, ve23, ve24, ve25] :: sl 50 12 ub cssB :: blk p6 53 [.int .i64 x1.regs, .slice a1 x1.params.length n1, .slice a2 x1.results.length n2, ub] :: blk p5 53 [.int .i64 x1.regs, vp1, vr1, vb1] :: sl 53 4 u css :: blk p3 24 [u] :: blk p2 24 [.slice none 0 0] :: blk p1 24 [vf] :: L)) (fun ρ' _ => (x2.code.length - iv (ρ' 64)).toNat) ?_ ?_
      · exact ⟨c9, 0, .slice none 0 0, [], zh, zh, St.refl hS, (by omega), Rep.LR.nil _ _ _, rfl, by have hS := hS.nil (T := 42) (es := 8); exact hS.sp⟩
      rintro ρ w1 ⟨k2, k, uc, cssC, hA, hρ, hle2, hkk, hlsC, huc, hS⟩; obtain ⟨ρ, rfl⟩ := env2 hA hρ; have hL2 := hle2; (try have hle := hle.trans hle2); (try have hL0 := hL0.trans hle2); (try have hL1 := hL1.trans hle2); (try have hJ6 := hJ6.trans hle2); (try have hJ10 := hJ10.trans hle2); (try have hf := hf.up hle2); (try have hk1 := hk1.up hle2); (try have hk2 := hk2.up hle2); (try have hk3 := hk3.up hle2); (try have hk7 := hk7.up hle2); (try have hk8 := hk8.up hle2); (try have hp1 := hp1.up hle2); (try have hr1 := hr1.up hle2); (try have hb1 := hb1.up hle2); (try have hp2 := hp2.up hle2); (try have hc2 := hc2.up hle2); (try have he21 := he21.up hle2); (try have he22 := he22.up hle2); (try have he23 := he23.up hle2); (try have he24 := he24.up hle2); (try have he25 := he25.up hle2); (try have he1 := he1.up hle2); (try have he2 := he2.up hle2); (try have hls := hls.up hle2); (try have hy1 := hy1.up hle2); (try have hy2 := hy2.up hle2); (try have hz1 := hz1.up hle2); (try have hz2 := hz2.up hle2); (try have hw1 := hw1.up hle2); (try have hlsB := hlsB.up hle2)
      unfold Qcw
      all_goals (refine Q0 ?_; refine Q1 ?_; refine Q1h rfl rfl ?_; refine zn ?_; refine Q0 ?_)
      refine Q1g rfl (fun hc => ?_) (fun hc => ?_)
      · skip
        all_goals (refine zsk ?_; refine Q0 ?_; refine Qh ?_; refine Q0 ?_; refine Q1 ?_; refine zi ?_; intro b3 o3 cs3 x3 hat3 hx3 he3; obtain ⟨vr3, va3, rfl, hr3, ha3⟩ := Q2T he3; (first | (refine zv hS ?_) | (refine zvk hS ?_)); refine Q8 hS ?_; intro p11 w1 hS; refine zsn hS ?_; intro w1 hS; have hS := hS.ns; refine zn ?_; refine Q0 ?_; have hsi := hsb.2.2.1 x3 (List.mem_of_getElem? hx3); refine zC [(0, none), (1, none), (3, none), (4, none), (2, some (some [4])), (6, none), (5, some (some [])), (7, some none), (8, none), (9, some none)] ?_; have hS := hS.drew; refine s_cq ?_; refine zf0 ?_; refine zt ?_; refine s_cq ?_; refine zl hS ?_; refine zt ?_; refine s_cq ?_; refine zf0 ?_; refine zt ?_; refine s_cq ?_; refine zl hS ?_; refine zt ?_; refine Qi ?_)
        all_goals (refine zR1 (c := Q9T (by have := hsi.1; omega) hr3 hS) (h := ?_); rintro v1 w1 ⟨c4, hle2, hk4, hS⟩; obtain ⟨a4, n4, rfl⟩ := Rep.SR.shape hk4; (try have hle := hle.trans hle2); (try have hL0 := hL0.trans hle2); (try have hL1 := hL1.trans hle2); (try have hL2 := hL2.trans hle2); (try have hJ6 := hJ6.trans hle2); (try have hJ10 := hJ10.trans hle2); (try have hf := hf.up hle2); (try have hk1 := hk1.up hle2); (try have hk2 := hk2.up hle2); (try have hk3 := hk3.up hle2); (try have hk7 := hk7.up hle2); (try have hk8 := hk8.up hle2); (try have hp1 := hp1.up hle2); (try have hr1 := hr1.up hle2); (try have hb1 := hb1.up hle2); (try have hp2 := hp2.up hle2); (try have hc2 := hc2.up hle2); (try have he21 := he21.up hle2); (try have he22 := he22.up hle2); (try have he23 := he23.up hle2); (try have he24 := he24.up hle2); (try have he25 := he25.up hle2); (try have hr3 := hr3.up hle2); (try have ha3 := ha3.up hle2); (try have he1 := he1.up hle2); (try have he2 := he2.up hle2); (try have he3 := he3.up hle2); (try have hls := hls.up hle2); (try have hy1 := hy1.up hle2); (try have hy2 := hy2.up hle2); (try have hz1 := hz1.up hle2); (try have hz2 := hz2.up hle2); (try have hw1 := hw1.up hle2); (try have hlsB := hlsB.up hle2); (try have hlsC := hlsC.up hle2))
        all_goals (refine zt ?_; refine zy ?_; refine s_cq ?_; refine zf0 ?_; refine zt ?_; refine Qi ?_)
        all_goals (refine zR1 (c := Q9T (by have := hsi.2; omega) ha3 hS) (h := ?_); rintro v1 w1 ⟨c5, hle2, hk5, hS⟩; obtain ⟨a5, n5, rfl⟩ := Rep.SR.shape hk5; (try have hle := hle.trans hle2); (try have hL0 := hL0.trans hle2); (try have hL1 := hL1.trans hle2); (try have hL2 := hL2.trans hle2); (try have hJ6 := hJ6.trans hle2); (try have hJ10 := hJ10.trans hle2); (try have hf := hf.up hle2); (try have hk1 := hk1.up hle2); (try have hk2 := hk2.up hle2); (try have hk3 := hk3.up hle2); (try have hk4 := hk4.up hle2); (try have hk7 := hk7.up hle2); (try have hk8 := hk8.up hle2); (try have hp1 := hp1.up hle2); (try have hr1 := hr1.up hle2); (try have hb1 := hb1.up hle2); (try have hp2 := hp2.up hle2); (try have hc2 := hc2.up hle2); (try have he21 := he21.up hle2); (try have he22 := he22.up hle2); (try have he23 := he23.up hle2); (try have he24 := he24.up hle2); (try have he25 := he25.up hle2); (try have hr3 := hr3.up hle2); (try have ha3 := ha3.up hle2); (try have he1 := he1.up hle2); (try have he2 := he2.up hle2); (try have he3 := he3.up hle2); (try have hls := hls.up hle2); (try have hy1 := hy1.up hle2); (try have hy2 := hy2.up hle2); (try have hz1 := hz1.up hle2); (try have hz2 := hz2.up hle2); (try have hw1 := hw1.up hle2); (try have hlsB := hlsB.up hle2); (try have hlsC := hlsC.up hle2))
        all_goals (refine zt ?_; refine zy ?_; refine s_cf ?_; refine zst hS ?_; intro w1 hS; have hS := hS.ns; refine zt ?_; refine s_cq ?_; refine zf0 ?_; refine zt ?_; refine s_cf ?_; refine zst hS ?_; intro w1 hS; have hS := hS.ns; refine zt ?_; refine zcn ?_; have hk9 : insR.at c5 _ x3 := ⟨_, _, rfl, hk4, hk5⟩; refine Q1 ?_; refine zf0 ?_; refine zl hS ?_; refine zv hS ?_; refine zB1 hS [_, _, _, _, _, _, _, _] ?_; intro b1 w1 hS; refine za el_T43 u_T43 hS ?_; intro vp1 w1 css1 hls1 hv1 hS; have hS := hS.ns; refine zf0 ?_; refine zst hS ?_; intro w1 hS; have hS := hS.ns; refine zn ?_; refine Q1 ?_; refine zad ?_; refine zm ?_; refine zn ?_; exact ⟨⟨_, k + 1, _, _, zh, zh, hL2, (by omega), by rw [Q9N hx3]; assumption, by assumption, hS.sp⟩, Q1j (by omega)⟩)
      · skip
        all_goals (refine zex ?_)
        all_goals (obtain ⟨c6, hle2, hS, hk6⟩ := St.freezeL (r := insR) (l := x2.code) hS (by rw [List.take_of_length_le (by omega)] at hlsC; exact hlsC) rfl (by have := hsb.2.1; omega); obtain ⟨a6, n6, rfl⟩ := Rep.SR.shape hk6; (try have hle := hle.trans hle2); (try have hL0 := hL0.trans hle2); (try have hL1 := hL1.trans hle2); (try have hL2 := hL2.trans hle2); (try have hJ6 := hJ6.trans hle2); (try have hJ10 := hJ10.trans hle2); (try have hf := hf.up hle2); (try have hk1 := hk1.up hle2); (try have hk2 := hk2.up hle2); (try have hk3 := hk3.up hle2); (try have hk7 := hk7.up hle2); (try have hk8 := hk8.up hle2); (try have hp1 := hp1.up hle2); (try have hr1 := hr1.up hle2); (try have hb1 := hb1.up hle2); (try have hp2 := hp2.up hle2); (try have hc2 := hc2.up hle2); (try have he21 := he21.up hle2); (try have he22 := he22.up hle2); (try have he23 := he23.up hle2); (try have he24 := he24.up hle2); (try have he25 := he25.up hle2); (try have he1 := he1.up hle2); (try have he2 := he2.up hle2); (try have hls := hls.up hle2); (try have hy1 := hy1.up hle2); (try have hy2 := hy2.up hle2); (try have hz1 := hz1.up hle2); (try have hz2 := hz2.up hle2); (try have hw1 := hw1.up hle2); (try have hlsB := hlsB.up hle2); (try have hlsC := hlsC.up hle2))
        all_goals (have hk9 : blockR.at c6 _ x2 := Qfm (x := x2) hk3 hk6 hy1 hy2 hz1 hz2 hw1; refine Q1 ?_; refine zf0 ?_; refine zl hS ?_; refine zv hS ?_; refine zB1 hS [_, _, _, _, _, _, _, _, _, _, _, _] ?_; intro b1 w1 hS; refine za el_T51 u_T51 hS ?_; intro vp2 w2 css2 hls2 hv2 hS; have hS := hS.ns; refine zf0 ?_; refine zst hS ?_; intro w1 hS; have hS := hS.ns; refine zn ?_; refine Q1 ?_; refine zad ?_; refine zm ?_; refine zn ?_; exact ⟨⟨_, i + 1, _, _, zh, zh, hL1, (by omega), by rw [Q9N hx2]; assumption, by assumption, hS.sp⟩, Q1j (by omega)⟩)
    · skip
      all_goals (refine zex ?_)
      all_goals (obtain ⟨c10, hle2, hS, hk6⟩ := St.freezeL (r := blockR) (l := x1.blocks) hS (by rw [List.take_of_length_le (by omega)] at hlsB; exact hlsB) rfl (by have := hsh.2.2.1; omega); obtain ⟨a6, n6, rfl⟩ := Rep.SR.shape hk6; (try have hle := hle.trans hle2); (try have hL0 := hL0.trans hle2); (try have hL1 := hL1.trans hle2); (try have hJ6 := hJ6.trans hle2); (try have hf := hf.up hle2); (try have hk1 := hk1.up hle2); (try have hk2 := hk2.up hle2); (try have hp1 := hp1.up hle2); (try have hr1 := hr1.up hle2); (try have hb1 := hb1.up hle2); (try have he1 := he1.up hle2); (try have hls := hls.up hle2); (try have hlsB := hlsB.up hle2))
      all_goals (have hk9 : funcR.at c10 _ x1 := ⟨_, _, _, rfl, hk1, hk2, hk6⟩; refine Q1 ?_; refine zf0 ?_; refine zl hS ?_; refine zv hS ?_; refine zB1 hS [_, _, _, _] ?_; intro b1 w1 hS; refine za el_T22 u_T22 hS ?_; intro vp3 w3 css3 hls3 hv3 hS; have hS := hS.ns; refine zf0 ?_; refine zst hS ?_; intro w1 hS; have hS := hS.ns; refine zn ?_; refine Q1 ?_; refine zad ?_; refine zm ?_; refine zn ?_; exact ⟨⟨_, j + 1, _, _, zh, zh, hL0, (by omega), by rw [Q9N hx1]; assumption, by assumption, hS.sp⟩, Q1j (by omega)⟩)
  · skip
    all_goals (refine zex ?_)
    all_goals (obtain ⟨c11, hle2, hS, hk6⟩ := St.freezeL (r := funcR) (l := l) hS (by rw [List.take_of_length_le (by omega)] at hls; exact hls) rfl (by omega); obtain ⟨a6, n6, rfl⟩ := Rep.SR.shape hk6; (try have hle := hle.trans hle2); (try have hL0 := hL0.trans hle2); (try have hf := hf.up hle2); (try have hls := hls.up hle2))
    all_goals (refine Q0 ?_; refine Q1 ?_; refine zv hS ?_; refine zsn hS ?_; intro w1 hS; have hS := hS.ns; refine zn ?_; refine zr ?_; refine Q2W vw (Qg (n := 1) (by kernel_rfl) (by kernel_rfl) (hS.blkAt fd) (by rfl) (by rfl)) ?_; exact ⟨_, rfl, c11, _, rfl, hle, ⟨_, rfl, hk6⟩, hS.sp⟩)
end Go.Proofs.Yteflkifmgnpbhaa
namespace Go.Lir
/-- Why a run does not begin. -/
def Q2k (m : Module) (inp : List Int) (fuel pages : Int) : Flt := if m.fault.1 ≠ 0 then m.fault else if 200 < inp.length ∨ fuel < 0 ∨ 20000 < fuel ∨ pages < 0 ∨ 64 < pages then (1, -1) else (0, 0)
theorem Q1P {m : Module} {inp : List Int} {fuel pages : Int} (h : m.fault.1 ≠ 0) : Q2k m inp fuel pages = m.fault := if_pos h
theorem Q2R {m : Module} {inp : List Int} {fuel pages : Int} (h : ¬ m.fault.1 ≠ 0) (hr : 200 < inp.length ∨ fuel < 0 ∨ 20000 < fuel ∨ pages < 0 ∨ 64 < pages) : Q2k m inp fuel pages = (1, -1) := (if_neg h).trans (if_pos hr)
theorem Q9O {m : Module} {inp : List Int} {fuel pages : Int} (h : ¬ m.fault.1 ≠ 0) (hr : ¬ (200 < inp.length ∨ fuel < 0 ∨ 20000 < fuel ∨ pages < 0 ∨ 64 < pages)) : Q2k m inp fuel pages = (0, 0) := (if_neg h).trans (if_neg hr)
end Go.Lir
namespace Go.Proofs.Yteflkifmgnpbhaa
open Go.Lir
set_option maxHeartbeats 1000000
attribute [local irreducible] LC.wp Q2 Qy QD retQ Q1n LO.wp Ql Calls
set_option linter.unusedSimpArgs false
set_option linter.unusedVariables false
variable {cx : Cx} {w : World} {L : List Res} {m : Module} {inp : List Int}
@[reducible] def newC (hp fn lv iv : Value) (fuel : Int) : MC := ⟨hp, fn, lv, iv, 0, .slice none 0 0, .slice none 0 0, 0, fuel, false, 0, 0⟩
@[reducible] def newG : FrmV := ⟨0, 0, 0, .slice none 0 0, [], .slice none 0 0, []⟩
/-- What a new machine is. -/
def NewS (m : Module) (inp : List Int) (fuel pages : Int) (cx : Cx) (L : List Res) (u : Value) (w' : World) : Prop :=
  ((Q2k m inp fuel pages).1 ≠ 0 ∧ u = .tuple #[.pointer none, fltV (Q2k m inp fuel pages)] ∧ St cx w' L) ∨
  (Q2k m inp fuel pages = (0, 0) ∧ m.fault.1 = 0 ∧ inp.length ≤ 200 ∧ 0 ≤ fuel ∧ fuel ≤ 20000 ∧ 0 ≤ pages ∧ pages ≤ 64 ∧ ∃ c' p hp fn lv iv, u = .tuple #[.pointer (some ⟨p, 0, none⟩), fltV (0, 0)] ∧ cx.Le c' ∧ funcR.sl c' fn m.funcs ∧ intR.sl c' iv inp ∧ St c' w' (mS p (newC hp fn lv iv fuel) [] newG 0 ⟨[], pages⟩ [] L))
theorem new_c {cs : List Value} {v : Value} {fuel pages : Int} (hsh : m.Short) (hx : modR.at cx cs m) (hi : intR.sl cx v inp) (hS : St cx w L) :
    Rets Try.prog Q4d [.agg ⟨cs⟩, v, .int .i64 fuel, .int .i64 pages] w (NewS m inp fuel pages cx L) := by
  have hle := St.refl hS
  have hx' := hx
  obtain ⟨vf, rfl, hf⟩ := Q2e hx
  have hil := hi.len
  unfold NewS
  all_goals refine Qj5 ?_
  all_goals (unfold ideal_New_lc; refine Q0 ?_; refine Q1 ?_; refine zb hS ?_; intro p4 w1 hS; refine zm ?_; refine Q8 hS ?_; intro p9 w1 hS; refine zn ?_; refine Q0 ?_; refine Q0 ?_; refine Q1 ?_; refine zv hS ?_; refine zR1 (c := pcheck_c hsh hx' hS) (h := ?_); rintro v1 w1 ⟨rfl, hS⟩; unfold fltV; refine Q8 hS ?_; intro p10 w1 hS; refine zsn hS ?_; intro w1 hS; have hS := hS.ns; refine zn ?_; refine Q0 ?_; refine Q1 ?_; refine zf0 ?_; refine zl hS ?_)
  all_goals (first | (refine Q1o ?_) | (refine Q1B ?_) | (refine Q1b rfl rfl (fun hc => ?_) (fun hc => ?_)))
  all_goals (refine zn ?_)
  all_goals
    first
    | (refine zct ?_ -- Q4d c0
       all_goals (refine Q0 ?_; refine zD [(0, none), (1, none), (2, some none)] ?_; have hS := hS.drew; refine zv hS ?_; refine zm ?_; refine zsn hS ?_; intro w1 hS; have hS := hS.ns; refine zn ?_; refine zr ?_; refine QaW vw vw (Qg (n := 2) (by kernel_rfl) (by kernel_rfl) (hS.blkAt fd) (by rfl) (by rfl)) ?_)
       all_goals (exact ⟨_, rfl, .inl ⟨by rw [Q1P (by omega)]; omega, by rw [Q1P (by omega)]; rfl, hS.sp⟩⟩))
    | (refine zcf ?_ -- Q4d c0
       all_goals refine zsk ?_)
  all_goals (refine Q0 ?_; refine Q0 ?_; refine Q1 ?_; refine zm ?_; refine zL ?_)
  all_goals (first | (refine QQ ?_) | (refine Q1c ?_) | (refine Qo rfl rfl (fun hc => ?_) (fun hc => ?_)))
  all_goals (refine zm ?_; (first | refine zgn ?_ | (refine zgy ?_; refine zm ?_)))
  all_goals (first | refine zgn ?_ | (refine zgy ?_; (first | (refine Q1G ?_) | (refine Q1N ?_) | (refine QJ rfl rfl (fun hc => ?_) (fun hc => ?_)))))
  all_goals ((first | (refine zpt ?_) | (refine zpf ?_)); refine zm ?_; (first | refine zgn ?_ | (refine zgy ?_; refine zm ?_)))
  all_goals (first | refine zgn ?_ | (refine zgy ?_; (first | (refine QQ ?_) | (refine Q1c ?_) | (refine Qo rfl rfl (fun hc => ?_) (fun hc => ?_)))))
  all_goals ((first | (refine zpt ?_) | (refine zpf ?_)); refine zm ?_; (first | refine zgn ?_ | (refine zgy ?_; refine zm ?_)))
  all_goals (first | refine zgn ?_ | (refine zgy ?_; (first | (refine Q1G ?_) | (refine Q1N ?_) | (refine QJ rfl rfl (fun hc => ?_) (fun hc => ?_)))))
  all_goals ((first | (refine zpt ?_) | (refine zpf ?_)); refine zm ?_; (first | refine zgn ?_ | (refine zgy ?_; refine zm ?_)))
  all_goals (first | refine zgn ?_ | (refine zgy ?_; (first | (refine QQ ?_) | (refine Q1c ?_) | (refine Qo rfl rfl (fun hc => ?_) (fun hc => ?_)))))
  all_goals ((first | (refine zpt ?_) | (refine zpf ?_)); refine zn ?_)
  all_goals
    first
    | (refine zct ?_ -- Q4d c1
       all_goals (refine Q0 ?_; refine Q1 ?_; refine zb2 [_, _] ?_; refine zm ?_; refine zsn hS ?_; intro w1 hS; have hS := hS.ns; refine zn ?_; refine zr ?_; refine QaW vw vw (Qg (n := 2) (by kernel_rfl) (by kernel_rfl) (hS.blkAt fd) (by rfl) (by rfl)) ?_)
       all_goals ((first | exact ⟨_, rfl, .inl ⟨by rw [Q1P (by omega)]; omega, by rw [Q1P (by omega)]; rfl, hS.sp⟩⟩ | exact ⟨_, rfl, .inl ⟨by rw [Q2R (by omega) (by omega)]; decide, by rw [Q2R (by omega) (by omega)]; rfl, hS.sp⟩⟩)))
    | (refine zcf ?_ -- Q4d c1
       all_goals refine zsk ?_)
  all_goals (refine Q0 ?_)
  refine Q2g 1 5 (by kernel_rfl) ?_ ?_
  · skip
    refine Q2g 3 5 (by kernel_rfl) ?_ ?_
    · skip
      refine Q2g 5 7 (by kernel_rfl) ?_ ?_
      · skip
        all_goals (refine zC [(0, none), (2, none), (4, none), (6, none), (8, none), (11, none), (1, some (some [2])), (3, some (some [])), (5, some (some [])), (7, some (some [])), (9, none), (10, some (some [])), (12, none), (13, some none)] ?_; have hS := hS.drew; refine s_cq ?_; refine zm ?_; refine zt ?_; refine s_cq ?_; refine zv hS ?_; refine zt ?_; refine s_cq ?_; refine zb0 [_, _, _, _, _] ?_; refine zt ?_; refine s_cq ?_; refine zm ?_; refine zt ?_; refine s_cq ?_; refine zm ?_; refine zt ?_; refine s_cq ?_; refine zb0 [_, _] ?_; refine zt ?_; refine Qi ?_; refine zR1 (c := Qlr pages (by omega) hS) (h := ?_); rintro v1 w1 ⟨bh, rfl, hS⟩; refine zt ?_; refine zy ?_; refine Qi ?_; refine zR1 (c := Q9S hsh hx' hS) (h := ?_); rintro v1 w1 ⟨c1, ds, rfl, hle1, hx1, hS⟩; obtain ⟨vf1, rfl, hf1⟩ := Q2e hx1; have hi := Rep.SR.up hi hle1; obtain ⟨af, nf, rfl⟩ := Rep.SR.shape hf1; refine zt ?_; refine zy ?_; refine Qi ?_; refine zB1 hS [_, _, _, _, _] ?_; intro b1 w1 hS; have hS := St.slOf (T := 70) (es := 5) (css := [[.int .i64 0, .int .i64 0, .int .i64 0, .slice none 0 0, .slice none 0 0]]) hS rfl (by simp) rfl; refine zt ?_; refine zy ?_; refine Qi ?_; refine zR1 (c := Q4t (by omega) hi hS) (h := ?_); rintro vi w1 ⟨c2, hle2, hi2, hS⟩; have hf1 := Rep.SR.up hf1 hle2; obtain ⟨ai, ni, rfl⟩ := Rep.SR.shape hi2; refine zt ?_; refine zy ?_; refine s_cq ?_; refine zb5 [_, _, _, _, _, _, _, _, _, _, _, _] ?_)
        all_goals (refine zt ?_; refine Qi ?_; refine zb hS ?_; intro p47 w1 hS; refine zt ?_; refine zy ?_; refine s_cq ?_; refine zm ?_; refine zt ?_; refine s_cf ?_; refine zsn hS ?_; intro w1 hS; have hS := hS.ns; refine zt ?_; refine zcn ?_; refine zr ?_; refine QaW vw vw (Qg (n := 2) (by kernel_rfl) (by kernel_rfl) (hS.blkAt fd) (by rfl) (by rfl)) ?_; (first | exact ⟨_, rfl, .inl ⟨by rw [Q1P (by omega)]; omega, by rw [Q1P (by omega)]; rfl, hS.sp⟩⟩ | exact ⟨_, rfl, .inl ⟨by rw [Q2R (by omega) (by omega)]; decide, by rw [Q2R (by omega) (by omega)]; rfl, hS.sp⟩⟩ | (have hS := St.big_nil FrmV.res (St.nil (T := 108) (es := 4) (St.nil (T := 3) (es := 1) (St.nil (T := 2) (es := 1) hS))); exact ⟨_, rfl, .inr ⟨Q9O (by omega) (by omega), by omega, by omega, by omega, by omega, by omega, by omega, c2, _, _, _, _, _, rfl, hle1.trans hle2, hf1, hi2, hS.sp⟩⟩)))
      · skip
        all_goals (refine zC [(0, none), (2, none), (4, none), (6, none), (8, none), (11, none), (1, some (some [2])), (3, some (some [])), (7, some (some [])), (5, some (some [])), (9, none), (10, some (some [])), (12, none), (13, some none)] ?_; have hS := hS.drew; refine s_cq ?_; refine zm ?_; refine zt ?_; refine s_cq ?_; refine zv hS ?_; refine zt ?_; refine s_cq ?_; refine zb0 [_, _, _, _, _] ?_; refine zt ?_; refine s_cq ?_; refine zm ?_; refine zt ?_; refine s_cq ?_; refine zm ?_; refine zt ?_; refine s_cq ?_; refine zb0 [_, _] ?_; refine zt ?_; refine Qi ?_; refine zR1 (c := Qlr pages (by omega) hS) (h := ?_); rintro v1 w1 ⟨bh, rfl, hS⟩; refine zt ?_; refine zy ?_; refine Qi ?_; refine zR1 (c := Q9S hsh hx' hS) (h := ?_); rintro v1 w1 ⟨c1, ds, rfl, hle1, hx1, hS⟩; obtain ⟨vf1, rfl, hf1⟩ := Q2e hx1; have hi := Rep.SR.up hi hle1; obtain ⟨af, nf, rfl⟩ := Rep.SR.shape hf1; refine zt ?_; refine zy ?_; refine Qi ?_; refine zR1 (c := Q4t (by omega) hi hS) (h := ?_); rintro vi w1 ⟨c2, hle2, hi2, hS⟩; have hf1 := Rep.SR.up hf1 hle2; obtain ⟨ai, ni, rfl⟩ := Rep.SR.shape hi2; refine zt ?_; refine zy ?_; refine Qi ?_; refine zB1 hS [_, _, _, _, _] ?_; intro b1 w1 hS; have hS := St.slOf (T := 70) (es := 5) (css := [[.int .i64 0, .int .i64 0, .int .i64 0, .slice none 0 0, .slice none 0 0]]) hS rfl (by simp) rfl; refine zt ?_; refine zy ?_; refine s_cq ?_; refine zb5 [_, _, _, _, _, _, _, _, _, _, _, _] ?_)
        all_goals (refine zt ?_; refine Qi ?_; refine zb hS ?_; intro p47 w1 hS; refine zt ?_; refine zy ?_; refine s_cq ?_; refine zm ?_; refine zt ?_; refine s_cf ?_; refine zsn hS ?_; intro w1 hS; have hS := hS.ns; refine zt ?_; refine zcn ?_; refine zr ?_; refine QaW vw vw (Qg (n := 2) (by kernel_rfl) (by kernel_rfl) (hS.blkAt fd) (by rfl) (by rfl)) ?_; (first | exact ⟨_, rfl, .inl ⟨by rw [Q1P (by omega)]; omega, by rw [Q1P (by omega)]; rfl, hS.sp⟩⟩ | exact ⟨_, rfl, .inl ⟨by rw [Q2R (by omega) (by omega)]; decide, by rw [Q2R (by omega) (by omega)]; rfl, hS.sp⟩⟩ | (have hS := St.big_nil FrmV.res (St.nil (T := 108) (es := 4) (St.nil (T := 3) (es := 1) (St.nil (T := 2) (es := 1) hS))); exact ⟨_, rfl, .inr ⟨Q9O (by omega) (by omega), by omega, by omega, by omega, by omega, by omega, by omega, c2, _, _, _, _, _, rfl, hle1.trans hle2, hf1, hi2, hS.sp⟩⟩)))
    · skip
      all_goals (refine zC [(0, none), (2, none), (4, none), (6, none), (8, none), (11, none), (1, some (some [2])), (5, some (some [2])), (3, some (some [])), (7, some (some [])), (9, none), (10, some (some [])), (12, none), (13, some none)] ?_; have hS := hS.drew; refine s_cq ?_; refine zm ?_; refine zt ?_; refine s_cq ?_; refine zv hS ?_; refine zt ?_; refine s_cq ?_; refine zb0 [_, _, _, _, _] ?_; refine zt ?_; refine s_cq ?_; refine zm ?_; refine zt ?_; refine s_cq ?_; refine zm ?_; refine zt ?_; refine s_cq ?_; refine zb0 [_, _] ?_; refine zt ?_; refine Qi ?_; refine zR1 (c := Qlr pages (by omega) hS) (h := ?_); rintro v1 w1 ⟨bh, rfl, hS⟩; refine zt ?_; refine zy ?_; refine Qi ?_; refine zB1 hS [_, _, _, _, _] ?_; intro b1 w1 hS; have hS := St.slOf (T := 70) (es := 5) (css := [[.int .i64 0, .int .i64 0, .int .i64 0, .slice none 0 0, .slice none 0 0]]) hS rfl (by simp) rfl; refine zt ?_; refine zy ?_; refine Qi ?_; refine zR1 (c := Q9S hsh hx' hS) (h := ?_); rintro v1 w1 ⟨c1, ds, rfl, hle1, hx1, hS⟩; obtain ⟨vf1, rfl, hf1⟩ := Q2e hx1; have hi := Rep.SR.up hi hle1; obtain ⟨af, nf, rfl⟩ := Rep.SR.shape hf1; refine zt ?_; refine zy ?_; refine Qi ?_; refine zR1 (c := Q4t (by omega) hi hS) (h := ?_); rintro vi w1 ⟨c2, hle2, hi2, hS⟩; have hf1 := Rep.SR.up hf1 hle2; obtain ⟨ai, ni, rfl⟩ := Rep.SR.shape hi2; refine zt ?_; refine zy ?_; refine s_cq ?_; refine zb5 [_, _, _, _, _, _, _, _, _, _, _, _] ?_)
      all_goals (refine zt ?_; refine Qi ?_; refine zb hS ?_; intro p47 w1 hS; refine zt ?_; refine zy ?_; refine s_cq ?_; refine zm ?_; refine zt ?_; refine s_cf ?_; refine zsn hS ?_; intro w1 hS; have hS := hS.ns; refine zt ?_; refine zcn ?_; refine zr ?_; refine QaW vw vw (Qg (n := 2) (by kernel_rfl) (by kernel_rfl) (hS.blkAt fd) (by rfl) (by rfl)) ?_; (first | exact ⟨_, rfl, .inl ⟨by rw [Q1P (by omega)]; omega, by rw [Q1P (by omega)]; rfl, hS.sp⟩⟩ | exact ⟨_, rfl, .inl ⟨by rw [Q2R (by omega) (by omega)]; decide, by rw [Q2R (by omega) (by omega)]; rfl, hS.sp⟩⟩ | (have hS := St.big_nil FrmV.res (St.nil (T := 108) (es := 4) (St.nil (T := 3) (es := 1) (St.nil (T := 2) (es := 1) hS))); exact ⟨_, rfl, .inr ⟨Q9O (by omega) (by omega), by omega, by omega, by omega, by omega, by omega, by omega, c2, _, _, _, _, _, rfl, hle1.trans hle2, hf1, hi2, hS.sp⟩⟩)))
  · skip
    all_goals (refine zC [(0, none), (2, none), (4, none), (6, none), (8, none), (11, none), (5, some (some [2])), (1, some (some [2])), (3, some (some [])), (7, some (some [])), (9, none), (10, some (some [])), (12, none), (13, some none)] ?_; have hS := hS.drew; refine s_cq ?_; refine zm ?_; refine zt ?_; refine s_cq ?_; refine zv hS ?_; refine zt ?_; refine s_cq ?_; refine zb0 [_, _, _, _, _] ?_; refine zt ?_; refine s_cq ?_; refine zm ?_; refine zt ?_; refine s_cq ?_; refine zm ?_; refine zt ?_; refine s_cq ?_; refine zb0 [_, _] ?_; refine zt ?_; refine Qi ?_; refine zB1 hS [_, _, _, _, _] ?_; intro b1 w1 hS; have hS := St.slOf (T := 70) (es := 5) (css := [[.int .i64 0, .int .i64 0, .int .i64 0, .slice none 0 0, .slice none 0 0]]) hS rfl (by simp) rfl; refine zt ?_; refine zy ?_; refine Qi ?_; refine zR1 (c := Qlr pages (by omega) hS) (h := ?_); rintro v1 w1 ⟨bh, rfl, hS⟩; refine zt ?_; refine zy ?_; refine Qi ?_; refine zR1 (c := Q9S hsh hx' hS) (h := ?_); rintro v1 w1 ⟨c1, ds, rfl, hle1, hx1, hS⟩; obtain ⟨vf1, rfl, hf1⟩ := Q2e hx1; have hi := Rep.SR.up hi hle1; obtain ⟨af, nf, rfl⟩ := Rep.SR.shape hf1; refine zt ?_; refine zy ?_; refine Qi ?_; refine zR1 (c := Q4t (by omega) hi hS) (h := ?_); rintro vi w1 ⟨c2, hle2, hi2, hS⟩; have hf1 := Rep.SR.up hf1 hle2; obtain ⟨ai, ni, rfl⟩ := Rep.SR.shape hi2; refine zt ?_; refine zy ?_; refine s_cq ?_; refine zb5 [_, _, _, _, _, _, _, _, _, _, _, _] ?_)
    all_goals (refine zt ?_; refine Qi ?_; refine zb hS ?_; intro p47 w1 hS; refine zt ?_; refine zy ?_; refine s_cq ?_; refine zm ?_; refine zt ?_; refine s_cf ?_; refine zsn hS ?_; intro w1 hS; have hS := hS.ns; refine zt ?_; refine zcn ?_; refine zr ?_; refine QaW vw vw (Qg (n := 2) (by kernel_rfl) (by kernel_rfl) (hS.blkAt fd) (by rfl) (by rfl)) ?_; (first | exact ⟨_, rfl, .inl ⟨by rw [Q1P (by omega)]; omega, by rw [Q1P (by omega)]; rfl, hS.sp⟩⟩ | exact ⟨_, rfl, .inl ⟨by rw [Q2R (by omega) (by omega)]; decide, by rw [Q2R (by omega) (by omega)]; rfl, hS.sp⟩⟩ | (have hS := St.big_nil FrmV.res (St.nil (T := 108) (es := 4) (St.nil (T := 3) (es := 1) (St.nil (T := 2) (es := 1) hS))); exact ⟨_, rfl, .inr ⟨Q9O (by omega) (by omega), by omega, by omega, by omega, by omega, by omega, by omega, c2, _, _, _, _, _, rfl, hle1.trans hle2, hf1, hi2, hS.sp⟩⟩)))
end Go.Proofs.Yteflkifmgnpbhaa
namespace Go.Lir
set_option linter.unusedVariables false
def hasB (l : List Bool) (r : Int) : Bool := decide (0 ≤ r) && decide (r < l.length) && l.getD r.toNat false

/-! ### What both answer is the same -/

end Go.Lir
namespace Go.Lir
set_option linter.unusedVariables false
/-- Which regions are held, which values there are. -/
structure JS where
  h : List Bool
  l : List Ty
deriving instance DecidableEq for JS
def jval (s : JS) (k : Int) : Except Int Ty := if k < 0 then .error 1 else match s.l[k.toNat]? with
  | none => .error 1
  | some t => .ok t
def ebind {α β : Type} (x : Except Int α) (f : α → Except Int β) : Except Int β := match x with
  | .error e => .error e
  | .ok a => f a
def jput (s : JS) (t : Ty) : Except Int JS := if s.l.length = 80 then .error 2 else .ok ⟨s.h, s.l ++ [t]⟩
def number : Ty := .mk 1 0 []
/-! ### What is true of it -/
theorem jval_ok {s : JS} {k : Int} {t : Ty} (h : jval s k = .ok t) : 0 ≤ k ∧ s.l[k.toNat]? = some t := by
  unfold jval at h
  split at h
  · cases h
  · rename_i h0
    split at h
    · cases h
    · rename_i u hu; cases h; exact ⟨by omega, hu⟩
theorem jput_ok {s s' : JS} {t : Ty} (h : jput s t = .ok s') : s.l.length ≠ 80 ∧ s'.h = s.h ∧ s'.l = s.l ++ [t] := by
  unfold jput at h
  split at h
  · cases h
  · rename_i hk; cases h; exact ⟨hk, rfl, rfl⟩
/-- How an instruction that is let by changes what is known. -/
structure JStep (x : Ins) (s s' : JS) : Prop where
  len : s.l.length ≤ 80 → s'.l.length ≤ 80
  pre : ∃ more, s'.l = s.l ++ more ∧ (x.op ≠ 14 → more.length ≤ 1) ∧ (x.op = 3 → more.length = 1) ∧ (x.op = 4 → more = [])
  new : x.op = 3 → s'.h = s.h ++ [true] ∧ s.h.length ≠ 16
  free : x.op = 4 → ∃ t, 0 ≤ x.a ∧ s.l[x.a.toNat]? = some t ∧ t.kind = 2 ∧ hasB s.h t.r = true ∧ s'.h = s.h.set t.r.toNat false
  else_ : x.op ≠ 3 → x.op ≠ 4 → s'.h = s.h
theorem QlS {n : Nat} {x : Ins} (h : Q1L n x = 0) : 1 ≤ x.op ∧ x.op ≤ 14 := by
  unfold Q1L at h
  split at h
  · cases h
  · omega
section
variable {s : JS} {regs l : List Int} {want : List Ty} {k : Nat} {x c : Int} {u u' t : Ty}
end
section
variable {m : Module} {f : Fun} {s : JS} {x : Ins}
end
section
variable {f : Fun} {s : JS} {t : To} {b : Block} {e : Tail}
theorem toForm_b {n : Nat} (h : Q1y n t true = 0) : 0 ≤ t.block ∧ t.block < n := by
  unfold Q1y at h
  simp at h; omega
theorem QgW {n : Nat} (h : Q2P n e = 0) : 1 ≤ e.op ∧ e.op ≤ 3 ∧ Q1y n e.yes (decide (e.op ≠ 3)) = 0 ∧ Q1y n e.no (decide (e.op = 2)) = 0 := by
  unfold Q2P at h
  split at h
  · cases h
  · split at h
    · cases h
    · split at h
      · cases h
      · unfold orC at h
        split at h
        · rename_i h1; exact absurd h h1
        · rename_i h1; exact ⟨by omega, by omega, Classical.not_not.1 h1, h⟩
end
/-! ### A code that is told is not 0 -/
def NZ {α : Type} (x : Except Int α) : Prop := ∀ c, x = .error c → c ≠ 0
theorem NZ.e {α : Type} {c : Int} (h : c ≠ 0) : NZ (.error c : Except Int α) := fun _ h' => by cases h'; exact h
theorem NZ.o {α : Type} (a : α) : NZ (.ok a : Except Int α) := fun _ h' => by cases h'
theorem NZ.bind {α β : Type} {x : Except Int α} {f : α → Except Int β} (h1 : NZ x) (h2 : ∀ a, x = .ok a → NZ (f a)) : NZ (ebind x f) := by
  cases x with
  | error e => exact fun c h => by cases h; exact h1 _ rfl
  | ok a => exact h2 a rfl
end Go.Lir
namespace Go.Lir
set_option linter.unusedVariables false
/-! ### A module of the right form -/
theorem Q94 {a b : Flt} (h : (orF a b).1 = 0) : a.1 = 0 ∧ b.1 = 0 := by
  unfold orF at h
  split at h
  · rename_i hc; exact absurd h hc.2
  · rename_i hc
    refine ⟨h, ?_⟩
    exact Classical.byContradiction fun hb => hc ⟨h, hb⟩
theorem QaH {n f b : Nat} : ∀ {l : List Ins} {i : Nat}, (Q32 n f b i l).1 = 0 → ∀ x ∈ l, Q1L n x = 0
  | [], _, _, x, hx => by cases hx
  | y :: l, i, h, x, hx => by
    rw [Q32] at h
    obtain ⟨h1, h2⟩ := Q94 h
    rw [QeC] at h1
    rcases List.mem_cons.1 hx with rfl | hx
    · exact h1
    · exact QaH h2 x hx
theorem Q7H {n f : Nat} {x : Fun} : ∀ {l : List Block} {b0 : Nat}, (Q1M n f x b0 l).1 = 0 → ∀ (b : Nat) (y : Block), l[b]? = some y → (Q4u n f x (b0 + b) y).1 = 0
  | [], _, _, b, y, hy => by cases hy
  | z :: l, b0, h, b, y, hy => by
    rw [Q1M] at h
    obtain ⟨h1, h2⟩ := Q94 h
    cases b with
    | zero => rw [List.getElem?_cons_zero] at hy; cases hy; exact h1
    | succ b => rw [List.getElem?_cons_succ] at hy; rw [show b0 + (b + 1) = b0 + 1 + b by omega]; exact Q7H h2 b y hy
theorem Q4V {n : Nat} : ∀ {l : List Fun} {f0 : Nat}, (Q3C n f0 l).1 = 0 → ∀ (f : Nat) (x : Fun), l[f]? = some x → (Qe4 n (f0 + f) x).1 = 0
  | [], _, _, b, y, hy => by cases hy
  | z :: l, b0, h, b, y, hy => by
    rw [Q3C] at h
    obtain ⟨h1, h2⟩ := Q94 h
    cases b with
    | zero => rw [List.getElem?_cons_zero] at hy; cases hy; exact h1
    | succ b => rw [List.getElem?_cons_succ] at hy; rw [show b0 + (b + 1) = b0 + 1 + b by omega]; exact Q4V h2 b y hy
theorem Qjd {m : Module} (h : m.fault.1 = 0) : 1 ≤ m.funcs.length ∧ m.funcs.length ≤ 8 := by
  have h1 := (Q94 h).1
  rw [QeC] at h1
  split at h1
  · cases h1
  · omega
theorem QeY {m : Module} (h : m.fault.1 = 0) {f : Nat} {x : Fun} (hx : m.funcs[f]? = some x) : Q4W f x = 0 := by
  have h1 := Q4V (Q94 h).2 f x hx
  rw [Nat.zero_add] at h1
  have h2 := (Q94 h1).1
  rwa [QeC] at h2
theorem QeZ {m : Module} (h : m.fault.1 = 0) {f b : Nat} {x : Fun} {y : Block} (hx : m.funcs[f]? = some x) (hy : x.blocks[b]? = some y) : Q2J x b y = 0 ∧ (∀ i ∈ y.code, Q1L m.funcs.length i = 0) ∧ Q2P x.blocks.length y.fin = 0 := by
  have h1 := Q4V (Q94 h).2 f x hx
  have h2 := Q7H (Q94 h1).2 b y hy
  obtain ⟨h3, h4⟩ := Q94 h2
  obtain ⟨h5, h6⟩ := Q94 h4
  rw [QeC] at h3 h6
  rw [Nat.zero_add] at h3
  exact ⟨h3, QaH h5, h6⟩
theorem QkL {x : Fun} {b : Nat} {y : Block} (h : Q2J x b y = 0) : x.regs ≤ y.regs ∧ y.regs ≤ 16 ∧ QU y.params y.regs = 0 ∧ (b = 0 → y.regs = x.regs ∧ y.params = x.params) ∧ y.code.length ≤ 40 := by
  unfold Q2J at h
  split at h
  · cases h
  · rename_i h1
    split at h
    · rename_i h2; exact absurd h h2
    · rename_i h2
      split at h
      · cases h
      · rename_i h3
        split at h
        · cases h
        · refine ⟨by omega, by omega, Classical.not_not.1 h2, fun hb => ?_, by omega⟩
          refine ⟨Classical.byContradiction fun hr => h3 ⟨hb, .inl hr⟩, Classical.byContradiction fun hr => h3 ⟨hb, .inr hr⟩⟩
theorem Q9w {f : Nat} {x : Fun} (h : Q4W f x = 0) : 0 ≤ x.regs ∧ x.regs ≤ 6 ∧ QU x.params x.regs = 0 ∧ QU x.results x.regs = 0 ∧ 1 ≤ x.blocks.length ∧ x.blocks.length ≤ 12 := by
  unfold Q4W at h
  split at h
  · cases h
  · rename_i h1
    split at h
    · rename_i h2; exact absurd h h2
    · rename_i h2
      split at h
      · rename_i h3; exact absurd h h3
      · rename_i h3
        split at h
        · cases h
        · exact ⟨by omega, by omega, Classical.not_not.1 h2, Classical.not_not.1 h3, by omega, by omega⟩
/-! ### What is renamed is short -/
theorem Ty.Short.part {t : Ty} (h : t.Short) : ∀ u ∈ t.l, u.Short := by
  obtain ⟨k, r, l⟩ := t
  exact h.parts.2
/-! ### What stays so -/
structure JGood (s : JS) : Prop where
  n : s.l.length ≤ 80
  h : s.h.length ≤ 16
  s : ∀ t ∈ s.l, t.Short
theorem JGood.get {s : JS} (hg : JGood s) {k : Int} {t : Ty} (h : jval s k = .ok t) : t.Short := hg.s t (List.mem_of_getElem? (jval_ok h).2)
theorem JGood.put {s s' : JS} {t : Ty} (hg : JGood s) (ht : t.Short) (h : jput s t = .ok s') : JGood s' := by
  obtain ⟨h1, h2, h3⟩ := jput_ok h
  refine ⟨by rw [h3, List.length_append]; have := hg.n; simp only [List.length_cons, List.length_nil]; omega, by rw [h2]; exact hg.h, fun u hu => ?_⟩
  rw [h3] at hu
  rcases List.mem_append.1 hu with hu | hu
  · exact hg.s u hu
  · simp at hu; subst hu; exact ht
/-! ### What was freed -/
/-! ### What is held, as a list -/
end Go.Lir
namespace Go.Lir
set_option linter.unusedVariables false
theorem QeF {n : Nat} {x : Ins} (h : Q1L n x = 0) : Q2i n x = 0 := by
  unfold Q1L at h
  split at h
  · cases h
  · split at h
    · cases h
    · exact h
theorem insF_k {n : Nat} {x : Ins} (h : Q1L n x = 0) (ho : x.op = 14) : 0 ≤ x.k ∧ x.k < n := by
  have hk := QeF h
  unfold Q2i at hk
  rw [if_neg (by omega), if_neg (by omega), if_neg (by omega), if_pos ho] at hk
  split at hk
  · cases hk
  · omega
theorem insF_t {n : Nat} {x : Ins} (h : Q1L n x = 0) (ho : x.op = 5) : x.args.length ≤ 8 := by
  have hk := QeF h
  unfold Q2i at hk
  rw [if_neg (by omega), if_pos ho] at hk
  split at hk
  · cases hk
  · omega
theorem Qkm {n : Nat} {x : Ins} (h : Q1L n x = 0) : x.regs.length ≤ 16 ∧ x.args.length ≤ 8 := by
  have hk := QeF h
  have ho : ¬ x.odd := by
    unfold Q1L at h
    split at h
    · cases h
    · split at h
      · cases h
      · assumption
  unfold Ins.odd at ho
  by_cases h14 : x.op = 14
  · unfold Q2i at hk
    rw [if_neg (by omega), if_neg (by omega), if_neg (by omega), if_pos h14] at hk
    split at hk
    · cases hk
    · split at hk
      · cases hk
      · omega
  · have g1 : fG x.op = false := by unfold fG; exact decide_eq_false h14
    have r0 : ¬ 0 < x.regs.length := fun hh => ho (.inr (.inr (.inr (.inr (.inr (.inl ⟨g1, hh⟩))))))
    by_cases h5 : x.op = 5
    · exact ⟨by omega, insF_t h h5⟩
    · have g2 : fR x.op = false := by unfold fR; exact decide_eq_false (by omega)
      have a0 : ¬ 0 < x.args.length := fun hh => ho (.inr (.inr (.inr (.inr (.inr (.inr ⟨g2, hh⟩))))))
      exact ⟨by omega, by omega⟩
theorem Qmd {n : Nat} {t : To} (h : Q1y n t true = 0) : t.regs.length ≤ 16 ∧ t.args.length ≤ 8 := by
  unfold Q1y at h
  rw [if_neg (by decide)] at h
  split at h
  · cases h
  · split at h
    · cases h
    · omega
theorem Qn3 {n : Nat} {e : Tail} (h : Q2P n e = 0) : e.args.length ≤ 8 := by
  unfold Q2P at h
  split at h
  · cases h
  · split at h
    · cases h
    · split at h
      · cases h
      · omega
theorem QaJ {g : Frm} : ∀ {l : List Int} {vs : List Val}, g.args l = some vs → vs.length = l.length
  | [], _, h => by cases h; rfl
  | k :: l, vs, h => by
    rw [Frm.args] at h
    split at h
    · rename_i v vs' h1 h2
      cases h
      rw [List.length_cons, List.length_cons, QaJ h2]
    · cases h
theorem Qk9 {g : Frm} : ∀ {l : List Int} {vs : List Int}, g.rgs l = some vs → vs.length = l.length
  | [], _, h => by cases h; rfl
  | k :: l, vs, h => by
    rw [Frm.rgs] at h
    split at h
    · rename_i v vs' h1 h2
      cases h
      rw [List.length_cons, List.length_cons, Qk9 h2]
    · cases h
theorem QiL : ∀ {l : List Val} {ns : List Int}, intsV l = some ns → ns.length = l.length
  | [], _, h => by cases h; rfl
  | v :: l, ns, h => by
    rw [intsV] at h
    split at h
    · cases h
    · rename_i ns' h1
      split at h
      · cases h
        rw [List.length_cons, List.length_cons, QiL h1]
      · cases h
/-- What is true of what goes on. -/
def Stp.All (P : MS → Prop) : Stp → Prop
  | .go s => P s
  | .done l => l.length ≤ 8
  | _ => True
theorem Stp.all_bind {α : Type} {P : MS → Prop} {x : Option α} {f : α → Stp} (h : ∀ a, x = some a → (f a).All P) : (QZ x f).All P := by
  cases x with
  | none => exact trivial
  | some a => exact h a rfl
theorem Stp.all_if {P : MS → Prop} {c : Prop} [Decidable c] {a b : Stp} (h1 : c → a.All P) (h2 : ¬ c → b.All P) : (if c then a else b).All P := by
  by_cases hc : c
  · rw [if_pos hc]; exact h1 hc
  · rw [if_neg hc]; exact h2 hc
def FrB (m : Module) (k : Nat) (g : Frm) : Prop := ∃ f b, m.funcs[g.f]? = some f ∧ f.blocks[g.b]? = some b ∧ g.i ≤ b.code.length ∧ g.vals.length ≤ 8 + 8 * k ∧ g.regs.length ≤ 16 + k
structure Bnd (m : Module) (k : Nat) (s : MS) : Prop where
  cur : FrB m k s.g
  st : ∀ x ∈ s.st, FrB m k x
  sl : s.st.length ≤ 39
  out : s.out.length ≤ 2000
section
variable {m : Module} {k : Nat} {s : MS}
theorem FrB.up {g : Frm} (h : FrB m k g) : FrB m (k + 1) g := by
  obtain ⟨f, b, h1, h2, h3, h4, h5⟩ := h
  exact ⟨f, b, h1, h2, h3, by omega, by omega⟩
theorem FrB.more {g : Frm} (h : FrB m k g) {vs : List Val} {rs : List Int} (hv : vs.length ≤ 8) (hr : rs.length ≤ 1) : FrB m (k + 1) ⟨g.f, g.b, g.i, g.vals ++ vs, g.regs ++ rs⟩ := by
  obtain ⟨f, b, h1, h2, h3, h4, h5⟩ := h
  refine ⟨f, b, h1, h2, h3, ?_, ?_⟩
  · show (g.vals ++ vs).length ≤ _; rw [List.length_append]; omega
  · show (g.regs ++ rs).length ≤ _; rw [List.length_append]; omega
theorem Bnd.up (h : Bnd m k s) : Bnd m (k + 1) s := ⟨h.cur.up, fun x hx => (h.st x hx).up, h.sl, h.out⟩
theorem Bnd.put (h : Bnd m k s) {vs : List Val} (hv : vs.length ≤ 8) : Bnd m (k + 1) (s.put vs) := by
  refine ⟨?_, fun x hx => (h.st x hx).up, h.sl, h.out⟩
  have := h.cur.more (rs := []) hv (by simp)
  rw [List.append_nil] at this
  exact this
theorem Bnd.hp (h : Bnd m k s) (q : HpS) : Bnd m k (s.hp q) := ⟨h.cur, h.st, h.sl, h.out⟩
theorem Bnd.made (h : Bnd m k s) {e : Int} {q : HpS} {v : Val} : (s.made e q v).All (Bnd m (k + 1)) := by
  unfold MS.made
  exact Stp.all_if (fun _ => trivial) fun _ => Stp.all_if (fun _ => trivial) fun _ => (h.hp q).put (by simp)
theorem Qif {P : MS → Prop} {v : Val} {e : Int} {r : Stp} (h : r.All P) : (Q55 v e r).All P := by
  unfold Q55
  exact Stp.all_if (fun _ => trivial) fun _ => Stp.all_if (fun _ => trivial) fun _ => Stp.all_if (fun _ => trivial) fun _ => h
theorem Bnd.ins (h : Bnd m k s) (hM : m.fault.1 = 0) {x : Ins} (hx : Q1L m.funcs.length x = 0) : (s.ins m x).All (Bnd m (k + 1)) := by
  obtain ⟨q1, q2⟩ := Qkm hx
  have h1 : ∀ (v : Val) (t : MS), Bnd m k t → (Stp.go (t.put [v])).All (Bnd m (k + 1)) := fun v t ht => ht.put (by simp)
  have h2 : ∀ (q : HpS), (Stp.go (s.hp q)).All (Bnd m (k + 1)) := fun q => (h.hp q).up
  unfold MS.ins
  refine Stp.all_if (fun _ => h1 _ _ h) fun _ => Stp.all_if (fun _ => Stp.all_bind fun a _ => Stp.all_bind fun b _ => Stp.all_if (fun _ => trivial) fun _ => h1 _ _ h) fun _ => Stp.all_if (fun _ => ?_) fun _ =>
    Stp.all_if (fun _ => Stp.all_bind fun v _ => Stp.all_if (fun _ => trivial) fun _ => h2 _) fun _ => Stp.all_if (fun _ => Stp.all_bind fun v _ => Stp.all_bind fun l _ => h.made) fun _ =>
    Stp.all_if (fun _ => Stp.all_bind fun v _ => Stp.all_if (fun _ => trivial) fun _ => Stp.all_if (fun _ => trivial) fun _ => h1 _ _ h) fun _ =>
    Stp.all_if (fun _ => Stp.all_bind fun v _ => Stp.all_if (fun _ => trivial) fun _ => Stp.all_bind fun y _ => Stp.all_if (fun _ => trivial) fun _ => h2 _) fun _ =>
    Stp.all_if (fun _ => Stp.all_bind fun v _ => Stp.all_bind fun n _ => Stp.all_if (fun _ => trivial) fun _ => h.made) fun _ =>
    Stp.all_if (fun _ => Stp.all_bind fun v _ => Stp.all_bind fun n _ => Qif (h1 _ _ h)) fun _ =>
    Stp.all_if (fun _ => Stp.all_bind fun v _ => Stp.all_bind fun n _ => Stp.all_bind fun c _ => Qif (h2 _)) fun _ =>
    Stp.all_if (fun _ => Stp.all_bind fun v _ => Qif (h1 _ _ h)) fun _ => Stp.all_if (fun _ => ?_) fun _ => Stp.all_if (fun _ => Stp.all_bind fun n _ => ?_) fun _ => ?_
  · unfold MS.newR
    refine Stp.all_if (fun _ => trivial) fun _ => ?_
    refine ⟨?_, fun x hx => (h.st x hx).up, h.sl, h.out⟩
    exact h.cur.more (vs := [_]) (rs := [_]) (by simp) (by simp)
  · unfold MS.inS
    split
    · exact trivial
    · exact h1 _ _ ⟨h.cur, h.st, h.sl, h.out⟩
  · unfold MS.outS
    refine Stp.all_if (fun _ => trivial) fun hn => ?_
    refine ⟨h.cur.up, fun x hx => (h.st x hx).up, h.sl, ?_⟩
    have := h.out
    show (s.out ++ [n]).length ≤ 2000
    rw [List.length_append]
    simp only [List.length_cons, List.length_nil]
    omega
  · unfold MS.call
    split
    · exact trivial
    · rename_i g hg
      refine Stp.all_bind fun rs hr => Stp.all_bind fun vs hv => Stp.all_if (fun _ => trivial) fun _ => Stp.all_if (fun _ => trivial) fun hl => ?_
      have hb := (Q9w (QeY hM hg)).2.2.2.2.1
      obtain ⟨b, hb⟩ : ∃ b, g.blocks[0]? = some b := ⟨_, List.getElem?_eq_getElem (by omega)⟩
      refine ⟨⟨g, b, hg, hb, Nat.zero_le _, ?_, ?_⟩, ?_, ?_, h.out⟩
      · show vs.length ≤ _; rw [QaJ hv]; omega
      · show rs.length ≤ _; rw [Qk9 hr]; omega
      · intro y hy
        rcases List.mem_cons.1 hy with rfl | hy
        · exact h.cur.up
        · exact (h.st y hy).up
      · have := h.sl
        show (s.g :: s.st).length ≤ 39
        rw [List.length_cons]; omega
theorem Bnd.to (h : Bnd m k s) {f : Fun} (hf : m.funcs[s.g.f]? = some f) {t : To} (ht : Q1y f.blocks.length t true = 0) : (s.to f t).All (Bnd m (k + 1)) := by
  obtain ⟨q1, q2⟩ := Qmd ht
  unfold MS.to
  split
  · exact trivial
  · rename_i b hb
    refine Stp.all_bind fun rs hr => Stp.all_bind fun vs hv => Stp.all_if (fun _ => trivial) fun _ => ?_
    refine ⟨⟨f, b, hf, hb, Nat.zero_le _, ?_, ?_⟩, fun x hx => (h.st x hx).up, h.sl, h.out⟩
    · show vs.length ≤ _; rw [QaJ hv]; omega
    · show rs.length ≤ _; rw [Qk9 hr]; omega
theorem Bnd.fin (h : Bnd m k s) {f : Fun} (hf : m.funcs[s.g.f]? = some f) {e : Tail} (he : Q2P f.blocks.length e = 0) : (s.fin f e).All (Bnd m (k + 1)) := by
  obtain ⟨q1, q2, q3, q4⟩ := QgW he
  have q5 := Qn3 he
  unfold MS.fin
  refine Stp.all_if (fun e1 => ?_) fun n1 => Stp.all_if (fun e2 => Stp.all_bind fun n _ => Stp.all_if (fun _ => ?_) fun _ => ?_) fun n2 => ?_
  · rw [decide_eq_true (by omega)] at q3; exact h.to hf q3
  · rw [decide_eq_true (by omega)] at q3; exact h.to hf q3
  · rw [decide_eq_true (by omega)] at q4; exact h.to hf q4
  · unfold MS.ret
    refine Stp.all_bind fun vs hv => Stp.all_if (fun _ => trivial) fun _ => ?_
    split
    · rename_i c st hst
      have hc := h.st c (by rw [hst]; exact List.mem_cons_self)
      have h8 : vs.length ≤ 8 := by rw [QaJ hv]; omega
      refine Bnd.put (s := ⟨s.h, c, st, s.inp, s.out, s.fuel⟩) ⟨hc, fun x hx => h.st x (by rw [hst]; exact List.mem_cons_of_mem _ hx), ?_, h.out⟩ h8
      have := h.sl
      rw [hst, List.length_cons] at this
      show st.length ≤ 39
      omega
    · split
      · exact trivial
      · rename_i ns hns
        show ns.length ≤ 8
        rw [QiL hns, QaJ hv]; omega
theorem Bnd.one (h : Bnd m k s) (hM : m.fault.1 = 0) : (s.one m).All (Bnd m (k + 1)) := by
  obtain ⟨f, b, hf, hb, hi, hv, hr⟩ := h.cur
  obtain ⟨-, q1, q2⟩ := QeZ hM hf hb
  unfold MS.one
  rw [hf]; dsimp only; rw [hb]; dsimp only
  cases hx : b.code[s.g.i]? with
  | none => exact h.fin hf q2
  | some x =>
    have hlt := (List.getElem?_eq_some_iff.1 hx).1
    refine Bnd.ins (s := s.next) ⟨⟨f, b, hf, hb, ?_, hv, hr⟩, h.st, h.sl, h.out⟩ hM (q1 x (List.mem_of_getElem? hx))
    show s.g.i + 1 ≤ _
    omega
theorem Bnd.start (hM : m.fault.1 = 0) (inp : List Int) (pages : Int) : Bnd m 0 (MS.start inp pages) := by
  have hl := Qjd hM
  obtain ⟨f, hf⟩ : ∃ f, m.funcs[0]? = some f := ⟨_, List.getElem?_eq_getElem (by omega)⟩
  have hb := (Q9w (QeY hM hf)).2.2.2.2.1
  obtain ⟨b, hb⟩ : ∃ b, f.blocks[0]? = some b := ⟨_, List.getElem?_eq_getElem (by omega)⟩
  exact ⟨⟨f, b, hf, hb, Nat.zero_le _, Nat.zero_le _, Nat.zero_le _⟩, fun x hx => (by cases hx), Nat.zero_le _, Nat.zero_le _⟩
end
end Go.Lir
namespace Go.Lir
set_option linter.unusedVariables false
/-- What the program makes of a number ahead of writing it. -/
def zigI (n : Int) : Int := bitI .xor .u64 (IntKind.u64.wrap (IntKind.u64.wrap n * 2 ^ (min (1 : Int).toNat IntKind.u64.bits))) (IntKind.u64.wrap (n.fdiv (2 ^ (min (63 : Int).toNat IntKind.i64.bits))))
def zig (n : Int) : Nat := (zigI n).toNat
/-- The low bits first, seven at a time. -/
def leb : Nat → Nat → List UInt8
  | 0, _ => []
  | k + 1, u => if u < 128 then [UInt8.ofNat u] else UInt8.ofNat (u % 128 + 128) :: leb k (u / 128)
theorem QmW : ∀ (k u : Nat), (leb k u).length ≤ k
  | 0, _ => by simp [leb]
  | k + 1, u => by
    rw [leb]
    split
    · simp
    · have := QmW k (u / 128)
      simp only [List.length_cons]; omega
def Q56 (n : Int) : List UInt8 := leb 10 (zig n)
def Qlp (l : List Int) : List UInt8 := l.flatMap Q56
theorem QL (n : Int) : (Q56 n).length ≤ 10 := QmW 10 _
theorem QgU : ∀ (l : List Int), (Qlp l).length ≤ 10 * l.length
  | [] => by simp [Qlp]
  | n :: l => by
    have h1 := QL n
    have h2 := QgU l
    simp only [Qlp, List.flatMap_cons, List.length_append, List.length_cons] at h2 ⊢
    omega
/-- A list of numbers, its length ahead of it. -/
def Qkl (l : List Int) : List UInt8 := Q56 l.length ++ Qlp l
mutual
def Ty.bts : Ty → List UInt8
  | .mk k r l => Q56 k ++ (if k ≠ 1 then Q56 r else []) ++ (if k = 3 then Q56 l.length ++ Tys.bts l else [])
def Tys.bts : List Ty → List UInt8
  | [] => []
  | x :: l => x.bts ++ Tys.bts l
end
/-- A list of types, its length ahead of it. -/
def tysB (l : List Ty) : List UInt8 := Q56 l.length ++ Tys.bts l
def To.bts (t : To) : List UInt8 := Q56 t.block ++ Qkl t.regs ++ Qkl t.args
def Tail.bts (e : Tail) : List UInt8 := Q56 e.op ++ (if e.op = 1 then e.yes.bts else if e.op = 2 then Q56 e.a ++ e.yes.bts ++ e.no.bts else if e.op = 3 then Qkl e.args else [])
/-- Which parts an instruction has. -/
def Q38 (op : Int) : Nat := if op < 0 ∨ 14 < op then 0 else [0, 64, 11, 0, 1, 33, 9, 11, 3, 3, 7, 1, 0, 1, 56].getD op.toNat 0
def regsB (h : Nat) : Nat → List Int → List UInt8
  | _, [] => []
  | k, n :: l => (if h / 2 ^ k % 2 = 1 then Q56 n else []) ++ regsB h (k + 1) l
def Ins.bts (x : Ins) : List UInt8 := Q56 x.op ++ regsB (Q38 x.op) 0 [x.a, x.b, x.c, x.k] ++ (if Q38 x.op / 64 % 2 = 1 then Q56 x.n else []) ++ (if Q38 x.op / 16 % 2 = 1 then Qkl x.regs else []) ++ (if Q38 x.op / 32 % 2 = 1 then Qkl x.args else [])
end Go.Lir
namespace Go.Lir
set_option linter.unusedVariables false
mutual
def Ty.nodes : Ty → Nat
  | .mk _ _ l => 1 + Tys.nodes l
def Tys.nodes : List Ty → Nat
  | [] => 0
  | x :: l => x.nodes + Tys.nodes l
end
mutual
theorem Ty.size_nodes : ∀ (t : Ty) {n : Int}, 0 ≤ t.size n → t.size n = n - t.nodes
  | .mk k r l, n, h => by
    rw [Ty.size] at h ⊢
    rw [Tys.size_nodes l h, Ty.nodes]
    omega
theorem Tys.size_nodes : ∀ (l : List Ty) {n : Int}, 0 ≤ Tys.size l n → Tys.size l n = n - Tys.nodes l
  | [], n, h => by rw [Tys.size, Tys.nodes]; omega
  | x :: l, n, h => by
    rw [Tys.size] at h ⊢
    by_cases hn : 0 ≤ n
    · rw [if_pos hn] at h ⊢
      have hx : 0 ≤ x.size n := by
        rcases Int.lt_or_le (x.size n) 0 with h1 | h1
        · rw [Tys.size_neg l h1] at h; omega
        · exact h1
      rw [Tys.size_nodes l h, Ty.size_nodes x hx, Tys.nodes]
      omega
    · rw [if_neg hn] at h; omega
end
theorem Ty.nodes_of_great {t : Ty} (h : t.great = false) : t.nodes ≤ 2000 := by
  unfold Ty.great at h
  simp at h
  have := Ty.size_nodes t h
  omega
end Go.Lir
namespace Go.Lir
set_option linter.unusedVariables false
/-- One bit. -/
def crcStep (c : BitVec 32) : BitVec 32 := (c >>> 1) ^^^ (3988292384#32 &&& -(c &&& 1#32))
def crcN : Nat → BitVec 32 → BitVec 32
  | 0, c => c
  | k + 1, c => crcN k (crcStep c)
/-- One byte. -/
def crcByte (c : BitVec 32) (x : UInt8) : BitVec 32 := crcN 8 (c ^^^ BitVec.ofNat 32 x.toNat)
def crcOf (bs : List UInt8) : BitVec 32 := 4294967295#32 ^^^ bs.foldl crcByte 4294967295#32
section
variable {P : Program} {l : List GO} {Q : QT} {ρ : Env} {w : World}
end
end Go.Lir
namespace Go.Lir
set_option linter.unusedVariables false
def Block.bts (b : Block) : List UInt8 := Q56 b.regs ++ tysB b.params ++ Q56 b.code.length ++ b.code.flatMap Ins.bts ++ b.fin.bts
def Fun.bts (f : Fun) : List UInt8 := Q56 f.regs ++ tysB f.params ++ tysB f.results ++ Q56 f.blocks.length ++ f.blocks.flatMap Block.bts
def Module.body (m : Module) : List UInt8 := [67, 72, 1] ++ Q56 m.funcs.length ++ m.funcs.flatMap Fun.bts
def Ins.Few (x : Ins) : Prop := x.regs.length ≤ 300 ∧ x.args.length ≤ 300
def To.Few (x : To) : Prop := x.regs.length ≤ 300 ∧ x.args.length ≤ 300
def Tail.Few (x : Tail) : Prop := x.yes.Few ∧ x.no.Few ∧ x.args.length ≤ 300
def Block.Few (b : Block) : Prop := Tys.great b.params = false ∧ b.code.length ≤ 200 ∧ (∀ i ∈ b.code, i.Few) ∧ b.fin.Few
def Fun.Few (f : Fun) : Prop := Tys.great f.params = false ∧ Tys.great f.results = false ∧ f.blocks.length ≤ 30 ∧ ∀ b ∈ f.blocks, b.Few
def Module.Few (m : Module) : Prop := m.funcs.length ≤ 20 ∧ ∀ f ∈ m.funcs, f.Few
theorem Qlu {α : Type} {f : α → List UInt8} {c : Nat} : ∀ {l : List α}, (∀ x ∈ l, (f x).length ≤ c) → (l.flatMap f).length ≤ l.length * c
  | [], _ => by simp
  | x :: l, h => by
    have h1 := h x (List.mem_cons_self ..)
    have h2 := Qlu (l := l) fun y hy => h y (List.mem_cons_of_mem _ hy)
    rw [List.flatMap_cons, List.length_append, List.length_cons, Nat.succ_mul]
    omega
theorem Qjc {α : Type} {f : α → List UInt8} {c n : Nat} {l : List α} (h : ∀ x ∈ l, (f x).length ≤ c) (hn : l.length ≤ n) : (l.flatMap f).length ≤ n * c :=
  Nat.le_trans (Qlu h) (Nat.mul_le_mul_right c hn)
mutual
theorem Ty.bts_len : ∀ (t : Ty), t.bts.length ≤ 30 * t.nodes
  | .mk k r l => by
    have h1 := Tys.bts_len l
    have h2 := QL k
    have h3 := QL r
    have h4 := QL l.length
    rw [Ty.bts, Ty.nodes]
    simp only [List.length_append]
    split <;> split <;> simp only [List.length_append, List.length_nil] <;> omega
theorem Tys.bts_len : ∀ (l : List Ty), (Tys.bts l).length ≤ 30 * Tys.nodes l
  | [] => by simp [Tys.bts]
  | x :: l => by
    have h1 := Ty.bts_len x
    have h2 := Tys.bts_len l
    rw [Tys.bts, Tys.nodes, List.length_append]
    omega
end
theorem Tys.nodes_few : ∀ {l : List Ty}, (∀ x ∈ l, x.nodes ≤ 2000) → Tys.nodes l ≤ 2000 * l.length
  | [], _ => by simp [Tys.nodes]
  | x :: l, h => by
    have h1 := h x (List.mem_cons_self ..)
    have h2 := Tys.nodes_few (l := l) fun y hy => h y (List.mem_cons_of_mem _ hy)
    rw [Tys.nodes, List.length_cons]
    omega
theorem Qh6 {l : List Ty} (h : Tys.great l = false) : (tysB l).length ≤ 12000010 := by
  unfold Tys.great at h
  rw [Bool.or_eq_false_iff] at h
  have hl : l.length ≤ 200 := by have := of_decide_eq_false h.1; omega
  have h1 := Tys.bts_len l
  have h2 := Tys.nodes_few (l := l) fun x hx => Ty.nodes_of_great (by have := List.any_eq_false.1 h.2 x hx; simpa using this)
  have h3 := QL l.length
  unfold tysB
  rw [List.length_append]
  omega
theorem Q5J {l : List Int} (h : l.length ≤ 300) : (Qkl l).length ≤ 3010 := by
  have h1 := QgU l
  have h2 := QL l.length
  unfold Qkl
  rw [List.length_append]
  omega
theorem To.bts_few {x : To} (h : x.Few) : x.bts.length ≤ 6030 := by
  have h1 := Q5J h.1
  have h2 := Q5J h.2
  have h3 := QL x.block
  unfold To.bts
  simp only [List.length_append]
  omega
theorem Tail.bts_few {x : Tail} (h : x.Few) : x.bts.length ≤ 13000 := by
  have h1 := To.bts_few h.1
  have h2 := To.bts_few h.2.1
  have h3 := Q5J h.2.2
  have h4 := QL x.op
  have h5 := QL x.a
  unfold Tail.bts
  rw [List.length_append]
  split
  · omega
  · split
    · simp only [List.length_append]; omega
    · split
      · omega
      · simp only [List.length_nil]; omega
theorem Ins.bts_few {x : Ins} (h : x.Few) : x.bts.length ≤ 6110 := by
  have h1 := Q5J h.1
  have h2 := Q5J h.2
  have h3 := QL x.op
  have h4 := QL x.n
  have ha := QL x.a
  have hb := QL x.b
  have hc := QL x.c
  have hk := QL x.k
  have h5 : (regsB (Q38 x.op) 0 [x.a, x.b, x.c, x.k]).length ≤ 40 := by
    simp only [regsB, List.length_append, List.length_nil]
    split <;> split <;> split <;> split <;> (try simp only [List.length_nil]) <;> omega
  unfold Ins.bts
  simp only [List.length_append]
  split <;> split <;> split <;> (try simp only [List.length_nil]) <;> omega
theorem Block.bts_few {b : Block} (h : b.Few) : b.bts.length ≤ 14000000 := by
  have h1 := Qh6 h.1
  have h2 := Qjc (f := Ins.bts) (c := 6110) (fun x hx => Ins.bts_few (h.2.2.1 x hx)) h.2.1
  have h3 := Tail.bts_few h.2.2.2
  have h4 := QL b.regs
  have h5 := QL b.code.length
  unfold Block.bts
  simp only [List.length_append]
  omega
theorem Fun.bts_few {f : Fun} (h : f.Few) : f.bts.length ≤ 450000000 := by
  have h1 := Qh6 h.1
  have h2 := Qh6 h.2.1
  have h3 := Qjc (f := Block.bts) (c := 14000000) (fun x hx => Block.bts_few (h.2.2.2 x hx)) h.2.2.1
  have h4 := QL f.regs
  have h5 := QL f.blocks.length
  unfold Fun.bts
  simp only [List.length_append]
  omega
end Go.Lir
namespace Go.Lir
set_option linter.unusedVariables false
abbrev Got (α : Type) := Except Flt (α × List UInt8)
/-! ### What is read was written so -/
end Go.Lir
namespace Go.Lir
section
variable {P : Program} {l : List GO} {Q : QT} {ρ : Env} {w : World}
theorem Qkb {a b T T' : Nat} {R : Ending → World → Prop} {p o p' o' : Nat} {v v' : Value} (ha : ρ a = .pointer (some ⟨p, o, none⟩)) (hv : QjW P w ⟨p, o, none⟩ T v) (ha' : ρ b = .pointer (some ⟨p', o', none⟩)) (hv' : QjW P w ⟨p', o', none⟩ T' v') (h : R (.returned (.tuple #[v, v'])) w) : retQ P [.cell a T, .cell b T'] R .ret ρ w :=
  ⟨_, v, ha, hv, _, v', ha', hv', h⟩
end
end Go.Lir
namespace Go.Lir
def Qna (w : World) (b j : Nat) : Value := (w.cell? ⟨b, j, none⟩).getD undef
theorem Qid {w : World} {c : Cx} {L : List Res} {T b j i : Nat} {cs : List Value} {u : Value} (hS : St c w L) (hi : nth L i = some (blk b T cs)) (hj : cs[j]? = some u) : Qna w b j = u := by
  unfold Qna; rw [(hS.blkAt hi).cell hj]; rfl
def downV : Value → Nat
  | .bool true => 0
  | _ => 1
def msrW (w : World) (p : Nat) : Nat := 2 * (iv (Qna w p 8) - iv (Qna w p 7)).toNat + downV (Qna w p 9)
end Go.Lir
namespace Go.Proofs.Yteflkifmgnpbhaa
open Go.Lir
set_option maxHeartbeats 1000000
attribute [local irreducible] LC.wp Q2 Qy QD retQ Q1n LO.wp Ql Calls
set_option linter.unusedSimpArgs false
set_option linter.unusedVariables false
variable {cx : Cx} {w : World} {L : List Res} {p N : Nat} {c : MC} {fr : List FrmV} {g : FrmV} {h : HpS} {out inp : List Int} {m : Module}
def msr (c : MC) : Nat := 2 * (c.mo - c.fu).toNat + downV (.bool c.dn)
theorem msr_of (hS : St cx w (blk p 74 c.cells :: L)) : msrW w p = msr c := by
  unfold msrW msr
  rw [Qid (j := 8) hS (i := 0) rfl rfl, Qid (j := 7) hS (i := 0) rfl rfl, Qid (j := 9) hS (i := 0) rfl rfl]
  rfl
/-- A run that has begun: it goes on, or it has ended. -/
def RunL (m : Module) (r : Run) (most k : Nat) (c : MC) (fr : List FrmV) (g : FrmV) (N : Nat) (h : HpS) (inp out : List Int) : Prop :=
  c.dn = false ∧ c.c = 0 ∧ c.e = 0 ∧ c.fu = k ∧ k ≤ most ∧ c.mo = most ∧ N ≤ k ∧ Bnd m k (msOf h g fr inp out k) ∧ r = Run.steps m most (most + 1 - k) (.on (msOf h g fr inp out k))
def RunI (m : Module) (r : Run) (most : Nat) (c : MC) (fr : List FrmV) (g : FrmV) (N : Nat) (h : HpS) (inp out back : List Int) : Prop :=
  (back = [] ∧ ∃ k, RunL m r most k c fr g N h inp out) ∨ (c.dn = true ∧ r.oc = ⟨c.e, back, out, c.fu⟩ ∧ r.flt = (0, 0) ∧ out.length ≤ 2000 ∧ back.length ≤ 100000)
theorem steps_of {m : Module} {most k : Nat} {s : MS} (hk : s.fuel < most) (he : k = s.fuel) : Run.steps m most (most + 1 - k) (.on s) = Run.steps m most (most + 1 - (k + 1)) (.of m s (s.tick.one m)) := by
  rw [show most + 1 - k = (most + 1 - (k + 1)) + 1 by omega, Run.steps]
  rw [show Run.step m most (.on s) = .of m s (s.tick.one m) by unfold Run.step; exact if_neg (by omega)]
theorem Qmf {m : Module} {most k : Nat} {s : MS} (hk : s.fuel = most) (he : k = s.fuel) : Run.steps m most (most + 1 - k) (.on s) = .over s 7 [] := by
  rw [show most + 1 - k = 0 + 1 by omega, Run.steps]
  rw [show Run.step m most (.on s) = .over s 7 [] by unfold Run.step; exact if_pos hk]
  rfl
theorem Qho {m : Module} {most : Nat} {s : MS} {e : Int} {b : List Int} : ∀ k, Run.steps m most k (.over s e b) = .over s e b
  | 0 => rfl
  | k + 1 => by rw [Run.steps]; exact Qho k
theorem Qla {m : Module} {most : Nat} {f : Flt} : ∀ k, Run.steps m most k (.stuck f) = .stuck f
  | 0 => rfl
  | k + 1 => by rw [Run.steps]; exact Qla k
theorem RunL.next {r : Run} {most k : Nat} {u : Value} (hI : RunL m r most k c fr g N h inp out) (hM : m.fault.1 = 0) (hi : intR.sl cx c.iv inp) (hs : StepS m p c fr g N h inp out (k + 1) cx (sl 2 1 c.bv [] :: L) u w) :
    (u = fltV (0, 0) ∧ ∃ c' fr' g' N' h' inp' out' back', RunI m r most c' fr' g' N' h' inp' out' back' ∧ c'.fn = c.fn ∧ intR.sl cx c'.iv inp' ∧ msr c' < msr c ∧ St cx w (mS p c' fr' g' N' h' out' (sl 2 1 c'.bv (Qs back') :: L))) ∨
    ∃ f, r = .stuck (20, f) ∧ u = fltV (20, f) ∧ St cx w L := by
  obtain ⟨hdn, hc0, he0, hfu, hkm, hmo, hN, hB, hr⟩ := hI
  rcases hs with ⟨h7, rfl, hS⟩ | ⟨hlt, hs⟩
  · refine .inl ⟨rfl, c.over 7, fr, g, N, h, inp, out, [], .inr ⟨rfl, ?_, ?_, hB.out, Nat.zero_le _⟩, rfl, hi, ?_, hS⟩
    · rw [hr, Qmf (m := m) (most := most) (k := k) (s := msOf h g fr inp out k) (by show k = most; omega) rfl]; show Oc.mk 7 [] out k = Oc.mk 7 [] out c.fu; rw [hfu]
    · rw [hr, Qmf (m := m) (most := most) (k := k) (s := msOf h g fr inp out k) (by show k = most; omega) rfl]; rfl
    · unfold msr; rw [hdn]; show 2 * (c.mo - c.fu).toNat + 0 < 2 * (c.mo - c.fu).toNat + 1; omega
  · have hst := hr.trans (steps_of (m := m) (most := most) (k := k) (s := msOf h g fr inp out k) (by show k < most; omega) rfl)
    have hone : (msOf h g fr inp out k).tick.one m = (msOf h g fr inp out (k + 1)).one m := rfl
    rw [hone] at hst
    have hB1 : ((msOf h g fr inp out (k + 1)).one m).All (Bnd m (k + 1)) := Bnd.one (s := msOf h g fr inp out (k + 1)) (k := k) ⟨hB.cur, hB.st, hB.sl, hB.out⟩ hM
    have hms : 2 * (c.mo - (c.fu + 1)).toNat + 1 < 2 * (c.mo - c.fu).toNat + 1 := by omega
    rcases hs with ⟨rfl, hG⟩ | ⟨e, hX, rfl, fr', g', N', hN', hS⟩ | ⟨hX, rfl, hS⟩
    · rcases hG with ⟨lv, iv, ov, fr', g', N', h', inp', out', hX, hi', hN', -, hS⟩ | ⟨ns, bv, fr', g', hX, -, hS⟩
      · rw [hX] at hst hB1
        refine .inl ⟨rfl, c.tick.upd lv iv ov, fr', g', N', h', inp', out', [], .inl ⟨rfl, k + 1, hdn, hc0, he0, ?_, by omega, hmo, by omega, hB1, hst⟩, rfl, hi', ?_, hS⟩
        · show c.fu + 1 = ((k + 1 : Nat) : Int); omega
        · unfold msr; rw [hdn]; exact hms
      · rw [hX] at hst
        rw [show Run.of m (msOf h g fr inp out k) (.done ns) = .over (msOf h g fr inp out k).tick 0 ns from rfl, Qho] at hst
        refine .inl ⟨rfl, ⟨c.hp, c.fn, c.lv, c.iv, c.e, bv, c.ov, c.fu + 1, c.mo, true, c.c, c.a⟩, fr', g', N, h, inp, out, ns, .inr ⟨rfl, ?_, ?_, hB.out, ?_⟩, rfl, hi, ?_, hS.sp⟩
        · rw [hst]; show Oc.mk 0 ns out ((k + 1 : Nat) : Int) = Oc.mk c.e ns out (c.fu + 1); rw [hfu, he0]; rfl
        · rw [hst]; rfl
        · have h8 : ns.length ≤ 8 := by rw [hX] at hB1; exact hB1
          omega
        · unfold msr; rw [hdn]; show 2 * (c.mo - (c.fu + 1)).toNat + 0 < _; omega
    · rw [hX] at hst
      rw [show Run.of m (msOf h g fr inp out k) (.halt e) = .over (msOf h g fr inp out k).tick e [] from rfl, Qho] at hst
      refine .inl ⟨rfl, c.tick.over e, fr', g', N', h, inp, out, [], .inr ⟨rfl, ?_, ?_, hB.out, Nat.zero_le _⟩, rfl, hi, ?_, hS⟩
      · rw [hst]; show Oc.mk e [] out ((k + 1 : Nat) : Int) = Oc.mk e [] out (c.fu + 1); rw [hfu]; rfl
      · rw [hst]; rfl
      · unfold msr; rw [hdn]; show 2 * (c.mo - (c.fu + 1)).toNat + 0 < _; omega
    · rw [hX] at hst
      rw [show Run.of m (msOf h g fr inp out k) .lost = .stuck (20, (msOf h g fr inp out k).place m) from rfl, Qla] at hst
      exact .inr ⟨_, hst, rfl, hS.sp⟩
theorem Qmg {r : Run} {most k : Nat} (hI : RunL m r most k c fr g N h inp out) (hM : m.fault.1 = 0) (hmo : most ≤ 20000) (hfn : funcR.sl cx c.fn m.funcs) (hi : intR.sl cx c.iv inp) (hS : St cx w (mS p c fr g N h out (sl 2 1 c.bv [] :: L))) :
    Rets Try.prog Q2F [.pointer (some ⟨p, 0, none⟩)] w fun u w' =>
      (u = fltV (0, 0) ∧ ∃ c' fr' g' N' h' inp' out' back', RunI m r most c' fr' g' N' h' inp' out' back' ∧ c'.fn = c.fn ∧ intR.sl cx c'.iv inp' ∧ msr c' < msr c ∧ St cx w' (mS p c' fr' g' N' h' out' (sl 2 1 c'.bv (Qs back') :: L))) ∨
      ∃ f, r = .stuck (20, f) ∧ u = fltV (20, f) ∧ St cx w' L := by
  have hI' := hI
  obtain ⟨hdn, hc0, he0, hfu, hkm, hmo2, hN, hB, hr⟩ := hI
  obtain ⟨f, b, hf, hb, h1, h2, h3⟩ := hB.cur
  obtain ⟨q0, q1, q2⟩ := QeZ hM hf hb
  obtain ⟨e1, e2, e3, e4⟩ := QgW q2
  have hcl := (QkL q0).2.2.2.2
  have hfl := Qjd hM
  have hbl := (Q9w (QeY hM hf)).2.2.2.2
  have hgf := (List.getElem?_eq_some_iff.1 hf).1
  have hgb := (List.getElem?_eq_some_iff.1 hb).1
  have hsl := hB.sl
  have hst : (msOf h g fr inp out k).st.length = fr.length := by show (fr.map FrmV.abs).reverse.length = _; simp
  have h1 : g.i ≤ b.code.length := h1
  have h2 : g.vals.length ≤ 8 + 8 * k := h2
  have h3 : g.regs.length ≤ 16 + k := h3
  have hgf : g.f < m.funcs.length := hgf
  have hgb : g.b < f.blocks.length := hgb
  have hto : ∀ {t : To}, Q1y f.blocks.length t true = 0 → ToOK f t := fun ht => ⟨toForm_b ht, by have := Qmd ht; omega, by have := Qmd ht; omega⟩
  refine (step_c (m := m) (f := f) (b := b) (inp := inp) (fu := k + 1) hdn hc0 hfn hi hf hb (fun x hx => ⟨QlS (q1 x hx), insF_k (q1 x hx), by have := Qkm (q1 x hx); omega, by have := Qkm (q1 x hx); omega⟩) ⟨by have := Qn3 q2; omega, ⟨e1, e2⟩, fun hq => hto (by rw [decide_eq_true hq] at e3; exact e3), fun hq => hto (by rw [decide_eq_true hq] at e4; exact e4)⟩ (by omega) (by omega) (by omega) (by omega) (by omega) (by omega) ?_ (by omega) hB.out ⟨by omega, by omega⟩ hS).mono fun u w' hs => hI'.next hM hi hs
  intro x hx
  obtain ⟨f9, b9, _, _, _, h9, _⟩ := hB.st x.abs (by show x.abs ∈ (fr.map FrmV.abs).reverse; rw [List.mem_reverse]; exact List.mem_map_of_mem hx)
  have h9 : x.vals.length ≤ 8 + 8 * k := h9
  omega
theorem NewS.bad {fuel pages : Int} {u : Value} (hz : (Q2k m inp fuel pages).1 ≠ 0) (hs : NewS m inp fuel pages cx L u w) : u = .tuple #[.pointer none, fltV (Q2k m inp fuel pages)] ∧ St cx w L := by
  rcases hs with ⟨_, h1, h2⟩ | ⟨h1, _⟩
  · exact ⟨h1, h2⟩
  · rw [h1] at hz; exact absurd rfl hz
theorem NewS.ok {fuel pages : Int} {u : Value} (hz : (Q2k m inp fuel pages).1 = 0) (hs : NewS m inp fuel pages cx L u w) : Q2k m inp fuel pages = (0, 0) ∧ m.fault.1 = 0 ∧ inp.length ≤ 200 ∧ 0 ≤ fuel ∧ fuel ≤ 20000 ∧ 0 ≤ pages ∧ pages ≤ 64 ∧ ∃ c' p hp fn lv iv, u = .tuple #[.pointer (some ⟨p, 0, none⟩), fltV (0, 0)] ∧ cx.Le c' ∧ funcR.sl c' fn m.funcs ∧ intR.sl c' iv inp ∧ St c' w (mS p (newC hp fn lv iv fuel) [] newG 0 ⟨[], pages⟩ [] L) := by
  rcases hs with ⟨h1, _⟩ | h1
  · exact absurd hz h1
  · exact h1
def ocV (o : Oc) (v1 v2 : Value) : Value := .agg ⟨[.int .i64 o.e, v1, v2, .int .i64 o.fuel]⟩
/-- What a run gives back. -/
def RunS (m : Module) (inp : List Int) (fuel pages : Int) (cx : Cx) (L : List Res) (u : Value) (w' : World) : Prop :=
  ((Q2k m inp fuel pages).1 ≠ 0 ∧ u = .tuple #[.agg ⟨[.int .i64 0, .slice none 0 0, .slice none 0 0, .int .i64 0]⟩, fltV (Q2k m inp fuel pages)] ∧ St cx w' L) ∨
  (Q2k m inp fuel pages = (0, 0) ∧ ∃ c' v1 v2, cx.Le c' ∧ u = .tuple #[ocV (Run.all m inp fuel.toNat pages).oc v1 v2, fltV (Run.all m inp fuel.toNat pages).flt] ∧ intR.sl c' v1 (Run.all m inp fuel.toNat pages).oc.back ∧ intR.sl c' v2 (Run.all m inp fuel.toNat pages).oc.out ∧ St c' w' L)
theorem run_bad {cs : List Value} {v : Value} {fuel pages : Int} (hz : (Q2k m inp fuel pages).1 ≠ 0) (hsh : m.Short) (hx : modR.at cx cs m) (hi : intR.sl cx v inp) (hS : St cx w L) :
    Rets Try.prog Q2d [.agg ⟨cs⟩, v, .int .i64 fuel, .int .i64 pages] w (RunS m inp fuel pages cx L) := by
  have hx' := hx
  obtain ⟨vf, rfl, hf⟩ := Q2e hx
  unfold RunS
  all_goals refine Qcs ?_
  all_goals (unfold ideal_Run_lc; refine Q0 ?_; refine Q1 ?_; refine zb hS ?_; intro p4 w1 hS; refine Q8 hS ?_; intro p8 w1 hS; refine Q8 hS ?_; intro p9 w1 hS; refine zn ?_; refine Q0 ?_; refine Q1 ?_; refine zv hS ?_; refine zm ?_; refine zm ?_; refine zm ?_; refine zR4 (c := new_c hsh hx' hi hS) (h := ?_); rintro v1 w1 hN; obtain ⟨rfl, hS⟩ := hN.bad hz; unfold fltV; refine zm ?_; refine zxt ?_; refine zxt ?_; refine Q8 hS ?_; intro p11 w1 hS; refine zm ?_; refine zsn hS ?_; intro w1 hS; have hS := hS.ns; refine zn ?_; refine Q0 ?_; refine Q0 ?_; refine Q1 ?_; refine zf0 ?_; refine zl hS ?_)
  all_goals (refine Q1o ?_)
  all_goals (refine zn ?_)
  all_goals refine zct ?_
  all_goals (refine Q0 ?_; refine zC [(0, none), (1, none), (2, some (some [1])), (3, some none)] ?_; have hS := hS.drew; refine s_cq ?_; refine zb0 [_, _, _, _] ?_; refine zt ?_; refine s_cq ?_; refine zv hS ?_; refine zt ?_; refine Qi ?_; refine zsn hS ?_; intro w1 hS; have hS := hS.ns; refine zt ?_; refine zy ?_; refine s_cf ?_; refine zsn hS ?_; intro w1 hS; have hS := hS.ns; refine zt ?_; refine zcn ?_; refine zr ?_; refine Qkb vw (Qg (n := 4) (by kernel_rfl) (by kernel_rfl) (hS.blkAt fd) (by rfl) (by rfl)) vw (Qg (n := 2) (by kernel_rfl) (by kernel_rfl) (hS.blkAt fd) (by rfl) (by rfl)) ?_; exact ⟨_, rfl, .inl ⟨hz, rfl, hS.sp⟩⟩)
theorem Qj9 {l : List Int} : intR.ls cx (Qs l) l :=
  ⟨by unfold Qs; simp, fun k x hx => ⟨[.int .i64 x], by unfold Qs; rw [List.getElem?_map, hx]; rfl, rfl⟩⟩
theorem RunI.first {fuel pages : Int} {hp fn lv iv : Value} (hM : m.fault.1 = 0) (h0 : 0 ≤ fuel) : RunI m (Run.all m inp fuel.toNat pages) fuel.toNat (newC hp fn lv iv fuel) [] newG 0 ⟨[], pages⟩ inp [] [] :=
  .inl ⟨rfl, 0, rfl, rfl, rfl, rfl, Nat.zero_le _, (Int.toNat_of_nonneg h0).symm, Nat.zero_le _, Bnd.start hM inp pages, rfl⟩
theorem run_ok {cs : List Value} {v : Value} {fuel pages : Int} (hz : (Q2k m inp fuel pages).1 = 0) (hsh : m.Short) (hx : modR.at cx cs m) (hi : intR.sl cx v inp) (hS : St cx w L) :
    Rets Try.prog Q2d [.agg ⟨cs⟩, v, .int .i64 fuel, .int .i64 pages] w (RunS m inp fuel pages cx L) := by
  have hx' := hx
  obtain ⟨vf, rfl, hf⟩ := Q2e hx
  unfold RunS
  all_goals refine Qcs ?_
  all_goals (unfold ideal_Run_lc; refine Q0 ?_; refine Q1 ?_; refine zb hS ?_; intro p4 w1 hS; refine Q8 hS ?_; intro p8 w1 hS; refine Q8 hS ?_; intro p9 w1 hS; refine zn ?_; refine Q0 ?_; refine Q1 ?_; refine zv hS ?_; refine zm ?_; refine zm ?_; refine zm ?_; refine zR4 (c := new_c hsh hx' hi hS) (h := ?_); rintro v1 w1 hN; obtain ⟨hs0, hM, hil, hf0, hf1, hp0, hp1, c2, p, hp, fn, lv, iv, rfl, hle2, hfn, hin, hS⟩ := hN.ok hz; unfold fltV; have hI0 := RunI.first (inp := inp) (pages := pages) (hp := hp) (fn := fn) (lv := lv) (iv := iv) hM hf0; refine zm ?_; refine zxt ?_; refine zxt ?_; refine Q8 hS ?_; intro p11 w1 hS; refine zm ?_; refine zsn hS ?_; intro w1 hS; have hS := hS.ns; refine zn ?_; refine Q0 ?_; refine Q0 ?_; refine Q1 ?_; refine zf0 ?_; refine zl hS ?_)
  all_goals (first | (refine Q1o ?_) | (refine Q1B ?_))
  all_goals (refine zn ?_)
  all_goals refine zcf ?_
  all_goals (refine zsk ?_; refine Q0 ?_; refine Qh ?_)
  refine zo [8, 9, 10] (fun A ρ' w' => ∃ (c : MC) (fr : List FrmV) (g : FrmV) (N : Nat) (h : HpS) (inp1 out back : List Int), Has ρ' A ∧ Has ρ' [] ∧ (RunI m (Run.all m inp fuel.toNat pages) fuel.toNat c fr g N h inp1 out back) ∧ (funcR.sl c2 c.fn m.funcs) ∧ (intR.sl c2 c.iv inp1) ∧ St c2 w' (mS p c fr g N h out (sl 2 1 c.bv (Qs back) :: blk p11 29 [.int .i64 0, .int .i64 0] :: blk p9 29 [.int .i64 0, .int .i64 0] :: blk p8 33 [.int .i64 0, .slice none 0 0, .slice none 0 0, .int .i64 0] :: L))) (fun _ w' => msrW w' p) ?_ ?_
  · exact ⟨newC hp fn lv iv fuel, [], newG, 0, ⟨[], pages⟩, inp, [], [], zh, zh, hI0, hfn, hin, by have hS := hS.nil (T := 2) (es := 1); exact hS.sp⟩
  rintro ρ w1 ⟨c, fr, g, N, h, inp1, out, back, hA, hρ, hI, hfn1, hin1, hS⟩; obtain ⟨ρ, rfl⟩ := env2 hA hρ; have hm0 := msr_of hS
  unfold Qct
  all_goals (refine Q0 ?_; refine Q0 ?_; refine Q1 ?_; refine zm ?_)
  all_goals (refine zR1 (c := done_c hS) (h := ?_); rintro v1 w1 ⟨rfl, hS⟩; cases hdn : c.dn)
  all_goals (refine znt ?_; refine zn ?_)
  all_goals
    first
    | (refine zct ?_ -- Q2d c1
       all_goals (refine zsk ?_; refine Qh ?_; refine Q0 ?_; refine Q1 ?_; refine zm ?_)
       all_goals (obtain ⟨rfl, k, hL⟩ := hI.resolve_right (fun h9 => absurd h9.1 (by rw [hdn]; decide)); refine zR1 (c := Qmg hL hM (by omega) hfn1 hin1 hS) (h := ?_); rintro v1 w1 (⟨rfl, c', fr', g', N', h', inp', out', back', hI, hfn', hin', hlt, hS⟩ | ⟨f9, hr9, rfl, hS⟩))
       all_goals (refine Q8 hS ?_; intro p12 w1 hS; refine zsn hS ?_; intro w1 hS; have hS := hS.ns; refine zn ?_; refine Q0 ?_; refine Q1 ?_; refine zf0 ?_; refine zl hS ?_)
       all_goals (first | (refine Q1o ?_) | (refine Q1B ?_))
       all_goals (refine zn ?_)
       all_goals
         first
         | (refine zct ?_ -- Q2d c2
            all_goals (refine Q0 ?_; refine zC [(0, none), (1, none), (2, some (some [1])), (3, some none)] ?_; have hS := hS.drew; refine s_cq ?_; refine zb0 [_, _, _, _] ?_; refine zt ?_; refine s_cq ?_; refine zv hS ?_; refine zt ?_; refine Qi ?_; refine zsn hS ?_; intro w1 hS; have hS := hS.ns; refine zt ?_; refine zy ?_; refine s_cf ?_; refine zsn hS ?_; intro w1 hS; have hS := hS.ns; refine zt ?_; refine zcn ?_; refine zr ?_; refine Qkb vw (Qg (n := 4) (by kernel_rfl) (by kernel_rfl) (hS.blkAt fd) (by rfl) (by rfl)) vw (Qg (n := 2) (by kernel_rfl) (by kernel_rfl) (hS.blkAt fd) (by rfl) (by rfl)) ?_)
            all_goals (exact ⟨_, rfl, .inr ⟨hs0, c2, .slice none 0 0, .slice none 0 0, hle2, by rw [hr9]; rfl, by rw [hr9]; exact Rep.SR.nil _ _ _, by rw [hr9]; exact Rep.SR.nil _ _ _, hS.sp⟩⟩))
         | (refine zcf ?_ -- Q2d c2
            all_goals refine zsk ?_)
       all_goals (exact ⟨⟨c', fr', g', N', h', inp', out', back', zh, zh, hI, (by rw [hfn']; exact hfn1), hin', hS.sp⟩, (by rw [msr_of (c := c') (L := L) (show St c2 _ (blk p 74 c'.cells :: L) from hS.sp), hm0]; exact hlt)⟩))
    | (refine zcf ?_ -- Q2d c1
       all_goals (refine zex ?_; refine Q0 ?_; refine Q1 ?_; refine zm ?_)
       all_goals (obtain ⟨_, ho, hfz, hol, hbl⟩ := hI.resolve_left (fun h9 => (by obtain ⟨_, k, hL⟩ := h9; exact absurd hL.1 (by rw [hdn]; decide))); obtain ⟨c3, hle3, hS2, hb3⟩ := St.freezeL (r := intR) (l := back) (hS.out (r := sl 2 1 c.bv (Qs back)) fd) Qj9 rfl (by omega); obtain ⟨c4, hle4, hS3, ho4⟩ := St.freezeL (r := intR) (l := out) (hS2.out (r := sl 2 1 c.ov (Qs out)) fd) Qj9 rfl (by omega); refine zR1 (c := QmP (c := c) (by omega) (by omega) (Rep.SR.up hb3 hle4) ho4 (show St c4 _ (blk p 74 c.cells :: _) from (by have hS := hS3; exact hS.sp))) (h := ?_); rintro v1 w1 ⟨c5, u1, u2, hle5, rfl, k1, k2, hS⟩; obtain ⟨a1, n1, rfl⟩ := Rep.SR.shape k1; obtain ⟨a2, n2, rfl⟩ := Rep.SR.shape k2)
       all_goals (refine zb0 [_, _] ?_; refine zsn hS ?_; intro w1 hS; have hS := hS.ns; refine zsn hS ?_; intro w1 hS; have hS := hS.ns; refine zn ?_; refine zr ?_; refine Qkb vw (Qg (n := 4) (by kernel_rfl) (by kernel_rfl) (hS.blkAt fd) (by rfl) (by rfl)) vw (Qg (n := 2) (by kernel_rfl) (by kernel_rfl) (hS.blkAt fd) (by rfl) (by rfl)) ?_)
       all_goals ((first | exact ⟨_, rfl, .inr ⟨hs0, c2, .slice none 0 0, .slice none 0 0, hle2, by rw [hr9]; rfl, by rw [hr9]; exact Rep.SR.nil _ _ _, by rw [hr9]; exact Rep.SR.nil _ _ _, hS.sp⟩⟩ | exact ⟨_, rfl, .inr ⟨hs0, c5, .slice a1 back.length n1, .slice a2 out.length n2, hle2.trans (hle3.trans (hle4.trans hle5)), by rw [ho, hfz]; rfl, by rw [ho]; exact k1, by rw [ho]; exact k2, hS.sp⟩⟩)))
theorem run_c {cs : List Value} {v : Value} {fuel pages : Int} (hsh : m.Short) (hx : modR.at cx cs m) (hi : intR.sl cx v inp) (hS : St cx w L) :
    Rets Try.prog Q2d [.agg ⟨cs⟩, v, .int .i64 fuel, .int .i64 pages] w (RunS m inp fuel pages cx L) := by
  by_cases hz : (Q2k m inp fuel pages).1 = 0
  · exact run_ok hz hsh hx hi hS
  · exact run_bad hz hsh hx hi hS
end Go.Proofs.Yteflkifmgnpbhaa
namespace Go.Lir
section
variable {P : Program} {l : List GO} {Q : QT} {ρ : Env} {w : World}
/-- A field that holds an integer. -/
def IntF (P : Program) (f : Field) (i : Nat) : Prop := f.name ≠ "_" ∧ (∃ k, P.underlying f.type = some (.int k)) ∧ f.offset = i ∧ Q3t P f.type = true
theorem Q5B (k : Nat) {T : TypeId} {q : IntKind} {a b : Int} {kk : IntKind} {w0 : World} (ht : P.underlying T = some (.int q)) : (Op.equalIn (k + 1) T (.int kk a) (.int kk b)).run P w0 = .ok (a == b) w0 := by
  simp only [Op.equalIn, Sem.run_bind, Q6 P T _ w0 ht, Result.andThen_ok]
  simp [Sem.run_pure]
def intFB (P : Program) (f : Field) (i : Nat) : Bool := f.name != "_" && (match P.underlying f.type with | some (.int _) => true | _ => false) && f.offset == i && Q3t P f.type
theorem QmZ {f : Field} {i : Nat} (h : intFB P f i = true) : IntF P f i := by
  unfold intFB at h
  simp only [Bool.and_eq_true, bne_iff_ne, ne_eq, beq_iff_eq] at h
  obtain ⟨⟨⟨h1, h2⟩, h3⟩, h4⟩ := h
  refine ⟨h1, ?_, h3, h4⟩
  split at h2
  · rename_i k hk; exact ⟨k, hk⟩
  · cases h2
end
end Go.Lir
namespace Go.Lir
section
variable {P : Program} {l : List GO} {Q : QT} {ρ : Env} {w : World}
theorem run_eq2 (k : Nat) {T : TypeId} {f0 f1 : Field} {a0 a1 b0 b1 : Int} {w0 : World} (ht : P.underlying T = some (.struct #[f0, f1])) (hh : P.stoodInHeld T = false)
    (h0 : IntF P f0 0) (h1 : IntF P f1 1) :
    (Op.equalIn (k + 2) T (.agg ⟨[.int .i64 a0, .int .i64 a1]⟩) (.agg ⟨[.int .i64 b0, .int .i64 b1]⟩)).run P w0 = .ok (a0 == b0 && a1 == b1) w0 := by
  obtain ⟨n0, ⟨q0, u0⟩, o0, s0⟩ := h0
  obtain ⟨n1, ⟨q1, u1⟩, o1, s1⟩ := h1
  have hp : ∀ (T : TypeId) (cs : Array Value) (off : Nat) (v : Value) (w : World), Q3t P T = true → cs[off]? = some v → (part T cs off).run P w = .ok v w := fun T cs off v w h hv => Qhy P T cs off v w h hv
  unfold Op.equalIn
  simp only [Sem.run_bind, Q6 P T _ w0 ht, Result.andThen_ok]
  simp [hh, n0, n1, o0, o1, Q5B _ u0, Q5B _ u1, hp _ _ _ _ _ s0, hp _ _ _ _ _ s1]
  by_cases e0 : a0 = b0 <;> by_cases e1 : a1 = b1 <;> simp [e0, e1]
def Int2 (P : Program) (T : TypeId) : Prop := ∃ f0 f1 : Field, P.underlying T = some (.struct #[f0, f1]) ∧ P.stoodInHeld T = false ∧ P.eqGuardType P.depth T = false ∧ IntF P f0 0 ∧ IntF P f1 1
def int2B (P : Program) (T : TypeId) : Bool := match P.underlying T with
  | some (.struct fs) => match fs.toList with
    | [f0, f1] => !P.stoodInHeld T && !P.eqGuardType P.depth T && intFB P f0 0 && intFB P f1 1
    | _ => false
  | _ => false
theorem int2_of {T : TypeId} (h : int2B P T = true) : Int2 P T := by
  unfold int2B at h
  split at h
  · rename_i fs hu
    split at h
    · rename_i f0 f1 hf
      simp only [Bool.and_eq_true, Bool.not_eq_true'] at h
      obtain ⟨⟨⟨h1, h2⟩, h3⟩, h4⟩ := h
      have : fs = #[f0, f1] := by apply Array.ext'; exact hf
      subst this
      exact ⟨f0, f1, hu, h1, h2, QmZ h3, QmZ h4⟩
    · cases h
  · cases h
theorem pair_dec (a0 a1 b0 b1 : Int) : (a0 == b0 && a1 == b1) = decide ((a0, a1) = (b0, b1)) := by
  rw [Bool.eq_iff_iff]; simp
theorem s_eq2 {d : Nat} {T : TypeId} {x y : Operand} {a b : Int × Int} (hT : Int2 P T) (hx : ρ.ev x = .agg ⟨[.int .i64 a.1, .int .i64 a.2]⟩) (hy : ρ.ev y = .agg ⟨[.int .i64 b.1, .int .i64 b.2]⟩)
    (h : Q2 P l Q (upd ρ d (.bool (decide (a = b)))) w) : Q2 P (⟨none, .bin d .eql T x y⟩ :: l) Q ρ w := by
  obtain ⟨f0, f1, ht, hh, hg, h0, h1⟩ := hT
  exact ⟨.bool (decide (a = b)), fun w0 => by rw [hx, hy]; simp only [Sem.run_bind, run_eqGuard_agg w0 .eql T x y _ _ hg, Result.andThen_ok, run_eql_struct, run_eq2 9998 ht hh h0 h1, pair_dec], h⟩
theorem s_eq2_t {d : Nat} {T : TypeId} {x y : Operand} {a : Int × Int} (hT : Int2 P T) (hx : ρ.ev x = .agg ⟨[.int .i64 a.1, .int .i64 a.2]⟩) (hy : ρ.ev y = .agg ⟨[.int .i64 a.1, .int .i64 a.2]⟩)
    (h : Q2 P l Q (upd ρ d (.bool true)) w) : Q2 P (⟨none, .bin d .eql T x y⟩ :: l) Q ρ w := s_eq2 hT hx hy (by rw [decide_eq_true rfl]; exact h)
/-- A block is from here on only read, as a list of one. -/
theorem St.freeze1 {α : Type} {r : Rep α} {c : Cx} {L : List Res} {T b : Nat} {cs : List Value} {x : α} (h : St c w (blk b T cs :: L)) (hr : r.at c cs x) : ∃ c', c.Le c' ∧ St c' w L ∧ r.sl c' (.slice (some ⟨b, 0, none⟩) 1 1) [x] := by
  have h1 : St c w (sl T r.es (.slice (some ⟨b, 0, none⟩) 1 1) [cs] :: L) := h.slOf (css := [cs]) (by simp) (by intro q hq; simp at hq; subst hq; exact r.len hr) rfl
  exact h1.freezeL (r := r) ((Rep.LR.nil r _ _).push hr) rfl (by simp)
end
end Go.Lir
namespace Go.Proofs.Yteflkifmgnpbhaa
open Go.Lir
set_option maxHeartbeats 1000000
attribute [local irreducible] LC.wp Q2 Qy QD retQ Q1n LO.wp Ql Calls
set_option linter.unusedSimpArgs false
set_option linter.unusedVariables false
end Go.Proofs.Yteflkifmgnpbhaa
namespace Go.Proofs.Yteflkifmgnpbhaa
open Go.Lir
set_option maxHeartbeats 1000000
attribute [local irreducible] LC.wp Q2 Qy QD retQ Q1n LO.wp Ql Calls
set_option linter.unusedSimpArgs false
set_option linter.unusedVariables false
variable {cx : Cx} {w : World} {L : List Res} {i : Nat}
abbrev Q4c (vc : Value) : List Value := [.int .i64 0, .slice none 0 0, vc, .int .i64 3, .int .i64 0, .int .i64 0, .slice none 0 0, .slice none 0 0, .int .i64 0, .slice none 0 0, .slice none 0 0, .slice none 0 0]
theorem flt_int2 : Int2 Try.prog 29 := int2_of (by kernel_rfl)
theorem QmX (hS : St cx w L) : Rets Try.prog QjU [] w fun u w' => ∃ a b, u = .agg ⟨[.slice (some ⟨a, 0, none⟩) 1 1]⟩ ∧ St cx w' (blk a 53 [.int .i64 0, .slice none 0 0, .slice none 0 0, .slice (some ⟨b, 0, none⟩) 1 1] :: blk b 50 (Q4c (.slice none 0 0)) :: L) := by
  all_goals refine QjT ?_
  all_goals (unfold Law_least_lc; refine Q0 ?_; refine Q1 ?_; refine Q8 hS ?_; intro p0 w1 hS; refine zn ?_; refine Q0 ?_; refine Q1 ?_; refine zb1 [_, _, _, _, _, _, _, _, _] ?_; refine zb1 [_, _, _, _, _, _, _, _, _, _, _, _] ?_; refine Q3v (cs := [_, _, _, _, _, _, _, _, _, _, _, _]) vw (by rfl) ?_; intro q1 w1 hb1 hf1 _ hk1; have hS := hS.laid hb1 hf1 hk1; refine zb1 [_, _, _, _] ?_; refine Q3v (cs := [_, _, _, _]) vw (by rfl) ?_; intro q2 w1 hb1 hf1 _ hk1; have hS := hS.laid hb1 hf1 hk1; refine zb1 [_] ?_; refine zsn hS ?_; intro w1 hS; have hS := hS.ns; refine zn ?_; refine zr ?_; refine Q2W vw (Qg (n := 1) (by kernel_rfl) (by kernel_rfl) (hS.blkAt fd) (by rfl) (by rfl)) ?_; exact ⟨_, rfl, q2, q1, rfl, hS.sp⟩)
/-- Such a module, from now on only read. -/
theorem least_fz {a b : Nat} {code : List Ins} {vc : Value} (hk : insR.sl cx vc code) (hS : St cx w (blk a 53 [.int .i64 0, .slice none 0 0, .slice none 0 0, .slice (some ⟨b, 0, none⟩) 1 1] :: blk b 50 (Q4c vc) :: L)) :
    ∃ c', cx.Le c' ∧ St c' w L ∧ modR.at c' [.slice (some ⟨a, 0, none⟩) 1 1] ⟨[⟨0, [], [], [⟨0, [], code, ⟨3, 0, ⟨0, [], []⟩, ⟨0, [], []⟩, []⟩⟩]⟩]⟩ := by
  have n1 : ∀ c : Cx, intR.sl c (.slice none 0 0) [] := fun c => Rep.SR.nil _ _ _
  have n2 : ∀ c : Cx, tyR.sl c (.slice none 0 0) [] := fun c => Rep.SR.nil _ _ _
  obtain ⟨c1, hle1, hS, h1⟩ := St.freeze1 (r := blockR) (x := ⟨0, [], code, ⟨3, 0, ⟨0, [], []⟩, ⟨0, [], []⟩, []⟩⟩) hS.mv1 (Qfm (x := ⟨0, [], code, ⟨3, 0, ⟨0, [], []⟩, ⟨0, [], []⟩, []⟩⟩) (n2 _) hk (n1 _) (n1 _) (n1 _) (n1 _) (n1 _))
  obtain ⟨c2, hle2, hS, h2⟩ := St.freeze1 (r := funcR) (x := ⟨0, [], [], [⟨0, [], code, ⟨3, 0, ⟨0, [], []⟩, ⟨0, [], []⟩, []⟩⟩]⟩) hS ⟨_, _, _, rfl, n2 _, n2 _, h1⟩
  exact ⟨c2, hle1.trans hle2, hS, _, rfl, h2⟩
end Go.Proofs.Yteflkifmgnpbhaa
namespace Go.Proofs.Yteflkifmgnpbhaa
open Go.Lir
set_option maxHeartbeats 1000000
attribute [local irreducible] LC.wp Q2 Qy QD retQ Q1n LO.wp Ql Calls
set_option linter.unusedSimpArgs false
set_option linter.unusedVariables false
theorem QlV {x : Module} {cx : Cx} {w : World} {L : List Res} {cs : List Value} (hx : modR.at cx cs x) (hS : St cx w L) : Rets Try.prog QV [.agg ⟨cs⟩] w fun u w' => ∃ b, u = .bool b ∧ (b = false → x.Few) ∧ St cx w' L := by
  obtain ⟨vf, rfl, hl⟩ := Q2e hx
  obtain ⟨l⟩ := x
  have hl : funcR.sl cx vf l := hl
  have hlen := hl.len
  all_goals refine QdM ?_
  all_goals (unfold R_GreatModule_lc; refine Q0 ?_; refine Q1 ?_; refine zb hS ?_; intro p1 w1 hS; refine zm ?_; refine zn ?_; refine Q0 ?_; refine Q0 ?_; refine Q1 ?_; refine zf0 ?_; refine zl hS ?_; refine zL ?_)
  all_goals (first | (refine QQ ?_) | (refine Q1c ?_) | (refine Qo rfl rfl (fun hc => ?_) (fun hc => ?_)))
  all_goals (refine zn ?_)
  all_goals
    first
    | (refine zct ?_ -- QV c0
       all_goals (refine Q0 ?_; refine Q1 ?_; refine zm ?_; refine zn ?_; refine zr ?_; refine zf ?_)
       all_goals (exact ⟨_, rfl, true, rfl, fun h => Bool.noConfusion h, hS.sp⟩))
    | (refine zcf ?_ -- QV c0
       all_goals refine zsk ?_)
  all_goals (refine Q0 ?_; refine Q0 ?_; refine Q1 ?_; refine zm ?_; refine zn ?_; refine Qh ?_)
  refine zoL hS [1] (fun A LL ρ' w' => ∃ (j : Nat), Has ρ' A ∧ Has ρ' [(3, .int .i64 j)] ∧ (j ≤ l.length) ∧ (l.length ≤ 20) ∧ (∀ f ∈ l.take j, f.Few) ∧ St cx w' (LL)) (fun ρ' _ => (l.length - iv (ρ' 3)).toNat) ?_ ?_
  · exact ⟨0, zh, zh, (by omega), (by omega), by simp, hS.sp⟩
  rintro ρ w1 ⟨j, hA, hρ, hj, hl20, hd, hS⟩; obtain ⟨ρ, rfl⟩ := env2 hA hρ
  unfold Q54
  all_goals (refine Q0 ?_; refine Q0 ?_; refine Q1 ?_; refine zm ?_; refine zf0 ?_; refine zl hS ?_; refine zL ?_; refine Q1h rfl rfl ?_; refine zn ?_)
  refine Q1g rfl (fun hc => ?_) (fun hc => ?_)
  · skip
    all_goals (refine zsk ?_; refine Q0 ?_; refine Qh ?_; refine Q0 ?_; refine Q1 ?_; refine zf0 ?_; refine zl hS ?_; refine zm ?_; refine zi ?_; intro b1 o1 cs1 x1 hat1 hx1 he1; obtain ⟨vp1, vr1, vb1, rfl, hp1, hr1, hb1⟩ := QW he1; (first | (refine zv hS ?_) | (refine zvk hS ?_)); refine Q8 hS ?_; intro p4 w1 hS; refine zsn hS ?_; intro w1 hS; have hS := hS.ns; refine zn ?_; refine Q0 ?_; refine Q0 ?_; refine Q1 ?_; refine zf0 ?_; refine zl hS ?_; refine zL ?_)
    all_goals (first | (refine QQ ?_) | (refine Q1c ?_) | (refine Qo rfl rfl (fun hc => ?_) (fun hc => ?_)))
    all_goals (refine zm ?_; (first | refine zgn ?_ | (refine zgy ?_; refine zf0 ?_)); (first | refine zgn ?_ | (refine zgy ?_; refine zl hS ?_)))
    all_goals ((first | (refine zgn ?_) | (refine zgy ?_; refine zR1 (c := QhN hp1 hS) (h := ?_); rintro v1 w1 ⟨rfl, hS⟩; cases hg1 : Tys.great x1.params)))
    all_goals ((first | (refine zpt ?_) | (refine zpf ?_)); refine zm ?_; (first | refine zgn ?_ | (refine zgy ?_; refine zf0 ?_)); (first | refine zgn ?_ | (refine zgy ?_; refine zl hS ?_)))
    all_goals ((first | (refine zgn ?_) | (refine zgy ?_; refine zR1 (c := QhN hr1 hS) (h := ?_); rintro v1 w1 ⟨rfl, hS⟩; cases hg2 : Tys.great x1.results)))
    all_goals ((first | (refine zpt ?_) | (refine zpf ?_)); refine zn ?_)
    all_goals
      first
      | (refine zct ?_ -- QV c2
         all_goals (refine Q0 ?_; refine Q1 ?_; refine zm ?_; refine zn ?_; refine zr ?_; refine zf ?_)
         all_goals (exact ⟨_, rfl, true, rfl, fun h => Bool.noConfusion h, hS.sp⟩))
      | (refine zcf ?_ -- QV c2
         all_goals refine zsk ?_)
    all_goals (refine Q0 ?_; have hlb := hb1.len; refine Q1 ?_; refine zm ?_; refine zn ?_; refine Qh ?_)
    refine zoL hS [1, 3, 4] (fun A LL ρ' w' => ∃ (i : Nat), Has ρ' A ∧ Has ρ' [(5, .int .i64 i)] ∧ (i ≤ x1.blocks.length) ∧ (x1.blocks.length ≤ 30) ∧ (Tys.great x1.params = false) ∧ (Tys.great x1.results = false) ∧ (∀ f ∈ x1.blocks.take i, f.Few) ∧ St cx w' (LL)) (fun ρ' _ => (x1.blocks.length - iv (ρ' 5)).toNat) ?_ ?_
    · exact ⟨0, zh, zh, (by omega), (by omega), by assumption, by assumption, by simp, hS.sp⟩
    rintro ρ w1 ⟨i, hA, hρ, hi, hl30, hg1, hg2, hd1, hS⟩; obtain ⟨ρ, rfl⟩ := env2 hA hρ
    unfold Q53
    all_goals (refine Q0 ?_; refine Q0 ?_; refine Q1 ?_; refine zm ?_; refine zf0 ?_; refine zl hS ?_; refine zL ?_; refine Q1h rfl rfl ?_; refine zn ?_)
    refine Q1g rfl (fun hc => ?_) (fun hc => ?_)
    · skip
      all_goals (refine zsk ?_; refine Q0 ?_; refine Qh ?_; refine Q0 ?_; refine Q1 ?_; refine zf0 ?_; refine zl hS ?_; refine zm ?_; refine zi ?_; intro b2 o2 cs2 x2 hat2 hx2 he2; obtain ⟨vp2, vc2, ve21, ve22, ve23, ve24, ve25, rfl, hp2, hc2, he21, he22, he23, he24, he25⟩ := Q3m he2; (first | (refine zv hS ?_) | (refine zvk hS ?_)); refine Q8 hS ?_; intro p6 w1 hS; refine zsn hS ?_; intro w1 hS; have hS := hS.ns; refine zn ?_; refine Q0 ?_; refine Q0 ?_; refine Q1 ?_; refine zf0 ?_; refine zl hS ?_; refine zL ?_)
      all_goals (first | (refine QQ ?_) | (refine Q1c ?_) | (refine Qo rfl rfl (fun hc => ?_) (fun hc => ?_)))
      all_goals (refine zm ?_; (first | refine zgn ?_ | (refine zgy ?_; refine zf0 ?_)); (first | refine zgn ?_ | (refine zgy ?_; refine zl hS ?_)))
      all_goals ((first | (refine zgn ?_) | (refine zgy ?_; refine zR1 (c := QhN hp2 hS) (h := ?_); rintro v1 w1 ⟨rfl, hS⟩; cases hg3 : Tys.great x2.params)))
      all_goals ((first | (refine zpt ?_) | (refine zpf ?_)); refine zm ?_; (first | refine zgn ?_ | (refine zgy ?_; refine zf0 ?_)); (first | refine zgn ?_ | (refine zgy ?_; (first | refine zf0 ?_ | refine zfd ?_))); (first | refine zgn ?_ | (refine zgy ?_; refine zl hS ?_)); (first | refine zgn ?_ | (refine zgy ?_; refine zL ?_)))
      all_goals (first | refine zgn ?_ | (refine zgy ?_; (first | (refine QQ ?_) | (refine Q1c ?_) | (refine Qo rfl rfl (fun hc => ?_) (fun hc => ?_)))))
      all_goals ((first | (refine zpt ?_) | (refine zpf ?_)); refine zm ?_; (first | refine zgn ?_ | (refine zgy ?_; refine zf0 ?_)); (first | refine zgn ?_ | (refine zgy ?_; (first | refine zf0 ?_ | refine zfd ?_))); (first | refine zgn ?_ | (refine zgy ?_; (first | refine zf0 ?_ | refine zfd ?_))); (first | refine zgn ?_ | (refine zgy ?_; refine zl hS ?_)); (first | refine zgn ?_ | (refine zgy ?_; refine zL ?_)))
      all_goals (first | refine zgn ?_ | (refine zgy ?_; (first | (refine QQ ?_) | (refine Q1c ?_) | (refine Qo rfl rfl (fun hc => ?_) (fun hc => ?_)))))
      all_goals ((first | (refine zpt ?_) | (refine zpf ?_)); refine zm ?_; (first | refine zgn ?_ | (refine zgy ?_; refine zf0 ?_)); (first | refine zgn ?_ | (refine zgy ?_; (first | refine zf0 ?_ | refine zfd ?_))); (first | refine zgn ?_ | (refine zgy ?_; (first | refine zf0 ?_ | refine zfd ?_))); (first | refine zgn ?_ | (refine zgy ?_; refine zl hS ?_)); (first | refine zgn ?_ | (refine zgy ?_; refine zL ?_)))
      all_goals (first | refine zgn ?_ | (refine zgy ?_; (first | (refine QQ ?_) | (refine Q1c ?_) | (refine Qo rfl rfl (fun hc => ?_) (fun hc => ?_)))))
      all_goals ((first | (refine zpt ?_) | (refine zpf ?_)); refine zm ?_; (first | refine zgn ?_ | (refine zgy ?_; refine zf0 ?_)); (first | refine zgn ?_ | (refine zgy ?_; (first | refine zf0 ?_ | refine zfd ?_))); (first | refine zgn ?_ | (refine zgy ?_; (first | refine zf0 ?_ | refine zfd ?_))); (first | refine zgn ?_ | (refine zgy ?_; refine zl hS ?_)); (first | refine zgn ?_ | (refine zgy ?_; refine zL ?_)))
      all_goals (first | refine zgn ?_ | (refine zgy ?_; (first | (refine QQ ?_) | (refine Q1c ?_) | (refine Qo rfl rfl (fun hc => ?_) (fun hc => ?_)))))
      all_goals ((first | (refine zpt ?_) | (refine zpf ?_)); refine zm ?_; (first | refine zgn ?_ | (refine zgy ?_; refine zf0 ?_)); (first | refine zgn ?_ | (refine zgy ?_; (first | refine zf0 ?_ | refine zfd ?_))); (first | refine zgn ?_ | (refine zgy ?_; (first | refine zf0 ?_ | refine zfd ?_))); (first | refine zgn ?_ | (refine zgy ?_; refine zl hS ?_)); (first | refine zgn ?_ | (refine zgy ?_; refine zL ?_)))
      all_goals (first | refine zgn ?_ | (refine zgy ?_; (first | (refine QQ ?_) | (refine Q1c ?_) | (refine Qo rfl rfl (fun hc => ?_) (fun hc => ?_)))))
      all_goals ((first | (refine zpt ?_) | (refine zpf ?_)); refine zn ?_)
      all_goals
        first
        | (refine zct ?_ -- QV c4
           all_goals (refine Q0 ?_; refine Q1 ?_; refine zm ?_; refine zn ?_; refine zr ?_; refine zf ?_)
           all_goals (exact ⟨_, rfl, true, rfl, fun h => Bool.noConfusion h, hS.sp⟩))
        | (refine zcf ?_ -- QV c4
           all_goals refine zsk ?_)
      all_goals (refine Q0 ?_; have hlc := hc2.len; refine Q1 ?_; refine zm ?_; refine zn ?_; refine Qh ?_)
      refine zoL hS [1, 3, 4, 5, 6] (fun A LL ρ' w' => ∃ (k : Nat), Has ρ' A ∧ Has ρ' [(7, .int .i64 k)] ∧ (k ≤ x2.code.length) ∧ (x2.code.length ≤ 200) ∧ (Tys.great x2.params = false) ∧ (x2.fin.Few) ∧ (∀ f ∈ x2.code.take k, f.Few) ∧ St cx w' (LL)) (fun ρ' _ => (x2.code.length - iv (ρ' 7)).toNat) ?_ ?_
      · exact ⟨0, zh, zh, (by omega), (by omega), by assumption, ⟨⟨by omega, by omega⟩, ⟨by omega, by omega⟩, by omega⟩, by simp, hS.sp⟩
      rintro ρ w1 ⟨k, hA, hρ, hk, hl200, hg3, hfin, hd2, hS⟩; obtain ⟨ρ, rfl⟩ := env2 hA hρ
      unfold Q4w
      all_goals (refine Q0 ?_; refine Q0 ?_; refine Q1 ?_; refine zm ?_; refine zf0 ?_; refine zl hS ?_; refine zL ?_; refine Q1h rfl rfl ?_; refine zn ?_)
      refine Q1g rfl (fun hc => ?_) (fun hc => ?_)
      · skip
        all_goals (refine zsk ?_; refine Q0 ?_; refine Qh ?_; refine Q0 ?_; refine Q1 ?_; refine zf0 ?_; refine zl hS ?_; refine zm ?_; refine zi ?_; intro b3 o3 cs3 x3 hat3 hx3 he3; obtain ⟨vr3, va3, rfl, hr3, ha3⟩ := Q2T he3; (first | refine zf0 ?_ | refine zfd ?_); (first | (refine zl hS ?_) | (refine zlk hS ?_) | (refine zlj hS ?_)); refine zL ?_)
        all_goals (first | (refine QQ ?_) | (refine Q1c ?_) | (refine Qo rfl rfl (fun hc => ?_) (fun hc => ?_)))
        all_goals (refine zm ?_; (first | refine zgn ?_ | (refine zgy ?_; refine zf0 ?_)); (first | refine zgn ?_ | (refine zgy ?_; refine zl hS ?_)); (first | refine zgn ?_ | (refine zgy ?_; refine zm ?_)); (first | (refine zgn ?_) | (refine zgy ?_; refine Qk5 vw rfl (by assumption) rfl (by omega) ?_; intro b4 o4 cs4 x4 hat4 hx4 he4; rw [hx3] at hx4; obtain rfl : x3 = x4 := Option.some.inj hx4; obtain ⟨vr4, va4, rfl, hr4, ha4⟩ := Q2T he4)); (first | refine zgn ?_ | (refine zgy ?_; (first | refine zf0 ?_ | refine zfd ?_))); (first | refine zgn ?_ | (refine zgy ?_; (first | (refine zl hS ?_) | (refine zlk hS ?_) | (refine zlj hS ?_)))); (first | refine zgn ?_ | (refine zgy ?_; refine zL ?_)))
        all_goals (first | refine zgn ?_ | (refine zgy ?_; (first | (refine QQ ?_) | (refine Q1c ?_) | (refine Qo rfl rfl (fun hc => ?_) (fun hc => ?_)))))
        all_goals ((first | (refine zpt ?_) | (refine zpf ?_)); refine zn ?_)
        all_goals
          first
          | (refine zct ?_ -- QV c6
             all_goals (refine Q0 ?_; refine Q1 ?_; refine zm ?_; refine zn ?_; refine zr ?_; refine zf ?_)
             all_goals (exact ⟨_, rfl, true, rfl, fun h => Bool.noConfusion h, hS.sp⟩))
          | (refine zcf ?_ -- QV c6
             all_goals refine zsk ?_)
        all_goals (refine Q1 ?_; refine zm ?_; refine zad ?_; refine zm ?_; refine zn ?_; exact ⟨⟨k + 1, zh, zh, (by omega), (by omega), by assumption, by assumption, Qe8 hd2 hx3 ⟨by omega, by omega⟩, hS.sp⟩, Q1j (by omega)⟩)
      · skip
        all_goals (refine zex ?_; refine Q1 ?_; refine zm ?_; refine zad ?_; refine zm ?_; refine zn ?_; exact ⟨⟨i + 1, zh, zh, (by omega), (by omega), by assumption, by assumption, Qe8 hd1 hx2 ⟨hg3, by omega, Qe7 hd2 (by omega), hfin⟩, hS.sp⟩, Q1j (by omega)⟩)
    · skip
      all_goals (refine zex ?_; refine Q1 ?_; refine zm ?_; refine zad ?_; refine zm ?_; refine zn ?_; exact ⟨⟨j + 1, zh, zh, (by omega), (by omega), Qe8 hd hx1 ⟨hg1, hg2, by omega, Qe7 hd1 (by omega)⟩, hS.sp⟩, Q1j (by omega)⟩)
  · skip
    all_goals (refine zex ?_; refine Q0 ?_; refine Q1 ?_; refine zm ?_; refine zn ?_; refine zr ?_; refine zf ?_)
    all_goals (first | (exact ⟨_, rfl, true, rfl, fun h => Bool.noConfusion h, hS.sp⟩) | (have h1 : l.length ≤ 20 := (by omega); exact ⟨_, rfl, false, rfl, fun _ => ⟨h1, Qe7 (l := l) hd (by omega)⟩, hS.sp⟩))
end Go.Proofs.Yteflkifmgnpbhaa
namespace Go.Proofs.Yteflkifmgnpbhaa
open Go.Lir
set_option maxHeartbeats 1000000
attribute [local irreducible] LC.wp Q2 Qy QD retQ Q1n LO.wp Ql Calls
set_option linter.unusedSimpArgs false
set_option linter.unusedVariables false
variable {cx : Cx} {w : World} {L : List Res} {m : Module} {inp : List Int}
theorem QhA {l m : List Int} {v v2 : Value} (hl : intR.sl cx v l) (hm : intR.sl cx v2 m) (hS : St cx w L) : Rets Try.prog Q2Q [v, v2] w fun u w' => u = .bool (decide (l = m)) ∧ St cx w' L := by
  have hlen := hl.len
  all_goals refine QgI ?_
  all_goals (unfold R_SameLongs_lc; refine Q0 ?_; refine Q1 ?_; refine zm ?_; refine zn ?_; refine Q0 ?_; refine Q0 ?_; refine Q1 ?_; refine zm ?_; refine zL ?_; refine zm ?_; refine zL ?_)
  all_goals (first | (refine Q1o ?_) | (refine Q1B ?_) | (refine Q1b rfl rfl (fun hc => ?_) (fun hc => ?_)))
  all_goals (refine zn ?_)
  all_goals
    first
    | (refine zct ?_ -- Q2Q c0
       all_goals (refine Q0 ?_; refine Q1 ?_; refine zm ?_; refine zn ?_; refine zr ?_; refine zf ?_)
       all_goals (refine ⟨_, rfl, ?_, hS.sp⟩; rw [decide_eq_false]; exact fun e => absurd (congrArg List.length e) (by omega); done))
    | (refine zcf ?_ -- Q2Q c0
       all_goals refine zsk ?_)
  all_goals (refine Q0 ?_; refine Q0 ?_; refine Q1 ?_; refine zm ?_; refine zn ?_; refine Qh ?_)
  refine zoL hS [0, 1] (fun A LL ρ' w' => ∃ (j : Nat), Has ρ' A ∧ Has ρ' [(5, .int .i64 j)] ∧ (j ≤ l.length) ∧ (l.length = m.length) ∧ (l = m ↔ l.drop j = m.drop j) ∧ St cx w' (LL)) (fun ρ' _ => (l.length - iv (ρ' 5)).toNat) ?_ ?_
  · exact ⟨0, zh, zh, (by omega), (by omega), by simp, hS.sp⟩
  rintro ρ w1 ⟨j, hA, hρ, hj, hlm, hd, hS⟩; obtain ⟨ρ, rfl⟩ := env2 hA hρ
  unfold Q9c
  all_goals (refine Q0 ?_; refine Q0 ?_; refine Q1 ?_; refine zm ?_; refine zm ?_; refine zL ?_; refine Q1h rfl rfl ?_; refine zn ?_)
  refine Q1g rfl (fun hc => ?_) (fun hc => ?_)
  · skip
    all_goals (refine zsk ?_; refine Q0 ?_; refine Qh ?_; refine Q0 ?_; refine zD [(0, none), (1, none), (2, none), (3, none), (4, none), (5, none), (6, none), (7, none), (8, some none)] ?_; have hS := hS.drew; refine zm ?_; refine zm ?_; refine zi ?_; intro b1 o1 cs1 x1 hat1 hx1 he1; obtain rfl := Q4I he1; (first | (refine zl hS ?_) | (refine zlk hS ?_)); refine zm ?_; refine zm ?_; refine zi ?_; intro b2 o2 cs2 x2 hat2 hx2 he2; obtain rfl := Q4I he2; (first | (refine zl hS ?_) | (refine zlk hS ?_)))
    all_goals (first | (refine Q1o ?_) | (refine Q1B ?_) | (refine Q1b rfl rfl (fun hc => ?_) (fun hc => ?_)))
    all_goals (refine zn ?_)
    all_goals
      first
      | (refine zct ?_ -- Q2Q c2
         all_goals (refine Q0 ?_; refine Q1 ?_; refine zm ?_; refine zn ?_; refine zr ?_; refine zf ?_)
         all_goals (first | (refine ⟨_, rfl, ?_, hS.sp⟩; rw [decide_eq_false]; exact fun e => absurd (congrArg List.length e) (by omega); done) | (refine ⟨_, rfl, ?_, hS.sp⟩; rw [decide_eq_false]; rw [hd, Qj hx1, Qj hx2]; simp [*]; done)))
      | (refine zcf ?_ -- Q2Q c2
         all_goals refine zsk ?_)
    all_goals (refine Q1 ?_; refine zm ?_; refine zad ?_; refine zm ?_; refine zn ?_; exact ⟨⟨j + 1, zh, zh, (by omega), (by omega), by rw [hd, Qj hx1, Qj hx2, show x1 = x2 by omega]; simp, hS.sp⟩, Q1j (by omega)⟩)
  · skip
    all_goals (refine zex ?_; refine Q0 ?_; refine Q1 ?_; refine zm ?_; refine zn ?_; refine zr ?_; refine zf ?_; (first | (refine ⟨_, rfl, ?_, hS.sp⟩; rw [decide_eq_false]; exact fun e => absurd (congrArg List.length e) (by omega); done) | (refine ⟨_, rfl, ?_, hS.sp⟩; rw [decide_eq_false]; rw [hd, Qj hx1, Qj hx2]; simp [*]; done) | (refine ⟨_, rfl, ?_, hS.sp⟩; rw [decide_eq_true]; rw [hd, List.drop_of_length_le (by omega), List.drop_of_length_le (by omega)]; done)))
theorem QiA {e e2 f f2 : Int} {xs ys xs2 ys2 : List Int} {v1 v2 v3 v4 : Value} (h1 : intR.sl cx v1 xs) (h2 : intR.sl cx v2 ys) (h3 : intR.sl cx v3 xs2) (h4 : intR.sl cx v4 ys2) (hS : St cx w L) :
    Rets Try.prog QaL [.agg ⟨[.int .i64 e, v1, v2, .int .i64 f]⟩, .agg ⟨[.int .i64 e2, v3, v4, .int .i64 f2]⟩] w fun u w' => u = .bool (decide (e = e2 ∧ xs = xs2 ∧ ys = ys2 ∧ f = f2)) ∧ St cx w' L := by
  all_goals refine QdB ?_
  all_goals (unfold R_SameOutcome_lc; refine Q0 ?_; refine Q1 ?_; refine zb hS ?_; intro p2 w1 hS; refine zb hS ?_; intro p3 w1 hS; refine zm ?_; refine zn ?_; refine Q0 ?_; refine Q1 ?_; refine zf0 ?_; refine zl hS ?_; refine zf0 ?_; refine zl hS ?_)
  all_goals (first | (refine Qx ?_) | (refine QE ?_) | (refine Qb rfl rfl (fun hc => ?_) (fun hc => ?_)))
  all_goals (refine zm ?_; (first | refine zgn ?_ | (refine zgy ?_; refine zf0 ?_)); (first | refine zgn ?_ | (refine zgy ?_; refine zl hS ?_)); (first | refine zgn ?_ | (refine zgy ?_; refine zf0 ?_)); (first | refine zgn ?_ | (refine zgy ?_; refine zl hS ?_)))
  all_goals ((first | (refine zgn ?_) | (refine zgy ?_; refine zR2 (c := QhA h1 h3 hS) (h := ?_); rintro v1 w1 ⟨rfl, hS⟩; (cases hdec : decide (xs = xs2)); have hg := of_decide_eq_false hdec; rotate_left; have hg := of_decide_eq_true hdec; all_goals skip)))
  all_goals ((first | (refine zpt ?_) | (refine zpf ?_)); refine zm ?_; (first | refine zgn ?_ | (refine zgy ?_; refine zf0 ?_)); (first | refine zgn ?_ | (refine zgy ?_; refine zl hS ?_)); (first | refine zgn ?_ | (refine zgy ?_; refine zf0 ?_)); (first | refine zgn ?_ | (refine zgy ?_; refine zl hS ?_)))
  all_goals ((first | (refine zgn ?_) | (refine zgy ?_; refine zR2 (c := QhA h2 h4 hS) (h := ?_); rintro v1 w1 ⟨rfl, hS⟩; (cases hdec : decide (ys = ys2)); have hg := of_decide_eq_false hdec; rotate_left; have hg := of_decide_eq_true hdec; all_goals skip)))
  all_goals ((first | (refine zpt ?_) | (refine zpf ?_)); refine zm ?_; (first | refine zgn ?_ | (refine zgy ?_; refine zf0 ?_)); (first | refine zgn ?_ | (refine zgy ?_; refine zl hS ?_)); (first | refine zgn ?_ | (refine zgy ?_; refine zf0 ?_)); (first | refine zgn ?_ | (refine zgy ?_; refine zl hS ?_)))
  all_goals (first | refine zgn ?_ | (refine zgy ?_; (first | (refine Qx ?_) | (refine QE ?_) | (refine Qb rfl rfl (fun hc => ?_) (fun hc => ?_)))))
  all_goals ((first | (refine zpt ?_) | (refine zpf ?_)); refine zm ?_; refine zn ?_; refine zr ?_; refine zf ?_; refine ⟨_, rfl, ?_, hS.sp⟩; (simp [*]); done)
theorem rstart_c {v : Value} {fuel pages : Int} (hi : intR.sl cx v inp) (hS : St cx w L) : Rets Try.prog Q3W [v, .int .i64 fuel, .int .i64 pages] w fun u w' => ∃ f : Flt, u = fltV f ∧ (f.1 = 0 → ¬ (200 < inp.length ∨ fuel < 0 ∨ 20000 < fuel ∨ pages < 0 ∨ 64 < pages)) ∧ St cx w' L := by
  have hil := hi.len
  all_goals refine QfK ?_
  all_goals (unfold R_StartFault_lc; refine Q0 ?_; refine Q1 ?_; refine Q8 hS ?_; intro p6 w1 hS; refine zn ?_; refine Q0 ?_; refine Q0 ?_; refine Q1 ?_; refine zm ?_; refine zL ?_)
  all_goals (first | (refine QQ ?_) | (refine Q1c ?_) | (refine Qo rfl rfl (fun hc => ?_) (fun hc => ?_)))
  all_goals (refine zm ?_; (first | refine zgn ?_ | (refine zgy ?_; refine zm ?_)))
  all_goals (first | refine zgn ?_ | (refine zgy ?_; (first | (refine Q1G ?_) | (refine Q1N ?_) | (refine QJ rfl rfl (fun hc => ?_) (fun hc => ?_)))))
  all_goals ((first | (refine zpt ?_) | (refine zpf ?_)); refine zm ?_; (first | refine zgn ?_ | (refine zgy ?_; refine zm ?_)))
  all_goals (first | refine zgn ?_ | (refine zgy ?_; (first | (refine QQ ?_) | (refine Q1c ?_) | (refine Qo rfl rfl (fun hc => ?_) (fun hc => ?_)))))
  all_goals ((first | (refine zpt ?_) | (refine zpf ?_)); refine zm ?_; (first | refine zgn ?_ | (refine zgy ?_; refine zm ?_)))
  all_goals (first | refine zgn ?_ | (refine zgy ?_; (first | (refine Q1G ?_) | (refine Q1N ?_) | (refine QJ rfl rfl (fun hc => ?_) (fun hc => ?_)))))
  all_goals ((first | (refine zpt ?_) | (refine zpf ?_)); refine zm ?_; (first | refine zgn ?_ | (refine zgy ?_; refine zm ?_)))
  all_goals (first | refine zgn ?_ | (refine zgy ?_; (first | (refine QQ ?_) | (refine Q1c ?_) | (refine Qo rfl rfl (fun hc => ?_) (fun hc => ?_)))))
  all_goals ((first | (refine zpt ?_) | (refine zpf ?_)); refine zn ?_)
  all_goals
    first
    | (refine zct ?_ -- Q3W c0
       all_goals (refine Q0 ?_; refine Q1 ?_; refine zR2 (c := rF_c hS) (h := ?_); rintro v1 w1 ⟨rfl, hS⟩; refine zsn hS ?_; intro w1 hS; have hS := hS.ns; refine zn ?_; refine zr ?_; refine Q2W vw (Qg (n := 2) (by kernel_rfl) (by kernel_rfl) (hS.blkAt fd) (by rfl) (by rfl)) ?_)
       all_goals ((first | exact ⟨_, rfl, (0, 0), rfl, (fun _ => by omega), hS.sp⟩ | exact ⟨_, rfl, (1, -1), rfl, (fun h => absurd h (by decide)), hS.sp⟩)))
    | (refine zcf ?_ -- Q3W c0
       all_goals refine zsk ?_)
  all_goals (refine Q0 ?_; refine Q1 ?_; refine zb0 [_, _] ?_; refine zsn hS ?_; intro w1 hS; have hS := hS.ns; refine zn ?_; refine zr ?_; refine Q2W vw (Qg (n := 2) (by kernel_rfl) (by kernel_rfl) (hS.blkAt fd) (by rfl) (by rfl)) ?_)
  all_goals (exact ⟨_, rfl, (0, 0), rfl, (fun _ => by omega), hS.sp⟩)
theorem long_c {fuel : Int} {cs : List Value} (hx : modR.at cx cs m) (hS : St cx w L) : Rets Try.prog QlA [.agg ⟨cs⟩, .int .i64 fuel] w fun u w' => ∃ b, u = .bool b ∧ (b = false → m.Few ∧ fuel ≤ 3000) ∧ St cx w' L := by
  have hx' := hx
  obtain ⟨vf, rfl, hf⟩ := Q2e hx
  all_goals refine QkZ ?_
  all_goals (unfold Law_long_lc; refine Q0 ?_; refine Q1 ?_; refine zb hS ?_; intro p2 w1 hS; refine zm ?_; refine zn ?_; refine Q0 ?_; refine Q1 ?_; refine zv hS ?_)
  all_goals (refine zR1 (c := QlV hx' hS) (h := ?_); rintro v1 w1 ⟨b, rfl, hb, hS⟩; cases b)
  all_goals (refine zm ?_; (first | refine zgn ?_ | (refine zgy ?_; refine zm ?_)))
  all_goals (first | refine zgn ?_ | (refine zgy ?_; (first | (refine QQ ?_) | (refine Q1c ?_) | (refine Qo rfl rfl (fun hc => ?_) (fun hc => ?_)))))
  all_goals ((first | (refine zpt ?_) | (refine zpf ?_)); refine zm ?_; refine zn ?_; refine zr ?_; refine zf ?_)
  all_goals ((first | exact ⟨_, rfl, true, rfl, (fun h => by cases h), hS.sp⟩ | exact ⟨_, rfl, _, rfl, (fun h9 => ⟨hb rfl, by first | omega | (have := of_decide_eq_false h9; omega)⟩), hS.sp⟩))
end Go.Proofs.Yteflkifmgnpbhaa
namespace Go.Proofs.Yteflkifmgnpbhaa
open Go.Lir
set_option maxHeartbeats 1000000
attribute [local irreducible] LC.wp Q2 Qy QD retQ Q1n LO.wp Ql Calls
set_option linter.unusedSimpArgs false
set_option linter.unusedVariables false
variable {cx : Cx} {w : World} {L : List Res} {i : Nat}
def toZ : To := ⟨0, [], []⟩
def fiveM : Module := ⟨[⟨0, [], [.mk 1 0 []], [⟨0, [], [⟨1, 0, 0, 0, 0, 5, [], []⟩], ⟨3, 0, toZ, toZ, [0]⟩⟩]⟩]⟩
def freeM : Module := ⟨[⟨0, [], [], [⟨0, [], [⟨3, 0, 0, 0, 0, 0, [], []⟩, ⟨1, 0, 0, 0, 0, 1, [], []⟩, ⟨4, 0, 0, 0, 0, 0, [], []⟩, ⟨4, 0, 0, 0, 0, 0, [], []⟩], ⟨3, 0, toZ, toZ, []⟩⟩]⟩]⟩
theorem QlY : Q2k fiveM [] 9 0 = (0, 0) := by decide
theorem QlW : Q2k freeM [] 9 0 = (0, 0) := by decide
theorem five_oc : (Run.all fiveM [] 9 0).oc = ⟨0, [5], [], 2⟩ := by rfl
theorem five_flt : (Run.all fiveM [] 9 0).flt = (0, 0) := by rfl
theorem free_flt : (Run.all freeM [] 9 0).flt = (20, 3) := by rfl
theorem QlZ : fiveM.Short := by
  refine ⟨by decide, fun f hf => ?_⟩
  simp [fiveM] at hf; subst hf
  refine ⟨⟨by decide, by simp⟩, ⟨by decide, fun t ht => ?_⟩, by decide, fun b hb => ?_⟩
  · simp at ht; subst ht; exact .mk (by decide) (by simp)
  · simp at hb; subst hb
    refine ⟨⟨by decide, by simp⟩, by decide, fun i hi => ?_, ⟨by decide, by decide⟩, ⟨by decide, by decide⟩, by decide⟩
    simp at hi; subst hi; exact ⟨by decide, by decide⟩
theorem QlX : freeM.Short := by
  refine ⟨by decide, fun f hf => ?_⟩
  simp [freeM] at hf; subst hf
  refine ⟨⟨by decide, by simp⟩, ⟨by decide, by simp⟩, by decide, fun b hb => ?_⟩
  simp at hb; subst hb
  refine ⟨⟨by decide, by simp⟩, by decide, fun i hi => ?_, ⟨by decide, by decide⟩, ⟨by decide, by decide⟩, by decide⟩
  simp at hi; rcases hi with rfl | rfl | rfl <;> exact ⟨by decide, by decide⟩
theorem five_c (hS : St cx w L) : Rets Try.prog QlB [] w fun u w' => ∃ c' vf, cx.Le c' ∧ u = .agg ⟨[vf]⟩ ∧ modR.at c' [vf] fiveM ∧ St c' w' L := by
  have n0 : ∀ c : Cx, tyR.sl c (.slice none 0 0) [] := fun c => Rep.SR.nil _ _ _
  have n1 : ∀ c : Cx, intR.sl c (.slice none 0 0) [] := fun c => Rep.SR.nil _ _ _
  all_goals refine Ql6 ?_
  all_goals (unfold Law_five_lc; refine Q0 ?_; refine Q1 ?_; refine Q8 hS ?_; intro p0 w1 hS; refine zn ?_; refine Q0 ?_; refine Q1 ?_; refine zR0 (c := QmX hS) (h := ?_); rintro v1 w1 ⟨la, lb, rfl, hS⟩; simp only [Q4c] at hS; refine Q8 hS ?_; intro p1 w1 hS; refine zsn hS ?_; intro w1 hS; have hS := hS.ns; refine zn ?_; refine Q0 ?_; refine Q1 ?_; refine zf0 ?_; refine zl hS ?_; refine zb1 [_, _, _] ?_; refine Q3v (cs := [_, _, _]) vw (by rfl) ?_; intro q1 w1 hb1 hf1 _ hk1; have hS := hS.laid hb1 hf1 hk1; refine Qhw rfl rfl (by decide) (by decide) ?_; refine zf0 ?_; refine zst hS ?_; intro w1 hS; have hS := hS.ns; refine zn ?_; refine Q0 ?_; refine Q1 ?_; refine zf0 ?_; refine zl hS ?_; refine Qhw rfl rfl (by decide) (by decide) ?_; refine zf0 ?_; refine zl hS ?_; refine zb2 [_, _, _, _, _, _, _, _] ?_; refine Q3v (cs := [_, _, _, _, _, _, _, _]) vw (by rfl) ?_; intro q2 w1 hb1 hf1 _ hk1; have hS := hS.laid hb1 hf1 hk1; refine Qhw rfl rfl (by decide) (by decide) ?_; refine zf0 ?_; refine zst hS ?_; intro w1 hS; have hS := hS.ns)
  all_goals (refine zn ?_; refine Q0 ?_; refine Q1 ?_; refine zf0 ?_; refine zl hS ?_; refine Qhw rfl rfl (by decide) (by decide) ?_; refine zf0 ?_; refine zl hS ?_; refine Q3v (cs := [_]) vw (by rfl) ?_; intro q3 w1 hb1 hf1 _ hk1; have hS := hS.laid hb1 hf1 hk1; refine Qhw rfl rfl (by decide) (by decide) ?_; refine zf0 ?_; (first | refine zf0 ?_ | refine zfd ?_); refine zst hS ?_; intro w1 hS; have hS := hS.ns; refine zn ?_; refine Q0 ?_; refine Q1 ?_; refine zv hS ?_; refine zsn hS ?_; intro w1 hS; have hS := hS.ns; refine zn ?_; refine zr ?_; refine Q2W vw (Qg (n := 1) (by kernel_rfl) (by kernel_rfl) (hS.blkAt fd) (by rfl) (by rfl)) ?_; have hS : St cx _ (blk q1 62 [.int .i64 1, .int .i64 0, .slice none 0 0] :: blk q2 42 [.int .i64 1, .int .i64 0, .int .i64 0, .int .i64 0, .int .i64 0, .int .i64 5, .slice none 0 0, .slice none 0 0] :: blk q3 3 [.int .i64 0] :: blk lb 50 [.int .i64 0, .slice none 0 0, .slice (some ⟨q2, 0, none⟩) 1 1, .int .i64 3, .int .i64 0, .int .i64 0, .slice none 0 0, .slice none 0 0, .int .i64 0, .slice none 0 0, .slice none 0 0, .slice (some ⟨q3, 0, none⟩) 1 1] :: blk la 53 [.int .i64 0, .slice none 0 0, .slice (some ⟨q1, 0, none⟩) 1 1, .slice (some ⟨lb, 0, none⟩) 1 1] :: L) := hS.sp; obtain ⟨c1, hle1, hS, h1⟩ := St.freeze1 (r := tyR) (x := .mk 1 0 []) hS (tyR_mk (n0 _)); obtain ⟨c2, hle2, hS, h2⟩ := St.freeze1 (r := insR) (x := ⟨1, 0, 0, 0, 0, 5, [], []⟩) hS ⟨_, _, rfl, n1 _, n1 _⟩; obtain ⟨c3, hle3, hS, h3⟩ := St.freeze1 (r := intR) (x := 0) hS rfl; obtain ⟨c4, hle4, hS, h4⟩ := St.freeze1 (r := blockR) (x := ⟨0, [], [⟨1, 0, 0, 0, 0, 5, [], []⟩], ⟨3, 0, toZ, toZ, [0]⟩⟩) hS (Qfm (x := ⟨0, [], [⟨1, 0, 0, 0, 0, 5, [], []⟩], ⟨3, 0, toZ, toZ, [0]⟩⟩) (n0 _) (Rep.SR.up h2 hle3) (n1 _) (n1 _) (n1 _) (n1 _) h3); obtain ⟨c5, hle5, hS, h5⟩ := St.freeze1 (r := funcR) (x := ⟨0, [], [.mk 1 0 []], [⟨0, [], [⟨1, 0, 0, 0, 0, 5, [], []⟩], ⟨3, 0, toZ, toZ, [0]⟩⟩]⟩) hS ⟨_, _, _, rfl, n0 _, Rep.SR.up h1 (hle2.trans (hle3.trans hle4)), h4⟩; exact ⟨_, rfl, c5, _, hle1.trans (hle2.trans (hle3.trans (hle4.trans hle5))), rfl, ⟨_, rfl, h5⟩, hS⟩)
theorem RunS.ok {m : Module} {inp : List Int} {fuel pages : Int} {u : Value} (hz : Q2k m inp fuel pages = (0, 0)) (hs : RunS m inp fuel pages cx L u w) : ∃ c' v1 v2, cx.Le c' ∧ u = .tuple #[ocV (Run.all m inp fuel.toNat pages).oc v1 v2, fltV (Run.all m inp fuel.toNat pages).flt] ∧ intR.sl c' v1 (Run.all m inp fuel.toNat pages).oc.back ∧ intR.sl c' v2 (Run.all m inp fuel.toNat pages).oc.out ∧ St c' w L := by
  rcases hs with ⟨h1, _⟩ | ⟨_, h1⟩
  · rw [hz] at h1; exact absurd rfl h1
  · exact h1
theorem fiver_c {vf : Value} (hx : modR.at cx [vf] fiveM) (hS : St cx w L) : Rets Try.prog Q2d [.agg ⟨[vf]⟩, .slice none 0 0, .int .i64 9, .int .i64 0] w fun u w' => ∃ c' u1 u2, cx.Le c' ∧ u = .tuple #[.agg ⟨[.int .i64 0, u1, u2, .int .i64 2]⟩, .agg ⟨[.int .i64 0, .int .i64 0]⟩] ∧ intR.sl c' u1 [5] ∧ intR.sl c' u2 [] ∧ St c' w' L := by
  refine (run_c (m := fiveM) (inp := []) QlZ hx (Rep.SR.nil _ _ _) hS).mono fun u w' hs => ?_
  obtain ⟨c', v1, v2, h1, h2, h3, h4, h5⟩ := RunS.ok QlY hs
  rw [show (9 : Int).toNat = 9 from rfl, five_oc] at h2 h3 h4
  rw [five_flt] at h2
  exact ⟨c', v1, v2, h1, h2, h3, h4, h5⟩
theorem freer_c {vf : Value} (hx : modR.at cx [vf] freeM) (hS : St cx w L) : Rets Try.prog Q2d [.agg ⟨[vf]⟩, .slice none 0 0, .int .i64 9, .int .i64 0] w fun u w' => ∃ c' a1 x1 y1 a2 x2 y2 e f, cx.Le c' ∧ u = .tuple #[.agg ⟨[.int .i64 e, .slice a1 x1 y1, .slice a2 x2 y2, .int .i64 f]⟩, .agg ⟨[.int .i64 20, .int .i64 3]⟩] ∧ St c' w' L := by
  refine (run_c (m := freeM) (inp := []) QlX hx (Rep.SR.nil _ _ _) hS).mono fun u w' hs => ?_
  obtain ⟨c', v1, v2, h1, h2, h3, h4, h5⟩ := RunS.ok QlW hs
  rw [show (9 : Int).toNat = 9 from rfl, free_flt] at h2
  obtain ⟨a1, y1, rfl⟩ := Rep.SR.shape h3
  obtain ⟨a2, y2, rfl⟩ := Rep.SR.shape h4
  exact ⟨c', _, _, _, _, _, _, _, _, h1, h2, h5⟩
theorem Qj8 (hS : St cx w L) : Rets Try.prog Q9d [] w fun u w' => u = .bool true ∧ St cx w' L := by
  have n0 : ∀ c : Cx, tyR.sl c (.slice none 0 0) [] := fun c => Rep.SR.nil _ _ _
  have n1 : ∀ c : Cx, intR.sl c (.slice none 0 0) [] := fun c => Rep.SR.nil _ _ _
  all_goals refine Qcg ?_
  all_goals (unfold Law_idealBegun_lc; refine Q0 ?_; refine Q1 ?_; refine zm ?_; refine zn ?_; refine Q0 ?_; refine Q1 ?_; refine zR0 (c := five_c hS) (h := ?_); rintro v1 w1 ⟨c1, vf, hle1, rfl, hx1, hS⟩; refine zR4 (c := fiver_c hx1 hS) (h := ?_); rintro v1 w1 ⟨c2, u1, u2, hle2, rfl, k1, k2, hS⟩; obtain ⟨a1, m1, rfl⟩ := Rep.SR.shape k1; obtain ⟨a2, m2, rfl⟩ := Rep.SR.shape k2; refine zm ?_; refine zxt ?_; refine zxt ?_; refine Q8 hS ?_; intro p1 w1 hS; refine Q8 hS ?_; intro p2 w1 hS; refine zsn hS ?_; intro w1 hS; have hS := hS.ns; refine zsn hS ?_; intro w1 hS; have hS := hS.ns; refine zn ?_; refine Q0 ?_; refine Q1 ?_; refine zR0 (c := QmX hS) (h := ?_); rintro v1 w1 ⟨la, lb, rfl, hS⟩; simp only [Q4c] at hS; refine Q8 hS ?_; intro p3 w1 hS; refine zsn hS ?_; intro w1 hS; have hS := hS.ns; refine zn ?_; refine Q0 ?_; refine Q1 ?_; refine zf0 ?_; refine zl hS ?_; refine Qhw rfl rfl (by decide) (by decide) ?_; refine zf0 ?_; refine zl hS ?_; refine zb1 [_, _, _, _, _, _, _, _] ?_; refine zb2 [_, _, _, _, _, _, _, _] ?_; refine zb1 [_, _, _, _, _, _, _, _] ?_)
  all_goals (refine zb1 [_, _, _, _, _, _, _, _] ?_; refine zB4 hS [_, _, _, _, _, _, _, _, _, _, _, _, _, _, _, _, _, _, _, _, _, _, _, _, _, _, _, _, _, _, _, _] ?_; intro cb w1 hS; refine Qhw rfl rfl (by decide) (by decide) ?_; refine zf0 ?_; refine zst hS ?_; intro w1 hS; have hS := hS.ns; refine zn ?_; refine Q0 ?_; refine Q1 ?_; refine zv hS ?_; have hS : St c2 _ (blk cb 42 [.int .i64 3, .int .i64 0, .int .i64 0, .int .i64 0, .int .i64 0, .int .i64 0, .slice none 0 0, .slice none 0 0, .int .i64 1, .int .i64 0, .int .i64 0, .int .i64 0, .int .i64 0, .int .i64 1, .slice none 0 0, .slice none 0 0, .int .i64 4, .int .i64 0, .int .i64 0, .int .i64 0, .int .i64 0, .int .i64 0, .slice none 0 0, .slice none 0 0, .int .i64 4, .int .i64 0, .int .i64 0, .int .i64 0, .int .i64 0, .int .i64 0, .slice none 0 0, .slice none 0 0] :: blk la 53 [.int .i64 0, .slice none 0 0, .slice none 0 0, .slice (some ⟨lb, 0, none⟩) 1 1] :: blk lb 50 (Q4c (.slice (some ⟨cb, 0, none⟩) 4 4)) :: blk p1 33 [.int .i64 0, .slice a1 [5].length m1, .slice a2 ([] : List Int).length m2, .int .i64 2] :: blk p2 29 [.int .i64 0, .int .i64 0] :: blk p3 24 [.slice (some ⟨la, 0, none⟩) 1 1] :: L) := hS.sp; have hS := St.slOf (es := 8) (css := [[.int .i64 3, .int .i64 0, .int .i64 0, .int .i64 0, .int .i64 0, .int .i64 0, .slice none 0 0, .slice none 0 0], [.int .i64 1, .int .i64 0, .int .i64 0, .int .i64 0, .int .i64 0, .int .i64 1, .slice none 0 0, .slice none 0 0], [.int .i64 4, .int .i64 0, .int .i64 0, .int .i64 0, .int .i64 0, .int .i64 0, .slice none 0 0, .slice none 0 0], [.int .i64 4, .int .i64 0, .int .i64 0, .int .i64 0, .int .i64 0, .int .i64 0, .slice none 0 0, .slice none 0 0]]) hS rfl (by simp) rfl; obtain ⟨c3, hle3, hS, hk⟩ := St.freezeL (r := insR) (l := [⟨3, 0, 0, 0, 0, 0, [], []⟩, ⟨1, 0, 0, 0, 0, 1, [], []⟩, ⟨4, 0, 0, 0, 0, 0, [], []⟩, ⟨4, 0, 0, 0, 0, 0, [], []⟩]) hS ((((((Rep.LR.nil insR _ _).push ⟨_, _, rfl, n1 _, n1 _⟩).push ⟨_, _, rfl, n1 _, n1 _⟩).push ⟨_, _, rfl, n1 _, n1 _⟩).push ⟨_, _, rfl, n1 _, n1 _⟩)) rfl (by decide); obtain ⟨c4, hle4, hS, hm2⟩ := least_fz hk hS; refine zR4 (c := freer_c hm2 hS) (h := ?_); rintro v1 w1 ⟨c5, a3, x3, y3, a4, x4, y4, e5, f5, hle5, rfl, hS⟩)
  all_goals (refine zm ?_; refine zxt ?_; refine zxt ?_; refine Q8 hS ?_; intro p4 w1 hS; refine Q8 hS ?_; intro p5 w1 hS; refine zsn hS ?_; intro w1 hS; have hS := hS.ns; refine zsn hS ?_; intro w1 hS; have hS := hS.ns; refine zn ?_; refine Q0 ?_; refine Q1 ?_; refine zf0 ?_; refine zl hS ?_)
  all_goals (refine Qx ?_)
  all_goals (refine zm ?_; (first | refine zgn ?_ | (refine zgy ?_; refine zv hS ?_)); (first | (refine zgn ?_) | (refine zgy ?_; refine Q3v (cs := [_]) vw (by rfl) ?_; intro q3 w1 hb1 hf1 _ hk1; have hS := hS.laid hb1 hf1 hk1)); (first | refine zgn ?_ | (refine zgy ?_; refine zb2 [_, _, _, _] ?_)); (first | (refine zgn ?_) | (refine zgy ?_; obtain ⟨c6, hle6, hS, h6⟩ := St.freeze1 (r := intR) (x := 5) hS rfl; refine zR2 (c := QiA (Rep.SR.up k1 (hle3.trans (hle4.trans (hle5.trans hle6)))) (Rep.SR.up k2 (hle3.trans (hle4.trans (hle5.trans hle6)))) h6 (n1 _) hS) (h := ?_); rintro v1 w1 ⟨rfl, hS⟩; rw [show decide ((0 : Int) = 0 ∧ [(5 : Int)] = [5] ∧ ([] : List Int) = [] ∧ (2 : Int) = 2) = true by decide])); refine zpt ?_; refine zm ?_; (first | refine zgn ?_ | (refine zgy ?_; refine zv hS ?_)); (first | refine zgn ?_ | (refine zgy ?_; refine zb2 [_, _] ?_)); (first | (refine zgn ?_) | (refine zgy ?_; refine s_eq2_t (a := (20, 3)) flt_int2 rfl rfl ?_)); refine zpt ?_; refine zm ?_; refine zn ?_; refine zr ?_; refine zf ?_; exact ⟨_, rfl, rfl, St.weak hS.sp (hle1.trans (hle2.trans (hle3.trans (hle4.trans (hle5.trans hle6)))))⟩)
end Go.Proofs.Yteflkifmgnpbhaa
namespace Go.Lir
set_option linter.unusedVariables false
section
variable {m : Module} {s s' t t' : MS} {d : Int} {x : Ins} {most most' : Nat}
/-- The same but for more pages. -/
structure Mor (d : Int) (s s' : MS) : Prop where
  hl : s'.h.l = s.h.l
  left : s'.h.left = s.h.left + d
  g : s'.g = s.g
  st : s'.st = s.st
  inp : s'.inp = s.inp
  out : s'.out = s.out
  fuel : s'.fuel = s.fuel
  d0 : 0 ≤ d
  l0 : 0 ≤ s.h.left
  pg : ∀ r ∈ s.h.l, 0 ≤ r.pages
/-- How two steps come out. -/
def MorS (d : Int) : Stp → Stp → Prop
  | .go t, r => ∃ t', r = .go t' ∧ Mor d t t'
  | .halt e, r => e = 6 ∨ r = .halt e
  | .done l, r => r = .done l
  | .lost, r => r = .lost
theorem QiG {h h' : HpS} (hl : h'.l = h.l) : (∀ k, h'.reg k = h.reg k) ∧ (∀ k, h'.has k = h.has k) ∧ h'.live = h.live ∧ (∀ v, h'.can v = h.can v) ∧ (∀ v, h'.at_ v = h.at_ v) ∧ (∀ v k, h'.get v k = h.get v k) ∧ (∀ v k x, h'.setC v k x = h.setC v k x) ∧ (∀ v, h'.len v = h.len v) := by
  obtain ⟨l, a⟩ := h
  obtain ⟨l', a'⟩ := h'
  dsimp only at hl
  subst hl
  exact ⟨fun _ => rfl, fun _ => rfl, rfl, fun _ => rfl, fun _ => rfl, fun _ _ => rfl, fun _ _ _ => rfl, fun _ => rfl⟩
theorem mem_set2 {α : Type} {l : List α} {k : Nat} {x y : α} (h : y ∈ l.set k x) : y = x ∨ y ∈ l := mem_set_or h
theorem Qey {h : HpS} (hp : ∀ r ∈ h.l, 0 ≤ r.pages) (k : Int) : 0 ≤ (h.reg k).pages := by
  unfold HpS.reg
  split
  · rw [List.getD_eq_getElem?_getD]
    cases hk : h.l[k.toNat]? with
    | none => exact Int.le_refl 0
    | some r => exact hp r (List.mem_of_getElem? hk)
  · exact Int.le_refl 0
theorem QlJ {r : Rgn} {n : Int} {t : Thg} (h : 0 ≤ r.pages) : 0 ≤ ((r.room n).push t).pages := by
  unfold Rgn.room Rgn.push
  split <;> dsimp only <;> omega
theorem Mor.put (h : Mor d s s') (vs : List Val) : Mor d (s.put vs) (s'.put vs) := by
  obtain ⟨h1, h2, h3, h4, h5, h6, h7, h8, h9, h10⟩ := h
  exact ⟨h1, h2, by show Frm.mk _ _ _ _ _ = Frm.mk _ _ _ _ _; rw [h3], h4, h5, h6, h7, h8, h9, h10⟩
theorem Mor.made (h : Mor d s s') {v : Val} {n kd : Int} {th : Thg} : MorS d (s.made (s.h.code v n) (s.h.put v n th) (s.h.putV v kd n)) (s'.made (s'.h.code v n) (s'.h.put v n th) (s'.h.putV v kd n)) := by
  obtain ⟨e1, e2, e3, e4, e5, e6, e7, e8⟩ := QiG h.hl
  have hl := h.left
  have h0 := h.l0
  have hd := h.d0
  unfold MS.made
  by_cases hc : s.h.can v = false
  · have k1 : s.h.code v n = 20 := by unfold HpS.code; rw [hc]; rfl
    have k2 : s'.h.code v n = 20 := by unfold HpS.code; rw [e4, hc]; rfl
    rw [k1, k2, if_neg (by decide), if_pos (by decide), if_neg (by decide), if_pos (by decide)]
    exact rfl
  · have hc' : (!s.h.can v) = false := by cases hx : s.h.can v with | true => rfl | false => exact absurd hx hc
    by_cases hm : (s.h.reg v.region).more n = true ∧ s.h.left = 0
    · have k1 : s.h.code v n = 14 := by unfold HpS.code; rw [hc', if_neg (by decide), if_pos hm]
      rw [k1, if_pos rfl]
      exact .inl rfl
    · have k1 : s.h.code v n = 0 := by unfold HpS.code; rw [hc', if_neg (by decide), if_neg hm]
      have k2 : s'.h.code v n = 0 := by unfold HpS.code; rw [e4, hc', if_neg (by decide), e1, if_neg (fun hh => hm ⟨hh.1, by omega⟩)]
      rw [k1, k2, if_neg (by decide), if_neg (by decide), if_neg (by decide), if_neg (by decide)]
      refine ⟨_, rfl, ?_⟩
      have p1 : s.h.putV v kd n = s'.h.putV v kd n := by unfold HpS.putV; rw [k1, k2, e1]
      rw [p1]
      refine Mor.put (s := s.hp (s.h.put v n th)) (s' := s'.hp (s'.h.put v n th)) ?_ _
      have q1 : s.h.put v n th = ⟨s.h.l.set v.region.toNat (((s.h.reg v.region).room n).push th), if (s.h.reg v.region).more n then s.h.left - 1 else s.h.left⟩ := by unfold HpS.put; rw [if_pos k1]
      have q2 : s'.h.put v n th = ⟨s'.h.l.set v.region.toNat (((s'.h.reg v.region).room n).push th), if (s'.h.reg v.region).more n then s'.h.left - 1 else s'.h.left⟩ := by unfold HpS.put; rw [if_pos k2]
      rw [q1, q2]
      unfold MS.hp
      refine ⟨?_, ?_, h.g, h.st, h.inp, h.out, h.fuel, hd, ?_, ?_⟩
      · dsimp only; rw [e1, h.hl]
      · dsimp only; rw [e1]; split <;> omega
      · dsimp only
        by_cases hmo : (s.h.reg v.region).more n = true
        · rw [if_pos hmo]; have : s.h.left ≠ 0 := fun hz => hm ⟨hmo, hz⟩; omega
        · rw [if_neg hmo]; exact h0
      · intro r hr
        rcases mem_set2 hr with rfl | hr
        · exact QlJ (Qey h.pg _)
        · exact h.pg r hr
theorem Mor.hp {h1 h1' : HpS} (h : Mor d s s') (hl : h1'.l = h1.l) (hleft : h1'.left = h1.left + d) (h0 : 0 ≤ h1.left) (hp : ∀ r ∈ h1.l, 0 ≤ r.pages) : Mor d (s.hp h1) (s'.hp h1') :=
  ⟨hl, hleft, h.g, h.st, h.inp, h.out, h.fuel, h.d0, h0, hp⟩
theorem Mor.shut (h : Mor d s s') (v : Val) : Mor d (s.hp (s.h.shut v)) (s'.hp (s'.h.shut v)) := by
  obtain ⟨e1, e2, e3, e4, e5, e6, e7, e8⟩ := QiG h.hl
  have hl := h.left
  have h0 := h.l0
  cases hc : s.h.can v with
  | false =>
    have q1 : s.h.shut v = s.h := by unfold HpS.shut; rw [hc]; rfl
    have q2 : s'.h.shut v = s'.h := by unfold HpS.shut; rw [e4, hc]; rfl
    rw [q1, q2]; exact h.hp h.hl hl h0 h.pg
  | true =>
    have q1 : s.h.shut v = ⟨s.h.l.set v.region.toNat Rgn.none, s.h.left + (s.h.reg v.region).pages⟩ := by unfold HpS.shut; rw [hc]; rfl
    have q2 : s'.h.shut v = ⟨s'.h.l.set v.region.toNat Rgn.none, s'.h.left + (s'.h.reg v.region).pages⟩ := by unfold HpS.shut; rw [e4, hc]; rfl
    have hr := Qey h.pg v.region
    rw [q1, q2]
    refine h.hp ?_ ?_ ?_ ?_
    · dsimp only; rw [h.hl]
    · dsimp only; rw [e1]; omega
    · dsimp only; omega
    · intro r hr
      rcases mem_set2 hr with rfl | hr
      · exact Int.le_refl 0
      · exact h.pg r hr
theorem Qm8 {r : Rgn} {k : Nat} {y : Thg} : (r.upd k y).pages = r.pages := rfl
theorem Mor.set (h : Mor d s s') (v : Val) (k : Int) (y : Val) : Mor d (s.hp (s.h.set v k y)) (s'.hp (s'.h.set v k y)) := by
  obtain ⟨e1, e2, e3, e4, e5, e6, e7, e8⟩ := QiG h.hl
  have hl := h.left
  have h0 := h.l0
  unfold HpS.set
  rw [e5, e7]
  split
  · exact h.hp h.hl hl h0 h.pg
  · rename_i r t hat
    split
    · refine h.hp ?_ ?_ ?_ ?_
      · dsimp only; unfold HpS.thg; rw [e1, h.hl]
      · exact hl
      · exact h0
      · intro r hr
        rcases mem_set2 hr with rfl | hr
        · rw [Qm8]; exact Qey h.pg _
        · exact h.pg r hr
    · exact h.hp h.hl hl h0 h.pg
theorem Qr {α : Type} {o : Option α} {f f' : α → Stp} (h : ∀ a, o = some a → MorS d (f a) (f' a)) : MorS d (QZ o f) (QZ o f') := by
  cases o with
  | none => exact rfl
  | some a => exact h a rfl
theorem Q2D (h : Mor d s s') : MorS d (.go s) (.go s') := ⟨s', rfl, h⟩
theorem Q1S {p : Prop} [Decidable p] {a b a' b' : Stp} (h1 : MorS d a a') (h2 : MorS d b b') : MorS d (if p then a else b) (if p then a' else b') := by
  split
  · exact h1
  · exact h2
theorem QeB {v : Val} {e : Int} {k k' : Stp} (h : MorS d k k') : MorS d (Q55 v e k) (Q55 v e k') := by
  unfold Q55
  split
  · exact rfl
  · split
    · exact .inr rfl
    · split
      · exact rfl
      · exact h
theorem Mor.fr (h : Mor d s s') (g : Frm) : Mor d (s.fr g) (s'.fr g) := ⟨h.hl, h.left, rfl, h.st, h.inp, h.out, h.fuel, h.d0, h.l0, h.pg⟩
theorem Mor.newR (h : Mor d s s') : MorS d s.newR s'.newR := by
  obtain ⟨e1, e2, e3, e4, e5, e6, e7, e8⟩ := QiG h.hl
  unfold MS.newR
  have hf : s'.h.full = s.h.full := by unfold HpS.full; rw [e3]
  rw [hf]
  split
  · exact .inl rfl
  · rename_i hn
    have q1 : s.h.open = ⟨s.h.l ++ [⟨true, [], 0, 0⟩], s.h.left⟩ := by unfold HpS.open; rw [if_neg hn]
    have q2 : s'.h.open = ⟨s'.h.l ++ [⟨true, [], 0, 0⟩], s'.h.left⟩ := by unfold HpS.open; rw [hf, if_neg hn]
    have q3 : s'.h.openV = s.h.openV := by unfold HpS.openV; rw [hf, h.hl]
    rw [q1, q2, q3]
    refine Q2D (Mor.put ?_ _)
    refine ⟨by dsimp only; rw [h.hl], h.left, by show Frm.mk _ _ _ _ _ = Frm.mk _ _ _ _ _; rw [h.g], h.st, h.inp, h.out, h.fuel, h.d0, h.l0, fun r hr => ?_⟩
    rcases List.mem_append.1 hr with hr | hr
    · exact h.pg r hr
    · rw [List.mem_singleton] at hr; subst hr; exact Int.le_refl 0
theorem Mor.inS (h : Mor d s s') : MorS d s.inS s'.inS := by
  unfold MS.inS
  rw [h.inp]
  cases s.inp with
  | nil => exact .inr rfl
  | cons n r => exact Q2D (Mor.put (s := ⟨s.h, s.g, s.st, r, s.out, s.fuel⟩) (s' := ⟨s'.h, s'.g, s'.st, r, s'.out, s'.fuel⟩) ⟨h.hl, h.left, h.g, h.st, rfl, h.out, h.fuel, h.d0, h.l0, h.pg⟩ _)
theorem Mor.outS (h : Mor d s s') (n : Int) : MorS d (s.outS n) (s'.outS n) := by
  unfold MS.outS
  rw [h.out]
  split
  · exact .inr rfl
  · exact Q2D ⟨h.hl, h.left, h.g, h.st, h.inp, rfl, h.fuel, h.d0, h.l0, h.pg⟩
theorem Mor.call (h : Mor d s s') (x : Ins) : MorS d (s.call m x) (s'.call m x) := by
  unfold MS.call
  rw [h.g, h.st]
  split
  · exact rfl
  · refine Qr fun rs _ => Qr fun vs _ => ?_
    split
    · exact rfl
    · split
      · exact .inr rfl
      · exact Q2D ⟨h.hl, h.left, rfl, rfl, h.inp, h.out, h.fuel, h.d0, h.l0, h.pg⟩
theorem Mor.ins (h : Mor d s s') (x : Ins) : MorS d (s.ins m x) (s'.ins m x) := by
  obtain ⟨e1, e2, e3, e4, e5, e6, e7, e8⟩ := QiG h.hl
  unfold MS.ins
  rw [h.g]
  refine Q1S (Q2D (h.put _)) (Q1S ?_ (Q1S h.newR (Q1S ?_ (Q1S ?_ (Q1S ?_ (Q1S ?_ (Q1S ?_ (Q1S ?_ (Q1S ?_ (Q1S ?_ (Q1S h.inS (Q1S ?_ (h.call x)))))))))))))
  · refine Qr fun a _ => Qr fun b _ => ?_
    split
    · exact .inr rfl
    · exact Q2D (h.put _)
  · refine Qr fun v _ => ?_
    rw [e4]
    split
    · exact rfl
    · exact Q2D (h.shut v)
  · exact Qr fun v _ => Qr fun l _ => h.made
  · refine Qr fun v _ => ?_
    rw [e6]
    split
    · exact rfl
    · split
      · exact rfl
      · exact Q2D (h.put _)
  · refine Qr fun v _ => ?_
    split
    · exact rfl
    · refine Qr fun y _ => ?_
      rw [e7]
      split
      · exact rfl
      · exact Q2D (h.set v _ y)
  · refine Qr fun v _ => Qr fun n _ => ?_
    split
    · exact .inr rfl
    · rename_i hn
      unfold HpS.arrC HpS.arr HpS.arrV
      rw [if_neg hn, if_neg hn, if_neg hn, if_neg hn, if_neg hn, if_neg hn]
      exact h.made
  · refine Qr fun v _ => Qr fun n _ => ?_
    rw [e6]
    exact QeB (Q2D (h.put _))
  · refine Qr fun v _ => Qr fun n _ => Qr fun c _ => ?_
    rw [e7]
    exact QeB (Q2D (h.set v n _))
  · refine Qr fun v _ => ?_
    rw [e8]
    exact QeB (Q2D (h.put _))
  · exact Qr fun n _ => h.outS n
theorem Mor.to (h : Mor d s s') (f : Fun) (t : To) : MorS d (s.to f t) (s'.to f t) := by
  unfold MS.to
  rw [h.g]
  split
  · exact rfl
  · refine Qr fun rs _ => Qr fun vs _ => ?_
    split
    · exact rfl
    · exact Q2D (h.fr _)
theorem Mor.ret (h : Mor d s s') (f : Fun) (e : Tail) : MorS d (s.ret f e) (s'.ret f e) := by
  unfold MS.ret
  rw [h.g, h.st]
  refine Qr fun vs _ => ?_
  split
  · exact rfl
  · cases s.st with
    | cons c st => exact Q2D (Mor.put (s := ⟨s.h, c, st, s.inp, s.out, s.fuel⟩) (s' := ⟨s'.h, c, st, s'.inp, s'.out, s'.fuel⟩) ⟨h.hl, h.left, rfl, rfl, h.inp, h.out, h.fuel, h.d0, h.l0, h.pg⟩ vs)
    | nil =>
      dsimp only
      split <;> exact rfl
theorem Mor.fin (h : Mor d s s') (f : Fun) (e : Tail) : MorS d (s.fin f e) (s'.fin f e) := by
  unfold MS.fin
  rw [h.g]
  split
  · exact h.to f _
  · split
    · refine Qr fun n _ => ?_
      split
      · exact h.to f _
      · exact h.to f _
    · exact h.ret f e
theorem Mor.one (h : Mor d s s') : MorS d (s.one m) (s'.one m) := by
  unfold MS.one
  rw [h.g]
  split
  · exact rfl
  · split
    · exact rfl
    · split
      · unfold MS.next; rw [h.g]; exact (h.fr _).ins _
      · exact h.fin _ _
theorem Mor.tick (h : Mor d s s') : Mor d s.tick s'.tick := ⟨h.hl, h.left, h.g, h.st, h.inp, h.out, by unfold MS.tick; dsimp only; rw [h.fuel], h.d0, h.l0, h.pg⟩
/-! ### what a step leaves -/
/-- What went out stays, and it is one step. -/
def StO (s : MS) : Stp → Prop
  | .go t => t.fuel = s.fuel ∧ ∃ mo, t.out = s.out ++ mo
  | _ => True
theorem QB {p : Prop} [Decidable p] {a b : Stp} (h1 : StO s a) (h2 : StO s b) : StO s (if p then a else b) := by
  split
  · exact h1
  · exact h2
theorem Qz {α : Type} {o : Option α} {f : α → Stp} (h : ∀ a, StO s (f a)) : StO s (QZ o f) := by
  cases o with
  | none => exact trivial
  | some a => exact h a
theorem Q3I (h1 : t.fuel = s.fuel) (h2 : t.out = s.out) : StO s (.go t) := ⟨h1, [], by rw [h2, List.append_nil]⟩
theorem Qhm {v : Val} {e : Int} {k : Stp} (h : StO s k) : StO s (Q55 v e k) := QB trivial (QB trivial (QB trivial h))
theorem Ql9 {e : Int} {h : HpS} {v : Val} : StO s (s.made e h v) := QB trivial (QB trivial (Q3I rfl rfl))
theorem sto_inS : StO s s.inS := by
  unfold MS.inS
  split
  · exact trivial
  · exact Q3I rfl rfl
theorem sto_call {x : Ins} : StO s (s.call m x) := by
  unfold MS.call
  split
  · exact trivial
  · exact Qz fun _ => Qz fun _ => QB trivial (QB trivial (Q3I rfl rfl))
theorem sto_ins {x : Ins} : StO s (s.ins m x) := by
  unfold MS.ins
  exact QB (Q3I rfl rfl) (QB (Qz fun _ => Qz fun _ => QB trivial (Q3I rfl rfl)) (QB (QB trivial (Q3I rfl rfl))
    (QB (Qz fun _ => QB trivial (Q3I rfl rfl)) (QB (Qz fun _ => Qz fun _ => Ql9) (QB (Qz fun _ => QB trivial (QB trivial (Q3I rfl rfl)))
    (QB (Qz fun _ => QB trivial (Qz fun _ => QB trivial (Q3I rfl rfl))) (QB (Qz fun _ => Qz fun _ => QB trivial Ql9) (QB (Qz fun _ => Qz fun _ => Qhm (Q3I rfl rfl))
    (QB (Qz fun _ => Qz fun _ => Qz fun _ => Qhm (Q3I rfl rfl)) (QB (Qz fun _ => Qhm (Q3I rfl rfl)) (QB sto_inS (QB (Qz fun _ => QB trivial ⟨rfl, [_], rfl⟩) sto_call))))))))))))
theorem Qme {f : Fun} {t : To} : StO s (s.to f t) := by
  unfold MS.to
  split
  · exact trivial
  · exact Qz fun _ => Qz fun _ => QB trivial (Q3I rfl rfl)
theorem sto_ret {f : Fun} {e : Tail} : StO s (s.ret f e) := by
  unfold MS.ret
  refine Qz fun vs => QB trivial ?_
  split
  · exact Q3I rfl rfl
  · split <;> exact trivial
theorem sto_fin {f : Fun} {e : Tail} : StO s (s.fin f e) := by
  unfold MS.fin
  exact QB Qme (QB (Qz fun _ => QB Qme Qme) sto_ret)
theorem Qhn : StO s (s.one m) := by
  unfold MS.one
  split
  · exact trivial
  · split
    · exact trivial
    · split
      · exact sto_ins (s := s.next)
      · exact sto_fin
/-! ### runs -/
theorem QN {e : Int} {b : List Int} : ∀ k, Run.steps m most k (.over s e b) = .over s e b
  | 0 => rfl
  | k + 1 => QN k
theorem Q2L {f : Flt} : ∀ k, Run.steps m most k (.stuck f) = .stuck f
  | 0 => rfl
  | k + 1 => Q2L k
theorem Qe0 (h : s.fuel = most) : Run.step m most (.on s) = .over s 7 [] := by unfold Run.step; exact if_pos h
theorem QaU (h : s.fuel ≠ most) : Run.step m most (.on s) = .of m s (s.tick.one m) := by unfold Run.step; exact if_neg h
theorem QdZ : ∀ (k : Nat) (s : MS), s.fuel ≤ most → Run.steps m most k (.on s) = .on t → t.fuel = s.fuel + k ∧ t.fuel ≤ most
  | 0, s, h, he => by cases he; exact ⟨rfl, h⟩
  | k + 1, s, h, he => by
    rw [Run.steps] at he
    by_cases hf : s.fuel = most
    · rw [Qe0 hf, QN] at he; cases he
    · rw [QaU hf] at he
      have ho := Qhn (m := m) (s := s.tick)
      cases hr : s.tick.one m with
      | go u =>
        rw [hr] at he ho
        have h1 : u.fuel = s.fuel + 1 := ho.1
        have := QdZ k u (by omega) he
        omega
      | halt e => rw [hr] at he; unfold Run.of at he; rw [QN] at he; cases he
      | done l => rw [hr] at he; unfold Run.of at he; rw [QN] at he; cases he
      | lost => rw [hr] at he; unfold Run.of at he; rw [Q2L] at he; cases he
theorem Qet {e : Int} {b : List Int} : ∀ (k : Nat) (s : MS), Run.steps m most k (.on s) = .over t e b → s.fuel ≤ t.fuel ∧ ∃ mo, t.out = s.out ++ mo
  | 0, s, he => by cases he
  | k + 1, s, he => by
    rw [Run.steps] at he
    by_cases hf : s.fuel = most
    · rw [Qe0 hf, QN] at he; cases he; exact ⟨Nat.le_refl _, [], by rw [List.append_nil]⟩
    · rw [QaU hf] at he
      have ho := Qhn (m := m) (s := s.tick)
      cases hr : s.tick.one m with
      | go u =>
        rw [hr] at he ho
        have h1 : u.fuel = s.fuel + 1 := ho.1
        obtain ⟨h2, mo, h3⟩ := ho
        obtain ⟨h4, mo2, h5⟩ := Qet k u he
        have h3 : u.out = s.out ++ mo := h3
        exact ⟨by omega, mo ++ mo2, by rw [h5, h3, List.append_assoc]⟩
      | halt e => rw [hr] at he; unfold Run.of at he; rw [QN] at he; cases he; exact ⟨Nat.le_succ _, [], by rw [List.append_nil]; rfl⟩
      | done l => rw [hr] at he; unfold Run.of at he; rw [QN] at he; cases he; exact ⟨Nat.le_succ _, [], by rw [List.append_nil]; rfl⟩
      | lost => rw [hr] at he; unfold Run.of at he; rw [Q2L] at he; cases he
/-- How a run and one with more came out. -/
def Qc9 (A B : Run) : Prop := match A with
  | .on _ => False
  | .stuck _ => True
  | .over t e b => match B with
    | .on _ => False
    | .stuck _ => e = 7 ∨ e = 6
    | .over t' e' b' => (e ≠ 7 → e ≠ 6 → e' = e ∧ b' = b ∧ t'.out = t.out ∧ t'.fuel = t.fuel) ∧ t.fuel ≤ t'.fuel ∧ ∃ mo, t'.out = t.out ++ mo
theorem more_fin {e : Int} {b : List Int} (he : e = 7 ∨ e = 6) (hf : s'.fuel ≤ most') (h1 : t.fuel ≤ s'.fuel) (h2 : t.out = s'.out) : Qc9 (.over t e b) (Run.steps m most' (most' + 1 - s'.fuel) (.on s')) := by
  unfold Qc9
  dsimp only
  cases hB : Run.steps m most' (most' + 1 - s'.fuel) (.on s') with
  | on u => have := QdZ _ _ hf hB; dsimp only; omega
  | stuck f => exact he
  | over u e' b' =>
    obtain ⟨h3, mo, h4⟩ := Qet _ _ hB
    exact ⟨fun h7 h6 => by omega, by omega, mo, by rw [h4, h2]⟩
theorem QmS {e : Int} {b : List Int} (he : e = 7 ∨ e = 6) (hf : s'.fuel < most') (h1 : t.fuel ≤ s'.fuel + 1) (h2 : t.out = s'.out) (h3 : t.fuel = s'.fuel + 1) : Qc9 (.over t e b) (Run.steps m most' (most' + 1 - s'.fuel) (.on s')) := by
  obtain ⟨k, hk⟩ : ∃ k, most' + 1 - s'.fuel = k + 1 := ⟨most' - s'.fuel, by omega⟩
  have ho := Qhn (m := m) (s := s'.tick)
  have hstep : Run.steps m most' (k + 1) (.on s') = Run.steps m most' k (.of m s' (s'.tick.one m)) := by rw [Run.steps, QaU (by omega)]
  rw [hk, hstep]
  cases hr : s'.tick.one m with
  | go u =>
    rw [hr] at ho
    have h4 : u.fuel = s'.fuel + 1 := ho.1
    obtain ⟨_, mo, h5⟩ := ho
    have h5 : u.out = s'.out ++ mo := h5
    unfold Run.of Qc9
    dsimp only
    rw [show k = most' + 1 - u.fuel by omega]
    cases hB : Run.steps m most' (most' + 1 - u.fuel) (.on u) with
    | on v => have := QdZ _ _ (by omega) hB; dsimp only; omega
    | stuck f => exact he
    | over v e' b' =>
      obtain ⟨h6, mo2, h7⟩ := Qet _ _ hB
      exact ⟨fun h7 h6 => by omega, by omega, mo ++ mo2, by rw [h7, h5, h2, List.append_assoc]⟩
  | halt e' => unfold Run.of; rw [QN]; exact ⟨fun h7 h6 => by omega, by show t.fuel ≤ s'.fuel + 1; omega, [], by rw [List.append_nil, h2]; rfl⟩
  | done l => unfold Run.of; rw [QN]; exact ⟨fun h7 h6 => by omega, by show t.fuel ≤ s'.fuel + 1; omega, [], by rw [List.append_nil, h2]; rfl⟩
  | lost => unfold Run.of; rw [Q2L]; exact he
theorem QiF (hm : most ≤ most') : ∀ (n : Nat) (s s' : MS), most - s.fuel = n → s.fuel ≤ most → Mor d s s' → Qc9 (Run.steps m most (n + 1) (.on s)) (Run.steps m most' (most' + 1 - s'.fuel) (.on s'))
  | 0, s, s', hn, hf, h => by
    rw [Run.steps, Qe0 (by omega), Run.steps]
    exact more_fin (.inl rfl) (by rw [h.fuel]; omega) (by rw [h.fuel]; exact Nat.le_refl _) h.out.symm
  | n + 1, s, s', hn, hf, h => by
    have hk : most' + 1 - s'.fuel = (most' - s'.fuel) + 1 := by rw [h.fuel]; omega
    have h9 := h.fuel
    have e2 : Run.steps m most' (most' - s'.fuel + 1) (.on s') = Run.steps m most' (most' - s'.fuel) (.of m s' (s'.tick.one m)) := by rw [Run.steps, QaU (by omega)]
    rw [Run.steps, QaU (by omega)]
    have h1 := h.tick.one (m := m)
    have ho := Qhn (m := m) (s := s.tick)
    cases hr : s.tick.one m with
    | go u =>
      rw [hr] at h1 ho
      obtain ⟨u', h2, h3⟩ := h1
      have h4 : u.fuel = s.fuel + 1 := ho.1
      rw [hk, e2, h2]
      have h5 := QiF hm n u u' (by omega) (by omega) h3
      have h6 := h3.fuel
      rw [show most' + 1 - u'.fuel = most' - s'.fuel by omega] at h5
      exact h5
    | halt e =>
      rw [hr] at h1
      have hA : Run.steps m most (n + 1) (.of m s (.halt e)) = .over s.tick e [] := by unfold Run.of; exact QN _
      rw [hA]
      rcases h1 with rfl | h1
      · exact QmS (.inr rfl) (by omega) (by show s.fuel + 1 ≤ _; omega) h.out.symm (by show s.fuel + 1 = _; omega)
      · rw [hk, e2, h1]
        unfold Run.of; rw [QN]
        exact ⟨fun _ _ => ⟨rfl, rfl, h.out, by show s'.fuel + 1 = s.fuel + 1; omega⟩, by show s.fuel + 1 ≤ s'.fuel + 1; omega, [], by rw [List.append_nil]; exact h.out⟩
    | done l =>
      rw [hr] at h1
      have hA : Run.steps m most (n + 1) (.of m s (.done l)) = .over s.tick 0 l := by unfold Run.of; exact QN _
      have h1 : s'.tick.one m = .done l := h1
      rw [hA, hk, e2, h1]
      unfold Run.of; rw [QN]
      exact ⟨fun _ _ => ⟨rfl, rfl, h.out, by show s'.fuel + 1 = s.fuel + 1; omega⟩, by show s.fuel + 1 ≤ s'.fuel + 1; omega, [], by rw [List.append_nil]; exact h.out⟩
    | lost =>
      have hA : Run.steps m most (n + 1) (.of m s .lost) = .stuck (20, s.place m) := by unfold Run.of; exact Q2L _
      rw [hA]; exact trivial
/-- MORE STEPS AND PAGES CHANGE NOTHING THAT WAS DONE. -/
theorem more_all {inp : List Int} {pages pages' : Int} (hm : most ≤ most') (hp : 0 ≤ pages) (hq : pages ≤ pages') : Qc9 (Run.all m inp most pages) (Run.all m inp most' pages') :=
  QiF (d := pages' - pages) hm most (MS.start inp pages) (MS.start inp pages') (by show most - 0 = most; omega) (Nat.zero_le _) ⟨rfl, by show pages' = pages + (pages' - pages); omega, rfl, rfl, rfl, rfl, rfl, by omega, hp, fun r hr => by cases hr⟩
theorem Qh3 {inp : List Int} {pages : Int} : ∀ t, Run.all m inp most pages ≠ .on t := fun t h => by
  have h1 := QdZ _ _ (Nat.zero_le _) h
  have h2 : (MS.start inp pages).fuel = 0 := rfl
  omega
end
end Go.Lir
namespace Go.Lir
set_option linter.unusedVariables false
theorem Qhp {m : Module} {most : Nat} : ∀ (k : Nat) (s : MS) (f : Flt), Run.steps m most k (.on s) = .stuck f → f.1 = 20
  | 0, s, f, h => by cases h
  | k + 1, s, f, h => by
    rw [Run.steps] at h
    by_cases hf : s.fuel = most
    · rw [Qe0 hf, QN] at h; cases h
    · rw [QaU hf] at h
      cases hX : s.tick.one m with
      | go t => rw [hX] at h; exact Qhp k t f h
      | halt e => rw [hX, show Run.of m s (.halt e) = .over s.tick e [] from rfl, QN] at h; cases h
      | done l => rw [hX, show Run.of m s (.done l) = .over s.tick 0 l from rfl, QN] at h; cases h
      | lost => rw [hX, show Run.of m s .lost = .stuck (20, s.place m) from rfl, Q2L] at h; cases h; rfl
theorem all_over {m : Module} {inp : List Int} {most : Nat} {pages : Int} (h : (Run.all m inp most pages).flt.1 = 0) : ∃ t e b, Run.all m inp most pages = .over t e b := by
  cases hA : Run.all m inp most pages with
  | on t => exact absurd hA (Qh3 t)
  | over t e b => exact ⟨t, e, b, rfl⟩
  | stuck f =>
    rw [hA] at h
    have h20 := Qhp _ _ f hA
    have h : f.1 = 0 := h
    omega
theorem more_oc {m : Module} {inp : List Int} {most most' : Nat} {pages pages' : Int} (hm : most ≤ most') (hp : 0 ≤ pages) (hq : pages ≤ pages') {A B : Run} (hA : A = Run.all m inp most pages) (hB : B = Run.all m inp most' pages') (hz : A.flt.1 = 0) :
    (B.flt.1 ≠ 0 → A.oc.e = 7 ∨ A.oc.e = 6) ∧ (B.flt.1 = 0 → (A.oc.e ≠ 7 → A.oc.e ≠ 6 → A.oc.e = B.oc.e ∧ A.oc.back = B.oc.back ∧ A.oc.out = B.oc.out ∧ A.oc.fuel = B.oc.fuel) ∧ A.oc.out.length ≤ B.oc.out.length ∧ A.oc.out = B.oc.out.take A.oc.out.length ∧ A.oc.fuel ≤ B.oc.fuel) := by
  have hM := more_all (m := m) (inp := inp) hm hp hq
  rw [← hA, ← hB] at hM
  obtain ⟨t, e, b, h1⟩ := all_over (m := m) (inp := inp) (most := most) (pages := pages) (by rw [← hA]; exact hz)
  rw [← hA] at h1
  rw [h1] at hM ⊢
  cases hb : B with
  | on t' => exact absurd (hB.symm.trans hb) (Qh3 t')
  | stuck f =>
    rw [hb] at hM
    have h20 := Qhp _ _ f (hB.symm.trans hb)
    exact ⟨fun _ => hM, fun h => by have h : f.1 = 0 := h; omega⟩
  | over t' e' b' =>
    rw [hb] at hM
    obtain ⟨h2, h3, mo, h4⟩ := hM
    refine ⟨fun h => absurd rfl h, fun _ => ⟨fun g1 g2 => ?_, ?_, ?_, ?_⟩⟩
    · obtain ⟨k1, k2, k3, k4⟩ := h2 g1 g2
      exact ⟨k1.symm, k2.symm, k3.symm, by show (t.fuel : Int) = t'.fuel; rw [k4]⟩
    · show t.out.length ≤ t'.out.length; rw [h4, List.length_append]; omega
    · show t.out = t'.out.take t.out.length; rw [h4, List.take_left]
    · show (t.fuel : Int) ≤ t'.fuel; omega
end Go.Lir
namespace Go.Lir
def crc4 (c : BitVec 32) : List UInt8 := [UInt8.ofNat c.toNat, UInt8.ofNat (c >>> 8).toNat, UInt8.ofNat (c >>> 16).toNat, UInt8.ofNat (c >>> 24).toNat]
def Module.enc (m : Module) : List UInt8 := m.body ++ crc4 (crcOf m.body)
end Go.Lir
namespace Go.Lir
section
variable {bs : List UInt8} {at0 i u : Nat} {x : UInt8} {X : Got Nat}
end
end Go.Lir
namespace Go.Lir
section
variable {α : Type}
variable {f : List UInt8 → Got α} {N k n0 : Nat} {n : Int} {xs : List α} {r r1 r2 r3 : List UInt8} {a : α} {e : Flt} {X : Got (List α)}
end
end Go.Lir
namespace Go.Lir
section
variable {bs r : List UInt8} {N : Nat} {e : Flt} {l : List Fun}
end
end Go.Lir
namespace Go.Lir
set_option linter.unusedVariables false
section
variable {α β : Type} {M n : Nat}
def Goodp (M : Nat) (f : List UInt8 → Got α) (p : α → Prop) : Prop := ∀ r x r', r.length ≤ M → f r = .ok (x, r') → p x ∧ r'.length ≤ r.length
theorem Goodp.weak {f : List UInt8 → Got α} {p q : α → Prop} (h : Goodp M f p) (hq : ∀ x, p x → q x) : Goodp M f q := fun r x r' h1 h2 => ⟨hq x (h r x r' h1 h2).1, (h r x r' h1 h2).2⟩
end
end Go.Lir
namespace Go.Lir
section
variable {n : Nat} {r r1 r2 r3 r4 : List UInt8} {e : Flt} {op a : Int} {yes no : To} {l : List Int}
variable {h j : Nat} {x : Int × Int × Int × Int} {y : Int} {X : Got (Int × Int × Int × Int)}
end
end Go.Lir
namespace Go.Lir
set_option linter.unusedVariables false
section
variable {α : Type} {n : Nat}
def InI (x : Int) : Prop := -9223372036854775808 ≤ x ∧ x ≤ 9223372036854775807
def QlC (l : List Int) : Prop := l.length ≤ 9000000000000000000 ∧ ∀ x ∈ l, InI x
def ToOK (t : To) : Prop := InI t.block ∧ QlC t.regs ∧ QlC t.args
def InsOK (x : Ins) : Prop := (InI x.op ∧ InI x.a ∧ InI x.b ∧ InI x.c ∧ InI x.k ∧ InI x.n) ∧ ((¬ Q38 x.op / 2 ^ 0 % 2 = 1 → x.a = 0) ∧ (¬ Q38 x.op / 2 ^ 1 % 2 = 1 → x.b = 0) ∧ (¬ Q38 x.op / 2 ^ 2 % 2 = 1 → x.c = 0) ∧ (¬ Q38 x.op / 2 ^ 3 % 2 = 1 → x.k = 0)) ∧
  (¬ Q38 x.op / 64 % 2 = 1 → x.n = 0) ∧ (¬ Q38 x.op / 16 % 2 = 1 → x.regs = []) ∧ (¬ Q38 x.op / 32 % 2 = 1 → x.args = []) ∧ QlC x.regs ∧ QlC x.args
end
end Go.Lir
namespace Go.Lir
set_option linter.unusedVariables false
variable {α : Type}
/-- A kind of data of which more is known. -/
def Rep.an (r : Rep α) (p : α → Prop) : Rep α where
  es := r.es
  pos := r.pos
  R := fun H K cs x => r.R H K cs x ∧ p x
  len := fun h => r.len h.1
  one := fun h => r.one h.1
  turn := fun h hs => ⟨r.turn h.1 hs, h.2⟩
def To.InR (t : To) : Prop := InI t.block ∧ (∀ n ∈ t.regs, InI n) ∧ ∀ n ∈ t.args, InI n
def Ins.InR (x : Ins) : Prop := (InI x.op ∧ InI x.a ∧ InI x.b ∧ InI x.c ∧ InI x.k ∧ InI x.n) ∧ (∀ n ∈ x.regs, InI n) ∧ ∀ n ∈ x.args, InI n
def Tail.InR (x : Tail) : Prop := InI x.op ∧ InI x.a ∧ x.yes.InR ∧ x.no.InR ∧ ∀ n ∈ x.args, InI n
def Block.InR (x : Block) : Prop := InI x.regs ∧ (∀ t ∈ x.params, t.InR) ∧ (∀ i ∈ x.code, i.InR) ∧ x.fin.InR
def Fun.InR (x : Fun) : Prop := InI x.regs ∧ (∀ t ∈ x.params, t.InR) ∧ (∀ t ∈ x.results, t.InR) ∧ ∀ b ∈ x.blocks, b.InR
def Module.InR (m : Module) : Prop := ∀ f ∈ m.funcs, f.InR
section
variable {P : Program} {T e : TypeId}
end
/-! ### of the right form: read as written -/
/-! ### few parts are short lists -/
theorem Qiu {m : Module} (h : m.Few) : m.Short := by
  refine ⟨by have := h.1; omega, fun f hf => ?_⟩
  obtain ⟨h1, h2, h3, h4⟩ := h.2 f hf
  refine ⟨Tys.Short.of_great h1, Tys.Short.of_great h2, by omega, fun b hb => ?_⟩
  obtain ⟨g1, g2, g3, ⟨⟨g4, g5⟩, ⟨g6, g7⟩, g8⟩⟩ := h4 b hb
  exact ⟨Tys.Short.of_great g1, by omega, fun x hx => ⟨by have := (g3 x hx).1; omega, by have := (g3 x hx).2; omega⟩, ⟨by omega, by omega⟩, ⟨by omega, by omega⟩, by omega⟩
end Go.Lir
namespace Go.Lir
theorem umod50 {a : Int} : ∃ k : Nat, k < 50 ∧ (IntKind.u64.wrap a).tmod 50 = (k : Int) := by
  have e : IntKind.u64.wrap a = a % 18446744073709551616 := by
    unfold IntKind.wrap
    simp [IntKind.bits, IntKind.signed]
  have h0 : 0 ≤ IntKind.u64.wrap a := by rw [e]; omega
  refine ⟨((IntKind.u64.wrap a).tmod 50).toNat, ?_, ?_⟩
  · rw [Int.tmod_eq_emod_of_nonneg h0]; omega
  · rw [Int.tmod_eq_emod_of_nonneg h0]; omega
end Go.Lir
namespace Go.Proofs.Yteflkifmgnpbhaa
open Go.Lir
set_option maxHeartbeats 1000000
attribute [local irreducible] LC.wp Q2 Qy QD retQ Q1n LO.wp Ql Calls
set_option linter.unusedSimpArgs false
set_option linter.unusedVariables false
variable {cx : Cx} {w : World} {L : List Res} {m : Module} {inp : List Int}
theorem RunS.form {fuel pages : Int} {u : Value} (hs : RunS m inp fuel pages cx L u w) : ∃ c' a1 a2 y1 y2 o F, cx.Le c' ∧ u = .tuple #[.agg ⟨[.int .i64 o.e, .slice a1 o.back.length y1, .slice a2 o.out.length y2, .int .i64 o.fuel]⟩, fltV F] ∧ intR.sl c' (.slice a1 o.back.length y1) o.back ∧ intR.sl c' (.slice a2 o.out.length y2) o.out ∧ St c' w L ∧ (F.1 = 0 → m.fault.1 = 0 ∧ (Run.all m inp fuel.toNat pages).oc = o ∧ (Run.all m inp fuel.toNat pages).flt = F) ∧ (Q2k m inp fuel pages = (0, 0) → (Run.all m inp fuel.toNat pages).oc = o ∧ (Run.all m inp fuel.toNat pages).flt = F) := by
  rcases hs with ⟨h1, rfl, hS⟩ | ⟨h1, c', v1, v2, hle, rfl, k1, k2, hS⟩
  · refine ⟨cx, none, none, 0, 0, ⟨0, [], [], 0⟩, _, St.refl hS, rfl, Rep.SR.nil _ _ _, Rep.SR.nil _ _ _, hS, fun h => absurd h h1, fun h => absurd (by rw [h]) h1⟩
  · obtain ⟨a1, y1, rfl⟩ := Rep.SR.shape k1
    obtain ⟨a2, y2, rfl⟩ := Rep.SR.shape k2
    have hM : m.fault.1 = 0 := Classical.byContradiction fun h => by rw [Q1P h] at h1; exact h (by rw [h1])
    exact ⟨c', a1, a2, y1, y2, _, _, hle, rfl, k1, k2, hS, fun _ => ⟨hM, rfl, rfl⟩, fun _ => ⟨rfl, rfl⟩⟩
theorem Qko {cs : List Value} {v : Value} {fuel pages more : Int} (hx : modR.at cx cs m) (hi : intR.sl cx v inp) (hS : St cx w L) : Rets Try.prog QC [.agg ⟨cs⟩, v, .int .i64 fuel, .int .i64 pages, .int .i64 more] w fun u w' => u = .bool true ∧ St cx w' L := by
  have hx' := hx
  obtain ⟨vf, rfl, hf⟩ := Q2e hx
  obtain ⟨af, nf, rfl⟩ := Rep.SR.shape hf
  all_goals refine QdX ?_
  all_goals (unfold Law_IdealMore_lc; refine Q0 ?_; refine Q1 ?_; refine zb hS ?_; intro p5 w1 hS; refine zm ?_; refine zn ?_; refine Q0 ?_; refine Q0 ?_; refine Q1 ?_; refine zR0 (c := Qj8 hS) (h := ?_); rintro v1 w1 ⟨rfl, hS⟩; refine znt ?_; refine zn ?_)
  all_goals
    first
    | (refine zct ?_ -- QC c0
       all_goals (refine Q0 ?_; refine Q1 ?_; refine zm ?_; refine zn ?_; refine zr ?_; refine zf ?_)
       all_goals (exact ⟨_, rfl, rfl, hS.sp⟩))
    | (refine zcf ?_ -- QC c0
       all_goals refine zsk ?_)
  all_goals (refine Q0 ?_; refine Q0 ?_; refine Q1 ?_; refine zv hS ?_; refine zm ?_)
  all_goals (refine zR2 (c := long_c hx' hS) (h := ?_); rintro v1 w1 ⟨b, rfl, hb, hS⟩; cases b)
  all_goals (refine zm ?_; (first | refine zgn ?_ | (refine zgy ?_; refine zm ?_)); (first | refine zgn ?_ | (refine zgy ?_; refine zm ?_)); (first | refine zgn ?_ | (refine zgy ?_; refine zm ?_)); (first | (refine zgn ?_) | (refine zgy ?_; obtain ⟨hfew, hfu⟩ := hb rfl; refine zR3 (c := rstart_c hi hS) (h := ?_); rintro v1 w1 ⟨F0, rfl, hF0, hS⟩; unfold fltV)); (first | refine zgn ?_ | (refine zgy ?_; refine Qld rfl rfl ?_)))
  all_goals (first | refine zgn ?_ | (refine zgy ?_; (first | (refine Q1o ?_) | (refine Q1B ?_) | (refine Q1b rfl rfl (fun hc => ?_) (fun hc => ?_)))))
  all_goals ((first | (refine zpt ?_) | (refine zpf ?_)); refine zn ?_)
  all_goals
    first
    | (refine zct ?_ -- QC c1
       all_goals (refine Q0 ?_; refine Q1 ?_; refine zm ?_; refine zn ?_; refine zr ?_; refine zf ?_)
       all_goals (exact ⟨_, rfl, rfl, hS.sp⟩))
    | (refine zcf ?_ -- QC c1
       all_goals refine zsk ?_)
  all_goals (refine Q0 ?_; have hst := hF0 (by omega); refine Q1 ?_; refine zm ?_; refine s_conv rfl ?_; refine s_rem rfl rfl (by decide) ?_; obtain ⟨k, hk, ek⟩ := umod50 (a := more); rw [ek]; refine s_conv64 rfl (by omega) (by omega) ?_; refine zm ?_; refine zn ?_; refine Q0 ?_; refine Q1 ?_; refine zv hS ?_; refine zm ?_; refine zm ?_; refine zm ?_; refine zR4 (c := run_c (Qiu hfew) hx' hi hS) (h := ?_); rintro v1 w1 hr; obtain ⟨c1, a1, a2, y1, y2, o, F, hle1, rfl, k1, k2, hS, hF, -⟩ := hr.form; unfold fltV; have hi1 := Rep.SR.up hi hle1; have hx1 := Rep.R.up hx' hle1; refine zm ?_; refine zxt ?_; refine zxt ?_; refine Q8 hS ?_; intro p12 w1 hS; refine Q8 hS ?_; intro p13 w1 hS; refine zsn hS ?_; intro w1 hS; have hS := hS.ns; refine zsn hS ?_; intro w1 hS; have hS := hS.ns; refine zn ?_; refine Q0 ?_; refine Q0 ?_; refine Q1 ?_; refine zf0 ?_; refine zl hS ?_)
  all_goals (first | (refine Q1o ?_) | (refine Q1B ?_) | (refine Q1b rfl rfl (fun hc => ?_) (fun hc => ?_)))
  all_goals (refine zn ?_)
  all_goals
    first
    | (refine zct ?_ -- QC c2
       all_goals (refine Q0 ?_; refine Q1 ?_; refine zm ?_; refine zn ?_; refine zr ?_; refine zf ?_)
       all_goals ((first | exact ⟨_, rfl, rfl, hS.sp⟩ | exact ⟨_, rfl, rfl, St.weak hS.sp hle1⟩)))
    | (refine zcf ?_ -- QC c2
       all_goals refine zsk ?_)
  all_goals (refine Q0 ?_; obtain ⟨hM, ho, hfl⟩ := hF (by omega); refine Q1 ?_; refine zv hS ?_; refine zm ?_; refine zm ?_; refine zm ?_; refine zad ?_; refine zm ?_; refine zm ?_; refine zad ?_; refine s_min rfl rfl ?_; refine zR4 (c := run_c (Qiu hfew) hx1 hi1 hS) (h := ?_); rintro v1 w1 hr; obtain ⟨c2, a3, a4, y3, y4, o2, F2, hle2, rfl, k3, k4, hS, -, hF2⟩ := hr.form; unfold fltV; obtain ⟨e1, e2⟩ := hF2 (Q9O (by omega) (by omega)); have hmo := more_oc (m := m) (inp := inp) (most := fuel.toNat) (most' := (fuel + k).toNat) (pages := pages) (pages' := min (pages + k) 64) (by omega) (by omega) (by omega) rfl rfl (by rw [hfl]; omega); rw [ho, e1, e2] at hmo; have k1 := Rep.SR.up k1 hle2; have k2 := Rep.SR.up k2 hle2; refine zm ?_; refine zxt ?_; refine zxt ?_; refine Q8 hS ?_; intro p14 w1 hS; refine Q8 hS ?_; intro p15 w1 hS; refine zsn hS ?_; intro w1 hS; have hS := hS.ns; refine zsn hS ?_; intro w1 hS; have hS := hS.ns; refine zn ?_; refine Q0 ?_; refine Q0 ?_; refine Q1 ?_; refine zf0 ?_; refine zl hS ?_)
  all_goals (first | (refine Q1o ?_) | (refine Q1B ?_) | (refine Q1b rfl rfl (fun hc => ?_) (fun hc => ?_)))
  all_goals (refine zn ?_)
  all_goals
    first
    | (refine zct ?_ -- QC c3
       all_goals (refine Q0 ?_; refine Q1 ?_; refine zf0 ?_; refine zl hS ?_)
       all_goals (first | (refine Qx ?_) | (refine QE ?_) | (refine Qb rfl rfl (fun hc => ?_) (fun hc => ?_)))
       all_goals (refine zm ?_; (first | refine zgn ?_ | (refine zgy ?_; refine zf0 ?_)); (first | refine zgn ?_ | (refine zgy ?_; refine zl hS ?_)))
       all_goals (first | refine zgn ?_ | (refine zgy ?_; refine Qx ?_))
       all_goals ((first | (refine zpt ?_) | (refine zpf ?_)); refine zm ?_; refine zn ?_; refine zr ?_; refine zf ?_)
       all_goals ((first | exact ⟨_, rfl, rfl, hS.sp⟩ | exact ⟨_, rfl, rfl, St.weak hS.sp hle1⟩ | exact ⟨_, rfl, rfl, St.weak hS.sp (hle1.trans hle2)⟩)))
    | (refine zcf ?_ -- QC c3
       all_goals refine zsk ?_)
  all_goals (refine Q0 ?_; refine Q0 ?_; refine Q1 ?_; refine zf0 ?_; refine zl hS ?_)
  all_goals (first | (refine Q1o ?_) | (refine Q1B ?_) | (refine Q1b rfl rfl (fun hc => ?_) (fun hc => ?_)))
  all_goals (refine zm ?_; (first | refine zgn ?_ | (refine zgy ?_; refine zf0 ?_)); (first | refine zgn ?_ | (refine zgy ?_; refine zl hS ?_)))
  all_goals (first | refine zgn ?_ | (refine zgy ?_; (first | (refine Q1o ?_) | (refine Q1B ?_) | (refine Q1b rfl rfl (fun hc => ?_) (fun hc => ?_)))))
  all_goals ((first | (refine zpt ?_) | (refine zpf ?_)); refine zn ?_)
  all_goals
    first
    | (refine zct ?_ -- QC c4
       all_goals (refine Q0 ?_; refine Q1 ?_; refine zv hS ?_; refine zv hS ?_; refine zR2 (c := QiA k1 k2 k3 k4 hS) (h := ?_); rintro v1 w1 ⟨rfl, hS⟩; rw [decide_eq_true ((hmo.2 (by omega)).1 (by omega) (by omega))]; refine zm ?_; refine zn ?_; refine zr ?_; refine zf ?_)
       all_goals ((first | exact ⟨_, rfl, rfl, hS.sp⟩ | exact ⟨_, rfl, rfl, St.weak hS.sp hle1⟩ | exact ⟨_, rfl, rfl, St.weak hS.sp (hle1.trans hle2)⟩)))
    | (refine zcf ?_ -- QC c4
       all_goals refine zsk ?_)
  all_goals (refine Q0 ?_; obtain ⟨hmx, hm1, hm2, hm3⟩ := hmo.2 (by omega); refine zD [(0, none), (1, none), (2, none), (3, none), (4, none), (5, none), (6, none), (7, none), (8, none), (9, none), (10, none), (11, none), (12, none), (13, none), (14, none), (15, none), (16, some none), (17, none), (18, none), (19, none), (20, none), (21, none), (22, none), (23, none), (24, none), (25, some none)] ?_; have hS := hS.drew; refine zf0 ?_; refine zl hS ?_; refine zL ?_; refine zf0 ?_; refine zl hS ?_; refine zL ?_)
  all_goals (refine zleqt ?_)
  all_goals (refine zm ?_; (first | refine zgn ?_ | (refine zgy ?_; refine zf0 ?_)); (first | refine zgn ?_ | (refine zgy ?_; refine zl hS ?_)); (first | refine zgn ?_ | (refine zgy ?_; refine zf0 ?_)); (first | refine zgn ?_ | (refine zgy ?_; refine zl hS ?_)); (first | refine zgn ?_ | (refine zgy ?_; refine zf0 ?_)); (first | refine zgn ?_ | (refine zgy ?_; refine zl hS ?_)); (first | refine zgn ?_ | (refine zgy ?_; refine zL ?_)); (first | (refine zgn ?_) | (refine zgy ?_; refine s_subL (l' := 0) (h' := o.out.length) vw k4 rfl rfl ⟨_, rfl⟩ rfl (by omega) (by omega) ?_; intro v7 hk7)); (first | (refine zgn ?_) | (refine zgy ?_; refine zR2 (c := QhA k2 hk7 hS) (h := ?_); rintro v1 w1 ⟨rfl, hS⟩; rw [decide_eq_true (show o.out = (o2.out.take o.out.length).drop 0 from hm2)])); refine zpt ?_; refine zm ?_; (first | refine zgn ?_ | (refine zgy ?_; refine zf0 ?_)); (first | refine zgn ?_ | (refine zgy ?_; refine zl hS ?_)))
  all_goals ((first | refine zgn ?_ | (refine zgy ?_; refine zf0 ?_)); (first | refine zgn ?_ | (refine zgy ?_; refine zl hS ?_)))
  all_goals (first | refine zgn ?_ | (refine zgy ?_; refine zleqt ?_))
  all_goals (refine zpt ?_; refine zm ?_; refine zn ?_; refine zr ?_; refine zf ?_; (first | exact ⟨_, rfl, rfl, hS.sp⟩ | exact ⟨_, rfl, rfl, St.weak hS.sp hle1⟩ | exact ⟨_, rfl, rfl, St.weak hS.sp (hle1.trans hle2)⟩))
end Go.Proofs.Yteflkifmgnpbhaa
namespace Go.Proofs.Yteflkifmgnpbhaa
open Go.Lir
def cLongs : Cod.Of Try.prog 25 intR.list := Cod.Of.list cLong (by kernel_rfl) (by kernel_rfl) (by kernel_rfl)
theorem idealMore_rd {c : Array Value} {x : Module} {v : Value} {inp : List Int} {w : World} (h1 : cMod.cod.rd w.heap c.toList x) (h2 : cLongs.cod.rd w.heap [v] inp) (a b d : Int) : Rets Try.prog QC [.agg c, v, .int .i64 a, .int .i64 b, .int .i64 d] w fun v w' => v = .bool true ∧ Fr NF w w' := by
  obtain ⟨v', hv, hin⟩ := cLongs.top h2
  cases hv
  exact (Qko (cMod.top h1) hin (St.top w)).mono fun _ _ ⟨h, h2⟩ => ⟨h, h2.fr⟩
end Go.Proofs.Yteflkifmgnpbhaa
