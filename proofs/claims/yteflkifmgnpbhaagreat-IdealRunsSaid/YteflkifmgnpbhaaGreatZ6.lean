/- Lemmas of the proof, part 6: what the functions of the program do (contracts), and what follows. -/
import Derived.Test.YteflkifmgnpbhaaGreatZ2
import Derived.Test.YteflkifmgnpbhaaGreatZ5
import Derived.Test.YteflkifmgnpbhaaGreatZ4
import Derived.Test.YteflkifmgnpbhaaGreatZ3
namespace Go.Lir
theorem Q3N {P : Program} {ρ : Env} {w : World} {c : Cx} {L : List Res} {i d n : Nat} {T es : Nat} {v : Value} {css : List (List Value)} {x : Operand} {m b o : Nat} {cs : List Value} (hS : St c w L) (he : ElP v n es m b o) (hx : ρ.ev x = .pointer (some ⟨b, o, none⟩)) (hi : nth L i = some (sl T es v css)) (hn : css.length = n) (hc : css[m]? = some cs) : gqv P ρ w ⟨none, .loadn d es x⟩ (.agg ⟨cs⟩) := by
 obtain ⟨F, hr, _⟩ := hS.step hi; exact ⟨_, cs, hx, (he.el hn hr).cells hc, rfl⟩
section
variable {m : Module} {s : MS} {x : Ins}
theorem Q77 (h : x.op = 8) : s.ins m x = Q1e (s.g.val x.a) fun v => Q1e (s.g.num x.b) fun n => if n < 0 ∨ 15 < n then .halt 3 else s.made (s.h.arrC v n) (s.h.arr v n) (s.h.arrV v n) := by unfold MS.ins; rw [if_neg (by omega), if_neg (by omega), if_neg (by omega), if_neg (by omega), if_neg (by omega), if_neg (by omega), if_neg (by omega), if_pos h]
theorem Qb1 (h1 : 4 ≤ x.op) (h2 : x.op ≤ 11) (hv : s.g.val x.a = none) : s.ins m x = .lost := by
 rcases (show x.op = 4 ∨ x.op = 5 ∨ x.op = 6 ∨ x.op = 7 ∨ x.op = 8 ∨ x.op = 9 ∨ x.op = 10 ∨ x.op = 11 by omega) with h | h | h | h | h | h | h | h
 · rw [Q9y h, Qx hv]
 · rw [Q9x h, Qx hv]
 · rw [Q9w h, Qx hv]
 · rw [Q7P h, Qx hv]
 · rw [Q77 h, Qx hv]
 · rw [Q9v h, Qx hv]
 · rw [Q79 h, Qx hv]
 · rw [Q8B h, Qx hv]
theorem Qb4 {v : Val} (h6 : x.op = 6) (hv : s.g.val x.a = some v) (hc : v.kind ≠ 3 ∨ (s.h.get v x.k).2 ≠ 0) : s.ins m x = .lost := by
 rw [Q9w h6, Q3 hv]
 by_cases hk : v.kind = 3
 · rw [if_neg (by omega), if_pos (by omega)]
 · rw [if_pos hk]
theorem x6_go {v : Val} (h6 : x.op = 6) (hv : s.g.val x.a = some v) (hk : v.kind = 3) (hc : (s.h.get v x.k).2 = 0) : s.ins m x = .go (s.put [(s.h.get v x.k).1]) := by rw [Q9w h6, Q3 hv, if_neg (by omega), if_neg (by omega)]
theorem Qb3 {v : Val} (h7 : x.op = 7) (hv : s.g.val x.a = some v) (hc : s.g.val x.b = none ∨ v.kind ≠ 3) : s.ins m x = .lost := by
 rw [Q7P h7, Q3 hv]
 by_cases hk : v.kind = 3
 · rw [if_neg (by omega), Qx (hc.resolve_right (by omega))]
 · rw [if_pos hk]
theorem x7_lost2 {v y : Val} (h7 : x.op = 7) (hv : s.g.val x.a = some v) (hy : s.g.val x.b = some y) (hc : v.kind ≠ 3 ∨ s.h.setC v x.k y ≠ 0) : s.ins m x = .lost := by
 rw [Q7P h7, Q3 hv]
 by_cases hk : v.kind = 3
 · rw [if_neg (by omega), Q3 hy, if_pos (by omega)]
 · rw [if_pos hk]
theorem x7_go {v y : Val} (h7 : x.op = 7) (hv : s.g.val x.a = some v) (hy : s.g.val x.b = some y) (hk : v.kind = 3) (hc : s.h.setC v x.k y = 0) : s.ins m x = .go (s.hp (s.h.set v x.k y)) := by rw [Q7P h7, Q3 hv, if_neg (by omega), Q3 hy, if_neg (by omega)]
theorem x8_n {v : Val} (h8 : x.op = 8) (hv : s.g.val x.a = some v) (hn : s.g.num x.b = none) : s.ins m x = .lost := by rw [Q77 h8, Q3 hv, Qx hn]
theorem x8_h {v : Val} {n : Int} (h8 : x.op = 8) (hv : s.g.val x.a = some v) (hn : s.g.num x.b = some n) (hc : n < 0 ∨ 15 < n) : s.ins m x = .halt 3 := by rw [Q77 h8, Q3 hv, Q3 hn, if_pos hc]
theorem x8_m {v : Val} {n : Int} (h8 : x.op = 8) (hv : s.g.val x.a = some v) (hn : s.g.num x.b = some n) (hc : ¬ (n < 0 ∨ 15 < n)) : s.ins m x = s.made (s.h.arrC v n) (s.h.arr v n) (s.h.arrV v n) := by rw [Q77 h8, Q3 hv, Q3 hn, if_neg hc]
theorem x9_n {v : Val} (h9 : x.op = 9) (hv : s.g.val x.a = some v) (hn : s.g.num x.b = none) : s.ins m x = .lost := by rw [Q9v h9, Q3 hv, Qx hn]
theorem x9_p {v : Val} {n : Int} (h9 : x.op = 9) (hv : s.g.val x.a = some v) (hn : s.g.num x.b = some n) : s.ins m x = Q3f v (s.h.get v n).2 (.go (s.put [(s.h.get v n).1])) := by rw [Q9v h9, Q3 hv, Q3 hn]
theorem x10_n {v : Val} (h10 : x.op = 10) (hv : s.g.val x.a = some v) (hn : s.g.num x.b = none ∨ s.g.num x.c = none) : s.ins m x = .lost := by
 rw [Q79 h10, Q3 hv]
 cases hb : s.g.num x.b with
 | none => rfl
 | some n => rw [Q3 rfl, Qx (hn.resolve_left (by rw [hb]; exact fun h => by cases h))]
theorem x10_p {v : Val} {n c : Int} (h10 : x.op = 10) (hv : s.g.val x.a = some v) (hn : s.g.num x.b = some n) (hc : s.g.num x.c = some c) : s.ins m x = Q3f v (s.h.setC v n (intV c)) (.go (s.hp (s.h.set v n (intV c)))) := by rw [Q79 h10, Q3 hv, Q3 hn, Q3 hc]
theorem x11_p {v : Val} (h11 : x.op = 11) (hv : s.g.val x.a = some v) : s.ins m x = Q3f v (s.h.len v).2 (.go (s.put [intV (s.h.len v).1])) := by rw [Q8B h11, Q3 hv]
end
end Go.Lir
namespace Go.Proofs.YteflkifmgnpbhaaGreat
open Go.Lir
set_option maxHeartbeats 1000000
attribute [local irreducible] LC.wp Q0 QF QE retQ Q16 LO.wp Qf Calls
set_option linter.unusedSimpArgs false
set_option linter.unusedVariables false
variable {cx : Cx} {w : World} {L : List Res} {p N : Nat} {z : GZ} {fr : List FrmV} {g : FrmV} {h : HpS} {out inp : List Int} {fu : Nat}
@[reducible] def GZ.upd (z : GZ) (fv iv ov : Value) : GZ := ⟨z.fn, fv, iv, z.e, z.bv, ov, z.fu, z.mo, z.dn, z.c, z.a⟩
@[reducible] def GZ.bk (z : GZ) (bv : Value) : GZ := ⟨z.fn, z.fv, z.iv, z.e, bv, z.ov, z.fu, z.mo, z.dn, z.c, z.a⟩
def GQ (p : Nat) (z : GZ) (N fu : Nat) (h : HpS) (out : List Int) (X : Stp) (cx : Cx) (L : List Res) (u : Value) (w' : World) : Prop :=
 (∃ fv iv ov fr' g' N' h' inp' out', X = .go (msOf h' g' fr' inp' out' fu) ∧ intR.sl cx iv inp' ∧ N' ≤ N + 1 ∧ u = .int .i64 0 ∧ St cx w' (gX p (z.upd fv iv ov) fr' g' N' h' out' L))
 ∨ (∃ e fr' g' N', X = .halt e ∧ N' ≤ N + 1 ∧ u = .int .i64 1 ∧ St cx w' (gX p (z.end e) fr' g' N' h out L))
 ∨ (∃ l bv fr' g' N', X = .done l ∧ N' ≤ N + 1 ∧ l.length ≤ 100000 ∧ u = .int .i64 1 ∧ St cx w' (gX p ((z.bk bv).end 0) fr' g' N' h out (sl 2 1 bv (Q8 l) :: L)))
 ∨ (X = .lost ∧ u = .int .i64 2 ∧ ∃ lv left, St cx w' (gBlk z p lv left :: L))
theorem gX_lost (hS : St cx w (gX p z fr g N h out L)) : ∃ lv left, St cx w (gBlk z p lv left :: L) := by
 obtain ⟨lv, rv, ho, hS⟩ := Q1F hS
 exact ⟨lv, _, hS.sp⟩
theorem GQ.lost {X : Stp} {L' : List Res} {h2 : HpS} {N2 : Nat} {out2 : List Int} (hX : X = .lost) (hS : St cx w (gX p z fr g N2 h2 out2 L')) (hsub : ∀ lv left, St cx w (gBlk z p lv left :: L') → St cx w (gBlk z p lv left :: L)) : GQ p z N fu h out X cx L (.int .i64 2) w := by
 obtain ⟨lv, left, hS⟩ := gX_lost hS
 exact .inr (.inr (.inr ⟨hX, rfl, lv, left, hsub _ _ hS⟩))
theorem ggot_c {v : Val} {e : Int} (hf : fr.length ≤ 1000) (hn : g.vals.length ≤ 900000) (hS : St cx w (gX p z fr g N h out L)) : Rets Tryz.prog Q9s [.pointer (some ⟨p, 0, none⟩), v.v, .int .i64 e] w fun u w' =>
 (e = 0 ∧ u = .int .i64 0 ∧ ∃ tv, St cx w' (gX p z fr (g.push tv [v]) N h out L)) ∨ (e = 14 ∧ u = .int .i64 1 ∧ St cx w' (gX p (z.end 6) fr g N h out L)) ∨ (e ≠ 0 ∧ e ≠ 14 ∧ u = .int .i64 2 ∧ St cx w' (gX p z fr g N h out L)) := by
 unfold Val.v Val.cells
 all_goals refine lgo tyD Tryz.func187 ?_
 all_goals (refine Zaz ?_; intro p4 w1 hS; refine ZaG ?_)
 all_goals (first | (refine Qd ?_) | (refine Qh ?_) | (refine Q6 rfl rfl (fun hc => ?_) (fun hc => ?_)))
 all_goals (refine zn ?_)
 all_goals
  first
  | (refine zct ?_
     all_goals (refine Zad ?_; have hS : St cx _ (gX p z fr g N h out L) := hS.sp; refine zR2 (c := gE_c 6 hS) (h := ?_); rintro v1 w1 ⟨rfl, hS⟩; refine Zah ?_)
     all_goals ((first | exact ⟨_, rfl, .inl ⟨by omega, rfl, tv, hS⟩⟩ | exact ⟨_, rfl, .inr (.inl ⟨by omega, rfl, hS⟩)⟩)))
  | (refine zcf ?_
     all_goals refine zsk ?_)
 all_goals (refine ZaA ?_)
 all_goals (first | (refine QC ?_) | (refine QJ ?_) | (refine Qj rfl rfl (fun hc => ?_) (fun hc => ?_)))
 all_goals (refine zn ?_)
 all_goals
  first
  | (refine zct ?_
     all_goals (refine Zaq ?_)
     all_goals ((first | exact ⟨_, rfl, .inl ⟨by omega, rfl, tv, hS⟩⟩ | exact ⟨_, rfl, .inr (.inl ⟨by omega, rfl, hS⟩)⟩ | exact ⟨_, rfl, .inr (.inr ⟨by omega, by omega, rfl, hS.sp⟩)⟩)))
  | (refine zcf ?_
     all_goals refine zsk ?_)
 all_goals (refine Zad ?_; refine zv hS ?_; refine zB1 hS [_, _, _, _] ?_; intro b1 w1 hS; have hS := St.slOf (T := 182) (es := 4) (css := [v].map Val.cells) hS rfl (by simp [Val.cells]) rfl; have hS : St cx _ (sl 182 4 (.slice (some ⟨b1, 0, none⟩) 1 1) ([v].map Val.cells) :: gX p z fr g N h out L) := hS.sp; refine zR2 (c := gP_c (vs := [v]) hf (by simp only [List.length_cons, List.length_nil]; omega) hS) (h := ?_); rintro v1 w1 ⟨rfl, tv, hS⟩; refine Zah ?_; exact ⟨_, rfl, .inl ⟨by omega, rfl, tv, hS⟩⟩)
theorem Q5Q {v : Val} {e : Int} (hS : St cx w (gX p z fr g N h out L)) : Rets Tryz.prog Q7O [.pointer (some ⟨p, 0, none⟩), v.v, .int .i64 e] w fun u w' =>
 (v.kind = 4 ∧ e = 0 ∧ u = .int .i64 0 ∧ St cx w' (gX p z fr g N h out L)) ∨ (v.kind = 4 ∧ e = 1 ∧ u = .int .i64 1 ∧ St cx w' (gX p (z.end 2) fr g N h out L)) ∨ ((v.kind = 4 → e ≠ 1 ∧ e ≠ 0) ∧ u = .int .i64 2 ∧ St cx w' (gX p z fr g N h out L)) := by
 unfold Val.v Val.cells
 all_goals refine lgo tyD Tryz.func192 ?_
 all_goals (refine Zaz ?_; intro p4 w1 hS; refine ZaT ?_; refine zf0 ?_; refine zl hS ?_)
 all_goals (first | (refine QC ?_) | (refine QJ ?_) | (refine Qj rfl rfl (fun hc => ?_) (fun hc => ?_)))
 all_goals (refine zn ?_)
 all_goals
  first
  | (refine zct ?_
     all_goals (refine Zaq ?_)
     all_goals ((first | exact ⟨_, rfl, .inr (.inl ⟨by omega, by omega, rfl, hS⟩)⟩ | exact ⟨_, rfl, .inl ⟨by omega, by omega, rfl, hS.sp⟩⟩ | exact ⟨_, rfl, .inr (.inr ⟨by omega, rfl, hS.sp⟩)⟩)))
  | (refine zcf ?_
     all_goals refine zsk ?_)
 all_goals (refine ZaA ?_)
 all_goals (first | (refine Qd ?_) | (refine Qh ?_) | (refine Q6 rfl rfl (fun hc => ?_) (fun hc => ?_)))
 all_goals (refine zn ?_)
 all_goals
  first
  | (refine zct ?_
     all_goals (refine Zad ?_; have hS : St cx _ (gX p z fr g N h out L) := hS.sp; refine zR2 (c := gE_c 2 hS) (h := ?_); rintro v1 w1 ⟨rfl, hS⟩; refine Zah ?_)
     all_goals (exact ⟨_, rfl, .inr (.inl ⟨by omega, by omega, rfl, hS⟩)⟩))
  | (refine zcf ?_
     all_goals refine zsk ?_)
 all_goals (refine ZaA ?_)
 all_goals (first | (refine QC ?_) | (refine QJ ?_) | (refine Qj rfl rfl (fun hc => ?_) (fun hc => ?_)))
 all_goals (refine zn ?_)
 all_goals
  first
  | (refine zct ?_
     all_goals (refine Zaq ?_)
     all_goals ((first | exact ⟨_, rfl, .inr (.inl ⟨by omega, by omega, rfl, hS⟩)⟩ | exact ⟨_, rfl, .inl ⟨by omega, by omega, rfl, hS.sp⟩⟩ | exact ⟨_, rfl, .inr (.inr ⟨by omega, rfl, hS.sp⟩)⟩)))
  | (refine zcf ?_
     all_goals refine zsk ?_)
 all_goals (refine Zaq ?_; (first | exact ⟨_, rfl, .inr (.inl ⟨by omega, by omega, rfl, hS⟩)⟩ | exact ⟨_, rfl, .inl ⟨by omega, by omega, rfl, hS.sp⟩⟩))
end Go.Proofs.YteflkifmgnpbhaaGreat
namespace Go.Proofs.YteflkifmgnpbhaaGreat
open Go.Lir
set_option maxHeartbeats 1000000
attribute [local irreducible] LC.wp Q0 QF QE retQ Q16 LO.wp Qf Calls
set_option linter.unusedSimpArgs false
set_option linter.unusedVariables false
variable {cx : Cx} {w : World} {L : List Res} {p N : Nat} {z : GZ} {fr : List FrmV} {g : FrmV} {h : HpS} {out inp : List Int} {fu : Nat} {m : Module}
@[reducible] def iBlk (b : Nat) (x : Ins) (vr va : Value) : Res := blk b 84 [.int .i64 x.op, .int .i64 x.a, .int .i64 x.b, .int .i64 x.c, .int .i64 x.k, .int .i64 x.n, vr, va]
@[reducible] def vSl (sv : Value) (v : Val) : Res := sl 182 4 sv ([v].map Val.cells)
theorem GQ.go {X : Stp} {fr' : List FrmV} {g' : FrmV} {N' : Nat} {h' : HpS} {out' : List Int} {u : Value} (hX : X = .go (msOf h' g' fr' inp out' fu)) (hi : intR.sl cx z.iv inp) (hN : N' ≤ N + 1) (hu : u = .int .i64 0) (hS : St cx w (gX p z fr' g' N' h' out' L)) : GQ p z N fu h out X cx L u w :=
 .inl ⟨z.fv, z.iv, z.ov, fr', g', N', h', inp, out', hX, hi, hN, hu, hS⟩
theorem GQ.halt {X : Stp} {e : Int} {fr' : List FrmV} {g' : FrmV} {N' : Nat} {u : Value} (hX : X = .halt e) (hN : N' ≤ N + 1) (hu : u = .int .i64 1) (hS : St cx w (gX p (z.end e) fr' g' N' h out L)) : GQ p z N fu h out X cx L u w :=
 .inr (.inl ⟨e, fr', g', N', hX, hN, hu, hS⟩)
attribute [local irreducible] Frm.val Frm.num Frm.args Frm.rgs Frm.reg intsV MS.ins MS.call HpS.get HpS.set HpS.setC HpS.len HpS.code HpS.put HpS.putV HpS.open HpS.shut HpS.full HpS.openV HpS.can HpS.tuple HpS.arr HpS.arrC HpS.arrV opF Q1U
theorem gmem_c {x : Ins} {cs : List Value} (hx : insR.at cx cs x) (hi : intR.sl cx z.iv inp) (hop : 4 ≤ x.op ∧ x.op ≤ 11) (h8 : x.args.length ≤ 100) (hf : fr.length ≤ 900) (hn : g.vals.length ≤ 800000) (hN : N ≤ 99999) (hS : St cx w (gX p z fr g N h out L)) :
 Rets Tryz.prog Q6Q [.pointer (some ⟨p, 0, none⟩), .agg ⟨cs⟩] w (GQ p z N fu h out ((msOf h g fr inp out fu).ins m x) cx L) := by
 obtain ⟨vr, va, rfl, hr, ha⟩ := Q1a hx
 have hil := hi.len
 have hXl := Qb1 (m := m) (s := msOf h g fr inp out fu) (x := x) hop.1 hop.2
 all_goals refine lgo tyD Tryz.func126 ?_
 all_goals (refine Zaz ?_; intro p3 w1 hS; refine ZaE ?_; refine zf0 ?_; refine zl hS ?_; refine zB1 hS [_] ?_; intro b1 w1 hS)
 all_goals (have hS : St cx _ (sl 3 1 (.slice (some ⟨b1, 0, none⟩) 1 1) (Q8 [x.a]) :: gX p z fr g N h out (iBlk p3 x vr va :: L)) := (by have hS := St.slOf (T := 3) (es := 1) (css := Q8 [x.a]) hS rfl (by simp [Q8]) rfl; exact hS.sp); refine zR2 (c := gV_c (by omega) hS) (h := ?_); rintro v1 w1 (⟨v0, sv, hv, ho1, rfl, hS⟩ | ⟨hv, rfl, hS⟩))
 all_goals (refine Zbw ?_; refine ZbI ?_)
 all_goals
  first
  | (refine zct ?_
     all_goals (refine Zaq ?_)
     all_goals (exact ⟨_, rfl, GQ.lost (hXl hv) hS fun _ _ hS => hS.sp⟩))
  | (refine zcf ?_
     all_goals refine zsk ?_)
 all_goals (refine Zav ?_; refine zf0 ?_; refine zl hS ?_; refine ZbF ?_; refine Zaa ?_)
 all_goals (first | (refine Qd ?_) | (refine Qh ?_) | (refine Q6 rfl rfl (fun hc => ?_) (fun hc => ?_)))
 all_goals (refine Zac ?_)
 all_goals
  first
  | (refine zct ?_
     all_goals (refine Zbv ?_; refine zD (ci 8 [6, 7]) ?_; have hS := hS.drew; refine Zbe ?_; refine zf0 ?_; refine zm ?_; refine QV hS vw rfl fd (by simp) (by simp) ?_; intro b2 o2 hel2; refine Q1i hS hel2 rfl fd rfl rfl ?_)
     all_goals (refine zR2 (c := rtshut_c v0 hS fd) (h := ?_); rintro v1 w1 ⟨rfl, hS⟩; have hS := hS.ns; cases hcan : h.can v0)
     all_goals (refine Zba ?_)
     all_goals
      first
      | (refine zct ?_
         all_goals (refine Qb ?_; have hX := (Q9y (m := m) (s := msOf h g fr inp out fu) (x := x) (by omega)).trans ((Q3 hv).trans (if_pos hcan)); refine Zbm ?_)
         all_goals ((first | exact ⟨_, rfl, GQ.lost (hXl hv) hS fun _ _ hS => hS.sp⟩ | exact ⟨_, rfl, GQ.lost hX hS fun _ _ hS => hS.sp⟩)))
      | (refine zcf ?_
         all_goals refine zsk ?_)
     all_goals (refine Qb ?_; have hX := (Q9y (m := m) (s := msOf h g fr inp out fu) (x := x) (by omega)).trans ((Q3 hv).trans (if_neg (show ¬ h.can v0 = false by rw [hcan]; decide))); refine Zbm ?_)
     all_goals ((first | exact ⟨_, rfl, GQ.lost (hXl hv) hS fun _ _ hS => hS.sp⟩ | exact ⟨_, rfl, GQ.lost hX hS fun _ _ hS => hS.sp⟩ | exact ⟨_, rfl, GQ.lost (hX.trans (Q25 he)) hS fun _ _ hS => hS.sp⟩ | exact ⟨_, rfl, GQ.lost (hX.trans (Q1N he2 he)) hS fun _ _ hS => hS.sp⟩ | exact ⟨_, rfl, GQ.go (fr' := fr) (g' := g) (h' := h.shut v0) (out' := out) hX hi (Nat.le_succ N) rfl hS.sp⟩)))
  | (refine zcf ?_
     all_goals (refine Zaa ?_)
     all_goals (first | (refine Qd ?_) | (refine Qh ?_) | (refine Q6 rfl rfl (fun hc => ?_) (fun hc => ?_)))
     all_goals (refine Zac ?_)
     all_goals
      first
      | (refine zct ?_
         all_goals (refine Zad ?_; refine zf0 ?_; refine zl hS ?_)
         all_goals (refine zR2 (c := Qcj (by omega) (by omega) ha (show St cx _ (gX p z fr g N h out _) from hS)) (h := ?_); rintro v1 w1 (⟨vs, sw, hvs, hvl, ho2, rfl, hS⟩ | ⟨hvs, rfl, hS⟩))
         all_goals (refine Zbw ?_; refine ZbI ?_)
         all_goals
          first
          | (refine zct ?_
             all_goals (refine Qb ?_; have hX := (Q9x (m := m) (s := msOf h g fr inp out fu) (x := x) (by omega)).trans ((Q3 hv).trans (Qx hvs)); refine Zbm ?_)
             all_goals ((first | exact ⟨_, rfl, GQ.lost (hXl hv) hS fun _ _ hS => hS.sp⟩ | exact ⟨_, rfl, GQ.lost hX hS fun _ _ hS => hS.sp⟩)))
          | (refine zcf ?_
             all_goals refine zsk ?_)
         all_goals (refine Qb ?_; refine zC [(0, none), (1, none), (2, none), (3, none), (4, none), (5, none), (6, none), (7, none), (8, some (some [])), (9, none), (10, none), (11, some none), (12, some none)] ?_; have hS := hS.drew; refine ZbV ?_; refine zf0 ?_; refine Zat ?_; refine QV hS vw rfl fd (by simp) (by simp) ?_; intro b2 o2 hel2; refine Zab ?_; refine Q1i hS hel2 rfl fd rfl rfl ?_; refine ZbY ?_; refine Zar ?_; refine zR3 (c := QbG (N := N) (s := h) (j := 6) v0 sw vs (by omega) (by omega) hS fd rfl) (h := ?_); rintro v1 w1 ⟨rfl, hS⟩; have hS := hS.ns; refine ZaI ?_; refine Zbu ?_; refine Zax ?_)
         all_goals (refine zR3 (c := ggot_c (v := h.putV v0 3 (Q1U vs)) (by omega) (by omega) (show St cx _ (gX p z fr g (N + 1) (h.tuple v0 vs) out _) from hS)) (h := ?_); have hX := (Q9x (m := m) (s := msOf h g fr inp out fu) (x := x) (by omega)).trans ((Q3 hv).trans (Q3 hvs)); rintro v1 w1 (⟨he, rfl, tv, hS⟩ | ⟨he, rfl, hS⟩ | ⟨he, he2, rfl, hS⟩))
         all_goals (refine ZbD ?_; refine zr ?_; refine zf ?_)
         all_goals (first | (first | exact ⟨_, rfl, GQ.lost (hXl hv) hS fun _ _ hS => hS.sp⟩ | exact ⟨_, rfl, GQ.lost hX hS fun _ _ hS => hS.sp⟩ | exact ⟨_, rfl, GQ.lost (hX.trans (Q25 he)) hS fun _ _ hS => hS.sp⟩ | exact ⟨_, rfl, GQ.lost (hX.trans (Q1N he2 he)) hS fun _ _ hS => hS.sp⟩ | exact ⟨_, rfl, GQ.go (fr' := fr) (g' := g) (h' := h.shut v0) (out' := out) hX hi (Nat.le_succ N) rfl hS.sp⟩ | exact ⟨_, rfl, GQ.go (fr' := fr) (g' := g) (h' := h.set v0 x.k y0) (out' := out) hX hi (Nat.le_succ N) rfl hS.sp⟩ | exact ⟨_, rfl, GQ.go (fr' := fr) (g' := g) (h' := h.set v0 n0 (intV c0)) (out' := out) (hX.trans (Q1b hk4 he)) hi (Nat.le_succ N) rfl hS.sp⟩ | exact ⟨_, rfl, GQ.go (fr' := fr) (g' := g.push tv [(h.get v0 x.k).1]) (h' := h) (out' := out) hX hi (Nat.le_succ N) rfl hS.sp⟩ | exact ⟨_, rfl, GQ.go (fr' := fr) (g' := g.push tv [(h.get v0 n0).1]) (h' := h) (out' := out) (hX.trans (Q1b hk4 he)) hi (Nat.le_succ N) rfl hS.sp⟩ | exact ⟨_, rfl, GQ.go (fr' := fr) (g' := g.push tv [intV (h.len v0).1]) (h' := h) (out' := out) (hX.trans (Q1b hk4 he)) hi (Nat.le_succ N) rfl hS.sp⟩ | exact ⟨_, rfl, GQ.go (fr' := fr) (g' := g.push tv [h.putV v0 3 (Q1U vs)]) (h' := h.tuple v0 vs) (out' := out) (hX.trans (Q2j he)) hi (Nat.le_refl _) rfl hS.sp⟩ | exact ⟨_, rfl, GQ.go (fr' := fr) (g' := g.push tv [h.arrV v0 n0]) (h' := h.arr v0 n0) (out' := out) (hX.trans (Q2j he)) hi (Nat.le_refl _) rfl hS.sp⟩ | exact ⟨_, rfl, GQ.halt (fr' := fr) (g' := g) (N' := N) hX (Nat.le_succ N) rfl hS.sp⟩ | exact ⟨_, rfl, GQ.halt (fr' := fr) (g' := g) (N' := N) (hX.trans (Q35 hk4 he)) (Nat.le_succ N) rfl hS.sp⟩) | (have hS := hS; rw [Q5L (by rw [he]; decide)] at hS; exact ⟨_, rfl, GQ.halt (fr' := fr) (g' := g) (N' := N + 1) (hX.trans (Q3h he)) (Nat.le_refl _) rfl hS.sp⟩)))
      | (refine zcf ?_
         all_goals (refine Zaa ?_)
         all_goals (first | (refine Qd ?_) | (refine Qh ?_) | (refine Q6 rfl rfl (fun hc => ?_) (fun hc => ?_)))
         all_goals (refine Zac ?_)
         all_goals
          first
          | (refine zct ?_
             all_goals (refine Zad ?_; refine zf0 ?_; refine zl hS ?_; refine zB1 hS [_] ?_; intro b1 w1 hS)
             all_goals (have hS : St cx _ (sl 3 1 (.slice (some ⟨b1, 0, none⟩) 1 1) (Q8 [x.b]) :: gX p z fr g N h out (vSl sv v0 :: iBlk p3 x vr va :: L)) := (by have hS := St.slOf (T := 3) (es := 1) (css := Q8 [x.b]) hS rfl (by simp [Q8]) rfl; exact hS.sp); refine zR2 (c := gN_c (by omega) hS) (h := ?_); rintro v1 w1 (⟨n0, sn, hn0, ho2, rfl, hS⟩ | ⟨hn0, sn, rfl, hS⟩))
             all_goals (refine Zbw ?_; refine ZbI ?_)
             all_goals
              first
              | (refine zct ?_
                 all_goals (refine Qb ?_; have hX := x8_n (m := m) (s := msOf h g fr inp out fu) (x := x) (by omega) hv hn0; refine Zbm ?_)
                 all_goals ((first | exact ⟨_, rfl, GQ.lost (hXl hv) hS fun _ _ hS => hS.sp⟩ | exact ⟨_, rfl, GQ.lost hX hS fun _ _ hS => hS.sp⟩)))
              | (refine zcf ?_
                 all_goals refine zsk ?_)
             all_goals (refine ZaA ?_; refine QV hS vw rfl fd (by simp) (by simp) ?_; intro b2 o2 hel2; refine Q1f hS hel2 rfl fd rfl rfl rfl ?_)
             all_goals (first | (refine Q1c ?_) | (refine Q1l ?_) | (refine QB rfl rfl (fun hc => ?_) (fun hc => ?_)))
             all_goals (refine zm ?_; (first | refine zgn ?_ | (refine Zam ?_)); (first | (refine zgn ?_) | (refine zgy ?_; refine QV hS vw rfl fd (by simp) (by simp) ?_; intro b3 o3 hel3)); (first | (refine zgn ?_) | (refine zgy ?_; refine Q1f hS hel3 rfl fd rfl rfl rfl ?_)))
             all_goals (first | refine zgn ?_ | (refine zgy ?_; (first | (refine QG ?_) | (refine QL ?_) | (refine Qc rfl rfl (fun hc => ?_) (fun hc => ?_)))))
             all_goals (refine Zaf ?_)
             all_goals
              first
              | (refine zct ?_
                 all_goals (refine Zad ?_; refine zR2 (c := gE_c 3 (show St cx _ (gX p z fr g N h out _) from hS)) (h := ?_); rintro v1 w1 ⟨rfl, hS⟩; have hX := x8_h (m := m) (s := msOf h g fr inp out fu) (x := x) (by omega) hv hn0 (by omega); refine Zah ?_)
                 all_goals ((first | exact ⟨_, rfl, GQ.lost (hXl hv) hS fun _ _ hS => hS.sp⟩ | exact ⟨_, rfl, GQ.lost hX hS fun _ _ hS => hS.sp⟩ | exact ⟨_, rfl, GQ.lost (hX.trans (Q25 he)) hS fun _ _ hS => hS.sp⟩ | exact ⟨_, rfl, GQ.lost (hX.trans (Q1N he2 he)) hS fun _ _ hS => hS.sp⟩ | exact ⟨_, rfl, GQ.go (fr' := fr) (g' := g) (h' := h.shut v0) (out' := out) hX hi (Nat.le_succ N) rfl hS.sp⟩ | exact ⟨_, rfl, GQ.go (fr' := fr) (g' := g) (h' := h.set v0 x.k y0) (out' := out) hX hi (Nat.le_succ N) rfl hS.sp⟩ | exact ⟨_, rfl, GQ.go (fr' := fr) (g' := g) (h' := h.set v0 n0 (intV c0)) (out' := out) (hX.trans (Q1b hk4 he)) hi (Nat.le_succ N) rfl hS.sp⟩ | exact ⟨_, rfl, GQ.go (fr' := fr) (g' := g.push tv [(h.get v0 x.k).1]) (h' := h) (out' := out) hX hi (Nat.le_succ N) rfl hS.sp⟩ | exact ⟨_, rfl, GQ.go (fr' := fr) (g' := g.push tv [(h.get v0 n0).1]) (h' := h) (out' := out) (hX.trans (Q1b hk4 he)) hi (Nat.le_succ N) rfl hS.sp⟩ | exact ⟨_, rfl, GQ.go (fr' := fr) (g' := g.push tv [intV (h.len v0).1]) (h' := h) (out' := out) (hX.trans (Q1b hk4 he)) hi (Nat.le_succ N) rfl hS.sp⟩ | exact ⟨_, rfl, GQ.go (fr' := fr) (g' := g.push tv [h.putV v0 3 (Q1U vs)]) (h' := h.tuple v0 vs) (out' := out) (hX.trans (Q2j he)) hi (Nat.le_refl _) rfl hS.sp⟩ | exact ⟨_, rfl, GQ.go (fr' := fr) (g' := g.push tv [h.arrV v0 n0]) (h' := h.arr v0 n0) (out' := out) (hX.trans (Q2j he)) hi (Nat.le_refl _) rfl hS.sp⟩ | exact ⟨_, rfl, GQ.halt (fr' := fr) (g' := g) (N' := N) hX (Nat.le_succ N) rfl hS.sp⟩)))
              | (refine zcf ?_
                 all_goals refine zsk ?_)
             all_goals (refine Qb ?_; refine zC [(0, none), (1, none), (2, none), (3, none), (4, none), (5, none), (6, none), (7, none), (8, none), (9, none), (10, some (some [])), (11, none), (12, none), (13, some none), (14, some none)] ?_; have hS := hS.drew; refine ZbV ?_; refine zf0 ?_; refine Zat ?_; refine QV hS vw rfl fd (by simp) (by simp) ?_; intro b4 o4 hel4; refine Zab ?_; refine Q1i hS hel4 rfl fd rfl rfl ?_; refine Zat ?_; refine QV hS vw rfl fd (by simp) (by simp) ?_; intro b5 o5 hel5; refine Zab ?_; refine Q1f hS hel5 rfl fd rfl rfl rfl ?_; refine Zar ?_; refine zR3 (c := QbK (N := N) (s := h) v0 n0 (by omega) hS fd) (h := ?_); rintro v1 w1 ⟨rfl, hS⟩; have hS := hS.ns; refine ZaI ?_; refine Zbu ?_; refine Zax ?_)
             all_goals (refine zR3 (c := ggot_c (v := h.arrV v0 n0) (by omega) (by omega) (show St cx _ (gX p z fr g (N + 1) (h.arr v0 n0) out _) from hS)) (h := ?_); have hX := x8_m (m := m) (s := msOf h g fr inp out fu) (x := x) (by omega) hv hn0 (by omega); rintro v1 w1 (⟨he, rfl, tv, hS⟩ | ⟨he, rfl, hS⟩ | ⟨he, he2, rfl, hS⟩))
             all_goals (refine ZbD ?_; refine zr ?_; refine zf ?_)
             all_goals (first | (first | exact ⟨_, rfl, GQ.lost (hXl hv) hS fun _ _ hS => hS.sp⟩ | exact ⟨_, rfl, GQ.lost hX hS fun _ _ hS => hS.sp⟩ | exact ⟨_, rfl, GQ.lost (hX.trans (Q25 he)) hS fun _ _ hS => hS.sp⟩ | exact ⟨_, rfl, GQ.lost (hX.trans (Q1N he2 he)) hS fun _ _ hS => hS.sp⟩ | exact ⟨_, rfl, GQ.go (fr' := fr) (g' := g) (h' := h.shut v0) (out' := out) hX hi (Nat.le_succ N) rfl hS.sp⟩ | exact ⟨_, rfl, GQ.go (fr' := fr) (g' := g) (h' := h.set v0 x.k y0) (out' := out) hX hi (Nat.le_succ N) rfl hS.sp⟩ | exact ⟨_, rfl, GQ.go (fr' := fr) (g' := g) (h' := h.set v0 n0 (intV c0)) (out' := out) (hX.trans (Q1b hk4 he)) hi (Nat.le_succ N) rfl hS.sp⟩ | exact ⟨_, rfl, GQ.go (fr' := fr) (g' := g.push tv [(h.get v0 x.k).1]) (h' := h) (out' := out) hX hi (Nat.le_succ N) rfl hS.sp⟩ | exact ⟨_, rfl, GQ.go (fr' := fr) (g' := g.push tv [(h.get v0 n0).1]) (h' := h) (out' := out) (hX.trans (Q1b hk4 he)) hi (Nat.le_succ N) rfl hS.sp⟩ | exact ⟨_, rfl, GQ.go (fr' := fr) (g' := g.push tv [intV (h.len v0).1]) (h' := h) (out' := out) (hX.trans (Q1b hk4 he)) hi (Nat.le_succ N) rfl hS.sp⟩ | exact ⟨_, rfl, GQ.go (fr' := fr) (g' := g.push tv [h.putV v0 3 (Q1U vs)]) (h' := h.tuple v0 vs) (out' := out) (hX.trans (Q2j he)) hi (Nat.le_refl _) rfl hS.sp⟩ | exact ⟨_, rfl, GQ.go (fr' := fr) (g' := g.push tv [h.arrV v0 n0]) (h' := h.arr v0 n0) (out' := out) (hX.trans (Q2j he)) hi (Nat.le_refl _) rfl hS.sp⟩ | exact ⟨_, rfl, GQ.halt (fr' := fr) (g' := g) (N' := N) hX (Nat.le_succ N) rfl hS.sp⟩ | exact ⟨_, rfl, GQ.halt (fr' := fr) (g' := g) (N' := N) (hX.trans (Q35 hk4 he)) (Nat.le_succ N) rfl hS.sp⟩) | (have hS := hS; rw [Q5L (by rw [he]; decide)] at hS; exact ⟨_, rfl, GQ.halt (fr' := fr) (g' := g) (N' := N + 1) (hX.trans (Q3h he)) (Nat.le_refl _) rfl hS.sp⟩) | (rw [Q8k (by rw [he]; decide)] at hS; exact ⟨_, rfl, GQ.halt (fr' := fr) (g' := g) (N' := N + 1) (hX.trans (Q3h he)) (Nat.le_refl _) rfl hS.sp⟩)))
          | (refine zcf ?_
             all_goals (refine Zaa ?_)
             all_goals (first | (refine Qd ?_) | (refine Qh ?_) | (refine Q6 rfl rfl (fun hc => ?_) (fun hc => ?_)))
             all_goals (refine Zac ?_)
             all_goals
              first
              | (refine zct ?_
                 all_goals (refine Qb ?_)
                 refine Q1p 8 12 (by kernel_rfl) ?_ ?_
                 · skip
                   all_goals (refine zC [(0, none), (1, none), (2, none), (3, none), (4, none), (5, none), (6, none), (7, none), (8, some none), (9, none), (10, none), (11, none), (12, some (some [])), (13, some (some [])), (14, some none)] ?_; have hS := hS.drew; refine Zbo ?_; refine zf0 ?_; refine Zat ?_; refine QV hS vw rfl fd (by simp) (by simp) ?_; intro b2 o2 hel2; refine Zab ?_; refine Q1i hS hel2 rfl fd rfl rfl ?_; refine Zab ?_; refine zf0 ?_; refine Zab ?_; refine zl hS ?_; refine Zax ?_; refine zR3 (c := Q7n v0 x.k hS fd) (h := ?_); rintro v1 w1 ⟨rfl, hS⟩; refine ZbO ?_; refine ZaR ?_; intro p11 w1 hS; refine zt ?_; refine ⟨fun _ h => (List.not_mem_nil h).elim, ?_⟩; refine Q4n ?_; refine Q1n hS rfl rfl (by rfl) fd (by simp) (QQ _) (by rfl) ?_; intro w1 hS; have hS := hS.ns; refine ZbW ?_; refine Qb ?_)
                   all_goals (refine Qb ?_; have hS : St cx _ (gX p z fr g N h out (vSl sv v0 :: blk p11 182 (h.get v0 x.k).1.cells :: iBlk p3 x vr va :: L)) := hS.sp; refine Zak ?_; refine QV hS vw rfl fd (by simp) (by simp) ?_; intro b3 o3 hel3; (first | refine zf0 ?_ | refine zfd ?_); refine Q1 hS hel3 rfl fd rfl rfl rfl ?_)
                   all_goals (first | (refine QC ?_) | (refine QJ ?_) | (refine Qj rfl rfl (fun hc => ?_) (fun hc => ?_)))
                   all_goals (refine zm ?_; (first | refine zgn ?_ | (refine Zam ?_)))
                   all_goals (first | refine zgn ?_ | (refine zgy ?_; (first | (refine QC ?_) | (refine QJ ?_) | (refine Qj rfl rfl (fun hc => ?_) (fun hc => ?_)))))
                   all_goals (refine Zaf ?_)
                   all_goals
                    first
                    | (refine zct ?_
                       all_goals (refine Qb ?_; have hX := Qb4 (m := m) (s := msOf h g fr inp out fu) (x := x) (by omega) hv (by first | exact .inl (by omega) | exact .inr (by show (h.get v0 x.k).2 ≠ 0; omega)); refine Zbm ?_)
                       all_goals ((first | exact ⟨_, rfl, GQ.lost (hXl hv) hS fun _ _ hS => hS.sp⟩ | exact ⟨_, rfl, GQ.lost hX hS fun _ _ hS => hS.sp⟩)))
                    | (refine zcf ?_
                       all_goals refine zsk ?_)
                   all_goals (refine Qb ?_; have hX := x6_go (m := m) (s := msOf h g fr inp out fu) (x := x) (by omega) hv (by omega) (show (h.get v0 x.k).2 = 0 by omega); refine Zak ?_; refine zv hS ?_; refine zB1 hS [_, _, _, _] ?_; intro b1 w1 hS; have hS : St cx _ (vSl (.slice (some ⟨b1, 0, none⟩) 1 1) (h.get v0 x.k).1 :: gX p z fr g N h out L) := (by have hS := St.slOf (T := 182) (es := 4) (css := [(h.get v0 x.k).1].map Val.cells) hS rfl (by simp [Val.cells]) rfl; exact hS.sp); refine zR2 (c := gP_c (vs := [(h.get v0 x.k).1]) (by omega) (by simp only [List.length_cons, List.length_nil]; omega) hS) (h := ?_); rintro v1 w1 ⟨rfl, tv, hS⟩; refine Zah ?_; (first | exact ⟨_, rfl, GQ.lost (hXl hv) hS fun _ _ hS => hS.sp⟩ | exact ⟨_, rfl, GQ.lost hX hS fun _ _ hS => hS.sp⟩ | exact ⟨_, rfl, GQ.lost (hX.trans (Q25 he)) hS fun _ _ hS => hS.sp⟩ | exact ⟨_, rfl, GQ.lost (hX.trans (Q1N he2 he)) hS fun _ _ hS => hS.sp⟩ | exact ⟨_, rfl, GQ.go (fr' := fr) (g' := g) (h' := h.shut v0) (out' := out) hX hi (Nat.le_succ N) rfl hS.sp⟩ | exact ⟨_, rfl, GQ.go (fr' := fr) (g' := g) (h' := h.set v0 x.k y0) (out' := out) hX hi (Nat.le_succ N) rfl hS.sp⟩ | exact ⟨_, rfl, GQ.go (fr' := fr) (g' := g) (h' := h.set v0 n0 (intV c0)) (out' := out) (hX.trans (Q1b hk4 he)) hi (Nat.le_succ N) rfl hS.sp⟩ | exact ⟨_, rfl, GQ.go (fr' := fr) (g' := g.push tv [(h.get v0 x.k).1]) (h' := h) (out' := out) hX hi (Nat.le_succ N) rfl hS.sp⟩))
                 · skip
                   all_goals (refine zC [(0, none), (1, none), (2, none), (3, none), (4, none), (5, none), (6, none), (7, none), (12, some (some [5, 7])), (8, some none), (9, none), (10, none), (11, none), (13, some (some [])), (14, some none)] ?_; have hS := hS.drew; refine Zbo ?_; refine zf0 ?_; refine Zat ?_; refine QV hS vw rfl fd (by simp) (by simp) ?_; intro b2 o2 hel2; refine Zab ?_; refine Q1i hS hel2 rfl fd rfl rfl ?_; refine Zab ?_; refine zf0 ?_; refine Zab ?_; refine zl hS ?_; refine ZaR ?_; intro p11 w1 hS; refine zt ?_; refine ⟨List.forall_mem_cons.2 ⟨(by (exact Q3N hS hel2 rfl fd rfl rfl)), List.forall_mem_cons.2 ⟨(by first | (exact Q3N hS hel2 rfl fd rfl rfl) | (exact Q1E hS rfl fd rfl)), fun _ h => (List.not_mem_nil h).elim⟩⟩, ?_⟩)
                   all_goals (refine s_cf ?_; refine zR3 (c := Q7n v0 x.k hS fd) (h := ?_); rintro v1 w1 ⟨rfl, hS⟩; refine ZbO ?_; refine Zar ?_; refine Q1n hS rfl rfl (by rfl) fd (by simp) (QQ _) (by rfl) ?_; intro w1 hS; have hS := hS.ns; refine ZbW ?_; refine Zbv ?_; have hS : St cx _ (gX p z fr g N h out (vSl sv v0 :: blk p11 182 (h.get v0 x.k).1.cells :: iBlk p3 x vr va :: L)) := hS.sp; refine Zak ?_; refine QV hS vw rfl fd (by simp) (by simp) ?_; intro b3 o3 hel3; (first | refine zf0 ?_ | refine zfd ?_); refine Q1 hS hel3 rfl fd rfl rfl rfl ?_)
                   all_goals (first | (refine QC ?_) | (refine QJ ?_) | (refine Qj rfl rfl (fun hc => ?_) (fun hc => ?_)))
                   all_goals (refine zm ?_; (first | refine zgn ?_ | (refine Zam ?_)))
                   all_goals (first | refine zgn ?_ | (refine zgy ?_; (first | (refine QC ?_) | (refine QJ ?_) | (refine Qj rfl rfl (fun hc => ?_) (fun hc => ?_)))))
                   all_goals (refine Zaf ?_)
                   all_goals
                    first
                    | (refine zct ?_
                       all_goals (refine Qb ?_; have hX := Qb4 (m := m) (s := msOf h g fr inp out fu) (x := x) (by omega) hv (by first | exact .inl (by omega) | exact .inr (by show (h.get v0 x.k).2 ≠ 0; omega)); refine Zbm ?_)
                       all_goals ((first | exact ⟨_, rfl, GQ.lost (hXl hv) hS fun _ _ hS => hS.sp⟩ | exact ⟨_, rfl, GQ.lost hX hS fun _ _ hS => hS.sp⟩)))
                    | (refine zcf ?_
                       all_goals refine zsk ?_)
                   all_goals (refine Qb ?_; have hX := x6_go (m := m) (s := msOf h g fr inp out fu) (x := x) (by omega) hv (by omega) (show (h.get v0 x.k).2 = 0 by omega); refine Zak ?_; refine zv hS ?_; refine zB1 hS [_, _, _, _] ?_; intro b1 w1 hS; have hS : St cx _ (vSl (.slice (some ⟨b1, 0, none⟩) 1 1) (h.get v0 x.k).1 :: gX p z fr g N h out L) := (by have hS := St.slOf (T := 182) (es := 4) (css := [(h.get v0 x.k).1].map Val.cells) hS rfl (by simp [Val.cells]) rfl; exact hS.sp); refine zR2 (c := gP_c (vs := [(h.get v0 x.k).1]) (by omega) (by simp only [List.length_cons, List.length_nil]; omega) hS) (h := ?_); rintro v1 w1 ⟨rfl, tv, hS⟩; refine Zah ?_)
                   all_goals ((first | exact ⟨_, rfl, GQ.lost (hXl hv) hS fun _ _ hS => hS.sp⟩ | exact ⟨_, rfl, GQ.lost hX hS fun _ _ hS => hS.sp⟩ | exact ⟨_, rfl, GQ.lost (hX.trans (Q25 he)) hS fun _ _ hS => hS.sp⟩ | exact ⟨_, rfl, GQ.lost (hX.trans (Q1N he2 he)) hS fun _ _ hS => hS.sp⟩ | exact ⟨_, rfl, GQ.go (fr' := fr) (g' := g) (h' := h.shut v0) (out' := out) hX hi (Nat.le_succ N) rfl hS.sp⟩ | exact ⟨_, rfl, GQ.go (fr' := fr) (g' := g) (h' := h.set v0 x.k y0) (out' := out) hX hi (Nat.le_succ N) rfl hS.sp⟩ | exact ⟨_, rfl, GQ.go (fr' := fr) (g' := g) (h' := h.set v0 n0 (intV c0)) (out' := out) (hX.trans (Q1b hk4 he)) hi (Nat.le_succ N) rfl hS.sp⟩ | exact ⟨_, rfl, GQ.go (fr' := fr) (g' := g.push tv [(h.get v0 x.k).1]) (h' := h) (out' := out) hX hi (Nat.le_succ N) rfl hS.sp⟩)))
              | (refine zcf ?_
                 all_goals (refine Zaa ?_)
                 all_goals (first | (refine Qd ?_) | (refine Qh ?_) | (refine Q6 rfl rfl (fun hc => ?_) (fun hc => ?_)))
                 all_goals (refine Zac ?_)
                 all_goals
                  first
                  | (refine zct ?_
                     all_goals (refine Zad ?_; refine zf0 ?_; refine zl hS ?_; refine zB1 hS [_] ?_; intro b1 w1 hS)
                     all_goals (have hS : St cx _ (sl 3 1 (.slice (some ⟨b1, 0, none⟩) 1 1) (Q8 [x.b]) :: gX p z fr g N h out (vSl sv v0 :: iBlk p3 x vr va :: L)) := (by have hS := St.slOf (T := 3) (es := 1) (css := Q8 [x.b]) hS rfl (by simp [Q8]) rfl; exact hS.sp); refine zR2 (c := gV_c (by omega) hS) (h := ?_); rintro v1 w1 (⟨y0, sn, hn0, ho2, rfl, hS⟩ | ⟨hn0, rfl, hS⟩))
                     all_goals (refine Zbw ?_; refine ZbA ?_; refine zD (ci 24 [21, 23]) ?_; have hS := hS.drew; refine zm ?_; refine znt ?_; refine zm ?_; (first | refine zgn ?_ | (refine Zam ?_)); (first | (refine zgn ?_) | (refine zgy ?_; refine QV hS vw rfl fd (by simp) (by simp) ?_; intro b3 o3 hel3)); (first | refine zgn ?_ | (refine Zaj ?_)); (first | (refine zgn ?_) | (refine zgy ?_; refine Q1 hS hel3 rfl fd rfl rfl rfl ?_)))
                     all_goals (first | refine zgn ?_ | (refine zgy ?_; (first | (refine QC ?_) | (refine QJ ?_) | (refine Qj rfl rfl (fun hc => ?_) (fun hc => ?_)))))
                     all_goals (refine Zai ?_; (first | refine zgn ?_ | (refine Zam ?_)); (first | refine zgn ?_ | (refine ZaQ ?_)); (first | refine zgn ?_ | (refine zgy ?_; refine zf0 ?_)); (first | refine zgn ?_ | (refine Zam ?_)); (first | (refine zgn ?_) | (refine zgy ?_; refine QV hS vw rfl fd (by simp) (by simp) ?_; intro b4 o4 hel4)); (first | (refine zgn ?_) | (refine zgy ?_; refine Q1i hS hel4 rfl fd rfl rfl ?_)); (first | refine zgn ?_ | (refine zgy ?_; refine zf0 ?_)); (first | refine zgn ?_ | (refine zgy ?_; refine zl hS ?_)); (first | refine zgn ?_ | (refine Zam ?_)); (first | (refine zgn ?_) | (refine zgy ?_; refine QV hS vw rfl fd (by simp) (by simp) ?_; intro b5 o5 hel5)); (first | (refine zgn ?_) | (refine zgy ?_; refine Q1i hS hel5 rfl fd rfl rfl ?_)); (first | (refine zgn ?_) | (refine zgy ?_; refine zR4 (c := QbH v0 x.k y0 hS fd) (h := ?_); rintro v1 w1 ⟨rfl, hS⟩; have hS := hS.ns)))
                     all_goals (first | refine zgn ?_ | (refine zgy ?_; (first | (refine QC ?_) | (refine QJ ?_) | (refine Qj rfl rfl (fun hc => ?_) (fun hc => ?_)))))
                     all_goals (refine Zaf ?_)
                     all_goals
                      first
                      | (refine zct ?_
                         all_goals (refine Qb ?_; have hX : MS.ins m (msOf h g fr inp out fu) x = .lost := (by first | exact Qb3 (by omega) hv (.inl hn0) | exact Qb3 (by omega) hv (.inr (by omega)) | exact x7_lost2 (by omega) hv hn0 (.inr (show h.setC v0 x.k y0 ≠ 0 by omega))); refine Zbm ?_)
                         all_goals ((first | exact ⟨_, rfl, GQ.lost (hXl hv) hS fun _ _ hS => hS.sp⟩ | exact ⟨_, rfl, GQ.lost hX hS fun _ _ hS => hS.sp⟩)))
                      | (refine zcf ?_
                         all_goals refine zsk ?_)
                     all_goals (refine Qb ?_; have hX := x7_go (m := m) (s := msOf h g fr inp out fu) (x := x) (by omega) hv hn0 (by omega) (show h.setC v0 x.k y0 = 0 by omega); refine Zbm ?_)
                     all_goals ((first | exact ⟨_, rfl, GQ.lost (hXl hv) hS fun _ _ hS => hS.sp⟩ | exact ⟨_, rfl, GQ.lost hX hS fun _ _ hS => hS.sp⟩ | exact ⟨_, rfl, GQ.lost (hX.trans (Q25 he)) hS fun _ _ hS => hS.sp⟩ | exact ⟨_, rfl, GQ.lost (hX.trans (Q1N he2 he)) hS fun _ _ hS => hS.sp⟩ | exact ⟨_, rfl, GQ.go (fr' := fr) (g' := g) (h' := h.shut v0) (out' := out) hX hi (Nat.le_succ N) rfl hS.sp⟩ | exact ⟨_, rfl, GQ.go (fr' := fr) (g' := g) (h' := h.set v0 x.k y0) (out' := out) hX hi (Nat.le_succ N) rfl hS.sp⟩)))
                  | (refine zcf ?_
                     all_goals (refine Zaa ?_)
                     all_goals (first | (refine Qd ?_) | (refine Qh ?_) | (refine Q6 rfl rfl (fun hc => ?_) (fun hc => ?_)))
                     all_goals (refine Zac ?_)
                     all_goals
                      first
                      | (refine zct ?_
                         all_goals (refine Zad ?_; refine zf0 ?_; refine zl hS ?_; refine zB1 hS [_] ?_; intro b1 w1 hS)
                         all_goals (have hS : St cx _ (sl 3 1 (.slice (some ⟨b1, 0, none⟩) 1 1) (Q8 [x.b]) :: gX p z fr g N h out (vSl sv v0 :: iBlk p3 x vr va :: L)) := (by have hS := St.slOf (T := 3) (es := 1) (css := Q8 [x.b]) hS rfl (by simp [Q8]) rfl; exact hS.sp); refine zR2 (c := gN_c (by omega) hS) (h := ?_); rintro v1 w1 (⟨n0, sn, hn0, ho2, rfl, hS⟩ | ⟨hn0, sn, rfl, hS⟩))
                         all_goals (refine Zbw ?_; refine ZbI ?_)
                         all_goals
                          first
                          | (refine zct ?_
                             all_goals (refine Qb ?_; have hX := x9_n (m := m) (s := msOf h g fr inp out fu) (x := x) (by omega) hv hn0; refine Zbm ?_)
                             all_goals ((first | exact ⟨_, rfl, GQ.lost (hXl hv) hS fun _ _ hS => hS.sp⟩ | exact ⟨_, rfl, GQ.lost hX hS fun _ _ hS => hS.sp⟩)))
                          | (refine zcf ?_
                             all_goals refine zsk ?_)
                         all_goals (refine Qb ?_)
                         refine Q1p 9 13 (by kernel_rfl) ?_ ?_
                         · skip
                           all_goals (refine zC [(0, none), (1, none), (2, none), (3, none), (4, none), (5, none), (6, none), (7, none), (8, none), (9, some none), (10, none), (11, none), (12, none), (13, some (some [])), (14, some (some [])), (15, some none)] ?_; have hS := hS.drew; refine Zbo ?_; refine zf0 ?_; refine Zat ?_; refine QV hS vw rfl fd (by simp) (by simp) ?_; intro b3 o3 hel3; refine Zab ?_; refine Q1i hS hel3 rfl fd rfl rfl ?_; refine Zat ?_; refine QV hS vw rfl fd (by simp) (by simp) ?_; intro b4 o4 hel4; refine Zab ?_; refine Q1f hS hel4 rfl fd rfl rfl rfl ?_; refine Zax ?_; refine zR3 (c := Q7n v0 n0 hS fd) (h := ?_); rintro v1 w1 ⟨rfl, hS⟩; refine ZbO ?_; refine ZaR ?_; intro p17 w1 hS; refine zt ?_; refine ⟨fun _ h => (List.not_mem_nil h).elim, ?_⟩; refine Q4n ?_; refine Q1n hS rfl rfl (by rfl) fd (by simp) (QQ _) (by rfl) ?_; intro w1 hS; have hS := hS.ns; refine ZaK ?_; refine zm ?_; refine zt ?_)
                           all_goals (refine zcn ?_; refine Zbv ?_; have hS : St cx _ (gX p z fr g N h out (vSl sv v0 :: blk p17 182 (h.get v0 n0).1.cells :: iBlk p3 x vr va :: L)) := hS.sp; have hX := x9_p (m := m) (s := msOf h g fr inp out fu) (x := x) (by omega) hv hn0; refine ZbX ?_; refine QV hS vw rfl fd (by simp) (by simp) ?_; intro b5 o5 hel5; refine Q1i hS hel5 rfl fd rfl rfl ?_; refine zm ?_)
                           all_goals (refine zR3 (c := Q5Q (v := v0) (e := (h.get v0 n0).2) (show St cx _ (gX p z fr g N h out _) from hS)) (h := ?_); rintro v1 w1 (⟨hk4, he, rfl, hS⟩ | ⟨hk4, he, rfl, hS⟩ | ⟨he, rfl, hS⟩))
                           all_goals (refine ZaE ?_)
                           all_goals (first | (refine QC ?_) | (refine QJ ?_))
                           all_goals (refine zn ?_)
                           all_goals
                            first
                            | (refine zct ?_
                               all_goals (refine Zbt ?_)
                               all_goals ((first | exact ⟨_, rfl, GQ.lost (hXl hv) hS fun _ _ hS => hS.sp⟩ | exact ⟨_, rfl, GQ.lost hX hS fun _ _ hS => hS.sp⟩ | exact ⟨_, rfl, GQ.lost (hX.trans (Q25 he)) hS fun _ _ hS => hS.sp⟩ | exact ⟨_, rfl, GQ.lost (hX.trans (Q1N he2 he)) hS fun _ _ hS => hS.sp⟩ | exact ⟨_, rfl, GQ.go (fr' := fr) (g' := g) (h' := h.shut v0) (out' := out) hX hi (Nat.le_succ N) rfl hS.sp⟩ | exact ⟨_, rfl, GQ.go (fr' := fr) (g' := g) (h' := h.set v0 x.k y0) (out' := out) hX hi (Nat.le_succ N) rfl hS.sp⟩ | exact ⟨_, rfl, GQ.go (fr' := fr) (g' := g) (h' := h.set v0 n0 (intV c0)) (out' := out) (hX.trans (Q1b hk4 he)) hi (Nat.le_succ N) rfl hS.sp⟩ | exact ⟨_, rfl, GQ.go (fr' := fr) (g' := g.push tv [(h.get v0 x.k).1]) (h' := h) (out' := out) hX hi (Nat.le_succ N) rfl hS.sp⟩ | exact ⟨_, rfl, GQ.go (fr' := fr) (g' := g.push tv [(h.get v0 n0).1]) (h' := h) (out' := out) (hX.trans (Q1b hk4 he)) hi (Nat.le_succ N) rfl hS.sp⟩ | exact ⟨_, rfl, GQ.go (fr' := fr) (g' := g.push tv [intV (h.len v0).1]) (h' := h) (out' := out) (hX.trans (Q1b hk4 he)) hi (Nat.le_succ N) rfl hS.sp⟩ | exact ⟨_, rfl, GQ.go (fr' := fr) (g' := g.push tv [h.putV v0 3 (Q1U vs)]) (h' := h.tuple v0 vs) (out' := out) (hX.trans (Q2j he)) hi (Nat.le_refl _) rfl hS.sp⟩ | exact ⟨_, rfl, GQ.go (fr' := fr) (g' := g.push tv [h.arrV v0 n0]) (h' := h.arr v0 n0) (out' := out) (hX.trans (Q2j he)) hi (Nat.le_refl _) rfl hS.sp⟩ | exact ⟨_, rfl, GQ.halt (fr' := fr) (g' := g) (N' := N) hX (Nat.le_succ N) rfl hS.sp⟩ | exact ⟨_, rfl, GQ.halt (fr' := fr) (g' := g) (N' := N) (hX.trans (Q35 hk4 he)) (Nat.le_succ N) rfl hS.sp⟩)))
                            | (refine zcf ?_
                               all_goals refine zsk ?_)
                           all_goals (refine Zad ?_; refine zv hS ?_; refine zB1 hS [_, _, _, _] ?_; intro b1 w1 hS; have hS : St cx _ (vSl (.slice (some ⟨b1, 0, none⟩) 1 1) (h.get v0 n0).1 :: gX p z fr g N h out L) := (by have hS := St.slOf (T := 182) (es := 4) (css := [(h.get v0 n0).1].map Val.cells) hS rfl (by simp [Val.cells]) rfl; exact hS.sp); refine zR2 (c := gP_c (vs := [(h.get v0 n0).1]) (by omega) (by simp only [List.length_cons, List.length_nil]; omega) hS) (h := ?_); rintro v1 w1 ⟨rfl, tv, hS⟩; refine Zah ?_; (first | exact ⟨_, rfl, GQ.lost (hXl hv) hS fun _ _ hS => hS.sp⟩ | exact ⟨_, rfl, GQ.lost hX hS fun _ _ hS => hS.sp⟩ | exact ⟨_, rfl, GQ.lost (hX.trans (Q25 he)) hS fun _ _ hS => hS.sp⟩ | exact ⟨_, rfl, GQ.lost (hX.trans (Q1N he2 he)) hS fun _ _ hS => hS.sp⟩ | exact ⟨_, rfl, GQ.go (fr' := fr) (g' := g) (h' := h.shut v0) (out' := out) hX hi (Nat.le_succ N) rfl hS.sp⟩ | exact ⟨_, rfl, GQ.go (fr' := fr) (g' := g) (h' := h.set v0 x.k y0) (out' := out) hX hi (Nat.le_succ N) rfl hS.sp⟩ | exact ⟨_, rfl, GQ.go (fr' := fr) (g' := g) (h' := h.set v0 n0 (intV c0)) (out' := out) (hX.trans (Q1b hk4 he)) hi (Nat.le_succ N) rfl hS.sp⟩ | exact ⟨_, rfl, GQ.go (fr' := fr) (g' := g.push tv [(h.get v0 x.k).1]) (h' := h) (out' := out) hX hi (Nat.le_succ N) rfl hS.sp⟩ | exact ⟨_, rfl, GQ.go (fr' := fr) (g' := g.push tv [(h.get v0 n0).1]) (h' := h) (out' := out) (hX.trans (Q1b hk4 he)) hi (Nat.le_succ N) rfl hS.sp⟩))
                         · skip
                           all_goals (refine zC [(0, none), (1, none), (2, none), (3, none), (4, none), (5, none), (6, none), (7, none), (8, none), (13, some (some [5, 8])), (9, some none), (10, none), (11, none), (12, none), (14, some (some [])), (15, some none)] ?_; have hS := hS.drew; refine Zbo ?_; refine zf0 ?_; refine Zat ?_; refine QV hS vw rfl fd (by simp) (by simp) ?_; intro b3 o3 hel3; refine Zab ?_; refine Q1i hS hel3 rfl fd rfl rfl ?_; refine Zat ?_; refine QV hS vw rfl fd (by simp) (by simp) ?_; intro b4 o4 hel4; refine Zab ?_; refine Q1f hS hel4 rfl fd rfl rfl rfl ?_; refine ZaR ?_; intro p17 w1 hS; refine zt ?_; refine ⟨List.forall_mem_cons.2 ⟨(by (exact Q3N hS hel3 rfl fd rfl rfl)), List.forall_mem_cons.2 ⟨(by first | (exact Q3N hS hel3 rfl fd rfl rfl) | (exact QA (j := 0) hS hel4 rfl fd rfl rfl rfl)), fun _ h => (List.not_mem_nil h).elim⟩⟩, ?_⟩)
                           all_goals (refine s_cf ?_; refine zR3 (c := Q7n v0 n0 hS fd) (h := ?_); rintro v1 w1 ⟨rfl, hS⟩; refine ZbO ?_; refine Zar ?_; refine Q1n hS rfl rfl (by rfl) fd (by simp) (QQ _) (by rfl) ?_; intro w1 hS; have hS := hS.ns; refine ZbW ?_; refine Zbv ?_; have hS : St cx _ (gX p z fr g N h out (vSl sv v0 :: blk p17 182 (h.get v0 n0).1.cells :: iBlk p3 x vr va :: L)) := hS.sp; have hX := x9_p (m := m) (s := msOf h g fr inp out fu) (x := x) (by omega) hv hn0; refine ZbX ?_; refine QV hS vw rfl fd (by simp) (by simp) ?_; intro b5 o5 hel5; refine Q1i hS hel5 rfl fd rfl rfl ?_; refine zm ?_)
                           all_goals (refine zR3 (c := Q5Q (v := v0) (e := (h.get v0 n0).2) (show St cx _ (gX p z fr g N h out _) from hS)) (h := ?_); rintro v1 w1 (⟨hk4, he, rfl, hS⟩ | ⟨hk4, he, rfl, hS⟩ | ⟨he, rfl, hS⟩))
                           all_goals (refine ZaE ?_)
                           all_goals (first | (refine QC ?_) | (refine QJ ?_))
                           all_goals (refine zn ?_)
                           all_goals
                            first
                            | (refine zct ?_
                               all_goals (refine Zbt ?_)
                               all_goals ((first | exact ⟨_, rfl, GQ.lost (hXl hv) hS fun _ _ hS => hS.sp⟩ | exact ⟨_, rfl, GQ.lost hX hS fun _ _ hS => hS.sp⟩ | exact ⟨_, rfl, GQ.lost (hX.trans (Q25 he)) hS fun _ _ hS => hS.sp⟩ | exact ⟨_, rfl, GQ.lost (hX.trans (Q1N he2 he)) hS fun _ _ hS => hS.sp⟩ | exact ⟨_, rfl, GQ.go (fr' := fr) (g' := g) (h' := h.shut v0) (out' := out) hX hi (Nat.le_succ N) rfl hS.sp⟩ | exact ⟨_, rfl, GQ.go (fr' := fr) (g' := g) (h' := h.set v0 x.k y0) (out' := out) hX hi (Nat.le_succ N) rfl hS.sp⟩ | exact ⟨_, rfl, GQ.go (fr' := fr) (g' := g) (h' := h.set v0 n0 (intV c0)) (out' := out) (hX.trans (Q1b hk4 he)) hi (Nat.le_succ N) rfl hS.sp⟩ | exact ⟨_, rfl, GQ.go (fr' := fr) (g' := g.push tv [(h.get v0 x.k).1]) (h' := h) (out' := out) hX hi (Nat.le_succ N) rfl hS.sp⟩ | exact ⟨_, rfl, GQ.go (fr' := fr) (g' := g.push tv [(h.get v0 n0).1]) (h' := h) (out' := out) (hX.trans (Q1b hk4 he)) hi (Nat.le_succ N) rfl hS.sp⟩ | exact ⟨_, rfl, GQ.go (fr' := fr) (g' := g.push tv [intV (h.len v0).1]) (h' := h) (out' := out) (hX.trans (Q1b hk4 he)) hi (Nat.le_succ N) rfl hS.sp⟩ | exact ⟨_, rfl, GQ.go (fr' := fr) (g' := g.push tv [h.putV v0 3 (Q1U vs)]) (h' := h.tuple v0 vs) (out' := out) (hX.trans (Q2j he)) hi (Nat.le_refl _) rfl hS.sp⟩ | exact ⟨_, rfl, GQ.go (fr' := fr) (g' := g.push tv [h.arrV v0 n0]) (h' := h.arr v0 n0) (out' := out) (hX.trans (Q2j he)) hi (Nat.le_refl _) rfl hS.sp⟩ | exact ⟨_, rfl, GQ.halt (fr' := fr) (g' := g) (N' := N) hX (Nat.le_succ N) rfl hS.sp⟩ | exact ⟨_, rfl, GQ.halt (fr' := fr) (g' := g) (N' := N) (hX.trans (Q35 hk4 he)) (Nat.le_succ N) rfl hS.sp⟩)))
                            | (refine zcf ?_
                               all_goals refine zsk ?_)
                           all_goals (refine Zad ?_; refine zv hS ?_; refine zB1 hS [_, _, _, _] ?_; intro b1 w1 hS; have hS : St cx _ (vSl (.slice (some ⟨b1, 0, none⟩) 1 1) (h.get v0 n0).1 :: gX p z fr g N h out L) := (by have hS := St.slOf (T := 182) (es := 4) (css := [(h.get v0 n0).1].map Val.cells) hS rfl (by simp [Val.cells]) rfl; exact hS.sp); refine zR2 (c := gP_c (vs := [(h.get v0 n0).1]) (by omega) (by simp only [List.length_cons, List.length_nil]; omega) hS) (h := ?_); rintro v1 w1 ⟨rfl, tv, hS⟩; refine Zah ?_)
                           all_goals ((first | exact ⟨_, rfl, GQ.lost (hXl hv) hS fun _ _ hS => hS.sp⟩ | exact ⟨_, rfl, GQ.lost hX hS fun _ _ hS => hS.sp⟩ | exact ⟨_, rfl, GQ.lost (hX.trans (Q25 he)) hS fun _ _ hS => hS.sp⟩ | exact ⟨_, rfl, GQ.lost (hX.trans (Q1N he2 he)) hS fun _ _ hS => hS.sp⟩ | exact ⟨_, rfl, GQ.go (fr' := fr) (g' := g) (h' := h.shut v0) (out' := out) hX hi (Nat.le_succ N) rfl hS.sp⟩ | exact ⟨_, rfl, GQ.go (fr' := fr) (g' := g) (h' := h.set v0 x.k y0) (out' := out) hX hi (Nat.le_succ N) rfl hS.sp⟩ | exact ⟨_, rfl, GQ.go (fr' := fr) (g' := g) (h' := h.set v0 n0 (intV c0)) (out' := out) (hX.trans (Q1b hk4 he)) hi (Nat.le_succ N) rfl hS.sp⟩ | exact ⟨_, rfl, GQ.go (fr' := fr) (g' := g.push tv [(h.get v0 x.k).1]) (h' := h) (out' := out) hX hi (Nat.le_succ N) rfl hS.sp⟩ | exact ⟨_, rfl, GQ.go (fr' := fr) (g' := g.push tv [(h.get v0 n0).1]) (h' := h) (out' := out) (hX.trans (Q1b hk4 he)) hi (Nat.le_succ N) rfl hS.sp⟩)))
                      | (refine zcf ?_
                         all_goals (refine Zaa ?_)
                         all_goals (first | (refine Qd ?_) | (refine Qh ?_) | (refine Q6 rfl rfl (fun hc => ?_) (fun hc => ?_)))
                         all_goals (refine Zac ?_)
                         all_goals
                          first
                          | (refine zct ?_
                             all_goals (refine Zad ?_; refine zf0 ?_; refine zl hS ?_; refine zf0 ?_; refine zl hS ?_; refine zB2 hS [_, _] ?_; intro b1 w1 hS)
                             all_goals (have hS : St cx _ (sl 3 1 (.slice (some ⟨b1, 0, none⟩) 2 2) (Q8 [x.b, x.c]) :: gX p z fr g N h out (vSl sv v0 :: iBlk p3 x vr va :: L)) := (by have hS := St.slOf (T := 3) (es := 1) (css := Q8 [x.b, x.c]) hS rfl (by simp [Q8]) rfl; exact hS.sp); refine zR2 (c := gNN_c (by omega) hS) (h := ?_); rintro v1 w1 (⟨n0, c0, sn, hn0, hc0, ho2, rfl, hS⟩ | ⟨hn0, sn, rfl, hS⟩))
                             all_goals (refine Zbw ?_; refine ZaG ?_; refine znt ?_; refine zm ?_; (first | refine zgn ?_ | (refine Zam ?_)); (first | (refine zgn ?_) | (refine zgy ?_; refine QV hS vw rfl fd (by simp) (by simp) ?_; intro b3 o3 hel3)); (first | refine zgn ?_ | (refine Zaj ?_)); (first | (refine zgn ?_) | (refine zgy ?_; refine Q1 hS hel3 rfl fd rfl rfl rfl ?_)))
                             all_goals (first | refine zgn ?_ | (refine zgy ?_; (first | (refine QC ?_) | (refine QJ ?_) | (refine Qj rfl rfl (fun hc => ?_) (fun hc => ?_)))))
                             all_goals (refine Zaf ?_)
                             all_goals
                              first
                              | (refine zct ?_
                                 all_goals (refine Qb ?_; have hX : MS.ins m (msOf h g fr inp out fu) x = .lost := (by first | exact x10_n (by omega) hv hn0 | exact (x10_p (by omega) hv hn0 hc0).trans (part_4 (by omega))); refine Zbm ?_)
                                 all_goals ((first | exact ⟨_, rfl, GQ.lost (hXl hv) hS fun _ _ hS => hS.sp⟩ | exact ⟨_, rfl, GQ.lost hX hS fun _ _ hS => hS.sp⟩)))
                              | (refine zcf ?_
                                 all_goals refine zsk ?_)
                             all_goals (refine Qb ?_; refine zC [(0, none), (1, none), (2, none), (3, none), (4, none), (5, none), (6, none), (7, none), (8, none), (9, none), (10, none), (11, none), (12, none), (13, none), (14, none), (15, none), (16, none), (17, some (some [3])), (18, some none), (19, some none)] ?_; have hS := hS.drew; refine Zbs ?_; refine QV hS vw rfl fd (by simp) (by simp) ?_; intro b4 o4 hel4; refine Zab ?_; refine Q1i hS hel4 rfl fd rfl rfl ?_; refine Zat ?_; refine ZaN ?_; refine zf0 ?_; refine Zat ?_; refine QV hS vw rfl fd (by simp) (by simp) ?_; intro b5 o5 hel5; refine Zab ?_; refine Q1i hS hel5 rfl fd rfl rfl ?_; refine Zat ?_; refine QV hS vw rfl fd (by simp) (by simp) ?_; intro b6 o6 hel6; refine Zab ?_; refine Q1f hS hel6 rfl fd rfl rfl rfl ?_; refine Zat ?_; refine QV hS vw rfl fd (by simp) (by simp) ?_; intro b7 o7 hel7; refine Zab ?_; refine Q1f hS hel7 rfl fd rfl rfl rfl ?_; refine Zab ?_; refine zb2 [_, _, _, _] ?_)
                             all_goals (refine Zar ?_; refine zR4 (c := QbH v0 n0 (intV c0) hS fd) (h := ?_); rintro v1 w1 ⟨rfl, hS⟩; have hS := hS.ns; refine zt ?_; refine ⟨List.forall_mem_cons.2 ⟨(by (exact Q3N hS hel4 rfl fd rfl rfl)), fun _ h => (List.not_mem_nil h).elim⟩, ?_⟩; refine s_cf ?_)
                             all_goals (refine zR3 (c := Q5Q (v := v0) (e := h.setC v0 n0 (intV c0)) (show St cx _ (gX p z fr g N (h.set v0 n0 (intV c0)) out _) from hS)) (h := ?_); have hX := x10_p (m := m) (s := msOf h g fr inp out fu) (x := x) (by omega) hv hn0 hc0; rintro v1 w1 (⟨hk4, he, rfl, hS⟩ | ⟨hk4, he, rfl, hS⟩ | ⟨he, rfl, hS⟩))
                             all_goals (refine ZbD ?_; refine zr ?_; refine zf ?_)
                             all_goals (first | (first | exact ⟨_, rfl, GQ.lost (hXl hv) hS fun _ _ hS => hS.sp⟩ | exact ⟨_, rfl, GQ.lost hX hS fun _ _ hS => hS.sp⟩ | exact ⟨_, rfl, GQ.lost (hX.trans (Q25 he)) hS fun _ _ hS => hS.sp⟩ | exact ⟨_, rfl, GQ.lost (hX.trans (Q1N he2 he)) hS fun _ _ hS => hS.sp⟩ | exact ⟨_, rfl, GQ.go (fr' := fr) (g' := g) (h' := h.shut v0) (out' := out) hX hi (Nat.le_succ N) rfl hS.sp⟩ | exact ⟨_, rfl, GQ.go (fr' := fr) (g' := g) (h' := h.set v0 x.k y0) (out' := out) hX hi (Nat.le_succ N) rfl hS.sp⟩ | exact ⟨_, rfl, GQ.go (fr' := fr) (g' := g) (h' := h.set v0 n0 (intV c0)) (out' := out) (hX.trans (Q1b hk4 he)) hi (Nat.le_succ N) rfl hS.sp⟩ | exact ⟨_, rfl, GQ.go (fr' := fr) (g' := g.push tv [(h.get v0 x.k).1]) (h' := h) (out' := out) hX hi (Nat.le_succ N) rfl hS.sp⟩ | exact ⟨_, rfl, GQ.go (fr' := fr) (g' := g.push tv [(h.get v0 n0).1]) (h' := h) (out' := out) (hX.trans (Q1b hk4 he)) hi (Nat.le_succ N) rfl hS.sp⟩ | exact ⟨_, rfl, GQ.go (fr' := fr) (g' := g.push tv [intV (h.len v0).1]) (h' := h) (out' := out) (hX.trans (Q1b hk4 he)) hi (Nat.le_succ N) rfl hS.sp⟩ | exact ⟨_, rfl, GQ.go (fr' := fr) (g' := g.push tv [h.putV v0 3 (Q1U vs)]) (h' := h.tuple v0 vs) (out' := out) (hX.trans (Q2j he)) hi (Nat.le_refl _) rfl hS.sp⟩ | exact ⟨_, rfl, GQ.go (fr' := fr) (g' := g.push tv [h.arrV v0 n0]) (h' := h.arr v0 n0) (out' := out) (hX.trans (Q2j he)) hi (Nat.le_refl _) rfl hS.sp⟩ | exact ⟨_, rfl, GQ.halt (fr' := fr) (g' := g) (N' := N) hX (Nat.le_succ N) rfl hS.sp⟩ | exact ⟨_, rfl, GQ.halt (fr' := fr) (g' := g) (N' := N) (hX.trans (Q35 hk4 he)) (Nat.le_succ N) rfl hS.sp⟩) | (have hS := hS; rw [Q5L (by rw [he]; decide)] at hS; exact ⟨_, rfl, GQ.halt (fr' := fr) (g' := g) (N' := N + 1) (hX.trans (Q3h he)) (Nat.le_refl _) rfl hS.sp⟩) | (rw [Q8k (by rw [he]; decide)] at hS; exact ⟨_, rfl, GQ.halt (fr' := fr) (g' := g) (N' := N + 1) (hX.trans (Q3h he)) (Nat.le_refl _) rfl hS.sp⟩) | (rw [Q2A (by rw [he]; decide)] at hS; exact ⟨_, rfl, GQ.halt (fr' := fr) (g' := g) (N' := N) (hX.trans (Q35 hk4 he)) (Nat.le_succ N) rfl hS.sp⟩)))
                          | (refine zcf ?_
                             all_goals refine zsk ?_)
                         all_goals (refine Qb ?_; refine zD (ci 12 [6, 11]) ?_; have hS := hS.drew; refine Zbe ?_; refine zf0 ?_; refine zm ?_; refine QV hS vw rfl fd (by simp) (by simp) ?_; intro b3 o3 hel3; refine Q1i hS hel3 rfl fd rfl rfl ?_; refine zR2 (c := rtlen_c v0 hS fd) (h := ?_); rintro v1 w1 ⟨rfl, hS⟩; refine Zbw ?_; refine ZaG ?_; refine zm ?_; refine QV hS vw rfl fd (by simp) (by simp) ?_; intro b5 o5 hel5; refine Q1i hS hel5 rfl fd rfl rfl ?_; refine zm ?_)
                         all_goals (refine zR3 (c := Q5Q (v := v0) (e := (h.len v0).2) (show St cx _ (gX p z fr g N h out _) from hS)) (h := ?_); have hX := x11_p (m := m) (s := msOf h g fr inp out fu) (x := x) (by omega) hv; rintro v1 w1 (⟨hk4, he, rfl, hS⟩ | ⟨hk4, he, rfl, hS⟩ | ⟨he, rfl, hS⟩))
                         all_goals (refine ZaE ?_)
                         all_goals (first | (refine QC ?_) | (refine QJ ?_))
                         all_goals (refine zn ?_)
                         all_goals
                          first
                          | (refine zct ?_
                             all_goals (refine Zbt ?_)
                             all_goals ((first | exact ⟨_, rfl, GQ.lost (hXl hv) hS fun _ _ hS => hS.sp⟩ | exact ⟨_, rfl, GQ.lost hX hS fun _ _ hS => hS.sp⟩ | exact ⟨_, rfl, GQ.lost (hX.trans (Q25 he)) hS fun _ _ hS => hS.sp⟩ | exact ⟨_, rfl, GQ.lost (hX.trans (Q1N he2 he)) hS fun _ _ hS => hS.sp⟩ | exact ⟨_, rfl, GQ.go (fr' := fr) (g' := g) (h' := h.shut v0) (out' := out) hX hi (Nat.le_succ N) rfl hS.sp⟩ | exact ⟨_, rfl, GQ.go (fr' := fr) (g' := g) (h' := h.set v0 x.k y0) (out' := out) hX hi (Nat.le_succ N) rfl hS.sp⟩ | exact ⟨_, rfl, GQ.go (fr' := fr) (g' := g) (h' := h.set v0 n0 (intV c0)) (out' := out) (hX.trans (Q1b hk4 he)) hi (Nat.le_succ N) rfl hS.sp⟩ | exact ⟨_, rfl, GQ.go (fr' := fr) (g' := g.push tv [(h.get v0 x.k).1]) (h' := h) (out' := out) hX hi (Nat.le_succ N) rfl hS.sp⟩ | exact ⟨_, rfl, GQ.go (fr' := fr) (g' := g.push tv [(h.get v0 n0).1]) (h' := h) (out' := out) (hX.trans (Q1b hk4 he)) hi (Nat.le_succ N) rfl hS.sp⟩ | exact ⟨_, rfl, GQ.go (fr' := fr) (g' := g.push tv [intV (h.len v0).1]) (h' := h) (out' := out) (hX.trans (Q1b hk4 he)) hi (Nat.le_succ N) rfl hS.sp⟩ | exact ⟨_, rfl, GQ.go (fr' := fr) (g' := g.push tv [h.putV v0 3 (Q1U vs)]) (h' := h.tuple v0 vs) (out' := out) (hX.trans (Q2j he)) hi (Nat.le_refl _) rfl hS.sp⟩ | exact ⟨_, rfl, GQ.go (fr' := fr) (g' := g.push tv [h.arrV v0 n0]) (h' := h.arr v0 n0) (out' := out) (hX.trans (Q2j he)) hi (Nat.le_refl _) rfl hS.sp⟩ | exact ⟨_, rfl, GQ.halt (fr' := fr) (g' := g) (N' := N) hX (Nat.le_succ N) rfl hS.sp⟩ | exact ⟨_, rfl, GQ.halt (fr' := fr) (g' := g) (N' := N) (hX.trans (Q35 hk4 he)) (Nat.le_succ N) rfl hS.sp⟩)))
                          | (refine zcf ?_
                             all_goals refine zsk ?_)
                         all_goals (refine Zby ?_; refine zb2 [_, _, _, _] ?_; refine zB1 hS [_, _, _, _] ?_; intro b1 w1 hS; have hS : St cx _ (vSl (.slice (some ⟨b1, 0, none⟩) 1 1) (intV (h.len v0).1) :: gX p z fr g N h out L) := (by have hS := St.slOf (T := 182) (es := 4) (css := [intV (h.len v0).1].map Val.cells) hS rfl (by simp [Val.cells]) rfl; exact hS.sp); refine zR2 (c := gP_c (vs := [intV (h.len v0).1]) (by omega) (by simp only [List.length_cons, List.length_nil]; omega) hS) (h := ?_); rintro v1 w1 ⟨rfl, tv, hS⟩; refine Zah ?_)
                         all_goals ((first | exact ⟨_, rfl, GQ.lost (hXl hv) hS fun _ _ hS => hS.sp⟩ | exact ⟨_, rfl, GQ.lost hX hS fun _ _ hS => hS.sp⟩ | exact ⟨_, rfl, GQ.lost (hX.trans (Q25 he)) hS fun _ _ hS => hS.sp⟩ | exact ⟨_, rfl, GQ.lost (hX.trans (Q1N he2 he)) hS fun _ _ hS => hS.sp⟩ | exact ⟨_, rfl, GQ.go (fr' := fr) (g' := g) (h' := h.shut v0) (out' := out) hX hi (Nat.le_succ N) rfl hS.sp⟩ | exact ⟨_, rfl, GQ.go (fr' := fr) (g' := g) (h' := h.set v0 x.k y0) (out' := out) hX hi (Nat.le_succ N) rfl hS.sp⟩ | exact ⟨_, rfl, GQ.go (fr' := fr) (g' := g) (h' := h.set v0 n0 (intV c0)) (out' := out) (hX.trans (Q1b hk4 he)) hi (Nat.le_succ N) rfl hS.sp⟩ | exact ⟨_, rfl, GQ.go (fr' := fr) (g' := g.push tv [(h.get v0 x.k).1]) (h' := h) (out' := out) hX hi (Nat.le_succ N) rfl hS.sp⟩ | exact ⟨_, rfl, GQ.go (fr' := fr) (g' := g.push tv [(h.get v0 n0).1]) (h' := h) (out' := out) (hX.trans (Q1b hk4 he)) hi (Nat.le_succ N) rfl hS.sp⟩ | exact ⟨_, rfl, GQ.go (fr' := fr) (g' := g.push tv [intV (h.len v0).1]) (h' := h) (out' := out) (hX.trans (Q1b hk4 he)) hi (Nat.le_succ N) rfl hS.sp⟩))))))))
end Go.Proofs.YteflkifmgnpbhaaGreat
namespace Go.Lir
def inI (n : Int) : Prop := -9223372036854775808 ≤ n ∧ n ≤ 9223372036854775807
theorem Qb6 (n : Int) : wr n = if n % 18446744073709551616 ≥ 9223372036854775808 then n % 18446744073709551616 - 18446744073709551616 else n % 18446744073709551616 := by
 unfold wr IntKind.wrap
 simp [IntKind.bits, IntKind.signed]
theorem Qb7 (n : Int) : wr n = Int.bmod n (2 ^ 64) := by
 rw [Qb6, Int.bmod_def]
 have e : ((2 ^ 64 : Nat) : Int) = 18446744073709551616 := rfl
 rw [e]
 split <;> split <;> omega
theorem wr_in {n : Int} (h : inI n) : wr n = n := Q5K h.1 h.2
theorem Qb5 (n : Int) : inI (wr n) := by
 unfold inI; rw [Qb6]; split <;> omega
theorem wr_add (a b c : Int) (h : ∃ q, a = b + 18446744073709551616 * q) : wr (a + c) = wr (b + c) := by
 obtain ⟨q, rfl⟩ := h
 rw [Qb6, Qb6]
 have : (b + 18446744073709551616 * q + c) % 18446744073709551616 = (b + c) % 18446744073709551616 := by omega
 rw [this]
theorem wr_mod (n : Int) : ∃ q, wr n = n + 18446744073709551616 * q := by
 rw [Qb6]
 split
 · exact ⟨-(n / 18446744073709551616) - 1, by omega⟩
 · exact ⟨-(n / 18446744073709551616), by omega⟩
theorem wr_congr {a b : Int} (h : ∃ q, a = b + 18446744073709551616 * q) : wr a = wr b := by
 have := wr_add a b 0 h
 simpa using this
theorem Qas {a b : Int} (hb : inI b) (h0 : b ≠ 0) : wr (a - wr (wr (a.tdiv b) * b)) = a.tmod b := by
 have e : a.tmod b = a - a.tdiv b * b := by have := Int.mul_tdiv_add_tmod a b; rw [Int.mul_comm] at this; omega
 have hin : inI (a.tmod b) := by
  have h1 := Int.natAbs_tmod a b
  have h2 := Nat.mod_lt a.natAbs (show b.natAbs > 0 by omega)
  unfold inI at *
  omega
 obtain ⟨q1, h1⟩ := wr_mod (a.tdiv b)
 obtain ⟨q2, h2⟩ := wr_mod (wr (a.tdiv b) * b)
 rw [← wr_in hin, e]
 refine wr_congr ⟨-(q1 * b) - q2, ?_⟩
 rw [h2, h1]
 rw [Int.add_mul, Int.mul_sub, Int.mul_neg, Int.mul_assoc]
 omega

theorem Qaq {n : Nat} (x y : BitVec n) : (x ||| y) - (x &&& y) = x ^^^ y := by
 have h1 : (x ^^^ y) &&& (x &&& y) = 0#n := by
  ext i hi
  simp
  cases x[i] <;> cases y[i] <;> simp
 have h2 : (x ^^^ y) + (x &&& y) = (x ^^^ y) ||| (x &&& y) := BitVec.add_eq_or_of_and_eq_zero _ _ h1
 have h3 : (x ^^^ y) ||| (x &&& y) = x ||| y := by
  ext i hi
  simp
  cases x[i] <;> cases y[i] <;> simp
 rw [← h3, ← h2, BitVec.add_sub_cancel]

theorem Q6u (r : BitVec 64) : IntKind.i64.wrap r.toNat = r.toInt := by
 show wr _ = _
 rw [Qb7, BitVec.toInt_eq_toNat_bmod]

theorem Qb0 (a b : Int) : wr (bitI .or .i64 a b - bitI .and .i64 a b) = bitI .xor .i64 a b := by
 unfold bitI
 simp only []
 have e1 := Q6u (BitVec.ofInt 64 a ||| BitVec.ofInt 64 b)
 have e2 := Q6u (BitVec.ofInt 64 a &&& BitVec.ofInt 64 b)
 have e3 := Q6u (BitVec.ofInt 64 a ^^^ BitVec.ofInt 64 b)
 refine Eq.trans (congrArg wr (congr (congrArg _ e1) e2)) (Eq.trans ?_ e3.symm)
 rw [← Qaq, BitVec.toInt_sub, Qb7]
theorem opF_in (k a b : Int) : inI (opF k a b).1 := by
 have h0 : inI 0 := by unfold inI; omega
 have h1 : inI 1 := by unfold inI; omega
 have hd : inI (divF a b).1 := by
  unfold divF
  split
  · exact h0
  · split <;> exact Qb5 _
 unfold opF
 repeat' split
 all_goals first | exact Qb5 _ | exact h0 | exact h1 | exact hd | (unfold bitI; exact Qb5 _) | (simp; done)
end Go.Lir
namespace Go.Proofs.YteflkifmgnpbhaaGreat
open Go.Lir
set_option maxHeartbeats 1000000
attribute [local irreducible] LC.wp Q0 QF QE retQ Q16 LO.wp Qf Calls
set_option linter.unusedSimpArgs false
set_option linter.unusedVariables false
theorem opOf_c (k a b : Int) (ha : inI a) (hb : inI b) (w : World) : Rets Tryz.prog R_OpOf [.int .i64 k, .int .i64 a, .int .i64 b] w fun v w' => v = .tuple #[.int .i64 (opF k a b).1, .bool (opF k a b).2] ∧ w' = w := by
 have hb' := hb
 have ha' := ha
 unfold inI at ha' hb'
 have hm := fun h => Qas (a := a) hb h
 have hx := Qb0 a b
 have hd : b ≠ 0 → divF a b = (wr (a.tdiv b), true) := by
  intro h
  unfold divF
  rw [if_neg h]
  split
  · rename_i h1; subst h1; rw [Int.tdiv_neg, Int.tdiv_one, Int.zero_sub]
  · rfl
 have g4 : b ≠ 0 → opF 4 a b = (wr (a.tdiv b), true) := fun h => by simp [opF, hd h]
 have g5 : b ≠ 0 → opF 5 a b = (a.tmod b, true) := fun h => by simp [opF, hd h, hm h]
 have z4 : b = 0 → opF 4 a b = (0, false) := by rintro rfl; rfl
 have z5 : b = 0 → opF 5 a b = (0, false) := by rintro rfl; rfl
 have e4 : opF 4 (-9223372036854775808) (-1) = (-9223372036854775808, true) := by decide
 have e5 : opF 5 (-9223372036854775808) (-1) = (0, true) := by decide
 have g9 : opF 9 a b = (wr (bitI .or .i64 a b - bitI .and .i64 a b), true) := by rw [hx]; rfl
 all_goals refine lgo tyD Tryz.func122 ?_
 all_goals (refine Qb ?_; refine Qn ?_; refine Qi (by (conv => lhs; whnf); first | done | exact rfl) ?_; refine Qi (by (conv => lhs; whnf); first | done | exact rfl) ?_; refine QW ?_; (repeat (first | refine Qo ?_ | refine Qa ?_)); refine Qb ?_; refine Qn ?_; refine Qi (by (conv => lhs; whnf); first | done | exact rfl) ?_; refine QW ?_; (repeat (first | refine Qo ?_ | refine Qa ?_)); refine Qb ?_; refine Qb ?_; refine Qn ?_; refine Qi (by (conv => lhs; whnf); first | done | exact rfl) ?_; refine QW ?_; (repeat (first | refine Qo ?_ | refine Qa ?_)); refine Q2w ?_; refine Qb ?_; refine Qn ?_)
 all_goals (first | (refine Q14 rfl rfl (by omega) ?_) | (refine Q15 rfl rfl (by omega) ?_) | (refine Q6 rfl rfl (fun hc => ?_) (fun hc => ?_)))
 all_goals (refine Qi (by (conv => lhs; whnf); first | done | exact rfl) ?_; refine QW ?_; (repeat (first | refine Qo ?_ | refine Qa ?_)))
 all_goals
  first
  | (refine QR rfl ?_
     all_goals (refine Qb ?_; refine Qn ?_; refine Qi (by (conv => lhs; whnf); first | done | exact rfl) ?_; refine Qi (by (conv => lhs; whnf); first | done | exact rfl) ?_; refine Q4z rfl rfl ?_; refine Qi (by (conv => lhs; whnf); first | done | exact rfl) ?_; refine Qi (by (conv => lhs; whnf); first | done | exact rfl) ?_; refine QW ?_; (repeat (first | refine Qo ?_ | refine Qa ?_)); refine Q27 ?_; (repeat (first | refine Q1s ?_ | refine Q1t ?_)); refine Q1y (by (conv => lhs; whnf); first | done | exact rfl) (by (conv => lhs; whnf); first | done | exact rfl) ?_)
     all_goals (refine ⟨_, rfl, ?_, rfl⟩; first | (rw [‹a = _›, ‹b = -1›, ‹k = 4›, e4]) | (rw [‹a = _›, ‹b = -1›, ‹k = 5›, e5]) | (rw [‹k = 4›, g4 ‹¬ b = 0›]) | (rw [‹k = 5›, g5 ‹¬ b = 0›]) | (rw [‹k = 4›, z4 ‹b = 0›]) | (rw [‹k = 5›, z5 ‹b = 0›]) | (rw [‹k = 9›, g9]) | simp [opF, *]))
  | (refine QU rfl ?_
     all_goals (refine Qb ?_; refine Qn ?_)
     all_goals (first | (refine Q14 rfl rfl (by omega) ?_) | (refine Q15 rfl rfl (by omega) ?_) | (refine Q6 rfl rfl (fun hc => ?_) (fun hc => ?_)))
     all_goals (refine Qi (by (conv => lhs; whnf); first | done | exact rfl) ?_; refine QW ?_; (repeat (first | refine Qo ?_ | refine Qa ?_)))
     all_goals
      first
      | (refine QR rfl ?_
         all_goals (refine Qb ?_; refine Qn ?_; refine Qi (by (conv => lhs; whnf); first | done | exact rfl) ?_; refine Qi (by (conv => lhs; whnf); first | done | exact rfl) ?_; (first | (refine Q4z rfl rfl ?_) | (refine Q4l rfl rfl ?_)); refine Qi (by (conv => lhs; whnf); first | done | exact rfl) ?_; refine Qi (by (conv => lhs; whnf); first | done | exact rfl) ?_; refine QW ?_; (repeat (first | refine Qo ?_ | refine Qa ?_)); refine Q27 ?_; (repeat (first | refine Q1s ?_ | refine Q1t ?_)); refine Q1y (by (conv => lhs; whnf); first | done | exact rfl) (by (conv => lhs; whnf); first | done | exact rfl) ?_)
         all_goals (refine ⟨_, rfl, ?_, rfl⟩; first | (rw [‹a = _›, ‹b = -1›, ‹k = 4›, e4]) | (rw [‹a = _›, ‹b = -1›, ‹k = 5›, e5]) | (rw [‹k = 4›, g4 ‹¬ b = 0›]) | (rw [‹k = 5›, g5 ‹¬ b = 0›]) | (rw [‹k = 4›, z4 ‹b = 0›]) | (rw [‹k = 5›, z5 ‹b = 0›]) | (rw [‹k = 9›, g9]) | simp [opF, *]))
      | (refine QU rfl ?_
         all_goals (refine Qb ?_; refine Qn ?_)
         all_goals (first | (refine Q14 rfl rfl (by omega) ?_) | (refine Q15 rfl rfl (by omega) ?_) | (refine Q6 rfl rfl (fun hc => ?_) (fun hc => ?_)))
         all_goals (refine Qi (by (conv => lhs; whnf); first | done | exact rfl) ?_; refine QW ?_; (repeat (first | refine Qo ?_ | refine Qa ?_)))
         all_goals
          first
          | (refine QR rfl ?_
             all_goals (refine Qb ?_; refine Qn ?_; refine Qi (by (conv => lhs; whnf); first | done | exact rfl) ?_; refine Qi (by (conv => lhs; whnf); first | done | exact rfl) ?_; (first | (refine Q4z rfl rfl ?_) | (refine Q4l rfl rfl ?_) | (refine Qbs rfl rfl ?_)); refine Qi (by (conv => lhs; whnf); first | done | exact rfl) ?_; refine Qi (by (conv => lhs; whnf); first | done | exact rfl) ?_; refine QW ?_; (repeat (first | refine Qo ?_ | refine Qa ?_)); refine Q27 ?_; (repeat (first | refine Q1s ?_ | refine Q1t ?_)); refine Q1y (by (conv => lhs; whnf); first | done | exact rfl) (by (conv => lhs; whnf); first | done | exact rfl) ?_)
             all_goals (refine ⟨_, rfl, ?_, rfl⟩; first | (rw [‹a = _›, ‹b = -1›, ‹k = 4›, e4]) | (rw [‹a = _›, ‹b = -1›, ‹k = 5›, e5]) | (rw [‹k = 4›, g4 ‹¬ b = 0›]) | (rw [‹k = 5›, g5 ‹¬ b = 0›]) | (rw [‹k = 4›, z4 ‹b = 0›]) | (rw [‹k = 5›, z5 ‹b = 0›]) | (rw [‹k = 9›, g9]) | simp [opF, *]))
          | (refine QU rfl ?_
             all_goals (refine Qb ?_; refine Qb ?_; refine Qn ?_)
             all_goals (first | (refine Q14 rfl rfl (by omega) ?_) | (refine Q15 rfl rfl (by omega) ?_) | (refine Q6 rfl rfl (fun hc => ?_) (fun hc => ?_)))
             all_goals (refine Qi (by (conv => lhs; whnf); first | done | exact rfl) ?_; refine QW ?_; (repeat (first | refine Qo ?_ | refine Qa ?_)))
             all_goals
              first
              | (refine QR rfl ?_
                 all_goals (refine Q32 ?_; (repeat (first | refine Qo ?_ | refine Qa ?_))))
              | (refine QU rfl ?_
                 all_goals (refine Qn ?_)
                 all_goals (first | (refine Q14 rfl rfl (by omega) ?_) | (refine Q15 rfl rfl (by omega) ?_) | (refine Q6 rfl rfl (fun hc => ?_) (fun hc => ?_)))
                 all_goals (refine Qi (by (conv => lhs; whnf); first | done | exact rfl) ?_)
                 all_goals (refine QW ?_; (repeat (first | refine Qo ?_ | refine Qa ?_))))
             all_goals
              first
              | (refine QR rfl ?_
                 all_goals (refine Qb ?_; refine Qb ?_; refine Qn ?_; refine Qi (by (conv => lhs; whnf); first | done | exact rfl) ?_)
                 all_goals (first | (refine Q14 rfl rfl (by omega) ?_) | (refine Q15 rfl rfl (by omega) ?_) | (refine Q6 rfl rfl (fun hc => ?_) (fun hc => ?_)))
                 all_goals (refine QW ?_; (repeat (first | refine Qo ?_ | refine Qa ?_)))
                 all_goals
                  first
                  | (refine QR rfl ?_
                     all_goals (refine Qb ?_; refine Qn ?_; refine Qi (by (conv => lhs; whnf); first | done | exact rfl) ?_; refine Qi (by (conv => lhs; whnf); first | done | exact rfl) ?_; refine QW ?_; (repeat (first | refine Qo ?_ | refine Qa ?_)); refine Q27 ?_; (repeat (first | refine Q1s ?_ | refine Q1t ?_)); refine Q1y (by (conv => lhs; whnf); first | done | exact rfl) (by (conv => lhs; whnf); first | done | exact rfl) ?_)
                     all_goals (refine ⟨_, rfl, ?_, rfl⟩; first | (rw [‹a = _›, ‹b = -1›, ‹k = 4›, e4]) | (rw [‹a = _›, ‹b = -1›, ‹k = 5›, e5]) | (rw [‹k = 4›, g4 ‹¬ b = 0›]) | (rw [‹k = 5›, g5 ‹¬ b = 0›]) | (rw [‹k = 4›, z4 ‹b = 0›]) | (rw [‹k = 5›, z5 ‹b = 0›]) | (rw [‹k = 9›, g9]) | simp [opF, *]))
                  | (refine QU rfl ?_
                     all_goals (refine Q32 ?_; (repeat (first | refine Qo ?_ | refine Qa ?_))))
                 all_goals (refine Qb ?_; refine Qb ?_; refine Qn ?_; refine Qi (by (conv => lhs; whnf); first | done | exact rfl) ?_)
                 all_goals (first | (refine Q14 rfl rfl (by omega) ?_) | (refine Q15 rfl rfl (by omega) ?_) | (refine Q6 rfl rfl (fun hc => ?_) (fun hc => ?_)))
                 all_goals (refine Qi (by (conv => lhs; whnf); first | done | exact rfl) ?_; (first | refine s_gn rfl rfl ?_ | (refine s_gy rfl ?_; refine Qi (by (conv => lhs; whnf); first | done | exact rfl) ?_)))
                 all_goals (first | refine s_gn rfl rfl ?_ | (refine s_gy rfl ?_; (first | (refine Q14 rfl rfl (by omega) ?_) | (refine Q15 rfl rfl (by omega) ?_) | (refine Q6 rfl rfl (fun hc => ?_) (fun hc => ?_)))))
                 all_goals ((first | refine Q9G rfl (by (conv => lhs; whnf); first | done | exact rfl) ?_ | refine Q9H rfl (by (conv => lhs; whnf); first | done | exact rfl) ?_); refine QW ?_; (repeat (first | refine Qo ?_ | refine Qa ?_)))
                 all_goals
                  first
                  | (refine QR rfl ?_
                     all_goals (refine Qb ?_; refine Qb ?_; refine Qn ?_; refine Qi (by (conv => lhs; whnf); first | done | exact rfl) ?_)
                     all_goals (first | (refine Q14 rfl rfl (by omega) ?_) | (refine Q15 rfl rfl (by omega) ?_))
                     all_goals (refine QW ?_; (repeat (first | refine Qo ?_ | refine Qa ?_)))
                     all_goals
                      first
                      | (refine QR rfl ?_
                         all_goals (refine Qb ?_; refine Qn ?_; refine Qi (by (conv => lhs; whnf); first | done | exact rfl) ?_; refine Qi (by (conv => lhs; whnf); first | done | exact rfl) ?_; refine QW ?_; (repeat (first | refine Qo ?_ | refine Qa ?_)); refine Q27 ?_; (repeat (first | refine Q1s ?_ | refine Q1t ?_)); refine Q1y (by (conv => lhs; whnf); first | done | exact rfl) (by (conv => lhs; whnf); first | done | exact rfl) ?_)
                         all_goals (refine ⟨_, rfl, ?_, rfl⟩; first | (rw [‹a = _›, ‹b = -1›, ‹k = 4›, e4]) | (rw [‹a = _›, ‹b = -1›, ‹k = 5›, e5]) | (rw [‹k = 4›, g4 ‹¬ b = 0›]) | (rw [‹k = 5›, g5 ‹¬ b = 0›]) | (rw [‹k = 4›, z4 ‹b = 0›]) | (rw [‹k = 5›, z5 ‹b = 0›]) | (rw [‹k = 9›, g9]) | simp [opF, *]))
                      | (refine QU rfl ?_
                         all_goals (refine Q32 ?_; (repeat (first | refine Qo ?_ | refine Qa ?_))))
                     all_goals (refine Qb ?_; refine Qn ?_; refine Qi (by (conv => lhs; whnf); first | done | exact rfl) ?_; refine Qi (by (conv => lhs; whnf); first | done | exact rfl) ?_; refine QW ?_; (repeat (first | refine Qo ?_ | refine Qa ?_)); refine Q27 ?_; (repeat (first | refine Q1s ?_ | refine Q1t ?_)); refine Q1y (by (conv => lhs; whnf); first | done | exact rfl) (by (conv => lhs; whnf); first | done | exact rfl) ?_)
                     all_goals (refine ⟨_, rfl, ?_, rfl⟩; first | (rw [‹a = _›, ‹b = -1›, ‹k = 4›, e4]) | (rw [‹a = _›, ‹b = -1›, ‹k = 5›, e5]) | (rw [‹k = 4›, g4 ‹¬ b = 0›]) | (rw [‹k = 5›, g5 ‹¬ b = 0›]) | (rw [‹k = 4›, z4 ‹b = 0›]) | (rw [‹k = 5›, z5 ‹b = 0›]) | (rw [‹k = 9›, g9]) | simp [opF, *]))
                  | (refine QU rfl ?_
                     all_goals (refine Q32 ?_; (repeat (first | refine Qo ?_ | refine Qa ?_))))
                 all_goals (refine Qb ?_; refine Qb ?_; refine Qn ?_; refine Qi (by (conv => lhs; whnf); first | done | exact rfl) ?_)
                 all_goals (first | (refine Q14 rfl rfl (by omega) ?_) | (refine Q15 rfl rfl (by omega) ?_))
                 all_goals (refine QW ?_; (repeat (first | refine Qo ?_ | refine Qa ?_)))
                 all_goals
                  first
                  | (refine QR rfl ?_
                     all_goals (refine Qb ?_; refine Qn ?_; refine Qi (by (conv => lhs; whnf); first | done | exact rfl) ?_; refine Qi (by (conv => lhs; whnf); first | done | exact rfl) ?_; refine s_quo rfl rfl (by omega) ?_; refine Qi (by (conv => lhs; whnf); first | done | exact rfl) ?_; refine Qi (by (conv => lhs; whnf); first | done | exact rfl) ?_; refine QW ?_; (repeat (first | refine Qo ?_ | refine Qa ?_)); refine Q27 ?_; (repeat (first | refine Q1s ?_ | refine Q1t ?_)); refine Q1y (by (conv => lhs; whnf); first | done | exact rfl) (by (conv => lhs; whnf); first | done | exact rfl) ?_)
                     all_goals (refine ⟨_, rfl, ?_, rfl⟩; first | (rw [‹a = _›, ‹b = -1›, ‹k = 4›, e4]) | (rw [‹a = _›, ‹b = -1›, ‹k = 5›, e5]) | (rw [‹k = 4›, g4 ‹¬ b = 0›]) | (rw [‹k = 5›, g5 ‹¬ b = 0›]) | (rw [‹k = 4›, z4 ‹b = 0›]) | (rw [‹k = 5›, z5 ‹b = 0›]) | (rw [‹k = 9›, g9]) | simp [opF, *]))
                  | (refine QU rfl ?_
                     all_goals (refine Q32 ?_; (repeat (first | refine Qo ?_ | refine Qa ?_))))
                 all_goals (refine Qb ?_; refine Qn ?_; refine Qi (by (conv => lhs; whnf); first | done | exact rfl) ?_; refine Qi (by (conv => lhs; whnf); first | done | exact rfl) ?_; refine s_rem rfl rfl (by omega) ?_; refine Qi (by (conv => lhs; whnf); first | done | exact rfl) ?_; refine Qi (by (conv => lhs; whnf); first | done | exact rfl) ?_; refine QW ?_; (repeat (first | refine Qo ?_ | refine Qa ?_)); refine Q27 ?_; (repeat (first | refine Q1s ?_ | refine Q1t ?_)); refine Q1y (by (conv => lhs; whnf); first | done | exact rfl) (by (conv => lhs; whnf); first | done | exact rfl) ?_)
                 all_goals (refine ⟨_, rfl, ?_, rfl⟩; first | (rw [‹a = _›, ‹b = -1›, ‹k = 4›, e4]) | (rw [‹a = _›, ‹b = -1›, ‹k = 5›, e5]) | (rw [‹k = 4›, g4 ‹¬ b = 0›]) | (rw [‹k = 5›, g5 ‹¬ b = 0›]) | (rw [‹k = 4›, z4 ‹b = 0›]) | (rw [‹k = 5›, z5 ‹b = 0›]) | (rw [‹k = 9›, g9]) | simp [opF, *]))
              | (refine QU rfl ?_
                 all_goals (refine Qb ?_; refine Qn ?_)
                 all_goals (first | (refine Q14 rfl rfl (by omega) ?_) | (refine Q15 rfl rfl (by omega) ?_) | (refine Q6 rfl rfl (fun hc => ?_) (fun hc => ?_)))
                 all_goals (refine Qi (by (conv => lhs; whnf); first | done | exact rfl) ?_; refine QW ?_; (repeat (first | refine Qo ?_ | refine Qa ?_)))
                 all_goals
                  first
                  | (refine QR rfl ?_
                     all_goals (refine Qb ?_; refine Qb ?_; refine Qn ?_; refine Qi (by (conv => lhs; whnf); first | done | exact rfl) ?_; refine Qi (by (conv => lhs; whnf); first | done | exact rfl) ?_)
                     all_goals (first | (refine Q8N rfl rfl (by omega) ?_) | (refine Q8O rfl rfl (by omega) ?_) | (refine QB rfl rfl (fun hc => ?_) (fun hc => ?_)))
                     all_goals (refine QW ?_; (repeat (first | refine Qo ?_ | refine Qa ?_)))
                     all_goals
                      first
                      | (refine QR rfl ?_
                         all_goals (refine Qn ?_; refine Qi (by (conv => lhs; whnf); first | done | exact rfl) ?_)
                         all_goals (refine QW ?_; (repeat (first | refine Qo ?_ | refine Qa ?_))))
                      | (refine QU rfl ?_
                         all_goals (refine Q32 ?_; (repeat (first | refine Qo ?_ | refine Qa ?_))))
                     all_goals (refine Qb ?_; refine Qn ?_; refine Qi (by (conv => lhs; whnf); first | done | exact rfl) ?_; refine Qi (by (conv => lhs; whnf); first | done | exact rfl) ?_; refine Qi (by (conv => lhs; whnf); first | done | exact rfl) ?_; refine QW ?_; (repeat (first | refine Qo ?_ | refine Qa ?_)); refine Q27 ?_; (repeat (first | refine Q1s ?_ | refine Q1t ?_)); refine Q1y (by (conv => lhs; whnf); first | done | exact rfl) (by (conv => lhs; whnf); first | done | exact rfl) ?_)
                     all_goals (refine ⟨_, rfl, ?_, rfl⟩; first | (rw [‹a = _›, ‹b = -1›, ‹k = 4›, e4]) | (rw [‹a = _›, ‹b = -1›, ‹k = 5›, e5]) | (rw [‹k = 4›, g4 ‹¬ b = 0›]) | (rw [‹k = 5›, g5 ‹¬ b = 0›]) | (rw [‹k = 4›, z4 ‹b = 0›]) | (rw [‹k = 5›, z5 ‹b = 0›]) | (rw [‹k = 9›, g9]) | simp [opF, *]))
                  | (refine QU rfl ?_
                     all_goals (refine Qb ?_; refine Qn ?_)
                     all_goals (first | (refine Q14 rfl rfl (by omega) ?_) | (refine Q15 rfl rfl (by omega) ?_) | (refine Q6 rfl rfl (fun hc => ?_) (fun hc => ?_)))
                     all_goals (refine Qi (by (conv => lhs; whnf); first | done | exact rfl) ?_; refine QW ?_; (repeat (first | refine Qo ?_ | refine Qa ?_)))
                     all_goals
                      first
                      | (refine QR rfl ?_
                         all_goals (refine Qb ?_; refine Qb ?_; refine Qn ?_; refine Qi (by (conv => lhs; whnf); first | done | exact rfl) ?_; refine Qi (by (conv => lhs; whnf); first | done | exact rfl) ?_)
                         all_goals (first | (refine Q14 rfl rfl (by omega) ?_) | (refine Q15 rfl rfl (by omega) ?_) | (refine Q6 rfl rfl (fun hc => ?_) (fun hc => ?_)))
                         all_goals (refine QW ?_; (repeat (first | refine Qo ?_ | refine Qa ?_)))
                         all_goals
                          first
                          | (refine QR rfl ?_
                             all_goals (refine Qn ?_; refine Qi (by (conv => lhs; whnf); first | done | exact rfl) ?_)
                             all_goals (refine QW ?_; (repeat (first | refine Qo ?_ | refine Qa ?_))))
                          | (refine QU rfl ?_
                             all_goals (refine Q32 ?_; (repeat (first | refine Qo ?_ | refine Qa ?_))))
                         all_goals (refine Qb ?_; refine Qn ?_; refine Qi (by (conv => lhs; whnf); first | done | exact rfl) ?_; refine Qi (by (conv => lhs; whnf); first | done | exact rfl) ?_; refine Qi (by (conv => lhs; whnf); first | done | exact rfl) ?_; refine QW ?_; (repeat (first | refine Qo ?_ | refine Qa ?_)); refine Q27 ?_; (repeat (first | refine Q1s ?_ | refine Q1t ?_)); refine Q1y (by (conv => lhs; whnf); first | done | exact rfl) (by (conv => lhs; whnf); first | done | exact rfl) ?_)
                         all_goals (refine ⟨_, rfl, ?_, rfl⟩; first | (rw [‹a = _›, ‹b = -1›, ‹k = 4›, e4]) | (rw [‹a = _›, ‹b = -1›, ‹k = 5›, e5]) | (rw [‹k = 4›, g4 ‹¬ b = 0›]) | (rw [‹k = 5›, g5 ‹¬ b = 0›]) | (rw [‹k = 4›, z4 ‹b = 0›]) | (rw [‹k = 5›, z5 ‹b = 0›]) | (rw [‹k = 9›, g9]) | simp [opF, *]))
                      | (refine QU rfl ?_
                         all_goals (refine Qb ?_; refine Qn ?_)
                         all_goals (first | (refine Q14 rfl rfl (by omega) ?_) | (refine Q15 rfl rfl (by omega) ?_) | (refine Q6 rfl rfl (fun hc => ?_) (fun hc => ?_)))
                         all_goals (refine Qi (by (conv => lhs; whnf); first | done | exact rfl) ?_; refine QW ?_; (repeat (first | refine Qo ?_ | refine Qa ?_)))
                         all_goals
                          first
                          | (refine QR rfl ?_
                             all_goals (refine Qb ?_; refine Qn ?_; refine Qi (by (conv => lhs; whnf); first | done | exact rfl) ?_; refine Qi (by (conv => lhs; whnf); first | done | exact rfl) ?_; refine s_and rfl rfl ?_; refine Qi (by (conv => lhs; whnf); first | done | exact rfl) ?_; refine Qi (by (conv => lhs; whnf); first | done | exact rfl) ?_; refine QW ?_; (repeat (first | refine Qo ?_ | refine Qa ?_)); refine Q27 ?_; (repeat (first | refine Q1s ?_ | refine Q1t ?_)); refine Q1y (by (conv => lhs; whnf); first | done | exact rfl) (by (conv => lhs; whnf); first | done | exact rfl) ?_)
                             all_goals (refine ⟨_, rfl, ?_, rfl⟩; first | (rw [‹a = _›, ‹b = -1›, ‹k = 4›, e4]) | (rw [‹a = _›, ‹b = -1›, ‹k = 5›, e5]) | (rw [‹k = 4›, g4 ‹¬ b = 0›]) | (rw [‹k = 5›, g5 ‹¬ b = 0›]) | (rw [‹k = 4›, z4 ‹b = 0›]) | (rw [‹k = 5›, z5 ‹b = 0›]) | (rw [‹k = 9›, g9]) | simp [opF, *]))
                          | (refine QU rfl ?_
                             all_goals (refine Qb ?_; refine Qn ?_)
                             all_goals (first | (refine Q14 rfl rfl (by omega) ?_) | (refine Q15 rfl rfl (by omega) ?_) | (refine Q6 rfl rfl (fun hc => ?_) (fun hc => ?_)))
                             all_goals (refine Qi (by (conv => lhs; whnf); first | done | exact rfl) ?_; refine QW ?_; (repeat (first | refine Qo ?_ | refine Qa ?_)))
                             all_goals
                              first
                              | (refine QR rfl ?_
                                 all_goals (refine Qb ?_; refine Qn ?_; refine Qi (by (conv => lhs; whnf); first | done | exact rfl) ?_; refine Qi (by (conv => lhs; whnf); first | done | exact rfl) ?_; refine s_or rfl rfl ?_; refine Qi (by (conv => lhs; whnf); first | done | exact rfl) ?_; refine Qi (by (conv => lhs; whnf); first | done | exact rfl) ?_; refine s_and rfl rfl ?_; (first | (refine Q4z rfl rfl ?_) | (refine Q4l rfl rfl ?_)); refine Qi (by (conv => lhs; whnf); first | done | exact rfl) ?_; refine Qi (by (conv => lhs; whnf); first | done | exact rfl) ?_; refine QW ?_; (repeat (first | refine Qo ?_ | refine Qa ?_)); refine Q27 ?_; (repeat (first | refine Q1s ?_ | refine Q1t ?_)); refine Q1y (by (conv => lhs; whnf); first | done | exact rfl) (by (conv => lhs; whnf); first | done | exact rfl) ?_)
                                 all_goals (refine ⟨_, rfl, ?_, rfl⟩; first | (rw [‹a = _›, ‹b = -1›, ‹k = 4›, e4]) | (rw [‹a = _›, ‹b = -1›, ‹k = 5›, e5]) | (rw [‹k = 4›, g4 ‹¬ b = 0›]) | (rw [‹k = 5›, g5 ‹¬ b = 0›]) | (rw [‹k = 4›, z4 ‹b = 0›]) | (rw [‹k = 5›, z5 ‹b = 0›]) | (rw [‹k = 9›, g9]) | simp [opF, *]))
                              | (refine QU rfl ?_
                                 all_goals (refine Q32 ?_; (repeat (first | refine Qo ?_ | refine Qa ?_)))))))))))
 all_goals (refine Qb ?_; refine Qn ?_; refine Qi (by (conv => lhs; whnf); first | done | exact rfl) ?_; refine Qi (by (conv => lhs; whnf); first | done | exact rfl) ?_; refine QW ?_; (repeat (first | refine Qo ?_ | refine Qa ?_)); refine Q27 ?_; (repeat (first | refine Q1s ?_ | refine Q1t ?_)); refine Q1y (by (conv => lhs; whnf); first | done | exact rfl) (by (conv => lhs; whnf); first | done | exact rfl) ?_; refine ⟨_, rfl, ?_, rfl⟩; first | (rw [‹a = _›, ‹b = -1›, ‹k = 4›, e4]) | (rw [‹a = _›, ‹b = -1›, ‹k = 5›, e5]) | (rw [‹k = 4›, g4 ‹¬ b = 0›]) | (rw [‹k = 5›, g5 ‹¬ b = 0›]) | (rw [‹k = 4›, z4 ‹b = 0›]) | (rw [‹k = 5›, z5 ‹b = 0›]) | (rw [‹k = 9›, g9]) | simp [opF, *])
theorem opOf_s {cx : Cx} {w : World} {L : List Res} {k a b : Int} (ha : inI a) (hb : inI b) (hS : St cx w L) : Rets Tryz.prog R_OpOf [.int .i64 k, .int .i64 a, .int .i64 b] w fun v w' => v = .tuple #[.int .i64 (opF k a b).1, .bool (opF k a b).2] ∧ St cx w' L :=
 (opOf_c k a b ha hb w).mono fun _ _ ⟨h1, h2⟩ => ⟨h1, by rw [h2]; exact hS⟩
end Go.Proofs.YteflkifmgnpbhaaGreat
namespace Go.Lir
section
variable {m : Module} {s : MS} {x : Ins}
theorem x2_n (h2 : x.op = 2) (hn : s.g.num x.a = none ∨ s.g.num x.b = none) : s.ins m x = .lost := by
 rw [Q9z h2]
 cases ha : s.g.num x.a with
 | none => rfl
 | some n => rw [Q3 rfl, Qx (hn.resolve_left (by rw [ha]; exact fun h => by cases h))]
theorem x2_h {a b : Int} (h2 : x.op = 2) (ha : s.g.num x.a = some a) (hb : s.g.num x.b = some b) (hd : (opF x.k a b).2 = false) : s.ins m x = .halt 1 := by rw [Q9z h2, Q3 ha, Q3 hb, if_pos hd]
theorem x2_g {a b : Int} (h2 : x.op = 2) (ha : s.g.num x.a = some a) (hb : s.g.num x.b = some b) (hd : (opF x.k a b).2 = true) : s.ins m x = .go (s.put [intV (opF x.k a b).1]) := by rw [Q9z h2, Q3 ha, Q3 hb, if_neg (by rw [hd]; decide)]
end
end Go.Lir
namespace Go.Proofs.YteflkifmgnpbhaaGreat
open Go.Lir
set_option maxHeartbeats 1000000
attribute [local irreducible] LC.wp Q0 QF QE retQ Q16 LO.wp Qf Calls
set_option linter.unusedSimpArgs false
set_option linter.unusedVariables false
variable {cx : Cx} {w : World} {L : List Res} {p N : Nat} {z : GZ} {fr : List FrmV} {g : FrmV} {h : HpS} {out inp : List Int} {fu : Nat} {m : Module}
theorem big_g1 (hS : St cx w (sl 182 4 g.vv (g.vals.map Val.cells) :: sl 3 1 g.rv (Q8 g.regs) :: big FrmV.res1 fr :: L)) : St cx w (big FrmV.res1 (fr ++ [g]) :: L) :=
 St.big_push (f := FrmV.res1) (x := g) (St.star' hS)
theorem QbO : ((fr.map FrmV.abs).reverse).length = fr.length := by rw [List.length_reverse, List.length_map]
theorem iC1 {l : List Int} {n : Int} : Q8 l ++ [[.int .i64 n]] = Q8 (l ++ [n]) := by unfold Q8; rw [List.map_append]; rfl
attribute [local irreducible] Frm.val Frm.num Frm.args Frm.rgs Frm.reg intsV MS.ins MS.call HpS.get HpS.set HpS.setC HpS.len HpS.code HpS.put HpS.putV HpS.open HpS.shut HpS.full HpS.openV HpS.can HpS.tuple HpS.arr HpS.arrC HpS.arrV opF Q1U
theorem gins_c {x : Ins} {cs : List Value} (hx : insR.at cx cs x) (hfn : funcR.sl cx z.fn m.funcs) (hi : intR.sl cx z.iv inp) (hop : 1 ≤ x.op ∧ x.op ≤ 14) (hk : x.op = 14 → 0 ≤ x.k ∧ x.k < m.funcs.length) (h6 : x.regs.length ≤ 100) (h8 : x.args.length ≤ 100) (hgi : g.i ≤ 1000) (hf : fr.length ≤ 900) (hn : g.vals.length ≤ 800000) (hrn : g.regs.length ≤ 800000) (hN : N ≤ 99999) (hol : out.length ≤ 2000) (hrg : ∀ v ∈ g.vals, inI v.n) (hS : St cx w (gX p z fr g N h out L)) :
 Rets Tryz.prog Q9r [.pointer (some ⟨p, 0, none⟩), .agg ⟨cs⟩] w (GQ p z N fu h out ((msOf h g.nx fr inp out fu).ins m x) cx L) := by
 obtain ⟨vr, va, rfl, hr, ha⟩ := Q1a hx
 have hil := hi.len
 have hfl := hfn.len
 have hnn : g.nx.vals.length ≤ 800000 := hn
 all_goals refine lgo tyD Tryz.func74 ?_
 all_goals (refine Zaz ?_; intro p3 w1 hS; refine Zan ?_; obtain ⟨lv, rv, ho, hS⟩ := Q1F (p := p) (z := z) (fr := fr) (g := g) (N := N) (h := h) (out := out) (L := iBlk p3 x vr va :: L) hS.sp; refine Zak ?_; refine zR1 (c := Q2P (by omega) hS) (h := ?_); rintro v1 w1 ⟨b9, o9, rfl, hel, hS⟩; refine Zag ?_; refine Q1 hS hel rfl fd (Q5 fr g) (Q7 fr g) rfl ?_; refine s_add rfl rfl (by omega) (by omega) ?_; rw [show ((g.i : Int) + 1) = ((g.i + 1 : Nat) : Int) by omega]; refine Zag ?_; refine QM hS hel rfl vw fd (Q5 fr g) (Q7 fr g) (by omega) rfl (Q1O (g' := g.nx) rfl) ?_; intro w8 hS; have hS := hS.ns; have hS : St cx _ (gX p z fr g.nx N h out (iBlk p3 x vr va :: L)) := QK ho hS.sp; refine ZbT ?_; refine zf0 ?_; refine zl hS ?_; refine ZbF ?_; refine Zaa ?_)
 all_goals (first | (refine Qd ?_) | (refine Qh ?_) | (refine Q6 rfl rfl (fun hc => ?_) (fun hc => ?_)))
 all_goals (refine Zac ?_)
 all_goals
  first
  | (refine zct ?_
     all_goals (refine Zad ?_; refine zf0 ?_; refine zl hS ?_; refine zb2 [_, _, _, _] ?_; refine zB1 hS [_, _, _, _] ?_; intro b1 w1 hS; have hS : St cx _ (vSl (.slice (some ⟨b1, 0, none⟩) 1 1) (intV x.n) :: gX p z fr g.nx N h out L) := (by have hS := St.slOf (T := 182) (es := 4) (css := [intV x.n].map Val.cells) hS rfl (by simp [Val.cells]) rfl; exact hS.sp); refine zR2 (c := gP_c (vs := [intV x.n]) (by omega) (by simp only [List.length_cons, List.length_nil]; omega) hS) (h := ?_); rintro v1 w1 ⟨rfl, tv, hS⟩; have hG : GQ p z N fu h out ((msOf h g.nx fr inp out fu).ins m x) cx L (.int .i64 0) _ := GQ.go (g' := g.nx.push tv [intV x.n]) (xins_1 (by omega)) hi (Nat.le_succ N) rfl hS; refine Zah ?_)
     all_goals (exact ⟨_, rfl, hG⟩))
  | (refine zcf ?_
     all_goals (refine Zaa ?_)
     all_goals (first | (refine Qd ?_) | (refine Qh ?_) | (refine Q6 rfl rfl (fun hc => ?_) (fun hc => ?_)))
     all_goals (refine Zac ?_)
     all_goals
      first
      | (refine zct ?_
         all_goals (refine Zad ?_; refine zf0 ?_; refine zl hS ?_; refine zf0 ?_; refine zl hS ?_; refine zB2 hS [_, _] ?_; intro b1 w1 hS)
         all_goals (have hS : St cx _ (sl 3 1 (.slice (some ⟨b1, 0, none⟩) 2 2) (Q8 [x.a, x.b]) :: gX p z fr g.nx N h out (iBlk p3 x vr va :: L)) := (by have hS := St.slOf (T := 3) (es := 1) (css := Q8 [x.a, x.b]) hS rfl (by simp [Q8]) rfl; exact hS.sp); refine zR2 (c := gNN_c (by omega) hS) (h := ?_); rintro v1 w1 (⟨na, nb, sn, hna, hnb, ho2, rfl, hS⟩ | ⟨hna, sn, rfl, hS⟩))
         all_goals (refine Zbw ?_; refine ZbI ?_)
         all_goals
          first
          | (refine zct ?_
             all_goals (refine Qb ?_; have hG : GQ p z N fu h out ((msOf h g.nx fr inp out fu).ins m x) cx L (.int .i64 2) _ := GQ.lost (x2_n (by omega) hna) hS fun _ _ hS => hS.sp; refine Zbm ?_)
             all_goals (exact ⟨_, rfl, hG⟩))
          | (refine zcf ?_
             all_goals refine zsk ?_)
         all_goals (refine Qb ?_; refine zD (ci 14 [8, 13]) ?_; have hS := hS.drew; refine zf0 ?_; refine zl hS ?_; refine zm ?_; refine QV hS vw rfl fd (by simp) (by simp) ?_; intro b2 o2 hel2; refine Q1f hS hel2 rfl fd rfl rfl rfl ?_; refine zm ?_; refine QV hS vw rfl fd (by simp) (by simp) ?_; intro b3 o3 hel3; refine Q1f hS hel3 rfl fd rfl rfl rfl ?_)
         all_goals (obtain ⟨v8, hv8, e8⟩ := Q94 hna; obtain ⟨v7, hv7, e7⟩ := Q94 hnb; refine zR3 (c := opOf_s (by rw [← e8]; exact hrg v8 hv8) (by rw [← e7]; exact hrg v7 hv7) hS) (h := ?_); rintro v1 w1 ⟨rfl, hS⟩; cases hd : (opF x.k na nb).2)
         all_goals (refine Zbw ?_; refine ZbI ?_)
         all_goals
          first
          | (refine zct ?_
             all_goals (refine Zad ?_; refine zR2 (c := gE_c 1 (show St cx _ (gX p z fr g.nx N h out _) from hS)) (h := ?_); rintro v1 w1 ⟨rfl, hS⟩; have hG : GQ p z N fu h out ((msOf h g.nx fr inp out fu).ins m x) cx L (.int .i64 1) _ := GQ.halt (fr' := fr) (g' := g.nx) (N' := N) (x2_h (by omega) hna hnb hd) (Nat.le_succ N) rfl hS.sp; refine Zah ?_)
             all_goals (exact ⟨_, rfl, hG⟩))
          | (refine zcf ?_
             all_goals refine zsk ?_)
         all_goals (refine Zby ?_; refine zb2 [_, _, _, _] ?_; refine zB1 hS [_, _, _, _] ?_; intro b1 w1 hS; have hS : St cx _ (vSl (.slice (some ⟨b1, 0, none⟩) 1 1) (intV (opF x.k na nb).1) :: gX p z fr g.nx N h out L) := (by have hS := St.slOf (T := 182) (es := 4) (css := [intV (opF x.k na nb).1].map Val.cells) hS rfl (by simp [Val.cells]) rfl; exact hS.sp); refine zR2 (c := gP_c (vs := [intV (opF x.k na nb).1]) (by omega) (by simp only [List.length_cons, List.length_nil]; omega) hS) (h := ?_); rintro v1 w1 ⟨rfl, tv, hS⟩; have hG : GQ p z N fu h out ((msOf h g.nx fr inp out fu).ins m x) cx L (.int .i64 0) _ := GQ.go (g' := g.nx.push tv [intV (opF x.k na nb).1]) (x2_g (by omega) hna hnb hd) hi (Nat.le_succ N) rfl hS; refine Zah ?_)
         all_goals (exact ⟨_, rfl, hG⟩))
      | (refine zcf ?_
         all_goals (refine Zaa ?_)
         all_goals (first | (refine Qd ?_) | (refine Qh ?_) | (refine Q6 rfl rfl (fun hc => ?_) (fun hc => ?_)))
         all_goals (refine Zac ?_)
         all_goals
          first
          | (refine zct ?_
             all_goals (refine Zad ?_; refine znc ?_; refine zf0 ?_)
             all_goals (refine zR1 (c := rtopen_c (N := N) (s := h) (by omega) hS fd) (h := ?_); rintro v1 w1 ⟨rfl, hS⟩; have hS := hS.ns; cases hfu : h.full)
             all_goals (refine ZbE ?_; intro p8 w1 hS; refine Q1n hS rfl rfl (by rfl) fd (by simp) (QQ _) (by rfl) ?_; intro w1 hS; have hS := hS.ns; refine ZbI ?_)
             all_goals
              first
              | (refine zct ?_
                 all_goals (refine Zad ?_; rw [Qc2 hfu] at hS; have hS : St cx _ (gX p z fr g.nx (N + 1) h out L) := hS.sp; refine zR2 (c := gE_c 6 hS) (h := ?_); rintro v1 w1 ⟨rfl, hS⟩; have hG : GQ p z N fu h out ((msOf h g.nx fr inp out fu).ins m x) cx L (.int .i64 1) _ := GQ.halt ((Q7Q (by omega)).trans (new_no hfu)) (Nat.le_refl _) rfl hS; refine Zah ?_)
                 all_goals (exact ⟨_, rfl, hG⟩))
              | (refine zcf ?_
                 all_goals refine zsk ?_)
             all_goals (refine Qb ?_; obtain ⟨lv, rv, ho, hS⟩ := Q1F (p := p) (z := z) (fr := fr) (g := g.nx) (N := N + 1) (h := h.open) (out := out) (L := blk p8 182 h.openV.cells :: iBlk p3 x vr va :: L) hS.sp)
             refine Q1p 1 9 (by kernel_rfl) ?_ ?_
             · skip
               refine Q1p 3 9 (by kernel_rfl) ?_ ?_
               · skip
                 all_goals (refine zC [(0, none), (2, none), (7, none), (8, none), (1, some (some [8])), (3, some (some [8])), (4, none), (5, none), (6, none), (9, some (some [6])), (10, some none), (11, none), (12, none), (13, some none)] ?_; have hS := hS.drew; refine Zbs ?_; refine zf0 ?_; refine Zab ?_; refine zl hS ?_; refine Zar ?_; refine zR1 (c := Q2P (by omega) (show St cx _ (gL p z lv h.open.left fr g.nx _) from hS.sp)) (h := ?_); rintro v1 w1 ⟨b8, o8, rfl, hel8, hS⟩; refine ZaD ?_; refine zR1 (c := Q2P (by omega) (show St cx _ (gL p z lv h.open.left fr g.nx _) from hS.sp)) (h := ?_); rintro v1 w1 ⟨b7, o7, rfl, hel7, hS⟩; refine ZaI ?_; refine Zbx ?_; refine Q1 hS hel7 rfl fd (Q5 fr g.nx) (Q7 fr g.nx) rfl ?_; refine Zar ?_; refine zB1 hS [_] ?_; intro b1 w1 hS; refine zt ?_; refine ⟨List.forall_mem_cons.2 ⟨(by (exact QA hS hel7 rfl fd (Q5 fr g.nx) (Q7 fr g.nx) rfl)), fun _ h => (List.not_mem_nil h).elim⟩, ?_⟩)
                 all_goals (refine s_cf ?_; refine Q1x Q2R (.inl Q53) hS vw vw (v := g.rv) (css := Q8 g.regs) fd (hS.srcB fd (by rfl) (by simp [oneC])) (by rw [List.length_map]; simp only [List.length_cons, List.length_nil]; omega) ?_; intro v7 w7 hS; have hS := hS.ns; refine Zab ?_; refine znc ?_; refine ZbP ?_; refine QM hS hel8 rfl vw fd (Q5 fr g.nx) (Q7 fr g.nx) (by omega) (hS.oneC (v := v7) (css := Q8 g.regs ++ [[.int .i64 h.openV.region]]) fd) (Q1O (g' := ⟨g.f, g.b, g.i + 1, g.vv, g.vals, v7, g.regs ++ [h.openV.region]⟩) rfl) ?_; intro w8 hS; have hS := hS.ns; rw [iC1] at hS; have hS : St cx _ (gX p z fr ⟨g.f, g.b, g.i + 1, g.vv, g.vals, v7, g.regs ++ [h.openV.region]⟩ (N + 1) h.open out (blk p8 182 h.openV.cells :: L)) := QK ho hS.sp; refine Zaw ?_; refine Zad ?_; refine zv hS ?_; refine zB1 hS [_, _, _, _] ?_; intro b1 w1 hS; have hS : St cx _ (vSl (.slice (some ⟨b1, 0, none⟩) 1 1) h.openV :: gX p z fr ⟨g.f, g.b, g.i + 1, g.vv, g.vals, v7, g.regs ++ [h.openV.region]⟩ (N + 1) h.open out L) := (by have hS := St.slOf (T := 182) (es := 4) (css := [h.openV].map Val.cells) hS rfl (by simp [Val.cells]) rfl; exact hS.sp); refine zR2 (c := gP_c (vs := [h.openV]) (by omega) (by simp only [List.length_cons, List.length_nil]; omega) hS) (h := ?_); rintro v1 w1 ⟨rfl, tv, hS⟩; have hG : GQ p z N fu h out ((msOf h g.nx fr inp out fu).ins m x) cx L (.int .i64 0) _ := GQ.go ((Q7Q (by omega)).trans (Q6X hfu)) hi (Nat.le_refl _) rfl hS)
                 all_goals (refine Zah ?_; exact ⟨_, rfl, hG⟩)
               · skip
                 all_goals (refine zC [(0, none), (2, none), (7, none), (8, none), (1, some (some [8])), (9, some (some [])), (3, some (some [8])), (4, none), (5, none), (6, none), (10, some none), (11, none), (12, none), (13, some none)] ?_; have hS := hS.drew; refine Zbs ?_; refine zf0 ?_; refine Zab ?_; refine zl hS ?_; refine Zar ?_; refine zR1 (c := Q2P (by omega) (show St cx _ (gL p z lv h.open.left fr g.nx _) from hS.sp)) (h := ?_); rintro v1 w1 ⟨b8, o8, rfl, hel8, hS⟩; refine ZaD ?_; refine zB1 hS [_] ?_; intro b1 w1 hS; refine zt ?_; refine ⟨fun _ h => (List.not_mem_nil h).elim, ?_⟩; refine Q4n ?_; refine zR1 (c := Q2P (by omega) (show St cx _ (gL p z lv h.open.left fr g.nx _) from hS.sp)) (h := ?_); rintro v1 w1 ⟨b7, o7, rfl, hel7, hS⟩; refine ZaI ?_; refine Zbx ?_; refine Q1 hS hel7 rfl fd (Q5 fr g.nx) (Q7 fr g.nx) rfl ?_; refine Zax ?_; refine Q1x Q2R (.inl Q53) hS vw vw (v := g.rv) (css := Q8 g.regs) fd (hS.srcB fd (by rfl) (by simp [oneC])) (by rw [List.length_map]; simp only [List.length_cons, List.length_nil]; omega) ?_; intro v7 w7 hS; have hS := hS.ns)
                 all_goals (refine Zab ?_; refine znc ?_; refine ZbP ?_; refine QM hS hel8 rfl vw fd (Q5 fr g.nx) (Q7 fr g.nx) (by omega) (hS.oneC (v := v7) (css := Q8 g.regs ++ [[.int .i64 h.openV.region]]) fd) (Q1O (g' := ⟨g.f, g.b, g.i + 1, g.vv, g.vals, v7, g.regs ++ [h.openV.region]⟩) rfl) ?_; intro w8 hS; have hS := hS.ns; rw [iC1] at hS; have hS : St cx _ (gX p z fr ⟨g.f, g.b, g.i + 1, g.vv, g.vals, v7, g.regs ++ [h.openV.region]⟩ (N + 1) h.open out (blk p8 182 h.openV.cells :: L)) := QK ho hS.sp; refine Zaw ?_; refine Zad ?_; refine zv hS ?_; refine zB1 hS [_, _, _, _] ?_; intro b1 w1 hS; have hS : St cx _ (vSl (.slice (some ⟨b1, 0, none⟩) 1 1) h.openV :: gX p z fr ⟨g.f, g.b, g.i + 1, g.vv, g.vals, v7, g.regs ++ [h.openV.region]⟩ (N + 1) h.open out L) := (by have hS := St.slOf (T := 182) (es := 4) (css := [h.openV].map Val.cells) hS rfl (by simp [Val.cells]) rfl; exact hS.sp); refine zR2 (c := gP_c (vs := [h.openV]) (by omega) (by simp only [List.length_cons, List.length_nil]; omega) hS) (h := ?_); rintro v1 w1 ⟨rfl, tv, hS⟩; have hG : GQ p z N fu h out ((msOf h g.nx fr inp out fu).ins m x) cx L (.int .i64 0) _ := GQ.go ((Q7Q (by omega)).trans (Q6X hfu)) hi (Nat.le_refl _) rfl hS)
                 all_goals (refine Zah ?_; exact ⟨_, rfl, hG⟩)
             · skip
               all_goals (refine zC [(0, none), (2, none), (7, none), (8, none), (9, some (some [])), (1, some (some [8])), (3, some (some [8])), (4, none), (5, none), (6, none), (10, some none), (11, none), (12, none), (13, some none)] ?_; have hS := hS.drew; refine Zbs ?_; refine zf0 ?_; refine Zab ?_; refine zl hS ?_; refine Zar ?_; refine zB1 hS [_] ?_; intro b1 w1 hS; refine zt ?_; refine ⟨fun _ h => (List.not_mem_nil h).elim, ?_⟩; refine Q4n ?_; refine zR1 (c := Q2P (by omega) (show St cx _ (gL p z lv h.open.left fr g.nx _) from hS.sp)) (h := ?_); rintro v1 w1 ⟨b8, o8, rfl, hel8, hS⟩; refine ZaD ?_; refine zR1 (c := Q2P (by omega) (show St cx _ (gL p z lv h.open.left fr g.nx _) from hS.sp)) (h := ?_); rintro v1 w1 ⟨b7, o7, rfl, hel7, hS⟩; refine ZaI ?_; refine Zbx ?_; refine Q1 hS hel7 rfl fd (Q5 fr g.nx) (Q7 fr g.nx) rfl ?_; refine Zax ?_; refine Q1x Q2R (.inl Q53) hS vw vw (v := g.rv) (css := Q8 g.regs) fd (hS.srcB fd (by rfl) (by simp [oneC])) (by rw [List.length_map]; simp only [List.length_cons, List.length_nil]; omega) ?_; intro v7 w7 hS; have hS := hS.ns)
               all_goals (refine Zab ?_; refine znc ?_; refine ZbP ?_; refine QM hS hel8 rfl vw fd (Q5 fr g.nx) (Q7 fr g.nx) (by omega) (hS.oneC (v := v7) (css := Q8 g.regs ++ [[.int .i64 h.openV.region]]) fd) (Q1O (g' := ⟨g.f, g.b, g.i + 1, g.vv, g.vals, v7, g.regs ++ [h.openV.region]⟩) rfl) ?_; intro w8 hS; have hS := hS.ns; rw [iC1] at hS; have hS : St cx _ (gX p z fr ⟨g.f, g.b, g.i + 1, g.vv, g.vals, v7, g.regs ++ [h.openV.region]⟩ (N + 1) h.open out (blk p8 182 h.openV.cells :: L)) := QK ho hS.sp; refine Zaw ?_; refine Zad ?_; refine zv hS ?_; refine zB1 hS [_, _, _, _] ?_; intro b1 w1 hS; have hS : St cx _ (vSl (.slice (some ⟨b1, 0, none⟩) 1 1) h.openV :: gX p z fr ⟨g.f, g.b, g.i + 1, g.vv, g.vals, v7, g.regs ++ [h.openV.region]⟩ (N + 1) h.open out L) := (by have hS := St.slOf (T := 182) (es := 4) (css := [h.openV].map Val.cells) hS rfl (by simp [Val.cells]) rfl; exact hS.sp); refine zR2 (c := gP_c (vs := [h.openV]) (by omega) (by simp only [List.length_cons, List.length_nil]; omega) hS) (h := ?_); rintro v1 w1 ⟨rfl, tv, hS⟩; have hG : GQ p z N fu h out ((msOf h g.nx fr inp out fu).ins m x) cx L (.int .i64 0) _ := GQ.go ((Q7Q (by omega)).trans (Q6X hfu)) hi (Nat.le_refl _) rfl hS)
               all_goals (refine Zah ?_)
               all_goals (exact ⟨_, rfl, hG⟩))
          | (refine zcf ?_
             all_goals (refine Zaa ?_)
             all_goals (first | (refine Qd ?_) | (refine Qh ?_) | (refine Q6 rfl rfl (fun hc => ?_) (fun hc => ?_)))
             all_goals (refine Zac ?_)
             all_goals
              first
              | (refine zct ?_
                 all_goals (refine Zbv ?_; obtain ⟨lv, rv, ho, hS⟩ := Q1F hS; obtain ⟨av, nv, hiv⟩ := Rep.SR.shape hi; refine Zak ?_; refine znc ?_; refine zf0 ?_; refine zl hS ?_; refine Qbw vw hi ?_)
                 all_goals (first | (refine Qd ?_) | (refine Qh ?_) | (refine Q6 rfl rfl (fun hc => ?_) (fun hc => ?_)))
                 all_goals (refine zn ?_)
                 all_goals
                  first
                  | (refine zct ?_
                     all_goals (refine Zad ?_; have hS : St cx _ (gX p z fr g.nx N h out L) := QK ho hS.sp; refine zR2 (c := gE_c 4 hS) (h := ?_); rintro v1 w1 ⟨rfl, hS⟩; have hG : GQ p z N fu h out ((msOf h g.nx fr inp out fu).ins m x) cx L (.int .i64 1) _ := GQ.halt ((Q8A (by omega)).trans (in_0 (List.length_eq_zero_iff.1 (by show inp.length = 0; omega)))) (Nat.le_succ N) rfl hS; refine Zah ?_)
                     all_goals (exact ⟨_, rfl, hG⟩))
                  | (refine zcf ?_
                     all_goals refine zsk ?_)
                 all_goals (refine Qb ?_; obtain ⟨n0, r0, hir⟩ : ∃ n0 r0, inp = n0 :: r0 := List.exists_cons_of_length_pos (by omega); refine Zak ?_; refine znc ?_; refine zf0 ?_; refine zl hS ?_)
                 all_goals (refine Q5X (m := 0) vw rfl hi rfl (by omega) ?_; intro b8 o8 cs8 x8 hat8 hx8 he8; rw [hir, List.getElem?_cons_zero] at hx8; cases hx8; obtain rfl := Q1z he8)
                 all_goals ((first | (refine zl hS ?_) | (refine zlk hS ?_)); refine ZaE ?_; refine Zbe ?_; refine zf0 ?_; refine zl hS ?_; refine s_subL (l' := 1) (h' := inp.length) vw hi rfl rfl rfl ⟨_, rfl⟩ (by omega) (by omega) ?_; intro v7 hk7; have hk7 : intR.sl cx v7 r0 := (by rw [hir] at hk7; simpa using hk7); have ho7 : oneC v7 = true := (by obtain ⟨a7, n7, e7⟩ := Rep.SR.shape hk7; rw [e7]; rfl); refine znc ?_; refine zf0 ?_; refine zst hS ?_; intro w1 hS; have hS := hS.ns; refine Zbi ?_; refine zm ?_; refine zb2 [_, _, _, _] ?_; refine zB1 hS [_, _, _, _] ?_; intro b1 w1 hS; have hS : St cx _ (vSl (.slice (some ⟨b1, 0, none⟩) 1 1) (intV n0) :: gX p (z.upd z.fv v7 z.ov) fr g.nx N h out L) := (by have hS := St.slOf (T := 182) (es := 4) (css := [intV n0].map Val.cells) hS rfl (by simp [Val.cells]) rfl; have hS : St cx _ (gX p (z.upd z.fv v7 z.ov) fr g.nx N h out (vSl (.slice (some ⟨b1, 0, none⟩) 1 1) (intV n0) :: L)) := QK ho hS.sp; exact hS.sp); refine zR2 (c := gP_c (vs := [intV n0]) (by omega) (by simp only [List.length_cons, List.length_nil]; omega) hS) (h := ?_); rintro v1 w1 ⟨rfl, tv, hS⟩; have hG : GQ p z N fu h out ((msOf h g.nx fr inp out fu).ins m x) cx L (.int .i64 0) _ := .inl ⟨z.fv, v7, z.ov, fr, g.nx.push tv [intV n0], N, h, r0, out, (Q8A (by omega)).trans (in_s hir), hk7, Nat.le_succ N, rfl, hS⟩)
                 all_goals (refine Zah ?_)
                 all_goals (exact ⟨_, rfl, hG⟩))
              | (refine zcf ?_
                 all_goals (refine Zaa ?_)
                 all_goals (first | (refine Qd ?_) | (refine Qh ?_) | (refine Q6 rfl rfl (fun hc => ?_) (fun hc => ?_)))
                 all_goals (refine Zac ?_)
                 all_goals
                  first
                  | (refine zct ?_
                     all_goals (refine Zad ?_; refine zf0 ?_; refine zl hS ?_; refine zB1 hS [_] ?_; intro b1 w1 hS)
                     all_goals (have hS : St cx _ (sl 3 1 (.slice (some ⟨b1, 0, none⟩) 1 1) (Q8 [x.a]) :: gX p z fr g.nx N h out (iBlk p3 x vr va :: L)) := (by have hS := St.slOf (T := 3) (es := 1) (css := Q8 [x.a]) hS rfl (by simp [Q8]) rfl; exact hS.sp); refine zR2 (c := gN_c (by omega) hS) (h := ?_); rintro v1 w1 (⟨n0, sn, hn0, ho2, rfl, hS⟩ | ⟨hn0, sn, rfl, hS⟩))
                     all_goals (refine Zbw ?_; refine ZbI ?_)
                     all_goals
                      first
                      | (refine zct ?_
                         all_goals (refine Qb ?_; have hG : GQ p z N fu h out ((msOf h g.nx fr inp out fu).ins m x) cx L (.int .i64 2) _ := GQ.lost ((Q78 (by omega)).trans (Qx hn0)) hS fun _ _ hS => hS.sp; refine Zbm ?_)
                         all_goals (exact ⟨_, rfl, hG⟩))
                      | (refine zcf ?_
                         all_goals refine zsk ?_)
                     all_goals (refine Zbv ?_; obtain ⟨lv, rv, ho, hS⟩ := Q1F hS; refine Zak ?_; refine znc ?_; refine zf0 ?_; (first | refine zf0 ?_ | refine zfd ?_); refine zl hS ?_; refine QY (n := out.length) hS vw fd (List.length_map _) ?_)
                     all_goals (first | (refine Qd ?_) | (refine Qh ?_) | (refine Q6 rfl rfl (fun hc => ?_) (fun hc => ?_)))
                     all_goals (refine zn ?_)
                     all_goals
                      first
                      | (refine zct ?_
                         all_goals (refine Zad ?_; have hS : St cx _ (gX p z fr g.nx N h out L) := QK ho hS.sp; refine zR2 (c := gE_c 8 hS) (h := ?_); rintro v1 w1 ⟨rfl, hS⟩; have hG : GQ p z N fu h out ((msOf h g.nx fr inp out fu).ins m x) cx L (.int .i64 1) _ := GQ.halt ((Q78 (by omega)).trans ((Q3 hn0).trans (out_0 (by show out.length = 2000; omega)))) (Nat.le_succ N) rfl hS; refine Zah ?_)
                         all_goals (exact ⟨_, rfl, hG⟩))
                      | (refine zcf ?_
                         all_goals refine zsk ?_)
                     all_goals (refine Qb ?_; refine zC [(0, none), (1, none), (2, none), (3, none), (4, none), (5, none), (6, none), (7, none), (8, none), (9, some (some [5])), (10, some (some [])), (11, none), (12, none), (13, none), (14, some none)] ?_; have hS := hS.drew; refine ZbV ?_; refine zf0 ?_; refine ZaU ?_; refine zl hS ?_; refine Zat ?_; refine QV hS vw rfl fd (by simp) (by simp) ?_; intro b2 o2 hel2; refine Zab ?_; refine Q1f hS hel2 rfl fd rfl rfl rfl ?_; refine Zar ?_; refine zB1 hS [_] ?_; intro b1 w1 hS; refine zt ?_; refine ⟨List.forall_mem_cons.2 ⟨(by first | (exact QA (j := 0) hS hel2 rfl fd rfl rfl rfl) | (exact Q1E hS rfl fd rfl)), fun _ h => (List.not_mem_nil h).elim⟩, ?_⟩; refine Q4n ?_; refine Q1x Q5x (.inl Q8E) hS vw vw (v := z.ov) (css := Q8 out) fd (hS.srcB fd (by rfl) (by simp [oneC])) (by rw [List.length_map]; simp only [List.length_cons, List.length_nil]; omega) ?_; intro v7 w7 hS; have hS := hS.ns; have ho7 := hS.oneC (v := v7) (css := Q8 out ++ [[.int .i64 n0]]) fd; rw [iC1] at hS)
                     all_goals (refine zt ?_; refine ⟨fun _ h => (List.not_mem_nil h).elim, ?_⟩; refine s_cq ?_; refine ZaN ?_; refine zf0 ?_; refine ZbP ?_; refine zst hS ?_; intro w1 hS; have hS := hS.ns; refine Zaw ?_; refine Qb ?_; have hS : St cx _ (gX p (z.upd z.fv z.iv v7) fr g.nx N h (out ++ [n0]) L) := QK ho hS.sp; have hG : GQ p z N fu h out ((msOf h g.nx fr inp out fu).ins m x) cx L (.int .i64 0) _ := .inl ⟨z.fv, z.iv, v7, fr, g.nx, N, h, inp, out ++ [n0], (Q78 (by omega)).trans ((Q3 hn0).trans (out_s (by show out.length ≠ 2000; omega))), hi, Nat.le_succ N, rfl, hS⟩; refine Zbm ?_)
                     all_goals (exact ⟨_, rfl, hG⟩))
                  | (refine zcf ?_
                     all_goals (refine Zaa ?_)
                     all_goals (first | (refine Qd ?_) | (refine Qh ?_) | (refine Q6 rfl rfl (fun hc => ?_) (fun hc => ?_)))
                     all_goals (refine Zac ?_)
                     all_goals
                      first
                      | (refine zct ?_
                         all_goals (refine Zad ?_; refine zf0 ?_; refine zl hS ?_)
                         all_goals (refine zR2 (c := gRs_c (by omega) (by omega) hr (show St cx _ (gX p z fr g.nx N h out _) from hS)) (h := ?_); rintro v1 w1 (⟨rs, sr, hrs, hrl, ho1, rfl, hS⟩ | ⟨hrs, rfl, hS⟩))
                         all_goals (refine Zbw ?_; refine ZaE ?_; refine zf0 ?_; refine zl hS ?_)
                         all_goals (refine zR2 (c := Qcj (by omega) (by omega) ha (show St cx _ (gX p z fr g.nx N h out _) from hS)) (h := ?_); rintro v1 w1 (⟨vs, sw, hvs, hvl, ho2, rfl, hS⟩ | ⟨hvs, rfl, hS⟩))
                         all_goals (refine Zbw ?_; refine Zan ?_; obtain ⟨lv, rv, ho, hS⟩ := Q1F hS; have hk0 := (hk (by omega)).1; have hk1 := (hk (by omega)).2; refine zC [(0, none), (1, none), (2, none), (3, none), (4, none), (5, none), (6, none), (7, none), (8, none), (9, some (some [4, 6, 8])), (10, some none)] ?_; have hS := hS.drew; refine Zbo ?_; refine zf0 ?_; refine Zab ?_; refine zf0 ?_; refine Zab ?_; refine zl hS ?_; refine Zab ?_; refine zf0 ?_; refine Zab ?_; refine zl hS ?_; refine Zab ?_; refine zj ?_; intro b1 o1 cs1 x1 hat1 hx1 he1; obtain ⟨vp1, vr1, vb1, rfl, hp1, hr1, hb1⟩ := Qv he1; have hX := (Qb2 (m := m) (s := msOf h g.nx fr inp out fu) (x := x) (by omega)).trans (call_X hx1); refine ZaY ?_; refine ZaR ?_; intro p17 w1 hS; refine Zao ?_)
                         all_goals (refine s_cf ?_; refine zsn hS ?_; intro w1 hS; have hS := hS.ns; refine Zaw ?_; refine ZaA ?_; refine znt ?_; refine zm ?_; (first | refine zgn ?_ | (refine Zam ?_)); (first | refine zgn ?_ | (refine ZaP ?_)); refine Zai ?_; (first | refine zgn ?_ | (refine Zam ?_)); (first | refine zgn ?_ | (refine ZaM ?_)); (first | refine zgn ?_ | (refine zgy ?_; refine zf0 ?_)); (first | refine zgn ?_ | (refine zgy ?_; refine zl hS ?_)))
                         all_goals (first | refine zgn ?_ | (refine zgy ?_; (first | (refine QC ?_) | (refine QJ ?_) | (refine Qj rfl rfl (fun hc => ?_) (fun hc => ?_)))))
                         all_goals (refine Zai ?_; (first | refine zgn ?_ | (refine Zam ?_)); (first | refine zgn ?_ | (refine ZaM ?_)); (first | refine zgn ?_ | (refine zgy ?_; refine zf0 ?_)); (first | refine zgn ?_ | (refine zgy ?_; refine zl hS ?_)); (first | refine zgn ?_ | (refine zgy ?_; refine zL ?_)))
                         all_goals (first | refine zgn ?_ | (refine zgy ?_; (first | (refine QC ?_) | (refine QJ ?_) | (refine Qj rfl rfl (fun hc => ?_) (fun hc => ?_)))))
                         all_goals (refine Zaf ?_)
                         all_goals
                          first
                          | (refine zct ?_
                             all_goals (refine Qb ?_; have hG : GQ p z N fu h out ((msOf h g.nx fr inp out fu).ins m x) cx L (.int .i64 2) _ := GQ.lost (out2 := out) (h2 := h) (N2 := N) (fr := fr) (g := g.nx) (L' := L) (by first | exact hX.trans (Qx hrs) | exact hX.trans ((Q3 hrs).trans (Qx hvs)) | exact hX.trans ((Q3 hrs).trans ((Q3 hvs).trans (if_pos (by omega))))) (QK ho hS.sp) fun _ _ hS => hS; refine Zbm ?_)
                             all_goals (exact ⟨_, rfl, hG⟩))
                          | (refine zcf ?_
                             all_goals refine zsk ?_)
                         all_goals (refine ZaA ?_; refine znc ?_; refine zf0 ?_; refine zl hS ?_; refine QY hS vw fd (Q5 fr g.nx) ?_)
                         all_goals (first | (refine Qd ?_) | (refine Qh ?_) | (refine Q6 rfl rfl (fun hc => ?_) (fun hc => ?_)))
                         all_goals (refine zn ?_)
                         all_goals
                          first
                          | (refine zct ?_
                             all_goals (refine Zad ?_; have hS : St cx _ (gX p z fr g.nx N h out L) := QK ho hS.sp; refine zR2 (c := gE_c 5 hS) (h := ?_); rintro v1 w1 ⟨rfl, hS⟩; have hG : GQ p z N fu h out ((msOf h g.nx fr inp out fu).ins m x) cx L (.int .i64 1) _ := GQ.halt (hX.trans ((Q3 hrs).trans ((Q3 hvs).trans ((if_neg (by omega)).trans (if_pos (by show ((fr.map FrmV.abs).reverse).length + 1 = 40; rw [QbO]; omega)))))) (Nat.le_succ N) rfl hS; refine Zah ?_)
                             all_goals (exact ⟨_, rfl, hG⟩))
                          | (refine zcf ?_
                             all_goals refine zsk ?_)
                         all_goals (refine Qb ?_; obtain ⟨a1, n1, e1⟩ := hS.shape (v := sr) (css := Q8 rs) fd; obtain ⟨a2, n2, e2⟩ := hS.shape (v := sw) (css := vs.map Val.cells) fd; rw [e1, e2]; refine zC [(0, none), (1, none), (2, none), (3, none), (4, none), (5, none), (6, none), (7, none), (8, none), (9, none), (10, some (some [4])), (11, some (some [])), (12, none), (13, none), (14, some none)] ?_; have hS := hS.drew; refine ZbV ?_; refine zf0 ?_; refine Zab ?_; refine zl hS ?_; refine Zab ?_; refine zf0 ?_; refine Zab ?_; refine zl hS ?_; refine Zat ?_; refine Zal ?_; refine zb3 [_, _, _, _, _] ?_; refine Zar ?_; refine zB1 hS [_, _, _, _, _] ?_; intro b1 w1 hS; refine ZaD ?_; refine Q1x Qcq (.inl Qbc) hS vw vw (v := z.fv) (css := Q1v fr g.nx) fd (hS.srcB fd (by rfl) (by simp [oneC, ho1, ho2])) (by rw [Q5]; simp only [List.length_cons, List.length_nil]; omega) ?_; intro v7 w7 hS; have hS := hS.ns; have ho7 := hS.oneC (v := v7) fd)
                         all_goals (refine ZaI ?_; refine ZaN ?_; refine zf0 ?_; refine Zax ?_; refine zst hS ?_; intro w1 hS; have hS := hS.ns; refine Zaw ?_; refine Qb ?_; rw [← e1, ← e2] at hS; rw [show (Value.int .i64 x.k) = .int .i64 ((x.k.toNat : Nat) : Int) by rw [Int.toNat_of_nonneg hk0]] at hS; have e9 : Q1v fr g.nx ++ [[.int .i64 ((x.k.toNat : Nat) : Int), .int .i64 0, .int .i64 0, sw, sr]] = Q1v (fr ++ [g.nx]) ⟨x.k.toNat, 0, 0, sw, vs, sr, rs⟩ := Q82 (g' := ⟨x.k.toNat, 0, 0, sw, vs, sr, rs⟩); rw [e9] at hS; have hS := big_g1 (g := g.nx) (fr := fr) (L := gBlk (z.upd v7 z.iv z.ov) p lv h.left :: sl 119 5 v7 (Q1v (fr ++ [g.nx]) ⟨x.k.toNat, 0, 0, sw, vs, sr, rs⟩) :: sl 182 4 sw (vs.map Val.cells) :: sl 3 1 sr (Q8 rs) :: sl 131 4 lv (rv.map RgnV.cells) :: big (RgnV.res H1) rv :: sl 2 1 z.ov (Q8 out) :: L) hS.sp; have hS : St cx _ (gX p (z.upd v7 z.iv z.ov) (fr ++ [g.nx]) ⟨x.k.toNat, 0, 0, sw, vs, sr, rs⟩ N h out L) := QK ho hS.sp; have hG : GQ p z N fu h out ((msOf h g.nx fr inp out fu).ins m x) cx L (.int .i64 0) _ := .inl ⟨v7, z.iv, z.ov, fr ++ [g.nx], ⟨x.k.toNat, 0, 0, sw, vs, sr, rs⟩, N, h, inp, out, hX.trans ((Q3 hrs).trans ((Q3 hvs).trans ((if_neg (by omega)).trans ((if_neg (by show ¬ ((fr.map FrmV.abs).reverse).length + 1 = 40; rw [QbO]; omega)).trans (by rw [Q85]; rfl))))), hi, Nat.le_succ N, rfl, hS⟩)
                         all_goals (refine Zbm ?_)
                         all_goals (exact ⟨_, rfl, hG⟩))
                      | (refine zcf ?_
                         all_goals refine zsk ?_)))
             all_goals (refine Zad ?_; refine zv hS ?_; refine zR2 (c := gmem_c (m := m) (inp := inp) (fu := fu) hx hi (by omega) h8 (by omega) hnn hN (show St cx _ (gX p z fr g.nx N h out L) from hS.sp)) (h := ?_); intro u9 w9 hG; refine Zah ?_)
             all_goals (exact ⟨_, rfl, hG⟩))))
end Go.Proofs.YteflkifmgnpbhaaGreat
namespace Go.Proofs.YteflkifmgnpbhaaGreat
open Go.Lir
set_option maxHeartbeats 1000000
attribute [local irreducible] LC.wp Q0 QF QE retQ Q16 LO.wp Qf Calls
set_option linter.unusedSimpArgs false
set_option linter.unusedVariables false
variable {cx : Cx} {w : World} {L : List Res} {p N : Nat} {z : GZ} {fr : List FrmV} {g : FrmV} {h : HpS} {out inp : List Int} {fu : Nat} {m : Module}
@[reducible] def FrmV.fb (g : FrmV) (b : Nat) : FrmV := ⟨g.f, b, g.i, g.vv, g.vals, g.rv, g.regs⟩
@[reducible] def FrmV.fi (g : FrmV) (i : Nat) : FrmV := ⟨g.f, g.b, i, g.vv, g.vals, g.rv, g.regs⟩
@[reducible] def FrmV.fv (g : FrmV) (v : Value) (l : List Val) : FrmV := ⟨g.f, g.b, g.i, v, l, g.rv, g.regs⟩
attribute [local irreducible] Frm.val Frm.num Frm.args Frm.rgs Frm.reg
theorem gto_c {f : Fun} {t : To} {cs : List Value} (hx : toR.at cx cs t) (hfn : funcR.sl cx z.fn m.funcs) (hi : intR.sl cx z.iv inp) (hfx : m.funcs[g.f]? = some f) (hb0 : 0 ≤ t.block) (hb1 : t.block < f.blocks.length) (h6 : t.regs.length ≤ 100) (h8 : t.args.length ≤ 100) (hf : fr.length ≤ 1000) (hS : St cx w (gX p z fr g N h out L)) :
 Rets Tryz.prog QaY [.pointer (some ⟨p, 0, none⟩), .agg ⟨cs⟩] w (GQ p z N fu h out ((msOf h g fr inp out fu).to f t) cx L) := by
 obtain ⟨vr, va, rfl, hr, ha⟩ := Q2u hx
 have hfl := hfn.len
 have hgf := (List.getElem?_eq_some_iff.1 hfx).1
 all_goals refine lgo tyD Tryz.func127 ?_
 all_goals (refine Zaz ?_; intro p3 w1 hS; refine Zan ?_; obtain ⟨lv, rv, ho, hS⟩ := Q1F (p := p) (z := z) (fr := fr) (g := g) (N := N) (h := h) (out := out) (L := blk p3 88 [.int .i64 t.block, vr, va] :: L) hS.sp; refine Zak ?_; refine zR1 (c := Q2P hf hS) (h := ?_); rintro v1 w1 ⟨b9, o9, rfl, hel, hS⟩; refine Zan ?_; refine zC [(0, none), (1, none), (2, none), (3, none), (4, none), (5, none), (6, none), (7, none), (8, none), (9, none), (10, none), (11, none), (12, none), (13, none), (14, none), (15, none), (16, some (some [4, 8, 11, 13, 15])), (17, some none)] ?_; have hS := hS.drew; refine Zbo ?_; refine zf0 ?_; refine Zab ?_; refine zf0 ?_; refine Zab ?_; refine zl hS ?_; refine Zat ?_; refine Zbx ?_; refine Q1f hS hel rfl fd (Q5 fr g) (Q7 fr g) rfl ?_; refine Zab ?_; refine zi ?_; intro b8 o8 cs8 x8 hat8 hx8 he8; obtain rfl : f = x8 := Option.some.inj (hfx.symm.trans hx8); obtain ⟨vp8, vr8, vb8, rfl, hp8, hr8, hb8⟩ := Qv he8)
 all_goals (refine Zbg ?_; refine Zab ?_; refine zf0 ?_; refine Zab ?_; refine zl hS ?_; refine Zab ?_; refine zj ?_; intro b1 o1 cs1 x1 hat1 hx1 he1; obtain ⟨vp1, vc1, e1, e2, e3, e4, e5, rfl, hp1, hc1, he11, he12, he13, he14, he15⟩ := Q13 he1; have hX := to_X (s := msOf h g fr inp out fu) hx1; refine ZaY ?_; refine ZaR ?_; intro p6 w1 hS; refine zt ?_; refine ⟨List.forall_mem_cons.2 ⟨(by first | (exact QA (j := 0) hS hel rfl fd (Q5 fr g) (Q7 fr g) rfl) | (exact Q1E hS rfl fd rfl)), List.forall_mem_cons.2 ⟨(by (exact QA (j := 0) hS hel rfl fd (Q5 fr g) (Q7 fr g) rfl)), List.forall_mem_cons.2 ⟨(by first | (exact QA (j := 0) hS hel rfl fd (Q5 fr g) (Q7 fr g) rfl) | (exact Q1E hS rfl fd rfl) | (exact Q39 hS (by assumption) rfl rfl) | (exact Q3j hS (by assumption) rfl rfl)), List.forall_mem_cons.2 ⟨(by first | (exact QA (j := 0) hS hel rfl fd (Q5 fr g) (Q7 fr g) rfl) | (exact Q1E hS rfl fd rfl)), List.forall_mem_cons.2 ⟨(by first | (exact QA (j := 0) hS hel rfl fd (Q5 fr g) (Q7 fr g) rfl) | (exact Q38 hS rfl fd rfl rfl) | (exact Q2C hS (by assumption) rfl rfl rfl)), fun _ h => (List.not_mem_nil h).elim⟩⟩⟩⟩⟩, ?_⟩)
 all_goals (refine s_cf ?_; refine zsn hS ?_; intro w1 hS; have hS := hS.ns; refine Zaw ?_; refine Zad ?_; refine zf0 ?_; refine zl hS ?_)
 all_goals (refine zR2 (c := gRs_c (by omega) hf hr (show St cx _ (gX p z fr g N h out _) from QK ho hS.sp)) (h := ?_); rintro v1 w1 (⟨rs, sr, hrs, hrl, ho1, rfl, hS⟩ | ⟨hrs, rfl, hS⟩))
 all_goals (refine Zbw ?_; refine ZaE ?_; refine zf0 ?_; refine zl hS ?_)
 all_goals (refine zR2 (c := Qcj (by omega) hf ha (show St cx _ (gX p z fr g N h out _) from hS)) (h := ?_); rintro v1 w1 (⟨vs, sw, hvs, hvl, ho2, rfl, hS⟩ | ⟨hvs, rfl, hS⟩))
 all_goals (refine Zbw ?_; refine ZaG ?_; refine znt ?_; refine zm ?_; (first | refine zgn ?_ | (refine Zam ?_)); (first | refine zgn ?_ | (refine ZaP ?_)); refine Zai ?_; (first | refine zgn ?_ | (refine Zam ?_)); (first | refine zgn ?_ | (refine ZaM ?_)); (first | refine zgn ?_ | (refine zgy ?_; refine zf0 ?_)); (first | refine zgn ?_ | (refine zgy ?_; refine zl hS ?_)))
 all_goals (first | refine zgn ?_ | (refine zgy ?_; (first | (refine QC ?_) | (refine QJ ?_) | (refine Qj rfl rfl (fun hc => ?_) (fun hc => ?_)))))
 all_goals (refine Zai ?_; (first | refine zgn ?_ | (refine Zam ?_)); (first | refine zgn ?_ | (refine ZaM ?_)); (first | refine zgn ?_ | (refine zgy ?_; refine zf0 ?_)); (first | refine zgn ?_ | (refine zgy ?_; refine zl hS ?_)); (first | refine zgn ?_ | (refine zgy ?_; refine zL ?_)))
 all_goals (first | refine zgn ?_ | (refine zgy ?_; (first | (refine QC ?_) | (refine QJ ?_) | (refine Qj rfl rfl (fun hc => ?_) (fun hc => ?_)))))
 all_goals (refine Zaf ?_)
 all_goals
  first
  | (refine zct ?_
     all_goals (refine Qb ?_; have hG : GQ p z N fu h out ((msOf h g fr inp out fu).to f t) cx L (.int .i64 2) _ := GQ.lost (by first | exact hX.trans (Qx hrs) | exact hX.trans ((Q3 hrs).trans (Qx hvs)) | exact hX.trans ((Q3 hrs).trans ((Q3 hvs).trans (if_pos (by omega))))) hS fun _ _ hS => hS.sp; refine Zbm ?_)
     all_goals (exact ⟨_, rfl, hG⟩))
  | (refine zcf ?_
     all_goals refine zsk ?_)
 all_goals (refine Qb ?_; obtain ⟨lv, rv, ho, hS⟩ := Q1F hS; have eb : Value.int .i64 t.block = .int .i64 ((t.block.toNat : Nat) : Int) := (by rw [Int.toNat_of_nonneg hb0]); refine ZbN ?_; refine zm ?_; refine zf0 ?_; refine zl hS ?_; refine ZaO ?_; refine Zag ?_; refine QM hS hel rfl vw fd (Q5 fr g) (Q7 fr g) (by omega) rfl (Q1O (g' := g.fb t.block.toNat) (by rw [eb]; rfl)) ?_; intro w8 hS; have hS := hS.ns; refine Zag ?_; refine QM hS hel rfl vw fd (Q5 fr (g.fb t.block.toNat)) (Q7 fr (g.fb t.block.toNat)) (by omega) rfl (Q1O (g' := (g.fb t.block.toNat).fi 0) rfl) ?_; intro w8 hS; have hS := hS.ns; refine Zag ?_; refine QM hS hel rfl vw fd (Q5 fr ((g.fb t.block.toNat).fi 0)) (Q7 fr ((g.fb t.block.toNat).fi 0)) (by omega) ho2 (Q1O (g' := ((g.fb t.block.toNat).fi 0).fv sw vs) rfl) ?_; intro w8 hS; have hS := hS.ns; refine Zag ?_; refine QM hS hel rfl vw fd (Q5 fr (((g.fb t.block.toNat).fi 0).fv sw vs)) (Q7 fr (((g.fb t.block.toNat).fi 0).fv sw vs)) (by omega) ho1 (Q1O (g' := ⟨g.f, t.block.toNat, 0, sw, vs, sr, rs⟩) rfl) ?_; intro w8 hS; have hS := hS.ns)
 all_goals (refine ZaZ ?_; have hS : St cx _ (gX p z fr ⟨g.f, t.block.toNat, 0, sw, vs, sr, rs⟩ N h out L) := QK ho hS.sp; have hG : GQ p z N fu h out ((msOf h g fr inp out fu).to f t) cx L (.int .i64 0) _ := GQ.go (hX.trans ((Q3 hrs).trans ((Q3 hvs).trans (if_neg (by omega))))) hi (Nat.le_succ N) rfl hS; refine Zbm ?_; exact ⟨_, rfl, hG⟩)
end Go.Proofs.YteflkifmgnpbhaaGreat
namespace Go.Lir
theorem intsV_y {l : List Val} (h : ∀ x ∈ l, x.kind = 1) : intsV l = some (l.map Val.n) := by
 induction l with
 | nil => rfl
 | cons v l ih => rw [Qca (h v (by simp)), ih fun x hx => h x (by simp [hx])]; rfl
theorem intsV_n {l : List Val} (h : ¬ ∀ x ∈ l, x.kind = 1) : intsV l = none := by
 induction l with
 | nil => exact absurd (by simp) h
 | cons v l ih =>
   by_cases hk : v.kind = 1
   · rw [Qca hk, ih fun h2 => h fun x hx => by rcases List.mem_cons.1 hx with rfl | hx; (exact hk); exact h2 x hx]; rfl
   · exact ints_n hk
end Go.Lir
namespace Go.Proofs.YteflkifmgnpbhaaGreat
open Go.Lir
set_option maxHeartbeats 1000000
attribute [local irreducible] LC.wp Q0 QF QE retQ Q16 LO.wp Qf Calls
set_option linter.unusedSimpArgs false
set_option linter.unusedVariables false
variable {cx : Cx} {w : World} {L : List Res} {p N : Nat} {z : GZ} {fr : List FrmV} {g : FrmV} {h : HpS} {out inp : List Int} {fu : Nat} {m : Module}
theorem GQ.drop {X : Stp} {u : Value} {r : Res} (hG : GQ p z N fu h out X cx (r :: L) u w) : GQ p z N fu h out X cx L u w := by
 rcases hG with ⟨fv, iv, ov, fr', g', N', h', inp', out', h1, h2, h3, h4, hS⟩ | ⟨e, fr', g', N', h1, h2, h3, hS⟩ | ⟨l, bv, fr', g', N', h1, h2, h3, h4, hS⟩ | ⟨h1, h2, lv, left, hS⟩
 · exact .inl ⟨fv, iv, ov, fr', g', N', h', inp', out', h1, h2, h3, h4, hS.sp⟩
 · exact .inr (.inl ⟨e, fr', g', N', h1, h2, h3, hS.sp⟩)
 · exact .inr (.inr (.inl ⟨l, bv, fr', g', N', h1, h2, h3, h4, hS.sp⟩))
 · exact .inr (.inr (.inr ⟨h1, h2, lv, left, hS.sp⟩))
theorem big_k1 {k : FrmV} (hS : St cx w (big FrmV.res1 (fr ++ [k]) :: L)) : St cx w (sl 182 4 k.vv (k.vals.map Val.cells) :: sl 3 1 k.rv (Q8 k.regs) :: big FrmV.res1 fr :: L) := by
 have h1 := hS.bigOut (i := 0) (k := fr.length) (x := k) rfl (by simp)
 have h2 : (fr ++ [k]).eraseIdx fr.length = fr := by rw [List.eraseIdx_append_of_length_le (Nat.le_refl _)]; simp
 rw [List.set_cons_zero, h2] at h1
 exact St.star h1
@[reducible] def eBlk (b : Nat) (e : Tail) (v1 v2 v3 v4 v5 : Value) : Res := blk b 90 [.int .i64 e.op, .int .i64 e.a, .int .i64 e.yes.block, v1, v2, .int .i64 e.no.block, v3, v4, v5]
attribute [local irreducible] Frm.val Frm.num Frm.args Frm.rgs Frm.reg intsV MS.to MS.ret GQ
theorem GQ.lost' {X : Stp} {L' : List Res} {h2 : HpS} {N2 : Nat} {out2 : List Int} (hX : X = .lost) (hS : St cx w (gX p z fr g N2 h2 out2 L')) (hsub : ∀ lv left, St cx w (gBlk z p lv left :: L') → St cx w (gBlk z p lv left :: L)) : GQ p z N fu h out X cx L (.int .i64 2) w := GQ.lost hX hS hsub
theorem gret_c {f : Fun} {e : Tail} {cs : List Value} (hx : endR.at cx cs e) (hfn : funcR.sl cx z.fn m.funcs) (hi : intR.sl cx z.iv inp) (hfx : m.funcs[g.f]? = some f) (h8 : e.args.length ≤ 100) (hop : e.op = 3) (hf : fr.length ≤ 900) (hn : ∀ x ∈ fr, x.vals.length ≤ 900000) (hS : St cx w (gX p z fr g N h out L)) :
 Rets Tryz.prog Q6z [.pointer (some ⟨p, 0, none⟩), .agg ⟨cs⟩] w (GQ p z N fu h out ((msOf h g fr inp out fu).ret f e) cx L) := by
 obtain ⟨v1, v2, v3, v4, v5, rfl, k1, k2, k3, k4, k5⟩ := Q2Q hx
 have hfl := hfn.len
 have hgf := (List.getElem?_eq_some_iff.1 hfx).1
 all_goals refine lgo tyD Tryz.func75 ?_
 all_goals (refine Zaz ?_; intro p3 w1 hS; refine ZaT ?_; refine zf0 ?_; refine zl hS ?_; refine ZbF ?_; refine Qb ?_; have hS : St cx _ (gX p z fr g N h out (eBlk p3 e v1 v2 v3 v4 v5 :: L)) := hS.sp; refine Qn ?_)
 all_goals (first | (refine Qd ?_) | (refine Qh ?_))
 all_goals (refine Zac ?_)
 all_goals refine zcf ?_
 all_goals (refine Zaa ?_)
 all_goals (first | (refine Qd ?_) | (refine Qh ?_))
 all_goals (refine Zac ?_)
 all_goals refine zcf ?_
 all_goals (refine zsk ?_; refine Zad ?_; refine zf0 ?_; refine zl hS ?_)
 all_goals (refine zR2 (c := Qcj (by omega) (by omega) k5 (show St cx _ (gX p z fr g N h out _) from hS)) (h := ?_); rintro u1 w1 (⟨vs, sw, hvs, hvl, ho2, rfl, hS⟩ | ⟨hvs, rfl, hS⟩))
 all_goals (refine Zbw ?_; refine ZbA ?_; obtain ⟨lv, rv, ho, hS⟩ := Q1F hS; refine zC [(0, none), (1, none), (2, none), (3, none), (4, none), (5, none), (6, none), (7, none), (8, none), (9, none), (10, none), (11, some (some [9])), (12, none), (13, none), (14, none), (15, none), (16, none), (17, none), (18, none), (19, none), (20, some none)] ?_; have hS := hS.drew; refine ZaF ?_; refine znt ?_; refine Zat ?_; (first | refine zgn ?_ | (refine Zam ?_)); refine Zab ?_; (first | refine zgn ?_ | (refine ZaM ?_)); refine Zab ?_; (first | refine zgn ?_ | (refine Zam ?_)); refine Zab ?_; (first | refine zgn ?_ | (refine ZaQ ?_)); refine Zab ?_; (first | refine zgn ?_ | (refine zgy ?_; refine zf0 ?_)); refine Zab ?_; (first | refine zgn ?_ | (refine zgy ?_; refine zf0 ?_)); refine Zab ?_; (first | refine zgn ?_ | (refine zgy ?_; refine zl hS ?_)))
 all_goals (refine Zab ?_; (first | refine zgn ?_ | (refine Zam ?_)); refine Zar ?_; (first | (refine zgn ?_) | (refine zgy ?_; refine zR1 (c := Q2P (by omega) (show St cx _ (gL p z lv h.left fr g _) from hS)) (h := ?_); rintro v9 w1 ⟨b9, o9, rfl, hel, hS⟩)); refine ZaI ?_; (first | refine zgn ?_ | (refine ZaQ ?_)); refine Zab ?_; (first | refine zgn ?_ | (refine Zaj ?_)); refine Zab ?_; (first | (refine zgn ?_) | (refine zgy ?_; refine Q1f hS hel rfl fd (Q5 fr g) (Q7 fr g) rfl ?_)); refine Zab ?_; (first | (refine zgn ?_) | (refine zgy ?_; refine zi ?_; intro b8 o8 cs8 x8 hat8 hx8 he8; obtain rfl : f = x8 := Option.some.inj (hfx.symm.trans hx8); obtain ⟨vp8, vr8, vb8, rfl, hp8, hr8, hb8⟩ := Qv he8)); refine Zab ?_; (first | refine zgn ?_ | (refine Zaj ?_)); refine Zab ?_; (first | refine zgn ?_ | (refine ZbS ?_)); refine Zab ?_; (first | refine zgn ?_ | (refine zgy ?_; refine zL ?_)))
 all_goals (refine Zab ?_)
 all_goals (first | refine zgn ?_ | (refine zgy ?_; (first | (refine QC ?_) | (refine QJ ?_) | (refine Qj rfl rfl (fun hc => ?_) (fun hc => ?_)))))
 all_goals (refine Zax ?_; (first | (refine zpt ?_) | (refine zpf ?_)); refine Zaw ?_)
 all_goals
  first
  | (refine zct ?_
     all_goals (refine Qb ?_; have hG : GQ p z N fu h out ((msOf h g fr inp out fu).ret f e) cx L (.int .i64 2) _ := GQ.lost' (out2 := out) (h2 := h) (N2 := N) (fr := fr) (g := g) (L' := L) (by first | exact ret_l hvs | exact ret_n hvs (by omega)) (QK ho hS.sp) fun _ _ hS => hS; refine Zbm ?_)
     all_goals (exact ⟨_, rfl, hG⟩))
  | (refine zcf ?_
     all_goals refine zsk ?_)
 all_goals (refine ZaA ?_; refine znc ?_; refine zf0 ?_; refine zl hS ?_; refine QY hS vw fd (Q5 fr g) ?_)
 all_goals (first | (refine QG ?_) | (refine QL ?_) | (refine Qc rfl rfl (fun hc => ?_) (fun hc => ?_)))
 all_goals (refine zn ?_)
 all_goals
  first
  | (refine zct ?_
     all_goals (obtain ⟨fr0, k, rfl⟩ : ∃ fr0 k, fr = fr0 ++ [k] := (by rcases List.eq_nil_or_concat fr with rfl | ⟨fr0, k, hk⟩; exact absurd hc (by simp); exact ⟨fr0, k, by simpa using hk⟩); have hl1 : (fr0 ++ [k]).length = fr0.length + 1 := (by simp); have hst : (msOf h g (fr0 ++ [k]) inp out fu).st = k.abs :: (fr0.map FrmV.abs).reverse := (by unfold msOf; simp); have hkn := hn k (by simp))
     all_goals (refine Qb ?_; refine zD (ci 15 [14]) ?_; have hS := hS.drew; refine ZaO ?_; refine znc ?_; refine zf0 ?_; refine zl hS ?_; refine Zbe ?_; refine zf0 ?_; refine zl hS ?_; refine QY (n := fr0.length + 2) hS vw fd (by rw [Q5]; omega) ?_; refine Q4e rfl rfl (by omega) (by omega) ?_; rw [show ((fr0.length + 2 : Nat) : Int) - 1 = (((fr0 ++ [k]).length : Nat) : Int) by omega]; refine s_subE (l' := 0) (h' := (fr0 ++ [k]).length) hS vw fd rfl ⟨_, rfl⟩ rfl (by rw [Q5]; omega) (by omega) ?_; intro v7 hS; rw [Q9M] at hS; have hS := hS.ns; have ho7 := hS.oneC (v := v7) fd; refine znc ?_; refine zf0 ?_; refine zst hS ?_; intro w1 hS; have hS := hS.ns; refine ZaZ ?_; have hS := big_k1 (fr := fr0) (k := k) (L := gBlk (z.upd v7 z.iv z.ov) p lv h.left :: sl 119 5 v7 (Q1v fr0 k) :: sl 182 4 sw (vs.map Val.cells) :: sl 131 4 lv (rv.map RgnV.cells) :: big (RgnV.res H1) rv :: sl 2 1 z.ov (Q8 out) :: L) hS.sp; have hS : St cx _ (gX p (z.upd v7 z.iv z.ov) fr0 k N h out (sl 182 4 sw (vs.map Val.cells) :: L)) := QK ho hS.sp)
     all_goals (refine ZbX ?_; have hS : St cx _ (sl 182 4 sw (vs.map Val.cells) :: gX p (z.upd v7 z.iv z.ov) fr0 k N h out L) := hS.sp; refine zR2 (c := gP_c (by omega) (by omega) hS) (h := ?_); rintro u1 w1 ⟨rfl, tv, hS⟩; have hG : GQ p z N fu h out ((msOf h g (fr0 ++ [k]) inp out fu).ret f e) cx L (.int .i64 0) _ := (by unfold GQ; exact .inl ⟨v7, z.iv, z.ov, fr0, k.push tv vs, N, h, inp, out, ret_k hvs (by omega) hst, hi, Nat.le_succ N, rfl, hS⟩); refine Zah ?_)
     all_goals (exact ⟨_, rfl, hG⟩))
  | (refine zcf ?_
     all_goals (obtain rfl : fr = [] := List.length_eq_zero_iff.1 (by omega))
     all_goals refine zsk ?_)
 all_goals (refine Zad ?_; refine zf0 ?_; refine zl hS ?_)
 all_goals (refine zR2 (c := gNs_c (by omega) (by simp) k5 (show St cx _ (gX p z [] g N h out _) from QK ho hS.sp)) (h := ?_); rintro u1 w1 (⟨vs2, sn, b9, hvs2, hvl2, ho3, hb9, rfl, hS⟩ | ⟨hvs2, rfl, hS⟩); rotate_left; rw [hvs] at hvs2; cases hvs2; rw [hvs] at hvs2; cases hvs2; cases b9)
 all_goals (refine Zbw ?_; refine ZbI ?_)
 all_goals
  first
  | (refine zct ?_
     all_goals (refine Qb ?_)
     all_goals (have hG : GQ p z N fu h out ((msOf h g [] inp out fu).ret f e) cx L (.int .i64 2) _ := GQ.lost' (ret_b hvs (by omega) rfl (intsV_n fun hh => absurd (hb9.2 hh) (by decide))) hS fun _ _ hS => hS.sp)
     all_goals (refine Zbm ?_)
     all_goals (exact ⟨_, rfl, hG⟩))
  | (refine zcf ?_
     all_goals refine zsk ?_)
 all_goals (refine Qb ?_; obtain ⟨lv, rv, ho, hS⟩ := Q1F hS; refine Zak ?_; refine Zbe ?_; refine zf0 ?_; (first | refine zf0 ?_ | refine zfd ?_); refine zst hS ?_; intro w1 hS; have hS := hS.ns; refine ZaZ ?_; have hS : St cx _ (gX p (z.bk sn) [] g N h out (sl 2 1 sn (Q8 (vs.map Val.n)) :: L)) := QK (z := z.bk sn) ho hS.sp; refine Zak ?_; refine zR2 (c := gE_c 0 hS) (h := ?_); rintro u1 w1 ⟨rfl, hS⟩; have hG : GQ p z N fu h out ((msOf h g [] inp out fu).ret f e) cx L (.int .i64 1) _ := (by unfold GQ; exact .inr (.inr (.inl ⟨vs.map Val.n, sn, [], g, N, ret_d hvs (by omega) rfl (intsV_y (hb9.1 rfl)), Nat.le_succ N, by rw [List.length_map]; omega, rfl, hS⟩))); refine Zah ?_; exact ⟨_, rfl, hG⟩)
end Go.Proofs.YteflkifmgnpbhaaGreat
namespace Go.Proofs.YteflkifmgnpbhaaGreat
open Go.Lir
set_option maxHeartbeats 1000000
attribute [local irreducible] LC.wp Q0 QF QE retQ Q16 LO.wp Qf Calls
set_option linter.unusedSimpArgs false
set_option linter.unusedVariables false
variable {cx : Cx} {w : World} {L : List Res} {p N : Nat} {z : GZ} {fr : List FrmV} {g : FrmV} {h : HpS} {out inp : List Int} {fu : Nat} {m : Module}
attribute [local irreducible] Frm.val Frm.num Frm.args Frm.rgs Frm.reg intsV MS.to MS.ret GQ
theorem gend_c {f : Fun} {e : Tail} {cs : List Value} (hx : endR.at cx cs e) (hfn : funcR.sl cx z.fn m.funcs) (hi : intR.sl cx z.iv inp) (hfx : m.funcs[g.f]? = some f) (he : QcK f e) (hf : fr.length ≤ 900) (hn : ∀ x ∈ fr, x.vals.length ≤ 900000) (hS : St cx w (gX p z fr g N h out L)) :
 Rets Tryz.prog Q6z [.pointer (some ⟨p, 0, none⟩), .agg ⟨cs⟩] w (GQ p z N fu h out ((msOf h g fr inp out fu).fin f e) cx L) := by
 obtain ⟨h8, hop, hy, hno⟩ := he
 rcases (show e.op = 1 ∨ e.op = 2 ∨ e.op = 3 by omega) with h1 | h1 | h1
 · have hX : (msOf h g fr inp out fu).fin f e = (msOf h g fr inp out fu).to f e.yes := if_pos h1
   obtain ⟨⟨y1, y2⟩, y3, y4⟩ := hy (by omega)
   rw [hX]
   obtain ⟨v1, v2, v3, v4, v5, rfl, k1, k2, k3, k4, k5⟩ := Q2Q hx
   all_goals refine lgo tyD Tryz.func75 ?_
   all_goals (refine Zaz ?_; intro p3 w1 hS; refine ZaT ?_; refine zf0 ?_; refine zl hS ?_; refine ZbF ?_; refine Qb ?_; have hS : St cx _ (gX p z fr g N h out (eBlk p3 e v1 v2 v3 v4 v5 :: L)) := hS.sp; refine Qn ?_)
   all_goals (refine Qd ?_)
   all_goals (refine Zac ?_)
   all_goals refine zct ?_
   all_goals (refine Zad ?_; refine zf0 ?_; refine zv hS ?_; refine zR2 (c := gto_c (t := e.yes) (inp := inp) (fu := fu) ⟨_, _, rfl, k1, k2⟩ hfn hi hfx y1 y2 y3 y4 (by omega) hS) (h := ?_); intro u1 w1 hG; refine Zah ?_; exact ⟨_, rfl, hG.drop⟩)
 · have hX : (msOf h g fr inp out fu).fin f e = Q1e (g.abs.num e.a) fun n => if n ≠ 0 then (msOf h g fr inp out fu).to f e.yes else (msOf h g fr inp out fu).to f e.no := (if_neg (by omega)).trans (if_pos h1)
   obtain ⟨⟨y1, y2⟩, y3, y4⟩ := hy (by omega)
   obtain ⟨⟨n1, n2⟩, n3, n4⟩ := hno h1
   rw [hX]
   obtain ⟨v1, v2, v3, v4, v5, rfl, k1, k2, k3, k4, k5⟩ := Q2Q hx
   all_goals refine lgo tyD Tryz.func75 ?_
   all_goals (refine Zaz ?_; intro p3 w1 hS; refine ZaT ?_; refine zf0 ?_; refine zl hS ?_; refine ZbF ?_; refine Qb ?_; have hS : St cx _ (gX p z fr g N h out (eBlk p3 e v1 v2 v3 v4 v5 :: L)) := hS.sp; refine Qn ?_)
   all_goals (first | (refine Qd ?_) | (refine Qh ?_))
   all_goals (refine Zac ?_)
   all_goals refine zcf ?_
   all_goals (refine Zaa ?_)
   all_goals (refine Qd ?_)
   all_goals (refine Zac ?_)
   all_goals refine zct ?_
   all_goals (refine Zad ?_; refine zf0 ?_; refine zl hS ?_; refine zB1 hS [_] ?_; intro b1 w1 hS)
   all_goals (have hS : St cx _ (sl 3 1 (.slice (some ⟨b1, 0, none⟩) 1 1) (Q8 [e.a]) :: gX p z fr g N h out (eBlk p3 e v1 v2 v3 v4 v5 :: L)) := (by have hS := St.slOf (T := 3) (es := 1) (css := Q8 [e.a]) hS rfl (by simp [Q8]) rfl; exact hS.sp); refine zR2 (c := gN_c (by omega) hS) (h := ?_); rintro u1 w1 (⟨n0, sn, hn0, ho2, rfl, hS⟩ | ⟨hn0, sn, rfl, hS⟩))
   all_goals (refine Zbw ?_; refine ZbI ?_)
   all_goals
    first
    | (refine zct ?_
       all_goals (refine Qb ?_; have hG : GQ p z N fu h out (Q1e (g.abs.num e.a) fun n => if n ≠ 0 then (msOf h g fr inp out fu).to f e.yes else (msOf h g fr inp out fu).to f e.no) cx L (.int .i64 2) _ := GQ.lost' (Qx hn0) hS fun _ _ hS => hS.sp; refine Zbm ?_)
       all_goals (exact ⟨_, rfl, hG⟩))
    | (refine zcf ?_
       all_goals refine zsk ?_)
   all_goals (refine ZaA ?_; rw [Q3 hn0]; refine QV hS vw rfl fd (by simp) (by simp) ?_; intro b2 o2 hel2; refine Q1f hS hel2 rfl fd rfl rfl rfl ?_)
   all_goals (first | (refine Qd ?_) | (refine Qh ?_) | (refine Q6 rfl rfl (fun hc => ?_) (fun hc => ?_)))
   all_goals (refine zn ?_)
   all_goals
    first
    | (refine zct ?_
       all_goals (refine Qb ?_; rw [if_neg (show ¬ n0 ≠ 0 by omega)]; refine Zak ?_; refine zf0 ?_; refine zv hS ?_; refine zR2 (c := gto_c (t := e.no) (inp := inp) (fu := fu) ⟨_, _, rfl, k3, k4⟩ hfn hi hfx n1 n2 n3 n4 (by omega) (show St cx _ (gX p z fr g N h out (eBlk p3 e v1 v2 v3 v4 v5 :: L)) from hS.sp)) (h := ?_); intro u1 w1 hG; have hG := hG.drop; refine Zah ?_)
       all_goals (exact ⟨_, rfl, hG⟩))
    | (refine zcf ?_
       all_goals refine zsk ?_)
   all_goals (refine Qb ?_; rw [if_pos (show n0 ≠ 0 by omega)]; refine Zak ?_; refine zf0 ?_; refine zv hS ?_; refine zR2 (c := gto_c (t := e.yes) (inp := inp) (fu := fu) ⟨_, _, rfl, k1, k2⟩ hfn hi hfx y1 y2 y3 y4 (by omega) (show St cx _ (gX p z fr g N h out (eBlk p3 e v1 v2 v3 v4 v5 :: L)) from hS.sp)) (h := ?_); intro u1 w1 hG; have hG := hG.drop; refine Zah ?_; exact ⟨_, rfl, hG⟩)
 · have hX : (msOf h g fr inp out fu).fin f e = (msOf h g fr inp out fu).ret f e := (if_neg (by omega)).trans (if_neg (by omega))
   rw [hX]
   exact gret_c hx hfn hi hfx h8 h1 hf hn hS
end Go.Proofs.YteflkifmgnpbhaaGreat
namespace Go.Proofs.YteflkifmgnpbhaaGreat
open Go.Lir
set_option maxHeartbeats 1000000
attribute [local irreducible] LC.wp Q0 QF QE retQ Q16 LO.wp Qf Calls
set_option linter.unusedSimpArgs false
set_option linter.unusedVariables false
variable {cx : Cx} {w : World} {L : List Res} {p N : Nat} {z : GZ} {fr : List FrmV} {g : FrmV} {h : HpS} {out inp : List Int} {fu : Nat} {m : Module}
@[reducible] def GZ.tick (z : GZ) : GZ := ⟨z.fn, z.fv, z.iv, z.e, z.bv, z.ov, z.fu + 1, z.mo, z.dn, z.c, z.a⟩
@[reducible] def GZ.stk (z : GZ) (c a : Int) : GZ := ⟨z.fn, z.fv, z.iv, z.e, z.bv, z.ov, z.fu, z.mo, z.dn, c, a⟩
def GSt (p : Nat) (z : GZ) (N fu most : Nat) (h : HpS) (out : List Int) (X : Stp) (at_ : Int) (fr : List FrmV) (g : FrmV) (cx : Cx) (L : List Res) (u : Value) (w' : World) : Prop :=
 (fu = most ∧ u = fltV (0, 0) ∧ St cx w' (gX p (z.end 7) fr g N h out L))
 ∨ (fu ≠ most ∧ u = fltV (0, 0) ∧ ∃ k, k ≠ 2 ∧ GQ p z.tick N (fu + 1) h out X cx L (.int .i64 k) w')
 ∨ (fu ≠ most ∧ X = .lost ∧ u = fltV (20, at_) ∧ ∃ lv left, St cx w' (gBlk (z.tick.stk 20 at_) p lv left :: L))
attribute [local irreducible] Frm.val Frm.num Frm.args Frm.rgs Frm.reg intsV MS.ins MS.fin MS.one MS.place
theorem gstep_c {f : Fun} {b : Block} {most : Nat} (hfn : funcR.sl cx z.fn m.funcs) (hi : intR.sl cx z.iv inp) (hfx : m.funcs[g.f]? = some f) (hbx : f.blocks[g.b]? = some b) (hci : ∀ x ∈ b.code, QcJ m x) (hce : QcK f b.fin) (hgi : g.i ≤ 1000) (kf : g.f ≤ 1000000) (kb : g.b ≤ 1000000) (hf : fr.length ≤ 900) (hn : g.vals.length ≤ 800000) (hrn : g.regs.length ≤ 800000) (hfr : ∀ x ∈ fr, x.vals.length ≤ 900000) (hN : N ≤ 99999) (hol : out.length ≤ 2000) (hrg : ∀ v ∈ g.vals, inI v.n) (hdn : z.dn = false) (hc0 : z.c = 0) (ha0 : z.a = 0) (hfu : z.fu = fu) (hmo : z.mo = most) (hfm : fu ≤ 1000000) (hS : St cx w (gX p z fr g N h out L)) :
 Rets Tryz.prog Q5D [.pointer (some ⟨p, 0, none⟩)] w (GSt p z N fu most h out ((msOf h g fr inp out (fu + 1)).one m) ((msOf h g fr inp out fu).place m) fr g cx L) := by
 have hgf := (List.getElem?_eq_some_iff.1 hfx).1
 have hgb := (List.getElem?_eq_some_iff.1 hbx).1
 all_goals refine lgo tyD Tryz.func24 ?_
 all_goals (refine Zbh ?_; intro p2 w1 hS; refine ZaZ ?_; refine Qb ?_; obtain ⟨lv, rv, ho, hS⟩ := Q1F (p := p) (fr := fr) (g := g) (N := N) (h := h) (out := out) (L := blk p2 29 [.int .i64 0, .int .i64 0] :: L) hS.sp; refine Zak ?_; refine znc ?_; refine zf0 ?_; refine zl hS ?_; rw [hdn]; refine zm ?_; (first | refine zgn ?_ | (refine Zam ?_)); (first | refine zgn ?_ | (refine ZaQ ?_)); (first | refine zgn ?_ | (refine zgy ?_; refine zf0 ?_)); (first | refine zgn ?_ | (refine Zaj ?_)); (first | refine zgn ?_ | (refine zgy ?_; refine zl hS ?_)))
 all_goals (first | refine zgn ?_ | (refine ZaL ?_))
 all_goals (refine Zaf ?_)
 all_goals refine zcf ?_
 all_goals (refine zsk ?_; refine Zbv ?_; refine zD (ci 10 [9]) ?_; have hS := hS.drew; refine Zbe ?_; refine zf0 ?_; (first | refine zf0 ?_ | refine zfd ?_); refine zl hS ?_; refine Zbe ?_; refine zf0 ?_; refine zl hS ?_)
 all_goals (first | (refine Qd ?_) | (refine Qh ?_) | (refine Q6 rfl rfl (fun hc => ?_) (fun hc => ?_)))
 all_goals (refine zn ?_)
 all_goals
  first
  | (refine zct ?_
     all_goals (refine Zad ?_; have hS : St cx _ (gX p z fr g N h out (blk p2 29 [.int .i64 0, .int .i64 0] :: L)) := QK ho hS.sp; refine zR2 (c := gE_c 7 hS) (h := ?_); rintro v1 w1 ⟨rfl, hS⟩; refine ZaS ?_; refine zb0 [_, _] ?_; refine zsn hS ?_; intro w1 hS; have hS := hS.ns; refine ZaX ?_; refine Q19 vw (Q4 (n := 2) (by kernel_rfl) (by kernel_rfl) (hS.blkAt fd) (by rfl) (by rfl)) ?_)
     all_goals (exact ⟨_, rfl, .inl ⟨by omega, rfl, hS.sp⟩⟩))
  | (refine zcf ?_
     all_goals refine zsk ?_)
 all_goals (refine Zad ?_; refine znc ?_; refine zf0 ?_; (first | refine zf0 ?_ | refine zfd ?_); refine zl hS ?_; refine zad ?_; refine znc ?_; refine zf0 ?_; (first | refine zf0 ?_ | refine zfd ?_); refine zst hS ?_; intro w1 hS; have hS := hS.ns; refine Zbi ?_; refine zR1 (c := Q2P (z := z.tick) (by omega) (show St cx _ (gL p z.tick lv h.left fr g _) from hS.sp)) (h := ?_); rintro v1 w1 ⟨b9, o9, rfl, hel, hS⟩; refine Zan ?_; refine zC [(0, none), (1, none), (2, none), (3, none), (4, none), (5, none), (6, none), (7, none), (8, none), (9, none), (10, none), (11, none), (12, none), (13, none), (14, none), (15, none), (16, none), (17, none), (18, some (some [4, 8, 11, 15, 17])), (19, some none)] ?_; have hS := hS.drew; refine Zbo ?_; refine zf0 ?_; refine Zab ?_; refine zf0 ?_; refine Zab ?_; refine zl hS ?_)
 all_goals (refine Zat ?_; refine Zbx ?_; refine Q1f hS hel rfl fd (Q5 fr g) (Q7 fr g) rfl ?_; refine Zab ?_; refine zi ?_; intro b8 o8 cs8 x8 hat8 hx8 he8; obtain rfl : f = x8 := Option.some.inj (hfx.symm.trans hx8); obtain ⟨vp8, vr8, vb8, rfl, hp8, hr8, hb8⟩ := Qv he8; refine Zbg ?_; refine Zat ?_; refine Zbx ?_; refine Q1 (j := 1) hS hel rfl fd (Q5 fr g) (Q7 fr g) rfl ?_; refine Zab ?_; refine zi ?_; intro b7 o7 cs7 x7 hat7 hx7 he7; obtain rfl : b = x7 := Option.some.inj (hbx.symm.trans hx7); obtain ⟨vp7, vc7, u1, u2, u3, u4, u5, rfl, hp7, hc7, hu1, hu2, hu3, hu4, hu5⟩ := Q13 he7; refine ZaY ?_; refine ZaR ?_; intro p4 w1 hS; refine zt ?_; refine ⟨List.forall_mem_cons.2 ⟨(by first | (first | exact QA (j := 0) hS hel rfl fd (Q5 fr g) (Q7 fr g) rfl | exact QA (j := 1) hS hel rfl fd (Q5 fr g) (Q7 fr g) rfl) | (exact Q1E hS rfl fd rfl)), List.forall_mem_cons.2 ⟨(by (exact QA (j := 0) hS hel rfl fd (Q5 fr g) (Q7 fr g) rfl)), List.forall_mem_cons.2 ⟨(by first | (first | exact QA (j := 0) hS hel rfl fd (Q5 fr g) (Q7 fr g) rfl | exact QA (j := 1) hS hel rfl fd (Q5 fr g) (Q7 fr g) rfl) | (exact Q1E hS rfl fd rfl) | (exact Q39 hS (by assumption) rfl rfl) | (exact Q3j hS (by assumption) rfl rfl)), List.forall_mem_cons.2 ⟨(by (first | exact QA (j := 0) hS hel rfl fd (Q5 fr g) (Q7 fr g) rfl | exact QA (j := 1) hS hel rfl fd (Q5 fr g) (Q7 fr g) rfl)), List.forall_mem_cons.2 ⟨(by first | (first | exact QA (j := 0) hS hel rfl fd (Q5 fr g) (Q7 fr g) rfl | exact QA (j := 1) hS hel rfl fd (Q5 fr g) (Q7 fr g) rfl) | (exact Q38 hS rfl fd rfl rfl) | (exact Q2C hS (by assumption) rfl rfl rfl)), fun _ h => (List.not_mem_nil h).elim⟩⟩⟩⟩⟩, ?_⟩)
 all_goals (refine s_cf ?_; refine zsn hS ?_; intro w1 hS; have hS := hS.ns; refine Zaw ?_; refine Qb ?_; refine zD (ci 10 [8, 9]) ?_; have hS := hS.drew; refine ZaW ?_; refine Q1f hS hel rfl fd (Q5 fr g) (Q7 fr g) rfl ?_; refine ZaW ?_; refine Q1 (j := 1) hS hel rfl fd (Q5 fr g) (Q7 fr g) rfl ?_; refine zR2 (c := Q9U g.f g.b kf kb hS) (h := ?_); rintro v1 w1 ⟨rfl, hS⟩; refine ZbB ?_; refine ZbA ?_; refine zD (ci 8 [7]) ?_; have hS := hS.drew; refine ZaW ?_; refine Q1 (j := 2) hS hel rfl fd (Q5 fr g) (Q7 fr g) rfl ?_; refine zf0 ?_; refine zl hS ?_; refine zL ?_)
 all_goals (first | (refine Q1c ?_) | (refine Q1l ?_) | (refine QB rfl rfl (fun hc => ?_) (fun hc => ?_)))
 all_goals (refine zn ?_)
 all_goals
  first
  | (refine zct ?_
     all_goals (refine Qb ?_; refine zD (ci 14 [12, 13]) ?_; have hS := hS.drew; refine ZaW ?_; refine Q1f hS hel rfl fd (Q5 fr g) (Q7 fr g) rfl ?_; refine ZaW ?_; refine Q1 (j := 1) hS hel rfl fd (Q5 fr g) (Q7 fr g) rfl ?_; refine ZaW ?_; refine Q1 (j := 2) hS hel rfl fd (Q5 fr g) (Q7 fr g) rfl ?_; refine zR3 (c := Q9T g.f g.b g.i kf kb (by omega) hS) (h := ?_); rintro v1 w1 ⟨rfl, hS⟩; refine Zac ?_; refine zD (ci 11 [9, 10]) ?_; have hS := hS.drew; refine zm ?_; refine zf0 ?_; refine zl hS ?_; refine ZaW ?_; refine Q1 (j := 2) hS hel rfl fd (Q5 fr g) (Q7 fr g) rfl ?_; refine zi ?_; intro b6 o6 cs6 x6 hat6 hx6 he6; obtain ⟨vr6, va6, rfl, hr6, ha6⟩ := Q1a he6; (first | (refine zv hS ?_) | (refine zvk hS ?_)))
     all_goals (have hX := one_i (s := msOf h g fr inp out (fu + 1)) hfx hbx hx6; have hP := QbY (s := msOf h g fr inp out fu) hfx hbx (List.getElem?_eq_some_iff.1 hx6).1; obtain ⟨i1, i2, i3, i4⟩ := hci x6 (List.mem_of_getElem? hx6); refine zR2 (c := gins_c (z := z.tick) (inp := inp) (fu := fu + 1) (m := m) he6 hfn hi i1 i2 i3 i4 hgi hf hn hrn hN hol hrg (show St cx _ (gX p z.tick fr g N h out _) from QK ho hS.sp)) (h := ?_); intro u9 w1 hG; rw [show MS.ins m (msOf h g.nx fr inp out (fu + 1)) x6 = (msOf h g fr inp out (fu + 1)).one m from hX.symm] at hG; rcases hG with ⟨fv, iv, ov, fr', g', N', h', inp', out', h1, h2, h3, rfl, hS⟩ | ⟨e, fr', g', N', h1, h2, rfl, hS⟩ | ⟨l, bv, fr', g', N', h1, h2, h3, rfl, hS⟩ | ⟨h1, rfl, lv9, left9, hS⟩)
     all_goals (refine zm ?_)
     all_goals refine zn ?_)
  | (refine zcf ?_
     all_goals (refine Zak ?_; refine zf0 ?_; refine zv hS ?_)
     all_goals (have hX := one_e (s := msOf h g fr inp out (fu + 1)) hfx hbx (by show b.code.length ≤ g.i; omega); have hP := QbZ (s := msOf h g fr inp out fu) hfx hbx (by show ¬ g.i < b.code.length; omega); refine zR2 (c := gend_c (z := z.tick) (e := b.fin) (inp := inp) (fu := fu + 1) (m := m) ⟨_, _, _, _, _, rfl, hu1, hu2, hu3, hu4, hu5⟩ hfn hi hfx hce hf hfr (show St cx _ (gX p z.tick fr g N h out _) from QK ho hS.sp)) (h := ?_); intro u9 w1 hG; rw [← hX] at hG; rcases hG with ⟨fv, iv, ov, fr', g', N', h', inp', out', h1, h2, h3, rfl, hS⟩ | ⟨e, fr', g', N', h1, h2, rfl, hS⟩ | ⟨l, bv, fr', g', N', h1, h2, h3, rfl, hS⟩ | ⟨h1, rfl, lv9, left9, hS⟩)
     all_goals (refine zm ?_)
     all_goals refine zn ?_)
 all_goals (refine Zbv ?_; (first | (obtain ⟨lv2, rv2, ho2, hS⟩ := Q1F hS) | skip); refine Zak ?_)
 all_goals (first | (refine Qd ?_) | (refine Qh ?_))
 all_goals (refine zn ?_)
 all_goals
  first
  | (refine zct ?_
     all_goals (refine ZbX ?_; refine zR2 (c := rF_c hS) (h := ?_); rintro v1 w1 ⟨rfl, hS⟩; refine znc ?_; refine zf0 ?_; (first | (refine zsn hS ?_; intro w1 hS; have hS := hS.ns) | (refine zsm hS ?_; intro w1 hS; have hS := hS.ns)))
     all_goals refine zn ?_)
  | (refine zcf ?_
     all_goals refine zsk ?_)
 all_goals (refine Zad ?_; refine znc ?_; refine zf0 ?_; refine zv hS ?_; refine zsn hS ?_; intro w1 hS; have hS := hS.ns; refine ZaX ?_; refine Q19 vw (Q4 (n := 2) (by kernel_rfl) (by kernel_rfl) (hS.blkAt fd) (by rfl) (by rfl)) ?_; (first | (first | exact ⟨_, rfl, .inl ⟨by omega, rfl, hS.sp⟩⟩ | exact ⟨_, rfl, .inr (.inl ⟨by omega, by show Value.agg ⟨[.int .i64 z.c, .int .i64 z.a]⟩ = _; rw [hc0, ha0]; rfl, 0, by decide, .inl ⟨fv, iv, ov, fr', g', N', h', inp', out', h1, h2, h3, rfl, QK ho2 hS.sp⟩⟩)⟩ | exact ⟨_, rfl, .inr (.inl ⟨by omega, by show Value.agg ⟨[.int .i64 z.c, .int .i64 z.a]⟩ = _; rw [hc0, ha0]; rfl, 1, by decide, .inr (.inl ⟨e, fr', g', N', h1, h2, rfl, QK ho2 hS.sp⟩)⟩)⟩ | exact ⟨_, rfl, .inr (.inl ⟨by omega, by show Value.agg ⟨[.int .i64 z.c, .int .i64 z.a]⟩ = _; rw [hc0, ha0]; rfl, 1, by decide, .inr (.inr (.inl ⟨l, bv, fr', g', N', h1, h2, h3, rfl, QK ho2 hS.sp⟩))⟩)⟩) | (rw [hP]; exact ⟨_, rfl, .inr (.inr ⟨by omega, h1, rfl, lv9, left9, hS.sp⟩)⟩)))
end Go.Proofs.YteflkifmgnpbhaaGreat
namespace Go.Lir
set_option linter.unusedVariables false
def VR (l : List Val) : Prop := ∀ v ∈ l, inI v.n
def TR (t : Thg) : Prop := t.l.length ≤ 1000 ∧ VR t.l
def RR (r : Rgn) : Prop := ∀ t ∈ r.l, TR t
def HR (h : HpS) : Prop := ∀ r ∈ h.l, RR r
structure Rg (s : MS) : Prop where
 g : VR s.g.vals
 st : ∀ x ∈ s.st, VR x.vals
 h : HR s.h
 inp : ∀ n ∈ s.inp, inI n
theorem in0 : inI 0 := by unfold inI; omega
theorem in_nat {n : Nat} (h : n ≤ 1000) : inI n := by unfold inI; omega
theorem VR.nil : VR [] := fun v hv => by cases hv
theorem VR.one {v : Val} (h : inI v.n) : VR [v] := fun u hu => by rw [List.mem_singleton.1 hu]; exact h
theorem VR.app {a b : List Val} (ha : VR a) (hb : VR b) : VR (a ++ b) := fun v hv => (List.mem_append.1 hv).elim (ha v) (hb v)
theorem RR.none : RR Rgn.none := fun t ht => by cases ht
theorem TR.dflt : TR ⟨false, []⟩ := ⟨Nat.zero_le _, VR.nil⟩
theorem val_in {g : Frm} {k : Int} {v : Val} (hg : VR g.vals) (h : g.val k = some v) : inI v.n := by
 unfold Frm.val at h
 split at h
 · cases h
 · exact hg v (List.mem_of_getElem? h)
theorem num_in {g : Frm} {k n : Int} (hg : VR g.vals) (h : g.num k = some n) : inI n := by
 obtain ⟨v, hv, rfl⟩ := Q94 h; exact hg v hv
theorem Q6w {g : Frm} (hg : VR g.vals) : ∀ {l : List Int} {vs : List Val}, g.args l = some vs → VR vs
 | [], vs, h => by rw [Frm.args] at h; cases h; exact VR.nil
 | k :: l, vs, h => by
   rw [Frm.args] at h
   cases hv : g.val k with
   | none => rw [hv] at h; cases h
   | some v =>
     rw [hv] at h
     cases hl : g.args l with
     | none => rw [hl] at h; cases h
     | some us =>
       rw [hl] at h
       cases h
       intro u hu
       rcases List.mem_cons.1 hu with rfl | hu
       · exact val_in hg hv
       · exact Q6w hg hl u hu
theorem Q7x {α : Type} {P : α → Prop} {l : List α} {k : Nat} {d : α} (h : ∀ x ∈ l, P x) (hd : P d) : P (l.getD k d) := by
 rw [List.getD_eq_getElem?_getD]
 cases hk : l[k]? with
 | none => exact hd
 | some x => exact h x (List.mem_of_getElem? hk)
theorem HR.reg {h : HpS} (hh : HR h) (k : Int) : RR (h.reg k) := by
 unfold HpS.reg
 split
 · exact Q7x (P := RR) hh RR.none
 · exact RR.none
theorem HR.thg {h : HpS} (hh : HR h) (k t : Nat) : TR (h.thg k t) := Q7x (P := TR) (hh.reg k) TR.dflt
theorem HR.upd {l : List Rgn} {k : Nat} {r : Rgn} {a b : Int} (hh : HR ⟨l, a⟩) (hr : RR r) : HR ⟨l.set k r, b⟩ := fun q hq => by
 rcases mem_set_or hq with rfl | hq
 · exact hr
 · exact hh q hq
theorem HR.open {h : HpS} (hh : HR h) : HR h.open := by
 unfold HpS.open
 split
 · exact hh
 · intro r hr
   rcases List.mem_append.1 hr with hr | hr
   · exact hh r hr
   · rw [List.mem_singleton.1 hr]; exact RR.none
theorem openV_in {h : HpS} : inI h.openV.n := by
 unfold HpS.openV; split <;> exact in0
theorem HR.shut {h : HpS} (hh : HR h) (v : Val) : HR (h.shut v) := by
 unfold HpS.shut
 split
 · exact HR.upd (a := h.left) hh RR.none
 · exact hh
theorem HR.put {h : HpS} (hh : HR h) (v : Val) (n : Int) {t : Thg} (ht : TR t) : HR (h.put v n t) := by
 unfold HpS.put
 split
 · refine HR.upd (a := h.left) hh fun u hu => ?_
   have hl : (((h.reg v.region).room n).push t).l = (h.reg v.region).l ++ [t] := by unfold Rgn.room; split <;> rfl
   rw [hl] at hu
   rcases List.mem_append.1 hu with hu | hu
   · exact hh.reg _ u hu
   · rw [List.mem_singleton.1 hu]; exact ht
 · exact hh
theorem QbW {h : HpS} {v : Val} {k n : Int} : inI (h.putV v k n).n := by
 unfold HpS.putV; split <;> exact in0
theorem HR.arr {h : HpS} (hh : HR h) (v : Val) (n : Int) : HR (h.arr v n) := by
 unfold HpS.arr
 split
 · exact hh
 · refine hh.put v _ ⟨?_, fun u hu => ?_⟩
   · show (List.replicate _ _).length ≤ 1000; rw [List.length_replicate]; omega
   · rw [List.eq_of_mem_replicate hu]; exact in0
theorem arrV_in {h : HpS} {v : Val} {n : Int} : inI (h.arrV v n).n := by
 unfold HpS.arrV; split
 · exact in0
 · exact QbW
theorem get_in {h : HpS} (hh : HR h) (v : Val) (k : Int) : inI (h.get v k).1.n := by
 unfold HpS.get
 split
 · exact in0
 · split
   · exact Q7x (P := fun v : Val => inI v.n) (hh.thg _ _).2 in0
   · exact in0
theorem len_in {h : HpS} (hh : HR h) (v : Val) : inI (h.len v).1 := by
 unfold HpS.len
 split
 · exact in0
 · exact in_nat (hh.thg _ _).1
theorem HR.set {h : HpS} (hh : HR h) (v : Val) (k : Int) {x : Val} (hx : inI x.n) : HR (h.set v k x) := by
 unfold HpS.set
 split
 · exact hh
 · rename_i r t _
   split
   · refine HR.upd (a := h.left) hh fun u hu => ?_
     rcases mem_set_or hu with rfl | hu
     · refine ⟨by show ((h.thg r t).l.set _ _).length ≤ _; rw [List.length_set]; exact (hh.thg r t).1, fun y hy => ?_⟩
       rcases mem_set_or hy with rfl | hy
       · exact hx
       · exact (hh.thg r t).2 y hy
     · exact hh.reg _ u hu
   · exact hh
section
variable {m : Module} {s : MS}
theorem Rg.put (h : Rg s) {vs : List Val} (hv : VR vs) : Rg (s.put vs) := ⟨h.g.app hv, h.st, h.h, h.inp⟩
theorem Rg.hp (h : Rg s) {q : HpS} (hq : HR q) : Rg (s.hp q) := ⟨h.g, h.st, hq, h.inp⟩
theorem Rg.made (h : Rg s) {e : Int} {q : HpS} {v : Val} (hq : HR q) (hv : inI v.n) : (s.made e q v).All Rg := by
 unfold MS.made
 exact Stp.all_if (fun _ => trivial) fun _ => Stp.all_if (fun _ => trivial) fun _ => (h.hp hq).put (.one hv)
theorem Rg.ins (h : Rg s) {x : Ins} (hx : Q1g m.funcs.length x = 0) (hn : inI x.n) : (s.ins m x).All Rg := by
 obtain ⟨q1, q2⟩ := Q5c hx
 have h1 : ∀ (v : Val), inI v.n → (Stp.go (s.put [v])).All Rg := fun v hv => h.put (.one hv)
 have h2 : ∀ (q : HpS), HR q → (Stp.go (s.hp q)).All Rg := fun q hq => h.hp hq
 unfold MS.ins
 refine Stp.all_if (fun _ => h1 _ hn) fun _ => Stp.all_if (fun _ => Stp.all_bind fun a _ => Stp.all_bind fun b _ => Stp.all_if (fun _ => trivial) fun _ => h1 _ (opF_in _ _ _)) fun _ => Stp.all_if (fun _ => ?_) fun _ =>
  Stp.all_if (fun _ => Stp.all_bind fun v _ => Stp.all_if (fun _ => trivial) fun _ => h2 _ (h.h.shut v)) fun _ => Stp.all_if (fun _ => Stp.all_bind fun v _ => Stp.all_bind fun l hl => h.made (h.h.put v _ ⟨by have := Q3n hl; show l.length ≤ _; omega, Q6w h.g hl⟩) QbW) fun _ =>
  Stp.all_if (fun _ => Stp.all_bind fun v _ => Stp.all_if (fun _ => trivial) fun _ => Stp.all_if (fun _ => trivial) fun _ => h1 _ (get_in h.h _ _)) fun _ =>
  Stp.all_if (fun _ => Stp.all_bind fun v _ => Stp.all_if (fun _ => trivial) fun _ => Stp.all_bind fun y hy => Stp.all_if (fun _ => trivial) fun _ => h2 _ (h.h.set _ _ (val_in h.g hy))) fun _ =>
  Stp.all_if (fun _ => Stp.all_bind fun v _ => Stp.all_bind fun n _ => Stp.all_if (fun _ => trivial) fun _ => h.made (h.h.arr _ _) arrV_in) fun _ =>
  Stp.all_if (fun _ => Stp.all_bind fun v _ => Stp.all_bind fun n _ => Q47 (h1 _ (get_in h.h _ _))) fun _ =>
  Stp.all_if (fun _ => Stp.all_bind fun v _ => Stp.all_bind fun n _ => Stp.all_bind fun c hc => Q47 (h2 _ (h.h.set _ _ (num_in h.g hc)))) fun _ =>
  Stp.all_if (fun _ => Stp.all_bind fun v _ => Q47 (h1 _ (len_in h.h _))) fun _ => Stp.all_if (fun _ => ?_) fun _ => Stp.all_if (fun _ => Stp.all_bind fun n _ => ?_) fun _ => ?_
 · unfold MS.newR
   exact Stp.all_if (fun _ => trivial) fun _ => ⟨h.g.app (.one openV_in), h.st, h.h.open, h.inp⟩
 · unfold MS.inS
   cases hi : s.inp with
   | nil => exact trivial
   | cons n r => exact ⟨h.g.app (.one (h.inp n (by rw [hi]; simp))), h.st, h.h, fun q hq => h.inp q (by rw [hi]; exact List.mem_cons_of_mem _ hq)⟩
 · unfold MS.outS
   exact Stp.all_if (fun _ => trivial) fun _ => ⟨h.g, h.st, h.h, h.inp⟩
 · unfold MS.call
   split
   · exact trivial
   · refine Stp.all_bind fun rs _ => Stp.all_bind fun vs hv => Stp.all_if (fun _ => trivial) fun _ => Stp.all_if (fun _ => trivial) fun _ => ?_
     refine ⟨Q6w h.g hv, fun y hy => ?_, h.h, h.inp⟩
     rcases List.mem_cons.1 hy with rfl | hy
     · exact h.g
     · exact h.st y hy
theorem Rg.to (h : Rg s) {f : Fun} {t : To} : (s.to f t).All Rg := by
 unfold MS.to
 split
 · exact trivial
 · exact Stp.all_bind fun rs _ => Stp.all_bind fun vs hv => Stp.all_if (fun _ => trivial) fun _ => ⟨Q6w h.g hv, h.st, h.h, h.inp⟩
theorem Rg.fin (h : Rg s) {f : Fun} {e : Tail} {n : Nat} (he : Q1I n e = 0) : (s.fin f e).All Rg := by
 unfold MS.fin
 refine Stp.all_if (fun _ => h.to) fun _ => Stp.all_if (fun _ => Stp.all_bind fun n _ => Stp.all_if (fun _ => h.to) fun _ => h.to) fun _ => ?_
 unfold MS.ret
 refine Stp.all_bind fun vs hv => Stp.all_if (fun _ => trivial) fun _ => ?_
 cases hs : s.st with
 | cons c st => exact Rg.put (s := ⟨s.h, c, st, s.inp, s.out, s.fuel⟩) ⟨h.st c (by rw [hs]; simp), fun x hx => h.st x (by rw [hs]; exact List.mem_cons_of_mem _ hx), h.h, h.inp⟩ (Q6w h.g hv)
 | nil =>
   dsimp only
   cases hi : intsV vs with
   | none => exact trivial
   | some ns => show ns.length ≤ 8; rw [Q6a hi, Q3n hv]; exact Q7y he
theorem Rg.one {k : Nat} (h : Rg s) (hB : Bnd m k s) (hM : m.fault.1 = 0) (hR : m.InR) : (s.one m).All Rg := by
 obtain ⟨f, b, hf, hb, hi, hv, hr⟩ := hB.cur
 obtain ⟨-, q1, q2⟩ := Q3m hM hf hb
 unfold MS.one
 rw [hf]; dsimp only; rw [hb]; dsimp only
 cases hx : b.code[s.g.i]? with
 | none => exact h.fin q2
 | some x =>
   have hxm := List.mem_of_getElem? hx
   have hxr := ((hR f (List.mem_of_getElem? hf)).2.2.2 b (List.mem_of_getElem? hb)).2.2.1 x hxm
   exact Rg.ins (s := s.next) ⟨h.g, h.st, h.h, h.inp⟩ (q1 x hxm) hxr.1.2.2.2.2.2
theorem Rg.start {inp : List Int} {pages : Int} (hi : ∀ n ∈ inp, inI n) : Rg (MS.start inp pages) := ⟨VR.nil, fun x hx => (by cases hx), fun r hr => (by cases hr), hi⟩
end
end Go.Lir
namespace Go.Lir
def Stp.Fu (k : Nat) : Stp → Prop
 | .go s => s.fuel = k
 | _ => True
theorem Stp.fu_bind {α : Type} {k : Nat} {x : Option α} {f : α → Stp} (h : ∀ a, (f a).Fu k) : (Q1e x f).Fu k := by
 cases x with
 | none => exact trivial
 | some a => exact h a
theorem Stp.fu_if {k : Nat} {c : Prop} [Decidable c] {a b : Stp} (h1 : a.Fu k) (h2 : b.Fu k) : (if c then a else b).Fu k := by
 by_cases hc : c
 · rw [if_pos hc]; exact h1
 · rw [if_neg hc]; exact h2
section
variable {m : Module} {s : MS}
theorem Qck {e : Int} {h : HpS} {v : Val} : (s.made e h v).Fu s.fuel := Stp.fu_if trivial (Stp.fu_if trivial rfl)
theorem Q9d {v : Val} {e : Int} {r : Stp} {k : Nat} (h : r.Fu k) : (Q3f v e r).Fu k := Stp.fu_if trivial (Stp.fu_if trivial (Stp.fu_if trivial h))
theorem fu_to {f : Fun} {t : To} : (s.to f t).Fu s.fuel := by
 unfold MS.to
 split
 · exact trivial
 · exact Stp.fu_bind fun _ => Stp.fu_bind fun _ => Stp.fu_if trivial rfl
theorem fu_ins {x : Ins} : (s.ins m x).Fu s.fuel := by
 unfold MS.ins
 refine Stp.fu_if rfl (Stp.fu_if (Stp.fu_bind fun _ => Stp.fu_bind fun _ => Stp.fu_if trivial rfl) (Stp.fu_if (Stp.fu_if trivial rfl) (Stp.fu_if (Stp.fu_bind fun _ => Stp.fu_if trivial rfl) (Stp.fu_if (Stp.fu_bind fun _ => Stp.fu_bind fun _ => Qck) (Stp.fu_if (Stp.fu_bind fun _ => Stp.fu_if trivial (Stp.fu_if trivial rfl)) (Stp.fu_if (Stp.fu_bind fun _ => Stp.fu_if trivial (Stp.fu_bind fun _ => Stp.fu_if trivial rfl)) (Stp.fu_if (Stp.fu_bind fun _ => Stp.fu_bind fun _ => Stp.fu_if trivial Qck) (Stp.fu_if (Stp.fu_bind fun _ => Stp.fu_bind fun _ => Q9d rfl) (Stp.fu_if (Stp.fu_bind fun _ => Stp.fu_bind fun _ => Stp.fu_bind fun _ => Q9d rfl) (Stp.fu_if (Stp.fu_bind fun _ => Q9d rfl) (Stp.fu_if ?_ (Stp.fu_if (Stp.fu_bind fun _ => Stp.fu_if trivial rfl) ?_))))))))))))
 · unfold MS.inS; split <;> first | exact trivial | rfl
 · unfold MS.call
   split
   · exact trivial
   · exact Stp.fu_bind fun _ => Stp.fu_bind fun _ => Stp.fu_if trivial (Stp.fu_if trivial rfl)
theorem fu_fin {f : Fun} {e : Tail} : (s.fin f e).Fu s.fuel := by
 unfold MS.fin
 refine Stp.fu_if fu_to (Stp.fu_if (Stp.fu_bind fun _ => Stp.fu_if fu_to fu_to) ?_)
 unfold MS.ret
 refine Stp.fu_bind fun vs => Stp.fu_if trivial ?_
 split
 · rfl
 · split <;> exact trivial
theorem fu_one : (s.one m).Fu s.fuel := by
 unfold MS.one
 split
 · exact trivial
 · split
   · exact trivial
   · split
     · exact fu_ins (s := s.next)
     · exact fu_fin
theorem one_fuel {s' : MS} (h : s.tick.one m = .go s') : s'.fuel = s.fuel + 1 := by
 have := fu_one (m := m) (s := s.tick)
 rw [h] at this
 exact this
end
end Go.Lir
namespace Go.Proofs.YteflkifmgnpbhaaGreat
open Go.Lir
set_option maxHeartbeats 1000000
attribute [local irreducible] LC.wp Q0 QF QE retQ Q16 LO.wp Qf Calls
set_option linter.unusedSimpArgs false
set_option linter.unusedVariables false
variable {cx : Cx} {w : World} {L : List Res} {p N : Nat} {z : GZ} {fr : List FrmV} {g : FrmV} {h : HpS} {out inp : List Int} {fu : Nat} {m : Module}
@[reducible] def newZ (fn fv iv : Value) (fuel : Int) : GZ := ⟨fn, fv, iv, 0, .slice none 0 0, .slice none 0 0, 0, fuel, false, 0, 0⟩
theorem gstart_c {vf v : Value} {fuel pages : Int} (hp : 0 ≤ pages ∧ pages ≤ 1000) (hi : intR.sl cx v inp) (hS : St cx w L) : Rets Tryz.prog R_Starts [.agg ⟨[vf]⟩, v, .int .i64 fuel, .int .i64 pages] w fun u w' =>
 ∃ p fv, u = .pointer (some ⟨p, 0, none⟩) ∧ St cx w' (gX p (newZ vf fv v fuel) [] newG 0 ⟨[], pages⟩ [] L) := by
 obtain ⟨av, nv, hv⟩ := hi.shape
 subst hv
 all_goals refine lgo tyD Tryz.func22 ?_
 all_goals (refine Zaz ?_; intro p4 w1 hS; refine ZbB ?_; refine zv hS ?_; refine zm ?_; refine zb1 [_, _] ?_; refine zb0 [_, _, _, _, _] ?_; refine zB1 hS [_, _, _, _, _] ?_; intro b1 w1 hS; refine ZaO ?_; refine zb5 [_, _, _, _, _, _, _, _, _, _, _, _, _] ?_; refine zb hS ?_; intro p17 w1 hS; refine Zah ?_; have hS := St.slOf (T := 119) (es := 5) (css := Q1v [] newG) (hS.out (r := blk b1 119 [.int .i64 0, .int .i64 0, .int .i64 0, .slice none 0 0, .slice none 0 0]) fd) rfl (by simp [Q1v, FrmV.cells]) rfl; simp only [List.eraseIdx_cons_zero, List.eraseIdx_cons_succ] at hS; have hS := St.big_nil FrmV.res1 (St.big_nil (RgnV.res H1) hS); have hS := hS.nil (T := 182) (es := 4); have hS := hS.nil (T := 3) (es := 1); have hS := hS.nil (T := 2) (es := 1); have hS := hS.nil (T := 131) (es := 4); exact ⟨_, rfl, p17, _, rfl, QK (z := newZ vf (.slice (some ⟨b1, 0, none⟩) 1 1) (.slice av inp.length nv) fuel) (lv := .slice none 0 0) (rv := []) ⟨rfl, HpS.ok_new hp⟩ hS.sp⟩)
end Go.Proofs.YteflkifmgnpbhaaGreat
namespace Go.Lir
def RA (m : Module) (most : Nat) (a : Run) : Run → Prop
 | .on s => a = Run.steps m most (most + 1 - s.fuel) (.on s)
 | r => a = r
end Go.Lir
namespace Go.Proofs.YteflkifmgnpbhaaGreat
open Go.Lir
set_option maxHeartbeats 1000000
attribute [local irreducible] LC.wp Q0 QF QE retQ Q16 LO.wp Qf Calls
set_option linter.unusedSimpArgs false
set_option linter.unusedVariables false
variable {cx : Cx} {w : World} {L : List Res} {p N : Nat} {c : MC} {z : GZ} {fr : List FrmV} {g : FrmV} {h : HpS} {out inp back : List Int} {m : Module}
theorem RA.first {pages : Int} {most : Nat} : RA m most (Run.all m inp most pages) (.on (MS.start inp pages)) := rfl
theorem RA.seven {a : Run} {most : Nat} {s : MS} (h : RA m most a (.on s)) (hk : s.fuel = most) : RA m most a (.over s 7 []) := Eq.trans h (Q8J hk rfl)
theorem RA.more {a : Run} {most : Nat} {s : MS} {X : Stp} (h : RA m most a (.on s)) (hk : s.fuel < most) (hX : s.tick.one m = X) (hf : ∀ s', X = .go s' → s'.fuel = s.fuel + 1) : RA m most a (.of m s X) := by
 have h1 := Eq.trans h (Q9C hk rfl)
 rw [hX] at h1
 cases X with
 | go s' => show a = _; rw [h1, hf s' rfl]; rfl
 | halt e => exact h1.trans (Q4x _)
 | done l => exact h1.trans (Q4x _)
 | lost => exact h1.trans (Q7g _)
def PR (m : Module) (most : Nat) (c : MC) (fr : List FrmV) (g : FrmV) (N : Nat) (h : HpS) (inp out back : List Int) : Run → Prop
 | .on s => s = msOf h g fr inp out s.fuel ∧ back = [] ∧ c.dn = false ∧ c.c = 0 ∧ c.e = 0 ∧ c.fu = s.fuel ∧ s.fuel ≤ most ∧ c.mo = most ∧ N ≤ s.fuel ∧ Bnd m s.fuel s
 | .over s e b => h = s.h ∧ out = s.out ∧ back = b ∧ c.dn = true ∧ c.e = e ∧ c.fu = s.fuel ∧ out.length ≤ 2000 ∧ back.length ≤ 100000
 | .stuck _ => False
def DR (m : Module) (most : Nat) (z : GZ) (fr : List FrmV) (g : FrmV) (N : Nat) (h : HpS) (inp out back : List Int) : Run → Prop
 | .on s => s = msOf h g fr inp out s.fuel ∧ back = [] ∧ z.dn = false ∧ (z.c = 0 ∧ z.a = 0) ∧ z.e = 0 ∧ z.fu = s.fuel ∧ s.fuel ≤ most ∧ z.mo = most ∧ N ≤ s.fuel ∧ Bnd m s.fuel s ∧ Rg s
 | .over s e b => h = s.h ∧ out = s.out ∧ back = b ∧ z.dn = true ∧ (z.c = 0 ∧ z.a = 0) ∧ z.e = e ∧ z.fu = s.fuel ∧ N ≤ most + 1 ∧ out.length ≤ 2000 ∧ back.length ≤ 100000
 | .stuck _ => False
theorem oneB {s : MS} (hB : Bnd m s.fuel s) (hM : m.fault.1 = 0) : (s.tick.one m).All (Bnd m (s.fuel + 1)) := Bnd.one (s := s.tick) (k := s.fuel) ⟨hB.cur, hB.st, hB.sl, hB.out⟩ hM
theorem oneR {s : MS} (hR : Rg s) (hB : Bnd m s.fuel s) (hM : m.fault.1 = 0) (hIn : m.InR) : (s.tick.one m).All Rg := Rg.one (s := s.tick) (k := s.fuel) ⟨hR.g, hR.st, hR.h, hR.inp⟩ ⟨hB.cur, hB.st, hB.sl, hB.out⟩ hM hIn
theorem PR.step {most : Nat} {s : MS} {u : Value} (hP : PR m most c fr g N h inp out back (.on s)) (hM : m.fault.1 = 0) (hi : intR.sl cx c.iv inp) (hs : StepS m p c fr g N h inp out (s.fuel + 1) cx (sl 2 1 c.bv [] :: L) u w) :
 (∀ f, Run.step m most (.on s) ≠ .stuck f) ∧ (u = fltV (0, 0) ∧ ∃ c' fr' g' N' h' inp' out' back', PR m most c' fr' g' N' h' inp' out' back' (Run.step m most (.on s)) ∧ c'.fn = c.fn ∧ intR.sl cx c'.iv inp' ∧ msr c' < msr c ∧ St cx w (mS p c' fr' g' N' h' out' (sl 2 1 c'.bv (Q8 back') :: L))) ∨
 ∃ (f : Int) (c' : MC), Run.step m most (.on s) = .stuck (20, f) ∧ u = fltV (20, f) ∧ c'.c = 20 ∧ c'.a = f ∧ St cx w (blk p 55 c'.cells :: L) := by
 obtain ⟨hms, -, hdn, hc0, he0, hfu, hkm, hmo, hN, hB⟩ := hP
 generalize hk : s.fuel = k at *
 subst hms
 rcases hs with ⟨h7, rfl, hS⟩ | ⟨hlt, hs⟩
 · have hst : Run.step m most (.on (msOf h g fr inp out k)) = .over (msOf h g fr inp out k) 7 [] := if_pos (show k = most by omega)
   rw [hst]
   refine .inl ⟨fun f hf => (by cases hf), rfl, c.over 7, fr, g, N, h, inp, out, [], ⟨rfl, rfl, rfl, rfl, rfl, hfu, hB.out, Nat.zero_le _⟩, rfl, hi, ?_, hS⟩
   unfold msr; rw [hdn]; show 2 * (c.mo - c.fu).toNat + 0 < 2 * (c.mo - c.fu).toNat + 1; omega
 · have hst : Run.step m most (.on (msOf h g fr inp out k)) = .of m (msOf h g fr inp out k) ((msOf h g fr inp out (k + 1)).one m) := if_neg (show ¬ k = most by omega)
   have hB1 : ((msOf h g fr inp out (k + 1)).one m).All (Bnd m (k + 1)) := oneB (s := msOf h g fr inp out k) hB hM
   have hmm : 2 * (c.mo - (c.fu + 1)).toNat + 1 < 2 * (c.mo - c.fu).toNat + 1 := by omega
   have hmz : 2 * (c.mo - (c.fu + 1)).toNat + 0 < 2 * (c.mo - c.fu).toNat + 1 := by omega
   rcases hs with ⟨rfl, hG⟩ | ⟨e, hX, rfl, fr', g', N', hN', hS⟩ | ⟨hX, rfl, hS⟩
   · rcases hG with ⟨lv, iv, ov, fr', g', N', h', inp', out', hX, hi', hN', -, hS⟩ | ⟨ns, bv, fr', g', hX, -, hS⟩
     · rw [hX] at hst hB1
       rw [hst]
       refine .inl ⟨fun f hf => (by cases hf), rfl, c.tick.upd lv iv ov, fr', g', N', h', inp', out', [], ⟨rfl, rfl, hdn, hc0, he0, ?_, ?_, hmo, ?_, hB1⟩, rfl, hi', ?_, hS⟩
       · show c.fu + 1 = ((k + 1 : Nat) : Int); omega
       · show k + 1 ≤ most; omega
       · show N' ≤ k + 1; omega
       · unfold msr; rw [hdn]; exact hmm
     · rw [hX] at hst hB1
       rw [hst]
       refine .inl ⟨fun f hf => (by cases hf), rfl, ⟨c.hp, c.fn, c.lv, c.iv, c.e, bv, c.ov, c.fu + 1, c.mo, true, c.c, c.a⟩, fr', g', N, h, inp, out, ns, ⟨rfl, rfl, rfl, rfl, he0, ?_, hB.out, ?_⟩, rfl, hi, ?_, (hS.subP (by (repeat constructor); first | done | fail))⟩
       · show c.fu + 1 = ((k + 1 : Nat) : Int); omega
       · have h8 : ns.length ≤ 8 := hB1; omega
       · unfold msr; rw [hdn]; exact hmz
   · rw [hX] at hst
     rw [hst]
     refine .inl ⟨fun f hf => (by cases hf), rfl, c.tick.over e, fr', g', N', h, inp, out, [], ⟨rfl, rfl, rfl, rfl, rfl, ?_, hB.out, Nat.zero_le _⟩, rfl, hi, ?_, hS⟩
     · show c.fu + 1 = ((k + 1 : Nat) : Int); omega
     · unfold msr; rw [hdn]; exact hmz
   · rw [hX] at hst
     rw [hst]
     exact .inr ⟨_, c.tick.stk ((msOf h g fr inp out (k + 1)).place m), rfl, rfl, rfl, rfl, (hS.subP (by (repeat constructor); first | done | fail))⟩
theorem DR.step {most : Nat} {s : MS} {u : Value} (hP : DR m most z fr g N h inp out back (.on s)) (hM : m.fault.1 = 0) (hIn : m.InR) (hi : intR.sl cx z.iv inp) (hs : GSt p z N s.fuel most h out ((msOf h g fr inp out (s.fuel + 1)).one m) ((msOf h g fr inp out s.fuel).place m) fr g cx (sl 2 1 z.bv [] :: L) u w) :
 (u = fltV (0, 0) ∧ ∃ z' fr' g' N' h' inp' out' back', DR m most z' fr' g' N' h' inp' out' back' (Run.step m most (.on s)) ∧ z'.fn = z.fn ∧ intR.sl cx z'.iv inp' ∧ St cx w (gX p z' fr' g' N' h' out' (sl 2 1 z'.bv (Q8 back') :: L))) ∨
 ∃ (f : Int) (z' : GZ) (lv : Value) (left : Int), Run.step m most (.on s) = .stuck (20, f) ∧ u = fltV (20, f) ∧ z'.c = 20 ∧ z'.a = f ∧ z'.dn = false ∧ St cx w (gBlk z' p lv left :: L) := by
 obtain ⟨hms, -, hdn, ⟨hc0, ha0⟩, he0, hfu, hkm, hmo, hN, hB, hR⟩ := hP
 generalize hk : s.fuel = k at *
 subst hms
 have hst : k ≠ most → Run.step m most (.on (msOf h g fr inp out k)) = .of m (msOf h g fr inp out k) ((msOf h g fr inp out (k + 1)).one m) := fun hne => if_neg (show ¬ k = most from hne)
 have hB1 : ((msOf h g fr inp out (k + 1)).one m).All (Bnd m (k + 1)) := oneB (s := msOf h g fr inp out k) hB hM
 have hR1 : ((msOf h g fr inp out (k + 1)).one m).All Rg := oneR (s := msOf h g fr inp out k) hR hB hM hIn
 rcases hs with ⟨h7, rfl, hS⟩ | ⟨hlt, rfl, q, hq, hG⟩ | ⟨hlt, hX, rfl, lv, left, hS⟩
 · have hs7 : Run.step m most (.on (msOf h g fr inp out k)) = .over (msOf h g fr inp out k) 7 [] := if_pos (show k = most by omega)
   rw [hs7]
   exact .inl ⟨rfl, z.end 7, fr, g, N, h, inp, out, [], ⟨rfl, rfl, rfl, rfl, ⟨hc0, ha0⟩, rfl, hfu, (by omega), hB.out, Nat.zero_le _⟩, rfl, hi, hS⟩
 · have hst := hst hlt
   rcases hG with ⟨fv, iv, ov, fr', g', N', h', inp', out', hX, hi', hN', -, hS⟩ | ⟨e, fr', g', N', hX, hN', -, hS⟩ | ⟨l, bv, fr', g', N', hX, hN', hl, -, hS⟩ | ⟨-, hu, -⟩
   · rw [hX] at hst hB1 hR1
     rw [hst]
     refine .inl ⟨rfl, z.tick.upd fv iv ov, fr', g', N', h', inp', out', [], ⟨rfl, rfl, hdn, ⟨hc0, ha0⟩, he0, ?_, ?_, hmo, ?_, hB1, hR1⟩, rfl, hi', hS⟩
     · show z.fu + 1 = ((k + 1 : Nat) : Int); omega
     · show k + 1 ≤ most; omega
     · show N' ≤ k + 1; omega
   · rw [hX] at hst
     rw [hst]
     refine .inl ⟨rfl, z.tick.end e, fr', g', N', h, inp, out, [], ⟨rfl, rfl, rfl, rfl, ⟨hc0, ha0⟩, rfl, ?_, (by omega), hB.out, Nat.zero_le _⟩, rfl, hi, hS⟩
     show z.fu + 1 = ((k + 1 : Nat) : Int); omega
   · rw [hX] at hst
     rw [hst]
     refine .inl ⟨rfl, (z.tick.bk bv).end 0, fr', g', N', h, inp, out, l, ⟨rfl, rfl, rfl, rfl, ⟨hc0, ha0⟩, rfl, ?_, (by omega), hB.out, hl⟩, rfl, hi, (hS.subP (by (repeat constructor); first | done | fail))⟩
     show z.fu + 1 = ((k + 1 : Nat) : Int); omega
   · cases hu; exact absurd rfl hq
 · have hst := hst hlt
   rw [hX] at hst
   rw [hst]
   exact .inr ⟨_, z.tick.stk 20 ((msOf h g fr inp out k).place m), lv, left, rfl, rfl, rfl, rfl, hdn, (hS.subP (by (repeat constructor); first | done | fail))⟩
end Go.Proofs.YteflkifmgnpbhaaGreat
namespace Go.Proofs.YteflkifmgnpbhaaGreat
open Go.Lir
set_option maxHeartbeats 1000000
attribute [local irreducible] LC.wp Q0 QF QE retQ Q16 LO.wp Qf Calls
set_option linter.unusedSimpArgs false
set_option linter.unusedVariables false
variable {cx : Cx} {w : World} {L : List Res} {p N : Nat} {c : MC} {z : GZ} {fr : List FrmV} {g : FrmV} {h : HpS} {out inp back : List Int} {m : Module}
theorem Qcx {k most : Nat} (hB : Bnd m k (msOf h g fr inp out k)) (hM : m.fault.1 = 0) (hk : k ≤ most) (hm : most ≤ 20000) : ∃ f b, m.funcs[g.f]? = some f ∧ f.blocks[g.b]? = some b ∧ (∀ x ∈ b.code, QcJ m x) ∧ QcK f b.fin ∧ g.i ≤ 1000 ∧ g.f ≤ 1000000 ∧ g.b ≤ 1000000 ∧ fr.length ≤ 900 ∧ g.vals.length ≤ 800000 ∧ g.regs.length ≤ 800000 ∧ (∀ x ∈ fr, x.vals.length ≤ 900000) ∧ out.length ≤ 2000 := by
 obtain ⟨f, b, hf, hb, h1, h2, h3⟩ := hB.cur
 obtain ⟨q0, q1, q2⟩ := Q3m hM hf hb
 obtain ⟨e1, e2, e3, e4⟩ := Q5n q2
 have hcl := (Q6v q0).2.2.2.2
 have hfl := Q6l hM
 have hbl := (Q3l (Q4T hM hf)).2.2.2.2
 have hgf := (List.getElem?_eq_some_iff.1 hf).1
 have hgb := (List.getElem?_eq_some_iff.1 hb).1
 have hsl := hB.sl
 have hst : (msOf h g fr inp out k).st.length = fr.length := by show (fr.map FrmV.abs).reverse.length = _; simp
 have h1 : g.i ≤ b.code.length := h1
 have h2 : g.vals.length ≤ 8 + 8 * k := h2
 have h3 : g.regs.length ≤ 16 + k := h3
 have hgf : g.f < m.funcs.length := hgf
 have hgb : g.b < f.blocks.length := hgb
 have hto : ∀ {t : To}, Q1r f.blocks.length t true = 0 → ToOK f t := fun ht => ⟨Q9B ht, by have := Q7W ht; omega, by have := Q7W ht; omega⟩
 refine ⟨f, b, hf, hb, fun x hx => ⟨Q6Z (q1 x hx), insF_k (q1 x hx), by have := Q5c (q1 x hx); omega, by have := Q5c (q1 x hx); omega⟩, ⟨by have := Q7y q2; omega, ⟨e1, e2⟩, fun hq => hto (by rw [decide_eq_true hq] at e3; exact e3), fun hq => hto (by rw [decide_eq_true hq] at e4; exact e4)⟩, by omega, by omega, by omega, by omega, by omega, by omega, ?_, hB.out⟩
 intro x hx
 obtain ⟨f9, b9, _, _, _, h9, _⟩ := hB.st x.abs (by show x.abs ∈ (fr.map FrmV.abs).reverse; rw [List.mem_reverse]; exact List.mem_map_of_mem hx)
 have h9 : x.vals.length ≤ 8 + 8 * k := h9
 omega
theorem pstep_c {most : Nat} {s : MS} (hP : PR m most c fr g N h inp out back (.on s)) (hM : m.fault.1 = 0) (hmo : most ≤ 20000) (hfn : funcR.sl cx c.fn m.funcs) (hi : intR.sl cx c.iv inp) (hS : St cx w (mS p c fr g N h out (sl 2 1 c.bv (Q8 back) :: L))) :
 Rets Tryz.prog Q1P [.pointer (some ⟨p, 0, none⟩)] w fun u w' =>
  (∀ f, Run.step m most (.on s) ≠ .stuck f) ∧ (u = fltV (0, 0) ∧ ∃ c' fr' g' N' h' inp' out' back', PR m most c' fr' g' N' h' inp' out' back' (Run.step m most (.on s)) ∧ c'.fn = c.fn ∧ intR.sl cx c'.iv inp' ∧ msr c' < msr c ∧ St cx w' (mS p c' fr' g' N' h' out' (sl 2 1 c'.bv (Q8 back') :: L))) ∨
  ∃ (f : Int) (c' : MC), Run.step m most (.on s) = .stuck (20, f) ∧ u = fltV (20, f) ∧ c'.c = 20 ∧ c'.a = f ∧ St cx w' (blk p 55 c'.cells :: L) := by
 have hP' := hP
 obtain ⟨hms, rfl, hdn, hc0, he0, hfu, hkm, hmo2, hN, hB⟩ := hP
 rw [hms] at hB
 obtain ⟨f, b, hf, hb, k1, k2, k3, k4, k5, k6, k7, k8, k9, k10⟩ := Qcx hB hM hkm hmo
 exact (step_c (m := m) (f := f) (b := b) (inp := inp) (fu := s.fuel + 1) hdn hc0 hfn hi hf hb k1 k2 k4 k5 k3 k6 k7 k8 k9 (by omega) k10 ⟨by omega, by omega⟩ hS).mono fun u w' hs => hP'.step hM hi hs
theorem Qci {most : Nat} {s : MS} (hP : DR m most z fr g N h inp out back (.on s)) (hM : m.fault.1 = 0) (hIn : m.InR) (hmo : most ≤ 20000) (hfn : funcR.sl cx z.fn m.funcs) (hi : intR.sl cx z.iv inp) (hS : St cx w (gX p z fr g N h out (sl 2 1 z.bv (Q8 back) :: L))) :
 Rets Tryz.prog Q5D [.pointer (some ⟨p, 0, none⟩)] w fun u w' =>
  (u = fltV (0, 0) ∧ ∃ z' fr' g' N' h' inp' out' back', DR m most z' fr' g' N' h' inp' out' back' (Run.step m most (.on s)) ∧ z'.fn = z.fn ∧ intR.sl cx z'.iv inp' ∧ St cx w' (gX p z' fr' g' N' h' out' (sl 2 1 z'.bv (Q8 back') :: L))) ∨
  ∃ (f : Int) (z' : GZ) (lv : Value) (left : Int), Run.step m most (.on s) = .stuck (20, f) ∧ u = fltV (20, f) ∧ z'.c = 20 ∧ z'.a = f ∧ z'.dn = false ∧ St cx w' (gBlk z' p lv left :: L) := by
 have hP' := hP
 obtain ⟨hms, rfl, hdn, ⟨hc0, ha0⟩, he0, hfu, hkm, hmo2, hN, hB, hR⟩ := hP
 rw [hms] at hB
 have hRg : ∀ v ∈ g.vals, inI v.n := by rw [hms] at hR; exact hR.g
 obtain ⟨f, b, hf, hb, k1, k2, k3, k4, k5, k6, k7, k8, k9, k10⟩ := Qcx hB hM hkm hmo
 exact (gstep_c (m := m) (f := f) (b := b) (inp := inp) (fu := s.fuel) (most := most) hfn hi hf hb k1 k2 k3 k4 k5 k6 k7 k8 k9 (by omega) k10 hRg hdn hc0 ha0 hfu hmo2 (by omega) hS).mono fun u w' hs => hP'.step hM hIn hi hs
end Go.Proofs.YteflkifmgnpbhaaGreat
namespace Go.Proofs.YteflkifmgnpbhaaGreat
open Go.Lir
set_option maxHeartbeats 1000000
attribute [local irreducible] LC.wp Q0 QF QE retQ Q16 LO.wp Qf Calls
set_option linter.unusedSimpArgs false
set_option linter.unusedVariables false
variable {cx : Cx} {w : World} {L : List Res} {p N : Nat} {c : MC} {z : GZ} {fr : List FrmV} {g : FrmV} {h : HpS} {out inp back : List Int} {m : Module}
def Q5t (inp : List Int) (fuel pages : Int) : Flt := if 200 < inp.length ∨ fuel < 0 ∨ 20000 < fuel ∨ pages < 0 ∨ 64 < pages then (1, -1) else (0, 0)
theorem Q9D {fuel pages : Int} (h : m.fault.1 = 0) : Q1Y m inp fuel pages = Q5t inp fuel pages := if_neg (by omega)
theorem Q7Z {v : Value} {fuel pages : Int} (hi : intR.sl cx v inp) (hS : St cx w L) : Rets Tryz.prog Q8v [v, .int .i64 fuel, .int .i64 pages] w fun u w' => u = fltV (Q5t inp fuel pages) ∧ St cx w' L := by
 have hil := hi.len
 all_goals refine lgo tyD Tryz.func15 ?_
 all_goals (refine Zbh ?_; intro p6 w1 hS; refine zn ?_; refine ZaA ?_; refine zL ?_)
 all_goals (first | (refine QG ?_) | (refine QL ?_) | (refine Qc rfl rfl (fun hc => ?_) (fun hc => ?_)))
 all_goals (refine zm ?_; (first | refine zgn ?_ | (refine Zam ?_)))
 all_goals (first | refine zgn ?_ | (refine zgy ?_; (first | (refine Q1c ?_) | (refine Q1l ?_) | (refine QB rfl rfl (fun hc => ?_) (fun hc => ?_)))))
 all_goals (refine Zai ?_; (first | refine zgn ?_ | (refine Zam ?_)))
 all_goals (first | refine zgn ?_ | (refine zgy ?_; (first | (refine QG ?_) | (refine QL ?_) | (refine Qc rfl rfl (fun hc => ?_) (fun hc => ?_)))))
 all_goals (refine Zai ?_; (first | refine zgn ?_ | (refine Zam ?_)))
 all_goals (first | refine zgn ?_ | (refine zgy ?_; (first | (refine Q1c ?_) | (refine Q1l ?_) | (refine QB rfl rfl (fun hc => ?_) (fun hc => ?_)))))
 all_goals (refine Zai ?_; (first | refine zgn ?_ | (refine Zam ?_)))
 all_goals (first | refine zgn ?_ | (refine zgy ?_; (first | (refine QG ?_) | (refine QL ?_) | (refine Qc rfl rfl (fun hc => ?_) (fun hc => ?_)))))
 all_goals (refine Zaf ?_)
 all_goals
  first
  | (refine zct ?_
     all_goals (refine Zaa ?_; refine zR2 (c := rF_c hS) (h := ?_); rintro v1 w1 ⟨rfl, hS⟩; refine zsn hS ?_; intro w1 hS; have hS := hS.ns; refine ZaX ?_; refine Q19 vw (Q4 (n := 2) (by kernel_rfl) (by kernel_rfl) (hS.blkAt fd) (by rfl) (by rfl)) ?_)
     all_goals ((first | exact ⟨_, rfl, (by rw [show Q5t inp fuel pages = (0, 0) from if_neg (by omega)]; rfl), hS.sp⟩ | exact ⟨_, rfl, (by rw [show Q5t inp fuel pages = (1, -1) from if_pos (by omega)]; rfl), hS.sp⟩)))
  | (refine zcf ?_
     all_goals refine zsk ?_)
 all_goals (refine Zaa ?_; refine zb0 [_, _] ?_; refine zsn hS ?_; intro w1 hS; have hS := hS.ns; refine ZaX ?_; refine Q19 vw (Q4 (n := 2) (by kernel_rfl) (by kernel_rfl) (hS.blkAt fd) (by rfl) (by rfl)) ?_; exact ⟨_, rfl, (by rw [show Q5t inp fuel pages = (0, 0) from if_neg (by omega)]; rfl), hS.sp⟩)
theorem outc_own (h1 : back.length ≤ 1000000) (h2 : out.length ≤ 1000000) (hS : St cx w (mS p c fr g N h out (sl 2 1 c.bv (Q8 back) :: L))) : Rets Tryz.prog Q2t [.pointer (some ⟨p, 0, none⟩)] w fun u w' => ∃ v1 v2, u = .agg ⟨[.int .i64 c.e, v1, v2, .int .i64 c.fu]⟩ ∧ St cx w' (mS p c fr g N h out (sl 2 1 c.bv (Q8 back) :: L)) := by
 have hS : St cx w (sl 2 1 c.bv (Q8 back) :: mS p c fr g N h out L) := hS.sp
 obtain ⟨c1, hle1, hS, hb, hbk1⟩ := St.lend (r := intR) (l := back) hS Q1K rfl (by omega)
 have hS : St c1 w (sl 2 1 c.ov (Q8 out) :: mL p c fr g (Q1B N c.hp h :: L)) := hS.sp
 obtain ⟨c2, hle2, hS, ho, hbk2⟩ := St.lend (r := intR) (l := out) hS Q1K rfl (by omega)
 refine (Q65 (c := c) h1 h2 (Rep.SR.up hb hle2) ho hS).mono ?_
 rintro u w' ⟨c3, v1, v2, hle3, rfl, -, -, hS⟩
 have hS : St c1 w' (sl 2 1 c.ov (Q8 out) :: mL p c fr g (Q1B N c.hp h :: L)) := hbk2 (St.weak hS hle3)
 have hS : St c1 w' (mS p c fr g N h out L) := hS.sp
 have hS := hbk1 hS
 exact ⟨v1, v2, rfl, hS.sp⟩
theorem DR.on {most : Nat} {r : Run} (hD : DR m most z fr g N h inp out back r) (hz : z.dn = false) : ∃ s, r = .on s := by
 cases r with
 | on s => exact ⟨s, rfl⟩
 | over s e b => obtain ⟨-, -, -, h4, -⟩ := hD; rw [hz] at h4; cases h4
 | stuck f => exact hD.elim
theorem DR.over {most : Nat} {r : Run} (hD : DR m most z fr g N h inp out back r) (hz : z.dn = true) : r = .over ⟨h, (match r with | .over s _ _ => s.g | _ => ⟨0, 0, 0, [], []⟩), (match r with | .over s _ _ => s.st | _ => []), (match r with | .over s _ _ => s.inp | _ => []), out, (match r with | .over s _ _ => s.fuel | _ => 0)⟩ z.e back := by
 cases r with
 | on s => obtain ⟨-, -, h4, -⟩ := hD; rw [hz] at h4; cases h4
 | over s e b => obtain ⟨rfl, rfl, rfl, -, -, rfl, -⟩ := hD; rfl
 | stuck f => exact hD.elim
theorem PR.same {most : Nat} {r : Run} {N2 : Nat} {fr2 : List FrmV} {g2 : FrmV} {h2 : HpS} {out2 inp2 back2 : List Int} (hP : PR m most c fr g N h inp out back r) (hD : DR m most z fr2 g2 N2 h2 inp2 out2 back2 r) : h2 = h ∧ out2 = out ∧ back2 = back ∧ z.dn = c.dn ∧ z.fu = c.fu ∧ z.e = c.e ∧ out.length ≤ 2000 ∧ back.length ≤ 100000 ∧ N2 ≤ most + 1 := by
 cases r with
 | on s =>
   obtain ⟨a1, a2, a3, a4, a5, a6, a7, a8, a9, a10⟩ := hP
   obtain ⟨b1, b2, b3, b4, b5, b6, b7, b8, b9, b10, b11⟩ := hD
   have e1 : s.h = h := by rw [a1]; rfl
   have e2 : s.h = h2 := by rw [b1]; rfl
   have e3 : s.out = out := by rw [a1]; rfl
   have e4 : s.out = out2 := by rw [b1]; rfl
   refine ⟨by rw [← e1, ← e2], by rw [← e3, ← e4], by rw [a2, b2], by rw [a3, b3], by rw [a6, b6], by rw [a5, b5], by rw [← e3]; exact a10.out, by rw [a2]; exact Nat.zero_le _, by omega⟩
 | over s e b =>
   obtain ⟨a1, a2, a3, a4, a5, a6, a7, a8⟩ := hP
   obtain ⟨b1, b2, b3, b4, b5, b6, b7, b8, b9, b10⟩ := hD
   exact ⟨by rw [a1, b1], by rw [a2, b2], by rw [a3, b3], by rw [a4, b4], by rw [a6, b7], by rw [a5, b6], a7, a8, b8⟩
 | stuck f => exact hP.elim
theorem PR.first {fuel pages : Int} {hp fn lv iv : Value} (hM : m.fault.1 = 0) (h0 : 0 ≤ fuel) : PR m fuel.toNat (newC hp fn lv iv fuel) [] newG 0 ⟨[], pages⟩ inp [] [] (.on (MS.start inp pages)) :=
 ⟨rfl, rfl, rfl, rfl, rfl, rfl, Nat.zero_le _, (Int.toNat_of_nonneg h0).symm, Nat.zero_le _, Bnd.start hM inp pages⟩
theorem DR.first {fuel pages : Int} {fn fv iv : Value} (hM : m.fault.1 = 0) (h0 : 0 ≤ fuel) (hin : ∀ n ∈ inp, inI n) : DR m fuel.toNat (newZ fn fv iv fuel) [] newG 0 ⟨[], pages⟩ inp [] [] (.on (MS.start inp pages)) :=
 ⟨rfl, rfl, rfl, ⟨rfl, rfl⟩, rfl, rfl, Nat.zero_le _, (Int.toNat_of_nonneg h0).symm, Nat.zero_le _, Bnd.start hM inp pages, Rg.start hin⟩
theorem RA.on {a : Run} {most : Nat} {s : MS} (hA : RA m most a (.on s)) (hP : PR m most c fr g N h inp out back (.on s)) : RA m most a (Run.step m most (.on s)) := by
 obtain ⟨a1, a2, a3, a4, a5, a6, a7, a8, a9, a10⟩ := hP
 by_cases hk : s.fuel = most
 · rw [show Run.step m most (.on s) = .over s 7 [] from if_pos hk]; exact RA.seven hA hk
 · rw [show Run.step m most (.on s) = .of m s (s.tick.one m) from if_neg hk]
   exact RA.more hA (by omega) rfl fun s' hs => one_fuel hs
end Go.Proofs.YteflkifmgnpbhaaGreat
namespace Go.Proofs.YteflkifmgnpbhaaGreat
open Go.Lir
variable {N : Nat} {z : GZ} {fr : List FrmV} {g : FrmV} {h : HpS} {out inp back : List Int} {m : Module}
theorem DR.fin {most : Nat} {r a : Run} (hD : DR m most z fr g N h inp out back r) (hA : RA m most a r) (hz : z.dn = true) : a.flt = (0, 0) ∧ a.oc = ⟨z.e, back, out, z.fu⟩ ∧ z.c = 0 ∧ z.a = 0 := by
 cases r with
 | on s => obtain ⟨-, -, h4, -⟩ := hD; rw [hz] at h4; cases h4
 | over s e b =>
   obtain ⟨b1, b2, b3, b4, ⟨b5, b9⟩, b6, b7, -⟩ := hD
   have hA : a = .over s e b := hA
   refine ⟨by rw [hA]; rfl, by rw [hA, b2, b3, b6, b7]; rfl, b5, b9⟩
 | stuck f => exact hD.elim
theorem RA.stuck {most : Nat} {r a : Run} {f : Flt} (hA : RA m most a r) (hr : r = .stuck f) : a.flt = f ∧ a.oc = ⟨0, [], [], 0⟩ := by
 subst hr
 have hA : a = .stuck f := hA
 exact ⟨by rw [hA]; rfl, by rw [hA]; rfl⟩
end Go.Proofs.YteflkifmgnpbhaaGreat
namespace Go.Proofs.YteflkifmgnpbhaaGreat
open Go.Lir
set_option maxHeartbeats 1000000
attribute [local irreducible] LC.wp Q0 QF QE retQ Q16 LO.wp Qf Calls
set_option linter.unusedSimpArgs false
set_option linter.unusedVariables false
variable {cx : Cx} {w : World} {L : List Res} {m : Module} {inp : List Int}
theorem RunS.form3 {fuel pages : Int} {u : Value} (h0 : Q1Y m inp fuel pages = (0, 0)) (hs : RunS m inp fuel pages cx L u w) : ∃ c' a1 a2 y1 y2, cx.Le c' ∧ u = .tuple #[.agg ⟨[.int .i64 (Run.all m inp fuel.toNat pages).oc.e, .slice a1 (Run.all m inp fuel.toNat pages).oc.back.length y1, .slice a2 (Run.all m inp fuel.toNat pages).oc.out.length y2, .int .i64 (Run.all m inp fuel.toNat pages).oc.fuel]⟩, fltV (Run.all m inp fuel.toNat pages).flt] ∧ intR.sl c' (.slice a1 (Run.all m inp fuel.toNat pages).oc.back.length y1) (Run.all m inp fuel.toNat pages).oc.back ∧ intR.sl c' (.slice a2 (Run.all m inp fuel.toNat pages).oc.out.length y2) (Run.all m inp fuel.toNat pages).oc.out ∧ St c' w L := by
 rcases hs with ⟨h1, rfl, hS⟩ | ⟨h1, c', v1, v2, hle, rfl, k1, k2, hS⟩
 · rw [h0] at h1; exact absurd rfl h1
 · obtain ⟨a1, y1, rfl⟩ := Rep.SR.shape k1
   obtain ⟨a2, y2, rfl⟩ := Rep.SR.shape k2
   exact ⟨c', a1, a2, y1, y2, hle, rfl, k1, k2, hS⟩
@[reducible] def mBlk (p : Nat) (v : Value) : Res := blk p 24 [v]
attribute [local irreducible] PR DR RA Q1Y Q5t Run.all Run.oc Run.flt
theorem Q9c {cs : List Value} {v : Value} {fuel pages : Int} (hx : modR.at cx cs m) (hIn : m.InR) (hi : intR.sl cx v inp) (hin : ∀ n ∈ inp, inI n) (hS : St cx w L) : Rets Tryz.prog Q51 [.agg ⟨cs⟩, v, .int .i64 fuel, .int .i64 pages] w fun u w' => u = .bool true ∧ St cx w' L := by
 have hx' := hx
 obtain ⟨vf, rfl, hf⟩ := Q1k hx
 obtain ⟨af, nf, rfl⟩ := Rep.SR.shape hf
 all_goals refine lgo tyD Tryz.func4 ?_
 all_goals (refine Zaz ?_; intro p4 w1 hS; refine ZaT ?_; refine zR0 (c := Q8d hS) (h := ?_); rintro v1 w1 ⟨rfl, hS⟩; refine Zba ?_)
 all_goals
  first
  | (refine zct ?_
     all_goals (refine Zaq ?_)
     all_goals (exact ⟨_, rfl, rfl, St.weak hS.sp (hle1.trans (hle2.trans (hle3.trans (hle4.trans (hle5.trans (hle6.trans (hle7.trans hle8)))))))⟩))
  | (refine zcf ?_
     all_goals refine zsk ?_)
 refine zM [1, 2, 3, 4] (fun A ρ' w' => Has ρ' A ∧ Has ρ' [] ∧ (m.Short) ∧ (fuel ≤ 3000 ∨ 20000 < fuel) ∧ St cx w' (mBlk p4 (.slice af m.funcs.length nf) :: L)) ?_ ?_
 · skip
   all_goals (refine Zaa ?_; refine zv hS ?_)
   all_goals (refine zR1 (c := QaC hx' hS) (h := ?_); rintro v1 w1 ⟨gb, rfl, hgs, hS⟩; cases gb)
   all_goals (refine zm ?_; (first | refine zgn ?_ | (refine zgy ?_; refine zv hS ?_)); (first | refine zgn ?_ | (refine Zam ?_)))
   all_goals ((first | (refine zgn ?_) | (refine zgy ?_; refine zR2 (c := long_c hx' hS) (h := ?_); rintro v1 w1 ⟨lb, rfl, hb, hS⟩; cases lb)))
   all_goals ((first | refine zgn ?_ | (refine Zam ?_)); (first | refine zgn ?_ | (refine Zam ?_)))
   all_goals (first | refine zgn ?_ | (refine zgy ?_; (first | (refine zleqt ?_) | (refine zleqf ?_) | (refine Qbv rfl rfl (fun hc => ?_) (fun hc => ?_)))))
   all_goals ((first | refine zgn ?_ | (refine ZaB ?_)); refine Zaf ?_)
   all_goals
    first
    | (refine zct ?_
       all_goals (refine Zaq ?_)
       all_goals ((first | exact ⟨_, rfl, rfl, St.weak hS.sp (hle1.trans (hle2.trans (hle3.trans (hle4.trans (hle5.trans (hle6.trans (hle7.trans hle8)))))))⟩ | exact ⟨_, rfl, rfl, St.weak hS.sp (hle1.trans (hle2.trans hle3))⟩ | exact ⟨_, rfl, rfl, St.weak hS.sp hle1⟩ | exact ⟨_, rfl, rfl, hS.sp⟩)))
    | (refine zcf ?_
       all_goals refine zsk ?_)
   all_goals (exact ⟨zh, zh, hgs rfl, (by first | exact .inl (hb rfl).2 | exact .inr (by omega)), hS.sp⟩)
 rintro ρ w1 ⟨hA, hρ, hsh, hfu, hS⟩; obtain ⟨ρ, rfl⟩ := env2 hA hρ
 all_goals (refine Zaa ?_; refine zv hS ?_; refine zR1 (c := QbM hsh hx' hS) (h := ?_); rintro v1 w1 ⟨c1, ds, rfl, hle1, hx1, hS⟩; have hx1' := hx1; obtain ⟨vo, rfl, hfo⟩ := Q1k hx1; obtain ⟨ao, no, rfl⟩ := Rep.SR.shape hfo; have hxa := Rep.R.up hx' hle1; have hia := Rep.SR.up hi hle1; refine Qg hS ?_; intro p9 w1 hS; refine zsn hS ?_; intro w1 hS; have hS := hS.ns; refine ZaS ?_; refine zv hS ?_; refine ZaO ?_; refine zm ?_)
 all_goals (refine zR4 (c := new_c hsh hx1' hia hS) (h := ?_); rintro v1 w1 hN; rcases hN with ⟨hz, rfl, hS⟩ | ⟨hs0, hM, hil, hf0, hf1, hp0, hp1, c2, p, hp, fn, lv, iv, rfl, hle2, hfn, hin9, hS⟩)
 all_goals (unfold fltV; dsimp only; refine ZbE ?_; intro p11 w1 hS; refine zm ?_; refine zsn hS ?_; intro w1 hS; have hS := hS.ns; refine ZaS ?_; refine zv hS ?_; (first | (refine zR1 (c := Q9R hsh (Rep.R.up hxa hle2) hS) (h := ?_); rintro v1 w1 ⟨rfl, hS⟩; unfold fltV) | (refine zR1 (c := Q9R hsh hxa hS) (h := ?_); rintro v1 w1 ⟨rfl, hS⟩; unfold fltV)); refine Qg hS ?_; intro p12 w1 hS; refine zsn hS ?_; intro w1 hS; have hS := hS.ns; refine ZbT ?_; refine zf0 ?_; refine zl hS ?_)
 all_goals (first | (refine Qd ?_) | (refine Qh ?_) | (refine Q6 rfl rfl (fun hc => ?_) (fun hc => ?_)))
 all_goals (refine zn ?_)
 all_goals
  first
  | (refine zct ?_
     all_goals (refine ZbN ?_; (first | (refine zR3 (c := Q7Z (Rep.SR.up hia hle2) hS) (h := ?_); rintro v1 w1 ⟨rfl, hS⟩; unfold fltV) | (refine zR3 (c := Q7Z hia hS) (h := ?_); rintro v1 w1 ⟨rfl, hS⟩; unfold fltV)); refine zsn hS ?_; intro w1 hS; have hS := hS.ns)
     all_goals refine zn ?_)
  | (refine zcf ?_
     all_goals refine zsk ?_)
 all_goals (refine Zbv ?_; (first | (have e9 := Q1W (m := m) (inp := inp) (fuel := fuel) (pages := pages) (by omega); rw [e9] at hS hz) | (have e9 := Q9D (m := m) (inp := inp) (fuel := fuel) (pages := pages) (by omega); rw [e9] at hS hz) | (have e9 := Q9D (inp := inp) (fuel := fuel) (pages := pages) hM; rw [hs0] at e9; rw [← e9] at hS; dsimp only at hS)); refine Qn ?_; refine zv hS ?_; refine zv hS ?_; (first | refine Q3c (a := m.fault) Q23 rfl rfl ?_ | refine Q3c (a := Q5t inp fuel pages) Q23 rfl rfl ?_ | refine Q3c (a := (0, 0)) Q23 rfl rfl ?_); refine zm ?_; (first | refine zgn ?_ | (refine zgy ?_; refine zf0 ?_)); (first | refine zgn ?_ | (refine zgy ?_; refine zl hS ?_)))
 all_goals (first | refine zgn ?_ | (refine ZaL ?_))
 all_goals (refine Zaf ?_)
 all_goals
  first
  | (refine zct ?_
     all_goals (refine Zaa ?_; refine zv hS ?_; refine zv hS ?_; (first | refine Q8S (a := m.fault) Q23 rfl rfl ?_ | refine Q8S (a := Q5t inp fuel pages) Q23 rfl rfl ?_); refine Zah ?_)
     all_goals ((first | exact ⟨_, rfl, rfl, St.weak hS.sp (hle1.trans (hle2.trans (hle3.trans (hle4.trans (hle5.trans (hle6.trans (hle7.trans hle8)))))))⟩ | exact ⟨_, rfl, rfl, St.weak hS.sp (hle1.trans (hle2.trans hle3))⟩ | exact ⟨_, rfl, rfl, St.weak hS.sp hle1⟩)))
  | (refine zcf ?_
     all_goals refine zsk ?_)
 all_goals (refine Zaa ?_; refine zv hS ?_; refine ZaO ?_; refine zm ?_; refine zR4 (c := gstart_c ⟨hp0, by omega⟩ (Rep.SR.up hia hle2) hS) (h := ?_); rintro v1 w1 ⟨q, fv, rfl, hS⟩; have hPf := PR.first (inp := inp) (pages := pages) (hp := hp) (fn := fn) (lv := lv) (iv := iv) hM hf0; have hDf := DR.first (inp := inp) (pages := pages) (fn := .slice af m.funcs.length nf) (fv := fv) (iv := v) hM hf0 hin; have hfa := Rep.SR.up (Rep.SR.up hf hle1) hle2; refine Zan ?_; refine Q2w ?_)
 refine zo [1, 2, 3, 4, 9, 10, 13] (fun A ρ' w' => ∃ (r : Run) (c : MC) (fr : List FrmV) (g : FrmV) (N : Nat) (h : HpS) (inp1 out back : List Int) (z : GZ) (fr2 : List FrmV) (g2 : FrmV) (N2 : Nat) (inp2 : List Int), Has ρ' A ∧ Has ρ' [] ∧ (RA m fuel.toNat (Run.all m inp fuel.toNat pages) r) ∧ (PR m fuel.toNat c fr g N h inp1 out back r) ∧ (DR m fuel.toNat z fr2 g2 N2 h inp2 out back r) ∧ (funcR.sl c2 c.fn m.funcs) ∧ (intR.sl c2 c.iv inp1) ∧ (funcR.sl c2 z.fn m.funcs) ∧ (intR.sl c2 z.iv inp2) ∧ St c2 w' (mS p c fr g N h out (sl 2 1 c.bv (Q8 back) :: gX q z fr2 g2 N2 h out (sl 2 1 z.bv (Q8 back) :: mBlk p9 (.slice ao m.funcs.length no) :: mBlk p4 (.slice af m.funcs.length nf) :: L)))) (fun _ w' => msrW w' p) ?_ ?_
 · exact ⟨.on (MS.start inp pages), newC hp fn lv iv fuel, [], newG, 0, ⟨[], pages⟩, inp, [], [], newZ (.slice af m.funcs.length nf) fv v fuel, [], newG, 0, inp, zh, zh, RA.first, hPf, hDf, hfn, hin9, hfa, (Rep.SR.up hia hle2), by have hS := hS.nil (T := 2) (es := 1); have hS := hS.nil (T := 2) (es := 1); exact hS.sp⟩
 rintro ρ w1 ⟨r, c, fr, g, N, h, inp1, out, back, z, fr2, g2, N2, inp2, hA, hρ, hRA, hP, hD, hfn1, hin1, hfn2, hin2, hS⟩; obtain ⟨ρ, rfl⟩ := env2 hA hρ; have hm0 := Qa0 hS
 all_goals (refine Zbv ?_; obtain ⟨lv1, rv1, ho1, hS⟩ := Q1F (p := q) (z := z) (fr := fr2) (g := g2) (N := N2) (h := h) (out := out) (L := mS p c fr g N h out (sl 2 1 c.bv (Q8 back) :: sl 2 1 z.bv (Q8 back) :: mBlk p9 (.slice ao m.funcs.length no) :: mBlk p4 (.slice af m.funcs.length nf) :: L)) hS.sp; refine Zak ?_; refine znc ?_; refine zf0 ?_)
 all_goals (refine zl hS ?_; cases hdn : z.dn)
 all_goals (refine Zba ?_)
 all_goals
  first
  | (refine zct ?_
     all_goals (refine zsk ?_; refine Q2w ?_; refine Zad ?_)
     all_goals (obtain ⟨s, rfl⟩ := hD.on hdn; have hS1 : St c2 _ (gX q z fr2 g2 N2 h out (mS p c fr g N h out (sl 2 1 c.bv (Q8 back) :: sl 2 1 z.bv (Q8 back) :: mBlk p9 (.slice ao m.funcs.length no) :: mBlk p4 (.slice af m.funcs.length nf) :: L))) := QK ho1 hS; have hS := hS1; have hS : St c2 _ (mS p c fr g N h out (sl 2 1 c.bv (Q8 back) :: gX q z fr2 g2 N2 h out (sl 2 1 z.bv (Q8 back) :: mBlk p9 (.slice ao m.funcs.length no) :: mBlk p4 (.slice af m.funcs.length nf) :: L))) := hS.sp; refine zR1 (c := pstep_c hP hM (by omega) hfn1 hin1 hS) (h := ?_); rintro v1 w1 (⟨hns, rfl, c', fr', g', N', h', inp', out', back', hP', hfn', hin', hlt, hS⟩ | ⟨f9, c9, hr9, rfl, hc9, ha9, hS⟩))
     all_goals (refine zm ?_)
     all_goals (have hRA' := RA.on hRA hP; (first | refine zR1 (c := Qci (L := mS p c' fr' g' N' h' out' (sl 2 1 c'.bv (Q8 back') :: mBlk p9 (.slice ao m.funcs.length no) :: mBlk p4 (.slice af m.funcs.length nf) :: L)) hD hM hIn (by omega) hfn2 hin2 hS.sp) (h := ?_) | refine zR1 (c := Qci (L := blk p 55 c9.cells :: mBlk p9 (.slice ao m.funcs.length no) :: mBlk p4 (.slice af m.funcs.length nf) :: L) hD hM hIn (by omega) hfn2 hin2 hS.sp) (h := ?_)); rintro v1 w1 (⟨rfl, z', fr3, g3, N3, h3, inp3, out3, back3, hD', hfn3, hin3, hS⟩ | ⟨f8, z8, lv8, left8, hr8, rfl, hz1, hz2, hz3, hS⟩) <;> first | (exact absurd hr8 (hns _)) | (exfalso; rw [hr9] at hD'; unfold DR at hD'; exact hD') | (obtain ⟨e1, e2, e3, hdd, hff, hee, hol, hbl, hN3⟩ := PR.same hP' hD'; obtain rfl := e1.symm; obtain rfl := e2.symm; obtain rfl := e3.symm) | (have e8 : f8 = f9 := (by have h5 := hr9.symm.trans hr8; simp only [Run.stuck.injEq, Prod.mk.injEq] at h5; exact h5.2.symm); rw [e8] at hz2; rw [e8]))
     all_goals (unfold fltV; dsimp only; refine Qg hS ?_; intro p14 w1 hS; refine Qg hS ?_; intro p15 w1 hS; refine zsn hS ?_; intro w1 hS; have hS := hS.ns; refine zsn hS ?_; intro w1 hS; have hS := hS.ns; refine ZbT ?_; refine zv hS ?_; refine zv hS ?_; (first | refine Q3c (a := (0, 0)) Q23 rfl rfl ?_ | refine Q3c (a := (20, f9)) Q23 rfl rfl ?_); refine zn ?_)
     all_goals
      first
      | (refine zct ?_
         all_goals (refine Zaq ?_)
         all_goals (exact ⟨_, rfl, rfl, St.weak hS.sp (hle1.trans (hle2.trans (hle3.trans (hle4.trans (hle5.trans (hle6.trans (hle7.trans hle8)))))))⟩))
      | (refine zcf ?_
         all_goals refine zsk ?_)
     all_goals (refine Zav ?_; refine zf0 ?_; refine zl hS ?_)
     all_goals (first | (refine QC ?_) | (refine QJ ?_))
     all_goals (refine zn ?_)
     all_goals
      first
      | (refine zct ?_
         all_goals (refine Zbv ?_; obtain ⟨hfl, hoc⟩ := RA.stuck hRA' hr9; refine zC [(0, none), (2, none), (1, some (some [2])), (3, some none)] ?_; have hS := hS.drew; refine ZaF ?_; refine zv hS ?_; refine Zar ?_; refine zR1 (c := Qah (c := c9) (.inr (by omega)) (show St c2 _ (blk p 55 c9.cells :: _) from hS.sp)) (h := ?_); rintro v1 w1 ⟨rfl, hS⟩; unfold fltV; dsimp only; rw [hc9, ha9]; refine ZaK ?_; refine Q3c (a := (20, f9)) Q23 rfl rfl ?_; refine Zaw ?_)
         all_goals
          first
          | (refine zct ?_
             all_goals (refine Zaq ?_)
             all_goals (exact ⟨_, rfl, rfl, St.weak hS.sp (hle1.trans (hle2.trans (hle3.trans (hle4.trans (hle5.trans (hle6.trans (hle7.trans hle8)))))))⟩))
          | (refine zcf ?_
             all_goals refine zsk ?_)
         all_goals (refine zex ?_; refine Zaa ?_; refine zv hS ?_; refine ZaO ?_; refine zm ?_; refine zR4 (c := run_c hsh (Rep.R.up hx1' hle2) (Rep.SR.up hia hle2) hS) (h := ?_); rintro v1 w1 hr; obtain ⟨c3, a1, a2, y1, y2, hle3, rfl, k1, k2, hS⟩ := RunS.form3 hs0 hr; rw [hoc] at k1 k2; rw [hoc, hfl]; unfold fltV; dsimp only at k1 k2 ⊢; refine ZbE ?_; intro p16 w1 hS; refine Qg hS ?_; intro p17 w1 hS; refine zsn hS ?_; intro w1 hS; have hS := hS.ns; refine zsn hS ?_; intro w1 hS; have hS := hS.ns; refine ZaZ ?_; refine Qb ?_; refine zD (ci 12 [9, 11]) ?_; have hS := hS.drew; refine zv hS ?_; refine Zbe ?_; refine zf0 ?_; refine zv hS ?_; (first | rw [hzc, hza] | rw [hz1, hz2]); (first | refine Q3c (a := (0, 0)) Q23 rfl rfl ?_ | refine Q3c (a := (20, f9)) Q23 rfl rfl ?_); refine zm ?_; (first | refine zgn ?_ | (refine zgy ?_; refine zv hS ?_)))
         all_goals ((first | refine zgn ?_ | (refine zgy ?_; refine zv hS ?_)); (first | (refine zgn ?_) | (refine zgy ?_; refine zR2 (c := Q6U (x := m) (y := m) (Rep.R.up (Rep.R.up hx1' hle2) hle3) (Rep.R.up (Rep.R.up hxa hle2) hle3) hS) (h := ?_); rintro v1 w1 ⟨rfl, hS⟩; rw [decide_eq_true (rfl : m = m)])); (first | refine zgn ?_ | (refine ZaP ?_)); refine Zaf ?_)
         all_goals
          first
          | (refine zct ?_
             all_goals (refine Zaq ?_)
             all_goals (exact ⟨_, rfl, rfl, St.weak hS.sp (hle1.trans (hle2.trans (hle3.trans (hle4.trans (hle5.trans (hle6.trans (hle7.trans hle8)))))))⟩))
          | (refine zcf ?_
             all_goals refine zsk ?_)
         all_goals (refine Zav ?_; refine zf0 ?_; refine zl hS ?_)
         all_goals (refine QC ?_)
         all_goals (refine zn ?_)
         all_goals
          first
          | (refine zct ?_
             all_goals (refine Zaa ?_; refine zv hS ?_; refine zb0 [_, _, _, _] ?_; refine zR2 (c := Q33 k1 k2 (Rep.SR.nil _ _ _) (Rep.SR.nil _ _ _) hS) (h := ?_); rintro v1 w1 ⟨rfl, hS⟩; rw [decide_eq_true ⟨rfl, rfl, rfl, rfl⟩]; refine Zah ?_)
             all_goals ((first | exact ⟨_, rfl, rfl, St.weak hS.sp (hle1.trans (hle2.trans (hle3.trans (hle4.trans (hle5.trans (hle6.trans (hle7.trans hle8)))))))⟩ | exact ⟨_, rfl, rfl, St.weak hS.sp (hle1.trans (hle2.trans hle3))⟩)))
         all_goals (refine Qb ?_; obtain ⟨-, -, -, -, hff, hee, hol, hbl, -⟩ := PR.same hP hD; obtain ⟨c4, hle4, hS, q1⟩ := St.freezeL (r := intR) (l := back) (hS.out (r := sl 2 1 z.bv (Q8 back)) fd) Q1K rfl (by omega); simp only [List.eraseIdx_cons_zero, List.eraseIdx_cons_succ] at hS; obtain ⟨c5, hle5, hS, q2⟩ := St.freezeL (r := intR) (l := out) (hS.out (r := sl 2 1 z.ov (Q8 out)) fd) Q1K rfl (by omega); simp only [List.eraseIdx_cons_zero, List.eraseIdx_cons_succ] at hS; obtain ⟨c6, hle6, hS, q3⟩ := St.freezeL (r := intR) (l := back) (hS.out (r := sl 2 1 c.bv (Q8 back)) fd) Q1K rfl (by omega); simp only [List.eraseIdx_cons_zero, List.eraseIdx_cons_succ] at hS; obtain ⟨c7, hle7, hS, q4⟩ := St.freezeL (r := intR) (l := out) (hS.out (r := sl 2 1 c.ov (Q8 out)) fd) Q1K rfl (by omega); simp only [List.eraseIdx_cons_zero, List.eraseIdx_cons_succ] at hS; have k1 := Rep.SR.up (Rep.SR.up (Rep.SR.up (Rep.SR.up k1 hle4) hle5) hle6) hle7; have k2 := Rep.SR.up (Rep.SR.up (Rep.SR.up (Rep.SR.up k2 hle4) hle5) hle6) hle7; have q1 := Rep.SR.up (Rep.SR.up (Rep.SR.up q1 hle5) hle6) hle7; have q2 := Rep.SR.up (Rep.SR.up q2 hle6) hle7; have q3 := Rep.SR.up q3 hle7; refine zC [(0, none), (1, none), (2, none), (3, none), (4, none), (5, some none), (6, none), (7, none), (9, none), (10, none), (11, none), (12, none), (8, some (some [12])), (13, some none), (14, none), (15, some none)] ?_; have hS := hS.drew; refine s_cq ?_; refine zv hS ?_; refine Zat ?_; refine ZaN ?_; refine zf0 ?_)
         all_goals (refine Zab ?_; refine zv hS ?_; refine Zax ?_; refine zR2 (c := Q33 k1 k2 q1 q2 hS) (h := ?_); rintro v1 w1 ⟨rfl, hS⟩; rw [decide_eq_true ⟨rfl, rfl, rfl, rfl⟩]; refine Zat ?_; refine zgn ?_; refine Zab ?_; refine zgn ?_; refine Zab ?_; refine zgn ?_; refine Zab ?_; refine zgn ?_; refine Zab ?_; refine zgn ?_; refine Zar ?_; refine zgn ?_; refine ZaK ?_; refine zgn ?_; refine Zab ?_)
         all_goals (refine zpt ?_; refine ZbD ?_; refine zr ?_; refine zf ?_)
         all_goals (exact ⟨_, rfl, rfl, St.weak hS.sp (hle1.trans (hle2.trans (hle3.trans (hle4.trans (hle5.trans (hle6.trans (hle7.trans hle8)))))))⟩))
      | (refine zcf ?_
         all_goals (refine zsk ?_; refine Qb ?_; obtain ⟨lv2, rv2, ho2, hS⟩ := Q1F (p := q) (z := z') (fr := fr3) (g := g3) (N := N3) (h := h') (out := out') (L := mS p c' fr' g' N' h' out' (sl 2 1 c'.bv (Q8 back') :: sl 2 1 z'.bv (Q8 back') :: mBlk p9 (.slice ao m.funcs.length no) :: mBlk p4 (.slice af m.funcs.length nf) :: L)) hS.sp; refine zC [(0, none), (2, none), (3, none), (4, none), (5, none), (1, some (some [5])), (6, none), (7, none), (8, none), (9, none), (10, none), (11, none), (13, none), (14, none), (15, none), (16, none), (17, none), (12, some (some [17])), (18, none), (19, none), (20, none), (21, none), (22, none), (23, none), (24, none), (26, none), (27, none), (28, none), (25, some (some [])), (29, some none), (30, none), (31, none), (32, none), (33, none), (36, none), (37, none), (38, none), (39, none), (40, none), (34, some (some [40])), (35, none), (41, none), (42, some none)] ?_; have hS := hS.drew; refine ZbV ?_; refine zf0 ?_; refine Zab ?_; refine zl hS ?_; refine Zar ?_; refine zR1 (c := done_c (c := c') (show St c2 _ (blk p 55 c'.cells :: _) from hS.sp)) (h := ?_); rintro v1 w1 ⟨rfl, hS⟩; rw [← hdd]; refine ZaI ?_)
         all_goals (refine Q8T (by kernel_rfl) rfl rfl rfl ?_; refine Zat ?_; (first | refine zgn ?_ | (refine Zam ?_)); refine Zab ?_; (first | refine zgn ?_ | (refine ZaQ ?_)); refine Zab ?_; (first | refine zgn ?_ | (refine zgy ?_; refine zf0 ?_)); refine Zab ?_; (first | refine zgn ?_ | (refine zgy ?_; refine zl hS ?_)); refine Zab ?_; (first | refine zgn ?_ | (refine Zam ?_)); refine Zab ?_; (first | refine zgn ?_ | (refine ZaQ ?_)); refine Zab ?_; (first | refine zgn ?_ | (refine zgy ?_; refine zf0 ?_)); refine Zab ?_; (first | refine zgn ?_ | (refine Zaj ?_)); refine Zab ?_; (first | refine zgn ?_ | (refine zgy ?_; refine zl hS ?_)); refine Zar ?_; (first | (refine zgn ?_) | (refine zgy ?_; refine zR1 (c := hpages_c (N := N') (s := h') (h := c'.hp) hS fd) (h := ?_); rintro v1 w1 ⟨rfl, hS⟩)); refine ZaI ?_)
         all_goals (first | refine zgn ?_ | (refine ZaL ?_))
         all_goals (refine Zab ?_; (first | (refine zpt ?_) | (refine zpf ?_)); refine Zat ?_; (first | refine zgn ?_ | (refine Zam ?_)); refine Zab ?_; (first | refine zgn ?_ | (refine ZaQ ?_)); refine Zab ?_; (first | refine zgn ?_ | (refine zgy ?_; refine zf0 ?_)); refine Zab ?_; (first | refine zgn ?_ | (refine zgy ?_; refine zl hS ?_)); refine Zab ?_; (first | refine zgn ?_ | (refine Zam ?_)); refine Zab ?_; (first | refine zgn ?_ | (refine ZaQ ?_)); refine Zab ?_; (first | refine zgn ?_ | (refine zgy ?_; refine zf0 ?_)); refine Zar ?_; (first | (refine zgn ?_) | (refine zgy ?_; refine zR1 (c := hlive_c (N := N') (s := h') (h := c'.hp) hS fd) (h := ?_); rintro v1 w1 ⟨rfl, hS⟩)); refine ZaK ?_; (first | (refine zgn ?_) | (refine zgy ?_; refine zR1 (c := Q7m (z := z') (b := q) (lv := lv2) (left := h'.left) (rv := rv2) ho2 (by omega) (show St c2 _ (Q49 z' q lv2 h'.left rv2 _) from hS.sp)) (h := ?_); rintro v1 w1 ⟨rfl, hS⟩)); refine zt ?_)
         all_goals (refine s_cq ?_)
         all_goals (first | refine zgn ?_ | (refine ZaL ?_))
         all_goals (refine Zab ?_; (first | (refine zpt ?_) | (refine zpf ?_)); refine Zat ?_; (first | refine zgn ?_ | (refine Zam ?_)); refine Zab ?_; (first | refine zgn ?_ | (refine Zam ?_)); refine Zab ?_; (first | refine zgn ?_ | (refine ZaQ ?_)); refine Zab ?_; (first | refine zgn ?_ | (refine zgy ?_; refine zf0 ?_)); refine Zab ?_; (first | refine zgn ?_ | (refine Zaj ?_)); refine Zab ?_; (first | refine zgn ?_ | (refine zgy ?_; refine zl hS ?_)); refine Zar ?_; (first | (refine zgn ?_) | (refine zgy ?_; refine zR1 (c := outc_own (c := c') (fr := fr') (g := g') (N := N') (h := h') (out := out') (back := back') (by omega) (by omega) (show St c2 _ (mS p c' fr' g' N' h' out' (sl 2 1 c'.bv (Q8 back') :: _)) from hS.sp)) (h := ?_); rintro v1 w1 ⟨x1, x2, rfl, hS⟩)); refine ZaI ?_; (first | refine zgn ?_ | (refine zgy ?_; refine Q9I rfl rfl ?_)); refine Zab ?_)
         all_goals (first | refine zgn ?_ | (refine ZaL ?_))
         all_goals (refine Zax ?_; (first | (refine zpt ?_) | (refine zpf ?_)); refine Zaw ?_)
         all_goals
          first
          | (refine zct ?_
             all_goals (refine Zaq ?_)
             all_goals (exact ⟨_, rfl, rfl, St.weak hS.sp (hle1.trans (hle2.trans (hle3.trans (hle4.trans (hle5.trans (hle6.trans (hle7.trans hle8)))))))⟩))
          | (refine zcf ?_
             all_goals refine zsk ?_)
         all_goals (exact ⟨⟨Run.step m fuel.toNat (.on s), c', fr', g', N', h', inp', out', back', z', fr3, g3, N3, inp3, zh, zh, hRA', hP', hD', (by rw [hfn']; exact hfn1), hin', (by rw [hfn3]; exact hfn2), hin3, by have hS1 : St c2 _ (gX q z' fr3 g3 N3 h' out' (mS p c' fr' g' N' h' out' (sl 2 1 c'.bv (Q8 back') :: sl 2 1 z'.bv (Q8 back') :: mBlk p9 (.slice ao m.funcs.length no) :: mBlk p4 (.slice af m.funcs.length nf) :: L))) := QK ho2 hS.sp; have hS := hS1; exact hS.sp⟩, (by rw [Qa0 (c := c') (L := L) (show St c2 _ (blk p 55 c'.cells :: L) from hS.sp), hm0]; exact hlt)⟩)))
  | (refine zcf ?_
     all_goals (obtain ⟨hfl, hoc, hzc, hza⟩ := DR.fin hD hRA hdn; refine zex ?_; refine Zaa ?_; refine zv hS ?_; refine ZaO ?_; refine zm ?_; refine zR4 (c := run_c hsh (Rep.R.up hx1' hle2) (Rep.SR.up hia hle2) hS) (h := ?_); rintro v1 w1 hr; obtain ⟨c3, a1, a2, y1, y2, hle3, rfl, k1, k2, hS⟩ := RunS.form3 hs0 hr; rw [hoc] at k1 k2; rw [hoc, hfl]; unfold fltV; dsimp only at k1 k2 ⊢; refine ZbE ?_; intro p16 w1 hS; refine Qg hS ?_; intro p17 w1 hS; refine zsn hS ?_; intro w1 hS; have hS := hS.ns; refine zsn hS ?_; intro w1 hS; have hS := hS.ns; refine ZaZ ?_; refine Qb ?_; refine zD (ci 12 [9, 11]) ?_; have hS := hS.drew; refine zv hS ?_; refine Zbe ?_; refine zf0 ?_; refine zv hS ?_; rw [hzc, hza]; refine Q3c (a := (0, 0)) Q23 rfl rfl ?_; refine zm ?_; (first | refine zgn ?_ | (refine zgy ?_; refine zv hS ?_)))
     all_goals ((first | refine zgn ?_ | (refine zgy ?_; refine zv hS ?_)); (first | (refine zgn ?_) | (refine zgy ?_; refine zR2 (c := Q6U (x := m) (y := m) (Rep.R.up (Rep.R.up hx1' hle2) hle3) (Rep.R.up (Rep.R.up hxa hle2) hle3) hS) (h := ?_); rintro v1 w1 ⟨rfl, hS⟩; rw [decide_eq_true (rfl : m = m)])); (first | refine zgn ?_ | (refine ZaP ?_)); refine Zaf ?_)
     all_goals
      first
      | (refine zct ?_
         all_goals (refine Zaq ?_)
         all_goals (exact ⟨_, rfl, rfl, St.weak hS.sp (hle1.trans (hle2.trans (hle3.trans (hle4.trans (hle5.trans (hle6.trans (hle7.trans hle8)))))))⟩))
      | (refine zcf ?_
         all_goals refine zsk ?_)
     all_goals (refine Zav ?_; refine zf0 ?_; refine zl hS ?_)
     all_goals (first | (refine QC ?_) | (refine QJ ?_))
     all_goals (refine zn ?_)
     all_goals
      first
      | (refine zct ?_
         all_goals (refine Zaa ?_; refine zv hS ?_; refine zb0 [_, _, _, _] ?_; refine zR2 (c := Q33 k1 k2 (Rep.SR.nil _ _ _) (Rep.SR.nil _ _ _) hS) (h := ?_); rintro v1 w1 ⟨rfl, hS⟩; rw [decide_eq_true ⟨rfl, rfl, rfl, rfl⟩]; refine Zah ?_)
         all_goals (exact ⟨_, rfl, rfl, St.weak hS.sp (hle1.trans (hle2.trans (hle3.trans (hle4.trans (hle5.trans (hle6.trans (hle7.trans hle8)))))))⟩))
      | (refine zcf ?_
         all_goals refine zsk ?_)
     all_goals (refine Qb ?_; obtain ⟨-, -, -, -, hff, hee, hol, hbl, -⟩ := PR.same hP hD; obtain ⟨c4, hle4, hS, q1⟩ := St.freezeL (r := intR) (l := back) (hS.out (r := sl 2 1 z.bv (Q8 back)) fd) Q1K rfl (by omega); simp only [List.eraseIdx_cons_zero, List.eraseIdx_cons_succ] at hS; obtain ⟨c5, hle5, hS, q2⟩ := St.freezeL (r := intR) (l := out) (hS.out (r := sl 2 1 z.ov (Q8 out)) fd) Q1K rfl (by omega); simp only [List.eraseIdx_cons_zero, List.eraseIdx_cons_succ] at hS; obtain ⟨c6, hle6, hS, q3⟩ := St.freezeL (r := intR) (l := back) (hS.out (r := sl 2 1 c.bv (Q8 back)) fd) Q1K rfl (by omega); simp only [List.eraseIdx_cons_zero, List.eraseIdx_cons_succ] at hS; obtain ⟨c7, hle7, hS, q4⟩ := St.freezeL (r := intR) (l := out) (hS.out (r := sl 2 1 c.ov (Q8 out)) fd) Q1K rfl (by omega); simp only [List.eraseIdx_cons_zero, List.eraseIdx_cons_succ] at hS; have k1 := Rep.SR.up (Rep.SR.up (Rep.SR.up (Rep.SR.up k1 hle4) hle5) hle6) hle7; have k2 := Rep.SR.up (Rep.SR.up (Rep.SR.up (Rep.SR.up k2 hle4) hle5) hle6) hle7; have q1 := Rep.SR.up (Rep.SR.up (Rep.SR.up q1 hle5) hle6) hle7; have q2 := Rep.SR.up (Rep.SR.up q2 hle6) hle7; have q3 := Rep.SR.up q3 hle7; refine zC [(0, none), (1, none), (2, none), (3, none), (4, none), (5, some none), (6, none), (7, none), (9, none), (10, none), (11, none), (12, none), (8, some (some [12])), (13, some none), (14, none), (15, some none)] ?_; have hS := hS.drew; refine s_cq ?_; refine zv hS ?_; refine Zat ?_; refine ZaN ?_; refine zf0 ?_)
     all_goals (refine Zab ?_; refine zv hS ?_; refine Zax ?_; refine zR2 (c := Q33 k1 k2 q1 q2 hS) (h := ?_); rintro v1 w1 ⟨rfl, hS⟩; rw [decide_eq_true ⟨rfl, rfl, rfl, rfl⟩]; refine Zat ?_; (first | refine zgn ?_ | (refine Zam ?_)); refine Zab ?_; (first | refine zgn ?_ | (refine Zam ?_)); refine Zab ?_; (first | refine zgn ?_ | (refine ZaQ ?_)); refine Zab ?_; (first | refine zgn ?_ | (refine zgy ?_; refine zf0 ?_)); refine Zab ?_; (first | refine zgn ?_ | (refine zgy ?_; refine zv hS ?_)); refine Zar ?_; (first | (refine zgn ?_) | (refine zgy ?_; refine zR1 (c := Q65 (c := c) (by omega) (by omega) q3 q4 (show St c7 _ (blk p 55 c.cells :: _) from hS.sp)) (h := ?_); rintro v1 w1 ⟨c8, u1, u2, hle8, rfl, k3, k4, hS⟩)); refine ZaK ?_; (first | (refine zgn ?_) | (refine zgy ?_; refine zR2 (c := Q33 k3 k4 (Rep.SR.up q1 hle8) (Rep.SR.up q2 hle8) hS) (h := ?_); rintro v1 w1 ⟨rfl, hS⟩; rw [decide_eq_true ⟨hee.symm, rfl, rfl, hff.symm⟩])); refine Zab ?_)
     all_goals (refine zpt ?_; refine ZbD ?_; refine zr ?_; refine zf ?_)
     all_goals (exact ⟨_, rfl, rfl, St.weak hS.sp (hle1.trans (hle2.trans (hle3.trans (hle4.trans (hle5.trans (hle6.trans (hle7.trans hle8)))))))⟩))
end Go.Proofs.YteflkifmgnpbhaaGreat
namespace Go.Proofs.YteflkifmgnpbhaaGreat
open Go.Lir
def cLongsI : Cod.Of Tryz.prog 25 (intR.an InI).list := Cod.Of.list cLongI (by kernel_rfl) (by kernel_rfl) (by kernel_rfl)
theorem idealRuns_rd {c : Array Value} {x : Module} {v : Value} {inp : List Int} {w : World} (h1 : cModI.cod.rd w.heap c.toList x) (h2 : cLongsI.cod.rd w.heap [v] inp) (a b : Int) : Rets Tryz.prog Q51 [.agg c, v, .int .i64 a, .int .i64 b] w fun v w' => v = .bool true ∧ Fr NF w w' := by
 obtain ⟨v', hv, hin⟩ := cLongsI.top h2
 cases hv
 obtain ⟨hi, hr⟩ := Rep.an_SR hin
 have hm := cModI.top h1
 exact (Q9c hm.1 hm.2 hi hr (St.top w)).mono fun _ _ ⟨h, h2⟩ => ⟨h, h2.fr⟩
end Go.Proofs.YteflkifmgnpbhaaGreat
