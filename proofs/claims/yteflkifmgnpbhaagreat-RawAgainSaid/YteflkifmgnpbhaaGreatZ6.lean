/- Lemmas of the proof, part 6: what the functions of the program do (contracts), and what follows. -/
import Derived.Test.YteflkifmgnpbhaaGreatZ2
import Derived.Test.YteflkifmgnpbhaaGreatZ5
import Derived.Test.YteflkifmgnpbhaaGreatZ4
import Derived.Test.YteflkifmgnpbhaaGreatZ3
namespace Go.Proofs.YteflkifmgnpbhaaGreat
open Go.Lir
set_option maxHeartbeats 1000000
attribute [local irreducible] LC.wp Q0 Ql Qj retQ Qx LO.wp Q8 Calls
set_option linter.unusedSimpArgs false
set_option linter.unusedVariables false
attribute [local irreducible] hasB Q33 Q1v Q1E Q3H upTo wantC firstC rmk jIns jEnd Module.fault Q7Q Q6x
variable {cx : Cx} {w : World} {L : List Res} {j : JP} {h : List Bool} {vl : Value} {css : List (List Value)} {i : Nat} {m : Module}
theorem jNewOk_c {f b : Nat} {fn : Fun} {y : Block} {cs : List Value} (hm : m.Short) (hF : m.fault.1 = 0) (hfn : m.funcs[f]? = some fn) (hy : fn.blocks[b]? = some y) (hx : modR.at cx cs m) (hS : St cx w L) :
 Rets Tryz.prog Qa2 [.agg ⟨cs⟩, .int .i64 f, .int .i64 b] w fun u w' => ∃ (j : JP) (c' : Cx) (vl : Value) (css : List (List Value)), u = .tuple #[.pointer (some ⟨j.sp, 0, none⟩), fltV (0, 0)] ∧ cx.Le c' ∧ j.Fits c' m ∧ j.f = fn ∧ tyR.ls c' css y.params ∧ St c' w' (j.res (Q16 y).h vl css :: L) := by
 refine (jNew_c hm hx hS).mono ?_
 have h1 := (List.getElem?_eq_some_iff.1 hfn).1
 have h2 := (List.getElem?_eq_some_iff.1 hy).1
 rintro u w' (⟨h0, -⟩ | ⟨-, h9, -⟩ | ⟨fn', y', j, c2, vl, css, -, -, -, hf', hy', rfl, hle, hj, jf, hls, hS⟩)
 · exact absurd hF h0
 · exfalso
   rcases h9 with (h | h) | ⟨fn', hf', h⟩
   · omega
   · omega
   · rw [Int.toNat_natCast] at hf'
     obtain rfl : fn = fn' := Option.some.inj (hfn.symm.trans hf')
     omega
 · rw [Int.toNat_natCast] at hf' hy'
   obtain rfl : fn = fn' := Option.some.inj (hfn.symm.trans hf')
   obtain rfl : y = y' := Option.some.inj (hy.symm.trans hy')
   exact ⟨j, c2, vl, css, rfl, hle, hj, jf, hls, hS⟩
theorem vblock_c {q b : Nat} {fn : Fun} {y : Block} {cs : List Value} (hm : m.Short) (hF : m.fault.1 = 0) (hfn : m.funcs[q]? = some fn) (hy : fn.blocks[b]? = some y) (hx : modR.at cx cs m) (hS : St cx w L) :
 Rets Tryz.prog Q9t [.agg ⟨cs⟩, .int .i64 q, .int .i64 b] w fun u w' => u = fltV (QB m fn q b y.fin 0 (Q16 y) y.code) ∧ St cx w' L := by
 have hx' := hx
 obtain ⟨vf, rfl, hf1⟩ := Q1A hx
 have hle := St.refl hS
 have hsf := hm.2 fn (List.mem_of_getElem? hfn)
 have hfb := mod_fb hF hfn
 have hfh := Q1x (Q1F hF hfn)
 have hg0 := Q7q hm hF hfn hy
 have hlc := (hsf.2.2.2 y (List.mem_of_getElem? hy)).2.1
 have hq1 := (List.getElem?_eq_some_iff.1 hfn).1
 have hq2 := hm.1
 have hb1 := (List.getElem?_eq_some_iff.1 hy).1
 all_goals refine lgo tyD Tryz.func91 ?_
 all_goals (refine Zan ?_; intro p3 w1 hS; refine Qk hS ?_; intro p6 w1 hS; refine Zaz ?_; refine zv hS ?_; refine ZaE ?_)
 all_goals (refine zR3 (c := jNewOk_c hm hF hfn hy hx' hS) (h := ?_); rintro v1 w1 ⟨j, c2, vl, css, rfl, hle2, hj, hjf, hls, hS⟩; (try have hle := hle.trans hle2); (try have hf1 := hf1.up hle2); unfold fltV; subst hjf)
 all_goals (refine Zbn ?_; intro p8 w1 hS; refine zm ?_; refine zsn hS ?_; intro w1 hS; have hS := hS.ns; refine Zaz ?_; refine zf0 ?_; refine zl hS ?_; refine zm ?_; refine zi ?_; intro b1 o1 cs1 x1 hat1 hx1 he1; obtain ⟨vp1, vr1, vb1, rfl, hp1, hr1, hb1⟩ := Q1s he1; obtain rfl : j.f = x1 := Option.some.inj (hfn.symm.trans hx1); (first | refine zf0 ?_ | refine zfd ?_); (first | (refine zl hS ?_) | (refine zlk hS ?_) | (refine zlj hS ?_)); refine zm ?_; refine zi ?_; intro b2 o2 cs2 x2 hat2 hx2 he2; obtain ⟨vp2, vc2, ve21, ve22, ve23, ve24, ve25, rfl, hp2, hc2, he21, he22, he23, he24, he25⟩ := Q2q he2; refine Zah ?_; intro p9 w1 hS; refine zsn hS ?_; intro w1 hS; have hS := hS.ns; refine zn ?_; obtain rfl : y = x2 := Option.some.inj (hy.symm.trans hx2); refine ZaO ?_; refine zf0 ?_; refine zl hS ?_; refine zL ?_)
 all_goals (refine Zaw ?_)
 refine zo [1, 2, 6, 7, 9, 31, 32] (fun A ρ' w' => ∃ (k0 : Cx) (i : Nat) (s : JS) (vl : Value) (css : List (List Value)), Has ρ' A ∧ Has ρ' [(33, .int .i64 i)] ∧ (c2.Le k0) ∧ (i ≤ y.code.length) ∧ (QB m j.f q b y.fin 0 (Q16 y) y.code = QB m j.f q b y.fin i s (y.code.drop i)) ∧ (j.Fits k0 m) ∧ (tyR.ls k0 css s.l) ∧ (JGood s) ∧ St k0 w' (blk p9 92 [.int .i64 y.regs, vp2, vc2, .int .i64 y.fin.op, .int .i64 y.fin.a, .int .i64 y.fin.yes.block, ve21, ve22, .int .i64 y.fin.no.block, ve23, ve24, ve25] :: j.res s.h vl css :: blk p6 29 [.int .i64 0, .int .i64 0] :: L)) (fun ρ' _ => (y.code.length - iv (ρ' 33)).toNat) ?_ ?_
 · exact ⟨c2, 0, Q16 y, vl, css, zh, zh, St.refl hS, (by omega), by rfl, hj, hls, hg0, hS.sp⟩
 rintro ρ w1 ⟨k0, i, s, vl, css, hA, hρ, hle2, hi, hdi, hj, hls, hg, hS⟩; obtain ⟨ρ, rfl⟩ := env2 hA hρ; have hL0 := hle2; (try have hle := hle.trans hle2); (try have hp1 := hp1.up hle2); (try have hr1 := hr1.up hle2); (try have hb1 := hb1.up hle2); (try have hp2 := hp2.up hle2); (try have hc2 := hc2.up hle2); (try have he21 := he21.up hle2); (try have he22 := he22.up hle2); (try have he23 := he23.up hle2); (try have he24 := he24.up hle2); (try have he25 := he25.up hle2); (try have he1 := he1.up hle2); (try have he2 := he2.up hle2); (try have hf1 := hf1.up hle2)
 all_goals (refine ZaH ?_)
 refine Qr rfl (fun hc => ?_) (fun hc => ?_)
 · skip
   all_goals (refine Zbc ?_; refine zi ?_; intro b3 o3 cs3 x3 hat3 hx3 he3; obtain ⟨vr3, va3, rfl, hr3, ha3⟩ := Q1i he3; refine Zah ?_; intro p11 w1 hS; refine zm ?_; refine zsn hS ?_; intro w1 hS; have hS := hS.ns; refine ZaC ?_; refine zv hS ?_)
   all_goals (refine zR2 (c := jIns_c (s := s) (x := x3) hm hg.n hg.h hj he3 hls hS fd) (h := ?_); rintro v1 w1 ⟨rfl, c4, vl4, css4, hle2, hls4, hS⟩; have hS := hS.ns; (try have hle := hle.trans hle2); (try have hL0 := hL0.trans hle2); (try have hp1 := hp1.up hle2); (try have hr1 := hr1.up hle2); (try have hb1 := hb1.up hle2); (try have hp2 := hp2.up hle2); (try have hc2 := hc2.up hle2); (try have he21 := he21.up hle2); (try have he22 := he22.up hle2); (try have he23 := he23.up hle2); (try have he24 := he24.up hle2); (try have he25 := he25.up hle2); (try have hr3 := hr3.up hle2); (try have ha3 := ha3.up hle2); (try have he1 := he1.up hle2); (try have he2 := he2.up hle2); (try have he3 := he3.up hle2); (try have hls := hls.up hle2); (try have hf1 := hf1.up hle2); have hj := hj.up hle2; have hg1 := Qei (f := j.f) (x := x3) hm hg; obtain ⟨s1, hs1⟩ : ∃ s1, (jIns m j.f s x3).2 = s1 := ⟨_, rfl⟩; rw [hs1] at hls4 hS hg1)
   all_goals (refine ZaK ?_)
   all_goals (first | (refine Q1O ?_) | (refine Q1P ?_) | (refine QP rfl rfl (fun hc => ?_) (fun hc => ?_)))
   all_goals (refine zn ?_)
   all_goals
    first
    | (refine zct ?_
       all_goals (refine Zad ?_; refine ZaE ?_; refine zm ?_; refine zR3 (c := QbW q b i (by omega) (by omega) (by omega) hS) (h := ?_); rintro v1 w1 ⟨rfl, hS⟩; refine zb2 [_, _] ?_; refine zsn hS ?_; intro w1 hS; have hS := hS.ns; refine zn ?_; have hJ : QB m j.f q b y.fin 0 (Q16 y) y.code = ((jIns m j.f s x3).1, Q7Q q b i) := (by rw [hdi, Qa hx3, Q5x (by omega)]); refine zr ?_; refine Q2a vw (Qm (n := 2) (by kernel_rfl) (by kernel_rfl) (hS.blkAt fd) (by rfl) (by rfl)) ?_)
       all_goals (exact ⟨_, rfl, by rw [hJ]; rfl, St.weak hS.sp hle⟩))
    | (refine zcf ?_
       all_goals refine zsk ?_)
   all_goals (refine Qc ?_; refine zad ?_; refine Zac ?_; exact ⟨⟨_, i + 1, s1, vl4, css4, zh, zh, hL0, (by omega), by rw [hdi, Qa hx3, Q5y (by omega), hs1], hj, hls4, hg1, hS.sp⟩, Qv (by omega)⟩)
 · skip
   all_goals (refine zex ?_; refine Zat ?_; refine zf0 ?_; refine zv hS ?_; refine zR2 (c := jEnd_c (s := s) (x := y.fin) hsf hfb (by omega) hg.h hj ⟨_, _, _, _, _, rfl, he21, he22, he23, he24, he25⟩ hls hS fd) (h := ?_); rintro v1 w1 ⟨rfl, hS⟩; have hde := Q6m (m := m) (f := j.f) (fi := q) (bi := b) (e := y.fin) (s := s) (i := i) (l := y.code) (by omega); refine ZaK ?_)
   all_goals (first | (refine Q1O ?_) | (refine Q1P ?_) | (refine QP rfl rfl (fun hc => ?_) (fun hc => ?_)))
   all_goals (refine zn ?_)
   all_goals
    first
    | (refine zct ?_
       all_goals (refine Zad ?_; refine ZaE ?_; refine zR2 (c := QbX q b (by omega) (by omega) hS) (h := ?_); rintro v1 w1 ⟨rfl, hS⟩; refine zb2 [_, _] ?_; refine zsn hS ?_; intro w1 hS; have hS := hS.ns; refine zn ?_; have hJ := hdi.trans (hde.trans (mkF_c (by omega))); refine zr ?_; refine Q2a vw (Qm (n := 2) (by kernel_rfl) (by kernel_rfl) (hS.blkAt fd) (by rfl) (by rfl)) ?_)
       all_goals (exact ⟨_, rfl, by rw [hJ]; rfl, St.weak hS.sp hle⟩))
    | (refine zcf ?_
       all_goals refine zsk ?_)
   all_goals (refine Zaa ?_; refine zb0 [_, _] ?_; refine zsn hS ?_; intro w1 hS; have hS := hS.ns; refine zn ?_; have hJ := hdi.trans (hde.trans (Q80 _ _ (by rw [Q3F]; omega))); refine zr ?_; refine Q2a vw (Qm (n := 2) (by kernel_rfl) (by kernel_rfl) (hS.blkAt fd) (by rfl) (by rfl)) ?_; exact ⟨_, rfl, by rw [hJ]; rfl, St.weak hS.sp hle⟩)
theorem vcheck_c {cs : List Value} (hm : m.Short) (hx : modR.at cx cs m) (hS : St cx w L) :
 Rets Tryz.prog Q9u [.agg ⟨cs⟩] w fun u w' => u = fltV m.runs ∧ St cx w' L := by
 have hx' := hx
 obtain ⟨vf, rfl, hf1⟩ := Q1A hx
 have hlf := hf1.len
 all_goals refine lgo tyD Tryz.func44 ?_
 all_goals (refine Zan ?_; intro p1 w1 hS; refine Qk hS ?_; intro p2 w1 hS; refine Zbh ?_; refine zv hS ?_; refine zR1 (c := QbV hm hx' hS) (h := ?_); rintro v1 w1 ⟨rfl, hS⟩; unfold fltV; refine Qk hS ?_; intro p3 w1 hS; refine zsn hS ?_; intro w1 hS; have hS := hS.ns; refine Zaz ?_; refine zf0 ?_; refine zl hS ?_)
 all_goals (first | (refine Q1O ?_) | (refine Q1P ?_) | (refine QP rfl rfl (fun hc => ?_) (fun hc => ?_)))
 all_goals (refine zn ?_)
 all_goals
  first
  | (refine zct ?_
     all_goals (refine Zaa ?_; refine zv hS ?_; refine zsn hS ?_; intro w1 hS; have hS := hS.ns; refine zn ?_; have hJ := runs_no (m := m) (by omega); refine zr ?_; refine Q2a vw (Qm (n := 2) (by kernel_rfl) (by kernel_rfl) (hS.blkAt fd) (by rfl) (by rfl)) ?_)
     all_goals (exact ⟨_, rfl, by rw [hJ]; rfl, hS.sp⟩))
  | (refine zcf ?_
     all_goals refine zsk ?_)
 all_goals (refine Q6 ?_; refine Q6 ?_; have hF : m.fault.1 = 0 := (by omega); have hr0 := runs_go hF; have hlf8 := hm.1; refine Qc ?_; refine zf0 ?_; refine zl hS ?_; refine zL ?_; refine Zaw ?_)
 refine zoL hS [1, 2, 15, 16] (fun A LL ρ' w' => ∃ (q : Nat), Has ρ' A ∧ Has ρ' [(17, .int .i64 q)] ∧ (q ≤ m.funcs.length) ∧ (m.runs = Q1r m q (m.funcs.drop q)) ∧ St cx w' (LL)) (fun ρ' _ => (m.funcs.length - iv (ρ' 17)).toNat) ?_ ?_
 · exact ⟨0, zh, zh, (by omega), by rw [hr0]; rfl, hS.sp⟩
 rintro ρ w1 ⟨q, hA, hρ, hq, hd, hS⟩; obtain ⟨ρ, rfl⟩ := env2 hA hρ
 all_goals (refine ZaH ?_)
 refine Qr rfl (fun hc => ?_) (fun hc => ?_)
 · skip
   all_goals (refine Zbc ?_; refine zi ?_; intro b1 o1 cs1 x1 hat1 hx1 he1; obtain ⟨vp1, vr1, vb1, rfl, hp1, hr1, hb1⟩ := Q1s he1; refine Zah ?_; intro p5 w1 hS; refine zm ?_; refine zsn hS ?_; intro w1 hS; have hS := hS.ns; refine zn ?_; have hsf := hm.2 x1 (List.mem_of_getElem? hx1); have hbl := hsf.2.2.1; refine Zaa ?_; refine zf0 ?_; refine zl hS ?_; refine zL ?_; refine Zaw ?_)
   refine zoL hS [1, 2, 4, 15, 16, 17, 24] (fun A LL ρ' w' => ∃ (b : Nat), Has ρ' A ∧ Has ρ' [(25, .int .i64 b)] ∧ (b ≤ x1.blocks.length) ∧ (Qq m x1 q 0 x1.blocks = Qq m x1 q b (x1.blocks.drop b)) ∧ St cx w' (LL)) (fun ρ' _ => (x1.blocks.length - iv (ρ' 25)).toNat) ?_ ?_
   · exact ⟨0, zh, zh, (by omega), by rfl, hS.sp⟩
   rintro ρ w1 ⟨b, hA, hρ, hb, hdb, hS⟩; obtain ⟨ρ, rfl⟩ := env2 hA hρ
   all_goals (refine ZaH ?_)
   refine Qr rfl (fun hc => ?_) (fun hc => ?_)
   · skip
     all_goals (refine ZaA ?_; refine Q6 ?_; obtain ⟨y, hy⟩ : ∃ y, x1.blocks[b]? = some y := ⟨_, List.getElem?_eq_getElem (by omega)⟩; refine Zae ?_; refine Zac ?_; refine Zaa ?_; refine zv hS ?_; refine ZaE ?_; refine zR3 (c := vblock_c hm hF hx1 hy hx' hS) (h := ?_); rintro v1 w1 ⟨rfl, hS⟩; unfold fltV; refine Qk hS ?_; intro p7 w1 hS; refine zsn hS ?_; intro w1 hS; have hS := hS.ns; refine Zaz ?_; refine zf0 ?_; refine zl hS ?_)
     all_goals (first | (refine Q1O ?_) | (refine Q1P ?_) | (refine QP rfl rfl (fun hc => ?_) (fun hc => ?_)))
     all_goals (refine zn ?_)
     all_goals
      first
      | (refine zct ?_
         all_goals (refine Zaa ?_; refine zv hS ?_; refine zsn hS ?_; intro w1 hS; have hS := hS.ns; refine zn ?_; have hJ := runs_at hd hx1 hdb hy rfl (by omega); refine zr ?_; refine Q2a vw (Qm (n := 2) (by kernel_rfl) (by kernel_rfl) (hS.blkAt fd) (by rfl) (by rfl)) ?_)
         all_goals (exact ⟨_, rfl, by rw [hJ]; rfl, hS.sp⟩))
      | (refine zcf ?_
         all_goals refine zsk ?_)
     all_goals (refine Qc ?_; refine zad ?_; refine Zac ?_; exact ⟨⟨b + 1, zh, zh, (by omega), runs_b hdb hy (by omega), hS.sp⟩, Qv (by omega)⟩)
   · skip
     all_goals (refine zex ?_; refine Qc ?_; refine zad ?_; refine Zac ?_; exact ⟨⟨q + 1, zh, zh, (by omega), runs_f hd hx1 hdb (by omega), hS.sp⟩, Qv (by omega)⟩)
 · skip
   all_goals (refine zex ?_; refine Zaa ?_; refine zb0 [_, _] ?_; refine zsn hS ?_; intro w1 hS; have hS := hS.ns; refine zn ?_; have hJ := runs_z hd (by omega); refine zr ?_; refine Q2a vw (Qm (n := 2) (by kernel_rfl) (by kernel_rfl) (hS.blkAt fd) (by rfl) (by rfl)) ?_; exact ⟨_, rfl, by rw [hJ]; rfl, hS.sp⟩)
end Go.Proofs.YteflkifmgnpbhaaGreat
namespace Go.Lir
def Q20 (m : Module) (inp : List Int) (fuel pages : Int) : Flt := if m.runs.1 ≠ 0 then m.runs else if 200 < inp.length ∨ fuel < 0 ∨ 20000 < fuel ∨ pages < 0 ∨ 64 < pages then (1, -1) else (0, 0)
theorem Q4n {m : Module} {inp : List Int} {fuel pages : Int} (h : m.runs.1 ≠ 0) : Q20 m inp fuel pages = m.runs := if_pos h
theorem Q6y {m : Module} {inp : List Int} {fuel pages : Int} (h : ¬ m.runs.1 ≠ 0) (hr : 200 < inp.length ∨ fuel < 0 ∨ 20000 < fuel ∨ pages < 0 ∨ 64 < pages) : Q20 m inp fuel pages = (1, -1) := (if_neg h).trans (if_pos hr)
theorem startW_0 {m : Module} {inp : List Int} {fuel pages : Int} (h : ¬ m.runs.1 ≠ 0) (hr : ¬ (200 < inp.length ∨ fuel < 0 ∨ 20000 < fuel ∨ pages < 0 ∨ 64 < pages)) : Q20 m inp fuel pages = (0, 0) := (if_neg h).trans (if_neg hr)
end Go.Lir
namespace Go.Proofs.YteflkifmgnpbhaaGreat
open Go.Lir
set_option maxHeartbeats 1000000
attribute [local irreducible] LC.wp Q0 Ql Qj retQ Qx LO.wp Q8 Calls
set_option linter.unusedSimpArgs false
set_option linter.unusedVariables false
variable {cx : Cx} {w : World} {L : List Res} {m : Module} {inp : List Int}
@[reducible] def Q9W (ep fn lv iv : Value) (fuel : Int) : RC := ⟨ep, fn, lv, iv, 0, .slice none 0 0, .slice none 0 0, 0, fuel, false⟩
@[reducible] def Q9V : RFV := ⟨0, 0, 0, .slice none 0 0, []⟩
def RNewS (m : Module) (inp : List Int) (fuel pages : Int) (cx : Cx) (L : List Res) (u : Value) (w' : World) : Prop :=
 ((Q20 m inp fuel pages).1 ≠ 0 ∧ u = .tuple #[.pointer none, fltV (Q20 m inp fuel pages)] ∧ St cx w' L) ∨
 (Q20 m inp fuel pages = (0, 0) ∧ m.runs.1 = 0 ∧ inp.length ≤ 200 ∧ 0 ≤ fuel ∧ fuel ≤ 20000 ∧ ∃ (q : Nat), pages = q ∧ q ≤ 64 ∧ ∃ c' p ep fn lv iv, u = .tuple #[.pointer (some ⟨p, 0, none⟩), fltV (0, 0)] ∧ cx.Le c' ∧ funcR.sl c' fn m.funcs ∧ intR.sl c' iv inp ∧ St c' w' (rS p (Q9W ep fn lv iv fuel) [] Q9V (EstS.mk0 q) [] L))
theorem QdH {cs : List Value} {v : Value} {fuel pages : Int} (hsh : m.Short) (hx : modR.at cx cs m) (hi : intR.sl cx v inp) (hS : St cx w L) :
 Rets Tryz.prog QdO [.agg ⟨cs⟩, v, .int .i64 fuel, .int .i64 pages] w (RNewS m inp fuel pages cx L) := by
 have hle := St.refl hS
 have hx' := hx
 obtain ⟨vf, rfl, hf⟩ := Q1A hx
 have hil := hi.len
 unfold RNewS
 all_goals refine lgo tyD Tryz.func35 ?_
 all_goals (refine Zan ?_; intro p4 w1 hS; refine zm ?_; refine Qk hS ?_; intro p9 w1 hS; refine Zbh ?_; refine zv hS ?_; refine zR1 (c := vcheck_c hsh hx' hS) (h := ?_); rintro v1 w1 ⟨rfl, hS⟩; unfold fltV; refine Qk hS ?_; intro p10 w1 hS; refine zsn hS ?_; intro w1 hS; have hS := hS.ns; refine Zaz ?_; refine zf0 ?_; refine zl hS ?_)
 all_goals (first | (refine Q1O ?_) | (refine Q1P ?_) | (refine QP rfl rfl (fun hc => ?_) (fun hc => ?_)))
 all_goals (refine zn ?_)
 all_goals
  first
  | (refine zct ?_
     all_goals (refine Q6 ?_; refine zD (ci 3 [2]) ?_; have hS := hS.drew; refine zv hS ?_; refine zm ?_; refine zsn hS ?_; intro w1 hS; have hS := hS.ns; refine ZaV ?_; refine Q2T vw vw (Qm (n := 2) (by kernel_rfl) (by kernel_rfl) (hS.blkAt fd) (by rfl) (by rfl)) ?_)
     all_goals (exact ⟨_, rfl, .inl ⟨by rw [Q4n (by omega)]; omega, by rw [Q4n (by omega)]; rfl, hS.sp⟩⟩))
  | (refine zcf ?_
     all_goals refine zsk ?_)
 all_goals (refine Zat ?_; refine zL ?_)
 all_goals (first | (refine Q1k ?_) | (refine Q1n ?_) | (refine Qs rfl rfl (fun hc => ?_) (fun hc => ?_)))
 all_goals (refine zm ?_; (first | refine zgn ?_ | (refine Zap ?_)))
 all_goals (first | refine zgn ?_ | (refine zgy ?_; (first | (refine Q22 ?_) | (refine Q23 ?_) | (refine QC rfl rfl (fun hc => ?_) (fun hc => ?_)))))
 all_goals (refine Zao ?_; (first | refine zgn ?_ | (refine Zap ?_)))
 all_goals (first | refine zgn ?_ | (refine zgy ?_; (first | (refine Q1k ?_) | (refine Q1n ?_) | (refine Qs rfl rfl (fun hc => ?_) (fun hc => ?_)))))
 all_goals (refine Zao ?_; (first | refine zgn ?_ | (refine Zap ?_)))
 all_goals (first | refine zgn ?_ | (refine zgy ?_; (first | (refine Q22 ?_) | (refine Q23 ?_) | (refine QC rfl rfl (fun hc => ?_) (fun hc => ?_)))))
 all_goals (refine Zao ?_; (first | refine zgn ?_ | (refine Zap ?_)))
 all_goals (first | refine zgn ?_ | (refine zgy ?_; (first | (refine Q1k ?_) | (refine Q1n ?_) | (refine Qs rfl rfl (fun hc => ?_) (fun hc => ?_)))))
 all_goals (refine Zau ?_)
 all_goals
  first
  | (refine zct ?_
     all_goals (refine Zaa ?_; refine zb2 [_, _] ?_; refine zm ?_; refine zsn hS ?_; intro w1 hS; have hS := hS.ns; refine ZaV ?_; refine Q2T vw vw (Qm (n := 2) (by kernel_rfl) (by kernel_rfl) (hS.blkAt fd) (by rfl) (by rfl)) ?_)
     all_goals ((first | exact ⟨_, rfl, .inl ⟨by rw [Q4n (by omega)]; omega, by rw [Q4n (by omega)]; rfl, hS.sp⟩⟩ | exact ⟨_, rfl, .inl ⟨by rw [Q6y (by omega) (by omega)]; decide, by rw [Q6y (by omega) (by omega)]; rfl, hS.sp⟩⟩)))
  | (refine zcf ?_
     all_goals refine zsk ?_)
 all_goals (refine Zad ?_)
 all_goals (refine zR1 (c := enew_c pages hS) (h := ?_); rintro v1 w1 (⟨hbad, -, -⟩ | ⟨q, bq, hq, hq64, rfl, hS⟩); exact absurd hbad (by omega))
 all_goals (refine Zbn ?_; intro p12 w1 hS; refine zm ?_; refine zsn hS ?_; intro w1 hS; have hS := hS.ns; refine ZaC ?_; refine zv hS ?_; refine zR1 (c := Q9Q hsh hx' hS) (h := ?_); rintro v1 w1 ⟨c1, ds, rfl, hle1, hx1, hS⟩; obtain ⟨vf1, rfl, hf1⟩ := Q1A hx1; have hi := Rep.SR.up hi hle1; obtain ⟨af, nf, rfl⟩ := Rep.SR.shape hf1; refine zb0 [_, _, _, _] ?_; refine zB1 hS [_, _, _, _] ?_; intro b1 w1 hS; have hS := St.slOf (T := 138) (es := 4) (css := [[.int .i64 0, .int .i64 0, .int .i64 0, .slice none 0 0]]) hS rfl (by simp) rfl; refine zm ?_; refine zR1 (c := Q7O (by omega) hi hS) (h := ?_); rintro vi w1 ⟨c2, hle2, hi2, hS⟩; have hf1 := Rep.SR.up hf1 hle2; obtain ⟨ai, ni, rfl⟩ := Rep.SR.shape hi2; refine zm ?_; refine zb5 [_, _, _, _, _, _, _, _, _, _] ?_; refine zb hS ?_; intro p53 w1 hS; refine zb0 [_, _] ?_; refine zm ?_; refine zsn hS ?_; intro w1 hS; have hS := hS.ns; refine ZaV ?_; refine Q2T vw vw (Qm (n := 2) (by kernel_rfl) (by kernel_rfl) (hS.blkAt fd) (by rfl) (by rfl)) ?_; (first | exact ⟨_, rfl, .inl ⟨by rw [Q4n (by omega)]; omega, by rw [Q4n (by omega)]; rfl, hS.sp⟩⟩ | exact ⟨_, rfl, .inl ⟨by rw [Q6y (by omega) (by omega)]; decide, by rw [Q6y (by omega) (by omega)]; rfl, hS.sp⟩⟩ | (have hS := St.big_nil RFV.res (St.nil (T := 2) (es := 1) (St.nil (T := 2) (es := 1) hS)); exact ⟨_, rfl, .inr ⟨startW_0 (by omega) (by omega), by omega, by omega, by omega, by omega, q, hq, hq64, c2, _, _, _, _, _, rfl, hle1.trans hle2, hf1, hi2, hS.sp⟩⟩)))
end Go.Proofs.YteflkifmgnpbhaaGreat
namespace Go.Proofs.YteflkifmgnpbhaaGreat
open Go.Lir
set_option maxHeartbeats 1000000
attribute [local irreducible] LC.wp Q0 Ql Qj retQ Qx LO.wp Q8 Calls
set_option linter.unusedSimpArgs false
set_option linter.unusedVariables false
variable {cx : Cx} {w : World} {L : List Res} {p : Nat} {c : RC} {fr : List RFV} {g : RFV} {s : EstS} {out inp back : List Int} {m : Module}
theorem QR.first {fuel : Int} {q : Nat} {ep fn lv iv : Value} (hR : m.runs.1 = 0) (hsh : m.Short) (h0 : 0 ≤ fuel) (hq : q ≤ 64) : QR m fuel.toNat (Q9W ep fn lv iv fuel) [] Q9V (EstS.mk0 q) inp [] [] (.on (MS.start inp q)) :=
 ⟨start_r hq, rfl, rfl, rfl, rfl, Nat.zero_le _, (Int.toNat_of_nonneg h0).symm, Bnd.start (Q1J hR) inp q, Qcu hR hsh inp q⟩
theorem QR.on {most : Nat} {r : Run} (hQ : QR m most c fr g s inp out back r) (hdn : c.dn = false) : ∃ ms, r = .on ms ∧ ms.fuel ≤ most := by
 cases r with
 | on ms => obtain ⟨-, -, -, -, -, h, -⟩ := hQ; exact ⟨ms, rfl, h⟩
 | over ms e b => obtain ⟨-, -, h, -⟩ := hQ; rw [hdn] at h; cases h
 | stuck f => exact hQ.elim
theorem QR.fin {most : Nat} {r a : Run} (hQ : QR m most c fr g s inp out back r) (hA : RA m most a r) (hdn : c.dn = true) : a.oc = ⟨c.e, back, out, c.fu⟩ ∧ out.length ≤ 2000 ∧ back.length ≤ 100000 := by
 cases r with
 | on ms => obtain ⟨-, -, h, -⟩ := hQ; rw [hdn] at h; cases h
 | over ms e b =>
   obtain ⟨h1, h2, -, h4, h5, h6, h7, -⟩ := hQ
   have hA : a = .over ms e b := hA
   refine ⟨?_, h6, h7⟩
   rw [hA, h1, h2, h4, h5]; rfl
 | stuck f => exact hQ.elim
theorem Q6G {l : List Int} : intR.ls cx (l.map Qh) l :=
 ⟨by simp, fun k x hx => ⟨[.int .i64 x], by rw [List.getElem?_map, hx]; rfl, rfl⟩⟩
def RRunS (m : Module) (inp : List Int) (fuel pages : Int) (cx : Cx) (L : List Res) (u : Value) (w' : World) : Prop :=
 ((Q20 m inp fuel pages).1 ≠ 0 ∧ u = .tuple #[.agg ⟨[.int .i64 0, .slice none 0 0, .slice none 0 0, .int .i64 0]⟩, fltV (Q20 m inp fuel pages)] ∧ St cx w' L) ∨
 (Q20 m inp fuel pages = (0, 0) ∧ m.runs.1 = 0 ∧ ∃ c' v1 v2, cx.Le c' ∧ u = .tuple #[ocV (Run.all m inp fuel.toNat pages).oc v1 v2, fltV (0, 0)] ∧ intR.sl c' v1 (Run.all m inp fuel.toNat pages).oc.back ∧ intR.sl c' v2 (Run.all m inp fuel.toNat pages).oc.out ∧ St c' w' L)
attribute [local irreducible] QR RA Run.all Run.oc
theorem RNewS.split {fuel pages : Int} {u : Value} (h : RNewS m inp fuel pages cx L u w) : ((Q20 m inp fuel pages).1 ≠ 0 ∧ u = .tuple #[.pointer none, fltV (Q20 m inp fuel pages)] ∧ St cx w L) ∨
 (Q20 m inp fuel pages = (0, 0) ∧ m.runs.1 = 0 ∧ inp.length ≤ 200 ∧ 0 ≤ fuel ∧ fuel ≤ 20000 ∧ ∃ (q : Nat), pages = q ∧ q ≤ 64 ∧ ∃ c' p ep fn lv iv, u = .tuple #[.pointer (some ⟨p, 0, none⟩), fltV (0, 0)] ∧ cx.Le c' ∧ funcR.sl c' fn m.funcs ∧ intR.sl c' iv inp ∧ St c' w (rS p (Q9W ep fn lv iv fuel) [] Q9V (EstS.mk0 q) [] L)) := h
theorem QdF {cs : List Value} {v : Value} {fuel pages : Int} (hsh : m.Short) (hx : modR.at cx cs m) (hi : intR.sl cx v inp) (hS : St cx w L) :
 Rets Tryz.prog QaU [.agg ⟨cs⟩, v, .int .i64 fuel, .int .i64 pages] w (RRunS m inp fuel pages cx L) := by
 have hx' := hx
 obtain ⟨vf, rfl, hf⟩ := Q1A hx
 unfold RRunS
 all_goals refine lgo tyD Tryz.func33 ?_
 all_goals (refine Zan ?_; intro p4 w1 hS; refine Qk hS ?_; intro p8 w1 hS; refine Qk hS ?_; intro p9 w1 hS; refine Zaz ?_; refine zv hS ?_; refine ZaE ?_; refine zm ?_)
 all_goals (refine zR4 (c := QdH hsh hx' hi hS) (h := ?_); rintro v1 w1 hN; rcases hN.split with ⟨hz, rfl, hS⟩ | ⟨hs0, hR, hil, hf0, hf1, q, rfl, hq, c2, p, ep, fn, lv, i1, rfl, hle2, hfn, hin, hS⟩)
 all_goals (refine zm ?_; unfold fltV; dsimp only; refine ZaX ?_; intro p11 w1 hS; refine zm ?_; refine zsn hS ?_; intro w1 hS; have hS := hS.ns; refine Zbh ?_; refine zf0 ?_; refine zl hS ?_)
 all_goals (first | (refine Q1O ?_) | (refine Q1P ?_))
 all_goals (refine zn ?_)
 all_goals
  first
  | (refine zct ?_
     all_goals (refine Q6 ?_; refine zC [(0, none), (1, none), (2, some (some [1])), (3, some none)] ?_; have hS := hS.drew; refine s_cq ?_; refine zb0 [_, _, _, _] ?_; refine Zab ?_; refine zv hS ?_; refine Zar ?_; refine zsn hS ?_; intro w1 hS; have hS := hS.ns; refine ZaQ ?_; refine zsn hS ?_; intro w1 hS; have hS := hS.ns; refine ZaB ?_; refine zr ?_; refine QdR vw (Qm (n := 4) (by kernel_rfl) (by kernel_rfl) (hS.blkAt fd) (by rfl) (by rfl)) vw (Qm (n := 2) (by kernel_rfl) (by kernel_rfl) (hS.blkAt fd) (by rfl) (by rfl)) ?_)
     all_goals (exact ⟨_, rfl, .inl ⟨hz, rfl, hS.sp⟩⟩))
  | (refine zcf ?_
     all_goals refine zsk ?_)
 all_goals (refine Zal ?_)
 refine zo [8, 9, 10] (fun A ρ' w' => ∃ (r : Run) (c : RC) (fr : List RFV) (g : RFV) (s : EstS) (inp1 out back : List Int), Has ρ' A ∧ Has ρ' [] ∧ (RA m fuel.toNat (Run.all m inp fuel.toNat q) r) ∧ (QR m fuel.toNat c fr g s inp1 out back r) ∧ (funcR.sl c2 c.fn m.funcs) ∧ (intR.sl c2 c.iv inp1) ∧ St c2 w' (rS p c fr g s out (sl 2 1 c.bv (back.map Qh) :: blk p11 29 [.int .i64 0, .int .i64 0] :: blk p9 29 [.int .i64 0, .int .i64 0] :: blk p8 33 [.int .i64 0, .slice none 0 0, .slice none 0 0, .int .i64 0] :: L))) (fun _ w' => msrW w' p) ?_ ?_
 · exact ⟨.on (MS.start inp q), Q9W ep fn lv i1 fuel, [], Q9V, EstS.mk0 q, inp, [], [], zh, zh, RA.first, QR.first hR hsh hf0 hq, hfn, hin, by have hS := hS.nil (T := 2) (es := 1); exact hS.sp⟩
 rintro ρ w1 ⟨r, c, fr, g, s, inp1, out, back, hA, hρ, hRA, hQ, hfn1, hin1, hS⟩; obtain ⟨ρ, rfl⟩ := env2 hA hρ; have hm0 := Q8S hS
 all_goals (refine Zat ?_)
 all_goals (refine zR1 (c := QdM hS) (h := ?_); rintro v1 w1 ⟨rfl, hS⟩; cases hdn : c.dn)
 all_goals (refine Zbf ?_)
 all_goals
  first
  | (refine zct ?_
     all_goals (refine zsk ?_; refine QV ?_; refine Zae ?_; obtain ⟨ms, rfl, hkm⟩ := hQ.on hdn; have hRA' := hRA.nx hkm; refine zR1 (c := QaQ hQ hR hsh (by omega) hfn1 hin1 hS) (h := ?_); rintro v1 w1 ⟨rfl, c', fr', g', s', inp', out', back', hQ', hfn', hin', hlt, hS⟩; refine zn ?_)
     all_goals (exact ⟨⟨Run.step m fuel.toNat (.on ms), c', fr', g', s', inp', out', back', zh, zh, hRA', hQ', (by rw [hfn']; exact hfn1), hin', hS.sp⟩, (by rw [Q8S (c := c') (L := L) (show St c2 _ (blk p 66 c'.cells :: L) from hS.sp), hm0]; exact hlt)⟩))
  | (refine zcf ?_
     all_goals (refine zex ?_; refine Zad ?_; obtain ⟨ho, hol, hbl⟩ := hQ.fin hRA hdn; obtain ⟨c3, hle3, hS2, hb3⟩ := St.freezeL (r := intR) (l := back) (hS.out (r := sl 2 1 c.bv (back.map Qh)) fd) Q6G rfl (by omega); obtain ⟨c4, hle4, hS3, ho4⟩ := St.freezeL (r := intR) (l := out) (hS2.out (r := sl 2 1 c.ov (out.map Qh)) fd) Q6G rfl (by omega); refine zR1 (c := Q8f (c := c) (by omega) (by omega) (Rep.SR.up hb3 hle4) ho4 (show St c4 _ (blk p 66 c.cells :: _) from (by have hS := hS3; exact hS.sp))) (h := ?_); rintro v1 w1 ⟨c5, u1, u2, hle5, rfl, k1, k2, hS⟩; obtain ⟨a1, n1, rfl⟩ := Rep.SR.shape k1; obtain ⟨a2, n2, rfl⟩ := Rep.SR.shape k2; refine zb0 [_, _] ?_; refine zsn hS ?_; intro w1 hS; have hS := hS.ns; refine zsn hS ?_; intro w1 hS; have hS := hS.ns; refine ZaV ?_; refine QdR vw (Qm (n := 4) (by kernel_rfl) (by kernel_rfl) (hS.blkAt fd) (by rfl) (by rfl)) vw (Qm (n := 2) (by kernel_rfl) (by kernel_rfl) (hS.blkAt fd) (by rfl) (by rfl)) ?_)
     all_goals ((first | exact ⟨_, rfl, .inl ⟨hz, rfl, hS.sp⟩⟩ | exact ⟨_, rfl, .inr ⟨hs0, hR, c5, .slice a1 back.length n1, .slice a2 out.length n2, hle2.trans (hle3.trans (hle4.trans hle5)), by rw [ho]; rfl, by rw [ho]; exact k1, by rw [ho]; exact k2, hS.sp⟩⟩)))
end Go.Proofs.YteflkifmgnpbhaaGreat
namespace Go.Proofs.YteflkifmgnpbhaaGreat
open Go.Lir
set_option maxHeartbeats 1000000
attribute [local irreducible] LC.wp Q0 Ql Qj retQ Qx LO.wp Q8 Calls
set_option linter.unusedSimpArgs false
set_option linter.unusedVariables false
variable {cx : Cx} {w : World} {L : List Res} {i : Nat}
def toZ : To := ⟨0, [], []⟩
@[reducible] def Q7D (n : Int) : Module := ⟨[⟨0, [], [.mk 1 0 []], [⟨0, [], [⟨1, 0, 0, 0, 0, 5, [], []⟩], ⟨3, 0, toZ, toZ, [n]⟩⟩]⟩]⟩
theorem Q7C (n : Int) : (Q7D n).Short := by
 refine ⟨Nat.le_of_ble_eq_true rfl, fun f hf => ?_⟩
 simp [Q7D] at hf; subst hf
 refine ⟨⟨Nat.le_of_ble_eq_true rfl, by simp⟩, ⟨Nat.le_of_ble_eq_true rfl, fun t ht => ?_⟩, Nat.le_of_ble_eq_true rfl, fun b hb => ?_⟩
 · simp at ht; subst ht; exact .mk (by decide) (by simp)
 · simp at hb; subst hb
   refine ⟨⟨Nat.le_of_ble_eq_true rfl, by simp⟩, Nat.le_of_ble_eq_true rfl, fun i hi => ?_, ⟨Nat.le_of_ble_eq_true rfl, Nat.le_of_ble_eq_true rfl⟩, ⟨Nat.le_of_ble_eq_true rfl, Nat.le_of_ble_eq_true rfl⟩, by simp⟩
   simp at hi; subst hi; exact ⟨by decide, by decide⟩
theorem five_o (hS : St cx w L) : Rets Tryz.prog Qcj [] w fun u w' => ∃ q1 q2 q3 la lb, u = .agg ⟨[.slice (some ⟨la, 0, none⟩) 1 1]⟩ ∧ St cx w' (blk q1 115 [.int .i64 1, .int .i64 0, .slice none 0 0] :: blk q2 84 [.int .i64 1, .int .i64 0, .int .i64 0, .int .i64 0, .int .i64 0, .int .i64 5, .slice none 0 0, .slice none 0 0] :: blk q3 3 [.int .i64 0] :: blk lb 92 [.int .i64 0, .slice none 0 0, .slice (some ⟨q2, 0, none⟩) 1 1, .int .i64 3, .int .i64 0, .int .i64 0, .slice none 0 0, .slice none 0 0, .int .i64 0, .slice none 0 0, .slice none 0 0, .slice (some ⟨q3, 0, none⟩) 1 1] :: blk la 95 [.int .i64 0, .slice none 0 0, .slice (some ⟨q1, 0, none⟩) 1 1, .slice (some ⟨lb, 0, none⟩) 1 1] :: L) := by
 all_goals refine lgo tyD Tryz.func50 ?_
 all_goals (refine Zaa ?_; refine Qk hS ?_; intro p0 w1 hS; refine Zaz ?_; refine zR0 (c := least_c hS) (h := ?_); rintro v1 w1 ⟨la, lb, rfl, hS⟩; simp only [Q8i] at hS; refine Qk hS ?_; intro p1 w1 hS; refine zsn hS ?_; intro w1 hS; have hS := hS.ns; refine Zaz ?_; refine zf0 ?_; refine zl hS ?_; refine zb1 [_, _, _] ?_; refine Q1Q (cs := [_, _, _]) vw (by rfl) ?_; intro q1 w1 hb1 hf1 _ hk1; have hS := hS.laid hb1 hf1 hk1; refine Q8I rfl rfl (by decide) (by decide) ?_; refine zf0 ?_; refine zst hS ?_; intro w1 hS; have hS := hS.ns; refine Zaz ?_; refine zf0 ?_; refine zl hS ?_; refine Q8I rfl rfl (by decide) (by decide) ?_; refine zf0 ?_; refine zl hS ?_; refine zb2 [_, _, _, _, _, _, _, _] ?_; refine Q1Q (cs := [_, _, _, _, _, _, _, _]) vw (by rfl) ?_; intro q2 w1 hb1 hf1 _ hk1; have hS := hS.laid hb1 hf1 hk1; refine Q8I rfl rfl (by decide) (by decide) ?_; refine zf0 ?_; refine zst hS ?_; intro w1 hS; have hS := hS.ns)
 all_goals (refine Zaz ?_; refine zf0 ?_; refine zl hS ?_; refine Q8I rfl rfl (by decide) (by decide) ?_; refine zf0 ?_; refine zl hS ?_; refine Q1Q (cs := [_]) vw (by rfl) ?_; intro q3 w1 hb1 hf1 _ hk1; have hS := hS.laid hb1 hf1 hk1; refine Q8I rfl rfl (by decide) (by decide) ?_; refine zf0 ?_; (first | refine zf0 ?_ | refine zfd ?_); refine zst hS ?_; intro w1 hS; have hS := hS.ns; refine Zaz ?_; refine zv hS ?_; refine zsn hS ?_; intro w1 hS; have hS := hS.ns; refine ZaV ?_; refine Q2a vw (Qm (n := 1) (by kernel_rfl) (by kernel_rfl) (hS.blkAt fd) (by rfl) (by rfl)) ?_; exact ⟨_, rfl, q1, q2, q3, la, lb, rfl, hS.sp⟩)
theorem Qez {q1 q2 q3 la lb : Nat} {n : Int} (hS : St cx w (blk q1 115 [.int .i64 1, .int .i64 0, .slice none 0 0] :: blk q2 84 [.int .i64 1, .int .i64 0, .int .i64 0, .int .i64 0, .int .i64 0, .int .i64 5, .slice none 0 0, .slice none 0 0] :: blk q3 3 [.int .i64 n] :: blk lb 92 [.int .i64 0, .slice none 0 0, .slice (some ⟨q2, 0, none⟩) 1 1, .int .i64 3, .int .i64 0, .int .i64 0, .slice none 0 0, .slice none 0 0, .int .i64 0, .slice none 0 0, .slice none 0 0, .slice (some ⟨q3, 0, none⟩) 1 1] :: blk la 95 [.int .i64 0, .slice none 0 0, .slice (some ⟨q1, 0, none⟩) 1 1, .slice (some ⟨lb, 0, none⟩) 1 1] :: L)) : ∃ c', cx.Le c' ∧ modR.at c' [.slice (some ⟨la, 0, none⟩) 1 1] (Q7D n) ∧ St c' w L := by
 have n0 : ∀ c : Cx, tyR.sl c (.slice none 0 0) [] := fun c => Rep.SR.nil _ _ _
 have n1 : ∀ c : Cx, intR.sl c (.slice none 0 0) [] := fun c => Rep.SR.nil _ _ _
 obtain ⟨c1, hle1, hS, h1⟩ := St.freeze1 (r := tyR) (x := .mk 1 0 []) hS (Q2E (n0 _))
 obtain ⟨c2, hle2, hS, h2⟩ := St.freeze1 (r := insR) (x := ⟨1, 0, 0, 0, 0, 5, [], []⟩) hS ⟨_, _, rfl, n1 _, n1 _⟩
 obtain ⟨c3, hle3, hS, h3⟩ := St.freeze1 (r := intR) (x := n) hS rfl
 obtain ⟨c4, hle4, hS, h4⟩ := St.freeze1 (r := blockR) (x := ⟨0, [], [⟨1, 0, 0, 0, 0, 5, [], []⟩], ⟨3, 0, toZ, toZ, [n]⟩⟩) hS (Qap (x := ⟨0, [], [⟨1, 0, 0, 0, 0, 5, [], []⟩], ⟨3, 0, toZ, toZ, [n]⟩⟩) (n0 _) (Rep.SR.up h2 hle3) (n1 _) (n1 _) (n1 _) (n1 _) h3)
 obtain ⟨c5, hle5, hS, h5⟩ := St.freeze1 (r := funcR) (x := ⟨0, [], [.mk 1 0 []], [⟨0, [], [⟨1, 0, 0, 0, 0, 5, [], []⟩], ⟨3, 0, toZ, toZ, [n]⟩⟩]⟩) hS ⟨_, _, _, rfl, n0 _, Rep.SR.up h1 (hle2.trans (hle3.trans hle4)), h4⟩
 exact ⟨c5, hle1.trans (hle2.trans (hle3.trans (hle4.trans hle5))), ⟨_, rfl, h5⟩, hS⟩
theorem five_c (hS : St cx w L) : Rets Tryz.prog Qcj [] w fun u w' => ∃ c' vf, cx.Le c' ∧ u = .agg ⟨[vf]⟩ ∧ modR.at c' [vf] (Q7D 0) ∧ St c' w' L := by
 refine (five_o hS).mono fun u w' h => ?_
 obtain ⟨q1, q2, q3, la, lb, rfl, hS⟩ := h
 obtain ⟨c', h1, h2, h3⟩ := Qez hS
 exact ⟨c', _, h1, rfl, h2, h3⟩
end Go.Proofs.YteflkifmgnpbhaaGreat
namespace Go.Proofs.YteflkifmgnpbhaaGreat
open Go.Lir
set_option maxHeartbeats 1000000
attribute [local irreducible] LC.wp Q0 Ql Qj retQ Qx LO.wp Q8 Calls
set_option linter.unusedSimpArgs false
set_option linter.unusedVariables false
theorem Q8p {x : Module} {cx : Cx} {w : World} {L : List Res} {cs : List Value} (hx : modR.at cx cs x) (hS : St cx w L) : Rets Tryz.prog Q9p [.agg ⟨cs⟩] w fun u w' => ∃ b, u = .bool b ∧ (b = false → x.Few) ∧ St cx w' L := by
 obtain ⟨vf, rfl, hl⟩ := Q1A hx
 obtain ⟨l⟩ := x
 have hl : funcR.sl cx vf l := hl
 have hlen := hl.len
 all_goals refine lgo tyD Tryz.func18 ?_
 all_goals (refine Zan ?_; intro p1 w1 hS; refine Zac ?_; refine ZaO ?_; refine zf0 ?_; refine zl hS ?_; refine zL ?_)
 all_goals (first | (refine Q1k ?_) | (refine Q1n ?_) | (refine Qs rfl rfl (fun hc => ?_) (fun hc => ?_)))
 all_goals (refine zn ?_)
 all_goals
  first
  | (refine zct ?_
     all_goals (refine Zay ?_)
     all_goals (exact ⟨_, rfl, true, rfl, fun h => Bool.noConfusion h, hS.sp⟩))
  | (refine zcf ?_
     all_goals refine zsk ?_)
 all_goals (refine Q6 ?_; refine Zaf ?_; refine QV ?_)
 refine zoL hS [1] (fun A LL ρ' w' => ∃ (j : Nat), Has ρ' A ∧ Has ρ' [(3, .int .i64 j)] ∧ (j ≤ l.length) ∧ (l.length ≤ 20) ∧ (∀ f ∈ l.take j, f.Few) ∧ St cx w' (LL)) (fun ρ' _ => (l.length - iv (ρ' 3)).toNat) ?_ ?_
 · exact ⟨0, zh, zh, (by omega), (by omega), by simp, hS.sp⟩
 rintro ρ w1 ⟨j, hA, hρ, hj, hl20, hd, hS⟩; obtain ⟨ρ, rfl⟩ := env2 hA hρ
 all_goals (refine Zat ?_; refine zf0 ?_; refine zl hS ?_; refine zL ?_; refine Q2p rfl rfl ?_; refine zn ?_)
 refine Qr rfl (fun hc => ?_) (fun hc => ?_)
 · skip
   all_goals (refine ZaS ?_; refine zf0 ?_; refine zl hS ?_; refine zm ?_; refine zi ?_; intro b1 o1 cs1 x1 hat1 hx1 he1; obtain ⟨vp1, vr1, vb1, rfl, hp1, hr1, hb1⟩ := Q1s he1; refine Zah ?_; intro p4 w1 hS; refine zsn hS ?_; intro w1 hS; have hS := hS.ns; refine Zbh ?_; refine zf0 ?_; refine zl hS ?_; refine zL ?_)
   all_goals (first | (refine Q1k ?_) | (refine Q1n ?_) | (refine Qs rfl rfl (fun hc => ?_) (fun hc => ?_)))
   all_goals (refine zm ?_; (first | refine zgn ?_ | (refine zgy ?_; refine zf0 ?_)); (first | refine zgn ?_ | (refine zgy ?_; refine zl hS ?_)))
   all_goals ((first | (refine zgn ?_) | (refine zgy ?_; refine zR1 (c := Q9d hp1 hS) (h := ?_); rintro v1 w1 ⟨rfl, hS⟩; cases hg1 : Tys.great x1.params)))
   all_goals (refine Zao ?_; (first | refine zgn ?_ | (refine zgy ?_; refine zf0 ?_)); (first | refine zgn ?_ | (refine zgy ?_; refine zl hS ?_)))
   all_goals ((first | (refine zgn ?_) | (refine zgy ?_; refine zR1 (c := Q9d hr1 hS) (h := ?_); rintro v1 w1 ⟨rfl, hS⟩; cases hg2 : Tys.great x1.results)))
   all_goals (refine Zau ?_)
   all_goals
    first
    | (refine zct ?_
       all_goals (refine Zay ?_)
       all_goals (exact ⟨_, rfl, true, rfl, fun h => Bool.noConfusion h, hS.sp⟩))
    | (refine zcf ?_
       all_goals refine zsk ?_)
   all_goals (refine Q6 ?_; have hlb := hb1.len; refine Qc ?_; refine Zaw ?_)
   refine zoL hS [1, 3, 4] (fun A LL ρ' w' => ∃ (i : Nat), Has ρ' A ∧ Has ρ' [(5, .int .i64 i)] ∧ (i ≤ x1.blocks.length) ∧ (x1.blocks.length ≤ 30) ∧ (Tys.great x1.params = false) ∧ (Tys.great x1.results = false) ∧ (∀ f ∈ x1.blocks.take i, f.Few) ∧ St cx w' (LL)) (fun ρ' _ => (x1.blocks.length - iv (ρ' 5)).toNat) ?_ ?_
   · exact ⟨0, zh, zh, (by omega), (by omega), by assumption, by assumption, by simp, hS.sp⟩
   rintro ρ w1 ⟨i, hA, hρ, hi, hl30, hg1, hg2, hd1, hS⟩; obtain ⟨ρ, rfl⟩ := env2 hA hρ
   all_goals (refine Zat ?_; refine zf0 ?_; refine zl hS ?_; refine zL ?_; refine Q2p rfl rfl ?_; refine zn ?_)
   refine Qr rfl (fun hc => ?_) (fun hc => ?_)
   · skip
     all_goals (refine ZaS ?_; refine zf0 ?_; refine zl hS ?_; refine zm ?_; refine zi ?_; intro b2 o2 cs2 x2 hat2 hx2 he2; obtain ⟨vp2, vc2, ve21, ve22, ve23, ve24, ve25, rfl, hp2, hc2, he21, he22, he23, he24, he25⟩ := Q2q he2; refine Zah ?_; intro p6 w1 hS; refine zsn hS ?_; intro w1 hS; have hS := hS.ns; refine Zbh ?_; refine zf0 ?_; refine zl hS ?_; refine zL ?_)
     all_goals (first | (refine Q1k ?_) | (refine Q1n ?_) | (refine Qs rfl rfl (fun hc => ?_) (fun hc => ?_)))
     all_goals (refine zm ?_; (first | refine zgn ?_ | (refine zgy ?_; refine zf0 ?_)); (first | refine zgn ?_ | (refine zgy ?_; refine zl hS ?_)))
     all_goals ((first | (refine zgn ?_) | (refine zgy ?_; refine zR1 (c := Q9d hp2 hS) (h := ?_); rintro v1 w1 ⟨rfl, hS⟩; cases hg3 : Tys.great x2.params)))
     all_goals (refine Zao ?_; (first | refine zgn ?_ | (refine zgy ?_; refine zf0 ?_)); (first | refine zgn ?_ | (refine Zav ?_)); (first | refine zgn ?_ | (refine zgy ?_; refine zl hS ?_)); (first | refine zgn ?_ | (refine zgy ?_; refine zL ?_)))
     all_goals (first | refine zgn ?_ | (refine zgy ?_; (first | (refine Q1k ?_) | (refine Q1n ?_) | (refine Qs rfl rfl (fun hc => ?_) (fun hc => ?_)))))
     all_goals (refine Zao ?_; (first | refine zgn ?_ | (refine zgy ?_; refine zf0 ?_)); (first | refine zgn ?_ | (refine Zav ?_)); (first | refine zgn ?_ | (refine Zav ?_)); (first | refine zgn ?_ | (refine zgy ?_; refine zl hS ?_)); (first | refine zgn ?_ | (refine zgy ?_; refine zL ?_)))
     all_goals (first | refine zgn ?_ | (refine zgy ?_; (first | (refine Q1k ?_) | (refine Q1n ?_) | (refine Qs rfl rfl (fun hc => ?_) (fun hc => ?_)))))
     all_goals (refine Zao ?_; (first | refine zgn ?_ | (refine zgy ?_; refine zf0 ?_)); (first | refine zgn ?_ | (refine Zav ?_)); (first | refine zgn ?_ | (refine Zav ?_)); (first | refine zgn ?_ | (refine zgy ?_; refine zl hS ?_)); (first | refine zgn ?_ | (refine zgy ?_; refine zL ?_)))
     all_goals (first | refine zgn ?_ | (refine zgy ?_; (first | (refine Q1k ?_) | (refine Q1n ?_) | (refine Qs rfl rfl (fun hc => ?_) (fun hc => ?_)))))
     all_goals (refine Zao ?_; (first | refine zgn ?_ | (refine zgy ?_; refine zf0 ?_)); (first | refine zgn ?_ | (refine Zav ?_)); (first | refine zgn ?_ | (refine Zav ?_)); (first | refine zgn ?_ | (refine zgy ?_; refine zl hS ?_)); (first | refine zgn ?_ | (refine zgy ?_; refine zL ?_)))
     all_goals (first | refine zgn ?_ | (refine zgy ?_; (first | (refine Q1k ?_) | (refine Q1n ?_) | (refine Qs rfl rfl (fun hc => ?_) (fun hc => ?_)))))
     all_goals (refine Zao ?_; (first | refine zgn ?_ | (refine zgy ?_; refine zf0 ?_)); (first | refine zgn ?_ | (refine Zav ?_)); (first | refine zgn ?_ | (refine Zav ?_)); (first | refine zgn ?_ | (refine zgy ?_; refine zl hS ?_)); (first | refine zgn ?_ | (refine zgy ?_; refine zL ?_)))
     all_goals (first | refine zgn ?_ | (refine zgy ?_; (first | (refine Q1k ?_) | (refine Q1n ?_) | (refine Qs rfl rfl (fun hc => ?_) (fun hc => ?_)))))
     all_goals (refine Zau ?_)
     all_goals
      first
      | (refine zct ?_
         all_goals (refine Zay ?_)
         all_goals (exact ⟨_, rfl, true, rfl, fun h => Bool.noConfusion h, hS.sp⟩))
      | (refine zcf ?_
         all_goals refine zsk ?_)
     all_goals (refine Q6 ?_; have hlc := hc2.len; refine Qc ?_; refine Zaw ?_)
     refine zoL hS [1, 3, 4, 5, 6] (fun A LL ρ' w' => ∃ (k : Nat), Has ρ' A ∧ Has ρ' [(7, .int .i64 k)] ∧ (k ≤ x2.code.length) ∧ (x2.code.length ≤ 200) ∧ (Tys.great x2.params = false) ∧ (x2.fin.Few) ∧ (∀ f ∈ x2.code.take k, f.Few) ∧ St cx w' (LL)) (fun ρ' _ => (x2.code.length - iv (ρ' 7)).toNat) ?_ ?_
     · exact ⟨0, zh, zh, (by omega), (by omega), by assumption, ⟨⟨by omega, by omega⟩, ⟨by omega, by omega⟩, by omega⟩, by simp, hS.sp⟩
     rintro ρ w1 ⟨k, hA, hρ, hk, hl200, hg3, hfin, hd2, hS⟩; obtain ⟨ρ, rfl⟩ := env2 hA hρ
     all_goals (refine Zat ?_; refine zf0 ?_; refine zl hS ?_; refine zL ?_; refine Q2p rfl rfl ?_; refine zn ?_)
     refine Qr rfl (fun hc => ?_) (fun hc => ?_)
     · skip
       all_goals (refine ZaS ?_; refine zf0 ?_; refine zl hS ?_; refine zm ?_; refine zi ?_; intro b3 o3 cs3 x3 hat3 hx3 he3; obtain ⟨vr3, va3, rfl, hr3, ha3⟩ := Q1i he3; (first | refine zf0 ?_ | refine zfd ?_); (first | (refine zl hS ?_) | (refine zlk hS ?_) | (refine zlj hS ?_)); refine zL ?_)
       all_goals (first | (refine Q1k ?_) | (refine Q1n ?_) | (refine Qs rfl rfl (fun hc => ?_) (fun hc => ?_)))
       all_goals (refine zm ?_; (first | refine zgn ?_ | (refine zgy ?_; refine zf0 ?_)); (first | refine zgn ?_ | (refine zgy ?_; refine zl hS ?_)); (first | refine zgn ?_ | (refine Zap ?_)); (first | (refine zgn ?_) | (refine zgy ?_; refine Q6Y vw rfl (by assumption) rfl (by omega) ?_; intro b4 o4 cs4 x4 hat4 hx4 he4; rw [hx3] at hx4; obtain rfl : x3 = x4 := Option.some.inj hx4; obtain ⟨vr4, va4, rfl, hr4, ha4⟩ := Q1i he4)); (first | refine zgn ?_ | (refine Zav ?_)); (first | refine zgn ?_ | (refine zgy ?_; (first | (refine zl hS ?_) | (refine zlk hS ?_) | (refine zlj hS ?_)))); (first | refine zgn ?_ | (refine zgy ?_; refine zL ?_)))
       all_goals (first | refine zgn ?_ | (refine zgy ?_; (first | (refine Q1k ?_) | (refine Q1n ?_) | (refine Qs rfl rfl (fun hc => ?_) (fun hc => ?_)))))
       all_goals (refine Zau ?_)
       all_goals
        first
        | (refine zct ?_
           all_goals (refine Zay ?_)
           all_goals (exact ⟨_, rfl, true, rfl, fun h => Bool.noConfusion h, hS.sp⟩))
        | (refine zcf ?_
           all_goals refine zsk ?_)
       all_goals (refine Zae ?_; refine zad ?_; refine Zac ?_; exact ⟨⟨k + 1, zh, zh, (by omega), (by omega), by assumption, by assumption, Q6M hd2 hx3 ⟨by omega, by omega⟩, hS.sp⟩, Qv (by omega)⟩)
     · skip
       all_goals (refine zex ?_; refine Zae ?_; refine zad ?_; refine Zac ?_; exact ⟨⟨i + 1, zh, zh, (by omega), (by omega), by assumption, by assumption, Q6M hd1 hx2 ⟨hg3, by omega, Q6L hd2 (by omega), hfin⟩, hS.sp⟩, Qv (by omega)⟩)
   · skip
     all_goals (refine zex ?_; refine Zae ?_; refine zad ?_; refine Zac ?_; exact ⟨⟨j + 1, zh, zh, (by omega), (by omega), Q6M hd hx1 ⟨hg1, hg2, by omega, Q6L hd1 (by omega)⟩, hS.sp⟩, Qv (by omega)⟩)
 · skip
   all_goals (refine zex ?_; refine Zay ?_)
   all_goals (first | (exact ⟨_, rfl, true, rfl, fun h => Bool.noConfusion h, hS.sp⟩) | (have h1 : l.length ≤ 20 := (by omega); exact ⟨_, rfl, false, rfl, fun _ => ⟨h1, Q6L (l := l) hd (by omega)⟩, hS.sp⟩))
end Go.Proofs.YteflkifmgnpbhaaGreat
namespace Go.Proofs.YteflkifmgnpbhaaGreat
open Go.Lir
set_option maxHeartbeats 1000000
attribute [local irreducible] LC.wp Q0 Ql Qj retQ Qx LO.wp Q8 Calls
set_option linter.unusedSimpArgs false
set_option linter.unusedVariables false
variable {cx : Cx} {w : World} {L : List Res} {m : Module} {inp : List Int}
theorem QbM {l m : List Int} {v v2 : Value} (hl : intR.sl cx v l) (hm : intR.sl cx v2 m) (hS : St cx w L) : Rets Tryz.prog Qbt [v, v2] w fun u w' => u = .bool (decide (l = m)) ∧ St cx w' L := by
 have hlen := hl.len
 all_goals refine lgo tyD Tryz.func78 ?_
 all_goals (refine ZaT ?_; refine zL ?_; refine zm ?_; refine zL ?_)
 all_goals (first | (refine Q1O ?_) | (refine Q1P ?_) | (refine QP rfl rfl (fun hc => ?_) (fun hc => ?_)))
 all_goals (refine zn ?_)
 all_goals
  first
  | (refine zct ?_
     all_goals (refine Zay ?_)
     all_goals (refine ⟨_, rfl, ?_, hS.sp⟩; rw [decide_eq_false]; exact fun e => absurd (congrArg List.length e) (by omega); done))
  | (refine zcf ?_
     all_goals refine zsk ?_)
 all_goals (refine Q6 ?_; refine Zaf ?_; refine QV ?_)
 refine zoL hS [0, 1] (fun A LL ρ' w' => ∃ (j : Nat), Has ρ' A ∧ Has ρ' [(5, .int .i64 j)] ∧ (j ≤ l.length) ∧ (l.length = m.length) ∧ (l = m ↔ l.drop j = m.drop j) ∧ St cx w' (LL)) (fun ρ' _ => (l.length - iv (ρ' 5)).toNat) ?_ ?_
 · exact ⟨0, zh, zh, (by omega), (by omega), by simp, hS.sp⟩
 rintro ρ w1 ⟨j, hA, hρ, hj, hlm, hd, hS⟩; obtain ⟨ρ, rfl⟩ := env2 hA hρ
 all_goals (refine Zat ?_; refine zm ?_; refine zL ?_; refine Q2p rfl rfl ?_; refine zn ?_)
 refine Qr rfl (fun hc => ?_) (fun hc => ?_)
 · skip
   all_goals (refine ZaA ?_; refine Q6 ?_; refine zD (ci 9 [8]) ?_; have hS := hS.drew; refine ZaE ?_; refine zi ?_; intro b1 o1 cs1 x1 hat1 hx1 he1; obtain rfl := Q1d he1; (first | (refine zl hS ?_) | (refine zlk hS ?_)); refine ZaE ?_; refine zi ?_; intro b2 o2 cs2 x2 hat2 hx2 he2; obtain rfl := Q1d he2; (first | (refine zl hS ?_) | (refine zlk hS ?_)))
   all_goals (first | (refine Q1O ?_) | (refine Q1P ?_) | (refine QP rfl rfl (fun hc => ?_) (fun hc => ?_)))
   all_goals (refine zn ?_)
   all_goals
    first
    | (refine zct ?_
       all_goals (refine Zay ?_)
       all_goals (first | (refine ⟨_, rfl, ?_, hS.sp⟩; rw [decide_eq_false]; exact fun e => absurd (congrArg List.length e) (by omega); done) | (refine ⟨_, rfl, ?_, hS.sp⟩; rw [decide_eq_false]; rw [hd, Qa hx1, Qa hx2]; simp [*]; done)))
    | (refine zcf ?_
       all_goals refine zsk ?_)
   all_goals (refine Zae ?_; refine zad ?_; refine Zac ?_; exact ⟨⟨j + 1, zh, zh, (by omega), (by omega), by rw [hd, Qa hx1, Qa hx2, show x1 = x2 by omega]; simp, hS.sp⟩, Qv (by omega)⟩)
 · skip
   all_goals (refine zex ?_; refine Zay ?_; (first | (refine ⟨_, rfl, ?_, hS.sp⟩; rw [decide_eq_false]; exact fun e => absurd (congrArg List.length e) (by omega); done) | (refine ⟨_, rfl, ?_, hS.sp⟩; rw [decide_eq_false]; rw [hd, Qa hx1, Qa hx2]; simp [*]; done) | (refine ⟨_, rfl, ?_, hS.sp⟩; rw [decide_eq_true]; rw [hd, List.drop_of_length_le (by omega), List.drop_of_length_le (by omega)]; done)))
theorem Q72 {e e2 f f2 : Int} {xs ys xs2 ys2 : List Int} {v1 v2 v3 v4 : Value} (h1 : intR.sl cx v1 xs) (h2 : intR.sl cx v2 ys) (h3 : intR.sl cx v3 xs2) (h4 : intR.sl cx v4 ys2) (hS : St cx w L) :
 Rets Tryz.prog Q9o [.agg ⟨[.int .i64 e, v1, v2, .int .i64 f]⟩, .agg ⟨[.int .i64 e2, v3, v4, .int .i64 f2]⟩] w fun u w' => u = .bool (decide (e = e2 ∧ xs = xs2 ∧ ys = ys2 ∧ f = f2)) ∧ St cx w' L := by
 all_goals refine lgo tyD Tryz.func31 ?_
 all_goals (refine Zan ?_; intro p2 w1 hS; refine zb hS ?_; intro p3 w1 hS; refine Zac ?_; refine Zaa ?_; refine zf0 ?_; refine zl hS ?_; refine zf0 ?_; refine zl hS ?_)
 all_goals (first | (refine Qu ?_) | (refine QD ?_) | (refine Qe rfl rfl (fun hc => ?_) (fun hc => ?_)))
 all_goals (refine zm ?_; (first | refine zgn ?_ | (refine zgy ?_; refine zf0 ?_)); (first | refine zgn ?_ | (refine zgy ?_; refine zl hS ?_)); (first | refine zgn ?_ | (refine zgy ?_; refine zf0 ?_)); (first | refine zgn ?_ | (refine zgy ?_; refine zl hS ?_)))
 all_goals ((first | (refine zgn ?_) | (refine zgy ?_; refine zR2 (c := QbM h1 h3 hS) (h := ?_); rintro v1 w1 ⟨rfl, hS⟩; (cases hdec : decide (xs = xs2)); have hg := of_decide_eq_false hdec; rotate_left; have hg := of_decide_eq_true hdec; all_goals skip)))
 all_goals (refine Zao ?_; (first | refine zgn ?_ | (refine zgy ?_; refine zf0 ?_)); (first | refine zgn ?_ | (refine zgy ?_; refine zl hS ?_)); (first | refine zgn ?_ | (refine zgy ?_; refine zf0 ?_)); (first | refine zgn ?_ | (refine zgy ?_; refine zl hS ?_)))
 all_goals ((first | (refine zgn ?_) | (refine zgy ?_; refine zR2 (c := QbM h2 h4 hS) (h := ?_); rintro v1 w1 ⟨rfl, hS⟩; (cases hdec : decide (ys = ys2)); have hg := of_decide_eq_false hdec; rotate_left; have hg := of_decide_eq_true hdec; all_goals skip)))
 all_goals (refine Zao ?_; (first | refine zgn ?_ | (refine zgy ?_; refine zf0 ?_)); (first | refine zgn ?_ | (refine zgy ?_; refine zl hS ?_)); (first | refine zgn ?_ | (refine zgy ?_; refine zf0 ?_)); (first | refine zgn ?_ | (refine zgy ?_; refine zl hS ?_)))
 all_goals (first | refine zgn ?_ | (refine zgy ?_; (first | (refine Qu ?_) | (refine QD ?_) | (refine Qe rfl rfl (fun hc => ?_) (fun hc => ?_)))))
 all_goals (refine Zbl ?_; refine ⟨_, rfl, ?_, hS.sp⟩; (simp [*]); done)
theorem long_c {fuel : Int} {cs : List Value} (hx : modR.at cx cs m) (hS : St cx w L) : Rets Tryz.prog Law_long [.agg ⟨cs⟩, .int .i64 fuel] w fun u w' => ∃ b, u = .bool b ∧ (b = false → m.Few ∧ fuel ≤ 3000) ∧ St cx w' L := by
 have hx' := hx
 obtain ⟨vf, rfl, hf⟩ := Q1A hx
 all_goals refine lgo tyD Tryz.func14 ?_
 all_goals (refine Zan ?_; intro p2 w1 hS; refine Zac ?_; refine Zaa ?_; refine zv hS ?_)
 all_goals (refine zR1 (c := Q8p hx' hS) (h := ?_); rintro v1 w1 ⟨b, rfl, hb, hS⟩; cases b)
 all_goals (refine zm ?_; (first | refine zgn ?_ | (refine Zap ?_)))
 all_goals (first | refine zgn ?_ | (refine zgy ?_; (first | (refine Q1k ?_) | (refine Q1n ?_) | (refine Qs rfl rfl (fun hc => ?_) (fun hc => ?_)))))
 all_goals (refine Zbl ?_)
 all_goals ((first | exact ⟨_, rfl, true, rfl, (fun h => by cases h), hS.sp⟩ | exact ⟨_, rfl, _, rfl, (fun h9 => ⟨hb rfl, by first | omega | (have := of_decide_eq_false h9; omega)⟩), hS.sp⟩))
end Go.Proofs.YteflkifmgnpbhaaGreat
namespace Go.Proofs.YteflkifmgnpbhaaGreat
open Go.Lir
set_option maxHeartbeats 1000000
attribute [local irreducible] LC.wp Q0 Ql Qj retQ Qx LO.wp Q8 Calls
set_option linter.unusedSimpArgs false
set_option linter.unusedVariables false
variable {cx : Cx} {w : World} {L : List Res} {m : Module} {inp : List Int}
theorem Qbl : Q20 (Q7D 0) [] 9 0 = (0, 0) := by decide +kernel
theorem five_ocW : (Run.all (Q7D 0) [] (9 : Int).toNat 0).oc = ⟨0, [5], [], 2⟩ := by rfl
theorem Q6j : Q20 (Q7D 1) [] 9 0 = (1, 91) := by decide +kernel
theorem RRunS.ok {fuel pages : Int} {u : Value} (hz : Q20 m inp fuel pages = (0, 0)) (hs : RRunS m inp fuel pages cx L u w) : m.runs.1 = 0 ∧ ∃ c' v1 v2, cx.Le c' ∧ u = .tuple #[ocV (Run.all m inp fuel.toNat pages).oc v1 v2, fltV (0, 0)] ∧ intR.sl c' v1 (Run.all m inp fuel.toNat pages).oc.back ∧ intR.sl c' v2 (Run.all m inp fuel.toNat pages).oc.out ∧ St c' w L := by
 rcases hs with ⟨h1, _⟩ | ⟨_, h1⟩
 · rw [hz] at h1; exact absurd rfl h1
 · exact h1
theorem RRunS.bad {fuel pages : Int} {u : Value} (hz : (Q20 m inp fuel pages).1 ≠ 0) (hs : RRunS m inp fuel pages cx L u w) : u = .tuple #[.agg ⟨[.int .i64 0, .slice none 0 0, .slice none 0 0, .int .i64 0]⟩, fltV (Q20 m inp fuel pages)] ∧ St cx w L := by
 rcases hs with ⟨_, h1⟩ | ⟨h1, _⟩
 · exact h1
 · rw [h1] at hz; exact absurd rfl hz
theorem againR {fuel pages : Int} {u : Value} (hs : RRunS m inp fuel pages cx L u w) : ((Q20 m inp fuel pages).1 ≠ 0 ∧ u = .tuple #[.agg ⟨[.int .i64 0, .slice none 0 0, .slice none 0 0, .int .i64 0]⟩, fltV (Q20 m inp fuel pages)] ∧ St cx w L) ∨
 (Q20 m inp fuel pages = (0, 0) ∧ ∃ c' a1 x1 y1 a2 x2 y2 oc, (Run.all m inp fuel.toNat pages).oc = oc ∧ cx.Le c' ∧ u = .tuple #[.agg ⟨[.int .i64 oc.e, .slice a1 x1 y1, .slice a2 x2 y2, .int .i64 oc.fuel]⟩, fltV (0, 0)] ∧ intR.sl c' (.slice a1 x1 y1) oc.back ∧ intR.sl c' (.slice a2 x2 y2) oc.out ∧ St c' w L) := by
 rcases hs with h | ⟨h1, -, c', v1, v2, h2, h3, h4, h5, h6⟩
 · exact .inl h
 · obtain ⟨a1, y1, rfl⟩ := Rep.SR.shape h4
   obtain ⟨a2, y2, rfl⟩ := Rep.SR.shape h5
   exact .inr ⟨h1, c', a1, _, y1, a2, _, y2, _, rfl, h2, h3, h4, h5, h6⟩
theorem rfive_c {vf : Value} (hx : modR.at cx [vf] (Q7D 0)) (hS : St cx w L) : Rets Tryz.prog QaU [.agg ⟨[vf]⟩, .slice none 0 0, .int .i64 9, .int .i64 0] w fun u w' => ∃ c' u1 u2, cx.Le c' ∧ u = .tuple #[.agg ⟨[.int .i64 0, u1, u2, .int .i64 2]⟩, .agg ⟨[.int .i64 0, .int .i64 0]⟩] ∧ intR.sl c' u1 [5] ∧ intR.sl c' u2 [] ∧ St c' w' L := by
 refine (QdF (m := Q7D 0) (inp := []) (Q7C 0) hx (Rep.SR.nil _ _ _) hS).mono fun u w' hs => ?_
 obtain ⟨-, c', v1, v2, h1, h2, h3, h4, h5⟩ := RRunS.ok Qbl hs
 rw [five_ocW] at h2 h3 h4
 exact ⟨c', v1, v2, h1, h2, h3, h4, h5⟩
theorem rfive1_c {vf : Value} (hx : modR.at cx [vf] (Q7D 1)) (hS : St cx w L) : Rets Tryz.prog QaU [.agg ⟨[vf]⟩, .slice none 0 0, .int .i64 9, .int .i64 0] w fun u w' => u = .tuple #[.agg ⟨[.int .i64 0, .slice none 0 0, .slice none 0 0, .int .i64 0]⟩, .agg ⟨[.int .i64 1, .int .i64 91]⟩] ∧ St cx w' L := by
 refine (QdF (m := Q7D 1) (inp := []) (Q7C 1) hx (Rep.SR.nil _ _ _) hS).mono fun u w' hs => ?_
 obtain ⟨h1, h2⟩ := RRunS.bad (by rw [Q6j]; decide) hs
 rw [Q6j] at h1
 exact ⟨h1, h2⟩
theorem Qcz (hS : St cx w L) : Rets Tryz.prog Qaw [] w fun u w' => u = .bool true ∧ St cx w' L := by
 have n1 : ∀ c : Cx, intR.sl c (.slice none 0 0) [] := fun c => Rep.SR.nil _ _ _
 all_goals refine lgo tyD Tryz.func32 ?_
 all_goals (refine Zaf ?_; refine Zaa ?_; refine zR0 (c := five_c hS) (h := ?_); rintro v1 w1 ⟨c1, vf, hle1, rfl, hx1, hS⟩; refine zR4 (c := rfive_c hx1 hS) (h := ?_); rintro v1 w1 ⟨c2, u1, u2, hle2, rfl, k1, k2, hS⟩; obtain ⟨a1, m1, rfl⟩ := Rep.SR.shape k1; obtain ⟨a2, m2, rfl⟩ := Rep.SR.shape k2; refine Zbn ?_; intro p1 w1 hS; refine Qk hS ?_; intro p2 w1 hS; refine zsn hS ?_; intro w1 hS; have hS := hS.ns; refine zsn hS ?_; intro w1 hS; have hS := hS.ns; refine Zaz ?_; refine zR0 (c := five_o hS) (h := ?_); rintro v1 w1 ⟨q1, q2, q3, la, lb, rfl, hS⟩; refine Qk hS ?_; intro p3 w1 hS; refine zsn hS ?_; intro w1 hS; have hS := hS.ns; refine Zaz ?_; refine zf0 ?_; refine zl hS ?_; refine Q8I rfl rfl (by decide) (by decide) ?_; refine zf0 ?_; refine zl hS ?_; refine zB1 hS [_] ?_; intro q4 w1 hS; refine Q8I rfl rfl (by decide) (by decide) ?_; refine zf0 ?_)
 all_goals ((first | refine zf0 ?_ | refine zfd ?_); refine zst hS ?_; intro w1 hS; have hS := hS.ns; refine Zaz ?_; refine zv hS ?_; obtain ⟨c3, hle3, hx3, hS⟩ := Qez (q1 := q1) (q2 := q2) (q3 := q4) (la := la) (lb := lb) (n := 1) (L := blk p1 33 [.int .i64 0, .slice a1 [5].length m1, .slice a2 ([] : List Int).length m2, .int .i64 2] :: blk p2 29 [.int .i64 0, .int .i64 0] :: blk p3 24 [.slice (some ⟨la, 0, none⟩) 1 1] :: L) hS.sp; refine zR4 (c := rfive1_c hx3 hS) (h := ?_); rintro v1 w1 ⟨rfl, hS⟩; refine Zbn ?_; intro p4 w1 hS; refine Qk hS ?_; intro p5 w1 hS; refine zsn hS ?_; intro w1 hS; have hS := hS.ns; refine zsn hS ?_; intro w1 hS; have hS := hS.ns; refine Zaz ?_; refine zf0 ?_; refine zl hS ?_)
 all_goals (refine Qu ?_)
 all_goals (refine zm ?_; (first | refine zgn ?_ | (refine zgy ?_; refine zv hS ?_)); (first | (refine zgn ?_) | (refine zgy ?_; refine Q1Q (cs := [_]) vw (by rfl) ?_; intro q5 w1 hb1 hf1 _ hk1; have hS := hS.laid hb1 hf1 hk1)); (first | refine zgn ?_ | (refine zgy ?_; refine zb2 [_, _, _, _] ?_)); (first | (refine zgn ?_) | (refine zgy ?_; obtain ⟨c6, hle6, hS, h6⟩ := St.freeze1 (r := intR) (x := 5) hS rfl; refine zR2 (c := Q72 (Rep.SR.up k1 (hle3.trans hle6)) (Rep.SR.up k2 (hle3.trans hle6)) h6 (n1 _) hS) (h := ?_); rintro v1 w1 ⟨rfl, hS⟩; rw [show decide ((0 : Int) = 0 ∧ [(5 : Int)] = [5] ∧ ([] : List Int) = [] ∧ (2 : Int) = 2) = true by decide])); refine zpt ?_; refine zm ?_; (first | refine zgn ?_ | (refine zgy ?_; refine zv hS ?_)); (first | refine zgn ?_ | (refine zgy ?_; refine zb2 [_, _] ?_)); (first | (refine zgn ?_) | (refine zgy ?_; refine s_eq2_t (a := (1, 91)) flt_int2 rfl rfl ?_)); refine zpt ?_; refine Zaq ?_; exact ⟨_, rfl, rfl, St.weak hS.sp (hle1.trans (hle2.trans (hle3.trans hle6)))⟩)
end Go.Proofs.YteflkifmgnpbhaaGreat
namespace Go.Lir
def crc4 (c : BitVec 32) : List UInt8 := [UInt8.ofNat c.toNat, UInt8.ofNat (c >>> 8).toNat, UInt8.ofNat (c >>> 16).toNat, UInt8.ofNat (c >>> 24).toNat]
def Module.enc (m : Module) : List UInt8 := m.body ++ crc4 (crcOf m.body)
end Go.Lir
namespace Go.Lir
section
variable {bs : List UInt8} {at0 i u : Nat} {x : UInt8} {X : Got Nat}
end
end Go.Lir
namespace Go.Lir
section
variable {α : Type}
variable {f : List UInt8 → Got α} {N k n0 : Nat} {n : Int} {xs : List α} {r r1 r2 r3 : List UInt8} {a : α} {e : Flt} {X : Got (List α)}
end
end Go.Lir
namespace Go.Lir
section
variable {bs r : List UInt8} {N : Nat} {e : Flt} {l : List Fun}
end
end Go.Lir
namespace Go.Lir
set_option linter.unusedVariables false
section
variable {α β : Type} {M n : Nat}
def Goodp (M : Nat) (f : List UInt8 → Got α) (p : α → Prop) : Prop := ∀ r x r', r.length ≤ M → f r = .ok (x, r') → p x ∧ r'.length ≤ r.length
theorem Goodp.weak {f : List UInt8 → Got α} {p q : α → Prop} (h : Goodp M f p) (hq : ∀ x, p x → q x) : Goodp M f q := fun r x r' h1 h2 => ⟨hq x (h r x r' h1 h2).1, (h r x r' h1 h2).2⟩
end
end Go.Lir
namespace Go.Lir
section
variable {n : Nat} {r r1 r2 r3 r4 : List UInt8} {e : Flt} {op a : Int} {yes no : To} {l : List Int}
variable {h j : Nat} {x : Int × Int × Int × Int} {y : Int} {X : Got (Int × Int × Int × Int)}
end
end Go.Lir
namespace Go.Lir
set_option linter.unusedVariables false
section
variable {α : Type} {n : Nat}
def InI (x : Int) : Prop := -9223372036854775808 ≤ x ∧ x ≤ 9223372036854775807
def Qck (l : List Int) : Prop := l.length ≤ 9000000000000000000 ∧ ∀ x ∈ l, InI x
def ToOK (t : To) : Prop := InI t.block ∧ Qck t.regs ∧ Qck t.args
def InsOK (x : Ins) : Prop := (InI x.op ∧ InI x.a ∧ InI x.b ∧ InI x.c ∧ InI x.k ∧ InI x.n) ∧ ((¬ Q2D x.op / 2 ^ 0 % 2 = 1 → x.a = 0) ∧ (¬ Q2D x.op / 2 ^ 1 % 2 = 1 → x.b = 0) ∧ (¬ Q2D x.op / 2 ^ 2 % 2 = 1 → x.c = 0) ∧ (¬ Q2D x.op / 2 ^ 3 % 2 = 1 → x.k = 0)) ∧
 (¬ Q2D x.op / 64 % 2 = 1 → x.n = 0) ∧ (¬ Q2D x.op / 16 % 2 = 1 → x.regs = []) ∧ (¬ Q2D x.op / 32 % 2 = 1 → x.args = []) ∧ Qck x.regs ∧ Qck x.args
end
end Go.Lir
namespace Go.Lir
set_option linter.unusedVariables false
variable {α : Type}
def Rep.an (r : Rep α) (p : α → Prop) : Rep α where
 es := r.es
 pos := r.pos
 R := fun H K cs x => r.R H K cs x ∧ p x
 len := fun h => r.len h.1
 one := fun h => r.one h.1
 turn := fun h hs => ⟨r.turn h.1 hs, h.2⟩
def To.InR (t : To) : Prop := InI t.block ∧ (∀ n ∈ t.regs, InI n) ∧ ∀ n ∈ t.args, InI n
def Ins.InR (x : Ins) : Prop := (InI x.op ∧ InI x.a ∧ InI x.b ∧ InI x.c ∧ InI x.k ∧ InI x.n) ∧ (∀ n ∈ x.regs, InI n) ∧ ∀ n ∈ x.args, InI n
def Tail.InR (x : Tail) : Prop := InI x.op ∧ InI x.a ∧ x.yes.InR ∧ x.no.InR ∧ ∀ n ∈ x.args, InI n
def Block.InR (x : Block) : Prop := InI x.regs ∧ (∀ t ∈ x.params, t.InR) ∧ (∀ i ∈ x.code, i.InR) ∧ x.fin.InR
def Fun.InR (x : Fun) : Prop := InI x.regs ∧ (∀ t ∈ x.params, t.InR) ∧ (∀ t ∈ x.results, t.InR) ∧ ∀ b ∈ x.blocks, b.InR
def Module.InR (m : Module) : Prop := ∀ f ∈ m.funcs, f.InR
section
variable {P : Program} {T e : TypeId}
end
theorem Q3l {m : Module} (h : m.Few) : m.Short := by
 refine ⟨by have := h.1; omega, fun f hf => ?_⟩
 obtain ⟨h1, h2, h3, h4⟩ := h.2 f hf
 refine ⟨Tys.Short.of_great h1, Tys.Short.of_great h2, by omega, fun b hb => ?_⟩
 obtain ⟨g1, g2, g3, ⟨⟨g4, g5⟩, ⟨g6, g7⟩, g8⟩⟩ := h4 b hb
 exact ⟨Tys.Short.of_great g1, by omega, fun x hx => ⟨by have := (g3 x hx).1; omega, by have := (g3 x hx).2; omega⟩, ⟨by omega, by omega⟩, ⟨by omega, by omega⟩, by omega⟩
end Go.Lir
namespace Go.Proofs.YteflkifmgnpbhaaGreat
open Go.Lir
set_option maxHeartbeats 1000000
attribute [local irreducible] LC.wp Q0 Ql Qj retQ Qx LO.wp Q8 Calls
set_option linter.unusedSimpArgs false
set_option linter.unusedVariables false
variable {cx : Cx} {w : World} {L M : List Res} {m o : Module} {inp : List Int}
theorem St.left {c : Cx} (h : St c w (L ++ M)) : St c w L := (h.perm List.perm_append_comm).dropL
def YOK (o : Module) (most : Nat) (c' : Cx) (f : Flt) (y : Value) (M : List Res) : Prop := f.1 = 0 → o.runs.1 = 0 ∧ ∃ q r cy fr g s inp out back, y = .pointer (some ⟨q, 0, none⟩) ∧ QR o most cy fr g s inp out back r ∧ funcR.sl c' cy.fn o.funcs ∧ intR.sl c' cy.iv inp ∧ M = rS q cy fr g s out [sl 2 1 cy.bv (back.map Qh)]
theorem ynew_c {cs : List Value} {v : Value} {fuel pages : Int} (hsh : o.Short) (hx : modR.at cx cs o) (hi : intR.sl cx v inp) (hS : St cx w L) :
 Rets Tryz.prog QdO [.agg ⟨cs⟩, v, .int .i64 fuel, .int .i64 pages] w fun u w' => ∃ c' a f g M, u = .tuple #[.pointer a, .agg ⟨[.int .i64 f, .int .i64 g]⟩] ∧ cx.Le c' ∧ YOK o fuel.toNat c' (f, g) (.pointer a) M ∧ St c' w' (L ++ M) := by
 refine (QdH hsh hx hi hS).mono fun u w' hN => ?_
 rcases hN.split with ⟨hz, rfl, hS⟩ | ⟨hs0, hR, hil, hf0, hf1, q, rfl, hq, c2, p, ep, fn, lv, i1, rfl, hle2, hfn, hin, hS⟩
 · exact ⟨cx, none, _, _, [], rfl, St.refl hS, fun h => absurd h hz, by rw [List.append_nil]; exact hS⟩
 · refine ⟨c2, _, 0, 0, rS p (Q9W ep fn lv i1 fuel) [] Q9V (EstS.mk0 q) [] [sl 2 1 (.slice none 0 0) (([] : List Int).map Qh)], rfl, hle2, fun _ => ⟨hR, p, _, _, _, _, _, inp, _, [], rfl, QR.first hR hsh hf0 hq, hfn, hin, rfl⟩, ?_⟩
   have hS := hS.nil (T := 2) (es := 1)
   exact St.app (M := rS p (Q9W ep fn lv i1 fuel) [] Q9V (EstS.mk0 q) [] [sl 2 1 (.slice none 0 0) (([] : List Int).map Qh)]) (L := L) (by show St c2 _ (rS p (Q9W ep fn lv i1 fuel) [] Q9V (EstS.mk0 q) [] (sl 2 1 (.slice none 0 0) (([] : List Int).map Qh) :: L)); exact hS.sp)
theorem ystep_c {most : Nat} {a : Option Addr} {g : Int} (hsh : o.Short) (hmo : most ≤ 20000) (hY : YOK o most cx (0, g) (.pointer a) M) (hS : St cx w (L ++ M)) :
 Rets Tryz.prog Q1S [.pointer a] w fun u w' => u = .tuple #[] ∧ ∃ M', YOK o most cx (0, g) (.pointer a) M' ∧ St cx w' (L ++ M') := by
 obtain ⟨hR, q, r, cy, fr, g1, s, inp, out, back, hq, hQ, hfn, hi, rfl⟩ := hY rfl
 rw [hq]
 have hS : St cx w (rS q cy fr g1 s out (sl 2 1 cy.bv (back.map Qh) :: L)) := St.app (L := rS q cy fr g1 s out [sl 2 1 cy.bv (back.map Qh)]) (M := L) hS
 cases hdn : cy.dn
 · obtain ⟨ms, rfl, hkm⟩ := hQ.on hdn
   refine (QaQ hQ hR hsh hmo hfn hi hS).mono fun u w' h => ?_
   obtain ⟨rfl, c', fr', g', s', inp', out', back', hQ', hfn', hin', _, hS⟩ := h
   exact ⟨rfl, rS q c' fr' g' s' out' [sl 2 1 c'.bv (back'.map Qh)], fun _ => ⟨hR, q, _, c', fr', g', s', inp', out', back', rfl, hQ', by rw [hfn']; exact hfn, hin', rfl⟩, St.app (M := rS q c' fr' g' s' out' [sl 2 1 c'.bv (back'.map Qh)]) (L := L) hS⟩
 · refine (QaP hdn hS).mono fun u w' h => ?_
   exact ⟨h.1, rS q cy fr g1 s out [sl 2 1 cy.bv (back.map Qh)], fun _ => ⟨hR, q, r, cy, fr, g1, s, inp, out, back, rfl, hQ, hfn, hi, rfl⟩, St.app (M := rS q cy fr g1 s out [sl 2 1 cy.bv (back.map Qh)]) (L := L) h.2⟩
attribute [local irreducible] QR RA Run.all Run.oc YOK
theorem QcA {cs ds : List Value} {v : Value} {fuel pages : Int} (hx : modR.at cx cs m) (hxo : modR.at cx ds o) (hi : intR.sl cx v inp) (hS : St cx w L) : Rets Tryz.prog Q6o [.agg ⟨cs⟩, .agg ⟨ds⟩, v, .int .i64 fuel, .int .i64 pages] w fun u w' => u = .bool true ∧ St cx w' L := by
 have hx' := hx
 have hxo' := hxo
 obtain ⟨vf, rfl, hf⟩ := Q1A hx
 obtain ⟨vg, rfl, hg⟩ := Q1A hxo
 obtain ⟨af, nf, rfl⟩ := Rep.SR.shape hf
 obtain ⟨ag, ng, rfl⟩ := Rep.SR.shape hg
 have n1 : ∀ c : Cx, intR.sl c (.slice none 0 0) [] := fun c => Rep.SR.nil _ _ _
 have hle := St.refl hS
 all_goals refine lgo tyD Tryz.func6 ?_
 all_goals (refine Zan ?_; intro p5 w1 hS; refine zb hS ?_; intro p6 w1 hS; refine Zac ?_; refine ZaO ?_; refine zR0 (c := Qcz hS) (h := ?_); rintro v1 w1 ⟨rfl, hS⟩; refine Zbf ?_)
 all_goals
  first
  | (refine zct ?_
     all_goals (refine Zay ?_)
     all_goals (exact ⟨_, rfl, rfl, hS.sp⟩))
  | (refine zcf ?_
     all_goals refine zsk ?_)
 all_goals (refine ZaO ?_; refine zv hS ?_; refine zm ?_)
 all_goals (refine zR2 (c := long_c hx' hS) (h := ?_); rintro v1 w1 ⟨b, rfl, hb, hS⟩; cases b)
 all_goals (refine zm ?_; (first | refine zgn ?_ | (refine zgy ?_; refine zv hS ?_)))
 all_goals ((first | (refine zgn ?_) | (refine zgy ?_; refine zR1 (c := Q8p hxo' hS) (h := ?_); rintro v1 w1 ⟨b, rfl, hbo, hS⟩; cases b)))
 all_goals (refine Zau ?_)
 all_goals
  first
  | (refine zct ?_
     all_goals (refine Zay ?_)
     all_goals (exact ⟨_, rfl, rfl, hS.sp⟩))
  | (refine zcf ?_
     all_goals refine zsk ?_)
 all_goals (refine Zaa ?_; refine zv hS ?_; refine ZaE ?_; refine zm ?_)
 all_goals (obtain ⟨hfew, hfu⟩ := hb rfl; have hfewo := hbo rfl; refine zR4 (c := QdF (Q3l hfew) hx' hi hS) (h := ?_); rintro v1 w1 hr; rcases againR hr with ⟨hz, rfl, hS⟩ | ⟨hs0, c1, a1, x1, y1, a2, x2, y2, oc, hoc, hle1, rfl, k1, k2, hS⟩)
 all_goals (unfold fltV; dsimp only; refine Zbn ?_; intro p11 w1 hS; refine Qk hS ?_; intro p12 w1 hS; refine zsn hS ?_; intro w1 hS; have hS := hS.ns; refine zsn hS ?_; intro w1 hS; have hS := hS.ns; refine Zbh ?_; refine zf0 ?_; refine zl hS ?_)
 all_goals (first | (refine Q1O ?_) | (refine Q1P ?_))
 all_goals (refine zn ?_)
 all_goals
  first
  | (refine zct ?_
     all_goals (refine Zaa ?_; refine zv hS ?_; refine zb0 [_, _, _, _] ?_; refine zR2 (c := Q72 (xs := []) (ys := []) (xs2 := []) (ys2 := []) (n1 _) (n1 _) (n1 _) (n1 _) hS) (h := ?_); rintro v1 w1 ⟨rfl, hS⟩; rw [show decide ((0 : Int) = 0 ∧ ([] : List Int) = [] ∧ ([] : List Int) = [] ∧ (0 : Int) = 0) = true by decide]; refine Zaq ?_)
     all_goals (exact ⟨_, rfl, rfl, hS.sp⟩))
  | (refine zcf ?_
     all_goals refine zsk ?_)
 all_goals (refine Zaa ?_; refine zv hS ?_; refine ZaE ?_; refine zm ?_)
 all_goals (refine zR4 (c := QdH (Q3l hfew) (Rep.R.up hx' hle1) (Rep.SR.up hi hle1) hS) (h := ?_); rintro v1 w1 hN; rcases hN.split with ⟨hz, rfl, hS⟩ | ⟨_, hR, hil, hf0, hf1, q, rfl, hq, c2, p, ep, fn, lv, i1, rfl, hle2, hfn, hin, hS⟩; rw [hs0] at hz; exact absurd rfl hz)
 all_goals (unfold fltV; dsimp only; refine Zbn ?_; intro p14 w1 hS; refine zm ?_; refine zsn hS ?_; intro w1 hS; have hS := hS.ns; refine Zaz ?_; refine zv hS ?_; refine ZaE ?_; refine zm ?_; refine zR4 (c := ynew_c (Q3l hfewo) (Rep.R.up hxo' (hle1.trans hle2)) (Rep.SR.up hi (hle1.trans hle2)) hS) (h := ?_); rintro v1 w1 ⟨c3, ya, yf, yg, M, rfl, hle3, hY, hS⟩; simp only [List.cons_append] at hS; have hfn := Rep.SR.up hfn hle3; have hin := Rep.SR.up hin hle3; refine Zbn ?_; intro p16 w1 hS; refine zm ?_; refine zsn hS ?_; intro w1 hS; have hS := hS.ns; refine Zbh ?_; refine zf0 ?_; refine zl hS ?_)
 all_goals (first | (refine Q1O ?_) | (refine Q1P ?_))
 all_goals (refine zn ?_)
 all_goals
  first
  | (refine zct ?_
     all_goals (refine Zay ?_)
     all_goals (exact ⟨_, rfl, rfl, hS.sp⟩))
  | (refine zcf ?_
     all_goals refine zsk ?_)
 all_goals (refine Zal ?_)
 refine zo [11, 13, 15, 16] (fun A ρ' w' => ∃ (r : Run) (c : RC) (fr : List RFV) (g : RFV) (s : EstS) (inp1 out back : List Int) (M : List Res), Has ρ' A ∧ Has ρ' [] ∧ (RA m fuel.toNat (Run.all m inp fuel.toNat q) r) ∧ (QR m fuel.toNat c fr g s inp1 out back r) ∧ (funcR.sl c3 c.fn m.funcs) ∧ (intR.sl c3 c.iv inp1) ∧ (YOK o fuel.toNat c3 (yf, yg) (.pointer ya) M) ∧ St c3 w' (rS p c fr g s out (sl 2 1 c.bv (back.map Qh) :: blk p16 29 [.int .i64 yf, .int .i64 yg] :: blk p14 29 [.int .i64 0, .int .i64 0] :: blk p11 33 [.int .i64 oc.e, .slice a1 x1 y1, .slice a2 x2 y2, .int .i64 oc.fuel] :: blk p12 29 [.int .i64 0, .int .i64 0] :: (L ++ M)))) (fun _ w' => msrW w' p) ?_ ?_
 · exact ⟨.on (MS.start inp q), Q9W ep fn lv i1 fuel, [], Q9V, EstS.mk0 q, inp, [], [], M, zh, zh, RA.first, QR.first hR (Q3l hfew) hf0 hq, hfn, hin, hY, by have hS := hS.nil (T := 2) (es := 1); exact hS.sp⟩
 rintro ρ w1 ⟨r, c, fr, g, s, inp1, out, back, M, hA, hρ, hRA, hQ, hfn1, hin1, hY, hS⟩; obtain ⟨ρ, rfl⟩ := env2 hA hρ; have hm0 := Q8S hS
 all_goals (refine Zat ?_)
 all_goals (refine zR1 (c := QdM hS) (h := ?_); rintro v1 w1 ⟨rfl, hS⟩; cases hdn : c.dn)
 all_goals (refine Zbf ?_)
 all_goals
  first
  | (refine zcf ?_
     all_goals (refine zex ?_; refine Q6 ?_; refine zC [(0, none), (2, none), (1, some (some [2])), (3, some none), (4, some none)] ?_; have hS := hS.drew; refine ZaI ?_; refine zv hS ?_; refine Zar ?_; obtain ⟨ho, hol, hbl⟩ := hQ.fin hRA hdn; obtain ⟨c4, hle4, hS2, hb3⟩ := St.freezeL (r := intR) (l := back) (hS.out (r := sl 2 1 c.bv (back.map Qh)) fd) Q6G rfl (by omega); obtain ⟨c5, hle5, hS3, ho4⟩ := St.freezeL (r := intR) (l := out) (hS2.out (r := sl 2 1 c.ov (out.map Qh)) fd) Q6G rfl (by omega); refine zR1 (c := Q8f (c := c) (by omega) (by omega) (Rep.SR.up hb3 hle5) ho4 (show St c5 _ (blk p 66 c.cells :: _) from (by have hS := hS3; exact hS.sp))) (h := ?_); rintro v1 w1 ⟨c6, u1, u2, hle6, rfl, z1, z2, hS⟩; refine ZaQ ?_; have hle7 := hle2.trans (hle3.trans (hle4.trans (hle5.trans hle6))); refine zR2 (c := Q72 z1 z2 (Rep.SR.up k1 hle7) (Rep.SR.up k2 hle7) hS) (h := ?_); rintro v1 w1 ⟨rfl, hS⟩; rw [show decide (c.e = oc.e ∧ back = oc.back ∧ out = oc.out ∧ c.fu = oc.fuel) = true by rw [← hoc, ho]; simp]; refine ZaF ?_; refine zm ?_; refine ZaB ?_; refine Zag ?_)
     all_goals ((first | exact ⟨_, rfl, rfl, hS.sp⟩ | exact ⟨_, rfl, rfl, St.weak hS.sp hle1⟩ | exact ⟨_, rfl, rfl, St.weak (St.left (M := M) hS.sp) (hle1.trans hle7)⟩)))
  | (refine zct ?_
     all_goals (refine zsk ?_; refine QV ?_; refine Zad ?_; obtain ⟨ms, rfl, hkm⟩ := hQ.on hdn; have hRA' := hRA.nx hkm; refine zR1 (c := QaQ hQ hR (Q3l hfew) (by omega) hfn1 hin1 hS) (h := ?_); rintro v1 w1 ⟨rfl, c', fr', g', s', inp', out', back', hQ', hfn', hin', hlt, hS⟩; refine Zaz ?_; refine zf0 ?_; refine zl hS ?_)
     all_goals (first | (refine Qu ?_) | (refine QD ?_) | (refine Qe rfl rfl (fun hc => ?_) (fun hc => ?_)))
     all_goals (refine zn ?_)
     all_goals
      first
      | (refine zcf ?_
         all_goals refine zsk ?_)
      | (refine zct ?_
         all_goals (refine Zae ?_; obtain rfl : yf = 0 := (by omega); refine zR1 (c := ystep_c (Q3l hfewo) (by omega) hY (L := rS p c' fr' g' s' out' (sl 2 1 c'.bv (back'.map Qh) :: blk p16 29 [.int .i64 0, .int .i64 yg] :: blk p14 29 [.int .i64 0, .int .i64 0] :: blk p11 33 [.int .i64 oc.e, .slice a1 x1 y1, .slice a2 x2 y2, .int .i64 oc.fuel] :: blk p12 29 [.int .i64 0, .int .i64 0] :: L)) (by simp only [List.cons_append]; exact hS.sp)) (h := ?_); rintro v1 w1 ⟨rfl, M2, hY2, hS⟩; simp only [List.cons_append] at hS)
         all_goals refine zn ?_)
     all_goals (exact ⟨⟨Run.step m fuel.toNat (.on ms), c', fr', g', s', inp', out', back', _, zh, zh, hRA', hQ', (by rw [hfn']; exact hfn1), hin', (by first | exact hY2 | exact hY), hS.sp⟩, (by rw [Q8S (c := c') (L := L) (show St c3 _ (blk p 66 c'.cells :: L) from (by first | exact St.left (M := M2) hS.sp | exact St.left (M := M) hS.sp)), hm0]; exact hlt)⟩))
end Go.Proofs.YteflkifmgnpbhaaGreat
namespace Go.Proofs.YteflkifmgnpbhaaGreat
open Go.Lir
def cLongs : Cod.Of Tryz.prog 25 intR.list := Cod.Of.list cLong (by kernel_rfl) (by kernel_rfl) (by kernel_rfl)
theorem rawAgain_rd {c d : Array Value} {x y : Module} {v : Value} {inp : List Int} {w : World} (h0 : cMod.cod.rd w.heap c.toList x) (h1 : cMod.cod.rd w.heap d.toList y) (h2 : cLongs.cod.rd w.heap [v] inp) (a b : Int) : Rets Tryz.prog Q6o [.agg c, .agg d, v, .int .i64 a, .int .i64 b] w fun v w' => v = .bool true ∧ Fr NF w w' := by
 obtain ⟨v', hv, hin⟩ := cLongs.top h2
 cases hv
 exact (QcA (cMod.top h0) (cMod.top h1) hin (St.top w)).mono fun _ _ ⟨h, h2⟩ => ⟨h, h2.fr⟩
end Go.Proofs.YteflkifmgnpbhaaGreat
