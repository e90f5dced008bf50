/- Lemmas of the proof, part 6: what the functions of the program do (contracts), and what follows. -/
import Derived.Test.YteflkifmgnpbhaaGreatZ5
import Derived.Test.YteflkifmgnpbhaaGreatZ2
import Derived.Test.YteflkifmgnpbhaaGreatZ4
import Derived.Test.YteflkifmgnpbhaaGreatZ3
namespace Go.Proofs.YteflkifmgnpbhaaGreat
open Go.Lir
set_option maxHeartbeats 1000000
attribute [local irreducible] LC.wp Q0 Qh Qc retQ Qw LO.wp Q3 Calls
set_option linter.unusedSimpArgs false
set_option linter.unusedVariables false
attribute [local irreducible] hasB Q3g Q1P Q1X Q42 upTo Module.fault jIns jEnd
variable {cx:Cx}{w:World}{L:List Res}{j:JP}{h:List Bool}{vl:Value}{css:List (List Value)}{i:Nat}{m:Module}
end Go.Proofs.YteflkifmgnpbhaaGreat
namespace Go.Proofs.YteflkifmgnpbhaaGreat
open Go.Lir
set_option maxHeartbeats 1000000
attribute [local irreducible] LC.wp Q0 Qh Qc retQ Qw LO.wp Q3 Calls
set_option linter.unusedSimpArgs false
set_option linter.unusedVariables false
attribute [local irreducible] hasB Q3g Q1P Q1X Q42 upTo wantC firstC rmk jIns jEnd Module.fault Q60 Q5v
variable {cx:Cx}{w:World}{L:List Res}{j:JP}{h:List Bool}{vl:Value}{css:List (List Value)}{i:Nat}{m:Module}
theorem jNewOk_c {f b:Nat}{fn:Fun}{y:Block}{cs:List Value}(hm:m.Short) (hF:m.fault.1=0) (hfn:m.funcs[f]?=some fn) (hy:fn.blocks[b]?=some y) (hx:modR.at cx cs m) (hS:St cx w L):
 Rets Tryz.prog QaR [.agg ⟨cs⟩, .int .i64 f, .int .i64 b] w fun u w'=>∃(j:JP) (c':Cx) (vl:Value) (css:List (List Value)),u= .tuple #[.pointer (some ⟨j.sp,0,none⟩),fltV (0,0)]∧cx.Le c'∧j.Fits c' m∧j.f=fn∧tyR.ls c' css y.params∧St c' w' (j.res (Q1i y).h vl css::L):=by
 refine (jNew_c hm hx hS).mono ?_
 have h1:=(List.getElem?_eq_some_iff.1 hfn).1
 have h2:=(List.getElem?_eq_some_iff.1 hy).1
 rintro u w' (⟨h0, -⟩|⟨-,h9, -⟩|⟨fn',y',j,c2,vl,css, -, -, -,hf',hy',rfl,hle,hj,jf,hls,hS⟩)
 · exact absurd hF h0
 · exfalso
   rcases h9 with (h|h)|⟨fn',hf',h⟩
   · omega
   · omega
   · rw [Int.toNat_natCast] at hf'
     obtain rfl:fn=fn':=Option.some.inj (hfn.symm.trans hf')
     omega
 · rw [Int.toNat_natCast] at hf' hy'
   obtain rfl:fn=fn':=Option.some.inj (hfn.symm.trans hf')
   obtain rfl:y=y':=Option.some.inj (hy.symm.trans hy')
   exact ⟨j,c2,vl,css,rfl,hle,hj,jf,hls,hS⟩
theorem vblock_c {q b:Nat}{fn:Fun}{y:Block}{cs:List Value}(hm:m.Short) (hF:m.fault.1=0) (hfn:m.funcs[q]?=some fn) (hy:fn.blocks[b]?=some y) (hx:modR.at cx cs m) (hS:St cx w L):
 Rets Tryz.prog Qag [.agg ⟨cs⟩, .int .i64 q, .int .i64 b] w fun u w'=> u=fltV (QI m fn q b y.fin 0 (Q1i y) y.code)∧St cx w' L:=by
 have hx':=hx
 obtain ⟨vf,rfl,hf1⟩:=Q21 hx
 have hle:=St.refl hS
 have hsf:=hm.2 fn (List.mem_of_getElem? hfn)
 have hfb:=mod_fb hF hfn
 have hfh:=Q1E (Q1S hF hfn)
 have hg0:=Q84 hm hF hfn hy
 have hlc:=(hsf.2.2.2 y (List.mem_of_getElem? hy)).2.1
 have hq1:=(List.getElem?_eq_some_iff.1 hfn).1
 have hq2:=hm.1
 have hb1:=(List.getElem?_eq_some_iff.1 hy).1
 all_goals refine lgo tyD Tryz.func91 ?_
 all_goals (refine Zaq ?_;intro p3 w1 hS;refine Ql hS ?_;intro p6 w1 hS;refine ZaE ?_;refine zv hS ?_;refine Zbg ?_)
 all_goals (refine zR3 (c:=jNewOk_c hm hF hfn hy hx' hS) (h:=?_);rintro v1 w1 ⟨j,c2,vl,css,rfl,hle2,hj,hjf,hls,hS⟩;(try have hle:=hle.trans hle2);(try have hf1:=hf1.up hle2);unfold fltV;subst hjf)
 all_goals (refine Zbw ?_;intro p8 w1 hS;refine zm ?_;refine zsn hS ?_;intro w1 hS;have hS:=hS.ns;refine ZaE ?_;refine zf0 ?_;refine zl hS ?_;refine zm ?_;refine zi ?_;intro b1 o1 cs1 x1 hat1 hx1 he1;obtain ⟨vp1,vr1,vb1,rfl,hp1,hr1,hb1⟩:=QM he1;obtain rfl:j.f=x1:=Option.some.inj (hfn.symm.trans hx1);refine Yac ?_;refine Yaw ?_;refine zm ?_;refine zi ?_;intro b2 o2 cs2 x2 hat2 hx2 he2;obtain ⟨vp2,vc2,ve21,ve22,ve23,ve24,ve25,rfl,hp2,hc2,he21,he22,he23,he24,he25⟩:=Q23 he2;refine ZaP ?_;intro p9 w1 hS;refine zsn hS ?_;intro w1 hS;have hS:=hS.ns;refine zn ?_;obtain rfl:y=x2:=Option.some.inj (hy.symm.trans hx2);refine Zbn ?_;refine zf0 ?_;refine zl hS ?_;refine zL ?_)
 all_goals (refine ZaB ?_)
 refine zo [1,2,6,7,9,31,32] (fun A ρ' w'=>∃(k0:Cx) (i:Nat) (s:JS) (vl:Value) (css:List (List Value)),Has ρ' A∧Has ρ' [(33, .int .i64 i)]∧(c2.Le k0)∧(i≤y.code.length)∧(QI m j.f q b y.fin 0 (Q1i y) y.code=QI m j.f q b y.fin i s (y.code.drop i))∧(j.Fits k0 m)∧(tyR.ls k0 css s.l)∧(JGood s)∧St k0 w' (blk p9 92 [.int .i64 y.regs,vp2,vc2, .int .i64 y.fin.op, .int .i64 y.fin.a, .int .i64 y.fin.yes.block,ve21,ve22, .int .i64 y.fin.no.block,ve23,ve24,ve25]::j.res s.h vl css::blk p6 29 [.int .i64 0, .int .i64 0]::L)) (fun ρ' _=> (y.code.length - iv (ρ' 33)).toNat) ?_ ?_
 · exact ⟨c2,0,Q1i y,vl,css,zh,zh,St.refl hS,(by omega),by rfl,hj,hls,hg0,hS.sp⟩
 rintro ρ w1 ⟨k0,i,s,vl,css,hA,hρ,hle2,hi,hdi,hj,hls,hg,hS⟩;obtain ⟨ρ,rfl⟩:=env2 hA hρ;have hL0:=hle2;(try have hle:=hle.trans hle2);(try have hp1:=hp1.up hle2);(try have hr1:=hr1.up hle2);(try have hb1:=hb1.up hle2);(try have hp2:=hp2.up hle2);(try have hc2:=hc2.up hle2);(try have he21:=he21.up hle2);(try have he22:=he22.up hle2);(try have he23:=he23.up hle2);(try have he24:=he24.up hle2);(try have he25:=he25.up hle2);(try have he1:=he1.up hle2);(try have he2:=he2.up hle2);(try have hf1:=hf1.up hle2)
 all_goals (refine ZaQ ?_)
 refine Qn rfl (fun hc=> ?_) (fun hc=> ?_)
 · skip
   all_goals (refine ZbC ?_;refine zi ?_;intro b3 o3 cs3 x3 hat3 hx3 he3;obtain ⟨vr3,va3,rfl,hr3,ha3⟩:=Q1a he3;refine ZaP ?_;intro p11 w1 hS;refine zm ?_;refine zsn hS ?_;intro w1 hS;have hS:=hS.ns;refine ZaH ?_;refine zv hS ?_)
   all_goals (refine zR2 (c:=jIns_c (s:=s) (x:=x3) hm hg.n hg.h hj he3 hls hS fd) (h:=?_);rintro v1 w1 ⟨rfl,c4,vl4,css4,hle2,hls4,hS⟩;have hS:=hS.ns;(try have hle:=hle.trans hle2);(try have hL0:=hL0.trans hle2);(try have hp1:=hp1.up hle2);(try have hr1:=hr1.up hle2);(try have hb1:=hb1.up hle2);(try have hp2:=hp2.up hle2);(try have hc2:=hc2.up hle2);(try have he21:=he21.up hle2);(try have he22:=he22.up hle2);(try have he23:=he23.up hle2);(try have he24:=he24.up hle2);(try have he25:=he25.up hle2);(try have hr3:=hr3.up hle2);(try have ha3:=ha3.up hle2);(try have he1:=he1.up hle2);(try have he2:=he2.up hle2);(try have he3:=he3.up hle2);(try have hls:=hls.up hle2);(try have hf1:=hf1.up hle2);have hj:=hj.up hle2;have hg1:=Qg2 (f:=j.f) (x:=x3) hm hg;obtain ⟨s1,hs1⟩:∃s1,(jIns m j.f s x3).2=s1:=⟨_,rfl⟩;rw [hs1] at hls4 hS hg1)
   all_goals (refine ZaT ?_)
   all_goals (first|(refine Q11 ?_)|(refine Q18 ?_)|(refine Qu rfl rfl (fun hc=> ?_) (fun hc=> ?_)))
   all_goals (refine zn ?_)
   all_goals
    first
    | (refine zct ?_
       all_goals (refine Zas ?_;refine Zbg ?_;refine zR3 (c:=Qd0 q b i (by omega) (by omega) (by omega) hS) (h:=?_);rintro v1 w1 ⟨rfl,hS⟩;refine zb2 [_,_] ?_;refine zsn hS ?_;intro w1 hS;have hS:=hS.ns;refine zn ?_;have hJ:QI m j.f q b y.fin 0 (Q1i y) y.code=((jIns m j.f s x3).1,Q60 q b i):=(by rw [hdi,Q7 hx3,Q5Y (by omega)]);refine zr ?_;refine Q25 vw (Qa (n:=2) (by kernel_rfl) (by kernel_rfl) (hS.blkAt fd) (by rfl) (by rfl)) ?_)
       all_goals (exact ⟨_,rfl,by rw [hJ];rfl,St.weak hS.sp hle⟩))
    | (refine zcf ?_
       all_goals refine zsk ?_)
   all_goals (refine Q1d ?_;refine zad ?_;refine Zad ?_;exact ⟨⟨_,i+1,s1,vl4,css4,zh,zh,hL0,(by omega),by rw [hdi,Q7 hx3,Q5Z (by omega),hs1],hj,hls4,hg1,hS.sp⟩,Qr (by omega)⟩)
 · skip
   all_goals (refine zex ?_;refine Zah ?_;refine zf0 ?_;refine zv hS ?_;refine zR2 (c:=jEnd_c (s:=s) (x:=y.fin) hsf hfb (by omega) hg.h hj ⟨_,_,_,_,_,rfl,he21,he22,he23,he24,he25⟩ hls hS fd) (h:=?_);rintro v1 w1 ⟨rfl,hS⟩;have hde:=Q6Q (m:=m) (f:=j.f) (fi:=q) (bi:=b) (e:=y.fin) (s:=s) (i:=i) (l:=y.code) (by omega);refine ZaT ?_)
   all_goals (first|(refine Q11 ?_)|(refine Q18 ?_)|(refine Qu rfl rfl (fun hc=> ?_) (fun hc=> ?_)))
   all_goals (refine zn ?_)
   all_goals
    first
    | (refine zct ?_
       all_goals (refine Zas ?_;refine zm ?_;refine zR2 (c:=Qd1 q b (by omega) (by omega) hS) (h:=?_);rintro v1 w1 ⟨rfl,hS⟩;refine zb2 [_,_] ?_;refine zsn hS ?_;intro w1 hS;have hS:=hS.ns;refine zn ?_;have hJ:=hdi.trans (hde.trans (mkF_c (by omega)));refine zr ?_;refine Q25 vw (Qa (n:=2) (by kernel_rfl) (by kernel_rfl) (hS.blkAt fd) (by rfl) (by rfl)) ?_)
       all_goals (exact ⟨_,rfl,by rw [hJ];rfl,St.weak hS.sp hle⟩))
    | (refine zcf ?_
       all_goals refine zsk ?_)
   all_goals (refine Zaa ?_;refine zb0 [_,_] ?_;refine zsn hS ?_;intro w1 hS;have hS:=hS.ns;refine zn ?_;have hJ:=hdi.trans (hde.trans (Q8F _ _ (by rw [Q40];omega)));refine zr ?_;refine Q25 vw (Qa (n:=2) (by kernel_rfl) (by kernel_rfl) (hS.blkAt fd) (by rfl) (by rfl)) ?_;exact ⟨_,rfl,by rw [hJ];rfl,St.weak hS.sp hle⟩)
theorem vcheck_c {cs:List Value}(hm:m.Short) (hx:modR.at cx cs m) (hS:St cx w L):
 Rets Tryz.prog Qah [.agg ⟨cs⟩] w fun u w'=> u=fltV m.runs∧St cx w' L:=by
 have hx':=hx
 obtain ⟨vf,rfl,hf1⟩:=Q21 hx
 have hlf:=hf1.len
 all_goals refine lgo tyD Tryz.func44 ?_
 all_goals (refine Zaq ?_;intro p1 w1 hS;refine Ql hS ?_;intro p2 w1 hS;refine ZbH ?_;refine zv hS ?_;refine zR1 (c:=QcZ hm hx' hS) (h:=?_);rintro v1 w1 ⟨rfl,hS⟩;unfold fltV;refine Ql hS ?_;intro p3 w1 hS;refine zsn hS ?_;intro w1 hS;have hS:=hS.ns;refine ZaE ?_;refine zf0 ?_;refine zl hS ?_)
 all_goals (first|(refine Q11 ?_)|(refine Q18 ?_)|(refine Qu rfl rfl (fun hc=> ?_) (fun hc=> ?_)))
 all_goals (refine zn ?_)
 all_goals
  first
  | (refine zct ?_
     all_goals (refine Zaa ?_;refine zv hS ?_;refine zsn hS ?_;intro w1 hS;have hS:=hS.ns;refine zn ?_;have hJ:=runs_no (m:=m) (by omega);refine zr ?_;refine Q25 vw (Qa (n:=2) (by kernel_rfl) (by kernel_rfl) (hS.blkAt fd) (by rfl) (by rfl)) ?_)
     all_goals (exact ⟨_,rfl,by rw [hJ];rfl,hS.sp⟩))
  | (refine zcf ?_
     all_goals refine zsk ?_)
 all_goals (refine Zbo ?_;have hF:m.fault.1=0:=(by omega);have hr0:=runs_go hF;have hlf8:=hm.1;refine Q1d ?_;refine zf0 ?_;refine zl hS ?_;refine zL ?_;refine ZaB ?_)
 refine zoL hS [1,2,15,16] (fun A LL ρ' w'=>∃(q:Nat),Has ρ' A∧Has ρ' [(17, .int .i64 q)]∧(q≤m.funcs.length)∧(m.runs=Q1L m q (m.funcs.drop q))∧St cx w' (LL)) (fun ρ' _=> (m.funcs.length - iv (ρ' 17)).toNat) ?_ ?_
 · exact ⟨0,zh,zh,(by omega),by rw [hr0];rfl,hS.sp⟩
 rintro ρ w1 ⟨q,hA,hρ,hq,hd,hS⟩;obtain ⟨ρ,rfl⟩:=env2 hA hρ
 all_goals (refine ZaQ ?_)
 refine Qn rfl (fun hc=> ?_) (fun hc=> ?_)
 · skip
   all_goals (refine ZbC ?_;refine zi ?_;intro b1 o1 cs1 x1 hat1 hx1 he1;obtain ⟨vp1,vr1,vb1,rfl,hp1,hr1,hb1⟩:=QM he1;refine ZaP ?_;intro p5 w1 hS;refine zm ?_;refine zsn hS ?_;intro w1 hS;have hS:=hS.ns;refine zn ?_;have hsf:=hm.2 x1 (List.mem_of_getElem? hx1);have hbl:=hsf.2.2.1;refine Zaa ?_;refine zf0 ?_;refine zl hS ?_;refine zL ?_;refine ZaB ?_)
   refine zoL hS [1,2,4,15,16,17,24] (fun A LL ρ' w'=>∃(b:Nat),Has ρ' A∧Has ρ' [(25, .int .i64 b)]∧(b≤x1.blocks.length)∧(Qz m x1 q 0 x1.blocks=Qz m x1 q b (x1.blocks.drop b))∧St cx w' (LL)) (fun ρ' _=> (x1.blocks.length - iv (ρ' 25)).toNat) ?_ ?_
   · exact ⟨0,zh,zh,(by omega),by rfl,hS.sp⟩
   rintro ρ w1 ⟨b,hA,hρ,hb,hdb,hS⟩;obtain ⟨ρ,rfl⟩:=env2 hA hρ
   all_goals (refine ZaQ ?_)
   refine Qn rfl (fun hc=> ?_) (fun hc=> ?_)
   · skip
     all_goals (refine ZaA ?_;refine Qv ?_;obtain ⟨y,hy⟩:∃y,x1.blocks[b]?=some y:=⟨_,List.getElem?_eq_getElem (by omega)⟩;refine Zag ?_;refine ZbO ?_;refine zv hS ?_;refine Zbg ?_;refine zR3 (c:=vblock_c hm hF hx1 hy hx' hS) (h:=?_);rintro v1 w1 ⟨rfl,hS⟩;unfold fltV;refine Ql hS ?_;intro p7 w1 hS;refine zsn hS ?_;intro w1 hS;have hS:=hS.ns;refine ZaE ?_;refine zf0 ?_;refine zl hS ?_)
     all_goals (first|(refine Q11 ?_)|(refine Q18 ?_)|(refine Qu rfl rfl (fun hc=> ?_) (fun hc=> ?_)))
     all_goals (refine zn ?_)
     all_goals
      first
      | (refine zct ?_
         all_goals (refine Zaa ?_;refine zv hS ?_;refine zsn hS ?_;intro w1 hS;have hS:=hS.ns;refine zn ?_;have hJ:=runs_at hd hx1 hdb hy rfl (by omega);refine zr ?_;refine Q25 vw (Qa (n:=2) (by kernel_rfl) (by kernel_rfl) (hS.blkAt fd) (by rfl) (by rfl)) ?_)
         all_goals (exact ⟨_,rfl,by rw [hJ];rfl,hS.sp⟩))
      | (refine zcf ?_
         all_goals refine zsk ?_)
     all_goals (refine Q1d ?_;refine zad ?_;refine Zad ?_;exact ⟨⟨b+1,zh,zh,(by omega),runs_b hdb hy (by omega),hS.sp⟩,Qr (by omega)⟩)
   · skip
     all_goals (refine zex ?_;refine Q1d ?_;refine zad ?_;refine Zad ?_;exact ⟨⟨q+1,zh,zh,(by omega),runs_f hd hx1 hdb (by omega),hS.sp⟩,Qr (by omega)⟩)
 · skip
   all_goals (refine zex ?_;refine Zaa ?_;refine zb0 [_,_] ?_;refine zsn hS ?_;intro w1 hS;have hS:=hS.ns;refine zn ?_;have hJ:=runs_z hd (by omega);refine zr ?_;refine Q25 vw (Qa (n:=2) (by kernel_rfl) (by kernel_rfl) (hS.blkAt fd) (by rfl) (by rfl)) ?_;exact ⟨_,rfl,by rw [hJ];rfl,hS.sp⟩)
end Go.Proofs.YteflkifmgnpbhaaGreat
namespace Go.Lir
def Q2x (m:Module) (inp:List Int) (fuel pages:Int):Flt:=if m.runs.1≠0 then m.runs else if 200 < inp.length∨fuel < 0∨20000 < fuel∨pages < 0∨64 < pages then (1, -1) else (0,0)
theorem Q4J {m:Module}{inp:List Int}{fuel pages:Int}(h:m.runs.1≠0):Q2x m inp fuel pages=m.runs:=if_pos h
theorem Q77 {m:Module}{inp:List Int}{fuel pages:Int}(h:¬m.runs.1≠0) (hr:200 < inp.length∨fuel < 0∨20000 < fuel∨pages < 0∨64 < pages):Q2x m inp fuel pages=(1, -1):=(if_neg h).trans (if_pos hr)
theorem startW_0 {m:Module}{inp:List Int}{fuel pages:Int}(h:¬m.runs.1≠0) (hr:¬(200 < inp.length∨fuel < 0∨20000 < fuel∨pages < 0∨64 < pages)):Q2x m inp fuel pages=(0,0):=(if_neg h).trans (if_neg hr)
end Go.Lir
namespace Go.Proofs.YteflkifmgnpbhaaGreat
open Go.Lir
set_option maxHeartbeats 1000000
attribute [local irreducible] LC.wp Q0 Qh Qc retQ Qw LO.wp Q3 Calls
set_option linter.unusedSimpArgs false
set_option linter.unusedVariables false
variable {cx:Cx}{w:World}{L:List Res}{m:Module}{inp:List Int}
@[reducible] def QfG (ep fn lv iv:Value) (fuel:Int):RC:=⟨ep,fn,lv,iv,0, .slice none 0 0, .slice none 0 0,0,fuel,false⟩
@[reducible] def QfF:RFV:=⟨0,0,0, .slice none 0 0,[]⟩
def RNewS (m:Module) (inp:List Int) (fuel pages:Int) (cx:Cx) (L:List Res) (u:Value) (w':World):Prop:=
 ((Q2x m inp fuel pages).1≠0∧u= .tuple #[.pointer none,fltV (Q2x m inp fuel pages)]∧St cx w' L)∨
 (Q2x m inp fuel pages=(0,0)∧m.runs.1=0∧inp.length≤200∧0≤fuel∧fuel≤20000∧∃(q:Nat),pages=q∧q≤64∧∃c' p ep fn lv iv,u= .tuple #[.pointer (some ⟨p,0,none⟩),fltV (0,0)]∧cx.Le c'∧funcR.sl c' fn m.funcs∧intR.sl c' iv inp∧St c' w' (rS p (QfG ep fn lv iv fuel) [] QfF (EstS.mk0 q) [] L))
theorem rnew_c {cs:List Value}{v:Value}{fuel pages:Int}(hsh:m.Short) (hx:modR.at cx cs m) (hi:intR.sl cx v inp) (hS:St cx w L):
 Rets Tryz.prog raw_New [.agg ⟨cs⟩,v, .int .i64 fuel, .int .i64 pages] w (RNewS m inp fuel pages cx L):=by
 have hle:=St.refl hS
 have hx':=hx
 obtain ⟨vf,rfl,hf⟩:=Q21 hx
 have hil:=hi.len
 unfold RNewS
 all_goals refine lgo tyD Tryz.func35 ?_
 all_goals (refine Zaq ?_;intro p4 w1 hS;refine zm ?_;refine Ql hS ?_;intro p9 w1 hS;refine ZbH ?_;refine zv hS ?_;refine zR1 (c:=vcheck_c hsh hx' hS) (h:=?_);rintro v1 w1 ⟨rfl,hS⟩;unfold fltV;refine Ql hS ?_;intro p10 w1 hS;refine zsn hS ?_;intro w1 hS;have hS:=hS.ns;refine ZaE ?_;refine zf0 ?_;refine zl hS ?_)
 all_goals (first|(refine Q11 ?_)|(refine Q18 ?_)|(refine Qu rfl rfl (fun hc=> ?_) (fun hc=> ?_)))
 all_goals (refine zn ?_)
 all_goals
  first
  | (refine zct ?_
     all_goals (refine Qv ?_;refine zD (ci 3 [2]) ?_;have hS:=hS.drew;refine zv hS ?_;refine zm ?_;refine zsn hS ?_;intro w1 hS;have hS:=hS.ns;refine Zbb ?_;refine Q37 vw vw (Qa (n:=2) (by kernel_rfl) (by kernel_rfl) (hS.blkAt fd) (by rfl) (by rfl)) ?_)
     all_goals (exact ⟨_,rfl, .inl ⟨by rw [Q4J (by omega)];omega,by rw [Q4J (by omega)];rfl,hS.sp⟩⟩))
  | (refine zcf ?_
     all_goals refine zsk ?_)
 all_goals (refine Zah ?_;refine zL ?_)
 all_goals (first|(refine Q1e ?_)|(refine Q1s ?_)|(refine Qx rfl rfl (fun hc=> ?_) (fun hc=> ?_)))
 all_goals (refine Zak ?_)
 all_goals (first|refine zgn ?_|(refine zgy ?_;(first|(refine Q1k ?_)|(refine Q1w ?_)|(refine QA rfl rfl (fun hc=> ?_) (fun hc=> ?_)))))
 all_goals (refine Zbt ?_)
 all_goals (first|refine zgn ?_|(refine zgy ?_;(first|(refine Q1e ?_)|(refine Q1s ?_)|(refine Qx rfl rfl (fun hc=> ?_) (fun hc=> ?_)))))
 all_goals (refine Zbt ?_)
 all_goals (first|refine zgn ?_|(refine zgy ?_;(first|(refine Q1k ?_)|(refine Q1w ?_)|(refine QA rfl rfl (fun hc=> ?_) (fun hc=> ?_)))))
 all_goals (refine Zbt ?_)
 all_goals (first|refine zgn ?_|(refine zgy ?_;(first|(refine Q1e ?_)|(refine Q1s ?_)|(refine Qx rfl rfl (fun hc=> ?_) (fun hc=> ?_)))))
 all_goals (refine ZaL ?_)
 all_goals
  first
  | (refine zct ?_
     all_goals (refine Zaa ?_;refine zb2 [_,_] ?_;refine zm ?_;refine zsn hS ?_;intro w1 hS;have hS:=hS.ns;refine Zbb ?_;refine Q37 vw vw (Qa (n:=2) (by kernel_rfl) (by kernel_rfl) (hS.blkAt fd) (by rfl) (by rfl)) ?_)
     all_goals ((first|exact ⟨_,rfl, .inl ⟨by rw [Q4J (by omega)];omega,by rw [Q4J (by omega)];rfl,hS.sp⟩⟩|exact ⟨_,rfl, .inl ⟨by rw [Q77 (by omega) (by omega)];decide,by rw [Q77 (by omega) (by omega)];rfl,hS.sp⟩⟩)))
  | (refine zcf ?_
     all_goals refine zsk ?_)
 all_goals (refine Zab ?_)
 all_goals (refine zR1 (c:=enew_c pages hS) (h:=?_);rintro v1 w1 (⟨hbad, -, -⟩|⟨q,bq,hq,hq64,rfl,hS⟩);exact absurd hbad (by omega))
 all_goals (refine Zbw ?_;intro p12 w1 hS;refine zm ?_;refine zsn hS ?_;intro w1 hS;have hS:=hS.ns;refine ZaH ?_;refine zv hS ?_;refine zR1 (c:=QaG hsh hx' hS) (h:=?_);rintro v1 w1 ⟨c1,ds,rfl,hle1,hx1,hS⟩;obtain ⟨vf1,rfl,hf1⟩:=Q21 hx1;have hi:=Rep.SR.up hi hle1;obtain ⟨af,nf,rfl⟩:=Rep.SR.shape hf1;refine zb0 [_,_,_,_] ?_;refine zB1 hS [_,_,_,_] ?_;intro b1 w1 hS;have hS:=St.slOf (T:=138) (es:=4) (css:=[[.int .i64 0, .int .i64 0, .int .i64 0, .slice none 0 0]]) hS rfl (by simp) rfl;refine zm ?_;refine zR1 (c:=Q8s (by omega) hi hS) (h:=?_);rintro vi w1 ⟨c2,hle2,hi2,hS⟩;have hf1:=Rep.SR.up hf1 hle2;obtain ⟨ai,ni,rfl⟩:=Rep.SR.shape hi2;refine zm ?_;refine zb5 [_,_,_,_,_,_,_,_,_,_] ?_;refine zb hS ?_;intro p53 w1 hS;refine zb0 [_,_] ?_;refine zm ?_;refine zsn hS ?_;intro w1 hS;have hS:=hS.ns;refine Zbb ?_;refine Q37 vw vw (Qa (n:=2) (by kernel_rfl) (by kernel_rfl) (hS.blkAt fd) (by rfl) (by rfl)) ?_;(first|exact ⟨_,rfl, .inl ⟨by rw [Q4J (by omega)];omega,by rw [Q4J (by omega)];rfl,hS.sp⟩⟩|exact ⟨_,rfl, .inl ⟨by rw [Q77 (by omega) (by omega)];decide,by rw [Q77 (by omega) (by omega)];rfl,hS.sp⟩⟩|(have hS:=St.big_nil RFV.res (St.nil (T:=2) (es:=1) (St.nil (T:=2) (es:=1) hS));exact ⟨_,rfl, .inr ⟨startW_0 (by omega) (by omega),by omega,by omega,by omega,by omega,q,hq,hq64,c2,_,_,_,_,_,rfl,hle1.trans hle2,hf1,hi2,hS.sp⟩⟩)))
end Go.Proofs.YteflkifmgnpbhaaGreat
namespace Go.Proofs.YteflkifmgnpbhaaGreat
open Go.Lir
set_option maxHeartbeats 1000000
attribute [local irreducible] LC.wp Q0 Qh Qc retQ Qw LO.wp Q3 Calls
set_option linter.unusedSimpArgs false
set_option linter.unusedVariables false
variable {cx:Cx}{w:World}{L:List Res}{p:Nat}{c:RC}{fr:List RFV}{g:RFV}{s:EstS}{out inp back:List Int}{m:Module}
theorem QR.first {fuel:Int}{q:Nat}{ep fn lv iv:Value}(hR:m.runs.1=0) (hsh:m.Short) (h0:0≤fuel) (hq:q≤64):QR m fuel.toNat (QfG ep fn lv iv fuel) [] QfF (EstS.mk0 q) inp [] [] (.on (MS.start inp q)):=
 ⟨start_r hq,rfl,rfl,rfl,rfl,Nat.zero_le _,(Int.toNat_of_nonneg h0).symm,Bnd.start (Q1J hR) inp q,Qdx hR hsh inp q⟩
theorem QR.on {most:Nat}{r:Run}(hQ:QR m most c fr g s inp out back r) (hdn:c.dn=false):∃ms,r= .on ms∧ms.fuel≤most:=by
 cases r with
 | on ms=> obtain ⟨-, -, -, -, -,h, -⟩:=hQ;exact ⟨ms,rfl,h⟩
 | over ms e b=> obtain ⟨-, -,h, -⟩:=hQ;rw [hdn] at h;cases h
 | stuck f=> exact hQ.elim
theorem QR.fin {most:Nat}{r a:Run}(hQ:QR m most c fr g s inp out back r) (hA:RA m most a r) (hdn:c.dn=true):a.oc=⟨c.e,back,out,c.fu⟩∧out.length≤2000∧back.length≤100000:=by
 cases r with
 | on ms=> obtain ⟨-, -,h, -⟩:=hQ;rw [hdn] at h;cases h
 | over ms e b=>
   obtain ⟨h1,h2, -,h4,h5,h6,h7, -⟩:=hQ
   have hA:a= .over ms e b:=hA
   refine ⟨?_,h6,h7⟩
   rw [hA,h1,h2,h4,h5];rfl
 | stuck f=> exact hQ.elim
theorem Q7f {l:List Int}:intR.ls cx (l.map Qj) l:=
 ⟨by simp,fun k x hx=> ⟨[.int .i64 x],by rw [List.getElem?_map,hx];rfl,rfl⟩⟩
def RRunS (m:Module) (inp:List Int) (fuel pages:Int) (cx:Cx) (L:List Res) (u:Value) (w':World):Prop:=
 ((Q2x m inp fuel pages).1≠0∧u= .tuple #[.agg ⟨[.int .i64 0, .slice none 0 0, .slice none 0 0, .int .i64 0]⟩,fltV (Q2x m inp fuel pages)]∧St cx w' L)∨
 (Q2x m inp fuel pages=(0,0)∧m.runs.1=0∧∃c' v1 v2,cx.Le c'∧u= .tuple #[ocV (Run.all m inp fuel.toNat pages).oc v1 v2,fltV (0,0)]∧intR.sl c' v1 (Run.all m inp fuel.toNat pages).oc.back∧intR.sl c' v2 (Run.all m inp fuel.toNat pages).oc.out∧St c' w' L)
attribute [local irreducible] QR RA Run.all Run.oc
theorem RNewS.split {fuel pages:Int}{u:Value}(h:RNewS m inp fuel pages cx L u w):((Q2x m inp fuel pages).1≠0∧u= .tuple #[.pointer none,fltV (Q2x m inp fuel pages)]∧St cx w L)∨
 (Q2x m inp fuel pages=(0,0)∧m.runs.1=0∧inp.length≤200∧0≤fuel∧fuel≤20000∧∃(q:Nat),pages=q∧q≤64∧∃c' p ep fn lv iv,u= .tuple #[.pointer (some ⟨p,0,none⟩),fltV (0,0)]∧cx.Le c'∧funcR.sl c' fn m.funcs∧intR.sl c' iv inp∧St c' w (rS p (QfG ep fn lv iv fuel) [] QfF (EstS.mk0 q) [] L)):=h
theorem rrun_c {cs:List Value}{v:Value}{fuel pages:Int}(hsh:m.Short) (hx:modR.at cx cs m) (hi:intR.sl cx v inp) (hS:St cx w L):
 Rets Tryz.prog QbO [.agg ⟨cs⟩,v, .int .i64 fuel, .int .i64 pages] w (RRunS m inp fuel pages cx L):=by
 have hx':=hx
 obtain ⟨vf,rfl,hf⟩:=Q21 hx
 unfold RRunS
 all_goals refine lgo tyD Tryz.func33 ?_
 all_goals (refine Zaq ?_;intro p4 w1 hS;refine Ql hS ?_;intro p8 w1 hS;refine Ql hS ?_;intro p9 w1 hS;refine ZaE ?_;refine zv hS ?_;refine Zbg ?_;refine zm ?_)
 all_goals (refine zR4 (c:=rnew_c hsh hx' hi hS) (h:=?_);rintro v1 w1 hN;rcases hN.split with ⟨hz,rfl,hS⟩|⟨hs0,hR,hil,hf0,hf1,q,rfl,hq,c2,p,ep,fn,lv,i1,rfl,hle2,hfn,hin,hS⟩)
 all_goals (refine zm ?_;unfold fltV;dsimp only;refine ZaG ?_;refine Ql hS ?_;intro p11 w1 hS;refine zm ?_;refine zsn hS ?_;intro w1 hS;have hS:=hS.ns;refine ZbH ?_;refine zf0 ?_;refine zl hS ?_)
 all_goals (refine Yaq ?_)
 all_goals (refine zn ?_)
 all_goals
  first
  | (refine zct ?_
     all_goals (refine Qv ?_;refine zC [(0,none),(1,none),(2,some (some [1])),(3,some none)] ?_;have hS:=hS.drew;refine s_cq ?_;refine zb0 [_,_,_,_] ?_;refine Zac ?_;refine zv hS ?_;refine Zal ?_;refine zsn hS ?_;intro w1 hS;have hS:=hS.ns;refine ZaZ ?_;refine zsn hS ?_;intro w1 hS;have hS:=hS.ns;refine Zav ?_;refine zr ?_;refine Qfu vw (Qa (n:=4) (by kernel_rfl) (by kernel_rfl) (hS.blkAt fd) (by rfl) (by rfl)) vw (Qa (n:=2) (by kernel_rfl) (by kernel_rfl) (hS.blkAt fd) (by rfl) (by rfl)) ?_)
     all_goals (exact ⟨_,rfl, .inl ⟨hz,rfl,hS.sp⟩⟩))
  | (refine zcf ?_
     all_goals refine zsk ?_)
 all_goals (refine Zan ?_)
 refine zo [8,9,10] (fun A ρ' w'=>∃(r:Run) (c:RC) (fr:List RFV) (g:RFV) (s:EstS) (inp1 out back:List Int),Has ρ' A∧Has ρ' []∧(RA m fuel.toNat (Run.all m inp fuel.toNat q) r)∧(QR m fuel.toNat c fr g s inp1 out back r)∧(funcR.sl c2 c.fn m.funcs)∧(intR.sl c2 c.iv inp1)∧St c2 w' (rS p c fr g s out (sl 2 1 c.bv (back.map Qj)::blk p11 29 [.int .i64 0, .int .i64 0]::blk p9 29 [.int .i64 0, .int .i64 0]::blk p8 33 [.int .i64 0, .slice none 0 0, .slice none 0 0, .int .i64 0]::L))) (fun _ w'=> msrW w' p) ?_ ?_
 · exact ⟨.on (MS.start inp q),QfG ep fn lv i1 fuel,[],QfF,EstS.mk0 q,inp,[],[],zh,zh,RA.first,QR.first hR hsh hf0 hq,hfn,hin,by have hS:=hS.nil (T:=2) (es:=1);exact hS.sp⟩
 rintro ρ w1 ⟨r,c,fr,g,s,inp1,out,back,hA,hρ,hRA,hQ,hfn1,hin1,hS⟩;obtain ⟨ρ,rfl⟩:=env2 hA hρ;have hm0:=Q9x hS
 all_goals (refine Zah ?_)
 all_goals (refine zR1 (c:=QbN hS) (h:=?_);rintro v1 w1 ⟨rfl,hS⟩;cases hdn:c.dn)
 all_goals (refine ZaU ?_)
 all_goals
  first
  | (refine zct ?_
     all_goals (refine zsk ?_;refine Q6b ?_;refine Zag ?_;obtain ⟨ms,rfl,hkm⟩:=hQ.on hdn;have hRA':=hRA.nx hkm;refine zR1 (c:=Qfk hQ hR hsh (by omega) hfn1 hin1 hS) (h:=?_);rintro v1 w1 ⟨rfl,c',fr',g',s',inp',out',back',hQ',hfn',hin',hlt,hS⟩;refine zn ?_)
     all_goals (exact ⟨⟨Run.step m fuel.toNat (.on ms),c',fr',g',s',inp',out',back',zh,zh,hRA',hQ',(by rw [hfn'];exact hfn1),hin',hS.sp⟩,(by rw [Q9x (c:=c') (L:=L) (show St c2 _ (blk p 66 c'.cells::L) from hS.sp),hm0];exact hlt)⟩))
  | (refine zcf ?_
     all_goals (refine zex ?_;refine Zab ?_;obtain ⟨ho,hol,hbl⟩:=hQ.fin hRA hdn;obtain ⟨c3,hle3,hS2,hb3⟩:=St.freezeL (r:=intR) (l:=back) (hS.out (r:=sl 2 1 c.bv (back.map Qj)) fd) Q7f rfl (by omega);obtain ⟨c4,hle4,hS3,ho4⟩:=St.freezeL (r:=intR) (l:=out) (hS2.out (r:=sl 2 1 c.ov (out.map Qj)) fd) Q7f rfl (by omega);refine zR1 (c:=Q6f (c:=c) (by omega) (by omega) (Rep.SR.up hb3 hle4) ho4 (show St c4 _ (blk p 66 c.cells::_) from (by have hS:=hS3;exact hS.sp))) (h:=?_);rintro v1 w1 ⟨c5,u1,u2,hle5,rfl,k1,k2,hS⟩;obtain ⟨a1,n1,rfl⟩:=Rep.SR.shape k1;obtain ⟨a2,n2,rfl⟩:=Rep.SR.shape k2;refine zb0 [_,_] ?_;refine zsn hS ?_;intro w1 hS;have hS:=hS.ns;refine zsn hS ?_;intro w1 hS;have hS:=hS.ns;refine Zbb ?_;refine Qfu vw (Qa (n:=4) (by kernel_rfl) (by kernel_rfl) (hS.blkAt fd) (by rfl) (by rfl)) vw (Qa (n:=2) (by kernel_rfl) (by kernel_rfl) (hS.blkAt fd) (by rfl) (by rfl)) ?_)
     all_goals ((first|exact ⟨_,rfl, .inl ⟨hz,rfl,hS.sp⟩⟩|exact ⟨_,rfl, .inr ⟨hs0,hR,c5, .slice a1 back.length n1, .slice a2 out.length n2,hle2.trans (hle3.trans (hle4.trans hle5)),by rw [ho];rfl,by rw [ho];exact k1,by rw [ho];exact k2,hS.sp⟩⟩)))
end Go.Proofs.YteflkifmgnpbhaaGreat
namespace Go.Proofs.YteflkifmgnpbhaaGreat
open Go.Lir
set_option maxHeartbeats 1000000
attribute [local irreducible] LC.wp Q0 Qh Qc retQ Qw LO.wp Q3 Calls
set_option linter.unusedSimpArgs false
set_option linter.unusedVariables false
variable {cx:Cx}{w:World}{L:List Res}{i:Nat}
def toZ:To:=⟨0,[],[]⟩
@[reducible] def Q8h (n:Int):Module:=⟨[⟨0,[],[.mk 1 0 []],[⟨0,[],[⟨1,0,0,0,0,5,[],[]⟩],⟨3,0,toZ,toZ,[n]⟩⟩]⟩]⟩
theorem Q8g (n:Int):(Q8h n).Short:=by
 refine ⟨Nat.le_of_ble_eq_true rfl,fun f hf=> ?_⟩
 simp [Q8h] at hf;subst hf
 refine ⟨⟨Nat.le_of_ble_eq_true rfl,by simp⟩,⟨Nat.le_of_ble_eq_true rfl,fun t ht=> ?_⟩,Nat.le_of_ble_eq_true rfl,fun b hb=> ?_⟩
 · simp at ht;subst ht;exact .mk (by decide) (by simp)
 · simp at hb;subst hb
   refine ⟨⟨Nat.le_of_ble_eq_true rfl,by simp⟩,Nat.le_of_ble_eq_true rfl,fun i hi=> ?_,⟨Nat.le_of_ble_eq_true rfl,Nat.le_of_ble_eq_true rfl⟩,⟨Nat.le_of_ble_eq_true rfl,Nat.le_of_ble_eq_true rfl⟩,by simp⟩
   simp at hi;subst hi;exact ⟨by decide,by decide⟩
theorem five_o (hS:St cx w L):Rets Tryz.prog Qdn [] w fun u w'=>∃q1 q2 q3 la lb,u= .agg ⟨[.slice (some ⟨la,0,none⟩) 1 1]⟩∧St cx w' (blk q1 115 [.int .i64 1, .int .i64 0, .slice none 0 0]::blk q2 84 [.int .i64 1, .int .i64 0, .int .i64 0, .int .i64 0, .int .i64 0, .int .i64 5, .slice none 0 0, .slice none 0 0]::blk q3 3 [.int .i64 0]::blk lb 92 [.int .i64 0, .slice none 0 0, .slice (some ⟨q2,0,none⟩) 1 1, .int .i64 3, .int .i64 0, .int .i64 0, .slice none 0 0, .slice none 0 0, .int .i64 0, .slice none 0 0, .slice none 0 0, .slice (some ⟨q3,0,none⟩) 1 1]::blk la 95 [.int .i64 0, .slice none 0 0, .slice (some ⟨q1,0,none⟩) 1 1, .slice (some ⟨lb,0,none⟩) 1 1]::L):=by
 all_goals refine lgo tyD Tryz.func50 ?_
 all_goals (refine Zbv ?_;intro p0 w1 hS;refine ZaE ?_;refine zR0 (c:=least_c hS) (h:=?_);rintro v1 w1 ⟨la,lb,rfl,hS⟩;simp only [Q8X] at hS;refine Ql hS ?_;intro p1 w1 hS;refine zsn hS ?_;intro w1 hS;have hS:=hS.ns;refine ZaE ?_;refine zf0 ?_;refine zl hS ?_;refine zb1 [_,_,_] ?_;refine Q2c (cs:=[_,_,_]) vw (by rfl) ?_;intro q1 w1 hb1 hf1 _ hk1;have hS:=hS.laid hb1 hf1 hk1;refine Q9p rfl rfl (by decide) (by decide) ?_;refine zf0 ?_;refine zst hS ?_;intro w1 hS;have hS:=hS.ns;refine ZaE ?_;refine zf0 ?_;refine zl hS ?_;refine Q9p rfl rfl (by decide) (by decide) ?_;refine zf0 ?_;refine zl hS ?_;refine zb2 [_,_,_,_,_,_,_,_] ?_;refine Q2c (cs:=[_,_,_,_,_,_,_,_]) vw (by rfl) ?_;intro q2 w1 hb1 hf1 _ hk1;have hS:=hS.laid hb1 hf1 hk1;refine Q9p rfl rfl (by decide) (by decide) ?_;refine zf0 ?_;refine zst hS ?_;intro w1 hS;have hS:=hS.ns)
 all_goals (refine ZaE ?_;refine zf0 ?_;refine zl hS ?_;refine Q9p rfl rfl (by decide) (by decide) ?_;refine zf0 ?_;refine zl hS ?_;refine Q2c (cs:=[_]) vw (by rfl) ?_;intro q3 w1 hb1 hf1 _ hk1;have hS:=hS.laid hb1 hf1 hk1;refine Q9p rfl rfl (by decide) (by decide) ?_;refine zf0 ?_;refine Yac ?_;refine zst hS ?_;intro w1 hS;have hS:=hS.ns;refine ZaE ?_;refine zv hS ?_;refine zsn hS ?_;intro w1 hS;have hS:=hS.ns;refine Zbb ?_;refine Q25 vw (Qa (n:=1) (by kernel_rfl) (by kernel_rfl) (hS.blkAt fd) (by rfl) (by rfl)) ?_;exact ⟨_,rfl,q1,q2,q3,la,lb,rfl,hS.sp⟩)
theorem Qgl {q1 q2 q3 la lb:Nat}{n:Int}(hS:St cx w (blk q1 115 [.int .i64 1, .int .i64 0, .slice none 0 0]::blk q2 84 [.int .i64 1, .int .i64 0, .int .i64 0, .int .i64 0, .int .i64 0, .int .i64 5, .slice none 0 0, .slice none 0 0]::blk q3 3 [.int .i64 n]::blk lb 92 [.int .i64 0, .slice none 0 0, .slice (some ⟨q2,0,none⟩) 1 1, .int .i64 3, .int .i64 0, .int .i64 0, .slice none 0 0, .slice none 0 0, .int .i64 0, .slice none 0 0, .slice none 0 0, .slice (some ⟨q3,0,none⟩) 1 1]::blk la 95 [.int .i64 0, .slice none 0 0, .slice (some ⟨q1,0,none⟩) 1 1, .slice (some ⟨lb,0,none⟩) 1 1]::L)):∃c',cx.Le c'∧modR.at c' [.slice (some ⟨la,0,none⟩) 1 1] (Q8h n)∧St c' w L:=by
 have n0:∀c:Cx,tyR.sl c (.slice none 0 0) []:=fun c=> Rep.SR.nil _ _ _
 have n1:∀c:Cx,intR.sl c (.slice none 0 0) []:=fun c=> Rep.SR.nil _ _ _
 obtain ⟨c1,hle1,hS,h1⟩:=St.freeze1 (r:=tyR) (x:= .mk 1 0 []) hS (Q2P (n0 _))
 obtain ⟨c2,hle2,hS,h2⟩:=St.freeze1 (r:=insR) (x:=⟨1,0,0,0,0,5,[],[]⟩) hS ⟨_,_,rfl,n1 _,n1 _⟩
 obtain ⟨c3,hle3,hS,h3⟩:=St.freeze1 (r:=intR) (x:=n) hS rfl
 obtain ⟨c4,hle4,hS,h4⟩:=St.freeze1 (r:=blockR) (x:=⟨0,[],[⟨1,0,0,0,0,5,[],[]⟩],⟨3,0,toZ,toZ,[n]⟩⟩) hS (Qbc (x:=⟨0,[],[⟨1,0,0,0,0,5,[],[]⟩],⟨3,0,toZ,toZ,[n]⟩⟩) (n0 _) (Rep.SR.up h2 hle3) (n1 _) (n1 _) (n1 _) (n1 _) h3)
 obtain ⟨c5,hle5,hS,h5⟩:=St.freeze1 (r:=funcR) (x:=⟨0,[],[.mk 1 0 []],[⟨0,[],[⟨1,0,0,0,0,5,[],[]⟩],⟨3,0,toZ,toZ,[n]⟩⟩]⟩) hS ⟨_,_,_,rfl,n0 _,Rep.SR.up h1 (hle2.trans (hle3.trans hle4)),h4⟩
 exact ⟨c5,hle1.trans (hle2.trans (hle3.trans (hle4.trans hle5))),⟨_,rfl,h5⟩,hS⟩
theorem five_c (hS:St cx w L):Rets Tryz.prog Qdn [] w fun u w'=>∃c' vf,cx.Le c'∧u= .agg ⟨[vf]⟩∧modR.at c' [vf] (Q8h 0)∧St c' w' L:=by
 refine (five_o hS).mono fun u w' h=> ?_
 obtain ⟨q1,q2,q3,la,lb,rfl,hS⟩:=h
 obtain ⟨c',h1,h2,h3⟩:=Qgl hS
 exact ⟨c',_,h1,rfl,h2,h3⟩
end Go.Proofs.YteflkifmgnpbhaaGreat
namespace Go.Proofs.YteflkifmgnpbhaaGreat
open Go.Lir
set_option maxHeartbeats 1000000
attribute [local irreducible] LC.wp Q0 Qh Qc retQ Qw LO.wp Q3 Calls
set_option linter.unusedSimpArgs false
set_option linter.unusedVariables false
theorem QdU {x:Module}{cx:Cx}{w:World}{L:List Res}{cs:List Value}(hx:modR.at cx cs x) (hS:St cx w L):Rets Tryz.prog Qaa [.agg ⟨cs⟩] w fun u w'=>∃b,u= .bool b∧(b=false→x.Few)∧St cx w' L:=by
 obtain ⟨vf,rfl,hl⟩:=Q21 hx
 obtain ⟨l⟩:=x
 have hl:funcR.sl cx vf l:=hl
 have hlen:=hl.len
 all_goals refine lgo tyD Tryz.func18 ?_
 all_goals (refine Zaq ?_;intro p1 w1 hS;refine ZbD ?_;refine zf0 ?_;refine zl hS ?_;refine zL ?_)
 all_goals (first|(refine Q1e ?_)|(refine Q1s ?_)|(refine Qx rfl rfl (fun hc=> ?_) (fun hc=> ?_)))
 all_goals (refine zn ?_)
 all_goals
  first
  | (refine zct ?_
     all_goals (refine Zao ?_)
     all_goals (exact ⟨_,rfl,true,rfl,fun h=> Bool.noConfusion h,hS.sp⟩))
  | (refine zcf ?_
     all_goals refine zsk ?_)
 all_goals (refine ZbA ?_)
 refine zoL hS [1] (fun A LL ρ' w'=>∃(j:Nat),Has ρ' A∧Has ρ' [(3, .int .i64 j)]∧(j≤l.length)∧(l.length≤20)∧(∀f∈l.take j,f.Few)∧St cx w' (LL)) (fun ρ' _=> (l.length - iv (ρ' 3)).toNat) ?_ ?_
 · exact ⟨0,zh,zh,(by omega),(by omega),by simp,hS.sp⟩
 rintro ρ w1 ⟨j,hA,hρ,hj,hl20,hd,hS⟩;obtain ⟨ρ,rfl⟩:=env2 hA hρ
 all_goals (refine Zah ?_;refine zf0 ?_;refine zl hS ?_;refine zL ?_;refine Zam ?_)
 refine Qn rfl (fun hc=> ?_) (fun hc=> ?_)
 · skip
   all_goals (refine Zbk ?_;refine zf0 ?_;refine zl hS ?_;refine zm ?_;refine zi ?_;intro b1 o1 cs1 x1 hat1 hx1 he1;obtain ⟨vp1,vr1,vb1,rfl,hp1,hr1,hb1⟩:=QM he1;refine ZaP ?_;intro p4 w1 hS;refine zsn hS ?_;intro w1 hS;have hS:=hS.ns;refine ZbH ?_;refine zf0 ?_;refine zl hS ?_;refine zL ?_)
   all_goals (first|(refine Q1e ?_)|(refine Q1s ?_)|(refine Qx rfl rfl (fun hc=> ?_) (fun hc=> ?_)))
   all_goals (refine ZaO ?_)
   all_goals ((first|(refine zgn ?_)|(refine zgy ?_;refine zR1 (c:=Q9S hp1 hS) (h:=?_);rintro v1 w1 ⟨rfl,hS⟩;cases hg1:Tys.great x1.params)))
   all_goals (refine Yae ?_;refine ZaO ?_)
   all_goals ((first|(refine zgn ?_)|(refine zgy ?_;refine zR1 (c:=Q9S hr1 hS) (h:=?_);rintro v1 w1 ⟨rfl,hS⟩;cases hg2:Tys.great x1.results)))
   all_goals (refine ZaL ?_)
   all_goals
    first
    | (refine zct ?_
       all_goals (refine Zao ?_)
       all_goals (exact ⟨_,rfl,true,rfl,fun h=> Bool.noConfusion h,hS.sp⟩))
    | (refine zcf ?_
       all_goals refine zsk ?_)
   all_goals (refine Qv ?_;have hlb:=hb1.len;refine Q1d ?_;refine ZaB ?_)
   refine zoL hS [1,3,4] (fun A LL ρ' w'=>∃(i:Nat),Has ρ' A∧Has ρ' [(5, .int .i64 i)]∧(i≤x1.blocks.length)∧(x1.blocks.length≤30)∧(Tys.great x1.params=false)∧(Tys.great x1.results=false)∧(∀f∈x1.blocks.take i,f.Few)∧St cx w' (LL)) (fun ρ' _=> (x1.blocks.length - iv (ρ' 5)).toNat) ?_ ?_
   · exact ⟨0,zh,zh,(by omega),(by omega),by assumption,by assumption,by simp,hS.sp⟩
   rintro ρ w1 ⟨i,hA,hρ,hi,hl30,hg1,hg2,hd1,hS⟩;obtain ⟨ρ,rfl⟩:=env2 hA hρ
   all_goals (refine Zah ?_;refine zf0 ?_;refine zl hS ?_;refine zL ?_;refine Zam ?_)
   refine Qn rfl (fun hc=> ?_) (fun hc=> ?_)
   · skip
     all_goals (refine Zbk ?_;refine zf0 ?_;refine zl hS ?_;refine zm ?_;refine zi ?_;intro b2 o2 cs2 x2 hat2 hx2 he2;obtain ⟨vp2,vc2,ve21,ve22,ve23,ve24,ve25,rfl,hp2,hc2,he21,he22,he23,he24,he25⟩:=Q23 he2;refine ZaP ?_;intro p6 w1 hS;refine zsn hS ?_;intro w1 hS;have hS:=hS.ns;refine ZbH ?_;refine zf0 ?_;refine zl hS ?_;refine zL ?_)
     all_goals (first|(refine Q1e ?_)|(refine Q1s ?_)|(refine Qx rfl rfl (fun hc=> ?_) (fun hc=> ?_)))
     all_goals (refine ZaO ?_)
     all_goals ((first|(refine zgn ?_)|(refine zgy ?_;refine zR1 (c:=Q9S hp2 hS) (h:=?_);rintro v1 w1 ⟨rfl,hS⟩;cases hg3:Tys.great x2.params)))
     all_goals (refine ZbM ?_;refine Yab ?_;refine Yag ?_;refine Yad ?_;refine Yaj ?_)
     all_goals (first|refine zgn ?_|(refine zgy ?_;(first|(refine Q1e ?_)|(refine Q1s ?_)|(refine Qx rfl rfl (fun hc=> ?_) (fun hc=> ?_)))))
     all_goals (refine ZbM ?_;refine Yab ?_;refine Yag ?_;refine Yag ?_;refine Yad ?_;refine Yaj ?_)
     all_goals (first|refine zgn ?_|(refine zgy ?_;(first|(refine Q1e ?_)|(refine Q1s ?_)|(refine Qx rfl rfl (fun hc=> ?_) (fun hc=> ?_)))))
     all_goals (refine ZbM ?_;refine Yab ?_;refine Yag ?_;refine Yag ?_;refine Yad ?_;refine Yaj ?_)
     all_goals (first|refine zgn ?_|(refine zgy ?_;(first|(refine Q1e ?_)|(refine Q1s ?_)|(refine Qx rfl rfl (fun hc=> ?_) (fun hc=> ?_)))))
     all_goals (refine ZbM ?_;refine Yab ?_;refine Yag ?_;refine Yag ?_;refine Yad ?_;refine Yaj ?_)
     all_goals (first|refine zgn ?_|(refine zgy ?_;(first|(refine Q1e ?_)|(refine Q1s ?_)|(refine Qx rfl rfl (fun hc=> ?_) (fun hc=> ?_)))))
     all_goals (refine ZbM ?_;refine Yab ?_;refine Yag ?_;refine Yag ?_;refine Yad ?_;refine Yaj ?_)
     all_goals (first|refine zgn ?_|(refine zgy ?_;(first|(refine Q1e ?_)|(refine Q1s ?_)|(refine Qx rfl rfl (fun hc=> ?_) (fun hc=> ?_)))))
     all_goals (refine ZaL ?_)
     all_goals
      first
      | (refine zct ?_
         all_goals (refine Zao ?_)
         all_goals (exact ⟨_,rfl,true,rfl,fun h=> Bool.noConfusion h,hS.sp⟩))
      | (refine zcf ?_
         all_goals refine zsk ?_)
     all_goals (refine Qv ?_;have hlc:=hc2.len;refine Q1d ?_;refine ZaB ?_)
     refine zoL hS [1,3,4,5,6] (fun A LL ρ' w'=>∃(k:Nat),Has ρ' A∧Has ρ' [(7, .int .i64 k)]∧(k≤x2.code.length)∧(x2.code.length≤200)∧(Tys.great x2.params=false)∧(x2.fin.Few)∧(∀f∈x2.code.take k,f.Few)∧St cx w' (LL)) (fun ρ' _=> (x2.code.length - iv (ρ' 7)).toNat) ?_ ?_
     · exact ⟨0,zh,zh,(by omega),(by omega),by assumption,⟨⟨by omega,by omega⟩,⟨by omega,by omega⟩,by omega⟩,by simp,hS.sp⟩
     rintro ρ w1 ⟨k,hA,hρ,hk,hl200,hg3,hfin,hd2,hS⟩;obtain ⟨ρ,rfl⟩:=env2 hA hρ
     all_goals (refine Zah ?_;refine zf0 ?_;refine zl hS ?_;refine zL ?_;refine Zam ?_)
     refine Qn rfl (fun hc=> ?_) (fun hc=> ?_)
     · skip
       all_goals (refine Zbk ?_;refine zf0 ?_;refine zl hS ?_;refine zm ?_;refine zi ?_;intro b3 o3 cs3 x3 hat3 hx3 he3;obtain ⟨vr3,va3,rfl,hr3,ha3⟩:=Q1a he3;refine Yac ?_;refine Yaw ?_;refine zL ?_)
       all_goals (first|(refine Q1e ?_)|(refine Q1s ?_)|(refine Qx rfl rfl (fun hc=> ?_) (fun hc=> ?_)))
       all_goals (refine ZaO ?_;refine Yaa ?_;(first|(refine zgn ?_)|(refine zgy ?_;refine Q68 vw rfl (by assumption) rfl (by omega) ?_;intro b4 o4 cs4 x4 hat4 hx4 he4;rw [hx3] at hx4;obtain rfl:x3=x4:=Option.some.inj hx4;obtain ⟨vr4,va4,rfl,hr4,ha4⟩:=Q1a he4));refine Yag ?_;refine Yav ?_;refine Yaj ?_)
       all_goals (first|refine zgn ?_|(refine zgy ?_;(first|(refine Q1e ?_)|(refine Q1s ?_)|(refine Qx rfl rfl (fun hc=> ?_) (fun hc=> ?_)))))
       all_goals (refine ZaL ?_)
       all_goals
        first
        | (refine zct ?_
           all_goals (refine Zao ?_)
           all_goals (exact ⟨_,rfl,true,rfl,fun h=> Bool.noConfusion h,hS.sp⟩))
        | (refine zcf ?_
           all_goals refine zsk ?_)
       all_goals (refine Zag ?_;refine zad ?_;refine Zad ?_;exact ⟨⟨k+1,zh,zh,(by omega),(by omega),by assumption,by assumption,Q7l hd2 hx3 ⟨by omega,by omega⟩,hS.sp⟩,Qr (by omega)⟩)
     · skip
       all_goals (refine zex ?_;refine Zag ?_;refine zad ?_;refine Zad ?_;exact ⟨⟨i+1,zh,zh,(by omega),(by omega),by assumption,by assumption,Q7l hd1 hx2 ⟨hg3,by omega,Q7k hd2 (by omega),hfin⟩,hS.sp⟩,Qr (by omega)⟩)
   · skip
     all_goals (refine zex ?_;refine Zag ?_;refine zad ?_;refine Zad ?_;exact ⟨⟨j+1,zh,zh,(by omega),(by omega),Q7l hd hx1 ⟨hg1,hg2,by omega,Q7k hd1 (by omega)⟩,hS.sp⟩,Qr (by omega)⟩)
 · skip
   all_goals (refine ZbK ?_)
   all_goals (first|(exact ⟨_,rfl,true,rfl,fun h=> Bool.noConfusion h,hS.sp⟩)|(have h1:l.length≤20:=(by omega);exact ⟨_,rfl,false,rfl,fun _=> ⟨h1,Q7k (l:=l) hd (by omega)⟩,hS.sp⟩))
end Go.Proofs.YteflkifmgnpbhaaGreat
namespace Go.Proofs.YteflkifmgnpbhaaGreat
open Go.Lir
set_option maxHeartbeats 1000000
attribute [local irreducible] LC.wp Q0 Qh Qc retQ Qw LO.wp Q3 Calls
set_option linter.unusedSimpArgs false
set_option linter.unusedVariables false
variable {cx:Cx}{w:World}{L:List Res}{m:Module}{inp:List Int}
theorem QcO {l m:List Int}{v v2:Value}(hl:intR.sl cx v l) (hm:intR.sl cx v2 m) (hS:St cx w L):Rets Tryz.prog Qcp [v,v2] w fun u w'=> u= .bool (decide (l=m))∧St cx w' L:=by
 have hlen:=hl.len
 all_goals refine lgo tyD Tryz.func78 ?_
 all_goals (refine Zba ?_;refine zL ?_;refine zm ?_;refine zL ?_)
 all_goals (first|(refine Q11 ?_)|(refine Q18 ?_)|(refine Qu rfl rfl (fun hc=> ?_) (fun hc=> ?_)))
 all_goals (refine zn ?_)
 all_goals
  first
  | (refine zct ?_
     all_goals (refine Zao ?_)
     all_goals (refine ⟨_,rfl,?_,hS.sp⟩;rw [decide_eq_false];exact fun e=> absurd (congrArg List.length e) (by omega);done))
  | (refine zcf ?_
     all_goals refine zsk ?_)
 all_goals (refine ZbA ?_)
 refine zoL hS [0,1] (fun A LL ρ' w'=>∃(j:Nat),Has ρ' A∧Has ρ' [(5, .int .i64 j)]∧(j≤l.length)∧(l.length=m.length)∧(l=m↔l.drop j=m.drop j)∧St cx w' (LL)) (fun ρ' _=> (l.length - iv (ρ' 5)).toNat) ?_ ?_
 · exact ⟨0,zh,zh,(by omega),(by omega),by simp,hS.sp⟩
 rintro ρ w1 ⟨j,hA,hρ,hj,hlm,hd,hS⟩;obtain ⟨ρ,rfl⟩:=env2 hA hρ
 all_goals (refine ZbL ?_;refine zL ?_;refine Zam ?_)
 refine Qn rfl (fun hc=> ?_) (fun hc=> ?_)
 · skip
   all_goals (refine ZaA ?_;refine Qv ?_;refine zD (ci 9 [8]) ?_;have hS:=hS.drew;refine Zbg ?_;refine zi ?_;intro b1 o1 cs1 x1 hat1 hx1 he1;obtain rfl:=QQ he1;refine Yap ?_;refine Zbg ?_;refine zi ?_;intro b2 o2 cs2 x2 hat2 hx2 he2;obtain rfl:=QQ he2;refine Yap ?_)
   all_goals (first|(refine Q11 ?_)|(refine Q18 ?_)|(refine Qu rfl rfl (fun hc=> ?_) (fun hc=> ?_)))
   all_goals (refine zn ?_)
   all_goals
    first
    | (refine zct ?_
       all_goals (refine Zao ?_)
       all_goals (first|(refine ⟨_,rfl,?_,hS.sp⟩;rw [decide_eq_false];exact fun e=> absurd (congrArg List.length e) (by omega);done)|(refine ⟨_,rfl,?_,hS.sp⟩;rw [decide_eq_false];rw [hd,Q7 hx1,Q7 hx2];simp [*];done)))
    | (refine zcf ?_
       all_goals refine zsk ?_)
   all_goals (refine Zag ?_;refine zad ?_;refine Zad ?_;exact ⟨⟨j+1,zh,zh,(by omega),(by omega),by rw [hd,Q7 hx1,Q7 hx2,show x1=x2 by omega];simp,hS.sp⟩,Qr (by omega)⟩)
 · skip
   all_goals (refine ZbK ?_;(first|(refine ⟨_,rfl,?_,hS.sp⟩;rw [decide_eq_false];exact fun e=> absurd (congrArg List.length e) (by omega);done)|(refine ⟨_,rfl,?_,hS.sp⟩;rw [decide_eq_false];rw [hd,Q7 hx1,Q7 hx2];simp [*];done)|(refine ⟨_,rfl,?_,hS.sp⟩;rw [decide_eq_true];rw [hd,List.drop_of_length_le (by omega),List.drop_of_length_le (by omega)];done)))
theorem Qav {e e2 f f2:Int}{xs ys xs2 ys2:List Int}{v1 v2 v3 v4:Value}(h1:intR.sl cx v1 xs) (h2:intR.sl cx v2 ys) (h3:intR.sl cx v3 xs2) (h4:intR.sl cx v4 ys2) (hS:St cx w L):
 Rets Tryz.prog Qa9 [.agg ⟨[.int .i64 e,v1,v2, .int .i64 f]⟩, .agg ⟨[.int .i64 e2,v3,v4, .int .i64 f2]⟩] w fun u w'=> u= .bool (decide (e=e2∧xs=xs2∧ys=ys2∧f=f2))∧St cx w' L:=by
 all_goals refine lgo tyD Tryz.func31 ?_
 all_goals (refine Zaq ?_;intro p2 w1 hS;refine zb hS ?_;intro p3 w1 hS;refine ZbO ?_;refine zf0 ?_;refine zl hS ?_;refine zf0 ?_;refine zl hS ?_)
 all_goals (first|(refine Qi ?_)|(refine Qm ?_)|(refine Q5 rfl rfl (fun hc=> ?_) (fun hc=> ?_)))
 all_goals (refine ZaO ?_;refine Zap ?_)
 all_goals ((first|(refine zgn ?_)|(refine zgy ?_;refine zR2 (c:=QcO h1 h3 hS) (h:=?_);rintro v1 w1 ⟨rfl,hS⟩;(cases hdec:decide (xs=xs2));have hg:=of_decide_eq_false hdec;rotate_left;have hg:=of_decide_eq_true hdec;all_goals skip)))
 all_goals (refine Yae ?_;refine ZaO ?_;refine Zap ?_)
 all_goals ((first|(refine zgn ?_)|(refine zgy ?_;refine zR2 (c:=QcO h2 h4 hS) (h:=?_);rintro v1 w1 ⟨rfl,hS⟩;(cases hdec:decide (ys=ys2));have hg:=of_decide_eq_false hdec;rotate_left;have hg:=of_decide_eq_true hdec;all_goals skip)))
 all_goals (refine Yae ?_;refine ZaO ?_;refine Zap ?_)
 all_goals (first|refine zgn ?_|(refine zgy ?_;(first|(refine Qi ?_)|(refine Qm ?_)|(refine Q5 rfl rfl (fun hc=> ?_) (fun hc=> ?_)))))
 all_goals (refine Yae ?_;refine Zai ?_;refine ⟨_,rfl,?_,hS.sp⟩;(simp [*]);done)
theorem long_c {fuel:Int}{cs:List Value}(hx:modR.at cx cs m) (hS:St cx w L):Rets Tryz.prog Law_long [.agg ⟨cs⟩, .int .i64 fuel] w fun u w'=>∃b,u= .bool b∧(b=false→m.Few∧fuel≤3000)∧St cx w' L:=by
 have hx':=hx
 obtain ⟨vf,rfl,hf⟩:=Q21 hx
 all_goals refine lgo tyD Tryz.func14 ?_
 all_goals (refine Zaq ?_;intro p2 w1 hS;refine ZbO ?_;refine zv hS ?_)
 all_goals (refine zR1 (c:=QdU hx' hS) (h:=?_);rintro v1 w1 ⟨b,rfl,hb,hS⟩;cases b)
 all_goals (refine Zak ?_)
 all_goals (first|refine zgn ?_|(refine zgy ?_;(first|(refine Q1e ?_)|(refine Q1s ?_)|(refine Qx rfl rfl (fun hc=> ?_) (fun hc=> ?_)))))
 all_goals (refine Yae ?_;refine Zai ?_)
 all_goals ((first|exact ⟨_,rfl,true,rfl,(fun h=> by cases h),hS.sp⟩|exact ⟨_,rfl,_,rfl,(fun h9=> ⟨hb rfl,by first|omega|(have:=of_decide_eq_false h9;omega)⟩),hS.sp⟩))
end Go.Proofs.YteflkifmgnpbhaaGreat
namespace Go.Proofs.YteflkifmgnpbhaaGreat
open Go.Lir
set_option maxHeartbeats 1000000
attribute [local irreducible] LC.wp Q0 Qh Qc retQ Qw LO.wp Q3 Calls
set_option linter.unusedSimpArgs false
set_option linter.unusedVariables false
variable {cx:Cx}{w:World}{L:List Res}{m:Module}{inp:List Int}
theorem Qcg:Q2x (Q8h 0) [] 9 0=(0,0):=by decide+kernel
theorem five_ocW:(Run.all (Q8h 0) [] (9:Int).toNat 0).oc=⟨0,[5],[],2⟩:=by rfl
theorem Q6N:Q2x (Q8h 1) [] 9 0=(1,91):=by decide+kernel
theorem RRunS.ok {fuel pages:Int}{u:Value}(hz:Q2x m inp fuel pages=(0,0)) (hs:RRunS m inp fuel pages cx L u w):m.runs.1=0∧∃c' v1 v2,cx.Le c'∧u= .tuple #[ocV (Run.all m inp fuel.toNat pages).oc v1 v2,fltV (0,0)]∧intR.sl c' v1 (Run.all m inp fuel.toNat pages).oc.back∧intR.sl c' v2 (Run.all m inp fuel.toNat pages).oc.out∧St c' w L:=by
 rcases hs with ⟨h1,_⟩|⟨_,h1⟩
 · rw [hz] at h1;exact absurd rfl h1
 · exact h1
theorem RRunS.bad {fuel pages:Int}{u:Value}(hz:(Q2x m inp fuel pages).1≠0) (hs:RRunS m inp fuel pages cx L u w):u= .tuple #[.agg ⟨[.int .i64 0, .slice none 0 0, .slice none 0 0, .int .i64 0]⟩,fltV (Q2x m inp fuel pages)]∧St cx w L:=by
 rcases hs with ⟨_,h1⟩|⟨h1,_⟩
 · exact h1
 · rw [h1] at hz;exact absurd rfl hz
theorem rfive_c {vf:Value}(hx:modR.at cx [vf] (Q8h 0)) (hS:St cx w L):Rets Tryz.prog QbO [.agg ⟨[vf]⟩, .slice none 0 0, .int .i64 9, .int .i64 0] w fun u w'=>∃c' u1 u2,cx.Le c'∧u= .tuple #[.agg ⟨[.int .i64 0,u1,u2, .int .i64 2]⟩, .agg ⟨[.int .i64 0, .int .i64 0]⟩]∧intR.sl c' u1 [5]∧intR.sl c' u2 []∧St c' w' L:=by
 refine (rrun_c (m:=Q8h 0) (inp:=[]) (Q8g 0) hx (Rep.SR.nil _ _ _) hS).mono fun u w' hs=> ?_
 obtain ⟨-,c',v1,v2,h1,h2,h3,h4,h5⟩:=RRunS.ok Qcg hs
 rw [five_ocW] at h2 h3 h4
 exact ⟨c',v1,v2,h1,h2,h3,h4,h5⟩
theorem rfive1_c {vf:Value}(hx:modR.at cx [vf] (Q8h 1)) (hS:St cx w L):Rets Tryz.prog QbO [.agg ⟨[vf]⟩, .slice none 0 0, .int .i64 9, .int .i64 0] w fun u w'=> u= .tuple #[.agg ⟨[.int .i64 0, .slice none 0 0, .slice none 0 0, .int .i64 0]⟩, .agg ⟨[.int .i64 1, .int .i64 91]⟩]∧St cx w' L:=by
 refine (rrun_c (m:=Q8h 1) (inp:=[]) (Q8g 1) hx (Rep.SR.nil _ _ _) hS).mono fun u w' hs=> ?_
 obtain ⟨h1,h2⟩:=RRunS.bad (by rw [Q6N];decide) hs
 rw [Q6N] at h1
 exact ⟨h1,h2⟩
theorem QdC (hS:St cx w L):Rets Tryz.prog Qbo [] w fun u w'=> u= .bool true∧St cx w' L:=by
 have n1:∀c:Cx,intR.sl c (.slice none 0 0) []:=fun c=> Rep.SR.nil _ _ _
 all_goals refine lgo tyD Tryz.func32 ?_
 all_goals (refine Zaf ?_;refine Zaa ?_;refine zR0 (c:=five_c hS) (h:=?_);rintro v1 w1 ⟨c1,vf,hle1,rfl,hx1,hS⟩;refine zR4 (c:=rfive_c hx1 hS) (h:=?_);rintro v1 w1 ⟨c2,u1,u2,hle2,rfl,k1,k2,hS⟩;obtain ⟨a1,m1,rfl⟩:=Rep.SR.shape k1;obtain ⟨a2,m2,rfl⟩:=Rep.SR.shape k2;refine Zbw ?_;intro p1 w1 hS;refine Ql hS ?_;intro p2 w1 hS;refine zsn hS ?_;intro w1 hS;have hS:=hS.ns;refine zsn hS ?_;intro w1 hS;have hS:=hS.ns;refine ZaE ?_;refine zR0 (c:=five_o hS) (h:=?_);rintro v1 w1 ⟨q1,q2,q3,la,lb,rfl,hS⟩;refine Ql hS ?_;intro p3 w1 hS;refine zsn hS ?_;intro w1 hS;have hS:=hS.ns;refine ZaE ?_;refine zf0 ?_;refine zl hS ?_;refine Q9p rfl rfl (by decide) (by decide) ?_;refine zf0 ?_;refine zl hS ?_;refine zB1 hS [_] ?_;intro q4 w1 hS;refine Q9p rfl rfl (by decide) (by decide) ?_;refine zf0 ?_)
 all_goals (refine Yac ?_;refine zst hS ?_;intro w1 hS;have hS:=hS.ns;refine ZaE ?_;refine zv hS ?_;obtain ⟨c3,hle3,hx3,hS⟩:=Qgl (q1:=q1) (q2:=q2) (q3:=q4) (la:=la) (lb:=lb) (n:=1) (L:=blk p1 33 [.int .i64 0, .slice a1 [5].length m1, .slice a2 ([]:List Int).length m2, .int .i64 2]::blk p2 29 [.int .i64 0, .int .i64 0]::blk p3 24 [.slice (some ⟨la,0,none⟩) 1 1]::L) hS.sp;refine zR4 (c:=rfive1_c hx3 hS) (h:=?_);rintro v1 w1 ⟨rfl,hS⟩;refine Zbw ?_;intro p4 w1 hS;refine Ql hS ?_;intro p5 w1 hS;refine zsn hS ?_;intro w1 hS;have hS:=hS.ns;refine zsn hS ?_;intro w1 hS;have hS:=hS.ns;refine ZaE ?_;refine zf0 ?_;refine zl hS ?_)
 all_goals (refine Qi ?_)
 all_goals (refine zm ?_;(first|refine zgn ?_|(refine zgy ?_;refine zv hS ?_));(first|(refine zgn ?_)|(refine zgy ?_;refine Q2c (cs:=[_]) vw (by rfl) ?_;intro q5 w1 hb1 hf1 _ hk1;have hS:=hS.laid hb1 hf1 hk1));(first|refine zgn ?_|(refine zgy ?_;refine zb2 [_,_,_,_] ?_));(first|(refine zgn ?_)|(refine zgy ?_;obtain ⟨c6,hle6,hS,h6⟩:=St.freeze1 (r:=intR) (x:=5) hS rfl;refine zR2 (c:=Qav (Rep.SR.up k1 (hle3.trans hle6)) (Rep.SR.up k2 (hle3.trans hle6)) h6 (n1 _) hS) (h:=?_);rintro v1 w1 ⟨rfl,hS⟩;rw [show decide ((0:Int)=0∧[(5:Int)]=[5]∧([]:List Int)=[]∧(2:Int)=2)=true by decide]));refine zpt ?_;refine zm ?_;(first|refine zgn ?_|(refine zgy ?_;refine zv hS ?_));(first|refine zgn ?_|(refine zgy ?_;refine zb2 [_,_] ?_));(first|(refine zgn ?_)|(refine zgy ?_;refine s_eq2_t (a:=(1,91)) flt_int2 rfl rfl ?_));refine zpt ?_;refine Zai ?_;exact ⟨_,rfl,rfl,St.weak hS.sp (hle1.trans (hle2.trans (hle3.trans hle6)))⟩)
end Go.Proofs.YteflkifmgnpbhaaGreat
namespace Go.Proofs.YteflkifmgnpbhaaGreat
open Go.Lir
set_option maxHeartbeats 1000000
attribute [local irreducible] LC.wp Q0 Qh Qc retQ Qw LO.wp Q3 Calls
set_option linter.unusedSimpArgs false
set_option linter.unusedVariables false
def H1:HT:=⟨182,278,131,46⟩
structure GZ where
 fn:Value
 fv:Value
 iv:Value
 e:Int
 bv:Value
 ov:Value
 fu:Int
 mo:Int
 dn:Bool
 c:Int
 a:Int
@[reducible] def gBlk (z:GZ) (b:Nat) (lv:Value) (left:Int):Res:=blk b 49 [z.fn,lv, .int .i64 left,z.fv,z.iv, .int .i64 z.e,z.bv,z.ov, .int .i64 z.fu, .int .i64 z.mo, .bool z.dn, .int .i64 z.c, .int .i64 z.a]
abbrev Q4Z (z:GZ) (b:Nat) (lv:Value) (left:Int) (rv:List RgnV) (L:List Res):List Res:=gBlk z b lv left::sl 131 4 lv (rv.map RgnV.cells)::big (RgnV.res H1) rv::L
def Q1Q (z:GZ) (N:Nat) (h:Value) (s:HpS):Res:=Res.ex fun x:Nat×Value×List RgnV=> Res.pure (h= .pointer (some ⟨x.1,1,none⟩)∧HpO N s x.2.2) (Q5g [gBlk z x.1 x.2.1 s.left,sl 131 4 x.2.1 (x.2.2.map RgnV.cells),big (RgnV.res H1) x.2.2])
variable {z:GZ}{cx:Cx}{w:World}{L:List Res}{i:Nat}{N:Nat}{h:Value}{s:HpS}
theorem Q5f (hS:St cx w (Q1Q z N h s::L)):∃b lv rv,h= .pointer (some ⟨b,1,none⟩)∧HpO N s rv∧St cx w (Q4Z z b lv s.left rv L):=by
 obtain ⟨⟨b,lv,rv⟩,h⟩:=hS.ex
 obtain ⟨⟨h0,h1⟩,h2⟩:=h.pure
 exact ⟨b,lv,rv,h0,h1,h2.list⟩
theorem Qd {b:Nat}{lv:Value}{rv:List RgnV}(ho:HpO N s rv) (hS:St cx w (Q4Z z b lv s.left rv L)):St cx w (Q1Q z N (.pointer (some ⟨b,1,none⟩)) s::L):=
 St.ex' (b,lv,rv) (St.pure' ⟨rfl,ho⟩ (St.list' hS))
theorem Q30 (hS:St cx w L){b:Nat}(hi:nth L i=some (Q1Q z N (.pointer (some ⟨b,1,none⟩)) s)):∃lv rv,HpO N s rv∧St cx w (Q4Z z b lv s.left rv (L.eraseIdx i)):=by
 obtain ⟨b',lv,rv,he,ho,h⟩:=Q5f (hS.out hi)
 cases he
 exact ⟨lv,rv,ho,h⟩
theorem Q1W (hS:St cx w L) (hi:nth L i=some (Q1Q z N h s)):s.Ok N∧∃b,h= .pointer (some ⟨b,1,none⟩):=by
 obtain ⟨b,lv,rv,he,ho,_⟩:=Q5f (hS.out hi);exact ⟨ho.ok,b,he⟩

variable {b:Nat}{lv:Value}{left:Int}{rv:List RgnV}
theorem Q5k (k:Int) (ho:HpO N s rv) (hS:St cx w (Q4Z z b lv left rv L)):Rets Tryz.prog Qbj [.pointer (some ⟨b,1,none⟩), .int .i64 k] w fun v w'=> v= .bool (s.has k)∧St cx w' (Q4Z z b lv left rv L):=by
 rcases (show (k < 0∨(rv.length:Int)≤k)∨∃m:Nat,k=m∧m < rv.length by (by_cases h:k < 0∨(rv.length:Int)≤k;(exact .inl h);exact .inr ⟨k.toNat,by omega,by omega⟩)) with hk|⟨m,rfl,hm⟩
 · have e0:=ho.out hk
   all_goals refine lgo tyD Tryz.func222 ?_
   all_goals (refine ZaV ?_)
   all_goals (first|(refine Q2w ?_)|(refine Q3k ?_)|(refine Q1I rfl rfl (fun hc=> ?_) (fun hc=> ?_)))
   all_goals (refine Zbp ?_;refine Yah ?_;refine Yag ?_;refine Yad ?_;refine Yan ?_)
   all_goals (refine Ybc ?_)
   all_goals (refine ZbM ?_;refine zgn ?_;refine zgn ?_;refine zgn ?_;refine zgn ?_;refine zgn ?_;refine zgn ?_;refine zgn ?_;refine zgn ?_;refine Yae ?_;refine Zai ?_;exact ⟨_,rfl,by rw [e0],hS⟩)
 · obtain ⟨r,hr,hrs,_⟩:=ho.at_ hm
   have e0:s.has m=r.there:=by unfold HpS.has;rw [hrs];rfl
   all_goals refine lgo tyD Tryz.func222 ?_
   all_goals (refine ZaV ?_)
   all_goals (refine Q2w ?_)
   all_goals (refine Zbp ?_;refine Yah ?_;refine Yag ?_;(first|refine zgn ?_|(refine zgy ?_;(first|(refine Q1 hS (by assumption) rfl fd (by exact List.length_map _) (QL hr) rfl ?_)|(refine zl hS ?_))));refine Yan ?_)
   all_goals (first|refine zgn ?_|(refine zgy ?_;refine Q1k ?_))
   all_goals (refine zpt ?_;refine Zak ?_;refine Yah ?_;refine Yag ?_;(first|refine zgn ?_|(refine zgy ?_;(first|(refine Q1 hS (by assumption) rfl fd (by exact List.length_map _) (QL hr) rfl ?_)|(refine zl hS ?_))));refine Yaa ?_;(first|refine zgn ?_|(refine zgy ?_;(first|(refine Yam ?_;intro b1 o1 cs1 x1 hat1 hx1 he1;obtain ⟨vp1,vr1,vb1,rfl,hp1,hr1,hb1⟩:=QM he1)|(refine zie hS ?_;intro b1 o1 hel1))));refine Yag ?_;(first|refine zgn ?_|(refine zgy ?_;refine Q1 hS (by assumption) rfl fd (by first|exact List.length_map _|rfl) (QL hr) rfl ?_));refine zpt ?_;refine Zai ?_;exact ⟨_,rfl,by rw [e0],hS⟩)
theorem QcM (v:Val) (ho:HpO N s rv) (hS:St cx w (Q4Z z b lv left rv L)):Rets Tryz.prog Q8O [.pointer (some ⟨b,1,none⟩),v.v] w fun u w'=> St cx w' (Q4Z z b lv left rv L)∧(s.at_ v=none∧u= .pointer none∨∃k t th,s.at_ v=some (k,t)∧ThgAt rv k t th u):=by
 by_cases hv:v.kind=3∨v.kind=4
 · cases hh:s.has v.region with
   | false=>
     have e0:s.at_ v=none:=by unfold HpS.at_;rw [if_neg (by rw [hh];simp)]
     all_goals refine lgo tyD Tryz.func224 ?_
     all_goals (refine Zaa ?_;refine Q1U hS vw (by rfl) ?_;intro b3 w1 hS;simp only [Val.cells] at hS;refine ZbE ?_;refine zD (ci 35 [12,34]) ?_;have hS:=hS.drew;refine zf0 ?_;refine zl hS ?_)
     all_goals (first|(refine Q11 ?_)|(refine Q18 ?_)|(refine Qu rfl rfl (fun hc=> ?_) (fun hc=> ?_)))
     all_goals (refine ZaO ?_)
     all_goals (refine Yar ?_)
     all_goals (refine Zbt ?_;refine Zap ?_;(first|refine zgn ?_|(refine zgy ?_;refine zR2 (c:=Q5k _ ho (St.rot1 hS)) (h:=?_);rintro v1 w1 ⟨rfl,hS⟩;rw [hh]));refine Yak ?_;refine ZbM ?_;refine zgn ?_;refine zgn ?_)
     all_goals (refine zgn ?_)
     all_goals (refine zpt ?_;refine zm ?_;refine zgn ?_;refine zgn ?_;refine zgn ?_;refine zgn ?_;refine zgn ?_;refine zgn ?_;refine zgn ?_;refine zgn ?_;refine zgn ?_;refine zgn ?_)
     all_goals (refine zgn ?_;refine zgn ?_)
     all_goals (refine zgn ?_)
     all_goals (refine zpt ?_;refine zn ?_)
     all_goals refine zct ?_
     all_goals (refine Zao ?_;exact ⟨_,rfl,hS.sp, .inl ⟨e0,rfl⟩⟩)
   | true=>
     obtain ⟨vk,vr,vt,vn⟩:=v
     have hv':vk=3∨vk=4:=hv
     obtain ⟨m,rfl,hm⟩:=ho.has_in hh
     obtain ⟨r,hr,hrs,_⟩:=ho.at_ hm
     have hrl:(s.reg (m:Int)).l.length=r.l.length:=by rw [hrs];exact List.length_map _
     have hrn:=(ho.rng hr).1
     have hmt:(m:Int).toNat=m:=by omega
     by_cases ht:0≤vt∧vt < r.l.length
     · obtain ⟨t,rfl⟩:=Int.eq_ofNat_of_zero_le ht.1
       have htt:(t:Int).toNat=t:=by omega
       obtain ⟨th,hth⟩:∃th,r.l[t]?=some th:=⟨_,List.getElem?_eq_getElem (by omega)⟩
       have hthg:=ho.thg hr hth
       have e1:s.at_ ⟨vk,m,t,vn⟩=if th.array=decide (vk=4) then some (m,t) else none:=by
        unfold HpS.at_
        simp only [hmt,htt,hthg,hh,hrl]
        by_cases ha:th.array=decide (vk=4)
        · rw [if_pos ⟨hv',trivial,ht.1,ht.2,ha⟩,if_pos ha]
        · rw [if_neg (fun h=> ha h.2.2.2.2),if_neg ha]
       all_goals refine lgo tyD Tryz.func224 ?_
       all_goals (refine Zaa ?_;refine Q1U hS vw (by rfl) ?_;intro b3 w1 hS;simp only [Val.cells] at hS;refine ZbE ?_;refine zD (ci 35 [12,34]) ?_;have hS:=hS.drew;refine zf0 ?_;(first|(refine Q1 hS (by assumption) rfl fd (by exact List.length_map _) (QL hr) rfl ?_)|(refine Q1 (QV (H:=H1) hS hr) (by assumption) rfl nth0 (by exact List.length_map _) (Q3Q hth) rfl ?_)|(refine zl hS ?_)))
       all_goals (first|(refine Q11 ?_)|(refine Q18 ?_)|(refine Qu rfl rfl (fun hc=> ?_) (fun hc=> ?_)))
       all_goals (refine zm ?_;refine Yab ?_;(first|refine zgn ?_|(refine zgy ?_;(first|(refine Q1 hS (by assumption) rfl fd (by exact List.length_map _) (QL hr) rfl ?_)|(refine Q1 (QV (H:=H1) hS hr) (by assumption) rfl nth0 (by exact List.length_map _) (Q3Q hth) rfl ?_)|(refine zl hS ?_)))))
       all_goals (refine Yar ?_)
       all_goals (refine Zbt ?_;refine Yab ?_;(first|refine zgn ?_|(refine zgy ?_;(first|(refine Q1 hS (by assumption) rfl fd (by exact List.length_map _) (QL hr) rfl ?_)|(refine Q1 (QV (H:=H1) hS hr) (by assumption) rfl nth0 (by exact List.length_map _) (Q3Q hth) rfl ?_)|(refine zl hS ?_))));(first|refine zgn ?_|(refine zgy ?_;refine zR2 (c:=Q5k _ ho (St.rot1 hS)) (h:=?_);rintro v1 w1 ⟨rfl,hS⟩;rw [hh]));refine Yak ?_;refine ZbM ?_;refine Yab ?_;(first|refine zgn ?_|(refine zgy ?_;(first|(refine Q1 hS (by assumption) rfl fd (by exact List.length_map _) (QL hr) rfl ?_)|(refine Q1 (QV (H:=H1) hS hr) (by assumption) rfl nth0 (by exact List.length_map _) (Q3Q hth) rfl ?_)|(refine zl hS ?_)))))
       all_goals (refine Ybc ?_)
       all_goals (refine ZbM ?_;refine Yab ?_;(first|refine zgn ?_|(refine zgy ?_;(first|(refine Q1 hS (by assumption) rfl fd (by exact List.length_map _) (QL hr) rfl ?_)|(refine Q1 (QV (H:=H1) hS hr) (by assumption) rfl nth0 (by exact List.length_map _) (Q3Q hth) rfl ?_)|(refine zl hS ?_))));refine Yaa ?_;refine Yah ?_;refine Yag ?_;(first|refine zgn ?_|(refine zgy ?_;(first|(refine Q1 hS (by assumption) rfl fd (by exact List.length_map _) (QL hr) rfl ?_)|(refine Q1 (QV (H:=H1) hS hr) (by assumption) rfl nth0 (by exact List.length_map _) (Q3Q hth) rfl ?_)|(refine zl hS ?_))));refine Yab ?_;(first|refine zgn ?_|(refine zgy ?_;(first|(refine Q1 hS (by assumption) rfl fd (by exact List.length_map _) (QL hr) rfl ?_)|(refine Q1 (QV (H:=H1) hS hr) (by assumption) rfl nth0 (by exact List.length_map _) (Q3Q hth) rfl ?_)|(refine zl hS ?_)))))
       all_goals ((first|refine zgn ?_|(refine zgy ?_;(first|(refine Q2Q (QV (H:=H1) hS hr) vw rfl nth0 (by first|omega|(simp only [List.length_map,List.length_append,List.length_cons,List.length_nil,List.length_set,List.length_replicate];omega)|(simp;done)|(simp;omega)) ?_;rw [List.length_map];intro b5 o5 hel5)|(refine Yam ?_;intro b1 o1 cs1 x1 hat1 hx1 he1;obtain ⟨vp1,vr1,vb1,rfl,hp1,hr1,hb1⟩:=QM he1)|(refine zie hS ?_;intro b1 o1 hel1))));refine Yag ?_;(first|refine zgn ?_|(refine zgy ?_;refine Q1 hS (by assumption) rfl fd (by first|exact List.length_map _|rfl) (QL hr) rfl ?_));(first|(refine zgn ?_)|(refine zgy ?_;refine QO (QV (H:=H1) hS hr) vw nth0 (by exact List.length_map _) ?_)))
       all_goals (refine Yau ?_)
       all_goals (refine ZaL ?_)
       all_goals
        first
        | (refine zct ?_
           all_goals (refine Zao ?_)
           all_goals (exact ⟨_,rfl,hS.sp, .inl ⟨by rw [e1];simp [hta,hk4],rfl⟩⟩))
        | (refine zcf ?_
           all_goals refine zsk ?_)
       all_goals (refine Qv ?_;have hS:St cx _ (Q4Z z b lv left rv _):=(by exact hS);refine zD (ci 13 [12]) ?_;have hS:=hS.drew;refine Zbd ?_;(first|(refine Q1 hS (by assumption) rfl fd (by exact List.length_map _) (QL hr) rfl ?_)|(refine Q1 (QV (H:=H1) hS hr) (by assumption) rfl nth0 (by exact List.length_map _) (Q3Q hth) rfl ?_)|(refine zl hS ?_));refine zf0 ?_;(first|(refine Q1 hS (by assumption) rfl fd (by first|exact List.length_map _|rfl) (QL hr) rfl ?_)|(refine Q1 (QV (H:=H1) hS hr) (by assumption) rfl nth0 (by exact List.length_map _) (Q3Q hth) rfl ?_)|(refine zl hS ?_));(first|(refine Q2Q (QV (H:=H1) hS hr) vw rfl nth0 (by first|omega|(simp only [List.length_map,List.length_append,List.length_cons,List.length_nil,List.length_set,List.length_replicate];omega)|(simp;done)|(simp;omega)) ?_;rw [List.length_map];intro b5 o5 hel5)|(refine Yam ?_;intro b2 o2 cs2 x2 hat2 hx2 he2;obtain ⟨vp2,vr2,vb2,rfl,hp2,hr2,hb2⟩:=QM he2)|(refine zie hS ?_;intro b2 o2 hel2));refine Yac ?_;refine Q1 hS (by assumption) rfl fd (by first|exact List.length_map _|rfl) (QL hr) rfl ?_)
       all_goals (refine zf0 ?_;(first|(refine Q1 hS (by assumption) rfl fd (by first|exact List.length_map _|rfl) (QL hr) rfl ?_)|(refine Q1 (QV (H:=H1) hS hr) (by assumption) rfl nth0 (by exact List.length_map _) (Q3Q hth) rfl ?_)|(refine zl hS ?_));refine Q2Q (QV (H:=H1) hS hr) vw rfl nth0 (by first|omega|(simp only [List.length_map,List.length_append,List.length_cons,List.length_nil,List.length_set,List.length_replicate];omega)) ?_;rw [List.length_map];intro b5 o5 hel5;refine ZbE ?_;refine zD (ci 8 [7]) ?_;have hS:=hS.drew;refine Zbd ?_;(first|(refine Q1 hS (by assumption) rfl fd (by exact List.length_map _) (QL hr) rfl ?_)|(refine Q1 (QV (H:=H1) hS hr) (by assumption) rfl nth0 (by exact List.length_map _) (Q3Q hth) rfl ?_));refine zf0 ?_;(first|(refine Q1 hS (by assumption) rfl fd (by first|exact List.length_map _|rfl) (QL hr) rfl ?_)|(refine Q1 (QV (H:=H1) hS hr) (by assumption) rfl nth0 (by exact List.length_map _) (Q3Q hth) rfl ?_)|(refine zl hS ?_)))
       all_goals (cases hta:th.array <;> by_cases hk4:vk=4 <;> first|(refine Qf2 rfl rfl hk4 ?_)|(refine Qf3 rfl rfl hk4 ?_))
       all_goals ((first|refine Qfa (by kernel_rfl) rfl rfl rfl ?_|refine s_bne (by kernel_rfl) rfl rfl ?_);refine zn ?_)
       all_goals
        first
        | (refine zct ?_
           all_goals (refine Zao ?_)
           all_goals (exact ⟨_,rfl,hS.sp, .inl ⟨by rw [e1];simp [hta,hk4],rfl⟩⟩))
        | (refine zcf ?_
           all_goals refine zsk ?_)
       all_goals (refine Zbl ?_;(first|exact ⟨_,rfl,hS.sp, .inl ⟨by rw [e1];simp [hta,hk4],rfl⟩⟩|exact ⟨_,rfl,hS.sp, .inr ⟨m,t,th,by rw [e1];simp [hta,hk4],r,b5,o5,hr,hth,rfl,hel5⟩⟩))
     · have e0:s.at_ ⟨vk,m,vt,vn⟩=none:=by unfold HpS.at_;rw [if_neg fun h=> ht ⟨h.2.2.1,by have:=h.2.2.2.1;simp only [hrl] at this;exact this⟩]
       all_goals refine lgo tyD Tryz.func224 ?_
       all_goals (refine Zaa ?_;refine Q1U hS vw (by rfl) ?_;intro b3 w1 hS;simp only [Val.cells] at hS;refine ZbE ?_;refine zD (ci 35 [12,34]) ?_;have hS:=hS.drew;refine zf0 ?_;(first|(refine Q1 hS (by assumption) rfl fd (by exact List.length_map _) (QL hr) rfl ?_)|(refine zl hS ?_)))
       all_goals (first|(refine Q11 ?_)|(refine Q18 ?_)|(refine Qu rfl rfl (fun hc=> ?_) (fun hc=> ?_)))
       all_goals (refine zm ?_;refine Yab ?_;(first|refine zgn ?_|(refine zgy ?_;(first|(refine Q1 hS (by assumption) rfl fd (by exact List.length_map _) (QL hr) rfl ?_)|(refine zl hS ?_)))))
       all_goals (refine Yar ?_)
       all_goals (refine Zbt ?_;refine Yab ?_;(first|refine zgn ?_|(refine zgy ?_;(first|(refine Q1 hS (by assumption) rfl fd (by exact List.length_map _) (QL hr) rfl ?_)|(refine zl hS ?_))));(first|refine zgn ?_|(refine zgy ?_;refine zR2 (c:=Q5k _ ho (St.rot1 hS)) (h:=?_);rintro v1 w1 ⟨rfl,hS⟩;rw [hh]));refine Yak ?_;refine ZbM ?_;refine Yab ?_;(first|refine zgn ?_|(refine zgy ?_;(first|(refine Q1 hS (by assumption) rfl fd (by exact List.length_map _) (QL hr) rfl ?_)|(refine zl hS ?_)))))
       all_goals (first|refine zgn ?_|(refine zgy ?_;(first|(refine Q1k ?_)|(refine Q1w ?_)|(refine QA rfl rfl (fun hc=> ?_) (fun hc=> ?_)))))
       all_goals (refine ZbM ?_;refine Yab ?_;(first|refine zgn ?_|(refine zgy ?_;(first|(refine Q1 hS (by assumption) rfl fd (by exact List.length_map _) (QL hr) rfl ?_)|(refine zl hS ?_))));refine Yaa ?_;refine Yah ?_;refine Yag ?_;(first|refine zgn ?_|(refine zgy ?_;(first|(refine Q1 hS (by assumption) rfl fd (by exact List.length_map _) (QL hr) rfl ?_)|(refine zl hS ?_))));refine Yab ?_;(first|refine zgn ?_|(refine zgy ?_;(first|(refine Q1 hS (by assumption) rfl fd (by exact List.length_map _) (QL hr) rfl ?_)|(refine zl hS ?_))));(first|refine zgn ?_|(refine zgy ?_;(first|(refine Yam ?_;intro b1 o1 cs1 x1 hat1 hx1 he1;obtain ⟨vp1,vr1,vb1,rfl,hp1,hr1,hb1⟩:=QM he1)|(refine zie hS ?_;intro b1 o1 hel1)))))
       all_goals (refine Yag ?_;(first|refine zgn ?_|(refine zgy ?_;refine Q1 hS (by assumption) rfl fd (by first|exact List.length_map _|rfl) (QL hr) rfl ?_));(first|refine zgn ?_|(refine zgy ?_;refine QO (QV (H:=H1) hS hr) vw nth0 (by exact List.length_map _) ?_)))
       all_goals (first|refine zgn ?_|(refine zgy ?_;refine Q2w ?_))
       all_goals (refine ZaL ?_)
       all_goals refine zct ?_
       all_goals (refine Zao ?_;exact ⟨_,rfl,hS.sp, .inl ⟨e0,rfl⟩⟩)
 · have e0:s.at_ v=none:=by unfold HpS.at_;rw [if_neg fun h=> hv h.1]
   all_goals refine lgo tyD Tryz.func224 ?_
   all_goals (refine Zaa ?_;refine Q1U hS vw (by rfl) ?_;intro b3 w1 hS;simp only [Val.cells] at hS;refine ZbE ?_;refine zD (ci 35 [12,34]) ?_;have hS:=hS.drew;refine zf0 ?_;refine zl hS ?_)
   all_goals (refine Q11 ?_)
   all_goals (refine ZaO ?_)
   all_goals (first|refine zgn ?_|(refine zgy ?_;refine Q11 ?_))
   all_goals (refine zpt ?_;refine zm ?_;refine zgn ?_;refine zgn ?_;refine zgn ?_;refine zgn ?_;refine zgn ?_;refine zpt ?_;refine zm ?_;refine zgn ?_;refine zgn ?_)
   all_goals (refine zgn ?_)
   all_goals (refine zpt ?_;refine zm ?_;refine zgn ?_;refine zgn ?_;refine zgn ?_;refine zgn ?_;refine zgn ?_;refine zgn ?_;refine zgn ?_;refine zgn ?_;refine zgn ?_;refine zgn ?_)
   all_goals (refine zgn ?_;refine zgn ?_)
   all_goals (refine zgn ?_)
   all_goals (refine zpt ?_;refine zn ?_)
   all_goals refine zct ?_
   all_goals (refine Zao ?_;exact ⟨_,rfl,hS.sp, .inl ⟨e0,rfl⟩⟩)
end Go.Proofs.YteflkifmgnpbhaaGreat
namespace Go.Proofs.YteflkifmgnpbhaaGreat
open Go.Lir
set_option maxHeartbeats 1000000
attribute [local irreducible] LC.wp Q0 Qh Qc retQ Qw LO.wp Q3 Calls
set_option linter.unusedSimpArgs false
set_option linter.unusedVariables false
variable {z:GZ}{cx:Cx}{w:World}{L:List Res}{i:Nat}{N:Nat}{h:Value}{s:HpS}
theorem Qgp:Q1H Tryz.prog 129=some (278,2,32,[.bool false, .slice none 0 0]):=by kernel_rfl
theorem Qgq:Q1H Tryz.prog 44=some (131,4,48,[.bool false, .slice none 0 0, .int .i64 0, .int .i64 0]):=by kernel_rfl
theorem Q9X:Q1H Tryz.prog 117=some (182,4,32,[.int .i64 0, .int .i64 0, .int .i64 0, .int .i64 0]):=by kernel_rfl
theorem Qex:∃e2,Tryz.prog.underlying 129=some (.slice e2):=⟨278,by kernel_rfl⟩
theorem Qey:∃e2,Tryz.prog.underlying 44=some (.slice e2):=⟨131,by kernel_rfl⟩
theorem Q99:∃e2,Tryz.prog.underlying 117=some (.slice e2):=⟨182,by kernel_rfl⟩
theorem QfO {l:List Rgn}{j:Nat}(h:j < l.length):(l.take (j+1)).countP (fun r=> r.there)=(l.take j).countP (fun r=> r.there)+if (l.getD j Rgn.none).there then 1 else 0:=by
 rw [Q3u Rgn.none h,List.countP_append,List.countP_singleton]
theorem Q9v {b:Nat}{lv:Value}{left:Int}{rv:List RgnV}(ho:HpO N s rv) (hN:N≤100000) (hS:St cx w (Q4Z z b lv left rv L)):Rets Tryz.prog Qa8 [.pointer (some ⟨b,1,none⟩)] w fun u w'=> u= .int .i64 s.live∧St cx w' (Q4Z z b lv left rv L):=by
 have hlen:=ho.len
 have hsl:=ho.ok.len
 all_goals refine lgo tyD Tryz.func28 ?_
 all_goals (refine Zaf ?_;refine Zaf ?_;refine ZbA ?_)
 refine zo [] (fun A ρ' w'=>∃(j n:Nat),Has ρ' A∧Has ρ' [(0, .pointer (some ⟨b,1,none⟩)),(3, .int .i64 n),(4, .int .i64 j)]∧(j≤rv.length)∧(n=(s.l.take j).countP (fun r=> r.there))∧St cx w' (Q4Z z b lv left rv L)) (fun ρ' _=> (rv.length - iv (ρ' 4)).toNat) ?_ ?_
 · exact ⟨0,0,zh,zh,(by omega),(by first|omega|assumption|rfl),hS.sp⟩
 rintro ρ w1 ⟨j,n,hA,hρ,hj,hn,hS⟩;obtain ⟨ρ,rfl⟩:=env2 hA hρ;have hcl:=List.countP_le_length (p:=fun r:Rgn=> r.there) (l:=s.l.take j);have htl:=List.length_take_le j s.l
 all_goals (refine Zah ?_;refine Zbd ?_;(first|(refine Q1 hS (by assumption) rfl fd (by exact List.length_map _) (QL hr) rfl ?_)|(refine zl hS ?_));refine Yay ?_;refine Zam ?_)
 refine Qn rfl (fun hc=> ?_) (fun hc=> ?_)
 · skip
   all_goals (refine ZaA ?_;refine Qv ?_;obtain ⟨r,hr,hrs,hsl2⟩:=ho.at_ (k:=j) (by omega);have hcs:=QfO (l:=s.l) (j:=j) (by omega);have hrg:s.l.getD j Rgn.none=r.abs:=(by rw [List.getD_eq_getElem?_getD,hsl2];rfl);rw [hrg] at hcs;refine Zag ?_;refine Zar ?_;(first|(refine Q1 hS (by assumption) rfl fd (by exact List.length_map _) (QL hr) rfl ?_)|(refine zl hS ?_));refine zm ?_;(first|(refine Yam ?_;intro b1 o1 cs1 x1 hat1 hx1 he1;obtain ⟨vp1,vr1,vb1,rfl,hp1,hr1,hb1⟩:=QM he1)|(refine zie hS ?_;intro b1 o1 hel1));refine Yac ?_;refine Q1 hS (by assumption) rfl fd (by first|exact List.length_map _|rfl) (QL hr) rfl ?_;refine zn ?_)
   refine Q6H rfl (fun hc=> ?_) (fun hc=> ?_)
   · skip
     all_goals (refine Zag ?_;refine zad ?_;refine Zad ?_;refine Zag ?_;refine zad ?_;refine Zad ?_;exact ⟨⟨j+1,n+1,zh,zh,(by omega),(by rw [hcs,hn,if_pos (show r.abs.there=true from hc)]),hS.sp⟩,Qr (by omega)⟩)
   · skip
     all_goals (refine zsk ?_;refine Zag ?_;refine zad ?_;refine Zad ?_;(first|(exact ⟨⟨j+1,n+1,zh,zh,(by omega),(by rw [hcs,hn,if_pos (show r.abs.there=true from hc)]),hS.sp⟩,Qr (by omega)⟩)|(exact ⟨⟨j+1,n,zh,zh,(by omega),(by rw [hcs,hn,if_neg (show¬r.abs.there=true from by rw [show r.abs.there=false from hc];simp)];rfl),hS.sp⟩,Qr (by omega)⟩)))
 · skip
   all_goals (refine zex ?_;refine Zbl ?_;have hn':n=s.live:=(by unfold HpS.live;rw [hn,List.take_of_length_le (by omega)]);exact ⟨_,rfl,by rw [hn'],hS⟩)
theorem rtopen_c (hN:N≤100000) (hS:St cx w L) (hi:nth L i=some (Q1Q z N h s)):Rets Tryz.prog Qa7 [h] w fun u w'=> u= .tuple #[s.openV.v, .bool (!s.full)]∧St cx w' (L.set i (Q1Q z (N+1) h s.open)):=by
 obtain ⟨hok,b,rfl⟩:=Q1W hS hi
 obtain ⟨lv,rv,ho,hS⟩:=Q30 hS hi
 have hlv:=hok.live
 have hlen:=ho.len
 have hsl:=hok.len
 cases hf:s.full with
 | true=>
   have h16:s.live=16:=of_decide_eq_true hf
   have e1:s.open=s:=by unfold HpS.open;rw [hf];rfl
   have e2:s.openV=Val.zero:=by unfold HpS.openV;rw [hf];rfl
   rw [e1,e2]
   all_goals refine lgo tyD Tryz.func123 ?_
   all_goals (refine Zbv ?_;intro p2 w1 hS;refine ZaM ?_;refine zR1 (c:=Q9v ho hN (St.rot1 hS)) (h:=?_);rintro v1 w1 ⟨rfl,hS⟩)
   all_goals (refine Q2w ?_)
   all_goals (refine zn ?_)
   all_goals refine zct ?_
   all_goals (refine Zaa ?_;refine zb0 [_,_,_,_] ?_;refine zsn hS ?_;intro w1 hS;have hS:=hS.ns;refine Zau ?_;refine Q2a vw (Qa (n:=4) (by kernel_rfl) (by kernel_rfl) (hS.blkAt fd) (by rfl) (by rfl)) vw ?_;exact ⟨_,rfl,rfl,(Qd (⟨ho.hr,hok.mono (by omega)⟩:HpO (N+1) s rv) (L:=L.eraseIdx i) hS.sp).back hi⟩)
 | false=>
   have h16:s.live≠16:=of_decide_eq_false hf
   have e1:s.open=⟨s.l++[⟨true,[],0,0⟩],s.left⟩:=by unfold HpS.open;rw [hf];rfl
   have e2:s.openV=⟨2,s.l.length,0,0⟩:=by unfold HpS.openV;rw [hf];rfl
   have ho2:HpO (N+1) s.open (rv++[⟨true, .slice none 0 0,[],0,0⟩]):=⟨by rw [List.map_append,ho.hr,e1];rfl,HpS.ok_open hok⟩
   all_goals refine lgo tyD Tryz.func123 ?_
   all_goals (refine Zbv ?_;intro p2 w1 hS;refine ZaM ?_;refine zR1 (c:=Q9v ho hN (St.rot1 hS)) (h:=?_);rintro v1 w1 ⟨rfl,hS⟩)
   all_goals (first|(refine Q2w ?_)|(refine Q3k ?_))
   all_goals (refine zn ?_)
   all_goals refine zcf ?_
   all_goals (refine zsk ?_;refine Zas ?_;refine Zar ?_;refine zl hS ?_;refine zb1 [_,_,_,_] ?_;refine zB1 hS [_,_,_,_] ?_;intro b1 w1 hS;refine Q24 Qgq (.inl Qey) hS vw vw fd (hS.srcB fd (by rfl) (by simp [oneC])) (by first|omega|(simp only [List.length_map,List.length_append,List.length_cons,List.length_nil,List.length_set,List.length_replicate];omega)) ?_;intro v7 w7 hS;have hS:=hS.ns;refine Zar ?_;refine zst hS ?_;intro w1 hS;have hS:=hS.ns;refine ZaH ?_;refine Zar ?_;refine zl hS ?_;refine QO (n:=rv.length+1) hS vw fd (by simp) ?_;refine zsu ?_;rw [show ((rv.length+1:Nat):Int) - 1=s.l.length by omega];refine zb2 [_,_,_,_] ?_;refine zsn hS ?_;intro w1 hS;have hS:=hS.ns)
   all_goals (refine Zau ?_;refine Q2a vw (Qa (n:=4) (by kernel_rfl) (by kernel_rfl) (hS.blkAt fd) (by rfl) (by rfl)) vw ?_;rw [e2];refine ⟨_,rfl,rfl,(Qd (lv:=v7) ho2 (L:=L.eraseIdx i) ?_).back hi⟩;have hS:St cx _ (big (RgnV.res H1) rv::gBlk z b v7 s.left::sl 131 4 v7 ((rv++[(⟨true, .slice none 0 0,[],0,0⟩:RgnV)]).map RgnV.cells)::L.eraseIdx i):=(by rw [List.map_append];exact hS.sp);have hS:=St.star' (St.nil (T:=H1.Tt) (es:=2) (St.big_nil (ThgV.res H1) hS));have hS:=St.big_push (f:=RgnV.res H1) (l:=rv) (x:=⟨true, .slice none 0 0,[],0,0⟩) hS;rw [e1];exact hS.sp)
theorem QgG {rv:List RgnV}{k:Nat}(hk:k < rv.length){x y:Res}(hS:St cx w (x::y::big (RgnV.res H1) (rv.eraseIdx k)::L)):St cx w (x::y::big (RgnV.res H1) (rv.set k RgnV.nil)::L):=
 QcR (H:=H1) (r:=RgnV.nil) hk (St.nil (St.big_nil (ThgV.res H1) hS))
theorem rtshut_c (v:Val) (hS:St cx w L) (hi:nth L i=some (Q1Q z N h s)):Rets Tryz.prog Qa6 [h,v.v] w fun u w'=> u= .bool (s.can v)∧St cx w' (L.set i (Q1Q z N h (s.shut v))):=by
 obtain ⟨hok,b,rfl⟩:=Q1W hS hi
 obtain ⟨lv,rv,ho,hS⟩:=Q30 hS hi
 by_cases hk:v.kind=2
 · cases hh:s.has v.region with
   | false=>
     have hcan:s.can v=false:=by unfold HpS.can;rw [hh,Bool.and_false]
     rw [shut_no hcan,hcan]
     all_goals refine lgo tyD Tryz.func186 ?_
     all_goals (refine Zaa ?_;refine Q1U hS vw (by rfl) ?_;intro b6 w1 hS;simp only [Val.cells] at hS;refine ZbD ?_;refine zf0 ?_;refine zl hS ?_)
     all_goals (refine Yaq ?_)
     all_goals (refine Zak ?_;refine Zap ?_;(first|refine zgn ?_|(refine zgy ?_;refine zR2 (c:=Q5k _ ho (St.rot1 hS)) (h:=?_);rintro v1 w1 ⟨rfl,hS⟩;rw [hh]));refine Yak ?_;refine ZaL ?_)
     all_goals refine zct ?_
     all_goals (refine Zao ?_;exact ⟨_,rfl,rfl,(Qd ho (L:=L.eraseIdx i) hS.sp).back hi⟩)
   | true=>
     obtain ⟨vk,vr,vt,vn⟩:=v
     obtain rfl:vk=2:=hk
     obtain ⟨m,rfl,hm⟩:=ho.has_in hh
     replace hh:s.has (m:Int)=true:=hh
     obtain ⟨r,hr,hrs,hsl⟩:=ho.at_ hm
     have hcan:s.can ⟨2,m,vt,vn⟩=true:=by unfold HpS.can;rw [hh];rfl
     have hrn:=ho.rng hr
     have hpg:=hok.pages
     have hpr':r.pages+s.left≤1000:=hpg.2 r.abs (List.mem_of_getElem? hsl)
     have hl0:=hok.left
     have hlm:(rv.map RgnV.cells).length=rv.length:=List.length_map _
     have e1:s.shut ⟨2,m,vt,vn⟩=⟨s.l.set m Rgn.none,s.left+r.pages⟩:=by unfold HpS.shut;rw [if_pos hcan];simp only [hrs,Int.toNat_natCast];rfl
     have ho2:HpO N (s.shut ⟨2,m,vt,vn⟩) (rv.set m RgnV.nil):=⟨by rw [List.map_set,ho.hr,e1];rfl,by rw [e1];exact HpS.ok_shut hok hsl⟩
     rw [hcan]
     all_goals refine lgo tyD Tryz.func186 ?_
     all_goals (refine Zaa ?_;refine Q1U hS vw (by rfl) ?_;intro b6 w1 hS;simp only [Val.cells] at hS;refine ZbD ?_;refine zf0 ?_;(first|(refine Q1 hS hel rfl fd hlm (QL hr) rfl ?_)|(refine zl hS ?_)))
     all_goals (refine Yaq ?_)
     all_goals (refine Zak ?_;refine Yab ?_;(first|refine zgn ?_|(refine zgy ?_;(first|(refine Q1 hS hel rfl fd hlm (QL hr) rfl ?_)|(refine zl hS ?_))));(first|refine zgn ?_|(refine zgy ?_;refine zR2 (c:=Q5k _ ho (St.rot1 hS)) (h:=?_);rintro v1 w1 ⟨rfl,hS⟩;rw [hh]));refine Yak ?_;refine ZaL ?_)
     all_goals refine zcf ?_
     all_goals (refine zsk ?_;refine Qv ?_;refine zD (ci 17 [16]) ?_;have hS:=hS.drew;refine Zbd ?_;(first|(refine Q1 hS hel rfl fd hlm (QL hr) rfl ?_)|(refine zl hS ?_));refine Zbd ?_;(first|(refine Q1 hS hel rfl fd hlm (QL hr) rfl ?_)|(refine zl hS ?_));refine zf0 ?_;(first|(refine Q1 hS hel rfl fd hlm (QL hr) rfl ?_)|(refine zl hS ?_));refine Q2Q hS vw rfl fd (by omega) ?_;rw [hlm];intro b12 o12 hel;refine Yac ?_;refine Q1 hS hel rfl fd hlm (QL hr) rfl ?_)
     all_goals (refine zad ?_;refine Zar ?_;refine zst hS ?_;intro w1 hS;have hS:=hS.ns;refine ZaF ?_;refine zD (ci 9 [8]) ?_;have hS:=hS.drew;refine Zbd ?_;(first|(refine Q1 hS hel rfl fd hlm (QL hr) rfl ?_)|(refine zl hS ?_));refine zf0 ?_;(first|(refine Q1 hS hel rfl fd hlm (QL hr) rfl ?_)|(refine zl hS ?_));refine zb0 [_,_,_,_] ?_;refine Q2Q hS vw rfl fd (by omega) ?_;rw [hlm];intro b12 o12 hel;refine Q3D hS hel rfl rfl (by rfl) fd hlm (QL hr) rfl (by simp [oneC]) (rcset (r':=RgnV.nil)) ?_;intro w8 hS;have hS:=hS.ns;have hS:=QgG hm ((QV (H:=H1) hS hr).drop.drop))
     all_goals (refine zn ?_;refine Zao ?_;exact ⟨_,rfl,rfl,(Qd ho2 (L:=L.eraseIdx i) (by rw [e1];exact hS.sp)).back hi⟩)
 · have hcan:s.can v=false:=by unfold HpS.can;rw [decide_eq_false hk,Bool.false_and]
   rw [shut_no hcan,hcan]
   all_goals refine lgo tyD Tryz.func186 ?_
   all_goals (refine Zaa ?_;refine Q1U hS vw (by rfl) ?_;intro b6 w1 hS;simp only [Val.cells] at hS;refine ZbD ?_;refine zf0 ?_;refine zl hS ?_)
   all_goals (refine Q11 ?_)
   all_goals (refine zm ?_;refine zgn ?_;refine zgn ?_;refine zgn ?_;refine zgn ?_;refine zgn ?_;refine zpt ?_;refine zn ?_)
   all_goals refine zct ?_
   all_goals (refine Zao ?_;exact ⟨_,rfl,rfl,(Qd ho (L:=L.eraseIdx i) hS.sp).back hi⟩)
theorem rtlen_c (v:Val) (hS:St cx w L) (hi:nth L i=some (Q1Q z N h s)):Rets Tryz.prog Qbm [h,v.v] w fun u w'=> u= .tuple #[.int .i64 (s.len v).1, .int .i64 (s.len v).2]∧St cx w' L:=by
 obtain ⟨hok,b,rfl⟩:=Q1W hS hi
 obtain ⟨lv,rv,ho,hS⟩:=Q30 hS hi
 all_goals refine lgo tyD Tryz.func193 ?_
 all_goals (refine Zaa ?_;refine Q1U hS vw (by rfl) ?_;intro b6 w1 hS;refine zm ?_;refine ZaT ?_;refine zv hS ?_)
 all_goals (refine zR2 (c:=QcM v ho (St.rot1 hS)) (h:=?_);rintro v1 w1 ⟨hS,(⟨e0,rfl⟩|⟨k,t,th,e0,r,b7,o7,hr,hth,rfl,hel⟩)⟩)
 all_goals (refine ZaM ?_;(first|refine Q9m (e:=278) (by kernel_rfl) rfl rfl ?_|refine Q9n (e:=278) (by kernel_rfl) rfl rfl ?_);refine zn ?_)
 all_goals
  first
  | (refine zct ?_
     all_goals (refine Zbx ?_)
     all_goals ((first|exact ⟨_,rfl,by unfold HpS.len;rw [e0];simp only [ho.thg hr hth];rfl,(Qd ho (L:=L.eraseIdx i) hS.sp).back0 hi⟩|exact ⟨_,rfl,by unfold HpS.len;rw [e0],(Qd ho (L:=L.eraseIdx i) hS.sp).back0 hi⟩)))
  | (refine zcf ?_
     all_goals refine zsk ?_)
 all_goals (refine Zab ?_;refine Zar ?_;refine Q1 (QV (H:=H1) hS hr) hel rfl nth0 (List.length_map _) (Q3Q hth) rfl ?_;refine QO (Q65 (H:=H1) (QV (H:=H1) hS hr) hth) vw nth0 (by exact List.length_map _) ?_;refine Zbi ?_;exact ⟨_,rfl,by unfold HpS.len;rw [e0];simp only [ho.thg hr hth];rfl,(Qd ho (L:=L.eraseIdx i) hS.sp).back0 hi⟩)
theorem Q9w (v:Val) (k:Int) (hS:St cx w L) (hi:nth L i=some (Q1Q z N h s)):Rets Tryz.prog Qbn [h,v.v, .int .i64 k] w fun u w'=> u= .tuple #[(s.get v k).1.v, .int .i64 (s.get v k).2]∧St cx w' L:=by
 obtain ⟨hok,b,rfl⟩:=Q1W hS hi
 obtain ⟨lv,rv,ho,hS⟩:=Q30 hS hi
 all_goals refine lgo tyD Tryz.func190 ?_
 all_goals (refine Zaa ?_;refine Q1U hS vw (by rfl) ?_;intro b6 w1 hS;refine Ql hS ?_;intro b8 w1 hS;refine ZaT ?_;refine zv hS ?_)
 all_goals (refine zR2 (c:=QcM v ho (St.rot2 hS)) (h:=?_);rintro v1 w1 ⟨hS,(⟨e0,rfl⟩|⟨kr,t,th,e0,r,b7,o7,hr,hth,rfl,hel⟩)⟩)
 all_goals (refine ZaM ?_;(first|refine Q9m (e:=278) (by kernel_rfl) rfl rfl ?_|refine Q9n (e:=278) (by kernel_rfl) rfl rfl ?_);refine zn ?_)
 all_goals
  first
  | (refine zcf ?_
     all_goals refine zsk ?_)
  | (refine zct ?_
     all_goals (refine Zaa ?_;refine zb0 [_,_,_,_] ?_;refine zsn hS ?_;intro w1 hS;have hS:=hS.ns;refine Zau ?_;refine Q2a vw (Qa (n:=4) (by kernel_rfl) (by kernel_rfl) (hS.blkAt fd) (by rfl) (by rfl)) vw ?_)
     all_goals (have hge:s.get v k=(Val.zero,20):=(by unfold HpS.get;rw [e0];first|done|fail);rw [hge];exact ⟨_,rfl,rfl,(Qd ho (L:=L.eraseIdx i) hS.sp).back0 hi⟩))
 all_goals (refine ZbA ?_;have hge:s.get v k=(if 0≤k∧k < th.l.length then (th.l.getD k.toNat Val.zero,0) else (Val.zero,1)):=(by unfold HpS.get;rw [e0];simp only [ho.thg hr hth];rfl);have hth1:=(ho.rng hr).2.1 th (List.mem_of_getElem? hth))
 refine zo [] (fun A ρ' w'=>∃(j:Nat),Has ρ' A∧Has ρ' [(0, .pointer (some ⟨b,1,none⟩)),(2, .int .i64 k),(6, .pointer (some ⟨b8,0,none⟩)),(8, .pointer (some ⟨b7,o7,none⟩)),(9, .int .i64 j)]∧(j≤th.l.length)∧(¬(0≤k∧k < j))∧St cx w' (Q4Z z b lv s.left rv (blk b8 182 [.int .i64 0, .int .i64 0, .int .i64 0, .int .i64 0]::L.eraseIdx i))) (fun ρ' _=> (th.l.length - iv (ρ' 9)).toNat) ?_ ?_
 · exact ⟨0,zh,zh,(by omega),(by omega),hS.sp⟩
 rintro ρ w1 ⟨j,hA,hρ,hj,hjk,hS⟩;obtain ⟨ρ,rfl⟩:=env2 hA hρ
 all_goals (refine Zah ?_;refine Zbd ?_;refine Q1 (QV (H:=H1) hS hr) hel rfl nth0 (List.length_map _) (Q3Q hth) rfl ?_;refine QO (Q65 (H:=H1) (QV (H:=H1) hS hr) hth) vw nth0 (by exact List.length_map _) ?_;refine Zam ?_)
 refine Qn rfl (fun hc=> ?_) (fun hc=> ?_)
 · skip
   all_goals (refine ZaA ?_;refine Zas ?_)
   all_goals (first|(refine Qi ?_)|(refine Qm ?_)|(refine Q5 rfl rfl (fun hc=> ?_) (fun hc=> ?_)))
   all_goals (refine zn ?_)
   all_goals
    first
    | (refine zct ?_
       all_goals (refine Zab ?_;refine Zar ?_;refine Q1 (QV (H:=H1) hS hr) hel rfl nth0 (List.length_map _) (Q3Q hth) rfl ?_;refine zm ?_;refine Q2Q (Q65 (H:=H1) (QV (H:=H1) hS hr) hth) vw rfl nth0 (by first|omega|(simp only [List.length_map,List.length_append,List.length_cons,List.length_nil,List.length_set,List.length_replicate];omega)) ?_;rw [List.length_map];intro b9 o9 hel9;refine Q1p (Q65 (H:=H1) (QV (H:=H1) hS hr) hth) hel9 rfl nth0 (List.length_map _) (vcget (by omega)) ?_;refine Q1g hS rfl rfl (by rfl) fd (by simp) (Q13 _) (by rfl) ?_;intro w1 hS;have hS:=hS.ns;refine Zau ?_;refine Q2a vw (Qa (n:=4) (by kernel_rfl) (by kernel_rfl) (hS.blkAt fd) (by rfl) (by rfl)) vw ?_)
       all_goals ((first|(have hge:s.get v k=(Val.zero,20):=(by unfold HpS.get;rw [e0];first|done|fail);rw [hge];exact ⟨_,rfl,rfl,(Qd ho (L:=L.eraseIdx i) hS.sp).back0 hi⟩)|(rw [if_neg (by omega)] at hge;rw [hge];exact ⟨_,rfl,rfl,(Qd ho (L:=L.eraseIdx i) hS.sp).back0 hi⟩)|(obtain rfl:k=(j:Int):=(by omega);rw [if_pos (by omega),Int.toNat_natCast] at hge;rw [hge];exact ⟨_,rfl,rfl,(Qd ho (L:=L.eraseIdx i) hS.sp).back0 hi⟩))))
    | (refine zcf ?_
       all_goals refine zsk ?_)
   all_goals (refine Zag ?_;refine zad ?_;refine Zad ?_;exact ⟨⟨j+1,zh,zh,(by omega),(by omega),hS.sp⟩,Qr (by omega)⟩)
 · skip
   all_goals (refine zex ?_;refine Zaa ?_;refine zb0 [_,_,_,_] ?_;refine zsn hS ?_;intro w1 hS;have hS:=hS.ns;refine Zau ?_;refine Q2a vw (Qa (n:=4) (by kernel_rfl) (by kernel_rfl) (hS.blkAt fd) (by rfl) (by rfl)) vw ?_;(first|(have hge:s.get v k=(Val.zero,20):=(by unfold HpS.get;rw [e0];first|done|fail);rw [hge];exact ⟨_,rfl,rfl,(Qd ho (L:=L.eraseIdx i) hS.sp).back0 hi⟩)|(rw [if_neg (by omega)] at hge;rw [hge];exact ⟨_,rfl,rfl,(Qd ho (L:=L.eraseIdx i) hS.sp).back0 hi⟩)))
theorem Qfd (v:Val) (k:Int) (x:Val) (hS:St cx w L) (hi:nth L i=some (Q1Q z N h s)):Rets Tryz.prog Qbk [h,v.v, .int .i64 k,x.v] w fun u w'=> u= .int .i64 (s.setC v k x)∧St cx w' (L.set i (Q1Q z N h (s.set v k x))):=by
 obtain ⟨hok,b,rfl⟩:=Q1W hS hi
 obtain ⟨lv,rv,ho,hS⟩:=Q30 hS hi
 cases e0:s.at_ v with
 | none=>
   have hc1:s.setC v k x=20:=by unfold HpS.setC;rw [e0]
   rw [Q7v (by omega),hc1]
   all_goals refine lgo tyD Tryz.func191 ?_
   all_goals (refine Zaa ?_;refine Q1U hS vw (by rfl) ?_;intro b6 w1 hS;refine Q1U hS vw (by rfl) ?_;intro b8 w1 hS;refine ZaT ?_;refine zv hS ?_)
   all_goals (refine zR2 (c:=QcM v ho (St.rot2 hS)) (h:=?_);rintro v1 w1 ⟨hS,hx⟩;obtain ⟨_,rfl⟩:=hx.resolve_right (fun ⟨_,_,_,e1,_⟩=> by rw [e0] at e1;cases e1))
   all_goals (refine ZaM ?_;refine Q9m (e:=278) (by kernel_rfl) rfl rfl ?_;refine zm ?_;refine zgn ?_;refine zgn ?_;refine zgn ?_;refine zgn ?_;refine zgn ?_;refine zgn ?_;refine zgn ?_)
   all_goals (refine zgn ?_)
   all_goals (refine zgn ?_;refine zpt ?_;refine zn ?_)
   all_goals refine zct ?_
   all_goals (refine Zao ?_;exact ⟨_,rfl,rfl,(Qd ho (L:=L.eraseIdx i) hS.sp).back hi⟩)
 | some p=>
   obtain ⟨kr,t⟩:=p
   all_goals refine lgo tyD Tryz.func191 ?_
   all_goals (refine Zaa ?_;refine Q1U hS vw (by rfl) ?_;intro b6 w1 hS;refine Q1U hS vw (by rfl) ?_;intro b8 w1 hS;simp only [Val.cells] at hS;refine ZaT ?_;refine zv hS ?_)
   all_goals (refine zR2 (c:=QcM v ho (St.rot2 hS)) (h:=?_);rintro v1 w1 ⟨hS,hx⟩;obtain ⟨kr',t',th,e1,r,b7,o7,hr,hth,rfl,hel⟩:=hx.resolve_left (fun h=> by rw [e0] at h;cases h.1);rw [e0] at e1;cases e1;have hge:s.setC v k x=(if th.array=true∧x.kind≠1 then 20 else if 0≤k∧k < th.l.length then 0 else 1):=(by unfold HpS.setC;rw [e0];simp only [ho.thg hr hth];rfl);have hth1:=(ho.rng hr).2.1 th (List.mem_of_getElem? hth))
   all_goals (refine Zad ?_)
   refine zM [] (fun A ρ' w'=> Has ρ' A∧Has ρ' [(0, .pointer (some ⟨b,1,none⟩)),(2, .int .i64 k),(7, .pointer (some ⟨b8,0,none⟩)),(9, .pointer (some ⟨b7,o7,none⟩))]∧(¬(th.array=true∧x.kind≠1))∧St cx w' (Q4Z z b lv s.left rv (blk b8 182 [.int .i64 x.kind, .int .i64 x.region, .int .i64 x.thing, .int .i64 x.n]::L.eraseIdx i))) ?_ ?_
   · skip
     all_goals (refine Zab ?_;refine Q9n (e:=278) (by kernel_rfl) rfl rfl ?_;refine Zak ?_;refine Yah ?_;refine Yag ?_)
     all_goals (refine zgy ?_;refine Q1 (j:=0) (u:= .bool th.array) (QV (H:=H1) hS hr) hel rfl nth0 (List.length_map _) (Q3Q hth) rfl ?_;cases hta:th.array <;> by_cases hx1:x.kind=1)
     all_goals (refine Yaa ?_;refine Yab ?_;(first|refine zgn ?_|(refine zgy ?_;(first|(refine Q1 (QV (H:=H1) hS hr) hel rfl nth0 (List.length_map _) (Q3Q hth) rfl ?_)|(refine zl hS ?_)))))
     all_goals (refine Yar ?_)
     all_goals (refine Yal ?_;refine ZaL ?_)
     all_goals
      first
      | (refine zct ?_
         all_goals (refine Zao ?_)
         all_goals (have hc1:s.setC v k x=20:=(by rw [hge,if_pos ⟨hta,hx1⟩]);rw [Q7v (by omega),hc1];exact ⟨_,rfl,rfl,(Qd ho (L:=L.eraseIdx i) hS.sp).back hi⟩))
      | (refine zcf ?_
         all_goals refine zsk ?_)
     all_goals (exact ⟨zh,zh,(by simp [hta,hx1]),hS.sp⟩)
   rintro ρ w1 ⟨hA,hρ,hta,hS⟩;obtain ⟨ρ,rfl⟩:=env2 hA hρ
   all_goals (refine ZbA ?_)
   refine zo [] (fun A ρ' w'=>∃(j:Nat),Has ρ' A∧Has ρ' [(0, .pointer (some ⟨b,1,none⟩)),(2, .int .i64 k),(7, .pointer (some ⟨b8,0,none⟩)),(9, .pointer (some ⟨b7,o7,none⟩)),(10, .int .i64 j)]∧(j≤th.l.length)∧(¬(0≤k∧k < j))∧St cx w' (Q4Z z b lv s.left rv (blk b8 182 [.int .i64 x.kind, .int .i64 x.region, .int .i64 x.thing, .int .i64 x.n]::L.eraseIdx i))) (fun ρ' _=> (th.l.length - iv (ρ' 10)).toNat) ?_ ?_
   · exact ⟨0,zh,zh,(by omega),(by omega),hS.sp⟩
   rintro ρ w1 ⟨j,hA,hρ,hj,hjk,hS⟩;obtain ⟨ρ,rfl⟩:=env2 hA hρ
   all_goals (refine Zah ?_;refine Zbd ?_;refine Q1 (QV (H:=H1) hS hr) hel rfl nth0 (List.length_map _) (Q3Q hth) rfl ?_;refine QO (Q65 (H:=H1) (QV (H:=H1) hS hr) hth) vw nth0 (by exact List.length_map _) ?_;refine Zam ?_)
   refine Qn rfl (fun hc=> ?_) (fun hc=> ?_)
   · skip
     all_goals (refine ZaA ?_;refine Zas ?_)
     all_goals (first|(refine Qi ?_)|(refine Qm ?_)|(refine Q5 rfl rfl (fun hc=> ?_) (fun hc=> ?_)))
     all_goals (refine zn ?_)
     all_goals
      first
      | (refine zct ?_
         all_goals (refine Qv ?_;have hS:=Q65 (H:=H1) (QV (H:=H1) hS hr) hth;refine zD (ci 8 [7]) ?_;have hS:=hS.drew;refine Zbd ?_;refine Q1 hS hel rfl fd (List.length_map _) (Q3Q hth) rfl ?_;refine zm ?_;refine zv hS ?_;refine Q2Q hS vw rfl nth0 (by first|omega|(simp only [List.length_map,List.length_append,List.length_cons,List.length_nil,List.length_set,List.length_replicate];omega)) ?_;rw [List.length_map];intro b9 o9 hel9;refine Q3D hS hel9 rfl rfl (by rfl) nth0 (List.length_map _) (vcget (by omega)) rfl (Q13 x) vcset ?_;intro w8 hS;have hS:=hS.ns;have hS:=thg_in (H:=H1) (l:=r.l) (k:=t) (t:=⟨th.array,th.lv,th.l.set j x⟩) (List.getElem?_eq_some_iff.1 hth).1 hS;refine zn ?_;refine Zao ?_)
         all_goals ((first|(have hc1:s.setC v k x=20:=(by rw [hge,if_pos ⟨hta,hx1⟩]);rw [Q7v (by omega),hc1];exact ⟨_,rfl,rfl,(Qd ho (L:=L.eraseIdx i) hS.sp).back hi⟩)|(have hc1:s.setC v k x=1:=(by rw [hge,if_neg hta,if_neg (by omega)]);rw [Q7v (by omega),hc1];exact ⟨_,rfl,rfl,(Qd ho (L:=L.eraseIdx i) hS.sp).back hi⟩)|(obtain rfl:k=(j:Int):=(by omega);have hc1:s.setC v (j:Int) x=0:=(by rw [hge,if_neg hta,if_pos (by omega)]);obtain ⟨e1,e2,ho2⟩:=set_yes ho hr hth e0 hc1 (by omega);rw [hc1];rw [Int.toNat_natCast] at ho2 e1;have htc:((r.l.set t ⟨th.array,th.lv,th.l.set j x⟩).map ThgV.cells)=r.l.map ThgV.cells:=(by rw [List.map_set];exact Q3S (by rw [List.getElem?_map,hth];rfl));rw [←htc] at hS;have hS:=QcR (H:=H1) (rv:=rv) (k:=kr) (r:=upd2 r t th j x) (List.getElem?_eq_some_iff.1 hr).1 (L:=L.eraseIdx i) (by unfold upd2;exact hS.sp);refine ⟨_,rfl,rfl,(Qd (lv:=lv) ho2 (L:=L.eraseIdx i) ?_).back hi⟩;have hbc:((rv.set kr (upd2 r t th j x)).map RgnV.cells)=rv.map RgnV.cells:=(by rw [List.map_set];exact Q3S (by rw [List.getElem?_map,hr];rfl));unfold Q4Z;rw [hbc,e1];exact hS))))
      | (refine zcf ?_
         all_goals refine zsk ?_)
     all_goals (refine Zag ?_;refine zad ?_;refine Zad ?_;exact ⟨⟨j+1,zh,zh,(by omega),(by omega),hS.sp⟩,Qr (by omega)⟩)
   · skip
     all_goals (refine ZbK ?_;(first|(have hc1:s.setC v k x=20:=(by rw [hge,if_pos ⟨hta,hx1⟩]);rw [Q7v (by omega),hc1];exact ⟨_,rfl,rfl,(Qd ho (L:=L.eraseIdx i) hS.sp).back hi⟩)|(have hc1:s.setC v k x=1:=(by rw [hge,if_neg hta,if_neg (by omega)]);rw [Q7v (by omega),hc1];exact ⟨_,rfl,rfl,(Qd ho (L:=L.eraseIdx i) hS.sp).back hi⟩)))
theorem Qfe (v :Val) (n:Int) (arr:Bool) (tlv:Value) (tl:List Val) (hn:1≤n∧n≤1000) (hN:N≤100000) (htl:tl.length≤1000) (h1:oneC tlv=true) (hS:St cx w (sl H1.Tv 4 tlv (tl.map Val.cells)::L)) (hi:nth L i=some (Q1Q z N h s)):
 Rets Tryz.prog Qbl [h,v.v, .agg ⟨[.bool arr,tlv]⟩, .int .i64 n] w fun u w'=> u= .tuple #[(s.putV v (if arr then 4 else 3) n).v, .int .i64 (s.code v n)]∧St cx w' (L.set i (Q1Q z (N+1) h (s.put v n ⟨arr,tl⟩))):=by
 obtain ⟨hok,b,rfl⟩:=Q1W hS.drop hi
 obtain ⟨lv,rv,ho,hS⟩:=Q30 hS (i:=i+1) hi
 simp only [List.eraseIdx_cons_succ] at hS
 have ho1:HpO (N+1) s rv:=⟨ho.hr,hok.mono (by omega)⟩
 by_cases hk:v.kind=2
 · cases hh :s.has v.region with
   | false=>
     have hcan:s.can v=false:=by unfold HpS.can;rw [hh,Bool.and_false]
     have hc:=Qgy (n:=n) hcan
     obtain ⟨e1,e2⟩:=QaE (s:=s) (v:=v) (n:=n) (by omega) (if arr then 4 else 3) ⟨arr,tl⟩
     rw [e1,e2,hc]
     all_goals refine lgo tyD Tryz.func223 ?_
     all_goals (refine Zaa ?_;refine Q1U hS vw (by rfl) ?_;intro b6 w1 hS;simp only [Val.cells] at hS;refine Q1U hS vw (by rfl) ?_;intro b9 w1 hS;refine Ql hS ?_;intro b10 w1 hS;refine ZbD ?_;refine zf0 ?_;refine zl hS ?_)
     all_goals (refine Yaq ?_)
     all_goals (refine Zak ?_;refine Zap ?_;(first|refine zgn ?_|(refine zgy ?_;refine zR2 (c:=Q5k _ ho (St.rot3 hS)) (h:=?_);rintro v1 w1 ⟨rfl,hS⟩;rw [hh]));refine Yak ?_;refine ZaL ?_)
     all_goals refine zct ?_
     all_goals (refine Zaa ?_;refine zb0 [_,_,_,_] ?_;refine zsn hS ?_;intro w1 hS;have hS:=hS.ns;refine Zau ?_;refine Q2a vw (Qa (n:=4) (by kernel_rfl) (by kernel_rfl) (hS.blkAt fd) (by rfl) (by rfl)) vw ?_;exact ⟨_,rfl,rfl,(Qd ho1 (L:=L.eraseIdx i) hS.sp).back hi⟩)
   | true=>
     obtain ⟨vk,vr,vt,vn⟩:=v
     obtain rfl:vk=2:=hk
     obtain ⟨m,rfl,hm⟩:=ho.has_in hh
     replace hh:s.has (m:Int)=true:=hh
     obtain ⟨r,hr,hrs,hsl⟩:=ho.at_ hm
     have hcan:s.can ⟨2,m,vt,vn⟩=true:=by unfold HpS.can;rw [hh];rfl
     have hrn:=ho.rng hr
     have hpg:=hok.pages
     have hpr':r.pages+s.left≤1000:=hpg.2 r.abs (List.mem_of_getElem? hsl)
     have hl0:=hok.left
     have hlm:(rv.map RgnV.cells).length=rv.length:=List.length_map _
     have hls:∀r',((rv.set m r').map RgnV.cells).length=rv.length:=fun r'=> by rw [List.length_map,List.length_set]
     have hcd:s.code ⟨2,m,vt,vn⟩ n=if r.abs.more n=true∧s.left=0 then 14 else 0:=by unfold HpS.code;rw [hcan];simp only [Bool.not_true,Bool.false_eq_true,if_false,hrs]
     have hmi:r.abs.more n=true↔(r.pages=0∨16 < r.used+n):=RgnV.more_iff
     obtain ⟨e3,e4,e5⟩:=Qfj (r:=r) (n:=n)
     all_goals refine lgo tyD Tryz.func223 ?_
     all_goals (refine Zaa ?_;refine Q1U hS vw (by rfl) ?_;intro b6 w1 hS;simp only [Val.cells] at hS;refine Q1U hS vw (by rfl) ?_;intro b9 w1 hS;refine Ql hS ?_;intro b10 w1 hS;refine ZbD ?_;refine zf0 ?_;(first|(refine Q1 hS hel rfl fd hlm (QL hr) rfl ?_)|(refine Q1 hS hel rfl fd (hls _) (QL (Q1q (by omega))) rfl ?_)|(refine zl hS ?_)))
     all_goals (refine Yaq ?_)
     all_goals (refine Zak ?_;refine Yab ?_;(first|refine zgn ?_|(refine zgy ?_;(first|(refine Q1 hS hel rfl fd hlm (QL hr) rfl ?_)|(refine Q1 hS hel rfl fd (hls _) (QL (Q1q (by omega))) rfl ?_)|(refine zl hS ?_))));(first|refine zgn ?_|(refine zgy ?_;refine zR2 (c:=Q5k _ ho (St.rot3 hS)) (h:=?_);rintro v1 w1 ⟨rfl,hS⟩;rw [hh]));refine Yak ?_;refine ZaL ?_)
     all_goals refine zcf ?_
     all_goals (refine zsk ?_;refine Qv ?_;refine zD (ci 8 [7]) ?_;have hS:=hS.drew;refine Zbd ?_;(first|(refine Q1 hS hel rfl fd hlm (QL hr) rfl ?_)|(refine Q1 hS hel rfl fd (hls _) (QL (Q1q (by omega))) rfl ?_)|(refine zl hS ?_));refine zf0 ?_;(first|(refine Q1 hS hel rfl fd hlm (QL hr) rfl ?_)|(refine Q1 hS hel rfl fd (hls _) (QL (Q1q (by omega))) rfl ?_)|(refine zl hS ?_));refine Q2Q hS vw rfl fd (by omega) ?_;rw [hlm];intro b12 o12 hel;refine Zad ?_)
     refine zM [] (fun A ρ' w'=>∃(r1:RgnV) (lf:Int),Has ρ' A∧Has ρ' [(0, .pointer (some ⟨b,1,none⟩)),(3, .int .i64 n),(5, .pointer (some ⟨b6,0,none⟩)),(6, .pointer (some ⟨b9,0,none⟩)),(8, .pointer (some ⟨b10,0,none⟩)),(10, .pointer (some ⟨b12,o12,none⟩))]∧(s.code ⟨2,m,vt,vn⟩ n=0)∧((⟨r1.there,r1.lv,r1.l,r1.pages,r1.used+n⟩:RgnV)=r.roomV n)∧(lf=(if r.abs.more n then s.left - 1 else s.left))∧(0≤r1.used∧r1.used≤1000)∧St cx w' (gBlk z b lv lf::sl 131 4 lv ((rv.set m r1).map RgnV.cells)::big (RgnV.res H1) rv::blk b10 182 [.int .i64 0, .int .i64 0, .int .i64 0, .int .i64 0]::blk b9 278 [.bool arr,tlv]::blk b6 182 [.int .i64 2, .int .i64 m, .int .i64 vt, .int .i64 vn]::sl H1.Tv 4 tlv (tl.map Val.cells)::L.eraseIdx i)) ?_ ?_
     · skip
       all_goals (refine Zab ?_;refine Zar ?_;refine Q1 hS hel rfl fd hlm (QL hr) rfl ?_)
       all_goals (first|(refine Qi ?_)|(refine Qm ?_)|(refine Q5 rfl rfl (fun hc=> ?_) (fun hc=> ?_)))
       all_goals (refine Zbp ?_;refine Yah ?_;refine Yag ?_;(first|refine zgn ?_|(refine zgy ?_;refine Q1 hS hel rfl fd hlm (QL hr) rfl ?_));(first|refine zgn ?_|(refine zgy ?_;refine zsu ?_)))
       all_goals (first|refine zgn ?_|(refine zgy ?_;(first|(refine Q1e ?_)|(refine Q1s ?_)|(refine Qx rfl rfl (fun hc=> ?_) (fun hc=> ?_)))))
       all_goals (refine ZaL ?_)
       all_goals
        first
        | (refine zcf ?_
           all_goals (have hmo:¬r.abs.more n=true:=(by rw [hmi];omega))
           all_goals refine zsk ?_)
        | (refine zct ?_
           all_goals (have hmo:r.abs.more n=true:=hmi.2 (by omega);refine Zah ?_;refine Zar ?_;(first|(refine Q1 hS hel rfl fd hlm (QL hr) rfl ?_)|(refine Q1 hS hel rfl fd (hls _) (QL (Q1q (by omega))) rfl ?_)|(refine zl hS ?_)))
           all_goals (first|(refine Qi ?_)|(refine Qm ?_)|(refine Q5 rfl rfl (fun hc=> ?_) (fun hc=> ?_)))
           all_goals (refine zn ?_)
           all_goals
            first
            | (refine zcf ?_
               all_goals (rw [if_neg (by omega)] at hcd)
               all_goals refine zsk ?_)
            | (refine zct ?_
               all_goals (rw [if_pos ⟨hmo,by omega⟩] at hcd;refine Zaa ?_;refine zb0 [_,_,_,_] ?_;refine zsn hS ?_;intro w1 hS;have hS:=hS.ns;refine Zau ?_;refine Q2a vw (Qa (n:=4) (by kernel_rfl) (by kernel_rfl) (hS.blkAt fd) (by rfl) (by rfl)) vw ?_)
               all_goals (obtain ⟨e1,e2⟩:=QaE (s:=s) (v:=⟨2,m,vt,vn⟩) (n:=n) (by omega) (if arr then 4 else 3) ⟨arr,tl⟩;rw [e1,e2,hcd];exact ⟨_,rfl,rfl,(Qd ho1 (L:=L.eraseIdx i) hS.sp).back hi⟩))
           all_goals (refine Zab ?_;refine Zar ?_;(first|(refine Q1 hS hel rfl fd hlm (QL hr) rfl ?_)|(refine Q1 hS hel rfl fd (hls _) (QL (Q1q (by omega))) rfl ?_)|(refine zl hS ?_));refine zsu ?_;refine Zar ?_;refine zst hS ?_;intro w1 hS;have hS:=hS.ns;refine ZaH ?_;refine Zar ?_;refine Q1 hS hel rfl fd hlm (QL hr) rfl ?_;refine zad ?_;refine Zar ?_;refine Q10 hS hel rfl vw fd hlm (QL hr) (by omega) (by rfl) (QcT (r':=⟨r.there,r.lv,r.l,r.pages+1,r.used⟩) rfl) ?_;intro w8 hS;have hS:=hS.ns;refine Zbs ?_;refine Zar ?_)
           all_goals (refine Q10 hS hel rfl vw fd (hls _) (QL (Q1q (r:=⟨r.there,r.lv,r.l,r.pages+1,r.used⟩) (by omega))) (by omega) (by rfl) (QcT (r':=⟨r.there,r.lv,r.l,r.pages+1,0⟩) rfl) ?_;intro w8 hS;have hS:=hS.ns;rw [List.set_set] at hS)
           all_goals refine zn ?_)
       all_goals (first|(exact ⟨r,s.left,zh,zh,(by rw [hcd,if_neg (fun h=> hmo h.1)]),(by unfold RgnV.roomV;rw [if_neg hmo]),(by rw [if_neg hmo]),(by omega),by rw [Q3S hr];exact hS.sp⟩)|(exact ⟨⟨r.there,r.lv,r.l,r.pages+1,0⟩,s.left - 1,zh,zh,hcd,(by unfold RgnV.roomV;rw [if_pos hmo,Int.zero_add]),(by rw [if_pos hmo]),(by simp),hS.sp⟩))
     rintro ρ w1 ⟨r1,lf,hA,hρ,hcd,hr1,hlf,hu1,hS⟩;obtain ⟨ρ,rfl⟩:=env2 hA hρ
     all_goals (refine Zab ?_;refine Zar ?_;refine Q1 hS hel rfl fd (hls _) (QL (Q1q (r:=r1) (by omega))) rfl ?_;refine zm ?_;refine zad ?_;refine Zar ?_;refine Q10 hS hel rfl vw fd (hls _) (QL (Q1q (r:=r1) (by omega))) (by omega) (by rfl) (QcT (r':=⟨r1.there,r1.lv,r1.l,r1.pages,r1.used+n⟩) rfl) ?_;intro w8 hS;have hS:=hS.ns;rw [List.set_set,hr1] at hS;have hbig:big (RgnV.res H1) rv=big (RgnV.res H1) (rv.set m (r.roomV n)):=(big_same hr (by unfold RgnV.res;rw [e4,e5])).symm;rw [hbig] at hS;have hS:=QV (H:=H1) hS (Q1q (by omega));have hrl:=hrn.1;rw [←e5] at hrl;refine ZaF ?_;refine zC [(0,none),(1,none),(2,none),(3,none),(4,none),(5,none),(6,some (some [4])),(7,some (some [])),(8,none),(9,none),(10,some none)] ?_;have hS:=hS.drew;refine Zbf ?_;refine ZbI ?_;(first|(refine Q1 hS hel rfl fd hlm (QL hr) rfl ?_)|(refine Q1 hS hel rfl fd (hls _) (QL (Q1q (by omega))) rfl ?_)))
     all_goals (refine Zac ?_;refine zv hS ?_;refine Zal ?_;refine zB1 hS [_,_] ?_;intro b1 w1 hS;refine zt ?_;refine ⟨List.forall_mem_cons.2 ⟨(by (exact Qp hS hel rfl fd (hls _) (QL (Q1q (by omega))) rfl)),fun _ h=> (List.not_mem_nil h).elim⟩,?_⟩;refine Q3U ?_;refine Q24 Qgp (.inl Qex) hS vw vw fd (hS.srcB fd (by rfl) (one2 rfl h1)) (by first|omega|(simp only [List.length_map,List.length_append,List.length_cons,List.length_nil,List.length_set,List.length_replicate];omega)) ?_;intro v7 w7 hS;have hS:=hS.ns;have hS:=hS.drop;refine zt ?_;refine ⟨fun _ h=> (List.not_mem_nil h).elim,?_⟩;refine s_cq ?_;refine Zaw ?_;refine Yac ?_;refine Zay ?_;refine Q10 hS hel rfl vw fd (hls (r.roomV n)) (QL (Q1q (r:=r.roomV n) (by omega))) (by omega) (by first|rfl|assumption|exact hS.oneC fd) (QcT (r':=Q7L (r.roomV n) v7 ⟨arr,tlv,tl⟩) rfl) ?_;intro w8 hS;have hS:=hS.ns;rw [List.set_set] at hS;refine Zav ?_;refine Zaf ?_;refine Qv ?_)
     all_goals (refine Zaa ?_;refine zf0 ?_;(first|(refine Q1 hS hel rfl fd hlm (QL hr) rfl ?_)|(refine Q1 hS hel rfl fd (hls _) (QL (Q1q (by omega))) rfl ?_)|(refine zl hS ?_));refine zn ?_)
     refine Q6H rfl (fun hc=> ?_) (fun hc=> ?_)
     · skip
       all_goals (refine Q1d ?_;refine Zaz ?_;refine zD (ci 12 [10,11]) ?_;have hS:=hS.drew;refine zm ?_;refine zf0 ?_;(first|(refine Q1 hS hel rfl fd hlm (QL hr) rfl ?_)|(refine Q1 hS hel rfl fd (hls _) (QL (Q1q (by omega))) rfl ?_)|(refine zl hS ?_));refine Zbd ?_;refine Q1 (j:=1) (u:=v7) hS hel rfl fd (hls _) (QL (Q1q (r:=Q7L (r.roomV n) v7 ⟨arr,tlv,tl⟩) (by omega))) rfl ?_;refine QO (n:=r.l.length+1) hS vw fd (by simp [e5]) ?_;refine zsu ?_;rw [show ((r.l.length+1:Nat):Int) - 1=r.l.length by omega];refine zb3 [_,_,_,_] ?_;refine zsn hS ?_;intro w1 hS;have hS:=hS.ns;refine Zau ?_;refine Q2a vw (Qa (n:=4) (by kernel_rfl) (by kernel_rfl) (hS.blkAt fd) (by rfl) (by rfl)) vw ?_;(first|(obtain ⟨e1,e2⟩:=QaE (s:=s) (v:=⟨2,m,vt,vn⟩) (n:=n) (by omega) (if arr then 4 else 3) ⟨arr,tl⟩;rw [e1,e2,hcd];exact ⟨_,rfl,rfl,(Qd ho1 (L:=L.eraseIdx i) hS.sp).back hi⟩)|(have hS:St cx _ (ThgV.res H1 ⟨arr,tlv,tl⟩::big (ThgV.res H1) (r.roomV n).l::sl H1.Tt 2 v7 (((r.roomV n).l++[(⟨arr,tlv,tl⟩:ThgV)]).map ThgV.cells)::gBlk z b lv lf::sl 131 4 lv ((rv.set m (Q7L (r.roomV n) v7 ⟨arr,tlv,tl⟩)).map RgnV.cells)::big (RgnV.res H1) ((rv.set m (r.roomV n)).eraseIdx m)::L.eraseIdx i):=(by rw [List.map_append];exact hS.sp);have hS:=QcR (H:=H1) (rv:=rv.set m (r.roomV n)) (k:=m) (r:=Q7L (r.roomV n) v7 ⟨arr,tlv,tl⟩) (by rw [List.length_set];omega) (St.big_push hS).mv1;rw [List.set_set] at hS;obtain ⟨e6,e7,e8⟩:=Qfw (t:=⟨arr,tl⟩) (kind:=if arr then 4 else 3) hcd hsl hrs;have ho2:HpO (N+1) (s.put ⟨2,m,vt,vn⟩ n ⟨arr,tl⟩) (rv.set m (Q7L (r.roomV n) v7 ⟨arr,tlv,tl⟩)):=⟨by rw [List.map_set,QaF,e3,ho.hr,e6];rfl,HpS.ok_put hok hn htl⟩;rw [e8,hcd];exact ⟨_,rfl,by rw [QgM,hc];rfl,(Qd ho2 (by rw [e6];rw [←hlf];exact hS)).back hi⟩)))
     · skip
       all_goals (refine zsk ?_;refine Qv ?_;refine zD (ci 12 [10,11]) ?_;have hS:=hS.drew;refine zm ?_;refine zf0 ?_;(first|(refine Q1 hS hel rfl fd hlm (QL hr) rfl ?_)|(refine Q1 hS hel rfl fd (hls _) (QL (Q1q (by omega))) rfl ?_)|(refine zl hS ?_));refine Zbd ?_;refine Q1 (j:=1) (u:=v7) hS hel rfl fd (hls _) (QL (Q1q (r:=Q7L (r.roomV n) v7 ⟨arr,tlv,tl⟩) (by omega))) rfl ?_;refine QO (n:=r.l.length+1) hS vw fd (by simp [e5]) ?_;refine zsu ?_;rw [show ((r.l.length+1:Nat):Int) - 1=r.l.length by omega];refine zb3 [_,_,_,_] ?_;refine zsn hS ?_;intro w1 hS;have hS:=hS.ns;refine Zau ?_;refine Q2a vw (Qa (n:=4) (by kernel_rfl) (by kernel_rfl) (hS.blkAt fd) (by rfl) (by rfl)) vw ?_;(first|(obtain ⟨e1,e2⟩:=QaE (s:=s) (v:=⟨2,m,vt,vn⟩) (n:=n) (by omega) (if arr then 4 else 3) ⟨arr,tl⟩;rw [e1,e2,hcd];exact ⟨_,rfl,rfl,(Qd ho1 (L:=L.eraseIdx i) hS.sp).back hi⟩)|(have hS:St cx _ (ThgV.res H1 ⟨arr,tlv,tl⟩::big (ThgV.res H1) (r.roomV n).l::sl H1.Tt 2 v7 (((r.roomV n).l++[(⟨arr,tlv,tl⟩:ThgV)]).map ThgV.cells)::gBlk z b lv lf::sl 131 4 lv ((rv.set m (Q7L (r.roomV n) v7 ⟨arr,tlv,tl⟩)).map RgnV.cells)::big (RgnV.res H1) ((rv.set m (r.roomV n)).eraseIdx m)::L.eraseIdx i):=(by rw [List.map_append];exact hS.sp);have hS:=QcR (H:=H1) (rv:=rv.set m (r.roomV n)) (k:=m) (r:=Q7L (r.roomV n) v7 ⟨arr,tlv,tl⟩) (by rw [List.length_set];omega) (St.big_push hS).mv1;rw [List.set_set] at hS;obtain ⟨e6,e7,e8⟩:=Qfw (t:=⟨arr,tl⟩) (kind:=if arr then 4 else 3) hcd hsl hrs;have ho2:HpO (N+1) (s.put ⟨2,m,vt,vn⟩ n ⟨arr,tl⟩) (rv.set m (Q7L (r.roomV n) v7 ⟨arr,tlv,tl⟩)):=⟨by rw [List.map_set,QaF,e3,ho.hr,e6];rfl,HpS.ok_put hok hn htl⟩;rw [e8,hcd];exact ⟨_,rfl,by rw [QgM,hc];rfl,(Qd ho2 (by rw [e6];rw [←hlf];exact hS)).back hi⟩)))
 · have hcan:s.can v=false:=by unfold HpS.can;rw [decide_eq_false hk,Bool.false_and]
   have hc:=Qgy (n:=n) hcan
   obtain ⟨e1,e2⟩:=QaE (s:=s) (v:=v) (n:=n) (by omega) (if arr then 4 else 3) ⟨arr,tl⟩
   rw [e1,e2,hc]
   all_goals refine lgo tyD Tryz.func223 ?_
   all_goals (refine Zaa ?_;refine Q1U hS vw (by rfl) ?_;intro b6 w1 hS;simp only [Val.cells] at hS;refine Q1U hS vw (by rfl) ?_;intro b9 w1 hS;refine Ql hS ?_;intro b10 w1 hS;refine ZbD ?_;refine zf0 ?_;refine zl hS ?_)
   all_goals (refine Q11 ?_)
   all_goals (refine zm ?_;refine zgn ?_;refine zgn ?_;refine zgn ?_;refine zgn ?_;refine zgn ?_;refine zpt ?_;refine zn ?_)
   all_goals refine zct ?_
   all_goals (refine Zaa ?_;refine zb0 [_,_,_,_] ?_;refine zsn hS ?_;intro w1 hS;have hS:=hS.ns;refine Zau ?_;refine Q2a vw (Qa (n:=4) (by kernel_rfl) (by kernel_rfl) (hS.blkAt fd) (by rfl) (by rfl)) vw ?_;exact ⟨_,rfl,rfl,(Qd ho1 (L:=L.eraseIdx i) hS.sp).back hi⟩)
theorem Qfc (v:Val) (vl:Value) (l:List Val){j:Nat}(hN:N≤100000) (hl:l.length≤1000) (hS:St cx w L) (hi:nth L i=some (Q1Q z N h s)) (hj:nth L j=some (sl H1.Tv 4 vl (l.map Val.cells))):
 Rets Tryz.prog Q8P [h,v.v,vl] w fun u w'=> u= .tuple #[(s.putV v 3 (QZ l)).v, .int .i64 (s.code v (QZ l))]∧St cx w' (L.set i (Q1Q z (N+1) h (s.tuple v l))):=by
 have hlen:(l.map Val.cells).length=l.length:=List.length_map _
 all_goals refine lgo tyD Tryz.func188 ?_
 all_goals (refine Zaa ?_;refine Q1U hS vw (by rfl) ?_;intro b4 w1 hS;simp only [Val.cells] at hS;refine Ql hS ?_;intro b6 w1 hS;refine Zad ?_;refine ZaV ?_;refine QO hS vw (show nth (_::_::L) (j+2)=_ from hj) hlen ?_;refine Zad ?_)
 refine zM [] (fun A ρ' w'=>∃(wn:Int),Has ρ' A∧Has ρ' [(0,h),(2,vl),(4, .pointer (some ⟨b4,0,none⟩)),(6, .pointer (some ⟨b6,0,none⟩)),(8, .slice none 0 0),(9, .int .i64 wn)]∧(wn=QZ l)∧St cx w' (blk b6 182 [.int .i64 0, .int .i64 0, .int .i64 0, .int .i64 0]::blk b4 182 [.int .i64 v.kind, .int .i64 v.region, .int .i64 v.thing, .int .i64 v.n]::L)) ?_ ?_
 · skip
   all_goals (refine Zab ?_)
   all_goals (first|(refine Qi ?_)|(refine Qm ?_)|(refine Q5 rfl rfl (fun hc=> ?_) (fun hc=> ?_)))
   all_goals (refine zn ?_)
   all_goals
    first
    | (refine zct ?_
       all_goals (refine Zag ?_)
       all_goals refine zn ?_)
    | (refine zcf ?_
       all_goals refine zsk ?_)
   all_goals ((first|(exact ⟨1,zh,zh,(by unfold QZ;rw [if_pos (by omega)]),hS.sp⟩)|(exact ⟨(l.length:Int),zh,zh,(by unfold QZ;rw [if_neg (by omega)]),hS.sp⟩)))
 rintro ρ w1 ⟨wn,hA,hρ,hw,hS⟩;obtain ⟨ρ,rfl⟩:=env2 hA hρ
 all_goals (refine Qv ?_;refine zC [(0,none),(1,none),(2,none),(3,none),(6,none),(4,some (some [1])),(5,none),(7,some none),(8,none),(9,none),(10,some none),(11,some none)] ?_;have hS:=hS.drew;refine ZaC ?_;refine zv hS ?_;refine Zax ?_;refine Zaj ?_;refine zm ?_;refine Zal ?_;have hS:=hS.nil (T:=H1.Tv) (es:=4);refine Q24 Q9X (.inl Q99) hS vw vw nth0 (St.srcS (i:=j+3) (T:=H1.Tv) (v:=vl) (css:=l.map Val.cells) hS hj (Qev l)) (by rw [hlen,List.length_nil];omega) ?_;intro v2 w2 hS;simp only [List.set_cons_zero,List.nil_append] at hS;have hone:=hS.oneC nth0;obtain ⟨a_,c_,rfl⟩:=hS.shape nth0;subst hw;refine ZaS ?_;refine zb1 [_,_] ?_;refine Zay ?_;refine zR4 (c:=Qfe v (QZ l) false _ l (Qes hl) hN hl hone hS (show nth (_::_::L) (i+2)=_ from hi)) (h:=?_);rintro v2 w2 ⟨rfl,hS⟩;have hS:=hS.ns;refine Zac ?_;refine zxt ?_;refine Zac ?_)
 all_goals (refine zxt ?_;refine Zay ?_;refine Q1g hS rfl rfl (by rfl) fd (by simp) (Q13 _) (by rfl) ?_;intro w1 hS;have hS:=hS.ns;refine Zay ?_;refine ZbN ?_;refine zr ?_;refine Q2a vw (Qa (n:=4) (by kernel_rfl) (by kernel_rfl) (hS.blkAt fd) (by rfl) (by rfl)) vw ?_;exact ⟨_,rfl,rfl,hS.drop.drop⟩)
theorem Qfg (v:Val) (n:Int) (hN:N≤100000) (hS:St cx w L) (hi:nth L i=some (Q1Q z N h s)):
 Rets Tryz.prog Q6F [h,v.v, .int .i64 n] w fun u w'=> u= .tuple #[(s.arrV v n).v, .int .i64 (s.arrC v n)]∧St cx w' (L.set i (Q1Q z (N+1) h (s.arr v n))):=by
 by_cases hn:n < 0∨15 < n
 · have e1:s.arr v n=s:=by unfold HpS.arr;rw [if_pos hn]
   have e2:s.arrV v n=Val.zero:=by unfold HpS.arrV;rw [if_pos hn]
   have e3:s.arrC v n=1:=by unfold HpS.arrC;rw [if_pos hn]
   rw [e1,e2,e3]
   obtain ⟨hok,b,rfl⟩:=Q1W hS hi
   all_goals refine lgo tyD Tryz.func189 ?_
   all_goals (refine Zaa ?_;refine Q1U hS vw (by rfl) ?_;intro b4 w1 hS;simp only [Val.cells] at hS;refine Ql hS ?_;intro b6 w1 hS;refine ZaM ?_)
   all_goals (first|(refine Q1k ?_)|(refine Q1w ?_)|(refine QA rfl rfl (fun hc=> ?_) (fun hc=> ?_)))
   all_goals (refine Zak ?_)
   all_goals (first|refine zgn ?_|(refine zgy ?_;refine Q1e ?_))
   all_goals (refine ZaL ?_)
   all_goals refine zct ?_
   all_goals (refine Zaa ?_;refine zb0 [_,_,_,_] ?_;refine zsn hS ?_;intro w1 hS;have hS:=hS.ns;refine Zau ?_;refine Q2a vw (Qa (n:=4) (by kernel_rfl) (by kernel_rfl) (hS.blkAt fd) (by rfl) (by rfl)) vw ?_;refine ⟨_,rfl,rfl,?_⟩;obtain ⟨lv,rv,ho,hS⟩:=Q30 hS.drop.drop hi;exact (Qd (⟨ho.hr,hok.mono (by omega)⟩:HpO (N+1) s rv) hS).back hi)
 · obtain ⟨m,rfl⟩:=Int.eq_ofNat_of_zero_le (show 0≤n by omega)
   have e1:s.arr v m=s.put v (m+1) ⟨true,Q1R m⟩:=by unfold HpS.arr;rw [if_neg hn]
   have e2:s.arrV v m=s.putV v 4 (m+1):=by unfold HpS.arrV;rw [if_neg hn]
   have e3:s.arrC v m=s.code v (m+1):=by unfold HpS.arrC;rw [if_neg hn]
   rw [e1,e2,e3]
   all_goals refine lgo tyD Tryz.func189 ?_
   all_goals (refine Zaa ?_;refine Q1U hS vw (by rfl) ?_;intro b4 w1 hS;simp only [Val.cells] at hS;refine Ql hS ?_;intro b6 w1 hS;refine ZaM ?_)
   all_goals (refine Yas ?_)
   all_goals (refine Zak ?_)
   all_goals (refine Yat ?_)
   all_goals (refine ZaL ?_)
   all_goals refine zcf ?_
   all_goals (refine zsk ?_;refine Zaa ?_;refine zb1 [_,_] ?_;refine Ql hS ?_;intro b8 w1 hS;refine Q1g hS rfl rfl (by rfl) fd (by simp) (by first|exact Q13 _|exact one2 rfl rfl) (by rfl) ?_;intro w1 hS;have hS:=hS.ns;refine ZaF ?_;refine ZaW ?_;have hS:=hS.nil (T:=H1.Tv) (es:=4))
   refine zo [] (fun A ρ' w'=>∃(j:Nat) (va:Value),Has ρ' A∧Has ρ' [(0,h),(2, .int .i64 m),(4, .pointer (some ⟨b4,0,none⟩)),(6, .pointer (some ⟨b6,0,none⟩)),(8, .pointer (some ⟨b8,0,none⟩)),(9, .int .i64 j)]∧(j≤m)∧St cx w' (sl H1.Tv 4 va ((Q1R j).map Val.cells)::blk b8 278 [.bool true,va]::blk b6 182 [.int .i64 0, .int .i64 0, .int .i64 0, .int .i64 0]::blk b4 182 [.int .i64 v.kind, .int .i64 v.region, .int .i64 v.thing, .int .i64 v.n]::L)) (fun ρ' _=> (m - iv (ρ' 9)).toNat) ?_ ?_
   · exact ⟨0, .slice none 0 0,zh,zh,(by omega),hS.sp⟩
   rintro ρ w1 ⟨j,va,hA,hρ,hj,hS⟩;obtain ⟨ρ,rfl⟩:=env2 hA hρ;have hnl:=QbW (n:=j)
   all_goals (refine ZbL ?_;refine Zam ?_)
   refine Qn rfl (fun hc=> ?_) (fun hc=> ?_)
   · skip
     all_goals (refine ZaA ?_;refine Q1d ?_;refine zf0 ?_;refine zl hS ?_;refine zb1 [_,_,_,_] ?_;refine zB1 hS [_,_,_,_] ?_;intro b1 w1 hS;refine Q24 Q9X (.inl Q99) hS vw vw fd (hS.srcB fd (by rfl) (by simp [oneC])) (by first|omega|(simp only [List.length_map,List.length_append,List.length_cons,List.length_nil,List.length_set,List.length_replicate];omega)) ?_;intro v7 w7 hS;have hS:=hS.ns;refine zf0 ?_;refine zst hS ?_;intro w1 hS;have hS:=hS.ns;refine Zbs ?_;refine zad ?_;refine Zad ?_;exact ⟨⟨j+1,_,zh,zh,(by omega),by rw [show ((j+1:Nat):Int)=(j:Int)+1 by omega,QaJ,List.map_append];exact hS.sp⟩,Qr (by omega)⟩)
   · skip
     all_goals (refine zex ?_;obtain rfl:j=m:=(by omega);have hone:=hS.oneC nth0;refine Zab ?_;refine zv hS ?_;refine zv hS ?_;refine zm ?_;refine zad ?_;refine zR4 (c:=Qfe v (j+1) true va (Q1R j) (by omega) hN (by omega) hone hS (show nth (_::_::_::L) (i+3)=_ from hi)) (h:=?_);rintro v2 w2 ⟨rfl,hS⟩;have hS:=hS.ns;refine ZaG ?_;refine Q1g hS rfl rfl (by rfl) fd (by simp) (by exact Q13 _) (by rfl) ?_;intro w1 hS;have hS:=hS.ns;refine Zau ?_;refine Q2a vw (Qa (n:=4) (by kernel_rfl) (by kernel_rfl) (hS.blkAt fd) (by rfl) (by rfl)) vw ?_;exact ⟨_,rfl,rfl,hS.drop.drop.drop⟩)
end Go.Proofs.YteflkifmgnpbhaaGreat
namespace Go.Lir
theorem valf_y {g:Frm}{k:Int}{v:Val}(h0:0≤k) (h:g.vals[k.toNat]?=some v):g.val k=some v:=by unfold Frm.val;rw [if_neg (by omega)];exact h
theorem valf_n {g:Frm}{k:Int}(h:k < 0∨(g.vals.length:Int)≤k):g.val k=none:=by
 unfold Frm.val
 by_cases h0:k < 0
 · rw [if_pos h0]
 · rw [if_neg h0];exact List.getElem?_eq_none (by omega)
theorem QbU {g:Frm}{k n:Int}(h:g.num k=some n):∃v∈g.vals,v.n=n:=by
 unfold Frm.num Frm.val at h
 split at h
 · cases h
 · rename_i v hv
   split at hv
   · cases hv
   · split at h
     · exact ⟨v,List.mem_of_getElem? hv,Option.some.inj h⟩
     · cases h
end Go.Lir
namespace Go.Proofs.YteflkifmgnpbhaaGreat
open Go.Lir
set_option maxHeartbeats 1000000
attribute [local irreducible] LC.wp Q0 Qh Qc retQ Qw LO.wp Q3 Calls
set_option linter.unusedSimpArgs false
set_option linter.unusedVariables false
theorem Qgr:Q1H Tryz.prog 47=some (119,5,72,[.int .i64 0, .int .i64 0, .int .i64 0, .slice none 0 0, .slice none 0 0]):=by kernel_rfl
theorem Qez:∃e2,Tryz.prog.underlying 47=some (.slice e2):=⟨119,by kernel_rfl⟩
def FrmV.res1 (x:FrmV):Res:=star (sl 182 4 x.vv (x.vals.map Val.cells)) (sl 3 1 x.rv (Qk x.regs))
@[reducible] def gL (p:Nat) (z:GZ) (lv:Value) (left:Int) (fr:List FrmV) (g:FrmV) (L:List Res):List Res:=gBlk z p lv left::sl 119 5 z.fv (Q2d fr g)::sl 182 4 g.vv (g.vals.map Val.cells)::sl 3 1 g.rv (Qk g.regs)::big FrmV.res1 fr::L
@[reducible] def GZ.end (z:GZ) (e:Int):GZ:=⟨z.fn,z.fv,z.iv,e,z.bv,z.ov,z.fu,z.mo,true,z.c,z.a⟩
variable {cx:Cx}{w:World}{L:List Res}{p:Nat}{z:GZ}{fr:List FrmV}{g:FrmV}{lv:Value}{left:Int}
theorem gends_c (e:Int) (hS:St cx w (gBlk z p lv left::L)):Rets Tryz.prog Q6U [.pointer (some ⟨p,0,none⟩), .int .i64 e] w fun u w'=> u= .int .i64 1∧St cx w' (gBlk (z.end e) p lv left::L):=by
 all_goals refine lgo tyD Tryz.func72 ?_
 all_goals (refine Zaf ?_;refine Zas ?_;refine Zbm ?_;refine zf0 ?_;refine zst hS ?_;intro w1 hS;have hS:=hS.ns;refine znc ?_;refine zf0 ?_;refine Yac ?_;refine zst hS ?_;intro w1 hS;have hS:=hS.ns;refine zn ?_;refine Zao ?_;exact ⟨_,rfl,rfl,hS.sp⟩)
theorem Q3s (hf:fr.length≤1000) (hS:St cx w (gL p z lv left fr g L)):Rets Tryz.prog Qcr [.pointer (some ⟨p,0,none⟩)] w fun u w'=>∃b o,u= .pointer (some ⟨b,o,none⟩)∧ElP z.fv (fr.length+1) 5 fr.length b o∧St cx w' (gL p z lv left fr g L):=by
 all_goals refine lgo tyD Tryz.func73 ?_
 all_goals (refine Zaf ?_;refine Qv ?_;refine zD (ci 12 [11]) ?_;have hS:=hS.drew;refine Zbm ?_;refine zf0 ?_;refine zl hS ?_;refine Zbm ?_;refine zf0 ?_;refine zl hS ?_;refine QO hS vw fd (Qg fr g) ?_;refine zsu ?_;rw [show ((fr.length+1:Nat):Int) - 1=fr.length by omega];refine Q2Q hS vw rfl fd (by rw [Qg];omega) ?_;rw [Qg];intro b1 o1 hel;refine Zai ?_;exact ⟨_,rfl,b1,o1,rfl,hel,hS.sp⟩)
attribute [local irreducible] Frm.val Frm.num Frm.args Frm.rgs Frm.reg
theorem Qge {l:List Int}{v1:Value}(hl1:l.length≤100000) (hf:fr.length≤1000) (hl:intR.sl cx v1 l) (hS:St cx w (gL p z lv left fr g L)):Rets Tryz.prog Q4H [.pointer (some ⟨p,0,none⟩),v1] w fun u w'=>
 (∃(vs:List Val) (v:Value),g.abs.args l=some vs∧vs.length=l.length∧oneC v=true∧u= .tuple #[v, .bool true]∧St cx w' (gL p z lv left fr g (sl 182 4 v (vs.map Val.cells)::L)))∨(g.abs.args l=none∧u= .tuple #[.slice none 0 0, .bool false]∧St cx w' (gL p z lv left fr g L)):=by
 have hlen:=hl.len
 all_goals refine lgo tyD Tryz.func125 ?_
 all_goals (refine Zab ?_;refine Zad ?_;refine ZaV ?_;refine zR1 (c:=Q3s hf hS) (h:=?_);rintro v1 w1 ⟨b9,o9,rfl,hel,hS⟩;refine Zar ?_;refine Q1 hS hel rfl fd (Qg fr g) (Qo fr g) rfl ?_;refine Zaz ?_;refine ZaW ?_;have hS:St cx _ (gL p z lv left fr g (sl 182 4 (.slice none 0 0) (([]:List Val).map Val.cells)::L)):=(by have hS:=hS.nil (T:=182) (es:=4);exact hS.sp))
 refine zo [1,7] (fun A ρ' w'=>∃(q:Nat) (vo:Value) (out:List Val),Has ρ' A∧Has ρ' [(6,vo),(8, .int .i64 q)]∧(q≤l.length)∧(out.length=q)∧(oneC vo=true)∧(g.abs.args l=(g.abs.args (l.drop q)).map fun r=> out++r)∧St cx w' (gL p z lv left fr g (sl 182 4 vo (out.map Val.cells)::L))) (fun ρ' _=> (l.length - iv (ρ' 8)).toNat) ?_ ?_
 · exact ⟨0, .slice none 0 0,[],zh,zh,(by omega),rfl,rfl,args_0,hS.sp⟩
 rintro ρ w1 ⟨q,vo,out,hA,hρ,hq,hol,hvo,hd,hS⟩;obtain ⟨ρ,rfl⟩:=env2 hA hρ
 all_goals (refine ZbL ?_;refine zL ?_;refine Zam ?_)
 refine Qn rfl (fun hc=> ?_) (fun hc=> ?_)
 · skip
   all_goals (refine ZaA ?_;refine ZbL ?_;refine zi ?_;intro b1 o1 cs1 x1 hat1 hx1 he1;obtain rfl:=QQ he1;refine Yap ?_)
   all_goals (first|(refine Q1k ?_)|(refine Q1w ?_)|(refine QA rfl rfl (fun hc=> ?_) (fun hc=> ?_)))
   all_goals (refine Zbp ?_;(first|refine zgn ?_|(refine zgy ?_;refine zi ?_;intro b2 o2 cs2 x2 hat2 hx2 he2;obtain rfl:=QQ he2));refine Yba ?_;refine Yaa ?_;(first|refine zgn ?_|(refine zgy ?_;refine QO hS vw fd (List.length_map _) ?_)))
   all_goals (first|refine zgn ?_|(refine zgy ?_;(first|(refine Q2w ?_)|(refine Q3k ?_)|(refine Q1I rfl rfl (fun hc=> ?_) (fun hc=> ?_)))))
   all_goals (refine ZaL ?_)
   all_goals
    first
    | (refine zct ?_
       all_goals (refine Zbx ?_)
       all_goals (exact ⟨_,rfl, .inr ⟨Qdl hd hx1 (valf_n (by first|exact .inl (by omega)|(have hxx:=Option.some.inj (hx1.symm.trans hx2);exact .inr (by show (g.vals.length:Int)≤x1;omega)))),rfl,hS.sp⟩⟩))
    | (refine zcf ?_
       all_goals refine zsk ?_)
   all_goals (have hxx:=Option.some.inj (hx1.symm.trans hx2);obtain ⟨v9,hv9⟩:∃v,g.vals[x1.toNat]?=some v:=⟨_,List.getElem?_eq_getElem (by omega)⟩;have hvg:=valf_y (g:=g.abs) (by omega) hv9;refine ZaI ?_;refine Zbg ?_;refine zi ?_;intro b3 o3 cs3 x3 hat3 hx3 he3;obtain rfl:=QQ he3;refine Yap ?_;rw [←Option.some.inj (hx1.symm.trans hx3)];refine QJ hS vw rfl fd (by omega) (by rw [List.length_map];omega) ?_;rw [List.length_map];intro b4 o4 hel4;refine Q1p hS hel4 rfl fd (List.length_map _) (show (g.vals.map Val.cells)[x1.toNat]?=some v9.cells by rw [List.getElem?_map,hv9];rfl) ?_;unfold Val.cells;refine zB1 hS [_,_,_,_] ?_;intro b1 w1 hS;refine Q24 Q9X (.inl Q99) hS vw vw (i:=6) rfl (hS.srcB (i:=0) rfl (by rfl) (by simp [oneC])) (by rw [List.length_map];simp only [List.length_cons,List.length_nil];omega) ?_;intro v7 w7 hS;have hS:=hS.ns;have ho7:=hS.oneC (i:=6) rfl)
   all_goals (refine Zad ?_;refine Zag ?_;refine zad ?_;refine Zad ?_;exact ⟨⟨q+1,v7,out++[v9],zh,zh,(by omega),by rw [List.length_append,hol];rfl,ho7,QgJ hd hx1 hvg,by rw [List.map_append];exact hS.sp⟩,Qr (by omega)⟩)
 · skip
   all_goals (refine zex ?_;refine Zas ?_;refine ZaD ?_;(first|(exact ⟨_,rfl, .inr ⟨Qdl hd hx1 (valf_n (by exact .inl (by omega))),rfl,hS.sp⟩⟩)|(exact ⟨_,rfl, .inl ⟨out,_,args_end hd (by omega),by omega,hvo,rfl,hS.sp⟩⟩)))
end Go.Proofs.YteflkifmgnpbhaaGreat
namespace Go.Lir
theorem QdL {vs:List Val}{q:Nat}{v:Val}(h:vs[q]?=some v):(vs.take q).map Val.n++[v.n]=(vs.take (q+1)).map Val.n:=by
 obtain ⟨hq,rfl⟩:=List.getElem?_eq_some_iff.1 h
 rw [List.take_succ_eq_append_getElem hq,List.map_append];rfl
theorem bk_0 {P:Prop}:false=true↔false=true∧P:=by simp
theorem bk_t {P:Prop}(h:P):true=true↔true=true∧P:=by simp [h]
theorem bk_f {P:Prop}(h:¬P):false=true↔true=true∧P:=by simp [h]
theorem Q8w {vs:List Val}{q:Nat}{v:Val}{b:Bool}(hb:b=true↔∀x∈vs.take q,x.kind=1) (h:vs[q]?=some v):∀b',(b'=true↔b=true∧v.kind=1)→(b'=true↔∀x∈vs.take (q+1),x.kind=1):=by
 intro b' hb'
 obtain ⟨hq,rfl⟩:=List.getElem?_eq_some_iff.1 h
 rw [hb',hb,List.take_succ_eq_append_getElem hq]
 simp only [List.forall_mem_append,List.mem_singleton,forall_eq]
end Go.Lir
namespace Go.Proofs.YteflkifmgnpbhaaGreat
open Go.Lir
set_option maxHeartbeats 1000000
attribute [local irreducible] LC.wp Q0 Qh Qc retQ Qw LO.wp Q3 Calls
set_option linter.unusedSimpArgs false
set_option linter.unusedVariables false
variable {cx:Cx}{w:World}{L:List Res}{p:Nat}{z:GZ}{fr:List FrmV}{g:FrmV}{lv:Value}{left:Int}
attribute [local irreducible] Frm.val Frm.num Frm.args Frm.rgs Frm.reg
theorem gregs_c {l:List Int}{v1:Value}(hl1:l.length≤100000) (hf:fr.length≤1000) (hl:intR.sl cx v1 l) (hS:St cx w (gL p z lv left fr g L)):Rets Tryz.prog Q6S [.pointer (some ⟨p,0,none⟩),v1] w fun u w'=>
 (∃(vs:List Int) (v:Value),g.abs.rgs l=some vs∧vs.length=l.length∧oneC v=true∧u= .tuple #[v, .bool true]∧St cx w' (gL p z lv left fr g (sl 3 1 v (Qk vs)::L)))∨(g.abs.rgs l=none∧u= .tuple #[.slice none 0 0, .bool false]∧St cx w' (gL p z lv left fr g L)):=by
 have hlen:=hl.len
 all_goals refine lgo tyD Tryz.func124 ?_
 all_goals (refine Zab ?_;refine Zad ?_;refine ZaV ?_;refine zR1 (c:=Q3s hf hS) (h:=?_);rintro v1 w1 ⟨b9,o9,rfl,hel,hS⟩;refine Zar ?_;refine Q1 hS hel rfl fd (Qg fr g) (Qo fr g) rfl ?_;refine Zaz ?_;refine ZaW ?_;have hS:St cx _ (gL p z lv left fr g (sl 3 1 (.slice none 0 0) (Qk [])::L)):=(by have hS:=hS.nil (T:=3) (es:=1);exact hS.sp))
 refine zo [1,7] (fun A ρ' w'=>∃(q:Nat) (vo:Value) (out:List Int),Has ρ' A∧Has ρ' [(6,vo),(8, .int .i64 q)]∧(q≤l.length)∧(out.length=q)∧(oneC vo=true)∧(g.abs.rgs l=(g.abs.rgs (l.drop q)).map fun r=> out++r)∧St cx w' (gL p z lv left fr g (sl 3 1 vo (Qk out)::L))) (fun ρ' _=> (l.length - iv (ρ' 8)).toNat) ?_ ?_
 · exact ⟨0, .slice none 0 0,[],zh,zh,(by omega),rfl,rfl,rgs_0,hS.sp⟩
 rintro ρ w1 ⟨q,vo,out,hA,hρ,hq,hol,hvo,hd,hS⟩;obtain ⟨ρ,rfl⟩:=env2 hA hρ
 all_goals (refine ZbL ?_;refine zL ?_;refine Zam ?_)
 refine Qn rfl (fun hc=> ?_) (fun hc=> ?_)
 · skip
   all_goals (refine ZaA ?_;refine ZbL ?_;refine zi ?_;intro b1 o1 cs1 x1 hat1 hx1 he1;obtain rfl:=QQ he1;refine Yap ?_)
   all_goals (first|(refine Q1k ?_)|(refine Q1w ?_)|(refine QA rfl rfl (fun hc=> ?_) (fun hc=> ?_)))
   all_goals (refine Zbp ?_;(first|refine zgn ?_|(refine zgy ?_;refine zi ?_;intro b2 o2 cs2 x2 hat2 hx2 he2;obtain rfl:=QQ he2));refine Yba ?_;refine Yaa ?_;(first|refine zgn ?_|(refine zgy ?_;refine QO hS vw (i:=3) rfl (List.length_map _) ?_)))
   all_goals (first|refine zgn ?_|(refine zgy ?_;(first|(refine Q2w ?_)|(refine Q3k ?_)|(refine Q1I rfl rfl (fun hc=> ?_) (fun hc=> ?_)))))
   all_goals (refine ZaL ?_)
   all_goals
    first
    | (refine zct ?_
       all_goals (refine Zbx ?_)
       all_goals (exact ⟨_,rfl, .inr ⟨Qfl hd hx1 (regf_n (by first|exact .inl (by omega)|(have hxx:=Option.some.inj (hx1.symm.trans hx2);exact .inr (by show (g.regs.length:Int)≤x1;omega)))),rfl,hS.sp⟩⟩))
    | (refine zcf ?_
       all_goals refine zsk ?_)
   all_goals (have hxx:=Option.some.inj (hx1.symm.trans hx2);obtain ⟨v9,hv9⟩:∃v,g.regs[x1.toNat]?=some v:=⟨_,List.getElem?_eq_getElem (by omega)⟩;have hvg:=regf_y (g:=g.abs) (by omega) hv9;refine ZaI ?_;refine Zbg ?_;refine zi ?_;intro b3 o3 cs3 x3 hat3 hx3 he3;obtain rfl:=QQ he3;refine Yap ?_;rw [←Option.some.inj (hx1.symm.trans hx3)];refine QJ hS vw rfl (i:=3) rfl (by omega) (by rw [List.length_map];omega) ?_;rw [List.length_map];intro b4 o4 hel4;refine Qs hS hel4 rfl (i:=3) rfl (List.length_map _) (show (Qk g.regs)[x1.toNat]?=some [.int .i64 v9] by rw [List.getElem?_map,hv9];rfl) rfl ?_;refine zB1 hS [_] ?_;intro b1 w1 hS;refine Q24 Q5e (.inl Q9a) hS vw vw (i:=6) rfl (hS.srcB (i:=0) rfl (by rfl) (by simp [oneC])) (by rw [List.length_map];simp only [List.length_cons,List.length_nil];omega) ?_;intro v7 w7 hS;have hS:=hS.ns;have ho7:=hS.oneC (i:=6) rfl)
   all_goals (refine Zad ?_;refine Zag ?_;refine zad ?_;refine Zad ?_;exact ⟨⟨q+1,v7,out++[v9],zh,zh,(by omega),by rw [List.length_append,hol];rfl,ho7,rgs_step hd hx1 hvg,by rw [Qk,List.map_append];exact hS.sp⟩,Qr (by omega)⟩)
 · skip
   all_goals (refine zex ?_;refine Zas ?_;refine ZaD ?_;(first|(exact ⟨_,rfl, .inr ⟨Qfl hd hx1 (regf_n (by exact .inl (by omega))),rfl,hS.sp⟩⟩)|(exact ⟨_,rfl, .inl ⟨out,_,rgs_end hd (by omega),by omega,hvo,rfl,hS.sp⟩⟩)))
theorem gpush_c {j:Nat}{v2:Value}{vs:List Val}(hf:fr.length≤1000) (hn:g.vals.length+vs.length≤1000000) (hS:St cx w (gL p z lv left fr g L)) (hj:nth L j=some (sl 182 4 v2 (vs.map Val.cells))):
 Rets Tryz.prog Q6T [.pointer (some ⟨p,0,none⟩),v2] w fun u w'=> u= .int .i64 0∧∃tv,St cx w' (gL p z lv left fr (g.push tv vs) L):=by
 all_goals refine lgo tyD Tryz.func120 ?_
 all_goals (refine ZaV ?_;refine zR1 (c:=Q3s hf hS) (h:=?_);rintro v1 w1 ⟨b1,o1,rfl,hel1,hS⟩;refine zm ?_;refine zR1 (c:=Q3s hf hS) (h:=?_);rintro v2 w1 ⟨b2,o2,rfl,hel2,hS⟩;refine Zar ?_;refine Q1 hS hel2 rfl fd (Qg fr g) (Qo fr g) rfl ?_;refine zm ?_;refine Q24 Q9X (.inl Q99) hS vw vw (i:=2) rfl (hS.srcS (i:=j+5) hj (Qev vs)) (by rw [List.length_map,List.length_map];omega) ?_;intro v7 w7 hS;have hS:=hS.ns;have ho7:=hS.oneC (i:=2) rfl;rw [←List.map_append] at hS;refine Zar ?_;refine Q10 hS hel1 rfl vw fd (Qg fr g) (Qo fr g) (by omega) ho7 (Q2T (g':=g.push v7 vs) rfl) ?_;intro w8 hS;have hS:=hS.ns;refine zn ?_;refine Zao ?_;exact ⟨_,rfl,rfl,v7,hS.sp⟩)
theorem gnums_c {l:List Int}{v1:Value}(hl1:l.length≤100000) (hf:fr.length≤1000) (hl:intR.sl cx v1 l) (hS:St cx w (gL p z lv left fr g L)):Rets Tryz.prog Q3t [.pointer (some ⟨p,0,none⟩),v1] w fun u w'=>
 (∃(vs:List Val) (v:Value) (b:Bool),g.abs.args l=some vs∧vs.length=l.length∧oneC v=true∧(b=true↔∀x∈vs,x.kind=1)∧u= .tuple #[v, .bool b]∧St cx w' (gL p z lv left fr g (sl 2 1 v (Qk (vs.map Val.n))::L)))∨(g.abs.args l=none∧u= .tuple #[.slice none 0 0, .bool false]∧St cx w' (gL p z lv left fr g L)):=by
 have hlen:=hl.len
 all_goals refine lgo tyD Tryz.func121 ?_
 all_goals (refine Zab ?_;refine Zad ?_)
 refine zM [] (fun A ρ' w'=>∃(vs:List Val) (v3:Value) (b:Bool),Has ρ' A∧Has ρ' [(6,v3),(7, .bool b)]∧(vs.length≤100000)∧((g.abs.args l=some vs∧vs.length=l.length∧b=true)∨(g.abs.args l=none∧vs=[]∧v3= .slice none 0 0∧b=false))∧St cx w' (gL p z lv left fr g (sl 182 4 v3 (vs.map Val.cells)::L))) ?_ ?_
 · skip
   all_goals (refine ZaI ?_)
   all_goals (refine zR2 (c:=Qge hl1 hf hl hS) (h:=?_);rintro v9 w9 hv;rcases hv with ⟨vs,v3,hvs,hvl,ho3,rfl,hS⟩|⟨hvs,rfl,hS⟩)
   all_goals (refine Zbc ?_;refine Zad ?_;(first|(exact ⟨vs,v3,true,zh,zh,(by omega), .inl ⟨hvs,hvl,rfl⟩,hS.sp⟩)|(exact ⟨[], .slice none 0 0,false,zh,zh,(by simp), .inr ⟨hvs,rfl,rfl,rfl⟩,by have hS:=hS.nil (T:=182) (es:=4);exact hS.sp⟩)))
 rintro ρ w1 ⟨vs,v3,b,hA,hρ,hvl,hvs,hS⟩;obtain ⟨ρ,rfl⟩:=env2 hA hρ
 all_goals (refine Zaf ?_;refine ZbA ?_;have hS:St cx _ (gL p z lv left fr g (sl 2 1 (.slice none 0 0) (Qk [])::sl 182 4 v3 (vs.map Val.cells)::L)):=(by have hS:=hS.nil (T:=2) (es:=1);exact hS.sp))
 refine zo [6] (fun A ρ' w'=>∃(q:Nat) (vo:Value) (b1:Bool),Has ρ' A∧Has ρ' [(7, .bool b1),(8,vo),(9, .int .i64 q)]∧(q≤vs.length)∧(oneC vo=true)∧(q=0→vo= .slice none 0 0∧b1=b)∧(0 < vs.length→(b1=true↔∀x∈vs.take q,x.kind=1))∧St cx w' (gL p z lv left fr g (sl 2 1 vo (Qk ((vs.take q).map Val.n))::sl 182 4 v3 (vs.map Val.cells)::L))) (fun ρ' _=> (vs.length - iv (ρ' 9)).toNat) ?_ ?_
 · exact ⟨0, .slice none 0 0,b,zh,zh,(by omega),rfl,(fun _=> ⟨rfl,rfl⟩),(fun h0=> by rcases hvs with ⟨_,_,rfl⟩|⟨_,rfl,_⟩;(simp);simp at h0),hS.sp⟩
 rintro ρ w1 ⟨q,vo,b1,hA,hρ,hq,hvo,hv0,hb,hS⟩;obtain ⟨ρ,rfl⟩:=env2 hA hρ
 all_goals (refine ZbL ?_;refine QO hS vw (i:=6) rfl (List.length_map _) ?_;refine Zam ?_)
 refine Qn rfl (fun hc=> ?_) (fun hc=> ?_)
 · skip
   all_goals (refine ZaA ?_)
   refine zM [6,8,9] (fun A ρ' w'=>∃(b2:Bool),Has ρ' A∧Has ρ' [(7, .bool b2)]∧(q < vs.length)∧(b2=true↔∀x∈vs.take (q+1),x.kind=1)∧St cx w' (gL p z lv left fr g (sl 2 1 vo (Qk ((vs.take q).map Val.n))::sl 182 4 v3 (vs.map Val.cells)::L))) ?_ ?_
   · skip
     all_goals (obtain ⟨v9,hv9⟩:∃v,vs[q]?=some v:=⟨_,List.getElem?_eq_getElem (by omega)⟩;have hrow:(vs.map Val.cells)[q]?=some v9.cells:=(by rw [List.getElem?_map,hv9];rfl);have hbq:=hb (by omega);cases b1)
     all_goals (refine Zag ?_;refine Zbp ?_;(first|refine zgn ?_|(refine zgy ?_;refine Q2Q hS vw rfl (i:=6) rfl (by rw [List.length_map];omega) ?_;rw [List.length_map];intro b4 o4 hel4));refine Yag ?_;(first|refine zgn ?_|(refine zgy ?_;refine Q1 hS hel4 rfl (i:=6) rfl (List.length_map _) hrow rfl ?_)))
     all_goals (first|refine zgn ?_|(refine zgy ?_;(first|(refine Qi ?_)|(refine Qm ?_)|(refine Q5 rfl rfl (fun hc=> ?_) (fun hc=> ?_)))))
     all_goals (refine Yae ?_;refine Zad ?_;exact ⟨_,zh,zh,(by omega),(by first|exact Q8w hbq hv9 _ bk_0|exact Q8w hbq hv9 _ (bk_t hc)|exact Q8w hbq hv9 _ (bk_f hc)),hS.sp⟩)
   rintro ρ w1 ⟨b2,hA,hρ,hq1,hb2,hS⟩;obtain ⟨ρ,rfl⟩:=env2 hA hρ;obtain ⟨v9,hv9⟩:∃v,vs[q]?=some v:=⟨_,List.getElem?_eq_getElem hq1⟩;have hrow:(vs.map Val.cells)[q]?=some v9.cells:=(by rw [List.getElem?_map,hv9];rfl)
   all_goals (refine ZaI ?_;refine zm ?_;refine Q2Q hS vw rfl (i:=6) rfl (by rw [List.length_map];omega) ?_;rw [List.length_map];intro b5 o5 hel5;refine Yac ?_;refine Q1 hS hel5 rfl (i:=6) rfl (List.length_map _) hrow rfl ?_;refine zB1 hS [_] ?_;intro b1 w1 hS;refine Q24 Q5R (.inl Qal) hS vw vw (i:=6) rfl (hS.srcB (i:=0) rfl (by rfl) (by simp [oneC])) (by simp only [List.length_map,List.length_cons,List.length_nil,List.length_take];omega) ?_;intro v7 w7 hS;have hS:=hS.ns;have ho7:=hS.oneC (i:=6) rfl;refine Zad ?_;refine Zag ?_;refine zad ?_;refine Zad ?_)
   all_goals (exact ⟨⟨q+1,v7,b2,zh,zh,(by omega),ho7,(fun h=> absurd h (by omega)),(fun _=> hb2),by rw [←QdL hv9,Qk,List.map_append];exact hS.sp⟩,Qr (by omega)⟩)
 · skip
   all_goals (refine zex ?_;refine Zas ?_;refine Zbi ?_)
   all_goals (obtain rfl:q=vs.length:=(by omega);rw [List.take_length] at hS hb;rcases hvs with ⟨h1,h2,h3⟩|⟨h1,rfl,h3,h4⟩;exact ⟨_,rfl, .inl ⟨vs,_,_,h1,h2,hvo,(by by_cases h0:0 < vs.length;exact hb h0;obtain ⟨_,e2⟩:=hv0 (by omega);rw [e2,h3,List.length_eq_zero_iff.1 (show vs.length=0 by omega)];simp),rfl,hS.sp⟩⟩;obtain ⟨e1,e2⟩:=hv0 rfl;rw [e1,e2,h4];exact ⟨_,rfl, .inr ⟨h1,rfl,hS.sp⟩⟩)
end Go.Proofs.YteflkifmgnpbhaaGreat
namespace Go.Lir
theorem St.lent {c:Cx}{w:World}{L:List Res}{r:Res}(h:St c w (r::L)):∃c' F,c.Le c'∧St c' w L∧r.A c'.H0 F∧(∀b,F b→c'.K b)∧∀{w':World}{L':List Res},St c' w' L'→St c w' (r::L'):=by
 obtain ⟨ok,F,⟨F1,F2,h1,h2,h3,h4⟩,hd⟩:=h
 have hle:c.Le ⟨c.base,fun b=> c.K b∨F1 b,w.heap⟩:=⟨rfl,fun b hb=> ⟨.inl hb,ok.same b hb⟩,ok.size,ok.lt⟩
 refine ⟨⟨c.base,fun b=> c.K b∨F1 b,w.heap⟩,F1,hle,⟨⟨ok.os,ok.tape,ok.output,Nat.le_refl _,fun b hb=> hb.elim (fun hb=> Nat.lt_of_lt_of_le (ok.lt b hb) ok.size) (r.lt h1 b),fun b _=> rfl⟩,F2,h2,?_⟩,h1,fun b hb=> .inr hb,?_⟩
 · rintro b hb (hk|hk)
   · exact hd b ((h4 b).2 (.inr hb)) hk
   · exact h3 b hk hb
 · intro w' L' hS
   have hw:=hS.weak hle
   obtain ⟨ok',F',hF',hd'⟩:=hS
   refine ⟨hw.1,fun b=> F1 b∨F' b,⟨F1,F',r.loc h1 fun b hb _=> ok'.same b (.inr hb),hF',fun b hb hb'=> hd' b hb' (.inr hb),fun b=> Iff.rfl⟩,?_⟩
   rintro b (hb|hb) hk
   · exact hd b ((h4 b).2 (.inl hb)) hk
   · exact hd' b hb (.inl hk)
theorem St.lend {α:Type}{r:Rep α}{c:Cx}{w:World}{L:List Res}{T:TypeId}{es:Nat}{v:Value}{css:List (List Value)}{l:List α}(h:St c w (sl T es v css::L)) (hl:r.ls c css l) (hes:r.es=es) (hm:l.length≤140737488355328):
 ∃c',c.Le c'∧St c' w L∧r.sl c' v l∧∀{w':World}{L':List Res},St c' w' L'→St c w' (sl T es v css::L'):=by
 subst hes
 obtain ⟨c',F,h1,h2,h3,h4,h5⟩:=h.lent
 exact ⟨c',h1,h2,⟨css,SlR.mono (Sl.toR h3) fun b _ hb=> h4 b hb,hl.up h1,hm⟩,h5⟩
end Go.Lir
namespace Go.Lir
theorem Qa3 {g:Frm}{k:Int}{vs:List Val}(h:g.args [k]=some vs):∃v,g.val k=some v∧vs=[v]:=by
 unfold Frm.args at h
 cases hv:g.val k with
 | none=> rw [hv] at h;cases h
 | some v=> rw [hv] at h;exact ⟨v,rfl,(Option.some.inj h).symm⟩
theorem Q6D {g:Frm}{k:Int}(h:g.args [k]=none):g.val k=none:=by
 unfold Frm.args at h
 cases hv:g.val k with
 | none=> rfl
 | some v=> rw [hv] at h;cases h
theorem args_two {g:Frm}{k j:Int}{vs:List Val}(h:g.args [k,j]=some vs):∃v u,g.val k=some v∧g.val j=some u∧vs=[v,u]:=by
 rw [Frm.args] at h
 cases hv:g.val k with
 | none=> rw [hv] at h;cases h
 | some v=>
   rw [hv] at h
   cases ha:g.args [j] with
   | none=> rw [ha] at h;cases h
   | some l=>
     rw [ha] at h
     obtain ⟨u,hu,rfl⟩:=Qa3 ha
     exact ⟨v,u,rfl,hu,(Option.some.inj h).symm⟩
theorem Qe9 {g:Frm}{k j:Int}(h:g.args [k,j]=none):g.val k=none∨g.val j=none:=by
 rw [Frm.args] at h
 cases hv:g.val k with
 | none=> exact .inl rfl
 | some v=>
   rw [hv] at h
   cases ha:g.args [j] with
   | none=> exact .inr (Q6D ha)
   | some l=> rw [ha] at h;cases h
end Go.Lir
namespace Go.Proofs.YteflkifmgnpbhaaGreat
open Go.Lir
set_option maxHeartbeats 1000000
attribute [local irreducible] LC.wp Q0 Qh Qc retQ Qw LO.wp Q3 Calls
set_option linter.unusedSimpArgs false
set_option linter.unusedVariables false
@[reducible] def gX (p:Nat) (z:GZ) (fr:List FrmV) (g:FrmV) (N:Nat) (h:HpS) (out:List Int) (L:List Res):List Res:=Q1Q z N (.pointer (some ⟨p,1,none⟩)) h::sl 119 5 z.fv (Q2d fr g)::sl 182 4 g.vv (g.vals.map Val.cells)::sl 3 1 g.rv (Qk g.regs)::big FrmV.res1 fr::sl 2 1 z.ov (Qk out)::L
variable {cx:Cx}{w:World}{L:List Res}{p N:Nat}{z:GZ}{fr:List FrmV}{g:FrmV}{h:HpS}{out:List Int}
theorem Q1T (hS:St cx w (gX p z fr g N h out L)):∃lv rv,HpO N h rv∧St cx w (gL p z lv h.left fr g (sl 131 4 lv (rv.map RgnV.cells)::big (RgnV.res H1) rv::sl 2 1 z.ov (Qk out)::L)):=by
 obtain ⟨b,lv,rv,he,ho,hS⟩:=Q5f hS
 cases he
 exact ⟨lv,rv,ho,(hS.subP (by (repeat constructor);first|done|fail))⟩
theorem QB {lv:Value}{rv:List RgnV}(ho:HpO N h rv) (hS:St cx w (gL p z lv h.left fr g (sl 131 4 lv (rv.map RgnV.cells)::big (RgnV.res H1) rv::sl 2 1 z.ov (Qk out)::L))):St cx w (gX p z fr g N h out L):=
 Qd ho (hS.subP (by (repeat constructor);first|done|fail))
attribute [local irreducible] Frm.val Frm.num Frm.args Frm.rgs Frm.reg
theorem iC_ls {cx:Cx}{l:List Int}:intR.ls cx (Qk l) l:=⟨by unfold Qk;simp,fun k x hx=> ⟨[.int .i64 x],by unfold Qk;rw [List.getElem?_map,hx];rfl,rfl⟩⟩
theorem gE_c (e:Int) (hS:St cx w (gX p z fr g N h out L)):Rets Tryz.prog Q6U [.pointer (some ⟨p,0,none⟩), .int .i64 e] w fun u w'=> u= .int .i64 1∧St cx w' (gX p (z.end e) fr g N h out L):=by
 obtain ⟨lv,rv,ho,hS⟩:=Q1T hS
 refine (gends_c e hS).mono ?_
 rintro u w' ⟨rfl,hS⟩
 exact ⟨rfl,QB (z:=z.end e) ho hS⟩
theorem Qgi {l:List Int}{v1:Value}(hl1:l.length≤100000) (hf:fr.length≤1000) (hl:intR.sl cx v1 l) (hS:St cx w (gX p z fr g N h out L)):Rets Tryz.prog Q4H [.pointer (some ⟨p,0,none⟩),v1] w fun u w'=>
 (∃(vs:List Val) (v:Value),g.abs.args l=some vs∧vs.length=l.length∧oneC v=true∧u= .tuple #[v, .bool true]∧St cx w' (gX p z fr g N h out (sl 182 4 v (vs.map Val.cells)::L)))∨(g.abs.args l=none∧u= .tuple #[.slice none 0 0, .bool false]∧St cx w' (gX p z fr g N h out L)):=by
 obtain ⟨lv,rv,ho,hS⟩:=Q1T hS
 refine (Qge hl1 hf hl hS).mono ?_
 rintro u w' (⟨vs,v,h1,h2,h3,h4,hS⟩|⟨h1,h2,hS⟩)
 · exact .inl ⟨vs,v,h1,h2,h3,h4,QB ho (hS.subP (by (repeat constructor);first|done|fail))⟩
 · exact .inr ⟨h1,h2,QB ho (hS.subP (by (repeat constructor);first|done|fail))⟩
theorem gRs_c {l:List Int}{v1:Value}(hl1:l.length≤100000) (hf:fr.length≤1000) (hl:intR.sl cx v1 l) (hS:St cx w (gX p z fr g N h out L)):Rets Tryz.prog Q6S [.pointer (some ⟨p,0,none⟩),v1] w fun u w'=>
 (∃(vs:List Int) (v:Value),g.abs.rgs l=some vs∧vs.length=l.length∧oneC v=true∧u= .tuple #[v, .bool true]∧St cx w' (gX p z fr g N h out (sl 3 1 v (Qk vs)::L)))∨(g.abs.rgs l=none∧u= .tuple #[.slice none 0 0, .bool false]∧St cx w' (gX p z fr g N h out L)):=by
 obtain ⟨lv,rv,ho,hS⟩:=Q1T hS
 refine (gregs_c hl1 hf hl hS).mono ?_
 rintro u w' (⟨vs,v,h1,h2,h3,h4,hS⟩|⟨h1,h2,hS⟩)
 · exact .inl ⟨vs,v,h1,h2,h3,h4,QB ho (hS.subP (by (repeat constructor);first|done|fail))⟩
 · exact .inr ⟨h1,h2,QB ho (hS.subP (by (repeat constructor);first|done|fail))⟩
theorem gNs_c {l:List Int}{v1:Value}(hl1:l.length≤100000) (hf:fr.length≤1000) (hl:intR.sl cx v1 l) (hS:St cx w (gX p z fr g N h out L)):Rets Tryz.prog Q3t [.pointer (some ⟨p,0,none⟩),v1] w fun u w'=>
 (∃(vs:List Val) (v:Value) (b:Bool),g.abs.args l=some vs∧vs.length=l.length∧oneC v=true∧(b=true↔∀x∈vs,x.kind=1)∧u= .tuple #[v, .bool b]∧St cx w' (gX p z fr g N h out (sl 2 1 v (Qk (vs.map Val.n))::L)))∨(g.abs.args l=none∧u= .tuple #[.slice none 0 0, .bool false]∧St cx w' (gX p z fr g N h out L)):=by
 obtain ⟨lv,rv,ho,hS⟩:=Q1T hS
 refine (gnums_c hl1 hf hl hS).mono ?_
 rintro u w' (⟨vs,v,b,h1,h2,h3,h4,h5,hS⟩|⟨h1,h2,hS⟩)
 · exact .inl ⟨vs,v,b,h1,h2,h3,h4,h5,QB ho (hS.subP (by (repeat constructor);first|done|fail))⟩
 · exact .inr ⟨h1,h2,QB ho (hS.subP (by (repeat constructor);first|done|fail))⟩
theorem gV_c {k:Int}{v1:Value}(hf:fr.length≤1000) (hS:St cx w (sl 3 1 v1 (Qk [k])::gX p z fr g N h out L)):Rets Tryz.prog Q4H [.pointer (some ⟨p,0,none⟩),v1] w fun u w'=>
 (∃(v:Val) (sv:Value),g.abs.val k=some v∧oneC sv=true∧u= .tuple #[sv, .bool true]∧St cx w' (gX p z fr g N h out (sl 182 4 sv ([v].map Val.cells)::L)))∨(g.abs.val k=none∧u= .tuple #[.slice none 0 0, .bool false]∧St cx w' (gX p z fr g N h out L)):=by
 obtain ⟨c',hle,hS,hsl,hback⟩:=St.lend (r:=intR) (l:=[k]) hS iC_ls rfl (by simp)
 refine (Qgi (by simp) hf hsl hS).mono ?_
 rintro u w' (⟨vs,v,h1,h2,h3,rfl,hS⟩|⟨h1,rfl,hS⟩)
 · obtain ⟨v0,h5,rfl⟩:=Qa3 h1
   exact .inl ⟨v0,v,h5,h3,rfl,(hback hS).drop⟩
 · exact .inr ⟨Q6D h1,rfl,(hback hS).drop⟩
theorem gN_c {k:Int}{v1:Value}(hf:fr.length≤1000) (hS:St cx w (sl 3 1 v1 (Qk [k])::gX p z fr g N h out L)):Rets Tryz.prog Q3t [.pointer (some ⟨p,0,none⟩),v1] w fun u w'=>
 (∃(n:Int) (sv:Value),g.abs.num k=some n∧oneC sv=true∧u= .tuple #[sv, .bool true]∧St cx w' (gX p z fr g N h out (sl 2 1 sv (Qk [n])::L)))∨(g.abs.num k=none∧∃sv,u= .tuple #[sv, .bool false]∧St cx w' (gX p z fr g N h out L)):=by
 obtain ⟨c',hle,hS,hsl,hback⟩:=St.lend (r:=intR) (l:=[k]) hS iC_ls rfl (by simp)
 refine (gNs_c (by simp) hf hsl hS).mono ?_
 rintro u w' (⟨vs,v,b,h1,h2,h3,h4,rfl,hS⟩|⟨h1,rfl,hS⟩)
 · obtain ⟨v0,h5,rfl⟩:=Qa3 h1
   have hS:=(hback hS).drop
   cases b with
   | true=> exact .inl ⟨v0.n,v,num_y h5 (h4.1 rfl v0 (by simp)),h3,rfl,(hS.subP (by (repeat constructor);first|done|fail))⟩
   | false=> exact .inr ⟨num_n h5 (fun h=> absurd (h4.2 (by simpa using h)) (by decide)),_,rfl,(hS.subP (by (repeat constructor);first|done|fail))⟩
 · exact .inr ⟨num_0 (Q6D h1),_,rfl,(hback hS).drop⟩
theorem gNN_c {k j:Int}{v1:Value}(hf:fr.length≤1000) (hS:St cx w (sl 3 1 v1 (Qk [k,j])::gX p z fr g N h out L)):Rets Tryz.prog Q3t [.pointer (some ⟨p,0,none⟩),v1] w fun u w'=>
 (∃(n m:Int) (sv:Value),g.abs.num k=some n∧g.abs.num j=some m∧oneC sv=true∧u= .tuple #[sv, .bool true]∧St cx w' (gX p z fr g N h out (sl 2 1 sv (Qk [n,m])::L)))∨((g.abs.num k=none∨g.abs.num j=none)∧∃sv,u= .tuple #[sv, .bool false]∧St cx w' (gX p z fr g N h out L)):=by
 obtain ⟨c',hle,hS,hsl,hback⟩:=St.lend (r:=intR) (l:=[k,j]) hS iC_ls rfl (by simp)
 refine (gNs_c (by simp) hf hsl hS).mono ?_
 rintro u w' (⟨vs,v,b,h1,h2,h3,h4,rfl,hS⟩|⟨h1,rfl,hS⟩)
 · obtain ⟨v0,u0,h5,h6,rfl⟩:=args_two h1
   have hS:=(hback hS).drop
   cases b with
   | true=> exact .inl ⟨v0.n,u0.n,v,num_y h5 (h4.1 rfl v0 (by simp)),num_y h6 (h4.1 rfl u0 (by simp)),h3,rfl,(hS.subP (by (repeat constructor);first|done|fail))⟩
   | false=>
     refine .inr ⟨?_,_,rfl,(hS.subP (by (repeat constructor);first|done|fail))⟩
     by_cases h7:v0.kind=1
     · exact .inr (num_n h6 (fun h=> absurd (h4.2 (by simpa using ⟨h7,h⟩)) (by decide)))
     · exact .inl (num_n h5 h7)
 · exact .inr ⟨(Qe9 h1).imp num_0 num_0,_,rfl,(hback hS).drop⟩
theorem gP_c {v2:Value}{vs:List Val}(hf:fr.length≤1000) (hn:g.vals.length+vs.length≤1000000) (hS:St cx w (sl 182 4 v2 (vs.map Val.cells)::gX p z fr g N h out L)):
 Rets Tryz.prog Q6T [.pointer (some ⟨p,0,none⟩),v2] w fun u w'=> u= .int .i64 0∧∃tv,St cx w' (gX p z fr (g.push tv vs) N h out L):=by
 obtain ⟨lv,rv,ho,hS⟩:=Q1T (L:=sl 182 4 v2 (vs.map Val.cells)::L) (hS.subP (by (repeat constructor);first|done|fail))
 refine (gpush_c (j:=3) hf hn hS rfl).mono ?_
 rintro u w' ⟨rfl,tv,hS⟩
 exact ⟨rfl,tv,QB ho (hS.subP (by (repeat constructor);first|done|fail))⟩
end Go.Proofs.YteflkifmgnpbhaaGreat
namespace Go.Lir
theorem Q4z {P:Program}{ρ:Env}{w:World}{c:Cx}{L:List Res}{i d n:Nat}{T es:Nat}{v:Value}{css:List (List Value)}{x:Operand}{m b o:Nat}{cs:List Value}(hS:St c w L) (he:ElP v n es m b o) (hx:ρ.ev x= .pointer (some ⟨b,o,none⟩)) (hi:nth L i=some (sl T es v css)) (hn:css.length=n) (hc:css[m]?=some cs):gqv P ρ w ⟨none, .loadn d es x⟩ (.agg ⟨cs⟩):=by
 obtain ⟨F,hr,_⟩:=hS.step hi;exact ⟨_,cs,hx,(he.el hn hr).cells hc,rfl⟩
section
variable {m:Module}{s:MS}{x:Ins}
theorem Q97 (h:x.op=8):s.ins m x=Q16 (s.g.val x.a) fun v=> Q16 (s.g.num x.b) fun n=> if n < 0∨15 < n then .halt 3 else s.made (s.h.arrC v n) (s.h.arr v n) (s.h.arrV v n):=by unfold MS.ins;rw [if_neg (by omega),if_neg (by omega),if_neg (by omega),if_neg (by omega),if_neg (by omega),if_neg (by omega),if_neg (by omega),if_pos h]
theorem Qef (h1:4≤x.op) (h2:x.op≤11) (hv:s.g.val x.a=none):s.ins m x= .lost:=by
 rcases (show x.op=4∨x.op=5∨x.op=6∨x.op=7∨x.op=8∨x.op=9∨x.op=10∨x.op=11 by omega) with h|h|h|h|h|h|h|h
 · rw [Qej h,Q1D hv]
 · rw [Qei h,Q1D hv]
 · rw [Qeh h,Q1D hv]
 · rw [Qcv h,Q1D hv]
 · rw [Q97 h,Q1D hv]
 · rw [Qeg h,Q1D hv]
 · rw [Qbq h,Q1D hv]
 · rw [Qem h,Q1D hv]
theorem Qeo {v:Val}(h6:x.op=6) (hv:s.g.val x.a=some v) (hc:v.kind≠3∨(s.h.get v x.k).2≠0):s.ins m x= .lost:=by
 rw [Qeh h6,Qb hv]
 by_cases hk:v.kind=3
 · rw [if_neg (by omega),if_pos (by omega)]
 · rw [if_pos hk]
theorem x6_go {v:Val}(h6:x.op=6) (hv:s.g.val x.a=some v) (hk:v.kind=3) (hc:(s.h.get v x.k).2=0):s.ins m x= .go (s.put [(s.h.get v x.k).1]):=by rw [Qeh h6,Qb hv,if_neg (by omega),if_neg (by omega)]
theorem Qen {v:Val}(h7:x.op=7) (hv:s.g.val x.a=some v) (hc:s.g.val x.b=none∨v.kind≠3):s.ins m x= .lost:=by
 rw [Qcv h7,Qb hv]
 by_cases hk:v.kind=3
 · rw [if_neg (by omega),Q1D (hc.resolve_right (by omega))]
 · rw [if_pos hk]
theorem x7_lost2 {v y:Val}(h7:x.op=7) (hv:s.g.val x.a=some v) (hy:s.g.val x.b=some y) (hc:v.kind≠3∨s.h.setC v x.k y≠0):s.ins m x= .lost:=by
 rw [Qcv h7,Qb hv]
 by_cases hk:v.kind=3
 · rw [if_neg (by omega),Qb hy,if_pos (by omega)]
 · rw [if_pos hk]
theorem x7_go {v y:Val}(h7:x.op=7) (hv:s.g.val x.a=some v) (hy:s.g.val x.b=some y) (hk:v.kind=3) (hc:s.h.setC v x.k y=0):s.ins m x= .go (s.hp (s.h.set v x.k y)):=by rw [Qcv h7,Qb hv,if_neg (by omega),Qb hy,if_neg (by omega)]
theorem x8_n {v:Val}(h8:x.op=8) (hv:s.g.val x.a=some v) (hn:s.g.num x.b=none):s.ins m x= .lost:=by rw [Q97 h8,Qb hv,Q1D hn]
theorem x8_h {v:Val}{n:Int}(h8:x.op=8) (hv:s.g.val x.a=some v) (hn:s.g.num x.b=some n) (hc:n < 0∨15 < n):s.ins m x= .halt 3:=by rw [Q97 h8,Qb hv,Qb hn,if_pos hc]
theorem x8_m {v:Val}{n:Int}(h8:x.op=8) (hv:s.g.val x.a=some v) (hn:s.g.num x.b=some n) (hc:¬(n < 0∨15 < n)):s.ins m x=s.made (s.h.arrC v n) (s.h.arr v n) (s.h.arrV v n):=by rw [Q97 h8,Qb hv,Qb hn,if_neg hc]
theorem x9_n {v:Val}(h9:x.op=9) (hv:s.g.val x.a=some v) (hn:s.g.num x.b=none):s.ins m x= .lost:=by rw [Qeg h9,Qb hv,Q1D hn]
theorem x9_p {v:Val}{n:Int}(h9:x.op=9) (hv:s.g.val x.a=some v) (hn:s.g.num x.b=some n):s.ins m x=Q2A v (s.h.get v n).2 (.go (s.put [(s.h.get v n).1])):=by rw [Qeg h9,Qb hv,Qb hn]
theorem x10_n {v:Val}(h10:x.op=10) (hv:s.g.val x.a=some v) (hn:s.g.num x.b=none∨s.g.num x.c=none):s.ins m x= .lost:=by
 rw [Qbq h10,Qb hv]
 cases hb:s.g.num x.b with
 | none=> rfl
 | some n=> rw [Qb rfl,Q1D (hn.resolve_left (by rw [hb];exact fun h=> by cases h))]
theorem x10_p {v:Val}{n c:Int}(h10:x.op=10) (hv:s.g.val x.a=some v) (hn:s.g.num x.b=some n) (hc:s.g.num x.c=some c):s.ins m x=Q2A v (s.h.setC v n (intV c)) (.go (s.hp (s.h.set v n (intV c)))):=by rw [Qbq h10,Qb hv,Qb hn,Qb hc]
theorem x11_p {v:Val}(h11:x.op=11) (hv:s.g.val x.a=some v):s.ins m x=Q2A v (s.h.len v).2 (.go (s.put [intV (s.h.len v).1])):=by rw [Qem h11,Qb hv]
end
end Go.Lir
namespace Go.Proofs.YteflkifmgnpbhaaGreat
open Go.Lir
set_option maxHeartbeats 1000000
attribute [local irreducible] LC.wp Q0 Qh Qc retQ Qw LO.wp Q3 Calls
set_option linter.unusedSimpArgs false
set_option linter.unusedVariables false
variable {cx:Cx}{w:World}{L:List Res}{p N:Nat}{z:GZ}{fr:List FrmV}{g:FrmV}{h:HpS}{out inp:List Int}{fu:Nat}
@[reducible] def GZ.upd (z:GZ) (fv iv ov:Value):GZ:=⟨z.fn,fv,iv,z.e,z.bv,ov,z.fu,z.mo,z.dn,z.c,z.a⟩
@[reducible] def GZ.bk (z:GZ) (bv:Value):GZ:=⟨z.fn,z.fv,z.iv,z.e,bv,z.ov,z.fu,z.mo,z.dn,z.c,z.a⟩
def GQ (p:Nat) (z:GZ) (N fu:Nat) (h:HpS) (out:List Int) (X:Stp) (cx:Cx) (L:List Res) (u:Value) (w':World):Prop:=
 (∃fv iv ov fr' g' N' h' inp' out',X= .go (msOf h' g' fr' inp' out' fu)∧intR.sl cx iv inp'∧N'≤N+1∧u= .int .i64 0∧St cx w' (gX p (z.upd fv iv ov) fr' g' N' h' out' L))
 ∨(∃e fr' g' N',X= .halt e∧N'≤N+1∧u= .int .i64 1∧St cx w' (gX p (z.end e) fr' g' N' h out L))
 ∨(∃l bv fr' g' N',X= .done l∧N'≤N+1∧l.length≤100000∧u= .int .i64 1∧St cx w' (gX p ((z.bk bv).end 0) fr' g' N' h out (sl 2 1 bv (Qk l)::L)))
 ∨(X= .lost∧u= .int .i64 2∧∃lv left,St cx w' (gBlk z p lv left::L))
theorem gX_lost (hS:St cx w (gX p z fr g N h out L)):∃lv left,St cx w (gBlk z p lv left::L):=by
 obtain ⟨lv,rv,ho,hS⟩:=Q1T hS
 exact ⟨lv,_,hS.sp⟩
theorem GQ.lost {X:Stp}{L':List Res}{h2:HpS}{N2:Nat}{out2:List Int}(hX:X= .lost) (hS:St cx w (gX p z fr g N2 h2 out2 L')) (hsub:∀lv left,St cx w (gBlk z p lv left::L')→St cx w (gBlk z p lv left::L)):GQ p z N fu h out X cx L (.int .i64 2) w:=by
 obtain ⟨lv,left,hS⟩:=gX_lost hS
 exact .inr (.inr (.inr ⟨hX,rfl,lv,left,hsub _ _ hS⟩))
theorem ggot_c {v:Val}{e:Int}(hf:fr.length≤1000) (hn:g.vals.length≤900000) (hS:St cx w (gX p z fr g N h out L)):Rets Tryz.prog Qct [.pointer (some ⟨p,0,none⟩),v.v, .int .i64 e] w fun u w'=>
 (e=0∧u= .int .i64 0∧∃tv,St cx w' (gX p z fr (g.push tv [v]) N h out L))∨(e=14∧u= .int .i64 1∧St cx w' (gX p (z.end 6) fr g N h out L))∨(e≠0∧e≠14∧u= .int .i64 2∧St cx w' (gX p z fr g N h out L)):=by
 unfold Val.v Val.cells
 all_goals refine lgo tyD Tryz.func187 ?_
 all_goals (refine Zaq ?_;intro p4 w1 hS;refine ZaM ?_)
 all_goals (first|(refine Qi ?_)|(refine Qm ?_)|(refine Q5 rfl rfl (fun hc=> ?_) (fun hc=> ?_)))
 all_goals (refine zn ?_)
 all_goals
  first
  | (refine zct ?_
     all_goals (refine Zab ?_;have hS:St cx _ (gX p z fr g N h out L):=hS.sp;refine zR2 (c:=gE_c 6 hS) (h:=?_);rintro v1 w1 ⟨rfl,hS⟩;refine Zai ?_)
     all_goals ((first|exact ⟨_,rfl, .inl ⟨by omega,rfl,tv,hS⟩⟩|exact ⟨_,rfl, .inr (.inl ⟨by omega,rfl,hS⟩)⟩)))
  | (refine zcf ?_
     all_goals refine zsk ?_)
 all_goals (refine Zah ?_)
 all_goals (first|(refine Q11 ?_)|(refine Q18 ?_)|(refine Qu rfl rfl (fun hc=> ?_) (fun hc=> ?_)))
 all_goals (refine zn ?_)
 all_goals
  first
  | (refine zct ?_
     all_goals (refine Zao ?_)
     all_goals ((first|exact ⟨_,rfl, .inl ⟨by omega,rfl,tv,hS⟩⟩|exact ⟨_,rfl, .inr (.inl ⟨by omega,rfl,hS⟩)⟩|exact ⟨_,rfl, .inr (.inr ⟨by omega,by omega,rfl,hS.sp⟩)⟩)))
  | (refine zcf ?_
     all_goals refine zsk ?_)
 all_goals (refine Zab ?_;refine zv hS ?_;refine zB1 hS [_,_,_,_] ?_;intro b1 w1 hS;have hS:=St.slOf (T:=182) (es:=4) (css:=[v].map Val.cells) hS rfl (by simp [Val.cells]) rfl;have hS:St cx _ (sl 182 4 (.slice (some ⟨b1,0,none⟩) 1 1) ([v].map Val.cells)::gX p z fr g N h out L):=hS.sp;refine zR2 (c:=gP_c (vs:=[v]) hf (by simp only [List.length_cons,List.length_nil];omega) hS) (h:=?_);rintro v1 w1 ⟨rfl,tv,hS⟩;refine Zai ?_;exact ⟨_,rfl, .inl ⟨by omega,rfl,tv,hS⟩⟩)
theorem Q7g {v:Val}{e:Int}(hS:St cx w (gX p z fr g N h out L)):Rets Tryz.prog Qab [.pointer (some ⟨p,0,none⟩),v.v, .int .i64 e] w fun u w'=>
 (v.kind=4∧e=0∧u= .int .i64 0∧St cx w' (gX p z fr g N h out L))∨(v.kind=4∧e=1∧u= .int .i64 1∧St cx w' (gX p (z.end 2) fr g N h out L))∨((v.kind=4→e≠1∧e≠0)∧u= .int .i64 2∧St cx w' (gX p z fr g N h out L)):=by
 unfold Val.v Val.cells
 all_goals refine lgo tyD Tryz.func192 ?_
 all_goals (refine Zaq ?_;intro p4 w1 hS;refine ZbD ?_;refine zf0 ?_;refine zl hS ?_)
 all_goals (first|(refine Q11 ?_)|(refine Q18 ?_)|(refine Qu rfl rfl (fun hc=> ?_) (fun hc=> ?_)))
 all_goals (refine zn ?_)
 all_goals
  first
  | (refine zct ?_
     all_goals (refine Zao ?_)
     all_goals ((first|exact ⟨_,rfl, .inr (.inl ⟨by omega,by omega,rfl,hS⟩)⟩|exact ⟨_,rfl, .inl ⟨by omega,by omega,rfl,hS.sp⟩⟩|exact ⟨_,rfl, .inr (.inr ⟨by omega,rfl,hS.sp⟩)⟩)))
  | (refine zcf ?_
     all_goals refine zsk ?_)
 all_goals (refine Zah ?_)
 all_goals (first|(refine Qi ?_)|(refine Qm ?_)|(refine Q5 rfl rfl (fun hc=> ?_) (fun hc=> ?_)))
 all_goals (refine zn ?_)
 all_goals
  first
  | (refine zct ?_
     all_goals (refine Zab ?_;have hS:St cx _ (gX p z fr g N h out L):=hS.sp;refine zR2 (c:=gE_c 2 hS) (h:=?_);rintro v1 w1 ⟨rfl,hS⟩;refine Zai ?_)
     all_goals (exact ⟨_,rfl, .inr (.inl ⟨by omega,by omega,rfl,hS⟩)⟩))
  | (refine zcf ?_
     all_goals refine zsk ?_)
 all_goals (refine Zah ?_)
 all_goals (first|(refine Q11 ?_)|(refine Q18 ?_)|(refine Qu rfl rfl (fun hc=> ?_) (fun hc=> ?_)))
 all_goals (refine zn ?_)
 all_goals
  first
  | (refine zct ?_
     all_goals (refine Zao ?_)
     all_goals ((first|exact ⟨_,rfl, .inr (.inl ⟨by omega,by omega,rfl,hS⟩)⟩|exact ⟨_,rfl, .inl ⟨by omega,by omega,rfl,hS.sp⟩⟩|exact ⟨_,rfl, .inr (.inr ⟨by omega,rfl,hS.sp⟩)⟩)))
  | (refine zcf ?_
     all_goals refine zsk ?_)
 all_goals (refine Zao ?_;(first|exact ⟨_,rfl, .inr (.inl ⟨by omega,by omega,rfl,hS⟩)⟩|exact ⟨_,rfl, .inl ⟨by omega,by omega,rfl,hS.sp⟩⟩))
end Go.Proofs.YteflkifmgnpbhaaGreat
namespace Go.Proofs.YteflkifmgnpbhaaGreat
open Go.Lir
set_option maxHeartbeats 1000000
attribute [local irreducible] LC.wp Q0 Qh Qc retQ Qw LO.wp Q3 Calls
set_option linter.unusedSimpArgs false
set_option linter.unusedVariables false
variable {cx:Cx}{w:World}{L:List Res}{p N:Nat}{z:GZ}{fr:List FrmV}{g:FrmV}{h:HpS}{out inp:List Int}{fu:Nat}{m:Module}
@[reducible] def iBlk (b:Nat) (x:Ins) (vr va:Value):Res:=blk b 84 [.int .i64 x.op, .int .i64 x.a, .int .i64 x.b, .int .i64 x.c, .int .i64 x.k, .int .i64 x.n,vr,va]
@[reducible] def vSl (sv:Value) (v:Val):Res:=sl 182 4 sv ([v].map Val.cells)
theorem GQ.go {X:Stp}{fr':List FrmV}{g':FrmV}{N':Nat}{h':HpS}{out':List Int}{u:Value}(hX:X= .go (msOf h' g' fr' inp out' fu)) (hi:intR.sl cx z.iv inp) (hN:N'≤N+1) (hu:u= .int .i64 0) (hS:St cx w (gX p z fr' g' N' h' out' L)):GQ p z N fu h out X cx L u w:=
 .inl ⟨z.fv,z.iv,z.ov,fr',g',N',h',inp,out',hX,hi,hN,hu,hS⟩
theorem GQ.halt {X:Stp}{e:Int}{fr':List FrmV}{g':FrmV}{N':Nat}{u:Value}(hX:X= .halt e) (hN:N'≤N+1) (hu:u= .int .i64 1) (hS:St cx w (gX p (z.end e) fr' g' N' h out L)):GQ p z N fu h out X cx L u w:=
 .inr (.inl ⟨e,fr',g',N',hX,hN,hu,hS⟩)
attribute [local irreducible] Frm.val Frm.num Frm.args Frm.rgs Frm.reg intsV MS.ins MS.call HpS.get HpS.set HpS.setC HpS.len HpS.code HpS.put HpS.putV HpS.open HpS.shut HpS.full HpS.openV HpS.can HpS.tuple HpS.arr HpS.arrC HpS.arrV opF QZ
theorem gmem_c {x : Ins} {cs : List Value}(hx:insR.at cx cs x) (hi:intR.sl cx z.iv inp) (hop:4≤x.op∧x.op≤11) (h8:x.args.length≤100) (hf:fr.length≤900) (hn:g.vals.length≤800000) (hN:N≤99999) (hS:St cx w (gX p z fr g N h out L)):
 Rets Tryz.prog Q8Q [.pointer (some ⟨p,0,none⟩), .agg ⟨cs⟩] w (GQ p z N fu h out ((msOf h g fr inp out fu).ins m x) cx L):=by
 obtain ⟨vr,va,rfl,hr,ha⟩:=Q1a hx
 have hil:=hi.len
 have hXl:=Qef (m:=m) (s:=msOf h g fr inp out fu) (x:=x) hop.1 hop.2
 all_goals refine lgo tyD Tryz.func126 ?_
 all_goals (refine Zaq ?_;intro p3 w1 hS;refine ZaT ?_;refine zf0 ?_;refine zl hS ?_;refine zB1 hS [_] ?_;intro b1 w1 hS)
 all_goals (have hS:St cx _ (sl 3 1 (.slice (some ⟨b1,0,none⟩) 1 1) (Qk [x.a])::gX p z fr g N h out (iBlk p3 x vr va::L)):=(by have hS:=St.slOf (T:=3) (es:=1) (css:=Qk [x.a]) hS rfl (by simp [Qk]) rfl;exact hS.sp);refine zR2 (c:=gV_c (by omega) hS) (h:=?_);rintro v1 w1 (⟨v0,sv,hv,ho1,rfl,hS⟩|⟨hv,rfl,hS⟩))
 all_goals (refine ZbF ?_)
 all_goals
  first
  | (refine zct ?_
     all_goals (refine Zao ?_)
     all_goals (exact ⟨_,rfl,GQ.lost (hXl hv) hS fun _ _ hS=> hS.sp⟩))
  | (refine zcf ?_
     all_goals refine zsk ?_)
 all_goals (refine Zbn ?_;refine zf0 ?_;refine zl hS ?_;refine ZbJ ?_;refine Zaa ?_)
 all_goals (first|(refine Qi ?_)|(refine Qm ?_)|(refine Q5 rfl rfl (fun hc=> ?_) (fun hc=> ?_)))
 all_goals (refine Zad ?_)
 all_goals
  first
  | (refine zct ?_
     all_goals (refine Zbo ?_;refine zD (ci 8 [6,7]) ?_;have hS:=hS.drew;refine Zbm ?_;refine zf0 ?_;refine zm ?_;refine QJ hS vw rfl fd (by simp) (by simp) ?_;intro b2 o2 hel2;refine Q1p hS hel2 rfl fd rfl rfl ?_)
     all_goals (refine zR2 (c:=rtshut_c v0 hS fd) (h:=?_);rintro v1 w1 ⟨rfl,hS⟩;have hS:=hS.ns;cases hcan:h.can v0)
     all_goals (refine ZaU ?_)
     all_goals
      first
      | (refine zct ?_
         all_goals (refine Qv ?_;have hX:=(Qej (m:=m) (s:=msOf h g fr inp out fu) (x:=x) (by omega)).trans ((Qb hv).trans (if_pos hcan));refine ZaX ?_)
         all_goals ((first|exact ⟨_,rfl,GQ.lost (hXl hv) hS fun _ _ hS=> hS.sp⟩|exact ⟨_,rfl,GQ.lost hX hS fun _ _ hS=> hS.sp⟩)))
      | (refine zcf ?_
         all_goals refine zsk ?_)
     all_goals (refine Qv ?_;have hX:=(Qej (m:=m) (s:=msOf h g fr inp out fu) (x:=x) (by omega)).trans ((Qb hv).trans (if_neg (show¬h.can v0=false by rw [hcan];decide)));refine ZaX ?_)
     all_goals ((first|exact ⟨_,rfl,GQ.lost (hXl hv) hS fun _ _ hS=> hS.sp⟩|exact ⟨_,rfl,GQ.lost hX hS fun _ _ hS=> hS.sp⟩|exact ⟨_,rfl,GQ.lost (hX.trans (Q3n he)) hS fun _ _ hS=> hS.sp⟩|exact ⟨_,rfl,GQ.lost (hX.trans (Q2p he2 he)) hS fun _ _ hS=> hS.sp⟩|exact ⟨_,rfl,GQ.go (fr':=fr) (g':=g) (h':=h.shut v0) (out':=out) hX hi (Nat.le_succ N) rfl hS.sp⟩)))
  | (refine zcf ?_
     all_goals (refine Zaa ?_)
     all_goals (first|(refine Qi ?_)|(refine Qm ?_)|(refine Q5 rfl rfl (fun hc=> ?_) (fun hc=> ?_)))
     all_goals (refine Zad ?_)
     all_goals
      first
      | (refine zct ?_
         all_goals (refine Zab ?_;refine zf0 ?_;refine zl hS ?_)
         all_goals (refine zR2 (c:=Qgi (by omega) (by omega) ha (show St cx _ (gX p z fr g N h out _) from hS)) (h:=?_);rintro v1 w1 (⟨vs,sw,hvs,hvl,ho2,rfl,hS⟩|⟨hvs,rfl,hS⟩))
         all_goals (refine ZbF ?_)
         all_goals
          first
          | (refine zct ?_
             all_goals (refine Qv ?_;have hX:=(Qei (m:=m) (s:=msOf h g fr inp out fu) (x:=x) (by omega)).trans ((Qb hv).trans (Q1D hvs));refine ZaX ?_)
             all_goals ((first|exact ⟨_,rfl,GQ.lost (hXl hv) hS fun _ _ hS=> hS.sp⟩|exact ⟨_,rfl,GQ.lost hX hS fun _ _ hS=> hS.sp⟩)))
          | (refine zcf ?_
             all_goals refine zsk ?_)
         all_goals (refine Qv ?_;refine zC [(0,none),(1,none),(2,none),(3,none),(4,none),(5,none),(6,none),(7,none),(8,some (some [])),(9,none),(10,none),(11,some none),(12,some none)] ?_;have hS:=hS.drew;refine Zbf ?_;refine Zaw ?_;refine zf0 ?_;refine Zax ?_;refine QJ hS vw rfl fd (by simp) (by simp) ?_;intro b2 o2 hel2;refine Zac ?_;refine Q1p hS hel2 rfl fd rfl rfl ?_;refine Zac ?_;refine zm ?_;refine Zal ?_;refine zR3 (c:=Qfc (N:=N) (s:=h) (j:=6) v0 sw vs (by omega) (by omega) hS fd rfl) (h:=?_);rintro v1 w1 ⟨rfl,hS⟩;have hS:=hS.ns;refine ZaS ?_;refine zxt ?_;refine Zac ?_;refine zxt ?_;refine Zay ?_)
         all_goals (refine zR3 (c:=ggot_c (v:=h.putV v0 3 (QZ vs)) (by omega) (by omega) (show St cx _ (gX p z fr g (N+1) (h.tuple v0 vs) out _) from hS)) (h:=?_);have hX:=(Qei (m:=m) (s:=msOf h g fr inp out fu) (x:=x) (by omega)).trans ((Qb hv).trans (Qb hvs));rintro v1 w1 (⟨he,rfl,tv,hS⟩|⟨he,rfl,hS⟩|⟨he,he2,rfl,hS⟩))
         all_goals (refine Zay ?_;refine ZbN ?_;refine Zae ?_)
         all_goals (first|(first|exact ⟨_,rfl,GQ.lost (hXl hv) hS fun _ _ hS=> hS.sp⟩|exact ⟨_,rfl,GQ.lost hX hS fun _ _ hS=> hS.sp⟩|exact ⟨_,rfl,GQ.lost (hX.trans (Q3n he)) hS fun _ _ hS=> hS.sp⟩|exact ⟨_,rfl,GQ.lost (hX.trans (Q2p he2 he)) hS fun _ _ hS=> hS.sp⟩|exact ⟨_,rfl,GQ.go (fr':=fr) (g':=g) (h':=h.shut v0) (out':=out) hX hi (Nat.le_succ N) rfl hS.sp⟩|exact ⟨_,rfl,GQ.go (fr':=fr) (g':=g) (h':=h.set v0 x.k y0) (out':=out) hX hi (Nat.le_succ N) rfl hS.sp⟩|exact ⟨_,rfl,GQ.go (fr':=fr) (g':=g) (h':=h.set v0 n0 (intV c0)) (out':=out) (hX.trans (Q1t hk4 he)) hi (Nat.le_succ N) rfl hS.sp⟩|exact ⟨_,rfl,GQ.go (fr':=fr) (g':=g.push tv [(h.get v0 x.k).1]) (h':=h) (out':=out) hX hi (Nat.le_succ N) rfl hS.sp⟩|exact ⟨_,rfl,GQ.go (fr':=fr) (g':=g.push tv [(h.get v0 n0).1]) (h':=h) (out':=out) (hX.trans (Q1t hk4 he)) hi (Nat.le_succ N) rfl hS.sp⟩|exact ⟨_,rfl,GQ.go (fr':=fr) (g':=g.push tv [intV (h.len v0).1]) (h':=h) (out':=out) (hX.trans (Q1t hk4 he)) hi (Nat.le_succ N) rfl hS.sp⟩|exact ⟨_,rfl,GQ.go (fr':=fr) (g':=g.push tv [h.putV v0 3 (QZ vs)]) (h':=h.tuple v0 vs) (out':=out) (hX.trans (Q3r he)) hi (Nat.le_refl _) rfl hS.sp⟩|exact ⟨_,rfl,GQ.go (fr':=fr) (g':=g.push tv [h.arrV v0 n0]) (h':=h.arr v0 n0) (out':=out) (hX.trans (Q3r he)) hi (Nat.le_refl _) rfl hS.sp⟩|exact ⟨_,rfl,GQ.halt (fr':=fr) (g':=g) (N':=N) hX (Nat.le_succ N) rfl hS.sp⟩|exact ⟨_,rfl,GQ.halt (fr':=fr) (g':=g) (N':=N) (hX.trans (Q7O hk4 he)) (Nat.le_succ N) rfl hS.sp⟩)|(have hS:=hS;rw [Q9c (by rw [he];decide)] at hS;exact ⟨_,rfl,GQ.halt (fr':=fr) (g':=g) (N':=N+1) (hX.trans (Q7Q he)) (Nat.le_refl _) rfl hS.sp⟩)))
      | (refine zcf ?_
         all_goals (refine Zaa ?_)
         all_goals (first|(refine Qi ?_)|(refine Qm ?_)|(refine Q5 rfl rfl (fun hc=> ?_) (fun hc=> ?_)))
         all_goals (refine Zad ?_)
         all_goals
          first
          | (refine zct ?_
             all_goals (refine Zab ?_;refine zf0 ?_;refine zl hS ?_;refine zB1 hS [_] ?_;intro b1 w1 hS)
             all_goals (have hS:St cx _ (sl 3 1 (.slice (some ⟨b1,0,none⟩) 1 1) (Qk [x.b])::gX p z fr g N h out (vSl sv v0::iBlk p3 x vr va::L)):=(by have hS:=St.slOf (T:=3) (es:=1) (css:=Qk [x.b]) hS rfl (by simp [Qk]) rfl;exact hS.sp);refine zR2 (c:=gN_c (by omega) hS) (h:=?_);rintro v1 w1 (⟨n0,sn,hn0,ho2,rfl,hS⟩|⟨hn0,sn,rfl,hS⟩))
             all_goals (refine ZbF ?_)
             all_goals
              first
              | (refine zct ?_
                 all_goals (refine Qv ?_;have hX:=x8_n (m:=m) (s:=msOf h g fr inp out fu) (x:=x) (by omega) hv hn0;refine ZaX ?_)
                 all_goals ((first|exact ⟨_,rfl,GQ.lost (hXl hv) hS fun _ _ hS=> hS.sp⟩|exact ⟨_,rfl,GQ.lost hX hS fun _ _ hS=> hS.sp⟩)))
              | (refine zcf ?_
                 all_goals refine zsk ?_)
             all_goals (refine Zah ?_;refine QJ hS vw rfl fd (by simp) (by simp) ?_;intro b2 o2 hel2;refine Qs hS hel2 rfl fd rfl rfl rfl ?_)
             all_goals (first|(refine Q1k ?_)|(refine Q1w ?_)|(refine QA rfl rfl (fun hc=> ?_) (fun hc=> ?_)))
             all_goals (refine Zak ?_;(first|(refine zgn ?_)|(refine zgy ?_;refine QJ hS vw rfl fd (by simp) (by simp) ?_;intro b3 o3 hel3));(first|(refine zgn ?_)|(refine zgy ?_;refine Qs hS hel3 rfl fd rfl rfl rfl ?_)))
             all_goals (first|refine zgn ?_|(refine zgy ?_;(first|(refine Q1e ?_)|(refine Q1s ?_)|(refine Qx rfl rfl (fun hc=> ?_) (fun hc=> ?_)))))
             all_goals (refine ZaL ?_)
             all_goals
              first
              | (refine zct ?_
                 all_goals (refine Zab ?_;refine zR2 (c:=gE_c 3 (show St cx _ (gX p z fr g N h out _) from hS)) (h:=?_);rintro v1 w1 ⟨rfl,hS⟩;have hX:=x8_h (m:=m) (s:=msOf h g fr inp out fu) (x:=x) (by omega) hv hn0 (by omega);refine Zai ?_)
                 all_goals ((first|exact ⟨_,rfl,GQ.lost (hXl hv) hS fun _ _ hS=> hS.sp⟩|exact ⟨_,rfl,GQ.lost hX hS fun _ _ hS=> hS.sp⟩|exact ⟨_,rfl,GQ.lost (hX.trans (Q3n he)) hS fun _ _ hS=> hS.sp⟩|exact ⟨_,rfl,GQ.lost (hX.trans (Q2p he2 he)) hS fun _ _ hS=> hS.sp⟩|exact ⟨_,rfl,GQ.go (fr':=fr) (g':=g) (h':=h.shut v0) (out':=out) hX hi (Nat.le_succ N) rfl hS.sp⟩|exact ⟨_,rfl,GQ.go (fr':=fr) (g':=g) (h':=h.set v0 x.k y0) (out':=out) hX hi (Nat.le_succ N) rfl hS.sp⟩|exact ⟨_,rfl,GQ.go (fr':=fr) (g':=g) (h':=h.set v0 n0 (intV c0)) (out':=out) (hX.trans (Q1t hk4 he)) hi (Nat.le_succ N) rfl hS.sp⟩|exact ⟨_,rfl,GQ.go (fr':=fr) (g':=g.push tv [(h.get v0 x.k).1]) (h':=h) (out':=out) hX hi (Nat.le_succ N) rfl hS.sp⟩|exact ⟨_,rfl,GQ.go (fr':=fr) (g':=g.push tv [(h.get v0 n0).1]) (h':=h) (out':=out) (hX.trans (Q1t hk4 he)) hi (Nat.le_succ N) rfl hS.sp⟩|exact ⟨_,rfl,GQ.go (fr':=fr) (g':=g.push tv [intV (h.len v0).1]) (h':=h) (out':=out) (hX.trans (Q1t hk4 he)) hi (Nat.le_succ N) rfl hS.sp⟩|exact ⟨_,rfl,GQ.go (fr':=fr) (g':=g.push tv [h.putV v0 3 (QZ vs)]) (h':=h.tuple v0 vs) (out':=out) (hX.trans (Q3r he)) hi (Nat.le_refl _) rfl hS.sp⟩|exact ⟨_,rfl,GQ.go (fr':=fr) (g':=g.push tv [h.arrV v0 n0]) (h':=h.arr v0 n0) (out':=out) (hX.trans (Q3r he)) hi (Nat.le_refl _) rfl hS.sp⟩|exact ⟨_,rfl,GQ.halt (fr':=fr) (g':=g) (N':=N) hX (Nat.le_succ N) rfl hS.sp⟩)))
              | (refine zcf ?_
                 all_goals refine zsk ?_)
             all_goals (refine Qv ?_;refine zC [(0,none),(1,none),(2,none),(3,none),(4,none),(5,none),(6,none),(7,none),(8,none),(9,none),(10,some (some [])),(11,none),(12,none),(13,some none),(14,some none)] ?_;have hS:=hS.drew;refine Zbf ?_;refine Zaw ?_;refine zf0 ?_;refine Zax ?_;refine QJ hS vw rfl fd (by simp) (by simp) ?_;intro b4 o4 hel4;refine Zac ?_;refine Q1p hS hel4 rfl fd rfl rfl ?_;refine Zax ?_;refine QJ hS vw rfl fd (by simp) (by simp) ?_;intro b5 o5 hel5;refine Zac ?_;refine Qs hS hel5 rfl fd rfl rfl rfl ?_;refine Zal ?_;refine zR3 (c:=Qfg (N:=N) (s:=h) v0 n0 (by omega) hS fd) (h:=?_);rintro v1 w1 ⟨rfl,hS⟩;have hS:=hS.ns;refine ZaS ?_;refine zxt ?_;refine Zac ?_;refine zxt ?_;refine Zay ?_)
             all_goals (refine zR3 (c:=ggot_c (v:=h.arrV v0 n0) (by omega) (by omega) (show St cx _ (gX p z fr g (N+1) (h.arr v0 n0) out _) from hS)) (h:=?_);have hX:=x8_m (m:=m) (s:=msOf h g fr inp out fu) (x:=x) (by omega) hv hn0 (by omega);rintro v1 w1 (⟨he,rfl,tv,hS⟩|⟨he,rfl,hS⟩|⟨he,he2,rfl,hS⟩))
             all_goals (refine Zay ?_;refine ZbN ?_;refine Zae ?_)
             all_goals (first|(first|exact ⟨_,rfl,GQ.lost (hXl hv) hS fun _ _ hS=> hS.sp⟩|exact ⟨_,rfl,GQ.lost hX hS fun _ _ hS=> hS.sp⟩|exact ⟨_,rfl,GQ.lost (hX.trans (Q3n he)) hS fun _ _ hS=> hS.sp⟩|exact ⟨_,rfl,GQ.lost (hX.trans (Q2p he2 he)) hS fun _ _ hS=> hS.sp⟩|exact ⟨_,rfl,GQ.go (fr':=fr) (g':=g) (h':=h.shut v0) (out':=out) hX hi (Nat.le_succ N) rfl hS.sp⟩|exact ⟨_,rfl,GQ.go (fr':=fr) (g':=g) (h':=h.set v0 x.k y0) (out':=out) hX hi (Nat.le_succ N) rfl hS.sp⟩|exact ⟨_,rfl,GQ.go (fr':=fr) (g':=g) (h':=h.set v0 n0 (intV c0)) (out':=out) (hX.trans (Q1t hk4 he)) hi (Nat.le_succ N) rfl hS.sp⟩|exact ⟨_,rfl,GQ.go (fr':=fr) (g':=g.push tv [(h.get v0 x.k).1]) (h':=h) (out':=out) hX hi (Nat.le_succ N) rfl hS.sp⟩|exact ⟨_,rfl,GQ.go (fr':=fr) (g':=g.push tv [(h.get v0 n0).1]) (h':=h) (out':=out) (hX.trans (Q1t hk4 he)) hi (Nat.le_succ N) rfl hS.sp⟩|exact ⟨_,rfl,GQ.go (fr':=fr) (g':=g.push tv [intV (h.len v0).1]) (h':=h) (out':=out) (hX.trans (Q1t hk4 he)) hi (Nat.le_succ N) rfl hS.sp⟩|exact ⟨_,rfl,GQ.go (fr':=fr) (g':=g.push tv [h.putV v0 3 (QZ vs)]) (h':=h.tuple v0 vs) (out':=out) (hX.trans (Q3r he)) hi (Nat.le_refl _) rfl hS.sp⟩|exact ⟨_,rfl,GQ.go (fr':=fr) (g':=g.push tv [h.arrV v0 n0]) (h':=h.arr v0 n0) (out':=out) (hX.trans (Q3r he)) hi (Nat.le_refl _) rfl hS.sp⟩|exact ⟨_,rfl,GQ.halt (fr':=fr) (g':=g) (N':=N) hX (Nat.le_succ N) rfl hS.sp⟩|exact ⟨_,rfl,GQ.halt (fr':=fr) (g':=g) (N':=N) (hX.trans (Q7O hk4 he)) (Nat.le_succ N) rfl hS.sp⟩)|(have hS:=hS;rw [Q9c (by rw [he];decide)] at hS;exact ⟨_,rfl,GQ.halt (fr':=fr) (g':=g) (N':=N+1) (hX.trans (Q7Q he)) (Nat.le_refl _) rfl hS.sp⟩)|(rw [arr_no (by rw [he];decide)] at hS;exact ⟨_,rfl,GQ.halt (fr':=fr) (g':=g) (N':=N+1) (hX.trans (Q7Q he)) (Nat.le_refl _) rfl hS.sp⟩)))
          | (refine zcf ?_
             all_goals (refine Zaa ?_)
             all_goals (first|(refine Qi ?_)|(refine Qm ?_)|(refine Q5 rfl rfl (fun hc=> ?_) (fun hc=> ?_)))
             all_goals (refine Zad ?_)
             all_goals
              first
              | (refine zct ?_
                 all_goals (refine Qv ?_)
                 refine Q34 8 12 (by kernel_rfl) ?_ ?_
                 · skip
                   all_goals (refine zC [(0,none),(1,none),(2,none),(3,none),(4,none),(5,none),(6,none),(7,none),(8,some none),(9,none),(10,none),(11,none),(12,some (some [])),(13,some (some [])),(14,some none)] ?_;have hS:=hS.drew;refine Zbu ?_;refine zf0 ?_;refine Zax ?_;refine QJ hS vw rfl fd (by simp) (by simp) ?_;intro b2 o2 hel2;refine Zac ?_;refine Q1p hS hel2 rfl fd rfl rfl ?_;refine Zac ?_;refine zf0 ?_;refine Zac ?_;refine zl hS ?_;refine Zay ?_;refine zR3 (c:=Q9w v0 x.k hS fd) (h:=?_);rintro v1 w1 ⟨rfl,hS⟩;refine Zax ?_;refine zxt ?_;refine Zac ?_;refine zxt ?_;refine ZaY ?_;intro p11 w1 hS;refine zt ?_;refine ⟨fun _ h=> (List.not_mem_nil h).elim,?_⟩;refine Q3U ?_;refine Q1g hS rfl rfl (by rfl) fd (by simp) (Q13 _) (by rfl) ?_;intro w1 hS;have hS:=hS.ns;refine ZaZ ?_;refine ZbN ?_;refine Qv ?_)
                   all_goals (refine Qv ?_;have hS:St cx _ (gX p z fr g N h out (vSl sv v0::blk p11 182 (h.get v0 x.k).1.cells::iBlk p3 x vr va::L)):=hS.sp;refine Zag ?_;refine QJ hS vw rfl fd (by simp) (by simp) ?_;intro b3 o3 hel3;refine Yac ?_;refine Q1 hS hel3 rfl fd rfl rfl rfl ?_)
                   all_goals (first|(refine Q11 ?_)|(refine Q18 ?_)|(refine Qu rfl rfl (fun hc=> ?_) (fun hc=> ?_)))
                   all_goals (refine Zak ?_)
                   all_goals (first|refine zgn ?_|(refine zgy ?_;(first|(refine Q11 ?_)|(refine Q18 ?_)|(refine Qu rfl rfl (fun hc=> ?_) (fun hc=> ?_)))))
                   all_goals (refine ZaL ?_)
                   all_goals
                    first
                    | (refine zct ?_
                       all_goals (refine Qv ?_;have hX:=Qeo (m:=m) (s:=msOf h g fr inp out fu) (x:=x) (by omega) hv (by first|exact .inl (by omega)|exact .inr (by show (h.get v0 x.k).2≠0;omega));refine ZaX ?_)
                       all_goals ((first|exact ⟨_,rfl,GQ.lost (hXl hv) hS fun _ _ hS=> hS.sp⟩|exact ⟨_,rfl,GQ.lost hX hS fun _ _ hS=> hS.sp⟩)))
                    | (refine zcf ?_
                       all_goals refine zsk ?_)
                   all_goals (refine Qv ?_;have hX:=x6_go (m:=m) (s:=msOf h g fr inp out fu) (x:=x) (by omega) hv (by omega) (show (h.get v0 x.k).2=0 by omega);refine Zag ?_;refine zv hS ?_;refine zB1 hS [_,_,_,_] ?_;intro b1 w1 hS;have hS:St cx _ (vSl (.slice (some ⟨b1,0,none⟩) 1 1) (h.get v0 x.k).1::gX p z fr g N h out L):=(by have hS:=St.slOf (T:=182) (es:=4) (css:=[(h.get v0 x.k).1].map Val.cells) hS rfl (by simp [Val.cells]) rfl;exact hS.sp);refine zR2 (c:=gP_c (vs:=[(h.get v0 x.k).1]) (by omega) (by simp only [List.length_cons,List.length_nil];omega) hS) (h:=?_);rintro v1 w1 ⟨rfl,tv,hS⟩;refine Zai ?_;(first|exact ⟨_,rfl,GQ.lost (hXl hv) hS fun _ _ hS=> hS.sp⟩|exact ⟨_,rfl,GQ.lost hX hS fun _ _ hS=> hS.sp⟩|exact ⟨_,rfl,GQ.lost (hX.trans (Q3n he)) hS fun _ _ hS=> hS.sp⟩|exact ⟨_,rfl,GQ.lost (hX.trans (Q2p he2 he)) hS fun _ _ hS=> hS.sp⟩|exact ⟨_,rfl,GQ.go (fr':=fr) (g':=g) (h':=h.shut v0) (out':=out) hX hi (Nat.le_succ N) rfl hS.sp⟩|exact ⟨_,rfl,GQ.go (fr':=fr) (g':=g) (h':=h.set v0 x.k y0) (out':=out) hX hi (Nat.le_succ N) rfl hS.sp⟩|exact ⟨_,rfl,GQ.go (fr':=fr) (g':=g) (h':=h.set v0 n0 (intV c0)) (out':=out) (hX.trans (Q1t hk4 he)) hi (Nat.le_succ N) rfl hS.sp⟩|exact ⟨_,rfl,GQ.go (fr':=fr) (g':=g.push tv [(h.get v0 x.k).1]) (h':=h) (out':=out) hX hi (Nat.le_succ N) rfl hS.sp⟩))
                 · skip
                   all_goals (refine zC [(0,none),(1,none),(2,none),(3,none),(4,none),(5,none),(6,none),(7,none),(12,some (some [5,7])),(8,some none),(9,none),(10,none),(11,none),(13,some (some [])),(14,some none)] ?_;have hS:=hS.drew;refine Zbu ?_;refine zf0 ?_;refine Zax ?_;refine QJ hS vw rfl fd (by simp) (by simp) ?_;intro b2 o2 hel2;refine Zac ?_;refine Q1p hS hel2 rfl fd rfl rfl ?_;refine Zac ?_;refine zf0 ?_;refine Zac ?_;refine zl hS ?_;refine ZaY ?_;intro p11 w1 hS;refine zt ?_;refine ⟨List.forall_mem_cons.2 ⟨(by (exact Q4z hS hel2 rfl fd rfl rfl)),List.forall_mem_cons.2 ⟨(by first|(exact Q4z hS hel2 rfl fd rfl rfl)|(exact QK hS rfl fd rfl)),fun _ h=> (List.not_mem_nil h).elim⟩⟩,?_⟩)
                   all_goals (refine s_cf ?_;refine zR3 (c:=Q9w v0 x.k hS fd) (h:=?_);rintro v1 w1 ⟨rfl,hS⟩;refine Zax ?_;refine zxt ?_;refine Zac ?_;refine zxt ?_;refine Zal ?_;refine Q1g hS rfl rfl (by rfl) fd (by simp) (Q13 _) (by rfl) ?_;intro w1 hS;have hS:=hS.ns;refine ZaZ ?_;refine ZbN ?_;refine Zbo ?_;have hS:St cx _ (gX p z fr g N h out (vSl sv v0::blk p11 182 (h.get v0 x.k).1.cells::iBlk p3 x vr va::L)):=hS.sp;refine Zag ?_;refine QJ hS vw rfl fd (by simp) (by simp) ?_;intro b3 o3 hel3;refine Yac ?_;refine Q1 hS hel3 rfl fd rfl rfl rfl ?_)
                   all_goals (first|(refine Q11 ?_)|(refine Q18 ?_)|(refine Qu rfl rfl (fun hc=> ?_) (fun hc=> ?_)))
                   all_goals (refine Zak ?_)
                   all_goals (first|refine zgn ?_|(refine zgy ?_;(first|(refine Q11 ?_)|(refine Q18 ?_)|(refine Qu rfl rfl (fun hc=> ?_) (fun hc=> ?_)))))
                   all_goals (refine ZaL ?_)
                   all_goals
                    first
                    | (refine zct ?_
                       all_goals (refine Qv ?_;have hX:=Qeo (m:=m) (s:=msOf h g fr inp out fu) (x:=x) (by omega) hv (by first|exact .inl (by omega)|exact .inr (by show (h.get v0 x.k).2≠0;omega));refine ZaX ?_)
                       all_goals ((first|exact ⟨_,rfl,GQ.lost (hXl hv) hS fun _ _ hS=> hS.sp⟩|exact ⟨_,rfl,GQ.lost hX hS fun _ _ hS=> hS.sp⟩)))
                    | (refine zcf ?_
                       all_goals refine zsk ?_)
                   all_goals (refine Qv ?_;have hX:=x6_go (m:=m) (s:=msOf h g fr inp out fu) (x:=x) (by omega) hv (by omega) (show (h.get v0 x.k).2=0 by omega);refine Zag ?_;refine zv hS ?_;refine zB1 hS [_,_,_,_] ?_;intro b1 w1 hS;have hS:St cx _ (vSl (.slice (some ⟨b1,0,none⟩) 1 1) (h.get v0 x.k).1::gX p z fr g N h out L):=(by have hS:=St.slOf (T:=182) (es:=4) (css:=[(h.get v0 x.k).1].map Val.cells) hS rfl (by simp [Val.cells]) rfl;exact hS.sp);refine zR2 (c:=gP_c (vs:=[(h.get v0 x.k).1]) (by omega) (by simp only [List.length_cons,List.length_nil];omega) hS) (h:=?_);rintro v1 w1 ⟨rfl,tv,hS⟩;refine Zai ?_)
                   all_goals ((first|exact ⟨_,rfl,GQ.lost (hXl hv) hS fun _ _ hS=> hS.sp⟩|exact ⟨_,rfl,GQ.lost hX hS fun _ _ hS=> hS.sp⟩|exact ⟨_,rfl,GQ.lost (hX.trans (Q3n he)) hS fun _ _ hS=> hS.sp⟩|exact ⟨_,rfl,GQ.lost (hX.trans (Q2p he2 he)) hS fun _ _ hS=> hS.sp⟩|exact ⟨_,rfl,GQ.go (fr':=fr) (g':=g) (h':=h.shut v0) (out':=out) hX hi (Nat.le_succ N) rfl hS.sp⟩|exact ⟨_,rfl,GQ.go (fr':=fr) (g':=g) (h':=h.set v0 x.k y0) (out':=out) hX hi (Nat.le_succ N) rfl hS.sp⟩|exact ⟨_,rfl,GQ.go (fr':=fr) (g':=g) (h':=h.set v0 n0 (intV c0)) (out':=out) (hX.trans (Q1t hk4 he)) hi (Nat.le_succ N) rfl hS.sp⟩|exact ⟨_,rfl,GQ.go (fr':=fr) (g':=g.push tv [(h.get v0 x.k).1]) (h':=h) (out':=out) hX hi (Nat.le_succ N) rfl hS.sp⟩)))
              | (refine zcf ?_
                 all_goals (refine Zaa ?_)
                 all_goals (first|(refine Qi ?_)|(refine Qm ?_)|(refine Q5 rfl rfl (fun hc=> ?_) (fun hc=> ?_)))
                 all_goals (refine Zad ?_)
                 all_goals
                  first
                  | (refine zct ?_
                     all_goals (refine Zab ?_;refine zf0 ?_;refine zl hS ?_;refine zB1 hS [_] ?_;intro b1 w1 hS)
                     all_goals (have hS:St cx _ (sl 3 1 (.slice (some ⟨b1,0,none⟩) 1 1) (Qk [x.b])::gX p z fr g N h out (vSl sv v0::iBlk p3 x vr va::L)):=(by have hS:=St.slOf (T:=3) (es:=1) (css:=Qk [x.b]) hS rfl (by simp [Qk]) rfl;exact hS.sp);refine zR2 (c:=gV_c (by omega) hS) (h:=?_);rintro v1 w1 (⟨y0,sn,hn0,ho2,rfl,hS⟩|⟨hn0,rfl,hS⟩))
                     all_goals (refine Zbc ?_;refine ZbE ?_;refine zD (ci 24 [21,23]) ?_;have hS:=hS.drew;refine zm ?_;refine znt ?_;refine Zak ?_;(first|(refine zgn ?_)|(refine zgy ?_;refine QJ hS vw rfl fd (by simp) (by simp) ?_;intro b3 o3 hel3));refine Yag ?_;(first|(refine zgn ?_)|(refine zgy ?_;refine Q1 hS hel3 rfl fd rfl rfl rfl ?_)))
                     all_goals (first|refine zgn ?_|(refine zgy ?_;(first|(refine Q11 ?_)|(refine Q18 ?_)|(refine Qu rfl rfl (fun hc=> ?_) (fun hc=> ?_)))))
                     all_goals (refine Zbt ?_;refine Zbh ?_;refine Yaa ?_;(first|(refine zgn ?_)|(refine zgy ?_;refine QJ hS vw rfl fd (by simp) (by simp) ?_;intro b4 o4 hel4));(first|(refine zgn ?_)|(refine zgy ?_;refine Q1p hS hel4 rfl fd rfl rfl ?_));refine Zap ?_;refine Yaa ?_;(first|(refine zgn ?_)|(refine zgy ?_;refine QJ hS vw rfl fd (by simp) (by simp) ?_;intro b5 o5 hel5));(first|(refine zgn ?_)|(refine zgy ?_;refine Q1p hS hel5 rfl fd rfl rfl ?_));(first|(refine zgn ?_)|(refine zgy ?_;refine zR4 (c:=Qfd v0 x.k y0 hS fd) (h:=?_);rintro v1 w1 ⟨rfl,hS⟩;have hS:=hS.ns)))
                     all_goals (first|refine zgn ?_|(refine zgy ?_;(first|(refine Q11 ?_)|(refine Q18 ?_)|(refine Qu rfl rfl (fun hc=> ?_) (fun hc=> ?_)))))
                     all_goals (refine ZaL ?_)
                     all_goals
                      first
                      | (refine zct ?_
                         all_goals (refine Qv ?_;have hX:MS.ins m (msOf h g fr inp out fu) x= .lost:=(by first|exact Qen (by omega) hv (.inl hn0)|exact Qen (by omega) hv (.inr (by omega))|exact x7_lost2 (by omega) hv hn0 (.inr (show h.setC v0 x.k y0≠0 by omega)));refine ZaX ?_)
                         all_goals ((first|exact ⟨_,rfl,GQ.lost (hXl hv) hS fun _ _ hS=> hS.sp⟩|exact ⟨_,rfl,GQ.lost hX hS fun _ _ hS=> hS.sp⟩)))
                      | (refine zcf ?_
                         all_goals refine zsk ?_)
                     all_goals (refine Qv ?_;have hX:=x7_go (m:=m) (s:=msOf h g fr inp out fu) (x:=x) (by omega) hv hn0 (by omega) (show h.setC v0 x.k y0=0 by omega);refine ZaX ?_)
                     all_goals ((first|exact ⟨_,rfl,GQ.lost (hXl hv) hS fun _ _ hS=> hS.sp⟩|exact ⟨_,rfl,GQ.lost hX hS fun _ _ hS=> hS.sp⟩|exact ⟨_,rfl,GQ.lost (hX.trans (Q3n he)) hS fun _ _ hS=> hS.sp⟩|exact ⟨_,rfl,GQ.lost (hX.trans (Q2p he2 he)) hS fun _ _ hS=> hS.sp⟩|exact ⟨_,rfl,GQ.go (fr':=fr) (g':=g) (h':=h.shut v0) (out':=out) hX hi (Nat.le_succ N) rfl hS.sp⟩|exact ⟨_,rfl,GQ.go (fr':=fr) (g':=g) (h':=h.set v0 x.k y0) (out':=out) hX hi (Nat.le_succ N) rfl hS.sp⟩)))
                  | (refine zcf ?_
                     all_goals (refine Zaa ?_)
                     all_goals (first|(refine Qi ?_)|(refine Qm ?_)|(refine Q5 rfl rfl (fun hc=> ?_) (fun hc=> ?_)))
                     all_goals (refine Zad ?_)
                     all_goals
                      first
                      | (refine zct ?_
                         all_goals (refine Zab ?_;refine zf0 ?_;refine zl hS ?_;refine zB1 hS [_] ?_;intro b1 w1 hS)
                         all_goals (have hS:St cx _ (sl 3 1 (.slice (some ⟨b1,0,none⟩) 1 1) (Qk [x.b])::gX p z fr g N h out (vSl sv v0::iBlk p3 x vr va::L)):=(by have hS:=St.slOf (T:=3) (es:=1) (css:=Qk [x.b]) hS rfl (by simp [Qk]) rfl;exact hS.sp);refine zR2 (c:=gN_c (by omega) hS) (h:=?_);rintro v1 w1 (⟨n0,sn,hn0,ho2,rfl,hS⟩|⟨hn0,sn,rfl,hS⟩))
                         all_goals (refine ZbF ?_)
                         all_goals
                          first
                          | (refine zct ?_
                             all_goals (refine Qv ?_;have hX:=x9_n (m:=m) (s:=msOf h g fr inp out fu) (x:=x) (by omega) hv hn0;refine ZaX ?_)
                             all_goals ((first|exact ⟨_,rfl,GQ.lost (hXl hv) hS fun _ _ hS=> hS.sp⟩|exact ⟨_,rfl,GQ.lost hX hS fun _ _ hS=> hS.sp⟩)))
                          | (refine zcf ?_
                             all_goals refine zsk ?_)
                         all_goals (refine Qv ?_)
                         refine Q34 9 13 (by kernel_rfl) ?_ ?_
                         · skip
                           all_goals (refine zC [(0,none),(1,none),(2,none),(3,none),(4,none),(5,none),(6,none),(7,none),(8,none),(9,some none),(10,none),(11,none),(12,none),(13,some (some [])),(14,some (some [])),(15,some none)] ?_;have hS:=hS.drew;refine Zbu ?_;refine zf0 ?_;refine Zax ?_;refine QJ hS vw rfl fd (by simp) (by simp) ?_;intro b3 o3 hel3;refine Zac ?_;refine Q1p hS hel3 rfl fd rfl rfl ?_;refine Zax ?_;refine QJ hS vw rfl fd (by simp) (by simp) ?_;intro b4 o4 hel4;refine Zac ?_;refine Qs hS hel4 rfl fd rfl rfl rfl ?_;refine Zay ?_;refine zR3 (c:=Q9w v0 n0 hS fd) (h:=?_);rintro v1 w1 ⟨rfl,hS⟩;refine Zax ?_;refine zxt ?_;refine Zac ?_;refine zxt ?_;refine ZaY ?_;intro p17 w1 hS;refine zt ?_;refine ⟨fun _ h=> (List.not_mem_nil h).elim,?_⟩;refine Q3U ?_;refine Q1g hS rfl rfl (by rfl) fd (by simp) (Q13 _) (by rfl) ?_;intro w1 hS;have hS:=hS.ns;refine ZaZ ?_;refine zm ?_;refine zt ?_)
                           all_goals (refine zcn ?_;refine Zbo ?_;have hS:St cx _ (gX p z fr g N h out (vSl sv v0::blk p17 182 (h.get v0 n0).1.cells::iBlk p3 x vr va::L)):=hS.sp;have hX:=x9_p (m:=m) (s:=msOf h g fr inp out fu) (x:=x) (by omega) hv hn0;refine ZaI ?_;refine QJ hS vw rfl fd (by simp) (by simp) ?_;intro b5 o5 hel5;refine Q1p hS hel5 rfl fd rfl rfl ?_;refine zm ?_)
                           all_goals (refine zR3 (c:=Q7g (v:=v0) (e:=(h.get v0 n0).2) (show St cx _ (gX p z fr g N h out _) from hS)) (h:=?_);rintro v1 w1 (⟨hk4,he,rfl,hS⟩|⟨hk4,he,rfl,hS⟩|⟨he,rfl,hS⟩))
                           all_goals (refine ZaT ?_)
                           all_goals (refine Yaq ?_)
                           all_goals (refine zn ?_)
                           all_goals
                            first
                            | (refine zct ?_
                               all_goals (refine Zbl ?_)
                               all_goals ((first|exact ⟨_,rfl,GQ.lost (hXl hv) hS fun _ _ hS=> hS.sp⟩|exact ⟨_,rfl,GQ.lost hX hS fun _ _ hS=> hS.sp⟩|exact ⟨_,rfl,GQ.lost (hX.trans (Q3n he)) hS fun _ _ hS=> hS.sp⟩|exact ⟨_,rfl,GQ.lost (hX.trans (Q2p he2 he)) hS fun _ _ hS=> hS.sp⟩|exact ⟨_,rfl,GQ.go (fr':=fr) (g':=g) (h':=h.shut v0) (out':=out) hX hi (Nat.le_succ N) rfl hS.sp⟩|exact ⟨_,rfl,GQ.go (fr':=fr) (g':=g) (h':=h.set v0 x.k y0) (out':=out) hX hi (Nat.le_succ N) rfl hS.sp⟩|exact ⟨_,rfl,GQ.go (fr':=fr) (g':=g) (h':=h.set v0 n0 (intV c0)) (out':=out) (hX.trans (Q1t hk4 he)) hi (Nat.le_succ N) rfl hS.sp⟩|exact ⟨_,rfl,GQ.go (fr':=fr) (g':=g.push tv [(h.get v0 x.k).1]) (h':=h) (out':=out) hX hi (Nat.le_succ N) rfl hS.sp⟩|exact ⟨_,rfl,GQ.go (fr':=fr) (g':=g.push tv [(h.get v0 n0).1]) (h':=h) (out':=out) (hX.trans (Q1t hk4 he)) hi (Nat.le_succ N) rfl hS.sp⟩|exact ⟨_,rfl,GQ.go (fr':=fr) (g':=g.push tv [intV (h.len v0).1]) (h':=h) (out':=out) (hX.trans (Q1t hk4 he)) hi (Nat.le_succ N) rfl hS.sp⟩|exact ⟨_,rfl,GQ.go (fr':=fr) (g':=g.push tv [h.putV v0 3 (QZ vs)]) (h':=h.tuple v0 vs) (out':=out) (hX.trans (Q3r he)) hi (Nat.le_refl _) rfl hS.sp⟩|exact ⟨_,rfl,GQ.go (fr':=fr) (g':=g.push tv [h.arrV v0 n0]) (h':=h.arr v0 n0) (out':=out) (hX.trans (Q3r he)) hi (Nat.le_refl _) rfl hS.sp⟩|exact ⟨_,rfl,GQ.halt (fr':=fr) (g':=g) (N':=N) hX (Nat.le_succ N) rfl hS.sp⟩|exact ⟨_,rfl,GQ.halt (fr':=fr) (g':=g) (N':=N) (hX.trans (Q7O hk4 he)) (Nat.le_succ N) rfl hS.sp⟩)))
                            | (refine zcf ?_
                               all_goals refine zsk ?_)
                           all_goals (refine Zab ?_;refine zv hS ?_;refine zB1 hS [_,_,_,_] ?_;intro b1 w1 hS;have hS:St cx _ (vSl (.slice (some ⟨b1,0,none⟩) 1 1) (h.get v0 n0).1::gX p z fr g N h out L):=(by have hS:=St.slOf (T:=182) (es:=4) (css:=[(h.get v0 n0).1].map Val.cells) hS rfl (by simp [Val.cells]) rfl;exact hS.sp);refine zR2 (c:=gP_c (vs:=[(h.get v0 n0).1]) (by omega) (by simp only [List.length_cons,List.length_nil];omega) hS) (h:=?_);rintro v1 w1 ⟨rfl,tv,hS⟩;refine Zai ?_;(first|exact ⟨_,rfl,GQ.lost (hXl hv) hS fun _ _ hS=> hS.sp⟩|exact ⟨_,rfl,GQ.lost hX hS fun _ _ hS=> hS.sp⟩|exact ⟨_,rfl,GQ.lost (hX.trans (Q3n he)) hS fun _ _ hS=> hS.sp⟩|exact ⟨_,rfl,GQ.lost (hX.trans (Q2p he2 he)) hS fun _ _ hS=> hS.sp⟩|exact ⟨_,rfl,GQ.go (fr':=fr) (g':=g) (h':=h.shut v0) (out':=out) hX hi (Nat.le_succ N) rfl hS.sp⟩|exact ⟨_,rfl,GQ.go (fr':=fr) (g':=g) (h':=h.set v0 x.k y0) (out':=out) hX hi (Nat.le_succ N) rfl hS.sp⟩|exact ⟨_,rfl,GQ.go (fr':=fr) (g':=g) (h':=h.set v0 n0 (intV c0)) (out':=out) (hX.trans (Q1t hk4 he)) hi (Nat.le_succ N) rfl hS.sp⟩|exact ⟨_,rfl,GQ.go (fr':=fr) (g':=g.push tv [(h.get v0 x.k).1]) (h':=h) (out':=out) hX hi (Nat.le_succ N) rfl hS.sp⟩|exact ⟨_,rfl,GQ.go (fr':=fr) (g':=g.push tv [(h.get v0 n0).1]) (h':=h) (out':=out) (hX.trans (Q1t hk4 he)) hi (Nat.le_succ N) rfl hS.sp⟩))
                         · skip
                           all_goals (refine zC [(0,none),(1,none),(2,none),(3,none),(4,none),(5,none),(6,none),(7,none),(8,none),(13,some (some [5,8])),(9,some none),(10,none),(11,none),(12,none),(14,some (some [])),(15,some none)] ?_;have hS:=hS.drew;refine Zbu ?_;refine zf0 ?_;refine Zax ?_;refine QJ hS vw rfl fd (by simp) (by simp) ?_;intro b3 o3 hel3;refine Zac ?_;refine Q1p hS hel3 rfl fd rfl rfl ?_;refine Zax ?_;refine QJ hS vw rfl fd (by simp) (by simp) ?_;intro b4 o4 hel4;refine Zac ?_;refine Qs hS hel4 rfl fd rfl rfl rfl ?_;refine ZaY ?_;intro p17 w1 hS;refine zt ?_;refine ⟨List.forall_mem_cons.2 ⟨(by (exact Q4z hS hel3 rfl fd rfl rfl)),List.forall_mem_cons.2 ⟨(by first|(exact Q4z hS hel3 rfl fd rfl rfl)|(exact Qp (j:=0) hS hel4 rfl fd rfl rfl rfl)),fun _ h=> (List.not_mem_nil h).elim⟩⟩,?_⟩)
                           all_goals (refine s_cf ?_;refine zR3 (c:=Q9w v0 n0 hS fd) (h:=?_);rintro v1 w1 ⟨rfl,hS⟩;refine Zax ?_;refine zxt ?_;refine Zac ?_;refine zxt ?_;refine Zal ?_;refine Q1g hS rfl rfl (by rfl) fd (by simp) (Q13 _) (by rfl) ?_;intro w1 hS;have hS:=hS.ns;refine ZaZ ?_;refine ZbN ?_;refine Zbo ?_;have hS:St cx _ (gX p z fr g N h out (vSl sv v0::blk p17 182 (h.get v0 n0).1.cells::iBlk p3 x vr va::L)):=hS.sp;have hX:=x9_p (m:=m) (s:=msOf h g fr inp out fu) (x:=x) (by omega) hv hn0;refine ZaI ?_;refine QJ hS vw rfl fd (by simp) (by simp) ?_;intro b5 o5 hel5;refine Q1p hS hel5 rfl fd rfl rfl ?_;refine zm ?_)
                           all_goals (refine zR3 (c:=Q7g (v:=v0) (e:=(h.get v0 n0).2) (show St cx _ (gX p z fr g N h out _) from hS)) (h:=?_);rintro v1 w1 (⟨hk4,he,rfl,hS⟩|⟨hk4,he,rfl,hS⟩|⟨he,rfl,hS⟩))
                           all_goals (refine ZaT ?_)
                           all_goals (refine Yaq ?_)
                           all_goals (refine zn ?_)
                           all_goals
                            first
                            | (refine zct ?_
                               all_goals (refine Zbl ?_)
                               all_goals ((first|exact ⟨_,rfl,GQ.lost (hXl hv) hS fun _ _ hS=> hS.sp⟩|exact ⟨_,rfl,GQ.lost hX hS fun _ _ hS=> hS.sp⟩|exact ⟨_,rfl,GQ.lost (hX.trans (Q3n he)) hS fun _ _ hS=> hS.sp⟩|exact ⟨_,rfl,GQ.lost (hX.trans (Q2p he2 he)) hS fun _ _ hS=> hS.sp⟩|exact ⟨_,rfl,GQ.go (fr':=fr) (g':=g) (h':=h.shut v0) (out':=out) hX hi (Nat.le_succ N) rfl hS.sp⟩|exact ⟨_,rfl,GQ.go (fr':=fr) (g':=g) (h':=h.set v0 x.k y0) (out':=out) hX hi (Nat.le_succ N) rfl hS.sp⟩|exact ⟨_,rfl,GQ.go (fr':=fr) (g':=g) (h':=h.set v0 n0 (intV c0)) (out':=out) (hX.trans (Q1t hk4 he)) hi (Nat.le_succ N) rfl hS.sp⟩|exact ⟨_,rfl,GQ.go (fr':=fr) (g':=g.push tv [(h.get v0 x.k).1]) (h':=h) (out':=out) hX hi (Nat.le_succ N) rfl hS.sp⟩|exact ⟨_,rfl,GQ.go (fr':=fr) (g':=g.push tv [(h.get v0 n0).1]) (h':=h) (out':=out) (hX.trans (Q1t hk4 he)) hi (Nat.le_succ N) rfl hS.sp⟩|exact ⟨_,rfl,GQ.go (fr':=fr) (g':=g.push tv [intV (h.len v0).1]) (h':=h) (out':=out) (hX.trans (Q1t hk4 he)) hi (Nat.le_succ N) rfl hS.sp⟩|exact ⟨_,rfl,GQ.go (fr':=fr) (g':=g.push tv [h.putV v0 3 (QZ vs)]) (h':=h.tuple v0 vs) (out':=out) (hX.trans (Q3r he)) hi (Nat.le_refl _) rfl hS.sp⟩|exact ⟨_,rfl,GQ.go (fr':=fr) (g':=g.push tv [h.arrV v0 n0]) (h':=h.arr v0 n0) (out':=out) (hX.trans (Q3r he)) hi (Nat.le_refl _) rfl hS.sp⟩|exact ⟨_,rfl,GQ.halt (fr':=fr) (g':=g) (N':=N) hX (Nat.le_succ N) rfl hS.sp⟩|exact ⟨_,rfl,GQ.halt (fr':=fr) (g':=g) (N':=N) (hX.trans (Q7O hk4 he)) (Nat.le_succ N) rfl hS.sp⟩)))
                            | (refine zcf ?_
                               all_goals refine zsk ?_)
                           all_goals (refine Zab ?_;refine zv hS ?_;refine zB1 hS [_,_,_,_] ?_;intro b1 w1 hS;have hS:St cx _ (vSl (.slice (some ⟨b1,0,none⟩) 1 1) (h.get v0 n0).1::gX p z fr g N h out L):=(by have hS:=St.slOf (T:=182) (es:=4) (css:=[(h.get v0 n0).1].map Val.cells) hS rfl (by simp [Val.cells]) rfl;exact hS.sp);refine zR2 (c:=gP_c (vs:=[(h.get v0 n0).1]) (by omega) (by simp only [List.length_cons,List.length_nil];omega) hS) (h:=?_);rintro v1 w1 ⟨rfl,tv,hS⟩;refine Zai ?_)
                           all_goals ((first|exact ⟨_,rfl,GQ.lost (hXl hv) hS fun _ _ hS=> hS.sp⟩|exact ⟨_,rfl,GQ.lost hX hS fun _ _ hS=> hS.sp⟩|exact ⟨_,rfl,GQ.lost (hX.trans (Q3n he)) hS fun _ _ hS=> hS.sp⟩|exact ⟨_,rfl,GQ.lost (hX.trans (Q2p he2 he)) hS fun _ _ hS=> hS.sp⟩|exact ⟨_,rfl,GQ.go (fr':=fr) (g':=g) (h':=h.shut v0) (out':=out) hX hi (Nat.le_succ N) rfl hS.sp⟩|exact ⟨_,rfl,GQ.go (fr':=fr) (g':=g) (h':=h.set v0 x.k y0) (out':=out) hX hi (Nat.le_succ N) rfl hS.sp⟩|exact ⟨_,rfl,GQ.go (fr':=fr) (g':=g) (h':=h.set v0 n0 (intV c0)) (out':=out) (hX.trans (Q1t hk4 he)) hi (Nat.le_succ N) rfl hS.sp⟩|exact ⟨_,rfl,GQ.go (fr':=fr) (g':=g.push tv [(h.get v0 x.k).1]) (h':=h) (out':=out) hX hi (Nat.le_succ N) rfl hS.sp⟩|exact ⟨_,rfl,GQ.go (fr':=fr) (g':=g.push tv [(h.get v0 n0).1]) (h':=h) (out':=out) (hX.trans (Q1t hk4 he)) hi (Nat.le_succ N) rfl hS.sp⟩)))
                      | (refine zcf ?_
                         all_goals (refine Zaa ?_)
                         all_goals (first|(refine Qi ?_)|(refine Qm ?_)|(refine Q5 rfl rfl (fun hc=> ?_) (fun hc=> ?_)))
                         all_goals (refine Zad ?_)
                         all_goals
                          first
                          | (refine zct ?_
                             all_goals (refine Zab ?_;refine zf0 ?_;refine zl hS ?_;refine zf0 ?_;refine zl hS ?_;refine zB2 hS [_,_] ?_;intro b1 w1 hS)
                             all_goals (have hS:St cx _ (sl 3 1 (.slice (some ⟨b1,0,none⟩) 2 2) (Qk [x.b,x.c])::gX p z fr g N h out (vSl sv v0::iBlk p3 x vr va::L)):=(by have hS:=St.slOf (T:=3) (es:=1) (css:=Qk [x.b,x.c]) hS rfl (by simp [Qk]) rfl;exact hS.sp);refine zR2 (c:=gNN_c (by omega) hS) (h:=?_);rintro v1 w1 (⟨n0,c0,sn,hn0,hc0,ho2,rfl,hS⟩|⟨hn0,sn,rfl,hS⟩))
                             all_goals (refine Zbr ?_;refine znt ?_;refine Zak ?_;(first|(refine zgn ?_)|(refine zgy ?_;refine QJ hS vw rfl fd (by simp) (by simp) ?_;intro b3 o3 hel3));refine Yag ?_;(first|(refine zgn ?_)|(refine zgy ?_;refine Q1 hS hel3 rfl fd rfl rfl rfl ?_)))
                             all_goals (first|refine zgn ?_|(refine zgy ?_;(first|(refine Q11 ?_)|(refine Q18 ?_)|(refine Qu rfl rfl (fun hc=> ?_) (fun hc=> ?_)))))
                             all_goals (refine ZaL ?_)
                             all_goals
                              first
                              | (refine zct ?_
                                 all_goals (refine Qv ?_;have hX:MS.ins m (msOf h g fr inp out fu) x= .lost:=(by first|exact x10_n (by omega) hv hn0|exact (x10_p (by omega) hv hn0 hc0).trans (part_4 (by omega)));refine ZaX ?_)
                                 all_goals ((first|exact ⟨_,rfl,GQ.lost (hXl hv) hS fun _ _ hS=> hS.sp⟩|exact ⟨_,rfl,GQ.lost hX hS fun _ _ hS=> hS.sp⟩)))
                              | (refine zcf ?_
                                 all_goals refine zsk ?_)
                             all_goals (refine Qv ?_;refine zC [(0,none),(1,none),(2,none),(3,none),(4,none),(5,none),(6,none),(7,none),(8,none),(9,none),(10,none),(11,none),(12,none),(13,none),(14,none),(15,none),(16,none),(17,some (some [3])),(18,some none),(19,some none)] ?_;have hS:=hS.drew;refine Zbf ?_;refine QJ hS vw rfl fd (by simp) (by simp) ?_;intro b4 o4 hel4;refine Zac ?_;refine Q1p hS hel4 rfl fd rfl rfl ?_;refine Zax ?_;refine Zaw ?_;refine zf0 ?_;refine Zax ?_;refine QJ hS vw rfl fd (by simp) (by simp) ?_;intro b5 o5 hel5;refine Zac ?_;refine Q1p hS hel5 rfl fd rfl rfl ?_;refine Zax ?_;refine QJ hS vw rfl fd (by simp) (by simp) ?_;intro b6 o6 hel6;refine Zac ?_;refine Qs hS hel6 rfl fd rfl rfl rfl ?_;refine Zax ?_;refine QJ hS vw rfl fd (by simp) (by simp) ?_;intro b7 o7 hel7;refine Zac ?_;refine Qs hS hel7 rfl fd rfl rfl rfl ?_;refine Zac ?_;refine zb2 [_,_,_,_] ?_)
                             all_goals (refine Zal ?_;refine zR4 (c:=Qfd v0 n0 (intV c0) hS fd) (h:=?_);rintro v1 w1 ⟨rfl,hS⟩;have hS:=hS.ns;refine zt ?_;refine ⟨List.forall_mem_cons.2 ⟨(by (exact Q4z hS hel4 rfl fd rfl rfl)),fun _ h=> (List.not_mem_nil h).elim⟩,?_⟩;refine s_cf ?_)
                             all_goals (refine zR3 (c:=Q7g (v:=v0) (e:=h.setC v0 n0 (intV c0)) (show St cx _ (gX p z fr g N (h.set v0 n0 (intV c0)) out _) from hS)) (h:=?_);have hX:=x10_p (m:=m) (s:=msOf h g fr inp out fu) (x:=x) (by omega) hv hn0 hc0;rintro v1 w1 (⟨hk4,he,rfl,hS⟩|⟨hk4,he,rfl,hS⟩|⟨he,rfl,hS⟩))
                             all_goals (refine Zay ?_;refine ZbN ?_;refine Zae ?_)
                             all_goals (first|(first|exact ⟨_,rfl,GQ.lost (hXl hv) hS fun _ _ hS=> hS.sp⟩|exact ⟨_,rfl,GQ.lost hX hS fun _ _ hS=> hS.sp⟩|exact ⟨_,rfl,GQ.lost (hX.trans (Q3n he)) hS fun _ _ hS=> hS.sp⟩|exact ⟨_,rfl,GQ.lost (hX.trans (Q2p he2 he)) hS fun _ _ hS=> hS.sp⟩|exact ⟨_,rfl,GQ.go (fr':=fr) (g':=g) (h':=h.shut v0) (out':=out) hX hi (Nat.le_succ N) rfl hS.sp⟩|exact ⟨_,rfl,GQ.go (fr':=fr) (g':=g) (h':=h.set v0 x.k y0) (out':=out) hX hi (Nat.le_succ N) rfl hS.sp⟩|exact ⟨_,rfl,GQ.go (fr':=fr) (g':=g) (h':=h.set v0 n0 (intV c0)) (out':=out) (hX.trans (Q1t hk4 he)) hi (Nat.le_succ N) rfl hS.sp⟩|exact ⟨_,rfl,GQ.go (fr':=fr) (g':=g.push tv [(h.get v0 x.k).1]) (h':=h) (out':=out) hX hi (Nat.le_succ N) rfl hS.sp⟩|exact ⟨_,rfl,GQ.go (fr':=fr) (g':=g.push tv [(h.get v0 n0).1]) (h':=h) (out':=out) (hX.trans (Q1t hk4 he)) hi (Nat.le_succ N) rfl hS.sp⟩|exact ⟨_,rfl,GQ.go (fr':=fr) (g':=g.push tv [intV (h.len v0).1]) (h':=h) (out':=out) (hX.trans (Q1t hk4 he)) hi (Nat.le_succ N) rfl hS.sp⟩|exact ⟨_,rfl,GQ.go (fr':=fr) (g':=g.push tv [h.putV v0 3 (QZ vs)]) (h':=h.tuple v0 vs) (out':=out) (hX.trans (Q3r he)) hi (Nat.le_refl _) rfl hS.sp⟩|exact ⟨_,rfl,GQ.go (fr':=fr) (g':=g.push tv [h.arrV v0 n0]) (h':=h.arr v0 n0) (out':=out) (hX.trans (Q3r he)) hi (Nat.le_refl _) rfl hS.sp⟩|exact ⟨_,rfl,GQ.halt (fr':=fr) (g':=g) (N':=N) hX (Nat.le_succ N) rfl hS.sp⟩|exact ⟨_,rfl,GQ.halt (fr':=fr) (g':=g) (N':=N) (hX.trans (Q7O hk4 he)) (Nat.le_succ N) rfl hS.sp⟩)|(have hS:=hS;rw [Q9c (by rw [he];decide)] at hS;exact ⟨_,rfl,GQ.halt (fr':=fr) (g':=g) (N':=N+1) (hX.trans (Q7Q he)) (Nat.le_refl _) rfl hS.sp⟩)|(rw [arr_no (by rw [he];decide)] at hS;exact ⟨_,rfl,GQ.halt (fr':=fr) (g':=g) (N':=N+1) (hX.trans (Q7Q he)) (Nat.le_refl _) rfl hS.sp⟩)|(rw [Q7v (by rw [he];decide)] at hS;exact ⟨_,rfl,GQ.halt (fr':=fr) (g':=g) (N':=N) (hX.trans (Q7O hk4 he)) (Nat.le_succ N) rfl hS.sp⟩)))
                          | (refine zcf ?_
                             all_goals refine zsk ?_)
                         all_goals (refine Qv ?_;refine zD (ci 12 [6,11]) ?_;have hS:=hS.drew;refine Zbm ?_;refine zf0 ?_;refine zm ?_;refine QJ hS vw rfl fd (by simp) (by simp) ?_;intro b3 o3 hel3;refine Q1p hS hel3 rfl fd rfl rfl ?_;refine zR2 (c:=rtlen_c v0 hS fd) (h:=?_);rintro v1 w1 ⟨rfl,hS⟩;refine Zbr ?_;refine zm ?_;refine QJ hS vw rfl fd (by simp) (by simp) ?_;intro b5 o5 hel5;refine Q1p hS hel5 rfl fd rfl rfl ?_;refine zm ?_)
                         all_goals (refine zR3 (c:=Q7g (v:=v0) (e:=(h.len v0).2) (show St cx _ (gX p z fr g N h out _) from hS)) (h:=?_);have hX:=x11_p (m:=m) (s:=msOf h g fr inp out fu) (x:=x) (by omega) hv;rintro v1 w1 (⟨hk4,he,rfl,hS⟩|⟨hk4,he,rfl,hS⟩|⟨he,rfl,hS⟩))
                         all_goals (refine ZaT ?_)
                         all_goals (refine Yaq ?_)
                         all_goals (refine zn ?_)
                         all_goals
                          first
                          | (refine zct ?_
                             all_goals (refine Zbl ?_)
                             all_goals ((first|exact ⟨_,rfl,GQ.lost (hXl hv) hS fun _ _ hS=> hS.sp⟩|exact ⟨_,rfl,GQ.lost hX hS fun _ _ hS=> hS.sp⟩|exact ⟨_,rfl,GQ.lost (hX.trans (Q3n he)) hS fun _ _ hS=> hS.sp⟩|exact ⟨_,rfl,GQ.lost (hX.trans (Q2p he2 he)) hS fun _ _ hS=> hS.sp⟩|exact ⟨_,rfl,GQ.go (fr':=fr) (g':=g) (h':=h.shut v0) (out':=out) hX hi (Nat.le_succ N) rfl hS.sp⟩|exact ⟨_,rfl,GQ.go (fr':=fr) (g':=g) (h':=h.set v0 x.k y0) (out':=out) hX hi (Nat.le_succ N) rfl hS.sp⟩|exact ⟨_,rfl,GQ.go (fr':=fr) (g':=g) (h':=h.set v0 n0 (intV c0)) (out':=out) (hX.trans (Q1t hk4 he)) hi (Nat.le_succ N) rfl hS.sp⟩|exact ⟨_,rfl,GQ.go (fr':=fr) (g':=g.push tv [(h.get v0 x.k).1]) (h':=h) (out':=out) hX hi (Nat.le_succ N) rfl hS.sp⟩|exact ⟨_,rfl,GQ.go (fr':=fr) (g':=g.push tv [(h.get v0 n0).1]) (h':=h) (out':=out) (hX.trans (Q1t hk4 he)) hi (Nat.le_succ N) rfl hS.sp⟩|exact ⟨_,rfl,GQ.go (fr':=fr) (g':=g.push tv [intV (h.len v0).1]) (h':=h) (out':=out) (hX.trans (Q1t hk4 he)) hi (Nat.le_succ N) rfl hS.sp⟩|exact ⟨_,rfl,GQ.go (fr':=fr) (g':=g.push tv [h.putV v0 3 (QZ vs)]) (h':=h.tuple v0 vs) (out':=out) (hX.trans (Q3r he)) hi (Nat.le_refl _) rfl hS.sp⟩|exact ⟨_,rfl,GQ.go (fr':=fr) (g':=g.push tv [h.arrV v0 n0]) (h':=h.arr v0 n0) (out':=out) (hX.trans (Q3r he)) hi (Nat.le_refl _) rfl hS.sp⟩|exact ⟨_,rfl,GQ.halt (fr':=fr) (g':=g) (N':=N) hX (Nat.le_succ N) rfl hS.sp⟩|exact ⟨_,rfl,GQ.halt (fr':=fr) (g':=g) (N':=N) (hX.trans (Q7O hk4 he)) (Nat.le_succ N) rfl hS.sp⟩)))
                          | (refine zcf ?_
                             all_goals refine zsk ?_)
                         all_goals (refine Zas ?_;refine zb2 [_,_,_,_] ?_;refine zB1 hS [_,_,_,_] ?_;intro b1 w1 hS;have hS:St cx _ (vSl (.slice (some ⟨b1,0,none⟩) 1 1) (intV (h.len v0).1)::gX p z fr g N h out L):=(by have hS:=St.slOf (T:=182) (es:=4) (css:=[intV (h.len v0).1].map Val.cells) hS rfl (by simp [Val.cells]) rfl;exact hS.sp);refine zR2 (c:=gP_c (vs:=[intV (h.len v0).1]) (by omega) (by simp only [List.length_cons,List.length_nil];omega) hS) (h:=?_);rintro v1 w1 ⟨rfl,tv,hS⟩;refine Zai ?_)
                         all_goals ((first|exact ⟨_,rfl,GQ.lost (hXl hv) hS fun _ _ hS=> hS.sp⟩|exact ⟨_,rfl,GQ.lost hX hS fun _ _ hS=> hS.sp⟩|exact ⟨_,rfl,GQ.lost (hX.trans (Q3n he)) hS fun _ _ hS=> hS.sp⟩|exact ⟨_,rfl,GQ.lost (hX.trans (Q2p he2 he)) hS fun _ _ hS=> hS.sp⟩|exact ⟨_,rfl,GQ.go (fr':=fr) (g':=g) (h':=h.shut v0) (out':=out) hX hi (Nat.le_succ N) rfl hS.sp⟩|exact ⟨_,rfl,GQ.go (fr':=fr) (g':=g) (h':=h.set v0 x.k y0) (out':=out) hX hi (Nat.le_succ N) rfl hS.sp⟩|exact ⟨_,rfl,GQ.go (fr':=fr) (g':=g) (h':=h.set v0 n0 (intV c0)) (out':=out) (hX.trans (Q1t hk4 he)) hi (Nat.le_succ N) rfl hS.sp⟩|exact ⟨_,rfl,GQ.go (fr':=fr) (g':=g.push tv [(h.get v0 x.k).1]) (h':=h) (out':=out) hX hi (Nat.le_succ N) rfl hS.sp⟩|exact ⟨_,rfl,GQ.go (fr':=fr) (g':=g.push tv [(h.get v0 n0).1]) (h':=h) (out':=out) (hX.trans (Q1t hk4 he)) hi (Nat.le_succ N) rfl hS.sp⟩|exact ⟨_,rfl,GQ.go (fr':=fr) (g':=g.push tv [intV (h.len v0).1]) (h':=h) (out':=out) (hX.trans (Q1t hk4 he)) hi (Nat.le_succ N) rfl hS.sp⟩))))))))
end Go.Proofs.YteflkifmgnpbhaaGreat
namespace Go.Lir
def inI (n:Int):Prop:=-9223372036854775808≤n∧n≤9223372036854775807
theorem Qeq (n:Int):wr n=if n % 18446744073709551616≥9223372036854775808 then n % 18446744073709551616 - 18446744073709551616 else n % 18446744073709551616:=by
 unfold wr IntKind.wrap
 simp [IntKind.bits,IntKind.signed]
theorem Qer (n:Int):wr n=Int.bmod n (2 ^ 64):=by
 rw [Qeq,Int.bmod_def]
 have e:((2 ^ 64:Nat):Int)=18446744073709551616:=rfl
 rw [e]
 split <;> split <;> omega
theorem wr_in {n:Int}(h:inI n):wr n=n:=Q3M h.1 h.2
theorem Qep (n:Int):inI (wr n):=by
 unfold inI;rw [Qeq];split <;> omega
theorem wr_add (a b c:Int) (h:∃q,a=b+18446744073709551616*q):wr (a+c)=wr (b+c):=by
 obtain ⟨q,rfl⟩:=h
 rw [Qeq,Qeq]
 have:(b+18446744073709551616*q+c) % 18446744073709551616=(b+c) % 18446744073709551616:=by omega
 rw [this]
theorem wr_mod (n:Int):∃q,wr n=n+18446744073709551616*q:=by
 rw [Qeq]
 split
 · exact ⟨-(n / 18446744073709551616) - 1,by omega⟩
 · exact ⟨-(n / 18446744073709551616),by omega⟩
theorem wr_congr {a b:Int}(h:∃q,a=b+18446744073709551616*q):wr a=wr b:=by
 have:=wr_add a b 0 h
 simpa using this
theorem QdJ {a b:Int}(hb:inI b) (h0:b≠0):wr (a - wr (wr (a.tdiv b)*b))=a.tmod b:=by
 have e:a.tmod b=a - a.tdiv b*b:=by have:=Int.mul_tdiv_add_tmod a b;rw [Int.mul_comm] at this;omega
 have hin:inI (a.tmod b):=by
  have h1:=Int.natAbs_tmod a b
  have h2:=Nat.mod_lt a.natAbs (show b.natAbs > 0 by omega)
  unfold inI at*
  omega
 obtain ⟨q1,h1⟩:=wr_mod (a.tdiv b)
 obtain ⟨q2,h2⟩:=wr_mod (wr (a.tdiv b)*b)
 rw [←wr_in hin,e]
 refine wr_congr ⟨-(q1*b) - q2,?_⟩
 rw [h2,h1]
 rw [Int.add_mul,Int.mul_sub,Int.mul_neg,Int.mul_assoc]
 omega

theorem QdG {n:Nat}(x y:BitVec n):(x|||y) - (x &&& y)=x ^^^ y:=by
 have h1:(x ^^^ y) &&& (x &&& y)=0#n:=by
  ext i hi
  simp
  cases x[i] <;> cases y[i] <;> simp
 have h2:(x ^^^ y)+(x &&& y)=(x ^^^ y)|||(x &&& y):=BitVec.add_eq_or_of_and_eq_zero _ _ h1
 have h3:(x ^^^ y)|||(x &&& y)=x|||y:=by
  ext i hi
  simp
  cases x[i] <;> cases y[i] <;> simp
 rw [←h3,←h2,BitVec.add_sub_cancel]

theorem Q8u (r:BitVec 64):IntKind.i64.wrap r.toNat=r.toInt:=by
 show wr _=_
 rw [Qer,BitVec.toInt_eq_toNat_bmod]

theorem Qee (a b:Int):wr (bitI .or .i64 a b - bitI .and .i64 a b)=bitI .xor .i64 a b:=by
 unfold bitI
 simp only []
 have e1:=Q8u (BitVec.ofInt 64 a|||BitVec.ofInt 64 b)
 have e2:=Q8u (BitVec.ofInt 64 a &&& BitVec.ofInt 64 b)
 have e3:=Q8u (BitVec.ofInt 64 a ^^^ BitVec.ofInt 64 b)
 refine Eq.trans (congrArg wr (congr (congrArg _ e1) e2)) (Eq.trans ?_ e3.symm)
 rw [←QdG,BitVec.toInt_sub,Qer]
theorem opF_in (k a b:Int):inI (opF k a b).1:=by
 have h0:inI 0:=by unfold inI;omega
 have h1:inI 1:=by unfold inI;omega
 have hd:inI (divF a b).1:=by
  unfold divF
  split
  · exact h0
  · split <;> exact Qep _
 unfold opF
 repeat' split
 all_goals first|exact Qep _|exact h0|exact h1|exact hd|(unfold bitI;exact Qep _)|(simp;done)
end Go.Lir
namespace Go.Proofs.YteflkifmgnpbhaaGreat
open Go.Lir
set_option maxHeartbeats 1000000
attribute [local irreducible] LC.wp Q0 Qh Qc retQ Qw LO.wp Q3 Calls
set_option linter.unusedSimpArgs false
set_option linter.unusedVariables false
theorem opOf_c (k a b : Int) (ha :inI a) (hb:inI b) (w:World):Rets Tryz.prog R_OpOf [.int .i64 k, .int .i64 a, .int .i64 b] w fun v w'=> v= .tuple #[.int .i64 (opF k a b).1, .bool (opF k a b).2]∧w'=w:=by
 have hb':=hb
 have ha':=ha
 unfold inI at ha' hb'
 have hm:=fun h=> QdJ (a:=a) hb h
 have hx:=Qee a b
 have hd:b≠0→divF a b=(wr (a.tdiv b),true):=by
  intro h
  unfold divF
  rw [if_neg h]
  split
  · rename_i h1;subst h1;rw [Int.tdiv_neg,Int.tdiv_one,Int.zero_sub]
  · rfl
 have g4:b≠0→opF 4 a b=(wr (a.tdiv b),true):=fun h=> by simp [opF,hd h]
 have g5:b≠0→opF 5 a b=(a.tmod b,true):=fun h=> by simp [opF,hd h,hm h]
 have z4:b=0→opF 4 a b=(0,false):=by rintro rfl;rfl
 have z5:b=0→opF 5 a b=(0,false):=by rintro rfl;rfl
 have e4:opF 4 (-9223372036854775808) (-1)=(-9223372036854775808,true):=by decide
 have e5:opF 5 (-9223372036854775808) (-1)=(0,true):=by decide
 have g9:opF 9 a b=(wr (bitI .or .i64 a b - bitI .and .i64 a b),true):=by rw [hx];rfl
 all_goals refine lgo tyD Tryz.func122 ?_
 all_goals (refine Zab ?_;refine Zad ?_;refine Zaf ?_;refine ZbA ?_;refine Zaa ?_)
 all_goals (first|(refine Qi ?_)|(refine Qm ?_)|(refine Q5 rfl rfl (fun hc=> ?_) (fun hc=> ?_)))
 all_goals (refine Zad ?_)
 all_goals
  first
  | (refine zct ?_
     all_goals (refine Zas ?_;refine Qau rfl rfl ?_;refine Zbi ?_)
     all_goals (refine ⟨_,rfl,?_,rfl⟩;first|(rw [‹a=_›,‹b=-1›,‹k=4›,e4])|(rw [‹a=_›,‹b=-1›,‹k=5›,e5])|(rw [‹k=4›,g4 ‹¬b=0›])|(rw [‹k=5›,g5 ‹¬b=0›])|(rw [‹k=4›,z4 ‹b=0›])|(rw [‹k=5›,z5 ‹b=0›])|(rw [‹k=9›,g9])|simp [opF, *]))
  | (refine zcf ?_
     all_goals (refine Zaa ?_)
     all_goals (first|(refine Qi ?_)|(refine Qm ?_)|(refine Q5 rfl rfl (fun hc=> ?_) (fun hc=> ?_)))
     all_goals (refine Zad ?_)
     all_goals
      first
      | (refine zct ?_
         all_goals (refine Zas ?_;refine Ybe ?_;refine Zbi ?_)
         all_goals (refine ⟨_,rfl,?_,rfl⟩;first|(rw [‹a=_›,‹b=-1›,‹k=4›,e4])|(rw [‹a=_›,‹b=-1›,‹k=5›,e5])|(rw [‹k=4›,g4 ‹¬b=0›])|(rw [‹k=5›,g5 ‹¬b=0›])|(rw [‹k=4›,z4 ‹b=0›])|(rw [‹k=5›,z5 ‹b=0›])|(rw [‹k=9›,g9])|simp [opF, *]))
      | (refine zcf ?_
         all_goals (refine Zaa ?_)
         all_goals (first|(refine Qi ?_)|(refine Qm ?_)|(refine Q5 rfl rfl (fun hc=> ?_) (fun hc=> ?_)))
         all_goals (refine Zad ?_)
         all_goals
          first
          | (refine zct ?_
             all_goals (refine Zas ?_;refine Yaz ?_;refine Zbi ?_)
             all_goals (refine ⟨_,rfl,?_,rfl⟩;first|(rw [‹a=_›,‹b=-1›,‹k=4›,e4])|(rw [‹a=_›,‹b=-1›,‹k=5›,e5])|(rw [‹k=4›,g4 ‹¬b=0›])|(rw [‹k=5›,g5 ‹¬b=0›])|(rw [‹k=4›,z4 ‹b=0›])|(rw [‹k=5›,z5 ‹b=0›])|(rw [‹k=9›,g9])|simp [opF, *]))
          | (refine zcf ?_
             all_goals (refine Zbn ?_)
             all_goals (first|(refine Qi ?_)|(refine Qm ?_)|(refine Q5 rfl rfl (fun hc=> ?_) (fun hc=> ?_)))
             all_goals (refine Zad ?_)
             all_goals
              first
              | (refine zct ?_
                 all_goals (refine zsk ?_))
              | (refine zcf ?_
                 all_goals (refine Q1d ?_)
                 all_goals (first|(refine Qi ?_)|(refine Qm ?_)|(refine Q5 rfl rfl (fun hc=> ?_) (fun hc=> ?_)))
                 all_goals (refine zm ?_)
                 all_goals (refine zn ?_))
             all_goals
              first
              | (refine zct ?_
                 all_goals (refine Zah ?_)
                 all_goals (first|(refine Qi ?_)|(refine Qm ?_)|(refine Q5 rfl rfl (fun hc=> ?_) (fun hc=> ?_)))
                 all_goals (refine zn ?_)
                 all_goals
                  first
                  | (refine zct ?_
                     all_goals (refine Zbx ?_)
                     all_goals (refine ⟨_,rfl,?_,rfl⟩;first|(rw [‹a=_›,‹b=-1›,‹k=4›,e4])|(rw [‹a=_›,‹b=-1›,‹k=5›,e5])|(rw [‹k=4›,g4 ‹¬b=0›])|(rw [‹k=5›,g5 ‹¬b=0›])|(rw [‹k=4›,z4 ‹b=0›])|(rw [‹k=5›,z5 ‹b=0›])|(rw [‹k=9›,g9])|simp [opF, *]))
                  | (refine zcf ?_
                     all_goals (refine zsk ?_))
                 all_goals (refine Zah ?_)
                 all_goals (first|(refine Qi ?_)|(refine Qm ?_)|(refine Q5 rfl rfl (fun hc=> ?_) (fun hc=> ?_)))
                 all_goals (refine Zak ?_)
                 all_goals (first|refine zgn ?_|(refine zgy ?_;(first|(refine Qi ?_)|(refine Qm ?_)|(refine Q5 rfl rfl (fun hc=> ?_) (fun hc=> ?_)))))
                 all_goals ((first|refine Q1h rfl (by (conv=> lhs;whnf);first|done|exact rfl) ?_|refine Q1y rfl (by (conv=> lhs;whnf);first|done|exact rfl) ?_);refine zn ?_)
                 all_goals
                  first
                  | (refine zct ?_
                     all_goals (refine Zah ?_)
                     all_goals (refine Yao ?_)
                     all_goals (refine zn ?_)
                     all_goals
                      first
                      | (refine zct ?_
                         all_goals (refine Zbx ?_)
                         all_goals (refine ⟨_,rfl,?_,rfl⟩;first|(rw [‹a=_›,‹b=-1›,‹k=4›,e4])|(rw [‹a=_›,‹b=-1›,‹k=5›,e5])|(rw [‹k=4›,g4 ‹¬b=0›])|(rw [‹k=5›,g5 ‹¬b=0›])|(rw [‹k=4›,z4 ‹b=0›])|(rw [‹k=5›,z5 ‹b=0›])|(rw [‹k=9›,g9])|simp [opF, *]))
                      | (refine zcf ?_
                         all_goals (refine zsk ?_))
                     all_goals (refine Zbx ?_)
                     all_goals (refine ⟨_,rfl,?_,rfl⟩;first|(rw [‹a=_›,‹b=-1›,‹k=4›,e4])|(rw [‹a=_›,‹b=-1›,‹k=5›,e5])|(rw [‹k=4›,g4 ‹¬b=0›])|(rw [‹k=5›,g5 ‹¬b=0›])|(rw [‹k=4›,z4 ‹b=0›])|(rw [‹k=5›,z5 ‹b=0›])|(rw [‹k=9›,g9])|simp [opF, *]))
                  | (refine zcf ?_
                     all_goals (refine zsk ?_))
                 all_goals (refine Zah ?_)
                 all_goals (refine Yao ?_)
                 all_goals (refine zn ?_)
                 all_goals
                  first
                  | (refine zct ?_
                     all_goals (refine Zas ?_;refine s_quo rfl rfl (by omega) ?_;refine Zbi ?_)
                     all_goals (refine ⟨_,rfl,?_,rfl⟩;first|(rw [‹a=_›,‹b=-1›,‹k=4›,e4])|(rw [‹a=_›,‹b=-1›,‹k=5›,e5])|(rw [‹k=4›,g4 ‹¬b=0›])|(rw [‹k=5›,g5 ‹¬b=0›])|(rw [‹k=4›,z4 ‹b=0›])|(rw [‹k=5›,z5 ‹b=0›])|(rw [‹k=9›,g9])|simp [opF, *]))
                  | (refine zcf ?_
                     all_goals (refine zsk ?_))
                 all_goals (refine Zas ?_;refine s_rem rfl rfl (by omega) ?_;refine Zbi ?_)
                 all_goals (refine ⟨_,rfl,?_,rfl⟩;first|(rw [‹a=_›,‹b=-1›,‹k=4›,e4])|(rw [‹a=_›,‹b=-1›,‹k=5›,e5])|(rw [‹k=4›,g4 ‹¬b=0›])|(rw [‹k=5›,g5 ‹¬b=0›])|(rw [‹k=4›,z4 ‹b=0›])|(rw [‹k=5›,z5 ‹b=0›])|(rw [‹k=9›,g9])|simp [opF, *]))
              | (refine zcf ?_
                 all_goals (refine Zaa ?_)
                 all_goals (first|(refine Qi ?_)|(refine Qm ?_)|(refine Q5 rfl rfl (fun hc=> ?_) (fun hc=> ?_)))
                 all_goals (refine Zad ?_)
                 all_goals
                  first
                  | (refine zct ?_
                     all_goals (refine ZbL ?_)
                     all_goals (first|(refine Q1k ?_)|(refine Q1w ?_)|(refine QA rfl rfl (fun hc=> ?_) (fun hc=> ?_)))
                     all_goals (refine zn ?_)
                     all_goals
                      first
                      | (refine zct ?_
                         all_goals (refine Zag ?_)
                         all_goals (refine zn ?_))
                      | (refine zcf ?_
                         all_goals (refine zsk ?_))
                     all_goals (refine Zas ?_;refine ZaD ?_)
                     all_goals (refine ⟨_,rfl,?_,rfl⟩;first|(rw [‹a=_›,‹b=-1›,‹k=4›,e4])|(rw [‹a=_›,‹b=-1›,‹k=5›,e5])|(rw [‹k=4›,g4 ‹¬b=0›])|(rw [‹k=5›,g5 ‹¬b=0›])|(rw [‹k=4›,z4 ‹b=0›])|(rw [‹k=5›,z5 ‹b=0›])|(rw [‹k=9›,g9])|simp [opF, *]))
                  | (refine zcf ?_
                     all_goals (refine Zaa ?_)
                     all_goals (first|(refine Qi ?_)|(refine Qm ?_)|(refine Q5 rfl rfl (fun hc=> ?_) (fun hc=> ?_)))
                     all_goals (refine Zad ?_)
                     all_goals
                      first
                      | (refine zct ?_
                         all_goals (refine ZbL ?_)
                         all_goals (first|(refine Qi ?_)|(refine Qm ?_)|(refine Q5 rfl rfl (fun hc=> ?_) (fun hc=> ?_)))
                         all_goals (refine zn ?_)
                         all_goals
                          first
                          | (refine zct ?_
                             all_goals (refine Zag ?_)
                             all_goals (refine zn ?_))
                          | (refine zcf ?_
                             all_goals (refine zsk ?_))
                         all_goals (refine Zas ?_;refine ZaD ?_)
                         all_goals (refine ⟨_,rfl,?_,rfl⟩;first|(rw [‹a=_›,‹b=-1›,‹k=4›,e4])|(rw [‹a=_›,‹b=-1›,‹k=5›,e5])|(rw [‹k=4›,g4 ‹¬b=0›])|(rw [‹k=5›,g5 ‹¬b=0›])|(rw [‹k=4›,z4 ‹b=0›])|(rw [‹k=5›,z5 ‹b=0›])|(rw [‹k=9›,g9])|simp [opF, *]))
                      | (refine zcf ?_
                         all_goals (refine Zaa ?_)
                         all_goals (first|(refine Qi ?_)|(refine Qm ?_)|(refine Q5 rfl rfl (fun hc=> ?_) (fun hc=> ?_)))
                         all_goals (refine Zad ?_)
                         all_goals
                          first
                          | (refine zct ?_
                             all_goals (refine Zas ?_;refine s_and rfl rfl ?_;refine Zbi ?_)
                             all_goals (refine ⟨_,rfl,?_,rfl⟩;first|(rw [‹a=_›,‹b=-1›,‹k=4›,e4])|(rw [‹a=_›,‹b=-1›,‹k=5›,e5])|(rw [‹k=4›,g4 ‹¬b=0›])|(rw [‹k=5›,g5 ‹¬b=0›])|(rw [‹k=4›,z4 ‹b=0›])|(rw [‹k=5›,z5 ‹b=0›])|(rw [‹k=9›,g9])|simp [opF, *]))
                          | (refine zcf ?_
                             all_goals (refine Zaa ?_)
                             all_goals (first|(refine Qi ?_)|(refine Qm ?_)|(refine Q5 rfl rfl (fun hc=> ?_) (fun hc=> ?_)))
                             all_goals (refine Zad ?_)
                             all_goals
                              first
                              | (refine zct ?_
                                 all_goals (refine Zas ?_;refine s_or rfl rfl ?_;refine Zbg ?_;refine s_and rfl rfl ?_;refine Ybe ?_;refine Zbi ?_)
                                 all_goals (refine ⟨_,rfl,?_,rfl⟩;first|(rw [‹a=_›,‹b=-1›,‹k=4›,e4])|(rw [‹a=_›,‹b=-1›,‹k=5›,e5])|(rw [‹k=4›,g4 ‹¬b=0›])|(rw [‹k=5›,g5 ‹¬b=0›])|(rw [‹k=4›,z4 ‹b=0›])|(rw [‹k=5›,z5 ‹b=0›])|(rw [‹k=9›,g9])|simp [opF, *]))
                              | (refine zcf ?_
                                 all_goals (refine zsk ?_)))))))))
 all_goals (refine Zbx ?_;refine ⟨_,rfl,?_,rfl⟩;first|(rw [‹a=_›,‹b=-1›,‹k=4›,e4])|(rw [‹a=_›,‹b=-1›,‹k=5›,e5])|(rw [‹k=4›,g4 ‹¬b=0›])|(rw [‹k=5›,g5 ‹¬b=0›])|(rw [‹k=4›,z4 ‹b=0›])|(rw [‹k=5›,z5 ‹b=0›])|(rw [‹k=9›,g9])|simp [opF, *])
theorem opOf_s {cx:Cx}{w:World}{L:List Res}{k a b:Int}(ha:inI a) (hb:inI b) (hS:St cx w L):Rets Tryz.prog R_OpOf [.int .i64 k, .int .i64 a, .int .i64 b] w fun v w'=> v= .tuple #[.int .i64 (opF k a b).1, .bool (opF k a b).2]∧St cx w' L:=
 (opOf_c k a b ha hb w).mono fun _ _ ⟨h1,h2⟩=> ⟨h1,by rw [h2];exact hS⟩
end Go.Proofs.YteflkifmgnpbhaaGreat
namespace Go.Lir
section
variable {m:Module}{s:MS}{x:Ins}
theorem x2_n (h2:x.op=2) (hn:s.g.num x.a=none∨s.g.num x.b=none):s.ins m x= .lost:=by
 rw [Qek h2]
 cases ha:s.g.num x.a with
 | none=> rfl
 | some n=> rw [Qb rfl,Q1D (hn.resolve_left (by rw [ha];exact fun h=> by cases h))]
theorem x2_h {a b:Int}(h2:x.op=2) (ha:s.g.num x.a=some a) (hb:s.g.num x.b=some b) (hd:(opF x.k a b).2=false):s.ins m x= .halt 1:=by rw [Qek h2,Qb ha,Qb hb,if_pos hd]
theorem x2_g {a b:Int}(h2:x.op=2) (ha:s.g.num x.a=some a) (hb:s.g.num x.b=some b) (hd:(opF x.k a b).2=true):s.ins m x= .go (s.put [intV (opF x.k a b).1]):=by rw [Qek h2,Qb ha,Qb hb,if_neg (by rw [hd];decide)]
end
end Go.Lir
namespace Go.Proofs.YteflkifmgnpbhaaGreat
open Go.Lir
set_option maxHeartbeats 1000000
attribute [local irreducible] LC.wp Q0 Qh Qc retQ Qw LO.wp Q3 Calls
set_option linter.unusedSimpArgs false
set_option linter.unusedVariables false
variable {cx:Cx}{w:World}{L:List Res}{p N:Nat}{z:GZ}{fr:List FrmV}{g:FrmV}{h:HpS}{out inp:List Int}{fu:Nat}{m:Module}
theorem big_g1 (hS:St cx w (sl 182 4 g.vv (g.vals.map Val.cells)::sl 3 1 g.rv (Qk g.regs)::big FrmV.res1 fr::L)):St cx w (big FrmV.res1 (fr++[g])::L):=
 St.big_push (f:=FrmV.res1) (x:=g) (St.star' hS)
theorem Qfm:((fr.map FrmV.abs).reverse).length=fr.length:=by rw [List.length_reverse,List.length_map]
theorem iC1 {l:List Int}{n:Int}:Qk l++[[.int .i64 n]]=Qk (l++[n]):=by unfold Qk;rw [List.map_append];rfl
attribute [local irreducible] Frm.val Frm.num Frm.args Frm.rgs Frm.reg intsV MS.ins MS.call HpS.get HpS.set HpS.setC HpS.len HpS.code HpS.put HpS.putV HpS.open HpS.shut HpS.full HpS.openV HpS.can HpS.tuple HpS.arr HpS.arrC HpS.arrV opF QZ
theorem gins_c {x : Ins} {cs :List Value}(hx:insR.at cx cs x) (hfn:funcR.sl cx z.fn m.funcs) (hi:intR.sl cx z.iv inp) (hop:1≤x.op∧x.op≤14) (hk:x.op=14→0≤x.k∧x.k < m.funcs.length) (h6:x.regs.length≤100) (h8:x.args.length≤100) (hgi:g.i≤1000) (hf:fr.length≤900) (hn:g.vals.length≤800000) (hrn:g.regs.length≤800000) (hN:N≤99999) (hol:out.length≤2000) (hrg:∀v∈g.vals,inI v.n) (hS:St cx w (gX p z fr g N h out L)):
 Rets Tryz.prog Qcs [.pointer (some ⟨p,0,none⟩), .agg ⟨cs⟩] w (GQ p z N fu h out ((msOf h g.nx fr inp out fu).ins m x) cx L):=by
 obtain ⟨vr,va,rfl,hr,ha⟩:=Q1a hx
 have hil:=hi.len
 have hfl:=hfn.len
 have hnn:g.nx.vals.length≤800000:=hn
 all_goals refine lgo tyD Tryz.func74 ?_
 all_goals (refine Zaq ?_;intro p3 w1 hS;refine Zaz ?_;obtain ⟨lv,rv,ho,hS⟩:=Q1T (p:=p) (z:=z) (fr:=fr) (g:=g) (N:=N) (h:=h) (out:=out) (L:=iBlk p3 x vr va::L) hS.sp;refine Zag ?_;refine zR1 (c:=Q3s (by omega) hS) (h:=?_);rintro v1 w1 ⟨b9,o9,rfl,hel,hS⟩;refine Zar ?_;refine Q1 hS hel rfl fd (Qg fr g) (Qo fr g) rfl ?_;refine zad ?_;rw [show ((g.i:Int)+1)=((g.i+1:Nat):Int) by omega];refine Zar ?_;refine Q10 hS hel rfl vw fd (Qg fr g) (Qo fr g) (by omega) rfl (Q2T (g':=g.nx) rfl) ?_;intro w8 hS;have hS:=hS.ns;have hS:St cx _ (gX p z fr g.nx N h out (iBlk p3 x vr va::L)):=QB ho hS.sp;refine ZbH ?_;refine zf0 ?_;refine zl hS ?_;refine ZbJ ?_;refine Zaa ?_)
 all_goals (first|(refine Qi ?_)|(refine Qm ?_)|(refine Q5 rfl rfl (fun hc=> ?_) (fun hc=> ?_)))
 all_goals (refine Zad ?_)
 all_goals
  first
  | (refine zct ?_
     all_goals (refine Zab ?_;refine zf0 ?_;refine zl hS ?_;refine zb2 [_,_,_,_] ?_;refine zB1 hS [_,_,_,_] ?_;intro b1 w1 hS;have hS:St cx _ (vSl (.slice (some ⟨b1,0,none⟩) 1 1) (intV x.n)::gX p z fr g.nx N h out L):=(by have hS:=St.slOf (T:=182) (es:=4) (css:=[intV x.n].map Val.cells) hS rfl (by simp [Val.cells]) rfl;exact hS.sp);refine zR2 (c:=gP_c (vs:=[intV x.n]) (by omega) (by simp only [List.length_cons,List.length_nil];omega) hS) (h:=?_);rintro v1 w1 ⟨rfl,tv,hS⟩;have hG:GQ p z N fu h out ((msOf h g.nx fr inp out fu).ins m x) cx L (.int .i64 0) _:=GQ.go (g':=g.nx.push tv [intV x.n]) (xins_1 (by omega)) hi (Nat.le_succ N) rfl hS;refine Zai ?_)
     all_goals (exact ⟨_,rfl,hG⟩))
  | (refine zcf ?_
     all_goals (refine Zaa ?_)
     all_goals (first|(refine Qi ?_)|(refine Qm ?_)|(refine Q5 rfl rfl (fun hc=> ?_) (fun hc=> ?_)))
     all_goals (refine Zad ?_)
     all_goals
      first
      | (refine zct ?_
         all_goals (refine Zab ?_;refine zf0 ?_;refine zl hS ?_;refine zf0 ?_;refine zl hS ?_;refine zB2 hS [_,_] ?_;intro b1 w1 hS)
         all_goals (have hS:St cx _ (sl 3 1 (.slice (some ⟨b1,0,none⟩) 2 2) (Qk [x.a,x.b])::gX p z fr g.nx N h out (iBlk p3 x vr va::L)):=(by have hS:=St.slOf (T:=3) (es:=1) (css:=Qk [x.a,x.b]) hS rfl (by simp [Qk]) rfl;exact hS.sp);refine zR2 (c:=gNN_c (by omega) hS) (h:=?_);rintro v1 w1 (⟨na,nb,sn,hna,hnb,ho2,rfl,hS⟩|⟨hna,sn,rfl,hS⟩))
         all_goals (refine ZbF ?_)
         all_goals
          first
          | (refine zct ?_
             all_goals (refine Qv ?_;have hG:GQ p z N fu h out ((msOf h g.nx fr inp out fu).ins m x) cx L (.int .i64 2) _:=GQ.lost (x2_n (by omega) hna) hS fun _ _ hS=> hS.sp;refine ZaX ?_)
             all_goals (exact ⟨_,rfl,hG⟩))
          | (refine zcf ?_
             all_goals refine zsk ?_)
         all_goals (refine Qv ?_;refine zD (ci 14 [8,13]) ?_;have hS:=hS.drew;refine zf0 ?_;refine zl hS ?_;refine zm ?_;refine QJ hS vw rfl fd (by simp) (by simp) ?_;intro b2 o2 hel2;refine Qs hS hel2 rfl fd rfl rfl rfl ?_;refine zm ?_;refine QJ hS vw rfl fd (by simp) (by simp) ?_;intro b3 o3 hel3;refine Qs hS hel3 rfl fd rfl rfl rfl ?_)
         all_goals (obtain ⟨v8,hv8,e8⟩:=QbU hna;obtain ⟨v7,hv7,e7⟩:=QbU hnb;refine zR3 (c:=opOf_s (by rw [←e8];exact hrg v8 hv8) (by rw [←e7];exact hrg v7 hv7) hS) (h:=?_);rintro v1 w1 ⟨rfl,hS⟩;cases hd:(opF x.k na nb).2)
         all_goals (refine ZbF ?_)
         all_goals
          first
          | (refine zct ?_
             all_goals (refine Zab ?_;refine zR2 (c:=gE_c 1 (show St cx _ (gX p z fr g.nx N h out _) from hS)) (h:=?_);rintro v1 w1 ⟨rfl,hS⟩;have hG:GQ p z N fu h out ((msOf h g.nx fr inp out fu).ins m x) cx L (.int .i64 1) _:=GQ.halt (fr':=fr) (g':=g.nx) (N':=N) (x2_h (by omega) hna hnb hd) (Nat.le_succ N) rfl hS.sp;refine Zai ?_)
             all_goals (exact ⟨_,rfl,hG⟩))
          | (refine zcf ?_
             all_goals refine zsk ?_)
         all_goals (refine Zas ?_;refine zb2 [_,_,_,_] ?_;refine zB1 hS [_,_,_,_] ?_;intro b1 w1 hS;have hS:St cx _ (vSl (.slice (some ⟨b1,0,none⟩) 1 1) (intV (opF x.k na nb).1)::gX p z fr g.nx N h out L):=(by have hS:=St.slOf (T:=182) (es:=4) (css:=[intV (opF x.k na nb).1].map Val.cells) hS rfl (by simp [Val.cells]) rfl;exact hS.sp);refine zR2 (c:=gP_c (vs:=[intV (opF x.k na nb).1]) (by omega) (by simp only [List.length_cons,List.length_nil];omega) hS) (h:=?_);rintro v1 w1 ⟨rfl,tv,hS⟩;have hG:GQ p z N fu h out ((msOf h g.nx fr inp out fu).ins m x) cx L (.int .i64 0) _:=GQ.go (g':=g.nx.push tv [intV (opF x.k na nb).1]) (x2_g (by omega) hna hnb hd) hi (Nat.le_succ N) rfl hS;refine Zai ?_)
         all_goals (exact ⟨_,rfl,hG⟩))
      | (refine zcf ?_
         all_goals (refine Zaa ?_)
         all_goals (first|(refine Qi ?_)|(refine Qm ?_)|(refine Q5 rfl rfl (fun hc=> ?_) (fun hc=> ?_)))
         all_goals (refine Zad ?_)
         all_goals
          first
          | (refine zct ?_
             all_goals (refine ZbG ?_;refine zf0 ?_)
             all_goals (refine zR1 (c:=rtopen_c (N:=N) (s:=h) (by omega) hS fd) (h:=?_);rintro v1 w1 ⟨rfl,hS⟩;have hS:=hS.ns;cases hfu:h.full)
             all_goals (refine Zbw ?_;intro p8 w1 hS;refine Q1g hS rfl rfl (by rfl) fd (by simp) (Q13 _) (by rfl) ?_;intro w1 hS;have hS:=hS.ns;refine ZaM ?_;refine ZaU ?_)
             all_goals
              first
              | (refine zct ?_
                 all_goals (refine Zab ?_;rw [open_no hfu] at hS;have hS:St cx _ (gX p z fr g.nx (N+1) h out L):=hS.sp;refine zR2 (c:=gE_c 6 hS) (h:=?_);rintro v1 w1 ⟨rfl,hS⟩;have hG:GQ p z N fu h out ((msOf h g.nx fr inp out fu).ins m x) cx L (.int .i64 1) _:=GQ.halt ((Qcw (by omega)).trans (new_no hfu)) (Nat.le_refl _) rfl hS;refine Zai ?_)
                 all_goals (exact ⟨_,rfl,hG⟩))
              | (refine zcf ?_
                 all_goals refine zsk ?_)
             all_goals (refine Qv ?_;obtain ⟨lv,rv,ho,hS⟩:=Q1T (p:=p) (z:=z) (fr:=fr) (g:=g.nx) (N:=N+1) (h:=h.open) (out:=out) (L:=blk p8 182 h.openV.cells::iBlk p3 x vr va::L) hS.sp)
             refine Q34 1 9 (by kernel_rfl) ?_ ?_
             · skip
               refine Q34 3 9 (by kernel_rfl) ?_ ?_
               · skip
                 all_goals (refine zC [(0,none),(2,none),(7,none),(8,none),(1,some (some [8])),(3,some (some [8])),(4,none),(5,none),(6,none),(9,some (some [6])),(10,some none),(11,none),(12,none),(13,some none)] ?_;have hS:=hS.drew;refine Zbf ?_;refine zf0 ?_;refine Zac ?_;refine zl hS ?_;refine Zal ?_;refine zR1 (c:=Q3s (by omega) (show St cx _ (gL p z lv h.open.left fr g.nx _) from hS.sp)) (h:=?_);rintro v1 w1 ⟨b8,o8,rfl,hel8,hS⟩;refine Zbe ?_;refine zR1 (c:=Q3s (by omega) (show St cx _ (gL p z lv h.open.left fr g.nx _) from hS.sp)) (h:=?_);rintro v1 w1 ⟨b7,o7,rfl,hel7,hS⟩;refine ZaS ?_;refine ZbI ?_;refine Q1 hS hel7 rfl fd (Qg fr g.nx) (Qo fr g.nx) rfl ?_;refine Zal ?_;refine zB1 hS [_] ?_;intro b1 w1 hS;refine zt ?_;refine ⟨List.forall_mem_cons.2 ⟨(by (exact Qp hS hel7 rfl fd (Qg fr g.nx) (Qo fr g.nx) rfl)),fun _ h=> (List.not_mem_nil h).elim⟩,?_⟩)
                 all_goals (refine s_cf ?_;refine Q24 Q5e (.inl Q9a) hS vw vw (v:=g.rv) (css:=Qk g.regs) fd (hS.srcB fd (by rfl) (by simp [oneC])) (by rw [List.length_map];simp only [List.length_cons,List.length_nil];omega) ?_;intro v7 w7 hS;have hS:=hS.ns;refine Zac ?_;refine Zaw ?_;refine Yac ?_;refine Zay ?_;refine Q10 hS hel8 rfl vw fd (Qg fr g.nx) (Qo fr g.nx) (by omega) (hS.oneC (v:=v7) (css:=Qk g.regs++[[.int .i64 h.openV.region]]) fd) (Q2T (g':=⟨g.f,g.b,g.i+1,g.vv,g.vals,v7,g.regs++[h.openV.region]⟩) rfl) ?_;intro w8 hS;have hS:=hS.ns;rw [iC1] at hS;have hS:St cx _ (gX p z fr ⟨g.f,g.b,g.i+1,g.vv,g.vals,v7,g.regs++[h.openV.region]⟩ (N+1) h.open out (blk p8 182 h.openV.cells::L)):=QB ho hS.sp;refine Zav ?_;refine Zab ?_;refine zv hS ?_;refine zB1 hS [_,_,_,_] ?_;intro b1 w1 hS;have hS:St cx _ (vSl (.slice (some ⟨b1,0,none⟩) 1 1) h.openV::gX p z fr ⟨g.f,g.b,g.i+1,g.vv,g.vals,v7,g.regs++[h.openV.region]⟩ (N+1) h.open out L):=(by have hS:=St.slOf (T:=182) (es:=4) (css:=[h.openV].map Val.cells) hS rfl (by simp [Val.cells]) rfl;exact hS.sp);refine zR2 (c:=gP_c (vs:=[h.openV]) (by omega) (by simp only [List.length_cons,List.length_nil];omega) hS) (h:=?_);rintro v1 w1 ⟨rfl,tv,hS⟩;have hG:GQ p z N fu h out ((msOf h g.nx fr inp out fu).ins m x) cx L (.int .i64 0) _:=GQ.go ((Qcw (by omega)).trans (QfD hfu)) hi (Nat.le_refl _) rfl hS)
                 all_goals (refine Zai ?_;exact ⟨_,rfl,hG⟩)
               · skip
                 all_goals (refine zC [(0,none),(2,none),(7,none),(8,none),(1,some (some [8])),(9,some (some [])),(3,some (some [8])),(4,none),(5,none),(6,none),(10,some none),(11,none),(12,none),(13,some none)] ?_;have hS:=hS.drew;refine Zbf ?_;refine zf0 ?_;refine Zac ?_;refine zl hS ?_;refine Zal ?_;refine zR1 (c:=Q3s (by omega) (show St cx _ (gL p z lv h.open.left fr g.nx _) from hS.sp)) (h:=?_);rintro v1 w1 ⟨b8,o8,rfl,hel8,hS⟩;refine Zbe ?_;refine zB1 hS [_] ?_;intro b1 w1 hS;refine zt ?_;refine ⟨fun _ h=> (List.not_mem_nil h).elim,?_⟩;refine Q3U ?_;refine zR1 (c:=Q3s (by omega) (show St cx _ (gL p z lv h.open.left fr g.nx _) from hS.sp)) (h:=?_);rintro v1 w1 ⟨b7,o7,rfl,hel7,hS⟩;refine ZaS ?_;refine ZbI ?_;refine Q1 hS hel7 rfl fd (Qg fr g.nx) (Qo fr g.nx) rfl ?_;refine Zay ?_;refine Q24 Q5e (.inl Q9a) hS vw vw (v:=g.rv) (css:=Qk g.regs) fd (hS.srcB fd (by rfl) (by simp [oneC])) (by rw [List.length_map];simp only [List.length_cons,List.length_nil];omega) ?_;intro v7 w7 hS;have hS:=hS.ns)
                 all_goals (refine Zac ?_;refine Zaw ?_;refine Yac ?_;refine Zay ?_;refine Q10 hS hel8 rfl vw fd (Qg fr g.nx) (Qo fr g.nx) (by omega) (hS.oneC (v:=v7) (css:=Qk g.regs++[[.int .i64 h.openV.region]]) fd) (Q2T (g':=⟨g.f,g.b,g.i+1,g.vv,g.vals,v7,g.regs++[h.openV.region]⟩) rfl) ?_;intro w8 hS;have hS:=hS.ns;rw [iC1] at hS;have hS:St cx _ (gX p z fr ⟨g.f,g.b,g.i+1,g.vv,g.vals,v7,g.regs++[h.openV.region]⟩ (N+1) h.open out (blk p8 182 h.openV.cells::L)):=QB ho hS.sp;refine Zav ?_;refine Zab ?_;refine zv hS ?_;refine zB1 hS [_,_,_,_] ?_;intro b1 w1 hS;have hS:St cx _ (vSl (.slice (some ⟨b1,0,none⟩) 1 1) h.openV::gX p z fr ⟨g.f,g.b,g.i+1,g.vv,g.vals,v7,g.regs++[h.openV.region]⟩ (N+1) h.open out L):=(by have hS:=St.slOf (T:=182) (es:=4) (css:=[h.openV].map Val.cells) hS rfl (by simp [Val.cells]) rfl;exact hS.sp);refine zR2 (c:=gP_c (vs:=[h.openV]) (by omega) (by simp only [List.length_cons,List.length_nil];omega) hS) (h:=?_);rintro v1 w1 ⟨rfl,tv,hS⟩;have hG:GQ p z N fu h out ((msOf h g.nx fr inp out fu).ins m x) cx L (.int .i64 0) _:=GQ.go ((Qcw (by omega)).trans (QfD hfu)) hi (Nat.le_refl _) rfl hS)
                 all_goals (refine Zai ?_;exact ⟨_,rfl,hG⟩)
             · skip
               all_goals (refine zC [(0,none),(2,none),(7,none),(8,none),(9,some (some [])),(1,some (some [8])),(3,some (some [8])),(4,none),(5,none),(6,none),(10,some none),(11,none),(12,none),(13,some none)] ?_;have hS:=hS.drew;refine Zbf ?_;refine zf0 ?_;refine Zac ?_;refine zl hS ?_;refine Zal ?_;refine zB1 hS [_] ?_;intro b1 w1 hS;refine zt ?_;refine ⟨fun _ h=> (List.not_mem_nil h).elim,?_⟩;refine Q3U ?_;refine zR1 (c:=Q3s (by omega) (show St cx _ (gL p z lv h.open.left fr g.nx _) from hS.sp)) (h:=?_);rintro v1 w1 ⟨b8,o8,rfl,hel8,hS⟩;refine Zbe ?_;refine zR1 (c:=Q3s (by omega) (show St cx _ (gL p z lv h.open.left fr g.nx _) from hS.sp)) (h:=?_);rintro v1 w1 ⟨b7,o7,rfl,hel7,hS⟩;refine ZaS ?_;refine ZbI ?_;refine Q1 hS hel7 rfl fd (Qg fr g.nx) (Qo fr g.nx) rfl ?_;refine Zay ?_;refine Q24 Q5e (.inl Q9a) hS vw vw (v:=g.rv) (css:=Qk g.regs) fd (hS.srcB fd (by rfl) (by simp [oneC])) (by rw [List.length_map];simp only [List.length_cons,List.length_nil];omega) ?_;intro v7 w7 hS;have hS:=hS.ns)
               all_goals (refine Zac ?_;refine Zaw ?_;refine Yac ?_;refine Zay ?_;refine Q10 hS hel8 rfl vw fd (Qg fr g.nx) (Qo fr g.nx) (by omega) (hS.oneC (v:=v7) (css:=Qk g.regs++[[.int .i64 h.openV.region]]) fd) (Q2T (g':=⟨g.f,g.b,g.i+1,g.vv,g.vals,v7,g.regs++[h.openV.region]⟩) rfl) ?_;intro w8 hS;have hS:=hS.ns;rw [iC1] at hS;have hS:St cx _ (gX p z fr ⟨g.f,g.b,g.i+1,g.vv,g.vals,v7,g.regs++[h.openV.region]⟩ (N+1) h.open out (blk p8 182 h.openV.cells::L)):=QB ho hS.sp;refine Zav ?_;refine Zab ?_;refine zv hS ?_;refine zB1 hS [_,_,_,_] ?_;intro b1 w1 hS;have hS:St cx _ (vSl (.slice (some ⟨b1,0,none⟩) 1 1) h.openV::gX p z fr ⟨g.f,g.b,g.i+1,g.vv,g.vals,v7,g.regs++[h.openV.region]⟩ (N+1) h.open out L):=(by have hS:=St.slOf (T:=182) (es:=4) (css:=[h.openV].map Val.cells) hS rfl (by simp [Val.cells]) rfl;exact hS.sp);refine zR2 (c:=gP_c (vs:=[h.openV]) (by omega) (by simp only [List.length_cons,List.length_nil];omega) hS) (h:=?_);rintro v1 w1 ⟨rfl,tv,hS⟩;have hG:GQ p z N fu h out ((msOf h g.nx fr inp out fu).ins m x) cx L (.int .i64 0) _:=GQ.go ((Qcw (by omega)).trans (QfD hfu)) hi (Nat.le_refl _) rfl hS)
               all_goals (refine Zai ?_)
               all_goals (exact ⟨_,rfl,hG⟩))
          | (refine zcf ?_
             all_goals (refine Zaa ?_)
             all_goals (first|(refine Qi ?_)|(refine Qm ?_)|(refine Q5 rfl rfl (fun hc=> ?_) (fun hc=> ?_)))
             all_goals (refine Zad ?_)
             all_goals
              first
              | (refine zct ?_
                 all_goals (refine Zbo ?_;obtain ⟨lv,rv,ho,hS⟩:=Q1T hS;obtain ⟨av,nv,hiv⟩:=Rep.SR.shape hi;refine Zby ?_;refine zf0 ?_;refine zl hS ?_;refine QeZ vw hi ?_)
                 all_goals (first|(refine Qi ?_)|(refine Qm ?_)|(refine Q5 rfl rfl (fun hc=> ?_) (fun hc=> ?_)))
                 all_goals (refine zn ?_)
                 all_goals
                  first
                  | (refine zct ?_
                     all_goals (refine Zab ?_;have hS:St cx _ (gX p z fr g.nx N h out L):=QB ho hS.sp;refine zR2 (c:=gE_c 4 hS) (h:=?_);rintro v1 w1 ⟨rfl,hS⟩;have hG:GQ p z N fu h out ((msOf h g.nx fr inp out fu).ins m x) cx L (.int .i64 1) _:=GQ.halt ((Qel (by omega)).trans (in_0 (List.length_eq_zero_iff.1 (by show inp.length=0;omega)))) (Nat.le_succ N) rfl hS;refine Zai ?_)
                     all_goals (exact ⟨_,rfl,hG⟩))
                  | (refine zcf ?_
                     all_goals refine zsk ?_)
                 all_goals (refine Qv ?_;obtain ⟨n0,r0,hir⟩:∃n0 r0,inp=n0::r0:=List.exists_cons_of_length_pos (by omega);refine Zby ?_;refine zf0 ?_;refine zl hS ?_)
                 all_goals (refine Q68 (m:=0) vw rfl hi rfl (by omega) ?_;intro b8 o8 cs8 x8 hat8 hx8 he8;rw [hir,List.getElem?_cons_zero] at hx8;cases hx8;obtain rfl:=QQ he8)
                 all_goals (refine Yap ?_;refine Zad ?_;refine Zas ?_;refine znc ?_;refine zf0 ?_;refine zl hS ?_;refine QeQ (l':=1) (h':=inp.length) vw hi rfl rfl rfl ⟨_,rfl⟩ (by omega) (by omega) ?_;intro v7 hk7;have hk7:intR.sl cx v7 r0:=(by rw [hir] at hk7;simpa using hk7);have ho7:oneC v7=true:=(by obtain ⟨a7,n7,e7⟩:=Rep.SR.shape hk7;rw [e7];rfl);refine znc ?_;refine zf0 ?_;refine zst hS ?_;intro w1 hS;have hS:=hS.ns;refine zn ?_;refine Zas ?_;refine zb2 [_,_,_,_] ?_;refine zB1 hS [_,_,_,_] ?_;intro b1 w1 hS;have hS:St cx _ (vSl (.slice (some ⟨b1,0,none⟩) 1 1) (intV n0)::gX p (z.upd z.fv v7 z.ov) fr g.nx N h out L):=(by have hS:=St.slOf (T:=182) (es:=4) (css:=[intV n0].map Val.cells) hS rfl (by simp [Val.cells]) rfl;have hS:St cx _ (gX p (z.upd z.fv v7 z.ov) fr g.nx N h out (vSl (.slice (some ⟨b1,0,none⟩) 1 1) (intV n0)::L)):=QB ho hS.sp;exact hS.sp);refine zR2 (c:=gP_c (vs:=[intV n0]) (by omega) (by simp only [List.length_cons,List.length_nil];omega) hS) (h:=?_);rintro v1 w1 ⟨rfl,tv,hS⟩;have hG:GQ p z N fu h out ((msOf h g.nx fr inp out fu).ins m x) cx L (.int .i64 0) _:= .inl ⟨z.fv,v7,z.ov,fr,g.nx.push tv [intV n0],N,h,r0,out,(Qel (by omega)).trans (in_s hir),hk7,Nat.le_succ N,rfl,hS⟩)
                 all_goals (refine Zai ?_)
                 all_goals (exact ⟨_,rfl,hG⟩))
              | (refine zcf ?_
                 all_goals (refine Zaa ?_)
                 all_goals (first|(refine Qi ?_)|(refine Qm ?_)|(refine Q5 rfl rfl (fun hc=> ?_) (fun hc=> ?_)))
                 all_goals (refine Zad ?_)
                 all_goals
                  first
                  | (refine zct ?_
                     all_goals (refine Zab ?_;refine zf0 ?_;refine zl hS ?_;refine zB1 hS [_] ?_;intro b1 w1 hS)
                     all_goals (have hS:St cx _ (sl 3 1 (.slice (some ⟨b1,0,none⟩) 1 1) (Qk [x.a])::gX p z fr g.nx N h out (iBlk p3 x vr va::L)):=(by have hS:=St.slOf (T:=3) (es:=1) (css:=Qk [x.a]) hS rfl (by simp [Qk]) rfl;exact hS.sp);refine zR2 (c:=gN_c (by omega) hS) (h:=?_);rintro v1 w1 (⟨n0,sn,hn0,ho2,rfl,hS⟩|⟨hn0,sn,rfl,hS⟩))
                     all_goals (refine ZbF ?_)
                     all_goals
                      first
                      | (refine zct ?_
                         all_goals (refine Qv ?_;have hG:GQ p z N fu h out ((msOf h g.nx fr inp out fu).ins m x) cx L (.int .i64 2) _:=GQ.lost ((Qbp (by omega)).trans (Q1D hn0)) hS fun _ _ hS=> hS.sp;refine ZaX ?_)
                         all_goals (exact ⟨_,rfl,hG⟩))
                      | (refine zcf ?_
                         all_goals refine zsk ?_)
                     all_goals (refine Zbo ?_;obtain ⟨lv,rv,ho,hS⟩:=Q1T hS;refine Zby ?_;refine zf0 ?_;refine Yac ?_;refine zl hS ?_;refine QO (n:=out.length) hS vw fd (List.length_map _) ?_)
                     all_goals (first|(refine Qi ?_)|(refine Qm ?_)|(refine Q5 rfl rfl (fun hc=> ?_) (fun hc=> ?_)))
                     all_goals (refine zn ?_)
                     all_goals
                      first
                      | (refine zct ?_
                         all_goals (refine Zab ?_;have hS:St cx _ (gX p z fr g.nx N h out L):=QB ho hS.sp;refine zR2 (c:=gE_c 8 hS) (h:=?_);rintro v1 w1 ⟨rfl,hS⟩;have hG:GQ p z N fu h out ((msOf h g.nx fr inp out fu).ins m x) cx L (.int .i64 1) _:=GQ.halt ((Qbp (by omega)).trans ((Qb hn0).trans (out_0 (by show out.length=2000;omega)))) (Nat.le_succ N) rfl hS;refine Zai ?_)
                         all_goals (exact ⟨_,rfl,hG⟩))
                      | (refine zcf ?_
                         all_goals refine zsk ?_)
                     all_goals (refine Qv ?_;refine zC [(0,none),(1,none),(2,none),(3,none),(4,none),(5,none),(6,none),(7,none),(8,none),(9,some (some [5])),(10,some (some [])),(11,none),(12,none),(13,none),(14,some none)] ?_;have hS:=hS.drew;refine Zbf ?_;refine Zaw ?_;refine zf0 ?_;refine Zbj ?_;refine zl hS ?_;refine Zax ?_;refine QJ hS vw rfl fd (by simp) (by simp) ?_;intro b2 o2 hel2;refine Zac ?_;refine Qs hS hel2 rfl fd rfl rfl rfl ?_;refine Zal ?_;refine zB1 hS [_] ?_;intro b1 w1 hS;refine zt ?_;refine ⟨List.forall_mem_cons.2 ⟨(by first|(exact Qp (j:=0) hS hel2 rfl fd rfl rfl rfl)|(exact QK hS rfl fd rfl)),fun _ h=> (List.not_mem_nil h).elim⟩,?_⟩;refine Q3U ?_;refine Q24 Q5R (.inl Qal) hS vw vw (v:=z.ov) (css:=Qk out) fd (hS.srcB fd (by rfl) (by simp [oneC])) (by rw [List.length_map];simp only [List.length_cons,List.length_nil];omega) ?_;intro v7 w7 hS;have hS:=hS.ns;have ho7:=hS.oneC (v:=v7) (css:=Qk out++[[.int .i64 n0]]) fd;rw [iC1] at hS)
                     all_goals (refine zt ?_;refine ⟨fun _ h=> (List.not_mem_nil h).elim,?_⟩;refine s_cq ?_;refine Zaw ?_;refine zf0 ?_;refine Zac ?_;refine Yac ?_;refine Zay ?_;refine zst hS ?_;intro w1 hS;have hS:=hS.ns;refine Zav ?_;refine Qv ?_;have hS:St cx _ (gX p (z.upd z.fv z.iv v7) fr g.nx N h (out++[n0]) L):=QB ho hS.sp;have hG:GQ p z N fu h out ((msOf h g.nx fr inp out fu).ins m x) cx L (.int .i64 0) _:= .inl ⟨z.fv,z.iv,v7,fr,g.nx,N,h,inp,out++[n0],(Qbp (by omega)).trans ((Qb hn0).trans (out_s (by show out.length≠2000;omega))),hi,Nat.le_succ N,rfl,hS⟩;refine ZaX ?_)
                     all_goals (exact ⟨_,rfl,hG⟩))
                  | (refine zcf ?_
                     all_goals (refine Zaa ?_)
                     all_goals (first|(refine Qi ?_)|(refine Qm ?_)|(refine Q5 rfl rfl (fun hc=> ?_) (fun hc=> ?_)))
                     all_goals (refine Zad ?_)
                     all_goals
                      first
                      | (refine zct ?_
                         all_goals (refine Zab ?_;refine zf0 ?_;refine zl hS ?_)
                         all_goals (refine zR2 (c:=gRs_c (by omega) (by omega) hr (show St cx _ (gX p z fr g.nx N h out _) from hS)) (h:=?_);rintro v1 w1 (⟨rs,sr,hrs,hrl,ho1,rfl,hS⟩|⟨hrs,rfl,hS⟩))
                         all_goals (refine Zbc ?_;refine ZaT ?_;refine zf0 ?_;refine zl hS ?_)
                         all_goals (refine zR2 (c:=Qgi (by omega) (by omega) ha (show St cx _ (gX p z fr g.nx N h out _) from hS)) (h:=?_);rintro v1 w1 (⟨vs,sw,hvs,hvl,ho2,rfl,hS⟩|⟨hvs,rfl,hS⟩))
                         all_goals (refine Zbc ?_;refine Zaz ?_;obtain ⟨lv,rv,ho,hS⟩:=Q1T hS;have hk0:=(hk (by omega)).1;have hk1:=(hk (by omega)).2;refine zC [(0,none),(1,none),(2,none),(3,none),(4,none),(5,none),(6,none),(7,none),(8,none),(9,some (some [4,6,8])),(10,some none)] ?_;have hS:=hS.drew;refine Zbu ?_;refine zf0 ?_;refine Zac ?_;refine zf0 ?_;refine Zac ?_;refine zl hS ?_;refine Zac ?_;refine zf0 ?_;refine Zac ?_;refine zl hS ?_;refine Zac ?_;refine zj ?_;intro b1 o1 cs1 x1 hat1 hx1 he1;obtain ⟨vp1,vr1,vb1,rfl,hp1,hr1,hb1⟩:=QM he1;have hX:=(xins_14 (m:=m) (s:=msOf h g.nx fr inp out fu) (x:=x) (by omega)).trans (call_X hx1);refine Zac ?_;refine Yai ?_;refine ZaY ?_;intro p17 w1 hS;refine Zat ?_)
                         all_goals (refine s_cf ?_;refine zsn hS ?_;intro w1 hS;have hS:=hS.ns;refine Zav ?_;refine Zah ?_;refine znt ?_;refine Zak ?_;refine Yak ?_;refine Zbt ?_;refine Yan ?_;refine Zap ?_)
                         all_goals (first|refine zgn ?_|(refine zgy ?_;(first|(refine Q11 ?_)|(refine Q18 ?_)|(refine Qu rfl rfl (fun hc=> ?_) (fun hc=> ?_)))))
                         all_goals (refine Zbt ?_;refine Yan ?_;refine Zap ?_;refine Yaj ?_)
                         all_goals (first|refine zgn ?_|(refine zgy ?_;(first|(refine Q11 ?_)|(refine Q18 ?_)|(refine Qu rfl rfl (fun hc=> ?_) (fun hc=> ?_)))))
                         all_goals (refine ZaL ?_)
                         all_goals
                          first
                          | (refine zct ?_
                             all_goals (refine Qv ?_;have hG:GQ p z N fu h out ((msOf h g.nx fr inp out fu).ins m x) cx L (.int .i64 2) _:=GQ.lost (out2:=out) (h2:=h) (N2:=N) (fr:=fr) (g:=g.nx) (L':=L) (by first|exact hX.trans (Q1D hrs)|exact hX.trans ((Qb hrs).trans (Q1D hvs))|exact hX.trans ((Qb hrs).trans ((Qb hvs).trans (if_pos (by omega))))) (QB ho hS.sp) fun _ _ hS=> hS;refine ZaX ?_)
                             all_goals (exact ⟨_,rfl,hG⟩))
                          | (refine zcf ?_
                             all_goals refine zsk ?_)
                         all_goals (refine Zah ?_;refine znc ?_;refine zf0 ?_;refine zl hS ?_;refine QO hS vw fd (Qg fr g.nx) ?_)
                         all_goals (first|(refine Qi ?_)|(refine Qm ?_)|(refine Q5 rfl rfl (fun hc=> ?_) (fun hc=> ?_)))
                         all_goals (refine zn ?_)
                         all_goals
                          first
                          | (refine zct ?_
                             all_goals (refine Zab ?_;have hS:St cx _ (gX p z fr g.nx N h out L):=QB ho hS.sp;refine zR2 (c:=gE_c 5 hS) (h:=?_);rintro v1 w1 ⟨rfl,hS⟩;have hG:GQ p z N fu h out ((msOf h g.nx fr inp out fu).ins m x) cx L (.int .i64 1) _:=GQ.halt (hX.trans ((Qb hrs).trans ((Qb hvs).trans ((if_neg (by omega)).trans (if_pos (by show ((fr.map FrmV.abs).reverse).length+1=40;rw [Qfm];omega)))))) (Nat.le_succ N) rfl hS;refine Zai ?_)
                             all_goals (exact ⟨_,rfl,hG⟩))
                          | (refine zcf ?_
                             all_goals refine zsk ?_)
                         all_goals (refine Qv ?_;obtain ⟨a1,n1,e1⟩:=hS.shape (v:=sr) (css:=Qk rs) fd;obtain ⟨a2,n2,e2⟩:=hS.shape (v:=sw) (css:=vs.map Val.cells) fd;rw [e1,e2];refine zC [(0,none),(1,none),(2,none),(3,none),(4,none),(5,none),(6,none),(7,none),(8,none),(9,none),(10,some (some [4])),(11,some (some [])),(12,none),(13,none),(14,some none)] ?_;have hS:=hS.drew;refine Zbf ?_;refine Zaw ?_;refine zf0 ?_;refine Zac ?_;refine zl hS ?_;refine Zac ?_;refine zf0 ?_;refine Zac ?_;refine zl hS ?_;refine Zax ?_;refine Zaj ?_;refine zb3 [_,_,_,_,_] ?_;refine Zal ?_;refine zB1 hS [_,_,_,_,_] ?_;intro b1 w1 hS;refine Zbe ?_;refine Q24 Qgr (.inl Qez) hS vw vw (v:=z.fv) (css:=Q2d fr g.nx) fd (hS.srcB fd (by rfl) (by simp [oneC,ho1,ho2])) (by rw [Qg];simp only [List.length_cons,List.length_nil];omega) ?_;intro v7 w7 hS;have hS:=hS.ns;have ho7:=hS.oneC (v:=v7) fd)
                         all_goals (refine ZaS ?_;refine Zaw ?_;refine zf0 ?_;refine Zay ?_;refine zst hS ?_;intro w1 hS;have hS:=hS.ns;refine Zav ?_;refine Qv ?_;rw [←e1,←e2] at hS;rw [show (Value.int .i64 x.k)= .int .i64 ((x.k.toNat:Nat):Int) by rw [Int.toNat_of_nonneg hk0]] at hS;have e9:Q2d fr g.nx++[[.int .i64 ((x.k.toNat:Nat):Int), .int .i64 0, .int .i64 0,sw,sr]]=Q2d (fr++[g.nx]) ⟨x.k.toNat,0,0,sw,vs,sr,rs⟩:=Qfh (g':=⟨x.k.toNat,0,0,sw,vs,sr,rs⟩);rw [e9] at hS;have hS:=big_g1 (g:=g.nx) (fr:=fr) (L:=gBlk (z.upd v7 z.iv z.ov) p lv h.left::sl 119 5 v7 (Q2d (fr++[g.nx]) ⟨x.k.toNat,0,0,sw,vs,sr,rs⟩)::sl 182 4 sw (vs.map Val.cells)::sl 3 1 sr (Qk rs)::sl 131 4 lv (rv.map RgnV.cells)::big (RgnV.res H1) rv::sl 2 1 z.ov (Qk out)::L) hS.sp;have hS:St cx _ (gX p (z.upd v7 z.iv z.ov) (fr++[g.nx]) ⟨x.k.toNat,0,0,sw,vs,sr,rs⟩ N h out L):=QB ho hS.sp;have hG:GQ p z N fu h out ((msOf h g.nx fr inp out fu).ins m x) cx L (.int .i64 0) _:= .inl ⟨v7,z.iv,z.ov,fr++[g.nx],⟨x.k.toNat,0,0,sw,vs,sr,rs⟩,N,h,inp,out,hX.trans ((Qb hrs).trans ((Qb hvs).trans ((if_neg (by omega)).trans ((if_neg (by show¬((fr.map FrmV.abs).reverse).length+1=40;rw [Qfm];omega)).trans (by rw [QfH];rfl))))),hi,Nat.le_succ N,rfl,hS⟩)
                         all_goals (refine ZaX ?_)
                         all_goals (exact ⟨_,rfl,hG⟩))
                      | (refine zcf ?_
                         all_goals refine zsk ?_)))
             all_goals (refine Zab ?_;refine zv hS ?_;refine zR2 (c:=gmem_c (m:=m) (inp:=inp) (fu:=fu) hx hi (by omega) h8 (by omega) hnn hN (show St cx _ (gX p z fr g.nx N h out L) from hS.sp)) (h:=?_);intro u9 w9 hG;refine Zai ?_)
             all_goals (exact ⟨_,rfl,hG⟩))))
end Go.Proofs.YteflkifmgnpbhaaGreat
namespace Go.Proofs.YteflkifmgnpbhaaGreat
open Go.Lir
set_option maxHeartbeats 1000000
attribute [local irreducible] LC.wp Q0 Qh Qc retQ Qw LO.wp Q3 Calls
set_option linter.unusedSimpArgs false
set_option linter.unusedVariables false
variable {cx:Cx}{w:World}{L:List Res}{p N:Nat}{z:GZ}{fr:List FrmV}{g:FrmV}{h:HpS}{out inp:List Int}{fu:Nat}{m:Module}
@[reducible] def FrmV.fb (g:FrmV) (b:Nat):FrmV:=⟨g.f,b,g.i,g.vv,g.vals,g.rv,g.regs⟩
@[reducible] def FrmV.fi (g:FrmV) (i:Nat):FrmV:=⟨g.f,g.b,i,g.vv,g.vals,g.rv,g.regs⟩
@[reducible] def FrmV.fv (g:FrmV) (v:Value) (l:List Val):FrmV:=⟨g.f,g.b,g.i,v,l,g.rv,g.regs⟩
attribute [local irreducible] Frm.val Frm.num Frm.args Frm.rgs Frm.reg
theorem gto_c {f:Fun}{t:To}{cs:List Value}(hx:toR.at cx cs t) (hfn:funcR.sl cx z.fn m.funcs) (hi:intR.sl cx z.iv inp) (hfx:m.funcs[g.f]?=some f) (hb0:0≤t.block) (hb1:t.block < f.blocks.length) (h6:t.regs.length≤100) (h8:t.args.length≤100) (hf:fr.length≤1000) (hS:St cx w (gX p z fr g N h out L)):
 Rets Tryz.prog Qeb [.pointer (some ⟨p,0,none⟩), .agg ⟨cs⟩] w (GQ p z N fu h out ((msOf h g fr inp out fu).to f t) cx L):=by
 obtain ⟨vr,va,rfl,hr,ha⟩:=Q64 hx
 have hfl:=hfn.len
 have hgf:=(List.getElem?_eq_some_iff.1 hfx).1
 all_goals refine lgo tyD Tryz.func127 ?_
 all_goals (refine Zaq ?_;intro p3 w1 hS;refine Zaz ?_;obtain ⟨lv,rv,ho,hS⟩:=Q1T (p:=p) (z:=z) (fr:=fr) (g:=g) (N:=N) (h:=h) (out:=out) (L:=blk p3 88 [.int .i64 t.block,vr,va]::L) hS.sp;refine Zag ?_;refine zR1 (c:=Q3s hf hS) (h:=?_);rintro v1 w1 ⟨b9,o9,rfl,hel,hS⟩;refine Zaz ?_;refine zC [(0,none),(1,none),(2,none),(3,none),(4,none),(5,none),(6,none),(7,none),(8,none),(9,none),(10,none),(11,none),(12,none),(13,none),(14,none),(15,none),(16,some (some [4,8,11,13,15])),(17,some none)] ?_;have hS:=hS.drew;refine Zbu ?_;refine zf0 ?_;refine Zac ?_;refine zf0 ?_;refine Zac ?_;refine zl hS ?_;refine Zax ?_;refine ZbI ?_;refine Qs hS hel rfl fd (Qg fr g) (Qo fr g) rfl ?_;refine Zac ?_;refine zi ?_;intro b8 o8 cs8 x8 hat8 hx8 he8;obtain rfl:f=x8:=Option.some.inj (hfx.symm.trans hx8);obtain ⟨vp8,vr8,vb8,rfl,hp8,hr8,hb8⟩:=QM he8)
 all_goals (refine Zbj ?_;refine Yaw ?_;refine Zac ?_;refine zf0 ?_;refine Zac ?_;refine zl hS ?_;refine Zac ?_;refine zj ?_;intro b1 o1 cs1 x1 hat1 hx1 he1;obtain ⟨vp1,vc1,e1,e2,e3,e4,e5,rfl,hp1,hc1,he11,he12,he13,he14,he15⟩:=Q23 he1;have hX:=to_X (s:=msOf h g fr inp out fu) hx1;refine Zac ?_;refine Yai ?_;refine ZaY ?_;intro p6 w1 hS;refine zt ?_;refine ⟨List.forall_mem_cons.2 ⟨(by first|(exact Qp (j:=0) hS hel rfl fd (Qg fr g) (Qo fr g) rfl)|(exact QK hS rfl fd rfl)),List.forall_mem_cons.2 ⟨(by (exact Qp (j:=0) hS hel rfl fd (Qg fr g) (Qo fr g) rfl)),List.forall_mem_cons.2 ⟨(by first|(exact Qp (j:=0) hS hel rfl fd (Qg fr g) (Qo fr g) rfl)|(exact QK hS rfl fd rfl)|(exact Q4A hS (by assumption) rfl rfl)|(exact Q4O hS (by assumption) rfl rfl)),List.forall_mem_cons.2 ⟨(by first|(exact Qp (j:=0) hS hel rfl fd (Qg fr g) (Qo fr g) rfl)|(exact QK hS rfl fd rfl)),List.forall_mem_cons.2 ⟨(by first|(exact Qp (j:=0) hS hel rfl fd (Qg fr g) (Qo fr g) rfl)|(exact Q1Y hS rfl fd rfl rfl)|(exact Q2B hS (by assumption) rfl rfl rfl)),fun _ h=> (List.not_mem_nil h).elim⟩⟩⟩⟩⟩,?_⟩)
 all_goals (refine s_cf ?_;refine zsn hS ?_;intro w1 hS;have hS:=hS.ns;refine Zav ?_;refine Zab ?_;refine zf0 ?_;refine zl hS ?_)
 all_goals (refine zR2 (c:=gRs_c (by omega) hf hr (show St cx _ (gX p z fr g N h out _) from QB ho hS.sp)) (h:=?_);rintro v1 w1 (⟨rs,sr,hrs,hrl,ho1,rfl,hS⟩|⟨hrs,rfl,hS⟩))
 all_goals (refine Zbc ?_;refine ZaT ?_;refine zf0 ?_;refine zl hS ?_)
 all_goals (refine zR2 (c:=Qgi (by omega) hf ha (show St cx _ (gX p z fr g N h out _) from hS)) (h:=?_);rintro v1 w1 (⟨vs,sw,hvs,hvl,ho2,rfl,hS⟩|⟨hvs,rfl,hS⟩))
 all_goals (refine Zbr ?_;refine znt ?_;refine Zak ?_;refine Yak ?_;refine Zbt ?_;refine Yan ?_;refine Zap ?_)
 all_goals (first|refine zgn ?_|(refine zgy ?_;(first|(refine Q11 ?_)|(refine Q18 ?_)|(refine Qu rfl rfl (fun hc=> ?_) (fun hc=> ?_)))))
 all_goals (refine Zbt ?_;refine Yan ?_;refine Zap ?_;refine Yaj ?_)
 all_goals (first|refine zgn ?_|(refine zgy ?_;(first|(refine Q11 ?_)|(refine Q18 ?_)|(refine Qu rfl rfl (fun hc=> ?_) (fun hc=> ?_)))))
 all_goals (refine ZaL ?_)
 all_goals
  first
  | (refine zct ?_
     all_goals (refine Qv ?_;have hG:GQ p z N fu h out ((msOf h g fr inp out fu).to f t) cx L (.int .i64 2) _:=GQ.lost (by first|exact hX.trans (Q1D hrs)|exact hX.trans ((Qb hrs).trans (Q1D hvs))|exact hX.trans ((Qb hrs).trans ((Qb hvs).trans (if_pos (by omega))))) hS fun _ _ hS=> hS.sp;refine ZaX ?_)
     all_goals (exact ⟨_,rfl,hG⟩))
  | (refine zcf ?_
     all_goals refine zsk ?_)
 all_goals (refine Qv ?_;obtain ⟨lv,rv,ho,hS⟩:=Q1T hS;have eb:Value.int .i64 t.block= .int .i64 ((t.block.toNat:Nat):Int):=(by rw [Int.toNat_of_nonneg hb0]);refine ZaI ?_;refine Zbg ?_;refine zf0 ?_;refine zl hS ?_;refine zm ?_;refine Zbd ?_;refine Q10 hS hel rfl vw fd (Qg fr g) (Qo fr g) (by omega) rfl (Q2T (g':=g.fb t.block.toNat) (by rw [eb];rfl)) ?_;intro w8 hS;have hS:=hS.ns;refine Zar ?_;refine Q10 hS hel rfl vw fd (Qg fr (g.fb t.block.toNat)) (Qo fr (g.fb t.block.toNat)) (by omega) rfl (Q2T (g':=(g.fb t.block.toNat).fi 0) rfl) ?_;intro w8 hS;have hS:=hS.ns;refine Zar ?_;refine Q10 hS hel rfl vw fd (Qg fr ((g.fb t.block.toNat).fi 0)) (Qo fr ((g.fb t.block.toNat).fi 0)) (by omega) ho2 (Q2T (g':=((g.fb t.block.toNat).fi 0).fv sw vs) rfl) ?_;intro w8 hS;have hS:=hS.ns;refine Zar ?_;refine Q10 hS hel rfl vw fd (Qg fr (((g.fb t.block.toNat).fi 0).fv sw vs)) (Qo fr (((g.fb t.block.toNat).fi 0).fv sw vs)) (by omega) ho1 (Q2T (g':=⟨g.f,t.block.toNat,0,sw,vs,sr,rs⟩) rfl) ?_;intro w8 hS;have hS:=hS.ns)
 all_goals (refine ZaF ?_;have hS:St cx _ (gX p z fr ⟨g.f,t.block.toNat,0,sw,vs,sr,rs⟩ N h out L):=QB ho hS.sp;have hG:GQ p z N fu h out ((msOf h g fr inp out fu).to f t) cx L (.int .i64 0) _:=GQ.go (hX.trans ((Qb hrs).trans ((Qb hvs).trans (if_neg (by omega))))) hi (Nat.le_succ N) rfl hS;refine ZaX ?_;exact ⟨_,rfl,hG⟩)
end Go.Proofs.YteflkifmgnpbhaaGreat
