
/- Lemmas of the proof, part 8: what the functions of the program do (contracts), and what follows. -/
import Derived.Test.YteflkifmgnpbhaaGreatZ2
import Derived.Test.YteflkifmgnpbhaaGreatZ7
import Derived.Test.YteflkifmgnpbhaaGreatZ5
import Derived.Test.YteflkifmgnpbhaaGreatZ3
import Derived.Test.YteflkifmgnpbhaaGreatZ6
open Go Go.Lir Go.Proofs.YteflkifmgnpbhaaGreat
variable {most:Nat}{v:Value}{fuel pages:Int}
set_option linter.unusedVariables false
set_option linter.unusedSimpArgs false
set_option maxHeartbeats 1000000
namespace Go.Lir
section
variable {p:Prop}
theorem Cz (h:p:=by exact ⟨_,rfl,c5,a1,a2,y1,y2,hle4.trans hle5,(by rw [hoc,hfl];dsimp only;rw [←e1,←e2];rfl),(by rw [hoc];dsimp only;rw [←e1];exact q1),(by rw [hoc];dsimp only;rw [←e2];exact q2),hS.sp⟩):p:=h
end
end Go.Lir
namespace Go.Lir
def eI (w:World)(p most:Nat):Nat:=2*((most:Int) - iv (R4 w p 8)).toNat+aM (R4 w p 10)
end Go.Lir
namespace Go.Proofs.YteflkifmgnpbhaaGreat
open Go.Lir
attribute [local irreducible] LC.wp Q0 Qh Qd Kq Qz LO.wp Q5 Calls
section
variable {cx:Cx}{w:World}{L:List Res}{p N:Nat}{z:GZ}{fr:List FrmV}{g:FrmV}{h:HpS}{out inp back:List Int}{m:Module}
theorem wZ {lv:Value}{left:Int}(hS:St cx w (L5 z p lv left::L)):eI w p most=2*((most:Int) - z.fu).toNat+aM (.bool z.dn):=by
 unfold eI;rw [wL (j:=8) hS (i:=0) rfl rfl,wL (j:=10) hS (i:=0) rfl rfl];rfl
theorem DR.less {s:MS}{z':GZ}{fr':List FrmV}{g':FrmV}{N':Nat}{h':HpS}{inp' out' back':List Int}(hD:DR m most z fr g N h inp out back (.on s))(hD':DR m most z' fr' g' N' h' inp' out' back' (Run.step m most (.on s))):2*((most:Int) - z'.fu).toNat+aM (.bool z'.dn)<2*((most:Int) - z.fu).toNat+aM (.bool z.dn):=by
 obtain ⟨-, -,a3, -, -,a6,a7, -⟩:=hD;have e1:aM (.bool false)=1:=rfl;have e2:aM (.bool true)=0:=rfl;by_cases hk:s.fuel=most
 · rw [show Run.step m most (.on s)= .over s 7 [] from if_pos hk] at hD';obtain ⟨-, -, -,b4, -, -,b7, -⟩:=hD';rw [a3,b4,a6,b7,e1,e2];omega
 · rw [show Run.step m most (.on s)= .of m s (s.tick.one m) from if_neg hk] at hD'
   cases hX:s.tick.one m with
   | go s'=>
     rw [hX] at hD';obtain ⟨-, -,b3, -, -,b6, -⟩:=hD';have:=pw hX;rw [a3,b3,a6,b6,e1,this];omega
   | halt e=>
     rw [hX] at hD';obtain ⟨-, -, -,b4, -, -,b7, -⟩:=hD';have:z'.fu=((s.fuel+1:Nat):Int):=b7;rw [a3,b4,a6,this,e1,e2];omega
   | done l=>
     rw [hX] at hD';obtain ⟨-, -, -,b4, -, -,b7, -⟩:=hD';have:z'.fu=((s.fuel+1:Nat):Int):=b7;rw [a3,b4,a6,this,e1,e2];omega
   | lost=>rw [hX] at hD';exact hD'.elim
attribute [local irreducible] DR RA Run.all Run.oc Run.flt
theorem xd {vf:Value}(hM:m.fault.1=0)(hIn:m.InR)(hin:∀n∈inp,LN n)(hf0:0≤fuel)(hf1:fuel≤20000)(hp:0≤pages∧pages≤1000)(hf:Kj.sl cx vf m.funcs)(hi:JY.sl cx v inp)(hS:St cx w L):
 JW Tryz.prog cA [.agg ⟨[vf]⟩,v, .int .i64 fuel, .int .i64 pages] w fun u w'=>∃c' a1 a2 y1 y2,cx.Le c'∧u= .tuple #[.agg ⟨[.int .i64 (Run.all m inp fuel.toNat pages).oc.e, .slice a1 (Run.all m inp fuel.toNat pages).oc.back.length y1, .slice a2 (Run.all m inp fuel.toNat pages).oc.out.length y2, .int .i64 (Run.all m inp fuel.toNat pages).oc.fuel]⟩,Kn (Run.all m inp fuel.toNat pages).flt]∧JY.sl c' (.slice a1 (Run.all m inp fuel.toNat pages).oc.back.length y1) (Run.all m inp fuel.toNat pages).oc.back∧JY.sl c' (.slice a2 (Run.all m inp fuel.toNat pages).oc.out.length y2) (Run.all m inp fuel.toNat pages).oc.out∧St c' w' L:=by
 have hDf:=fun fv=>DR.first (inp:=inp) (pages:=pages) (fn:=vf) (fv:=fv) (iv:=v) hM hf0 hin;obtain ⟨af,nf,rfl⟩:=EU hf;refine Kd Kc Tryz.func34 ?_;refine' KO;intro p4 w1 hS;refine Qe hS ?_;(intro p8 w1 hS);refine Qe hS ?_;(intro p9 w1 hS);refine' Sp;refine' MQ;refine' zm;refine' Nb (c:=WM hp hi hS);rintro v1 w1 ⟨q,fv,rfl,hS⟩;refine' Kg;refine' nS;refine zo [8,9,10] (fun A ρ' w'=>∃(r:Run) (z:GZ) (fr:List FrmV) (g:FrmV) (N:Nat) (h:HpS) (inp2 out back:List Int),J2 ρ' A∧J2 ρ' []∧(RA m fuel.toNat (Run.all m inp fuel.toNat pages) r)∧(DR m fuel.toNat z fr g N h inp2 out back r)∧(Kj.sl cx z.fn m.funcs)∧(JY.sl cx z.iv inp2)∧St cx w' (gX q z fr g N h out (sl 2 1 z.bv (Qq back)::blk p9 29 [.int .i64 0, .int .i64 0]::blk p8 33 [.int .i64 0, .slice none 0 0, .slice none 0 0, .int .i64 0]::L))) (fun _ w'=>eI w' q fuel.toNat) ?_ ?_
 · exact ⟨.on (MS.start inp pages),ZG (.slice af m.funcs.length nf) fv v fuel,[],PD,0,⟨[],pages⟩,inp,[],[],zh,zh,RA.first,(hDf fv),hf,hi,by have hS:=hS.nil (T:=2) (es:=1);exact hS.sp⟩
 rintro ρ w1 ⟨r,z,fr,g,N,h,inp2,out,back,hA,hρ,hRA,hD,hfn2,hin2,hS⟩;obtain ⟨ρ,rfl⟩:=J3 hA hρ;refine' Mt;obtain ⟨lv1,rv1,ho1,hS⟩:=O1 hS;have hm0:=wZ (most:=fuel.toNat) hS;refine' W6;cases hdn:z.dn;all_goals (refine' Oh)
 all_goals
  first
  | (refine' JZ
     refine' J5;refine' bf;refine' KH;obtain ⟨s,rfl⟩:=hD.on hdn;have hRA':RA m fuel.toNat (Run.all m inp fuel.toNat pages) (Run.step m fuel.toNat (.on s)):=RA.onD hRA hD;refine' Kv (c:=ZI hD hM hIn Jo hfn2 hin2 (QN ho1 hS));rintro v1 w1 (⟨rfl,z',fr3,g3,N3,h3,inp3,out3,back3,hD',hfn3,hin3,hS⟩|⟨f8,z8,lv8,left8,hr8,rfl,hz1,hz2,hz3,hS⟩);all_goals (unfold Kn;dsimp only;refine Qe hS ?_;intro p11 w1 hS;refine Ka hS ?_;intro w1 hS;have hS:=hS.ns;refine' OR;refine' WY;refine' zn)
     all_goals
      first
      | (refine' JZ;refine Qu ?_;obtain ⟨hfl,hoc⟩:=RA.stuck hRA' hr8;refine zC [(0,none),(1,none),(2,some (some [1])),(3,some none)] ?_;have hS:=hS.drew;refine' L6;refine MA [_,_,_,_] ?_;refine' KA;refine zv hS ?_;refine' Lu;((refine Ka hS ?_;intro w1 hS;have hS:=hS.ns));refine' M4;((refine Ka hS ?_;intro w1 hS;have hS:=hS.ns));refine' Lc;refine' zr;refine kC vw (Q4 (n:=4) Jk Jk (hS.blkAt fd) Jr Jr) vw (Q4 (n:=2) Jk Jk (hS.blkAt fd) Jr Jr) ?_;(first|exact Cz|exact ⟨_,rfl,cx,none,none,0,0,Fq hS,(by rw [hoc,hfl];rfl),(by rw [hoc];exact FL _ _ _),(by rw [hoc];exact FL _ _ _),hS.sp⟩))
      | (refine' J0;refine' J5)
     (exact ⟨⟨Run.step m fuel.toNat (.on s),z',fr3,g3,N3,h3,inp3,out3,back3,zh,zh,hRA',hD',(by rw [hfn3];exact hfn2),hin3,hS.sp⟩,(by obtain ⟨lv2,rv2,ho2,hS⟩:=O1 (p:=q) (z:=z') (fr:=fr3) (g:=g3) (N:=N3) (h:=h3) (out:=out3) (L:=L) hS.sp;rw [wZ (most:=fuel.toNat) hS,hm0];exact DR.less hD hD')⟩))
  | (refine' J0;obtain ⟨hfl,hoc,hzc,hza⟩:=DR.fin hD hRA hdn;refine' K2;refine Qu ?_;have hol:out.length≤2000∧back.length≤100000:=DR.lens hD;obtain ⟨c4,hle4,hS,q1⟩:=FI (r:=JY) (l:=back) (hS.out (r:=sl 2 1 z.bv (Qq back)) fd) wN rfl Jo;simp only [Gs,F6] at hS;obtain ⟨c5,hle5,hS,q2⟩:=FI (r:=JY) (l:=out) (hS.out (r:=sl 2 1 z.ov (Qq out)) fd) wN rfl Jo;simp only [Gs,F6] at hS;have q1:=Hi q1 hle5;obtain ⟨a1,y1,e1⟩:=EU q1;obtain ⟨a2,y2,e2⟩:=EU q2;have o1:oneC z.bv=true:=(by rw [e1];rfl);have o2:oneC z.ov=true:=(by rw [e2];rfl);refine' LF;refine' Mm;refine zv hS ?_;refine MA [_,_] ?_;refine SF hS rfl rfl Jr fd Js (by show∀u∈[Value.int .i64 z.e,z.bv,z.ov, .int .i64 z.fu],oneC u=true;simp only [ES,EY,or_false,forall_eq_or_imp,forall_eq];exact ⟨rfl,o1,o2,rfl⟩) Jr ?_;intro w1 hS;have hS:=hS.ns;((refine Ka hS ?_;intro w1 hS;have hS:=hS.ns));refine' L8;refine kC vw (Q4 (n:=4) Jk Jk (hS.blkAt fd) Jr Jr) vw (Q4 (n:=2) Jk Jk (hS.blkAt fd) Jr Jr) ?_;(exact Cz))
end
section
variable {cx:Cx}{w:World}{L:List Res}{m:Module}{inp:List Int}
attribute [local irreducible] QR RA Run.all Run.oc SC ee
end
section
variable {cx:Cx}{w:World}{L:List Res}{m:Module}{inp:List Int}
theorem QgO (h:¬(ee inp fuel pages).1≠0):0≤fuel∧fuel≤20000∧0≤pages∧pages≤64:=by
 unfold ee at h;split at h
 · exact absurd Jd h
 · omega
attribute [local irreducible] Run.all Run.oc ee Module.runs Module.trim
theorem Qfp {cs:List Value}(hx:K6.at cx cs m)(hIn:m.InR)(hi:JY.sl cx v inp)(hin:∀n∈inp,LN n)(hS:St cx w L):JW Tryz.prog sU [.agg ⟨cs⟩,v, .int .i64 fuel, .int .i64 pages] w fun u w'=>u= .bool true∧St cx w' L:=by
 (obtain ⟨vf,rfl,hf⟩:=NV hx;obtain ⟨af,nf,rfl⟩:=EU hf;have hle:=Fq hS;all_goals refine Kd Kc Tryz.func9 ?_);all_goals (refine' KO;intro p4 w1 hS;refine' Kg;refine' M3;refine' ir (c:=QcY hS);rintro v1 w1 ⟨rfl,hS⟩;refine' Oh)
 all_goals
  first
  | (refine' JZ;all_goals (refine' Kw);all_goals (exact AZ))
  | (refine' J0;all_goals refine' J5)
 (((all_goals (refine' W0;refine' zm);all_goals (refine' J9 (c:=ef hx hS);rintro v1 w1 ⟨lb,rfl,hb,hS⟩;cases lb));all_goals (refine' Ll;refine' Mi;refine' Mi;(first|refine' J1|(refine' J4;refine' K5 (c:=Qhk hi hS);rintro v1 w1 ⟨rfl,hS⟩;unfold Kn));(first|refine' J1|(refine' J4;refine bp rfl rfl ?_))));all_goals (first|refine' J1|(refine' J4;(first|(refine' Qy)|(refine' QD)|(refine' Ad<;>intro hc)))));all_goals (refine' KU)
 all_goals
  first
  | (refine' JZ;all_goals (refine' Kw);all_goals (exact AZ))
  | (refine' J0;all_goals refine' J5)
 (((all_goals (refine' Nr);all_goals (have hsh:=yR (hb rfl).1;have hst:=QgO hc;refine' Kv (c:=pL hsh hx hS);rintro v1 w1 ⟨c1,ds,rfl,hle2,hn1,hS⟩;(try have hle:=hle.trans hle2);(try have hf:=hf.up hle2);(try have hx:=hx.up hle2);(try have hi:=hi.up hle2);obtain ⟨v8,rfl,hf8⟩:=NV hn1;obtain ⟨a8,n8,rfl⟩:=EU hf8;unfold Kn));all_goals (refine' Sh;intro p9 w1 hS;refine Qe hS ?_;intro p10 w1 hS;refine Ka hS ?_;intro w1 hS;have hS:=hS.ns;refine Ka hS ?_;intro w1 hS;have hS:=hS.ns;refine' zn;refine' MP));all_goals (first|(refine' Qy)|(refine' QD)|(refine' Ad<;>intro hc)));all_goals (refine' zn)
 all_goals
  first
  | (refine' JZ;all_goals (refine' Nr;refine' Kv (c:=dv hsh hx hS);rintro v1 w1 ⟨rfl,hS⟩;unfold Kn;refine bp rfl rfl ?_);all_goals (refine' Qy);all_goals (refine' KN);all_goals (exact AZ))
  | (refine' J0;all_goals refine' J5)
 (((((all_goals (refine Qu ?_;have hrz:m.runs.1=0:=Dc;have hF:=Xc hrz;have htr:=QgK hrz;have htr1:m.trim.runs.1=0:=(by rw [htr]);have hsh':=JT hsh;rw [if_pos hrz] at hn1 hf8 hS;(try rw [if_pos hrz]);refine' Lm;refine zv hS ?_);all_goals (refine' Kv (c:=pL hsh' hn1 hS);rintro v1 w1 ⟨c2,ds,rfl,hle2,hn2,hS⟩;(try have hle:=hle.trans hle2);(try have hf:=hf.up hle2);(try have hx:=hx.up hle2);(try have hi:=hi.up hle2);(try have hn1:=hn1.up hle2);(try have hf8:=hf8.up hle2);rw [if_pos htr1,QgJ hF] at hn2;obtain ⟨v7,rfl,hf7⟩:=NV hn2;obtain ⟨a7,n7,rfl⟩:=EU hf7;rw [htr];unfold Kn));all_goals (refine' Sh;intro p11 w1 hS;refine Qe hS ?_;intro p12 w1 hS;refine Ka hS ?_;intro w1 hS;have hS:=hS.ns;refine Ka hS ?_;intro w1 hS;have hS:=hS.ns;refine' zn;refine' MP));all_goals (refine' WY));all_goals (refine' zm;refine' Sg;refine' Sg;(first|refine' J1|(refine' J4;refine' J9 (c:=uB hn1 hn2 hS);rintro v1 w1 ⟨rfl,hS⟩;rw [decide_eq_true rfl]));refine' Oe;refine' Rl;refine' Sg;(first|refine' J1|(refine' J4;refine' Kv (c:=uQ hsh' hn1 hS);rintro v1 w1 ⟨rfl,hS⟩;rw [htr];unfold Kn));(first|refine' J1|(refine' J4;refine bp rfl rfl ?_))));all_goals (refine' fo));all_goals (refine' KU)
 all_goals
  first
  | (refine' JZ;all_goals (refine' Kw);all_goals (exact AZ))
  | (refine' J0;all_goals refine' J5)
 (((((all_goals (refine' Nr;refine' MQ;refine' zm);all_goals (refine' Nb (c:=xd hF hIn hin hst.1 hst.2.1 ⟨hst.2.2.1,Jo⟩ hf hi hS);rintro v1 w1 ⟨c3,b1,b2,z1,z2,hle2,rfl,ka,kb,hS⟩;(try have hle:=hle.trans hle2);(try have hf:=hf.up hle2);(try have hx:=hx.up hle2);(try have hi:=hi.up hle2);(try have hn1:=hn1.up hle2);(try have hn2:=hn2.up hle2);(try have hf8:=hf8.up hle2);(try have hf7:=hf7.up hle2);rw [vM hrz hsh];unfold Kn));all_goals (refine' Sh;intro p13 w1 hS;refine Qe hS ?_;intro p14 w1 hS;refine Ka hS ?_;intro w1 hS;have hS:=hS.ns;refine Ka hS ?_;intro w1 hS;have hS:=hS.ns;refine' Sp;refine' MQ;refine' zm));all_goals (refine' Nb (c:=xd (Xc htr1) (V8 hsh hIn) hin hst.1 hst.2.1 ⟨hst.2.2.1,Jo⟩ hf8 hi hS);rintro v1 w1 ⟨c4,b3,b4,z3,z4,hle2,rfl,kc,kd,hS⟩;(try have hle:=hle.trans hle2);(try have hf:=hf.up hle2);(try have hx:=hx.up hle2);(try have hi:=hi.up hle2);(try have hn1:=hn1.up hle2);(try have hn2:=hn2.up hle2);(try have hf8:=hf8.up hle2);(try have hf7:=hf7.up hle2);(try have ka:=ka.up hle2);(try have kb:=kb.up hle2);rw [vM htr1 hsh'];rw [Zg hF] at kc kd ⊢;unfold Kn));all_goals (refine' Sh;intro p15 w1 hS;refine Qe hS ?_;intro p16 w1 hS;refine Ka hS ?_;intro w1 hS;have hS:=hS.ns;refine Ka hS ?_;intro w1 hS;have hS:=hS.ns;refine' OR));all_goals (refine' Ql));all_goals (refine' zm;refine' Sg;refine' Sg;(first|refine' J1|(refine' J4;refine' J9 (c:=Qhl ka kb kc kd hS);rintro v1 w1 ⟨rfl,hS⟩;rw [decide_eq_true ⟨rfl,rfl,rfl,rfl⟩]));refine' Pr;refine' KN;exact AZ)
end
end Go.Proofs.YteflkifmgnpbhaaGreat
namespace Go.Proofs.YteflkifmgnpbhaaGreat
open Go.Lir
def ND:Cod.Of Tryz.prog 25 (JY.an Lh).list:=Cod.Of.list T7 Jk Jk Jk
theorem PE {c:Array Value}{x:Module}{inp:List Int}{w:World}(h1:RH.cod.rd w.heap c.toList x)(h2:ND.cod.rd w.heap [v] inp)(a b:Int):JW Tryz.prog sU [.agg c,v, .int .i64 a, .int .i64 b] w fun v w'=>v= .bool true∧Fr NF w w':=by
 obtain ⟨v',hv,hin⟩:=ND.top h2;cases hv;obtain ⟨hi,hr⟩:=GK hin;have hm:=RH.top h1;exact (Qfp hm.1 hm.2 hi hr (St.top w)).mono fun _ _ ⟨h,h2⟩=>⟨h,h2.fr⟩
end Go.Proofs.YteflkifmgnpbhaaGreat
