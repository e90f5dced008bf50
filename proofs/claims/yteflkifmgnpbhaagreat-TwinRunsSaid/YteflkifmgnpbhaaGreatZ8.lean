
/- Lemmas of the proof, part 8: contracts. -/
import Derived.Test.YteflkifmgnpbhaaGreatZ3
import Derived.Test.YteflkifmgnpbhaaGreatZ6
import Derived.Test.YteflkifmgnpbhaaGreatZ2
import Derived.Test.YteflkifmgnpbhaaGreatZ7
import Derived.Test.YteflkifmgnpbhaaGreatZ5
open Go Go.Lir Go.Proofs.YteflkifmgnpbhaaGreat
variable {n fuel pages c:Int}{u v lv vf v2:Value}{inp xs:List Int}{most hp:Nat}{r a:Run}{s:JS}{cs:List Value}{h:List Bool}{w:World}
set_option linter.unusedVariables false
set_option linter.unusedSimpArgs false
set_option maxHeartbeats 1000000
namespace Go.Lir
section
variable {p:Prop}
theorem Ao (h:p:=by exact ⟨_,rfl,Y,_,Fs Z,lM hM,xJ hM,Z.sp⟩):p:=h
theorem AL (h:p:=by exact ⟨_,rfl,(by rw [hJ]),Z.sp⟩):p:=h
theorem AW (h:p:=by exact ⟨_,rfl,c9,_,hle9,ZJ hM,lL hM hk9,Z⟩):p:=h
theorem Bl (h:p:=by exact ⟨_,rfl,c9,_,hle9,lN hC,xK hT hk9,Z⟩):p:=h
theorem B1 (h:p:=by exact ⟨_,rfl,Y,_,Fs Z,lN hC,xK hT (FU _ _ _),Z.sp⟩):p:=h
theorem B7 (h:p:=by exact ⟨⟨_,q+1,_,_,zh,zh,hL2,V,by rw [Us hx4,E7];exact hls2,Z.sp⟩,Qh V⟩):p:=h
theorem Cz (h:p:=by exact ⟨_,rfl,(by rw [hJ]),Ge Z.sp (hle2.trans hle3)⟩):p:=h
end
end Go.Lir
namespace Go.Proofs.YteflkifmgnpbhaaGreat
open Go.Lir
attribute [local irreducible] LC.wp Q0 Qp Qk KN Qw LO.wp Q6 Calls
section
variable {Y:Cx}{w:World}{L:List Res}{i:Nat}
def cK:To:=⟨0,[],[]⟩
@[reducible] def cL (n:Int):Module:=⟨[⟨0,[],[.mk 1 0 []],[⟨0,[],[⟨1,0,0,0,0,5,[],[]⟩],⟨3,0,cK,cK,[n]⟩⟩]⟩]⟩
theorem Qf8 (n:Int):(cL n).Short:=by
 refine ⟨FC rfl,fun f hf=>?_⟩;simp [cL] at hf;subst hf;refine ⟨⟨FC rfl,by simp⟩,⟨FC rfl,fun t ht=>?_⟩,FC rfl,fun b hb=>?_⟩
 · simp at ht;subst ht;exact .mk Jd Js
 · simp at hb;subst hb;refine ⟨⟨FC rfl,by simp⟩,FC rfl,fun i hi=>?_,⟨FC rfl,FC rfl⟩,⟨FC rfl,FC rfl⟩,by simp⟩;simp at hi;subst hi;exact ⟨by decide,by decide⟩
theorem gW (Z:St Y w L):Ka Tryz.prog wg [] w fun u B=>∃q1 q2 q3 la lb,u= .agg ⟨[.slice (some ⟨la,0,none⟩) 1 1]⟩∧St Y B (blk q1 115 [.int .i64 1, .int .i64 0, .slice none 0 0]::blk q2 84 [.int .i64 1, .int .i64 0, .int .i64 0, .int .i64 0, .int .i64 0, .int .i64 5, .slice none 0 0, .slice none 0 0]::blk q3 3 [.int .i64 0]::blk lb 92 [.int .i64 0, .slice none 0 0, .slice (some ⟨q2,0,none⟩) 1 1, .int .i64 3, .int .i64 0, .int .i64 0, .slice none 0 0, .slice none 0 0, .int .i64 0, .slice none 0 0, .slice none 0 0, .slice (some ⟨q3,0,none⟩) 1 1]::blk la 95 [.int .i64 0, .slice none 0 0, .slice (some ⟨q1,0,none⟩) 1 1, .slice (some ⟨lb,0,none⟩) 1 1]::L):=by
 refine Kl Kh Tryz.func50 ?_;refine' Ov;(intro p0 E Z);refine' zn;refine' Kn;refine' qC (c:=aC Z);rintro v1 E ⟨la,lb,rfl,Z⟩;simp only [zg] at Z;refine Qb Z ?_;(intro p1 E Z);((refine Kp Z ?_;intro E Z;have Z:=Z.ns));refine' Nl;refine OF [_,_,_] ?_;refine Rw (cs:=[_,_,_]) vw Jr ?_;intro q1 E hb1 hf1 _ hk1;have Z:=Z.laid hb1 hf1 hk1;refine da rfl rfl Jd Jd ?_;refine' XQ;intro E Z;have Z:=Z.ns;refine' Nl;refine da rfl rfl Jd Jd ?_;refine' KJ;refine M8 [_,_,_,_,_,_,_,_] ?_;refine Rw (cs:=[_,_,_,_,_,_,_,_]) vw Jr ?_;intro q2 E hb1 hf1 _ hk1;have Z:=Z.laid hb1 hf1 hk1;refine da rfl rfl Jd Jd ?_;refine' XQ;intro E Z;have Z:=Z.ns;refine' Nl;refine da rfl rfl Jd Jd ?_;refine' KJ;refine Rw (cs:=[_]) vw Jr ?_;intro q3 E hb1 hf1 _ hk1;have Z:=Z.laid hb1 hf1 hk1;refine da rfl rfl Jd Jd ?_;refine' MT;refine' NN;refine Lv Z ?_;intro E Z;have Z:=Z.ns;refine' RP;((refine Kp Z ?_;intro E Z;have Z:=Z.ns));refine' LM;refine QO vw (Q3 (n:=1) Jk Jk (Z.blkAt fd) Jr Jr) ?_;((exact ⟨_,rfl,q1,q2,q3,la,lb,rfl,Z.sp⟩))
theorem aT {q1 q2 q3 la lb:Nat}(Z:St Y w (blk q1 115 [.int .i64 1, .int .i64 0, .slice none 0 0]::blk q2 84 [.int .i64 1, .int .i64 0, .int .i64 0, .int .i64 0, .int .i64 0, .int .i64 5, .slice none 0 0, .slice none 0 0]::blk q3 3 [.int .i64 n]::blk lb 92 [.int .i64 0, .slice none 0 0, .slice (some ⟨q2,0,none⟩) 1 1, .int .i64 3, .int .i64 0, .int .i64 0, .slice none 0 0, .slice none 0 0, .int .i64 0, .slice none 0 0, .slice none 0 0, .slice (some ⟨q3,0,none⟩) 1 1]::blk la 95 [.int .i64 0, .slice none 0 0, .slice (some ⟨q1,0,none⟩) 1 1, .slice (some ⟨lb,0,none⟩) 1 1]::L)):∃c',Y.Le c'∧Lr.at c' [.slice (some ⟨la,0,none⟩) 1 1] (cL n)∧St c' w L:=by
 have n0:∀c:Cx,KA.sl c (.slice none 0 0) []:=fun c=>FU _ _ _;have n1:∀c:Cx,Kb.sl c (.slice none 0 0) []:=fun c=>FU _ _ _;obtain ⟨c1,hle1,Z,I⟩:=Gh (r:=KA) (x:= .mk 1 0 []) Z (Ry (n0 _));obtain ⟨c2,hle2,Z,M⟩:=Gh (r:=K1) (x:=⟨1,0,0,0,0,5,[],[]⟩) Z ⟨_,_,rfl,n1 _,n1 _⟩;obtain ⟨c3,hle3,Z,h3⟩:=Gh (r:=Kb) (x:=n) Z rfl;obtain ⟨c4,hle4,Z,h4⟩:=Gh (r:=K3) (x:=⟨0,[],[⟨1,0,0,0,0,5,[],[]⟩],⟨3,0,cK,cK,[n]⟩⟩) Z (uQ (x:=⟨0,[],[⟨1,0,0,0,0,5,[],[]⟩],⟨3,0,cK,cK,[n]⟩⟩) (n0 _) (Fo M hle3) (n1 _) (n1 _) (n1 _) (n1 _) h3);obtain ⟨c5,hle5,Z,h5⟩:=Gh (r:=Ks) (x:=⟨0,[],[.mk 1 0 []],[⟨0,[],[⟨1,0,0,0,0,5,[],[]⟩],⟨3,0,cK,cK,[n]⟩⟩]⟩) Z ⟨_,_,_,rfl,n0 _,Fo I (hle2.trans (hle3.trans hle4)),h4⟩;exact ⟨c5,hle1.trans (hle2.trans (hle3.trans (hle4.trans hle5))),⟨_,rfl,h5⟩,Z⟩
theorem gY (Z:St Y w L):Ka Tryz.prog wg [] w fun u B=>∃c' vf,Y.Le c'∧u= .agg ⟨[vf]⟩∧Lr.at c' [vf] (cL 0)∧St c' B L:=by
 refine (gW Z).mono fun u B h=>?_;obtain ⟨q1,q2,q3,la,lb,rfl,Z⟩:=h;obtain ⟨c',I,M,h3⟩:=aT Z;exact ⟨c',_,I,rfl,M,h3⟩
end
section
variable {Y:Cx}{w:World}{L:List Res}{m:Module}{inp:List Int}
theorem Qf7:MZ (cL 0) [] 9 0=(0,0):=by decide+kernel
theorem Xt:(Run.all (cL 0) [] (9:Int).toNat 0).oc=⟨0,[5],[],2⟩:=by rfl
theorem SE.ok (hz:MZ m inp fuel pages=(0,0))(hs:SE m inp fuel pages Y L u w):m.runs.1=0∧∃c' v1 v2,Y.Le c'∧u= .tuple #[oF (Run.all m inp fuel.toNat pages).oc v1 v2,Kz (0,0)]∧Kb.sl c' v1 (Run.all m inp fuel.toNat pages).oc.back∧Kb.sl c' v2 (Run.all m inp fuel.toNat pages).oc.out∧St c' w L:=by
 rcases hs with ⟨I,_⟩|⟨_,I⟩
 · rw [hz] at I;exact absurd rfl I
 · exact I
theorem SE.bad (hz:(MZ m inp fuel pages).1≠0)(hs:SE m inp fuel pages Y L u w):u= .tuple #[.agg ⟨[.int .i64 0, .slice none 0 0, .slice none 0 0, .int .i64 0]⟩,Kz (MZ m inp fuel pages)]∧St Y w L:=by
 rcases hs with ⟨_,I⟩|⟨I,_⟩
 · exact I
 · rw [I] at hz;exact absurd rfl hz
end
section
variable {Y:Cx}{w:World}{L:List Res}{i:Nat}
theorem me.ok {m:Module}(hz:SA m inp fuel pages=(0,0))(hs:me m inp fuel pages Y L u w):∃c' v1 v2,Y.Le c'∧u= .tuple #[oF (Run.all m inp fuel.toNat pages).oc v1 v2,Kz (Run.all m inp fuel.toNat pages).flt]∧Kb.sl c' v1 (Run.all m inp fuel.toNat pages).oc.back∧Kb.sl c' v2 (Run.all m inp fuel.toNat pages).oc.out∧St c' w L:=by
 rcases hs with ⟨I,_⟩|⟨_,I⟩
 · rw [hz] at I;exact absurd rfl I
 · exact I
end
section
variable {Y:Cx}{w:World}{L:List Res}{p N:Nat}{c:MC}{z:GZ}{fr:List FrmV}{g:FrmV}{h:HpS}{out inp back:List Int}{m:Module}
def gZ (inp:List Int)(fuel pages:Int):Mj:=if 200<inp.length∨fuel<0∨20000<fuel∨pages<0∨64<pages then (1, -1) else (0,0)
theorem zI (hi:Kb.sl Y v inp)(Z:St Y w L):Ka Tryz.prog Qe1 [v, .int .i64 fuel, .int .i64 pages] w fun u B=>u=Kz (gZ inp fuel pages)∧St Y B L:=by
 ((((have hil:=hi.len;refine Kl Kh Tryz.func15 ?_;refine' Ov;(intro p6 E Z);refine' zn;refine' Lb;refine' zL;(refine' Af<;>intro O);all_goals (refine' Md;first|refine' Kj|(refine' Kg;refine' Ae<;>intro O)));all_goals (refine' Po;first|refine' Kj|(refine' Kg;refine' Af<;>intro O)));all_goals (refine' Po;first|refine' Kj|(refine' Kg;refine' Ae<;>intro O)));all_goals (refine' Po;first|refine' Kj|(refine' Kg;refine' Af<;>intro O)));all_goals (refine' Ld)
 all_goals
  first
  | (refine' Kf;all_goals (refine' Kn;refine' Kk (c:=M5 Z);rintro v1 E ⟨rfl,Z⟩;refine Kp Z ?_;intro E Z;have Z:=Z.ns;refine' LM;refine QO vw (Q3 (n:=2) Jk Jk (Z.blkAt fd) Jr Jr) ?_);all_goals (exact ⟨_,rfl,(by rw [show gZ inp fuel pages=(1, -1) from Qip V];rfl),Z.sp⟩))
  | (refine' Kd;refine' Ko)
 refine' Kn;refine Ly [_,_] ?_;refine Kp Z ?_;intro E Z;have Z:=Z.ns;refine' LM;refine QO vw (Q3 (n:=2) Jk Jk (Z.blkAt fd) Jr Jr) ?_;(exact ⟨_,rfl,(by rw [show gZ inp fuel pages=(0,0) from Qin V];rfl),Z.sp⟩)
theorem DR.on {most:Nat}{r:Run}(hD:DR m most z fr g N h inp out back r)(hz:z.dn=false):∃s,r= .on s:=by
 cases r with
 | on s=>exact ⟨s,rfl⟩
 | over s e b=>obtain ⟨-, -, -,h4, -⟩:=hD;rw [hz] at h4;cases h4
 | stuck f=>exact hD.elim
theorem DR.over {most:Nat}{r:Run}(hD:DR m most z fr g N h inp out back r)(hz:z.dn=true):r= .over ⟨h,(match r with| .over s _ _=>s.g|_=>⟨0,0,0,[],[]⟩),(match r with| .over s _ _=>s.st|_=>[]),(match r with| .over s _ _=>s.inp|_=>[]),out,(match r with| .over s _ _=>s.fuel|_=>0)⟩ z.e back:=by
 cases r with
 | on s=>obtain ⟨-, -,h4, -⟩:=hD;rw [hz] at h4;cases h4
 | over s e b=>obtain ⟨rfl,rfl,rfl, -, -,rfl, -⟩:=hD;rfl
 | stuck f=>exact hD.elim
theorem PR.same {N2:Nat}{fr2:List FrmV}{g2:FrmV}{M:HpS}{out2 inp2 back2:List Int}(hP:PR m most c fr g N h inp out back r)(hD:DR m most z fr2 g2 N2 M inp2 out2 back2 r):M=h∧out2=out∧back2=back∧z.dn=c.dn∧z.fu=c.fu∧z.e=c.e∧out.length≤2000∧back.length≤100000∧N2≤most+1:=by
 cases r with
 | on s=>
   obtain ⟨a1,a2,a3,a4,a5,a6,a7,a8,a9,a10⟩:=hP;obtain ⟨b1,b2,b3,b4,b5,b6,b7,b8,b9,b10,b11⟩:=hD;have e1:s.h=h:=Dd;have e2:s.h=M:=(by rw [b1];rfl);have e3:s.out=out:=Dd;have e4:s.out=out2:=(by rw [b1];rfl);refine ⟨by rw [←e1,←e2],by rw [←e3,←e4],by rw [a2,b2],by rw [a3,b3],by rw [a6,b6],by rw [a5,b5],by rw [←e3];exact a10.out,by rw [a2];exact FB _,V⟩
 | over s e b=>
   obtain ⟨a1,a2,a3,a4,a5,a6,a7,a8⟩:=hP;obtain ⟨b1,b2,b3,b4,b5,b6,b7,b8,b9,b10⟩:=hD;exact ⟨by rw [a1,b1],by rw [a2,b2],by rw [a3,b3],by rw [a4,b4],by rw [a6,b7],by rw [a5,b6],a7,a8,b8⟩
 | stuck f=>exact hP.elim
theorem PR.first {hp fn iv:Value}(hM:m.fault.1=0)(h0:0≤fuel):PR m fuel.toNat (RX hp fn lv iv fuel) [] Om 0 ⟨[],pages⟩ inp [] [] (.on (MS.start inp pages)):=
 ⟨rfl,rfl,rfl,rfl,rfl,rfl,FB _,(Fi h0).symm,FB _,IF hM inp pages⟩
theorem DR.first {fn fv iv:Value}(hM:m.fault.1=0)(h0:0≤fuel)(hin:∀n∈inp,Mh n):DR m fuel.toNat (aO fn fv iv fuel) [] Om 0 ⟨[],pages⟩ inp [] [] (.on (MS.start inp pages)):=
 ⟨rfl,rfl,rfl,⟨rfl,rfl⟩,rfl,rfl,FB _,(Fi h0).symm,FB _,IF hM inp pages,Rg.start hin⟩
theorem RA.on {s:MS}(hA:RA m most a (.on s))(hP:PR m most c fr g N h inp out back (.on s)):RA m most a (Run.step m most (.on s)):=by
 obtain ⟨a1,a2,a3,a4,a5,a6,a7,a8,a9,a10⟩:=hP;by_cases hk:s.fuel=most
 · rw [show Run.step m most (.on s)= .over s 7 [] from Qip hk];exact JO hA hk
 · rw [show Run.step m most (.on s)= .of m s (s.tick.one m) from Qin hk];exact Ba
end
end Go.Proofs.YteflkifmgnpbhaaGreat
namespace Go.Proofs.YteflkifmgnpbhaaGreat
open Go.Lir
section
variable {N:Nat}{z:GZ}{fr:List FrmV}{g:FrmV}{h:HpS}{out inp back:List Int}{m:Module}
theorem DR.fin (hD:DR m most z fr g N h inp out back r)(hA:RA m most a r)(hz:z.dn=true):a.flt=(0,0)∧a.oc=⟨z.e,back,out,z.fu⟩∧z.c=0∧z.a=0:=by
 cases r with
 | on s=>obtain ⟨-, -,h4, -⟩:=hD;rw [hz] at h4;cases h4
 | over s e b=>
   obtain ⟨b1,b2,b3,b4,⟨b5,b9⟩,b6,b7, -⟩:=hD;have hA:a= .over s e b:=hA;refine ⟨by rw [hA];rfl,by rw [hA,b2,b3,b6,b7];rfl,b5,b9⟩
 | stuck f=>exact hD.elim
theorem RA.stuck {f:Mj}(hA:RA m most a r)(hr:r= .stuck f):a.flt=f∧a.oc=⟨0,[],[],0⟩:=by
 subst hr;have hA:a= .stuck f:=hA;exact ⟨by rw [hA];rfl,by rw [hA];rfl⟩
end
section
variable {N:Nat}{z:GZ}{fr:List FrmV}{g:FrmV}{h:HpS}{out inp back:List Int}{m:Module}
theorem RA.onD {s:MS}(hA:RA m most a (.on s))(hP:DR m most z fr g N h inp out back (.on s)):RA m most a (Run.step m most (.on s)):=by
 obtain ⟨a1,a2,a3,a4,a5,a6,a7, -⟩:=hP;by_cases hk:s.fuel=most
 · rw [show Run.step m most (.on s)= .over s 7 [] from Qip hk];exact JO hA hk
 · rw [show Run.step m most (.on s)= .of m s (s.tick.one m) from Qin hk];exact Ba
theorem DR.lens (hD:DR m most z fr g N h inp out back r):out.length≤2000∧back.length≤100000:=by
 cases r with
 | on s=>
   obtain ⟨a1,a2,a3,a4,a5,a6,a7,a8,a9,a10, -⟩:=hD;have e3:s.out=out:=Dd;exact ⟨by rw [←e3];exact a10.out,by rw [a2];exact FB _⟩
 | over s e b=>
   obtain ⟨-, -, -, -, -, -, -, -,a7,a8⟩:=hD;exact ⟨a7,a8⟩
 | stuck f=>exact hD.elim
end
end Go.Proofs.YteflkifmgnpbhaaGreat
namespace Go.Proofs.YteflkifmgnpbhaaGreat
open Go.Lir
attribute [local irreducible] LC.wp Q0 Qp Qk KN Qw LO.wp Q6 Calls
variable {Y:Cx}{w:World}{L:List Res}{m:Module}{inp:List Int}
def SG (m:Module)(inp:List Int)(fuel pages:Int)(Y:Cx)(L:List Res)(u:Value)(B:World):Prop:=
 ((MZ m inp fuel pages).1≠0∧u= .tuple #[.pointer none,Kz (MZ m inp fuel pages)]∧St Y B L)∨
 (MZ m inp fuel pages=(0,0)∧m.runs.1=0∧inp.length≤200∧0≤fuel∧fuel≤20000∧∃(n:Nat),pages=n∧n≤64∧∃c' t p q hp fn lv i1 ep fn2 lv2 i2,u= .tuple #[.pointer (some ⟨t,0,none⟩),Kz (0,0)]∧Y.Le c'∧Ks.sl c' fn m.funcs∧Kb.sl c' i1 inp∧Ks.sl c' fn2 m.funcs∧Kb.sl c' i2 inp∧St c' B (tX t p q (RX hp fn lv i1 fuel) [] Om 0 ⟨[],n⟩ [] [] (jv ep fn2 lv2 i2 fuel) [] jw (EstS.mk0 n) L))
theorem g8 (hsh:m.Short)(hx:Lr.at Y cs m)(hi:Kb.sl Y v inp)(Z:St Y w L):
 Ka Tryz.prog U7 [.agg ⟨cs⟩,v, .int .i64 fuel, .int .i64 pages] w (SG m inp fuel pages Y L):=by
 have hx':=hx;obtain ⟨vf,rfl,hf⟩:=NR hx;unfold SG;refine Kl Kh Tryz.func46 ?_;refine' KU;intro p4 E Z;refine' zm;refine Qb Z ?_;(intro p9 E Z);refine' RP;refine' Me;refine' zm;refine' M3 (c:=gB hsh hx' hi Z);rintro v1 E hN;rcases hN.split with ⟨hz,rfl,Z⟩|⟨hs0,hR,hil,hf0,hf1,n,rfl,hq,c2,q,ep,fn2,lv2,i2,rfl,hle2,hfn2,hi2,Z⟩
 all_goals (unfold Kz;dsimp only;refine' Rk;intro p11 E Z;refine' zm;refine Kp Z ?_;intro E Z;have Z:=Z.ns;refine' LA;refine' L5;refine' Y4;refine' zn)
 all_goals
  first
  | (refine' Kf;refine Qm ?_;refine zD (ci 3 [2]) ?_;have Z:=Z.drew;refine zv Z ?_;refine' zm;((refine Kp Z ?_;intro E Z;have Z:=Z.ns));refine' LM;refine Px vw vw (Q3 (n:=2) Jk Jk (Z.blkAt fd) Jr Jr) ?_;(exact ⟨_,rfl, .inl ⟨hz,rfl,Z.sp⟩⟩))
  | (refine' Kd;refine' Ko)
 refine' MM;refine' Me;refine' zm;refine' M3 (c:=mb hsh (IS hx' hle2) (Fo hi hle2) Z);rintro v1 E hN2;rcases hN2 with ⟨hz,rfl,Z⟩|⟨-, -, -, -, -, -, -,c3,p,hp,fn,lv,i1,rfl,hle3,hfn,hi1,Z⟩;(exact absurd (by rw [yh (by rw [Tk hR];decide) V]) hz)
 unfold Kz;(dsimp only);refine' Sf;((refine Kp Z ?_;intro E Z;have Z:=Z.ns));refine' LA;refine' L5;refine' TA;refine' zn
 all_goals
  first
  | (refine' Kd;refine' Ko)
 refine' KW;refine M8 [_,_,_,_] ?_;refine zb Z ?_;intro p40 E Z;refine Ly [_,_] ?_;refine' zm;refine Kp Z ?_;intro E Z;have Z:=Z.ns;refine' LM;refine Px vw vw (Q3 (n:=2) Jk Jk (Z.blkAt fd) Jr Jr) ?_;(have Z:=Z.nil (T:=2) (es:=1);have Z:=Z.nil (T:=2) (es:=1);exact ⟨_,rfl, .inr ⟨hs0,hR,hil,hf0,hf1,n,rfl,hq,c3,_,p,q,hp,fn,lv,i1,ep,fn2,lv2,i2,rfl,hle2.trans hle3,hfn,hi1,Fo hfn2 hle3,Fo hi2 hle3,Z.sp⟩⟩)
theorem SG.split (h:SG m inp fuel pages Y L u w):((MZ m inp fuel pages).1≠0∧u= .tuple #[.pointer none,Kz (MZ m inp fuel pages)]∧St Y w L)∨
 (MZ m inp fuel pages=(0,0)∧m.runs.1=0∧inp.length≤200∧0≤fuel∧fuel≤20000∧∃(n:Nat),pages=n∧n≤64∧∃c' t p q hp fn lv i1 ep fn2 lv2 i2,u= .tuple #[.pointer (some ⟨t,0,none⟩),Kz (0,0)]∧Y.Le c'∧Ks.sl c' fn m.funcs∧Kb.sl c' i1 inp∧Ks.sl c' fn2 m.funcs∧Kb.sl c' i2 inp∧St c' w (tX t p q (RX hp fn lv i1 fuel) [] Om 0 ⟨[],n⟩ [] [] (jv ep fn2 lv2 i2 fuel) [] jw (EstS.mk0 n) L)):=h
theorem PR.on {c:MC}{fr:List FrmV}{g:FrmV}{N:Nat}{h:HpS}{inp1 out back:List Int}{most:Nat}{r:Run}(hP:PR m most c fr g N h inp1 out back r)(hdn:c.dn=false):∃ms,r= .on ms∧ms.fuel≤most:=by
 cases r with
 | on ms=>obtain ⟨-, -, -, -, -, -,h7, -⟩:=hP;exact ⟨ms,rfl,h7⟩
 | over ms e b=>obtain ⟨-, -, -,h4, -⟩:=hP;rw [hdn] at h4;cases h4
 | stuck f=>exact hP.elim
theorem PR.fin {c:MC}{fr:List FrmV}{g:FrmV}{N:Nat}{h:HpS}{inp1 out back:List Int}(hP:PR m most c fr g N h inp1 out back r)(hA:RA m most a r)(hdn:c.dn=true):a.oc=⟨c.e,back,out,c.fu⟩∧out.length≤2000∧back.length≤100000:=by
 cases r with
 | on ms=>obtain ⟨-, -,h3, -⟩:=hP;rw [hdn] at h3;cases h3
 | over ms e b=>
   obtain ⟨-,I,M, -,h4,h5,h6,h7⟩:=hP;have hA:a= .over ms e b:=hA;refine ⟨?_,h6,h7⟩;rw [hA,I,M,h4,h5];rfl
 | stuck f=>exact hP.elim
def Rc (m:Module)(inp:List Int)(fuel pages:Int)(Y:Cx)(L:List Res)(u:Value)(B:World):Prop:=
 ((MZ m inp fuel pages).1≠0∧u= .tuple #[.agg ⟨[.int .i64 0, .slice none 0 0, .slice none 0 0, .int .i64 0]⟩,Kz (MZ m inp fuel pages)]∧St Y B L)∨
 (MZ m inp fuel pages=(0,0)∧m.runs.1=0∧∃c' a1 x1 y1 a2 x2 y2 oc,(Run.all m inp fuel.toNat pages).oc=oc∧Y.Le c'∧u= .tuple #[.agg ⟨[.int .i64 oc.e, .slice a1 x1 y1, .slice a2 x2 y2, .int .i64 oc.fuel]⟩,Kz (0,0)]∧Kb.sl c' (.slice a1 x1 y1) oc.back∧Kb.sl c' (.slice a2 x2 y2) oc.out∧St c' B L)
attribute [local irreducible] PR QR RA Run.all Run.oc Run.step MZ
theorem Xu (hsh:m.Short)(hx:Lr.at Y cs m)(hi:Kb.sl Y v inp)(Z:St Y w L):
 Ka Tryz.prog we [.agg ⟨cs⟩,v, .int .i64 fuel, .int .i64 pages] w (Rc m inp fuel pages Y L):=by
 have hx':=hx;obtain ⟨vf,rfl,hf⟩:=NR hx;unfold Rc;refine Kl Kh Tryz.func48 ?_;refine' KU;intro p4 E Z;refine Qb Z ?_;(intro p8 E Z);refine Qb Z ?_;(intro p9 E Z);refine' RP;refine' Me;refine' zm;refine' M3 (c:=g8 hsh hx' hi Z);rintro v1 E hN;rcases hN.split with ⟨hz,rfl,Z⟩|⟨hs0,hR,hil,hf0,hf1,n,rfl,hq,c2,t,p,q,hp,fn,lv,i1,ep,fn2,lv2,i2,rfl,hle2,hfn,hin,hfn2,hin2,Z⟩
 all_goals (unfold Kz;dsimp only;refine' Rk;intro p11 E Z;refine' zm;refine Kp Z ?_;intro E Z;have Z:=Z.ns;refine' LA;refine' L5;refine' Y4;refine' zn)
 all_goals
  first
  | (refine' Kf;refine Qm ?_;refine zC [(0,none),(1,none),(2,some (some [1])),(3,some none)] ?_;have Z:=Z.drew;refine' KS;refine Ly [_,_,_,_] ?_;refine' Ku;refine zv Z ?_;refine' Lh;((refine Kp Z ?_;intro E Z;have Z:=Z.ns));refine' LY;((refine Kp Z ?_;intro E Z;have Z:=Z.ns));refine' K7;refine' zr;refine nh vw (Q3 (n:=4) Jk Jk (Z.blkAt fd) Jr Jr) vw (Q3 (n:=2) Jk Jk (Z.blkAt fd) Jr Jr) ?_;(exact ⟨_,rfl, .inl ⟨hz,rfl,Z.sp⟩⟩))
  | (refine' Kd;refine' Ko)
 refine' UQ;refine zo [8,9,10] (fun A ρ' B=>∃(r:Run) (c:MC) (fr:List FrmV) (g:FrmV) (N:Nat) (h:HpS) (inp1 out back:List Int) (cy:RC) (fr2:List RFV) (g2:RFV) (s:EstS) (inp2:List Int),Ki ρ' A∧Ki ρ' []∧(RA m fuel.toNat (Run.all m inp fuel.toNat n) r)∧(PR m fuel.toNat c fr g N h inp1 out back r)∧(QR m fuel.toNat cy fr2 g2 s inp2 out back r)∧(Ks.sl c2 c.fn m.funcs)∧(Kb.sl c2 c.iv inp1)∧(Ks.sl c2 cy.fn m.funcs)∧(Kb.sl c2 cy.iv inp2)∧St c2 B (tX t p q c fr g N h out back cy fr2 g2 s (blk p11 29 [.int .i64 0, .int .i64 0]::blk p9 29 [.int .i64 0, .int .i64 0]::blk p8 33 [.int .i64 0, .slice none 0 0, .slice none 0 0, .int .i64 0]::L))) (fun _ B=>gm B p) ?_ ?_
 · exact ⟨.on (MS.start inp n),RX hp fn lv i1 fuel,[],Om,0,⟨[],n⟩,inp,[],[],jv ep fn2 lv2 i2 fuel,[],jw,EstS.mk0 n,inp,zh,zh,RA.first,PR.first (Tk hR) hf0,QR.first hR hsh hf0 hq,hfn,hin,hfn2,hin2,Z.sp⟩
 rintro U E ⟨r,c,fr,g,N,h,inp1,out,back,cy,fr2,g2,s,inp2,hA,hρ,hRA,hP,hQ,hfn1,hin1,hfny,hiny,Z⟩;obtain ⟨U,rfl⟩:=Km hA hρ;have hm0:=WR (c:=c) (L:=L) (show St c2 _ (blk p 55 c.cells::L) from Z.sp);refine' Lb;refine' LG;refine' Kw (c:=s6 (c:=c) (show St c2 _ (blk p 55 c.cells::_) from Z.sp));rintro v1 E ⟨rfl,Z⟩;cases hdn:c.dn;all_goals (refine' O2)
 all_goals
  first
  | (refine' Kf
     refine' Ko;refine' PS;refine' KX;obtain ⟨ms,rfl,hkm⟩:=hP.on hdn;have hRA':=hRA.nx hkm;refine' Kw (c:=aS hP hQ hdn hR hsh V hfn1 hin1 hfny hiny (show St c2 _ (tX t p q c fr g N h out back cy fr2 g2 s _) from Z.sp));rintro v1 E ⟨rfl,c',fr',g',N',h',inp',out',back',cy',fr2',g2',s',inp2',hP',hQ',hfn',hin',hfny',hiny',hlt,Z⟩;unfold Kz;refine Qb Z ?_;intro p12 E Z;refine Kp Z ?_;intro E Z;have Z:=Z.ns;refine' Nl;refine' TA;refine' zn
     all_goals
      first
      | (refine' Kd;refine' Ko)
     (exact ⟨⟨Run.step m fuel.toNat (.on ms),c',fr',g',N',h',inp',out',back',cy',fr2',g2',s',inp2',zh,zh,hRA',hP',hQ',(by rw [hfn'];exact hfn1),hin',(by rw [hfny'];exact hfny),hiny',Z.sp⟩,(by rw [WR (c:=c') (L:=L) (show St c2 _ (blk p 55 c'.cells::L) from Z.sp),hm0];exact hlt)⟩))
  | (refine' Kd;refine' LV;refine' KX;refine' LG;obtain ⟨ho,hol,hbl⟩:=hP.fin hRA hdn;refine' Kw (c:=zG (c:=c) (back:=back) (out:=out) (i:=0) (j:=1) (L:=sl 2 1 c.bv (back.map Qq)::sl 2 1 c.ov (out.map Qq)::_) V V rfl rfl Z.sp);rintro v1 E ⟨k1,u1,u2,hk1,rfl,z1,z2,Z⟩;obtain ⟨a1,n1,rfl⟩:=E0 z1;obtain ⟨a2,n2,rfl⟩:=E0 z2;refine Ly [_,_] ?_;refine Kp Z ?_;intro E Z;have Z:=Z.ns;refine Kp Z ?_;intro E Z;have Z:=Z.ns;refine' LM;refine nh vw (Q3 (n:=4) Jk Jk (Z.blkAt fd) Jr Jr) vw (Q3 (n:=2) Jk Jk (Z.blkAt fd) Jr Jr) ?_;(exact ⟨_,rfl, .inr ⟨hs0,hR,k1,a1,_,n1,a2,_,n2,⟨c.e,back,out,c.fu⟩,ho,hle2.trans hk1,rfl,z1,z2,Z.sp⟩⟩))
theorem aU (hx:Lr.at Y [vf] (cL 0))(Z:St Y w L):Ka Tryz.prog we [.agg ⟨[vf]⟩, .slice none 0 0, .int .i64 9, .int .i64 0] w fun u B=>∃c' a1 x1 y1 a2 x2 y2,Y.Le c'∧u= .tuple #[.agg ⟨[.int .i64 0, .slice a1 x1 y1, .slice a2 x2 y2, .int .i64 2]⟩, .agg ⟨[.int .i64 0, .int .i64 0]⟩]∧Kb.sl c' (.slice a1 x1 y1) [5]∧Kb.sl c' (.slice a2 x2 y2) []∧St c' B L:=by
 refine (Xu (m:=cL 0) (inp:=[]) (Qf8 0) hx (FU _ _ _) Z).mono fun u B hs=>?_;rcases hs with ⟨I,_⟩|⟨_,_,c',a1,x1,y1,a2,x2,y2,oc,ho,I,M,h3,h4,h5⟩
 · rw [Qf7] at I;exact absurd rfl I
 · obtain rfl:oc=⟨0,[5],[],2⟩:=ho.symm.trans Xt;exact ⟨c',a1,x1,y1,a2,x2,y2,I,M,h3,h4,h5⟩
theorem Qeh (Z:St Y w L):Ka Tryz.prog Qcv [] w fun u B=>u= .bool true∧St Y B L:=by
 have n1:∀c:Cx,Kb.sl c (.slice none 0 0) []:=fun c=>FU _ _ _;refine Kl Kh Tryz.func45 ?_;refine' LS;refine' Kn;refine' qC (c:=gY Z);rintro v1 E ⟨c1,vf,hle1,rfl,hx1,Z⟩;refine' M3 (c:=aU hx1 Z);rintro v1 E ⟨c2,a1,x1,y1,a2,x2,y2,hle2,rfl,k1,k2,Z⟩;refine' Rk;(intro p1 E Z);refine Qb Z ?_;(intro p2 E Z);((refine Kp Z ?_;intro E Z;have Z:=Z.ns));((refine Kp Z ?_;intro E Z;have Z:=Z.ns));refine' Nl;refine' SW;refine' zm;((refine' TJ));((refine' Kg;refine Rw (cs:=[_]) vw Jr ?_;intro q5 E hb1 hf1 _ hk1;have Z:=Z.laid hb1 hf1 hk1));((refine' Kg;refine M8 [_,_,_,_] ?_));((refine' Kg;obtain ⟨c6,hle6,Z,h6⟩:=Gh (r:=Kb) (x:=5) Z rfl;refine' Kk (c:=mC (Fo k1 hle6) (Fo k2 hle6) h6 (n1 _) Z);rintro v1 E ⟨rfl,Z⟩;rw [show decide ((0:Int)=0∧[(5:Int)]=[5]∧([]:List Int)=[]∧(2:Int)=2)=true by decide]));refine' OZ;refine' zm;((refine' TJ));((refine' Kg;refine Ly [_,_,_,_] ?_));((refine' Kg;refine' Kk (c:=mC (Fo k1 hle6) (Fo k2 hle6) (n1 _) (n1 _) Z);rintro v1 E ⟨rfl,Z⟩;rw [show decide ((0:Int)=0∧[(5:Int)]=[]∧([]:List Int)=[]∧(2:Int)=0)=false by decide]));((refine' P5));refine' OZ;refine' KQ;((exact ⟨_,rfl,rfl,Ge Z.sp (hle1.trans (hle2.trans hle6))⟩))
end Go.Proofs.YteflkifmgnpbhaaGreat
namespace Go.Lir
def hZ (w:World)(p most:Nat):Nat:=2*((most:Int) - iv (gl w p 8)).toNat+Z8 (gl w p 10)
end Go.Lir
namespace Go.Proofs.YteflkifmgnpbhaaGreat
open Go.Lir
attribute [local irreducible] LC.wp Q0 Qp Qk KN Qw LO.wp Q6 Calls
section
variable {Y:Cx}{w:World}{L:List Res}{p N:Nat}{z:GZ}{fr:List FrmV}{g:FrmV}{h:HpS}{out inp back:List Int}{m:Module}
theorem zJ {lv:Value}{left:Int}(Z:St Y w (Mg z p lv left::L)):hZ w p most=2*((most:Int) - z.fu).toNat+Z8 (.bool z.dn):=by
 unfold hZ;rw [mc (j:=8) Z (i:=0) rfl rfl,mc (j:=10) Z (i:=0) rfl rfl];rfl
theorem DR.less {s:MS}{z':GZ}{fr':List FrmV}{g':FrmV}{N':Nat}{h':HpS}{inp' out' back':List Int}(hD:DR m most z fr g N h inp out back (.on s))(hD':DR m most z' fr' g' N' h' inp' out' back' (Run.step m most (.on s))):2*((most:Int) - z'.fu).toNat+Z8 (.bool z'.dn)<2*((most:Int) - z.fu).toNat+Z8 (.bool z.dn):=by
 obtain ⟨-, -,a3, -, -,a6,a7, -⟩:=hD;have e1:Z8 (.bool false)=1:=rfl;have e2:Z8 (.bool true)=0:=rfl;by_cases hk:s.fuel=most
 · rw [show Run.step m most (.on s)= .over s 7 [] from Qip hk] at hD';obtain ⟨-, -, -,b4, -, -,b7, -⟩:=hD';rw [a3,b4,a6,b7,e1,e2];omega
 · rw [show Run.step m most (.on s)= .of m s (s.tick.one m) from Qin hk] at hD'
   cases hX:s.tick.one m with
   | go s'=>
     rw [hX] at hD';obtain ⟨-, -,b3, -, -,b6, -⟩:=hD';have:=sJ hX;rw [a3,b3,a6,b6,e1,this];omega
   | halt e=>
     rw [hX] at hD';obtain ⟨-, -, -,b4, -, -,b7, -⟩:=hD';have:z'.fu=((s.fuel+1:Nat):Int):=b7;rw [a3,b4,a6,this,e1,e2];omega
   | done l=>
     rw [hX] at hD';obtain ⟨-, -, -,b4, -, -,b7, -⟩:=hD';have:z'.fu=((s.fuel+1:Nat):Int):=b7;rw [a3,b4,a6,this,e1,e2];omega
   | lost=>rw [hX] at hD';exact hD'.elim
attribute [local irreducible] DR RA Run.all Run.oc Run.flt
theorem aV (hM:m.fault.1=0)(hIn:m.InR)(hin:∀n∈inp,Mh n)(hf0:0≤fuel)(hf1:fuel≤20000)(hp:0≤pages∧pages≤1000)(hf:Ks.sl Y vf m.funcs)(hi:Kb.sl Y v inp)(Z:St Y w L):
 Ka Tryz.prog ea [.agg ⟨[vf]⟩,v, .int .i64 fuel, .int .i64 pages] w fun u B=>∃c' a1 a2 y1 y2,Y.Le c'∧u= .tuple #[.agg ⟨[.int .i64 (Run.all m inp fuel.toNat pages).oc.e, .slice a1 (Run.all m inp fuel.toNat pages).oc.back.length y1, .slice a2 (Run.all m inp fuel.toNat pages).oc.out.length y2, .int .i64 (Run.all m inp fuel.toNat pages).oc.fuel]⟩,Kz (Run.all m inp fuel.toNat pages).flt]∧Kb.sl c' (.slice a1 (Run.all m inp fuel.toNat pages).oc.back.length y1) (Run.all m inp fuel.toNat pages).oc.back∧Kb.sl c' (.slice a2 (Run.all m inp fuel.toNat pages).oc.out.length y2) (Run.all m inp fuel.toNat pages).oc.out∧St c' B L:=by
 have hDf:=fun fv=>DR.first (inp:=inp) (pages:=pages) (fn:=vf) (fv:=fv) (iv:=v) hM hf0 hin;obtain ⟨af,nf,rfl⟩:=E0 hf;refine Kl Kh Tryz.func34 ?_;refine' KU;intro p4 E Z;refine Qb Z ?_;(intro p8 E Z);refine Qb Z ?_;(intro p9 E Z);refine' RP;refine' Me;refine' zm;refine' M3 (c:=Xr hp hi Z);rintro v1 E ⟨q,fv,rfl,Z⟩;refine' Kv;refine' UQ;refine zo [8,9,10] (fun A ρ' B=>∃(r:Run) (z:GZ) (fr:List FrmV) (g:FrmV) (N:Nat) (h:HpS) (inp2 out back:List Int),Ki ρ' A∧Ki ρ' []∧(RA m fuel.toNat (Run.all m inp fuel.toNat pages) r)∧(DR m fuel.toNat z fr g N h inp2 out back r)∧(Ks.sl Y z.fn m.funcs)∧(Kb.sl Y z.iv inp2)∧St Y B (gX q z fr g N h out (sl 2 1 z.bv (Qe back)::blk p9 29 [.int .i64 0, .int .i64 0]::blk p8 33 [.int .i64 0, .slice none 0 0, .slice none 0 0, .int .i64 0]::L))) (fun _ B=>hZ B q fuel.toNat) ?_ ?_
 · exact ⟨.on (MS.start inp pages),aO (.slice af m.funcs.length nf) fv v fuel,[],Om,0,⟨[],pages⟩,inp,[],[],zh,zh,RA.first,(hDf fv),hf,hi,by have Z:=Z.nil (T:=2) (es:=1);exact Z.sp⟩
 rintro U E ⟨r,z,fr,g,N,h,inp2,out,back,hA,hρ,hRA,hD,hfn2,hin2,Z⟩;obtain ⟨U,rfl⟩:=Km hA hρ;refine' MN;obtain ⟨lv1,rv1,ho1,Z⟩:=Pv Z;have hm0:=zJ (most:=fuel.toNat) Z;refine' P6;cases hdn:z.dn;all_goals (refine' O2)
 all_goals
  first
  | (refine' Kf
     refine' Ko;refine' PS;refine' KX;obtain ⟨s,rfl⟩:=hD.on hdn;have hRA':RA m fuel.toNat (Run.all m inp fuel.toNat pages) (Run.step m fuel.toNat (.on s)):=RA.onD hRA hD;refine' Kw (c:=aQ hD hM hIn V hfn2 hin2 (QK ho1 Z));rintro v1 E (⟨rfl,z',fr3,g3,N3,h3,inp3,out3,back3,hD',hfn3,hin3,Z⟩|⟨f8,z8,lv8,left8,hr8,rfl,hz1,hz2,hz3,Z⟩);all_goals (unfold Kz;dsimp only;refine Qb Z ?_;intro p11 E Z;refine Kp Z ?_;intro E Z;have Z:=Z.ns;refine' Nl;refine' Y4;refine' zn)
     all_goals
      first
      | (refine' Kf;refine Qm ?_;obtain ⟨hfl,hoc⟩:=RA.stuck hRA' hr8;refine zC [(0,none),(1,none),(2,some (some [1])),(3,some none)] ?_;have Z:=Z.drew;refine' KS;refine Ly [_,_,_,_] ?_;refine' Ku;refine zv Z ?_;refine' Lh;((refine Kp Z ?_;intro E Z;have Z:=Z.ns));refine' LY;((refine Kp Z ?_;intro E Z;have Z:=Z.ns));refine' K7;refine' zr;refine nh vw (Q3 (n:=4) Jk Jk (Z.blkAt fd) Jr Jr) vw (Q3 (n:=2) Jk Jk (Z.blkAt fd) Jr Jr) ?_;(exact ⟨_,rfl,Y,none,none,0,0,Fs Z,(by rw [hoc,hfl];rfl),(by rw [hoc];exact FU _ _ _),(by rw [hoc];exact FU _ _ _),Z.sp⟩))
      | (refine' Kd;refine' Ko)
     (exact ⟨⟨Run.step m fuel.toNat (.on s),z',fr3,g3,N3,h3,inp3,out3,back3,zh,zh,hRA',hD',(by rw [hfn3];exact hfn2),hin3,Z.sp⟩,(by obtain ⟨lv2,rv2,ho2,Z⟩:=Pv (p:=q) (z:=z') (fr:=fr3) (g:=g3) (N:=N3) (h:=h3) (out:=out3) (L:=L) Z.sp;rw [zJ (most:=fuel.toNat) Z,hm0];exact DR.less hD hD')⟩))
  | (refine' Kd;obtain ⟨hfl,hoc,hzc,hza⟩:=DR.fin hD hRA hdn;refine' LV;refine Qm ?_;have hol:out.length≤2000∧back.length≤100000:=DR.lens hD;obtain ⟨c4,hle4,Z,q1⟩:=FV (r:=Kb) (l:=back) (Z.out (r:=sl 2 1 z.bv (Qe back)) fd) yI rfl V;simp only [HO,Gn] at Z;obtain ⟨c5,hle5,Z,q2⟩:=FV (r:=Kb) (l:=out) (Z.out (r:=sl 2 1 z.ov (Qe out)) fd) yI rfl V;simp only [HO,Gn] at Z;have q1:=Fo q1 hle5;obtain ⟨a1,y1,e1⟩:=E0 q1;obtain ⟨a2,y2,e2⟩:=E0 q2;have o1:oneC z.bv=true:=(by rw [e1];rfl);have o2:oneC z.ov=true:=(by rw [e2];rfl);refine' Lp;refine' LF;refine zv Z ?_;refine Ly [_,_] ?_;refine On Z rfl rfl Jr fd Js (by show∀u∈[Value.int .i64 z.e,z.bv,z.ov, .int .i64 z.fu],oneC u=true;simp only [E4,ET,or_false,forall_eq_or_imp,forall_eq];exact ⟨rfl,o1,o2,rfl⟩) Jr ?_;intro E Z;have Z:=Z.ns;((refine Kp Z ?_;intro E Z;have Z:=Z.ns));refine' LM;refine nh vw (Q3 (n:=4) Jk Jk (Z.blkAt fd) Jr Jr) vw (Q3 (n:=2) Jk Jk (Z.blkAt fd) Jr Jr) ?_;(exact ⟨_,rfl,c5,a1,a2,y1,y2,hle4.trans hle5,(by rw [hoc,hfl];dsimp only;rw [←e1,←e2];rfl),(by rw [hoc];dsimp only;rw [←e1];exact q1),(by rw [hoc];dsimp only;rw [←e2];exact q2),Z.sp⟩))
end
section
attribute [local irreducible] Kt L4 My XI Na
variable {Y:Cx}{w:World}{L:List Res}
def Rt (hp:Nat)(h:List Bool):Res:=Res.ex fun v=>star (blk hp 163 [v]) (sl 4 1 v (h.map QH))
theorem ia {hp:Nat}{h:List Bool}(Z:St Y w (Rt hp h::L)):∃v,St Y w (blk hp 163 [v]::sl 4 1 v (h.map QH)::L):=by
 obtain ⟨v,Z⟩:=St.ex Z;exact ⟨v,Z.star⟩
theorem cM (Z:St Y w (blk hp 163 [v]::sl 4 1 v (h.map QH)::L)):St Y w (Rt hp h::L):=Jh v Z.star'
theorem Xv {r:Int}(Z:St Y w (blk hp 163 [v]::sl 4 1 v (h.map QH)::L)):
 Ka Tryz.prog wG [.pointer (some ⟨hp,0,none⟩), .int .i64 r] w fun u B=>u= .bool (Kt h r)∧St Y B (blk hp 163 [v]::sl 4 1 v (h.map QH)::L):=by
 (have hlen:(h.map QH).length=h.length:=EM _;refine Kl Kh Tryz.func153 ?_;refine' Nk;(refine' Ag<;>intro O);all_goals (refine' S5;refine' MD;refine' SZ;first|refine' Kj|(refine' Kg;refine' Ae<;>intro O)));all_goals (refine' Po;refine' bK;refine' MD;refine' Mu;(first|refine' Kj|(refine' Kg;refine Y0 Z ?_;intro b1 o1 hel1));(first|refine' Kj|(refine' Kg;refine kq Z ?_));refine' Lw;refine' KQ;refine ⟨_,rfl,?_,Z.sp⟩;unfold Kt;simp [*];done)
theorem zK (hl:h.length≤16)(Z:St Y w (blk hp 163 [v]::sl 4 1 v (h.map QH)::L)):
 Ka Tryz.prog wx [.pointer (some ⟨hp,0,none⟩)] w fun u B=>∃c',Y.Le c'∧Kb.sl c' u (L4 h)∧St c' B (blk hp 163 [v]::sl 4 1 v (h.map QH)::L):=by
 have hlen:(h.map QH).length=h.length:=EM _;refine Kl Kh Tryz.func100 ?_;refine' LS;refine' LS;refine' Nr;have Z:=Gg (T:=3) (es:=1) Z;refine zo [0] (fun A ρ' B=>∃(j:Nat) (vo:Value) (co:List (List Value)),Ki ρ' A∧Ki ρ' [(4, .int .i64 j),(3,vo)]∧(j≤h.length)∧(Kb.ls Y co (Na h j))∧St Y B (sl 3 1 vo co::blk hp 163 [v]::sl 4 1 v (h.map QH)::L)) (fun ρ' _=>(h.length - iv (ρ' 4)).toNat) ?_ ?_
 · exact BP
 rintro U E ⟨j,vo,co,hA,hρ,hj,hls,Z⟩;obtain ⟨U,rfl⟩:=Km hA hρ;have hll:=ql h j;have hsu:=nk h j;refine' RH;refine' LG;refine PZ Z ?_;refine' TD;refine' Ab<;>intro O
 · skip
   refine' Mi;refine' KX;refine' LG;refine' zm;refine SX Z ?_;intro b1 o1 hel1;refine kq Z ?_;refine' zn;refine' Aa<;>intro O
   · refine' NH;refine KO Z [_] ?_;intro b1 E Z;refine za RQ Sk Z ?_;intro vp1 E css1 hls1 hv1 Z;have Z:=Z.ns;refine' UX;(exact Cn)
   · refine' Ko;refine' Mn;(exact BD)
 · refine' S8;(refine ⟨_,rfl,?_⟩;obtain ⟨c',hle,hS',hk⟩:=FV (r:=Kb) Z hls rfl V;refine ⟨c',hle,?_,hS'⟩;rw [show j=h.length by omega] at hk;unfold L4;exact hk)
theorem Xw {s:List Int}(hK:Kb.sl Y v s)(Z:St Y w L):Ka Tryz.prog rk [v, .int .i64 c] w fun u B=>u= .bool (decide (c∈s))∧St Y B L:=by
 have hlen:=hK.len;refine Kl Kh Tryz.func154 ?_;refine' LS;refine' Nr;refine Mt Z [0,1] (fun A LL ρ' B=>∃(j:Nat),Ki ρ' A∧Ki ρ' [(5, .int .i64 j)]∧(j≤s.length)∧(c∈s↔c∈s.drop j)∧St Y B (LL)) (fun ρ' _=>(s.length - iv (ρ' 5)).toNat) ?_ ?_
 · exact An
 rintro U E ⟨j,hA,hρ,hj,hd,Z⟩;obtain ⟨U,rfl⟩:=Km hA hρ;refine' S4;refine' Ab<;>intro O
 · skip
   refine' Mi;refine' KW;refine' zi;intro b1 o1 cs1 x1 hat1 hx1 he1;obtain rfl:=Qy he1;refine MG Z ?_;refine' zm;(refine' Ac<;>intro O);all_goals (refine' zn)
   all_goals
    first
    | (refine' Kf;refine' KM;((refine ⟨_,rfl,?_,Z.sp⟩;(rw [decide_eq_true];rw [hd,Q7 hx1,E4];exact .inl V);done)))
    | (refine' Kd;refine' Ko)
   refine' Mn;(exact B6)
 · refine' Pn;(refine ⟨_,rfl,?_,Z.sp⟩;rw [decide_eq_false];rw [hd,ES V];exact ET;done)
theorem aW (hl:h.length≤16)(hx:Kb.sl Y v2 xs)(Z:St Y w (blk hp 163 [v]::sl 4 1 v (h.map QH)::L)):
 Ka Tryz.prog wH [.pointer (some ⟨hp,0,none⟩),v2] w fun u B=>u= .int .i64 (My h [] xs)∧St Y B (blk hp 163 [v]::sl 4 1 v (h.map QH)::L):=by
 have hxl:=hx.len;have hll:(L4 h).length≤h.length:=(by unfold L4;exact ql _ _);rw [Qj6];refine Kl Kh Tryz.func157 ?_;refine' LS;refine' Nr;refine Mt Z [0,1] (fun A LL ρ' B=>∃(j:Nat),Ki ρ' A∧Ki ρ' [(5, .int .i64 j)]∧(j≤xs.length)∧(XI h xs [] xs=XI h xs (xs.take j) (xs.drop j))∧St Y B (LL)) (fun ρ' _=>(xs.length - iv (ρ' 5)).toNat) ?_ ?_
 · exact AT
 rintro U E ⟨j,hA,hρ,hj,hgo,Z⟩;obtain ⟨U,rfl⟩:=Km hA hρ;refine' S4;refine' Ab<;>intro O
 · skip
   refine' Mi;refine' Lb;refine' Me;refine' zi;intro b1 o1 cs1 x1 hat1 hx1 he1;obtain rfl:=Qy he1;refine MG Z ?_;rw [Q7 hx1,XI] at hgo;refine' Kk (c:=Xv Z);rintro v1 E ⟨rfl,Z⟩;refine' O2;refine' Aa<;>intro O
   · refine' KM;(exact ⟨_,rfl,Ej,Z.sp⟩)
   · skip
     have hc1:Kt h x1=true:=Db;rw [Qip hc1] at hgo;refine' Ko;refine Qm ?_;refine zD (ci 8 [7]) ?_;have Z:=Z.drew;refine' Me;((refine iH vw hx rfl rfl ⟨_,rfl⟩ rfl V V ?_;intro v4 hs4;rw [FG] at hs4));refine' Me;refine' zi;intro b2 o2 cs2 x2 hat2 hx2 he2;((obtain rfl:=Qy he2));refine MG Z ?_;refine' Kk (c:=Xw hs4 Z);rintro v1 E ⟨rfl,Z⟩;obtain rfl:x1=x2:=EP (hx1.symm.trans hx2);refine' zn;refine' Ab<;>intro O
     · refine' KM;(exact ⟨_,rfl,(by rw [hgo,Qip O]),Z.sp⟩)
     · refine' Ko;refine' Mn;(exact ⟨⟨j+1,zh,zh,V,by rw [hgo,Qin O,Us hx1],Z.sp⟩,Qh V⟩)
 · skip
   refine' LV;refine' KX;refine' Kw (c:=zK (L:=L) hl Z.sp);rintro v5 w5 ⟨c5,hle5,hk5,Z⟩;have hx5:=hx.up hle5;have hie:j=xs.length:=CP;subst hie;rw [HP,List.drop_length,XI] at hgo;refine' MU;refine' S0;refine Mt Z [1,6] (fun A LL ρ' B=>∃(q:Nat),Ki ρ' A∧Ki ρ' [(7, .int .i64 q)]∧(q≤(L4 h).length)∧(∀y∈(L4 h).take q,y∈xs)∧St c5 B (LL)) (fun ρ' _=>((L4 h).length - iv (ρ' 7)).toNat) ?_ ?_
   · exact An
   rintro U E ⟨q,hA,hρ,hq,hall,Z⟩;obtain ⟨U,rfl⟩:=Km hA hρ;refine' S4;refine' Ab<;>intro O
   · skip
     refine' Mi;refine' KW;refine' RI;intro b3 o3 cs3 x3 hat3 hx3 he3;obtain rfl:=Qy he3;refine MG Z ?_;refine' Kk (c:=Xw hx5 Z);rintro v1 E ⟨rfl,Z⟩;refine' O2;refine' Aa<;>intro O
     · have hn3:x3∉xs:=Db;refine' KM;(exact ⟨_,rfl,(by rw [hgo,Qin (fun ha=>hn3 (ha x3 (EK hx3)))]),Ge Z.sp hle5⟩)
     · have hn3:x3∈xs:=Db;refine' Ko;refine' Mn;((exact ⟨⟨q+1,zh,zh,V,YI hall hx3 hn3,Z.sp⟩,Qh V⟩))
   · refine' Pn;(exact ⟨_,rfl,(by rw [hgo,Qip (dt hall V)]),Ge Z.sp hle5⟩)
theorem ib (Z:St Y w L):Ka Tryz.prog QhB [.int .i64 n] w fun u B=>∃hp v,u= .pointer (some ⟨hp,0,none⟩)∧St Y B (blk hp 163 [v]::sl 4 1 v ((List.replicate (min n 16).toNat true).map QH)::L):=by
 refine Kl Kh Tryz.func93 ?_;refine' LS;refine' Kn;refine Ly [_] ?_;refine zb Z ?_;intro p6 E Z;refine' MU;refine' S0;have Z:=Gg (T:=4) (es:=1) Z;refine zo [0,3] (fun A ρ' B=>∃(j:Nat) (v:Value),Ki ρ' A∧Ki ρ' [(4, .int .i64 j)]∧(j≤(min n 16).toNat)∧St Y B (sl 4 1 v ((List.replicate j true).map QH)::blk p6 163 [v]::L)) (fun ρ' _=>(min n 16 - iv (ρ' 4)).toNat) ?_ ?_
 · exact ⟨0,_,zh,zh,V,Z.sp⟩
 (rintro U E ⟨j,v,hA,hρ,hj,Z⟩;obtain ⟨U,rfl⟩:=Km hA hρ;refine' RH;(refine' Ae<;>intro O);all_goals (refine' Md;first|refine' Kj|(refine' Kg;refine' Ae<;>intro O)));all_goals (refine' Ld)
 all_goals
  first
  | (refine' Kf;refine' Mi;refine' NH;refine' LG;refine KO Z [_] ?_;intro b1 E Z;refine Mx kO (.inl nP) Z vw vw fd (Z.srcB1 fd rfl) CT ?_;intro vp w2 Z;have Z:=Z.ns;rw [show (List.replicate j true).map QH++[[Value.bool true]]=(List.replicate (j+1) true).map QH by rw [H4,E7];rfl] at Z;refine' LF;refine Lv Z ?_;intro E Z;have Z:=Z.ns;refine' zn;refine' Mn;(exact ⟨⟨j+1,_,zh,zh,V,Z.sp⟩,Qh V⟩))
  | (refine' Kd;all_goals (refine' S8);all_goals (exact Ci))
end
section
attribute [local irreducible] Kt L4 My Na NL K5 Lj
variable {Y:Cx}{w:World}{L:List Res}{j:JP}{h:List Bool}{vl:Value}{css:List (List Value)}{i:Nat}{m:Module}
@[reducible] def JP.kcells (j:JP)(vl:Value):List Value:=[j.vm, .int .i64 j.f.regs,j.vp,j.vr,j.vb, .pointer (some ⟨j.hp,0,none⟩),vl]
theorem Xx {r:Int}(Z:St Y w L)(hi:nth L i=some (Rt hp h)):Ka Tryz.prog wG [.pointer (some ⟨hp,0,none⟩), .int .i64 r] w fun u B=>u= .bool (Kt h r)∧St Y B L:=by
 obtain ⟨v,M⟩:=ia (Z.out hi);refine (Xv M).mono ?_;rintro u B ⟨h3,h4⟩;exact ⟨h3,Ff (cM h4) hi⟩
theorem aX (hl:h.length≤16)(Z:St Y w L)(hi:nth L i=some (Rt hp h)):Ka Tryz.prog wx [.pointer (some ⟨hp,0,none⟩)] w fun u B=>∃c',Y.Le c'∧Kb.sl c' u (L4 h)∧St c' B L:=by
 obtain ⟨v,M⟩:=ia (Z.out hi);refine (zK hl M).mono ?_;rintro u B ⟨c',h3,h5,h4⟩;exact ⟨c',h3,h5,Ff (cM h4) hi⟩
theorem aY (hl:h.length≤16)(hx:Kb.sl Y v2 xs)(Z:St Y w L)(hi:nth L i=some (Rt hp h)):Ka Tryz.prog wH [.pointer (some ⟨hp,0,none⟩),v2] w fun u B=>u= .int .i64 (My h [] xs)∧St Y B L:=by
 obtain ⟨v,M⟩:=ia (Z.out hi);refine (aW hl hx M).mono ?_;rintro u B ⟨h3,h4⟩;exact ⟨h3,Ff (cM h4) hi⟩
theorem RZ {k kd:Int}{held:Bool}(hls:KA.ls Y css s.l)(Z:St Y w (blk j.sp 158 (j.kcells vl)::Rt j.hp s.h::sl 115 3 vl css::L)):
 Ka Tryz.prog Qe3 [.pointer (some ⟨j.sp,0,none⟩), .int .i64 k, .int .i64 kd, .bool held] w fun u B=>u= .int .i64 (Lj s k kd held)∧St Y B (blk j.sp 158 (j.kcells vl)::Rt j.hp s.h::sl 115 3 vl css::L):=by
 (have hlc:=hls.1;refine Kl Kh Tryz.func98 ?_;refine' MV;(refine' Ae<;>intro O);all_goals (refine' S5;refine' MD;(first|refine' Kj|(refine' Kg;refine Qt Z vw fd hlc ?_));first|refine' Kj|(refine' Kg;refine' Ag<;>intro O)));all_goals (refine' Ld)
 all_goals
  first
  | (refine' Kf;all_goals (refine' KM);all_goals (refine ⟨_,rfl,?_,Z.sp⟩;rw [fD V];done))
  | (refine' Kd;refine' Ko)
 refine' MN;obtain ⟨t,ht⟩:∃t,s.l[k.toNat]?=some t:=⟨_,EI V⟩;obtain ⟨d,hd,hrd⟩:=hls.2 _ _ ht;obtain ⟨vd,rfl,hld⟩:=Ql hrd;refine' P6;refine' zm;refine Y0 Z ?_;intro b1 o1 hel1;refine' NN;refine QV Z hel1 rfl fd rfl hd rfl ?_;refine' zm;(refine' Ad<;>intro O);all_goals (refine' zn)
 all_goals
  first
  | (refine' Kf;refine' KM;((refine ⟨_,rfl,?_,Z.sp⟩;(rw [fE V ht V]);done)))
  | (refine' Kd;refine' Ko)
 (refine' MN;cases held;all_goals (refine zD (ci 17 [14,16]) ?_;have Z:=Z.drew;refine' zm;refine' XS;refine' MD;refine' XO;refine' MD;refine' Mu;(first|refine' Kj|(refine' Kg;refine Y0 Z ?_;intro b2 o2 hel2));refine' N9;(first|refine' Kj|(refine' Kg;refine Q9 (j:=1) Z hel2 rfl fd rfl hd rfl ?_));first|refine' Kj|(refine' Kg;refine' Kk (c:=Xx Z fd);rintro v1 E ⟨rfl,Z⟩;cases hb:Kt s.h t.r)));all_goals (refine' Y3;refine' Ld)
 all_goals
  first
  | (refine' Kf;refine' KM;((refine ⟨_,rfl,?_,Z.sp⟩;(rw [ZK V ht V hb]);done)))
  | (refine' Kd;all_goals refine' Ko)
 all_goals (refine' KM;first|(refine ⟨_,rfl,?_,Z.sp⟩;rw [Wb V ht V (fun h=>Bool.noConfusion h)];done)|(refine ⟨_,rfl,?_,Z.sp⟩;rw [Wb V ht V (fun _=>hb)];done))
theorem tJ {l regs:List Int}{want:List Ty}{v1 v3:Value}(hsh:∀t∈want,t.Short)(hls:KA.ls Y css s.l)(I:Kb.sl Y v1 l)(M:KA.sl Y v2 want)(h3:Kb.sl Y v3 regs)(Z:St Y w (blk j.sp 158 (j.kcells vl)::Rt j.hp s.h::sl 115 3 vl css::L)):
 Ka Tryz.prog Qe4 [.pointer (some ⟨j.sp,0,none⟩),v1,v2,v3] w fun u B=>u= .int .i64 (QI (OE s l want regs))∧St Y B (blk j.sp 158 (j.kcells vl)::Rt j.hp s.h::sl 115 3 vl css::L):=by
 have hl1:=I.len;have hl2:=M.len;have hlc:=hls.1;have hle:=Fs Z;have hlsX:=hls.2;unfold OE;refine Kl Kh Tryz.func99 ?_;refine' MV;refine' zL;refine' zm;refine' zL;(refine' Ad<;>intro O);all_goals (refine' zn)
 all_goals
  first
  | (refine' Kf;refine' KM;(exact ⟨_,rfl,by rw [Qip V];rfl,Z⟩))
  | (refine' Kd;refine' Ko)
 refine' Nr;refine Mt Z [0,1,2,3] (fun A LL ρ' B=>∃(k0:Cx) (q:Nat),Ki ρ' A∧Ki ρ' [(9, .int .i64 q)]∧(Y.Le k0)∧(q≤l.length)∧(NX s regs l want=NX s regs (l.drop q) (want.drop q))∧(want.length=l.length)∧St k0 B (LL)) (fun ρ' _=>(l.length - iv (ρ' 9)).toNat) ?_ ?_
 · exact ⟨Y,0,zh,zh,Fs Z,V,by rfl,V,Z.sp⟩
 rintro U E ⟨k0,q,hA,hρ,hle2,hq,hd,hw,Z⟩;obtain ⟨U,rfl⟩:=Km hA hρ;have hL0:=hle2;(try have hle:=hle.trans hle2);(try have hls:=hls.up hle2);(try have I:=I.up hle2);(try have M:=M.up hle2);(try have h3:=h3.up hle2);refine' S4;refine' Ab<;>intro O
 · skip
   (refine' Mi;refine' MN;refine zD (ci 17 [16]) ?_;have Z:=Z.drew;refine' Me;refine' zi;intro b1 o1 cs1 x1 hat1 hx1 he1;obtain rfl:=Qy he1;refine MG Z ?_;(refine' Ae<;>intro O);all_goals (refine' Md;refine' Mu;(first|refine' Kj|(refine' Kg;refine Tx vw rfl I rfl V ?_;intro b8 o8 cs8 x8 hat8 hx8 he8;obtain rfl:=Qy he8;obtain rfl:x1=x8:=EP (hx1.symm.trans hx8)));refine' dP;refine' XO;refine' MD;(first|refine' Kj|(refine' Kg;refine Qt Z vw fd hlc ?_));first|refine' Kj|(refine' Kg;refine' Ag<;>intro O)));all_goals (refine' Ld)
   all_goals
    first
    | (refine' Kd;refine' Ko)
    | (refine' Kf;all_goals (refine' KM);all_goals (exact ⟨_,rfl,by rw [Qin V,hd,uX hx1 (EI V) (iN V)];rfl,Ge Z.sp hL0⟩))
   refine Qm ?_;obtain ⟨t,ht⟩:∃t,s.l[x1.toNat]?=some t:=⟨_,EI V⟩;obtain ⟨d,hdt,hrd⟩:=hls.2 _ _ ht;have g1:=YO V ht;refine' Lm;refine' zm;refine' zm;((refine' zi;intro b2 o2 cs2 x2 hat2 hx2 he2;((obtain ⟨vl2,rfl,hl2⟩:=Ql he2))));refine N8 Z ?_;refine' zm;refine' Kk (c:=s9 x2 (hsh x2 (EK hx2)) he2 h3 Z);rintro v1 E ⟨c3,ds,rfl,hle2,hu3,Z⟩;(try have hle:=hle.trans hle2);(try have hL0:=hL0.trans hle2);(try have hl2:=hl2.up hle2);(try have he2:=he2.up hle2);(try have hls:=hls.up hle2);(try have I:=I.up hle2);(try have M:=M.up hle2);(try have h3:=h3.up hle2);have hrd:=IS hrd hle2;(have hrd':=hrd);obtain ⟨vd,rfl,hld⟩:=Ql hrd;rcases hn:x2.ren regs with _|y<;>rw [hn] at hu3<;>simp only [Option.getD_none,Gw] at hu3<;>(have hu3':=hu3)<;>obtain ⟨vu,rfl,hlu⟩:=Ql hu3
   all_goals (refine' Rk;intro p10 E Z;refine Kp Z ?_;intro E Z;have Z:=Z.ns;refine' MU;refine zD (ci 17 [14,16]) ?_;have Z:=Z.drew;refine' zm;refine' ND;refine' zm;(first|refine' Kj|(refine' TJ));refine' XO;refine' MD;refine' Mu;refine' Mu;(first|refine' Kj|(refine' Kg;refine Tx vw rfl I rfl V ?_;intro b4 o4 cs4 x4 hat4 hx4 he4;obtain rfl:=Qy he4;obtain rfl:x1=x4:=EP (hx1.symm.trans hx4)));refine' dP;(first|refine' Kj|(refine' Kg;refine QA Z vw rfl fd V V ?_;intro b5 o5 hel5));(first|refine' Kj|(refine' Kg;refine NW Z hel5 rfl fd rfl hdt ?_));first|refine' Kj|(refine' Kg;refine' Kk (c:=rD _ _ hu3' hrd' Z);rintro v1 E ⟨rfl,Z⟩;cases hdc:decide (y=t)));all_goals (refine' Y3;refine' Ld)
   all_goals
    first
    | (refine' Kf;all_goals (refine' KM);all_goals (first|(exact ⟨_,rfl,by rw [Qin V,hd,uY hx1 hx2 g1 hn];rfl,Ge Z.sp hL0⟩)|(exact ⟨_,rfl,by rw [Qin V,hd,uZ hx1 hx2 g1 hn (fun h=>of_decide_eq_false hdc h.symm)];rfl,Ge Z.sp hL0⟩)))
    | (refine' Kd;refine' Ko)
   refine' Mn;(exact ⟨⟨_,q+1,zh,zh,hL0,V,by rw [hd,u6 hx1 hx2 g1 hn (of_decide_eq_true hdc).symm],hw,Z.sp⟩,Qh V⟩)
 · refine' Pn;(exact ⟨_,rfl,by rw [Qin V,hd,ve V];rfl,Ge Z.sp hL0⟩)
theorem oP (hn:xs.length≤1000)(Z:St Y w (sl 3 1 v (xs.map Qq)::L)):Ka Tryz.prog Zb [v] w fun u B=>u= .int .i64 (NQ xs)∧St Y B (sl 3 1 v (xs.map Qq)::L):=by
 have hlc:(xs.map Qq).length=xs.length:=EM _;refine Kl Kh Tryz.func151 ?_;refine' LS;refine' Nr;refine Mt Z [0] (fun A LL ρ' B=>∃(q:Nat),Ki ρ' A∧Ki ρ' [(3, .int .i64 q)]∧(q≤xs.length)∧(NQ xs=NQ (xs.drop q))∧St Y B (LL)) (fun ρ' _=>(xs.length - iv (ρ' 3)).toNat) ?_ ?_
 · exact AT
 rintro U E ⟨q,hA,hρ,hq,hd,Z⟩;obtain ⟨U,rfl⟩:=Km hA hρ;refine' RH;refine Qt Z vw fd hlc ?_;refine' TD;refine' Ab<;>intro O
 · skip
   refine' TH;obtain ⟨x,hx⟩:∃x,xs[q]?=some x:=⟨_,EI V⟩;have hxc:(xs.map Qq)[q]?=some (Qq x):=(by rw [EZ,hx];rfl);refine' NH;refine OW Z vw rfl fd V ?_;intro b1 o1 hel1;refine QV Z hel1 rfl fd rfl hxc rfl ?_;(refine' Ad<;>intro O);all_goals (refine' zn)
   all_goals
    first
    | (refine' Kf;refine' KW;refine OW Z vw rfl fd V ?_;intro b2 o2 hel2;refine QV Z hel2 rfl fd rfl hxc rfl ?_;refine' KQ;((refine ⟨_,rfl,?_,Z.sp⟩;(rw [hd,Q7 hx,NQ,Qip V]);done)))
    | (refine' Kd;refine' Ko)
   refine' Mn;(exact ⟨⟨q+1,zh,zh,V,by rw [hd,Q7 hx,NQ,Qin V],Z.sp⟩,Qh V⟩)
 · refine' Pn;(refine ⟨_,rfl,?_,Z.sp⟩;rw [hd,ES V];rfl;done)
end
section
attribute [local irreducible] Kt L4 My Na NL K5 Lj NQ KY
variable {Y:Cx}{w:World}{L:List Res}{j:JP}{h:List Bool}{vl:Value}{css:List (List Value)}{i:Nat}{m:Module}

@[reducible] def Rd (j:JP)(s:JS)(vl:Value)(css:List (List Value))(L:List Res):List Res:=blk j.sp 158 (j.kcells vl)::Rt j.hp s.h::sl 115 3 vl css::L
theorem Xy {x : Ins}(hm:m.Short)(hF:Qs m.funcs.length x=0)(hg:JGood s)(hj:j.Fits Y m)(hx:K1.at Y cs x)(hls:KA.ls Y css s.l)(Z:St Y w (blk j.sp 158 (j.kcells vl)::Rt j.hp s.h::sl 115 3 vl css::L)):
 Ka Tryz.prog Qct [.pointer (some ⟨j.sp,0,none⟩), .agg ⟨cs⟩] w fun u B=>∃c' v,Y.Le c'∧u= .tuple #[v, .int .i64 (QI (KY m j.f s x))]∧(∀ts,KY m j.f s x= .ok ts→KA.sl c' v ts)∧St c' B (blk j.sp 158 (j.kcells vl)::Rt j.hp s.h::sl 115 3 vl css::L):=by
 have hx':=hx;have hop:=bu hF;have hlc:=hls.1;have hn:=hg.n;have hm1:=hj.m;have hN:∀{c:Cx},KA.at c [.int .i64 1, .int .i64 0, .slice none 0 0] KC:=Ry (FU _ _ _);obtain ⟨vr,va,rfl,hr,ha⟩:=QN hx;have hlr:=hr.len;have hla:=ha.len;refine Kl Kh Tryz.func95 ?_;refine' KU;intro p3 E Z;refine' X0;refine' Kn;refine OF [_,_,_] ?_;refine Rw (cs:=[_,_,_]) vw Jr ?_;intro nb E hb1 hf1 _ hk1;have Z:=Z.laid hb1 hf1 hk1;refine' OJ;refine' P1;refine' P2;(refine' Ac<;>intro O);all_goals (refine' Kv)
 all_goals
  first
  | (refine' Kf;refine' Ko)
  | (refine' Kd;refine' Lm;(refine' Ac<;>intro O);all_goals (refine' zm);all_goals refine' zn)
 all_goals
  first
  | (refine' Kf;all_goals (refine' KW;refine' Kv;have hM:KY m j.f s x= .ok [KC]:=Wc V;refine' Lq);all_goals (obtain ⟨c9,hle9,Z,hk9⟩:=Gh (r:=KA) (L:=Rd j s vl css L) Z.sp (hN:KA.at _ _ KC);exact AW))
  | (refine' Kd
     refine' Kn;(refine' Ac<;>intro O);all_goals (refine' Kv)
     all_goals
      first
      | (refine' Kf;refine Qm ?_;refine zC [(0,none),(1,none),(2,none),(3,none),(5,none),(6,none),(7,none),(4,some (some [7])),(8,some (some [])),(9,some (some [])),(10,some (some [])),(11,none),(12,some none)] ?_;have Z:=Z.drew;refine' OI;refine' N1;refine' M3 (c:=RZ (s:=s) (k:=x.a) (kd:=1) (held:=false) hls Z.p3);rintro v1 E ⟨rfl,Z⟩;refine' Lc;refine' M3 (c:=RZ (s:=s) (k:=x.b) (kd:=1) (held:=false) hls Z.p3);rintro v1 E ⟨rfl,Z⟩;refine' Lc;refine m6 (cs:=[_,_]) vw vw Jr ?_;intro fb E hb1 hf1 _ hk1;have Z:=Z.laid hb1 hf1 hk1;have Z:=Fz (es:=1) (css:=[Lj s x.a 1 false,Lj s x.b 1 false].map Qq) Z rfl C2 rfl;refine' Lc;refine' Kw (c:=oP (xs:=[Lj s x.a 1 false,Lj s x.b 1 false]) Js Z);rintro v1 E ⟨rfl,Z⟩;refine' LZ;refine' zm;refine' Oa;have hC:QI (KY m j.f s x)=NQ [Lj s x.a 1 false,Lj s x.b 1 false]:=(by rw [Wd V,ZO,ZO];exact so (UC _ _ _) (UC _ _ _) _);have hT:∀ts,KY m j.f s x= .ok ts→ts=[KC]:=(fun ts h=>by rw [Wd V] at h;exact ZN h fun _ h=>ZN h fun _ h=>by cases h;rfl);refine' Lq;(obtain ⟨c9,hle9,Z,hk9⟩:=Gh (r:=KA) (L:=Rd j s vl css L) Z.sp (hN:KA.at _ _ KC);exact Bl))
      | (refine' Kd
         refine' Kn;(refine' Ac<;>intro O);all_goals (refine' Kv)
         all_goals
          first
          | (refine' Kf
             refine' Lb;refine' LG;refine' LF;obtain ⟨vh,Z⟩:=ia (hp:=j.hp) (h:=s.h) (L:=blk j.sp 158 (j.kcells vl)::sl 115 3 vl css::blk nb 115 [.int .i64 1, .int .i64 0, .slice none 0 0]::blk p3 84 [.int .i64 x.op, .int .i64 x.a, .int .i64 x.b, .int .i64 x.c, .int .i64 x.k, .int .i64 x.n,vr,va]::L) Z.sp;refine Pz Z vw fd rfl ?_;refine Qt Z vw fd (EM _) ?_;have Z:=cM (L:=blk j.sp 158 (j.kcells vl)::sl 115 3 vl css::blk nb 115 [.int .i64 1, .int .i64 0, .slice none 0 0]::blk p3 84 [.int .i64 x.op, .int .i64 x.a, .int .i64 x.b, .int .i64 x.c, .int .i64 x.k, .int .i64 x.n,vr,va]::L) (h:=s.h) (hp:=j.hp) (v:=vh) Z.sp;(refine' Ac<;>intro O);all_goals (refine' zn)
             all_goals
              first
              | (refine' Kf;refine' Nz;have hM:KY m j.f s x= .error 2:=(by rw [Sw V];exact Qip V);refine' Lq;((exact Ao)))
              | (refine' Kd;refine' Ko)
             refine' KX;refine' LG;refine' LF;obtain ⟨vh,Z⟩:=ia (hp:=j.hp) (h:=s.h) (L:=blk j.sp 158 (j.kcells vl)::sl 115 3 vl css::blk nb 115 [.int .i64 1, .int .i64 0, .slice none 0 0]::blk p3 84 [.int .i64 x.op, .int .i64 x.a, .int .i64 x.b, .int .i64 x.c, .int .i64 x.k, .int .i64 x.n,vr,va]::L) Z.sp;refine Pz Z vw fd rfl ?_;refine Qt Z vw fd (EM _) ?_;have Z:=cM (L:=blk j.sp 158 (j.kcells vl)::sl 115 3 vl css::blk nb 115 [.int .i64 1, .int .i64 0, .slice none 0 0]::blk p3 84 [.int .i64 x.op, .int .i64 x.a, .int .i64 x.b, .int .i64 x.c, .int .i64 x.k, .int .i64 x.n,vr,va]::L) (h:=s.h) (hp:=j.hp) (v:=vh) Z.sp;refine M8 [_,_,_] ?_;refine Rw (cs:=[_,_,_]) vw Jr ?_;intro ob E hb1 hf1 _ hk1;have Z:=Z.laid hb1 hf1 hk1;refine' X0;have hM:KY m j.f s x= .ok [.mk 2 s.h.length []]:=(by rw [Sw V];exact Qin V);have hrow:∀{c:Cx},KA.at c [.int .i64 2, .int .i64 s.h.length, .slice none 0 0] (.mk 2 s.h.length []):=Ry (FU _ _ _);refine' Lq;(obtain ⟨c9,hle9,Z,hk9⟩:=Gh (r:=KA) (L:=Rd j s vl css L) Z.sp hrow;exact AW))
          | (refine' Kd
             refine' Kn;(refine' Ac<;>intro O);all_goals (refine' Kv)
             all_goals
              first
              | (refine' Kf
                 refine' Nj;refine' M3 (c:=RZ (s:=s) (k:=x.a) (kd:=2) (held:=true) hls Z.p3);rintro v1 E ⟨rfl,Z⟩;refine' Kv;rcases Jf (Lj s x.a 2 true=0) with hw|hw;rotate_left;have hM:KY m j.f s x= .error (Lj s x.a 2 true):=(by rw [lP V,Qr (si hw)]);rotate_left;obtain ⟨t,g0,g1,ht,hk,hb,hjt⟩:=sq (s:=s) (k:=x.a) (kd:=2) V;obtain ⟨d,hd,hrd⟩:=hls.2 _ _ ht;have hrt:=hrd;obtain ⟨vd,rfl,hld⟩:=Ql hrd
                 all_goals (refine' MN;refine zD (ci 19 [18]) ?_;have Z:=Z.drew;refine' zm;refine' PG;refine' XS;refine' MD;refine' MD;(first|refine' Kj|(refine' Kg;refine QA Z vw rfl fd V V ?_;intro b1 o1 hel1));refine' N9;(first|refine' Kj|(refine' Kg;refine Q9 (j:=1) Z hel1 rfl fd rfl hd rfl ?_));refine' XO;refine' kx;refine' Y1;first|refine' Kj|(refine' Kg;refine' Ae<;>intro O));all_goals (refine' Ld)
                 all_goals
                  first
                  | (refine' Kf;refine' Lp;refine' zn)
                  | (refine' Kd;all_goals refine' Ko)
                 all_goals (refine' KW;refine' Kv;refine' Lq);all_goals (first|(exact Ao)|(have hM:KY m j.f s x= .error 11:=(by rw [lP V,Q5 hjt,Qip V]);exact Ao)|(have hM:KY m j.f s x= .ok []:=(by rw [lP V,Q5 hjt,Qin V]);exact ⟨_,rfl,Y,_,Fs Z,sh hM hw,lL hM (FU _ _ _),Z.sp⟩)))
              | (refine' Kd
                 refine' Kn;(refine' Ac<;>intro O);all_goals (refine' Kv)
                 all_goals
                  first
                  | (refine' Kf
                     refine' Lb;refine' KJ;refine' M3 (c:=RZ (s:=s) (k:=x.a) (kd:=2) (held:=true) hls Z.p3);rintro v1 E ⟨rfl,Z⟩;refine' L6;(refine' Ad<;>intro O);all_goals (refine' zn)
                     all_goals
                      first
                      | (refine' Kf;refine' KW;refine' Kv;have hM:KY m j.f s x= .error (Lj s x.a 2 true):=(by rw [lQ V,Qr (si V)]);refine' Lq;((exact Ao)))
                      | (refine' Kd;refine' Ko)
                     refine Qm ?_;have hal:=xP hF V;obtain ⟨t,g0,g1,ht,hk,hb,hjt⟩:=sq (s:=s) (k:=x.a) (kd:=2) V;obtain ⟨d,hd,hrd⟩:=hls.2 _ _ ht;have hrt:=hrd;obtain ⟨vd,rfl,hld⟩:=Ql hrd;refine zC [(0,none),(1,none),(2,none),(3,none),(4,none),(5,none),(6,none),(7,none),(8,none),(9,none),(10,some (some [3,5,8])),(11,some none)] ?_;have Z:=Z.drew;refine' NT;refine' TO;refine QA Z vw rfl fd V V ?_;intro b1 o1 hel1;refine' Ku;refine' US;refine Q9 (j:=1) Z hel1 rfl fd rfl hd rfl ?_;refine' Ku;refine M8 [_,_,_] ?_;refine' UU;(intro p9 E Z);refine' zt;refine ⟨EN.2 ⟨CS,EN.2 ⟨CS,EN.2 ⟨(by (exact YA (j:=1) Z hel1 rfl fd rfl hd rfl)),fun _ h=>(ET h).elim⟩⟩⟩,?_⟩;refine' Lg;((refine Kp Z ?_;intro E Z;have Z:=Z.ns));refine' K7;refine' Nr;have Z:=Gg (T:=115) (es:=3) Z;refine zo [0,3,9] (fun A ρ' B=>∃(q:Nat) (vo:Value) (co:List (List Value)) (ts:List Ty),Ki ρ' A∧Ki ρ' [(10, .int .i64 q)]∧(q≤x.args.length)∧(KA.ls Y co ts)∧(ts.length=q)∧(oneC vo=true)∧(Kq s x.args=Ke (Kq s (x.args.drop q)) fun l=> .ok (ts++l))∧St Y B (sl 115 3 vo co::blk p9 115 [.int .i64 3, .int .i64 t.r,vo]::blk nb 115 [.int .i64 1, .int .i64 0, .slice none 0 0]::blk p3 84 [.int .i64 x.op, .int .i64 x.a, .int .i64 x.b, .int .i64 x.c, .int .i64 x.k, .int .i64 x.n,vr,va]::blk j.sp 158 (j.kcells vl)::Rt j.hp s.h::sl 115 3 vl css::L)) (fun ρ' _=>(x.args.length - iv (ρ' 10)).toNat) ?_ ?_
                     · exact BM
                     rintro U E ⟨q,vo,co,ts,hA,hρ,hq,hlo,hlt,hvo,hdf,Z⟩;obtain ⟨U,rfl⟩:=Km hA hρ;refine' P4;refine' Ab<;>intro O
                     · skip
                       (refine' Mi;refine' MN;refine zD (ci 19 [18]) ?_;have Z:=Z.drew;refine' KJ;refine' zm;refine' zi;intro b1 o1 cs1 x1 hat1 hx1 he1;obtain rfl:=Qy he1;refine MG Z ?_;(refine' Ae<;>intro O);all_goals (refine' LH;refine' Mu;(first|refine' Kj|(refine' Kg;refine Tx vw rfl ha rfl V ?_;intro b8 o8 cs8 x8 hat8 hx8 he8;obtain rfl:=Qy he8;obtain rfl:x1=x8:=EP (hx1.symm.trans hx8)));refine' dP;refine' XO;refine' MD;(first|refine' Kj|(refine' Kg;refine Qt Z vw fd hlc ?_));first|refine' Kj|(refine' Kg;refine' Ag<;>intro O)));all_goals (refine' Ld)
                       all_goals
                        first
                        | (refine' Kf;all_goals (refine' Nz;have hM:KY m j.f s x= .error 1:=(by rw [lQ V,Q5 hjt,Qr (vg hx1 hdf (iN V))]);refine' Lq);all_goals (exact Ao))
                        | (refine' Kd;refine' Ko)
                       obtain ⟨t2,ht2⟩:∃t,s.l[x1.toNat]?=some t:=⟨_,EI V⟩;obtain ⟨d2,hd2,hrd2⟩:=hls.2 _ _ ht2;have hrd2':=hrd2;obtain ⟨vd2,rfl,hld2⟩:=Ql hrd2;have M:=YO (s:=s) V ht2;refine zC [(0,none),(1,none),(2,none),(3,none),(4,none),(5,none),(6,none),(7,none),(8,none),(9,none),(10,none),(11,none),(12,none),(13,some (some [1])),(14,some none),(15,none),(16,some none)] ?_;have Z:=Z.drew;refine' KS;refine' Pj;refine' Nc;refine' NS;refine' Pj;refine Tx vw rfl ha rfl V ?_;intro b4 o4 cs4 x4 hat4 hx4 he4;obtain rfl:=Qy he4;obtain rfl:x1=x4:=EP (hx1.symm.trans hx4);refine' Ku;refine MG Z ?_;refine' Ku;refine QA Z vw rfl fd V V ?_;intro b5 o5 hel5;refine' Ku;refine NW Z hel5 rfl fd rfl hd2 ?_;refine' Lh;refine KO Z [_,_,_] ?_;intro b1 E Z;refine' LY;((refine za RT Sm Z ?_;intro vp1 E css1 hls1 hv1 Z;have Z:=Z.ns));refine' Ku;refine' MT;refine' K8;((refine Lv Z ?_;intro E Z;have Z:=Z.ns));refine' K7;refine' Mn;((exact ⟨⟨q+1,_,_,ts++[t2],zh,zh,V,hls1,by simp [hlt],by assumption,vj hx1 hdf M,Z.sp⟩,Qh V⟩))
                     · skip
                       refine' LV;have hts:=vq hdf V;obtain ⟨c1,hle2,Z,hk1⟩:=FV (r:=KA) Z hlo rfl V;have hrow:=Ry (k:=3) (r:=t.r) hk1;have hls:=hls.up hle2;obtain ⟨ao,no,rfl⟩:=E0 hk1;refine Qm ?_;refine' MM;refine' Kk (c:=wX (.mk 3 t.r ts) hrow V V Z);rintro v1 E ⟨rfl,Z⟩;(refine' Af<;>intro O);all_goals (refine' zn)
                       all_goals
                        first
                        | (refine' Kf;refine' Nz;have hM:KY m j.f s x= .error 19:=(by rw [lQ V,Q5 hjt,Q5 hts];exact Qip V);refine' Lq;(exact ⟨_,rfl,c1,_,hle2,lM hM,xJ hM,Z.sp⟩))
                        | (refine' Kd;refine' Ko)
                       refine' MM;refine Rw (cs:=[_,_,_]) vw Jr ?_;intro ob E hb1 hf1 _ hk1;have Z:=Z.laid hb1 hf1 hk1;refine' X0;have hM:KY m j.f s x= .ok [.mk 3 t.r ts]:=(by rw [lQ V,Q5 hjt,Q5 hts];exact Qin V);refine' Lq;(obtain ⟨c9,hle9,Z,hk9⟩:=Gh (r:=KA) (L:=Rd j s vl css L) Z.sp hrow;exact ⟨_,rfl,c9,_,hle2.trans hle9,ZJ hM,lL hM hk9,Z⟩))
                  | (refine' Kd
                     refine' P2;(refine' Ac<;>intro O);all_goals (refine' Kv)
                     all_goals
                      first
                      | (refine' Kf;refine' Ko)
                      | (refine' Kd;refine' Lm;(refine' Ac<;>intro O);all_goals (refine' zm);all_goals refine' zn)
                     all_goals
                      first
                      | (refine' Kd
                         refine' Kn;(refine' Ac<;>intro O);all_goals (refine' Kv)
                         all_goals
                          first
                          | (refine' Kf
                             refine' MN;refine zC [(0,none),(1,none),(2,none),(4,none),(5,none),(6,none),(3,some (some [6])),(7,some none),(8,some none),(9,some none),(10,some none)] ?_;have Z:=Z.drew;refine' Ph;refine' N1;refine' M3 (c:=RZ (s:=s) (k:=x.a) (kd:=2) (held:=true) hls Z.p3);rintro v1 E ⟨rfl,Z⟩;refine' LY;refine' M3 (c:=RZ (s:=s) (k:=x.b) (kd:=1) (held:=false) hls Z.p3);rintro v1 E ⟨rfl,Z⟩;refine' K8;refine m6 (cs:=[_,_]) vw vw Jr ?_;intro fb E hb1 hf1 _ hk1;have Z:=Z.laid hb1 hf1 hk1;have Z:=Fz (es:=1) (css:=[Lj s x.a 2 true,Lj s x.b 1 false].map Qq) Z rfl C2 rfl;refine' K8;refine' Kw (c:=oP (xs:=[Lj s x.a 2 true,Lj s x.b 1 false]) Js Z);rintro v1 E ⟨rfl,Z⟩;refine' Oa;refine' KX;(refine' Ad<;>intro O);all_goals (refine' zn)
                             all_goals
                              first
                              | (refine' Kf;refine' KW;refine' Kv;have hM:KY m j.f s x= .error (NQ [Lj s x.a 2 true,Lj s x.b 1 false]):=(by rw [We V,jl,ZO];exact xN (dF _ _ _) (by rw [←jl,←ZO];omega) _);refine' Lq;((exact Ao)))
                              | (refine' Kd;refine' Ko)
                             refine Qm ?_;obtain ⟨t,tb,hjt,hjb⟩:=xO (x:=Lu s x.a 2) (y:=Kx s x.b 1) (dF _ _ _) (UC _ _ _) (by rw [←jl,←ZO];omega);obtain ⟨g0,ht,hk,hb⟩:=XJ hjt;have g1:=(EJ.1 ht).1;obtain ⟨d,hd,hrd⟩:=hls.2 _ _ ht;obtain ⟨vd,rfl,hld⟩:=Ql hrd;refine zD (ci 13 [10,12]) ?_;have Z:=Z.drew;refine' OM;refine' KJ;refine QA Z vw rfl fd V V ?_;intro b1 o1 hel1;refine' NN;refine Q9 (j:=1) Z hel1 rfl fd rfl hd rfl ?_;refine M8 [_,_,_] ?_;refine Rw (cs:=[_,_,_]) vw Jr ?_;intro ob E hb1 hf1 _ hk1;have Z:=Z.laid hb1 hf1 hk1;refine' X0;have hM:KY m j.f s x= .ok [.mk 4 t.r []]:=(by rw [We V,Q5 hjt,Q5 hjb]);have hrow:∀{c:Cx},KA.at c [.int .i64 4, .int .i64 t.r, .slice none 0 0] (.mk 4 t.r []):=Ry (FU _ _ _);refine' Lq;(obtain ⟨c9,hle9,Z,hk9⟩:=Gh (r:=KA) (L:=Rd j s vl css L) Z.sp hrow;exact AW))
                          | (refine' Kd
                             refine' Kn;(refine' Ac<;>intro O);all_goals (refine' Kv)
                             all_goals
                              first
                              | (refine' Kf;refine Qm ?_;refine zC [(0,none),(1,none),(2,none),(3,none),(5,none),(6,none),(7,none),(4,some (some [7])),(8,some (some [])),(9,some (some [])),(10,some (some [])),(11,none),(12,some none)] ?_;have Z:=Z.drew;refine' OI;refine' N1;refine' M3 (c:=RZ (s:=s) (k:=x.a) (kd:=4) (held:=true) hls Z.p3);rintro v1 E ⟨rfl,Z⟩;refine' Lc;refine' M3 (c:=RZ (s:=s) (k:=x.b) (kd:=1) (held:=false) hls Z.p3);rintro v1 E ⟨rfl,Z⟩;refine' Lc;refine m6 (cs:=[_,_]) vw vw Jr ?_;intro fb E hb1 hf1 _ hk1;have Z:=Z.laid hb1 hf1 hk1;have Z:=Fz (es:=1) (css:=[Lj s x.a 4 true,Lj s x.b 1 false].map Qq) Z rfl C2 rfl;refine' Lc;refine' Kw (c:=oP (xs:=[Lj s x.a 4 true,Lj s x.b 1 false]) Js Z);rintro v1 E ⟨rfl,Z⟩;refine' LZ;refine' zm;refine' Oa;have hC:QI (KY m j.f s x)=NQ [Lj s x.a 4 true,Lj s x.b 1 false]:=(by rw [Wf V,jl,ZO];exact so (dF _ _ _) (UC _ _ _) _);have hT:∀ts,KY m j.f s x= .ok ts→ts=[KC]:=(fun ts h=>by rw [Wf V] at h;exact ZN h fun _ h=>ZN h fun _ h=>by cases h;rfl);refine' Lq;(obtain ⟨c9,hle9,Z,hk9⟩:=Gh (r:=KA) (L:=Rd j s vl css L) Z.sp (hN:KA.at _ _ KC);exact Bl))
                              | (refine' Kd
                                 refine' Kn;(refine' Ac<;>intro O);all_goals (refine' Kv)
                                 all_goals
                                  first
                                  | (refine' Kf;refine Qm ?_;refine zC [(0,none),(1,none),(2,none),(4,none),(5,none),(6,none),(8,none),(9,none),(10,none),(3,some (some [6,10])),(7,some (some [10])),(11,some none),(12,some none),(13,some none),(14,none),(15,some none)] ?_;have Z:=Z.drew;refine' Ph;refine' Pj;refine' N1;refine' M3 (c:=RZ (s:=s) (k:=x.a) (kd:=4) (held:=true) hls Z.p3);rintro v1 E ⟨rfl,Z⟩;refine' Lc;refine' M3 (c:=RZ (s:=s) (k:=x.b) (kd:=1) (held:=false) hls Z.p3);rintro v1 E ⟨rfl,Z⟩;refine' LY;refine' M3 (c:=RZ (s:=s) (k:=x.c) (kd:=1) (held:=false) hls Z.p3);rintro v1 E ⟨rfl,Z⟩;refine' K8;refine Qiu (cs:=[_,_,_]) vw vw vw Jr ?_;intro fb E hb1 hf1 _ hk1;have Z:=Z.laid hb1 hf1 hk1;have Z:=Fz (es:=1) (css:=[Lj s x.a 4 true,Lj s x.b 1 false,Lj s x.c 1 false].map Qq) Z rfl C2 rfl;refine' K8;refine' Kw (c:=oP (xs:=[Lj s x.a 4 true,Lj s x.b 1 false,Lj s x.c 1 false]) Js Z);rintro v1 E ⟨rfl,Z⟩;refine' Ku;refine' zm;refine' Oa;have hC:QI (KY m j.f s x)=NQ [Lj s x.a 4 true,Lj s x.b 1 false,Lj s x.c 1 false]:=(by rw [sj V,jl,ZO,ZO];exact Wh (dF _ _ _) (UC _ _ _) (UC _ _ _) _);have hT:∀ts,KY m j.f s x= .ok ts→ts=[]:=(fun ts h=>by rw [sj V] at h;exact ZN h fun _ h=>ZN h fun _ h=>ZN h fun _ h=>by cases h;rfl);refine' Lq;(exact B1))
                                  | (refine' Kd
                                     refine' Kn;(refine' Ac<;>intro O);all_goals (refine' Kv)
                                     all_goals
                                      first
                                      | (refine' Kf;refine Qm ?_;refine' Lm;refine' zm;refine' zm;refine' MT;refine zl Z ?_;refine' M3 (c:=RZ (s:=s) (k:=x.a) (kd:=4) (held:=true) hls Z.p3);rintro v1 E ⟨rfl,Z⟩;refine' zm;refine' zm;refine' zn;have hC:QI (KY m j.f s x)=Lj s x.a 4 true:=(by rw [sk V,jl];cases Lu s x.a 4<;>rfl);have hT:∀ts,KY m j.f s x= .ok ts→ts=[KC]:=(fun ts h=>by rw [sk V] at h;exact ZN h fun _ h=>by cases h;rfl);refine' zr;refine' XM;(obtain ⟨c9,hle9,Z,hk9⟩:=Gh (r:=KA) (L:=Rd j s vl css L) Z.sp (hN:KA.at _ _ KC);exact Bl))
                                      | (refine' Kd
                                         refine' Kn;(refine' Ac<;>intro O);all_goals (refine' Kv)
                                         all_goals
                                          first
                                          | (refine' Kf;refine Qm ?_;refine' Lm;refine' zm;refine' MT;refine zl Z ?_;refine' M3 (c:=RZ (s:=s) (k:=x.a) (kd:=1) (held:=false) hls Z.p3);rintro v1 E ⟨rfl,Z⟩;refine' zm;refine' zm;refine' zn;have hC:QI (KY m j.f s x)=Lj s x.a 1 false:=(by rw [sm V,ZO];cases Kx s x.a 1<;>rfl);have hT:∀ts,KY m j.f s x= .ok ts→ts=[]:=(fun ts h=>by rw [sm V] at h;exact ZN h fun _ h=>by cases h;rfl);refine' zr;refine' XM;(exact B1))
                                          | (refine' Kd;refine' Ko))))))
                      | (refine' Kf
                         all_goals (refine' Lb;refine' KJ;refine' M3 (c:=RZ (s:=s) (k:=x.a) (kd:=3) (held:=true) hls Z.p3);rintro v1 E ⟨rfl,Z⟩;refine' L6;refine' Ad<;>intro O);all_goals (refine' zn)
                         all_goals
                          first
                          | (refine' Kf;all_goals (refine' KW;refine' Kv;have hM:KY m j.f s x= .error (Lj s x.a 3 true):=ZP V (si V);refine' Lq);all_goals (exact Ao))
                          | (refine' Kd;all_goals refine' Ko)
                         all_goals (refine' MN;have hxk:=mm hF V;obtain ⟨t,g0,g1,ht,hk,hb,hjt⟩:=sq (s:=s) (k:=x.a) (kd:=3) V;obtain ⟨d,hd,hrd⟩:=hls.2 _ _ ht;have hrt:=hrd;obtain ⟨vd,rfl,hld⟩:=Ql hrd;refine zD (ci 13 [12]) ?_;have Z:=Z.drew;refine' KJ;refine' OM;refine' KJ;refine QA Z vw rfl fd V V ?_;intro b1 o1 hel1;refine' NN;refine Q9 (j:=2) Z hel1 rfl fd rfl hd rfl ?_;refine iG vw hld ?_;refine' Ag<;>intro O);all_goals (refine' zn)
                         all_goals
                          first
                          | (refine' Kf;all_goals (refine' Nz;have hM:KY m j.f s x= .error 9:=ZQ V hjt (Fe V);refine' Lq);all_goals (exact Ao))
                          | (refine' Kd;all_goals refine' Ko)
                         all_goals (refine Qm ?_;refine zC [(0,none),(1,none),(2,none),(3,none),(4,none),(5,none),(6,none),(7,none),(8,none),(9,none),(10,none),(11,none),(12,none),(13,some (some [3,5,8,10,12])),(14,some none)] ?_;have Z:=Z.drew;refine' NT;refine' TO;refine QA Z vw rfl fd V V ?_;intro b2 o2 hel2;refine' Ku;refine' US;refine Q9 (j:=2) Z hel2 rfl fd rfl hd rfl ?_;refine' Ku;refine' NS;refine iF vw rfl hld rfl V V ?_;intro b3 o3 cs3 u3 hat3 hu3 hru3;have hrow:=hru3;obtain ⟨vu3,rfl,hlu3⟩:=Ql hru3;have hjf:=Qha hu3;refine' TP;intro p12 E Z;refine' zt;refine ⟨EN.2 ⟨CS,EN.2 ⟨CS,EN.2 ⟨(by (exact YA (j:=2) Z hel2 rfl fd rfl hd rfl)),EN.2 ⟨CS,EN.2 ⟨C7,fun _ h=>(ET h).elim⟩⟩⟩⟩⟩,?_⟩;refine' Lg;refine Kp Z ?_;intro E Z;have Z:=Z.ns;refine' K7;refine' Nq;refine' PG;refine' zn)
                         all_goals
                          first
                          | (refine' Kf;refine' MM;refine Rw (cs:=[_,_,_]) vw Jr ?_;intro ob E hb1 hf1 _ hk1;have Z:=Z.laid hb1 hf1 hk1;refine' X0;have hM:KY m j.f s x= .ok [u3]:=(by rw [Sx V,Q5 hjt,Q5 hjf]);refine' Lq;(obtain ⟨c9,hle9,Z,hk9⟩:=Gh (r:=KA) (L:=Rd j s vl css L) Z.sp hrow;exact AW))
                          | (refine' Kd;refine' Ko)
                         (all_goals (refine' MN;refine zD (ci 13 [12]) ?_;have Z:=Z.drew;refine' KJ;refine' Ae<;>intro O);all_goals (refine' LH;refine' XO;refine' MD;(first|refine' Kj|(refine' Kg;refine Qt Z vw fd hlc ?_));first|refine' Kj|(refine' Kg;refine' Ag<;>intro O)));all_goals (refine' Ld)
                         all_goals
                          first
                          | (refine' Kf;all_goals (refine' Nz;have hM:KY m j.f s x= .error 1:=(by rw [jk V,Q5 hjt,Q5 hjf,Qr (iN V)]);refine' Lq);all_goals (exact Ao))
                          | (refine' Kd;refine' Ko)
                         all_goals (refine' MN;obtain ⟨t4,ht4⟩:∃t,s.l[x.b.toNat]?=some t:=⟨_,EI V⟩;obtain ⟨d4,hd4,hrd4⟩:=hls.2 _ _ ht4;have hrt4:=hrd4;obtain ⟨vd4,rfl,hld4⟩:=Ql hrd4;have hj4:=YO (s:=s) (k:=x.b) V ht4;refine zD (ci 11 [9,10]) ?_;have Z:=Z.drew;refine zv Z ?_;refine' OM;refine' KJ;refine QA Z vw rfl fd V V ?_;intro b4 o4 hel4;refine NW Z hel4 rfl fd rfl hd4 ?_;refine' Kk (c:=rD _ _ hrow hrt4 Z);rintro v1 E ⟨rfl,Z⟩;cases hdc:decide (u3=t4));all_goals (refine' O2)
                         all_goals
                          first
                          | (refine' Kf;refine' Nz;have hM:KY m j.f s x= .error 9:=(by rw [jk V,Q5 hjt,Q5 hjf,Q5 hj4];exact Qip (of_decide_eq_false hdc));refine' Lq;((exact Ao)))
                          | (refine' Kd;refine' Ko)
                         all_goals (refine' Nz;have hM:KY m j.f s x= .ok []:=(by rw [jk V,Q5 hjt,Q5 hjf,Q5 hj4];exact Qin (fun h=>h (of_decide_eq_true hdc)));refine' Lq);all_goals (exact ⟨_,rfl,Y,_,Fs Z,ZJ hM,lL hM (FU _ _ _),Z.sp⟩))
                     refine Qm ?_;have hk:=zd hF V;have hop14:x.op=14:=CP;refine zC [(0,none),(1,none),(2,none),(3,none),(4,none),(5,none),(6,none),(7,none),(8,none),(9,some (some [4,6,8])),(10,some none)] ?_;have Z:=Z.drew;refine' NT;refine' Oq;refine' TO;((refine' zj;intro b2 o2 cs2 x2 hat2 hx2 he2;((obtain ⟨vp2,vr2,vb2,rfl,hp2,hr2,hb2⟩:=Qx he2))));refine' TP;(intro p14 E Z);refine' LY;((refine Kp Z ?_;intro E Z;have Z:=Z.ns));refine' K7;have ej:=ZR (m:=m) (f:=j.f) (s:=s) hop14 hx2;have hsf:=hm.2 x2 (EK hx2);have hrl:=hr2.len;have hrs:=hsf.2.1.1;refine' Nq;refine' zL;refine' KJ;(refine' Ad<;>intro O);all_goals (refine' zn)
                     all_goals
                      first
                      | (refine' Kf;refine' Nz;have hM:KY m j.f s x= .error 2:=ej.trans (Qip V);refine' Lq;((exact Ao)))
                      | (refine' Kd;refine' Ko)
                     refine' Nr;refine Mt Z [0,3,14] (fun A LL ρ' B=>∃(q:Nat),Ki ρ' A∧Ki ρ' [(15, .int .i64 q)]∧(q≤x.regs.length)∧(M7 s.h [] x.regs=M7 s.h (x.regs.take q) (x.regs.drop q))∧(¬(x.regs.length:Int)≠x2.regs)∧St Y B (LL)) (fun ρ' _=>(x.regs.length - iv (ρ' 15)).toNat) ?_ ?_
                     · exact ⟨0,zh,zh,V,by rfl,V,Z.sp⟩
                     rintro U E ⟨q,hA,hρ,hq,hdr,hne,Z⟩;obtain ⟨U,rfl⟩:=Km hA hρ;refine' P4;refine' Ab<;>intro O
                     · skip
                       refine' Mi;refine' MN;refine zD (ci 11 [9,10]) ?_;have Z:=Z.drew;refine' OM;refine' KJ;refine' zm;refine' zi;intro b3 o3 cs3 x3 hat3 hx3 he3;obtain rfl:=Qy he3;refine MG Z ?_;refine' Kk (c:=Xx Z fd);rintro v1 E ⟨rfl,Z⟩;cases hb1:Kt s.h x3;all_goals (refine' O2)
                       all_goals
                        first
                        | (refine' Kf;refine' Nz;have hM:KY m j.f s x= .error 10:=(by rw [ej,Qin hne,Qr (yY (p:=[]) hx3 hdr hb1)]);refine' Lq;((exact Ao)))
                        | (refine' Kd;refine' Ko)
                       refine Qm ?_;refine zD (ci 10 [9]) ?_;have Z:=Z.drew;refine' KJ;refine' zm;((refine iH vw hr rfl rfl ⟨_,rfl⟩ rfl V V ?_;intro v4 hs4;rw [FG] at hs4));refine' KJ;refine' zm;refine Tx vw rfl hr rfl V ?_;intro b7 o7 cs7 x7 hat7 hx7 he7;obtain rfl:=Qy he7;obtain rfl:x3=x7:=EP (hx3.symm.trans hx7);refine MG Z ?_;refine' Kk (c:=Xw hs4 Z);rintro v1 E ⟨rfl,Z⟩;cases hb2:decide (x3∈x.regs.take q);all_goals (refine' zn)
                       all_goals
                        first
                        | (refine' Kf;refine' Nz;have hM:KY m j.f s x= .error 13:=(by rw [ej,Qin hne,Qr (yi hx3 hdr hb1 (of_decide_eq_true hb2))]);refine' Lq;((exact Ao)))
                        | (refine' Kd;refine' Ko)
                       refine' Mn;(exact ⟨⟨q+1,zh,zh,V,by exact yZ hx3 hdr hb1 (of_decide_eq_false hb2),hne,Z.sp⟩,Qh V⟩)
                     · skip
                       refine' LV;have hrg:=tc hdr V;refine' Lb;refine' KJ;refine' KJ;refine' KJ;refine' M3 (c:=tJ (s:=s) hsf.1.2 hls ha hp2 hr Z.p3);rintro v1 E ⟨rfl,Z⟩;refine' L6;(refine' Ad<;>intro O);all_goals (refine' zn)
                       all_goals
                        first
                        | (refine' Kf;refine' KW;refine' Kv;have hM:KY m j.f s x= .error (QI (OE s x.args x2.params x.regs)):=(by rw [ej,Qin hne,Q5 hrg,Qr (ou V)]);refine' Lq;((exact Ao)))
                        | (refine' Kd;refine' Ko)
                       refine' LS;have har:=ss (dG s x.args x2.params x.regs) V;have hM:KY m j.f s x= .ok (x2.results.map (MH x.regs)):=(by rw [ej,Qin hne,Q5 hrg,Q5 har]);refine' Nr;have Z:=Gg (T:=115) (es:=3) Z;refine zo [3,14] (fun A ρ' B=>∃(k2:Cx) (q:Nat) (vl2:Value) (cs2:List (List Value)),Ki ρ' A∧Ki ρ' [(18, .int .i64 q),(17,vl2)]∧(Y.Le k2)∧(q≤x2.results.length)∧(KA.ls k2 cs2 ((x2.results.take q).map (MH x.regs)))∧St k2 B (sl 115 3 vl2 cs2::blk p14 95 [.int .i64 x2.regs,vp2,vr2,vb2]::blk nb 115 [.int .i64 1, .int .i64 0, .slice none 0 0]::blk p3 84 [.int .i64 x.op, .int .i64 x.a, .int .i64 x.b, .int .i64 x.c, .int .i64 x.k, .int .i64 x.n,vr,va]::blk j.sp 158 (j.kcells vl)::Rt j.hp s.h::sl 115 3 vl css::L)) (fun ρ' _=>(x2.results.length - iv (ρ' 18)).toNat) ?_ ?_
                       · exact ⟨Y,0,_,_,zh,zh,Fs Z,V,Gd _ _ _,Z.sp⟩
                       rintro U E ⟨k2,q,vl2,cs2,hA,hρ,hle2,hq,hlo,Z⟩;obtain ⟨U,rfl⟩:=Km hA hρ;have hL2:=hle2;(try have hr2:=hr2.up hle2);(try have hr:=hr.up hle2);refine' P4;refine' Ab<;>intro O
                       · skip
                         refine' TH;refine NU 7 11 Jk ?_ ?_
                         · refine zC [(0,none),(1,none),(2,none),(3,none),(4,none),(5,none),(6,none),(7,some none),(8,none),(9,none),(10,none),(11,some (some [])),(12,some (some [])),(13,some none)] ?_;have Z:=Z.drew;refine' KS;refine' Pj;refine' zi;intro b4 o4 cs4 x4 hat4 hx4 he4;obtain ⟨vl4,rfl,hl4⟩:=Ql he4;refine' nI;refine' Ku;refine' nG;refine' K8;refine' Kk (c:=s9 x4 (hsf.2.1.2 x4 (EK hx4)) he4 hr Z);rintro v1 E ⟨c3,ds,rfl,hle2,hu3,Z⟩;(try have hL2:=hL2.trans hle2);(try have hlo:=hlo.up hle2);have hu3':=hu3;obtain ⟨vu,rfl,hlu⟩:=Ql hu3;refine' S6;refine' UU;intro p19 E Z;refine' Lc;refine Kp Z ?_;intro E Z;have Z:=Z.ns;refine' S7;refine' OH;refine KO Z [_,_,_] ?_;intro b1 E Z;refine za RT Sm Z ?_;intro vp2 w2 css2 hls2 hv2 Z;have Z:=Z.ns;refine' UX;(exact B7)
                         · refine zC [(0,none),(1,none),(2,none),(3,none),(4,none),(5,none),(6,none),(11,some (some [1,4,6])),(7,some none),(8,none),(9,none),(10,none),(12,some (some [])),(13,some none)] ?_;have Z:=Z.drew;refine' KS;refine' Pj;refine' zi;intro b4 o4 cs4 x4 hat4 hx4 he4;obtain ⟨vl4,rfl,hl4⟩:=Ql he4;refine' nI;refine' Ku;refine' Ot;refine Qb Z ?_;intro p19 E Z;refine' LY;refine' Kk (c:=s9 x4 (hsf.2.1.2 x4 (EK hx4)) he4 hr Z);rintro v1 E ⟨c3,ds,rfl,hle2,hu3,Z⟩;(try have hL2:=hL2.trans hle2);(try have hlo:=hlo.up hle2);have hu3':=hu3;obtain ⟨vu,rfl,hlu⟩:=Ql hu3;refine' S6;refine' Lh;refine Kp Z ?_;intro E Z;have Z:=Z.ns;refine' S7;refine' OH;refine KO Z [_,_,_] ?_;intro b1 E Z;refine za RT Sm Z ?_;intro vp2 w2 css2 hls2 hv2 Z;have Z:=Z.ns;refine' UX;(exact B7)
                       · refine' LV;refine' KW;refine' Kv;refine' Lq;(obtain ⟨c9,hle9,Z,hk9⟩:=FV (r:=KA) Z hlo rfl (by simp only [EM,FY];omega);exact ⟨_,rfl,c9,_,hL2.trans hle9,ZJ hM,lL hM (by rw [Fg V] at hk9;exact hk9),Z.sp⟩))))))
end
section
attribute [local irreducible] Kt L4 My Na NL K5 Lj NQ KY KK
variable {Y:Cx}{w:World}{L:List Res}{j:JP}{h:List Bool}{vl:Value}{css:List (List Value)}{i:Nat}{m:Module}
theorem mD {s':JS}{x:Ins}{c':Cx}{vl':Value}{css':List (List Value)}(hJ:KK m j.f s x=(c,s'))(hle:Y.Le c')(hls:KA.ls c' css' s'.l)(Z:St c' w (Rd j s' vl' css' L)):
 ∃c' vl' css',Y.Le c'∧(Value.int .i64 c)= .int .i64 (KK m j.f s x).1∧KA.ls c' css' (KK m j.f s x).2.l∧St c' w (Rd j (KK m j.f s x).2 vl' css' L):=by
 rw [hJ];exact ⟨_,_,_,hle,rfl,hls,Z⟩
theorem ic {x:Ins}(hm:m.Short)(hg:JInv m j.f s)(hj:j.Fits Y m)(hx:K1.at Y cs x)(hls:KA.ls Y css s.l)(Z:St Y w (Rd j s vl css L)):
 Ka Tryz.prog Qfk [.pointer (some ⟨j.sp,0,none⟩), .agg ⟨cs⟩] w fun u B=>∃c' vl' css',Y.Le c'∧u= .int .i64 (KK m j.f s x).1∧KA.ls c' css' (KK m j.f s x).2.l∧St c' B (Rd j (KK m j.f s x).2 vl' css' L):=by
 have hx':=hx;have hlc:=hls.1;have hn:=hg.n;have hh:=hg.h;have hlen:(s.h.map QH).length=s.h.length:=EM _;obtain ⟨vr,va,rfl,hr,ha⟩:=QN hx;refine Kl Kh Tryz.func54 ?_;refine' KU;intro p3 E Z;refine' P3;refine zD (ci 7 [5,6]) ?_;have Z:=Z.drew;refine' zm;refine' LF;refine zv Z ?_;refine zv Z ?_;refine' Kk (c:=V2 (m:=m) ⟨_,rfl,hj.m⟩ hx' Z);rintro v1 E ⟨rfl,Z⟩;refine' L6;(refine' Ad<;>intro O);all_goals (refine' zn)
 all_goals
  first
  | (refine' Kf;refine' Nz;have hJ:=fH (f:=j.f) (s:=s) (x:=x) (m:=m) V;refine' Pg;(exact ⟨_,rfl,mD hJ (Fs Z) hls Z.sp⟩))
  | (refine' Kd;refine' Ko)
 refine Qm ?_;have hF:Qs m.funcs.length x=0:=CP;refine' OH;refine' Kk (c:=Xy (s:=s) hm hF hg.toJGood hj hx' hls Z.p3);rintro v1 E ⟨c1,vm1,hle2,rfl,hv0,Z⟩;have hls:=hls.up hle2;refine' Sf;refine' Ou;(refine' Ad<;>intro O);all_goals (refine' zn)
 all_goals
  first
  | (refine' Kf;refine' Nz;have hJ:=fI (f:=j.f) (s:=s) hF hg V;refine' Pg;(exact ⟨_,rfl,mD hJ hle2 hls Z.sp⟩))
  | (refine' Kd;refine' Ko)
 refine' MN;obtain ⟨ts,hts⟩:=oq (fF m j.f s x) V;have hv:=hv0 ts hts;have hvl:=hv.len;refine' P6;refine Qt Z vw fd hlc ?_;refine' zm;refine iG vw hv ?_;refine' MJ;(refine' Af<;>intro O);all_goals (refine' zn)
 all_goals
  first
  | (refine' Kf;refine' LS;have hJ:=fJ hF hg hts V;refine' Pg;(exact ⟨_,rfl,mD hJ hle2 hls Z.sp⟩))
  | (refine' Kd;refine' Ko)
 refine' Nq;(refine' Ac<;>intro O);all_goals (refine' zn)
 all_goals
  first
  | (refine' Kf;obtain ⟨vh,Z⟩:=ia (hp:=j.hp) (h:=s.h) (L:=blk j.sp 158 (j.kcells vl)::sl 115 3 vl css::blk p3 84 [.int .i64 x.op, .int .i64 x.a, .int .i64 x.b, .int .i64 x.c, .int .i64 x.k, .int .i64 x.n,vr,va]::L) Z.sp;have h16:=ZU hts V;have hJ:=ZS hF hg hts V V;refine zC [(0,none),(1,none),(2,none),(3,none),(4,none),(5,none),(6,none),(7,none),(8,none),(9,none),(10,none),(11,some (some [3,7,10])),(12,some (some [3])),(13,none),(14,none),(15,some none)] ?_;have Z:=Z.drew;refine' U2;refine' Nc;refine' NS;refine' Nc;refine' Ot;refine KO Z [_] ?_;intro b1 E Z;refine' Lc;refine Mx kO (.inl nP) Z vw vw fd (Z.srcB1 fd rfl) CT ?_;intro vp w2 Z;have Z:=Z.ns;rw [show s.h.map QH++[[Value.bool true]]=(s.h++[true]).map QH by simp [QH]] at Z;refine' LZ;refine' Nc;refine' MT;refine' K8;((refine Lv Z ?_;intro E Z;have Z:=Z.ns));refine' K7;have Z:=cM (hp:=j.hp) (h:=s.h++[true]) (v:=vp) (L:=blk j.sp 158 (j.kcells vl)::sl 115 3 vl css::blk p3 84 [.int .i64 x.op, .int .i64 x.a, .int .i64 x.b, .int .i64 x.c, .int .i64 x.k, .int .i64 x.n,vr,va]::L) Z.sp)
  | (refine' Kd;refine' Ko)
 all_goals (refine' Nq;first|(refine' PE)|(refine' Ac<;>intro O));all_goals (refine' zn)
 all_goals
  first
  | (refine' Kd;all_goals refine' Ko)
  | (refine' Kf;obtain ⟨vh,Z⟩:=ia (hp:=j.hp) (h:=s.h) (L:=blk j.sp 158 (j.kcells vl)::sl 115 3 vl css::blk p3 84 [.int .i64 x.op, .int .i64 x.a, .int .i64 x.b, .int .i64 x.c, .int .i64 x.k, .int .i64 x.n,vr,va]::L) Z.sp;obtain ⟨t,g0,g1,ht,r0,r1⟩:=ZV hts V;have hJ:=ZT hF hg hts V V ht;obtain ⟨d,hd,hrd⟩:=hls.2 _ _ ht;obtain ⟨vd,rfl,hld⟩:=Ql hrd;refine zD (ci 18 [17]) ?_;have Z:=Z.drew;refine' OM;refine' LG;refine' OM;refine' KJ;refine QA Z vw rfl fd V V ?_;intro b1 o1 hel1;refine' NN;refine Q9 (j:=1) Z hel1 rfl fd rfl hd rfl ?_;refine QA Z vw rfl fd V V ?_;intro b2 o2 hel2;refine uK Z hel2 rfl vw fd rfl (Tu QH s.h false V) Jd rfl ?_;intro w2 Z;have Z:=Z.ns;rw [show (QH (s.h.getD t.r.toNat false)).set 0 (Value.bool false)=QH false from rfl,map_set] at Z;refine' zn;have Z:=cM (hp:=j.hp) (h:=s.h.set t.r.toNat false) (v:=vh) (L:=blk j.sp 158 (j.kcells vl)::sl 115 3 vl css::blk p3 84 [.int .i64 x.op, .int .i64 x.a, .int .i64 x.b, .int .i64 x.c, .int .i64 x.k, .int .i64 x.n,vr,va]::L) Z.sp)
 all_goals (refine' KW;refine' LG;refine' zm;refine nD RT Sm Z ?_;intro vp1 E css1 hls1 hv1 Z;have Z:=Z.ns;refine' LF;refine Lv Z ?_;intro E Z;have Z:=Z.ns;refine' zn;refine' KM;(first|(exact ⟨_,rfl,mD hJ hle2 hls1 Z.sp⟩)|(exact ⟨_,rfl,mD (fL hF hg hts V V V) hle2 hls1 Z.sp⟩)))
theorem Xz {t:To}(hsf:j.f.Short)(hb:0≤t.block∧t.block<j.f.blocks.length)(hfb:∀b∈j.f.blocks,j.f.regs≤b.regs)(hh:s.h.length≤16)(hj:j.Fits Y m)(hx:toR.at Y cs t)(hls:KA.ls Y css s.l)(Z:St Y w (Rd j s vl css L)):
 Ka Tryz.prog QhC [.pointer (some ⟨j.sp,0,none⟩), .agg ⟨cs⟩] w fun u B=>u= .int .i64 (QI (NM j.f s t))∧St Y B (Rd j s vl css L):=by
 have hx':=hx;obtain ⟨vr,va,rfl,hr,ha⟩:=YJ hx;have hlr:=hr.len;have hbl:=hj.b;refine Kl Kh Tryz.func97 ?_;refine' KU;intro p3 E Z;refine' MU;refine zC [(0,none),(1,none),(2,none),(3,none),(4,none),(5,none),(6,none),(7,none),(8,none),(9,some (some [4,6,8])),(10,some none)] ?_;have Z:=Z.drew;refine' NT;refine' Rl;refine' Ku;refine' NS;((refine' zj;intro b1 o1 cs1 x1 hat1 hx1 he1;((obtain ⟨vp1,vc1,ve11,ve12,ve13,ve14,ve15,rfl,hp1,hc1,he11,he12,he13,he14,he15⟩:=PV he1))));refine' TP;(intro p5 E Z);refine' LY;((refine Kp Z ?_;intro E Z;have Z:=Z.ns));refine' K7;have hbm:=EK hx1;have hf1:=hfb x1 hbm;have hsb:=hsf.2.2.2 x1 hbm;refine' Nq;refine' zL;refine' KJ;(refine' Ad<;>intro O);all_goals (refine' zn)
 all_goals
  first
  | (refine' Kf;refine' KM;((refine ⟨_,rfl,?_,Z.sp⟩;(rw [bC hx1 V];rfl);done)))
  | (refine' Kd;refine' Ko)
 refine' Nr;refine Mt Z [0,3,5] (fun A LL ρ' B=>∃(q:Nat),Ki ρ' A∧Ki ρ' [(6, .int .i64 q)]∧(q≤j.f.regs.toNat)∧(NL t.regs q=true)∧(¬(t.regs.length:Int)≠x1.regs)∧St Y B (LL)) (fun ρ' _=>(j.f.regs - iv (ρ' 6)).toNat) ?_ ?_
 · exact ⟨0,zh,zh,V,by unfold NL;rfl,V,Z.sp⟩
 rintro U E ⟨q,hA,hρ,hq,hk,hne,Z⟩;obtain ⟨U,rfl⟩:=Km hA hρ;refine' RH;refine' O4;refine' TD;refine' Ab<;>intro O
 · skip
   refine' Mi;refine' L5;refine' zm;refine' zi;intro b2 o2 cs2 x2 hat2 hx2 he2;obtain rfl:=Qy he2;refine MG Z ?_;refine' zm;(refine' Ad<;>intro O);all_goals (refine' zn)
   all_goals
    first
    | (refine' Kf;refine' KM;((refine ⟨_,rfl,?_,Z.sp⟩;(rw [UA hx1 hne (vx (q:=q) V (by rw [hx2];intro h;cases h;omega))];rfl);done)))
    | (refine' Kd;refine' Ko)
   refine' Mn;(exact Cs)
 · skip
   refine' LV;have hq':q=j.f.regs.toNat:=CP;rw [hq'] at hk;refine' MN;refine zD (ci 8 [6,7]) ?_;have Z:=Z.drew;refine' OM;refine' KJ;refine' Kk (c:=aY (h:=s.h) hh hr Z fd);rintro v1 E ⟨rfl,Z⟩;refine' L6;(refine' Ad<;>intro O);all_goals (refine' zn)
   all_goals
    first
    | (refine' Kf;refine' Rj;((refine ⟨_,rfl,?_,Z.sp⟩;(rw [bD hx1 hne hk V];rfl);done)))
    | (refine' Kd;refine' Ko)
   refine' Nj;refine' KJ;refine' KJ;refine' M3 (c:=tJ (s:=s) hsb.1.2 hls ha hp1 hr Z.p3);rintro v1 E ⟨rfl,Z⟩;refine' KQ;(refine ⟨_,rfl,?_,Z.sp⟩;rw [UB hx1 hne hk V];done)
end
section
attribute [local irreducible] Kt L4 My Na NL K5 Lj NQ KY KK Mc Module.fault
variable {Y:Cx}{w:World}{L:List Res}{j:JP}{h:List Bool}{vl:Value}{css:List (List Value)}{i:Nat}{m:Module}
theorem Qdk (f:Fun)(s:JS)(t:To):NZ (NM f s t):=by
 unfold NM;split
 · exact .e Jd
 · split
   · exact .e Jd
   · split
     · exact .e Jd
     · split
       · rename_i h;exact .e h
       · exact dG _ _ _ _
theorem ie {e:Tail}(hsf:j.f.Short)(hfb:∀b∈j.f.blocks,j.f.regs≤b.regs)(hf0:0≤j.f.regs)(hfr:j.f.regs≤100000)(hg:JInv m j.f s)(hj:j.Fits Y m)(hx:La.at Y cs e)(hls:KA.ls Y css s.l)(Z:St Y w (Rd j s vl css L)):
 Ka Tryz.prog Qfl [.pointer (some ⟨j.sp,0,none⟩), .agg ⟨cs⟩] w fun u B=>u= .int .i64 (Mc j.f s e)∧St Y B (Rd j s vl css L):=by
 have hx':=hx;have hh:=hg.h;obtain ⟨v1,v2,v3,v4,v5,rfl,I,M,h3,h4,h5⟩:=PA hx;have hT1:toR.at Y [.int .i64 e.yes.block,v1,v2] e.yes:=⟨_,_,rfl,I,M⟩;have hT2:toR.at Y [.int .i64 e.no.block,v3,v4] e.no:=⟨_,_,rfl,h3,h4⟩;have hjr:=hj.r;refine Kl Kh Tryz.func56 ?_;refine' KU;intro p3 E Z;refine' P3;refine zD (ci 7 [5,6]) ?_;have Z:=Z.drew;refine' zm;refine' LF;refine zv Z ?_;refine zv Z ?_;refine' Kk (c:=V4 (x:=j.f) ⟨_,_,_,rfl,hj.p,hj.r,hj.b⟩ hx' Z);rintro v1 E ⟨rfl,Z⟩;refine' L6;(refine' Ad<;>intro O);all_goals (refine' zn)
 all_goals
  first
  | (refine' Kf;refine' Nz;have hJ:=fM (f:=j.f) (s:=s) (e:=e) V;refine' Pg;(exact AL))
  | (refine' Kd;refine' Ko)
 refine' MN;have hF:Np j.f.blocks.length e=0:=CP;have hE:=fO (s:=s) hF;have hop:=iR hF;have hy:e.op≠3→0≤e.yes.block∧e.yes.block<j.f.blocks.length:=(fun h=>YP Ek);have hz:e.op=2→0≤e.no.block∧e.no.block<j.f.blocks.length:=(fun h=>YP D7);refine' S2;refine' P1;refine' Kn;(refine' Ac<;>intro O);all_goals (refine' Kv)
 all_goals
  first
  | (refine' Kf;refine' KX;refine' Sd;refine' Kk (c:=Xz (s:=s) hsf (hy V) hfb hh hj hT1 hls Z.p3);rintro v6 E ⟨rfl,Z⟩;refine' Kv;have hJ:Mc j.f s e=QI (NM j.f s e.yes):=(by rw [hE,np V]);refine' Pg;(exact AL))
  | (refine' Kd
     refine' Kn;(refine' Ac<;>intro O);all_goals (refine' Kv)
     all_goals
      first
      | (refine' Kf
         refine' Lb;refine' KJ;refine' M3 (c:=RZ (s:=s) (k:=e.a) (kd:=1) (held:=false) hls Z.p3);rintro v6 E ⟨rfl,Z⟩;refine' L6;(refine' Ad<;>intro O);all_goals (refine' zn)
         all_goals
          first
          | (refine' Kf;refine' Nz;have hJ:Mc j.f s e=Lj s e.a 1 false:=(by rw [hE,bE V,Qr (Qea V)];rfl);refine' Pg;(exact AL))
          | (refine' Kd;refine' Ko)
         refine' MN;obtain ⟨t1,g1⟩:=QhP (s:=s) (k:=e.a) (kd:=1) V;refine' XV;refine' Kk (c:=Xz (s:=s) hsf (hy V) hfb hh hj hT1 hls Z.p3);rintro v6 E ⟨rfl,Z⟩;refine' L6;(refine' Ad<;>intro O);all_goals (refine' zn)
         all_goals
          first
          | (refine' Kf;refine' Nz;have hJ:Mc j.f s e=QI (NM j.f s e.yes):=(by rw [hE,bE V,Q5 g1,Qr (ou V)];rfl);refine' Pg;(exact AL))
          | (refine' Kd;refine' Ko)
         refine' KX;refine' Sd;refine' Kk (c:=Xz (s:=s) hsf (hz V) hfb hh hj hT2 hls Z.p3);rintro v6 E ⟨rfl,Z⟩;refine' Kv;have hJ:Mc j.f s e=QI (NM j.f s e.no):=(by rw [hE,bE V,Q5 g1,Q5 (ss (Qdk _ _ _) V)]);refine' Pg;(exact AL))
      | (refine' Kd;refine' Ko))
 refine' LS;refine' Nr;have Z:=Gg (T:=3) (es:=1) Z;refine zo [0,3] (fun A ρ' B=>∃(q:Nat) (vo:Value) (co:List (List Value)),Ki ρ' A∧Ki ρ' [(9, .int .i64 q),(8,vo)]∧(q≤j.f.regs.toNat)∧(Kb.ls Y co (K5 q))∧((K5 q).length=q)∧(e.op=3)∧St Y B (sl 3 1 vo co::blk p3 90 [.int .i64 e.op, .int .i64 e.a, .int .i64 e.yes.block,v1,v2, .int .i64 e.no.block,v3,v4,v5]::blk j.sp 158 (j.kcells vl)::Rt j.hp s.h::sl 115 3 vl css::L)) (fun ρ' _=>(j.f.regs - iv (ρ' 9)).toNat) ?_ ?_
 · exact BT
 rintro U E ⟨q,vo,co,hA,hρ,hq,hlo,hlq,ho3,Z⟩;obtain ⟨U,rfl⟩:=Km hA hρ;refine' RH;refine' O4;refine' TD;refine' Ab<;>intro O
 · refine' Mi;refine' NH;refine KO Z [_] ?_;intro b1 E Z;refine za RQ Sk Z ?_;intro vp1 E css1 hls1 hv1 Z;have Z:=Z.ns;refine' UX;(exact BN)
 · skip
   refine' LV;have hq':q=j.f.regs.toNat:=CP;rw [hq'] at hlo;obtain ⟨c1,hle2,Z,hk1⟩:=FV (r:=Kb) Z hlo rfl (by rw [←hq'];omega);have hls':=hls.up hle2;have h5':=h5.up hle2;have hjr':=hjr.up hle2;refine' MN;refine zD (ci 11 [9,10]) ?_;have Z:=Z.drew;refine' zm;refine' KJ;refine' zm;refine' O4;refine' zm;refine' M3 (c:=tJ (s:=s) hsf.2.1.2 hls' h5' hjr' hk1 Z.p3);rintro v6 E ⟨rfl,Z⟩;refine' L6;(refine' Ad<;>intro O);all_goals (refine' zn)
   all_goals
    first
    | (refine' Kf;refine' Nz;have hJ:Mc j.f s e=QI (OE s e.args j.f.results (K5 j.f.regs.toNat)):=(by rw [hE,dE ho3,Qr (ou V)];rfl);refine' Pg;(exact ⟨_,rfl,(by rw [hJ]),Ge Z.sp hle2⟩))
    | (refine' Kd;refine' Ko)
   refine Qm ?_;have har:=ss (dG s e.args j.f.results (K5 j.f.regs.toNat)) V;refine' P6;refine' Kw (c:=aX (h:=s.h) hh Z fd);rintro v1 E ⟨c2,hle3,hk2,Z⟩;have hl2:=hk2.len;refine' MU;refine' S0;refine Mt Z [0,11] (fun A LL ρ' B=>∃(q:Nat),Ki ρ' A∧Ki ρ' [(12, .int .i64 q)]∧(q≤(L4 s.h).length)∧(∀r∈(L4 s.h).take q,r<j.f.regs)∧St c2 B (LL)) (fun ρ' _=>((L4 s.h).length - iv (ρ' 12)).toNat) ?_ ?_
   · exact An
   rintro U E ⟨q,hA,hρ,hq,hall,Z⟩;obtain ⟨U,rfl⟩:=Km hA hρ;refine' S4;refine' Ab<;>intro O
   · skip
     refine' TH;refine zD (ci 10 [9]) ?_;have Z:=Z.drew;refine' Me;refine' zi;intro b1 o1 cs1 x1 hat1 hx1 he1;obtain rfl:=Qy he1;refine MG Z ?_;refine' zm;refine' O4;(refine' Ag<;>intro O);all_goals (refine' zn)
     all_goals
      first
      | (refine' Kf;refine' LS;have hJ:Mc j.f s e=12:=(by rw [hE,dE ho3,Q5 har,Qip ((sx hg hf0).2 ⟨x1,EK hx1,V⟩)];rfl);refine' Pg;(exact Cz))
      | (refine' Kd;refine' Ko)
     refine' Mn;(exact ⟨⟨q+1,zh,zh,V,YI hall hx1 V,Z.sp⟩,Qh V⟩)
   · refine' LV;refine' LS;have hJ:Mc j.f s e=0:=(by rw [hE,dE ho3,Q5 har,Qin (fun h=>by obtain ⟨r,hr,M⟩:=(sx hg hf0).1 h;have:=hall r (by rw [Fg V];exact hr);omega)];rfl);refine' Pg;(exact Cz)
theorem QiJ {l:List Ty}(hlen:l.length≤100000)(hs:∀x∈l,x.Short){Y:Cx}{w:World}{L:List Res}(hl:KA.sl Y v l)(Z:St Y w L):Ka Tryz.prog wh [v] w fun u B=>∃c' css,Y.Le c'∧oneC u=true∧KA.ls c' css l∧St c' B (sl 115 3 u css::L):=by
 refine Kl Kh Tryz.func59 ?_;refine' LS;refine' LS;refine' Nr;refine Mt Z [0] (fun A LL ρ' B=>∃(c1:Cx) (j:Nat) (u:Value) (css:List (List Value)),Ki ρ' A∧Ki ρ' [(3,u),(4, .int .i64 j)]∧(Y.Le c1)∧(j≤l.length)∧(KA.ls c1 css (l.take j))∧(oneC u=true)∧St c1 B (sl 115 3 u css::LL)) (fun ρ' _=>(l.length - iv (ρ' 4)).toNat) ?_ ?_
 · exact Bh
 rintro U E ⟨c1,j,u,css,hA,hρ,hle,hj,hls,hu,Z⟩;obtain ⟨U,rfl⟩:=Km hA hρ;have hl:=Fo hl hle;refine' S4;refine' Ab<;>intro O
 · refine' Mi;refine' RN;refine' zi;intro b1 o1 cs1 x1 hat1 hx1 he1;obtain ⟨vl1,rfl,hl1⟩:=Ql he1;refine N8 Z ?_;refine' Kw (c:=eG x1 (hs x1 (EK hx1)) he1 Z);rintro v1 E ⟨c2,ds,rfl,hle2,hd,Z⟩;obtain ⟨v2,rfl,hv2⟩:=Ql hd;have hls:=I8 hls hle2;refine KO Z [_,_,_] ?_;intro b1 E Z;refine za RT Sm Z ?_;intro vp1 E css1 hls1 hv1 Z;have Z:=Z.ns;refine' UX;(exact Bu)
 · refine' S8;(rw [Fg V] at hls;exact ⟨_,rfl,c1,css,hle,hu,hls,Z.sp⟩)
theorem ig {f b:Int}{fn:Fun}{y:Block}(hm:m.Short)(hf:0≤f)(hb:0≤b)(hfn:m.funcs[f.toNat]?=some fn)(hy:fn.blocks[b.toNat]?=some y)(hx:Lr.at Y cs m)(Z:St Y w L):
 Ka Tryz.prog Qkm [.agg ⟨cs⟩, .int .i64 f, .int .i64 b] w fun u B=>∃(j:JP) (c':Cx) (vl:Value) (css:List (List Value)),u= .pointer (some ⟨j.sp,0,none⟩)∧Y.Le c'∧j.Fits c' m∧j.f=fn∧KA.ls c' css y.params∧St c' B (Rd j (MI y) vl css L):=by
 obtain ⟨vf,rfl,hf1⟩:=NR hx;have hff:=(EJ.1 hfn).1;have hbb:=(EJ.1 hy).1;have hsf:=hm.2 fn (EK hfn);have hle:=Fs Z;refine Kl Kh Tryz.func53 ?_;refine' KU;intro p3 E Z;refine' Kv;refine' L5;refine' zm;refine iF vw rfl hf1 rfl V V ?_;intro b1 o1 cs1 x1 hat1 hx1 he1;obtain ⟨vp1,vr1,vb1,rfl,hp1,hr1,hb1⟩:=Qx he1;obtain rfl:fn=x1:=EP (hfn.symm.trans hx1);refine' bN;refine' zm;refine iF vw rfl hb1 rfl V V ?_;intro b2 o2 cs2 x2 hat2 hx2 he2;obtain ⟨vp2,vc2,ve21,ve22,ve23,ve24,ve25,rfl,hp2,hc2,he21,he22,he23,he24,he25⟩:=PV he2;obtain rfl:y=x2:=EP (hy.symm.trans hx2);refine' NG;(intro p7 E Z);((refine Kp Z ?_;intro E Z;have Z:=Z.ns));refine' LA;refine zC [(0,none),(1,none),(2,none),(3,none),(4,none),(5,none),(6,none),(7,none),(9,none),(10,none),(8,some (some [0,2,5,10])),(11,some (some [0,2,5])),(12,none),(13,some none),(14,some none)] ?_;have Z:=Z.drew;refine' KS;refine' S3;refine' Pj;refine iF vw rfl hf1 rfl V V ?_;intro b3 o3 cs3 x3 hat3 hx3 he3;obtain ⟨vp3,vr3,vb3,rfl,hp3,hr3,hb3⟩:=Qx he3;obtain rfl:fn=x3:=EP (hfn.symm.trans hx3);refine' nI;refine' Ku;refine' TS;refine' Kw (c:=ib Z);rintro v1 E ⟨hp,vh,rfl,Z⟩;refine' Lc;refine' Kw (c:=QiJ (hsf.2.2.2 y (EK hy)).1.1 (hsf.2.2.2 y (EK hy)).1.2 hp2 Z);rintro v1 E ⟨c2,css2,hle2,hv1,hls2,Z⟩;have hat3:=hat3.up hle2;obtain ⟨av,nv,rfl⟩:=Z.shape KL;refine' LZ;refine vU [_,_,_,_,_,_,_] ?_;refine' K8;refine zb Z ?_;intro p30 E Z;refine' Oa;have Z:=cM (hp:=hp) (h:=(MI y).h) (v:=vh) (L:=blk p30 158 (JP.kcells ⟨p30,hp,fn,vf,vp3,vr3,vb3⟩ (.slice av css2.length nv))::sl 115 3 (.slice av css2.length nv) css2::L) Z.sp;refine' Pg;((exact ⟨_,rfl,⟨p30,hp,fn,vf,vp3,vr3,vb3⟩,c2,_,css2,rfl,hle2,⟨hf1.up hle2,hp3.up hle2,hr3.up hle2,hb3.up hle2⟩,rfl,hls2,Z.sp⟩))
end
section
attribute [local irreducible] Kt L4 My Na NL K5 Lj NQ KY KK Mc Module.fault PX PW
variable {Y:Cx}{w:World}{L:List Res}{j:JP}{h:List Bool}{vl:Value}{css:List (List Value)}{i:Nat}{m:Module}
theorem XA (hm:m.Short)(hx:Lr.at Y cs m)(Z:St Y w L):
 Ka Tryz.prog QhA [.agg ⟨cs⟩] w fun u B=>u=Kz m.runs∧St Y B L:=by
 have hx':=hx;obtain ⟨vf,rfl,hf1⟩:=NR hx;have hle:=Fs Z;have hlf:=hf1.len;refine Kl Kh Tryz.func16 ?_;refine' KU;intro p1 E Z;refine Qb Z ?_;(intro p2 E Z);refine' LA;refine' MM;refine' Kw (c:=V6 hm hx' Z);rintro v1 E ⟨rfl,Z⟩;unfold Kz;refine Qb Z ?_;(intro p3 E Z);((refine Kp Z ?_;intro E Z;have Z:=Z.ns));refine' Nl;(refine' Ad<;>intro O);all_goals (refine' zn)
 all_goals
  first
  | (refine' Kd;refine' Ko)
  | (refine' Kf;refine' MM;refine Kp Z ?_;intro E Z;have Z:=Z.ns;refine' zn;have hJ:=xW (m:=m) V;refine' zr;refine QO vw (Q3 (n:=2) Jk Jk (Z.blkAt fd) Jr Jr) ?_;(exact Az))
 refine' MN;have hF:m.fault.1=0:=CP;have hr0:=xX hF;have hlf8:=hm.1;refine' Lm;refine' OG;refine zo [1,2] (fun A ρ' B=>∃(k0:Cx) (q:Nat),Ki ρ' A∧Ki ρ' [(4, .int .i64 q)]∧(Y.Le k0)∧(q≤m.funcs.length)∧(m.runs=OR m q (m.funcs.drop q))∧St k0 B (blk p3 29 [.int .i64 m.fault.1, .int .i64 m.fault.2]::blk p2 29 [.int .i64 0, .int .i64 0]::blk p1 24 [vf]::L)) (fun ρ' _=>(m.funcs.length - iv (ρ' 4)).toNat) ?_ ?_
 · exact ⟨Y,0,zh,zh,Fs Z,V,by rw [hr0];rfl,Z.sp⟩
 rintro U E ⟨k0,q,hA,hρ,hle2,hq,hd,Z⟩;obtain ⟨U,rfl⟩:=Km hA hρ;have hL0:=hle2;(try have hle:=hle.trans hle2);(try have hf1:=hf1.up hle2);refine' P4;refine' Ab<;>intro O
 · skip
   refine' TH;obtain ⟨fn,hfn⟩:∃fn,m.funcs[q]?=some fn:=⟨_,EI V⟩;have hsf:=hm.2 fn (EK hfn);have hfb:=Wk hF hfn;have hfh:=UE (SU hF hfn);refine' Lm;refine' OG;refine zo [1,2,4] (fun A ρ' B=>∃(k1:Cx) (b:Nat),Ki ρ' A∧Ki ρ' [(5, .int .i64 b)]∧(k0.Le k1)∧(b≤fn.blocks.length)∧(QB m fn q 0 fn.blocks=QB m fn q b (fn.blocks.drop b))∧St k1 B (blk p3 29 [.int .i64 m.fault.1, .int .i64 m.fault.2]::blk p2 29 [.int .i64 0, .int .i64 0]::blk p1 24 [vf]::L)) (fun ρ' _=>(fn.blocks.length - iv (ρ' 5)).toNat) ?_ ?_
   · exact ⟨k0,0,zh,zh,Fs Z,V,by rfl,Z.sp⟩
   rintro U E ⟨k1,b,hA,hρ,hle2,hb,hdb,Z⟩;obtain ⟨U,rfl⟩:=Km hA hρ;have hL1:=hle2;(try have hle:=hle.trans hle2);(try have hL0:=hL0.trans hle2);(try have hf1:=hf1.up hle2);refine' Lb;refine' KJ;refine' RI;intro b1 o1 cs1 x1 hat1 hx1 he1;obtain ⟨vp1,vr1,vb1,rfl,hp1,hr1,hb1⟩:=Qx he1;refine' bN;refine' vW;obtain rfl:fn=x1:=EP (hfn.symm.trans hx1);refine' Ab<;>intro O
   · skip
     refine' TH;obtain ⟨y,hy⟩:∃y,fn.blocks[b]?=some y:=⟨_,EI V⟩;have hsy:=hsf.2.2.2 y (EK hy);refine' Lm;refine zv Z ?_;refine' Me;refine' KZ (c:=ig (f:=q) (b:=b) hm V V (by simpa using hfn) (by simpa using hy) ⟨_,rfl,hf1⟩ Z);rintro v1 E ⟨j,c2,vl,css,rfl,hle2,hj,hjf,hls,Z⟩;(try have hle:=hle.trans hle2);(try have hL1:=hL1.trans hle2);(try have hp1:=hp1.up hle2);(try have hr1:=hr1.up hle2);(try have hb1:=hb1.up hle2);(try have he1:=he1.up hle2);(try have hf1:=hf1.up hle2);subst hjf;refine' Kv;refine' kv;intro b2 o2 cs2 x2 hat2 hx2 he2;obtain ⟨vp2,vr2,vb2,rfl,hp2,hr2,hb2⟩:=Qx he2;refine' bN;obtain rfl:j.f=x2:=EP (hfn.symm.trans hx2);refine' RI;intro b3 o3 cs3 x3 hat3 hx3 he3;obtain ⟨vp3,vc3,ve31,ve32,ve33,ve34,ve35,rfl,hp3,hc3,he31,he32,he33,he34,he35⟩:=PV he3;refine' NG;intro p7 E Z;refine Kp Z ?_;intro E Z;have Z:=Z.ns;refine' zn;obtain rfl:y=x3:=EP (hy.symm.trans hx3);refine' MN;have hg0:=ow hm hF hfn hy;have hlc:=hsy.2.1;refine' Lm;refine' OG;refine zo [1,2,4,5,6,7] (fun A ρ' B=>∃(k2:Cx) (i:Nat) (s:JS) (vl:Value) (css:List (List Value)),Ki ρ' A∧Ki ρ' [(8, .int .i64 i)]∧(c2.Le k2)∧(i≤y.code.length)∧(QU m j.f q b y.fin 0 (MI y) y.code=QU m j.f q b y.fin i s (y.code.drop i))∧(j.Fits k2 m)∧(KA.ls k2 css s.l)∧(JInv m j.f s)∧St k2 B (blk p7 92 [.int .i64 y.regs,vp3,vc3, .int .i64 y.fin.op, .int .i64 y.fin.a, .int .i64 y.fin.yes.block,ve31,ve32, .int .i64 y.fin.no.block,ve33,ve34,ve35]::blk j.sp 158 (j.kcells vl)::Rt j.hp s.h::sl 115 3 vl css::blk p3 29 [.int .i64 m.fault.1, .int .i64 m.fault.2]::blk p2 29 [.int .i64 0, .int .i64 0]::blk p1 24 [vf]::L)) (fun ρ' _=>(y.code.length - iv (ρ' 8)).toNat) ?_ ?_
     · exact B9
     rintro U E ⟨k2,i,s,vl,css,hA,hρ,hle2,hi,hdi,hj,hls,hg,Z⟩;obtain ⟨U,rfl⟩:=Km hA hρ;have hL2:=hle2;(try have hle:=hle.trans hle2);(try have hL1:=hL1.trans hle2);(try have hc3:=hc3.up hle2);(try have he31:=he31.up hle2);(try have he32:=he32.up hle2);(try have he33:=he33.up hle2);(try have he34:=he34.up hle2);(try have he35:=he35.up hle2);refine' P4;refine' Ab<;>intro O
     · skip
       refine' Mi;refine' Nj;refine' RI;intro b4 o4 cs4 x4 hat4 hx4 he4;obtain ⟨vr4,va4,rfl,hr4,ha4⟩:=QN he4;refine N8 Z ?_;refine' Kk (c:=ic (s:=s) (x:=x4) hm hg hj he4 hls Z.p3);rintro v1 E ⟨c4,vl4,css4,hle2,rfl,hls4,Z⟩;(try have hle:=hle.trans hle2);(try have hL2:=hL2.trans hle2);have hj:=hj.up hle2;have hg1:=Wj (x:=x4) hF hm hg;obtain ⟨s1,hs1⟩:∃s1,(KK m j.f s x4).2=s1:=⟨_,rfl⟩;rw [hs1] at hls4 Z hg1;refine' L6;(refine' Ad<;>intro O);all_goals (refine' zn)
       all_goals
        first
        | (refine' Kf;refine' KW;refine' Me;refine' KZ (c:=r5 q b i V V V Z);rintro v1 E ⟨rfl,Z⟩;refine' Kk (c:=M5 Z);rintro v1 E ⟨rfl,Z⟩;refine Kp Z ?_;intro E Z;have Z:=Z.ns;refine' zn;have hJ:=sE hd hfn hdb hy (by rw [hdi,Q7 hx4,sC V]) V;refine' zr;refine QO vw (Q3 (n:=2) Jk Jk (Z.blkAt fd) Jr Jr) ?_;(exact Az))
        | (refine' Kd;refine' Ko)
       refine' Mn;(exact ⟨⟨_,i+1,s1,vl4,css4,zh,zh,hL2,V,by rw [hdi,Q7 hx4,sB V,hs1],hj,hls4,hg1,Z.sp⟩,Qh V⟩)
     · skip
       refine' LV;refine' KX;refine' Sd;refine' Kk (c:=ie (s:=s) (e:=y.fin) hsf hfb hfh.1 V hg hj ⟨_,_,_,_,_,rfl,he31,he32,he33,he34,he35⟩ hls Z.p3);rintro v1 E ⟨rfl,Z⟩;have hde:=sD (m:=m) (f:=j.f) (fi:=q) (bi:=b) (e:=y.fin) (s:=s) (i:=i) (l:=y.code) V;refine' L6;(refine' Ad<;>intro O);all_goals (refine' zn)
       all_goals
        first
        | (refine' Kf;refine' KW;refine' zm;refine' Kk (c:=rY q b V V Z);rintro v1 E ⟨rfl,Z⟩;refine' Kk (c:=M5 Z);rintro v1 E ⟨rfl,Z⟩;refine Kp Z ?_;intro E Z;have Z:=Z.ns;refine' zn;have hJ:=sE hd hfn hdb hy (hdi.trans (hde.trans (YM V))) V;refine' zr;refine QO vw (Q3 (n:=2) Jk Jk (Z.blkAt fd) Jr Jr) ?_;(exact Az))
        | (refine' Kd;refine' Ko)
       refine' Mn;(exact ⟨⟨_,b+1,zh,zh,hL1,V,Wl hdb hy (by rw [hdi,hde,R5];omega),Z.sp⟩,Qh V⟩)
   · refine' LV;refine' Mn;(exact ⟨⟨_,q+1,zh,zh,hL0,V,Wm hd hfn hdb V,Z.sp⟩,Qh V⟩)
 · refine' LV;refine' Kn;refine Ly [_,_] ?_;refine Kp Z ?_;intro E Z;have Z:=Z.ns;refine' zn;have hJ:=Wn hd V;refine' zr;refine QO vw (Q3 (n:=2) Jk Jk (Z.blkAt fd) Jr Jr) ?_;(exact Az)
end
section
variable {Y:Cx}{w:World}{L:List Res}{m:Module}{inp:List Int}
theorem zN (h:m.runs.1=0):MZ m inp fuel pages=gZ inp fuel pages:=Qin V
theorem Qi2 (h:MZ m inp fuel pages=(0,0)):0≤fuel∧fuel≤20000∧0≤pages∧pages≤64:=by
 unfold MZ at h;split at h
 · rename_i I;rw [h] at I;exact absurd rfl I
 · split at h
   · cases h
   · omega
attribute [local irreducible] QR RA Run.all Run.oc MZ gZ
end
section
variable {Y:Cx}{w:World}{L:List Res}{m:Module}{inp:List Int}
theorem Rc.split (h:Rc m inp fuel pages Y L u w):((MZ m inp fuel pages).1≠0∧u= .tuple #[.agg ⟨[.int .i64 0, .slice none 0 0, .slice none 0 0, .int .i64 0]⟩,Kz (MZ m inp fuel pages)]∧St Y w L)∨
 (MZ m inp fuel pages=(0,0)∧m.runs.1=0∧∃c' a1 x1 y1 a2 x2 y2 oc,(Run.all m inp fuel.toNat pages).oc=oc∧Y.Le c'∧u= .tuple #[.agg ⟨[.int .i64 oc.e, .slice a1 x1 y1, .slice a2 x2 y2, .int .i64 oc.fuel]⟩,Kz (0,0)]∧Kb.sl c' (.slice a1 x1 y1) oc.back∧Kb.sl c' (.slice a2 x2 y2) oc.out∧St c' w L):=h
attribute [local irreducible] PR QR RA Run.all Run.oc Run.step MZ gZ Rc
theorem QgK {vb vo:Value}{e0 f0:Int}{bk ot:List Int}(hx:Lr.at Y cs m)(hIn:m.InR)(hi:Kb.sl Y v inp)(hin:∀n∈inp,Mh n)(hb:Kb.sl Y vb bk)(ho:Kb.sl Y vo ot)(Z:St Y w L):
 Ka Tryz.prog vX [.agg ⟨cs⟩,v, .int .i64 fuel, .int .i64 pages, .agg ⟨[.int .i64 e0,vb,vo, .int .i64 f0]⟩] w fun u B=>u= .bool true∧St Y B L:=by
 have hx':=hx;obtain ⟨vf,rfl,hf⟩:=NR hx;obtain ⟨af,nf,rfl⟩:=E0 hf;have hbl:=hb.len;have hol:=ho.len;obtain ⟨ab,nb,rfl⟩:=E0 hb;obtain ⟨ao,no,rfl⟩:=E0 ho;have n1:∀c:Cx,Kb.sl c (.slice none 0 0) []:=fun c=>FU _ _ _;refine Kl Kh Tryz.func11 ?_;refine' KU;intro p5 E Z;refine zb Z ?_;intro p9 E Z;refine' MU;refine' Kn;refine' qC (c:=Qeh Z);rintro v1 E ⟨rfl,Z⟩;refine' O2
 all_goals
  first
  | (refine' Kd;refine' Ko)
 refine zM [1,2,3,5,9] (fun A ρ' B=>Ki ρ' A∧Ki ρ' []∧(m.Short)∧St Y B (blk p9 33 [.int .i64 e0, .slice ab bk.length nb, .slice ao ot.length no, .int .i64 f0]::blk p5 24 [.slice af m.funcs.length nf]::L)) ?_ ?_
 · skip
   (((refine' MM;refine' Kw (c:=Qhf hx' Z);rintro v1 E ⟨gb,rfl,hgs,Z⟩;cases gb;all_goals (refine' zm;(first|refine' Kj|(refine' TJ));refine' Mu;(first|(refine' Kj)|(refine' Kg;refine' Kk (c:=gV hx' Z);rintro v1 E ⟨lb,rfl,hlb,Z⟩;cases lb))));all_goals (refine' Mu;refine' Mu;first|refine' Kj|(refine' Kg;refine uq rfl rfl (fun O=>?_) (fun O=>?_))));all_goals (refine' Y2;refine' Lw;refine' RL;refine' MD;refine' ML;refine' ku;first|refine' Kj|(refine' Kg;refine' Af<;>intro O)));all_goals (refine' Ld)
   all_goals
    first
    | (refine' Kf;all_goals (refine' KM);all_goals (exact Ap))
    | (refine' Kd;all_goals refine' Ko)
   all_goals (exact ⟨zh,zh,hgs rfl,Z.sp⟩)
 rintro U E ⟨hA,hρ,hsh,Z⟩;obtain ⟨U,rfl⟩:=Km hA hρ;refine' MM;refine' Me;refine' zm;refine' M3 (c:=Xu hsh hx' hi Z);rintro v1 E hr;rcases hr.split with ⟨hz,rfl,Z⟩|⟨hs0,hrn,c2,a1,x1,y1,a2,x2,y2,oc,hoc,hle2,rfl,k1,k2,Z⟩
 all_goals (unfold Kz;dsimp only;refine' Rk;intro p11 E Z;refine Qb Z ?_;intro p12 E Z;refine Kp Z ?_;intro E Z;have Z:=Z.ns;refine Kp Z ?_;intro E Z;have Z:=Z.ns;refine' RP;(first|(refine' Kw (c:=XA hsh (IS hx' hle2) Z);rintro v1 E ⟨rfl,Z⟩;unfold Kz)|(refine' Kw (c:=XA hsh hx' Z);rintro v1 E ⟨rfl,Z⟩;unfold Kz));refine Qb Z ?_;intro p13 E Z;refine Kp Z ?_;intro E Z;have Z:=Z.ns;refine' LA;refine' L5;first|(refine' SW)|(refine' Ac<;>intro O));all_goals (refine' zn)
 all_goals
  first
  | (refine' Kf;all_goals (refine' RN;(first|(refine' KZ (c:=zI (Fo hi hle2) Z);rintro v1 E ⟨rfl,Z⟩;unfold Kz)|(refine' KZ (c:=zI hi Z);rintro v1 E ⟨rfl,Z⟩;unfold Kz));refine Kp Z ?_;intro E Z;have Z:=Z.ns);all_goals refine' zn)
  | (refine' Kd;refine' Ko)
 all_goals (refine' MN;(first|(have e9:=tf (m:=m) (inp:=inp) (fuel:=fuel) (pages:=pages) V;rw [e9] at Z hz)|(have e9:=zN (m:=m) (inp:=inp) (fuel:=fuel) (pages:=pages) V;rw [e9] at Z hz)|(have e9:=zN (m:=m) (inp:=inp) (fuel:=fuel) (pages:=pages) V;rw [hs0] at e9;rw [←e9] at Z;dsimp only at Z));refine' Lm;refine zv Z ?_;refine zv Z ?_;(first|refine s8 (a:=m.runs) te rfl rfl ?_|refine s8 (a:=gZ inp fuel pages) te rfl rfl ?_|refine s8 (a:=(0,0)) te rfl rfl ?_);refine' zn)
 all_goals
  first
  | (refine' Kd;all_goals refine' Ko)
 all_goals (refine' Nq;refine' Y4;refine' zn)
 all_goals
  first
  | (refine' Kf;all_goals (refine' MM;refine Ly [_,_,_,_] ?_;refine' Kk (c:=tI (xs:=[]) (ys:=[]) (xs2:=[]) (ys2:=[]) (n1 _) (n1 _) (n1 _) (n1 _) Z);rintro v1 E ⟨rfl,Z⟩;rw [show decide ((0:Int)=0∧([]:List Int)=[]∧([]:List Int)=[]∧(0:Int)=0)=true by decide];refine' KQ);all_goals (exact Ap))
  | (refine' Kd;refine' Ko)
 refine' MM;refine' Me;refine' zm;obtain ⟨hf0,hf1,hp0,hp1⟩:=Qi2 hs0;refine' M3 (c:=aV (Tk hrn) hIn hin hf0 hf1 ⟨hp0,V⟩ (Fo hf hle2) (Fo hi hle2) Z);rintro v1 E ⟨c3,b1,b2,z1,z2,hle3,rfl,k3,k4,Z⟩;rw [QeO hrn hsh,hoc];rw [hoc] at k3 k4;unfold Kz;dsimp only;refine' Rk;intro p14 E Z;refine Qb Z ?_;intro p15 E Z;refine Kp Z ?_;intro E Z;have Z:=Z.ns;refine Kp Z ?_;intro E Z;have Z:=Z.ns;refine' LA;refine zC [(0,none),(1,none),(2,some none),(3,none),(4,none),(5,none),(7,none),(8,none),(6,some (some [7,8])),(9,some none),(10,none),(11,none),(12,none),(13,none),(14,none),(15,some none),(16,none),(17,some none)] ?_;have Z:=Z.drew;refine' KS;refine' S3;refine zv Z ?_;refine' K8;have hb3:=Fo (Fo hb hle2) hle3;have ho3:=Fo (Fo ho hle2) hle3;refine' Kk (c:=tI (Fo k1 hle3) (Fo k2 hle3) k3 k4 Z);rintro v1 E ⟨rfl,Z⟩;rw [decide_eq_true ⟨rfl,rfl,rfl,rfl⟩];refine' Mm;refine' TJ;refine' Ku;refine' TJ;refine' Ku;refine' TJ;refine' Ku;refine' TJ;refine' Lh;refine' Kg;refine' Kk (c:=mC (Fo k1 hle3) (Fo k2 hle3) hb3 ho3 Z);rintro v1 E ⟨rfl,Z⟩;refine' LY;refine' Kg;refine' Kk (c:=tI (Fo k1 hle3) (Fo k2 hle3) hb3 ho3 Z);rintro v1 E ⟨rfl,Z⟩;refine' Ku;refine' Kg;refine YC Jk rfl rfl rfl ?_;refine' Ku;refine' OZ;refine' Mm;refine' TJ;refine' Ku;refine' TJ;refine' K8;refine' Kg;refine' Kk (c:=mC hb3 ho3 hb3 ho3 Z);rintro v1 E ⟨rfl,Z⟩;rw [show decide (e0=e0∧bk=bk∧ot=ot∧f0=f0)=true from decide_eq_true ⟨rfl,rfl,rfl,rfl⟩];refine' Ku;refine' OZ;refine' Oa;refine' Pg;(exact ⟨_,rfl,rfl,Ge Z.sp (hle2.trans hle3)⟩)
end
end Go.Proofs.YteflkifmgnpbhaaGreat
namespace Go.Proofs.YteflkifmgnpbhaaGreat
open Go.Lir
def N4:Cod.Of Tryz.prog 25 (Kb.an LQ).list:=Cod.Of.list UG Jk Jk Jk
def SH:Cod.Of Tryz.prog 3 Kb:=Cod.Of.int Jk Jk
def ij:Cod.Of Tryz.prog 2 Kb:=Cod.Of.int Jk Jk
def N5:Cod.Of Tryz.prog 25 Kb.list:=Cod.Of.list ij Jk Jk Jk
theorem cN:fieldAt Tryz.prog 33 0=some (0,1,3):=by kernel_rfl
def aZ:Cod Tryz.prog 33 (Int×List Int×List Int×Int×Unit):=
 Fld.cod (Fld.more SH.cod cN (Fld.more (i:=1) (o:=1) (s:=1) N5.cod Jk (Fld.more (i:=2) (o:=2) (s:=1) N5.cod Jk (Fld.more (i:=3) (o:=3) (s:=1) SH.cod Jk Fld.none)))) cN 4 Jk
theorem XB {x:Int×List Int×List Int×Int×Unit}(h:aZ.rd w.heap cs x):∃e vb vo f bk ot,cs=[.int .i64 e,vb,vo, .int .i64 f]∧Kb.sl (Cx.top w) vb bk∧Kb.sl (Cx.top w) vo ot:=by
 obtain ⟨hl,g0,g1,g2,g3,_⟩:=h
 match cs,hl with
 | [a,b,c,d],_=>
   have e0:[a]=[_]:=SH.top g0;obtain ⟨v1,e1,s1⟩:=N5.top g1;obtain ⟨v2,e2,s2⟩:=N5.top g2;have e3:[d]=[_]:=SH.top g3;replace e1:[b]=[v1]:=e1;replace e2:[c]=[v2]:=e2;simp only [FW,and_true] at e0 e1 e2 e3;subst e0 e1 e2 e3;exact ⟨_,_,_,_,_,_,rfl,s1,s2⟩
theorem Re {c c2:Array Value}{x:Module}{y:Int×List Int×List Int×Int×Unit}(I:R9.cod.rd w.heap c.toList x)(M:N4.cod.rd w.heap [v] inp)(a b:Int)(h3:aZ.rd w.heap c2.toList y):Ka Tryz.prog vX [.agg c,v, .int .i64 a, .int .i64 b, .agg c2] w fun v B=>v= .bool true∧Fr NF w B:=by
 obtain ⟨v',hv,hin⟩:=N4.top M;cases hv;obtain ⟨hi,hr⟩:=GJ hin;have hm:=R9.top I;obtain ⟨e,vb,vo,f,bk,ot,O,k1,k2⟩:=XB h3;obtain ⟨l⟩:=c2;obtain rfl:l=_:=O;exact (QgK hm.1 hm.2 hi hr k1 k2 (St.top w)).mono fun _ _ ⟨h,M⟩=>⟨h,M.fr⟩
end Go.Proofs.YteflkifmgnpbhaaGreat
