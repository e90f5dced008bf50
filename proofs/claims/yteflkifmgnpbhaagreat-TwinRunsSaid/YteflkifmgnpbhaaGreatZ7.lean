
/- Lemmas of the proof, part 7: contracts. -/
import Derived.Test.YteflkifmgnpbhaaGreatZ3
import Derived.Test.YteflkifmgnpbhaaGreatZ6
import Derived.Test.YteflkifmgnpbhaaGreatZ2
import Derived.Test.YteflkifmgnpbhaaGreatZ4
import Derived.Test.YteflkifmgnpbhaaGreatZ5
open Go Go.Lir Go.Proofs.YteflkifmgnpbhaaGreat
variable {α:Type}{m:Module}{inp l out2 out:List Int}{fuel pages a b left n e e2 f2:Int}{cs:List Value}{v y:Val}{q most j T es i N2 N' p:Nat}{lv u v1 v2:Value}{r:Res}{rv:List RgnV}{x:Ins}{g:Frm}{vs:List Val}{P:Prop}{c Y:Cx}{w:World}{L L':List Res}{css:List (List Value)}{X:Stp}{M h:HpS}{fr':List FrmV}{g':FrmV}{f:Fun}{t:To}{s ms:MS}
set_option linter.unusedVariables false
set_option linter.unusedSimpArgs false
set_option maxHeartbeats 1000000
namespace Go.Lir
section
variable {p:Prop}
theorem Dd (h:p:=by rw [a1];rfl):p:=h
theorem DD (h:p:=by have Z:=Fz (T:=182) (es:=4) (css:=[h.openV].map Val.cells) Z rfl (by simp [Val.cells]) rfl;exact Aj):p:=h
theorem DX (h:p:=by have Z:=Fz (T:=3) (es:=1) (css:=Qe [x.b]) Z rfl (by simp [Qe]) rfl;exact Aj):p:=h
theorem D5 (h:p:=by first|exact .inl V|exact .inr (by show (h.get v0 x.k).2≠0;omega)):p:=h
theorem D9 (h:p:=by have Z:=Fz (T:=182) (es:=4) (css:=[(h.get v0 x.k).1].map Val.cells) Z rfl (by simp [Val.cells]) rfl;exact Aj):p:=h
theorem Ec (h:p:=by have Z:=Fz (T:=3) (es:=1) (css:=Qe [x.a]) Z rfl (by simp [Qe]) rfl;exact Aj):p:=h
theorem Eo (h:p:=by have Z:=Fz (T:=182) (es:=4) (css:=[(h.get v0 n0).1].map Val.cells) Z rfl (by simp [Val.cells]) rfl;exact Aj):p:=h
theorem EB (h:p:=by first|exact hX.trans (Qu hrs)|exact hX.trans ((Q1 hrs).trans (Qu hvs))|exact CM):p:=h
end
end Go.Lir
namespace Go.Lir
section
variable {p:Prop}
theorem Al (h:p:=by exact ⟨_,rfl,hG⟩):p:=h
theorem Aw (h:p:=by exact ⟨_,rfl,Hy hX Z fun _ _ Z=>Z.sp⟩):p:=h
theorem AP (h:p:=by exact ⟨_,rfl,rfl,(Qz ho (L:=L.eraseIdx i) Z.sp).back hi⟩):p:=h
theorem A5 (h:p:=by exact ⟨_,rfl,rfl,(Qz ho (L:=L.eraseIdx i) Z.sp).back0 hi⟩):p:=h
theorem Be (h:p:=by exact ⟨_,rfl,rfl,(Qz ho1 (L:=L.eraseIdx i) Z.sp).back hi⟩):p:=h
theorem BF (h:p:=by exact ⟨_,rfl,c2,_,_,hle1.trans hle2,rfl,hv1,hv2,Z.sp⟩):p:=h
theorem BG (h:p:=by exact YA (j:=0) Z hel rfl fd (Qc fr g) (Qj fr g) rfl):p:=h
theorem BJ (h:p:=by exact ⟨_,rfl,HS (fr':=fr) (g':=g.push tv [(h.get v0 x.k).1]) (h':=h) (out':=out) hX hi (FM N) rfl Z.sp⟩):p:=h
theorem BR (h:p:=by exact ⟨_,rfl,HS (fr':=fr) (g':=g.push tv [(h.get v0 n0).1]) (h':=h) (out':=out) (hX.trans (ZD hk4 he)) hi (FM N) rfl Z.sp⟩):p:=h
theorem BU (h:p:=by exact ⟨_,rfl,Hy (hX.trans (rF he2 he)) Z fun _ _ Z=>Z.sp⟩):p:=h
theorem Cr (h:p:=by exact ⟨_,rfl,by rw [xk,O];rfl,(Qz ho2 (by rw [e6];rw [←hlf];exact Z)).back hi⟩):p:=h
theorem Ct (h:p:=by exact ⟨_,rfl,HM (fr':=fr) (g':=g) (N':=N+1) (hX.trans (rE he)) (E6 _) rfl Z.sp⟩):p:=h
theorem CC (h:p:=by exact ⟨⟨j+1,zh,zh,V,V,by rw [hd,Q7 hx1,Q7 hx2,show x1=x2 by omega];simp,Z.sp⟩,Qh V⟩):p:=h
theorem CM (h:p:=by exact hX.trans ((Q1 hrs).trans ((Q1 hvs).trans (Qip V)))):p:=h
end
end Go.Lir
namespace Go.Lir
section
variable {p:Prop}
theorem Ah (h:p:=by first|exact ⟨_,rfl,Hy (hX.trans (kU he)) Z fun _ _ Z=>Z.sp⟩|exact ⟨_,rfl,HM (fr':=fr) (g':=g) (N':=N) (hX.trans (kT hk4 he)) (FM N) rfl Z.sp⟩):p:=h
end
end Go.Lir
namespace Go.Lir
def MZ (m:Module)(inp:List Int)(fuel pages:Int):Mj:=if m.runs.1≠0 then m.runs else if 200<inp.length∨fuel<0∨20000<fuel∨pages<0∨64<pages then (1, -1) else (0,0)
theorem tf (h:m.runs.1≠0):MZ m inp fuel pages=m.runs:=Qip h
theorem zk (h:¬m.runs.1≠0)(hr:200<inp.length∨fuel<0∨20000<fuel∨pages<0∨64<pages):MZ m inp fuel pages=(1, -1):=(Qin h).trans (Qip hr)
theorem Xd (h:¬m.runs.1≠0)(hr:¬(200<inp.length∨fuel<0∨20000<fuel∨pages<0∨64<pages)):MZ m inp fuel pages=(0,0):=(Qin h).trans (Qin hr)
end Go.Lir
namespace Go.Proofs.YteflkifmgnpbhaaGreat
open Go.Lir
attribute [local irreducible] LC.wp Q0 Qp Qk KN Qw LO.wp Q6 Calls
section
variable {Y:Cx}{w:World}{L:List Res}{m:Module}{inp:List Int}
@[reducible] def jv (ep fn lv iv:Value)(fuel:Int):RC:=⟨ep,fn,lv,iv,0, .slice none 0 0, .slice none 0 0,0,fuel,false⟩
@[reducible] def jw:RFV:=⟨0,0,0, .slice none 0 0,[]⟩
def SD (m:Module)(inp:List Int)(fuel pages:Int)(Y:Cx)(L:List Res)(u:Value)(B:World):Prop:=
 ((MZ m inp fuel pages).1≠0∧u= .tuple #[.pointer none,Kz (MZ m inp fuel pages)]∧St Y B L)∨
 (MZ m inp fuel pages=(0,0)∧m.runs.1=0∧inp.length≤200∧0≤fuel∧fuel≤20000∧∃(q:Nat),pages=q∧q≤64∧∃c' p ep fn lv iv,u= .tuple #[.pointer (some ⟨p,0,none⟩),Kz (0,0)]∧Y.Le c'∧Ks.sl c' fn m.funcs∧Kb.sl c' iv inp∧St c' B (rS p (jv ep fn lv iv fuel) [] jw (EstS.mk0 q) [] L))
theorem gB {v:Value}(hsh:m.Short)(hx:Lr.at Y cs m)(hi:Kb.sl Y v inp)(Z:St Y w L):
 Ka Tryz.prog Y8 [.agg ⟨cs⟩,v, .int .i64 fuel, .int .i64 pages] w (SD m inp fuel pages Y L):=by
 have hle:=Fs Z;have hx':=hx;obtain ⟨vf,rfl,hf⟩:=NR hx;have hil:=hi.len;unfold SD;refine Kl Kh Tryz.func35 ?_;refine' KU;intro p4 E Z;refine' zm;refine Qb Z ?_;(intro p9 E Z);refine' LA;refine' MM;refine' Kw (c:=Xc hsh hx' Z);rintro v1 E ⟨rfl,Z⟩;unfold Kz;refine Qb Z ?_;(intro p10 E Z);((refine Kp Z ?_;intro E Z;have Z:=Z.ns));refine' Nl;(refine' Ad<;>intro O);all_goals (refine' zn)
 all_goals
  first
  | (refine' Kf;refine Qm ?_;refine zD (ci 3 [2]) ?_;have Z:=Z.drew;refine zv Z ?_;refine' zm;((refine Kp Z ?_;intro E Z;have Z:=Z.ns));refine' LM;refine Px vw vw (Q3 (n:=2) Jk Jk (Z.blkAt fd) Jr Jr) ?_;(exact ⟨_,rfl, .inl ⟨by rw [tf V];omega,by rw [tf V];rfl,Z.sp⟩⟩))
  | (refine' Kd;refine' Ko)
 ((((refine' Lb;refine' zL;(refine' Af<;>intro O);all_goals (refine' Md;first|refine' Kj|(refine' Kg;refine' Ae<;>intro O)));all_goals (refine' Po;first|refine' Kj|(refine' Kg;refine' Af<;>intro O)));all_goals (refine' Po;first|refine' Kj|(refine' Kg;refine' Ae<;>intro O)));all_goals (refine' Po;first|refine' Kj|(refine' Kg;refine' Af<;>intro O)));all_goals (refine' Ld)
 all_goals
  first
  | (refine' Kf;all_goals (refine' Kn;refine M8 [_,_] ?_;refine' zm;refine Kp Z ?_;intro E Z;have Z:=Z.ns;refine' LM;refine Px vw vw (Q3 (n:=2) Jk Jk (Z.blkAt fd) Jr Jr) ?_);all_goals (exact ⟨_,rfl, .inl ⟨by rw [zk V V];decide,by rw [zk V V];rfl,Z.sp⟩⟩))
  | (refine' Kd;refine' Ko)
 refine' KX;refine' Kw (c:=ew pages Z);rintro v1 E (⟨hbad, -, -⟩|⟨q,bq,hq,hq64,rfl,Z⟩);exact absurd hbad V;refine' Rk;intro p12 E Z;refine' zm;refine Kp Z ?_;intro E Z;have Z:=Z.ns;refine' L8;refine zv Z ?_;refine' Kw (c:=js hsh hx' Z);rintro v1 E ⟨c1,ds,rfl,hle1,hx1,Z⟩;obtain ⟨vf1,rfl,hf1⟩:=NR hx1;have hi:=Fo hi hle1;obtain ⟨af,nf,rfl⟩:=E0 hf1;refine Ly [_,_,_,_] ?_;refine KO Z [_,_,_,_] ?_;intro b1 E Z;have Z:=Fz (T:=138) (es:=4) (css:=[[.int .i64 0, .int .i64 0, .int .i64 0, .slice none 0 0]]) Z rfl Js rfl;refine' zm;refine' Kw (c:=ma V hi Z);rintro vi E ⟨c2,hle2,hi2,Z⟩;have hf1:=Fo hf1 hle2;obtain ⟨ai,ni,rfl⟩:=E0 hi2;refine' zm;refine iZ [_,_,_,_,_,_,_,_,_,_] ?_;refine zb Z ?_;intro p53 E Z;refine Ly [_,_] ?_;refine' zm;refine Kp Z ?_;intro E Z;have Z:=Z.ns;refine' LM;refine Px vw vw (Q3 (n:=2) Jk Jk (Z.blkAt fd) Jr Jr) ?_;(have Z:=Gx RFV.res (Gg (T:=2) (es:=1) (Gg (T:=2) (es:=1) Z));exact ⟨_,rfl, .inr ⟨Xd V V,V,V,V,V,q,hq,hq64,c2,_,_,_,_,_,rfl,hle1.trans hle2,hf1,hi2,Z.sp⟩⟩)
end
section
variable {Y:Cx}{w:World}{L:List Res}{p:Nat}{c:RC}{fr:List RFV}{g:RFV}{s:EstS}{out inp back:List Int}{m:Module}
theorem QR.first {ep fn iv:Value}(hR:m.runs.1=0)(hsh:m.Short)(h0:0≤fuel)(hq:q≤64):QR m fuel.toNat (jv ep fn lv iv fuel) [] jw (EstS.mk0 q) inp [] [] (.on (MS.start inp q)):=
 ⟨Z1 hq,rfl,rfl,rfl,rfl,FB _,(Fi h0).symm,IF (Tk hR) inp q,yA hR hsh inp q⟩
theorem QR.on {most:Nat}{r:Run}(hQ:QR m most c fr g s inp out back r)(hdn:c.dn=false):∃ms,r= .on ms∧ms.fuel≤most:=by
 cases r with
 | on ms=>obtain ⟨-, -, -, -, -,h, -⟩:=hQ;exact ⟨ms,rfl,h⟩
 | over ms e b=>obtain ⟨-, -,h, -⟩:=hQ;rw [hdn] at h;cases h
 | stuck f=>exact hQ.elim
theorem QR.fin {r a:Run}(hQ:QR m most c fr g s inp out back r)(hA:RA m most a r)(hdn:c.dn=true):a.oc=⟨c.e,back,out,c.fu⟩∧out.length≤2000∧back.length≤100000:=by
 cases r with
 | on ms=>obtain ⟨-, -,h, -⟩:=hQ;rw [hdn] at h;cases h
 | over ms e b=>
   obtain ⟨I,M, -,h4,h5,h6,h7, -⟩:=hQ;have hA:a= .over ms e b:=hA;refine ⟨?_,h6,h7⟩;rw [hA,I,M,h4,h5];rfl
 | stuck f=>exact hQ.elim
theorem Xe:Kb.ls Y (l.map Qq) l:=
 ⟨by simp,fun k x hx=>⟨[.int .i64 x],by rw [EZ,hx];rfl,rfl⟩⟩
def SE (m:Module)(inp:List Int)(fuel pages:Int)(Y:Cx)(L:List Res)(u:Value)(B:World):Prop:=
 ((MZ m inp fuel pages).1≠0∧u= .tuple #[.agg ⟨[.int .i64 0, .slice none 0 0, .slice none 0 0, .int .i64 0]⟩,Kz (MZ m inp fuel pages)]∧St Y B L)∨
 (MZ m inp fuel pages=(0,0)∧m.runs.1=0∧∃c' v1 v2,Y.Le c'∧u= .tuple #[oF (Run.all m inp fuel.toNat pages).oc v1 v2,Kz (0,0)]∧Kb.sl c' v1 (Run.all m inp fuel.toNat pages).oc.back∧Kb.sl c' v2 (Run.all m inp fuel.toNat pages).oc.out∧St c' B L)
attribute [local irreducible] QR RA Run.all Run.oc
theorem SD.split (h:SD m inp fuel pages Y L u w):((MZ m inp fuel pages).1≠0∧u= .tuple #[.pointer none,Kz (MZ m inp fuel pages)]∧St Y w L)∨
 (MZ m inp fuel pages=(0,0)∧m.runs.1=0∧inp.length≤200∧0≤fuel∧fuel≤20000∧∃(q:Nat),pages=q∧q≤64∧∃c' p ep fn lv iv,u= .tuple #[.pointer (some ⟨p,0,none⟩),Kz (0,0)]∧Y.Le c'∧Ks.sl c' fn m.funcs∧Kb.sl c' iv inp∧St c' w (rS p (jv ep fn lv iv fuel) [] jw (EstS.mk0 q) [] L)):=h
end
section
def H1:HT:=⟨182,278,131,46⟩
structure GZ where
 fn:Value
 fv:Value
 iv:Value
 e:Int
 bv:Value
 ov:Value
 fu:Int
 mo:Int
 dn:Bool
 c:Int
 a:Int
@[reducible] def Mg (z:GZ)(b:Nat)(lv:Value)(left:Int):Res:=blk b 49 [z.fn,lv, .int .i64 left,z.fv,z.iv, .int .i64 z.e,z.bv,z.ov, .int .i64 z.fu, .int .i64 z.mo, .bool z.dn, .int .i64 z.c, .int .i64 z.a]
abbrev RY (z:GZ)(b:Nat)(lv:Value)(left:Int)(rv:List RgnV)(L:List Res):List Res:=Mg z b lv left::sl 131 4 lv (rv.map RgnV.cells)::KV (RgnV.res H1) rv::L
def Pu (z:GZ)(N:Nat)(h:Value)(s:HpS):Res:=Res.ex fun x:Nat×Value×List RgnV=>Res.pure (h= .pointer (some ⟨x.1,1,none⟩)∧HpO N s x.2.2) (Rx [Mg z x.1 x.2.1 s.left,sl 131 4 x.2.1 (x.2.2.map RgnV.cells),KV (RgnV.res H1) x.2.2])
variable {z:GZ}{Y:Cx}{w:World}{L:List Res}{i:Nat}{N:Nat}{h:Value}{s:HpS}
theorem tg (Z:St Y w (Pu z N h s::L)):∃b lv rv,h= .pointer (some ⟨b,1,none⟩)∧HpO N s rv∧St Y w (RY z b lv s.left rv L):=by
 obtain ⟨⟨b,lv,rv⟩,h⟩:=Z.ex;obtain ⟨⟨h0,I⟩,M⟩:=h.pure;exact ⟨b,lv,rv,h0,I,M.list⟩
theorem Qz {b:Nat}(ho:HpO N s rv)(Z:St Y w (RY z b lv s.left rv L)):St Y w (Pu z N (.pointer (some ⟨b,1,none⟩)) s::L):=
 Jh (b,lv,rv) (JE ⟨rfl,ho⟩ (It Z))
theorem gC (Z:St Y w L){b:Nat}(hi:nth L i=some (Pu z N (.pointer (some ⟨b,1,none⟩)) s)):∃lv rv,HpO N s rv∧St Y w (RY z b lv s.left rv (L.eraseIdx i)):=by
 obtain ⟨b',lv,rv,he,ho,h⟩:=tg (Z.out hi);cases he;exact ⟨lv,rv,ho,h⟩
theorem gD (Z:St Y w L)(hi:nth L i=some (Pu z N h s)):s.Ok N∧∃b,h= .pointer (some ⟨b,1,none⟩):=by
 obtain ⟨b,lv,rv,he,ho,_⟩:=tg (Z.out hi);exact ⟨ho.ok,b,he⟩

variable {b:Nat}{lv:Value}{left:Int}{rv:List RgnV}
theorem gE (k:Int)(ho:HpO N s rv)(Z:St Y w (RY z b lv left rv L)):Ka Tryz.prog QdW [.pointer (some ⟨b,1,none⟩), .int .i64 k] w fun v B=>v= .bool (s.has k)∧St Y B (RY z b lv left rv L):=by
 rcases (show (k<0∨(rv.length:Int)≤k)∨∃m:Nat,k=m∧m<rv.length by (by_cases h:k<0∨(rv.length:Int)≤k;(exact .inl h);exact .inr ⟨k.toNat,V,V⟩)) with hk|⟨m,rfl,hm⟩
 · have e0:=ho.out hk;refine Kl Kh Tryz.func222 ?_;refine' Nk;(refine' Ag<;>intro O);all_goals (refine' S5;refine' XU;refine' SZ;(first|refine' Kj|(refine' Kg;refine' Ri));refine' Lw;refine' PH;refine' S1;refine' Ni;refine' KQ;exact AV)
 · obtain ⟨r,hr,hrs,_⟩:=ho.at_ hm;have e0:s.has m=r.there:=(by unfold HpS.has;rw [hrs];rfl);refine Kl Kh Tryz.func222 ?_;refine' Nk;refine' YZ;refine' zm;((refine' Ln));((refine' Ln));((refine' Nf));((refine' Sh));((refine' LU));((refine' Kg;refine PZ Z ?_));(refine' Kg;refine' iW);refine' OZ;refine' zm;((refine' Ln));((refine' Nf));((refine' Sh));((refine' LU));((refine' Ln));((refine' Kg;((refine SX Z ?_;intro b1 o1 hel1))));((refine' Sh));((refine' Kg;((refine Q9 Z Ja rfl fd Jr (Mq hr) rfl ?_))));refine' OZ;refine' KQ;((exact AV))
theorem oH (v:Val)(ho:HpO N s rv)(Z:St Y w (RY z b lv left rv L)):Ka Tryz.prog QaD [.pointer (some ⟨b,1,none⟩),v.v] w fun u B=>St Y B (RY z b lv left rv L)∧(s.at_ v=none∧u= .pointer none∨∃k t th,s.at_ v=some (k,t)∧bW rv k t th u):=by
 by_cases hv:v.kind=3∨v.kind=4
 · cases hh:s.has v.region with
   | false=>
     have e0:s.at_ v=none:=Ev;refine Kl Kh Tryz.func224 ?_;refine' Kn;refine Ma Z vw Jr ?_;((intro b3 E Z;simp only [Val.cells] at Z));refine' P3;refine zD (ci 35 [12,34]) ?_;have Z:=Z.drew;refine' KJ;(refine' Ad<;>intro O);all_goals (refine' LH;refine' i0;refine' dT;refine' Ln;refine' LI;refine' LU;refine' Kg;refine' Kk (c:=gE _ ho (G3 Z));rintro v1 E ⟨rfl,Z⟩;rw [hh];refine' P5;refine' Ni;refine' zm;refine' UR;refine' RO;refine' PH;refine' S1;refine' S1;refine' RO;refine' UZ;exact AB)
   | true=>
     obtain ⟨vk,vr,vt,vn⟩:=v;have hv':vk=3∨vk=4:=hv;obtain ⟨m,rfl,hm⟩:=ho.has_in hh;obtain ⟨r,hr,hrs,_⟩:=ho.at_ hm;have hrl:(s.reg (m:Int)).l.length=r.l.length:=(by rw [hrs];exact EM _);have hrn:=(ho.rng hr).1;have hmt:(m:Int).toNat=m:=CP;by_cases ht:0≤vt∧vt<r.l.length
     · obtain ⟨t,rfl⟩:=FQ ht.1
       have htt:(t:Int).toNat=t:=CP;obtain ⟨th,hth⟩:∃th,r.l[t]?=some th:=⟨_,EI V⟩;have hthg:=ho.thg hr hth
       have e1:s.at_ ⟨vk,m,t,vn⟩=if th.array=decide (vk=4) then some (m,t) else none:=by
        unfold HpS.at_;simp only [hmt,htt,hthg,hh,hrl];by_cases ha:th.array=decide (vk=4)
        · rw [Qip ⟨hv',trivial,ht.1,ht.2,ha⟩,Qip ha]
        · rw [Qin (fun h=>ha h.2.2.2.2),Qin ha]
       refine Kl Kh Tryz.func224 ?_;refine' Kn;refine Ma Z vw Jr ?_;((intro b3 E Z;simp only [Val.cells] at Z));refine' P3;refine zD (ci 35 [12,34]) ?_;have Z:=Z.drew;refine' KJ;(refine' Ad<;>intro O);all_goals (refine' LH;refine' i0;refine' dT;refine' Ln;refine' LI;refine' LU;refine' Kg;refine' Kk (c:=gE _ ho (G3 Z));rintro v1 E ⟨rfl,Z⟩;rw [hh];refine' P5;refine' Ni;refine' zm;refine' LI;refine' LU;refine' Kg;refine' Ri;refine' Ni;refine' zm;refine' LI;refine' LU;refine' Ln;refine' Nf;refine' Sh;refine' LU;refine' LI;refine' LU;refine' Kg;refine SX Z ?_;intro b1 o1 hel1;refine' Sh;refine' Kg;refine Q9 Z Ja rfl fd Jr (Mq hr) rfl ?_;refine' Kg;refine Qt (QZ (H:=H1) Z hr) vw KL C1 ?_;refine' Kg;refine' iX;refine' Ni;refine' zn)
       all_goals
        first
        | (refine' Kd;all_goals refine' Ko)
       all_goals (refine Qm ?_;have Z:St Y _ (RY z b lv left rv _):=(by exact Z);refine zD (ci 13 [12]) ?_;have Z:=Z.drew;refine' zm;refine' RF;refine' NN;refine zl Z ?_;refine' MT;refine zl Z ?_;refine SX Z ?_;intro b2 o2 hel2;refine' NN;refine Q9 Z Ja rfl fd Jr (Mq hr) rfl ?_;refine' MT;refine zl Z ?_;refine OW (QZ (H:=H1) Z hr) vw rfl KL CY ?_;rw [EM];intro b5 o5 hel5;refine' zm;refine' zn;refine Qm ?_;refine Qm ?_;refine zD (ci 8 [7]) ?_;have Z:=Z.drew;refine' zm;refine' RF;refine' NN;refine Q9 (QZ (H:=H1) Z hr) Ja rfl KL C1 (Sn hth) rfl ?_;refine' MT;refine zl Z ?_;cases hta:th.array<;>by_cases hk4:vk=4<;>first|(refine pz rfl rfl hk4 ?_)|(refine pA rfl rfl hk4 ?_));all_goals ((first|refine pZ Jk rfl rfl rfl ?_|refine T6 Jk rfl rfl ?_);refine' zn)
       all_goals
        first
        | (refine' Kf;all_goals (refine' KM);all_goals (exact CL))
        | (refine' Kd;all_goals refine' Ko)
       all_goals (refine' Rj;exact CH)
     · have e0:s.at_ ⟨vk,m,vt,vn⟩=none:=D1;refine Kl Kh Tryz.func224 ?_;refine' Kn;refine Ma Z vw Jr ?_;((intro b3 E Z;simp only [Val.cells] at Z));refine' P3;refine zD (ci 35 [12,34]) ?_;have Z:=Z.drew;refine' KJ;(refine' Ad<;>intro O);all_goals (refine' LH;refine' i0;refine' dT;refine' Ln;refine' LI;refine' LU;refine' Kg;refine' Kk (c:=gE _ ho (G3 Z));rintro v1 E ⟨rfl,Z⟩;rw [hh];refine' P5;refine' Ni;refine' zm;refine' LI;refine' LU;refine' Kg;refine' Ae<;>intro O);all_goals (refine' Ni;refine' LH;refine' XO;refine' XU;refine' MD;(first|refine' Kj|(refine' Kg;refine SX Z ?_;intro b1 o1 hel1));refine' N9;(first|refine' Kj|(refine' Kg;refine Q9 Z Ja rfl fd Jr (Mq hr) rfl ?_));(first|refine' Kj|(refine' Kg;refine Qt (QZ (H:=H1) Z hr) vw KL C1 ?_));(first|refine' Kj|(refine' Kg;refine' YZ));refine' Ld;refine' Kf;refine' KM;exact AB)
 · have e0:s.at_ v=none:=EG;refine Kl Kh Tryz.func224 ?_;refine' Kn;refine Ma Z vw Jr ?_;((intro b3 E Z;simp only [Val.cells] at Z));refine' P3;refine zD (ci 35 [12,34]) ?_;have Z:=Z.drew;refine' KJ;refine' Sb;refine' zm;((refine' LI));((refine' LU));(refine' Kg;refine' Sb);refine' OZ;refine' PH;refine' RO;refine' zm;refine' UR;refine' RO;refine' PH;refine' S1;refine' S1;refine' RO;refine' UZ;((exact AB))
end
section
variable {z:GZ}{Y:Cx}{w:World}{L:List Res}{i:Nat}{N:Nat}{h:Value}{s:HpS}
theorem QjW:M6 Tryz.prog 129=some (278,2,32,[.bool false, .slice none 0 0]):=by kernel_rfl
theorem QjX:M6 Tryz.prog 44=some (131,4,48,[.bool false, .slice none 0 0, .int .i64 0, .int .i64 0]):=by kernel_rfl
theorem oI:M6 Tryz.prog 117=some (182,4,32,[.int .i64 0, .int .i64 0, .int .i64 0, .int .i64 0]):=by kernel_rfl
theorem QhR:∃e2,Tryz.prog.underlying 129=some (.slice e2):=⟨278,by kernel_rfl⟩
theorem QhS:∃e2,Tryz.prog.underlying 44=some (.slice e2):=⟨131,by kernel_rfl⟩
theorem oJ:∃e2,Tryz.prog.underlying 117=some (.slice e2):=⟨182,by kernel_rfl⟩
theorem Qjk {l:List Rgn}(h:j<l.length):(l.take (j+1)).countP (fun r=>r.there)=(l.take j).countP (fun r=>r.there)+if (l.getD j Rgn.none).there then 1 else 0:=by
 rw [pJ Rgn.none h,Hb,Jv]
theorem zp {b:Nat}(ho:HpO N s rv)(hN:N≤100000)(Z:St Y w (RY z b lv left rv L)):Ka Tryz.prog Qcr [.pointer (some ⟨b,1,none⟩)] w fun u B=>u= .int .i64 s.live∧St Y B (RY z b lv left rv L):=by
 have hlen:=ho.len;have hsl:=ho.ok.len;refine Kl Kh Tryz.func28 ?_;refine' LS;refine' LS;refine' Nr;refine zo [] (fun A ρ' B=>∃(j n:Nat),Ki ρ' A∧Ki ρ' [(0, .pointer (some ⟨b,1,none⟩)),(3, .int .i64 n),(4, .int .i64 j)]∧(j≤rv.length)∧(n=(s.l.take j).countP (fun r=>r.there))∧St Y B (RY z b lv left rv L)) (fun ρ' _=>(rv.length - iv (ρ' 4)).toNat) ?_ ?_
 · exact ⟨0,0,zh,zh,V,Jr,Z.sp⟩
 rintro U E ⟨j,n,hA,hρ,hj,hn,Z⟩;obtain ⟨U,rfl⟩:=Km hA hρ;have hcl:=Jw (p:=fun r:Rgn=>r.there) (l:=s.l.take j);have htl:=JT j s.l;refine' Lb;refine' MO;refine zl Z ?_;refine PZ Z ?_;refine' TD;refine' Ab<;>intro O
 · skip
   refine' TH;obtain ⟨r,hr,hrs,hsl2⟩:=ho.at_ (k:=j) V;have hcs:=Qjk (l:=s.l) (j:=j) V;have hrg:s.l.getD j Rgn.none=r.abs:=(by rw [EL,hsl2];rfl);rw [hrg] at hcs;refine' Lp;refine' LW;refine zl Z ?_;refine' zm;refine SX Z ?_;intro b1 o1 hel1;refine' NN;refine Q9 Z Ja rfl fd Jr (Mq hr) rfl ?_;refine' zn;refine' Aa<;>intro O
   · refine' Mn;refine' Mn;(exact ⟨⟨j+1,n+1,zh,zh,V,(by rw [hcs,hn,Qip (show r.abs.there=true from O)]),Z.sp⟩,Qh V⟩)
   · refine' Ko;refine' Mn;(exact ⟨⟨j+1,n,zh,zh,V,(by rw [hcs,hn,Qin (show¬r.abs.there=true from by rw [show r.abs.there=false from O];simp)];rfl),Z.sp⟩,Qh V⟩)
 · refine' S8;(have hn':n=s.live:=(by unfold HpS.live;rw [hn,Fg V]);exact ⟨_,rfl,by rw [hn'],Z⟩)
theorem Xf (hN:N≤100000)(Z:St Y w L)(hi:nth L i=some (Pu z N h s)):Ka Tryz.prog Qcq [h] w fun u B=>u= .tuple #[s.openV.v, .bool (!s.full)]∧St Y B (L.set i (Pu z (N+1) h s.open)):=by
 obtain ⟨hok,b,rfl⟩:=gD Z hi;obtain ⟨lv,rv,ho,Z⟩:=gC Z hi;have hlv:=hok.live;have hlen:=ho.len;have hsl:=hok.len
 cases hf:s.full with
 | true=>
   have h16:s.live=16:=of_decide_eq_true hf;have e1:s.open=s:=Di;have e2:s.openV=Val.zero:=DA;rw [e1,e2];refine Kl Kh Tryz.func123 ?_;refine' Ov;(intro p2 E Z);refine' Ou;refine' Kw (c:=zp ho hN (G3 Z));rintro v1 E ⟨rfl,Z⟩;refine' YZ;refine' Se;refine' Kn;refine Ly [_,_,_,_] ?_;((refine Kp Z ?_;intro E Z;have Z:=Z.ns));refine' Mo;refine QD vw (Q3 (n:=4) Jk Jk (Z.blkAt fd) Jr Jr) vw ?_;((exact ⟨_,rfl,rfl,(Qz (⟨ho.hr,hok.mono V⟩:HpO (N+1) s rv) (L:=L.eraseIdx i) Z.sp).back hi⟩))
 | false=>
   have h16:s.live≠16:=of_decide_eq_false hf;have e1:s.open=⟨s.l++[⟨true,[],0,0⟩],s.left⟩:=Di;have e2:s.openV=⟨2,s.l.length,0,0⟩:=DA;have ho2:HpO (N+1) s.open (rv++[⟨true, .slice none 0 0,[],0,0⟩]):=⟨by rw [E7,ho.hr,e1];rfl,JK hok⟩;refine Kl Kh Tryz.func123 ?_;refine' Ov;(intro p2 E Z);refine' Ou;refine' Kw (c:=zp ho hN (G3 Z));rintro v1 E ⟨rfl,Z⟩;refine' iX;refine' RJ;refine' KW;refine' LW;refine zl Z ?_;refine OF [_,_,_,_] ?_;refine KO Z [_,_,_,_] ?_;intro b1 E Z;((refine Mx QjX (.inl QhS) Z vw vw fd (Z.srcB fd Jr CU) CY ?_;intro v7 w7 Z;have Z:=Z.ns));refine' LW;((refine Lv Z ?_;intro E Z;have Z:=Z.ns));refine' L8;refine' LW;refine zl Z ?_;refine Qt (n:=rv.length+1) Z vw fd Js ?_;refine' NY;rw [show ((rv.length+1:Nat):Int) - 1=s.l.length by omega];refine M8 [_,_,_,_] ?_;((refine Kp Z ?_;intro E Z;have Z:=Z.ns));refine' Mo;refine QD vw (Q3 (n:=4) Jk Jk (Z.blkAt fd) Jr Jr) vw ?_;((rw [e2];refine ⟨_,rfl,rfl,(Qz (lv:=v7) ho2 (L:=L.eraseIdx i) ?_).back hi⟩;have Z:St Y _ (KV (RgnV.res H1) rv::Mg z b v7 s.left::sl 131 4 v7 ((rv++[(⟨true, .slice none 0 0,[],0,0⟩:RgnV)]).map RgnV.cells)::L.eraseIdx i):=Dj;have Z:=G8 (Gg (T:=H1.Tt) (es:=2) (Gx (ThgV.res H1) Z));have Z:=Hc (f:=RgnV.res H1) (l:=rv) (x:=⟨true, .slice none 0 0,[],0,0⟩) Z;rw [e1];exact Z.sp))
theorem Qkf {k:Nat}(hk:k<rv.length){x y:Res}(Z:St Y w (x::y::KV (RgnV.res H1) (rv.eraseIdx k)::L)):St Y w (x::y::KV (RgnV.res H1) (rv.set k RgnV.nil)::L):=
 eT (H:=H1) (r:=RgnV.nil) hk (Gg (Gx (ThgV.res H1) Z))
theorem Xg (v:Val)(Z:St Y w L)(hi:nth L i=some (Pu z N h s)):Ka Tryz.prog Qcp [h,v.v] w fun u B=>u= .bool (s.can v)∧St Y B (L.set i (Pu z N h (s.shut v))):=by
 obtain ⟨hok,b,rfl⟩:=gD Z hi;obtain ⟨lv,rv,ho,Z⟩:=gC Z hi;by_cases hk:v.kind=2
 · cases hh:s.has v.region with
   | false=>
     have hcan:s.can v=false:=Dp;rw [shut_no hcan,hcan];refine Kl Kh Tryz.func186 ?_;refine' Kn;refine Ma Z vw Jr ?_;intro b6 E Z;simp only [Val.cells] at Z;refine' OJ;refine' Y7;((refine' Ln));((refine' LI));((refine' LU));((refine' Kg;refine' Kk (c:=gE _ ho (G3 Z));rintro v1 E ⟨rfl,Z⟩;rw [hh]));((refine' P5));refine' Ni;refine' UZ;((exact AP))
   | true=>
     obtain ⟨vk,vr,vt,vn⟩:=v;obtain rfl:vk=2:=hk;obtain ⟨m,rfl,hm⟩:=ho.has_in hh;replace hh:s.has (m:Int)=true:=hh;obtain ⟨r,hr,hrs,hsl⟩:=ho.at_ hm;have hcan:s.can ⟨2,m,vt,vn⟩=true:=Dt;have hrn:=ho.rng hr;have hpg:=hok.pages;have hpr':r.pages+s.left≤1000:=hpg.2 r.abs (EK hsl);have hl0:=hok.left;have hlm:(rv.map RgnV.cells).length=rv.length:=EM _;have e1:s.shut ⟨2,m,vt,vn⟩=⟨s.l.set m Rgn.none,s.left+r.pages⟩:=(by unfold HpS.shut;rw [Qip hcan];simp only [hrs,Fa];rfl);have ho2:HpO N (s.shut ⟨2,m,vt,vn⟩) (rv.set m RgnV.nil):=⟨by rw [F3,ho.hr,e1];rfl,by rw [e1];exact JJ hok hsl⟩;rw [hcan];refine Kl Kh Tryz.func186 ?_;refine' Kn;refine Ma Z vw Jr ?_;intro b6 E Z;simp only [Val.cells] at Z;refine' OJ;refine' Y7;((refine' Ln));((refine' LI));((refine' LU));((refine' Kg;refine' Kk (c:=gE _ ho (G3 Z));rintro v1 E ⟨rfl,Z⟩;rw [hh]));((refine' P5));refine' UY;refine Qm ?_;refine zD (ci 17 [16]) ?_;have Z:=Z.drew;refine' MO;refine zl Z ?_;refine' MO;refine zl Z ?_;refine' KJ;((refine OW Z vw rfl fd V ?_;rw [hlm];intro b12 o12 hel));refine' NN;((refine Q9 Z hel rfl fd hlm (Mq hr) rfl ?_));refine' MJ;refine' LW;((refine Lv Z ?_;intro E Z;have Z:=Z.ns));refine' LA;refine zD (ci 9 [8]) ?_;have Z:=Z.drew;refine' MO;refine zl Z ?_;refine' KJ;refine Ly [_,_,_,_] ?_;((refine OW Z vw rfl fd V ?_;rw [hlm];intro b12 o12 hel));refine br Z hel rfl rfl Jr fd hlm (Mq hr) rfl CU (VB (r':=RgnV.nil)) ?_;intro w8 Z;have Z:=Z.ns;have Z:=Qkf hm ((QZ (H:=H1) Z hr).drop.drop);refine' zn;refine' KM;((exact ⟨_,rfl,rfl,(Qz ho2 (L:=L.eraseIdx i) (by rw [e1];exact Z.sp)).back hi⟩))
 · have hcan:s.can v=false:=Dm;rw [shut_no hcan,hcan];refine Kl Kh Tryz.func186 ?_;refine' Kn;refine Ma Z vw Jr ?_;intro b6 E Z;simp only [Val.cells] at Z;refine' OJ;refine' Sb;refine' PH;refine' RO;refine' UZ;((exact AP))
theorem aD (v:Val)(Z:St Y w L)(hi:nth L i=some (Pu z N h s)):Ka Tryz.prog QdZ [h,v.v] w fun u B=>u= .tuple #[.int .i64 (s.len v).1, .int .i64 (s.len v).2]∧St Y B L:=by
 obtain ⟨hok,b,rfl⟩:=gD Z hi;obtain ⟨lv,rv,ho,Z⟩:=gC Z hi;refine Kl Kh Tryz.func193 ?_;refine' Kn;refine Ma Z vw Jr ?_;intro b6 E Z;refine' zm;refine' Y6;refine' Kk (c:=oH v ho (G3 Z));rintro v1 E ⟨Z,(⟨e0,rfl⟩|⟨k,t,th,e0,r,b7,o7,hr,hth,rfl,hel⟩)⟩;all_goals (refine' Ou;(first|refine iD (e:=278) Jk rfl rfl ?_|refine iE (e:=278) Jk rfl rfl ?_);refine' zn)
 all_goals
  first
  | (refine' Kf;refine' Nz;refine' Lq;(exact ⟨_,rfl,by unfold HpS.len;rw [e0],(Qz ho (L:=L.eraseIdx i) Z.sp).back0 hi⟩))
  | (refine' Kd;refine' Ko)
 refine' XT;refine Q9 (QZ (H:=H1) Z hr) hel rfl KL (EM _) (Sn hth) rfl ?_;refine Qt (TU (H:=H1) (QZ (H:=H1) Z hr) hth) vw KL C1 ?_;refine' X0;refine' Lq;(exact ⟨_,rfl,by unfold HpS.len;rw [e0];simp only [ho.thg hr hth];rfl,(Qz ho (L:=L.eraseIdx i) Z.sp).back0 hi⟩)
theorem oK (v:Val)(k:Int)(Z:St Y w L)(hi:nth L i=some (Pu z N h s)):Ka Tryz.prog Qe0 [h,v.v, .int .i64 k] w fun u B=>u= .tuple #[(s.get v k).1.v, .int .i64 (s.get v k).2]∧St Y B L:=by
 obtain ⟨hok,b,rfl⟩:=gD Z hi;obtain ⟨lv,rv,ho,Z⟩:=gC Z hi;refine Kl Kh Tryz.func190 ?_;refine' Kn;refine Ma Z vw Jr ?_;intro b6 E Z;refine Qb Z ?_;intro b8 E Z;refine' Y6;refine' Kk (c:=oH v ho (IK Z));rintro v1 E ⟨Z,(⟨e0,rfl⟩|⟨kr,t,th,e0,r,b7,o7,hr,hth,rfl,hel⟩)⟩;all_goals (refine' Ou;(first|refine iD (e:=278) Jk rfl rfl ?_|refine iE (e:=278) Jk rfl rfl ?_);refine' zn)
 all_goals
  first
  | (refine' Kd;refine' Ko)
  | (refine' Kf;refine' Kn;refine Ly [_,_,_,_] ?_;refine Kp Z ?_;intro E Z;have Z:=Z.ns;refine' Mo;refine QD vw (Q3 (n:=4) Jk Jk (Z.blkAt fd) Jr Jr) vw ?_;((have hge:s.get v k=(Val.zero,20):=(by unfold HpS.get;rw [e0];first|done|fail);rw [hge];exact A5)))
 refine' Nr;have hge:s.get v k=(if 0≤k∧k<th.l.length then (th.l.getD k.toNat Val.zero,0) else (Val.zero,1)):=EC;have hth1:=(ho.rng hr).2.1 th (EK hth);refine zo [] (fun A ρ' B=>∃(j:Nat),Ki ρ' A∧Ki ρ' [(0, .pointer (some ⟨b,1,none⟩)),(2, .int .i64 k),(6, .pointer (some ⟨b8,0,none⟩)),(8, .pointer (some ⟨b7,o7,none⟩)),(9, .int .i64 j)]∧(j≤th.l.length)∧(¬(0≤k∧k<j))∧St Y B (RY z b lv s.left rv (blk b8 182 [.int .i64 0, .int .i64 0, .int .i64 0, .int .i64 0]::L.eraseIdx i))) (fun ρ' _=>(th.l.length - iv (ρ' 9)).toNat) ?_ ?_
 · exact ⟨0,zh,zh,V,V,Z.sp⟩
 rintro U E ⟨j,hA,hρ,hj,hjk,Z⟩;obtain ⟨U,rfl⟩:=Km hA hρ;refine' Lb;refine' MO;refine Q9 (QZ (H:=H1) Z hr) hel rfl KL (EM _) (Sn hth) rfl ?_;refine Qt (TU (H:=H1) (QZ (H:=H1) Z hr) hth) vw KL C1 ?_;refine' TD;refine' Ab<;>intro O
 · skip
   refine' Mi;refine' KW;(refine' Ac<;>intro O);all_goals (refine' zn)
   all_goals
    first
    | (refine' Kf;refine' XT;refine Q9 (QZ (H:=H1) Z hr) hel rfl KL (EM _) (Sn hth) rfl ?_;refine' zm;refine OW (TU (H:=H1) (QZ (H:=H1) Z hr) hth) vw rfl KL CY ?_;rw [EM];intro b9 o9 hel9;refine NW (TU (H:=H1) (QZ (H:=H1) Z hr) hth) hel9 rfl KL (EM _) (So V) ?_;refine On Z rfl rfl Jr fd Js (TV _) Jr ?_;intro E Z;have Z:=Z.ns;refine' Mo;refine QD vw (Q3 (n:=4) Jk Jk (Z.blkAt fd) Jr Jr) vw ?_;((obtain rfl:k=(j:Int):=CP;rw [Qip V,Fa] at hge;rw [hge];exact A5)))
    | (refine' Kd;refine' Ko)
   refine' Mn;(exact ⟨⟨j+1,zh,zh,V,V,Z.sp⟩,Qh V⟩)
 · refine' LV;refine' Kn;refine Ly [_,_,_,_] ?_;refine Kp Z ?_;intro E Z;have Z:=Z.ns;refine' Mo;refine QD vw (Q3 (n:=4) Jk Jk (Z.blkAt fd) Jr Jr) vw ?_;(rw [Qin V] at hge;rw [hge];exact A5)
theorem zq (v:Val)(k:Int)(x:Val)(Z:St Y w L)(hi:nth L i=some (Pu z N h s)):Ka Tryz.prog QdX [h,v.v, .int .i64 k,x.v] w fun u B=>u= .int .i64 (s.setC v k x)∧St Y B (L.set i (Pu z N h (s.set v k x))):=by
 obtain ⟨hok,b,rfl⟩:=gD Z hi;obtain ⟨lv,rv,ho,Z⟩:=gC Z hi
 cases e0:s.at_ v with
 | none=>
   have hc1:s.setC v k x=20:=(by unfold HpS.setC;rw [e0]);rw [bY V,hc1];refine Kl Kh Tryz.func191 ?_;refine' Kn;refine Ma Z vw Jr ?_;intro b6 E Z;refine Ma Z vw Jr ?_;intro b8 E Z;refine' Y6;refine' Kk (c:=oH v ho (IK Z));rintro v1 E ⟨Z,hx⟩;obtain ⟨_,rfl⟩:=hx.resolve_right (fun ⟨_,_,_,e1,_⟩=>by rw [e0] at e1;cases e1);refine' Ou;refine iD (e:=278) Jk rfl rfl ?_;refine' PH;refine' S1;refine' RO;refine' UZ;((exact AP))
 | some p=>
   obtain ⟨kr,t⟩:=p;refine Kl Kh Tryz.func191 ?_;refine' Kn;refine Ma Z vw Jr ?_;intro b6 E Z;refine Ma Z vw Jr ?_;intro b8 E Z;simp only [Val.cells] at Z;refine' Y6;refine' Kk (c:=oH v ho (IK Z));rintro v1 E ⟨Z,hx⟩;obtain ⟨kr',t',th,e1,r,b7,o7,hr,hth,rfl,hel⟩:=hx.resolve_left (fun h=>by rw [e0] at h;cases h.1);rw [e0] at e1;cases e1;have hge:s.setC v k x=(if th.array=true∧x.kind≠1 then 20 else if 0≤k∧k<th.l.length then 0 else 1):=Er;have hth1:=(ho.rng hr).2.1 th (EK hth);refine' Kv;refine zM [] (fun A ρ' B=>Ki ρ' A∧Ki ρ' [(0, .pointer (some ⟨b,1,none⟩)),(2, .int .i64 k),(7, .pointer (some ⟨b8,0,none⟩)),(9, .pointer (some ⟨b7,o7,none⟩))]∧(¬(th.array=true∧x.kind≠1))∧St Y B (RY z b lv s.left rv (blk b8 182 [.int .i64 x.kind, .int .i64 x.region, .int .i64 x.thing, .int .i64 x.n]::L.eraseIdx i))) ?_ ?_
   · skip
     refine Qm ?_;refine' Lm;refine' zm;refine iE (e:=278) Jk rfl rfl ?_;refine' zm;((refine' Ln));((refine' Nf));((refine' Sh));refine' Kg;refine Q9 (j:=0) (u:= .bool th.array) (QZ (H:=H1) Z hr) hel rfl KL (EM _) (Sn hth) rfl ?_;cases hta:th.array<;>by_cases hx1:x.kind=1;all_goals (refine' Ln;refine' MD;(first|refine' Kj|(refine' Kg;(first|(refine' Sb)|(refine' TA))));refine' Kg;refine' Lw;refine' Ni;refine' zn)
     all_goals
      first
      | (refine' Kf;refine' KM;((have hc1:s.setC v k x=20:=(by rw [hge,Qip ⟨hta,hx1⟩]);rw [bY V,hc1];exact AP)))
      | (refine' Kd;all_goals refine' Ko)
     all_goals (exact ⟨zh,zh,(by simp [hta,hx1]),Z.sp⟩)
   rintro U E ⟨hA,hρ,hta,Z⟩;obtain ⟨U,rfl⟩:=Km hA hρ;refine' Nr;refine zo [] (fun A ρ' B=>∃(j:Nat),Ki ρ' A∧Ki ρ' [(0, .pointer (some ⟨b,1,none⟩)),(2, .int .i64 k),(7, .pointer (some ⟨b8,0,none⟩)),(9, .pointer (some ⟨b7,o7,none⟩)),(10, .int .i64 j)]∧(j≤th.l.length)∧(¬(0≤k∧k<j))∧St Y B (RY z b lv s.left rv (blk b8 182 [.int .i64 x.kind, .int .i64 x.region, .int .i64 x.thing, .int .i64 x.n]::L.eraseIdx i))) (fun ρ' _=>(th.l.length - iv (ρ' 10)).toNat) ?_ ?_
   · exact ⟨0,zh,zh,V,V,Z.sp⟩
   rintro U E ⟨j,hA,hρ,hj,hjk,Z⟩;obtain ⟨U,rfl⟩:=Km hA hρ;refine' Lb;refine' MO;refine Q9 (QZ (H:=H1) Z hr) hel rfl KL (EM _) (Sn hth) rfl ?_;refine Qt (TU (H:=H1) (QZ (H:=H1) Z hr) hth) vw KL C1 ?_;refine' TD;refine' Ab<;>intro O
   · skip
     refine' Mi;refine' KW;(refine' Ac<;>intro O);all_goals (refine' zn)
     all_goals
      first
      | (refine' Kf;refine Qm ?_;have Z:=TU (H:=H1) (QZ (H:=H1) Z hr) hth;refine zD (ci 8 [7]) ?_;have Z:=Z.drew;refine' MO;refine Q9 Z hel rfl fd (EM _) (Sn hth) rfl ?_;refine' zm;refine zv Z ?_;refine OW Z vw rfl KL CY ?_;rw [EM];intro b9 o9 hel9;refine br Z hel9 rfl rfl Jr KL (EM _) (So V) rfl (TV x) bX ?_;intro w8 Z;have Z:=Z.ns;have Z:=VA (H:=H1) (l:=r.l) (k:=t) (t:=⟨th.array,th.lv,th.l.set j x⟩) (EJ.1 hth).1 Z;refine' zn;refine' KM;((obtain rfl:k=(j:Int):=CP;have hc1:s.setC v (j:Int) x=0:=(by rw [hge,Qin hta,Qip V]);obtain ⟨e1,e2,ho2⟩:=xl ho hr hth e0 hc1 V;rw [hc1];rw [Fa] at ho2 e1;have htc:((r.l.set t ⟨th.array,th.lv,th.l.set j x⟩).map ThgV.cells)=r.l.map ThgV.cells:=D2;rw [←htc] at Z;have Z:=eT (H:=H1) (rv:=rv) (k:=kr) (r:=Pq r t th j x) (EJ.1 hr).1 (L:=L.eraseIdx i) (by unfold Pq;exact Aj);refine ⟨_,rfl,rfl,(Qz (lv:=lv) ho2 (L:=L.eraseIdx i) ?_).back hi⟩;have hbc:((rv.set kr (Pq r t th j x)).map RgnV.cells)=rv.map RgnV.cells:=Ee;unfold RY;rw [hbc,e1];exact Z)))
      | (refine' Kd;refine' Ko)
     refine' Mn;(exact ⟨⟨j+1,zh,zh,V,V,Z.sp⟩,Qh V⟩)
   · refine' Pn;(have hc1:s.setC v k x=1:=(by rw [hge,Qin hta,Qin V]);rw [bY V,hc1];exact AP)
theorem zs (v :Val)(n:Int)(arr:Bool)(tlv:Value)(tl:List Val)(hn:1≤n∧n≤1000)(hN:N≤100000)(htl:tl.length≤1000)(I:oneC tlv=true)(Z:St Y w (sl H1.Tv 4 tlv (tl.map Val.cells)::L))(hi:nth L i=some (Pu z N h s)):
 Ka Tryz.prog QdY [h,v.v, .agg ⟨[.bool arr,tlv]⟩, .int .i64 n] w fun u B=>u= .tuple #[(s.putV v (if arr then 4 else 3) n).v, .int .i64 (s.code v n)]∧St Y B (L.set i (Pu z (N+1) h (s.put v n ⟨arr,tl⟩))):=by
 obtain ⟨hok,b,rfl⟩:=gD Z.drop hi;obtain ⟨lv,rv,ho,Z⟩:=gC Z (i:=i+1) hi;simp only [Gn] at Z;have ho1:HpO (N+1) s rv:=⟨ho.hr,hok.mono V⟩;by_cases hk:v.kind=2
 · cases hh :s.has v.region with
   | false=>
     have hcan:s.can v=false:=Dp;have O:=nU (n:=n) hcan;obtain ⟨e1,e2⟩:=jg (s:=s) (v:=v) (n:=n) V (if arr then 4 else 3) ⟨arr,tl⟩;rw [e1,e2,O];refine Kl Kh Tryz.func223 ?_;refine' Kn;refine Ma Z vw Jr ?_;intro b6 E Z;simp only [Val.cells] at Z;refine Ma Z vw Jr ?_;intro b9 E Z;refine Qb Z ?_;intro b10 E Z;refine' OJ;refine' Y7;((refine' Ln));((refine' LI));((refine' LU));((refine' Kg;refine' Kk (c:=gE _ ho (Jq Z));rintro v1 E ⟨rfl,Z⟩;rw [hh]));((refine' P5));refine' Ni;refine' Se;refine' Kn;refine Ly [_,_,_,_] ?_;((refine Kp Z ?_;intro E Z;have Z:=Z.ns));refine' Mo;refine QD vw (Q3 (n:=4) Jk Jk (Z.blkAt fd) Jr Jr) vw ?_;((exact Be))
   | true=>
     (obtain ⟨vk,vr,vt,vn⟩:=v;obtain rfl:vk=2:=hk;obtain ⟨m,rfl,hm⟩:=ho.has_in hh;replace hh:s.has (m:Int)=true:=hh;obtain ⟨r,hr,hrs,hsl⟩:=ho.at_ hm;have hcan:s.can ⟨2,m,vt,vn⟩=true:=Dt;have hrn:=ho.rng hr;have hpg:=hok.pages;have hpr':r.pages+s.left≤1000:=hpg.2 r.abs (EK hsl);have hl0:=hok.left;have hlm:(rv.map RgnV.cells).length=rv.length:=EM _;have hls:∀r',((rv.set m r').map RgnV.cells).length=rv.length:=fun r'=>by rw [EM,Fh]);have hcd:s.code ⟨2,m,vt,vn⟩ n=if r.abs.more n=true∧s.left=0 then 14 else 0:=by unfold HpS.code;rw [hcan];simp only [Ih,E2,if_false,hrs]
     have hmi:r.abs.more n=true↔(r.pages=0∨16<r.used+n):=Ij;obtain ⟨e3,e4,e5⟩:=MX (r:=r) (n:=n);refine Kl Kh Tryz.func223 ?_;refine' Kn;refine Ma Z vw Jr ?_;intro b6 E Z;simp only [Val.cells] at Z;refine Ma Z vw Jr ?_;intro b9 E Z;refine Qb Z ?_;intro b10 E Z;refine' OJ;refine' Y7;((refine' Ln));((refine' LI));((refine' LU));((refine' Kg;refine' Kk (c:=gE _ ho (Jq Z));rintro v1 E ⟨rfl,Z⟩;rw [hh]));((refine' P5));refine' UY;refine Qm ?_;refine zD (ci 8 [7]) ?_;have Z:=Z.drew;refine' MO;refine zl Z ?_;refine' KJ;refine OW Z vw rfl fd V ?_;rw [hlm];intro b12 o12 hel;refine' Kv;refine zM [] (fun A ρ' B=>∃(r1:RgnV) (lf:Int),Ki ρ' A∧Ki ρ' [(0, .pointer (some ⟨b,1,none⟩)),(3, .int .i64 n),(5, .pointer (some ⟨b6,0,none⟩)),(6, .pointer (some ⟨b9,0,none⟩)),(8, .pointer (some ⟨b10,0,none⟩)),(10, .pointer (some ⟨b12,o12,none⟩))]∧(s.code ⟨2,m,vt,vn⟩ n=0)∧((⟨r1.there,r1.lv,r1.l,r1.pages,r1.used+n⟩:RgnV)=r.roomV n)∧(lf=(if r.abs.more n then s.left - 1 else s.left))∧(0≤r1.used∧r1.used≤1000)∧St Y B (Mg z b lv lf::sl 131 4 lv ((rv.set m r1).map RgnV.cells)::KV (RgnV.res H1) rv::blk b10 182 [.int .i64 0, .int .i64 0, .int .i64 0, .int .i64 0]::blk b9 278 [.bool arr,tlv]::blk b6 182 [.int .i64 2, .int .i64 m, .int .i64 vt, .int .i64 vn]::sl H1.Tv 4 tlv (tl.map Val.cells)::L.eraseIdx i)) ?_ ?_
     · skip
       (refine' XT;refine Q9 Z hel rfl fd hlm (Mq hr) rfl ?_;(refine' Ac<;>intro O);all_goals (refine' S5;refine' N9;(first|refine' Kj|(refine' Kg;refine Q9 Z hel rfl fd hlm (Mq hr) rfl ?_));(first|refine' Kj|(refine' Kg;refine' NY));first|refine' Kj|(refine' Kg;refine' Af<;>intro O)));all_goals (refine' Ld)
       all_goals
        first
        | (refine' Kd;have hmo:¬r.abs.more n=true:=(by rw [hmi];omega);refine' Ko)
        | (refine' Kf
           all_goals (have hmo:r.abs.more n=true:=hmi.2 V;refine' Lb;refine' LW;refine zl Z ?_;refine' Ac<;>intro O);all_goals (refine' zn)
           all_goals
            first
            | (refine' Kd;all_goals (rw [Qin V] at hcd);all_goals refine' Ko)
            | (refine' Kf
               all_goals (rw [Qip ⟨hmo,V⟩] at hcd;refine' Kn;refine Ly [_,_,_,_] ?_;refine Kp Z ?_;intro E Z;have Z:=Z.ns;refine' Mo;refine QD vw (Q3 (n:=4) Jk Jk (Z.blkAt fd) Jr Jr) vw ?_);all_goals (obtain ⟨e1,e2⟩:=jg (s:=s) (v:=⟨2,m,vt,vn⟩) (n:=n) V (if arr then 4 else 3) ⟨arr,tl⟩;rw [e1,e2,hcd];exact Be))
           all_goals (refine' XT;refine zl Z ?_;refine' NY;refine' LW;refine Lv Z ?_;intro E Z;have Z:=Z.ns;refine' L8;refine' LW;refine Q9 Z hel rfl fd hlm (Mq hr) rfl ?_;refine' MJ;refine' LW;refine QC Z hel rfl vw fd hlm (Mq hr) V Jr (Zt (r':=⟨r.there,r.lv,r.l,r.pages+1,r.used⟩) rfl) ?_;intro w8 Z;have Z:=Z.ns;refine' zn;refine' Lp;refine' LW;refine QC Z hel rfl vw fd (hls _) (Mq (Rq (r:=⟨r.there,r.lv,r.l,r.pages+1,r.used⟩) V)) V Jr (Zt (r':=⟨r.there,r.lv,r.l,r.pages+1,0⟩) rfl) ?_;intro w8 Z;have Z:=Z.ns;rw [Gr] at Z);all_goals refine' zn)
       all_goals (first|(exact ⟨r,s.left,zh,zh,(by rw [hcd,Qin (fun h=>hmo h.1)]),Em,(by rw [Qin hmo]),V,by rw [iC hr];exact Z.sp⟩)|(exact ⟨⟨r.there,r.lv,r.l,r.pages+1,0⟩,s.left - 1,zh,zh,hcd,Eg,(by rw [Qip hmo]),Js,Z.sp⟩))
     rintro U E ⟨r1,lf,hA,hρ,hcd,hr1,hlf,hu1,Z⟩;obtain ⟨U,rfl⟩:=Km hA hρ;refine' XT;refine Q9 Z hel rfl fd (hls _) (Mq (Rq (r:=r1) V)) rfl ?_;refine' XY;refine' LW;refine QC Z hel rfl vw fd (hls _) (Mq (Rq (r:=r1) V)) V Jr (Zt (r':=⟨r1.there,r1.lv,r1.l,r1.pages,r1.used+n⟩) rfl) ?_;intro w8 Z;have Z:=Z.ns;rw [Gr,hr1] at Z;have hbig:KV (RgnV.res H1) rv=KV (RgnV.res H1) (rv.set m (r.roomV n)):=(xi hr (by unfold RgnV.res;rw [e4,e5])).symm;rw [hbig] at Z;have Z:=QZ (H:=H1) Z (Rq V);have hrl:=hrn.1;rw [←e5] at hrl;refine' LA;refine zC [(0,none),(1,none),(2,none),(3,none),(4,none),(5,none),(6,some (some [4])),(7,some (some [])),(8,none),(9,none),(10,some none)] ?_;have Z:=Z.drew;refine' OI;refine' OL;refine Q9 Z hel rfl fd (hls _) (Mq (Rq V)) rfl ?_;refine' Ku;refine zv Z ?_;refine' Lh;refine KO Z [_,_] ?_;intro b1 E Z;refine' zt;refine ⟨EN.2 ⟨D8,fun _ h=>(ET h).elim⟩,?_⟩;refine' Py;refine Mx QjW (.inl QhR) Z vw vw fd (Z.srcB fd Jr (Zx rfl I)) CY ?_;intro v7 w7 Z;have Z:=Z.ns;have Z:=Z.drop;refine' zt;refine ⟨fun _ h=>(ET h).elim,?_⟩;refine' KS;refine' Nc;refine' TM;refine QC Z hel rfl vw fd (hls (r.roomV n)) (Mq (Rq (r:=r.roomV n) V)) V (by exact Z.oneC fd) (Zt (r':=Rr (r.roomV n) v7 ⟨arr,tlv,tl⟩) rfl) ?_;intro w8 Z;have Z:=Z.ns;rw [Gr] at Z;refine' K7;refine' LS;refine' Nq;refine' zn;refine' Aa<;>intro O
     · refine' Lm;refine' MU;refine zD (ci 12 [10,11]) ?_;have Z:=Z.drew;refine' zm;refine' KJ;refine' MO;refine Q9 (j:=1) (u:=v7) Z hel rfl fd (hls _) (Mq (Rq (r:=Rr (r.roomV n) v7 ⟨arr,tlv,tl⟩) V)) rfl ?_;refine Qt (n:=r.l.length+1) Z vw fd (by simp [e5]) ?_;refine' NY;rw [show ((r.l.length+1:Nat):Int) - 1=r.l.length by omega];refine PF [_,_,_,_] ?_;((refine Kp Z ?_;intro E Z;have Z:=Z.ns));refine' Mo;refine QD vw (Q3 (n:=4) Jk Jk (Z.blkAt fd) Jr Jr) vw ?_;(((have Z:St Y _ (ThgV.res H1 ⟨arr,tlv,tl⟩::KV (ThgV.res H1) (r.roomV n).l::sl H1.Tt 2 v7 (((r.roomV n).l++[(⟨arr,tlv,tl⟩:ThgV)]).map ThgV.cells)::Mg z b lv lf::sl 131 4 lv ((rv.set m (Rr (r.roomV n) v7 ⟨arr,tlv,tl⟩)).map RgnV.cells)::KV (RgnV.res H1) ((rv.set m (r.roomV n)).eraseIdx m)::L.eraseIdx i):=Dj;have Z:=eT (H:=H1) (rv:=rv.set m (r.roomV n)) (k:=m) (r:=Rr (r.roomV n) v7 ⟨arr,tlv,tl⟩) DL (Hc Z).mv1;rw [Gr] at Z;obtain ⟨e6,e7,e8⟩:=rT (t:=⟨arr,tl⟩) (kind:=if arr then 4 else 3) hcd hsl hrs;have ho2:HpO (N+1) (s.put ⟨2,m,vt,vn⟩ n ⟨arr,tl⟩) (rv.set m (Rr (r.roomV n) v7 ⟨arr,tlv,tl⟩)):=⟨by rw [F3,rR,e3,ho.hr,e6];rfl,IW hok hn htl⟩;rw [e8,hcd];exact Cr)))
     · refine' Ko;refine Qm ?_;refine zD (ci 12 [10,11]) ?_;have Z:=Z.drew;refine' zm;refine' KJ;refine' MO;refine Q9 (j:=1) (u:=v7) Z hel rfl fd (hls _) (Mq (Rq (r:=Rr (r.roomV n) v7 ⟨arr,tlv,tl⟩) V)) rfl ?_;refine Qt (n:=r.l.length+1) Z vw fd (by simp [e5]) ?_;refine' NY;rw [show ((r.l.length+1:Nat):Int) - 1=r.l.length by omega];refine PF [_,_,_,_] ?_;refine Kp Z ?_;intro E Z;have Z:=Z.ns;refine' Mo;refine QD vw (Q3 (n:=4) Jk Jk (Z.blkAt fd) Jr Jr) vw ?_;(have Z:St Y _ (ThgV.res H1 ⟨arr,tlv,tl⟩::KV (ThgV.res H1) (r.roomV n).l::sl H1.Tt 2 v7 (((r.roomV n).l++[(⟨arr,tlv,tl⟩:ThgV)]).map ThgV.cells)::Mg z b lv lf::sl 131 4 lv ((rv.set m (Rr (r.roomV n) v7 ⟨arr,tlv,tl⟩)).map RgnV.cells)::KV (RgnV.res H1) ((rv.set m (r.roomV n)).eraseIdx m)::L.eraseIdx i):=Dj;have Z:=eT (H:=H1) (rv:=rv.set m (r.roomV n)) (k:=m) (r:=Rr (r.roomV n) v7 ⟨arr,tlv,tl⟩) DL (Hc Z).mv1;rw [Gr] at Z;obtain ⟨e6,e7,e8⟩:=rT (t:=⟨arr,tl⟩) (kind:=if arr then 4 else 3) hcd hsl hrs;have ho2:HpO (N+1) (s.put ⟨2,m,vt,vn⟩ n ⟨arr,tl⟩) (rv.set m (Rr (r.roomV n) v7 ⟨arr,tlv,tl⟩)):=⟨by rw [F3,rR,e3,ho.hr,e6];rfl,IW hok hn htl⟩;rw [e8,hcd];exact Cr)
 · have hcan:s.can v=false:=Dm;have O:=nU (n:=n) hcan;obtain ⟨e1,e2⟩:=jg (s:=s) (v:=v) (n:=n) V (if arr then 4 else 3) ⟨arr,tl⟩;rw [e1,e2,O];refine Kl Kh Tryz.func223 ?_;refine' Kn;refine Ma Z vw Jr ?_;intro b6 E Z;simp only [Val.cells] at Z;refine Ma Z vw Jr ?_;intro b9 E Z;refine Qb Z ?_;intro b10 E Z;refine' OJ;refine' Sb;refine' PH;refine' RO;refine' Se;refine' Kn;refine Ly [_,_,_,_] ?_;((refine Kp Z ?_;intro E Z;have Z:=Z.ns));refine' Mo;refine QD vw (Q3 (n:=4) Jk Jk (Z.blkAt fd) Jr Jr) vw ?_;((exact Be))
theorem QiA (v:Val)(vl:Value)(l:List Val)(hN:N≤100000)(hl:l.length≤1000)(Z:St Y w L)(hi:nth L i=some (Pu z N h s))(hj:nth L j=some (sl H1.Tv 4 vl (l.map Val.cells))):
 Ka Tryz.prog QaE [h,v.v,vl] w fun u B=>u= .tuple #[(s.putV v 3 (LN l)).v, .int .i64 (s.code v (LN l))]∧St Y B (L.set i (Pu z (N+1) h (s.tuple v l))):=by
 have hlen:(l.map Val.cells).length=l.length:=EM _;refine Kl Kh Tryz.func188 ?_;refine' Kn;refine Ma Z vw Jr ?_;intro b4 E Z;simp only [Val.cells] at Z;refine Qb Z ?_;intro b6 E Z;refine' Kv;refine' Nk;refine Qt Z vw (show nth (_::_::L) (j+2)=_ from hj) hlen ?_;refine' Kv;refine zM [] (fun A ρ' B=>∃(wn:Int),Ki ρ' A∧Ki ρ' [(0,h),(2,vl),(4, .pointer (some ⟨b4,0,none⟩)),(6, .pointer (some ⟨b6,0,none⟩)),(8, .slice none 0 0),(9, .int .i64 wn)]∧(wn=LN l)∧St Y B (blk b6 182 [.int .i64 0, .int .i64 0, .int .i64 0, .int .i64 0]::blk b4 182 [.int .i64 v.kind, .int .i64 v.region, .int .i64 v.thing, .int .i64 v.n]::L)) ?_ ?_
 · skip
   refine' KX;(refine' Ac<;>intro O);all_goals (refine' zn)
   all_goals
    first
    | (refine' Kf;refine' Lp;refine' zn)
    | (refine' Kd;refine' Ko)
   all_goals ((first|(exact ⟨1,zh,zh,(by unfold LN;rw [Qip V]),Z.sp⟩)|(exact ⟨(l.length:Int),zh,zh,(by unfold LN;rw [Qin V]),Z.sp⟩)))
 rintro U E ⟨wn,hA,hρ,hw,Z⟩;obtain ⟨U,rfl⟩:=Km hA hρ;refine Qm ?_;refine zC [(0,none),(1,none),(2,none),(3,none),(6,none),(4,some (some [1])),(5,none),(7,some none),(8,none),(9,none),(10,some none),(11,some none)] ?_;have Z:=Z.drew;refine' Ph;refine zv Z ?_;refine' Mm;refine' O0;refine' zm;refine' Lh;((have Z:=Z.nil (T:=H1.Tv) (es:=4);refine Mx oI (.inl oJ) Z vw vw KL (St.srcS (i:=j+3) (T:=H1.Tv) (v:=vl) (css:=l.map Val.cells) Z hj (nV l)) (by rw [hlen,Fc];omega) ?_;intro v2 w2 Z;simp only [EV,HX] at Z;have hone:=Z.oneC KL;obtain ⟨a_,c_,rfl⟩:=Z.shape KL;subst hw));refine' LZ;refine OF [_,_] ?_;refine' K8;refine' M3 (c:=zs v (LN l) false _ l (xm hl) hN hl hone Z (show nth (_::_::L) (i+2)=_ from hi));rintro v2 w2 ⟨rfl,Z⟩;have Z:=Z.ns;refine' Ku;refine' Y5;refine' K8;((refine On Z rfl rfl Jr fd Js (TV _) Jr ?_;intro E Z;have Z:=Z.ns));refine' Oa;refine' zr;refine QD vw (Q3 (n:=4) Jk Jk (Z.blkAt fd) Jr Jr) vw ?_;((exact ⟨_,rfl,rfl,Z.drop.drop⟩))
theorem QiF (v:Val)(n:Int)(hN:N≤100000)(Z:St Y w L)(hi:nth L i=some (Pu z N h s)):
 Ka Tryz.prog Q86 [h,v.v, .int .i64 n] w fun u B=>u= .tuple #[(s.arrV v n).v, .int .i64 (s.arrC v n)]∧St Y B (L.set i (Pu z (N+1) h (s.arr v n))):=by
 by_cases hn:n<0∨15<n
 · have e1:s.arr v n=s:=(by unfold HpS.arr;rw [Qip hn]);have e2:s.arrV v n=Val.zero:=(by unfold HpS.arrV;rw [Qip hn]);have e3:s.arrC v n=1:=(by unfold HpS.arrC;rw [Qip hn]);rw [e1,e2,e3];obtain ⟨hok,b,rfl⟩:=gD Z hi;refine Kl Kh Tryz.func189 ?_;refine' Kn;refine Ma Z vw Jr ?_;intro b4 E Z;simp only [Val.cells] at Z;refine Qb Z ?_;intro b6 E Z;refine' Ou;(refine' Ae<;>intro O);all_goals (refine' Md;refine' dQ;refine' Ld;refine' Kf;refine' Kn;refine Ly [_,_,_,_] ?_;refine Kp Z ?_;intro E Z;have Z:=Z.ns;refine' Mo;refine QD vw (Q3 (n:=4) Jk Jk (Z.blkAt fd) Jr Jr) vw ?_;refine ⟨_,rfl,rfl,?_⟩;obtain ⟨lv,rv,ho,Z⟩:=gC Z.drop.drop hi;exact (Qz (⟨ho.hr,hok.mono V⟩:HpO (N+1) s rv) Z).back hi)
 · obtain ⟨m,rfl⟩:=FQ (show 0≤n by omega)
   have e1:s.arr v m=s.put v (m+1) ⟨true,Ow m⟩:=(by unfold HpS.arr;rw [Qin hn]);have e2:s.arrV v m=s.putV v 4 (m+1):=(by unfold HpS.arrV;rw [Qin hn]);have e3:s.arrC v m=s.code v (m+1):=(by unfold HpS.arrC;rw [Qin hn]);rw [e1,e2,e3];refine Kl Kh Tryz.func189 ?_;refine' Kn;refine Ma Z vw Jr ?_;intro b4 E Z;simp only [Val.cells] at Z;refine Qb Z ?_;intro b6 E Z;refine' Ou;refine' Ri;refine' zm;((refine' Ln));(refine' Kg;refine' dO);refine' UY;refine' Kn;refine OF [_,_] ?_;refine Qb Z ?_;intro b8 E Z;((refine On Z rfl rfl Jr fd Js (by exact Zx rfl rfl) Jr ?_;intro E Z;have Z:=Z.ns));refine' LA;refine' S0;have Z:=Z.nil (T:=H1.Tv) (es:=4);refine zo [] (fun A ρ' B=>∃(j:Nat) (va:Value),Ki ρ' A∧Ki ρ' [(0,h),(2, .int .i64 m),(4, .pointer (some ⟨b4,0,none⟩)),(6, .pointer (some ⟨b6,0,none⟩)),(8, .pointer (some ⟨b8,0,none⟩)),(9, .int .i64 j)]∧(j≤m)∧St Y B (sl H1.Tv 4 va ((Ow j).map Val.cells)::blk b8 278 [.bool true,va]::blk b6 182 [.int .i64 0, .int .i64 0, .int .i64 0, .int .i64 0]::blk b4 182 [.int .i64 v.kind, .int .i64 v.region, .int .i64 v.thing, .int .i64 v.n]::L)) (fun ρ' _=>(m - iv (ρ' 9)).toNat) ?_ ?_
   · exact ⟨0, .slice none 0 0,zh,zh,V,Z.sp⟩
   rintro U E ⟨j,va,hA,hρ,hj,Z⟩;obtain ⟨U,rfl⟩:=Km hA hρ;have hnl:=xn (n:=j);refine' RH;refine' TD;refine' Ab<;>intro O
   · refine' Mi;refine' S2;refine OF [_,_,_,_] ?_;refine KO Z [_,_,_,_] ?_;intro b1 E Z;refine Mx oI (.inl oJ) Z vw vw fd (Z.srcB fd Jr CU) CY ?_;intro v7 w7 Z;have Z:=Z.ns;refine' MT;refine Lv Z ?_;intro E Z;have Z:=Z.ns;refine' zn;refine' Mn;(exact CK)
   · refine' LV;obtain rfl:j=m:=CP;have hone:=Z.oneC KL;refine' RK;refine zv Z ?_;refine' XY;refine' M3 (c:=zs v (j+1) true va (Ow j) V hN V hone Z (show nth (_::_::_::L) (i+3)=_ from hi));rintro v2 w2 ⟨rfl,Z⟩;have Z:=Z.ns;refine' dR;refine On Z rfl rfl Jr fd Js (by exact TV _) Jr ?_;intro E Z;have Z:=Z.ns;refine' Mo;refine QD vw (Q3 (n:=4) Jk Jk (Z.blkAt fd) Jr Jr) vw ?_;(exact ⟨_,rfl,rfl,Z.drop.drop.drop⟩)
end
end Go.Proofs.YteflkifmgnpbhaaGreat
namespace Go.Lir
theorem gF {k:Int}(h0:0≤k)(h:g.vals[k.toNat]?=some v):g.val k=some v:=by unfold Frm.val;rw [Qin V];exact h
theorem gG {k:Int}(h:k<0∨(g.vals.length:Int)≤k):g.val k=none:=by
 unfold Frm.val;by_cases h0:k<0
 · rw [Qip h0]
 · rw [Qin h0];exact Fe V
theorem ti {k:Int}(h:g.num k=some n):∃v∈g.vals,v.n=n:=by
 unfold Frm.num Frm.val at h;split at h
 · cases h
 · rename_i v hv
   split at hv
   · cases hv
   · split at h
     · exact ⟨v,EK hv,EP h⟩
     · cases h
end Go.Lir
namespace Go.Proofs.YteflkifmgnpbhaaGreat
open Go.Lir
attribute [local irreducible] LC.wp Q0 Qp Qk KN Qw LO.wp Q6 Calls
theorem QjY:M6 Tryz.prog 47=some (119,5,72,[.int .i64 0, .int .i64 0, .int .i64 0, .slice none 0 0, .slice none 0 0]):=by kernel_rfl
theorem QhT:∃e2,Tryz.prog.underlying 47=some (.slice e2):=⟨119,by kernel_rfl⟩
def FrmV.res1 (x:FrmV):Res:=star (sl 182 4 x.vv (x.vals.map Val.cells)) (sl 3 1 x.rv (Qe x.regs))
@[reducible] def gL (p:Nat)(z:GZ)(lv:Value)(left:Int)(fr:List FrmV)(g:FrmV)(L:List Res):List Res:=Mg z p lv left::sl 119 5 z.fv (Ns fr g)::sl 182 4 g.vv (g.vals.map Val.cells)::sl 3 1 g.rv (Qe g.regs)::KV FrmV.res1 fr::L
@[reducible] def GZ.end (z:GZ)(e:Int):GZ:=⟨z.fn,z.fv,z.iv,e,z.bv,z.ov,z.fu,z.mo,true,z.c,z.a⟩
variable {Y:Cx}{w:World}{L:List Res}{p:Nat}{z:GZ}{fr:List FrmV}{g:FrmV}{lv:Value}{left:Int}
theorem aE (e:Int)(Z:St Y w (Mg z p lv left::L)):Ka Tryz.prog wj [.pointer (some ⟨p,0,none⟩), .int .i64 e] w fun u B=>u= .int .i64 1∧St Y B (Mg (z.end e) p lv left::L):=by
 refine Kl Kh Tryz.func72 ?_;refine' LS;refine' KW;refine' zm;refine' LF;((refine Lv Z ?_;intro E Z;have Z:=Z.ns));refine' RG;((refine Lv Z ?_;intro E Z;have Z:=Z.ns));refine' zn;refine' KM;((exact Ap))
theorem SF (hf:fr.length≤1000)(Z:St Y w (gL p z lv left fr g L)):Ka Tryz.prog Qfn [.pointer (some ⟨p,0,none⟩)] w fun u B=>∃b o,u= .pointer (some ⟨b,o,none⟩)∧NJ z.fv (fr.length+1) 5 fr.length b o∧St Y B (gL p z lv left fr g L):=by
 refine Kl Kh Tryz.func73 ?_;refine' LS;refine Qm ?_;refine zD (ci 12 [11]) ?_;have Z:=Z.drew;refine' OM;refine' OM;((refine Qt Z vw fd (Qc fr g) ?_));refine' NY;rw [show ((fr.length+1:Nat):Int) - 1=fr.length by omega];((refine OW Z vw rfl fd C9 ?_;rw [Qc];intro b1 o1 hel));refine' KQ;((exact Bf))
attribute [local irreducible] Frm.val Frm.num Frm.args Frm.rgs Frm.reg
theorem zu (hl1:l.length≤100000)(hf:fr.length≤1000)(hl:Kb.sl Y v1 l)(Z:St Y w (gL p z lv left fr g L)):Ka Tryz.prog rh [.pointer (some ⟨p,0,none⟩),v1] w fun u B=>
 (∃(vs:List Val) (v:Value),g.abs.args l=some vs∧vs.length=l.length∧oneC v=true∧u= .tuple #[v, .bool true]∧St Y B (gL p z lv left fr g (sl 182 4 v (vs.map Val.cells)::L)))∨(g.abs.args l=none∧u= .tuple #[.slice none 0 0, .bool false]∧St Y B (gL p z lv left fr g L)):=by
 have hlen:=hl.len;refine Kl Kh Tryz.func125 ?_;refine' Nz;refine' Nk;refine' Kw (c:=SF hf Z);rintro v1 E ⟨b9,o9,rfl,hel,Z⟩;refine' LW;refine Q9 Z hel rfl fd (Qc fr g) (Qj fr g) rfl ?_;refine' MU;refine' S0;have Z:St Y _ (gL p z lv left fr g (sl 182 4 (.slice none 0 0) (([]:List Val).map Val.cells)::L)):=(by have Z:=Z.nil (T:=182) (es:=4);exact Aj);refine zo [1,7] (fun A ρ' B=>∃(q:Nat) (vo:Value) (out:List Val),Ki ρ' A∧Ki ρ' [(6,vo),(8, .int .i64 q)]∧(q≤l.length)∧(out.length=q)∧(oneC vo=true)∧(g.abs.args l=(g.abs.args (l.drop q)).map fun r=>out++r)∧St Y B (gL p z lv left fr g (sl 182 4 vo (out.map Val.cells)::L))) (fun ρ' _=>(l.length - iv (ρ' 8)).toNat) ?_ ?_
 · exact B5
 rintro U E ⟨q,vo,out,hA,hρ,hq,hol,hvo,hd,Z⟩;obtain ⟨U,rfl⟩:=Km hA hρ;refine' S4;refine' Ab<;>intro O
 · skip
   (refine' Mi;refine' RH;refine' zi;intro b1 o1 cs1 x1 hat1 hx1 he1;obtain rfl:=Qy he1;refine MG Z ?_;(refine' Ae<;>intro O);all_goals (refine' Md;refine' Mu;(first|refine' Kj|(refine' Kg;refine' zi;intro b2 o2 cs2 x2 hat2 hx2 he2;obtain rfl:=Qy he2));refine' dP;refine' Mu;(first|refine' Kj|(refine' Kg;refine Qt Z vw fd (EM _) ?_));first|refine' Kj|(refine' Kg;refine' Ag<;>intro O)));all_goals (refine' Ld)
   all_goals
    first
    | (refine' Kf;all_goals (refine' Nz;refine' Lq);all_goals (exact ⟨_,rfl, .inr ⟨xp hd hx1 (gG (by first|exact .inl V|(have hxx:=EP (hx1.symm.trans hx2);exact .inr (by show (g.vals.length:Int)≤x1;omega)))),rfl,Z.sp⟩⟩))
    | (refine' Kd;refine' Ko)
   have hxx:=EP (hx1.symm.trans hx2);obtain ⟨v9,hv9⟩:∃v,g.vals[x1.toNat]?=some v:=⟨_,EI V⟩;have hvg:=gF (g:=g.abs) V hv9;refine' RN;refine' zm;((refine' zi;intro b3 o3 cs3 x3 hat3 hx3 he3;((obtain rfl:=Qy he3))));refine MG Z ?_;rw [←EP (hx1.symm.trans hx3)];refine QA Z vw rfl fd V C4 ?_;rw [EM];intro b4 o4 hel4;refine NW Z hel4 rfl fd (EM _) (show (g.vals.map Val.cells)[x1.toNat]?=some v9.cells by rw [EZ,hv9];rfl) ?_;unfold Val.cells;refine KO Z [_,_,_,_] ?_;intro b1 E Z;((refine Mx oI (.inl oJ) Z vw vw (i:=6) rfl (Z.srcB (i:=0) rfl Jr CU) CZ ?_;intro v7 w7 Z;have Z:=Z.ns;have ho7:=Z.oneC (i:=6) rfl));refine' UX;((exact ⟨⟨q+1,v7,out++[v9],zh,zh,V,by rw [EO,hol];rfl,ho7,xo hd hx1 hvg,by rw [E7];exact Z.sp⟩,Qh V⟩))
 · refine' LV;refine' KW;refine' Kv;refine' Lq;(exact ⟨_,rfl, .inl ⟨out,_,xq hd V,V,hvo,rfl,Z.sp⟩⟩)
end Go.Proofs.YteflkifmgnpbhaaGreat
namespace Go.Lir
theorem Qh5 (h:vs[q]?=some v):(vs.take q).map Val.n++[v.n]=(vs.take (q+1)).map Val.n:=by
 obtain ⟨hq,rfl⟩:=EJ.1 h;rw [Iq hq,E7];rfl
theorem tj:false=true↔false=true∧P:=by simp
theorem tm (h:P):true=true↔true=true∧P:=by simp [h]
theorem tn (h:¬P):false=true↔true=true∧P:=by simp [h]
theorem tp {b:Bool}(hb:b=true↔∀x∈vs.take q,x.kind=1)(h:vs[q]?=some v):∀b',(b'=true↔b=true∧v.kind=1)→(b'=true↔∀x∈vs.take (q+1),x.kind=1):=by
 intro b' hb';obtain ⟨hq,rfl⟩:=EJ.1 h;rw [hb',hb,Iq hq];simp only [List.forall_mem_append,FD,forall_eq]
end Go.Lir
namespace Go.Proofs.YteflkifmgnpbhaaGreat
open Go.Lir
attribute [local irreducible] LC.wp Q0 Qp Qk KN Qw LO.wp Q6 Calls
variable {Y:Cx}{w:World}{L:List Res}{p:Nat}{z:GZ}{fr:List FrmV}{g:FrmV}{lv:Value}{left:Int}
attribute [local irreducible] Frm.val Frm.num Frm.args Frm.rgs Frm.reg
theorem aF (hl1:l.length≤100000)(hf:fr.length≤1000)(hl:Kb.sl Y v1 l)(Z:St Y w (gL p z lv left fr g L)):Ka Tryz.prog wD [.pointer (some ⟨p,0,none⟩),v1] w fun u B=>
 (∃(vs:List Int) (v:Value),g.abs.rgs l=some vs∧vs.length=l.length∧oneC v=true∧u= .tuple #[v, .bool true]∧St Y B (gL p z lv left fr g (sl 3 1 v (Qe vs)::L)))∨(g.abs.rgs l=none∧u= .tuple #[.slice none 0 0, .bool false]∧St Y B (gL p z lv left fr g L)):=by
 have hlen:=hl.len;refine Kl Kh Tryz.func124 ?_;refine' Nz;refine' Nk;refine' Kw (c:=SF hf Z);rintro v1 E ⟨b9,o9,rfl,hel,Z⟩;refine' LW;refine Q9 Z hel rfl fd (Qc fr g) (Qj fr g) rfl ?_;refine' MU;refine' S0;have Z:St Y _ (gL p z lv left fr g (sl 3 1 (.slice none 0 0) (Qe [])::L)):=Eh;refine zo [1,7] (fun A ρ' B=>∃(q:Nat) (vo:Value) (out:List Int),Ki ρ' A∧Ki ρ' [(6,vo),(8, .int .i64 q)]∧(q≤l.length)∧(out.length=q)∧(oneC vo=true)∧(g.abs.rgs l=(g.abs.rgs (l.drop q)).map fun r=>out++r)∧St Y B (gL p z lv left fr g (sl 3 1 vo (Qe out)::L))) (fun ρ' _=>(l.length - iv (ρ' 8)).toNat) ?_ ?_
 · exact BO
 rintro U E ⟨q,vo,out,hA,hρ,hq,hol,hvo,hd,Z⟩;obtain ⟨U,rfl⟩:=Km hA hρ;refine' S4;refine' Ab<;>intro O
 · skip
   (refine' Mi;refine' RH;refine' zi;intro b1 o1 cs1 x1 hat1 hx1 he1;obtain rfl:=Qy he1;refine MG Z ?_;(refine' Ae<;>intro O);all_goals (refine' Md;refine' Mu;(first|refine' Kj|(refine' Kg;refine' zi;intro b2 o2 cs2 x2 hat2 hx2 he2;obtain rfl:=Qy he2));refine' dP;refine' Mu;(first|refine' Kj|(refine' Kg;refine Qt Z vw (i:=3) rfl (EM _) ?_));first|refine' Kj|(refine' Kg;refine' Ag<;>intro O)));all_goals (refine' Ld)
   all_goals
    first
    | (refine' Kf;all_goals (refine' Nz;refine' Lq);all_goals (exact ⟨_,rfl, .inr ⟨xt hd hx1 (VO (by first|exact .inl V|(have hxx:=EP (hx1.symm.trans hx2);exact .inr (by show (g.regs.length:Int)≤x1;omega)))),rfl,Z.sp⟩⟩))
    | (refine' Kd;refine' Ko)
   have hxx:=EP (hx1.symm.trans hx2);obtain ⟨v9,hv9⟩:∃v,g.regs[x1.toNat]?=some v:=⟨_,EI V⟩;have hvg:=VN (g:=g.abs) V hv9;refine' RN;refine' zm;((refine' zi;intro b3 o3 cs3 x3 hat3 hx3 he3;((obtain rfl:=Qy he3))));refine MG Z ?_;rw [←EP (hx1.symm.trans hx3)];refine QA Z vw rfl (i:=3) rfl V C4 ?_;rw [EM];intro b4 o4 hel4;refine QV Z hel4 rfl (i:=3) rfl (EM _) (show (Qe g.regs)[x1.toNat]?=some [.int .i64 v9] by rw [EZ,hv9];rfl) rfl ?_;refine KO Z [_] ?_;intro b1 E Z;((refine Mx RQ (.inl Sk) Z vw vw (i:=6) rfl (Z.srcB (i:=0) rfl Jr CU) CZ ?_;intro v7 w7 Z;have Z:=Z.ns;have ho7:=Z.oneC (i:=6) rfl));refine' UX;((exact ⟨⟨q+1,v7,out++[v9],zh,zh,V,by rw [EO,hol];rfl,ho7,xr hd hx1 hvg,by rw [Qe,E7];exact Z.sp⟩,Qh V⟩))
 · refine' LV;refine' KW;refine' Kv;refine' Lq;(exact ⟨_,rfl, .inl ⟨out,_,xu hd V,V,hvo,rfl,Z.sp⟩⟩)
theorem aG (hf:fr.length≤1000)(hn:g.vals.length+vs.length≤1000000)(Z:St Y w (gL p z lv left fr g L))(hj:nth L j=some (sl 182 4 v2 (vs.map Val.cells))):
 Ka Tryz.prog wC [.pointer (some ⟨p,0,none⟩),v2] w fun u B=>u= .int .i64 0∧∃tv,St Y B (gL p z lv left fr (g.push tv vs) L):=by
 refine Kl Kh Tryz.func120 ?_;refine' Nk;refine' Kw (c:=SF hf Z);rintro v1 E ⟨b1,o1,rfl,hel1,Z⟩;refine' zm;refine' Kw (c:=SF hf Z);rintro v2 E ⟨b2,o2,rfl,hel2,Z⟩;refine' LW;((refine Q9 Z hel2 rfl fd (Qc fr g) (Qj fr g) rfl ?_));refine' zm;((refine Mx oI (.inl oJ) Z vw vw (i:=2) rfl (Z.srcS (i:=j+5) hj (nV vs)) Dw ?_;intro v7 w7 Z;have Z:=Z.ns;have ho7:=Z.oneC (i:=2) rfl;rw [←E7] at Z));refine' LW;refine QC Z hel1 rfl vw fd (Qc fr g) (Qj fr g) V ho7 (Sq (g':=g.push v7 vs) rfl) ?_;intro w8 Z;have Z:=Z.ns;refine' zn;refine' KM;((exact ⟨_,rfl,rfl,v7,Z.sp⟩))
theorem aH (hl1:l.length≤100000)(hf:fr.length≤1000)(hl:Kb.sl Y v1 l)(Z:St Y w (gL p z lv left fr g L)):Ka Tryz.prog nK [.pointer (some ⟨p,0,none⟩),v1] w fun u B=>
 (∃(vs:List Val) (v:Value) (b:Bool),g.abs.args l=some vs∧vs.length=l.length∧oneC v=true∧(b=true↔∀x∈vs,x.kind=1)∧u= .tuple #[v, .bool b]∧St Y B (gL p z lv left fr g (sl 2 1 v (Qe (vs.map Val.n))::L)))∨(g.abs.args l=none∧u= .tuple #[.slice none 0 0, .bool false]∧St Y B (gL p z lv left fr g L)):=by
 have hlen:=hl.len;refine Kl Kh Tryz.func121 ?_;refine' Nz;refine zM [] (fun A ρ' B=>∃(vs:List Val) (v3:Value) (b:Bool),Ki ρ' A∧Ki ρ' [(6,v3),(7, .bool b)]∧(vs.length≤100000)∧((g.abs.args l=some vs∧vs.length=l.length∧b=true)∨(g.abs.args l=none∧vs=[]∧v3= .slice none 0 0∧b=false))∧St Y B (gL p z lv left fr g (sl 182 4 v3 (vs.map Val.cells)::L))) ?_ ?_
 · skip
   refine' NH;refine' Kk (c:=zu hl1 hf hl Z);rintro v9 w9 hv;rcases hv with ⟨vs,v3,hvs,hvl,ho3,rfl,Z⟩|⟨hvs,rfl,Z⟩
   all_goals (refine' Sf;refine' Kv;(first|(exact ⟨vs,v3,true,zh,zh,V, .inl ⟨hvs,hvl,rfl⟩,Z.sp⟩)|(exact ⟨[], .slice none 0 0,false,zh,zh,Js, .inr ⟨hvs,rfl,rfl,rfl⟩,by have Z:=Z.nil (T:=182) (es:=4);exact Z.sp⟩)))
 rintro U E ⟨vs,v3,b,hA,hρ,hvl,hvs,Z⟩;obtain ⟨U,rfl⟩:=Km hA hρ;refine' LS;refine' Nr;have Z:St Y _ (gL p z lv left fr g (sl 2 1 (.slice none 0 0) (Qe [])::sl 182 4 v3 (vs.map Val.cells)::L)):=Et;refine zo [6] (fun A ρ' B=>∃(q:Nat) (vo:Value) (b1:Bool),Ki ρ' A∧Ki ρ' [(7, .bool b1),(8,vo),(9, .int .i64 q)]∧(q≤vs.length)∧(oneC vo=true)∧(q=0→vo= .slice none 0 0∧b1=b)∧(0<vs.length→(b1=true↔∀x∈vs.take q,x.kind=1))∧St Y B (gL p z lv left fr g (sl 2 1 vo (Qe ((vs.take q).map Val.n))::sl 182 4 v3 (vs.map Val.cells)::L))) (fun ρ' _=>(vs.length - iv (ρ' 9)).toNat) ?_ ?_
 · exact ⟨0, .slice none 0 0,b,zh,zh,V,rfl,(fun _=>⟨rfl,rfl⟩),(fun h0=>by rcases hvs with ⟨_,_,rfl⟩|⟨_,rfl,_⟩;(simp);simp at h0),Z.sp⟩
 rintro U E ⟨q,vo,b1,hA,hρ,hq,hvo,hv0,hb,Z⟩;obtain ⟨U,rfl⟩:=Km hA hρ;refine' RH;refine Qt Z vw (i:=6) rfl (EM _) ?_;refine' TD;refine' Ab<;>intro O
 · skip
   refine' Mi;refine zM [6,8,9] (fun A ρ' B=>∃(b2:Bool),Ki ρ' A∧Ki ρ' [(7, .bool b2)]∧(q<vs.length)∧(b2=true↔∀x∈vs.take (q+1),x.kind=1)∧St Y B (gL p z lv left fr g (sl 2 1 vo (Qe ((vs.take q).map Val.n))::sl 182 4 v3 (vs.map Val.cells)::L))) ?_ ?_
   · obtain ⟨v9,hv9⟩:∃v,vs[q]?=some v:=⟨_,EI V⟩;have hrow:(vs.map Val.cells)[q]?=some v9.cells:=(by rw [EZ,hv9];rfl);have hbq:=hb V;cases b1;all_goals (refine' Lp;refine' Md;refine' Mu;(first|refine' Kj|(refine' Kg;refine OW Z vw rfl (i:=6) rfl C4 ?_;rw [EM];intro b4 o4 hel4));refine' N9;(first|refine' Kj|(refine' Kg;refine Q9 Z hel4 rfl (i:=6) rfl (EM _) hrow rfl ?_));first|refine' Kj|(refine' Kg;refine' Ac<;>intro O));all_goals (refine' Lw;refine' Kv;exact ⟨_,zh,zh,V,(by first|exact tp hbq hv9 _ tj|exact tp hbq hv9 _ (tm O)|exact tp hbq hv9 _ (tn O)),Z.sp⟩)
   rintro U E ⟨b2,hA,hρ,hq1,hb2,Z⟩;obtain ⟨U,rfl⟩:=Km hA hρ;obtain ⟨v9,hv9⟩:∃v,vs[q]?=some v:=⟨_,EI hq1⟩;have hrow:(vs.map Val.cells)[q]?=some v9.cells:=(by rw [EZ,hv9];rfl);refine' RN;refine OW Z vw rfl (i:=6) rfl C4 ?_;rw [EM];intro b5 o5 hel5;refine' NN;refine Q9 Z hel5 rfl (i:=6) rfl (EM _) hrow rfl ?_;refine KO Z [_] ?_;intro b1 E Z;refine Mx Td (.inl Vq) Z vw vw (i:=6) rfl (Z.srcB (i:=0) rfl Jr CU) (by simp only [EM,EY,Fc,FY];omega) ?_;intro v7 w7 Z;have Z:=Z.ns;have ho7:=Z.oneC (i:=6) rfl;refine' UX;(exact ⟨⟨q+1,v7,b2,zh,zh,V,ho7,(fun h=>absurd h V),(fun _=>hb2),by rw [←Qh5 hv9,Qe,E7];exact Z.sp⟩,Qh V⟩)
 · refine' LV;refine' KW;refine' X0;refine' Lq;(obtain rfl:q=vs.length:=CP;rw [HP] at Z hb;rcases hvs with ⟨I,M,h3⟩|⟨I,rfl,h3,h4⟩;exact ⟨_,rfl, .inl ⟨vs,_,_,I,M,hvo,(by by_cases h0:0<vs.length;exact hb h0;obtain ⟨_,e2⟩:=hv0 V;rw [e2,h3,FO.1 (show vs.length=0 by omega)];simp),rfl,Z.sp⟩⟩;obtain ⟨e1,e2⟩:=hv0 rfl;rw [e1,e2,h4];exact ⟨_,rfl, .inr ⟨I,rfl,Z.sp⟩⟩)
end Go.Proofs.YteflkifmgnpbhaaGreat
namespace Go.Lir
section
theorem St.lent {r:Res}(h:St c w (r::L)):∃c' F,c.Le c'∧St c' w L∧r.A c'.H0 F∧(∀b,F b→c'.K b)∧∀{B:World}{L':List Res},St c' B L'→St c B (r::L'):=by
 obtain ⟨ok,F,⟨F1,F2,I,M,h3,h4⟩,hd⟩:=h;have hle:c.Le ⟨c.base,fun b=>c.K b∨F1 b,w.heap⟩:=⟨rfl,fun b hb=>⟨.inl hb,ok.same b hb⟩,ok.size,ok.lt⟩;refine ⟨⟨c.base,fun b=>c.K b∨F1 b,w.heap⟩,F1,hle,⟨⟨ok.os,ok.tape,ok.output,E6 _,fun b hb=>hb.elim (fun hb=>GL (ok.lt b hb) ok.size) (r.lt I b),fun b _=>rfl⟩,F2,M,?_⟩,I,fun b hb=> .inr hb,?_⟩
 · rintro b hb (hk|hk)
   · exact hd b ((h4 b).2 (.inr hb)) hk
   · exact h3 b hk hb
 · intro B L' Z
   have hw:=Z.weak hle;obtain ⟨ok',F',hF',hd'⟩:=Z;refine ⟨hw.1,fun b=>F1 b∨F' b,⟨F1,F',r.loc I fun b hb _=>ok'.same b (.inr hb),hF',fun b hb hb'=>hd' b hb' (.inr hb),fun b=>GY⟩,?_⟩;rintro b (hb|hb) hk
   · exact hd b ((h4 b).2 (.inl hb)) hk
   · exact hd' b hb (.inl hk)
theorem St.lend {r:Rep α}{T:TypeId}{es:Nat}{v:Value}{css:List (List Value)}{l:List α}(h:St c w (sl T es v css::L))(hl:r.ls c css l)(hes:r.es=es)(hm:l.length≤140737488355328):
 ∃c',c.Le c'∧St c' w L∧r.sl c' v l∧∀{B:World}{L':List Res},St c' B L'→St c B (sl T es v css::L'):=by
 subst hes;obtain ⟨c',F,I,M,h3,h4,h5⟩:=h.lent;exact ⟨c',I,M,⟨css,HC (Sl.toR h3) fun b _ hb=>h4 b hb,hl.up I,hm⟩,h5⟩
abbrev J9:=@St.lend
end
section
theorem tq {k:Int}(h:g.args [k]=some vs):∃v,g.val k=some v∧vs=[v]:=by
 unfold Frm.args at h
 cases hv:g.val k with
 | none=>rw [hv] at h;cases h
 | some v=>rw [hv] at h;exact ⟨v,rfl,(EP h).symm⟩
theorem tr {k:Int}(h:g.args [k]=none):g.val k=none:=by
 unfold Frm.args at h
 cases hv:g.val k with
 | none=>rfl
 | some v=>rw [hv] at h;cases h
theorem Xh {k j:Int}(h:g.args [k,j]=some vs):∃v u,g.val k=some v∧g.val j=some u∧vs=[v,u]:=by
 rw [Frm.args] at h
 cases hv:g.val k with
 | none=>rw [hv] at h;cases h
 | some v=>
   rw [hv] at h
   cases ha:g.args [j] with
   | none=>rw [ha] at h;cases h
   | some l=>
     rw [ha] at h;obtain ⟨u,hu,rfl⟩:=tq ha;exact ⟨v,u,rfl,hu,(EP h).symm⟩
theorem Qhx {k j:Int}(h:g.args [k,j]=none):g.val k=none∨g.val j=none:=by
 rw [Frm.args] at h
 cases hv:g.val k with
 | none=>exact .inl rfl
 | some v=>
   rw [hv] at h
   cases ha:g.args [j] with
   | none=>exact .inr (tr ha)
   | some l=>rw [ha] at h;cases h
end
end Go.Lir
namespace Go.Proofs.YteflkifmgnpbhaaGreat
open Go.Lir
attribute [local irreducible] LC.wp Q0 Qp Qk KN Qw LO.wp Q6 Calls
@[reducible] def gX (p:Nat)(z:GZ)(fr:List FrmV)(g:FrmV)(N:Nat)(h:HpS)(out:List Int)(L:List Res):List Res:=Pu z N (.pointer (some ⟨p,1,none⟩)) h::sl 119 5 z.fv (Ns fr g)::sl 182 4 g.vv (g.vals.map Val.cells)::sl 3 1 g.rv (Qe g.regs)::KV FrmV.res1 fr::sl 2 1 z.ov (Qe out)::L
variable {Y:Cx}{w:World}{L:List Res}{p N:Nat}{z:GZ}{fr:List FrmV}{g:FrmV}{h:HpS}{out:List Int}
theorem Pv (Z:St Y w (gX p z fr g N h out L)):∃lv rv,HpO N h rv∧St Y w (gL p z lv h.left fr g (sl 131 4 lv (rv.map RgnV.cells)::KV (RgnV.res H1) rv::sl 2 1 z.ov (Qe out)::L)):=by
 obtain ⟨b,lv,rv,he,ho,Z⟩:=tg Z;cases he;exact ⟨lv,rv,ho,(Z.subP CR)⟩
theorem QK (ho:HpO N h rv)(Z:St Y w (gL p z lv h.left fr g (sl 131 4 lv (rv.map RgnV.cells)::KV (RgnV.res H1) rv::sl 2 1 z.ov (Qe out)::L))):St Y w (gX p z fr g N h out L):=
 Qz ho (Z.subP CR)
attribute [local irreducible] Frm.val Frm.num Frm.args Frm.rgs Frm.reg
theorem Xi {Y:Cx}:Kb.ls Y (Qe l) l:=⟨by unfold Qe;simp,fun k x hx=>⟨[.int .i64 x],by unfold Qe;rw [EZ,hx];rfl,rfl⟩⟩
theorem OT (e:Int)(Z:St Y w (gX p z fr g N h out L)):Ka Tryz.prog wj [.pointer (some ⟨p,0,none⟩), .int .i64 e] w fun u B=>u= .int .i64 1∧St Y B (gX p (z.end e) fr g N h out L):=by
 obtain ⟨lv,rv,ho,Z⟩:=Pv Z;refine (aE e Z).mono ?_;rintro u B ⟨rfl,Z⟩;exact ⟨rfl,QK (z:=z.end e) ho Z⟩
theorem mn (hl1:l.length≤100000)(hf:fr.length≤1000)(hl:Kb.sl Y v1 l)(Z:St Y w (gX p z fr g N h out L)):Ka Tryz.prog rh [.pointer (some ⟨p,0,none⟩),v1] w fun u B=>
 (∃(vs:List Val) (v:Value),g.abs.args l=some vs∧vs.length=l.length∧oneC v=true∧u= .tuple #[v, .bool true]∧St Y B (gX p z fr g N h out (sl 182 4 v (vs.map Val.cells)::L)))∨(g.abs.args l=none∧u= .tuple #[.slice none 0 0, .bool false]∧St Y B (gX p z fr g N h out L)):=by
 obtain ⟨lv,rv,ho,Z⟩:=Pv Z;refine (zu hl1 hf hl Z).mono ?_;rintro u B (⟨vs,v,I,M,h3,h4,Z⟩|⟨I,M,Z⟩)
 · exact .inl ⟨vs,v,I,M,h3,h4,QK ho (Z.subP CR)⟩
 · exact .inr ⟨I,M,QK ho (Z.subP CR)⟩
theorem cF (hl1:l.length≤100000)(hf:fr.length≤1000)(hl:Kb.sl Y v1 l)(Z:St Y w (gX p z fr g N h out L)):Ka Tryz.prog wD [.pointer (some ⟨p,0,none⟩),v1] w fun u B=>
 (∃(vs:List Int) (v:Value),g.abs.rgs l=some vs∧vs.length=l.length∧oneC v=true∧u= .tuple #[v, .bool true]∧St Y B (gX p z fr g N h out (sl 3 1 v (Qe vs)::L)))∨(g.abs.rgs l=none∧u= .tuple #[.slice none 0 0, .bool false]∧St Y B (gX p z fr g N h out L)):=by
 obtain ⟨lv,rv,ho,Z⟩:=Pv Z;refine (aF hl1 hf hl Z).mono ?_;rintro u B (⟨vs,v,I,M,h3,h4,Z⟩|⟨I,M,Z⟩)
 · exact .inl ⟨vs,v,I,M,h3,h4,QK ho (Z.subP CR)⟩
 · exact .inr ⟨I,M,QK ho (Z.subP CR)⟩
theorem Xj (hl1:l.length≤100000)(hf:fr.length≤1000)(hl:Kb.sl Y v1 l)(Z:St Y w (gX p z fr g N h out L)):Ka Tryz.prog nK [.pointer (some ⟨p,0,none⟩),v1] w fun u B=>
 (∃(vs:List Val) (v:Value) (b:Bool),g.abs.args l=some vs∧vs.length=l.length∧oneC v=true∧(b=true↔∀x∈vs,x.kind=1)∧u= .tuple #[v, .bool b]∧St Y B (gX p z fr g N h out (sl 2 1 v (Qe (vs.map Val.n))::L)))∨(g.abs.args l=none∧u= .tuple #[.slice none 0 0, .bool false]∧St Y B (gX p z fr g N h out L)):=by
 obtain ⟨lv,rv,ho,Z⟩:=Pv Z;refine (aH hl1 hf hl Z).mono ?_;rintro u B (⟨vs,v,b,I,M,h3,h4,h5,Z⟩|⟨I,M,Z⟩)
 · exact .inl ⟨vs,v,b,I,M,h3,h4,h5,QK ho (Z.subP CR)⟩
 · exact .inr ⟨I,M,QK ho (Z.subP CR)⟩
theorem mq {k:Int}(hf:fr.length≤1000)(Z:St Y w (sl 3 1 v1 (Qe [k])::gX p z fr g N h out L)):Ka Tryz.prog rh [.pointer (some ⟨p,0,none⟩),v1] w fun u B=>
 (∃(v:Val) (sv:Value),g.abs.val k=some v∧oneC sv=true∧u= .tuple #[sv, .bool true]∧St Y B (gX p z fr g N h out (sl 182 4 sv ([v].map Val.cells)::L)))∨(g.abs.val k=none∧u= .tuple #[.slice none 0 0, .bool false]∧St Y B (gX p z fr g N h out L)):=by
 obtain ⟨c',hle,Z,hsl,hback⟩:=J9 (r:=Kb) (l:=[k]) Z Xi rfl Js;refine (mn Js hf hsl Z).mono ?_;rintro u B (⟨vs,v,I,M,h3,rfl,Z⟩|⟨I,rfl,Z⟩)
 · obtain ⟨v0,h5,rfl⟩:=tq I;exact .inl ⟨v0,v,h5,h3,rfl,(hback Z).drop⟩
 · exact .inr ⟨tr I,rfl,(hback Z).drop⟩
theorem aI {k:Int}(hf:fr.length≤1000)(Z:St Y w (sl 3 1 v1 (Qe [k])::gX p z fr g N h out L)):Ka Tryz.prog nK [.pointer (some ⟨p,0,none⟩),v1] w fun u B=>
 (∃(n:Int) (sv:Value),g.abs.num k=some n∧oneC sv=true∧u= .tuple #[sv, .bool true]∧St Y B (gX p z fr g N h out (sl 2 1 sv (Qe [n])::L)))∨(g.abs.num k=none∧∃sv,u= .tuple #[sv, .bool false]∧St Y B (gX p z fr g N h out L)):=by
 obtain ⟨c',hle,Z,hsl,hback⟩:=J9 (r:=Kb) (l:=[k]) Z Xi rfl Js;refine (Xj Js hf hsl Z).mono ?_;rintro u B (⟨vs,v,b,I,M,h3,h4,rfl,Z⟩|⟨I,rfl,Z⟩)
 · obtain ⟨v0,h5,rfl⟩:=tq I
   have Z:=(hback Z).drop
   cases b with
   | true=>exact .inl ⟨v0.n,v,Sr h5 (h4.1 rfl v0 Js),h3,rfl,(Z.subP CR)⟩
   | false=>exact .inr ⟨Ss h5 (fun h=>absurd (h4.2 C5) Jd),_,rfl,(Z.subP CR)⟩
 · exact .inr ⟨Su (tr I),_,rfl,(hback Z).drop⟩
theorem cG {k j:Int}(hf:fr.length≤1000)(Z:St Y w (sl 3 1 v1 (Qe [k,j])::gX p z fr g N h out L)):Ka Tryz.prog nK [.pointer (some ⟨p,0,none⟩),v1] w fun u B=>
 (∃(n m:Int) (sv:Value),g.abs.num k=some n∧g.abs.num j=some m∧oneC sv=true∧u= .tuple #[sv, .bool true]∧St Y B (gX p z fr g N h out (sl 2 1 sv (Qe [n,m])::L)))∨((g.abs.num k=none∨g.abs.num j=none)∧∃sv,u= .tuple #[sv, .bool false]∧St Y B (gX p z fr g N h out L)):=by
 obtain ⟨c',hle,Z,hsl,hback⟩:=J9 (r:=Kb) (l:=[k,j]) Z Xi rfl Js;refine (Xj Js hf hsl Z).mono ?_;rintro u B (⟨vs,v,b,I,M,h3,h4,rfl,Z⟩|⟨I,rfl,Z⟩)
 · obtain ⟨v0,u0,h5,h6,rfl⟩:=Xh I
   have Z:=(hback Z).drop
   cases b with
   | true=>exact .inl ⟨v0.n,u0.n,v,Sr h5 (h4.1 rfl v0 Js),Sr h6 (h4.1 rfl u0 Js),h3,rfl,(Z.subP CR)⟩
   | false=>
     refine .inr ⟨?_,_,rfl,(Z.subP CR)⟩;by_cases h7:v0.kind=1
     · exact .inr (Ss h6 (fun h=>absurd (h4.2 (by simpa using ⟨h7,h⟩)) Jd))
     · exact .inl (Ss h5 h7)
 · exact .inr ⟨(Qhx I).imp Su Su,_,rfl,(hback Z).drop⟩
theorem NI (hf:fr.length≤1000)(hn:g.vals.length+vs.length≤1000000)(Z:St Y w (sl 182 4 v2 (vs.map Val.cells)::gX p z fr g N h out L)):
 Ka Tryz.prog wC [.pointer (some ⟨p,0,none⟩),v2] w fun u B=>u= .int .i64 0∧∃tv,St Y B (gX p z fr (g.push tv vs) N h out L):=by
 obtain ⟨lv,rv,ho,Z⟩:=Pv (L:=sl 182 4 v2 (vs.map Val.cells)::L) (Z.subP CR);refine (aG (j:=3) hf hn Z rfl).mono ?_;rintro u B ⟨rfl,tv,Z⟩;exact ⟨rfl,tv,QK ho (Z.subP CR)⟩
end Go.Proofs.YteflkifmgnpbhaaGreat
namespace Go.Lir
theorem tt {P:Program}{U:KD}{d n:Nat}{v:Value}{x:Operand}{m b o:Nat}(Z:St c w L)(he:NJ v n es m b o)(hx:U.ev x= .pointer (some ⟨b,o,none⟩))(hi:nth L i=some (sl T es v css))(hn:css.length=n)(O:css[m]?=some cs):Nn P U w ⟨none, .loadn d es x⟩ (.agg ⟨cs⟩):=by
 obtain ⟨F,hr,_⟩:=Z.step hi;exact ⟨_,cs,hx,(he.el hn hr).cells O,rfl⟩
section
variable {m:Module}{s:MS}{x:Ins}
theorem oL (h:x.op=8):s.ins m x=Ls (s.g.val x.a) fun v=>Ls (s.g.num x.b) fun n=>if n<0∨15<n then .halt 3 else s.made (s.h.arrC v n) (s.h.arr v n) (s.h.arrV v n):=by unfold MS.ins;(repeat rw [Qin V]);rw [Qip h]
theorem QhG (I:4≤x.op)(M:x.op≤11)(hv:s.g.val x.a=none):s.ins m x= .lost:=by
 rcases (show x.op=4∨x.op=5∨x.op=6∨x.op=7∨x.op=8∨x.op=9∨x.op=10∨x.op=11 by omega) with h|h|h|h|h|h|h|h
 · rw [nZ h,Qu hv]
 · rw [od h,Qu hv]
 · rw [oe h,Qu hv]
 · rw [lB h,Qu hv]
 · rw [oL h,Qu hv]
 · rw [og h,Qu hv]
 · rw [oh h,Qu hv]
 · rw [rW h,Qu hv]
theorem zw (h6:x.op=6)(hv:s.g.val x.a=some v)(O:v.kind≠3∨(s.h.get v x.k).2≠0):s.ins m x= .lost:=by
 rw [oe h6,Q1 hv];by_cases hk:v.kind=3
 · rw [Qin V,Qip V]
 · rw [Qip hk]
theorem cH (h6:x.op=6)(hv:s.g.val x.a=some v)(hk:v.kind=3)(O:(s.h.get v x.k).2=0):s.ins m x= .go (s.put [(s.h.get v x.k).1]):=by rw [oe h6,Q1 hv,Qin V,Qin V]
theorem zx (h7:x.op=7)(hv:s.g.val x.a=some v)(O:s.g.val x.b=none∨v.kind≠3):s.ins m x= .lost:=by
 rw [lB h7,Q1 hv];by_cases hk:v.kind=3
 · rw [Qin V,Qu (O.resolve_right V)]
 · rw [Qip hk]
theorem Xk (h7:x.op=7)(hv:s.g.val x.a=some v)(hy:s.g.val x.b=some y)(O:v.kind≠3∨s.h.setC v x.k y≠0):s.ins m x= .lost:=by
 rw [lB h7,Q1 hv];by_cases hk:v.kind=3
 · rw [Qin V,Q1 hy,Qip V]
 · rw [Qip hk]
theorem mr (h7:x.op=7)(hv:s.g.val x.a=some v)(hy:s.g.val x.b=some y)(hk:v.kind=3)(O:s.h.setC v x.k y=0):s.ins m x= .go (s.hp (s.h.set v x.k y)):=by rw [lB h7,Q1 hv,Qin V,Q1 hy,Qin V]
theorem tu (h8:x.op=8)(hv:s.g.val x.a=some v)(hn:s.g.num x.b=none):s.ins m x= .lost:=by rw [oL h8,Q1 hv,Qu hn]
theorem tw (h8:x.op=8)(hv:s.g.val x.a=some v)(hn:s.g.num x.b=some n)(O:n<0∨15<n):s.ins m x= .halt 3:=by rw [oL h8,Q1 hv,Q1 hn,Qip O]
theorem tx (h8:x.op=8)(hv:s.g.val x.a=some v)(hn:s.g.num x.b=some n)(O:¬(n<0∨15<n)):s.ins m x=s.made (s.h.arrC v n) (s.h.arr v n) (s.h.arrV v n):=by rw [oL h8,Q1 hv,Q1 hn,Qin O]
theorem tz (h9:x.op=9)(hv:s.g.val x.a=some v)(hn:s.g.num x.b=none):s.ins m x= .lost:=by rw [og h9,Q1 hv,Qu hn]
theorem mu (h9:x.op=9)(hv:s.g.val x.a=some v)(hn:s.g.num x.b=some n):s.ins m x=NP v (s.h.get v n).2 (.go (s.put [(s.h.get v n).1])):=by rw [og h9,Q1 hv,Q1 hn]
theorem mv (h10:x.op=10)(hv:s.g.val x.a=some v)(hn:s.g.num x.b=none∨s.g.num x.c=none):s.ins m x= .lost:=by
 rw [oh h10,Q1 hv]
 cases hb:s.g.num x.b with
 | none=>rfl
 | some n=>rw [Q1 rfl,Qu (hn.resolve_left (by rw [hb];exact fun h=>by cases h))]
theorem cI {c:Int}(h10:x.op=10)(hv:s.g.val x.a=some v)(hn:s.g.num x.b=some n)(O:s.g.num x.c=some c):s.ins m x=NP v (s.h.setC v n (KE c)) (.go (s.hp (s.h.set v n (KE c)))):=by rw [oh h10,Q1 hv,Q1 hn,Q1 O]
theorem mw (h11:x.op=11)(hv:s.g.val x.a=some v):s.ins m x=NP v (s.h.len v).2 (.go (s.put [KE (s.h.len v).1])):=by rw [rW h11,Q1 hv]
end
end Go.Lir
namespace Go.Proofs.YteflkifmgnpbhaaGreat
open Go.Lir
attribute [local irreducible] LC.wp Q0 Qp Qk KN Qw LO.wp Q6 Calls
section
variable {Y:Cx}{w:World}{L:List Res}{p N:Nat}{z:GZ}{fr:List FrmV}{g:FrmV}{h:HpS}{out inp:List Int}{fu:Nat}
@[reducible] def GZ.upd (z:GZ)(fv iv ov:Value):GZ:=⟨z.fn,fv,iv,z.e,z.bv,ov,z.fu,z.mo,z.dn,z.c,z.a⟩
@[reducible] def GZ.bk (z:GZ)(bv:Value):GZ:=⟨z.fn,z.fv,z.iv,z.e,bv,z.ov,z.fu,z.mo,z.dn,z.c,z.a⟩
def GQ (p:Nat)(z:GZ)(N fu:Nat)(h:HpS)(out:List Int)(X:Stp)(Y:Cx)(L:List Res)(u:Value)(B:World):Prop:=
 (∃fv iv ov fr' g' N' h' inp' out',X= .go (Kc h' g' fr' inp' out' fu)∧Kb.sl Y iv inp'∧N'≤N+1∧u= .int .i64 0∧St Y B (gX p (z.upd fv iv ov) fr' g' N' h' out' L))
 ∨(∃e fr' g' N',X= .halt e∧N'≤N+1∧u= .int .i64 1∧St Y B (gX p (z.end e) fr' g' N' h out L))
 ∨(∃l bv fr' g' N',X= .done l∧N'≤N+1∧l.length≤100000∧u= .int .i64 1∧St Y B (gX p ((z.bk bv).end 0) fr' g' N' h out (sl 2 1 bv (Qe l)::L)))
 ∨(X= .lost∧u= .int .i64 2∧∃lv left,St Y B (Mg z p lv left::L))
theorem aJ (Z:St Y w (gX p z fr g N h out L)):∃lv left,St Y w (Mg z p lv left::L):=by
 obtain ⟨lv,rv,ho,Z⟩:=Pv Z;exact ⟨lv,_,Z.sp⟩
theorem GQ.lost (hX:X= .lost)(Z:St Y w (gX p z fr g N2 M out2 L'))(hsub:∀lv left,St Y w (Mg z p lv left::L')→St Y w (Mg z p lv left::L)):GQ p z N fu h out X Y L (.int .i64 2) w:=by
 obtain ⟨lv,left,Z⟩:=aJ Z;exact .inr (.inr (.inr ⟨hX,rfl,lv,left,hsub _ _ Z⟩))
abbrev Hy:=@GQ.lost
theorem Xl (hf:fr.length≤1000)(hn:g.vals.length≤900000)(Z:St Y w (gX p z fr g N h out L)):Ka Tryz.prog Qfp [.pointer (some ⟨p,0,none⟩),v.v, .int .i64 e] w fun u B=>
 (e=0∧u= .int .i64 0∧∃tv,St Y B (gX p z fr (g.push tv [v]) N h out L))∨(e=14∧u= .int .i64 1∧St Y B (gX p (z.end 6) fr g N h out L))∨(e≠0∧e≠14∧u= .int .i64 2∧St Y B (gX p z fr g N h out L)):=by
 unfold Val.v Val.cells;refine Kl Kh Tryz.func187 ?_;refine' KU;intro p4 E Z;refine' Ou;(refine' Ac<;>intro O);all_goals (refine' zn)
 all_goals
  first
  | (refine' Kf;refine' KX;have Z:St Y _ (gX p z fr g N h out L):=Z.sp;refine' Kk (c:=OT 6 Z);rintro v1 E ⟨rfl,Z⟩;refine' KQ;(exact ⟨_,rfl, .inr (.inl ⟨V,rfl,Z⟩)⟩))
  | (refine' Kd;refine' Ko)
 refine' Lb;(refine' Ad<;>intro O);all_goals (refine' zn)
 all_goals
  first
  | (refine' Kf;refine' KM;(exact ⟨_,rfl, .inr (.inr ⟨V,V,rfl,Z.sp⟩)⟩))
  | (refine' Kd;refine' Ko)
 refine' RK;refine KO Z [_,_,_,_] ?_;intro b1 E Z;have Z:=Fz (T:=182) (es:=4) (css:=[v].map Val.cells) Z rfl CX rfl;have Z:St Y _ (sl 182 4 (.slice (some ⟨b1,0,none⟩) 1 1) ([v].map Val.cells)::gX p z fr g N h out L):=Z.sp;refine' Kk (c:=NI (vs:=[v]) hf C0 Z);rintro v1 E ⟨rfl,tv,Z⟩;refine' KQ;(exact ⟨_,rfl, .inl ⟨V,rfl,tv,Z⟩⟩)
theorem oM (Z:St Y w (gX p z fr g N h out L)):Ka Tryz.prog Qcu [.pointer (some ⟨p,0,none⟩),v.v, .int .i64 e] w fun u B=>
 (v.kind=4∧e=0∧u= .int .i64 0∧St Y B (gX p z fr g N h out L))∨(v.kind=4∧e=1∧u= .int .i64 1∧St Y B (gX p (z.end 2) fr g N h out L))∨((v.kind=4→e≠1∧e≠0)∧u= .int .i64 2∧St Y B (gX p z fr g N h out L)):=by
 unfold Val.v Val.cells;refine Kl Kh Tryz.func192 ?_;refine' KU;intro p4 E Z;refine' OJ;(refine' Ad<;>intro O);all_goals (refine' zn)
 all_goals
  first
  | (refine' Kf;refine' KM;(exact ⟨_,rfl, .inr (.inr ⟨V,rfl,Z.sp⟩)⟩))
  | (refine' Kd;refine' Ko)
 refine' Lb;(refine' Ac<;>intro O);all_goals (refine' zn)
 all_goals
  first
  | (refine' Kf;refine' KX;have Z:St Y _ (gX p z fr g N h out L):=Z.sp;refine' Kk (c:=OT 2 Z);rintro v1 E ⟨rfl,Z⟩;refine' KQ;(exact ⟨_,rfl, .inr (.inl ⟨V,V,rfl,Z⟩)⟩))
  | (refine' Kd;refine' Ko)
 refine' Lb;(refine' Ad<;>intro O);all_goals (refine' zn)
 all_goals
  first
  | (refine' Kf;refine' KM;(exact ⟨_,rfl, .inr (.inr ⟨V,rfl,Z.sp⟩)⟩))
  | (refine' Kd;refine' Ko)
 refine' KM;(exact ⟨_,rfl, .inl ⟨V,V,rfl,Z.sp⟩⟩)
end
section
variable {Y:Cx}{w:World}{L:List Res}{p N:Nat}{z:GZ}{fr:List FrmV}{g:FrmV}{h:HpS}{out inp:List Int}{fu:Nat}{m:Module}
@[reducible] def Nx (b:Nat)(x:Ins)(vr va:Value):Res:=blk b 84 [.int .i64 x.op, .int .i64 x.a, .int .i64 x.b, .int .i64 x.c, .int .i64 x.k, .int .i64 x.n,vr,va]
@[reducible] def O6 (sv:Value)(v:Val):Res:=sl 182 4 sv ([v].map Val.cells)
theorem GQ.go {h':HpS}{out':List Int}(hX:X= .go (Kc h' g' fr' inp out' fu))(hi:Kb.sl Y z.iv inp)(hN:N'≤N+1)(hu:u= .int .i64 0)(Z:St Y w (gX p z fr' g' N' h' out' L)):GQ p z N fu h out X Y L u w:=
 .inl ⟨z.fv,z.iv,z.ov,fr',g',N',h',inp,out',hX,hi,hN,hu,Z⟩
abbrev HS:=@GQ.go
theorem GQ.halt (hX:X= .halt e)(hN:N'≤N+1)(hu:u= .int .i64 1)(Z:St Y w (gX p (z.end e) fr' g' N' h out L)):GQ p z N fu h out X Y L u w:=
 .inr (.inl ⟨e,fr',g',N',hX,hN,hu,Z⟩)
abbrev HM:=@GQ.halt
attribute [local irreducible] Frm.val Frm.num Frm.args Frm.rgs Frm.reg KB MS.ins MS.call HpS.get HpS.set HpS.setC HpS.len HpS.code HpS.put HpS.putV HpS.open HpS.shut HpS.full HpS.openV HpS.can HpS.tuple HpS.arr HpS.arrC HpS.arrV Lk LN
theorem gH (hx:K1.at Y cs x)(hi:Kb.sl Y z.iv inp)(hop:4≤x.op∧x.op≤11)(h8:x.args.length≤100)(hf:fr.length≤900)(hn:g.vals.length≤800000)(hN:N≤99999)(Z:St Y w (gX p z fr g N h out L)):
 Ka Tryz.prog QaF [.pointer (some ⟨p,0,none⟩), .agg ⟨cs⟩] w (GQ p z N fu h out ((Kc h g fr inp out fu).ins m x) Y L):=by
 obtain ⟨vr,va,rfl,hr,ha⟩:=QN hx;have hil:=hi.len;have hXl:=QhG (m:=m) (s:=Kc h g fr inp out fu) (x:=x) hop.1 hop.2;refine Kl Kh Tryz.func126 ?_;refine' KU;intro p3 E Z;refine' L6;refine' KJ;refine KO Z [_] ?_;intro b1 E Z;have Z:St Y _ (sl 3 1 (.slice (some ⟨b1,0,none⟩) 1 1) (Qe [x.a])::gX p z fr g N h out (Nx p3 x vr va::L)):=Ec;refine' Kk (c:=mq V Z);rintro v1 E (⟨v0,sv,hv,ho1,rfl,Z⟩|⟨hv,rfl,Z⟩);all_goals (refine' U0)
 all_goals
  first
  | (refine' Kf;refine' KM;(exact ⟨_,rfl,Hy (hXl hv) Z fun _ _ Z=>Z.sp⟩))
  | (refine' Kd;refine' Ko)
 refine' Nq;refine' P1;refine' Kn;(refine' Ac<;>intro O);all_goals (refine' Kv)
 all_goals
  first
  | (refine' Kf
     refine' MN;refine zD (ci 8 [6,7]) ?_;have Z:=Z.drew;refine' zm;refine' LF;refine' zm;refine QA Z vw rfl fd Js Js ?_;intro b2 o2 hel2;refine NW Z hel2 rfl fd rfl rfl ?_;refine' Kk (c:=Xg v0 Z fd);rintro v1 E ⟨rfl,Z⟩;have Z:=Z.ns;cases hcan:h.can v0;all_goals (refine' O2)
     all_goals
      first
      | (refine' Kf;refine Qm ?_;have hX:=(nZ (m:=m) (s:=Kc h g fr inp out fu) (x:=x) V).trans ((Q1 hv).trans (Qip hcan));refine' O5;(exact Aw))
      | (refine' Kd;refine' Ko)
     refine Qm ?_;have hX:=(nZ (m:=m) (s:=Kc h g fr inp out fu) (x:=x) V).trans ((Q1 hv).trans (Qin (show¬h.can v0=false by rw [hcan];decide)));refine' O5;(exact ⟨_,rfl,HS (fr':=fr) (g':=g) (h':=h.shut v0) (out':=out) hX hi (FM N) rfl Z.sp⟩))
  | (refine' Kd
     refine' Kn;(refine' Ac<;>intro O);all_goals (refine' Kv)
     all_goals
      first
      | (refine' Kf
         refine' Nj;refine' Kk (c:=mn V V ha (show St Y _ (gX p z fr g N h out _) from Z));rintro v1 E (⟨vs,sw,hvs,hvl,ho2,rfl,Z⟩|⟨hvs,rfl,Z⟩);all_goals (refine' U0)
         all_goals
          first
          | (refine' Kf;refine Qm ?_;have hX:=(od (m:=m) (s:=Kc h g fr inp out fu) (x:=x) V).trans ((Q1 hv).trans (Qu hvs));refine' O5;(exact Aw))
          | (refine' Kd;refine' Ko)
         (refine Qm ?_;refine zC [(0,none),(1,none),(2,none),(3,none),(4,none),(5,none),(6,none),(7,none),(8,some (some [])),(9,none),(10,none),(11,some none),(12,some none)] ?_;have Z:=Z.drew;refine' U1;refine' Oq;refine' O0;refine QA Z vw rfl fd Js Js ?_;intro b2 o2 hel2;refine' Ku;refine NW Z hel2 rfl fd rfl rfl ?_;refine' Ku;refine' zm;refine' Lh;refine' KZ (c:=QiA (N:=N) (s:=h) (j:=6) v0 sw vs V V Z fd rfl);rintro v1 E ⟨rfl,Z⟩;have Z:=Z.ns;refine' LZ;refine' Y5;refine' K8;refine' KZ (c:=Xl (v:=h.putV v0 3 (LN vs)) V V (show St Y _ (gX p z fr g (N+1) (h.tuple v0 vs) out _) from Z));have hX:=(od (m:=m) (s:=Kc h g fr inp out fu) (x:=x) V).trans ((Q1 hv).trans (Q1 hvs));rintro v1 E (⟨he,rfl,tv,Z⟩|⟨he,rfl,Z⟩|⟨he,he2,rfl,Z⟩);all_goals (refine' Oa;refine' Pg));all_goals (first|(first|exact BU|exact ⟨_,rfl,HS (fr':=fr) (g':=g.push tv [h.putV v0 3 (LN vs)]) (h':=h.tuple v0 vs) (out':=out) (hX.trans (nS he)) hi (E6 _) rfl Z.sp⟩)|(have Z:=Z;rw [xz (by rw [he];decide)] at Z;exact Ct)))
      | (refine' Kd
         refine' Kn;(refine' Ac<;>intro O);all_goals (refine' Kv)
         all_goals
          first
          | (refine' Kf
             refine' Nj;refine KO Z [_] ?_;intro b1 E Z;have Z:St Y _ (sl 3 1 (.slice (some ⟨b1,0,none⟩) 1 1) (Qe [x.b])::gX p z fr g N h out (O6 sv v0::Nx p3 x vr va::L)):=DX;refine' Kk (c:=aI V Z);rintro v1 E (⟨n0,sn,hn0,ho2,rfl,Z⟩|⟨hn0,sn,rfl,Z⟩);all_goals (refine' U0)
             all_goals
              first
              | (refine' Kf;refine Qm ?_;have hX:=tu (m:=m) (s:=Kc h g fr inp out fu) (x:=x) V hv hn0;refine' O5;(exact Aw))
              | (refine' Kd;refine' Ko)
             (refine' Lb;refine QA Z vw rfl fd Js Js ?_;intro b2 o2 hel2;refine QV Z hel2 rfl fd rfl rfl rfl ?_;(refine' Ae<;>intro O);all_goals (refine' Md;(first|(refine' Kj)|(refine' Kg;refine QA Z vw rfl fd Js Js ?_;intro b3 o3 hel3));(first|(refine' Kj)|(refine' Kg;refine QV Z hel3 rfl fd rfl rfl rfl ?_));first|refine' Kj|(refine' Kg;refine' Af<;>intro O)));all_goals (refine' Ld)
             all_goals
              first
              | (refine' Kf;all_goals (refine' KX;refine' Kk (c:=OT 3 (show St Y _ (gX p z fr g N h out _) from Z));rintro v1 E ⟨rfl,Z⟩;have hX:=tw (m:=m) (s:=Kc h g fr inp out fu) (x:=x) V hv hn0 V;refine' KQ);all_goals (exact ⟨_,rfl,HM (fr':=fr) (g':=g) (N':=N) hX (FM N) rfl Z.sp⟩))
              | (refine' Kd;refine' Ko)
             (refine Qm ?_;refine zC [(0,none),(1,none),(2,none),(3,none),(4,none),(5,none),(6,none),(7,none),(8,none),(9,none),(10,some (some [])),(11,none),(12,none),(13,some none),(14,some none)] ?_;have Z:=Z.drew;refine' U1;refine' Oq;refine' O0;refine QA Z vw rfl fd Js Js ?_;intro b4 o4 hel4;refine' Ku;refine NW Z hel4 rfl fd rfl rfl ?_;refine' Mm;refine QA Z vw rfl fd Js Js ?_;intro b5 o5 hel5;refine' Ku;refine QV Z hel5 rfl fd rfl rfl rfl ?_;refine' Lh;refine' KZ (c:=QiF (N:=N) (s:=h) v0 n0 V Z fd);rintro v1 E ⟨rfl,Z⟩;have Z:=Z.ns;refine' LZ;refine' Y5;refine' K8;refine' KZ (c:=Xl (v:=h.arrV v0 n0) V V (show St Y _ (gX p z fr g (N+1) (h.arr v0 n0) out _) from Z));have hX:=tx (m:=m) (s:=Kc h g fr inp out fu) (x:=x) V hv hn0 V;rintro v1 E (⟨he,rfl,tv,Z⟩|⟨he,rfl,Z⟩|⟨he,he2,rfl,Z⟩);all_goals (refine' Oa;refine' Pg));all_goals (first|(first|exact BU|exact ⟨_,rfl,HS (fr':=fr) (g':=g.push tv [h.arrV v0 n0]) (h':=h.arr v0 n0) (out':=out) (hX.trans (nS he)) hi (E6 _) rfl Z.sp⟩)|(rw [xd (by rw [he];decide)] at Z;exact Ct)))
          | (refine' Kd
             refine' Kn;(refine' Ac<;>intro O);all_goals (refine' Kv)
             all_goals
              first
              | (refine' Kf
                 refine Qm ?_;refine NU 8 12 Jk ?_ ?_
                 · skip
                   (refine zC [(0,none),(1,none),(2,none),(3,none),(4,none),(5,none),(6,none),(7,none),(8,some none),(9,none),(10,none),(11,none),(12,some (some [])),(13,some (some [])),(14,some none)] ?_;have Z:=Z.drew;refine' NT;refine' Oq;refine' O0;refine QA Z vw rfl fd Js Js ?_;intro b2 o2 hel2;refine' Ku;refine NW Z hel2 rfl fd rfl rfl ?_;refine' Ku;refine' nG;refine' K8;refine' KZ (c:=oK v0 x.k Z fd);rintro v1 E ⟨rfl,Z⟩;refine' S6;refine' UU;intro p11 E Z;refine' zt;refine ⟨fun _ h=>(ET h).elim,?_⟩;refine' Py;refine On Z rfl rfl Jr fd Js (TV _) Jr ?_;intro E Z;have Z:=Z.ns;refine' S7;refine' MN;have Z:St Y _ (gX p z fr g N h out (O6 sv v0::blk p11 182 (h.get v0 x.k).1.cells::Nx p3 x vr va::L)):=Z.sp;refine' Lp;refine QA Z vw rfl fd Js Js ?_;intro b3 o3 hel3;refine' NN;refine Q9 Z hel3 rfl fd rfl rfl rfl ?_;(refine' Ad<;>intro O);all_goals (refine' Md;first|refine' Kj|(refine' Kg;refine' Ad<;>intro O)));all_goals (refine' Ld)
                   all_goals
                    first
                    | (refine' Kf;all_goals (refine Qm ?_;have hX:=zw (m:=m) (s:=Kc h g fr inp out fu) (x:=x) V hv D5;refine' O5);all_goals (exact Aw))
                    | (refine' Kd;refine' Ko)
                   refine Qm ?_;have hX:=cH (m:=m) (s:=Kc h g fr inp out fu) (x:=x) V hv V (show (h.get v0 x.k).2=0 by omega);refine' OH;refine KO Z [_,_,_,_] ?_;intro b1 E Z;have Z:St Y _ (O6 (.slice (some ⟨b1,0,none⟩) 1 1) (h.get v0 x.k).1::gX p z fr g N h out L):=D9;refine' Kk (c:=NI (vs:=[(h.get v0 x.k).1]) V C0 Z);rintro v1 E ⟨rfl,tv,Z⟩;refine' KQ;((exact BJ))
                 · skip
                   (refine zC [(0,none),(1,none),(2,none),(3,none),(4,none),(5,none),(6,none),(7,none),(12,some (some [5,7])),(8,some none),(9,none),(10,none),(11,none),(13,some (some [])),(14,some none)] ?_;have Z:=Z.drew;refine' NT;refine' Oq;refine' O0;refine QA Z vw rfl fd Js Js ?_;intro b2 o2 hel2;refine' Ku;refine NW Z hel2 rfl fd rfl rfl ?_;refine' Ku;refine' Ot;refine Qb Z ?_;intro p11 E Z;refine' zt;refine ⟨EN.2 ⟨(by (exact tt Z hel2 rfl fd rfl rfl)),EN.2 ⟨CS,fun _ h=>(ET h).elim⟩⟩,?_⟩;refine' Lg;refine' KZ (c:=oK v0 x.k Z fd);rintro v1 E ⟨rfl,Z⟩;refine' S6;refine' Lh;refine On Z rfl rfl Jr fd Js (TV _) Jr ?_;intro E Z;have Z:=Z.ns;refine' S7;refine' MN;have Z:St Y _ (gX p z fr g N h out (O6 sv v0::blk p11 182 (h.get v0 x.k).1.cells::Nx p3 x vr va::L)):=Z.sp;refine' Lp;refine QA Z vw rfl fd Js Js ?_;intro b3 o3 hel3;refine' NN;refine Q9 Z hel3 rfl fd rfl rfl rfl ?_;(refine' Ad<;>intro O);all_goals (refine' Md;first|refine' Kj|(refine' Kg;refine' Ad<;>intro O)));all_goals (refine' Ld)
                   all_goals
                    first
                    | (refine' Kf;all_goals (refine Qm ?_;have hX:=zw (m:=m) (s:=Kc h g fr inp out fu) (x:=x) V hv D5;refine' O5);all_goals (exact Aw))
                    | (refine' Kd;refine' Ko)
                   refine Qm ?_;have hX:=cH (m:=m) (s:=Kc h g fr inp out fu) (x:=x) V hv V (show (h.get v0 x.k).2=0 by omega);refine' OH;refine KO Z [_,_,_,_] ?_;intro b1 E Z;have Z:St Y _ (O6 (.slice (some ⟨b1,0,none⟩) 1 1) (h.get v0 x.k).1::gX p z fr g N h out L):=D9;refine' Kk (c:=NI (vs:=[(h.get v0 x.k).1]) V C0 Z);rintro v1 E ⟨rfl,tv,Z⟩;refine' KQ;(exact BJ))
              | (refine' Kd
                 refine' Kn;(refine' Ac<;>intro O);all_goals (refine' Kv)
                 all_goals
                  first
                  | (refine' Kf
                     ((refine' Nj;refine KO Z [_] ?_;intro b1 E Z;have Z:St Y _ (sl 3 1 (.slice (some ⟨b1,0,none⟩) 1 1) (Qe [x.b])::gX p z fr g N h out (O6 sv v0::Nx p3 x vr va::L)):=DX;refine' Kk (c:=mq V Z);rintro v1 E (⟨y0,sn,hn0,ho2,rfl,Z⟩|⟨hn0,rfl,Z⟩);all_goals (refine' Sf;refine' P3;refine zD (ci 24 [21,23]) ?_;have Z:=Z.drew;refine' zm;refine' ND;refine' Md;(first|(refine' Kj)|(refine' Kg;refine QA Z vw rfl fd Js Js ?_;intro b3 o3 hel3));refine' N9;(first|(refine' Kj)|(refine' Kg;refine Q9 Z hel3 rfl fd rfl rfl rfl ?_));first|refine' Kj|(refine' Kg;refine' Ad<;>intro O)));all_goals (refine' Po;refine' bK;refine' UP;refine' Mu;(first|(refine' Kj)|(refine' Kg;refine QA Z vw rfl fd Js Js ?_;intro b4 o4 hel4));(first|(refine' Kj)|(refine' Kg;refine NW Z hel4 rfl fd rfl rfl ?_));refine' MD;refine' Mu;(first|(refine' Kj)|(refine' Kg;refine QA Z vw rfl fd Js Js ?_;intro b5 o5 hel5));(first|(refine' Kj)|(refine' Kg;refine NW Z hel5 rfl fd rfl rfl ?_));(first|(refine' Kj)|(refine' Kg;refine' M3 (c:=zq v0 x.k y0 Z fd);rintro v1 E ⟨rfl,Z⟩;have Z:=Z.ns));first|refine' Kj|(refine' Kg;refine' Ad<;>intro O)));all_goals (refine' Ld)
                     all_goals
                      first
                      | (refine' Kf;all_goals (refine Qm ?_;have hX:MS.ins m (Kc h g fr inp out fu) x= .lost:=(by first|exact zx V hv (.inl hn0)|exact zx V hv (.inr V)|exact Xk V hv hn0 (.inr (show h.setC v0 x.k y0≠0 by omega)));refine' O5);all_goals (exact Aw))
                      | (refine' Kd;refine' Ko)
                     refine Qm ?_;have hX:=mr (m:=m) (s:=Kc h g fr inp out fu) (x:=x) V hv hn0 V (show h.setC v0 x.k y0=0 by omega);refine' O5;(exact ⟨_,rfl,HS (fr':=fr) (g':=g) (h':=h.set v0 x.k y0) (out':=out) hX hi (FM N) rfl Z.sp⟩))
                  | (refine' Kd
                     refine' Kn;(refine' Ac<;>intro O);all_goals (refine' Kv)
                     all_goals
                      first
                      | (refine' Kf
                         refine' Nj;refine KO Z [_] ?_;intro b1 E Z;have Z:St Y _ (sl 3 1 (.slice (some ⟨b1,0,none⟩) 1 1) (Qe [x.b])::gX p z fr g N h out (O6 sv v0::Nx p3 x vr va::L)):=DX;refine' Kk (c:=aI V Z);rintro v1 E (⟨n0,sn,hn0,ho2,rfl,Z⟩|⟨hn0,sn,rfl,Z⟩);all_goals (refine' U0)
                         all_goals
                          first
                          | (refine' Kf;refine Qm ?_;have hX:=tz (m:=m) (s:=Kc h g fr inp out fu) (x:=x) V hv hn0;refine' O5;(exact Aw))
                          | (refine' Kd;refine' Ko)
                         refine Qm ?_;refine NU 9 13 Jk ?_ ?_
                         · skip
                           refine zC [(0,none),(1,none),(2,none),(3,none),(4,none),(5,none),(6,none),(7,none),(8,none),(9,some none),(10,none),(11,none),(12,none),(13,some (some [])),(14,some (some [])),(15,some none)] ?_;have Z:=Z.drew;refine' NT;refine' Oq;refine' O0;refine QA Z vw rfl fd Js Js ?_;intro b3 o3 hel3;refine' Ku;refine NW Z hel3 rfl fd rfl rfl ?_;refine' Mm;refine QA Z vw rfl fd Js Js ?_;intro b4 o4 hel4;refine' Ku;refine QV Z hel4 rfl fd rfl rfl rfl ?_;refine' K8;refine' KZ (c:=oK v0 n0 Z fd);rintro v1 E ⟨rfl,Z⟩;refine' S6;refine' UU;intro p17 E Z;refine' zt;refine ⟨fun _ h=>(ET h).elim,?_⟩;refine' Py;refine On Z rfl rfl Jr fd Js (TV _) Jr ?_;intro E Z;have Z:=Z.ns;refine' S7;refine' MN;have Z:St Y _ (gX p z fr g N h out (O6 sv v0::blk p17 182 (h.get v0 n0).1.cells::Nx p3 x vr va::L)):=Z.sp;have hX:=mu (m:=m) (s:=Kc h g fr inp out fu) (x:=x) V hv hn0;refine' NH;refine QA Z vw rfl fd Js Js ?_;intro b5 o5 hel5;refine NW Z hel5 rfl fd rfl rfl ?_;refine' zm;refine' KZ (c:=oM (v:=v0) (e:=(h.get v0 n0).2) (show St Y _ (gX p z fr g N h out _) from Z));rintro v1 E (⟨hk4,he,rfl,Z⟩|⟨hk4,he,rfl,Z⟩|⟨he,rfl,Z⟩);all_goals (refine' L6;refine' Y4;refine' zn)
                           all_goals
                            first
                            | (refine' Kf;all_goals (refine' Rj);all_goals ((exact Ah)))
                            | (refine' Kd;refine' Ko)
                           refine' RK;refine KO Z [_,_,_,_] ?_;intro b1 E Z;have Z:St Y _ (O6 (.slice (some ⟨b1,0,none⟩) 1 1) (h.get v0 n0).1::gX p z fr g N h out L):=Eo;refine' Kk (c:=NI (vs:=[(h.get v0 n0).1]) V C0 Z);rintro v1 E ⟨rfl,tv,Z⟩;refine' KQ;(exact BR)
                         · skip
                           refine zC [(0,none),(1,none),(2,none),(3,none),(4,none),(5,none),(6,none),(7,none),(8,none),(13,some (some [5,8])),(9,some none),(10,none),(11,none),(12,none),(14,some (some [])),(15,some none)] ?_;have Z:=Z.drew;refine' NT;refine' Oq;refine' O0;refine QA Z vw rfl fd Js Js ?_;intro b3 o3 hel3;refine' Ku;refine NW Z hel3 rfl fd rfl rfl ?_;refine' Mm;refine QA Z vw rfl fd Js Js ?_;intro b4 o4 hel4;refine' Ku;refine QV Z hel4 rfl fd rfl rfl rfl ?_;refine' UU;intro p17 E Z;refine' zt;refine ⟨EN.2 ⟨(by (exact tt Z hel3 rfl fd rfl rfl)),EN.2 ⟨(by (exact YA (j:=0) Z hel4 rfl fd rfl rfl rfl)),fun _ h=>(ET h).elim⟩⟩,?_⟩;refine' Lg;refine' KZ (c:=oK v0 n0 Z fd);rintro v1 E ⟨rfl,Z⟩;refine' S6;refine' Lh;refine On Z rfl rfl Jr fd Js (TV _) Jr ?_;intro E Z;have Z:=Z.ns;refine' S7;refine' MN;have Z:St Y _ (gX p z fr g N h out (O6 sv v0::blk p17 182 (h.get v0 n0).1.cells::Nx p3 x vr va::L)):=Z.sp;have hX:=mu (m:=m) (s:=Kc h g fr inp out fu) (x:=x) V hv hn0;refine' NH;refine QA Z vw rfl fd Js Js ?_;intro b5 o5 hel5;refine NW Z hel5 rfl fd rfl rfl ?_;refine' zm;refine' KZ (c:=oM (v:=v0) (e:=(h.get v0 n0).2) (show St Y _ (gX p z fr g N h out _) from Z));rintro v1 E (⟨hk4,he,rfl,Z⟩|⟨hk4,he,rfl,Z⟩|⟨he,rfl,Z⟩);all_goals (refine' L6;refine' Y4;refine' zn)
                           all_goals
                            first
                            | (refine' Kf;all_goals (refine' Rj);all_goals ((exact Ah)))
                            | (refine' Kd;refine' Ko)
                           refine' RK;refine KO Z [_,_,_,_] ?_;intro b1 E Z;have Z:St Y _ (O6 (.slice (some ⟨b1,0,none⟩) 1 1) (h.get v0 n0).1::gX p z fr g N h out L):=Eo;refine' Kk (c:=NI (vs:=[(h.get v0 n0).1]) V C0 Z);rintro v1 E ⟨rfl,tv,Z⟩;refine' KQ;(exact BR))
                      | (refine' Kd
                         refine' Kn;(refine' Ac<;>intro O);all_goals (refine' Kv)
                         all_goals
                          first
                          | (refine' Kf
                             (refine' Nj;refine' KJ;refine vT Z [_,_] ?_;intro b1 E Z;have Z:St Y _ (sl 3 1 (.slice (some ⟨b1,0,none⟩) 2 2) (Qe [x.b,x.c])::gX p z fr g N h out (O6 sv v0::Nx p3 x vr va::L)):=(by have Z:=Fz (T:=3) (es:=1) (css:=Qe [x.b,x.c]) Z rfl (by simp [Qe]) rfl;exact Aj);refine' Kk (c:=cG V Z);rintro v1 E (⟨n0,c0,sn,hn0,hc0,ho2,rfl,Z⟩|⟨hn0,sn,rfl,Z⟩);all_goals (refine' Sf;refine' Ou;refine' ND;refine' Md;(first|(refine' Kj)|(refine' Kg;refine QA Z vw rfl fd Js Js ?_;intro b3 o3 hel3));refine' N9;(first|(refine' Kj)|(refine' Kg;refine Q9 Z hel3 rfl fd rfl rfl rfl ?_));first|refine' Kj|(refine' Kg;refine' Ad<;>intro O)));all_goals (refine' Ld)
                             all_goals
                              first
                              | (refine' Kf;all_goals (refine Qm ?_;have hX:MS.ins m (Kc h g fr inp out fu) x= .lost:=(by first|exact mv V hv hn0|exact (cI V hv hn0 hc0).trans (fj V));refine' O5);all_goals (exact Aw))
                              | (refine' Kd;refine' Ko)
                             (refine Qm ?_;refine zC [(0,none),(1,none),(2,none),(3,none),(4,none),(5,none),(6,none),(7,none),(8,none),(9,none),(10,none),(11,none),(12,none),(13,none),(14,none),(15,none),(16,none),(17,some (some [3])),(18,some none),(19,some none)] ?_;have Z:=Z.drew;refine' OI;refine QA Z vw rfl fd Js Js ?_;intro b4 o4 hel4;refine' Ku;refine NW Z hel4 rfl fd rfl rfl ?_;refine' Mm;refine' Nc;refine' Oq;refine' O0;refine QA Z vw rfl fd Js Js ?_;intro b5 o5 hel5;refine' Ku;refine NW Z hel5 rfl fd rfl rfl ?_;refine' Mm;refine QA Z vw rfl fd Js Js ?_;intro b6 o6 hel6;refine' Ku;refine QV Z hel6 rfl fd rfl rfl rfl ?_;refine' Mm;refine QA Z vw rfl fd Js Js ?_;intro b7 o7 hel7;refine' Ku;refine QV Z hel7 rfl fd rfl rfl rfl ?_;refine' Ku;refine M8 [_,_,_,_] ?_;refine' Lh;refine' M3 (c:=zq v0 n0 (KE c0) Z fd);rintro v1 E ⟨rfl,Z⟩;have Z:=Z.ns;refine' zt;refine ⟨EN.2 ⟨(by (exact tt Z hel4 rfl fd rfl rfl)),fun _ h=>(ET h).elim⟩,?_⟩;refine' Lg;refine' KZ (c:=oM (v:=v0) (e:=h.setC v0 n0 (KE c0)) (show St Y _ (gX p z fr g N (h.set v0 n0 (KE c0)) out _) from Z));have hX:=cI (m:=m) (s:=Kc h g fr inp out fu) (x:=x) V hv hn0 hc0;rintro v1 E (⟨hk4,he,rfl,Z⟩|⟨hk4,he,rfl,Z⟩|⟨he,rfl,Z⟩);all_goals (refine' Oa;refine' Pg));all_goals (first|(first|exact ⟨_,rfl,Hy (hX.trans (kU he)) Z fun _ _ Z=>Z.sp⟩|exact ⟨_,rfl,HS (fr':=fr) (g':=g) (h':=h.set v0 n0 (KE c0)) (out':=out) (hX.trans (ZD hk4 he)) hi (FM N) rfl Z.sp⟩)|(rw [bY (by rw [he];decide)] at Z;exact ⟨_,rfl,HM (fr':=fr) (g':=g) (N':=N) (hX.trans (kT hk4 he)) (FM N) rfl Z.sp⟩)))
                          | (refine' Kd;refine' Ko)
                         refine Qm ?_;refine zD (ci 12 [6,11]) ?_;have Z:=Z.drew;refine' zm;refine' LF;refine' zm;refine QA Z vw rfl fd Js Js ?_;intro b3 o3 hel3;refine NW Z hel3 rfl fd rfl rfl ?_;refine' Kk (c:=aD v0 Z fd);rintro v1 E ⟨rfl,Z⟩;refine' Sf;refine' Ou;refine' zm;refine QA Z vw rfl fd Js Js ?_;intro b5 o5 hel5;refine NW Z hel5 rfl fd rfl rfl ?_;refine' zm;refine' KZ (c:=oM (v:=v0) (e:=(h.len v0).2) (show St Y _ (gX p z fr g N h out _) from Z));have hX:=mw (m:=m) (s:=Kc h g fr inp out fu) (x:=x) V hv;rintro v1 E (⟨hk4,he,rfl,Z⟩|⟨hk4,he,rfl,Z⟩|⟨he,rfl,Z⟩);all_goals (refine' L6;refine' Y4;refine' zn)
                         all_goals
                          first
                          | (refine' Kf;all_goals (refine' Rj);all_goals ((exact Ah)))
                          | (refine' Kd;refine' Ko)
                         refine' KW;refine M8 [_,_,_,_] ?_;refine KO Z [_,_,_,_] ?_;intro b1 E Z;have Z:St Y _ (O6 (.slice (some ⟨b1,0,none⟩) 1 1) (KE (h.len v0).1)::gX p z fr g N h out L):=(by have Z:=Fz (T:=182) (es:=4) (css:=[KE (h.len v0).1].map Val.cells) Z rfl (by simp [Val.cells]) rfl;exact Aj);refine' Kk (c:=NI (vs:=[KE (h.len v0).1]) V C0 Z);rintro v1 E ⟨rfl,tv,Z⟩;refine' KQ;(exact ⟨_,rfl,HS (fr':=fr) (g':=g.push tv [KE (h.len v0).1]) (h':=h) (out':=out) (hX.trans (ZD hk4 he)) hi (FM N) rfl Z.sp⟩)))))))
end
end Go.Proofs.YteflkifmgnpbhaaGreat
namespace Go.Lir
def Mh (n:Int):Prop:=-9223372036854775808≤n∧n≤9223372036854775807
theorem my (n:Int):wr n=if n % 18446744073709551616≥9223372036854775808 then n % 18446744073709551616 - 18446744073709551616 else n % 18446744073709551616:=by
 unfold wr IntKind.wrap;simp [IntKind.bits,IntKind.signed]
theorem zz (n:Int):wr n=Int.bmod n (2 ^ 64):=by
 rw [my,Int.bmod_def];have e:((2 ^ 64:Nat):Int)=18446744073709551616:=rfl;rw [e];split<;>split<;>omega
theorem mz (h:Mh n):wr n=n:=cV h.1 h.2
theorem tA (n:Int):Mh (wr n):=by
 unfold Mh;rw [my];split<;>omega
theorem gI (a b c:Int)(h:∃q,a=b+18446744073709551616*q):wr (a+c)=wr (b+c):=by
 obtain ⟨q,rfl⟩:=h;rw [my,my];have:(b+18446744073709551616*q+c) % 18446744073709551616=(b+c) % 18446744073709551616:=CP;rw [this]
theorem Xm (n:Int):∃q,wr n=n+18446744073709551616*q:=by
 rw [my];split
 · exact ⟨-(n / 18446744073709551616) - 1,V⟩
 · exact ⟨-(n / 18446744073709551616),V⟩
theorem Xn (h:∃q,a=b+18446744073709551616*q):wr a=wr b:=by
 have:=gI a b 0 h
 simpa using this
theorem Qh3 (hb:Mh b)(h0:b≠0):wr (a - wr (wr (a.tdiv b)*b))=a.tmod b:=by
 have e:a.tmod b=a - a.tdiv b*b:=by have:=Int.mul_tdiv_add_tmod a b;rw [Int.mul_comm] at this;omega
 have hin:Mh (a.tmod b):=by
  have I:=Int.natAbs_tmod a b;have M:=IP a.natAbs (show b.natAbs>0 by omega);unfold Mh at*;omega
 obtain ⟨q1,I⟩:=Xm (a.tdiv b);obtain ⟨q2,M⟩:=Xm (wr (a.tdiv b)*b);rw [←mz hin,e];refine Xn ⟨-(q1*b) - q2,?_⟩;rw [M,I];rw [Int.add_mul,Int.mul_sub,Int.mul_neg,Int.mul_assoc];omega

theorem QgZ {n:Nat}(x y:BitVec n):(x|||y) - (x &&& y)=x ^^^ y:=by
 have I:(x ^^^ y) &&& (x &&& y)=0#n:=by
  ext i hi
  simp;cases x[i]<;>cases y[i]<;>simp
 have M:(x ^^^ y)+(x &&& y)=(x ^^^ y)|||(x &&& y):=BitVec.add_eq_or_of_and_eq_zero _ _ I
 have h3:(x ^^^ y)|||(x &&& y)=x|||y:=by
  ext i hi
  simp;cases x[i]<;>cases y[i]<;>simp
 rw [←h3,←M,BitVec.add_sub_cancel]

theorem tC (r:BitVec 64):IntKind.i64.wrap r.toNat=r.toInt:=by
 show wr _=_;rw [zz,BitVec.toInt_eq_toNat_bmod]

theorem QhF (a b:Int):wr (M0 .or .i64 a b - M0 .and .i64 a b)=M0 .xor .i64 a b:=by
 unfold M0;simp only [];have e1:=tC (BitVec.ofInt 64 a|||BitVec.ofInt 64 b);have e2:=tC (BitVec.ofInt 64 a &&& BitVec.ofInt 64 b);have e3:=tC (BitVec.ofInt 64 a ^^^ BitVec.ofInt 64 b);refine IM (congrArg wr (congr (congrArg _ e1) e2)) (IM ?_ e3.symm);rw [←QgZ,BitVec.toInt_sub,zz]
theorem gJ (k a b:Int):Mh (Lk k a b).1:=by
 have h0:Mh 0:=(by unfold Mh;omega);have I:Mh 1:=by unfold Mh;omega
 have hd:Mh (Oe a b).1:=by
  unfold Oe;split
  · exact h0
  · split<;>exact tA _
 unfold Lk
 repeat' split
 all_goals first|exact tA _|exact h0|exact I|exact hd|(unfold M0;exact tA _)|(simp;done)
end Go.Lir
namespace Go.Proofs.YteflkifmgnpbhaaGreat
open Go.Lir
attribute [local irreducible] LC.wp Q0 Qp Qk KN Qw LO.wp Q6 Calls
theorem gK (k a b : Int)(ha :Mh a)(hb:Mh b)(w:World):Ka Tryz.prog Vb [.int .i64 k, .int .i64 a, .int .i64 b] w fun v B=>v= .tuple #[.int .i64 (Lk k a b).1, .bool (Lk k a b).2]∧B=w:=by
 have hb':=hb;have ha':=ha;unfold Mh at ha' hb';have hm:=fun h=>Qh3 (a:=a) hb h;have hx:=QhF a b
 have hd:b≠0→Oe a b=(wr (a.tdiv b),true):=by
  intro h;unfold Oe;rw [Qin h];split
  · rename_i I;subst I;rw [Int.tdiv_neg,Int.tdiv_one,Int.zero_sub]
  · rfl
 ((have g4:b≠0→Lk 4 a b=(wr (a.tdiv b),true):=fun h=>by simp [Lk,hd h]);have g5:b≠0→Lk 5 a b=(a.tmod b,true):=fun h=>by simp [Lk,hd h,hm h]);have z4:b=0→Lk 4 a b=(0,false):=(by rintro rfl;rfl);have z5:b=0→Lk 5 a b=(0,false):=(by rintro rfl;rfl);have e4:Lk 4 (-9223372036854775808) (-1)=(-9223372036854775808,true):=(by decide);have e5:Lk 5 (-9223372036854775808) (-1)=(0,true):=(by decide);have g9:Lk 9 a b=(wr (M0 .or .i64 a b - M0 .and .i64 a b),true):=(by rw [hx];rfl);refine Kl Kh Tryz.func122 ?_;refine' N0;(repeat (refine Q4 ?_));refine' NO;(repeat (refine Q4 ?_));refine' Lb;refine Lf ?_;(repeat (refine Q4 ?_));refine' PS;refine' Kn;(refine' Ac<;>intro O);all_goals (refine' LK;(repeat (refine Q4 ?_)))
 all_goals
  first
  | (refine' Kf;refine' KW;refine dd rfl rfl ?_;refine' O3;(repeat (refine Q4 ?_));refine' Lq;(refine ⟨_,rfl,?_,rfl⟩;first|(rw [‹a=_›,‹b=-1›,‹k=4›,e4])|(rw [‹a=_›,‹b=-1›,‹k=5›,e5])|(rw [‹k=4›,g4 ‹¬b=0›])|(rw [‹k=5›,g5 ‹¬b=0›])|(rw [‹k=4›,z4 ‹b=0›])|(rw [‹k=5›,z5 ‹b=0›])|(rw [‹k=9›,g9])|simp [Lk, *]))
  | (refine' Kd
     refine' Kn;(refine' Ac<;>intro O);all_goals (refine' LK;(repeat (refine Q4 ?_)))
     all_goals
      first
      | (refine' Kf;refine' KW;refine mU rfl rfl ?_;refine' O3;(repeat (refine Q4 ?_));refine' Lq;(refine ⟨_,rfl,?_,rfl⟩;first|(rw [‹a=_›,‹b=-1›,‹k=4›,e4])|(rw [‹a=_›,‹b=-1›,‹k=5›,e5])|(rw [‹k=4›,g4 ‹¬b=0›])|(rw [‹k=5›,g5 ‹¬b=0›])|(rw [‹k=4›,z4 ‹b=0›])|(rw [‹k=5›,z5 ‹b=0›])|(rw [‹k=9›,g9])|simp [Lk, *]))
      | (refine' Kd
         refine' Kn;(refine' Ac<;>intro O);all_goals (refine' LK;(repeat (refine Q4 ?_)))
         all_goals
          first
          | (refine' Kf;refine' KW;refine px rfl rfl ?_;refine' O3;(repeat (refine Q4 ?_));refine' Lq;(refine ⟨_,rfl,?_,rfl⟩;first|(rw [‹a=_›,‹b=-1›,‹k=4›,e4])|(rw [‹a=_›,‹b=-1›,‹k=5›,e5])|(rw [‹k=4›,g4 ‹¬b=0›])|(rw [‹k=5›,g5 ‹¬b=0›])|(rw [‹k=4›,z4 ‹b=0›])|(rw [‹k=5›,z5 ‹b=0›])|(rw [‹k=9›,g9])|simp [Lk, *]))
          | (refine' Kd
             refine' P2;(refine' Ac<;>intro O);all_goals (refine' LK;(repeat (refine Q4 ?_)))
             all_goals
              first
              | (refine' Kf;refine' N7;(repeat (refine Q4 ?_)))
              | (refine' Kd;refine' Lm;(refine' Ac<;>intro O);all_goals (refine' zm);all_goals (refine Lf ?_;(repeat (refine Q4 ?_))))
             all_goals
              first
              | (refine' Kf
                 all_goals (refine' Lb;refine' Ac<;>intro O);all_goals (refine Lf ?_;(repeat (refine Q4 ?_)))
                 all_goals
                  first
                  | (refine' Kf;all_goals (refine' N0;(repeat (refine Q4 ?_));refine' Lq);all_goals (refine ⟨_,rfl,?_,rfl⟩;first|(rw [‹a=_›,‹b=-1›,‹k=4›,e4])|(rw [‹a=_›,‹b=-1›,‹k=5›,e5])|(rw [‹k=4›,g4 ‹¬b=0›])|(rw [‹k=5›,g5 ‹¬b=0›])|(rw [‹k=4›,z4 ‹b=0›])|(rw [‹k=5›,z5 ‹b=0›])|(rw [‹k=9›,g9])|simp [Lk, *]))
                  | (refine' Kd;all_goals (refine' N7;(repeat (refine Q4 ?_))))
                 (all_goals (refine' Lb;refine' Ac<;>intro O);all_goals (refine' Md;first|refine' Kj|(refine' Kg;refine' Ac<;>intro O)));all_goals ((first|refine Tq rfl CO ?_|refine PT rfl CO ?_);refine Lf ?_;(repeat (refine Q4 ?_)))
                 all_goals
                  first
                  | (refine' Kf
                     all_goals (refine' Lb;refine' PG;refine Lf ?_;(repeat (refine Q4 ?_)))
                     all_goals
                      first
                      | (refine' Kf;refine' N0;(repeat (refine Q4 ?_));refine' Lq;(refine ⟨_,rfl,?_,rfl⟩;first|(rw [‹a=_›,‹b=-1›,‹k=4›,e4])|(rw [‹a=_›,‹b=-1›,‹k=5›,e5])|(rw [‹k=4›,g4 ‹¬b=0›])|(rw [‹k=5›,g5 ‹¬b=0›])|(rw [‹k=4›,z4 ‹b=0›])|(rw [‹k=5›,z5 ‹b=0›])|(rw [‹k=9›,g9])|simp [Lk, *]))
                      | (refine' Kd;refine' N7;(repeat (refine Q4 ?_)))
                     all_goals (refine' N0;(repeat (refine Q4 ?_));refine' Lq);all_goals (refine ⟨_,rfl,?_,rfl⟩;first|(rw [‹a=_›,‹b=-1›,‹k=4›,e4])|(rw [‹a=_›,‹b=-1›,‹k=5›,e5])|(rw [‹k=4›,g4 ‹¬b=0›])|(rw [‹k=5›,g5 ‹¬b=0›])|(rw [‹k=4›,z4 ‹b=0›])|(rw [‹k=5›,z5 ‹b=0›])|(rw [‹k=9›,g9])|simp [Lk, *]))
                  | (refine' Kd;all_goals (refine' N7;(repeat (refine Q4 ?_))))
                 all_goals (refine' Lb;refine' PG;refine Lf ?_;(repeat (refine Q4 ?_)))
                 all_goals
                  first
                  | (refine' Kf;all_goals (refine' KW;refine bo rfl rfl V ?_;refine' O3;(repeat (refine Q4 ?_));refine' Lq);all_goals (refine ⟨_,rfl,?_,rfl⟩;first|(rw [‹a=_›,‹b=-1›,‹k=4›,e4])|(rw [‹a=_›,‹b=-1›,‹k=5›,e5])|(rw [‹k=4›,g4 ‹¬b=0›])|(rw [‹k=5›,g5 ‹¬b=0›])|(rw [‹k=4›,z4 ‹b=0›])|(rw [‹k=5›,z5 ‹b=0›])|(rw [‹k=9›,g9])|simp [Lk, *]))
                  | (refine' Kd;all_goals (refine' N7;(repeat (refine Q4 ?_))))
                 all_goals (refine' KW;refine jT rfl rfl V ?_;refine' O3;(repeat (refine Q4 ?_));refine' Lq);all_goals (refine ⟨_,rfl,?_,rfl⟩;first|(rw [‹a=_›,‹b=-1›,‹k=4›,e4])|(rw [‹a=_›,‹b=-1›,‹k=5›,e5])|(rw [‹k=4›,g4 ‹¬b=0›])|(rw [‹k=5›,g5 ‹¬b=0›])|(rw [‹k=4›,z4 ‹b=0›])|(rw [‹k=5›,z5 ‹b=0›])|(rw [‹k=9›,g9])|simp [Lk, *]))
              | (refine' Kd
                 refine' Kn;(refine' Ac<;>intro O);all_goals (refine' LK;(repeat (refine Q4 ?_)))
                 all_goals
                  first
                  | (refine' Kf
                     refine' RH;(refine' Ae<;>intro O);all_goals (refine Lf ?_;(repeat (refine Q4 ?_)))
                     all_goals
                      first
                      | (refine' Kf;refine' Lp;refine Lf ?_;(repeat (refine Q4 ?_)))
                      | (refine' Kd;refine' N7;(repeat (refine Q4 ?_)))
                     all_goals (refine' KW;refine' LK;(repeat (refine Q4 ?_));refine' Lq);all_goals (refine ⟨_,rfl,?_,rfl⟩;first|(rw [‹a=_›,‹b=-1›,‹k=4›,e4])|(rw [‹a=_›,‹b=-1›,‹k=5›,e5])|(rw [‹k=4›,g4 ‹¬b=0›])|(rw [‹k=5›,g5 ‹¬b=0›])|(rw [‹k=4›,z4 ‹b=0›])|(rw [‹k=5›,z5 ‹b=0›])|(rw [‹k=9›,g9])|simp [Lk, *]))
                  | (refine' Kd
                     refine' Kn;(refine' Ac<;>intro O);all_goals (refine' LK;(repeat (refine Q4 ?_)))
                     all_goals
                      first
                      | (refine' Kf
                         refine' RH;(refine' Ac<;>intro O);all_goals (refine Lf ?_;(repeat (refine Q4 ?_)))
                         all_goals
                          first
                          | (refine' Kf;refine' Lp;refine Lf ?_;(repeat (refine Q4 ?_)))
                          | (refine' Kd;refine' N7;(repeat (refine Q4 ?_)))
                         all_goals (refine' KW;refine' LK;(repeat (refine Q4 ?_));refine' Lq);all_goals (refine ⟨_,rfl,?_,rfl⟩;first|(rw [‹a=_›,‹b=-1›,‹k=4›,e4])|(rw [‹a=_›,‹b=-1›,‹k=5›,e5])|(rw [‹k=4›,g4 ‹¬b=0›])|(rw [‹k=5›,g5 ‹¬b=0›])|(rw [‹k=4›,z4 ‹b=0›])|(rw [‹k=5›,z5 ‹b=0›])|(rw [‹k=9›,g9])|simp [Lk, *]))
                      | (refine' Kd
                         refine' Kn;(refine' Ac<;>intro O);all_goals (refine' LK;(repeat (refine Q4 ?_)))
                         all_goals
                          first
                          | (refine' Kf;refine' KW;refine T5 rfl rfl ?_;refine' O3;(repeat (refine Q4 ?_));refine' Lq;(refine ⟨_,rfl,?_,rfl⟩;first|(rw [‹a=_›,‹b=-1›,‹k=4›,e4])|(rw [‹a=_›,‹b=-1›,‹k=5›,e5])|(rw [‹k=4›,g4 ‹¬b=0›])|(rw [‹k=5›,g5 ‹¬b=0›])|(rw [‹k=4›,z4 ‹b=0›])|(rw [‹k=5›,z5 ‹b=0›])|(rw [‹k=9›,g9])|simp [Lk, *]))
                          | (refine' Kd
                             refine' Kn;(refine' Ac<;>intro O);all_goals (refine' LK;(repeat (refine Q4 ?_)))
                             all_goals
                              first
                              | (refine' Kf;refine' KW;refine py rfl rfl ?_;refine' Me;refine T5 rfl rfl ?_;refine mU rfl rfl ?_;refine' O3;(repeat (refine Q4 ?_));refine' Lq;(refine ⟨_,rfl,?_,rfl⟩;first|(rw [‹a=_›,‹b=-1›,‹k=4›,e4])|(rw [‹a=_›,‹b=-1›,‹k=5›,e5])|(rw [‹k=4›,g4 ‹¬b=0›])|(rw [‹k=5›,g5 ‹¬b=0›])|(rw [‹k=4›,z4 ‹b=0›])|(rw [‹k=5›,z5 ‹b=0›])|(rw [‹k=9›,g9])|simp [Lk, *]))
                              | (refine' Kd;refine' Ko))))))))
 refine' N0;(repeat (refine Q4 ?_));refine' NB;(repeat (refine' NC));refine' XM;(refine ⟨_,rfl,?_,rfl⟩;first|(rw [‹a=_›,‹b=-1›,‹k=4›,e4])|(rw [‹a=_›,‹b=-1›,‹k=5›,e5])|(rw [‹k=4›,g4 ‹¬b=0›])|(rw [‹k=5›,g5 ‹¬b=0›])|(rw [‹k=4›,z4 ‹b=0›])|(rw [‹k=5›,z5 ‹b=0›])|(rw [‹k=9›,g9])|simp [Lk, *])
theorem gM {k:Int}(ha:Mh a)(hb:Mh b)(Z:St Y w L):Ka Tryz.prog Vb [.int .i64 k, .int .i64 a, .int .i64 b] w fun v B=>v= .tuple #[.int .i64 (Lk k a b).1, .bool (Lk k a b).2]∧St Y B L:=
 (gK k a b ha hb w).mono fun _ _ ⟨I,M⟩=>⟨I,by rw [M];exact Z⟩
end Go.Proofs.YteflkifmgnpbhaaGreat
namespace Go.Lir
section
variable {m:Module}{s:MS}{x:Ins}
theorem tD (M:x.op=2)(hn:s.g.num x.a=none∨s.g.num x.b=none):s.ins m x= .lost:=by
 rw [nY M]
 cases ha:s.g.num x.a with
 | none=>rfl
 | some n=>rw [Q1 rfl,Qu (hn.resolve_left (by rw [ha];exact fun h=>by cases h))]
theorem tE (M:x.op=2)(ha:s.g.num x.a=some a)(hb:s.g.num x.b=some b)(hd:(Lk x.k a b).2=false):s.ins m x= .halt 1:=by rw [nY M,Q1 ha,Q1 hb,Qip hd]
theorem tF (M:x.op=2)(ha:s.g.num x.a=some a)(hb:s.g.num x.b=some b)(hd:(Lk x.k a b).2=true):s.ins m x= .go (s.put [KE (Lk x.k a b).1]):=by rw [nY M,Q1 ha,Q1 hb,Qin (by rw [hd];decide)]
end
end Go.Lir
namespace Go.Proofs.YteflkifmgnpbhaaGreat
open Go.Lir
attribute [local irreducible] LC.wp Q0 Qp Qk KN Qw LO.wp Q6 Calls
section
variable {Y:Cx}{w:World}{L:List Res}{p N:Nat}{z:GZ}{fr:List FrmV}{g:FrmV}{h:HpS}{out inp:List Int}{fu:Nat}{m:Module}
theorem gN (Z:St Y w (sl 182 4 g.vv (g.vals.map Val.cells)::sl 3 1 g.rv (Qe g.regs)::KV FrmV.res1 fr::L)):St Y w (KV FrmV.res1 (fr++[g])::L):=
 Hc (f:=FrmV.res1) (x:=g) (G8 Z)
theorem zA:((fr.map FrmV.abs).reverse).length=fr.length:=by rw [GH,EM]
theorem oN:Qe l++[[.int .i64 n]]=Qe (l++[n]):=by unfold Qe;rw [E7];rfl
attribute [local irreducible] Frm.val Frm.num Frm.args Frm.rgs Frm.reg KB MS.ins MS.call HpS.get HpS.set HpS.setC HpS.len HpS.code HpS.put HpS.putV HpS.open HpS.shut HpS.full HpS.openV HpS.can HpS.tuple HpS.arr HpS.arrC HpS.arrV Lk LN
theorem gO (hx:K1.at Y cs x)(hfn:Ks.sl Y z.fn m.funcs)(hi:Kb.sl Y z.iv inp)(hop:1≤x.op∧x.op≤14)(hk:x.op=14→0≤x.k∧x.k<m.funcs.length)(h6:x.regs.length≤100)(h8:x.args.length≤100)(hgi:g.i≤1000)(hf:fr.length≤900)(hn:g.vals.length≤800000)(hrn:g.regs.length≤800000)(hN:N≤99999)(hol:out.length≤2000)(hrg:∀v∈g.vals,Mh v.n)(Z:St Y w (gX p z fr g N h out L)):
 Ka Tryz.prog Qfo [.pointer (some ⟨p,0,none⟩), .agg ⟨cs⟩] w (GQ p z N fu h out ((Kc h g.nx fr inp out fu).ins m x) Y L):=by
 obtain ⟨vr,va,rfl,hr,ha⟩:=QN hx;have hil:=hi.len;have hfl:=hfn.len;have hnn:g.nx.vals.length≤800000:=hn;refine Kl Kh Tryz.func74 ?_;refine' KU;intro p3 E Z;refine' MU;obtain ⟨lv,rv,ho,Z⟩:=Pv (p:=p) (z:=z) (fr:=fr) (g:=g) (N:=N) (h:=h) (out:=out) (L:=Nx p3 x vr va::L) Z.sp;refine' Lp;refine' Kw (c:=SF V Z);rintro v1 E ⟨b9,o9,rfl,hel,Z⟩;refine' LW;refine Q9 Z hel rfl fd (Qc fr g) (Qj fr g) rfl ?_;refine' MJ;rw [show ((g.i:Int)+1)=((g.i+1:Nat):Int) by omega];refine' LW;refine QC Z hel rfl vw fd (Qc fr g) (Qj fr g) V rfl (Sq (g':=g.nx) rfl) ?_;intro w8 Z;have Z:=Z.ns;have Z:St Y _ (gX p z fr g.nx N h out (Nx p3 x vr va::L)):=QK ho Z.sp;refine' LA;refine' L5;refine' P1;refine' Kn;(refine' Ac<;>intro O);all_goals (refine' Kv)
 all_goals
  first
  | (refine' Kf;refine' Nj;refine M8 [_,_,_,_] ?_;refine KO Z [_,_,_,_] ?_;intro b1 E Z;have Z:St Y _ (O6 (.slice (some ⟨b1,0,none⟩) 1 1) (KE x.n)::gX p z fr g.nx N h out L):=(by have Z:=Fz (T:=182) (es:=4) (css:=[KE x.n].map Val.cells) Z rfl (by simp [Val.cells]) rfl;exact Aj);refine' Kk (c:=NI (vs:=[KE x.n]) V C0 Z);rintro v1 E ⟨rfl,tv,Z⟩;have hG:GQ p z N fu h out ((Kc h g.nx fr inp out fu).ins m x) Y L (.int .i64 0) _:=HS (g':=g.nx.push tv [KE x.n]) (VZ V) hi (FM N) rfl Z;refine' KQ;(exact Al))
  | (refine' Kd
     refine' Kn;(refine' Ac<;>intro O);all_goals (refine' Kv)
     all_goals
      first
      | (refine' Kf
         refine' Nj;refine' KJ;refine vT Z [_,_] ?_;intro b1 E Z;have Z:St Y _ (sl 3 1 (.slice (some ⟨b1,0,none⟩) 2 2) (Qe [x.a,x.b])::gX p z fr g.nx N h out (Nx p3 x vr va::L)):=(by have Z:=Fz (T:=3) (es:=1) (css:=Qe [x.a,x.b]) Z rfl (by simp [Qe]) rfl;exact Aj);refine' Kk (c:=cG V Z);rintro v1 E (⟨na,nb,sn,hna,hnb,ho2,rfl,Z⟩|⟨hna,sn,rfl,Z⟩);all_goals (refine' U0)
         all_goals
          first
          | (refine' Kf;refine Qm ?_;have hG:GQ p z N fu h out ((Kc h g.nx fr inp out fu).ins m x) Y L (.int .i64 2) _:=Hy (tD V hna) Z fun _ _ Z=>Z.sp;refine' O5;(exact Al))
          | (refine' Kd;refine' Ko)
         refine Qm ?_;refine zD (ci 14 [8,13]) ?_;have Z:=Z.drew;refine' KJ;refine' zm;refine QA Z vw rfl fd Js Js ?_;intro b2 o2 hel2;refine QV Z hel2 rfl fd rfl rfl rfl ?_;refine' zm;refine QA Z vw rfl fd Js Js ?_;intro b3 o3 hel3;refine QV Z hel3 rfl fd rfl rfl rfl ?_;obtain ⟨v8,hv8,e8⟩:=ti hna;obtain ⟨v7,hv7,e7⟩:=ti hnb;refine' KZ (c:=gM (by rw [←e8];exact hrg v8 hv8) (by rw [←e7];exact hrg v7 hv7) Z);rintro v1 E ⟨rfl,Z⟩;cases hd:(Lk x.k na nb).2;all_goals (refine' U0)
         all_goals
          first
          | (refine' Kf;refine' KX;refine' Kk (c:=OT 1 (show St Y _ (gX p z fr g.nx N h out _) from Z));rintro v1 E ⟨rfl,Z⟩;have hG:GQ p z N fu h out ((Kc h g.nx fr inp out fu).ins m x) Y L (.int .i64 1) _:=HM (fr':=fr) (g':=g.nx) (N':=N) (tE V hna hnb hd) (FM N) rfl Z.sp;refine' KQ;(exact Al))
          | (refine' Kd;refine' Ko)
         refine' KW;refine M8 [_,_,_,_] ?_;refine KO Z [_,_,_,_] ?_;intro b1 E Z;have Z:St Y _ (O6 (.slice (some ⟨b1,0,none⟩) 1 1) (KE (Lk x.k na nb).1)::gX p z fr g.nx N h out L):=(by have Z:=Fz (T:=182) (es:=4) (css:=[KE (Lk x.k na nb).1].map Val.cells) Z rfl (by simp [Val.cells]) rfl;exact Aj);refine' Kk (c:=NI (vs:=[KE (Lk x.k na nb).1]) V C0 Z);rintro v1 E ⟨rfl,tv,Z⟩;have hG:GQ p z N fu h out ((Kc h g.nx fr inp out fu).ins m x) Y L (.int .i64 0) _:=HS (g':=g.nx.push tv [KE (Lk x.k na nb).1]) (tF V hna hnb hd) hi (FM N) rfl Z;refine' KQ;(exact Al))
      | (refine' Kd
         refine' Kn;(refine' Ac<;>intro O);all_goals (refine' Kv)
         all_goals
          first
          | (refine' Kf
             refine' Rm;refine' Kw (c:=Xf (N:=N) (s:=h) V Z fd);rintro v1 E ⟨rfl,Z⟩;have Z:=Z.ns;cases hfu:h.full;all_goals (refine' Rk;intro p8 E Z;refine On Z rfl rfl Jr fd Js (TV _) Jr ?_;intro E Z;have Z:=Z.ns;refine' i7)
             all_goals
              first
              | (refine' Kf;refine' KX;rw [xA hfu] at Z;have Z:St Y _ (gX p z fr g.nx (N+1) h out L):=Z.sp;refine' Kk (c:=OT 6 Z);rintro v1 E ⟨rfl,Z⟩;have hG:GQ p z N fu h out ((Kc h g.nx fr inp out fu).ins m x) Y L (.int .i64 1) _:=HM ((lA V).trans (V0 hfu)) (E6 _) rfl Z;refine' KQ;(exact Al))
              | (refine' Kd;refine' Ko)
             refine Qm ?_;obtain ⟨lv,rv,ho,Z⟩:=Pv (p:=p) (z:=z) (fr:=fr) (g:=g.nx) (N:=N+1) (h:=h.open) (out:=out) (L:=blk p8 182 h.openV.cells::Nx p3 x vr va::L) Z.sp;refine NU 1 9 Jk ?_ ?_
             · skip
               refine NU 3 9 Jk ?_ ?_
               · refine zC [(0,none),(2,none),(7,none),(8,none),(1,some (some [8])),(3,some (some [8])),(4,none),(5,none),(6,none),(9,some (some [6])),(10,some none),(11,none),(12,none),(13,some none)] ?_;have Z:=Z.drew;refine' OI;refine' Ot;refine' Kw (c:=SF V (show St Y _ (gL p z lv h.open.left fr g.nx _) from Z.sp));rintro v1 E ⟨b8,o8,rfl,hel8,Z⟩;refine' Lc;refine' Kw (c:=SF V (show St Y _ (gL p z lv h.open.left fr g.nx _) from Z.sp));rintro v1 E ⟨b7,o7,rfl,hel7,Z⟩;refine' LZ;refine' OL;refine Q9 Z hel7 rfl fd (Qc fr g.nx) (Qj fr g.nx) rfl ?_;refine' Lh;refine KO Z [_] ?_;intro b1 E Z;refine' zt;refine ⟨EN.2 ⟨(by (exact CN)),fun _ h=>(ET h).elim⟩,?_⟩;refine' Lg;refine Mx RQ (.inl Sk) Z vw vw (v:=g.rv) (css:=Qe g.regs) fd (Z.srcB fd Jr CU) CZ ?_;intro v7 w7 Z;have Z:=Z.ns;refine' Ku;refine' Nc;refine' TM;refine QC Z hel8 rfl vw fd (Qc fr g.nx) (Qj fr g.nx) V (Z.oneC (v:=v7) (css:=Qe g.regs++[[.int .i64 h.openV.region]]) fd) (Sq (g':=⟨g.f,g.b,g.i+1,g.vv,g.vals,v7,g.regs++[h.openV.region]⟩) rfl) ?_;intro w8 Z;have Z:=Z.ns;rw [oN] at Z;have Z:St Y _ (gX p z fr ⟨g.f,g.b,g.i+1,g.vv,g.vals,v7,g.regs++[h.openV.region]⟩ (N+1) h.open out (blk p8 182 h.openV.cells::L)):=QK ho Z.sp;refine' K7;refine' RK;refine KO Z [_,_,_,_] ?_;intro b1 E Z;have Z:St Y _ (O6 (.slice (some ⟨b1,0,none⟩) 1 1) h.openV::gX p z fr ⟨g.f,g.b,g.i+1,g.vv,g.vals,v7,g.regs++[h.openV.region]⟩ (N+1) h.open out L):=DD;refine' Kk (c:=NI (vs:=[h.openV]) V C0 Z);rintro v1 E ⟨rfl,tv,Z⟩;have hG:GQ p z N fu h out ((Kc h g.nx fr inp out fu).ins m x) Y L (.int .i64 0) _:=HS ((lA V).trans (ji hfu)) hi (E6 _) rfl Z;refine' KQ;(exact ⟨_,rfl,hG⟩)
               · refine zC [(0,none),(2,none),(7,none),(8,none),(1,some (some [8])),(9,some (some [])),(3,some (some [8])),(4,none),(5,none),(6,none),(10,some none),(11,none),(12,none),(13,some none)] ?_;have Z:=Z.drew;refine' OI;refine' Ot;refine' Kw (c:=SF V (show St Y _ (gL p z lv h.open.left fr g.nx _) from Z.sp));rintro v1 E ⟨b8,o8,rfl,hel8,Z⟩;refine' Lc;refine KO Z [_] ?_;intro b1 E Z;refine' zt;refine ⟨fun _ h=>(ET h).elim,?_⟩;refine' Py;refine' Kw (c:=SF V (show St Y _ (gL p z lv h.open.left fr g.nx _) from Z.sp));rintro v1 E ⟨b7,o7,rfl,hel7,Z⟩;refine' LZ;refine' OL;refine Q9 Z hel7 rfl fd (Qc fr g.nx) (Qj fr g.nx) rfl ?_;refine' K8;refine Mx RQ (.inl Sk) Z vw vw (v:=g.rv) (css:=Qe g.regs) fd (Z.srcB fd Jr CU) CZ ?_;intro v7 w7 Z;have Z:=Z.ns;refine' Ku;refine' Nc;refine' TM;refine QC Z hel8 rfl vw fd (Qc fr g.nx) (Qj fr g.nx) V (Z.oneC (v:=v7) (css:=Qe g.regs++[[.int .i64 h.openV.region]]) fd) (Sq (g':=⟨g.f,g.b,g.i+1,g.vv,g.vals,v7,g.regs++[h.openV.region]⟩) rfl) ?_;intro w8 Z;have Z:=Z.ns;rw [oN] at Z;have Z:St Y _ (gX p z fr ⟨g.f,g.b,g.i+1,g.vv,g.vals,v7,g.regs++[h.openV.region]⟩ (N+1) h.open out (blk p8 182 h.openV.cells::L)):=QK ho Z.sp;refine' K7;refine' RK;refine KO Z [_,_,_,_] ?_;intro b1 E Z;have Z:St Y _ (O6 (.slice (some ⟨b1,0,none⟩) 1 1) h.openV::gX p z fr ⟨g.f,g.b,g.i+1,g.vv,g.vals,v7,g.regs++[h.openV.region]⟩ (N+1) h.open out L):=DD;refine' Kk (c:=NI (vs:=[h.openV]) V C0 Z);rintro v1 E ⟨rfl,tv,Z⟩;have hG:GQ p z N fu h out ((Kc h g.nx fr inp out fu).ins m x) Y L (.int .i64 0) _:=HS ((lA V).trans (ji hfu)) hi (E6 _) rfl Z;refine' KQ;(exact ⟨_,rfl,hG⟩)
             · refine zC [(0,none),(2,none),(7,none),(8,none),(9,some (some [])),(1,some (some [8])),(3,some (some [8])),(4,none),(5,none),(6,none),(10,some none),(11,none),(12,none),(13,some none)] ?_;have Z:=Z.drew;refine' OI;refine' Ot;refine KO Z [_] ?_;intro b1 E Z;refine' zt;refine ⟨fun _ h=>(ET h).elim,?_⟩;refine' Py;refine' Kw (c:=SF V (show St Y _ (gL p z lv h.open.left fr g.nx _) from Z.sp));rintro v1 E ⟨b8,o8,rfl,hel8,Z⟩;refine' Lc;refine' Kw (c:=SF V (show St Y _ (gL p z lv h.open.left fr g.nx _) from Z.sp));rintro v1 E ⟨b7,o7,rfl,hel7,Z⟩;refine' LZ;refine' OL;refine Q9 Z hel7 rfl fd (Qc fr g.nx) (Qj fr g.nx) rfl ?_;refine' K8;refine Mx RQ (.inl Sk) Z vw vw (v:=g.rv) (css:=Qe g.regs) fd (Z.srcB fd Jr CU) CZ ?_;intro v7 w7 Z;have Z:=Z.ns;refine' Ku;refine' Nc;refine' TM;refine QC Z hel8 rfl vw fd (Qc fr g.nx) (Qj fr g.nx) V (Z.oneC (v:=v7) (css:=Qe g.regs++[[.int .i64 h.openV.region]]) fd) (Sq (g':=⟨g.f,g.b,g.i+1,g.vv,g.vals,v7,g.regs++[h.openV.region]⟩) rfl) ?_;intro w8 Z;have Z:=Z.ns;rw [oN] at Z;have Z:St Y _ (gX p z fr ⟨g.f,g.b,g.i+1,g.vv,g.vals,v7,g.regs++[h.openV.region]⟩ (N+1) h.open out (blk p8 182 h.openV.cells::L)):=QK ho Z.sp;refine' K7;refine' RK;refine KO Z [_,_,_,_] ?_;intro b1 E Z;have Z:St Y _ (O6 (.slice (some ⟨b1,0,none⟩) 1 1) h.openV::gX p z fr ⟨g.f,g.b,g.i+1,g.vv,g.vals,v7,g.regs++[h.openV.region]⟩ (N+1) h.open out L):=DD;refine' Kk (c:=NI (vs:=[h.openV]) V C0 Z);rintro v1 E ⟨rfl,tv,Z⟩;have hG:GQ p z N fu h out ((Kc h g.nx fr inp out fu).ins m x) Y L (.int .i64 0) _:=HS ((lA V).trans (ji hfu)) hi (E6 _) rfl Z;refine' KQ;(exact Al))
          | (refine' Kd
             refine' Kn;(refine' Ac<;>intro O);all_goals (refine' Kv)
             all_goals
              first
              | (refine' Kf
                 refine' MN;obtain ⟨lv,rv,ho,Z⟩:=Pv Z;obtain ⟨av,nv,hiv⟩:=E0 hi;refine' P6;refine iG vw hi ?_;(refine' Ac<;>intro O);all_goals (refine' zn)
                 all_goals
                  first
                  | (refine' Kf;refine' KX;have Z:St Y _ (gX p z fr g.nx N h out L):=QK ho Z.sp;refine' Kk (c:=OT 4 Z);rintro v1 E ⟨rfl,Z⟩;have hG:GQ p z N fu h out ((Kc h g.nx fr inp out fu).ins m x) Y L (.int .i64 1) _:=HM ((rX V).trans (lC (FO.1 D0))) (FM N) rfl Z;refine' KQ;(exact Al))
                  | (refine' Kd;refine' Ko)
                 refine Qm ?_;obtain ⟨n0,r0,hir⟩:∃n0 r0,inp=n0::r0:=Hi V;refine' P6;(refine Tx (m:=0) vw rfl hi rfl V ?_;intro b8 o8 cs8 x8 hat8 hx8 he8;rw [hir,Fm] at hx8;cases hx8;obtain rfl:=Qy he8);refine MG Z ?_;refine' Kv;refine' KW;refine' LG;refine iH (l':=1) (h':=inp.length) vw hi rfl rfl rfl ⟨_,rfl⟩ V V ?_;intro v7 hk7;have hk7:Kb.sl Y v7 r0:=DH;have ho7:oneC v7=true:=(by obtain ⟨a7,n7,e7⟩:=E0 hk7;rw [e7];rfl);refine' LF;((refine Lv Z ?_;intro E Z;have Z:=Z.ns));refine' XZ;refine M8 [_,_,_,_] ?_;refine KO Z [_,_,_,_] ?_;intro b1 E Z;have Z:St Y _ (O6 (.slice (some ⟨b1,0,none⟩) 1 1) (KE n0)::gX p (z.upd z.fv v7 z.ov) fr g.nx N h out L):=(by have Z:=Fz (T:=182) (es:=4) (css:=[KE n0].map Val.cells) Z rfl (by simp [Val.cells]) rfl;have Z:St Y _ (gX p (z.upd z.fv v7 z.ov) fr g.nx N h out (O6 (.slice (some ⟨b1,0,none⟩) 1 1) (KE n0)::L)):=QK ho Z.sp;exact Aj);refine' Kk (c:=NI (vs:=[KE n0]) V C0 Z);rintro v1 E ⟨rfl,tv,Z⟩;have hG:GQ p z N fu h out ((Kc h g.nx fr inp out fu).ins m x) Y L (.int .i64 0) _:= .inl ⟨z.fv,v7,z.ov,fr,g.nx.push tv [KE n0],N,h,r0,out,(rX V).trans (lD hir),hk7,FM N,rfl,Z⟩;refine' KQ;(exact Al))
              | (refine' Kd
                 refine' Kn;(refine' Ac<;>intro O);all_goals (refine' Kv)
                 all_goals
                  first
                  | (refine' Kf
                     refine' Nj;refine KO Z [_] ?_;intro b1 E Z;have Z:St Y _ (sl 3 1 (.slice (some ⟨b1,0,none⟩) 1 1) (Qe [x.a])::gX p z fr g.nx N h out (Nx p3 x vr va::L)):=Ec;refine' Kk (c:=aI V Z);rintro v1 E (⟨n0,sn,hn0,ho2,rfl,Z⟩|⟨hn0,sn,rfl,Z⟩);all_goals (refine' U0)
                     all_goals
                      first
                      | (refine' Kf;refine Qm ?_;have hG:GQ p z N fu h out ((Kc h g.nx fr inp out fu).ins m x) Y L (.int .i64 2) _:=Hy ((oi V).trans (Qu hn0)) Z fun _ _ Z=>Z.sp;refine' O5;(exact Al))
                      | (refine' Kd;refine' Ko)
                     refine' MN;obtain ⟨lv,rv,ho,Z⟩:=Pv Z;refine' Lp;refine' O4;refine Qt (n:=out.length) Z vw fd (EM _) ?_;(refine' Ac<;>intro O);all_goals (refine' zn)
                     all_goals
                      first
                      | (refine' Kf;refine' KX;have Z:St Y _ (gX p z fr g.nx N h out L):=QK ho Z.sp;refine' Kk (c:=OT 8 Z);rintro v1 E ⟨rfl,Z⟩;have hG:GQ p z N fu h out ((Kc h g.nx fr inp out fu).ins m x) Y L (.int .i64 1) _:=HM ((oi V).trans ((Q1 hn0).trans (cj DV))) (FM N) rfl Z;refine' KQ;(exact Al))
                      | (refine' Kd;refine' Ko)
                     refine Qm ?_;refine zC [(0,none),(1,none),(2,none),(3,none),(4,none),(5,none),(6,none),(7,none),(8,none),(9,some (some [5])),(10,some (some [])),(11,none),(12,none),(13,none),(14,some none)] ?_;have Z:=Z.drew;refine' U1;refine' Rl;refine' Mm;refine QA Z vw rfl fd Js Js ?_;intro b2 o2 hel2;refine' Ku;refine QV Z hel2 rfl fd rfl rfl rfl ?_;refine' Lh;refine KO Z [_] ?_;intro b1 E Z;refine' zt;refine ⟨EN.2 ⟨CS,fun _ h=>(ET h).elim⟩,?_⟩;refine' Py;refine Mx Td (.inl Vq) Z vw vw (v:=z.ov) (css:=Qe out) fd (Z.srcB fd Jr CU) CZ ?_;intro v7 w7 Z;have Z:=Z.ns;have ho7:=Z.oneC (v:=v7) (css:=Qe out++[[.int .i64 n0]]) fd;rw [oN] at Z;refine' zt;refine ⟨fun _ h=>(ET h).elim,?_⟩;refine' KS;refine' Nc;refine' Oq;refine' TM;((refine Lv Z ?_;intro E Z;have Z:=Z.ns));refine' K7;refine Qm ?_;have Z:St Y _ (gX p (z.upd z.fv z.iv v7) fr g.nx N h (out++[n0]) L):=QK ho Z.sp;have hG:GQ p z N fu h out ((Kc h g.nx fr inp out fu).ins m x) Y L (.int .i64 0) _:= .inl ⟨z.fv,z.iv,v7,fr,g.nx,N,h,inp,out++[n0],(oi V).trans ((Q1 hn0).trans (ck DZ)),hi,FM N,rfl,Z⟩;refine' O5;(exact Al))
                  | (refine' Kd
                     refine' Kn;(refine' Ac<;>intro O);all_goals (refine' Kv)
                     all_goals
                      first
                      | (refine' Kf
                         (((refine' Nj;refine' Kk (c:=cF V V hr (show St Y _ (gX p z fr g.nx N h out _) from Z));rintro v1 E (⟨rs,sr,hrs,hrl,ho1,rfl,Z⟩|⟨hrs,rfl,Z⟩);all_goals (refine' Sf;refine' L6;refine' KJ;refine' Kk (c:=mn V V ha (show St Y _ (gX p z fr g.nx N h out _) from Z));rintro v1 E (⟨vs,sw,hvs,hvl,ho2,rfl,Z⟩|⟨hvs,rfl,Z⟩)));all_goals (refine' Sf;refine' MU;obtain ⟨lv,rv,ho,Z⟩:=Pv Z;have hk0:=(hk V).1;have hk1:=(hk V).2;refine zC [(0,none),(1,none),(2,none),(3,none),(4,none),(5,none),(6,none),(7,none),(8,none),(9,some (some [4,6,8])),(10,some none)] ?_;have Z:=Z.drew;refine' NT;refine' Oq;refine' TO;refine' zj;intro b1 o1 cs1 x1 hat1 hx1 he1;obtain ⟨vp1,vr1,vb1,rfl,hp1,hr1,hb1⟩:=Qx he1;have hX:=(xy (m:=m) (s:=Kc h g.nx fr inp out fu) (x:=x) V).trans (VQ hx1);refine' TP;intro p17 E Z;refine' LY;refine Kp Z ?_;intro E Z;have Z:=Z.ns;refine' K7;refine' Lb;refine' ND;refine' Md;refine' Y3;refine' Po;refine' SZ;refine' MD;first|refine' Kj|(refine' Kg;refine' Ad<;>intro O)));all_goals (refine' Po;refine' SZ;refine' MD;refine' ML;first|refine' Kj|(refine' Kg;refine' Ad<;>intro O)));all_goals (refine' Ld)
                         all_goals
                          first
                          | (refine' Kf;all_goals (refine Qm ?_;have hG:GQ p z N fu h out ((Kc h g.nx fr inp out fu).ins m x) Y L (.int .i64 2) _:=Hy (out2:=out) (M:=h) (N2:=N) (fr:=fr) (g:=g.nx) (L':=L) EB (QK ho Z.sp) fun _ _ Z=>Z;refine' O5);all_goals (exact Al))
                          | (refine' Kd;refine' Ko)
                         refine' Lb;refine' LG;refine Qt Z vw fd (Qc fr g.nx) ?_;(refine' Ac<;>intro O);all_goals (refine' zn)
                         all_goals
                          first
                          | (refine' Kf;refine' KX;have Z:St Y _ (gX p z fr g.nx N h out L):=QK ho Z.sp;refine' Kk (c:=OT 5 Z);rintro v1 E ⟨rfl,Z⟩;have hG:GQ p z N fu h out ((Kc h g.nx fr inp out fu).ins m x) Y L (.int .i64 1) _:=HM (hX.trans ((Q1 hrs).trans ((Q1 hvs).trans ((Qin V).trans (Qip (by show ((fr.map FrmV.abs).reverse).length+1=40;rw [zA];omega)))))) (FM N) rfl Z;refine' KQ;(exact Al))
                          | (refine' Kd;refine' Ko)
                         refine Qm ?_;obtain ⟨a1,n1,e1⟩:=Z.shape (v:=sr) (css:=Qe rs) fd;obtain ⟨a2,n2,e2⟩:=Z.shape (v:=sw) (css:=vs.map Val.cells) fd;rw [e1,e2];refine zC [(0,none),(1,none),(2,none),(3,none),(4,none),(5,none),(6,none),(7,none),(8,none),(9,none),(10,some (some [4])),(11,some (some [])),(12,none),(13,none),(14,some none)] ?_;have Z:=Z.drew;refine' U1;refine' NS;refine' Pj;refine' O0;refine PF [_,_,_,_,_] ?_;refine' Lh;refine KO Z [_,_,_,_,_] ?_;intro b1 E Z;refine' Lc;refine Mx QjY (.inl QhT) Z vw vw (v:=z.fv) (css:=Ns fr g.nx) fd (Z.srcB fd Jr DK) Ep ?_;intro v7 w7 Z;have Z:=Z.ns;have ho7:=Z.oneC (v:=v7) fd;refine' LZ;refine' Nc;refine' MT;refine' K8;((refine Lv Z ?_;intro E Z;have Z:=Z.ns));refine' K7;refine Qm ?_;rw [←e1,←e2] at Z;rw [show (Value.int .i64 x.k)= .int .i64 ((x.k.toNat:Nat):Int) by rw [Fi hk0]] at Z;have e9:Ns fr g.nx++[[.int .i64 ((x.k.toNat:Nat):Int), .int .i64 0, .int .i64 0,sw,sr]]=Ns (fr++[g.nx]) ⟨x.k.toNat,0,0,sw,vs,sr,rs⟩:=xw (g':=⟨x.k.toNat,0,0,sw,vs,sr,rs⟩);rw [e9] at Z;have Z:=gN (g:=g.nx) (fr:=fr) (L:=Mg (z.upd v7 z.iv z.ov) p lv h.left::sl 119 5 v7 (Ns (fr++[g.nx]) ⟨x.k.toNat,0,0,sw,vs,sr,rs⟩)::sl 182 4 sw (vs.map Val.cells)::sl 3 1 sr (Qe rs)::sl 131 4 lv (rv.map RgnV.cells)::KV (RgnV.res H1) rv::sl 2 1 z.ov (Qe out)::L) Z.sp;have Z:St Y _ (gX p (z.upd v7 z.iv z.ov) (fr++[g.nx]) ⟨x.k.toNat,0,0,sw,vs,sr,rs⟩ N h out L):=QK ho Z.sp;have hG:GQ p z N fu h out ((Kc h g.nx fr inp out fu).ins m x) Y L (.int .i64 0) _:= .inl ⟨v7,z.iv,z.ov,fr++[g.nx],⟨x.k.toNat,0,0,sw,vs,sr,rs⟩,N,h,inp,out,hX.trans ((Q1 hrs).trans ((Q1 hvs).trans ((Qin V).trans ((Qin (by show¬((fr.map FrmV.abs).reverse).length+1=40;rw [zA];omega)).trans (by rw [xv];rfl))))),hi,FM N,rfl,Z⟩;refine' O5;(exact Al))
                      | (refine' Kd;refine' Ko)))
             refine' RK;refine' Kk (c:=gH (m:=m) (inp:=inp) (fu:=fu) hx hi V h8 V hnn hN (show St Y _ (gX p z fr g.nx N h out L) from Z.sp));intro u9 w9 hG;refine' KQ;(exact Al))))
end
section
variable {Y:Cx}{w:World}{L:List Res}{p N:Nat}{z:GZ}{fr:List FrmV}{g:FrmV}{h:HpS}{out inp:List Int}{fu:Nat}{m:Module}
@[reducible] def FrmV.fb (g:FrmV)(b:Nat):FrmV:=⟨g.f,b,g.i,g.vv,g.vals,g.rv,g.regs⟩
@[reducible] def FrmV.fi (g:FrmV)(i:Nat):FrmV:=⟨g.f,g.b,i,g.vv,g.vals,g.rv,g.regs⟩
@[reducible] def FrmV.fv (g:FrmV)(v:Value)(l:List Val):FrmV:=⟨g.f,g.b,g.i,v,l,g.rv,g.regs⟩
attribute [local irreducible] Frm.val Frm.num Frm.args Frm.rgs Frm.reg
theorem Xo (hx:toR.at Y cs t)(hfn:Ks.sl Y z.fn m.funcs)(hi:Kb.sl Y z.iv inp)(hfx:m.funcs[g.f]?=some f)(hb0:0≤t.block)(hb1:t.block<f.blocks.length)(h6:t.regs.length≤100)(h8:t.args.length≤100)(hf:fr.length≤1000)(Z:St Y w (gX p z fr g N h out L)):
 Ka Tryz.prog QhD [.pointer (some ⟨p,0,none⟩), .agg ⟨cs⟩] w (GQ p z N fu h out ((Kc h g fr inp out fu).to f t) Y L):=by
 (((obtain ⟨vr,va,rfl,hr,ha⟩:=YJ hx;have hfl:=hfn.len;have hgf:=(EJ.1 hfx).1;refine Kl Kh Tryz.func127 ?_;refine' KU;intro p3 E Z;refine' MU;obtain ⟨lv,rv,ho,Z⟩:=Pv (p:=p) (z:=z) (fr:=fr) (g:=g) (N:=N) (h:=h) (out:=out) (L:=blk p3 88 [.int .i64 t.block,vr,va]::L) Z.sp;refine' Lp;refine' Kw (c:=SF hf Z);rintro v1 E ⟨b9,o9,rfl,hel,Z⟩;refine' MU;refine zC [(0,none),(1,none),(2,none),(3,none),(4,none),(5,none),(6,none),(7,none),(8,none),(9,none),(10,none),(11,none),(12,none),(13,none),(14,none),(15,none),(16,some (some [4,8,11,13,15])),(17,some none)] ?_;have Z:=Z.drew;refine' NT;refine' Oq;refine' Pj;refine' OL;refine QV Z hel rfl fd (Qc fr g) (Qj fr g) rfl ?_;refine' Ku;(refine' zi;intro b8 o8 cs8 x8 hat8 hx8 he8;obtain rfl:f=x8:=EP (hfx.symm.trans hx8);obtain ⟨vp8,vr8,vb8,rfl,hp8,hr8,hb8⟩:=Qx he8);refine' Ku;refine' US;refine YY Z ?_;refine' Ku;refine' NS;(refine' zj;intro b1 o1 cs1 x1 hat1 hx1 he1;obtain ⟨vp1,vc1,e1,e2,e3,e4,e5,rfl,hp1,hc1,he11,he12,he13,he14,he15⟩:=PV he1;have hX:=lx (s:=Kc h g fr inp out fu) hx1);refine' TP;(intro p6 E Z);refine' zt;refine ⟨EN.2 ⟨CS,EN.2 ⟨(by (exact BG)),EN.2 ⟨Df,EN.2 ⟨CS,EN.2 ⟨C7,fun _ h=>(ET h).elim⟩⟩⟩⟩⟩,?_⟩;refine' Lg;((refine Kp Z ?_;intro E Z;have Z:=Z.ns));refine' K7;refine' Nj;refine' Kk (c:=cF V hf hr (show St Y _ (gX p z fr g N h out _) from QK ho Z.sp));rintro v1 E (⟨rs,sr,hrs,hrl,ho1,rfl,Z⟩|⟨hrs,rfl,Z⟩);all_goals (refine' Sf;refine' L6;refine' KJ;refine' Kk (c:=mn V hf ha (show St Y _ (gX p z fr g N h out _) from Z));rintro v1 E (⟨vs,sw,hvs,hvl,ho2,rfl,Z⟩|⟨hvs,rfl,Z⟩)));all_goals (refine' Sf;refine' Ou;refine' ND;refine' Md;refine' Y3;refine' Po;refine' SZ;refine' MD;first|refine' Kj|(refine' Kg;refine' Ad<;>intro O)));all_goals (refine' Po;refine' SZ;refine' MD;refine' ML;first|refine' Kj|(refine' Kg;refine' Ad<;>intro O)));all_goals (refine' Ld)
 all_goals
  first
  | (refine' Kf;all_goals (refine Qm ?_;have hG:GQ p z N fu h out ((Kc h g fr inp out fu).to f t) Y L (.int .i64 2) _:=Hy EB Z fun _ _ Z=>Z.sp;refine' O5);all_goals (exact Al))
  | (refine' Kd;refine' Ko)
 refine Qm ?_;obtain ⟨lv,rv,ho,Z⟩:=Pv Z;have eb:Value.int .i64 t.block= .int .i64 ((t.block.toNat:Nat):Int):=(by rw [Fi hb0]);refine' RN;refine' zm;refine' KJ;refine' Me;refine' LW;refine QC Z hel rfl vw fd (Qc fr g) (Qj fr g) V rfl (Sq (g':=g.fb t.block.toNat) (by rw [eb];rfl)) ?_;intro w8 Z;have Z:=Z.ns;refine' LW;refine QC Z hel rfl vw fd (Qc fr (g.fb t.block.toNat)) (Qj fr (g.fb t.block.toNat)) V rfl (Sq (g':=(g.fb t.block.toNat).fi 0) rfl) ?_;intro w8 Z;have Z:=Z.ns;refine' LW;refine QC Z hel rfl vw fd (Qc fr ((g.fb t.block.toNat).fi 0)) (Qj fr ((g.fb t.block.toNat).fi 0)) V ho2 (Sq (g':=((g.fb t.block.toNat).fi 0).fv sw vs) rfl) ?_;intro w8 Z;have Z:=Z.ns;refine' LW;refine QC Z hel rfl vw fd (Qc fr (((g.fb t.block.toNat).fi 0).fv sw vs)) (Qj fr (((g.fb t.block.toNat).fi 0).fv sw vs)) V ho1 (Sq (g':=⟨g.f,t.block.toNat,0,sw,vs,sr,rs⟩) rfl) ?_;intro w8 Z;have Z:=Z.ns;refine' LA;have Z:St Y _ (gX p z fr ⟨g.f,t.block.toNat,0,sw,vs,sr,rs⟩ N h out L):=QK ho Z.sp;have hG:GQ p z N fu h out ((Kc h g fr inp out fu).to f t) Y L (.int .i64 0) _:=HS (hX.trans ((Q1 hrs).trans ((Q1 hvs).trans (Qin V)))) hi (FM N) rfl Z;refine' O5;((exact Al))
end
end Go.Proofs.YteflkifmgnpbhaaGreat
namespace Go.Lir
theorem aK {l:List Val}(h:∀x∈l,x.kind=1):KB l=some (l.map Val.n):=by
 induction l with
 | nil=>rfl
 | cons v l ih=>rw [rV (h v Js),ih fun x hx=>h x Da];rfl
theorem aL {l:List Val}(h:¬∀x∈l,x.kind=1):KB l=none:=by
 induction l with
 | nil=>exact absurd Js h
 | cons v l ih=>
   by_cases hk:v.kind=1
   · rw [rV hk,ih fun M=>h fun x hx=>by rcases E4.1 hx with rfl|hx;(exact hk);exact M x hx];rfl
   · exact VW hk
end Go.Lir
namespace Go.Proofs.YteflkifmgnpbhaaGreat
open Go.Lir
attribute [local irreducible] LC.wp Q0 Qp Qk KN Qw LO.wp Q6 Calls
section
variable {Y:Cx}{w:World}{L:List Res}{p N:Nat}{z:GZ}{fr:List FrmV}{g:FrmV}{h:HpS}{out inp:List Int}{fu:Nat}{m:Module}
theorem GQ.drop {r:Res}(hG:GQ p z N fu h out X Y (r::L) u w):GQ p z N fu h out X Y L u w:=by
 rcases hG with ⟨fv,iv,ov,fr',g',N',h',inp',out',I,M,h3,h4,Z⟩|⟨e,fr',g',N',I,M,h3,Z⟩|⟨l,bv,fr',g',N',I,M,h3,h4,Z⟩|⟨I,M,lv,left,Z⟩
 · exact .inl ⟨fv,iv,ov,fr',g',N',h',inp',out',I,M,h3,h4,Z.sp⟩
 · exact .inr (.inl ⟨e,fr',g',N',I,M,h3,Z.sp⟩)
 · exact .inr (.inr (.inl ⟨l,bv,fr',g',N',I,M,h3,h4,Z.sp⟩))
 · exact .inr (.inr (.inr ⟨I,M,lv,left,Z.sp⟩))
theorem gP {k:FrmV}(Z:St Y w (KV FrmV.res1 (fr++[k])::L)):St Y w (sl 182 4 k.vv (k.vals.map Val.cells)::sl 3 1 k.rv (Qe k.regs)::KV FrmV.res1 fr::L):=by
 have I:=Z.bigOut (i:=0) (k:=fr.length) (x:=k) rfl Js;have M:(fr++[k]).eraseIdx fr.length=fr:=DW;rw [EV,M] at I;exact IJ I
@[reducible] def Tn (b:Nat)(e:Tail)(v1 v2 v3 v4 v5:Value):Res:=blk b 90 [.int .i64 e.op, .int .i64 e.a, .int .i64 e.yes.block,v1,v2, .int .i64 e.no.block,v3,v4,v5]
attribute [local irreducible] Frm.val Frm.num Frm.args Frm.rgs Frm.reg KB MS.to MS.ret GQ
theorem GQ.lost' (hX:X= .lost)(Z:St Y w (gX p z fr g N2 M out2 L'))(hsub:∀lv left,St Y w (Mg z p lv left::L')→St Y w (Mg z p lv left::L)):GQ p z N fu h out X Y L (.int .i64 2) w:=Hy hX Z hsub
abbrev JQ:=@GQ.lost'
theorem gQ {e:Tail}(hx:La.at Y cs e)(hfn:Ks.sl Y z.fn m.funcs)(hi:Kb.sl Y z.iv inp)(hfx:m.funcs[g.f]?=some f)(h8:e.args.length≤100)(hop:e.op=3)(hf:fr.length≤900)(hn:∀x∈fr,x.vals.length≤900000)(Z:St Y w (gX p z fr g N h out L)):
 Ka Tryz.prog wm [.pointer (some ⟨p,0,none⟩), .agg ⟨cs⟩] w (GQ p z N fu h out ((Kc h g fr inp out fu).ret f e) Y L):=by
 (obtain ⟨v1,v2,v3,v4,v5,rfl,k1,k2,k3,k4,k5⟩:=PA hx;have hfl:=hfn.len;have hgf:=(EJ.1 hfx).1;refine Kl Kh Tryz.func75 ?_;refine' KU;intro p3 E Z;refine' OJ;refine' P1;refine Qm ?_;have Z:St Y _ (gX p z fr g N h out (Tn p3 e v1 v2 v3 v4 v5::L)):=Z.sp;refine' Lm;refine' Pk;refine' Kd;refine' Kn;refine' Pk;refine' TG;refine' Nj;refine' Kk (c:=mn V V k5 (show St Y _ (gX p z fr g N h out _) from Z));rintro u1 E (⟨vs,sw,hvs,hvl,ho2,rfl,Z⟩|⟨hvs,rfl,Z⟩);all_goals (refine' Sf;refine' P3;obtain ⟨lv,rv,ho,Z⟩:=Pv Z;refine zC [(0,none),(1,none),(2,none),(3,none),(4,none),(5,none),(6,none),(7,none),(8,none),(9,none),(10,none),(11,some (some [9])),(12,none),(13,none),(14,none),(15,none),(16,none),(17,none),(18,none),(19,none),(20,some none)] ?_;have Z:=Z.drew;refine' Ph;refine' ND;refine' Mm;refine' Mu;refine' Ku;refine' SZ;refine' Ku;refine' Mu;refine' Ku;refine' bK;refine' Ku;refine' UP;refine' Ku;refine' UP;refine' Ku;refine' Y1;refine' Ku;refine' Mu;refine' Lh;(first|(refine' Kj)|(refine' Kg;refine' Kw (c:=SF V (show St Y _ (gL p z lv h.left fr g _) from Z));rintro v9 E ⟨b9,o9,rfl,hel,Z⟩));refine' LZ;refine' bK;refine' Ku;refine' N9;refine' Ku;(first|(refine' Kj)|(refine' Kg;refine QV Z hel rfl fd (Qc fr g) (Qj fr g) rfl ?_));refine' Ku;(first|(refine' Kj)|(refine' Kg;refine' zi;intro b8 o8 cs8 x8 hat8 hx8 he8;obtain rfl:f=x8:=EP (hfx.symm.trans hx8);obtain ⟨vp8,vr8,vb8,rfl,hp8,hr8,hb8⟩:=Qx he8));refine' Ku;refine' N9;refine' Ku;refine' nF;refine' Ku;refine' ML;refine' Ku;first|refine' Kj|(refine' Kg;refine' Ad<;>intro O)));all_goals (refine' K8;refine' Lw;refine' K7)
 all_goals
  first
  | (refine' Kf;all_goals (refine Qm ?_;have hG:GQ p z N fu h out ((Kc h g fr inp out fu).ret f e) Y L (.int .i64 2) _:=JQ (out2:=out) (M:=h) (N2:=N) (fr:=fr) (g:=g) (L':=L) (by first|exact VU hvs|exact VV hvs V) (QK ho Z.sp) fun _ _ Z=>Z;refine' O5);all_goals (exact Al))
  | (refine' Kd;refine' Ko)
 refine' Lb;refine' LG;refine Qt Z vw fd (Qc fr g) ?_;(refine' Af<;>intro O);all_goals (refine' zn)
 all_goals
  first
  | (refine' Kf;obtain ⟨fr0,k,rfl⟩:∃fr0 k,fr=fr0++[k]:=(by rcases Gy fr with rfl|⟨fr0,k,hk⟩;(exact absurd O Js);exact ⟨fr0,k,by simpa using hk⟩);have hl1:(fr0++[k]).length=fr0.length+1:=C3;have hst:(Kc h g (fr0++[k]) inp out fu).st=k.abs::(fr0.map FrmV.abs).reverse:=(by unfold Kc;simp);have hkn:=hn k Js;refine Qm ?_;refine zD (ci 15 [14]) ?_;have Z:=Z.drew;refine' Me;refine' LG;refine' OM;refine Qt (n:=fr0.length+2) Z vw fd C9 ?_;refine' NY;rw [show ((fr0.length+2:Nat):Int) - 1=(((fr0++[k]).length:Nat):Int) by omega];refine pV (l':=0) (h':=(fr0++[k]).length) Z vw fd rfl ⟨_,rfl⟩ rfl C9 V ?_;intro v7 Z;rw [xx] at Z;have Z:=Z.ns;have ho7:=Z.oneC (v:=v7) fd;refine' LF;((refine Lv Z ?_;intro E Z;have Z:=Z.ns));refine' LA;have Z:=gP (fr:=fr0) (k:=k) (L:=Mg (z.upd v7 z.iv z.ov) p lv h.left::sl 119 5 v7 (Ns fr0 k)::sl 182 4 sw (vs.map Val.cells)::sl 131 4 lv (rv.map RgnV.cells)::KV (RgnV.res H1) rv::sl 2 1 z.ov (Qe out)::L) Z.sp;have Z:St Y _ (gX p (z.upd v7 z.iv z.ov) fr0 k N h out (sl 182 4 sw (vs.map Val.cells)::L)):=QK ho Z.sp;refine' NH;have Z:St Y _ (sl 182 4 sw (vs.map Val.cells)::gX p (z.upd v7 z.iv z.ov) fr0 k N h out L):=Z.sp;refine' Kk (c:=NI V V Z);rintro u1 E ⟨rfl,tv,Z⟩;have hG:GQ p z N fu h out ((Kc h g (fr0++[k]) inp out fu).ret f e) Y L (.int .i64 0) _:=(by unfold GQ;exact .inl ⟨v7,z.iv,z.ov,fr0,k.push tv vs,N,h,inp,out,bZ hvs V hst,hi,FM N,rfl,Z⟩);refine' KQ;(exact Al))
  | (refine' Kd;obtain rfl:fr=[]:=FO.1 V;refine' Ko)
 refine' Nj;refine' Kk (c:=Xj V Js k5 (show St Y _ (gX p z [] g N h out _) from QK ho Z.sp));rintro u1 E (⟨vs2,sn,b9,hvs2,hvl2,ho3,hb9,rfl,Z⟩|⟨hvs2,rfl,Z⟩);rotate_left;rw [hvs] at hvs2;cases hvs2;rw [hvs] at hvs2;cases hvs2;cases b9;all_goals (refine' U0)
 all_goals
  first
  | (refine' Kf;refine Qm ?_;have hG:GQ p z N fu h out ((Kc h g [] inp out fu).ret f e) Y L (.int .i64 2) _:=JQ (cg hvs V rfl (aL fun hh=>absurd (hb9.2 hh) Jd)) Z fun _ _ Z=>Z.sp;refine' O5;(exact Al))
  | (refine' Kd;refine' Ko)
 refine Qm ?_;obtain ⟨lv,rv,ho,Z⟩:=Pv Z;refine' NH;refine' RG;((refine Lv Z ?_;intro E Z;have Z:=Z.ns));refine' LA;have Z:St Y _ (gX p (z.bk sn) [] g N h out (sl 2 1 sn (Qe (vs.map Val.n))::L)):=QK (z:=z.bk sn) ho Z.sp;refine' Lp;refine' Kk (c:=OT 0 Z);rintro u1 E ⟨rfl,Z⟩;have hG:GQ p z N fu h out ((Kc h g [] inp out fu).ret f e) Y L (.int .i64 1) _:=(by unfold GQ;exact .inr (.inr (.inl ⟨vs.map Val.n,sn,[],g,N,cd hvs V rfl (aK (hb9.1 rfl)),FM N,by rw [EM];omega,rfl,Z⟩)));refine' KQ;((exact Al))
end
section
variable {Y:Cx}{w:World}{L:List Res}{p N:Nat}{z:GZ}{fr:List FrmV}{g:FrmV}{h:HpS}{out inp:List Int}{fu:Nat}{m:Module}
attribute [local irreducible] Frm.val Frm.num Frm.args Frm.rgs Frm.reg KB MS.to MS.ret GQ
theorem gR {e:Tail}(hx:La.at Y cs e)(hfn:Ks.sl Y z.fn m.funcs)(hi:Kb.sl Y z.iv inp)(hfx:m.funcs[g.f]?=some f)(he:cr f e)(hf:fr.length≤900)(hn:∀x∈fr,x.vals.length≤900000)(Z:St Y w (gX p z fr g N h out L)):
 Ka Tryz.prog wm [.pointer (some ⟨p,0,none⟩), .agg ⟨cs⟩] w (GQ p z N fu h out ((Kc h g fr inp out fu).fin f e) Y L):=by
 obtain ⟨h8,hop,hy,hno⟩:=he;rcases (show e.op=1∨e.op=2∨e.op=3 by omega) with I|I|I
 · have hX:(Kc h g fr inp out fu).fin f e=(Kc h g fr inp out fu).to f e.yes:=Qip I;obtain ⟨⟨y1,y2⟩,y3,y4⟩:=hy V;rw [hX];obtain ⟨v1,v2,v3,v4,v5,rfl,k1,k2,k3,k4,k5⟩:=PA hx;refine Kl Kh Tryz.func75 ?_;refine' KU;intro p3 E Z;refine' OJ;refine' P1;refine Qm ?_;have Z:St Y _ (gX p z fr g N h out (Tn p3 e v1 v2 v3 v4 v5::L)):=Z.sp;refine' Lm;refine' UW;refine' Kf;refine' KX;refine' Sd;refine' Kk (c:=Xo (t:=e.yes) (inp:=inp) (fu:=fu) ⟨_,_,rfl,k1,k2⟩ hfn hi hfx y1 y2 y3 y4 V Z);intro u1 E hG;refine' KQ;((exact ⟨_,rfl,hG.drop⟩))
 · have hX:(Kc h g fr inp out fu).fin f e=Ls (g.abs.num e.a) fun n=>if n≠0 then (Kc h g fr inp out fu).to f e.yes else (Kc h g fr inp out fu).to f e.no:=(Qin V).trans (Qip I)
   obtain ⟨⟨y1,y2⟩,y3,y4⟩:=hy V;obtain ⟨⟨n1,n2⟩,n3,n4⟩:=hno I;rw [hX];obtain ⟨v1,v2,v3,v4,v5,rfl,k1,k2,k3,k4,k5⟩:=PA hx;refine Kl Kh Tryz.func75 ?_;refine' KU;intro p3 E Z;refine' OJ;refine' P1;refine Qm ?_;have Z:St Y _ (gX p z fr g N h out (Tn p3 e v1 v2 v3 v4 v5::L)):=Z.sp;refine' Lm;refine' Pk;refine' Kd;refine' Kn;refine' UW;refine' Kf;refine' Nj;refine KO Z [_] ?_;intro b1 E Z;have Z:St Y _ (sl 3 1 (.slice (some ⟨b1,0,none⟩) 1 1) (Qe [e.a])::gX p z fr g N h out (Tn p3 e v1 v2 v3 v4 v5::L)):=(by have Z:=Fz (T:=3) (es:=1) (css:=Qe [e.a]) Z rfl (by simp [Qe]) rfl;exact Aj);refine' Kk (c:=aI V Z);rintro u1 E (⟨n0,sn,hn0,ho2,rfl,Z⟩|⟨hn0,sn,rfl,Z⟩);all_goals (refine' U0)
   all_goals
    first
    | (refine' Kf;refine Qm ?_;have hG:GQ p z N fu h out (Ls (g.abs.num e.a) fun n=>if n≠0 then (Kc h g fr inp out fu).to f e.yes else (Kc h g fr inp out fu).to f e.no) Y L (.int .i64 2) _:=JQ (Qu hn0) Z fun _ _ Z=>Z.sp;refine' O5;(exact Al))
    | (refine' Kd;refine' Ko)
   refine' Lb;rw [Q1 hn0];refine QA Z vw rfl fd Js Js ?_;intro b2 o2 hel2;refine QV Z hel2 rfl fd rfl rfl rfl ?_;(refine' Ac<;>intro O);all_goals (refine' zn)
   all_goals
    first
    | (refine' Kf;refine Qm ?_;rw [Qin (show¬n0≠0 by omega)];refine' XV;refine' Kk (c:=Xo (t:=e.no) (inp:=inp) (fu:=fu) ⟨_,_,rfl,k3,k4⟩ hfn hi hfx n1 n2 n3 n4 V (show St Y _ (gX p z fr g N h out (Tn p3 e v1 v2 v3 v4 v5::L)) from Z.sp));intro u1 E hG;have hG:=hG.drop;refine' KQ;(exact Al))
    | (refine' Kd;refine' Ko)
   refine Qm ?_;rw [Qip (show n0≠0 by omega)];refine' XV;refine' Kk (c:=Xo (t:=e.yes) (inp:=inp) (fu:=fu) ⟨_,_,rfl,k1,k2⟩ hfn hi hfx y1 y2 y3 y4 V (show St Y _ (gX p z fr g N h out (Tn p3 e v1 v2 v3 v4 v5::L)) from Z.sp));intro u1 E hG;have hG:=hG.drop;refine' KQ;((exact Al))
 · have hX:(Kc h g fr inp out fu).fin f e=(Kc h g fr inp out fu).ret f e:=(Qin V).trans (Qin V);rw [hX];exact gQ hx hfn hi hfx h8 I hf hn Z
end
section
variable {Y:Cx}{w:World}{L:List Res}{p N:Nat}{z:GZ}{fr:List FrmV}{g:FrmV}{h:HpS}{out inp:List Int}{fu:Nat}{m:Module}
@[reducible] def GZ.tick (z:GZ):GZ:=⟨z.fn,z.fv,z.iv,z.e,z.bv,z.ov,z.fu+1,z.mo,z.dn,z.c,z.a⟩
@[reducible] def GZ.stk (z:GZ)(c a:Int):GZ:=⟨z.fn,z.fv,z.iv,z.e,z.bv,z.ov,z.fu,z.mo,z.dn,c,a⟩
def zB (p:Nat)(z:GZ)(N fu most:Nat)(h:HpS)(out:List Int)(X:Stp)(at_:Int)(fr:List FrmV)(g:FrmV)(Y:Cx)(L:List Res)(u:Value)(B:World):Prop:=
 (fu=most∧u=Kz (0,0)∧St Y B (gX p (z.end 7) fr g N h out L))
 ∨(fu≠most∧u=Kz (0,0)∧∃k,k≠2∧GQ p z.tick N (fu+1) h out X Y L (.int .i64 k) B)
 ∨(fu≠most∧X= .lost∧u=Kz (20,at_)∧∃lv left,St Y B (Mg (z.tick.stk 20 at_) p lv left::L))
attribute [local irreducible] Frm.val Frm.num Frm.args Frm.rgs Frm.reg KB MS.ins MS.fin MS.one MS.place
theorem aM {b:Block}(hfn:Ks.sl Y z.fn m.funcs)(hi:Kb.sl Y z.iv inp)(hfx:m.funcs[g.f]?=some f)(hbx:f.blocks[g.b]?=some b)(hci:∀x∈b.code,Qe5 m x)(hce:cr f b.fin)(hgi:g.i≤1000)(kf:g.f≤1000000)(kb:g.b≤1000000)(hf:fr.length≤900)(hn:g.vals.length≤800000)(hrn:g.regs.length≤800000)(hfr:∀x∈fr,x.vals.length≤900000)(hN:N≤99999)(hol:out.length≤2000)(hrg:∀v∈g.vals,Mh v.n)(hdn:z.dn=false)(hc0:z.c=0)(ha0:z.a=0)(hfu:z.fu=fu)(hmo:z.mo=most)(hfm:fu≤1000000)(Z:St Y w (gX p z fr g N h out L)):
 Ka Tryz.prog wa [.pointer (some ⟨p,0,none⟩)] w (zB p z N fu most h out ((Kc h g fr inp out (fu+1)).one m) ((Kc h g fr inp out fu).place m) fr g Y L):=by
 have hgf:=(EJ.1 hfx).1;have hgb:=(EJ.1 hbx).1;refine Kl Kh Tryz.func24 ?_;refine' Ov;(intro p2 E Z);refine' LA;refine Qm ?_;obtain ⟨lv,rv,ho,Z⟩:=Pv (p:=p) (fr:=fr) (g:=g) (N:=N) (h:=h) (out:=out) (L:=blk p2 29 [.int .i64 0, .int .i64 0]::L) Z.sp;refine' P6;rw [hdn];refine' zm;((refine' Ln));((refine' Nf));((refine' LI));((refine' Sh));((refine' LU));(refine' Kg;refine' TA);refine' UY;refine' MN;refine zD (ci 10 [9]) ?_;have Z:=Z.drew;refine' zm;refine' O4;refine' OM;(refine' Ac<;>intro O);all_goals (refine' zn)
 all_goals
  first
  | (refine' Kf;refine' KX;have Z:St Y _ (gX p z fr g N h out (blk p2 29 [.int .i64 0, .int .i64 0]::L)):=QK ho Z.sp;refine' Kk (c:=OT 7 Z);rintro v1 E ⟨rfl,Z⟩;refine' zn;refine' Kn;refine Ly [_,_] ?_;refine Kp Z ?_;intro E Z;have Z:=Z.ns;refine' LM;refine QO vw (Q3 (n:=2) Jk Jk (Z.blkAt fd) Jr Jr) ?_;(exact ⟨_,rfl, .inl ⟨V,rfl,Z.sp⟩⟩))
  | (refine' Kd;refine' Ko)
 refine' KX;refine' O4;refine' MJ;refine' RG;refine Lv Z ?_;intro E Z;have Z:=Z.ns;refine' L8;refine' Kw (c:=SF (z:=z.tick) V (show St Y _ (gL p z.tick lv h.left fr g _) from Z.sp));rintro v1 E ⟨b9,o9,rfl,hel,Z⟩;refine' MU;refine zC [(0,none),(1,none),(2,none),(3,none),(4,none),(5,none),(6,none),(7,none),(8,none),(9,none),(10,none),(11,none),(12,none),(13,none),(14,none),(15,none),(16,none),(17,none),(18,some (some [4,8,11,15,17])),(19,some none)] ?_;have Z:=Z.drew;refine' NT;refine' Oq;refine' Pj;refine' OL;refine QV Z hel rfl fd (Qc fr g) (Qj fr g) rfl ?_;refine' Ku;refine' zi;intro b8 o8 cs8 x8 hat8 hx8 he8;obtain rfl:f=x8:=EP (hfx.symm.trans hx8);obtain ⟨vp8,vr8,vb8,rfl,hp8,hr8,hb8⟩:=Qx he8;refine' Ku;refine' US;refine YY Z ?_;refine' Mm;refine' OL;refine Q9 (j:=1) Z hel rfl fd (Qc fr g) (Qj fr g) rfl ?_;refine' Ku;refine' zi;intro b7 o7 cs7 x7 hat7 hx7 he7;obtain rfl:b=x7:=EP (hbx.symm.trans hx7);obtain ⟨vp7,vc7,u1,u2,u3,u4,u5,rfl,hp7,hc7,hu1,hu2,hu3,hu4,hu5⟩:=PV he7;refine' TP;intro p4 E Z;refine' zt;refine ⟨EN.2 ⟨CS,EN.2 ⟨(by (exact BG)),EN.2 ⟨Df,EN.2 ⟨(by (exact YA (j:=1) Z hel rfl fd (Qc fr g) (Qj fr g) rfl)),EN.2 ⟨C7,fun _ h=>(ET h).elim⟩⟩⟩⟩⟩,?_⟩;refine' Lg;refine Kp Z ?_;intro E Z;have Z:=Z.ns;refine' K7;refine Qm ?_;refine zD (ci 10 [8,9]) ?_;have Z:=Z.drew;refine' MO;refine QV Z hel rfl fd (Qc fr g) (Qj fr g) rfl ?_;refine' MO;refine Q9 (j:=1) Z hel rfl fd (Qc fr g) (Qj fr g) rfl ?_;refine' Kk (c:=rY g.f g.b kf kb Z);rintro v1 E ⟨rfl,Z⟩;refine' Kv;refine' LS;refine' MN;refine zD (ci 8 [7]) ?_;have Z:=Z.drew;refine' MO;refine Q9 (j:=2) Z hel rfl fd (Qc fr g) (Qj fr g) rfl ?_;refine' Sc;(refine' Ae<;>intro O);all_goals (refine' zn)
 all_goals
  first
  | (refine' Kf
     refine Qm ?_;refine zD (ci 14 [12,13]) ?_;have Z:=Z.drew;refine' MO;refine QV Z hel rfl fd (Qc fr g) (Qj fr g) rfl ?_;refine' MO;refine Q9 (j:=1) Z hel rfl fd (Qc fr g) (Qj fr g) rfl ?_;refine' MO;refine Q9 (j:=2) Z hel rfl fd (Qc fr g) (Qj fr g) rfl ?_;refine' KZ (c:=r5 g.f g.b g.i kf kb V Z);rintro v1 E ⟨rfl,Z⟩;refine' Kv;refine zD (ci 11 [9,10]) ?_;have Z:=Z.drew;refine' zm;refine' KJ;refine' MO;refine Q9 (j:=2) Z hel rfl fd (Qc fr g) (Qj fr g) rfl ?_;(refine' zi;intro b6 o6 cs6 x6 hat6 hx6 he6;obtain ⟨vr6,va6,rfl,hr6,ha6⟩:=QN he6);refine N8 Z ?_;have hX:=cp (s:=Kc h g fr inp out (fu+1)) hfx hbx hx6;have hP:=xB (s:=Kc h g fr inp out fu) hfx hbx (EJ.1 hx6).1;obtain ⟨i1,i2,i3,i4⟩:=hci x6 (EK hx6);refine' Kk (c:=gO (z:=z.tick) (inp:=inp) (fu:=fu+1) (m:=m) he6 hfn hi i1 i2 i3 i4 hgi hf hn hrn hN hol hrg (show St Y _ (gX p z.tick fr g N h out _) from QK ho Z.sp));intro u9 E hG;rw [show MS.ins m (Kc h g.nx fr inp out (fu+1)) x6=(Kc h g fr inp out (fu+1)).one m from hX.symm] at hG;rcases hG with ⟨fv,iv,ov,fr',g',N',h',inp',out',I,M,h3,rfl,Z⟩|⟨e,fr',g',N',I,M,rfl,Z⟩|⟨l,bv,fr',g',N',I,M,h3,rfl,Z⟩|⟨I,rfl,lv9,left9,Z⟩
     all_goals (refine' zm);all_goals refine' zn)
  | (refine' Kd
     refine' XV;have hX:=cq (s:=Kc h g fr inp out (fu+1)) hfx hbx (by show b.code.length≤g.i;omega);have hP:=xC (s:=Kc h g fr inp out fu) hfx hbx (by show¬g.i<b.code.length;omega);refine' Kk (c:=gR (z:=z.tick) (e:=b.fin) (inp:=inp) (fu:=fu+1) (m:=m) ⟨_,_,_,_,_,rfl,hu1,hu2,hu3,hu4,hu5⟩ hfn hi hfx hce hf hfr (show St Y _ (gX p z.tick fr g N h out _) from QK ho Z.sp));intro u9 E hG;rw [←hX] at hG;rcases hG with ⟨fv,iv,ov,fr',g',N',h',inp',out',I,M,h3,rfl,Z⟩|⟨e,fr',g',N',I,M,rfl,Z⟩|⟨l,bv,fr',g',N',I,M,h3,rfl,Z⟩|⟨I,rfl,lv9,left9,Z⟩
     all_goals (refine' zm);all_goals refine' zn)
 all_goals (refine' MN;(first|(obtain ⟨lv2,rv2,ho2,Z⟩:=Pv Z)|skip);refine' Lp;refine' PG;refine' zn)
 all_goals
  first
  | (refine' Kf;all_goals (refine' NH;refine' Kk (c:=M5 Z);rintro v1 E ⟨rfl,Z⟩;refine' LF;refine iY Z ?_;intro E Z;have Z:=Z.ns);all_goals refine' zn)
  | (refine' Kd;all_goals refine' Ko)
 all_goals (refine' Rm;refine zv Z ?_;refine Kp Z ?_;intro E Z;have Z:=Z.ns;refine' LM;refine QO vw (Q3 (n:=2) Jk Jk (Z.blkAt fd) Jr Jr) ?_;(first|(first|exact ⟨_,rfl, .inr (.inl ⟨V,by show Value.agg ⟨[.int .i64 z.c, .int .i64 z.a]⟩=_;rw [hc0,ha0];rfl,0,by decide, .inl ⟨fv,iv,ov,fr',g',N',h',inp',out',I,M,h3,rfl,QK ho2 Z.sp⟩⟩)⟩|exact ⟨_,rfl, .inr (.inl ⟨V,by show Value.agg ⟨[.int .i64 z.c, .int .i64 z.a]⟩=_;rw [hc0,ha0];rfl,1,by decide, .inr (.inl ⟨e,fr',g',N',I,M,rfl,QK ho2 Z.sp⟩)⟩)⟩|exact ⟨_,rfl, .inr (.inl ⟨V,by show Value.agg ⟨[.int .i64 z.c, .int .i64 z.a]⟩=_;rw [hc0,ha0];rfl,1,by decide, .inr (.inr (.inl ⟨l,bv,fr',g',N',I,M,h3,rfl,QK ho2 Z.sp⟩))⟩)⟩)|(rw [hP];exact ⟨_,rfl, .inr (.inr ⟨V,I,rfl,lv9,left9,Z.sp⟩)⟩)))
end
end Go.Proofs.YteflkifmgnpbhaaGreat
namespace Go.Lir
def VR (l:List Val):Prop:=∀v∈l,Mh v.n
def TR (t:Thg):Prop:=t.l.length≤1000∧VR t.l
def RR (r:Rgn):Prop:=∀t∈r.l,TR t
def HR (h:HpS):Prop:=∀r∈h.l,RR r
structure Rg (s:MS):Prop where
 g:VR s.g.vals
 st:∀x∈s.st,VR x.vals
 h:HR s.h
 inp:∀n∈s.inp,Mh n
theorem cJ:Mh 0:=by unfold Mh;omega
theorem gS {n:Nat}(h:n≤1000):Mh n:=by unfold Mh;omega
theorem VR.nil:VR []:=fun v hv=>by cases hv
theorem VR.one (h:Mh v.n):VR [v]:=fun u hu=>by rw [FD.1 hu];exact h
theorem VR.app {a b:List Val}(ha:VR a)(hb:VR b):VR (a++b):=fun v hv=>(E8.1 hv).elim (ha v) (hb v)
theorem RR.none:RR Rgn.none:=fun t ht=>by cases ht
abbrev Ju:=@RR.none
theorem TR.dflt:TR ⟨false,[]⟩:=⟨FB _,VR.nil⟩
theorem val_in {k:Int}(hg:VR g.vals)(h:g.val k=some v):Mh v.n:=by
 unfold Frm.val at h;split at h
 · cases h
 · exact hg v (EK h)
theorem gT {k:Int}(hg:VR g.vals)(h:g.num k=some n):Mh n:=by
 obtain ⟨v,hv,rfl⟩:=ti h;exact hg v hv
theorem mA {g:Frm}(hg:VR g.vals):∀{l:List Int}{vs:List Val},g.args l=some vs→VR vs
 | [],vs,h=>by rw [Frm.args] at h;cases h;exact VR.nil
 | k ::l,vs,h=>by
   rw [Frm.args] at h
   cases hv:g.val k with
   | none=>rw [hv] at h;cases h
   | some v=>
     rw [hv] at h
     cases hl:g.args l with
     | none=>rw [hl] at h;cases h
     | some us=>
       rw [hl] at h;cases h;intro u hu;rcases E4.1 hu with rfl|hu
       · exact val_in hg hv
       · exact mA hg hl u hu
theorem tG {P:α→Prop}{l:List α}{k:Nat}{d:α}(h:∀x∈l,P x)(hd:P d):P (l.getD k d):=by
 rw [EL]
 cases hk:l[k]? with
 | none=>exact hd
 | some x=>exact h x (EK hk)
theorem HR.reg (hh:HR h)(k:Int):RR (h.reg k):=by
 unfold HpS.reg;split
 · exact tG (P:=RR) hh Ju
 · exact Ju
theorem HR.thg (hh:HR h)(k t:Nat):TR (h.thg k t):=tG (P:=TR) (hh.reg k) TR.dflt
theorem HR.upd {l:List Rgn}{k:Nat}{r:Rgn}(hh:HR ⟨l,a⟩)(hr:RR r):HR ⟨l.set k r,b⟩:=fun q hq=>by
 rcases Li hq with rfl|hq
 · exact hr
 · exact hh q hq
theorem HR.open (hh:HR h):HR h.open:=by
 unfold HpS.open;split
 · exact hh
 · intro r hr
   rcases E8.1 hr with hr|hr
   · exact hh r hr
   · rw [FD.1 hr];exact Ju
theorem Xp:Mh h.openV.n:=by
 unfold HpS.openV;split<;>exact cJ
theorem HR.shut (hh:HR h)(v:Val):HR (h.shut v):=by
 unfold HpS.shut;split
 · exact HR.upd (a:=h.left) hh Ju
 · exact hh
theorem HR.put (hh:HR h)(v:Val)(n:Int){t:Thg}(ht:TR t):HR (h.put v n t):=by
 unfold HpS.put;split
 · refine HR.upd (a:=h.left) hh fun u hu=>?_
   have hl:(((h.reg v.region).room n).push t).l=(h.reg v.region).l++[t]:=(by unfold Rgn.room;split<;>rfl);rw [hl] at hu;rcases E8.1 hu with hu|hu
   · exact hh.reg _ u hu
   · rw [FD.1 hu];exact ht
 · exact hh
theorem zE {k:Int}:Mh (h.putV v k n).n:=by
 unfold HpS.putV;split<;>exact cJ
theorem HR.arr (hh:HR h)(v:Val)(n:Int):HR (h.arr v n):=by
 unfold HpS.arr;split
 · exact hh
 · refine hh.put v _ ⟨?_,fun u hu=>?_⟩
   · show (List.replicate _ _).length≤1000;rw [FK];omega
   · rw [F6 hu];exact cJ
theorem aN:Mh (h.arrV v n).n:=by
 unfold HpS.arrV;split
 · exact cJ
 · exact zE
theorem Xq (hh:HR h)(v:Val)(k:Int):Mh (h.get v k).1.n:=by
 unfold HpS.get;split
 · exact cJ
 · split
   · exact tG (P:=fun v:Val=>Mh v.n) (hh.thg _ _).2 cJ
   · exact cJ
theorem gU (hh:HR h)(v:Val):Mh (h.len v).1:=by
 unfold HpS.len;split
 · exact cJ
 · exact gS (hh.thg _ _).1
theorem HR.set (hh:HR h)(v:Val)(k:Int){x:Val}(hx:Mh x.n):HR (h.set v k x):=by
 unfold HpS.set;split
 · exact hh
 · rename_i r t _
   split
   · refine HR.upd (a:=h.left) hh fun u hu=>?_
     rcases Li hu with rfl|hu
     · refine ⟨by show ((h.thg r t).l.set _ _).length≤_;rw [Fh];exact (hh.thg r t).1,fun y hy=>?_⟩
       rcases Li hy with rfl|hy
       · exact hx
       · exact (hh.thg r t).2 y hy
     · exact hh.reg _ u hu
   · exact hh
section
variable {m:Module}{s:MS}
theorem Rg.put (h:Rg s)(hv:VR vs):Rg (s.put vs):=⟨h.g.app hv,h.st,h.h,h.inp⟩
theorem Rg.hp (h:Rg s){q:HpS}(hq:HR q):Rg (s.hp q):=⟨h.g,h.st,hq,h.inp⟩
theorem Rg.made (h:Rg s){q:HpS}(hq:HR q)(hv:Mh v.n):(s.made e q v).All Rg:=by
 unfold MS.made;exact E5 (fun _=>trivial) fun _=>E5 (fun _=>trivial) fun _=>(h.hp hq).put (.one hv)
theorem Rg.ins (h:Rg s)(hx:Qs m.funcs.length x=0)(hn:Mh x.n):(s.ins m x).All Rg:=by
 obtain ⟨q1,q2⟩:=gg hx;have I:∀(v:Val),Mh v.n→(Stp.go (s.put [v])).All Rg:=fun v hv=>h.put (.one hv);have M:∀(q:HpS),HR q→(Stp.go (s.hp q)).All Rg:=fun q hq=>h.hp hq;unfold MS.ins
 refine E5 (fun _=>I _ hn) fun _=>E5 (fun _=>E9 fun a _=>E9 fun b _=>E5 (fun _=>trivial) fun _=>I _ (gJ _ _ _)) fun _=>E5 (fun _=>?_) fun _=>
  E5 (fun _=>E9 fun v _=>E5 (fun _=>trivial) fun _=>M _ (h.h.shut v)) fun _=>E5 (fun _=>E9 fun v _=>E9 fun l hl=>h.made (h.h.put v _ ⟨by have:=gh hl;show l.length≤_;omega,mA h.g hl⟩) zE) fun _=>
  E5 (fun _=>E9 fun v _=>E5 (fun _=>trivial) fun _=>E5 (fun _=>trivial) fun _=>I _ (Xq h.h _ _)) fun _=>
  E5 (fun _=>E9 fun v _=>E5 (fun _=>trivial) fun _=>E9 fun y hy=>E5 (fun _=>trivial) fun _=>M _ (h.h.set _ _ (val_in h.g hy))) fun _=>
  E5 (fun _=>E9 fun v _=>E9 fun n _=>E5 (fun _=>trivial) fun _=>h.made (h.h.arr _ _) aN) fun _=>
  E5 (fun _=>E9 fun v _=>E9 fun n _=>jr (I _ (Xq h.h _ _))) fun _=>
  E5 (fun _=>E9 fun v _=>E9 fun n _=>E9 fun c O=>jr (M _ (h.h.set _ _ (gT h.g O)))) fun _=>
  E5 (fun _=>E9 fun v _=>jr (I _ (gU h.h _))) fun _=>E5 (fun _=>?_) fun _=>E5 (fun _=>E9 fun n _=>?_) fun _=>?_
 · unfold MS.newR;exact E5 (fun _=>trivial) fun _=>⟨h.g.app (.one Xp),h.st,h.h.open,h.inp⟩
 · unfold MS.inS
   cases hi:s.inp with
   | nil=>exact trivial
   | cons n r=>exact ⟨h.g.app (.one (h.inp n (by rw [hi];simp))),h.st,h.h,fun q hq=>h.inp q (by rw [hi];exact FA _ hq)⟩
 · unfold MS.outS;exact E5 (fun _=>trivial) fun _=>⟨h.g,h.st,h.h,h.inp⟩
 · unfold MS.call
   split
   · exact trivial
   · refine E9 fun rs _=>E9 fun vs hv=>E5 (fun _=>trivial) fun _=>E5 (fun _=>trivial) fun _=>?_
     refine ⟨mA h.g hv,fun y hy=>?_,h.h,h.inp⟩;rcases E4.1 hy with rfl|hy
     · exact h.g
     · exact h.st y hy
theorem Rg.to (h:Rg s):(s.to f t).All Rg:=by
 unfold MS.to;split
 · exact trivial
 · exact E9 fun rs _=>E9 fun vs hv=>E5 (fun _=>trivial) fun _=>⟨mA h.g hv,h.st,h.h,h.inp⟩
theorem Rg.fin (h:Rg s){e:Tail}{n:Nat}(he:Np n e=0):(s.fin f e).All Rg:=by
 unfold MS.fin;refine E5 (fun _=>h.to) fun _=>E5 (fun _=>E9 fun n _=>E5 (fun _=>h.to) fun _=>h.to) fun _=>?_;unfold MS.ret;refine E9 fun vs hv=>E5 (fun _=>trivial) fun _=>?_
 cases hs:s.st with
 | cons c st=>exact Rg.put (s:=⟨s.h,c,st,s.inp,s.out,s.fuel⟩) ⟨h.st c (by rw [hs];simp),fun x hx=>h.st x (by rw [hs];exact FA _ hx),h.h,h.inp⟩ (mA h.g hv)
 | nil=>
   dsimp only
   cases hi:KB vs with
   | none=>exact trivial
   | some ns=>show ns.length≤8;rw [sW hi,gh hv];exact oE he
theorem Rg.one {k:Nat}(h:Rg s)(hB:Bnd m k s)(hM:m.fault.1=0)(hR:m.InR):(s.one m).All Rg:=by
 obtain ⟨f,b,hf,hb,hi,hv,hr⟩:=hB.cur;obtain ⟨-,q1,q2⟩:=XL hM hf hb;unfold MS.one;rw [hf];dsimp only;rw [hb];dsimp only
 cases hx:b.code[s.g.i]? with
 | none=>exact h.fin q2
 | some x=>
   have hxm:=EK hx;have hxr:=((hR f (EK hf)).2.2.2 b (EK hb)).2.2.1 x hxm;exact Rg.ins (s:=s.next) ⟨h.g,h.st,h.h,h.inp⟩ (q1 x hxm) hxr.1.2.2.2.2.2
theorem Rg.start (hi:∀n∈inp,Mh n):Rg (MS.start inp pages):=⟨VR.nil,fun x hx=>(by cases hx),fun r hr=>(by cases hr),hi⟩
end
end Go.Lir
namespace Go.Proofs.YteflkifmgnpbhaaGreat
open Go.Lir
attribute [local irreducible] LC.wp Q0 Qp Qk KN Qw LO.wp Q6 Calls
section
variable {Y:Cx}{w:World}{L:List Res}{p N:Nat}{z:GZ}{fr:List FrmV}{g:FrmV}{h:HpS}{out inp:List Int}{fu:Nat}{m:Module}
@[reducible] def aO (fn fv iv:Value)(fuel:Int):GZ:=⟨fn,fv,iv,0, .slice none 0 0, .slice none 0 0,0,fuel,false,0,0⟩
theorem Xr {vf v:Value}(hp:0≤pages∧pages≤1000)(hi:Kb.sl Y v inp)(Z:St Y w L):Ka Tryz.prog U6 [.agg ⟨[vf]⟩,v, .int .i64 fuel, .int .i64 pages] w fun u B=>
 ∃p fv,u= .pointer (some ⟨p,0,none⟩)∧St Y B (gX p (aO vf fv v fuel) [] Om 0 ⟨[],pages⟩ [] L):=by
 obtain ⟨av,nv,hv⟩:=hi.shape;subst hv;refine Kl Kh Tryz.func22 ?_;refine' KU;intro p4 E Z;refine' Kv;refine' MM;refine' zm;refine OF [_,_] ?_;refine Ly [_,_,_,_,_] ?_;refine KO Z [_,_,_,_,_] ?_;intro b1 E Z;refine' Me;refine iZ [_,_,_,_,_,_,_,_,_,_,_,_,_] ?_;refine zb Z ?_;intro p17 E Z;refine' KQ;((have Z:=Fz (T:=119) (es:=5) (css:=Ns [] Om) (Z.out (r:=blk b1 119 [.int .i64 0, .int .i64 0, .int .i64 0, .slice none 0 0, .slice none 0 0]) fd) rfl (by simp [Ns,FrmV.cells]) rfl;simp only [HO,Gn] at Z;have Z:=Gx FrmV.res1 (Gx (RgnV.res H1) Z);have Z:=Z.nil (T:=182) (es:=4);have Z:=Z.nil (T:=3) (es:=1);have Z:=Z.nil (T:=2) (es:=1);have Z:=Z.nil (T:=131) (es:=4);exact ⟨_,rfl,p17,_,rfl,QK (z:=aO vf (.slice (some ⟨b1,0,none⟩) 1 1) (.slice av inp.length nv) fuel) (lv:= .slice none 0 0) (rv:=[]) ⟨rfl,J1 hp⟩ Z.sp⟩))
end
section
variable {Y:Cx}{w:World}{L:List Res}{p N:Nat}{c:MC}{z:GZ}{fr:List FrmV}{g:FrmV}{h:HpS}{out inp back:List Int}{m:Module}
def PR (m:Module)(most:Nat)(c:MC)(fr:List FrmV)(g:FrmV)(N:Nat)(h:HpS)(inp out back:List Int):Run→Prop
 | .on s=>s=Kc h g fr inp out s.fuel∧back=[]∧c.dn=false∧c.c=0∧c.e=0∧c.fu=s.fuel∧s.fuel≤most∧c.mo=most∧N≤s.fuel∧Bnd m s.fuel s
 | .over s e b=>h=s.h∧out=s.out∧back=b∧c.dn=true∧c.e=e∧c.fu=s.fuel∧out.length≤2000∧back.length≤100000
 | .stuck _=>False
def DR (m:Module)(most:Nat)(z:GZ)(fr:List FrmV)(g:FrmV)(N:Nat)(h:HpS)(inp out back:List Int):Run→Prop
 | .on s=>s=Kc h g fr inp out s.fuel∧back=[]∧z.dn=false∧(z.c=0∧z.a=0)∧z.e=0∧z.fu=s.fuel∧s.fuel≤most∧z.mo=most∧N≤s.fuel∧Bnd m s.fuel s∧Rg s
 | .over s e b=>h=s.h∧out=s.out∧back=b∧z.dn=true∧(z.c=0∧z.a=0)∧z.e=e∧z.fu=s.fuel∧N≤most+1∧out.length≤2000∧back.length≤100000
 | .stuck _=>False
theorem mB (hB:Bnd m s.fuel s)(hM:m.fault.1=0):(s.tick.one m).All (Bnd m (s.fuel+1)):=J8 (s:=s.tick) (k:=s.fuel) ⟨hB.cur,hB.st,hB.sl,hB.out⟩ hM
theorem tH (hR:Rg s)(hB:Bnd m s.fuel s)(hM:m.fault.1=0)(hIn:m.InR):(s.tick.one m).All Rg:=Rg.one (s:=s.tick) (k:=s.fuel) ⟨hR.g,hR.st,hR.h,hR.inp⟩ ⟨hB.cur,hB.st,hB.sl,hB.out⟩ hM hIn
theorem PR.step (hP:PR m most c fr g N h inp out back (.on s))(hM:m.fault.1=0)(hi:Kb.sl Y c.iv inp)(hs:Sv m p c fr g N h inp out (s.fuel+1) Y (sl 2 1 c.bv []::L) u w):
 (∀f,Run.step m most (.on s)≠ .stuck f)∧(u=Kz (0,0)∧∃c' fr' g' N' h' inp' out' back',PR m most c' fr' g' N' h' inp' out' back' (Run.step m most (.on s))∧c'.fn=c.fn∧Kb.sl Y c'.iv inp'∧Oz c'<Oz c∧St Y w (mS p c' fr' g' N' h' out' (sl 2 1 c'.bv (Qe back')::L)))∨
 ∃(f:Int) (c':MC),Run.step m most (.on s)= .stuck (20,f)∧u=Kz (20,f)∧c'.c=20∧c'.a=f∧St Y w (blk p 55 c'.cells::L):=by
 obtain ⟨hms, -,hdn,hc0,he0,hfu,hkm,hmo,hN,hB⟩:=hP;generalize hk:s.fuel=k at*;subst hms;rcases hs with ⟨h7,rfl,Z⟩|⟨hlt,hs⟩
 · have hst:Run.step m most (.on (Kc h g fr inp out k))= .over (Kc h g fr inp out k) 7 []:=Qip (show k=most by omega);rw [hst];refine .inl ⟨fun f hf=>(by cases hf),rfl,c.over 7,fr,g,N,h,inp,out,[],⟨rfl,rfl,rfl,rfl,rfl,hfu,hB.out,FB _⟩,rfl,hi,?_,Z⟩;unfold Oz;rw [hdn];show 2*(c.mo - c.fu).toNat+0<2*(c.mo - c.fu).toNat+1;omega
 · have hst:Run.step m most (.on (Kc h g fr inp out k))= .of m (Kc h g fr inp out k) ((Kc h g fr inp out (k+1)).one m):=Qin (show¬k=most by omega)
   have hB1:((Kc h g fr inp out (k+1)).one m).All (Bnd m (k+1)):=mB (s:=Kc h g fr inp out k) hB hM;have hmm:2*(c.mo - (c.fu+1)).toNat+1<2*(c.mo - c.fu).toNat+1:=CP;have hmz:2*(c.mo - (c.fu+1)).toNat+0<2*(c.mo - c.fu).toNat+1:=CP;rcases hs with ⟨rfl,hG⟩|⟨e,hX,rfl,fr',g',N',hN',Z⟩|⟨hX,rfl,Z⟩
   · rcases hG with ⟨lv,iv,ov,fr',g',N',h',inp',out',hX,hi',hN', -,Z⟩|⟨ns,bv,fr',g',hX, -,Z⟩
     · rw [hX] at hst hB1
       rw [hst];refine .inl ⟨fun f hf=>(by cases hf),rfl,c.tick.upd lv iv ov,fr',g',N',h',inp',out',[],⟨rfl,rfl,hdn,hc0,he0,?_,?_,hmo,?_,hB1⟩,rfl,hi',?_,Z⟩
       · show c.fu+1=((k+1:Nat):Int);omega
       · show k+1≤most;omega
       · show N'≤k+1;omega
       · unfold Oz;rw [hdn];exact hmm
     · rw [hX] at hst hB1
       rw [hst];refine .inl ⟨fun f hf=>(by cases hf),rfl,⟨c.hp,c.fn,c.lv,c.iv,c.e,bv,c.ov,c.fu+1,c.mo,true,c.c,c.a⟩,fr',g',N,h,inp,out,ns,⟨rfl,rfl,rfl,rfl,he0,?_,hB.out,?_⟩,rfl,hi,?_,(Z.subP CR)⟩
       · show c.fu+1=((k+1:Nat):Int);omega
       · have h8:ns.length≤8:=hB1;omega
       · unfold Oz;rw [hdn];exact hmz
   · rw [hX] at hst
     rw [hst];refine .inl ⟨fun f hf=>(by cases hf),rfl,c.tick.over e,fr',g',N',h,inp,out,[],⟨rfl,rfl,rfl,rfl,rfl,?_,hB.out,FB _⟩,rfl,hi,?_,Z⟩
     · show c.fu+1=((k+1:Nat):Int);omega
     · unfold Oz;rw [hdn];exact hmz
   · rw [hX] at hst;rw [hst];exact .inr ⟨_,c.tick.stk ((Kc h g fr inp out (k+1)).place m),rfl,rfl,rfl,rfl,(Z.subP CR)⟩
theorem DR.step (hP:DR m most z fr g N h inp out back (.on s))(hM:m.fault.1=0)(hIn:m.InR)(hi:Kb.sl Y z.iv inp)(hs:zB p z N s.fuel most h out ((Kc h g fr inp out (s.fuel+1)).one m) ((Kc h g fr inp out s.fuel).place m) fr g Y (sl 2 1 z.bv []::L) u w):
 (u=Kz (0,0)∧∃z' fr' g' N' h' inp' out' back',DR m most z' fr' g' N' h' inp' out' back' (Run.step m most (.on s))∧z'.fn=z.fn∧Kb.sl Y z'.iv inp'∧St Y w (gX p z' fr' g' N' h' out' (sl 2 1 z'.bv (Qe back')::L)))∨
 ∃(f:Int) (z':GZ) (lv:Value) (left:Int),Run.step m most (.on s)= .stuck (20,f)∧u=Kz (20,f)∧z'.c=20∧z'.a=f∧z'.dn=false∧St Y w (Mg z' p lv left::L):=by
 obtain ⟨hms, -,hdn,⟨hc0,ha0⟩,he0,hfu,hkm,hmo,hN,hB,hR⟩:=hP;generalize hk:s.fuel=k at*;subst hms;have hst:k≠most→Run.step m most (.on (Kc h g fr inp out k))= .of m (Kc h g fr inp out k) ((Kc h g fr inp out (k+1)).one m):=fun hne=>Qin (show¬k=most from hne);have hB1:((Kc h g fr inp out (k+1)).one m).All (Bnd m (k+1)):=mB (s:=Kc h g fr inp out k) hB hM;have hR1:((Kc h g fr inp out (k+1)).one m).All Rg:=tH (s:=Kc h g fr inp out k) hR hB hM hIn;rcases hs with ⟨h7,rfl,Z⟩|⟨hlt,rfl,q,hq,hG⟩|⟨hlt,hX,rfl,lv,left,Z⟩
 · have hs7:Run.step m most (.on (Kc h g fr inp out k))= .over (Kc h g fr inp out k) 7 []:=Qip (show k=most by omega);rw [hs7];exact .inl ⟨rfl,z.end 7,fr,g,N,h,inp,out,[],⟨rfl,rfl,rfl,rfl,⟨hc0,ha0⟩,rfl,hfu,V,hB.out,FB _⟩,rfl,hi,Z⟩
 · have hst:=hst hlt
   rcases hG with ⟨fv,iv,ov,fr',g',N',h',inp',out',hX,hi',hN', -,Z⟩|⟨e,fr',g',N',hX,hN', -,Z⟩|⟨l,bv,fr',g',N',hX,hN',hl, -,Z⟩|⟨-,hu, -⟩
   · rw [hX] at hst hB1 hR1
     rw [hst];refine .inl ⟨rfl,z.tick.upd fv iv ov,fr',g',N',h',inp',out',[],⟨rfl,rfl,hdn,⟨hc0,ha0⟩,he0,?_,?_,hmo,?_,hB1,hR1⟩,rfl,hi',Z⟩
     · show z.fu+1=((k+1:Nat):Int);omega
     · show k+1≤most;omega
     · show N'≤k+1;omega
   · rw [hX] at hst;rw [hst];refine .inl ⟨rfl,z.tick.end e,fr',g',N',h,inp,out,[],⟨rfl,rfl,rfl,rfl,⟨hc0,ha0⟩,rfl,?_,V,hB.out,FB _⟩,rfl,hi,Z⟩;show z.fu+1=((k+1:Nat):Int);omega
   · rw [hX] at hst;rw [hst];refine .inl ⟨rfl,(z.tick.bk bv).end 0,fr',g',N',h,inp,out,l,⟨rfl,rfl,rfl,rfl,⟨hc0,ha0⟩,rfl,?_,V,hB.out,hl⟩,rfl,hi,(Z.subP CR)⟩;show z.fu+1=((k+1:Nat):Int);omega
   · cases hu;exact absurd rfl hq
 · have hst:=hst hlt;rw [hX] at hst;rw [hst];exact .inr ⟨_,z.tick.stk 20 ((Kc h g fr inp out k).place m),lv,left,rfl,rfl,rfl,rfl,hdn,(Z.subP CR)⟩
end
section
theorem Qhg {x:Module}(hx:Lr.at Y cs x)(Z:St Y w L):Ka Tryz.prog vY [.agg ⟨cs⟩] w fun u B=>∃b,u= .bool b∧(b=false→x.Few)∧St Y B L:=by
 obtain ⟨vf,rfl,hl⟩:=NR hx;obtain ⟨l⟩:=x;have hl:Ks.sl Y vf l:=hl;have hlen:=hl.len;refine Kl Kh Tryz.func18 ?_;refine' KU;intro p1 E Z;refine' OJ;refine' zL;(refine' Af<;>intro O);all_goals (refine' zn)
 all_goals
  first
  | (refine' Kf;refine' KM;(exact Av))
  | (refine' Kd;refine' Ko)
 refine' Nr;refine Mt Z [1] (fun A LL ρ' B=>∃(j:Nat),Ki ρ' A∧Ki ρ' [(3, .int .i64 j)]∧(j≤l.length)∧(l.length≤20)∧(∀f∈l.take j,f.Few)∧St Y B (LL)) (fun ρ' _=>(l.length - iv (ρ' 3)).toNat) ?_ ?_
 · exact AE
 rintro U E ⟨j,hA,hρ,hj,hl20,hd,Z⟩;obtain ⟨U,rfl⟩:=Km hA hρ;refine' P4;refine' Ab<;>intro O
 · skip
   ((refine' XR;intro b1 o1 cs1 x1 hat1 hx1 he1;obtain ⟨vp1,vr1,vb1,rfl,hp1,hr1,hb1⟩:=Qx he1;refine' NG;intro p4 E Z;refine Kp Z ?_;intro E Z;have Z:=Z.ns;refine' LA;refine' Ta;(refine' Af<;>intro O);all_goals (refine' LH;(first|(refine' Kj)|(refine' Kg;refine' Kw (c:=je hp1 Z);rintro v1 E ⟨rfl,Z⟩;cases hg1:Tys.great x1.params))));all_goals (refine' Lw;refine' LH;(first|(refine' Kj)|(refine' Kg;refine' Kw (c:=je hr1 Z);rintro v1 E ⟨rfl,Z⟩;cases hg2:Tys.great x1.results))));all_goals (refine' Ld)
   all_goals
    first
    | (refine' Kf;all_goals (refine' KM);all_goals (exact Av))
    | (refine' Kd;refine' Ko)
   refine Qm ?_;have hlb:=hb1.len;refine' Lm;refine' OG;refine Mt Z [1,3,4] (fun A LL ρ' B=>∃(i:Nat),Ki ρ' A∧Ki ρ' [(5, .int .i64 i)]∧(i≤x1.blocks.length)∧(x1.blocks.length≤30)∧(Tys.great x1.params=false)∧(Tys.great x1.results=false)∧(∀f∈x1.blocks.take i,f.Few)∧St Y B (LL)) (fun ρ' _=>(x1.blocks.length - iv (ρ' 5)).toNat) ?_ ?_
   · exact BQ
   rintro U E ⟨i,hA,hρ,hi,hl30,hg1,hg2,hd1,Z⟩;obtain ⟨U,rfl⟩:=Km hA hρ;refine' P4;refine' Ab<;>intro O
   · skip
     ((((((refine' XR;intro b2 o2 cs2 x2 hat2 hx2 he2;obtain ⟨vp2,vc2,ve21,ve22,ve23,ve24,ve25,rfl,hp2,hc2,he21,he22,he23,he24,he25⟩:=PV he2;refine' NG;intro p6 E Z;refine Kp Z ?_;intro E Z;have Z:=Z.ns;refine' LA;refine' Ta;(refine' Af<;>intro O);all_goals (refine' LH;(first|(refine' Kj)|(refine' Kg;refine' Kw (c:=je hp2 Z);rintro v1 E ⟨rfl,Z⟩;cases hg3:Tys.great x2.params))));all_goals (refine' XW;refine' Y1;refine' ML;first|refine' Kj|(refine' Kg;refine' Af<;>intro O)));all_goals (refine' XW;refine' XU;refine' ML;first|refine' Kj|(refine' Kg;refine' Af<;>intro O)));all_goals (refine' XW;refine' XU;refine' ML;first|refine' Kj|(refine' Kg;refine' Af<;>intro O)));all_goals (refine' XW;refine' XU;refine' ML;first|refine' Kj|(refine' Kg;refine' Af<;>intro O)));all_goals (refine' XW;refine' XU;refine' ML;first|refine' Kj|(refine' Kg;refine' Af<;>intro O)));all_goals (refine' Ld)
     all_goals
      first
      | (refine' Kf;all_goals (refine' KM);all_goals (exact Av))
      | (refine' Kd;refine' Ko)
     refine Qm ?_;have hlc:=hc2.len;refine' Lm;refine' OG;refine Mt Z [1,3,4,5,6] (fun A LL ρ' B=>∃(k:Nat),Ki ρ' A∧Ki ρ' [(7, .int .i64 k)]∧(k≤x2.code.length)∧(x2.code.length≤200)∧(Tys.great x2.params=false)∧(x2.fin.Few)∧(∀f∈x2.code.take k,f.Few)∧St Y B (LL)) (fun ρ' _=>(x2.code.length - iv (ρ' 7)).toNat) ?_ ?_
     · exact CD
     rintro U E ⟨k,hA,hρ,hk,hl200,hg3,hfin,hd2,Z⟩;obtain ⟨U,rfl⟩:=Km hA hρ;refine' P4;refine' Ab<;>intro O
     · skip
       (refine' XR;intro b3 o3 cs3 x3 hat3 hx3 he3;obtain ⟨vr3,va3,rfl,hr3,ha3⟩:=QN he3;refine' bN;refine' zL;(refine' Af<;>intro O);all_goals (refine' LH;refine' Mu;(first|(refine' Kj)|(refine' Kg;refine Tx vw rfl Ja rfl V ?_;intro b4 o4 cs4 x4 hat4 hx4 he4;rw [hx3] at hx4;obtain rfl:x3=x4:=EP hx4;obtain ⟨vr4,va4,rfl,hr4,ha4⟩:=QN he4));refine' N9;refine' nF;refine' ML;first|refine' Kj|(refine' Kg;refine' Af<;>intro O)));all_goals (refine' Ld)
       all_goals
        first
        | (refine' Kf;all_goals (refine' KM);all_goals (exact Av))
        | (refine' Kd;refine' Ko)
       refine' Mn;(exact BW)
     · refine' LV;refine' Mn;(exact ⟨⟨i+1,zh,zh,V,V,by assumption,by assumption,YI hd1 hx2 ⟨hg3,V,dt hd2 V,hfin⟩,Z.sp⟩,Qh V⟩)
   · refine' LV;refine' Mn;(exact ⟨⟨j+1,zh,zh,V,V,YI hd hx1 ⟨hg1,hg2,V,dt hd1 V⟩,Z.sp⟩,Qh V⟩)
 · refine' Pn;(have I:l.length≤20:=CP;exact Cq)
end
section
variable {Y:Cx}{w:World}{L:List Res}{m:Module}{inp:List Int}
theorem zF {m:List Int}{v:Value}(hl:Kb.sl Y v l)(hm:Kb.sl Y v2 m)(Z:St Y w L):Ka Tryz.prog Qfj [v,v2] w fun u B=>u= .bool (decide (l=m))∧St Y B L:=by
 have hlen:=hl.len;refine Kl Kh Tryz.func78 ?_;refine' MV;refine' zL;refine' zm;refine' zL;(refine' Ad<;>intro O);all_goals (refine' zn)
 all_goals
  first
  | (refine' Kf;refine' KM;((refine ⟨_,rfl,?_,Z.sp⟩;(rw [decide_eq_false];exact AX);done)))
  | (refine' Kd;refine' Ko)
 refine' Nr;refine Mt Z [0,1] (fun A LL ρ' B=>∃(j:Nat),Ki ρ' A∧Ki ρ' [(5, .int .i64 j)]∧(j≤l.length)∧(l.length=m.length)∧(l=m↔l.drop j=m.drop j)∧St Y B (LL)) (fun ρ' _=>(l.length - iv (ρ' 5)).toNat) ?_ ?_
 · exact AE
 rintro U E ⟨j,hA,hρ,hj,hlm,hd,Z⟩;obtain ⟨U,rfl⟩:=Km hA hρ;refine' S4;refine' Ab<;>intro O
 · skip
   refine' TH;refine zD (ci 9 [8]) ?_;have Z:=Z.drew;refine' Me;refine' zi;intro b1 o1 cs1 x1 hat1 hx1 he1;obtain rfl:=Qy he1;refine MG Z ?_;refine' Me;refine' zi;intro b2 o2 cs2 x2 hat2 hx2 he2;obtain rfl:=Qy he2;refine MG Z ?_;(refine' Ad<;>intro O);all_goals (refine' zn)
   all_goals
    first
    | (refine' Kf;refine' KM;((refine ⟨_,rfl,?_,Z.sp⟩;(rw [decide_eq_false];rw [hd,Q7 hx1,Q7 hx2];simp [*]);done)))
    | (refine' Kd;refine' Ko)
   refine' Mn;(exact CC)
 · refine' Pn;(refine ⟨_,rfl,?_,Z.sp⟩;rw [decide_eq_true];rw [hd,ES V,ES V];done)
theorem tI {f:Int}{xs ys xs2 ys2:List Int}{v3 v4:Value}(I:Kb.sl Y v1 xs)(M:Kb.sl Y v2 ys)(h3:Kb.sl Y v3 xs2)(h4:Kb.sl Y v4 ys2)(Z:St Y w L):
 Ka Tryz.prog Qcs [.agg ⟨[.int .i64 e,v1,v2, .int .i64 f]⟩, .agg ⟨[.int .i64 e2,v3,v4, .int .i64 f2]⟩] w fun u B=>u= .bool (decide (e=e2∧xs=xs2∧ys=ys2∧f=f2))∧St Y B L:=by
 (((refine Kl Kh Tryz.func31 ?_;refine' KU;intro p2 E Z;refine zb Z ?_;intro p3 E Z;refine' Kv;refine' L5;refine' KJ;(refine' Ac<;>intro O);all_goals (refine' RM;(first|(refine' Kj)|(refine' Kg;refine' Kk (c:=zF I h3 Z);rintro v1 E ⟨rfl,Z⟩;(cases hdec:decide (xs=xs2));have hg:=of_decide_eq_false hdec;rotate_left;have hg:=of_decide_eq_true hdec;all_goals skip))));all_goals (refine' Lw;refine' RM;(first|(refine' Kj)|(refine' Kg;refine' Kk (c:=zF M h4 Z);rintro v1 E ⟨rfl,Z⟩;(cases hdec:decide (ys=ys2));have hg:=of_decide_eq_false hdec;rotate_left;have hg:=of_decide_eq_true hdec;all_goals skip))));all_goals (refine' Lw;refine' RM;first|refine' Kj|(refine' Kg;refine' Ac<;>intro O)));all_goals (refine' Lw;refine' KQ;refine ⟨_,rfl,?_,Z.sp⟩;(simp [*]);done)
theorem gV (hx:Lr.at Y cs m)(Z:St Y w L):Ka Tryz.prog U5 [.agg ⟨cs⟩, .int .i64 fuel] w fun u B=>∃b,u= .bool b∧(b=false→m.Few∧fuel≤3000)∧St Y B L:=by
 (have hx':=hx;obtain ⟨vf,rfl,hf⟩:=NR hx;refine Kl Kh Tryz.func14 ?_;refine' KU;intro p2 E Z;refine' Kv;refine' MM;refine' Kw (c:=Qhg hx' Z);rintro v1 E ⟨b,rfl,hb,Z⟩;cases b;all_goals (refine' Md;first|refine' Kj|(refine' Kg;refine' Af<;>intro O)));all_goals (refine' Lw;refine' KQ;(first|exact ⟨_,rfl,true,rfl,(fun h=>by cases h),Z.sp⟩|exact ⟨_,rfl,_,rfl,(fun h9=>⟨hb rfl,by first|omega|(have:=of_decide_eq_false h9;omega)⟩),Z.sp⟩))
end
end Go.Proofs.YteflkifmgnpbhaaGreat
namespace Go.Lir
structure Tot (n:Int) (h:HpS):Prop where
 sum:h.left+(h.l.map Rgn.pages).sum=n
 left:0≤h.left
 each:∀r∈h.l,0≤r.pages∧(r.there=false→r.pages=0)
theorem Tot.set (H:Tot n h){k:Nat}{r r':Rgn}(hr:h.l[k]?=some r)(h0:0≤left)(hs:left+r'.pages=h.left+r.pages)(I:0≤r'.pages∧(r'.there=false→r'.pages=0)):Tot n ⟨h.l.set k r',left⟩:=by
 have M:=wV (r':=r') hr;have h3:=H.sum;refine ⟨by show left+((h.l.set k r').map Rgn.pages).sum=n;omega,h0,fun x hx=>?_⟩;rcases Li hx with rfl|hx
 · exact I
 · exact H.each x hx
theorem Tot.at_ (H:Tot n h){k:Int}(hk:h.has k=true):h.l[k.toNat]?=some (h.reg k)∧0≤(h.reg k).pages∧(h.reg k).there=true:=by
 obtain ⟨_,_,I,M⟩:=RV hk;exact ⟨I,(H.each _ (EK I)).1,M⟩
theorem Tot.open (H:Tot n h):Tot n h.open:=by
 unfold HpS.open;split
 · exact H
 · have M:=H.sum
   refine ⟨by simp;omega,H.left,fun r hr=>?_⟩;rcases E8.1 hr with hr|hr
   · exact H.each r hr
   · simp only [FD] at hr;subst hr;exact ⟨by simp,fun e=>by cases e⟩
theorem Tot.shut (H:Tot n h)(v:Val):Tot n (h.shut v):=by
 unfold HpS.shut;split
 · rename_i O;unfold HpS.can at O;rw [EW] at O;obtain ⟨I,M,h3⟩:=H.at_ O.2;have:=H.left;exact H.set I V (by simp [Rgn.none]) ⟨by simp [Rgn.none],fun _=>rfl⟩
 · exact H
theorem Tot.put (H:Tot n h)(v:Val)(x:Int)(t:Thg):Tot n (h.put v x t):=by
 unfold HpS.put;split
 · rename_i O
   obtain ⟨_,hh⟩:=xY O;obtain ⟨I,M,h3⟩:=H.at_ hh;have hl:=H.left
   have hne:(h.reg v.region).more x=true→h.left≠0:=fun hm e=>by
    unfold HpS.code at O;split at O
    · cases O
    · rw [Qip ⟨hm,e⟩] at O;cases O
   (have hf:∀b:Bool,((h.reg v.region).room x).there=(h.reg v.region).there:=fun _=>by unfold Rgn.room;split<;>rfl);by_cases hm:(h.reg v.region).more x=true
   · rw [Qip hm];have hp:(((h.reg v.region).room x).push t).pages=(h.reg v.region).pages+1:=(by unfold Rgn.room;rw [Qip hm];rfl);have:=hne hm;exact H.set I V (by rw [hp];omega) ⟨by rw [hp];omega,fun e=>by have e:((h.reg v.region).room x).there=false:=e;rw [hf true,h3] at e;cases e⟩
   · rw [Qin hm];have hp:(((h.reg v.region).room x).push t).pages=(h.reg v.region).pages:=(by unfold Rgn.room;rw [Qin hm];rfl);exact H.set I hl (by rw [hp]) ⟨by rw [hp];exact M,fun e=>by have e:((h.reg v.region).room x).there=false:=e;rw [hf true,h3] at e;cases e⟩
 · exact H
def Stp.Tt (n:Int):Stp→Prop
 | .go s=>Tot n s.h
 | _=>True
section
variable {m:Module}{s:MS}{n:Int}
def Run.Tt (n:Int):Run→Prop
 | .on s=>Tot n s.h
 | .over s _ _=>Tot n s.h
 | .stuck _=>True
theorem Tot.le (H:Tot n h):h.left≤n:=by
 have:=rC (l:=h.l.map Rgn.pages) (by intro x hx;obtain ⟨r,hr,rfl⟩:=Fq.1 hx;exact (H.each r hr).1);have:=H.sum;omega
theorem Tot.none (H:Tot n h)(hn:l6 h):h.left=n∧h.live=0:=by
 have hall:∀r∈h.l,r.there=false:=fun r hr=>by
  obtain ⟨k,hk⟩:=FL.1 hr;have:=hn k;unfold HpS.has at this;rw [JI hk] at this;exact this
 have hz:(h.l.map Rgn.pages).sum=0:=by
  have:∀l:List Rgn,(∀r∈l,r.pages=0)→(l.map Rgn.pages).sum=0:=by
   intro l hl
   induction l with
   | nil=>rfl
   | cons a l ih=>rw [Ga,G6,hl a Js,ih fun r hr=>hl r (by simp [hr])];rfl
  exact this _ fun r hr=>(H.each r hr).2 (hall r hr)
 refine ⟨by have:=H.sum;omega,?_⟩;unfold HpS.live;rw [List.countP_eq_zero];intro r hr;rw [hall r hr];decide
end
end Go.Lir
namespace Go.Proofs.YteflkifmgnpbhaaGreat
open Go.Lir
attribute [local irreducible] LC.wp Q0 Qp Qk KN Qw LO.wp Q6 Calls
section
variable {Y:Cx}{w:World}{L:List Res}{m:Module}
theorem St.noneNil {n k:Nat}(Z:St Y w L)(hi:nth L i=some (sl T es (.slice none n k) css)):css=[]∧n=0∧k=0:=by
 obtain ⟨F,hr,_⟩:=Z.step hi;have hr:Sl w.heap T es (.slice none n k) F css:=hr;rcases hr.2 with ⟨hv,O,_⟩|⟨b,off,cap,arr,hv,_⟩
 · cases hv;exact ⟨O,rfl,rfl⟩
 · cases hv
theorem oO (hb:l.length≤1000000){v:Value}(Z:St Y w L)(hi:nth L i=some (sl 2 1 v (l.map Qq))):Ka Tryz.prog wi [v] w fun u B=>∃c',Y.Le c'∧Kb.sl c' u l∧St c' B L:=by
 obtain ⟨a,n,hv⟩:=Z.shape hi;rw [EM] at hv
 cases a with
 | none=>
   rw [hv] at hi;obtain ⟨hl0,I,M⟩:=St.noneNil Z hi;obtain rfl:l=[]:=(by simpa using hl0);rw [hv,M];refine Kl Kh Tryz.func65 ?_;refine' MV;refine XF (e:=2) Jk rfl rfl ?_;refine' zn
   all_goals
    first
    | (refine' Kf;refine' KM;(exact A6))
   all_goals (refine' Kn; fail "no law for buildSlice"; refine' zm; refine za Td Vq Z ?_; intro vp1 E css1 hls1 hv1 Z; have Z := Z.ns; refine' KQ; exact A3)
 | some a=>
   refine Kl Kh Tryz.func65 ?_;refine' MV;refine XF (e:=2) Jk hv rfl ?_;refine' RJ;refine' Kn;refine j4 Td ?_;intro v1 E hf1 hs1 hz1;have Z:=Z.new (r:=sl 2 1 v1 []) hs1 hf1 (fun b hb=>Hv hb.symm);refine' zm;((refine Mx Td (.inl Vq) Z vw vw (i:=0) rfl (Z.srcS (i:=i+1) hi (Q9I l)) (by simp only [Fc,EM];omega) ?_;intro v7 w7 Z;have Z:=Z.ns));refine' KQ;((obtain ⟨c3,hle3,Z,hl3⟩:=FV (r:=Kb) (l:=l) (T:=2) (es:=1) (L:=L) Z.sp (by simpa using Xe) rfl V;exact BA))
theorem zG {p:Nat}{c:MC}{back:List Int}(I:back.length≤1000000)(M:out.length≤1000000)(hi:nth L i=some (sl 2 1 c.bv (back.map Qq)))(hj:nth L j=some (sl 2 1 c.ov (out.map Qq)))(Z:St Y w (blk p 55 c.cells::L)):
 Ka Tryz.prog Q5g [.pointer (some ⟨p,0,none⟩)] w fun u B=>∃c' v1 v2,Y.Le c'∧u= .agg ⟨[.int .i64 c.e,v1,v2, .int .i64 c.fu]⟩∧Kb.sl c' v1 back∧Kb.sl c' v2 out∧St c' B (blk p 55 c.cells::L):=by
 obtain ⟨hp,fn,lv,iv,e0,bv,ov,fu0,mo,dn,cc,ca⟩:=c;obtain ⟨ab,nb,eb⟩:=Z.shape (i:=i+1) hi;obtain ⟨ao,no,eo⟩:=Z.shape (i:=j+1) hj;have eb:bv= .slice ab _ nb:=eb;have eo:ov= .slice ao _ no:=eo;subst eb;subst eo;refine Kl Kh Tryz.func29 ?_;refine' Ov;(intro p2 E Z);refine' L8;refine' LF;refine zv Z ?_;refine Qb Z ?_;(intro p3 E Z);((refine Kp Z ?_;intro E Z;have Z:=Z.ns));refine' LA;refine zC [(0,none),(1,none),(3,none),(4,none),(2,some (some [4])),(6,none),(5,some (some [])),(7,some none),(8,none),(9,some none)] ?_;have Z:=Z.drew;refine' KS;refine' TS;refine' Kw (c:=oO (i:=i+3) I Z hi);rintro v1 E ⟨c1,hle1,hv1,Z⟩;refine' LZ;refine' MT;refine' Lh;refine' Kw (c:=oO (i:=j+3) M Z hj);rintro v2 w2 ⟨c2,hle2,hv2,Z⟩;have hv1:=Fo hv1 hle2;obtain ⟨a1,n1,rfl⟩:=E0 hv1;obtain ⟨a2,n2,rfl⟩:=E0 hv2;refine' LY;((refine Lv Z ?_;intro E Z;have Z:=Z.ns));refine' Ku;refine' MT;refine' K8;((refine Lv Z ?_;intro E Z;have Z:=Z.ns));refine' K7;refine' MM;((refine Kp Z ?_;intro E Z;have Z:=Z.ns));refine' LM;refine QO vw (Q3 (n:=4) Jk Jk (Z.blkAt fd) Jr Jr) ?_;((exact BF))
theorem QgT {p:Nat}{c:RC}{back:List Int}(I:back.length≤1000000)(M:out.length≤1000000)(hi:nth L i=some (sl 2 1 c.bv (back.map Qq)))(hj:nth L j=some (sl 2 1 c.ov (out.map Qq)))(Z:St Y w (blk p 66 c.cells::L)):
 Ka Tryz.prog Q6k [.pointer (some ⟨p,0,none⟩)] w fun u B=>∃c' v1 v2,Y.Le c'∧u= .agg ⟨[.int .i64 c.e,v1,v2, .int .i64 c.fu]⟩∧Kb.sl c' v1 back∧Kb.sl c' v2 out∧St c' B (blk p 66 c.cells::L):=by
 obtain ⟨ep,fn,lv,iv,e0,bv,ov,fu0,mo,dn⟩:=c;obtain ⟨ab,nb,eb⟩:=Z.shape (i:=i+1) hi;obtain ⟨ao,no,eo⟩:=Z.shape (i:=j+1) hj;have eb:bv= .slice ab _ nb:=eb;have eo:ov= .slice ao _ no:=eo;subst eb;subst eo;refine Kl Kh Tryz.func38 ?_;refine' Ov;(intro p2 E Z);refine' L8;refine' LF;refine zv Z ?_;refine Qb Z ?_;(intro p3 E Z);((refine Kp Z ?_;intro E Z;have Z:=Z.ns));refine' LA;refine zC [(0,none),(1,none),(3,none),(4,none),(2,some (some [4])),(6,none),(5,some (some [])),(7,some none),(8,none),(9,some none)] ?_;have Z:=Z.drew;refine' KS;refine' TS;refine' Kw (c:=oO (i:=i+3) I Z hi);rintro v1 E ⟨c1,hle1,hv1,Z⟩;refine' LZ;refine' MT;refine' Lh;refine' Kw (c:=oO (i:=j+3) M Z hj);rintro v2 w2 ⟨c2,hle2,hv2,Z⟩;have hv1:=Fo hv1 hle2;obtain ⟨a1,n1,rfl⟩:=E0 hv1;obtain ⟨a2,n2,rfl⟩:=E0 hv2;refine' LY;((refine Lv Z ?_;intro E Z;have Z:=Z.ns));refine' Ku;refine' MT;refine' K8;((refine Lv Z ?_;intro E Z;have Z:=Z.ns));refine' K7;refine' MM;((refine Kp Z ?_;intro E Z;have Z:=Z.ns));refine' LM;refine QO vw (Q3 (n:=4) Jk Jk (Z.blkAt fd) Jr Jr) ?_;((exact BF))
theorem Xs {k:List Int}{v:Value}(hl:Kb.sl Y v l)(hk:Kb.sl Y v2 k)(Z:St Y w L):Ka Tryz.prog Q47 [v,v2] w fun u B=>u= .bool (decide (l=k))∧St Y B L:=by
 have hlen:=hl.len;refine Kl Kh Tryz.func92 ?_;refine' MV;refine' zL;refine' zm;refine' zL;(refine' Ad<;>intro O);all_goals (refine' zn)
 all_goals
  first
  | (refine' Kf;refine' KM;((refine ⟨_,rfl,?_,Z.sp⟩;(rw [decide_eq_false];exact AX);done)))
  | (refine' Kd;refine' Ko)
 refine' Lb;refine' Ob;refine Mt Z [0,1,12] (fun A LL ρ' B=>∃(j:Nat),Ki ρ' A∧Ki ρ' [(13, .int .i64 j)]∧(j≤l.length)∧(l.length=k.length)∧(l=k↔l.drop j=k.drop j)∧St Y B (LL)) (fun ρ' _=>(l.length - iv (ρ' 13)).toNat) ?_ ?_
 · exact AE
 rintro U E ⟨j,hA,hρ,hj,hlm,hd,Z⟩;obtain ⟨U,rfl⟩:=Km hA hρ;refine' Nd;refine' Ab<;>intro O
 · skip
   refine' Mi;refine' KX;refine' MU;refine zD (ci 9 [8]) ?_;have Z:=Z.drew;refine' Me;refine' zi;intro b1 o1 cs1 x1 hat1 hx1 he1;obtain rfl:=Qy he1;refine MG Z ?_;refine' Me;refine' zi;intro b2 o2 cs2 x2 hat2 hx2 he2;obtain rfl:=Qy he2;refine MG Z ?_;(refine' Ad<;>intro O);all_goals (refine' zn)
   all_goals
    first
    | (refine' Kf;refine' KM;((refine ⟨_,rfl,?_,Z.sp⟩;(rw [decide_eq_false];rw [hd,Q7 hx1,Q7 hx2];simp [*]);done)))
    | (refine' Kd;refine' Ko)
   refine' O1;(exact CC)
 · refine' Pn;(refine ⟨_,rfl,?_,Z.sp⟩;rw [decide_eq_true];rw [hd,ES V,ES V];done)
theorem mC {f:Int}{xs ys xs2 ys2:List Int}{v3 v4:Value}(I:Kb.sl Y v1 xs)(M:Kb.sl Y v2 ys)(h3:Kb.sl Y v3 xs2)(h4:Kb.sl Y v4 ys2)(Z:St Y w L):
 Ka Tryz.prog QhW [.agg ⟨[.int .i64 e,v1,v2, .int .i64 f]⟩, .agg ⟨[.int .i64 e2,v3,v4, .int .i64 f2]⟩] w fun u B=>u= .bool (decide (e=e2∧xs=xs2∧ys=ys2∧f=f2))∧St Y B L:=by
 (((refine Kl Kh Tryz.func49 ?_;refine' KU;intro p2 E Z;refine zb Z ?_;intro p3 E Z;refine' Kv;refine' L5;refine' KJ;(refine' Ac<;>intro O);all_goals (refine' RM;(first|(refine' Kj)|(refine' Kg;refine' Kk (c:=Xs I h3 Z);rintro v1 E ⟨rfl,Z⟩;(cases hdec:decide (xs=xs2));have hg:=of_decide_eq_false hdec;rotate_left;have hg:=of_decide_eq_true hdec;all_goals skip))));all_goals (refine' Lw;refine' RM;(first|(refine' Kj)|(refine' Kg;refine' Kk (c:=Xs M h4 Z);rintro v1 E ⟨rfl,Z⟩;(cases hdec:decide (ys=ys2));have hg:=of_decide_eq_false hdec;rotate_left;have hg:=of_decide_eq_true hdec;all_goals skip))));all_goals (refine' Lw;refine' RM;first|refine' Kj|(refine' Kg;refine' Ac<;>intro O)));all_goals (refine' Lw;refine' KQ;refine ⟨_,rfl,?_,Z.sp⟩;(simp [*]);done)
end
section
variable {Y:Cx}{w:World}{L:List Res}{p N:Nat}{c:MC}{z:GZ}{fr:List FrmV}{g:FrmV}{h:HpS}{out inp back:List Int}{m:Module}
theorem zH {k:Nat}(hB:Bnd m k (Kc h g fr inp out k))(hM:m.fault.1=0)(hk:k≤most)(hm:most≤20000):∃f b,m.funcs[g.f]?=some f∧f.blocks[g.b]?=some b∧(∀x∈b.code,Qe5 m x)∧cr f b.fin∧g.i≤1000∧g.f≤1000000∧g.b≤1000000∧fr.length≤900∧g.vals.length≤800000∧g.regs.length≤800000∧(∀x∈fr,x.vals.length≤900000)∧out.length≤2000:=by
 obtain ⟨f,b,hf,hb,I,M,h3⟩:=hB.cur;obtain ⟨q0,q1,q2⟩:=XL hM hf hb;obtain ⟨e1,e2,e3,e4⟩:=iR q2;have hcl:=(bF q0).2.2.2.2;have hfl:=qt hM;have hbl:=(UE (SU hM hf)).2.2.2.2;have hgf:=(EJ.1 hf).1;have hgb:=(EJ.1 hb).1;have hsl:=hB.sl;have hst:(Kc h g fr inp out k).st.length=fr.length:=(by show (fr.map FrmV.abs).reverse.length=_;simp);have I:g.i≤b.code.length:=I;have M:g.vals.length≤8+8*k:=M;have h3:g.regs.length≤16+k:=h3;have hgf:g.f<m.funcs.length:=hgf;have hgb:g.b<f.blocks.length:=hgb;have hto:∀{t:To},Nh f.blocks.length t true=0→ToOK f t:=fun ht=>⟨YP ht,by have:=l8 ht;omega,by have:=l8 ht;omega⟩;refine ⟨f,b,hf,hb,fun x hx=>⟨bu (q1 x hx),WO (q1 x hx),by have:=gg (q1 x hx);omega,by have:=gg (q1 x hx);omega⟩,⟨by have:=oE q2;omega,⟨e1,e2⟩,fun hq=>hto Ef,fun hq=>hto EE⟩,V,V,V,V,V,V,?_,hB.out⟩;intro x hx;obtain ⟨f9,b9,_,_,_,h9,_⟩:=hB.st x.abs (by show x.abs∈(fr.map FrmV.abs).reverse;rw [List.mem_reverse];exact JR hx);have h9:x.vals.length≤8+8*k:=h9;omega
theorem aP (hP:PR m most c fr g N h inp out back (.on s))(hM:m.fault.1=0)(hmo:most≤20000)(hfn:Ks.sl Y c.fn m.funcs)(hi:Kb.sl Y c.iv inp)(Z:St Y w (mS p c fr g N h out (sl 2 1 c.bv (Qe back)::L))):
 Ka Tryz.prog vZ [.pointer (some ⟨p,0,none⟩)] w fun u B=>
  (∀f,Run.step m most (.on s)≠ .stuck f)∧(u=Kz (0,0)∧∃c' fr' g' N' h' inp' out' back',PR m most c' fr' g' N' h' inp' out' back' (Run.step m most (.on s))∧c'.fn=c.fn∧Kb.sl Y c'.iv inp'∧Oz c'<Oz c∧St Y B (mS p c' fr' g' N' h' out' (sl 2 1 c'.bv (Qe back')::L)))∨
  ∃(f:Int) (c':MC),Run.step m most (.on s)= .stuck (20,f)∧u=Kz (20,f)∧c'.c=20∧c'.a=f∧St Y B (blk p 55 c'.cells::L):=by
 have hP':=hP;obtain ⟨hms,rfl,hdn,hc0,he0,hfu,hkm,hmo2,hN,hB⟩:=hP;rw [hms] at hB;obtain ⟨f,b,hf,hb,k1,k2,k3,k4,k5,k6,k7,k8,k9,k10⟩:=zH hB hM hkm hmo;exact (fw (m:=m) (f:=f) (b:=b) (inp:=inp) (fu:=s.fuel+1) hdn hc0 hfn hi hf hb k1 k2 k4 k5 k3 k6 k7 k8 k9 V k10 ⟨V,V⟩ Z).mono fun u B hs=>hP'.step hM hi hs
theorem aQ (hP:DR m most z fr g N h inp out back (.on s))(hM:m.fault.1=0)(hIn:m.InR)(hmo:most≤20000)(hfn:Ks.sl Y z.fn m.funcs)(hi:Kb.sl Y z.iv inp)(Z:St Y w (gX p z fr g N h out (sl 2 1 z.bv (Qe back)::L))):
 Ka Tryz.prog wa [.pointer (some ⟨p,0,none⟩)] w fun u B=>
  (u=Kz (0,0)∧∃z' fr' g' N' h' inp' out' back',DR m most z' fr' g' N' h' inp' out' back' (Run.step m most (.on s))∧z'.fn=z.fn∧Kb.sl Y z'.iv inp'∧St Y B (gX p z' fr' g' N' h' out' (sl 2 1 z'.bv (Qe back')::L)))∨
  ∃(f:Int) (z':GZ) (lv:Value) (left:Int),Run.step m most (.on s)= .stuck (20,f)∧u=Kz (20,f)∧z'.c=20∧z'.a=f∧z'.dn=false∧St Y B (Mg z' p lv left::L):=by
 have hP':=hP;obtain ⟨hms,rfl,hdn,⟨hc0,ha0⟩,he0,hfu,hkm,hmo2,hN,hB,hR⟩:=hP;rw [hms] at hB;have hRg:∀v∈g.vals,Mh v.n:=(by rw [hms] at hR;exact hR.g);obtain ⟨f,b,hf,hb,k1,k2,k3,k4,k5,k6,k7,k8,k9,k10⟩:=zH hB hM hkm hmo;exact (aM (m:=m) (f:=f) (b:=b) (inp:=inp) (fu:=s.fuel) (most:=most) hfn hi hf hb k1 k2 k3 k4 k5 k6 k7 k8 k9 V k10 hRg hdn hc0 ha0 hfu hmo2 V Z).mono fun u B hs=>hP'.step hM hIn hi hs
end
section
variable {Y:Cx}{w:World}{L:List Res}{m:Module}{t p q N:Nat}{c:MC}{fr:List FrmV}{g:FrmV}{h:HpS}{inp out back:List Int}{cy:RC}{fr2:List RFV}{g2:RFV}{s:EstS}{inp2 out2 back2:List Int}{most:Nat}
theorem QR.ns (hQ:QR m most cy fr2 g2 s inp2 out2 back2 (.on ms))(hR:m.runs.1=0)(hsh:m.Short):∀f,Run.step m most (.on ms)≠ .stuck f:=by
 obtain ⟨-, -, -, -, -, -, -, -,hf⟩:=hQ;intro f hs;have I:=yC hR hsh (most:=most) (r:= .on ms) hf;rw [hs] at I;exact I
theorem QP.same {r:Run}(hP:PR m most c fr g N h inp out back r)(hQ:QR m most cy fr2 g2 s inp2 out2 back2 r):cy.dn=c.dn∧cy.e=c.e∧cy.fu=c.fu∧out2=out∧back2=back∧h.left=s.p.fr.length∧s.count=h.live∧out.length≤2000∧back.length≤100000∧(c.e=0→c.dn=true→l6 h):=by
 cases r with
 | on ms=>
   obtain ⟨a1,a2,a3,a4,a5,a6,a7,a8,a9,a10⟩:=hP;obtain ⟨⟨φ,S⟩,b2,b3,b4,b5, -⟩:=hQ;have e1:ms.h=h:=Dd;have e2:ms.out=out:=Dd;have e3:ms.out=out2:=S.out;refine ⟨by rw [a3,b3],by rw [a5,b4],by rw [a6,b5],by rw [←e2,←e3],by rw [a2,b2],by rw [←e1];exact S.hr.left,by rw [←e1];exact S.hr.cnt,by rw [←e2];exact a10.out,by rw [a2];exact FB _,fun _ hd=>by rw [a3] at hd;cases hd⟩
 | over ms e b=>
   obtain ⟨a1,a2,a3,a4,a5,a6,a7,a8⟩:=hP;obtain ⟨b1,b2,b3,b4,b5,b6,b7,b8,b9,b10⟩:=hQ;exact ⟨by rw [a4,b3],by rw [a5,b4],by rw [a6,b5],by rw [a2,b1],by rw [a3,b2],by rw [a1];exact b8,by rw [a1];exact b9,a7,a8,fun h0 _=>by rw [a1];exact b10 V⟩
 | stuck f=>exact hP.elim
@[reducible] def tB (t p q:Nat):Res:=blk t 80 [.pointer (some ⟨p,0,none⟩), .pointer (some ⟨q,0,none⟩), .int .i64 0, .int .i64 0]
@[reducible] def tX (t p q:Nat)(c:MC)(fr:List FrmV)(g:FrmV)(N:Nat)(h:HpS)(out back:List Int)(cy:RC)(fr2:List RFV)(g2:RFV)(s:EstS)(L:List Res):List Res:=
  tB t p q::mS p c fr g N h out (sl 2 1 c.bv (back.map Qq)::rS q cy fr2 g2 s out (sl 2 1 cy.bv (back.map Qq)::L))
theorem aR (hns:∀f,Run.step m most (.on ms)≠ .stuck f)(hU:(∀f,Run.step m most (.on ms)≠ .stuck f)∧(u=Kz (0,0)∧∃c' fr' g' N' h' inp' out' back',PR m most c' fr' g' N' h' inp' out' back' (Run.step m most (.on ms))∧c'.fn=c.fn∧Kb.sl Y c'.iv inp'∧Oz c'<Oz c∧St Y w (mS p c' fr' g' N' h' out' (sl 2 1 c'.bv (Qe back')::L)))∨
 ∃(f:Int) (c':MC),Run.step m most (.on ms)= .stuck (20,f)∧u=Kz (20,f)∧c'.c=20∧c'.a=f∧St Y w (blk p 55 c'.cells::L)):u=Kz (0,0)∧∃c' fr' g' N' h' inp' out' back',PR m most c' fr' g' N' h' inp' out' back' (Run.step m most (.on ms))∧c'.fn=c.fn∧Kb.sl Y c'.iv inp'∧Oz c'<Oz c∧St Y w (mS p c' fr' g' N' h' out' (sl 2 1 c'.bv (back'.map Qq)::L)):=by
 rcases hU with ⟨_,h⟩|⟨f,_,h,_⟩
 · exact h
 · exact absurd h (hns _)
attribute [local irreducible] PR QR Run.step
theorem aS (hP:PR m most c fr g N h inp out back (.on ms))(hQ:QR m most cy fr2 g2 s inp2 out back (.on ms))(hdn:c.dn=false)(hR:m.runs.1=0)(hsh:m.Short)(hmo:most≤20000)(hfn1:Ks.sl Y c.fn m.funcs)(hi1:Kb.sl Y c.iv inp)(hfn2:Ks.sl Y cy.fn m.funcs)(hi2:Kb.sl Y cy.iv inp2)(Z:St Y w (tX t p q c fr g N h out back cy fr2 g2 s L)):
 Ka Tryz.prog Qai [.pointer (some ⟨t,0,none⟩)] w fun u B=>u=Kz (0,0)∧∃c' fr' g' N' h' inp' out' back' cy' fr2' g2' s' inp2',PR m most c' fr' g' N' h' inp' out' back' (Run.step m most (.on ms))∧QR m most cy' fr2' g2' s' inp2' out' back' (Run.step m most (.on ms))∧c'.fn=c.fn∧Kb.sl Y c'.iv inp'∧cy'.fn=cy.fn∧Kb.sl Y cy'.iv inp2'∧Oz c'<Oz c∧St Y B (tX t p q c' fr' g' N' h' out' back' cy' fr2' g2' s' L):=by
 have hns:=hQ.ns hR hsh;refine Kl Kh Tryz.func47 ?_;refine' Ov;(intro p2 E Z);refine' zn;refine' Lb;refine' O4;refine' Y7;((refine' Ln));((refine' Nf));((refine' LI));((refine' LU));((refine' Kg;refine' Kw (c:=s6 (c:=c) (show St Y _ (blk p 55 c.cells::_) from Z.sp));rintro v1 E ⟨rfl,Z⟩;rw [hdn]));refine' UY;refine' KX;refine' LG;refine' Kw (c:=aP hP (Tk hR) hmo hfn1 hi1 (show St Y _ (mS p c fr g N h out (sl 2 1 c.bv (Qe back)::_)) from Z.sp));rintro v1 E hU;obtain ⟨rfl,c',fr',g',N',h',inp',out',back',hP',hfn',hin',hlt,Z⟩:=aR hns hU;unfold Kz;refine Qb Z ?_;(intro p3 E Z);((refine Kp Z ?_;intro E Z;have Z:=Z.ns));refine' L8;refine' LG;refine' Kw (c:=Z9 hQ hR hsh hmo hfn2 hi2 (show St Y _ (rS q cy fr2 g2 s out (sl 2 1 cy.bv (back.map Qq)::_)) from Z.sp));rintro v1 E ⟨rfl,cy',fr2',g2',s',inp2',out2',back2',hQ',hfny,hiny, -,Z⟩;obtain ⟨hdd,hee,hff,e1,e2,hll,hcc,hol,hbl, -⟩:=QP.same hP' hQ';obtain rfl:=e1.symm;obtain rfl:=e2.symm;refine' zn;refine' UQ;refine' L5;refine' TA;refine' Kv;refine' Kd;refine Qm ?_;obtain ⟨ep,y1,y2,y3,y4,y5,y6,y7,y8,y9⟩:=cy';obtain ⟨b5,pp,rv,ho,Z⟩:=Tc (Z.out (r:=ME ep s') fd);obtain rfl:=ho.he;have hdd:y9=c'.dn:=hdd;have hee:y4=c'.e:=hee;have hff:y7=c'.fu:=hff;refine zC [(0,none),(1,none),(2,none),(3,none),(5,none),(6,none),(7,none),(8,none),(4,some (some [8])),(9,some none),(10,none),(11,none),(12,none),(13,none),(14,none),(15,none),(17,none),(18,none),(19,none),(20,none),(16,some (some [20])),(21,some none),(22,some none),(23,none),(24,none),(25,none),(26,none),(27,none),(28,none),(29,none),(30,none),(31,none),(32,none),(34,none),(35,none),(36,none),(37,none),(38,none),(39,none),(40,none),(41,none),(42,none),(43,none),(33,some (some [37,40,43])),(44,some none),(45,none),(46,none),(47,none),(48,none),(49,none),(50,none),(51,none),(52,none),(53,none),(54,none),(56,none),(57,none),(58,none),(59,none),(60,none),(61,none),(62,none),(55,some (some [59,62])),(63,some none),(64,none),(65,none),(66,some none)] ?_;have Z:=Z.drew;refine' U2;refine' Nc;refine' Ot;refine' Kw (c:=s6 (c:=c') (show St Y _ (blk p 55 c'.cells::_) from Z.sp));rintro v1 E ⟨rfl,Z⟩;refine' LY;refine' Kw (c:=aa (c:=⟨.pointer (some ⟨b5,0,none⟩),y1,y2,y3,y4,y5,y6,y7,y8,y9⟩) Z.sp);rintro v1 E ⟨rfl,Z⟩;rw [hdd];refine' Ku;refine pZ Jk rfl rfl rfl ?_;refine' Mm;((refine' Ln));refine' Ku;((refine' Nf));refine' Ku;((refine' LI));refine' Ku;((refine' LU));refine' Ku;((refine' Ln));refine' Ku;((refine' Nf));refine' Ku;((refine' LI));refine' Ku;((refine' LU));refine' Lh;((refine' Kg;refine' Kw (c:=zG (c:=c') (back:=back') (out:=out') (i:=0) (j:=1) (L:=sl 2 1 c'.bv (back'.map Qq)::sl 2 1 c'.ov (out'.map Qq)::_) V V rfl rfl Z.sp);rintro v1 E ⟨k1,v1,v2,hk1,rfl,z1,z2,Z⟩));refine' LY;((refine' Kg;refine' Kw (c:=QgT (c:=⟨.pointer (some ⟨b5,0,none⟩),y1,y2,y3,y4,y5,y6,y7,y8,y9⟩) (back:=back') (out:=out') (i:=0) (j:=1) (L:=sl 2 1 y5 (back'.map Qq)::sl 2 1 y6 (out'.map Qq)::_) V V rfl rfl Z.sp);rintro v1 E ⟨k2,v3,v4,hk2,rfl,z3,z4,Z⟩));refine' K8;((refine' Kg;refine' Kk (c:=mC (Fo z1 hk2) (Fo z2 hk2) z3 z4 Z);rintro v1 E ⟨rfl,Z⟩;rw [decide_eq_true (⟨hee.symm,rfl,rfl,hff.symm⟩:c'.e=y4∧back'=back'∧out'=out'∧c'.fu=y7)]));refine' Ku;((refine' P5));refine' Ku;refine' Ni;refine' Mm;((refine' Ln));refine' Ku;((refine' Nf));refine' Ku;((refine' LI));refine' Ku;((refine' LU));refine' Ku;((refine' Nf));refine' Ku;((refine' LI));refine' Ku;((refine' LU));refine' Ku;((refine' Ln));refine' Ku;((refine' Nf));refine' Ku;((refine' LI));refine' Ku;((refine' LU));refine' Ku;((refine' Nf));refine' Ku;((refine' LI));refine' Ku;((refine' LU));refine' Ku;((refine' Nf));refine' Ku;((refine' LI));refine' Ku;((refine' LU));refine' Lh;((refine' Kg;refine' Kw (c:=VG (N:=N') (s:=h') (h:=c'.hp) Z fd);rintro v1 E ⟨rfl,Z⟩));refine' LY;((refine' Kg;refine' Kw (c:=eh (s:=s'.p) Z fd);rintro v1 E ⟨rfl,Z⟩));refine' Ku;((refine' Kg;rw [hll];refine' TA));refine' Ku;refine' Ni;refine' Mm;((refine' Ln));refine' Ku;((refine' Nf));refine' Ku;((refine' LI));refine' Ku;((refine' LU));refine' Ku;((refine' Nf));refine' Ku;((refine' LI));refine' Ku;((refine' LU));refine' Ku;((refine' Ln));refine' Ku;((refine' Nf));refine' Ku;((refine' LI));refine' Ku;((refine' LU));refine' Ku;((refine' Nf));refine' Ku;((refine' LI));refine' Ku;((refine' LU));refine' Lh;((refine' Kg;refine' Kw (c:=ZA (N:=N') (s:=h') (h:=c'.hp) Z fd);rintro v1 E ⟨rfl,Z⟩));refine' LY;((refine' Kg;have Z:=Rn ho (show St k2 _ (blk b5 73 (pp::L9 rv)::Mp pp s'.p::KV RegV.res rv::_) from Z.sp);refine' Kw (c:=Vn (e:= .pointer (some ⟨b5,0,none⟩)) (s:=s') Z fd);rintro v1 E ⟨rfl,Z⟩;rw [hcc]));refine' Ku;((refine' Kg;refine' TA));refine' Ku;refine' Ni;refine' Oa;refine' TG;refine' Rm;refine zv Z ?_;((refine Kp Z ?_;intro E Z;have Z:=Z.ns));refine' LM;refine QO vw (Q3 (n:=2) Jk Jk (Z.blkAt fd) Jr Jr) ?_;((exact ⟨_,rfl,rfl,c',fr',g',N',h',inp',_,_,⟨.pointer (some ⟨b5,0,none⟩),y1,y2,y3,y4,y5,y6,y7,y8,y9⟩,fr2',g2',s',inp2',hP',hQ',hfn',hin',hfny,hiny,hlt,Ge Z.sp (hk1.trans hk2)⟩))
end
end Go.Proofs.YteflkifmgnpbhaaGreat
