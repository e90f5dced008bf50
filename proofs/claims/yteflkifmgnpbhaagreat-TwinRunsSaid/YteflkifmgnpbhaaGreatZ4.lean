
/- Lemmas of the proof, part 4: contracts. -/
import Derived.Test.YteflkifmgnpbhaaGreatZ3
import Derived.Test.YteflkifmgnpbhaaGreatZ2
open Go Go.Lir Go.Proofs.YteflkifmgnpbhaaGreat
variable {α:Type}{s h:HpS}{a n k:Int}{l ns:List Int}{x:Ins}{cs:List Value}{vs:List Val}{e:Tail}{g':RFV}{b t m j N q:Nat}{f:Fun}{r y d:Res}{c:Int→RStp}{u v1:Value}{v:Val}{g:Frm}{X:Stp}
set_option linter.unusedVariables false
set_option linter.unusedSimpArgs false
set_option maxHeartbeats 1000000
namespace Go.Lir
section
variable {p:Prop}
theorem CS (h:p:=by (exact Ak)):p:=h
theorem CV (h:p:=by show g.vals.length+1≤1000000;omega):p:=h
theorem CX (h:p:=by simp [Val.cells]):p:=h
theorem C4 (h:p:=by rw [EM];omega):p:=h
theorem C7 (h:p:=by (exact Au)):p:=h
theorem C9 (h:p:=by rw [Qc];omega):p:=h
theorem Df (h:p:=by (exact AN)):p:=h
theorem Dg (h:p:=by (exact AH)):p:=h
theorem Di (h:p:=by unfold HpS.open;rw [hf];rfl):p:=h
theorem Dj (h:p:=by rw [E7];exact Aj):p:=h
theorem Dm (h:p:=by unfold HpS.can;rw [decide_eq_false hk,Bool.false_and]):p:=h
theorem Dp (h:p:=by unfold HpS.can;rw [hh,Bool.and_false]):p:=h
theorem Dq (h:p:=by show g.vals.length≤900000;omega):p:=h
theorem Dt (h:p:=by unfold HpS.can;rw [hh];rfl):p:=h
theorem DA (h:p:=by unfold HpS.openV;rw [hf];rfl):p:=h
theorem DC (h:p:=by show¬(h.get v x.k).2≠0;omega):p:=h
theorem DH (h:p:=by rw [hir] at hk7;simpa using hk7):p:=h
theorem DK (h:p:=by simp [oneC,ho1,ho2]):p:=h
theorem DL (h:p:=by rw [Fh];omega):p:=h
theorem DP (h:p:=by show St Y _ (blk p _ _::sl _ 5 c.lv _::sl _ 4 g.vv _::sl _ 1 v7 (List.map _ (g.regs++[h.openV.region]))::_);rw [E7];exact Aj):p:=h
theorem DV (h:p:=by show out.length=2000;omega):p:=h
theorem DW (h:p:=by rw [List.eraseIdx_append_of_length_le (E6 _)];simp):p:=h
theorem DZ (h:p:=by show out.length≠2000;omega):p:=h
theorem D0 (h:p:=by show inp.length=0;omega):p:=h
theorem D1 (h:p:=by unfold HpS.at_;rw [Qin fun h=>ht ⟨h.2.2.1,by have:=h.2.2.2.1;simp only [hrl] at this;exact this⟩]):p:=h
theorem D2 (h:p:=by rw [F3];exact iC (by rw [EZ,hth];rfl)):p:=h
theorem D4 (h:p:=by rw [show Value.int .i64 e.yes.block= .int .i64 ((e.yes.block.toNat:Nat):Int) by rw [Fi hb0]];exact B3):p:=h
theorem D8 (h:p:=by (exact YA Z hel rfl fd (hls _) (Mq (Rq V)) rfl)):p:=h
theorem Ee (h:p:=by rw [F3];exact iC (by rw [EZ,hr];rfl)):p:=h
theorem Eg (h:p:=by unfold RgnV.roomV;rw [Qip hmo,Int.zero_add]):p:=h
theorem Eh (h:p:=by have Z:=Z.nil (T:=3) (es:=1);exact Aj):p:=h
theorem Em (h:p:=by unfold RgnV.roomV;rw [Qin hmo]):p:=h
theorem Ep (h:p:=by rw [Qc];simp only [EY,Fc];omega):p:=h
theorem Er (h:p:=by unfold HpS.setC;rw [e0];simp only [ho.thg hr hth];rfl):p:=h
theorem Ev (h:p:=by unfold HpS.at_;rw [Qin (by rw [hh];simp)]):p:=h
theorem EC (h:p:=by unfold HpS.get;rw [e0];simp only [ho.thg hr hth];rfl):p:=h
theorem EG (h:p:=by unfold HpS.at_;rw [Qin fun h=>hv h.1]):p:=h
end
end Go.Lir
namespace Go.Lir
section
variable {p:Prop}
theorem Ak (h:p:=by exact QJ Z rfl fd rfl):p:=h
theorem Am (h:p:=by exact .inl ⟨_,rfl,hG⟩):p:=h
theorem Aq (h:p:=by exact ⟨_,rfl,by simp [Lk, *],rfl⟩):p:=h
theorem As (h:p:=by exact .inl ⟨hX.trans (Qu hv),rfl,Z.sp⟩):p:=h
theorem Au (h:p:=by exact qg Z Ja rfl rfl rfl):p:=h
theorem AB (h:p:=by exact ⟨_,rfl,Z.sp, .inl ⟨e0,rfl⟩⟩):p:=h
theorem AH (h:p:=by exact YA Z hel rfl fd (QG fr g) (Rp fr g) rfl):p:=h
theorem AK (h:p:=by exact ⟨_,rfl,rfl,(QQ ho (L:=L.eraseIdx i) Z.sp).back hi⟩):p:=h
theorem AM (h:p:=by exact .inl ⟨hX.trans ((Q1 hv).trans (Qu hnn)),rfl,Z.sp⟩):p:=h
theorem AN (h:p:=by exact m8 Z Ja rfl rfl):p:=h
theorem AV (h:p:=by exact ⟨_,rfl,by rw [e0],Z⟩):p:=h
theorem AY (h:p:=by exact .inr ⟨2,hX.trans ((Q1 hv).trans ((Q1 hnn).trans (kT hk4 e0))),rfl,fr,g.nx,N,V,Z.sp⟩):p:=h
theorem A1 (h:p:=by exact .inl ⟨hX.trans ((Q1 hv).trans ((Q1 hnn).trans (kU (e0 v hv)))),rfl,Z.sp⟩):p:=h
theorem A2 (h:p:=by exact ⟨_,rfl,by simp [Oe, *],rfl⟩):p:=h
theorem A7 (h:p:=by exact .inr ⟨6,(Q1 hv).trans ((Q1 hm).trans ((Qin V).trans (rE e0))),rfl,fr,g,N+1,E6 _,by rw [xd V] at Z;exact Z.sp⟩):p:=h
theorem A8 (h:p:=by exact YA Z hel rfl fd (Qc fr g) (Qj fr g) rfl):p:=h
theorem A9 (h:p:=by exact .inl ⟨hX.trans ((Q1 hv).trans ((Qin V).trans (Qip (by show (h.get v x.k).2≠0;omega)))),rfl,Z.sp⟩):p:=h
theorem Bc (h:p:=by exact .inl ⟨_,rfl,c.lv,c.iv,c.ov,fr,_,_,_,inp,out,(Q1 hv).trans ((Q1 hm).trans ((Qin V).trans (nS e0))),hi,E6 _,rfl,Z.sp⟩):p:=h
theorem Bg (h:p:=by exact .inr ⟨3,(Q1 hv).trans ((Q1 hm).trans (Qip V)),rfl,fr,g,N,V,Z.sp⟩):p:=h
theorem Bm (h:p:=by exact .inl ⟨(Q1 hv).trans (Qu hm),rfl,Z.sp⟩):p:=h
theorem Bn (h:p:=by exact .inl ⟨Qu hv,rfl,Z.sp⟩):p:=h
theorem Bo (h:p:=by exact ⟨_,rfl,rfl,(QQ ho (L:=L.eraseIdx i) Z.sp).back0 hi⟩):p:=h
theorem Bs (h:p:=by exact ⟨_,rfl,rfl,(QQ ho1 (L:=L.eraseIdx i) Z.sp).back hi⟩):p:=h
theorem Bt (h:p:=by exact .inl ⟨(Q1 hv).trans ((Q1 hm).trans ((Qin V).trans (rF e0 e1))),rfl,Z.sp⟩):p:=h
theorem BB (h:p:=by exact ⟨.inl ⟨fun v' h h4=>(by rw [hv] at h;cases h;omega),rfl⟩,Z.sp⟩):p:=h
theorem BO (h:p:=by exact ⟨0, .slice none 0 0,[],zh,zh,V,rfl,rfl,kV,Z.sp⟩):p:=h
theorem B3 (h:p:=by exact xe (g':=⟨g.f,e.yes.block.toNat,0, .slice a2 (vs.map Qq).length n2,vs⟩)):p:=h
theorem B5 (h:p:=by exact ⟨0, .slice none 0 0,[],zh,zh,V,rfl,rfl,eK,Z.sp⟩):p:=h
theorem Cm (h:p:=by exact .inl ⟨hX.trans ((Q1 hrs).trans ((Q1 hvs).trans (Qip V))),rfl,Z.sp⟩):p:=h
theorem Cy (h:p:=by exact .inl ⟨hX.trans ((Q1 hv).trans (Qip V)),rfl,Z.sp⟩):p:=h
theorem CB (h:p:=by exact .inl ⟨hX.trans ((Q1 hrs).trans (Qu hvs)),rfl,Z.sp⟩):p:=h
theorem CH (h:p:=by exact ⟨_,rfl,Z.sp, .inr ⟨m,t,th,by rw [e1];simp [hta,hk4],r,b5,o5,hr,hth,rfl,hel5⟩⟩):p:=h
theorem CK (h:p:=by exact ⟨⟨j+1,_,zh,zh,V,by rw [show ((j+1:Nat):Int)=(j:Int)+1 by omega,Q8c,E7];exact Z.sp⟩,Qh V⟩):p:=h
theorem CL (h:p:=by exact ⟨_,rfl,Z.sp, .inl ⟨by rw [e1];simp [hta,hk4],rfl⟩⟩):p:=h
theorem CN (h:p:=by exact YA Z hel7 rfl fd (Qc fr g.nx) (Qj fr g.nx) rfl):p:=h
end
end Go.Lir
namespace Go.Proofs.YteflkifmgnpbhaaGreat
open Go.Lir
attribute [local irreducible] LC.wp Q0 Qp Qk KN Qw LO.wp Q6 Calls
section
variable {Y:Cx}{w:World}{L:List Res}{p:Nat}{c:RC}{fr:List RFV}{g:RFV}{s:EstS}{out:List Int}
theorem EstS.stores_0 {s:EstS}:s.stores a (l.take 0)=s:=rfl
attribute [local irreducible] RFrm.val RFrm.args EstS.get EstS.getV EstS.code EstS.word EstS.store EstS.stores
theorem Vx {vs:List Int}(hx:K1.at Y cs x)(h8:x.args.length≤100)(hN:n=max (x.args.length:Int) 1)(hf:fr.length≤1000)(hn:g.vals.length≤900000)(ha:g.abs.val x.a=some a)(hv:g.abs.args x.args=some vs)(Z:St Y w (rS p c fr g s out L)):Kr Tryz.prog Q7v [.pointer (some ⟨p,0,none⟩), .agg ⟨cs⟩] w
 (fun u B=>s.code a n≠14∧u= .tuple #[]∧∃tv,St Y B (rS p c fr (g.push tv [s.getV a n]) ((s.get a n).stores (s.getV a n) vs) out L))
 (fun u B=>s.code a n=14∧u=X1 6∧St Y B (rS p c fr g (s.get a n) out L)):=by
 obtain ⟨vr,va,rfl,hr,ha1⟩:=QN hx;obtain ⟨ep,f1,l1,i1,e1,b2,o2,f2,m2,d2⟩:=c;have hsg:=fun (w:World) (L:List Res) (Z:St Y w (rS p ⟨ep,f1,l1,i1,e1,b2,o2,f2,m2,d2⟩ fr g s out L))=>Vv a n Z;rw [hN] at hsg;unfold Kr;refine Kl Kh Tryz.func138 ?_;refine' KU;intro p3 E Z;refine' LA;refine zC [(0,none),(1,none),(2,none),(3,none),(5,none),(6,none),(7,none),(8,none),(4,some (some [6])),(9,some none),(10,some none)] ?_;have Z:=Z.drew;refine' OI;refine' TO;refine' zL;refine' Ku;refine bn rfl rfl ?_;refine' Lh;refine' Kk (c:=P7 hf (show St Y _ (rL p _ fr g _) from Z.sp) ha);rintro v1 E ⟨rfl,Z⟩;refine' LY;refine MK (c:=hsg _ _ (show St Y _ (rS p _ fr g s out _) from Z.sp)) (p:=by rintro u9 w9 ⟨h14,rfl,Z⟩;(repeat (refine' Qo));refine' Qi;refine .inr ⟨_,rfl,?_⟩;rw [←hN] at h14 Z;exact ⟨h14,rfl,Z.sp⟩) (h:=?_);rintro u1 w2 ⟨h14,rfl,Z⟩;rw [←hN] at h14 Z ⊢;refine' Oa;refine' Lb;refine' KJ;refine' Kk (c:=eJ V hf ha1 hv (show St Y _ (rL p _ fr g _) from Z.sp));rintro v2 w2 ⟨hvl,ho2,Z⟩;refine PZ Z ?_;refine' OG;refine zo [0,4,20,21] (fun A ρ' B=>∃(q:Nat),Ki ρ' A∧Ki ρ' [(22, .int .i64 q)]∧(q≤vs.length)∧St Y B (rS p ⟨ep,f1,l1,i1,e1,b2,o2,f2,m2,d2⟩ fr g ((s.get a n).stores (s.getV a n) (vs.take q)) out (sl 2 1 v2 (vs.map Qq)::blk p3 84 [.int .i64 x.op, .int .i64 x.a, .int .i64 x.b, .int .i64 x.c, .int .i64 x.k, .int .i64 x.n,vr,va]::L))) (fun ρ' _=>(vs.length - iv (ρ' 22)).toNat) ?_ ?_
 · exact ⟨0,zh,zh,V,by rw [EstS.stores_0];exact Z.sp⟩
 rintro U E ⟨q,hA,hρ,hq,Z⟩;obtain ⟨U,rfl⟩:=Km hA hρ;refine' Nd;refine' Ab<;>intro O
 · refine' TH;have hlt:q<vs.length:=CP;have hvq:vs[q]?=some (vs.getD q 0):=(by rw [EL,EI hlt];rfl);refine' Lp;refine OW Z vw rfl fd C4 ?_;rw [EM];intro b2 o2 hel2;refine QV Z hel2 rfl fd (EM _) (show (vs.map Qq)[q]?=some (Qq (vs.getD q 0)) by rw [EZ,hvq];rfl) rfl ?_;refine' X0;obtain ⟨b9,pp,rv,ho,Z⟩:=Tc (Z.out (i:=4) rfl);obtain rfl:=ho.he;refine' P6;refine' LG;refine' Me;refine dd rfl rfl ?_;refine' zm;refine' KZ (c:=nM (s:=((s.get a n).stores (s.getV a n) (vs.take q)).p) (wr (s.getV a n+q)) (vs.getD q 0) Z Yx);rintro v1 E ⟨rfl,Z⟩;have Z:=Z.ns;have Z:=nR ho Z;rw [←EstS.stores_take hvq] at Z;refine' S9;(exact ⟨⟨q+1,zh,zh,V,Z.sp⟩,Qh V⟩)
 · refine' LV;refine' NH;refine KO Z [_] ?_;intro b1 E Z;rw [Fg V] at Z;have Z:=Fz (T:=2) (es:=1) (css:=[s.getV a n].map Qq) Z rfl C2 rfl;have Z:St Y _ (rL p _ fr g (sl 2 1 (.slice (some ⟨b1,0,none⟩) 1 1) ([s.getV a n].map Qq)::_)):=Z.sp;refine' Kk (c:=X3 (j:=0) hf C0 Z rfl);rintro u1 E ⟨tv,rfl,Z⟩;refine' Pm;exact .inl ⟨_,rfl,h14,rfl,tv,Z.sp⟩
end
section
variable {Y:Cx}{w:World}{L:List Res}{p:Nat}{c:RC}{fr:List RFV}{g:RFV}{s:EstS}{out:List Int}
attribute [local irreducible] RFrm.val RFrm.args EstS.get EstS.getV EstS.code EstS.word EstS.store EstS.stores
@[reducible] def RC.did (c:RC)(bv:Value):RC:=⟨c.ep,c.fn,c.lv,c.iv,c.e,bv,c.ov,c.fu,c.mo,true⟩
theorem eL {vs:List Int}(hx:La.at Y cs e)(h3:e.op=3)(h8:e.args.length≤100)(hv:g.abs.args e.args=some vs)(Z:St Y w (rS p c [] g s out L)):
 Ka Tryz.prog jb [.pointer (some ⟨p,0,none⟩), .agg ⟨cs⟩] w fun u B=>∃bv,u= .tuple #[]∧oneC bv=true∧St Y B (rS p (c.did bv) [] g s out (sl 2 1 bv (vs.map Qq)::L)):=by
 obtain ⟨v1,v2,v3,v4,v5,rfl,k1,k2,k3,k4,k5⟩:=PA hx;have hf0:([]:List RFV).length≤1000:=C3;refine Kl Kh Tryz.func84 ?_;refine' KU;intro p3 E Z;refine' L8;refine' Kw (c:=X2 hf0 (show St Y _ (rL p c [] g _) from Z.sp));rintro v9 E ⟨b9,o9,rfl,hel,Z⟩;refine' OG;refine' L5;refine' SW;refine' zm;((refine' Ln));((refine' Nf));((refine' LI));((refine' LU));((refine' Kg;((refine Qt Z vw fd (show (Og [] g).length=1 from rfl) ?_))));(refine' Kg;refine' SW);refine' OZ;refine' Kv;refine' Kf;refine' RN;refine' KJ;refine' Kk (c:=eJ V hf0 k5 hv (show St Y _ (rL p c [] g _) from Z.sp));rintro u2 w2 ⟨hvl,ho2,Z⟩;refine' RG;((refine Lv Z ?_;intro E Z;have Z:=Z.ns));refine' LF;((refine Lv Z ?_;intro E Z;have Z:=Z.ns));refine' Pm;exact ⟨_,rfl,u2,rfl,ho2,Z.sp⟩
end
section
variable {Y:Cx}{w:World}{L:List Res}{p:Nat}{c:RC}{fr:List RFV}{g:RFV}{s:EstS}{out:List Int}
attribute [local irreducible] RFrm.val RFrm.args EstS.get EstS.getV EstS.code EstS.word EstS.store EstS.stores
@[reducible] def RC.upd (c:RC)(lv iv ov:Value):RC:=⟨c.ep,c.fn,lv,iv,c.e,c.bv,ov,c.fu,c.mo,c.dn⟩
theorem QiI {k:RFV}:((Og (fr++[k]) g).take (fr++[k]).length).drop 0=Og fr k:=by
 unfold Og;rw [FG,Hn Js,Fg Js,E7];rfl
theorem eM {k:RFV}(Z:St Y w (KV RFV.res (fr++[k])::L)):St Y w (sl 2 1 k.vv (k.vals.map Qq)::KV RFV.res fr::L):=by
 have I:=Z.bigOut (i:=0) (k:=fr.length) (x:=k) rfl Js;have M:(fr++[k]).eraseIdx fr.length=fr:=DW;rw [EV,M] at I;exact I
theorem eN {vs:List Int}{k:RFV}(hx:La.at Y cs e)(h3:e.op=3)(h8:e.args.length≤100)(hv:g.abs.args e.args=some vs)(hf:fr.length≤900)(hn:k.vals.length≤900000)(Z:St Y w (rS p c (fr++[k]) g s out L)):
 Ka Tryz.prog jb [.pointer (some ⟨p,0,none⟩), .agg ⟨cs⟩] w fun u B=>∃lv tv,u= .tuple #[]∧St Y B (rS p (c.upd lv c.iv c.ov) fr (k.push tv vs) s out L):=by
 obtain ⟨v1,v2,v3,v4,v5,rfl,k1,k2,k3,k4,k5⟩:=PA hx;have hl1:(fr++[k]).length=fr.length+1:=C3;have hf0:(fr++[k]).length≤1000:=CP;refine Kl Kh Tryz.func84 ?_;refine' KU;intro p3 E Z;refine' L8;refine' Kw (c:=X2 hf0 (show St Y _ (rL p c (fr++[k]) g _) from Z.sp));rintro v9 E ⟨b9,o9,rfl,hel,Z⟩;refine' OG;refine' L5;refine' SW;refine' zm;((refine' Ln));((refine' Nf));((refine' LI));((refine' LU));((refine' Kg;((refine Qt (n:=fr.length+2) Z vw fd Dr ?_))));(refine' Kg;refine' PE);refine' OZ;refine' Kv;refine' Kd;refine' L5;refine' UW;refine' Kf;refine' Nj;refine' Kk (c:=eJ V hf0 k5 hv (show St Y _ (rL p c (fr++[k]) g _) from Z.sp));rintro u2 w2 ⟨hvl,ho2,Z⟩;obtain ⟨a2,n2,rfl⟩:=Z.shape (i:=4) rfl;refine' MU;refine zD (ci 15 [14]) ?_;have Z:=Z.drew;refine' Me;refine' LG;refine' OM;((refine Qt (n:=fr.length+2) Z vw fd Dr ?_));refine' NY;rw [show ((fr.length+2:Nat):Int) - 1=(((fr++[k]).length:Nat):Int) by omega];refine pV (l':=0) (h':=(fr++[k]).length) Z vw (i:=1) rfl rfl ⟨_,rfl⟩ rfl Dr V ?_;intro v7 Z;rw [QiI] at Z;have Z:=Z.ns;have ho7:=Z.oneC (i:=1) rfl;refine' LF;((refine Lv Z ?_;intro E Z;have Z:=Z.ns));refine' U3;have Z:=eM (fr:=fr) (k:=k) (L:=blk p 66 _::sl 138 4 v7 (Og fr k)::sl 2 1 (.slice a2 _ n2) _::ME c.ep s::sl 2 1 c.ov (out.map Qq)::L) Z.sp;have Z:St Y _ (rL p (c.upd v7 c.iv c.ov) fr k (sl 2 1 (.slice a2 (vs.map Qq).length n2) (vs.map Qq)::ME c.ep s::sl 2 1 c.ov (out.map Qq)::L)):=Z.sp;refine' Kk (c:=X3 (j:=0) (vs:=vs) V V Z rfl);rintro u1 E ⟨tv,rfl,Z⟩;refine' Pm;exact ⟨_,rfl,v7,tv,rfl,Z.sp⟩
end
section
variable {Y:Cx}{w:World}{L:List Res}{p:Nat}{c:RC}{fr:List RFV}{g:RFV}{s:EstS}{out:List Int}
attribute [local irreducible] RFrm.val RFrm.args EstS.get EstS.getV EstS.code EstS.word EstS.store EstS.stores
theorem xe:(Og fr g).set fr.length g'.cells=Og fr g':=by
 unfold Og;rw [Gf _ _ Js];simp
theorem eO {vs:List Int}(hx:La.at Y cs e)(M:e.op=2)(ha:g.abs.val e.a=some 0)(h8:e.no.args.length≤100)(hb0:0≤e.no.block)(hv:g.abs.args e.no.args=some vs)(hf:fr.length≤1000)(Z:St Y w (rS p c fr g s out L)):
 Ka Tryz.prog jb [.pointer (some ⟨p,0,none⟩), .agg ⟨cs⟩] w fun u B=>∃vv,u= .tuple #[]∧St Y B (rS p c fr ⟨g.f,e.no.block.toNat,0,vv,vs⟩ s out L):=by
 obtain ⟨v1,v2,v3,v4,v5,rfl,k1,k2,k3,k4,k5⟩:=PA hx;refine Kl Kh Tryz.func84 ?_;refine' KU;intro p3 E Z;refine' L8;refine' Kw (c:=X2 hf (show St Y _ (rL p c fr g _) from Z.sp));rintro v9 E ⟨b9,o9,rfl,hel,Z⟩;refine' OG;refine' L5;refine' PE;refine' PH;refine' UR;refine' Ni;refine' Kv;refine' Kd;refine' L5;refine' Pk;refine' Kd;refine' L5;refine' SW;refine' zm;((refine' Ln));((refine' LI));((refine' LU));((refine' Kg;refine' Kk (c:=P7 hf (show St Y _ (rL p c fr g _) from Z.sp) ha);rintro v7 w7 ⟨rfl,Z⟩));(refine' Kg;refine' SW);refine' OZ;refine' Kv;refine' Kf;refine zC [(0,none),(1,none),(2,none),(3,none),(4,none),(5,none),(6,none),(7,none),(8,none),(9,none),(10,none),(11,none),(12,some (some [4,7])),(13,none),(14,none),(15,some none)] ?_;have Z:=Z.drew;refine' OI;refine' OL;((refine QV Z hel rfl fd (QG fr g) (Rp fr g) rfl ?_));refine' Ku;refine' Rl;refine' Mm;refine' Rl;refine' Lh;refine' Kk (c:=eJ V hf k4 hv (show St Y _ (rL p c fr g _) from Z.sp));rintro u2 w2 ⟨hvl,ho2,Z⟩;obtain ⟨a2,n2,rfl⟩:=Z.shape (i:=4) rfl;refine' zt;refine ⟨EN.2 ⟨Dg,EN.2 ⟨CS,fun _ h=>(ET h).elim⟩⟩,?_⟩;refine' KS;refine PF [_,_,_,_] ?_;refine' Ku;refine' RF;refine' K8;((refine br (css':=Og fr ⟨g.f,e.no.block.toNat,0, .slice a2 (vs.map Qq).length n2,vs⟩) Z hel rfl vw Jr fd (QG fr g) (Rp fr g) rfl (by simp [oneC,ho2]) (by rw [show Value.int .i64 e.no.block= .int .i64 ((e.no.block.toNat:Nat):Int) by rw [Fi hb0]];exact xe (g':=⟨g.f,e.no.block.toNat,0, .slice a2 (vs.map Qq).length n2,vs⟩)) ?_;intro w8 Z;have Z:=Z.ns));refine' bO;exact ⟨_,rfl,_,rfl,Z.sp⟩
theorem eP {vs:List Int}(hx:La.at Y cs e)(M:e.op=2)(h0:n≠0)(ha:g.abs.val e.a=some n)(h8:e.yes.args.length≤100)(hb0:0≤e.yes.block)(hv:g.abs.args e.yes.args=some vs)(hf:fr.length≤1000)(Z:St Y w (rS p c fr g s out L)):
 Ka Tryz.prog jb [.pointer (some ⟨p,0,none⟩), .agg ⟨cs⟩] w fun u B=>∃vv,u= .tuple #[]∧St Y B (rS p c fr ⟨g.f,e.yes.block.toNat,0,vv,vs⟩ s out L):=by
 obtain ⟨v1,v2,v3,v4,v5,rfl,k1,k2,k3,k4,k5⟩:=PA hx;refine Kl Kh Tryz.func84 ?_;refine' KU;intro p3 E Z;refine' L8;refine' Kw (c:=X2 hf (show St Y _ (rL p c fr g _) from Z.sp));rintro v9 E ⟨b9,o9,rfl,hel,Z⟩;refine' OG;refine' L5;refine' PE;refine' PH;refine' UR;refine' Ni;refine' Kv;refine' Kd;refine' L5;refine' Pk;refine' Kd;refine' L5;refine' SW;refine' zm;((refine' Ln));((refine' LI));((refine' LU));((refine' Kg;refine' Kk (c:=P7 hf (show St Y _ (rL p c fr g _) from Z.sp) ha);rintro v7 w7 ⟨rfl,Z⟩));(refine' Kg;refine' PE);refine' OZ;refine' Kv;refine' Kd;refine zC [(0,none),(1,none),(2,none),(3,none),(4,none),(5,none),(6,none),(7,none),(8,none),(9,none),(10,none),(11,none),(12,some (some [4,7])),(13,none),(14,none),(15,some none)] ?_;have Z:=Z.drew;refine' OI;refine' OL;((refine QV Z hel rfl fd (QG fr g) (Rp fr g) rfl ?_));refine' Ku;refine' Rl;refine' Mm;refine' Rl;refine' Lh;refine' Kk (c:=eJ V hf k2 hv (show St Y _ (rL p c fr g _) from Z.sp));rintro u2 w2 ⟨hvl,ho2,Z⟩;obtain ⟨a2,n2,rfl⟩:=Z.shape (i:=4) rfl;refine' zt;refine ⟨EN.2 ⟨Dg,EN.2 ⟨CS,fun _ h=>(ET h).elim⟩⟩,?_⟩;refine' KS;refine PF [_,_,_,_] ?_;refine' Ku;refine' RF;refine' K8;((refine br (css':=Og fr ⟨g.f,e.yes.block.toNat,0, .slice a2 (vs.map Qq).length n2,vs⟩) Z hel rfl vw Jr fd (QG fr g) (Rp fr g) rfl (by simp [oneC,ho2]) D4 ?_;intro w8 Z;have Z:=Z.ns));refine' bO;exact ⟨_,rfl,_,rfl,Z.sp⟩
theorem eQ {vs:List Int}(hx:La.at Y cs e)(M:e.op≠2)(h3:e.op≠3)(h8:e.yes.args.length≤100)(hb0:0≤e.yes.block)(hv:g.abs.args e.yes.args=some vs)(hf:fr.length≤1000)(Z:St Y w (rS p c fr g s out L)):
 Ka Tryz.prog jb [.pointer (some ⟨p,0,none⟩), .agg ⟨cs⟩] w fun u B=>∃vv,u= .tuple #[]∧St Y B (rS p c fr ⟨g.f,e.yes.block.toNat,0,vv,vs⟩ s out L):=by
 obtain ⟨v1,v2,v3,v4,v5,rfl,k1,k2,k3,k4,k5⟩:=PA hx;refine Kl Kh Tryz.func84 ?_;refine' KU;intro p3 E Z;refine' L8;refine' Kw (c:=X2 hf (show St Y _ (rL p c fr g _) from Z.sp));rintro v9 E ⟨b9,o9,rfl,hel,Z⟩;refine' OG;refine' L5;refine' PE;refine' PH;refine' UR;refine' Ni;refine' Kv;refine' Kd;refine' L5;refine' Pk;refine' Kd;refine' L5;refine' PE;refine' PH;refine' Kj;refine' Ni;refine' Kv;refine' Kd;refine zC [(0,none),(1,none),(2,none),(3,none),(4,none),(5,none),(6,none),(7,none),(8,none),(9,none),(10,none),(11,none),(12,some (some [4,7])),(13,none),(14,none),(15,some none)] ?_;have Z:=Z.drew;refine' OI;refine' OL;((refine QV Z hel rfl fd (QG fr g) (Rp fr g) rfl ?_));refine' Ku;refine' Rl;refine' Mm;refine' Rl;refine' Lh;refine' Kk (c:=eJ V hf k2 hv (show St Y _ (rL p c fr g _) from Z.sp));rintro u2 w2 ⟨hvl,ho2,Z⟩;obtain ⟨a2,n2,rfl⟩:=Z.shape (i:=4) rfl;refine' zt;refine ⟨EN.2 ⟨Dg,EN.2 ⟨CS,fun _ h=>(ET h).elim⟩⟩,?_⟩;refine' KS;refine PF [_,_,_,_] ?_;refine' Ku;refine' RF;refine' K8;((refine br (css':=Og fr ⟨g.f,e.yes.block.toNat,0, .slice a2 (vs.map Qq).length n2,vs⟩) Z hel rfl vw Jr fd (QG fr g) (Rp fr g) rfl (by simp [oneC,ho2]) D4 ?_;intro w8 Z;have Z:=Z.ns));refine' bO;exact ⟨_,rfl,_,rfl,Z.sp⟩
end
section
theorem xf (b:Bool)(w:World):Ka Tryz.prog Qff [.bool b] w fun v B=>v= .int .i64 (if b then 1 else 0)∧B=w:=by
 cases b
 all_goals
  all_goals (refine Kl Kh Tryz.func195 ?_;refine' NO;(repeat (refine Q4 ?_));refine' Lb;refine Lf ?_;(repeat (refine Q4 ?_)))
  all_goals
   first
   | (refine' Kf;refine' NO;(repeat (refine Q4 ?_));refine' NB;(repeat (refine' NC));refine' zf;(exact Ax))
   | (refine' Kd;refine' N7;(repeat (refine Q4 ?_)))
  all_goals (refine' NO;(repeat (refine Q4 ?_));refine' NB;(repeat (refine' NC));refine' zf;exact Ax)
theorem xg (a b:Int)(w:World):Ka Tryz.prog QdQ [.int .i64 a, .int .i64 b] w fun v B=>v= .tuple #[.int .i64 (Oe a b).1, .bool (Oe a b).2]∧B=w:=by
 refine Kl Kh Tryz.func194 ?_;refine' N0;(repeat (refine Q4 ?_));refine' Lb;refine Lf ?_;(repeat (refine Q4 ?_));refine' PS;refine' Kn;(refine' Ac<;>intro O);all_goals (refine' LK;(repeat (refine Q4 ?_)))
 all_goals
  first
  | (refine' Kf;refine' N0;(repeat (refine Q4 ?_));refine' Lq;(exact A2))
  | (refine' Kd
     refine' Kn;(refine' Ac<;>intro O);all_goals (refine' LK;(repeat (refine Q4 ?_)))
     all_goals
      first
      | (refine' Kf;refine' KX;refine jK rfl ?_;refine' O3;(repeat (refine Q4 ?_));refine' Lq;(exact A2))
      | (refine' Kd;refine' Ko))
 refine' KW;refine bo rfl rfl V ?_;refine' O3;(repeat (refine Q4 ?_));refine' NB;(repeat (refine' NC));refine' XM;(exact A2)
set_option maxHeartbeats 1000000 in
theorem rG (k a b : Int)(w :World):Ka Tryz.prog wF [.int .i64 k, .int .i64 a, .int .i64 b] w fun v B=>v= .tuple #[.int .i64 (Lk k a b).1, .bool (Lk k a b).2]∧B=w:=by
 cases hd:(Oe a b).2
 all_goals
  all_goals (refine Kl Kh Tryz.func134 ?_;refine' N0;(repeat (refine Q4 ?_));refine' Lb;refine Lf ?_;(repeat (refine Q4 ?_));refine' PS;refine' Kn;refine' Ac<;>intro O);all_goals (refine' LK;(repeat (refine Q4 ?_)))
  all_goals
   first
   | (refine' Kf;all_goals (refine' KW;refine dd rfl rfl ?_;refine' O3;(repeat (refine Q4 ?_));refine' Lq);all_goals (exact Aq))
   | (refine' Kd
      all_goals (refine' Kn;refine' Ac<;>intro O);all_goals (refine' LK;(repeat (refine Q4 ?_)))
      all_goals
       first
       | (refine' Kf;all_goals (refine' KW;refine mU rfl rfl ?_;refine' O3;(repeat (refine Q4 ?_));refine' Lq);all_goals (exact Aq))
       | (refine' Kd
          all_goals (refine' Kn;refine' Ac<;>intro O);all_goals (refine' LK;(repeat (refine Q4 ?_)))
          all_goals
           first
           | (refine' Kf;all_goals (refine' KW;refine px rfl rfl ?_;refine' O3;(repeat (refine Q4 ?_));refine' Lq);all_goals (exact Aq))
           | (refine' Kd
              all_goals (refine' Kn;refine' Ac<;>intro O);all_goals (refine' LK;(repeat (refine Q4 ?_)))
              all_goals
               first
               | (refine' Kf;all_goals (refine' KW;refine SN rfl (xg _ _ _) ?_;rw [hd];rintro _ _ ⟨rfl,rfl⟩;refine' dR;refine' O3;(repeat (refine Q4 ?_));refine' Lq);all_goals (exact Aq))
               | (refine' Kd
                  all_goals (refine' Kn;refine' Ac<;>intro O);all_goals (refine' LK;(repeat (refine Q4 ?_)))
                  all_goals
                   first
                   | (refine' Kf
                      all_goals (refine' KW;refine SN rfl (xg _ _ _) ?_;rw [hd];rintro _ _ ⟨rfl,rfl⟩;refine' qG;refine' O3;(repeat (refine Q4 ?_));refine' Lb;refine' ND;refine Lf ?_;(repeat (refine Q4 ?_)))
                      all_goals
                       first
                       | (refine' Kf;refine' N0;(repeat (refine Q4 ?_));refine' Lq;(exact Aq))
                       | (refine' Kd;refine' N7;(repeat (refine Q4 ?_)))
                      all_goals (refine' KW;refine' zm;refine px rfl rfl ?_;refine mU rfl rfl ?_;refine' O3;(repeat (refine Q4 ?_));refine' Lq);all_goals (exact Aq))
                   | (refine' Kd
                      all_goals (refine' Kn;refine' Ac<;>intro O);all_goals (refine' LK;(repeat (refine Q4 ?_)))
                      all_goals
                       first
                       | (refine' Kf;all_goals (refine' KW;refine' Ae<;>intro O);all_goals (refine SN rfl (xf _ _) ?_;rintro _ _ ⟨rfl,rfl⟩;refine' O3;(repeat (refine Q4 ?_));refine' Lq);all_goals (exact Aq))
                       | (refine' Kd
                          all_goals (refine' Kn;refine' Ac<;>intro O);all_goals (refine' LK;(repeat (refine Q4 ?_)))
                          all_goals
                           first
                           | (refine' Kf;all_goals (refine' KW;refine' Ac<;>intro O);all_goals (refine SN rfl (xf _ _) ?_;rintro _ _ ⟨rfl,rfl⟩;refine' O3;(repeat (refine Q4 ?_));refine' Lq);all_goals (exact Aq))
                           | (refine' Kd
                              all_goals (refine' Kn;refine' Ac<;>intro O);all_goals (refine' LK;(repeat (refine Q4 ?_)))
                              all_goals
                               first
                               | (refine' Kf;all_goals (refine' KW;refine T5 rfl rfl ?_;refine' O3;(repeat (refine Q4 ?_));refine' Lq);all_goals (exact Aq))
                               | (refine' Kd
                                  all_goals (refine' Kn;refine' Ac<;>intro O);all_goals (refine' LK;(repeat (refine Q4 ?_)))
                                  all_goals
                                   first
                                   | (refine' Kf;all_goals (refine' KW;refine jU rfl rfl ?_;refine' O3;(repeat (refine Q4 ?_));refine' Lq);all_goals (exact Aq))
                                   | (refine' Kd;all_goals (refine' Ko))))))))))
  all_goals (refine' N0;(repeat (refine Q4 ?_));refine' NB;(repeat (refine' NC));refine' XM;exact Aq)
theorem kW {Y:Cx}{w:World}{L:List Res}{b:Int}(Z:St Y w L):Ka Tryz.prog wF [.int .i64 k, .int .i64 a, .int .i64 b] w fun v B=>v= .tuple #[.int .i64 (Lk k a b).1, .bool (Lk k a b).2]∧St Y B L:=
 (rG k a b w).mono fun _ _ ⟨I,M⟩=>⟨I,by rw [M];exact Z⟩
end
section
theorem OP {o:Option α}{f:α→RStp}(h:Mb o f≠ .crash):∃a,o=some a∧Mb o f=f a:=by
 cases o with
 | none=>exact AA
 | some a=>exact ⟨a,rfl,rfl⟩
section
variable {m:Module}{s:RS}{x:Ins}
theorem rH (h:x.op=1):s.ins m x= .go (s.put [x.n]):=by unfold RS.ins;rw [Qip h]
theorem rI (h:x.op=2):s.ins m x=Mb (s.g.val x.a) fun a=>Mb (s.g.val x.b) fun b=>if (Lk x.k a b).2=false then .halt 1 else .go (s.put [(Lk x.k a b).1]):=by unfold RS.ins;rw [Qin V,Qip h]
theorem rJ (h:x.op=3):s.ins m x=if s.e.openV<0 then .halt 6 else .go ((s.es s.e.open).put [s.e.openV]):=by unfold RS.ins;rw [Qin V,Qin V,Qip h]
theorem rK (h:x.op=4):s.ins m x=Mb (s.g.val x.a) fun a=> .go (s.es (s.e.shut a)):=by unfold RS.ins;rw [Qin V,Qin V,Qin V,Qip h]
theorem rM (h:x.op=5):s.ins m x=Mb (s.g.val x.a) fun a=>Mb (s.g.args x.args) fun l=>s.gotR a (max (x.args.length:Int) 1) fun e at_=> .go ((s.es (e.stores at_ l)).put [at_]):=by unfold RS.ins;(repeat rw [Qin V]);rw [Qip h]
theorem rN (h:x.op=6):s.ins m x=Mb (s.g.val x.a) fun a=> .go (s.put [s.e.word (wr (a+x.k))]):=by unfold RS.ins;(repeat rw [Qin V]);rw [Qip h]
theorem rO (h:x.op=7):s.ins m x=Mb (s.g.val x.a) fun a=>Mb (s.g.val x.b) fun b=> .go (s.es (s.e.store (wr (a+x.k)) b)):=by unfold RS.ins;(repeat rw [Qin V]);rw [Qip h]
theorem rP (h:x.op=8):s.ins m x=Mb (s.g.val x.a) fun a=>Mb (s.g.val x.b) fun n=>if n<0∨15<n then .halt 3 else s.gotR a (1+n) fun e at_=> .go ((s.es (e.store at_ n)).put [at_]):=by unfold RS.ins;(repeat rw [Qin V]);rw [Qip h]
theorem rQ (h:x.op=9):s.ins m x=Mb (s.g.val x.a) fun a=>Mb (s.g.val x.b) fun k=>s.atR a k fun q=> .go (s.put [s.e.word q]):=by unfold RS.ins;(repeat rw [Qin V]);rw [Qip h]
theorem kX (h:x.op=10):s.ins m x=Mb (s.g.val x.a) fun a=>Mb (s.g.val x.b) fun k=>Mb (s.g.val x.c) fun c=>s.atR a k fun q=> .go (s.es (s.e.store q c)):=by unfold RS.ins;(repeat rw [Qin V]);rw [Qip h]
theorem kY (h:x.op=11):s.ins m x=Mb (s.g.val x.a) fun a=> .go (s.put [s.e.word a]):=by unfold RS.ins;(repeat rw [Qin V]);rw [Qip h]
theorem kZ (h:x.op=12):s.ins m x=s.inR:=by unfold RS.ins;(repeat rw [Qin V]);rw [Qip h]
theorem lg (h:x.op=13):s.ins m x=Mb (s.g.val x.a) fun n=>s.outR n:=by unfold RS.ins;(repeat rw [Qin V]);rw [Qip h]
theorem lh (h:x.op=14):s.ins m x=Mb (s.g.args x.args) fun vs=>s.callR x.k vs:=by unfold RS.ins;(repeat rw [Qin V])
theorem Vy {r:Int}{k:EstS→Int→RStp}(h:s.e.code r n=14):s.gotR r n k= .halt 6:=Qip h
theorem bV {r:Int}{k:EstS→Int→RStp}(h:s.e.code r n≠14):s.gotR r n k=k (s.e.get r n) (s.e.getV r n):=Qin h
theorem lj (h:k<0∨s.e.p.word a≤k):s.atR a k c= .halt 2:=Qip h
theorem lk (h:¬(k<0∨s.e.p.word a≤k)):s.atR a k c=c (wr (wr (a+1)+k)):=Qin h
theorem ll (e:s.inp=[]):s.inR= .halt 4:=by unfold RS.inR;rw [e]
theorem ln {r:List Int}(e:s.inp=n::r):s.inR= .go ((⟨s.e,s.g,s.st,r,s.out,s.fuel⟩:RS).put [n]):=by unfold RS.inR;rw [e]
theorem eR (e:s.out.length=2000):s.outR n= .halt 8:=Qip e
theorem eS (e:s.out.length≠2000):s.outR n= .go ⟨s.e,s.g,s.st,s.inp,s.out++[n],s.fuel⟩:=Qin e
theorem Zo {vs:List Int}(e:s.st.length+1=40):s.callR k vs= .halt 5:=Qip e
theorem Zp {vs:List Int}(e:s.st.length+1≠40):s.callR k vs= .go ⟨s.e,⟨k.toNat,0,0,vs⟩,s.g::s.st,s.inp,s.out,s.fuel⟩:=Qin e
end
variable {Y:Cx}{w:World}{L:List Res}{p:Nat}{c:RC}{fr:List RFV}{g:RFV}{s:EstS}{out inp:List Int}{fu:Nat}{m:Module}
def KH (s:EstS)(g:RFV)(fr:List RFV)(inp out:List Int)(fu:Nat):RS:=⟨s,g.abs,(fr.map RFV.abs).reverse,inp,out,fu⟩
def Oh (p:Nat)(c:RC)(fu:Nat)(X:RStp)(Y:Cx)(L:List Res)(u:Value)(B:World):Prop:=
 ∃lv i1 ov fr' g' s' inp' out',X= .go (KH s' g' fr' inp' out' fu)∧Kb.sl Y i1 inp'∧u= .tuple #[]∧St Y B (rS p (c.upd lv i1 ov) fr' g' s' out' L)
def Vz (p:Nat)(c:RC)(s:EstS)(out:List Int)(X:RStp)(Y:Cx)(L:List Res)(u:Value)(B:World):Prop:=
 ∃e,X= .halt e∧u=X1 e∧∃fr' g',St Y B (rS p c fr' g' s out L)
def RFV.nx (g:RFV):RFV:=⟨g.f,g.b,g.i+1,g.vv,g.vals⟩
theorem Qhc:l.map Qq++[[.int .i64 n]]=(l++[n]).map Qq:=by rw [E7];rfl
theorem QgS {k:RFV}:Og fr g++[k.cells]=Og (fr++[g]) k:=by unfold Og;rw [E7];rfl
theorem Zq {k:RFV}(h:St Y w (sl 2 1 k.vv (k.vals.map Qq)::KV RFV.res fr::L)):St Y w (KV RFV.res (fr++[k])::L):=by
 have I:St Y w (fr.map RFV.res++(RFV.res k::L)):=h.mv1.list;have M:St Y w ((fr++[k]).map RFV.res++L):=Dn;exact M.list'
theorem Zr (h:s.openV<0):s.open=s:=by
 unfold EstS.openV at h;unfold EstS.open;split at h
 · omega
 · rename_i hl;exact Qin hl
theorem xh:KH s g' (fr++[g]) inp out fu=⟨s,g'.abs,g.abs::(fr.map RFV.abs).reverse,inp,out,fu⟩:=by unfold KH;simp
attribute [local irreducible] RFrm.val RFrm.args EstS.get EstS.getV EstS.code PoolS.word EstS.store EstS.stores EstS.open EstS.openV EstS.shut RS.ins Lk
theorem Zs (hx : K1.at Y cs x)(hi:Kb.sl Y c.iv inp)(hop:1≤x.op∧x.op≤14)(hk:x.op=14→0≤x.k)(h8:x.args.length≤100)(hgi:g.i≤1000)(hf:fr.length≤900)(hn:g.vals.length≤800000)(hol:out.length≤2000)(hX0:(KH s g.nx fr inp out fu).ins m x≠ .crash)(Z:St Y w (rS p c fr g s out L)):
 Kr Tryz.prog Q9k [.pointer (some ⟨p,0,none⟩), .agg ⟨cs⟩] w (Oh p c fu ((KH s g.nx fr inp out fu).ins m x) Y L) (Vz p c s out ((KH s g.nx fr inp out fu).ins m x) Y L):=by
 obtain ⟨vr,va,rfl,hr,ha1⟩:=QN hx;obtain ⟨ep,f1,lv,i1,e1,bv,ov,f2,mo,dn⟩:=c;have hil:=hi.len;unfold Kr;refine Kl Kh Tryz.func83 ?_;refine' KU;intro p3 E Z;refine' LA;have Z:St Y _ (rS p ⟨ep,f1,lv,i1,e1,bv,ov,f2,mo,dn⟩ fr g s out (blk p3 84 [.int .i64 x.op, .int .i64 x.a, .int .i64 x.b, .int .i64 x.c, .int .i64 x.k, .int .i64 x.n,vr,va]::L)):=Z.sp;refine' Lp;refine' Kw (c:=X2 V Z);rintro v1 E ⟨b9,o9,rfl,hel,Z⟩;refine' LW;refine Q9 Z hel rfl fd (QG fr g) (Rp fr g) rfl ?_;refine' MJ;rw [show ((g.i:Int)+1)=((g.i+1:Nat):Int) by omega];refine' LW;refine QC Z hel rfl vw fd (QG fr g) (Rp fr g) V rfl (xb (g':=g.nx) rfl) ?_;intro w8 Z;have Z:=Z.ns;have Z:St Y _ (rS p ⟨ep,f1,lv,i1,e1,bv,ov,f2,mo,dn⟩ fr g.nx s out (blk p3 84 [.int .i64 x.op, .int .i64 x.a, .int .i64 x.b, .int .i64 x.c, .int .i64 x.k, .int .i64 x.n,vr,va]::L)):=Z.sp;refine' Nl;refine' P1;refine' Kn;(refine' Ac<;>intro O);all_goals (refine' Kv)
 all_goals
  first
  | (refine' Kf;have hX:=rH (m:=m) (s:=KH s g.nx fr inp out fu) (x:=x) V;refine' OK;refine KO Z [_] ?_;intro b1 E Z;have Z:=Fz (T:=2) (es:=1) (css:=[x.n].map Qq) Z rfl C2 rfl;have Z:St Y _ (rL p _ fr g.nx (sl 2 1 (.slice (some ⟨b1,0,none⟩) 1 1) ([x.n].map Qq)::_)):=Z.sp;refine' Kk (c:=X3 (j:=0) V CV Z rfl);rintro u1 E ⟨tv,rfl,Z⟩;refine' zn;have hG:Oh p ⟨ep,f1,lv,i1,e1,bv,ov,f2,mo,dn⟩ fu ((KH s g.nx fr inp out fu).ins m x) Y L (.tuple #[]) E:=⟨lv,i1,ov,fr,g.nx.push tv [x.n],s,inp,out,hX,hi,rfl,Z.sp⟩)
  | (refine' Kd
     refine' Kn;(refine' Ac<;>intro O);all_goals (refine' Kv)
     all_goals
      first
      | (refine' Kf;refine Qm ?_;have hX:=rI (m:=m) (s:=KH s g.nx fr inp out fu) (x:=x) V;rw [hX] at hX0;obtain ⟨na,hna,eX⟩:=OP hX0;rw [eX] at hX0;have hX:=hX.trans eX;obtain ⟨nb,hnb,eX⟩:=OP hX0;rw [eX] at hX0;have hX:=hX.trans eX;refine zC [(0,none),(1,none),(2,none),(3,none),(4,none),(6,none),(7,none),(8,none),(5,some (some [1,8])),(9,some (some [1])),(10,some none),(11,none),(12,none),(13,none),(14,none),(15,some none)] ?_;have Z:=Z.drew;refine' KS;refine' Pj;refine' N1;refine' Kk (c:=P7 V (show St Y _ (rL p _ fr g.nx _) from Z.sp) hna);rintro v1 E ⟨rfl,Z⟩;refine' Lc;refine' Kk (c:=P7 V (show St Y _ (rL p _ fr g.nx _) from Z.sp) hnb);rintro v1 E ⟨rfl,Z⟩;refine' LY;refine' KZ (c:=kW Z);rintro v1 E ⟨rfl,Z⟩;cases hd:(Lk x.k na nb).2;(all_goals (refine' Mm;refine' dS;refine' dS;refine' zm;refine' Oa;refine' KX;refine' ND;first|(refine' Kk (c:=Zl Z);rintro v1 E ⟨rfl,Z⟩)|(refine KF (c:=Zm Z) (p:=by rintro v9 w9 ⟨rfl,Z⟩;(repeat (refine' Lo));refine' Qi;refine .inr ⟨_,rfl,?_⟩;exact ⟨1,hX.trans (Qip hd),rfl,fr,g.nx,Z.sp⟩) (h:=fun _ _ h=>h.elim))));refine' U3;refine KO Z [_] ?_;intro b1 E Z;have Z:=Fz (T:=2) (es:=1) (css:=[(Lk x.k na nb).1].map Qq) Z rfl C2 rfl;have Z:St Y _ (rL p _ fr g.nx (sl 2 1 (.slice (some ⟨b1,0,none⟩) 1 1) ([(Lk x.k na nb).1].map Qq)::_)):=Z.sp;refine' Kk (c:=X3 (j:=0) V CV Z rfl);rintro u1 E ⟨tv,rfl,Z⟩;refine' zn;have hG:Oh p ⟨ep,f1,lv,i1,e1,bv,ov,f2,mo,dn⟩ fu ((KH s g.nx fr inp out fu).ins m x) Y L (.tuple #[]) E:=⟨lv,i1,ov,fr,g.nx.push tv [(Lk x.k na nb).1],s,inp,out,hX.trans (Qin (by rw [hd];decide)),hi,rfl,Z.sp⟩)
      | (refine' Kd
         refine' Kn;(refine' Ac<;>intro O);all_goals (refine' Kv)
         all_goals
          first
          | (refine' Kf;refine Qm ?_;have hX:=rJ (m:=m) (s:=KH s g.nx fr inp out fu) (x:=x) V;refine' P6;refine' Kw (c:=Ze (e:=ep) (s:=s) Z fd);rintro v1 E ⟨rfl,Z⟩;have Z:=Z.ns;refine' L6;(refine' Ae<;>intro O);(all_goals (first|(refine' Kk (c:=Zl Z);rintro v1 E ⟨rfl,Z⟩)|(refine KF (c:=Zm Z) (p:=by rintro v9 w9 ⟨rfl,Z⟩;(repeat (refine' Lo));refine' Qi;refine .inr ⟨_,rfl,?_⟩;first|(exact ⟨6,hX.trans (Qip (show s.openV<0 by omega)),rfl,fr,g.nx,(by rw [Zr (show s.openV<0 by omega)] at Z;exact Z.sp)⟩)) (h:=fun _ _ h=>h.elim))));refine' U3;refine KO Z [_] ?_;intro b1 E Z;have Z:=Fz (T:=2) (es:=1) (css:=[s.openV].map Qq) Z rfl C2 rfl;have Z:St Y _ (rL p _ fr g.nx (sl 2 1 (.slice (some ⟨b1,0,none⟩) 1 1) ([s.openV].map Qq)::_)):=Z.sp;refine' Kk (c:=X3 (j:=0) V CV Z rfl);rintro u1 E ⟨tv,rfl,Z⟩;refine' zn;have hG:Oh p ⟨ep,f1,lv,i1,e1,bv,ov,f2,mo,dn⟩ fu ((KH s g.nx fr inp out fu).ins m x) Y L (.tuple #[]) E:=⟨lv,i1,ov,fr,g.nx.push tv [s.openV],s.open,inp,out,hX.trans (Qin (show¬s.openV<0 by omega)),hi,rfl,Z.sp⟩)
          | (refine' Kd
             refine' Kn;(refine' Ac<;>intro O);all_goals (refine' Kv)
             all_goals
              first
              | (refine' Kf;have hX:=rK (m:=m) (s:=KH s g.nx fr inp out fu) (x:=x) V;rw [hX] at hX0;obtain ⟨a,ha,eX⟩:=OP hX0;rw [eX] at hX0;have hX:=hX.trans eX;refine zC [(0,none),(1,none),(2,none),(3,none),(4,none),(5,none),(6,none),(7,some (some [3])),(8,some none)] ?_;have Z:=Z.drew;refine' NT;refine' N1;refine' Kk (c:=P7 V (show St Y _ (rL p _ fr g.nx _) from Z.sp) ha);rintro v1 E ⟨rfl,Z⟩;refine' LY;refine' Kk (c:=Zf (e:=ep) (s:=s) a Z fd);rintro v1 E ⟨rfl,Z⟩;have Z:=Z.ns;refine' K7;have hG:Oh p ⟨ep,f1,lv,i1,e1,bv,ov,f2,mo,dn⟩ fu ((KH s g.nx fr inp out fu).ins m x) Y L (.tuple #[]) E:=⟨lv,i1,ov,fr,g.nx,s.shut a,inp,out,hX,hi,rfl,Z.sp⟩)
              | (refine' Kd
                 refine' Kn;(refine' Ac<;>intro O);all_goals (refine' Kv)
                 all_goals
                  first
                  | (refine' Kf;have hX:=rM (m:=m) (s:=KH s g.nx fr inp out fu) (x:=x) V;rw [hX] at hX0;obtain ⟨a,ha,eX⟩:=OP hX0;rw [eX] at hX0;have hX:=hX.trans eX;obtain ⟨vs,hvs,eX⟩:=OP hX0;rw [eX] at hX0;have hX:=hX.trans eX;refine' OH;refine KF (c:=Vx (s:=s) (out:=out) (x:=x) hx h8 rfl V Dq ha hvs (show St Y _ (rS p ⟨ep,f1,lv,i1,e1,bv,ov,f2,mo,dn⟩ fr g.nx s out _) from Z.sp)) (p:=by rintro u9 w9 ⟨h14,rfl,Z⟩;(repeat (refine' QL));refine' Qi;refine .inr ⟨_,rfl,?_⟩;rw [(kH V).1] at Z;exact ⟨6,hX.trans (Vy h14),rfl,fr,g.nx,Z.sp⟩) (h:=?_);rintro u1 E ⟨h14,rfl,tv,Z⟩;refine' zn;have hG:Oh p ⟨ep,f1,lv,i1,e1,bv,ov,f2,mo,dn⟩ fu ((KH s g.nx fr inp out fu).ins m x) Y L (.tuple #[]) E:=⟨lv,i1,ov,fr,g.nx.push tv [s.getV a (max (x.args.length:Int) 1)],((s.get a (max (x.args.length:Int) 1)).stores (s.getV a (max (x.args.length:Int) 1)) vs),inp,out,hX.trans (bV h14),hi,rfl,Z.sp⟩)
                  | (refine' Kd
                     refine' Kn;(refine' Ac<;>intro O);all_goals (refine' Kv)
                     all_goals
                      first
                      | (refine' Kf;have hX:=rN (m:=m) (s:=KH s g.nx fr inp out fu) (x:=x) V;rw [hX] at hX0;obtain ⟨a,ha,eX⟩:=OP hX0;rw [eX] at hX0;have hX:=hX.trans eX;obtain ⟨b5,pp,rv,ho,Z⟩:=Tc (Z.out (i:=4) rfl);obtain rfl:=ho.he;refine zC [(0,none),(1,none),(2,none),(3,none),(4,none),(6,none),(7,none),(5,some (some [7])),(8,none),(9,some (some [])),(10,some (some [])),(11,some none)] ?_;have Z:=Z.drew;refine' OI;refine' O0;refine' TS;refine' Kk (c:=P7 V (show St Y _ (rL p _ fr g.nx _) from Z.sp) ha);rintro v1 E ⟨rfl,Z⟩;refine' LZ;refine dd rfl rfl ?_;refine' Lh;refine' Kk (c:=nQ (q:=s.p) (wr (a+x.k)) rfl (show St Y _ (rL p _ fr g.nx (blk b5 73 (pp::L9 rv)::Mp pp s.p::_)) from Z.sp));rintro v1 E ⟨rfl,Z⟩;refine' Lc;refine KO Z [_] ?_;intro b1 E Z;refine' LY;have Z:=Fz (T:=2) (es:=1) (css:=[s.p.word (wr (a+x.k))].map Qq) Z rfl C2 rfl;have Z:St Y _ (rL p _ fr g.nx (sl 2 1 (.slice (some ⟨b1,0,none⟩) 1 1) ([s.p.word (wr (a+x.k))].map Qq)::_)):=Z.sp;refine' Kk (c:=X3 (j:=0) V CV Z rfl);rintro u1 E ⟨tv,rfl,Z⟩;refine' K7;have hG:Oh p ⟨.pointer (some ⟨b5,0,none⟩),f1,lv,i1,e1,bv,ov,f2,mo,dn⟩ fu ((KH s g.nx fr inp out fu).ins m x) Y L (.tuple #[]) E:=by have Z:=Rn ho (show St Y _ (blk b5 73 (pp::L9 rv)::Mp pp s.p::KV RegV.res rv::_) from Z.sp);exact ⟨lv,i1,ov,fr,g.nx.push tv [s.p.word (wr (a+x.k))],s,inp,out,hX,hi,rfl,Z.sp⟩)
                      | (refine' Kd
                         refine' Kn;(refine' Ac<;>intro O);all_goals (refine' Kv)
                         all_goals
                          first
                          | (refine' Kf;have hX:=rO (m:=m) (s:=KH s g.nx fr inp out fu) (x:=x) V;rw [hX] at hX0;obtain ⟨a,ha,eX⟩:=OP hX0;rw [eX] at hX0;have hX:=hX.trans eX;obtain ⟨b0,hb0,eX⟩:=OP hX0;rw [eX] at hX0;have hX:=hX.trans eX;obtain ⟨b5,pp,rv,ho,Z⟩:=Tc (Z.out (i:=4) rfl);obtain rfl:=ho.he;refine zC [(0,none),(1,none),(2,none),(3,none),(4,none),(5,none),(6,none),(7,none),(8,none),(9,none),(11,none),(12,none),(14,none),(15,none),(16,none),(10,some (some [3,6,12,16])),(13,none),(17,some (some [3,6,12])),(18,some none)] ?_;have Z:=Z.drew;refine' NT;refine' NS;refine' Nc;refine' Pj;refine' NS;refine' N1;refine' Kk (c:=P7 V (show St Y _ (rL p _ fr g.nx _) from Z.sp) ha);rintro v1 E ⟨rfl,Z⟩;refine' LZ;refine dd rfl rfl ?_;refine' Lh;refine' Kk (c:=P7 V (show St Y _ (rL p _ fr g.nx _) from Z.sp) hb0);rintro v1 E ⟨rfl,Z⟩;refine' LY;refine' KZ (c:=nM (s:=s.p) (wr (a+x.k)) b0 Z fd);rintro v1 E ⟨rfl,Z⟩;have Z:=Z.ns;refine' K7;have hG:Oh p ⟨.pointer (some ⟨b5,0,none⟩),f1,lv,i1,e1,bv,ov,f2,mo,dn⟩ fu ((KH s g.nx fr inp out fu).ins m x) Y L (.tuple #[]) E:=by have Z:=nR ho (show St Y _ (blk b5 73 (pp::L9 rv)::Mp pp _::KV RegV.res rv::_) from Z.sp);exact ⟨lv,i1,ov,fr,g.nx,(s.store (wr (a+x.k)) b0),inp,out,hX,hi,rfl,Z.sp⟩)
                          | (refine' Kd
                             refine' Kn;(refine' Ac<;>intro O);all_goals (refine' Kv)
                             all_goals
                              first
                              | (refine' Kf;have hX:=rP (m:=m) (s:=KH s g.nx fr inp out fu) (x:=x) V;rw [hX] at hX0;obtain ⟨a,ha,eX⟩:=OP hX0;rw [eX] at hX0;have hX:=hX.trans eX;obtain ⟨n,hna,eX⟩:=OP hX0;rw [eX] at hX0;have hX:=hX.trans eX;refine' OH;refine KF (c:=Vw (s:=s) (out:=out) (x:=x) hx V Dq ha hna (show St Y _ (rS p ⟨ep,f1,lv,i1,e1,bv,ov,f2,mo,dn⟩ fr g.nx s out _) from Z.sp)) (p:=by rintro u9 w9 hB;(repeat (refine' QL));refine' Qi;refine .inr ⟨_,rfl,?_⟩;(rcases hB with ⟨hnn,rfl,Z⟩|⟨hnn,h14,rfl,Z⟩;(exact ⟨3,hX.trans (Qip hnn),rfl,fr,g.nx,Z.sp⟩);(rw [(kH V).1] at Z;exact ⟨6,hX.trans ((Qin hnn).trans (Vy h14)),rfl,fr,g.nx,Z.sp⟩))) (h:=?_);rintro u1 E ⟨hnn,h14,rfl,tv,Z⟩;refine' zn;have hG:Oh p ⟨ep,f1,lv,i1,e1,bv,ov,f2,mo,dn⟩ fu ((KH s g.nx fr inp out fu).ins m x) Y L (.tuple #[]) E:=⟨lv,i1,ov,fr,g.nx.push tv [s.getV a (1+n)],((s.get a (1+n)).store (s.getV a (1+n)) n),inp,out,hX.trans ((Qin hnn).trans (bV h14)),hi,rfl,Z.sp⟩)
                              | (refine' Kd
                                 refine' Kn;(refine' Ac<;>intro O);all_goals (refine' Kv)
                                 all_goals
                                  first
                                  | (refine' Kf;have hX:=rQ (m:=m) (s:=KH s g.nx fr inp out fu) (x:=x) V;rw [hX] at hX0;obtain ⟨a,ha,eX⟩:=OP hX0;rw [eX] at hX0;have hX:=hX.trans eX;obtain ⟨k,hkk,eX⟩:=OP hX0;rw [eX] at hX0;have hX:=hX.trans eX;obtain ⟨b5,pp,rv,ho,Z⟩:=Tc (Z.out (i:=4) rfl);obtain rfl:=ho.he;refine' RN;refine zv Z ?_;refine KF (c:=bU (q:=s.p) (x:=x) rfl hx V ha hkk (show St Y _ (rL p _ fr g.nx (blk b5 73 (pp::L9 rv)::Mp pp s.p::_)) from Z.sp)) (p:=by rintro u9 w9 ⟨hb9,rfl,Z⟩;(repeat (refine' QL));refine' Qi;refine .inr ⟨_,rfl,?_⟩;have Z:=Rn ho (show St Y _ (blk b5 73 (pp::L9 rv)::Mp pp s.p::KV RegV.res rv::_) from Z.sp);exact ⟨2,hX.trans (lj hb9),rfl,fr,g.nx,Z.sp⟩) (h:=?_);rintro u1 w2 ⟨hnb,rfl,Z⟩;refine' Kk (c:=nQ (q:=s.p) (wr (wr (a+1)+k)) rfl (show St Y _ (rL p _ fr g.nx (blk b5 73 (pp::L9 rv)::Mp pp s.p::_)) from Z.sp));rintro v1 E ⟨rfl,Z⟩;refine KO Z [_] ?_;intro b1 E Z;have Z:=Fz (T:=2) (es:=1) (css:=[s.p.word (wr (wr (a+1)+k))].map Qq) Z rfl C2 rfl;have Z:St Y _ (rL p _ fr g.nx (sl 2 1 (.slice (some ⟨b1,0,none⟩) 1 1) ([s.p.word (wr (wr (a+1)+k))].map Qq)::_)):=Z.sp;refine' Kk (c:=X3 (j:=0) V CV Z rfl);rintro u1 E ⟨tv,rfl,Z⟩;refine' zn;have hG:Oh p ⟨.pointer (some ⟨b5,0,none⟩),f1,lv,i1,e1,bv,ov,f2,mo,dn⟩ fu ((KH s g.nx fr inp out fu).ins m x) Y L (.tuple #[]) E:=by have Z:=Rn ho (show St Y _ (blk b5 73 (pp::L9 rv)::Mp pp s.p::KV RegV.res rv::_) from Z.sp);exact ⟨lv,i1,ov,fr,g.nx.push tv [s.p.word (wr (wr (a+1)+k))],s,inp,out,hX.trans (lk hnb),hi,rfl,Z.sp⟩)
                                  | (refine' Kd
                                     refine' Kn;(refine' Ac<;>intro O);all_goals (refine' Kv)
                                     all_goals
                                      first
                                      | (refine' Kf;have hX:=kX (m:=m) (s:=KH s g.nx fr inp out fu) (x:=x) V;rw [hX] at hX0;obtain ⟨a,ha,eX⟩:=OP hX0;rw [eX] at hX0;have hX:=hX.trans eX;obtain ⟨k,hkk,eX⟩:=OP hX0;rw [eX] at hX0;have hX:=hX.trans eX;obtain ⟨y,hy,eX⟩:=OP hX0;rw [eX] at hX0;have hX:=hX.trans eX;obtain ⟨b5,pp,rv,ho,Z⟩:=Tc (Z.out (i:=4) rfl);obtain rfl:=ho.he;refine zC [(0,none),(1,none),(2,none),(3,none),(4,none),(5,none),(6,none),(7,none),(8,none),(10,none),(11,none),(12,none),(9,some (some [3,6,12])),(13,some (some [3,6])),(14,some none)] ?_;have Z:=Z.drew;refine' NT;refine' NS;refine' Nc;refine' Pj;refine zv Z ?_;refine' Mm;refine' Ot;refine KF (c:=bU (q:=s.p) (x:=x) rfl hx V ha hkk (show St Y _ (rL p _ fr g.nx (blk b5 73 (pp::L9 rv)::Mp pp s.p::_)) from Z.sp)) (p:=by rintro u9 w9 ⟨hb9,rfl,Z⟩;(repeat (first|refine' Qo|refine' QL|refine fun _=>?_));refine' Qi;refine .inr ⟨_,rfl,?_⟩;have Z:=Rn ho (show St Y _ (blk b5 73 (pp::L9 rv)::Mp pp s.p::KV RegV.res rv::_) from Z.sp);exact ⟨2,hX.trans (lj hb9),rfl,fr,g.nx,Z.sp⟩) (h:=?_);rintro u1 w2 ⟨hnb,rfl,Z⟩;refine' Lc;refine' Kk (c:=P7 V (show St Y _ (rL p _ fr g.nx _) from Z.sp) hy);rintro v1 E ⟨rfl,Z⟩;refine' LY;refine' KZ (c:=nM (s:=s.p) (wr (wr (a+1)+k)) y Z fd);rintro v1 E ⟨rfl,Z⟩;have Z:=Z.ns;refine' K7;have hG:Oh p ⟨.pointer (some ⟨b5,0,none⟩),f1,lv,i1,e1,bv,ov,f2,mo,dn⟩ fu ((KH s g.nx fr inp out fu).ins m x) Y L (.tuple #[]) E:=by have Z:=nR ho (show St Y _ (blk b5 73 (pp::L9 rv)::Mp pp _::KV RegV.res rv::_) from Z.sp);exact ⟨lv,i1,ov,fr,g.nx,(s.store (wr (wr (a+1)+k)) y),inp,out,hX.trans (lk hnb),hi,rfl,Z.sp⟩)
                                      | (refine' Kd
                                         refine' Kn;(refine' Ac<;>intro O);all_goals (refine' Kv)
                                         all_goals
                                          first
                                          | (refine' Kf;have hX:=kY (m:=m) (s:=KH s g.nx fr inp out fu) (x:=x) V;rw [hX] at hX0;obtain ⟨a,ha,eX⟩:=OP hX0;rw [eX] at hX0;have hX:=hX.trans eX;obtain ⟨b5,pp,rv,ho,Z⟩:=Tc (Z.out (i:=4) rfl);obtain rfl:=ho.he;refine' RN;refine' KJ;refine' Kk (c:=P7 V (show St Y _ (rL p _ fr g.nx _) from Z.sp) ha);rintro v1 E ⟨rfl,Z⟩;refine' Kk (c:=nQ (q:=s.p) (a) rfl (show St Y _ (rL p _ fr g.nx (blk b5 73 (pp::L9 rv)::Mp pp s.p::_)) from Z.sp));rintro v1 E ⟨rfl,Z⟩;refine KO Z [_] ?_;intro b1 E Z;have Z:=Fz (T:=2) (es:=1) (css:=[s.p.word a].map Qq) Z rfl C2 rfl;have Z:St Y _ (rL p _ fr g.nx (sl 2 1 (.slice (some ⟨b1,0,none⟩) 1 1) ([s.p.word a].map Qq)::_)):=Z.sp;refine' Kk (c:=X3 (j:=0) V CV Z rfl);rintro u1 E ⟨tv,rfl,Z⟩;refine' zn;have hG:Oh p ⟨.pointer (some ⟨b5,0,none⟩),f1,lv,i1,e1,bv,ov,f2,mo,dn⟩ fu ((KH s g.nx fr inp out fu).ins m x) Y L (.tuple #[]) E:=by have Z:=Rn ho (show St Y _ (blk b5 73 (pp::L9 rv)::Mp pp s.p::KV RegV.res rv::_) from Z.sp);exact ⟨lv,i1,ov,fr,g.nx.push tv [s.p.word a],s,inp,out,hX,hi,rfl,Z.sp⟩)
                                          | (refine' Kd
                                             refine' Kn;(refine' Ac<;>intro O);all_goals (refine' Kv)
                                             all_goals
                                              first
                                              | (refine' Kf;refine Qm ?_;have hX:=kZ (m:=m) (s:=KH s g.nx fr inp out fu) (x:=x) V;obtain ⟨av,nv,hiv⟩:=E0 hi;refine' P6;refine iG vw hi ?_;(refine' Ac<;>intro O);(all_goals (first|(refine' Kk (c:=Zl Z);rintro v1 E ⟨rfl,Z⟩)|(refine KF (c:=Zm Z) (p:=by rintro v9 w9 ⟨rfl,Z⟩;(repeat (refine' Lo));refine' Qi;refine .inr ⟨_,rfl,?_⟩;first|(exact ⟨4,hX.trans (ll (FO.1 D0)),rfl,fr,g.nx,Z.sp⟩)) (h:=fun _ _ h=>h.elim))));refine' LA;obtain ⟨n0,r0,hir⟩:∃n0 r0,inp=n0::r0:=Hi V;refine' NH;refine' LG;refine Tx (m:=0) vw rfl hi rfl V ?_;intro b8 o8 cs8 x8 hat8 hx8 he8;rw [hir,Fm] at hx8;cases hx8;obtain rfl:=Qy he8;refine MG Z ?_;refine KO Z [_] ?_;intro b1 E Z;have Z:=Fz (T:=2) (es:=1) (css:=[n0].map Qq) Z rfl C2 rfl;have Z:St Y _ (rL p _ fr g.nx (sl 2 1 (.slice (some ⟨b1,0,none⟩) 1 1) ([n0].map Qq)::_)):=Z.sp;refine' Kk (c:=X3 (j:=0) V CV Z rfl);rintro u1 E ⟨tv,rfl,Z⟩;refine' U3;refine' LG;refine iH (l':=1) (h':=inp.length) vw hi rfl rfl rfl ⟨_,rfl⟩ V V ?_;intro v7 hk7;have hk7:Kb.sl Y v7 r0:=DH;obtain ⟨a7,n7,rfl⟩:=E0 hk7;refine' LF;refine Lv Z ?_;intro E Z;have Z:=Z.ns;refine' zn;have hG:Oh p ⟨ep,f1,lv,i1,e1,bv,ov,f2,mo,dn⟩ fu ((KH s g.nx fr inp out fu).ins m x) Y L (.tuple #[]) E:=⟨lv,_,ov,fr,g.nx.push tv [n0],s,r0,out,hX.trans (ln hir),hk7,rfl,Z.sp⟩)
                                              | (refine' Kd
                                                 refine' Kn;(refine' Ac<;>intro O);all_goals (refine' Kv)
                                                 all_goals
                                                  first
                                                  | (refine' Kf;refine Qm ?_;have hX:=lg (m:=m) (s:=KH s g.nx fr inp out fu) (x:=x) V;rw [hX] at hX0;obtain ⟨n,hnn,eX⟩:=OP hX0;rw [eX] at hX0;have hX:=hX.trans eX;refine' Lp;refine' O4;refine Qt (n:=out.length) Z vw fd (EM _) ?_;(refine' Ac<;>intro O);(all_goals (first|(refine' Kk (c:=Zl Z);rintro v1 E ⟨rfl,Z⟩)|(refine KF (c:=Zm Z) (p:=by rintro v9 w9 ⟨rfl,Z⟩;(repeat (refine' Lo));refine' Qi;refine .inr ⟨_,rfl,?_⟩;first|(exact ⟨8,hX.trans (eR DV),rfl,fr,g.nx,Z.sp⟩)) (h:=fun _ _ h=>h.elim))));refine' zn;refine zC [(0,none),(1,none),(2,none),(3,none),(4,none),(5,none),(6,none),(7,none),(8,none),(9,some (some [5])),(10,some (some [5])),(11,some (some [])),(12,none),(13,none),(14,none),(15,some none)] ?_;have Z:=Z.drew;refine' U1;refine' Rl;refine' Mm;refine' Ot;refine' Kk (c:=P7 V (show St Y _ (rL p _ fr g.nx _) from Z.sp) hnn);rintro v1 E ⟨rfl,Z⟩;refine' Lc;refine KO Z [_] ?_;intro b1 E Z;refine' Lc;refine Mx Td (.inl Vq) Z vw vw (v:=ov) (css:=out.map Qq) fd (Z.srcB fd Jr CU) CZ ?_;intro v7 w7 Z;have Z:=Z.ns;have ho7:=Z.oneC (v:=v7) (css:=out.map Qq++[[.int .i64 n]]) fd;rw [Qhc] at Z;refine' LZ;refine' Nc;refine' Oq;refine' TM;refine Lv Z ?_;intro E Z;have Z:=Z.ns;refine' K7;have hG:Oh p ⟨ep,f1,lv,i1,e1,bv,ov,f2,mo,dn⟩ fu ((KH s g.nx fr inp out fu).ins m x) Y L (.tuple #[]) E:=⟨lv,i1,v7,fr,g.nx,s,inp,out++[n],hX.trans (eS DZ),hi,rfl,Z.sp⟩)
                                                  | (refine' Kd
                                                     refine' Kn;refine' UW
                                                     all_goals
                                                      first
                                                      | (refine' Kf;refine Qm ?_;have hX:=lh (m:=m) (s:=KH s g.nx fr inp out fu) (x:=x) V;rw [hX] at hX0;obtain ⟨vs,hvs,eX⟩:=OP hX0;rw [eX] at hX0;have hX:=hX.trans eX;refine' P6;refine Qt (n:=fr.length+1) Z vw fd (QG fr g.nx) ?_;(refine' Ac<;>intro O);(all_goals (first|(refine' Kk (c:=Zl Z);rintro v1 E ⟨rfl,Z⟩)|(refine KF (c:=Zm Z) (p:=by rintro v9 w9 ⟨rfl,Z⟩;(repeat (refine' Lo));refine' Qi;refine .inr ⟨_,rfl,?_⟩;first|(exact ⟨5,hX.trans (Zo (by show (fr.map RFV.abs).reverse.length+1=40;rw [GH,EM];omega)),rfl,fr,g.nx,Z.sp⟩)) (h:=fun _ _ h=>h.elim))));refine' zn;refine zC [(0,none),(1,none),(2,none),(3,none),(4,none),(5,none),(6,none),(7,none),(8,none),(9,none),(10,some (some [4,6])),(11,none),(12,some (some [4])),(13,some (some [])),(14,none),(15,none),(16,some none)] ?_;have Z:=Z.drew;refine' U1;refine' NS;refine' N1;refine' Kk (c:=eJ V V ha1 hvs (show St Y _ (rL p _ fr g.nx _) from Z.sp));rintro v2 w2 ⟨hvl,ho2,Z⟩;obtain ⟨a2,n2,rfl⟩:=Z.shape (i:=4) rfl;refine' LZ;refine M8 [_,_,_,_] ?_;refine' Lh;refine KO Z [_,_,_,_] ?_;intro b1 E Z;refine' Lc;refine Mx eD (.inl kL) Z vw vw (v:=lv) (css:=Og fr g.nx) fd (Z.srcB fd Jr CU) (by rw [QG];simp only [EY,Fc];omega) ?_;intro v7 w7 Z;have Z:=Z.ns;have ho7:=Z.oneC (v:=v7) fd;refine' LZ;refine' Nc;refine' MT;refine' K8;refine Lv Z ?_;intro E Z;have Z:=Z.ns;refine' K7;have hG:Oh p ⟨ep,f1,lv,i1,e1,bv,ov,f2,mo,dn⟩ fu ((KH s g.nx fr inp out fu).ins m x) Y L (.tuple #[]) E:=(by rw [show Value.int .i64 x.k= .int .i64 ((x.k.toNat:Nat):Int) by rw [Fi (hk V)]] at Z;have e9:Og fr g.nx++[[.int .i64 ((x.k.toNat:Nat):Int), .int .i64 0, .int .i64 0, .slice a2 (vs.map Qq).length n2]]=Og (fr++[g.nx]) ⟨x.k.toNat,0,0, .slice a2 (vs.map Qq).length n2,vs⟩:=QgS (k:=⟨x.k.toNat,0,0, .slice a2 (vs.map Qq).length n2,vs⟩);rw [e9] at Z;have Z:=Zq (k:=g.nx) (fr:=fr) (L:=_) (show St Y _ (sl 2 1 g.nx.vv (g.nx.vals.map Qq)::KV RFV.res fr::_) from Z.sp);exact ⟨v7,i1,ov,fr++[g.nx],⟨x.k.toNat,0,0, .slice a2 (vs.map Qq).length n2,vs⟩,s,inp,out,(hX.trans (Zp (by show (fr.map RFV.abs).reverse.length+1≠40;rw [GH,EM];omega))).trans (by rw [xh];rfl),hi,rfl,Z.sp⟩)))))))))))))))
 all_goals (refine' QY;exact Am)
end
section
structure HT where
 Tv:TypeId
 Tt:TypeId
 Tr:TypeId
 Th:TypeId
structure ThgV where
 array:Bool
 lv:Value
 l:List Val
def ThgV.abs (t:ThgV):Thg:=⟨t.array,t.l⟩
def ThgV.cells (t:ThgV):List Value:=[.bool t.array,t.lv]
def ThgV.res (H:HT)(t:ThgV):Res:=sl H.Tv 4 t.lv (t.l.map Val.cells)
structure RgnV where
 there:Bool
 lv:Value
 l:List ThgV
 pages:Int
 used:Int
def RgnV.abs (r:RgnV):Rgn:=⟨r.there,r.l.map ThgV.abs,r.pages,r.used⟩
def RgnV.cells (r:RgnV):List Value:=[.bool r.there,r.lv, .int .i64 r.pages, .int .i64 r.used]
def RgnV.res (H:HT)(r:RgnV):Res:=star (sl H.Tt 2 r.lv (r.l.map ThgV.cells)) (KV (ThgV.res H) r.l)
def RgnV.nil:RgnV:=⟨false, .slice none 0 0,[],0,0⟩
structure HpO (N:Nat) (s:HpS) (rv:List RgnV):Prop where
 hr:rv.map RgnV.abs=s.l
 ok:s.Ok N
section
variable {Y:Cx}{w:World}{L:List Res}{H:HT}
theorem QZ {x:Res}{rv:List RgnV}{k:Nat}{r:RgnV}(Z:St Y w (x::y::KV (RgnV.res H) rv::L))(hr:rv[k]?=some r):St Y w (sl H.Tt 2 r.lv (r.l.map ThgV.cells)::KV (ThgV.res H) r.l::x::y::KV (RgnV.res H) (rv.eraseIdx k)::L):=
 IJ (Z.bigOut PU hr)
theorem eT {x:Res}{rv:List RgnV}{k:Nat}{r:RgnV}(hk:k<rv.length)(Z:St Y w (sl H.Tt 2 r.lv (r.l.map ThgV.cells)::KV (ThgV.res H) r.l::x::y::KV (RgnV.res H) (rv.eraseIdx k)::L)):St Y w (x::y::KV (RgnV.res H) (rv.set k r)::L):=
 H7 (f:=RgnV.res H) (x':=r) Z.star' PU hk
theorem TU {x:Res}{l:List ThgV}{k:Nat}{t:ThgV}(Z:St Y w (x::KV (ThgV.res H) l::L))(ht:l[k]?=some t):St Y w (sl H.Tv 4 t.lv (t.l.map Val.cells)::x::KV (ThgV.res H) (l.eraseIdx k)::L):=Z.bigOut Yx ht
theorem VA {x:Res}{l:List ThgV}{k:Nat}{t:ThgV}(hk:k<l.length)(Z:St Y w (sl H.Tv 4 t.lv (t.l.map Val.cells)::x::KV (ThgV.res H) (l.eraseIdx k)::L)):St Y w (x::KV (ThgV.res H) (l.set k t)::L):=H7 (f:=ThgV.res H) (x':=t) Z Yx hk
theorem St.big_push {f:α→Res}{l:List α}{x:α}(h:St Y w (f x::KV f l::L)):St Y w (KV f (l++[x])::L):=by
 have I:St Y w (l.map f++(f x::L)):=h.mv1.list;have M:St Y w ((l++[x]).map f++L):=Dn;exact M.list'
abbrev Hc:=@St.big_push
theorem St.big_nil (f:α→Res)(h:St Y w L):St Y w (KV f []::L):=h.emp (r:=Go.Lir.emp) fun _ h=>h
abbrev Gx:=@St.big_nil
theorem St.rot1 {a b c:Res}(h:St Y w (a::b::c::d::L)):St Y w (b::c::d::a::L):=St.mv3 (St.mv3 (St.mv3 h))
abbrev G3:=@St.rot1
theorem St.rot2 {a e b c:Res}(h:St Y w (a::e::b::c::d::L)):St Y w (b::c::d::a::e::L):=St.mv4 (St.mv4 (St.mv4 h))
abbrev IK:=@St.rot2
theorem St.rot3 {a e f b c:Res}(h:St Y w (a::e::f::b::c::d::L)):St Y w (b::c::d::a::e::f::L):=St.mv5 (St.mv5 (St.mv5 h))
abbrev Jq:=@St.rot3
theorem xi {f:α→Res}{l:List α}{k:Nat}{x y:α}(h:l[k]?=some x)(he:f y=f x):KV f (l.set k y)=KV f l:=by
 unfold KV;rw [F3,he,iC (by rw [EZ,h];rfl)]
theorem Mq {rv:List RgnV}{r:RgnV}(h:rv[m]?=some r):(rv.map RgnV.cells)[m]?=some r.cells:=by rw [EZ,h];rfl
theorem VB {rv:List RgnV}{r':RgnV}:(rv.map RgnV.cells).set m r'.cells=(rv.set m r').map RgnV.cells:=F3.symm
theorem Zt {rv:List RgnV}{r r':RgnV}(h:r.cells.set j u=r'.cells):(rv.map RgnV.cells).set m (r.cells.set j u)=(rv.set m r').map RgnV.cells:=by rw [h];exact VB
theorem Sn {tv:List ThgV}{t:ThgV}(h:tv[m]?=some t):(tv.map ThgV.cells)[m]?=some t.cells:=by rw [EZ,h];rfl
theorem So {l:List Val}(h:m<l.length):(l.map Val.cells)[m]?=some (l.getD m Val.zero).cells:=Tu Val.cells l Val.zero h
theorem Rq {rv:List RgnV}{r:RgnV}(h:m<rv.length):(rv.set m r)[m]?=some r:=by simp [h]
theorem HpO.len {rv:List RgnV}(h:HpO N s rv):rv.length=s.l.length:=by rw [←h.hr,EM]
theorem HpO.at_ {rv:List RgnV}(h:HpO N s rv){k:Nat}(hk:k<rv.length):∃r,rv[k]?=some r∧s.reg k=r.abs∧s.l[k]?=some r.abs:=by
 refine ⟨rv[k],EI hk,?_,?_⟩
 · unfold HpS.reg;rw [Qip V,Fa,←h.hr,EL,EZ,EI hk];rfl
 · rw [←h.hr,EZ,EI hk];rfl
theorem HpO.out {rv:List RgnV}(h:HpO N s rv)(hk:k<0∨(rv.length:Int)≤k):s.has k=false:=by
 have hl:=h.len;unfold HpS.has HpS.reg;split
 · rw [EL,Fe V];rfl
 · rfl
theorem HpO.has_in {rv:List RgnV}(h:HpO N s rv)(hk:s.has k=true):∃m:Nat,k=m∧m<rv.length:=by
 by_cases O:k<0∨(rv.length:Int)≤k
 · rw [h.out O] at hk;cases hk
 · exact ⟨k.toNat,V,V⟩
theorem HpO.rng {rv:List RgnV}(h:HpO N s rv){k:Nat}{r:RgnV}(hr:rv[k]?=some r):r.l.length≤N∧(∀t∈r.l,t.l.length≤1000)∧0≤r.pages∧0≤r.used∧r.used≤1000∧(r.there=false→r.l.length=0∧r.pages=0):=by
 have hm:r.abs∈s.l:=(by rw [←h.hr];exact Fq.2 ⟨r,EK hr,rfl⟩);obtain ⟨I,M,h3,h4,h5,h6⟩:=h.ok.each _ hm;refine ⟨by simpa [RgnV.abs] using I,fun t ht=>M t.abs (Fq.2 ⟨t,ht,rfl⟩),h3,h4,h5,fun hf=>?_⟩;have:=h6 hf;simp only [RgnV.abs,Rgn.none,Rgn.mk.injEq,List.map_eq_nil_iff] at this;exact ⟨by rw [this.2.1];rfl,this.2.2.1⟩
end
end
section
def H0:HT:=⟨224,272,267,127⟩
abbrev Sp (b:Nat)(lv:Value)(left live:Int)(rv:List RgnV)(L:List Res):List Res:=blk b 127 [lv, .int .i64 left, .int .i64 live]::sl 267 4 lv (rv.map RgnV.cells)::KV (RgnV.res H0) rv::L
def Mw (N:Nat)(h:Value)(s:HpS):Res:=Res.ex fun x:Nat×Value×List RgnV=>Res.pure (h= .pointer (some ⟨x.1,0,none⟩)∧HpO N s x.2.2) (Rx [blk x.1 127 [x.2.1, .int .i64 s.left, .int .i64 s.live],sl 267 4 x.2.1 (x.2.2.map RgnV.cells),KV (RgnV.res H0) x.2.2])
variable {Y:Cx}{w:World}{L:List Res}{i:Nat}{N:Nat}{h:Value}{s:HpS}
theorem xj (Z:St Y w (Mw N h s::L)):∃b lv rv,h= .pointer (some ⟨b,0,none⟩)∧HpO N s rv∧St Y w (Sp b lv s.left s.live rv L):=by
 obtain ⟨⟨b,lv,rv⟩,h⟩:=Z.ex;obtain ⟨⟨h0,I⟩,M⟩:=h.pure;exact ⟨b,lv,rv,h0,I,M.list⟩
theorem QQ {lv:Value}{rv:List RgnV}(ho:HpO N s rv)(Z:St Y w (Sp b lv s.left s.live rv L)):St Y w (Mw N (.pointer (some ⟨b,0,none⟩)) s::L):=
 Jh (b,lv,rv) (JE ⟨rfl,ho⟩ (It Z))
theorem Zu (Z:St Y w L)(hi:nth L i=some (Mw N (.pointer (some ⟨b,0,none⟩)) s)):∃lv rv,HpO N s rv∧St Y w (Sp b lv s.left s.live rv (L.eraseIdx i)):=by
 obtain ⟨b',lv,rv,he,ho,h⟩:=xj (Z.out hi);cases he;exact ⟨lv,rv,ho,h⟩
theorem Zv (Z:St Y w L)(hi:nth L i=some (Mw N h s)):s.Ok N∧∃b,h= .pointer (some ⟨b,0,none⟩):=by
 obtain ⟨b,lv,rv,he,ho,_⟩:=xj (Z.out hi);exact ⟨ho.ok,b,he⟩

variable {b:Nat}{lv:Value}{left live:Int}{rv:List RgnV}
theorem eU (k:Int)(ho:HpO N s rv)(Z:St Y w (Sp b lv left live rv L)):Ka Tryz.prog QbY [.pointer (some ⟨b,0,none⟩), .int .i64 k] w fun v B=>v= .bool (s.has k)∧St Y B (Sp b lv left live rv L):=by
 rcases (show (k<0∨(rv.length:Int)≤k)∨∃m:Nat,k=m∧m<rv.length by (by_cases h:k<0∨(rv.length:Int)≤k;(exact .inl h);exact .inr ⟨k.toNat,V,V⟩)) with hk|⟨m,rfl,hm⟩
 · have e0:=ho.out hk;refine Kl Kh Tryz.func216 ?_;refine' Nk;(refine' Ag<;>intro O);all_goals (refine' S5;refine' MD;refine' SZ;(first|refine' Kj|(refine' Kg;refine' Ri));refine' Lw;refine' PH;refine' S1;refine' Ni;refine' KQ;exact AV)
 · obtain ⟨r,hr,hrs,_⟩:=ho.at_ hm;have e0:s.has m=r.there:=(by unfold HpS.has;rw [hrs];rfl);refine Kl Kh Tryz.func216 ?_;refine' Nk;refine' YZ;refine' zm;((refine' Ln));((refine' Ln));((refine' Nf));((refine' LI));((refine' LU));((refine' Kg;refine PZ Z ?_));(refine' Kg;refine' iW);refine' OZ;refine' zm;((refine' Ln));((refine' Nf));((refine' LI));((refine' LU));((refine' Ln));((refine' Kg;((refine SX Z ?_;intro b1 o1 hel1))));((refine' Sh));((refine' Kg;((refine Q9 Z Ja rfl fd Jr (Mq hr) rfl ?_))));refine' OZ;refine' KQ;((exact AV))
def bW (rv:List RgnV)(k t:Nat)(th:ThgV)(v:Value):Prop:=∃r b o,rv[k]?=some r∧r.l[t]?=some th∧v= .pointer (some ⟨b,o,none⟩)∧NJ r.lv r.l.length 2 t b o
theorem HpO.thg {k:Nat}{r:RgnV}{th:ThgV}(ho:HpO N s rv)(hr:rv[k]?=some r)(ht:r.l[t]?=some th):s.thg k t=th.abs:=by
 obtain ⟨r',I,M,_⟩:=ho.at_ (EJ.1 hr).1;rw [hr] at I;cases I;unfold HpS.thg;rw [M];show (r.l.map ThgV.abs).getD t _=_;rw [EL,EZ,ht];rfl
theorem VC (v:Val)(ho:HpO N s rv)(Z:St Y w (Sp b lv left live rv L)):Ka Tryz.prog Qdz [.pointer (some ⟨b,0,none⟩),v.v] w fun u B=>St Y B (Sp b lv left live rv L)∧(s.at_ v=none∧u= .pointer none∨∃k t th,s.at_ v=some (k,t)∧bW rv k t th u):=by
 by_cases hv:v.kind=3∨v.kind=4
 · cases hh:s.has v.region with
   | false=>
     have e0:s.at_ v=none:=Ev;refine Kl Kh Tryz.func219 ?_;refine' Kn;refine Ma Z vw Jr ?_;((intro b3 E Z;simp only [Val.cells] at Z));refine' P3;refine zD (ci 35 [12,34]) ?_;have Z:=Z.drew;refine' KJ;(refine' Ad<;>intro O);all_goals (refine' LH;refine' i0;refine' dT;refine' Ln;refine' LI;refine' LU;refine' Kg;refine' Kk (c:=eU _ ho (G3 Z));rintro v1 E ⟨rfl,Z⟩;rw [hh];refine' P5;refine' Ni;refine' zm;refine' UR;refine' RO;refine' PH;refine' S1;refine' S1;refine' RO;refine' UZ;exact AB)
   | true=>
     obtain ⟨vk,vr,vt,vn⟩:=v;have hv':vk=3∨vk=4:=hv;obtain ⟨m,rfl,hm⟩:=ho.has_in hh;obtain ⟨r,hr,hrs,_⟩:=ho.at_ hm;have hrl:(s.reg (m:Int)).l.length=r.l.length:=(by rw [hrs];exact EM _);have hrn:=(ho.rng hr).1;have hmt:(m:Int).toNat=m:=CP;by_cases ht:0≤vt∧vt<r.l.length
     · obtain ⟨t,rfl⟩:=FQ ht.1
       have htt:(t:Int).toNat=t:=CP;obtain ⟨th,hth⟩:∃th,r.l[t]?=some th:=⟨_,EI V⟩;have hthg:=ho.thg hr hth
       have e1:s.at_ ⟨vk,m,t,vn⟩=if th.array=decide (vk=4) then some (m,t) else none:=by
        unfold HpS.at_;simp only [hmt,htt,hthg,hh,hrl];by_cases ha:th.array=decide (vk=4)
        · rw [Qip ⟨hv',trivial,ht.1,ht.2,ha⟩,Qip ha]
        · rw [Qin (fun h=>ha h.2.2.2.2),Qin ha]
       refine Kl Kh Tryz.func219 ?_;refine' Kn;refine Ma Z vw Jr ?_;((intro b3 E Z;simp only [Val.cells] at Z));refine' P3;refine zD (ci 35 [12,34]) ?_;have Z:=Z.drew;refine' KJ;(refine' Ad<;>intro O);all_goals (refine' LH;refine' i0;refine' dT;refine' Ln;refine' LI;refine' LU;refine' Kg;refine' Kk (c:=eU _ ho (G3 Z));rintro v1 E ⟨rfl,Z⟩;rw [hh];refine' P5;refine' Ni;refine' zm;refine' LI;refine' LU;refine' Kg;refine' Ri;refine' Ni;refine' zm;refine' LI;refine' LU;refine' Ln;refine' Nf;refine' LI;refine' LU;refine' LI;refine' LU;refine' Kg;refine SX Z ?_;intro b1 o1 hel1;refine' Sh;refine' Kg;refine Q9 Z Ja rfl fd Jr (Mq hr) rfl ?_;refine' Kg;refine Qt (QZ (H:=H0) Z hr) vw KL C1 ?_;refine' Kg;refine' iX;refine' Ni;refine' zn)
       all_goals
        first
        | (refine' Kd;all_goals refine' Ko)
       all_goals (refine Qm ?_;have Z:St Y _ (Sp b lv left live rv _):=(by exact Z);refine zD (ci 13 [12]) ?_;have Z:=Z.drew;refine' zm;refine' RF;refine' MT;refine zl Z ?_;refine' MT;refine zl Z ?_;refine SX Z ?_;intro b2 o2 hel2;refine' NN;refine Q9 Z Ja rfl fd Jr (Mq hr) rfl ?_;refine' MT;refine zl Z ?_;refine OW (QZ (H:=H0) Z hr) vw rfl KL CY ?_;rw [EM];intro b5 o5 hel5;refine' zm;refine' zn;refine Qm ?_;refine Qm ?_;refine zD (ci 8 [7]) ?_;have Z:=Z.drew;refine' zm;refine' RF;refine' NN;refine Q9 (QZ (H:=H0) Z hr) Ja rfl KL C1 (Sn hth) rfl ?_;refine' MT;refine zl Z ?_;cases hta:th.array<;>by_cases hk4:vk=4<;>first|(refine pz rfl rfl hk4 ?_)|(refine pA rfl rfl hk4 ?_));all_goals ((first|refine pZ Jk rfl rfl rfl ?_|refine T6 Jk rfl rfl ?_);refine' zn)
       all_goals
        first
        | (refine' Kf;all_goals (refine' KM);all_goals (exact CL))
        | (refine' Kd;all_goals refine' Ko)
       all_goals (refine' Rj;exact CH)
     · have e0:s.at_ ⟨vk,m,vt,vn⟩=none:=D1;refine Kl Kh Tryz.func219 ?_;refine' Kn;refine Ma Z vw Jr ?_;((intro b3 E Z;simp only [Val.cells] at Z));refine' P3;refine zD (ci 35 [12,34]) ?_;have Z:=Z.drew;refine' KJ;(refine' Ad<;>intro O);all_goals (refine' LH;refine' i0;refine' dT;refine' Ln;refine' LI;refine' LU;refine' Kg;refine' Kk (c:=eU _ ho (G3 Z));rintro v1 E ⟨rfl,Z⟩;rw [hh];refine' P5;refine' Ni;refine' zm;refine' LI;refine' LU;refine' Kg;refine' Ae<;>intro O);all_goals (refine' Ni;refine' LH;refine' XO;refine' MD;refine' MD;(first|refine' Kj|(refine' Kg;refine SX Z ?_;intro b1 o1 hel1));refine' N9;(first|refine' Kj|(refine' Kg;refine Q9 Z Ja rfl fd Jr (Mq hr) rfl ?_));(first|refine' Kj|(refine' Kg;refine Qt (QZ (H:=H0) Z hr) vw KL C1 ?_));(first|refine' Kj|(refine' Kg;refine' YZ));refine' Ld;refine' Kf;refine' KM;exact AB)
 · have e0:s.at_ v=none:=EG;refine Kl Kh Tryz.func219 ?_;refine' Kn;refine Ma Z vw Jr ?_;((intro b3 E Z;simp only [Val.cells] at Z));refine' P3;refine zD (ci 35 [12,34]) ?_;have Z:=Z.drew;refine' KJ;refine' Sb;refine' zm;((refine' LI));((refine' LU));(refine' Kg;refine' Sb);refine' OZ;refine' PH;refine' RO;refine' zm;refine' UR;refine' RO;refine' PH;refine' S1;refine' S1;refine' RO;refine' UZ;((exact AB))
def RgnV.roomV (r:RgnV)(n:Int):RgnV:=if r.abs.more n then ⟨r.there,r.lv,r.l,r.pages+1,n⟩ else ⟨r.there,r.lv,r.l,r.pages,r.used+n⟩
theorem MX {r:RgnV}:(r.roomV n).abs=r.abs.room n∧(r.roomV n).lv=r.lv∧(r.roomV n).l=r.l:=by
 unfold RgnV.roomV Rgn.room;split<;>exact ⟨rfl,rfl,rfl⟩
theorem RgnV.more_iff {r:RgnV}:r.abs.more n=true↔(r.pages=0∨16<r.used+n):=decide_eq_true_iff
abbrev Ij:=@RgnV.more_iff
theorem Zw {k b1 o1:Nat}{r:RgnV}(hn:1≤n∧n≤1000)(hel:NJ lv rv.length 4 k b1 o1)(hr:rv[k]?=some r)(hl:0≤left∧left≤1000)(hp:0≤r.pages∧r.pages≤1000)(hu:0≤r.used∧r.used≤1000)(Z:St Y w (Sp b lv left live rv L)):
 Ka Tryz.prog Qaq [.pointer (some ⟨b,0,none⟩), .pointer (some ⟨b1,o1,none⟩), .int .i64 n] w fun v B=>
  v= .int .i64 14∧r.abs.more n=true∧left=0∧St Y B (Sp b lv left live rv L)∨
  v= .int .i64 0∧¬(r.abs.more n=true∧left=0)∧St Y B (Sp b lv (if r.abs.more n then left - 1 else left) live (rv.set k (r.roomV n)) L):=by
 (have hk:=(EJ.1 hr).1;have hlm:(rv.map RgnV.cells).length=rv.length:=EM _;have hls:∀r',((rv.set k r').map RgnV.cells).length=rv.length:=fun r'=>by rw [EM,Fh]);have hbig:KV (RgnV.res H0) (rv.set k (r.roomV n))=KV (RgnV.res H0) rv:=xi hr (by unfold RgnV.res;rw [MX.2.1,MX.2.2]);by_cases hmo:r.abs.more n=true
 · have hmo':=Ij.1 hmo
   by_cases h0:left=0
   · refine Kl Kh Tryz.func253 ?_;refine' MV;refine' LW;((refine Q9 Z hel rfl fd hlm (Mq hr) rfl ?_));(refine' Ac<;>intro O);all_goals (refine' XS;refine' N9;(first|refine' Kj|(refine' Kg;refine Q9 Z hel rfl fd hlm (Mq hr) rfl ?_));refine' Mu;refine' ku;refine' dQ;refine' Ld;refine' Kf;refine' Lb;refine' LG;refine' SW;refine' UZ;exact ⟨_,rfl, .inl ⟨rfl,hmo,h0,Z⟩⟩)
   · have e1:r.roomV n=⟨r.there,r.lv,r.l,r.pages+1,0+n⟩:=Eg;refine Kl Kh Tryz.func253 ?_;refine' MV;refine' LW;((refine Q9 Z hel rfl fd hlm (Mq hr) rfl ?_));(refine' Ac<;>intro O);all_goals (refine' XS;refine' N9;(first|refine' Kj|(refine' Kg;refine Q9 Z hel rfl fd hlm (Mq hr) rfl ?_));refine' Mu;refine' ku;refine' dQ;refine' Ld;refine' Kf;refine' Lb;refine' LG;refine' PE;refine' RJ;refine' KX;refine' LG;refine' NY;refine' LF;refine Lv Z ?_;intro E Z;have Z:=Z.ns;refine' L8;refine' LW;refine Q9 Z hel rfl fd hlm (Mq hr) rfl ?_;refine' MJ;refine' LW;refine QC Z hel rfl vw fd hlm (Mq hr) V Jr (Zt (r':=⟨r.there,r.lv,r.l,r.pages+1,r.used⟩) rfl) ?_;intro w8 Z;have Z:=Z.ns;refine' zn;refine' Lp;refine' LW;refine QC Z hel rfl vw fd (hls _) (Mq (Rq (r:=⟨r.there,r.lv,r.l,r.pages+1,r.used⟩) V)) V Jr (Zt (r':=⟨r.there,r.lv,r.l,r.pages+1,0⟩) rfl) ?_;intro w8 Z;have Z:=Z.ns;rw [Gr] at Z;refine' L8;refine' LW;refine Q9 (j:=3) (u:= .int .i64 0) Z hel rfl fd (hls _) (Mq (Rq (r:=⟨r.there,r.lv,r.l,r.pages+1,0⟩) V)) rfl ?_;refine' XY;refine' LW;refine QC Z hel rfl vw fd (hls _) (Mq (Rq (r:=⟨r.there,r.lv,r.l,r.pages+1,0⟩) V)) V Jr (Zt (r':=⟨r.there,r.lv,r.l,r.pages+1,0+n⟩) rfl) ?_;intro w8 Z;have Z:=Z.ns;rw [Gr] at Z;refine' zn;refine' KM;exact ⟨_,rfl, .inr ⟨rfl,fun h=>h0 h.2,by rw [Qip hmo];unfold Sp;rw [hbig,e1];exact Z⟩⟩)
 · have hmo':¬(r.pages=0∨16<r.used+n):=fun h=>hmo (Ij.2 h);have e1:r.roomV n=⟨r.there,r.lv,r.l,r.pages,r.used+n⟩:=Em;refine Kl Kh Tryz.func253 ?_;refine' MV;refine' LW;((refine Q9 Z hel rfl fd hlm (Mq hr) rfl ?_));refine' PE;refine' zm;((refine' Ln));((refine' Nf));((refine' Sh));((refine' Kg;((refine Q9 Z hel rfl fd hlm (Mq hr) rfl ?_))));((refine' Ln));((refine' Kg;refine' MJ));(refine' Kg;refine' dO);refine' UY;refine' XT;((refine Q9 Z hel rfl fd hlm (Mq hr) rfl ?_));refine' XY;refine' LW;refine QC Z hel rfl vw fd hlm (Mq hr) V Jr (Zt (r':=⟨r.there,r.lv,r.l,r.pages,r.used+n⟩) rfl) ?_;intro w8 Z;have Z:=Z.ns;refine' zn;refine' KM;(exact ⟨_,rfl, .inr ⟨rfl,fun h=>hmo h.1,by rw [Qin hmo];unfold Sp;rw [hbig,e1];exact Z⟩⟩)
end
section
variable {Y:Cx}{w:World}{L:List Res}{i:Nat}{N:Nat}{h:Value}{s:HpS}
theorem Qk0:M6 Tryz.prog 265=some (272,2,32,[.bool false, .slice none 0 0]):=by kernel_rfl
theorem Qhm:M6 Tryz.prog 125=some (267,4,48,[.bool false, .slice none 0 0, .int .i64 0, .int .i64 0]):=by kernel_rfl
theorem lp:M6 Tryz.prog 108=some (224,4,32,[.int .i64 0, .int .i64 0, .int .i64 0, .int .i64 0]):=by kernel_rfl
theorem QhV:∃e2,Tryz.prog.underlying 265=some (.slice e2):=⟨272,by kernel_rfl⟩
theorem QgH:∃e2,Tryz.prog.underlying 125=some (.slice e2):=⟨267,by kernel_rfl⟩
theorem nT:∃e2,Tryz.prog.underlying 108=some (.slice e2):=⟨224,by kernel_rfl⟩
theorem nU {s:HpS}(O:s.can v=false):s.code v n=20:=by unfold HpS.code;rw [O];rfl
theorem jg {s:HpS}(O:s.code v n≠0)(kind:Int)(t:Thg):s.put v n t=s∧s.putV v kind n=Val.zero:=by unfold HpS.put HpS.putV;rw [Qin O,Qin O];exact ⟨rfl,rfl⟩
theorem Zx {a b:Value}(I:oneC a=true)(M:oneC b=true):∀u∈[a,b],oneC u=true:=by
 intro u hu;simp only [E4,ET,or_false] at hu;rcases hu with rfl|rfl;exact I;exact M
theorem nV (l:List Val):∀c∈l.map Val.cells,∀u∈c,oneC u=true:=by
 intro c O u hu;obtain ⟨v,_,rfl⟩:=Fq.1 O;simp [Val.cells] at hu;rcases hu with rfl|rfl|rfl|rfl<;>rfl

def Rr (r:RgnV)(v:Value)(t:ThgV):RgnV:=⟨r.there,v,r.l++[t],r.pages,r.used⟩
theorem rR {r:RgnV}{v:Value}{t:ThgV}:(Rr r v t).abs=r.abs.push t.abs:=by simp [Rr,RgnV.abs,Rgn.push]
theorem xk {r:RgnV}:r.abs.l.length=r.l.length:=EM _
theorem rT {s:HpS}{vt vn kind:Int}{t:Thg}{r:RgnV}(O:s.code ⟨2,m,vt,vn⟩ n=0)(hsl:s.l[m]?=some r.abs)(hrs:s.reg m=r.abs):
 s.put ⟨2,m,vt,vn⟩ n t=⟨s.l.set m ((r.abs.room n).push t),if r.abs.more n then s.left - 1 else s.left⟩∧(s.put ⟨2,m,vt,vn⟩ n t).live=s.live∧s.putV ⟨2,m,vt,vn⟩ kind n=⟨kind,m,r.abs.l.length,0⟩:=by
 have e:s.put ⟨2,m,vt,vn⟩ n t=⟨s.l.set m ((r.abs.room n).push t),if r.abs.more n then s.left - 1 else s.left⟩:=by
  unfold HpS.put;rw [Qip O];simp only [hrs,Fa]
 refine ⟨e,?_,?_⟩
 · rw [e];have I:=ey (r':=(r.abs.room n).push t) hsl;have M:((r.abs.room n).push t).there=r.abs.there:=(by unfold Rgn.room;split<;>rfl);rw [M] at I;show (s.l.set m _).countP (fun r=>r.there)=s.l.countP fun r=>r.there;omega
 · unfold HpS.putV;rw [Qip O];simp only [hrs]
theorem VD (v:Val)(kind n:Int)(arr:Bool)(tlv:Value)(tl:List Val)(hn:1≤n∧n≤1000)(hN:N≤100000)(htl:tl.length≤1000)(I:oneC tlv=true)(Z:St Y w (sl H0.Tv 4 tlv (tl.map Val.cells)::L))(hi:nth L i=some (Mw N h s)):
 Ka Tryz.prog QbX [h,v.v, .int .i64 kind, .int .i64 n, .agg ⟨[.bool arr,tlv]⟩] w fun u B=>u= .tuple #[(s.putV v kind n).v, .int .i64 (s.code v n)]∧St Y B (L.set i (Mw (N+1) h (s.put v n ⟨arr,tl⟩))):=by
 obtain ⟨hok,b,rfl⟩:=Zv Z.drop hi;obtain ⟨lv,rv,ho,Z⟩:=Zu Z (i:=i+1) hi;simp only [Gn] at Z;have ho1:HpO (N+1) s rv:=⟨ho.hr,hok.mono V⟩;by_cases hk:v.kind=2
 · cases hh:s.has v.region with
   | false=>
     have hcan:s.can v=false:=Dp;have O:=nU (n:=n) hcan;obtain ⟨e1,e2⟩:=jg (s:=s) (v:=v) (n:=n) V kind ⟨arr,tl⟩;rw [e1,e2,O];refine Kl Kh Tryz.func217 ?_;refine' Kn;refine Ma Z vw Jr ?_;intro b6 E Z;simp only [Val.cells] at Z;refine Ma Z vw Jr ?_;intro b9 E Z;refine Qb Z ?_;intro b10 E Z;refine' OJ;refine' Y7;((refine' Ln));((refine' LI));((refine' LU));((refine' Kg;refine' Kk (c:=eU _ ho (Jq Z));rintro v1 E ⟨rfl,Z⟩;rw [hh]));((refine' P5));refine' Ni;refine' Se;refine' Kn;refine Ly [_,_,_,_] ?_;((refine Kp Z ?_;intro E Z;have Z:=Z.ns));refine' Mo;refine QD vw (Q3 (n:=4) Jk Jk (Z.blkAt fd) Jr Jr) vw ?_;((exact Bs))
   | true=>
     (obtain ⟨vk,vr,vt,vn⟩:=v;obtain rfl:vk=2:=hk;obtain ⟨m,rfl,hm⟩:=ho.has_in hh;replace hh:s.has (m:Int)=true:=hh;obtain ⟨r,hr,hrs,hsl⟩:=ho.at_ hm;have hcan:s.can ⟨2,m,vt,vn⟩=true:=Dt;have hrn:=ho.rng hr;have hpg:=hok.pages;have hpr:=hpg.2 r.abs (EK hsl);have hl0:=hok.left;have hlm:(rv.map RgnV.cells).length=rv.length:=EM _;have hls:∀r',((rv.set m r').map RgnV.cells).length=rv.length:=fun r'=>by rw [EM,Fh]);have hpr':r.pages+s.left≤1000:=hpr;have hcd:s.code ⟨2,m,vt,vn⟩ n=if r.abs.more n=true∧s.left=0 then 14 else 0:=by unfold HpS.code;rw [hcan];simp only [Ih,E2,if_false,hrs]
     obtain ⟨e3,e4,e5⟩:=MX (r:=r) (n:=n);refine Kl Kh Tryz.func217 ?_;refine' Kn;refine Ma Z vw Jr ?_;intro b6 E Z;simp only [Val.cells] at Z;refine Ma Z vw Jr ?_;intro b9 E Z;refine Qb Z ?_;intro b10 E Z;refine' OJ;refine' Y7;((refine' Ln));((refine' LI));((refine' LU));((refine' Kg;refine' Kk (c:=eU _ ho (Jq Z));rintro v1 E ⟨rfl,Z⟩;rw [hh]));((refine' P5));refine' UY;refine Qm ?_;refine zD (ci 8 [7]) ?_;have Z:=Z.drew;refine' OM;refine' KJ;refine OW Z vw rfl fd V ?_;rw [hlm];intro b12 o12 hel;refine' Ou;refine' Me;refine' KZ (c:=Zw hn hel hr ⟨hl0,hpg.1⟩ ⟨hrn.2.2.1,V⟩ ⟨hrn.2.2.2.1,hrn.2.2.2.2.1⟩ Z);rintro v2 w2 (⟨rfl,hmo,h0,Z⟩|⟨rfl,hnm,Z⟩);all_goals (refine' L6;refine' Y4;refine' zn)
     all_goals
      first
      | (refine' Kf;refine' Kn;refine Ly [_,_,_,_] ?_;refine' zm;refine Kp Z ?_;intro E Z;have Z:=Z.ns;refine' Mo;refine QD vw (Q3 (n:=4) Jk Jk (Z.blkAt fd) Jr Jr) vw ?_;((rw [Qip ⟨hmo,h0⟩] at hcd;obtain ⟨e1,e2⟩:=jg (s:=s) (v:=⟨2,m,vt,vn⟩) (n:=n) V kind ⟨arr,tl⟩;rw [e1,e2,hcd];exact Bs)))
      | (refine' Kd;refine' Ko)
     refine Qm ?_;rw [Qin hnm] at hcd;have Z:=QZ (H:=H0) Z (Rq V);have hrl:=hrn.1;rw [←e5] at hrl;refine zC [(0,none),(1,none),(2,none),(3,none),(4,none),(5,none),(6,some (some [4])),(7,some (some [])),(8,none),(9,none),(10,some none)] ?_;have Z:=Z.drew;refine' OI;refine' OL;((refine Q9 Z hel rfl fd (hls _) (Mq (Rq V)) rfl ?_));refine' Ku;refine zv Z ?_;refine' Lh;refine KO Z [_,_] ?_;intro b1 E Z;refine' zt;refine ⟨EN.2 ⟨D8,fun _ h=>(ET h).elim⟩,?_⟩;refine' Py;((refine Mx Qk0 (.inl QhV) Z vw vw fd (Z.srcB fd Jr (Zx rfl I)) CY ?_;intro v7 w7 Z;have Z:=Z.ns;have Z:=Z.drop));refine' zt;refine ⟨fun _ h=>(ET h).elim,?_⟩;refine' KS;refine' Nc;refine' TM;refine QC Z hel rfl vw fd (hls (r.roomV n)) (Mq (Rq (r:=r.roomV n) V)) V (by exact Z.oneC fd) (Zt (r':=Rr (r.roomV n) v7 ⟨arr,tlv,tl⟩) rfl) ?_;intro w8 Z;have Z:=Z.ns;rw [Gr] at Z;refine' K7;refine Qm ?_;refine zD (ci 12 [10,11]) ?_;have Z:=Z.drew;refine' zm;refine' KJ;refine' MO;refine Q9 (j:=1) (u:=v7) Z hel rfl fd (hls _) (Mq (Rq (r:=Rr (r.roomV n) v7 ⟨arr,tlv,tl⟩) V)) rfl ?_;refine Qt (n:=r.l.length+1) Z vw fd (by simp [e5]) ?_;refine' NY;rw [show ((r.l.length+1:Nat):Int) - 1=r.l.length by omega];refine PF [_,_,_,_] ?_;((refine Kp Z ?_;intro E Z;have Z:=Z.ns));refine' Mo;refine QD vw (Q3 (n:=4) Jk Jk (Z.blkAt fd) Jr Jr) vw ?_;(((have Z:St Y _ (ThgV.res H0 ⟨arr,tlv,tl⟩::KV (ThgV.res H0) (r.roomV n).l::sl H0.Tt 2 v7 (((r.roomV n).l++[(⟨arr,tlv,tl⟩:ThgV)]).map ThgV.cells)::blk b 127 [lv, .int .i64 (if r.abs.more n then s.left - 1 else s.left), .int .i64 s.live]::sl 267 4 lv ((rv.set m (Rr (r.roomV n) v7 ⟨arr,tlv,tl⟩)).map RgnV.cells)::KV (RgnV.res H0) ((rv.set m (r.roomV n)).eraseIdx m)::L.eraseIdx i):=Dj;have Z:=eT (H:=H0) (rv:=rv.set m (r.roomV n)) (k:=m) (r:=Rr (r.roomV n) v7 ⟨arr,tlv,tl⟩) DL (Hc Z).mv1;rw [Gr] at Z;obtain ⟨e6,e7,e8⟩:=rT (t:=⟨arr,tl⟩) (kind:=kind) hcd hsl hrs;have ho2:HpO (N+1) (s.put ⟨2,m,vt,vn⟩ n ⟨arr,tl⟩) (rv.set m (Rr (r.roomV n) v7 ⟨arr,tlv,tl⟩)):=⟨by rw [F3,rR,e3,ho.hr,e6];rfl,IW hok hn htl⟩;rw [e8,hcd];exact ⟨_,rfl,by rw [xk];rfl,(QQ ho2 (by rw [e7,e6];exact Z)).back hi⟩)))
 · have hcan:s.can v=false:=Dm;have O:=nU (n:=n) hcan;obtain ⟨e1,e2⟩:=jg (s:=s) (v:=v) (n:=n) V kind ⟨arr,tl⟩;rw [e1,e2,O];refine Kl Kh Tryz.func217 ?_;refine' Kn;refine Ma Z vw Jr ?_;intro b6 E Z;simp only [Val.cells] at Z;refine Ma Z vw Jr ?_;intro b9 E Z;refine Qb Z ?_;intro b10 E Z;refine' OJ;refine' Sb;refine' PH;refine' RO;refine' Se;refine' Kn;refine Ly [_,_,_,_] ?_;((refine Kp Z ?_;intro E Z;have Z:=Z.ns));refine' Mo;refine QD vw (Q3 (n:=4) Jk Jk (Z.blkAt fd) Jr Jr) vw ?_;((exact Bs))
theorem VE {v:Value}{l:List Val}(Z:St Y w L)(hi:nth L i=some (sl H0.Tv 4 v (l.map Val.cells)))(hl:l.length≤1000000):Ka Tryz.prog Q31 [v] w fun u B=>St Y B (sl H0.Tv 4 u (l.map Val.cells)::L)∧oneC u=true:=by
 obtain ⟨a,c,hv⟩:=Z.shape hi;have hlen:(l.map Val.cells).length=l.length:=EM _
 cases a with
 | none=>
   have hn:l.map Val.cells=[]:=by
    obtain ⟨F,hr,_⟩:=Z.step hi;obtain ⟨_,⟨_,M,_⟩|⟨b,off,cap,arr,I,_⟩⟩:=hr
    · exact M
    · rw [hv] at I;simp at I
   subst hv;refine Kl Kh Tryz.func218 ?_;refine' MV;refine XF (e:=224) Jk rfl rfl ?_;refine' UZ;((exact ⟨_,rfl,by rw [hn];exact Z.nil,rfl⟩))
 | some a=>
   refine Kl Kh Tryz.func218 ?_;refine' MV;refine XF (e:=224) Jk hv rfl ?_;refine' RJ;refine' Kn;refine j4 lp ?_;intro v1 E hf1 hs1 hz1;have Z:=Z.new (r:=sl 224 4 v1 []) hs1 hf1 (fun b hb=>Hv hb.symm);refine' zm;((refine Mx lp (.inl nT) Z vw vw KL (St.srcS (i:=i+1) (T:=H0.Tv) (v:=v) (css:=l.map Val.cells) Z hi (nV l)) (by rw [hlen,Fc];omega) ?_;intro v2 w2 Z;have Z:=Z.ns;have I:=Z.oneC KL));refine' KQ;((exact ⟨_,rfl,Z,I⟩))
theorem Zy (hN:N≤100000)(Z:St Y w L)(hi:nth L i=some (Mw N h s)):Ka Tryz.prog Qas [h] w fun u B=>u= .tuple #[s.openV.v, .bool (!s.full)]∧St Y B (L.set i (Mw (N+1) h s.open)):=by
 obtain ⟨hok,b,rfl⟩:=Zv Z hi;obtain ⟨lv,rv,ho,Z⟩:=Zu Z hi;have hlv:=hok.live;have hlen:=ho.len;have hsl:=hok.len
 cases hf:s.full with
 | true=>
   have h16:s.live=16:=of_decide_eq_true hf;have e1:s.open=s:=Di;have e2:s.openV=Val.zero:=DA;rw [e1,e2];refine Kl Kh Tryz.func171 ?_;refine' Ov;(intro p2 E Z);refine' Ou;refine' LG;refine' SW;refine' Se;refine' Kn;refine Ly [_,_,_,_] ?_;((refine Kp Z ?_;intro E Z;have Z:=Z.ns));refine' Mo;refine QD vw (Q3 (n:=4) Jk Jk (Z.blkAt fd) Jr Jr) vw ?_;((exact ⟨_,rfl,rfl,(QQ (⟨ho.hr,hok.mono V⟩:HpO (N+1) s rv) (L:=L.eraseIdx i) Z.sp).back hi⟩))
 | false=>
   have h16:s.live≠16:=of_decide_eq_false hf;have e1:s.open=⟨s.l++[⟨true,[],0,0⟩],s.left⟩:=Di;have e2:s.openV=⟨2,s.l.length,0,0⟩:=by unfold HpS.openV;rw [hf];rfl
   have e3:(s.open.live:Int)=s.live+1:=by
    have:s.open.live=s.live+1:=(by rw [e1];unfold HpS.live;simp [Hb]);omega
   have ho2:HpO (N+1) s.open (rv++[⟨true, .slice none 0 0,[],0,0⟩]):=⟨by rw [E7,ho.hr,e1];rfl,JK hok⟩;refine Kl Kh Tryz.func171 ?_;refine' Ov;(intro p2 E Z);refine' Ou;refine' LG;refine' PE;refine' RJ;refine' KX;refine' LG;refine' MJ;refine' LF;((refine Lv Z ?_;intro E Z;have Z:=Z.ns));refine' XZ;refine' LG;refine OF [_,_,_,_] ?_;refine KO Z [_,_,_,_] ?_;intro b1 E Z;((refine Mx Qhm (.inl QgH) Z vw vw fd (Z.srcB fd Jr CU) CY ?_;intro v7 w7 Z;have Z:=Z.ns));refine' LF;((refine Lv Z ?_;intro E Z;have Z:=Z.ns));refine' L8;refine' LG;refine Qt (n:=rv.length+1) Z vw fd Js ?_;refine' NY;rw [show ((rv.length+1:Nat):Int) - 1=s.l.length by omega];refine M8 [_,_,_,_] ?_;((refine Kp Z ?_;intro E Z;have Z:=Z.ns));refine' Mo;refine QD vw (Q3 (n:=4) Jk Jk (Z.blkAt fd) Jr Jr) vw ?_;((rw [e2];refine ⟨_,rfl,rfl,(QQ (lv:=v7) ho2 (L:=L.eraseIdx i) ?_).back hi⟩;rw [e3];have Z:St Y _ (KV (RgnV.res H0) rv::blk b 127 [v7, .int .i64 s.left, .int .i64 (s.live+1)]::sl 267 4 v7 ((rv++[(⟨true, .slice none 0 0,[],0,0⟩:RgnV)]).map RgnV.cells)::L.eraseIdx i):=Dj;have Z:=G8 (Gg (T:=H0.Tt) (es:=2) (Gx (ThgV.res H0) Z));have Z:=Hc (f:=RgnV.res H0) (l:=rv) (x:=⟨true, .slice none 0 0,[],0,0⟩) Z;rw [e1];exact Z.sp))
theorem shut_no {s:HpS}(h:s.can v=false):s.shut v=s:=by unfold HpS.shut;rw [h];rfl
theorem VF {rv:List RgnV}{k:Nat}(hk:k<rv.length){x:Res}(Z:St Y w (x::y::KV (RgnV.res H0) (rv.eraseIdx k)::L)):St Y w (x::y::KV (RgnV.res H0) (rv.set k RgnV.nil)::L):=
 eT (H:=H0) (r:=RgnV.nil) hk (Gg (Gx (ThgV.res H0) Z))
theorem Zz (v:Val)(Z:St Y w L)(hi:nth L i=some (Mw N h s)):Ka Tryz.prog Qar [h,v.v] w fun u B=>u= .bool (s.can v)∧St Y B (L.set i (Mw N h (s.shut v))):=by
 obtain ⟨hok,b,rfl⟩:=Zv Z hi;obtain ⟨lv,rv,ho,Z⟩:=Zu Z hi;have hlv:=hok.live;by_cases hk:v.kind=2
 · cases hh:s.has v.region with
   | false=>
     have hcan:s.can v=false:=Dp;rw [shut_no hcan,hcan];refine Kl Kh Tryz.func173 ?_;refine' Kn;refine Ma Z vw Jr ?_;intro b6 E Z;simp only [Val.cells] at Z;refine' OJ;refine' Y7;((refine' Ln));((refine' LI));((refine' LU));((refine' Kg;refine' Kk (c:=eU _ ho (G3 Z));rintro v1 E ⟨rfl,Z⟩;rw [hh]));((refine' P5));refine' Ni;refine' UZ;((exact AK))
   | true=>
     obtain ⟨vk,vr,vt,vn⟩:=v;obtain rfl:vk=2:=hk;obtain ⟨m,rfl,hm⟩:=ho.has_in hh;replace hh:s.has (m:Int)=true:=hh;obtain ⟨r,hr,hrs,hsl⟩:=ho.at_ hm;have hcan:s.can ⟨2,m,vt,vn⟩=true:=Dt;have hrn:=ho.rng hr;have hpg:=hok.pages;have hpr':r.pages+s.left≤1000:=hpg.2 r.abs (EK hsl);have hl0:=hok.left;have hth:r.there=true:=(by unfold HpS.has at hh;rw [hrs] at hh;exact hh);have hlm:(rv.map RgnV.cells).length=rv.length:=EM _;have e1:s.shut ⟨2,m,vt,vn⟩=⟨s.l.set m Rgn.none,s.left+r.pages⟩:=by unfold HpS.shut;rw [Qip hcan];simp only [hrs,Fa];rfl
     have e2:((s.shut ⟨2,m,vt,vn⟩).live:Int)=s.live - 1:=by
      rw [e1];have I:=ey (r':=Rgn.none) hsl;have M:r.abs.there=true:=hth;rw [M] at I;simp only [Rgn.none,if_true,E2,if_false] at I;show (((s.l.set m Rgn.none).countP fun r=>r.there:Nat):Int)=((s.l.countP fun r=>r.there:Nat):Int) - 1;simp only [Rgn.none];omega
     have hlive:1≤s.live:=CP;have ho2:HpO N (s.shut ⟨2,m,vt,vn⟩) (rv.set m RgnV.nil):=⟨by rw [F3,ho.hr,e1];rfl,by rw [e1];exact JJ hok hsl⟩;rw [hcan];refine Kl Kh Tryz.func173 ?_;refine' Kn;refine Ma Z vw Jr ?_;intro b6 E Z;simp only [Val.cells] at Z;refine' OJ;refine' Y7;((refine' Ln));((refine' LI));((refine' LU));((refine' Kg;refine' Kk (c:=eU _ ho (G3 Z));rintro v1 E ⟨rfl,Z⟩;rw [hh]));((refine' P5));refine' UY;refine Qm ?_;refine zD (ci 8 [7]) ?_;have Z:=Z.drew;refine' OM;refine' KJ;refine OW Z vw rfl fd V ?_;rw [hlm];intro b12 o12 hel;refine' MU;refine zD (ci 12 [11]) ?_;have Z:=Z.drew;refine' OM;refine' MO;((refine Q9 Z hel rfl fd hlm (Mq hr) rfl ?_));refine' MJ;refine' LF;((refine Lv Z ?_;intro E Z;have Z:=Z.ns));refine' L8;refine Ly [_,_,_,_] ?_;refine' RF;refine br Z hel rfl rfl Jr fd hlm (Mq hr) rfl CU (VB (r':=RgnV.nil)) ?_;intro w8 Z;have Z:=Z.ns;have Z:=VF hm ((QZ (H:=H0) Z hr).drop.drop);refine' L8;refine' LG;refine' NY;refine' LF;((refine Lv Z ?_;intro E Z;have Z:=Z.ns));refine' zn;refine' KM;((exact ⟨_,rfl,rfl,(QQ ho2 (L:=L.eraseIdx i) (by rw [e2,e1];exact Z.sp)).back hi⟩))
 · have hcan:s.can v=false:=Dm;rw [shut_no hcan,hcan];refine Kl Kh Tryz.func173 ?_;refine' Kn;refine Ma Z vw Jr ?_;intro b6 E Z;simp only [Val.cells] at Z;refine' OJ;refine' Sb;refine' PH;refine' RO;refine' UZ;((exact AK))
theorem VG (Z:St Y w L)(hi:nth L i=some (Mw N h s)):Ka Tryz.prog Q9N [h] w fun u B=>u= .int .i64 s.left∧St Y B L:=by
 obtain ⟨hok,b,rfl⟩:=Zv Z hi;obtain ⟨lv,rv,ho,Z⟩:=Zu Z hi;refine Kl Kh Tryz.func26 ?_;refine' Nk;refine' LG;refine' KQ;((exact ⟨_,rfl,rfl,(QQ ho Z).back0 hi⟩))
theorem ZA (Z:St Y w L)(hi:nth L i=some (Mw N h s)):Ka Tryz.prog Qat [h] w fun u B=>u= .int .i64 s.live∧St Y B L:=by
 obtain ⟨hok,b,rfl⟩:=Zv Z hi;obtain ⟨lv,rv,ho,Z⟩:=Zu Z hi;refine Kl Kh Tryz.func27 ?_;refine' Nk;refine' LG;refine' KQ;((exact ⟨_,rfl,rfl,(QQ ho Z).back0 hi⟩))
theorem HpS.ok_new (hn:0≤n∧n≤1000):(⟨[],n⟩:HpS).Ok 0:=⟨E6 _,by simp,hn.1,by simp;omega,by simp [HpS.live]⟩
abbrev J1:=@HpS.ok_new
theorem nW (n:Int)(hn:0≤n∧n≤1000)(Z:St Y w L):Ka Tryz.prog U8 [.int .i64 n] w fun u B=>∃b,u= .pointer (some ⟨b,0,none⟩)∧St Y B (Mw 0 (.pointer (some ⟨b,0,none⟩)) ⟨[],n⟩::L):=by
 refine Kl Kh Tryz.func63 ?_;refine' Nk;refine OF [_,_,_] ?_;refine zb Z ?_;intro p5 E Z;refine' KQ;((exact ⟨_,rfl,_,rfl,QQ (lv:= .slice none 0 0) (rv:=[]) ⟨rfl,J1 hn⟩ ((Gg (T:=267) (es:=4) (Gx (RgnV.res H0) Z)).sub (by (repeat (first|exact Ny.same _|refine' Ny.t2));first|done|fail))⟩))
theorem eV (v:Val)(Z:St Y w L)(hi:nth L i=some (Mw N h s)):Ka Tryz.prog Qc0 [h,v.v] w fun u B=>u= .tuple #[.int .i64 (s.len v).1, .int .i64 (s.len v).2]∧St Y B L:=by
 obtain ⟨hok,b,rfl⟩:=Zv Z hi;obtain ⟨lv,rv,ho,Z⟩:=Zu Z hi;refine Kl Kh Tryz.func182 ?_;refine' Kn;refine Ma Z vw Jr ?_;intro b6 E Z;refine' zm;refine' Y6;refine' Kk (c:=VC v ho (G3 Z));rintro v1 E ⟨Z,(⟨e0,rfl⟩|⟨k,t,th,e0,r,b7,o7,hr,hth,rfl,hel⟩)⟩;all_goals (refine' Ou;(first|refine iD (e:=272) Jk rfl rfl ?_|refine iE (e:=272) Jk rfl rfl ?_);refine' zn)
 all_goals
  first
  | (refine' Kf;refine' Nz;refine' Lq;(exact ⟨_,rfl,by unfold HpS.len;rw [e0],(QQ ho (L:=L.eraseIdx i) Z.sp).back0 hi⟩))
  | (refine' Kd;refine' Ko)
 refine' XT;refine Q9 (QZ (H:=H0) Z hr) hel rfl KL (EM _) (Sn hth) rfl ?_;refine Qt (TU (H:=H0) (QZ (H:=H0) Z hr) hth) vw KL C1 ?_;refine' X0;refine' Lq;(exact ⟨_,rfl,by unfold HpS.len;rw [e0];simp only [ho.thg hr hth];rfl,(QQ ho (L:=L.eraseIdx i) Z.sp).back0 hi⟩)
theorem eW (v:Val)(k:Int)(Z:St Y w L)(hi:nth L i=some (Mw N h s)):Ka Tryz.prog Qc1 [h,v.v, .int .i64 k] w fun u B=>u= .tuple #[(s.get v k).1.v, .int .i64 (s.get v k).2]∧St Y B L:=by
 obtain ⟨hok,b,rfl⟩:=Zv Z hi;obtain ⟨lv,rv,ho,Z⟩:=Zu Z hi;refine Kl Kh Tryz.func178 ?_;refine' Kn;refine Ma Z vw Jr ?_;intro b6 E Z;refine Qb Z ?_;intro b8 E Z;refine' Y6;refine' Kk (c:=VC v ho (IK Z));rintro v1 E ⟨Z,(⟨e0,rfl⟩|⟨kr,t,th,e0,r,b7,o7,hr,hth,rfl,hel⟩)⟩;all_goals (refine' Ou;(first|refine iD (e:=272) Jk rfl rfl ?_|refine iE (e:=272) Jk rfl rfl ?_);refine' zn)
 all_goals
  first
  | (refine' Kf;refine' Kn;refine Ly [_,_,_,_] ?_;refine Kp Z ?_;intro E Z;have Z:=Z.ns;refine' Mo;refine QD vw (Q3 (n:=4) Jk Jk (Z.blkAt fd) Jr Jr) vw ?_;((have hge:s.get v k=(Val.zero,20):=(by unfold HpS.get;rw [e0]);rw [hge];exact Bo)))
  | (refine' Kd;refine' Ko)
 refine' MN;have hge:s.get v k=if 0≤k∧k<th.l.length then (th.l.getD k.toNat Val.zero,0) else (Val.zero,1):=EC;refine' Lp
 ((refine' Ae<;>intro O);all_goals (refine' S5;refine' N9;(first|refine' Kj|(refine' Kg;refine Q9 (QZ (H:=H0) Z hr) hel rfl KL (EM _) (Sn hth) rfl ?_));(first|(refine' Kj)|(refine' Kg;refine Qt (TU (H:=H0) (QZ (H:=H0) Z hr) hth) vw KL C1 ?_));first|refine' Kj|(refine' Kg;refine' Ag<;>intro O)));all_goals (refine' Ld)
 all_goals
  first
  | (refine' Kf;all_goals (refine' Kn;refine Ly [_,_,_,_] ?_;refine Kp Z ?_;intro E Z;have Z:=Z.ns;refine' Mo;refine QD vw (Q3 (n:=4) Jk Jk (Z.blkAt fd) Jr Jr) vw ?_);all_goals (rw [Qin V] at hge;rw [hge];exact Bo))
  | (refine' Kd;refine' Ko)
 refine' XT;refine Q9 (QZ (H:=H0) Z hr) hel rfl KL (EM _) (Sn hth) rfl ?_;refine' zm;refine QA (TU (H:=H0) (QZ (H:=H0) Z hr) hth) vw rfl KL V CY ?_;rw [EM];intro b9 o9 hel9;refine NW (TU (H:=H0) (QZ (H:=H0) Z hr) hth) hel9 rfl KL (EM _) (So V) ?_;refine On Z rfl rfl Jr fd Js (by simp [Val.cells,oneC]) Jr ?_;intro E Z;have Z:=Z.ns;refine' Mo;refine QD vw (Q3 (n:=4) Jk Jk (Z.blkAt fd) Jr Jr) vw ?_;(rw [Qip V] at hge;rw [hge];exact Bo)
theorem TV (v:Val):∀u∈v.cells,oneC u=true:=by simp [Val.cells,oneC]
theorem bX {l:List Val}{k:Nat}{x:Val}:(l.map Val.cells).set k x.cells=(l.set k x).map Val.cells:=F3.symm
theorem bY {s:HpS}{x:Val}(h:s.setC v k x≠0):s.set v k x=s:=by
 unfold HpS.set;split
 · rfl
 · rw [Qin h]
def Pq (r:RgnV)(t:Nat)(th:ThgV)(k:Nat)(x:Val):RgnV:=⟨r.there,r.lv,r.l.set t ⟨th.array,th.lv,th.l.set k x⟩,r.pages,r.used⟩
theorem VH {r:RgnV}{k:Nat}{th:ThgV}{x:Val}:(Pq r t th k x).abs=r.abs.upd t (th.abs.upd k x):=by simp [Pq,RgnV.abs,Rgn.upd,F3];rfl
theorem xl {s:HpS}{x:Val}{kr:Nat}{r:RgnV}{th:ThgV}{rv:List RgnV}(ho:HpO N s rv)(hr:rv[kr]?=some r)(hth:r.l[t]?=some th)(e0:s.at_ v=some (kr,t))(O:s.setC v k x=0)(hk:k.toNat<th.l.length):
 s.set v k x=⟨s.l.set kr (r.abs.upd t (th.abs.upd k.toNat x)),s.left⟩∧(s.set v k x).live=s.live∧HpO N (s.set v k x) (rv.set kr (Pq r t th k.toNat x)):=by
 obtain ⟨r',I,M,h3⟩:=ho.at_ (EJ.1 hr).1;rw [hr] at I;cases I
 have e:s.set v k x=⟨s.l.set kr (r.abs.upd t (th.abs.upd k.toNat x)),s.left⟩:=by
  unfold HpS.set;rw [e0];simp only [O,if_true,M,ho.thg hr hth]
 have hl:=ey (r':=r.abs.upd t (th.abs.upd k.toNat x)) h3;have hth2:(r.abs.upd t (th.abs.upd k.toNat x)).there=r.abs.there:=rfl;rw [hth2] at hl
 have hlive:(s.set v k x).live=s.live:=by
  rw [e];show (s.l.set kr _).countP (fun r=>r.there)=s.l.countP fun r=>r.there;omega
 obtain ⟨g1,g2,g3,g4,g5,g6⟩:=ho.rng hr;refine ⟨e,hlive,⟨by rw [F3,VH,ho.hr,e],?_⟩⟩;rw [e];have hok:=ho.ok
 have hth3:r.there=true:=by
  cases hx:r.there with
  | true=>rfl
  | false=>
    have:=(g6 hx).1;have:=(EJ.1 hth).1;omega
 refine IV hok h3 (E6 _) hok.left rfl (by show s.live+_≤_;have:=hok.live;rw [hth2];omega) ⟨by simp [Rgn.upd,RgnV.abs];exact g1,fun y hy=>?_,g3,g4,g5,fun hf=>by simp [Rgn.upd,RgnV.abs,hth3] at hf⟩;rcases Li hy with rfl|hy
 · simp only [Thg.upd,Fh];exact g2 th (EK hth)
 · obtain ⟨z,hz,rfl⟩:=Fq.1 hy;exact g2 z hz
theorem VI (v:Val)(k:Int)(x:Val)(Z:St Y w L)(hi:nth L i=some (Mw N h s)):Ka Tryz.prog QbZ [h,v.v, .int .i64 k,x.v] w fun u B=>u= .int .i64 (s.setC v k x)∧St Y B (L.set i (Mw N h (s.set v k x))):=by
 (obtain ⟨hok,b,rfl⟩:=Zv Z hi;obtain ⟨lv,rv,ho,Z⟩:=Zu Z hi;refine Kl Kh Tryz.func179 ?_;refine' Kn;refine Ma Z vw Jr ?_;intro b6 E Z;refine Ma Z vw Jr ?_;intro b8 E Z;simp only [Val.cells] at Z;refine' Y6;refine' Kk (c:=VC v ho (IK Z));rintro v1 E ⟨Z,(⟨e0,rfl⟩|⟨kr,t,th,e0,r,b7,o7,hr,hth,rfl,hel⟩)⟩;all_goals (refine' zm;refine' zn;refine Qm ?_;refine Qm ?_;refine' Lm;refine' zm;(first|refine iD (e:=272) Jk rfl rfl ?_|refine iE (e:=272) Jk rfl rfl ?_);refine' zm;refine' Mu;refine' bK;refine' N9;first|(refine' Kj)|(have hge:s.setC v k x=(if th.array=true∧x.kind≠1 then 20 else if 0≤k∧k<th.l.length then 0 else 1):=Er;refine' Kg;refine Q9 (j:=0) (u:= .bool th.array) (QZ (H:=H0) Z hr) hel rfl KL (EM _) (Sn hth) rfl ?_;cases hta:th.array<;>by_cases hx1:x.kind=1)));all_goals (refine' XP;(first|refine' Kj|(refine' Kg;(first|(refine' Sb)|(refine' TA))));refine' Y2;refine' Ld)
 all_goals
  first
  | (refine' Kf;all_goals (refine' KM);all_goals ((first|(have hc1:s.setC v k x=20:=(by unfold HpS.setC;rw [e0];first|done|fail);rw [bY V,hc1];exact AK)|(have hc1:s.setC v k x=20:=(by rw [hge,Qip ⟨hta,hx1⟩]);rw [bY V,hc1];exact AK))))
  | (refine' Kd;all_goals refine' Ko)
 (all_goals (refine' Lb;refine' Ae<;>intro O);all_goals (refine' S5;refine' N9;(first|refine' Kj|(refine' Kg;refine Q9 (QZ (H:=H0) Z hr) hel rfl KL (EM _) (Sn hth) rfl ?_));(first|refine' Kj|(refine' Kg;refine Qt (TU (H:=H0) (QZ (H:=H0) Z hr) hth) vw KL C1 ?_));first|refine' Kj|(refine' Kg;refine' Ag<;>intro O)));all_goals (refine' Ld)
 all_goals
  first
  | (refine' Kf;all_goals (refine' KM);all_goals (have hc1:s.setC v k x=1:=(by rw [hge,Qin (by simp [hta,hx1]),Qin V]);rw [bY V,hc1];exact AK))
  | (refine' Kd;all_goals refine' Ko)
 all_goals (refine Qm ?_;have Z:=TU (H:=H0) (QZ (H:=H0) Z hr) hth;refine zD (ci 8 [7]) ?_;have Z:=Z.drew;refine' MO;refine Q9 Z hel rfl fd (EM _) (Sn hth) rfl ?_;refine' zm;refine zv Z ?_;refine QA Z vw rfl KL V CY ?_;rw [EM];intro b9 o9 hel9;refine br Z hel9 rfl rfl Jr KL (EM _) (So V) rfl (TV x) bX ?_;intro w8 Z;have Z:=Z.ns;have Z:=VA (H:=H0) (l:=r.l) (k:=t) (t:=⟨th.array,th.lv,th.l.set k.toNat x⟩) (EJ.1 hth).1 Z;refine' zn;refine' KM;have hc1:s.setC v k x=0:=(by rw [hge,Qin (by simp [hta,hx1]),Qip V]);obtain ⟨e1,e2,ho2⟩:=xl ho hr hth e0 hc1 V;rw [hc1];have htc:((r.l.set t ⟨th.array,th.lv,th.l.set k.toNat x⟩).map ThgV.cells)=r.l.map ThgV.cells:=D2;rw [←htc] at Z;have Z:=eT (H:=H0) (rv:=rv) (k:=kr) (r:=Pq r t th k.toNat x) (EJ.1 hr).1 (L:=L.eraseIdx i) (by unfold Pq;exact Aj);refine ⟨_,rfl,rfl,(QQ (lv:=lv) ho2 (L:=L.eraseIdx i) ?_).back hi⟩;have hbc:((rv.set kr (Pq r t th k.toNat x)).map RgnV.cells)=rv.map RgnV.cells:=Ee;rw [e2];unfold Sp;rw [hbc,e1];exact Z)
theorem Qjd (l:List Val):max (l.length:Int) 1=LN l:=by unfold LN;split<;>omega
theorem xm {l:List Val}(h:l.length≤1000):1≤LN l∧LN l≤1000:=by unfold LN;split<;>omega
theorem VJ (v:Val)(vl:Value)(l:List Val)(hN:N≤100000)(hl:l.length≤1000)(Z:St Y w L)(hi:nth L i=some (Mw N h s))(hj:nth L j=some (sl H0.Tv 4 vl (l.map Val.cells))):
 Ka Tryz.prog Q9M [h,v.v,vl] w fun u B=>u= .tuple #[(s.putV v 3 (LN l)).v, .int .i64 (s.code v (LN l))]∧St Y B (L.set i (Mw (N+1) h (s.tuple v l))):=by
 have hlen:(l.map Val.cells).length=l.length:=EM _;refine Kl Kh Tryz.func176 ?_;refine' Kn;refine Ma Z vw Jr ?_;intro b4 E Z;simp only [Val.cells] at Z;refine Qb Z ?_;intro b6 E Z;refine' MU;refine zC [(0,none),(1,none),(2,none),(3,none),(4,none),(5,none),(6,some (some [1])),(7,none),(8,some none),(9,none),(10,none),(11,some none),(12,some none)] ?_;have Z:=Z.drew;refine' Ph;refine zv Z ?_;refine' Mm;refine Qt Z vw (show nth (_::_::L) (j+2)=_ from hj) hlen ?_;refine' Ku;refine bn rfl rfl ?_;rw [Qjd];refine' Ku;refine' zm;refine' Lh;refine' Kw (c:=VE Z (show nth (_::_::L) (j+2)=_ from hj) V);rintro v1 E ⟨Z,hone⟩;obtain ⟨a_,c_,rfl⟩:=Z.shape KL;refine' LZ;refine OF [_,_] ?_;refine' K8;refine uM vw vw vw vw vw (VD v 3 (LN l) false _ l (xm hl) hN hl hone Z (show nth (_::_::L) (i+2)=_ from hi)) ?_;rintro v2 w2 ⟨rfl,Z⟩;have Z:=Z.ns;refine' Ku;refine' Y5;refine' K8;((refine On Z rfl rfl Jr fd Js (TV _) Jr ?_;intro E Z;have Z:=Z.ns));refine' Oa;refine' zr;refine QD vw (Q3 (n:=4) Jk Jk (Z.blkAt fd) Jr Jr) vw ?_;((exact ⟨_,rfl,rfl,Z.drop.drop⟩))
theorem Q8c:(Ow ((j:Int)+1))=Ow j++[⟨1,0,0,0⟩]:=by
 unfold Ow;rw [show ((j:Int)+1).toNat=j+1 by omega,Fa,H4]
theorem xn {n:Nat}:(Ow n).length=n:=by simp [Ow]
theorem rU (v:Val)(n:Int)(hN:N≤100000)(Z:St Y w L)(hi:nth L i=some (Mw N h s)):
 Ka Tryz.prog Q9O [h,v.v, .int .i64 n] w fun u B=>u= .tuple #[(s.arrV v n).v, .int .i64 (s.arrC v n)]∧St Y B (L.set i (Mw (N+1) h (s.arr v n))):=by
 by_cases hn:n<0∨15<n
 · have e1:s.arr v n=s:=(by unfold HpS.arr;rw [Qip hn]);have e2:s.arrV v n=Val.zero:=(by unfold HpS.arrV;rw [Qip hn]);have e3:s.arrC v n=1:=(by unfold HpS.arrC;rw [Qip hn]);rw [e1,e2,e3];obtain ⟨hok,b,rfl⟩:=Zv Z hi;refine Kl Kh Tryz.func220 ?_;refine' Kn;refine Ma Z vw Jr ?_;intro b4 E Z;simp only [Val.cells] at Z;refine Qb Z ?_;intro b6 E Z;refine' Ou;(refine' Ae<;>intro O);all_goals (refine' Md;refine' dQ;refine' Ld;refine' Kf;refine' Kn;refine Ly [_,_,_,_] ?_;refine Kp Z ?_;intro E Z;have Z:=Z.ns;refine' Mo;refine QD vw (Q3 (n:=4) Jk Jk (Z.blkAt fd) Jr Jr) vw ?_;refine ⟨_,rfl,rfl,?_⟩;obtain ⟨lv,rv,ho,Z⟩:=Zu Z.drop.drop hi;exact (QQ (⟨ho.hr,hok.mono V⟩:HpO (N+1) s rv) Z).back hi)
 · obtain ⟨m,rfl⟩:=FQ (show 0≤n by omega)
   have e1:s.arr v m=s.put v (1+m) ⟨true,Ow m⟩:=(by unfold HpS.arr;rw [Qin hn,Jc]);have e2:s.arrV v m=s.putV v 4 (1+m):=(by unfold HpS.arrV;rw [Qin hn,Jc]);have e3:s.arrC v m=s.code v (1+m):=(by unfold HpS.arrC;rw [Qin hn,Jc]);rw [e1,e2,e3];refine Kl Kh Tryz.func220 ?_;refine' Kn;refine Ma Z vw Jr ?_;intro b4 E Z;simp only [Val.cells] at Z;refine Qb Z ?_;intro b6 E Z;refine' Ou;refine' Ri;refine' zm;((refine' Ln));(refine' Kg;refine' dO);refine' UY;refine' Kn;refine OF [_,_] ?_;refine Qb Z ?_;intro b8 E Z;((refine On Z rfl rfl Jr fd Js (by exact Zx rfl rfl) Jr ?_;intro E Z;have Z:=Z.ns));refine' zn;refine' Lb;refine' OG;have Z:=Z.nil (T:=H0.Tv) (es:=4);refine zo [] (fun A ρ' B=>∃(j:Nat) (va:Value),Ki ρ' A∧Ki ρ' [(0,h),(2, .int .i64 m),(4, .pointer (some ⟨b4,0,none⟩)),(6, .pointer (some ⟨b6,0,none⟩)),(8, .pointer (some ⟨b8,0,none⟩)),(17, .int .i64 m),(18, .int .i64 j)]∧(j≤m)∧St Y B (sl H0.Tv 4 va ((Ow j).map Val.cells)::blk b8 272 [.bool true,va]::blk b6 224 [.int .i64 0, .int .i64 0, .int .i64 0, .int .i64 0]::blk b4 224 [.int .i64 v.kind, .int .i64 v.region, .int .i64 v.thing, .int .i64 v.n]::L)) (fun ρ' _=>(m - iv (ρ' 18)).toNat) ?_ ?_
   · exact ⟨0, .slice none 0 0,zh,zh,V,Z.sp⟩
   rintro U E ⟨j,va,hA,hρ,hj,Z⟩;obtain ⟨U,rfl⟩:=Km hA hρ;have hnl:=xn (n:=j);refine' Nd;refine' Ab<;>intro O
   · refine' Mi;refine' S2;refine OF [_,_,_,_] ?_;refine KO Z [_,_,_,_] ?_;intro b1 E Z;refine Mx lp (.inl nT) Z vw vw fd (Z.srcB fd Jr CU) CY ?_;intro v7 w7 Z;have Z:=Z.ns;refine' MT;refine Lv Z ?_;intro E Z;have Z:=Z.ns;refine' S9;(exact CK)
   · refine' LV;obtain rfl:j=m:=CP;have hone:=Z.oneC KL;refine' RK;refine' XY;refine zv Z ?_;refine uM vw vw vw vw vw (VD v 4 (1+j) true va (Ow j) V hN V hone Z (show nth (_::_::_::L) (i+3)=_ from hi)) ?_;rintro v2 w2 ⟨rfl,Z⟩;have Z:=Z.ns;refine' dR;refine On Z rfl rfl Jr fd Js (by exact TV _) Jr ?_;intro E Z;have Z:=Z.ns;refine' Mo;refine QD vw (Q3 (n:=4) Jk Jk (Z.blkAt fd) Jr Jr) vw ?_;(exact ⟨_,rfl,rfl,Z.drop.drop.drop⟩)
end
section
structure FrmV where
 f:Nat
 b:Nat
 i:Nat
 vv:Value
 vals:List Val
 rv:Value
 regs:List Int
abbrev Qe (l:List Int):List (List Value):=l.map fun n=>[.int .i64 n]
def FrmV.abs (x:FrmV):Frm:=⟨x.f,x.b,x.i,x.vals,x.regs⟩
def FrmV.cells (x:FrmV):List Value:=[.int .i64 x.f, .int .i64 x.b, .int .i64 x.i,x.vv,x.rv]
def FrmV.res (x:FrmV):Res:=star (sl 224 4 x.vv (x.vals.map Val.cells)) (sl 3 1 x.rv (Qe x.regs))
structure MC where
 hp:Value
 fn:Value
 lv:Value
 iv:Value
 e:Int
 bv:Value
 ov:Value
 fu:Int
 mo:Int
 dn:Bool
 c:Int
 a:Int
@[reducible] def MC.cells (x:MC):List Value:=[x.hp,x.fn,x.lv,x.iv, .int .i64 x.e,x.bv,x.ov, .int .i64 x.fu, .int .i64 x.mo, .bool x.dn, .int .i64 x.c, .int .i64 x.a]
@[reducible] def Ns (fr:List FrmV)(g:FrmV):List (List Value):=fr.map FrmV.cells++[g.cells]
theorem Qc (fr:List FrmV)(g:FrmV):(Ns fr g).length=fr.length+1:=by simp
theorem Qj (fr:List FrmV)(g:FrmV):(Ns fr g)[fr.length]?=some g.cells:=by
 rw [ER Js];simp
theorem Sq {fr:List FrmV}{g g':FrmV}(h:g.cells.set j u=g'.cells):(Ns fr g).set fr.length (g.cells.set j u)=Ns fr g':=by
 rw [h];unfold Ns;rw [Gf _ _ Js];simp
@[reducible] def mL (p:Nat)(c:MC)(fr:List FrmV)(g:FrmV)(L:List Res):List Res:=blk p 55 c.cells::sl 110 5 c.lv (Ns fr g)::sl 224 4 g.vv (g.vals.map Val.cells)::sl 3 1 g.rv (Qe g.regs)::KV FrmV.res fr::L
@[reducible] def VK:Value:= .iface 121 (.agg ⟨[]⟩)
@[reducible] def eY (e:Int):Value:= .iface 122 (.int .i64 e)
variable {Y:Cx}{w:World}{L:List Res}{p:Nat}{c:MC}{fr:List FrmV}{g:FrmV}
theorem PJ (Z:St Y w L):Ka Tryz.prog wJ [.bool true] w fun u B=>u= .tuple #[]∧St Y B L:=by
 refine Kl Kh Tryz.func172 ?_;refine' KX;refine' O2;refine' TG;refine' QY;exact Ap
theorem PK (Z:St Y w L):Kr Tryz.prog wJ [.bool false] w (fun _ _=>False) (fun u B=>u=VK∧St Y B L):=by
 unfold Kr;refine Kl Kh Tryz.func172 ?_;refine' KX;refine' O2;refine' Kf;refine' Lm;refine Ly [] ?_;refine' nC;refine nr rfl ?_;(repeat (refine' Qo));refine' Qi;exact AR
theorem VL {e:Int}(Z:St Y w L):Ka Tryz.prog wB [.bool false, .int .i64 e] w fun u B=>u= .tuple #[]∧St Y B L:=by
 refine Kl Kh Tryz.func117 ?_;refine' LS;refine' TG;refine' QY;exact Ap
theorem VM {e:Int}(Z:St Y w L):Kr Tryz.prog wB [.bool true, .int .i64 e] w (fun _ _=>False) (fun u B=>u=eY e∧St Y B L):=by
 unfold Kr;refine Kl Kh Tryz.func117 ?_;refine' LS;refine' Kf;refine' Lp;refine' nC;refine nr rfl ?_;(repeat (refine' Qo));refine' Qi;exact AR
theorem lq (Z:St Y w L):Ka Tryz.prog Qdw [.int .i64 n] w fun u B=>u=(KE n).v∧St Y B L:=by
 refine Kl Kh Tryz.func169 ?_;refine' Ov;(intro p2 E Z);refine' L8;refine M8 [_,_,_,_] ?_;((refine Kp Z ?_;intro E Z;have Z:=Z.ns));refine' LM;refine QO vw (Q3 (n:=4) Jk Jk (Z.blkAt fd) Jr Jr) ?_;((exact Ap))
theorem P8 (hf:fr.length≤1000)(Z:St Y w (mL p c fr g L)):Ka Tryz.prog Q7Q [.pointer (some ⟨p,0,none⟩)] w fun u B=>∃b o,u= .pointer (some ⟨b,o,none⟩)∧NJ c.lv (fr.length+1) 5 fr.length b o∧St Y B (mL p c fr g L):=by
 refine Kl Kh Tryz.func114 ?_;refine' LS;refine Qm ?_;refine zD (ci 12 [11]) ?_;have Z:=Z.drew;refine' OM;refine' OM;((refine Qt Z vw fd (Qc fr g) ?_));refine' NY;rw [show ((fr.length+1:Nat):Int) - 1=fr.length by omega];((refine OW Z vw rfl fd C9 ?_;rw [Qc];intro b1 o1 hel));refine' KQ;((exact Bf))
theorem OQ (hf:fr.length≤1000)(Z:St Y w (mL p c fr g L)):Kr Tryz.prog Q7P [.pointer (some ⟨p,0,none⟩), .int .i64 k] w
 (fun u B=>∃v:Val,g.abs.val k=some v∧u=v.v∧St Y B (mL p c fr g L)) (fun u B=>g.abs.val k=none∧u=VK∧St Y B (mL p c fr g L)):=by
 unfold Kr;by_cases hk:0≤k∧k<g.vals.length
 · obtain ⟨v,hv⟩:∃v,g.vals[k.toNat]?=some v:=⟨_,EI V⟩;have hg:g.abs.val k=some v:=(by unfold Frm.val;rw [Qin V];exact hv);refine Kl Kh Tryz.func174 ?_;refine' Ov;(intro p4 E Z);refine' LA;have Z:St Y _ (mL p c fr g (blk p4 224 [.int .i64 0, .int .i64 0, .int .i64 0, .int .i64 0]::L)):=Z.sp;refine' Lp;refine' Kw (c:=P8 hf Z);rintro v1 E ⟨b1,o1,rfl,hel,Z⟩;refine' LW;((refine Q9 Z hel rfl fd (Qc fr g) (Qj fr g) rfl ?_));refine' L6;refine' YZ;refine' zm;((refine' Ln));((refine' Ln));((refine' Kg;refine PZ Z ?_));(refine' Kg;refine' iW);refine' OZ;refine' Kw (c:=PJ Z);rintro v1 E ⟨rfl,Z⟩;refine' XZ;refine QA Z vw rfl fd V C4 ?_;rw [EM];intro b2 o2 hel2;refine NW Z hel2 rfl fd (EM _) (show (g.vals.map Val.cells)[k.toNat]?=some v.cells by rw [EZ,hv];rfl) ?_;refine On Z rfl rfl Jr fd Js (by simp [Val.cells,oneC]) Jr ?_;intro E Z;have Z:=Z.ns;refine' LM;refine QO vw (Q3 (n:=4) Jk Jk (Z.blkAt fd) Jr Jr) ?_;((exact .inl ⟨_,rfl,v,hg,rfl,Z.sp⟩))
 · have hg:g.abs.val k=none:=by
    unfold Frm.val;by_cases h0:k<0
    · rw [Qip h0]
    · rw [Qin h0];exact Fe (by show g.vals.length≤_;omega)
   refine Kl Kh Tryz.func174 ?_;refine' Ov;(intro p4 E Z);refine' LA;have Z:St Y _ (mL p c fr g (blk p4 224 [.int .i64 0, .int .i64 0, .int .i64 0, .int .i64 0]::L)):=Z.sp;refine' Lp;refine' Kw (c:=P8 hf Z);rintro v1 E ⟨b1,o1,rfl,hel,Z⟩;refine' LW;((refine Q9 Z hel rfl fd (Qc fr g) (Qj fr g) rfl ?_));refine' L6;(refine' Ag<;>intro O);all_goals (refine' Md;refine' Mu;refine' SZ;(first|refine' Kj|(refine' Kg;refine' Ri));refine' Lw;refine Pf (c:=PK Z) (p:=by rintro v9 w9 ⟨rfl,Z⟩;(repeat (refine' Qo));refine' Qi;refine .inr ⟨_,rfl,?_⟩;first|(exact ⟨hg,rfl,Z.sp⟩)) (h:=fun _ _ h=>h.elim))
   all_goals (refine' XZ; refine' zi; intro b1 o1 cs1 x1 hat1 hx1 he1; obtain ⟨vp1, vr1, vb1, rfl, hp1, hr1, hb1⟩ := Qx he1; refine zv Z ?_; refine Kp Z ?_; intro E Z; have Z := Z.ns; refine' LM; refine QO vw (Q3 (n := 4) Jk Jk (Z.blkAt fd) Jr Jr) ?_; trace_state; fail "no ret fits")
end
end Go.Proofs.YteflkifmgnpbhaaGreat
namespace Go.Lir
theorem xo {out:List Val}(hd:g.args l=(g.args (l.drop q)).map fun r=>out++r)(hx:l[q]?=some k)(hv:g.val k=some v):g.args l=(g.args (l.drop (q+1))).map fun r=>(out++[v])++r:=by
 rw [hd,Q7 hx,Frm.args,hv]
 cases g.args (l.drop (q+1)) with
 | none=>rfl
 | some r=>simp
theorem xp {out:List Val}(hd:g.args l=(g.args (l.drop q)).map fun r=>out++r)(hx:l[q]?=some k)(hv:g.val k=none):g.args l=none:=by
 rw [hd,Q7 hx,Frm.args,hv];rfl
theorem xq {out:List Val}(hd:g.args l=(g.args (l.drop q)).map fun r=>out++r)(hq:l.length≤q):g.args l=some out:=by
 rw [hd,ES hq,Frm.args];simp
theorem eK:g.args l=(g.args (l.drop 0)).map fun r=>[]++r:=by
 rw [FG];cases g.args l<;>rfl
theorem xr {v:Int}{out:List Int}(hd:g.rgs l=(g.rgs (l.drop q)).map fun r=>out++r)(hx:l[q]?=some k)(hv:g.reg k=some v):g.rgs l=(g.rgs (l.drop (q+1))).map fun r=>(out++[v])++r:=by
 rw [hd,Q7 hx,Frm.rgs,hv]
 cases g.rgs (l.drop (q+1)) with
 | none=>rfl
 | some r=>simp
theorem xt {out:List Int}(hd:g.rgs l=(g.rgs (l.drop q)).map fun r=>out++r)(hx:l[q]?=some k)(hv:g.reg k=none):g.rgs l=none:=by
 rw [hd,Q7 hx,Frm.rgs,hv];rfl
theorem xu {out:List Int}(hd:g.rgs l=(g.rgs (l.drop q)).map fun r=>out++r)(hq:l.length≤q):g.rgs l=some out:=by
 rw [hd,ES hq,Frm.rgs];simp
theorem kV:g.rgs l=(g.rgs (l.drop 0)).map fun r=>[]++r:=by
 rw [FG];cases g.rgs l<;>rfl
theorem Sr (h:g.val k=some v)(hk:v.kind=1):g.num k=some v.n:=by unfold Frm.num;rw [h];exact Qip hk
theorem Ss (h:g.val k=some v)(hk:v.kind≠1):g.num k=none:=by unfold Frm.num;rw [h];exact Qin hk
theorem Su (h:g.val k=none):g.num k=none:=by unfold Frm.num;rw [h]
theorem VN {v:Int}(h0:0≤k)(h:g.regs[k.toNat]?=some v):g.reg k=some v:=by unfold Frm.reg;rw [Qin V];exact h
theorem VO (h:k<0∨(g.regs.length:Int)≤k):g.reg k=none:=by
 unfold Frm.reg;by_cases h0:k<0
 · rw [Qip h0]
 · rw [Qin h0];exact Fe V
end Go.Lir
namespace Go.Proofs.YteflkifmgnpbhaaGreat
open Go.Lir
attribute [local irreducible] LC.wp Q0 Qp Qk KN Qw LO.wp Q6 Calls
section
variable {Y:Cx}{w:World}{L:List Res}{p:Nat}{c:MC}{fr:List FrmV}{g:FrmV}
attribute [local irreducible] Frm.val Frm.num Frm.args Frm.rgs Frm.reg
theorem Te (hf:fr.length≤1000)(Z:St Y w (mL p c fr g L)):Kr Tryz.prog Q7T [.pointer (some ⟨p,0,none⟩), .int .i64 k] w
 (fun u B=>∃n:Int,g.abs.num k=some n∧u= .int .i64 n∧St Y B (mL p c fr g L)) (fun u B=>g.abs.num k=none∧u=VK∧St Y B (mL p c fr g L)):=by
 (unfold Kr;refine Kl Kh Tryz.func170 ?_;refine' LS;refine' KW;refine KF (c:=OQ hf Z) (p:=by rintro u9 w9 ⟨hv,rfl,Z⟩;(repeat (refine' Qo));refine' Qi;refine .inr ⟨_,rfl,?_⟩;exact ⟨Su hv,rfl,Z.sp⟩) (h:=?_);rintro u1 w2 ⟨v,hv,rfl,Z⟩;unfold Val.v Val.cells;refine Qb Z ?_;(intro p5 E Z);((refine Kp Z ?_;intro E Z;have Z:=Z.ns));refine' Nl;(refine' Ac<;>intro O);all_goals (first|(refine' Kw (c:=PJ Z);rintro v1 E ⟨rfl,Z⟩)|(refine Pf (c:=PK Z) (p:=by rintro v9 w9 ⟨rfl,Z⟩;(repeat (refine' Qo));refine' Qi;refine .inr ⟨_,rfl,?_⟩;first|(exact ⟨Ss hv V,rfl,Z.sp⟩)) (h:=fun _ _ h=>h.elim))));refine' Nl;refine' KQ;(exact .inl ⟨_,rfl,v.n,Sr hv V,rfl,Z.sp⟩)
def FrmV.push (g:FrmV)(tv:Value)(vs:List Val):FrmV:=⟨g.f,g.b,g.i,tv,g.vals++vs,g.rv,g.regs⟩
theorem Rs {v2:Value}(hf:fr.length≤1000)(hn:g.vals.length+vs.length≤1000000)(Z:St Y w (mL p c fr g L))(hj:nth L j=some (sl 224 4 v2 (vs.map Val.cells))):
 Ka Tryz.prog Q7R [.pointer (some ⟨p,0,none⟩),v2] w fun u B=>∃tv,u= .tuple #[]∧St Y B (mL p c fr (g.push tv vs) L):=by
 refine Kl Kh Tryz.func168 ?_;refine' Lp;refine' Kw (c:=P8 hf Z);rintro v1 E ⟨b1,o1,rfl,hel1,Z⟩;refine' zm;refine' Kw (c:=P8 hf Z);rintro v2 E ⟨b2,o2,rfl,hel2,Z⟩;refine' LW;((refine Q9 Z hel2 rfl fd (Qc fr g) (Qj fr g) rfl ?_));refine' zm;((refine Mx lp (.inl nT) Z vw vw (i:=2) rfl (Z.srcS (i:=j+5) hj (nV vs)) Dw ?_;intro v7 w7 Z;have Z:=Z.ns;have ho7:=Z.oneC (i:=2) rfl;rw [←E7] at Z));refine' LW;refine QC Z hel1 rfl vw fd (Qc fr g) (Qj fr g) V ho7 (Sq (g':=g.push v7 vs) rfl) ?_;intro w8 Z;have Z:=Z.ns;refine' Pm;exact ⟨_,rfl,v7,rfl,Z.sp⟩
end
section
variable {Y:Cx}{w:World}{L:List Res}{p:Nat}{c:MC}{fr:List FrmV}{g:FrmV}
attribute [local irreducible] Frm.val Frm.num Frm.args Frm.rgs Frm.reg
theorem lr (hl1:l.length≤100000)(hf:fr.length≤1000)(hl:Kb.sl Y v1 l)(Z:St Y w (mL p c fr g L)):Kr Tryz.prog Q6X [.pointer (some ⟨p,0,none⟩),v1] w
 (fun u B=>∃vs:List Val,g.abs.args l=some vs∧vs.length=l.length∧oneC u=true∧St Y B (mL p c fr g (sl 224 4 u (vs.map Val.cells)::L))) (fun u B=>g.abs.args l=none∧u=VK∧St Y B (mL p c fr g L)):=by
 have hlen:=hl.len;unfold Kr;refine Kl Kh Tryz.func177 ?_;refine' LS;refine' MV;refine' Ob;have Z:St Y _ (mL p c fr g (sl 224 4 (.slice none 0 0) (([]:List Val).map Val.cells)::L)):=(by have Z:=Z.nil (T:=224) (es:=4);exact Aj);refine zo [0,8,9] (fun A ρ' B=>∃(q:Nat) (vo:Value) (out:List Val),Ki ρ' A∧Ki ρ' [(5,vo),(10, .int .i64 q)]∧(q≤l.length)∧(out.length=q)∧(oneC vo=true)∧(g.abs.args l=(g.abs.args (l.drop q)).map fun r=>out++r)∧St Y B (mL p c fr g (sl 224 4 vo (out.map Val.cells)::L))) (fun ρ' _=>(l.length - iv (ρ' 10)).toNat) ?_ ?_
 · exact B5
 rintro U E ⟨q,vo,out,hA,hρ,hq,hol,hvo,hd,Z⟩;obtain ⟨U,rfl⟩:=Km hA hρ;refine' Nd;refine' Ab<;>intro O
 · refine' XX;intro b1 o1 cs1 x1 hat1 hx1 he1;obtain rfl:=Qy he1;refine MG Z ?_;refine' Kv;refine' RN;refine KF (c:=OQ hf Z) (p:=by rintro u9 w9 ⟨hv,rfl,Z⟩;(repeat (refine' Lo));refine' Qi;refine .inr ⟨_,rfl,?_⟩;exact ⟨xp hd hx1 hv,rfl,Z.sp⟩) (h:=?_);rintro u1 w2 ⟨v,hv,rfl,Z⟩;unfold Val.v Val.cells;refine KO Z [_,_,_,_] ?_;intro b1 E Z;refine Mx lp (.inl nT) Z vw vw (i:=6) rfl (Z.srcB (i:=0) rfl Jr CU) CZ ?_;intro v7 w7 Z;have Z:=Z.ns;have ho7:=Z.oneC (i:=6) rfl;refine' Kv;refine' O1;(exact ⟨⟨q+1,v7,out++[v],zh,zh,V,by rw [EO,hol];rfl,ho7,xo hd hx1 hv,by rw [E7];exact Z.sp⟩,Qh V⟩)
 · refine' S8;(exact .inl ⟨_,rfl,out,xq hd V,V,hvo,Z.sp⟩)
theorem VP (hl1:l.length≤100000)(hf:fr.length≤1000)(hl:Kb.sl Y v1 l)(Z:St Y w (mL p c fr g L)):Kr Tryz.prog Q6Y [.pointer (some ⟨p,0,none⟩),v1] w
 (fun u B=>∃vs:List Int,g.abs.rgs l=some vs∧vs.length=l.length∧oneC u=true∧St Y B (mL p c fr g (sl 3 1 u (Qe vs)::L))) (fun u B=>g.abs.rgs l=none∧u=VK∧St Y B (mL p c fr g L)):=by
 have hlen:=hl.len;unfold Kr;refine Kl Kh Tryz.func221 ?_;refine' LS;refine' MV;refine' Ob;have Z:St Y _ (mL p c fr g (sl 3 1 (.slice none 0 0) (Qe [])::L)):=Eh;refine zo [0,9,10] (fun A ρ' B=>∃(q:Nat) (vo:Value) (out:List Int),Ki ρ' A∧Ki ρ' [(5,vo),(11, .int .i64 q)]∧(q≤l.length)∧(out.length=q)∧(oneC vo=true)∧(g.abs.rgs l=(g.abs.rgs (l.drop q)).map fun r=>out++r)∧St Y B (mL p c fr g (sl 3 1 vo (Qe out)::L))) (fun ρ' _=>(l.length - iv (ρ' 11)).toNat) ?_ ?_
 · exact BO
 rintro U E ⟨q,vo,out,hA,hρ,hq,hol,hvo,hd,Z⟩;obtain ⟨U,rfl⟩:=Km hA hρ;refine' Nd;refine' Ab<;>intro O
 · refine' i9;refine' zi;intro b1 o1 cs1 x1 hat1 hx1 he1;obtain rfl:=Qy he1;refine MG Z ?_;refine' L6;refine' Kw (c:=P8 hf Z);rintro v1 E ⟨b1,o1,rfl,hel,Z⟩;refine' L6;(refine' Ag<;>intro O);(all_goals (refine' S5;refine' N9;(first|refine' Kj|(refine' Kg;refine Q9 Z hel rfl (i:=1) rfl (Qc fr g) (Qj fr g) rfl ?_));refine' SZ;first|refine' Kj|(refine' Kg;refine' Ae<;>intro O));all_goals (refine' Lw;first|(refine' Kw (c:=PJ Z);rintro v1 E ⟨rfl,Z⟩)|(refine Pf (c:=PK Z) (p:=by rintro v9 w9 ⟨rfl,Z⟩;(repeat (refine' Lo));refine' Qi;refine .inr ⟨_,rfl,?_⟩;first|(exact ⟨xt hd hx1 (VO (by show x1<0∨(g.regs.length:Int)≤x1;omega)),rfl,Z.sp⟩)) (h:=fun _ _ h=>h.elim))));refine' zn;obtain ⟨r9,hr9⟩:∃r,g.regs[x1.toNat]?=some r:=⟨_,EI V⟩;have hrow:(Qe g.regs)[x1.toNat]?=some [.int .i64 r9]:=(by rw [EZ,hr9];rfl);have hrg:g.abs.reg x1=some r9:=VN V hr9;refine' NH;refine' LW;refine Q9 Z hel rfl (i:=1) rfl (Qc fr g) (Qj fr g) rfl ?_;refine' zm;refine Y0 Z ?_;intro b2 o2 hel2;refine QV Z hel2 rfl (i:=3) rfl rfl hrow rfl ?_;refine KO Z [_] ?_;intro b1 E Z;refine Mx RQ (.inl Sk) Z vw vw (i:=6) rfl (Z.srcB (i:=0) rfl Jr CU) CZ ?_;intro v7 w7 Z;have Z:=Z.ns;have ho7:=Z.oneC (i:=6) rfl;refine' Kv;refine' O1;(exact ⟨⟨q+1,v7,out++[r9],zh,zh,V,by rw [EO,hol];rfl,ho7,xr hd hx1 hrg,by rw [Qe,E7];exact Z.sp⟩,Qh V⟩)
 · refine' S8;(exact .inl ⟨_,rfl,out,xu hd V,V,hvo,Z.sp⟩)
end
section
variable {Y:Cx}{w:World}{L:List Res}{p N:Nat}{c:MC}{fr:List FrmV}{g:FrmV}{h:HpS}{out:List Int}
attribute [local irreducible] Frm.val Frm.num Frm.args Frm.rgs Frm.reg HpS.get HpS.set HpS.setC HpS.len HpS.code HpS.put HpS.putV HpS.open HpS.shut HpS.full HpS.openV HpS.can HpS.arr HpS.arrC HpS.arrV HpS.tuple
theorem nX {e:Int}(hf:fr.length≤1000)(hn:g.vals.length≤900000)(Z:St Y w (mL p c fr g L)):Kr Tryz.prog Q70 [.pointer (some ⟨p,0,none⟩),v.v, .int .i64 e] w
 (fun u B=>e=0∧∃tv,u= .tuple #[]∧St Y B (mL p c fr (g.push tv [v]) L)) (fun u B=>(e=14∧u=eY 6∨e≠14∧e≠0∧u=VK)∧St Y B (mL p c fr g L)):=by
 ((unfold Kr Val.v Val.cells;refine Kl Kh Tryz.func175 ?_;refine' KU;intro p4 E Z;refine' L8;(refine' Ac<;>intro O);all_goals (first|(refine' Kk (c:=VL Z);rintro v1 E ⟨rfl,Z⟩)|(refine KF (c:=VM Z) (p:=by rintro v9 w9 ⟨rfl,Z⟩;(repeat (refine' Qo));refine' Qi;refine .inr ⟨_,rfl,?_⟩;first|(exact ⟨.inl ⟨V,rfl⟩,Z.sp⟩)) (h:=fun _ _ h=>h.elim))));refine' L8;(refine' Ac<;>intro O);all_goals (first|(refine' Kw (c:=PJ Z);rintro v1 E ⟨rfl,Z⟩)|(refine Pf (c:=PK Z) (p:=by rintro v9 w9 ⟨rfl,Z⟩;(repeat (refine' Qo));refine' Qi;refine .inr ⟨_,rfl,?_⟩;first|(exact ⟨.inr ⟨V,V,rfl⟩,Z.sp⟩)) (h:=fun _ _ h=>h.elim))));refine' Tb;refine KO Z [_,_,_,_] ?_;intro b1 E Z;have Z:=Fz (T:=224) (es:=4) (css:=[v].map Val.cells) Z rfl CX rfl;have Z:St Y _ (mL p c fr g (sl 224 4 (.slice (some ⟨b1,0,none⟩) 1 1) ([v].map Val.cells)::L)):=Z.sp;refine' Kk (c:=Rs (j:=0) hf C0 Z rfl);rintro u1 E ⟨tv,rfl,Z⟩;refine' Pm;exact .inl ⟨_,rfl,V,tv,rfl,Z.sp⟩
theorem jh {e:Int}(hx:K1.at Y cs x)(hf:fr.length≤1000)(Z:St Y w (mL p c fr g L)):Kr Tryz.prog Q6Z [.pointer (some ⟨p,0,none⟩), .agg ⟨cs⟩, .int .i64 e] w
 (fun u B=>(∃v,g.abs.val x.a=some v∧v.kind=4)∧e=0∧u= .tuple #[]∧St Y B (mL p c fr g L))
 (fun u B=>((∀v,g.abs.val x.a=some v→v.kind=4→e≠1∧e≠0)∧u=VK∨(∃v,g.abs.val x.a=some v∧v.kind=4)∧e=1∧u=eY 2)∧St Y B (mL p c fr g L)):=by
 (((obtain ⟨vr,va,rfl,hr,ha⟩:=QN hx;unfold Kr;refine Kl Kh Tryz.func181 ?_;refine' KU;intro p4 E Z;refine' L8;refine' KJ;have Z:St Y _ (mL p c fr g (blk p4 84 [.int .i64 x.op, .int .i64 x.a, .int .i64 x.b, .int .i64 x.c, .int .i64 x.k, .int .i64 x.n,vr,va]::L)):=Z.sp;refine KF (c:=OQ hf Z) (p:=by rintro u9 w9 ⟨hv,rfl,Z⟩;(repeat (refine' Qo));refine' Qi;refine .inr ⟨_,rfl,?_⟩;exact ⟨.inl ⟨fun v h=>(by rw [hv] at h;cases h),rfl⟩,Z.sp⟩) (h:=?_);rintro u1 w2 ⟨v,hv,rfl,Z⟩;unfold Val.v Val.cells;refine iz rfl rfl ?_;(refine' Ac<;>intro O);all_goals (first|(refine' Kw (c:=PJ Z);rintro v1 E ⟨rfl,Z⟩)|(refine Pf (c:=PK Z) (p:=by rintro v9 w9 ⟨rfl,Z⟩;(repeat (refine' Qo));refine' Qi;refine .inr ⟨_,rfl,?_⟩;exact BB) (h:=fun _ _ h=>h.elim))));refine' L8;(refine' Ac<;>intro O);all_goals (first|(refine' Kk (c:=VL Z);rintro v1 E ⟨rfl,Z⟩)|(refine KF (c:=VM Z) (p:=by rintro v9 w9 ⟨rfl,Z⟩;(repeat (refine' Qo));refine' Qi;refine .inr ⟨_,rfl,?_⟩;first|(exact ⟨.inr ⟨⟨v,hv,V⟩,V,rfl⟩,Z.sp⟩)) (h:=fun _ _ h=>h.elim))));refine' zn;refine' Lp;(refine' Ac<;>intro O);all_goals (first|(refine' Kw (c:=PJ Z);rintro v1 E ⟨rfl,Z⟩)|(refine Pf (c:=PK Z) (p:=by rintro v9 w9 ⟨rfl,Z⟩;(repeat (refine' Qo));refine' Qi;refine .inr ⟨_,rfl,?_⟩;exact BB) (h:=fun _ _ h=>h.elim))));refine' Pm;exact .inl ⟨_,rfl,⟨v,hv,V⟩,V,rfl,Z.sp⟩
end
section
@[reducible] def mS (p:Nat)(c:MC)(fr:List FrmV)(g:FrmV)(N:Nat)(h:HpS)(out:List Int)(L:List Res):List Res:=mL p c fr g (Mw N c.hp h::sl 2 1 c.ov (Qe out)::L)
def Kc (h:HpS)(g:FrmV)(fr:List FrmV)(inp out:List Int)(fu:Nat):MS:=⟨h,g.abs,(fr.map FrmV.abs).reverse,inp,out,fu⟩
@[reducible] def MC.upd (c:MC)(lv iv ov:Value):MC:=⟨c.hp,c.fn,lv,iv,c.e,c.bv,ov,c.fu,c.mo,c.dn,c.c,c.a⟩
def Mv (p:Nat)(c:MC)(N:Nat)(fu:Nat)(X:Stp)(Y:Cx)(L:List Res)(u:Value)(B:World):Prop:=
 ∃lv iv ov fr' g' N' h' inp' out',X= .go (Kc h' g' fr' inp' out' fu)∧Kb.sl Y iv inp'∧N'≤N+1∧u= .tuple #[]∧St Y B (mS p (c.upd lv iv ov) fr' g' N' h' out' L)
def Mf (p:Nat)(c:MC)(N:Nat)(h:HpS)(out:List Int)(X:Stp)(Y:Cx)(L:List Res)(u:Value)(B:World):Prop:=
 (X= .lost∧u=VK∧St Y B (blk p 55 c.cells::L))∨(∃e,X= .halt e∧u=eY e∧∃fr' g' N',N'≤N+1∧St Y B (mS p c fr' g' N' h out L))
variable {Y:Cx}{w:World}{L:List Res}{p N:Nat}{c:MC}{fr:List FrmV}{g:FrmV}{h:HpS}{out inp:List Int}{fu:Nat}
attribute [local irreducible] Frm.val Frm.num Frm.args Frm.rgs Frm.reg HpS.get HpS.set HpS.setC HpS.len HpS.code HpS.putV HpS.open HpS.shut HpS.full HpS.openV HpS.can HpS.tuple
theorem rE {s:MS}{e:Int}(he:e=14):s.made e h v= .halt 6:=Qip he
theorem rF {s:MS}{e:Int}(he:e≠14)(h0:e≠0):s.made e h v= .lost:=by unfold MS.made;rw [Qin he,Qip h0]
theorem nS {s:MS}{e:Int}(he:e=0):s.made e h v= .go ((s.hp h).put [v]):=by unfold MS.made;rw [Qin V,Qin V]
theorem xd {h:HpS}(e:h.arrC v n≠0):h.arr v n=h:=by
 unfold HpS.arrC at e;unfold HpS.arr;split
 · rfl
 · rename_i hn;rw [Qin hn] at e;unfold HpS.put;exact Qin e
def ZB (s:MS)(x:Ins):Stp:=Ls (s.g.val x.a) fun v=>Ls (s.g.num x.b) fun n=>if n<0∨15<n then .halt 3 else s.made (s.h.arrC v n) (s.h.arr v n) (s.h.arrV v n)
attribute [local irreducible] HpS.arr HpS.arrC HpS.arrV
theorem ZC (hx:K1.at Y cs x)(hi:Kb.sl Y c.iv inp)(hf:fr.length≤1000)(hn:g.vals.length≤900000)(hN:N≤99999)(Z:St Y w (mS p c fr g N h out L)):
 Kr Tryz.prog Q6u [.pointer (some ⟨p,0,none⟩), .agg ⟨cs⟩] w (Mv p c N fu (ZB (Kc h g fr inp out fu) x) Y L) (Mf p c N h out (ZB (Kc h g fr inp out fu) x) Y L):=by
 obtain ⟨vr,va,rfl,hr,ha⟩:=QN hx;unfold Kr Mv Mf ZB;refine Kl Kh Tryz.func180 ?_;refine' KU;intro p3 E Z;refine' LA;have Z:St Y _ (mS p c fr g N h out (blk p3 84 [.int .i64 x.op, .int .i64 x.a, .int .i64 x.b, .int .i64 x.c, .int .i64 x.k, .int .i64 x.n,vr,va]::L)):=Z.sp;refine NU 3 8 Jk ?_ ?_
 · skip
   refine NU 7 8 Jk ?_ ?_
   · refine zC [(0,none),(1,none),(2,none),(4,none),(5,none),(6,none),(3,some (some [6])),(7,some none),(8,some none),(9,some none),(10,some none)] ?_;have Z:=Z.drew;refine' Ph;refine' N1;refine KF (c:=OQ hf (show St Y _ (mL p c fr g _) from Z.sp)) (p:=by rintro u9 w9 ⟨hv,rfl,Z⟩;(repeat (first|refine' Qo|refine fun _=>?_));refine' Qi;refine .inr ⟨_,rfl,?_⟩;exact Bn) (h:=?_);rintro u1 w2 ⟨v,hv,rfl,Z⟩;refine' LY;refine KF (c:=Te hf (show St Y _ (mL p c fr g _) from Z.sp)) (p:=by rintro u9 w9 ⟨hm,rfl,Z⟩;(repeat (refine' Qo));refine' Qi;refine .inr ⟨_,rfl,?_⟩;exact Bm) (h:=?_);rintro u1 w2 ⟨n,hm,rfl,Z⟩;refine' K8;refine Qb Z ?_;intro p4 E Z;refine' K8;unfold Val.v Val.cells;refine Kp Z ?_;intro E Z;have Z:=Z.ns;refine' Oa;refine' KX;(refine' Ae<;>intro O);(all_goals (refine' Md;first|refine' Kj|(refine' Kg;refine' Af<;>intro O));all_goals (refine' Lw;first|(refine' Kk (c:=VL Z);rintro v1 E ⟨rfl,Z⟩)|(refine KF (c:=VM Z) (p:=by rintro v9 w9 ⟨rfl,Z⟩;(repeat (refine' Qo));refine' Qi;refine .inr ⟨_,rfl,?_⟩;first|(exact Bg)) (h:=fun _ _ h=>h.elim))));refine' zn;refine zC [(0,none),(1,none),(2,none),(3,none),(4,none),(5,none),(6,none),(7,some (some [])),(8,none),(9,none),(10,some none)] ?_;have Z:=Z.drew;refine' U1;refine' NS;refine' S3;refine' zm;refine' Lh;refine' KZ (c:=rU (N:=N) (s:=h) (h:=c.hp) v n V Z fd);rintro v1 E ⟨rfl,Z⟩;have Z:=Z.ns;refine' LZ;refine' Y5;refine' K8;refine MK (c:=nX (v:=h.arrV v n) hf hn (show St Y _ (mL p c fr g _) from Z.sp)) (p:=by rintro u9 w9 ⟨he,Z⟩;(repeat (refine' Qo));refine' Qi;refine .inr ⟨_,rfl,?_⟩;rcases he with ⟨e0,rfl⟩|⟨e0,e1,rfl⟩;exact A7;exact Bt) (h:=?_);rintro u1 w2 ⟨e0,tv,rfl,Z⟩;refine' bO;exact Bc
   · refine zC [(0,none),(1,none),(2,none),(4,none),(5,none),(6,none),(3,some (some [6])),(8,some (some [6])),(7,some none),(9,some none),(10,some none)] ?_;have Z:=Z.drew;refine' Ph;refine' N1;refine KF (c:=OQ hf (show St Y _ (mL p c fr g _) from Z.sp)) (p:=by rintro u9 w9 ⟨hv,rfl,Z⟩;(repeat (first|refine' Qo|refine fun _=>?_));refine' Qi;refine .inr ⟨_,rfl,?_⟩;exact Bn) (h:=?_);rintro u1 w2 ⟨v,hv,rfl,Z⟩;refine' Lc;refine Qb Z ?_;intro p4 E Z;refine' LY;refine KF (c:=Te hf (show St Y _ (mL p c fr g _) from Z.sp)) (p:=by rintro u9 w9 ⟨hm,rfl,Z⟩;(repeat (refine' Qo));refine' Qi;refine .inr ⟨_,rfl,?_⟩;exact Bm) (h:=?_);rintro u1 w2 ⟨n,hm,rfl,Z⟩;refine' K8;unfold Val.v Val.cells;refine Kp Z ?_;intro E Z;have Z:=Z.ns;refine' Oa;refine' KX;(refine' Ae<;>intro O);(all_goals (refine' Md;first|refine' Kj|(refine' Kg;refine' Af<;>intro O));all_goals (refine' Lw;first|(refine' Kk (c:=VL Z);rintro v1 E ⟨rfl,Z⟩)|(refine KF (c:=VM Z) (p:=by rintro v9 w9 ⟨rfl,Z⟩;(repeat (refine' Qo));refine' Qi;refine .inr ⟨_,rfl,?_⟩;first|(exact Bg)) (h:=fun _ _ h=>h.elim))));refine' zn;refine zC [(0,none),(1,none),(2,none),(3,none),(4,none),(5,none),(6,none),(7,some (some [])),(8,none),(9,none),(10,some none)] ?_;have Z:=Z.drew;refine' U1;refine' NS;refine' S3;refine' zm;refine' Lh;refine' KZ (c:=rU (N:=N) (s:=h) (h:=c.hp) v n V Z fd);rintro v1 E ⟨rfl,Z⟩;have Z:=Z.ns;refine' LZ;refine' Y5;refine' K8;refine MK (c:=nX (v:=h.arrV v n) hf hn (show St Y _ (mL p c fr g _) from Z.sp)) (p:=by rintro u9 w9 ⟨he,Z⟩;(repeat (refine' Qo));refine' Qi;refine .inr ⟨_,rfl,?_⟩;rcases he with ⟨e0,rfl⟩|⟨e0,e1,rfl⟩;exact A7;exact Bt) (h:=?_);rintro u1 w2 ⟨e0,tv,rfl,Z⟩;refine' bO;exact Bc
 · refine zC [(0,none),(1,none),(2,none),(4,none),(5,none),(6,none),(8,some (some [2,6])),(3,some (some [6])),(7,some none),(9,some none),(10,some none)] ?_;have Z:=Z.drew;refine' Ph;refine' N1;refine Qb Z ?_;intro p4 E Z;refine' Lc;refine KF (c:=OQ hf (show St Y _ (mL p c fr g _) from Z.sp)) (p:=by rintro u9 w9 ⟨hv,rfl,Z⟩;(repeat (first|refine' Qo|refine fun _=>?_));refine' Qi;refine .inr ⟨_,rfl,?_⟩;exact Bn) (h:=?_);rintro u1 w2 ⟨v,hv,rfl,Z⟩;refine' LY;refine KF (c:=Te hf (show St Y _ (mL p c fr g _) from Z.sp)) (p:=by rintro u9 w9 ⟨hm,rfl,Z⟩;(repeat (refine' Qo));refine' Qi;refine .inr ⟨_,rfl,?_⟩;exact Bm) (h:=?_);rintro u1 w2 ⟨n,hm,rfl,Z⟩;refine' K8;unfold Val.v Val.cells;refine Kp Z ?_;intro E Z;have Z:=Z.ns;refine' Oa;refine' KX;(refine' Ae<;>intro O);(all_goals (refine' Md;first|refine' Kj|(refine' Kg;refine' Af<;>intro O));all_goals (refine' Lw;first|(refine' Kk (c:=VL Z);rintro v1 E ⟨rfl,Z⟩)|(refine KF (c:=VM Z) (p:=by rintro v9 w9 ⟨rfl,Z⟩;(repeat (refine' Qo));refine' Qi;refine .inr ⟨_,rfl,?_⟩;first|(exact Bg)) (h:=fun _ _ h=>h.elim))));refine' zn;refine zC [(0,none),(1,none),(2,none),(3,none),(4,none),(5,none),(6,none),(7,some (some [])),(8,none),(9,none),(10,some none)] ?_;have Z:=Z.drew;refine' U1;refine' NS;refine' S3;refine' zm;refine' Lh;refine' KZ (c:=rU (N:=N) (s:=h) (h:=c.hp) v n V Z fd);rintro v1 E ⟨rfl,Z⟩;have Z:=Z.ns;refine' LZ;refine' Y5;refine' K8;refine MK (c:=nX (v:=h.arrV v n) hf hn (show St Y _ (mL p c fr g _) from Z.sp)) (p:=by rintro u9 w9 ⟨he,Z⟩;(repeat (refine' Qo));refine' Qi;refine .inr ⟨_,rfl,?_⟩;rcases he with ⟨e0,rfl⟩|⟨e0,e1,rfl⟩;exact A7;exact Bt) (h:=?_);rintro u1 w2 ⟨e0,tv,rfl,Z⟩;refine' bO;exact Bc
end
section
variable {Y:Cx}{w:World}{L:List Res}{p N:Nat}{c:MC}{fr:List FrmV}{g:FrmV}{h:HpS}{out inp:List Int}{fu:Nat}{m:Module}
theorem xv {g':FrmV}:Kc h g' (fr++[g]) inp out fu=⟨h,g'.abs,g.abs::(fr.map FrmV.abs).reverse,inp,out,fu⟩:=by unfold Kc;simp
theorem VQ {s:MS}{gf:Fun}(hg:m.funcs[x.k.toNat]?=some gf):s.call m x=Ls (s.g.rgs x.regs) fun rs=>Ls (s.g.args x.args) fun vs=>
 if (rs.length:Int)≠gf.regs∨vs.length≠gf.params.length then .lost else if s.st.length+1=40 then .halt 5 else .go ⟨s.h,⟨x.k.toNat,0,0,vs,rs⟩,s.g::s.st,s.inp,s.out,s.fuel⟩:=by unfold MS.call;rw [hg]
theorem lu (Z:St Y w (sl 224 4 g.vv (g.vals.map Val.cells)::sl 3 1 g.rv (Qe g.regs)::KV FrmV.res fr::L)):St Y w (KV FrmV.res (fr++[g])::L):=
 Hc (f:=FrmV.res) (x:=g) (G8 Z)
theorem xw {g':FrmV}:Ns fr g++[g'.cells]=Ns (fr++[g]) g':=by simp [Ns]
attribute [local irreducible] Frm.val Frm.num Frm.args Frm.rgs Frm.reg
theorem eZ (hx:K1.at Y cs x)(hfn:Ks.sl Y c.fn m.funcs)(hi:Kb.sl Y c.iv inp)(hk0:0≤x.k)(hk1:x.k<m.funcs.length)(h6:x.regs.length≤100)(h8:x.args.length≤100)(hf:fr.length≤1000)(Z:St Y w (mS p c fr g N h out L)):
 Kr Tryz.prog Q71 [.pointer (some ⟨p,0,none⟩), .agg ⟨cs⟩] w (Mv p c N fu ((Kc h g fr inp out fu).call m x) Y L) (Mf p c N h out ((Kc h g fr inp out fu).call m x) Y L):=by
 (((obtain ⟨vr,va,rfl,hr,ha⟩:=QN hx;have hfl:=hfn.len;unfold Kr Mv Mf;refine Kl Kh Tryz.func183 ?_;refine' KU;intro p3 E Z;refine' LA;have Z:St Y _ (mS p c fr g N h out (blk p3 84 [.int .i64 x.op, .int .i64 x.a, .int .i64 x.b, .int .i64 x.c, .int .i64 x.k, .int .i64 x.n,vr,va]::L)):=Z.sp;refine zC [(0,none),(1,none),(2,none),(3,none),(4,none),(5,none),(6,none),(7,none),(8,none),(9,some (some [4,6,8])),(10,some none)] ?_;have Z:=Z.drew;refine' NT;refine' Rl;refine' Ku;refine' NS;((refine' zj;intro b1 o1 cs1 x1 hat1 hx1 he1;obtain ⟨vp1,vr1,vb1,rfl,hp1,hr1,hb1⟩:=Qx he1;have hX:=VQ (s:=Kc h g fr inp out fu) hx1));refine' TP;(intro p4 E Z);refine' LY;((refine Kp Z ?_;intro E Z;have Z:=Z.ns));refine' K7;refine Qm ?_;refine zC [(0,none),(1,none),(2,none),(4,none),(5,none),(6,none),(3,some (some [6])),(7,some none),(8,none),(9,some none)] ?_;have Z:=Z.drew;refine' Ph;refine' N1;refine KF (c:=VP V hf hr (show St Y _ (mL p c fr g _) from Z.sp)) (p:=by rintro u9 w9 ⟨hrs,rfl,Z⟩;(repeat (first|refine' Qo|refine fun _=>?_));refine' Qi;refine .inr ⟨_,rfl,?_⟩;exact .inl ⟨hX.trans (Qu hrs),rfl,Z.sp⟩) (h:=?_);rintro u1 w2 ⟨rs,hrs,hrl,ho1,Z⟩;obtain ⟨a1,n1,rfl⟩:=Z.shape (i:=5) rfl;refine' LY;refine KF (c:=lr V hf ha (show St Y _ (mL p c fr g _) from Z.sp)) (p:=by rintro u9 w9 ⟨hvs,rfl,Z⟩;(repeat (refine' Qo));refine' Qi;refine .inr ⟨_,rfl,?_⟩;exact CB) (h:=?_);rintro u2 w2 ⟨vs,hvs,hvl,ho2,Z⟩;obtain ⟨a2,n2,rfl⟩:=Z.shape (i:=5) rfl;refine' Ku;refine' zm;refine' Oa;refine' KX;refine PZ Z ?_;refine' KJ;(refine' Ac<;>intro O);all_goals (refine' Md;refine' SZ;refine' MD;refine' ML;first|refine' Kj|(refine' Kg;refine' Ac<;>intro O)));all_goals (refine' Lw;first|(refine' Kw (c:=PJ Z);rintro v1 E ⟨rfl,Z⟩)|(refine Pf (c:=PK Z) (p:=by rintro v9 w9 ⟨rfl,Z⟩;(repeat (refine' Qo));refine' Qi;refine .inr ⟨_,rfl,?_⟩;first|(exact Cm)) (h:=fun _ _ h=>h.elim))));refine' L8;refine' LG;refine Qt Z vw fd (Qc fr g) ?_;(refine' Ac<;>intro O);all_goals (first|(refine' Kk (c:=VL Z);rintro v1 E ⟨rfl,Z⟩)|(refine KF (c:=VM Z) (p:=by rintro v9 w9 ⟨rfl,Z⟩;(repeat (refine' Qo));refine' Qi;refine .inr ⟨_,rfl,?_⟩;first|(exact .inr ⟨5,hX.trans ((Q1 hrs).trans ((Q1 hvs).trans ((Qin V).trans (Qip (by show ((fr.map FrmV.abs).reverse).length+1=40;rw [GH,EM];omega))))),rfl,fr,g,N,V,Z.sp⟩)) (h:=fun _ _ h=>h.elim))));refine' zn;refine zC [(0,none),(1,none),(2,none),(3,none),(4,none),(5,none),(6,none),(7,none),(8,none),(9,none),(10,some (some [4])),(11,some (some [])),(12,none),(13,none),(14,some none)] ?_;have Z:=Z.drew;refine' U1;refine' NS;refine' Pj;refine' O0;refine PF [_,_,_,_,_] ?_;refine' Lh;refine KO Z [_,_,_,_,_] ?_;intro b1 E Z;refine' Lc;refine Mx eC (.inl kK) Z vw vw fd (Z.srcB fd Jr DK) Ep ?_;intro v7 w7 Z;have Z:=Z.ns;refine' LZ;refine' Nc;refine' MT;refine' K8;refine Lv Z ?_;intro E Z;have Z:=Z.ns;refine' bO;rw [show (Value.int .i64 x.k)= .int .i64 ((x.k.toNat:Nat):Int) by rw [Fi hk0]] at Z;have Z:=lu (g:=g) (fr:=fr) (L:=blk p 55 _::sl 110 5 v7 _::sl 224 4 (.slice a2 _ n2) _::sl 3 1 (.slice a1 _ n1) _::Mw N c.hp h::sl 2 1 c.ov _::L) Z.sp;exact .inl ⟨_,rfl,v7,c.iv,c.ov,fr++[g],⟨x.k.toNat,0,0, .slice a2 (vs.map Val.cells).length n2,vs, .slice a1 (Qe rs).length n1,rs⟩,N,h,inp,out,hX.trans ((Q1 hrs).trans ((Q1 hvs).trans ((Qin V).trans ((Qin (by show¬((fr.map FrmV.abs).reverse).length+1=40;rw [GH,EM];omega)).trans (by rw [xv];rfl))))),hi,V,rfl,by have e9:Ns fr g++[[.int .i64 ((x.k.toNat:Nat):Int),vi 0,vi 0, .slice a2 (vs.map Val.cells).length n2, .slice a1 (Qe rs).length n1]]=Ns (fr++[g]) ⟨x.k.toNat,0,0, .slice a2 (vs.map Val.cells).length n2,vs, .slice a1 (Qe rs).length n1,rs⟩:=xw (g':=⟨x.k.toNat,0,0, .slice a2 (vs.map Val.cells).length n2,vs, .slice a1 (Qe rs).length n1,rs⟩);rw [e9] at Z;exact Z.sp⟩
end
section
variable {Y:Cx}{w:World}{L:List Res}{p N:Nat}{c:MC}{fr:List FrmV}{g:FrmV}{h:HpS}{out inp:List Int}{fu:Nat}{m:Module}
theorem lx {s:MS}{t:To}{b:Block}(hb:f.blocks[t.block.toNat]?=some b):s.to f t=Ls (s.g.rgs t.regs) fun rs=>Ls (s.g.args t.args) fun vs=>
 if (rs.length:Int)≠b.regs∨vs.length≠b.params.length then .lost else .go (s.fr ⟨s.g.f,t.block.toNat,0,vs,rs⟩):=by unfold MS.to;rw [hb]
theorem QiH {g':FrmV}:(Ns fr g).set fr.length g'.cells=Ns fr g':=by
 unfold Ns;rw [Gf _ _ Js];simp
attribute [local irreducible] Frm.val Frm.num Frm.args Frm.rgs Frm.reg
theorem VS {t:To}(hx:toR.at Y cs t)(hfn:Ks.sl Y c.fn m.funcs)(hi:Kb.sl Y c.iv inp)(hfx:m.funcs[g.f]?=some f)(hb0:0≤t.block)(hb1:t.block<f.blocks.length)(h6:t.regs.length≤100)(h8:t.args.length≤100)(hf:fr.length≤1000)(Z:St Y w (mS p c fr g N h out L)):
 Kr Tryz.prog Q8F [.pointer (some ⟨p,0,none⟩), .agg ⟨cs⟩] w (Mv p c N fu ((Kc h g fr inp out fu).to f t) Y L) (Mf p c N h out ((Kc h g fr inp out fu).to f t) Y L):=by
 ((obtain ⟨vr,va,rfl,hr,ha⟩:=YJ hx;have hfl:=hfn.len;have hgf:=(EJ.1 hfx).1;unfold Kr Mv Mf;refine Kl Kh Tryz.func184 ?_;refine' KU;intro p3 E Z;refine' LA;have Z:St Y _ (mS p c fr g N h out (blk p3 88 [.int .i64 t.block,vr,va]::L)):=Z.sp;refine' Lp;refine' Kw (c:=P8 hf Z);rintro v1 E ⟨b9,o9,rfl,hel,Z⟩;refine' MU;refine zC [(0,none),(1,none),(2,none),(3,none),(4,none),(5,none),(6,none),(7,none),(8,none),(9,none),(10,none),(11,none),(12,none),(13,none),(14,none),(15,none),(16,some (some [4,8,11,13,15])),(17,some none)] ?_;have Z:=Z.drew;refine' NT;refine' Rl;refine' Mm;refine' OL;refine QV Z hel rfl fd (Qc fr g) (Qj fr g) rfl ?_;refine' Ku;(refine' zi;intro b8 o8 cs8 x8 hat8 hx8 he8;obtain rfl:x8=f:=EP (hx8.symm.trans hfx);obtain ⟨vp8,vr8,vb8,rfl,hp8,hr8,hb8⟩:=Qx he8);refine' Ku;refine' US;refine YY Z ?_;refine' Ku;refine' NS;((refine' zj;intro b1 o1 cs1 x1 hat1 hx1 he1;((obtain ⟨vp1,vc1,ve11,ve12,ve13,ve14,ve15,rfl,hp1,hc1,he11,he12,he13,he14,he15⟩:=PV he1))));refine' TP;(intro p5 E Z);refine' zt;refine ⟨EN.2 ⟨CS,EN.2 ⟨(by (exact A8)),EN.2 ⟨Df,EN.2 ⟨CS,EN.2 ⟨C7,fun _ h=>(ET h).elim⟩⟩⟩⟩⟩,?_⟩;refine' Lg;((refine Kp Z ?_;intro E Z;have Z:=Z.ns));refine' K7;refine Qm ?_;have hX:=lx (s:=Kc h g fr inp out fu) hx1;refine zC [(0,none),(1,none),(2,none),(4,none),(5,none),(6,none),(3,some (some [6])),(7,some none),(8,none),(9,some none)] ?_;have Z:=Z.drew;refine' Ph;refine' N1;refine KF (c:=VP V hf hr (show St Y _ (mL p c fr g _) from Z.sp)) (p:=by rintro u9 w9 ⟨hrs,rfl,Z⟩;(repeat (first|refine' Qo|refine fun _=>?_));refine' Qi;refine .inr ⟨_,rfl,?_⟩;exact .inl ⟨hX.trans (Qu hrs),rfl,Z.sp⟩) (h:=?_);rintro u1 w2 ⟨rs,hrs,hrl,ho1,Z⟩;obtain ⟨a1,n1,rfl⟩:=Z.shape (i:=5) rfl;refine' zt;refine ⟨EN.2 ⟨CS,fun _ h=>(ET h).elim⟩,?_⟩;refine' Lg;refine KF (c:=lr V hf ha (show St Y _ (mL p c fr g _) from Z.sp)) (p:=by rintro u9 w9 ⟨hvs,rfl,Z⟩;(repeat (refine' Qo));refine' Qi;refine .inr ⟨_,rfl,?_⟩;exact CB) (h:=?_);rintro u2 w2 ⟨vs,hvs,hvl,ho2,Z⟩;obtain ⟨a2,n2,rfl⟩:=Z.shape (i:=5) rfl;refine' Ku;refine' zm;refine' Oa;refine' KX;refine PZ Z ?_;refine' KJ;(refine' Ac<;>intro O);all_goals (refine' Md;refine' SZ;refine' MD;refine' ML;first|refine' Kj|(refine' Kg;refine' Ac<;>intro O)));all_goals (refine' Lw;first|(refine' Kw (c:=PJ Z);rintro v1 E ⟨rfl,Z⟩)|(refine Pf (c:=PK Z) (p:=by rintro v9 w9 ⟨rfl,Z⟩;(repeat (refine' Qo));refine' Qi;refine .inr ⟨_,rfl,?_⟩;first|(exact Cm)) (h:=fun _ _ h=>h.elim))));refine' zn;refine zD (ci 12 [11]) ?_;have Z:=Z.drew;refine' Me;refine' LW;refine QV Z hel rfl fd (Qc fr g) (Qj fr g) rfl ?_;refine' KJ;refine' Me;refine vU [_,_,_,_,_] ?_;refine' RF;refine br (css':=Ns fr ⟨g.f,t.block.toNat,0, .slice a2 (vs.map Val.cells).length n2,vs, .slice a1 (Qe rs).length n1,rs⟩) Z hel rfl vw Jr fd (Qc fr g) (Qj fr g) rfl DK (by rw [show Value.int .i64 t.block= .int .i64 ((t.block.toNat:Nat):Int) by rw [Fi hb0]];exact QiH (g':=⟨g.f,t.block.toNat,0, .slice a2 (vs.map Val.cells).length n2,vs, .slice a1 (Qe rs).length n1,rs⟩)) ?_;intro w8 Z;have Z:=Z.ns;refine' Pm;exact .inl ⟨_,rfl,c.lv,c.iv,c.ov,fr,⟨g.f,t.block.toNat,0, .slice a2 (vs.map Val.cells).length n2,vs, .slice a1 (Qe rs).length n1,rs⟩,N,h,inp,out,hX.trans ((Q1 hrs).trans ((Q1 hvs).trans (Qin V))),hi,V,rfl,Z.sp⟩
end
end Go.Proofs.YteflkifmgnpbhaaGreat
namespace Go.Lir
theorem VU {s:MS}(h:s.g.args e.args=none):s.ret f e= .lost:=by unfold MS.ret;exact Qu h
theorem VV {s:MS}(h:s.g.args e.args=some vs)(hl:vs.length≠f.results.length):s.ret f e= .lost:=by unfold MS.ret;rw [Q1 h,Qip hl]
theorem bZ {s:MS}{c:Frm}{st:List Frm}(h:s.g.args e.args=some vs)(hl:vs.length=f.results.length)(hs:s.st=c::st):s.ret f e= .go ((⟨s.h,c,st,s.inp,s.out,s.fuel⟩:MS).put vs):=by
 unfold MS.ret;rw [Q1 h,Qin (fun hn=>hn hl),hs]
theorem cd {s:MS}(h:s.g.args e.args=some vs)(hl:vs.length=f.results.length)(hs:s.st=[])(hn:KB vs=some ns):s.ret f e= .done ns:=by
 unfold MS.ret;rw [Q1 h,Qin (fun hn=>hn hl),hs];dsimp only;rw [hn]
theorem cg {s:MS}(h:s.g.args e.args=some vs)(hl:vs.length=f.results.length)(hs:s.st=[])(hn:KB vs=none):s.ret f e= .lost:=by
 unfold MS.ret;rw [Q1 h,Qin (fun hn=>hn hl),hs];dsimp only;rw [hn]
theorem rV {l:List Val}(h:v.kind=1):KB (v::l)=(KB l).map fun r=>v.n::r:=by
 rw [KB]
 cases KB l with
 | none=>rfl
 | some ns=>exact Qip h
theorem VW {l:List Val}(h:v.kind≠1):KB (v::l)=none:=by
 rw [KB]
 cases KB l with
 | none=>rfl
 | some ns=>exact Qin h
theorem Qjz (hd:KB vs=(KB (vs.drop q)).map fun r=>ns++r)(hx:vs[q]?=some v)(hk:v.kind=1):KB vs=(KB (vs.drop (q+1))).map fun r=>(ns++[v.n])++r:=by
 rw [hd,Q7 hx,rV hk]
 cases KB (vs.drop (q+1)) with
 | none=>rfl
 | some r=>simp
theorem VX (hd:KB vs=(KB (vs.drop q)).map fun r=>ns++r)(hx:vs[q]?=some v)(hk:v.kind≠1):KB vs=none:=by
 rw [hd,Q7 hx,VW hk];rfl
theorem VY (hd:KB vs=(KB (vs.drop q)).map fun r=>ns++r)(hq:vs.length≤q):KB vs=some ns:=by
 rw [hd,ES hq,KB];simp
theorem fa:KB vs=(KB (vs.drop 0)).map fun r=>[]++r:=by
 rw [FG];cases KB vs<;>rfl
end Go.Lir
namespace Go.Proofs.YteflkifmgnpbhaaGreat
open Go.Lir
attribute [local irreducible] LC.wp Q0 Qp Qk KN Qw LO.wp Q6 Calls
section
variable {Y:Cx}{w:World}{L:List Res}{p N:Nat}{c:MC}{fr:List FrmV}{g:FrmV}{h:HpS}{out inp:List Int}{fu:Nat}{m:Module}
def Nt (p:Nat)(c:MC)(N:Nat)(h:HpS)(out:List Int)(X:Stp)(Y:Cx)(L:List Res)(u:Value)(B:World):Prop:=
 ∃ns bv fr' g',X= .done ns∧u= .tuple #[]∧St Y B (mS p ⟨c.hp,c.fn,c.lv,c.iv,c.e,bv,c.ov,c.fu,c.mo,true,c.c,c.a⟩ fr' g' N h out (sl 2 1 bv (Qe ns)::L))
attribute [local irreducible] Frm.val Frm.num Frm.args Frm.rgs Frm.reg KB
theorem fe (hx:La.at Y cs e)(hfn:Ks.sl Y c.fn m.funcs)(hfx:m.funcs[g.f]?=some f)(h8:e.args.length≤100)(Z:St Y w (mS p c [] g N h out L)):
 Kr Tryz.prog rl [.pointer (some ⟨p,0,none⟩), .agg ⟨cs⟩] w (fun u B=>Nt p c N h out ((Kc h g [] inp out fu).ret f e) Y L u B) (Mf p c N h out ((Kc h g [] inp out fu).ret f e) Y L):=by
 (obtain ⟨v1,v2,v3,v4,v5,rfl,k1,k2,k3,k4,k5⟩:=PA hx;have hfl:=hfn.len;have hgf:=(EJ.1 hfx).1;have hf0:([]:List FrmV).length≤1000:=C3;unfold Kr Mf Nt;refine Kl Kh Tryz.func185 ?_;refine' KU;intro p3 E Z;refine' LA;have Z:St Y _ (mS p c [] g N h out (blk p3 90 [.int .i64 e.op, .int .i64 e.a, .int .i64 e.yes.block,v1,v2, .int .i64 e.no.block,v3,v4,v5]::L)):=Z.sp;refine' OK;refine KF (c:=lr V hf0 k5 (show St Y _ (mL p c [] g _) from Z.sp)) (p:=by rintro u9 w9 ⟨hvs,rfl,Z⟩;(repeat (refine' Qo));refine' Qi;refine .inr ⟨_,rfl,?_⟩;exact .inl ⟨VU hvs,rfl,Z.sp⟩) (h:=?_);rintro u2 w2 ⟨vs,hvs,hvl,ho2,Z⟩;obtain ⟨a2,n2,rfl⟩:=Z.shape (i:=5) rfl;refine' MU;refine zC [(0,none),(1,none),(2,none),(3,none),(4,none),(5,none),(6,none),(7,none),(8,some (some [6])),(9,none),(10,none),(11,none),(12,none),(13,none),(14,none),(15,none),(16,none),(17,some none)] ?_;have Z:=Z.drew;refine' Ph;refine PZ Z ?_;refine' Mm;refine' Nc;refine' Rl;refine' Ku;refine' zm;refine' Lh;refine' Kw (c:=P8 hf0 (show St Y _ (mL p c [] g _) from Z.sp));rintro v9 E ⟨b9,o9,rfl,hel,Z⟩;refine' LZ;refine' OL;refine QV Z hel rfl fd (Qc [] g) (Qj [] g) rfl ?_;refine' Ku;(refine' zi;intro b8 o8 cs8 x8 hat8 hx8 he8;obtain rfl:x8=f:=EP (hx8.symm.trans hfx);obtain ⟨vp8,vr8,vb8,rfl,hp8,hr8,hb8⟩:=Qx he8);refine' Ku;refine' US;refine YY Z ?_;refine' Ku;refine' zL;refine' Ku;(refine' Ac<;>intro O);all_goals (refine' K8;first|(refine' Kw (c:=PJ Z);rintro v1 E ⟨rfl,Z⟩)|(refine Pf (c:=PK Z) (p:=by rintro v9 w9 ⟨rfl,Z⟩;(repeat (refine' Qo));refine' Qi;refine .inr ⟨_,rfl,?_⟩;first|(exact .inl ⟨VV hvs V,rfl,Z.sp⟩)) (h:=fun _ _ h=>h.elim))));refine' K7;refine' Lb;refine' LG;refine Qt Z vw fd (show (Ns [] g).length=1 from rfl) ?_;refine' dO;refine' RJ;refine' MV;refine PZ Z ?_;refine' OG;have Z:=Z.nil (T:=2) (es:=1);refine zo [0,53,54] (fun A ρ' B=>∃(q:Nat) (vo:Value) (ns:List Int),Ki ρ' A∧Ki ρ' [(5,vo),(55, .int .i64 q)]∧(q≤vs.length)∧(ns.length=q)∧(oneC vo=true)∧(KB vs=(KB (vs.drop q)).map fun r=>ns++r)∧St Y B (sl 2 1 vo (Qe ns)::sl 224 4 (.slice a2 (vs.map Val.cells).length n2) (vs.map Val.cells)::mS p c [] g N h out L)) (fun ρ' _=>(vs.length - iv (ρ' 55)).toNat) ?_ ?_
 · exact ⟨0, .slice none 0 0,[],zh,zh,V,rfl,rfl,fa,Z.sp⟩
 rintro U E ⟨q,vo,ns,hA,hρ,hq,hol,hvo,hd,Z⟩;obtain ⟨U,rfl⟩:=Km hA hρ;refine' Nd;refine' Ab<;>intro O
 · refine' i9;obtain ⟨v9,hv9⟩:∃v,vs[q]?=some v:=⟨_,EI V⟩;refine OW Z vw rfl (i:=1) rfl C4 ?_;intro b7 o7 hel7;refine NW Z hel7 rfl (i:=1) rfl rfl (show (vs.map Val.cells)[q]?=some v9.cells by rw [EZ,hv9];rfl) ?_;unfold Val.cells;refine Qb Z ?_;intro p7 E Z;refine Kp Z ?_;intro E Z;have Z:=Z.ns;refine' Nl;(refine' Ac<;>intro O);(all_goals (first|(refine' Kw (c:=PJ Z);rintro v1 E ⟨rfl,Z⟩)|(refine Pf (c:=PK Z) (p:=by rintro v9 w9 ⟨rfl,Z⟩;(repeat (refine' Lo));refine' Qi;refine .inr ⟨_,rfl,?_⟩;first|(exact .inl ⟨cg hvs V rfl (VX hd hv9 V),rfl,Z.sp⟩)) (h:=fun _ _ h=>h.elim))));refine' zn;refine' OK;refine KO Z [_] ?_;intro b1 E Z;refine Mx Td (.inl Vq) Z vw vw (i:=2) rfl (Z.srcB (i:=0) rfl Jr CU) CZ ?_;intro v7 w7 Z;have Z:=Z.ns;have ho7:=Z.oneC (i:=2) rfl;refine' Kv;refine' O1;(exact ⟨⟨q+1,v7,ns++[v9.n],zh,zh,V,by rw [EO,hol];rfl,ho7,Qjz hd hv9 V,by rw [Qe,E7];exact Z.sp⟩,Qh V⟩)
 · refine' LV;refine' KW;refine' RG;refine Lv Z ?_;intro E Z;have Z:=Z.ns;refine' zn;refine' Lp;refine' LF;refine Lv Z ?_;intro E Z;have Z:=Z.ns;refine' Pm;exact .inl ⟨_,rfl,ns,vo,[],g,cd hvs V rfl (VY hd V),rfl,Z.sp⟩
theorem xx {k:FrmV}:((Ns (fr++[k]) g).take (fr++[k]).length).drop 0=Ns fr k:=by
 unfold Ns;rw [FG,Hn Js,Fg Js,E7];rfl
theorem ly {k:FrmV}(Z:St Y w (KV FrmV.res (fr++[k])::L)):St Y w (sl 224 4 k.vv (k.vals.map Val.cells)::sl 3 1 k.rv (Qe k.regs)::KV FrmV.res fr::L):=by
 have I:=Z.bigOut (i:=0) (k:=fr.length) (x:=k) rfl Js;have M:(fr++[k]).eraseIdx fr.length=fr:=DW;rw [EV,M] at I;exact IJ I
theorem ff {k:FrmV}(hx:La.at Y cs e)(hfn:Ks.sl Y c.fn m.funcs)(hi:Kb.sl Y c.iv inp)(hfx:m.funcs[g.f]?=some f)(h8:e.args.length≤100)(hf:fr.length≤900)(hn:k.vals.length≤900000)(Z:St Y w (mS p c (fr++[k]) g N h out L)):
 Kr Tryz.prog rl [.pointer (some ⟨p,0,none⟩), .agg ⟨cs⟩] w (Mv p c N fu ((Kc h g (fr++[k]) inp out fu).ret f e) Y L) (Mf p c N h out ((Kc h g (fr++[k]) inp out fu).ret f e) Y L):=by
 (obtain ⟨v1,v2,v3,v4,v5,rfl,k1,k2,k3,k4,k5⟩:=PA hx;have hfl:=hfn.len;have hgf:=(EJ.1 hfx).1;have hl1:(fr++[k]).length=fr.length+1:=C3;have hf0:(fr++[k]).length≤1000:=CP;have hst:(Kc h g (fr++[k]) inp out fu).st=k.abs::(fr.map FrmV.abs).reverse:=(by unfold Kc;simp);unfold Kr Mf Mv;refine Kl Kh Tryz.func185 ?_;refine' KU;intro p3 E Z;refine' LA;have Z:St Y _ (mS p c (fr++[k]) g N h out (blk p3 90 [.int .i64 e.op, .int .i64 e.a, .int .i64 e.yes.block,v1,v2, .int .i64 e.no.block,v3,v4,v5]::L)):=Z.sp;refine' OK;refine KF (c:=lr V hf0 k5 (show St Y _ (mL p c (fr++[k]) g _) from Z.sp)) (p:=by rintro u9 w9 ⟨hvs,rfl,Z⟩;(repeat (refine' Qo));refine' Qi;refine .inr ⟨_,rfl,?_⟩;exact .inl ⟨VU hvs,rfl,Z.sp⟩) (h:=?_);rintro u2 w2 ⟨vs,hvs,hvl,ho2,Z⟩;obtain ⟨a2,n2,rfl⟩:=Z.shape (i:=5) rfl;refine' MU;refine zC [(0,none),(1,none),(2,none),(3,none),(4,none),(5,none),(6,none),(7,none),(8,some (some [6])),(9,none),(10,none),(11,none),(12,none),(13,none),(14,none),(15,none),(16,none),(17,some none)] ?_;have Z:=Z.drew;refine' Ph;refine PZ Z ?_;refine' Mm;refine' Nc;refine' Rl;refine' Ku;refine' zm;refine' Lh;refine' Kw (c:=P8 hf0 (show St Y _ (mL p c (fr++[k]) g _) from Z.sp));rintro v9 E ⟨b9,o9,rfl,hel,Z⟩;refine' LZ;refine' OL;refine QV Z hel rfl fd (Qc (fr++[k]) g) (Qj (fr++[k]) g) rfl ?_;refine' Ku;(refine' zi;intro b8 o8 cs8 x8 hat8 hx8 he8;obtain rfl:x8=f:=EP (hx8.symm.trans hfx);obtain ⟨vp8,vr8,vb8,rfl,hp8,hr8,hb8⟩:=Qx he8);refine' Ku;refine' US;refine YY Z ?_;refine' Ku;refine' zL;refine' Ku;(refine' Ac<;>intro O);all_goals (refine' K8;first|(refine' Kw (c:=PJ Z);rintro v1 E ⟨rfl,Z⟩)|(refine Pf (c:=PK Z) (p:=by rintro v9 w9 ⟨rfl,Z⟩;(repeat (refine' Qo));refine' Qi;refine .inr ⟨_,rfl,?_⟩;first|(exact .inl ⟨VV hvs V,rfl,Z.sp⟩)) (h:=fun _ _ h=>h.elim))));refine' K7;refine' Lb;refine' LG;refine Qt (n:=fr.length+2) Z vw fd C9 ?_;refine' bI;refine' Se;refine Qm ?_;refine zD (ci 15 [14]) ?_;have Z:=Z.drew;refine' Me;refine' LG;refine' OM;refine Qt (n:=fr.length+2) Z vw fd C9 ?_;refine' NY;rw [show ((fr.length+2:Nat):Int) - 1=(((fr++[k]).length:Nat):Int) by omega];refine pV (l':=0) (h':=(fr++[k]).length) Z vw (i:=1) rfl rfl ⟨_,rfl⟩ rfl C9 V ?_;intro v7 Z;rw [xx] at Z;have Z:=Z.ns;have ho7:=Z.oneC (i:=1) rfl;refine' LF;refine Lv Z ?_;intro E Z;have Z:=Z.ns;refine' XZ;have Z:=ly (fr:=fr) (k:=k) (L:=blk p 55 _::sl 110 5 v7 (Ns fr k)::sl 224 4 (.slice a2 _ n2) _::Mw N c.hp h::sl 2 1 c.ov (Qe out)::L) Z.sp;have Z:St Y _ (mL p (c.upd v7 c.iv c.ov) fr k (sl 224 4 (.slice a2 (vs.map Val.cells).length n2) (vs.map Val.cells)::Mw N c.hp h::sl 2 1 c.ov (Qe out)::L)):=Z.sp;refine' Kk (c:=Rs (j:=0) (vs:=vs) V V Z rfl);rintro u1 E ⟨tv,rfl,Z⟩;refine' LM;refine' jH;(exact .inl ⟨_,rfl,v7,c.iv,c.ov,fr,k.push tv vs,N,h,inp,out,bZ hvs V hst,hi,V,rfl,Z.sp⟩)
end
section
variable {Y:Cx}{w:World}{L:List Res}{p N:Nat}{c:MC}{fr:List FrmV}{g:FrmV}{h:HpS}{out inp:List Int}{fu:Nat}{m:Module}
def Pr (p:Nat)(c:MC)(N:Nat)(h:HpS)(out:List Int)(fu:Nat)(X:Stp)(Y:Cx)(L:List Res)(u:Value)(B:World):Prop:=Mv p c N fu X Y L u B∨Nt p c N h out X Y L u B
theorem fg (hx:La.at Y cs e)(hfn:Ks.sl Y c.fn m.funcs)(hi:Kb.sl Y c.iv inp)(hfx:m.funcs[g.f]?=some f)(h8:e.args.length≤100)(hf:fr.length≤900)(hn:∀x∈fr,x.vals.length≤900000)(Z:St Y w (mS p c fr g N h out L)):
 Kr Tryz.prog rl [.pointer (some ⟨p,0,none⟩), .agg ⟨cs⟩] w (Pr p c N h out fu ((Kc h g fr inp out fu).ret f e) Y L) (Mf p c N h out ((Kc h g fr inp out fu).ret f e) Y L):=by
 rcases Gy fr with rfl|⟨fr0,k,hk⟩
 · exact (fe hx hfn hfx h8 Z).mono (fun _ _ h=> .inr h) (fun _ _ h=>h)
 · obtain rfl:fr=fr0++[k]:=(by simpa using hk);exact (ff hx hfn hi hfx h8 (by rw [EO] at hf;omega) (hn k Js) Z).mono (fun _ _ h=> .inl h) (fun _ _ h=>h)
theorem Mv.tup (hG:Mv p c N fu X Y L u w):u= .tuple #[]∧Mv p c N fu X Y L u w:=⟨by obtain ⟨lv,iv,ov,fr',g',N',h',inp',out',_,_,_,hu,_⟩:=hG;exact hu,hG⟩
theorem Mv.drop {r:Res}(hG:Mv p c N fu X Y (r::L) u w):Mv p c N fu X Y L u w:=by
 obtain ⟨lv,iv,ov,fr',g',N',h',inp',out',I,M,h3,h4,Z⟩:=hG;exact ⟨lv,iv,ov,fr',g',N',h',inp',out',I,M,h3,h4,Z.sp⟩
theorem Mf.drop {r:Res}(hB:Mf p c N h out X Y (r::L) u w):Mf p c N h out X Y L u w:=by
 rcases hB with ⟨I,M,Z⟩|⟨e,I,M,fr',g',N',h3,Z⟩
 · exact .inl ⟨I,M,Z.sp⟩
 · exact .inr ⟨e,I,M,fr',g',N',h3,Z.sp⟩
theorem Nt.drop {r:Res}(hD:Nt p c N h out X Y (r::L) u w):Nt p c N h out X Y L u w:=by
 obtain ⟨ns,bv,fr',g',I,M,Z⟩:=hD;exact ⟨ns,bv,fr',g',I,M,Z.sp⟩
theorem Mv.ok (hG:Mv p c N fu X Y L u w):Pr p c N h out fu X Y L u w:= .inl hG
theorem Pr.drop {r:Res}(hG:Pr p c N h out fu X Y (r::L) u w):Pr p c N h out fu X Y L u w:=hG.elim (fun h=> .inl h.drop) (fun h=> .inr h.drop)
theorem Pr.tup (hG:Pr p c N h out fu X Y L u w):u= .tuple #[]∧Pr p c N h out fu X Y L u w:=by
 refine ⟨?_,hG⟩;rcases hG with h|⟨ns,bv,fr',g',I,M,Z⟩
 · exact h.tup.1
 · exact M
def ToOK (f:Fun)(t:To):Prop:=(0≤t.block∧t.block<f.blocks.length)∧t.regs.length≤100∧t.args.length≤100
attribute [local irreducible] Frm.val Frm.num Frm.args Frm.rgs Frm.reg KB MS.to MS.ret Mv Mf Nt Pr
theorem lz {x:Option Int}{X:Int→Stp}(hx:x=none)(Z:St Y w (mS p c fr g N h out L)):Mf p c N h out (Ls x X) Y L VK w:=by
 unfold Mf;exact .inl ⟨Qu hx,rfl,Z.sp⟩
theorem fh (hx:La.at Y cs e)(hfn:Ks.sl Y c.fn m.funcs)(hi:Kb.sl Y c.iv inp)(hfx:m.funcs[g.f]?=some f)(h8:e.args.length≤100)(hop:1≤e.op∧e.op≤3)(hy:e.op≠3→ToOK f e.yes)(hno:e.op=2→ToOK f e.no)(hf:fr.length≤900)(hn:∀x∈fr,x.vals.length≤900000)(Z:St Y w (mS p c fr g N h out L)):
 Kr Tryz.prog Q7V [.pointer (some ⟨p,0,none⟩), .agg ⟨cs⟩] w (Pr p c N h out fu ((Kc h g fr inp out fu).fin f e) Y L) (Mf p c N h out ((Kc h g fr inp out fu).fin f e) Y L):=by
 obtain ⟨v1,v2,v3,v4,v5,rfl,k1,k2,k3,k4,k5⟩:=PA hx;unfold Kr;rcases (show e.op=1∨e.op=2∨e.op=3 by omega) with I|I|I
 · have hX:(Kc h g fr inp out fu).fin f e=(Kc h g fr inp out fu).to f e.yes:=Qip I;obtain ⟨⟨y1,y2⟩,y3,y4⟩:=hy V;rw [hX];refine Kl Kh Tryz.func119 ?_;refine' KU;intro p3 E Z;refine' Nl;refine' P1;refine Qm ?_;have Z:St Y _ (mS p c fr g N h out (blk p3 90 [.int .i64 e.op, .int .i64 e.a, .int .i64 e.yes.block,v1,v2, .int .i64 e.no.block,v3,v4,v5]::L)):=Z.sp;refine' Lm;refine' UW;refine' Kf;refine' XV;refine KF (c:=VS (t:=e.yes) (inp:=inp) (fu:=fu) ⟨_,_,rfl,k1,k2⟩ hfn hi hfx y1 y2 y3 y4 V Z) (p:=by rintro u9 w9 hB;(repeat (refine' QL));refine' Qi;refine .inr ⟨_,rfl,?_⟩;exact hB.drop) (h:=?_);rintro u1 w2 hG;refine' Pm;have hG:=hG.drop;obtain ⟨rfl,hG⟩:=hG.tup;exact .inl ⟨_,rfl,hG.ok⟩
 · have hX:(Kc h g fr inp out fu).fin f e=Ls (g.abs.num e.a) fun n=>if n≠0 then (Kc h g fr inp out fu).to f e.yes else (Kc h g fr inp out fu).to f e.no:=(Qin V).trans (Qip I)
   obtain ⟨⟨y1,y2⟩,y3,y4⟩:=hy V;obtain ⟨⟨n1,n2⟩,n3,n4⟩:=hno I;rw [hX];refine Kl Kh Tryz.func119 ?_;refine' KU;intro p3 E Z;refine' Nl;refine' P1;refine Qm ?_;have Z:St Y _ (mS p c fr g N h out (blk p3 90 [.int .i64 e.op, .int .i64 e.a, .int .i64 e.yes.block,v1,v2, .int .i64 e.no.block,v3,v4,v5]::L)):=Z.sp;refine' Lm;refine' Pk;refine' Kd;refine' Kn;refine' UW;refine' Kf;refine' Nj;refine KF (c:=Te V Z) (p:=by rintro u9 w9 ⟨hnn,rfl,Z⟩;(repeat (refine' Lo));refine' Qi;refine .inr ⟨_,rfl,?_⟩;exact (lz hnn (show St Y _ (mS p c fr g N h out _) from Z.sp)).drop) (h:=?_);rintro u1 w2 ⟨n,hnn,rfl,Z⟩;rw [Q1 hnn];(refine' Ad<;>intro O);all_goals (refine' zn)
   all_goals
    first
    | (refine' Kf;rw [Qip (show n≠0 by omega)];refine' XV;refine KF (c:=VS (t:=e.yes) (inp:=inp) (fu:=fu) ⟨_,_,rfl,k1,k2⟩ hfn hi hfx y1 y2 y3 y4 V Z) (p:=by rintro u9 w9 hB;(repeat (refine' QL));refine' Qi;refine .inr ⟨_,rfl,?_⟩;exact hB.drop) (h:=?_);rintro u1 w2 hG;refine' zn)
    | (refine' Kd;rw [Qin (show¬n≠0 by omega)];refine' XV;refine KF (c:=VS (t:=e.no) (inp:=inp) (fu:=fu) ⟨_,_,rfl,k3,k4⟩ hfn hi hfx n1 n2 n3 n4 V Z) (p:=by rintro u9 w9 hB;(repeat (refine' QL));refine' Qi;refine .inr ⟨_,rfl,?_⟩;exact hB.drop) (h:=?_);rintro u1 w2 hG;refine' zn)
   all_goals (refine' QY;have hG:=hG.drop;obtain ⟨rfl,hG⟩:=hG.tup;exact .inl ⟨_,rfl,hG.ok⟩)
 · have hX:(Kc h g fr inp out fu).fin f e=(Kc h g fr inp out fu).ret f e:=(Qin V).trans (Qin V);rw [hX];refine Kl Kh Tryz.func119 ?_;refine' KU;intro p3 E Z;refine' Nl;refine' P1;refine Qm ?_;have Z:St Y _ (mS p c fr g N h out (blk p3 90 [.int .i64 e.op, .int .i64 e.a, .int .i64 e.yes.block,v1,v2, .int .i64 e.no.block,v3,v4,v5]::L)):=Z.sp;refine' Lm;refine' Pk;refine' Kd;refine' Kn;refine' Pk;refine' Kd;refine' Kn;refine' UW;refine' Kf;refine' OH;refine KF (c:=fg (e:=e) (inp:=inp) (fu:=fu) hx hfn hi hfx h8 hf hn Z) (p:=by rintro u9 w9 hB;(repeat (refine' QL));refine' Qi;refine .inr ⟨_,rfl,?_⟩;exact hB.drop) (h:=?_);rintro u1 w2 hG;refine' Pm;have hG:=hG.drop;obtain ⟨rfl,hG⟩:=hG.tup;exact Am
end
end Go.Proofs.YteflkifmgnpbhaaGreat
namespace Go.Lir
section
variable {m:Module}{s:MS}{x:Ins}
theorem VZ (h:x.op=1):s.ins m x= .go (s.put [KE x.n]):=by unfold MS.ins;rw [Qip h]
theorem nY (h:x.op=2):s.ins m x=Ls (s.g.num x.a) fun a=>Ls (s.g.num x.b) fun b=>if (Lk x.k a b).2=false then .halt 1 else .go (s.put [KE (Lk x.k a b).1]):=by unfold MS.ins;rw [Qin V,Qip h]
theorem lA (h:x.op=3):s.ins m x=s.newR:=by unfold MS.ins;rw [Qin V,Qin V,Qip h]
theorem nZ (h:x.op=4):s.ins m x=Ls (s.g.val x.a) fun v=>if s.h.can v=false then .lost else .go (s.hp (s.h.shut v)):=by unfold MS.ins;rw [Qin V,Qin V,Qin V,Qip h]
theorem od (h:x.op=5):s.ins m x=Ls (s.g.val x.a) fun v=>Ls (s.g.args x.args) fun l=>s.made (s.h.code v (LN l)) (s.h.tuple v l) (s.h.putV v 3 (LN l)):=by unfold MS.ins;(repeat rw [Qin V]);rw [Qip h]
theorem oe (h:x.op=6):s.ins m x=Ls (s.g.val x.a) fun v=>if v.kind≠3 then .lost else if (s.h.get v x.k).2≠0 then .lost else .go (s.put [(s.h.get v x.k).1]):=by unfold MS.ins;(repeat rw [Qin V]);rw [Qip h]
theorem lB (h:x.op=7):s.ins m x=Ls (s.g.val x.a) fun v=>if v.kind≠3 then .lost else Ls (s.g.val x.b) fun y=>if s.h.setC v x.k y≠0 then .lost else .go (s.hp (s.h.set v x.k y)):=by unfold MS.ins;(repeat rw [Qin V]);rw [Qip h]
theorem og (h:x.op=9):s.ins m x=Ls (s.g.val x.a) fun v=>Ls (s.g.num x.b) fun n=>NP v (s.h.get v n).2 (.go (s.put [(s.h.get v n).1])):=by unfold MS.ins;(repeat rw [Qin V]);rw [Qip h]
theorem oh (h:x.op=10):s.ins m x=Ls (s.g.val x.a) fun v=>Ls (s.g.num x.b) fun n=>Ls (s.g.num x.c) fun c=>NP v (s.h.setC v n (KE c)) (.go (s.hp (s.h.set v n (KE c)))):=by unfold MS.ins;(repeat rw [Qin V]);rw [Qip h]
theorem rW (h:x.op=11):s.ins m x=Ls (s.g.val x.a) fun v=>NP v (s.h.len v).2 (.go (s.put [KE (s.h.len v).1])):=by unfold MS.ins;(repeat rw [Qin V]);rw [Qip h]
theorem rX (h:x.op=12):s.ins m x=s.inS:=by unfold MS.ins;(repeat rw [Qin V]);rw [Qip h]
theorem oi (h:x.op=13):s.ins m x=Ls (s.g.num x.a) fun n=>s.outS n:=by unfold MS.ins;(repeat rw [Qin V]);rw [Qip h]
theorem xy (h:x.op=14):s.ins m x=s.call m x:=by unfold MS.ins;(repeat rw [Qin V])
theorem fj {e:Int}{k:Stp}(hv:v.kind≠4):NP v e k= .lost:=Qip hv
theorem kT {e:Int}{k:Stp}(hv:v.kind=4)(he:e=1):NP v e k= .halt 2:=by unfold NP;rw [Qin V,Qip he]
theorem kU {e:Int}{k:Stp}(he:v.kind=4→e≠1∧e≠0):NP v e k= .lost:=by
 unfold NP;by_cases hv:v.kind=4
 · obtain ⟨I,M⟩:=he hv;rw [Qin V,Qin I,Qip M]
 · rw [Qip hv]
theorem ZD {e:Int}{k:Stp}(hv:v.kind=4)(he:e=0):NP v e k=k:=by unfold NP;rw [Qin V,Qin V,Qin V]
theorem xz {l:List Val}(e:h.code v (LN l)≠0):h.tuple v l=h:=by unfold HpS.tuple HpS.put;exact Qin e
theorem xA (e:h.full=true):h.open=h:=by unfold HpS.open;exact Qip e
theorem V0 (e:s.h.full=true):s.newR= .halt 6:=by unfold MS.newR;exact Qip e
theorem ji (e:s.h.full=false):s.newR= .go ((⟨s.h.open,⟨s.g.f,s.g.b,s.g.i,s.g.vals,s.g.regs++[s.h.openV.region]⟩,s.st,s.inp,s.out,s.fuel⟩:MS).put [s.h.openV]):=by unfold MS.newR;exact Qin (by rw [e];decide)
theorem lC (e:s.inp=[]):s.inS= .halt 4:=by unfold MS.inS;rw [e]
theorem lD {r:List Int}(e:s.inp=n::r):s.inS= .go ((⟨s.h,s.g,s.st,r,s.out,s.fuel⟩:MS).put [KE n]):=by unfold MS.inS;rw [e]
theorem cj (e:s.out.length=2000):s.outS n= .halt 8:=Qip e
theorem ck (e:s.out.length≠2000):s.outS n= .go ⟨s.h,s.g,s.st,s.inp,s.out++[n],s.fuel⟩:=Qin e
end
end Go.Lir
namespace Go.Proofs.YteflkifmgnpbhaaGreat
open Go.Lir
attribute [local irreducible] LC.wp Q0 Qp Qk KN Qw LO.wp Q6 Calls
variable {Y:Cx}{w:World}{L:List Res}{p N:Nat}{c:MC}{fr:List FrmV}{g:FrmV}{h:HpS}{out inp:List Int}{fu:Nat}{m:Module}
def FrmV.nx (g:FrmV):FrmV:=⟨g.f,g.b,g.i+1,g.vv,g.vals,g.rv,g.regs⟩
theorem Qhd:Qe l++[[.int .i64 n]]=Qe (l++[n]):=by unfold Qe;rw [E7];rfl
section
variable {s:MS}{x:Ins}
theorem fk (h:x.op=8):s.ins m x=ZB s x:=by unfold MS.ins;(repeat rw [Qin V]);rw [Qip h];rfl
end
attribute [local irreducible] Frm.val Frm.num Frm.args Frm.rgs Frm.reg KB MS.ins MS.call HpS.get HpS.set HpS.setC HpS.len HpS.code HpS.put HpS.putV HpS.open HpS.shut HpS.full HpS.openV HpS.can HpS.tuple HpS.arr HpS.arrC HpS.arrV Lk LN
theorem fm (hx : K1.at Y cs x)(hfn:Ks.sl Y c.fn m.funcs)(hi:Kb.sl Y c.iv inp)(hop:1≤x.op∧x.op≤14)(hk:x.op=14→0≤x.k∧x.k<m.funcs.length)(h6:x.regs.length≤100)(h8:x.args.length≤100)(hgi:g.i≤1000)(hf:fr.length≤900)(hn:g.vals.length≤800000)(hrn:g.regs.length≤800000)(hN:N≤99999)(hol:out.length≤2000)(Z:St Y w (mS p c fr g N h out L)):
 Kr Tryz.prog Q7U [.pointer (some ⟨p,0,none⟩), .agg ⟨cs⟩] w (Mv p c N fu ((Kc h g.nx fr inp out fu).ins m x) Y L) (Mf p c N h out ((Kc h g.nx fr inp out fu).ins m x) Y L):=by
 obtain ⟨vr,va,rfl,hr,ha⟩:=QN hx;have hil:=hi.len;unfold Kr;refine Kl Kh Tryz.func118 ?_;refine' KU;intro p3 E Z;refine' LA;have Z:St Y _ (mS p c fr g N h out (blk p3 84 [.int .i64 x.op, .int .i64 x.a, .int .i64 x.b, .int .i64 x.c, .int .i64 x.k, .int .i64 x.n,vr,va]::L)):=Z.sp;refine' Lp;refine' Kw (c:=P8 V Z);rintro v1 E ⟨b9,o9,rfl,hel,Z⟩;refine' LW;refine Q9 Z hel rfl fd (Qc fr g) (Qj fr g) rfl ?_;refine' MJ;rw [show ((g.i:Int)+1)=((g.i+1:Nat):Int) by omega];refine' LW;refine QC Z hel rfl vw fd (Qc fr g) (Qj fr g) V rfl (Sq (g':=g.nx) rfl) ?_;intro w8 Z;have Z:=Z.ns;have Z:St Y _ (mS p c fr g.nx N h out (blk p3 84 [.int .i64 x.op, .int .i64 x.a, .int .i64 x.b, .int .i64 x.c, .int .i64 x.k, .int .i64 x.n,vr,va]::L)):=Z.sp;refine' Nl;refine' P1;refine' Kn;(refine' Ac<;>intro O);all_goals (refine' Kv)
 all_goals
  first
  | (refine' Kf;have hX:=VZ (m:=m) (s:=Kc h g.nx fr inp out fu) (x:=x) V;refine' OK;refine' Kw (c:=lq Z);rintro v1 E ⟨rfl,Z⟩;unfold Val.v Val.cells;refine KO Z [_,_,_,_] ?_;intro b1 E Z;have Z:=Fz (T:=224) (es:=4) (css:=[KE x.n].map Val.cells) Z rfl CX rfl;have Z:St Y _ (mL p c fr g.nx (sl 224 4 (.slice (some ⟨b1,0,none⟩) 1 1) ([KE x.n].map Val.cells)::Mw (N) c.hp (h)::sl 2 1 c.ov (Qe out)::blk p3 84 [.int .i64 x.op, .int .i64 x.a, .int .i64 x.b, .int .i64 x.c, .int .i64 x.k, .int .i64 x.n,vr,va]::L)):=Z.sp;refine' Kk (c:=Rs (j:=0) V CV Z rfl);rintro u1 E ⟨tv,rfl,Z⟩;refine' zn;have hG:Mv p c N fu ((Kc h g.nx fr inp out fu).ins m x) Y L (.tuple #[]) E:=⟨c.lv,c.iv,c.ov,fr,g.nx.push tv [KE x.n],N,h,inp,out,hX,hi,V,rfl,Z.sp⟩;refine' QY;exact Am)
  | (refine' Kd
     refine' Kn;(refine' Ac<;>intro O);all_goals (refine' Kv)
     all_goals
      first
      | (refine' Kf;refine Qm ?_;have hX:=nY (m:=m) (s:=Kc h g.nx fr inp out fu) (x:=x) V;refine zC [(0,none),(1,none),(2,none),(3,none),(4,none),(6,none),(7,none),(8,none),(5,some (some [1,8])),(9,some (some [1])),(10,some none),(11,none),(12,none),(13,none),(14,none),(15,some none)] ?_;have Z:=Z.drew;refine' KS;refine' Pj;refine' N1;refine KF (c:=Te V (show St Y _ (mL p c fr g.nx _) from Z.sp)) (p:=by rintro u9 w9 ⟨hna,rfl,Z⟩;(repeat (first|refine' Qo|refine' QL|refine fun _=>?_));refine' Qi;refine .inr ⟨_,rfl,?_⟩;exact .inl ⟨hX.trans (Qu hna),rfl,Z.sp⟩) (h:=?_);rintro u1 w2 ⟨na,hna,rfl,Z⟩;refine' Lc;refine KF (c:=Te V (show St Y _ (mL p c fr g.nx _) from Z.sp)) (p:=by rintro u9 w9 ⟨hnb,rfl,Z⟩;(repeat (first|refine' Qo|refine' QL|refine fun _=>?_));refine' Qi;refine .inr ⟨_,rfl,?_⟩;exact .inl ⟨hX.trans ((Q1 hna).trans (Qu hnb)),rfl,Z.sp⟩) (h:=?_);rintro u1 w2 ⟨nb,hnb,rfl,Z⟩;refine' LY;refine' KZ (c:=kW Z);rintro v1 E ⟨rfl,Z⟩;cases hd:(Lk x.k na nb).2;(all_goals (refine' Mm;refine' dS;refine' dS;refine' zm;refine' Oa;refine' KX;refine' ND;first|(refine' Kk (c:=VL Z);rintro v1 E ⟨rfl,Z⟩)|(refine KF (c:=VM Z) (p:=by rintro v9 w9 ⟨rfl,Z⟩;(repeat (refine' Lo));refine' Qi;refine .inr ⟨_,rfl,?_⟩;exact .inr ⟨1,hX.trans ((Q1 hna).trans ((Q1 hnb).trans (Qip hd))),rfl,fr,g.nx,N,V,Z.sp⟩) (h:=fun _ _ h=>h.elim))));refine' U3;refine' Kw (c:=lq Z);rintro v1 E ⟨rfl,Z⟩;unfold Val.v Val.cells;refine KO Z [_,_,_,_] ?_;intro b1 E Z;have Z:=Fz (T:=224) (es:=4) (css:=[KE (Lk x.k na nb).1].map Val.cells) Z rfl CX rfl;have Z:St Y _ (mL p c fr g.nx (sl 224 4 (.slice (some ⟨b1,0,none⟩) 1 1) ([KE (Lk x.k na nb).1].map Val.cells)::Mw (N) c.hp (h)::sl 2 1 c.ov (Qe out)::blk p3 84 [.int .i64 x.op, .int .i64 x.a, .int .i64 x.b, .int .i64 x.c, .int .i64 x.k, .int .i64 x.n,vr,va]::L)):=Z.sp;refine' Kk (c:=Rs (j:=0) V CV Z rfl);rintro u1 E ⟨tv,rfl,Z⟩;refine' zn;have hG:Mv p c N fu ((Kc h g.nx fr inp out fu).ins m x) Y L (.tuple #[]) E:=⟨c.lv,c.iv,c.ov,fr,g.nx.push tv [KE (Lk x.k na nb).1],N,h,inp,out,hX.trans ((Q1 hna).trans ((Q1 hnb).trans (Qin (by rw [hd];decide)))),hi,V,rfl,Z.sp⟩;refine' QY;exact Am)
      | (refine' Kd
         refine' Kn;(refine' Ac<;>intro O);all_goals (refine' Kv)
         all_goals
          first
          | (refine' Kf
             (refine Qm ?_;have hX:=lA (m:=m) (s:=Kc h g.nx fr inp out fu) (x:=x) V;refine' P6;refine' Kw (c:=Zy (N:=N) (s:=h) (h:=c.hp) V Z fd);rintro v1 E ⟨rfl,Z⟩;have Z:=Z.ns;unfold Val.v Val.cells;cases hfu:h.full;all_goals (refine' Rk;intro p6 E Z;refine Kp Z ?_;intro E Z;have Z:=Z.ns;refine' L6;refine' ND;first|(refine' Kk (c:=VL Z);rintro v1 E ⟨rfl,Z⟩)|(refine KF (c:=VM Z) (p:=by rintro v9 w9 ⟨rfl,Z⟩;(repeat (refine' Lo));refine' Qi;refine .inr ⟨_,rfl,?_⟩;rw [xA hfu] at Z;exact .inr ⟨6,hX.trans (V0 hfu),rfl,fr,g.nx,N+1,E6 _,Z.sp⟩) (h:=fun _ _ h=>h.elim))));refine' LA;refine NU 1 9 Jk ?_ ?_
             · skip
               refine NU 3 9 Jk ?_ ?_
               · refine zC [(0,none),(2,none),(7,none),(8,none),(1,some (some [8])),(3,some (some [8])),(4,none),(5,none),(6,none),(9,some (some [6])),(10,some none),(11,none),(12,none),(13,some none)] ?_;have Z:=Z.drew;refine' OI;refine' Ot;refine' Kw (c:=P8 V (show St Y _ (mL p c fr g.nx _) from Z.sp));rintro v1 E ⟨b8,o8,rfl,hel8,Z⟩;refine' Lc;refine' Kw (c:=P8 V (show St Y _ (mL p c fr g.nx _) from Z.sp));rintro v1 E ⟨b7,o7,rfl,hel7,Z⟩;refine' LZ;refine' OL;refine Q9 Z hel7 rfl fd (Qc fr g.nx) (Qj fr g.nx) rfl ?_;refine' Lh;refine KO Z [_] ?_;intro b1 E Z;refine' zt;refine ⟨EN.2 ⟨(by (exact CN)),fun _ h=>(ET h).elim⟩,?_⟩;refine' Lg;refine Mx RQ (.inl Sk) Z vw vw (v:=g.rv) (css:=Qe g.regs) fd (Z.srcB fd Jr CU) CZ ?_;intro v7 w7 Z;have Z:=Z.ns;refine' Ku;refine' Nc;refine' TM;refine QC Z hel8 rfl vw fd (Qc fr g.nx) (Qj fr g.nx) V (Z.oneC (v:=v7) (css:=Qe g.regs++[[.int .i64 h.openV.region]]) fd) (Sq (g':=⟨g.f,g.b,g.i+1,g.vv,g.vals,v7,g.regs++[h.openV.region]⟩) rfl) ?_;intro w8 Z;have Z:=Z.ns;refine' K7;have Z:St Y _ (mS p c fr ⟨g.f,g.b,g.i+1,g.vv,g.vals,v7,g.regs++[h.openV.region]⟩ (N+1) h.open out (blk p6 224 h.openV.cells::blk p3 84 [.int .i64 x.op, .int .i64 x.a, .int .i64 x.b, .int .i64 x.c, .int .i64 x.k, .int .i64 x.n,vr,va]::L)):=DP;refine' OH;refine KO Z [_,_,_,_] ?_;intro b1 E Z;have Z:=Fz (T:=224) (es:=4) (css:=[h.openV].map Val.cells) Z rfl CX rfl;have Z:St Y _ (mL p c fr ⟨g.f,g.b,g.i+1,g.vv,g.vals,v7,g.regs++[h.openV.region]⟩ (sl 224 4 (.slice (some ⟨b1,0,none⟩) 1 1) ([h.openV].map Val.cells)::Mw (N+1) c.hp (h.open)::sl 2 1 c.ov (Qe out)::blk p3 84 [.int .i64 x.op, .int .i64 x.a, .int .i64 x.b, .int .i64 x.c, .int .i64 x.k, .int .i64 x.n,vr,va]::L)):=Z.sp;refine' Kk (c:=Rs (j:=0) V CV Z rfl);rintro u1 E ⟨tv,rfl,Z⟩;refine' zn;have hG:Mv p c N fu ((Kc h g.nx fr inp out fu).ins m x) Y L (.tuple #[]) E:=⟨c.lv,c.iv,c.ov,fr,FrmV.push ⟨g.f,g.b,g.i+1,g.vv,g.vals,v7,g.regs++[h.openV.region]⟩ tv [h.openV],N+1,h.open,inp,out,hX.trans (ji hfu),hi,E6 _,rfl,Z.sp⟩;refine' QY;exact Am
               · refine zC [(0,none),(2,none),(7,none),(8,none),(1,some (some [8])),(9,some (some [])),(3,some (some [8])),(4,none),(5,none),(6,none),(10,some none),(11,none),(12,none),(13,some none)] ?_;have Z:=Z.drew;refine' OI;refine' Ot;refine' Kw (c:=P8 V (show St Y _ (mL p c fr g.nx _) from Z.sp));rintro v1 E ⟨b8,o8,rfl,hel8,Z⟩;refine' Lc;refine KO Z [_] ?_;intro b1 E Z;refine' zt;refine ⟨fun _ h=>(ET h).elim,?_⟩;refine' Py;refine' Kw (c:=P8 V (show St Y _ (mL p c fr g.nx _) from Z.sp));rintro v1 E ⟨b7,o7,rfl,hel7,Z⟩;refine' LZ;refine' OL;refine Q9 Z hel7 rfl fd (Qc fr g.nx) (Qj fr g.nx) rfl ?_;refine' K8;refine Mx RQ (.inl Sk) Z vw vw (v:=g.rv) (css:=Qe g.regs) fd (Z.srcB fd Jr CU) CZ ?_;intro v7 w7 Z;have Z:=Z.ns;refine' Ku;refine' Nc;refine' TM;refine QC Z hel8 rfl vw fd (Qc fr g.nx) (Qj fr g.nx) V (Z.oneC (v:=v7) (css:=Qe g.regs++[[.int .i64 h.openV.region]]) fd) (Sq (g':=⟨g.f,g.b,g.i+1,g.vv,g.vals,v7,g.regs++[h.openV.region]⟩) rfl) ?_;intro w8 Z;have Z:=Z.ns;refine' K7;have Z:St Y _ (mS p c fr ⟨g.f,g.b,g.i+1,g.vv,g.vals,v7,g.regs++[h.openV.region]⟩ (N+1) h.open out (blk p6 224 h.openV.cells::blk p3 84 [.int .i64 x.op, .int .i64 x.a, .int .i64 x.b, .int .i64 x.c, .int .i64 x.k, .int .i64 x.n,vr,va]::L)):=DP;refine' OH;refine KO Z [_,_,_,_] ?_;intro b1 E Z;have Z:=Fz (T:=224) (es:=4) (css:=[h.openV].map Val.cells) Z rfl CX rfl;have Z:St Y _ (mL p c fr ⟨g.f,g.b,g.i+1,g.vv,g.vals,v7,g.regs++[h.openV.region]⟩ (sl 224 4 (.slice (some ⟨b1,0,none⟩) 1 1) ([h.openV].map Val.cells)::Mw (N+1) c.hp (h.open)::sl 2 1 c.ov (Qe out)::blk p3 84 [.int .i64 x.op, .int .i64 x.a, .int .i64 x.b, .int .i64 x.c, .int .i64 x.k, .int .i64 x.n,vr,va]::L)):=Z.sp;refine' Kk (c:=Rs (j:=0) V CV Z rfl);rintro u1 E ⟨tv,rfl,Z⟩;refine' zn;have hG:Mv p c N fu ((Kc h g.nx fr inp out fu).ins m x) Y L (.tuple #[]) E:=⟨c.lv,c.iv,c.ov,fr,FrmV.push ⟨g.f,g.b,g.i+1,g.vv,g.vals,v7,g.regs++[h.openV.region]⟩ tv [h.openV],N+1,h.open,inp,out,hX.trans (ji hfu),hi,E6 _,rfl,Z.sp⟩;refine' QY;exact Am
             · refine zC [(0,none),(2,none),(7,none),(8,none),(9,some (some [])),(1,some (some [8])),(3,some (some [8])),(4,none),(5,none),(6,none),(10,some none),(11,none),(12,none),(13,some none)] ?_;have Z:=Z.drew;refine' OI;refine' Ot;refine KO Z [_] ?_;intro b1 E Z;refine' zt;refine ⟨fun _ h=>(ET h).elim,?_⟩;refine' Py;refine' Kw (c:=P8 V (show St Y _ (mL p c fr g.nx _) from Z.sp));rintro v1 E ⟨b8,o8,rfl,hel8,Z⟩;refine' Lc;refine' Kw (c:=P8 V (show St Y _ (mL p c fr g.nx _) from Z.sp));rintro v1 E ⟨b7,o7,rfl,hel7,Z⟩;refine' LZ;refine' OL;refine Q9 Z hel7 rfl fd (Qc fr g.nx) (Qj fr g.nx) rfl ?_;refine' K8;refine Mx RQ (.inl Sk) Z vw vw (v:=g.rv) (css:=Qe g.regs) fd (Z.srcB fd Jr CU) CZ ?_;intro v7 w7 Z;have Z:=Z.ns;refine' Ku;refine' Nc;refine' TM;refine QC Z hel8 rfl vw fd (Qc fr g.nx) (Qj fr g.nx) V (Z.oneC (v:=v7) (css:=Qe g.regs++[[.int .i64 h.openV.region]]) fd) (Sq (g':=⟨g.f,g.b,g.i+1,g.vv,g.vals,v7,g.regs++[h.openV.region]⟩) rfl) ?_;intro w8 Z;have Z:=Z.ns;refine' K7;have Z:St Y _ (mS p c fr ⟨g.f,g.b,g.i+1,g.vv,g.vals,v7,g.regs++[h.openV.region]⟩ (N+1) h.open out (blk p6 224 h.openV.cells::blk p3 84 [.int .i64 x.op, .int .i64 x.a, .int .i64 x.b, .int .i64 x.c, .int .i64 x.k, .int .i64 x.n,vr,va]::L)):=DP;refine' OH;refine KO Z [_,_,_,_] ?_;intro b1 E Z;have Z:=Fz (T:=224) (es:=4) (css:=[h.openV].map Val.cells) Z rfl CX rfl;have Z:St Y _ (mL p c fr ⟨g.f,g.b,g.i+1,g.vv,g.vals,v7,g.regs++[h.openV.region]⟩ (sl 224 4 (.slice (some ⟨b1,0,none⟩) 1 1) ([h.openV].map Val.cells)::Mw (N+1) c.hp (h.open)::sl 2 1 c.ov (Qe out)::blk p3 84 [.int .i64 x.op, .int .i64 x.a, .int .i64 x.b, .int .i64 x.c, .int .i64 x.k, .int .i64 x.n,vr,va]::L)):=Z.sp;refine' Kk (c:=Rs (j:=0) V CV Z rfl);rintro u1 E ⟨tv,rfl,Z⟩;refine' zn;have hG:Mv p c N fu ((Kc h g.nx fr inp out fu).ins m x) Y L (.tuple #[]) E:=⟨c.lv,c.iv,c.ov,fr,FrmV.push ⟨g.f,g.b,g.i+1,g.vv,g.vals,v7,g.regs++[h.openV.region]⟩ tv [h.openV],N+1,h.open,inp,out,hX.trans (ji hfu),hi,E6 _,rfl,Z.sp⟩;refine' QY;exact Am)
          | (refine' Kd
             refine' Kn;(refine' Ac<;>intro O);all_goals (refine' Kv)
             all_goals
              first
              | (refine' Kf;have hX:=nZ (m:=m) (s:=Kc h g.nx fr inp out fu) (x:=x) V;refine zC [(0,none),(1,none),(2,none),(3,none),(4,none),(5,none),(6,none),(7,some (some [3])),(8,some none),(9,some none)] ?_;have Z:=Z.drew;refine' NT;refine' N1;refine KF (c:=OQ V (show St Y _ (mL p c fr g.nx _) from Z.sp)) (p:=by rintro u9 w9 ⟨hv,rfl,Z⟩;(repeat (first|refine' Qo|refine' QL|refine fun _=>?_));refine' Qi;refine .inr ⟨_,rfl,?_⟩;exact As) (h:=?_);rintro u1 w2 ⟨v,hv,rfl,Z⟩;refine' LY;refine' Kk (c:=Zz (N:=N) (s:=h) (h:=c.hp) v Z fd);rintro v1 E ⟨rfl,Z⟩;have Z:=Z.ns;cases hcn:h.can v;(all_goals (refine' K8;first|(refine' Kw (c:=PJ Z);rintro v1 E ⟨rfl,Z⟩)|(refine Pf (c:=PK Z) (p:=by rintro v9 w9 ⟨rfl,Z⟩;(repeat (refine' Lo));refine' Qi;refine .inr ⟨_,rfl,?_⟩;exact .inl ⟨hX.trans ((Q1 hv).trans (Qip hcn)),rfl,Z.sp⟩) (h:=fun _ _ h=>h.elim))));refine' K7;have hG:Mv p c N fu ((Kc h g.nx fr inp out fu).ins m x) Y L (.tuple #[]) E:=⟨c.lv,c.iv,c.ov,fr,g.nx,N,h.shut v,inp,out,hX.trans ((Q1 hv).trans (Qin (by rw [show (Kc h g.nx fr inp out fu).h.can v=h.can v from rfl,hcn];decide))),hi,V,rfl,Z.sp⟩;refine' QY;exact Am)
              | (refine' Kd
                 refine' Kn;(refine' Ac<;>intro O);all_goals (refine' Kv)
                 all_goals
                  first
                  | (refine' Kf;have hX:=od (m:=m) (s:=Kc h g.nx fr inp out fu) (x:=x) V;refine zC [(0,none),(1,none),(2,none),(3,none),(4,none),(5,none),(6,none),(7,none),(9,none),(10,none),(11,none),(8,some (some [4,11])),(12,some (some [4])),(13,some (some [])),(14,none),(15,none),(16,some none)] ?_;have Z:=Z.drew;refine' U1;refine' Pj;refine' N1;refine KF (c:=OQ V (show St Y _ (mL p c fr g.nx _) from Z.sp)) (p:=by rintro u9 w9 ⟨hv,rfl,Z⟩;(repeat (first|refine' Qo|refine' QL|refine fun _=>?_));refine' Qi;refine .inr ⟨_,rfl,?_⟩;exact As) (h:=?_);rintro u1 w2 ⟨v,hv,rfl,Z⟩;refine' Lc;refine KF (c:=lr V V ha (show St Y _ (mL p c fr g.nx _) from Z.sp)) (p:=by rintro u9 w9 ⟨hvs,rfl,Z⟩;(repeat (first|refine' Qo|refine' QL|refine fun _=>?_));refine' Qi;refine .inr ⟨_,rfl,?_⟩;exact .inl ⟨hX.trans ((Q1 hv).trans (Qu hvs)),rfl,Z.sp⟩) (h:=?_);rintro u2 w2 ⟨vs,hvs,hvl,ho2,Z⟩;refine' Lc;refine' KZ (c:=VJ (N:=N) (s:=h) (h:=c.hp) (j:=5) v _ vs V V Z fd rfl);rintro v1 E ⟨rfl,Z⟩;have Z:=Z.ns;refine' LZ;refine' Y5;refine' K8;refine MK (c:=nX (v:=h.putV v 3 (LN vs)) V Dq (show St Y _ (mL p c fr g.nx _) from Z.sp)) (p:=by rintro u9 w9 ⟨he,Z⟩;(repeat (refine' Lo));refine' Qi;refine .inr ⟨_,rfl,?_⟩;rcases he with ⟨e0,rfl⟩|⟨e0,e1,rfl⟩;(rw [xz V] at Z;exact .inr ⟨6,hX.trans ((Q1 hv).trans ((Q1 hvs).trans (rE e0))),rfl,fr,g.nx,N+1,E6 _,Z.sp⟩);exact .inl ⟨hX.trans ((Q1 hv).trans ((Q1 hvs).trans (rF e0 e1))),rfl,Z.sp⟩) (h:=?_);rintro u1 E ⟨e0,tv,rfl,Z⟩;refine' K7;have hG:Mv p c N fu ((Kc h g.nx fr inp out fu).ins m x) Y L (.tuple #[]) E:=⟨c.lv,c.iv,c.ov,fr,g.nx.push tv [h.putV v 3 (LN vs)],N+1,h.tuple v vs,inp,out,hX.trans ((Q1 hv).trans ((Q1 hvs).trans (nS e0))),hi,E6 _,rfl,Z.sp⟩;refine' QY;exact Am)
                  | (refine' Kd
                     refine' Kn;(refine' Ac<;>intro O);all_goals (refine' Kv)
                     all_goals
                      first
                      | (refine' Kf
                         (refine Qm ?_;have hX:=oe (m:=m) (s:=Kc h g.nx fr inp out fu) (x:=x) V;refine' OK;refine KF (c:=OQ V (show St Y _ (mL p c fr g.nx _) from Z.sp)) (p:=by rintro u9 w9 ⟨hv,rfl,Z⟩;(repeat (refine' Lo));refine' Qi;refine .inr ⟨_,rfl,?_⟩;exact As) (h:=?_);rintro u1 w2 ⟨v,hv,rfl,Z⟩;unfold Val.v Val.cells;refine iz rfl rfl ?_;(refine' Ac<;>intro O);all_goals (first|(refine' Kw (c:=PJ Z);rintro v1 E ⟨rfl,Z⟩)|(refine Pf (c:=PK Z) (p:=by rintro v9 w9 ⟨rfl,Z⟩;(repeat (refine' Lo));refine' Qi;refine .inr ⟨_,rfl,?_⟩;exact Cy) (h:=fun _ _ h=>h.elim))));refine' LA;refine NU 7 14 Jk ?_ ?_
                         · skip
                           refine NU 10 14 Jk ?_ ?_
                           · refine zC [(0,none),(1,none),(2,none),(3,none),(4,none),(5,none),(6,none),(8,none),(9,none),(7,some (some [3,9])),(10,some none),(11,none),(12,none),(13,none),(14,some (some [])),(15,some (some [])),(16,some none)] ?_;have Z:=Z.drew;refine' U2;refine' TS;refine KF (c:=OQ V (show St Y _ (mL p c fr g.nx _) from Z.sp)) (p:=by rintro u9 w9 ⟨hv2,rfl,Z⟩;(repeat (first|refine' Qo|refine' QL|refine fun _=>?_));refine' Qi;refine .inr ⟨_,rfl,?_⟩;rw [hv] at hv2;cases hv2) (h:=?_);rintro u1 w2 ⟨v2,hv2,rfl,Z⟩;obtain rfl:v=v2:=EP (hv.symm.trans hv2);refine' LY;refine' KZ (c:=eW (N:=N) (s:=h) (h:=c.hp) v x.k Z fd);rintro v1 E ⟨rfl,Z⟩;unfold Val.v Val.cells;refine' S6;refine' UU;intro p8 E Z;refine' Lc;refine Kp Z ?_;intro E Z;have Z:=Z.ns;refine' S7;refine' KX;(refine' Ac<;>intro O);(all_goals (first|(refine' Kw (c:=PJ Z);rintro v1 E ⟨rfl,Z⟩)|(refine Pf (c:=PK Z) (p:=by rintro v9 w9 ⟨rfl,Z⟩;(repeat (refine' Lo));refine' Qi;refine .inr ⟨_,rfl,?_⟩;exact A9) (h:=fun _ _ h=>h.elim))));refine' Tb;refine KO Z [_,_,_,_] ?_;intro b1 E Z;have Z:=Fz (T:=224) (es:=4) (css:=[(h.get v x.k).1].map Val.cells) Z rfl CX rfl;have Z:St Y _ (mL p c fr g.nx (sl 224 4 (.slice (some ⟨b1,0,none⟩) 1 1) ([(h.get v x.k).1].map Val.cells)::Mw (N) c.hp (h)::sl 2 1 c.ov (Qe out)::blk p3 84 [.int .i64 x.op, .int .i64 x.a, .int .i64 x.b, .int .i64 x.c, .int .i64 x.k, .int .i64 x.n,vr,va]::L)):=Z.sp;refine' Kk (c:=Rs (j:=0) V CV Z rfl);rintro u1 E ⟨tv,rfl,Z⟩;refine' zn;have hG:Mv p c N fu ((Kc h g.nx fr inp out fu).ins m x) Y L (.tuple #[]) E:=⟨c.lv,c.iv,c.ov,fr,g.nx.push tv [(h.get v x.k).1],N,h,inp,out,hX.trans ((Q1 hv).trans ((Qin V).trans (Qin DC))),hi,V,rfl,Z.sp⟩;refine' QY;exact Am
                           · refine zC [(0,none),(1,none),(2,none),(3,none),(4,none),(5,none),(6,none),(8,none),(9,none),(7,some (some [3,9])),(14,some (some [3,9])),(10,some none),(11,none),(12,none),(13,none),(15,some (some [])),(16,some none)] ?_;have Z:=Z.drew;refine' U2;refine' TS;refine KF (c:=OQ V (show St Y _ (mL p c fr g.nx _) from Z.sp)) (p:=by rintro u9 w9 ⟨hv2,rfl,Z⟩;(repeat (first|refine' Qo|refine' QL|refine fun _=>?_));refine' Qi;refine .inr ⟨_,rfl,?_⟩;rw [hv] at hv2;cases hv2) (h:=?_);rintro u1 w2 ⟨v2,hv2,rfl,Z⟩;obtain rfl:v=v2:=EP (hv.symm.trans hv2);refine' Lc;refine Qb Z ?_;intro p8 E Z;refine' LY;refine' KZ (c:=eW (N:=N) (s:=h) (h:=c.hp) v x.k Z fd);rintro v1 E ⟨rfl,Z⟩;unfold Val.v Val.cells;refine' S6;refine' Lh;refine Kp Z ?_;intro E Z;have Z:=Z.ns;refine' S7;refine' KX;(refine' Ac<;>intro O);(all_goals (first|(refine' Kw (c:=PJ Z);rintro v1 E ⟨rfl,Z⟩)|(refine Pf (c:=PK Z) (p:=by rintro v9 w9 ⟨rfl,Z⟩;(repeat (refine' Lo));refine' Qi;refine .inr ⟨_,rfl,?_⟩;exact A9) (h:=fun _ _ h=>h.elim))));refine' Tb;refine KO Z [_,_,_,_] ?_;intro b1 E Z;have Z:=Fz (T:=224) (es:=4) (css:=[(h.get v x.k).1].map Val.cells) Z rfl CX rfl;have Z:St Y _ (mL p c fr g.nx (sl 224 4 (.slice (some ⟨b1,0,none⟩) 1 1) ([(h.get v x.k).1].map Val.cells)::Mw (N) c.hp (h)::sl 2 1 c.ov (Qe out)::blk p3 84 [.int .i64 x.op, .int .i64 x.a, .int .i64 x.b, .int .i64 x.c, .int .i64 x.k, .int .i64 x.n,vr,va]::L)):=Z.sp;refine' Kk (c:=Rs (j:=0) V CV Z rfl);rintro u1 E ⟨tv,rfl,Z⟩;refine' zn;have hG:Mv p c N fu ((Kc h g.nx fr inp out fu).ins m x) Y L (.tuple #[]) E:=⟨c.lv,c.iv,c.ov,fr,g.nx.push tv [(h.get v x.k).1],N,h,inp,out,hX.trans ((Q1 hv).trans ((Qin V).trans (Qin DC))),hi,V,rfl,Z.sp⟩;refine' QY;exact Am
                         · refine zC [(0,none),(1,none),(2,none),(3,none),(4,none),(5,none),(6,none),(8,none),(9,none),(14,some (some [3,6,9])),(7,some (some [3,9])),(10,some none),(11,none),(12,none),(13,none),(15,some (some [])),(16,some none)] ?_;have Z:=Z.drew;refine' U2;refine' TS;refine Qb Z ?_;intro p8 E Z;refine' Lc;refine KF (c:=OQ V (show St Y _ (mL p c fr g.nx _) from Z.sp)) (p:=by rintro u9 w9 ⟨hv2,rfl,Z⟩;(repeat (first|refine' Qo|refine' QL|refine fun _=>?_));refine' Qi;refine .inr ⟨_,rfl,?_⟩;rw [hv] at hv2;cases hv2) (h:=?_);rintro u1 w2 ⟨v2,hv2,rfl,Z⟩;obtain rfl:v=v2:=EP (hv.symm.trans hv2);refine' LY;refine' KZ (c:=eW (N:=N) (s:=h) (h:=c.hp) v x.k Z fd);rintro v1 E ⟨rfl,Z⟩;unfold Val.v Val.cells;refine' S6;refine' Lh;refine Kp Z ?_;intro E Z;have Z:=Z.ns;refine' S7;refine' KX;(refine' Ac<;>intro O);(all_goals (first|(refine' Kw (c:=PJ Z);rintro v1 E ⟨rfl,Z⟩)|(refine Pf (c:=PK Z) (p:=by rintro v9 w9 ⟨rfl,Z⟩;(repeat (refine' Lo));refine' Qi;refine .inr ⟨_,rfl,?_⟩;exact A9) (h:=fun _ _ h=>h.elim))));refine' Tb;refine KO Z [_,_,_,_] ?_;intro b1 E Z;have Z:=Fz (T:=224) (es:=4) (css:=[(h.get v x.k).1].map Val.cells) Z rfl CX rfl;have Z:St Y _ (mL p c fr g.nx (sl 224 4 (.slice (some ⟨b1,0,none⟩) 1 1) ([(h.get v x.k).1].map Val.cells)::Mw (N) c.hp (h)::sl 2 1 c.ov (Qe out)::blk p3 84 [.int .i64 x.op, .int .i64 x.a, .int .i64 x.b, .int .i64 x.c, .int .i64 x.k, .int .i64 x.n,vr,va]::L)):=Z.sp;refine' Kk (c:=Rs (j:=0) V CV Z rfl);rintro u1 E ⟨tv,rfl,Z⟩;refine' zn;have hG:Mv p c N fu ((Kc h g.nx fr inp out fu).ins m x) Y L (.tuple #[]) E:=⟨c.lv,c.iv,c.ov,fr,g.nx.push tv [(h.get v x.k).1],N,h,inp,out,hX.trans ((Q1 hv).trans ((Qin V).trans (Qin DC))),hi,V,rfl,Z.sp⟩;refine' QY;exact Am)
                      | (refine' Kd
                         refine' Kn;(refine' Ac<;>intro O);all_goals (refine' Kv)
                         all_goals
                          first
                          | (refine' Kf;refine Qm ?_;have hX:=lB (m:=m) (s:=Kc h g.nx fr inp out fu) (x:=x) V;refine' OK;refine KF (c:=OQ V (show St Y _ (mL p c fr g.nx _) from Z.sp)) (p:=by rintro u9 w9 ⟨hv,rfl,Z⟩;(repeat (refine' Lo));refine' Qi;refine .inr ⟨_,rfl,?_⟩;exact As) (h:=?_);rintro u1 w2 ⟨v,hv,rfl,Z⟩;unfold Val.v Val.cells;refine iz rfl rfl ?_;(refine' Ac<;>intro O);(all_goals (first|(refine' Kw (c:=PJ Z);rintro v1 E ⟨rfl,Z⟩)|(refine Pf (c:=PK Z) (p:=by rintro v9 w9 ⟨rfl,Z⟩;(repeat (refine' Lo));refine' Qi;refine .inr ⟨_,rfl,?_⟩;exact Cy) (h:=fun _ _ h=>h.elim))));refine' zn;refine zC [(0,none),(1,none),(2,none),(3,none),(4,none),(5,none),(6,none),(8,none),(9,none),(10,none),(11,none),(12,none),(7,some (some [3,9,12])),(13,some (some [3,9])),(14,some none),(15,none),(16,some none)] ?_;have Z:=Z.drew;refine' U2;refine' NS;refine' N1;refine KF (c:=OQ V (show St Y _ (mL p c fr g.nx _) from Z.sp)) (p:=by rintro u9 w9 ⟨hv2,rfl,Z⟩;(repeat (first|refine' Qo|refine' QL|refine fun _=>?_));refine' Qi;refine .inr ⟨_,rfl,?_⟩;rw [hv] at hv2;cases hv2) (h:=?_);rintro u1 w2 ⟨v2,hv2,rfl,Z⟩;obtain rfl:v=v2:=EP (hv.symm.trans hv2);refine' Lc;refine KF (c:=OQ V (show St Y _ (mL p c fr g.nx _) from Z.sp)) (p:=by rintro u9 w9 ⟨hy,rfl,Z⟩;(repeat (first|refine' Qo|refine' QL|refine fun _=>?_));refine' Qi;refine .inr ⟨_,rfl,?_⟩;exact .inl ⟨hX.trans ((Q1 hv).trans ((Qin V).trans (Qu hy))),rfl,Z.sp⟩) (h:=?_);rintro u1 w2 ⟨y,hy,rfl,Z⟩;refine' LY;refine' M3 (c:=VI (N:=N) (s:=h) (h:=c.hp) v x.k y Z fd);rintro v1 E ⟨rfl,Z⟩;have Z:=Z.ns;refine' Ku;(refine' Ac<;>intro O);(all_goals (refine' K8;first|(refine' Kw (c:=PJ Z);rintro v1 E ⟨rfl,Z⟩)|(refine Pf (c:=PK Z) (p:=by rintro v9 w9 ⟨rfl,Z⟩;(repeat (refine' Lo));refine' Qi;refine .inr ⟨_,rfl,?_⟩;exact .inl ⟨hX.trans ((Q1 hv).trans ((Qin V).trans ((Q1 hy).trans (Qip (by show h.setC v x.k y≠0;omega))))),rfl,Z.sp⟩) (h:=fun _ _ h=>h.elim))));refine' K7;have hG:Mv p c N fu ((Kc h g.nx fr inp out fu).ins m x) Y L (.tuple #[]) E:=⟨c.lv,c.iv,c.ov,fr,g.nx,N,h.set v x.k y,inp,out,hX.trans ((Q1 hv).trans ((Qin V).trans ((Q1 hy).trans (Qin (by show¬h.setC v x.k y≠0;omega))))),hi,V,rfl,Z.sp⟩;refine' QY;exact Am)
                          | (refine' Kd
                             refine' Kn;(refine' Ac<;>intro O);all_goals (refine' Kv)
                             all_goals
                              first
                              | (refine' Kf;have hX:=fk (m:=m) (s:=Kc h g.nx fr inp out fu) (x:=x) V;rw [hX];refine' OH;refine KF (c:=ZC (inp:=inp) (fu:=fu) (x:=x) hx hi V Dq hN Z) (p:=by rintro u9 w9 hB;(repeat (refine' QL));refine' Qi;refine .inr ⟨_,rfl,?_⟩;exact hB.drop) (h:=?_);rintro u1 E hG;refine' zn;have hG:=hG.drop;obtain ⟨rfl,hG⟩:=hG.tup;refine' QY;exact Am)
                              | (refine' Kd
                                 refine' Kn;(refine' Ac<;>intro O);all_goals (refine' Kv)
                                 all_goals
                                  first
                                  | (refine' Kf
                                     refine Qm ?_;have hX:=og (m:=m) (s:=Kc h g.nx fr inp out fu) (x:=x) V;refine NU 7 16 Jk ?_ ?_
                                     · skip
                                       refine NU 11 16 Jk ?_ ?_
                                       · skip
                                         refine NU 12 16 Jk ?_ ?_
                                         · refine zC [(0,none),(1,none),(2,none),(3,none),(4,none),(5,none),(6,none),(8,none),(9,none),(10,none),(7,some (some [3,10])),(11,some (some [3])),(12,some none),(13,none),(14,none),(15,none),(16,some (some [])),(17,some (some [])),(18,some none)] ?_;have Z:=Z.drew;refine' U2;refine' N1;refine KF (c:=OQ V (show St Y _ (mL p c fr g.nx _) from Z.sp)) (p:=by rintro u9 w9 ⟨hv,rfl,Z⟩;(repeat (first|refine' Qo|refine' QL|refine fun _=>?_));refine' Qi;refine .inr ⟨_,rfl,?_⟩;exact As) (h:=?_);rintro u1 w2 ⟨v,hv,rfl,Z⟩;refine' Lc;refine KF (c:=Te V (show St Y _ (mL p c fr g.nx _) from Z.sp)) (p:=by rintro u9 w9 ⟨hnn,rfl,Z⟩;(repeat (first|refine' Qo|refine' QL|refine fun _=>?_));refine' Qi;refine .inr ⟨_,rfl,?_⟩;exact AM) (h:=?_);rintro u1 w2 ⟨n,hnn,rfl,Z⟩;refine' LY;refine' KZ (c:=eW (N:=N) (s:=h) (h:=c.hp) v n Z fd);rintro v1 E ⟨rfl,Z⟩;unfold Val.v Val.cells;refine' S6;refine' UU;intro p10 E Z;refine' Lc;refine Kp Z ?_;intro E Z;have Z:=Z.ns;refine' S7;refine' RK;refine' zm;refine MK (c:=jh (x:=x) hx V (show St Y _ (mL p c fr g.nx _) from Z.sp)) (p:=by rintro u9 w9 ⟨he,Z⟩;(repeat (refine' Lo));refine' Qi;refine .inr ⟨_,rfl,?_⟩;rcases he with ⟨e0,rfl⟩|⟨⟨v3,hv3,hk4⟩,e0,rfl⟩;exact A1;obtain rfl:v=v3:=EP (hv.symm.trans hv3);exact AY) (h:=?_);rintro u1 E ⟨⟨v3,hv3,hk4⟩,e0,rfl,Z⟩;obtain rfl:v=v3:=EP (hv.symm.trans hv3);refine' Tb;refine KO Z [_,_,_,_] ?_;intro b1 E Z;have Z:=Fz (T:=224) (es:=4) (css:=[(h.get v n).1].map Val.cells) Z rfl CX rfl;have Z:St Y _ (mL p c fr g.nx (sl 224 4 (.slice (some ⟨b1,0,none⟩) 1 1) ([(h.get v n).1].map Val.cells)::Mw (N) c.hp (h)::sl 2 1 c.ov (Qe out)::blk p3 84 [.int .i64 x.op, .int .i64 x.a, .int .i64 x.b, .int .i64 x.c, .int .i64 x.k, .int .i64 x.n,vr,va]::L)):=Z.sp;refine' Kk (c:=Rs (j:=0) V CV Z rfl);rintro u1 E ⟨tv,rfl,Z⟩;refine' zn;have hG:Mv p c N fu ((Kc h g.nx fr inp out fu).ins m x) Y L (.tuple #[]) E:=⟨c.lv,c.iv,c.ov,fr,g.nx.push tv [(h.get v n).1],N,h,inp,out,hX.trans ((Q1 hv).trans ((Q1 hnn).trans (ZD hk4 e0))),hi,V,rfl,Z.sp⟩;refine' QY;exact Am
                                         · refine zC [(0,none),(1,none),(2,none),(3,none),(4,none),(5,none),(6,none),(8,none),(9,none),(10,none),(7,some (some [3,10])),(11,some (some [3])),(16,some (some [3])),(12,some none),(13,none),(14,none),(15,none),(17,some (some [])),(18,some none)] ?_;have Z:=Z.drew;refine' U2;refine' N1;refine KF (c:=OQ V (show St Y _ (mL p c fr g.nx _) from Z.sp)) (p:=by rintro u9 w9 ⟨hv,rfl,Z⟩;(repeat (first|refine' Qo|refine' QL|refine fun _=>?_));refine' Qi;refine .inr ⟨_,rfl,?_⟩;exact As) (h:=?_);rintro u1 w2 ⟨v,hv,rfl,Z⟩;refine' Lc;refine KF (c:=Te V (show St Y _ (mL p c fr g.nx _) from Z.sp)) (p:=by rintro u9 w9 ⟨hnn,rfl,Z⟩;(repeat (first|refine' Qo|refine' QL|refine fun _=>?_));refine' Qi;refine .inr ⟨_,rfl,?_⟩;exact AM) (h:=?_);rintro u1 w2 ⟨n,hnn,rfl,Z⟩;refine' Lc;refine Qb Z ?_;intro p10 E Z;refine' LY;refine' KZ (c:=eW (N:=N) (s:=h) (h:=c.hp) v n Z fd);rintro v1 E ⟨rfl,Z⟩;unfold Val.v Val.cells;refine' S6;refine' Lh;refine Kp Z ?_;intro E Z;have Z:=Z.ns;refine' S7;refine' RK;refine' zm;refine MK (c:=jh (x:=x) hx V (show St Y _ (mL p c fr g.nx _) from Z.sp)) (p:=by rintro u9 w9 ⟨he,Z⟩;(repeat (refine' Lo));refine' Qi;refine .inr ⟨_,rfl,?_⟩;rcases he with ⟨e0,rfl⟩|⟨⟨v3,hv3,hk4⟩,e0,rfl⟩;exact A1;obtain rfl:v=v3:=EP (hv.symm.trans hv3);exact AY) (h:=?_);rintro u1 E ⟨⟨v3,hv3,hk4⟩,e0,rfl,Z⟩;obtain rfl:v=v3:=EP (hv.symm.trans hv3);refine' Tb;refine KO Z [_,_,_,_] ?_;intro b1 E Z;have Z:=Fz (T:=224) (es:=4) (css:=[(h.get v n).1].map Val.cells) Z rfl CX rfl;have Z:St Y _ (mL p c fr g.nx (sl 224 4 (.slice (some ⟨b1,0,none⟩) 1 1) ([(h.get v n).1].map Val.cells)::Mw (N) c.hp (h)::sl 2 1 c.ov (Qe out)::blk p3 84 [.int .i64 x.op, .int .i64 x.a, .int .i64 x.b, .int .i64 x.c, .int .i64 x.k, .int .i64 x.n,vr,va]::L)):=Z.sp;refine' Kk (c:=Rs (j:=0) V CV Z rfl);rintro u1 E ⟨tv,rfl,Z⟩;refine' zn;have hG:Mv p c N fu ((Kc h g.nx fr inp out fu).ins m x) Y L (.tuple #[]) E:=⟨c.lv,c.iv,c.ov,fr,g.nx.push tv [(h.get v n).1],N,h,inp,out,hX.trans ((Q1 hv).trans ((Q1 hnn).trans (ZD hk4 e0))),hi,V,rfl,Z.sp⟩;refine' QY;exact Am
                                       · refine zC [(0,none),(1,none),(2,none),(3,none),(4,none),(5,none),(6,none),(8,none),(9,none),(10,none),(7,some (some [3,10])),(16,some (some [3,10])),(11,some (some [3])),(12,some none),(13,none),(14,none),(15,none),(17,some (some [])),(18,some none)] ?_;have Z:=Z.drew;refine' U2;refine' N1;refine KF (c:=OQ V (show St Y _ (mL p c fr g.nx _) from Z.sp)) (p:=by rintro u9 w9 ⟨hv,rfl,Z⟩;(repeat (first|refine' Qo|refine' QL|refine fun _=>?_));refine' Qi;refine .inr ⟨_,rfl,?_⟩;exact As) (h:=?_);rintro u1 w2 ⟨v,hv,rfl,Z⟩;refine' Lc;refine Qb Z ?_;intro p10 E Z;refine' Lc;refine KF (c:=Te V (show St Y _ (mL p c fr g.nx _) from Z.sp)) (p:=by rintro u9 w9 ⟨hnn,rfl,Z⟩;(repeat (first|refine' Qo|refine' QL|refine fun _=>?_));refine' Qi;refine .inr ⟨_,rfl,?_⟩;exact AM) (h:=?_);rintro u1 w2 ⟨n,hnn,rfl,Z⟩;refine' LY;refine' KZ (c:=eW (N:=N) (s:=h) (h:=c.hp) v n Z fd);rintro v1 E ⟨rfl,Z⟩;unfold Val.v Val.cells;refine' S6;refine' Lh;refine Kp Z ?_;intro E Z;have Z:=Z.ns;refine' S7;refine' RK;refine' zm;refine MK (c:=jh (x:=x) hx V (show St Y _ (mL p c fr g.nx _) from Z.sp)) (p:=by rintro u9 w9 ⟨he,Z⟩;(repeat (refine' Lo));refine' Qi;refine .inr ⟨_,rfl,?_⟩;rcases he with ⟨e0,rfl⟩|⟨⟨v3,hv3,hk4⟩,e0,rfl⟩;exact A1;obtain rfl:v=v3:=EP (hv.symm.trans hv3);exact AY) (h:=?_);rintro u1 E ⟨⟨v3,hv3,hk4⟩,e0,rfl,Z⟩;obtain rfl:v=v3:=EP (hv.symm.trans hv3);refine' Tb;refine KO Z [_,_,_,_] ?_;intro b1 E Z;have Z:=Fz (T:=224) (es:=4) (css:=[(h.get v n).1].map Val.cells) Z rfl CX rfl;have Z:St Y _ (mL p c fr g.nx (sl 224 4 (.slice (some ⟨b1,0,none⟩) 1 1) ([(h.get v n).1].map Val.cells)::Mw (N) c.hp (h)::sl 2 1 c.ov (Qe out)::blk p3 84 [.int .i64 x.op, .int .i64 x.a, .int .i64 x.b, .int .i64 x.c, .int .i64 x.k, .int .i64 x.n,vr,va]::L)):=Z.sp;refine' Kk (c:=Rs (j:=0) V CV Z rfl);rintro u1 E ⟨tv,rfl,Z⟩;refine' zn;have hG:Mv p c N fu ((Kc h g.nx fr inp out fu).ins m x) Y L (.tuple #[]) E:=⟨c.lv,c.iv,c.ov,fr,g.nx.push tv [(h.get v n).1],N,h,inp,out,hX.trans ((Q1 hv).trans ((Q1 hnn).trans (ZD hk4 e0))),hi,V,rfl,Z.sp⟩;refine' QY;exact Am
                                     · refine zC [(0,none),(1,none),(2,none),(3,none),(4,none),(5,none),(6,none),(8,none),(9,none),(10,none),(16,some (some [3,6,10])),(7,some (some [3,10])),(11,some (some [3])),(12,some none),(13,none),(14,none),(15,none),(17,some (some [])),(18,some none)] ?_;have Z:=Z.drew;refine' U2;refine' N1;refine Qb Z ?_;intro p10 E Z;refine' Lc;refine KF (c:=OQ V (show St Y _ (mL p c fr g.nx _) from Z.sp)) (p:=by rintro u9 w9 ⟨hv,rfl,Z⟩;(repeat (first|refine' Qo|refine' QL|refine fun _=>?_));refine' Qi;refine .inr ⟨_,rfl,?_⟩;exact As) (h:=?_);rintro u1 w2 ⟨v,hv,rfl,Z⟩;refine' Lc;refine KF (c:=Te V (show St Y _ (mL p c fr g.nx _) from Z.sp)) (p:=by rintro u9 w9 ⟨hnn,rfl,Z⟩;(repeat (first|refine' Qo|refine' QL|refine fun _=>?_));refine' Qi;refine .inr ⟨_,rfl,?_⟩;exact AM) (h:=?_);rintro u1 w2 ⟨n,hnn,rfl,Z⟩;refine' LY;refine' KZ (c:=eW (N:=N) (s:=h) (h:=c.hp) v n Z fd);rintro v1 E ⟨rfl,Z⟩;unfold Val.v Val.cells;refine' S6;refine' Lh;refine Kp Z ?_;intro E Z;have Z:=Z.ns;refine' S7;refine' RK;refine' zm;refine MK (c:=jh (x:=x) hx V (show St Y _ (mL p c fr g.nx _) from Z.sp)) (p:=by rintro u9 w9 ⟨he,Z⟩;(repeat (refine' Lo));refine' Qi;refine .inr ⟨_,rfl,?_⟩;rcases he with ⟨e0,rfl⟩|⟨⟨v3,hv3,hk4⟩,e0,rfl⟩;exact A1;obtain rfl:v=v3:=EP (hv.symm.trans hv3);exact AY) (h:=?_);rintro u1 E ⟨⟨v3,hv3,hk4⟩,e0,rfl,Z⟩;obtain rfl:v=v3:=EP (hv.symm.trans hv3);refine' Tb;refine KO Z [_,_,_,_] ?_;intro b1 E Z;have Z:=Fz (T:=224) (es:=4) (css:=[(h.get v n).1].map Val.cells) Z rfl CX rfl;have Z:St Y _ (mL p c fr g.nx (sl 224 4 (.slice (some ⟨b1,0,none⟩) 1 1) ([(h.get v n).1].map Val.cells)::Mw (N) c.hp (h)::sl 2 1 c.ov (Qe out)::blk p3 84 [.int .i64 x.op, .int .i64 x.a, .int .i64 x.b, .int .i64 x.c, .int .i64 x.k, .int .i64 x.n,vr,va]::L)):=Z.sp;refine' Kk (c:=Rs (j:=0) V CV Z rfl);rintro u1 E ⟨tv,rfl,Z⟩;refine' zn;have hG:Mv p c N fu ((Kc h g.nx fr inp out fu).ins m x) Y L (.tuple #[]) E:=⟨c.lv,c.iv,c.ov,fr,g.nx.push tv [(h.get v n).1],N,h,inp,out,hX.trans ((Q1 hv).trans ((Q1 hnn).trans (ZD hk4 e0))),hi,V,rfl,Z.sp⟩;refine' QY;exact Am)
                                  | (refine' Kd
                                     refine' Kn;(refine' Ac<;>intro O);all_goals (refine' Kv)
                                     all_goals
                                      first
                                      | (refine' Kf;refine Qm ?_;have hX:=oh (m:=m) (s:=Kc h g.nx fr inp out fu) (x:=x) V;refine zC [(0,none),(1,none),(2,none),(3,none),(4,none),(5,none),(6,none),(8,none),(9,none),(10,none),(12,none),(13,none),(14,none),(7,some (some [3,10,14])),(11,some (some [3,14])),(15,some (some [3])),(16,some (some [3])),(17,some none),(18,some none)] ?_;have Z:=Z.drew;refine' U2;refine' Pj;refine' N1;refine KF (c:=OQ V (show St Y _ (mL p c fr g.nx _) from Z.sp)) (p:=by rintro u9 w9 ⟨hv,rfl,Z⟩;(repeat (first|refine' Qo|refine' QL|refine fun _=>?_));refine' Qi;refine .inr ⟨_,rfl,?_⟩;exact As) (h:=?_);rintro u1 w2 ⟨v,hv,rfl,Z⟩;refine' Lc;refine KF (c:=Te V (show St Y _ (mL p c fr g.nx _) from Z.sp)) (p:=by rintro u9 w9 ⟨hnn,rfl,Z⟩;(repeat (first|refine' Qo|refine' QL|refine fun _=>?_));refine' Qi;refine .inr ⟨_,rfl,?_⟩;exact AM) (h:=?_);rintro u1 w2 ⟨n,hnn,rfl,Z⟩;refine' Lc;refine KF (c:=Te V (show St Y _ (mL p c fr g.nx _) from Z.sp)) (p:=by rintro u9 w9 ⟨hyy,rfl,Z⟩;(repeat (first|refine' Qo|refine' QL|refine fun _=>?_));refine' Qi;refine .inr ⟨_,rfl,?_⟩;exact .inl ⟨hX.trans ((Q1 hv).trans ((Q1 hnn).trans (Qu hyy))),rfl,Z.sp⟩) (h:=?_);rintro u1 w2 ⟨y,hyy,rfl,Z⟩;refine' Lc;refine' Kw (c:=lq Z);rintro v1 E ⟨rfl,Z⟩;refine' LY;refine' M3 (c:=VI (N:=N) (s:=h) (h:=c.hp) v n (KE y) Z fd);rintro v1 E ⟨rfl,Z⟩;have Z:=Z.ns;refine' Oa;refine' OH;refine' zm;refine MK (c:=jh (x:=x) hx V (show St Y _ (mL p c fr g.nx _) from Z.sp)) (p:=by rintro u9 w9 ⟨he,Z⟩;(repeat (refine' QL));refine' Qi;refine .inr ⟨_,rfl,?_⟩;rcases he with ⟨e0,rfl⟩|⟨⟨v3,hv3,hk4⟩,e0,rfl⟩;exact .inl ⟨hX.trans ((Q1 hv).trans ((Q1 hnn).trans ((Q1 hyy).trans (kU (e0 v hv))))),rfl,Z.sp⟩;(obtain rfl:v=v3:=EP (hv.symm.trans hv3);rw [bY V] at Z;exact .inr ⟨2,hX.trans ((Q1 hv).trans ((Q1 hnn).trans ((Q1 hyy).trans (kT hk4 e0)))),rfl,fr,g.nx,N,V,Z.sp⟩)) (h:=?_);rintro u1 E ⟨⟨v3,hv3,hk4⟩,e0,rfl,Z⟩;obtain rfl:v=v3:=EP (hv.symm.trans hv3);refine' zn;have hG:Mv p c N fu ((Kc h g.nx fr inp out fu).ins m x) Y L (.tuple #[]) E:=⟨c.lv,c.iv,c.ov,fr,g.nx,N,h.set v n (KE y),inp,out,hX.trans ((Q1 hv).trans ((Q1 hnn).trans ((Q1 hyy).trans (ZD hk4 e0)))),hi,V,rfl,Z.sp⟩)
                                      | (refine' Kd
                                         refine' Kn;(refine' Ac<;>intro O);all_goals (refine' Kv)
                                         all_goals
                                          first
                                          | (refine' Kf;refine Qm ?_;have hX:=rW (m:=m) (s:=Kc h g.nx fr inp out fu) (x:=x) V;refine zC [(0,none),(1,none),(2,none),(3,none),(4,none),(5,none),(6,none),(7,some (some [3])),(8,some none),(9,none),(10,none),(11,none),(12,none),(13,some none)] ?_;have Z:=Z.drew;refine' NT;refine' N1;refine KF (c:=OQ V (show St Y _ (mL p c fr g.nx _) from Z.sp)) (p:=by rintro u9 w9 ⟨hv,rfl,Z⟩;(repeat (first|refine' Qo|refine' QL|refine fun _=>?_));refine' Qi;refine .inr ⟨_,rfl,?_⟩;exact As) (h:=?_);rintro u1 w2 ⟨v,hv,rfl,Z⟩;refine' LY;refine' Kk (c:=eV (N:=N) (s:=h) (h:=c.hp) v Z fd);rintro v1 E ⟨rfl,Z⟩;refine' Mm;refine' dS;refine' dS;refine' zm;refine' Oa;refine' RK;refine' zm;refine MK (c:=jh (x:=x) hx V (show St Y _ (mL p c fr g.nx _) from Z.sp)) (p:=by rintro u9 w9 ⟨he,Z⟩;(repeat (refine' Lo));refine' Qi;refine .inr ⟨_,rfl,?_⟩;rcases he with ⟨e0,rfl⟩|⟨⟨v3,hv3,hk4⟩,e0,rfl⟩;exact .inl ⟨hX.trans ((Q1 hv).trans (kU (e0 v hv))),rfl,Z.sp⟩;(obtain rfl:v=v3:=EP (hv.symm.trans hv3);exact .inr ⟨2,hX.trans ((Q1 hv).trans (kT hk4 e0)),rfl,fr,g.nx,N,V,Z.sp⟩)) (h:=?_);rintro u1 E ⟨⟨v3,hv3,hk4⟩,e0,rfl,Z⟩;obtain rfl:v=v3:=EP (hv.symm.trans hv3);refine' U3;refine' Kw (c:=lq Z);rintro v1 E ⟨rfl,Z⟩;unfold Val.v Val.cells;refine KO Z [_,_,_,_] ?_;intro b1 E Z;have Z:=Fz (T:=224) (es:=4) (css:=[KE (h.len v).1].map Val.cells) Z rfl CX rfl;have Z:St Y _ (mL p c fr g.nx (sl 224 4 (.slice (some ⟨b1,0,none⟩) 1 1) ([KE (h.len v).1].map Val.cells)::Mw (N) c.hp (h)::sl 2 1 c.ov (Qe out)::blk p3 84 [.int .i64 x.op, .int .i64 x.a, .int .i64 x.b, .int .i64 x.c, .int .i64 x.k, .int .i64 x.n,vr,va]::L)):=Z.sp;refine' Kk (c:=Rs (j:=0) V CV Z rfl);rintro u1 E ⟨tv,rfl,Z⟩;refine' zn;have hG:Mv p c N fu ((Kc h g.nx fr inp out fu).ins m x) Y L (.tuple #[]) E:=⟨c.lv,c.iv,c.ov,fr,g.nx.push tv [KE (h.len v).1],N,h,inp,out,hX.trans ((Q1 hv).trans (ZD hk4 e0)),hi,V,rfl,Z.sp⟩)
                                          | (refine' Kd
                                             refine' Kn;(refine' Ac<;>intro O);all_goals (refine' Kv)
                                             all_goals
                                              first
                                              | (refine' Kf;refine Qm ?_;have hX:=rX (m:=m) (s:=Kc h g.nx fr inp out fu) (x:=x) V;obtain ⟨av,nv,hiv⟩:=E0 hi;refine' P6;refine iG vw hi ?_;(refine' Ac<;>intro O);(all_goals (first|(refine' Kk (c:=VL Z);rintro v1 E ⟨rfl,Z⟩)|(refine KF (c:=VM Z) (p:=by rintro v9 w9 ⟨rfl,Z⟩;(repeat (refine' Lo));refine' Qi;refine .inr ⟨_,rfl,?_⟩;first|(exact .inr ⟨4,hX.trans (lC (FO.1 D0)),rfl,fr,g.nx,N,V,Z.sp⟩)) (h:=fun _ _ h=>h.elim))));refine' LA;obtain ⟨n0,r0,hir⟩:∃n0 r0,inp=n0::r0:=Hi V;refine' NH;refine' LG;refine Tx (m:=0) vw rfl hi rfl V ?_;intro b8 o8 cs8 x8 hat8 hx8 he8;rw [hir,Fm] at hx8;cases hx8;obtain rfl:=Qy he8;refine MG Z ?_;refine' Kw (c:=lq Z);rintro v1 E ⟨rfl,Z⟩;unfold Val.v Val.cells;refine KO Z [_,_,_,_] ?_;intro b1 E Z;have Z:=Fz (T:=224) (es:=4) (css:=[KE n0].map Val.cells) Z rfl CX rfl;have Z:St Y _ (mL p c fr g.nx (sl 224 4 (.slice (some ⟨b1,0,none⟩) 1 1) ([KE n0].map Val.cells)::Mw (N) c.hp (h)::sl 2 1 c.ov (Qe out)::blk p3 84 [.int .i64 x.op, .int .i64 x.a, .int .i64 x.b, .int .i64 x.c, .int .i64 x.k, .int .i64 x.n,vr,va]::L)):=Z.sp;refine' Kk (c:=Rs (j:=0) V CV Z rfl);rintro u1 E ⟨tv,rfl,Z⟩;refine' U3;refine' LG;refine iH (l':=1) (h':=inp.length) vw hi rfl rfl rfl ⟨_,rfl⟩ V V ?_;intro v7 hk7;have hk7:Kb.sl Y v7 r0:=DH;obtain ⟨a7,n7,rfl⟩:=E0 hk7;refine' LF;refine Lv Z ?_;intro E Z;have Z:=Z.ns;refine' zn;have hG:Mv p c N fu ((Kc h g.nx fr inp out fu).ins m x) Y L (.tuple #[]) E:=⟨c.lv,_,c.ov,fr,g.nx.push tv [KE n0],N,h,r0,out,hX.trans (lD hir),hk7,V,rfl,Z.sp⟩)
                                              | (refine' Kd
                                                 refine' Kn;(refine' Ac<;>intro O);all_goals (refine' Kv)
                                                 all_goals
                                                  first
                                                  | (refine' Kf;refine Qm ?_;have hX:=oi (m:=m) (s:=Kc h g.nx fr inp out fu) (x:=x) V;refine' OK;refine KF (c:=Te V (show St Y _ (mL p c fr g.nx _) from Z.sp)) (p:=by rintro u9 w9 ⟨hnn,rfl,Z⟩;(repeat (refine' Lo));refine' Qi;refine .inr ⟨_,rfl,?_⟩;exact .inl ⟨hX.trans (Qu hnn),rfl,Z.sp⟩) (h:=?_);rintro u1 w2 ⟨n,hnn,rfl,Z⟩;refine' L6;refine' O4;refine Qt (n:=out.length) Z vw fd (EM _) ?_;(refine' Ac<;>intro O);(all_goals (first|(refine' Kk (c:=VL Z);rintro v1 E ⟨rfl,Z⟩)|(refine KF (c:=VM Z) (p:=by rintro v9 w9 ⟨rfl,Z⟩;(repeat (refine' Lo));refine' Qi;refine .inr ⟨_,rfl,?_⟩;first|(exact .inr ⟨8,hX.trans ((Q1 hnn).trans (cj DV)),rfl,fr,g.nx,N,V,Z.sp⟩)) (h:=fun _ _ h=>h.elim))));refine' U3;refine' O4;refine' zm;refine KO Z [_] ?_;intro b1 E Z;refine Mx Td (.inl Vq) Z vw vw (v:=c.ov) (css:=Qe out) fd (Z.srcB fd Jr CU) CZ ?_;intro v7 w7 Z;have Z:=Z.ns;have ho7:=Z.oneC (v:=v7) (css:=Qe out++[[.int .i64 n]]) fd;rw [Qhd] at Z;refine' RG;refine Lv Z ?_;intro E Z;have Z:=Z.ns;refine' zn;have hG:Mv p c N fu ((Kc h g.nx fr inp out fu).ins m x) Y L (.tuple #[]) E:=⟨c.lv,c.iv,v7,fr,g.nx,N,h,inp,out++[n],hX.trans ((Q1 hnn).trans (ck DZ)),hi,V,rfl,Z.sp⟩)
                                                  | (refine' Kd
                                                     refine' Kn;refine' UW
                                                     all_goals
                                                      first
                                                      | (refine' Kf;have hX:=xy (m:=m) (s:=Kc h g.nx fr inp out fu) (x:=x) V;rw [hX];obtain ⟨hk0,hk1⟩:=hk V;refine' OH;refine KF (c:=eZ (inp:=inp) (fu:=fu) (x:=x) hx hfn hi hk0 hk1 h6 h8 V Z) (p:=by rintro u9 w9 hB;(repeat (refine' QL));refine' Qi;refine .inr ⟨_,rfl,?_⟩;exact hB.drop) (h:=?_);rintro u1 E hG;refine' zn;have hG:=hG.drop;obtain ⟨rfl,hG⟩:=hG.tup)))))
                                     all_goals (refine' QY;exact Am))))))))))
end Go.Proofs.YteflkifmgnpbhaaGreat
