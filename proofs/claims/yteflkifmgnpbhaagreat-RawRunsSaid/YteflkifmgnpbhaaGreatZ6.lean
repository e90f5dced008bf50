
/- Lemmas of the proof, part 6: what the functions of the program do (contracts), and what follows. -/
import Derived.Test.YteflkifmgnpbhaaGreatZ3
import Derived.Test.YteflkifmgnpbhaaGreatZ5
import Derived.Test.YteflkifmgnpbhaaGreatZ2
import Derived.Test.YteflkifmgnpbhaaGreatZ4
open Go Go.Lir Go.Proofs.YteflkifmgnpbhaaGreat
variable {k r c kd e f fuel pages:Int}{l to xs inp:List Int}{x:Ins}{us:List Ty}{j i d o n b p q pa pb:Nat}{y:Block}{cx:Cx}{m:Module}{u v2 v1 v lv vf:Value}{s:JS}{t:Ty}{cs ds:List Value}{w:World}{L:List Res}{fn:Fun}{rv:List RgnV}{g:Frm}
set_option linter.unusedVariables false
set_option linter.unusedSimpArgs false
set_option maxHeartbeats 1000000
namespace Go.Lir
section
variable {p:Prop}
theorem DK (h:p:=by first|(exact AE)|(exact Az)):p:=h
theorem DT (h:p:=by first|exact AR|rfl):p:=h
theorem D3 (h:p:=by simpa using hb):p:=h
theorem Ei (h:p:=by first|(exact AE)|(exact AP)):p:=h
theorem Ek (h:p:=by rw [hx2];intro h;cases h;omega):p:=h
theorem EH (h:p:=by unfold HpS.get;rw [e0];first|done|fail):p:=h
theorem EL (h:p:=by rw [hge,if_pos ⟨hta,hx1⟩]):p:=h
theorem EP (h:p:=by unfold HpS.can;rw [decide_eq_false hk,JC]):p:=h
theorem ET (h:p:=by have:=hop.2.2.2;rwa [decide_eq_true h] at this):p:=h
theorem EU (h:p:=by first|(exact AE)|(exact AP)|(exact A9)):p:=h
theorem E2 (h:p:=by first|omega|(simp only [FF,FH,FP,F8,Gf,Gw];omega)|(simp;done)|(simp;omega)):p:=h
theorem E5 (h:p:=by unfold HpS.can;rw [hh,Bool.and_false]):p:=h
theorem Fx (h:p:=by have:=hop.2.2.1;rwa [decide_eq_true h] at this):p:=h
end
end Go.Lir
namespace Go.Lir
section
variable {p:Prop}
theorem AE (h:p:=by exact Q1E hS rfl fd rfl):p:=h
theorem AM (h:p:=by exact ⟨_,rfl,_,_,rfl,hle,Rc (Gz _ _ _),hS.sp⟩):p:=h
theorem AO (h:p:=by exact .inl ⟨_,rfl,hJ⟩):p:=h
theorem AR (h:p:=by exact FF _):p:=h
theorem AT (h:p:=by exact ⟨_,rfl,rfl,(Qm ho (L:=L.eraseIdx i) hS.sp).back hi⟩):p:=h
theorem A4 (h:p:=by exact ⟨_,rfl,by rw [hJ];rfl,GY hS.sp hle⟩):p:=h
theorem A7 (h:p:=by exact ⟨_,rfl,rfl,(Qm ho (L:=L.eraseIdx i) hS.sp).back0 hi⟩):p:=h
theorem Bf (h:p:=by exact ⟨_,rfl, .inl ⟨Jo,rfl,hS.sp⟩⟩):p:=h
theorem Bu (h:p:=by exact .inl ⟨_,rfl,hJ,rfl,(Gc hS.sp hi)⟩):p:=h
theorem BF (h:p:=by exact ⟨_,by rw [UE Jo,Q4 h1,Q4 h2,Q4 h3,if_pos (by simpa using hb)],rfl,(Gc hS.sp hi)⟩):p:=h
theorem BM (h:p:=by exact ⟨_,by rw [if_neg Jo,hd];exact tB hx1 hx2 g1 hn (by simpa using hb),rfl,GY (Gc hS.sp hi) hL0⟩):p:=h
theorem BN (h:p:=by exact ⟨_,by rw [if_neg Jo,hd];exact tA hx1 hx2 g1 hn,rfl,GY (Gc hS.sp hi) hL0⟩):p:=h
theorem BO (h:p:=by exact ⟨_,by rw [UE Jo,Qy h1],rfl,(Gc hS.sp hi)⟩):p:=h
theorem BQ (h:p:=by exact ⟨_,rfl,hS.sp, .inl ⟨e0,rfl⟩⟩):p:=h
theorem BR (h:p:=by exact ⟨_,by rw [UE Jo,Q4 h1,Qy h2],rfl,(Gc hS.sp hi)⟩):p:=h
theorem BU (h:p:=by exact ⟨_,rfl,hS.sp, .inl ⟨by rw [e1];simp [hta,hk4],rfl⟩⟩):p:=h
theorem BV (h:p:=by exact ⟨_,by rw [UE Jo,Q4 h1,Q4 h2,Qy h3],rfl,(Gc hS.sp hi)⟩):p:=h
theorem BX (h:p:=by exact ⟨_,ej.trans (if_pos Jo),rfl,(Gc hS.sp hi)⟩):p:=h
theorem B1 (h:p:=by exact ⟨_,by rw [ej,if_neg hne,Qy (xu hx2 hd (by simpa using hb1) (of_decide_eq_true hb))],rfl,(Gc hS.sp hi)⟩):p:=h
theorem B2 (h:p:=by exact ⟨_,rfl,by rw [hJ];rfl,hS.sp⟩):p:=h
theorem B3 (h:p:=by exact ⟨_,if_pos Jo,rfl,(Gc hS.sp hi)⟩):p:=h
theorem B5 (h:p:=by exact ⟨_,Qy h1,rfl,(Gc hS.sp hi)⟩):p:=h
theorem B6 (h:p:=by exact ⟨_,rfl,rfl,(Qm ho1 (L:=L.eraseIdx i) hS.sp).back hi⟩):p:=h
theorem B7 (h:p:=by exact ⟨_,rfl, .inl ⟨by rw [rQ Jo];omega,by rw [rQ Jo];rfl,hS.sp⟩⟩):p:=h
theorem B8 (h:p:=by exact ⟨⟨i+1,zh,zh,Jo,Jo,Jo,by assumption,by assumption,by rw [hd2,Q1 hx3,Q1 hx4,hg];simp,hS.sp⟩,Qc Jo⟩):p:=h
theorem Cd (h:p:=by exact ⟨_,(Q4 h1).trans (if_pos (by simpa using hb)),rfl,(Gc hS.sp hi)⟩):p:=h
theorem Cr (h:p:=by exact ⟨0,zh,zh,Jo,Jo,Jo,by assumption,by assumption,by simp,hS.sp⟩):p:=h
theorem Ct (h:p:=by exact ⟨_,rfl, .inr (.inl ⟨Jo, .inl (.inr Jo),rfl,hS.sp⟩)⟩):p:=h
theorem Cv (h:p:=by exact ⟨_,rfl,by rw [if_pos Jo],(Gc hS.sp hi)⟩):p:=h
theorem CC (h:p:=by exact ⟨_,rfl, .inl ⟨by rw [xv Jo Jo];decide,by rw [xv Jo Jo];rfl,hS.sp⟩⟩):p:=h
theorem CL (h:p:=by exact ⟨_,rfl,by rw [if_pos Jo],cx,vl,css,Gj hS,by rw [if_pos Jo];exact hls,by rw [if_pos Jo];exact (GR hS.sp hi)⟩):p:=h
theorem CO (h:p:=by exact ⟨⟨q+1,_,_,zh,zh,Jo,by rw [tH];exact hls1,by rw [tH,FH,hlq];rfl,ho3,hS.sp⟩,Qc Jo⟩):p:=h
theorem CQ (h:p:=by exact ⟨_,rfl,by unfold HpS.len;rw [e0];simp only [ho.thg hr hth];rfl,(Qm ho (L:=L.eraseIdx i) hS.sp).back0 hi⟩):p:=h
theorem CS (h:p:=by exact ⟨⟨q+1,zh,zh,Jo,by rw [cL,hk,hx2];simp;omega,hne,hS.sp⟩,Qc Jo⟩):p:=h
theorem CT (h:p:=by exact .inl ⟨_,rfl,rfl,Jo,_,_,hls2,(JP.cls hi hS.sp)⟩):p:=h
theorem CV (h:p:=by exact ⟨⟨_,j+1,_,_,us++[y],zh,zh,hL0,Jo,by simp [hus],QbT hd hx3 (by rw [hg,←hy,hg];rfl),by assumption,by assumption,hS.sp⟩,Qc Jo⟩):p:=h
theorem CY (h:p:=by exact ⟨0,_,[],zh,zh,Jo,by unfold LJ;exact GU _ _ _,by unfold LJ;rfl,Jo,hS.sp⟩):p:=h
theorem C3 (h:p:=by exact ⟨cx,0, .slice none 0 0,[],[],zh,zh,Gj hS,Jo,rfl,by simp,GU _ _ _,rfl,by have hS:=hS.nil (T:=115) (es:=3);exact hS.sp⟩):p:=h
theorem C5 (h:p:=by exact ⟨0,_,[],[],zh,zh,Jo,GU _ _ _,rfl,rfl,by rw [GD];cases K2 s x.args<;>rfl,hS.sp⟩):p:=h
theorem C8 (h:p:=by exact ⟨c2,0,Nd y,vl,css,zh,zh,Gj hS,Jo,by rfl,hj,hls,hg0,hS.sp⟩):p:=h
theorem Db (h:p:=by exact ⟨_,rfl, .inr (.inl ⟨Jo, .inl (.inl Jo),rfl,hS.sp⟩)⟩):p:=h
theorem Dc (h:p:=by exact ⟨⟨j+1,zh,zh,Jo,Jo,by rw [hd,Q1 hx1,Q1 hx2,Fun.eq_of hre hpe hrr (by rw [hd2,FJ Jo,FJ Jo])];simp,hS.sp⟩,Qc Jo⟩):p:=h
theorem Dh (h:p:=by exact ⟨⟨j+1,zh,zh,Jo,by rw [hd,Q1 hx1,FX];exact ⟨fun h=>h.resolve_left Jo, .inr⟩,hS.sp⟩,Qc Jo⟩):p:=h
theorem Dq (h:p:=by exact ⟨_,rfl,j,rfl,⟨fun _=>by rw [hd,Q1 hx1,FX];exact .inl Jo,fun _=>by omega⟩,hS.sp⟩):p:=h
theorem Dt (h:p:=by exact ⟨⟨j+1,n+1,zh,zh,Jo,(by rw [hcs,hn,if_pos (show r.abs.there=true from hc)]),hS.sp⟩,Qc Jo⟩):p:=h
theorem Dw (h:p:=by exact ⟨_,rfl, .inr (.inl ⟨Jo, .inr ⟨x1,hx1, .inr Jo⟩,rfl,hS.sp⟩)⟩):p:=h
theorem Dy (h:p:=by exact ⟨_,by rw [Q4 h1,Q4 hts,if_pos (of_decide_eq_true hb)],rfl,GY (Gc hS.sp hi) hle2⟩):p:=h
end
end Go.Lir
namespace Go.Lir
section
variable {p:Prop}
theorem An (h:p:=by first|(exact ⟨_,zh,zh,eN Jo Jo Jo hx2 (by have h9:=FY (hx1.symm.trans hx2);omega),hS.sp⟩)|(exact ⟨_,zh,zh,QhA Jo,hS.sp⟩)):p:=h
theorem Ar (h:p:=by first|(obtain ⟨e1,e2⟩:=mq (s:=s) (v:=⟨2,m,vt,vn⟩) (n:=n) Jo (if arr then 4 else 3) ⟨arr,tl⟩;rw [e1,e2,hcd];exact ⟨_,rfl,rfl,(Qm ho1 (L:=L.eraseIdx i) hS.sp).back hi⟩)|(have hS:St cx _ (ThgV.res H1 ⟨arr,tlv,tl⟩::LF (ThgV.res H1) (r.roomV n).l::sl H1.Tt 2 v7 (((r.roomV n).l++[(⟨arr,tlv,tl⟩:ThgV)]).map ThgV.cells)::MP z b lv lf::sl 131 4 lv ((rv.set m (bo (r.roomV n) v7 ⟨arr,tlv,tl⟩)).map RgnV.cells)::LF (RgnV.res H1) ((rv.set m (r.roomV n)).eraseIdx m)::L.eraseIdx i):=(by rw [Ga];exact hS.sp);have hS:=qt (H:=H1) (rv:=rv.set m (r.roomV n)) (k:=m) (r:=bo (r.roomV n) v7 ⟨arr,tlv,tl⟩) (by rw [Gf];omega) (Jy hS).mv1;rw [Ii] at hS;obtain ⟨e6,e7,e8⟩:=QhH (t:=⟨arr,tl⟩) (kind:=if arr then 4 else 3) hcd hsl hrs;have ho2:HpO (N+1) (s.put ⟨2,m,vt,vn⟩ n ⟨arr,tl⟩) (rv.set m (bo (r.roomV n) v7 ⟨arr,tlv,tl⟩)):=⟨by rw [G8,QbZ,e3,ho.hr,e6];rfl,HpS.ok_put hok hn htl⟩;rw [e8,hcd];exact ⟨_,rfl,by rw [QiX,hc];rfl,(Qm ho2 (by rw [e6];rw [←hlf];exact hS)).back hi⟩)):p:=h
theorem Ax (h:p:=by first|(refine ⟨_,rfl,?_,hS.sp⟩;rw [decide_eq_false];exact fun e=>absurd (congrArg List.length e) Jo;done)|(refine ⟨_,rfl,?_,hS.sp⟩;(rw [decide_eq_false];rw [hd,Q1 hx1,Q1 hx2,Gu];rintro ⟨rfl,_⟩;first|(simp_all;done)|(simp at*;omega));done)):p:=h
theorem Ay (h:p:=by first|(rw [gU Jo];exact ⟨_,rfl,_,_,rfl,hle,Rc (Gz _ _ _),hS.sp⟩)|(rw [kO Jo hx1 Jo];exact ⟨_,rfl,_,_,rfl,hle,Rc (Gz _ _ _),hS.sp⟩)|(rw [hr,rR hd hx3 hg];exact ⟨_,rfl,_,_,rfl,hle,Rc (Gz _ _ _),hS.sp⟩)|(rw [hr,QeD hd Jo];obtain ⟨c3,hle3,hS,hl3⟩:=GF (r:=K0) (l:=us) (T:=115) (es:=3) (v:=u) (css:=css) (L:=L) hS.sp hls rfl Jo;exact ⟨_,rfl,c3,_,rfl,hle.trans hle3,Rc hl3,hS⟩)):p:=h
end
end Go.Lir
namespace Go.Proofs.YteflkifmgnpbhaaGreat
open Go.Lir
attribute [local irreducible] LC.wp Q0 Qr Qj Lo QJ LO.wp Q6 Calls
section
theorem gU {l:List Ty}(h:k≠1∧(r<0∨(to.length:Int)≤r)):Ty.ren (.mk k r l) to=none:=by
 rw [Ty.ren,if_pos Jo]
theorem kO {x:Int}{l:List Ty}(hk:k≠1)(hx:to[r.toNat]?=some x)(h:x<0):Ty.ren (.mk k r l) to=none:=by
 rw [Ty.ren,if_pos ⟨hk, .inr (.inr (by rw [FE,hx];exact h))⟩]
theorem QhA {l:List Ty}(h:k=1):Ty.ren (.mk k r l) to=(Tys.ren l to).map (Ty.mk k r):=by
 subst h;rw [Ty.ren,if_neg Jo];cases Tys.ren l to<;>rfl
theorem eN {x:Int}{l:List Ty}(hk:k≠1)(h0:0≤r)(h1:r<to.length)(hx:to[r.toNat]?=some x)(h:0≤x):Ty.ren (.mk k r l) to=(Tys.ren l to).map (Ty.mk k x):=by
 have hd:to.getD r.toNat 0=x:=(by rw [FE,hx];rfl);rw [Ty.ren,if_neg Jo,hd]
 cases Tys.ren l to with
 | none=>rfl
 | some m=>simp [hk]
theorem rR {l:List Ty}{x:Ty}(hd:Tys.ren l to=(Tys.ren (l.drop j) to).map (us++·))(hx:l[j]?=some x)(hn:x.ren to=none):Tys.ren l to=none:=by
 rw [hd,Q1 hx,Tys.ren,hn];rfl
theorem QbT {l:List Ty}{x y:Ty}(hd:Tys.ren l to=(Tys.ren (l.drop j) to).map (us++·))(hx:l[j]?=some x)(hn:x.ren to=some y):Tys.ren l to=(Tys.ren (l.drop (j+1)) to).map ((us++[y])++·):=by
 rw [hd,Q1 hx,Tys.ren,hn];cases Tys.ren (l.drop (j+1)) to<;>simp
theorem QeD {l:List Ty}(hd:Tys.ren l to=(Tys.ren (l.drop j) to).map (us++·))(hj:l.length≤j):Tys.ren l to=some us:=by
 rw [hd,FJ hj,Tys.ren];simp
theorem WK:∀(t:Ty),t.Short→∀{cx:Cx}{w:World}{L:List Res}{cs:List Value}{v2:Value}{to:List Int},K0.at cx cs t→KM.sl cx v2 to→St cx w L→
 KK Tryz.prog QbB [.agg ⟨cs⟩,v2] w fun u w'=>∃c' ds,u= .tuple #[.agg ⟨ds⟩, .bool (t.ren to).isSome]∧cx.Le c'∧K0.at c' ds ((t.ren to).getD (.mk 0 0 []))∧St c' w' L:=by
 intro t
 induction t using HI with
 | h k r l ih=>
   intro hs cx w L cs v2 to ht hto hS;obtain ⟨v,rfl,hl⟩:=Qe ht;simp only [Ty.kind,Ty.r,Ty.l] at hl ht ⊢;obtain ⟨hlen,hsub⟩:=hs.parts;have hle:=Gj hS;refine KY KX Tryz.func263 ?_;refine' Lx;intro p2 w1 hS;refine Qh hS ?_;(intro p4 w1 hS);refine' Xv;refine' Lw;refine Nn [_,_,_] ?_;refine Qh hS ?_;(intro p6 w1 hS);((refine K1 hS ?_;intro w1 hS;have hS:=hS.ns));refine' zn;refine zM [1,2,4,6] (fun A ρ' w'=>∃(r2:Int),KR ρ' A∧KR ρ' []∧(Ty.ren (.mk k r l) to=(Tys.ren l to).map (Ty.mk k r2))∧St cx w' (blk p6 115 [.int .i64 k, .int .i64 r2, .slice none 0 0]::blk p4 115 [.int .i64 0, .int .i64 0, .slice none 0 0]::blk p2 115 [.int .i64 k, .int .i64 r,v]::L)) ?_ ?_
   · skip
     (refine' Ot;first|(refine' QG)|(refine' QI)|(refine' Ad<;>intro hc));all_goals (refine' zn)
     all_goals
      first
      | (refine' KN
         (((refine' NP;first|(refine' LG)|(refine' LM)|(refine' Ae<;>intro hc));all_goals (refine' Ms;refine' MT;refine' Ng;first|refine' KP|(refine' KQ;(first|(refine' MV)|(refine' Nu)|(refine' Ag<;>intro hc)))));all_goals (refine' PE;refine' Nv;(first|refine' KP|(refine' KQ;refine' N9;intro b1 o1 cs1 x1 hat1 hx1 he1;obtain rfl:=QB he1));refine' cV;first|refine' KP|(refine' KQ;(first|(refine' LG)|(refine' LM)|(refine' Ae<;>intro hc)))));all_goals (refine' LH)
         all_goals
          first
          | (refine' KN;all_goals (refine' K3;refine M5 [_,_,_] ?_;refine K1 hS ?_;intro w1 hS;have hS:=hS.ns;refine' MU;refine MQ vw (Q2 (n:=3) Jk Jk (hS.blkAt fd) Jr Jr) vw ?_);all_goals (first|(rw [gU Jo];exact AM)|(rw [kO Jo hx1 Jo];exact AM)))
          | (refine' KO;refine' KV)
         refine' PZ;refine' N9;intro b2 o2 cs2 x2 hat2 hx2 he2;obtain rfl:=QB he2;refine' N8;refine' S7;intro w1 hS;have hS:=hS.ns;refine' zn)
      | (refine' KO;refine' KV)
     all_goals ((exact An))
   rintro ρ w1 ⟨r2,hA,hρ,hr,hS⟩;obtain ⟨ρ,rfl⟩:=KS hA hρ;refine' NP;refine' PF;refine zo [1,4,6,45,46] (fun A ρ' w'=>∃(k0:Cx) (j:Nat) (u:Value) (css:List (List Value)) (us:List Ty),KR ρ' A∧KR ρ' [(47, .int .i64 j)]∧(cx.Le k0)∧(j≤l.length)∧(us.length=j)∧(Tys.ren l to=(Tys.ren (l.drop j) to).map (us++·))∧(K0.ls k0 css us)∧(oneC u=true)∧St k0 w' (sl 115 3 u css::blk p6 115 [.int .i64 k, .int .i64 r2,u]::blk p4 115 [.int .i64 0, .int .i64 0, .slice none 0 0]::blk p2 115 [.int .i64 k, .int .i64 r,v]::L)) (fun ρ' _=>(l.length - iv (ρ' 47)).toNat) ?_ ?_
   · exact C3
   rintro ρ w1 ⟨k0,j,u,css,us,hA,hρ,hle2,hj,hus,hd,hls,hu,hS⟩;obtain ⟨ρ,rfl⟩:=KS hA hρ;have hL0:=hle2;(try have hle:=hle.trans hle2);(try have hl:=hl.up hle2);(try have hto:=hto.up hle2);refine' NV;refine' Ab<;>intro hc
   · skip
     refine' S9;refine' zi;intro b3 o3 cs3 x3 hat3 hx3 he3;obtain ⟨vl3,rfl,hl3⟩:=Qe he3;refine' NO;intro p8 w1 hS;refine K1 hS ?_;intro w1 hS;have hS:=hS.ns;refine' RD;refine' zm;refine' KU (c:=ih _ (FC hx3) (hsub _ (FC hx3)) he3 hto hS);rintro v1 w1 ⟨c1,ds,rfl,hle2,hd1,hS⟩;obtain ⟨y,hy⟩:∃y,(x3.ren to).getD (.mk 0 0 [])=y:=⟨_,rfl⟩;rw [hy] at hd1;obtain ⟨v7,rfl,hv7⟩:=Qe hd1;(try have hle:=hle.trans hle2);(try have hL0:=hL0.trans hle2);(try have hls:=hls.up hle2);cases hg:x3.ren to;all_goals (refine' Sm;intro p9 w1 hS;refine K1 hS ?_;intro w1 hS;have hS:=hS.ns;refine' gA)
     all_goals
      first
      | (refine' KN;refine' K3;refine M5 [_,_,_] ?_;refine K1 hS ?_;intro w1 hS;have hS:=hS.ns;refine' MU;refine MQ vw (Q2 (n:=3) Jk Jk (hS.blkAt fd) Jr Jr) vw ?_;first|(rw [gU Jo];exact AM)|(rw [kO Jo hx1 Jo];exact AM)|(rw [hr,rR hd hx3 hg];exact AM))
      | (refine' KO;refine' KV)
     refine' So;refine zv hS ?_;refine LK hS [_,_,_] ?_;intro b1 w1 hS;refine za Ro RE hS ?_;intro vp1 w1 css1 hls1 hv1 hS;have hS:=hS.ns;refine' S7;intro w1 hS;have hS:=hS.ns;refine' Sw;(exact CV)
   · skip;refine' L7;refine' Nw;refine K1 hS ?_;intro w1 hS;have hS:=hS.ns;refine' MU;refine MQ vw (Q2 (n:=3) Jk Jk (hS.blkAt fd) Jr Jr) vw ?_;(exact Ay)
theorem rT:∀(t:Ty),t.Short→∀{cx:Cx}{w:World}{L:List Res}{cs:List Value}{v2:Value}{to:List Int},K0.at cx cs t→KM.sl cx v2 to→St cx w L→
 KK Tryz.prog Qj0 [.agg ⟨cs⟩,v2] w fun u w'=>∃c' ds,u= .tuple #[.agg ⟨ds⟩, .bool (t.ren to).isSome]∧cx.Le c'∧K0.at c' ds ((t.ren to).getD (.mk 0 0 []))∧St c' w' L:=by
 intro t
 induction t using HI with
 | h k r l ih=>
   intro hs cx w L cs v2 to ht hto hS;obtain ⟨v,rfl,hl⟩:=Qe ht;simp only [Ty.kind,Ty.r,Ty.l] at hl ht ⊢;obtain ⟨hlen,hsub⟩:=hs.parts;have hle:=Gj hS;refine KY KX Tryz.func155 ?_;refine' Lx;intro p2 w1 hS;refine Qh hS ?_;(intro p4 w1 hS);refine' Xv;refine' Lw;refine Nn [_,_,_] ?_;refine Qh hS ?_;(intro p6 w1 hS);((refine K1 hS ?_;intro w1 hS;have hS:=hS.ns));refine' zn;refine zM [1,2,4,6] (fun A ρ' w'=>∃(r2:Int),KR ρ' A∧KR ρ' []∧(Ty.ren (.mk k r l) to=(Tys.ren l to).map (Ty.mk k r2))∧St cx w' (blk p6 115 [.int .i64 k, .int .i64 r2, .slice none 0 0]::blk p4 115 [.int .i64 0, .int .i64 0, .slice none 0 0]::blk p2 115 [.int .i64 k, .int .i64 r,v]::L)) ?_ ?_
   · skip
     (refine' Ot;first|(refine' QG)|(refine' QI)|(refine' Ad<;>intro hc));all_goals (refine' zn)
     all_goals
      first
      | (refine' KN
         ((refine' NP;first|(refine' LG)|(refine' LM)|(refine' Ae<;>intro hc));all_goals (refine' Ms;refine' MT;refine' Ng;first|refine' KP|(refine' KQ;(first|(refine' MV)|(refine' Nu)|(refine' Ag<;>intro hc)))));all_goals (refine' LH)
         all_goals
          first
          | (refine' KN;all_goals (refine' K3;refine M5 [_,_,_] ?_;refine K1 hS ?_;intro w1 hS;have hS:=hS.ns;refine' MU;refine MQ vw (Q2 (n:=3) Jk Jk (hS.blkAt fd) Jr Jr) vw ?_);all_goals (rw [gU Jo];exact AM))
          | (refine' KO;refine' KV)
         (refine' RB;refine' N9;intro b1 o1 cs1 x1 hat1 hx1 he1;obtain rfl:=QB he1;refine' N8;first|(refine' LG)|(refine' LM)|(refine' Ae<;>intro hc));all_goals (refine' zn)
         all_goals
          first
          | (refine' KN;refine' K3;refine M5 [_,_,_] ?_;refine K1 hS ?_;intro w1 hS;have hS:=hS.ns;refine' MU;refine MQ vw (Q2 (n:=3) Jk Jk (hS.blkAt fd) Jr Jr) vw ?_;first|(rw [gU Jo];exact AM)|(rw [kO Jo hx1 Jo];exact AM))
          | (refine' KO;refine' KV)
         refine' PZ;refine' N9;intro b2 o2 cs2 x2 hat2 hx2 he2;obtain rfl:=QB he2;refine' N8;refine' S7;intro w1 hS;have hS:=hS.ns;refine' zn)
      | (refine' KO;refine' KV)
     all_goals ((exact An))
   rintro ρ w1 ⟨r2,hA,hρ,hr,hS⟩;obtain ⟨ρ,rfl⟩:=KS hA hρ;refine' M8;refine zo [1,2,4,6] (fun A ρ' w'=>∃(k0:Cx) (j:Nat) (u:Value) (css:List (List Value)) (us:List Ty),KR ρ' A∧KR ρ' [(7, .int .i64 j)]∧(cx.Le k0)∧(j≤l.length)∧(us.length=j)∧(Tys.ren l to=(Tys.ren (l.drop j) to).map (us++·))∧(K0.ls k0 css us)∧(oneC u=true)∧St k0 w' (sl 115 3 u css::blk p6 115 [.int .i64 k, .int .i64 r2,u]::blk p4 115 [.int .i64 0, .int .i64 0, .slice none 0 0]::blk p2 115 [.int .i64 k, .int .i64 r,v]::L)) (fun ρ' _=>(l.length - iv (ρ' 7)).toNat) ?_ ?_
   · exact C3
   rintro ρ w1 ⟨k0,j,u,css,us,hA,hρ,hle2,hj,hus,hd,hls,hu,hS⟩;obtain ⟨ρ,rfl⟩:=KS hA hρ;have hL0:=hle2;(try have hle:=hle.trans hle2);(try have hl:=hl.up hle2);(try have hto:=hto.up hle2);refine' O4;refine' Ab<;>intro hc
   · skip
     refine' Ta;intro b3 o3 cs3 x3 hat3 hx3 he3;obtain ⟨vl3,rfl,hl3⟩:=Qe he3;refine' N7;refine' zm;refine' KU (c:=ih _ (FC hx3) (hsub _ (FC hx3)) he3 hto hS);rintro v1 w1 ⟨c1,ds,rfl,hle2,hd1,hS⟩;obtain ⟨y,hy⟩:∃y,(x3.ren to).getD (.mk 0 0 [])=y:=⟨_,rfl⟩;rw [hy] at hd1;obtain ⟨v7,rfl,hv7⟩:=Qe hd1;(try have hle:=hle.trans hle2);(try have hL0:=hL0.trans hle2);(try have hls:=hls.up hle2);cases hg:x3.ren to;all_goals (refine' Sm;intro p8 w1 hS;refine K1 hS ?_;intro w1 hS;have hS:=hS.ns;refine' gA)
     all_goals
      first
      | (refine' KN;refine' K3;refine M5 [_,_,_] ?_;refine K1 hS ?_;intro w1 hS;have hS:=hS.ns;refine' MU;refine MQ vw (Q2 (n:=3) Jk Jk (hS.blkAt fd) Jr Jr) vw ?_;first|(rw [gU Jo];exact AM)|(rw [kO Jo hx1 Jo];exact AM)|(rw [hr,rR hd hx3 hg];exact AM))
      | (refine' KO;refine' KV)
     refine' So;refine zv hS ?_;refine LK hS [_,_,_] ?_;intro b1 w1 hS;refine za Ro RE hS ?_;intro vp1 w1 css1 hls1 hv1 hS;have hS:=hS.ns;refine' S7;intro w1 hS;have hS:=hS.ns;refine' zn;refine' Mk;(exact CV)
   · skip;refine' L7;refine' Nw;refine K1 hS ?_;intro w1 hS;have hS:=hS.ns;refine' MU;refine MQ vw (Q2 (n:=3) Jk Jk (hS.blkAt fd) Jr Jr) vw ?_;(exact Ay)
end
section
attribute [local irreducible] K4 Mq MY NG
section
variable {P:Program}{l:List GO}{Q:QT}{ρ:La}
variable {cx:Cx}{w:World}{L:List Res}
structure JP where
 sp:Nat
 hp:Nat
 f:Fun
 vm:Value
 vp:Value
 vr:Value
 vb:Value
structure JP.Fits (j:JP) (cx:Cx) (m:Module):Prop where
 m:K8.sl cx j.vm m.funcs
 p:K0.sl cx j.vp j.f.params
 r:K0.sl cx j.vr j.f.results
 b:Lp.sl cx j.vb j.f.blocks
theorem JP.Fits.up {j:JP}{cx cx':Cx}(h:j.Fits cx m)(hle:cx.Le cx'):j.Fits cx' m:=⟨h.m.up hle,h.p.up hle,h.r.up hle,h.b.up hle⟩
@[reducible] def JP.cells (j:JP)(vl:Value):List Value:=[.pointer (some ⟨j.hp,0,none⟩),j.vm, .int .i64 j.f.regs,j.vp,j.vr,j.vb,vl]
def JP.res (j:JP)(h:List Bool)(vl:Value)(css:List (List Value)):Res:=star (blk j.sp 258 (j.cells vl)) (star (ZI j.hp h) (sl 115 3 vl css))
variable {j:JP}{h:List Bool}{vl:Value}{css:List (List Value)}
theorem JP.opn (hS:St cx w L)(hi:nth L i=some (j.res h vl css)):St cx w (blk j.sp 258 (j.cells vl)::ZI j.hp h::sl 115 3 vl css::L.eraseIdx i):=by
 have h1:=(hS.out hi).star;exact (J4 (h1.mv1)).mv2
abbrev Iv:=@JP.opn
theorem JP.cls {h':List Bool}{vl':Value}{css':List (List Value)}(hi:nth L i=some (j.res h vl css))(hS:St cx w (blk j.sp 258 (j.cells vl')::ZI j.hp h'::sl 115 3 vl' css'::L.eraseIdx i)):St cx w (L.set i (j.res h' vl' css')):=by
 have h1:St cx w (star (ZI j.hp h') (sl 115 3 vl' css')::blk j.sp 258 (j.cells vl')::L.eraseIdx i):=H9 (hS.mv2.mv2);exact GR (H9 h1.mv1) hi
theorem JP.cls0 (hi:nth L i=some (j.res h vl css))(hS:St cx w (blk j.sp 258 (j.cells vl)::ZI j.hp h::sl 115 3 vl css::L.eraseIdx i)):St cx w L:=by
 have h1:St cx w (star (ZI j.hp h) (sl 115 3 vl css)::blk j.sp 258 (j.cells vl)::L.eraseIdx i):=H9 (hS.mv2.mv2);exact Gc (H9 h1.mv1) hi
abbrev I1:=@JP.cls0
theorem RT {x:Operand}(hS:St cx w L)(hx:ρ.ev x= .pointer (some ⟨j.sp,o,none⟩))(hi:nth L i=some (j.res h vl css))(hu:(j.cells vl)[o]?=some u)(h:Q0 P l Q (upd ρ d u) w):Q0 P (⟨none, .load1 d x⟩::l) Q ρ w:=
 MX (Iv hS hi) hx Lr hu h
theorem mP {x:Operand}{us:List Value}(hS:St cx w L)(hx:ρ.ev x= .pointer (some ⟨j.sp,o,none⟩))(hi:nth L i=some (j.res h vl css))(hu:((j.cells vl).drop o).take n=us)(hl:us.length=n)(h:Q0 P l Q (upd ρ d (.agg ⟨us⟩)) w):Q0 P (⟨none, .loadn d n x⟩::l) Q ρ w:=
 oj (Iv hS hi) hx Lr hu hl h
theorem Q1E {x:Operand}(hS:St cx w L)(hx:ρ.ev x= .pointer (some ⟨j.sp,o,none⟩))(hi:nth L i=some (j.res h vl css))(hu:(j.cells vl)[o]?=some u):NS P ρ w ⟨none, .load1 d x⟩ u:=QZ (Iv hS hi) hx Lr hu
theorem gV {x:Operand}(hS:St cx w L)(hi:nth L i=some (j.res h vl css))(hx:ρ.ev x=vl)(hn:css.length=n)(h:Q0 P l Q (upd ρ d (.int .i64 n)) w):Q0 P (⟨none, .len d x⟩::l) Q ρ w:=
 QL (Iv hS hi) hx NT hn h
end
variable {cx:Cx}{w:World}{L:List Res}{j:JP}{h:List Bool}{vl:Value}{css:List (List Value)}{i:Nat}{m:Module}
theorem WL (hS:St cx w L)(hi:nth L i=some (j.res h vl css)):KK Tryz.prog xj [.pointer (some ⟨j.hp,0,none⟩), .int .i64 r] w fun u w'=>u= .bool (K4 h r)∧St cx w' L:=by
 obtain ⟨v,h2⟩:=gT (Iv hS hi).mv1;refine (WI h2).mono ?_;rintro u w' ⟨h3,h4⟩;exact ⟨h3,I1 hi (eJ h4).mv1⟩
theorem WM (hS:St cx w L)(hi:nth L i=some (j.res h vl css)):KK Tryz.prog xe [.pointer (some ⟨j.hp,0,none⟩)] w fun u w'=>u= .int .i64 h.length∧St cx w' L:=by
 obtain ⟨v,h2⟩:=gT (Iv hS hi).mv1;refine (kM h2).mono ?_;rintro u w' ⟨h3,h4⟩;exact ⟨h3,I1 hi (eJ h4).mv1⟩
theorem ZJ (hl:h.length≤16)(hS:St cx w L)(hi:nth L i=some (j.res h vl css)):KK Tryz.prog xi [.pointer (some ⟨j.hp,0,none⟩)] w fun u w'=>∃c',cx.Le c'∧KM.sl c' u (Mq h)∧St c' w' L:=by
 obtain ⟨v,h2⟩:=gT (Iv hS hi).mv1;refine (WJ hl h2).mono ?_;rintro u w' ⟨c',h3,h5,h4⟩;exact ⟨c',h3,h5,I1 hi (eJ h4).mv1⟩
theorem ZK (hl:h.length<16)(hS:St cx w L)(hi:nth L i=some (j.res h vl css)):KK Tryz.prog xf [.pointer (some ⟨j.hp,0,none⟩)] w fun u w'=>u= .int .i64 h.length∧St cx w' (L.set i (j.res (h++[true]) vl css)):=by
 obtain ⟨v,h2⟩:=gT (Iv hS hi).mv1;refine (eK hl h2).mono ?_;rintro u w' ⟨h3,v',h4⟩;exact ⟨h3,JP.cls hi (eJ h4).mv1⟩
theorem ZL (hr:K4 h r=true)(hS:St cx w L)(hi:nth L i=some (j.res h vl css)):KK Tryz.prog xh [.pointer (some ⟨j.hp,0,none⟩), .int .i64 r] w fun u w'=>u= .bool true∧St cx w' (L.set i (j.res (h.set r.toNat false) vl css)):=by
 obtain ⟨v,h2⟩:=gT (Iv hS hi).mv1;refine (eL hr h2).mono ?_;rintro u w' ⟨h3,h4⟩;exact ⟨h3,JP.cls hi (eJ h4).mv1⟩
theorem ZM (hl:h.length≤16)(hx:KM.sl cx v2 xs)(hS:St cx w L)(hi:nth L i=some (j.res h vl css)):KK Tryz.prog xk [.pointer (some ⟨j.hp,0,none⟩),v2] w fun u w'=>u= .int .i64 (MY h [] xs)∧St cx w' L:=by
 obtain ⟨v,h2⟩:=gT (Iv hS hi).mv1;refine (eM hl hx h2).mono ?_;rintro u w' ⟨h3,c',h5,h4⟩;exact ⟨h3,GY (I1 hi (eJ h4).mv1) h5⟩

@[reducible] def SK (c:Int):Value:= .iface 297 (.int .i64 c)
theorem R2 (hS:St cx w L):KK Tryz.prog rO [.bool false, .int .i64 c] w fun u w'=>u= .tuple #[]∧St cx w' L:=by
 refine KY KX Tryz.func240 ?_;refine' Mf;refine' Si;refine' Nm;exact AX
theorem R3 (hS:St cx w L):Li Tryz.prog rO [.bool true, .int .i64 c] w (fun _ _=>False) (fun u w'=>u=SK c∧St cx w' L):=by
 unfold Li;refine KY KX Tryz.func240 ?_;refine' Mf;refine' KN;refine' Mj;refine' ue;refine tR rfl ?_;(repeat (first|refine' Qn|refine' Qp));refine' QP;exact .inr ⟨_,rfl,rfl,hS.sp⟩
theorem WN {b:Bool}(hS:St cx w L):Li Tryz.prog rO [.bool b, .int .i64 c] w (fun u w'=>u= .tuple #[]∧b=false∧St cx w' L) (fun u w'=>u=SK c∧b=true∧St cx w' L):=by
 cases b with
 | false=>exact ((R2 hS).mono fun u w' h=>(⟨h.1,rfl,h.2⟩:u= .tuple #[]∧false=false∧St cx w' L)).ends
 | true=>exact (R3 hS).mono (fun _ _ h=>h.elim) (fun _ _ h=>⟨h.1,rfl,h.2⟩)
theorem gW (hls:K0.ls cx css s.l)(hS:St cx w L)(hi:nth L i=some (j.res h vl css)):Li Tryz.prog Q7d [.pointer (some ⟨j.sp,0,none⟩), .int .i64 k] w
 (fun u w'=>∃t cs,L6 s k= .ok t∧u= .agg ⟨cs⟩∧K0.at cx cs t∧St cx w' L) (fun u w'=>∃c,L6 s k= .error c∧u=SK c∧St cx w' L):=by
 (((have hlc:=hls.1;have hS:=Iv hS hi;unfold Li;refine KY KX Tryz.func247 ?_;refine' RW;intro p4 w1 hS;refine' Nb;first|(refine' LG)|(refine' LM)|(refine' Ae<;>intro hc));all_goals (refine' Ss;refine' Nv;(first|refine' KP|(refine' KQ;refine QL hS vw fd hlc ?_));first|refine' KP|(refine' KQ;(first|(refine' MV)|(refine' Nu)|(refine' Ag<;>intro hc)))));all_goals (refine' MK;first|(refine' KU (c:=R2 hS);rintro v1 w1 ⟨rfl,hS⟩)|(refine LX (c:=R3 hS) (p:=by rintro v9 w9 ⟨rfl,hS⟩;(repeat (first|refine' Qn|refine' Qp|refine fun _=>?_));refine' QP;refine .inr ⟨_,rfl,?_⟩;first|(exact ⟨_,aB Jo,rfl,(I1 hi hS.sp)⟩)) (h:=fun _ _ h=>h.elim))));refine' MM;obtain ⟨t,ht⟩:∃t,s.l[k.toNat]?=some t:=⟨_,FB Jo⟩;obtain ⟨d,hd,hrd⟩:=hls.2 _ _ ht;obtain ⟨vd,rfl,hld⟩:=Qe hrd;refine' RZ;refine' zm;(first|(refine' N9;intro b1 o1 cs1 x1 hat1 hx1 he1;obtain ⟨vl1,rfl,hl1⟩:=Qe he1)|(refine Rf hS ?_;intro b1 o1 hel1)|(refine aO hS ?_;intro b1 o1 hel1));refine OY hS hel1 rfl fd rfl hd ?_;refine K1 hS ?_;intro w1 hS;have hS:=hS.ns;refine' Mu;refine Mp vw (Q2 (n:=3) Jk Jk (hS.blkAt fd) Jr Jr) ?_;(exact .inl ⟨_,rfl,t,_,Yn Jo ht,rfl,hrd,(I1 hi hS.sp)⟩)
theorem ZN (hls:K0.ls cx css s.l)(hS:St cx w L)(hi:nth L i=some (j.res h vl css)):Li Tryz.prog Q7Z [.pointer (some ⟨j.sp,0,none⟩), .int .i64 k, .int .i64 kd] w
 (fun u w'=>∃t cs,K6 s k kd= .ok t∧u= .agg ⟨cs⟩∧K0.at cx cs t∧St cx w' L) (fun u w'=>∃c,K6 s k kd= .error c∧u=SK c∧St cx w' L):=by
 ((have hS:=hS.out hi;unfold Li K6;refine KY KX Tryz.func239 ?_;refine' RW;intro p6 w1 hS;refine' zn;refine' Lu;refine LX (c:=gW hls hS fd) (p:=by rintro v9 w9 ⟨c,h1,rfl,hS⟩;(repeat (first|refine' Qn|refine' Qp|refine fun _=>?_));refine' QP;refine .inr ⟨_,rfl,?_⟩;exact B5) (h:=?_);rintro v1 w1 ⟨t,cs,h1,rfl,hrd,hS⟩;have hrd':=hrd;obtain ⟨vd,rfl,hld⟩:=Qe hrd;refine Qh hS ?_;intro p7 w1 hS;refine K1 hS ?_;intro w1 hS;have hS:=hS.ns;refine' P0;refine' zm;first|(refine' QG)|(refine' QI)|(refine' Ad<;>intro hc));all_goals (first|(refine' KU (c:=R2 hS);rintro v1 w1 ⟨rfl,hS⟩)|(refine LX (c:=R3 hS) (p:=by rintro v9 w9 ⟨rfl,hS⟩;(repeat (first|refine' Qn|refine' Qp|refine fun _=>?_));refine' QP;refine .inr ⟨_,rfl,?_⟩;first|(exact ⟨_,(Q4 h1).trans (if_pos Jo),rfl,(Gc hS.sp hi)⟩)) (h:=fun _ _ h=>h.elim))));refine' RD;refine K1 hS ?_;intro w1 hS;have hS:=hS.ns;refine' Mu;refine Mp vw (Q2 (n:=3) Jk Jk (hS.blkAt fd) Jr Jr) ?_;(exact .inl ⟨_,rfl,t,_,(Q4 h1).trans (if_neg Jo),rfl,hrd',(Gc hS.sp hi)⟩)
theorem XG (hls:K0.ls cx css s.l)(hS:St cx w L)(hi:nth L i=some (j.res s.h vl css)):Li Tryz.prog Q9O [.pointer (some ⟨j.sp,0,none⟩), .int .i64 k, .int .i64 kd] w
 (fun u w'=>∃t cs,L4 s k kd= .ok t∧u= .agg ⟨cs⟩∧K0.at cx cs t∧St cx w' L) (fun u w'=>∃c,L4 s k kd= .error c∧u=SK c∧St cx w' L):=by
 have hS:=hS.out hi;unfold Li L4;refine KY KX Tryz.func243 ?_;refine' RW;intro p6 w1 hS;refine' zn;refine' Lu;refine' zm;refine Oq (c:=ZN hls hS fd) (p:=by rintro v9 w9 ⟨c,h1,rfl,hS⟩;(repeat (first|refine' Qn|refine' Qp|refine fun _=>?_));refine' QP;refine .inr ⟨_,rfl,?_⟩;exact B5) (h:=?_);rintro v1 w1 ⟨t,cs,h1,rfl,hrd,hS⟩;have hrd':=hrd;obtain ⟨vd,rfl,hld⟩:=Qe hrd;refine Qh hS ?_;intro p7 w1 hS;refine K1 hS ?_;intro w1 hS;have hS:=hS.ns;refine' MM;refine zD (ci 9 [6,8]) ?_;have hS:=hS.drew;refine' zm;refine' cY;refine' Na;refine' KU (c:=WL hS fd);rintro v1 w1 ⟨rfl,hS⟩;refine' Pm;(first|(refine' KU (c:=R2 hS);rintro v1 w1 ⟨rfl,hS⟩)|(refine LX (c:=R3 hS) (p:=by rintro v9 w9 ⟨rfl,hS⟩;(repeat (refine' Qn));refine' QP;refine .inr ⟨_,rfl,?_⟩;first|(exact Cd)) (h:=fun _ _ h=>h.elim))|(refine LX (c:=WN hS) (p:=by rintro v9 w9 ⟨rfl,hb,hS⟩;(repeat (first|refine' Qn|refine' Qp|refine fun _=>?_));refine' QP;refine .inr ⟨_,rfl,?_⟩;first|(exact Cd)) (h:=?_);rintro v1 w1 ⟨rfl,hb,hS⟩));refine' RD;refine K1 hS ?_;intro w1 hS;have hS:=hS.ns;refine' Mu;refine Mp vw (Q2 (n:=3) Jk Jk (hS.blkAt fd) Jr Jr) ?_;(exact .inl ⟨_,rfl,t,_,(Q4 h1).trans (if_neg D3),rfl,hrd',(Gc hS.sp hi)⟩)
end
section
attribute [local irreducible] K4 Mq MY NG
variable {cx:Cx}{w:World}{L:List Res}{j:JP}{h:List Bool}{vl:Value}{css:List (List Value)}{i:Nat}{m:Module}
theorem ZO (hn:s.l.length≤100000)(ht:K0.at cx cs t)(hls:K0.ls cx css s.l)(hS:St cx w L)(hi:nth L i=some (j.res h vl css)):Li Tryz.prog Q8W [.pointer (some ⟨j.sp,0,none⟩), .agg ⟨cs⟩] w
 (fun u w'=>u= .tuple #[]∧s.l.length≠80∧∃vl' css',K0.ls cx css' (s.l++[t])∧St cx w' (L.set i (j.res h vl' css'))) (fun u w'=>u=SK 2∧s.l.length=80∧St cx w' L):=by
 ((have hlc:=hls.1;have hS:=Iv hS hi;have ht':=ht;obtain ⟨vd,rfl,hld⟩:=Qe ht;have hz:K0.at cx [.int .i64 0, .int .i64 0, .slice none 0 0] (.mk 0 0 []):=Rc (Gz _ _ _);unfold Li;refine KY KX Tryz.func238 ?_;refine' Lx;intro p3 w1 hS;refine' Nb;refine' Oa;refine QL hS vw fd hlc ?_;first|(refine' Qd)|(refine' Qi)|(refine' Ac<;>intro hc));all_goals (first|(refine' KU (c:=R2 hS);rintro v1 w1 ⟨rfl,hS⟩)|(refine LX (c:=R3 hS) (p:=by rintro v9 w9 ⟨rfl,hS⟩;(repeat (first|refine' Qn|refine' Qp|refine fun _=>?_));refine' QP;refine .inr ⟨_,rfl,?_⟩;first|(exact ⟨rfl,Jo,(I1 hi hS.sp)⟩)) (h:=fun _ _ h=>h.elim))));refine' zn;refine Ru 9 12 Jk ?_ ?_
 · skip;refine zC [(0,none),(1,none),(2,none),(3,none),(4,none),(5,none),(6,some (some [3,4])),(7,some none),(8,none),(10,none),(11,none),(9,some (some [])),(12,some none)] ?_;have hS:=hS.drew;refine' O3;refine' Sv;refine' Ll;refine zv hS ?_;refine' Ll;refine QL hS vw fd hlc ?_;refine' My;refine LK hS [_,_,_] ?_;intro b1 w1 hS;refine' Nj;refine za Ro RE hS ?_;intro vp1 w1 css1 hls1 hv1 hS;have hS:=hS.ns;refine' Ll;have hl1:=hls1.1;rw [FH,FP,F8] at hl1;obtain ⟨d1,hd1,_⟩:=hls1.2 s.l.length (.mk 0 0 []) Js;(first|(refine' N9;intro b1 o1 cs1 x1 hat1 hx1 he1;obtain ⟨vl1,rfl,hl1⟩:=Qe he1)|(refine Rf hS ?_;intro b1 o1 hel1));refine' Ll;refine' Xt;refine' MR;refine' My;refine oo hS hel1 rfl rfl rfl fd rfl hd1 rfl (K0.one ht') ?_;intro w3 hS;have hS:=hS.ns;refine' Nj;refine Mi hS ?_;intro w1 hS;have hS:=hS.ns;refine' LV;refine' Nm;have hls2:=Kx (i:=s.l.length) hls1 ht';rw [Hp _ _ (F6 _),HN,FM] at hls2;exact CT
 · skip;refine zC [(0,none),(1,none),(2,none),(3,none),(4,none),(5,none),(6,some (some [3,4])),(7,some none),(8,none),(10,none),(11,none),(12,some (some [])),(9,some (some []))] ?_;have hS:=hS.drew;refine' O3;refine' Sv;refine' Ll;refine zv hS ?_;refine' Ll;refine QL hS vw fd hlc ?_;refine' My;refine LK hS [_,_,_] ?_;intro b1 w1 hS;refine' Nj;refine za Ro RE hS ?_;intro vp1 w1 css1 hls1 hv1 hS;have hS:=hS.ns;refine' Ll;have hl1:=hls1.1;rw [FH,FP,F8] at hl1;obtain ⟨d1,hd1,_⟩:=hls1.2 s.l.length (.mk 0 0 []) Js;(first|(refine' N9;intro b1 o1 cs1 x1 hat1 hx1 he1;obtain ⟨vl1,rfl,hl1⟩:=Qe he1)|(refine Rf hS ?_;intro b1 o1 hel1));refine' Ll;refine' Xt;refine' MR;refine' My;refine Mi hS ?_;intro w1 hS;have hS:=hS.ns;refine' MG;refine oo hS hel1 rfl rfl rfl fd rfl hd1 rfl (K0.one ht') ?_;intro w3 hS;have hS:=hS.ns;refine' l7;refine' lY;refine' Nm;have hls2:=Kx (i:=s.l.length) hls1 ht';rw [Hp _ _ (F6 _),HN,FM] at hls2;exact CT
theorem mQ (hk:0≤k)(ht:K0.at cx cs t)(hS:St cx w L):Li Tryz.prog Q7f [.pointer (some ⟨j.sp,0,none⟩), .agg ⟨cs⟩, .int .i64 k] w
 (fun u w'=>∃t' cs',Pv t k= .ok t'∧u= .agg ⟨cs'⟩∧K0.at cx cs' t'∧St cx w' L) (fun u w'=>∃c,Pv t k= .error c∧u=SK c∧St cx w' L):=by
 ((obtain ⟨vd,rfl,hld⟩:=Qe ht;unfold Li Pv;refine KY KX Tryz.func246 ?_;refine' Lx;intro p4 w1 hS;refine Qh hS ?_;intro p6 w1 hS;refine' Nb;refine' Lw;refine' zL;first|(refine' MV)|(refine' Nu)|(refine' Ag<;>intro hc));all_goals (first|(refine' KU (c:=R2 hS);rintro v1 w1 ⟨rfl,hS⟩)|(refine LX (c:=R3 hS) (p:=by rintro v9 w9 ⟨rfl,hS⟩;(repeat (first|refine' Qn|refine' Qp|refine fun _=>?_));refine' QP;refine .inr ⟨_,rfl,?_⟩;first|(exact ⟨_,by rw [Gb Jo],rfl,hS.sp⟩)) (h:=fun _ _ h=>h.elim))));refine' P0;refine' zm;refine gd vw rfl hld rfl hk Jo ?_;intro b1 o1 cs1 x1 hat1 hx1 he1;have he1':=he1;obtain ⟨vl1,rfl,hl1⟩:=Qe he1;refine' N7;refine K1 hS ?_;intro w1 hS;have hS:=hS.ns;refine' Mu;refine Mp vw (Q2 (n:=3) Jk Jk (hS.blkAt fd) Jr Jr) ?_;(exact .inl ⟨_,rfl,x1,_,by rw [hx1],rfl,he1',hS.sp⟩)
theorem rU {regs:List Int}{want:List Ty}{v3:Value}(hsh:∀t∈want,t.Short)(hls:K0.ls cx css s.l)(h1:KM.sl cx v1 l)(h2:K0.sl cx v2 want)(h3:KM.sl cx v3 regs)(hS:St cx w L)(hi:nth L i=some (j.res h vl css)):
 Li Tryz.prog Q81 [.pointer (some ⟨j.sp,0,none⟩),v1,v2,v3] w
 (fun u w'=>O2 s l want regs= .ok ()∧u= .tuple #[]∧St cx w' L) (fun u w'=>∃c,O2 s l want regs= .error c∧u=SK c∧St cx w' L):=by
 ((have hl1:=h1.len;have hl2:=h2.len;have hS:=hS.out hi;have hle:=Gj hS;unfold Li O2;refine KY KX Tryz.func250 ?_;refine' Ls;refine' zL;refine' zm;refine' zL;first|(refine' QG)|(refine' QI)|(refine' Ad<;>intro hc));all_goals (first|(refine' KU (c:=R2 hS);rintro v1 w1 ⟨rfl,hS⟩)|(refine LX (c:=R3 hS) (p:=by rintro v9 w9 ⟨rfl,hS⟩;(repeat (first|refine' Qn|refine' Qp|refine fun _=>?_));refine' QP;refine .inr ⟨_,rfl,?_⟩;first|(exact B3)|(exact BN)|(exact BM)) (h:=fun _ _ h=>h.elim))));refine' Nb;refine' PF;refine Mx hS [0,2,3,19,20] (fun A LL ρ' w'=>∃(k0:Cx) (q:Nat),KR ρ' A∧KR ρ' [(21, .int .i64 q)]∧(cx.Le k0)∧(q≤l.length)∧(Ox s regs l want=Ox s regs (l.drop q) (want.drop q))∧(want.length=l.length)∧St k0 w' (LL)) (fun ρ' _=>(l.length - iv (ρ' 21)).toNat) ?_ ?_
 · exact ⟨cx,0,zh,zh,Gj hS,Jo,by rfl,Jo,hS.sp⟩
 rintro ρ w1 ⟨k0,q,hA,hρ,hle2,hq,hd,hw,hS⟩;obtain ⟨ρ,rfl⟩:=KS hA hρ;have hL0:=hle2;(try have hle:=hle.trans hle2);(try have hls:=hls.up hle2);(try have h1:=h1.up hle2);(try have h2:=h2.up hle2);(try have h3:=h3.up hle2);refine' NV;refine' Ab<;>intro hc
 · skip;refine' KV;refine Qo ?_;refine' bT;refine Qo ?_;refine' Mm;refine' zm;(first|(refine TA vw rfl h2 rfl Jo ?_);intro b2 o2 cs2 x2 hat2 hx2 he2;have he2':=he2;obtain ⟨vl2,rfl,hl2⟩:=Qe he2|(refine' zi;intro b1 o1 cs1 x1 hat1 hx1 he1;obtain rfl:=QB he1));refine' N8;refine' zm;refine' zm;refine' zn;refine Qo ?_;refine' Mm;refine' zm;refine' zm;refine LX (c:=gW hls hS fd) (p:=by rintro v9 w9 ⟨c,g1,rfl,hS⟩;(repeat (first|refine' Qn|refine' Qp|refine fun _=>?_));refine' QP;refine .inr ⟨_,rfl,?_⟩;exact ⟨_,by rw [if_neg Jo,hd];exact lS hx1 (FB Jo) g1,rfl,GY (Gc hS.sp hi) hL0⟩) (h:=?_);rintro v1 w1 ⟨t,cs,g1,rfl,hrd,hS⟩;have hrd':=hrd;obtain ⟨vd,rfl,hld⟩:=Qe hrd;refine Qh hS ?_;intro p10 w1 hS;refine K1 hS ?_;intro w1 hS;have hS:=hS.ns;refine' zn;refine Qo ?_;refine' Mm;refine' zm;refine' zm;refine TA vw rfl h2 rfl Jo ?_;intro b2 o2 cs2 x2 hat2 hx2 he2;have he2':=he2;obtain ⟨vl2,rfl,hl2⟩:=Qe he2;refine' N7;refine' zm;refine' KU (c:=WK x2 (hsh x2 (FC hx2)) he2' h3 hS);rintro v1 w1 ⟨c3,ds,rfl,hle2,hu3,hS⟩;(try have hle:=hle.trans hle2);(try have hL0:=hL0.trans hle2);(try have hl2:=hl2.up hle2);(try have he2:=he2.up hle2);(try have hls:=hls.up hle2);(try have h1:=h1.up hle2);(try have h2:=h2.up hle2);(try have h3:=h3.up hle2);have hrd':=IW hrd' hle2;cases hn:x2.ren regs<;>rw [hn] at hu3<;>simp only [Option.getD_none,Hn] at hu3<;>(have hu3':=hu3)<;>obtain ⟨vu,rfl,hlu⟩:=Qe hu3;(all_goals (refine' Sm;intro p11 w1 hS;refine K1 hS ?_;intro w1 hS;have hS:=hS.ns;refine' K5;refine' Mj;refine' Pm;refine' zm;refine' Sh;refine' Sh;(first|(refine' KP)|(refine' KQ;refine' KU (c:=jF _ _ hrd' hu3' hS);rintro v1 w1 ⟨rfl,hS⟩));refine' OG;refine' MK;first|(refine' KU (c:=R2 hS);rintro v1 w1 ⟨rfl,hS⟩)|(refine LX (c:=R3 hS) (p:=by rintro v9 w9 ⟨rfl,hS⟩;(repeat (first|refine' Qn|refine' Qp|refine fun _=>?_));refine' QP;refine .inr ⟨_,rfl,?_⟩;first|(exact B3)|(exact BN)|(exact BM)) (h:=fun _ _ h=>h.elim))|(refine LX (c:=WN hS) (p:=by rintro v9 w9 ⟨rfl,hb,hS⟩;(repeat (first|refine' Qn|refine' Qp|refine fun _=>?_));refine' QP;refine .inr ⟨_,rfl,?_⟩;first|(exact B3)|(exact BN)|(exact BM)) (h:=?_);rintro v1 w1 ⟨rfl,hb,hS⟩)));refine' Sw;(exact ⟨⟨_,q+1,zh,zh,hL0,Jo,by rw [hd,tC hx1 hx2 g1 hn D3],hw,hS.sp⟩,Qc Jo⟩)
 · skip;refine' L7;refine' Nm;exact .inl ⟨_,rfl,(by rw [if_neg Jo,hd,tD Jo]),rfl,GY (Gc hS.sp hi) hL0⟩
theorem WO {s:List Int}(hK:KM.sl cx v s)(hS:St cx w L):KK Tryz.prog Q5M [v, .int .i64 c] w fun u w'=>∃r:Int,u= .int .i64 r∧(0≤r↔c∈s)∧St cx w' L:=by
 have hlen:=hK.len;refine KY KX Tryz.func89 ?_;refine' Ob;refine' PF;refine Mx hS [0,1,7] (fun A LL ρ' w'=>∃(j:Nat),KR ρ' A∧KR ρ' [(8, .int .i64 j)]∧(j≤s.length)∧(c∈s↔c∈s.drop j)∧St cx w' (LL)) (fun ρ' _=>(s.length - iv (ρ' 8)).toNat) ?_ ?_
 · exact AH
 rintro ρ w1 ⟨j,hA,hρ,hj,hd,hS⟩;obtain ⟨ρ,rfl⟩:=KS hA hρ;refine' NV;refine' Ab<;>intro hc
 · skip
   (refine' MF;refine' NW;refine' Lu;refine' PA;intro b1 o1 cs1 x1 hat1 hx1 he1;obtain rfl:=QB he1;refine' N8;first|(refine' Qd)|(refine' Qi)|(refine' Ac<;>intro hc));all_goals (refine' zn)
   all_goals
    first
    | (refine' KN;refine' RV;(exact Dq))
    | (refine' KO;refine' KV)
   refine' Rl;(exact Dh)
 · skip;refine' O5;first|(exact Dq)|(exact ⟨_,rfl, -1,rfl,⟨fun h=>by omega,fun h=>by rw [hd,FJ Jo] at h;cases h⟩,hS.sp⟩)
theorem QdF {s:List Int}(hK:KM.sl cx v s)(hS:St cx w L):KK Tryz.prog Q4l [v, .int .i64 c] w fun u w'=>u= .bool (decide (c∈s))∧St cx w' L:=by
 (refine KY KX Tryz.func262 ?_;refine' Mf;refine' Lu;refine' KU (c:=WO hK hS);rintro v1 w1 ⟨r,rfl,hr,hS⟩;first|(refine' MV)|(refine' Nu)|(refine' Ag<;>intro hc));all_goals (refine' Ly;refine ⟨_,rfl,?_,hS.sp⟩;(first|rw [decide_eq_true (hr.1 Jo)]|rw [decide_eq_false (fun h=>by have:=hr.2 h;omega)]);done)
def P5 (cx:Cx)(L:List Res)(j:JP)(i:Nat)(r:Except Int JS)(u:Value)(w':World):Prop:=u= .tuple #[]∧∃c' s' vl' css',cx.Le c'∧r= .ok s'∧K0.ls c' css' s'.l∧St c' w' (L.set i (j.res s'.h vl' css'))
def kP {α:Type}(cx:Cx)(L:List Res)(r:Except Int α)(u:Value)(w':World):Prop:=∃e,r= .error e∧u=SK e∧St cx w' L
theorem xw {h:List Bool}{p:List Int}{x:Int}(hx:l[q]?=some x)(hd:NB h [] l=NB h (l.take q) (l.drop q))(hb:K4 h x=false):NB h [] l= .error 10:=by
 rw [hd,Q1 hx,NB,if_pos hb]
theorem xu {h:List Bool}{x:Int}(hx:l[q]?=some x)(hd:NB h [] l=NB h (l.take q) (l.drop q))(hb:K4 h x=true)(ht:x∈l.take q):NB h [] l= .error 13:=by
 rw [hd,Q1 hx,NB,if_neg (by rw [hb];decide),if_pos ht]
theorem xx {h:List Bool}{x:Int}(hx:l[q]?=some x)(hd:NB h [] l=NB h (l.take q) (l.drop q))(hb:K4 h x=true)(ht:x∉l.take q):NB h [] l=NB h (l.take (q+1)) (l.drop (q+1)):=by
 rw [hd,Q1 hx,NB,if_neg (by rw [hb];decide),if_neg ht,Ux hx]
theorem rV {h:List Bool}(hd:NB h [] l=NB h (l.take q) (l.drop q))(hq:l.length≤q):NB h [] l= .ok ():=by
 rw [hd,FJ hq,NB]
theorem ZP (hm:m.Short)(hk:0≤x.k∧x.k<m.funcs.length)(hn:s.l.length≤80)(hj:j.Fits cx m)(hx:Lz.at cx cs x)(hls:K0.ls cx css s.l)(hS:St cx w L)(hi:nth L i=some (j.res s.h vl css)):
 Li Tryz.prog Q80 [.pointer (some ⟨j.sp,0,none⟩), .agg ⟨cs⟩] w (P5 cx L j i (Rw m s x)) (kP cx L (Rw m s x)):=by
 ((have hS:=hS.out hi;have hle:=Gj hS;obtain ⟨vr,va,rfl,hr,ha⟩:=QY hx;have hlr:=hr.len;have hla:=ha.len;have hm1:=hj.m;unfold Li;refine KY KX Tryz.func248 ?_;refine' Lx;intro p3 w1 hS;refine' MM;refine zC [(0,none),(1,none),(2,none),(3,none),(4,none),(5,none),(6,none),(7,none),(8,none),(9,some (some [4,6,8])),(10,some none)] ?_;have hS:=hS.drew;refine' TQ;refine' Rz;refine RT hS rfl fd rfl ?_;refine' Tf;refine' Ll;refine' N9;intro b1 o1 cs1 x1 hat1 hx1 he1;obtain ⟨vp1,vr1,vb1,rfl,hp1,hr1,hb1⟩:=QC he1;refine' U1;intro p4 w1 hS;refine' zt;refine ⟨FG.2 ⟨(by (exact AE)),FG.2 ⟨DK,FG.2 ⟨EU,fun _ h=>(FQ h).elim⟩⟩⟩,?_⟩;refine' L5;refine K1 hS ?_;intro w1 hS;have hS:=hS.ns;refine' LV;have ej:Rw m s x=(if (x.regs.length:Int)≠x1.regs then .error 2 else KL (NB s.h [] x.regs) fun _=>KL (O2 s x.args x1.params x.regs) fun _=>if 80<s.l.length+x1.results.length then .error 2 else .ok ⟨s.h,s.l++x1.results.map (Nc x.regs)⟩):=by {unfold Rw;rw [hx1]};have hsf:=hm.2 x1 (FC hx1);have hrl:=hr1.len;refine' K3;refine' Na;(first|(refine gV hS fd vw hls.1 ?_)|(refine' zL));refine' Na;first|(refine' QG)|(refine' QI)|(refine' Ad<;>intro hc));all_goals (first|(refine' KU (c:=R2 hS);rintro v1 w1 ⟨rfl,hS⟩)|(refine LX (c:=R3 hS) (p:=by rintro v9 w9 ⟨rfl,hS⟩;(repeat (first|refine' Qn|refine' Qp|refine fun _=>?_));refine' QP;refine .inr ⟨_,rfl,?_⟩;first|(exact BX)|(exact B1)) (h:=fun _ _ h=>h.elim))));refine' MM;refine' K3;refine' Na;(first|(refine gV hS fd vw hls.1 ?_)|(refine' zL));refine' Ry;refine Mx hS [0,3,4,28,29] (fun A LL ρ' w'=>∃(q:Nat),KR ρ' A∧KR ρ' [(30, .int .i64 q)]∧(q≤x.regs.length)∧(NB s.h [] x.regs=NB s.h (x.regs.take q) (x.regs.drop q))∧(¬(x.regs.length:Int)≠x1.regs)∧St cx w' (LL)) (fun ρ' _=>(x.regs.length - iv (ρ' 30)).toNat) ?_ ?_
 · exact ⟨0,zh,zh,Jo,by rfl,Jo,hS.sp⟩
 rintro ρ w1 ⟨q,hA,hρ,hq,hd,hne,hS⟩;obtain ⟨ρ,rfl⟩:=KS hA hρ;refine' NV;refine' Ab<;>intro hc
 · skip;refine' MF;refine' Ls;refine' zi;intro b2 o2 cs2 x2 hat2 hx2 he2;obtain rfl:=QB he2;(first|(refine RT hS rfl fd rfl ?_)|(refine zl hS ?_)|(refine S4 hS ?_));refine' zm;refine' Mz;refine' cY;refine' zm;refine' KU (c:=WL hS fd);rintro v1 w1 ⟨rfl,hS⟩;refine' Pm;refine LX (c:=WN hS) (p:=by rintro v9 w9 ⟨rfl,hb,hS⟩;(repeat (first|refine' Qn|refine' Qp|refine fun _=>?_));refine' QP;refine .inr ⟨_,rfl,?_⟩;exact ⟨_,by rw [ej,if_neg hne,Qy (xw (p:=[]) hx2 hd D3)],rfl,(Gc hS.sp hi)⟩) (h:=?_);rintro v1 w1 ⟨rfl,hb1,hS⟩;refine' zn;refine' Mm;refine' Na;refine' zm;refine iV vw hr rfl rfl ⟨_,rfl⟩ rfl Jo Jo ?_;intro v4 hs4;rw [GD] at hs4;refine' zm;refine' KU (c:=QdF Ja hS);rintro v1 w1 ⟨rfl,hS⟩;(first|(refine' KU (c:=R2 hS);rintro v1 w1 ⟨rfl,hS⟩)|(refine LX (c:=R3 hS) (p:=by rintro v9 w9 ⟨rfl,hS⟩;(repeat (refine' Qn));refine' QP;refine .inr ⟨_,rfl,?_⟩;first|(exact BX)|(exact B1)) (h:=fun _ _ h=>h.elim))|(refine LX (c:=WN hS) (p:=by rintro v9 w9 ⟨rfl,hb,hS⟩;(repeat (first|refine' Qn|refine' Qp|refine fun _=>?_));refine' QP;refine .inr ⟨_,rfl,?_⟩;first|(exact BX)|(exact B1)) (h:=?_);rintro v1 w1 ⟨rfl,hb,hS⟩));refine' Sw;(exact ⟨⟨q+1,zh,zh,Jo,by exact xx hx2 hd (by simpa using hb1) (of_decide_eq_false hb),hne,hS.sp⟩,Qc Jo⟩)
 · skip
   refine' L7;refine' Ls;refine' Na;refine' Na;refine' Na;refine pg (c:=rU (s:=s) hsf.1.2 hls ha hp1 hr hS fd) (p:=by rintro v9 w9 ⟨c,g1,rfl,hS⟩;(repeat (first|refine' Qn|refine' Qp|refine fun _=>?_));refine' QP;refine .inr ⟨_,rfl,?_⟩;exact ⟨_,by rw [ej,if_neg hne,Q4 (rV hd Jo),Qy g1],rfl,(Gc hS.sp hi)⟩) (h:=?_);rintro v1 w1 ⟨har,rfl,hS⟩;have hrg:=rV hd Jo;refine' MM;refine zD (ci 11 [10]) ?_;have hS:=hS.drew;refine' zm;refine' cY;refine gV hS fd vw hls.1 ?_;refine' Na;(first|(refine gV hS fd vw hls.1 ?_)|(refine' zL));refine' NH;refine iH rfl rfl ?_;refine LX (c:=WN hS) (p:=by rintro v9 w9 ⟨rfl,hb,hS⟩;(repeat (first|refine' Qn|refine' Qp|refine fun _=>?_));refine' QP;refine .inr ⟨_,rfl,?_⟩;exact ⟨_,by rw [ej,if_neg hne,Q4 hrg,Q4 har,if_pos (by have:=of_decide_eq_true hb;omega)],rfl,(Gc hS.sp hi)⟩) (h:=?_);rintro v1 w1 ⟨rfl,hb,hS⟩;have h80:¬80<s.l.length+x1.results.length:=(by have:=of_decide_eq_false hb;omega);refine' U5;refine' Na;(first|(refine gV hS fd vw hls.1 ?_)|(refine' zL));refine' Ry;refine zo [0,3,71,72] (fun A ρ' w'=>∃(k1:Cx) (q:Nat) (vl2:Value) (cs2:List (List Value)),KR ρ' A∧KR ρ' [(73, .int .i64 q)]∧(cx.Le k1)∧(q≤x1.results.length)∧(K0.ls k1 cs2 (s.l++(x1.results.take q).map (Nc x.regs)))∧St k1 w' (blk p4 95 [.int .i64 x1.regs,vp1,vr1,vb1]::blk p3 84 [.int .i64 x.op, .int .i64 x.a, .int .i64 x.b, .int .i64 x.c, .int .i64 x.k, .int .i64 x.n,vr,va]::j.res s.h vl2 cs2::L.eraseIdx i)) (fun ρ' _=>(x1.results.length - iv (ρ' 73)).toNat) ?_ ?_
   · exact ⟨cx,0,vl,css,zh,zh,Gj hS,Jo,by simpa using hls,hS.sp⟩
   rintro ρ w1 ⟨k1,q,vl2,cs2,hA,hρ,hle2,hq,hls,hS⟩;obtain ⟨ρ,rfl⟩:=KS hA hρ;have hL1:=hle2;(try have hle:=hle.trans hle2);(try have hp1:=hp1.up hle2);(try have hr1:=hr1.up hle2);(try have hb1:=hb1.up hle2);(try have he1:=he1.up hle2);(try have hr:=hr.up hle2);(try have ha:=ha.up hle2);(try have hm1:=hm1.up hle2);refine' NV;refine' Ab<;>intro hc
   · skip;refine' S9;refine' zi;intro b3 o3 cs3 x3 hat3 hx3 he3;obtain ⟨vl3,rfl,hl3⟩:=Qe he3;refine' NO;intro p8 w1 hS;refine K1 hS ?_;intro w1 hS;have hS:=hS.ns;refine' RD;refine' Na;refine' KU (c:=WK x3 (hsf.2.1.2 x3 (FC hx3)) he3 hr hS);rintro v1 w1 ⟨c3,ds,rfl,hle2,hu3,hS⟩;(try have hL1:=hL1.trans hle2);(try have hls:=hls.up hle2);have hu3':=hu3;obtain ⟨vu,rfl,hlu⟩:=Qe hu3;refine' Sm;intro p9 w1 hS;refine K1 hS ?_;intro w1 hS;have hS:=hS.ns;refine' K5;refine' PX;refine LX (c:=ZO (s:=⟨s.h,_⟩) (by simp only [FH,FF,GM];omega) hu3' hls hS fd) (p:=by rintro v9 w9 ⟨rfl,h80',hS⟩;(repeat (first|refine' Qn|refine' Qp|refine fun _=>?_));refine' QP;refine .inr ⟨_,rfl,?_⟩;(exfalso;simp only [FH,FF,GM] at h80';omega)) (h:=?_);rintro v1 w1 ⟨rfl,hne80,vl4,cs4,hls4,hS⟩;have hS:=hS.ns;refine' Sw;(exact ⟨⟨_,q+1,vl4,cs4,zh,zh,hL1,Jo,by rw [Ux hx3,Ga,←Hg];exact hls4,hS.sp⟩,Qc Jo⟩)
   · skip;refine' L7;refine' Nm;refine .inl ⟨_,rfl,rfl,k1,⟨s.h,s.l++x1.results.map (Nc x.regs)⟩,vl2,cs2,hL1,by rw [ej,if_neg hne,Q4 hrg,Q4 har,if_neg h80],?_,(GR hS.sp hi)⟩;rw [Gd Jo] at hls;exact hls
end
section
attribute [local irreducible] K4 Mq MY NG
variable {cx:Cx}{w:World}{L:List Res}{j:JP}{h:List Bool}{vl:Value}{css:List (List Value)}{i:Nat}{m:Module}
theorem WQ (hal:x.args.length≤8)(hn:s.l.length≤80)(hx:Lz.at cx cs x)(hls:K0.ls cx css s.l)(hS:St cx w L)(hi:nth L i=some (j.res s.h vl css)):
 Li Tryz.prog Q7e [.pointer (some ⟨j.sp,0,none⟩), .agg ⟨cs⟩] w (P5 cx L j i (UD s x)) (kP cx L (UD s x)):=by
 have hS:=hS.out hi;obtain ⟨vr,va,rfl,hr,ha⟩:=QY hx;unfold Li UD;refine KY KX Tryz.func245 ?_;refine' Lx;intro p3 w1 hS;refine' Nb;refine' Na;refine Oq (c:=XG hls hS fd) (p:=by rintro v9 w9 ⟨c,h1,rfl,hS⟩;(repeat (first|refine' Qn|refine' Qp|refine fun _=>?_));refine' QP;refine .inr ⟨_,rfl,?_⟩;exact B5) (h:=?_);rintro v1 w1 ⟨t,cs1,h1,rfl,hrd,hS⟩;have hrd':=hrd;obtain ⟨vd,rfl,hld⟩:=Qe hrd;refine nK rfl rfl ?_;refine Nn [_,_,_] ?_;refine Qh hS ?_;(intro p4 w1 hS);((refine K1 hS ?_;intro w1 hS;have hS:=hS.ns));refine' MM;refine' K3;refine' Na;refine' PF;have hS:=Ic (T:=115) (es:=3) hS;refine zo [0,4,14,15] (fun A ρ' w'=>∃(q:Nat) (vo:Value) (co:List (List Value)) (ts:List Ty),KR ρ' A∧KR ρ' [(16, .int .i64 q)]∧(q≤x.args.length)∧(K0.ls cx co ts)∧(ts.length=q)∧(oneC vo=true)∧(K2 s x.args=KL (K2 s (x.args.drop q)) fun l=> .ok (ts++l))∧St cx w' (sl 115 3 vo co::blk p4 115 [.int .i64 3, .int .i64 t.r,vo]::blk p3 84 [.int .i64 x.op, .int .i64 x.a, .int .i64 x.b, .int .i64 x.c, .int .i64 x.k, .int .i64 x.n,vr,va]::j.res s.h vl css::L.eraseIdx i)) (fun ρ' _=>(x.args.length - iv (ρ' 16)).toNat) ?_ ?_
 · exact C5
 rintro ρ w1 ⟨q,vo,co,ts,hA,hρ,hq,hlo,hlt,hvo,hd,hS⟩;obtain ⟨ρ,rfl⟩:=KS hA hρ;refine' NV;refine' Ab<;>intro hc
 · skip;refine' S9;refine' zi;intro b1 o1 cs1 x1 hat1 hx1 he1;obtain rfl:=QB he1;(first|(refine RT hS rfl fd rfl ?_)|(refine zl hS ?_)|(refine S4 hS ?_));refine' K5;refine zC [(0,none),(1,none),(2,none),(3,none),(4,some (some [1])),(5,some (some [1])),(6,some none),(7,none),(8,some none)] ?_;have hS:=hS.drew;refine' LP;refine' gw;refine' jo;refine' M9;refine' zm;refine' My;refine LX (c:=gW hls hS fd) (p:=by rintro v9 w9 ⟨c,h2,rfl,hS⟩;(repeat (first|refine' Qn|refine' Qp|refine fun _=>?_));refine' QP;refine .inr ⟨_,rfl,?_⟩;exact ⟨_,by rw [Q4 h1,Qy (tE hx1 hd h2)],rfl,(Gc hS.sp hi)⟩) (h:=?_);rintro v1 w1 ⟨t2,cs2,h2,rfl,hrd2,hS⟩;have hrd2':=hrd2;obtain ⟨vd2,rfl,hld2⟩:=Qe hrd2;refine' zt;refine ⟨FG.2 ⟨DK,fun _ h=>(FQ h).elim⟩,?_⟩;refine' RI;refine LK hS [_,_,_] ?_;intro b1 w1 hS;refine' zt;refine ⟨FG.2 ⟨DK,fun _ h=>(FQ h).elim⟩,?_⟩;refine' L5;refine za Ro RE hS ?_;intro vp1 w1 css1 hls1 hv1 hS;have hS:=hS.ns;refine' Ll;refine' MR;refine' Mb;refine Mi hS ?_;intro w1 hS;have hS:=hS.ns;refine' LV;refine' Rl;(exact ⟨⟨q+1,_,_,ts++[t2],zh,zh,Jo,hls1,by simp [hlt],by assumption,tF hx1 hd h2,hS.sp⟩,Qc Jo⟩)
 · skip;refine' L7;have hts:=tG hd Jo;obtain ⟨c1,hle2,hS,hk1⟩:=GF (r:=K0) hS hlo rfl Jo;have hT:=Rc (k:=3) (r:=t.r) hk1;have hls:=hls.up hle2;obtain ⟨ao,no,rfl⟩:=FK hk1;refine Qo ?_;refine zC [(0,none),(1,none),(2,none),(3,none),(4,none),(5,some (some [0])),(6,some none),(7,none),(8,some none)] ?_;have hS:=hS.drew;refine' LP;refine zv hS ?_;refine' M9;refine' UX;refine RT hS rfl fd rfl ?_;refine' My;refine' Lf (c:=WM hS fd);rintro v1 w1 ⟨rfl,hS⟩;refine' zt;refine ⟨FG.2 ⟨Ei,fun _ h=>(FQ h).elim⟩,?_⟩;refine' L5;refine' KU (c:=uY hT hS);rintro v1 w1 ⟨rfl,hS⟩;refine' Ll;refine XU rfl rfl ?_;refine' Mb;(first|(refine' KU (c:=R2 hS);rintro v1 w1 ⟨rfl,hS⟩)|(refine LX (c:=R3 hS) (p:=by rintro v9 w9 ⟨rfl,hS⟩;(repeat (refine' Qn));refine' QP;refine .inr ⟨_,rfl,?_⟩;first|(exact Dy)) (h:=fun _ _ h=>h.elim))|(refine LX (c:=WN hS) (p:=by rintro v9 w9 ⟨rfl,hb,hS⟩;(repeat (first|refine' Qn|refine' Qp|refine fun _=>?_));refine' QP;refine .inr ⟨_,rfl,?_⟩;first|(exact Dy)) (h:=?_);rintro v1 w1 ⟨rfl,hb,hS⟩));refine' LV;refine' PX;refine LX (c:=ZO (s:=s) Jo hT hls hS fd) (p:=by rintro v9 w9 ⟨rfl,h80',hS⟩;(repeat (first|refine' Qn|refine' Qp|refine fun _=>?_));refine' QP;refine .inr ⟨_,rfl,?_⟩;exact ⟨_,by rw [Q4 h1,Q4 hts,if_neg (of_decide_eq_false hb),cK h80'],rfl,GY (Gc hS.sp hi) hle2⟩) (h:=?_);rintro v1 w1 ⟨rfl,hne80,vl4,cs4,hls4,hS⟩;have hS:=hS.ns;refine' TK;exact .inl ⟨_,rfl,rfl,c1,⟨s.h,_⟩,vl4,cs4,hle2,by rw [Q4 h1,Q4 hts,if_neg (of_decide_eq_false hb),cJ hne80],hls4,(GR hS.sp hi)⟩
theorem rW (h:Qz n x=0):OP n x=0:=by
 unfold Qz at h;split at h
 · cases h
 · split at h
   · cases h
   · exact h
theorem kQ (h:Qz n x=0)(ho:x.op=6∨x.op=7):0≤x.k:=by
 have h:=rW h;unfold OP at h;rcases ho with ho|ho<;>simp [ho] at h<;>omega
theorem Qie (h:Qz n x=0)(ho:x.op=5):x.args.length≤8:=by
 have h:=rW h;unfold OP at h;simp [ho] at h;omega
theorem xz (h:Qz n x=0)(ho:x.op=14):0≤x.k∧x.k<n:=by
 have h:=rW h;unfold OP at h;simp [ho] at h;omega
theorem eO (hm:m.Short)(hF:Qz m.funcs.length x=0)(hn:s.l.length≤80)(hh:s.h.length≤16)(hj:j.Fits cx m)(hx:Lz.at cx cs x)(hls:K0.ls cx css s.l)(hS:St cx w L)(hi:nth L i=some (j.res s.h vl css)):
 Li Tryz.prog Q8X [.pointer (some ⟨j.sp,0,none⟩), .agg ⟨cs⟩] w (P5 cx L j i (Lb m j.f s x)) (kP cx L (Lb m j.f s x)):=by
 (have hS:=hS.out hi;have hx':=hx;have hop:=aC hF;have hlc:=hls.1;have hN:K0.at cx [.int .i64 1, .int .i64 0, .slice none 0 0] KZ:=Rc (Gz _ _ _);obtain ⟨vr,va,rfl,hr,ha⟩:=QY hx;unfold Li;refine KY KX Tryz.func207 ?_;refine' Lx;intro p3 w1 hS;refine' U5;refine PW [_,_,_] ?_;refine Qh hS ?_;intro p4 w1 hS;refine K1 hS ?_;intro w1 hS;have hS:=hS.ns;refine' U5;refine' Na;refine' S6;refine Qo ?_;refine' K3;first|(refine' Qd)|(refine' Qi)|(refine' Ac<;>intro hc));all_goals (refine' K5)
 all_goals
  first
  | (refine' KN;refine' KV)
  | (refine' KO;(refine' Mm;first|(refine' Qd)|(refine' Qi)|(refine' Ac<;>intro hc));all_goals (refine' zm);all_goals refine' zn)
 all_goals
  first
  | (refine' KN;all_goals (refine' PX;refine LX (c:=ZO (s:=s) Jo hN hls hS fd) (p:=by rintro v9 w9 ⟨rfl,h80,hS⟩;(repeat (first|refine' Qn|refine' Qp|refine fun _=>?_));refine' QP;refine .inr ⟨_,rfl,?_⟩;exact ⟨_,by rw [Xq Jo,cK h80],rfl,(Gc hS.sp hi)⟩) (h:=?_);rintro v1 w1 ⟨rfl,hne,vl4,cs4,hls4,hS⟩;have hS:=hS.ns;have hJ:P5 cx L j i (Lb m j.f s x) (.tuple #[]) w1:=⟨rfl,cx,⟨s.h,_⟩,vl4,cs4,Gj hS,by rw [Xq Jo,cJ hne],hls4,(GR hS.sp hi)⟩;refine' zn);all_goals (refine' Nm;exact AO))
  | (refine' KO
     (refine' K3;first|(refine' Qd)|(refine' Qi)|(refine' Ac<;>intro hc));all_goals (refine' K5)
     all_goals
      first
      | (refine' KN;refine' Ls;refine' Na;refine Oq (c:=ZN (s:=s) hls hS fd) (p:=by rintro v9 w9 ⟨c,h1,rfl,hS⟩;(repeat (first|refine' Qn|refine' Qp|refine fun _=>?_));refine' QP;refine .inr ⟨_,rfl,?_⟩;exact ⟨_,by rw [aD Jo,Qy h1],rfl,(Gc hS.sp hi)⟩) (h:=?_);rintro v1 w1 ⟨t1,cs1,h1,rfl,hrd1,hS⟩;skip;refine' Nb;refine' Na;refine Oq (c:=ZN (s:=s) hls hS fd) (p:=by rintro v9 w9 ⟨c,h2,rfl,hS⟩;(repeat (first|refine' Qn|refine' Qp|refine fun _=>?_));refine' QP;refine .inr ⟨_,rfl,?_⟩;exact ⟨_,by rw [aD Jo,Q4 h1,Qy h2],rfl,(Gc hS.sp hi)⟩) (h:=?_);rintro v1 w1 ⟨t2,cs2,h2,rfl,hrd2,hS⟩;skip;refine' zn;refine' PX;refine LX (c:=ZO (s:=s) Jo hN hls hS fd) (p:=by rintro v9 w9 ⟨rfl,h80,hS⟩;(repeat (first|refine' Qn|refine' Qp|refine fun _=>?_));refine' QP;refine .inr ⟨_,rfl,?_⟩;exact ⟨_,by rw [aD Jo,Q4 h1,Q4 h2,cK h80],rfl,(Gc hS.sp hi)⟩) (h:=?_);rintro v1 w1 ⟨rfl,hne,vl4,cs4,hls4,hS⟩;have hS:=hS.ns;have hJ:P5 cx L j i (Lb m j.f s x) (.tuple #[]) w1:=⟨rfl,cx,⟨s.h,_⟩,vl4,cs4,Gj hS,by rw [aD Jo,Q4 h1,Q4 h2,cJ hne],hls4,(GR hS.sp hi)⟩;refine' zn;refine' Nm;exact AO)
      | (refine' KO
         (refine' K3;first|(refine' Qd)|(refine' Qi)|(refine' Ac<;>intro hc));all_goals (refine' K5)
         all_goals
          first
          | (refine' KO
             (refine' K3;first|(refine' Qd)|(refine' Qi)|(refine' Ac<;>intro hc));all_goals (refine' K5)
             all_goals
              first
              | (refine' KN;(refine' Ls;refine' Na;refine Oq (c:=XG (s:=s) hls hS fd) (p:=by rintro v9 w9 ⟨c,h1,rfl,hS⟩;(repeat (first|refine' Qn|refine' Qp|refine fun _=>?_));refine' QP;refine .inr ⟨_,rfl,?_⟩;exact ⟨_,by rw [cG Jo,Qy h1],rfl,(Gc hS.sp hi)⟩) (h:=?_);rintro v1 w1 ⟨t1,cs1,h1,rfl,hrd1,hS⟩;obtain ⟨vd1,rfl,hld1⟩:=Qe hrd1;refine nK rfl rfl ?_;refine' K5;refine' Lu;refine' UU;refine RT hS rfl fd rfl ?_;first|(refine' LG)|(refine' LM)|(refine' Ae<;>intro hc));(all_goals (first|(refine' KU (c:=R2 hS);rintro v1 w1 ⟨rfl,hS⟩)|(refine LX (c:=R3 hS) (p:=by rintro v9 w9 ⟨rfl,hS⟩;(repeat (first|refine' Qn|refine' Qp|refine fun _=>?_));refine' QP;refine .inr ⟨_,rfl,?_⟩;exact ⟨_,by rw [cG Jo,Q4 h1,if_pos Jo],rfl,(Gc hS.sp hi)⟩) (h:=fun _ _ h=>h.elim))));refine' zn;refine' Mj;refine' cY;refine' zm;refine' KU (c:=ZL (Xp h1).2.2.2 hS fd);rintro v1 w1 ⟨rfl,hS⟩;have hS:=hS.ns;have hJ:P5 cx L j i (Lb m j.f s x) (.tuple #[]) w1:=⟨rfl,cx,⟨s.h.set t1.r.toNat false,s.l⟩,vl,css,Gj hS,by rw [cG Jo,Q4 h1,if_neg Jo],hls,(GR hS.sp hi)⟩;refine' zn;refine' Nm;exact AO)
              | (refine' KO
                 (refine' K3;first|(refine' Qd)|(refine' Qi)|(refine' Ac<;>intro hc));all_goals (refine' K5)
                 all_goals
                  first
                  | (refine' KN;refine' PX;refine LX (c:=WQ (Qie hF Jo) hn hx' hls hS fd) (p:=by rintro v9 w9 ⟨c,g1,rfl,hS⟩;(repeat (first|refine' Qn|refine' Qp|refine fun _=>?_));refine' QP;refine .inr ⟨_,rfl,?_⟩;exact ⟨_,by rw [gk Jo];exact g1,rfl,(Gc hS.sp hi)⟩) (h:=?_);rintro v1 w1 ⟨rfl,c1,s1,vl4,cs4,hle,hr1,hls4,hS⟩;have hS:=hS.ns;have hJ:P5 cx L j i (Lb m j.f s x) (.tuple #[]) w1:=⟨rfl,c1,s1,vl4,cs4,hle,by rw [gk Jo];exact hr1,hls4,(GR hS.sp hi)⟩;refine' zn;refine' Nm;exact AO)
                  | (refine' KO
                     (refine' K3;first|(refine' Qd)|(refine' Qi)|(refine' Ac<;>intro hc));all_goals (refine' K5)
                     all_goals
                      first
                      | (refine' KN;refine zC [(0,none),(1,none),(2,none),(3,none),(4,none),(6,none),(7,none),(5,some (some [7])),(8,some (some [])),(9,some none)] ?_;have hS:=hS.drew;refine' Td;refine' zm;refine' Tf;refine' Tf;refine' My;refine Oq (c:=XG (s:=s) hls hS fd) (p:=by rintro v9 w9 ⟨c,h1,rfl,hS⟩;(repeat (first|refine' Qn|refine' Qp|refine fun _=>?_));refine' QP;refine .inr ⟨_,rfl,?_⟩;exact ⟨_,by rw [aE Jo,Qy h1],rfl,(Gc hS.sp hi)⟩) (h:=?_);rintro v1 w1 ⟨t1,cs1,h1,rfl,hrd1,hS⟩;have hrd1':=hrd1;obtain ⟨vd1,rfl,hld1⟩:=Qe hrd1;refine' zt;refine ⟨FG.2 ⟨DK,fun _ h=>(FQ h).elim⟩,?_⟩;refine' RI;refine Oq (c:=mQ (j:=j) (kQ hF Jo) hrd1' hS) (p:=by rintro v9 w9 ⟨c,h2,rfl,hS⟩;(repeat (first|refine' Qn|refine' Qp|refine fun _=>?_));refine' QP;refine .inr ⟨_,rfl,?_⟩;exact ⟨_,by rw [aE Jo,Q4 h1,Qy h2],rfl,(Gc hS.sp hi)⟩) (h:=?_);rintro v1 w1 ⟨t2,cs2,h2,rfl,hrd2,hS⟩;skip;refine' zt;refine ⟨fun _ h=>(FQ h).elim,?_⟩;refine' L5;refine LX (c:=ZO (s:=s) Jo hrd2 hls hS fd) (p:=by rintro v9 w9 ⟨rfl,h80,hS⟩;(repeat (first|refine' Qn|refine' Qp|refine fun _=>?_));refine' QP;refine .inr ⟨_,rfl,?_⟩;exact ⟨_,by rw [aE Jo,Q4 h1,Q4 h2,cK h80],rfl,(Gc hS.sp hi)⟩) (h:=?_);rintro v1 w1 ⟨rfl,hne,vl4,cs4,hls4,hS⟩;have hS:=hS.ns;have hJ:P5 cx L j i (Lb m j.f s x) (.tuple #[]) w1:=⟨rfl,cx,⟨s.h,_⟩,vl4,cs4,Gj hS,by rw [aE Jo,Q4 h1,Q4 h2,cJ hne],hls4,(GR hS.sp hi)⟩;refine' LV;refine' Nm;exact AO)
                      | (refine' KO
                         (refine' K3;first|(refine' Qd)|(refine' Qi)|(refine' Ac<;>intro hc));all_goals (refine' K5)
                         all_goals
                          first
                          | (refine' KN
                             refine Qo ?_;refine Ru 4 8 Jk ?_ ?_
                             · skip
                               refine Ru 7 8 Jk ?_ ?_
                               · skip;refine zC [(0,none),(1,none),(2,none),(3,none),(5,none),(6,none),(4,some (some [6])),(7,some none),(8,some none),(9,some none)] ?_;have hS:=hS.drew;refine' O3;refine' zm;refine' Tf;refine' Tf;refine' My;refine Oq (c:=XG (s:=s) hls hS fd) (p:=by rintro v9 w9 ⟨c,h1,rfl,hS⟩;(repeat (first|refine' Qn|refine' Qp|refine fun _=>?_));refine' QP;refine .inr ⟨_,rfl,?_⟩;exact BO) (h:=?_);rintro v1 w1 ⟨t1,cs1,h1,rfl,hrd1,hS⟩;have hrd1':=hrd1;obtain ⟨vd1,rfl,hld1⟩:=Qe hrd1;refine' zt;refine ⟨FG.2 ⟨DK,fun _ h=>(FQ h).elim⟩,?_⟩;refine' L5;refine Oq (c:=mQ (j:=j) (kQ hF Jo) hrd1' hS) (p:=by rintro v9 w9 ⟨c,h2,rfl,hS⟩;(repeat (first|refine' Qn|refine' Qp|refine fun _=>?_));refine' QP;refine .inr ⟨_,rfl,?_⟩;exact BR) (h:=?_);rintro v1 w1 ⟨t2,cs2,h2,rfl,hrd2,hS⟩;have hrd2':=hrd2;obtain ⟨vd2,rfl,hld2⟩:=Qe hrd2;refine' Mb;refine Qh hS ?_;intro p6 w1 hS;refine' Mb;refine K1 hS ?_;intro w1 hS;have hS:=hS.ns;refine' LV;refine zC [(0,none),(1,none),(2,none),(3,none),(4,some (some [0])),(5,some none),(6,none),(7,some none)] ?_;have hS:=hS.drew;refine' LP;refine zv hS ?_;refine' Sk;refine' Tf;refine' My;refine LX (c:=gW (s:=s) hls hS fd) (p:=by rintro v9 w9 ⟨c,h3,rfl,hS⟩;(repeat (first|refine' Qn|refine' Qp|refine fun _=>?_));refine' QP;refine .inr ⟨_,rfl,?_⟩;exact BV) (h:=?_);rintro v1 w1 ⟨t3,cs3,h3,rfl,hrd3,hS⟩;skip;refine' zt;refine ⟨FG.2 ⟨Ei,fun _ h=>(FQ h).elim⟩,?_⟩;refine' L5;refine' KU (c:=jF _ _ hrd2' hrd3 hS);rintro v1 w1 ⟨rfl,hS⟩;refine' Ll;refine' Pm;refine' Mb;refine LX (c:=WN hS) (p:=by rintro v9 w9 ⟨rfl,hb,hS⟩;(repeat (first|refine' Qn|refine' Qp|refine fun _=>?_));refine' QP;refine .inr ⟨_,rfl,?_⟩;exact BF) (h:=?_);rintro v1 w1 ⟨rfl,hb,hS⟩;refine' LV;have hJ:P5 cx L j i (Lb m j.f s x) (.tuple #[]) w1:=⟨rfl,cx,s,vl,css,Gj hS,by rw [UE Jo,Q4 h1,Q4 h2,Q4 h3,if_neg D3],hls,(GR hS.sp hi)⟩;refine' Nm;exact AO
                               · skip;refine zC [(0,none),(1,none),(2,none),(3,none),(5,none),(6,none),(4,some (some [6])),(8,some (some [6])),(7,some none),(9,some none)] ?_;have hS:=hS.drew;refine' O3;refine' zm;refine' Tf;refine' Tf;refine' My;refine Oq (c:=XG (s:=s) hls hS fd) (p:=by rintro v9 w9 ⟨c,h1,rfl,hS⟩;(repeat (first|refine' Qn|refine' Qp|refine fun _=>?_));refine' QP;refine .inr ⟨_,rfl,?_⟩;exact BO) (h:=?_);rintro v1 w1 ⟨t1,cs1,h1,rfl,hrd1,hS⟩;have hrd1':=hrd1;obtain ⟨vd1,rfl,hld1⟩:=Qe hrd1;refine' zt;refine ⟨FG.2 ⟨DK,fun _ h=>(FQ h).elim⟩,?_⟩;refine' RI;refine Qh hS ?_;intro p6 w1 hS;refine' zt;refine ⟨FG.2 ⟨DK,fun _ h=>(FQ h).elim⟩,?_⟩;refine' L5;refine Oq (c:=mQ (j:=j) (kQ hF Jo) hrd1' hS) (p:=by rintro v9 w9 ⟨c,h2,rfl,hS⟩;(repeat (first|refine' Qn|refine' Qp|refine fun _=>?_));refine' QP;refine .inr ⟨_,rfl,?_⟩;exact BR) (h:=?_);rintro v1 w1 ⟨t2,cs2,h2,rfl,hrd2,hS⟩;have hrd2':=hrd2;obtain ⟨vd2,rfl,hld2⟩:=Qe hrd2;refine' Mb;refine K1 hS ?_;intro w1 hS;have hS:=hS.ns;refine' LV;refine zC [(0,none),(1,none),(2,none),(3,none),(4,some (some [0])),(5,some none),(6,none),(7,some none)] ?_;have hS:=hS.drew;refine' LP;refine zv hS ?_;refine' Sk;refine' Tf;refine' My;refine LX (c:=gW (s:=s) hls hS fd) (p:=by rintro v9 w9 ⟨c,h3,rfl,hS⟩;(repeat (first|refine' Qn|refine' Qp|refine fun _=>?_));refine' QP;refine .inr ⟨_,rfl,?_⟩;exact BV) (h:=?_);rintro v1 w1 ⟨t3,cs3,h3,rfl,hrd3,hS⟩;skip;refine' zt;refine ⟨FG.2 ⟨Ei,fun _ h=>(FQ h).elim⟩,?_⟩;refine' L5;refine' KU (c:=jF _ _ hrd2' hrd3 hS);rintro v1 w1 ⟨rfl,hS⟩;refine' Ll;refine' Pm;refine' Mb;refine LX (c:=WN hS) (p:=by rintro v9 w9 ⟨rfl,hb,hS⟩;(repeat (first|refine' Qn|refine' Qp|refine fun _=>?_));refine' QP;refine .inr ⟨_,rfl,?_⟩;exact BF) (h:=?_);rintro v1 w1 ⟨rfl,hb,hS⟩;refine' LV;have hJ:P5 cx L j i (Lb m j.f s x) (.tuple #[]) w1:=⟨rfl,cx,s,vl,css,Gj hS,by rw [UE Jo,Q4 h1,Q4 h2,Q4 h3,if_neg D3],hls,(GR hS.sp hi)⟩;refine' Nm;exact AO
                             · skip;refine zC [(0,none),(1,none),(2,none),(3,none),(5,none),(6,none),(8,some (some [3,6])),(4,some (some [6])),(7,some none),(9,some none)] ?_;have hS:=hS.drew;refine' O3;refine' zm;refine' Tf;refine' Tf;refine' Rk;intro p6 w1 hS;refine' zt;refine ⟨FG.2 ⟨DK,FG.2 ⟨DK,fun _ h=>(FQ h).elim⟩⟩,?_⟩;refine' RI;refine Oq (c:=XG (s:=s) hls hS fd) (p:=by rintro v9 w9 ⟨c,h1,rfl,hS⟩;(repeat (first|refine' Qn|refine' Qp|refine fun _=>?_));refine' QP;refine .inr ⟨_,rfl,?_⟩;exact BO) (h:=?_);rintro v1 w1 ⟨t1,cs1,h1,rfl,hrd1,hS⟩;have hrd1':=hrd1;obtain ⟨vd1,rfl,hld1⟩:=Qe hrd1;refine' zt;refine ⟨FG.2 ⟨DK,fun _ h=>(FQ h).elim⟩,?_⟩;refine' L5;refine Oq (c:=mQ (j:=j) (kQ hF Jo) hrd1' hS) (p:=by rintro v9 w9 ⟨c,h2,rfl,hS⟩;(repeat (first|refine' Qn|refine' Qp|refine fun _=>?_));refine' QP;refine .inr ⟨_,rfl,?_⟩;exact BR) (h:=?_);rintro v1 w1 ⟨t2,cs2,h2,rfl,hrd2,hS⟩;have hrd2':=hrd2;obtain ⟨vd2,rfl,hld2⟩:=Qe hrd2;refine' Mb;refine K1 hS ?_;intro w1 hS;have hS:=hS.ns;refine' LV;refine zC [(0,none),(1,none),(2,none),(3,none),(4,some (some [0])),(5,some none),(6,none),(7,some none)] ?_;have hS:=hS.drew;refine' LP;refine zv hS ?_;refine' Sk;refine' Tf;refine' My;refine LX (c:=gW (s:=s) hls hS fd) (p:=by rintro v9 w9 ⟨c,h3,rfl,hS⟩;(repeat (first|refine' Qn|refine' Qp|refine fun _=>?_));refine' QP;refine .inr ⟨_,rfl,?_⟩;exact BV) (h:=?_);rintro v1 w1 ⟨t3,cs3,h3,rfl,hrd3,hS⟩;skip;refine' zt;refine ⟨FG.2 ⟨Ei,fun _ h=>(FQ h).elim⟩,?_⟩;refine' L5;refine' KU (c:=jF _ _ hrd2' hrd3 hS);rintro v1 w1 ⟨rfl,hS⟩;refine' Ll;refine' Pm;refine' Mb;refine LX (c:=WN hS) (p:=by rintro v9 w9 ⟨rfl,hb,hS⟩;(repeat (first|refine' Qn|refine' Qp|refine fun _=>?_));refine' QP;refine .inr ⟨_,rfl,?_⟩;exact BF) (h:=?_);rintro v1 w1 ⟨rfl,hb,hS⟩;refine' LV;have hJ:P5 cx L j i (Lb m j.f s x) (.tuple #[]) w1:=⟨rfl,cx,s,vl,css,Gj hS,by rw [UE Jo,Q4 h1,Q4 h2,Q4 h3,if_neg D3],hls,(GR hS.sp hi)⟩;refine' Nm;exact AO)
                          | (refine' KO
                             (refine' K3;first|(refine' Qd)|(refine' Qi)|(refine' Ac<;>intro hc));all_goals (refine' K5)
                             all_goals
                              first
                              | (refine' KN;refine' Ls;refine' Na;refine Oq (c:=XG (s:=s) hls hS fd) (p:=by rintro v9 w9 ⟨c,h1,rfl,hS⟩;(repeat (first|refine' Qn|refine' Qp|refine fun _=>?_));refine' QP;refine .inr ⟨_,rfl,?_⟩;exact ⟨_,by rw [aF Jo,Qy h1],rfl,(Gc hS.sp hi)⟩) (h:=?_);rintro v1 w1 ⟨t1,cs1,h1,rfl,hrd1,hS⟩;obtain ⟨vd1,rfl,hld1⟩:=Qe hrd1;refine nK rfl rfl ?_;refine' Mz;refine' Na;refine Oq (c:=ZN (s:=s) hls hS fd) (p:=by rintro v9 w9 ⟨c,h2,rfl,hS⟩;(repeat (first|refine' Qn|refine' Qp|refine fun _=>?_));refine' QP;refine .inr ⟨_,rfl,?_⟩;exact ⟨_,by rw [aF Jo,Q4 h1,Qy h2],rfl,(Gc hS.sp hi)⟩) (h:=?_);rintro v1 w1 ⟨t2,cs2,h2,rfl,hrd2,hS⟩;skip;refine' zn;refine' NJ;refine Nn [_,_,_] ?_;refine LX (c:=ZO (s:=s) Jo (Rc (k:=4) (r:=t1.r) (l:=[]) (Gz _ _ _)) hls hS fd) (p:=by rintro v9 w9 ⟨rfl,h80,hS⟩;(repeat (first|refine' Qn|refine' Qp|refine fun _=>?_));refine' QP;refine .inr ⟨_,rfl,?_⟩;exact ⟨_,by rw [aF Jo,Q4 h1,Q4 h2,cK h80],rfl,(Gc hS.sp hi)⟩) (h:=?_);rintro v1 w1 ⟨rfl,hne,vl4,cs4,hls4,hS⟩;have hS:=hS.ns;have hJ:P5 cx L j i (Lb m j.f s x) (.tuple #[]) w1:=⟨rfl,cx,⟨s.h,_⟩,vl4,cs4,Gj hS,by rw [aF Jo,Q4 h1,Q4 h2,cJ hne],hls4,(GR hS.sp hi)⟩;refine' zn)
                              | (refine' KO
                                 (refine' K3;first|(refine' Qd)|(refine' Qi)|(refine' Ac<;>intro hc));all_goals (refine' K5)
                                 all_goals
                                  first
                                  | (refine' KN;refine' Ls;refine' Na;refine Oq (c:=XG (s:=s) hls hS fd) (p:=by rintro v9 w9 ⟨c,h1,rfl,hS⟩;(repeat (first|refine' Qn|refine' Qp|refine fun _=>?_));refine' QP;refine .inr ⟨_,rfl,?_⟩;exact ⟨_,by rw [aG Jo,Qy h1],rfl,(Gc hS.sp hi)⟩) (h:=?_);rintro v1 w1 ⟨t1,cs1,h1,rfl,hrd1,hS⟩;skip;refine' Nb;refine' Na;refine Oq (c:=ZN (s:=s) hls hS fd) (p:=by rintro v9 w9 ⟨c,h2,rfl,hS⟩;(repeat (first|refine' Qn|refine' Qp|refine fun _=>?_));refine' QP;refine .inr ⟨_,rfl,?_⟩;exact ⟨_,by rw [aG Jo,Q4 h1,Qy h2],rfl,(Gc hS.sp hi)⟩) (h:=?_);rintro v1 w1 ⟨t2,cs2,h2,rfl,hrd2,hS⟩;skip;refine' zn;refine' PX;refine LX (c:=ZO (s:=s) Jo hN hls hS fd) (p:=by rintro v9 w9 ⟨rfl,h80,hS⟩;(repeat (first|refine' Qn|refine' Qp|refine fun _=>?_));refine' QP;refine .inr ⟨_,rfl,?_⟩;exact ⟨_,by rw [aG Jo,Q4 h1,Q4 h2,cK h80],rfl,(Gc hS.sp hi)⟩) (h:=?_);rintro v1 w1 ⟨rfl,hne,vl4,cs4,hls4,hS⟩;have hS:=hS.ns;have hJ:P5 cx L j i (Lb m j.f s x) (.tuple #[]) w1:=⟨rfl,cx,⟨s.h,_⟩,vl4,cs4,Gj hS,by rw [aG Jo,Q4 h1,Q4 h2,cJ hne],hls4,(GR hS.sp hi)⟩;refine' zn)
                                  | (refine' KO
                                     (refine' K3;first|(refine' Qd)|(refine' Qi)|(refine' Ac<;>intro hc));all_goals (refine' K5)
                                     all_goals
                                      first
                                      | (refine' KN;refine' Ls;refine' Na;refine Oq (c:=XG (s:=s) hls hS fd) (p:=by rintro v9 w9 ⟨c,h1,rfl,hS⟩;(repeat (first|refine' Qn|refine' Qp|refine fun _=>?_));refine' QP;refine .inr ⟨_,rfl,?_⟩;exact ⟨_,by rw [aH Jo,Qy h1],rfl,(Gc hS.sp hi)⟩) (h:=?_);rintro v1 w1 ⟨t1,cs1,h1,rfl,hrd1,hS⟩;skip;refine' Nb;refine' Na;refine Oq (c:=ZN (s:=s) hls hS fd) (p:=by rintro v9 w9 ⟨c,h2,rfl,hS⟩;(repeat (first|refine' Qn|refine' Qp|refine fun _=>?_));refine' QP;refine .inr ⟨_,rfl,?_⟩;exact ⟨_,by rw [aH Jo,Q4 h1,Qy h2],rfl,(Gc hS.sp hi)⟩) (h:=?_);rintro v1 w1 ⟨t2,cs2,h2,rfl,hrd2,hS⟩;skip;refine' zn;refine' Mj;refine' Na;refine Oq (c:=ZN (s:=s) hls hS fd) (p:=by rintro v9 w9 ⟨c,h3,rfl,hS⟩;(repeat (first|refine' Qn|refine' Qp|refine fun _=>?_));refine' QP;refine .inr ⟨_,rfl,?_⟩;exact ⟨_,by rw [aH Jo,Q4 h1,Q4 h2,Qy h3],rfl,(Gc hS.sp hi)⟩) (h:=?_);rintro v1 w1 ⟨t3,cs3,h3,rfl,hrd3,hS⟩;skip;refine' zn;have hJ:P5 cx L j i (Lb m j.f s x) (.tuple #[]) w1:=⟨rfl,cx,s,vl,css,Gj hS,by rw [aH Jo,Q4 h1,Q4 h2,Q4 h3],hls,(GR hS.sp hi)⟩)
                                      | (refine' KO
                                         (refine' K3;first|(refine' Qd)|(refine' Qi)|(refine' Ac<;>intro hc));all_goals (refine' K5)
                                         all_goals
                                          first
                                          | (refine' KN;refine' Ls;refine' Na;refine Oq (c:=XG (s:=s) hls hS fd) (p:=by rintro v9 w9 ⟨c,h1,rfl,hS⟩;(repeat (first|refine' Qn|refine' Qp|refine fun _=>?_));refine' QP;refine .inr ⟨_,rfl,?_⟩;exact ⟨_,by rw [cH Jo,Qy h1],rfl,(Gc hS.sp hi)⟩) (h:=?_);rintro v1 w1 ⟨t1,cs1,h1,rfl,hrd1,hS⟩;skip;refine' zn;refine' PX;refine LX (c:=ZO (s:=s) Jo hN hls hS fd) (p:=by rintro v9 w9 ⟨rfl,h80,hS⟩;(repeat (first|refine' Qn|refine' Qp|refine fun _=>?_));refine' QP;refine .inr ⟨_,rfl,?_⟩;exact ⟨_,by rw [cH Jo,Q4 h1,cK h80],rfl,(Gc hS.sp hi)⟩) (h:=?_);rintro v1 w1 ⟨rfl,hne,vl4,cs4,hls4,hS⟩;have hS:=hS.ns;have hJ:P5 cx L j i (Lb m j.f s x) (.tuple #[]) w1:=⟨rfl,cx,⟨s.h,_⟩,vl4,cs4,Gj hS,by rw [cH Jo,Q4 h1,cJ hne],hls4,(GR hS.sp hi)⟩;refine' zn)
                                          | (refine' KO
                                             (refine' K3;first|(refine' Qd)|(refine' Qi)|(refine' Ac<;>intro hc));all_goals (refine' K5)
                                             all_goals
                                              first
                                              | (refine' KN;refine' Mj;refine' Na;refine Oq (c:=ZN (s:=s) hls hS fd) (p:=by rintro v9 w9 ⟨c,h1,rfl,hS⟩;(repeat (first|refine' Qn|refine' Qp|refine fun _=>?_));refine' QP;refine .inr ⟨_,rfl,?_⟩;exact ⟨_,by rw [gl Jo,Qy h1],rfl,(Gc hS.sp hi)⟩) (h:=?_);rintro v1 w1 ⟨t1,cs1,h1,rfl,hrd1,hS⟩;skip;refine' zn;have hJ:P5 cx L j i (Lb m j.f s x) (.tuple #[]) w1:=⟨rfl,cx,s,vl,css,Gj hS,by rw [gl Jo,Q4 h1],hls,(GR hS.sp hi)⟩)
                                              | (refine' KO
                                                 refine' K3;refine' Qd;refine' K5
                                                 all_goals
                                                  first
                                                  | (refine' KN;refine' PX;refine LX (c:=ZP hm (xz hF Jo) hn hj hx' hls hS fd) (p:=by rintro v9 w9 ⟨c,g1,rfl,hS⟩;(repeat (first|refine' Qn|refine' Qp|refine fun _=>?_));refine' QP;refine .inr ⟨_,rfl,?_⟩;exact ⟨_,by rw [cI Jo];exact g1,rfl,(Gc hS.sp hi)⟩) (h:=?_);rintro v1 w1 ⟨rfl,c1,s1,vl4,cs4,hle,hr1,hls4,hS⟩;have hS:=hS.ns;have hJ:P5 cx L j i (Lb m j.f s x) (.tuple #[]) w1:=⟨rfl,c1,s1,vl4,cs4,hle,by rw [cI Jo];exact hr1,hls4,(GR hS.sp hi)⟩;refine' zn))))))
                             all_goals (refine' Nm;exact AO))))))
          | (refine' KN;(refine' Ls;refine' cY;refine' Lf (c:=WM hS fd);rintro v1 w1 ⟨rfl,hS⟩;first|(refine' Qd)|(refine' Qi)|(refine' Ac<;>intro hc));(all_goals (refine' RY;refine' Nf;(first|refine' KP|(refine' KQ;refine RT hS rfl fd rfl ?_));(first|refine' KP|(refine' KQ;refine gV hS fd vw hlc ?_));first|refine' KP|(refine' KQ;(first|(refine' Qd)|(refine' Qi)|(refine' Ac<;>intro hc))));all_goals (refine' MK;first|(refine' KU (c:=R2 hS);rintro v1 w1 ⟨rfl,hS⟩)|(refine LX (c:=R3 hS) (p:=by rintro v9 w9 ⟨rfl,hS⟩;(repeat (first|refine' Qn|refine' Qp|refine fun _=>?_));refine' QP;refine .inr ⟨_,rfl,?_⟩;exact ⟨_,by rw [gj Jo,if_pos Jo],rfl,(Gc hS.sp hi)⟩) (h:=fun _ _ h=>h.elim))));refine' zn;refine' NJ;refine' cY;refine' Lf (c:=ZK (h:=s.h) Jo hS fd);rintro v1 w1 ⟨rfl,hS⟩;have hS:=hS.ns;refine Nn [_,_,_] ?_;refine LX (c:=ZO (s:=s) Jo (Rc (k:=2) (r:=s.h.length) (l:=[]) (Gz _ _ _)) hls hS fd) (p:=by rintro v9 w9 ⟨rfl,h80,hS⟩;(repeat (first|refine' Qn|refine' Qp|refine fun _=>?_));refine' QP;refine .inr ⟨_,rfl,?_⟩;(exfalso;omega)) (h:=?_);rintro v1 w1 ⟨rfl,hne,vl4,cs4,hls4,hS⟩;have hS:=hS.ns;have hJ:P5 cx L j i (Lb m j.f s x) (.tuple #[]) w1:=⟨rfl,cx,⟨s.h++[true],_⟩,vl4,cs4,Gj hS,by rw [gj Jo,if_neg Jo],hls4,(GR hS.sp hi)⟩;refine' zn;refine' Nm;exact AO)))
end
section
attribute [local irreducible] K4 Mq MY NG Om LJ
variable {cx:Cx}{w:World}{L:List Res}{j:JP}{h:List Bool}{vl:Value}{css:List (List Value)}{i:Nat}{m:Module}
theorem WR {t:To}(hsf:j.f.Short)(hb:0≤t.block∧t.block<j.f.blocks.length)(hfb:∀b∈j.f.blocks,j.f.regs≤b.regs)(hh:s.h.length≤16)(hj:j.Fits cx m)(hx:toR.at cx cs t)(hls:K0.ls cx css s.l)(hS:St cx w L)(hi:nth L i=some (j.res s.h vl css)):
 Li Tryz.prog Q9N [.pointer (some ⟨j.sp,0,none⟩), .agg ⟨cs⟩] w (fun u w'=>On j.f s t= .ok ()∧u= .tuple #[]∧St cx w' L) (kP cx L (On j.f s t)):=by
 ((have hS:=hS.out hi;obtain ⟨vr,va,rfl,hr,ha⟩:=SX hx;have hlr:=hr.len;have hbl:=hj.b;unfold Li;refine KY KX Tryz.func249 ?_;refine' Lx;intro p3 w1 hS;refine' MM;refine zC [(0,none),(1,none),(2,none),(3,none),(4,none),(5,none),(6,none),(7,none),(8,none),(9,some (some [4,6,8])),(10,some none)] ?_;have hS:=hS.drew;refine' TQ;refine' Rz;refine RT hS rfl fd rfl ?_;refine' Tf;refine' Ll;refine' N9;intro b1 o1 cs1 x1 hat1 hx1 he1;obtain ⟨vp1,vc1,ve11,ve12,ve13,ve14,ve15,rfl,hp1,hc1,he11,he12,he13,he14,he15⟩:=OZ he1;refine' U1;intro p4 w1 hS;refine' zt;refine ⟨FG.2 ⟨(by (exact AE)),FG.2 ⟨DK,FG.2 ⟨EU,fun _ h=>(FQ h).elim⟩⟩⟩,?_⟩;refine' L5;refine K1 hS ?_;intro w1 hS;have hS:=hS.ns;refine' LV;have hbm:=FC hx1;have hf1:=hfb x1 hbm;have hsb:=hsf.2.2.2 x1 hbm;refine' K3;refine' Na;refine' zL;refine' Na;first|(refine' QG)|(refine' QI)|(refine' Ad<;>intro hc));all_goals (first|(refine' KU (c:=R2 hS);rintro v1 w1 ⟨rfl,hS⟩)|(refine LX (c:=R3 hS) (p:=by rintro v9 w9 ⟨rfl,hS⟩;(repeat (first|refine' Qn|refine' Qp|refine fun _=>?_));refine' QP;refine .inr ⟨_,rfl,?_⟩;exact ⟨_,i5 hx1 Jo,rfl,(Gc hS.sp hi)⟩) (h:=fun _ _ h=>h.elim))));refine' zn;refine' NI;refine' UU;refine RT hS rfl fd rfl ?_;refine' Ry;refine Mx hS [0,3,4,27] (fun A LL ρ' w'=>∃(q:Nat),KR ρ' A∧KR ρ' [(28, .int .i64 q)]∧(q≤j.f.regs.toNat)∧(Om t.regs q=true)∧(¬(t.regs.length:Int)≠x1.regs)∧St cx w' (LL)) (fun ρ' _=>(j.f.regs - iv (ρ' 28)).toNat) ?_ ?_
 · exact ⟨0,zh,zh,Jo,by unfold Om;rfl,Jo,hS.sp⟩
 rintro ρ w1 ⟨q,hA,hρ,hq,hk,hne,hS⟩;obtain ⟨ρ,rfl⟩:=KS hA hρ;refine' NV;refine' Ab<;>intro hc
 · skip;(refine' MF;refine' NW;refine' Mm;refine' Na;refine' zm;refine' zi;intro b2 o2 cs2 x2 hat2 hx2 he2;obtain rfl:=QB he2;(first|(refine RT hS rfl fd rfl ?_)|(refine zl hS ?_)|(refine S4 hS ?_));refine' zm;first|(refine' QG)|(refine' QI)|(refine' Ad<;>intro hc));(all_goals (first|(refine' KU (c:=R2 hS);rintro v1 w1 ⟨rfl,hS⟩)|(refine LX (c:=R3 hS) (p:=by rintro v9 w9 ⟨rfl,hS⟩;(repeat (first|refine' Qn|refine' Qp|refine fun _=>?_));refine' QP;refine .inr ⟨_,rfl,?_⟩;exact ⟨_,lU hx1 hne (lT (q:=q) Jo Ek),rfl,(Gc hS.sp hi)⟩) (h:=fun _ _ h=>h.elim))));refine' Sw;(exact CS)
 · skip;refine' L7;have hq':q=j.f.regs.toNat:=DB;rw [hq'] at hk;refine Qo ?_;refine zD (ci 8 [6,7]) ?_;have hS:=hS.drew;refine' zm;refine' cY;refine' Na;refine' KU (c:=ZM (h:=s.h) hh hr hS fd);rintro v1 w1 ⟨rfl,hS⟩;refine' Mz;refine XU rfl rfl ?_;refine' zm;refine LX (c:=WN hS) (p:=by rintro v9 w9 ⟨rfl,hb,hS⟩;(repeat (first|refine' Qn|refine' Qp|refine fun _=>?_));refine' QP;refine .inr ⟨_,rfl,?_⟩;exact ⟨_,UF hx1 hne hk (of_decide_eq_true hb),rfl,(Gc hS.sp hi)⟩) (h:=?_);rintro v1 w1 ⟨rfl,hb,hS⟩;refine' zn;refine' Mj;refine' Na;refine' Na;refine' Na;refine pg (c:=rU (s:=s) hsb.1.2 hls ha hp1 hr hS fd) (p:=by rintro v9 w9 ⟨c,g1,rfl,hS⟩;(repeat (first|refine' Qn|refine' Qp|refine fun _=>?_));refine' QP;refine .inr ⟨_,rfl,?_⟩;exact ⟨_,(UG hx1 hne hk (Gi.1 (of_decide_eq_false hb))).trans g1,rfl,(Gc hS.sp hi)⟩) (h:=?_);rintro v1 w1 ⟨har,rfl,hS⟩;refine' TK;exact .inl ⟨_,rfl,(UG hx1 hne hk (Gi.1 (of_decide_eq_false hb))).trans har,rfl,(Gc hS.sp hi)⟩
theorem eP {e:Tail}(hsf:j.f.Short)(hF:NU j.f.blocks.length e=0)(hfb:∀b∈j.f.blocks,j.f.regs≤b.regs)(hfr:j.f.regs≤100000)(hh:s.h.length≤16)(hj:j.Fits cx m)(hx:LZ.at cx cs e)(hls:K0.ls cx css s.l)(hS:St cx w L)(hi:nth L i=some (j.res s.h vl css)):
 Li Tryz.prog Q8Y [.pointer (some ⟨j.sp,0,none⟩), .agg ⟨cs⟩] w (fun u w'=>MJ j.f s e= .ok ()∧u= .tuple #[]∧St cx w' L) (kP cx L (MJ j.f s e)):=by
 (have hS:=hS.out hi;obtain ⟨v1,v2,v3,v4,v5,rfl,h1,h2,h3,h4,h5⟩:=RM hx;have hop:=gm hF;have hy:e.op≠3→0≤e.yes.block∧e.yes.block<j.f.blocks.length:=fun h=>Yo Fx;have hz:e.op=2→0≤e.no.block∧e.no.block<j.f.blocks.length:=fun h=>Yo ET;have hT1:toR.at cx [.int .i64 e.yes.block,v1,v2] e.yes:=⟨_,_,rfl,h1,h2⟩;have hT2:toR.at cx [.int .i64 e.no.block,v3,v4] e.no:=⟨_,_,rfl,h3,h4⟩;have hjr:=hj.r;unfold Li;refine KY KX Tryz.func210 ?_;refine' Lx;intro p3 w1 hS;refine' U5;refine' Na;refine' S6;refine' K3;first|(refine' Qd)|(refine' Qi)|(refine' Ac<;>intro hc));all_goals (refine' K5)
 all_goals
  first
  | (refine' KN;refine' Mj;refine' PC;refine LX (c:=WR (s:=s) hsf (hy Jo) hfb hh hj hT1 hls hS fd) (p:=by rintro v9 w9 ⟨c,g1,rfl,hS⟩;(repeat (first|refine' Qn|refine' Qp|refine fun _=>?_));refine' QP;refine .inr ⟨_,rfl,?_⟩;exact ⟨_,(lV Jo).trans g1,rfl,(Gc hS.sp hi)⟩) (h:=?_);rintro v6 w1 ⟨g1,rfl,hS⟩;have hJ:=(lV (f:=j.f) (s:=s) (e:=e) Jo).trans g1;refine' zn;refine' Nm;exact Bu)
  | (refine' KO
     (refine' K3;first|(refine' Qd)|(refine' Qi)|(refine' Ac<;>intro hc));all_goals (refine' K5)
     all_goals
      first
      | (refine' KN;refine' Ls;refine' Na;refine Oq (c:=ZN (s:=s) hls hS fd) (p:=by rintro v9 w9 ⟨c,g1,rfl,hS⟩;(repeat (first|refine' Qn|refine' Qp|refine fun _=>?_));refine' QP;refine .inr ⟨_,rfl,?_⟩;exact ⟨_,by rw [aI Jo,Qy g1],rfl,(Gc hS.sp hi)⟩) (h:=?_);rintro v6 w1 ⟨t1,cs1,g1,rfl,hrd1,hS⟩;refine' Nb;refine' PC;refine LX (c:=WR (s:=s) hsf (hy Jo) hfb hh hj hT1 hls hS fd) (p:=by rintro v9 w9 ⟨c,g2,rfl,hS⟩;(repeat (first|refine' Qn|refine' Qp|refine fun _=>?_));refine' QP;refine .inr ⟨_,rfl,?_⟩;exact ⟨_,by rw [aI Jo,Q4 g1,Qy g2],rfl,(Gc hS.sp hi)⟩) (h:=?_);rintro v6 w1 ⟨g2,rfl,hS⟩;refine' zn;refine' Mj;refine' PC;refine LX (c:=WR (s:=s) hsf (hz Jo) hfb hh hj hT2 hls hS fd) (p:=by rintro v9 w9 ⟨c,g3,rfl,hS⟩;(repeat (first|refine' Qn|refine' Qp|refine fun _=>?_));refine' QP;refine .inr ⟨_,rfl,?_⟩;exact ⟨_,by rw [aI Jo,Q4 g1,Q4 g2];exact g3,rfl,(Gc hS.sp hi)⟩) (h:=?_);rintro v6 w1 ⟨g3,rfl,hS⟩;have hJ:MJ j.f s e= .ok ():=(by rw [aI Jo,Q4 g1,Q4 g2];exact g3);refine' zn;refine' Nm;exact Bu)
      | (refine' KO
         refine' K3;refine' Qd;refine' K5
         all_goals
          first
          | (refine' KO;all_goals (refine' KV);all_goals (refine' Nm;exact Bu))
          | (refine' KN
             refine' Ob;refine' UU;refine RT hS rfl fd rfl ?_;refine' Ry;have hS:=Ic (T:=3) (es:=1) hS;refine zo [0,3,34] (fun A ρ' w'=>∃(q:Nat) (vo:Value) (co:List (List Value)),KR ρ' A∧KR ρ' [(35, .int .i64 q),(4,vo)]∧(q≤j.f.regs.toNat)∧(KM.ls cx co (LJ q))∧((LJ q).length=q)∧(e.op=3)∧St cx w' (sl 3 1 vo co::blk p3 90 [.int .i64 e.op, .int .i64 e.a, .int .i64 e.yes.block,v1,v2, .int .i64 e.no.block,v3,v4,v5]::j.res s.h vl css::L.eraseIdx i)) (fun ρ' _=>(j.f.regs - iv (ρ' 35)).toNat) ?_ ?_
             · exact CY
             rintro ρ w1 ⟨q,vo,co,hA,hρ,hq,hlo,hlq,ho3,hS⟩;obtain ⟨ρ,rfl⟩:=KS hA hρ;refine' NV;refine' Ab<;>intro hc
             · skip;refine' MF;refine' NW;refine' NJ;refine LK hS [_] ?_;intro b1 w1 hS;refine za SC Tg hS ?_;intro vp1 w1 css1 hls1 hv1 hS;have hS:=hS.ns;refine' K5;refine' Rl;(exact CO)
             · skip;refine' L7;have hq':q=j.f.regs.toNat:=DB;rw [hq'] at hlo;obtain ⟨c1,hle2,hS,hk1⟩:=GF (r:=KM) hS hlo rfl (by rw [←hq'];omega);have hls':=hls.up hle2;have h5':=h5.up hle2;have hjr':=hjr.up hle2;refine Qo ?_;refine zD (ci 10 [9]) ?_;have hS:=hS.drew;refine' zm;refine' Na;refine' zm;refine' UU;refine RT hS rfl fd rfl ?_;refine' zm;refine pg (c:=rU (s:=s) hsf.2.1.2 hls' h5' hjr' hk1 hS fd) (p:=by rintro v9 w9 ⟨c,g1,rfl,hS⟩;(repeat (first|refine' Qn|refine' Qp|refine fun _=>?_));refine' QP;refine .inr ⟨_,rfl,?_⟩;exact ⟨_,by rw [cM ho3,Qy g1],rfl,GY (Gc hS.sp hi) hle2⟩) (h:=?_);rintro v6 w1 ⟨har,rfl,hS⟩;refine' zn;refine zC [(0,none),(1,none),(2,none),(3,none),(6,none),(7,none),(8,none),(9,none),(10,none),(4,some (some [10])),(5,none),(11,none),(12,some none)] ?_;have hS:=hS.drew;refine' TQ;refine RT hS rfl fd rfl ?_;refine' M9;refine' UX;refine' Rz;refine RT hS rfl fd rfl ?_;refine' My;refine' Lf (c:=ZJ (h:=s.h) hh hS fd);rintro v1 w1 ⟨c2,hle3,hk2,hS⟩;have hS:=GY hS hle3;have hS:=GY hS hle2;have hl2:=hk2.len;refine' zt;refine ⟨FG.2 ⟨(by (exact AE)),fun _ h=>(FQ h).elim⟩,?_⟩;refine' LP;refine' zL;refine' Ll;refine iH rfl rfl ?_;refine' Mb;refine LX (c:=WN hS) (p:=by rintro v9 w9 ⟨rfl,hb,hS⟩;(repeat (first|refine' Qn|refine' Qp|refine fun _=>?_));refine' QP;refine .inr ⟨_,rfl,?_⟩;exact ⟨_,by rw [cM ho3,Q4 har,if_pos (by have:=of_decide_eq_true hb;omega)],rfl,(Gc hS.sp hi)⟩) (h:=?_);rintro v1 w1 ⟨rfl,hb,hS⟩;have hJ:MJ j.f s e= .ok ():=(by rw [cM ho3,Q4 har,if_neg (by have:=of_decide_eq_false hb;omega)]);refine' LV;refine' Nm;exact Bu)))
end
section
attribute [local irreducible] K4 Mq MY NG Om LJ
variable {cx:Cx}{w:World}{L:List Res}{j:JP}{h:List Bool}{vl:Value}{css:List (List Value)}{i:Nat}{m:Module}
theorem QiO {n:Int}(hS:St cx w (blk p 3 [.int .i64 n]::L)):Px Tryz.prog xd [.pointer (some ⟨p,0,none⟩)] .returning w fun u' w'=>u'= .returning∧St cx w' (blk p 3 [.int .i64 n]::L):=by
 unfold Px;refine mc KX Tryz.func237 ?_;refine' Sg;refine' Yv;refine' zn;refine' K5;refine' Yu;refine' Ls;refine tY (ms:=#[]) Jk rfl ?_;refine' Sy;refine' lX;refine' Nm;exact Bo
theorem QiN {n:Int}(hS:St cx w (blk p 3 [.int .i64 n]::L)):Px Tryz.prog xd [.pointer (some ⟨p,0,none⟩)] (.panicking [{v:=SK e,recovered:=false}]) w fun u' w'=>u'= .panicking [{v:=SK e,recovered:=true}]∧St cx w' (blk p 3 [.int .i64 e]::L):=by
 unfold Px;refine mc KX Tryz.func237 ?_;refine' Sg;refine' Yv;refine' zn;refine' K5;refine' Yu;refine' Ls;refine tZ (ms:=#[]) Jk rfl ?_;refine' Sx;refine' Ls;refine tS (D:= .int .i64) Jk Fq rfl ?_;refine' TM;refine' Si;refine' Mj;refine Mi hS ?_;intro w1 hS;have hS:=hS.ns;refine' zn;refine' lX;refine' Nm;exact Bo
theorem xA {f:FuncId}{cap:List Value}{X:Cx→List Res→Prop}{Y:Int→Cx→List Res→Prop}(hf:SP Tryz.prog f=true)
 (hc:∀(p:Nat) (w:World),St cx w (blk p 3 [.int .i64 0]::L)→Li Tryz.prog f cap w (fun _ w'=>∃c' L',cx.Le c'∧St c' w' (blk p 3 [.int .i64 0]::L')∧X c' L') (fun u w'=>∃e c' L',u=SK e∧cx.Le c'∧St c' w' (blk p 3 [.int .i64 0]::L')∧Y e c' L'))(hS:St cx w L):
 KK Tryz.prog Qcb [.func (.func f) #[] ⟨cap⟩] w fun u w'=>∃e c' L',u= .int .i64 e∧cx.Le c'∧St c' w' L'∧(e=0∧X c' L'∨Y e c' L'):=by
 refine um KX Tryz.func205 ?_;refine' je;refine' UP;refine' Mm;refine Qh hS ?_;(intro p2 w1 hS);refine' zn;refine' je;refine' jg;refine' lE;refine' zn;refine ⟨_,_,rfl,?_⟩;refine' zn;refine' UP;refine' Ls;refine Yt rfl hf rfl (hc _ _ hS) (by rintro v9 w9 ⟨e,c1,L1,rfl,hle,hS,hY⟩;(repeat (first|refine' Qn|refine' Qp));refine' pe;refine jh (by intro h;cases h) Jk (QiN hS) ?_;rintro u' w' ⟨rfl,hS⟩;refine' ji;refine Mp vw (tX Jk (hS.blkAt Lr) rfl) ?_;exact ⟨_,rfl,e,c1,L1,rfl,hle,hS.drop, .inr hY⟩) ?_;rintro v1 w1 ⟨c1,L1,hle,hS,hX⟩;refine' U5;refine Mi hS ?_;intro w1 hS;have hS:=hS.ns;refine' Mu;refine' cS;refine jh Eh Jk (QiO hS) ?_;rintro u1 w1 ⟨rfl,hS⟩;refine' ji;refine Mp vw (tX Jk (hS.blkAt fd) rfl) ?_;((exact ⟨_,rfl,0,c1,L1,rfl,hle,hS.drop, .inl ⟨rfl,hX⟩⟩))
theorem ZQ (hm:m.Short)(hF:Qz m.funcs.length x=0)(hn:s.l.length≤80)(hh:s.h.length≤16)(hj:j.Fits cx m)(hx:Lz.at cx cs x)(hls:K0.ls cx css s.l)
 (hS:St cx w (blk p 3 [.int .i64 0]::blk pb 84 cs::blk pa 207 [.pointer (some ⟨j.sp,0,none⟩)]::j.res s.h vl css::L)):
 Li Tryz.prog Q7g [.pointer (some ⟨pa,0,none⟩), .pointer (some ⟨pb,0,none⟩)] w
  (fun _ w'=>∃c' L',cx.Le c'∧St c' w' (blk p 3 [.int .i64 0]::L')∧∃s' vl' css',Lb m j.f s x= .ok s'∧K0.ls c' css' s'.l∧L'=blk pb 84 cs::blk pa 207 [.pointer (some ⟨j.sp,0,none⟩)]::j.res s'.h vl' css'::L)
  (fun u w'=>∃e c' L',u=SK e∧cx.Le c'∧St c' w' (blk p 3 [.int .i64 0]::L')∧Lb m j.f s x= .error e∧c'=cx∧L'=blk pb 84 cs::blk pa 207 [.pointer (some ⟨j.sp,0,none⟩)]::j.res s.h vl css::L):=by
 have hx':=hx;obtain ⟨vr,va,rfl,hr,ha⟩:=QY hx;unfold Li;refine KY KX Tryz.func206 ?_;refine' Mm;refine zl hS ?_;refine zv hS ?_;refine LX (c:=eO hm hF hn hh hj hx' hls hS fd) (p:=by rintro v9 w9 ⟨c,g1,rfl,hS⟩;(repeat (first|refine' Qn|refine' Qp|refine fun _=>?_));refine' QP;refine .inr ⟨_,rfl,?_⟩;exact ⟨c,cx,_,rfl,Gj hS,hS,g1,rfl,rfl⟩) (h:=?_);rintro v1 w1 ⟨rfl,c1,s1,vl4,cs4,hle,hr1,hls4,hS⟩;have hS:=hS.ns;refine' TK;exact .inl ⟨_,rfl,c1,_,hle,hS,s1,vl4,cs4,hr1,hls4,rfl⟩
theorem eQ (hm:m.Short)(hn:s.l.length≤80)(hh:s.h.length≤16)(hj:j.Fits cx m)(hx:Lz.at cx cs x)(hls:K0.ls cx css s.l)(hS:St cx w L)(hi:nth L i=some (j.res s.h vl css)):
 KK Tryz.prog Q8Z [.pointer (some ⟨j.sp,0,none⟩), .agg ⟨cs⟩] w fun u w'=>u= .int .i64 (Lj m j.f s x).1∧∃c' vl' css',cx.Le c'∧K0.ls c' css' (Lj m j.f s x).2.l∧St c' w' (L.set i (j.res (Lj m j.f s x).2.h vl' css')):=by
 (have hS:=hS.out hi;have hx':=hx;obtain ⟨vr,va,rfl,hr,ha⟩:=QY hx;unfold Lj;refine KY KX Tryz.func148 ?_;refine' Lx;intro p2 w1 hS;refine zb hS ?_;intro p3 w1 hS;refine' S8;refine zD (ci 7 [5,6]) ?_;have hS:=hS.drew;refine' jo;refine' Ma;refine mP hS rfl fd rfl rfl ?_;(first|(refine mP hS rfl fd rfl rfl ?_)|(refine zv hS ?_));refine' KU (c:=dP (m:=m) ⟨_,rfl,hj.m⟩ hx' hS);rintro v1 w1 ⟨rfl,hS⟩;refine' Mz;first|(refine' QG)|(refine' QI)|(refine' Ad<;>intro hc));all_goals (refine' zn)
 all_goals
  first
  | (refine' KN;refine' RV;(exact CL))
  | (refine' KO;refine' KV)
 refine' K3;refine' lE;refine' Lf (c:=xA Jk (fun p w hS=>ZQ (s:=s) hm Jo hn hh hj hx' hls hS) hS.sp);rintro v1 w1 ⟨e,c1,L1,rfl,hle,hS,⟨rfl,s1,vl4,cs4,hr1,hls4,rfl⟩|⟨hr1,rfl,rfl⟩⟩;all_goals (refine' Ly;(first|(exact CL)|(exact ⟨_,rfl,by rw [if_neg Jo,hr1],c1,vl4,cs4,hle,by rw [if_neg Jo,hr1];exact hls4,by rw [if_neg Jo,hr1];exact (GR hS.sp hi)⟩)|(exact ⟨_,rfl,by rw [if_neg Jo,hr1],_,vl,css,Gj hS,by rw [if_neg Jo,hr1];exact hls,by rw [if_neg Jo,hr1];exact (GR hS.sp hi)⟩)))
theorem ZR {x:Tail}(hsf:j.f.Short)(hF:NU j.f.blocks.length x=0)(hfb:∀b∈j.f.blocks,j.f.regs≤b.regs)(hfr:j.f.regs≤100000)(hh:s.h.length≤16)(hj:j.Fits cx m)(hx:LZ.at cx cs x)(hls:K0.ls cx css s.l)
 (hS:St cx w (blk p 3 [.int .i64 0]::blk pb 90 cs::blk pa 207 [.pointer (some ⟨j.sp,0,none⟩)]::j.res s.h vl css::L)):
 Li Tryz.prog Q7h [.pointer (some ⟨pa,0,none⟩), .pointer (some ⟨pb,0,none⟩)] w
  (fun _ w'=>∃c' L',cx.Le c'∧St c' w' (blk p 3 [.int .i64 0]::L')∧MJ j.f s x= .ok ()∧c'=cx∧L'=blk pb 90 cs::blk pa 207 [.pointer (some ⟨j.sp,0,none⟩)]::j.res s.h vl css::L)
  (fun u w'=>∃e c' L',u=SK e∧cx.Le c'∧St c' w' (blk p 3 [.int .i64 0]::L')∧MJ j.f s x= .error e∧c'=cx∧L'=blk pb 90 cs::blk pa 207 [.pointer (some ⟨j.sp,0,none⟩)]::j.res s.h vl css::L):=by
 have hx':=hx;obtain ⟨u1,u2,u3,u4,u5,rfl,h1,h2,h3,h4,h5⟩:=RM hx;unfold Li;refine KY KX Tryz.func209 ?_;refine' Mm;refine zl hS ?_;refine zv hS ?_;refine LX (c:=eP hsf hF hfb hfr hh hj hx' hls hS fd) (p:=by rintro v9 w9 ⟨c,g1,rfl,hS⟩;(repeat (first|refine' Qn|refine' Qp|refine fun _=>?_));refine' QP;refine .inr ⟨_,rfl,?_⟩;exact ⟨c,cx,_,rfl,Gj hS,hS,g1,rfl,rfl⟩) (h:=?_);rintro v1 w1 ⟨hr1,rfl,hS⟩;refine' TK;exact .inl ⟨_,rfl,cx,_,Gj hS,hS,hr1,rfl,rfl⟩
theorem eR {x:Tail}(hsf:j.f.Short)(hfb:∀b∈j.f.blocks,j.f.regs≤b.regs)(hfr:j.f.regs≤100000)(hh:s.h.length≤16)(hj:j.Fits cx m)(hx:LZ.at cx cs x)(hls:K0.ls cx css s.l)(hS:St cx w L)(hi:nth L i=some (j.res s.h vl css)):
 KK Tryz.prog Q90 [.pointer (some ⟨j.sp,0,none⟩), .agg ⟨cs⟩] w fun u w'=>u= .int .i64 (MD j.f s x)∧St cx w' L:=by
 (have hS:=hS.out hi;have hx':=hx;obtain ⟨u1,u2,u3,u4,u5,rfl,h1,h2,h3,h4,h5⟩:=RM hx;unfold MD;refine KY KX Tryz.func149 ?_;refine' Lx;intro p2 w1 hS;refine zb hS ?_;intro p3 w1 hS;refine' S8;refine zD (ci 7 [5,6]) ?_;have hS:=hS.drew;refine' jo;refine' Ma;refine mP hS rfl fd rfl rfl ?_;(first|(refine mP hS rfl fd rfl rfl ?_)|(refine zv hS ?_));refine' KU (c:=dQ (x:=j.f) ⟨_,_,_,rfl,hj.p,hj.r,hj.b⟩ hx' hS);rintro v1 w1 ⟨rfl,hS⟩;refine' Mz;first|(refine' QG)|(refine' QI)|(refine' Ad<;>intro hc));all_goals (refine' zn)
 all_goals
  first
  | (refine' KN;refine' RV;(exact Cv))
  | (refine' KO;refine' KV)
 refine' K3;refine' lE;refine' Lf (c:=xA Jk (fun p w hS=>ZR (s:=s) hsf Jo hfb hfr hh hj hx' hls hS) hS.sp);rintro v1 w1 ⟨e,c1,L1,rfl,hle,hS,⟨rfl,hr1,rfl,rfl⟩|⟨hr1,rfl,rfl⟩⟩;all_goals (refine' Ly;(first|(exact Cv)|(exact ⟨_,rfl,by rw [if_neg Jo,hr1],(Gc hS.sp hi)⟩)))
end
section
attribute [local irreducible] K4 Mq MY NG Om LJ Module.fault
variable {cx:Cx}{w:World}{L:List Res}{j:JP}{h:List Bool}{vl:Value}{css:List (List Value)}{i:Nat}{m:Module}
theorem WS {l:List Ty}(hl:K0.sl cx v l)(hb:l.length≤1000000)(hS:St cx w L):KK Tryz.prog Q38 [v] w fun u w'=>oneC u=true∧∃css,K0.ls cx css l∧St cx w' (sl 115 3 u css::L):=by
 obtain ⟨a,c,hv⟩:=FK hl
 cases a with
 | none=>
   have hl0:=I3 hl hv;subst hl0;subst hv;refine KY KX Tryz.func203 ?_;refine' Ob;refine fZ (e:=115) Jk rfl rfl ?_;refine' zn
   all_goals
    first
    | (refine' KN;refine' Lh;(exact ⟨_,rfl,rfl,[],GU _ _ _,hS.nil⟩))
   all_goals (refine' K3; fail "no law for buildSlice"; refine' zm; refine za Ro RE hS ?_; intro vp1 w1 css1 hls1 hv1 hS; have hS := hS.ns; refine' Ly; exact ⟨_, rfl, rfl, [], GU _ _ _, hS.nil⟩)
 | some a=>
   have hn:K0.ls cx [] []:=GU _ _ _;refine KY KX Tryz.func203 ?_;refine' Ob;refine fZ (e:=115) Jk hv rfl ?_;refine' Sy;refine' K3;refine nY Ro ?_;intro v1 w1 hf1 hs1 hz1;have hS:=hS.new (r:=sl 115 3 v1 []) hs1 hf1 (fun b hb=>Je hb.symm);refine' zm;(first|(refine za Ro RE hS ?_;intro vp1 w1 css1 hls1 hv1 hS;have hS:=hS.ns)|(refine jl Ro RE hS ?_;intro vp1 w1 css1 hls1 hv1 hS;have hS:=hS.ns));refine' Ly;(exact ⟨_,rfl,by assumption,_,hls1,hS.sp⟩)
theorem JP.shut (hS:St cx w (blk j.sp 258 (j.cells vl)::blk j.hp 296 [v]::sl 4 1 v (h.map QH)::sl 115 3 vl css::L)):St cx w (j.res h vl css::L):=by
 have h1:St cx w (ZI j.hp h::sl 115 3 vl css::blk j.sp 258 (j.cells vl)::L):=eJ (hS.perm (by
  refine List.Perm.trans (List.Perm.swap _ _ _) (List.Perm.cons _ ?_);refine List.Perm.trans (List.Perm.swap _ _ _) (List.Perm.cons _ ?_);exact List.Perm.swap _ _ _))
 exact H9 (St.mv1 (H9 h1))
theorem eS {b:Int}(hm:m.Short)(hx:LS.at cx cs m)(hS:St cx w L):
 KK Tryz.prog xb [.agg ⟨cs⟩, .int .i64 f, .int .i64 b] w fun u w'=>
  (m.fault.1≠0∧u= .tuple #[.pointer none,Lg m.fault]∧St cx w' L)∨
  (m.fault.1=0∧((f<0∨m.funcs.length≤f)∨∃fn,m.funcs[f.toNat]?=some fn∧(b<0∨fn.blocks.length≤b))∧u= .tuple #[.pointer none,Lg (1, -1)]∧St cx w' L)∨
  (∃(fn:Fun) (y:Block) (j:JP) (c':Cx) (vl:Value) (css:List (List Value)),m.fault.1=0∧0≤f∧0≤b∧m.funcs[f.toNat]?=some fn∧fn.blocks[b.toNat]?=some y∧u= .tuple #[.pointer (some ⟨j.sp,0,none⟩),Lg (0,0)]∧cx.Le c'∧j.Fits c' m∧j.f=fn∧K0.ls c' css y.params∧St c' w' (j.res (Nd y).h vl css::L)):=by
 (obtain ⟨vf,rfl,hf⟩:=OE hx;obtain ⟨a0,n0,rfl⟩:=FK hf;have hlf:=hf.len;refine KY KX Tryz.func147 ?_;refine' Lx;intro p3 w1 hS;refine' zm;refine Qh hS ?_;intro p7 w1 hS;refine' MM;refine' Nw;refine' Lf (c:=vN hm hx hS);rintro v1 w1 ⟨rfl,hS⟩;unfold Lg;refine Qh hS ?_;intro p8 w1 hS;refine K1 hS ?_;intro w1 hS;have hS:=hS.ns;refine' P0;first|(refine' QG)|(refine' QI)|(refine' Ad<;>intro hc));all_goals (refine' zn)
 all_goals
  first
  | (refine' KN;refine Qo ?_;refine zD (ci 3 [2]) ?_;have hS:=hS.drew;refine zv hS ?_;refine' zm;((refine K1 hS ?_;intro w1 hS;have hS:=hS.ns));refine' Mu;refine T7 vw vw (Q2 (n:=2) Jk Jk (hS.blkAt fd) Jr Jr) ?_;(exact Bf))
  | (refine' KO;refine' KV)
 refine Rx hS [1,2,3,7] (fun A LL ρ' w'=>KR ρ' A∧KR ρ' []∧(m.fault.1=0)∧(0≤f∧f<m.funcs.length∧∃fn,m.funcs[f.toNat]?=some fn∧0≤b∧b<fn.blocks.length)∧St cx w' (LL)) ?_ ?_
 · skip
   ((((refine' Ls;first|(refine' LG)|(refine' LM)|(refine' Ae<;>intro hc));all_goals (refine' Mr;refine' Nv;refine' Ng;first|refine' KP|(refine' KQ;(first|(refine' MV)|(refine' Nu)|(refine' Ag<;>intro hc)))));all_goals (refine' PE;first|refine' KP|(refine' KQ;(first|(refine' LG)|(refine' LM)|(refine' Ae<;>intro hc)))));all_goals (refine' PE;refine' Nv;refine' MT;(first|refine' KP|(refine' KQ;refine' N9;intro b1 o1 cs1 x1 hat1 hx1 he1;obtain ⟨vp1,vr1,vb1,rfl,hp1,hr1,hb1⟩:=QC he1));refine' NC;refine' l3;refine' Ng;first|refine' KP|(refine' KQ;(first|(refine' MV)|(refine' Nu)|(refine' Ag<;>intro hc)))));all_goals (refine' LH;skip)
   all_goals
    first
    | (refine' KO;refine' KV)
    | (refine' KN;all_goals (refine' K3;refine Nn [_,_] ?_;refine' zm;refine K1 hS ?_;intro w1 hS;have hS:=hS.ns;refine' Mu;refine T7 vw vw (Q2 (n:=2) Jk Jk (hS.blkAt fd) Jr Jr) ?_);all_goals (first|(exact Bf)|(exact Db)|(exact Ct)|(exact ⟨_,rfl, .inr (.inl ⟨Jo, .inr ⟨_,FB (i:=f.toNat) Jo, .inl Jo⟩,rfl,hS.sp⟩)⟩)|(exact Dw)))
   ((exact ⟨zh,zh,Jo,by refine ⟨Jo,Jo,x1,hx1,Jo,Jo⟩,hS.sp⟩))
 rintro ρ w1 ⟨hA,hρ,hz,hb,hS⟩;obtain ⟨ρ,rfl⟩:=KS hA hρ;refine' Nw;refine' Lf (c:=wV hm hx hS);rintro v1 w1 ⟨c1,ds,rfl,hle,hm2,hS⟩;obtain ⟨vm,rfl,hf2⟩:=OE hm2;obtain ⟨hb1,hb2,fn,hfn,hb3,hb4⟩:=hb;refine PW [_,_,_,_,_,_,_] ?_;refine zb hS ?_;intro p45 w1 hS;refine' K5;skip;refine' Lu;refine' Sn;refine' zm;refine' N9;intro b2 o2 cs2 x2 hat2 hx2 he2;obtain ⟨vp2,vr2,vb2,rfl,hp2,hr2,hb2⟩:=QC he2;refine' N7;refine' Ma;(first|(refine K1 hS ?_;intro w1 hS;have hS:=hS.ns)|(refine gv hS ?_;intro w1 hS;have hS:=hS.ns));refine' zn;obtain rfl:fn=x2:=FY (hfn.symm.trans hx2);have hsf:=hm.2 fn (FC hfn);refine' Ls;refine' Sn;refine' zm;refine' N9;intro b3 o3 cs3 x3 hat3 hx3 he3;obtain ⟨vp3,vc3,ve31,ve32,ve33,ve34,ve35,rfl,hp3,hc3,he31,he32,he33,he34,he35⟩:=OZ he3;refine' NO;intro p10 w1 hS;refine K1 hS ?_;intro w1 hS;have hS:=hS.ns;refine' Nb;refine' Lw;refine' Lf (c:=kN hS);rintro v1 w1 ⟨hp,vh,rfl,hS⟩;refine' Ma;refine Mi hS ?_;intro w1 hS;have hS:=hS.ns;refine' Nb;refine' Lw;refine' Lf (c:=WS hp3 (by have:=(hsf.2.2.2 x3 (FC hx3)).1.1;omega) hS);rintro v1 w1 ⟨hvl,css4,hls4,hS⟩;refine' Ma;refine Mi hS ?_;intro w1 hS;have hS:=hS.ns;refine' Nb;refine M5 [_,_] ?_;refine' zm;refine K1 hS ?_;intro w1 hS;have hS:=hS.ns;refine' Mu;refine T7 vw vw (Q2 (n:=2) Jk Jk (hS.blkAt fd) Jr Jr) ?_;(first|(exact Bf)|(exact Db)|(exact Ct)|(exact ⟨_,rfl, .inr (.inl ⟨Jo, .inr ⟨_,FB (i:=f.toNat) Jo, .inl Jo⟩,rfl,hS.sp⟩)⟩)|(exact Dw)|(exact ⟨_,rfl, .inr (.inr ⟨fn,x3,⟨p45,hp,fn,vm,vp2,vr2,vb2⟩,c1,_,css4,hz,Jo,Jo,hfn,hx3,rfl,hle,⟨hf2,hp2,hr2,hb2⟩,rfl,hls4,JP.shut (v:=vh) hS.sp⟩)⟩))
end
section
theorem xB {x:Block}(hx:Lp.at cx cs x)(hy:Lp.at cx ds y)(hS:St cx w L):KK Tryz.prog QdW [.agg ⟨cs⟩, .agg ⟨ds⟩] w fun u w'=>u= .bool (decide (x=y))∧St cx w' L:=by
 obtain ⟨vp,vc,v1,v2,v3,v4,v5,rfl,hp,hc0,h1,h2,h3,h4,h5⟩:=OZ hx;obtain ⟨up,uc,u1,u2,u3,u4,u5,rfl,gp,gc,g1,g2,g3,g4,g5⟩:=OZ hy;have hlen:=hc0.len;obtain ⟨xr,xp,xc,⟨xo,xa,xy,xn,xg⟩⟩:=x;obtain ⟨yr,yp,yc,⟨yo,ya,yy,yn,yg⟩⟩:=y;simp only [Block.mk.injEq,Tail.mk.injEq] at*;refine KY KX Tryz.func77 ?_;refine' Lx;intro p2 w1 hS;refine zb hS ?_;intro p3 w1 hS;refine' K5;refine Rx hS [2,3] (fun A LL ρ' w'=>KR ρ' A∧KR ρ' []∧(xr=yr)∧(xp=yp)∧(xc.length=yc.length)∧St cx w' (LL)) ?_ ?_
 · skip
   (((refine' Ot;refine' Lw;first|(refine' QG)|(refine' QI)|(refine' Ad<;>intro hc));all_goals (refine' Sj;(first|(refine' KP)|(refine' KQ;refine' KU (c:=gH hp gp hS);rintro v1 w1 ⟨rfl,hS⟩;(cases hdec:decide (xp=yp));have hg:=of_decide_eq_false hdec;rotate_left;have hg:=of_decide_eq_true hdec;all_goals skip))));all_goals (refine' OG;refine' MK;refine' Rn;refine' Nv;refine' Ng;first|refine' KP|(refine' KQ;(first|(refine' QG)|(refine' QI)|(refine' Ad<;>intro hc)))));all_goals (refine' LH)
   all_goals
    first
    | (refine' KN;all_goals (refine' Lh);all_goals (refine ⟨_,rfl,?_,hS.sp⟩;(rw [decide_eq_false];rintro ⟨e1,e2,e3,_⟩;have:=congrArg List.length e3;first|omega|(simp_all;done));done))
    | (refine' KO;refine' KV)
   ((exact ⟨zh,zh,Jo,by assumption,Jo,hS.sp⟩))
 rintro ρ w1 ⟨hA,hρ,hr,hpp,hll,hS⟩;obtain ⟨ρ,rfl⟩:=KS hA hρ;refine' M8;refine Mx hS [2,3] (fun A LL ρ' w'=>∃(j:Nat),KR ρ' A∧KR ρ' [(5, .int .i64 j)]∧(j≤xc.length)∧(xc=yc↔xc.drop j=yc.drop j)∧St cx w' (LL)) (fun ρ' _=>(xc.length - iv (ρ' 5)).toNat) ?_ ?_
 · exact AH
 rintro ρ w1 ⟨j,hA,hρ,hj,hd,hS⟩;obtain ⟨ρ,rfl⟩:=KS hA hρ;refine' O4;refine' Ab<;>intro hc
 · skip
   (refine' Rm;refine zD (ci 12 [10,11]) ?_;have hS:=hS.drew;refine' Lw;refine' PA;intro b1 o1 cs1 x1 hat1 hx1 he1;obtain ⟨vr1,va1,rfl,hr1,ha1⟩:=QY he1;refine' N7;refine' Lw;refine' PA;intro b2 o2 cs2 x2 hat2 hx2 he2;obtain ⟨vr2,va2,rfl,hr2,ha2⟩:=QY he2;refine' N7;refine' KU (c:=Qfp he1 he2 hS);rintro v1 w1 ⟨rfl,hS⟩;(cases hdec:decide (x1=x2));have hg:=of_decide_eq_false hdec;rotate_left;have hg:=of_decide_eq_true hdec;all_goals skip);all_goals (refine' Oy)
   all_goals
    first
    | (refine' KN;refine' Lh;((refine ⟨_,rfl,?_,hS.sp⟩;(rw [decide_eq_false];rintro ⟨e1,e2,e3,_⟩;have:=congrArg List.length e3;first|omega|(simp_all;done));done)))
    | (refine' KO;refine' KV)
   refine' Mk;(exact ⟨⟨j+1,zh,zh,Jo,by rw [hd,Q1 hx1,Q1 hx2,hg];simp,hS.sp⟩,Qc Jo⟩)
 · skip;(refine' L7;refine' Su;refine' M6;refine zl hS ?_;refine' MR;refine' M6;refine zl hS ?_;first|(refine' Qd)|(refine' Qi)|(refine' Ac<;>intro hc));all_goals (refine' zm;refine' Tb;refine' Tb;first|refine' KP|(refine' KQ;(first|(refine' Qd)|(refine' Qi)|(refine' Ac<;>intro hc))));all_goals (refine' Xy;refine' Sh;refine' ma;refine' Sh;(first|(refine' KP)|(refine' KQ;refine' KU (c:=vj (x:=xy) (y:=yy) ⟨_,_,rfl,h1,h2⟩ ⟨_,_,rfl,g1,g2⟩ hS);rintro v1 w1 ⟨rfl,hS⟩;(cases hdec:decide (xy=yy));have hg:=of_decide_eq_false hdec;rotate_left;have hg:=of_decide_eq_true hdec;all_goals skip)));all_goals (refine' Xy;refine' Sh;refine' ma;refine' Sh;(first|(refine' KP)|(refine' KQ;refine' KU (c:=vj (x:=xn) (y:=yn) ⟨_,_,rfl,h3,h4⟩ ⟨_,_,rfl,g3,g4⟩ hS);rintro v1 w1 ⟨rfl,hS⟩;(cases hdec:decide (xn=yn));have hg:=of_decide_eq_false hdec;rotate_left;have hg:=of_decide_eq_true hdec;all_goals skip)));all_goals (refine' Xu;refine' Tb;refine' Tb;(first|(refine' KP)|(refine' KQ;refine' KU (c:=jG h5 g5 hS);rintro v1 w1 ⟨rfl,hS⟩));refine' Xx;(first|(refine ⟨_,rfl,?_,hS.sp⟩;(rw [decide_eq_false];rintro ⟨e1,e2,e3,_⟩;have:=congrArg List.length e3;first|omega|(simp_all;done));done)|(refine ⟨_,rfl,?_,hS.sp⟩;rw [decide_eq_false];rintro ⟨e1,e2,e3,_⟩;rw [hd,Q1 hx1,Q1 hx2,Gu] at e3;exact hg e3.1;done)|(refine ⟨_,rfl,?_,hS.sp⟩;have hcc:xc=yc:=(by rw [hd,FJ Jo,FJ Jo]);simp [*];done)))
theorem xC {x y:Module}(hx:LS.at cx cs x)(hy:LS.at cx ds y)(hS:St cx w L):KK Tryz.prog QcN [.agg ⟨cs⟩, .agg ⟨ds⟩] w fun u w'=>u= .bool (decide (x=y))∧St cx w' L:=by
 (obtain ⟨vf,rfl,hl⟩:=OE hx;obtain ⟨uf,rfl,hm⟩:=OE hy;obtain ⟨l⟩:=x;obtain ⟨m⟩:=y;have hlen:=hl.len;simp only [Module.mk.injEq] at*;refine KY KX Tryz.func30 ?_;refine' Lx;intro p2 w1 hS;refine zb hS ?_;intro p3 w1 hS;refine' Sq;refine' zL;refine' Lw;refine' zL;first|(refine' QG)|(refine' QI)|(refine' Ad<;>intro hc));all_goals (refine' zn)
 all_goals
  first
  | (refine' KN;refine' Lh;((refine ⟨_,rfl,?_,hS.sp⟩;(rw [decide_eq_false];exact AK);done)))
  | (refine' KO;refine' KV)
 refine' M8;refine Mx hS [2,3] (fun A LL ρ' w'=>∃(j:Nat),KR ρ' A∧KR ρ' [(5, .int .i64 j)]∧(j≤l.length)∧(l.length=m.length)∧(l=m↔l.drop j=m.drop j)∧St cx w' (LL)) (fun ρ' _=>(l.length - iv (ρ' 5)).toNat) ?_ ?_
 · exact AY
 rintro ρ w1 ⟨j,hA,hρ,hj,hlm,hd,hS⟩;obtain ⟨ρ,rfl⟩:=KS hA hρ;refine' O4;refine' Ab<;>intro hc
 · skip
   refine' Rm;refine Ru 10 11 Jk ?_ ?_
   · skip
     ((((refine zC [(0,none),(1,none),(2,none),(3,none),(4,none),(5,none),(6,none),(7,none),(8,none),(9,none),(10,some (some [1,4,6,9])),(11,some (some [1,4,6,9])),(12,some (some [6,9])),(13,some none)] ?_;have hS:=hS.drew;refine' UW;refine' M9;refine' zi;intro b1 o1 cs1 x1 hat1 hx1 he1;obtain ⟨vp1,vr1,vb1,rfl,hp1,hr1,hb1⟩:=QC he1;refine' gB;refine' Nh;refine' M9;refine' zi;intro b2 o2 cs2 x2 hat2 hx2 he2;obtain ⟨vp2,vr2,vb2,rfl,hp2,hr2,hb2⟩:=QC he2;refine' U1;intro p6 w1 hS;refine' MG;refine Qh hS ?_;intro p7 w1 hS;refine' MG;refine K1 hS ?_;intro w1 hS;have hS:=hS.ns;refine' Nj;refine K1 hS ?_;intro w1 hS;have hS:=hS.ns;refine' LV;refine' NP;refine' Lw;first|(refine' QG)|(refine' QI)|(refine' Ad<;>intro hc));all_goals (refine' Sj;(first|(refine' KP)|(refine' KQ;refine' KU (c:=gH (l:=x1.params) (m:=x2.params) hp1 hp2 hS);rintro v1 w1 ⟨rfl,hS⟩;(cases hdec:decide (x1.params=x2.params));have hg:=of_decide_eq_false hdec;rotate_left;have hg:=of_decide_eq_true hdec;all_goals skip))));all_goals (refine' OG;refine' Te;(first|(refine' KP)|(refine' KQ;refine' KU (c:=gH (l:=x1.results) (m:=x2.results) hr1 hr2 hS);rintro v1 w1 ⟨rfl,hS⟩;(cases hdec:decide (x1.results=x2.results));have hg:=of_decide_eq_false hdec;rotate_left;have hg:=of_decide_eq_true hdec;all_goals skip))));all_goals (refine' OG;refine' MK;refine' Rn;refine' Nv;refine' Ng;first|refine' KP|(refine' KQ;(first|(refine' QG)|(refine' QI)|(refine' Ad<;>intro hc)))));all_goals (refine' LH)
     all_goals
      first
      | (refine' KN;all_goals (refine' Lh);all_goals (exact Ax))
      | (refine' KO;refine' KV)
     refine Qo ?_;have hlb:=hb1.len;refine' YE;refine Mx hS [2,3,5,6,7] (fun A LL ρ' w'=>∃(i:Nat),KR ρ' A∧KR ρ' [(8, .int .i64 i)]∧(i≤x1.blocks.length)∧(x1.blocks.length=x2.blocks.length)∧(x1.regs=x2.regs)∧(x1.params=x2.params)∧(x1.results=x2.results)∧(x1.blocks=x2.blocks↔x1.blocks.drop i=x2.blocks.drop i)∧St cx w' (LL)) (fun ρ' _=>(x1.blocks.length - iv (ρ' 8)).toNat) ?_ ?_
     · exact Cr
     rintro ρ w1 ⟨i,hA,hρ,hi,hlb2,hre,hpe,hrr,hd2,hS⟩;obtain ⟨ρ,rfl⟩:=KS hA hρ;refine' O4;refine' Ab<;>intro hc
     · skip
       (refine' Rm;refine zD (ci 12 [10,11]) ?_;have hS:=hS.drew;refine' Lw;refine' PA;intro b3 o3 cs3 x3 hat3 hx3 he3;obtain ⟨vp3,vc3,ve31,ve32,ve33,ve34,ve35,rfl,hp3,hc3,he31,he32,he33,he34,he35⟩:=OZ he3;refine' N7;refine' Lw;refine' PA;intro b4 o4 cs4 x4 hat4 hx4 he4;obtain ⟨vp4,vc4,ve41,ve42,ve43,ve44,ve45,rfl,hp4,hc4,he41,he42,he43,he44,he45⟩:=OZ he4;refine' N7;refine' KU (c:=xB he3 he4 hS);rintro v1 w1 ⟨rfl,hS⟩;(cases hdec:decide (x3=x4));have hg:=of_decide_eq_false hdec;rotate_left;have hg:=of_decide_eq_true hdec;all_goals skip);all_goals (refine' Oy)
       all_goals
        first
        | (refine' KN;refine' Lh;first|(refine ⟨_,rfl,?_,hS.sp⟩;rw [decide_eq_false];exact AK;done)|(refine ⟨_,rfl,?_,hS.sp⟩;(rw [decide_eq_false];rw [hd,Q1 hx1,Q1 hx2,Gu];rintro ⟨rfl,_⟩;first|(simp_all;done)|(simp at*;omega));done))
        | (refine' KO;refine' KV)
       refine' Mk;(exact B8)
     · skip;refine' L7;refine' Mk;(exact Dc)
   · skip
     ((((refine zC [(0,none),(1,none),(2,none),(3,none),(4,none),(5,none),(6,none),(7,none),(8,none),(9,none),(11,some (some [1,4,6,9])),(10,some (some [1,4,6,9])),(12,some (some [6,9])),(13,some none)] ?_;have hS:=hS.drew;refine' UW;refine' M9;refine' zi;intro b1 o1 cs1 x1 hat1 hx1 he1;obtain ⟨vp1,vr1,vb1,rfl,hp1,hr1,hb1⟩:=QC he1;refine' gB;refine' Nh;refine' M9;refine' zi;intro b2 o2 cs2 x2 hat2 hx2 he2;obtain ⟨vp2,vr2,vb2,rfl,hp2,hr2,hb2⟩:=QC he2;refine' U1;intro p7 w1 hS;refine' MG;refine Qh hS ?_;intro p6 w1 hS;refine' MG;refine K1 hS ?_;intro w1 hS;have hS:=hS.ns;refine' Nj;refine K1 hS ?_;intro w1 hS;have hS:=hS.ns;refine' LV;refine' NP;refine' Lw;first|(refine' QG)|(refine' QI)|(refine' Ad<;>intro hc));all_goals (refine' Sj;(first|(refine' KP)|(refine' KQ;refine' KU (c:=gH (l:=x1.params) (m:=x2.params) hp1 hp2 hS);rintro v1 w1 ⟨rfl,hS⟩;(cases hdec:decide (x1.params=x2.params));have hg:=of_decide_eq_false hdec;rotate_left;have hg:=of_decide_eq_true hdec;all_goals skip))));all_goals (refine' OG;refine' Te;(first|(refine' KP)|(refine' KQ;refine' KU (c:=gH (l:=x1.results) (m:=x2.results) hr1 hr2 hS);rintro v1 w1 ⟨rfl,hS⟩;(cases hdec:decide (x1.results=x2.results));have hg:=of_decide_eq_false hdec;rotate_left;have hg:=of_decide_eq_true hdec;all_goals skip))));all_goals (refine' OG;refine' MK;refine' Rn;refine' Nv;refine' Ng;first|refine' KP|(refine' KQ;(first|(refine' QG)|(refine' QI)|(refine' Ad<;>intro hc)))));all_goals (refine' LH)
     all_goals
      first
      | (refine' KN;all_goals (refine' Lh);all_goals (exact Ax))
      | (refine' KO;refine' KV)
     refine Qo ?_;have hlb:=hb1.len;refine' YE;refine Mx hS [2,3,5,6,7] (fun A LL ρ' w'=>∃(i:Nat),KR ρ' A∧KR ρ' [(8, .int .i64 i)]∧(i≤x1.blocks.length)∧(x1.blocks.length=x2.blocks.length)∧(x1.regs=x2.regs)∧(x1.params=x2.params)∧(x1.results=x2.results)∧(x1.blocks=x2.blocks↔x1.blocks.drop i=x2.blocks.drop i)∧St cx w' (LL)) (fun ρ' _=>(x1.blocks.length - iv (ρ' 8)).toNat) ?_ ?_
     · exact Cr
     rintro ρ w1 ⟨i,hA,hρ,hi,hlb2,hre,hpe,hrr,hd2,hS⟩;obtain ⟨ρ,rfl⟩:=KS hA hρ;refine' O4;refine' Ab<;>intro hc
     · skip
       (refine' Rm;refine zD (ci 12 [10,11]) ?_;have hS:=hS.drew;refine' Lw;refine' PA;intro b3 o3 cs3 x3 hat3 hx3 he3;obtain ⟨vp3,vc3,ve31,ve32,ve33,ve34,ve35,rfl,hp3,hc3,he31,he32,he33,he34,he35⟩:=OZ he3;refine' N7;refine' Lw;refine' PA;intro b4 o4 cs4 x4 hat4 hx4 he4;obtain ⟨vp4,vc4,ve41,ve42,ve43,ve44,ve45,rfl,hp4,hc4,he41,he42,he43,he44,he45⟩:=OZ he4;refine' N7;refine' KU (c:=xB he3 he4 hS);rintro v1 w1 ⟨rfl,hS⟩;(cases hdec:decide (x3=x4));have hg:=of_decide_eq_false hdec;rotate_left;have hg:=of_decide_eq_true hdec;all_goals skip);all_goals (refine' Oy)
       all_goals
        first
        | (refine' KN;refine' Lh;first|(refine ⟨_,rfl,?_,hS.sp⟩;rw [decide_eq_false];exact AK;done)|(refine ⟨_,rfl,?_,hS.sp⟩;(rw [decide_eq_false];rw [hd,Q1 hx1,Q1 hx2,Gu];rintro ⟨rfl,_⟩;first|(simp_all;done)|(simp at*;omega));done))
        | (refine' KO;refine' KV)
       refine' Mk;(exact B8)
     · skip;refine' L7;refine' Mk;(exact Dc)
 · skip;refine' O5;first|(refine ⟨_,rfl,?_,hS.sp⟩;rw [decide_eq_false];exact AK;done)|(refine ⟨_,rfl,?_,hS.sp⟩;(rw [decide_eq_false];rw [hd,Q1 hx1,Q1 hx2,Gu];rintro ⟨rfl,_⟩;first|(simp_all;done)|(simp at*;omega));done)|(refine ⟨_,rfl,?_,hS.sp⟩;rw [decide_eq_false];rw [hd,Q1 hx1,Q1 hx2,Gu];rintro ⟨rfl,_⟩;rw [hx3] at hx4;cases hx4;exact hg rfl;done)|(refine ⟨_,rfl,?_,hS.sp⟩;rw [decide_eq_true];rw [hd,FJ Jo,FJ Jo];done)
end
section
variable {cx:Cx}{w:World}{L:List Res}{i:Nat}
abbrev xD (vc:Value):List Value:=[.int .i64 0, .slice none 0 0,vc, .int .i64 3, .int .i64 0, .int .i64 0, .slice none 0 0, .slice none 0 0, .int .i64 0, .slice none 0 0, .slice none 0 0, .slice none 0 0]
theorem mR:Tp Tryz.prog 29:=ZG Jk
theorem ZS (hS:St cx w L):KK Tryz.prog Qj6 [] w fun u w'=>∃a b,u= .agg ⟨[.slice (some ⟨a,0,none⟩) 1 1]⟩∧St cx w' (blk a 95 [.int .i64 0, .slice none 0 0, .slice none 0 0, .slice (some ⟨b,0,none⟩) 1 1]::blk b 92 (xD (.slice none 0 0))::L):=by
 refine KY KX Tryz.func51 ?_;refine' RW;(intro p0 w1 hS);refine' U5;refine PW [_,_,_,_,_,_,_,_,_] ?_;refine PW [_,_,_,_,_,_,_,_,_,_,_,_] ?_;refine RJ (cs:=[_,_,_,_,_,_,_,_,_,_,_,_]) vw Jr ?_;intro q1 w1 hb1 hf1 _ hk1;have hS:=hS.laid hb1 hf1 hk1;refine PW [_,_,_,_] ?_;refine RJ (cs:=[_,_,_,_]) vw Jr ?_;intro q2 w1 hb1 hf1 _ hk1;have hS:=hS.laid hb1 hf1 hk1;refine PW [_] ?_;((refine K1 hS ?_;intro w1 hS;have hS:=hS.ns));refine' Mu;refine Mp vw (Q2 (n:=1) Jk Jk (hS.blkAt fd) Jr Jr) ?_;((exact ⟨_,rfl,q2,q1,rfl,hS.sp⟩))
end
section
attribute [local irreducible] K4 Mq MY NG Om LJ Module.fault Lj MD
variable {cx:Cx}{w:World}{L:List Res}{j:JP}{h:List Bool}{vl:Value}{css:List (List Value)}{i:Nat}{m:Module}
end
section
attribute [local irreducible] K4 Mq MY NG Om LJ LW Oh Lv Lj MD Module.fault Pu Rd
variable {cx:Cx}{w:World}{L:List Res}{j:JP}{h:List Bool}{vl:Value}{css:List (List Value)}{i:Nat}{m:Module}
theorem WT {f:Nat}(hm:m.Short)(hF:m.fault.1=0)(hfn:m.funcs[f]?=some fn)(hy:fn.blocks[b]?=some y)(hx:LS.at cx cs m)(hS:St cx w L):
 KK Tryz.prog xb [.agg ⟨cs⟩, .int .i64 f, .int .i64 b] w fun u w'=>∃(j:JP) (c':Cx) (vl:Value) (css:List (List Value)),u= .tuple #[.pointer (some ⟨j.sp,0,none⟩),Lg (0,0)]∧cx.Le c'∧j.Fits c' m∧j.f=fn∧K0.ls c' css y.params∧St c' w' (j.res (Nd y).h vl css::L):=by
 refine (eS hm hx hS).mono ?_;have h1:=(FD.1 hfn).1;have h2:=(FD.1 hy).1;rintro u w' (⟨h0, -⟩|⟨-,h9, -⟩|⟨fn',y',j,c2,vl,css, -, -, -,hf',hy',rfl,hle,hj,jf,hls,hS⟩)
 · exact absurd hF h0
 · exfalso
   rcases h9 with (h|h)|⟨fn',hf',h⟩
   · omega
   · omega
   · rw [F9] at hf';obtain rfl:fn=fn':=FY (hfn.symm.trans hf');omega
 · rw [F9] at hf' hy';obtain rfl:fn=fn':=FY (hfn.symm.trans hf');obtain rfl:y=y':=FY (hy.symm.trans hy');exact ⟨j,c2,vl,css,rfl,hle,hj,jf,hls,hS⟩
theorem WU (hm:m.Short)(hF:m.fault.1=0)(hfn:m.funcs[q]?=some fn)(hy:fn.blocks[b]?=some y)(hx:LS.at cx cs m)(hS:St cx w L):
 KK Tryz.prog Qbw [.agg ⟨cs⟩, .int .i64 q, .int .i64 b] w fun u w'=>u=Lg (NQ m fn q b y.fin 0 (Nd y) y.code)∧St cx w' L:=by
 have hx':=hx;obtain ⟨vf,rfl,hf1⟩:=OE hx;have hle:=Gj hS;have hsf:=hm.2 fn (FC hfn);have hfb:=V8 hF hfn;have hfh:=UJ (S1 hF hfn);have hg0:=tQ hm hF hfn hy;have hlc:=(hsf.2.2.2 y (FC hy)).2.1;have hq1:=(FD.1 hfn).1;have hq2:=hm.1;have hb1:=(FD.1 hy).1;refine KY KX Tryz.func91 ?_;refine' Lx;intro p3 w1 hS;refine Qh hS ?_;(intro p6 w1 hS);refine' RD;refine' M7;refine' LU (c:=WT hm hF hfn hy hx' hS);rintro v1 w1 ⟨j,c2,vl,css,rfl,hle2,hj,hjf,hls,hS⟩;(try have hle:=hle.trans hle2);(try have hf1:=hf1.up hle2);unfold Lg;subst hjf;refine' Sm;(intro p8 w1 hS);refine' zm;((refine K1 hS ?_;intro w1 hS;have hS:=hS.ns));refine' zn;refine' cW;intro b1 o1 cs1 x1 hat1 hx1 he1;((obtain ⟨vp1,vr1,vb1,rfl,hp1,hr1,hb1⟩:=QC he1));obtain rfl:j.f=x1:=FY (hfn.symm.trans hx1);refine' M6;refine' Yy;refine' PA;intro b2 o2 cs2 x2 hat2 hx2 he2;((obtain ⟨vp2,vc2,ve21,ve22,ve23,ve24,ve25,rfl,hp2,hc2,he21,he22,he23,he24,he25⟩:=OZ he2));refine' NO;(intro p9 w1 hS);((refine K1 hS ?_;intro w1 hS;have hS:=hS.ns));refine' zn;obtain rfl:y=x2:=FY (hy.symm.trans hx2);refine' NP;refine' PF;refine zo [1,2,6,7,9,31,32] (fun A ρ' w'=>∃(k0:Cx) (i:Nat) (s:JS) (vl:Value) (css:List (List Value)),KR ρ' A∧KR ρ' [(33, .int .i64 i)]∧(c2.Le k0)∧(i≤y.code.length)∧(NQ m j.f q b y.fin 0 (Nd y) y.code=NQ m j.f q b y.fin i s (y.code.drop i))∧(j.Fits k0 m)∧(K0.ls k0 css s.l)∧(JGood s)∧St k0 w' (blk p9 92 [.int .i64 y.regs,vp2,vc2, .int .i64 y.fin.op, .int .i64 y.fin.a, .int .i64 y.fin.yes.block,ve21,ve22, .int .i64 y.fin.no.block,ve23,ve24,ve25]::j.res s.h vl css::blk p6 29 [.int .i64 0, .int .i64 0]::L)) (fun ρ' _=>(y.code.length - iv (ρ' 33)).toNat) ?_ ?_
 · exact C8
 rintro ρ w1 ⟨k0,i,s,vl,css,hA,hρ,hle2,hi,hdi,hj,hls,hg,hS⟩;obtain ⟨ρ,rfl⟩:=KS hA hρ;have hL0:=hle2;(try have hle:=hle.trans hle2);(try have hc2:=hc2.up hle2);(try have he21:=he21.up hle2);(try have he22:=he22.up hle2);(try have he23:=he23.up hle2);(try have he24:=he24.up hle2);(try have he25:=he25.up hle2);refine' NV;refine' Ab<;>intro hc
 · skip
   (refine' MF;refine' Ls;refine' zi;intro b3 o3 cs3 x3 hat3 hx3 he3;obtain ⟨vr3,va3,rfl,hr3,ha3⟩:=QY he3;refine' NO;intro p11 w1 hS;refine' zm;refine K1 hS ?_;intro w1 hS;have hS:=hS.ns;refine' Nb;refine zv hS ?_;refine' KU (c:=eQ (s:=s) (x:=x3) hm hg.n hg.h hj he3 hls hS fd);rintro v1 w1 ⟨rfl,c4,vl4,css4,hle2,hls4,hS⟩;have hS:=hS.ns;(try have hle:=hle.trans hle2);(try have hL0:=hL0.trans hle2);have hj:=hj.up hle2;have hg1:=zK (f:=j.f) (x:=x3) hm hg;obtain ⟨s1,hs1⟩:∃s1,(Lj m j.f s x3).2=s1:=⟨_,rfl⟩;rw [hs1] at hls4 hS hg1;refine' Mz;first|(refine' QG)|(refine' QI)|(refine' Ad<;>intro hc));all_goals (refine' zn)
   all_goals
    first
    | (refine' KN;refine' Lu;refine' M7;refine' LU (c:=vM q b i Jo Jo Jo hS);rintro v1 w1 ⟨rfl,hS⟩;refine Nn [_,_] ?_;refine K1 hS ?_;intro w1 hS;have hS:=hS.ns;refine' zn;have hJ:NQ m j.f q b y.fin 0 (Nd y) y.code=((Lj m j.f s x3).1,Pu q b i):=(by rw [hdi,Q1 hx3,rh Jo]);refine' zr;refine Mp vw (Q2 (n:=2) Jk Jk (hS.blkAt fd) Jr Jr) ?_;(exact A4))
    | (refine' KO;refine' KV)
   refine' Rl;(exact ⟨⟨_,i+1,s1,vl4,css4,zh,zh,hL0,Jo,by rw [hdi,Q1 hx3,rf Jo,hs1],hj,hls4,hg1,hS.sp⟩,Qc Jo⟩)
 · skip
   (refine' L7;refine' NI;refine' PC;refine' KU (c:=eR (s:=s) (x:=y.fin) hsf hfb Jo hg.h hj ⟨_,_,_,_,_,rfl,he21,he22,he23,he24,he25⟩ hls hS fd);rintro v1 w1 ⟨rfl,hS⟩;have hde:=ri (m:=m) (f:=j.f) (fi:=q) (bi:=b) (e:=y.fin) (s:=s) (i:=i) (l:=y.code) Jo;refine' Mz;first|(refine' QG)|(refine' QI)|(refine' Ad<;>intro hc));all_goals (refine' zn)
   all_goals
    first
    | (refine' KN;refine' Lu;refine' zm;refine' KU (c:=vL q b Jo Jo hS);rintro v1 w1 ⟨rfl,hS⟩;refine Nn [_,_] ?_;refine K1 hS ?_;intro w1 hS;have hS:=hS.ns;refine' zn;have hJ:=hdi.trans (hde.trans (Rv Jo));refine' zr;refine Mp vw (Q2 (n:=2) Jk Jk (hS.blkAt fd) Jr Jr) ?_;(exact A4))
    | (refine' KO;refine' KV)
   refine' K3;refine M5 [_,_] ?_;refine K1 hS ?_;intro w1 hS;have hS:=hS.ns;refine' zn;have hJ:=hdi.trans (hde.trans (SY _ _ (by rw [Sc];omega)));refine' zr;refine Mp vw (Q2 (n:=2) Jk Jk (hS.blkAt fd) Jr Jr) ?_;(exact A4)
theorem WV (hm:m.Short)(hx:LS.at cx cs m)(hS:St cx w L):
 KK Tryz.prog Qbx [.agg ⟨cs⟩] w fun u w'=>u=Lg m.runs∧St cx w' L:=by
 (have hx':=hx;obtain ⟨vf,rfl,hf1⟩:=OE hx;have hlf:=hf1.len;refine KY KX Tryz.func44 ?_;refine' Lx;intro p1 w1 hS;refine Qh hS ?_;intro p2 w1 hS;refine' MM;refine' Nw;refine' Lf (c:=vN hm hx' hS);rintro v1 w1 ⟨rfl,hS⟩;unfold Lg;refine Qh hS ?_;intro p3 w1 hS;refine K1 hS ?_;intro w1 hS;have hS:=hS.ns;refine' P0;first|(refine' QG)|(refine' QI)|(refine' Ad<;>intro hc));all_goals (refine' zn)
 all_goals
  first
  | (refine' KN;refine' Nw;refine K1 hS ?_;intro w1 hS;have hS:=hS.ns;refine' zn;have hJ:=wg (m:=m) Jo;refine' zr;refine Mp vw (Q2 (n:=2) Jk Jk (hS.blkAt fd) Jr Jr) ?_;(exact B2))
  | (refine' KO;refine' KV)
 refine' Nx;have hF:m.fault.1=0:=DB;have hr0:=wh hF;have hlf8:=hm.1;refine' So;refine' PF;refine Mx hS [1,2,15,16] (fun A LL ρ' w'=>∃(q:Nat),KR ρ' A∧KR ρ' [(17, .int .i64 q)]∧(q≤m.funcs.length)∧(m.runs=Pc m q (m.funcs.drop q))∧St cx w' (LL)) (fun ρ' _=>(m.funcs.length - iv (ρ' 17)).toNat) ?_ ?_
 · exact ⟨0,zh,zh,Jo,by rw [hr0];rfl,hS.sp⟩
 rintro ρ w1 ⟨q,hA,hρ,hq,hd,hS⟩;obtain ⟨ρ,rfl⟩:=KS hA hρ;refine' NV;refine' Ab<;>intro hc
 · skip
   refine' MF;refine' Ls;refine' zi;intro b1 o1 cs1 x1 hat1 hx1 he1;obtain ⟨vp1,vr1,vb1,rfl,hp1,hr1,hb1⟩:=QC he1;refine' NO;intro p5 w1 hS;refine' zm;refine K1 hS ?_;intro w1 hS;have hS:=hS.ns;refine' zn;have hsf:=hm.2 x1 (FC hx1);have hbl:=hsf.2.2.1;refine' Ot;refine' PF;refine Mx hS [1,2,4,15,16,17,24] (fun A LL ρ' w'=>∃(b:Nat),KR ρ' A∧KR ρ' [(25, .int .i64 b)]∧(b≤x1.blocks.length)∧(QM m x1 q 0 x1.blocks=QM m x1 q b (x1.blocks.drop b))∧St cx w' (LL)) (fun ρ' _=>(x1.blocks.length - iv (ρ' 25)).toNat) ?_ ?_
   · exact BA
   rintro ρ w1 ⟨b,hA,hρ,hb,hdb,hS⟩;obtain ⟨ρ,rfl⟩:=KS hA hρ;refine' NV;refine' Ab<;>intro hc
   · skip
     (refine' Rm;obtain ⟨y,hy⟩:∃y,x1.blocks[b]?=some y:=⟨_,FB Jo⟩;refine' Mj;refine' K5;refine' Nw;refine' M7;refine' LU (c:=WU hm hF hx1 hy hx' hS);rintro v1 w1 ⟨rfl,hS⟩;unfold Lg;refine Qh hS ?_;intro p7 w1 hS;refine K1 hS ?_;intro w1 hS;have hS:=hS.ns;refine' P0;first|(refine' QG)|(refine' QI)|(refine' Ad<;>intro hc));all_goals (refine' zn)
     all_goals
      first
      | (refine' KN;refine' Nw;refine K1 hS ?_;intro w1 hS;have hS:=hS.ns;refine' zn;have hJ:=rj hd hx1 hdb hy rfl Jo;refine' zr;refine Mp vw (Q2 (n:=2) Jk Jk (hS.blkAt fd) Jr Jr) ?_;(exact B2))
      | (refine' KO;refine' KV)
     refine' Rl;(exact ⟨⟨b+1,zh,zh,Jo,V9 hdb hy Jo,hS.sp⟩,Qc Jo⟩)
   · skip;refine' L7;refine' Rl;(exact ⟨⟨q+1,zh,zh,Jo,Wa hd hx1 hdb Jo,hS.sp⟩,Qc Jo⟩)
 · skip;refine' L7;refine' K3;refine M5 [_,_] ?_;refine K1 hS ?_;intro w1 hS;have hS:=hS.ns;refine' zn;have hJ:=Wb hd Jo;refine' zr;refine Mp vw (Q2 (n:=2) Jk Jk (hS.blkAt fd) Jr Jr) ?_;(exact B2)
end
end Go.Proofs.YteflkifmgnpbhaaGreat
namespace Go.Lir
def Oz (m:Module)(inp:List Int)(fuel pages:Int):Mw:=if m.runs.1≠0 then m.runs else if 200<inp.length∨fuel<0∨20000<fuel∨pages<0∨64<pages then (1, -1) else (0,0)
theorem rQ (h:m.runs.1≠0):Oz m inp fuel pages=m.runs:=if_pos h
theorem xv (h:¬m.runs.1≠0)(hr:200<inp.length∨fuel<0∨20000<fuel∨pages<0∨64<pages):Oz m inp fuel pages=(1, -1):=(if_neg h).trans (if_pos hr)
theorem WW (h:¬m.runs.1≠0)(hr:¬(200<inp.length∨fuel<0∨20000<fuel∨pages<0∨64<pages)):Oz m inp fuel pages=(0,0):=(if_neg h).trans (if_neg hr)
end Go.Lir
namespace Go.Proofs.YteflkifmgnpbhaaGreat
open Go.Lir
attribute [local irreducible] LC.wp Q0 Qr Qj Lo QJ LO.wp Q6 Calls
section
variable {cx:Cx}{w:World}{L:List Res}{m:Module}{inp:List Int}
@[reducible] def SL (ep fn lv iv:Value)(fuel:Int):RC:=⟨ep,fn,lv,iv,0, .slice none 0 0, .slice none 0 0,0,fuel,false⟩
@[reducible] def SM:RFV:=⟨0,0,0, .slice none 0 0,[]⟩
def SN (m:Module)(inp:List Int)(fuel pages:Int)(cx:Cx)(L:List Res)(u:Value)(w':World):Prop:=
 ((Oz m inp fuel pages).1≠0∧u= .tuple #[.pointer none,Lg (Oz m inp fuel pages)]∧St cx w' L)∨
 (Oz m inp fuel pages=(0,0)∧m.runs.1=0∧inp.length≤200∧0≤fuel∧fuel≤20000∧∃(q:Nat),pages=q∧q≤64∧∃c' p ep fn lv iv,u= .tuple #[.pointer (some ⟨p,0,none⟩),Lg (0,0)]∧cx.Le c'∧K8.sl c' fn m.funcs∧KM.sl c' iv inp∧St c' w' (rS p (SL ep fn lv iv fuel) [] SM (EstS.mk0 q) [] L))
theorem eT (hsh:m.Short)(hx:LS.at cx cs m)(hi:KM.sl cx v inp)(hS:St cx w L):
 KK Tryz.prog YF [.agg ⟨cs⟩,v, .int .i64 fuel, .int .i64 pages] w (SN m inp fuel pages cx L):=by
 (have hle:=Gj hS;have hx':=hx;obtain ⟨vf,rfl,hf⟩:=OE hx;have hil:=hi.len;unfold SN;refine KY KX Tryz.func35 ?_;refine' Lx;intro p4 w1 hS;refine' zm;refine Qh hS ?_;intro p9 w1 hS;refine' MM;refine' Nw;refine' Lf (c:=WV hsh hx' hS);rintro v1 w1 ⟨rfl,hS⟩;unfold Lg;refine Qh hS ?_;intro p10 w1 hS;refine K1 hS ?_;intro w1 hS;have hS:=hS.ns;refine' P0;first|(refine' QG)|(refine' QI)|(refine' Ad<;>intro hc));all_goals (refine' zn)
 all_goals
  first
  | (refine' KN;refine Qo ?_;refine zD (ci 3 [2]) ?_;have hS:=hS.drew;refine zv hS ?_;refine' zm;((refine K1 hS ?_;intro w1 hS;have hS:=hS.ns));refine' Mu;refine T7 vw vw (Q2 (n:=2) Jk Jk (hS.blkAt fd) Jr Jr) ?_;(exact B7))
  | (refine' KO;refine' KV)
 (((((refine' NI;refine' zL;first|(refine' QO)|(refine' QV)|(refine' Af<;>intro hc));all_goals (refine' Mr;first|refine' KP|(refine' KQ;(first|(refine' LG)|(refine' LM)|(refine' Ae<;>intro hc)))));all_goals (refine' PE;first|refine' KP|(refine' KQ;(first|(refine' QO)|(refine' QV)|(refine' Af<;>intro hc)))));all_goals (refine' PE;first|refine' KP|(refine' KQ;(first|(refine' LG)|(refine' LM)|(refine' Ae<;>intro hc)))));all_goals (refine' PE;first|refine' KP|(refine' KQ;(first|(refine' QO)|(refine' QV)|(refine' Af<;>intro hc)))));all_goals (refine' LH)
 all_goals
  first
  | (refine' KN;all_goals (refine' K3;refine Nn [_,_] ?_;refine' zm;refine K1 hS ?_;intro w1 hS;have hS:=hS.ns;refine' Mu;refine T7 vw vw (Q2 (n:=2) Jk Jk (hS.blkAt fd) Jr Jr) ?_);all_goals ((first|exact B7|exact CC)))
  | (refine' KO;refine' KV)
 refine' Ls;refine' Lf (c:=dp pages hS);rintro v1 w1 (⟨hbad, -, -⟩|⟨q,bq,hq,hq64,rfl,hS⟩);exact absurd hbad Jo;refine' Sm;intro p12 w1 hS;refine' zm;refine K1 hS ?_;intro w1 hS;have hS:=hS.ns;refine' Nb;refine zv hS ?_;refine' Lf (c:=wV hsh hx' hS);rintro v1 w1 ⟨c1,ds,rfl,hle1,hx1,hS⟩;obtain ⟨vf1,rfl,hf1⟩:=OE hx1;have hi:=GJ hi hle1;obtain ⟨af,nf,rfl⟩:=FK hf1;refine M5 [_,_,_,_] ?_;refine LK hS [_,_,_,_] ?_;intro b1 w1 hS;have hS:=GS (T:=138) (es:=4) (css:=[[.int .i64 0, .int .i64 0, .int .i64 0, .slice none 0 0]]) hS rfl Js rfl;refine' zm;refine' Lf (c:=rN Jo hi hS);rintro vi w1 ⟨c2,hle2,hi2,hS⟩;have hf1:=GJ hf1 hle2;obtain ⟨ai,ni,rfl⟩:=FK hi2;refine' zm;refine pf [_,_,_,_,_,_,_,_,_,_] ?_;refine zb hS ?_;intro p53 w1 hS;refine M5 [_,_] ?_;refine' zm;refine K1 hS ?_;intro w1 hS;have hS:=hS.ns;refine' Mu;refine T7 vw vw (Q2 (n:=2) Jk Jk (hS.blkAt fd) Jr Jr) ?_;((first|exact B7|exact CC|(have hS:=IK RFV.res (Ic (T:=2) (es:=1) (Ic (T:=2) (es:=1) hS));exact ⟨_,rfl, .inr ⟨WW Jo Jo,Jo,Jo,Jo,Jo,q,hq,hq64,c2,_,_,_,_,_,rfl,hle1.trans hle2,hf1,hi2,hS.sp⟩⟩)))
end
section
variable {cx:Cx}{w:World}{L:List Res}{p:Nat}{c:RC}{fr:List RFV}{g:RFV}{s:EstS}{out inp back:List Int}{m:Module}
theorem QR.first {ep fn iv:Value}(hR:m.runs.1=0)(hsh:m.Short)(h0:0≤fuel)(hq:q≤64):QR m fuel.toNat (SL ep fn lv iv fuel) [] SM (EstS.mk0 q) inp [] [] (.on (MS.start inp q)):=
 ⟨Zu hq,rfl,rfl,rfl,rfl,Gt _,(Gh h0).symm,Jw (XF hR) inp q,wQ hR hsh inp q⟩
theorem QR.on {most:Nat}{r:Run}(hQ:QR m most c fr g s inp out back r)(hdn:c.dn=false):∃ms,r= .on ms∧ms.fuel≤most:=by
 cases r with
 | on ms=>obtain ⟨-, -, -, -, -,h, -⟩:=hQ;exact ⟨ms,rfl,h⟩
 | over ms e b=>obtain ⟨-, -,h, -⟩:=hQ;rw [hdn] at h;cases h
 | stuck f=>exact hQ.elim
theorem QR.fin {most:Nat}{r a:Run}(hQ:QR m most c fr g s inp out back r)(hA:RA m most a r)(hdn:c.dn=true):a.oc=⟨c.e,back,out,c.fu⟩∧out.length≤2000∧back.length≤100000:=by
 cases r with
 | on ms=>obtain ⟨-, -,h, -⟩:=hQ;rw [hdn] at h;cases h
 | over ms e b=>
   obtain ⟨h1,h2, -,h4,h5,h6,h7, -⟩:=hQ;have hA:a= .over ms e b:=hA;refine ⟨?_,h6,h7⟩;rw [hA,h1,h2,h4,h5];rfl
 | stuck f=>exact hQ.elim
theorem xE:KM.ls cx (l.map Qs) l:=
 ⟨by simp,fun k x hx=>⟨[.int .i64 x],by rw [FW,hx];rfl,rfl⟩⟩
def N4 (m:Module)(inp:List Int)(fuel pages:Int)(cx:Cx)(L:List Res)(u:Value)(w':World):Prop:=
 ((Oz m inp fuel pages).1≠0∧u= .tuple #[.agg ⟨[.int .i64 0, .slice none 0 0, .slice none 0 0, .int .i64 0]⟩,Lg (Oz m inp fuel pages)]∧St cx w' L)∨
 (Oz m inp fuel pages=(0,0)∧m.runs.1=0∧∃c' v1 v2,cx.Le c'∧u= .tuple #[wW (Run.all m inp fuel.toNat pages).oc v1 v2,Lg (0,0)]∧KM.sl c' v1 (Run.all m inp fuel.toNat pages).oc.back∧KM.sl c' v2 (Run.all m inp fuel.toNat pages).oc.out∧St c' w' L)
attribute [local irreducible] QR RA Run.all Run.oc
theorem SN.split (h:SN m inp fuel pages cx L u w):((Oz m inp fuel pages).1≠0∧u= .tuple #[.pointer none,Lg (Oz m inp fuel pages)]∧St cx w L)∨
 (Oz m inp fuel pages=(0,0)∧m.runs.1=0∧inp.length≤200∧0≤fuel∧fuel≤20000∧∃(q:Nat),pages=q∧q≤64∧∃c' p ep fn lv iv,u= .tuple #[.pointer (some ⟨p,0,none⟩),Lg (0,0)]∧cx.Le c'∧K8.sl c' fn m.funcs∧KM.sl c' iv inp∧St c' w (rS p (SL ep fn lv iv fuel) [] SM (EstS.mk0 q) [] L)):=h
theorem rX (hsh:m.Short)(hx:LS.at cx cs m)(hi:KM.sl cx v inp)(hS:St cx w L):
 KK Tryz.prog pP [.agg ⟨cs⟩,v, .int .i64 fuel, .int .i64 pages] w (N4 m inp fuel pages cx L):=by
 have hx':=hx;obtain ⟨vf,rfl,hf⟩:=OE hx;unfold N4;refine KY KX Tryz.func33 ?_;refine' Lx;intro p4 w1 hS;refine Qh hS ?_;(intro p8 w1 hS);refine Qh hS ?_;(intro p9 w1 hS);refine' RD;refine' M7;refine' zm;refine' NN (c:=eT hsh hx' hi hS);rintro v1 w1 hN;rcases hN.split with ⟨hz,rfl,hS⟩|⟨hs0,hR,hil,hf0,hf1,q,rfl,hq,c2,p,ep,fn,lv,i1,rfl,hle2,hfn,hin,hS⟩
 all_goals (refine' zm;unfold Lg;dsimp only;refine' l9;refine Qh hS ?_;intro p11 w1 hS;refine' zm;refine K1 hS ?_;intro w1 hS;have hS:=hS.ns;refine' MM;refine' Ot;refine' UT;refine' zn)
 all_goals
  first
  | (refine' KN;refine Qo ?_;refine zC [(0,none),(1,none),(2,some (some [1])),(3,some none)] ?_;have hS:=hS.drew;refine' LP;refine M5 [_,_,_,_] ?_;refine' Ll;refine zv hS ?_;refine' My;((refine K1 hS ?_;intro w1 hS;have hS:=hS.ns));refine' Nj;((refine K1 hS ?_;intro w1 hS;have hS:=hS.ns));refine' LV;refine' zr;refine lN vw (Q2 (n:=4) Jk Jk (hS.blkAt fd) Jr Jr) vw (Q2 (n:=2) Jk Jk (hS.blkAt fd) Jr Jr) ?_;(exact ⟨_,rfl, .inl ⟨hz,rfl,hS.sp⟩⟩))
  | (refine' KO;refine' KV)
 refine' gx;refine zo [8,9,10] (fun A ρ' w'=>∃(r:Run) (c:RC) (fr:List RFV) (g:RFV) (s:EstS) (inp1 out back:List Int),KR ρ' A∧KR ρ' []∧(RA m fuel.toNat (Run.all m inp fuel.toNat q) r)∧(QR m fuel.toNat c fr g s inp1 out back r)∧(K8.sl c2 c.fn m.funcs)∧(KM.sl c2 c.iv inp1)∧St c2 w' (rS p c fr g s out (sl 2 1 c.bv (back.map Qs)::blk p11 29 [.int .i64 0, .int .i64 0]::blk p9 29 [.int .i64 0, .int .i64 0]::blk p8 33 [.int .i64 0, .slice none 0 0, .slice none 0 0, .int .i64 0]::L))) (fun _ w'=>eG w' p) ?_ ?_
 · exact ⟨.on (MS.start inp q),SL ep fn lv i1 fuel,[],SM,EstS.mk0 q,inp,[],[],zh,zh,RA.first,QR.first hR hsh hf0 hq,hfn,hin,by have hS:=hS.nil (T:=2) (es:=1);exact hS.sp⟩
 rintro ρ w1 ⟨r,c,fr,g,s,inp1,out,back,hA,hρ,hRA,hQ,hfn1,hin1,hS⟩;obtain ⟨ρ,rfl⟩:=KS hA hρ;have hm0:=wZ hS;refine' NI;refine' Lf (c:=ZF hS);rintro v1 w1 ⟨rfl,hS⟩;cases hdn:c.dn;all_goals (refine' Oy)
 all_goals
  first
  | (refine' KN;refine' KV;refine' bT;refine' Mj;obtain ⟨ms,rfl,hkm⟩:=hQ.on hdn;have hRA':=hRA.nx hkm;refine' Lf (c:=ZE hQ hR hsh Jo hfn1 hin1 hS);rintro v1 w1 ⟨rfl,c',fr',g',s',inp',out',back',hQ',hfn',hin',hlt,hS⟩;refine' zn;(exact ⟨⟨Run.step m fuel.toNat (.on ms),c',fr',g',s',inp',out',back',zh,zh,hRA',hQ',(by rw [hfn'];exact hfn1),hin',hS.sp⟩,(by rw [wZ (c:=c') (L:=L) (show St c2 _ (blk p 66 c'.cells::L) from hS.sp),hm0];exact hlt)⟩))
  | (refine' KO;refine' L7;refine' Ls;obtain ⟨ho,hol,hbl⟩:=hQ.fin hRA hdn;obtain ⟨c3,hle3,hS2,hb3⟩:=GF (r:=KM) (l:=back) (hS.out (r:=sl 2 1 c.bv (back.map Qs)) fd) xE rfl Jo;obtain ⟨c4,hle4,hS3,ho4⟩:=GF (r:=KM) (l:=out) (hS2.out (r:=sl 2 1 c.ov (out.map Qs)) fd) xE rfl Jo;refine' Lf (c:=Qfr (c:=c) Jo Jo (GJ hb3 hle4) ho4 (show St c4 _ (blk p 66 c.cells::_) from (by have hS:=hS3;exact AB)));rintro v1 w1 ⟨c5,u1,u2,hle5,rfl,k1,k2,hS⟩;obtain ⟨a1,n1,rfl⟩:=FK k1;obtain ⟨a2,n2,rfl⟩:=FK k2;refine M5 [_,_] ?_;refine K1 hS ?_;intro w1 hS;have hS:=hS.ns;refine K1 hS ?_;intro w1 hS;have hS:=hS.ns;refine' Mu;refine lN vw (Q2 (n:=4) Jk Jk (hS.blkAt fd) Jr Jr) vw (Q2 (n:=2) Jk Jk (hS.blkAt fd) Jr Jr) ?_;(first|exact ⟨_,rfl, .inl ⟨hz,rfl,hS.sp⟩⟩|exact ⟨_,rfl, .inr ⟨hs0,hR,c5, .slice a1 back.length n1, .slice a2 out.length n2,hle2.trans (hle3.trans (hle4.trans hle5)),by rw [ho];rfl,by rw [ho];exact k1,by rw [ho];exact k2,hS.sp⟩⟩))
end
section
variable {cx:Cx}{w:World}{L:List Res}{i:Nat}
def bC:To:=⟨0,[],[]⟩
@[reducible] def WX (n:Int):Module:=⟨[⟨0,[],[.mk 1 0 []],[⟨0,[],[⟨1,0,0,0,0,5,[],[]⟩],⟨3,0,bC,bC,[n]⟩⟩]⟩]⟩
theorem xF (n:Int):(WX n).Short:=by
 refine ⟨Gs rfl,fun f hf=>?_⟩;simp [WX] at hf;subst hf;refine ⟨⟨Gs rfl,by simp⟩,⟨Gs rfl,fun t ht=>?_⟩,Gs rfl,fun b hb=>?_⟩
 · simp at ht;subst ht;exact .mk Jd Js
 · simp at hb;subst hb;refine ⟨⟨Gs rfl,by simp⟩,Gs rfl,fun i hi=>?_,⟨Gs rfl,Gs rfl⟩,⟨Gs rfl,Gs rfl⟩,by simp⟩;simp at hi;subst hi;exact ⟨by decide,by decide⟩
theorem WY (hS:St cx w L):KK Tryz.prog uv [] w fun u w'=>∃q1 q2 q3 la lb,u= .agg ⟨[.slice (some ⟨la,0,none⟩) 1 1]⟩∧St cx w' (blk q1 115 [.int .i64 1, .int .i64 0, .slice none 0 0]::blk q2 84 [.int .i64 1, .int .i64 0, .int .i64 0, .int .i64 0, .int .i64 0, .int .i64 5, .slice none 0 0, .slice none 0 0]::blk q3 3 [.int .i64 0]::blk lb 92 [.int .i64 0, .slice none 0 0, .slice (some ⟨q2,0,none⟩) 1 1, .int .i64 3, .int .i64 0, .int .i64 0, .slice none 0 0, .slice none 0 0, .int .i64 0, .slice none 0 0, .slice none 0 0, .slice (some ⟨q3,0,none⟩) 1 1]::blk la 95 [.int .i64 0, .slice none 0 0, .slice (some ⟨q1,0,none⟩) 1 1, .slice (some ⟨lb,0,none⟩) 1 1]::L):=by
 refine KY KX Tryz.func50 ?_;refine' RW;(intro p0 w1 hS);refine' U5;refine' l0 (c:=ZS hS);rintro v1 w1 ⟨la,lb,rfl,hS⟩;simp only [xD] at hS;refine Qh hS ?_;(intro p1 w1 hS);((refine K1 hS ?_;intro w1 hS;have hS:=hS.ns));refine' P0;refine PW [_,_,_] ?_;refine RJ (cs:=[_,_,_]) vw Jr ?_;intro q1 w1 hb1 hf1 _ hk1;have hS:=hS.laid hb1 hf1 hk1;refine XT rfl rfl Jd Jd ?_;refine' S7;intro w1 hS;have hS:=hS.ns;refine' P0;refine XT rfl rfl Jd Jd ?_;refine' Lw;refine Nn [_,_,_,_,_,_,_,_] ?_;refine RJ (cs:=[_,_,_,_,_,_,_,_]) vw Jr ?_;intro q2 w1 hb1 hf1 _ hk1;have hS:=hS.laid hb1 hf1 hk1;refine XT rfl rfl Jd Jd ?_;refine' S7;intro w1 hS;have hS:=hS.ns;refine' P0;refine XT rfl rfl Jd Jd ?_;refine' Lw;refine RJ (cs:=[_]) vw Jr ?_;intro q3 w1 hb1 hf1 _ hk1;have hS:=hS.laid hb1 hf1 hk1;refine XT rfl rfl Jd Jd ?_;refine' MR;refine' M6;refine Mi hS ?_;intro w1 hS;have hS:=hS.ns;refine' RD;((refine K1 hS ?_;intro w1 hS;have hS:=hS.ns));refine' Mu;refine Mp vw (Q2 (n:=1) Jk Jk (hS.blkAt fd) Jr Jr) ?_;((exact ⟨_,rfl,q1,q2,q3,la,lb,rfl,hS.sp⟩))
theorem xG {q1 q2 q3 la lb:Nat}{n:Int}(hS:St cx w (blk q1 115 [.int .i64 1, .int .i64 0, .slice none 0 0]::blk q2 84 [.int .i64 1, .int .i64 0, .int .i64 0, .int .i64 0, .int .i64 0, .int .i64 5, .slice none 0 0, .slice none 0 0]::blk q3 3 [.int .i64 n]::blk lb 92 [.int .i64 0, .slice none 0 0, .slice (some ⟨q2,0,none⟩) 1 1, .int .i64 3, .int .i64 0, .int .i64 0, .slice none 0 0, .slice none 0 0, .int .i64 0, .slice none 0 0, .slice none 0 0, .slice (some ⟨q3,0,none⟩) 1 1]::blk la 95 [.int .i64 0, .slice none 0 0, .slice (some ⟨q1,0,none⟩) 1 1, .slice (some ⟨lb,0,none⟩) 1 1]::L)):∃c',cx.Le c'∧LS.at c' [.slice (some ⟨la,0,none⟩) 1 1] (WX n)∧St c' w L:=by
 have n0:∀c:Cx,K0.sl c (.slice none 0 0) []:=fun c=>Gz _ _ _;have n1:∀c:Cx,KM.sl c (.slice none 0 0) []:=fun c=>Gz _ _ _;obtain ⟨c1,hle1,hS,h1⟩:=Ge (r:=K0) (x:= .mk 1 0 []) hS (Rc (n0 _));obtain ⟨c2,hle2,hS,h2⟩:=Ge (r:=Lz) (x:=⟨1,0,0,0,0,5,[],[]⟩) hS ⟨_,_,rfl,n1 _,n1 _⟩;obtain ⟨c3,hle3,hS,h3⟩:=Ge (r:=KM) (x:=n) hS rfl;obtain ⟨c4,hle4,hS,h4⟩:=Ge (r:=Lp) (x:=⟨0,[],[⟨1,0,0,0,0,5,[],[]⟩],⟨3,0,bC,bC,[n]⟩⟩) hS (oF (x:=⟨0,[],[⟨1,0,0,0,0,5,[],[]⟩],⟨3,0,bC,bC,[n]⟩⟩) (n0 _) (GJ h2 hle3) (n1 _) (n1 _) (n1 _) (n1 _) h3);obtain ⟨c5,hle5,hS,h5⟩:=Ge (r:=K8) (x:=⟨0,[],[.mk 1 0 []],[⟨0,[],[⟨1,0,0,0,0,5,[],[]⟩],⟨3,0,bC,bC,[n]⟩⟩]⟩) hS ⟨_,_,_,rfl,n0 _,GJ h1 (hle2.trans (hle3.trans hle4)),h4⟩;exact ⟨c5,hle1.trans (hle2.trans (hle3.trans (hle4.trans hle5))),⟨_,rfl,h5⟩,hS⟩
theorem eU (hS:St cx w L):KK Tryz.prog uv [] w fun u w'=>∃c' vf,cx.Le c'∧u= .agg ⟨[vf]⟩∧LS.at c' [vf] (WX 0)∧St c' w' L:=by
 refine (WY hS).mono fun u w' h=>?_;obtain ⟨q1,q2,q3,la,lb,rfl,hS⟩:=h;obtain ⟨c',h1,h2,h3⟩:=xG hS;exact ⟨c',_,h1,rfl,h2,h3⟩
end
section
theorem QfM {x:Module}(hx:LS.at cx cs x)(hS:St cx w L):KK Tryz.prog uq [.agg ⟨cs⟩] w fun u w'=>∃b,u= .bool b∧(b=false→x.Few)∧St cx w' L:=by
 (obtain ⟨vf,rfl,hl⟩:=OE hx;obtain ⟨l⟩:=x;have hl:K8.sl cx vf l:=hl;have hlen:=hl.len;refine KY KX Tryz.func18 ?_;refine' Lx;intro p1 w1 hS;refine' Sq;refine' zL;first|(refine' QO)|(refine' QV)|(refine' Af<;>intro hc));all_goals (refine' zn)
 all_goals
  first
  | (refine' KN;refine' Lh;(exact AQ))
  | (refine' KO;refine' KV)
 refine' M8;refine Mx hS [1] (fun A LL ρ' w'=>∃(j:Nat),KR ρ' A∧KR ρ' [(3, .int .i64 j)]∧(j≤l.length)∧(l.length≤20)∧(∀f∈l.take j,f.Few)∧St cx w' (LL)) (fun ρ' _=>(l.length - iv (ρ' 3)).toNat) ?_ ?_
 · exact AY
 rintro ρ w1 ⟨j,hA,hρ,hj,hl20,hd,hS⟩;obtain ⟨ρ,rfl⟩:=KS hA hρ;refine' O4;refine' Ab<;>intro hc
 · skip
   (((refine' Ta;intro b1 o1 cs1 x1 hat1 hx1 he1;obtain ⟨vp1,vr1,vb1,rfl,hp1,hr1,hb1⟩:=QC he1;refine' NO;intro p4 w1 hS;refine K1 hS ?_;intro w1 hS;have hS:=hS.ns;refine' MM;refine' U4;first|(refine' QO)|(refine' QV)|(refine' Af<;>intro hc));all_goals (refine' Ms;(first|(refine' KP)|(refine' KQ;refine' Lf (c:=gG hp1 hS);rintro v1 w1 ⟨rfl,hS⟩;cases hg1:Tys.great x1.params))));all_goals (refine' MK;refine' Ms;(first|(refine' KP)|(refine' KQ;refine' Lf (c:=gG hr1 hS);rintro v1 w1 ⟨rfl,hS⟩;cases hg2:Tys.great x1.results))));all_goals (refine' LH)
   all_goals
    first
    | (refine' KN;all_goals (refine' Lh);all_goals (exact AQ))
    | (refine' KO;refine' KV)
   refine Qo ?_;have hlb:=hb1.len;refine' YE;refine Mx hS [1,3,4] (fun A LL ρ' w'=>∃(i:Nat),KR ρ' A∧KR ρ' [(5, .int .i64 i)]∧(i≤x1.blocks.length)∧(x1.blocks.length≤30)∧(Tys.great x1.params=false)∧(Tys.great x1.results=false)∧(∀f∈x1.blocks.take i,f.Few)∧St cx w' (LL)) (fun ρ' _=>(x1.blocks.length - iv (ρ' 5)).toNat) ?_ ?_
   · exact CW
   rintro ρ w1 ⟨i,hA,hρ,hi,hl30,hg1,hg2,hd1,hS⟩;obtain ⟨ρ,rfl⟩:=KS hA hρ;refine' O4;refine' Ab<;>intro hc
   · skip
     (((((((refine' Ta;intro b2 o2 cs2 x2 hat2 hx2 he2;obtain ⟨vp2,vc2,ve21,ve22,ve23,ve24,ve25,rfl,hp2,hc2,he21,he22,he23,he24,he25⟩:=OZ he2;refine' NO;intro p6 w1 hS;refine K1 hS ?_;intro w1 hS;have hS:=hS.ns;refine' MM;refine' U4;first|(refine' QO)|(refine' QV)|(refine' Af<;>intro hc));all_goals (refine' Ms;(first|(refine' KP)|(refine' KQ;refine' Lf (c:=gG hp2 hS);rintro v1 w1 ⟨rfl,hS⟩;cases hg3:Tys.great x2.params))));all_goals (refine' Xu;refine' Tb;refine' Ng;first|refine' KP|(refine' KQ;(first|(refine' QO)|(refine' QV)|(refine' Af<;>intro hc)))));all_goals (refine' Xy;refine' NC;refine' TH;refine' Ng;first|refine' KP|(refine' KQ;(first|(refine' QO)|(refine' QV)|(refine' Af<;>intro hc)))));all_goals (refine' Xy;refine' NC;refine' TH;refine' Ng;first|refine' KP|(refine' KQ;(first|(refine' QO)|(refine' QV)|(refine' Af<;>intro hc)))));all_goals (refine' Xy;refine' NC;refine' TH;refine' Ng;first|refine' KP|(refine' KQ;(first|(refine' QO)|(refine' QV)|(refine' Af<;>intro hc)))));all_goals (refine' Xy;refine' NC;refine' TH;refine' Ng;first|refine' KP|(refine' KQ;(first|(refine' QO)|(refine' QV)|(refine' Af<;>intro hc)))));all_goals (refine' LH)
     all_goals
      first
      | (refine' KN;all_goals (refine' Lh);all_goals (exact AQ))
      | (refine' KO;refine' KV)
     refine Qo ?_;have hlc:=hc2.len;refine' YE;refine Mx hS [1,3,4,5,6] (fun A LL ρ' w'=>∃(k:Nat),KR ρ' A∧KR ρ' [(7, .int .i64 k)]∧(k≤x2.code.length)∧(x2.code.length≤200)∧(Tys.great x2.params=false)∧(x2.fin.Few)∧(∀f∈x2.code.take k,f.Few)∧St cx w' (LL)) (fun ρ' _=>(x2.code.length - iv (ρ' 7)).toNat) ?_ ?_
     · exact C6
     rintro ρ w1 ⟨k,hA,hρ,hk,hl200,hg3,hfin,hd2,hS⟩;obtain ⟨ρ,rfl⟩:=KS hA hρ;refine' O4;refine' Ab<;>intro hc
     · skip
       ((refine' Ta;intro b3 o3 cs3 x3 hat3 hx3 he3;obtain ⟨vr3,va3,rfl,hr3,ha3⟩:=QY he3;refine' M6;refine' Yy;refine' zL;first|(refine' QO)|(refine' QV)|(refine' Af<;>intro hc));all_goals (refine' Ms;refine' MT;(first|(refine' KP)|(refine' KQ;refine TA vw rfl Ja rfl Jo ?_;intro b4 o4 cs4 x4 hat4 hx4 he4;rw [hx3] at hx4;obtain rfl:x3=x4:=FY hx4;obtain ⟨vr4,va4,rfl,hr4,ha4⟩:=QY he4));refine' NC;refine' l3;refine' Ng;first|refine' KP|(refine' KQ;(first|(refine' QO)|(refine' QV)|(refine' Af<;>intro hc)))));all_goals (refine' LH)
       all_goals
        first
        | (refine' KN;all_goals (refine' Lh);all_goals (exact AQ))
        | (refine' KO;refine' KV)
       refine' Mk;(exact De)
     · skip;refine' L7;refine' Mk;(exact ⟨⟨i+1,zh,zh,Jo,Jo,by assumption,by assumption,Yk hd1 hx2 ⟨hg3,Jo,cB hd2 Jo,hfin⟩,hS.sp⟩,Qc Jo⟩)
   · skip;refine' L7;refine' Mk;(exact ⟨⟨j+1,zh,zh,Jo,Jo,Yk hd hx1 ⟨hg1,hg2,Jo,cB hd1 Jo⟩,hS.sp⟩,Qc Jo⟩)
 · skip;refine' O5;first|(exact AQ)|(have h1:l.length≤20:=DB;exact CU)
end
section
variable {cx:Cx}{w:World}{L:List Res}{m:Module}{inp:List Int}
theorem xH {m:List Int}(hl:KM.sl cx v l)(hm:KM.sl cx v2 m)(hS:St cx w L):KK Tryz.prog QdY [v,v2] w fun u w'=>u= .bool (decide (l=m))∧St cx w' L:=by
 (have hlen:=hl.len;refine KY KX Tryz.func78 ?_;refine' Ob;refine' zL;refine' zm;refine' zL;first|(refine' QG)|(refine' QI)|(refine' Ad<;>intro hc));all_goals (refine' zn)
 all_goals
  first
  | (refine' KN;refine' Lh;((refine ⟨_,rfl,?_,hS.sp⟩;(rw [decide_eq_false];exact AK);done)))
  | (refine' KO;refine' KV)
 refine' M8;refine Mx hS [0,1] (fun A LL ρ' w'=>∃(j:Nat),KR ρ' A∧KR ρ' [(5, .int .i64 j)]∧(j≤l.length)∧(l.length=m.length)∧(l=m↔l.drop j=m.drop j)∧St cx w' (LL)) (fun ρ' _=>(l.length - iv (ρ' 5)).toNat) ?_ ?_
 · exact AY
 rintro ρ w1 ⟨j,hA,hρ,hj,hlm,hd,hS⟩;obtain ⟨ρ,rfl⟩:=KS hA hρ;refine' Tc;refine' Ab<;>intro hc
 · skip
   (refine' Rm;refine zD (ci 9 [8]) ?_;have hS:=hS.drew;refine' M7;refine' zi;intro b1 o1 cs1 x1 hat1 hx1 he1;obtain rfl:=QB he1;refine' N8;refine' M7;refine' zi;intro b2 o2 cs2 x2 hat2 hx2 he2;obtain rfl:=QB he2;refine' N8;first|(refine' QG)|(refine' QI)|(refine' Ad<;>intro hc));all_goals (refine' zn)
   all_goals
    first
    | (refine' KN;refine' Lh;first|(refine ⟨_,rfl,?_,hS.sp⟩;rw [decide_eq_false];exact AK;done)|(refine ⟨_,rfl,?_,hS.sp⟩;rw [decide_eq_false];rw [hd,Q1 hx1,Q1 hx2];simp [*];done))
    | (refine' KO;refine' KV)
   refine' Mk;(exact C0)
 · skip;refine' O5;(exact Aw)
theorem rY {e2 f2:Int}{ys xs2 ys2:List Int}{v3 v4:Value}(h1:KM.sl cx v1 xs)(h2:KM.sl cx v2 ys)(h3:KM.sl cx v3 xs2)(h4:KM.sl cx v4 ys2)(hS:St cx w L):
 KK Tryz.prog Qbp [.agg ⟨[.int .i64 e,v1,v2, .int .i64 f]⟩, .agg ⟨[.int .i64 e2,v3,v4, .int .i64 f2]⟩] w fun u w'=>u= .bool (decide (e=e2∧xs=xs2∧ys=ys2∧f=f2))∧St cx w' L:=by
 ((((refine KY KX Tryz.func31 ?_;refine' Lx;intro p2 w1 hS;refine zb hS ?_;intro p3 w1 hS;refine' Xv;refine' Lw;first|(refine' Qd)|(refine' Qi)|(refine' Ac<;>intro hc));all_goals (refine' Sj;(first|(refine' KP)|(refine' KQ;refine' KU (c:=xH h1 h3 hS);rintro v1 w1 ⟨rfl,hS⟩;(cases hdec:decide (xs=xs2));have hg:=of_decide_eq_false hdec;rotate_left;have hg:=of_decide_eq_true hdec;all_goals skip))));all_goals (refine' Te;(first|(refine' KP)|(refine' KQ;refine' KU (c:=xH h2 h4 hS);rintro v1 w1 ⟨rfl,hS⟩;(cases hdec:decide (ys=ys2));have hg:=of_decide_eq_false hdec;rotate_left;have hg:=of_decide_eq_true hdec;all_goals skip))));all_goals (refine' Te;first|refine' KP|(refine' KQ;(first|(refine' Qd)|(refine' Qi)|(refine' Ac<;>intro hc)))));all_goals (refine' Xx;refine ⟨_,rfl,?_,hS.sp⟩;(simp [*]);done)
theorem eV (hx:LS.at cx cs m)(hS:St cx w L):KK Tryz.prog U7 [.agg ⟨cs⟩, .int .i64 fuel] w fun u w'=>∃b,u= .bool b∧(b=false→m.Few∧fuel≤3000)∧St cx w' L:=by
 (have hx':=hx;obtain ⟨vf,rfl,hf⟩:=OE hx;refine KY KX Tryz.func14 ?_;refine' Lx;intro p2 w1 hS;refine' K5;refine' Nw;refine' Lf (c:=QfM hx' hS);rintro v1 w1 ⟨b,rfl,hb,hS⟩;cases b;all_goals (refine' Mr;first|refine' KP|(refine' KQ;(first|(refine' QO)|(refine' QV)|(refine' Af<;>intro hc)))));all_goals (refine' Xx;(first|exact ⟨_,rfl,true,rfl,(fun h=>by cases h),hS.sp⟩|exact ⟨_,rfl,_,rfl,(fun h9=>⟨hb rfl,by first|omega|(have:=of_decide_eq_false h9;omega)⟩),hS.sp⟩))
end
section
variable {cx:Cx}{w:World}{L:List Res}{m:Module}{inp:List Int}
theorem QdN:Oz (WX 0) [] 9 0=(0,0):=by decide+kernel
theorem WZ:(Run.all (WX 0) [] (9:Int).toNat 0).oc=⟨0,[5],[],2⟩:=by rfl
theorem xI:Oz (WX 1) [] 9 0=(1,91):=by decide+kernel
theorem N4.ok (hz:Oz m inp fuel pages=(0,0))(hs:N4 m inp fuel pages cx L u w):m.runs.1=0∧∃c' v1 v2,cx.Le c'∧u= .tuple #[wW (Run.all m inp fuel.toNat pages).oc v1 v2,Lg (0,0)]∧KM.sl c' v1 (Run.all m inp fuel.toNat pages).oc.back∧KM.sl c' v2 (Run.all m inp fuel.toNat pages).oc.out∧St c' w L:=by
 rcases hs with ⟨h1,_⟩|⟨_,h1⟩
 · rw [hz] at h1;exact absurd rfl h1
 · exact h1
theorem N4.bad (hz:(Oz m inp fuel pages).1≠0)(hs:N4 m inp fuel pages cx L u w):u= .tuple #[.agg ⟨[.int .i64 0, .slice none 0 0, .slice none 0 0, .int .i64 0]⟩,Lg (Oz m inp fuel pages)]∧St cx w L:=by
 rcases hs with ⟨_,h1⟩|⟨h1,_⟩
 · exact h1
 · rw [h1] at hz;exact absurd rfl hz
theorem eW (hs:N4 m inp fuel pages cx L u w):((Oz m inp fuel pages).1≠0∧u= .tuple #[.agg ⟨[.int .i64 0, .slice none 0 0, .slice none 0 0, .int .i64 0]⟩,Lg (Oz m inp fuel pages)]∧St cx w L)∨
 (Oz m inp fuel pages=(0,0)∧m.runs.1=0∧∃c' a1 x1 y1 a2 x2 y2 oc,(Run.all m inp fuel.toNat pages).oc=oc∧cx.Le c'∧u= .tuple #[.agg ⟨[.int .i64 oc.e, .slice a1 x1 y1, .slice a2 x2 y2, .int .i64 oc.fuel]⟩,Lg (0,0)]∧KM.sl c' (.slice a1 x1 y1) oc.back∧KM.sl c' (.slice a2 x2 y2) oc.out∧St c' w L):=by
 rcases hs with h|⟨h1,h0,c',v1,v2,h2,h3,h4,h5,h6⟩
 · exact .inl h
 · obtain ⟨a1,y1,rfl⟩:=FK h4;obtain ⟨a2,y2,rfl⟩:=FK h5;exact .inr ⟨h1,h0,c',a1,_,y1,a2,_,y2,_,rfl,h2,h3,h4,h5,h6⟩
theorem ZT (hx:LS.at cx [vf] (WX 0))(hS:St cx w L):KK Tryz.prog pP [.agg ⟨[vf]⟩, .slice none 0 0, .int .i64 9, .int .i64 0] w fun u w'=>∃c' u1 u2,cx.Le c'∧u= .tuple #[.agg ⟨[.int .i64 0,u1,u2, .int .i64 2]⟩, .agg ⟨[.int .i64 0, .int .i64 0]⟩]∧KM.sl c' u1 [5]∧KM.sl c' u2 []∧St c' w' L:=by
 refine (rX (m:=WX 0) (inp:=[]) (xF 0) hx (Gz _ _ _) hS).mono fun u w' hs=>?_;obtain ⟨-,c',v1,v2,h1,h2,h3,h4,h5⟩:=N4.ok QdN hs;rw [WZ] at h2 h3 h4;exact ⟨c',v1,v2,h1,h2,h3,h4,h5⟩
theorem W0 (hx:LS.at cx [vf] (WX 1))(hS:St cx w L):KK Tryz.prog pP [.agg ⟨[vf]⟩, .slice none 0 0, .int .i64 9, .int .i64 0] w fun u w'=>u= .tuple #[.agg ⟨[.int .i64 0, .slice none 0 0, .slice none 0 0, .int .i64 0]⟩, .agg ⟨[.int .i64 1, .int .i64 91]⟩]∧St cx w' L:=by
 refine (rX (m:=WX 1) (inp:=[]) (xF 1) hx (Gz _ _ _) hS).mono fun u w' hs=>?_;obtain ⟨h1,h2⟩:=N4.bad (by rw [xI];decide) hs;rw [xI] at h1;exact ⟨h1,h2⟩
theorem Qfu (hS:St cx w L):KK Tryz.prog QcR [] w fun u w'=>u= .bool true∧St cx w' L:=by
 have n1:∀c:Cx,KM.sl c (.slice none 0 0) []:=fun c=>Gz _ _ _;refine KY KX Tryz.func32 ?_;refine' Mf;refine' K3;refine' l0 (c:=eU hS);rintro v1 w1 ⟨c1,vf,hle1,rfl,hx1,hS⟩;refine' NN (c:=ZT hx1 hS);rintro v1 w1 ⟨c2,u1,u2,hle2,rfl,k1,k2,hS⟩;obtain ⟨a1,m1,rfl⟩:=FK k1;obtain ⟨a2,m2,rfl⟩:=FK k2;refine' Sm;intro p1 w1 hS;refine Qh hS ?_;intro p2 w1 hS;refine K1 hS ?_;intro w1 hS;have hS:=hS.ns;refine K1 hS ?_;intro w1 hS;have hS:=hS.ns;refine' U5;refine' l0 (c:=WY hS);rintro v1 w1 ⟨q1,q2,q3,la,lb,rfl,hS⟩;refine Qh hS ?_;intro p3 w1 hS;refine K1 hS ?_;intro w1 hS;have hS:=hS.ns;refine' P0;refine XT rfl rfl Jd Jd ?_;refine' Lw;refine LK hS [_] ?_;intro q4 w1 hS;refine XT rfl rfl Jd Jd ?_;refine' MR;refine' M6;refine Mi hS ?_;intro w1 hS;have hS:=hS.ns;refine' RD;obtain ⟨c3,hle3,hx3,hS⟩:=xG (q1:=q1) (q2:=q2) (q3:=q4) (la:=la) (lb:=lb) (n:=1) (L:=blk p1 33 [.int .i64 0, .slice a1 [5].length m1, .slice a2 ([]:List Int).length m2, .int .i64 2]::blk p2 29 [.int .i64 0, .int .i64 0]::blk p3 24 [.slice (some ⟨la,0,none⟩) 1 1]::L) hS.sp;refine' NN (c:=W0 hx3 hS);rintro v1 w1 ⟨rfl,hS⟩;refine' Sm;intro p4 w1 hS;refine Qh hS ?_;intro p5 w1 hS;refine K1 hS ?_;intro w1 hS;have hS:=hS.ns;refine K1 hS ?_;intro w1 hS;have hS:=hS.ns;refine' P0;refine' Qd;refine' zm;refine' Sh;(first|(refine' KP)|(refine' KQ;refine RJ (cs:=[_]) vw Jr ?_;intro q5 w1 hb1 hf1 _ hk1;have hS:=hS.laid hb1 hf1 hk1));(first|refine' KP|(refine' KQ;refine Nn [_,_,_,_] ?_));(first|(refine' KP)|(refine' KQ;obtain ⟨c6,hle6,hS,h6⟩:=Ge (r:=KM) (x:=5) hS rfl;refine' KU (c:=rY (GJ k1 (hle3.trans hle6)) (GJ k2 (hle3.trans hle6)) h6 (n1 _) hS);rintro v1 w1 ⟨rfl,hS⟩;rw [show decide ((0:Int)=0∧[(5:Int)]=[5]∧([]:List Int)=[]∧(2:Int)=2)=true by decide]));refine' OR;refine' zm;refine' Sh;(first|refine' KP|(refine' KQ;refine Nn [_,_] ?_));(first|(refine' KP)|(refine' KQ;refine ZH (a:=(1,91)) mR rfl rfl ?_));refine' OR;refine' Ly;(exact ⟨_,rfl,rfl,GY hS.sp (hle1.trans (hle2.trans (hle3.trans hle6)))⟩)
end
section
def H1:HT:=⟨182,278,131,46⟩
structure GZ where
 fn:Value
 fv:Value
 iv:Value
 e:Int
 bv:Value
 ov:Value
 fu:Int
 mo:Int
 dn:Bool
 c:Int
 a:Int
@[reducible] def MP (z:GZ)(b:Nat)(lv:Value)(left:Int):Res:=blk b 49 [z.fn,lv, .int .i64 left,z.fv,z.iv, .int .i64 z.e,z.bv,z.ov, .int .i64 z.fu, .int .i64 z.mo, .bool z.dn, .int .i64 z.c, .int .i64 z.a]
abbrev R4 (z:GZ)(b:Nat)(lv:Value)(left:Int)(rv:List RgnV)(L:List Res):List Res:=MP z b lv left::sl 131 4 lv (rv.map RgnV.cells)::LF (RgnV.res H1) rv::L
def PM (z:GZ)(N:Nat)(h:Value)(s:HpS):Res:=Res.ex fun x:Nat×Value×List RgnV=>Res.pure (h= .pointer (some ⟨x.1,1,none⟩)∧HpO N s x.2.2) (RK [MP z x.1 x.2.1 s.left,sl 131 4 x.2.1 (x.2.2.map RgnV.cells),LF (RgnV.res H1) x.2.2])
variable {z:GZ}{cx:Cx}{w:World}{L:List Res}{i:Nat}{N:Nat}{h:Value}{s:HpS}
theorem rZ (hS:St cx w (PM z N h s::L)):∃b lv rv,h= .pointer (some ⟨b,1,none⟩)∧HpO N s rv∧St cx w (R4 z b lv s.left rv L):=by
 obtain ⟨⟨b,lv,rv⟩,h⟩:=hS.ex;obtain ⟨⟨h0,h1⟩,h2⟩:=h.pure;exact ⟨b,lv,rv,h0,h1,h2.list⟩
theorem Qm (ho:HpO N s rv)(hS:St cx w (R4 z b lv s.left rv L)):St cx w (PM z N (.pointer (some ⟨b,1,none⟩)) s::L):=
 Kw (b,lv,rv) (St.pure' ⟨rfl,ho⟩ (JH hS))
theorem eY (hS:St cx w L)(hi:nth L i=some (PM z N (.pointer (some ⟨b,1,none⟩)) s)):∃lv rv,HpO N s rv∧St cx w (R4 z b lv s.left rv (L.eraseIdx i)):=by
 obtain ⟨b',lv,rv,he,ho,h⟩:=rZ (hS.out hi);cases he;exact ⟨lv,rv,ho,h⟩
theorem eZ (hS:St cx w L)(hi:nth L i=some (PM z N h s)):s.Ok N∧∃b,h= .pointer (some ⟨b,1,none⟩):=by
 obtain ⟨b,lv,rv,he,ho,_⟩:=rZ (hS.out hi);exact ⟨ho.ok,b,he⟩

variable {b:Nat}{lv:Value}{left:Int}{rv:List RgnV}
theorem fa (k:Int)(ho:HpO N s rv)(hS:St cx w (R4 z b lv left rv L)):KK Tryz.prog QcH [.pointer (some ⟨b,1,none⟩), .int .i64 k] w fun v w'=>v= .bool (s.has k)∧St cx w' (R4 z b lv left rv L):=by
 rcases (show (k<0∨(rv.length:Int)≤k)∨∃m:Nat,k=m∧m<rv.length by (by_cases h:k<0∨(rv.length:Int)≤k;(exact .inl h);exact .inr ⟨k.toNat,Jo,Jo⟩)) with hk|⟨m,rfl,hm⟩
 · have e0:=ho.out hk;(refine KY KX Tryz.func222 ?_;refine' Og;first|(refine' MV)|(refine' Nu)|(refine' Ag<;>intro hc));all_goals (refine' Ss;refine' NC;refine' TH;refine' Yx;refine' pn;refine' Xu;refine' PD;refine' PD;refine' Xx;exact ⟨_,rfl,by rw [e0],hS⟩)
 · obtain ⟨r,hr,hrs,_⟩:=ho.at_ hm;have e0:s.has m=r.there:=(by unfold HpS.has;rw [hrs];rfl);refine KY KX Tryz.func222 ?_;refine' Og;refine' MV;refine' Ss;refine' NC;(first|refine' KP|(refine' KQ;(first|(refine Q5 hS Ja rfl fd DD (LN hr) rfl ?_)|(refine zl hS ?_))));refine' Yx;(first|refine' KP|(refine' KQ;refine' LG));refine' OR;refine' RY;refine' NC;(first|refine' KP|(refine' KQ;(first|(refine Q5 hS Ja rfl fd DD (LN hr) rfl ?_)|(refine zl hS ?_))));refine' MT;(first|refine' KP|(refine' KQ;(first|(refine' N9;intro b1 o1 cs1 x1 hat1 hx1 he1;obtain ⟨vp1,vr1,vb1,rfl,hp1,hr1,hb1⟩:=QC he1)|(refine Rf hS ?_;intro b1 o1 hel1))));refine' NC;(first|refine' KP|(refine' KQ;refine Q5 hS Ja rfl fd DT (LN hr) rfl ?_));refine' OR;refine' Ly;(exact ⟨_,rfl,by rw [e0],hS⟩)
theorem mT (v:Val)(ho:HpO N s rv)(hS:St cx w (R4 z b lv left rv L)):KK Tryz.prog Q9Y [.pointer (some ⟨b,1,none⟩),v.v] w fun u w'=>St cx w' (R4 z b lv left rv L)∧(s.at_ v=none∧u= .pointer none∨∃k t th,s.at_ v=some (k,t)∧jV rv k t th u):=by
 by_cases hv:v.kind=3∨v.kind=4
 · cases hh:s.has v.region with
   | false=>
     (have e0:s.at_ v=none:=(by unfold HpS.at_;rw [if_neg (by rw [hh];simp)]);refine KY KX Tryz.func224 ?_;refine' K3;refine Ov hS vw Jr ?_;intro b3 w1 hS;simp only [Val.cells] at hS;refine' S8;refine zD (ci 35 [12,34]) ?_;have hS:=hS.drew;refine' Lw;first|(refine' QG)|(refine' QI)|(refine' Ad<;>intro hc));all_goals (refine' Ms;refine' jq;refine' PE;refine' Nv;(first|refine' KP|(refine' KQ;refine' KU (c:=fa _ ho (IL hS));rintro v1 w1 ⟨rfl,hS⟩;rw [hh]));refine' OG;refine' Xu;refine' YA;refine' KP;refine' OR;refine' zm;refine' PD;refine' PD;refine' PD;refine' KP;refine' OR;refine' Sx;refine' Lh;exact BQ)
   | true=>
     obtain ⟨vk,vr,vt,vn⟩:=v;have hv':vk=3∨vk=4:=hv;obtain ⟨m,rfl,hm⟩:=ho.has_in hh;obtain ⟨r,hr,hrs,_⟩:=ho.at_ hm;have hrl:(s.reg (m:Int)).l.length=r.l.length:=(by rw [hrs];exact AR);have hrn:=(ho.rng hr).1;have hmt:(m:Int).toNat=m:=DB;by_cases ht:0≤vt∧vt<r.l.length
     · obtain ⟨t,rfl⟩:=G4 ht.1
       have htt:(t:Int).toNat=t:=DB;obtain ⟨th,hth⟩:∃th,r.l[t]?=some th:=⟨_,FB Jo⟩;have hthg:=ho.thg hr hth
       have e1:s.at_ ⟨vk,m,t,vn⟩=if th.array=decide (vk=4) then some (m,t) else none:=by
        unfold HpS.at_;simp only [hmt,htt,hthg,hh,hrl];by_cases ha:th.array=decide (vk=4)
        · rw [if_pos ⟨hv',trivial,ht.1,ht.2,ha⟩,if_pos ha]
        · rw [if_neg (fun h=>ha h.2.2.2.2),if_neg ha]
       ((refine KY KX Tryz.func224 ?_;refine' K3;refine Ov hS vw Jr ?_;intro b3 w1 hS;simp only [Val.cells] at hS;refine' S8;refine zD (ci 35 [12,34]) ?_;have hS:=hS.drew;refine' MR;(first|(refine Q5 hS Ja rfl fd DD (LN hr) rfl ?_)|(refine Q5 (NK (H:=H1) hS hr) Ja rfl Lr DD (PK hth) rfl ?_)|(refine zl hS ?_));first|(refine' QG)|(refine' QI)|(refine' Ad<;>intro hc));all_goals (refine' zm;refine' Nf;(first|refine' KP|(refine' KQ;(first|(refine Q5 hS Ja rfl fd DD (LN hr) rfl ?_)|(refine Q5 (NK (H:=H1) hS hr) Ja rfl Lr DD (PK hth) rfl ?_)|(refine zl hS ?_))));refine' jq;refine' PE;refine' Nf;(first|refine' KP|(refine' KQ;(first|(refine Q5 hS Ja rfl fd DD (LN hr) rfl ?_)|(refine Q5 (NK (H:=H1) hS hr) Ja rfl Lr DD (PK hth) rfl ?_)|(refine zl hS ?_))));(first|refine' KP|(refine' KQ;refine' KU (c:=fa _ ho (IL hS));rintro v1 w1 ⟨rfl,hS⟩;rw [hh]));refine' OG;refine' Xu;refine' Nf;(first|refine' KP|(refine' KQ;(first|(refine Q5 hS Ja rfl fd DD (LN hr) rfl ?_)|(refine Q5 (NK (H:=H1) hS hr) Ja rfl Lr DD (PK hth) rfl ?_)|(refine zl hS ?_))));refine' pn;refine' Xu;refine' Nf;(first|refine' KP|(refine' KQ;(first|(refine Q5 hS Ja rfl fd DD (LN hr) rfl ?_)|(refine Q5 (NK (H:=H1) hS hr) Ja rfl Lr DD (PK hth) rfl ?_)|(refine zl hS ?_))));refine' Xs;refine' NC;(first|refine' KP|(refine' KQ;(first|(refine Q5 hS Ja rfl fd DD (LN hr) rfl ?_)|(refine Q5 (NK (H:=H1) hS hr) Ja rfl Lr DD (PK hth) rfl ?_)|(refine zl hS ?_))));refine' Nf;(first|refine' KP|(refine' KQ;(first|(refine Q5 hS Ja rfl fd DD (LN hr) rfl ?_)|(refine Q5 (NK (H:=H1) hS hr) Ja rfl Lr DD (PK hth) rfl ?_)|(refine zl hS ?_))));(first|refine' KP|(refine' KQ;(first|(refine PQ (NK (H:=H1) hS hr) vw rfl Lr E2 ?_;rw [FF];intro b5 o5 hel5)|(refine' N9;intro b1 o1 cs1 x1 hat1 hx1 he1;obtain ⟨vp1,vr1,vb1,rfl,hp1,hr1,hb1⟩:=QC he1)|(refine Rf hS ?_;intro b1 o1 hel1))));refine' NC;(first|refine' KP|(refine' KQ;refine Q5 hS Ja rfl fd DT (LN hr) rfl ?_));(first|(refine' KP)|(refine' KQ;refine QL (NK (H:=H1) hS hr) vw Lr DD ?_))));all_goals (refine' l5;refine' LH)
       all_goals
        first
        | (refine' KN;all_goals (refine' Lh);all_goals (exact BU))
        | (refine' KO;all_goals refine' KV)
       all_goals (refine Qo ?_;have hS:St cx _ (R4 z b lv left rv _):=(by exact hS);refine zD (ci 13 [12]) ?_;have hS:=hS.drew;refine' zm;refine' S3;refine' M6;(first|(refine Q5 hS Ja rfl fd DD (LN hr) rfl ?_)|(refine Q5 (NK (H:=H1) hS hr) Ja rfl Lr DD (PK hth) rfl ?_)|(refine zl hS ?_));refine' MR;(first|(refine Q5 hS Ja rfl fd DT (LN hr) rfl ?_)|(refine Q5 (NK (H:=H1) hS hr) Ja rfl Lr DD (PK hth) rfl ?_)|(refine zl hS ?_));(first|(refine PQ (NK (H:=H1) hS hr) vw rfl Lr E2 ?_;rw [FF];intro b5 o5 hel5)|(refine' N9;intro b2 o2 cs2 x2 hat2 hx2 he2;obtain ⟨vp2,vr2,vb2,rfl,hp2,hr2,hb2⟩:=QC he2)|(refine Rf hS ?_;intro b2 o2 hel2));refine' M6;refine Q5 hS Ja rfl fd DT (LN hr) rfl ?_;refine' MR;(first|(refine Q5 hS Ja rfl fd DT (LN hr) rfl ?_)|(refine Q5 (NK (H:=H1) hS hr) Ja rfl Lr DD (PK hth) rfl ?_)|(refine zl hS ?_));refine PQ (NK (H:=H1) hS hr) vw rfl Lr DM ?_;rw [FF];intro b5 o5 hel5;refine' zm;refine' zn;refine Qo ?_;refine Qo ?_;refine zD (ci 8 [7]) ?_;have hS:=hS.drew;refine' zm;refine' S3;refine' M6;(first|(refine Q5 hS Ja rfl fd DD (LN hr) rfl ?_)|(refine Q5 (NK (H:=H1) hS hr) Ja rfl Lr DD (PK hth) rfl ?_));refine' MR;(first|(refine Q5 hS Ja rfl fd DT (LN hr) rfl ?_)|(refine Q5 (NK (H:=H1) hS hr) Ja rfl Lr DD (PK hth) rfl ?_)|(refine zl hS ?_));cases hta:th.array<;>by_cases hk4:vk=4<;>first|(refine sV rfl rfl hk4 ?_)|(refine sW rfl rfl hk4 ?_));all_goals ((first|refine Ye Jk rfl rfl rfl ?_|refine ax Jk rfl rfl ?_);refine' zn)
       all_goals
        first
        | (refine' KN;all_goals (refine' Lh);all_goals (exact BU))
        | (refine' KO;all_goals refine' KV)
       all_goals (refine' RV;(first|exact BU|exact ⟨_,rfl,hS.sp, .inr ⟨m,t,th,by rw [e1];simp [hta,hk4],r,b5,o5,hr,hth,rfl,hel5⟩⟩))
     · have e0:s.at_ ⟨vk,m,vt,vn⟩=none:=(by unfold HpS.at_;rw [if_neg fun h=>ht ⟨h.2.2.1,by have:=h.2.2.2.1;simp only [hrl] at this;exact this⟩]);(refine KY KX Tryz.func224 ?_;refine' K3;refine Ov hS vw Jr ?_;intro b3 w1 hS;simp only [Val.cells] at hS;refine' S8;refine zD (ci 35 [12,34]) ?_;have hS:=hS.drew;refine' MR;(first|(refine Q5 hS Ja rfl fd DD (LN hr) rfl ?_)|(refine zl hS ?_));first|(refine' QG)|(refine' QI)|(refine' Ad<;>intro hc));all_goals (refine' zm;refine' Nf;(first|refine' KP|(refine' KQ;(first|(refine Q5 hS Ja rfl fd DD (LN hr) rfl ?_)|(refine zl hS ?_))));refine' jq;refine' PE;refine' Nf;(first|refine' KP|(refine' KQ;(first|(refine Q5 hS Ja rfl fd DD (LN hr) rfl ?_)|(refine zl hS ?_))));(first|refine' KP|(refine' KQ;refine' KU (c:=fa _ ho (IL hS));rintro v1 w1 ⟨rfl,hS⟩;rw [hh]));refine' OG;refine' Xu;refine' Nf;(first|refine' KP|(refine' KQ;(first|(refine Q5 hS Ja rfl fd DD (LN hr) rfl ?_)|(refine zl hS ?_))));first|refine' KP|(refine' KQ;(first|(refine' LG)|(refine' LM)|(refine' Ae<;>intro hc))));all_goals (refine' Xu;refine' Nf;(first|refine' KP|(refine' KQ;(first|(refine Q5 hS Ja rfl fd DD (LN hr) rfl ?_)|(refine zl hS ?_))));refine' Xs;refine' NC;(first|refine' KP|(refine' KQ;(first|(refine Q5 hS Ja rfl fd DD (LN hr) rfl ?_)|(refine zl hS ?_))));refine' Nf;(first|refine' KP|(refine' KQ;(first|(refine Q5 hS Ja rfl fd DD (LN hr) rfl ?_)|(refine zl hS ?_))));(first|refine' KP|(refine' KQ;(first|(refine' N9;intro b1 o1 cs1 x1 hat1 hx1 he1;obtain ⟨vp1,vr1,vb1,rfl,hp1,hr1,hb1⟩:=QC he1)|(refine Rf hS ?_;intro b1 o1 hel1))));refine' NC;(first|refine' KP|(refine' KQ;refine Q5 hS Ja rfl fd DT (LN hr) rfl ?_));(first|refine' KP|(refine' KQ;refine QL (NK (H:=H1) hS hr) vw Lr DD ?_));(first|refine' KP|(refine' KQ;refine' MV));refine' LH;refine' KN;refine' Lh;exact BQ)
 · have e0:s.at_ v=none:=(by unfold HpS.at_;rw [if_neg fun h=>hv h.1]);refine KY KX Tryz.func224 ?_;refine' K3;refine Ov hS vw Jr ?_;intro b3 w1 hS;simp only [Val.cells] at hS;refine' S8;refine zD (ci 35 [12,34]) ?_;have hS:=hS.drew;refine' Lw;refine' QG;refine' Ms;(first|refine' KP|(refine' KQ;refine' QG));refine' OR;refine' zm;refine' PD;refine' KP;refine' OR;refine' zm;refine' YA;refine' KP;refine' OR;refine' zm;refine' PD;refine' PD;refine' PD;refine' KP;refine' OR;refine' Sx;refine' Lh;(exact BQ)
end
section
variable {z:GZ}{cx:Cx}{w:World}{L:List Res}{i:Nat}{N:Nat}{h:Value}{s:HpS}
theorem Qiy:N6 Tryz.prog 129=some (278,2,32,[.bool false, .slice none 0 0]):=by kernel_rfl
theorem Qiz:N6 Tryz.prog 44=some (131,4,48,[.bool false, .slice none 0 0, .int .i64 0, .int .i64 0]):=by kernel_rfl
theorem mU:N6 Tryz.prog 117=some (182,4,32,[.int .i64 0, .int .i64 0, .int .i64 0, .int .i64 0]):=by kernel_rfl
theorem Qgz:∃e2,Tryz.prog.underlying 129=some (.slice e2):=⟨278,by kernel_rfl⟩
theorem QgA:∃e2,Tryz.prog.underlying 44=some (.slice e2):=⟨131,by kernel_rfl⟩
theorem mV:∃e2,Tryz.prog.underlying 117=some (.slice e2):=⟨182,by kernel_rfl⟩
theorem QhZ {l:List Rgn}(h:j<l.length):(l.take (j+1)).countP (fun r=>r.there)=(l.take j).countP (fun r=>r.there)+if (l.getD j Rgn.none).there then 1 else 0:=by
 rw [td Rgn.none h,I6,List.countP_singleton]
theorem xJ {left:Int}(ho:HpO N s rv)(hN:N≤100000)(hS:St cx w (R4 z b lv left rv L)):KK Tryz.prog z9 [.pointer (some ⟨b,1,none⟩)] w fun u w'=>u= .int .i64 s.live∧St cx w' (R4 z b lv left rv L):=by
 have hlen:=ho.len;have hsl:=ho.ok.len;refine KY KX Tryz.func28 ?_;refine' Mf;refine' Mf;refine' M8;refine zo [] (fun A ρ' w'=>∃(j n:Nat),KR ρ' A∧KR ρ' [(0, .pointer (some ⟨b,1,none⟩)),(3, .int .i64 n),(4, .int .i64 j)]∧(j≤rv.length)∧(n=(s.l.take j).countP (fun r=>r.there))∧St cx w' (R4 z b lv left rv L)) (fun ρ' _=>(rv.length - iv (ρ' 4)).toNat) ?_ ?_
 · exact ⟨0,0,zh,zh,Jo,(by first|omega|assumption|rfl),hS.sp⟩
 rintro ρ w1 ⟨j,n,hA,hρ,hj,hn,hS⟩;obtain ⟨ρ,rfl⟩:=KS hA hρ;have hcl:=List.countP_le_length (p:=fun r:Rgn=>r.there) (l:=s.l.take j);have htl:=List.length_take_le j s.l;refine' PB;refine' ML;(first|(refine Q5 hS Ja rfl fd DD (LN hr) rfl ?_)|(refine zl hS ?_));refine' aT;refine' RU;refine' Ab<;>intro hc
 · skip
   refine' Rm;obtain ⟨r,hr,hrs,hsl2⟩:=ho.at_ (k:=j) Jo;have hcs:=QhZ (l:=s.l) (j:=j) Jo;have hrg:s.l.getD j Rgn.none=r.abs:=(by rw [FE,hsl2];rfl);rw [hrg] at hcs;refine' Mj;refine' ML;(first|(refine Q5 hS Ja rfl fd DD (LN hr) rfl ?_)|(refine zl hS ?_));refine' zm;(first|(refine' N9;intro b1 o1 cs1 x1 hat1 hx1 he1;obtain ⟨vp1,vr1,vb1,rfl,hp1,hr1,hb1⟩:=QC he1)|(refine Rf hS ?_;intro b1 o1 hel1));refine' M6;refine Q5 hS Ja rfl fd DT (LN hr) rfl ?_;refine' zn;refine' Aa<;>intro hc
   · skip;refine' Mk;refine' Mk;(exact Dt)
   · skip;refine' KV;refine' Mk;(first|(exact Dt)|(exact ⟨⟨j+1,n,zh,zh,Jo,(by rw [hcs,hn,if_neg (show¬r.abs.there=true from by rw [show r.abs.there=false from hc];simp)];rfl),hS.sp⟩,Qc Jo⟩))
 · skip;refine' U2;(have hn':n=s.live:=(by unfold HpS.live;rw [hn,Gd Jo]);exact ⟨_,rfl,by rw [hn'],hS⟩)
theorem W1 (hN:N≤100000)(hS:St cx w L)(hi:nth L i=some (PM z N h s)):KK Tryz.prog Qbn [h] w fun u w'=>u= .tuple #[s.openV.v, .bool (!s.full)]∧St cx w' (L.set i (PM z (N+1) h s.open)):=by
 obtain ⟨hok,b,rfl⟩:=eZ hS hi;obtain ⟨lv,rv,ho,hS⟩:=eY hS hi;have hlv:=hok.live;have hlen:=ho.len;have hsl:=hok.len
 cases hf:s.full with
 | true=>
   have h16:s.live=16:=of_decide_eq_true hf;have e1:s.open=s:=EJ;have e2:s.openV=Val.zero:=(by unfold HpS.openV;rw [hf];rfl);rw [e1,e2];refine KY KX Tryz.func123 ?_;refine' RW;(intro p2 w1 hS);refine' Pz;refine' Lf (c:=xJ ho hN (IL hS));rintro v1 w1 ⟨rfl,hS⟩;refine' MV;refine' Sx;refine' K3;refine M5 [_,_,_,_] ?_;((refine K1 hS ?_;intro w1 hS;have hS:=hS.ns));refine' MU;refine MQ vw (Q2 (n:=4) Jk Jk (hS.blkAt fd) Jr Jr) vw ?_;((exact ⟨_,rfl,rfl,(Qm (⟨ho.hr,hok.mono Jo⟩:HpO (N+1) s rv) (L:=L.eraseIdx i) hS.sp).back hi⟩))
 | false=>
   have h16:s.live≠16:=of_decide_eq_false hf;have e1:s.open=⟨s.l++[⟨true,[],0,0⟩],s.left⟩:=EJ;have e2:s.openV=⟨2,s.l.length,0,0⟩:=(by unfold HpS.openV;rw [hf];rfl);have ho2:HpO (N+1) s.open (rv++[⟨true, .slice none 0 0,[],0,0⟩]):=⟨by rw [Ga,ho.hr,e1];rfl,HpS.ok_open hok⟩;refine KY KX Tryz.func123 ?_;refine' RW;intro p2 w1 hS;refine' Pz;refine' Lf (c:=xJ ho hN (IL hS));rintro v1 w1 ⟨rfl,hS⟩;(first|(refine' MV)|(refine' Nu));refine' Sy;refine' Lu;refine' ML;refine zl hS ?_;refine PW [_,_,_,_] ?_;refine LK hS [_,_,_,_] ?_;intro b1 w1 hS;refine Ow Qiz (.inl QgA) hS vw vw fd (hS.srcB fd Jr DH) DM ?_;intro v7 w7 hS;have hS:=hS.ns;refine' ML;refine Mi hS ?_;intro w1 hS;have hS:=hS.ns;refine' Nb;refine' ML;refine zl hS ?_;refine QL (n:=rv.length+1) hS vw fd Js ?_;refine' PV;rw [show ((rv.length+1:Nat):Int) - 1=s.l.length by omega];refine Nn [_,_,_,_] ?_;refine K1 hS ?_;intro w1 hS;have hS:=hS.ns;refine' MU;refine MQ vw (Q2 (n:=4) Jk Jk (hS.blkAt fd) Jr Jr) vw ?_;(rw [e2];refine ⟨_,rfl,rfl,(Qm (lv:=v7) ho2 (L:=L.eraseIdx i) ?_).back hi⟩;have hS:St cx _ (LF (RgnV.res H1) rv::MP z b v7 s.left::sl 131 4 v7 ((rv++[(⟨true, .slice none 0 0,[],0,0⟩:RgnV)]).map RgnV.cells)::L.eraseIdx i):=(by rw [Ga];exact AB);have hS:=H9 (Ic (T:=H1.Tt) (es:=2) (IK (ThgV.res H1) hS));have hS:=Jy (f:=RgnV.res H1) (l:=rv) (x:=⟨true, .slice none 0 0,[],0,0⟩) hS;rw [e1];exact hS.sp)
theorem QiR {k:Nat}(hk:k<rv.length){x y:Res}(hS:St cx w (x::y::LF (RgnV.res H1) (rv.eraseIdx k)::L)):St cx w (x::y::LF (RgnV.res H1) (rv.set k RgnV.nil)::L):=
 qt (H:=H1) (r:=RgnV.nil) hk (Ic (IK (ThgV.res H1) hS))
theorem W2 (v:Val)(hS:St cx w L)(hi:nth L i=some (PM z N h s)):KK Tryz.prog Qbm [h,v.v] w fun u w'=>u= .bool (s.can v)∧St cx w' (L.set i (PM z N h (s.shut v))):=by
 obtain ⟨hok,b,rfl⟩:=eZ hS hi;obtain ⟨lv,rv,ho,hS⟩:=eY hS hi;by_cases hk:v.kind=2
 · cases hh:s.has v.region with
   | false=>
     have hcan:s.can v=false:=E5;rw [shut_no hcan,hcan];refine KY KX Tryz.func186 ?_;refine' K3;refine Ov hS vw Jr ?_;intro b6 w1 hS;simp only [Val.cells] at hS;refine' Sq;refine' UT;refine' Mr;refine' Nv;(first|refine' KP|(refine' KQ;refine' KU (c:=fa _ ho (IL hS));rintro v1 w1 ⟨rfl,hS⟩;rw [hh]));refine' OG;refine' LH;refine' KN;refine' Lh;(exact AT)
   | true=>
     obtain ⟨vk,vr,vt,vn⟩:=v;obtain rfl:vk=2:=hk;obtain ⟨m,rfl,hm⟩:=ho.has_in hh;replace hh:s.has (m:Int)=true:=hh;obtain ⟨r,hr,hrs,hsl⟩:=ho.at_ hm;have hcan:s.can ⟨2,m,vt,vn⟩=true:=(by unfold HpS.can;rw [hh];rfl);have hrn:=ho.rng hr;have hpg:=hok.pages;have hpr':r.pages+s.left≤1000:=hpg.2 r.abs (FC hsl);have hl0:=hok.left;have hlm:(rv.map RgnV.cells).length=rv.length:=FF _;have e1:s.shut ⟨2,m,vt,vn⟩=⟨s.l.set m Rgn.none,s.left+r.pages⟩:=(by unfold HpS.shut;rw [if_pos hcan];simp only [hrs,F9];rfl);have ho2:HpO N (s.shut ⟨2,m,vt,vn⟩) (rv.set m RgnV.nil):=⟨by rw [G8,ho.hr,e1];rfl,by rw [e1];exact HpS.ok_shut hok hsl⟩;rw [hcan];refine KY KX Tryz.func186 ?_;refine' K3;refine Ov hS vw Jr ?_;intro b6 w1 hS;simp only [Val.cells] at hS;refine' OS;refine' Su;(first|(refine Q5 hS hel rfl fd hlm (LN hr) rfl ?_)|(refine zl hS ?_));refine' UT;refine' Mr;refine' Nf;(first|refine' KP|(refine' KQ;(first|(refine Q5 hS hel rfl fd hlm (LN hr) rfl ?_)|(refine zl hS ?_))));(first|refine' KP|(refine' KQ;refine' KU (c:=fa _ ho (IL hS));rintro v1 w1 ⟨rfl,hS⟩;rw [hh]));refine' OG;refine' LH;refine' Si;refine Qo ?_;refine zD (ci 17 [16]) ?_;have hS:=hS.drew;refine' PG;(first|(refine Q5 hS hel rfl fd hlm (LN hr) rfl ?_)|(refine zl hS ?_));refine' PG;(first|(refine Q5 hS hel rfl fd hlm (LN hr) rfl ?_)|(refine zl hS ?_));refine' MR;(first|(refine Q5 hS hel rfl fd hlm (LN hr) rfl ?_)|(refine zl hS ?_));refine PQ hS vw rfl fd Jo ?_;rw [hlm];intro b12 o12 hel;refine' M6;refine Q5 hS hel rfl fd hlm (LN hr) rfl ?_;refine' NH;refine' ML;refine Mi hS ?_;intro w1 hS;have hS:=hS.ns;refine' MM;refine zD (ci 9 [8]) ?_;have hS:=hS.drew;refine' PG;(first|(refine Q5 hS hel rfl fd hlm (LN hr) rfl ?_)|(refine zl hS ?_));refine' MR;(first|(refine Q5 hS hel rfl fd hlm (LN hr) rfl ?_)|(refine zl hS ?_));refine M5 [_,_,_,_] ?_;refine PQ hS vw rfl fd Jo ?_;rw [hlm];intro b12 o12 hel;refine iR hS hel rfl rfl Jr fd hlm (LN hr) rfl DH (bm (r':=RgnV.nil)) ?_;intro w8 hS;have hS:=hS.ns;have hS:=QiR hm ((NK (H:=H1) hS hr).drop.drop);refine' zn;refine' Lh;(exact ⟨_,rfl,rfl,(Qm ho2 (L:=L.eraseIdx i) (by rw [e1];exact hS.sp)).back hi⟩)
 · have hcan:s.can v=false:=EP;rw [shut_no hcan,hcan];refine KY KX Tryz.func186 ?_;refine' K3;refine Ov hS vw Jr ?_;intro b6 w1 hS;simp only [Val.cells] at hS;refine' Sq;refine' QG;refine' zm;refine' PD;refine' KP;refine' OR;refine' Sx;refine' Lh;((exact AT))
theorem ZU (v:Val)(hS:St cx w L)(hi:nth L i=some (PM z N h s)):KK Tryz.prog QcK [h,v.v] w fun u w'=>u= .tuple #[.int .i64 (s.len v).1, .int .i64 (s.len v).2]∧St cx w' L:=by
 obtain ⟨hok,b,rfl⟩:=eZ hS hi;obtain ⟨lv,rv,ho,hS⟩:=eY hS hi;refine KY KX Tryz.func193 ?_;refine' K3;refine Ov hS vw Jr ?_;intro b6 w1 hS;refine' zm;refine' Mz;refine zv hS ?_;refine' KU (c:=mT v ho (IL hS));rintro v1 w1 ⟨hS,(⟨e0,rfl⟩|⟨k,t,th,e0,r,b7,o7,hr,hth,rfl,hel⟩)⟩;all_goals (refine' Pz;(first|refine ox (e:=278) Jk rfl rfl ?_|refine oy (e:=278) Jk rfl rfl ?_);refine' zn)
 all_goals
  first
  | (refine' KN;refine' Sp;(first|exact CQ|exact ⟨_,rfl,by unfold HpS.len;rw [e0],(Qm ho (L:=L.eraseIdx i) hS.sp).back0 hi⟩))
  | (refine' KO;refine' KV)
 refine' Ls;refine' ML;refine Q5 (NK (H:=H1) hS hr) hel rfl Lr (FF _) (PK hth) rfl ?_;refine QL (gI (H:=H1) (NK (H:=H1) hS hr) hth) vw Lr DD ?_;refine' O7;(exact CQ)
theorem mW (v:Val)(k:Int)(hS:St cx w L)(hi:nth L i=some (PM z N h s)):KK Tryz.prog QcL [h,v.v, .int .i64 k] w fun u w'=>u= .tuple #[(s.get v k).1.v, .int .i64 (s.get v k).2]∧St cx w' L:=by
 obtain ⟨hok,b,rfl⟩:=eZ hS hi;obtain ⟨lv,rv,ho,hS⟩:=eY hS hi;refine KY KX Tryz.func190 ?_;refine' K3;refine Ov hS vw Jr ?_;intro b6 w1 hS;refine Qh hS ?_;intro b8 w1 hS;refine' Mz;refine zv hS ?_;refine' KU (c:=mT v ho (KG hS));rintro v1 w1 ⟨hS,(⟨e0,rfl⟩|⟨kr,t,th,e0,r,b7,o7,hr,hth,rfl,hel⟩)⟩;all_goals (refine' Pz;(first|refine ox (e:=278) Jk rfl rfl ?_|refine oy (e:=278) Jk rfl rfl ?_);refine' zn)
 all_goals
  first
  | (refine' KO;refine' KV)
  | (refine' KN;refine' K3;refine M5 [_,_,_,_] ?_;refine K1 hS ?_;intro w1 hS;have hS:=hS.ns;refine' MU;refine MQ vw (Q2 (n:=4) Jk Jk (hS.blkAt fd) Jr Jr) vw ?_;((have hge:s.get v k=(Val.zero,20):=EH;rw [hge];exact A7)))
 refine' M8;have hge:s.get v k=(if 0≤k∧k<th.l.length then (th.l.getD k.toNat Val.zero,0) else (Val.zero,1)):=(by unfold HpS.get;rw [e0];simp only [ho.thg hr hth];rfl);have hth1:=(ho.rng hr).2.1 th (FC hth);refine zo [] (fun A ρ' w'=>∃(j:Nat),KR ρ' A∧KR ρ' [(0, .pointer (some ⟨b,1,none⟩)),(2, .int .i64 k),(6, .pointer (some ⟨b8,0,none⟩)),(8, .pointer (some ⟨b7,o7,none⟩)),(9, .int .i64 j)]∧(j≤th.l.length)∧(¬(0≤k∧k<j))∧St cx w' (R4 z b lv s.left rv (blk b8 182 [.int .i64 0, .int .i64 0, .int .i64 0, .int .i64 0]::L.eraseIdx i))) (fun ρ' _=>(th.l.length - iv (ρ' 9)).toNat) ?_ ?_
 · exact ⟨0,zh,zh,Jo,Jo,hS.sp⟩
 rintro ρ w1 ⟨j,hA,hρ,hj,hjk,hS⟩;obtain ⟨ρ,rfl⟩:=KS hA hρ;refine' PB;refine' ML;refine Q5 (NK (H:=H1) hS hr) hel rfl Lr (FF _) (PK hth) rfl ?_;refine QL (gI (H:=H1) (NK (H:=H1) hS hr) hth) vw Lr DD ?_;refine' RU;refine' Ab<;>intro hc
 · skip
   (refine' MF;refine' Lu;first|(refine' Qd)|(refine' Qi)|(refine' Ac<;>intro hc));all_goals (refine' zn)
   all_goals
    first
    | (refine' KN;refine' Ls;refine' ML;refine Q5 (NK (H:=H1) hS hr) hel rfl Lr (FF _) (PK hth) rfl ?_;refine' zm;refine PQ (gI (H:=H1) (NK (H:=H1) hS hr) hth) vw rfl Lr DM ?_;rw [FF];intro b9 o9 hel9;refine OY (gI (H:=H1) (NK (H:=H1) hS hr) hth) hel9 rfl Lr (FF _) (bn Jo) ?_;refine Rb hS rfl rfl Jr fd Js (XC _) Jr ?_;intro w1 hS;have hS:=hS.ns;refine' MU;refine MQ vw (Q2 (n:=4) Jk Jk (hS.blkAt fd) Jr Jr) vw ?_;(first|(have hge:s.get v k=(Val.zero,20):=EH;rw [hge];exact A7)|(rw [if_neg Jo] at hge;rw [hge];exact A7)|(obtain rfl:k=(j:Int):=DB;rw [if_pos Jo,F9] at hge;rw [hge];exact A7)))
    | (refine' KO;refine' KV)
   refine' Mk;(exact ⟨⟨j+1,zh,zh,Jo,Jo,hS.sp⟩,Qc Jo⟩)
 · skip;refine' L7;refine' K3;refine M5 [_,_,_,_] ?_;refine K1 hS ?_;intro w1 hS;have hS:=hS.ns;refine' MU;refine MQ vw (Q2 (n:=4) Jk Jk (hS.blkAt fd) Jr Jr) vw ?_;((first|(have hge:s.get v k=(Val.zero,20):=EH;rw [hge];exact A7)|(rw [if_neg Jo] at hge;rw [hge];exact A7)))
theorem xK (v:Val)(k:Int)(x:Val)(hS:St cx w L)(hi:nth L i=some (PM z N h s)):KK Tryz.prog QcI [h,v.v, .int .i64 k,x.v] w fun u w'=>u= .int .i64 (s.setC v k x)∧St cx w' (L.set i (PM z N h (s.set v k x))):=by
 obtain ⟨hok,b,rfl⟩:=eZ hS hi;obtain ⟨lv,rv,ho,hS⟩:=eY hS hi
 cases e0:s.at_ v with
 | none=>
   have hc1:s.setC v k x=20:=(by unfold HpS.setC;rw [e0]);rw [dG Jo,hc1];refine KY KX Tryz.func191 ?_;refine' K3;refine Ov hS vw Jr ?_;intro b6 w1 hS;refine Ov hS vw Jr ?_;intro b8 w1 hS;refine' Mz;refine zv hS ?_;refine' KU (c:=mT v ho (KG hS));rintro v1 w1 ⟨hS,hx⟩;obtain ⟨_,rfl⟩:=hx.resolve_right (fun ⟨_,_,_,e1,_⟩=>by rw [e0] at e1;cases e1);refine' Pz;refine ox (e:=278) Jk rfl rfl ?_;refine' zm;refine' PD;refine' PD;refine' KP;refine' OR;refine' Sx;refine' Lh;((exact AT))
 | some p=>
   obtain ⟨kr,t⟩:=p;refine KY KX Tryz.func191 ?_;refine' K3;refine Ov hS vw Jr ?_;intro b6 w1 hS;refine Ov hS vw Jr ?_;intro b8 w1 hS;simp only [Val.cells] at hS;refine' Mz;refine zv hS ?_;refine' KU (c:=mT v ho (KG hS));rintro v1 w1 ⟨hS,hx⟩;obtain ⟨kr',t',th,e1,r,b7,o7,hr,hth,rfl,hel⟩:=hx.resolve_left (fun h=>by rw [e0] at h;cases h.1);rw [e0] at e1;cases e1;have hge:s.setC v k x=(if th.array=true∧x.kind≠1 then 20 else if 0≤k∧k<th.l.length then 0 else 1):=(by unfold HpS.setC;rw [e0];simp only [ho.thg hr hth];rfl);have hth1:=(ho.rng hr).2.1 th (FC hth);refine' K5;refine zM [] (fun A ρ' w'=>KR ρ' A∧KR ρ' [(0, .pointer (some ⟨b,1,none⟩)),(2, .int .i64 k),(7, .pointer (some ⟨b8,0,none⟩)),(9, .pointer (some ⟨b7,o7,none⟩))]∧(¬(th.array=true∧x.kind≠1))∧St cx w' (R4 z b lv s.left rv (blk b8 182 [.int .i64 x.kind, .int .i64 x.region, .int .i64 x.thing, .int .i64 x.n]::L.eraseIdx i))) ?_ ?_
   · skip
     refine Qo ?_;refine' Mm;refine' zm;refine oy (e:=278) Jk rfl rfl ?_;refine' zm;refine' MT;refine' aR;refine' NC;refine' KQ;refine Q5 (j:=0) (u:= .bool th.array) (NK (H:=H1) hS hr) hel rfl Lr (FF _) (PK hth) rfl ?_;cases hta:th.array<;>by_cases hx1:x.kind=1;all_goals (refine' MT;refine' Nf;(first|refine' KP|(refine' KQ;(first|(refine Q5 (NK (H:=H1) hS hr) hel rfl Lr (FF _) (PK hth) rfl ?_)|(refine zl hS ?_))));refine' jq;refine' Yw;refine' LH)
     all_goals
      first
      | (refine' KN;refine' Lh;((have hc1:s.setC v k x=20:=EL;rw [dG Jo,hc1];exact AT)))
      | (refine' KO;all_goals refine' KV)
     all_goals (exact ⟨zh,zh,(by simp [hta,hx1]),hS.sp⟩)
   rintro ρ w1 ⟨hA,hρ,hta,hS⟩;obtain ⟨ρ,rfl⟩:=KS hA hρ;refine' M8;refine zo [] (fun A ρ' w'=>∃(j:Nat),KR ρ' A∧KR ρ' [(0, .pointer (some ⟨b,1,none⟩)),(2, .int .i64 k),(7, .pointer (some ⟨b8,0,none⟩)),(9, .pointer (some ⟨b7,o7,none⟩)),(10, .int .i64 j)]∧(j≤th.l.length)∧(¬(0≤k∧k<j))∧St cx w' (R4 z b lv s.left rv (blk b8 182 [.int .i64 x.kind, .int .i64 x.region, .int .i64 x.thing, .int .i64 x.n]::L.eraseIdx i))) (fun ρ' _=>(th.l.length - iv (ρ' 10)).toNat) ?_ ?_
   · exact ⟨0,zh,zh,Jo,Jo,hS.sp⟩
   rintro ρ w1 ⟨j,hA,hρ,hj,hjk,hS⟩;obtain ⟨ρ,rfl⟩:=KS hA hρ;refine' PB;refine' ML;refine Q5 (NK (H:=H1) hS hr) hel rfl Lr (FF _) (PK hth) rfl ?_;refine QL (gI (H:=H1) (NK (H:=H1) hS hr) hth) vw Lr DD ?_;refine' RU;refine' Ab<;>intro hc
   · skip
     (refine' MF;refine' Lu;first|(refine' Qd)|(refine' Qi)|(refine' Ac<;>intro hc));all_goals (refine' zn)
     all_goals
      first
      | (refine' KN;refine Qo ?_;have hS:=gI (H:=H1) (NK (H:=H1) hS hr) hth;refine zD (ci 8 [7]) ?_;have hS:=hS.drew;refine' PG;refine Q5 hS hel rfl fd (FF _) (PK hth) rfl ?_;refine' zm;refine zv hS ?_;refine PQ hS vw rfl Lr DM ?_;rw [FF];intro b9 o9 hel9;refine iR hS hel9 rfl rfl Jr Lr (FF _) (bn Jo) rfl (XC x) jX ?_;intro w8 hS;have hS:=hS.ns;have hS:=dF (H:=H1) (l:=r.l) (k:=t) (t:=⟨th.array,th.lv,th.l.set j x⟩) (FD.1 hth).1 hS;refine' zn;refine' Lh;(first|(have hc1:s.setC v k x=20:=EL;rw [dG Jo,hc1];exact AT)|(have hc1:s.setC v k x=1:=(by rw [hge,if_neg hta,if_neg Jo]);rw [dG Jo,hc1];exact AT)|(obtain rfl:k=(j:Int):=DB;have hc1:s.setC v (j:Int) x=0:=(by rw [hge,if_neg hta,if_pos Jo]);obtain ⟨e1,e2,ho2⟩:=Y3 ho hr hth e0 hc1 Jo;rw [hc1];rw [F9] at ho2 e1;have htc:((r.l.set t ⟨th.array,th.lv,th.l.set j x⟩).map ThgV.cells)=r.l.map ThgV.cells:=(by rw [G8];exact cq (by rw [FW,hth];rfl));rw [←htc] at hS;have hS:=qt (H:=H1) (rv:=rv) (k:=kr) (r:=Ti r t th j x) (FD.1 hr).1 (L:=L.eraseIdx i) (by unfold Ti;exact AB);refine ⟨_,rfl,rfl,(Qm (lv:=lv) ho2 (L:=L.eraseIdx i) ?_).back hi⟩;have hbc:((rv.set kr (Ti r t th j x)).map RgnV.cells)=rv.map RgnV.cells:=(by rw [G8];exact cq (by rw [FW,hr];rfl));unfold R4;rw [hbc,e1];exact hS)))
      | (refine' KO;refine' KV)
     refine' Mk;(exact ⟨⟨j+1,zh,zh,Jo,Jo,hS.sp⟩,Qc Jo⟩)
   · skip;refine' O5;((first|(have hc1:s.setC v k x=20:=EL;rw [dG Jo,hc1];exact AT)|(have hc1:s.setC v k x=1:=(by rw [hge,if_neg hta,if_neg Jo]);rw [dG Jo,hc1];exact AT)))
theorem xL (v :Val)(n:Int)(arr:Bool)(tlv:Value)(tl:List Val)(hn:1≤n∧n≤1000)(hN:N≤100000)(htl:tl.length≤1000)(h1:oneC tlv=true)(hS:St cx w (sl H1.Tv 4 tlv (tl.map Val.cells)::L))(hi:nth L i=some (PM z N h s)):
 KK Tryz.prog QcJ [h,v.v, .agg ⟨[.bool arr,tlv]⟩, .int .i64 n] w fun u w'=>u= .tuple #[(s.putV v (if arr then 4 else 3) n).v, .int .i64 (s.code v n)]∧St cx w' (L.set i (PM z (N+1) h (s.put v n ⟨arr,tl⟩))):=by
 obtain ⟨hok,b,rfl⟩:=eZ hS.drop hi;obtain ⟨lv,rv,ho,hS⟩:=eY hS (i:=i+1) hi;simp only [Hx] at hS;have ho1:HpO (N+1) s rv:=⟨ho.hr,hok.mono Jo⟩;by_cases hk:v.kind=2
 · cases hh :s.has v.region with
   | false=>
     have hcan:s.can v=false:=E5;have hc:=vE (n:=n) hcan;obtain ⟨e1,e2⟩:=mq (s:=s) (v:=v) (n:=n) Jo (if arr then 4 else 3) ⟨arr,tl⟩;rw [e1,e2,hc];refine KY KX Tryz.func223 ?_;refine' K3;refine Ov hS vw Jr ?_;intro b6 w1 hS;simp only [Val.cells] at hS;refine Ov hS vw Jr ?_;intro b9 w1 hS;refine Qh hS ?_;intro b10 w1 hS;refine' Sq;refine' UT;refine' Mr;refine' Nv;(first|refine' KP|(refine' KQ;refine' KU (c:=fa _ ho (St.rot3 hS));rintro v1 w1 ⟨rfl,hS⟩;rw [hh]));refine' OG;refine' LH;refine' KN;refine' K3;refine M5 [_,_,_,_] ?_;refine K1 hS ?_;intro w1 hS;have hS:=hS.ns;refine' MU;refine MQ vw (Q2 (n:=4) Jk Jk (hS.blkAt fd) Jr Jr) vw ?_;(exact B6)
   | true=>
     (obtain ⟨vk,vr,vt,vn⟩:=v;obtain rfl:vk=2:=hk;obtain ⟨m,rfl,hm⟩:=ho.has_in hh;replace hh:s.has (m:Int)=true:=hh;obtain ⟨r,hr,hrs,hsl⟩:=ho.at_ hm;have hcan:s.can ⟨2,m,vt,vn⟩=true:=(by unfold HpS.can;rw [hh];rfl);have hrn:=ho.rng hr;have hpg:=hok.pages;have hpr':r.pages+s.left≤1000:=hpg.2 r.abs (FC hsl);have hl0:=hok.left;have hlm:(rv.map RgnV.cells).length=rv.length:=FF _;have hls:∀r',((rv.set m r').map RgnV.cells).length=rv.length:=fun r'=>by rw [FF,Gf]);have hcd:s.code ⟨2,m,vt,vn⟩ n=if r.abs.more n=true∧s.left=0 then 14 else 0:=by unfold HpS.code;rw [hcan];simp only [JT,FV,if_false,hrs]
     have hmi:r.abs.more n=true↔(r.pages=0∨16<r.used+n):=RgnV.more_iff;obtain ⟨e3,e4,e5⟩:=Qhp (r:=r) (n:=n);refine KY KX Tryz.func223 ?_;refine' K3;refine Ov hS vw Jr ?_;intro b6 w1 hS;simp only [Val.cells] at hS;refine Ov hS vw Jr ?_;intro b9 w1 hS;refine Qh hS ?_;intro b10 w1 hS;refine' OS;refine' Su;(first|(refine Q5 hS hel rfl fd hlm (LN hr) rfl ?_)|(refine Q5 hS hel rfl fd (hls _) (LN (P3 Jo)) rfl ?_)|(refine zl hS ?_));refine' UT;refine' Mr;refine' Nf;(first|refine' KP|(refine' KQ;(first|(refine Q5 hS hel rfl fd hlm (LN hr) rfl ?_)|(refine Q5 hS hel rfl fd (hls _) (LN (P3 Jo)) rfl ?_)|(refine zl hS ?_))));(first|refine' KP|(refine' KQ;refine' KU (c:=fa _ ho (St.rot3 hS));rintro v1 w1 ⟨rfl,hS⟩;rw [hh]));refine' OG;refine' LH;refine' Si;refine Qo ?_;refine zD (ci 8 [7]) ?_;have hS:=hS.drew;refine' PG;(first|(refine Q5 hS hel rfl fd hlm (LN hr) rfl ?_)|(refine Q5 hS hel rfl fd (hls _) (LN (P3 Jo)) rfl ?_)|(refine zl hS ?_));refine' MR;(first|(refine Q5 hS hel rfl fd hlm (LN hr) rfl ?_)|(refine Q5 hS hel rfl fd (hls _) (LN (P3 Jo)) rfl ?_)|(refine zl hS ?_));refine PQ hS vw rfl fd Jo ?_;rw [hlm];intro b12 o12 hel;refine' K5;refine zM [] (fun A ρ' w'=>∃(r1:RgnV) (lf:Int),KR ρ' A∧KR ρ' [(0, .pointer (some ⟨b,1,none⟩)),(3, .int .i64 n),(5, .pointer (some ⟨b6,0,none⟩)),(6, .pointer (some ⟨b9,0,none⟩)),(8, .pointer (some ⟨b10,0,none⟩)),(10, .pointer (some ⟨b12,o12,none⟩))]∧(s.code ⟨2,m,vt,vn⟩ n=0)∧((⟨r1.there,r1.lv,r1.l,r1.pages,r1.used+n⟩:RgnV)=r.roomV n)∧(lf=(if r.abs.more n then s.left - 1 else s.left))∧(0≤r1.used∧r1.used≤1000)∧St cx w' (MP z b lv lf::sl 131 4 lv ((rv.set m r1).map RgnV.cells)::LF (RgnV.res H1) rv::blk b10 182 [.int .i64 0, .int .i64 0, .int .i64 0, .int .i64 0]::blk b9 278 [.bool arr,tlv]::blk b6 182 [.int .i64 2, .int .i64 m, .int .i64 vt, .int .i64 vn]::sl H1.Tv 4 tlv (tl.map Val.cells)::L.eraseIdx i)) ?_ ?_
     · skip
       ((refine' Ls;refine' ML;refine Q5 hS hel rfl fd hlm (LN hr) rfl ?_;first|(refine' Qd)|(refine' Qi)|(refine' Ac<;>intro hc));all_goals (refine' Ss;refine' NC;(first|refine' KP|(refine' KQ;refine Q5 hS hel rfl fd hlm (LN hr) rfl ?_));(first|refine' KP|(refine' KQ;refine' PV));first|refine' KP|(refine' KQ;(first|(refine' QO)|(refine' QV)|(refine' Af<;>intro hc)))));all_goals (refine' LH)
       all_goals
        first
        | (refine' KO;have hmo:¬r.abs.more n=true:=(by rw [hmi];omega);refine' KV)
        | (refine' KN
           all_goals (have hmo:r.abs.more n=true:=hmi.2 Jo;refine' NI;refine' ML;(first|(refine Q5 hS hel rfl fd hlm (LN hr) rfl ?_)|(refine Q5 hS hel rfl fd (hls _) (LN (P3 Jo)) rfl ?_)|(refine zl hS ?_));first|(refine' Qd)|(refine' Qi)|(refine' Ac<;>intro hc));all_goals (refine' zn)
           all_goals
            first
            | (refine' KO;all_goals (rw [if_neg Jo] at hcd);all_goals refine' KV)
            | (refine' KN
               all_goals (rw [if_pos ⟨hmo,Jo⟩] at hcd;refine' K3;refine M5 [_,_,_,_] ?_;refine K1 hS ?_;intro w1 hS;have hS:=hS.ns;refine' MU;refine MQ vw (Q2 (n:=4) Jk Jk (hS.blkAt fd) Jr Jr) vw ?_);all_goals (obtain ⟨e1,e2⟩:=mq (s:=s) (v:=⟨2,m,vt,vn⟩) (n:=n) Jo (if arr then 4 else 3) ⟨arr,tl⟩;rw [e1,e2,hcd];exact B6))
           all_goals (refine' Ls;refine' ML;(first|(refine Q5 hS hel rfl fd hlm (LN hr) rfl ?_)|(refine Q5 hS hel rfl fd (hls _) (LN (P3 Jo)) rfl ?_)|(refine zl hS ?_));refine' PV;refine' ML;refine Mi hS ?_;intro w1 hS;have hS:=hS.ns;refine' Nb;refine' ML;refine Q5 hS hel rfl fd hlm (LN hr) rfl ?_;refine' NH;refine' ML;refine RL hS hel rfl vw fd hlm (LN hr) Jo Jr (mn (r':=⟨r.there,r.lv,r.l,r.pages+1,r.used⟩) rfl) ?_;intro w8 hS;have hS:=hS.ns;refine' zn;refine' Mj;refine' ML;refine RL hS hel rfl vw fd (hls _) (LN (P3 (r:=⟨r.there,r.lv,r.l,r.pages+1,r.used⟩) Jo)) Jo Jr (mn (r':=⟨r.there,r.lv,r.l,r.pages+1,0⟩) rfl) ?_;intro w8 hS;have hS:=hS.ns;rw [Ii] at hS);all_goals refine' zn)
       all_goals (first|(exact ⟨r,s.left,zh,zh,(by rw [hcd,if_neg (fun h=>hmo h.1)]),(by unfold RgnV.roomV;rw [if_neg hmo]),(by rw [if_neg hmo]),Jo,by rw [cq hr];exact hS.sp⟩)|(exact ⟨⟨r.there,r.lv,r.l,r.pages+1,0⟩,s.left - 1,zh,zh,hcd,(by unfold RgnV.roomV;rw [if_pos hmo,Int.zero_add]),(by rw [if_pos hmo]),Js,hS.sp⟩))
     rintro ρ w1 ⟨r1,lf,hA,hρ,hcd,hr1,hlf,hu1,hS⟩;obtain ⟨ρ,rfl⟩:=KS hA hρ;refine' Ls;refine' ML;refine Q5 hS hel rfl fd (hls _) (LN (P3 (r:=r1) Jo)) rfl ?_;refine' zm;refine' NH;refine' ML;refine RL hS hel rfl vw fd (hls _) (LN (P3 (r:=r1) Jo)) Jo Jr (mn (r':=⟨r1.there,r1.lv,r1.l,r1.pages,r1.used+n⟩) rfl) ?_;intro w8 hS;have hS:=hS.ns;rw [Ii,hr1] at hS;have hbig:LF (RgnV.res H1) rv=LF (RgnV.res H1) (rv.set m (r.roomV n)):=(VB hr (by unfold RgnV.res;rw [e4,e5])).symm;rw [hbig] at hS;have hS:=NK (H:=H1) hS (P3 Jo);have hrl:=hrn.1;rw [←e5] at hrl;refine' MM;refine zC [(0,none),(1,none),(2,none),(3,none),(4,none),(5,none),(6,some (some [4])),(7,some (some [])),(8,none),(9,none),(10,some none)] ?_;have hS:=hS.drew;refine' Td;refine' TS;(first|(refine Q5 hS hel rfl fd hlm (LN hr) rfl ?_)|(refine Q5 hS hel rfl fd (hls _) (LN (P3 Jo)) rfl ?_));refine' Ll;refine zv hS ?_;refine' My;refine LK hS [_,_] ?_;intro b1 w1 hS;refine' zt;refine ⟨FG.2 ⟨(by (exact Qw hS hel rfl fd (hls _) (LN (P3 Jo)) rfl)),fun _ h=>(FQ h).elim⟩,?_⟩;refine' RI;refine Ow Qiy (.inl Qgz) hS vw vw fd (hS.srcB fd Jr (jW rfl h1)) DM ?_;intro v7 w7 hS;have hS:=hS.ns;have hS:=hS.drop;refine' zt;refine ⟨fun _ h=>(FQ h).elim,?_⟩;refine' LP;refine' Xt;refine' M6;refine' Mb;refine RL hS hel rfl vw fd (hls (r.roomV n)) (LN (P3 (r:=r.roomV n) Jo)) Jo (by first|rfl|assumption|exact hS.oneC fd) (mn (r':=bo (r.roomV n) v7 ⟨arr,tlv,tl⟩) rfl) ?_;intro w8 hS;have hS:=hS.ns;rw [Ii] at hS;refine' LV;refine' Mf;refine Qo ?_;refine' Su;(first|(refine Q5 hS hel rfl fd hlm (LN hr) rfl ?_)|(refine Q5 hS hel rfl fd (hls _) (LN (P3 Jo)) rfl ?_)|(refine zl hS ?_));refine' zn;refine' Aa<;>intro hc
     · skip;refine' Mm;refine' OS;refine zD (ci 12 [10,11]) ?_;have hS:=hS.drew;refine' zm;refine' MR;(first|(refine Q5 hS hel rfl fd hlm (LN hr) rfl ?_)|(refine Q5 hS hel rfl fd (hls _) (LN (P3 Jo)) rfl ?_)|(refine zl hS ?_));refine' PG;refine Q5 (j:=1) (u:=v7) hS hel rfl fd (hls _) (LN (P3 (r:=bo (r.roomV n) v7 ⟨arr,tlv,tl⟩) Jo)) rfl ?_;refine QL (n:=r.l.length+1) hS vw fd (by simp [e5]) ?_;refine' PV;rw [show ((r.l.length+1:Nat):Int) - 1=r.l.length by omega];refine OF [_,_,_,_] ?_;refine K1 hS ?_;intro w1 hS;have hS:=hS.ns;refine' MU;refine MQ vw (Q2 (n:=4) Jk Jk (hS.blkAt fd) Jr Jr) vw ?_;((exact Ar))
     · skip;refine' KV;refine Qo ?_;refine zD (ci 12 [10,11]) ?_;have hS:=hS.drew;refine' zm;refine' MR;(first|(refine Q5 hS hel rfl fd hlm (LN hr) rfl ?_)|(refine Q5 hS hel rfl fd (hls _) (LN (P3 Jo)) rfl ?_)|(refine zl hS ?_));refine' PG;refine Q5 (j:=1) (u:=v7) hS hel rfl fd (hls _) (LN (P3 (r:=bo (r.roomV n) v7 ⟨arr,tlv,tl⟩) Jo)) rfl ?_;refine QL (n:=r.l.length+1) hS vw fd (by simp [e5]) ?_;refine' PV;rw [show ((r.l.length+1:Nat):Int) - 1=r.l.length by omega];refine OF [_,_,_,_] ?_;refine K1 hS ?_;intro w1 hS;have hS:=hS.ns;refine' MU;refine MQ vw (Q2 (n:=4) Jk Jk (hS.blkAt fd) Jr Jr) vw ?_;((exact Ar))
 · have hcan:s.can v=false:=EP;have hc:=vE (n:=n) hcan;obtain ⟨e1,e2⟩:=mq (s:=s) (v:=v) (n:=n) Jo (if arr then 4 else 3) ⟨arr,tl⟩;rw [e1,e2,hc];refine KY KX Tryz.func223 ?_;refine' K3;refine Ov hS vw Jr ?_;intro b6 w1 hS;simp only [Val.cells] at hS;refine Ov hS vw Jr ?_;intro b9 w1 hS;refine Qh hS ?_;intro b10 w1 hS;refine' Sq;refine' QG;refine' zm;refine' PD;refine' KP;refine' OR;refine' Sx;refine' K3;refine M5 [_,_,_,_] ?_;((refine K1 hS ?_;intro w1 hS;have hS:=hS.ns));refine' MU;refine MQ vw (Q2 (n:=4) Jk Jk (hS.blkAt fd) Jr Jr) vw ?_;((exact B6))
theorem Qhd (v:Val)(vl:Value)(l:List Val)(hN:N≤100000)(hl:l.length≤1000)(hS:St cx w L)(hi:nth L i=some (PM z N h s))(hj:nth L j=some (sl H1.Tv 4 vl (l.map Val.cells))):
 KK Tryz.prog Q9Z [h,v.v,vl] w fun u w'=>u= .tuple #[(s.putV v 3 (Mv l)).v, .int .i64 (s.code v (Mv l))]∧St cx w' (L.set i (PM z (N+1) h (s.tuple v l))):=by
 have hlen:(l.map Val.cells).length=l.length:=FF _;refine KY KX Tryz.func188 ?_;refine' K3;refine Ov hS vw Jr ?_;intro b4 w1 hS;simp only [Val.cells] at hS;refine Qh hS ?_;intro b6 w1 hS;refine' K5;refine' Og;refine QL hS vw (show nth (_::_::L) (j+2)=_ from hj) hlen ?_;refine' K5;refine zM [] (fun A ρ' w'=>∃(wn:Int),KR ρ' A∧KR ρ' [(0,h),(2,vl),(4, .pointer (some ⟨b4,0,none⟩)),(6, .pointer (some ⟨b6,0,none⟩)),(8, .slice none 0 0),(9, .int .i64 wn)]∧(wn=Mv l)∧St cx w' (blk b6 182 [.int .i64 0, .int .i64 0, .int .i64 0, .int .i64 0]::blk b4 182 [.int .i64 v.kind, .int .i64 v.region, .int .i64 v.thing, .int .i64 v.n]::L)) ?_ ?_
 · skip
   (refine' Ls;first|(refine' Qd)|(refine' Qi)|(refine' Ac<;>intro hc));all_goals (refine' zn)
   all_goals
    first
    | (refine' KN;refine' Mj;refine' zn)
    | (refine' KO;refine' KV)
   all_goals ((first|(exact ⟨1,zh,zh,(by unfold Mv;rw [if_pos Jo]),hS.sp⟩)|(exact ⟨(l.length:Int),zh,zh,(by unfold Mv;rw [if_neg Jo]),hS.sp⟩)))
 rintro ρ w1 ⟨wn,hA,hρ,hw,hS⟩;obtain ⟨ρ,rfl⟩:=KS hA hρ;refine Qo ?_;refine zC [(0,none),(1,none),(2,none),(3,none),(6,none),(4,some (some [1])),(5,none),(7,some none),(8,none),(9,none),(10,some none),(11,some none)] ?_;have hS:=hS.drew;refine' O3;refine zv hS ?_;refine' M9;refine' TJ;refine' zm;refine' My;((have hS:=hS.nil (T:=H1.Tv) (es:=4);refine Ow mU (.inl mV) hS vw vw Lr (St.srcS (i:=j+3) (T:=H1.Tv) (v:=vl) (css:=l.map Val.cells) hS hj (vF l)) (by rw [hlen,F8];omega) ?_;intro v2 w2 hS;simp only [FM,IM] at hS;have hone:=hS.oneC Lr;obtain ⟨a_,c_,rfl⟩:=hS.shape Lr;subst hw));refine' Ni;refine PW [_,_] ?_;refine' Mb;refine' NN (c:=xL v (Mv l) false _ l (Qgr hl) hN hl hone hS (show nth (_::_::L) (i+2)=_ from hi));rintro v2 w2 ⟨rfl,hS⟩;have hS:=hS.ns;refine' U0;refine' U0;refine' Mb;((refine Rb hS rfl rfl Jr fd Js (XC _) Jr ?_;intro w1 hS;have hS:=hS.ns));refine' TP;refine' zr;refine MQ vw (Q2 (n:=4) Jk Jk (hS.blkAt fd) Jr Jr) vw ?_;((exact ⟨_,rfl,rfl,hS.drop.drop⟩))
theorem Qhi (v:Val)(n:Int)(hN:N≤100000)(hS:St cx w L)(hi:nth L i=some (PM z N h s)):
 KK Tryz.prog Q7v [h,v.v, .int .i64 n] w fun u w'=>u= .tuple #[(s.arrV v n).v, .int .i64 (s.arrC v n)]∧St cx w' (L.set i (PM z (N+1) h (s.arr v n))):=by
 by_cases hn:n<0∨15<n
 · have e1:s.arr v n=s:=(by unfold HpS.arr;rw [if_pos hn]);have e2:s.arrV v n=Val.zero:=(by unfold HpS.arrV;rw [if_pos hn]);have e3:s.arrC v n=1:=(by unfold HpS.arrC;rw [if_pos hn]);rw [e1,e2,e3];obtain ⟨hok,b,rfl⟩:=eZ hS hi;(refine KY KX Tryz.func189 ?_;refine' K3;refine Ov hS vw Jr ?_;intro b4 w1 hS;simp only [Val.cells] at hS;refine Qh hS ?_;intro b6 w1 hS;refine' Pz;first|(refine' LG)|(refine' LM)|(refine' Ae<;>intro hc));all_goals (refine' Mr;(first|refine' KP|(refine' KQ;refine' QO));refine' LH;refine' KN;refine' K3;refine M5 [_,_,_,_] ?_;refine K1 hS ?_;intro w1 hS;have hS:=hS.ns;refine' MU;refine MQ vw (Q2 (n:=4) Jk Jk (hS.blkAt fd) Jr Jr) vw ?_;refine ⟨_,rfl,rfl,?_⟩;obtain ⟨lv,rv,ho,hS⟩:=eY hS.drop.drop hi;exact (Qm (⟨ho.hr,hok.mono Jo⟩:HpO (N+1) s rv) hS).back hi)
 · obtain ⟨m,rfl⟩:=G4 (show 0≤n by omega)
   have e1:s.arr v m=s.put v (m+1) ⟨true,PI m⟩:=(by unfold HpS.arr;rw [if_neg hn]);have e2:s.arrV v m=s.putV v 4 (m+1):=(by unfold HpS.arrV;rw [if_neg hn]);have e3:s.arrC v m=s.code v (m+1):=(by unfold HpS.arrC;rw [if_neg hn]);rw [e1,e2,e3];refine KY KX Tryz.func189 ?_;refine' K3;refine Ov hS vw Jr ?_;intro b4 w1 hS;simp only [Val.cells] at hS;refine Qh hS ?_;intro b6 w1 hS;refine' Pz;refine' Yz;refine' Mr;refine' l4;refine' LH;refine' Si;refine' K3;refine PW [_,_] ?_;refine Qh hS ?_;intro b8 w1 hS;((refine Rb hS rfl rfl Jr fd Js (by first|exact XC _|exact jW rfl rfl) Jr ?_;intro w1 hS;have hS:=hS.ns));refine' MM;refine' gy;have hS:=hS.nil (T:=H1.Tv) (es:=4);refine zo [] (fun A ρ' w'=>∃(j:Nat) (va:Value),KR ρ' A∧KR ρ' [(0,h),(2, .int .i64 m),(4, .pointer (some ⟨b4,0,none⟩)),(6, .pointer (some ⟨b6,0,none⟩)),(8, .pointer (some ⟨b8,0,none⟩)),(9, .int .i64 j)]∧(j≤m)∧St cx w' (sl H1.Tv 4 va ((PI j).map Val.cells)::blk b8 278 [.bool true,va]::blk b6 182 [.int .i64 0, .int .i64 0, .int .i64 0, .int .i64 0]::blk b4 182 [.int .i64 v.kind, .int .i64 v.region, .int .i64 v.thing, .int .i64 v.n]::L)) (fun ρ' _=>(m - iv (ρ' 9)).toNat) ?_ ?_
   · exact ⟨0, .slice none 0 0,zh,zh,Jo,hS.sp⟩
   rintro ρ w1 ⟨j,va,hA,hρ,hj,hS⟩;obtain ⟨ρ,rfl⟩:=KS hA hρ;have hnl:=Qds (n:=j);refine' PB;refine' RU;refine' Ab<;>intro hc
   · skip;refine' MF;refine' So;refine PW [_,_,_,_] ?_;refine LK hS [_,_,_,_] ?_;intro b1 w1 hS;refine Ow mU (.inl mV) hS vw vw fd (hS.srcB fd Jr DH) DM ?_;intro v7 w7 hS;have hS:=hS.ns;refine' MR;refine Mi hS ?_;intro w1 hS;have hS:=hS.ns;refine' zn;refine' Mk;(exact ⟨⟨j+1,_,zh,zh,Jo,by rw [show ((j+1:Nat):Int)=(j:Int)+1 by omega,Qc4,Ga];exact hS.sp⟩,Qc Jo⟩)
   · skip;refine' L7;obtain rfl:j=m:=DB;have hone:=hS.oneC Lr;refine' YD;refine zv hS ?_;refine' zm;refine' NH;refine' NN (c:=xL v (j+1) true va (PI j) Jo hN Jo hone hS (show nth (_::_::_::L) (i+3)=_ from hi));rintro v2 w2 ⟨rfl,hS⟩;have hS:=hS.ns;refine' l9;refine Rb hS rfl rfl Jr fd Js (by exact XC _) Jr ?_;intro w1 hS;have hS:=hS.ns;refine' MU;refine MQ vw (Q2 (n:=4) Jk Jk (hS.blkAt fd) Jr Jr) vw ?_;(exact ⟨_,rfl,rfl,hS.drop.drop.drop⟩)
end
end Go.Proofs.YteflkifmgnpbhaaGreat
namespace Go.Lir
theorem fe {v:Val}(h0:0≤k)(h:g.vals[k.toNat]?=some v):g.val k=some v:=by unfold Frm.val;rw [if_neg Jo];exact h
theorem W3 (h:k<0∨(g.vals.length:Int)≤k):g.val k=none:=by
 unfold Frm.val;by_cases h0:k<0
 · rw [if_pos h0]
 · rw [if_neg h0];exact Gb Jo
theorem r5 {n:Int}(h:g.num k=some n):∃v∈g.vals,v.n=n:=by
 unfold Frm.num Frm.val at h;split at h
 · cases h
 · rename_i v hv
   split at hv
   · cases hv
   · split at h
     · exact ⟨v,FC hv,FY h⟩
     · cases h
end Go.Lir
namespace Go.Proofs.YteflkifmgnpbhaaGreat
open Go.Lir
attribute [local irreducible] LC.wp Q0 Qr Qj Lo QJ LO.wp Q6 Calls
theorem QiA:N6 Tryz.prog 47=some (119,5,72,[.int .i64 0, .int .i64 0, .int .i64 0, .slice none 0 0, .slice none 0 0]):=by kernel_rfl
theorem QgB:∃e2,Tryz.prog.underlying 47=some (.slice e2):=⟨119,by kernel_rfl⟩
def FrmV.res1 (x:FrmV):Res:=star (sl 182 4 x.vv (x.vals.map Val.cells)) (sl 3 1 x.rv (Qv x.regs))
@[reducible] def gL (p:Nat)(z:GZ)(lv:Value)(left:Int)(fr:List FrmV)(g:FrmV)(L:List Res):List Res:=MP z p lv left::sl 119 5 z.fv (Pb fr g)::sl 182 4 g.vv (g.vals.map Val.cells)::sl 3 1 g.rv (Qv g.regs)::LF FrmV.res1 fr::L
@[reducible] def GZ.end (z:GZ)(e:Int):GZ:=⟨z.fn,z.fv,z.iv,e,z.bv,z.ov,z.fu,z.mo,true,z.c,z.a⟩
variable {cx:Cx}{w:World}{L:List Res}{p:Nat}{z:GZ}{fr:List FrmV}{g:FrmV}{lv:Value}{left:Int}
theorem ZV (e:Int)(hS:St cx w (MP z p lv left::L)):KK Tryz.prog uw [.pointer (some ⟨p,0,none⟩), .int .i64 e] w fun u w'=>u= .int .i64 1∧St cx w' (MP (z.end e) p lv left::L):=by
 refine KY KX Tryz.func72 ?_;refine' Mf;refine' Lu;refine' zm;refine' Ma;((refine Mi hS ?_;intro w1 hS;have hS:=hS.ns));refine' UU;((refine Mi hS ?_;intro w1 hS;have hS:=hS.ns));refine' zn;refine' Lh;((exact AX))
theorem SO (hf:fr.length≤1000)(hS:St cx w (gL p z lv left fr g L)):KK Tryz.prog Qe3 [.pointer (some ⟨p,0,none⟩)] w fun u w'=>∃b o,u= .pointer (some ⟨b,o,none⟩)∧Oe z.fv (fr.length+1) 5 fr.length b o∧St cx w' (gL p z lv left fr g L):=by
 refine KY KX Tryz.func73 ?_;refine' Mf;refine Qo ?_;refine zD (ci 12 [11]) ?_;have hS:=hS.drew;refine' Sz;refine' Sz;((refine QL hS vw fd (Qu fr g) ?_));refine' PV;rw [show ((fr.length+1:Nat):Int) - 1=fr.length by omega];((refine PQ hS vw rfl fd (by rw [Qu];omega) ?_;rw [Qu];intro b1 o1 hel));refine' Ly;((exact ⟨_,rfl,b1,o1,rfl,hel,hS.sp⟩))
attribute [local irreducible] Frm.val Frm.num Frm.args Frm.rgs Frm.reg
theorem xM (hl1:l.length≤100000)(hf:fr.length≤1000)(hl:KM.sl cx v1 l)(hS:St cx w (gL p z lv left fr g L)):KK Tryz.prog pS [.pointer (some ⟨p,0,none⟩),v1] w fun u w'=>
 (∃(vs:List Val) (v:Value),g.abs.args l=some vs∧vs.length=l.length∧oneC v=true∧u= .tuple #[v, .bool true]∧St cx w' (gL p z lv left fr g (sl 182 4 v (vs.map Val.cells)::L)))∨(g.abs.args l=none∧u= .tuple #[.slice none 0 0, .bool false]∧St cx w' (gL p z lv left fr g L)):=by
 have hlen:=hl.len;refine KY KX Tryz.func125 ?_;refine' NW;refine' Og;refine' Lf (c:=SO hf hS);rintro v1 w1 ⟨b9,o9,rfl,hel,hS⟩;refine' ML;refine Q5 hS hel rfl fd (Qu fr g) (QE fr g) rfl ?_;refine' UY;have hS:St cx _ (gL p z lv left fr g (sl 182 4 (.slice none 0 0) (([]:List Val).map Val.cells)::L)):=(by have hS:=hS.nil (T:=182) (es:=4);exact AB);refine zo [1,7] (fun A ρ' w'=>∃(q:Nat) (vo:Value) (out:List Val),KR ρ' A∧KR ρ' [(6,vo),(8, .int .i64 q)]∧(q≤l.length)∧(out.length=q)∧(oneC vo=true)∧(g.abs.args l=(g.abs.args (l.drop q)).map fun r=>out++r)∧St cx w' (gL p z lv left fr g (sl 182 4 vo (out.map Val.cells)::L))) (fun ρ' _=>(l.length - iv (ρ' 8)).toNat) ?_ ?_
 · exact ⟨0, .slice none 0 0,[],zh,zh,Jo,rfl,rfl,dI,hS.sp⟩
 rintro ρ w1 ⟨q,vo,out,hA,hρ,hq,hol,hvo,hd,hS⟩;obtain ⟨ρ,rfl⟩:=KS hA hρ;refine' Tc;refine' Ab<;>intro hc
 · skip
   ((refine' MF;refine' PB;refine' zi;intro b1 o1 cs1 x1 hat1 hx1 he1;obtain rfl:=QB he1;refine' N8;first|(refine' LG)|(refine' LM)|(refine' Ae<;>intro hc));all_goals (refine' Mr;refine' MT;(first|refine' KP|(refine' KQ;refine' zi;intro b2 o2 cs2 x2 hat2 hx2 he2;obtain rfl:=QB he2));refine' cV;refine' MT;(first|refine' KP|(refine' KQ;refine QL hS vw fd (FF _) ?_));first|refine' KP|(refine' KQ;(first|(refine' MV)|(refine' Nu)|(refine' Ag<;>intro hc)))));all_goals (refine' LH)
   all_goals
    first
    | (refine' KN;all_goals (refine' Sp);all_goals (exact ⟨_,rfl, .inr ⟨vG hd hx1 (W3 (by first|exact .inl Jo|(have hxx:=FY (hx1.symm.trans hx2);exact .inr (by show (g.vals.length:Int)≤x1;omega)))),rfl,hS.sp⟩⟩))
    | (refine' KO;refine' KV)
   have hxx:=FY (hx1.symm.trans hx2);obtain ⟨v9,hv9⟩:∃v,g.vals[x1.toNat]?=some v:=⟨_,FB Jo⟩;have hvg:=fe (g:=g.abs) Jo hv9;refine' RX;refine' zm;((refine' zi;intro b3 o3 cs3 x3 hat3 hx3 he3;((obtain rfl:=QB he3))));refine' N8;rw [←FY (hx1.symm.trans hx3)];refine QN hS vw rfl fd Jo DQ ?_;rw [FF];intro b4 o4 hel4;refine OY hS hel4 rfl fd (FF _) (show (g.vals.map Val.cells)[x1.toNat]?=some v9.cells by rw [FW,hv9];rfl) ?_;unfold Val.cells;refine LK hS [_,_,_,_] ?_;intro b1 w1 hS;((refine Ow mU (.inl mV) hS vw vw (i:=6) rfl (hS.srcB (i:=0) rfl Jr DH) DS ?_;intro v7 w7 hS;have hS:=hS.ns;have ho7:=hS.oneC (i:=6) rfl));refine' UZ;((exact ⟨⟨q+1,v7,out++[v9],zh,zh,Jo,by rw [FH,hol];rfl,ho7,QiU hd hx1 hvg,by rw [Ga];exact hS.sp⟩,Qc Jo⟩))
 · skip;refine' L7;refine' Lu;refine' YB;(first|(exact ⟨_,rfl, .inr ⟨vG hd hx1 (W3 (by exact .inl Jo)),rfl,hS.sp⟩⟩)|(exact ⟨_,rfl, .inl ⟨out,_,VD hd Jo,Jo,hvo,rfl,hS.sp⟩⟩))
end Go.Proofs.YteflkifmgnpbhaaGreat
