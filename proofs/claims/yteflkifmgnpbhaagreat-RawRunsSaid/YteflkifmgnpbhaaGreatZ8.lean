
/- Lemmas of the proof, part 8: what the functions of the program do (contracts), and what follows. -/
import Derived.Test.YteflkifmgnpbhaaGreatZ3
import Derived.Test.YteflkifmgnpbhaaGreatZ7
import Derived.Test.YteflkifmgnpbhaaGreatZ5
import Derived.Test.YteflkifmgnpbhaaGreatZ6
import Derived.Test.YteflkifmgnpbhaaGreatZ2
open Go Go.Lir Go.Proofs.YteflkifmgnpbhaaGreat
variable {s:JS}{x:Ins}{cs:List Value}{w:World}{v:Value}{fuel pages:Int}
set_option linter.unusedVariables false
set_option linter.unusedSimpArgs false
set_option maxHeartbeats 1000000
namespace Go.Lir
section
variable {p:Prop}
theorem Eu (h:p:=by first|(exact Bi)|(exact Az)):p:=h
end
end Go.Lir
namespace Go.Lir
section
variable {p:Prop}
theorem AA (h:p:=by exact ⟨_,rfl,cx,_,Gj hS,kj hM,vR hM,hS.sp⟩):p:=h
theorem AF (h:p:=by exact ⟨_,rfl,c9,_,hle9,Zd hM,ki hM hk9,hS⟩):p:=h
theorem AG (h:p:=by exact ⟨_,rfl,cx,_,Gj hS,qR hM hw,ki hM (Gz _ _ _),hS.sp⟩):p:=h
theorem AI (h:p:=by exact ⟨_,rfl,cx,_,Gj hS,Zd hM,ki hM (Gz _ _ _),hS.sp⟩):p:=h
theorem AJ (h:p:=by exact ⟨_,rfl,c9,_,hle9,kl hC,vS hT hk9,hS⟩):p:=h
theorem AV (h:p:=by exact ⟨_,rfl,(by rw [hJ]),hS.sp⟩):p:=h
theorem A5 (h:p:=by exact ⟨_,rfl,c9,_,hle2.trans hle9,Zd hM,ki hM hk9,hS⟩):p:=h
theorem Be (h:p:=by exact ⟨_,rfl,rfl,GY hS.sp (hle1.trans (hle2.trans hle3))⟩):p:=h
theorem Bi (h:p:=by exact Qw (j:=2) hS hel2 rfl fd rfl hd rfl):p:=h
theorem Bj (h:p:=by exact ⟨_,rfl,c1,_,hle2,kj hM,vR hM,hS.sp⟩):p:=h
theorem Bq (h:p:=by exact ⟨_,rfl,m7 hJ (Gj hS) hls hS.sp⟩):p:=h
theorem BD (h:p:=by exact ⟨_,rfl,cx,_,Gj hS,kl hC,vS hT (Gz _ _ _),hS.sp⟩):p:=h
theorem BI (h:p:=by exact ⟨_,rfl,m7 hJ hle2 hls hS.sp⟩):p:=h
theorem BT (h:p:=by exact ⟨_,rfl,(by rw [hJ]),GY hS.sp hle2⟩):p:=h
theorem B0 (h:p:=by exact Qw (j:=1) hS hel1 rfl fd rfl hd rfl):p:=h
theorem Cg (h:p:=by exact ⟨_,rfl,(by rw [hJ]),GY hS.sp (hle2.trans hle3)⟩):p:=h
theorem Dg (h:p:=by exact ⟨⟨_,q+1,_,_,zh,zh,hL2,Jo,by rw [Ux hx4,Ga];exact hls2,hS.sp⟩,Qc Jo⟩):p:=h
end
end Go.Lir
namespace Go.Proofs.YteflkifmgnpbhaaGreat
open Go.Lir
attribute [local irreducible] LC.wp Q0 Qr Qj Lo QJ LO.wp Q6 Calls
section
attribute [local irreducible] K4 Mq MY NG Om LJ LW Oh Lv
variable {cx:Cx}{w:World}{L:List Res}{j:JP}{h:List Bool}{vl:Value}{css:List (List Value)}{i:Nat}{m:Module}

@[reducible] def Mo (j:JP)(s:JS)(vl:Value)(css:List (List Value))(L:List Res):List Res:=blk j.sp 158 (j.kcells vl)::RF j.hp s.h::sl 115 3 vl css::L
theorem Xi (hm:m.Short)(hF:Qz m.funcs.length x=0)(hg:JGood s)(hj:j.Fits cx m)(hx:Lz.at cx cs x)(hls:K0.ls cx css s.l)(hS:St cx w (blk j.sp 158 (j.kcells vl)::RF j.hp s.h::sl 115 3 vl css::L)):
 KK Tryz.prog Qbq [.pointer (some ⟨j.sp,0,none⟩), .agg ⟨cs⟩] w fun u w'=>∃c' v,cx.Le c'∧u= .tuple #[v, .int .i64 (QW (Lv m j.f s x))]∧(∀ts,Lv m j.f s x= .ok ts→K0.sl c' v ts)∧St c' w' (blk j.sp 158 (j.kcells vl)::RF j.hp s.h::sl 115 3 vl css::L):=by
 (have hx':=hx;have hop:=aC hF;have hlc:=hls.1;have hn:=hg.n;have hm1:=hj.m;have hN:∀{c:Cx},K0.at c [.int .i64 1, .int .i64 0, .slice none 0 0] KZ:=Rc (Gz _ _ _);obtain ⟨vr,va,rfl,hr,ha⟩:=QY hx;have hlr:=hr.len;have hla:=ha.len;refine KY KX Tryz.func95 ?_;refine' Lx;intro p3 w1 hS;refine' zm;refine' K5;refine' K3;refine PW [_,_,_] ?_;refine RJ (cs:=[_,_,_]) vw Jr ?_;intro nb w1 hb1 hf1 _ hk1;have hS:=hS.laid hb1 hf1 hk1;refine' Sq;refine' S6;refine Qo ?_;refine' K3;first|(refine' Qd)|(refine' Qi)|(refine' Ac<;>intro hc));all_goals (refine' K5)
 all_goals
  first
  | (refine' KN;refine' KV)
  | (refine' KO;(refine' Mm;first|(refine' Qd)|(refine' Qi)|(refine' Ac<;>intro hc));all_goals (refine' zm);all_goals refine' zn)
 all_goals
  first
  | (refine' KN;all_goals (refine' Lu;refine' K5;have hM:Lv m j.f s x= .ok [KZ]:=V0 Jo;refine' OT);all_goals (first|(exact AA)|(exact AI)|(exact AG)|(obtain ⟨c9,hle9,hS,hk9⟩:=Ge (r:=K0) (L:=Mo j s vl css L) hS.sp (hN:K0.at _ _ KZ);exact AJ)|(obtain ⟨c9,hle9,hS,hk9⟩:=Ge (r:=K0) (L:=Mo j s vl css L) hS.sp (hN:K0.at _ _ KZ);exact AF)))
  | (refine' KO
     (refine' K3;first|(refine' Qd)|(refine' Qi)|(refine' Ac<;>intro hc));all_goals (refine' K5)
     all_goals
      first
      | (refine' KN;refine Qo ?_;refine zC [(0,none),(1,none),(2,none),(3,none),(5,none),(6,none),(7,none),(4,some (some [7])),(8,some (some [])),(9,some (some [])),(10,some (some [])),(11,none),(12,some none)] ?_;have hS:=hS.drew;refine' O3;refine' zm;refine' Nh;refine' U3;refine' NN (c:=R5 (s:=s) (k:=x.a) (kd:=1) (held:=false) hls hS.p3);rintro v1 w1 ⟨rfl,hS⟩;refine' MG;refine' NN (c:=R5 (s:=s) (k:=x.b) (kd:=1) (held:=false) hls hS.p3);rintro v1 w1 ⟨rfl,hS⟩;refine' MG;refine lJ (cs:=[_,_]) vw vw Jr ?_;intro fb w1 hb1 hf1 _ hk1;have hS:=hS.laid hb1 hf1 hk1;have hS:=GS (es:=1) (css:=[LW s x.a 1 false,LW s x.b 1 false].map Qs) hS rfl DJ rfl;refine' MG;refine' Lf (c:=m6 (xs:=[LW s x.a 1 false,LW s x.b 1 false]) Js hS);rintro v1 w1 ⟨rfl,hS⟩;refine' Ni;refine' zm;refine' TP;have hC:QW (Lv m j.f s x)=Oh [LW s x.a 1 false,LW s x.b 1 false]:=(by rw [V1 Jo,Zh,Zh];exact qX (UH _ _ _) (UH _ _ _) _);have hT:∀ts,Lv m j.f s x= .ok ts→ts=[KZ]:=(fun ts h=>by rw [V1 Jo] at h;exact Zg h fun _ h=>Zg h fun _ h=>by cases h;rfl);refine' OT;first|(exact AA)|(exact AI)|(exact AG)|(obtain ⟨c9,hle9,hS,hk9⟩:=Ge (r:=K0) (L:=Mo j s vl css L) hS.sp (hN:K0.at _ _ KZ);exact AJ))
      | (refine' KO
         (refine' K3;first|(refine' Qd)|(refine' Qi)|(refine' Ac<;>intro hc));all_goals (refine' K5)
         all_goals
          first
          | (refine' KN
             (refine' NI;refine' Oa;refine' Ma;obtain ⟨vh,hS⟩:=fF (hp:=j.hp) (h:=s.h) (L:=blk j.sp 158 (j.kcells vl)::sl 115 3 vl css::blk nb 115 [.int .i64 1, .int .i64 0, .slice none 0 0]::blk p3 84 [.int .i64 x.op, .int .i64 x.a, .int .i64 x.b, .int .i64 x.c, .int .i64 x.k, .int .i64 x.n,vr,va]::L) hS.sp;refine MX hS vw fd rfl ?_;refine QL hS vw fd (FF _) ?_;have hS:=bI (L:=blk j.sp 158 (j.kcells vl)::sl 115 3 vl css::blk nb 115 [.int .i64 1, .int .i64 0, .slice none 0 0]::blk p3 84 [.int .i64 x.op, .int .i64 x.a, .int .i64 x.b, .int .i64 x.c, .int .i64 x.k, .int .i64 x.n,vr,va]::L) (h:=s.h) (hp:=j.hp) (v:=vh) hS.sp;first|(refine' Qd)|(refine' Qi)|(refine' Ac<;>intro hc));all_goals (refine' zn)
             all_goals
              first
              | (refine' KN;refine' NW;have hM:Lv m j.f s x= .error 2:=(by rw [SE Jo];exact if_pos Jo);refine' OT;((exact AA)))
              | (refine' KO;refine' KV)
             refine' Ls;refine' Oa;refine' Ma;obtain ⟨vh,hS⟩:=fF (hp:=j.hp) (h:=s.h) (L:=blk j.sp 158 (j.kcells vl)::sl 115 3 vl css::blk nb 115 [.int .i64 1, .int .i64 0, .slice none 0 0]::blk p3 84 [.int .i64 x.op, .int .i64 x.a, .int .i64 x.b, .int .i64 x.c, .int .i64 x.k, .int .i64 x.n,vr,va]::L) hS.sp;refine MX hS vw fd rfl ?_;refine QL hS vw fd (FF _) ?_;have hS:=bI (L:=blk j.sp 158 (j.kcells vl)::sl 115 3 vl css::blk nb 115 [.int .i64 1, .int .i64 0, .slice none 0 0]::blk p3 84 [.int .i64 x.op, .int .i64 x.a, .int .i64 x.b, .int .i64 x.c, .int .i64 x.k, .int .i64 x.n,vr,va]::L) (h:=s.h) (hp:=j.hp) (v:=vh) hS.sp;refine Nn [_,_,_] ?_;refine RJ (cs:=[_,_,_]) vw Jr ?_;intro ob w1 hb1 hf1 _ hk1;have hS:=hS.laid hb1 hf1 hk1;refine' zm;refine' K5;have hM:Lv m j.f s x= .ok [.mk 2 s.h.length []]:=(by rw [SE Jo];exact if_neg Jo);have hrow:∀{c:Cx},K0.at c [.int .i64 2, .int .i64 s.h.length, .slice none 0 0] (.mk 2 s.h.length []):=Rc (Gz _ _ _);refine' OT;first|(exact AA)|(exact AI)|(exact AG)|(obtain ⟨c9,hle9,hS,hk9⟩:=Ge (r:=K0) (L:=Mo j s vl css L) hS.sp (hN:K0.at _ _ KZ);exact AJ)|(obtain ⟨c9,hle9,hS,hk9⟩:=Ge (r:=K0) (L:=Mo j s vl css L) hS.sp (hN:K0.at _ _ KZ);exact AF)|(obtain ⟨c9,hle9,hS,hk9⟩:=Ge (r:=K0) (L:=Mo j s vl css L) hS.sp hrow;exact AF))
          | (refine' KO
             (refine' K3;first|(refine' Qd)|(refine' Qi)|(refine' Ac<;>intro hc));all_goals (refine' K5)
             all_goals
              first
              | (refine' KN
                 refine' O6;refine' NN (c:=R5 (s:=s) (k:=x.a) (kd:=2) (held:=true) hls hS.p3);rintro v1 w1 ⟨rfl,hS⟩;refine' K5;rcases J0 (LW s x.a 2 true=0) with hw|hw;rotate_left;have hM:Lv m j.f s x= .error (LW s x.a 2 true):=(by rw [dT Jo,Qy (qT hw)]);rotate_left;obtain ⟨t,g0,g1,ht,hk,hb,hjt⟩:=qY (s:=s) (k:=x.a) (kd:=2) Jo;obtain ⟨d,hd,hrd⟩:=hls.2 _ _ ht;have hrt:=hrd;obtain ⟨vd,rfl,hld⟩:=Qe hrd
                 all_goals (refine' Nx;refine zD (ci 19 [18]) ?_;have hS:=hS.drew;refine' zm;refine' aS;refine' RY;refine' Nv;refine' Nv;(first|refine' KP|(refine' KQ;refine QN hS vw rfl fd Jo Jo ?_;intro b1 o1 hel1));refine' NC;(first|refine' KP|(refine' KQ;refine Q5 (j:=1) hS hel1 rfl fd rfl hd rfl ?_));refine' Xs;refine' Tb;first|refine' KP|(refine' KQ;(first|(refine' LG)|(refine' LM)|(refine' Ae<;>intro hc))));all_goals (refine' LH)
                 all_goals
                  first
                  | (refine' KN;refine' Mj;refine' zn)
                  | (refine' KO;all_goals refine' KV)
                 all_goals (refine' Lu;refine' YB);all_goals (first|(exact AA)|(exact AI)|(exact AG)|(obtain ⟨c9,hle9,hS,hk9⟩:=Ge (r:=K0) (L:=Mo j s vl css L) hS.sp (hN:K0.at _ _ KZ);exact AJ)|(obtain ⟨c9,hle9,hS,hk9⟩:=Ge (r:=K0) (L:=Mo j s vl css L) hS.sp (hN:K0.at _ _ KZ);exact AF)|(obtain ⟨c9,hle9,hS,hk9⟩:=Ge (r:=K0) (L:=Mo j s vl css L) hS.sp hrow;exact AF)|(obtain ⟨c9,hle9,hS,hk9⟩:=Ge (r:=K0) (L:=Mo j s vl css L) hS.sp hrow;exact A5)|(exact Bj)|(exact BD)|(have hM:Lv m j.f s x= .error 11:=(by rw [dT Jo,Q4 hjt,if_pos Jo]);exact AA)|(have hM:Lv m j.f s x= .ok []:=(by rw [dT Jo,Q4 hjt,if_neg Jo]);exact AG)))
              | (refine' KO
                 (refine' K3;first|(refine' Qd)|(refine' Qi)|(refine' Ac<;>intro hc));all_goals (refine' K5)
                 all_goals
                  first
                  | (refine' KN
                     (refine' RB;refine' NN (c:=R5 (s:=s) (k:=x.a) (kd:=2) (held:=true) hls hS.p3);rintro v1 w1 ⟨rfl,hS⟩;refine' Mz;first|(refine' QG)|(refine' QI)|(refine' Ad<;>intro hc));all_goals (refine' zn)
                     all_goals
                      first
                      | (refine' KN;refine' Lu;refine' K5;have hM:Lv m j.f s x= .error (LW s x.a 2 true):=(by rw [kn Jo,Qy (qT Jo)]);refine' OT;((exact AA)))
                      | (refine' KO;refine' KV)
                     refine Qo ?_;have hal:=vY hF Jo;obtain ⟨t,g0,g1,ht,hk,hb,hjt⟩:=qY (s:=s) (k:=x.a) (kd:=2) Jo;obtain ⟨d,hd,hrd⟩:=hls.2 _ _ ht;have hrt:=hrd;obtain ⟨vd,rfl,hld⟩:=Qe hrd;refine zC [(0,none),(1,none),(2,none),(3,none),(4,none),(5,none),(6,none),(7,none),(8,none),(9,none),(10,some (some [3,5,8])),(11,some none)] ?_;have hS:=hS.drew;refine' O3;refine' Sv;refine' Nh;refine' Ll;refine QN hS vw rfl fd Jo Jo ?_;intro b1 o1 hel1;refine' Ll;refine' Rz;refine Q5 (j:=1) hS hel1 rfl fd rfl hd rfl ?_;refine' Ll;refine Nn [_,_,_] ?_;refine' Rk;intro p9 w1 hS;refine' zt;refine ⟨FG.2 ⟨(by first|(exact B0)|(exact Az)),FG.2 ⟨(by first|(exact B0)|(exact Az)),FG.2 ⟨(by (exact B0)),fun _ h=>(FQ h).elim⟩⟩⟩,?_⟩;refine' L5;refine K1 hS ?_;intro w1 hS;have hS:=hS.ns;refine' LV;refine' M8;have hS:=Ic (T:=115) (es:=3) hS;refine zo [0,3,9] (fun A ρ' w'=>∃(q:Nat) (vo:Value) (co:List (List Value)) (ts:List Ty),KR ρ' A∧KR ρ' [(10, .int .i64 q)]∧(q≤x.args.length)∧(K0.ls cx co ts)∧(ts.length=q)∧(oneC vo=true)∧(K2 s x.args=KL (K2 s (x.args.drop q)) fun l=> .ok (ts++l))∧St cx w' (sl 115 3 vo co::blk p9 115 [.int .i64 3, .int .i64 t.r,vo]::blk nb 115 [.int .i64 1, .int .i64 0, .slice none 0 0]::blk p3 84 [.int .i64 x.op, .int .i64 x.a, .int .i64 x.b, .int .i64 x.c, .int .i64 x.k, .int .i64 x.n,vr,va]::blk j.sp 158 (j.kcells vl)::RF j.hp s.h::sl 115 3 vl css::L)) (fun ρ' _=>(x.args.length - iv (ρ' 10)).toNat) ?_ ?_
                     · exact C5
                     rintro ρ w1 ⟨q,vo,co,ts,hA,hρ,hq,hlo,hlt,hvo,hdf,hS⟩;obtain ⟨ρ,rfl⟩:=KS hA hρ;refine' RB;(first|(refine QL hS vw fd hlc ?_)|(refine' zL));refine' RU;refine' Ab<;>intro hc
                     · skip
                       ((refine' MF;refine' Nx;refine zD (ci 19 [18]) ?_;have hS:=hS.drew;refine' Lw;refine' zm;refine' zi;intro b1 o1 cs1 x1 hat1 hx1 he1;obtain rfl:=QB he1;refine' N8;first|(refine' LG)|(refine' LM)|(refine' Ae<;>intro hc));all_goals (refine' Ms;refine' MT;(first|refine' KP|(refine' KQ;refine TA vw rfl ha rfl Jo ?_;intro b8 o8 cs8 x8 hat8 hx8 he8;obtain rfl:=QB he8;obtain rfl:x1=x8:=FY (hx1.symm.trans hx8)));refine' cV;refine' Xs;refine' Nv;(first|refine' KP|(refine' KQ;refine QL hS vw fd hlc ?_));first|refine' KP|(refine' KQ;(first|(refine' MV)|(refine' Nu)|(refine' Ag<;>intro hc)))));all_goals (refine' LH)
                       all_goals
                        first
                        | (refine' KN;all_goals (refine' NW;have hM:Lv m j.f s x= .error 1:=(by rw [kn Jo,Q4 hjt,Qy (tE hx1 hdf (aB Jo))]);refine' OT);all_goals (exact AA))
                        | (refine' KO;refine' KV)
                       obtain ⟨t2,ht2⟩:∃t,s.l[x1.toNat]?=some t:=⟨_,FB Jo⟩;obtain ⟨d2,hd2,hrd2⟩:=hls.2 _ _ ht2;have hrd2':=hrd2;obtain ⟨vd2,rfl,hld2⟩:=Qe hrd2;have h2:=Yn (s:=s) Jo ht2;refine zC [(0,none),(1,none),(2,none),(3,none),(4,none),(5,none),(6,none),(7,none),(8,none),(9,none),(10,none),(11,none),(12,none),(13,some (some [1])),(14,some none),(15,none),(16,some none)] ?_;have hS:=hS.drew;refine' UW;refine' M9;refine' Sv;refine' Nh;refine' M9;refine TA vw rfl ha rfl Jo ?_;intro b4 o4 cs4 x4 hat4 hx4 he4;obtain rfl:=QB he4;obtain rfl:x1=x4:=FY (hx1.symm.trans hx4);refine' Ll;refine' N8;refine' Ll;refine QN hS vw rfl fd Jo Jo ?_;intro b5 o5 hel5;refine' Ll;refine OY hS hel5 rfl fd rfl hd2 ?_;refine' My;refine LK hS [_,_,_] ?_;intro b1 w1 hS;refine' Nj;((refine za Ro RE hS ?_;intro vp1 w1 css1 hls1 hv1 hS;have hS:=hS.ns));refine' Ll;refine' MR;refine' Mb;((refine Mi hS ?_;intro w1 hS;have hS:=hS.ns));refine' LV;refine' Mk;((exact ⟨⟨q+1,_,_,ts++[t2],zh,zh,Jo,hls1,by simp [hlt],by assumption,tF hx1 hdf h2,hS.sp⟩,Qc Jo⟩))
                     · skip
                       (refine' L7;have hts:=tG hdf Jo;obtain ⟨c1,hle2,hS,hk1⟩:=GF (r:=K0) hS hlo rfl Jo;have hrow:=Rc (k:=3) (r:=t.r) hk1;have hls:=hls.up hle2;obtain ⟨ao,no,rfl⟩:=FK hk1;refine Qo ?_;refine' Nw;refine' KU (c:=uZ (.mk 3 t.r ts) hrow Jo Jo hS);rintro v1 w1 ⟨rfl,hS⟩;first|(refine' QO)|(refine' QV)|(refine' Af<;>intro hc));all_goals (refine' zn)
                       all_goals
                        first
                        | (refine' KN;refine' NW;have hM:Lv m j.f s x= .error 19:=(by rw [kn Jo,Q4 hjt,Q4 hts];exact if_pos Jo);refine' OT;first|(exact AA)|(exact AI)|(exact AG)|(obtain ⟨c9,hle9,hS,hk9⟩:=Ge (r:=K0) (L:=Mo j s vl css L) hS.sp (hN:K0.at _ _ KZ);exact AJ)|(obtain ⟨c9,hle9,hS,hk9⟩:=Ge (r:=K0) (L:=Mo j s vl css L) hS.sp (hN:K0.at _ _ KZ);exact AF)|(obtain ⟨c9,hle9,hS,hk9⟩:=Ge (r:=K0) (L:=Mo j s vl css L) hS.sp hrow;exact AF)|(obtain ⟨c9,hle9,hS,hk9⟩:=Ge (r:=K0) (L:=Mo j s vl css L) hS.sp hrow;exact A5)|(exact Bj))
                        | (refine' KO;refine' KV)
                       refine' Nw;refine RJ (cs:=[_,_,_]) vw Jr ?_;intro ob w1 hb1 hf1 _ hk1;have hS:=hS.laid hb1 hf1 hk1;refine' zm;refine' K5;have hM:Lv m j.f s x= .ok [.mk 3 t.r ts]:=(by rw [kn Jo,Q4 hjt,Q4 hts];exact if_neg Jo);refine' OT;first|(exact AA)|(exact AI)|(exact AG)|(obtain ⟨c9,hle9,hS,hk9⟩:=Ge (r:=K0) (L:=Mo j s vl css L) hS.sp (hN:K0.at _ _ KZ);exact AJ)|(obtain ⟨c9,hle9,hS,hk9⟩:=Ge (r:=K0) (L:=Mo j s vl css L) hS.sp (hN:K0.at _ _ KZ);exact AF)|(obtain ⟨c9,hle9,hS,hk9⟩:=Ge (r:=K0) (L:=Mo j s vl css L) hS.sp hrow;exact AF)|(obtain ⟨c9,hle9,hS,hk9⟩:=Ge (r:=K0) (L:=Mo j s vl css L) hS.sp hrow;exact A5))
                  | (refine' KO
                     (refine Qo ?_;refine' K3;first|(refine' Qd)|(refine' Qi)|(refine' Ac<;>intro hc));all_goals (refine' K5)
                     all_goals
                      first
                      | (refine' KN;refine' KV)
                      | (refine' KO;(refine' Mm;first|(refine' Qd)|(refine' Qi)|(refine' Ac<;>intro hc));all_goals (refine' zm);all_goals refine' zn)
                     all_goals
                      first
                      | (refine' KO
                         (refine' K3;first|(refine' Qd)|(refine' Qi)|(refine' Ac<;>intro hc));all_goals (refine' K5)
                         all_goals
                          first
                          | (refine' KN
                             (refine' Nx;refine zC [(0,none),(1,none),(2,none),(4,none),(5,none),(6,none),(3,some (some [6])),(7,some none),(8,some none),(9,some none),(10,some none)] ?_;have hS:=hS.drew;refine' LP;refine' zm;refine' Nh;refine' U3;refine' NN (c:=R5 (s:=s) (k:=x.a) (kd:=2) (held:=true) hls hS.p3);rintro v1 w1 ⟨rfl,hS⟩;refine' Nj;refine' NN (c:=R5 (s:=s) (k:=x.b) (kd:=1) (held:=false) hls hS.p3);rintro v1 w1 ⟨rfl,hS⟩;refine' Mb;refine lJ (cs:=[_,_]) vw vw Jr ?_;intro fb w1 hb1 hf1 _ hk1;have hS:=hS.laid hb1 hf1 hk1;have hS:=GS (es:=1) (css:=[LW s x.a 2 true,LW s x.b 1 false].map Qs) hS rfl DJ rfl;refine' Mb;refine' Lf (c:=m6 (xs:=[LW s x.a 2 true,LW s x.b 1 false]) Js hS);rintro v1 w1 ⟨rfl,hS⟩;refine' TP;refine' Ls;first|(refine' QG)|(refine' QI)|(refine' Ad<;>intro hc));all_goals (refine' zn)
                             all_goals
                              first
                              | (refine' KN;refine' Lu;refine' K5;have hM:Lv m j.f s x= .error (Oh [LW s x.a 2 true,LW s x.b 1 false]):=(by rw [V2 Jo,gN,Zh];exact vW (cN _ _ _) (by rw [←gN,←Zh];omega) _);refine' OT;((exact AA)))
                              | (refine' KO;refine' KV)
                             refine Qo ?_;obtain ⟨t,tb,hjt,hjb⟩:=vX (x:=L4 s x.a 2) (y:=K6 s x.b 1) (cN _ _ _) (UH _ _ _) (by rw [←gN,←Zh];omega);obtain ⟨g0,ht,hk,hb⟩:=Xp hjt;have g1:=(FD.1 ht).1;obtain ⟨d,hd,hrd⟩:=hls.2 _ _ ht;obtain ⟨vd,rfl,hld⟩:=Qe hrd;refine zD (ci 13 [10,12]) ?_;have hS:=hS.drew;refine' Sz;refine' Lw;refine QN hS vw rfl fd Jo Jo ?_;intro b1 o1 hel1;refine' M6;refine Q5 (j:=1) hS hel1 rfl fd rfl hd rfl ?_;refine Nn [_,_,_] ?_;refine RJ (cs:=[_,_,_]) vw Jr ?_;intro ob w1 hb1 hf1 _ hk1;have hS:=hS.laid hb1 hf1 hk1;refine' zm;refine' K5;have hM:Lv m j.f s x= .ok [.mk 4 t.r []]:=(by rw [V2 Jo,Q4 hjt,Q4 hjb]);have hrow:∀{c:Cx},K0.at c [.int .i64 4, .int .i64 t.r, .slice none 0 0] (.mk 4 t.r []):=Rc (Gz _ _ _);refine' OT;first|(exact AA)|(exact AI)|(exact AG)|(obtain ⟨c9,hle9,hS,hk9⟩:=Ge (r:=K0) (L:=Mo j s vl css L) hS.sp (hN:K0.at _ _ KZ);exact AJ)|(obtain ⟨c9,hle9,hS,hk9⟩:=Ge (r:=K0) (L:=Mo j s vl css L) hS.sp (hN:K0.at _ _ KZ);exact AF)|(obtain ⟨c9,hle9,hS,hk9⟩:=Ge (r:=K0) (L:=Mo j s vl css L) hS.sp hrow;exact AF))
                          | (refine' KO
                             (refine' K3;first|(refine' Qd)|(refine' Qi)|(refine' Ac<;>intro hc));all_goals (refine' K5)
                             all_goals
                              first
                              | (refine' KN;refine Qo ?_;refine zC [(0,none),(1,none),(2,none),(3,none),(5,none),(6,none),(7,none),(4,some (some [7])),(8,some (some [])),(9,some (some [])),(10,some (some [])),(11,none),(12,some none)] ?_;have hS:=hS.drew;refine' O3;refine' zm;refine' Nh;refine' U3;refine' NN (c:=R5 (s:=s) (k:=x.a) (kd:=4) (held:=true) hls hS.p3);rintro v1 w1 ⟨rfl,hS⟩;refine' MG;refine' NN (c:=R5 (s:=s) (k:=x.b) (kd:=1) (held:=false) hls hS.p3);rintro v1 w1 ⟨rfl,hS⟩;refine' MG;refine lJ (cs:=[_,_]) vw vw Jr ?_;intro fb w1 hb1 hf1 _ hk1;have hS:=hS.laid hb1 hf1 hk1;have hS:=GS (es:=1) (css:=[LW s x.a 4 true,LW s x.b 1 false].map Qs) hS rfl DJ rfl;refine' MG;refine' Lf (c:=m6 (xs:=[LW s x.a 4 true,LW s x.b 1 false]) Js hS);rintro v1 w1 ⟨rfl,hS⟩;refine' Ni;refine' zm;refine' TP;have hC:QW (Lv m j.f s x)=Oh [LW s x.a 4 true,LW s x.b 1 false]:=(by rw [V3 Jo,gN,Zh];exact qX (cN _ _ _) (UH _ _ _) _);have hT:∀ts,Lv m j.f s x= .ok ts→ts=[KZ]:=(fun ts h=>by rw [V3 Jo] at h;exact Zg h fun _ h=>Zg h fun _ h=>by cases h;rfl);refine' OT;first|(exact AA)|(exact AI)|(exact AG)|(obtain ⟨c9,hle9,hS,hk9⟩:=Ge (r:=K0) (L:=Mo j s vl css L) hS.sp (hN:K0.at _ _ KZ);exact AJ))
                              | (refine' KO
                                 (refine' K3;first|(refine' Qd)|(refine' Qi)|(refine' Ac<;>intro hc));all_goals (refine' K5)
                                 all_goals
                                  first
                                  | (refine' KN;refine Qo ?_;refine zC [(0,none),(1,none),(2,none),(4,none),(5,none),(6,none),(8,none),(9,none),(10,none),(3,some (some [6,10])),(7,some (some [10])),(11,some none),(12,some none),(13,some none),(14,none),(15,some none)] ?_;have hS:=hS.drew;refine' LP;refine' zm;refine' Nh;refine' Sk;refine' Nh;refine' U3;refine' NN (c:=R5 (s:=s) (k:=x.a) (kd:=4) (held:=true) hls hS.p3);rintro v1 w1 ⟨rfl,hS⟩;refine' MG;refine' NN (c:=R5 (s:=s) (k:=x.b) (kd:=1) (held:=false) hls hS.p3);rintro v1 w1 ⟨rfl,hS⟩;refine' Nj;refine' NN (c:=R5 (s:=s) (k:=x.c) (kd:=1) (held:=false) hls hS.p3);rintro v1 w1 ⟨rfl,hS⟩;refine' Mb;refine yW (cs:=[_,_,_]) vw vw vw Jr ?_;intro fb w1 hb1 hf1 _ hk1;have hS:=hS.laid hb1 hf1 hk1;have hS:=GS (es:=1) (css:=[LW s x.a 4 true,LW s x.b 1 false,LW s x.c 1 false].map Qs) hS rfl DJ rfl;refine' Mb;refine' Lf (c:=m6 (xs:=[LW s x.a 4 true,LW s x.b 1 false,LW s x.c 1 false]) Js hS);rintro v1 w1 ⟨rfl,hS⟩;refine' Sk;refine' TP;have hC:QW (Lv m j.f s x)=Oh [LW s x.a 4 true,LW s x.b 1 false,LW s x.c 1 false]:=(by rw [qU Jo,gN,Zh,Zh];exact V5 (cN _ _ _) (UH _ _ _) (UH _ _ _) _);have hT:∀ts,Lv m j.f s x= .ok ts→ts=[]:=(fun ts h=>by rw [qU Jo] at h;exact Zg h fun _ h=>Zg h fun _ h=>Zg h fun _ h=>by cases h;rfl);refine' OT;first|(exact AA)|(exact AI)|(exact AG)|(obtain ⟨c9,hle9,hS,hk9⟩:=Ge (r:=K0) (L:=Mo j s vl css L) hS.sp (hN:K0.at _ _ KZ);exact AJ)|(obtain ⟨c9,hle9,hS,hk9⟩:=Ge (r:=K0) (L:=Mo j s vl css L) hS.sp (hN:K0.at _ _ KZ);exact AF)|(obtain ⟨c9,hle9,hS,hk9⟩:=Ge (r:=K0) (L:=Mo j s vl css L) hS.sp hrow;exact AF)|(obtain ⟨c9,hle9,hS,hk9⟩:=Ge (r:=K0) (L:=Mo j s vl css L) hS.sp hrow;exact A5)|(exact Bj)|(exact BD))
                                  | (refine' KO
                                     (refine' K3;first|(refine' Qd)|(refine' Qi)|(refine' Ac<;>intro hc));all_goals (refine' K5)
                                     all_goals
                                      first
                                      | (refine' KN;refine Qo ?_;refine' Mm;refine' zm;refine' zm;refine' MR;refine zl hS ?_;refine' NN (c:=R5 (s:=s) (k:=x.a) (kd:=4) (held:=true) hls hS.p3);rintro v1 w1 ⟨rfl,hS⟩;refine' zm;refine' zm;refine' zn;have hC:QW (Lv m j.f s x)=LW s x.a 4 true:=(by rw [qV Jo,gN];cases L4 s x.a 4<;>rfl);have hT:∀ts,Lv m j.f s x= .ok ts→ts=[KZ]:=(fun ts h=>by rw [qV Jo] at h;exact Zg h fun _ h=>by cases h;rfl);refine' zr;refine' lZ;first|(exact AA)|(exact AI)|(exact AG)|(obtain ⟨c9,hle9,hS,hk9⟩:=Ge (r:=K0) (L:=Mo j s vl css L) hS.sp (hN:K0.at _ _ KZ);exact AJ))
                                      | (refine' KO
                                         (refine' K3;first|(refine' Qd)|(refine' Qi)|(refine' Ac<;>intro hc));all_goals (refine' K5)
                                         all_goals
                                          first
                                          | (refine' KN;refine Qo ?_;refine' Mm;refine' zm;refine' MR;refine zl hS ?_;refine' NN (c:=R5 (s:=s) (k:=x.a) (kd:=1) (held:=false) hls hS.p3);rintro v1 w1 ⟨rfl,hS⟩;refine' zm;refine' zm;refine' zn;have hC:QW (Lv m j.f s x)=LW s x.a 1 false:=(by rw [qW Jo,Zh];cases K6 s x.a 1<;>rfl);have hT:∀ts,Lv m j.f s x= .ok ts→ts=[]:=(fun ts h=>by rw [qW Jo] at h;exact Zg h fun _ h=>by cases h;rfl);refine' zr;refine' lZ;first|(exact AA)|(exact AI)|(exact AG)|(obtain ⟨c9,hle9,hS,hk9⟩:=Ge (r:=K0) (L:=Mo j s vl css L) hS.sp (hN:K0.at _ _ KZ);exact AJ)|(obtain ⟨c9,hle9,hS,hk9⟩:=Ge (r:=K0) (L:=Mo j s vl css L) hS.sp (hN:K0.at _ _ KZ);exact AF)|(obtain ⟨c9,hle9,hS,hk9⟩:=Ge (r:=K0) (L:=Mo j s vl css L) hS.sp hrow;exact AF)|(obtain ⟨c9,hle9,hS,hk9⟩:=Ge (r:=K0) (L:=Mo j s vl css L) hS.sp hrow;exact A5)|(exact Bj)|(exact BD))
                                          | (refine' KO;refine' KV))))))
                      | (refine' KN
                         all_goals (refine' RB;refine' NN (c:=R5 (s:=s) (k:=x.a) (kd:=3) (held:=true) hls hS.p3);rintro v1 w1 ⟨rfl,hS⟩;refine' Mz;first|(refine' QG)|(refine' QI)|(refine' Ad<;>intro hc));all_goals (refine' zn)
                         all_goals
                          first
                          | (refine' KN;all_goals (refine' Lu;refine' K5;have hM:Lv m j.f s x= .error (LW s x.a 3 true):=Zi Jo (qT Jo);refine' OT);all_goals (exact AA))
                          | (refine' KO;all_goals refine' KV)
                         all_goals (refine' Nx;have hxk:=kQ hF Jo;obtain ⟨t,g0,g1,ht,hk,hb,hjt⟩:=qY (s:=s) (k:=x.a) (kd:=3) Jo;obtain ⟨d,hd,hrd⟩:=hls.2 _ _ ht;have hrt:=hrd;obtain ⟨vd,rfl,hld⟩:=Qe hrd;refine zD (ci 13 [12]) ?_;have hS:=hS.drew;refine' Lw;refine' Sz;refine' Lw;refine QN hS vw rfl fd Jo Jo ?_;intro b1 o1 hel1;refine' M6;refine Q5 (j:=2) hS hel1 rfl fd rfl hd rfl ?_;refine iU vw hld ?_;first|(refine' MV)|(refine' Nu)|(refine' Ag<;>intro hc));all_goals (refine' zn)
                         all_goals
                          first
                          | (refine' KN;all_goals (refine' NW;have hM:Lv m j.f s x= .error 9:=Zj Jo hjt (Gb Jo);refine' OT);all_goals (exact AA))
                          | (refine' KO;all_goals refine' KV)
                         all_goals (refine Qo ?_;refine zC [(0,none),(1,none),(2,none),(3,none),(4,none),(5,none),(6,none),(7,none),(8,none),(9,none),(10,none),(11,none),(12,none),(13,some (some [3,5,8,10,12])),(14,some none)] ?_;have hS:=hS.drew;refine' O3;refine' Sv;refine' Nh;refine' Ll;refine QN hS vw rfl fd Jo Jo ?_;intro b2 o2 hel2;refine' Ll;refine' Rz;refine Q5 (j:=2) hS hel2 rfl fd rfl hd rfl ?_;refine' Nh;refine' Ll;refine gd vw rfl hld rfl Jo Jo ?_;intro b3 o3 cs3 u3 hat3 hu3 hru3;have hrow:=hru3;obtain ⟨vu3,rfl,hlu3⟩:=Qe hru3;have hjf:=QfH hu3;refine' U1;intro p12 w1 hS;refine' zt;refine ⟨FG.2 ⟨Eu,FG.2 ⟨Eu,FG.2 ⟨(by (exact Bi)),FG.2 ⟨Eu,FG.2 ⟨(by first|(exact Bi)|(exact AP)|(exact A9)),fun _ h=>(FQ h).elim⟩⟩⟩⟩⟩,?_⟩;refine' L5;refine K1 hS ?_;intro w1 hS;have hS:=hS.ns;refine' LV;refine' NP;refine' aS;refine' zn)
                         all_goals
                          first
                          | (refine' KN;refine' Nw;refine RJ (cs:=[_,_,_]) vw Jr ?_;intro ob w1 hb1 hf1 _ hk1;have hS:=hS.laid hb1 hf1 hk1;refine' zm;refine' K5;have hM:Lv m j.f s x= .ok [u3]:=(by rw [SF Jo,Q4 hjt,Q4 hjf]);refine' OT;first|(exact AA)|(exact AI)|(exact AG)|(obtain ⟨c9,hle9,hS,hk9⟩:=Ge (r:=K0) (L:=Mo j s vl css L) hS.sp (hN:K0.at _ _ KZ);exact AJ)|(obtain ⟨c9,hle9,hS,hk9⟩:=Ge (r:=K0) (L:=Mo j s vl css L) hS.sp (hN:K0.at _ _ KZ);exact AF)|(obtain ⟨c9,hle9,hS,hk9⟩:=Ge (r:=K0) (L:=Mo j s vl css L) hS.sp hrow;exact AF))
                          | (refine' KO;refine' KV)
                         (all_goals (refine' Nx;refine zD (ci 13 [12]) ?_;have hS:=hS.drew;refine' Lw;first|(refine' LG)|(refine' LM)|(refine' Ae<;>intro hc));all_goals (refine' Ms;refine' Xs;refine' Nv;(first|refine' KP|(refine' KQ;refine QL hS vw fd hlc ?_));first|refine' KP|(refine' KQ;(first|(refine' MV)|(refine' Nu)|(refine' Ag<;>intro hc)))));all_goals (refine' LH)
                         all_goals
                          first
                          | (refine' KN;all_goals (refine' NW;have hM:Lv m j.f s x= .error 1:=(by rw [gM Jo,Q4 hjt,Q4 hjf,Qy (aB Jo)]);refine' OT);all_goals (exact AA))
                          | (refine' KO;refine' KV)
                         all_goals (refine' Nx;obtain ⟨t4,ht4⟩:∃t,s.l[x.b.toNat]?=some t:=⟨_,FB Jo⟩;obtain ⟨d4,hd4,hrd4⟩:=hls.2 _ _ ht4;have hrt4:=hrd4;obtain ⟨vd4,rfl,hld4⟩:=Qe hrd4;have hj4:=Yn (s:=s) (k:=x.b) Jo ht4;refine zD (ci 11 [9,10]) ?_;have hS:=hS.drew;refine zv hS ?_;refine' Sz;refine' Lw;refine QN hS vw rfl fd Jo Jo ?_;intro b4 o4 hel4;refine OY hS hel4 rfl fd rfl hd4 ?_;refine' KU (c:=qg _ _ hrow hrt4 hS);rintro v1 w1 ⟨rfl,hS⟩;cases hdc:decide (u3=t4));all_goals (refine' Oy)
                         all_goals
                          first
                          | (refine' KN;refine' NW;have hM:Lv m j.f s x= .error 9:=(by rw [gM Jo,Q4 hjt,Q4 hjf,Q4 hj4];exact if_pos (of_decide_eq_false hdc));refine' OT;((exact AA)))
                          | (refine' KO;refine' KV)
                         all_goals (refine' NW;have hM:Lv m j.f s x= .ok []:=(by rw [gM Jo,Q4 hjt,Q4 hjf,Q4 hj4];exact if_neg (fun h=>h (of_decide_eq_true hdc)));refine' OT);all_goals (first|(exact AA)|(exact AI)))
                     (refine Qo ?_;have hk:=xz hF Jo;have hop14:x.op=14:=DB;refine zC [(0,none),(1,none),(2,none),(3,none),(4,none),(5,none),(6,none),(7,none),(8,none),(9,some (some [4,6,8])),(10,some none)] ?_;have hS:=hS.drew;refine' TQ;refine' js;refine' Nh;refine' Ll;refine' N9;intro b2 o2 cs2 x2 hat2 hx2 he2;obtain ⟨vp2,vr2,vb2,rfl,hp2,hr2,hb2⟩:=QC he2;refine' U1;intro p14 w1 hS;refine' Nj;refine K1 hS ?_;intro w1 hS;have hS:=hS.ns;refine' LV;have ej:=Zk (m:=m) (f:=j.f) (s:=s) hop14 hx2;have hsf:=hm.2 x2 (FC hx2);have hrl:=hr2.len;have hrs:=hsf.2.1.1;refine' NP;(first|(refine QL hS vw fd hlc ?_)|(refine' zL));refine' Lw;first|(refine' QG)|(refine' QI)|(refine' Ad<;>intro hc));all_goals (refine' zn)
                     all_goals
                      first
                      | (refine' KN;refine' NW;have hM:Lv m j.f s x= .error 2:=ej.trans (if_pos Jo);refine' OT;((exact AA)))
                      | (refine' KO;refine' KV)
                     refine' M8;refine Mx hS [0,3,14] (fun A LL ρ' w'=>∃(q:Nat),KR ρ' A∧KR ρ' [(15, .int .i64 q)]∧(q≤x.regs.length)∧(NB s.h [] x.regs=NB s.h (x.regs.take q) (x.regs.drop q))∧(¬(x.regs.length:Int)≠x2.regs)∧St cx w' (LL)) (fun ρ' _=>(x.regs.length - iv (ρ' 15)).toNat) ?_ ?_
                     · exact ⟨0,zh,zh,Jo,by rfl,Jo,hS.sp⟩
                     rintro ρ w1 ⟨q,hA,hρ,hq,hdr,hne,hS⟩;obtain ⟨ρ,rfl⟩:=KS hA hρ;refine' RB;(first|(refine QL hS vw fd hlc ?_)|(refine' zL));refine' RU;refine' Ab<;>intro hc
                     · skip
                       refine' MF;refine' Nx;refine zD (ci 11 [9,10]) ?_;have hS:=hS.drew;refine' Sz;refine' Lw;refine' zm;refine' zi;intro b3 o3 cs3 x3 hat3 hx3 he3;obtain rfl:=QB he3;refine' N8;refine' KU (c:=Xh hS fd);rintro v1 w1 ⟨rfl,hS⟩;cases hb1:K4 s.h x3;all_goals (refine' Oy)
                       all_goals
                        first
                        | (refine' KN;refine' NW;have hM:Lv m j.f s x= .error 10:=(by rw [ej,if_neg hne,Qy (xw (p:=[]) hx3 hdr hb1)]);refine' OT;((exact AA)))
                        | (refine' KO;refine' KV)
                       refine Qo ?_;refine zD (ci 10 [9]) ?_;have hS:=hS.drew;refine' Lw;refine' zm;((refine iV vw hr rfl rfl ⟨_,rfl⟩ rfl Jo Jo ?_;intro v4 hs4;rw [GD] at hs4));refine' Lw;refine' zm;refine TA vw rfl hr rfl Jo ?_;intro b7 o7 cs7 x7 hat7 hx7 he7;obtain rfl:=QB he7;obtain rfl:x3=x7:=FY (hx3.symm.trans hx7);refine' N8;refine' KU (c:=Xg hs4 hS);rintro v1 w1 ⟨rfl,hS⟩;cases hb2:decide (x3∈x.regs.take q);all_goals (refine' zn)
                       all_goals
                        first
                        | (refine' KN;refine' NW;have hM:Lv m j.f s x= .error 13:=(by rw [ej,if_neg hne,Qy (xu hx3 hdr hb1 (of_decide_eq_true hb2))]);refine' OT;((exact AA)))
                        | (refine' KO;refine' KV)
                       refine' Mk;(exact ⟨⟨q+1,zh,zh,Jo,by exact xx hx3 hdr hb1 (of_decide_eq_false hb2),hne,hS.sp⟩,Qc Jo⟩)
                     · skip
                       (refine' L7;have hrg:=rV hdr Jo;refine' RB;refine' Lw;refine' Lw;refine' NN (c:=sq (s:=s) hsf.1.2 hls ha hp2 hr hS.p3);rintro v1 w1 ⟨rfl,hS⟩;refine' Mz;first|(refine' QG)|(refine' QI)|(refine' Ad<;>intro hc));all_goals (refine' zn)
                       all_goals
                        first
                        | (refine' KN;refine' Lu;refine' K5;have hM:Lv m j.f s x= .error (QW (O2 s x.args x2.params x.regs)):=(by rw [ej,if_neg hne,Q4 hrg,Qy (mD Jo)]);refine' OT;((exact AA)))
                        | (refine' KO;refine' KV)
                       refine' Mf;have har:=qZ (cO s x.args x2.params x.regs) Jo;have hM:Lv m j.f s x= .ok (x2.results.map (Nc x.regs)):=(by rw [ej,if_neg hne,Q4 hrg,Q4 har]);refine' M8;have hS:=Ic (T:=115) (es:=3) hS;refine zo [3,14] (fun A ρ' w'=>∃(k2:Cx) (q:Nat) (vl2:Value) (cs2:List (List Value)),KR ρ' A∧KR ρ' [(18, .int .i64 q),(17,vl2)]∧(cx.Le k2)∧(q≤x2.results.length)∧(K0.ls k2 cs2 ((x2.results.take q).map (Nc x.regs)))∧St k2 w' (sl 115 3 vl2 cs2::blk p14 95 [.int .i64 x2.regs,vp2,vr2,vb2]::blk nb 115 [.int .i64 1, .int .i64 0, .slice none 0 0]::blk p3 84 [.int .i64 x.op, .int .i64 x.a, .int .i64 x.b, .int .i64 x.c, .int .i64 x.k, .int .i64 x.n,vr,va]::blk j.sp 158 (j.kcells vl)::RF j.hp s.h::sl 115 3 vl css::L)) (fun ρ' _=>(x2.results.length - iv (ρ' 18)).toNat) ?_ ?_
                       · exact ⟨cx,0,_,_,zh,zh,Gj hS,Jo,GU _ _ _,hS.sp⟩
                       rintro ρ w1 ⟨k2,q,vl2,cs2,hA,hρ,hle2,hq,hlo,hS⟩;obtain ⟨ρ,rfl⟩:=KS hA hρ;have hL2:=hle2;(try have hr2:=hr2.up hle2);(try have hr:=hr.up hle2);refine' RB;(first|(refine QL hS vw fd hlc ?_)|(refine' zL));refine' RU;refine' Ab<;>intro hc
                       · skip
                         refine' Rm;refine Ru 7 11 Jk ?_ ?_
                         · skip;refine zC [(0,none),(1,none),(2,none),(3,none),(4,none),(5,none),(6,none),(7,some none),(8,none),(9,none),(10,none),(11,some (some [])),(12,some (some [])),(13,some none)] ?_;have hS:=hS.drew;refine' UW;refine' M9;refine' zi;intro b4 o4 cs4 x4 hat4 hx4 he4;obtain ⟨vl4,rfl,hl4⟩:=Qe he4;refine' gB;refine' Nh;refine' Mb;refine' KU (c:=rT x4 (hsf.2.1.2 x4 (FC hx4)) he4 hr hS);rintro v1 w1 ⟨c3,ds,rfl,hle2,hu3,hS⟩;(try have hL2:=hL2.trans hle2);(try have hlo:=hlo.up hle2);have hu3':=hu3;obtain ⟨vu,rfl,hlu⟩:=Qe hu3;refine' M9;refine' TG;refine' U0;refine' Rk;intro p19 w1 hS;refine' MG;refine K1 hS ?_;intro w1 hS;have hS:=hS.ns;refine' Nj;refine' cX;refine' PX;refine LK hS [_,_,_] ?_;intro b1 w1 hS;refine za Ro RE hS ?_;intro vp2 w2 css2 hls2 hv2 hS;have hS:=hS.ns;refine' UZ;(exact Dg)
                         · skip;refine zC [(0,none),(1,none),(2,none),(3,none),(4,none),(5,none),(6,none),(11,some (some [1,4,6])),(7,some none),(8,none),(9,none),(10,none),(12,some (some [])),(13,some none)] ?_;have hS:=hS.drew;refine' UW;refine' M9;refine' zi;intro b4 o4 cs4 x4 hat4 hx4 he4;obtain ⟨vl4,rfl,hl4⟩:=Qe he4;refine' gB;refine' Nh;refine' Rk;intro p19 w1 hS;refine' Nj;refine' KU (c:=rT x4 (hsf.2.1.2 x4 (FC hx4)) he4 hr hS);rintro v1 w1 ⟨c3,ds,rfl,hle2,hu3,hS⟩;(try have hL2:=hL2.trans hle2);(try have hlo:=hlo.up hle2);have hu3':=hu3;obtain ⟨vu,rfl,hlu⟩:=Qe hu3;refine' M9;refine' TG;refine' U0;refine' My;refine K1 hS ?_;intro w1 hS;have hS:=hS.ns;refine' Nj;refine' cX;refine' PX;refine LK hS [_,_,_] ?_;intro b1 w1 hS;refine za Ro RE hS ?_;intro vp2 w2 css2 hls2 hv2 hS;have hS:=hS.ns;refine' UZ;(exact Dg)
                       · skip;refine' L7;refine' Lu;refine' YB;first|(exact AA)|(exact AI)|(exact AG)|(obtain ⟨c9,hle9,hS,hk9⟩:=Ge (r:=K0) (L:=Mo j s vl css L) hS.sp (hN:K0.at _ _ KZ);exact AJ)|(obtain ⟨c9,hle9,hS,hk9⟩:=Ge (r:=K0) (L:=Mo j s vl css L) hS.sp (hN:K0.at _ _ KZ);exact AF)|(obtain ⟨c9,hle9,hS,hk9⟩:=Ge (r:=K0) (L:=Mo j s vl css L) hS.sp hrow;exact AF)|(obtain ⟨c9,hle9,hS,hk9⟩:=Ge (r:=K0) (L:=Mo j s vl css L) hS.sp hrow;exact A5)|(exact Bj)|(exact BD)|(have hM:Lv m j.f s x= .error 11:=(by rw [dT Jo,Q4 hjt,if_pos Jo]);exact AA)|(have hM:Lv m j.f s x= .ok []:=(by rw [dT Jo,Q4 hjt,if_neg Jo]);exact AG)|(obtain ⟨c9,hle9,hS,hk9⟩:=GF (r:=K0) hS hlo rfl (by simp only [FF,GM];omega);exact ⟨_,rfl,c9,_,hL2.trans hle9,Zd hM,ki hM (by rw [Gd Jo] at hk9;exact hk9),hS.sp⟩))))))
end
section
attribute [local irreducible] K4 Mq MY NG Om LJ LW Oh Lv Lj
variable {cx:Cx}{w:World}{L:List Res}{j:JP}{h:List Bool}{vl:Value}{css:List (List Value)}{i:Nat}{m:Module}
theorem m7 {s':JS}{c:Int}{c':Cx}{vl':Value}{css':List (List Value)}(hJ:Lj m j.f s x=(c,s'))(hle:cx.Le c')(hls:K0.ls c' css' s'.l)(hS:St c' w (Mo j s' vl' css' L)):
 ∃c' vl' css',cx.Le c'∧(Value.int .i64 c)= .int .i64 (Lj m j.f s x).1∧K0.ls c' css' (Lj m j.f s x).2.l∧St c' w (Mo j (Lj m j.f s x).2 vl' css' L):=by
 rw [hJ];exact ⟨_,_,_,hle,rfl,hls,hS⟩
theorem fI (hm:m.Short)(hg:JInv m j.f s)(hj:j.Fits cx m)(hx:Lz.at cx cs x)(hls:K0.ls cx css s.l)(hS:St cx w (Mo j s vl css L)):
 KK Tryz.prog Qe0 [.pointer (some ⟨j.sp,0,none⟩), .agg ⟨cs⟩] w fun u w'=>∃c' vl' css',cx.Le c'∧u= .int .i64 (Lj m j.f s x).1∧K0.ls c' css' (Lj m j.f s x).2.l∧St c' w' (Mo j (Lj m j.f s x).2 vl' css' L):=by
 (have hx':=hx;have hlc:=hls.1;have hn:=hg.n;have hh:=hg.h;have hlen:(s.h.map QH).length=s.h.length:=FF _;obtain ⟨vr,va,rfl,hr,ha⟩:=QY hx;refine KY KX Tryz.func54 ?_;refine' Lx;intro p3 w1 hS;refine' S8;refine zD (ci 7 [5,6]) ?_;have hS:=hS.drew;refine' zm;refine' Ma;refine zv hS ?_;refine zv hS ?_;refine' KU (c:=VO (m:=m) ⟨_,rfl,hj.m⟩ hx' hS);rintro v1 w1 ⟨rfl,hS⟩;refine' Mz;first|(refine' QG)|(refine' QI)|(refine' Ad<;>intro hc));all_goals (refine' zn)
 all_goals
  first
  | (refine' KN;refine' NW;have hJ:=dV (f:=j.f) (s:=s) (x:=x) (m:=m) Jo;refine' Ri;(exact Bq))
  | (refine' KO;refine' KV)
 (refine Qo ?_;have hF:Qz m.funcs.length x=0:=DB;refine' PX;refine' KU (c:=Xi (s:=s) hm hF hg.toJGood hj hx' hls hS.p3);rintro v1 w1 ⟨c1,vm1,hle2,rfl,hv0,hS⟩;have hls:=hls.up hle2;refine' S5;refine' Pz;first|(refine' QG)|(refine' QI)|(refine' Ad<;>intro hc));all_goals (refine' zn)
 all_goals
  first
  | (refine' KN;refine' NW;have hJ:=dW (f:=j.f) (s:=s) hF hg Jo;refine' Ri;first|(exact Bq)|(exact BI))
  | (refine' KO;refine' KV)
 (refine' Nx;obtain ⟨ts,hts⟩:=mB (dU m j.f s x) Jo;have hv:=hv0 ts hts;have hvl:=hv.len;refine' RZ;refine QL hS vw fd hlc ?_;refine' zm;refine iU vw hv ?_;refine' NH;first|(refine' QO)|(refine' QV)|(refine' Af<;>intro hc));all_goals (refine' zn)
 all_goals
  first
  | (refine' KN;refine' Mf;have hJ:=dX hF hg hts Jo;refine' Ri;first|(exact Bq)|(exact BI))
  | (refine' KO;refine' KV)
 (refine' NP;first|(refine' Qd)|(refine' Qi)|(refine' Ac<;>intro hc));all_goals (refine' zn)
 all_goals
  first
  | (refine' KN;obtain ⟨vh,hS⟩:=fF (hp:=j.hp) (h:=s.h) (L:=blk j.sp 158 (j.kcells vl)::sl 115 3 vl css::blk p3 84 [.int .i64 x.op, .int .i64 x.a, .int .i64 x.b, .int .i64 x.c, .int .i64 x.k, .int .i64 x.n,vr,va]::L) hS.sp;have h16:=Zn hts Jo;have hJ:=Zl hF hg hts Jo Jo;refine zC [(0,none),(1,none),(2,none),(3,none),(4,none),(5,none),(6,none),(7,none),(8,none),(9,none),(10,none),(11,some (some [3,7,10])),(12,some (some [3])),(13,none),(14,none),(15,some none)] ?_;have hS:=hS.drew;refine' O3;refine' Sv;refine' M9;refine' Sv;refine' Ll;refine' S3;refine' PY;refine LK hS [_] ?_;intro b1 w1 hS;refine' MG;refine Ow jE (.inl mj) hS vw vw fd (hS.srcB1 fd rfl) DE ?_;intro vp w2 hS;have hS:=hS.ns;rw [show s.h.map QH++[[Value.bool true]]=(s.h++[true]).map QH by simp [QH]] at hS;refine' Ni;refine' Xt;refine' MR;refine' Mb;((refine Mi hS ?_;intro w1 hS;have hS:=hS.ns));refine' LV;have hS:=bI (hp:=j.hp) (h:=s.h++[true]) (v:=vp) (L:=blk j.sp 158 (j.kcells vl)::sl 115 3 vl css::blk p3 84 [.int .i64 x.op, .int .i64 x.a, .int .i64 x.b, .int .i64 x.c, .int .i64 x.k, .int .i64 x.n,vr,va]::L) hS.sp)
  | (refine' KO;refine' KV)
 all_goals (refine' NP;first|(refine' Qd)|(refine' Qi)|(refine' Ac<;>intro hc));all_goals (refine' zn)
 all_goals
  first
  | (refine' KO;all_goals refine' KV)
  | (refine' KN;obtain ⟨vh,hS⟩:=fF (hp:=j.hp) (h:=s.h) (L:=blk j.sp 158 (j.kcells vl)::sl 115 3 vl css::blk p3 84 [.int .i64 x.op, .int .i64 x.a, .int .i64 x.b, .int .i64 x.c, .int .i64 x.k, .int .i64 x.n,vr,va]::L) hS.sp;obtain ⟨t,g0,g1,ht,r0,r1⟩:=Zo hts Jo;have hJ:=Zm hF hg hts Jo Jo ht;obtain ⟨d,hd,hrd⟩:=hls.2 _ _ ht;obtain ⟨vd,rfl,hld⟩:=Qe hrd;refine zD (ci 18 [17]) ?_;have hS:=hS.drew;refine' Sz;refine' Oa;refine' Sz;refine' Lw;refine QN hS vw rfl fd Jo Jo ?_;intro b1 o1 hel1;refine' M6;refine Q5 (j:=1) hS hel1 rfl fd rfl hd rfl ?_;refine QN hS vw rfl fd Jo Jo ?_;intro b2 o2 hel2;refine lL hS hel2 rfl vw fd rfl (Ns QH s.h false Jo) Jd rfl ?_;intro w2 hS;have hS:=hS.ns;rw [show (QH (s.h.getD t.r.toNat false)).set 0 (Value.bool false)=QH false from rfl,map_set] at hS;refine' zn;have hS:=bI (hp:=j.hp) (h:=s.h.set t.r.toNat false) (v:=vh) (L:=blk j.sp 158 (j.kcells vl)::sl 115 3 vl css::blk p3 84 [.int .i64 x.op, .int .i64 x.a, .int .i64 x.b, .int .i64 x.c, .int .i64 x.k, .int .i64 x.n,vr,va]::L) hS.sp)
 all_goals (refine' Lu;refine' Oa;refine' zm;(first|(refine za Ro RE hS ?_;intro vp1 w1 css1 hls1 hv1 hS;have hS:=hS.ns)|(refine jl Ro RE hS ?_;intro vp1 w1 css1 hls1 hv1 hS;have hS:=hS.ns));refine' Ma;refine Mi hS ?_;intro w1 hS;have hS:=hS.ns;refine' zn;refine' Lh;(first|(exact Bq)|(exact BI)|(exact ⟨_,rfl,m7 hJ hle2 hls1 hS.sp⟩)|(exact ⟨_,rfl,m7 (dY hF hg hts Jo Jo Jo) hle2 hls1 hS.sp⟩)))
theorem Xj {t:To}(hsf:j.f.Short)(hb:0≤t.block∧t.block<j.f.blocks.length)(hfb:∀b∈j.f.blocks,j.f.regs≤b.regs)(hh:s.h.length≤16)(hj:j.Fits cx m)(hx:toR.at cx cs t)(hls:K0.ls cx css s.l)(hS:St cx w (Mo j s vl css L)):
 KK Tryz.prog Qg8 [.pointer (some ⟨j.sp,0,none⟩), .agg ⟨cs⟩] w fun u w'=>u= .int .i64 (QW (On j.f s t))∧St cx w' (Mo j s vl css L):=by
 (have hx':=hx;obtain ⟨vr,va,rfl,hr,ha⟩:=SX hx;have hlr:=hr.len;have hbl:=hj.b;refine KY KX Tryz.func97 ?_;refine' Lx;intro p3 w1 hS;refine' OS;refine zC [(0,none),(1,none),(2,none),(3,none),(4,none),(5,none),(6,none),(7,none),(8,none),(9,some (some [4,6,8])),(10,some none)] ?_;have hS:=hS.drew;refine' TQ;refine' Rz;refine zl hS ?_;refine' Nh;refine' Ll;refine' N9;intro b1 o1 cs1 x1 hat1 hx1 he1;obtain ⟨vp1,vc1,ve11,ve12,ve13,ve14,ve15,rfl,hp1,hc1,he11,he12,he13,he14,he15⟩:=OZ he1;refine' U1;intro p5 w1 hS;refine' Nj;refine K1 hS ?_;intro w1 hS;have hS:=hS.ns;refine' LV;have hbm:=FC hx1;have hf1:=hfb x1 hbm;have hsb:=hsf.2.2.2 x1 hbm;refine' NP;refine' zL;refine' Lw;first|(refine' QG)|(refine' QI)|(refine' Ad<;>intro hc));all_goals (refine' zn)
 all_goals
  first
  | (refine' KN;refine' Lh;((refine ⟨_,rfl,?_,hS.sp⟩;(rw [i5 hx1 Jo];rfl);done)))
  | (refine' KO;refine' KV)
 refine' M8;refine Mx hS [0,3,5] (fun A LL ρ' w'=>∃(q:Nat),KR ρ' A∧KR ρ' [(6, .int .i64 q)]∧(q≤j.f.regs.toNat)∧(Om t.regs q=true)∧(¬(t.regs.length:Int)≠x1.regs)∧St cx w' (LL)) (fun ρ' _=>(j.f.regs - iv (ρ' 6)).toNat) ?_ ?_
 · exact ⟨0,zh,zh,Jo,by unfold Om;rfl,Jo,hS.sp⟩
 rintro ρ w1 ⟨q,hA,hρ,hq,hk,hne,hS⟩;obtain ⟨ρ,rfl⟩:=KS hA hρ;refine' PB;refine' Sn;refine' RU;refine' Ab<;>intro hc
 · skip
   (refine' MF;refine' Ot;refine' zm;refine' zi;intro b2 o2 cs2 x2 hat2 hx2 he2;obtain rfl:=QB he2;refine' N8;refine' zm;first|(refine' QG)|(refine' QI)|(refine' Ad<;>intro hc));all_goals (refine' zn)
   all_goals
    first
    | (refine' KN;refine' Lh;first|(refine ⟨_,rfl,?_,hS.sp⟩;rw [i5 hx1 Jo];rfl;done)|(refine ⟨_,rfl,?_,hS.sp⟩;rw [lU hx1 hne (lT (q:=q) Jo Ek)];rfl;done))
    | (refine' KO;refine' KV)
   refine' Mk;(exact CS)
 · skip
   (refine' L7;have hq':q=j.f.regs.toNat:=DB;rw [hq'] at hk;refine' Nx;refine zD (ci 8 [6,7]) ?_;have hS:=hS.drew;refine' Sz;refine' Lw;refine' KU (c:=ae (h:=s.h) hh hr hS fd);rintro v1 w1 ⟨rfl,hS⟩;refine' Mz;first|(refine' QG)|(refine' QI)|(refine' Ad<;>intro hc));all_goals (refine' zn)
   all_goals
    first
    | (refine' KN;refine' RV;first|(refine ⟨_,rfl,?_,hS.sp⟩;rw [i5 hx1 Jo];rfl;done)|(refine ⟨_,rfl,?_,hS.sp⟩;rw [lU hx1 hne (lT (q:=q) Jo Ek)];rfl;done)|(refine ⟨_,rfl,?_,hS.sp⟩;rw [UF hx1 hne hk Jo];rfl;done))
    | (refine' KO;refine' KV)
   refine' O6;refine' Lw;refine' Lw;refine' NN (c:=sq (s:=s) hsb.1.2 hls ha hp1 hr hS.p3);rintro v1 w1 ⟨rfl,hS⟩;refine' Ly;first|(refine ⟨_,rfl,?_,hS.sp⟩;rw [i5 hx1 Jo];rfl;done)|(refine ⟨_,rfl,?_,hS.sp⟩;rw [lU hx1 hne (lT (q:=q) Jo Ek)];rfl;done)|(refine ⟨_,rfl,?_,hS.sp⟩;rw [UF hx1 hne hk Jo];rfl;done)|(refine ⟨_,rfl,?_,hS.sp⟩;rw [UG hx1 hne hk Jo];done)
end
section
attribute [local irreducible] K4 Mq MY NG Om LJ LW Oh Lv Lj MD Module.fault
variable {cx:Cx}{w:World}{L:List Res}{j:JP}{h:List Bool}{vl:Value}{css:List (List Value)}{i:Nat}{m:Module}
theorem Qcd (f:Fun)(s:JS)(t:To):NZ (On f s t):=by
 unfold On;split
 · exact .e Jd
 · split
   · exact .e Jd
   · split
     · exact .e Jd
     · split
       · rename_i h;exact .e h
       · exact cO _ _ _ _
theorem fJ {e:Tail}(hsf:j.f.Short)(hfb:∀b∈j.f.blocks,j.f.regs≤b.regs)(hf0:0≤j.f.regs)(hfr:j.f.regs≤100000)(hg:JInv m j.f s)(hj:j.Fits cx m)(hx:LZ.at cx cs e)(hls:K0.ls cx css s.l)(hS:St cx w (Mo j s vl css L)):
 KK Tryz.prog Qe1 [.pointer (some ⟨j.sp,0,none⟩), .agg ⟨cs⟩] w fun u w'=>u= .int .i64 (MD j.f s e)∧St cx w' (Mo j s vl css L):=by
 (have hx':=hx;have hh:=hg.h;obtain ⟨v1,v2,v3,v4,v5,rfl,h1,h2,h3,h4,h5⟩:=RM hx;have hT1:toR.at cx [.int .i64 e.yes.block,v1,v2] e.yes:=⟨_,_,rfl,h1,h2⟩;have hT2:toR.at cx [.int .i64 e.no.block,v3,v4] e.no:=⟨_,_,rfl,h3,h4⟩;have hjr:=hj.r;refine KY KX Tryz.func56 ?_;refine' Lx;intro p3 w1 hS;refine' S8;refine zD (ci 7 [5,6]) ?_;have hS:=hS.drew;refine' zm;refine' Ma;refine zv hS ?_;refine zv hS ?_;refine' KU (c:=VQ (x:=j.f) ⟨_,_,_,rfl,hj.p,hj.r,hj.b⟩ hx' hS);rintro v1 w1 ⟨rfl,hS⟩;refine' Mz;first|(refine' QG)|(refine' QI)|(refine' Ad<;>intro hc));all_goals (refine' zn)
 all_goals
  first
  | (refine' KN;refine' NW;have hJ:=dZ (f:=j.f) (s:=s) (e:=e) Jo;refine' Ri;(exact AV))
  | (refine' KO;refine' KV)
 (refine' Nx;have hF:NU j.f.blocks.length e=0:=DB;have hE:=ea (s:=s) hF;have hop:=gm hF;have hy:e.op≠3→0≤e.yes.block∧e.yes.block<j.f.blocks.length:=(fun h=>Yo Fx);have hz:e.op=2→0≤e.no.block∧e.no.block<j.f.blocks.length:=(fun h=>Yo ET);refine' So;refine' S6;refine' K3;first|(refine' Qd)|(refine' Qi)|(refine' Ac<;>intro hc));all_goals (refine' K5)
 all_goals
  first
  | (refine' KN;refine' Ls;refine' PC;refine' KU (c:=Xj (s:=s) hsf (hy Jo) hfb hh hj hT1 hls hS.p3);rintro v6 w1 ⟨rfl,hS⟩;refine' K5;have hJ:MD j.f s e=QW (On j.f s e.yes):=(by rw [hE,lV Jo]);refine' Ri;(exact AV))
  | (refine' KO
     (refine' K3;first|(refine' Qd)|(refine' Qi)|(refine' Ac<;>intro hc));all_goals (refine' K5)
     all_goals
      first
      | (refine' KN
         (refine' RB;refine' NN (c:=R5 (s:=s) (k:=e.a) (kd:=1) (held:=false) hls hS.p3);rintro v6 w1 ⟨rfl,hS⟩;refine' Mz;first|(refine' QG)|(refine' QI)|(refine' Ad<;>intro hc));all_goals (refine' zn)
         all_goals
          first
          | (refine' KN;refine' NW;have hJ:MD j.f s e=LW s e.a 1 false:=(by rw [hE,aI Jo,Qy (QcU Jo)];rfl);refine' Ri;(exact AV))
          | (refine' KO;refine' KV)
         (refine' Nx;obtain ⟨t1,g1⟩:=Qgu (s:=s) (k:=e.a) (kd:=1) Jo;refine' Mj;refine' PC;refine' KU (c:=Xj (s:=s) hsf (hy Jo) hfb hh hj hT1 hls hS.p3);rintro v6 w1 ⟨rfl,hS⟩;refine' Mz;first|(refine' QG)|(refine' QI)|(refine' Ad<;>intro hc));all_goals (refine' zn)
         all_goals
          first
          | (refine' KN;refine' NW;have hJ:MD j.f s e=QW (On j.f s e.yes):=(by rw [hE,aI Jo,Q4 g1,Qy (mD Jo)];rfl);refine' Ri;(exact AV))
          | (refine' KO;refine' KV)
         refine' Ls;refine' PC;refine' KU (c:=Xj (s:=s) hsf (hz Jo) hfb hh hj hT2 hls hS.p3);rintro v6 w1 ⟨rfl,hS⟩;refine' K5;have hJ:MD j.f s e=QW (On j.f s e.no):=(by rw [hE,aI Jo,Q4 g1,Q4 (qZ (Qcd _ _ _) Jo)]);refine' Ri;(exact AV))
      | (refine' KO;refine' KV))
 refine' Mf;refine' M8;have hS:=Ic (T:=3) (es:=1) hS;refine zo [0,3] (fun A ρ' w'=>∃(q:Nat) (vo:Value) (co:List (List Value)),KR ρ' A∧KR ρ' [(9, .int .i64 q),(8,vo)]∧(q≤j.f.regs.toNat)∧(KM.ls cx co (LJ q))∧((LJ q).length=q)∧(e.op=3)∧St cx w' (sl 3 1 vo co::blk p3 90 [.int .i64 e.op, .int .i64 e.a, .int .i64 e.yes.block,v1,v2, .int .i64 e.no.block,v3,v4,v5]::blk j.sp 158 (j.kcells vl)::RF j.hp s.h::sl 115 3 vl css::L)) (fun ρ' _=>(j.f.regs - iv (ρ' 9)).toNat) ?_ ?_
 · exact CY
 rintro ρ w1 ⟨q,vo,co,hA,hρ,hq,hlo,hlq,ho3,hS⟩;obtain ⟨ρ,rfl⟩:=KS hA hρ;refine' PB;refine' Sn;refine' RU;refine' Ab<;>intro hc
 · skip;refine' MF;refine' NJ;refine LK hS [_] ?_;intro b1 w1 hS;refine za SC Tg hS ?_;intro vp1 w1 css1 hls1 hv1 hS;have hS:=hS.ns;refine' UZ;(exact CO)
 · skip
   (refine' L7;have hq':q=j.f.regs.toNat:=DB;rw [hq'] at hlo;obtain ⟨c1,hle2,hS,hk1⟩:=GF (r:=KM) hS hlo rfl (by rw [←hq'];omega);have hls':=hls.up hle2;have h5':=h5.up hle2;have hjr':=hjr.up hle2;refine' Nx;refine zD (ci 11 [9,10]) ?_;have hS:=hS.drew;refine' zm;refine' Lw;refine' zm;refine' Sn;refine' zm;refine' NN (c:=sq (s:=s) hsf.2.1.2 hls' h5' hjr' hk1 hS.p3);rintro v6 w1 ⟨rfl,hS⟩;refine' Mz;first|(refine' QG)|(refine' QI)|(refine' Ad<;>intro hc));all_goals (refine' zn)
   all_goals
    first
    | (refine' KN;refine' NW;have hJ:MD j.f s e=QW (O2 s e.args j.f.results (LJ j.f.regs.toNat)):=(by rw [hE,cM ho3,Qy (mD Jo)];rfl);refine' Ri;first|(exact AV)|(exact BT))
    | (refine' KO;refine' KV)
   refine Qo ?_;have har:=qZ (cO s e.args j.f.results (LJ j.f.regs.toNat)) Jo;refine' RZ;refine' Lf (c:=aa (h:=s.h) hh hS fd);rintro v1 w1 ⟨c2,hle3,hk2,hS⟩;have hl2:=hk2.len;refine' UY;refine Mx hS [0,11] (fun A LL ρ' w'=>∃(q:Nat),KR ρ' A∧KR ρ' [(12, .int .i64 q)]∧(q≤(Mq s.h).length)∧(∀r∈(Mq s.h).take q,r<j.f.regs)∧St c2 w' (LL)) (fun ρ' _=>((Mq s.h).length - iv (ρ' 12)).toNat) ?_ ?_
   · exact AH
   rintro ρ w1 ⟨q,hA,hρ,hq,hall,hS⟩;obtain ⟨ρ,rfl⟩:=KS hA hρ;refine' Tc;refine' Ab<;>intro hc
   · skip
     (refine' Rm;refine zD (ci 10 [9]) ?_;have hS:=hS.drew;refine' M7;refine' zi;intro b1 o1 cs1 x1 hat1 hx1 he1;obtain rfl:=QB he1;refine' N8;refine' zm;refine' Sn;first|(refine' MV)|(refine' Nu)|(refine' Ag<;>intro hc));all_goals (refine' zn)
     all_goals
      first
      | (refine' KN;refine' Mf;have hJ:MD j.f s e=12:=(by rw [hE,cM ho3,Q4 har,if_pos ((ra hg hf0).2 ⟨x1,FC hx1,Jo⟩)];rfl);refine' Ri;first|(exact AV)|(exact BT)|(exact Cg))
      | (refine' KO;refine' KV)
     refine' Mk;(exact ⟨⟨q+1,zh,zh,Jo,Yk hall hx1 Jo,hS.sp⟩,Qc Jo⟩)
   · skip;refine' L7;refine' Mf;have hJ:MD j.f s e=0:=(by rw [hE,cM ho3,Q4 har,if_neg (fun h=>by obtain ⟨r,hr,h2⟩:=(ra hg hf0).1 h;have:=hall r (by rw [Gd Jo];exact hr);omega)];rfl);refine' Ri;(first|(exact AV)|(exact BT)|(exact Cg))
theorem Qhn {l:List Ty}(hlen:l.length≤100000)(hs:∀x∈l,x.Short){cx:Cx}{w:World}{L:List Res}(hl:K0.sl cx v l)(hS:St cx w L):KK Tryz.prog pQ [v] w fun u w'=>∃c' css,cx.Le c'∧oneC u=true∧K0.ls c' css l∧St c' w' (sl 115 3 u css::L):=by
 refine KY KX Tryz.func59 ?_;refine' Mf;refine' Mf;refine' M8;refine Mx hS [0] (fun A LL ρ' w'=>∃(c1:Cx) (j:Nat) (u:Value) (css:List (List Value)),KR ρ' A∧KR ρ' [(3,u),(4, .int .i64 j)]∧(cx.Le c1)∧(j≤l.length)∧(K0.ls c1 css (l.take j))∧(oneC u=true)∧St c1 w' (sl 115 3 u css::LL)) (fun ρ' _=>(l.length - iv (ρ' 4)).toNat) ?_ ?_
 · exact BW
 rintro ρ w1 ⟨c1,j,u,css,hA,hρ,hle,hj,hls,hu,hS⟩;obtain ⟨ρ,rfl⟩:=KS hA hρ;have hl:=GJ hl hle;refine' Tc;refine' Ab<;>intro hc
 · skip;refine' MF;refine' RX;refine' zi;intro b1 o1 cs1 x1 hat1 hx1 he1;obtain ⟨vl1,rfl,hl1⟩:=Qe he1;refine' N7;refine' Lf (c:=Vt x1 (hs x1 (FC hx1)) he1 hS);rintro v1 w1 ⟨c2,ds,rfl,hle2,hd,hS⟩;obtain ⟨v2,rfl,hv2⟩:=Qe hd;have hls:=JZ hls hle2;refine LK hS [_,_,_] ?_;intro b1 w1 hS;refine za Ro RE hS ?_;intro vp1 w1 css1 hls1 hv1 hS;have hS:=hS.ns;refine' UZ;(exact BS)
 · skip;refine' U2;(rw [Gd Jo] at hls;exact ⟨_,rfl,c1,css,hle,hu,hls,hS.sp⟩)
theorem fL {f b:Int}{fn:Fun}{y:Block}(hm:m.Short)(hf:0≤f)(hb:0≤b)(hfn:m.funcs[f.toNat]?=some fn)(hy:fn.blocks[b.toNat]?=some y)(hx:LS.at cx cs m)(hS:St cx w L):
 KK Tryz.prog Qj1 [.agg ⟨cs⟩, .int .i64 f, .int .i64 b] w fun u w'=>∃(j:JP) (c':Cx) (vl:Value) (css:List (List Value)),u= .pointer (some ⟨j.sp,0,none⟩)∧cx.Le c'∧j.Fits c' m∧j.f=fn∧K0.ls c' css y.params∧St c' w' (Mo j (Nd y) vl css L):=by
 obtain ⟨vf,rfl,hf1⟩:=OE hx;have hff:=(FD.1 hfn).1;have hbb:=(FD.1 hy).1;have hsf:=hm.2 fn (FC hfn);have hle:=Gj hS;refine KY KX Tryz.func53 ?_;refine' Lx;intro p3 w1 hS;refine' Xv;refine' zm;refine gd vw rfl hf1 rfl Jo Jo ?_;intro b1 o1 cs1 x1 hat1 hx1 he1;obtain ⟨vp1,vr1,vb1,rfl,hp1,hr1,hb1⟩:=QC he1;obtain rfl:fn=x1:=FY (hfn.symm.trans hx1);refine' M6;refine' Yy;refine' zm;refine gd vw rfl hb1 rfl Jo Jo ?_;intro b2 o2 cs2 x2 hat2 hx2 he2;obtain ⟨vp2,vc2,ve21,ve22,ve23,ve24,ve25,rfl,hp2,hc2,he21,he22,he23,he24,he25⟩:=OZ he2;obtain rfl:y=x2:=FY (hy.symm.trans hx2);refine' NO;(intro p7 w1 hS);((refine K1 hS ?_;intro w1 hS;have hS:=hS.ns));refine' MM;refine zC [(0,none),(1,none),(2,none),(3,none),(4,none),(5,none),(6,none),(7,none),(9,none),(10,none),(8,some (some [0,2,5,10])),(11,some (some [0,2,5])),(12,none),(13,some none),(14,some none)] ?_;have hS:=hS.drew;refine' LP;refine zv hS ?_;refine' Nh;refine' M9;refine gd vw rfl hf1 rfl Jo Jo ?_;intro b3 o3 cs3 x3 hat3 hx3 he3;obtain ⟨vp3,vr3,vb3,rfl,hp3,hr3,hb3⟩:=QC he3;obtain rfl:fn=x3:=FY (hfn.symm.trans hx3);refine' gB;refine' Nh;refine' PY;refine' Lf (c:=fH hS);rintro v1 w1 ⟨hp,vh,rfl,hS⟩;refine' MG;refine' Lf (c:=Qhn (hsf.2.2.2 y (FC hy)).1.1 (hsf.2.2.2 y (FC hy)).1.2 hp2 hS);rintro v1 w1 ⟨c2,css2,hle2,hv1,hls2,hS⟩;have hat3:=hat3.up hle2;obtain ⟨av,nv,rfl⟩:=hS.shape Lr;refine' Ni;refine zX [_,_,_,_,_,_,_] ?_;refine' Mb;refine zb hS ?_;intro p30 w1 hS;refine' TP;have hS:=bI (hp:=hp) (h:=(Nd y).h) (v:=vh) (L:=blk p30 158 (JP.kcells ⟨p30,hp,fn,vf,vp3,vr3,vb3⟩ (.slice av css2.length nv))::sl 115 3 (.slice av css2.length nv) css2::L) hS.sp;refine' Ri;((exact ⟨_,rfl,⟨p30,hp,fn,vf,vp3,vr3,vb3⟩,c2,_,css2,rfl,hle2,⟨hf1.up hle2,hp3.up hle2,hr3.up hle2,hb3.up hle2⟩,rfl,hls2,hS.sp⟩))
end
section
attribute [local irreducible] K4 Mq MY NG Om LJ LW Oh Lv Lj MD Module.fault Pu Rd
variable {cx:Cx}{w:World}{L:List Res}{j:JP}{h:List Bool}{vl:Value}{css:List (List Value)}{i:Nat}{m:Module}
theorem Xk (hm:m.Short)(hx:LS.at cx cs m)(hS:St cx w L):
 KK Tryz.prog z3 [.agg ⟨cs⟩] w fun u w'=>u=Lg m.runs∧St cx w' L:=by
 (have hx':=hx;obtain ⟨vf,rfl,hf1⟩:=OE hx;have hle:=Gj hS;have hlf:=hf1.len;refine KY KX Tryz.func16 ?_;refine' Lx;intro p1 w1 hS;refine Qh hS ?_;intro p2 w1 hS;refine' MM;refine' Nw;refine' Lf (c:=VU hm hx' hS);rintro v1 w1 ⟨rfl,hS⟩;unfold Lg;refine Qh hS ?_;intro p3 w1 hS;refine K1 hS ?_;intro w1 hS;have hS:=hS.ns;refine' P0;first|(refine' QG)|(refine' QI)|(refine' Ad<;>intro hc));all_goals (refine' zn)
 all_goals
  first
  | (refine' KO;refine' KV)
  | (refine' KN;refine' Nw;refine K1 hS ?_;intro w1 hS;have hS:=hS.ns;refine' zn;have hJ:=wg (m:=m) Jo;refine' zr;refine Mp vw (Q2 (n:=2) Jk Jk (hS.blkAt fd) Jr Jr) ?_;(exact A4))
 refine' Nx;have hF:m.fault.1=0:=DB;have hr0:=wh hF;have hlf8:=hm.1;refine' YE;refine zo [1,2] (fun A ρ' w'=>∃(k0:Cx) (q:Nat),KR ρ' A∧KR ρ' [(4, .int .i64 q)]∧(cx.Le k0)∧(q≤m.funcs.length)∧(m.runs=Pc m q (m.funcs.drop q))∧St k0 w' (blk p3 29 [.int .i64 m.fault.1, .int .i64 m.fault.2]::blk p2 29 [.int .i64 0, .int .i64 0]::blk p1 24 [vf]::L)) (fun ρ' _=>(m.funcs.length - iv (ρ' 4)).toNat) ?_ ?_
 · exact ⟨cx,0,zh,zh,Gj hS,Jo,by rw [hr0];rfl,hS.sp⟩
 rintro ρ w1 ⟨k0,q,hA,hρ,hle2,hq,hd,hS⟩;obtain ⟨ρ,rfl⟩:=KS hA hρ;have hL0:=hle2;(try have hle:=hle.trans hle2);(try have hf1:=hf1.up hle2);refine' O4;refine' Ab<;>intro hc
 · skip
   refine' Rm;obtain ⟨fn,hfn⟩:∃fn,m.funcs[q]?=some fn:=⟨_,FB Jo⟩;have hsf:=hm.2 fn (FC hfn);have hfb:=V8 hF hfn;have hfh:=UJ (S1 hF hfn);refine' YE;refine zo [1,2,4] (fun A ρ' w'=>∃(k1:Cx) (b:Nat),KR ρ' A∧KR ρ' [(5, .int .i64 b)]∧(k0.Le k1)∧(b≤fn.blocks.length)∧(QM m fn q 0 fn.blocks=QM m fn q b (fn.blocks.drop b))∧St k1 w' (blk p3 29 [.int .i64 m.fault.1, .int .i64 m.fault.2]::blk p2 29 [.int .i64 0, .int .i64 0]::blk p1 24 [vf]::L)) (fun ρ' _=>(fn.blocks.length - iv (ρ' 5)).toNat) ?_ ?_
   · exact ⟨k0,0,zh,zh,Gj hS,Jo,by rfl,hS.sp⟩
   rintro ρ w1 ⟨k1,b,hA,hρ,hle2,hb,hdb,hS⟩;obtain ⟨ρ,rfl⟩:=KS hA hρ;have hL1:=hle2;(try have hle:=hle.trans hle2);(try have hL0:=hL0.trans hle2);(try have hf1:=hf1.up hle2);refine' RB;refine' PA;intro b1 o1 cs1 x1 hat1 hx1 he1;obtain ⟨vp1,vr1,vb1,rfl,hp1,hr1,hb1⟩:=QC he1;refine' M6;refine' Yy;refine' po;obtain rfl:fn=x1:=FY (hfn.symm.trans hx1);refine' Ab<;>intro hc
   · skip
     refine' Rm;obtain ⟨y,hy⟩:∃y,fn.blocks[b]?=some y:=⟨_,FB Jo⟩;have hsy:=hsf.2.2.2 y (FC hy);refine' Mm;refine zv hS ?_;refine' M7;refine' LU (c:=fL (f:=q) (b:=b) hm Jo Jo (by simpa using hfn) (by simpa using hy) ⟨_,rfl,hf1⟩ hS);rintro v1 w1 ⟨j,c2,vl,css,rfl,hle2,hj,hjf,hls,hS⟩;(try have hle:=hle.trans hle2);(try have hL1:=hL1.trans hle2);(try have hp1:=hp1.up hle2);(try have hr1:=hr1.up hle2);(try have hb1:=hb1.up hle2);(try have he1:=he1.up hle2);(try have hf1:=hf1.up hle2);subst hjf;refine' K5;refine' cW;intro b2 o2 cs2 x2 hat2 hx2 he2;obtain ⟨vp2,vr2,vb2,rfl,hp2,hr2,hb2⟩:=QC he2;refine' M6;refine' Yy;obtain rfl:j.f=x2:=FY (hfn.symm.trans hx2);refine' PA;intro b3 o3 cs3 x3 hat3 hx3 he3;obtain ⟨vp3,vc3,ve31,ve32,ve33,ve34,ve35,rfl,hp3,hc3,he31,he32,he33,he34,he35⟩:=OZ he3;refine' NO;intro p7 w1 hS;refine K1 hS ?_;intro w1 hS;have hS:=hS.ns;refine' zn;obtain rfl:y=x3:=FY (hy.symm.trans hx3);refine' Nx;have hg0:=mG hm hF hfn hy;have hlc:=hsy.2.1;refine' YE;refine zo [1,2,4,5,6,7] (fun A ρ' w'=>∃(k2:Cx) (i:Nat) (s:JS) (vl:Value) (css:List (List Value)),KR ρ' A∧KR ρ' [(8, .int .i64 i)]∧(c2.Le k2)∧(i≤y.code.length)∧(NQ m j.f q b y.fin 0 (Nd y) y.code=NQ m j.f q b y.fin i s (y.code.drop i))∧(j.Fits k2 m)∧(K0.ls k2 css s.l)∧(JInv m j.f s)∧St k2 w' (blk p7 92 [.int .i64 y.regs,vp3,vc3, .int .i64 y.fin.op, .int .i64 y.fin.a, .int .i64 y.fin.yes.block,ve31,ve32, .int .i64 y.fin.no.block,ve33,ve34,ve35]::blk j.sp 158 (j.kcells vl)::RF j.hp s.h::sl 115 3 vl css::blk p3 29 [.int .i64 m.fault.1, .int .i64 m.fault.2]::blk p2 29 [.int .i64 0, .int .i64 0]::blk p1 24 [vf]::L)) (fun ρ' _=>(y.code.length - iv (ρ' 8)).toNat) ?_ ?_
     · exact C8
     rintro ρ w1 ⟨k2,i,s,vl,css,hA,hρ,hle2,hi,hdi,hj,hls,hg,hS⟩;obtain ⟨ρ,rfl⟩:=KS hA hρ;have hL2:=hle2;(try have hle:=hle.trans hle2);(try have hL1:=hL1.trans hle2);(try have hc3:=hc3.up hle2);(try have he31:=he31.up hle2);(try have he32:=he32.up hle2);(try have he33:=he33.up hle2);(try have he34:=he34.up hle2);(try have he35:=he35.up hle2);refine' O4;refine' Ab<;>intro hc
     · skip
       (refine' MF;refine' O6;refine' PA;intro b4 o4 cs4 x4 hat4 hx4 he4;obtain ⟨vr4,va4,rfl,hr4,ha4⟩:=QY he4;refine' N7;refine' KU (c:=fI (s:=s) (x:=x4) hm hg hj he4 hls hS.p3);rintro v1 w1 ⟨c4,vl4,css4,hle2,rfl,hls4,hS⟩;(try have hle:=hle.trans hle2);(try have hL2:=hL2.trans hle2);have hj:=hj.up hle2;have hg1:=V7 (x:=x4) hF hm hg;obtain ⟨s1,hs1⟩:∃s1,(Lj m j.f s x4).2=s1:=⟨_,rfl⟩;rw [hs1] at hls4 hS hg1;refine' Mz;first|(refine' QG)|(refine' QI)|(refine' Ad<;>intro hc));all_goals (refine' zn)
       all_goals
        first
        | (refine' KN;refine' Lu;refine' M7;refine' LU (c:=qI q b i Jo Jo Jo hS);rintro v1 w1 ⟨rfl,hS⟩;refine' KU (c:=NA hS);rintro v1 w1 ⟨rfl,hS⟩;refine K1 hS ?_;intro w1 hS;have hS:=hS.ns;refine' zn;have hJ:=rj hd hfn hdb hy (by rw [hdi,Q1 hx4,rh Jo]) Jo;refine' zr;refine Mp vw (Q2 (n:=2) Jk Jk (hS.blkAt fd) Jr Jr) ?_;(exact A4))
        | (refine' KO;refine' KV)
       refine' Mk;(exact ⟨⟨_,i+1,s1,vl4,css4,zh,zh,hL2,Jo,by rw [hdi,Q1 hx4,rf Jo,hs1],hj,hls4,hg1,hS.sp⟩,Qc Jo⟩)
     · skip
       (refine' L7;refine' Ls;refine' PC;refine' KU (c:=fJ (s:=s) (e:=y.fin) hsf hfb hfh.1 Jo hg hj ⟨_,_,_,_,_,rfl,he31,he32,he33,he34,he35⟩ hls hS.p3);rintro v1 w1 ⟨rfl,hS⟩;have hde:=ri (m:=m) (f:=j.f) (fi:=q) (bi:=b) (e:=y.fin) (s:=s) (i:=i) (l:=y.code) Jo;refine' Mz;first|(refine' QG)|(refine' QI)|(refine' Ad<;>intro hc));all_goals (refine' zn)
       all_goals
        first
        | (refine' KN;refine' Lu;refine' zm;refine' KU (c:=qH q b Jo Jo hS);rintro v1 w1 ⟨rfl,hS⟩;refine' KU (c:=NA hS);rintro v1 w1 ⟨rfl,hS⟩;refine K1 hS ?_;intro w1 hS;have hS:=hS.ns;refine' zn;have hJ:=rj hd hfn hdb hy (hdi.trans (hde.trans (Rv Jo))) Jo;refine' zr;refine Mp vw (Q2 (n:=2) Jk Jk (hS.blkAt fd) Jr Jr) ?_;(exact A4))
        | (refine' KO;refine' KV)
       refine' Mk;(exact ⟨⟨_,b+1,zh,zh,hL1,Jo,V9 hdb hy (by rw [hdi,hde,Sc];omega),hS.sp⟩,Qc Jo⟩)
   · skip;refine' L7;refine' Mk;(exact ⟨⟨_,q+1,zh,zh,hL0,Jo,Wa hd hfn hdb Jo,hS.sp⟩,Qc Jo⟩)
 · skip;refine' L7;refine' K3;refine M5 [_,_] ?_;refine K1 hS ?_;intro w1 hS;have hS:=hS.ns;refine' zn;have hJ:=Wb hd Jo;refine' zr;refine Mp vw (Q2 (n:=2) Jk Jk (hS.blkAt fd) Jr Jr) ?_;(exact A4)
end
section
variable {cx:Cx}{w:World}{L:List Res}{m:Module}{inp:List Int}
theorem xX (h:m.runs.1=0):Oz m inp fuel pages=gY inp fuel pages:=if_neg Jo
theorem QgG (h:Oz m inp fuel pages=(0,0)):0≤fuel∧fuel≤20000∧0≤pages∧pages≤64:=by
 unfold Oz at h;split at h
 · rename_i h1;rw [h] at h1;exact absurd rfl h1
 · split at h
   · cases h
   · omega
attribute [local irreducible] QR RA Run.all Run.oc Oz gY
theorem QhD (hx:LS.at cx cs m)(hIn:m.InR)(hi:KM.sl cx v inp)(hin:∀n∈inp,ME n)(hS:St cx w L):KK Tryz.prog uo [.agg ⟨cs⟩,v, .int .i64 fuel, .int .i64 pages] w fun u w'=>u= .bool true∧St cx w' L:=by
 have hx':=hx;obtain ⟨vf,rfl,hf⟩:=OE hx;obtain ⟨af,nf,rfl⟩:=FK hf;have n1:∀c:Cx,KM.sl c (.slice none 0 0) []:=fun c=>Gz _ _ _;refine KY KX Tryz.func5 ?_;refine' Lx;intro p4 w1 hS;refine' OS;refine' K3;refine' l0 (c:=Qfu hS);rintro v1 w1 ⟨rfl,hS⟩;refine' Oy
 all_goals
  first
  | (refine' KN;all_goals (refine' Lh);all_goals (exact Be))
  | (refine' KO;refine' KV)
 refine zM [1,2,3,4] (fun A ρ' w'=>KR ρ' A∧KR ρ' []∧(m.Short)∧(fuel≤3000∨20000<fuel)∧St cx w' (blk p4 24 [.slice af m.funcs.length nf]::L)) ?_ ?_
 · skip
   ((refine' Nw;refine' Lf (c:=QfL hx' hS);rintro v1 w1 ⟨gb,rfl,hgs,hS⟩;cases gb;all_goals (refine' zm;refine' Sh;refine' MT;(first|(refine' KP)|(refine' KQ;refine' KU (c:=eV hx' hS);rintro v1 w1 ⟨lb,rfl,hb,hS⟩;cases lb))));all_goals (refine' MT;refine' MT;first|refine' KP|(refine' KQ;(first|(refine' aM)|(refine' aN)|(refine sX rfl rfl (fun hc=>?_) (fun hc=>?_))))));all_goals (refine' Yw;refine' LH)
   all_goals
    first
    | (refine' KN;all_goals (refine' Lh);all_goals ((first|exact Be|exact ⟨_,rfl,rfl,GY hS.sp hle1⟩|exact AX)))
    | (refine' KO;all_goals refine' KV)
   all_goals (exact ⟨zh,zh,hgs rfl,(by first|exact .inl (hb rfl).2|exact .inr Jo),hS.sp⟩)
 rintro ρ w1 ⟨hA,hρ,hsh,hfu,hS⟩;obtain ⟨ρ,rfl⟩:=KS hA hρ;refine' Nw;refine' Lf (c:=Qho hsh hx' hS);rintro v1 w1 ⟨c1,ds,rfl,hle1,hx1,hS⟩;have hx1':=hx1;obtain ⟨vo,rfl,hfo⟩:=OE hx1;obtain ⟨ao,no,rfl⟩:=FK hfo;have hxa:=IW hx' hle1;have hia:=GJ hi hle1;refine Qh hS ?_;intro p9 w1 hS;refine K1 hS ?_;intro w1 hS;have hS:=hS.ns;refine' RD;refine' M7;refine' zm;refine' NN (c:=rX hsh hx1' hia hS);rintro v1 w1 hr;rcases eW hr with ⟨hz,rfl,hS⟩|⟨hs0,hrn,c2,a1,x1,y1,a2,x2,y2,oc,hoc,hle2,rfl,k1,k2,hS⟩
 all_goals (unfold Lg;dsimp only;refine' Sm;intro p10 w1 hS;refine Qh hS ?_;intro p11 w1 hS;refine K1 hS ?_;intro w1 hS;have hS:=hS.ns;refine K1 hS ?_;intro w1 hS;have hS:=hS.ns;refine' RD;(first|(refine' Lf (c:=Xk hsh (IW hxa hle2) hS);rintro v1 w1 ⟨rfl,hS⟩;unfold Lg)|(refine' Lf (c:=Xk hsh hxa hS);rintro v1 w1 ⟨rfl,hS⟩;unfold Lg));refine Qh hS ?_;intro p12 w1 hS;refine K1 hS ?_;intro w1 hS;have hS:=hS.ns;refine' MM;refine' Ot;first|(refine' Qd)|(refine' Qi)|(refine' Ac<;>intro hc));all_goals (refine' zn)
 all_goals
  first
  | (refine' KN;all_goals (refine' RX;(first|(refine' LU (c:=xU (GJ hia hle2) hS);rintro v1 w1 ⟨rfl,hS⟩;unfold Lg)|(refine' LU (c:=xU hia hS);rintro v1 w1 ⟨rfl,hS⟩;unfold Lg));refine K1 hS ?_;intro w1 hS;have hS:=hS.ns);all_goals refine' zn)
  | (refine' KO;refine' KV)
 all_goals (refine' Nx;(first|(have e9:=rQ (m:=m) (inp:=inp) (fuel:=fuel) (pages:=pages) Jo;rw [e9] at hS hz)|(have e9:=xX (m:=m) (inp:=inp) (fuel:=fuel) (pages:=pages) Jo;rw [e9] at hS hz)|(have e9:=xX (m:=m) (inp:=inp) (fuel:=fuel) (pages:=pages) Jo;rw [hs0] at e9;rw [←e9] at hS;dsimp only at hS));refine' Mm;refine zv hS ?_;refine zv hS ?_;(first|refine rP (a:=m.runs) mR rfl rfl ?_|refine rP (a:=gY inp fuel pages) mR rfl rfl ?_|refine rP (a:=(0,0)) mR rfl rfl ?_);refine' zm;refine' Sh;refine' Sh;(first|(refine' KP)|(refine' KQ;first|(refine' KU (c:=xC (x:=m) (y:=m) (IW hx1' hle2) (IW hxa hle2) hS);rintro v1 w1 ⟨rfl,hS⟩;rw [decide_eq_true (rfl:m=m)])|(refine' KU (c:=xC (x:=m) (y:=m) hx1' hxa hS);rintro v1 w1 ⟨rfl,hS⟩;rw [decide_eq_true (rfl:m=m)])));refine' OG;refine' LH)
 all_goals
  first
  | (refine' KN;all_goals (refine' Lh);all_goals (exact Be))
  | (refine' KO;all_goals refine' KV)
 all_goals (refine' NP;refine' UT;refine' zn)
 all_goals
  first
  | (refine' KN;all_goals (refine' Nw;refine M5 [_,_,_,_] ?_;refine' KU (c:=rY (xs:=[]) (ys:=[]) (xs2:=[]) (ys2:=[]) (n1 _) (n1 _) (n1 _) (n1 _) hS);rintro v1 w1 ⟨rfl,hS⟩;rw [show decide ((0:Int)=0∧([]:List Int)=[]∧([]:List Int)=[]∧(0:Int)=0)=true by decide];refine' Ly);all_goals ((first|exact Be|exact ⟨_,rfl,rfl,GY hS.sp hle1⟩)))
  | (refine' KO;refine' KV)
 refine' Nw;refine' M7;refine' zm;obtain ⟨hf0,hf1,hp0,hp1⟩:=QgG hs0;refine' NN (c:=Z8 (XF hrn) hIn hin hf0 hf1 ⟨hp0,Jo⟩ (GJ (GJ hf hle1) hle2) (GJ hia hle2) hS);rintro v1 w1 ⟨c3,b1,b2,z1,z2,hle3,rfl,k3,k4,hS⟩;rw [Qdv hrn hsh,hoc];rw [hoc] at k3 k4;unfold Lg;dsimp only;refine' Sm;intro p13 w1 hS;refine Qh hS ?_;intro p14 w1 hS;refine K1 hS ?_;intro w1 hS;have hS:=hS.ns;refine K1 hS ?_;intro w1 hS;have hS:=hS.ns;refine' P0;refine' Qd;refine' zm;refine' Sh;refine' Sh;(first|(refine' KP)|(refine' KQ;refine' KU (c:=rY (GJ k1 hle3) (GJ k2 hle3) k3 k4 hS);rintro v1 w1 ⟨rfl,hS⟩;rw [decide_eq_true ⟨rfl,rfl,rfl,rfl⟩]));refine' OR;refine' Ly;(exact Be)
end
end Go.Proofs.YteflkifmgnpbhaaGreat
namespace Go.Proofs.YteflkifmgnpbhaaGreat
open Go.Lir
def OA:Cod.Of Tryz.prog 25 (KM.an Mh).list:=Cod.Of.list UL Jk Jk Jk
theorem R6 {c:Array Value}{x:Module}{inp:List Int}(h1:Se.cod.rd w.heap c.toList x)(h2:OA.cod.rd w.heap [v] inp)(a b:Int):KK Tryz.prog uo [.agg c,v, .int .i64 a, .int .i64 b] w fun v w'=>v= .bool true∧Fr NF w w':=by
 obtain ⟨v',hv,hin⟩:=OA.top h2;cases hv;obtain ⟨hi,hr⟩:=Hz hin;have hm:=Se.top h1;exact (QhD hm.1 hm.2 hi hr (St.top w)).mono fun _ _ ⟨h,h2⟩=>⟨h,h2.fr⟩
end Go.Proofs.YteflkifmgnpbhaaGreat
