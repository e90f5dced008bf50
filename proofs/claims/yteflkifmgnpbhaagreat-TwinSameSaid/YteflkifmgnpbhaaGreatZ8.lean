
/- Lemmas of the proof, part 8: what the functions of the program do (contracts), and what follows. -/
import Derived.Test.YteflkifmgnpbhaaGreatZ2
import Derived.Test.YteflkifmgnpbhaaGreatZ7
import Derived.Test.YteflkifmgnpbhaaGreatZ6
open Go Go.Lir Go.Proofs.YteflkifmgnpbhaaGreat
variable {cs:List Value}{w:World}{v:Value}
set_option linter.unusedVariables false
set_option linter.unusedSimpArgs false
set_option maxHeartbeats 1000000
namespace Go.Lir
section
variable {p:Prop}
theorem AM (h:p:=by exact ⟨_,rfl,(by rw [hJ]),hS.sp⟩):p:=h
theorem BQ (h:p:=by exact ⟨_,rfl,(by rw [hJ]),Gx hS.sp hle2⟩):p:=h
theorem B2 (h:p:=by exact ⟨_,rfl,(by rw [hJ]),Gx hS.sp (hle2.trans hle3)⟩):p:=h
end
end Go.Lir
namespace Go.Proofs.YteflkifmgnpbhaaGreat
open Go.Lir
attribute [local irreducible] LC.wp Q0 Qs Qi KN QD LO.wp Q7 Calls
section
attribute [local irreducible] Kz LY Mv M6 NJ K6 Lf ND KV KM Mb Module.fault
variable {cx:Cx}{w:World}{L:List Res}{j:JP}{h:List Bool}{vl:Value}{css:List (List Value)}{i:Nat}{m:Module}
theorem Qcx (f:Fun)(s:JS)(t:To):NZ (NK f s t):=by
 unfold NK;split
 · exact .e Jd
 · split
   · exact .e Jd
   · split
     · exact .e Jd
     · split
       · rename_i h;exact .e h
       · exact dM _ _ _ _
theorem fa {s:JS}{e:Tail}(hsf:j.f.Short)(hfb:∀b∈j.f.blocks,j.f.regs≤b.regs)(hf0:0≤j.f.regs)(hfr:j.f.regs≤100000)(hg:JInv m j.f s)(hj:j.Fits cx m)(hx:Lo.at cx cs e)(hls:Ku.ls cx css s.l)(hS:St cx w (LQ j s vl css L)):
 Kf Tryz.prog xY [.pointer (some ⟨j.sp,0,none⟩), .agg ⟨cs⟩] w fun u w'=>u= .int .i64 (Mb j.f s e)∧St cx w' (LQ j s vl css L):=by
 (have hx':=hx;have hh:=hg.h;obtain ⟨v1,v2,v3,v4,v5,rfl,h1,h2,h3,h4,h5⟩:=Rj hx;have hT1:toR.at cx [.int .i64 e.yes.block,v1,v2] e.yes:=⟨_,_,rfl,h1,h2⟩;have hT2:toR.at cx [.int .i64 e.no.block,v3,v4] e.no:=⟨_,_,rfl,h3,h4⟩;have hjr:=hj.r;refine Kq Ko Tryz.func56 ?_;refine' KY;intro p3 w1 hS;refine' S0;refine zD (ci 7 [5,6]) ?_;have hS:=hS.drew;refine' zm;refine' Lh;refine zv hS ?_;refine zv hS ?_;refine' Kr (c:=Vh (x:=j.f) ⟨_,_,_,rfl,hj.p,hj.r,hj.b⟩ hx' hS);rintro v1 w1 ⟨rfl,hS⟩;refine' L6;first|(refine' QO)|(refine' QU)|(refine' Ad<;>intro hc));all_goals (refine' zn)
 all_goals
  first
  | (refine' Ki;refine' Nz;have hJ:=dT (f:=j.f) (s:=s) (e:=e) Jo;refine' RL;(exact AM))
  | (refine' Kk;refine' Kx)
 (refine' Oe;have hF:Nl j.f.blocks.length e=0:=Df;have hE:=dU (s:=s) hF;have hop:=gj hF;have hy:e.op≠3→0≤e.yes.block∧e.yes.block<j.f.blocks.length:=(fun h=>YO EB);have hz:e.op=2→0≤e.no.block∧e.no.block<j.f.blocks.length:=(fun h=>YO EV);refine' Uc;refine' SZ;refine' Kv;first|(refine' Ql)|(refine' Qp)|(refine' Ac<;>intro hc));all_goals (refine' KA)
 all_goals
  first
  | (refine' Ki;refine' KP;refine' OV;refine' Kr (c:=WH (s:=s) hsf (hy Jo) hfb hh hj hT1 hls hS.p3);rintro v6 w1 ⟨rfl,hS⟩;refine' KA;have hJ:Mb j.f s e=QQ (NK j.f s e.yes):=(by rw [hE,l6 Jo]);refine' RL;(exact AM))
  | (refine' Kk
     (refine' Kv;first|(refine' Ql)|(refine' Qp)|(refine' Ac<;>intro hc));all_goals (refine' KA)
     all_goals
      first
      | (refine' Ki
         (refine' P6;refine' Ny (c:=RD (s:=s) (k:=e.a) (kd:=1) (held:=false) hls hS.p3);rintro v6 w1 ⟨rfl,hS⟩;refine' L6;first|(refine' QO)|(refine' QU)|(refine' Ad<;>intro hc));all_goals (refine' zn)
         all_goals
          first
          | (refine' Ki;refine' Nz;have hJ:Mb j.f s e=Lf s e.a 1 false:=(by rw [hE,aB Jo,Qw (Qd9 Jo)];rfl);refine' RL;(exact AM))
          | (refine' Kk;refine' Kx)
         (refine' Oe;obtain ⟨t1,g1⟩:=Qgh (s:=s) (k:=e.a) (kd:=1) Jo;refine' LV;refine' OV;refine' Kr (c:=WH (s:=s) hsf (hy Jo) hfb hh hj hT1 hls hS.p3);rintro v6 w1 ⟨rfl,hS⟩;refine' L6;first|(refine' QO)|(refine' QU)|(refine' Ad<;>intro hc));all_goals (refine' zn)
         all_goals
          first
          | (refine' Ki;refine' Nz;have hJ:Mb j.f s e=QQ (NK j.f s e.yes):=(by rw [hE,aB Jo,Q3 g1,Qw (l9 Jo)];rfl);refine' RL;(exact AM))
          | (refine' Kk;refine' Kx)
         refine' KP;refine' OV;refine' Kr (c:=WH (s:=s) hsf (hz Jo) hfb hh hj hT2 hls hS.p3);rintro v6 w1 ⟨rfl,hS⟩;refine' KA;have hJ:Mb j.f s e=QQ (NK j.f s e.no):=(by rw [hE,aB Jo,Q3 g1,Q3 (qg (Qcx _ _ _) Jo)]);refine' RL;(exact AM))
      | (refine' Kk;refine' Kx))
 refine' LM;refine' NO;have hS:=Hp (T:=3) (es:=1) hS;refine zo [0,3] (fun A ρ' w'=>∃(q:Nat) (vo:Value) (co:List (List Value)),Kn ρ' A∧Kn ρ' [(9, .int .i64 q),(8,vo)]∧(q≤j.f.regs.toNat)∧(Kh.ls cx co (K6 q))∧((K6 q).length=q)∧(e.op=3)∧St cx w' (sl 3 1 vo co::blk p3 90 [.int .i64 e.op, .int .i64 e.a, .int .i64 e.yes.block,v1,v2, .int .i64 e.no.block,v3,v4,v5]::blk j.sp 158 (j.kcells vl)::Rd j.hp s.h::sl 115 3 vl css::L)) (fun ρ' _=>(j.f.regs - iv (ρ' 9)).toNat) ?_ ?_
 · exact CN
 rintro ρ w1 ⟨q,vo,co,hA,hρ,hq,hlo,hlq,ho3,hS⟩;obtain ⟨ρ,rfl⟩:=Kp hA hρ;refine' P7;refine' PN;refine' WO;refine' Ab<;>intro hc
 · skip;refine' L4;refine' MZ;refine K8 hS [_] ?_;intro b1 w1 hS;refine za S8 UI hS ?_;intro vp1 w1 css1 hls1 hv1 hS;have hS:=hS.ns;refine' KA;refine' Mt;(exact B3)
 · skip
   (refine' L8;have hq':q=j.f.regs.toNat:=Df;rw [hq'] at hlo;obtain ⟨c1,hle2,hS,hk1⟩:=Gp (r:=Kh) hS hlo rfl (by rw [←hq'];omega);have hls':=hls.up hle2;have h5':=h5.up hle2;have hjr':=hjr.up hle2;refine' Oe;refine zD (ci 11 [9,10]) ?_;have hS:=hS.drew;refine' zm;refine' KZ;refine' zm;refine' PN;refine' zm;refine' Ny (c:=rb (s:=s) hsf.2.1.2 hls' h5' hjr' hk1 hS.p3);rintro v6 w1 ⟨rfl,hS⟩;refine' L6;first|(refine' QO)|(refine' QU)|(refine' Ad<;>intro hc));all_goals (refine' zn)
   all_goals
    first
    | (refine' Ki;refine' Nz;have hJ:Mb j.f s e=QQ (OF s e.args j.f.results (K6 j.f.regs.toNat)):=(by rw [hE,dK ho3,Qw (l9 Jo)];rfl);refine' RL;first|(exact AM)|(exact BQ))
    | (refine' Kk;refine' Kx)
   refine QA ?_;have har:=qg (dM s e.args j.f.results (K6 j.f.regs.toNat)) Jo;refine' So;refine' KE (c:=ZF (h:=s.h) hh hS fd);rintro v1 w1 ⟨c2,hle3,hk2,hS⟩;have hl2:=hk2.len;refine' Ms;refine' SU;refine MB hS [0,11] (fun A LL ρ' w'=>∃(q:Nat),Kn ρ' A∧Kn ρ' [(12, .int .i64 q)]∧(q≤(LY s.h).length)∧(∀r∈(LY s.h).take q,r<j.f.regs)∧St c2 w' (LL)) (fun ρ' _=>((LY s.h).length - iv (ρ' 12)).toNat) ?_ ?_
   · exact Ay
   rintro ρ w1 ⟨q,hA,hρ,hq,hall,hS⟩;obtain ⟨ρ,rfl⟩:=Kp hA hρ;refine' P7;refine' Ua;refine' Ab<;>intro hc
   · skip
     (refine' Ub;refine zD (ci 10 [9]) ?_;have hS:=hS.drew;refine' MV;refine' zi;intro b1 o1 cs1 x1 hat1 hx1 he1;obtain rfl:=QG he1;refine' N0;refine' zm;refine' PN;first|(refine' Ml)|(refine' MN)|(refine' Ag<;>intro hc));all_goals (refine' zn)
     all_goals
      first
      | (refine' Ki;refine' LM;have hJ:Mb j.f s e=12:=(by rw [hE,dK ho3,Q3 har,if_pos ((qi hg hf0).2 ⟨x1,Fa hx1,Jo⟩)];rfl);refine' RL;first|(exact AM)|(exact BQ)|(exact B2))
      | (refine' Kk;refine' Kx)
     refine' Mt;(exact ⟨⟨q+1,zh,zh,Jo,bA hall hx1 Jo,hS.sp⟩,Qj Jo⟩)
   · skip;refine' L8;refine' LM;have hJ:Mb j.f s e=0:=(by rw [hE,dK ho3,Q3 har,if_neg (fun h=>by obtain ⟨r,hr,h2⟩:=(qi hg hf0).1 h;have:=hall r (by rw [FM Jo];exact hr);omega)];rfl);refine' RL;(first|(exact AM)|(exact BQ)|(exact B2))
theorem Qh7 {l:List Ty}(hlen:l.length≤100000)(hs:∀x∈l,x.Short){cx:Cx}{w:World}{L:List Res}(hl:Ku.sl cx v l)(hS:St cx w L):Kf Tryz.prog sH [v] w fun u w'=>∃c' css,cx.Le c'∧oneC u=true∧Ku.ls c' css l∧St c' w' (sl 115 3 u css::L):=by
 refine Kq Ko Tryz.func59 ?_;refine' LM;refine' LM;refine' NO;refine MB hS [0] (fun A LL ρ' w'=>∃(c1:Cx) (j:Nat) (u:Value) (css:List (List Value)),Kn ρ' A∧Kn ρ' [(3,u),(4, .int .i64 j)]∧(cx.Le c1)∧(j≤l.length)∧(Ku.ls c1 css (l.take j))∧(oneC u=true)∧St c1 w' (sl 115 3 u css::LL)) (fun ρ' _=>(l.length - iv (ρ' 4)).toNat) ?_ ?_
 · exact Bk
 rintro ρ w1 ⟨c1,j,u,css,hA,hρ,hle,hj,hls,hu,hS⟩;obtain ⟨ρ,rfl⟩:=Kp hA hρ;have hl:=Gc hl hle;refine' P7;refine' Ua;refine' Ab<;>intro hc
 · skip;refine' L4;refine' MZ;refine' PM;intro b1 o1 cs1 x1 hat1 hx1 he1;obtain ⟨vl1,rfl,hl1⟩:=Qf he1;refine' Oa;refine' KE (c:=cE x1 (hs x1 (Fa hx1)) he1 hS);rintro v1 w1 ⟨c2,ds,rfl,hle2,hd,hS⟩;obtain ⟨v2,rfl,hv2⟩:=Qf hd;have hls:=Jp hls hle2;refine K8 hS [_,_,_] ?_;intro b1 w1 hS;refine za PV Ra hS ?_;intro vp1 w1 css1 hls1 hv1 hS;have hS:=hS.ns;refine' KA;refine' Mt;(exact BE)
 · skip;refine' Sn;(rw [FM Jo] at hls;exact ⟨_,rfl,c1,css,hle,hu,hls,hS.sp⟩)
theorem fe {f b:Int}{fn:Fun}{y:Block}(hm:m.Short)(hf:0≤f)(hb:0≤b)(hfn:m.funcs[f.toNat]?=some fn)(hy:fn.blocks[b.toNat]?=some y)(hx:Ls.at cx cs m)(hS:St cx w L):
 Kf Tryz.prog xW [.agg ⟨cs⟩, .int .i64 f, .int .i64 b] w fun u w'=>∃(j:JP) (c':Cx) (vl:Value) (css:List (List Value)),u= .pointer (some ⟨j.sp,0,none⟩)∧cx.Le c'∧j.Fits c' m∧j.f=fn∧Ku.ls c' css y.params∧St c' w' (LQ j (MJ y) vl css L):=by
 obtain ⟨vf,rfl,hf1⟩:=NR hx;have hff:=(E8.1 hfn).1;have hbb:=(E8.1 hy).1;have hsf:=hm.2 fn (Fa hfn);have hle:=FV hS;refine Kq Ko Tryz.func53 ?_;refine' KY;intro p3 w1 hS;refine' KA;refine' Mn;refine' zm;refine fJ vw rfl hf1 rfl Jo Jo ?_;intro b1 o1 cs1 x1 hat1 hx1 he1;obtain ⟨vp1,vr1,vb1,rfl,hp1,hr1,hb1⟩:=QH he1;obtain rfl:fn=x1:=Fm (hfn.symm.trans hx1);refine' Nt;refine' SP;refine' zm;refine fJ vw rfl hb1 rfl Jo Jo ?_;intro b2 o2 cs2 x2 hat2 hx2 he2;obtain ⟨vp2,vc2,ve21,ve22,ve23,ve24,ve25,rfl,hp2,hc2,he21,he22,he23,he24,he25⟩:=RJ he2;obtain rfl:y=x2:=Fm (hy.symm.trans hx2);refine' NN;(intro p7 w1 hS);((refine Kt hS ?_;intro w1 hS;have hS:=hS.ns));refine' L5;refine zC [(0,none),(1,none),(2,none),(3,none),(4,none),(5,none),(6,none),(7,none),(9,none),(10,none),(8,some (some [0,2,5,10])),(11,some (some [0,2,5])),(12,none),(13,some none),(14,some none)] ?_;have hS:=hS.drew;refine' KW;refine' S1;refine' Rq;refine fJ vw rfl hf1 rfl Jo Jo ?_;intro b3 o3 cs3 x3 hat3 hx3 he3;obtain ⟨vp3,vr3,vb3,rfl,hp3,hr3,hb3⟩:=QH he3;obtain rfl:fn=x3:=Fm (hfn.symm.trans hx3);refine' S5;refine' KO;refine' Nu;refine' Od;refine' KE (c:=eY hS);rintro v1 w1 ⟨hp,vh,rfl,hS⟩;refine' Li;refine' KE (c:=Qh7 (hsf.2.2.2 y (Fa hy)).1.1 (hsf.2.2.2 y (Fa hy)).1.2 hp2 hS);rintro v1 w1 ⟨c2,css2,hle2,hv1,hls2,hS⟩;have hat3:=hat3.up hle2;obtain ⟨av,nv,rfl⟩:=hS.shape KU;refine' Mp;refine sy [_,_,_,_,_,_,_] ?_;refine' Lk;refine zb hS ?_;intro p30 w1 hS;refine' XY;have hS:=aN (hp:=hp) (h:=(MJ y).h) (v:=vh) (L:=blk p30 158 (JP.kcells ⟨p30,hp,fn,vf,vp3,vr3,vb3⟩ (.slice av css2.length nv))::sl 115 3 (.slice av css2.length nv) css2::L) hS.sp;refine' RL;((exact ⟨_,rfl,⟨p30,hp,fn,vf,vp3,vr3,vb3⟩,c2,_,css2,rfl,hle2,⟨hf1.up hle2,hp3.up hle2,hr3.up hle2,hb3.up hle2⟩,rfl,hls2,hS.sp⟩))
end
section
attribute [local irreducible] Kz LY Mv M6 NJ K6 Lf ND KV KM Mb Module.fault O2 PT
variable {cx:Cx}{w:World}{L:List Res}{j:JP}{h:List Bool}{vl:Value}{css:List (List Value)}{i:Nat}{m:Module}
theorem ff (hm:m.Short)(hx:Ls.at cx cs m)(hS:St cx w L):
 Kf Tryz.prog xE [.agg ⟨cs⟩] w fun u w'=>u=KG m.runs∧St cx w' L:=by
 (have hx':=hx;obtain ⟨vf,rfl,hf1⟩:=NR hx;have hle:=FV hS;have hlf:=hf1.len;refine Kq Ko Tryz.func16 ?_;refine' KY;intro p1 w1 hS;refine Qd hS ?_;intro p2 w1 hS;refine' L5;refine' MU;refine' KE (c:=Vj hm hx' hS);rintro v1 w1 ⟨rfl,hS⟩;unfold KG;refine Qd hS ?_;intro p3 w1 hS;refine Kt hS ?_;intro w1 hS;have hS:=hS.ns;refine' NA;first|(refine' QO)|(refine' QU)|(refine' Ad<;>intro hc));all_goals (refine' zn)
 all_goals
  first
  | (refine' Kk;refine' Kx)
  | (refine' Ki;refine' MU;refine Kt hS ?_;intro w1 hS;have hS:=hS.ns;refine' zn;have hJ:=uC (m:=m) Jo;refine' zr;refine LF vw (Q2 (n:=2) Jk Jk (hS.blkAt fd) Jr Jr) ?_;(exact AR))
 refine' Oe;have hF:m.fault.1=0:=Df;have hr0:=uD hF;have hlf8:=hm.1;refine' LS;refine' Ob;refine zo [1,2] (fun A ρ' w'=>∃(k0:Cx) (q:Nat),Kn ρ' A∧Kn ρ' [(4, .int .i64 q)]∧(cx.Le k0)∧(q≤m.funcs.length)∧(m.runs=OG m q (m.funcs.drop q))∧St k0 w' (blk p3 29 [.int .i64 m.fault.1, .int .i64 m.fault.2]::blk p2 29 [.int .i64 0, .int .i64 0]::blk p1 24 [vf]::L)) (fun ρ' _=>(m.funcs.length - iv (ρ' 4)).toNat) ?_ ?_
 · exact ⟨cx,0,zh,zh,FV hS,Jo,by rw [hr0];rfl,hS.sp⟩
 rintro ρ w1 ⟨k0,q,hA,hρ,hle2,hq,hd,hS⟩;obtain ⟨ρ,rfl⟩:=Kp hA hρ;have hL0:=hle2;(try have hle:=hle.trans hle2);(try have hf1:=hf1.up hle2);refine' Uf;refine' Ab<;>intro hc
 · skip
   refine' Ub;obtain ⟨fn,hfn⟩:∃fn,m.funcs[q]?=some fn:=⟨_,E7 Jo⟩;have hsf:=hm.2 fn (Fa hfn);have hfb:=VF hF hfn;have hfh:=Vu (SB hF hfn);refine' LS;refine' Ob;refine zo [1,2,4] (fun A ρ' w'=>∃(k1:Cx) (b:Nat),Kn ρ' A∧Kn ρ' [(5, .int .i64 b)]∧(k0.Le k1)∧(b≤fn.blocks.length)∧(QJ m fn q 0 fn.blocks=QJ m fn q b (fn.blocks.drop b))∧St k1 w' (blk p3 29 [.int .i64 m.fault.1, .int .i64 m.fault.2]::blk p2 29 [.int .i64 0, .int .i64 0]::blk p1 24 [vf]::L)) (fun ρ' _=>(fn.blocks.length - iv (ρ' 5)).toNat) ?_ ?_
   · exact ⟨k0,0,zh,zh,FV hS,Jo,by rfl,hS.sp⟩
   rintro ρ w1 ⟨k1,b,hA,hρ,hle2,hb,hdb,hS⟩;obtain ⟨ρ,rfl⟩:=Kp hA hρ;have hL1:=hle2;(try have hle:=hle.trans hle2);(try have hL0:=hL0.trans hle2);(try have hf1:=hf1.up hle2);refine' P6;refine' PM;intro b1 o1 cs1 x1 hat1 hx1 he1;obtain ⟨vp1,vr1,vb1,rfl,hp1,hr1,hb1⟩:=QH he1;refine' Nt;refine' SP;refine' Ua;obtain rfl:fn=x1:=Fm (hfn.symm.trans hx1);refine' Ab<;>intro hc
   · skip
     refine' Ub;obtain ⟨y,hy⟩:∃y,fn.blocks[b]?=some y:=⟨_,E7 Jo⟩;have hsy:=hsf.2.2.2 y (Fa hy);refine' LS;refine zv hS ?_;refine' MV;refine' Lg (c:=fe (f:=q) (b:=b) hm Jo Jo (by simpa using hfn) (by simpa using hy) ⟨_,rfl,hf1⟩ hS);rintro v1 w1 ⟨j,c2,vl,css,rfl,hle2,hj,hjf,hls,hS⟩;(try have hle:=hle.trans hle2);(try have hL1:=hL1.trans hle2);(try have hp1:=hp1.up hle2);(try have hr1:=hr1.up hle2);(try have hb1:=hb1.up hle2);(try have he1:=he1.up hle2);(try have hf1:=hf1.up hle2);subst hjf;refine' KA;refine' Ue;intro b2 o2 cs2 x2 hat2 hx2 he2;obtain ⟨vp2,vr2,vb2,rfl,hp2,hr2,hb2⟩:=QH he2;refine' Nt;refine' SP;obtain rfl:j.f=x2:=Fm (hfn.symm.trans hx2);refine' PM;intro b3 o3 cs3 x3 hat3 hx3 he3;obtain ⟨vp3,vc3,ve31,ve32,ve33,ve34,ve35,rfl,hp3,hc3,he31,he32,he33,he34,he35⟩:=RJ he3;refine' NN;intro p7 w1 hS;refine Kt hS ?_;intro w1 hS;have hS:=hS.ns;refine' zn;obtain rfl:y=x3:=Fm (hy.symm.trans hx3);refine' Oe;have hg0:=ma hm hF hfn hy;have hlc:=hsy.2.1;refine' LS;refine' Ob;refine zo [1,2,4,5,6,7] (fun A ρ' w'=>∃(k2:Cx) (i:Nat) (s:JS) (vl:Value) (css:List (List Value)),Kn ρ' A∧Kn ρ' [(8, .int .i64 i)]∧(c2.Le k2)∧(i≤y.code.length)∧(Nf m j.f q b y.fin 0 (MJ y) y.code=Nf m j.f q b y.fin i s (y.code.drop i))∧(j.Fits k2 m)∧(Ku.ls k2 css s.l)∧(JInv m j.f s)∧St k2 w' (blk p7 92 [.int .i64 y.regs,vp3,vc3, .int .i64 y.fin.op, .int .i64 y.fin.a, .int .i64 y.fin.yes.block,ve31,ve32, .int .i64 y.fin.no.block,ve33,ve34,ve35]::blk j.sp 158 (j.kcells vl)::Rd j.hp s.h::sl 115 3 vl css::blk p3 29 [.int .i64 m.fault.1, .int .i64 m.fault.2]::blk p2 29 [.int .i64 0, .int .i64 0]::blk p1 24 [vf]::L)) (fun ρ' _=>(y.code.length - iv (ρ' 8)).toNat) ?_ ?_
     · exact Cb
     rintro ρ w1 ⟨k2,i,s,vl,css,hA,hρ,hle2,hi,hdi,hj,hls,hg,hS⟩;obtain ⟨ρ,rfl⟩:=Kp hA hρ;have hL2:=hle2;(try have hle:=hle.trans hle2);(try have hL1:=hL1.trans hle2);(try have hc3:=hc3.up hle2);(try have he31:=he31.up hle2);(try have he32:=he32.up hle2);(try have he33:=he33.up hle2);(try have he34:=he34.up hle2);(try have he35:=he35.up hle2);refine' Uf;refine' Ab<;>intro hc
     · skip
       (refine' L4;refine' KP;refine' KZ;refine' PM;intro b4 o4 cs4 x4 hat4 hx4 he4;obtain ⟨vr4,va4,rfl,hr4,ha4⟩:=Nx he4;refine' Oa;refine' Kr (c:=eZ (s:=s) (x:=x4) hm hg hj he4 hls hS.p3);rintro v1 w1 ⟨c4,vl4,css4,hle2,rfl,hls4,hS⟩;(try have hle:=hle.trans hle2);(try have hL2:=hL2.trans hle2);have hj:=hj.up hle2;have hg1:=VE (x:=x4) hF hm hg;obtain ⟨s1,hs1⟩:∃s1,(KM m j.f s x4).2=s1:=⟨_,rfl⟩;rw [hs1] at hls4 hS hg1;refine' L6;first|(refine' QO)|(refine' QU)|(refine' Ad<;>intro hc));all_goals (refine' zn)
       all_goals
        first
        | (refine' Ki;refine' Lc;refine' MV;refine' Lg (c:=tH q b i Jo Jo Jo hS);rintro v1 w1 ⟨rfl,hS⟩;refine' Kr (c:=M5 hS);rintro v1 w1 ⟨rfl,hS⟩;refine Kt hS ?_;intro w1 hS;have hS:=hS.ns;refine' zn;have hJ:=qo hd hfn hdb hy (by rw [hdi,Q1 hx4,qm Jo]) Jo;refine' zr;refine LF vw (Q2 (n:=2) Jk Jk (hS.blkAt fd) Jr Jr) ?_;(exact AR))
        | (refine' Kk;refine' Kx)
       refine' Mt;(exact ⟨⟨_,i+1,s1,vl4,css4,zh,zh,hL2,Jo,by rw [hdi,Q1 hx4,ql Jo,hs1],hj,hls4,hg1,hS.sp⟩,Qj Jo⟩)
     · skip
       (refine' L8;refine' KP;refine' OV;refine' Kr (c:=fa (s:=s) (e:=y.fin) hsf hfb hfh.1 Jo hg hj ⟨_,_,_,_,_,rfl,he31,he32,he33,he34,he35⟩ hls hS.p3);rintro v1 w1 ⟨rfl,hS⟩;have hde:=qn (m:=m) (f:=j.f) (fi:=q) (bi:=b) (e:=y.fin) (s:=s) (i:=i) (l:=y.code) Jo;refine' L6;first|(refine' QO)|(refine' QU)|(refine' Ad<;>intro hc));all_goals (refine' zn)
       all_goals
        first
        | (refine' Ki;refine' Lc;refine' zm;refine' Kr (c:=tG q b Jo Jo hS);rintro v1 w1 ⟨rfl,hS⟩;refine' Kr (c:=M5 hS);rintro v1 w1 ⟨rfl,hS⟩;refine Kt hS ?_;intro w1 hS;have hS:=hS.ns;refine' zn;have hJ:=qo hd hfn hdb hy (hdi.trans (hde.trans (P9 Jo))) Jo;refine' zr;refine LF vw (Q2 (n:=2) Jk Jk (hS.blkAt fd) Jr Jr) ?_;(exact AR))
        | (refine' Kk;refine' Kx)
       refine' Mt;(exact ⟨⟨_,b+1,zh,zh,hL1,Jo,VG hdb hy (by rw [hdi,hde,RW];omega),hS.sp⟩,Qj Jo⟩)
   · skip;refine' L8;refine' Mt;(exact ⟨⟨_,q+1,zh,zh,hL0,Jo,VH hd hfn hdb Jo,hS.sp⟩,Qj Jo⟩)
 · skip;refine' L8;refine' Kv;refine L0 [_,_] ?_;refine Kt hS ?_;intro w1 hS;have hS:=hS.ns;refine' zn;have hJ:=VI hd Jo;refine' zr;refine LF vw (Q2 (n:=2) Jk Jk (hS.blkAt fd) Jr Jr) ?_;(exact AR)
end
end Go.Proofs.YteflkifmgnpbhaaGreat
namespace Go.Lir
end Go.Lir
namespace Go.Proofs.YteflkifmgnpbhaaGreat
open Go.Lir
attribute [local irreducible] LC.wp Q0 Qs Qi KN QD LO.wp Q7 Calls
section
variable {cx:Cx}{w:World}{L:List Res}{p N:Nat}{z:GZ}{fr:List FrmV}{g:FrmV}{h:HpS}{out inp back:List Int}{m:Module}
attribute [local irreducible] DR RA Run.all Run.oc Run.flt
end
section
variable {cx:Cx}{w:World}{L:List Res}{m:Module}{inp:List Int}
theorem WI {fuel pages:Int}(h:m.runs.1=0):Nh m inp fuel pages=gA inp fuel pages:=if_neg Jo
attribute [local irreducible] QR RA Run.all Run.oc Nh gA
end
section
variable {cx:Cx}{w:World}{L:List Res}{m:Module}{inp:List Int}
attribute [local irreducible] PR QR RA Run.all Run.oc Run.step Nh gA Run.Tt
theorem Qfq {fuel pages:Int}(hx:Ls.at cx cs m)(hi:Kh.sl cx v inp)(hS:St cx w L):Kf Tryz.prog sB [.agg ⟨cs⟩,v, .int .i64 fuel, .int .i64 pages] w fun u w'=>u= .bool true∧St cx w' L:=by
 have hx':=hx;obtain ⟨vf,rfl,hf⟩:=NR hx;refine Kq Ko Tryz.func10 ?_;refine' KY;intro p4 w1 hS;refine' Ms;refine' Kv;refine' nT (c:=Qdf hS);rintro v1 w1 ⟨rfl,hS⟩;refine' Nv
 all_goals
  first
  | (refine' Ki;all_goals (refine' KQ);all_goals (exact Az))
  | (refine' Kk;refine' Kx)
 refine QA ?_;refine' MU;refine' zm;refine' Kr (c:=eS hx' hS);rintro v1 w1 ⟨b,rfl,hb,hS⟩;cases b;all_goals (refine' zn)
 all_goals
  first
  | (refine' Ki;refine' KQ;(exact Az))
  | (refine' Kk;refine' Kx)
 refine' MU;refine' MV;refine' zm;obtain ⟨hfew,hfu⟩:=hb rfl;refine' Ny (c:=WB (my hfew) hx' hi hS);rintro v1 w1 hN;rcases hN.split with ⟨hz,rfl,hS⟩|⟨hs0,hR,hil,hf0,hf1,n,rfl,hq,c2,t,p,q,hp,fn,lv,i1,ep,fn2,lv2,i2,rfl,hle2,hfn,hin,hfn2,hin2,hS⟩
 all_goals (unfold KG;dsimp only;refine' RT;intro p10 w1 hS;refine' zm;refine Kt hS ?_;intro w1 hS;have hS:=hS.ns;refine' L5;refine' Mn;refine' Rp;refine' zn)
 all_goals
  first
  | (refine' Ki;refine' MU;refine' KE (c:=ff (my hfew) hx' hS);rintro v1 w1 ⟨rfl,hS⟩;unfold KG;by_cases hrz:m.runs.1=0;all_goals (refine ZP rfl rfl ?_;refine' Rp;refine' Sm;refine' Mc;(first|(refine' Kj)|(refine' Kl;refine' Lg (c:=Qh2 hi hS);rintro v1 w1 ⟨rfl,hS⟩;unfold KG;rw [WI hrz] at hz));(first|refine' Kj|(refine' Kl;refine ZP rfl rfl ?_));(first|refine' Kj|(refine' Kl;refine' QO));refine' Lu;refine' La);all_goals (exact Az))
  | (refine' Kk;refine' Kx)
 refine' bK;refine zo [9] (fun A ρ' w'=>∃(r:Run) (c:MC) (fr:List FrmV) (g:FrmV) (N:Nat) (h:HpS) (inp1 out back:List Int) (cy:RC) (fr2:List RFV) (g2:RFV) (s:EstS) (inp2:List Int),Kn ρ' A∧Kn ρ' []∧(PR m fuel.toNat c fr g N h inp1 out back r)∧(QR m fuel.toNat cy fr2 g2 s inp2 out back r)∧(KD.sl c2 c.fn m.funcs)∧(Kh.sl c2 c.iv inp1)∧(KD.sl c2 cy.fn m.funcs)∧(Kh.sl c2 cy.iv inp2)∧St c2 w' (tX t p q c fr g N h out back cy fr2 g2 s (blk p10 29 [.int .i64 0, .int .i64 0]::L))) (fun _ w'=>Zh w' p) ?_ ?_
 · exact ⟨.on (MS.start inp n),P0 hp fn lv i1 fuel,[],Pa,0,⟨[],n⟩,inp,[],[],eL ep fn2 lv2 i2 fuel,[],eM,EstS.mk0 n,inp,zh,zh,PR.first (SG hR) hf0,QR.first hR (my hfew) hf0 hq,hfn,hin,hfn2,hin2,hS.sp⟩
 rintro ρ w1 ⟨r,c,fr,g,N,h,inp1,out,back,cy,fr2,g2,s,inp2,hA,hρ,hP,hQ,hfn1,hin1,hfny,hiny,hS⟩;obtain ⟨ρ,rfl⟩:=Kp hA hρ;have hm0:=qR (c:=c) (L:=L) (show St c2 _ (blk p 55 c.cells::L) from hS.sp);refine' Na;refine' Mf;refine' KE (c:=mm (c:=c) (show St c2 _ (blk p 55 c.cells::_) from hS.sp));rintro v1 w1 ⟨rfl,hS⟩;cases hdn:c.dn;all_goals (refine' Nv)
 all_goals
  first
  | (refine' Ki
     refine' Kx;refine' WL;refine' KP;obtain ⟨ms,rfl,hkm⟩:=hP.on hdn;refine' KE (c:=vY hP hQ hdn hR (my hfew) Jo hfn1 hin1 hfny hiny (show St c2 _ (tX t p q c fr g N h out back cy fr2 g2 s _) from hS.sp));rintro v1 w1 ⟨rfl,c',fr',g',N',h',inp',out',back',cy',fr2',g2',s',inp2',hP',hQ',hfn',hin',hfny',hiny',hlt,hS⟩;unfold KG;refine Qd hS ?_;intro p11 w1 hS;refine Kt hS ?_;intro w1 hS;have hS:=hS.ns;refine' NA;refine' Rp;refine' zn
     all_goals
      first
      | (refine' Ki;all_goals (refine' KQ);all_goals (exact Az))
      | (refine' Kk;refine' Kx)
     (exact ⟨⟨Run.step m fuel.toNat (.on ms),c',fr',g',N',h',inp',out',back',cy',fr2',g2',s',inp2',zh,zh,hP',hQ',(by rw [hfn'];exact hfn1),hin',(by rw [hfny'];exact hfny),hiny',hS.sp⟩,EM⟩))
  | (refine' Kk;refine' Pm;(first|exact Az|exact ⟨_,rfl,rfl,Gx hS.sp hle2⟩))
end
end Go.Proofs.YteflkifmgnpbhaaGreat
namespace Go.Proofs.YteflkifmgnpbhaaGreat
open Go.Lir
def Pd:Cod.Of Tryz.prog 25 Kh.list:=Cod.Of.list ZV Jk Jk Jk
theorem P2 {c:Array Value}{x:Module}{inp:List Int}(h1:XL.cod.rd w.heap c.toList x)(h2:Pd.cod.rd w.heap [v] inp)(a b:Int):Kf Tryz.prog sB [.agg c,v, .int .i64 a, .int .i64 b] w fun v w'=>v= .bool true∧Fr NF w w':=by
 obtain ⟨v',hv,hin⟩:=Pd.top h2;cases hv;exact (Qfq (XL.top h1) hin (St.top w)).mono fun _ _ ⟨h,h2⟩=>⟨h,h2.fr⟩
end Go.Proofs.YteflkifmgnpbhaaGreat
