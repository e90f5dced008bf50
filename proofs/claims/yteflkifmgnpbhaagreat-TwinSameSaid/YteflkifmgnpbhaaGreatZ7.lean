
/- Lemmas of the proof, part 7: what the functions of the program do (contracts), and what follows. -/
import Derived.Test.YteflkifmgnpbhaaGreatZ2
import Derived.Test.YteflkifmgnpbhaaGreatZ6
import Derived.Test.YteflkifmgnpbhaaGreatZ3
import Derived.Test.YteflkifmgnpbhaaGreatZ5
import Derived.Test.YteflkifmgnpbhaaGreatZ4
open Go Go.Lir Go.Proofs.YteflkifmgnpbhaaGreat
variable {s:JS}{t:To}{cs:List Value}{e n b fuel pages c:Int}{p pa pb most N2 N' i j:Nat}{X:Stp}{x:Ins}{l inp out2 out back xs:List Int}{v fn u v2:Value}{y:Block}{q h2 h:HpS}{m:Module}{r a:Run}{g:Frm}{w:World}{L:List Res}{fr':List FrmV}{g':FrmV}{ms:MS}
set_option linter.unusedVariables false
set_option linter.unusedSimpArgs false
set_option maxHeartbeats 1000000
namespace Go.Lir
section
variable {p:Prop}
theorem DS (h:p:=by rw [a1];rfl):p:=h
theorem DZ (h:p:=by rw [hx2];intro h;cases h;omega):p:=h
theorem Es (h:p:=by first|(exact A0)|(exact As)):p:=h
theorem EB (h:p:=by have:=hop.2.2.1;rwa [decide_eq_true h] at this):p:=h
theorem EM (h:p:=by rw [qR (c:=c') (L:=L) (show St c2 _ (blk p 55 c'.cells::L) from hS.sp),hm0];exact hlt):p:=h
theorem EV (h:p:=by have:=hop.2.2.2;rwa [decide_eq_true h] at this):p:=h
end
end Go.Lir
namespace Go.Lir
section
variable {p:Prop}
theorem Ar (h:p:=by exact ⟨_,rfl,cx,_,FV hS,j3 hM,uj hM,hS.sp⟩):p:=h
theorem Av (h:p:=by exact ⟨_,rfl,c9,_,hle9,YR hM,j2 hM hk9,hS⟩):p:=h
theorem Ax (h:p:=by exact ⟨_,rfl,cx,_,FV hS,pX hM hw,j2 hM (Gj _ _ _),hS.sp⟩):p:=h
theorem AA (h:p:=by exact ⟨_,rfl,cx,_,FV hS,YR hM,j2 hM (Gj _ _ _),hS.sp⟩):p:=h
theorem AB (h:p:=by exact ⟨_,rfl,c9,_,hle9,j4 hC,uk hT hk9,hS⟩):p:=h
theorem AR (h:p:=by exact ⟨_,rfl,by rw [hJ];rfl,Gx hS.sp hle⟩):p:=h
theorem AT (h:p:=by exact ⟨_,rfl, .inl ⟨hz,rfl,hS.sp⟩⟩):p:=h
theorem AU (h:p:=by exact ⟨_,rfl,c9,_,hle2.trans hle9,YR hM,j2 hM hk9,hS⟩):p:=h
theorem A0 (h:p:=by exact Qt (j:=2) hS hel2 rfl fd rfl hd rfl):p:=h
theorem A2 (h:p:=by exact ⟨_,rfl,true,rfl,fun h=>Bool.noConfusion h,hS.sp⟩):p:=h
theorem A3 (h:p:=by exact ⟨_,rfl,c1,_,hle2,j3 hM,uj hM,hS.sp⟩):p:=h
theorem A6 (h:p:=by exact ⟨_,rfl,cx,_,FV hS,j4 hC,uk hT (Gj _ _ _),hS.sp⟩):p:=h
theorem A9 (h:p:=by exact ⟨_,rfl,(by rw [hgo,if_neg (by simpa using hc)]),hS.sp⟩):p:=h
theorem Ba (h:p:=by exact ⟨_,rfl,by rw [if_pos Jo];rfl,hS⟩):p:=h
theorem Bg (h:p:=by exact .inl ⟨_,rfl,hJ,rfl,(FK hS.sp hi)⟩):p:=h
theorem Bj (h:p:=by exact ⟨_,rfl,mv hJ (FV hS) hls hS.sp⟩):p:=h
theorem Bo (h:p:=by exact Qt (j:=1) hS hel1 rfl fd rfl hd rfl):p:=h
theorem Bt (h:p:=by exact ⟨_,rfl, .inl ⟨by rw [vR Jo];omega,by rw [vR Jo];rfl,hS.sp⟩⟩):p:=h
theorem BC (h:p:=by exact ⟨_,rfl,mv hJ hle2 hls hS.sp⟩):p:=h
theorem BL (h:p:=by exact ⟨_,rfl,(by rw [hgo,if_pos hc]),hS.sp⟩):p:=h
theorem BO (h:p:=by exact ⟨_,rfl, .inl ⟨Jo,rfl,hS.sp⟩⟩):p:=h
theorem BU (h:p:=by exact ⟨_,rfl,by rw [hJ];rfl,hS.sp⟩):p:=h
theorem B3 (h:p:=by exact ⟨⟨q+1,_,_,zh,zh,Jo,by rw [tW];exact hls1,by rw [tW,Fc,hlq];rfl,ho3,hS.sp⟩,Qj Jo⟩):p:=h
theorem B7 (h:p:=by exact ⟨_,rfl,by rw [if_pos Jo],(FK hS.sp hi)⟩):p:=h
theorem Ca (h:p:=by exact ⟨_,rfl,by rw [if_pos Jo],cx,vl,css,FV hS,by rw [if_pos Jo];exact hls,by rw [if_pos Jo];exact (Gn hS.sp hi)⟩):p:=h
theorem Cb (h:p:=by exact ⟨c2,0,MJ y,vl,css,zh,zh,FV hS,Jo,by rfl,hj,hls,hg0,hS.sp⟩):p:=h
theorem Cj (h:p:=by exact ⟨_,rfl, .inl ⟨by rw [vS Jo Jo];decide,by rw [vS Jo Jo];rfl,hS.sp⟩⟩):p:=h
theorem Ck (h:p:=by exact ⟨_,rfl,by rw [if_neg Jo,hd,tQ hx1 hx2 g1 hn (fun h=>of_decide_eq_false hdc h.symm)];rfl,Gx hS.sp hL0⟩):p:=h
theorem CE (h:p:=by exact ⟨_,rfl, .inr (.inl ⟨Jo, .inl (.inr Jo),rfl,hS.sp⟩)⟩):p:=h
theorem CH (h:p:=by exact ⟨_,rfl,(by rw [hgo,if_neg (fun ha=>hn3 (ha x3 (Fa hx3)))]),Gx hS.sp hle5⟩):p:=h
theorem CJ (h:p:=by exact ⟨_,rfl,(by rw [show gA inp fuel pages=(0,0) from if_neg Jo];rfl),hS.sp⟩):p:=h
theorem CK (h:p:=by exact ⟨⟨q+1,zh,zh,Jo,by rw [dJ,hk,hx2];simp;omega,hne,hS.sp⟩,Qj Jo⟩):p:=h
theorem CL (h:p:=by exact ⟨_,rfl, .inr (.inl ⟨Jo, .inr ⟨x1,hx1, .inr Jo⟩,rfl,hS.sp⟩)⟩):p:=h
theorem CN (h:p:=by exact ⟨0,_,[],zh,zh,Jo,by unfold K6;exact GB _ _ _,by unfold K6;rfl,Jo,hS.sp⟩):p:=h
theorem CR (h:p:=by exact ⟨_,rfl,c2,_,_,hle1.trans hle2,rfl,hv1,hv2,hS.sp⟩):p:=h
theorem CY (h:p:=by exact ⟨_,rfl,by rw [if_neg Jo,hd,tP hx1 hx2 g1 hn];rfl,Gx hS.sp hL0⟩):p:=h
theorem CZ (h:p:=by exact ⟨_,rfl, .inr (.inl ⟨Jo, .inl (.inl Jo),rfl,hS.sp⟩)⟩):p:=h
theorem C0 (h:p:=by exact ⟨⟨_,q+1,_,_,zh,zh,hL2,Jo,by rw [TZ hx4,FG];exact hls2,hS.sp⟩,Qj Jo⟩):p:=h
end
end Go.Lir
namespace Go.Proofs.YteflkifmgnpbhaaGreat
open Go.Lir
attribute [local irreducible] LC.wp Q0 Qs Qi KN QD LO.wp Q7 Calls
section
attribute [local irreducible] Kz LY Mv M6 NJ K6
variable {cx:Cx}{w:World}{L:List Res}{j:JP}{h:List Bool}{vl:Value}{css:List (List Value)}{i:Nat}{m:Module}
theorem Wo (hsf:j.f.Short)(hb:0≤t.block∧t.block<j.f.blocks.length)(hfb:∀b∈j.f.blocks,j.f.regs≤b.regs)(hh:s.h.length≤16)(hj:j.Fits cx m)(hx:toR.at cx cs t)(hls:Ku.ls cx css s.l)(hS:St cx w L)(hi:nth L i=some (j.res s.h vl css)):
 Ky Tryz.prog Qa2 [.pointer (some ⟨j.sp,0,none⟩), .agg ⟨cs⟩] w (fun u w'=>NK j.f s t= .ok ()∧u= .tuple #[]∧St cx w' L) (kG cx L (NK j.f s t)):=by
 ((have hS:=hS.out hi;obtain ⟨vr,va,rfl,hr,ha⟩:=ZU hx;have hlr:=hr.len;have hbl:=hj.b;unfold Ky;refine Kq Ko Tryz.func249 ?_;refine' KY;intro p3 w1 hS;refine' L5;refine zC [(0,none),(1,none),(2,none),(3,none),(4,none),(5,none),(6,none),(7,none),(8,none),(9,some (some [4,6,8])),(10,some none)] ?_;have hS:=hS.drew;refine' Pk;refine' SY;refine Ro hS rfl fd rfl ?_;refine' KO;refine' RQ;refine' KO;refine' Nj;intro b1 o1 cs1 x1 hat1 hx1 he1;obtain ⟨vp1,vc1,ve11,ve12,ve13,ve14,ve15,rfl,hp1,hc1,he11,he12,he13,he14,he15⟩:=RJ he1;refine' S5;refine' PL;intro p4 w1 hS;refine' zt;refine ⟨Fe.2 ⟨(by (exact Au)),Fe.2 ⟨Ds,Fe.2 ⟨EU,fun _ h=>(Fv h).elim⟩⟩⟩,?_⟩;refine' LG;refine Kt hS ?_;intro w1 hS;have hS:=hS.ns;refine' Lq;have hbm:=Fa hx1;have hf1:=hfb x1 hbm;have hsb:=hsf.2.2.2 x1 hbm;refine' Kv;refine' MD;refine' zL;refine' MD;first|(refine' QO)|(refine' QU)|(refine' Ad<;>intro hc));all_goals (first|(refine' Kr (c:=Rz hS);rintro v1 w1 ⟨rfl,hS⟩)|(refine KH (c:=RB hS) (p:=by rintro v9 w9 ⟨rfl,hS⟩;(repeat (first|refine' Q6|refine' Q8|refine fun _=>?_));refine' Qe;refine .inr ⟨_,rfl,?_⟩;exact ⟨_,jX hx1 Jo,rfl,(FK hS.sp hi)⟩) (h:=fun _ _ h=>h.elim))));refine' zn;refine' Na;refine' SV;refine Ro hS rfl fd rfl ?_;refine' Ob;refine MB hS [0,3,4,27] (fun A LL ρ' w'=>∃(q:Nat),Kn ρ' A∧Kn ρ' [(28, .int .i64 q)]∧(q≤j.f.regs.toNat)∧(NJ t.regs q=true)∧(¬(t.regs.length:Int)≠x1.regs)∧St cx w' (LL)) (fun ρ' _=>(j.f.regs - iv (ρ' 28)).toNat) ?_ ?_
 · exact ⟨0,zh,zh,Jo,by unfold NJ;rfl,Jo,hS.sp⟩
 rintro ρ w1 ⟨q,hA,hρ,hq,hk,hne,hS⟩;obtain ⟨ρ,rfl⟩:=Kp hA hρ;refine' MH;refine' Ab<;>intro hc
 · skip;(refine' L4;refine' Nz;refine' LS;refine' MD;refine' zm;refine' zi;intro b2 o2 cs2 x2 hat2 hx2 he2;obtain rfl:=QG he2;(first|(refine Ro hS rfl fd rfl ?_)|(refine zl hS ?_)|(refine Rm hS ?_));refine' zm;first|(refine' QO)|(refine' QU)|(refine' Ad<;>intro hc));(all_goals (first|(refine' Kr (c:=Rz hS);rintro v1 w1 ⟨rfl,hS⟩)|(refine KH (c:=RB hS) (p:=by rintro v9 w9 ⟨rfl,hS⟩;(repeat (first|refine' Q6|refine' Q8|refine fun _=>?_));refine' Qe;refine .inr ⟨_,rfl,?_⟩;exact ⟨_,l5 hx1 hne (l4 (q:=q) Jo DZ),rfl,(FK hS.sp hi)⟩) (h:=fun _ _ h=>h.elim))));refine' Rr;(exact CK)
 · skip;refine' L8;have hq':q=j.f.regs.toNat:=Df;rw [hq'] at hk;refine QA ?_;refine zD (ci 8 [6,7]) ?_;have hS:=hS.drew;refine' zm;refine' bN;refine' MD;refine' Kr (c:=Zo (h:=s.h) hh hr hS fd);rintro v1 w1 ⟨rfl,hS⟩;refine' L6;refine Xn rfl rfl ?_;refine' zm;refine KH (c:=Wl hS) (p:=by rintro v9 w9 ⟨rfl,hb,hS⟩;(repeat (first|refine' Q6|refine' Q8|refine fun _=>?_));refine' Qe;refine .inr ⟨_,rfl,?_⟩;exact ⟨_,Vq hx1 hne hk (of_decide_eq_true hb),rfl,(FK hS.sp hi)⟩) (h:=?_);rintro v1 w1 ⟨rfl,hb,hS⟩;refine' zn;refine' LV;refine' MD;refine' MD;refine' MD;refine nU (c:=qU (s:=s) hsb.1.2 hls ha hp1 hr hS fd) (p:=by rintro v9 w9 ⟨c,g1,rfl,hS⟩;(repeat (first|refine' Q6|refine' Q8|refine fun _=>?_));refine' Qe;refine .inr ⟨_,rfl,?_⟩;exact ⟨_,(Vr hx1 hne hk (FP.1 (of_decide_eq_false hb))).trans g1,rfl,(FK hS.sp hi)⟩) (h:=?_);rintro v1 w1 ⟨har,rfl,hS⟩;refine' OW;exact .inl ⟨_,rfl,(Vr hx1 hne hk (FP.1 (of_decide_eq_false hb))).trans har,rfl,(FK hS.sp hi)⟩
theorem eH {e:Tail}(hsf:j.f.Short)(hF:Nl j.f.blocks.length e=0)(hfb:∀b∈j.f.blocks,j.f.regs≤b.regs)(hfr:j.f.regs≤100000)(hh:s.h.length≤16)(hj:j.Fits cx m)(hx:Lo.at cx cs e)(hls:Ku.ls cx css s.l)(hS:St cx w L)(hi:nth L i=some (j.res s.h vl css)):
 Ky Tryz.prog Q9d [.pointer (some ⟨j.sp,0,none⟩), .agg ⟨cs⟩] w (fun u w'=>Mj j.f s e= .ok ()∧u= .tuple #[]∧St cx w' L) (kG cx L (Mj j.f s e)):=by
 (have hS:=hS.out hi;obtain ⟨v1,v2,v3,v4,v5,rfl,h1,h2,h3,h4,h5⟩:=Rj hx;have hop:=gj hF;have hy:e.op≠3→0≤e.yes.block∧e.yes.block<j.f.blocks.length:=fun h=>YO EB;have hz:e.op=2→0≤e.no.block∧e.no.block<j.f.blocks.length:=fun h=>YO EV;have hT1:toR.at cx [.int .i64 e.yes.block,v1,v2] e.yes:=⟨_,_,rfl,h1,h2⟩;have hT2:toR.at cx [.int .i64 e.no.block,v3,v4] e.no:=⟨_,_,rfl,h3,h4⟩;have hjr:=hj.r;unfold Ky;refine Kq Ko Tryz.func210 ?_;refine' KY;intro p3 w1 hS;refine' Ui;refine' MD;refine' SZ;refine' Kv;first|(refine' Ql)|(refine' Qp)|(refine' Ac<;>intro hc));all_goals (refine' KA)
 all_goals
  first
  | (refine' Ki;refine' LV;refine' OV;refine KH (c:=Wo (s:=s) hsf (hy Jo) hfb hh hj hT1 hls hS fd) (p:=by rintro v9 w9 ⟨c,g1,rfl,hS⟩;(repeat (first|refine' Q6|refine' Q8|refine fun _=>?_));refine' Qe;refine .inr ⟨_,rfl,?_⟩;exact ⟨_,(l6 Jo).trans g1,rfl,(FK hS.sp hi)⟩) (h:=?_);rintro v6 w1 ⟨g1,rfl,hS⟩;have hJ:=(l6 (f:=j.f) (s:=s) (e:=e) Jo).trans g1;refine' zn;refine' LJ;exact Bg)
  | (refine' Kk
     (refine' Kv;first|(refine' Ql)|(refine' Qp)|(refine' Ac<;>intro hc));all_goals (refine' KA)
     all_goals
      first
      | (refine' Ki;refine' KP;refine' MD;refine MG (c:=Zp (s:=s) hls hS fd) (p:=by rintro v9 w9 ⟨c,g1,rfl,hS⟩;(repeat (first|refine' Q6|refine' Q8|refine fun _=>?_));refine' Qe;refine .inr ⟨_,rfl,?_⟩;exact ⟨_,by rw [aB Jo,Qw g1],rfl,(FK hS.sp hi)⟩) (h:=?_);rintro v6 w1 ⟨t1,cs1,g1,rfl,hrd1,hS⟩;refine' LN;refine' OV;refine KH (c:=Wo (s:=s) hsf (hy Jo) hfb hh hj hT1 hls hS fd) (p:=by rintro v9 w9 ⟨c,g2,rfl,hS⟩;(repeat (first|refine' Q6|refine' Q8|refine fun _=>?_));refine' Qe;refine .inr ⟨_,rfl,?_⟩;exact ⟨_,by rw [aB Jo,Q3 g1,Qw g2],rfl,(FK hS.sp hi)⟩) (h:=?_);rintro v6 w1 ⟨g2,rfl,hS⟩;refine' zn;refine' LV;refine' OV;refine KH (c:=Wo (s:=s) hsf (hz Jo) hfb hh hj hT2 hls hS fd) (p:=by rintro v9 w9 ⟨c,g3,rfl,hS⟩;(repeat (first|refine' Q6|refine' Q8|refine fun _=>?_));refine' Qe;refine .inr ⟨_,rfl,?_⟩;exact ⟨_,by rw [aB Jo,Q3 g1,Q3 g2];exact g3,rfl,(FK hS.sp hi)⟩) (h:=?_);rintro v6 w1 ⟨g3,rfl,hS⟩;have hJ:Mj j.f s e= .ok ():=(by rw [aB Jo,Q3 g1,Q3 g2];exact g3);refine' zn;refine' LJ;exact Bg)
      | (refine' Kk
         refine' Kv;refine' XZ
         all_goals
          first
          | (refine' Kk;all_goals (refine' Kx);all_goals (refine' LJ;exact Bg))
          | (refine' Ki
             refine' Mq;refine' SV;refine Ro hS rfl fd rfl ?_;refine' Ob;have hS:=Hp (T:=3) (es:=1) hS;refine zo [0,3,34] (fun A ρ' w'=>∃(q:Nat) (vo:Value) (co:List (List Value)),Kn ρ' A∧Kn ρ' [(35, .int .i64 q),(4,vo)]∧(q≤j.f.regs.toNat)∧(Kh.ls cx co (K6 q))∧((K6 q).length=q)∧(e.op=3)∧St cx w' (sl 3 1 vo co::blk p3 90 [.int .i64 e.op, .int .i64 e.a, .int .i64 e.yes.block,v1,v2, .int .i64 e.no.block,v3,v4,v5]::j.res s.h vl css::L.eraseIdx i)) (fun ρ' _=>(j.f.regs - iv (ρ' 35)).toNat) ?_ ?_
             · exact CN
             rintro ρ w1 ⟨q,vo,co,hA,hρ,hq,hlo,hlq,ho3,hS⟩;obtain ⟨ρ,rfl⟩:=Kp hA hρ;refine' MH;refine' Ab<;>intro hc
             · skip;refine' L4;refine' Nz;refine' MZ;refine K8 hS [_] ?_;intro b1 w1 hS;refine za S8 UI hS ?_;intro vp1 w1 css1 hls1 hv1 hS;have hS:=hS.ns;refine' KA;refine' N1;(exact B3)
             · skip;refine' L8;have hq':q=j.f.regs.toNat:=Df;rw [hq'] at hlo;obtain ⟨c1,hle2,hS,hk1⟩:=Gp (r:=Kh) hS hlo rfl (by rw [←hq'];omega);have hls':=hls.up hle2;have h5':=h5.up hle2;have hjr':=hjr.up hle2;refine QA ?_;refine zD (ci 10 [9]) ?_;have hS:=hS.drew;refine' zm;refine' MD;refine' zm;refine' SV;refine Ro hS rfl fd rfl ?_;refine' zm;refine nU (c:=qU (s:=s) hsf.2.1.2 hls' h5' hjr' hk1 hS fd) (p:=by rintro v9 w9 ⟨c,g1,rfl,hS⟩;(repeat (first|refine' Q6|refine' Q8|refine fun _=>?_));refine' Qe;refine .inr ⟨_,rfl,?_⟩;exact ⟨_,by rw [dK ho3,Qw g1],rfl,Gx (FK hS.sp hi) hle2⟩) (h:=?_);rintro v6 w1 ⟨har,rfl,hS⟩;refine' zn;refine zC [(0,none),(1,none),(2,none),(3,none),(6,none),(7,none),(8,none),(9,none),(10,none),(4,some (some [10])),(5,none),(11,none),(12,some none)] ?_;have hS:=hS.drew;refine' Pk;refine' SS;refine Ro hS rfl fd rfl ?_;refine' Mu;refine' Nb;refine' SY;refine Ro hS rfl fd rfl ?_;refine' Lp;refine' KE (c:=Zl (h:=s.h) hh hS fd);rintro v1 w1 ⟨c2,hle3,hk2,hS⟩;have hS:=Gx hS hle3;have hS:=Gx hS hle2;have hl2:=hk2.len;refine' zt;refine ⟨Fe.2 ⟨(by (exact Au)),fun _ h=>(Fv h).elim⟩,?_⟩;refine' KW;refine' zL;refine' KO;refine ib rfl rfl ?_;refine' Lk;refine KH (c:=Wl hS) (p:=by rintro v9 w9 ⟨rfl,hb,hS⟩;(repeat (first|refine' Q6|refine' Q8|refine fun _=>?_));refine' Qe;refine .inr ⟨_,rfl,?_⟩;exact ⟨_,by rw [dK ho3,Q3 har,if_pos (by have:=of_decide_eq_true hb;omega)],rfl,(FK hS.sp hi)⟩) (h:=?_);rintro v1 w1 ⟨rfl,hb,hS⟩;have hJ:Mj j.f s e= .ok ():=(by rw [dK ho3,Q3 har,if_neg (by have:=of_decide_eq_false hb;omega)]);refine' Lq;refine' LJ;exact Bg)))
end
section
attribute [local irreducible] Kz LY Mv M6 NJ K6
variable {cx:Cx}{w:World}{L:List Res}{j:JP}{h:List Bool}{vl:Value}{css:List (List Value)}{i:Nat}{m:Module}
theorem Qim (hS:St cx w (blk p 3 [.int .i64 n]::L)):M3 Tryz.prog vH [.pointer (some ⟨p,0,none⟩)] .returning w fun u' w'=>u'= .returning∧St cx w' (blk p 3 [.int .i64 n]::L):=by
 unfold M3;refine bT Ko Tryz.func237 ?_;refine' bH;refine' Rl;refine' zn;refine' KA;refine' Rk;refine' KP;refine so (ms:=#[]) Jk rfl ?_;refine' Pn;refine' bO;exact AQ
theorem Qil (hS:St cx w (blk p 3 [.int .i64 n]::L)):M3 Tryz.prog vH [.pointer (some ⟨p,0,none⟩)] (.panicking [{v:=R6 e,recovered:=false}]) w fun u' w'=>u'= .panicking [{v:=R6 e,recovered:=true}]∧St cx w' (blk p 3 [.int .i64 e]::L):=by
 unfold M3;refine bT Ko Tryz.func237 ?_;refine' bH;refine' Rl;refine' zn;refine' KA;refine' Rk;refine' KP;refine sq (ms:=#[]) Jk rfl ?_;refine' OY;refine' KP;refine lr (D:= .int .i64) Jk Ej rfl ?_;refine' zm;refine' Sk;refine' zm;refine' OX;refine' Nv;refine' Pj;refine' LV;refine LU hS ?_;intro w1 hS;have hS:=hS.ns;refine' zn;refine' bO;exact AQ
theorem vT {f:FuncId}{cap:List Value}{X:Cx→List Res→Prop}{Y:Int→Cx→List Res→Prop}(hf:Sa Tryz.prog f=true)
 (hc:∀(p:Nat) (w:World),St cx w (blk p 3 [.int .i64 0]::L)→Ky Tryz.prog f cap w (fun _ w'=>∃c' L',cx.Le c'∧St c' w' (blk p 3 [.int .i64 0]::L')∧X c' L') (fun u w'=>∃e c' L',u=R6 e∧cx.Le c'∧St c' w' (blk p 3 [.int .i64 0]::L')∧Y e c' L'))(hS:St cx w L):
 Kf Tryz.prog Qcv [.func (.func f) #[] ⟨cap⟩] w fun u w'=>∃e c' L',u= .int .i64 e∧cx.Le c'∧St c' w' L'∧(e=0∧X c' L'∨Y e c' L'):=by
 refine oe Ko Tryz.func205 ?_;refine' XP;refine' OQ;refine' LS;refine Qd hS ?_;(intro p2 w1 hS);refine' zn;refine' XP;refine' bG;refine' gR;refine' zn;refine ⟨_,_,rfl,?_⟩;refine' zn;refine' OQ;refine' KP;refine XO rfl hf rfl (hc _ _ hS) (by rintro v9 w9 ⟨e,c1,L1,rfl,hle,hS,hY⟩;(repeat (refine' fS));refine' lx;refine XQ (by intro h;cases h) Jk (Qil hS) ?_;rintro u' w' ⟨rfl,hS⟩;refine' XR;refine LF vw (sk Jk (hS.blkAt KU) rfl) ?_;exact ⟨_,rfl,e,c1,L1,rfl,hle,hS.drop, .inr hY⟩) ?_;rintro v1 w1 ⟨c1,L1,hle,hS,hX⟩;refine' Ui;refine LU hS ?_;intro w1 hS;have hS:=hS.ns;refine' Lz;refine' T3;refine XQ Dy Jk (Qim hS) ?_;rintro u1 w1 ⟨rfl,hS⟩;refine' XR;refine LF vw (sk Jk (hS.blkAt fd) rfl) ?_;((exact ⟨_,rfl,0,c1,L1,rfl,hle,hS.drop, .inl ⟨rfl,hX⟩⟩))
theorem Zs (hm:m.Short)(hF:Qx m.funcs.length x=0)(hn:s.l.length≤80)(hh:s.h.length≤16)(hj:j.Fits cx m)(hx:Lb.at cx cs x)(hls:Ku.ls cx css s.l)
 (hS:St cx w (blk p 3 [.int .i64 0]::blk pb 84 cs::blk pa 207 [.pointer (some ⟨j.sp,0,none⟩)]::j.res s.h vl css::L)):
 Ky Tryz.prog Q7x [.pointer (some ⟨pa,0,none⟩), .pointer (some ⟨pb,0,none⟩)] w
  (fun _ w'=>∃c' L',cx.Le c'∧St c' w' (blk p 3 [.int .i64 0]::L')∧∃s' vl' css',KK m j.f s x= .ok s'∧Ku.ls c' css' s'.l∧L'=blk pb 84 cs::blk pa 207 [.pointer (some ⟨j.sp,0,none⟩)]::j.res s'.h vl' css'::L)
  (fun u w'=>∃e c' L',u=R6 e∧cx.Le c'∧St c' w' (blk p 3 [.int .i64 0]::L')∧KK m j.f s x= .error e∧c'=cx∧L'=blk pb 84 cs::blk pa 207 [.pointer (some ⟨j.sp,0,none⟩)]::j.res s.h vl css::L):=by
 have hx':=hx;obtain ⟨vr,va,rfl,hr,ha⟩:=Nx hx;unfold Ky;refine Kq Ko Tryz.func206 ?_;refine' Z2;refine zv hS ?_;refine KH (c:=eG hm hF hn hh hj hx' hls hS fd) (p:=by rintro v9 w9 ⟨c,g1,rfl,hS⟩;(repeat (first|refine' Q6|refine' Q8|refine fun _=>?_));refine' Qe;refine .inr ⟨_,rfl,?_⟩;exact ⟨c,cx,_,rfl,FV hS,hS,g1,rfl,rfl⟩) (h:=?_);rintro v1 w1 ⟨rfl,c1,s1,vl4,cs4,hle,hr1,hls4,hS⟩;have hS:=hS.ns;refine' OW;exact .inl ⟨_,rfl,c1,_,hle,hS,s1,vl4,cs4,hr1,hls4,rfl⟩
theorem eI (hm:m.Short)(hn:s.l.length≤80)(hh:s.h.length≤16)(hj:j.Fits cx m)(hx:Lb.at cx cs x)(hls:Ku.ls cx css s.l)(hS:St cx w L)(hi:nth L i=some (j.res s.h vl css)):
 Kf Tryz.prog Q9e [.pointer (some ⟨j.sp,0,none⟩), .agg ⟨cs⟩] w fun u w'=>u= .int .i64 (KM m j.f s x).1∧∃c' vl' css',cx.Le c'∧Ku.ls c' css' (KM m j.f s x).2.l∧St c' w' (L.set i (j.res (KM m j.f s x).2.h vl' css')):=by
 (have hS:=hS.out hi;have hx':=hx;obtain ⟨vr,va,rfl,hr,ha⟩:=Nx hx;unfold KM;refine Kq Ko Tryz.func148 ?_;refine' KY;intro p2 w1 hS;refine zb hS ?_;intro p3 w1 hS;refine' S0;refine zD (ci 7 [5,6]) ?_;have hS:=hS.drew;refine' lD;refine' Lh;refine mr hS rfl fd rfl rfl ?_;(first|(refine mr hS rfl fd rfl rfl ?_)|(refine zv hS ?_));refine' Kr (c:=dw (m:=m) ⟨_,rfl,hj.m⟩ hx' hS);rintro v1 w1 ⟨rfl,hS⟩;refine' L6;first|(refine' QO)|(refine' QU)|(refine' Ad<;>intro hc));all_goals (refine' zn)
 all_goals
  first
  | (refine' Ki;refine' SX;(exact Ca))
  | (refine' Kk;refine' Kx)
 refine' Kv;refine' gR;refine' KE (c:=vT Jk (fun p w hS=>Zs (s:=s) hm Jo hn hh hj hx' hls hS) hS.sp);rintro v1 w1 ⟨e,c1,L1,rfl,hle,hS,⟨rfl,s1,vl4,cs4,hr1,hls4,rfl⟩|⟨hr1,rfl,rfl⟩⟩;all_goals (refine' La;(first|(exact Ca)|(exact ⟨_,rfl,by rw [if_neg Jo,hr1],c1,vl4,cs4,hle,by rw [if_neg Jo,hr1];exact hls4,by rw [if_neg Jo,hr1];exact (Gn hS.sp hi)⟩)|(exact ⟨_,rfl,by rw [if_neg Jo,hr1],_,vl,css,FV hS,by rw [if_neg Jo,hr1];exact hls,by rw [if_neg Jo,hr1];exact (Gn hS.sp hi)⟩)))
theorem Zt {x:Tail}(hsf:j.f.Short)(hF:Nl j.f.blocks.length x=0)(hfb:∀b∈j.f.blocks,j.f.regs≤b.regs)(hfr:j.f.regs≤100000)(hh:s.h.length≤16)(hj:j.Fits cx m)(hx:Lo.at cx cs x)(hls:Ku.ls cx css s.l)
 (hS:St cx w (blk p 3 [.int .i64 0]::blk pb 90 cs::blk pa 207 [.pointer (some ⟨j.sp,0,none⟩)]::j.res s.h vl css::L)):
 Ky Tryz.prog Q7y [.pointer (some ⟨pa,0,none⟩), .pointer (some ⟨pb,0,none⟩)] w
  (fun _ w'=>∃c' L',cx.Le c'∧St c' w' (blk p 3 [.int .i64 0]::L')∧Mj j.f s x= .ok ()∧c'=cx∧L'=blk pb 90 cs::blk pa 207 [.pointer (some ⟨j.sp,0,none⟩)]::j.res s.h vl css::L)
  (fun u w'=>∃e c' L',u=R6 e∧cx.Le c'∧St c' w' (blk p 3 [.int .i64 0]::L')∧Mj j.f s x= .error e∧c'=cx∧L'=blk pb 90 cs::blk pa 207 [.pointer (some ⟨j.sp,0,none⟩)]::j.res s.h vl css::L):=by
 have hx':=hx;obtain ⟨u1,u2,u3,u4,u5,rfl,h1,h2,h3,h4,h5⟩:=Rj hx;unfold Ky;refine Kq Ko Tryz.func209 ?_;refine' Z2;refine zv hS ?_;refine KH (c:=eH hsf hF hfb hfr hh hj hx' hls hS fd) (p:=by rintro v9 w9 ⟨c,g1,rfl,hS⟩;(repeat (first|refine' Q6|refine' Q8|refine fun _=>?_));refine' Qe;refine .inr ⟨_,rfl,?_⟩;exact ⟨c,cx,_,rfl,FV hS,hS,g1,rfl,rfl⟩) (h:=?_);rintro v1 w1 ⟨hr1,rfl,hS⟩;refine' OW;exact .inl ⟨_,rfl,cx,_,FV hS,hS,hr1,rfl,rfl⟩
theorem eJ {x:Tail}(hsf:j.f.Short)(hfb:∀b∈j.f.blocks,j.f.regs≤b.regs)(hfr:j.f.regs≤100000)(hh:s.h.length≤16)(hj:j.Fits cx m)(hx:Lo.at cx cs x)(hls:Ku.ls cx css s.l)(hS:St cx w L)(hi:nth L i=some (j.res s.h vl css)):
 Kf Tryz.prog Q9f [.pointer (some ⟨j.sp,0,none⟩), .agg ⟨cs⟩] w fun u w'=>u= .int .i64 (Mb j.f s x)∧St cx w' L:=by
 (have hS:=hS.out hi;have hx':=hx;obtain ⟨u1,u2,u3,u4,u5,rfl,h1,h2,h3,h4,h5⟩:=Rj hx;unfold Mb;refine Kq Ko Tryz.func149 ?_;refine' KY;intro p2 w1 hS;refine zb hS ?_;intro p3 w1 hS;refine' S0;refine zD (ci 7 [5,6]) ?_;have hS:=hS.drew;refine' lD;refine' Lh;refine mr hS rfl fd rfl rfl ?_;(first|(refine mr hS rfl fd rfl rfl ?_)|(refine zv hS ?_));refine' Kr (c:=dx (x:=j.f) ⟨_,_,_,rfl,hj.p,hj.r,hj.b⟩ hx' hS);rintro v1 w1 ⟨rfl,hS⟩;refine' L6;first|(refine' QO)|(refine' QU)|(refine' Ad<;>intro hc));all_goals (refine' zn)
 all_goals
  first
  | (refine' Ki;refine' SX;(exact B7))
  | (refine' Kk;refine' Kx)
 refine' Kv;refine' gR;refine' KE (c:=vT Jk (fun p w hS=>Zt (s:=s) hsf Jo hfb hfr hh hj hx' hls hS) hS.sp);rintro v1 w1 ⟨e,c1,L1,rfl,hle,hS,⟨rfl,hr1,rfl,rfl⟩|⟨hr1,rfl,rfl⟩⟩;all_goals (refine' La;(first|(exact B7)|(exact ⟨_,rfl,by rw [if_neg Jo,hr1],(FK hS.sp hi)⟩)))
end
section
attribute [local irreducible] Kz LY Mv M6 NJ K6 Module.fault
variable {cx:Cx}{w:World}{L:List Res}{j:JP}{h:List Bool}{vl:Value}{css:List (List Value)}{i:Nat}{m:Module}
theorem Wp {l:List Ty}(hl:Ku.sl cx v l)(hb:l.length≤1000000)(hS:St cx w L):Kf Tryz.prog zP [v] w fun u w'=>oneC u=true∧∃css,Ku.ls cx css l∧St cx w' (sl 115 3 u css::L):=by
 obtain ⟨a,c,hv⟩:=Fx hl
 cases a with
 | none=>
   have hl0:=Iu hl hv;subst hl0;subst hv;refine Kq Ko Tryz.func203 ?_;refine' Mq;refine WN (e:=115) Jk rfl rfl ?_;refine' zn
   all_goals
    first
    | (refine' Ki;refine' KQ;(exact ⟨_,rfl,rfl,[],GB _ _ _,hS.nil⟩))
   all_goals (refine' Kv; fail "no law for buildSlice"; refine' zm; refine za PV Ra hS ?_; intro vp1 w1 css1 hls1 hv1 hS; have hS := hS.ns; refine' La; exact ⟨_, rfl, rfl, [], GB _ _ _, hS.nil⟩)
 | some a=>
   have hn:Ku.ls cx [] []:=GB _ _ _;refine Kq Ko Tryz.func203 ?_;refine' Mq;refine WN (e:=115) Jk hv rfl ?_;refine' Pn;refine' Kv;refine im PV ?_;intro v1 w1 hf1 hs1 hz1;have hS:=hS.new (r:=sl 115 3 v1 []) hs1 hf1 (fun b hb=>HK hb.symm);refine' zm;(first|(refine za PV Ra hS ?_;intro vp1 w1 css1 hls1 hv1 hS;have hS:=hS.ns)|(refine lC PV Ra hS ?_;intro vp1 w1 css1 hls1 hv1 hS;have hS:=hS.ns));refine' La;(exact ⟨_,rfl,by assumption,_,hls1,hS.sp⟩)
theorem JP.shut (hS:St cx w (blk j.sp 258 (j.cells vl)::blk j.hp 296 [v]::sl 4 1 v (h.map QE)::sl 115 3 vl css::L)):St cx w (j.res h vl css::L):=by
 have h1:St cx w (Zk j.hp h::sl 115 3 vl css::blk j.sp 258 (j.cells vl)::L):=eC (hS.perm (by
  refine List.Perm.trans (List.Perm.swap _ _ _) (List.Perm.cons _ ?_);refine List.Perm.trans (List.Perm.swap _ _ _) (List.Perm.cons _ ?_);exact List.Perm.swap _ _ _))
 exact HF (St.mv1 (HF h1))
theorem eK {f:Int}(hm:m.Short)(hx:Ls.at cx cs m)(hS:St cx w L):
 Kf Tryz.prog vG [.agg ⟨cs⟩, .int .i64 f, .int .i64 b] w fun u w'=>
  (m.fault.1≠0∧u= .tuple #[.pointer none,KG m.fault]∧St cx w' L)∨
  (m.fault.1=0∧((f<0∨m.funcs.length≤f)∨∃fn,m.funcs[f.toNat]?=some fn∧(b<0∨fn.blocks.length≤b))∧u= .tuple #[.pointer none,KG (1, -1)]∧St cx w' L)∨
  (∃(fn:Fun) (y:Block) (j:JP) (c':Cx) (vl:Value) (css:List (List Value)),m.fault.1=0∧0≤f∧0≤b∧m.funcs[f.toNat]?=some fn∧fn.blocks[b.toNat]?=some y∧u= .tuple #[.pointer (some ⟨j.sp,0,none⟩),KG (0,0)]∧cx.Le c'∧j.Fits c' m∧j.f=fn∧Ku.ls c' css y.params∧St c' w' (j.res (MJ y).h vl css::L)):=by
 (obtain ⟨vf,rfl,hf⟩:=NR hx;obtain ⟨a0,n0,rfl⟩:=Fx hf;have hlf:=hf.len;refine Kq Ko Tryz.func147 ?_;refine' KY;intro p3 w1 hS;refine' zm;refine Qd hS ?_;intro p7 w1 hS;refine' L5;refine' MU;refine' KE (c:=pG hm hx hS);rintro v1 w1 ⟨rfl,hS⟩;unfold KG;refine Qd hS ?_;intro p8 w1 hS;refine Kt hS ?_;intro w1 hS;have hS:=hS.ns;refine' NA;first|(refine' QO)|(refine' QU)|(refine' Ad<;>intro hc));all_goals (refine' zn)
 all_goals
  first
  | (refine' Ki;refine QA ?_;refine zD (ci 3 [2]) ?_;have hS:=hS.drew;refine' Ud;((refine Kt hS ?_;intro w1 hS;have hS:=hS.ns));refine' Lz;refine OJ vw vw (Q2 (n:=2) Jk Jk (hS.blkAt fd) Jr Jr) ?_;(exact BO))
  | (refine' Kk;refine' Kx)
 refine Sj hS [1,2,3,7] (fun A LL ρ' w'=>Kn ρ' A∧Kn ρ' []∧(m.fault.1=0)∧(0≤f∧f<m.funcs.length∧∃fn,m.funcs[f.toNat]?=some fn∧0≤b∧b<fn.blocks.length)∧St cx w' (LL)) ?_ ?_
 · skip
   ((((refine' KP;first|(refine' KX)|(refine' K1)|(refine' Ae<;>intro hc));all_goals (refine' Lv;refine' PH;refine' NM;first|refine' Kj|(refine' Kl;(first|(refine' Ml)|(refine' MN)|(refine' Ag<;>intro hc)))));all_goals (refine' PQ;first|refine' Kj|(refine' Kl;(first|(refine' KX)|(refine' K1)|(refine' Ae<;>intro hc)))));all_goals (refine' PQ;refine' PH;refine' Mc;(first|refine' Kj|(refine' Kl;refine' Nj;intro b1 o1 cs1 x1 hat1 hx1 he1;obtain ⟨vp1,vr1,vb1,rfl,hp1,hr1,hb1⟩:=QH he1));refine' MT;(first|refine' Kj|(refine' Kl;(first|(refine zl hS ?_)|(refine Rm hS ?_)|(refine ZY hS ?_))));refine' NM;first|refine' Kj|(refine' Kl;(first|(refine' Ml)|(refine' MN)|(refine' Ag<;>intro hc)))));all_goals (refine' Ll;skip)
   all_goals
    first
    | (refine' Kk;refine' Kx)
    | (refine' Ki;all_goals (refine' Kv;refine M9 [_,_] ?_;refine' zm;refine Kt hS ?_;intro w1 hS;have hS:=hS.ns;refine' Lz;refine OJ vw vw (Q2 (n:=2) Jk Jk (hS.blkAt fd) Jr Jr) ?_);all_goals (first|(exact BO)|(exact CZ)|(exact CE)|(exact ⟨_,rfl, .inr (.inl ⟨Jo, .inr ⟨_,E7 (i:=f.toNat) Jo, .inl Jo⟩,rfl,hS.sp⟩)⟩)|(exact CL)))
   ((exact ⟨zh,zh,Jo,by refine ⟨Jo,Jo,x1,hx1,Jo,Jo⟩,hS.sp⟩))
 rintro ρ w1 ⟨hA,hρ,hz,hb,hS⟩;obtain ⟨ρ,rfl⟩:=Kp hA hρ;refine' MU;refine' KE (c:=gv hm hx hS);rintro v1 w1 ⟨c1,ds,rfl,hle,hm2,hS⟩;obtain ⟨vm,rfl,hf2⟩:=NR hm2;obtain ⟨hb1,hb2,fn,hfn,hb3,hb4⟩:=hb;refine Pg [_,_,_,_,_,_,_] ?_;refine zb hS ?_;intro p45 w1 hS;refine' KA;skip;refine' Lc;refine' PN;refine' zm;refine' Nj;intro b2 o2 cs2 x2 hat2 hx2 he2;obtain ⟨vp2,vr2,vb2,rfl,hp2,hr2,hb2⟩:=QH he2;refine' Oa;refine' Lh;(first|(refine Kt hS ?_;intro w1 hS;have hS:=hS.ns)|(refine iJ hS ?_;intro w1 hS;have hS:=hS.ns));refine' zn;obtain rfl:fn=x2:=Fm (hfn.symm.trans hx2);have hsf:=hm.2 fn (Fa hfn);refine' KP;refine' PN;refine' zm;refine' Nj;intro b3 o3 cs3 x3 hat3 hx3 he3;obtain ⟨vp3,vc3,ve31,ve32,ve33,ve34,ve35,rfl,hp3,hc3,he31,he32,he33,he34,he35⟩:=RJ he3;refine' NN;intro p10 w1 hS;refine Kt hS ?_;intro w1 hS;have hS:=hS.ns;refine' LN;refine' KZ;refine' KE (c:=kF hS);rintro v1 w1 ⟨hp,vh,rfl,hS⟩;refine' Z3;intro w1 hS;have hS:=hS.ns;refine' LN;refine' KZ;refine' KE (c:=Wp hp3 (by have:=(hsf.2.2.2 x3 (Fa hx3)).1.1;omega) hS);rintro v1 w1 ⟨hvl,css4,hls4,hS⟩;refine' Z3;intro w1 hS;have hS:=hS.ns;refine' LN;refine L0 [_,_] ?_;refine' zm;refine Kt hS ?_;intro w1 hS;have hS:=hS.ns;refine' Lz;refine OJ vw vw (Q2 (n:=2) Jk Jk (hS.blkAt fd) Jr Jr) ?_;(first|(exact BO)|(exact CZ)|(exact CE)|(exact ⟨_,rfl, .inr (.inl ⟨Jo, .inr ⟨_,E7 (i:=f.toNat) Jo, .inl Jo⟩,rfl,hS.sp⟩)⟩)|(exact CL)|(exact ⟨_,rfl, .inr (.inr ⟨fn,x3,⟨p45,hp,fn,vm,vp2,vr2,vb2⟩,c1,_,css4,hz,Jo,Jo,hfn,hx3,rfl,hle,⟨hf2,hp2,hr2,hb2⟩,rfl,hls4,JP.shut (v:=vh) hS.sp⟩)⟩))
end
section
end
section
variable {cx:Cx}{w:World}{L:List Res}{i:Nat}
abbrev vU (vc:Value):List Value:=[.int .i64 0, .slice none 0 0,vc, .int .i64 3, .int .i64 0, .int .i64 0, .slice none 0 0, .slice none 0 0, .int .i64 0, .slice none 0 0, .slice none 0 0, .slice none 0 0]
theorem Zu (hS:St cx w L):Kf Tryz.prog xU [] w fun u w'=>∃a b,u= .agg ⟨[.slice (some ⟨a,0,none⟩) 1 1]⟩∧St cx w' (blk a 95 [.int .i64 0, .slice none 0 0, .slice none 0 0, .slice (some ⟨b,0,none⟩) 1 1]::blk b 92 (vU (.slice none 0 0))::L):=by
 refine Kq Ko Tryz.func51 ?_;refine' OU;(intro p0 w1 hS);refine' Ui;refine Pg [_,_,_,_,_,_,_,_,_] ?_;refine Pg [_,_,_,_,_,_,_,_,_,_,_,_] ?_;refine Rh (cs:=[_,_,_,_,_,_,_,_,_,_,_,_]) vw Jr ?_;intro q1 w1 hb1 hf1 _ hk1;have hS:=hS.laid hb1 hf1 hk1;refine Pg [_,_,_,_] ?_;refine Rh (cs:=[_,_,_,_]) vw Jr ?_;intro q2 w1 hb1 hf1 _ hk1;have hS:=hS.laid hb1 hf1 hk1;refine Pg [_] ?_;((refine Kt hS ?_;intro w1 hS;have hS:=hS.ns));refine' Lz;refine LF vw (Q2 (n:=1) Jk Jk (hS.blkAt fd) Jr Jr) ?_;((exact ⟨_,rfl,q2,q1,rfl,hS.sp⟩))
end
section
attribute [local irreducible] Kz LY Mv M6 NJ K6 Module.fault KM Mb
variable {cx:Cx}{w:World}{L:List Res}{j:JP}{h:List Bool}{vl:Value}{css:List (List Value)}{i:Nat}{m:Module}
end
section
attribute [local irreducible] Kz LY Mv M6 NJ K6 Lf ND KV KM Mb Module.fault O2 PT
variable {cx:Cx}{w:World}{L:List Res}{j:JP}{h:List Bool}{vl:Value}{css:List (List Value)}{i:Nat}{m:Module}
theorem Wq {f b:Nat}{fn:Fun}(hm:m.Short)(hF:m.fault.1=0)(hfn:m.funcs[f]?=some fn)(hy:fn.blocks[b]?=some y)(hx:Ls.at cx cs m)(hS:St cx w L):
 Kf Tryz.prog vG [.agg ⟨cs⟩, .int .i64 f, .int .i64 b] w fun u w'=>∃(j:JP) (c':Cx) (vl:Value) (css:List (List Value)),u= .tuple #[.pointer (some ⟨j.sp,0,none⟩),KG (0,0)]∧cx.Le c'∧j.Fits c' m∧j.f=fn∧Ku.ls c' css y.params∧St c' w' (j.res (MJ y).h vl css::L):=by
 refine (eK hm hx hS).mono ?_;have h1:=(E8.1 hfn).1;have h2:=(E8.1 hy).1;rintro u w' (⟨h0, -⟩|⟨-,h9, -⟩|⟨fn',y',j,c2,vl,css, -, -, -,hf',hy',rfl,hle,hj,jf,hls,hS⟩)
 · exact absurd hF h0
 · exfalso
   rcases h9 with (h|h)|⟨fn',hf',h⟩
   · omega
   · omega
   · rw [FJ] at hf';obtain rfl:fn=fn':=Fm (hfn.symm.trans hf');omega
 · rw [FJ] at hf' hy';obtain rfl:fn=fn':=Fm (hfn.symm.trans hf');obtain rfl:y=y':=Fm (hy.symm.trans hy');exact ⟨j,c2,vl,css,rfl,hle,hj,jf,hls,hS⟩
theorem Wr {q b:Nat}{fn:Fun}(hm:m.Short)(hF:m.fault.1=0)(hfn:m.funcs[q]?=some fn)(hy:fn.blocks[b]?=some y)(hx:Ls.at cx cs m)(hS:St cx w L):
 Kf Tryz.prog yj [.agg ⟨cs⟩, .int .i64 q, .int .i64 b] w fun u w'=>u=KG (Nf m fn q b y.fin 0 (MJ y) y.code)∧St cx w' L:=by
 have hx':=hx;obtain ⟨vf,rfl,hf1⟩:=NR hx;have hle:=FV hS;have hsf:=hm.2 fn (Fa hfn);have hfb:=VF hF hfn;have hfh:=Vu (SB hF hfn);have hg0:=ui hm hF hfn hy;have hlc:=(hsf.2.2.2 y (Fa hy)).2.1;have hq1:=(E8.1 hfn).1;have hq2:=hm.1;have hb1:=(E8.1 hy).1;refine Kq Ko Tryz.func91 ?_;refine' KY;intro p3 w1 hS;refine Qd hS ?_;(intro p6 w1 hS);refine' Sr;refine' MV;refine' Lg (c:=Wq hm hF hfn hy hx' hS);rintro v1 w1 ⟨j,c2,vl,css,rfl,hle2,hj,hjf,hls,hS⟩;(try have hle:=hle.trans hle2);(try have hf1:=hf1.up hle2);unfold KG;subst hjf;refine' RT;(intro p8 w1 hS);refine' zm;((refine Kt hS ?_;intro w1 hS;have hS:=hS.ns));refine' NA;refine' PM;intro b1 o1 cs1 x1 hat1 hx1 he1;((obtain ⟨vp1,vr1,vb1,rfl,hp1,hr1,hb1⟩:=QH he1));obtain rfl:j.f=x1:=Fm (hfn.symm.trans hx1);refine' Nt;refine' SP;refine' PM;intro b2 o2 cs2 x2 hat2 hx2 he2;((obtain ⟨vp2,vc2,ve21,ve22,ve23,ve24,ve25,rfl,hp2,hc2,he21,he22,he23,he24,he25⟩:=RJ he2));refine' NN;(intro p9 w1 hS);((refine Kt hS ?_;intro w1 hS;have hS:=hS.ns));refine' zn;obtain rfl:y=x2:=Fm (hy.symm.trans hx2);refine' NH;refine' Oh;refine zo [1,2,6,7,9,31,32] (fun A ρ' w'=>∃(k0:Cx) (i:Nat) (s:JS) (vl:Value) (css:List (List Value)),Kn ρ' A∧Kn ρ' [(33, .int .i64 i)]∧(c2.Le k0)∧(i≤y.code.length)∧(Nf m j.f q b y.fin 0 (MJ y) y.code=Nf m j.f q b y.fin i s (y.code.drop i))∧(j.Fits k0 m)∧(Ku.ls k0 css s.l)∧(JGood s)∧St k0 w' (blk p9 92 [.int .i64 y.regs,vp2,vc2, .int .i64 y.fin.op, .int .i64 y.fin.a, .int .i64 y.fin.yes.block,ve21,ve22, .int .i64 y.fin.no.block,ve23,ve24,ve25]::j.res s.h vl css::blk p6 29 [.int .i64 0, .int .i64 0]::L)) (fun ρ' _=>(y.code.length - iv (ρ' 33)).toNat) ?_ ?_
 · exact Cb
 rintro ρ w1 ⟨k0,i,s,vl,css,hA,hρ,hle2,hi,hdi,hj,hls,hg,hS⟩;obtain ⟨ρ,rfl⟩:=Kp hA hρ;have hL0:=hle2;(try have hle:=hle.trans hle2);(try have hc2:=hc2.up hle2);(try have he21:=he21.up hle2);(try have he22:=he22.up hle2);(try have he23:=he23.up hle2);(try have he24:=he24.up hle2);(try have he25:=he25.up hle2);refine' MH;refine' Ab<;>intro hc
 · skip
   (refine' L4;refine' KP;refine' zi;intro b3 o3 cs3 x3 hat3 hx3 he3;obtain ⟨vr3,va3,rfl,hr3,ha3⟩:=Nx he3;refine' NN;intro p11 w1 hS;refine' zm;refine Kt hS ?_;intro w1 hS;have hS:=hS.ns;refine' LN;refine zv hS ?_;refine' Kr (c:=eI (s:=s) (x:=x3) hm hg.n hg.h hj he3 hls hS fd);rintro v1 w1 ⟨rfl,c4,vl4,css4,hle2,hls4,hS⟩;have hS:=hS.ns;(try have hle:=hle.trans hle2);(try have hL0:=hL0.trans hle2);have hj:=hj.up hle2;have hg1:=QhO (f:=j.f) (x:=x3) hm hg;obtain ⟨s1,hs1⟩:∃s1,(KM m j.f s x3).2=s1:=⟨_,rfl⟩;rw [hs1] at hls4 hS hg1;refine' L6;first|(refine' QO)|(refine' QU)|(refine' Ad<;>intro hc));all_goals (refine' zn)
   all_goals
    first
    | (refine' Ki;refine' Lc;refine' MV;refine' Lg (c:=pD q b i Jo Jo Jo hS);rintro v1 w1 ⟨rfl,hS⟩;refine M9 [_,_] ?_;refine Kt hS ?_;intro w1 hS;have hS:=hS.ns;refine' zn;have hJ:Nf m j.f q b y.fin 0 (MJ y) y.code=((KM m j.f s x3).1,O2 q b i):=(by rw [hdi,Q1 hx3,qm Jo]);refine' zr;refine LF vw (Q2 (n:=2) Jk Jk (hS.blkAt fd) Jr Jr) ?_;(exact AR))
    | (refine' Kk;refine' Kx)
   refine' N1;(exact ⟨⟨_,i+1,s1,vl4,css4,zh,zh,hL0,Jo,by rw [hdi,Q1 hx3,ql Jo,hs1],hj,hls4,hg1,hS.sp⟩,Qj Jo⟩)
 · skip
   (refine' L8;refine' Na;refine' OV;refine' Kr (c:=eJ (s:=s) (x:=y.fin) hsf hfb Jo hg.h hj ⟨_,_,_,_,_,rfl,he21,he22,he23,he24,he25⟩ hls hS fd);rintro v1 w1 ⟨rfl,hS⟩;have hde:=qn (m:=m) (f:=j.f) (fi:=q) (bi:=b) (e:=y.fin) (s:=s) (i:=i) (l:=y.code) Jo;refine' L6;first|(refine' QO)|(refine' QU)|(refine' Ad<;>intro hc));all_goals (refine' zn)
   all_goals
    first
    | (refine' Ki;refine' Lc;refine' zm;refine' Kr (c:=pC q b Jo Jo hS);rintro v1 w1 ⟨rfl,hS⟩;refine M9 [_,_] ?_;refine Kt hS ?_;intro w1 hS;have hS:=hS.ns;refine' zn;have hJ:=hdi.trans (hde.trans (P9 Jo));refine' zr;refine LF vw (Q2 (n:=2) Jk Jk (hS.blkAt fd) Jr Jr) ?_;(exact AR))
    | (refine' Kk;refine' Kx)
   refine' Kv;refine L0 [_,_] ?_;refine Kt hS ?_;intro w1 hS;have hS:=hS.ns;refine' zn;have hJ:=hdi.trans (hde.trans (Sv _ _ (by rw [RW];omega)));refine' zr;refine LF vw (Q2 (n:=2) Jk Jk (hS.blkAt fd) Jr Jr) ?_;(exact AR)
theorem Ws (hm:m.Short)(hx:Ls.at cx cs m)(hS:St cx w L):
 Kf Tryz.prog xP [.agg ⟨cs⟩] w fun u w'=>u=KG m.runs∧St cx w' L:=by
 (have hx':=hx;obtain ⟨vf,rfl,hf1⟩:=NR hx;have hlf:=hf1.len;refine Kq Ko Tryz.func44 ?_;refine' KY;intro p1 w1 hS;refine Qd hS ?_;intro p2 w1 hS;refine' L5;refine' MU;refine' KE (c:=pG hm hx' hS);rintro v1 w1 ⟨rfl,hS⟩;unfold KG;refine Qd hS ?_;intro p3 w1 hS;refine Kt hS ?_;intro w1 hS;have hS:=hS.ns;refine' NA;first|(refine' QO)|(refine' QU)|(refine' Ad<;>intro hc));all_goals (refine' zn)
 all_goals
  first
  | (refine' Ki;refine' MU;refine Kt hS ?_;intro w1 hS;have hS:=hS.ns;refine' zn;have hJ:=uC (m:=m) Jo;refine' zr;refine LF vw (Q2 (n:=2) Jk Jk (hS.blkAt fd) Jr Jr) ?_;(exact BU))
  | (refine' Kk;refine' Kx)
 refine' Oe;have hF:m.fault.1=0:=Df;have hr0:=uD hF;have hlf8:=hm.1;refine' Uc;refine' Oh;refine MB hS [1,2,15,16] (fun A LL ρ' w'=>∃(q:Nat),Kn ρ' A∧Kn ρ' [(17, .int .i64 q)]∧(q≤m.funcs.length)∧(m.runs=OG m q (m.funcs.drop q))∧St cx w' (LL)) (fun ρ' _=>(m.funcs.length - iv (ρ' 17)).toNat) ?_ ?_
 · exact ⟨0,zh,zh,Jo,by rw [hr0];rfl,hS.sp⟩
 rintro ρ w1 ⟨q,hA,hρ,hq,hd,hS⟩;obtain ⟨ρ,rfl⟩:=Kp hA hρ;refine' MH;refine' Ab<;>intro hc
 · skip
   refine' L4;refine' KP;refine' zi;intro b1 o1 cs1 x1 hat1 hx1 he1;obtain ⟨vp1,vr1,vb1,rfl,hp1,hr1,hb1⟩:=QH he1;refine' NN;intro p5 w1 hS;refine' zm;refine Kt hS ?_;intro w1 hS;have hS:=hS.ns;refine' zn;have hsf:=hm.2 x1 (Fa hx1);have hbl:=hsf.2.2.1;refine' Mn;refine' Oh;refine MB hS [1,2,4,15,16,17,24] (fun A LL ρ' w'=>∃(b:Nat),Kn ρ' A∧Kn ρ' [(25, .int .i64 b)]∧(b≤x1.blocks.length)∧(QJ m x1 q 0 x1.blocks=QJ m x1 q b (x1.blocks.drop b))∧St cx w' (LL)) (fun ρ' _=>(x1.blocks.length - iv (ρ' 25)).toNat) ?_ ?_
   · exact Bb
   rintro ρ w1 ⟨b,hA,hρ,hb,hdb,hS⟩;obtain ⟨ρ,rfl⟩:=Kp hA hρ;refine' MH;refine' Ab<;>intro hc
   · skip
     (refine' Ub;obtain ⟨y,hy⟩:∃y,x1.blocks[b]?=some y:=⟨_,E7 Jo⟩;refine' LV;refine' KA;refine' MU;refine' MV;refine' Lg (c:=Wr hm hF hx1 hy hx' hS);rintro v1 w1 ⟨rfl,hS⟩;unfold KG;refine Qd hS ?_;intro p7 w1 hS;refine Kt hS ?_;intro w1 hS;have hS:=hS.ns;refine' NA;first|(refine' QO)|(refine' QU)|(refine' Ad<;>intro hc));all_goals (refine' zn)
     all_goals
      first
      | (refine' Ki;refine' MU;refine Kt hS ?_;intro w1 hS;have hS:=hS.ns;refine' zn;have hJ:=qo hd hx1 hdb hy rfl Jo;refine' zr;refine LF vw (Q2 (n:=2) Jk Jk (hS.blkAt fd) Jr Jr) ?_;(exact BU))
      | (refine' Kk;refine' Kx)
     refine' N1;(exact ⟨⟨b+1,zh,zh,Jo,VG hdb hy Jo,hS.sp⟩,Qj Jo⟩)
   · skip;refine' L8;refine' N1;(exact ⟨⟨q+1,zh,zh,Jo,VH hd hx1 hdb Jo,hS.sp⟩,Qj Jo⟩)
 · skip;refine' L8;refine' Kv;refine L0 [_,_] ?_;refine Kt hS ?_;intro w1 hS;have hS:=hS.ns;refine' zn;have hJ:=VI hd Jo;refine' zr;refine LF vw (Q2 (n:=2) Jk Jk (hS.blkAt fd) Jr Jr) ?_;(exact BU)
end
end Go.Proofs.YteflkifmgnpbhaaGreat
namespace Go.Lir
def Nh (m:Module)(inp:List Int)(fuel pages:Int):LX:=if m.runs.1≠0 then m.runs else if 200<inp.length∨fuel<0∨20000<fuel∨pages<0∨64<pages then (1, -1) else (0,0)
theorem vR (h:m.runs.1≠0):Nh m inp fuel pages=m.runs:=if_pos h
theorem vS (h:¬m.runs.1≠0)(hr:200<inp.length∨fuel<0∨20000<fuel∨pages<0∨64<pages):Nh m inp fuel pages=(1, -1):=(if_neg h).trans (if_pos hr)
theorem Wu (h:¬m.runs.1≠0)(hr:¬(200<inp.length∨fuel<0∨20000<fuel∨pages<0∨64<pages)):Nh m inp fuel pages=(0,0):=(if_neg h).trans (if_neg hr)
end Go.Lir
namespace Go.Proofs.YteflkifmgnpbhaaGreat
open Go.Lir
attribute [local irreducible] LC.wp Q0 Qs Qi KN QD LO.wp Q7 Calls
section
variable {cx:Cx}{w:World}{L:List Res}{m:Module}{inp:List Int}
@[reducible] def eL (ep fn lv iv:Value)(fuel:Int):RC:=⟨ep,fn,lv,iv,0, .slice none 0 0, .slice none 0 0,0,fuel,false⟩
@[reducible] def eM:RFV:=⟨0,0,0, .slice none 0 0,[]⟩
def R7 (m:Module)(inp:List Int)(fuel pages:Int)(cx:Cx)(L:List Res)(u:Value)(w':World):Prop:=
 ((Nh m inp fuel pages).1≠0∧u= .tuple #[.pointer none,KG (Nh m inp fuel pages)]∧St cx w' L)∨
 (Nh m inp fuel pages=(0,0)∧m.runs.1=0∧inp.length≤200∧0≤fuel∧fuel≤20000∧∃(q:Nat),pages=q∧q≤64∧∃c' p ep fn lv iv,u= .tuple #[.pointer (some ⟨p,0,none⟩),KG (0,0)]∧cx.Le c'∧KD.sl c' fn m.funcs∧Kh.sl c' iv inp∧St c' w' (rS p (eL ep fn lv iv fuel) [] eM (EstS.mk0 q) [] L))
theorem eN (hsh:m.Short)(hx:Ls.at cx cs m)(hi:Kh.sl cx v inp)(hS:St cx w L):
 Kf Tryz.prog X1 [.agg ⟨cs⟩,v, .int .i64 fuel, .int .i64 pages] w (R7 m inp fuel pages cx L):=by
 (have hle:=FV hS;have hx':=hx;obtain ⟨vf,rfl,hf⟩:=NR hx;have hil:=hi.len;unfold R7;refine Kq Ko Tryz.func35 ?_;refine' KY;intro p4 w1 hS;refine' zm;refine Qd hS ?_;intro p9 w1 hS;refine' L5;refine' MU;refine' KE (c:=Ws hsh hx' hS);rintro v1 w1 ⟨rfl,hS⟩;unfold KG;refine Qd hS ?_;intro p10 w1 hS;refine Kt hS ?_;intro w1 hS;have hS:=hS.ns;refine' NA;first|(refine' QO)|(refine' QU)|(refine' Ad<;>intro hc));all_goals (refine' zn)
 all_goals
  first
  | (refine' Ki;refine QA ?_;refine zD (ci 3 [2]) ?_;have hS:=hS.drew;refine' Ud;((refine Kt hS ?_;intro w1 hS;have hS:=hS.ns));refine' Lz;refine OJ vw vw (Q2 (n:=2) Jk Jk (hS.blkAt fd) Jr Jr) ?_;(exact Bt))
  | (refine' Kk;refine' Kx)
 (((((refine' Na;refine' zL;first|(refine' QV)|(refine' QW)|(refine' Af<;>intro hc));all_goals (refine' Lv;first|refine' Kj|(refine' Kl;(first|(refine' KX)|(refine' K1)|(refine' Ae<;>intro hc)))));all_goals (refine' PQ;first|refine' Kj|(refine' Kl;(first|(refine' QV)|(refine' QW)|(refine' Af<;>intro hc)))));all_goals (refine' PQ;first|refine' Kj|(refine' Kl;(first|(refine' KX)|(refine' K1)|(refine' Ae<;>intro hc)))));all_goals (refine' PQ;first|refine' Kj|(refine' Kl;(first|(refine' QV)|(refine' QW)|(refine' Af<;>intro hc)))));all_goals (refine' Ll)
 all_goals
  first
  | (refine' Ki;all_goals (refine' Kv;refine M9 [_,_] ?_;refine' zm;refine Kt hS ?_;intro w1 hS;have hS:=hS.ns;refine' Lz;refine OJ vw vw (Q2 (n:=2) Jk Jk (hS.blkAt fd) Jr Jr) ?_);all_goals ((first|exact Bt|exact Cj)))
  | (refine' Kk;refine' Kx)
 refine' KP;refine' KE (c:=cp pages hS);rintro v1 w1 (⟨hbad, -, -⟩|⟨q,bq,hq,hq64,rfl,hS⟩);exact absurd hbad Jo;refine' RT;intro p12 w1 hS;refine' zm;refine Kt hS ?_;intro w1 hS;have hS:=hS.ns;refine' LN;refine zv hS ?_;refine' KE (c:=gv hsh hx' hS);rintro v1 w1 ⟨c1,ds,rfl,hle1,hx1,hS⟩;obtain ⟨vf1,rfl,hf1⟩:=NR hx1;have hi:=Gc hi hle1;obtain ⟨af,nf,rfl⟩:=Fx hf1;refine L0 [_,_,_,_] ?_;refine K8 hS [_,_,_,_] ?_;intro b1 w1 hS;have hS:=Gh (T:=138) (es:=4) (css:=[[.int .i64 0, .int .i64 0, .int .i64 0, .slice none 0 0]]) hS rfl Js rfl;refine' zm;refine' KE (c:=kt Jo hi hS);rintro vi w1 ⟨c2,hle2,hi2,hS⟩;have hf1:=Gc hf1 hle2;obtain ⟨ai,ni,rfl⟩:=Fx hi2;refine' zm;refine iK [_,_,_,_,_,_,_,_,_,_] ?_;refine zb hS ?_;intro p53 w1 hS;refine L0 [_,_] ?_;refine' zm;refine Kt hS ?_;intro w1 hS;have hS:=hS.ns;refine' Lz;refine OJ vw vw (Q2 (n:=2) Jk Jk (hS.blkAt fd) Jr Jr) ?_;((first|exact Bt|exact Cj|(have hS:=Ie RFV.res (Hp (T:=2) (es:=1) (Hp (T:=2) (es:=1) hS));exact ⟨_,rfl, .inr ⟨Wu Jo Jo,Jo,Jo,Jo,Jo,q,hq,hq64,c2,_,_,_,_,_,rfl,hle1.trans hle2,hf1,hi2,hS.sp⟩⟩)))
end
section
variable {cx:Cx}{w:World}{L:List Res}{p:Nat}{c:RC}{fr:List RFV}{g:RFV}{s:EstS}{out inp back:List Int}{m:Module}
theorem QR.first {q:Nat}{ep lv iv:Value}(hR:m.runs.1=0)(hsh:m.Short)(h0:0≤fuel)(hq:q≤64):QR m fuel.toNat (eL ep fn lv iv fuel) [] eM (EstS.mk0 q) inp [] [] (.on (MS.start inp q)):=
 ⟨Y8 hq,rfl,rfl,rfl,rfl,FZ _,(FO h0).symm,IT (SG hR) inp q,Qfx hR hsh inp q⟩
theorem QR.on {most:Nat}{r:Run}(hQ:QR m most c fr g s inp out back r)(hdn:c.dn=false):∃ms,r= .on ms∧ms.fuel≤most:=by
 cases r with
 | on ms=>obtain ⟨-, -, -, -, -,h, -⟩:=hQ;exact ⟨ms,rfl,h⟩
 | over ms e b=>obtain ⟨-, -,h, -⟩:=hQ;rw [hdn] at h;cases h
 | stuck f=>exact hQ.elim
theorem QR.fin (hQ:QR m most c fr g s inp out back r)(hA:RA m most a r)(hdn:c.dn=true):a.oc=⟨c.e,back,out,c.fu⟩∧out.length≤2000∧back.length≤100000:=by
 cases r with
 | on ms=>obtain ⟨-, -,h, -⟩:=hQ;rw [hdn] at h;cases h
 | over ms e b=>
   obtain ⟨h1,h2, -,h4,h5,h6,h7, -⟩:=hQ;have hA:a= .over ms e b:=hA;refine ⟨?_,h6,h7⟩;rw [hA,h1,h2,h4,h5];rfl
 | stuck f=>exact hQ.elim
theorem Wv:Kh.ls cx (l.map Qr) l:=
 ⟨by simp,fun k x hx=>⟨[.int .i64 x],by rw [Fy,hx];rfl,rfl⟩⟩
def R8 (m:Module)(inp:List Int)(fuel pages:Int)(cx:Cx)(L:List Res)(u:Value)(w':World):Prop:=
 ((Nh m inp fuel pages).1≠0∧u= .tuple #[.agg ⟨[.int .i64 0, .slice none 0 0, .slice none 0 0, .int .i64 0]⟩,KG (Nh m inp fuel pages)]∧St cx w' L)∨
 (Nh m inp fuel pages=(0,0)∧m.runs.1=0∧∃c' v1 v2,cx.Le c'∧u= .tuple #[mq (Run.all m inp fuel.toNat pages).oc v1 v2,KG (0,0)]∧Kh.sl c' v1 (Run.all m inp fuel.toNat pages).oc.back∧Kh.sl c' v2 (Run.all m inp fuel.toNat pages).oc.out∧St c' w' L)
attribute [local irreducible] QR RA Run.all Run.oc
theorem R7.split (h:R7 m inp fuel pages cx L u w):((Nh m inp fuel pages).1≠0∧u= .tuple #[.pointer none,KG (Nh m inp fuel pages)]∧St cx w L)∨
 (Nh m inp fuel pages=(0,0)∧m.runs.1=0∧inp.length≤200∧0≤fuel∧fuel≤20000∧∃(q:Nat),pages=q∧q≤64∧∃c' p ep fn lv iv,u= .tuple #[.pointer (some ⟨p,0,none⟩),KG (0,0)]∧cx.Le c'∧KD.sl c' fn m.funcs∧Kh.sl c' iv inp∧St c' w (rS p (eL ep fn lv iv fuel) [] eM (EstS.mk0 q) [] L)):=h
end
section
def H1:HT:=⟨182,278,131,46⟩
structure GZ where
 fn:Value
 fv:Value
 iv:Value
 e:Int
 bv:Value
 ov:Value
 fu:Int
 mo:Int
 dn:Bool
 c:Int
 a:Int
@[reducible] def Pc (z:GZ)(b:Nat)(lv:Value)(left:Int):Res:=blk b 49 [z.fn,lv, .int .i64 left,z.fv,z.iv, .int .i64 z.e,z.bv,z.ov, .int .i64 z.fu, .int .i64 z.mo, .bool z.dn, .int .i64 z.c, .int .i64 z.a]
abbrev kI (z:GZ)(b:Nat)(lv:Value)(left:Int)(rv:List RgnV)(L:List Res):List Res:=Pc z b lv left::sl 131 4 lv (rv.map RgnV.cells)::K3 (RgnV.res H1) rv::L
def vV (z:GZ)(N:Nat)(h:Value)(s:HpS):Res:=Res.ex fun x:Nat×Value×List RgnV=>Res.pure (h= .pointer (some ⟨x.1,1,none⟩)∧HpO N s x.2.2) (Ri [Pc z x.1 x.2.1 s.left,sl 131 4 x.2.1 (x.2.2.map RgnV.cells),K3 (RgnV.res H1) x.2.2])
variable {z:GZ}{cx:Cx}{w:World}{L:List Res}{i:Nat}{N:Nat}{h:Value}{s:HpS}
theorem Qdh (hS:St cx w (vV z N h s::L)):∃b lv rv,h= .pointer (some ⟨b,1,none⟩)∧HpO N s rv∧St cx w (kI z b lv s.left rv L):=by
 obtain ⟨⟨b,lv,rv⟩,h⟩:=hS.ex;obtain ⟨⟨h0,h1⟩,h2⟩:=h.pure;exact ⟨b,lv,rv,h0,h1,h2.list⟩
variable {b:Nat}{lv:Value}{left:Int}{rv:List RgnV}
end
section
variable {z:GZ}{cx:Cx}{w:World}{L:List Res}{i:Nat}{N:Nat}{h:Value}{s:HpS}
end
end Go.Proofs.YteflkifmgnpbhaaGreat
namespace Go.Lir
theorem Zv {k:Int}(h:g.num k=some n):∃v∈g.vals,v.n=n:=by
 unfold Frm.num Frm.val at h;split at h
 · cases h
 · rename_i v hv
   split at hv
   · cases hv
   · split at h
     · exact ⟨v,Fa hv,Fm h⟩
     · cases h
end Go.Lir
namespace Go.Proofs.YteflkifmgnpbhaaGreat
open Go.Lir
attribute [local irreducible] LC.wp Q0 Qs Qi KN QD LO.wp Q7 Calls
def FrmV.res1 (x:FrmV):Res:=star (sl 182 4 x.vv (x.vals.map Val.cells)) (sl 3 1 x.rv (QK x.regs))
@[reducible] def gL (p:Nat)(z:GZ)(lv:Value)(left:Int)(fr:List FrmV)(g:FrmV)(L:List Res):List Res:=Pc z p lv left::sl 119 5 z.fv (Oq fr g)::sl 182 4 g.vv (g.vals.map Val.cells)::sl 3 1 g.rv (QK g.regs)::K3 FrmV.res1 fr::L
@[reducible] def GZ.end (z:GZ)(e:Int):GZ:=⟨z.fn,z.fv,z.iv,e,z.bv,z.ov,z.fu,z.mo,true,z.c,z.a⟩
variable {cx:Cx}{w:World}{L:List Res}{p:Nat}{z:GZ}{fr:List FrmV}{g:FrmV}{lv:Value}{left:Int}
attribute [local irreducible] Frm.val Frm.num Frm.args Frm.rgs Frm.reg
end Go.Proofs.YteflkifmgnpbhaaGreat
namespace Go.Lir
end Go.Lir
namespace Go.Proofs.YteflkifmgnpbhaaGreat
open Go.Lir
attribute [local irreducible] LC.wp Q0 Qs Qi KN QD LO.wp Q7 Calls
variable {cx:Cx}{w:World}{L:List Res}{p:Nat}{z:GZ}{fr:List FrmV}{g:FrmV}{lv:Value}{left:Int}
attribute [local irreducible] Frm.val Frm.num Frm.args Frm.rgs Frm.reg
end Go.Proofs.YteflkifmgnpbhaaGreat
namespace Go.Lir
section
theorem St.lent {c:Cx}{r:Res}(h:St c w (r::L)):∃c' F,c.Le c'∧St c' w L∧r.A c'.H0 F∧(∀b,F b→c'.K b)∧∀{w':World}{L':List Res},St c' w' L'→St c w' (r::L'):=by
 obtain ⟨ok,F,⟨F1,F2,h1,h2,h3,h4⟩,hd⟩:=h;have hle:c.Le ⟨c.base,fun b=>c.K b∨F1 b,w.heap⟩:=⟨rfl,fun b hb=>⟨.inl hb,ok.same b hb⟩,ok.size,ok.lt⟩;refine ⟨⟨c.base,fun b=>c.K b∨F1 b,w.heap⟩,F1,hle,⟨⟨ok.os,ok.tape,ok.output,FE _,fun b hb=>hb.elim (fun hb=>G7 (ok.lt b hb) ok.size) (r.lt h1 b),fun b _=>rfl⟩,F2,h2,?_⟩,h1,fun b hb=> .inr hb,?_⟩
 · rintro b hb (hk|hk)
   · exact hd b ((h4 b).2 (.inr hb)) hk
   · exact h3 b hk hb
 · intro w' L' hS
   have hw:=hS.weak hle;obtain ⟨ok',F',hF',hd'⟩:=hS;refine ⟨hw.1,fun b=>F1 b∨F' b,⟨F1,F',r.loc h1 fun b hb _=>ok'.same b (.inr hb),hF',fun b hb hb'=>hd' b hb' (.inr hb),fun b=>Hl⟩,?_⟩;rintro b (hb|hb) hk
   · exact hd b ((h4 b).2 (.inl hb)) hk
   · exact hd' b hb (.inl hk)
end
section
end
end Go.Lir
namespace Go.Proofs.YteflkifmgnpbhaaGreat
open Go.Lir
attribute [local irreducible] LC.wp Q0 Qs Qi KN QD LO.wp Q7 Calls
@[reducible] def gX (p:Nat)(z:GZ)(fr:List FrmV)(g:FrmV)(N:Nat)(h:HpS)(out:List Int)(L:List Res):List Res:=vV z N (.pointer (some ⟨p,1,none⟩)) h::sl 119 5 z.fv (Oq fr g)::sl 182 4 g.vv (g.vals.map Val.cells)::sl 3 1 g.rv (QK g.regs)::K3 FrmV.res1 fr::sl 2 1 z.ov (QK out)::L
variable {cx:Cx}{w:World}{L:List Res}{p N:Nat}{z:GZ}{fr:List FrmV}{g:FrmV}{h:HpS}{out:List Int}
theorem Zw (hS:St cx w (gX p z fr g N h out L)):∃lv rv,HpO N h rv∧St cx w (gL p z lv h.left fr g (sl 131 4 lv (rv.map RgnV.cells)::K3 (RgnV.res H1) rv::sl 2 1 z.ov (QK out)::L)):=by
 obtain ⟨b,lv,rv,he,ho,hS⟩:=Qdh hS;cases he;exact ⟨lv,rv,ho,(hS.subP Dn)⟩
attribute [local irreducible] Frm.val Frm.num Frm.args Frm.rgs Frm.reg
end Go.Proofs.YteflkifmgnpbhaaGreat
namespace Go.Lir
section
variable {m:Module}{s:MS}{x:Ins}
end
end Go.Lir
namespace Go.Proofs.YteflkifmgnpbhaaGreat
open Go.Lir
attribute [local irreducible] LC.wp Q0 Qs Qi KN QD LO.wp Q7 Calls
section
variable {cx:Cx}{w:World}{L:List Res}{p N:Nat}{z:GZ}{fr:List FrmV}{g:FrmV}{h:HpS}{out inp:List Int}{fu:Nat}
@[reducible] def GZ.upd (z:GZ)(fv iv ov:Value):GZ:=⟨z.fn,fv,iv,z.e,z.bv,ov,z.fu,z.mo,z.dn,z.c,z.a⟩
@[reducible] def GZ.bk (z:GZ)(bv:Value):GZ:=⟨z.fn,z.fv,z.iv,z.e,bv,z.ov,z.fu,z.mo,z.dn,z.c,z.a⟩
def GQ (p:Nat)(z:GZ)(N fu:Nat)(h:HpS)(out:List Int)(X:Stp)(cx:Cx)(L:List Res)(u:Value)(w':World):Prop:=
 (∃fv iv ov fr' g' N' h' inp' out',X= .go (Km h' g' fr' inp' out' fu)∧Kh.sl cx iv inp'∧N'≤N+1∧u= .int .i64 0∧St cx w' (gX p (z.upd fv iv ov) fr' g' N' h' out' L))
 ∨(∃e fr' g' N',X= .halt e∧N'≤N+1∧u= .int .i64 1∧St cx w' (gX p (z.end e) fr' g' N' h out L))
 ∨(∃l bv fr' g' N',X= .done l∧N'≤N+1∧l.length≤100000∧u= .int .i64 1∧St cx w' (gX p ((z.bk bv).end 0) fr' g' N' h out (sl 2 1 bv (QK l)::L)))
 ∨(X= .lost∧u= .int .i64 2∧∃lv left,St cx w' (Pc z p lv left::L))
theorem Zx (hS:St cx w (gX p z fr g N h out L)):∃lv left,St cx w (Pc z p lv left::L):=by
 obtain ⟨lv,rv,ho,hS⟩:=Zw hS;exact ⟨lv,_,hS.sp⟩
theorem GQ.lost {L':List Res}(hX:X= .lost)(hS:St cx w (gX p z fr g N2 h2 out2 L'))(hsub:∀lv left,St cx w (Pc z p lv left::L')→St cx w (Pc z p lv left::L)):GQ p z N fu h out X cx L (.int .i64 2) w:=by
 obtain ⟨lv,left,hS⟩:=Zx hS;exact .inr (.inr (.inr ⟨hX,rfl,lv,left,hsub _ _ hS⟩))
end
section
variable {cx:Cx}{w:World}{L:List Res}{p N:Nat}{z:GZ}{fr:List FrmV}{g:FrmV}{h:HpS}{out inp:List Int}{fu:Nat}{m:Module}
theorem GQ.go {h':HpS}{out':List Int}(hX:X= .go (Km h' g' fr' inp out' fu))(hi:Kh.sl cx z.iv inp)(hN:N'≤N+1)(hu:u= .int .i64 0)(hS:St cx w (gX p z fr' g' N' h' out' L)):GQ p z N fu h out X cx L u w:=
 .inl ⟨z.fv,z.iv,z.ov,fr',g',N',h',inp,out',hX,hi,hN,hu,hS⟩
theorem GQ.halt (hX:X= .halt e)(hN:N'≤N+1)(hu:u= .int .i64 1)(hS:St cx w (gX p (z.end e) fr' g' N' h out L)):GQ p z N fu h out X cx L u w:=
 .inr (.inl ⟨e,fr',g',N',hX,hN,hu,hS⟩)
attribute [local irreducible] Frm.val Frm.num Frm.args Frm.rgs Frm.reg KF MS.ins MS.call HpS.get HpS.set HpS.setC HpS.len HpS.code HpS.put HpS.putV HpS.open HpS.shut HpS.full HpS.openV HpS.can HpS.tuple HpS.arr HpS.arrC HpS.arrV NB L9
end
end Go.Proofs.YteflkifmgnpbhaaGreat
namespace Go.Lir
def Nq (n:Int):Prop:=-9223372036854775808≤n∧n≤9223372036854775807
theorem kJ (n:Int):wr n=if n % 18446744073709551616≥9223372036854775808 then n % 18446744073709551616 - 18446744073709551616 else n % 18446744073709551616:=by
 unfold wr IntKind.wrap;simp [IntKind.bits,IntKind.signed]
theorem qX (n:Int):Nq (wr n):=by
 unfold Nq;rw [kJ];split<;>omega
theorem eO (k a b:Int):Nq (NB k a b).1:=by
 have h0:Nq 0:=(by unfold Nq;omega);have h1:Nq 1:=by unfold Nq;omega
 have hd:Nq (O0 a b).1:=by
  unfold O0;split
  · exact h0
  · split<;>exact qX _
 unfold NB
 repeat' split
 all_goals first|exact qX _|exact h0|exact h1|exact hd|(unfold PA;exact qX _)|(simp;done)
end Go.Lir
namespace Go.Proofs.YteflkifmgnpbhaaGreat
open Go.Lir
attribute [local irreducible] LC.wp Q0 Qs Qi KN QD LO.wp Q7 Calls
end Go.Proofs.YteflkifmgnpbhaaGreat
namespace Go.Lir
section
variable {m:Module}{s:MS}{x:Ins}
end
end Go.Lir
namespace Go.Proofs.YteflkifmgnpbhaaGreat
open Go.Lir
attribute [local irreducible] LC.wp Q0 Qs Qi KN QD LO.wp Q7 Calls
section
variable {cx:Cx}{w:World}{L:List Res}{p N:Nat}{z:GZ}{fr:List FrmV}{g:FrmV}{h:HpS}{out inp:List Int}{fu:Nat}{m:Module}
attribute [local irreducible] Frm.val Frm.num Frm.args Frm.rgs Frm.reg KF MS.ins MS.call HpS.get HpS.set HpS.setC HpS.len HpS.code HpS.put HpS.putV HpS.open HpS.shut HpS.full HpS.openV HpS.can HpS.tuple HpS.arr HpS.arrC HpS.arrV NB L9
end
section
variable {cx:Cx}{w:World}{L:List Res}{p N:Nat}{z:GZ}{fr:List FrmV}{g:FrmV}{h:HpS}{out inp:List Int}{fu:Nat}{m:Module}
@[reducible] def FrmV.fb (g:FrmV)(b:Nat):FrmV:=⟨g.f,b,g.i,g.vv,g.vals,g.rv,g.regs⟩
@[reducible] def FrmV.fi (g:FrmV)(i:Nat):FrmV:=⟨g.f,g.b,i,g.vv,g.vals,g.rv,g.regs⟩
@[reducible] def FrmV.fv (g:FrmV)(v:Value)(l:List Val):FrmV:=⟨g.f,g.b,g.i,v,l,g.rv,g.regs⟩
attribute [local irreducible] Frm.val Frm.num Frm.args Frm.rgs Frm.reg
end
end Go.Proofs.YteflkifmgnpbhaaGreat
namespace Go.Lir
end Go.Lir
namespace Go.Proofs.YteflkifmgnpbhaaGreat
open Go.Lir
attribute [local irreducible] LC.wp Q0 Qs Qi KN QD LO.wp Q7 Calls
section
variable {cx:Cx}{w:World}{L:List Res}{p N:Nat}{z:GZ}{fr:List FrmV}{g:FrmV}{h:HpS}{out inp:List Int}{fu:Nat}{m:Module}
theorem GQ.drop {r:Res}(hG:GQ p z N fu h out X cx (r::L) u w):GQ p z N fu h out X cx L u w:=by
 rcases hG with ⟨fv,iv,ov,fr',g',N',h',inp',out',h1,h2,h3,h4,hS⟩|⟨e,fr',g',N',h1,h2,h3,hS⟩|⟨l,bv,fr',g',N',h1,h2,h3,h4,hS⟩|⟨h1,h2,lv,left,hS⟩
 · exact .inl ⟨fv,iv,ov,fr',g',N',h',inp',out',h1,h2,h3,h4,hS.sp⟩
 · exact .inr (.inl ⟨e,fr',g',N',h1,h2,h3,hS.sp⟩)
 · exact .inr (.inr (.inl ⟨l,bv,fr',g',N',h1,h2,h3,h4,hS.sp⟩))
 · exact .inr (.inr (.inr ⟨h1,h2,lv,left,hS.sp⟩))
attribute [local irreducible] Frm.val Frm.num Frm.args Frm.rgs Frm.reg KF MS.to MS.ret GQ
end
section
variable {cx:Cx}{w:World}{L:List Res}{p N:Nat}{z:GZ}{fr:List FrmV}{g:FrmV}{h:HpS}{out inp:List Int}{fu:Nat}{m:Module}
attribute [local irreducible] Frm.val Frm.num Frm.args Frm.rgs Frm.reg KF MS.to MS.ret GQ
end
section
variable {cx:Cx}{w:World}{L:List Res}{p N:Nat}{z:GZ}{fr:List FrmV}{g:FrmV}{h:HpS}{out inp:List Int}{fu:Nat}{m:Module}
@[reducible] def GZ.tick (z:GZ):GZ:=⟨z.fn,z.fv,z.iv,z.e,z.bv,z.ov,z.fu+1,z.mo,z.dn,z.c,z.a⟩
@[reducible] def GZ.stk (z:GZ)(c a:Int):GZ:=⟨z.fn,z.fv,z.iv,z.e,z.bv,z.ov,z.fu,z.mo,z.dn,c,a⟩
def GSt (p:Nat)(z:GZ)(N fu most:Nat)(h:HpS)(out:List Int)(X:Stp)(at_:Int)(fr:List FrmV)(g:FrmV)(cx:Cx)(L:List Res)(u:Value)(w':World):Prop:=
 (fu=most∧u=KG (0,0)∧St cx w' (gX p (z.end 7) fr g N h out L))
 ∨(fu≠most∧u=KG (0,0)∧∃k,k≠2∧GQ p z.tick N (fu+1) h out X cx L (.int .i64 k) w')
 ∨(fu≠most∧X= .lost∧u=KG (20,at_)∧∃lv left,St cx w' (Pc (z.tick.stk 20 at_) p lv left::L))
attribute [local irreducible] Frm.val Frm.num Frm.args Frm.rgs Frm.reg KF MS.ins MS.fin MS.one MS.place
end
end Go.Proofs.YteflkifmgnpbhaaGreat
namespace Go.Lir
section
def qY (c:BitVec 32):List UInt8:=[UInt8.ofNat c.toNat,UInt8.ofNat (c >>> 8).toNat,UInt8.ofNat (c >>> 16).toNat,UInt8.ofNat (c >>> 24).toNat]
def Module.enc (m:Module):List UInt8:=m.body++qY (ky m.body)
end
section
section
variable {bs:List UInt8}{at0 i u:Nat}{x:UInt8}{X:gw Nat}
end
end
section
section
variable {α:Type}
variable {f:List UInt8→gw α}{N k n0:Nat}{n:Int}{xs:List α}{r r1 r2 r3:List UInt8}{a:α}{e:LX}{X:gw (List α)}
end
end
section
section
variable {bs r:List UInt8}{N:Nat}{e:LX}{l:List Fun}
end
end
section
section
variable {α β:Type}{M n:Nat}
def Ww (M:Nat)(f:List UInt8→gw α)(p:α→Prop):Prop:=∀r x r',r.length≤M→f r= .ok (x,r')→p x∧r'.length≤r.length
theorem Ww.weak {f:List UInt8→gw α}{p q:α→Prop}(h:Ww M f p)(hq:∀x,p x→q x):Ww M f q:=fun r x r' h1 h2=>⟨hq x (h r x r' h1 h2).1,(h r x r' h1 h2).2⟩
end
end
section
section
variable {n:Nat}{r r1 r2 r3 r4:List UInt8}{e:LX}{op a:Int}{yes no:To}{l:List Int}
variable {h j:Nat}{x:Int×Int×Int×Int}{y:Int}{X:gw (Int×Int×Int×Int)}
end
end
section
section
variable {α:Type}{n:Nat}
def NU (x:Int):Prop:=-9223372036854775808≤x∧x≤9223372036854775807
def mw (l:List Int):Prop:=l.length≤9000000000000000000∧∀x∈l,NU x
def ToOK (t:To):Prop:=NU t.block∧mw t.regs∧mw t.args
def Qel (x:Ins):Prop:=(NU x.op∧NU x.a∧NU x.b∧NU x.c∧NU x.k∧NU x.n)∧((¬Ta x.op / 2 ^ 0 % 2=1→x.a=0)∧(¬Ta x.op / 2 ^ 1 % 2=1→x.b=0)∧(¬Ta x.op / 2 ^ 2 % 2=1→x.c=0)∧(¬Ta x.op / 2 ^ 3 % 2=1→x.k=0))∧
 (¬Ta x.op / 64 % 2=1→x.n=0)∧(¬Ta x.op / 16 % 2=1→x.regs=[])∧(¬Ta x.op / 32 % 2=1→x.args=[])∧mw x.regs∧mw x.args
end
end
section
variable {α:Type}
def Rep.an (r:Rep α)(p:α→Prop):Rep α where
 es:=r.es
 pos:=r.pos
 R:=fun H K cs x=>r.R H K cs x∧p x
 len:=fun h=>r.len h.1
 one:=fun h=>r.one h.1
 turn:=fun h hs=>⟨r.turn h.1 hs,h.2⟩
def To.InR (t:To):Prop:=NU t.block∧(∀n∈t.regs,NU n)∧∀n∈t.args,NU n
def Ins.InR (x:Ins):Prop:=(NU x.op∧NU x.a∧NU x.b∧NU x.c∧NU x.k∧NU x.n)∧(∀n∈x.regs,NU n)∧∀n∈x.args,NU n
def Tail.InR (x:Tail):Prop:=NU x.op∧NU x.a∧x.yes.InR∧x.no.InR∧∀n∈x.args,NU n
def Block.InR (x:Block):Prop:=NU x.regs∧(∀t∈x.params,t.InR)∧(∀i∈x.code,i.InR)∧x.fin.InR
def Fun.InR (x:Fun):Prop:=NU x.regs∧(∀t∈x.params,t.InR)∧(∀t∈x.results,t.InR)∧∀b∈x.blocks,b.InR
def Module.InR (m:Module):Prop:=∀f∈m.funcs,f.InR
section
variable {P:Program}{T e:TypeId}
end
theorem my (h:m.Few):m.Short:=by
 refine ⟨by have:=h.1;omega,fun f hf=>?_⟩;obtain ⟨h1,h2,h3,h4⟩:=h.2 f hf;refine ⟨HU h1,HU h2,Jo,fun b hb=>?_⟩;obtain ⟨g1,g2,g3,⟨⟨g4,g5⟩,⟨g6,g7⟩,g8⟩⟩:=h4 b hb;exact ⟨HU g1,Jo,fun x hx=>⟨by have:=(g3 x hx).1;omega,by have:=(g3 x hx).2;omega⟩,⟨Jo,Jo⟩,⟨Jo,Jo⟩,Jo⟩
end
section
def VR (l:List Val):Prop:=∀v∈l,Nq v.n
def TR (t:Thg):Prop:=t.l.length≤1000∧VR t.l
def RR (r:Rgn):Prop:=∀t∈r.l,TR t
def HR (h:HpS):Prop:=∀r∈h.l,RR r
structure Rg (s:MS):Prop where
 g:VR s.g.vals
 st:∀x∈s.st,VR x.vals
 h:HR s.h
 inp:∀n∈s.inp,Nq n
theorem aJ:Nq 0:=by unfold Nq;omega
theorem eP {n:Nat}(h:n≤1000):Nq n:=by unfold Nq;omega
theorem VR.nil:VR []:=fun v hv=>by cases hv
theorem VR.one {v:Val}(h:Nq v.n):VR [v]:=fun u hu=>by rw [F7.1 hu];exact h
theorem VR.app {a b:List Val}(ha:VR a)(hb:VR b):VR (a++b):=fun v hv=>(FC.1 hv).elim (ha v) (hb v)
theorem RR.none:RR Rgn.none:=fun t ht=>by cases ht
abbrev JF:=@RR.none
theorem TR.dflt:TR ⟨false,[]⟩:=⟨FZ _,VR.nil⟩
theorem val_in {k:Int}{v:Val}(hg:VR g.vals)(h:g.val k=some v):Nq v.n:=by
 unfold Frm.val at h;split at h
 · cases h
 · exact hg v (Fa h)
theorem eQ {k:Int}(hg:VR g.vals)(h:g.num k=some n):Nq n:=by
 obtain ⟨v,hv,rfl⟩:=Zv h;exact hg v hv
theorem kK {g:Frm}(hg:VR g.vals):∀{l:List Int}{vs:List Val},g.args l=some vs→VR vs
 | [],vs,h=>by rw [Frm.args] at h;cases h;exact VR.nil
 | k ::l,vs,h=>by
   rw [Frm.args] at h
   cases hv:g.val k with
   | none=>rw [hv] at h;cases h
   | some v=>
     rw [hv] at h
     cases hl:g.args l with
     | none=>rw [hl] at h;cases h
     | some us=>
       rw [hl] at h;cases h;intro u hu;rcases FA.1 hu with rfl|hu
       · exact val_in hg hv
       · exact kK hg hl u hu
theorem qZ {α:Type}{P:α→Prop}{l:List α}{k:Nat}{d:α}(h:∀x∈l,P x)(hd:P d):P (l.getD k d):=by
 rw [E9]
 cases hk:l[k]? with
 | none=>exact hd
 | some x=>exact h x (Fa hk)
theorem HR.reg (hh:HR h)(k:Int):RR (h.reg k):=by
 unfold HpS.reg;split
 · exact qZ (P:=RR) hh JF
 · exact JF
theorem HR.thg (hh:HR h)(k t:Nat):TR (h.thg k t):=qZ (P:=TR) (hh.reg k) TR.dflt
theorem HR.upd {l:List Rgn}{k:Nat}{r:Rgn}{a:Int}(hh:HR ⟨l,a⟩)(hr:RR r):HR ⟨l.set k r,b⟩:=fun q hq=>by
 rcases Ld hq with rfl|hq
 · exact hr
 · exact hh q hq
theorem HR.open (hh:HR h):HR h.open:=by
 unfold HpS.open;split
 · exact hh
 · intro r hr
   rcases FC.1 hr with hr|hr
   · exact hh r hr
   · rw [F7.1 hr];exact JF
theorem Wx:Nq h.openV.n:=by
 unfold HpS.openV;split<;>exact aJ
theorem HR.shut (hh:HR h)(v:Val):HR (h.shut v):=by
 unfold HpS.shut;split
 · exact HR.upd (a:=h.left) hh JF
 · exact hh
theorem HR.put (hh:HR h)(v:Val)(n:Int){t:Thg}(ht:TR t):HR (h.put v n t):=by
 unfold HpS.put;split
 · refine HR.upd (a:=h.left) hh fun u hu=>?_
   have hl:(((h.reg v.region).room n).push t).l=(h.reg v.region).l++[t]:=(by unfold Rgn.room;split<;>rfl);rw [hl] at hu;rcases FC.1 hu with hu|hu
   · exact hh.reg _ u hu
   · rw [F7.1 hu];exact ht
 · exact hh
theorem vW {v:Val}{k:Int}:Nq (h.putV v k n).n:=by
 unfold HpS.putV;split<;>exact aJ
theorem HR.arr (hh:HR h)(v:Val)(n:Int):HR (h.arr v n):=by
 unfold HpS.arr;split
 · exact hh
 · refine hh.put v _ ⟨?_,fun u hu=>?_⟩
   · show (List.replicate _ _).length≤1000;rw [F6];omega
   · rw [Gs hu];exact aJ
theorem Zy {v:Val}:Nq (h.arrV v n).n:=by
 unfold HpS.arrV;split
 · exact aJ
 · exact vW
theorem Wy (hh:HR h)(v:Val)(k:Int):Nq (h.get v k).1.n:=by
 unfold HpS.get;split
 · exact aJ
 · split
   · exact qZ (P:=fun v:Val=>Nq v.n) (hh.thg _ _).2 aJ
   · exact aJ
theorem eR (hh:HR h)(v:Val):Nq (h.len v).1:=by
 unfold HpS.len;split
 · exact aJ
 · exact eP (hh.thg _ _).1
theorem HR.set (hh:HR h)(v:Val)(k:Int){x:Val}(hx:Nq x.n):HR (h.set v k x):=by
 unfold HpS.set;split
 · exact hh
 · rename_i r t _
   split
   · refine HR.upd (a:=h.left) hh fun u hu=>?_
     rcases Ld hu with rfl|hu
     · refine ⟨by show ((h.thg r t).l.set _ _).length≤_;rw [FL];exact (hh.thg r t).1,fun y hy=>?_⟩
       rcases Ld hy with rfl|hy
       · exact hx
       · exact (hh.thg r t).2 y hy
     · exact hh.reg _ u hu
   · exact hh
section
variable {m:Module}{s:MS}
theorem Rg.put (h:Rg s){vs:List Val}(hv:VR vs):Rg (s.put vs):=⟨h.g.app hv,h.st,h.h,h.inp⟩
theorem Rg.hp (h:Rg s)(hq:HR q):Rg (s.hp q):=⟨h.g,h.st,hq,h.inp⟩
theorem Rg.made (h:Rg s){v:Val}(hq:HR q)(hv:Nq v.n):(s.made e q v).All Rg:=by
 unfold MS.made;exact Fz (fun _=>trivial) fun _=>Fz (fun _=>trivial) fun _=>(h.hp hq).put (.one hv)
theorem Rg.ins (h:Rg s)(hx:Qx m.funcs.length x=0)(hn:Nq x.n):(s.ins m x).All Rg:=by
 obtain ⟨q1,q2⟩:=en hx;have h1:∀(v:Val),Nq v.n→(Stp.go (s.put [v])).All Rg:=fun v hv=>h.put (.one hv);have h2:∀(q:HpS),HR q→(Stp.go (s.hp q)).All Rg:=fun q hq=>h.hp hq;unfold MS.ins
 refine Fz (fun _=>h1 _ hn) fun _=>Fz (fun _=>FD fun a _=>FD fun b _=>Fz (fun _=>trivial) fun _=>h1 _ (eO _ _ _)) fun _=>Fz (fun _=>?_) fun _=>
  Fz (fun _=>FD fun v _=>Fz (fun _=>trivial) fun _=>h2 _ (h.h.shut v)) fun _=>Fz (fun _=>FD fun v _=>FD fun l hl=>h.made (h.h.put v _ ⟨by have:=et hl;show l.length≤_;omega,kK h.g hl⟩) vW) fun _=>
  Fz (fun _=>FD fun v _=>Fz (fun _=>trivial) fun _=>Fz (fun _=>trivial) fun _=>h1 _ (Wy h.h _ _)) fun _=>
  Fz (fun _=>FD fun v _=>Fz (fun _=>trivial) fun _=>FD fun y hy=>Fz (fun _=>trivial) fun _=>h2 _ (h.h.set _ _ (val_in h.g hy))) fun _=>
  Fz (fun _=>FD fun v _=>FD fun n _=>Fz (fun _=>trivial) fun _=>h.made (h.h.arr _ _) Zy) fun _=>
  Fz (fun _=>FD fun v _=>FD fun n _=>gu (h1 _ (Wy h.h _ _))) fun _=>
  Fz (fun _=>FD fun v _=>FD fun n _=>FD fun c hc=>gu (h2 _ (h.h.set _ _ (eQ h.g hc)))) fun _=>
  Fz (fun _=>FD fun v _=>gu (h1 _ (eR h.h _))) fun _=>Fz (fun _=>?_) fun _=>Fz (fun _=>FD fun n _=>?_) fun _=>?_
 · unfold MS.newR;exact Fz (fun _=>trivial) fun _=>⟨h.g.app (.one Wx),h.st,h.h.open,h.inp⟩
 · unfold MS.inS
   cases hi:s.inp with
   | nil=>exact trivial
   | cons n r=>exact ⟨h.g.app (.one (h.inp n (by rw [hi];simp))),h.st,h.h,fun q hq=>h.inp q (by rw [hi];exact F3 _ hq)⟩
 · unfold MS.outS;exact Fz (fun _=>trivial) fun _=>⟨h.g,h.st,h.h,h.inp⟩
 · unfold MS.call
   split
   · exact trivial
   · refine FD fun rs _=>FD fun vs hv=>Fz (fun _=>trivial) fun _=>Fz (fun _=>trivial) fun _=>?_
     refine ⟨kK h.g hv,fun y hy=>?_,h.h,h.inp⟩;rcases FA.1 hy with rfl|hy
     · exact h.g
     · exact h.st y hy
theorem Rg.to (h:Rg s){f:Fun}:(s.to f t).All Rg:=by
 unfold MS.to;split
 · exact trivial
 · exact FD fun rs _=>FD fun vs hv=>Fz (fun _=>trivial) fun _=>⟨kK h.g hv,h.st,h.h,h.inp⟩
theorem Rg.fin (h:Rg s){f:Fun}{e:Tail}{n:Nat}(he:Nl n e=0):(s.fin f e).All Rg:=by
 unfold MS.fin;refine Fz (fun _=>h.to) fun _=>Fz (fun _=>FD fun n _=>Fz (fun _=>h.to) fun _=>h.to) fun _=>?_;unfold MS.ret;refine FD fun vs hv=>Fz (fun _=>trivial) fun _=>?_
 cases hs:s.st with
 | cons c st=>exact Rg.put (s:=⟨s.h,c,st,s.inp,s.out,s.fuel⟩) ⟨h.st c (by rw [hs];simp),fun x hx=>h.st x (by rw [hs];exact F3 _ hx),h.h,h.inp⟩ (kK h.g hv)
 | nil=>
   dsimp only
   cases hi:KF vs with
   | none=>exact trivial
   | some ns=>show ns.length≤8;rw [qI hi,et hv];exact ml he
theorem Rg.one {k:Nat}(h:Rg s)(hB:Bnd m k s)(hM:m.fault.1=0)(hR:m.InR):(s.one m).All Rg:=by
 obtain ⟨f,b,hf,hb,hi,hv,hr⟩:=hB.cur;obtain ⟨-,q1,q2⟩:=W6 hM hf hb;unfold MS.one;rw [hf];dsimp only;rw [hb];dsimp only
 cases hx:b.code[s.g.i]? with
 | none=>exact h.fin q2
 | some x=>
   have hxm:=Fa hx;have hxr:=((hR f (Fa hf)).2.2.2 b (Fa hb)).2.2.1 x hxm;exact Rg.ins (s:=s.next) ⟨h.g,h.st,h.h,h.inp⟩ (q1 x hxm) hxr.1.2.2.2.2.2
theorem Rg.start (hi:∀n∈inp,Nq n):Rg (MS.start inp pages):=⟨VR.nil,fun x hx=>(by cases hx),fun r hr=>(by cases hr),hi⟩
end
end
end Go.Lir
namespace Go.Proofs.YteflkifmgnpbhaaGreat
open Go.Lir
attribute [local irreducible] LC.wp Q0 Qs Qi KN QD LO.wp Q7 Calls
section
variable {cx:Cx}{w:World}{L:List Res}{p N:Nat}{z:GZ}{fr:List FrmV}{g:FrmV}{h:HpS}{out inp:List Int}{fu:Nat}{m:Module}
@[reducible] def q8 (fn fv iv:Value)(fuel:Int):GZ:=⟨fn,fv,iv,0, .slice none 0 0, .slice none 0 0,0,fuel,false,0,0⟩
end
section
variable {cx:Cx}{w:World}{L:List Res}{p N:Nat}{c:MC}{z:GZ}{fr:List FrmV}{g:FrmV}{h:HpS}{out inp back:List Int}{m:Module}
def PR (m:Module)(most:Nat)(c:MC)(fr:List FrmV)(g:FrmV)(N:Nat)(h:HpS)(inp out back:List Int):Run→Prop
 | .on s=>s=Km h g fr inp out s.fuel∧back=[]∧c.dn=false∧c.c=0∧c.e=0∧c.fu=s.fuel∧s.fuel≤most∧c.mo=most∧N≤s.fuel∧Bnd m s.fuel s
 | .over s e b=>h=s.h∧out=s.out∧back=b∧c.dn=true∧c.e=e∧c.fu=s.fuel∧out.length≤2000∧back.length≤100000
 | .stuck _=>False
def DR (m:Module)(most:Nat)(z:GZ)(fr:List FrmV)(g:FrmV)(N:Nat)(h:HpS)(inp out back:List Int):Run→Prop
 | .on s=>s=Km h g fr inp out s.fuel∧back=[]∧z.dn=false∧(z.c=0∧z.a=0)∧z.e=0∧z.fu=s.fuel∧s.fuel≤most∧z.mo=most∧N≤s.fuel∧Bnd m s.fuel s∧Rg s
 | .over s e b=>h=s.h∧out=s.out∧back=b∧z.dn=true∧(z.c=0∧z.a=0)∧z.e=e∧z.fu=s.fuel∧N≤most+1∧out.length≤2000∧back.length≤100000
 | .stuck _=>False
theorem kL {s:MS}(hB:Bnd m s.fuel s)(hM:m.fault.1=0):(s.tick.one m).All (Bnd m (s.fuel+1)):=Kd (s:=s.tick) (k:=s.fuel) ⟨hB.cur,hB.st,hB.sl,hB.out⟩ hM
theorem q9 {s:MS}(hR:Rg s)(hB:Bnd m s.fuel s)(hM:m.fault.1=0)(hIn:m.InR):(s.tick.one m).All Rg:=Rg.one (s:=s.tick) (k:=s.fuel) ⟨hR.g,hR.st,hR.h,hR.inp⟩ ⟨hB.cur,hB.st,hB.sl,hB.out⟩ hM hIn
theorem PR.step {s:MS}(hP:PR m most c fr g N h inp out back (.on s))(hM:m.fault.1=0)(hi:Kh.sl cx c.iv inp)(hs:RY m p c fr g N h inp out (s.fuel+1) cx (sl 2 1 c.bv []::L) u w):
 (∀f,Run.step m most (.on s)≠ .stuck f)∧(u=KG (0,0)∧∃c' fr' g' N' h' inp' out' back',PR m most c' fr' g' N' h' inp' out' back' (Run.step m most (.on s))∧c'.fn=c.fn∧Kh.sl cx c'.iv inp'∧Ot c'<Ot c∧St cx w (mS p c' fr' g' N' h' out' (sl 2 1 c'.bv (QK back')::L)))∨
 ∃(f:Int) (c':MC),Run.step m most (.on s)= .stuck (20,f)∧u=KG (20,f)∧c'.c=20∧c'.a=f∧St cx w (blk p 55 c'.cells::L):=by
 obtain ⟨hms, -,hdn,hc0,he0,hfu,hkm,hmo,hN,hB⟩:=hP;generalize hk:s.fuel=k at*;subst hms;rcases hs with ⟨h7,rfl,hS⟩|⟨hlt,hs⟩
 · have hst:Run.step m most (.on (Km h g fr inp out k))= .over (Km h g fr inp out k) 7 []:=if_pos (show k=most by omega);rw [hst];refine .inl ⟨fun f hf=>(by cases hf),rfl,c.over 7,fr,g,N,h,inp,out,[],⟨rfl,rfl,rfl,rfl,rfl,hfu,hB.out,FZ _⟩,rfl,hi,?_,hS⟩;unfold Ot;rw [hdn];show 2*(c.mo - c.fu).toNat+0<2*(c.mo - c.fu).toNat+1;omega
 · have hst:Run.step m most (.on (Km h g fr inp out k))= .of m (Km h g fr inp out k) ((Km h g fr inp out (k+1)).one m):=if_neg (show¬k=most by omega)
   have hB1:((Km h g fr inp out (k+1)).one m).All (Bnd m (k+1)):=kL (s:=Km h g fr inp out k) hB hM;have hmm:2*(c.mo - (c.fu+1)).toNat+1<2*(c.mo - c.fu).toNat+1:=Df;have hmz:2*(c.mo - (c.fu+1)).toNat+0<2*(c.mo - c.fu).toNat+1:=Df;rcases hs with ⟨rfl,hG⟩|⟨e,hX,rfl,fr',g',N',hN',hS⟩|⟨hX,rfl,hS⟩
   · rcases hG with ⟨lv,iv,ov,fr',g',N',h',inp',out',hX,hi',hN', -,hS⟩|⟨ns,bv,fr',g',hX, -,hS⟩
     · rw [hX] at hst hB1
       rw [hst];refine .inl ⟨fun f hf=>(by cases hf),rfl,c.tick.upd lv iv ov,fr',g',N',h',inp',out',[],⟨rfl,rfl,hdn,hc0,he0,?_,?_,hmo,?_,hB1⟩,rfl,hi',?_,hS⟩
       · show c.fu+1=((k+1:Nat):Int);omega
       · show k+1≤most;omega
       · show N'≤k+1;omega
       · unfold Ot;rw [hdn];exact hmm
     · rw [hX] at hst hB1
       rw [hst];refine .inl ⟨fun f hf=>(by cases hf),rfl,⟨c.hp,c.fn,c.lv,c.iv,c.e,bv,c.ov,c.fu+1,c.mo,true,c.c,c.a⟩,fr',g',N,h,inp,out,ns,⟨rfl,rfl,rfl,rfl,he0,?_,hB.out,?_⟩,rfl,hi,?_,(hS.subP Dn)⟩
       · show c.fu+1=((k+1:Nat):Int);omega
       · have h8:ns.length≤8:=hB1;omega
       · unfold Ot;rw [hdn];exact hmz
   · rw [hX] at hst
     rw [hst];refine .inl ⟨fun f hf=>(by cases hf),rfl,c.tick.over e,fr',g',N',h,inp,out,[],⟨rfl,rfl,rfl,rfl,rfl,?_,hB.out,FZ _⟩,rfl,hi,?_,hS⟩
     · show c.fu+1=((k+1:Nat):Int);omega
     · unfold Ot;rw [hdn];exact hmz
   · rw [hX] at hst;rw [hst];exact .inr ⟨_,c.tick.stk ((Km h g fr inp out (k+1)).place m),rfl,rfl,rfl,rfl,(hS.subP Dn)⟩
theorem DR.step {s:MS}(hP:DR m most z fr g N h inp out back (.on s))(hM:m.fault.1=0)(hIn:m.InR)(hi:Kh.sl cx z.iv inp)(hs:GSt p z N s.fuel most h out ((Km h g fr inp out (s.fuel+1)).one m) ((Km h g fr inp out s.fuel).place m) fr g cx (sl 2 1 z.bv []::L) u w):
 (u=KG (0,0)∧∃z' fr' g' N' h' inp' out' back',DR m most z' fr' g' N' h' inp' out' back' (Run.step m most (.on s))∧z'.fn=z.fn∧Kh.sl cx z'.iv inp'∧St cx w (gX p z' fr' g' N' h' out' (sl 2 1 z'.bv (QK back')::L)))∨
 ∃(f:Int) (z':GZ) (lv:Value) (left:Int),Run.step m most (.on s)= .stuck (20,f)∧u=KG (20,f)∧z'.c=20∧z'.a=f∧z'.dn=false∧St cx w (Pc z' p lv left::L):=by
 obtain ⟨hms, -,hdn,⟨hc0,ha0⟩,he0,hfu,hkm,hmo,hN,hB,hR⟩:=hP;generalize hk:s.fuel=k at*;subst hms;have hst:k≠most→Run.step m most (.on (Km h g fr inp out k))= .of m (Km h g fr inp out k) ((Km h g fr inp out (k+1)).one m):=fun hne=>if_neg (show¬k=most from hne);have hB1:((Km h g fr inp out (k+1)).one m).All (Bnd m (k+1)):=kL (s:=Km h g fr inp out k) hB hM;have hR1:((Km h g fr inp out (k+1)).one m).All Rg:=q9 (s:=Km h g fr inp out k) hR hB hM hIn;rcases hs with ⟨h7,rfl,hS⟩|⟨hlt,rfl,q,hq,hG⟩|⟨hlt,hX,rfl,lv,left,hS⟩
 · have hs7:Run.step m most (.on (Km h g fr inp out k))= .over (Km h g fr inp out k) 7 []:=if_pos (show k=most by omega);rw [hs7];exact .inl ⟨rfl,z.end 7,fr,g,N,h,inp,out,[],⟨rfl,rfl,rfl,rfl,⟨hc0,ha0⟩,rfl,hfu,Jo,hB.out,FZ _⟩,rfl,hi,hS⟩
 · have hst:=hst hlt
   rcases hG with ⟨fv,iv,ov,fr',g',N',h',inp',out',hX,hi',hN', -,hS⟩|⟨e,fr',g',N',hX,hN', -,hS⟩|⟨l,bv,fr',g',N',hX,hN',hl, -,hS⟩|⟨-,hu, -⟩
   · rw [hX] at hst hB1 hR1
     rw [hst];refine .inl ⟨rfl,z.tick.upd fv iv ov,fr',g',N',h',inp',out',[],⟨rfl,rfl,hdn,⟨hc0,ha0⟩,he0,?_,?_,hmo,?_,hB1,hR1⟩,rfl,hi',hS⟩
     · show z.fu+1=((k+1:Nat):Int);omega
     · show k+1≤most;omega
     · show N'≤k+1;omega
   · rw [hX] at hst;rw [hst];refine .inl ⟨rfl,z.tick.end e,fr',g',N',h,inp,out,[],⟨rfl,rfl,rfl,rfl,⟨hc0,ha0⟩,rfl,?_,Jo,hB.out,FZ _⟩,rfl,hi,hS⟩;show z.fu+1=((k+1:Nat):Int);omega
   · rw [hX] at hst;rw [hst];refine .inl ⟨rfl,(z.tick.bk bv).end 0,fr',g',N',h,inp,out,l,⟨rfl,rfl,rfl,rfl,⟨hc0,ha0⟩,rfl,?_,Jo,hB.out,hl⟩,rfl,hi,(hS.subP Dn)⟩;show z.fu+1=((k+1:Nat):Int);omega
   · cases hu;exact absurd rfl hq
 · have hst:=hst hlt;rw [hX] at hst;rw [hst];exact .inr ⟨_,z.tick.stk 20 ((Km h g fr inp out k).place m),lv,left,rfl,rfl,rfl,rfl,hdn,(hS.subP Dn)⟩
end
section
theorem QfR {x:Module}{cx:Cx}(hx:Ls.at cx cs x)(hS:St cx w L):Kf Tryz.prog xF [.agg ⟨cs⟩] w fun u w'=>∃b,u= .bool b∧(b=false→x.Few)∧St cx w' L:=by
 (obtain ⟨vf,rfl,hl⟩:=NR hx;obtain ⟨l⟩:=x;have hl:KD.sl cx vf l:=hl;have hlen:=hl.len;refine Kq Ko Tryz.func18 ?_;refine' KY;intro p1 w1 hS;refine' Ms;refine' WX;first|(refine' QV)|(refine' QW)|(refine' Af<;>intro hc));all_goals (refine' zn)
 all_goals
  first
  | (refine' Ki;refine' KQ;(exact A2))
  | (refine' Kk;refine' Kx)
 refine' NO;refine MB hS [1] (fun A LL ρ' w'=>∃(j:Nat),Kn ρ' A∧Kn ρ' [(3, .int .i64 j)]∧(j≤l.length)∧(l.length≤20)∧(∀f∈l.take j,f.Few)∧St cx w' (LL)) (fun ρ' _=>(l.length - iv (ρ' 3)).toNat) ?_ ?_
 · exact Bh
 rintro ρ w1 ⟨j,hA,hρ,hj,hl20,hd,hS⟩;obtain ⟨ρ,rfl⟩:=Kp hA hρ;refine' Uf;refine' Ab<;>intro hc
 · skip
   (((refine' L4;refine' Ue;intro b1 o1 cs1 x1 hat1 hx1 he1;obtain ⟨vp1,vr1,vb1,rfl,hp1,hr1,hb1⟩:=QH he1;refine' NN;intro p4 w1 hS;refine Kt hS ?_;intro w1 hS;have hS:=hS.ns;refine' L5;refine' WX;first|(refine' QV)|(refine' QW)|(refine' Af<;>intro hc));all_goals (refine' Md;(first|(refine' Kj)|(refine' Kl;refine' KE (c:=oZ hp1 hS);rintro v1 w1 ⟨rfl,hS⟩;cases hg1:Tys.great x1.params))));all_goals (refine' Lu;refine' Md;(first|(refine' Kj)|(refine' Kl;refine' KE (c:=oZ hr1 hS);rintro v1 w1 ⟨rfl,hS⟩;cases hg2:Tys.great x1.results))));all_goals (refine' Ll)
   all_goals
    first
    | (refine' Ki;all_goals (refine' KQ);all_goals (exact A2))
    | (refine' Kk;refine' Kx)
   refine QA ?_;have hlb:=hb1.len;refine' LS;refine' Ob;refine MB hS [1,3,4] (fun A LL ρ' w'=>∃(i:Nat),Kn ρ' A∧Kn ρ' [(5, .int .i64 i)]∧(i≤x1.blocks.length)∧(x1.blocks.length≤30)∧(Tys.great x1.params=false)∧(Tys.great x1.results=false)∧(∀f∈x1.blocks.take i,f.Few)∧St cx w' (LL)) (fun ρ' _=>(x1.blocks.length - iv (ρ' 5)).toNat) ?_ ?_
   · exact ⟨0,zh,zh,Jo,Jo,by assumption,by assumption,by simp,hS.sp⟩
   rintro ρ w1 ⟨i,hA,hρ,hi,hl30,hg1,hg2,hd1,hS⟩;obtain ⟨ρ,rfl⟩:=Kp hA hρ;refine' Uf;refine' Ab<;>intro hc
   · skip
     (((((((refine' L4;refine' Ue;intro b2 o2 cs2 x2 hat2 hx2 he2;obtain ⟨vp2,vc2,ve21,ve22,ve23,ve24,ve25,rfl,hp2,hc2,he21,he22,he23,he24,he25⟩:=RJ he2;refine' NN;intro p6 w1 hS;refine Kt hS ?_;intro w1 hS;have hS:=hS.ns;refine' L5;refine' WX;first|(refine' QV)|(refine' QW)|(refine' Af<;>intro hc));all_goals (refine' Md;(first|(refine' Kj)|(refine' Kl;refine' KE (c:=oZ hp2 hS);rintro v1 w1 ⟨rfl,hS⟩;cases hg3:Tys.great x2.params))));all_goals (refine' Uk;refine' NY;refine' MT;refine' Rn;refine' NM;first|refine' Kj|(refine' Kl;(first|(refine' QV)|(refine' QW)|(refine' Af<;>intro hc)))));all_goals (refine' Uk;refine' NY;refine' MT;refine' MT;refine' Rn;refine' NM;first|refine' Kj|(refine' Kl;(first|(refine' QV)|(refine' QW)|(refine' Af<;>intro hc)))));all_goals (refine' Uk;refine' NY;refine' MT;refine' MT;refine' Rn;refine' NM;first|refine' Kj|(refine' Kl;(first|(refine' QV)|(refine' QW)|(refine' Af<;>intro hc)))));all_goals (refine' Uk;refine' NY;refine' MT;refine' MT;refine' Rn;refine' NM;first|refine' Kj|(refine' Kl;(first|(refine' QV)|(refine' QW)|(refine' Af<;>intro hc)))));all_goals (refine' Uk;refine' NY;refine' MT;refine' MT;refine' Rn;refine' NM;first|refine' Kj|(refine' Kl;(first|(refine' QV)|(refine' QW)|(refine' Af<;>intro hc)))));all_goals (refine' Ll)
     all_goals
      first
      | (refine' Ki;all_goals (refine' KQ);all_goals (exact A2))
      | (refine' Kk;refine' Kx)
     refine QA ?_;have hlc:=hc2.len;refine' LS;refine' Ob;refine MB hS [1,3,4,5,6] (fun A LL ρ' w'=>∃(k:Nat),Kn ρ' A∧Kn ρ' [(7, .int .i64 k)]∧(k≤x2.code.length)∧(x2.code.length≤200)∧(Tys.great x2.params=false)∧(x2.fin.Few)∧(∀f∈x2.code.take k,f.Few)∧St cx w' (LL)) (fun ρ' _=>(x2.code.length - iv (ρ' 7)).toNat) ?_ ?_
     · exact ⟨0,zh,zh,Jo,Jo,by assumption,⟨⟨Jo,Jo⟩,⟨Jo,Jo⟩,Jo⟩,by simp,hS.sp⟩
     rintro ρ w1 ⟨k,hA,hρ,hk,hl200,hg3,hfin,hd2,hS⟩;obtain ⟨ρ,rfl⟩:=Kp hA hρ;refine' Uf;refine' Ab<;>intro hc
     · skip
       ((refine' L4;refine' Ue;intro b3 o3 cs3 x3 hat3 hx3 he3;obtain ⟨vr3,va3,rfl,hr3,ha3⟩:=Nx he3;refine' Nt;refine' SP;refine' zL;first|(refine' QV)|(refine' QW)|(refine' Af<;>intro hc));all_goals (refine' Md;refine' Mc;(first|(refine' Kj)|(refine' Kl;refine TY vw rfl Ja rfl Jo ?_;intro b4 o4 cs4 x4 hat4 hx4 he4;rw [hx3] at hx4;obtain rfl:x3=x4:=Fm hx4;obtain ⟨vr4,va4,rfl,hr4,ha4⟩:=Nx he4));refine' MT;(first|refine' Kj|(refine' Kl;(first|(refine zl hS ?_)|(refine Rm hS ?_)|(refine ZY hS ?_))));refine' NM;first|refine' Kj|(refine' Kl;(first|(refine' QV)|(refine' QW)|(refine' Af<;>intro hc)))));all_goals (refine' Ll)
       all_goals
        first
        | (refine' Ki;all_goals (refine' KQ);all_goals (exact A2))
        | (refine' Kk;refine' Kx)
       refine' Mt;(exact ⟨⟨k+1,zh,zh,Jo,Jo,by assumption,by assumption,bA hd2 hx3 ⟨Jo,Jo⟩,hS.sp⟩,Qj Jo⟩)
     · skip;refine' L8;refine' Mt;(exact ⟨⟨i+1,zh,zh,Jo,Jo,by assumption,by assumption,bA hd1 hx2 ⟨hg3,Jo,iA hd2 Jo,hfin⟩,hS.sp⟩,Qj Jo⟩)
   · skip;refine' L8;refine' Mt;(exact ⟨⟨j+1,zh,zh,Jo,Jo,bA hd hx1 ⟨hg1,hg2,Jo,iA hd1 Jo⟩,hS.sp⟩,Qj Jo⟩)
 · skip;refine' Pm;first|(exact A2)|(have h1:l.length≤20:=Df;exact ⟨_,rfl,false,rfl,fun _=>⟨h1,iA (l:=l) hd Jo⟩,hS.sp⟩)
end
section
variable {cx:Cx}{w:World}{L:List Res}{m:Module}{inp:List Int}
theorem eS (hx:Ls.at cx cs m)(hS:St cx w L):Kf Tryz.prog Un [.agg ⟨cs⟩, .int .i64 fuel] w fun u w'=>∃b,u= .bool b∧(b=false→m.Few∧fuel≤3000)∧St cx w' L:=by
 (have hx':=hx;obtain ⟨vf,rfl,hf⟩:=NR hx;refine Kq Ko Tryz.func14 ?_;refine' KY;intro p2 w1 hS;refine' KA;refine' MU;refine' KE (c:=QfR hx' hS);rintro v1 w1 ⟨b,rfl,hb,hS⟩;cases b;all_goals (refine' Lv;first|refine' Kj|(refine' Kl;(first|(refine' QV)|(refine' QW)|(refine' Af<;>intro hc)))));all_goals (refine' Lu;refine' La;(first|exact ⟨_,rfl,true,rfl,(fun h=>by cases h),hS.sp⟩|exact ⟨_,rfl,_,rfl,(fun h9=>⟨hb rfl,by first|omega|(have:=of_decide_eq_false h9;omega)⟩),hS.sp⟩))
end
end Go.Proofs.YteflkifmgnpbhaaGreat
namespace Go.Lir
structure Tot (n:Int) (h:HpS):Prop where
 sum:h.left+(h.l.map Rgn.pages).sum=n
 left:0≤h.left
 each:∀r∈h.l,0≤r.pages∧(r.there=false→r.pages=0)
theorem Tot.set (H:Tot n h){k:Nat}{r r':Rgn}{left:Int}(hr:h.l[k]?=some r)(h0:0≤left)(hs:left+r'.pages=h.left+r.pages)(h1:0≤r'.pages∧(r'.there=false→r'.pages=0)):Tot n ⟨h.l.set k r',left⟩:=by
 have h2:=ti (r':=r') hr;have h3:=H.sum;refine ⟨by show left+((h.l.set k r').map Rgn.pages).sum=n;omega,h0,fun x hx=>?_⟩;rcases Ld hx with rfl|hx
 · exact h1
 · exact H.each x hx
theorem Tot.at_ (H:Tot n h){k:Int}(hk:h.has k=true):h.l[k.toNat]?=some (h.reg k)∧0≤(h.reg k).pages∧(h.reg k).there=true:=by
 obtain ⟨_,_,h1,h2⟩:=Rx hk;exact ⟨h1,(H.each _ (Fa h1)).1,h2⟩
theorem Tot.open (H:Tot n h):Tot n h.open:=by
 unfold HpS.open;split
 · exact H
 · have h2:=H.sum
   refine ⟨by simp;omega,H.left,fun r hr=>?_⟩;rcases FC.1 hr with hr|hr
   · exact H.each r hr
   · simp only [F7] at hr;subst hr;exact ⟨by simp,fun e=>by cases e⟩
theorem Tot.shut (H:Tot n h)(v:Val):Tot n (h.shut v):=by
 unfold HpS.shut;split
 · rename_i hc;unfold HpS.can at hc;rw [Fj] at hc;obtain ⟨h1,h2,h3⟩:=H.at_ hc.2;have:=H.left;exact H.set h1 Jo (by simp [Rgn.none]) ⟨by simp [Rgn.none],fun _=>rfl⟩
 · exact H
theorem Tot.put (H:Tot n h)(v:Val)(x:Int)(t:Thg):Tot n (h.put v x t):=by
 unfold HpS.put;split
 · rename_i hc
   obtain ⟨_,hh⟩:=uE hc;obtain ⟨h1,h2,h3⟩:=H.at_ hh;have hl:=H.left
   have hne:(h.reg v.region).more x=true→h.left≠0:=fun hm e=>by
    unfold HpS.code at hc;split at hc
    · cases hc
    · rw [if_pos ⟨hm,e⟩] at hc;cases hc
   (have hf:∀b:Bool,((h.reg v.region).room x).there=(h.reg v.region).there:=fun _=>by unfold Rgn.room;split<;>rfl);by_cases hm:(h.reg v.region).more x=true
   · rw [if_pos hm];have hp:(((h.reg v.region).room x).push t).pages=(h.reg v.region).pages+1:=(by unfold Rgn.room;rw [if_pos hm];rfl);have:=hne hm;exact H.set h1 Jo (by rw [hp];omega) ⟨by rw [hp];omega,fun e=>by have e:((h.reg v.region).room x).there=false:=e;rw [hf true,h3] at e;cases e⟩
   · rw [if_neg hm];have hp:(((h.reg v.region).room x).push t).pages=(h.reg v.region).pages:=(by unfold Rgn.room;rw [if_neg hm];rfl);exact H.set h1 hl (by rw [hp]) ⟨by rw [hp];exact h2,fun e=>by have e:((h.reg v.region).room x).there=false:=e;rw [hf true,h3] at e;cases e⟩
 · exact H
def Stp.Tt (n:Int):Stp→Prop
 | .go s=>Tot n s.h
 | _=>True
section
variable {m:Module}{s:MS}{n:Int}
def Run.Tt (n:Int):Run→Prop
 | .on s=>Tot n s.h
 | .over s _ _=>Tot n s.h
 | .stuck _=>True
theorem Tot.le (H:Tot n h):h.left≤n:=by
 have:=oY (l:=h.l.map Rgn.pages) (by intro x hx;obtain ⟨r,hr,rfl⟩:=FU.1 hx;exact (H.each r hr).1);have:=H.sum;omega
theorem Tot.none (H:Tot n h)(hn:kn h):h.left=n∧h.live=0:=by
 have hall:∀r∈h.l,r.there=false:=fun r hr=>by
  obtain ⟨k,hk⟩:=Gf.1 hr;have:=hn k;unfold HpS.has at this;rw [JU hk] at this;exact this
 have hz:(h.l.map Rgn.pages).sum=0:=by
  have:∀l:List Rgn,(∀r∈l,r.pages=0)→(l.map Rgn.pages).sum=0:=by
   intro l hl
   induction l with
   | nil=>rfl
   | cons a l ih=>rw [Gy,Hq,hl a Js,ih fun r hr=>hl r (by simp [hr])];rfl
  exact this _ fun r hr=>(H.each r hr).2 (hall r hr)
 refine ⟨by have:=H.sum;omega,?_⟩;unfold HpS.live;rw [List.countP_eq_zero];intro r hr;rw [hall r hr];decide
end
end Go.Lir
namespace Go.Proofs.YteflkifmgnpbhaaGreat
open Go.Lir
attribute [local irreducible] LC.wp Q0 Qs Qi KN QD LO.wp Q7 Calls
section
variable {cx:Cx}{w:World}{L:List Res}{m:Module}
theorem St.noneNil {T es n k:Nat}{css:List (List Value)}(hS:St cx w L)(hi:nth L i=some (sl T es (.slice none n k) css)):css=[]∧n=0∧k=0:=by
 obtain ⟨F,hr,_⟩:=hS.step hi;have hr:Sl w.heap T es (.slice none n k) F css:=hr;rcases hr.2 with ⟨hv,hc,_⟩|⟨b,off,cap,arr,hv,_⟩
 · cases hv;exact ⟨hc,rfl,rfl⟩
 · cases hv
theorem mz (hb:l.length≤1000000)(hS:St cx w L)(hi:nth L i=some (sl 2 1 v (l.map Qr))):Kf Tryz.prog sI [v] w fun u w'=>∃c',cx.Le c'∧Kh.sl c' u l∧St c' w' L:=by
 obtain ⟨a,n,hv⟩:=hS.shape hi;rw [Fb] at hv
 cases a with
 | none=>
   rw [hv] at hi;obtain ⟨hl0,h1,h2⟩:=St.noneNil hS hi;obtain rfl:l=[]:=(by simpa using hl0);rw [hv,h2];refine Kq Ko Tryz.func65 ?_;refine' Mq;refine WN (e:=2) Jk rfl rfl ?_;refine' zn
   all_goals
    first
    | (refine' Ki;refine' KQ;(exact Bu))
   all_goals (refine' Kv; fail "no law for buildSlice"; refine' zm; refine za S7 WZ hS ?_; intro vp1 w1 css1 hls1 hv1 hS; have hS := hS.ns; refine' La; exact BM)
 | some a=>
   refine Kq Ko Tryz.func65 ?_;refine' Mq;refine WN (e:=2) Jk hv rfl ?_;refine' Pn;refine' Kv;refine im S7 ?_;intro v1 w1 hf1 hs1 hz1;have hS:=hS.new (r:=sl 2 1 v1 []) hs1 hf1 (fun b hb=>HK hb.symm);refine' zm;((refine NL S7 (.inl WZ) hS vw vw (i:=0) rfl (hS.srcS (i:=i+1) hi (Q9p l)) (by simp only [FF,Fb];omega) ?_;intro v7 w7 hS;have hS:=hS.ns));refine' La;((obtain ⟨c3,hle3,hS,hl3⟩:=Gp (r:=Kh) (l:=l) (T:=2) (es:=1) (L:=L) hS.sp (by simpa using Wv) rfl Jo;exact By))
theorem vX {p:Nat}{c:MC}(h1:back.length≤1000000)(h2:out.length≤1000000)(hi:nth L i=some (sl 2 1 c.bv (back.map Qr)))(hj:nth L j=some (sl 2 1 c.ov (out.map Qr)))(hS:St cx w (blk p 55 c.cells::L)):
 Kf Tryz.prog xL [.pointer (some ⟨p,0,none⟩)] w fun u w'=>∃c' v1 v2,cx.Le c'∧u= .agg ⟨[.int .i64 c.e,v1,v2, .int .i64 c.fu]⟩∧Kh.sl c' v1 back∧Kh.sl c' v2 out∧St c' w' (blk p 55 c.cells::L):=by
 obtain ⟨hp,fn,lv,iv,e0,bv,ov,fu0,mo,dn,cc,ca⟩:=c;obtain ⟨ab,nb,eb⟩:=hS.shape (i:=i+1) hi;obtain ⟨ao,no,eo⟩:=hS.shape (i:=j+1) hj;have eb:bv= .slice ab _ nb:=eb;have eo:ov= .slice ao _ no:=eo;subst eb;subst eo;refine Kq Ko Tryz.func29 ?_;refine' OU;(intro p2 w1 hS);refine' LN;refine' Lh;refine zv hS ?_;refine Qd hS ?_;(intro p3 w1 hS);((refine Kt hS ?_;intro w1 hS;have hS:=hS.ns));refine' L5;refine zC [(0,none),(1,none),(3,none),(4,none),(2,some (some [4])),(6,none),(5,some (some [])),(7,some none),(8,none),(9,some none)] ?_;have hS:=hS.drew;refine' KW;refine' Nu;refine' Od;refine' KE (c:=mz (i:=i+3) h1 hS hi);rintro v1 w1 ⟨c1,hle1,hv1,hS⟩;refine' Mp;refine' MA;refine' Lp;refine' KE (c:=mz (i:=j+3) h2 hS hj);rintro v2 w2 ⟨c2,hle2,hv2,hS⟩;have hv1:=Gc hv1 hle2;obtain ⟨a1,n1,rfl⟩:=Fx hv1;obtain ⟨a2,n2,rfl⟩:=Fx hv2;refine' Ly;((refine LU hS ?_;intro w1 hS;have hS:=hS.ns));refine' KO;refine' MA;refine' Lk;((refine LU hS ?_;intro w1 hS;have hS:=hS.ns));refine' Lq;refine' MU;((refine Kt hS ?_;intro w1 hS;have hS:=hS.ns));refine' Lz;refine LF vw (Q2 (n:=4) Jk Jk (hS.blkAt fd) Jr Jr) ?_;((exact CR))
theorem QfA {p:Nat}{c:RC}(h1:back.length≤1000000)(h2:out.length≤1000000)(hi:nth L i=some (sl 2 1 c.bv (back.map Qr)))(hj:nth L j=some (sl 2 1 c.ov (out.map Qr)))(hS:St cx w (blk p 66 c.cells::L)):
 Kf Tryz.prog xN [.pointer (some ⟨p,0,none⟩)] w fun u w'=>∃c' v1 v2,cx.Le c'∧u= .agg ⟨[.int .i64 c.e,v1,v2, .int .i64 c.fu]⟩∧Kh.sl c' v1 back∧Kh.sl c' v2 out∧St c' w' (blk p 66 c.cells::L):=by
 obtain ⟨ep,fn,lv,iv,e0,bv,ov,fu0,mo,dn⟩:=c;obtain ⟨ab,nb,eb⟩:=hS.shape (i:=i+1) hi;obtain ⟨ao,no,eo⟩:=hS.shape (i:=j+1) hj;have eb:bv= .slice ab _ nb:=eb;have eo:ov= .slice ao _ no:=eo;subst eb;subst eo;refine Kq Ko Tryz.func38 ?_;refine' OU;(intro p2 w1 hS);refine' LN;refine' Lh;refine zv hS ?_;refine Qd hS ?_;(intro p3 w1 hS);((refine Kt hS ?_;intro w1 hS;have hS:=hS.ns));refine' L5;refine zC [(0,none),(1,none),(3,none),(4,none),(2,some (some [4])),(6,none),(5,some (some [])),(7,some none),(8,none),(9,some none)] ?_;have hS:=hS.drew;refine' KW;refine' Nu;refine' Od;refine' KE (c:=mz (i:=i+3) h1 hS hi);rintro v1 w1 ⟨c1,hle1,hv1,hS⟩;refine' Mp;refine' MA;refine' Lp;refine' KE (c:=mz (i:=j+3) h2 hS hj);rintro v2 w2 ⟨c2,hle2,hv2,hS⟩;have hv1:=Gc hv1 hle2;obtain ⟨a1,n1,rfl⟩:=Fx hv1;obtain ⟨a2,n2,rfl⟩:=Fx hv2;refine' Ly;((refine LU hS ?_;intro w1 hS;have hS:=hS.ns));refine' KO;refine' MA;refine' Lk;((refine LU hS ?_;intro w1 hS;have hS:=hS.ns));refine' Lq;refine' MU;((refine Kt hS ?_;intro w1 hS;have hS:=hS.ns));refine' Lz;refine LF vw (Q2 (n:=4) Jk Jk (hS.blkAt fd) Jr Jr) ?_;((exact CR))
theorem Wz {k:List Int}(hl:Kh.sl cx v l)(hk:Kh.sl cx v2 k)(hS:St cx w L):Kf Tryz.prog yk [v,v2] w fun u w'=>u= .bool (decide (l=k))∧St cx w' L:=by
 (have hlen:=hl.len;refine Kq Ko Tryz.func92 ?_;refine' Mq;refine' zL;refine' zm;refine' zL;first|(refine' QO)|(refine' QU)|(refine' Ad<;>intro hc));all_goals (refine' zn)
 all_goals
  first
  | (refine' Ki;refine' KQ;((refine ⟨_,rfl,?_,hS.sp⟩;(rw [decide_eq_false];exact AP);done)))
  | (refine' Kk;refine' Kx)
 refine' Na;refine' Oh;refine MB hS [0,1,12] (fun A LL ρ' w'=>∃(j:Nat),Kn ρ' A∧Kn ρ' [(13, .int .i64 j)]∧(j≤l.length)∧(l.length=k.length)∧(l=k↔l.drop j=k.drop j)∧St cx w' (LL)) (fun ρ' _=>(l.length - iv (ρ' 13)).toNat) ?_ ?_
 · exact Bh
 rintro ρ w1 ⟨j,hA,hρ,hj,hlm,hd,hS⟩;obtain ⟨ρ,rfl⟩:=Kp hA hρ;refine' MH;refine' Ab<;>intro hc
 · skip
   (refine' L4;refine' KP;refine' Ms;refine zD (ci 9 [8]) ?_;have hS:=hS.drew;refine' MV;refine' zi;intro b1 o1 cs1 x1 hat1 hx1 he1;obtain rfl:=QG he1;refine' N0;refine' MV;refine' zi;intro b2 o2 cs2 x2 hat2 hx2 he2;obtain rfl:=QG he2;refine' N0;first|(refine' QO)|(refine' QU)|(refine' Ad<;>intro hc));all_goals (refine' zn)
   all_goals
    first
    | (refine' Ki;refine' KQ;first|(refine ⟨_,rfl,?_,hS.sp⟩;rw [decide_eq_false];exact AP;done)|(refine ⟨_,rfl,?_,hS.sp⟩;rw [decide_eq_false];rw [hd,Q1 hx1,Q1 hx2];simp [*];done))
    | (refine' Kk;refine' Kx)
   refine' N1;(exact ⟨⟨j+1,zh,zh,Jo,Jo,by rw [hd,Q1 hx1,Q1 hx2,show x1=x2 by omega];simp,hS.sp⟩,Qj Jo⟩)
 · skip;refine' Pm;(first|(refine ⟨_,rfl,?_,hS.sp⟩;rw [decide_eq_false];exact AP;done)|(refine ⟨_,rfl,?_,hS.sp⟩;rw [decide_eq_false];rw [hd,Q1 hx1,Q1 hx2];simp [*];done)|(refine ⟨_,rfl,?_,hS.sp⟩;rw [decide_eq_true];rw [hd,Fh Jo,Fh Jo];done))
theorem ra {e2 f f2:Int}{ys xs2 ys2:List Int}{v1 v3 v4:Value}(h1:Kh.sl cx v1 xs)(h2:Kh.sl cx v2 ys)(h3:Kh.sl cx v3 xs2)(h4:Kh.sl cx v4 ys2)(hS:St cx w L):
 Kf Tryz.prog xS [.agg ⟨[.int .i64 e,v1,v2, .int .i64 f]⟩, .agg ⟨[.int .i64 e2,v3,v4, .int .i64 f2]⟩] w fun u w'=>u= .bool (decide (e=e2∧xs=xs2∧ys=ys2∧f=f2))∧St cx w' L:=by
 ((((refine Kq Ko Tryz.func49 ?_;refine' KY;intro p2 w1 hS;refine zb hS ?_;intro p3 w1 hS;refine' KA;refine' Mn;refine' KZ;first|(refine' Ql)|(refine' Qp)|(refine' Ac<;>intro hc));all_goals (refine' S2;(first|(refine' Kj)|(refine' Kl;refine' Kr (c:=Wz h1 h3 hS);rintro v1 w1 ⟨rfl,hS⟩;(cases hdec:decide (xs=xs2));have hg:=of_decide_eq_false hdec;rotate_left;have hg:=of_decide_eq_true hdec;all_goals skip))));all_goals (refine' Lu;refine' S2;(first|(refine' Kj)|(refine' Kl;refine' Kr (c:=Wz h2 h4 hS);rintro v1 w1 ⟨rfl,hS⟩;(cases hdec:decide (ys=ys2));have hg:=of_decide_eq_false hdec;rotate_left;have hg:=of_decide_eq_true hdec;all_goals skip))));all_goals (refine' Lu;refine' S2;first|refine' Kj|(refine' Kl;(first|(refine' Ql)|(refine' Qp)|(refine' Ac<;>intro hc)))));all_goals (refine' Lu;refine' La;refine ⟨_,rfl,?_,hS.sp⟩;(simp [*]);done)
end
section
variable {cx:Cx}{w:World}{L:List Res}{p N:Nat}{c:MC}{z:GZ}{fr:List FrmV}{g:FrmV}{h:HpS}{out inp back:List Int}{m:Module}
theorem Zz {k:Nat}(hB:Bnd m k (Km h g fr inp out k))(hM:m.fault.1=0)(hk:k≤most)(hm:most≤20000):∃f b,m.funcs[g.f]?=some f∧f.blocks[g.b]?=some b∧(∀x∈b.code,Qel m x)∧gb f b.fin∧g.i≤1000∧g.f≤1000000∧g.b≤1000000∧fr.length≤900∧g.vals.length≤800000∧g.regs.length≤800000∧(∀x∈fr,x.vals.length≤900000)∧out.length≤2000:=by
 obtain ⟨f,b,hf,hb,h1,h2,h3⟩:=hB.cur;obtain ⟨q0,q1,q2⟩:=W6 hM hf hb;obtain ⟨e1,e2,e3,e4⟩:=gj q2;have hcl:=(aC q0).2.2.2.2;have hfl:=pU hM;have hbl:=(Vu (SB hM hf)).2.2.2.2;have hgf:=(E8.1 hf).1;have hgb:=(E8.1 hb).1;have hsl:=hB.sl;have hst:(Km h g fr inp out k).st.length=fr.length:=(by show (fr.map FrmV.abs).reverse.length=_;simp);have h1:g.i≤b.code.length:=h1;have h2:g.vals.length≤8+8*k:=h2;have h3:g.regs.length≤16+k:=h3;have hgf:g.f<m.funcs.length:=hgf;have hgb:g.b<f.blocks.length:=hgb;have hto:∀{t:To},Nd f.blocks.length t true=0→ToOK f t:=fun ht=>⟨YO ht,by have:=kq ht;omega,by have:=kq ht;omega⟩;refine ⟨f,b,hf,hb,fun x hx=>⟨aq (q1 x hx),V9 (q1 x hx),by have:=en (q1 x hx);omega,by have:=en (q1 x hx);omega⟩,⟨by have:=ml q2;omega,⟨e1,e2⟩,fun hq=>hto ER,fun hq=>hto EP⟩,Jo,Jo,Jo,Jo,Jo,Jo,?_,hB.out⟩;intro x hx;obtain ⟨f9,b9,_,_,_,h9,_⟩:=hB.st x.abs (by show x.abs∈(fr.map FrmV.abs).reverse;rw [List.mem_reverse];exact JY hx);have h9:x.vals.length≤8+8*k:=h9;omega
theorem ZA {s:MS}(hP:PR m most c fr g N h inp out back (.on s))(hM:m.fault.1=0)(hmo:most≤20000)(hfn:KD.sl cx c.fn m.funcs)(hi:Kh.sl cx c.iv inp)(hS:St cx w (mS p c fr g N h out (sl 2 1 c.bv (QK back)::L))):
 Kf Tryz.prog sC [.pointer (some ⟨p,0,none⟩)] w fun u w'=>
  (∀f,Run.step m most (.on s)≠ .stuck f)∧(u=KG (0,0)∧∃c' fr' g' N' h' inp' out' back',PR m most c' fr' g' N' h' inp' out' back' (Run.step m most (.on s))∧c'.fn=c.fn∧Kh.sl cx c'.iv inp'∧Ot c'<Ot c∧St cx w' (mS p c' fr' g' N' h' out' (sl 2 1 c'.bv (QK back')::L)))∨
  ∃(f:Int) (c':MC),Run.step m most (.on s)= .stuck (20,f)∧u=KG (20,f)∧c'.c=20∧c'.a=f∧St cx w' (blk p 55 c'.cells::L):=by
 have hP':=hP;obtain ⟨hms,rfl,hdn,hc0,he0,hfu,hkm,hmo2,hN,hB⟩:=hP;rw [hms] at hB;obtain ⟨f,b,hf,hb,k1,k2,k3,k4,k5,k6,k7,k8,k9,k10⟩:=Zz hB hM hkm hmo;exact (dz (m:=m) (f:=f) (b:=b) (inp:=inp) (fu:=s.fuel+1) hdn hc0 hfn hi hf hb k1 k2 k4 k5 k3 k6 k7 k8 k9 Jo k10 ⟨Jo,Jo⟩ hS).mono fun u w' hs=>hP'.step hM hi hs
end
section
variable {cx:Cx}{w:World}{L:List Res}{m:Module}{t p q N:Nat}{c:MC}{fr:List FrmV}{g:FrmV}{h:HpS}{inp out back:List Int}{cy:RC}{fr2:List RFV}{g2:RFV}{s:EstS}{inp2 out2 back2:List Int}{most:Nat}
theorem QR.ns (hQ:QR m most cy fr2 g2 s inp2 out2 back2 (.on ms))(hR:m.runs.1=0)(hsh:m.Short):∀f,Run.step m most (.on ms)≠ .stuck f:=by
 obtain ⟨-, -, -, -, -, -, -, -,hf⟩:=hQ;intro f hs;have h1:=Qb1 hR hsh (most:=most) (r:= .on ms) hf;rw [hs] at h1;exact h1
theorem QP.same (hP:PR m most c fr g N h inp out back r)(hQ:QR m most cy fr2 g2 s inp2 out2 back2 r):cy.dn=c.dn∧cy.e=c.e∧cy.fu=c.fu∧out2=out∧back2=back∧h.left=s.p.fr.length∧s.count=h.live∧out.length≤2000∧back.length≤100000∧(c.e=0→c.dn=true→kn h):=by
 cases r with
 | on ms=>
   obtain ⟨a1,a2,a3,a4,a5,a6,a7,a8,a9,a10⟩:=hP;obtain ⟨⟨φ,S⟩,b2,b3,b4,b5, -⟩:=hQ;have e1:ms.h=h:=DS;have e2:ms.out=out:=DS;have e3:ms.out=out2:=S.out;refine ⟨by rw [a3,b3],by rw [a5,b4],by rw [a6,b5],by rw [←e2,←e3],by rw [a2,b2],by rw [←e1];exact S.hr.left,by rw [←e1];exact S.hr.cnt,by rw [←e2];exact a10.out,by rw [a2];exact FZ _,fun _ hd=>by rw [a3] at hd;cases hd⟩
 | over ms e b=>
   obtain ⟨a1,a2,a3,a4,a5,a6,a7,a8⟩:=hP;obtain ⟨b1,b2,b3,b4,b5,b6,b7,b8,b9,b10⟩:=hQ;exact ⟨by rw [a4,b3],by rw [a5,b4],by rw [a6,b5],by rw [a2,b1],by rw [a3,b2],by rw [a1];exact b8,by rw [a1];exact b9,a7,a8,fun h0 _=>by rw [a1];exact b10 Jo⟩
 | stuck f=>exact hP.elim
@[reducible] def tB (t p q:Nat):Res:=blk t 80 [.pointer (some ⟨p,0,none⟩), .pointer (some ⟨q,0,none⟩), .int .i64 0, .int .i64 0]
@[reducible] def tX (t p q:Nat)(c:MC)(fr:List FrmV)(g:FrmV)(N:Nat)(h:HpS)(out back:List Int)(cy:RC)(fr2:List RFV)(g2:RFV)(s:EstS)(L:List Res):List Res:=
  tB t p q::mS p c fr g N h out (sl 2 1 c.bv (back.map Qr)::rS q cy fr2 g2 s out (sl 2 1 cy.bv (back.map Qr)::L))
theorem ZB (hns:∀f,Run.step m most (.on ms)≠ .stuck f)(hU:(∀f,Run.step m most (.on ms)≠ .stuck f)∧(u=KG (0,0)∧∃c' fr' g' N' h' inp' out' back',PR m most c' fr' g' N' h' inp' out' back' (Run.step m most (.on ms))∧c'.fn=c.fn∧Kh.sl cx c'.iv inp'∧Ot c'<Ot c∧St cx w (mS p c' fr' g' N' h' out' (sl 2 1 c'.bv (QK back')::L)))∨
 ∃(f:Int) (c':MC),Run.step m most (.on ms)= .stuck (20,f)∧u=KG (20,f)∧c'.c=20∧c'.a=f∧St cx w (blk p 55 c'.cells::L)):u=KG (0,0)∧∃c' fr' g' N' h' inp' out' back',PR m most c' fr' g' N' h' inp' out' back' (Run.step m most (.on ms))∧c'.fn=c.fn∧Kh.sl cx c'.iv inp'∧Ot c'<Ot c∧St cx w (mS p c' fr' g' N' h' out' (sl 2 1 c'.bv (back'.map Qr)::L)):=by
 rcases hU with ⟨_,h⟩|⟨f,_,h,_⟩
 · exact h
 · exact absurd h (hns _)
attribute [local irreducible] PR QR Run.step
theorem vY (hP:PR m most c fr g N h inp out back (.on ms))(hQ:QR m most cy fr2 g2 s inp2 out back (.on ms))(hdn:c.dn=false)(hR:m.runs.1=0)(hsh:m.Short)(hmo:most≤20000)(hfn1:KD.sl cx c.fn m.funcs)(hi1:Kh.sl cx c.iv inp)(hfn2:KD.sl cx cy.fn m.funcs)(hi2:Kh.sl cx cy.iv inp2)(hS:St cx w (tX t p q c fr g N h out back cy fr2 g2 s L)):
 Kf Tryz.prog xR [.pointer (some ⟨t,0,none⟩)] w fun u w'=>u=KG (0,0)∧∃c' fr' g' N' h' inp' out' back' cy' fr2' g2' s' inp2',PR m most c' fr' g' N' h' inp' out' back' (Run.step m most (.on ms))∧QR m most cy' fr2' g2' s' inp2' out' back' (Run.step m most (.on ms))∧c'.fn=c.fn∧Kh.sl cx c'.iv inp'∧cy'.fn=cy.fn∧Kh.sl cx cy'.iv inp2'∧Ot c'<Ot c∧St cx w' (tX t p q c' fr' g' N' h' out' back' cy' fr2' g2' s' L):=by
 have hns:=hQ.ns hR hsh;refine Kq Ko Tryz.func47 ?_;refine' OU;intro p2 w1 hS;refine' zn;refine' Na;refine' PN;refine' Rp;refine' Lv;refine' Sp;(first|(refine' Kj)|(refine' Kl;refine' KE (c:=mm (c:=c) (show St cx _ (blk p 55 c.cells::_) from hS.sp));rintro v1 w1 ⟨rfl,hS⟩;rw [hdn]));refine' Ll;refine' Pj;refine' KP;refine' Mf;refine' KE (c:=ZA hP (SG hR) hmo hfn1 hi1 (show St cx _ (mS p c fr g N h out (sl 2 1 c.bv (QK back)::_)) from hS.sp));rintro v1 w1 hU;obtain ⟨rfl,c',fr',g',N',h',inp',out',back',hP',hfn',hin',hlt,hS⟩:=ZB hns hU;unfold KG;refine Qd hS ?_;intro p3 w1 hS;refine Kt hS ?_;intro w1 hS;have hS:=hS.ns;refine' LN;refine' Mf;refine' KE (c:=Zi hQ hR hsh hmo hfn2 hi2 (show St cx _ (rS q cy fr2 g2 s out (sl 2 1 cy.bv (back.map Qr)::_)) from hS.sp));rintro v1 w1 ⟨rfl,cy',fr2',g2',s',inp2',out2',back2',hQ',hfny,hiny, -,hS⟩;obtain ⟨hdd,hee,hff,e1,e2,hll,hcc,hol,hbl, -⟩:=QP.same hP' hQ';obtain rfl:=e1.symm;obtain rfl:=e2.symm;refine' zn;refine' bK;refine' Mn;refine' Rp;refine' KA;refine' Kk;refine QA ?_;obtain ⟨ep,y1,y2,y3,y4,y5,y6,y7,y8,y9⟩:=cy';obtain ⟨b5,pp,rv,ho,hS⟩:=Su (hS.out (r:=My ep s') fd);obtain rfl:=ho.he;have hdd:y9=c'.dn:=hdd;have hee:y4=c'.e:=hee;have hff:y7=c'.fu:=hff;refine zC [(0,none),(1,none),(2,none),(3,none),(5,none),(6,none),(7,none),(8,none),(4,some (some [8])),(9,some none),(10,none),(11,none),(12,none),(13,none),(14,none),(15,none),(17,none),(18,none),(19,none),(20,none),(16,some (some [20])),(21,some none),(22,some none),(23,none),(24,none),(25,none),(26,none),(27,none),(28,none),(29,none),(30,none),(31,none),(32,none),(34,none),(35,none),(36,none),(37,none),(38,none),(39,none),(40,none),(41,none),(42,none),(43,none),(33,some (some [37,40,43])),(44,some none),(45,none),(46,none),(47,none),(48,none),(49,none),(50,none),(51,none),(52,none),(53,none),(54,none),(56,none),(57,none),(58,none),(59,none),(60,none),(61,none),(62,none),(55,some (some [59,62])),(63,some none),(64,none),(65,none),(66,some none)] ?_;have hS:=hS.drew;refine' Uh;refine' Nb;refine' Od;refine' KE (c:=mm (c:=c') (show St cx _ (blk p 55 c'.cells::_) from hS.sp));rintro v1 w1 ⟨rfl,hS⟩;refine' Ly;refine' KE (c:=Zj (c:=⟨.pointer (some ⟨b5,0,none⟩),y1,y2,y3,y4,y5,y6,y7,y8,y9⟩) hS.sp);rintro v1 w1 ⟨rfl,hS⟩;rw [hdd];refine' KO;refine sb Jk rfl rfl rfl ?_;refine' Mu;refine' Mc;refine' WV;refine' KO;refine' Mc;refine' WV;refine' Lp;(first|(refine' Kj)|(refine' Kl;refine' KE (c:=vX (c:=c') (back:=back') (out:=out') (i:=0) (j:=1) (L:=sl 2 1 c'.bv (back'.map Qr)::sl 2 1 c'.ov (out'.map Qr)::_) Jo Jo rfl rfl hS.sp);rintro v1 w1 ⟨k1,v1,v2,hk1,rfl,z1,z2,hS⟩));refine' Ly;(first|(refine' Kj)|(refine' Kl;refine' KE (c:=QfA (c:=⟨.pointer (some ⟨b5,0,none⟩),y1,y2,y3,y4,y5,y6,y7,y8,y9⟩) (back:=back') (out:=out') (i:=0) (j:=1) (L:=sl 2 1 y5 (back'.map Qr)::sl 2 1 y6 (out'.map Qr)::_) Jo Jo rfl rfl hS.sp);rintro v1 w1 ⟨k2,v3,v4,hk2,rfl,z3,z4,hS⟩));refine' Lk;(first|(refine' Kj)|(refine' Kl;refine' Kr (c:=ra (Gc z1 hk2) (Gc z2 hk2) z3 z4 hS);rintro v1 w1 ⟨rfl,hS⟩;rw [decide_eq_true (⟨hee.symm,rfl,rfl,hff.symm⟩:c'.e=y4∧back'=back'∧out'=out'∧c'.fu=y7)]));refine' KO;refine' PG;refine' KO;refine' Lu;refine' Mu;refine' Mc;refine' WV;refine' WV;refine' KO;refine' Mc;refine' sA;refine' Rn;refine' WV;refine' WV;refine' Lp;(first|(refine' Kj)|(refine' Kl;refine' KE (c:=UY (N:=N') (s:=h') (h:=c'.hp) hS fd);rintro v1 w1 ⟨rfl,hS⟩));refine' Ly;(first|(refine' Kj)|(refine' Kl;refine' KE (c:=cd (s:=s'.p) hS fd);rintro v1 w1 ⟨rfl,hS⟩));refine' KO;(first|(refine' Kj)|(refine' Kl;rw [hll];refine' QU));refine' KO;refine' Lu;refine' Mu;refine' Mc;refine' WV;refine' WV;refine' KO;refine' Mc;refine' WV;refine' WV;refine' Lp;(first|(refine' Kj)|(refine' Kl;refine' KE (c:=Yt (N:=N') (s:=h') (h:=c'.hp) hS fd);rintro v1 w1 ⟨rfl,hS⟩));refine' Ly;(first|(refine' Kj)|(refine' Kl;have hS:=PS ho (show St k2 _ (blk b5 73 (pp::LW rv)::Me pp s'.p::K3 RegV.res rv::_) from hS.sp);refine' KE (c:=UC (e:= .pointer (some ⟨b5,0,none⟩)) (s:=s') hS fd);rintro v1 w1 ⟨rfl,hS⟩;rw [hcc]));refine' KO;(first|(refine' Kj)|(refine' Kl;refine' QU));refine' KO;refine' Lu;refine' XY;refine' Pj;refine' WS;refine zv hS ?_;refine Kt hS ?_;intro w1 hS;have hS:=hS.ns;refine' Lz;refine LF vw (Q2 (n:=2) Jk Jk (hS.blkAt fd) Jr Jr) ?_;(exact ⟨_,rfl,rfl,c',fr',g',N',h',inp',_,_,⟨.pointer (some ⟨b5,0,none⟩),y1,y2,y3,y4,y5,y6,y7,y8,y9⟩,fr2',g2',s',inp2',hP',hQ',hfn',hin',hfny,hiny,hlt,Gx hS.sp (hk1.trans hk2)⟩)
end
section
variable {cx:Cx}{w:World}{L:List Res}{i:Nat}
def aK:To:=⟨0,[],[]⟩
@[reducible] def aL (n:Int):Module:=⟨[⟨0,[],[.mk 1 0 []],[⟨0,[],[⟨1,0,0,0,0,5,[],[]⟩],⟨3,0,aK,aK,[n]⟩⟩]⟩]⟩
theorem Qe7 (n:Int):(aL n).Short:=by
 refine ⟨F4 rfl,fun f hf=>?_⟩;simp [aL] at hf;subst hf;refine ⟨⟨F4 rfl,by simp⟩,⟨F4 rfl,fun t ht=>?_⟩,F4 rfl,fun b hb=>?_⟩
 · simp at ht;subst ht;exact .mk Jd Js
 · simp at hb;subst hb;refine ⟨⟨F4 rfl,by simp⟩,F4 rfl,fun i hi=>?_,⟨F4 rfl,F4 rfl⟩,⟨F4 rfl,F4 rfl⟩,by simp⟩;simp at hi;subst hi;exact ⟨by decide,by decide⟩
theorem eT (hS:St cx w L):Kf Tryz.prog sG [] w fun u w'=>∃q1 q2 q3 la lb,u= .agg ⟨[.slice (some ⟨la,0,none⟩) 1 1]⟩∧St cx w' (blk q1 115 [.int .i64 1, .int .i64 0, .slice none 0 0]::blk q2 84 [.int .i64 1, .int .i64 0, .int .i64 0, .int .i64 0, .int .i64 0, .int .i64 5, .slice none 0 0, .slice none 0 0]::blk q3 3 [.int .i64 0]::blk lb 92 [.int .i64 0, .slice none 0 0, .slice (some ⟨q2,0,none⟩) 1 1, .int .i64 3, .int .i64 0, .int .i64 0, .slice none 0 0, .slice none 0 0, .int .i64 0, .slice none 0 0, .slice none 0 0, .slice (some ⟨q3,0,none⟩) 1 1]::blk la 95 [.int .i64 0, .slice none 0 0, .slice (some ⟨q1,0,none⟩) 1 1, .slice (some ⟨lb,0,none⟩) 1 1]::L):=by
 refine Kq Ko Tryz.func50 ?_;refine' OU;(intro p0 w1 hS);refine' Ui;refine' nT (c:=Zu hS);rintro v1 w1 ⟨la,lb,rfl,hS⟩;simp only [vU] at hS;refine Qd hS ?_;(intro p1 w1 hS);((refine Kt hS ?_;intro w1 hS;have hS:=hS.ns));refine' NA;refine Pg [_,_,_] ?_;refine Rh (cs:=[_,_,_]) vw Jr ?_;intro q1 w1 hb1 hf1 _ hk1;have hS:=hS.laid hb1 hf1 hk1;refine bf rfl rfl Jd Jd ?_;refine' WR;intro w1 hS;have hS:=hS.ns;refine' NA;refine bf rfl rfl Jd Jd ?_;refine' KZ;refine M9 [_,_,_,_,_,_,_,_] ?_;refine Rh (cs:=[_,_,_,_,_,_,_,_]) vw Jr ?_;intro q2 w1 hb1 hf1 _ hk1;have hS:=hS.laid hb1 hf1 hk1;refine bf rfl rfl Jd Jd ?_;refine' WR;intro w1 hS;have hS:=hS.ns;refine' NA;refine bf rfl rfl Jd Jd ?_;refine' KZ;refine Rh (cs:=[_]) vw Jr ?_;intro q3 w1 hb1 hf1 _ hk1;have hS:=hS.laid hb1 hf1 hk1;refine bf rfl rfl Jd Jd ?_;refine' MA;refine' Nt;refine LU hS ?_;intro w1 hS;have hS:=hS.ns;refine' Sr;((refine Kt hS ?_;intro w1 hS;have hS:=hS.ns));refine' Lz;refine LF vw (Q2 (n:=1) Jk Jk (hS.blkAt fd) Jr Jr) ?_;((exact ⟨_,rfl,q1,q2,q3,la,lb,rfl,hS.sp⟩))
theorem ZC {q1 q2 q3 la lb:Nat}(hS:St cx w (blk q1 115 [.int .i64 1, .int .i64 0, .slice none 0 0]::blk q2 84 [.int .i64 1, .int .i64 0, .int .i64 0, .int .i64 0, .int .i64 0, .int .i64 5, .slice none 0 0, .slice none 0 0]::blk q3 3 [.int .i64 n]::blk lb 92 [.int .i64 0, .slice none 0 0, .slice (some ⟨q2,0,none⟩) 1 1, .int .i64 3, .int .i64 0, .int .i64 0, .slice none 0 0, .slice none 0 0, .int .i64 0, .slice none 0 0, .slice none 0 0, .slice (some ⟨q3,0,none⟩) 1 1]::blk la 95 [.int .i64 0, .slice none 0 0, .slice (some ⟨q1,0,none⟩) 1 1, .slice (some ⟨lb,0,none⟩) 1 1]::L)):∃c',cx.Le c'∧Ls.at c' [.slice (some ⟨la,0,none⟩) 1 1] (aL n)∧St c' w L:=by
 have n0:∀c:Cx,Ku.sl c (.slice none 0 0) []:=fun c=>Gj _ _ _;have n1:∀c:Cx,Kh.sl c (.slice none 0 0) []:=fun c=>Gj _ _ _;obtain ⟨c1,hle1,hS,h1⟩:=FN (r:=Ku) (x:= .mk 1 0 []) hS (PB (n0 _));obtain ⟨c2,hle2,hS,h2⟩:=FN (r:=Lb) (x:=⟨1,0,0,0,0,5,[],[]⟩) hS ⟨_,_,rfl,n1 _,n1 _⟩;obtain ⟨c3,hle3,hS,h3⟩:=FN (r:=Kh) (x:=n) hS rfl;obtain ⟨c4,hle4,hS,h4⟩:=FN (r:=Lm) (x:=⟨0,[],[⟨1,0,0,0,0,5,[],[]⟩],⟨3,0,aK,aK,[n]⟩⟩) hS (sf (x:=⟨0,[],[⟨1,0,0,0,0,5,[],[]⟩],⟨3,0,aK,aK,[n]⟩⟩) (n0 _) (Gc h2 hle3) (n1 _) (n1 _) (n1 _) (n1 _) h3);obtain ⟨c5,hle5,hS,h5⟩:=FN (r:=KD) (x:=⟨0,[],[.mk 1 0 []],[⟨0,[],[⟨1,0,0,0,0,5,[],[]⟩],⟨3,0,aK,aK,[n]⟩⟩]⟩) hS ⟨_,_,_,rfl,n0 _,Gc h1 (hle2.trans (hle3.trans hle4)),h4⟩;exact ⟨c5,hle1.trans (hle2.trans (hle3.trans (hle4.trans hle5))),⟨_,rfl,h5⟩,hS⟩
theorem eU (hS:St cx w L):Kf Tryz.prog sG [] w fun u w'=>∃c' vf,cx.Le c'∧u= .agg ⟨[vf]⟩∧Ls.at c' [vf] (aL 0)∧St c' w' L:=by
 refine (eT hS).mono fun u w' h=>?_;obtain ⟨q1,q2,q3,la,lb,rfl,hS⟩:=h;obtain ⟨c',h1,h2,h3⟩:=ZC hS;exact ⟨c',_,h1,rfl,h2,h3⟩
end
section
variable {cx:Cx}{w:World}{L:List Res}{m:Module}{inp:List Int}
theorem Qe6:Nh (aL 0) [] 9 0=(0,0):=by decide+kernel
theorem WA:(Run.all (aL 0) [] (9:Int).toNat 0).oc=⟨0,[5],[],2⟩:=by rfl
theorem R8.ok (hz:Nh m inp fuel pages=(0,0))(hs:R8 m inp fuel pages cx L u w):m.runs.1=0∧∃c' v1 v2,cx.Le c'∧u= .tuple #[mq (Run.all m inp fuel.toNat pages).oc v1 v2,KG (0,0)]∧Kh.sl c' v1 (Run.all m inp fuel.toNat pages).oc.back∧Kh.sl c' v2 (Run.all m inp fuel.toNat pages).oc.out∧St c' w L:=by
 rcases hs with ⟨h1,_⟩|⟨_,h1⟩
 · rw [hz] at h1;exact absurd rfl h1
 · exact h1
theorem R8.bad (hz:(Nh m inp fuel pages).1≠0)(hs:R8 m inp fuel pages cx L u w):u= .tuple #[.agg ⟨[.int .i64 0, .slice none 0 0, .slice none 0 0, .int .i64 0]⟩,KG (Nh m inp fuel pages)]∧St cx w L:=by
 rcases hs with ⟨_,h1⟩|⟨h1,_⟩
 · exact h1
 · rw [h1] at hz;exact absurd rfl hz
end
section
variable {cx:Cx}{w:World}{L:List Res}{i:Nat}
theorem kB.ok (hz:R4 m inp fuel pages=(0,0))(hs:kB m inp fuel pages cx L u w):∃c' v1 v2,cx.Le c'∧u= .tuple #[mq (Run.all m inp fuel.toNat pages).oc v1 v2,KG (Run.all m inp fuel.toNat pages).flt]∧Kh.sl c' v1 (Run.all m inp fuel.toNat pages).oc.back∧Kh.sl c' v2 (Run.all m inp fuel.toNat pages).oc.out∧St c' w L:=by
 rcases hs with ⟨h1,_⟩|⟨_,h1⟩
 · rw [hz] at h1;exact absurd rfl h1
 · exact h1
end
section
variable {cx:Cx}{w:World}{L:List Res}{p N:Nat}{c:MC}{z:GZ}{fr:List FrmV}{g:FrmV}{h:HpS}{out inp back:List Int}{m:Module}
def gA (inp:List Int)(fuel pages:Int):LX:=if 200<inp.length∨fuel<0∨20000<fuel∨pages<0∨64<pages then (1, -1) else (0,0)
theorem Qh2 (hi:Kh.sl cx v inp)(hS:St cx w L):Kf Tryz.prog xD [v, .int .i64 fuel, .int .i64 pages] w fun u w'=>u=KG (gA inp fuel pages)∧St cx w' L:=by
 (((((have hil:=hi.len;refine Kq Ko Tryz.func15 ?_;refine' OU;intro p6 w1 hS;refine' zn;refine' Na;refine' zL;first|(refine' QV)|(refine' QW)|(refine' Af<;>intro hc));all_goals (refine' Lv;first|refine' Kj|(refine' Kl;(first|(refine' KX)|(refine' K1)|(refine' Ae<;>intro hc)))));all_goals (refine' PQ;first|refine' Kj|(refine' Kl;(first|(refine' QV)|(refine' QW)|(refine' Af<;>intro hc)))));all_goals (refine' PQ;first|refine' Kj|(refine' Kl;(first|(refine' KX)|(refine' K1)|(refine' Ae<;>intro hc)))));all_goals (refine' PQ;first|refine' Kj|(refine' Kl;(first|(refine' QV)|(refine' QW)|(refine' Af<;>intro hc)))));all_goals (refine' Ll)
 all_goals
  first
  | (refine' Ki;all_goals (refine' Kv;refine' Kr (c:=M5 hS);rintro v1 w1 ⟨rfl,hS⟩;refine Kt hS ?_;intro w1 hS;have hS:=hS.ns;refine' Lz;refine LF vw (Q2 (n:=2) Jk Jk (hS.blkAt fd) Jr Jr) ?_);all_goals ((first|exact CJ|exact ⟨_,rfl,(by rw [show gA inp fuel pages=(1, -1) from if_pos Jo];rfl),hS.sp⟩)))
  | (refine' Kk;refine' Kx)
 refine' Kv;refine L0 [_,_] ?_;refine Kt hS ?_;intro w1 hS;have hS:=hS.ns;refine' Lz;refine LF vw (Q2 (n:=2) Jk Jk (hS.blkAt fd) Jr Jr) ?_;(exact CJ)
theorem DR.on {most:Nat}{r:Run}(hD:DR m most z fr g N h inp out back r)(hz:z.dn=false):∃s,r= .on s:=by
 cases r with
 | on s=>exact ⟨s,rfl⟩
 | over s e b=>obtain ⟨-, -, -,h4, -⟩:=hD;rw [hz] at h4;cases h4
 | stuck f=>exact hD.elim
theorem DR.over {most:Nat}{r:Run}(hD:DR m most z fr g N h inp out back r)(hz:z.dn=true):r= .over ⟨h,(match r with| .over s _ _=>s.g|_=>⟨0,0,0,[],[]⟩),(match r with| .over s _ _=>s.st|_=>[]),(match r with| .over s _ _=>s.inp|_=>[]),out,(match r with| .over s _ _=>s.fuel|_=>0)⟩ z.e back:=by
 cases r with
 | on s=>obtain ⟨-, -,h4, -⟩:=hD;rw [hz] at h4;cases h4
 | over s e b=>obtain ⟨rfl,rfl,rfl, -, -,rfl, -⟩:=hD;rfl
 | stuck f=>exact hD.elim
theorem PR.same {fr2:List FrmV}{g2:FrmV}{inp2 back2:List Int}(hP:PR m most c fr g N h inp out back r)(hD:DR m most z fr2 g2 N2 h2 inp2 out2 back2 r):h2=h∧out2=out∧back2=back∧z.dn=c.dn∧z.fu=c.fu∧z.e=c.e∧out.length≤2000∧back.length≤100000∧N2≤most+1:=by
 cases r with
 | on s=>
   obtain ⟨a1,a2,a3,a4,a5,a6,a7,a8,a9,a10⟩:=hP;obtain ⟨b1,b2,b3,b4,b5,b6,b7,b8,b9,b10,b11⟩:=hD;have e1:s.h=h:=DS;have e2:s.h=h2:=(by rw [b1];rfl);have e3:s.out=out:=DS;have e4:s.out=out2:=(by rw [b1];rfl);refine ⟨by rw [←e1,←e2],by rw [←e3,←e4],by rw [a2,b2],by rw [a3,b3],by rw [a6,b6],by rw [a5,b5],by rw [←e3];exact a10.out,by rw [a2];exact FZ _,Jo⟩
 | over s e b=>
   obtain ⟨a1,a2,a3,a4,a5,a6,a7,a8⟩:=hP;obtain ⟨b1,b2,b3,b4,b5,b6,b7,b8,b9,b10⟩:=hD;exact ⟨by rw [a1,b1],by rw [a2,b2],by rw [a3,b3],by rw [a4,b4],by rw [a6,b7],by rw [a5,b6],a7,a8,b8⟩
 | stuck f=>exact hP.elim
theorem PR.first {hp lv iv:Value}(hM:m.fault.1=0)(h0:0≤fuel):PR m fuel.toNat (P0 hp fn lv iv fuel) [] Pa 0 ⟨[],pages⟩ inp [] [] (.on (MS.start inp pages)):=
 ⟨rfl,rfl,rfl,rfl,rfl,rfl,FZ _,(FO h0).symm,FZ _,IT hM inp pages⟩
theorem DR.first {fv iv:Value}(hM:m.fault.1=0)(h0:0≤fuel)(hin:∀n∈inp,Nq n):DR m fuel.toNat (q8 fn fv iv fuel) [] Pa 0 ⟨[],pages⟩ inp [] [] (.on (MS.start inp pages)):=
 ⟨rfl,rfl,rfl,⟨rfl,rfl⟩,rfl,rfl,FZ _,(FO h0).symm,FZ _,IT hM inp pages,Rg.start hin⟩
theorem RA.on {s:MS}(hA:RA m most a (.on s))(hP:PR m most c fr g N h inp out back (.on s)):RA m most a (Run.step m most (.on s)):=by
 obtain ⟨a1,a2,a3,a4,a5,a6,a7,a8,a9,a10⟩:=hP;by_cases hk:s.fuel=most
 · rw [show Run.step m most (.on s)= .over s 7 [] from if_pos hk];exact RA.seven hA hk
 · rw [show Run.step m most (.on s)= .of m s (s.tick.one m) from if_neg hk];exact RA.more hA Jo rfl fun s' hs=>qK hs
end
end Go.Proofs.YteflkifmgnpbhaaGreat
namespace Go.Proofs.YteflkifmgnpbhaaGreat
open Go.Lir
section
variable {N:Nat}{z:GZ}{fr:List FrmV}{g:FrmV}{h:HpS}{out inp back:List Int}{m:Module}
theorem DR.fin (hD:DR m most z fr g N h inp out back r)(hA:RA m most a r)(hz:z.dn=true):a.flt=(0,0)∧a.oc=⟨z.e,back,out,z.fu⟩∧z.c=0∧z.a=0:=by
 cases r with
 | on s=>obtain ⟨-, -,h4, -⟩:=hD;rw [hz] at h4;cases h4
 | over s e b=>
   obtain ⟨b1,b2,b3,b4,⟨b5,b9⟩,b6,b7, -⟩:=hD;have hA:a= .over s e b:=hA;refine ⟨by rw [hA];rfl,by rw [hA,b2,b3,b6,b7];rfl,b5,b9⟩
 | stuck f=>exact hD.elim
theorem RA.stuck {f:LX}(hA:RA m most a r)(hr:r= .stuck f):a.flt=f∧a.oc=⟨0,[],[],0⟩:=by
 subst hr;have hA:a= .stuck f:=hA;exact ⟨by rw [hA];rfl,by rw [hA];rfl⟩
end
section
variable {N:Nat}{z:GZ}{fr:List FrmV}{g:FrmV}{h:HpS}{out inp back:List Int}{m:Module}
theorem DR.lens (hD:DR m most z fr g N h inp out back r):out.length≤2000∧back.length≤100000:=by
 cases r with
 | on s=>
   obtain ⟨a1,a2,a3,a4,a5,a6,a7,a8,a9,a10, -⟩:=hD;have e3:s.out=out:=DS;exact ⟨by rw [←e3];exact a10.out,by rw [a2];exact FZ _⟩
 | over s e b=>
   obtain ⟨-, -, -, -, -, -, -, -,a7,a8⟩:=hD;exact ⟨a7,a8⟩
 | stuck f=>exact hD.elim
end
end Go.Proofs.YteflkifmgnpbhaaGreat
namespace Go.Proofs.YteflkifmgnpbhaaGreat
open Go.Lir
attribute [local irreducible] LC.wp Q0 Qs Qi KN QD LO.wp Q7 Calls
section
variable {cx:Cx}{w:World}{L:List Res}{m:Module}{inp:List Int}
def R9 (m:Module)(inp:List Int)(fuel pages:Int)(cx:Cx)(L:List Res)(u:Value)(w':World):Prop:=
 ((Nh m inp fuel pages).1≠0∧u= .tuple #[.pointer none,KG (Nh m inp fuel pages)]∧St cx w' L)∨
 (Nh m inp fuel pages=(0,0)∧m.runs.1=0∧inp.length≤200∧0≤fuel∧fuel≤20000∧∃(n:Nat),pages=n∧n≤64∧∃c' t p q hp fn lv i1 ep fn2 lv2 i2,u= .tuple #[.pointer (some ⟨t,0,none⟩),KG (0,0)]∧cx.Le c'∧KD.sl c' fn m.funcs∧Kh.sl c' i1 inp∧KD.sl c' fn2 m.funcs∧Kh.sl c' i2 inp∧St c' w' (tX t p q (P0 hp fn lv i1 fuel) [] Pa 0 ⟨[],n⟩ [] [] (eL ep fn2 lv2 i2 fuel) [] eM (EstS.mk0 n) L))
theorem WB (hsh:m.Short)(hx:Ls.at cx cs m)(hi:Kh.sl cx v inp)(hS:St cx w L):
 Kf Tryz.prog Uo [.agg ⟨cs⟩,v, .int .i64 fuel, .int .i64 pages] w (R9 m inp fuel pages cx L):=by
 have hx':=hx;obtain ⟨vf,rfl,hf⟩:=NR hx;unfold R9;refine Kq Ko Tryz.func46 ?_;refine' KY;intro p4 w1 hS;refine' zm;refine Qd hS ?_;(intro p9 w1 hS);refine' Sr;refine' MV;refine' zm;refine' Ny (c:=eN hsh hx' hi hS);rintro v1 w1 hN;rcases hN.split with ⟨hz,rfl,hS⟩|⟨hs0,hR,hil,hf0,hf1,n,rfl,hq,c2,q,ep,fn2,lv2,i2,rfl,hle2,hfn2,hi2,hS⟩
 all_goals (unfold KG;dsimp only;refine' RT;intro p11 w1 hS;refine' zm;refine Kt hS ?_;intro w1 hS;have hS:=hS.ns;refine' L5;refine' Mn;refine' Rp;refine' zn)
 all_goals
  first
  | (refine' Ki;refine QA ?_;refine zD (ci 3 [2]) ?_;have hS:=hS.drew;refine' Ud;((refine Kt hS ?_;intro w1 hS;have hS:=hS.ns));refine' Lz;refine OJ vw vw (Q2 (n:=2) Jk Jk (hS.blkAt fd) Jr Jr) ?_;(exact AT))
  | (refine' Kk;refine' Kx)
 refine' MU;refine' MV;refine' zm;refine' Ny (c:=ku hsh (JO hx' hle2) (Gc hi hle2) hS);rintro v1 w1 hN2;rcases hN2 with ⟨hz,rfl,hS⟩|⟨-, -, -, -, -, -, -,c3,p,hp,fn,lv,i1,rfl,hle3,hfn,hi1,hS⟩;(exact absurd (by rw [uM (by rw [SG hR];decide) Jo]) hz)
 unfold KG;(dsimp only);refine' zm;refine' Sk;refine' zm;((refine Kt hS ?_;intro w1 hS;have hS:=hS.ns));refine' L5;refine' Mn;refine' Rp;refine' zn
 all_goals
  first
  | (refine' Ki;all_goals (refine QA ?_;refine zD (ci 3 [2]) ?_;have hS:=hS.drew;refine' Ud;refine Kt hS ?_;intro w1 hS;have hS:=hS.ns;refine' Lz;refine OJ vw vw (Q2 (n:=2) Jk Jk (hS.blkAt fd) Jr Jr) ?_);all_goals (exact AT))
  | (refine' Kk;refine' Kx)
 refine' Lc;refine M9 [_,_,_,_] ?_;refine zb hS ?_;intro p40 w1 hS;refine L0 [_,_] ?_;refine' zm;refine Kt hS ?_;intro w1 hS;have hS:=hS.ns;refine' Lz;refine OJ vw vw (Q2 (n:=2) Jk Jk (hS.blkAt fd) Jr Jr) ?_;((first|exact AT|(have hS:=hS.nil (T:=2) (es:=1);have hS:=hS.nil (T:=2) (es:=1);exact ⟨_,rfl, .inr ⟨hs0,hR,hil,hf0,hf1,n,rfl,hq,c3,_,p,q,hp,fn,lv,i1,ep,fn2,lv2,i2,rfl,hle2.trans hle3,hfn,hi1,Gc hfn2 hle3,Gc hi2 hle3,hS.sp⟩⟩)))
theorem R9.split (h:R9 m inp fuel pages cx L u w):((Nh m inp fuel pages).1≠0∧u= .tuple #[.pointer none,KG (Nh m inp fuel pages)]∧St cx w L)∨
 (Nh m inp fuel pages=(0,0)∧m.runs.1=0∧inp.length≤200∧0≤fuel∧fuel≤20000∧∃(n:Nat),pages=n∧n≤64∧∃c' t p q hp fn lv i1 ep fn2 lv2 i2,u= .tuple #[.pointer (some ⟨t,0,none⟩),KG (0,0)]∧cx.Le c'∧KD.sl c' fn m.funcs∧Kh.sl c' i1 inp∧KD.sl c' fn2 m.funcs∧Kh.sl c' i2 inp∧St c' w (tX t p q (P0 hp fn lv i1 fuel) [] Pa 0 ⟨[],n⟩ [] [] (eL ep fn2 lv2 i2 fuel) [] eM (EstS.mk0 n) L)):=h
theorem PR.on {c:MC}{fr:List FrmV}{g:FrmV}{N:Nat}{h:HpS}{inp1 out back:List Int}{most:Nat}{r:Run}(hP:PR m most c fr g N h inp1 out back r)(hdn:c.dn=false):∃ms,r= .on ms∧ms.fuel≤most:=by
 cases r with
 | on ms=>obtain ⟨-, -, -, -, -, -,h7, -⟩:=hP;exact ⟨ms,rfl,h7⟩
 | over ms e b=>obtain ⟨-, -, -,h4, -⟩:=hP;rw [hdn] at h4;cases h4
 | stuck f=>exact hP.elim
theorem PR.fin {c:MC}{fr:List FrmV}{g:FrmV}{N:Nat}{inp1:List Int}(hP:PR m most c fr g N h inp1 out back r)(hA:RA m most a r)(hdn:c.dn=true):a.oc=⟨c.e,back,out,c.fu⟩∧out.length≤2000∧back.length≤100000:=by
 cases r with
 | on ms=>obtain ⟨-, -,h3, -⟩:=hP;rw [hdn] at h3;cases h3
 | over ms e b=>
   obtain ⟨-,h1,h2, -,h4,h5,h6,h7⟩:=hP;have hA:a= .over ms e b:=hA;refine ⟨?_,h6,h7⟩;rw [hA,h1,h2,h4,h5];rfl
 | stuck f=>exact hP.elim
def aM (m:Module)(inp:List Int)(fuel pages:Int)(cx:Cx)(L:List Res)(u:Value)(w':World):Prop:=
 ((Nh m inp fuel pages).1≠0∧u= .tuple #[.agg ⟨[.int .i64 0, .slice none 0 0, .slice none 0 0, .int .i64 0]⟩,KG (Nh m inp fuel pages)]∧St cx w' L)∨
 (Nh m inp fuel pages=(0,0)∧m.runs.1=0∧∃c' a1 x1 y1 a2 x2 y2 oc,(Run.all m inp fuel.toNat pages).oc=oc∧cx.Le c'∧u= .tuple #[.agg ⟨[.int .i64 oc.e, .slice a1 x1 y1, .slice a2 x2 y2, .int .i64 oc.fuel]⟩,KG (0,0)]∧Kh.sl c' (.slice a1 x1 y1) oc.back∧Kh.sl c' (.slice a2 x2 y2) oc.out∧St c' w' L)
attribute [local irreducible] PR QR RA Run.all Run.oc Run.step Nh
theorem eV (hsh:m.Short)(hx:Ls.at cx cs m)(hi:Kh.sl cx v inp)(hS:St cx w L):
 Kf Tryz.prog sF [.agg ⟨cs⟩,v, .int .i64 fuel, .int .i64 pages] w (aM m inp fuel pages cx L):=by
 have hx':=hx;obtain ⟨vf,rfl,hf⟩:=NR hx;unfold aM;refine Kq Ko Tryz.func48 ?_;refine' KY;intro p4 w1 hS;refine Qd hS ?_;(intro p8 w1 hS);refine Qd hS ?_;(intro p9 w1 hS);refine' Sr;refine' MV;refine' zm;refine' Ny (c:=WB hsh hx' hi hS);rintro v1 w1 hN;rcases hN.split with ⟨hz,rfl,hS⟩|⟨hs0,hR,hil,hf0,hf1,n,rfl,hq,c2,t,p,q,hp,fn,lv,i1,ep,fn2,lv2,i2,rfl,hle2,hfn,hin,hfn2,hin2,hS⟩
 all_goals (unfold KG;dsimp only;refine' RT;intro p11 w1 hS;refine' zm;refine Kt hS ?_;intro w1 hS;have hS:=hS.ns;refine' L5;refine' Mn;refine' Rp;refine' zn)
 all_goals
  first
  | (refine' Ki;refine QA ?_;refine zC [(0,none),(1,none),(2,some (some [1])),(3,some none)] ?_;have hS:=hS.drew;refine' KW;refine L0 [_,_,_,_] ?_;refine' KO;refine zv hS ?_;refine' Lp;((refine Kt hS ?_;intro w1 hS;have hS:=hS.ns));refine' Ly;((refine Kt hS ?_;intro w1 hS;have hS:=hS.ns));refine' Lq;refine' zr;refine qP vw (Q2 (n:=4) Jk Jk (hS.blkAt fd) Jr Jr) vw (Q2 (n:=2) Jk Jk (hS.blkAt fd) Jr Jr) ?_;(exact AT))
  | (refine' Kk;refine' Kx)
 refine' bK;refine zo [8,9,10] (fun A ρ' w'=>∃(r:Run) (c:MC) (fr:List FrmV) (g:FrmV) (N:Nat) (h:HpS) (inp1 out back:List Int) (cy:RC) (fr2:List RFV) (g2:RFV) (s:EstS) (inp2:List Int),Kn ρ' A∧Kn ρ' []∧(RA m fuel.toNat (Run.all m inp fuel.toNat n) r)∧(PR m fuel.toNat c fr g N h inp1 out back r)∧(QR m fuel.toNat cy fr2 g2 s inp2 out back r)∧(KD.sl c2 c.fn m.funcs)∧(Kh.sl c2 c.iv inp1)∧(KD.sl c2 cy.fn m.funcs)∧(Kh.sl c2 cy.iv inp2)∧St c2 w' (tX t p q c fr g N h out back cy fr2 g2 s (blk p11 29 [.int .i64 0, .int .i64 0]::blk p9 29 [.int .i64 0, .int .i64 0]::blk p8 33 [.int .i64 0, .slice none 0 0, .slice none 0 0, .int .i64 0]::L))) (fun _ w'=>Zh w' p) ?_ ?_
 · exact ⟨.on (MS.start inp n),P0 hp fn lv i1 fuel,[],Pa,0,⟨[],n⟩,inp,[],[],eL ep fn2 lv2 i2 fuel,[],eM,EstS.mk0 n,inp,zh,zh,RA.first,PR.first (SG hR) hf0,QR.first hR hsh hf0 hq,hfn,hin,hfn2,hin2,hS.sp⟩
 rintro ρ w1 ⟨r,c,fr,g,N,h,inp1,out,back,cy,fr2,g2,s,inp2,hA,hρ,hRA,hP,hQ,hfn1,hin1,hfny,hiny,hS⟩;obtain ⟨ρ,rfl⟩:=Kp hA hρ;have hm0:=qR (c:=c) (L:=L) (show St c2 _ (blk p 55 c.cells::L) from hS.sp);refine' Na;refine' Mf;refine' KE (c:=mm (c:=c) (show St c2 _ (blk p 55 c.cells::_) from hS.sp));rintro v1 w1 ⟨rfl,hS⟩;cases hdn:c.dn;all_goals (refine' Nv)
 all_goals
  first
  | (refine' Ki
     refine' Kx;refine' WL;refine' KP;obtain ⟨ms,rfl,hkm⟩:=hP.on hdn;have hRA':=hRA.nx hkm;refine' KE (c:=vY hP hQ hdn hR hsh Jo hfn1 hin1 hfny hiny (show St c2 _ (tX t p q c fr g N h out back cy fr2 g2 s _) from hS.sp));rintro v1 w1 ⟨rfl,c',fr',g',N',h',inp',out',back',cy',fr2',g2',s',inp2',hP',hQ',hfn',hin',hfny',hiny',hlt,hS⟩;unfold KG;refine Qd hS ?_;intro p12 w1 hS;refine Kt hS ?_;intro w1 hS;have hS:=hS.ns;refine' NA;refine' Rp;refine' zn
     all_goals
      first
      | (refine' Ki;all_goals (refine QA ?_;refine zC [(0,none),(1,none),(2,some (some [1])),(3,some none)] ?_;have hS:=hS.drew;refine' KW;refine L0 [_,_,_,_] ?_;refine' KO;refine zv hS ?_;refine' Lp;refine Kt hS ?_;intro w1 hS;have hS:=hS.ns;refine' Ly;refine Kt hS ?_;intro w1 hS;have hS:=hS.ns;refine' Lq;refine' zr;refine qP vw (Q2 (n:=4) Jk Jk (hS.blkAt fd) Jr Jr) vw (Q2 (n:=2) Jk Jk (hS.blkAt fd) Jr Jr) ?_);all_goals (exact AT))
      | (refine' Kk;refine' Kx)
     (exact ⟨⟨Run.step m fuel.toNat (.on ms),c',fr',g',N',h',inp',out',back',cy',fr2',g2',s',inp2',zh,zh,hRA',hP',hQ',(by rw [hfn'];exact hfn1),hin',(by rw [hfny'];exact hfny),hiny',hS.sp⟩,EM⟩))
  | (refine' Kk;refine' L8;refine' KP;refine' Mf;obtain ⟨ho,hol,hbl⟩:=hP.fin hRA hdn;refine' KE (c:=vX (c:=c) (back:=back) (out:=out) (i:=0) (j:=1) (L:=sl 2 1 c.bv (back.map Qr)::sl 2 1 c.ov (out.map Qr)::_) Jo Jo rfl rfl hS.sp);rintro v1 w1 ⟨k1,u1,u2,hk1,rfl,z1,z2,hS⟩;obtain ⟨a1,n1,rfl⟩:=Fx z1;obtain ⟨a2,n2,rfl⟩:=Fx z2;refine L0 [_,_] ?_;refine Kt hS ?_;intro w1 hS;have hS:=hS.ns;refine Kt hS ?_;intro w1 hS;have hS:=hS.ns;refine' Lz;refine qP vw (Q2 (n:=4) Jk Jk (hS.blkAt fd) Jr Jr) vw (Q2 (n:=2) Jk Jk (hS.blkAt fd) Jr Jr) ?_;(first|exact AT|exact ⟨_,rfl, .inr ⟨hs0,hR,k1,a1,_,n1,a2,_,n2,⟨c.e,back,out,c.fu⟩,ho,hle2.trans hk1,rfl,z1,z2,hS.sp⟩⟩))
theorem ZD {vf:Value}(hx:Ls.at cx [vf] (aL 0))(hS:St cx w L):Kf Tryz.prog sF [.agg ⟨[vf]⟩, .slice none 0 0, .int .i64 9, .int .i64 0] w fun u w'=>∃c' a1 x1 y1 a2 x2 y2,cx.Le c'∧u= .tuple #[.agg ⟨[.int .i64 0, .slice a1 x1 y1, .slice a2 x2 y2, .int .i64 2]⟩, .agg ⟨[.int .i64 0, .int .i64 0]⟩]∧Kh.sl c' (.slice a1 x1 y1) [5]∧Kh.sl c' (.slice a2 x2 y2) []∧St c' w' L:=by
 refine (eV (m:=aL 0) (inp:=[]) (Qe7 0) hx (Gj _ _ _) hS).mono fun u w' hs=>?_;rcases hs with ⟨h1,_⟩|⟨_,_,c',a1,x1,y1,a2,x2,y2,oc,ho,h1,h2,h3,h4,h5⟩
 · rw [Qe6] at h1;exact absurd rfl h1
 · obtain rfl:oc=⟨0,[5],[],2⟩:=ho.symm.trans WA;exact ⟨c',a1,x1,y1,a2,x2,y2,h1,h2,h3,h4,h5⟩
theorem Qdf (hS:St cx w L):Kf Tryz.prog xQ [] w fun u w'=>u= .bool true∧St cx w' L:=by
 have n1:∀c:Cx,Kh.sl c (.slice none 0 0) []:=fun c=>Gj _ _ _;refine Kq Ko Tryz.func45 ?_;refine' LM;refine' Kv;refine' nT (c:=eU hS);rintro v1 w1 ⟨c1,vf,hle1,rfl,hx1,hS⟩;refine' Ny (c:=ZD hx1 hS);rintro v1 w1 ⟨c2,a1,x1,y1,a2,x2,y2,hle2,rfl,k1,k2,hS⟩;refine' RT;intro p1 w1 hS;refine Qd hS ?_;intro p2 w1 hS;refine Kt hS ?_;intro w1 hS;have hS:=hS.ns;refine Kt hS ?_;intro w1 hS;have hS:=hS.ns;refine' NA;refine' Ql;refine' zm;refine' iQ;(first|(refine' Kj)|(refine' Kl;refine Rh (cs:=[_]) vw Jr ?_;intro q5 w1 hb1 hf1 _ hk1;have hS:=hS.laid hb1 hf1 hk1));(first|refine' Kj|(refine' Kl;refine M9 [_,_,_,_] ?_));(first|(refine' Kj)|(refine' Kl;obtain ⟨c6,hle6,hS,h6⟩:=FN (r:=Kh) (x:=5) hS rfl;refine' Kr (c:=ra (Gc k1 hle6) (Gc k2 hle6) h6 (n1 _) hS);rintro v1 w1 ⟨rfl,hS⟩;rw [show decide ((0:Int)=0∧[(5:Int)]=[5]∧([]:List Int)=[]∧(2:Int)=2)=true by decide]));refine' Oy;refine' zm;refine' iQ;(first|refine' Kj|(refine' Kl;refine L0 [_,_,_,_] ?_));(first|(refine' Kj)|(refine' Kl;refine' Kr (c:=ra (Gc k1 hle6) (Gc k2 hle6) (n1 _) (n1 _) hS);rintro v1 w1 ⟨rfl,hS⟩;rw [show decide ((0:Int)=0∧[(5:Int)]=[]∧([]:List Int)=[]∧(2:Int)=0)=false by decide]));refine' PG;refine' Oy;refine' La;(exact ⟨_,rfl,rfl,Gx hS.sp (hle1.trans (hle2.trans hle6))⟩)
end
section
variable {cx:Cx}{w:World}{L:List Res}{m:Module}{inp:List Int}
attribute [local irreducible] PR QR RA Run.all Run.oc Run.step Nh Run.Tt
end
section
attribute [local irreducible] Kz LY Mv W3 M6
variable {cx:Cx}{w:World}{L:List Res}
def Rd (hp:Nat)(h:List Bool):Res:=Res.ex fun v=>star (blk hp 163 [v]) (sl 4 1 v (h.map QE))
theorem eW {hp:Nat}{h:List Bool}(hS:St cx w (Rd hp h::L)):∃v,St cx w (blk hp 163 [v]::sl 4 1 v (h.map QE)::L):=by
 obtain ⟨v,hS⟩:=St.ex hS;exact ⟨v,hS.star⟩
theorem aN {hp:Nat}{h:List Bool}(hS:St cx w (blk hp 163 [v]::sl 4 1 v (h.map QE)::L)):St cx w (Rd hp h::L):=J3 v hS.star'
theorem WC {hp:Nat}{h:List Bool}{r:Int}(hS:St cx w (blk hp 163 [v]::sl 4 1 v (h.map QE)::L)):
 Kf Tryz.prog sS [.pointer (some ⟨hp,0,none⟩), .int .i64 r] w fun u w'=>u= .bool (Kz h r)∧St cx w' (blk hp 163 [v]::sl 4 1 v (h.map QE)::L):=by
 ((have hlen:(h.map QE).length=h.length:=Fb _;refine Kq Ko Tryz.func153 ?_;refine' Nk;first|(refine' Ml)|(refine' MN)|(refine' Ag<;>intro hc));all_goals (refine' WT;(first|refine' Kj|(refine' Kl;(first|(refine QF hS hel1 rfl NX (MQ QE h false Jo) rfl ?_)|(refine zl hS ?_))));refine' XT;first|refine' Kj|(refine' Kl;(first|(refine' KX)|(refine' K1)|(refine' Ae<;>intro hc)))));all_goals (refine' PQ;refine' PK;(first|refine' Kj|(refine' Kl;(first|(refine QF hS hel1 rfl NX (MQ QE h false Jo) rfl ?_)|(refine zl hS ?_))));refine' Mc;(first|refine' Kj|(refine' Kl;(first|(refine' Nj;intro b1 o1 cs1 x1 hat1 hx1 he1;obtain rfl:=QG he1)|(refine PE hS ?_;intro b1 o1 hel1)|(refine XS hS ?_;intro b1 o1 hel1))));(first|refine' Kj|(refine' Kl;(first|(refine QF hS hel1 rfl NX (MQ QE h false Jo) rfl ?_)|(refine zl hS ?_)|(refine Rm hS ?_)|(refine ZY hS ?_)|(refine iF hS ?_)|(refine iG hS ?_))));refine' Lu;refine' La;(exact An))
theorem vZ {hp:Nat}{h:List Bool}(hl:h.length≤16)(hS:St cx w (blk hp 163 [v]::sl 4 1 v (h.map QE)::L)):
 Kf Tryz.prog sM [.pointer (some ⟨hp,0,none⟩)] w fun u w'=>∃c',cx.Le c'∧Kh.sl c' u (LY h)∧St c' w' (blk hp 163 [v]::sl 4 1 v (h.map QE)::L):=by
 have hlen:(h.map QE).length=h.length:=Fb _;refine Kq Ko Tryz.func100 ?_;refine' LM;refine' LM;refine' NO;have hS:=Hp (T:=3) (es:=1) hS;refine zo [0] (fun A ρ' w'=>∃(j:Nat) (vo:Value) (co:List (List Value)),Kn ρ' A∧Kn ρ' [(4, .int .i64 j),(3,vo)]∧(j≤h.length)∧(Kh.ls cx co (M6 h j))∧St cx w' (sl 3 1 vo co::blk hp 163 [v]::sl 4 1 v (h.map QE)::L)) (fun ρ' _=>(h.length - iv (ρ' 4)).toNat) ?_ ?_
 · exact Cy
 rintro ρ w1 ⟨j,vo,co,hA,hρ,hj,hls,hS⟩;obtain ⟨ρ,rfl⟩:=Kp hA hρ;have hll:=pN h j;have hsu:=lY h j;refine' P7;refine' Lh;(first|(refine QF hS Ja rfl Ni (MQ QE h false Jo) rfl ?_)|(refine zl hS ?_));refine' SQ;refine' WO;refine' Ab<;>intro hc
 · skip
   refine' L4;refine' WS;(first|(refine QF hS Ja rfl Ni (MQ QE h false Jo) rfl ?_)|(refine zl hS ?_));refine' zm;(first|(refine' Nj;intro b1 o1 cs1 x1 hat1 hx1 he1;obtain rfl:=QG he1)|(refine PE hS ?_;intro b1 o1 hel1));(first|(refine QF hS Ja rfl Ni (MQ QE h false Jo) rfl ?_)|(refine zl hS ?_)|(refine Rm hS ?_)|(refine ZY hS ?_)|(refine iF hS ?_)|(refine iG hS ?_));refine' zn;refine' Aa<;>intro hc
   · skip;refine' MZ;refine K8 hS [_] ?_;intro b1 w1 hS;refine za S8 UI hS ?_;intro vp1 w1 css1 hls1 hv1 hS;have hS:=hS.ns;refine' KA;refine' Mt;(exact Dd)
   · skip;refine' Kx;refine' Mt;(exact Ap)
 · skip;refine' Sn;(refine ⟨_,rfl,?_⟩;obtain ⟨c',hle,hS',hk⟩:=Gp (r:=Kh) hS hls rfl Jo;refine ⟨c',hle,?_,hS'⟩;rw [show j=h.length by omega] at hk;unfold LY;exact hk)
theorem WD {s:List Int}(hK:Kh.sl cx v s)(hS:St cx w L):Kf Tryz.prog oJ [v, .int .i64 c] w fun u w'=>u= .bool (decide (c∈s))∧St cx w' L:=by
 have hlen:=hK.len;refine Kq Ko Tryz.func154 ?_;refine' LM;refine' NO;refine MB hS [0,1] (fun A LL ρ' w'=>∃(j:Nat),Kn ρ' A∧Kn ρ' [(5, .int .i64 j)]∧(j≤s.length)∧(c∈s↔c∈s.drop j)∧St cx w' (LL)) (fun ρ' _=>(s.length - iv (ρ' 5)).toNat) ?_ ?_
 · exact Ay
 rintro ρ w1 ⟨j,hA,hρ,hj,hd,hS⟩;obtain ⟨ρ,rfl⟩:=Kp hA hρ;refine' P7;refine' Ua;refine' Ab<;>intro hc
 · skip
   (refine' L4;refine' Lc;refine' zi;intro b1 o1 cs1 x1 hat1 hx1 he1;obtain rfl:=QG he1;refine' N0;refine' zm;first|(refine' Ql)|(refine' Qp)|(refine' Ac<;>intro hc));all_goals (refine' zn)
   all_goals
    first
    | (refine' Ki;refine' KQ;((refine ⟨_,rfl,?_,hS.sp⟩;(rw [decide_eq_true];rw [hd,Q1 hx1,FA];exact .inl Jo);done)))
    | (refine' Kk;refine' Kx)
   refine' Mt;(exact C5)
 · skip;refine' Pm;(first|(refine ⟨_,rfl,?_,hS.sp⟩;rw [decide_eq_true];rw [hd,Q1 hx1,FA];exact .inl Jo;done)|(refine ⟨_,rfl,?_,hS.sp⟩;rw [decide_eq_false];rw [hd,Fh Jo];exact Fv;done))
theorem ZE {hp:Nat}{h:List Bool}(hl:h.length≤16)(hx:Kh.sl cx v2 xs)(hS:St cx w (blk hp 163 [v]::sl 4 1 v (h.map QE)::L)):
 Kf Tryz.prog sT [.pointer (some ⟨hp,0,none⟩),v2] w fun u w'=>u= .int .i64 (Mv h [] xs)∧St cx w' (blk hp 163 [v]::sl 4 1 v (h.map QE)::L):=by
 have hxl:=hx.len;have hll:(LY h).length≤h.length:=(by unfold LY;exact pN _ _);rw [Qhp];refine Kq Ko Tryz.func157 ?_;refine' LM;refine' NO;refine MB hS [0,1] (fun A LL ρ' w'=>∃(j:Nat),Kn ρ' A∧Kn ρ' [(5, .int .i64 j)]∧(j≤xs.length)∧(W3 h xs [] xs=W3 h xs (xs.take j) (xs.drop j))∧St cx w' (LL)) (fun ρ' _=>(xs.length - iv (ρ' 5)).toNat) ?_ ?_
 · exact Bb
 rintro ρ w1 ⟨j,hA,hρ,hj,hgo,hS⟩;obtain ⟨ρ,rfl⟩:=Kp hA hρ;refine' P7;refine' Ua;refine' Ab<;>intro hc
 · skip
   refine' L4;refine' Na;refine' MV;refine' zi;intro b1 o1 cs1 x1 hat1 hx1 he1;obtain rfl:=QG he1;refine' N0;rw [Q1 hx1,W3] at hgo;refine' Kr (c:=WC hS);rintro v1 w1 ⟨rfl,hS⟩;refine' Nv;refine' Aa<;>intro hc
   · skip;refine' KQ;(exact A9)
   · skip
     have hc1:Kz h x1=true:=DE;rw [if_pos hc1] at hgo;refine' Kx;refine QA ?_;refine zD (ci 8 [7]) ?_;have hS:=hS.drew;refine' MV;((refine iz vw hx rfl rfl ⟨_,rfl⟩ rfl Jo Jo ?_;intro v4 hs4;rw [F9] at hs4));refine' MV;refine' zi;intro b2 o2 cs2 x2 hat2 hx2 he2;((obtain rfl:=QG he2));refine' N0;refine' Kr (c:=WD hs4 hS);rintro v1 w1 ⟨rfl,hS⟩;obtain rfl:x1=x2:=Fm (hx1.symm.trans hx2);refine' zn;refine' Ab<;>intro hc
     · skip;refine' KQ;first|(exact A9)|(exact BL)
     · skip;refine' Kx;refine' Mt;(exact ⟨⟨j+1,zh,zh,Jo,by rw [hgo,if_neg hc,TZ hx1],hS.sp⟩,Qj Jo⟩)
 · skip
   refine' L8;refine' KP;refine' KE (c:=vZ (L:=L) hl hS.sp);rintro v5 w5 ⟨c5,hle5,hk5,hS⟩;have hx5:=hx.up hle5;have hie:j=xs.length:=Df;subst hie;rw [IQ,List.drop_length,W3] at hgo;refine' Ms;refine' SU;refine MB hS [1,6] (fun A LL ρ' w'=>∃(q:Nat),Kn ρ' A∧Kn ρ' [(7, .int .i64 q)]∧(q≤(LY h).length)∧(∀y∈(LY h).take q,y∈xs)∧St c5 w' (LL)) (fun ρ' _=>((LY h).length - iv (ρ' 7)).toNat) ?_ ?_
   · exact Ay
   rintro ρ w1 ⟨q,hA,hρ,hq,hall,hS⟩;obtain ⟨ρ,rfl⟩:=Kp hA hρ;refine' P7;refine' Ua;refine' Ab<;>intro hc
   · skip
     refine' L4;refine' Lc;refine' PM;intro b3 o3 cs3 x3 hat3 hx3 he3;obtain rfl:=QG he3;refine' N0;refine' Kr (c:=WD hx5 hS);rintro v1 w1 ⟨rfl,hS⟩;refine' Nv;refine' Aa<;>intro hc
     · skip;have hn3:x3∉xs:=DE;refine' KQ;first|(exact A9)|(exact BL)|(exact CH)
     · skip;have hn3:x3∈xs:=DE;refine' Kx;refine' Mt;((exact ⟨⟨q+1,zh,zh,Jo,bA hall hx3 hn3,hS.sp⟩,Qj Jo⟩))
   · skip;refine' Pm;first|(exact A9)|(exact BL)|(exact CH)|(exact ⟨_,rfl,(by rw [hgo,if_pos (iA hall Jo)]),Gx hS.sp hle5⟩)
theorem eY (hS:St cx w L):Kf Tryz.prog yl [.int .i64 n] w fun u w'=>∃hp v,u= .pointer (some ⟨hp,0,none⟩)∧St cx w' (blk hp 163 [v]::sl 4 1 v ((List.replicate (min n 16).toNat true).map QE)::L):=by
 refine Kq Ko Tryz.func93 ?_;refine' LM;refine' Kv;refine L0 [_] ?_;refine zb hS ?_;intro p6 w1 hS;refine' Ms;refine' SU;have hS:=Hp (T:=4) (es:=1) hS;refine zo [0,3] (fun A ρ' w'=>∃(j:Nat) (v:Value),Kn ρ' A∧Kn ρ' [(4, .int .i64 j)]∧(j≤(min n 16).toNat)∧St cx w' (sl 4 1 v ((List.replicate j true).map QE)::blk p6 163 [v]::L)) (fun ρ' _=>(min n 16 - iv (ρ' 4)).toNat) ?_ ?_
 · exact ⟨0,_,zh,zh,Jo,hS.sp⟩
 ((rintro ρ w1 ⟨j,v,hA,hρ,hj,hS⟩;obtain ⟨ρ,rfl⟩:=Kp hA hρ;refine' P7;first|(refine' KX)|(refine' K1)|(refine' Ae<;>intro hc));all_goals (refine' Lv;first|refine' Kj|(refine' Kl;(first|(refine' KX)|(refine' K1)|(refine' Ae<;>intro hc)))));all_goals (refine' Ll)
 all_goals
  first
  | (refine' Ki;refine' L4;refine' MZ;refine' Mf;refine K8 hS [_] ?_;intro b1 w1 hS;refine NL jd (.inl lN) hS vw vw fd (hS.srcB1 fd rfl) Di ?_;intro vp w2 hS;have hS:=hS.ns;rw [show (List.replicate j true).map QE++[[Value.bool true]]=(List.replicate (j+1) true).map QE by rw [Il,FG];rfl] at hS;refine' Lh;refine LU hS ?_;intro w1 hS;have hS:=hS.ns;refine' zn;refine' Mt;(exact ⟨⟨j+1,_,zh,zh,Jo,hS.sp⟩,Qj Jo⟩))
  | (refine' Kk;all_goals (refine' Sn);all_goals (exact B8))
end
section
attribute [local irreducible] Kz LY Mv M6 NJ K6 Lf
variable {cx:Cx}{w:World}{L:List Res}{j:JP}{h:List Bool}{vl:Value}{css:List (List Value)}{i:Nat}{m:Module}
@[reducible] def JP.kcells (j:JP)(vl:Value):List Value:=[j.vm, .int .i64 j.f.regs,j.vp,j.vr,j.vb, .pointer (some ⟨j.hp,0,none⟩),vl]
theorem WE {hp:Nat}{r:Int}(hS:St cx w L)(hi:nth L i=some (Rd hp h)):Kf Tryz.prog sS [.pointer (some ⟨hp,0,none⟩), .int .i64 r] w fun u w'=>u= .bool (Kz h r)∧St cx w' L:=by
 obtain ⟨v,h2⟩:=eW (hS.out hi);refine (WC h2).mono ?_;rintro u w' ⟨h3,h4⟩;exact ⟨h3,FK (aN h4) hi⟩
theorem ZF {hp:Nat}(hl:h.length≤16)(hS:St cx w L)(hi:nth L i=some (Rd hp h)):Kf Tryz.prog sM [.pointer (some ⟨hp,0,none⟩)] w fun u w'=>∃c',cx.Le c'∧Kh.sl c' u (LY h)∧St c' w' L:=by
 obtain ⟨v,h2⟩:=eW (hS.out hi);refine (vZ hl h2).mono ?_;rintro u w' ⟨c',h3,h5,h4⟩;exact ⟨c',h3,h5,FK (aN h4) hi⟩
theorem ZG {hp:Nat}(hl:h.length≤16)(hx:Kh.sl cx v2 xs)(hS:St cx w L)(hi:nth L i=some (Rd hp h)):Kf Tryz.prog sT [.pointer (some ⟨hp,0,none⟩),v2] w fun u w'=>u= .int .i64 (Mv h [] xs)∧St cx w' L:=by
 obtain ⟨v,h2⟩:=eW (hS.out hi);refine (ZE hl hx h2).mono ?_;rintro u w' ⟨h3,h4⟩;exact ⟨h3,FK (aN h4) hi⟩
theorem RD {k kd:Int}{held:Bool}(hls:Ku.ls cx css s.l)(hS:St cx w (blk j.sp 158 (j.kcells vl)::Rd j.hp s.h::sl 115 3 vl css::L)):
 Kf Tryz.prog yq [.pointer (some ⟨j.sp,0,none⟩), .int .i64 k, .int .i64 kd, .bool held] w fun u w'=>u= .int .i64 (Lf s k kd held)∧St cx w' (blk j.sp 158 (j.kcells vl)::Rd j.hp s.h::sl 115 3 vl css::L):=by
 ((have hlc:=hls.1;refine Kq Ko Tryz.func98 ?_;refine' Mq;first|(refine' KX)|(refine' K1)|(refine' Ae<;>intro hc));all_goals (refine' Sm;refine' Sp;(first|refine' Kj|(refine' Kl;refine QL hS vw fd hlc ?_));first|refine' Kj|(refine' Kl;(first|(refine' Ml)|(refine' MN)|(refine' Ag<;>intro hc)))));all_goals (refine' Ll)
 all_goals
  first
  | (refine' Ki;all_goals (refine' KQ);all_goals (refine ⟨_,rfl,?_,hS.sp⟩;rw [l8 Jo];done))
  | (refine' Kk;refine' Kx)
 (refine' Oe;obtain ⟨t,ht⟩:∃t,s.l[k.toNat]?=some t:=⟨_,E7 Jo⟩;obtain ⟨d,hd,hrd⟩:=hls.2 _ _ ht;obtain ⟨vd,rfl,hld⟩:=Qf hrd;refine' So;refine' zm;(first|(refine' Nj;intro b1 o1 cs1 x1 hat1 hx1 he1;obtain ⟨vl1,rfl,hl1⟩:=Qf he1)|(refine PE hS ?_;intro b1 o1 hel1)|(refine XS hS ?_;intro b1 o1 hel1));refine' Nt;refine QF hS hel1 rfl fd rfl hd rfl ?_;refine' zm;first|(refine' QO)|(refine' QU)|(refine' Ad<;>intro hc));all_goals (refine' zn)
 all_goals
  first
  | (refine' Ki;refine' KQ;first|(refine ⟨_,rfl,?_,hS.sp⟩;rw [l8 Jo];done)|(refine ⟨_,rfl,?_,hS.sp⟩;rw [pY Jo ht Jo];done))
  | (refine' Kk;refine' Kx)
 (refine' Oe;cases held;all_goals (refine zD (ci 17 [14,16]) ?_;have hS:=hS.drew;refine' zm;refine' Lv;refine' Sp;refine' Mc;refine' Sp;refine' Mc;(first|refine' Kj|(refine' Kl;(first|(refine' Nj;intro b2 o2 cs2 x2 hat2 hx2 he2;obtain ⟨vl2,rfl,hl2⟩:=Qf he2)|(refine PE hS ?_;intro b2 o2 hel2)|(refine XS hS ?_;intro b2 o2 hel2))));refine' MT;(first|refine' Kj|(refine' Kl;refine Q9 (j:=1) hS hel2 rfl fd rfl hd rfl ?_));first|refine' Kj|(refine' Kl;refine' Kr (c:=WE hS fd);rintro v1 w1 ⟨rfl,hS⟩;cases hb:Kz s.h t.r)));all_goals (refine' PG;refine' Ll)
 all_goals
  first
  | (refine' Ki;refine' KQ;first|(refine ⟨_,rfl,?_,hS.sp⟩;rw [l8 Jo];done)|(refine ⟨_,rfl,?_,hS.sp⟩;rw [pY Jo ht Jo];done)|(refine ⟨_,rfl,?_,hS.sp⟩;rw [um Jo ht Jo hb];done))
  | (refine' Kk;all_goals refine' Kx)
 all_goals (refine' KQ;first|(refine ⟨_,rfl,?_,hS.sp⟩;rw [l8 Jo];done)|(refine ⟨_,rfl,?_,hS.sp⟩;rw [pY Jo ht Jo];done)|(refine ⟨_,rfl,?_,hS.sp⟩;rw [um Jo ht Jo hb];done)|(refine ⟨_,rfl,?_,hS.sp⟩;rw [Vw Jo ht Jo (fun h=>Bool.noConfusion h)];done)|(refine ⟨_,rfl,?_,hS.sp⟩;rw [Vw Jo ht Jo (fun _=>hb)];done))
theorem rb {regs:List Int}{want:List Ty}{v1 v3:Value}(hsh:∀t∈want,t.Short)(hls:Ku.ls cx css s.l)(h1:Kh.sl cx v1 l)(h2:Ku.sl cx v2 want)(h3:Kh.sl cx v3 regs)(hS:St cx w (blk j.sp 158 (j.kcells vl)::Rd j.hp s.h::sl 115 3 vl css::L)):
 Kf Tryz.prog yr [.pointer (some ⟨j.sp,0,none⟩),v1,v2,v3] w fun u w'=>u= .int .i64 (QQ (OF s l want regs))∧St cx w' (blk j.sp 158 (j.kcells vl)::Rd j.hp s.h::sl 115 3 vl css::L):=by
 (have hl1:=h1.len;have hl2:=h2.len;have hlc:=hls.1;have hle:=FV hS;have hlsX:=hls.2;unfold OF;refine Kq Ko Tryz.func99 ?_;refine' Mq;(first|(refine QL hS vw fd hlc ?_)|(refine' zL));refine' zm;(first|(refine QL hS vw fd hlc ?_)|(refine' zL));first|(refine' QO)|(refine' QU)|(refine' Ad<;>intro hc));all_goals (refine' zn)
 all_goals
  first
  | (refine' Ki;refine' KQ;(exact Ba))
  | (refine' Kk;refine' Kx)
 refine' NO;refine MB hS [0,1,2,3] (fun A LL ρ' w'=>∃(k0:Cx) (q:Nat),Kn ρ' A∧Kn ρ' [(9, .int .i64 q)]∧(cx.Le k0)∧(q≤l.length)∧(NT s regs l want=NT s regs (l.drop q) (want.drop q))∧(want.length=l.length)∧St k0 w' (LL)) (fun ρ' _=>(l.length - iv (ρ' 9)).toNat) ?_ ?_
 · exact ⟨cx,0,zh,zh,FV hS,Jo,by rfl,Jo,hS.sp⟩
 rintro ρ w1 ⟨k0,q,hA,hρ,hle2,hq,hd,hw,hS⟩;obtain ⟨ρ,rfl⟩:=Kp hA hρ;have hL0:=hle2;(try have hle:=hle.trans hle2);(try have hls:=hls.up hle2);(try have h1:=h1.up hle2);(try have h2:=h2.up hle2);(try have h3:=h3.up hle2);refine' P7;(first|(refine QL hS vw fd hlc ?_)|(refine' zL));refine' WO;refine' Ab<;>intro hc
 · skip
   ((refine' L4;refine' Oe;refine zD (ci 17 [16]) ?_;have hS:=hS.drew;refine' MV;refine' zi;intro b1 o1 cs1 x1 hat1 hx1 he1;obtain rfl:=QG he1;refine' N0;first|(refine' KX)|(refine' K1)|(refine' Ae<;>intro hc));all_goals (refine' Sm;(first|refine' Kj|(refine' Kl;refine TY vw rfl h1 rfl Jo ?_;intro b8 o8 cs8 x8 hat8 hx8 he8;obtain rfl:=QG he8;obtain rfl:x1=x8:=Fm (hx1.symm.trans hx8)));refine' iN;refine' Mc;refine' Sp;(first|refine' Kj|(refine' Kl;refine QL hS vw fd hlc ?_));first|refine' Kj|(refine' Kl;(first|(refine' Ml)|(refine' MN)|(refine' Ag<;>intro hc)))));all_goals (refine' Ll)
   all_goals
    first
    | (refine' Kk;refine' Kx)
    | (refine' Ki;all_goals (refine' KQ);all_goals (first|(exact Ba)|(exact ⟨_,rfl,by rw [if_neg Jo,hd,l3 hx1 (E7 Jo) (al Jo)];rfl,Gx hS.sp hL0⟩)))
   refine QA ?_;obtain ⟨t,ht⟩:∃t,s.l[x1.toNat]?=some t:=⟨_,E7 Jo⟩;obtain ⟨d,hdt,hrd⟩:=hls.2 _ _ ht;have g1:=YN Jo ht;refine' LS;refine' zm;refine' zm;((refine' zi;intro b2 o2 cs2 x2 hat2 hx2 he2;((obtain ⟨vl2,rfl,hl2⟩:=Qf he2))));refine' Oa;refine' zm;refine' Kr (c:=qT x2 (hsh x2 (Fa hx2)) he2 h3 hS);rintro v1 w1 ⟨c3,ds,rfl,hle2,hu3,hS⟩;(try have hle:=hle.trans hle2);(try have hL0:=hL0.trans hle2);(try have hl2:=hl2.up hle2);(try have he2:=he2.up hle2);(try have hls:=hls.up hle2);(try have h1:=h1.up hle2);(try have h2:=h2.up hle2);(try have h3:=h3.up hle2);have hrd:=JO hrd hle2;(have hrd':=hrd);obtain ⟨vd,rfl,hld⟩:=Qf hrd;rcases hn:x2.ren regs with _|y<;>rw [hn] at hu3<;>simp only [Option.getD_none,GS] at hu3<;>(have hu3':=hu3)<;>obtain ⟨vu,rfl,hlu⟩:=Qf hu3
   all_goals (refine' RT;intro p10 w1 hS;refine Kt hS ?_;intro w1 hS;have hS:=hS.ns;refine' Ms;refine zD (ci 17 [14,16]) ?_;have hS:=hS.drew;refine' zm;refine' PC;refine' zm;refine' iQ;refine' Mc;refine' Sp;refine' Mc;refine' Mc;(first|refine' Kj|(refine' Kl;refine TY vw rfl h1 rfl Jo ?_;intro b4 o4 cs4 x4 hat4 hx4 he4;obtain rfl:=QG he4;obtain rfl:x1=x4:=Fm (hx1.symm.trans hx4)));refine' iN;(first|refine' Kj|(refine' Kl;refine P5 hS vw rfl fd Jo Jo ?_;intro b5 o5 hel5));(first|refine' Kj|(refine' Kl;refine bu hS hel5 rfl fd rfl hdt ?_));first|refine' Kj|(refine' Kl;refine' Kr (c:=pc _ _ hu3' hrd' hS);rintro v1 w1 ⟨rfl,hS⟩;cases hdc:decide (y=t)));all_goals (refine' PG;refine' Ll)
   all_goals
    first
    | (refine' Ki;all_goals (refine' KQ);all_goals (first|(exact Ba)|(exact ⟨_,rfl,by rw [if_neg Jo,hd,l3 hx1 (E7 Jo) (al Jo)];rfl,Gx hS.sp hL0⟩)|(exact CY)|(exact Ck)))
    | (refine' Kk;refine' Kx)
   refine' Mt;(exact ⟨⟨_,q+1,zh,zh,hL0,Jo,by rw [hd,tR hx1 hx2 g1 hn (of_decide_eq_true hdc).symm],hw,hS.sp⟩,Qj Jo⟩)
 · skip;refine' Pm;first|(exact Ba)|(exact ⟨_,rfl,by rw [if_neg Jo,hd,l3 hx1 (E7 Jo) (al Jo)];rfl,Gx hS.sp hL0⟩)|(exact CY)|(exact Ck)|(exact ⟨_,rfl,by rw [if_neg Jo,hd,tS Jo];rfl,Gx hS.sp hL0⟩)
theorem mA (hn:xs.length≤1000)(hS:St cx w (sl 3 1 v (xs.map Qr)::L)):Kf Tryz.prog X4 [v] w fun u w'=>u= .int .i64 (ND xs)∧St cx w' (sl 3 1 v (xs.map Qr)::L):=by
 have hlc:(xs.map Qr).length=xs.length:=Fb _;refine Kq Ko Tryz.func151 ?_;refine' LM;refine' NO;refine MB hS [0] (fun A LL ρ' w'=>∃(q:Nat),Kn ρ' A∧Kn ρ' [(3, .int .i64 q)]∧(q≤xs.length)∧(ND xs=ND (xs.drop q))∧St cx w' (LL)) (fun ρ' _=>(xs.length - iv (ρ' 3)).toNat) ?_ ?_
 · exact Bb
 rintro ρ w1 ⟨q,hA,hρ,hq,hd,hS⟩;obtain ⟨ρ,rfl⟩:=Kp hA hρ;refine' P7;refine QL hS vw fd hlc ?_;refine' WO;refine' Ab<;>intro hc
 · skip
   (refine' Ub;obtain ⟨x,hx⟩:∃x,xs[q]?=some x:=⟨_,E7 Jo⟩;have hxc:(xs.map Qr)[q]?=some (Qr x):=(by rw [Fy,hx];rfl);refine' MZ;refine RI hS vw rfl fd Jo ?_;intro b1 o1 hel1;refine QF hS hel1 rfl fd rfl hxc rfl ?_;first|(refine' QO)|(refine' QU)|(refine' Ad<;>intro hc));all_goals (refine' zn)
   all_goals
    first
    | (refine' Ki;refine' Lc;refine RI hS vw rfl fd Jo ?_;intro b2 o2 hel2;refine QF hS hel2 rfl fd rfl hxc rfl ?_;refine' La;((refine ⟨_,rfl,?_,hS.sp⟩;(rw [hd,Q1 hx,ND,if_pos Jo]);done)))
    | (refine' Kk;refine' Kx)
   refine' Mt;(exact ⟨⟨q+1,zh,zh,Jo,by rw [hd,Q1 hx,ND,if_neg Jo],hS.sp⟩,Qj Jo⟩)
 · skip;refine' Pm;(first|(refine ⟨_,rfl,?_,hS.sp⟩;rw [hd,Q1 hx,ND,if_pos Jo];done)|(refine ⟨_,rfl,?_,hS.sp⟩;rw [hd,Fh Jo];rfl;done))
end
section
attribute [local irreducible] Kz LY Mv M6 NJ K6 Lf ND KV
variable {cx:Cx}{w:World}{L:List Res}{j:JP}{h:List Bool}{vl:Value}{css:List (List Value)}{i:Nat}{m:Module}

@[reducible] def LQ (j:JP)(s:JS)(vl:Value)(css:List (List Value))(L:List Res):List Res:=blk j.sp 158 (j.kcells vl)::Rd j.hp s.h::sl 115 3 vl css::L
theorem WG (hm:m.Short)(hF:Qx m.funcs.length x=0)(hg:JGood s)(hj:j.Fits cx m)(hx:Lb.at cx cs x)(hls:Ku.ls cx css s.l)(hS:St cx w (blk j.sp 158 (j.kcells vl)::Rd j.hp s.h::sl 115 3 vl css::L)):
 Kf Tryz.prog yn [.pointer (some ⟨j.sp,0,none⟩), .agg ⟨cs⟩] w fun u w'=>∃c' v,cx.Le c'∧u= .tuple #[v, .int .i64 (QQ (KV m j.f s x))]∧(∀ts,KV m j.f s x= .ok ts→Ku.sl c' v ts)∧St c' w' (blk j.sp 158 (j.kcells vl)::Rd j.hp s.h::sl 115 3 vl css::L):=by
 (have hx':=hx;have hop:=aq hF;have hlc:=hls.1;have hn:=hg.n;have hm1:=hj.m;have hN:∀{c:Cx},Ku.at c [.int .i64 1, .int .i64 0, .slice none 0 0] Ks:=PB (Gj _ _ _);obtain ⟨vr,va,rfl,hr,ha⟩:=Nx hx;have hlr:=hr.len;have hla:=ha.len;refine Kq Ko Tryz.func95 ?_;refine' KY;intro p3 w1 hS;refine' zm;refine' KA;refine' Kv;refine Pg [_,_,_] ?_;refine Rh (cs:=[_,_,_]) vw Jr ?_;intro nb w1 hb1 hf1 _ hk1;have hS:=hS.laid hb1 hf1 hk1;refine' Ms;refine' Mn;refine' SZ;refine QA ?_;refine' Kv;first|(refine' Ql)|(refine' Qp)|(refine' Ac<;>intro hc));all_goals (refine' KA)
 all_goals
  first
  | (refine' Ki;refine' Kx)
  | (refine' Kk;(refine' LS;first|(refine' Ql)|(refine' Qp)|(refine' Ac<;>intro hc));all_goals (refine' zm);all_goals refine' zn)
 all_goals
  first
  | (refine' Ki;all_goals (refine' Lc;refine' KA;have hM:KV m j.f s x= .ok [Ks]:=Vx Jo;refine' Oi);all_goals (first|(exact Ar)|(exact AA)|(exact Ax)|(obtain ⟨c9,hle9,hS,hk9⟩:=FN (r:=Ku) (L:=LQ j s vl css L) hS.sp (hN:Ku.at _ _ Ks);exact AB)|(obtain ⟨c9,hle9,hS,hk9⟩:=FN (r:=Ku) (L:=LQ j s vl css L) hS.sp (hN:Ku.at _ _ Ks);exact Av)))
  | (refine' Kk
     (refine' Kv;first|(refine' Ql)|(refine' Qp)|(refine' Ac<;>intro hc));all_goals (refine' KA)
     all_goals
      first
      | (refine' Ki;refine QA ?_;refine zC [(0,none),(1,none),(2,none),(3,none),(5,none),(6,none),(7,none),(4,some (some [7])),(8,some (some [])),(9,some (some [])),(10,some (some [])),(11,none),(12,some none)] ?_;have hS:=hS.drew;refine' Og;refine' NS;refine' Ny (c:=RD (s:=s) (k:=x.a) (kd:=1) (held:=false) hls hS.p3);rintro v1 w1 ⟨rfl,hS⟩;refine' Li;refine' Ny (c:=RD (s:=s) (k:=x.b) (kd:=1) (held:=false) hls hS.p3);rintro v1 w1 ⟨rfl,hS⟩;refine' Li;refine nu (cs:=[_,_]) vw vw Jr ?_;intro fb w1 hb1 hf1 _ hk1;have hS:=hS.laid hb1 hf1 hk1;have hS:=Gh (es:=1) (css:=[Lf s x.a 1 false,Lf s x.b 1 false].map Qr) hS rfl Dp rfl;refine' Li;refine' KE (c:=mA (xs:=[Lf s x.a 1 false,Lf s x.b 1 false]) Js hS);rintro v1 w1 ⟨rfl,hS⟩;refine' Mp;refine' zm;refine' XY;have hC:QQ (KV m j.f s x)=ND [Lf s x.a 1 false,Lf s x.b 1 false]:=(by rw [Vy Jo,YV,YV];exact qe (Vs _ _ _) (Vs _ _ _) _);have hT:∀ts,KV m j.f s x= .ok ts→ts=[Ks]:=(fun ts h=>by rw [Vy Jo] at h;exact YU h fun _ h=>YU h fun _ h=>by cases h;rfl);refine' Oi;first|(exact Ar)|(exact AA)|(exact Ax)|(obtain ⟨c9,hle9,hS,hk9⟩:=FN (r:=Ku) (L:=LQ j s vl css L) hS.sp (hN:Ku.at _ _ Ks);exact AB))
      | (refine' Kk
         (refine' Kv;first|(refine' Ql)|(refine' Qp)|(refine' Ac<;>intro hc));all_goals (refine' KA)
         all_goals
          first
          | (refine' Ki
             (refine' Na;refine' Mf;refine' Lh;obtain ⟨vh,hS⟩:=eW (hp:=j.hp) (h:=s.h) (L:=blk j.sp 158 (j.kcells vl)::sl 115 3 vl css::blk nb 115 [.int .i64 1, .int .i64 0, .slice none 0 0]::blk p3 84 [.int .i64 x.op, .int .i64 x.a, .int .i64 x.b, .int .i64 x.c, .int .i64 x.k, .int .i64 x.n,vr,va]::L) hS.sp;refine QX hS vw fd rfl ?_;refine QL hS vw fd (Fb _) ?_;have hS:=aN (L:=blk j.sp 158 (j.kcells vl)::sl 115 3 vl css::blk nb 115 [.int .i64 1, .int .i64 0, .slice none 0 0]::blk p3 84 [.int .i64 x.op, .int .i64 x.a, .int .i64 x.b, .int .i64 x.c, .int .i64 x.k, .int .i64 x.n,vr,va]::L) (h:=s.h) (hp:=j.hp) (v:=vh) hS.sp;first|(refine' Ql)|(refine' Qp)|(refine' Ac<;>intro hc));all_goals (refine' zn)
             all_goals
              first
              | (refine' Ki;refine' Nz;have hM:KV m j.f s x= .error 2:=(by rw [R0 Jo];exact if_pos Jo);refine' Oi;((exact Ar)))
              | (refine' Kk;refine' Kx)
             refine' KP;refine' Mf;refine' Lh;obtain ⟨vh,hS⟩:=eW (hp:=j.hp) (h:=s.h) (L:=blk j.sp 158 (j.kcells vl)::sl 115 3 vl css::blk nb 115 [.int .i64 1, .int .i64 0, .slice none 0 0]::blk p3 84 [.int .i64 x.op, .int .i64 x.a, .int .i64 x.b, .int .i64 x.c, .int .i64 x.k, .int .i64 x.n,vr,va]::L) hS.sp;refine QX hS vw fd rfl ?_;refine QL hS vw fd (Fb _) ?_;have hS:=aN (L:=blk j.sp 158 (j.kcells vl)::sl 115 3 vl css::blk nb 115 [.int .i64 1, .int .i64 0, .slice none 0 0]::blk p3 84 [.int .i64 x.op, .int .i64 x.a, .int .i64 x.b, .int .i64 x.c, .int .i64 x.k, .int .i64 x.n,vr,va]::L) (h:=s.h) (hp:=j.hp) (v:=vh) hS.sp;refine M9 [_,_,_] ?_;refine Rh (cs:=[_,_,_]) vw Jr ?_;intro ob w1 hb1 hf1 _ hk1;have hS:=hS.laid hb1 hf1 hk1;refine' zm;refine' KA;have hM:KV m j.f s x= .ok [.mk 2 s.h.length []]:=(by rw [R0 Jo];exact if_neg Jo);have hrow:∀{c:Cx},Ku.at c [.int .i64 2, .int .i64 s.h.length, .slice none 0 0] (.mk 2 s.h.length []):=PB (Gj _ _ _);refine' Oi;first|(exact Ar)|(exact AA)|(exact Ax)|(obtain ⟨c9,hle9,hS,hk9⟩:=FN (r:=Ku) (L:=LQ j s vl css L) hS.sp (hN:Ku.at _ _ Ks);exact AB)|(obtain ⟨c9,hle9,hS,hk9⟩:=FN (r:=Ku) (L:=LQ j s vl css L) hS.sp (hN:Ku.at _ _ Ks);exact Av)|(obtain ⟨c9,hle9,hS,hk9⟩:=FN (r:=Ku) (L:=LQ j s vl css L) hS.sp hrow;exact Av))
          | (refine' Kk
             (refine' Kv;first|(refine' Ql)|(refine' Qp)|(refine' Ac<;>intro hc));all_goals (refine' KA)
             all_goals
              first
              | (refine' Ki
                 refine' KP;refine' KZ;refine' Ny (c:=RD (s:=s) (k:=x.a) (kd:=2) (held:=true) hls hS.p3);rintro v1 w1 ⟨rfl,hS⟩;refine' KA;rcases Jv (Lf s x.a 2 true=0) with hw|hw;rotate_left;have hM:KV m j.f s x= .error (Lf s x.a 2 true):=(by rw [dN Jo,Qw (pZ hw)]);rotate_left;obtain ⟨t,g0,g1,ht,hk,hb,hjt⟩:=qf (s:=s) (k:=x.a) (kd:=2) Jo;obtain ⟨d,hd,hrd⟩:=hls.2 _ _ ht;have hrt:=hrd;obtain ⟨vd,rfl,hld⟩:=Qf hrd
                 all_goals (refine' Oe;refine zD (ci 19 [18]) ?_;have hS:=hS.drew;refine' zm;refine' Z0;refine' Lv;refine' Sp;refine' PH;(first|refine' Kj|(refine' Kl;refine P5 hS vw rfl fd Jo Jo ?_;intro b1 o1 hel1));refine' MT;(first|refine' Kj|(refine' Kl;refine Q9 (j:=1) hS hel1 rfl fd rfl hd rfl ?_));refine' Mc;refine' PK;refine' MT;refine' Rn;first|refine' Kj|(refine' Kl;(first|(refine' KX)|(refine' K1)|(refine' Ae<;>intro hc))));all_goals (refine' Ll)
                 all_goals
                  first
                  | (refine' Ki;refine' LV;refine' zn)
                  | (refine' Kk;all_goals refine' Kx)
                 all_goals (refine' Lc;refine' SW);all_goals (first|(exact Ar)|(exact AA)|(exact Ax)|(obtain ⟨c9,hle9,hS,hk9⟩:=FN (r:=Ku) (L:=LQ j s vl css L) hS.sp (hN:Ku.at _ _ Ks);exact AB)|(obtain ⟨c9,hle9,hS,hk9⟩:=FN (r:=Ku) (L:=LQ j s vl css L) hS.sp (hN:Ku.at _ _ Ks);exact Av)|(obtain ⟨c9,hle9,hS,hk9⟩:=FN (r:=Ku) (L:=LQ j s vl css L) hS.sp hrow;exact Av)|(obtain ⟨c9,hle9,hS,hk9⟩:=FN (r:=Ku) (L:=LQ j s vl css L) hS.sp hrow;exact AU)|(exact A3)|(exact A6)|(have hM:KV m j.f s x= .error 11:=(by rw [dN Jo,Q3 hjt,if_pos Jo]);exact Ar)|(have hM:KV m j.f s x= .ok []:=(by rw [dN Jo,Q3 hjt,if_neg Jo]);exact Ax)))
              | (refine' Kk
                 (refine' Kv;first|(refine' Ql)|(refine' Qp)|(refine' Ac<;>intro hc));all_goals (refine' KA)
                 all_goals
                  first
                  | (refine' Ki
                     (refine' P6;refine' Ny (c:=RD (s:=s) (k:=x.a) (kd:=2) (held:=true) hls hS.p3);rintro v1 w1 ⟨rfl,hS⟩;refine' L6;first|(refine' QO)|(refine' QU)|(refine' Ad<;>intro hc));all_goals (refine' zn)
                     all_goals
                      first
                      | (refine' Ki;refine' Lc;refine' KA;have hM:KV m j.f s x= .error (Lf s x.a 2 true):=(by rw [j6 Jo,Qw (pZ Jo)]);refine' Oi;((exact Ar)))
                      | (refine' Kk;refine' Kx)
                     refine QA ?_;have hal:=uv hF Jo;obtain ⟨t,g0,g1,ht,hk,hb,hjt⟩:=qf (s:=s) (k:=x.a) (kd:=2) Jo;obtain ⟨d,hd,hrd⟩:=hls.2 _ _ ht;have hrt:=hrd;obtain ⟨vd,rfl,hld⟩:=Qf hrd;refine zC [(0,none),(1,none),(2,none),(3,none),(4,none),(5,none),(6,none),(7,none),(8,none),(9,none),(10,some (some [3,5,8])),(11,some none)] ?_;have hS:=hS.drew;refine' Pk;refine' Ug;refine P5 hS vw rfl fd Jo Jo ?_;intro b1 o1 hel1;refine' KO;refine' XW;refine Q9 (j:=1) hS hel1 rfl fd rfl hd rfl ?_;refine' KO;refine M9 [_,_,_] ?_;refine' PL;intro p9 w1 hS;refine' zt;refine ⟨Fe.2 ⟨(by first|(exact Bo)|(exact As)),Fe.2 ⟨(by first|(exact Bo)|(exact As)),Fe.2 ⟨(by (exact Bo)),fun _ h=>(Fv h).elim⟩⟩⟩,?_⟩;refine' LG;refine Kt hS ?_;intro w1 hS;have hS:=hS.ns;refine' Lq;refine' NO;have hS:=Hp (T:=115) (es:=3) hS;refine zo [0,3,9] (fun A ρ' w'=>∃(q:Nat) (vo:Value) (co:List (List Value)) (ts:List Ty),Kn ρ' A∧Kn ρ' [(10, .int .i64 q)]∧(q≤x.args.length)∧(Ku.ls cx co ts)∧(ts.length=q)∧(oneC vo=true)∧(Kw s x.args=Kg (Kw s (x.args.drop q)) fun l=> .ok (ts++l))∧St cx w' (sl 115 3 vo co::blk p9 115 [.int .i64 3, .int .i64 t.r,vo]::blk nb 115 [.int .i64 1, .int .i64 0, .slice none 0 0]::blk p3 84 [.int .i64 x.op, .int .i64 x.a, .int .i64 x.b, .int .i64 x.c, .int .i64 x.k, .int .i64 x.n,vr,va]::blk j.sp 158 (j.kcells vl)::Rd j.hp s.h::sl 115 3 vl css::L)) (fun ρ' _=>(x.args.length - iv (ρ' 10)).toNat) ?_ ?_
                     · exact CC
                     rintro ρ w1 ⟨q,vo,co,ts,hA,hρ,hq,hlo,hlt,hvo,hdf,hS⟩;obtain ⟨ρ,rfl⟩:=Kp hA hρ;refine' P6;(first|(refine QL hS vw fd hlc ?_)|(refine' zL));refine' WO;refine' Ab<;>intro hc
                     · skip
                       ((refine' L4;refine' Oe;refine zD (ci 19 [18]) ?_;have hS:=hS.drew;refine' KZ;refine' zm;refine' zi;intro b1 o1 cs1 x1 hat1 hx1 he1;obtain rfl:=QG he1;refine' N0;first|(refine' KX)|(refine' K1)|(refine' Ae<;>intro hc));all_goals (refine' Md;refine' Mc;(first|refine' Kj|(refine' Kl;refine TY vw rfl ha rfl Jo ?_;intro b8 o8 cs8 x8 hat8 hx8 he8;obtain rfl:=QG he8;obtain rfl:x1=x8:=Fm (hx1.symm.trans hx8)));refine' iN;refine' Mc;refine' Sp;(first|refine' Kj|(refine' Kl;refine QL hS vw fd hlc ?_));first|refine' Kj|(refine' Kl;(first|(refine' Ml)|(refine' MN)|(refine' Ag<;>intro hc)))));all_goals (refine' Ll)
                       all_goals
                        first
                        | (refine' Ki;all_goals (refine' Nz;have hM:KV m j.f s x= .error 1:=(by rw [j6 Jo,Q3 hjt,Qw (tT hx1 hdf (al Jo))]);refine' Oi);all_goals (exact Ar))
                        | (refine' Kk;refine' Kx)
                       obtain ⟨t2,ht2⟩:∃t,s.l[x1.toNat]?=some t:=⟨_,E7 Jo⟩;obtain ⟨d2,hd2,hrd2⟩:=hls.2 _ _ ht2;have hrd2':=hrd2;obtain ⟨vd2,rfl,hld2⟩:=Qf hrd2;have h2:=YN (s:=s) Jo ht2;refine zC [(0,none),(1,none),(2,none),(3,none),(4,none),(5,none),(6,none),(7,none),(8,none),(9,none),(10,none),(11,none),(12,none),(13,some (some [1])),(14,some none),(15,none),(16,some none)] ?_;have hS:=hS.drew;refine' KW;refine' Rq;refine' Nb;refine' Nu;refine' Rq;refine TY vw rfl ha rfl Jo ?_;intro b4 o4 cs4 x4 hat4 hx4 he4;obtain rfl:=QG he4;obtain rfl:x1=x4:=Fm (hx1.symm.trans hx4);refine' KO;refine' N0;refine' KO;refine P5 hS vw rfl fd Jo Jo ?_;intro b5 o5 hel5;refine' KO;refine bu hS hel5 rfl fd rfl hd2 ?_;refine' Lp;refine K8 hS [_,_,_] ?_;intro b1 w1 hS;refine' Ly;((refine za PV Ra hS ?_;intro vp1 w1 css1 hls1 hv1 hS;have hS:=hS.ns));refine' KO;refine' MA;refine' Lk;((refine LU hS ?_;intro w1 hS;have hS:=hS.ns));refine' Lq;refine' Mt;((exact ⟨⟨q+1,_,_,ts++[t2],zh,zh,Jo,hls1,by simp [hlt],by assumption,tU hx1 hdf h2,hS.sp⟩,Qj Jo⟩))
                     · skip
                       (refine' L8;have hts:=tV hdf Jo;obtain ⟨c1,hle2,hS,hk1⟩:=Gp (r:=Ku) hS hlo rfl Jo;have hrow:=PB (k:=3) (r:=t.r) hk1;have hls:=hls.up hle2;obtain ⟨ao,no,rfl⟩:=Fx hk1;refine QA ?_;refine' MU;refine' Kr (c:=tm (.mk 3 t.r ts) hrow Jo Jo hS);rintro v1 w1 ⟨rfl,hS⟩;first|(refine' QV)|(refine' QW)|(refine' Af<;>intro hc));all_goals (refine' zn)
                       all_goals
                        first
                        | (refine' Ki;refine' Nz;have hM:KV m j.f s x= .error 19:=(by rw [j6 Jo,Q3 hjt,Q3 hts];exact if_pos Jo);refine' Oi;first|(exact Ar)|(exact AA)|(exact Ax)|(obtain ⟨c9,hle9,hS,hk9⟩:=FN (r:=Ku) (L:=LQ j s vl css L) hS.sp (hN:Ku.at _ _ Ks);exact AB)|(obtain ⟨c9,hle9,hS,hk9⟩:=FN (r:=Ku) (L:=LQ j s vl css L) hS.sp (hN:Ku.at _ _ Ks);exact Av)|(obtain ⟨c9,hle9,hS,hk9⟩:=FN (r:=Ku) (L:=LQ j s vl css L) hS.sp hrow;exact Av)|(obtain ⟨c9,hle9,hS,hk9⟩:=FN (r:=Ku) (L:=LQ j s vl css L) hS.sp hrow;exact AU)|(exact A3))
                        | (refine' Kk;refine' Kx)
                       refine' MU;refine Rh (cs:=[_,_,_]) vw Jr ?_;intro ob w1 hb1 hf1 _ hk1;have hS:=hS.laid hb1 hf1 hk1;refine' zm;refine' KA;have hM:KV m j.f s x= .ok [.mk 3 t.r ts]:=(by rw [j6 Jo,Q3 hjt,Q3 hts];exact if_neg Jo);refine' Oi;first|(exact Ar)|(exact AA)|(exact Ax)|(obtain ⟨c9,hle9,hS,hk9⟩:=FN (r:=Ku) (L:=LQ j s vl css L) hS.sp (hN:Ku.at _ _ Ks);exact AB)|(obtain ⟨c9,hle9,hS,hk9⟩:=FN (r:=Ku) (L:=LQ j s vl css L) hS.sp (hN:Ku.at _ _ Ks);exact Av)|(obtain ⟨c9,hle9,hS,hk9⟩:=FN (r:=Ku) (L:=LQ j s vl css L) hS.sp hrow;exact Av)|(obtain ⟨c9,hle9,hS,hk9⟩:=FN (r:=Ku) (L:=LQ j s vl css L) hS.sp hrow;exact AU))
                  | (refine' Kk
                     (refine QA ?_;refine' Kv;first|(refine' Ql)|(refine' Qp)|(refine' Ac<;>intro hc));all_goals (refine' KA)
                     all_goals
                      first
                      | (refine' Ki;refine' Kx)
                      | (refine' Kk;(refine' LS;first|(refine' Ql)|(refine' Qp)|(refine' Ac<;>intro hc));all_goals (refine' zm);all_goals refine' zn)
                     all_goals
                      first
                      | (refine' Kk
                         (refine' Kv;first|(refine' Ql)|(refine' Qp)|(refine' Ac<;>intro hc));all_goals (refine' KA)
                         all_goals
                          first
                          | (refine' Ki
                             (refine' Oe;refine zC [(0,none),(1,none),(2,none),(4,none),(5,none),(6,none),(3,some (some [6])),(7,some none),(8,some none),(9,some none),(10,some none)] ?_;have hS:=hS.drew;refine' PI;refine' NS;refine' Ny (c:=RD (s:=s) (k:=x.a) (kd:=2) (held:=true) hls hS.p3);rintro v1 w1 ⟨rfl,hS⟩;refine' Ly;refine' Ny (c:=RD (s:=s) (k:=x.b) (kd:=1) (held:=false) hls hS.p3);rintro v1 w1 ⟨rfl,hS⟩;refine' Lk;refine nu (cs:=[_,_]) vw vw Jr ?_;intro fb w1 hb1 hf1 _ hk1;have hS:=hS.laid hb1 hf1 hk1;have hS:=Gh (es:=1) (css:=[Lf s x.a 2 true,Lf s x.b 1 false].map Qr) hS rfl Dp rfl;refine' Lk;refine' KE (c:=mA (xs:=[Lf s x.a 2 true,Lf s x.b 1 false]) Js hS);rintro v1 w1 ⟨rfl,hS⟩;refine' WU;first|(refine' QO)|(refine' QU)|(refine' Ad<;>intro hc));all_goals (refine' zn)
                             all_goals
                              first
                              | (refine' Ki;refine' Lc;refine' KA;have hM:KV m j.f s x= .error (ND [Lf s x.a 2 true,Lf s x.b 1 false]):=(by rw [Vz Jo,gl,YV];exact ur (dL _ _ _) (by rw [←gl,←YV];omega) _);refine' Oi;((exact Ar)))
                              | (refine' Kk;refine' Kx)
                             refine QA ?_;obtain ⟨t,tb,hjt,hjb⟩:=uu (x:=Lr s x.a 2) (y:=KB s x.b 1) (dL _ _ _) (Vs _ _ _) (by rw [←gl,←YV];omega);obtain ⟨g0,ht,hk,hb⟩:=W4 hjt;have g1:=(E8.1 ht).1;obtain ⟨d,hd,hrd⟩:=hls.2 _ _ ht;obtain ⟨vd,rfl,hld⟩:=Qf hrd;refine zD (ci 13 [10,12]) ?_;have hS:=hS.drew;refine' P8;refine' KZ;refine P5 hS vw rfl fd Jo Jo ?_;intro b1 o1 hel1;refine' Nt;refine Q9 (j:=1) hS hel1 rfl fd rfl hd rfl ?_;refine M9 [_,_,_] ?_;refine Rh (cs:=[_,_,_]) vw Jr ?_;intro ob w1 hb1 hf1 _ hk1;have hS:=hS.laid hb1 hf1 hk1;refine' zm;refine' KA;have hM:KV m j.f s x= .ok [.mk 4 t.r []]:=(by rw [Vz Jo,Q3 hjt,Q3 hjb]);have hrow:∀{c:Cx},Ku.at c [.int .i64 4, .int .i64 t.r, .slice none 0 0] (.mk 4 t.r []):=PB (Gj _ _ _);refine' Oi;first|(exact Ar)|(exact AA)|(exact Ax)|(obtain ⟨c9,hle9,hS,hk9⟩:=FN (r:=Ku) (L:=LQ j s vl css L) hS.sp (hN:Ku.at _ _ Ks);exact AB)|(obtain ⟨c9,hle9,hS,hk9⟩:=FN (r:=Ku) (L:=LQ j s vl css L) hS.sp (hN:Ku.at _ _ Ks);exact Av)|(obtain ⟨c9,hle9,hS,hk9⟩:=FN (r:=Ku) (L:=LQ j s vl css L) hS.sp hrow;exact Av))
                          | (refine' Kk
                             (refine' Kv;first|(refine' Ql)|(refine' Qp)|(refine' Ac<;>intro hc));all_goals (refine' KA)
                             all_goals
                              first
                              | (refine' Ki;refine QA ?_;refine zC [(0,none),(1,none),(2,none),(3,none),(5,none),(6,none),(7,none),(4,some (some [7])),(8,some (some [])),(9,some (some [])),(10,some (some [])),(11,none),(12,some none)] ?_;have hS:=hS.drew;refine' Og;refine' NS;refine' Ny (c:=RD (s:=s) (k:=x.a) (kd:=4) (held:=true) hls hS.p3);rintro v1 w1 ⟨rfl,hS⟩;refine' Li;refine' Ny (c:=RD (s:=s) (k:=x.b) (kd:=1) (held:=false) hls hS.p3);rintro v1 w1 ⟨rfl,hS⟩;refine' Li;refine nu (cs:=[_,_]) vw vw Jr ?_;intro fb w1 hb1 hf1 _ hk1;have hS:=hS.laid hb1 hf1 hk1;have hS:=Gh (es:=1) (css:=[Lf s x.a 4 true,Lf s x.b 1 false].map Qr) hS rfl Dp rfl;refine' Li;refine' KE (c:=mA (xs:=[Lf s x.a 4 true,Lf s x.b 1 false]) Js hS);rintro v1 w1 ⟨rfl,hS⟩;refine' Mp;refine' zm;refine' XY;have hC:QQ (KV m j.f s x)=ND [Lf s x.a 4 true,Lf s x.b 1 false]:=(by rw [VA Jo,gl,YV];exact qe (dL _ _ _) (Vs _ _ _) _);have hT:∀ts,KV m j.f s x= .ok ts→ts=[Ks]:=(fun ts h=>by rw [VA Jo] at h;exact YU h fun _ h=>YU h fun _ h=>by cases h;rfl);refine' Oi;first|(exact Ar)|(exact AA)|(exact Ax)|(obtain ⟨c9,hle9,hS,hk9⟩:=FN (r:=Ku) (L:=LQ j s vl css L) hS.sp (hN:Ku.at _ _ Ks);exact AB))
                              | (refine' Kk
                                 (refine' Kv;first|(refine' Ql)|(refine' Qp)|(refine' Ac<;>intro hc));all_goals (refine' KA)
                                 all_goals
                                  first
                                  | (refine' Ki;refine QA ?_;refine zC [(0,none),(1,none),(2,none),(4,none),(5,none),(6,none),(8,none),(9,none),(10,none),(3,some (some [6,10])),(7,some (some [10])),(11,some none),(12,some none),(13,some none),(14,none),(15,some none)] ?_;have hS:=hS.drew;refine' PI;refine' Rq;refine' NS;refine' Ny (c:=RD (s:=s) (k:=x.a) (kd:=4) (held:=true) hls hS.p3);rintro v1 w1 ⟨rfl,hS⟩;refine' Li;refine' Ny (c:=RD (s:=s) (k:=x.b) (kd:=1) (held:=false) hls hS.p3);rintro v1 w1 ⟨rfl,hS⟩;refine' Ly;refine' Ny (c:=RD (s:=s) (k:=x.c) (kd:=1) (held:=false) hls hS.p3);rintro v1 w1 ⟨rfl,hS⟩;refine' Lk;refine xb (cs:=[_,_,_]) vw vw vw Jr ?_;intro fb w1 hb1 hf1 _ hk1;have hS:=hS.laid hb1 hf1 hk1;have hS:=Gh (es:=1) (css:=[Lf s x.a 4 true,Lf s x.b 1 false,Lf s x.c 1 false].map Qr) hS rfl Dp rfl;refine' Lk;refine' KE (c:=mA (xs:=[Lf s x.a 4 true,Lf s x.b 1 false,Lf s x.c 1 false]) Js hS);rintro v1 w1 ⟨rfl,hS⟩;refine' KO;refine' zm;refine' XY;have hC:QQ (KV m j.f s x)=ND [Lf s x.a 4 true,Lf s x.b 1 false,Lf s x.c 1 false]:=(by rw [qa Jo,gl,YV,YV];exact VC (dL _ _ _) (Vs _ _ _) (Vs _ _ _) _);have hT:∀ts,KV m j.f s x= .ok ts→ts=[]:=(fun ts h=>by rw [qa Jo] at h;exact YU h fun _ h=>YU h fun _ h=>YU h fun _ h=>by cases h;rfl);refine' Oi;first|(exact Ar)|(exact AA)|(exact Ax)|(obtain ⟨c9,hle9,hS,hk9⟩:=FN (r:=Ku) (L:=LQ j s vl css L) hS.sp (hN:Ku.at _ _ Ks);exact AB)|(obtain ⟨c9,hle9,hS,hk9⟩:=FN (r:=Ku) (L:=LQ j s vl css L) hS.sp (hN:Ku.at _ _ Ks);exact Av)|(obtain ⟨c9,hle9,hS,hk9⟩:=FN (r:=Ku) (L:=LQ j s vl css L) hS.sp hrow;exact Av)|(obtain ⟨c9,hle9,hS,hk9⟩:=FN (r:=Ku) (L:=LQ j s vl css L) hS.sp hrow;exact AU)|(exact A3)|(exact A6))
                                  | (refine' Kk
                                     (refine' Kv;first|(refine' Ql)|(refine' Qp)|(refine' Ac<;>intro hc));all_goals (refine' KA)
                                     all_goals
                                      first
                                      | (refine' Ki;refine QA ?_;refine' LS;refine' zm;refine' zm;refine' MA;refine zl hS ?_;refine' Ny (c:=RD (s:=s) (k:=x.a) (kd:=4) (held:=true) hls hS.p3);rintro v1 w1 ⟨rfl,hS⟩;refine' zm;refine' zm;refine' zn;have hC:QQ (KV m j.f s x)=Lf s x.a 4 true:=(by rw [qb Jo,gl];cases Lr s x.a 4<;>rfl);have hT:∀ts,KV m j.f s x= .ok ts→ts=[Ks]:=(fun ts h=>by rw [qb Jo] at h;exact YU h fun _ h=>by cases h;rfl);refine' zr;refine' lB;first|(exact Ar)|(exact AA)|(exact Ax)|(obtain ⟨c9,hle9,hS,hk9⟩:=FN (r:=Ku) (L:=LQ j s vl css L) hS.sp (hN:Ku.at _ _ Ks);exact AB))
                                      | (refine' Kk
                                         (refine' Kv;first|(refine' Ql)|(refine' Qp)|(refine' Ac<;>intro hc));all_goals (refine' KA)
                                         all_goals
                                          first
                                          | (refine' Ki;refine QA ?_;refine' LS;refine' zm;refine' MA;refine zl hS ?_;refine' Ny (c:=RD (s:=s) (k:=x.a) (kd:=1) (held:=false) hls hS.p3);rintro v1 w1 ⟨rfl,hS⟩;refine' zm;refine' zm;refine' zn;have hC:QQ (KV m j.f s x)=Lf s x.a 1 false:=(by rw [qd Jo,YV];cases KB s x.a 1<;>rfl);have hT:∀ts,KV m j.f s x= .ok ts→ts=[]:=(fun ts h=>by rw [qd Jo] at h;exact YU h fun _ h=>by cases h;rfl);refine' zr;refine' lB;first|(exact Ar)|(exact AA)|(exact Ax)|(obtain ⟨c9,hle9,hS,hk9⟩:=FN (r:=Ku) (L:=LQ j s vl css L) hS.sp (hN:Ku.at _ _ Ks);exact AB)|(obtain ⟨c9,hle9,hS,hk9⟩:=FN (r:=Ku) (L:=LQ j s vl css L) hS.sp (hN:Ku.at _ _ Ks);exact Av)|(obtain ⟨c9,hle9,hS,hk9⟩:=FN (r:=Ku) (L:=LQ j s vl css L) hS.sp hrow;exact Av)|(obtain ⟨c9,hle9,hS,hk9⟩:=FN (r:=Ku) (L:=LQ j s vl css L) hS.sp hrow;exact AU)|(exact A3)|(exact A6))
                                          | (refine' Kk;refine' Kx))))))
                      | (refine' Ki
                         all_goals (refine' P6;refine' Ny (c:=RD (s:=s) (k:=x.a) (kd:=3) (held:=true) hls hS.p3);rintro v1 w1 ⟨rfl,hS⟩;refine' L6;first|(refine' QO)|(refine' QU)|(refine' Ad<;>intro hc));all_goals (refine' zn)
                         all_goals
                          first
                          | (refine' Ki;all_goals (refine' Lc;refine' KA;have hM:KV m j.f s x= .error (Lf s x.a 3 true):=YW Jo (pZ Jo);refine' Oi);all_goals (exact Ar))
                          | (refine' Kk;all_goals refine' Kx)
                         all_goals (refine' Oe;have hxk:=kH hF Jo;obtain ⟨t,g0,g1,ht,hk,hb,hjt⟩:=qf (s:=s) (k:=x.a) (kd:=3) Jo;obtain ⟨d,hd,hrd⟩:=hls.2 _ _ ht;have hrt:=hrd;obtain ⟨vd,rfl,hld⟩:=Qf hrd;refine zD (ci 13 [12]) ?_;have hS:=hS.drew;refine' KZ;refine' P8;refine' KZ;refine P5 hS vw rfl fd Jo Jo ?_;intro b1 o1 hel1;refine' Nt;refine Q9 (j:=2) hS hel1 rfl fd rfl hd rfl ?_;refine iy vw hld ?_;first|(refine' Ml)|(refine' MN)|(refine' Ag<;>intro hc));all_goals (refine' zn)
                         all_goals
                          first
                          | (refine' Ki;all_goals (refine' Nz;have hM:KV m j.f s x= .error 9:=YX Jo hjt (FI Jo);refine' Oi);all_goals (exact Ar))
                          | (refine' Kk;all_goals refine' Kx)
                         all_goals (refine QA ?_;refine zC [(0,none),(1,none),(2,none),(3,none),(4,none),(5,none),(6,none),(7,none),(8,none),(9,none),(10,none),(11,none),(12,none),(13,some (some [3,5,8,10,12])),(14,some none)] ?_;have hS:=hS.drew;refine' Pk;refine' Ug;refine P5 hS vw rfl fd Jo Jo ?_;intro b2 o2 hel2;refine' KO;refine' XW;refine Q9 (j:=2) hS hel2 rfl fd rfl hd rfl ?_;refine' KO;refine' Nu;refine fJ vw rfl hld rfl Jo Jo ?_;intro b3 o3 cs3 u3 hat3 hu3 hru3;have hrow:=hru3;obtain ⟨vu3,rfl,hlu3⟩:=Qf hru3;have hjf:=QfM hu3;refine' S5;refine' PL;intro p12 w1 hS;refine' zt;refine ⟨Fe.2 ⟨Es,Fe.2 ⟨Es,Fe.2 ⟨(by (exact A0)),Fe.2 ⟨Es,Fe.2 ⟨(by first|(exact A0)|(exact AJ)|(exact AW)),fun _ h=>(Fv h).elim⟩⟩⟩⟩⟩,?_⟩;refine' LG;refine Kt hS ?_;intro w1 hS;have hS:=hS.ns;refine' Lq;refine' NH;refine' Z0;refine' zn)
                         all_goals
                          first
                          | (refine' Ki;refine' MU;refine Rh (cs:=[_,_,_]) vw Jr ?_;intro ob w1 hb1 hf1 _ hk1;have hS:=hS.laid hb1 hf1 hk1;refine' zm;refine' KA;have hM:KV m j.f s x= .ok [u3]:=(by rw [R1 Jo,Q3 hjt,Q3 hjf]);refine' Oi;first|(exact Ar)|(exact AA)|(exact Ax)|(obtain ⟨c9,hle9,hS,hk9⟩:=FN (r:=Ku) (L:=LQ j s vl css L) hS.sp (hN:Ku.at _ _ Ks);exact AB)|(obtain ⟨c9,hle9,hS,hk9⟩:=FN (r:=Ku) (L:=LQ j s vl css L) hS.sp (hN:Ku.at _ _ Ks);exact Av)|(obtain ⟨c9,hle9,hS,hk9⟩:=FN (r:=Ku) (L:=LQ j s vl css L) hS.sp hrow;exact Av))
                          | (refine' Kk;refine' Kx)
                         (all_goals (refine' Oe;refine zD (ci 13 [12]) ?_;have hS:=hS.drew;refine' KZ;first|(refine' KX)|(refine' K1)|(refine' Ae<;>intro hc));all_goals (refine' Md;refine' Mc;refine' Sp;(first|refine' Kj|(refine' Kl;refine QL hS vw fd hlc ?_));first|refine' Kj|(refine' Kl;(first|(refine' Ml)|(refine' MN)|(refine' Ag<;>intro hc)))));all_goals (refine' Ll)
                         all_goals
                          first
                          | (refine' Ki;all_goals (refine' Nz;have hM:KV m j.f s x= .error 1:=(by rw [gk Jo,Q3 hjt,Q3 hjf,Qw (al Jo)]);refine' Oi);all_goals (exact Ar))
                          | (refine' Kk;refine' Kx)
                         all_goals (refine' Oe;obtain ⟨t4,ht4⟩:∃t,s.l[x.b.toNat]?=some t:=⟨_,E7 Jo⟩;obtain ⟨d4,hd4,hrd4⟩:=hls.2 _ _ ht4;have hrt4:=hrd4;obtain ⟨vd4,rfl,hld4⟩:=Qf hrd4;have hj4:=YN (s:=s) (k:=x.b) Jo ht4;refine zD (ci 11 [9,10]) ?_;have hS:=hS.drew;refine zv hS ?_;refine' P8;refine' KZ;refine P5 hS vw rfl fd Jo Jo ?_;intro b4 o4 hel4;refine bu hS hel4 rfl fd rfl hd4 ?_;refine' Kr (c:=pc _ _ hrow hrt4 hS);rintro v1 w1 ⟨rfl,hS⟩;cases hdc:decide (u3=t4));all_goals (refine' Nv)
                         all_goals
                          first
                          | (refine' Ki;refine' Nz;have hM:KV m j.f s x= .error 9:=(by rw [gk Jo,Q3 hjt,Q3 hjf,Q3 hj4];exact if_pos (of_decide_eq_false hdc));refine' Oi;((exact Ar)))
                          | (refine' Kk;refine' Kx)
                         all_goals (refine' Nz;have hM:KV m j.f s x= .ok []:=(by rw [gk Jo,Q3 hjt,Q3 hjf,Q3 hj4];exact if_neg (fun h=>h (of_decide_eq_true hdc)));refine' Oi);all_goals (first|(exact Ar)|(exact AA)))
                     (refine QA ?_;have hk:=vQ hF Jo;have hop14:x.op=14:=Df;refine zC [(0,none),(1,none),(2,none),(3,none),(4,none),(5,none),(6,none),(7,none),(8,none),(9,some (some [4,6,8])),(10,some none)] ?_;have hS:=hS.drew;refine' Pk;refine' SS;refine' Ug;refine' Nj;intro b2 o2 cs2 x2 hat2 hx2 he2;obtain ⟨vp2,vr2,vb2,rfl,hp2,hr2,hb2⟩:=QH he2;refine' S5;refine' PL;intro p14 w1 hS;refine' Ly;refine Kt hS ?_;intro w1 hS;have hS:=hS.ns;refine' Lq;have ej:=YY (m:=m) (f:=j.f) (s:=s) hop14 hx2;have hsf:=hm.2 x2 (Fa hx2);have hrl:=hr2.len;have hrs:=hsf.2.1.1;refine' NH;(first|(refine QL hS vw fd hlc ?_)|(refine' zL));refine' KZ;first|(refine' QO)|(refine' QU)|(refine' Ad<;>intro hc));all_goals (refine' zn)
                     all_goals
                      first
                      | (refine' Ki;refine' Nz;have hM:KV m j.f s x= .error 2:=ej.trans (if_pos Jo);refine' Oi;((exact Ar)))
                      | (refine' Kk;refine' Kx)
                     refine' NO;refine MB hS [0,3,14] (fun A LL ρ' w'=>∃(q:Nat),Kn ρ' A∧Kn ρ' [(15, .int .i64 q)]∧(q≤x.regs.length)∧(M0 s.h [] x.regs=M0 s.h (x.regs.take q) (x.regs.drop q))∧(¬(x.regs.length:Int)≠x2.regs)∧St cx w' (LL)) (fun ρ' _=>(x.regs.length - iv (ρ' 15)).toNat) ?_ ?_
                     · exact ⟨0,zh,zh,Jo,by rfl,Jo,hS.sp⟩
                     rintro ρ w1 ⟨q,hA,hρ,hq,hdr,hne,hS⟩;obtain ⟨ρ,rfl⟩:=Kp hA hρ;refine' P6;(first|(refine QL hS vw fd hlc ?_)|(refine' zL));refine' WO;refine' Ab<;>intro hc
                     · skip
                       refine' L4;refine' Oe;refine zD (ci 11 [9,10]) ?_;have hS:=hS.drew;refine' P8;refine' KZ;refine' zm;refine' zi;intro b3 o3 cs3 x3 hat3 hx3 he3;obtain rfl:=QG he3;refine' N0;refine' Kr (c:=WE hS fd);rintro v1 w1 ⟨rfl,hS⟩;cases hb1:Kz s.h x3;all_goals (refine' Nv)
                       all_goals
                        first
                        | (refine' Ki;refine' Nz;have hM:KV m j.f s x= .error 10:=(by rw [ej,if_neg hne,Qw (vO (p:=[]) hx3 hdr hb1)]);refine' Oi;((exact Ar)))
                        | (refine' Kk;refine' Kx)
                       refine QA ?_;refine zD (ci 10 [9]) ?_;have hS:=hS.drew;refine' KZ;refine' zm;((refine iz vw hr rfl rfl ⟨_,rfl⟩ rfl Jo Jo ?_;intro v4 hs4;rw [F9] at hs4));refine' KZ;refine' zm;refine TY vw rfl hr rfl Jo ?_;intro b7 o7 cs7 x7 hat7 hx7 he7;obtain rfl:=QG he7;obtain rfl:x3=x7:=Fm (hx3.symm.trans hx7);refine' N0;refine' Kr (c:=WD hs4 hS);rintro v1 w1 ⟨rfl,hS⟩;cases hb2:decide (x3∈x.regs.take q);all_goals (refine' zn)
                       all_goals
                        first
                        | (refine' Ki;refine' Nz;have hM:KV m j.f s x= .error 13:=(by rw [ej,if_neg hne,Qw (uL hx3 hdr hb1 (of_decide_eq_true hb2))]);refine' Oi;((exact Ar)))
                        | (refine' Kk;refine' Kx)
                       refine' Mt;(exact ⟨⟨q+1,zh,zh,Jo,by exact vP hx3 hdr hb1 (of_decide_eq_false hb2),hne,hS.sp⟩,Qj Jo⟩)
                     · skip
                       (refine' L8;have hrg:=qV hdr Jo;refine' P6;refine' KZ;refine' KZ;refine' Ny (c:=rb (s:=s) hsf.1.2 hls ha hp2 hr hS.p3);rintro v1 w1 ⟨rfl,hS⟩;refine' L6;first|(refine' QO)|(refine' QU)|(refine' Ad<;>intro hc));all_goals (refine' zn)
                       all_goals
                        first
                        | (refine' Ki;refine' Lc;refine' KA;have hM:KV m j.f s x= .error (QQ (OF s x.args x2.params x.regs)):=(by rw [ej,if_neg hne,Q3 hrg,Qw (l9 Jo)]);refine' Oi;((exact Ar)))
                        | (refine' Kk;refine' Kx)
                       refine' LM;have har:=qg (dM s x.args x2.params x.regs) Jo;have hM:KV m j.f s x= .ok (x2.results.map (MI x.regs)):=(by rw [ej,if_neg hne,Q3 hrg,Q3 har]);refine' NO;have hS:=Hp (T:=115) (es:=3) hS;refine zo [3,14] (fun A ρ' w'=>∃(k2:Cx) (q:Nat) (vl2:Value) (cs2:List (List Value)),Kn ρ' A∧Kn ρ' [(18, .int .i64 q),(17,vl2)]∧(cx.Le k2)∧(q≤x2.results.length)∧(Ku.ls k2 cs2 ((x2.results.take q).map (MI x.regs)))∧St k2 w' (sl 115 3 vl2 cs2::blk p14 95 [.int .i64 x2.regs,vp2,vr2,vb2]::blk nb 115 [.int .i64 1, .int .i64 0, .slice none 0 0]::blk p3 84 [.int .i64 x.op, .int .i64 x.a, .int .i64 x.b, .int .i64 x.c, .int .i64 x.k, .int .i64 x.n,vr,va]::blk j.sp 158 (j.kcells vl)::Rd j.hp s.h::sl 115 3 vl css::L)) (fun ρ' _=>(x2.results.length - iv (ρ' 18)).toNat) ?_ ?_
                       · exact ⟨cx,0,_,_,zh,zh,FV hS,Jo,GB _ _ _,hS.sp⟩
                       rintro ρ w1 ⟨k2,q,vl2,cs2,hA,hρ,hle2,hq,hlo,hS⟩;obtain ⟨ρ,rfl⟩:=Kp hA hρ;have hL2:=hle2;(try have hr2:=hr2.up hle2);(try have hr:=hr.up hle2);refine' P6;(first|(refine QL hS vw fd hlc ?_)|(refine' zL));refine' WO;refine' Ab<;>intro hc
                       · skip
                         refine' Ub;refine OK 7 11 Jk ?_ ?_
                         · skip;refine zC [(0,none),(1,none),(2,none),(3,none),(4,none),(5,none),(6,none),(7,some none),(8,none),(9,none),(10,none),(11,some (some [])),(12,some (some [])),(13,some none)] ?_;have hS:=hS.drew;refine' KW;refine' Rq;refine' zi;intro b4 o4 cs4 x4 hat4 hx4 he4;obtain ⟨vl4,rfl,hl4⟩:=Qf he4;refine' S5;refine' KO;refine' nW;refine' Lk;refine' Kr (c:=qT x4 (hsf.2.1.2 x4 (Fa hx4)) he4 hr hS);rintro v1 w1 ⟨c3,ds,rfl,hle2,hu3,hS⟩;(try have hL2:=hL2.trans hle2);(try have hlo:=hlo.up hle2);have hu3':=hu3;obtain ⟨vu,rfl,hlu⟩:=Qf hu3;refine' Mu;refine' RP;refine' PL;intro p19 w1 hS;refine' Li;refine Kt hS ?_;intro w1 hS;have hS:=hS.ns;refine' Ly;refine' WQ;refine' OT;refine K8 hS [_,_,_] ?_;intro b1 w1 hS;refine za PV Ra hS ?_;intro vp2 w2 css2 hls2 hv2 hS;have hS:=hS.ns;refine' KA;refine' Mt;(exact C0)
                         · skip;refine zC [(0,none),(1,none),(2,none),(3,none),(4,none),(5,none),(6,none),(11,some (some [1,4,6])),(7,some none),(8,none),(9,none),(10,none),(12,some (some [])),(13,some none)] ?_;have hS:=hS.drew;refine' KW;refine' Rq;refine' zi;intro b4 o4 cs4 x4 hat4 hx4 he4;obtain ⟨vl4,rfl,hl4⟩:=Qf he4;refine' S5;refine' KO;refine' Od;refine Qd hS ?_;intro p19 w1 hS;refine' Ly;refine' Kr (c:=qT x4 (hsf.2.1.2 x4 (Fa hx4)) he4 hr hS);rintro v1 w1 ⟨c3,ds,rfl,hle2,hu3,hS⟩;(try have hL2:=hL2.trans hle2);(try have hlo:=hlo.up hle2);have hu3':=hu3;obtain ⟨vu,rfl,hlu⟩:=Qf hu3;refine' Mu;refine' RP;refine' Lp;refine Kt hS ?_;intro w1 hS;have hS:=hS.ns;refine' Ly;refine' WQ;refine' OT;refine K8 hS [_,_,_] ?_;intro b1 w1 hS;refine za PV Ra hS ?_;intro vp2 w2 css2 hls2 hv2 hS;have hS:=hS.ns;refine' KA;refine' Mt;(exact C0)
                       · skip;refine' L8;refine' Lc;refine' SW;first|(exact Ar)|(exact AA)|(exact Ax)|(obtain ⟨c9,hle9,hS,hk9⟩:=FN (r:=Ku) (L:=LQ j s vl css L) hS.sp (hN:Ku.at _ _ Ks);exact AB)|(obtain ⟨c9,hle9,hS,hk9⟩:=FN (r:=Ku) (L:=LQ j s vl css L) hS.sp (hN:Ku.at _ _ Ks);exact Av)|(obtain ⟨c9,hle9,hS,hk9⟩:=FN (r:=Ku) (L:=LQ j s vl css L) hS.sp hrow;exact Av)|(obtain ⟨c9,hle9,hS,hk9⟩:=FN (r:=Ku) (L:=LQ j s vl css L) hS.sp hrow;exact AU)|(exact A3)|(exact A6)|(have hM:KV m j.f s x= .error 11:=(by rw [dN Jo,Q3 hjt,if_pos Jo]);exact Ar)|(have hM:KV m j.f s x= .ok []:=(by rw [dN Jo,Q3 hjt,if_neg Jo]);exact Ax)|(obtain ⟨c9,hle9,hS,hk9⟩:=Gp (r:=Ku) hS hlo rfl (by simp only [Fb,Gm];omega);exact ⟨_,rfl,c9,_,hL2.trans hle9,YR hM,j2 hM (by rw [FM Jo] at hk9;exact hk9),hS.sp⟩))))))
end
section
attribute [local irreducible] Kz LY Mv M6 NJ K6 Lf ND KV KM
variable {cx:Cx}{w:World}{L:List Res}{j:JP}{h:List Bool}{vl:Value}{css:List (List Value)}{i:Nat}{m:Module}
theorem mv {s':JS}{c':Cx}{vl':Value}{css':List (List Value)}(hJ:KM m j.f s x=(c,s'))(hle:cx.Le c')(hls:Ku.ls c' css' s'.l)(hS:St c' w (LQ j s' vl' css' L)):
 ∃c' vl' css',cx.Le c'∧(Value.int .i64 c)= .int .i64 (KM m j.f s x).1∧Ku.ls c' css' (KM m j.f s x).2.l∧St c' w (LQ j (KM m j.f s x).2 vl' css' L):=by
 rw [hJ];exact ⟨_,_,_,hle,rfl,hls,hS⟩
theorem eZ (hm:m.Short)(hg:JInv m j.f s)(hj:j.Fits cx m)(hx:Lb.at cx cs x)(hls:Ku.ls cx css s.l)(hS:St cx w (LQ j s vl css L)):
 Kf Tryz.prog xX [.pointer (some ⟨j.sp,0,none⟩), .agg ⟨cs⟩] w fun u w'=>∃c' vl' css',cx.Le c'∧u= .int .i64 (KM m j.f s x).1∧Ku.ls c' css' (KM m j.f s x).2.l∧St c' w' (LQ j (KM m j.f s x).2 vl' css' L):=by
 (have hx':=hx;have hlc:=hls.1;have hn:=hg.n;have hh:=hg.h;have hlen:(s.h.map QE).length=s.h.length:=Fb _;obtain ⟨vr,va,rfl,hr,ha⟩:=Nx hx;refine Kq Ko Tryz.func54 ?_;refine' KY;intro p3 w1 hS;refine' S0;refine zD (ci 7 [5,6]) ?_;have hS:=hS.drew;refine' zm;refine' Lh;refine zv hS ?_;refine zv hS ?_;refine' Kr (c:=Vf (m:=m) ⟨_,rfl,hj.m⟩ hx' hS);rintro v1 w1 ⟨rfl,hS⟩;refine' L6;first|(refine' QO)|(refine' QU)|(refine' Ad<;>intro hc));all_goals (refine' zn)
 all_goals
  first
  | (refine' Ki;refine' Nz;have hJ:=dP (f:=j.f) (s:=s) (x:=x) (m:=m) Jo;refine' RL;(exact Bj))
  | (refine' Kk;refine' Kx)
 (refine QA ?_;have hF:Qx m.funcs.length x=0:=Df;refine' OT;refine' Kr (c:=WG (s:=s) hm hF hg.toJGood hj hx' hls hS.p3);rintro v1 w1 ⟨c1,vm1,hle2,rfl,hv0,hS⟩;have hls:=hls.up hle2;refine' zm;refine' Sk;refine' zm;refine' OX;first|(refine' QO)|(refine' QU)|(refine' Ad<;>intro hc));all_goals (refine' zn)
 all_goals
  first
  | (refine' Ki;refine' Nz;have hJ:=dQ (f:=j.f) (s:=s) hF hg Jo;refine' RL;first|(exact Bj)|(exact BC))
  | (refine' Kk;refine' Kx)
 (refine' Oe;obtain ⟨ts,hts⟩:=l7 (dO m j.f s x) Jo;have hv:=hv0 ts hts;have hvl:=hv.len;refine' So;refine QL hS vw fd hlc ?_;refine' zm;refine iy vw hv ?_;refine' MX;first|(refine' QV)|(refine' QW)|(refine' Af<;>intro hc));all_goals (refine' zn)
 all_goals
  first
  | (refine' Ki;refine' LM;have hJ:=dR hF hg hts Jo;refine' RL;first|(exact Bj)|(exact BC))
  | (refine' Kk;refine' Kx)
 (refine' NH;first|(refine' Ql)|(refine' Qp)|(refine' Ac<;>intro hc));all_goals (refine' zn)
 all_goals
  first
  | (refine' Ki;obtain ⟨vh,hS⟩:=eW (hp:=j.hp) (h:=s.h) (L:=blk j.sp 158 (j.kcells vl)::sl 115 3 vl css::blk p3 84 [.int .i64 x.op, .int .i64 x.a, .int .i64 x.b, .int .i64 x.c, .int .i64 x.k, .int .i64 x.n,vr,va]::L) hS.sp;have h16:=Y1 hts Jo;have hJ:=YZ hF hg hts Jo Jo;refine zC [(0,none),(1,none),(2,none),(3,none),(4,none),(5,none),(6,none),(7,none),(8,none),(9,none),(10,none),(11,some (some [3,7,10])),(12,some (some [3])),(13,none),(14,none),(15,some none)] ?_;have hS:=hS.drew;refine' Uh;refine' Nb;refine' Nu;refine' Nb;refine' Od;refine K8 hS [_] ?_;intro b1 w1 hS;refine' Li;refine NL jd (.inl lN) hS vw vw fd (hS.srcB1 fd rfl) Di ?_;intro vp w2 hS;have hS:=hS.ns;rw [show s.h.map QE++[[Value.bool true]]=(s.h++[true]).map QE by simp [QE]] at hS;refine' Mp;refine' Nb;refine' MA;refine' Lk;((refine LU hS ?_;intro w1 hS;have hS:=hS.ns));refine' Lq;have hS:=aN (hp:=j.hp) (h:=s.h++[true]) (v:=vp) (L:=blk j.sp 158 (j.kcells vl)::sl 115 3 vl css::blk p3 84 [.int .i64 x.op, .int .i64 x.a, .int .i64 x.b, .int .i64 x.c, .int .i64 x.k, .int .i64 x.n,vr,va]::L) hS.sp)
  | (refine' Kk;refine' Kx)
 all_goals (refine' NH;first|(refine' Ql)|(refine' Qp)|(refine' Ac<;>intro hc));all_goals (refine' zn)
 all_goals
  first
  | (refine' Kk;all_goals refine' Kx)
  | (refine' Ki;obtain ⟨vh,hS⟩:=eW (hp:=j.hp) (h:=s.h) (L:=blk j.sp 158 (j.kcells vl)::sl 115 3 vl css::blk p3 84 [.int .i64 x.op, .int .i64 x.a, .int .i64 x.b, .int .i64 x.c, .int .i64 x.k, .int .i64 x.n,vr,va]::L) hS.sp;obtain ⟨t,g0,g1,ht,r0,r1⟩:=Y2 hts Jo;have hJ:=Y0 hF hg hts Jo Jo ht;obtain ⟨d,hd,hrd⟩:=hls.2 _ _ ht;obtain ⟨vd,rfl,hld⟩:=Qf hrd;refine zD (ci 18 [17]) ?_;have hS:=hS.drew;refine' P8;refine' Mf;refine' P8;refine' KZ;refine P5 hS vw rfl fd Jo Jo ?_;intro b1 o1 hel1;refine' Nt;refine Q9 (j:=1) hS hel1 rfl fd rfl hd rfl ?_;refine P5 hS vw rfl fd Jo Jo ?_;intro b2 o2 hel2;refine ln hS hel2 rfl vw fd rfl (MQ QE s.h false Jo) Jd rfl ?_;intro w2 hS;have hS:=hS.ns;rw [show (QE (s.h.getD t.r.toNat false)).set 0 (Value.bool false)=QE false from rfl,map_set] at hS;refine' zn;have hS:=aN (hp:=j.hp) (h:=s.h.set t.r.toNat false) (v:=vh) (L:=blk j.sp 158 (j.kcells vl)::sl 115 3 vl css::blk p3 84 [.int .i64 x.op, .int .i64 x.a, .int .i64 x.b, .int .i64 x.c, .int .i64 x.k, .int .i64 x.n,vr,va]::L) hS.sp)
 all_goals (refine' Lc;refine' Mf;refine' zm;(first|(refine za PV Ra hS ?_;intro vp1 w1 css1 hls1 hv1 hS;have hS:=hS.ns)|(refine lC PV Ra hS ?_;intro vp1 w1 css1 hls1 hv1 hS;have hS:=hS.ns));refine' Lh;refine LU hS ?_;intro w1 hS;have hS:=hS.ns;refine' zn;refine' KQ;(first|(exact Bj)|(exact BC)|(exact ⟨_,rfl,mv hJ hle2 hls1 hS.sp⟩)|(exact ⟨_,rfl,mv (dS hF hg hts Jo Jo Jo) hle2 hls1 hS.sp⟩)))
theorem WH (hsf:j.f.Short)(hb:0≤t.block∧t.block<j.f.blocks.length)(hfb:∀b∈j.f.blocks,j.f.regs≤b.regs)(hh:s.h.length≤16)(hj:j.Fits cx m)(hx:toR.at cx cs t)(hls:Ku.ls cx css s.l)(hS:St cx w (LQ j s vl css L)):
 Kf Tryz.prog yp [.pointer (some ⟨j.sp,0,none⟩), .agg ⟨cs⟩] w fun u w'=>u= .int .i64 (QQ (NK j.f s t))∧St cx w' (LQ j s vl css L):=by
 (have hx':=hx;obtain ⟨vr,va,rfl,hr,ha⟩:=ZU hx;have hlr:=hr.len;have hbl:=hj.b;refine Kq Ko Tryz.func97 ?_;refine' KY;intro p3 w1 hS;refine' Ms;refine zC [(0,none),(1,none),(2,none),(3,none),(4,none),(5,none),(6,none),(7,none),(8,none),(9,some (some [4,6,8])),(10,some none)] ?_;have hS:=hS.drew;refine' Pk;refine' X0;refine' KO;refine' Nu;refine' Nj;intro b1 o1 cs1 x1 hat1 hx1 he1;obtain ⟨vp1,vc1,ve11,ve12,ve13,ve14,ve15,rfl,hp1,hc1,he11,he12,he13,he14,he15⟩:=RJ he1;refine' S5;refine' PL;intro p5 w1 hS;refine' Ly;refine Kt hS ?_;intro w1 hS;have hS:=hS.ns;refine' Lq;have hbm:=Fa hx1;have hf1:=hfb x1 hbm;have hsb:=hsf.2.2.2 x1 hbm;refine' NH;refine' zL;refine' KZ;first|(refine' QO)|(refine' QU)|(refine' Ad<;>intro hc));all_goals (refine' zn)
 all_goals
  first
  | (refine' Ki;refine' KQ;((refine ⟨_,rfl,?_,hS.sp⟩;(rw [jX hx1 Jo];rfl);done)))
  | (refine' Kk;refine' Kx)
 refine' NO;refine MB hS [0,3,5] (fun A LL ρ' w'=>∃(q:Nat),Kn ρ' A∧Kn ρ' [(6, .int .i64 q)]∧(q≤j.f.regs.toNat)∧(NJ t.regs q=true)∧(¬(t.regs.length:Int)≠x1.regs)∧St cx w' (LL)) (fun ρ' _=>(j.f.regs - iv (ρ' 6)).toNat) ?_ ?_
 · exact ⟨0,zh,zh,Jo,by unfold NJ;rfl,Jo,hS.sp⟩
 rintro ρ w1 ⟨q,hA,hρ,hq,hk,hne,hS⟩;obtain ⟨ρ,rfl⟩:=Kp hA hρ;refine' P7;refine' PN;refine' WO;refine' Ab<;>intro hc
 · skip
   (refine' L4;refine' Mn;refine' zm;refine' zi;intro b2 o2 cs2 x2 hat2 hx2 he2;obtain rfl:=QG he2;refine' N0;refine' zm;first|(refine' QO)|(refine' QU)|(refine' Ad<;>intro hc));all_goals (refine' zn)
   all_goals
    first
    | (refine' Ki;refine' KQ;first|(refine ⟨_,rfl,?_,hS.sp⟩;rw [jX hx1 Jo];rfl;done)|(refine ⟨_,rfl,?_,hS.sp⟩;rw [l5 hx1 hne (l4 (q:=q) Jo DZ)];rfl;done))
    | (refine' Kk;refine' Kx)
   refine' Mt;(exact CK)
 · skip
   (refine' L8;have hq':q=j.f.regs.toNat:=Df;rw [hq'] at hk;refine' Oe;refine zD (ci 8 [6,7]) ?_;have hS:=hS.drew;refine' P8;refine' KZ;refine' Kr (c:=ZG (h:=s.h) hh hr hS fd);rintro v1 w1 ⟨rfl,hS⟩;refine' L6;first|(refine' QO)|(refine' QU)|(refine' Ad<;>intro hc));all_goals (refine' zn)
   all_goals
    first
    | (refine' Ki;refine' SX;first|(refine ⟨_,rfl,?_,hS.sp⟩;rw [jX hx1 Jo];rfl;done)|(refine ⟨_,rfl,?_,hS.sp⟩;rw [l5 hx1 hne (l4 (q:=q) Jo DZ)];rfl;done)|(refine ⟨_,rfl,?_,hS.sp⟩;rw [Vq hx1 hne hk Jo];rfl;done))
    | (refine' Kk;refine' Kx)
   refine' KP;refine' KZ;refine' KZ;refine' KZ;refine' Ny (c:=rb (s:=s) hsb.1.2 hls ha hp1 hr hS.p3);rintro v1 w1 ⟨rfl,hS⟩;refine' La;first|(refine ⟨_,rfl,?_,hS.sp⟩;rw [jX hx1 Jo];rfl;done)|(refine ⟨_,rfl,?_,hS.sp⟩;rw [l5 hx1 hne (l4 (q:=q) Jo DZ)];rfl;done)|(refine ⟨_,rfl,?_,hS.sp⟩;rw [Vq hx1 hne hk Jo];rfl;done)|(refine ⟨_,rfl,?_,hS.sp⟩;rw [Vr hx1 hne hk Jo];done)
end
end Go.Proofs.YteflkifmgnpbhaaGreat
