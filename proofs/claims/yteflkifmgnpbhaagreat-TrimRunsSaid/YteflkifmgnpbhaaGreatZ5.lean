
/- Lemmas of the proof, part 5: what the functions of the program do (contracts), and what follows. -/
import Derived.Test.YteflkifmgnpbhaaGreatZ2
import Derived.Test.YteflkifmgnpbhaaGreatZ3
import Derived.Test.YteflkifmgnpbhaaGreatZ4
open Go Go.Lir Go.Proofs.YteflkifmgnpbhaaGreat
variable {α β:Type}{y:Block}{cx:Cx}{w:World}{L:List Res}{cs ds:List Value}{c kd pages left:Int}{p:α→Prop}{l:List Val}{t:Ty}{g xs:List Int}{fields q hp most:Nat}{m:Module}{s s':JS}{ts:List Ty}{e:Tail}{fn:Fun}{v v2:Value}{a r':Run}{a':Stp}
set_option linter.unusedVariables false
set_option linter.unusedSimpArgs false
set_option maxHeartbeats 1000000
namespace Go.Lir
section
variable {p:Prop}
theorem Dl (h:p:=by simp [oneC]):p:=h
theorem DN (h:p:=by rw [EK];exact hM.one):p:=h
theorem DT (h:p:=by first|(exact Bb)|(exact Az)):p:=h
theorem D2 (h:p:=by have:=h5 hk;omega):p:=h
end
end Go.Lir
namespace Go.Lir
section
variable {p:Prop}
theorem Ay (h:p:=by exact ⟨_,rfl,cx,_,Fq hS,iZ hM,uy hM,hS.sp⟩):p:=h
theorem AE (h:p:=by exact ⟨_,rfl,c9,_,hle9,YJ hM,i0 hM hk9,hS⟩):p:=h
theorem AG (h:p:=by exact ⟨_,rfl,cx,_,Fq hS,pt hM hw,i0 hM (FL _ _ _),hS.sp⟩):p:=h
theorem AH (h:p:=by exact ⟨_,rfl,cx,_,Fq hS,YJ hM,i0 hM (FL _ _ _),hS.sp⟩):p:=h
theorem AI (h:p:=by exact ⟨_,rfl,c9,_,hle9,i5 hC,uz hT hk9,hS⟩):p:=h
theorem AQ (h:p:=by exact ⟨_,rfl,(by rw [hJ]),hS.sp⟩):p:=h
theorem AS (h:p:=by exact ⟨_,rfl,by rw [hJ];rfl,Gi hS.sp hle⟩):p:=h
theorem AZ (h:p:=by exact ⟨_,rfl,rfl,Gi hS.sp hle⟩):p:=h
theorem A0 (h:p:=by exact ⟨_,rfl,c9,_,hle2.trans hle9,YJ hM,i0 hM hk9,hS⟩):p:=h
theorem A7 (h:p:=by exact lx hw hk (QbS _) h):p:=h
theorem Bb (h:p:=by exact QX (j:=2) hS hel2 rfl fd rfl hd rfl):p:=h
theorem Bh (h:p:=by exact ⟨_,rfl,c1,_,hle2,iZ hM,uy hM,hS.sp⟩):p:=h
theorem Bk (h:p:=by exact ⟨_,rfl,by rw [if_pos Jo];rfl,hS⟩):p:=h
theorem Bm (h:p:=by exact ⟨_,rfl,ly hJ (Fq hS) hls hS.sp⟩):p:=h
theorem Bp (h:p:=by exact ⟨_,rfl,cx,_,Fq hS,i5 hC,uz hT (FL _ _ _),hS.sp⟩):p:=h
theorem Bq (h:p:=by exact ⟨_,rfl,(by rw [hgo,if_neg (by simpa using hc)]),hS.sp⟩):p:=h
theorem By (h:p:=by exact QX (j:=3) hS hl7 rfl fd rfl rfl rfl):p:=h
theorem BC (h:p:=by exact ⟨_,rfl,(by rw [hgo,if_pos hc]),hS.sp⟩):p:=h
theorem BM (h:p:=by exact RA.more hA Jo rfl fun s' hs=>pw hs):p:=h
theorem BP (h:p:=by exact ⟨_,rfl,ly hJ hle2 hls hS.sp⟩):p:=h
theorem BW (h:p:=by exact ⟨_,rfl,by rw [hJ];rfl,hS.sp⟩):p:=h
theorem BY (h:p:=by exact ⟨_,rfl,(by rw [hJ]),Gi hS.sp hle2⟩):p:=h
theorem BZ (h:p:=by exact QX (j:=1) hS hel1 rfl fd rfl hd rfl):p:=h
theorem B4 (h:p:=by exact ⟨0,zh,zh,Jo,Jo,Jo,by assumption,by assumption,by simp,hS.sp⟩):p:=h
theorem Cb (h:p:=by exact ⟨⟨_,q+1,_,_,zh,zh,hL2,Jo,by rw [OI hx4,Fa];exact hls2,hS.sp⟩,Qb Jo⟩):p:=h
theorem Ce (h:p:=by exact ⟨c2,0,Mh y,vl,css,zh,zh,Fq hS,Jo,by rfl,hj,hls,hg0,hS.sp⟩):p:=h
theorem Ci (h:p:=by exact ⟨_,rfl,by rw [if_neg Jo,hd,sh hx1 hx2 g1 hn (fun h=>of_decide_eq_false hdc h.symm)];rfl,Gi hS.sp hL0⟩):p:=h
theorem Cp (h:p:=by exact ⟨_,rfl,by rw [if_neg Jo,hd,sg hx1 hx2 g1 hn];rfl,Gi hS.sp hL0⟩):p:=h
theorem CH (h:p:=by exact ⟨⟨i+1,zh,zh,Jo,Jo,Jo,by assumption,by assumption,by rw [hd2,Q1 hx3,Q1 hx4,hg];simp,hS.sp⟩,Qb Jo⟩):p:=h
theorem CO (h:p:=by exact ⟨⟨j+1,zh,zh,Jo,Jo,by rw [hd,Q1 hx1,Q1 hx2,Fun.eq_of hre hpe hrr (by rw [hd2,EP Jo,EP Jo])];simp,hS.sp⟩,Qb Jo⟩):p:=h
theorem CV (h:p:=by exact ⟨_,rfl,(by rw [hgo,if_neg (fun ha=>hn3 (ha x3 (EI hx3)))]),Gi hS.sp hle5⟩):p:=h
theorem CW (h:p:=by exact ⟨_,rfl,(by rw [hJ]),Gi hS.sp (hle2.trans hle3)⟩):p:=h
theorem C5 (h:p:=by exact ⟨_,rfl,c10,[uo],(by rw [hrz];rfl),(hle.trans hle9).trans hle10,(by rw [if_pos (by rw [hrz])];exact ⟨_,rfl,by rw [hZ,hfs1,hKF,hT,QgL hto] at hk10;exact hk10⟩),hS.sp⟩):p:=h
end
end Go.Lir
namespace Go.Lir
section
variable {p:Prop}
theorem Ar (h:p:=by first|(refine ⟨_,rfl,?_,hS.sp⟩;rw [decide_eq_false];exact fun e=>absurd (congrArg List.length e) Jo;done)|(refine ⟨_,rfl,?_,hS.sp⟩;(rw [decide_eq_false];rw [hd,Q1 hx1,Q1 hx2,FG];rintro ⟨rfl,_⟩;first|(simp_all;done)|(simp at*;omega));done)):p:=h
end
end Go.Lir
namespace Go.Proofs.YteflkifmgnpbhaaGreat
open Go.Lir
attribute [local irreducible] LC.wp Q0 Qh Qd Kq Qz LO.wp Q5 Calls
section
theorem uA {x:Block}(hx:Kx.at cx cs x)(hy:Kx.at cx ds y)(hS:St cx w L):JW Tryz.prog zR [.agg ⟨cs⟩, .agg ⟨ds⟩] w fun u w'=>u= .bool (decide (x=y))∧St cx w' L:=by
 obtain ⟨vp,vc,v1,v2,v3,v4,v5,rfl,hp,hc0,h1,h2,h3,h4,h5⟩:=QZ hx;obtain ⟨up,uc,u1,u2,u3,u4,u5,rfl,gp,gc,g1,g2,g3,g4,g5⟩:=QZ hy;have hlen:=hc0.len;obtain ⟨xr,xp,xc,⟨xo,xa,xy,xn,xg⟩⟩:=x;obtain ⟨yr,yp,yc,⟨yo,ya,yy,yn,yg⟩⟩:=y;simp only [Block.mk.injEq,Tail.mk.injEq] at*;refine Kd Kc Tryz.func77 ?_;refine' KO;intro p2 w1 hS;refine zb hS ?_;intro p3 w1 hS;refine' Kg;refine PM hS [2,3] (fun A LL ρ' w'=>J2 ρ' A∧J2 ρ' []∧(xr=yr)∧(xp=yp)∧(xc.length=yc.length)∧St cx w' (LL)) ?_ ?_
 · skip
   (((refine' Ni;refine' KK;first|(refine' Qy)|(refine' QD)|(refine' Ad<;>intro hc));all_goals (refine' RK;(first|(refine' J1)|(refine' J4;refine' J9 (c:=fy hp gp hS);rintro v1 w1 ⟨rfl,hS⟩;(cases hdec:decide (xp=yp));have hg:=of_decide_eq_false hdec;rotate_left;have hg:=of_decide_eq_true hdec;all_goals skip))));all_goals (refine' Oe;refine' Ms;refine' Pv;refine' MO;refine' M0;first|refine' J1|(refine' J4;(first|(refine' Qy)|(refine' QD)|(refine' Ad<;>intro hc)))));all_goals (refine' KU)
   all_goals
    first
    | (refine' JZ;all_goals (refine' Kw);all_goals (refine ⟨_,rfl,?_,hS.sp⟩;(rw [decide_eq_false];rintro ⟨e1,e2,e3,_⟩;have:=congrArg List.length e3;first|omega|(simp_all;done));done))
    | (refine' J0;refine' J5)
   ((exact ⟨zh,zh,Jo,by assumption,Jo,hS.sp⟩))
 rintro ρ w1 ⟨hA,hρ,hr,hpp,hll,hS⟩;obtain ⟨ρ,rfl⟩:=J3 hA hρ;refine' LU;refine LQ hS [2,3] (fun A LL ρ' w'=>∃(j:Nat),J2 ρ' A∧J2 ρ' [(5, .int .i64 j)]∧(j≤xc.length)∧(xc=yc↔xc.drop j=yc.drop j)∧St cx w' (LL)) (fun ρ' _=>(xc.length - iv (ρ' 5)).toNat) ?_ ?_
 · exact AF
 rintro ρ w1 ⟨j,hA,hρ,hj,hd,hS⟩;obtain ⟨ρ,rfl⟩:=J3 hA hρ;refine' Rh;refine' Ab<;>intro hc
 · skip
   (refine' PT;refine zD (ci 12 [10,11]) ?_;have hS:=hS.drew;refine' KK;refine' N1;intro b1 o1 cs1 x1 hat1 hx1 he1;obtain ⟨vr1,va1,rfl,hr1,ha1⟩:=Nh he1;refine' MZ;refine' KK;refine' N1;intro b2 o2 cs2 x2 hat2 hx2 he2;obtain ⟨vr2,va2,rfl,hr2,ha2⟩:=Nh he2;refine' MZ;refine' J9 (c:=Qfy he1 he2 hS);rintro v1 w1 ⟨rfl,hS⟩;(cases hdec:decide (x1=x2));have hg:=of_decide_eq_false hdec;rotate_left;have hg:=of_decide_eq_true hdec;all_goals skip);all_goals (refine' Oh)
   all_goals
    first
    | (refine' JZ;refine' Kw;((refine ⟨_,rfl,?_,hS.sp⟩;(rw [decide_eq_false];rintro ⟨e1,e2,e3,_⟩;have:=congrArg List.length e3;first|omega|(simp_all;done));done)))
    | (refine' J0;refine' J5)
   refine' LH;(exact ⟨⟨j+1,zh,zh,Jo,by rw [hd,Q1 hx1,Q1 hx2,hg];simp,hS.sp⟩,Qb Jo⟩)
 · skip;(refine' K2;refine' Ki;refine' Sm;refine zl hS ?_;refine' Sm;refine zl hS ?_;first|(refine' Ql)|(refine' Qn)|(refine' Ac<;>intro hc));all_goals (refine' zm;refine' SL;refine' SL;first|refine' J1|(refine' J4;(first|(refine' Ql)|(refine' Qn)|(refine' Ac<;>intro hc))));all_goals (refine' Rl;refine' Ya;refine' Sg;refine' Ya;refine' Sg;(first|(refine' J1)|(refine' J4;refine' J9 (c:=tu (x:=xy) (y:=yy) ⟨_,_,rfl,h1,h2⟩ ⟨_,_,rfl,g1,g2⟩ hS);rintro v1 w1 ⟨rfl,hS⟩;(cases hdec:decide (xy=yy));have hg:=of_decide_eq_false hdec;rotate_left;have hg:=of_decide_eq_true hdec;all_goals skip)));all_goals (refine' Rl;refine' Ya;refine' Sg;refine' Ya;refine' Sg;(first|(refine' J1)|(refine' J4;refine' J9 (c:=tu (x:=xn) (y:=yn) ⟨_,_,rfl,h3,h4⟩ ⟨_,_,rfl,g3,g4⟩ hS);rintro v1 w1 ⟨rfl,hS⟩;(cases hdec:decide (xn=yn));have hg:=of_decide_eq_false hdec;rotate_left;have hg:=of_decide_eq_true hdec;all_goals skip)));all_goals (refine' Rl;refine' SL;refine' SL;(first|(refine' J1)|(refine' J4;refine' J9 (c:=iH h5 g5 hS);rintro v1 w1 ⟨rfl,hS⟩));refine' Un;(first|(refine ⟨_,rfl,?_,hS.sp⟩;(rw [decide_eq_false];rintro ⟨e1,e2,e3,_⟩;have:=congrArg List.length e3;first|omega|(simp_all;done));done)|(refine ⟨_,rfl,?_,hS.sp⟩;rw [decide_eq_false];rintro ⟨e1,e2,e3,_⟩;rw [hd,Q1 hx1,Q1 hx2,FG] at e3;exact hg e3.1;done)|(refine ⟨_,rfl,?_,hS.sp⟩;have hcc:xc=yc:=(by rw [hd,EP Jo,EP Jo]);simp [*];done)))
theorem uB {x y:Module}(hx:K6.at cx cs x)(hy:K6.at cx ds y)(hS:St cx w L):JW Tryz.prog zw [.agg ⟨cs⟩, .agg ⟨ds⟩] w fun u w'=>u= .bool (decide (x=y))∧St cx w' L:=by
 (obtain ⟨vf,rfl,hl⟩:=NV hx;obtain ⟨uf,rfl,hm⟩:=NV hy;obtain ⟨l⟩:=x;obtain ⟨m⟩:=y;have hlen:=hl.len;simp only [Module.mk.injEq] at*;refine Kd Kc Tryz.func30 ?_;refine' KO;intro p2 w1 hS;refine zb hS ?_;intro p3 w1 hS;refine' Sj;refine' zL;refine' KK;refine' zL;first|(refine' Qy)|(refine' QD)|(refine' Ad<;>intro hc));all_goals (refine' zn)
 all_goals
  first
  | (refine' JZ;refine' Kw;((refine ⟨_,rfl,?_,hS.sp⟩;(rw [decide_eq_false];exact AJ);done)))
  | (refine' J0;refine' J5)
 refine' LU;refine LQ hS [2,3] (fun A LL ρ' w'=>∃(j:Nat),J2 ρ' A∧J2 ρ' [(5, .int .i64 j)]∧(j≤l.length)∧(l.length=m.length)∧(l=m↔l.drop j=m.drop j)∧St cx w' (LL)) (fun ρ' _=>(l.length - iv (ρ' 5)).toNat) ?_ ?_
 · exact A1
 rintro ρ w1 ⟨j,hA,hρ,hj,hlm,hd,hS⟩;obtain ⟨ρ,rfl⟩:=J3 hA hρ;refine' Rh;refine' Ab<;>intro hc
 · skip
   refine' PT;refine P5 10 11 Jk ?_ ?_
   · skip
     ((((refine zC [(0,none),(1,none),(2,none),(3,none),(4,none),(5,none),(6,none),(7,none),(8,none),(9,none),(10,some (some [1,4,6,9])),(11,some (some [1,4,6,9])),(12,some (some [6,9])),(13,some none)] ?_;have hS:=hS.drew;refine' WZ;refine' Mb;refine' zi;intro b1 o1 cs1 x1 hat1 hx1 he1;obtain ⟨vp1,vr1,vb1,rfl,hp1,hr1,hb1⟩:=Qw he1;refine' fw;refine' N0;refine' Mb;refine' zi;intro b2 o2 cs2 x2 hat2 hx2 he2;obtain ⟨vp2,vr2,vb2,rfl,hp2,hr2,hb2⟩:=Qw he2;refine' W7;intro p6 w1 hS;refine' Mu;refine Qe hS ?_;intro p7 w1 hS;refine' Mu;refine Ka hS ?_;intro w1 hS;have hS:=hS.ns;refine' M4;refine Ka hS ?_;intro w1 hS;have hS:=hS.ns;refine' Lc;refine' MP;refine' KK;first|(refine' Qy)|(refine' QD)|(refine' Ad<;>intro hc));all_goals (refine' RK;(first|(refine' J1)|(refine' J4;refine' J9 (c:=fy (l:=x1.params) (m:=x2.params) hp1 hp2 hS);rintro v1 w1 ⟨rfl,hS⟩;(cases hdec:decide (x1.params=x2.params));have hg:=of_decide_eq_false hdec;rotate_left;have hg:=of_decide_eq_true hdec;all_goals skip))));all_goals (refine' Oe;refine' Sn;(first|(refine' J1)|(refine' J4;refine' J9 (c:=fy (l:=x1.results) (m:=x2.results) hr1 hr2 hS);rintro v1 w1 ⟨rfl,hS⟩;(cases hdec:decide (x1.results=x2.results));have hg:=of_decide_eq_false hdec;rotate_left;have hg:=of_decide_eq_true hdec;all_goals skip))));all_goals (refine' Oe;refine' Ms;refine' Pv;refine' MO;refine' M0;first|refine' J1|(refine' J4;(first|(refine' Qy)|(refine' QD)|(refine' Ad<;>intro hc)))));all_goals (refine' KU)
     all_goals
      first
      | (refine' JZ;all_goals (refine' Kw);all_goals (exact Ar))
      | (refine' J0;refine' J5)
     refine Qu ?_;have hlb:=hb1.len;refine' Lm;refine' NY;refine LQ hS [2,3,5,6,7] (fun A LL ρ' w'=>∃(i:Nat),J2 ρ' A∧J2 ρ' [(8, .int .i64 i)]∧(i≤x1.blocks.length)∧(x1.blocks.length=x2.blocks.length)∧(x1.regs=x2.regs)∧(x1.params=x2.params)∧(x1.results=x2.results)∧(x1.blocks=x2.blocks↔x1.blocks.drop i=x2.blocks.drop i)∧St cx w' (LL)) (fun ρ' _=>(x1.blocks.length - iv (ρ' 8)).toNat) ?_ ?_
     · exact B4
     rintro ρ w1 ⟨i,hA,hρ,hi,hlb2,hre,hpe,hrr,hd2,hS⟩;obtain ⟨ρ,rfl⟩:=J3 hA hρ;refine' Rh;refine' Ab<;>intro hc
     · skip
       (refine' PT;refine zD (ci 12 [10,11]) ?_;have hS:=hS.drew;refine' KK;refine' N1;intro b3 o3 cs3 x3 hat3 hx3 he3;obtain ⟨vp3,vc3,ve31,ve32,ve33,ve34,ve35,rfl,hp3,hc3,he31,he32,he33,he34,he35⟩:=QZ he3;refine' MZ;refine' KK;refine' N1;intro b4 o4 cs4 x4 hat4 hx4 he4;obtain ⟨vp4,vc4,ve41,ve42,ve43,ve44,ve45,rfl,hp4,hc4,he41,he42,he43,he44,he45⟩:=QZ he4;refine' MZ;refine' J9 (c:=uA he3 he4 hS);rintro v1 w1 ⟨rfl,hS⟩;(cases hdec:decide (x3=x4));have hg:=of_decide_eq_false hdec;rotate_left;have hg:=of_decide_eq_true hdec;all_goals skip);all_goals (refine' Oh)
       all_goals
        first
        | (refine' JZ;refine' Kw;first|(refine ⟨_,rfl,?_,hS.sp⟩;rw [decide_eq_false];exact AJ;done)|(refine ⟨_,rfl,?_,hS.sp⟩;(rw [decide_eq_false];rw [hd,Q1 hx1,Q1 hx2,FG];rintro ⟨rfl,_⟩;first|(simp_all;done)|(simp at*;omega));done))
        | (refine' J0;refine' J5)
       refine' LH;(exact CH)
     · skip;refine' K2;refine' LH;(exact CO)
   · skip
     ((((refine zC [(0,none),(1,none),(2,none),(3,none),(4,none),(5,none),(6,none),(7,none),(8,none),(9,none),(11,some (some [1,4,6,9])),(10,some (some [1,4,6,9])),(12,some (some [6,9])),(13,some none)] ?_;have hS:=hS.drew;refine' WZ;refine' Mb;refine' zi;intro b1 o1 cs1 x1 hat1 hx1 he1;obtain ⟨vp1,vr1,vb1,rfl,hp1,hr1,hb1⟩:=Qw he1;refine' fw;refine' N0;refine' Mb;refine' zi;intro b2 o2 cs2 x2 hat2 hx2 he2;obtain ⟨vp2,vr2,vb2,rfl,hp2,hr2,hb2⟩:=Qw he2;refine' W7;intro p7 w1 hS;refine' Mu;refine Qe hS ?_;intro p6 w1 hS;refine' Mu;refine Ka hS ?_;intro w1 hS;have hS:=hS.ns;refine' M4;refine Ka hS ?_;intro w1 hS;have hS:=hS.ns;refine' Lc;refine' MP;refine' KK;first|(refine' Qy)|(refine' QD)|(refine' Ad<;>intro hc));all_goals (refine' RK;(first|(refine' J1)|(refine' J4;refine' J9 (c:=fy (l:=x1.params) (m:=x2.params) hp1 hp2 hS);rintro v1 w1 ⟨rfl,hS⟩;(cases hdec:decide (x1.params=x2.params));have hg:=of_decide_eq_false hdec;rotate_left;have hg:=of_decide_eq_true hdec;all_goals skip))));all_goals (refine' Oe;refine' Sn;(first|(refine' J1)|(refine' J4;refine' J9 (c:=fy (l:=x1.results) (m:=x2.results) hr1 hr2 hS);rintro v1 w1 ⟨rfl,hS⟩;(cases hdec:decide (x1.results=x2.results));have hg:=of_decide_eq_false hdec;rotate_left;have hg:=of_decide_eq_true hdec;all_goals skip))));all_goals (refine' Oe;refine' Ms;refine' Pv;refine' MO;refine' M0;first|refine' J1|(refine' J4;(first|(refine' Qy)|(refine' QD)|(refine' Ad<;>intro hc)))));all_goals (refine' KU)
     all_goals
      first
      | (refine' JZ;all_goals (refine' Kw);all_goals (exact Ar))
      | (refine' J0;refine' J5)
     refine Qu ?_;have hlb:=hb1.len;refine' Lm;refine' NY;refine LQ hS [2,3,5,6,7] (fun A LL ρ' w'=>∃(i:Nat),J2 ρ' A∧J2 ρ' [(8, .int .i64 i)]∧(i≤x1.blocks.length)∧(x1.blocks.length=x2.blocks.length)∧(x1.regs=x2.regs)∧(x1.params=x2.params)∧(x1.results=x2.results)∧(x1.blocks=x2.blocks↔x1.blocks.drop i=x2.blocks.drop i)∧St cx w' (LL)) (fun ρ' _=>(x1.blocks.length - iv (ρ' 8)).toNat) ?_ ?_
     · exact B4
     rintro ρ w1 ⟨i,hA,hρ,hi,hlb2,hre,hpe,hrr,hd2,hS⟩;obtain ⟨ρ,rfl⟩:=J3 hA hρ;refine' Rh;refine' Ab<;>intro hc
     · skip
       (refine' PT;refine zD (ci 12 [10,11]) ?_;have hS:=hS.drew;refine' KK;refine' N1;intro b3 o3 cs3 x3 hat3 hx3 he3;obtain ⟨vp3,vc3,ve31,ve32,ve33,ve34,ve35,rfl,hp3,hc3,he31,he32,he33,he34,he35⟩:=QZ he3;refine' MZ;refine' KK;refine' N1;intro b4 o4 cs4 x4 hat4 hx4 he4;obtain ⟨vp4,vc4,ve41,ve42,ve43,ve44,ve45,rfl,hp4,hc4,he41,he42,he43,he44,he45⟩:=QZ he4;refine' MZ;refine' J9 (c:=uA he3 he4 hS);rintro v1 w1 ⟨rfl,hS⟩;(cases hdec:decide (x3=x4));have hg:=of_decide_eq_false hdec;rotate_left;have hg:=of_decide_eq_true hdec;all_goals skip);all_goals (refine' Oh)
       all_goals
        first
        | (refine' JZ;refine' Kw;first|(refine ⟨_,rfl,?_,hS.sp⟩;rw [decide_eq_false];exact AJ;done)|(refine ⟨_,rfl,?_,hS.sp⟩;(rw [decide_eq_false];rw [hd,Q1 hx1,Q1 hx2,FG];rintro ⟨rfl,_⟩;first|(simp_all;done)|(simp at*;omega));done))
        | (refine' J0;refine' J5)
       refine' LH;(exact CH)
     · skip;refine' K2;refine' LH;(exact CO)
 · skip;refine' OA;first|(refine ⟨_,rfl,?_,hS.sp⟩;rw [decide_eq_false];exact AJ;done)|(refine ⟨_,rfl,?_,hS.sp⟩;(rw [decide_eq_false];rw [hd,Q1 hx1,Q1 hx2,FG];rintro ⟨rfl,_⟩;first|(simp_all;done)|(simp at*;omega));done)|(refine ⟨_,rfl,?_,hS.sp⟩;rw [decide_eq_false];rw [hd,Q1 hx1,Q1 hx2,FG];rintro ⟨rfl,_⟩;rw [hx3] at hx4;cases hx4;exact hg rfl;done)|(refine ⟨_,rfl,?_,hS.sp⟩;rw [decide_eq_true];rw [hd,EP Jo,EP Jo];done)
end
section
variable {cx:Cx}{w:World}{L:List Res}{i:Nat}
def dd:Block:=⟨0,[],[],⟨3,0,⟨0,[],[]⟩,⟨0,[],[]⟩,[]⟩⟩
abbrev px (vc:Value):List Value:=[.int .i64 0, .slice none 0 0,vc, .int .i64 3, .int .i64 0, .int .i64 0, .slice none 0 0, .slice none 0 0, .int .i64 0, .slice none 0 0, .slice none 0 0, .slice none 0 0]
theorem uC (hS:St cx w L):JW Tryz.prog zE [] w fun u w'=>∃a b,u= .agg ⟨[.slice (some ⟨a,0,none⟩) 1 1]⟩∧St cx w' (blk a 95 [.int .i64 0, .slice none 0 0, .slice none 0 0, .slice (some ⟨b,0,none⟩) 1 1]::blk b 92 (px (.slice none 0 0))::L):=by
 refine Kd Kc Tryz.func51 ?_;refine' Rf;(intro p0 w1 hS);refine' W8;refine Oy [_,_,_,_,_,_,_,_,_] ?_;refine Oy [_,_,_,_,_,_,_,_,_,_,_,_] ?_;refine Tn (cs:=[_,_,_,_,_,_,_,_,_,_,_,_]) vw Jr ?_;intro q1 w1 hb1 hf1 _ hk1;have hS:=hS.laid hb1 hf1 hk1;refine Oy [_,_,_,_] ?_;refine Tn (cs:=[_,_,_,_]) vw Jr ?_;intro q2 w1 hb1 hf1 _ hk1;have hS:=hS.laid hb1 hf1 hk1;refine Oy [_] ?_;((refine Ka hS ?_;intro w1 hS;have hS:=hS.ns));refine' L8;refine Lw vw (Q4 (n:=1) Jk Jk (hS.blkAt fd) Jr Jr) ?_;((exact ⟨_,rfl,q2,q1,rfl,hS.sp⟩))
end
section
attribute [local irreducible] Ke Ls Ma MM Np KR Module.fault Ko Lz
variable {cx:Cx}{w:World}{L:List Res}{j:JP}{h:List Bool}{vl:Value}{css:List (List Value)}{i:Nat}{m:Module}
end
end Go.Proofs.YteflkifmgnpbhaaGreat
namespace Go.Lir
section
def QM {α:Type}(x:Except Int α):Int:=match x with
 | .error c=>c
 | .ok _=>0
theorem lz {x:Except Int α}(hn:NZ x)(h:QM x=0):∃a,x= .ok a:=by
 cases x with
 | error c=>exact absurd h (hn c rfl)
 | ok a=>exact ⟨a,rfl⟩
section
variable {α:Type}{x:Except Int α}{v:Value}
theorem uy {p:α→Prop}(h:x= .error c):∀a,x= .ok a→p a:=fun a ha=>by rw [h] at ha;cases ha
theorem i0 {b:α}{p:α→Prop}(h:x= .ok b)(hp:p b):∀a,x= .ok a→p a:=fun a ha=>by rw [h] at ha;cases ha;exact hp
theorem uz {b:α}{p:α→Prop}(h:∀a,x= .ok a→a=b)(hp:p b):∀a,x= .ok a→p a:=fun a ha=>by rw [h a ha];exact hp
theorem iZ (h:x= .error c):(Value.tuple #[v, .int .i64 c])= .tuple #[v, .int .i64 (QM x)]:=by rw [h];rfl
theorem YJ {b:α}(h:x= .ok b):(Value.tuple #[v, .int .i64 0])= .tuple #[v, .int .i64 (QM x)]:=by rw [h];rfl
theorem pt {b:α}(h:x= .ok b)(hc:c=0):(Value.tuple #[v, .int .i64 c])= .tuple #[v, .int .i64 (QM x)]:=by rw [h,hc];rfl
theorem i5 (h:QM x=c):(Value.tuple #[v, .int .i64 c])= .tuple #[v, .int .i64 (QM x)]:=by rw [h]
end
def KZ (s:JS)(k kd:Int)(held:Bool):Int:=QM (if held then K4 s k kd else Kf s k kd)
section
variable {s:JS}{k kd:Int}{held:Bool}{t:Ty}
theorem lA (h:k<0∨(s.l.length:Int)≤k):KZ s k kd held=1:=by
 unfold KZ;cases held
 · simp only [EX,if_false,Kf,Qr (ZV h)];rfl
 · simp only [if_true,K4,Kf,Qr (ZV h)];rfl
theorem py (h0:0≤k)(ht:s.l[k.toNat]?=some t)(hk:t.kind≠kd):KZ s k kd held=9:=by
 have h1:Kf s k kd= .error 9:=(by unfold Kf;rw [Q3 (X0 h0 ht)];exact if_pos hk);unfold KZ;cases held
 · simp only [EX,if_false,h1];rfl
 · simp only [if_true,K4,Qr h1];rfl
theorem uD (h0:0≤k)(ht:s.l[k.toNat]?=some t)(hk:t.kind=kd)(hh:Ke s.h t.r=false):KZ s k kd true=10:=by
 unfold KZ;simp only [if_true,T6 h0 ht hk hh];rfl
theorem uE (h0:0≤k)(ht:s.l[k.toNat]?=some t)(hk:t.kind=kd):Kf s k kd= .ok t:=by
 unfold Kf;rw [Q3 (X0 h0 ht)];exact if_neg (fun h=>h hk)
theorem YK (h0:0≤k)(ht:s.l[k.toNat]?=some t)(hk:t.kind=kd)(hh:Ke s.h t.r=true):K4 s k kd= .ok t:=by
 unfold K4;rw [Q3 (uE h0 ht hk)];exact if_neg (by rw [hh];decide)
theorem Vg (h0:0≤k)(ht:s.l[k.toNat]?=some t)(hk:t.kind=kd)(hh:held=true→Ke s.h t.r=true):KZ s k kd held=0:=by
 unfold KZ;cases held
 · simp only [EX,if_false,uE h0 ht hk];rfl
 · simp only [if_true,YK h0 ht hk (hh rfl)];rfl
theorem YL (h:KZ s k kd true=0):∃t,K4 s k kd= .ok t:=lz (bU s k kd) (by unfold KZ at h;simpa using h)
theorem QgA (h:KZ s k kd false=0):∃t,Kf s k kd= .ok t:=lz (T4 s k kd) (by unfold KZ at h;simpa using h)
theorem pz (h:KZ s k kd true≠0):K4 s k kd= .error (KZ s k kd true):=by
 unfold KZ at h ⊢;simp only [if_true] at h ⊢
 cases hj:K4 s k kd with
 | error c=>rfl
 | ok a=>rw [hj] at h;exact A2
theorem QcP (h:KZ s k kd false≠0):Kf s k kd= .error (KZ s k kd false):=by
 unfold KZ at h ⊢;simp only [EX,if_false] at h ⊢
 cases hj:Kf s k kd with
 | error c=>rfl
 | ok a=>rw [hj] at h;exact A2
end
def Nk:List Int→Int
 | []=>0
 | x::l=>if x≠0 then x else Nk l
def i6 (m:Module)(s:JS)(x:Ins):Except Int (List Ty):=match m.funcs[x.k.toNat]? with
 | none=> .error 1
 | some g=>if (x.regs.length:Int)≠g.regs then .error 2 else JX (MF s.h [] x.regs) fun _=>JX (Ob s x.args g.params x.regs) fun _=> .ok (g.results.map (Mp x.regs))
def KE (m:Module)(f:Fun)(s:JS)(x:Ins):Except Int (List Ty):=
 if x.op=1∨x.op=12 then (.ok [J8])
 else if x.op=2 then (JX (Kf s x.a 1) fun _=>JX (Kf s x.b 1) fun _=> .ok [J8])
 else if x.op=3 then (if s.h.length=16 then .error 2 else .ok [.mk 2 s.h.length []])
 else if x.op=4 then (JX (K4 s x.a 2) fun t=>if t.r<f.regs then .error 11 else .ok [])
 else if x.op=5 then (JX (K4 s x.a 2) fun t=>JX (Kb s x.args) fun ts=>if 4<(Ty.mk 3 t.r ts).depth 4 then .error 19 else .ok [.mk 3 t.r ts])
 else if x.op=6 then (JX (K4 s x.a 3) fun t=>JX (OO t x.k) fun u=> .ok [u])
 else if x.op=7 then (JX (K4 s x.a 3) fun t=>JX (OO t x.k) fun u=>JX (K7 s x.b) fun v=>if u≠v then .error 9 else .ok [])
 else if x.op=8 then (JX (K4 s x.a 2) fun t=>JX (Kf s x.b 1) fun _=> .ok [.mk 4 t.r []])
 else if x.op=9 then (JX (K4 s x.a 4) fun _=>JX (Kf s x.b 1) fun _=> .ok [J8])
 else if x.op=10 then (JX (K4 s x.a 4) fun _=>JX (Kf s x.b 1) fun _=>JX (Kf s x.c 1) fun _=> .ok [])
 else if x.op=11 then (JX (K4 s x.a 4) fun _=> .ok [J8])
 else if x.op=13 then (JX (Kf s x.a 1) fun _=> .ok [])
 else i6 m s x
section
variable {m:Module}{f:Fun}{s:JS}{x:Ins}
theorem Vh (h:x.op=1∨x.op=12):KE m f s x=(.ok [J8]):=by
 unfold KE;rw [if_pos Jo]
theorem Vi (h:x.op=2):KE m f s x=(JX (Kf s x.a 1) fun _=>JX (Kf s x.b 1) fun _=> .ok [J8]):=by
 unfold KE;rw [if_neg Jo,if_pos Jo]
theorem RV (h:x.op=3):KE m f s x=(if s.h.length=16 then .error 2 else .ok [.mk 2 s.h.length []]):=by
 unfold KE;rw [if_neg Jo,if_neg Jo,if_pos Jo]
theorem de (h:x.op=4):KE m f s x=(JX (K4 s x.a 2) fun t=>if t.r<f.regs then .error 11 else .ok []):=by
 unfold KE;rw [if_neg Jo,if_neg Jo,if_neg Jo,if_pos Jo]
theorem i7 (h:x.op=5):KE m f s x=(JX (K4 s x.a 2) fun t=>JX (Kb s x.args) fun ts=>if 4<(Ty.mk 3 t.r ts).depth 4 then .error 19 else .ok [.mk 3 t.r ts]):=by
 unfold KE;(repeat rw [if_neg Jo]);rw [if_pos Jo]
theorem RW (h:x.op=6):KE m f s x=(JX (K4 s x.a 3) fun t=>JX (OO t x.k) fun u=> .ok [u]):=by
 unfold KE;(repeat rw [if_neg Jo]);rw [if_pos Jo]
theorem fS (h:x.op=7):KE m f s x=(JX (K4 s x.a 3) fun t=>JX (OO t x.k) fun u=>JX (K7 s x.b) fun v=>if u≠v then .error 9 else .ok []):=by
 unfold KE;(repeat rw [if_neg Jo]);rw [if_pos Jo]
theorem Vj (h:x.op=8):KE m f s x=(JX (K4 s x.a 2) fun t=>JX (Kf s x.b 1) fun _=> .ok [.mk 4 t.r []]):=by
 unfold KE;(repeat rw [if_neg Jo]);rw [if_pos Jo]
theorem Vk (h:x.op=9):KE m f s x=(JX (K4 s x.a 4) fun _=>JX (Kf s x.b 1) fun _=> .ok [J8]):=by
 unfold KE;(repeat rw [if_neg Jo]);rw [if_pos Jo]
theorem pA (h:x.op=10):KE m f s x=(JX (K4 s x.a 4) fun _=>JX (Kf s x.b 1) fun _=>JX (Kf s x.c 1) fun _=> .ok []):=by
 unfold KE;(repeat rw [if_neg Jo]);rw [if_pos Jo]
theorem pB (h:x.op=11):KE m f s x=(JX (K4 s x.a 4) fun _=> .ok [J8]):=by
 unfold KE;(repeat rw [if_neg Jo]);rw [if_pos Jo]
theorem pC (h:x.op=13):KE m f s x=(JX (Kf s x.a 1) fun _=> .ok []):=by
 unfold KE;(repeat rw [if_neg Jo]);rw [if_pos Jo]
theorem Vl (h:x.op=14):KE m f s x=(i6 m s x):=by
 unfold KE;(repeat rw [if_neg Jo])
end
section
variable {α β γ δ:Type}{x:Except Int α}{y:Except Int β}{z:Except Int γ}
theorem i9 {l:List Int}(h:c≠0):Nk (c::l)=c:=if_pos h
theorem uF (l:List Int):Nk (0::l)=Nk l:=if_neg (fun h=>h rfl)
theorem uG (hx:NZ x)(h:Nk [QM x,QM y]≠0)(g:α→β→Except Int δ):JX x (fun a=>JX y (g a))= .error (Nk [QM x,QM y]):=by
 cases x with
 | error c=>rw [show QM (.error c:Except Int α)=c from rfl,i9 (hx c rfl)];rfl
 | ok a=>
   rw [show QM (.ok a:Except Int α)=0 from rfl,uF] at h ⊢
   cases y with
   | error c=>
     rw [show QM (.error c:Except Int β)=c from rfl] at h ⊢;by_cases hc:c=0
     · subst hc;exact A2
     · rw [i9 hc];rfl
   | ok b=>exact A2
theorem uH (hx:NZ x)(hy:NZ y)(h:Nk [QM x,QM y]=0):∃a b,x= .ok a∧y= .ok b:=by
 cases x with
 | error c=>rw [show QM (.error c:Except Int α)=c from rfl,i9 (hx c rfl)] at h;exact absurd h (hx c rfl)
 | ok a=>
   rw [show QM (.ok a:Except Int α)=0 from rfl,uF] at h
   cases y with
   | error c=>rw [show QM (.error c:Except Int β)=c from rfl,i9 (hy c rfl)] at h;exact absurd h (hy c rfl)
   | ok b=>exact ⟨a,b,rfl,rfl⟩
theorem pD (hx:NZ x)(hy:NZ y)(d:δ):QM (JX x fun _=>JX y fun _=>(.ok d:Except Int δ))=Nk [QM x,QM y]:=by
 by_cases h:Nk [QM x,QM y]=0
 · obtain ⟨a,b,h1,h2⟩:=uH hx hy h;rw [h,Q3 h1,Q3 h2];rfl
 · rw [uG hx h];rfl
theorem Vm (hx:NZ x)(hy:NZ y)(hz:NZ z)(d:δ):QM (JX x fun _=>JX y fun _=>JX z fun _=>(.ok d:Except Int δ))=Nk [QM x,QM y,QM z]:=by
 cases x with
 | error c=>rw [show QM (.error c:Except Int α)=c from rfl,i9 (hx c rfl)];rfl
 | ok a=>
   have:Nk [QM (.ok a:Except Int α),QM y,QM z]=Nk [QM y,QM z]:=rfl;rw [this,←pD hy hz d];rfl
theorem YM {x:Except Int α}{f:α→Except Int β}{b:β}(h:JX x f= .ok b){p:Prop}(hp:∀a,f a= .ok b→p):p:=by
 obtain ⟨a,_,h2⟩:=Q7 h;exact hp a h2
end
section
variable {s:JS}{k kd:Int}
theorem fT:KZ s k kd true=QM (K4 s k kd):=rfl
theorem YN:KZ s k kd false=QM (Kf s k kd):=rfl
end
section
variable {s:JS}{k kd:Int}{m:Module}{f:Fun}{x:Ins}
theorem pE (h:KZ s k kd true=0):∃t,0≤k∧k<s.l.length∧s.l[k.toNat]?=some t∧t.kind=kd∧Ke s.h t.r=true∧K4 s k kd= .ok t:=by
 obtain ⟨t,ht⟩:=YL h;obtain ⟨h1,h2,h3,h4⟩:=WU ht;have:=(EJ.1 h2).1;exact ⟨t,h1,Jo,h2,h3,h4,ht⟩
theorem lB {y:Except Int α}(h:QM y≠0):y= .error (QM y):=by
 cases y with
 | error c=>rfl
 | ok a=>exact A2
theorem pF {y:Except Int Unit}(hn:NZ y)(h:QM y=0):y= .ok ():=by
 obtain ⟨_,h⟩:=lz hn h;exact h
theorem YO (h:x.op=6∨x.op=7)(hj:K4 s x.a 3= .error c):KE m f s x= .error c:=by
 rcases h with h|h
 · rw [RW h,Qr hj]
 · rw [fS h,Qr hj]
theorem YP (h:x.op=6∨x.op=7)(hj:K4 s x.a 3= .ok t)(hf:t.l[x.k.toNat]?=none):KE m f s x= .error 9:=by
 have h1:OO t x.k= .error 9:=(by unfold OO;rw [hf]);rcases h with h|h
 · rw [RW h,Q3 hj,Qr h1]
 · rw [fS h,Q3 hj,Qr h1]
theorem QfR {u:Ty}{k:Int}(h:t.l[k.toNat]?=some u):OO t k= .ok u:=by unfold OO;rw [h]
theorem YQ {g:Fun}(h:x.op=14)(hg:m.funcs[x.k.toNat]?=some g):KE m f s x=(if (x.regs.length:Int)≠g.regs then .error 2 else JX (MF s.h [] x.regs) fun _=>JX (Ob s x.args g.params x.regs) fun _=> .ok (g.results.map (Mp x.regs))):=by
 rw [Vl h];unfold i6;rw [hg]
end
theorem uI {n:Nat}{x:Ins}(hF:Qj n x=0)(e:x.op=5):x.args.length≤8:=by
 unfold Qj Nw at hF;simp [e] at hF;omega
end
section
theorem Tys.wrong_all {n:Int}:∀{l:List Ty},Tys.wrong fields l n=0↔∀t∈l,t.wrong fields n=0
 | []=>by simp [Tys.wrong]
 | x ::l=>by
   rw [Tys.wrong];constructor
   · intro h
     split at h
     · rename_i h1;exact absurd h h1
     · rename_i h1
       intro t ht;rcases ES.1 ht with rfl|ht
       · exact Fy.1 h1
       · exact Tys.wrong_all.1 h t ht
   · intro h;rw [if_neg (fun hn=>hn (h x (Fh ..)))];exact Tys.wrong_all.2 fun t ht=>h t (E9 _ ht)
abbrev HN:=@Tys.wrong_all
theorem Ty.wrong_iff {k r n:Int}{l:List Ty}:(Ty.mk k r l).wrong fields n=0↔(1≤k∧k≤4)∧(k=1→r=0)∧(k≠3→l.length=0)∧l.length≤fields∧(k≠1→0≤r∧r<n)∧∀t∈l,t.wrong fields n=0:=by
 rw [Ty.wrong];constructor
 · intro h
   split at h
   · cases h
   · rename_i h1
     split at h
     · cases h
     · rename_i h2
       split at h
       · cases h
       · rename_i h3
         split at h
         · cases h
         · exact ⟨Jo,Jo,Jo,Jo,Jo,HN.1 h⟩
 · rintro ⟨h1,h2,h3,h4,h5,h6⟩;(repeat rw [if_neg Jo]);exact HN.2 h6
abbrev Gq:=@Ty.wrong_iff
theorem Ty.wrong_up {n n':Int}(hn:n≤n'):∀t:Ty,t.wrong fields n=0→t.wrong fields n'=0:=by
 intro t
 induction t using GX with
 | h k r l ih=>
   intro h;obtain ⟨h1,h2,h3,h4,h5,h6⟩:=Gq.1 h;exact Gq.2 ⟨h1,h2,h3,h4,fun hk=>by have:=h5 hk;omega,fun t ht=>ih t ht (h6 t ht)⟩
mutual
theorem Ty.ren_right {fields:Nat}{f:List Int}{n:Int}(hf:∀i:Nat,i<f.length→0≤f.getD i 0∧f.getD i 0<n):∀(t:Ty),t.wrong fields f.length=0→∃u,t.ren f=some u∧u.wrong fields n=0
 | .mk k r l,ht=>by
   obtain ⟨h1,h2,h3,h4,h5,h6⟩:=Gq.1 ht;obtain ⟨m,hm,hml,hmw⟩:=Tys.ren_right hf l h6;have hr:k≠1→0≤f.getD r.toNat 0∧f.getD r.toNat 0<n:=fun hk=>hf r.toNat D2;refine ⟨.mk k (if k≠1 then f.getD r.toNat 0 else r) m,?_,?_⟩
   · rw [Ty.ren,if_neg (by rintro ⟨hk,hb⟩;have:=h5 hk;have:=hr hk;omega),hm]
   · refine Gq.2 ⟨h1,fun hk=>by rw [if_neg Jo];exact h2 hk,fun hk=>by rw [hml];exact h3 hk,Jo,fun hk=>by rw [if_pos hk];exact hr hk,hmw⟩
theorem Tys.ren_right {fields:Nat}{f:List Int}{n:Int}(hf:∀i:Nat,i<f.length→0≤f.getD i 0∧f.getD i 0<n):∀(l:List Ty),(∀t∈l,t.wrong fields f.length=0)→∃m,Tys.ren l f=some m∧m.length=l.length∧∀u∈m,u.wrong fields n=0
 | [],_=>⟨[],by rw [Tys.ren],rfl,by simp⟩
 | x::l,h=>by
   obtain ⟨y,h1,h2⟩:=Ty.ren_right hf x (h x (Fh ..));obtain ⟨m,h3,h4,h5⟩:=Tys.ren_right hf l (fun t ht=>h t (E9 _ ht));refine ⟨y::m,by rw [Tys.ren,h1,h3],by simp [h4],fun u hu=>?_⟩;rcases ES.1 hu with rfl|hu
   · exact h2
   · exact h5 u hu
end
structure JInv (m:Module) (f:Fun) (z:JS):Prop extends JGood z where
 wf:∀t∈z.l,t.wrong 8 z.h.length=0
 keep:∀r:Int,0≤r→r<f.regs→Ke z.h r=true
theorem Su {h:List Bool}{r:Int}(hr:Ke h r=true):0≤r∧r<h.length:=by have:=bL hr;omega
theorem Ty.fault_wrong {n:Int}(h:t.fault n=0):t.wrong 8 n=0:=by
 unfold Ty.fault at h;split at h
 · cases h
 · exact h
abbrev Hc:=@Ty.fault_wrong
theorem uJ {s:JS}{n:Int}(hw:∀t∈s.l,t.wrong 8 n=0):∀{l:List Int}{ts:List Ty},Kb s l= .ok ts→∀t∈ts,t.wrong 8 n=0
 | [],ts,h=>by rw [Kb] at h;cases h;simp
 | k::l,ts,h=>by
   rw [Kb] at h;obtain ⟨t,h1,h⟩:=Q7 h;obtain ⟨us,h2,h⟩:=Q7 h;cases h;intro u hu;rcases ES.1 hu with rfl|hu
   · exact hw _ (EI (kF h1).2)
   · exact uJ hw h2 u hu
theorem JInv.at {f:Fun}(hg:JInv m f s){k:Int}(h:K4 s k kd= .ok t):t.wrong 8 s.h.length=0∧0≤t.r∧t.r<s.h.length∧t∈s.l:=by
 have h1:=WU h;have h2:=Su h1.2.2.2;exact ⟨hg.wf _ (EI h1.2.1),h2.1,h2.2,EI h1.2.1⟩
theorem uK {f:Fun}{x:Ins}(hF:Qj m.funcs.length x=0)(e:x.op=5)(hg:JInv m f s)(h1:K4 s x.a 2= .ok t)(h2:Kb s x.args= .ok ts):
 (Ty.mk 3 t.r ts).wrong 8 s.h.length=0∧((Ty.mk 3 t.r ts).fault s.h.length≠0↔4<(Ty.mk 3 t.r ts).depth 4):=by
 have h3:=hg.at h1;have h4:=(nE hg.toJGood h2).1;have h5:=uI hF e;have hw:(Ty.mk 3 t.r ts).wrong 8 s.h.length=0:=Gq.2 ⟨Jo,Jo,Jo,Jo,fun _=>by omega,uJ hg.wf h2⟩;refine ⟨hw,?_⟩;have hd:=Ty.depth_iff (Ty.mk 3 t.r ts) (most:=4) Jo;unfold Ty.fault;rw [hw];constructor
 · intro h
   split at h
   · rename_i hb;exact Fv fun hn=>by rw [hd.1 Jo] at hb;cases hb
   · exact absurd rfl h
 · intro h
   rw [if_pos]
   · decide
   · cases hb:(Ty.mk 3 t.r ts).deepB 4 with
     | false=>rfl
     | true=>have:=hd.2 hb;omega
def M6 (s:JS)(x:Ins)(ts:List Ty):Except Int JS:=if 80<s.l.length+ts.length then .error 2 else
 .ok ⟨if x.op=3 then s.h++[true] else if x.op=4 then (match s.l[x.a.toNat]? with|some t=>s.h.set t.r.toNat false|none=>s.h) else s.h,s.l++ts⟩
theorem aD {x:Ins}(hn:s.l.length≤80)(h3:x.op≠3)(h4:x.op≠4):M6 s x [t]=Li s t:=by
 unfold M6 Li;rw [if_neg h3,if_neg h4];by_cases h:s.l.length=80
 · rw [if_pos h,if_pos De]
 · rw [if_neg h,if_neg De]
theorem pG {x:Ins}(hn:s.l.length≤80)(h3:x.op≠3)(h4:x.op≠4):M6 s x []= .ok s:=by
 unfold M6;rw [if_neg h3,if_neg h4,if_neg De,FA]
theorem QL {γ:Type}(x:Except Int α)(f:α→Except Int β)(g:β→Except Int γ):JX (JX x f) g=JX x fun a=>JX (f a) g:=by cases x<;>rfl
theorem QK {x:Except Int α}{f g:α→Except Int β}(h:∀a,x= .ok a→f a=g a):JX x f=JX x g:=by
 cases x with
 | error e=>rfl
 | ok a=>exact h a rfl
theorem Vn {f:Fun}{x:Ins}(hF:Qj m.funcs.length x=0)(hg:JInv m f s):Kl m f s x=JX (KE m f s x) (M6 s x):=by
 have hop:=T0 hF;have hn:=hg.n;rcases Ld (op:=x.op) Jo Jo with e|e|e|e|e|e|e|e|e|e|e|e|e|e
 · rw [WV Jo,Vh Jo,Q3 rfl,aD hn Jo Jo]
 · rw [ZW e,Vi e,QL];refine QK fun _ _=>?_;rw [QL];refine QK fun _ _=>?_;rw [Q3 rfl,aD hn Jo Jo]
 · rw [fe e,RV e]
   by_cases h:s.h.length=16
   · rw [if_pos (.inl h),if_pos h,Qr rfl]
   · rw [if_neg h,Q3 rfl]
     unfold M6;rw [if_pos e];by_cases h8:s.l.length=80
     · rw [if_pos (.inr h8),if_pos De]
     · rw [if_neg Jo,if_neg De]
 · rw [bN e,de e,QL]
   refine QK fun t ht=>?_;by_cases h:t.r<f.regs
   · rw [if_pos h,if_pos h,Qr rfl]
   · rw [if_neg h,if_neg h,Q3 rfl];unfold M6;rw [if_neg (show¬x.op=3 by omega),if_pos e,if_neg De,(WU ht).2.1,FA]
 · rw [ff e,i7 e,QL];unfold TZ
   refine QK fun t ht=>?_;rw [QL];refine QK fun ts hts=>?_;have:=(uK hF e hg ht hts).2;by_cases h:4<(Ty.mk 3 t.r ts).depth 4
   · rw [if_pos (this.2 h),if_pos h,Qr rfl]
   · rw [if_neg (fun hh=>h (this.1 hh)),if_neg h,Q3 rfl,aD hn Jo Jo]
 · rw [ZX e,RW e,QL];refine QK fun _ _=>?_;rw [QL];refine QK fun _ _=>?_;rw [Q3 rfl,aD hn Jo Jo]
 · rw [T1 e,fS e,QL];refine QK fun _ _=>?_;rw [QL];refine QK fun u _=>?_;rw [QL];refine QK fun v _=>?_
   by_cases h:u≠v
   · rw [if_pos h,if_pos h,Qr rfl]
   · rw [if_neg h,if_neg h,Q3 rfl,pG hn Jo Jo]
 · rw [ZY e,Vj e,QL];refine QK fun _ _=>?_;rw [QL];refine QK fun _ _=>?_;rw [Q3 rfl,aD hn Jo Jo]
 · rw [ZZ e,Vk e,QL];refine QK fun _ _=>?_;rw [QL];refine QK fun _ _=>?_;rw [Q3 rfl,aD hn Jo Jo]
 · rw [Z0 e,pA e,QL];refine QK fun _ _=>?_;rw [QL];refine QK fun _ _=>?_;rw [QL];refine QK fun _ _=>?_;rw [Q3 rfl,pG hn Jo Jo]
 · rw [bO e,pB e,QL];refine QK fun _ _=>?_;rw [Q3 rfl,aD hn Jo Jo]
 · rw [WV Jo,Vh Jo,Q3 rfl,aD hn Jo Jo]
 · rw [fg e,pC e,QL];refine QK fun _ _=>?_;rw [Q3 rfl,pG hn Jo Jo]
 · rw [bP e,Vl e];unfold O6 i6
   cases hgf:m.funcs[x.k.toNat]? with
   | none=>rfl
   | some g=>
     dsimp only;by_cases hr:(x.regs.length:Int)≠g.regs
     · rw [if_pos hr,if_pos hr];rfl
     · rw [if_neg hr,if_neg hr,QL];refine QK fun _ _=>?_;rw [QL];refine QK fun _ _=>?_;rw [Q3 rfl];unfold M6;rw [if_neg (show¬x.op=3 by omega),if_neg (show¬x.op=4 by omega),EK]
theorem lx {f:Fun}(hw:∀t∈s.l,t.wrong 8 s.h.length=0)(hk:∀r:Int,0≤r→r<f.regs→Ke s.h r=true)(ht:t.wrong 8 s.h.length=0)(h:Li s t= .ok s'):
 (∀t∈s'.l,t.wrong 8 s'.h.length=0)∧(∀r:Int,0≤r→r<f.regs→Ke s'.h r=true):=by
 obtain ⟨h1,h2,h3⟩:=kG h;refine ⟨fun u hu=>?_,fun r=>by rw [h2];exact hk r⟩;rw [h3] at hu;rw [h2];rcases E3.1 hu with hu|hu
 · exact hw u hu
 · simp at hu;subst hu;exact ht
theorem QbS (n:Int):J8.wrong 8 n=0:=by unfold J8;exact Gq.2 ⟨Jo,Jo,by simp,by simp,Jo,by simp⟩
theorem uL {h:List Bool}{r:Int}(hr:Ke h r=true):Ke (h++[true]) r=true:=by
 obtain ⟨h1,h2,h3⟩:=bL hr;unfold Ke;rw [EL] at h3 ⊢;rw [ER Jo,h3,EM];simp;omega
theorem QdI {h:List Bool}{r k:Int}(hr:Ke h r=true)(hk:0≤k)(hne:k≠r):Ke (h.set k.toNat false) r=true:=by
 obtain ⟨h1,h2,h3⟩:=bL hr;unfold Ke;rw [EL] at h3 ⊢;rw [Gd Jo,h3,Fe];simp;omega
theorem ja {f:Fun}{x:Ins}(hM:m.fault.1=0)(hm:m.Short)(hg:JInv m f s)(hF:Qj m.funcs.length x=0)(h:Kl m f s x= .ok s'):JInv m f s':=by
 have hG:=sD hm hg.toJGood hF h
 suffices hh:(∀t∈s'.l,t.wrong 8 s'.h.length=0)∧(∀r:Int,0≤r→r<f.regs→Ke s'.h r=true) from ⟨hG,hh.1,hh.2⟩
 have hop:=T0 hF;have hw:=hg.wf;have hk:=hg.keep;rcases Ld (op:=x.op) Jo Jo with e|e|e|e|e|e|e|e|e|e|e|e|e|e
 · rw [WV Jo] at h;exact A7
 · rw [ZW e] at h;obtain ⟨_,_,h⟩:=Q7 h;obtain ⟨_,_,h⟩:=Q7 h;exact A7
 · rw [fe e] at h
   split at h
   · cases h
   · cases h
     refine ⟨fun u hu=>?_,fun r h0 h1=>uL (hk r h0 h1)⟩;rw [EM];rcases E3.1 hu with hu|hu
     · exact Ty.wrong_up De u (hw u hu)
     · simp at hu;subst hu;exact Gq.2 ⟨Jo,Jo,by simp,by simp,fun _=>by simp;omega,by simp⟩
 · rw [bN e] at h
   obtain ⟨t,h1,h⟩:=Q7 h;split at h
   · cases h
   · rename_i hlt;cases h;have:=hg.at h1;refine ⟨fun u hu=>by rw [Fe];exact hw u hu,fun r h0 h1=>QdI (hk r h0 h1) Jo Jo⟩
 · rw [ff e] at h;unfold TZ at h
   obtain ⟨t,h1,h⟩:=Q7 h;obtain ⟨ts,h2,h⟩:=Q7 h;split at h
   · cases h
   · exact lx hw hk (uK hF e hg h1 h2).1 h
 · rw [ZX e] at h;obtain ⟨t,h1,h9⟩:=Q7 h;obtain ⟨u,h2,h8⟩:=Q7 h9;have h3:=(hg.at h1).1;clear h h9;obtain ⟨k,r,l⟩:=t;exact lx hw hk ((Gq.1 h3).2.2.2.2.2 u (EI (nF h2))) h8
 · rw [T1 e] at h;obtain ⟨_,_,h⟩:=Q7 h;obtain ⟨_,_,h⟩:=Q7 h;obtain ⟨_,_,h⟩:=Q7 h
   split at h
   · cases h
   · cases h;exact ⟨hw,hk⟩
 · rw [ZY e] at h;obtain ⟨t,h1,h⟩:=Q7 h;obtain ⟨_,_,h⟩:=Q7 h;have:=hg.at h1;exact lx hw hk (Gq.2 ⟨Jo,Jo,by simp,by simp,fun _=>by omega,by simp⟩) h
 · rw [ZZ e] at h;obtain ⟨_,_,h⟩:=Q7 h;obtain ⟨_,_,h⟩:=Q7 h;exact A7
 · rw [Z0 e] at h;obtain ⟨_,_,h⟩:=Q7 h;obtain ⟨_,_,h⟩:=Q7 h;obtain ⟨_,_,h⟩:=Q7 h;cases h;exact ⟨hw,hk⟩
 · rw [bO e] at h;obtain ⟨_,_,h⟩:=Q7 h;exact A7
 · rw [WV Jo] at h;exact A7
 · rw [fg e] at h;obtain ⟨_,_,h⟩:=Q7 h;cases h;exact ⟨hw,hk⟩
 · rw [bP e] at h
   unfold O6 at h;split at h
   · cases h
   · rename_i g hgf
     split at h
     · cases h
     · rename_i hrl
       obtain ⟨_,h1,h⟩:=Q7 h;obtain ⟨_,_,h⟩:=Q7 h;split at h
       · cases h
       · cases h
         refine ⟨fun u hu=>?_,hk⟩;rcases E3.1 hu with hu|hu
         · exact hw u hu
         · obtain ⟨t,ht,rfl⟩:=Fc.1 hu
           have h2:=Hc (hU (SJ (P9 hM hgf)).2.2.2.1 t ht);have hall:=ia h1;rw [show g.regs=(x.regs.length:Int) by omega] at h2
           obtain ⟨v,h3,h4⟩:=Ty.ren_right (n:=s.h.length) (f:=x.regs) (fun i hi=>by
            rw [EL,EH hi];exact Su (hall _ (Gk hi))) t h2
           unfold Mp;rw [h3];exact h4
theorem Vo {f:Fun}{x:Ins}(hM:m.fault.1=0)(hm:m.Short)(hg:JInv m f s):JInv m f (Ko m f s x).2:=by
 by_cases h:(Ko m f s x).1=0
 · obtain ⟨h1,h2⟩:=nC h;exact ja hM hm hg h1 h2
 · rw [sx h];exact hg
theorem lC (hm:m.Short)(hF:m.fault.1=0){f b:Nat}{x:Fun}(hx:m.funcs[f]?=some x)(hy:x.blocks[b]?=some y):JInv m x (Mh y):=by
 have h1:=Z2 (Pp hF hx hy).1;have h2:=SJ (P9 hF hx);have hl:(Mh y).h.length=y.regs.toNat:=(by unfold Mh;simp only [FO];omega);refine ⟨sE hm hF hx hy,fun t ht=>?_,fun r h0 hr=>?_⟩
 · rw [hl,Fb Jo];exact Hc (hU h1.2.2.1 t ht)
 · unfold Ke;rw [hl];unfold Mh;simp only;rw [EL,FW,if_pos Jo];simp;omega
theorem uM {h:List Bool}:∀{n:Nat},(∀i:Nat,i<n→h.getD i false=true)→MM h n=KR n
 | 0,_=>by unfold MM KR;rfl
 | n+1,hk=>by
   rw [kE,if_pos (hk n Jo),uM (fun i hi=>hk i Jo)];unfold KR;rw [Hq,Fa];rfl
theorem uN {h:List Bool}{n:Nat}:∀k:Nat,∃mo,MM h (n+k)=MM h n++mo∧∀r∈mo,(n:Int)≤r
 | 0=>⟨[],by simp,by simp⟩
 | k + 1=>by
   obtain ⟨mo,h1,h2⟩:=uN (h:=h) (n:=n) k;refine ⟨mo++(if h.getD (n+k) false=true then [((n+k:Nat):Int)] else []),?_,fun r hr=>?_⟩
   · rw [show n+(k+1)=n+k+1 by omega,kE,h1,FX]
   · rcases E3.1 hr with hr|hr
     · exact h2 r hr
     · split at hr
       · simp at hr;omega
       · cases hr
theorem pH {f:Fun}(hg:JInv m f s)(hf:0≤f.regs):(f.regs<(Ls s.h).length↔∃r∈Ls s.h,f.regs≤r):=by
 have hle:f.regs≤s.h.length:=by
  by_cases h:f.regs=0
  · omega
  · have:=Su (hg.keep (f.regs - 1) Jo Jo);omega
 have h1:MM s.h f.regs.toNat=KR f.regs.toNat:=uM fun i hi=>(bL (hg.keep i Jo Jo)).2.2;obtain ⟨mo,h2,h3⟩:=uN (h:=s.h) (n:=f.regs.toNat) (s.h.length - f.regs.toNat);rw [show f.regs.toNat+(s.h.length - f.regs.toNat)=s.h.length by omega,h1] at h2;have hul:(KR f.regs.toNat).length=f.regs.toNat:=(by unfold KR;simp);unfold Ls;rw [h2,EM,hul];constructor
 · intro h
   cases mo with
   | nil=>simp at h;omega
   | cons r mo=>exact ⟨r,by simp,by have:=h3 r Js;omega⟩
 · rintro ⟨r,hr,h⟩
   rcases E3.1 hr with hr|hr
   · unfold KR at hr;obtain ⟨i,hi,rfl⟩:=Fc.1 hr;have:=Fz.1 hi;simp only [Int.ofNat_eq_natCast] at h;omega
   · have:0<mo.length:=Hb hr;omega
theorem df (m:Module)(f:Fun)(s:JS)(x:Ins):NZ (KE m f s x):=by
 unfold KE i6
 repeat' (first|exact .o _|exact .e Jd|refine .bind (T4 _ _ _) fun _ _=>?_|refine .bind (bU _ _ _) fun _ _=>?_|refine .bind (su _ _) fun _ _=>?_|refine .bind (gY _ _) fun _ _=>?_|refine .bind (nB _ _) fun _ _=>?_|refine .bind (nA _ _ _) fun _ _=>?_|refine .bind (bV _ _ _ _) fun _ _=>?_|refine .ite ?_ ?_|split)
section
variable {m:Module}{f:Fun}{s:JS}{x:Ins}{ts:List Ty}
theorem dg (h:Qj m.funcs.length x≠0):Ko m f s x=(Qj m.funcs.length x,s):=by unfold Ko;rw [if_pos h]
theorem jb (hF:Qj m.funcs.length x=0)(hg:JInv m f s):Ko m f s x=match JX (KE m f s x) (M6 s x) with
 | .error c=>(c,s)
 | .ok s'=>(0,s'):=by
 unfold Ko;rw [if_neg (fun h=>h hF),Vn hF hg];all_goals (cases JX (KE m f s x) (M6 s x)<;>rfl)
theorem dh (hF:Qj m.funcs.length x=0)(hg:JInv m f s)(h:QM (KE m f s x)≠0):Ko m f s x=(QM (KE m f s x),s):=by
 rw [jb hF hg,Qr (lB h)]
theorem di (hF:Qj m.funcs.length x=0)(hg:JInv m f s)(h:KE m f s x= .ok ts)(hl:80<s.l.length+ts.length):Ko m f s x=(2,s):=by
 rw [jb hF hg,Q3 h];unfold M6;rw [if_pos hl]
theorem YR (hF:Qj m.funcs.length x=0)(hg:JInv m f s)(h:KE m f s x= .ok ts)(hl:¬80<s.l.length+ts.length)(h3:x.op=3):Ko m f s x=(0,⟨s.h++[true],s.l++ts⟩):=by
 rw [jb hF hg,Q3 h];unfold M6;rw [if_neg hl,if_pos h3]
theorem YS (hF:Qj m.funcs.length x=0)(hg:JInv m f s)(h:KE m f s x= .ok ts)(hl:¬80<s.l.length+ts.length)(h4:x.op=4)(ht:s.l[x.a.toNat]?=some t):Ko m f s x=(0,⟨s.h.set t.r.toNat false,s.l++ts⟩):=by
 rw [jb hF hg,Q3 h];unfold M6;rw [if_neg hl,if_neg (show¬x.op=3 by omega),if_pos h4,ht]
theorem dj (hF:Qj m.funcs.length x=0)(hg:JInv m f s)(h:KE m f s x= .ok ts)(hl:¬80<s.l.length+ts.length)(h3:x.op≠3)(h4:x.op≠4):Ko m f s x=(0,⟨s.h,s.l++ts⟩):=by
 rw [jb hF hg,Q3 h];unfold M6;rw [if_neg hl,if_neg h3,if_neg h4]
theorem YT (h:KE m f s x= .ok ts)(h3:x.op=3):s.h.length≠16:=by
 rw [RV h3] at h;split at h
 · cases h
 · assumption
theorem YU (h:KE m f s x= .ok ts)(h4:x.op=4):∃t,0≤x.a∧x.a<s.l.length∧s.l[x.a.toNat]?=some t∧0≤t.r∧t.r<s.h.length:=by
 rw [de h4] at h;obtain ⟨t,h1,_⟩:=Q7 h;obtain ⟨h2,h3,h5,h6⟩:=WU h1;have:=(EJ.1 h3).1;have:=Su h6;exact ⟨t,h2,Jo,h3,this.1,this.2⟩
end
theorem dk {f:Fun}(h:QU f.blocks.length e≠0):Lz f s e=QU f.blocks.length e:=by unfold Lz;rw [if_pos h]
theorem dm {f:Fun}(h:QU f.blocks.length e=0):Lz f s e=QM (Lo f s e):=by
 unfold Lz QM;rw [if_neg (fun hn=>hn h)];cases Lo f s e<;>rfl
theorem Vp {f:Nat}{x:Fun}(hF:m.fault.1=0)(hx:m.funcs[f]?=some x):∀b∈x.blocks,x.regs≤b.regs:=by
 intro b hb;obtain ⟨k,hk⟩:=Fj.1 hb;exact (Z2 (Pp hF hx hk).1).1
def QI (m:Module)(f:Fun)(fi bi:Nat)(e:Tail):Nat→JS→List Ins→LV
 | _,s,[]=>KJ (Lz f s e) (Po fi bi)
 | i,s,x::l=>if (Ko m f s x).1≠0 then ((Ko m f s x).1,OL fi bi i) else QI m f fi bi e (i+1) (Ko m f s x).2 l
def QE (m:Module)(f:Fun)(fi:Nat):Nat→List Block→LV
 | _,[]=>(0,0)
 | b,y::l=>Kz (QI m f fi b y.fin 0 (Mh y) y.code) (QE m f fi (b+1) l)
def NC (m:Module):Nat→List Fun→LV
 | _,[]=>(0,0)
 | f,x::l=>Kz (QE m x f 0 x.blocks) (NC m (f+1) l)
def Module.runs (m:Module):LV:=Kz m.fault (NC m 0 m.funcs)
theorem pI {m:Module}{f:Fun}{fi bi:Nat}{e:Tail}:∀{l:List Ins}{i:Nat}{s:JS},(QI m f fi bi e i s l).1=0→QI m f fi bi e i s l=(0,0)
 | [],_,_,h=>by rw [QI] at h ⊢;exact Sc _ _ h
 | x::l,i,s,h=>by
   rw [QI] at h ⊢;split at h
   · rename_i hn;exact absurd h hn
   · rename_i hn;rw [if_neg hn];exact pI h
theorem lD {m:Module}{f:Fun}{fi:Nat}:∀{l:List Block}{b:Nat},(QE m f fi b l).1=0→QE m f fi b l=(0,0)
 | [],_,_=>by rw [QE]
 | x::l,b,h=>by rw [QE] at h ⊢;exact WS pI lD h
theorem lE {m:Module}:∀{l:List Fun}{f:Nat},(NC m f l).1=0→NC m f l=(0,0)
 | [],_,_=>by rw [NC]
 | x::l,b,h=>by rw [NC] at h ⊢;exact WS lD lE h
section
variable {m:Module}{f:Fun}{fi bi i b:Nat}{e:Tail}{s:JS}{x:Ins}{l:List Ins}{y:Block}{k:List Block}
theorem jc (h:(Ko m f s x).1=0):QI m f fi bi e i s (x::l)=QI m f fi bi e (i+1) (Ko m f s x).2 l:=by rw [QI,if_neg (fun hn=>hn h)]
theorem lF (h:(Ko m f s x).1≠0):QI m f fi bi e i s (x::l)=((Ko m f s x).1,OL fi bi i):=by rw [QI,if_pos h]
theorem uO (h:(QI m f fi b y.fin 0 (Mh y) y.code).1=0):QE m f fi b (y::k)=QE m f fi (b+1) k:=by
 rw [QE,pI h];exact LW lD
theorem Q9D (h:(QI m f fi b y.fin 0 (Mh y) y.code).1≠0):QE m f fi b (y::k)=QI m f fi b y.fin 0 (Mh y) y.code:=by
 rw [QE,Oa h]
theorem uP {k:List Fun}(h:(QE m f fi 0 f.blocks).1=0):NC m fi (f::k)=NC m (fi+1) k:=by
 rw [NC,lD h];exact LW lE
theorem Qck {k:List Fun}(h:(QE m f fi 0 f.blocks).1≠0):NC m fi (f::k)=QE m f fi 0 f.blocks:=by
 rw [NC,Oa h]
theorem pJ (h:l.length≤i):QI m f fi bi e i s (l.drop i)=KJ (Lz f s e) (Po fi bi):=by rw [EP h,QI]
theorem pK {E:LV}(hd:m.runs=NC m q (m.funcs.drop q))(hf:m.funcs[q]?=some f)(hdb:QE m f q 0 f.blocks=QE m f q b (f.blocks.drop b))(hy:f.blocks[b]?=some y)(h0:QI m f q b y.fin 0 (Mh y) y.code=E)(hE:E.1≠0):m.runs=E:=by
 have h1:QE m f q 0 f.blocks=E:=(by rw [hdb,Q1 hy,Q9D (by rw [h0];exact hE),h0]);rw [hd,Q1 hf,Qck (by rw [h1];exact hE),h1]
theorem Vq (hdb:QE m f q 0 f.blocks=QE m f q b (f.blocks.drop b))(hy:f.blocks[b]?=some y)(h0:(QI m f q b y.fin 0 (Mh y) y.code).1=0):QE m f q 0 f.blocks=QE m f q (b+1) (f.blocks.drop (b+1)):=by
 rw [hdb,Q1 hy,uO h0]
theorem Vr (hd:m.runs=NC m q (m.funcs.drop q))(hf:m.funcs[q]?=some f)(hdb:QE m f q 0 f.blocks=QE m f q b (f.blocks.drop b))(hb:f.blocks.length≤b):m.runs=NC m (q+1) (m.funcs.drop (q+1)):=by
 rw [hd,Q1 hf,uP (by rw [hdb,EP hb,QE])]
theorem Vs (hd:m.runs=NC m q (m.funcs.drop q))(hq:m.funcs.length≤q):m.runs=(0,0):=by
 rw [hd,EP hq,NC]
theorem lG (h:m.fault.1≠0):m.runs=m.fault:=by unfold Module.runs;exact Oa h
theorem jd (h:m.fault.1=0):m.runs=NC m 0 m.funcs:=by unfold Module.runs;rw [Module.fault_z h];exact LW lE
end
end
end Go.Lir
namespace Go.Proofs.YteflkifmgnpbhaaGreat
open Go.Lir
attribute [local irreducible] LC.wp Q0 Qh Qd Kq Qz LO.wp Q5 Calls
section
attribute [local irreducible] Ke Ls Ma MM Np KR KZ Nk KE Ko Lz Module.fault OL Po
variable {cx:Cx}{w:World}{L:List Res}{j:JP}{h:List Bool}{vl:Value}{css:List (List Value)}{i:Nat}{m:Module}
theorem Vt {f b:Nat}(hm:m.Short)(hF:m.fault.1=0)(hfn:m.funcs[f]?=some fn)(hy:fn.blocks[b]?=some y)(hx:K6.at cx cs m)(hS:St cx w L):
 JW Tryz.prog tY [.agg ⟨cs⟩, .int .i64 f, .int .i64 b] w fun u w'=>∃(j:JP) (c':Cx) (vl:Value) (css:List (List Value)),u= .tuple #[.pointer (some ⟨j.sp,0,none⟩),Kn (0,0)]∧cx.Le c'∧j.Fits c' m∧j.f=fn∧J7.ls c' css y.params∧St c' w' (j.res (Mh y).h vl css::L):=by
 refine (dc hm hx hS).mono ?_;have h1:=(EJ.1 hfn).1;have h2:=(EJ.1 hy).1;rintro u w' (⟨h0, -⟩|⟨-,h9, -⟩|⟨fn',y',j,c2,vl,css, -, -, -,hf',hy',rfl,hle,hj,jf,hls,hS⟩)
 · exact absurd hF h0
 · exfalso
   rcases h9 with (h|h)|⟨fn',hf',h⟩
   · omega
   · omega
   · rw [E5] at hf';obtain rfl:fn=fn':=E4 (hfn.symm.trans hf');omega
 · rw [E5] at hf' hy';obtain rfl:fn=fn':=E4 (hfn.symm.trans hf');obtain rfl:y=y':=E4 (hy.symm.trans hy');exact ⟨j,c2,vl,css,rfl,hle,hj,jf,hls,hS⟩
theorem Vu {b:Nat}(hm:m.Short)(hF:m.fault.1=0)(hfn:m.funcs[q]?=some fn)(hy:fn.blocks[b]?=some y)(hx:K6.at cx cs m)(hS:St cx w L):
 JW Tryz.prog zW [.agg ⟨cs⟩, .int .i64 q, .int .i64 b] w fun u w'=>u=Kn (QI m fn q b y.fin 0 (Mh y) y.code)∧St cx w' L:=by
 have hx':=hx;obtain ⟨vf,rfl,hf1⟩:=NV hx;have hle:=Fq hS;have hsf:=hm.2 fn (EI hfn);have hfb:=Vp hF hfn;have hfh:=SJ (P9 hF hfn);have hg0:=sE hm hF hfn hy;have hlc:=(hsf.2.2.2 y (EI hy)).2.1;have hq1:=(EJ.1 hfn).1;have hq2:=hm.1;have hb1:=(EJ.1 hy).1;refine Kd Kc Tryz.func91 ?_;refine' KO;intro p3 w1 hS;refine Qe hS ?_;(intro p6 w1 hS);refine' Sp;refine' MQ;refine' K5 (c:=Vt hm hF hfn hy hx' hS);rintro v1 w1 ⟨j,c2,vl,css,rfl,hle2,hj,hjf,hls,hS⟩;(try have hle:=hle.trans hle2);(try have hf1:=hf1.up hle2);unfold Kn;subst hjf;refine' Sh;(intro p8 w1 hS);refine' zm;((refine Ka hS ?_;intro w1 hS;have hS:=hS.ns));refine' OR;refine' N1;intro b1 o1 cs1 x1 hat1 hx1 he1;((obtain ⟨vp1,vr1,vb1,rfl,hp1,hr1,hb1⟩:=Qw he1));obtain rfl:j.f=x1:=E4 (hfn.symm.trans hx1);refine' MH;refine' cm;refine' N1;intro b2 o2 cs2 x2 hat2 hx2 he2;((obtain ⟨vp2,vc2,ve21,ve22,ve23,ve24,ve25,rfl,hp2,hc2,he21,he22,he23,he24,he25⟩:=QZ he2));refine' MI;(intro p9 w1 hS);((refine Ka hS ?_;intro w1 hS;have hS:=hS.ns));refine' zn;obtain rfl:y=x2:=E4 (hy.symm.trans hx2);refine' SQ;refine zo [1,2,6,7,9,31,32] (fun A ρ' w'=>∃(k0:Cx) (i:Nat) (s:JS) (vl:Value) (css:List (List Value)),J2 ρ' A∧J2 ρ' [(33, .int .i64 i)]∧(c2.Le k0)∧(i≤y.code.length)∧(QI m j.f q b y.fin 0 (Mh y) y.code=QI m j.f q b y.fin i s (y.code.drop i))∧(j.Fits k0 m)∧(J7.ls k0 css s.l)∧(JGood s)∧St k0 w' (blk p9 92 [.int .i64 y.regs,vp2,vc2, .int .i64 y.fin.op, .int .i64 y.fin.a, .int .i64 y.fin.yes.block,ve21,ve22, .int .i64 y.fin.no.block,ve23,ve24,ve25]::j.res s.h vl css::blk p6 29 [.int .i64 0, .int .i64 0]::L)) (fun ρ' _=>(y.code.length - iv (ρ' 33)).toNat) ?_ ?_
 · exact Ce
 rintro ρ w1 ⟨k0,i,s,vl,css,hA,hρ,hle2,hi,hdi,hj,hls,hg,hS⟩;obtain ⟨ρ,rfl⟩:=J3 hA hρ;have hL0:=hle2;(try have hle:=hle.trans hle2);(try have hc2:=hc2.up hle2);(try have he21:=he21.up hle2);(try have he22:=he22.up hle2);(try have he23:=he23.up hle2);(try have he24:=he24.up hle2);(try have he25:=he25.up hle2);refine' Mq;refine' Ab<;>intro hc
 · skip
   (refine' Lj;refine' KH;refine' zi;intro b3 o3 cs3 x3 hat3 hx3 he3;obtain ⟨vr3,va3,rfl,hr3,ha3⟩:=Nh he3;refine' MI;intro p11 w1 hS;refine' zm;refine Ka hS ?_;intro w1 hS;have hS:=hS.ns;refine' PW;refine zv hS ?_;refine' J9 (c:=da (s:=s) (x:=x3) hm hg.n hg.h hj he3 hls hS fd);rintro v1 w1 ⟨rfl,c4,vl4,css4,hle2,hls4,hS⟩;have hS:=hS.ns;(try have hle:=hle.trans hle2);(try have hL0:=hL0.trans hle2);have hj:=hj.up hle2;have hg1:=yQ (f:=j.f) (x:=x3) hm hg;obtain ⟨s1,hs1⟩:∃s1,(Ko m j.f s x3).2=s1:=⟨_,rfl⟩;rw [hs1] at hls4 hS hg1;refine' LZ;first|(refine' Qy)|(refine' QD)|(refine' Ad<;>intro hc));all_goals (refine' zn)
   all_goals
    first
    | (refine' JZ;refine' KL;refine' MQ;refine' K5 (c:=um q b i Jo Jo Jo hS);rintro v1 w1 ⟨rfl,hS⟩;refine Na [_,_] ?_;refine Ka hS ?_;intro w1 hS;have hS:=hS.ns;refine' zn;have hJ:QI m j.f q b y.fin 0 (Mh y) y.code=((Ko m j.f s x3).1,OL q b i):=(by rw [hdi,Q1 hx3,lF Jo]);refine' zr;refine Lw vw (Q4 (n:=2) Jk Jk (hS.blkAt fd) Jr Jr) ?_;(exact AS))
    | (refine' J0;refine' J5)
   refine' Og;(exact ⟨⟨_,i+1,s1,vl4,css4,zh,zh,hL0,Jo,by rw [hdi,Q1 hx3,jc Jo,hs1],hj,hls4,hg1,hS.sp⟩,Qb Jo⟩)
 · skip
   (refine' K2;refine' MN;refine' Pa;refine' J9 (c:=db (s:=s) (x:=y.fin) hsf hfb Jo hg.h hj ⟨_,_,_,_,_,rfl,he21,he22,he23,he24,he25⟩ hls hS fd);rintro v1 w1 ⟨rfl,hS⟩;have hde:=pJ (m:=m) (f:=j.f) (fi:=q) (bi:=b) (e:=y.fin) (s:=s) (i:=i) (l:=y.code) Jo;refine' LZ;first|(refine' Qy)|(refine' QD)|(refine' Ad<;>intro hc));all_goals (refine' zn)
   all_goals
    first
    | (refine' JZ;refine' KL;refine' zm;refine' J9 (c:=uk q b Jo Jo hS);rintro v1 w1 ⟨rfl,hS⟩;refine Na [_,_] ?_;refine Ka hS ?_;intro w1 hS;have hS:=hS.ns;refine' zn;have hJ:=hdi.trans (hde.trans (PI Jo));refine' zr;refine Lw vw (Q4 (n:=2) Jk Jk (hS.blkAt fd) Jr Jr) ?_;(exact AS))
    | (refine' J0;refine' J5)
   refine' Ki;refine MA [_,_] ?_;refine Ka hS ?_;intro w1 hS;have hS:=hS.ns;refine' zn;have hJ:=hdi.trans (hde.trans (Sc _ _ (by rw [PJ];omega)));refine' zr;refine Lw vw (Q4 (n:=2) Jk Jk (hS.blkAt fd) Jr Jr) ?_;(exact AS)
theorem uQ (hm:m.Short)(hx:K6.at cx cs m)(hS:St cx w L):
 JW Tryz.prog zB [.agg ⟨cs⟩] w fun u w'=>u=Kn m.runs∧St cx w' L:=by
 (have hx':=hx;obtain ⟨vf,rfl,hf1⟩:=NV hx;have hlf:=hf1.len;refine Kd Kc Tryz.func44 ?_;refine' KO;intro p1 w1 hS;refine Qe hS ?_;intro p2 w1 hS;refine' zn;refine' W0;refine' Kv (c:=uq hm hx' hS);rintro v1 w1 ⟨rfl,hS⟩;unfold Kn;refine Qe hS ?_;intro p3 w1 hS;refine Ka hS ?_;intro w1 hS;have hS:=hS.ns;refine' OR;first|(refine' Qy)|(refine' QD)|(refine' Ad<;>intro hc));all_goals (refine' zn)
 all_goals
  first
  | (refine' JZ;refine' Nr;refine Ka hS ?_;intro w1 hS;have hS:=hS.ns;refine' zn;have hJ:=lG (m:=m) Jo;refine' zr;refine Lw vw (Q4 (n:=2) Jk Jk (hS.blkAt fd) Jr Jr) ?_;(exact BW))
  | (refine' J0;refine' J5)
 refine' Mt;have hF:m.fault.1=0:=Dc;have hr0:=jd hF;have hlf8:=hm.1;refine' ae;refine' PQ;refine LQ hS [1,2,15,16] (fun A LL ρ' w'=>∃(q:Nat),J2 ρ' A∧J2 ρ' [(17, .int .i64 q)]∧(q≤m.funcs.length)∧(m.runs=NC m q (m.funcs.drop q))∧St cx w' (LL)) (fun ρ' _=>(m.funcs.length - iv (ρ' 17)).toNat) ?_ ?_
 · exact ⟨0,zh,zh,Jo,by rw [hr0];rfl,hS.sp⟩
 rintro ρ w1 ⟨q,hA,hρ,hq,hd,hS⟩;obtain ⟨ρ,rfl⟩:=J3 hA hρ;refine' Mq;refine' Ab<;>intro hc
 · skip
   refine' Lj;refine' KH;refine' zi;intro b1 o1 cs1 x1 hat1 hx1 he1;obtain ⟨vp1,vr1,vb1,rfl,hp1,hr1,hb1⟩:=Qw he1;refine' MI;intro p5 w1 hS;refine' zm;refine Ka hS ?_;intro w1 hS;have hS:=hS.ns;refine' zn;have hsf:=hm.2 x1 (EI hx1);have hbl:=hsf.2.2.1;refine' Ni;refine' PQ;refine LQ hS [1,2,4,15,16,17,24] (fun A LL ρ' w'=>∃(b:Nat),J2 ρ' A∧J2 ρ' [(25, .int .i64 b)]∧(b≤x1.blocks.length)∧(QE m x1 q 0 x1.blocks=QE m x1 q b (x1.blocks.drop b))∧St cx w' (LL)) (fun ρ' _=>(x1.blocks.length - iv (ρ' 25)).toNat) ?_ ?_
   · exact Br
   rintro ρ w1 ⟨b,hA,hρ,hb,hdb,hS⟩;obtain ⟨ρ,rfl⟩:=J3 hA hρ;refine' Mq;refine' Ab<;>intro hc
   · skip
     (refine' PT;obtain ⟨y,hy⟩:∃y,x1.blocks[b]?=some y:=⟨_,EH Jo⟩;refine' LF;refine' Kg;refine' Nr;refine' MQ;refine' K5 (c:=Vu hm hF hx1 hy hx' hS);rintro v1 w1 ⟨rfl,hS⟩;unfold Kn;refine Qe hS ?_;intro p7 w1 hS;refine Ka hS ?_;intro w1 hS;have hS:=hS.ns;refine' OR;first|(refine' Qy)|(refine' QD)|(refine' Ad<;>intro hc));all_goals (refine' zn)
     all_goals
      first
      | (refine' JZ;refine' Nr;refine Ka hS ?_;intro w1 hS;have hS:=hS.ns;refine' zn;have hJ:=pK hd hx1 hdb hy rfl Jo;refine' zr;refine Lw vw (Q4 (n:=2) Jk Jk (hS.blkAt fd) Jr Jr) ?_;(exact BW))
      | (refine' J0;refine' J5)
     refine' Og;(exact ⟨⟨b+1,zh,zh,Jo,Vq hdb hy Jo,hS.sp⟩,Qb Jo⟩)
   · skip;refine' K2;refine' Og;(exact ⟨⟨q+1,zh,zh,Jo,Vr hd hx1 hdb Jo,hS.sp⟩,Qb Jo⟩)
 · skip;refine' K2;refine' Ki;refine MA [_,_] ?_;refine Ka hS ?_;intro w1 hS;have hS:=hS.ns;refine' zn;have hJ:=Vs hd Jo;refine' zr;refine Lw vw (Q4 (n:=2) Jk Jk (hS.blkAt fd) Jr Jr) ?_;(exact BW)
end
section
attribute [local irreducible] MV KV Rq pick LA OW Oo Module.runs FunH.trim
variable {cx:Cx}{w:World}{L:List Res}
theorem pL (hsh:m.Short)(hm:K6.at cx cs m)(hS:St cx w L):JW Tryz.prog zA [.agg ⟨cs⟩] w fun u w'=>∃c' ds,u= .tuple #[.agg ⟨ds⟩,Kn m.runs]∧cx.Le c'∧K6.at c' ds (if m.runs.1=0 then m.trim else ⟨[]⟩)∧St c' w' L:=by
 (((have hm0:=hm;obtain ⟨vf,rfl,hf⟩:=NV hm;obtain ⟨a0,n0,rfl⟩:=EU hf;have hlen:=hf.len;have hle:=Fq hS;all_goals refine Kd Kc Tryz.func42 ?_);all_goals (refine' KO;intro p1 w1 hS;refine Qe hS ?_;intro p2 w1 hS;refine Qe hS ?_;intro p3 w1 hS;refine' zn;refine' W0;refine' Kv (c:=uQ hsh hm0 hS);rintro v1 w1 ⟨rfl,hS⟩;unfold Kn;refine Qe hS ?_;intro p4 w1 hS;refine Ka hS ?_;intro w1 hS;have hS:=hS.ns;refine' OR));all_goals (first|(refine' Qy)|(refine' QD)|(refine' Ad<;>intro hc)));all_goals (refine' zn)
 all_goals
  first
  | (refine' J0;all_goals refine' J5)
  | (refine' JZ;all_goals (refine Qu ?_;refine zC [(0,none),(1,none),(2,some (some [1])),(3,some none)] ?_;have hS:=hS.drew;refine' L6;refine MA [_] ?_;refine' KA;refine zv hS ?_;refine' Lu;refine Ka hS ?_;intro w1 hS;have hS:=hS.ns;refine' M4;refine Ka hS ?_;intro w1 hS;have hS:=hS.ns;refine' Lc;refine' zr;refine kC vw (Q4 (n:=1) Jk Jk (hS.blkAt fd) Jr Jr) vw (Q4 (n:=2) Jk Jk (hS.blkAt fd) Jr Jr) ?_);all_goals (first|(rw [EK] at hc;have hZl:Z.length=I.length:=(by rw [hZ];exact hIl.symm);rw [E1 (l:=Z) Jo] at hlo hcd;obtain ⟨c9,hle9,hS9,hfull9, -⟩:=pd (g:=fun y=>y.b.code.map (Kp KF)) (hS.out (r:=P1 84 ps2) fd) hcd (hB.done hZsub hfst) hlo;obtain ⟨c10,hle10,hS10,hk10⟩:=FI (r:=Kj) (hS9.out (r:=sl 95 4 uo csso) fd) hfull9 rfl Df;have hS:=hS10;simp only [Gs,F6] at hS;exact C5)|(exact ⟨_,rfl,cx,[.slice none 0 0],rfl,hle,(by rw [if_neg hc];exact ⟨_,rfl,FL _ _ _⟩),hS.sp⟩)))
 ((((all_goals (refine Qu ?_);all_goals (have hF:m.fault.1=0:=(Fv fun h=>by have:=congrArg Prod.fst (lG h);omega);have hmk:=cL hF;have hrz:m.runs=(0,0):=(by have h0:(NC m 0 m.funcs).1=0:=(by rw [←jd hF];omega);rw [jd hF];exact lE h0)));all_goals (refine' Lm;refine zv hS ?_));all_goals (refine' Kv (c:=QfF hsh hm0 hS);rintro v1 w1 ⟨c1,u0,css0,fs,ps,rfl,hle2,hu0,⟨hto,hls0,hst⟩,hS⟩;(try have hle:=hle.trans hle2);(try have hf:=hf.up hle2);have hfl:fs.length=m.funcs.length:=(by rw [←hto,EK]);have hcl0:=hls0.1;have hfok:∀F∈fs,FOk (F.blocks.map (·.b)):=(fun F hF=>hmk.blk F.to (by rw [←hto];exact Gu hF))));all_goals (refine Ka hS ?_;intro w1 hS;have hS:=hS.ns;refine' zn;refine' MP;refine QO hS vw fd (n:=m.funcs.length) Jo ?_;refine' NY));refine zo [1,2,3,25] (fun A ρ' w'=>∃(k0:Cx) (i:Nat) (css:List (List Value)),J2 ρ' A∧J2 ρ' [(26, .int .i64 i)]∧(c1.Le k0)∧(i≤m.funcs.length)∧(css.length=m.funcs.length)∧(Mc.ls k0 css ((fs.map FunH.trim).take i++fs.drop i))∧St k0 w' (sl 95 4 u0 css::P1 84 ps::blk p4 29 [.int .i64 m.runs.fst, .int .i64 m.runs.snd]::blk p3 29 [.int .i64 0, .int .i64 0]::blk p2 24 [.slice none 0 0]::blk p1 24 [u0]::L)) (fun ρ' _=>(m.funcs.length - iv (ρ' 26)).toNat) ?_ ?_
 · exact ⟨c1,0,css0,zh,zh,Fq hS,Jo,Jo,(by rw [GB,FU];exact hls0),hS.sp⟩
 (rintro ρ w1 ⟨k0,i,css,hA,hρ,hle2,hi,hlc,hls,hS⟩;obtain ⟨ρ,rfl⟩:=J3 hA hρ;have hL0:=hle2;(try have hle:=hle.trans hle2);(try have hf:=hf.up hle2);(try have hst:=hst.up hle2);all_goals (refine' Mq));refine' Ab<;>intro hc
 · skip;all_goals (refine' Lj;refine' Nd;obtain ⟨F,hFi⟩:∃F,fs[i]?=some F:=⟨_,EH Jo⟩;obtain ⟨d8,hd8,hat8⟩:=hls.2 i F (by rw [UT (by rw [EK]) Jo];exact hFi);have hat9:=hat8;obtain ⟨y1,y2,y3,rfl, -⟩:=ll hat9;refine zC [(0,none),(1,none),(2,none),(3,none),(4,none),(5,none),(6,none),(7,none),(8,some (some [1])),(9,none),(10,some none)] ?_;have hS:=hS.drew;refine' WZ;refine' KA;refine' zm;refine' N0;refine' Mb;refine ML (m:=i) hS vw rfl fd Jo ?_;intro b8 o8 hl8;refine' KA;refine NK hS hl8 rfl fd rfl hd8 ?_;refine' Lu);all_goals (refine' Kv (c:=UR (hfok F (EI hFi)) hat8 hS);rintro v1 w1 ⟨c2,ds2,rfl,hle2,hat2,hS⟩;(try have hle:=hle.trans hle2);(try have hL0:=hL0.trans hle2);(try have hf:=hf.up hle2);(try have hls:=hls.up hle2);(try have hst:=hst.up hle2);(try have hat9:=hat9.up hle2));all_goals (refine' MB;refine ML (m:=i) hS vw rfl fd Jo ?_;intro b7 o7 hl7;refine' LM;have hat3:=hat2;obtain ⟨z1,z2,z3,rfl, -⟩:=ll hat3;refine ku hS hl7 rfl rfl rfl fd rfl hd8 rfl (Mc.one hat2) ?_;intro w7 hS;have hS:=hS.ns;refine' Lc;refine' Og;exact ⟨⟨_,i+1,css.set i [.int .i64 F.trim.regs,z1,z2,z3],zh,zh,hL0,Jo,(by rw [Fe];exact hlc),(by rw [←tX (x:=F.trim) (by rw [EK]) (by rw [EN,hFi];rfl)];exact hls.set hat2),hS.sp⟩,Qb Jo⟩)
 · skip
   ((all_goals (refine' K2;rw [E1 Df,EP Jo,FA] at hls;have hB:=Begin.of hst;obtain ⟨cods0,hcods0⟩:∃x,x=(fs.flatMap (·.blocks)).map (·.b.code):=⟨_,rfl⟩;rw [←hcods0] at hB;obtain ⟨fs1,hfs1⟩:∃x,x=fs.map FunH.trim:=⟨_,rfl⟩;rw [←hfs1] at hB hls;obtain ⟨T,hT⟩:∃x,x=m.funcs.map Fun.trim:=⟨_,rfl⟩;have hTl:T.length=m.funcs.length:=(by rw [hT,EK]);have hfl1:fs1.length=m.funcs.length:=(by rw [hfs1,EK,hfl]);have eT:fs1.map (FunH.as fun y=>y.b.code)=T:=(by rw [hT,←hto,hfs1,Gn,Gn];exact FE fun f _=>Jc f);have hcalls:LI T:=(by rw [hT];exact hmk.calls);have hTs:∀f∈T,f.Short:=(fun f hf=>by rw [hT] at hf;obtain ⟨g,hg,rfl⟩:=Fc.1 hf;exact trim_short (hsh.2 g hg));have hT12:∀f∈T,f.blocks.length≤12:=(fun f hf=>by rw [hT] at hf;obtain ⟨g,hg,rfl⟩:=Fc.1 hf;exact UN (hmk.blk g hg).few);have hone:=hmk.one;have hfew:=hmk.few;refine' Ni;refine QO hS vw fd (n:=m.funcs.length) Jo ?_;refine' gx);all_goals (obtain ⟨c5,hle5,hS5,hfull,back5⟩:=pd (g:=fun y=>y.b.code) (I7 hS) hB.cd hB.hd hls;rw [eT] at hfull;obtain ⟨c6,hle6,hS6,hfz,back6⟩:=Jb (r:=Kj) hS5 hfull rfl Jo;refine' J9 (c:=UQ (n:=m.funcs.length) (D:=1200000) (adj:=Nj T) Jo Jo (by have:=hcalls.lt;rw [hTl] at this;exact this) (UM hTs hT12) Jd Jk (Yq hTs hT12 hcalls hfz hTl.symm) (hS6.out (i:=3) rfl));rintro v1 w1 ⟨c7,hle7,hS7⟩;have hS8:=back5 (back6 (hS7.weak hle7));rw [show Rq (Nj T) m.funcs.length=KV T by unfold KV;rw [hTl]] at hS8;obtain ⟨KF,hKF⟩:∃x,x=KV T:=⟨_,rfl⟩;rw [←hKF] at hS8;obtain ⟨I,hI⟩:∃x,x=LA KF:=⟨_,rfl⟩;rw [←hI] at hS8;have hKl:KF.length=fs1.length:=(by rw [hKF,oW];omega);have hIl:=oM hKl;rw [←hI] at hIl;have hpl:=aq KF fs1;obtain ⟨c8,hle2,hS9,hl⟩:=FI (r:=JY) (hS8.out (i:=2) rfl) (ln _) rfl Df;obtain ⟨a5,n5,e5⟩:=EU hl;rw [EK] at e5;subst e5;(try have hle:=hle.trans hle2);(try have hL0:=hL0.trans hle2);(try have hf:=hf.up hle2);(try have hls:=hls.up hle2);(try have hst:=hst.up hle2);(try have hB:=hB.up hle2);have hS:St c8 _ (P1 84 ps::sl 95 4 u0 css::blk p1 24 [u0]::blk p4 29 [.int .i64 m.runs.fst, .int .i64 m.runs.snd]::blk p3 29 [.int .i64 0, .int .i64 0]::blk p2 24 [.slice none 0 0]::L):=hS9;obtain ⟨Z,hZ⟩:∃x,x=pick KF fs1:=⟨_,rfl⟩;have hZsub:Z.Sublist fs1:=(by rw [hZ];exact lp _ _)));all_goals (refine' Kg;refine' Rf;intro p7 w1 hS;refine' zn;refine' MN;refine' PQ));refine zo [1,2,3,6,7,45,46] (fun A ρ' w'=>∃(k1:Cx) (t:Nat) (uo:Value) (csso:List (List Value)) (ps2:List (Value×List (List Value))),J2 ρ' A∧J2 ρ' [(47, .int .i64 t)]∧(c8.Le k1)∧(t≤I.length)∧(Mc.ls k1 csso (Z.take t))∧(oneC uo=true)∧(ps2.map Prod.fst=ps.map Prod.fst)∧(L9 k1 ps2 (NO (Kp KF) cods0 ((Z.take t).flatMap (·.blocks))))∧St k1 w' (sl 95 4 uo csso::blk p7 24 [uo]::P1 84 ps2::sl 95 4 u0 css::blk p1 24 [u0]::blk p4 29 [.int .i64 m.runs.fst, .int .i64 m.runs.snd]::blk p3 29 [.int .i64 0, .int .i64 0]::blk p2 24 [.slice none 0 0]::L)) (fun ρ' _=>(I.length - iv (ρ' 47)).toNat) ?_ ?_
   · exact ⟨c8,0, .slice none 0 0,[],ps,zh,zh,Fq hS,Jo,FY _ _ _,rfl,rfl,hB.cd,by have hS:=hS.nil (T:=95) (es:=4);exact hS.sp⟩
   (rintro ρ w1 ⟨k1,t,uo,csso,ps2,hA,hρ,hle2,ht,hlo,huo,hfst,hcd,hS⟩;obtain ⟨ρ,rfl⟩:=J3 hA hρ;have hL1:=hle2;(try have hle:=hle.trans hle2);(try have hL0:=hL0.trans hle2);(try have hl:=hl.up hle2);(try have hf:=hf.up hle2);(try have hls:=hls.up hle2);(try have hst:=hst.up hle2);(try have hB:=hB.up hle2);all_goals (refine' Mq));refine' Ab<;>intro hc
   · skip
     ((all_goals (refine' Rk;intro b1 o1 cs1 x1 hat1 hx1 he1;obtain rfl:=Qs he1;refine' M1;refine' Kg);all_goals (obtain ⟨k,hk,rfl⟩:∃k:Nat,I[t]?=some k∧(k:Int)=x1:=(by rw [EN] at hx1;cases e:I[t]? with|none=>rw [e] at hx1;cases hx1|some k=>rw [e] at hx1;exact ⟨k,rfl,by simpa using hx1⟩);have hj9:=(EJ.1 hk).1;have hkt:=(iJ KF k).1 (by rw [←hI];exact EI hk);have hkn:=(EJ.1 hkt).1;obtain ⟨F,hFk⟩:∃F,fs1[k]?=some F:=⟨_,EH Jo⟩;have hZt:Z[t]?=some F:=(by rw [hZ,kY hKl (by rw [←hI];exact hk)];exact hFk);obtain ⟨dF,hdF,hatF⟩:=hls.2 k F hFk;have hat9:=hatF;obtain ⟨y1,y2,y3,rfl,hy1,hy2,hy3⟩:=ll hatF;obtain ⟨a3,n3,rfl⟩:=EU hy3;have hTk:T[k]?=some F.to:=(by rw [←eT,EN,hFk];rfl);have oy1:=hy1.oneC;have oy2:=hy2.oneC;have hF12:F.blocks.length≤12:=(by have:=hT12 F.to (EI hTk);rw [show F.to.blocks.length=F.blocks.length from EK _] at this;exact this)));all_goals (refine' Ni;refine' zm;refine ML (m:=k) hS vw rfl fd Jo ?_;intro b8 o8 hl8;refine NK hS hl8 rfl fd rfl hdF ?_;refine Qe hS ?_;intro p10 w1 hS;refine Ka hS ?_;intro w1 hS;have hS:=hS.ns;refine' zn;refine' SQ));refine zo [1,2,3,6,7,10,45,46,47,57,58] (fun A ρ' w'=>∃(k2:Cx) (b:Nat) (ps3:List (Value×List (List Value))),J2 ρ' A∧J2 ρ' [(59, .int .i64 b)]∧(k1.Le k2)∧(b≤F.blocks.length)∧(ps3.map Prod.fst=ps.map Prod.fst)∧(L9 k2 ps3 (NO (Kp KF) cods0 ((Z.take t).flatMap (·.blocks)++F.blocks.take b)))∧St k2 w' (blk p10 95 [.int .i64 F.regs,y1,y2, .slice a3 F.blocks.length n3]::sl 95 4 uo csso::blk p7 24 [uo]::P1 84 ps3::sl 95 4 u0 css::blk p1 24 [u0]::blk p4 29 [.int .i64 m.runs.fst, .int .i64 m.runs.snd]::blk p3 29 [.int .i64 0, .int .i64 0]::blk p2 24 [.slice none 0 0]::L)) (fun ρ' _=>(F.blocks.length - iv (ρ' 59)).toNat) ?_ ?_
     · exact ⟨k1,0,ps2,zh,zh,Fq hS,Jo,hfst,(by rw [GB,FA];exact hcd),hS.sp⟩
     (rintro ρ w1 ⟨k2,b,ps3,hA,hρ,hle2,hb,hfst3,hcd3,hS⟩;obtain ⟨ρ,rfl⟩:=J3 hA hρ;have hL2:=hle2;(try have hle:=hle.trans hle2);(try have hL0:=hL0.trans hle2);(try have hL1:=hL1.trans hle2);(try have hl:=hl.up hle2);(try have hf:=hf.up hle2);(try have hls:=hls.up hle2);(try have hst:=hst.up hle2);(try have hB:=hB.up hle2);(try have hlo:=hlo.up hle2);(try have hcd:=hcd.up hle2);(try have hy1:=hy1.up hle2);(try have hy2:=hy2.up hle2);(try have hy3:=hy3.up hle2);(try have hat9:=hat9.up hle2);all_goals (refine' Mq));refine' Ab<;>intro hc
     · skip
       (all_goals (refine' iz;refine RD (m:=b) vw rfl hy3 rfl Jo ?_;intro b2 o2 cs2 x2 hat2 hx2 he2;obtain ⟨vp2,ve21,ve22,ve23,ve24,ve25,rfl,hp2,ho2,he21,he22,he23,he24,he25⟩:=lk he2;refine' MI;intro p12 w1 hS;refine Ka hS ?_;intro w1 hS;have hS:=hS.ns;refine' zn;have hm2:=EI hx2;have hh2:=hB.hd F (EI hFk) x2 hm2;have hq2:=hB.not (f:=Kp KF) hZsub hZt hx2;have hd3:Hd ps3 x2:=(by have:=hh2.1;unfold Hd at this ⊢;rw [hfst3];exact this);obtain ⟨css3,hps3,hin3,hnl3⟩:=hd3.at_ hcd3 hq2;have hS:=hS.bigOut (i:=4) rfl hps3;have hcl3:=hin3.1;have hlq:=(EJ.1 hps3).1;have hS:St k2 _ (sl 84 8 x2.v css3::Lb (fun p:Value×List (List Value)=>sl 84 8 p.1 p.2) (ps3.eraseIdx x2.q)::blk p12 92 [.int .i64 x2.b.regs,vp2,x2.v, .int .i64 x2.b.fin.op, .int .i64 x2.b.fin.a, .int .i64 x2.b.fin.yes.block,ve21,ve22, .int .i64 x2.b.fin.no.block,ve23,ve24,ve25]::blk p10 95 [.int .i64 F.regs,y1,y2, .slice a3 F.blocks.length n3]::sl 95 4 uo csso::blk p7 24 [uo]::sl 95 4 u0 css::blk p1 24 [u0]::blk p4 29 [.int .i64 m.runs.fst, .int .i64 m.runs.snd]::blk p3 29 [.int .i64 0, .int .i64 0]::blk p2 24 [.slice none 0 0]::L):=hS.sp);all_goals (refine' Ni;refine QO hS vw fd (n:=x2.b.code.length) Jo ?_;refine' NY));refine zo [1,2,3,6,7,10,12,45,46,47,57,58,59,65] (fun A ρ' w'=>∃(i:Nat) (css4:List (List Value)),J2 ρ' A∧J2 ρ' [(66, .int .i64 i)]∧(i≤x2.b.code.length)∧(Ky.ls k2 css4 ((x2.b.code.map (Kp KF)).take i++x2.b.code.drop i))∧(css4.length=x2.b.code.length)∧St k2 w' (sl 84 8 x2.v css4::Lb (fun p:Value×List (List Value)=>sl 84 8 p.1 p.2) (ps3.eraseIdx x2.q)::blk p12 92 [.int .i64 x2.b.regs,vp2,x2.v, .int .i64 x2.b.fin.op, .int .i64 x2.b.fin.a, .int .i64 x2.b.fin.yes.block,ve21,ve22, .int .i64 x2.b.fin.no.block,ve23,ve24,ve25]::blk p10 95 [.int .i64 F.regs,y1,y2, .slice a3 F.blocks.length n3]::sl 95 4 uo csso::blk p7 24 [uo]::sl 95 4 u0 css::blk p1 24 [u0]::blk p4 29 [.int .i64 m.runs.fst, .int .i64 m.runs.snd]::blk p3 29 [.int .i64 0, .int .i64 0]::blk p2 24 [.slice none 0 0]::L)) (fun ρ' _=>(x2.b.code.length - iv (ρ' 66)).toNat) ?_ ?_
       · exact ⟨0,css3,zh,zh,Jo,(by rw [GB,FU];exact hin3),Jo,hS.sp⟩
       (rintro ρ w1 ⟨i,css4,hA,hρ,hi,hin4,hcl4,hS⟩;obtain ⟨ρ,rfl⟩:=J3 hA hρ;all_goals (refine' Mq));refine' Ab<;>intro hc
       · skip
         (all_goals (refine' Lj;refine' Nd;refine Qu ?_;obtain ⟨x3,hx3⟩:∃x,x2.b.code[i]?=some x:=⟨_,EH Jo⟩;obtain ⟨d3,hd3',hat3⟩:=hin4.2 i x3 (by rw [UT (by rw [EK]) Jo];exact hx3);obtain ⟨z1,z2,rfl,hz1,hz2⟩:=Nh hat3;have hm3:=EI hx3;refine' ae;refine' zm;refine ML (m:=i) hS vw rfl fd Jo ?_;intro b4 o4 hl4;refine' MH;refine Q2 (j:=0) hS hl4 rfl fd rfl hd3' rfl ?_);all_goals (first|(refine' Ql)|(refine' Qn)|(refine' Ac<;>intro hc)));all_goals (refine' zn)
         all_goals
          first
          | (refine' J0;all_goals refine' J5)
          | (refine' JZ;all_goals (have hkk:=hcalls.kept Jo hTk (by rw [←hKF];exact hkt) (Gu hm2) hm3 hc;rw [←hKF] at hkk;have hx0:=(hcalls F.to (EI hTk) x2.b (Gu hm2) x3 hm3 hc).1;have hr3:Ky.at k2 [.int .i64 x3.op, .int .i64 x3.a, .int .i64 x3.b, .int .i64 x3.c, .int .i64 (num KF x3.k.toNat), .int .i64 x3.n,z1,z2] (Kp KF x3):=(by unfold Kp;rw [if_pos hc];exact ⟨_,_,rfl,hz1,hz2⟩);have hfk:=oL hkk;rw [←hI,Fb hx0] at hfk;refine zC [(0,none),(1,none),(2,none),(3,none),(4,none),(5,none),(6,none),(7,none),(8,none),(9,none),(10,some (some [1])),(11,none),(12,none),(13,some none)] ?_;have hS:=hS.drew;refine' WZ;refine' Mb;refine' zm;refine' N0;refine' Mb;refine ML (m:=i) hS vw rfl fd Jo ?_;intro b5 o5 hl5;refine' KA;refine' NB;refine Q2 (j:=4) hS hl5 rfl fd rfl hd3' rfl ?_);all_goals (refine' Lu;refine' J9 (c:=oN hl Df hS);rintro v1 w1 ⟨rfl,hS⟩;rw [hfk];refine' MB;refine ML (m:=i) hS vw rfl fd Jo ?_;intro b6 o6 hl6;refine' KA;refine' Uo;refine O2 (j:=4) (css':=css4.set i [.int .i64 x3.op, .int .i64 x3.a, .int .i64 x3.b, .int .i64 x3.c, .int .i64 (num KF x3.k.toNat), .int .i64 x3.n,z1,z2]) hS hl6 rfl rfl fd rfl hd3' Jd rfl rfl ?_;intro w6 hS;have hS:=hS.ns;refine' zt);all_goals refine' nN)
         all_goals (refine' Og;(first|(exact ⟨⟨i+1,css4.set i [.int .i64 x3.op, .int .i64 x3.a, .int .i64 x3.b, .int .i64 x3.c, .int .i64 (num KF x3.k.toNat), .int .i64 x3.n,z1,z2],zh,zh,Jo,(by rw [←tX (x:=Kp KF x3) (by rw [EK]) (by rw [EN,hx3];rfl)];exact hin4.set hr3),(by rw [Fe];exact hcl4),hS.sp⟩,Qb Jo⟩)|(exact ⟨⟨i+1,css4,zh,zh,Jo,(by rw [UU (by rw [EK]) (by rw [EN,hx3];show some (Kp KF x3)=_;unfold Kp;rw [if_neg hc]) Jo];exact hin4),hcl4,hS.sp⟩,Qb Jo⟩)))
       · skip;all_goals (refine' K2;rw [E1 Df,EP Jo,FA] at hin4;have hS:St k2 _ (P1 84 (ps3.set x2.q (x2.v,css4))::blk p12 92 [.int .i64 x2.b.regs,vp2,x2.v, .int .i64 x2.b.fin.op, .int .i64 x2.b.fin.a, .int .i64 x2.b.fin.yes.block,ve21,ve22, .int .i64 x2.b.fin.no.block,ve23,ve24,ve25]::blk p10 95 [.int .i64 F.regs,y1,y2, .slice a3 F.blocks.length n3]::sl 95 4 uo csso::blk p7 24 [uo]::sl 95 4 u0 css::blk p1 24 [u0]::blk p4 29 [.int .i64 m.runs.fst, .int .i64 m.runs.snd]::blk p3 29 [.int .i64 0, .int .i64 0]::blk p2 24 [.slice none 0 0]::L):=Jt (f:=(fun p:Value×List (List Value)=>sl 84 8 p.1 p.2)) (x':=(x2.v,css4)) (i:=0) hS rfl hlq;refine' Og;exact ⟨⟨_,b+1,ps3.set x2.q (x2.v,css4),zh,zh,hL2,Jo,(by rw [Yu hps3];exact hfst3),(by rw [OI hx2,←FX,QhJ];exact hcd3.set hin4 (by rw [EK];exact hnl3)),hS.sp⟩,Qb Jo⟩)
     · skip;all_goals (refine' K2;rw [E1 (l:=F.blocks) Jo] at hcd3;refine' W1;refine KY hS [_,_,_,_] ?_;intro b1 w1 hS;refine za kR RP hS ?_;intro vp1 w1 css1 hls1 hv1 hS;have hS:=hS.ns;refine' PS;intro w1 hS;have hS:=hS.ns;refine' PX;exact ⟨⟨_,t+1,_,_,ps3,zh,zh,hL1,Jo,(by rw [OI hZt];assumption),by assumption,hfst3,(by rw [OI hZt,Hs,FR,List.flatMap_nil,FA];exact hcd3),hS.sp⟩,Qb Jo⟩)
   · skip;all_goals (refine' K2;refine' Nr;refine MA [_,_] ?_;refine Ka hS ?_;intro w1 hS;have hS:=hS.ns;refine Ka hS ?_;intro w1 hS;have hS:=hS.ns;refine' L8;refine kC vw (Q4 (n:=1) Jk Jk (hS.blkAt fd) Jr Jr) vw (Q4 (n:=2) Jk Jk (hS.blkAt fd) Jr Jr) ?_;rw [EK] at hc;have hZl:Z.length=I.length:=(by rw [hZ];exact hIl.symm);rw [E1 (l:=Z) Jo] at hlo hcd;obtain ⟨c9,hle9,hS9,hfull9, -⟩:=pd (g:=fun y=>y.b.code.map (Kp KF)) (hS.out (r:=P1 84 ps2) fd) hcd (hB.done hZsub hfst) hlo;obtain ⟨c10,hle10,hS10,hk10⟩:=FI (r:=Kj) (hS9.out (r:=sl 95 4 uo csso) fd) hfull9 rfl Df;have hS:=hS10;simp only [Gs,F6] at hS;exact C5)
end
section
attribute [local irreducible] Ke Ls Ma WT MM
variable {cx:Cx}{w:World}{L:List Res}
def P2 (hp:Nat)(h:List Bool):Res:=Res.ex fun v=>star (blk hp 163 [v]) (sl 4 1 v (h.map QG))
theorem dp {hp:Nat}{h:List Bool}(hS:St cx w (P2 hp h::L)):∃v,St cx w (blk hp 163 [v]::sl 4 1 v (h.map QG)::L):=by
 obtain ⟨v,hS⟩:=St.ex hS;exact ⟨v,hS.star⟩
theorem aE {h:List Bool}(hS:St cx w (blk hp 163 [v]::sl 4 1 v (h.map QG)::L)):St cx w (P2 hp h::L):=St.ex' v hS.star'
theorem Vv {h:List Bool}{r:Int}(hS:St cx w (blk hp 163 [v]::sl 4 1 v (h.map QG)::L)):
 JW Tryz.prog tj [.pointer (some ⟨hp,0,none⟩), .int .i64 r] w fun u w'=>u= .bool (Ke h r)∧St cx w' (blk hp 163 [v]::sl 4 1 v (h.map QG)::L):=by
 ((have hlen:(h.map QG).length=h.length:=EK _;refine Kd Kc Tryz.func153 ?_;refine' Oi;first|(refine' Ml)|(refine' Mz)|(refine' Ag<;>intro hc));all_goals (refine' Ll;refine' Pc;refine' Ny;(first|refine' J1|(refine' J4;(first|(refine QY hS hel1 rfl OH (OG QG h false Jo) rfl ?_)|(refine zl hS ?_))));refine' X8;first|refine' J1|(refine' J4;(first|(refine' K0)|(refine' K1)|(refine' Ae<;>intro hc)))));all_goals (refine' Pw;refine' Rb;refine' Ny;(first|refine' J1|(refine' J4;(first|(refine QY hS hel1 rfl OH (OG QG h false Jo) rfl ?_)|(refine zl hS ?_))));refine' Mi;(first|refine' J1|(refine' J4;(first|(refine' Nc;intro b1 o1 cs1 x1 hat1 hx1 he1;obtain rfl:=Qs he1)|(refine Ps hS ?_;intro b1 o1 hel1)|(refine Z8 hS ?_;intro b1 o1 hel1))));(first|refine' J1|(refine' J4;(first|(refine QY hS hel1 rfl OH (OG QG h false Jo) rfl ?_)|(refine zl hS ?_)|(refine Sf hS ?_)|(refine cg hS ?_)|(refine il hS ?_)|(refine im hS ?_))));refine' Un;(exact Am))
theorem uR {h:List Bool}(hl:h.length≤16)(hS:St cx w (blk hp 163 [v]::sl 4 1 v (h.map QG)::L)):
 JW Tryz.prog ta [.pointer (some ⟨hp,0,none⟩)] w fun u w'=>∃c',cx.Le c'∧JY.sl c' u (Ls h)∧St c' w' (blk hp 163 [v]::sl 4 1 v (h.map QG)::L):=by
 have hlen:(h.map QG).length=h.length:=EK _;refine Kd Kc Tryz.func100 ?_;refine' LG;refine' LG;refine' LU;have hS:=HM (T:=3) (es:=1) hS;refine zo [0] (fun A ρ' w'=>∃(j:Nat) (vo:Value) (co:List (List Value)),J2 ρ' A∧J2 ρ' [(4, .int .i64 j),(3,vo)]∧(j≤h.length)∧(JY.ls cx co (MM h j))∧St cx w' (sl 3 1 vo co::blk hp 163 [v]::sl 4 1 v (h.map QG)::L)) (fun ρ' _=>(h.length - iv (ρ' 4)).toNat) ?_ ?_
 · exact Co
 rintro ρ w1 ⟨j,vo,co,hA,hρ,hj,hls,hS⟩;obtain ⟨ρ,rfl⟩:=J3 hA hρ;have hll:=nr h j;have hsu:=kE h j;refine' O8;refine' Mm;(first|(refine QY hS Ja rfl Pn (OG QG h false Jo) rfl ?_)|(refine zl hS ?_));refine' cp;refine' PN;refine' Ab<;>intro hc
 · skip
   refine' Lj;refine' KH;refine' Mm;(first|(refine QY hS Ja rfl Pn (OG QG h false Jo) rfl ?_)|(refine zl hS ?_));refine' zm;(first|(refine' Nc;intro b1 o1 cs1 x1 hat1 hx1 he1;obtain rfl:=Qs he1)|(refine Ps hS ?_;intro b1 o1 hel1));(first|(refine QY hS Ja rfl Pn (OG QG h false Jo) rfl ?_)|(refine zl hS ?_)|(refine Sf hS ?_)|(refine cg hS ?_)|(refine il hS ?_)|(refine im hS ?_));refine' zn;refine' Aa<;>intro hc
   · skip;refine' Oj;refine KY hS [_] ?_;intro b1 w1 hS;refine za Ro RQ hS ?_;intro vp1 w1 css1 hls1 hv1 hS;have hS:=hS.ns;refine' Um;(exact C3)
   · skip;refine' J5;refine' LH;(exact Ao)
 · skip;refine' Up;(refine ⟨_,rfl,?_⟩;obtain ⟨c',hle,hS',hk⟩:=FI (r:=JY) hS hls rfl Jo;refine ⟨c',hle,?_,hS'⟩;rw [show j=h.length by omega] at hk;unfold Ls;exact hk)
theorem Vw {s:List Int}(hK:JY.sl cx v s)(hS:St cx w L):JW Tryz.prog oE [v, .int .i64 c] w fun u w'=>u= .bool (decide (c∈s))∧St cx w' L:=by
 have hlen:=hK.len;refine Kd Kc Tryz.func154 ?_;refine' LG;refine' LU;refine LQ hS [0,1] (fun A LL ρ' w'=>∃(j:Nat),J2 ρ' A∧J2 ρ' [(5, .int .i64 j)]∧(j≤s.length)∧(c∈s↔c∈s.drop j)∧St cx w' (LL)) (fun ρ' _=>(s.length - iv (ρ' 5)).toNat) ?_ ?_
 · exact AF
 rintro ρ w1 ⟨j,hA,hρ,hj,hd,hS⟩;obtain ⟨ρ,rfl⟩:=J3 hA hρ;refine' Sk;refine' Ab<;>intro hc
 · skip
   (refine' Lj;refine' KL;refine' zi;intro b1 o1 cs1 x1 hat1 hx1 he1;obtain rfl:=Qs he1;refine' M1;refine' zm;first|(refine' Ql)|(refine' Qn)|(refine' Ac<;>intro hc));all_goals (refine' zn)
   all_goals
    first
    | (refine' JZ;refine' Kw;((refine ⟨_,rfl,?_,hS.sp⟩;(rw [decide_eq_true];rw [hd,Q1 hx1,ES];exact .inl Jo);done)))
    | (refine' J0;refine' J5)
   refine' LH;(exact Cm)
 · skip;refine' OA;(first|(refine ⟨_,rfl,?_,hS.sp⟩;rw [decide_eq_true];rw [hd,Q1 hx1,ES];exact .inl Jo;done)|(refine ⟨_,rfl,?_,hS.sp⟩;rw [decide_eq_false];rw [hd,EP Jo];exact EY;done))
theorem YV {h:List Bool}(hl:h.length≤16)(hx:JY.sl cx v2 xs)(hS:St cx w (blk hp 163 [v]::sl 4 1 v (h.map QG)::L)):
 JW Tryz.prog tm [.pointer (some ⟨hp,0,none⟩),v2] w fun u w'=>u= .int .i64 (Ma h [] xs)∧St cx w' (blk hp 163 [v]::sl 4 1 v (h.map QG)::L):=by
 have hxl:=hx.len;have hll:(Ls h).length≤h.length:=(by unfold Ls;exact nr _ _);rw [yL];refine Kd Kc Tryz.func157 ?_;refine' LG;refine' LU;refine LQ hS [0,1] (fun A LL ρ' w'=>∃(j:Nat),J2 ρ' A∧J2 ρ' [(5, .int .i64 j)]∧(j≤xs.length)∧(WT h xs [] xs=WT h xs (xs.take j) (xs.drop j))∧St cx w' (LL)) (fun ρ' _=>(xs.length - iv (ρ' 5)).toNat) ?_ ?_
 · exact Br
 rintro ρ w1 ⟨j,hA,hρ,hj,hgo,hS⟩;obtain ⟨ρ,rfl⟩:=J3 hA hρ;refine' Sk;refine' Ab<;>intro hc
 · skip
   refine' Lj;refine' MN;refine' MQ;refine' zi;intro b1 o1 cs1 x1 hat1 hx1 he1;obtain rfl:=Qs he1;refine' M1;rw [Q1 hx1,WT] at hgo;refine' J9 (c:=Vv hS);rintro v1 w1 ⟨rfl,hS⟩;refine' Oh;refine' Aa<;>intro hc
   · skip;refine' Kw;(exact Bq)
   · skip
     have hc1:Ke h x1=true:=Dx;rw [if_pos hc1] at hgo;refine' J5;refine Qu ?_;refine zD (ci 8 [7]) ?_;have hS:=hS.drew;refine' MQ;((refine kA vw hx rfl rfl ⟨_,rfl⟩ rfl Jo Jo ?_;intro v4 hs4;rw [FU] at hs4));refine' MQ;refine' zi;intro b2 o2 cs2 x2 hat2 hx2 he2;((obtain rfl:=Qs he2));refine' M1;refine' J9 (c:=Vw hs4 hS);rintro v1 w1 ⟨rfl,hS⟩;obtain rfl:x1=x2:=E4 (hx1.symm.trans hx2);refine' zn;refine' Ab<;>intro hc
     · skip;refine' Kw;first|(exact Bq)|(exact BC)
     · skip;refine' J5;refine' LH;(exact ⟨⟨j+1,zh,zh,Jo,by rw [hgo,if_neg hc,OI hx1],hS.sp⟩,Qb Jo⟩)
 · skip
   refine' K2;refine' KH;refine' Kv (c:=uR (L:=L) hl hS.sp);rintro v5 w5 ⟨c5,hle5,hk5,hS⟩;have hx5:=hx.up hle5;have hie:j=xs.length:=Dc;subst hie;rw [HS,List.drop_length,WT] at hgo;refine' Kg;refine' LU;refine LQ hS [1,6] (fun A LL ρ' w'=>∃(q:Nat),J2 ρ' A∧J2 ρ' [(7, .int .i64 q)]∧(q≤(Ls h).length)∧(∀y∈(Ls h).take q,y∈xs)∧St c5 w' (LL)) (fun ρ' _=>((Ls h).length - iv (ρ' 7)).toNat) ?_ ?_
   · exact AF
   rintro ρ w1 ⟨q,hA,hρ,hq,hall,hS⟩;obtain ⟨ρ,rfl⟩:=J3 hA hρ;refine' Sk;refine' Ab<;>intro hc
   · skip
     refine' Lj;refine' KL;refine' N1;intro b3 o3 cs3 x3 hat3 hx3 he3;obtain rfl:=Qs he3;refine' M1;refine' J9 (c:=Vw hx5 hS);rintro v1 w1 ⟨rfl,hS⟩;refine' Oh;refine' Aa<;>intro hc
     · skip;have hn3:x3∉xs:=Dx;refine' Kw;first|(exact Bq)|(exact BC)|(exact CV)
     · skip;have hn3:x3∈xs:=Dx;refine' J5;refine' LH;((exact ⟨⟨q+1,zh,zh,Jo,bH hall hx3 hn3,hS.sp⟩,Qb Jo⟩))
   · skip;refine' OA;first|(exact Bq)|(exact BC)|(exact CV)|(exact ⟨_,rfl,(by rw [hgo,if_pos (gP hall Jo)]),Gi hS.sp hle5⟩)
theorem dq {n:Int}(hS:St cx w L):JW Tryz.prog zX [.int .i64 n] w fun u w'=>∃hp v,u= .pointer (some ⟨hp,0,none⟩)∧St cx w' (blk hp 163 [v]::sl 4 1 v ((List.replicate (min n 16).toNat true).map QG)::L):=by
 refine Kd Kc Tryz.func93 ?_;refine' LG;refine' Ki;refine MA [_] ?_;refine zb hS ?_;intro p6 w1 hS;refine' Kg;refine' LU;have hS:=HM (T:=4) (es:=1) hS;refine zo [0,3] (fun A ρ' w'=>∃(j:Nat) (v:Value),J2 ρ' A∧J2 ρ' [(4, .int .i64 j)]∧(j≤(min n 16).toNat)∧St cx w' (sl 4 1 v ((List.replicate j true).map QG)::blk p6 163 [v]::L)) (fun ρ' _=>(min n 16 - iv (ρ' 4)).toNat) ?_ ?_
 · exact ⟨0,_,zh,zh,Jo,hS.sp⟩
 ((rintro ρ w1 ⟨j,v,hA,hρ,hj,hS⟩;obtain ⟨ρ,rfl⟩:=J3 hA hρ;refine' O8;first|(refine' K0)|(refine' K1)|(refine' Ae<;>intro hc));all_goals (refine' Ll;first|refine' J1|(refine' J4;(first|(refine' K0)|(refine' K1)|(refine' Ae<;>intro hc)))));all_goals (refine' KU)
 all_goals
  first
  | (refine' JZ;refine' Lj;refine' Oj;refine' O7;refine KY hS [_] ?_;intro b1 w1 hS;refine Nv fx (.inl kT) hS vw vw fd (hS.srcB1 fd rfl) De ?_;intro vp w2 hS;have hS:=hS.ns;rw [show (List.replicate j true).map QG++[[Value.bool true]]=(List.replicate (j+1) true).map QG by rw [H6,Fa];rfl] at hS;refine' Mm;refine LP hS ?_;intro w1 hS;have hS:=hS.ns;refine' zn;refine' LH;(exact ⟨⟨j+1,_,zh,zh,Jo,hS.sp⟩,Qb Jo⟩))
  | (refine' J0;all_goals (refine' Up);all_goals (exact Ca))
end
section
attribute [local irreducible] Ke Ls Ma MM Np KR KZ
variable {cx:Cx}{w:World}{L:List Res}{j:JP}{h:List Bool}{vl:Value}{css:List (List Value)}{i:Nat}{m:Module}
@[reducible] def JP.kcells (j:JP)(vl:Value):List Value:=[j.vm, .int .i64 j.f.regs,j.vp,j.vr,j.vb, .pointer (some ⟨j.hp,0,none⟩),vl]
theorem Vx {r:Int}(hS:St cx w L)(hi:nth L i=some (P2 hp h)):JW Tryz.prog tj [.pointer (some ⟨hp,0,none⟩), .int .i64 r] w fun u w'=>u= .bool (Ke h r)∧St cx w' L:=by
 obtain ⟨v,h2⟩:=dp (hS.out hi);refine (Vv h2).mono ?_;rintro u w' ⟨h3,h4⟩;exact ⟨h3,Fi (aE h4) hi⟩
theorem YW (hl:h.length≤16)(hS:St cx w L)(hi:nth L i=some (P2 hp h)):JW Tryz.prog ta [.pointer (some ⟨hp,0,none⟩)] w fun u w'=>∃c',cx.Le c'∧JY.sl c' u (Ls h)∧St c' w' L:=by
 obtain ⟨v,h2⟩:=dp (hS.out hi);refine (uR hl h2).mono ?_;rintro u w' ⟨c',h3,h5,h4⟩;exact ⟨c',h3,h5,Fi (aE h4) hi⟩
theorem YX (hl:h.length≤16)(hx:JY.sl cx v2 xs)(hS:St cx w L)(hi:nth L i=some (P2 hp h)):JW Tryz.prog tm [.pointer (some ⟨hp,0,none⟩),v2] w fun u w'=>u= .int .i64 (Ma h [] xs)∧St cx w' L:=by
 obtain ⟨v,h2⟩:=dp (hS.out hi);refine (YV hl hx h2).mono ?_;rintro u w' ⟨h3,h4⟩;exact ⟨h3,Fi (aE h4) hi⟩
theorem Rw {k:Int}{held:Bool}(hls:J7.ls cx css s.l)(hS:St cx w (blk j.sp 158 (j.kcells vl)::P2 j.hp s.h::sl 115 3 vl css::L)):
 JW Tryz.prog z9 [.pointer (some ⟨j.sp,0,none⟩), .int .i64 k, .int .i64 kd, .bool held] w fun u w'=>u= .int .i64 (KZ s k kd held)∧St cx w' (blk j.sp 158 (j.kcells vl)::P2 j.hp s.h::sl 115 3 vl css::L):=by
 ((have hlc:=hls.1;refine Kd Kc Tryz.func98 ?_;refine' NN;first|(refine' K0)|(refine' K1)|(refine' Ae<;>intro hc));all_goals (refine' Ll;refine' Pc;refine' MO;(first|refine' J1|(refine' J4;refine QO hS vw fd hlc ?_));first|refine' J1|(refine' J4;(first|(refine' Ml)|(refine' Mz)|(refine' Ag<;>intro hc)))));all_goals (refine' KU)
 all_goals
  first
  | (refine' JZ;all_goals (refine' Kw);all_goals (refine ⟨_,rfl,?_,hS.sp⟩;rw [lA Jo];done))
  | (refine' J0;refine' J5)
 (refine' Mt;obtain ⟨t,ht⟩:∃t,s.l[k.toNat]?=some t:=⟨_,EH Jo⟩;obtain ⟨d,hd,hrd⟩:=hls.2 _ _ ht;obtain ⟨vd,rfl,hld⟩:=Qc hrd;refine' W6;refine' zm;(first|(refine' Nc;intro b1 o1 cs1 x1 hat1 hx1 he1;obtain ⟨vl1,rfl,hl1⟩:=Qc he1)|(refine Ps hS ?_;intro b1 o1 hel1)|(refine Z8 hS ?_;intro b1 o1 hel1));refine' MH;refine QY hS hel1 rfl fd rfl hd rfl ?_;refine' zm;first|(refine' Qy)|(refine' QD)|(refine' Ad<;>intro hc));all_goals (refine' zn)
 all_goals
  first
  | (refine' JZ;refine' Kw;first|(refine ⟨_,rfl,?_,hS.sp⟩;rw [lA Jo];done)|(refine ⟨_,rfl,?_,hS.sp⟩;rw [py Jo ht Jo];done))
  | (refine' J0;refine' J5)
 (refine' Mt;cases held;all_goals (refine zD (ci 17 [14,16]) ?_;have hS:=hS.drew;refine' zm;refine' Ll;refine' Rb;refine' MO;refine' Pc;refine' MO;refine' Mi;(first|refine' J1|(refine' J4;(first|(refine' Nc;intro b2 o2 cs2 x2 hat2 hx2 he2;obtain ⟨vl2,rfl,hl2⟩:=Qc he2)|(refine Ps hS ?_;intro b2 o2 hel2)|(refine Z8 hS ?_;intro b2 o2 hel2))));refine' Nt;(first|refine' J1|(refine' J4;refine Q2 (j:=1) hS hel2 rfl fd rfl hd rfl ?_));first|refine' J1|(refine' J4;refine' J9 (c:=Vx hS fd);rintro v1 w1 ⟨rfl,hS⟩;cases hb:Ke s.h t.r)));all_goals (refine' Oe;refine' KU)
 all_goals
  first
  | (refine' JZ;refine' Kw;first|(refine ⟨_,rfl,?_,hS.sp⟩;rw [lA Jo];done)|(refine ⟨_,rfl,?_,hS.sp⟩;rw [py Jo ht Jo];done)|(refine ⟨_,rfl,?_,hS.sp⟩;rw [uD Jo ht Jo hb];done))
  | (refine' J0;all_goals refine' J5)
 all_goals (refine' Kw;first|(refine ⟨_,rfl,?_,hS.sp⟩;rw [lA Jo];done)|(refine ⟨_,rfl,?_,hS.sp⟩;rw [py Jo ht Jo];done)|(refine ⟨_,rfl,?_,hS.sp⟩;rw [uD Jo ht Jo hb];done)|(refine ⟨_,rfl,?_,hS.sp⟩;rw [Vg Jo ht Jo (fun h=>Bool.noConfusion h)];done)|(refine ⟨_,rfl,?_,hS.sp⟩;rw [Vg Jo ht Jo (fun _=>hb)];done))
theorem pM {l regs:List Int}{want:List Ty}{v1 v3:Value}(hsh:∀t∈want,t.Short)(hls:J7.ls cx css s.l)(h1:JY.sl cx v1 l)(h2:J7.sl cx v2 want)(h3:JY.sl cx v3 regs)(hS:St cx w (blk j.sp 158 (j.kcells vl)::P2 j.hp s.h::sl 115 3 vl css::L)):
 JW Tryz.prog QcL [.pointer (some ⟨j.sp,0,none⟩),v1,v2,v3] w fun u w'=>u= .int .i64 (QM (Ob s l want regs))∧St cx w' (blk j.sp 158 (j.kcells vl)::P2 j.hp s.h::sl 115 3 vl css::L):=by
 (have hl1:=h1.len;have hl2:=h2.len;have hlc:=hls.1;have hle:=Fq hS;have hlsX:=hls.2;unfold Ob;refine Kd Kc Tryz.func99 ?_;refine' NN;(first|(refine QO hS vw fd hlc ?_)|(refine' zL));refine' zm;(first|(refine QO hS vw fd hlc ?_)|(refine' zL));first|(refine' Qy)|(refine' QD)|(refine' Ad<;>intro hc));all_goals (refine' zn)
 all_goals
  first
  | (refine' JZ;refine' Kw;(exact Bk))
  | (refine' J0;refine' J5)
 refine' LU;refine LQ hS [0,1,2,3] (fun A LL ρ' w'=>∃(k0:Cx) (q:Nat),J2 ρ' A∧J2 ρ' [(9, .int .i64 q)]∧(cx.Le k0)∧(q≤l.length)∧(Nx s regs l want=Nx s regs (l.drop q) (want.drop q))∧(want.length=l.length)∧St k0 w' (LL)) (fun ρ' _=>(l.length - iv (ρ' 9)).toNat) ?_ ?_
 · exact ⟨cx,0,zh,zh,Fq hS,Jo,by rfl,Jo,hS.sp⟩
 rintro ρ w1 ⟨k0,q,hA,hρ,hle2,hq,hd,hw,hS⟩;obtain ⟨ρ,rfl⟩:=J3 hA hρ;have hL0:=hle2;(try have hle:=hle.trans hle2);(try have hls:=hls.up hle2);(try have h1:=h1.up hle2);(try have h2:=h2.up hle2);(try have h3:=h3.up hle2);refine' O8;(first|(refine QO hS vw fd hlc ?_)|(refine' zL));refine' PN;refine' Ab<;>intro hc
 · skip
   ((refine' Lj;refine' Mt;refine zD (ci 17 [16]) ?_;have hS:=hS.drew;refine' MQ;refine' zi;intro b1 o1 cs1 x1 hat1 hx1 he1;obtain rfl:=Qs he1;refine' M1;first|(refine' K0)|(refine' K1)|(refine' Ae<;>intro hc));all_goals (refine' Ll;refine' Mi;(first|refine' J1|(refine' J4;refine RD vw rfl h1 rfl Jo ?_;intro b8 o8 cs8 x8 hat8 hx8 he8;obtain rfl:=Qs he8;obtain rfl:x1=x8:=E4 (hx1.symm.trans hx8)));refine' ck;refine' Pc;refine' MO;(first|refine' J1|(refine' J4;refine QO hS vw fd hlc ?_));first|refine' J1|(refine' J4;(first|(refine' Ml)|(refine' Mz)|(refine' Ag<;>intro hc)))));all_goals (refine' KU)
   all_goals
    first
    | (refine' J0;refine' J5)
    | (refine' JZ;all_goals (refine' Kw);all_goals (first|(exact Bk)|(exact ⟨_,rfl,by rw [if_neg Jo,hd,kH hx1 (EH Jo) (ZV Jo)];rfl,Gi hS.sp hL0⟩)))
   refine Qu ?_;obtain ⟨t,ht⟩:∃t,s.l[x1.toNat]?=some t:=⟨_,EH Jo⟩;obtain ⟨d,hdt,hrd⟩:=hls.2 _ _ ht;have g1:=X0 Jo ht;refine' Lm;refine' zm;refine' zm;((refine' zi;intro b2 o2 cs2 x2 hat2 hx2 he2;((obtain ⟨vl2,rfl,hl2⟩:=Qc he2))));refine' MZ;refine' zm;refine' J9 (c:=pg x2 (hsh x2 (EI hx2)) he2 h3 hS);rintro v1 w1 ⟨c3,ds,rfl,hle2,hu3,hS⟩;(try have hle:=hle.trans hle2);(try have hL0:=hL0.trans hle2);(try have hl2:=hl2.up hle2);(try have he2:=he2.up hle2);(try have hls:=hls.up hle2);(try have h1:=h1.up hle2);(try have h2:=h2.up hle2);(try have h3:=h3.up hle2);have hrd:=Rep.R.up hrd hle2;(have hrd':=hrd);obtain ⟨vd,rfl,hld⟩:=Qc hrd;rcases hn:x2.ren regs with _|y<;>rw [hn] at hu3<;>simp only [Option.getD_none,GA] at hu3<;>(have hu3':=hu3)<;>obtain ⟨vu,rfl,hlu⟩:=Qc hu3
   all_goals (refine' Sh;intro p10 w1 hS;refine Ka hS ?_;intro w1 hS;have hS:=hS.ns;refine' Kg;refine Qu ?_;refine zD (ci 17 [14,16]) ?_;have hS:=hS.drew;refine' zm;refine' PK;refine' zm;refine' Sg;refine' Pc;refine' MO;refine' Mi;refine' Mi;(first|refine' J1|(refine' J4;refine RD vw rfl h1 rfl Jo ?_;intro b4 o4 cs4 x4 hat4 hx4 he4;obtain rfl:=Qs he4;obtain rfl:x1=x4:=E4 (hx1.symm.trans hx4)));refine' ck;(first|refine' J1|(refine' J4;refine QJ hS vw rfl fd Jo Jo ?_;intro b5 o5 hel5));(first|refine' J1|(refine' J4;refine NK hS hel5 rfl fd rfl hdt ?_));first|refine' J1|(refine' J4;refine' J9 (c:=oG _ _ hu3' hrd' hS);rintro v1 w1 ⟨rfl,hS⟩;cases hdc:decide (y=t)));all_goals (refine' Oe;refine' KU)
   all_goals
    first
    | (refine' JZ;all_goals (refine' Kw);all_goals (first|(exact Bk)|(exact ⟨_,rfl,by rw [if_neg Jo,hd,kH hx1 (EH Jo) (ZV Jo)];rfl,Gi hS.sp hL0⟩)|(exact Cp)|(exact Ci)))
    | (refine' J0;refine' J5)
   refine' LH;(exact ⟨⟨_,q+1,zh,zh,hL0,Jo,by rw [hd,si hx1 hx2 g1 hn (of_decide_eq_true hdc).symm],hw,hS.sp⟩,Qb Jo⟩)
 · skip;refine' OA;first|(exact Bk)|(exact ⟨_,rfl,by rw [if_neg Jo,hd,kH hx1 (EH Jo) (ZV Jo)];rfl,Gi hS.sp hL0⟩)|(exact Cp)|(exact Ci)|(exact ⟨_,rfl,by rw [if_neg Jo,hd,sj Jo];rfl,Gi hS.sp hL0⟩)
theorem lH (hn:xs.length≤1000)(hS:St cx w (sl 3 1 v (xs.map KQ)::L)):JW Tryz.prog Ye [v] w fun u w'=>u= .int .i64 (Nk xs)∧St cx w' (sl 3 1 v (xs.map KQ)::L):=by
 have hlc:(xs.map KQ).length=xs.length:=EK _;refine Kd Kc Tryz.func151 ?_;refine' LG;refine' LU;refine LQ hS [0] (fun A LL ρ' w'=>∃(q:Nat),J2 ρ' A∧J2 ρ' [(3, .int .i64 q)]∧(q≤xs.length)∧(Nk xs=Nk (xs.drop q))∧St cx w' (LL)) (fun ρ' _=>(xs.length - iv (ρ' 3)).toNat) ?_ ?_
 · exact Br
 rintro ρ w1 ⟨q,hA,hρ,hq,hd,hS⟩;obtain ⟨ρ,rfl⟩:=J3 hA hρ;refine' O8;refine QO hS vw fd hlc ?_;refine' PN;refine' Ab<;>intro hc
 · skip
   (refine' PT;obtain ⟨x,hx⟩:∃x,xs[q]?=some x:=⟨_,EH Jo⟩;have hxc:(xs.map KQ)[q]?=some (KQ x):=(by rw [EN,hx];rfl);refine' Oj;refine ML hS vw rfl fd Jo ?_;intro b1 o1 hel1;refine QY hS hel1 rfl fd rfl hxc rfl ?_;first|(refine' Qy)|(refine' QD)|(refine' Ad<;>intro hc));all_goals (refine' zn)
   all_goals
    first
    | (refine' JZ;refine' KL;refine ML hS vw rfl fd Jo ?_;intro b2 o2 hel2;refine QY hS hel2 rfl fd rfl hxc rfl ?_;refine' KN;((refine ⟨_,rfl,?_,hS.sp⟩;(rw [hd,Q1 hx,Nk,if_pos Jo]);done)))
    | (refine' J0;refine' J5)
   refine' LH;(exact ⟨⟨q+1,zh,zh,Jo,by rw [hd,Q1 hx,Nk,if_neg Jo],hS.sp⟩,Qb Jo⟩)
 · skip;refine' OA;(first|(refine ⟨_,rfl,?_,hS.sp⟩;rw [hd,Q1 hx,Nk,if_pos Jo];done)|(refine ⟨_,rfl,?_,hS.sp⟩;rw [hd,EP Jo];rfl;done))
end
section
attribute [local irreducible] Ke Ls Ma MM Np KR KZ Nk KE
variable {cx:Cx}{w:World}{L:List Res}{j:JP}{h:List Bool}{vl:Value}{css:List (List Value)}{i:Nat}{m:Module}

@[reducible] def Lq (j:JP)(s:JS)(vl:Value)(css:List (List Value))(L:List Res):List Res:=blk j.sp 158 (j.kcells vl)::P2 j.hp s.h::sl 115 3 vl css::L
theorem Vy {x : Ins}(hm:m.Short)(hF:Qj m.funcs.length x=0)(hg:JGood s)(hj:j.Fits cx m)(hx:Ky.at cx cs x)(hls:J7.ls cx css s.l)(hS:St cx w (blk j.sp 158 (j.kcells vl)::P2 j.hp s.h::sl 115 3 vl css::L)):
 JW Tryz.prog zZ [.pointer (some ⟨j.sp,0,none⟩), .agg ⟨cs⟩] w fun u w'=>∃c' v,cx.Le c'∧u= .tuple #[v, .int .i64 (QM (KE m j.f s x))]∧(∀ts,KE m j.f s x= .ok ts→J7.sl c' v ts)∧St c' w' (blk j.sp 158 (j.kcells vl)::P2 j.hp s.h::sl 115 3 vl css::L):=by
 (have hx':=hx;have hop:=T0 hF;have hlc:=hls.1;have hn:=hg.n;have hm1:=hj.m;have hN:∀{c:Cx},J7.at c [.int .i64 1, .int .i64 0, .slice none 0 0] J8:=O3 (FL _ _ _);obtain ⟨vr,va,rfl,hr,ha⟩:=Nh hx;have hlr:=hr.len;have hla:=ha.len;refine Kd Kc Tryz.func95 ?_;refine' KO;intro p3 w1 hS;refine' zm;refine' Kg;refine' Ki;refine Oy [_,_,_] ?_;refine Tn (cs:=[_,_,_]) vw Jr ?_;intro nb w1 hb1 hf1 _ hk1;have hS:=hS.laid hb1 hf1 hk1;refine' Sj;refine' Si;refine' M3;first|(refine' Ql)|(refine' Qn)|(refine' Ac<;>intro hc));all_goals (refine' Kg)
 all_goals
  first
  | (refine' JZ;refine' J5)
  | (refine' J0;(refine' Lm;first|(refine' Ql)|(refine' Qn)|(refine' Ac<;>intro hc));all_goals (refine' zm);all_goals refine' zn)
 all_goals
  first
  | (refine' JZ;all_goals (refine' KL;refine' Kg;have hM:KE m j.f s x= .ok [J8]:=Vh Jo;refine' N5);all_goals (first|(exact Ay)|(exact AH)|(exact AG)|(obtain ⟨c9,hle9,hS,hk9⟩:=Fm (r:=J7) (L:=Lq j s vl css L) hS.sp (hN:J7.at _ _ J8);exact AI)|(obtain ⟨c9,hle9,hS,hk9⟩:=Fm (r:=J7) (L:=Lq j s vl css L) hS.sp (hN:J7.at _ _ J8);exact AE)))
  | (refine' J0
     (refine' Ki;first|(refine' Ql)|(refine' Qn)|(refine' Ac<;>intro hc));all_goals (refine' Kg)
     all_goals
      first
      | (refine' JZ;refine Qu ?_;refine zC [(0,none),(1,none),(2,none),(3,none),(5,none),(6,none),(7,none),(4,some (some [7])),(8,some (some [])),(9,some (some [])),(10,some (some [])),(11,none),(12,some none)] ?_;have hS:=hS.drew;refine' Nz;refine' zm;refine' Rn;refine' zm;refine' Rm;refine' Nb (c:=Rw (s:=s) (k:=x.a) (kd:=1) (held:=false) hls hS.p3);rintro v1 w1 ⟨rfl,hS⟩;refine' Mu;refine' Nb (c:=Rw (s:=s) (k:=x.b) (kd:=1) (held:=false) hls hS.p3);rintro v1 w1 ⟨rfl,hS⟩;refine' Mu;refine ko (cs:=[_,_]) vw vw Jr ?_;intro fb w1 hb1 hf1 _ hk1;have hS:=hS.laid hb1 hf1 hk1;have hS:=Gp (es:=1) (css:=[KZ s x.a 1 false,KZ s x.b 1 false].map KQ) hS rfl (by simp [KQ]) rfl;refine' Mu;refine' Kv (c:=lH (xs:=[KZ s x.a 1 false,KZ s x.b 1 false]) Js hS);rintro v1 w1 ⟨rfl,hS⟩;refine' MB;refine' zm;refine' W5;have hC:QM (KE m j.f s x)=Nk [KZ s x.a 1 false,KZ s x.b 1 false]:=(by rw [Vi Jo,YN,YN];exact pD (T4 _ _ _) (T4 _ _ _) _);have hT:∀ts,KE m j.f s x= .ok ts→ts=[J8]:=(fun ts h=>by rw [Vi Jo] at h;exact YM h fun _ h=>YM h fun _ h=>by cases h;rfl);refine' N5;first|(exact Ay)|(exact AH)|(exact AG)|(obtain ⟨c9,hle9,hS,hk9⟩:=Fm (r:=J7) (L:=Lq j s vl css L) hS.sp (hN:J7.at _ _ J8);exact AI))
      | (refine' J0
         (refine' Ki;first|(refine' Ql)|(refine' Qn)|(refine' Ac<;>intro hc));all_goals (refine' Kg)
         all_goals
          first
          | (refine' JZ
             (refine' MN;refine' O7;refine' Mm;obtain ⟨vh,hS⟩:=dp (hp:=j.hp) (h:=s.h) (L:=blk j.sp 158 (j.kcells vl)::sl 115 3 vl css::blk nb 115 [.int .i64 1, .int .i64 0, .slice none 0 0]::blk p3 84 [.int .i64 x.op, .int .i64 x.a, .int .i64 x.b, .int .i64 x.c, .int .i64 x.k, .int .i64 x.n,vr,va]::L) hS.sp;refine eW hS vw fd rfl ?_;refine QO hS vw fd (EK _) ?_;have hS:=aE (L:=blk j.sp 158 (j.kcells vl)::sl 115 3 vl css::blk nb 115 [.int .i64 1, .int .i64 0, .slice none 0 0]::blk p3 84 [.int .i64 x.op, .int .i64 x.a, .int .i64 x.b, .int .i64 x.c, .int .i64 x.k, .int .i64 x.n,vr,va]::L) (h:=s.h) (hp:=j.hp) (v:=vh) hS.sp;first|(refine' Ql)|(refine' Qn)|(refine' Ac<;>intro hc));all_goals (refine' zn)
             all_goals
              first
              | (refine' JZ;refine' Nd;have hM:KE m j.f s x= .error 2:=(by rw [RV Jo];exact if_pos Jo);refine' N5;((exact Ay)))
              | (refine' J0;refine' J5)
             refine' KH;refine' O7;refine' Mm;obtain ⟨vh,hS⟩:=dp (hp:=j.hp) (h:=s.h) (L:=blk j.sp 158 (j.kcells vl)::sl 115 3 vl css::blk nb 115 [.int .i64 1, .int .i64 0, .slice none 0 0]::blk p3 84 [.int .i64 x.op, .int .i64 x.a, .int .i64 x.b, .int .i64 x.c, .int .i64 x.k, .int .i64 x.n,vr,va]::L) hS.sp;refine eW hS vw fd rfl ?_;refine QO hS vw fd (EK _) ?_;have hS:=aE (L:=blk j.sp 158 (j.kcells vl)::sl 115 3 vl css::blk nb 115 [.int .i64 1, .int .i64 0, .slice none 0 0]::blk p3 84 [.int .i64 x.op, .int .i64 x.a, .int .i64 x.b, .int .i64 x.c, .int .i64 x.k, .int .i64 x.n,vr,va]::L) (h:=s.h) (hp:=j.hp) (v:=vh) hS.sp;refine Na [_,_,_] ?_;refine Tn (cs:=[_,_,_]) vw Jr ?_;intro ob w1 hb1 hf1 _ hk1;have hS:=hS.laid hb1 hf1 hk1;refine' zm;refine' Kg;have hM:KE m j.f s x= .ok [.mk 2 s.h.length []]:=(by rw [RV Jo];exact if_neg Jo);have hrow:∀{c:Cx},J7.at c [.int .i64 2, .int .i64 s.h.length, .slice none 0 0] (.mk 2 s.h.length []):=O3 (FL _ _ _);refine' N5;first|(exact Ay)|(exact AH)|(exact AG)|(obtain ⟨c9,hle9,hS,hk9⟩:=Fm (r:=J7) (L:=Lq j s vl css L) hS.sp (hN:J7.at _ _ J8);exact AI)|(obtain ⟨c9,hle9,hS,hk9⟩:=Fm (r:=J7) (L:=Lq j s vl css L) hS.sp (hN:J7.at _ _ J8);exact AE)|(obtain ⟨c9,hle9,hS,hk9⟩:=Fm (r:=J7) (L:=Lq j s vl css L) hS.sp hrow;exact AE))
          | (refine' J0
             (refine' Ki;first|(refine' Ql)|(refine' Qn)|(refine' Ac<;>intro hc));all_goals (refine' Kg)
             all_goals
              first
              | (refine' JZ
                 refine' NA;refine' Nb (c:=Rw (s:=s) (k:=x.a) (kd:=2) (held:=true) hls hS.p3);rintro v1 w1 ⟨rfl,hS⟩;refine' Kg;rcases I6 (KZ s x.a 2 true=0) with hw|hw;rotate_left;have hM:KE m j.f s x= .error (KZ s x.a 2 true):=(by rw [de Jo,Qr (pz hw)]);rotate_left;obtain ⟨t,g0,g1,ht,hk,hb,hjt⟩:=pE (s:=s) (k:=x.a) (kd:=2) Jo;obtain ⟨d,hd,hrd⟩:=hls.2 _ _ ht;have hrt:=hrd;obtain ⟨vd,rfl,hld⟩:=Qc hrd
                 all_goals (refine' Mt;refine zD (ci 19 [18]) ?_;have hS:=hS.drew;refine' zm;refine' Rc;refine' Ll;refine' Rb;refine' MO;refine' MO;(first|refine' J1|(refine' J4;refine QJ hS vw rfl fd Jo Jo ?_;intro b1 o1 hel1));refine' Nt;(first|refine' J1|(refine' J4;refine Q2 (j:=1) hS hel1 rfl fd rfl hd rfl ?_));refine' Pc;refine' SL;first|refine' J1|(refine' J4;(first|(refine' K0)|(refine' K1)|(refine' Ae<;>intro hc))));all_goals (refine' KU)
                 all_goals
                  first
                  | (refine' JZ;refine' LF;refine' zn)
                  | (refine' J0;all_goals refine' J5)
                 all_goals (refine' KL;refine' N4);all_goals (first|(exact Ay)|(exact AH)|(exact AG)|(obtain ⟨c9,hle9,hS,hk9⟩:=Fm (r:=J7) (L:=Lq j s vl css L) hS.sp (hN:J7.at _ _ J8);exact AI)|(obtain ⟨c9,hle9,hS,hk9⟩:=Fm (r:=J7) (L:=Lq j s vl css L) hS.sp (hN:J7.at _ _ J8);exact AE)|(obtain ⟨c9,hle9,hS,hk9⟩:=Fm (r:=J7) (L:=Lq j s vl css L) hS.sp hrow;exact AE)|(obtain ⟨c9,hle9,hS,hk9⟩:=Fm (r:=J7) (L:=Lq j s vl css L) hS.sp hrow;exact A0)|(exact Bh)|(exact Bp)|(have hM:KE m j.f s x= .error 11:=(by rw [de Jo,Q3 hjt,if_pos Jo]);exact Ay)|(have hM:KE m j.f s x= .ok []:=(by rw [de Jo,Q3 hjt,if_neg Jo]);exact AG)))
              | (refine' J0
                 (refine' Ki;first|(refine' Ql)|(refine' Qn)|(refine' Ac<;>intro hc));all_goals (refine' Kg)
                 all_goals
                  first
                  | (refine' JZ
                     (refine' Re;refine' Nb (c:=Rw (s:=s) (k:=x.a) (kd:=2) (held:=true) hls hS.p3);rintro v1 w1 ⟨rfl,hS⟩;refine' LZ;first|(refine' Qy)|(refine' QD)|(refine' Ad<;>intro hc));all_goals (refine' zn)
                     all_goals
                      first
                      | (refine' JZ;refine' KL;refine' Kg;have hM:KE m j.f s x= .error (KZ s x.a 2 true):=(by rw [i7 Jo,Qr (pz Jo)]);refine' N5;((exact Ay)))
                      | (refine' J0;refine' J5)
                     refine Qu ?_;have hal:=uI hF Jo;obtain ⟨t,g0,g1,ht,hk,hb,hjt⟩:=pE (s:=s) (k:=x.a) (kd:=2) Jo;obtain ⟨d,hd,hrd⟩:=hls.2 _ _ ht;have hrt:=hrd;obtain ⟨vd,rfl,hld⟩:=Qc hrd;refine zC [(0,none),(1,none),(2,none),(3,none),(4,none),(5,none),(6,none),(7,none),(8,none),(9,none),(10,some (some [3,5,8])),(11,some none)] ?_;have hS:=hS.drew;refine' Nz;refine' Pq;refine' N0;refine' Rn;refine QJ hS vw rfl fd Jo Jo ?_;intro b1 o1 hel1;refine' KA;refine' NB;refine Q2 (j:=1) hS hel1 rfl fd rfl hd rfl ?_;refine' KA;refine Na [_,_,_] ?_;refine' Pu;intro p9 w1 hS;refine' zt;refine ⟨EO.2 ⟨(by first|(exact BZ)|(exact Az)),EO.2 ⟨(by first|(exact BZ)|(exact Az)),EO.2 ⟨(by (exact BZ)),fun _ h=>(EY h).elim⟩⟩⟩,?_⟩;refine' Lx;refine Ka hS ?_;intro w1 hS;have hS:=hS.ns;refine' Lc;refine' LU;have hS:=HM (T:=115) (es:=3) hS;refine zo [0,3,9] (fun A ρ' w'=>∃(q:Nat) (vo:Value) (co:List (List Value)) (ts:List Ty),J2 ρ' A∧J2 ρ' [(10, .int .i64 q)]∧(q≤x.args.length)∧(J7.ls cx co ts)∧(ts.length=q)∧(oneC vo=true)∧(Kb s x.args=JX (Kb s (x.args.drop q)) fun l=> .ok (ts++l))∧St cx w' (sl 115 3 vo co::blk p9 115 [.int .i64 3, .int .i64 t.r,vo]::blk nb 115 [.int .i64 1, .int .i64 0, .slice none 0 0]::blk p3 84 [.int .i64 x.op, .int .i64 x.a, .int .i64 x.b, .int .i64 x.c, .int .i64 x.k, .int .i64 x.n,vr,va]::blk j.sp 158 (j.kcells vl)::P2 j.hp s.h::sl 115 3 vl css::L)) (fun ρ' _=>(x.args.length - iv (ρ' 10)).toNat) ?_ ?_
                     · exact C1
                     rintro ρ w1 ⟨q,vo,co,ts,hA,hρ,hq,hlo,hlt,hvo,hdf,hS⟩;obtain ⟨ρ,rfl⟩:=J3 hA hρ;refine' Re;(first|(refine QO hS vw fd hlc ?_)|(refine' zL));refine' PN;refine' Ab<;>intro hc
                     · skip
                       ((refine' Lj;refine' Mt;refine zD (ci 19 [18]) ?_;have hS:=hS.drew;refine' KK;refine' zm;refine' zi;intro b1 o1 cs1 x1 hat1 hx1 he1;obtain rfl:=Qs he1;refine' M1;first|(refine' K0)|(refine' K1)|(refine' Ae<;>intro hc));all_goals (refine' LS;refine' Mi;(first|refine' J1|(refine' J4;refine RD vw rfl ha rfl Jo ?_;intro b8 o8 cs8 x8 hat8 hx8 he8;obtain rfl:=Qs he8;obtain rfl:x1=x8:=E4 (hx1.symm.trans hx8)));refine' ck;refine' Pc;refine' MO;(first|refine' J1|(refine' J4;refine QO hS vw fd hlc ?_));first|refine' J1|(refine' J4;(first|(refine' Ml)|(refine' Mz)|(refine' Ag<;>intro hc)))));all_goals (refine' KU)
                       all_goals
                        first
                        | (refine' JZ;all_goals (refine' Nd;have hM:KE m j.f s x= .error 1:=(by rw [i7 Jo,Q3 hjt,Qr (sk hx1 hdf (ZV Jo))]);refine' N5);all_goals (exact Ay))
                        | (refine' J0;refine' J5)
                       obtain ⟨t2,ht2⟩:∃t,s.l[x1.toNat]?=some t:=⟨_,EH Jo⟩;obtain ⟨d2,hd2,hrd2⟩:=hls.2 _ _ ht2;have hrd2':=hrd2;obtain ⟨vd2,rfl,hld2⟩:=Qc hrd2;have h2:=X0 (s:=s) Jo ht2;refine zC [(0,none),(1,none),(2,none),(3,none),(4,none),(5,none),(6,none),(7,none),(8,none),(9,none),(10,none),(11,none),(12,none),(13,some (some [1])),(14,some none),(15,none),(16,some none)] ?_;have hS:=hS.drew;refine' WZ;refine' Mb;refine' Pq;refine' N0;refine' N0;refine' Mb;refine RD vw rfl ha rfl Jo ?_;intro b4 o4 cs4 x4 hat4 hx4 he4;obtain rfl:=Qs he4;obtain rfl:x1=x4:=E4 (hx1.symm.trans hx4);refine' KA;refine' M1;refine' KA;refine QJ hS vw rfl fd Jo Jo ?_;intro b5 o5 hel5;refine' KA;refine NK hS hel5 rfl fd rfl hd2 ?_;refine' Lu;refine KY hS [_,_,_] ?_;intro b1 w1 hS;refine' M4;((refine za Px PZ hS ?_;intro vp1 w1 css1 hls1 hv1 hS;have hS:=hS.ns));refine' KA;refine' L7;refine' LM;((refine LP hS ?_;intro w1 hS;have hS:=hS.ns));refine' Lc;refine' LH;((exact ⟨⟨q+1,_,_,ts++[t2],zh,zh,Jo,hls1,by simp [hlt],by assumption,sm hx1 hdf h2,hS.sp⟩,Qb Jo⟩))
                     · skip
                       (refine' K2;have hts:=so hdf Jo;obtain ⟨c1,hle2,hS,hk1⟩:=FI (r:=J7) hS hlo rfl Jo;have hrow:=O3 (k:=3) (r:=t.r) hk1;have hls:=hls.up hle2;obtain ⟨ao,no,rfl⟩:=EU hk1;refine' W0;refine' J9 (c:=tq (.mk 3 t.r ts) hrow Jo Jo hS);rintro v1 w1 ⟨rfl,hS⟩;first|(refine' QV)|(refine' KM)|(refine' Af<;>intro hc));all_goals (refine' zn)
                       all_goals
                        first
                        | (refine' JZ;refine' Nd;have hM:KE m j.f s x= .error 19:=(by rw [i7 Jo,Q3 hjt,Q3 hts];exact if_pos Jo);refine' N5;first|(exact Ay)|(exact AH)|(exact AG)|(obtain ⟨c9,hle9,hS,hk9⟩:=Fm (r:=J7) (L:=Lq j s vl css L) hS.sp (hN:J7.at _ _ J8);exact AI)|(obtain ⟨c9,hle9,hS,hk9⟩:=Fm (r:=J7) (L:=Lq j s vl css L) hS.sp (hN:J7.at _ _ J8);exact AE)|(obtain ⟨c9,hle9,hS,hk9⟩:=Fm (r:=J7) (L:=Lq j s vl css L) hS.sp hrow;exact AE)|(obtain ⟨c9,hle9,hS,hk9⟩:=Fm (r:=J7) (L:=Lq j s vl css L) hS.sp hrow;exact A0)|(exact Bh))
                        | (refine' J0;refine' J5)
                       refine' Nr;refine Tn (cs:=[_,_,_]) vw Jr ?_;intro ob w1 hb1 hf1 _ hk1;have hS:=hS.laid hb1 hf1 hk1;refine' zm;refine' Kg;have hM:KE m j.f s x= .ok [.mk 3 t.r ts]:=(by rw [i7 Jo,Q3 hjt,Q3 hts];exact if_neg Jo);refine' N5;first|(exact Ay)|(exact AH)|(exact AG)|(obtain ⟨c9,hle9,hS,hk9⟩:=Fm (r:=J7) (L:=Lq j s vl css L) hS.sp (hN:J7.at _ _ J8);exact AI)|(obtain ⟨c9,hle9,hS,hk9⟩:=Fm (r:=J7) (L:=Lq j s vl css L) hS.sp (hN:J7.at _ _ J8);exact AE)|(obtain ⟨c9,hle9,hS,hk9⟩:=Fm (r:=J7) (L:=Lq j s vl css L) hS.sp hrow;exact AE)|(obtain ⟨c9,hle9,hS,hk9⟩:=Fm (r:=J7) (L:=Lq j s vl css L) hS.sp hrow;exact A0))
                  | (refine' J0
                     (refine' M3;first|(refine' Ql)|(refine' Qn)|(refine' Ac<;>intro hc));all_goals (refine' Kg)
                     all_goals
                      first
                      | (refine' JZ;refine' J5)
                      | (refine' J0;(refine' Lm;first|(refine' Ql)|(refine' Qn)|(refine' Ac<;>intro hc));all_goals (refine' zm);all_goals refine' zn)
                     all_goals
                      first
                      | (refine' J0
                         (refine' Ki;first|(refine' Ql)|(refine' Qn)|(refine' Ac<;>intro hc));all_goals (refine' Kg)
                         all_goals
                          first
                          | (refine' JZ
                             (refine' Mt;refine zC [(0,none),(1,none),(2,none),(4,none),(5,none),(6,none),(3,some (some [6])),(7,some none),(8,some none),(9,some none),(10,some none)] ?_;have hS:=hS.drew;refine' L6;refine' zm;refine' Rn;refine' zm;refine' Rm;refine' Nb (c:=Rw (s:=s) (k:=x.a) (kd:=2) (held:=true) hls hS.p3);rintro v1 w1 ⟨rfl,hS⟩;refine' M4;refine' Nb (c:=Rw (s:=s) (k:=x.b) (kd:=1) (held:=false) hls hS.p3);rintro v1 w1 ⟨rfl,hS⟩;refine' LM;refine ko (cs:=[_,_]) vw vw Jr ?_;intro fb w1 hb1 hf1 _ hk1;have hS:=hS.laid hb1 hf1 hk1;have hS:=Gp (es:=1) (css:=[KZ s x.a 2 true,KZ s x.b 1 false].map KQ) hS rfl (by simp [KQ]) rfl;refine' LM;refine' Kv (c:=lH (xs:=[KZ s x.a 2 true,KZ s x.b 1 false]) Js hS);rintro v1 w1 ⟨rfl,hS⟩;refine' W5;refine' KH;first|(refine' Qy)|(refine' QD)|(refine' Ad<;>intro hc));all_goals (refine' zn)
                             all_goals
                              first
                              | (refine' JZ;refine' KL;refine' Kg;have hM:KE m j.f s x= .error (Nk [KZ s x.a 2 true,KZ s x.b 1 false]):=(by rw [Vj Jo,fT,YN];exact uG (bU _ _ _) (by rw [←fT,←YN];omega) _);refine' N5;((exact Ay)))
                              | (refine' J0;refine' J5)
                             refine Qu ?_;obtain ⟨t,tb,hjt,hjb⟩:=uH (x:=K4 s x.a 2) (y:=Kf s x.b 1) (bU _ _ _) (T4 _ _ _) (by rw [←fT,←YN];omega);obtain ⟨g0,ht,hk,hb⟩:=WU hjt;have g1:=(EJ.1 ht).1;obtain ⟨d,hd,hrd⟩:=hls.2 _ _ ht;obtain ⟨vd,rfl,hld⟩:=Qc hrd;refine zD (ci 13 [10,12]) ?_;have hS:=hS.drew;refine' Uq;refine' KK;refine QJ hS vw rfl fd Jo Jo ?_;intro b1 o1 hel1;refine' MH;refine Q2 (j:=1) hS hel1 rfl fd rfl hd rfl ?_;refine Na [_,_,_] ?_;refine Tn (cs:=[_,_,_]) vw Jr ?_;intro ob w1 hb1 hf1 _ hk1;have hS:=hS.laid hb1 hf1 hk1;refine' zm;refine' Kg;have hM:KE m j.f s x= .ok [.mk 4 t.r []]:=(by rw [Vj Jo,Q3 hjt,Q3 hjb]);have hrow:∀{c:Cx},J7.at c [.int .i64 4, .int .i64 t.r, .slice none 0 0] (.mk 4 t.r []):=O3 (FL _ _ _);refine' N5;first|(exact Ay)|(exact AH)|(exact AG)|(obtain ⟨c9,hle9,hS,hk9⟩:=Fm (r:=J7) (L:=Lq j s vl css L) hS.sp (hN:J7.at _ _ J8);exact AI)|(obtain ⟨c9,hle9,hS,hk9⟩:=Fm (r:=J7) (L:=Lq j s vl css L) hS.sp (hN:J7.at _ _ J8);exact AE)|(obtain ⟨c9,hle9,hS,hk9⟩:=Fm (r:=J7) (L:=Lq j s vl css L) hS.sp hrow;exact AE))
                          | (refine' J0
                             (refine' Ki;first|(refine' Ql)|(refine' Qn)|(refine' Ac<;>intro hc));all_goals (refine' Kg)
                             all_goals
                              first
                              | (refine' JZ;refine Qu ?_;refine zC [(0,none),(1,none),(2,none),(3,none),(5,none),(6,none),(7,none),(4,some (some [7])),(8,some (some [])),(9,some (some [])),(10,some (some [])),(11,none),(12,some none)] ?_;have hS:=hS.drew;refine' Nz;refine' zm;refine' Rn;refine' zm;refine' Rm;refine' Nb (c:=Rw (s:=s) (k:=x.a) (kd:=4) (held:=true) hls hS.p3);rintro v1 w1 ⟨rfl,hS⟩;refine' Mu;refine' Nb (c:=Rw (s:=s) (k:=x.b) (kd:=1) (held:=false) hls hS.p3);rintro v1 w1 ⟨rfl,hS⟩;refine' Mu;refine ko (cs:=[_,_]) vw vw Jr ?_;intro fb w1 hb1 hf1 _ hk1;have hS:=hS.laid hb1 hf1 hk1;have hS:=Gp (es:=1) (css:=[KZ s x.a 4 true,KZ s x.b 1 false].map KQ) hS rfl (by simp [KQ]) rfl;refine' Mu;refine' Kv (c:=lH (xs:=[KZ s x.a 4 true,KZ s x.b 1 false]) Js hS);rintro v1 w1 ⟨rfl,hS⟩;refine' MB;refine' zm;refine' W5;have hC:QM (KE m j.f s x)=Nk [KZ s x.a 4 true,KZ s x.b 1 false]:=(by rw [Vk Jo,fT,YN];exact pD (bU _ _ _) (T4 _ _ _) _);have hT:∀ts,KE m j.f s x= .ok ts→ts=[J8]:=(fun ts h=>by rw [Vk Jo] at h;exact YM h fun _ h=>YM h fun _ h=>by cases h;rfl);refine' N5;first|(exact Ay)|(exact AH)|(exact AG)|(obtain ⟨c9,hle9,hS,hk9⟩:=Fm (r:=J7) (L:=Lq j s vl css L) hS.sp (hN:J7.at _ _ J8);exact AI))
                              | (refine' J0
                                 (refine' Ki;first|(refine' Ql)|(refine' Qn)|(refine' Ac<;>intro hc));all_goals (refine' Kg)
                                 all_goals
                                  first
                                  | (refine' JZ;refine Qu ?_;refine zC [(0,none),(1,none),(2,none),(4,none),(5,none),(6,none),(8,none),(9,none),(10,none),(3,some (some [6,10])),(7,some (some [10])),(11,some none),(12,some none),(13,some none),(14,none),(15,some none)] ?_;have hS:=hS.drew;refine' L6;refine' zm;refine' Rn;refine' zm;refine' Rn;refine' zm;refine' Rm;refine' Nb (c:=Rw (s:=s) (k:=x.a) (kd:=4) (held:=true) hls hS.p3);rintro v1 w1 ⟨rfl,hS⟩;refine' Mu;refine' Nb (c:=Rw (s:=s) (k:=x.b) (kd:=1) (held:=false) hls hS.p3);rintro v1 w1 ⟨rfl,hS⟩;refine' M4;refine' Nb (c:=Rw (s:=s) (k:=x.c) (kd:=1) (held:=false) hls hS.p3);rintro v1 w1 ⟨rfl,hS⟩;refine' LM;refine yi (cs:=[_,_,_]) vw vw vw Jr ?_;intro fb w1 hb1 hf1 _ hk1;have hS:=hS.laid hb1 hf1 hk1;have hS:=Gp (es:=1) (css:=[KZ s x.a 4 true,KZ s x.b 1 false,KZ s x.c 1 false].map KQ) hS rfl (by simp [KQ]) rfl;refine' LM;refine' Kv (c:=lH (xs:=[KZ s x.a 4 true,KZ s x.b 1 false,KZ s x.c 1 false]) Js hS);rintro v1 w1 ⟨rfl,hS⟩;refine' KA;refine' zm;refine' W5;have hC:QM (KE m j.f s x)=Nk [KZ s x.a 4 true,KZ s x.b 1 false,KZ s x.c 1 false]:=(by rw [pA Jo,fT,YN,YN];exact Vm (bU _ _ _) (T4 _ _ _) (T4 _ _ _) _);have hT:∀ts,KE m j.f s x= .ok ts→ts=[]:=(fun ts h=>by rw [pA Jo] at h;exact YM h fun _ h=>YM h fun _ h=>YM h fun _ h=>by cases h;rfl);refine' N5;first|(exact Ay)|(exact AH)|(exact AG)|(obtain ⟨c9,hle9,hS,hk9⟩:=Fm (r:=J7) (L:=Lq j s vl css L) hS.sp (hN:J7.at _ _ J8);exact AI)|(obtain ⟨c9,hle9,hS,hk9⟩:=Fm (r:=J7) (L:=Lq j s vl css L) hS.sp (hN:J7.at _ _ J8);exact AE)|(obtain ⟨c9,hle9,hS,hk9⟩:=Fm (r:=J7) (L:=Lq j s vl css L) hS.sp hrow;exact AE)|(obtain ⟨c9,hle9,hS,hk9⟩:=Fm (r:=J7) (L:=Lq j s vl css L) hS.sp hrow;exact A0)|(exact Bh)|(exact Bp))
                                  | (refine' J0
                                     (refine' Ki;first|(refine' Ql)|(refine' Qn)|(refine' Ac<;>intro hc));all_goals (refine' Kg)
                                     all_goals
                                      first
                                      | (refine' JZ;refine Qu ?_;refine' Lm;refine' zm;refine' zm;refine' L7;refine zl hS ?_;refine' Nb (c:=Rw (s:=s) (k:=x.a) (kd:=4) (held:=true) hls hS.p3);rintro v1 w1 ⟨rfl,hS⟩;refine' zm;refine' zm;refine' zn;have hC:QM (KE m j.f s x)=KZ s x.a 4 true:=(by rw [pB Jo,fT];cases K4 s x.a 4<;>rfl);have hT:∀ts,KE m j.f s x= .ok ts→ts=[J8]:=(fun ts h=>by rw [pB Jo] at h;exact YM h fun _ h=>by cases h;rfl);refine' zr;refine' kN;first|(exact Ay)|(exact AH)|(exact AG)|(obtain ⟨c9,hle9,hS,hk9⟩:=Fm (r:=J7) (L:=Lq j s vl css L) hS.sp (hN:J7.at _ _ J8);exact AI))
                                      | (refine' J0
                                         (refine' Ki;first|(refine' Ql)|(refine' Qn)|(refine' Ac<;>intro hc));all_goals (refine' Kg)
                                         all_goals
                                          first
                                          | (refine' JZ;refine Qu ?_;refine' Lm;refine' zm;refine' L7;refine zl hS ?_;refine' Nb (c:=Rw (s:=s) (k:=x.a) (kd:=1) (held:=false) hls hS.p3);rintro v1 w1 ⟨rfl,hS⟩;refine' zm;refine' zm;refine' zn;have hC:QM (KE m j.f s x)=KZ s x.a 1 false:=(by rw [pC Jo,YN];cases Kf s x.a 1<;>rfl);have hT:∀ts,KE m j.f s x= .ok ts→ts=[]:=(fun ts h=>by rw [pC Jo] at h;exact YM h fun _ h=>by cases h;rfl);refine' zr;refine' kN;first|(exact Ay)|(exact AH)|(exact AG)|(obtain ⟨c9,hle9,hS,hk9⟩:=Fm (r:=J7) (L:=Lq j s vl css L) hS.sp (hN:J7.at _ _ J8);exact AI)|(obtain ⟨c9,hle9,hS,hk9⟩:=Fm (r:=J7) (L:=Lq j s vl css L) hS.sp (hN:J7.at _ _ J8);exact AE)|(obtain ⟨c9,hle9,hS,hk9⟩:=Fm (r:=J7) (L:=Lq j s vl css L) hS.sp hrow;exact AE)|(obtain ⟨c9,hle9,hS,hk9⟩:=Fm (r:=J7) (L:=Lq j s vl css L) hS.sp hrow;exact A0)|(exact Bh)|(exact Bp))
                                          | (refine' J0;refine' J5))))))
                      | (refine' JZ
                         all_goals (refine' Re;refine' Nb (c:=Rw (s:=s) (k:=x.a) (kd:=3) (held:=true) hls hS.p3);rintro v1 w1 ⟨rfl,hS⟩;refine' LZ;first|(refine' Qy)|(refine' QD)|(refine' Ad<;>intro hc));all_goals (refine' zn)
                         all_goals
                          first
                          | (refine' JZ;all_goals (refine' KL;refine' Kg;have hM:KE m j.f s x= .error (KZ s x.a 3 true):=YO Jo (pz Jo);refine' N5);all_goals (exact Ay))
                          | (refine' J0;all_goals refine' J5)
                         all_goals (refine' Mt;have hxk:=iY hF Jo;obtain ⟨t,g0,g1,ht,hk,hb,hjt⟩:=pE (s:=s) (k:=x.a) (kd:=3) Jo;obtain ⟨d,hd,hrd⟩:=hls.2 _ _ ht;have hrt:=hrd;obtain ⟨vd,rfl,hld⟩:=Qc hrd;refine zD (ci 13 [12]) ?_;have hS:=hS.drew;refine' KK;refine' Uq;refine' KK;refine QJ hS vw rfl fd Jo Jo ?_;intro b1 o1 hel1;refine' MH;refine Q2 (j:=2) hS hel1 rfl fd rfl hd rfl ?_;refine kz vw hld ?_;first|(refine' Ml)|(refine' Mz)|(refine' Ag<;>intro hc));all_goals (refine' zn)
                         all_goals
                          first
                          | (refine' JZ;all_goals (refine' Nd;have hM:KE m j.f s x= .error 9:=YP Jo hjt (Fk Jo);refine' N5);all_goals (exact Ay))
                          | (refine' J0;all_goals refine' J5)
                         all_goals (refine Qu ?_;refine zC [(0,none),(1,none),(2,none),(3,none),(4,none),(5,none),(6,none),(7,none),(8,none),(9,none),(10,none),(11,none),(12,none),(13,some (some [3,5,8,10,12])),(14,some none)] ?_;have hS:=hS.drew;refine' Nz;refine' Pq;refine' N0;refine' Rn;refine QJ hS vw rfl fd Jo Jo ?_;intro b2 o2 hel2;refine' KA;refine' NB;refine Q2 (j:=2) hS hel2 rfl fd rfl hd rfl ?_;refine' Rn;refine eX vw rfl hld rfl Jo Jo ?_;intro b3 o3 cs3 u3 hat3 hu3 hru3;have hrow:=hru3;obtain ⟨vu3,rfl,hlu3⟩:=Qc hru3;have hjf:=QfR hu3;refine' W7;intro p12 w1 hS;refine' zt;refine ⟨EO.2 ⟨DT,EO.2 ⟨DT,EO.2 ⟨(by (exact Bb)),EO.2 ⟨DT,EO.2 ⟨(by first|(exact Bb)|(exact AO)|(exact Bd)),fun _ h=>(EY h).elim⟩⟩⟩⟩⟩,?_⟩;refine' Lx;refine Ka hS ?_;intro w1 hS;have hS:=hS.ns;refine' Lc;refine' MP;refine' Rc;refine' zn)
                         all_goals
                          first
                          | (refine' JZ;refine' Nr;refine Tn (cs:=[_,_,_]) vw Jr ?_;intro ob w1 hb1 hf1 _ hk1;have hS:=hS.laid hb1 hf1 hk1;refine' zm;refine' Kg;have hM:KE m j.f s x= .ok [u3]:=(by rw [RW Jo,Q3 hjt,Q3 hjf]);refine' N5;first|(exact Ay)|(exact AH)|(exact AG)|(obtain ⟨c9,hle9,hS,hk9⟩:=Fm (r:=J7) (L:=Lq j s vl css L) hS.sp (hN:J7.at _ _ J8);exact AI)|(obtain ⟨c9,hle9,hS,hk9⟩:=Fm (r:=J7) (L:=Lq j s vl css L) hS.sp (hN:J7.at _ _ J8);exact AE)|(obtain ⟨c9,hle9,hS,hk9⟩:=Fm (r:=J7) (L:=Lq j s vl css L) hS.sp hrow;exact AE))
                          | (refine' J0;refine' J5)
                         (all_goals (refine' Mt;refine zD (ci 13 [12]) ?_;have hS:=hS.drew;refine' KK;first|(refine' K0)|(refine' K1)|(refine' Ae<;>intro hc));all_goals (refine' LS;refine' Pc;refine' MO;(first|refine' J1|(refine' J4;refine QO hS vw fd hlc ?_));first|refine' J1|(refine' J4;(first|(refine' Ml)|(refine' Mz)|(refine' Ag<;>intro hc)))));all_goals (refine' KU)
                         all_goals
                          first
                          | (refine' JZ;all_goals (refine' Nd;have hM:KE m j.f s x= .error 1:=(by rw [fS Jo,Q3 hjt,Q3 hjf,Qr (ZV Jo)]);refine' N5);all_goals (exact Ay))
                          | (refine' J0;refine' J5)
                         all_goals (refine' Mt;obtain ⟨t4,ht4⟩:∃t,s.l[x.b.toNat]?=some t:=⟨_,EH Jo⟩;obtain ⟨d4,hd4,hrd4⟩:=hls.2 _ _ ht4;have hrt4:=hrd4;obtain ⟨vd4,rfl,hld4⟩:=Qc hrd4;have hj4:=X0 (s:=s) (k:=x.b) Jo ht4;refine zD (ci 11 [9,10]) ?_;have hS:=hS.drew;refine zv hS ?_;refine' Uq;refine' KK;refine QJ hS vw rfl fd Jo Jo ?_;intro b4 o4 hel4;refine NK hS hel4 rfl fd rfl hd4 ?_;refine' J9 (c:=oG _ _ hrow hrt4 hS);rintro v1 w1 ⟨rfl,hS⟩;cases hdc:decide (u3=t4));all_goals (refine' Oh)
                         all_goals
                          first
                          | (refine' JZ;refine' Nd;have hM:KE m j.f s x= .error 9:=(by rw [fS Jo,Q3 hjt,Q3 hjf,Q3 hj4];exact if_pos (of_decide_eq_false hdc));refine' N5;((exact Ay)))
                          | (refine' J0;refine' J5)
                         all_goals (refine' Nd;have hM:KE m j.f s x= .ok []:=(by rw [fS Jo,Q3 hjt,Q3 hjf,Q3 hj4];exact if_neg (fun h=>h (of_decide_eq_true hdc)));refine' N5);all_goals (first|(exact Ay)|(exact AH)))
                     (refine Qu ?_;have hk:=uv hF Jo;have hop14:x.op=14:=Dc;refine zC [(0,none),(1,none),(2,none),(3,none),(4,none),(5,none),(6,none),(7,none),(8,none),(9,some (some [4,6,8])),(10,some none)] ?_;have hS:=hS.drew;refine' SP;refine' iy;refine' Rn;refine' Nc;intro b2 o2 cs2 x2 hat2 hx2 he2;obtain ⟨vp2,vr2,vb2,rfl,hp2,hr2,hb2⟩:=Qw he2;refine' W7;intro p14 w1 hS;refine' M4;refine Ka hS ?_;intro w1 hS;have hS:=hS.ns;refine' Lc;have ej:=YQ (m:=m) (f:=j.f) (s:=s) hop14 hx2;have hsf:=hm.2 x2 (EI hx2);have hrl:=hr2.len;have hrs:=hsf.2.1.1;refine' MP;(first|(refine QO hS vw fd hlc ?_)|(refine' zL));refine' KK;first|(refine' Qy)|(refine' QD)|(refine' Ad<;>intro hc));all_goals (refine' zn)
                     all_goals
                      first
                      | (refine' JZ;refine' Nd;have hM:KE m j.f s x= .error 2:=ej.trans (if_pos Jo);refine' N5;((exact Ay)))
                      | (refine' J0;refine' J5)
                     refine' LU;refine LQ hS [0,3,14] (fun A LL ρ' w'=>∃(q:Nat),J2 ρ' A∧J2 ρ' [(15, .int .i64 q)]∧(q≤x.regs.length)∧(MF s.h [] x.regs=MF s.h (x.regs.take q) (x.regs.drop q))∧(¬(x.regs.length:Int)≠x2.regs)∧St cx w' (LL)) (fun ρ' _=>(x.regs.length - iv (ρ' 15)).toNat) ?_ ?_
                     · exact ⟨0,zh,zh,Jo,by rfl,Jo,hS.sp⟩
                     rintro ρ w1 ⟨q,hA,hρ,hq,hdr,hne,hS⟩;obtain ⟨ρ,rfl⟩:=J3 hA hρ;refine' Re;(first|(refine QO hS vw fd hlc ?_)|(refine' zL));refine' PN;refine' Ab<;>intro hc
                     · skip
                       refine' Lj;refine' Mt;refine zD (ci 11 [9,10]) ?_;have hS:=hS.drew;refine' Uq;refine' KK;refine' zm;refine' zi;intro b3 o3 cs3 x3 hat3 hx3 he3;obtain rfl:=Qs he3;refine' M1;refine' J9 (c:=Vx hS fd);rintro v1 w1 ⟨rfl,hS⟩;cases hb1:Ke s.h x3;all_goals (refine' Oh)
                       all_goals
                        first
                        | (refine' JZ;refine' Nd;have hM:KE m j.f s x= .error 10:=(by rw [ej,if_neg hne,Qr (ur (p:=[]) hx3 hdr hb1)]);refine' N5;((exact Ay)))
                        | (refine' J0;refine' J5)
                       refine Qu ?_;refine zD (ci 10 [9]) ?_;have hS:=hS.drew;refine' KK;refine' zm;((refine kA vw hr rfl rfl ⟨_,rfl⟩ rfl Jo Jo ?_;intro v4 hs4;rw [FU] at hs4));refine' KK;refine' zm;refine RD vw rfl hr rfl Jo ?_;intro b7 o7 cs7 x7 hat7 hx7 he7;obtain rfl:=Qs he7;obtain rfl:x3=x7:=E4 (hx3.symm.trans hx7);refine' M1;refine' J9 (c:=Vw hs4 hS);rintro v1 w1 ⟨rfl,hS⟩;cases hb2:decide (x3∈x.regs.take q);all_goals (refine' zn)
                       all_goals
                        first
                        | (refine' JZ;refine' Nd;have hM:KE m j.f s x= .error 13:=(by rw [ej,if_neg hne,Qr (uj hx3 hdr hb1 (of_decide_eq_true hb2))]);refine' N5;((exact Ay)))
                        | (refine' J0;refine' J5)
                       refine' LH;(exact ⟨⟨q+1,zh,zh,Jo,by exact uu hx3 hdr hb1 (of_decide_eq_false hb2),hne,hS.sp⟩,Qb Jo⟩)
                     · skip
                       (refine' K2;have hrg:=pq hdr Jo;refine' Re;refine' KK;refine' KK;refine' Nb (c:=pM (s:=s) hsf.1.2 hls ha hp2 hr hS.p3);rintro v1 w1 ⟨rfl,hS⟩;refine' LZ;first|(refine' Qy)|(refine' QD)|(refine' Ad<;>intro hc));all_goals (refine' zn)
                       all_goals
                        first
                        | (refine' JZ;refine' KL;refine' Kg;have hM:KE m j.f s x= .error (QM (Ob s x.args x2.params x.regs)):=(by rw [ej,if_neg hne,Q3 hrg,Qr (lB Jo)]);refine' N5;((exact Ay)))
                        | (refine' J0;refine' J5)
                       refine' LG;have har:=pF (bV s x.args x2.params x.regs) Jo;have hM:KE m j.f s x= .ok (x2.results.map (Mp x.regs)):=(by rw [ej,if_neg hne,Q3 hrg,Q3 har]);refine' LU;have hS:=HM (T:=115) (es:=3) hS;refine zo [3,14] (fun A ρ' w'=>∃(k2:Cx) (q:Nat) (vl2:Value) (cs2:List (List Value)),J2 ρ' A∧J2 ρ' [(18, .int .i64 q),(17,vl2)]∧(cx.Le k2)∧(q≤x2.results.length)∧(J7.ls k2 cs2 ((x2.results.take q).map (Mp x.regs)))∧St k2 w' (sl 115 3 vl2 cs2::blk p14 95 [.int .i64 x2.regs,vp2,vr2,vb2]::blk nb 115 [.int .i64 1, .int .i64 0, .slice none 0 0]::blk p3 84 [.int .i64 x.op, .int .i64 x.a, .int .i64 x.b, .int .i64 x.c, .int .i64 x.k, .int .i64 x.n,vr,va]::blk j.sp 158 (j.kcells vl)::P2 j.hp s.h::sl 115 3 vl css::L)) (fun ρ' _=>(x2.results.length - iv (ρ' 18)).toNat) ?_ ?_
                       · exact ⟨cx,0,_,_,zh,zh,Fq hS,Jo,FY _ _ _,hS.sp⟩
                       rintro ρ w1 ⟨k2,q,vl2,cs2,hA,hρ,hle2,hq,hlo,hS⟩;obtain ⟨ρ,rfl⟩:=J3 hA hρ;have hL2:=hle2;(try have hr2:=hr2.up hle2);(try have hr:=hr.up hle2);refine' Re;(first|(refine QO hS vw fd hlc ?_)|(refine' zL));refine' PN;refine' Ab<;>intro hc
                       · skip
                         refine' PT;refine P5 7 11 Jk ?_ ?_
                         · skip;refine zC [(0,none),(1,none),(2,none),(3,none),(4,none),(5,none),(6,none),(7,some none),(8,none),(9,none),(10,none),(11,some (some [])),(12,some (some [])),(13,some none)] ?_;have hS:=hS.drew;refine' WZ;refine' Mb;refine' zi;intro b4 o4 cs4 x4 hat4 hx4 he4;obtain ⟨vl4,rfl,hl4⟩:=Qc he4;refine' fw;refine' N0;refine' LM;refine' J9 (c:=pg x4 (hsf.2.1.2 x4 (EI hx4)) he4 hr hS);rintro v1 w1 ⟨c3,ds,rfl,hle2,hu3,hS⟩;(try have hL2:=hL2.trans hle2);(try have hlo:=hlo.up hle2);have hu3':=hu3;obtain ⟨vu,rfl,hlu⟩:=Qc hu3;refine' Mb;refine' Uh;refine' W4;refine' Pu;intro p19 w1 hS;refine' Mu;refine Ka hS ?_;intro w1 hS;have hS:=hS.ns;refine' M4;refine' cr;refine' PU;refine KY hS [_,_,_] ?_;intro b1 w1 hS;refine za Px PZ hS ?_;intro vp2 w2 css2 hls2 hv2 hS;have hS:=hS.ns;refine' Um;(exact Cb)
                         · skip;refine zC [(0,none),(1,none),(2,none),(3,none),(4,none),(5,none),(6,none),(11,some (some [1,4,6])),(7,some none),(8,none),(9,none),(10,none),(12,some (some [])),(13,some none)] ?_;have hS:=hS.drew;refine' WZ;refine' Mb;refine' zi;intro b4 o4 cs4 x4 hat4 hx4 he4;obtain ⟨vl4,rfl,hl4⟩:=Qc he4;refine' fw;refine' N0;refine' Pu;intro p19 w1 hS;refine' M4;refine' J9 (c:=pg x4 (hsf.2.1.2 x4 (EI hx4)) he4 hr hS);rintro v1 w1 ⟨c3,ds,rfl,hle2,hu3,hS⟩;(try have hL2:=hL2.trans hle2);(try have hlo:=hlo.up hle2);have hu3':=hu3;obtain ⟨vu,rfl,hlu⟩:=Qc hu3;refine' Mb;refine' Uh;refine' W4;refine' Lu;refine Ka hS ?_;intro w1 hS;have hS:=hS.ns;refine' M4;refine' cr;refine' PU;refine KY hS [_,_,_] ?_;intro b1 w1 hS;refine za Px PZ hS ?_;intro vp2 w2 css2 hls2 hv2 hS;have hS:=hS.ns;refine' Um;(exact Cb)
                       · skip;refine' K2;refine' KL;refine' N4;first|(exact Ay)|(exact AH)|(exact AG)|(obtain ⟨c9,hle9,hS,hk9⟩:=Fm (r:=J7) (L:=Lq j s vl css L) hS.sp (hN:J7.at _ _ J8);exact AI)|(obtain ⟨c9,hle9,hS,hk9⟩:=Fm (r:=J7) (L:=Lq j s vl css L) hS.sp (hN:J7.at _ _ J8);exact AE)|(obtain ⟨c9,hle9,hS,hk9⟩:=Fm (r:=J7) (L:=Lq j s vl css L) hS.sp hrow;exact AE)|(obtain ⟨c9,hle9,hS,hk9⟩:=Fm (r:=J7) (L:=Lq j s vl css L) hS.sp hrow;exact A0)|(exact Bh)|(exact Bp)|(have hM:KE m j.f s x= .error 11:=(by rw [de Jo,Q3 hjt,if_pos Jo]);exact Ay)|(have hM:KE m j.f s x= .ok []:=(by rw [de Jo,Q3 hjt,if_neg Jo]);exact AG)|(obtain ⟨c9,hle9,hS,hk9⟩:=FI (r:=J7) hS hlo rfl (by simp only [EK,F8];omega);exact ⟨_,rfl,c9,_,hL2.trans hle9,YJ hM,i0 hM (by rw [E1 Jo] at hk9;exact hk9),hS.sp⟩))))))
end
section
attribute [local irreducible] Ke Ls Ma MM Np KR KZ Nk KE Ko
variable {cx:Cx}{w:World}{L:List Res}{j:JP}{h:List Bool}{vl:Value}{css:List (List Value)}{i:Nat}{m:Module}
theorem ly {x:Ins}{c':Cx}{vl':Value}{css':List (List Value)}(hJ:Ko m j.f s x=(c,s'))(hle:cx.Le c')(hls:J7.ls c' css' s'.l)(hS:St c' w (Lq j s' vl' css' L)):
 ∃c' vl' css',cx.Le c'∧(Value.int .i64 c)= .int .i64 (Ko m j.f s x).1∧J7.ls c' css' (Ko m j.f s x).2.l∧St c' w (Lq j (Ko m j.f s x).2 vl' css' L):=by
 rw [hJ];exact ⟨_,_,_,hle,rfl,hls,hS⟩
theorem dr {x:Ins}(hm:m.Short)(hg:JInv m j.f s)(hj:j.Fits cx m)(hx:Ky.at cx cs x)(hls:J7.ls cx css s.l)(hS:St cx w (Lq j s vl css L)):
 JW Tryz.prog zH [.pointer (some ⟨j.sp,0,none⟩), .agg ⟨cs⟩] w fun u w'=>∃c' vl' css',cx.Le c'∧u= .int .i64 (Ko m j.f s x).1∧J7.ls c' css' (Ko m j.f s x).2.l∧St c' w' (Lq j (Ko m j.f s x).2 vl' css' L):=by
 (have hx':=hx;have hlc:=hls.1;have hn:=hg.n;have hh:=hg.h;have hlen:(s.h.map QG).length=s.h.length:=EK _;obtain ⟨vr,va,rfl,hr,ha⟩:=Nh hx;refine Kd Kc Tryz.func54 ?_;refine' KO;intro p3 w1 hS;refine' SO;refine zD (ci 7 [5,6]) ?_;have hS:=hS.drew;refine' zm;refine' Mm;refine zv hS ?_;refine zv hS ?_;refine' J9 (c:=U2 (m:=m) ⟨_,rfl,hj.m⟩ hx' hS);rintro v1 w1 ⟨rfl,hS⟩;refine' LZ;first|(refine' Qy)|(refine' QD)|(refine' Ad<;>intro hc));all_goals (refine' zn)
 all_goals
  first
  | (refine' JZ;refine' Nd;have hJ:=dg (f:=j.f) (s:=s) (x:=x) (m:=m) Jo;refine' PY;(exact Bm))
  | (refine' J0;refine' J5)
 (refine Qu ?_;have hF:Qj m.funcs.length x=0:=Dc;refine' PU;refine' J9 (c:=Vy (s:=s) hm hF hg.toJGood hj hx' hls hS.p3);rintro v1 w1 ⟨c1,vm1,hle2,rfl,hv0,hS⟩;have hls:=hls.up hle2;refine' Uj;refine' PO;first|(refine' Qy)|(refine' QD)|(refine' Ad<;>intro hc));all_goals (refine' zn)
 all_goals
  first
  | (refine' JZ;refine' Nd;have hJ:=dh (f:=j.f) (s:=s) hF hg Jo;refine' PY;first|(exact Bm)|(exact BP))
  | (refine' J0;refine' J5)
 (refine' Mt;obtain ⟨ts,hts⟩:=lz (df m j.f s x) Jo;have hv:=hv0 ts hts;have hvl:=hv.len;refine' W6;refine QO hS vw fd hlc ?_;refine' zm;refine kz vw hv ?_;refine' Nq;first|(refine' QV)|(refine' KM)|(refine' Af<;>intro hc));all_goals (refine' zn)
 all_goals
  first
  | (refine' JZ;refine' LG;have hJ:=di hF hg hts Jo;refine' PY;first|(exact Bm)|(exact BP))
  | (refine' J0;refine' J5)
 (refine' MP;first|(refine' Ql)|(refine' Qn)|(refine' Ac<;>intro hc));all_goals (refine' zn)
 all_goals
  first
  | (refine' JZ;obtain ⟨vh,hS⟩:=dp (hp:=j.hp) (h:=s.h) (L:=blk j.sp 158 (j.kcells vl)::sl 115 3 vl css::blk p3 84 [.int .i64 x.op, .int .i64 x.a, .int .i64 x.b, .int .i64 x.c, .int .i64 x.k, .int .i64 x.n,vr,va]::L) hS.sp;have h16:=YT hts Jo;have hJ:=YR hF hg hts Jo Jo;refine zC [(0,none),(1,none),(2,none),(3,none),(4,none),(5,none),(6,none),(7,none),(8,none),(9,none),(10,none),(11,some (some [3,7,10])),(12,some (some [3])),(13,none),(14,none),(15,some none)] ?_;have hS:=hS.drew;refine' Nz;refine' Pq;refine' N0;refine' Mb;refine' Pq;refine' Rn;refine' Pq;refine' Rm;refine KY hS [_] ?_;intro b1 w1 hS;refine' Mu;refine Nv fx (.inl kT) hS vw vw fd (hS.srcB1 fd rfl) De ?_;intro vp w2 hS;have hS:=hS.ns;rw [show s.h.map QG++[[Value.bool true]]=(s.h++[true]).map QG by simp [QG]] at hS;refine' MB;refine' Ri;refine' L7;refine' LM;((refine LP hS ?_;intro w1 hS;have hS:=hS.ns));refine' Lc;have hS:=aE (hp:=j.hp) (h:=s.h++[true]) (v:=vp) (L:=blk j.sp 158 (j.kcells vl)::sl 115 3 vl css::blk p3 84 [.int .i64 x.op, .int .i64 x.a, .int .i64 x.b, .int .i64 x.c, .int .i64 x.k, .int .i64 x.n,vr,va]::L) hS.sp)
  | (refine' J0;refine' J5)
 all_goals (refine' MP;first|(refine' Ql)|(refine' Qn)|(refine' Ac<;>intro hc));all_goals (refine' zn)
 all_goals
  first
  | (refine' J0;all_goals refine' J5)
  | (refine' JZ;obtain ⟨vh,hS⟩:=dp (hp:=j.hp) (h:=s.h) (L:=blk j.sp 158 (j.kcells vl)::sl 115 3 vl css::blk p3 84 [.int .i64 x.op, .int .i64 x.a, .int .i64 x.b, .int .i64 x.c, .int .i64 x.k, .int .i64 x.n,vr,va]::L) hS.sp;obtain ⟨t,g0,g1,ht,r0,r1⟩:=YU hts Jo;have hJ:=YS hF hg hts Jo Jo ht;obtain ⟨d,hd,hrd⟩:=hls.2 _ _ ht;obtain ⟨vd,rfl,hld⟩:=Qc hrd;refine zD (ci 18 [17]) ?_;have hS:=hS.drew;refine' Uq;refine' O7;refine' Uq;refine' KK;refine QJ hS vw rfl fd Jo Jo ?_;intro b1 o1 hel1;refine' MH;refine Q2 (j:=1) hS hel1 rfl fd rfl hd rfl ?_;refine QJ hS vw rfl fd Jo Jo ?_;intro b2 o2 hel2;refine kt hS hel2 rfl vw fd rfl (OG QG s.h false Jo) Jd rfl ?_;intro w2 hS;have hS:=hS.ns;rw [show (QG (s.h.getD t.r.toNat false)).set 0 (Value.bool false)=QG false from rfl,map_set] at hS;refine' zn;have hS:=aE (hp:=j.hp) (h:=s.h.set t.r.toNat false) (v:=vh) (L:=blk j.sp 158 (j.kcells vl)::sl 115 3 vl css::blk p3 84 [.int .i64 x.op, .int .i64 x.a, .int .i64 x.b, .int .i64 x.c, .int .i64 x.k, .int .i64 x.n,vr,va]::L) hS.sp)
 all_goals (refine' KL;refine' O7;refine' zm;(first|(refine za Px PZ hS ?_;intro vp1 w1 css1 hls1 hv1 hS;have hS:=hS.ns)|(refine nQ Px PZ hS ?_;intro vp1 w1 css1 hls1 hv1 hS;have hS:=hS.ns));refine' Mm;refine LP hS ?_;intro w1 hS;have hS:=hS.ns;refine' zn;refine' Kw;(first|(exact Bm)|(exact BP)|(exact ⟨_,rfl,ly hJ hle2 hls1 hS.sp⟩)|(exact ⟨_,rfl,ly (dj hF hg hts Jo Jo Jo) hle2 hls1 hS.sp⟩)))
theorem Vz {t:To}(hsf:j.f.Short)(hb:0≤t.block∧t.block<j.f.blocks.length)(hfb:∀b∈j.f.blocks,j.f.regs≤b.regs)(hh:s.h.length≤16)(hj:j.Fits cx m)(hx:toR.at cx cs t)(hls:J7.ls cx css s.l)(hS:St cx w (Lq j s vl css L)):
 JW Tryz.prog z7 [.pointer (some ⟨j.sp,0,none⟩), .agg ⟨cs⟩] w fun u w'=>u= .int .i64 (QM (MG j.f s t))∧St cx w' (Lq j s vl css L):=by
 (have hx':=hx;obtain ⟨vr,va,rfl,hr,ha⟩:=SG hx;have hlr:=hr.len;have hbl:=hj.b;refine Kd Kc Tryz.func97 ?_;refine' KO;intro p3 w1 hS;refine' Kg;refine Qu ?_;refine zC [(0,none),(1,none),(2,none),(3,none),(4,none),(5,none),(6,none),(7,none),(8,none),(9,some (some [4,6,8])),(10,some none)] ?_;have hS:=hS.drew;refine' SP;refine' NB;refine zl hS ?_;refine' Rn;refine' Nc;intro b1 o1 cs1 x1 hat1 hx1 he1;obtain ⟨vp1,vc1,ve11,ve12,ve13,ve14,ve15,rfl,hp1,hc1,he11,he12,he13,he14,he15⟩:=QZ he1;refine' W7;intro p5 w1 hS;refine' M4;refine Ka hS ?_;intro w1 hS;have hS:=hS.ns;refine' Lc;have hbm:=EI hx1;have hf1:=hfb x1 hbm;have hsb:=hsf.2.2.2 x1 hbm;refine' MP;refine' zL;refine' KK;first|(refine' Qy)|(refine' QD)|(refine' Ad<;>intro hc));all_goals (refine' zn)
 all_goals
  first
  | (refine' JZ;refine' Kw;((refine ⟨_,rfl,?_,hS.sp⟩;(rw [gW hx1 Jo];rfl);done)))
  | (refine' J0;refine' J5)
 refine' LU;refine LQ hS [0,3,5] (fun A LL ρ' w'=>∃(q:Nat),J2 ρ' A∧J2 ρ' [(6, .int .i64 q)]∧(q≤j.f.regs.toNat)∧(Np t.regs q=true)∧(¬(t.regs.length:Int)≠x1.regs)∧St cx w' (LL)) (fun ρ' _=>(j.f.regs - iv (ρ' 6)).toNat) ?_ ?_
 · exact ⟨0,zh,zh,Jo,by unfold Np;rfl,Jo,hS.sp⟩
 rintro ρ w1 ⟨q,hA,hρ,hq,hk,hne,hS⟩;obtain ⟨ρ,rfl⟩:=J3 hA hρ;refine' O8;refine' Uk;refine' PN;refine' Ab<;>intro hc
 · skip
   (refine' Lj;refine' Ni;refine' zm;refine' zi;intro b2 o2 cs2 x2 hat2 hx2 he2;obtain rfl:=Qs he2;refine' M1;refine' zm;first|(refine' Qy)|(refine' QD)|(refine' Ad<;>intro hc));all_goals (refine' zn)
   all_goals
    first
    | (refine' JZ;refine' Kw;first|(refine ⟨_,rfl,?_,hS.sp⟩;rw [gW hx1 Jo];rfl;done)|(refine ⟨_,rfl,?_,hS.sp⟩;rw [kJ hx1 hne (kI (q:=q) Jo DL)];rfl;done))
    | (refine' J0;refine' J5)
   refine' LH;(exact CB)
 · skip
   (refine' K2;have hq':q=j.f.regs.toNat:=Dc;rw [hq'] at hk;refine' Mt;refine zD (ci 8 [6,7]) ?_;have hS:=hS.drew;refine' Uq;refine' KK;refine' J9 (c:=YX (h:=s.h) hh hr hS fd);rintro v1 w1 ⟨rfl,hS⟩;refine' LZ;first|(refine' Qy)|(refine' QD)|(refine' Ad<;>intro hc));all_goals (refine' zn)
   all_goals
    first
    | (refine' JZ;refine' O9;first|(refine ⟨_,rfl,?_,hS.sp⟩;rw [gW hx1 Jo];rfl;done)|(refine ⟨_,rfl,?_,hS.sp⟩;rw [kJ hx1 hne (kI (q:=q) Jo DL)];rfl;done)|(refine ⟨_,rfl,?_,hS.sp⟩;rw [T2 hx1 hne hk Jo];rfl;done))
    | (refine' J0;refine' J5)
   refine' NA;refine' KK;refine' KK;refine' Nb (c:=pM (s:=s) hsb.1.2 hls ha hp1 hr hS.p3);rintro v1 w1 ⟨rfl,hS⟩;refine' KN;first|(refine ⟨_,rfl,?_,hS.sp⟩;rw [gW hx1 Jo];rfl;done)|(refine ⟨_,rfl,?_,hS.sp⟩;rw [kJ hx1 hne (kI (q:=q) Jo DL)];rfl;done)|(refine ⟨_,rfl,?_,hS.sp⟩;rw [T2 hx1 hne hk Jo];rfl;done)|(refine ⟨_,rfl,?_,hS.sp⟩;rw [T3 hx1 hne hk Jo];done)
end
section
attribute [local irreducible] Ke Ls Ma MM Np KR KZ Nk KE Ko Lz Module.fault
variable {cx:Cx}{w:World}{L:List Res}{j:JP}{h:List Bool}{vl:Value}{css:List (List Value)}{i:Nat}{m:Module}
theorem Qc4 (f:Fun)(s:JS)(t:To):NZ (MG f s t):=by
 unfold MG;split
 · exact .e Jd
 · split
   · exact .e Jd
   · split
     · exact .e Jd
     · split
       · rename_i h;exact .e h
       · exact bV _ _ _ _
theorem dt (hsf:j.f.Short)(hfb:∀b∈j.f.blocks,j.f.regs≤b.regs)(hf0:0≤j.f.regs)(hfr:j.f.regs≤100000)(hg:JInv m j.f s)(hj:j.Fits cx m)(hx:K3.at cx cs e)(hls:J7.ls cx css s.l)(hS:St cx w (Lq j s vl css L)):
 JW Tryz.prog zI [.pointer (some ⟨j.sp,0,none⟩), .agg ⟨cs⟩] w fun u w'=>u= .int .i64 (Lz j.f s e)∧St cx w' (Lq j s vl css L):=by
 (have hx':=hx;have hh:=hg.h;obtain ⟨v1,v2,v3,v4,v5,rfl,h1,h2,h3,h4,h5⟩:=WR hx;have hT1:toR.at cx [.int .i64 e.yes.block,v1,v2] e.yes:=⟨_,_,rfl,h1,h2⟩;have hT2:toR.at cx [.int .i64 e.no.block,v3,v4] e.no:=⟨_,_,rfl,h3,h4⟩;have hjr:=hj.r;refine Kd Kc Tryz.func56 ?_;refine' KO;intro p3 w1 hS;refine' SO;refine zD (ci 7 [5,6]) ?_;have hS:=hS.drew;refine' zm;refine' Mm;refine zv hS ?_;refine zv hS ?_;refine' J9 (c:=U4 (x:=j.f) ⟨_,_,_,rfl,hj.p,hj.r,hj.b⟩ hx' hS);rintro v1 w1 ⟨rfl,hS⟩;refine' LZ;first|(refine' Qy)|(refine' QD)|(refine' Ad<;>intro hc));all_goals (refine' zn)
 all_goals
  first
  | (refine' JZ;refine' Nd;have hJ:=dk (f:=j.f) (s:=s) (e:=e) Jo;refine' PY;(exact AQ))
  | (refine' J0;refine' J5)
 (refine' Mt;have hF:QU j.f.blocks.length e=0:=Dc;have hE:=dm (s:=s) hF;have hop:=SI hF;have hy:e.op≠3→0≤e.yes.block∧e.yes.block<j.f.blocks.length:=(fun h=>WW Ev);have hz:e.op=2→0≤e.no.block∧e.no.block<j.f.blocks.length:=(fun h=>WW EB);refine' ae;refine' Si;refine' Ki;first|(refine' Ql)|(refine' Qn)|(refine' Ac<;>intro hc));all_goals (refine' Kg)
 all_goals
  first
  | (refine' JZ;refine' KH;refine' Pa;refine' J9 (c:=Vz (s:=s) hsf (hy Jo) hfb hh hj hT1 hls hS.p3);rintro v6 w1 ⟨rfl,hS⟩;refine' Kg;have hJ:Lz j.f s e=QM (MG j.f s e.yes):=(by rw [hE,kK Jo]);refine' PY;(exact AQ))
  | (refine' J0
     (refine' Ki;first|(refine' Ql)|(refine' Qn)|(refine' Ac<;>intro hc));all_goals (refine' Kg)
     all_goals
      first
      | (refine' JZ
         (refine' Re;refine' Nb (c:=Rw (s:=s) (k:=e.a) (kd:=1) (held:=false) hls hS.p3);rintro v6 w1 ⟨rfl,hS⟩;refine' LZ;first|(refine' Qy)|(refine' QD)|(refine' Ad<;>intro hc));all_goals (refine' zn)
         all_goals
          first
          | (refine' JZ;refine' Nd;have hJ:Lz j.f s e=KZ s e.a 1 false:=(by rw [hE,Z1 Jo,Qr (QcP Jo)];rfl);refine' PY;(exact AQ))
          | (refine' J0;refine' J5)
         (refine' Mt;obtain ⟨t1,g1⟩:=QgA (s:=s) (k:=e.a) (kd:=1) Jo;refine' LF;refine' Pa;refine' J9 (c:=Vz (s:=s) hsf (hy Jo) hfb hh hj hT1 hls hS.p3);rintro v6 w1 ⟨rfl,hS⟩;refine' LZ;first|(refine' Qy)|(refine' QD)|(refine' Ad<;>intro hc));all_goals (refine' zn)
         all_goals
          first
          | (refine' JZ;refine' Nd;have hJ:Lz j.f s e=QM (MG j.f s e.yes):=(by rw [hE,Z1 Jo,Q3 g1,Qr (lB Jo)];rfl);refine' PY;(exact AQ))
          | (refine' J0;refine' J5)
         refine' KH;refine' Pa;refine' J9 (c:=Vz (s:=s) hsf (hz Jo) hfb hh hj hT2 hls hS.p3);rintro v6 w1 ⟨rfl,hS⟩;refine' Kg;have hJ:Lz j.f s e=QM (MG j.f s e.no):=(by rw [hE,Z1 Jo,Q3 g1,Q3 (pF (Qc4 _ _ _) Jo)]);refine' PY;(exact AQ))
      | (refine' J0;refine' J5))
 refine' LG;refine' LU;have hS:=HM (T:=3) (es:=1) hS;refine zo [0,3] (fun A ρ' w'=>∃(q:Nat) (vo:Value) (co:List (List Value)),J2 ρ' A∧J2 ρ' [(9, .int .i64 q),(8,vo)]∧(q≤j.f.regs.toNat)∧(JY.ls cx co (KR q))∧((KR q).length=q)∧(e.op=3)∧St cx w' (sl 3 1 vo co::blk p3 90 [.int .i64 e.op, .int .i64 e.a, .int .i64 e.yes.block,v1,v2, .int .i64 e.no.block,v3,v4,v5]::blk j.sp 158 (j.kcells vl)::P2 j.hp s.h::sl 115 3 vl css::L)) (fun ρ' _=>(j.f.regs - iv (ρ' 9)).toNat) ?_ ?_
 · exact CK
 rintro ρ w1 ⟨q,vo,co,hA,hρ,hq,hlo,hlq,ho3,hS⟩;obtain ⟨ρ,rfl⟩:=J3 hA hρ;refine' O8;refine' Uk;refine' PN;refine' Ab<;>intro hc
 · skip;refine' Lj;refine' Oj;refine KY hS [_] ?_;intro b1 w1 hS;refine za Ro RQ hS ?_;intro vp1 w1 css1 hls1 hv1 hS;have hS:=hS.ns;refine' Um;(exact Cw)
 · skip
   (refine' K2;have hq':q=j.f.regs.toNat:=Dc;rw [hq'] at hlo;obtain ⟨c1,hle2,hS,hk1⟩:=FI (r:=JY) hS hlo rfl (by rw [←hq'];omega);have hls':=hls.up hle2;have h5':=h5.up hle2;have hjr':=hjr.up hle2;refine' Mt;refine zD (ci 11 [9,10]) ?_;have hS:=hS.drew;refine' zm;refine' KK;refine' zm;refine' Uk;refine' zm;refine' Nb (c:=pM (s:=s) hsf.2.1.2 hls' h5' hjr' hk1 hS.p3);rintro v6 w1 ⟨rfl,hS⟩;refine' LZ;first|(refine' Qy)|(refine' QD)|(refine' Ad<;>intro hc));all_goals (refine' zn)
   all_goals
    first
    | (refine' JZ;refine' Nd;have hJ:Lz j.f s e=QM (Ob s e.args j.f.results (KR j.f.regs.toNat)):=(by rw [hE,bT ho3,Qr (lB Jo)];rfl);refine' PY;first|(exact AQ)|(exact BY))
    | (refine' J0;refine' J5)
   refine Qu ?_;have har:=pF (bV s e.args j.f.results (KR j.f.regs.toNat)) Jo;refine' W6;refine' Kv (c:=YW (h:=s.h) hh hS fd);rintro v1 w1 ⟨c2,hle3,hk2,hS⟩;have hl2:=hk2.len;refine' Kg;refine' LU;refine LQ hS [0,11] (fun A LL ρ' w'=>∃(q:Nat),J2 ρ' A∧J2 ρ' [(12, .int .i64 q)]∧(q≤(Ls s.h).length)∧(∀r∈(Ls s.h).take q,r<j.f.regs)∧St c2 w' (LL)) (fun ρ' _=>((Ls s.h).length - iv (ρ' 12)).toNat) ?_ ?_
   · exact AF
   rintro ρ w1 ⟨q,hA,hρ,hq,hall,hS⟩;obtain ⟨ρ,rfl⟩:=J3 hA hρ;refine' Sk;refine' Ab<;>intro hc
   · skip
     (refine' PT;refine zD (ci 10 [9]) ?_;have hS:=hS.drew;refine' MQ;refine' zi;intro b1 o1 cs1 x1 hat1 hx1 he1;obtain rfl:=Qs he1;refine' M1;refine' zm;refine' Uk;first|(refine' Ml)|(refine' Mz)|(refine' Ag<;>intro hc));all_goals (refine' zn)
     all_goals
      first
      | (refine' JZ;refine' LG;have hJ:Lz j.f s e=12:=(by rw [hE,bT ho3,Q3 har,if_pos ((pH hg hf0).2 ⟨x1,EI hx1,Jo⟩)];rfl);refine' PY;first|(exact AQ)|(exact BY)|(exact CW))
      | (refine' J0;refine' J5)
     refine' LH;(exact ⟨⟨q+1,zh,zh,Jo,bH hall hx1 Jo,hS.sp⟩,Qb Jo⟩)
   · skip;refine' K2;refine' LG;have hJ:Lz j.f s e=0:=(by rw [hE,bT ho3,Q3 har,if_neg (fun h=>by obtain ⟨r,hr,h2⟩:=(pH hg hf0).1 h;have:=hall r (by rw [E1 Jo];exact hr);omega)];rfl);refine' PY;(first|(exact AQ)|(exact BY)|(exact CW))
theorem Qhp {l:List Ty}(hlen:l.length≤100000)(hs:∀x∈l,x.Short){cx:Cx}{w:World}{L:List Res}(hl:J7.sl cx v l)(hS:St cx w L):JW Tryz.prog sX [v] w fun u w'=>∃c' css,cx.Le c'∧oneC u=true∧J7.ls c' css l∧St c' w' (sl 115 3 u css::L):=by
 refine Kd Kc Tryz.func59 ?_;refine' LG;refine' LG;refine' LU;refine LQ hS [0] (fun A LL ρ' w'=>∃(c1:Cx) (j:Nat) (u:Value) (css:List (List Value)),J2 ρ' A∧J2 ρ' [(3,u),(4, .int .i64 j)]∧(cx.Le c1)∧(j≤l.length)∧(J7.ls c1 css (l.take j))∧(oneC u=true)∧St c1 w' (sl 115 3 u css::LL)) (fun ρ' _=>(l.length - iv (ρ' 4)).toNat) ?_ ?_
 · exact BV
 rintro ρ w1 ⟨c1,j,u,css,hA,hρ,hle,hj,hls,hu,hS⟩;obtain ⟨ρ,rfl⟩:=J3 hA hρ;have hl:=Hi hl hle;refine' Sk;refine' Ab<;>intro hc
 · skip;refine' Lj;refine' SK;refine' zi;intro b1 o1 cs1 x1 hat1 hx1 he1;obtain ⟨vl1,rfl,hl1⟩:=Qc he1;refine' MZ;refine' Kv (c:=cD x1 (hs x1 (EI hx1)) he1 hS);rintro v1 w1 ⟨c2,ds,rfl,hle2,hd,hS⟩;obtain ⟨v2,rfl,hv2⟩:=Qc hd;have hls:=I1 hls hle2;refine KY hS [_,_,_] ?_;intro b1 w1 hS;refine za Px PZ hS ?_;intro vp1 w1 css1 hls1 hv1 hS;have hS:=hS.ns;refine' Um;(exact BE)
 · skip;refine' Up;(rw [E1 Jo] at hls;exact ⟨_,rfl,c1,css,hle,hu,hls,hS.sp⟩)
theorem du {f b:Int}(hm:m.Short)(hf:0≤f)(hb:0≤b)(hfn:m.funcs[f.toNat]?=some fn)(hy:fn.blocks[b.toNat]?=some y)(hx:K6.at cx cs m)(hS:St cx w L):
 JW Tryz.prog zG [.agg ⟨cs⟩, .int .i64 f, .int .i64 b] w fun u w'=>∃(j:JP) (c':Cx) (vl:Value) (css:List (List Value)),u= .pointer (some ⟨j.sp,0,none⟩)∧cx.Le c'∧j.Fits c' m∧j.f=fn∧J7.ls c' css y.params∧St c' w' (Lq j (Mh y) vl css L):=by
 obtain ⟨vf,rfl,hf1⟩:=NV hx;have hff:=(EJ.1 hfn).1;have hbb:=(EJ.1 hy).1;have hsf:=hm.2 fn (EI hfn);have hle:=Fq hS;refine Kd Kc Tryz.func53 ?_;refine' KO;intro p3 w1 hS;refine' W2;refine' zm;refine eX vw rfl hf1 rfl Jo Jo ?_;intro b1 o1 cs1 x1 hat1 hx1 he1;obtain ⟨vp1,vr1,vb1,rfl,hp1,hr1,hb1⟩:=Qw he1;obtain rfl:fn=x1:=E4 (hfn.symm.trans hx1);refine' MH;refine' cm;refine' zm;refine eX vw rfl hb1 rfl Jo Jo ?_;intro b2 o2 cs2 x2 hat2 hx2 he2;obtain ⟨vp2,vc2,ve21,ve22,ve23,ve24,ve25,rfl,hp2,hc2,he21,he22,he23,he24,he25⟩:=QZ he2;obtain rfl:y=x2:=E4 (hy.symm.trans hx2);refine' MI;(intro p7 w1 hS);((refine Ka hS ?_;intro w1 hS;have hS:=hS.ns));refine' OQ;refine zC [(0,none),(1,none),(2,none),(3,none),(4,none),(5,none),(6,none),(7,none),(9,none),(10,none),(8,some (some [0,2,5,10])),(11,some (some [0,2,5])),(12,none),(13,some none),(14,some none)] ?_;have hS:=hS.drew;refine' L6;refine zv hS ?_;refine' N0;refine' Mb;refine eX vw rfl hf1 rfl Jo Jo ?_;intro b3 o3 cs3 x3 hat3 hx3 he3;obtain ⟨vp3,vr3,vb3,rfl,hp3,hr3,hb3⟩:=Qw he3;obtain rfl:fn=x3:=E4 (hfn.symm.trans hx3);refine' fw;refine' N0;refine' Rm;refine' Kv (c:=dq hS);rintro v1 w1 ⟨hp,vh,rfl,hS⟩;refine' Mu;refine' Kv (c:=Qhp (hsf.2.2.2 y (EI hy)).1.1 (hsf.2.2.2 y (EI hy)).1.2 hp2 hS);rintro v1 w1 ⟨c2,css2,hle2,hv1,hls2,hS⟩;have hat3:=hat3.up hle2;obtain ⟨av,nv,rfl⟩:=hS.shape KG;refine' MB;refine y8 [_,_,_,_,_,_,_] ?_;refine' LM;refine zb hS ?_;intro p30 w1 hS;refine' W5;have hS:=aE (hp:=hp) (h:=(Mh y).h) (v:=vh) (L:=blk p30 158 (JP.kcells ⟨p30,hp,fn,vf,vp3,vr3,vb3⟩ (.slice av css2.length nv))::sl 115 3 (.slice av css2.length nv) css2::L) hS.sp;refine' PY;((exact ⟨_,rfl,⟨p30,hp,fn,vf,vp3,vr3,vb3⟩,c2,_,css2,rfl,hle2,⟨hf1.up hle2,hp3.up hle2,hr3.up hle2,hb3.up hle2⟩,rfl,hls2,hS.sp⟩))
end
section
attribute [local irreducible] Ke Ls Ma MM Np KR KZ Nk KE Ko Lz Module.fault OL Po
variable {cx:Cx}{w:World}{L:List Res}{j:JP}{h:List Bool}{vl:Value}{css:List (List Value)}{i:Nat}{m:Module}
theorem dv (hm:m.Short)(hx:K6.at cx cs m)(hS:St cx w L):
 JW Tryz.prog zp [.agg ⟨cs⟩] w fun u w'=>u=Kn m.runs∧St cx w' L:=by
 (have hx':=hx;obtain ⟨vf,rfl,hf1⟩:=NV hx;have hle:=Fq hS;have hlf:=hf1.len;refine Kd Kc Tryz.func16 ?_;refine' KO;intro p1 w1 hS;refine Qe hS ?_;intro p2 w1 hS;refine' zn;refine' W0;refine' Kv (c:=U6 hm hx' hS);rintro v1 w1 ⟨rfl,hS⟩;unfold Kn;refine Qe hS ?_;intro p3 w1 hS;refine Ka hS ?_;intro w1 hS;have hS:=hS.ns;refine' OR;first|(refine' Qy)|(refine' QD)|(refine' Ad<;>intro hc));all_goals (refine' zn)
 all_goals
  first
  | (refine' J0;refine' J5)
  | (refine' JZ;refine' Nr;refine Ka hS ?_;intro w1 hS;have hS:=hS.ns;refine' zn;have hJ:=lG (m:=m) Jo;refine' zr;refine Lw vw (Q4 (n:=2) Jk Jk (hS.blkAt fd) Jr Jr) ?_;(exact AS))
 refine' Mt;have hF:m.fault.1=0:=Dc;have hr0:=jd hF;have hlf8:=hm.1;refine' Lm;refine' NY;refine zo [1,2] (fun A ρ' w'=>∃(k0:Cx) (q:Nat),J2 ρ' A∧J2 ρ' [(4, .int .i64 q)]∧(cx.Le k0)∧(q≤m.funcs.length)∧(m.runs=NC m q (m.funcs.drop q))∧St k0 w' (blk p3 29 [.int .i64 m.fault.1, .int .i64 m.fault.2]::blk p2 29 [.int .i64 0, .int .i64 0]::blk p1 24 [vf]::L)) (fun ρ' _=>(m.funcs.length - iv (ρ' 4)).toNat) ?_ ?_
 · exact ⟨cx,0,zh,zh,Fq hS,Jo,by rw [hr0];rfl,hS.sp⟩
 rintro ρ w1 ⟨k0,q,hA,hρ,hle2,hq,hd,hS⟩;obtain ⟨ρ,rfl⟩:=J3 hA hρ;have hL0:=hle2;(try have hle:=hle.trans hle2);(try have hf1:=hf1.up hle2);refine' Rh;refine' Ab<;>intro hc
 · skip
   refine' PT;obtain ⟨fn,hfn⟩:∃fn,m.funcs[q]?=some fn:=⟨_,EH Jo⟩;have hsf:=hm.2 fn (EI hfn);have hfb:=Vp hF hfn;have hfh:=SJ (P9 hF hfn);refine' Lm;refine' NY;refine zo [1,2,4] (fun A ρ' w'=>∃(k1:Cx) (b:Nat),J2 ρ' A∧J2 ρ' [(5, .int .i64 b)]∧(k0.Le k1)∧(b≤fn.blocks.length)∧(QE m fn q 0 fn.blocks=QE m fn q b (fn.blocks.drop b))∧St k1 w' (blk p3 29 [.int .i64 m.fault.1, .int .i64 m.fault.2]::blk p2 29 [.int .i64 0, .int .i64 0]::blk p1 24 [vf]::L)) (fun ρ' _=>(fn.blocks.length - iv (ρ' 5)).toNat) ?_ ?_
   · exact ⟨k0,0,zh,zh,Fq hS,Jo,by rfl,hS.sp⟩
   rintro ρ w1 ⟨k1,b,hA,hρ,hle2,hb,hdb,hS⟩;obtain ⟨ρ,rfl⟩:=J3 hA hρ;have hL1:=hle2;(try have hle:=hle.trans hle2);(try have hL0:=hL0.trans hle2);(try have hf1:=hf1.up hle2);refine' Re;refine' N1;intro b1 o1 cs1 x1 hat1 hx1 he1;obtain ⟨vp1,vr1,vb1,rfl,hp1,hr1,hb1⟩:=Qw he1;refine' MH;refine' cm;refine' nU;obtain rfl:fn=x1:=E4 (hfn.symm.trans hx1);refine' Ab<;>intro hc
   · skip
     refine' PT;obtain ⟨y,hy⟩:∃y,fn.blocks[b]?=some y:=⟨_,EH Jo⟩;have hsy:=hsf.2.2.2 y (EI hy);refine' Lm;refine zv hS ?_;refine' MQ;refine' K5 (c:=du (f:=q) (b:=b) hm Jo Jo (by simpa using hfn) (by simpa using hy) ⟨_,rfl,hf1⟩ hS);rintro v1 w1 ⟨j,c2,vl,css,rfl,hle2,hj,hjf,hls,hS⟩;(try have hle:=hle.trans hle2);(try have hL1:=hL1.trans hle2);(try have hp1:=hp1.up hle2);(try have hr1:=hr1.up hle2);(try have hb1:=hb1.up hle2);(try have he1:=he1.up hle2);(try have hf1:=hf1.up hle2);subst hjf;refine' Kg;refine' Ul;intro b2 o2 cs2 x2 hat2 hx2 he2;obtain ⟨vp2,vr2,vb2,rfl,hp2,hr2,hb2⟩:=Qw he2;refine' MH;refine' cm;obtain rfl:j.f=x2:=E4 (hfn.symm.trans hx2);refine' N1;intro b3 o3 cs3 x3 hat3 hx3 he3;obtain ⟨vp3,vc3,ve31,ve32,ve33,ve34,ve35,rfl,hp3,hc3,he31,he32,he33,he34,he35⟩:=QZ he3;refine' MI;intro p7 w1 hS;refine Ka hS ?_;intro w1 hS;have hS:=hS.ns;refine' zn;obtain rfl:y=x3:=E4 (hy.symm.trans hx3);refine' Mt;have hg0:=lC hm hF hfn hy;have hlc:=hsy.2.1;refine' Lm;refine' NY;refine zo [1,2,4,5,6,7] (fun A ρ' w'=>∃(k2:Cx) (i:Nat) (s:JS) (vl:Value) (css:List (List Value)),J2 ρ' A∧J2 ρ' [(8, .int .i64 i)]∧(c2.Le k2)∧(i≤y.code.length)∧(QI m j.f q b y.fin 0 (Mh y) y.code=QI m j.f q b y.fin i s (y.code.drop i))∧(j.Fits k2 m)∧(J7.ls k2 css s.l)∧(JInv m j.f s)∧St k2 w' (blk p7 92 [.int .i64 y.regs,vp3,vc3, .int .i64 y.fin.op, .int .i64 y.fin.a, .int .i64 y.fin.yes.block,ve31,ve32, .int .i64 y.fin.no.block,ve33,ve34,ve35]::blk j.sp 158 (j.kcells vl)::P2 j.hp s.h::sl 115 3 vl css::blk p3 29 [.int .i64 m.fault.1, .int .i64 m.fault.2]::blk p2 29 [.int .i64 0, .int .i64 0]::blk p1 24 [vf]::L)) (fun ρ' _=>(y.code.length - iv (ρ' 8)).toNat) ?_ ?_
     · exact Ce
     rintro ρ w1 ⟨k2,i,s,vl,css,hA,hρ,hle2,hi,hdi,hj,hls,hg,hS⟩;obtain ⟨ρ,rfl⟩:=J3 hA hρ;have hL2:=hle2;(try have hle:=hle.trans hle2);(try have hL1:=hL1.trans hle2);(try have hc3:=hc3.up hle2);(try have he31:=he31.up hle2);(try have he32:=he32.up hle2);(try have he33:=he33.up hle2);(try have he34:=he34.up hle2);(try have he35:=he35.up hle2);refine' Rh;refine' Ab<;>intro hc
     · skip
       (refine' Lj;refine' NA;refine' N1;intro b4 o4 cs4 x4 hat4 hx4 he4;obtain ⟨vr4,va4,rfl,hr4,ha4⟩:=Nh he4;refine' MZ;refine' J9 (c:=dr (s:=s) (x:=x4) hm hg hj he4 hls hS.p3);rintro v1 w1 ⟨c4,vl4,css4,hle2,rfl,hls4,hS⟩;(try have hle:=hle.trans hle2);(try have hL2:=hL2.trans hle2);have hj:=hj.up hle2;have hg1:=Vo (x:=x4) hF hm hg;obtain ⟨s1,hs1⟩:∃s1,(Ko m j.f s x4).2=s1:=⟨_,rfl⟩;rw [hs1] at hls4 hS hg1;refine' LZ;first|(refine' Qy)|(refine' QD)|(refine' Ad<;>intro hc));all_goals (refine' zn)
       all_goals
        first
        | (refine' JZ;refine' KL;refine' MQ;refine' K5 (c:=pj q b i Jo Jo Jo hS);rintro v1 w1 ⟨rfl,hS⟩;refine' J9 (c:=MD hS);rintro v1 w1 ⟨rfl,hS⟩;refine Ka hS ?_;intro w1 hS;have hS:=hS.ns;refine' zn;have hJ:=pK hd hfn hdb hy (by rw [hdi,Q1 hx4,lF Jo]) Jo;refine' zr;refine Lw vw (Q4 (n:=2) Jk Jk (hS.blkAt fd) Jr Jr) ?_;(exact AS))
        | (refine' J0;refine' J5)
       refine' LH;(exact ⟨⟨_,i+1,s1,vl4,css4,zh,zh,hL2,Jo,by rw [hdi,Q1 hx4,jc Jo,hs1],hj,hls4,hg1,hS.sp⟩,Qb Jo⟩)
     · skip
       (refine' K2;refine' KH;refine' Pa;refine' J9 (c:=dt (s:=s) (e:=y.fin) hsf hfb hfh.1 Jo hg hj ⟨_,_,_,_,_,rfl,he31,he32,he33,he34,he35⟩ hls hS.p3);rintro v1 w1 ⟨rfl,hS⟩;have hde:=pJ (m:=m) (f:=j.f) (fi:=q) (bi:=b) (e:=y.fin) (s:=s) (i:=i) (l:=y.code) Jo;refine' LZ;first|(refine' Qy)|(refine' QD)|(refine' Ad<;>intro hc));all_goals (refine' zn)
       all_goals
        first
        | (refine' JZ;refine' KL;refine' zm;refine' J9 (c:=ph q b Jo Jo hS);rintro v1 w1 ⟨rfl,hS⟩;refine' J9 (c:=MD hS);rintro v1 w1 ⟨rfl,hS⟩;refine Ka hS ?_;intro w1 hS;have hS:=hS.ns;refine' zn;have hJ:=pK hd hfn hdb hy (hdi.trans (hde.trans (PI Jo))) Jo;refine' zr;refine Lw vw (Q4 (n:=2) Jk Jk (hS.blkAt fd) Jr Jr) ?_;(exact AS))
        | (refine' J0;refine' J5)
       refine' LH;(exact ⟨⟨_,b+1,zh,zh,hL1,Jo,Vq hdb hy (by rw [hdi,hde,PJ];omega),hS.sp⟩,Qb Jo⟩)
   · skip;refine' K2;refine' LH;(exact ⟨⟨_,q+1,zh,zh,hL0,Jo,Vr hd hfn hdb Jo,hS.sp⟩,Qb Jo⟩)
 · skip;refine' K2;refine' Ki;refine MA [_,_] ?_;refine Ka hS ?_;intro w1 hS;have hS:=hS.ns;refine' zn;have hJ:=Vs hd Jo;refine' zr;refine Lw vw (Q4 (n:=2) Jk Jk (hS.blkAt fd) Jr Jr) ?_;(exact AS)
end
end Go.Proofs.YteflkifmgnpbhaaGreat
namespace Go.Lir
end Go.Lir
namespace Go.Proofs.YteflkifmgnpbhaaGreat
open Go.Lir
attribute [local irreducible] LC.wp Q0 Qh Qd Kq Qz LO.wp Q5 Calls
section
attribute [local irreducible] MV KV Rq pick LA OW Oo Module.runs ar Rp OS M5 Nj
variable {cx:Cx}{w:World}{L:List Res}
end
section
variable {cx:Cx}{w:World}{L:List Res}{i:Nat}
def Sv:To:=⟨0,[],[]⟩
@[reducible] def VA (n:Int):Module:=⟨[⟨0,[],[.mk 1 0 []],[⟨0,[],[⟨1,0,0,0,0,5,[],[]⟩],⟨3,0,Sv,Sv,[n]⟩⟩]⟩]⟩
theorem VB (hS:St cx w L):JW Tryz.prog sW [] w fun u w'=>∃q1 q2 q3 la lb,u= .agg ⟨[.slice (some ⟨la,0,none⟩) 1 1]⟩∧St cx w' (blk q1 115 [.int .i64 1, .int .i64 0, .slice none 0 0]::blk q2 84 [.int .i64 1, .int .i64 0, .int .i64 0, .int .i64 0, .int .i64 0, .int .i64 5, .slice none 0 0, .slice none 0 0]::blk q3 3 [.int .i64 0]::blk lb 92 [.int .i64 0, .slice none 0 0, .slice (some ⟨q2,0,none⟩) 1 1, .int .i64 3, .int .i64 0, .int .i64 0, .slice none 0 0, .slice none 0 0, .int .i64 0, .slice none 0 0, .slice none 0 0, .slice (some ⟨q3,0,none⟩) 1 1]::blk la 95 [.int .i64 0, .slice none 0 0, .slice (some ⟨q1,0,none⟩) 1 1, .slice (some ⟨lb,0,none⟩) 1 1]::L):=by
 refine Kd Kc Tryz.func50 ?_;refine' Rf;(intro p0 w1 hS);refine' W8;refine' ir (c:=uC hS);rintro v1 w1 ⟨la,lb,rfl,hS⟩;simp only [px] at hS;refine Qe hS ?_;(intro p1 w1 hS);((refine Ka hS ?_;intro w1 hS;have hS:=hS.ns));refine' OR;refine Oy [_,_,_] ?_;refine Tn (cs:=[_,_,_]) vw Jr ?_;intro q1 w1 hb1 hf1 _ hk1;have hS:=hS.laid hb1 hf1 hk1;refine bn rfl rfl Jd Jd ?_;refine' PS;intro w1 hS;have hS:=hS.ns;refine' OR;refine bn rfl rfl Jd Jd ?_;refine' KK;refine Na [_,_,_,_,_,_,_,_] ?_;refine Tn (cs:=[_,_,_,_,_,_,_,_]) vw Jr ?_;intro q2 w1 hb1 hf1 _ hk1;have hS:=hS.laid hb1 hf1 hk1;refine bn rfl rfl Jd Jd ?_;refine' PS;intro w1 hS;have hS:=hS.ns;refine' OR;refine bn rfl rfl Jd Jd ?_;refine' KK;refine Tn (cs:=[_]) vw Jr ?_;intro q3 w1 hb1 hf1 _ hk1;have hS:=hS.laid hb1 hf1 hk1;refine bn rfl rfl Jd Jd ?_;refine' Sm;refine LP hS ?_;intro w1 hS;have hS:=hS.ns;refine' Sp;((refine Ka hS ?_;intro w1 hS;have hS:=hS.ns));refine' L8;refine Lw vw (Q4 (n:=1) Jk Jk (hS.blkAt fd) Jr Jr) ?_;((exact ⟨_,rfl,q1,q2,q3,la,lb,rfl,hS.sp⟩))
theorem YY {q1 q2 q3 la lb:Nat}{n:Int}(hS:St cx w (blk q1 115 [.int .i64 1, .int .i64 0, .slice none 0 0]::blk q2 84 [.int .i64 1, .int .i64 0, .int .i64 0, .int .i64 0, .int .i64 0, .int .i64 5, .slice none 0 0, .slice none 0 0]::blk q3 3 [.int .i64 n]::blk lb 92 [.int .i64 0, .slice none 0 0, .slice (some ⟨q2,0,none⟩) 1 1, .int .i64 3, .int .i64 0, .int .i64 0, .slice none 0 0, .slice none 0 0, .int .i64 0, .slice none 0 0, .slice none 0 0, .slice (some ⟨q3,0,none⟩) 1 1]::blk la 95 [.int .i64 0, .slice none 0 0, .slice (some ⟨q1,0,none⟩) 1 1, .slice (some ⟨lb,0,none⟩) 1 1]::L)):∃c',cx.Le c'∧K6.at c' [.slice (some ⟨la,0,none⟩) 1 1] (VA n)∧St c' w L:=by
 have n0:∀c:Cx,J7.sl c (.slice none 0 0) []:=fun c=>FL _ _ _;have n1:∀c:Cx,JY.sl c (.slice none 0 0) []:=fun c=>FL _ _ _;obtain ⟨c1,hle1,hS,h1⟩:=Fm (r:=J7) (x:= .mk 1 0 []) hS (O3 (n0 _));obtain ⟨c2,hle2,hS,h2⟩:=Fm (r:=Ky) (x:=⟨1,0,0,0,0,5,[],[]⟩) hS ⟨_,_,rfl,n1 _,n1 _⟩;obtain ⟨c3,hle3,hS,h3⟩:=Fm (r:=JY) (x:=n) hS rfl;obtain ⟨c4,hle4,hS,h4⟩:=Fm (r:=Kx) (x:=⟨0,[],[⟨1,0,0,0,0,5,[],[]⟩],⟨3,0,Sv,Sv,[n]⟩⟩) hS (gQ (x:=⟨0,[],[⟨1,0,0,0,0,5,[],[]⟩],⟨3,0,Sv,Sv,[n]⟩⟩) (n0 _) (Hi h2 hle3) (n1 _) (n1 _) (n1 _) (n1 _) h3);obtain ⟨c5,hle5,hS,h5⟩:=Fm (r:=Kj) (x:=⟨0,[],[.mk 1 0 []],[⟨0,[],[⟨1,0,0,0,0,5,[],[]⟩],⟨3,0,Sv,Sv,[n]⟩⟩]⟩) hS ⟨_,_,_,rfl,n0 _,Hi h1 (hle2.trans (hle3.trans hle4)),h4⟩;exact ⟨c5,hle1.trans (hle2.trans (hle3.trans (hle4.trans hle5))),⟨_,rfl,h5⟩,hS⟩
theorem dw (hS:St cx w L):JW Tryz.prog sW [] w fun u w'=>∃c' vf,cx.Le c'∧u= .agg ⟨[vf]⟩∧K6.at c' [vf] (VA 0)∧St c' w' L:=by
 refine (VB hS).mono fun u w' h=>?_;obtain ⟨q1,q2,q3,la,lb,rfl,hS⟩:=h;obtain ⟨c',h1,h2,h3⟩:=YY hS;exact ⟨c',_,h1,rfl,h2,h3⟩
end
section
variable {cx:Cx}{w:World}{L:List Res}{m:Module}
@[reducible] def RX:Block:=⟨0,[],[⟨1,0,0,0,0,5,[],[]⟩],⟨3,0,Sv,Sv,[0]⟩⟩
@[reducible] def RY:Block:=⟨0,[],[],⟨1,0,Sv,Sv,[]⟩⟩
def Pz:Module:=⟨[⟨0,[],[.mk 1 0 []],[RX,RY]⟩,⟨0,[],[],[dd]⟩]⟩
theorem QcX:Pz.Short:=by
 refine ⟨Fx rfl,fun f hf=>?_⟩;simp [Pz] at hf;have hz:Sv.Short:=⟨by decide,by decide⟩;rcases hf with rfl|rfl
 · refine ⟨⟨Fx rfl,by simp⟩,⟨Fx rfl,fun t ht=>?_⟩,Fx rfl,fun b hb=>?_⟩
   · simp at ht;subst ht;exact .mk Jd Js
   · simp at hb
     rcases hb with rfl|rfl
     · refine ⟨⟨Fx rfl,by simp⟩,Fx rfl,fun i hi=>?_,hz,hz,by simp⟩;simp at hi;subst hi;exact ⟨by decide,by decide⟩
     · exact ⟨⟨Fx rfl,by simp⟩,Fx rfl,by simp,hz,hz,by simp⟩
 · refine ⟨⟨Fx rfl,by simp⟩,⟨Fx rfl,by simp⟩,Fx rfl,fun b hb=>?_⟩;simp at hb;subst hb;exact ⟨⟨Fx rfl,by simp [dd]⟩,Fx rfl,by simp [dd],⟨by decide,by decide⟩,⟨by decide,by decide⟩,by simp [dd]⟩
theorem Qfo:Pz.runs=(0,0):=by decide+kernel
theorem Qfn:Pz.trim=VA 0:=by decide+kernel
theorem QcY (hS:St cx w L):JW Tryz.prog zz [] w fun u w'=>u= .bool true∧St cx w' L:=by
 (((((((((((have e1:=Qfo;have e2:=Qfn;have n0:∀c:Cx,Ky.sl c (.slice none 0 0) []:=fun c=>FL _ _ _;have n1:∀c:Cx,JY.sl c (.slice none 0 0) []:=fun c=>FL _ _ _;have n2:∀c:Cx,J7.sl c (.slice none 0 0) []:=fun c=>FL _ _ _;have hle:=Fq hS;all_goals refine Kd Kc Tryz.func41 ?_);all_goals (refine' LG;refine' Ki));all_goals (refine' ir (c:=VB hS);rintro v1 w1 ⟨q1,q2,q3,la,lb,rfl,hS⟩;obtain ⟨c1,hle2,hS,h1⟩:=Fm (r:=J7) (x:= .mk 1 0 []) hS (O3 (n2 _));(try have hle:=hle.trans hle2);obtain ⟨c2,hle2,hS,h2⟩:=Fm (r:=Ky) (x:=⟨1,0,0,0,0,5,[],[]⟩) hS ⟨_,_,rfl,n1 _,n1 _⟩;(try have hle:=hle.trans hle2);(try have h1:=h1.up hle2);obtain ⟨c3,hle2,hS,h3⟩:=Fm (r:=JY) (x:=0) hS rfl;(try have hle:=hle.trans hle2);(try have h1:=h1.up hle2);(try have h2:=h2.up hle2);have hS:=Gp (es:=12) (n:=1) (css:=[[.int .i64 0, .slice none 0 0, .slice (some ⟨q2,0,none⟩) 1 1, .int .i64 3, .int .i64 0, .int .i64 0, .slice none 0 0, .slice none 0 0, .int .i64 0, .slice none 0 0, .slice none 0 0, .slice (some ⟨q3,0,none⟩) 1 1]]) hS rfl D5 rfl;have hS:=(Gp (es:=4) (n:=1) (css:=[[.int .i64 0, .slice none 0 0, .slice (some ⟨q1,0,none⟩) 1 1, .slice (some ⟨lb,0,none⟩) 1 1]]) hS.mv1 rfl D5 rfl)));all_goals (refine Qe hS ?_;intro p1 w1 hS;refine Ka hS ?_;intro w1 hS;have hS:=hS.ns;refine' OQ;refine zC [(0,none),(1,none),(2,none),(3,none),(4,none),(5,none),(6,none),(7,none),(8,none),(9,some (some [1,3,6])),(10,some (some [1])),(11,none),(12,none),(13,some none)] ?_;have hS:=hS.drew;refine' Rj;refine' KA;refine ML (m:=0) hS vw rfl fd Js ?_;intro b7 o7 hl7;refine' KA;refine' NB;refine Q2 (j:=3) hS hl7 rfl fd rfl rfl rfl ?_;refine' KA;refine Oy [_,_,_,_,_,_,_,_,_] ?_;refine' KA;refine Oy [_,_,_,_,_,_,_,_,_,_,_,_] ?_;refine' Lu;refine KY hS [_,_,_,_,_,_,_,_,_,_,_,_] ?_;intro b1 w1 hS;refine' zt;refine ⟨EO.2 ⟨(by first|(exact By)|(exact Az)),EO.2 ⟨(by first|(exact By)|(exact Az)),EO.2 ⟨(by (exact By)),fun _ h=>(EY h).elim⟩⟩⟩,?_⟩));all_goals (refine' Sa;refine Nv kS (.inl RT) hS vw vw fd (hS.srcB fd rfl Dl) Js ?_;intro vb w2 hS;have hS:=hS.ns;have hvb:=hS.oneC (v:=vb) fd;refine' MB;refine ML (m:=0) hS vw rfl fd Js ?_;intro b8 o8 hl8;refine' KA;refine' Uo;refine O2 (j:=3) (css':=[[.int .i64 0, .slice none 0 0, .slice (some ⟨q1,0,none⟩) 1 1,vb]]) hS hl8 rfl rfl fd rfl rfl Jd hvb rfl ?_;intro w7 hS;have hS:=hS.ns;refine' Lc;refine Qu ?_;refine zC [(0,none),(1,none),(2,some (some [1])),(3,none),(4,some none),(5,none),(6,some none)] ?_;have hS:=hS.drew;refine' WZ;refine' Lu;refine' ir (c:=uC hS);rintro v1 w1 ⟨ma,mb,rfl,hS⟩;simp only [px] at hS;refine' MB;refine bp rfl rfl ?_;refine' LM;refine Nv kR (.inl RP) hS vw vw fd (hS.srcB fd rfl (by simp [oneC,hvb])) Js ?_;intro uf w2 hS;have hS:=hS.ns;have huf:=hS.oneC (v:=uf) fd;refine' KA;refine' L7;refine' zt));all_goals (refine' Lx;refine LP hS ?_;intro w1 hS;have hS:=hS.ns;refine' Lc;refine' Nr));all_goals (obtain ⟨c4,hle2,hS,h4⟩:=FI (r:=Kx) (l:=[RX,RY]) (hS.out (i:=5) rfl) (((FY _ _ _).push (gQ (x:=RX) (n2 _) h2 (n1 _) (n1 _) (n1 _) (n1 _) h3)).push (gQ (x:=RY) (n2 _) (n0 _) (n1 _) (n1 _) (n1 _) (n1 _) (n1 _))) rfl Js;(try have hle:=hle.trans hle2);(try have h1:=h1.up hle2);(try have h2:=h2.up hle2);(try have h3:=h3.up hle2);obtain ⟨c5,hle2,hS,h5⟩:=Fm (r:=Kx) (x:=dd) (hS.out (i:=1) rfl) (gQ (x:=dd) (n2 _) (n0 _) (n1 _) (n1 _) (n1 _) (n1 _) (n1 _));(try have hle:=hle.trans hle2);(try have h1:=h1.up hle2);(try have h2:=h2.up hle2);(try have h3:=h3.up hle2);(try have h4:=h4.up hle2);have hr1:Kj.at c5 [.int .i64 0, .slice none 0 0, .slice (some ⟨q1,0,none⟩) 1 1,vb] (⟨0,[],[.mk 1 0 []],[RX,RY]⟩:Fun):=⟨_,_,_,rfl,n2 _,h1,h4⟩;have hr2:Kj.at c5 [.int .i64 0, .slice none 0 0, .slice none 0 0, .slice (some ⟨mb,0,none⟩) 1 1] (⟨0,[],[],[dd]⟩:Fun):=⟨_,_,_,rfl,n2 _,n2 _,h5⟩;obtain ⟨c6,hle2,hS,h6⟩:=FI (r:=Kj) (l:=Pz.funcs) (hS.out (i:=3) rfl) (((FY _ _ _).push hr1).push hr2) rfl Jd;(try have hle:=hle.trans hle2);(try have h1:=h1.up hle2);(try have h2:=h2.up hle2);(try have h3:=h3.up hle2);(try have h4:=h4.up hle2);(try have h5:=h5.up hle2);refine' Kv (c:=pL QcX ⟨_,rfl,h6⟩ hS);rintro v1 w1 ⟨c7,ds,rfl,hle2,hn1,hS⟩;(try have hle:=hle.trans hle2);(try have h1:=h1.up hle2);(try have h2:=h2.up hle2);(try have h3:=h3.up hle2);(try have h4:=h4.up hle2);(try have h5:=h5.up hle2);rw [e1,if_pos rfl,e2] at hn1;obtain ⟨v8,rfl,hf8⟩:=NV hn1;obtain ⟨a8,n8,rfl⟩:=EU hf8;rw [e1];unfold Kn));all_goals (refine' Sh;intro p2 w1 hS;refine Qe hS ?_;intro p3 w1 hS;refine Ka hS ?_;intro w1 hS;have hS:=hS.ns;refine Ka hS ?_;intro w1 hS;have hS:=hS.ns;refine' OQ;refine zC [(0,none),(1,none),(2,none),(3,none),(4,none),(5,some (some [4])),(6,some none),(7,none),(8,some none)] ?_;have hS:=hS.drew;refine' WZ;refine' KA));all_goals (refine' Ql));all_goals (refine' Mb;refine' Sg;refine' Lu));all_goals (first|refine' J1|(refine' J4;refine' ir (c:=dw hS);rintro v1 w1 ⟨c8,vf8,hle2,rfl,hn2,hS⟩;(try have hle:=hle.trans hle2);(try have h1:=h1.up hle2);(try have h2:=h2.up hle2);(try have h3:=h3.up hle2);(try have h4:=h4.up hle2);(try have h5:=h5.up hle2);(try have hn1:=hn1.up hle2))));all_goals (refine' M4;(first|refine' J1|(refine' J4;refine' J9 (c:=uB hn1 hn2 hS);rintro v1 w1 ⟨rfl,hS⟩;rw [decide_eq_true rfl]));refine' KA;refine' Pr;refine' W5;refine' PY;exact AZ)
end
end Go.Proofs.YteflkifmgnpbhaaGreat
namespace Go.Lir
section
theorem VC {ks:List Bool}{j k:Nat}(h:(LA ks)[j]?=some k):j=num ks k:=by
 have hk:=(iJ ks k).1 (EI h);have h2:=oK ks hk;have hs:=HI.1 (oJ ks);have l1:=(EJ.1 h).1;have l2:=(EJ.1 h2).1;have e1:=(EJ.1 h).2;have e2:=(EJ.1 h2).2;rcases JM j (num ks k) with h3|h3|h3
 · have:=hs j _ l1 l2 h3;omega
 · exact h3
 · have:=hs _ j l2 l1 h3;omega
section
variable {α:Type}{ks:List Bool}{l:List α}{j k:Nat}{x:α}
theorem pN (hl:ks.length=l.length)(hk:ks[k]?=some true):(pick ks l)[num ks k]?=l[k]?:=kY hl (oK ks hk)
theorem uS (hl:ks.length=l.length)(h:(pick ks l)[j]?=some x):∃k,ks[k]?=some true∧l[k]?=some x∧j=num ks k:=by
 have hj:=(EJ.1 h).1;rw [←oM hl] at hj;obtain ⟨k,hk⟩:∃k,(LA ks)[j]?=some k:=⟨_,EH hj⟩;refine ⟨k,(iJ ks k).1 (EI hk),?_,VC hk⟩;rw [←kY hl hk];exact h
end
def KF (m:Module):List Bool:=KV (m.funcs.map Fun.trim)
def KB (F:Fun):List Bool:=MV F.blocks
def VD (m:Module)(F:Fun)(y:Block):Block:=Rs (KF m) (On (KB F) y)
def Kt (m:Module)(F:Fun):Fun:=OX (KF m) F.trim
section
variable {m:Module}{F F':Fun}{f b j:Nat}{y y':Block}{x:Ins}
theorem pO:(Kt m F).blocks=(pick (KB F) F.blocks).map (VD m F):=by
 show ((pick (MV F.blocks) F.blocks).map (On (MV F.blocks))).map (Rs (KF m))=_;rw [Gn];rfl
theorem fU:(KF m).length=m.funcs.length:=by unfold KF;rw [oW,EK]
theorem dx:(KB F).length=F.blocks.length:=oT
theorem fV (hF:m.funcs[f]?=some F)(hk:(KF m)[f]?=some true):m.trim.funcs[num (KF m) f]?=some (Kt m F):=by
 show ((pick (KF m) (m.funcs.map Fun.trim)).map (OX (KF m)))[num (KF m) f]?=_;rw [EN,pN (by rw [fU,EK]) hk,EN,hF];rfl
theorem je (h:m.trim.funcs[j]?=some F'):∃f F,m.funcs[f]?=some F∧(KF m)[f]?=some true∧j=num (KF m) f∧F'=Kt m F:=by
 have h:((pick (KF m) (m.funcs.map Fun.trim)).map (OX (KF m)))[j]?=some F':=h;rw [EN] at h
 cases e:(pick (KF m) (m.funcs.map Fun.trim))[j]? with
 | none=>rw [e] at h;cases h
 | some G=>
   rw [e] at h;have h:OX (KF m) G=F':=Dh;obtain ⟨k,h1,h2,h3⟩:=uS (by rw [fU,EK]) e;rw [EN] at h2
   cases e2:m.funcs[k]? with
   | none=>rw [e2] at h2;cases h2
   | some F=>
     rw [e2] at h2;have h2:F.trim=G:=(by simpa using h2);exact ⟨k,F,e2,h1,h3,by rw [←h,←h2];rfl⟩
theorem fW (hy:F.blocks[b]?=some y)(hk:(KB F)[b]?=some true):(Kt m F).blocks[num (KB F) b]?=some (VD m F y):=by
 rw [pO,EN,pN dx hk,hy];rfl
theorem lI (h:(Kt m F).blocks[j]?=some y'):∃b y,F.blocks[b]?=some y∧(KB F)[b]?=some true∧j=num (KB F) b∧y'=VD m F y:=by
 rw [pO,EN] at h
 cases e:(pick (KB F) F.blocks)[j]? with
 | none=>rw [e] at h;cases h
 | some y=>
   rw [e] at h;have h:VD m F y=y':=Dh;obtain ⟨k,h1,h2,h3⟩:=uS dx e;exact ⟨k,y,h2,h1,h3,h.symm⟩
theorem pP (hM:MOk m.funcs):(KF m)[0]?=some true:=by
 have h:(KF m)[0]?=some true↔_:=au hM.calls.lt DN 0;exact h.2 .zero
theorem lJ (hF:FOk F.blocks):(KB F)[0]?=some true:=(hF.keep 0).2 .zero
theorem uT (hM:MOk m.funcs)(hF:m.funcs[f]?=some F)(hk:(KF m)[f]?=some true)(hy:F.blocks[b]?=some y)(hb:(KB F)[b]?=some true)(hx:x∈y.code)(ho:x.op=14):(KF m)[x.k.toNat]?=some true:=by
 have hT:(m.funcs.map Fun.trim)[f]?=some F.trim:=by rw [EN,hF];rfl
 have hm:On (KB F) y∈F.trim.blocks:=by
  show _∈(pick (MV F.blocks) F.blocks).map (On (MV F.blocks));refine Gu ?_;have:=pN (l:=F.blocks) dx hb;rw [hy] at this;exact EI this
 exact hM.calls.kept DN hT hk hm hx ho
end
end
section
def Stp.Fu (k:Nat):Stp→Prop
 | .go s=>s.fuel=k
 | _=>True
theorem Stp.fu_bind {k:Nat}{x:Option α}{f:α→Stp}(h:∀a,(f a).Fu k):(obind x f).Fu k:=by
 cases x with
 | none=>exact trivial
 | some a=>exact h a
abbrev FK:=@Stp.fu_bind
theorem Stp.fu_if {k:Nat}{c:Prop}[Decidable c]{a b:Stp}(h1:a.Fu k)(h2:b.Fu k):(if c then a else b).Fu k:=by
 by_cases hc:c
 · rw [if_pos hc];exact h1
 · rw [if_neg hc];exact h2
abbrev FF:=@Stp.fu_if
section
variable {m:Module}{s:MS}
theorem uU {e:Int}{h:HpS}{v:Val}:(s.made e h v).Fu s.fuel:=FF trivial (FF trivial rfl)
theorem pQ {v:Val}{e:Int}{r:Stp}{k:Nat}(h:r.Fu k):(Nf v e r).Fu k:=FF trivial (FF trivial (FF trivial h))
theorem VE {f:Fun}{t:To}:(s.to f t).Fu s.fuel:=by
 unfold MS.to;split
 · exact trivial
 · exact FK fun _=>FK fun _=>FF trivial rfl
theorem dy {x:Ins}:(s.ins m x).Fu s.fuel:=by
 unfold MS.ins;refine FF rfl (FF (FK fun _=>FK fun _=>FF trivial rfl) (FF (FF trivial rfl) (FF (FK fun _=>FF trivial rfl) (FF (FK fun _=>FK fun _=>uU) (FF (FK fun _=>FF trivial (FF trivial rfl)) (FF (FK fun _=>FF trivial (FK fun _=>FF trivial rfl)) (FF (FK fun _=>FK fun _=>FF trivial uU) (FF (FK fun _=>FK fun _=>pQ rfl) (FF (FK fun _=>FK fun _=>FK fun _=>pQ rfl) (FF (FK fun _=>pQ rfl) (FF ?_ (FF (FK fun _=>FF trivial rfl) ?_))))))))))))
 · unfold MS.inS;split<;>first|exact trivial|rfl
 · unfold MS.call
   split
   · exact trivial
   · exact FK fun _=>FK fun _=>FF trivial (FF trivial rfl)
theorem dz {f:Fun}:(s.fin f e).Fu s.fuel:=by
 unfold MS.fin;refine FF VE (FF (FK fun _=>FF VE VE) ?_);unfold MS.ret;refine FK fun vs=>FF trivial ?_;split
 · rfl
 · split<;>exact trivial
theorem dA:(s.one m).Fu s.fuel:=by
 unfold MS.one;split
 · exact trivial
 · split
   · exact trivial
   · split
     · exact dy (s:=s.next)
     · exact dz
theorem pw {s':MS}(h:s.tick.one m= .go s'):s'.fuel=s.fuel+1:=by
 have:=dA (m:=m) (s:=s.tick);rw [h] at this;exact this
end
theorem uV {k:Nat}{s:MS}(hk:s.fuel<most)(he:k=s.fuel):Run.steps m most (most+1 - k) (.on s)=Run.steps m most (most+1 - (k+1)) (.of m s (s.tick.one m)):=by
 rw [show most+1 - k=(most+1 - (k+1))+1 by omega,Run.steps];rw [show Run.step m most (.on s)= .of m s (s.tick.one m) by unfold Run.step;exact if_neg Jo]
theorem pR {k:Nat}{s:MS}(hk:s.fuel=most)(he:k=s.fuel):Run.steps m most (most+1 - k) (.on s)= .over s 7 []:=by
 rw [show most+1 - k=0+1 by omega,Run.steps];rw [show Run.step m most (.on s)= .over s 7 [] by unfold Run.step;exact if_pos hk];rfl
theorem jg {m:Module}{most:Nat}{s:MS}{e:Int}{b:List Int}:∀k,Run.steps m most k (.over s e b)= .over s e b
 | 0=>rfl
 | k+1=>by rw [Run.steps];exact jg k
theorem pS {m:Module}{most:Nat}{f:LV}:∀k,Run.steps m most k (.stuck f)= .stuck f
 | 0=>rfl
 | k+1=>by rw [Run.steps];exact pS k
def RA (m:Module)(most:Nat)(a:Run):Run→Prop
 | .on s=>a=Run.steps m most (most+1 - s.fuel) (.on s)
 | r=>a=r
section
variable {m:Module}{inp:List Int}
theorem RA.first:RA m most (Run.all m inp most pages) (.on (MS.start inp pages)):=rfl
theorem RA.seven {s:MS}(h:RA m most a (.on s))(hk:s.fuel=most):RA m most a (.over s 7 []):=Hl h (pR hk rfl)
abbrev Ju:=@RA.seven
theorem RA.more {s:MS}{X:Stp}(h:RA m most a (.on s))(hk:s.fuel<most)(hX:s.tick.one m=X)(hf:∀s',X= .go s'→s'.fuel=s.fuel+1):RA m most a (.of m s X):=by
 have h1:=Hl h (uV hk rfl);rw [hX] at h1
 cases X with
 | go s'=>show a=_;rw [h1,hf s' rfl];rfl
 | halt e=>exact h1.trans (jg _)
 | done l=>exact h1.trans (jg _)
 | lost=>exact h1.trans (pS _)
theorem RA.nx {s:MS}(hA:RA m most a (.on s))(hk:s.fuel≤most):RA m most a (Run.step m most (.on s)):=by
 by_cases h7:s.fuel=most
 · rw [show Run.step m most (.on s)= .over s 7 [] from if_pos h7];exact Ju hA h7
 · rw [show Run.step m most (.on s)= .of m s (s.tick.one m) from if_neg h7];exact BM
end
end
section
def NP (m:Module)(g:Frm):Frm:=⟨num (KF m) g.f,(match m.funcs[g.f]? with
 | some F=>num (KB F) g.b
 | none=>0),g.i,g.vals,g.regs⟩
def KI (m:Module)(s:MS):MS:=⟨s.h,NP m s.g,s.st.map (NP m),s.inp,s.out,s.fuel⟩
def uW (m:Module)(g:Frm):Prop:=∃F y,m.funcs[g.f]?=some F∧(KF m)[g.f]?=some true∧F.blocks[g.b]?=some y∧(KB F)[g.b]?=some true
def Sw (m:Module)(s:MS):Prop:=uW m s.g∧∀c∈s.st,uW m c
def Stp.ren (m:Module):Stp→Stp
 | .go s=> .go (KI m s)
 | r=>r
def Stp.Ok (m:Module):Stp→Prop
 | .go s=>Sw m s
 | _=>True
def KX (m:Module)(a a':Stp):Prop:=a=a'.ren m∧a'.Ok m
section
variable {m:Module}{s:MS}{x:Ins}{F:Fun}{y:Block}{e:Tail}
theorem lK (l:List Int):(KI m s).g.args l=s.g.args l:=by
 induction l with
 | nil=>rfl
 | cons k l ih=>
   show (match (KI m s).g.val k,(KI m s).g.args l with|some v,some vs=>some (v::vs)|_,_=>none)=_;rw [ih];rfl
theorem uX (l:List Int):(KI m s).g.rgs l=s.g.rgs l:=by
 induction l with
 | nil=>rfl
 | cons k l ih=>
   show (match (KI m s).g.reg k,(KI m s).g.rgs l with|some v,some vs=>some (v::vs)|_,_=>none)=_;rw [ih];rfl
theorem KX.lost:KX m .lost .lost:=⟨rfl,trivial⟩
theorem KX.halt:KX m (.halt c) (.halt c):=⟨rfl,trivial⟩
theorem KX.done {l:List Int}:KX m (.done l) (.done l):=⟨rfl,trivial⟩
theorem KX.go {s':MS}(h:Sw m s'):KX m (.go (KI m s')) (.go s'):=⟨rfl,h⟩
theorem KX.obind {α:Type}{o:Option α}{f g:α→Stp}(h:∀a,o=some a→KX m (f a) (g a)):KX m (obind o f) (obind o g):=by
 cases o with
 | none=>exact .lost
 | some a=>exact h a rfl
theorem KX.ite {c:Prop}[Decidable c]{a b b':Stp}(h1:c→KX m a a')(h2:¬c→KX m b b'):KX m (if c then a else b) (if c then a' else b'):=by
 by_cases hc:c
 · rw [if_pos hc,if_pos hc];exact h1 hc
 · rw [if_neg hc,if_neg hc];exact h2 hc
theorem pT {v:Val}{a:Stp}(h:KX m a a'):KX m (Nf v c a) (Nf v c a'):=
 .ite (fun _=> .lost) fun _=> .ite (fun _=> .halt) fun _=> .ite (fun _=> .lost) fun _=>h
theorem uY (h:Sw m s){hp:HpS}{v:Val}:KX m ((KI m s).made c hp v) (s.made c hp v):=
 .ite (fun _=> .halt) fun _=> .ite (fun _=> .lost) fun _=> .go (s':=(s.hp hp).put [v]) h
theorem YZ (h:Sw m s)(ho:1≤x.op∧x.op≤13):KX m ((KI m s).ins m.trim x) (s.ins m x):=by
 unfold MS.ins;refine .ite (fun _=> .go (s':=s.put _) h) fun h1=>?_;refine .ite (fun _=> .obind fun a _=> .obind fun b _=> .ite (fun _=> .halt) fun _=> .go (s':=s.put _) h) fun h2=>?_;refine .ite (fun _=> .ite (fun _=> .halt) fun _=> .go (s':=(⟨s.h.open,⟨s.g.f,s.g.b,s.g.i,s.g.vals,s.g.regs++[s.h.openV.region]⟩,s.st,s.inp,s.out,s.fuel⟩:MS).put [s.h.openV]) h) fun h3=>?_;refine .ite (fun _=> .obind fun v _=> .ite (fun _=> .lost) fun _=> .go (s':=s.hp _) h) fun h4=>?_;refine .ite (fun _=> .obind fun v _=>by rw [lK];exact .obind fun l _=>uY h) fun h5=>?_;refine .ite (fun _=> .obind fun v _=> .ite (fun _=> .lost) fun _=> .ite (fun _=> .lost) fun _=> .go (s':=s.put _) h) fun h6=>?_;refine .ite (fun _=> .obind fun v _=> .ite (fun _=> .lost) fun _=> .obind fun y _=> .ite (fun _=> .lost) fun _=> .go (s':=s.hp _) h) fun h7=>?_;refine .ite (fun _=> .obind fun v _=> .obind fun n _=> .ite (fun _=> .halt) fun _=>uY h) fun h8=>?_;refine .ite (fun _=> .obind fun v _=> .obind fun n _=>pT (.go (s':=s.put _) h)) fun h9=>?_;refine .ite (fun _=> .obind fun v _=> .obind fun n _=> .obind fun c _=>pT (.go (s':=s.hp _) h)) fun h10=>?_;refine .ite (fun _=> .obind fun v _=>pT (.go (s':=s.put _) h)) fun h11=>?_;refine .ite (fun _=>?_) fun h12=>?_
 · unfold MS.inS
   show KX m (match s.inp with|[]=>_|n::r=>_) (match s.inp with|[]=>_|n::r=>_)
   cases s.inp with
   | nil=>exact .halt
   | cons n r=>exact .go (s':=(⟨s.h,s.g,s.st,r,s.out,s.fuel⟩:MS).put [Ku n]) h
 refine .ite (fun _=> .obind fun n _=>?_) fun h13=>?_
 · exact .ite (fun _=> .halt) fun _=> .go (s':=⟨s.h,s.g,s.st,s.inp,s.out++[n],s.fuel⟩) h
 · exfalso;omega
theorem VF (hM:MOk m.funcs)(h:Sw m s)(hk:(KF m)[x.k.toNat]?=some true)(ho:x.op=14):KX m ((KI m s).call m.trim (Kp (KF m) x)) (s.call m x):=by
 have hlt:=(EJ.1 hk).1;rw [fU] at hlt;obtain ⟨G,hG⟩:∃G,m.funcs[x.k.toNat]?=some G:=⟨_,EH hlt⟩;have hG':=fV hG hk;have er:Kp (KF m) x={x with k:=num (KF m) x.k.toNat}:=(by unfold Kp;rw [if_pos ho]);rw [er];unfold MS.call;show KX m (match m.trim.funcs[((num (KF m) x.k.toNat:Nat):Int).toNat]? with|none=>_|some g=>_) _;rw [E5,hG',hG];dsimp only;rw [uX,lK];have hb0:=(hM.blk G (EI hG));have hl0:=hb0.one;obtain ⟨y0,hy0⟩:∃y,G.blocks[0]?=some y:=⟨_,EH Jo⟩;refine .obind fun rs _=> .obind fun vs _=>?_;show KX m (if _ then _ else if (s.st.map (NP m)).length+1=40 then _ else _) _;rw [EK];refine .ite (fun _=> .lost) fun _=> .ite (fun _=> .halt) fun _=>?_
 have e:KI m ⟨s.h,⟨x.k.toNat,0,0,vs,rs⟩,s.g::s.st,s.inp,s.out,s.fuel⟩=⟨s.h,⟨num (KF m) x.k.toNat,0,0,vs,rs⟩,NP m s.g::s.st.map (NP m),s.inp,s.out,s.fuel⟩:=by
  unfold KI
  have:NP m ⟨x.k.toNat,0,0,vs,rs⟩=⟨num (KF m) x.k.toNat,0,0,vs,rs⟩:=by
   unfold NP;simp only [hG];rfl
  rw [this];rfl
 refine ⟨congrArg Stp.go e.symm,⟨⟨G,y0,hG,hk,hy0,lJ hb0⟩,fun c hc=>?_⟩⟩;rcases ES.1 hc with rfl|hc
 · exact h.1
 · exact h.2 c hc
theorem pU (h:Sw m s)(hF:m.funcs[s.g.f]?=some F)(hkf:(KF m)[s.g.f]?=some true){t:To}(hk:(KB F)[t.block.toNat]?=some true):KX m ((KI m s).to (Kt m F) (Lf (KB F) t)) (s.to F t):=by
 have hlt:=(EJ.1 hk).1;rw [dx] at hlt;obtain ⟨y,hy⟩:∃y,F.blocks[t.block.toNat]?=some y:=⟨_,EH hlt⟩;have hy':=fW (m:=m) hy hk;unfold MS.to;show KX m (match (Kt m F).blocks[((num (KB F) t.block.toNat:Nat):Int).toNat]? with|none=>_|some b=>_) _;rw [E5,hy',hy];dsimp only;rw [show (Lf (KB F) t).regs=t.regs from rfl,show (Lf (KB F) t).args=t.args from rfl,uX,lK];refine .obind fun rs _=> .obind fun vs _=>?_;refine .ite (fun _=> .lost) fun _=>?_
 have e:KI m (s.fr ⟨s.g.f,t.block.toNat,0,vs,rs⟩)=(KI m s).fr ⟨num (KF m) s.g.f,num (KB F) t.block.toNat,0,vs,rs⟩:=by
  unfold KI MS.fr
  have:NP m ⟨s.g.f,t.block.toNat,0,vs,rs⟩=⟨num (KF m) s.g.f,num (KB F) t.block.toNat,0,vs,rs⟩:=by
   unfold NP;simp only [hF]
  simp only [this]
 refine ⟨?_,⟨⟨F,y,hF,hkf,hy,hk⟩,h.2⟩⟩;exact congrArg Stp.go e.symm
theorem Y0 (h:Sw m s):KX m ((KI m s).ret (Kt m F) (Mj (KB F) e)) (s.ret F e):=by
 unfold MS.ret;rw [show (Mj (KB F) e).args=e.args from rfl,lK];refine .obind fun vs _=>?_;refine .ite (fun _=> .lost) fun _=>?_;show KX m (match s.st.map (NP m) with|c::st=>_|[]=>_) _
 cases hst:s.st with
 | nil=>
   show KX m (match Kr vs with|none=>_|some ns=>_) (match Kr vs with|none=>_|some ns=>_)
   cases Kr vs with
   | none=>exact .lost
   | some ns=>exact .done
 | cons c st=>
   have h1:Sw m ((⟨s.h,c,st,s.inp,s.out,s.fuel⟩:MS).put vs):=⟨h.2 c (by rw [hst];exact Fh ..),fun d hd=>h.2 d (by rw [hst];exact E9 _ hd)⟩;exact .go (s':=(⟨s.h,c,st,s.inp,s.out,s.fuel⟩:MS).put vs) h1
theorem Y1 (hM:MOk m.funcs)(h:Sw m s)(hF:m.funcs[s.g.f]?=some F)(hkf:(KF m)[s.g.f]?=some true)(hy:F.blocks[s.g.b]?=some y)(hkb:(KB F)[s.g.b]?=some true):KX m ((KI m s).fin (Kt m F) (Mj (KB F) y.fin)) (s.fin F y.fin):=by
 have hok:=hM.blk F (EI hF);have hop:=hok.op y (EI hy);have hyk:=hok.yes_kept hy hkb;have hnk:=hok.no_kept hy hkb;unfold MS.fin;show KX m (if y.fin.op=1 then (KI m s).to (Kt m F) (if y.fin.op≠3 then Lf (KB F) y.fin.yes else y.fin.yes) else if y.fin.op=2 then Go.Lir.obind (s.g.num y.fin.a) (fun n=>if n≠0 then (KI m s).to (Kt m F) (if y.fin.op≠3 then Lf (KB F) y.fin.yes else y.fin.yes) else (KI m s).to (Kt m F) (if y.fin.op=2 then Lf (KB F) y.fin.no else y.fin.no)) else (KI m s).ret (Kt m F) (Mj (KB F) y.fin)) _;refine .ite (fun h1=>?_) fun h1=> .ite (fun h2=> .obind fun n _=> .ite (fun _=>?_) fun _=>?_) fun h2=>Y0 h
 · rw [if_pos Jo];exact pU h hF hkf (hyk Jo)
 · rw [if_pos Jo];exact pU h hF hkf (hyk Jo)
 · rw [if_pos h2];exact pU h hF hkf (hnk h2)
theorem Y2 (hM:MOk m.funcs)(hop:∀F∈m.funcs,∀y∈F.blocks,∀x∈y.code,1≤x.op∧x.op≤14)(h:Sw m s):KX m ((KI m s).one m.trim) (s.one m):=by
 obtain ⟨F,y,hF,hkf,hy,hkb⟩:=h.1;have hb':=fW (m:=m) hy hkb;unfold MS.one;have e1:m.trim.funcs[(KI m s).g.f]?=some (Kt m F):=fV hF hkf
 have e2:(Kt m F).blocks[(KI m s).g.b]?=some (VD m F y):=by
  show (Kt m F).blocks[(match m.funcs[s.g.f]? with|some F=>num (KB F) s.g.b|none=>0)]?=_;rw [hF];exact hb'
 rw [e1,hF];simp only;rw [e2,hy];simp only;show KX m (match (y.code.map (Kp (KF m)))[s.g.i]? with|some x=>_|none=>_) _;rw [EN]
 cases hx:y.code[s.g.i]? with
 | none=>exact Y1 hM h hF hkf hy hkb
 | some x=>
   have hxm:=EI hx;have hxo:=hop F (EI hF) y (EI hy) x hxm;have hn:Sw m s.next:=h;show KX m ((KI m s.next).ins m.trim (Kp (KF m) x)) (s.next.ins m x);by_cases ho:x.op=14
   · have er:(Kp (KF m) x).op=14:=by unfold Kp;rw [if_pos ho];exact ho
     have e3:(KI m s.next).ins m.trim (Kp (KF m) x)=(KI m s.next).call m.trim (Kp (KF m) x):=by
      unfold MS.ins;(repeat rw [if_neg Jo])
     have e4:s.next.ins m x=s.next.call m x:=by
      unfold MS.ins;(repeat rw [if_neg Jo])
     rw [e3,e4];exact VF hM hn (uT hM hF hkf hy hkb hxm ho) ho
   · have er:Kp (KF m) x=x:=(by unfold Kp;rw [if_neg ho]);rw [er];exact YZ hn Jo
end
def Rx (m:Module):Run→Run→Prop
 | .on s', .on s=>s'=KI m s∧Sw m s
 | .over s' e' b', .over s e b=>s'=KI m s∧e'=e∧b'=b
 | .stuck f', .stuck f=>f'.1=f.1
 | _,_=>False
section
variable {m:Module}{most:Nat}
theorem VG (hM:MOk m.funcs)(hop:∀F∈m.funcs,∀y∈F.blocks,∀x∈y.code,1≤x.op∧x.op≤14){r:Run}(h:Rx m r' r):Rx m (r'.step m.trim most) (r.step m most):=by
 match r',r,h with
 | .over _ _ _, .over _ _ _,h=>exact h
 | .stuck _, .stuck _,h=>exact h
 | .on s', .on s,⟨e,hs⟩=>
   subst e;show Rx m (if s.fuel=most then .over (KI m s) 7 [] else .of m.trim (KI m s) ((KI m s).tick.one m.trim)) (if s.fuel=most then .over s 7 [] else .of m s (s.tick.one m));by_cases hf:s.fuel=most
   · rw [if_pos hf,if_pos hf];exact ⟨rfl,rfl,rfl⟩
   · rw [if_neg hf,if_neg hf]
     have hs1:Sw m s.tick:=hs;have h1:=Y2 hM hop hs1;have e:(KI m s).tick.one m.trim=(KI m s.tick).one m.trim:=rfl;rw [e];obtain ⟨h2,h3⟩:=h1;rw [h2]
     cases h4:s.tick.one m with
     | go t=>rw [h4] at h3;exact ⟨rfl,h3⟩
     | halt c=>exact ⟨rfl,rfl,rfl⟩
     | done l=>exact ⟨rfl,rfl,rfl⟩
     | lost=>exact rfl
theorem uZ (hM:MOk m.funcs)(hop:∀F∈m.funcs,∀y∈F.blocks,∀x∈y.code,1≤x.op∧x.op≤14):∀(k:Nat){r' r:Run},Rx m r' r→Rx m (Run.steps m.trim most k r') (Run.steps m most k r)
 | 0,_,_,h=>h
 | k+1,_,_,h=>uZ hM hop k (VG hM hop h)
theorem Y3 (hM:MOk m.funcs)(hop:∀F∈m.funcs,∀y∈F.blocks,∀x∈y.code,1≤x.op∧x.op≤14){inp:List Int}:Rx m (Run.all m.trim inp most pages) (Run.all m inp most pages):=by
 have h0:=hM.one;obtain ⟨F,hF⟩:∃F,m.funcs[0]?=some F:=⟨_,EH Jo⟩;have hok:=hM.blk F (EI hF);have h1:=hok.one;obtain ⟨y,hy⟩:∃y,F.blocks[0]?=some y:=⟨_,EH Jo⟩;refine uZ hM hop _ ⟨?_,⟨F,y,hF,pP hM,hy,lJ hok⟩,fun c hc=>by cases hc⟩;unfold MS.start KI NP;simp only [hF];rfl
theorem Y4 {r:Run}(h:Rx m r' r):r'.oc=r.oc∧(r'.flt.1=0↔r.flt.1=0):=by
 match r',r,h with
 | .over _ _ _, .over _ _ _,⟨h1,h2,h3⟩=>subst h1 h2 h3;exact ⟨rfl,GV⟩
 | .stuck f', .stuck f,h=>
   have h:f'.1=f.1:=h;exact ⟨rfl,by show f'.1=0↔f.1=0;rw [h]⟩
 | .on s', .on s,⟨h1,_⟩=>subst h1;exact ⟨rfl,GV⟩
end
end
section
mutual
def Ty.rn:Ty→List Int→Ty
 | .mk k r l,f=> .mk k (if k≠1 then f.getD r.toNat 0 else r) (Tys.rn l f)
def Tys.rn:List Ty→List Int→List Ty
 | [],_=>[]
 | x::l,f=>x.rn f::Tys.rn l f
end
theorem Tys.rn_map (f:List Int):∀l:List Ty,Tys.rn l f=l.map fun t=>t.rn f
 | []=>by rw [Tys.rn];rfl
 | x::l=>by rw [Tys.rn,Tys.rn_map f l];rfl
abbrev JK:=@Tys.rn_map
theorem Ty.rn_mk (k r:Int)(l:List Ty)(f:List Int):(Ty.mk k r l).rn f= .mk k (if k≠1 then f.getD r.toNat 0 else r) (l.map fun t=>t.rn f):=by rw [Ty.rn,JK]
abbrev He:=@Ty.rn_mk
theorem Ty.rn_kind (t:Ty)(f:List Int):(t.rn f).kind=t.kind:=by obtain ⟨k,r,l⟩:=t;rw [Ty.rn];rfl
abbrev HF:=@Ty.rn_kind
theorem Ty.rn_r (f:List Int)(h:t.kind≠1):(t.rn f).r=f.getD t.r.toNat 0:=by obtain ⟨k,r,l⟩:=t;rw [Ty.rn];exact if_pos h
theorem Ty.rn_mr {k r:Int}{l:List Ty}(f:List Int)(h:k≠1):((Ty.mk k r l).rn f).r=f.getD r.toNat 0:=by rw [Ty.rn];exact if_pos h
theorem Ty.rn_l (t:Ty)(f:List Int):(t.rn f).l=t.l.map fun t=>t.rn f:=by obtain ⟨k,r,l⟩:=t;rw [He];rfl
theorem Tys.ren_map {f:List Int}:∀{l m:List Ty},(∀x∈l,∀u,x.ren f=some u→u=x.rn f)→Tys.ren l f=some m→m=l.map fun t=>t.rn f
 | [],m,_,h=>by rw [Tys.ren] at h;cases h;rfl
 | x ::l,m,hx,h=>by
   rw [Tys.ren] at h
   cases h1:x.ren f with
   | none=>rw [h1] at h;cases h
   | some y=>
     rw [h1] at h
     cases h2:Tys.ren l f with
     | none=>rw [h2] at h;cases h
     | some m2=>
       rw [h2] at h;cases h;rw [FM,hx x (Fh ..) y h1,Tys.ren_map (fun z hz=>hx z (E9 _ hz)) h2]
abbrev Jv:=@Tys.ren_map
theorem Ty.rn_of {f:List Int}:∀(t u:Ty),t.ren f=some u→u=t.rn f:=by
 intro t
 induction t using GX with
 | h k r l ih=>
   intro u h;rw [Ty.ren] at h;split at h
   · cases h
   · split at h
     · cases h
     · rename_i m hm;cases h;rw [He,Jv ih hm]
theorem Ty.rn_congr {f:List Int}{n:Int}(h:∀i:Nat,(i:Int)<n→f.getD i 0=g.getD i 0):∀t:Ty,t.wrong 8 n=0→t.rn f=t.rn g:=by
 intro t
 induction t using GX with
 | h k r l ih=>
   intro hw;obtain ⟨h1,h2,h3,h4,h5,h6⟩:=Gq.1 hw;rw [He,He,FE fun x hx=>ih x hx (h6 x hx)];by_cases hk:k≠1
   · rw [if_pos hk,if_pos hk,h r.toNat D2]
   · rw [if_neg hk,if_neg hk]
abbrev Jw:=@Ty.rn_congr
theorem Ty.rn_rn {f e:List Int}{n:Int}(h:∀i:Nat,(i:Int)<n→e.getD i 0=g.getD (f.getD i 0).toNat 0):∀t:Ty,t.wrong 8 n=0→(t.rn f).rn g=t.rn e:=by
 intro t
 induction t using GX with
 | h k r l ih=>
   intro hw;obtain ⟨h1,h2,h3,h4,h5,h6⟩:=Gq.1 hw;rw [He,He,He,Gn];have hl:(l.map ((fun t:Ty=>t.rn g)∘fun t=>t.rn f))=l.map fun t=>t.rn e:=FE fun x hx=>ih x hx (h6 x hx);rw [hl];by_cases hk:k≠1
   · rw [if_pos hk,if_pos hk,if_pos hk,h r.toNat D2]
   · rw [if_neg hk,if_neg hk,if_neg hk]
abbrev Jx:=@Ty.rn_rn
abbrev La:=Int→Int→Option Ty
structure VT (Ψ:La) (v:Val) (t:Ty):Prop where
 kind:v.kind=t.kind
 reg:t.kind≠1→v.region=t.r
 thing:t.kind=3∨t.kind=4→Ψ v.region v.thing=some t
def VH (Ψ Ψ':La):Prop:=∀k j t,Ψ k j=some t→Ψ' k j=some t
theorem VT.ext {Ψ Ψ':La}{v:Val}(h:VT Ψ v t)(he:VH Ψ Ψ'):VT Ψ' v t:=⟨h.kind,h.reg,fun hk=>he _ _ _ (h.thing hk)⟩
theorem VH.refl (Ψ:La):VH Ψ Ψ:=fun _ _ _ h=>h
abbrev Ic:=@VH.refl
def Md (Ψ:La)(l:List Val)(ts:List Ty):Prop:=l.length=ts.length∧∀(i:Nat) (v:Val) (t:Ty),l[i]?=some v→ts[i]?=some t→VT Ψ v t
theorem Md.ext {Ψ Ψ':La}(h:Md Ψ l ts)(he:VH Ψ Ψ'):Md Ψ' l ts:=⟨h.1,fun i v t h1 h2=>(h.2 i v t h1 h2).ext he⟩
theorem Md.nil (Ψ:La):Md Ψ [] []:=⟨rfl,fun i v t h=>by simp at h⟩
abbrev Iv:=@Md.nil
theorem Md.get {Ψ:La}(h:Md Ψ l ts){i:Nat}(ht:ts[i]?=some t):∃v,l[i]?=some v∧VT Ψ v t:=by
 have h1:=(EJ.1 ht).1;have h0:i<l.length:=(by rw [h.1];exact h1);have h2:l[i]?=some l[i]:=EH h0;exact ⟨_,h2,h.2 i _ t h2 ht⟩
theorem Md.app {Ψ:La}{l2:List Val}{ts2:List Ty}(h:Md Ψ l ts)(h2:Md Ψ l2 ts2):Md Ψ (l++l2) (ts++ts2):=by
 refine ⟨by rw [EM,EM,h.1,h2.1],fun i v t hv ht=>?_⟩;by_cases hi:i<l.length
 · rw [ER hi] at hv;rw [ER (by rw [←h.1];exact hi)] at ht;exact h.2 i v t hv ht
 · rw [EV Jo] at hv;rw [EV (by rw [←h.1];omega),←h.1] at ht;exact h2.2 _ v t hv ht
abbrev JV:=@Md.app
theorem Md.one {Ψ:La}{v:Val}(h:VT Ψ v t):Md Ψ [v] [t]:=by
 refine ⟨rfl,fun i v' t' hv ht=>?_⟩
 cases i with
 | zero=>simp at hv ht;subst hv ht;exact h
 | succ i=>simp at hv
abbrev Iw:=@Md.one
theorem Md.cons {Ψ:La}{v:Val}{t:Ty}{l:List Val}{ts:List Ty}(h:VT Ψ v t)(h2:Md Ψ l ts):Md Ψ (v::l) (t::ts):=JV (Iw h) h2
theorem Md.set {Ψ:La}(h:Md Ψ l ts){k:Nat}{v:Val}(ht:ts[k]?=some t)(hv:VT Ψ v t):Md Ψ (l.set k v) ts:=by
 refine ⟨by rw [Fe];exact h.1,fun i u w hu hw=>?_⟩;rw [FD] at hu;split at hu
 · rename_i hk
   subst hk;split at hu
   · cases hu;rw [ht] at hw;cases hw;exact hv
   · cases hu
 · exact h.2 i u w hu hw
def M7 (Ψ:La)(x:Thg)(t:Ty):Prop:=x.array=decide (t.kind=4)∧(t.kind=3→Md Ψ x.l t.l)∧(t.kind=4→x.l.length≤15∧∀v∈x.l,v.kind=1)
theorem M7.ext {Ψ Ψ':La}{x:Thg}(h:M7 Ψ x t)(he:VH Ψ Ψ'):M7 Ψ' x t:=⟨h.1,fun hk=>(h.2.1 hk).ext he,h.2.2⟩
theorem M7.tup {Ψ:La}(hk:t.kind=3)(h:Md Ψ l t.l):M7 Ψ ⟨false,l⟩ t:=by
 refine ⟨?_,fun _=>h,fun h4=>?_⟩
 · rw [hk];rfl
 · rw [hk] at h4;cases h4
theorem M7.arr {Ψ:La}(hk:t.kind=4)(hl:l.length≤15)(h:∀v∈l,v.kind=1):M7 Ψ ⟨true,l⟩ t:=by
 refine ⟨?_,fun h3=>?_,fun _=>⟨hl,h⟩⟩
 · rw [hk];rfl
 · rw [hk] at h3;cases h3
structure HTy (Ψ:La) (h:HpS):Prop where
 dom:∀k j t,Ψ k j=some t→0≤k∧k<h.l.length∧t.r=k∧(t.kind=3∨t.kind=4)
 here:∀k j t,Ψ k j=some t→h.has k=true→0≤j∧j<(h.reg k).l.length∧M7 Ψ (h.thg k.toNat j.toNat) t
section
variable {Ψ Ψ':La}{h:HpS}{v x:Val}{t u:Ty}{k j:Int}
theorem lL {l:List Rgn}(k:Int):(⟨l,left⟩:HpS).reg k=if 0≤k then l.getD k.toNat Rgn.none else Rgn.none:=rfl
theorem RZ (hh:h.has k=true):0≤k∧k<h.l.length∧h.l[k.toNat]?=some (h.reg k)∧(h.reg k).there=true:=by
 have hh':=hh;unfold HpS.has HpS.reg at hh;split at hh
 · rename_i h0
   rw [EL] at hh
   cases hk:h.l[k.toNat]? with
   | none=>rw [hk] at hh;cases hh
   | some r=>
     have hlt:=(EJ.1 hk).1;refine ⟨h0,Jo,?_,hh'⟩;unfold HpS.reg;rw [if_pos h0,EL,hk];rfl
 · cases hh
theorem reg_set {l:List Rgn}{left':Int}{m:Nat}{r:Rgn}(hm:m<l.length)(k:Int):(⟨l.set m r,left⟩:HpS).reg k=if k=m then r else (⟨l,left'⟩:HpS).reg k:=by
 rw [lL,lL];by_cases h0:0≤k
 · rw [if_pos h0,if_pos h0,EL,FD]
   by_cases hk:k=m
   · rw [if_pos hk,if_pos Jo,if_pos hm];rfl
   · rw [if_neg hk,if_neg Jo,EL]
 · rw [if_neg h0,if_neg h0,if_neg Jo]
theorem lM {l:List Rgn}{a:Int}{r:Rgn}(k:Int):(⟨l++[r],a⟩:HpS).reg k=if k=l.length then r else (⟨l,a⟩:HpS).reg k:=by
 rw [lL,lL];by_cases h0:0≤k
 · rw [if_pos h0,if_pos h0,EL,EL]
   by_cases hk:k=l.length
   · rw [if_pos hk,EV Jo,show k.toNat - l.length=0 by omega];rfl
   · rw [if_neg hk]
     by_cases hl:k<l.length
     · rw [ER Jo]
     · rw [Fk (by rw [EM];simp only [ET,Ff];omega),Fk Jo]
 · rw [if_neg h0,if_neg h0,if_neg Jo]
theorem VI (hv:VT Ψ v t)(hk:t.kind=2)(hh:h.has t.r=true):h.can v=true:=by
 unfold HpS.can;rw [hv.kind,hk,hv.reg Jo,hh];rfl
theorem fX (hH:HTy Ψ h)(hv:VT Ψ v t)(hk:t.kind=3∨t.kind=4)(hh:h.has t.r=true):h.at_ v=some (v.region.toNat,v.thing.toNat)∧v.region=t.r∧0≤v.thing∧v.thing<(h.reg t.r).l.length∧M7 Ψ (h.thg v.region.toNat v.thing.toNat) t:=by
 have hr:=hv.reg Jo;have hp:=hv.thing hk;obtain ⟨h1,h2,h3⟩:=hH.here _ _ _ hp (by rw [hr];exact hh);refine ⟨?_,hr,h1,by rw [←hr];exact h2,h3⟩;unfold HpS.at_;rw [if_pos];exact ⟨by rw [hv.kind];exact hk,by rw [hr];exact hh,h1,h2,by rw [h3.1,hv.kind]⟩
theorem dB (hH:HTy Ψ h)(hv:VT Ψ v t)(hk:t.kind=3)(hh:h.has t.r=true){i:Int}(h0:0≤i)(hu:t.l[i.toNat]?=some u):(h.get v i).2=0∧VT Ψ (h.get v i).1 u:=by
 obtain ⟨h1,h2,h3,h4,h5⟩:=fX hH hv (.inl hk) hh;obtain ⟨y,h6,h7⟩:=(h5.2.1 hk).get hu;have h8:=(EJ.1 h6).1;unfold HpS.get;rw [h1];dsimp only;rw [if_pos ⟨h0,Jo⟩];refine ⟨rfl,?_⟩;dsimp only;rw [EL,h6];exact h7
theorem Y5 (hH:HTy Ψ h)(hv:VT Ψ v t)(hk:t.kind=4)(hh:h.has t.r=true)(i:Int):(h.get v i).2=1∨((h.get v i).2=0∧(h.get v i).1.kind=1):=by
 obtain ⟨h1,h2,h3,h4,h5⟩:=fX hH hv (.inr hk) hh;unfold HpS.get;rw [h1];dsimp only;by_cases hi:0≤i∧i<(h.thg v.region.toNat v.thing.toNat).l.length
 · rw [if_pos hi];refine .inr ⟨rfl,?_⟩;have h6:(h.thg v.region.toNat v.thing.toNat).l[i.toNat]?=some (h.thg v.region.toNat v.thing.toNat).l[i.toNat]:=EH Jo;dsimp only;rw [EL,h6];exact (h5.2.2 hk).2 _ (EI h6)
 · rw [if_neg hi];exact .inl rfl
theorem dC (hH:HTy Ψ h)(hv:VT Ψ v t)(hk:t.kind=4)(hh:h.has t.r=true):(h.len v).2=0:=by
 obtain ⟨h1,_⟩:=fX hH hv (.inr hk) hh;unfold HpS.len;rw [h1]
theorem VJ (hH:HTy Ψ h):HTy Ψ h.open:=by
 by_cases hf:h.full=true
 · have e:h.open=h:=(by unfold HpS.open;rw [if_pos hf]);rw [e];exact hH
 · have e:h.open=⟨h.l++[⟨true,[],0,0⟩],h.left⟩:=by unfold HpS.open;rw [if_neg hf]
   rw [e];refine ⟨fun k j t hp=>?_,fun k j t hp hh=>?_⟩
   · obtain ⟨h1,h2,h3⟩:=hH.dom k j t hp;exact ⟨h1,by rw [EM];simp only [ET,Ff];omega,h3⟩
   · obtain ⟨h1,h2,h3⟩:=hH.dom k j t hp;have hr:(⟨h.l++[⟨true,[],0,0⟩],h.left⟩:HpS).reg k=h.reg k:=(by rw [lM,if_neg Jo]);have hr2:(⟨h.l++[⟨true,[],0,0⟩],h.left⟩:HpS).reg (k.toNat:Int)=h.reg (k.toNat:Int):=(by rw [lM,if_neg Jo]);have hh2:h.has k=true:=(by unfold HpS.has at hh ⊢;rw [hr] at hh;exact hh);obtain ⟨h4,h5,h6⟩:=hH.here k j t hp hh2;refine ⟨h4,by rw [hr];exact h5,?_⟩;unfold HpS.thg at h6 ⊢;rw [hr2];exact h6
theorem VK (hH:HTy Ψ h):HTy Ψ (h.shut v):=by
 cases hc:h.can v with
 | false => have e:h.shut v=h:=by unfold HpS.shut;rw [hc];rfl
            rw [e];exact hH
 | true=>
   have e:h.shut v=⟨h.l.set v.region.toNat Rgn.none,h.left+(h.reg v.region).pages⟩:=(by unfold HpS.shut;rw [hc];rfl);unfold HpS.can at hc;rw [EW] at hc;obtain ⟨g0,g1,g2,g3⟩:=RZ hc.2;rw [e];refine ⟨fun k j t hp=>?_,fun k j t hp hh=>?_⟩
   · obtain ⟨h1,h2,h3⟩:=hH.dom k j t hp;exact ⟨h1,by rw [Fe];exact h2,h3⟩
   · obtain ⟨h1,h2,h3⟩:=hH.dom k j t hp
     have hr:∀q:Int,q≠v.region→(⟨h.l.set v.region.toNat Rgn.none,h.left+(h.reg v.region).pages⟩:HpS).reg q=h.reg q:=fun q hq=>by
      rw [reg_set (left':=h.left) Jo,if_neg Jo]
     have hne:k≠v.region:=fun hk=>by
      unfold HpS.has at hh;rw [reg_set (left':=h.left) Jo,if_pos Jo] at hh;cases hh
     have hh2:h.has k=true:=(by unfold HpS.has at hh ⊢;rw [hr k hne] at hh;exact hh);obtain ⟨h4,h5,h6⟩:=hH.here k j t hp hh2;refine ⟨h4,by rw [hr k hne];exact h5,?_⟩;unfold HpS.thg at h6 ⊢;rw [hr _ Jo];exact h6
def Ry (Ψ:La)(a b:Int)(t:Ty):La:=fun k j=>if k=a∧j=b then some t else Ψ k j
theorem QhH (hH:HTy Ψ h)(hh:h.has k=true):VH Ψ (Ry Ψ k (h.reg k).l.length t):=by
 intro a b u hp;unfold Ry;by_cases hab:a=k∧b=(h.reg k).l.length
 · obtain ⟨rfl,rfl⟩:=hab;have:=(hH.here _ _ _ hp hh).2.1;omega
 · rw [if_neg hab];exact hp
theorem QiJ {n:Int}(hc:h.code v n=0):h.can v=true∧h.has v.region=true:=by
 unfold HpS.code at hc
 cases hx:h.can v with
 | false=>rw [hx] at hc;cases hc
 | true=>
   refine ⟨rfl,?_⟩;unfold HpS.can at hx;rw [EW] at hx;exact hx.2
theorem R0 (hv:VT Ψ v t)(hk:t.kind=2)(hh:h.has t.r=true)(n:Int):h.code v n=0∨h.code v n=14:=by
 unfold HpS.code;rw [VI hv hk hh];rw [if_neg Jd];split
 · exact .inr rfl
 · exact .inl rfl
theorem u6 {n:Int}{x:Thg}(hH:HTy Ψ h)(hc:h.code v n=0)(hr:t.r=v.region)(hk:t.kind=3∨t.kind=4)(hx:M7 Ψ x t):
 HTy (Ry Ψ v.region (h.reg v.region).l.length t) (h.put v n x)∧VH Ψ (Ry Ψ v.region (h.reg v.region).l.length t)∧(∀q,(h.put v n x).has q=h.has q)∧VT (Ry Ψ v.region (h.reg v.region).l.length t) (h.putV v t.kind n) t:=by
 obtain ⟨_,hh⟩:=QiJ hc;obtain ⟨g0,g1,g2,g3⟩:=RZ hh;have hE:=QhH (t:=t) hH hh;have e:h.put v n x=⟨h.l.set v.region.toNat (((h.reg v.region).room n).push x),if (h.reg v.region).more n then h.left - 1 else h.left⟩:=by unfold HpS.put;rw [if_pos hc]
 have hrl:(((h.reg v.region).room n).push x).l=(h.reg v.region).l++[x]∧(((h.reg v.region).room n).push x).there=true:=by
  unfold Rgn.room Rgn.push;split<;>exact ⟨rfl,g3⟩
 have hreg:∀q:Int,(h.put v n x).reg q=if q=v.region then ((h.reg v.region).room n).push x else h.reg q:=fun q=>by
  rw [e,reg_set (left':=h.left) Jo,show ((v.region.toNat:Nat):Int)=v.region by omega]
 have hhas:∀q,(h.put v n x).has q=h.has q:=fun q=>by
  unfold HpS.has;rw [hreg];by_cases hq:q=v.region
  · rw [if_pos hq,hq,hrl.2,g3]
  · rw [if_neg hq]
 refine ⟨⟨fun k j u hp=>?_,fun k j u hp hk2=>?_⟩,hE,hhas,?_⟩
 · unfold Ry at hp
   rw [show (h.put v n x).l.length=h.l.length by rw [e,Fe]];by_cases hab:k=v.region∧j=(h.reg v.region).l.length
   · rw [if_pos hab] at hp;cases hp;exact ⟨Jo,Jo,Jo,hk⟩
   · rw [if_neg hab] at hp;exact hH.dom k j u hp
 · rw [hhas] at hk2
   unfold Ry at hp;by_cases hab:k=v.region∧j=(h.reg v.region).l.length
   · rw [if_pos hab] at hp;cases hp;obtain ⟨rfl,rfl⟩:=hab;refine ⟨Jo,by rw [hreg,if_pos rfl,hrl.1,EM];simp only [ET,Ff];omega,?_⟩;unfold HpS.thg;rw [hreg,if_pos Jo,hrl.1,E5,EL,EV (E7 _),Gl];exact hx.ext hE
   · rw [if_neg hab] at hp
     obtain ⟨h1,h2,h3⟩:=hH.here k j u hp hk2;obtain ⟨d1,d2,d3⟩:=hH.dom k j u hp;by_cases hq:k=v.region
     · subst hq;refine ⟨h1,by rw [hreg,if_pos rfl,hrl.1,EM];omega,?_⟩;unfold HpS.thg at h3 ⊢;rw [hreg,if_pos Jo,hrl.1,EL,ER Jo,←EL];rw [show ((v.region.toNat:Nat):Int)=v.region by omega] at h3;exact h3.ext hE
     · refine ⟨h1,by rw [hreg,if_neg hq];exact h2,?_⟩;unfold HpS.thg at h3 ⊢;rw [hreg,if_neg Jo];exact h3.ext hE
 · have ep:h.putV v t.kind n=⟨t.kind,v.region,(h.reg v.region).l.length,0⟩:=(by unfold HpS.putV;rw [if_pos hc]);rw [ep];exact ⟨rfl,fun _=>hr.symm,fun _=>if_pos ⟨rfl,rfl⟩⟩
theorem u7 {i:Int}{y:Val}(hH:HTy Ψ h)(hv:VT Ψ v t)(hk:t.kind=3∨t.kind=4)(hh:h.has t.r=true)(hy3:t.kind=3→∀u,t.l[i.toNat]?=some u→VT Ψ y u)(hy4:t.kind=4→y.kind=1):
 HTy Ψ (h.set v i y)∧(∀q,(h.set v i y).has q=h.has q):=by
 obtain ⟨h1,h2,h3,h4,h5⟩:=fX hH hv hk hh;unfold HpS.set;rw [h1];dsimp only;split
 · rename_i hc
   obtain ⟨g0,g1,g2,g3⟩:=RZ hh;rw [←h2] at g0 g1 g2 g3 hh h4
   have hin:0≤i∧i<(h.thg v.region.toNat v.thing.toNat).l.length:=by
    unfold HpS.setC at hc;rw [h1] at hc;dsimp only at hc;split at hc
    · cases hc
    · split at hc
      · assumption
      · cases hc
   have hrr:h.reg ((v.region.toNat:Nat):Int)=h.reg v.region:=by rw [show ((v.region.toNat:Nat):Int)=v.region by omega]
   have hreg:∀q:Int,(⟨h.l.set v.region.toNat ((h.reg v.region.toNat).upd v.thing.toNat ((h.thg v.region.toNat v.thing.toNat).upd i.toNat y)),h.left⟩:HpS).reg q=if q=v.region then (h.reg v.region).upd v.thing.toNat ((h.thg v.region.toNat v.thing.toNat).upd i.toNat y) else h.reg q:=fun q=>by
    rw [reg_set (left':=h.left) Jo,hrr,show ((v.region.toNat:Nat):Int)=v.region by omega]
   have hhas:∀q,(⟨h.l.set v.region.toNat ((h.reg v.region.toNat).upd v.thing.toNat ((h.thg v.region.toNat v.thing.toNat).upd i.toNat y)),h.left⟩:HpS).has q=h.has q:=fun q=>by
    unfold HpS.has;rw [hreg];by_cases hq:q=v.region
    · rw [if_pos hq,hq];rfl
    · rw [if_neg hq]
   have hlen:(⟨h.l.set v.region.toNat ((h.reg v.region.toNat).upd v.thing.toNat ((h.thg v.region.toNat v.thing.toNat).upd i.toNat y)),h.left⟩:HpS).l.length=h.l.length:=Fe;generalize (⟨h.l.set v.region.toNat ((h.reg v.region.toNat).upd v.thing.toNat ((h.thg v.region.toNat v.thing.toNat).upd i.toNat y)),h.left⟩:HpS)=H at hreg hhas hlen ⊢;refine ⟨⟨fun k j u hp=>?_,fun k j u hp hk2=>?_⟩,hhas⟩
   · obtain ⟨d1,d2,d3⟩:=hH.dom k j u hp;exact ⟨d1,by rw [hlen];exact d2,d3⟩
   · rw [hhas] at hk2
     obtain ⟨e1,e2,e3⟩:=hH.here k j u hp hk2;obtain ⟨d1,d2,d3⟩:=hH.dom k j u hp;by_cases hq:k=v.region
     · subst hq
       refine ⟨e1,by rw [hreg,if_pos rfl];show j<((h.reg v.region).l.set _ _).length;rw [Fe];exact e2,?_⟩;unfold HpS.thg;rw [hreg,if_pos Jo];show M7 Ψ (((h.reg v.region).l.set v.thing.toNat _).getD j.toNat _) u;rw [EL,FD];by_cases hj:v.thing.toNat=j.toNat
       · rw [if_pos hj,if_pos Jo]
         have hjv:j=v.thing:=Dc;subst hjv;have hu:u=t:=(by have:=hv.thing hk;rw [hp] at this;cases this;rfl);subst hu;refine ⟨h5.1,fun h3'=>?_,fun h4'=>?_⟩
         · show Md Ψ ((h.thg v.region.toNat v.thing.toNat).l.set i.toNat y) u.l;have h6:=h5.2.1 h3';have h0':i.toNat<u.l.length:=(by rw [←h6.1];omega);have h7:u.l[i.toNat]?=some u.l[i.toNat]:=EH h0';exact h6.set h7 (hy3 h3' _ h7)
         · refine ⟨by show ((h.thg v.region.toNat v.thing.toNat).l.set i.toNat y).length≤15;rw [Fe];exact (h5.2.2 h4').1,fun z hz=>?_⟩
           rcases K8 hz with rfl|hz
           · exact hy4 h4'
           · exact (h5.2.2 h4').2 z hz
       · rw [if_neg hj];unfold HpS.thg at e3;rw [hrr,EL] at e3;exact e3
     · refine ⟨e1,by rw [hreg,if_neg hq];exact e2,?_⟩;unfold HpS.thg at e3 ⊢;rw [hreg,if_neg Jo];exact e3
 · exact ⟨hH,fun _=>rfl⟩
theorem Y6 (hH:HTy Ψ h)(hv:VT Ψ v t)(hk:t.kind=3)(hh:h.has t.r=true){i:Int}(h0:0≤i)(hu:t.l[i.toNat]?=some u)(y:Val):h.setC v i y=0:=by
 obtain ⟨h1,h2,h3,h4,h5⟩:=fX hH hv (.inl hk) hh;obtain ⟨z,h6,h7⟩:=(h5.2.1 hk).get hu;have h8:=(EJ.1 h6).1;unfold HpS.setC;rw [h1];dsimp only;rw [if_neg (by rw [h5.1,hk];simp),if_pos ⟨h0,Jo⟩]
theorem VL (hH:HTy Ψ h)(hv:VT Ψ v t)(hk:t.kind=4)(hh:h.has t.r=true)(i:Int){y:Val}(hy:y.kind=1):h.setC v i y=0∨h.setC v i y=1:=by
 obtain ⟨h1,h2,h3,h4,h5⟩:=fX hH hv (.inr hk) hh;unfold HpS.setC;rw [h1];dsimp only;rw [if_neg (by rw [hy];simp)];split
 · exact .inl rfl
 · exact .inr rfl
end
end
end Go.Lir
