/- Lemmas of the proof, part 5: what the functions of the program do (contracts), and what follows. -/
import Derived.Test.YteflkifmgnpbhaaGreatZ2
import Derived.Test.YteflkifmgnpbhaaGreatZ4
import Derived.Test.YteflkifmgnpbhaaGreatZ3
namespace Go.Proofs.YteflkifmgnpbhaaGreat
open Go.Lir
set_option maxHeartbeats 1000000
attribute [local irreducible] LC.wp Q0 QB QH retQ Q1k LO.wp Qh Calls
set_option linter.unusedSimpArgs false
set_option linter.unusedVariables false
theorem Q7M {x y:Block}{cx:Cx}{w:World}{L:List Res}{cs ds:List Value}(hx:blockR.at cx cs x) (hy:blockR.at cx ds y) (hS:St cx w L):Rets Tryz.prog QaG [.agg ⟨cs⟩, .agg ⟨ds⟩] w fun u w'=>u= .bool (decide (x=y))∧St cx w' L:=by
 obtain ⟨vp,vc,v1,v2,v3,v4,v5,rfl,hp,hc0,h1,h2,h3,h4,h5⟩:=QC hx
 obtain ⟨up,uc,u1,u2,u3,u4,u5,rfl,gp,gc,g1,g2,g3,g4,g5⟩:=QC hy
 have hlen:=hc0.len
 obtain ⟨xr,xp,xc,⟨xo,xa,xy,xn,xg⟩⟩:=x
 obtain ⟨yr,yp,yc,⟨yo,ya,yy,yn,yg⟩⟩:=y
 simp only [Block.mk.injEq,Tail.mk.injEq] at*
 refine lgo tyD Tryz.func77 ?_;refine Zaw ?_;intro p2 w1 hS;refine zb hS ?_;intro p3 w1 hS;refine Zab ?_
 refine zML hS [2,3] (fun A LL ρ' w'=>Has ρ' A∧Has ρ' []∧(xr=yr)∧(xp=yp)∧(xc.length=yc.length)∧St cx w' (LL)) ?_ ?_
 · skip
   refine Zao ?_;refine Zad ?_;first|(refine Qy ?_)|(refine Qz ?_)|(refine Qa rfl rfl (fun hc=>?_) (fun hc=>?_))
   all_goals (refine Zbp ?_;(first|(refine zgn ?_)|(refine zgy ?_;refine zR2 (c:=Q4a hp gp hS) (h:=?_);rintro v1 w1 ⟨rfl,hS⟩;(cases hdec:decide (xp=yp));have hg:=of_decide_eq_false hdec;rotate_left;have hg:=of_decide_eq_true hdec;all_goals skip)))
   all_goals (refine Yal ?_;refine Yad ?_;refine ZbI ?_;refine Zak ?_;refine Yai ?_;first|refine zgn ?_|(refine zgy ?_;(first|(refine Qy ?_)|(refine Qz ?_)|(refine Qa rfl rfl (fun hc=>?_) (fun hc=>?_)))))
   all_goals (refine ZaK ?_)
   all_goals
    first
    | (refine zct ?_
       all_goals (refine Zas ?_)
       all_goals (refine ⟨_,rfl,?_,hS.sp⟩;(rw [decide_eq_false];rintro ⟨e1,e2,e3,_⟩;have:=congrArg List.length e3;first|omega|(simp_all;done));done))
    | (refine zcf ?_
       refine zsk ?_)
   ((exact ⟨zh,zh,by omega,by assumption,by omega,hS.sp⟩))
 rintro ρ w1 ⟨hA,hρ,hr,hpp,hll,hS⟩;obtain ⟨ρ,rfl⟩:=env2 hA hρ
 refine ZaI ?_
 refine zoL hS [2,3] (fun A LL ρ' w'=>∃(j:Nat),Has ρ' A∧Has ρ' [(5, .int .i64 j)]∧(j≤xc.length)∧(xc=yc↔xc.drop j=yc.drop j)∧St cx w' (LL)) (fun ρ' _=>(xc.length - iv (ρ' 5)).toNat) ?_ ?_
 · exact ⟨0,zh,zh,(by omega),by simp,hS.sp⟩
 rintro ρ w1 ⟨j,hA,hρ,hj,hd,hS⟩;obtain ⟨ρ,rfl⟩:=env2 hA hρ
 refine Zbl ?_
 refine Q5 rfl (fun hc=>?_) (fun hc=>?_)
 · skip
   refine Zbq ?_;refine zD (ci 12 [10,11]) ?_;have hS:=hS.drew;refine Zad ?_;refine ZaX ?_;intro b1 o1 cs1 x1 hat1 hx1 he1;obtain ⟨vr1,va1,rfl,hr1,ha1⟩:=QG he1;refine Yaf ?_;refine Zad ?_;refine ZaX ?_;intro b2 o2 cs2 x2 hat2 hx2 he2;obtain ⟨vr2,va2,rfl,hr2,ha2⟩:=QG he2;refine Yaf ?_;refine zR2 (c:=QbL he1 he2 hS) (h:=?_);rintro v1 w1 ⟨rfl,hS⟩;(cases hdec:decide (x1=x2));have hg:=of_decide_eq_false hdec;rotate_left;have hg:=of_decide_eq_true hdec;all_goals skip
   all_goals (refine Zbo ?_)
   all_goals
    first
    | (refine zct ?_
       refine Zas ?_
       ((refine ⟨_,rfl,?_,hS.sp⟩;(rw [decide_eq_false];rintro ⟨e1,e2,e3,_⟩;have:=congrArg List.length e3;first|omega|(simp_all;done));done)))
    | (refine zcf ?_
       refine zsk ?_)
   refine Zax ?_;(exact ⟨⟨j+1,zh,zh,(by omega),by rw [hd,Q1 hx1,Q1 hx2,hg];simp,hS.sp⟩,Q4 (by omega)⟩)
 · skip
   refine zex ?_;refine Zaa ?_;refine ZbF ?_;refine zl hS ?_;refine ZbF ?_;refine zl hS ?_;first|(refine Qp ?_)|(refine Qu ?_)|(refine Q7 rfl rfl (fun hc=>?_) (fun hc=>?_))
   all_goals (refine zm ?_;refine Zcl ?_;refine Zcl ?_;first|refine zgn ?_|(refine zgy ?_;(first|(refine Qp ?_)|(refine Qu ?_)|(refine Q7 rfl rfl (fun hc=>?_) (fun hc=>?_)))))
   all_goals (refine Yad ?_;refine zm ?_;refine ZbD ?_;refine Yaq ?_;refine ZbD ?_;refine Yaq ?_;(first|(refine zgn ?_)|(refine zgy ?_;refine zR2 (c:=Q8W (x:=xy) (y:=yy) ⟨_,_,rfl,h1,h2⟩ ⟨_,_,rfl,g1,g2⟩ hS) (h:=?_);rintro v1 w1 ⟨rfl,hS⟩;(cases hdec:decide (xy=yy));have hg:=of_decide_eq_false hdec;rotate_left;have hg:=of_decide_eq_true hdec;all_goals skip)))
   all_goals (refine Yad ?_;refine zm ?_;refine ZbD ?_;refine Yaq ?_;refine ZbD ?_;refine Yaq ?_;(first|(refine zgn ?_)|(refine zgy ?_;refine zR2 (c:=Q8W (x:=xn) (y:=yn) ⟨_,_,rfl,h3,h4⟩ ⟨_,_,rfl,g3,g4⟩ hS) (h:=?_);rintro v1 w1 ⟨rfl,hS⟩;(cases hdec:decide (xn=yn));have hg:=of_decide_eq_false hdec;rotate_left;have hg:=of_decide_eq_true hdec;all_goals skip)))
   all_goals (refine Yad ?_;refine zm ?_;refine Zcl ?_;refine Zcl ?_;(first|(refine zgn ?_)|(refine zgy ?_;refine zR2 (c:=Q6C h5 g5 hS) (h:=?_);rintro v1 w1 ⟨rfl,hS⟩));refine Yad ?_;refine ZaB ?_;(first|(refine ⟨_,rfl,?_,hS.sp⟩;(rw [decide_eq_false];rintro ⟨e1,e2,e3,_⟩;have:=congrArg List.length e3;first|omega|(simp_all;done));done)|(refine ⟨_,rfl,?_,hS.sp⟩;rw [decide_eq_false];rintro ⟨e1,e2,e3,_⟩;rw [hd,Q1 hx1,Q1 hx2,List.cons.injEq] at e3;exact hg e3.1;done)|(refine ⟨_,rfl,?_,hS.sp⟩;have hcc:xc=yc:=(by rw [hd,List.drop_of_length_le (by omega),List.drop_of_length_le (by omega)]);simp [*];done)))
theorem Q5m {x y:Module}{cx:Cx}{w:World}{L:List Res}{cs ds:List Value}(hx:modR.at cx cs x) (hy:modR.at cx ds y) (hS:St cx w L):Rets Tryz.prog Q9K [.agg ⟨cs⟩, .agg ⟨ds⟩] w fun u w'=>u= .bool (decide (x=y))∧St cx w' L:=by
 obtain ⟨vf,rfl,hl⟩:=QP hx
 obtain ⟨uf,rfl,hm⟩:=QP hy
 obtain ⟨l⟩:=x
 obtain ⟨m⟩:=y
 have hlen:=hl.len
 simp only [Module.mk.injEq] at*
 refine lgo tyD Tryz.func30 ?_;refine Zaw ?_;intro p2 w1 hS;refine zb hS ?_;intro p3 w1 hS;refine Zab ?_;refine ZaJ ?_;refine zL ?_;refine Zad ?_;refine zL ?_;first|(refine Qy ?_)|(refine Qz ?_)|(refine Qa rfl rfl (fun hc=>?_) (fun hc=>?_))
 all_goals (refine zn ?_)
 all_goals
  first
  | (refine zct ?_
     refine Zas ?_
     ((refine ⟨_,rfl,?_,hS.sp⟩;(rw [decide_eq_false];exact fun e=>absurd (congrArg List.length e) (by omega));done)))
  | (refine zcf ?_
     refine zsk ?_)
 refine ZaI ?_
 refine zoL hS [2,3] (fun A LL ρ' w'=>∃(j:Nat),Has ρ' A∧Has ρ' [(5, .int .i64 j)]∧(j≤l.length)∧(l.length=m.length)∧(l=m↔l.drop j=m.drop j)∧St cx w' (LL)) (fun ρ' _=>(l.length - iv (ρ' 5)).toNat) ?_ ?_
 · exact ⟨0,zh,zh,(by omega),(by omega),by simp,hS.sp⟩
 rintro ρ w1 ⟨j,hA,hρ,hj,hlm,hd,hS⟩;obtain ⟨ρ,rfl⟩:=env2 hA hρ
 refine Zbl ?_
 refine Q5 rfl (fun hc=>?_) (fun hc=>?_)
 · skip
   refine Zbq ?_
   refine Q1F 10 11 (by kernel_rfl) ?_ ?_
   · skip
     refine zC [(0,none),(1,none),(2,none),(3,none),(4,none),(5,none),(6,none),(7,none),(8,none),(9,none),(10,some (some [1,4,6,9])),(11,some (some [1,4,6,9])),(12,some (some [6,9])),(13,some none)] ?_;have hS:=hS.drew;refine ZaR ?_;refine Zaz ?_;refine zi ?_;intro b1 o1 cs1 x1 hat1 hx1 he1;obtain ⟨vp1,vr1,vb1,rfl,hp1,hr1,hb1⟩:=Qo he1;refine Zcg ?_;refine Zcc ?_;refine Zaz ?_;refine zi ?_;intro b2 o2 cs2 x2 hat2 hx2 he2;obtain ⟨vp2,vr2,vb2,rfl,hp2,hr2,hb2⟩:=Qo he2;refine Zcg ?_;refine ZaO ?_;intro p6 w1 hS;refine ZaH ?_;refine Qb hS ?_;intro p7 w1 hS;refine ZaH ?_;refine zsn hS ?_;intro w1 hS;have hS:=hS.ns;refine ZaZ ?_;refine zsn hS ?_;intro w1 hS;have hS:=hS.ns;refine ZaA ?_;refine ZaJ ?_;refine Zad ?_;first|(refine Qy ?_)|(refine Qz ?_)|(refine Qa rfl rfl (fun hc=>?_) (fun hc=>?_))
     all_goals (refine Zbp ?_;(first|(refine zgn ?_)|(refine zgy ?_;refine zR2 (c:=Q4a (l:=x1.params) (m:=x2.params) hp1 hp2 hS) (h:=?_);rintro v1 w1 ⟨rfl,hS⟩;(cases hdec:decide (x1.params=x2.params));have hg:=of_decide_eq_false hdec;rotate_left;have hg:=of_decide_eq_true hdec;all_goals skip)))
     all_goals (refine Yal ?_;refine Zcp ?_;(first|(refine zgn ?_)|(refine zgy ?_;refine zR2 (c:=Q4a (l:=x1.results) (m:=x2.results) hr1 hr2 hS) (h:=?_);rintro v1 w1 ⟨rfl,hS⟩;(cases hdec:decide (x1.results=x2.results));have hg:=of_decide_eq_false hdec;rotate_left;have hg:=of_decide_eq_true hdec;all_goals skip)))
     all_goals (refine Yal ?_;refine Yad ?_;refine ZbI ?_;refine Zak ?_;refine Yai ?_;first|refine zgn ?_|(refine zgy ?_;(first|(refine Qy ?_)|(refine Qz ?_)|(refine Qa rfl rfl (fun hc=>?_) (fun hc=>?_)))))
     all_goals (refine ZaK ?_)
     all_goals
      first
      | (refine zct ?_
         all_goals (refine Zas ?_)
         all_goals (first|(refine ⟨_,rfl,?_,hS.sp⟩;rw [decide_eq_false];exact fun e=>absurd (congrArg List.length e) (by omega);done)|(refine ⟨_,rfl,?_,hS.sp⟩;(rw [decide_eq_false];rw [hd,Q1 hx1,Q1 hx2,List.cons.injEq];rintro ⟨rfl,_⟩;first|(simp_all;done)|(simp at*;omega));done)))
      | (refine zcf ?_
         refine zsk ?_)
     refine QJ ?_;have hlb:=hb1.len;refine Zck ?_
     refine zoL hS [2,3,5,6,7] (fun A LL ρ' w'=>∃(i:Nat),Has ρ' A∧Has ρ' [(8, .int .i64 i)]∧(i≤x1.blocks.length)∧(x1.blocks.length=x2.blocks.length)∧(x1.regs=x2.regs)∧(x1.params=x2.params)∧(x1.results=x2.results)∧(x1.blocks=x2.blocks↔x1.blocks.drop i=x2.blocks.drop i)∧St cx w' (LL)) (fun ρ' _=>(x1.blocks.length - iv (ρ' 8)).toNat) ?_ ?_
     · exact ⟨0,zh,zh,(by omega),(by omega),(by omega),by assumption,by assumption,by simp,hS.sp⟩
     rintro ρ w1 ⟨i,hA,hρ,hi,hlb2,hre,hpe,hrr,hd2,hS⟩;obtain ⟨ρ,rfl⟩:=env2 hA hρ
     refine Zbl ?_
     refine Q5 rfl (fun hc=>?_) (fun hc=>?_)
     · skip
       refine Zbq ?_;refine zD (ci 12 [10,11]) ?_;have hS:=hS.drew;refine Zad ?_;refine ZaX ?_;intro b3 o3 cs3 x3 hat3 hx3 he3;obtain ⟨vp3,vc3,ve31,ve32,ve33,ve34,ve35,rfl,hp3,hc3,he31,he32,he33,he34,he35⟩:=QC he3;refine Yaf ?_;refine Zad ?_;refine ZaX ?_;intro b4 o4 cs4 x4 hat4 hx4 he4;obtain ⟨vp4,vc4,ve41,ve42,ve43,ve44,ve45,rfl,hp4,hc4,he41,he42,he43,he44,he45⟩:=QC he4;refine Yaf ?_;refine zR2 (c:=Q7M he3 he4 hS) (h:=?_);rintro v1 w1 ⟨rfl,hS⟩;(cases hdec:decide (x3=x4));have hg:=of_decide_eq_false hdec;rotate_left;have hg:=of_decide_eq_true hdec;all_goals skip
       all_goals (refine Zbo ?_)
       all_goals
        first
        | (refine zct ?_
           refine Zas ?_
           first|(refine ⟨_,rfl,?_,hS.sp⟩;rw [decide_eq_false];exact fun e=>absurd (congrArg List.length e) (by omega);done)|(refine ⟨_,rfl,?_,hS.sp⟩;(rw [decide_eq_false];rw [hd,Q1 hx1,Q1 hx2,List.cons.injEq];rintro ⟨rfl,_⟩;first|(simp_all;done)|(simp at*;omega));done))
        | (refine zcf ?_
           refine zsk ?_)
       refine Zax ?_;(exact ⟨⟨i+1,zh,zh,(by omega),(by omega),(by omega),by assumption,by assumption,by rw [hd2,Q1 hx3,Q1 hx4,hg];simp,hS.sp⟩,Q4 (by omega)⟩)
     · skip
       refine Zca ?_;(exact ⟨⟨j+1,zh,zh,(by omega),(by omega),by rw [hd,Q1 hx1,Q1 hx2,Fun.eq_of hre hpe hrr (by rw [hd2,List.drop_of_length_le (by omega),List.drop_of_length_le (by omega)])];simp,hS.sp⟩,Q4 (by omega)⟩)
   · skip
     refine zC [(0,none),(1,none),(2,none),(3,none),(4,none),(5,none),(6,none),(7,none),(8,none),(9,none),(11,some (some [1,4,6,9])),(10,some (some [1,4,6,9])),(12,some (some [6,9])),(13,some none)] ?_;have hS:=hS.drew;refine ZaR ?_;refine Zaz ?_;refine zi ?_;intro b1 o1 cs1 x1 hat1 hx1 he1;obtain ⟨vp1,vr1,vb1,rfl,hp1,hr1,hb1⟩:=Qo he1;refine Zcg ?_;refine Zcc ?_;refine Zaz ?_;refine zi ?_;intro b2 o2 cs2 x2 hat2 hx2 he2;obtain ⟨vp2,vr2,vb2,rfl,hp2,hr2,hb2⟩:=Qo he2;refine Zcg ?_;refine ZaO ?_;intro p7 w1 hS;refine ZaH ?_;refine Qb hS ?_;intro p6 w1 hS;refine ZaH ?_;refine zsn hS ?_;intro w1 hS;have hS:=hS.ns;refine ZaZ ?_;refine zsn hS ?_;intro w1 hS;have hS:=hS.ns;refine ZaA ?_;refine ZaJ ?_;refine Zad ?_;first|(refine Qy ?_)|(refine Qz ?_)|(refine Qa rfl rfl (fun hc=>?_) (fun hc=>?_))
     all_goals (refine Zbp ?_;(first|(refine zgn ?_)|(refine zgy ?_;refine zR2 (c:=Q4a (l:=x1.params) (m:=x2.params) hp1 hp2 hS) (h:=?_);rintro v1 w1 ⟨rfl,hS⟩;(cases hdec:decide (x1.params=x2.params));have hg:=of_decide_eq_false hdec;rotate_left;have hg:=of_decide_eq_true hdec;all_goals skip)))
     all_goals (refine Yal ?_;refine Zcp ?_;(first|(refine zgn ?_)|(refine zgy ?_;refine zR2 (c:=Q4a (l:=x1.results) (m:=x2.results) hr1 hr2 hS) (h:=?_);rintro v1 w1 ⟨rfl,hS⟩;(cases hdec:decide (x1.results=x2.results));have hg:=of_decide_eq_false hdec;rotate_left;have hg:=of_decide_eq_true hdec;all_goals skip)))
     all_goals (refine Yal ?_;refine Yad ?_;refine ZbI ?_;refine Zak ?_;refine Yai ?_;first|refine zgn ?_|(refine zgy ?_;(first|(refine Qy ?_)|(refine Qz ?_)|(refine Qa rfl rfl (fun hc=>?_) (fun hc=>?_)))))
     all_goals (refine ZaK ?_)
     all_goals
      first
      | (refine zct ?_
         all_goals (refine Zas ?_)
         all_goals (first|(refine ⟨_,rfl,?_,hS.sp⟩;rw [decide_eq_false];exact fun e=>absurd (congrArg List.length e) (by omega);done)|(refine ⟨_,rfl,?_,hS.sp⟩;(rw [decide_eq_false];rw [hd,Q1 hx1,Q1 hx2,List.cons.injEq];rintro ⟨rfl,_⟩;first|(simp_all;done)|(simp at*;omega));done)))
      | (refine zcf ?_
         refine zsk ?_)
     refine QJ ?_;have hlb:=hb1.len;refine Zck ?_
     refine zoL hS [2,3,5,6,7] (fun A LL ρ' w'=>∃(i:Nat),Has ρ' A∧Has ρ' [(8, .int .i64 i)]∧(i≤x1.blocks.length)∧(x1.blocks.length=x2.blocks.length)∧(x1.regs=x2.regs)∧(x1.params=x2.params)∧(x1.results=x2.results)∧(x1.blocks=x2.blocks↔x1.blocks.drop i=x2.blocks.drop i)∧St cx w' (LL)) (fun ρ' _=>(x1.blocks.length - iv (ρ' 8)).toNat) ?_ ?_
     · exact ⟨0,zh,zh,(by omega),(by omega),(by omega),by assumption,by assumption,by simp,hS.sp⟩
     rintro ρ w1 ⟨i,hA,hρ,hi,hlb2,hre,hpe,hrr,hd2,hS⟩;obtain ⟨ρ,rfl⟩:=env2 hA hρ
     refine Zbl ?_
     refine Q5 rfl (fun hc=>?_) (fun hc=>?_)
     · skip
       refine Zbq ?_;refine zD (ci 12 [10,11]) ?_;have hS:=hS.drew;refine Zad ?_;refine ZaX ?_;intro b3 o3 cs3 x3 hat3 hx3 he3;obtain ⟨vp3,vc3,ve31,ve32,ve33,ve34,ve35,rfl,hp3,hc3,he31,he32,he33,he34,he35⟩:=QC he3;refine Yaf ?_;refine Zad ?_;refine ZaX ?_;intro b4 o4 cs4 x4 hat4 hx4 he4;obtain ⟨vp4,vc4,ve41,ve42,ve43,ve44,ve45,rfl,hp4,hc4,he41,he42,he43,he44,he45⟩:=QC he4;refine Yaf ?_;refine zR2 (c:=Q7M he3 he4 hS) (h:=?_);rintro v1 w1 ⟨rfl,hS⟩;(cases hdec:decide (x3=x4));have hg:=of_decide_eq_false hdec;rotate_left;have hg:=of_decide_eq_true hdec;all_goals skip
       all_goals (refine Zbo ?_)
       all_goals
        first
        | (refine zct ?_
           refine Zas ?_
           first|(refine ⟨_,rfl,?_,hS.sp⟩;rw [decide_eq_false];exact fun e=>absurd (congrArg List.length e) (by omega);done)|(refine ⟨_,rfl,?_,hS.sp⟩;(rw [decide_eq_false];rw [hd,Q1 hx1,Q1 hx2,List.cons.injEq];rintro ⟨rfl,_⟩;first|(simp_all;done)|(simp at*;omega));done))
        | (refine zcf ?_
           refine zsk ?_)
       refine Zax ?_;(exact ⟨⟨i+1,zh,zh,(by omega),(by omega),(by omega),by assumption,by assumption,by rw [hd2,Q1 hx3,Q1 hx4,hg];simp,hS.sp⟩,Q4 (by omega)⟩)
     · skip
       refine Zca ?_;(exact ⟨⟨j+1,zh,zh,(by omega),(by omega),by rw [hd,Q1 hx1,Q1 hx2,Fun.eq_of hre hpe hrr (by rw [hd2,List.drop_of_length_le (by omega),List.drop_of_length_le (by omega)])];simp,hS.sp⟩,Q4 (by omega)⟩)
 · skip
   refine ZbG ?_;first|(refine ⟨_,rfl,?_,hS.sp⟩;rw [decide_eq_false];exact fun e=>absurd (congrArg List.length e) (by omega);done)|(refine ⟨_,rfl,?_,hS.sp⟩;(rw [decide_eq_false];rw [hd,Q1 hx1,Q1 hx2,List.cons.injEq];rintro ⟨rfl,_⟩;first|(simp_all;done)|(simp at*;omega));done)|(refine ⟨_,rfl,?_,hS.sp⟩;rw [decide_eq_false];rw [hd,Q1 hx1,Q1 hx2,List.cons.injEq];rintro ⟨rfl,_⟩;rw [hx3] at hx4;cases hx4;exact hg rfl;done)|(refine ⟨_,rfl,?_,hS.sp⟩;rw [decide_eq_true];rw [hd,List.drop_of_length_le (by omega),List.drop_of_length_le (by omega)];done)
end Go.Proofs.YteflkifmgnpbhaaGreat
namespace Go.Proofs.YteflkifmgnpbhaaGreat
open Go.Lir
set_option maxHeartbeats 1000000
attribute [local irreducible] LC.wp Q0 QB QH retQ Q1k LO.wp Qh Calls
set_option linter.unusedSimpArgs false
set_option linter.unusedVariables false
variable {cx:Cx}{w:World}{L:List Res}{i:Nat}
def Q6N:Block:=⟨0,[],[],⟨3,0,⟨0,[],[]⟩,⟨0,[],[]⟩,[]⟩⟩
abbrev Q5t (vc:Value):List Value:=[.int .i64 0, .slice none 0 0,vc, .int .i64 3, .int .i64 0, .int .i64 0, .slice none 0 0, .slice none 0 0, .int .i64 0, .slice none 0 0, .slice none 0 0, .slice none 0 0]
theorem flt_int2:Int2 Tryz.prog 29:=int2_of (by kernel_rfl)
theorem Qdi (hS:St cx w L):Rets Tryz.prog QdZ [] w fun u w'=>∃a b,u= .agg ⟨[.slice (some ⟨a,0,none⟩) 1 1]⟩∧St cx w' (blk a 95 [.int .i64 0, .slice none 0 0, .slice none 0 0, .slice (some ⟨b,0,none⟩) 1 1]::blk b 92 (Q5t (.slice none 0 0))::L):=by
 refine lgo tyD Tryz.func51 ?_;refine Zbz ?_;(intro p0 w1 hS);refine zn ?_;refine Zaa ?_;refine zb1 [_,_,_,_,_,_,_,_,_] ?_;refine zb1 [_,_,_,_,_,_,_,_,_,_,_,_] ?_;refine Q1G (cs:=[_,_,_,_,_,_,_,_,_,_,_,_]) vw (by rfl) ?_;intro q1 w1 hb1 hf1 _ hk1;have hS:=hS.laid hb1 hf1 hk1;refine zb1 [_,_,_,_] ?_;refine Q1G (cs:=[_,_,_,_]) vw (by rfl) ?_;intro q2 w1 hb1 hf1 _ hk1;have hS:=hS.laid hb1 hf1 hk1;refine zb1 [_] ?_;((refine zsn hS ?_;intro w1 hS;have hS:=hS.ns));refine ZaY ?_;refine QK vw (Q3 (n:=1) (by kernel_rfl) (by kernel_rfl) (hS.blkAt fd) (by rfl) (by rfl)) ?_;((exact ⟨_,rfl,q2,q1,rfl,hS.sp⟩))
end Go.Proofs.YteflkifmgnpbhaaGreat
namespace Go.Proofs.YteflkifmgnpbhaaGreat
open Go.Lir
set_option maxHeartbeats 1000000
attribute [local irreducible] LC.wp Q0 QB QH retQ Q1k LO.wp Qh Calls
set_option linter.unusedSimpArgs false
set_option linter.unusedVariables false
attribute [local irreducible] hasB Q1o Q1c Q1e Q2L upTo Module.fault jIns jEnd
variable {cx:Cx}{w:World}{L:List Res}{j:JP}{h:List Bool}{vl:Value}{css:List (List Value)}{i:Nat}{m:Module}
end Go.Proofs.YteflkifmgnpbhaaGreat
namespace Go.Lir
set_option linter.unusedVariables false
def QA {α:Type}(x:Except Int α):Int:=match x with
 | .error c=>c
 | .ok _=>0
theorem Q6l {α:Type}{x:Except Int α}(hn:NZ x) (h:QA x=0):∃a,x= .ok a:=by
 cases x with
 | error c=>exact absurd h (hn c rfl)
 | ok a=>exact ⟨a,rfl⟩
section
variable {α:Type}{x:Except Int α}{v:Value}
theorem Q1R {c:Int}{p:α→Prop}(h:x= .error c):∀a,x= .ok a→p a:=fun a ha=>by rw [h] at ha;cases ha
theorem Q13 {b:α}{p:α→Prop}(h:x= .ok b) (hp:p b):∀a,x= .ok a→p a:=fun a ha=>by rw [h] at ha;cases ha;exact hp
theorem Q46 {b:α}{p:α→Prop}(h:∀a,x= .ok a→a=b) (hp:p b):∀a,x= .ok a→p a:=fun a ha=>by rw [h a ha];exact hp
theorem cd_e {c:Int}(h:x= .error c):(Value.tuple #[v, .int .i64 c])= .tuple #[v, .int .i64 (QA x)]:=by rw [h];rfl
theorem cd_o {b:α}(h:x= .ok b):(Value.tuple #[v, .int .i64 0])= .tuple #[v, .int .i64 (QA x)]:=by rw [h];rfl
theorem cd_w {b:α}{c:Int}(h:x= .ok b) (hc:c=0):(Value.tuple #[v, .int .i64 c])= .tuple #[v, .int .i64 (QA x)]:=by rw [h,hc];rfl
theorem cd_c {c:Int}(h:QA x=c):(Value.tuple #[v, .int .i64 c])= .tuple #[v, .int .i64 (QA x)]:=by rw [h]
end
def QU (s:JS) (k kd:Int) (held:Bool):Int:=QA (if held then jat s k kd else jkind s k kd)
section
variable {s:JS}{k kd:Int}{held:Bool}{t:Ty}
theorem QaO (h:k<0∨(s.l.length:Int)≤k):QU s k kd held=1:=by
 unfold QU
 cases held
 · simp only [Bool.false_eq_true,if_false,jkind,Qf (Q3R h)];rfl
 · simp only [if_true,jat,jkind,Qf (Q3R h)];rfl
theorem Qcq (h0:0≤k) (ht:s.l[k.toNat]?=some t) (hk:t.kind≠kd):QU s k kd held=9:=by
 have h1:jkind s k kd= .error 9:=by unfold jkind;rw [Q2 (Q2W h0 ht)];exact if_pos hk
 unfold QU
 cases held
 · simp only [Bool.false_eq_true,if_false,h1];rfl
 · simp only [if_true,jat,Qf h1];rfl
theorem Qcr (h0:0≤k) (ht:s.l[k.toNat]?=some t) (hk:t.kind=kd) (hh:hasB s.h t.r=false):QU s k kd true=10:=by
 unfold QU;simp only [if_true,jat_gone h0 ht hk hh];rfl
theorem Q9f (h0:0≤k) (ht:s.l[k.toNat]?=some t) (hk:t.kind=kd):jkind s k kd= .ok t:=by
 unfold jkind;rw [Q2 (Q2W h0 ht)];exact if_neg (fun h=>h hk)
theorem jat_yes (h0:0≤k) (ht:s.l[k.toNat]?=some t) (hk:t.kind=kd) (hh:hasB s.h t.r=true):jat s k kd= .ok t:=by
 unfold jat;rw [Q2 (Q9f h0 ht hk)];exact if_neg (by rw [hh];decide)
theorem want_0 (h0:0≤k) (ht:s.l[k.toNat]?=some t) (hk:t.kind=kd) (hh:held=true→hasB s.h t.r=true):QU s k kd held=0:=by
 unfold QU
 cases held
 · simp only [Bool.false_eq_true,if_false,Q9f h0 ht hk];rfl
 · simp only [if_true,jat_yes h0 ht hk (hh rfl)];rfl
theorem want_at (h:QU s k kd true=0):∃t,jat s k kd= .ok t:=Q6l (Q71 s k kd) (by unfold QU at h;simpa using h)
theorem Qcp (h:QU s k kd false=0):∃t,jkind s k kd= .ok t:=Q6l (Q2o s k kd) (by unfold QU at h;simpa using h)
theorem Q6p (h:QU s k kd true≠0):jat s k kd= .error (QU s k kd true):=by
 unfold QU at h ⊢
 simp only [if_true] at h ⊢
 cases hj:jat s k kd with
 | error c=>rfl
 | ok a=>rw [hj] at h;exact absurd rfl h
theorem Q9P (h:QU s k kd false≠0):jkind s k kd= .error (QU s k kd false):=by
 unfold QU at h ⊢
 simp only [Bool.false_eq_true,if_false] at h ⊢
 cases hj:jkind s k kd with
 | error c=>rfl
 | ok a=>rw [hj] at h;exact absurd rfl h
end
def Q1v:List Int→Int
 | []=>0
 | x::l=>if x≠0 then x else Q1v l
def Qd4 (m:Module) (s:JS) (x:Ins):Except Int (List Ty):=match m.funcs[x.k.toNat]? with
 | none=> .error 1
 | some g=>if (x.regs.length:Int)≠g.regs then .error 2 else ebind (Q1V s.h [] x.regs) fun _=>ebind (Q3U s x.args g.params x.regs) fun _=> .ok (g.results.map (renT x.regs))
def rmk (m:Module) (f:Fun) (s:JS) (x:Ins):Except Int (List Ty):=
 if x.op=1∨x.op=12 then (.ok [number])
 else if x.op=2 then (ebind (jkind s x.a 1) fun _=>ebind (jkind s x.b 1) fun _=> .ok [number])
 else if x.op=3 then (if s.h.length=16 then .error 2 else .ok [.mk 2 s.h.length []])
 else if x.op=4 then (ebind (jat s x.a 2) fun t=>if t.r<f.regs then .error 11 else .ok [])
 else if x.op=5 then (ebind (jat s x.a 2) fun t=>ebind (jfields s x.args) fun ts=>if 4<(Ty.mk 3 t.r ts).depth 4 then .error 19 else .ok [.mk 3 t.r ts])
 else if x.op=6 then (ebind (jat s x.a 3) fun t=>ebind (Q27 t x.k) fun u=> .ok [u])
 else if x.op=7 then (ebind (jat s x.a 3) fun t=>ebind (Q27 t x.k) fun u=>ebind (jval s x.b) fun v=>if u≠v then .error 9 else .ok [])
 else if x.op=8 then (ebind (jat s x.a 2) fun t=>ebind (jkind s x.b 1) fun _=> .ok [.mk 4 t.r []])
 else if x.op=9 then (ebind (jat s x.a 4) fun _=>ebind (jkind s x.b 1) fun _=> .ok [number])
 else if x.op=10 then (ebind (jat s x.a 4) fun _=>ebind (jkind s x.b 1) fun _=>ebind (jkind s x.c 1) fun _=> .ok [])
 else if x.op=11 then (ebind (jat s x.a 4) fun _=> .ok [number])
 else if x.op=13 then (ebind (jkind s x.a 1) fun _=> .ok [])
 else Qd4 m s x
section
variable {m:Module}{f:Fun}{s:JS}{x:Ins}
theorem rmk_1 (h:x.op=1∨x.op=12):rmk m f s x=(.ok [number]):=by
 unfold rmk;rw [if_pos (by omega)]
theorem rmk_2 (h:x.op=2):rmk m f s x=(ebind (jkind s x.a 1) fun _=>ebind (jkind s x.b 1) fun _=> .ok [number]):=by
 unfold rmk;rw [if_neg (by omega),if_pos (by omega)]
theorem rmk_3 (h:x.op=3):rmk m f s x=(if s.h.length=16 then .error 2 else .ok [.mk 2 s.h.length []]):=by
 unfold rmk;rw [if_neg (by omega),if_neg (by omega),if_pos (by omega)]
theorem Qad (h:x.op=4):rmk m f s x=(ebind (jat s x.a 2) fun t=>if t.r<f.regs then .error 11 else .ok []):=by
 unfold rmk;rw [if_neg (by omega),if_neg (by omega),if_neg (by omega),if_pos (by omega)]
theorem QcW (h:x.op=5):rmk m f s x=(ebind (jat s x.a 2) fun t=>ebind (jfields s x.args) fun ts=>if 4<(Ty.mk 3 t.r ts).depth 4 then .error 19 else .ok [.mk 3 t.r ts]):=by
 unfold rmk;rw [if_neg (by omega),if_neg (by omega),if_neg (by omega),if_neg (by omega),if_pos (by omega)]
theorem rmk_6 (h:x.op=6):rmk m f s x=(ebind (jat s x.a 3) fun t=>ebind (Q27 t x.k) fun u=> .ok [u]):=by
 unfold rmk;rw [if_neg (by omega),if_neg (by omega),if_neg (by omega),if_neg (by omega),if_neg (by omega),if_pos (by omega)]
theorem QbN (h:x.op=7):rmk m f s x=(ebind (jat s x.a 3) fun t=>ebind (Q27 t x.k) fun u=>ebind (jval s x.b) fun v=>if u≠v then .error 9 else .ok []):=by
 unfold rmk;rw [if_neg (by omega),if_neg (by omega),if_neg (by omega),if_neg (by omega),if_neg (by omega),if_neg (by omega),if_pos (by omega)]
theorem rmk_8 (h:x.op=8):rmk m f s x=(ebind (jat s x.a 2) fun t=>ebind (jkind s x.b 1) fun _=> .ok [.mk 4 t.r []]):=by
 unfold rmk;rw [if_neg (by omega),if_neg (by omega),if_neg (by omega),if_neg (by omega),if_neg (by omega),if_neg (by omega),if_neg (by omega),if_pos (by omega)]
theorem rmk_9 (h:x.op=9):rmk m f s x=(ebind (jat s x.a 4) fun _=>ebind (jkind s x.b 1) fun _=> .ok [number]):=by
 unfold rmk;rw [if_neg (by omega),if_neg (by omega),if_neg (by omega),if_neg (by omega),if_neg (by omega),if_neg (by omega),if_neg (by omega),if_neg (by omega),if_pos (by omega)]
theorem QcZ (h:x.op=10):rmk m f s x=(ebind (jat s x.a 4) fun _=>ebind (jkind s x.b 1) fun _=>ebind (jkind s x.c 1) fun _=> .ok []):=by
 unfold rmk;rw [if_neg (by omega),if_neg (by omega),if_neg (by omega),if_neg (by omega),if_neg (by omega),if_neg (by omega),if_neg (by omega),if_neg (by omega),if_neg (by omega),if_pos (by omega)]
theorem QcY (h:x.op=11):rmk m f s x=(ebind (jat s x.a 4) fun _=> .ok [number]):=by
 unfold rmk;rw [if_neg (by omega),if_neg (by omega),if_neg (by omega),if_neg (by omega),if_neg (by omega),if_neg (by omega),if_neg (by omega),if_neg (by omega),if_neg (by omega),if_neg (by omega),if_pos (by omega)]
theorem QcX (h:x.op=13):rmk m f s x=(ebind (jkind s x.a 1) fun _=> .ok []):=by
 unfold rmk;rw [if_neg (by omega),if_neg (by omega),if_neg (by omega),if_neg (by omega),if_neg (by omega),if_neg (by omega),if_neg (by omega),if_neg (by omega),if_neg (by omega),if_neg (by omega),if_neg (by omega),if_pos (by omega)]
theorem rmk_14 (h:x.op=14):rmk m f s x=(Qd4 m s x):=by
 unfold rmk;rw [if_neg (by omega),if_neg (by omega),if_neg (by omega),if_neg (by omega),if_neg (by omega),if_neg (by omega),if_neg (by omega),if_neg (by omega),if_neg (by omega),if_neg (by omega),if_neg (by omega),if_neg (by omega)]
end
section
variable {α β γ δ:Type}{x:Except Int α}{y:Except Int β}{z:Except Int γ}
theorem Q53 {c:Int}{l:List Int}(h:c≠0):Q1v (c::l)=c:=if_pos h
theorem Qbm (l:List Int):Q1v (0::l)=Q1v l:=if_neg (fun h=>h rfl)
theorem Qbo (hx:NZ x) (h:Q1v [QA x,QA y]≠0) (g:α→β→Except Int δ):ebind x (fun a=>ebind y (g a))= .error (Q1v [QA x,QA y]):=by
 cases x with
 | error c=>rw [show QA (.error c:Except Int α)=c from rfl,Q53 (hx c rfl)];rfl
 | ok a=>
   rw [show QA (.ok a:Except Int α)=0 from rfl,Qbm] at h ⊢
   cases y with
   | error c=>
     rw [show QA (.error c:Except Int β)=c from rfl] at h ⊢
     by_cases hc:c=0
     · subst hc;exact absurd rfl h
     · rw [Q53 hc];rfl
   | ok b=>exact absurd rfl h
theorem Qbn (hx:NZ x) (hy:NZ y) (h:Q1v [QA x,QA y]=0):∃a b,x= .ok a∧y= .ok b:=by
 cases x with
 | error c=>rw [show QA (.error c:Except Int α)=c from rfl,Q53 (hx c rfl)] at h;exact absurd h (hx c rfl)
 | ok a=>
   rw [show QA (.ok a:Except Int α)=0 from rfl,Qbm] at h
   cases y with
   | error c=>rw [show QA (.error c:Except Int β)=c from rfl,Q53 (hy c rfl)] at h;exact absurd h (hy c rfl)
   | ok b=>exact ⟨a,b,rfl,rfl⟩
theorem Q8w (hx:NZ x) (hy:NZ y) (d:δ):QA (ebind x fun _=>ebind y fun _=>(.ok d:Except Int δ))=Q1v [QA x,QA y]:=by
 by_cases h:Q1v [QA x,QA y]=0
 · obtain ⟨a,b,h1,h2⟩:=Qbn hx hy h
   rw [h,Q2 h1,Q2 h2];rfl
 · rw [Qbo hx h];rfl
theorem first3_c (hx:NZ x) (hy:NZ y) (hz:NZ z) (d:δ):QA (ebind x fun _=>ebind y fun _=>ebind z fun _=>(.ok d:Except Int δ))=Q1v [QA x,QA y,QA z]:=by
 cases x with
 | error c=>rw [show QA (.error c:Except Int α)=c from rfl,Q53 (hx c rfl)];rfl
 | ok a=>
   have:Q1v [QA (.ok a:Except Int α),QA y,QA z]=Q1v [QA y,QA z]:=rfl
   rw [this,←Q8w hy hz d];rfl
theorem ok1 {x:Except Int α}{f:α→Except Int β}{b:β}(h:ebind x f= .ok b){p:Prop}(hp:∀a,f a= .ok b→p):p:=by
 obtain ⟨a,_,h2⟩:=Q8 h;exact hp a h2
end
section
variable {s:JS}{k kd:Int}
theorem Q5e:QU s k kd true=QA (jat s k kd):=rfl
theorem Q3e:QU s k kd false=QA (jkind s k kd):=rfl
end
section
variable {s:JS}{k kd:Int}{m:Module}{f:Fun}{x:Ins}
theorem Q83 (h:QU s k kd true=0):∃t,0≤k∧k<s.l.length∧s.l[k.toNat]?=some t∧t.kind=kd∧hasB s.h t.r=true∧jat s k kd= .ok t:=by
 obtain ⟨t,ht⟩:=want_at h
 obtain ⟨h1,h2,h3,h4⟩:=Q5S ht
 have:=(List.getElem?_eq_some_iff.1 h2).1
 exact ⟨t,h1,by omega,h2,h3,h4,ht⟩
theorem Q6m {α:Type}{y:Except Int α}(h:QA y≠0):y= .error (QA y):=by
 cases y with
 | error c=>rfl
 | ok a=>exact absurd rfl h
theorem Q8C {y:Except Int Unit}(hn:NZ y) (h:QA y=0):y= .ok ():=by
 obtain ⟨_,h⟩:=Q6l hn h;exact h
theorem rmk_67e {c:Int}(h:x.op=6∨x.op=7) (hj:jat s x.a 3= .error c):rmk m f s x= .error c:=by
 rcases h with h|h
 · rw [rmk_6 h,Qf hj]
 · rw [QbN h,Qf hj]
theorem rmk_67f {t:Ty}(h:x.op=6∨x.op=7) (hj:jat s x.a 3= .ok t) (hf:t.l[x.k.toNat]?=none):rmk m f s x= .error 9:=by
 have h1:Q27 t x.k= .error 9:=by unfold Q27;rw [hf]
 rcases h with h|h
 · rw [rmk_6 h,Q2 hj,Qf h1]
 · rw [QbN h,Q2 hj,Qf h1]
theorem Qc2 {t u:Ty}{k:Int}(h:t.l[k.toNat]?=some u):Q27 t k= .ok u:=by unfold Q27;rw [h]
theorem rcall_k {g:Fun}(h:x.op=14) (hg:m.funcs[x.k.toNat]?=some g):rmk m f s x=(if (x.regs.length:Int)≠g.regs then .error 2 else ebind (Q1V s.h [] x.regs) fun _=>ebind (Q3U s x.args g.params x.regs) fun _=> .ok (g.results.map (renT x.regs))):=by
 rw [rmk_14 h];unfold Qd4;rw [hg]
end
theorem Q5T {n:Nat}{x:Ins}(hF:Qm n x=0) (e:x.op=5):x.args.length≤8:=by
 unfold Qm Q14 at hF
 simp [e] at hF;omega
end Go.Lir
namespace Go.Lir
set_option linter.unusedVariables false
theorem Tys.wrong_all {n:Int}{fields:Nat}:∀{l:List Ty},Tys.wrong fields l n=0↔∀t∈l,t.wrong fields n=0
 | []=>by simp [Tys.wrong]
 | x ::l=>by
   rw [Tys.wrong]
   constructor
   · intro h
     split at h
     · rename_i h1;exact absurd h h1
     · rename_i h1
       intro t ht
       rcases List.mem_cons.1 ht with rfl|ht
       · exact Classical.not_not.1 h1
       · exact Tys.wrong_all.1 h t ht
   · intro h
     rw [if_neg (fun hn=>hn (h x (List.mem_cons_self ..)))]
     exact Tys.wrong_all.2 fun t ht=>h t (List.mem_cons_of_mem _ ht)
theorem Ty.wrong_iff {k r n:Int}{l:List Ty}{fields:Nat}:(Ty.mk k r l).wrong fields n=0↔(1≤k∧k≤4)∧(k=1→r=0)∧(k≠3→l.length=0)∧l.length≤fields∧(k≠1→0≤r∧r<n)∧∀t∈l,t.wrong fields n=0:=by
 rw [Ty.wrong]
 constructor
 · intro h
   split at h
   · cases h
   · rename_i h1
     split at h
     · cases h
     · rename_i h2
       split at h
       · cases h
       · rename_i h3
         split at h
         · cases h
         · exact ⟨by omega,by omega,by omega,by omega,by omega,Tys.wrong_all.1 h⟩
 · rintro ⟨h1,h2,h3,h4,h5,h6⟩
   rw [if_neg (by omega),if_neg (by omega),if_neg (by omega),if_neg (by omega)]
   exact Tys.wrong_all.2 h6
theorem Ty.wrong_up {fields:Nat}{n n':Int}(hn:n≤n'):∀t:Ty,t.wrong fields n=0→t.wrong fields n'=0:=by
 intro t
 induction t using Ty.ind with
 | h k r l ih=>
   intro h
   obtain ⟨h1,h2,h3,h4,h5,h6⟩:=Ty.wrong_iff.1 h
   exact Ty.wrong_iff.2 ⟨h1,h2,h3,h4,fun hk=>by have:=h5 hk;omega,fun t ht=>ih t ht (h6 t ht)⟩
mutual
theorem Ty.ren_right {fields:Nat}{f:List Int}{n:Int}(hf:∀i:Nat,i<f.length→0≤f.getD i 0∧f.getD i 0<n):∀(t:Ty),t.wrong fields f.length=0→∃u,t.ren f=some u∧u.wrong fields n=0
 | .mk k r l,ht=>by
   obtain ⟨h1,h2,h3,h4,h5,h6⟩:=Ty.wrong_iff.1 ht
   obtain ⟨m,hm,hml,hmw⟩:=Tys.ren_right hf l h6
   have hr:k≠1→0≤f.getD r.toNat 0∧f.getD r.toNat 0<n:=fun hk=>hf r.toNat (by have:=h5 hk;omega)
   refine ⟨.mk k (if k≠1 then f.getD r.toNat 0 else r) m,?_,?_⟩
   · rw [Ty.ren,if_neg (by rintro ⟨hk,hb⟩;have:=h5 hk;have:=hr hk;omega),hm]
   · refine Ty.wrong_iff.2 ⟨h1,fun hk=>by rw [if_neg (by omega)];exact h2 hk,fun hk=>by rw [hml];exact h3 hk,by omega,fun hk=>by rw [if_pos hk];exact hr hk,hmw⟩
theorem Tys.ren_right {fields:Nat}{f:List Int}{n:Int}(hf:∀i:Nat,i<f.length→0≤f.getD i 0∧f.getD i 0<n):∀(l:List Ty),(∀t∈l,t.wrong fields f.length=0)→∃m,Tys.ren l f=some m∧m.length=l.length∧∀u∈m,u.wrong fields n=0
 | [],_=>⟨[],by rw [Tys.ren],rfl,by simp⟩
 | x::l,h=>by
   obtain ⟨y,h1,h2⟩:=Ty.ren_right hf x (h x (List.mem_cons_self ..))
   obtain ⟨m,h3,h4,h5⟩:=Tys.ren_right hf l (fun t ht=>h t (List.mem_cons_of_mem _ ht))
   refine ⟨y::m,by rw [Tys.ren,h1,h3],by simp [h4],fun u hu=>?_⟩
   rcases List.mem_cons.1 hu with rfl|hu
   · exact h2
   · exact h5 u hu
end
structure JInv (m:Module) (f:Fun) (z:JS):Prop extends JGood z where
 wf:∀t∈z.l,t.wrong 8 z.h.length=0
 keep:∀r:Int,0≤r→r<f.regs→hasB z.h r=true
theorem Q6k {h:List Bool}{r:Int}(hr:hasB h r=true):0≤r∧r<h.length:=by have:=Q4g hr;omega
theorem Ty.fault_wrong {t:Ty}{n:Int}(h:t.fault n=0):t.wrong 8 n=0:=by
 unfold Ty.fault at h
 split at h
 · cases h
 · exact h
theorem Q7S {s:JS}{n:Int}(hw:∀t∈s.l,t.wrong 8 n=0):∀{l:List Int}{ts:List Ty},jfields s l= .ok ts→∀t∈ts,t.wrong 8 n=0
 | [],ts,h=>by rw [jfields] at h;cases h;simp
 | k::l,ts,h=>by
   rw [jfields] at h
   obtain ⟨t,h1,h⟩:=Q8 h
   obtain ⟨us,h2,h⟩:=Q8 h
   cases h
   intro u hu
   rcases List.mem_cons.1 hu with rfl|hu
   · exact hw _ (List.mem_of_getElem? (Qas h1).2)
   · exact Q7S hw h2 u hu
theorem JInv.at {m:Module}{f:Fun}{s:JS}(hg:JInv m f s){k kd:Int}{t:Ty}(h:jat s k kd= .ok t):t.wrong 8 s.h.length=0∧0≤t.r∧t.r<s.h.length∧t∈s.l:=by
 have h1:=Q5S h
 have h2:=Q6k h1.2.2.2
 exact ⟨hg.wf _ (List.mem_of_getElem? h1.2.1),h2.1,h2.2,List.mem_of_getElem? h1.2.1⟩
theorem Q6s {m:Module}{f:Fun}{s:JS}{x:Ins}{t:Ty}{ts:List Ty}(hF:Qm m.funcs.length x=0) (e:x.op=5) (hg:JInv m f s) (h1:jat s x.a 2= .ok t) (h2:jfields s x.args= .ok ts):
 (Ty.mk 3 t.r ts).wrong 8 s.h.length=0∧((Ty.mk 3 t.r ts).fault s.h.length≠0↔4<(Ty.mk 3 t.r ts).depth 4):=by
 have h3:=hg.at h1
 have h4:=(Q3T hg.toJGood h2).1
 have h5:=Q5T hF e
 have hw:(Ty.mk 3 t.r ts).wrong 8 s.h.length=0:=Ty.wrong_iff.2 ⟨by omega,by omega,by omega,by omega,fun _=>by omega,Q7S hg.wf h2⟩
 refine ⟨hw,?_⟩
 have hd:=Ty.depth_iff (Ty.mk 3 t.r ts) (most:=4) (by omega)
 unfold Ty.fault
 rw [hw]
 constructor
 · intro h
   split at h
   · rename_i hb
     exact Classical.byContradiction fun hn=>by rw [hd.1 (by omega)] at hb;cases hb
   · exact absurd rfl h
 · intro h
   rw [if_pos]
   · decide
   · cases hb:(Ty.mk 3 t.r ts).deepB 4 with
     | false=>rfl
     | true=>have:=hd.2 hb;omega
def vAdd (s:JS) (x:Ins) (ts:List Ty):Except Int JS:=if 80<s.l.length+ts.length then .error 2 else
 .ok ⟨if x.op=3 then s.h++[true] else if x.op=4 then (match s.l[x.a.toNat]? with|some t=>s.h.set t.r.toNat false|none=>s.h) else s.h,s.l++ts⟩
theorem Q2T {s:JS}{x:Ins}{t:Ty}(hn:s.l.length≤80) (h3:x.op≠3) (h4:x.op≠4):vAdd s x [t]=jput s t:=by
 unfold vAdd jput
 rw [if_neg h3,if_neg h4]
 by_cases h:s.l.length=80
 · rw [if_pos h,if_pos (by simp;omega)]
 · rw [if_neg h,if_neg (by simp;omega)]
theorem Q9Q {s:JS}{x:Ins}(hn:s.l.length≤80) (h3:x.op≠3) (h4:x.op≠4):vAdd s x []= .ok s:=by
 unfold vAdd
 rw [if_neg h3,if_neg h4,if_neg (by simp;omega),List.append_nil]
theorem Qw {α β γ:Type}(x:Except Int α) (f:α→Except Int β) (g:β→Except Int γ):ebind (ebind x f) g=ebind x fun a=>ebind (f a) g:=by cases x<;>rfl
theorem Qv {α β:Type}{x:Except Int α}{f g:α→Except Int β}(h:∀a,x= .ok a→f a=g a):ebind x f=ebind x g:=by
 cases x with
 | error e=>rfl
 | ok a=>exact h a rfl
theorem jins_rmk {m:Module}{f:Fun}{s:JS}{x:Ins}(hF:Qm m.funcs.length x=0) (hg:JInv m f s):jins m f s x=ebind (rmk m f s x) (vAdd s x):=by
 have hop:=Q36 hF
 have hn:=hg.n
 rcases op_cases (op:=x.op) (by omega) (by omega) with e|e|e|e|e|e|e|e|e|e|e|e|e|e
 · rw [Q5R (by omega),rmk_1 (by omega),Q2 rfl,Q2T hn (by omega) (by omega)]
 · rw [Q6X e,rmk_2 e,Qw];refine Qv fun _ _=>?_;rw [Qw];refine Qv fun _ _=>?_;rw [Q2 rfl,Q2T hn (by omega) (by omega)]
 · rw [Q9i e,rmk_3 e]
   by_cases h:s.h.length=16
   · rw [if_pos (.inl h),if_pos h,Qf rfl]
   · rw [if_neg h,Q2 rfl]
     unfold vAdd
     rw [if_pos e]
     by_cases h8:s.l.length=80
     · rw [if_pos (.inr h8),if_pos (by simp;omega)]
     · rw [if_neg (by omega),if_neg (by simp;omega)]
 · rw [Q7R e,Qad e,Qw]
   refine Qv fun t ht=>?_
   by_cases h:t.r<f.regs
   · rw [if_pos h,if_pos h,Qf rfl]
   · rw [if_neg h,if_neg h,Q2 rfl]
     unfold vAdd
     rw [if_neg (show¬x.op=3 by omega),if_pos e,if_neg (by simp;omega),(Q5S ht).2.1,List.append_nil]
 · rw [Q9h e,QcW e,Qw];unfold Q4t
   refine Qv fun t ht=>?_
   rw [Qw]
   refine Qv fun ts hts=>?_
   have:=(Q6s hF e hg ht hts).2
   by_cases h:4<(Ty.mk 3 t.r ts).depth 4
   · rw [if_pos (this.2 h),if_pos h,Qf rfl]
   · rw [if_neg (fun hh=>h (this.1 hh)),if_neg h,Q2 rfl,Q2T hn (by omega) (by omega)]
 · rw [Q6W e,rmk_6 e,Qw];refine Qv fun _ _=>?_;rw [Qw];refine Qv fun _ _=>?_;rw [Q2 rfl,Q2T hn (by omega) (by omega)]
 · rw [Q2e e,QbN e,Qw];refine Qv fun _ _=>?_;rw [Qw];refine Qv fun u _=>?_;rw [Qw];refine Qv fun v _=>?_
   by_cases h:u≠v
   · rw [if_pos h,if_pos h,Qf rfl]
   · rw [if_neg h,if_neg h,Q2 rfl,Q9Q hn (by omega) (by omega)]
 · rw [Q6V e,rmk_8 e,Qw];refine Qv fun _ _=>?_;rw [Qw];refine Qv fun _ _=>?_;rw [Q2 rfl,Q2T hn (by omega) (by omega)]
 · rw [Q6U e,rmk_9 e,Qw];refine Qv fun _ _=>?_;rw [Qw];refine Qv fun _ _=>?_;rw [Q2 rfl,Q2T hn (by omega) (by omega)]
 · rw [Q4C e,QcZ e,Qw];refine Qv fun _ _=>?_;rw [Qw];refine Qv fun _ _=>?_;rw [Qw];refine Qv fun _ _=>?_;rw [Q2 rfl,Q9Q hn (by omega) (by omega)]
 · rw [Q5B e,QcY e,Qw];refine Qv fun _ _=>?_;rw [Q2 rfl,Q2T hn (by omega) (by omega)]
 · rw [Q5R (by omega),rmk_1 (by omega),Q2 rfl,Q2T hn (by omega) (by omega)]
 · rw [Q6Z e,QcX e,Qw];refine Qv fun _ _=>?_;rw [Q2 rfl,Q9Q hn (by omega) (by omega)]
 · rw [Q6Y e,rmk_14 e];unfold Q67 Qd4
   cases hgf:m.funcs[x.k.toNat]? with
   | none=>rfl
   | some g=>
     dsimp only
     by_cases hr:(x.regs.length:Int)≠g.regs
     · rw [if_pos hr,if_pos hr];rfl
     · rw [if_neg hr,if_neg hr,Qw];refine Qv fun _ _=>?_;rw [Qw];refine Qv fun _ _=>?_;rw [Q2 rfl]
       unfold vAdd
       rw [if_neg (show¬x.op=3 by omega),if_neg (show¬x.op=4 by omega),List.length_map]
theorem Q3S {s s':JS}{t:Ty}{f:Fun}(hw:∀t∈s.l,t.wrong 8 s.h.length=0) (hk:∀r:Int,0≤r→r<f.regs→hasB s.h r=true) (ht:t.wrong 8 s.h.length=0) (h:jput s t= .ok s'):
 (∀t∈s'.l,t.wrong 8 s'.h.length=0)∧(∀r:Int,0≤r→r<f.regs→hasB s'.h r=true):=by
 obtain ⟨h1,h2,h3⟩:=Qau h
 refine ⟨fun u hu=>?_,fun r=>by rw [h2];exact hk r⟩
 rw [h3] at hu
 rw [h2]
 rcases List.mem_append.1 hu with hu|hu
 · exact hw u hu
 · simp at hu;subst hu;exact ht
theorem Q94 (n:Int):number.wrong 8 n=0:=by unfold number;exact Ty.wrong_iff.2 ⟨by omega,by omega,by simp,by simp,by omega,by simp⟩
theorem hasB_app {h:List Bool}{r:Int}(hr:hasB h r=true):hasB (h++[true]) r=true:=by
 obtain ⟨h1,h2,h3⟩:=Q4g hr
 unfold hasB
 rw [List.getD_eq_getElem?_getD] at h3 ⊢
 rw [List.getElem?_append_left (by omega),h3,List.length_append]
 simp;omega
theorem QaA {h:List Bool}{r k:Int}(hr:hasB h r=true) (hk:0≤k) (hne:k≠r):hasB (h.set k.toNat false) r=true:=by
 obtain ⟨h1,h2,h3⟩:=Q4g hr
 unfold hasB
 rw [List.getD_eq_getElem?_getD] at h3 ⊢
 rw [List.getElem?_set_ne (by omega),h3,List.length_set]
 simp;omega
theorem jins_inv {m:Module}{f:Fun}{s s':JS}{x:Ins}(hM:m.fault.1=0) (hm:m.Short) (hg:JInv m f s) (hF:Qm m.funcs.length x=0) (h:jins m f s x= .ok s'):JInv m f s':=by
 have hG:=Q9g hm hg.toJGood hF h
 suffices hh:(∀t∈s'.l,t.wrong 8 s'.h.length=0)∧(∀r:Int,0≤r→r<f.regs→hasB s'.h r=true) from ⟨hG,hh.1,hh.2⟩
 have hop:=Q36 hF
 have hw:=hg.wf
 have hk:=hg.keep
 rcases op_cases (op:=x.op) (by omega) (by omega) with e|e|e|e|e|e|e|e|e|e|e|e|e|e
 · rw [Q5R (by omega)] at h;exact Q3S hw hk (Q94 _) h
 · rw [Q6X e] at h;obtain ⟨_,_,h⟩:=Q8 h;obtain ⟨_,_,h⟩:=Q8 h;exact Q3S hw hk (Q94 _) h
 · rw [Q9i e] at h
   split at h
   · cases h
   · cases h
     refine ⟨fun u hu=>?_,fun r h0 h1=>hasB_app (hk r h0 h1)⟩
     rw [List.length_append]
     rcases List.mem_append.1 hu with hu|hu
     · exact Ty.wrong_up (by simp;omega) u (hw u hu)
     · simp at hu;subst hu
       exact Ty.wrong_iff.2 ⟨by omega,by omega,by simp,by simp,fun _=>by simp;omega,by simp⟩
 · rw [Q7R e] at h
   obtain ⟨t,h1,h⟩:=Q8 h
   split at h
   · cases h
   · rename_i hlt
     cases h
     have:=hg.at h1
     refine ⟨fun u hu=>by rw [List.length_set];exact hw u hu,fun r h0 h1=>QaA (hk r h0 h1) (by omega) (by omega)⟩
 · rw [Q9h e] at h;unfold Q4t at h
   obtain ⟨t,h1,h⟩:=Q8 h;obtain ⟨ts,h2,h⟩:=Q8 h
   split at h
   · cases h
   · exact Q3S hw hk (Q6s hF e hg h1 h2).1 h
 · rw [Q6W e] at h;obtain ⟨t,h1,h9⟩:=Q8 h;obtain ⟨u,h2,h8⟩:=Q8 h9
   have h3:=(hg.at h1).1
   clear h h9
   obtain ⟨k,r,l⟩:=t
   exact Q3S hw hk ((Ty.wrong_iff.1 h3).2.2.2.2.2 u (List.mem_of_getElem? (Q9m h2))) h8
 · rw [Q2e e] at h;obtain ⟨_,_,h⟩:=Q8 h;obtain ⟨_,_,h⟩:=Q8 h;obtain ⟨_,_,h⟩:=Q8 h
   split at h
   · cases h
   · cases h;exact ⟨hw,hk⟩
 · rw [Q6V e] at h;obtain ⟨t,h1,h⟩:=Q8 h;obtain ⟨_,_,h⟩:=Q8 h
   have:=hg.at h1
   exact Q3S hw hk (Ty.wrong_iff.2 ⟨by omega,by omega,by simp,by simp,fun _=>by omega,by simp⟩) h
 · rw [Q6U e] at h;obtain ⟨_,_,h⟩:=Q8 h;obtain ⟨_,_,h⟩:=Q8 h;exact Q3S hw hk (Q94 _) h
 · rw [Q4C e] at h;obtain ⟨_,_,h⟩:=Q8 h;obtain ⟨_,_,h⟩:=Q8 h;obtain ⟨_,_,h⟩:=Q8 h;cases h;exact ⟨hw,hk⟩
 · rw [Q5B e] at h;obtain ⟨_,_,h⟩:=Q8 h;exact Q3S hw hk (Q94 _) h
 · rw [Q5R (by omega)] at h;exact Q3S hw hk (Q94 _) h
 · rw [Q6Z e] at h;obtain ⟨_,_,h⟩:=Q8 h;cases h;exact ⟨hw,hk⟩
 · rw [Q6Y e] at h
   unfold Q67 at h
   split at h
   · cases h
   · rename_i g hgf
     split at h
     · cases h
     · rename_i hrl
       obtain ⟨_,h1,h⟩:=Q8 h;obtain ⟨_,_,h⟩:=Q8 h
       split at h
       · cases h
       · cases h
         refine ⟨fun u hu=>?_,hk⟩
         rcases List.mem_append.1 hu with hu|hu
         · exact hw u hu
         · obtain ⟨t,ht,rfl⟩:=List.mem_map.1 hu
           have h2:=Ty.fault_wrong (Q5Q (Q1Z (Q2R hM hgf)).2.2.2.1 t ht)
           have hall:=Q9e h1
           rw [show g.regs=(x.regs.length:Int) by omega] at h2
           obtain ⟨v,h3,h4⟩:=Ty.ren_right (n:=s.h.length) (f:=x.regs) (fun i hi=>by
            rw [List.getD_eq_getElem?_getD,List.getElem?_eq_getElem hi]
            exact Q6k (hall _ (List.getElem_mem hi))) t h2
           unfold renT
           rw [h3]
           exact h4
theorem jIns_inv {m:Module}{f:Fun}{s:JS}{x:Ins}(hM:m.fault.1=0) (hm:m.Short) (hg:JInv m f s):JInv m f (jIns m f s x).2:=by
 by_cases h:(jIns m f s x).1=0
 · obtain ⟨h1,h2⟩:=Qds h;exact jins_inv hM hm hg h1 h2
 · rw [Qdt h];exact hg
theorem Qc3 {m:Module}(hm:m.Short) (hF:m.fault.1=0){f b:Nat}{x:Fun}{y:Block}(hx:m.funcs[f]?=some x) (hy:x.blocks[b]?=some y):JInv m x (Q1H y):=by
 have h1:=Q4H (Q2k hF hx hy).1
 have h2:=Q1Z (Q2R hF hx)
 have hl:(Q1H y).h.length=y.regs.toNat:=by unfold Q1H;simp only [List.length_replicate];omega
 refine ⟨Q74 hm hF hx hy,fun t ht=>?_,fun r h0 hr=>?_⟩
 · rw [hl,Int.toNat_of_nonneg (by omega)]
   exact Ty.fault_wrong (Q5Q h1.2.2.1 t ht)
 · unfold hasB
   rw [hl]
   unfold Q1H
   simp only
   rw [List.getD_eq_getElem?_getD,List.getElem?_replicate,if_pos (by omega)]
   simp;omega
theorem Q7V {h:List Bool}:∀{n:Nat},(∀i:Nat,i<n→h.getD i false=true)→Q1e h n=upTo n
 | 0,_=>by unfold Q1e upTo;rfl
 | n+1,hk=>by
   rw [Q3q,if_pos (hk n (by omega)),Q7V (fun i hi=>hk i (by omega))]
   unfold upTo
   rw [List.range_succ,List.map_append];rfl
theorem Q77 {h:List Bool}{n:Nat}:∀k:Nat,∃mo,Q1e h (n+k)=Q1e h n++mo∧∀r∈mo,(n:Int)≤r
 | 0=>⟨[],by simp,by simp⟩
 | k + 1=>by
   obtain ⟨mo,h1,h2⟩:=Q77 (h:=h) (n:=n) k
   refine ⟨mo++(if h.getD (n+k) false=true then [((n+k:Nat):Int)] else []),?_,fun r hr=>?_⟩
   · rw [show n+(k+1)=n+k+1 by omega,Q3q,h1,List.append_assoc]
   · rcases List.mem_append.1 hr with hr|hr
     · exact h2 r hr
     · split at hr
       · simp at hr;omega
       · cases hr
theorem Qbf {m:Module}{f:Fun}{s:JS}(hg:JInv m f s) (hf:0≤f.regs):(f.regs<(Q1o s.h).length↔∃r∈Q1o s.h,f.regs≤r):=by
 have hle:f.regs≤s.h.length:=by
  by_cases h:f.regs=0
  · omega
  · have:=Q6k (hg.keep (f.regs - 1) (by omega) (by omega));omega
 have h1:Q1e s.h f.regs.toNat=upTo f.regs.toNat:=Q7V fun i hi=>(Q4g (hg.keep i (by omega) (by omega))).2.2
 obtain ⟨mo,h2,h3⟩:=Q77 (h:=s.h) (n:=f.regs.toNat) (s.h.length - f.regs.toNat)
 rw [show f.regs.toNat+(s.h.length - f.regs.toNat)=s.h.length by omega,h1] at h2
 have hul:(upTo f.regs.toNat).length=f.regs.toNat:=by unfold upTo;simp
 unfold Q1o
 rw [h2,List.length_append,hul]
 constructor
 · intro h
   cases mo with
   | nil=>simp at h;omega
   | cons r mo=>exact ⟨r,by simp,by have:=h3 r (by simp);omega⟩
 · rintro ⟨r,hr,h⟩
   rcases List.mem_append.1 hr with hr|hr
   · unfold upTo at hr
     obtain ⟨i,hi,rfl⟩:=List.mem_map.1 hr
     have:=List.mem_range.1 hi
     simp only [Int.ofNat_eq_natCast] at h
     omega
   · have:0<mo.length:=List.length_pos_of_mem hr
     omega
theorem rmk_nz (m:Module) (f:Fun) (s:JS) (x:Ins):NZ (rmk m f s x):=by
 unfold rmk Qd4
 repeat' (first|exact .o _|exact .e (by decide)|refine .bind (Q2o _ _ _) fun _ _=>?_|refine .bind (Q71 _ _ _) fun _ _=>?_|refine .bind (Q9n _ _) fun _ _=>?_|refine .bind (Q6O _ _) fun _ _=>?_|refine .bind (Q5C _ _) fun _ _=>?_|refine .bind (Q8o _ _ _) fun _ _=>?_|refine .bind (Q4X _ _ _ _) fun _ _=>?_|refine .ite ?_ ?_|split)
section
variable {m:Module}{f:Fun}{s:JS}{x:Ins}{ts:List Ty}
theorem jIns_f (h:Qm m.funcs.length x≠0):jIns m f s x=(Qm m.funcs.length x,s):=by unfold jIns;rw [if_pos h]
theorem Q9p (hF:Qm m.funcs.length x=0) (hg:JInv m f s):jIns m f s x=match ebind (rmk m f s x) (vAdd s x) with
 | .error c=>(c,s)
 | .ok s'=>(0,s'):=by
 unfold jIns
 rw [if_neg (fun h=>h hF),jins_rmk hF hg]
 all_goals (cases ebind (rmk m f s x) (vAdd s x)<;>rfl)
theorem jIns_e (hF:Qm m.funcs.length x=0) (hg:JInv m f s) (h:QA (rmk m f s x)≠0):jIns m f s x=(QA (rmk m f s x),s):=by
 rw [Q9p hF hg,Qf (Q6m h)]
theorem jIns_m (hF:Qm m.funcs.length x=0) (hg:JInv m f s) (h:rmk m f s x= .ok ts) (hl:80<s.l.length+ts.length):jIns m f s x=(2,s):=by
 rw [Q9p hF hg,Q2 h];unfold vAdd;rw [if_pos hl]
theorem jIns_o3 (hF:Qm m.funcs.length x=0) (hg:JInv m f s) (h:rmk m f s x= .ok ts) (hl:¬80<s.l.length+ts.length) (h3:x.op=3):jIns m f s x=(0,⟨s.h++[true],s.l++ts⟩):=by
 rw [Q9p hF hg,Q2 h];unfold vAdd;rw [if_neg hl,if_pos h3]
theorem jIns_o4 (hF:Qm m.funcs.length x=0) (hg:JInv m f s) (h:rmk m f s x= .ok ts) (hl:¬80<s.l.length+ts.length) (h4:x.op=4){t:Ty}(ht:s.l[x.a.toNat]?=some t):jIns m f s x=(0,⟨s.h.set t.r.toNat false,s.l++ts⟩):=by
 rw [Q9p hF hg,Q2 h];unfold vAdd;rw [if_neg hl,if_neg (show¬x.op=3 by omega),if_pos h4,ht]
theorem jIns_o (hF:Qm m.funcs.length x=0) (hg:JInv m f s) (h:rmk m f s x= .ok ts) (hl:¬80<s.l.length+ts.length) (h3:x.op≠3) (h4:x.op≠4):jIns m f s x=(0,⟨s.h,s.l++ts⟩):=by
 rw [Q9p hF hg,Q2 h];unfold vAdd;rw [if_neg hl,if_neg h3,if_neg h4]
theorem rmk_3ok (h:rmk m f s x= .ok ts) (h3:x.op=3):s.h.length≠16:=by
 rw [rmk_3 h3] at h
 split at h
 · cases h
 · assumption
theorem rmk_4ok (h:rmk m f s x= .ok ts) (h4:x.op=4):∃t,0≤x.a∧x.a<s.l.length∧s.l[x.a.toNat]?=some t∧0≤t.r∧t.r<s.h.length:=by
 rw [Qad h4] at h
 obtain ⟨t,h1,_⟩:=Q8 h
 obtain ⟨h2,h3,h5,h6⟩:=Q5S h1
 have:=(List.getElem?_eq_some_iff.1 h3).1
 have:=Q6k h6
 exact ⟨t,h2,by omega,h3,this.1,this.2⟩
end
theorem jEnd_f {f:Fun}{s:JS}{e:Tail}(h:Q10 f.blocks.length e≠0):jEnd f s e=Q10 f.blocks.length e:=by unfold jEnd;rw [if_pos h]
theorem jEnd_g {f:Fun}{s:JS}{e:Tail}(h:Q10 f.blocks.length e=0):jEnd f s e=QA (jend f s e):=by
 unfold jEnd QA;rw [if_neg (fun hn=>hn h)];cases jend f s e<;>rfl
theorem mod_fb {m:Module}{f:Nat}{x:Fun}(hF:m.fault.1=0) (hx:m.funcs[f]?=some x):∀b∈x.blocks,x.regs≤b.regs:=by
 intro b hb
 obtain ⟨k,hk⟩:=List.mem_iff_getElem?.1 hb
 exact (Q4H (Q2k hF hx hk).1).1
def QV (m:Module) (f:Fun) (fi bi:Nat) (e:Tail):Nat→JS→List Ins→Flt
 | _,s,[]=>mkF (jEnd f s e) (Q4J fi bi)
 | i,s,x::l=>if (jIns m f s x).1≠0 then ((jIns m f s x).1,Q45 fi bi i) else QV m f fi bi e (i+1) (jIns m f s x).2 l
def Qx (m:Module) (f:Fun) (fi:Nat):Nat→List Block→Flt
 | _,[]=>(0,0)
 | b,y::l=>orF (QV m f fi b y.fin 0 (Q1H y) y.code) (Qx m f fi (b+1) l)
def Q1q (m:Module):Nat→List Fun→Flt
 | _,[]=>(0,0)
 | f,x::l=>orF (Qx m x f 0 x.blocks) (Q1q m (f+1) l)
def Module.runs (m:Module):Flt:=orF m.fault (Q1q m 0 m.funcs)
theorem Q5J {m:Module}{f:Fun}{fi bi:Nat}{e:Tail}:∀{l:List Ins}{i:Nat}{s:JS},(QV m f fi bi e i s l).1=0→QV m f fi bi e i s l=(0,0)
 | [],_,_,h=>by rw [QV] at h ⊢;exact Q5r _ _ h
 | x::l,i,s,h=>by
   rw [QV] at h ⊢
   split at h
   · rename_i hn;exact absurd h hn
   · rename_i hn;rw [if_neg hn];exact Q5J h
theorem Q3w {m:Module}{f:Fun}{fi:Nat}:∀{l:List Block}{b:Nat},(Qx m f fi b l).1=0→Qx m f fi b l=(0,0)
 | [],_,_=>by rw [Qx]
 | x::l,b,h=>by rw [Qx] at h ⊢;exact Q7v Q5J Q3w h
theorem Q3Y {m:Module}:∀{l:List Fun}{f:Nat},(Q1q m f l).1=0→Q1q m f l=(0,0)
 | [],_,_=>by rw [Q1q]
 | x::l,b,h=>by rw [Q1q] at h ⊢;exact Q7v Q3w Q3Y h
section
variable {m:Module}{f:Fun}{fi bi i b:Nat}{e:Tail}{s:JS}{x:Ins}{l:List Ins}{y:Block}{k:List Block}
theorem Q58 (h:(jIns m f s x).1=0):QV m f fi bi e i s (x::l)=QV m f fi bi e (i+1) (jIns m f s x).2 l:=by rw [QV,if_neg (fun hn=>hn h)]
theorem Q57 (h:(jIns m f s x).1≠0):QV m f fi bi e i s (x::l)=((jIns m f s x).1,Q45 fi bi i):=by rw [QV,if_pos h]
theorem Q7G (h:(QV m f fi b y.fin 0 (Q1H y) y.code).1=0):Qx m f fi b (y::k)=Qx m f fi (b+1) k:=by
 rw [Qx,Q5J h];exact Q1t Q3w
theorem Q7F (h:(QV m f fi b y.fin 0 (Q1H y) y.code).1≠0):Qx m f fi b (y::k)=QV m f fi b y.fin 0 (Q1H y) y.code:=by
 rw [Qx,Q31 h]
theorem Q9x {k:List Fun}(h:(Qx m f fi 0 f.blocks).1=0):Q1q m fi (f::k)=Q1q m (fi+1) k:=by
 rw [Q1q,Q3w h];exact Q1t Q3Y
theorem Q9w {k:List Fun}(h:(Qx m f fi 0 f.blocks).1≠0):Q1q m fi (f::k)=Qx m f fi 0 f.blocks:=by
 rw [Q1q,Q31 h]
theorem Q5X (h:l.length≤i):QV m f fi bi e i s (l.drop i)=mkF (jEnd f s e) (Q4J fi bi):=by rw [List.drop_of_length_le h,QV]
theorem Qaa {E:Flt}{q:Nat}(hd:m.runs=Q1q m q (m.funcs.drop q)) (hf:m.funcs[q]?=some f) (hdb:Qx m f q 0 f.blocks=Qx m f q b (f.blocks.drop b)) (hy:f.blocks[b]?=some y) (h0:QV m f q b y.fin 0 (Q1H y) y.code=E) (hE:E.1≠0):m.runs=E:=by
 have h1:Qx m f q 0 f.blocks=E:=by rw [hdb,Q1 hy,Q7F (by rw [h0];exact hE),h0]
 rw [hd,Q1 hf,Q9w (by rw [h1];exact hE),h1]
theorem runs_b {q:Nat}(hdb:Qx m f q 0 f.blocks=Qx m f q b (f.blocks.drop b)) (hy:f.blocks[b]?=some y) (h0:(QV m f q b y.fin 0 (Q1H y) y.code).1=0):Qx m f q 0 f.blocks=Qx m f q (b+1) (f.blocks.drop (b+1)):=by
 rw [hdb,Q1 hy,Q7G h0]
theorem runs_f {q:Nat}(hd:m.runs=Q1q m q (m.funcs.drop q)) (hf:m.funcs[q]?=some f) (hdb:Qx m f q 0 f.blocks=Qx m f q b (f.blocks.drop b)) (hb:f.blocks.length≤b):m.runs=Q1q m (q+1) (m.funcs.drop (q+1)):=by
 rw [hd,Q1 hf,Q9x (by rw [hdb,List.drop_of_length_le hb,Qx])]
theorem runs_z {q:Nat}(hd:m.runs=Q1q m q (m.funcs.drop q)) (hq:m.funcs.length≤q):m.runs=(0,0):=by
 rw [hd,List.drop_of_length_le hq,Q1q]
theorem Q8b (h:m.fault.1≠0):m.runs=m.fault:=by unfold Module.runs;exact Q31 h
theorem Q5k (h:m.fault.1=0):m.runs=Q1q m 0 m.funcs:=by unfold Module.runs;rw [Module.fault_z h];exact Q1t Q3Y
end
end Go.Lir
namespace Go.Proofs.YteflkifmgnpbhaaGreat
open Go.Lir
set_option maxHeartbeats 1000000
attribute [local irreducible] LC.wp Q0 QB QH retQ Q1k LO.wp Qh Calls
set_option linter.unusedSimpArgs false
set_option linter.unusedVariables false
attribute [local irreducible] hasB Q1o Q1c Q1e Q2L upTo QU Q1v rmk jIns jEnd Module.fault Q45 Q4J
variable {cx:Cx}{w:World}{L:List Res}{j:JP}{h:List Bool}{vl:Value}{css:List (List Value)}{i:Nat}{m:Module}
theorem jNewOk_c {f b:Nat}{fn:Fun}{y:Block}{cs:List Value}(hm:m.Short) (hF:m.fault.1=0) (hfn:m.funcs[f]?=some fn) (hy:fn.blocks[b]?=some y) (hx:modR.at cx cs m) (hS:St cx w L):
 Rets Tryz.prog Q9d [.agg ⟨cs⟩, .int .i64 f, .int .i64 b] w fun u w'=>∃(j:JP) (c':Cx) (vl:Value) (css:List (List Value)),u= .tuple #[.pointer (some ⟨j.sp,0,none⟩),fltV (0,0)]∧cx.Le c'∧j.Fits c' m∧j.f=fn∧tyR.ls c' css y.params∧St c' w' (j.res (Q1H y).h vl css::L):=by
 refine (jNew_c hm hx hS).mono ?_
 have h1:=(List.getElem?_eq_some_iff.1 hfn).1
 have h2:=(List.getElem?_eq_some_iff.1 hy).1
 rintro u w' (⟨h0, -⟩|⟨-,h9, -⟩|⟨fn',y',j,c2,vl,css, -, -, -,hf',hy',rfl,hle,hj,jf,hls,hS⟩)
 · exact absurd hF h0
 · exfalso
   rcases h9 with (h|h)|⟨fn',hf',h⟩
   · omega
   · omega
   · rw [Int.toNat_natCast] at hf'
     obtain rfl:fn=fn':=Option.some.inj (hfn.symm.trans hf')
     omega
 · rw [Int.toNat_natCast] at hf' hy'
   obtain rfl:fn=fn':=Option.some.inj (hfn.symm.trans hf')
   obtain rfl:y=y':=Option.some.inj (hy.symm.trans hy')
   exact ⟨j,c2,vl,css,rfl,hle,hj,jf,hls,hS⟩
theorem vblock_c {q b:Nat}{fn:Fun}{y:Block}{cs:List Value}(hm:m.Short) (hF:m.fault.1=0) (hfn:m.funcs[q]?=some fn) (hy:fn.blocks[b]?=some y) (hx:modR.at cx cs m) (hS:St cx w L):
 Rets Tryz.prog Q8M [.agg ⟨cs⟩, .int .i64 q, .int .i64 b] w fun u w'=>u=fltV (QV m fn q b y.fin 0 (Q1H y) y.code)∧St cx w' L:=by
 have hx':=hx
 obtain ⟨vf,rfl,hf1⟩:=QP hx
 have hle:=St.refl hS
 have hsf:=hm.2 fn (List.mem_of_getElem? hfn)
 have hfb:=mod_fb hF hfn
 have hfh:=Q1Z (Q2R hF hfn)
 have hg0:=Q74 hm hF hfn hy
 have hlc:=(hsf.2.2.2 y (List.mem_of_getElem? hy)).2.1
 have hq1:=(List.getElem?_eq_some_iff.1 hfn).1
 have hq2:=hm.1
 have hb1:=(List.getElem?_eq_some_iff.1 hy).1
 refine lgo tyD Tryz.func91 ?_;refine Zaw ?_;intro p3 w1 hS;refine Qb hS ?_;(intro p6 w1 hS);refine ZbY ?_;refine ZbV ?_;refine zR3 (c:=jNewOk_c hm hF hfn hy hx' hS) (h:=?_);rintro v1 w1 ⟨j,c2,vl,css,rfl,hle2,hj,hjf,hls,hS⟩;(try have hle:=hle.trans hle2);(try have hf1:=hf1.up hle2);unfold fltV;subst hjf;refine Zct ?_;(intro p8 w1 hS);refine zm ?_;((refine zsn hS ?_;intro w1 hS;have hS:=hS.ns));refine zn ?_;refine ZbC ?_;intro b1 o1 cs1 x1 hat1 hx1 he1;((obtain ⟨vp1,vr1,vb1,rfl,hp1,hr1,hb1⟩:=Qo he1));obtain rfl:j.f=x1:=Option.some.inj (hfn.symm.trans hx1);refine Zcn ?_;refine ZaX ?_;intro b2 o2 cs2 x2 hat2 hx2 he2;((obtain ⟨vp2,vc2,ve21,ve22,ve23,ve24,ve25,rfl,hp2,hc2,he21,he22,he23,he24,he25⟩:=QC he2));refine ZaC ?_;(intro p9 w1 hS);((refine zsn hS ?_;intro w1 hS;have hS:=hS.ns));refine zn ?_;obtain rfl:y=x2:=Option.some.inj (hy.symm.trans hx2);refine Zci ?_
 refine zo [1,2,6,7,9,31,32] (fun A ρ' w'=>∃(k0:Cx) (i:Nat) (s:JS) (vl:Value) (css:List (List Value)),Has ρ' A∧Has ρ' [(33, .int .i64 i)]∧(c2.Le k0)∧(i≤y.code.length)∧(QV m j.f q b y.fin 0 (Q1H y) y.code=QV m j.f q b y.fin i s (y.code.drop i))∧(j.Fits k0 m)∧(tyR.ls k0 css s.l)∧(JGood s)∧St k0 w' (blk p9 92 [.int .i64 y.regs,vp2,vc2, .int .i64 y.fin.op, .int .i64 y.fin.a, .int .i64 y.fin.yes.block,ve21,ve22, .int .i64 y.fin.no.block,ve23,ve24,ve25]::j.res s.h vl css::blk p6 29 [.int .i64 0, .int .i64 0]::L)) (fun ρ' _=>(y.code.length - iv (ρ' 33)).toNat) ?_ ?_
 · exact ⟨c2,0,Q1H y,vl,css,zh,zh,St.refl hS,(by omega),by rfl,hj,hls,hg0,hS.sp⟩
 rintro ρ w1 ⟨k0,i,s,vl,css,hA,hρ,hle2,hi,hdi,hj,hls,hg,hS⟩;obtain ⟨ρ,rfl⟩:=env2 hA hρ;have hL0:=hle2;(try have hle:=hle.trans hle2);(try have hc2:=hc2.up hle2);(try have he21:=he21.up hle2);(try have he22:=he22.up hle2);(try have he23:=he23.up hle2);(try have he24:=he24.up hle2);(try have he25:=he25.up hle2)
 refine ZaV ?_
 refine Q5 rfl (fun hc=>?_) (fun hc=>?_)
 · skip
   refine Zar ?_;refine Zae ?_;refine zi ?_;intro b3 o3 cs3 x3 hat3 hx3 he3;obtain ⟨vr3,va3,rfl,hr3,ha3⟩:=QG he3;refine ZaC ?_;intro p11 w1 hS;refine zm ?_;refine zsn hS ?_;intro w1 hS;have hS:=hS.ns;refine ZbM ?_;refine zv hS ?_;refine zR2 (c:=jIns_c (s:=s) (x:=x3) hm hg.n hg.h hj he3 hls hS fd) (h:=?_);rintro v1 w1 ⟨rfl,c4,vl4,css4,hle2,hls4,hS⟩;have hS:=hS.ns;(try have hle:=hle.trans hle2);(try have hL0:=hL0.trans hle2);have hj:=hj.up hle2;have hg1:=Qdu (f:=j.f) (x:=x3) hm hg;obtain ⟨s1,hs1⟩:∃s1,(jIns m j.f s x3).2=s1:=⟨_,rfl⟩;rw [hs1] at hls4 hS hg1;refine ZaW ?_;first|(refine Qy ?_)|(refine Qz ?_)|(refine Qa rfl rfl (fun hc=>?_) (fun hc=>?_))
   all_goals (refine zn ?_)
   all_goals
    first
    | (refine zct ?_
       refine ZaG ?_;refine ZbV ?_;refine zR3 (c:=Qb9 q b i (by omega) (by omega) (by omega) hS) (h:=?_);rintro v1 w1 ⟨rfl,hS⟩;refine zb2 [_,_] ?_;refine zsn hS ?_;intro w1 hS;have hS:=hS.ns;refine zn ?_;have hJ:QV m j.f q b y.fin 0 (Q1H y) y.code=((jIns m j.f s x3).1,Q45 q b i):=(by rw [hdi,Q1 hx3,Q57 (by omega)]);refine zr ?_;refine QK vw (Q3 (n:=2) (by kernel_rfl) (by kernel_rfl) (hS.blkAt fd) (by rfl) (by rfl)) ?_
       (exact ⟨_,rfl,by rw [hJ];rfl,St.weak hS.sp hle⟩))
    | (refine zcf ?_
       refine zsk ?_)
   refine ZaP ?_;(exact ⟨⟨_,i+1,s1,vl4,css4,zh,zh,hL0,(by omega),by rw [hdi,Q1 hx3,Q58 (by omega),hs1],hj,hls4,hg1,hS.sp⟩,Q4 (by omega)⟩)
 · skip
   refine zex ?_;refine Zan ?_;refine ZbN ?_;refine zR2 (c:=jEnd_c (s:=s) (x:=y.fin) hsf hfb (by omega) hg.h hj ⟨_,_,_,_,_,rfl,he21,he22,he23,he24,he25⟩ hls hS fd) (h:=?_);rintro v1 w1 ⟨rfl,hS⟩;have hde:=Q5X (m:=m) (f:=j.f) (fi:=q) (bi:=b) (e:=y.fin) (s:=s) (i:=i) (l:=y.code) (by omega);refine ZaW ?_;first|(refine Qy ?_)|(refine Qz ?_)|(refine Qa rfl rfl (fun hc=>?_) (fun hc=>?_))
   all_goals (refine zn ?_)
   all_goals
    first
    | (refine zct ?_
       refine ZaG ?_;refine zm ?_;refine zR2 (c:=Qba q b (by omega) (by omega) hS) (h:=?_);rintro v1 w1 ⟨rfl,hS⟩;refine zb2 [_,_] ?_;refine zsn hS ?_;intro w1 hS;have hS:=hS.ns;refine zn ?_;have hJ:=hdi.trans (hde.trans (Q4m (by omega)));refine zr ?_;refine QK vw (Q3 (n:=2) (by kernel_rfl) (by kernel_rfl) (hS.blkAt fd) (by rfl) (by rfl)) ?_
       (exact ⟨_,rfl,by rw [hJ];rfl,St.weak hS.sp hle⟩))
    | (refine zcf ?_
       refine zsk ?_)
   refine Zaa ?_;refine zb0 [_,_] ?_;refine zsn hS ?_;intro w1 hS;have hS:=hS.ns;refine zn ?_;have hJ:=hdi.trans (hde.trans (Q5r _ _ (by rw [Q1u];omega)));refine zr ?_;refine QK vw (Q3 (n:=2) (by kernel_rfl) (by kernel_rfl) (hS.blkAt fd) (by rfl) (by rfl)) ?_;(exact ⟨_,rfl,by rw [hJ];rfl,St.weak hS.sp hle⟩)
theorem vcheck_c {cs:List Value}(hm:m.Short) (hx:modR.at cx cs m) (hS:St cx w L):
 Rets Tryz.prog Q8N [.agg ⟨cs⟩] w fun u w'=>u=fltV m.runs∧St cx w' L:=by
 have hx':=hx
 obtain ⟨vf,rfl,hf1⟩:=QP hx
 have hlf:=hf1.len
 refine lgo tyD Tryz.func44 ?_;refine Zaw ?_;intro p1 w1 hS;refine Qb hS ?_;intro p2 w1 hS;refine Zbe ?_;refine ZaF ?_;refine zR1 (c:=Qb8 hm hx' hS) (h:=?_);rintro v1 w1 ⟨rfl,hS⟩;unfold fltV;refine Qb hS ?_;intro p3 w1 hS;refine zsn hS ?_;intro w1 hS;have hS:=hS.ns;refine ZbP ?_;first|(refine Qy ?_)|(refine Qz ?_)|(refine Qa rfl rfl (fun hc=>?_) (fun hc=>?_))
 all_goals (refine zn ?_)
 all_goals
  first
  | (refine zct ?_
     refine ZaF ?_;refine zsn hS ?_;intro w1 hS;have hS:=hS.ns;refine zn ?_;have hJ:=Q8b (m:=m) (by omega);refine zr ?_;refine QK vw (Q3 (n:=2) (by kernel_rfl) (by kernel_rfl) (hS.blkAt fd) (by rfl) (by rfl)) ?_
     (exact ⟨_,rfl,by rw [hJ];rfl,hS.sp⟩))
  | (refine zcf ?_
     refine zsk ?_)
 refine ZaS ?_;have hF:m.fault.1=0:=(by omega);have hr0:=Q5k hF;have hlf8:=hm.1;refine Zba ?_;refine Zbi ?_
 refine zoL hS [1,2,15,16] (fun A LL ρ' w'=>∃(q:Nat),Has ρ' A∧Has ρ' [(17, .int .i64 q)]∧(q≤m.funcs.length)∧(m.runs=Q1q m q (m.funcs.drop q))∧St cx w' (LL)) (fun ρ' _=>(m.funcs.length - iv (ρ' 17)).toNat) ?_ ?_
 · exact ⟨0,zh,zh,(by omega),by rw [hr0];rfl,hS.sp⟩
 rintro ρ w1 ⟨q,hA,hρ,hq,hd,hS⟩;obtain ⟨ρ,rfl⟩:=env2 hA hρ
 refine ZaV ?_
 refine Q5 rfl (fun hc=>?_) (fun hc=>?_)
 · skip
   refine Zar ?_;refine Zae ?_;refine zi ?_;intro b1 o1 cs1 x1 hat1 hx1 he1;obtain ⟨vp1,vr1,vb1,rfl,hp1,hr1,hb1⟩:=Qo he1;refine ZaC ?_;intro p5 w1 hS;refine zm ?_;refine zsn hS ?_;intro w1 hS;have hS:=hS.ns;refine zn ?_;have hsf:=hm.2 x1 (List.mem_of_getElem? hx1);have hbl:=hsf.2.2.1;refine Zao ?_;refine Zbi ?_
   refine zoL hS [1,2,4,15,16,17,24] (fun A LL ρ' w'=>∃(b:Nat),Has ρ' A∧Has ρ' [(25, .int .i64 b)]∧(b≤x1.blocks.length)∧(Qx m x1 q 0 x1.blocks=Qx m x1 q b (x1.blocks.drop b))∧St cx w' (LL)) (fun ρ' _=>(x1.blocks.length - iv (ρ' 25)).toNat) ?_ ?_
   · exact ⟨0,zh,zh,(by omega),by rfl,hS.sp⟩
   rintro ρ w1 ⟨b,hA,hρ,hb,hdb,hS⟩;obtain ⟨ρ,rfl⟩:=env2 hA hρ
   refine ZaV ?_
   refine Q5 rfl (fun hc=>?_) (fun hc=>?_)
   · skip
     refine Zbq ?_;obtain ⟨y,hy⟩:∃y,x1.blocks[b]?=some y:=⟨_,List.getElem?_eq_getElem (by omega)⟩;refine Zag ?_;refine Zab ?_;refine ZaF ?_;refine ZbV ?_;refine zR3 (c:=vblock_c hm hF hx1 hy hx' hS) (h:=?_);rintro v1 w1 ⟨rfl,hS⟩;unfold fltV;refine Qb hS ?_;intro p7 w1 hS;refine zsn hS ?_;intro w1 hS;have hS:=hS.ns;refine ZbP ?_;first|(refine Qy ?_)|(refine Qz ?_)|(refine Qa rfl rfl (fun hc=>?_) (fun hc=>?_))
     all_goals (refine zn ?_)
     all_goals
      first
      | (refine zct ?_
         refine ZaF ?_;refine zsn hS ?_;intro w1 hS;have hS:=hS.ns;refine zn ?_;have hJ:=Qaa hd hx1 hdb hy rfl (by omega);refine zr ?_;refine QK vw (Q3 (n:=2) (by kernel_rfl) (by kernel_rfl) (hS.blkAt fd) (by rfl) (by rfl)) ?_
         (exact ⟨_,rfl,by rw [hJ];rfl,hS.sp⟩))
      | (refine zcf ?_
         refine zsk ?_)
     refine ZaP ?_;(exact ⟨⟨b+1,zh,zh,(by omega),runs_b hdb hy (by omega),hS.sp⟩,Q4 (by omega)⟩)
   · skip
     refine zex ?_;refine ZaP ?_;(exact ⟨⟨q+1,zh,zh,(by omega),runs_f hd hx1 hdb (by omega),hS.sp⟩,Q4 (by omega)⟩)
 · skip
   refine zex ?_;refine Zaa ?_;refine zb0 [_,_] ?_;refine zsn hS ?_;intro w1 hS;have hS:=hS.ns;refine zn ?_;have hJ:=runs_z hd (by omega);refine zr ?_;refine QK vw (Q3 (n:=2) (by kernel_rfl) (by kernel_rfl) (hS.blkAt fd) (by rfl) (by rfl)) ?_;(exact ⟨_,rfl,by rw [hJ];rfl,hS.sp⟩)
end Go.Proofs.YteflkifmgnpbhaaGreat
namespace Go.Proofs.YteflkifmgnpbhaaGreat
open Go.Lir
set_option maxHeartbeats 1000000
attribute [local irreducible] LC.wp Q0 QB QH retQ Q1k LO.wp Qh Calls
set_option linter.unusedSimpArgs false
set_option linter.unusedVariables false
attribute [local irreducible] Q2M keepF Q2s pick idxs Q1M Q1y Module.runs FunH.trim
variable {cx:Cx}{w:World}{L:List Res}
theorem make_c {m:Module}{cs:List Value}(hsh:m.Short) (hm:modR.at cx cs m) (hS:St cx w L):Rets Tryz.prog Qcv [.agg ⟨cs⟩] w fun u w'=>∃c' ds,u= .tuple #[.agg ⟨ds⟩,fltV m.runs]∧cx.Le c'∧modR.at c' ds (if m.runs.1=0 then m.trim else ⟨[]⟩)∧St c' w' L:=by
 have hm0:=hm
 obtain ⟨vf,rfl,hf⟩:=QP hm
 obtain ⟨a0,n0,rfl⟩:=Rep.SR.shape hf
 have hlen:=hf.len
 have hle:=St.refl hS
 all_goals refine lgo tyD Tryz.func42 ?_
 all_goals (refine Zaw ?_;intro p1 w1 hS;refine Qb hS ?_;intro p2 w1 hS;refine Qb hS ?_;intro p3 w1 hS;refine Zbe ?_;refine ZaF ?_;refine zR1 (c:=vcheck_c hsh hm0 hS) (h:=?_);rintro v1 w1 ⟨rfl,hS⟩;unfold fltV;refine Qb hS ?_;intro p4 w1 hS;refine zsn hS ?_;intro w1 hS;have hS:=hS.ns;refine ZbP ?_)
 all_goals (first|(refine Qy ?_)|(refine Qz ?_)|(refine Qa rfl rfl (fun hc=>?_) (fun hc=>?_)))
 all_goals (refine zn ?_)
 all_goals
  first
  | (refine zcf ?_
     all_goals refine zsk ?_)
  | (refine zct ?_
     all_goals (refine QJ ?_;refine zC [(0,none),(1,none),(2,some (some [1])),(3,some none)] ?_;have hS:=hS.drew;refine s_cq ?_;refine zb0 [_] ?_;refine Zac ?_;refine zv hS ?_;refine Zat ?_;refine zsn hS ?_;intro w1 hS;have hS:=hS.ns;refine ZaZ ?_;refine zsn hS ?_;intro w1 hS;have hS:=hS.ns;refine ZaA ?_;refine zr ?_;refine Q8f vw (Q3 (n:=1) (by kernel_rfl) (by kernel_rfl) (hS.blkAt fd) (by rfl) (by rfl)) vw (Q3 (n:=2) (by kernel_rfl) (by kernel_rfl) (hS.blkAt fd) (by rfl) (by rfl)) ?_)
     all_goals (first|(rw [List.length_map] at hc;have hZl:Z.length=I.length:=(by rw [hZ];exact hIl.symm);rw [List.take_of_length_le (l:=Z) (by omega)] at hlo hcd;obtain ⟨c9,hle9,hS9,hfull9, -⟩:=Q5c (g:=fun y=>y.b.code.map (renI KF)) (hS.out (r:=Q22 84 ps2) fd) hcd (hB.done hZsub hfst) hlo;obtain ⟨c10,hle10,hS10,hk10⟩:=St.freezeL (r:=funcR) (hS9.out (r:=sl 95 4 uo csso) fd) hfull9 rfl (by rw [List.length_map];omega);have hS:=hS10;simp only [List.eraseIdx_cons_zero,List.eraseIdx_cons_succ] at hS;exact ⟨_,rfl,c10,[uo],(by rw [hrz];rfl),(hle.trans hle9).trans hle10,(by rw [if_pos (by rw [hrz])];exact ⟨_,rfl,by rw [hZ,hfs1,hKF,hT,Q9Y hto] at hk10;exact hk10⟩),hS.sp⟩)|(exact ⟨_,rfl,cx,[.slice none 0 0],rfl,hle,(by rw [if_neg hc];exact ⟨_,rfl,Rep.SR.nil _ _ _⟩),hS.sp⟩)))
 all_goals (refine QJ ?_)
 all_goals (have hF:m.fault.1=0:=(Classical.byContradiction fun h=>by have:=congrArg Prod.fst (Q8b h);omega);have hmk:=mok_of hF;have hrz:m.runs=(0,0):=(by have h0:(Q1q m 0 m.funcs).1=0:=(by rw [←Q5k hF];omega);rw [Q5k hF];exact Q3Y h0))
 all_goals (refine Q1z ?_;refine zv hS ?_)
 all_goals (refine zR1 (c:=QbT hsh hm0 hS) (h:=?_);rintro v1 w1 ⟨c1,u0,css0,fs,ps,rfl,hle2,hu0,⟨hto,hls0,hst⟩,hS⟩;(try have hle:=hle.trans hle2);(try have hf:=hf.up hle2);have hfl:fs.length=m.funcs.length:=(by rw [←hto,List.length_map]);have hcl0:=hls0.1;have hfok:∀F∈fs,FOk (F.blocks.map (·.b)):=(fun F hF=>hmk.blk F.to (by rw [←hto];exact List.mem_map_of_mem hF)))
 all_goals (refine zsn hS ?_;intro w1 hS;have hS:=hS.ns;refine zn ?_;refine ZaJ ?_;refine QZ hS vw fd (n:=m.funcs.length) (by omega) ?_;refine ZaD ?_)
 refine zo [1,2,3,25] (fun A ρ' w'=>∃(k0:Cx) (i:Nat) (css:List (List Value)),Has ρ' A∧Has ρ' [(26, .int .i64 i)]∧(c1.Le k0)∧(i≤m.funcs.length)∧(css.length=m.funcs.length)∧(funhR.ls k0 css ((fs.map FunH.trim).take i++fs.drop i))∧St k0 w' (sl 95 4 u0 css::Q22 84 ps::blk p4 29 [.int .i64 m.runs.fst, .int .i64 m.runs.snd]::blk p3 29 [.int .i64 0, .int .i64 0]::blk p2 24 [.slice none 0 0]::blk p1 24 [u0]::L)) (fun ρ' _=>(m.funcs.length - iv (ρ' 26)).toNat) ?_ ?_
 · exact ⟨c1,0,css0,zh,zh,St.refl hS,(by omega),(by omega),(by rw [List.take_zero,List.drop_zero];exact hls0),hS.sp⟩
 rintro ρ w1 ⟨k0,i,css,hA,hρ,hle2,hi,hlc,hls,hS⟩;obtain ⟨ρ,rfl⟩:=env2 hA hρ;have hL0:=hle2;(try have hle:=hle.trans hle2);(try have hf:=hf.up hle2);(try have hst:=hst.up hle2)
 all_goals (refine ZaV ?_)
 refine Q5 rfl (fun hc=>?_) (fun hc=>?_)
 · skip
   all_goals (refine Zar ?_;refine Zbm ?_;obtain ⟨F,hFi⟩:∃F,fs[i]?=some F:=⟨_,List.getElem?_eq_getElem (by omega)⟩;obtain ⟨d8,hd8,hat8⟩:=hls.2 i F (by rw [Qbc (by rw [List.length_map]) (by omega)];exact hFi);have hat9:=hat8;obtain ⟨y1,y2,y3,rfl, -⟩:=Q39 hat9;refine zC [(0,none),(1,none),(2,none),(3,none),(4,none),(5,none),(6,none),(7,none),(8,some (some [1])),(9,none),(10,some none)] ?_;have hS:=hS.drew;refine ZaR ?_;refine Zaz ?_;refine Zau ?_;refine Zaz ?_;refine QY (m:=i) hS vw rfl fd (by omega) ?_;intro b8 o8 hl8;refine Zac ?_;refine Q3i hS hl8 rfl fd rfl hd8 ?_;refine Zat ?_)
   all_goals (refine zR1 (c:=blocks_c (hfok F (List.mem_of_getElem? hFi)) hat8 hS) (h:=?_);rintro v1 w1 ⟨c2,ds2,rfl,hle2,hat2,hS⟩;(try have hle:=hle.trans hle2);(try have hL0:=hL0.trans hle2);(try have hf:=hf.up hle2);(try have hls:=hls.up hle2);(try have hst:=hst.up hle2);(try have hat9:=hat9.up hle2))
   all_goals (refine ZaM ?_;refine QY (m:=i) hS vw rfl fd (by omega) ?_;intro b7 o7 hl7;refine ZaE ?_;have hat3:=hat2;obtain ⟨z1,z2,z3,rfl, -⟩:=Q39 hat3;refine Q6w hS hl7 rfl rfl rfl fd rfl hd8 rfl (funhR.one hat2) ?_;intro w7 hS;have hS:=hS.ns;refine ZaA ?_;refine ZaP ?_;exact ⟨⟨_,i+1,css.set i [.int .i64 F.trim.regs,z1,z2,z3],zh,zh,hL0,(by omega),(by rw [List.length_set];exact hlc),(by rw [←Q8k (x:=F.trim) (by rw [List.length_map]) (by rw [List.getElem?_map,hFi];rfl)];exact hls.set hat2),hS.sp⟩,Q4 (by omega)⟩)
 · skip
   all_goals (refine zex ?_;rw [List.take_of_length_le (by rw [List.length_map];omega),List.drop_of_length_le (by omega),List.append_nil] at hls;have hB:=Begin.of hst;obtain ⟨cods0,hcods0⟩:∃x,x=(fs.flatMap (·.blocks)).map (·.b.code):=⟨_,rfl⟩;rw [←hcods0] at hB;obtain ⟨fs1,hfs1⟩:∃x,x=fs.map FunH.trim:=⟨_,rfl⟩;rw [←hfs1] at hB hls;obtain ⟨T,hT⟩:∃x,x=m.funcs.map Fun.trim:=⟨_,rfl⟩;have hTl:T.length=m.funcs.length:=(by rw [hT,List.length_map]);have hfl1:fs1.length=m.funcs.length:=(by rw [hfs1,List.length_map,hfl]);have eT:fs1.map (FunH.as fun y=>y.b.code)=T:=(by rw [hT,←hto,hfs1,List.map_map,List.map_map];exact List.map_congr_left fun f _=>FunH.trim_to f);have hcalls:CallsOk T:=(by rw [hT];exact hmk.calls);have hTs:∀f∈T,f.Short:=(fun f hf=>by rw [hT] at hf;obtain ⟨g,hg,rfl⟩:=List.mem_map.1 hf;exact trim_short (hsh.2 g hg));have hT12:∀f∈T,f.blocks.length≤12:=(fun f hf=>by rw [hT] at hf;obtain ⟨g,hg,rfl⟩:=List.mem_map.1 hf;exact QaS (hmk.blk g hg).few);have hone:=hmk.one;have hfew:=hmk.few;refine Zao ?_;refine QZ hS vw fd (n:=m.funcs.length) (by omega) ?_;refine Q8V ?_)
   all_goals (obtain ⟨c5,hle5,hS5,hfull,back5⟩:=Q5c (g:=fun y=>y.b.code) (St.mv1 hS) hB.cd hB.hd hls;rw [eT] at hfull;obtain ⟨c6,hle6,hS6,hfz,back6⟩:=St.lend (r:=funcR) hS5 hfull rfl (by omega);refine zR2 (c:=walk_c (n:=m.funcs.length) (D:=1200000) (adj:=fAdj T) (by omega) (by omega) (by have:=hcalls.lt;rw [hTl] at this;exact this) (fAdj_few hTs hT12) (by decide) (by kernel_rfl) (next2_c hTs hT12 hcalls hfz hTl.symm) (hS6.out (i:=3) rfl)) (h:=?_);rintro v1 w1 ⟨c7,hle7,hS7⟩;have hS8:=back5 (back6 (hS7.weak hle7));rw [show Q2s (fAdj T) m.funcs.length=keepF T by unfold keepF;rw [hTl]] at hS8;obtain ⟨KF,hKF⟩:∃x,x=keepF T:=⟨_,rfl⟩;rw [←hKF] at hS8;obtain ⟨I,hI⟩:∃x,x=idxs KF:=⟨_,rfl⟩;rw [←hI] at hS8;have hKl:KF.length=fs1.length:=(by rw [hKF,Q9a];omega);have hIl:=Qbi hKl;rw [←hI] at hIl;have hpl:=Q2n KF fs1;obtain ⟨c8,hle2,hS9,hl⟩:=St.freezeL (r:=intR) (hS8.out (i:=2) rfl) (Q8q _) rfl (by rw [List.length_map];omega);obtain ⟨a5,n5,e5⟩:=Rep.SR.shape hl;rw [List.length_map] at e5;subst e5;(try have hle:=hle.trans hle2);(try have hL0:=hL0.trans hle2);(try have hf:=hf.up hle2);(try have hls:=hls.up hle2);(try have hst:=hst.up hle2);(try have hB:=hB.up hle2);have hS:St c8 _ (Q22 84 ps::sl 95 4 u0 css::blk p1 24 [u0]::blk p4 29 [.int .i64 m.runs.fst, .int .i64 m.runs.snd]::blk p3 29 [.int .i64 0, .int .i64 0]::blk p2 24 [.slice none 0 0]::L):=hS9;obtain ⟨Z,hZ⟩:∃x,x=pick KF fs1:=⟨_,rfl⟩;have hZsub:Z.Sublist fs1:=(by rw [hZ];exact Q4c _ _))
   all_goals (refine Zab ?_;refine Zbz ?_;intro p7 w1 hS;refine zn ?_;refine Zan ?_;refine Zbi ?_)
   refine zo [1,2,3,6,7,45,46] (fun A ρ' w'=>∃(k1:Cx) (t:Nat) (uo:Value) (csso:List (List Value)) (ps2:List (Value×List (List Value))),Has ρ' A∧Has ρ' [(47, .int .i64 t)]∧(c8.Le k1)∧(t≤I.length)∧(funhR.ls k1 csso (Z.take t))∧(oneC uo=true)∧(ps2.map Prod.fst=ps.map Prod.fst)∧(Cods k1 ps2 (putL (renI KF) cods0 ((Z.take t).flatMap (·.blocks))))∧St k1 w' (sl 95 4 uo csso::blk p7 24 [uo]::Q22 84 ps2::sl 95 4 u0 css::blk p1 24 [u0]::blk p4 29 [.int .i64 m.runs.fst, .int .i64 m.runs.snd]::blk p3 29 [.int .i64 0, .int .i64 0]::blk p2 24 [.slice none 0 0]::L)) (fun ρ' _=>(I.length - iv (ρ' 47)).toNat) ?_ ?_
   · exact ⟨c8,0, .slice none 0 0,[],ps,zh,zh,St.refl hS,(by omega),Rep.LR.nil _ _ _,rfl,rfl,hB.cd,by have hS:=hS.nil (T:=95) (es:=4);exact hS.sp⟩
   rintro ρ w1 ⟨k1,t,uo,csso,ps2,hA,hρ,hle2,ht,hlo,huo,hfst,hcd,hS⟩;obtain ⟨ρ,rfl⟩:=env2 hA hρ;have hL1:=hle2;(try have hle:=hle.trans hle2);(try have hL0:=hL0.trans hle2);(try have hl:=hl.up hle2);(try have hf:=hf.up hle2);(try have hls:=hls.up hle2);(try have hst:=hst.up hle2);(try have hB:=hB.up hle2)
   all_goals (refine ZaV ?_)
   refine Q5 rfl (fun hc=>?_) (fun hc=>?_)
   · skip
     all_goals (refine ZbT ?_;intro b1 o1 cs1 x1 hat1 hx1 he1;obtain rfl:=Qt he1;refine Yan ?_;refine Zab ?_)
     all_goals (obtain ⟨k,hk,rfl⟩:∃k:Nat,I[t]?=some k∧(k:Int)=x1:=(by rw [List.getElem?_map] at hx1;cases e:I[t]? with|none=>rw [e] at hx1;cases hx1|some k=>rw [e] at hx1;exact ⟨k,rfl,by simpa using hx1⟩);have hj9:=(List.getElem?_eq_some_iff.1 hk).1;have hkt:=(Q8r KF k).1 (by rw [←hI];exact List.mem_of_getElem? hk);have hkn:=(List.getElem?_eq_some_iff.1 hkt).1;obtain ⟨F,hFk⟩:∃F,fs1[k]?=some F:=⟨_,List.getElem?_eq_getElem (by omega)⟩;have hZt:Z[t]?=some F:=(by rw [hZ,Qd9 hKl (by rw [←hI];exact hk)];exact hFk);obtain ⟨dF,hdF,hatF⟩:=hls.2 k F hFk;have hat9:=hatF;obtain ⟨y1,y2,y3,rfl,hy1,hy2,hy3⟩:=Q39 hatF;obtain ⟨a3,n3,rfl⟩:=Rep.SR.shape hy3;have hTk:T[k]?=some F.to:=(by rw [←eT,List.getElem?_map,hFk];rfl);have oy1:=hy1.oneC;have oy2:=hy2.oneC;have hF12:F.blocks.length≤12:=(by have:=hT12 F.to (List.mem_of_getElem? hTk);rw [show F.to.blocks.length=F.blocks.length from List.length_map _] at this;exact this))
     all_goals (refine Zao ?_;refine zm ?_;refine QY (m:=k) hS vw rfl fd (by omega) ?_;intro b8 o8 hl8;refine Q3i hS hl8 rfl fd rfl hdF ?_;refine Qb hS ?_;intro p10 w1 hS;refine zsn hS ?_;intro w1 hS;have hS:=hS.ns;refine zn ?_;refine Zci ?_)
     refine zo [1,2,3,6,7,10,45,46,47,57,58] (fun A ρ' w'=>∃(k2:Cx) (b:Nat) (ps3:List (Value×List (List Value))),Has ρ' A∧Has ρ' [(59, .int .i64 b)]∧(k1.Le k2)∧(b≤F.blocks.length)∧(ps3.map Prod.fst=ps.map Prod.fst)∧(Cods k2 ps3 (putL (renI KF) cods0 ((Z.take t).flatMap (·.blocks)++F.blocks.take b)))∧St k2 w' (blk p10 95 [.int .i64 F.regs,y1,y2, .slice a3 F.blocks.length n3]::sl 95 4 uo csso::blk p7 24 [uo]::Q22 84 ps3::sl 95 4 u0 css::blk p1 24 [u0]::blk p4 29 [.int .i64 m.runs.fst, .int .i64 m.runs.snd]::blk p3 29 [.int .i64 0, .int .i64 0]::blk p2 24 [.slice none 0 0]::L)) (fun ρ' _=>(F.blocks.length - iv (ρ' 59)).toNat) ?_ ?_
     · exact ⟨k1,0,ps2,zh,zh,St.refl hS,(by omega),hfst,(by rw [List.take_zero,List.append_nil];exact hcd),hS.sp⟩
     rintro ρ w1 ⟨k2,b,ps3,hA,hρ,hle2,hb,hfst3,hcd3,hS⟩;obtain ⟨ρ,rfl⟩:=env2 hA hρ;have hL2:=hle2;(try have hle:=hle.trans hle2);(try have hL0:=hL0.trans hle2);(try have hL1:=hL1.trans hle2);(try have hl:=hl.up hle2);(try have hf:=hf.up hle2);(try have hls:=hls.up hle2);(try have hst:=hst.up hle2);(try have hB:=hB.up hle2);(try have hlo:=hlo.up hle2);(try have hcd:=hcd.up hle2);(try have hy1:=hy1.up hle2);(try have hy2:=hy2.up hle2);(try have hy3:=hy3.up hle2);(try have hat9:=hat9.up hle2)
     all_goals (refine ZaV ?_)
     refine Q5 rfl (fun hc=>?_) (fun hc=>?_)
     · skip
       all_goals (refine ZbB ?_;refine Q11 (m:=b) vw rfl hy3 rfl (by omega) ?_;intro b2 o2 cs2 x2 hat2 hx2 he2;obtain ⟨vp2,ve21,ve22,ve23,ve24,ve25,rfl,hp2,ho2,he21,he22,he23,he24,he25⟩:=Q1x he2;refine ZaC ?_;intro p12 w1 hS;refine zsn hS ?_;intro w1 hS;have hS:=hS.ns;refine zn ?_;have hm2:=List.mem_of_getElem? hx2;have hh2:=hB.hd F (List.mem_of_getElem? hFk) x2 hm2;have hq2:=hB.not (f:=renI KF) hZsub hZt hx2;have hd3:Hd ps3 x2:=(by have:=hh2.1;unfold Hd at this ⊢;rw [hfst3];exact this);obtain ⟨css3,hps3,hin3,hnl3⟩:=hd3.at_ hcd3 hq2;have hS:=hS.bigOut (i:=4) rfl hps3;have hcl3:=hin3.1;have hlq:=(List.getElem?_eq_some_iff.1 hps3).1;have hS:St k2 _ (sl 84 8 x2.v css3::big (fun p:Value×List (List Value)=>sl 84 8 p.1 p.2) (ps3.eraseIdx x2.q)::blk p12 92 [.int .i64 x2.b.regs,vp2,x2.v, .int .i64 x2.b.fin.op, .int .i64 x2.b.fin.a, .int .i64 x2.b.fin.yes.block,ve21,ve22, .int .i64 x2.b.fin.no.block,ve23,ve24,ve25]::blk p10 95 [.int .i64 F.regs,y1,y2, .slice a3 F.blocks.length n3]::sl 95 4 uo csso::blk p7 24 [uo]::sl 95 4 u0 css::blk p1 24 [u0]::blk p4 29 [.int .i64 m.runs.fst, .int .i64 m.runs.snd]::blk p3 29 [.int .i64 0, .int .i64 0]::blk p2 24 [.slice none 0 0]::L):=hS.sp)
       all_goals (refine Zao ?_;refine QZ hS vw fd (n:=x2.b.code.length) (by omega) ?_;refine ZaD ?_)
       refine zo [1,2,3,6,7,10,12,45,46,47,57,58,59,65] (fun A ρ' w'=>∃(i:Nat) (css4:List (List Value)),Has ρ' A∧Has ρ' [(66, .int .i64 i)]∧(i≤x2.b.code.length)∧(insR.ls k2 css4 ((x2.b.code.map (renI KF)).take i++x2.b.code.drop i))∧(css4.length=x2.b.code.length)∧St k2 w' (sl 84 8 x2.v css4::big (fun p:Value×List (List Value)=>sl 84 8 p.1 p.2) (ps3.eraseIdx x2.q)::blk p12 92 [.int .i64 x2.b.regs,vp2,x2.v, .int .i64 x2.b.fin.op, .int .i64 x2.b.fin.a, .int .i64 x2.b.fin.yes.block,ve21,ve22, .int .i64 x2.b.fin.no.block,ve23,ve24,ve25]::blk p10 95 [.int .i64 F.regs,y1,y2, .slice a3 F.blocks.length n3]::sl 95 4 uo csso::blk p7 24 [uo]::sl 95 4 u0 css::blk p1 24 [u0]::blk p4 29 [.int .i64 m.runs.fst, .int .i64 m.runs.snd]::blk p3 29 [.int .i64 0, .int .i64 0]::blk p2 24 [.slice none 0 0]::L)) (fun ρ' _=>(x2.b.code.length - iv (ρ' 66)).toNat) ?_ ?_
       · exact ⟨0,css3,zh,zh,(by omega),(by rw [List.take_zero,List.drop_zero];exact hin3),(by omega),hS.sp⟩
       rintro ρ w1 ⟨i,css4,hA,hρ,hi,hin4,hcl4,hS⟩;obtain ⟨ρ,rfl⟩:=env2 hA hρ
       all_goals (refine ZaV ?_)
       refine Q5 rfl (fun hc=>?_) (fun hc=>?_)
       · skip
         all_goals (refine Zar ?_;refine Zbm ?_;refine QJ ?_;obtain ⟨x3,hx3⟩:∃x,x2.b.code[i]?=some x:=⟨_,List.getElem?_eq_getElem (by omega)⟩;obtain ⟨d3,hd3',hat3⟩:=hin4.2 i x3 (by rw [Qbc (by rw [List.length_map]) (by omega)];exact hx3);obtain ⟨z1,z2,rfl,hz1,hz2⟩:=QG hat3;have hm3:=List.mem_of_getElem? hx3;refine Zba ?_;refine zm ?_;refine QY (m:=i) hS vw rfl fd (by omega) ?_;intro b4 o4 hl4;refine Yae ?_;refine QI (j:=0) hS hl4 rfl fd rfl hd3' rfl ?_)
         all_goals (first|(refine Qp ?_)|(refine Qu ?_)|(refine Q7 rfl rfl (fun hc=>?_) (fun hc=>?_)))
         all_goals (refine zn ?_)
         all_goals
          first
          | (refine zcf ?_
             all_goals refine zsk ?_)
          | (refine zct ?_
             all_goals (have hkk:=hcalls.kept (by omega) hTk (by rw [←hKF];exact hkt) (List.mem_map_of_mem hm2) hm3 hc;rw [←hKF] at hkk;have hx0:=(hcalls F.to (List.mem_of_getElem? hTk) x2.b (List.mem_map_of_mem hm2) x3 hm3 hc).1;have hr3:insR.at k2 [.int .i64 x3.op, .int .i64 x3.a, .int .i64 x3.b, .int .i64 x3.c, .int .i64 (num KF x3.k.toNat), .int .i64 x3.n,z1,z2] (renI KF x3):=(by unfold renI;rw [if_pos hc];exact ⟨_,_,rfl,hz1,hz2⟩);have hfk:=Q7d hkk;rw [←hI,Int.toNat_of_nonneg hx0] at hfk;refine zC [(0,none),(1,none),(2,none),(3,none),(4,none),(5,none),(6,none),(7,none),(8,none),(9,none),(10,some (some [1])),(11,none),(12,none),(13,some none)] ?_;have hS:=hS.drew;refine ZaR ?_;refine Zaz ?_;refine Zaz ?_;refine Zau ?_;refine Zaz ?_;refine QY (m:=i) hS vw rfl fd (by omega) ?_;intro b5 o5 hl5;refine Zac ?_;refine Zbh ?_;refine QI (j:=4) hS hl5 rfl fd rfl hd3' rfl ?_)
             all_goals (refine Zat ?_;refine zR2 (c:=Qax hl (by rw [List.length_map];omega) hS) (h:=?_);rintro v1 w1 ⟨rfl,hS⟩;rw [hfk];refine ZaM ?_;refine QY (m:=i) hS vw rfl fd (by omega) ?_;intro b6 o6 hl6;refine Zac ?_;refine Yae ?_;refine ZaE ?_;refine Q1m (j:=4) (css':=css4.set i [.int .i64 x3.op, .int .i64 x3.a, .int .i64 x3.b, .int .i64 x3.c, .int .i64 (num KF x3.k.toNat), .int .i64 x3.n,z1,z2]) hS hl6 rfl rfl fd rfl hd3' (by decide) rfl rfl ?_;intro w6 hS;have hS:=hS.ns;refine zt ?_)
             all_goals refine zcn ?_)
         all_goals (refine ZaP ?_;(first|(exact ⟨⟨i+1,css4.set i [.int .i64 x3.op, .int .i64 x3.a, .int .i64 x3.b, .int .i64 x3.c, .int .i64 (num KF x3.k.toNat), .int .i64 x3.n,z1,z2],zh,zh,(by omega),(by rw [←Q8k (x:=renI KF x3) (by rw [List.length_map]) (by rw [List.getElem?_map,hx3];rfl)];exact hin4.set hr3),(by rw [List.length_set];exact hcl4),hS.sp⟩,Q4 (by omega)⟩)|(exact ⟨⟨i+1,css4,zh,zh,(by omega),(by rw [Qbb (by rw [List.length_map]) (by rw [List.getElem?_map,hx3];show some (renI KF x3)=_;unfold renI;rw [if_neg hc]) (by omega)];exact hin4),hcl4,hS.sp⟩,Q4 (by omega)⟩)))
       · skip
         all_goals (refine zex ?_;rw [List.take_of_length_le (by rw [List.length_map];omega),List.drop_of_length_le (by omega),List.append_nil] at hin4;have hS:St k2 _ (Q22 84 (ps3.set x2.q (x2.v,css4))::blk p12 92 [.int .i64 x2.b.regs,vp2,x2.v, .int .i64 x2.b.fin.op, .int .i64 x2.b.fin.a, .int .i64 x2.b.fin.yes.block,ve21,ve22, .int .i64 x2.b.fin.no.block,ve23,ve24,ve25]::blk p10 95 [.int .i64 F.regs,y1,y2, .slice a3 F.blocks.length n3]::sl 95 4 uo csso::blk p7 24 [uo]::sl 95 4 u0 css::blk p1 24 [u0]::blk p4 29 [.int .i64 m.runs.fst, .int .i64 m.runs.snd]::blk p3 29 [.int .i64 0, .int .i64 0]::blk p2 24 [.slice none 0 0]::L):=St.bigIn (f:=(fun p:Value×List (List Value)=>sl 84 8 p.1 p.2)) (x':=(x2.v,css4)) (i:=0) hS rfl hlq;refine ZaP ?_;exact ⟨⟨_,b+1,ps3.set x2.q (x2.v,css4),zh,zh,hL2,(by omega),(by rw [QdB hps3];exact hfst3),(by rw [Qq hx2,←List.append_assoc,Q92];exact hcd3.set hin4 (by rw [List.length_map];exact hnl3)),hS.sp⟩,Q4 (by omega)⟩)
     · skip
       all_goals (refine zex ?_;rw [List.take_of_length_le (l:=F.blocks) (by omega)] at hcd3;refine ZbA ?_;refine zB1 hS [_,_,_,_] ?_;intro b1 w1 hS;refine za Q7i Q9U hS ?_;intro vp1 w1 css1 hls1 hv1 hS;have hS:=hS.ns;refine Zbf ?_;intro w1 hS;have hS:=hS.ns;refine ZbO ?_;exact ⟨⟨_,t+1,_,_,ps3,zh,zh,hL1,(by omega),(by rw [Qq hZt];assumption),by assumption,hfst3,(by rw [Qq hZt,List.flatMap_append,List.flatMap_cons,List.flatMap_nil,List.append_nil];exact hcd3),hS.sp⟩,Q4 (by omega)⟩)
   · skip
     all_goals (refine zex ?_;refine ZaF ?_;refine zb0 [_,_] ?_;refine zsn hS ?_;intro w1 hS;have hS:=hS.ns;refine zsn hS ?_;intro w1 hS;have hS:=hS.ns;refine ZaY ?_;refine Q8f vw (Q3 (n:=1) (by kernel_rfl) (by kernel_rfl) (hS.blkAt fd) (by rfl) (by rfl)) vw (Q3 (n:=2) (by kernel_rfl) (by kernel_rfl) (hS.blkAt fd) (by rfl) (by rfl)) ?_;rw [List.length_map] at hc;have hZl:Z.length=I.length:=(by rw [hZ];exact hIl.symm);rw [List.take_of_length_le (l:=Z) (by omega)] at hlo hcd;obtain ⟨c9,hle9,hS9,hfull9, -⟩:=Q5c (g:=fun y=>y.b.code.map (renI KF)) (hS.out (r:=Q22 84 ps2) fd) hcd (hB.done hZsub hfst) hlo;obtain ⟨c10,hle10,hS10,hk10⟩:=St.freezeL (r:=funcR) (hS9.out (r:=sl 95 4 uo csso) fd) hfull9 rfl (by rw [List.length_map];omega);have hS:=hS10;simp only [List.eraseIdx_cons_zero,List.eraseIdx_cons_succ] at hS;exact ⟨_,rfl,c10,[uo],(by rw [hrz];rfl),(hle.trans hle9).trans hle10,(by rw [if_pos (by rw [hrz])];exact ⟨_,rfl,by rw [hZ,hfs1,hKF,hT,Q9Y hto] at hk10;exact hk10⟩),hS.sp⟩)
end Go.Proofs.YteflkifmgnpbhaaGreat
namespace Go.Proofs.YteflkifmgnpbhaaGreat
open Go.Lir
set_option maxHeartbeats 1000000
attribute [local irreducible] LC.wp Q0 QB QH retQ Q1k LO.wp Qh Calls
set_option linter.unusedSimpArgs false
set_option linter.unusedVariables false
attribute [local irreducible] hasB Q1o Q1c Q2Z Q1e
variable {cx:Cx}{w:World}{L:List Res}
def Q4n (hp:Nat) (h:List Bool):Res:=Res.ex fun v=>star (blk hp 163 [v]) (sl 4 1 v (h.map Qi))
theorem Q2P {hp:Nat}{h:List Bool}(hS:St cx w (Q4n hp h::L)):∃v,St cx w (blk hp 163 [v]::sl 4 1 v (h.map Qi)::L):=by
 obtain ⟨v,hS⟩:=St.ex hS
 exact ⟨v,hS.star⟩
theorem Q2t {hp:Nat}{h:List Bool}{v:Value}(hS:St cx w (blk hp 163 [v]::sl 4 1 v (h.map Qi)::L)):St cx w (Q4n hp h::L):=St.ex' v hS.star'
theorem rhas_u {hp:Nat}{h:List Bool}{v:Value}{r:Int}(hS:St cx w (blk hp 163 [v]::sl 4 1 v (h.map Qi)::L)):
 Rets Tryz.prog Q7q [.pointer (some ⟨hp,0,none⟩), .int .i64 r] w fun u w'=>u= .bool (hasB h r)∧St cx w' (blk hp 163 [v]::sl 4 1 v (h.map Qi)::L):=by
 have hlen:(h.map Qi).length=h.length:=List.length_map _
 refine lgo tyD Tryz.func153 ?_;refine ZbQ ?_;first|(refine Q2b ?_)|(refine Q2c ?_)|(refine Q1a rfl rfl (fun hc=>?_) (fun hc=>?_))
 all_goals (refine Zbb ?_;refine Zcb ?_;refine Yaa ?_;(first|refine zgn ?_|(refine zgy ?_;(first|(refine Q1A hS hel1 rfl nth1 (Q1D Qi h false (by omega)) rfl ?_)|(refine zl hS ?_))));(first|refine zgn ?_|(refine zgy ?_;(first|(refine zL ?_)|(refine zLe hS ?_))));first|refine zgn ?_|(refine zgy ?_;(first|(refine Q1f ?_)|(refine Q1g ?_)|(refine Qr rfl rfl (fun hc=>?_) (fun hc=>?_)))))
 all_goals (refine Yad ?_;refine Zbb ?_;refine Yam ?_;refine Yaa ?_;(first|refine zgn ?_|(refine zgy ?_;(first|(refine Q1A hS hel1 rfl nth1 (Q1D Qi h false (by omega)) rfl ?_)|(refine zl hS ?_))));refine Yac ?_;(first|refine zgn ?_|(refine zgy ?_;(first|(refine Yao ?_;intro b1 o1 cs1 x1 hat1 hx1 he1;obtain rfl:=Qt he1)|(refine zie hS ?_;intro b1 o1 hel1)|(refine zij hS ?_;intro b1 o1 hel1))));(first|refine zgn ?_|(refine zgy ?_;(first|(refine Q1A hS hel1 rfl nth1 (Q1D Qi h false (by omega)) rfl ?_)|(refine zl hS ?_)|(refine zlk hS ?_)|(refine zlj hS ?_)|(refine zli hS ?_)|(refine zlb hS ?_))));refine Yad ?_;refine ZaB ?_;(first|(refine ⟨_,rfl,?_,hS.sp⟩;unfold hasB;simp [*];omega;done)|(refine ⟨_,rfl,?_,hS.sp⟩;unfold hasB;simp [*];done)))
theorem Qd0 {hp:Nat}{h:List Bool}{v:Value}(hl:h.length≤16) (hS:St cx w (blk hp 163 [v]::sl 4 1 v (h.map Qi)::L)):
 Rets Tryz.prog Q60 [.pointer (some ⟨hp,0,none⟩)] w fun u w'=>∃c',cx.Le c'∧intR.sl c' u (Q1o h)∧St c' w' (blk hp 163 [v]::sl 4 1 v (h.map Qi)::L):=by
 have hlen:(h.map Qi).length=h.length:=List.length_map _
 refine lgo tyD Tryz.func100 ?_;refine Zaf ?_;refine Zaf ?_;refine ZaI ?_;have hS:=St.nil (T:=3) (es:=1) hS
 refine zo [0] (fun A ρ' w'=>∃(j:Nat) (vo:Value) (co:List (List Value)),Has ρ' A∧Has ρ' [(4, .int .i64 j),(3,vo)]∧(j≤h.length)∧(intR.ls cx co (Q1e h j))∧St cx w' (sl 3 1 vo co::blk hp 163 [v]::sl 4 1 v (h.map Qi)::L)) (fun ρ' _=>(h.length - iv (ρ' 4)).toNat) ?_ ?_
 · exact ⟨0,_,[],zh,zh,(by omega),by unfold Q1e;exact Rep.LR.nil _ _ _,hS.sp⟩
 rintro ρ w1 ⟨j,vo,co,hA,hρ,hj,hls,hS⟩;obtain ⟨ρ,rfl⟩:=env2 hA hρ;have hll:=Q5E h j;have hsu:=Q3q h j
 refine Zbr ?_;refine ZaL ?_;(first|(refine Q1A hS (by assumption) rfl nth2 (Q1D Qi h false (by omega)) rfl ?_)|(refine zl hS ?_));(first|(refine zL ?_)|(refine zLe hS ?_));refine Zaj ?_
 refine Q5 rfl (fun hc=>?_) (fun hc=>?_)
 · skip
   refine Zar ?_;refine Zae ?_;refine ZaL ?_;(first|(refine Q1A hS (by assumption) rfl nth2 (Q1D Qi h false (by omega)) rfl ?_)|(refine zl hS ?_));refine zm ?_;(first|(refine Yao ?_;intro b1 o1 cs1 x1 hat1 hx1 he1;obtain rfl:=Qt he1)|(refine zie hS ?_;intro b1 o1 hel1));(first|(refine Q1A hS (by assumption) rfl nth2 (Q1D Qi h false (by omega)) rfl ?_)|(refine zl hS ?_)|(refine zlk hS ?_)|(refine zlj hS ?_)|(refine zli hS ?_)|(refine zlb hS ?_));refine zn ?_
   refine Q5O rfl (fun hc=>?_) (fun hc=>?_)
   · skip
     refine Zbc ?_;refine zB1 hS [_] ?_;intro b1 w1 hS;refine za Q3a Q61 hS ?_;intro vp1 w1 css1 hls1 hv1 hS;have hS:=hS.ns;refine Zab ?_;refine Zax ?_;(exact ⟨⟨j+1,_,_,zh,zh,(by omega),by rw [hsu,if_pos (by assumption)];exact hls1,hS.sp⟩,Q4 (by omega)⟩)
   · skip
     refine zsk ?_;refine Zax ?_;(first|(exact ⟨⟨j+1,_,_,zh,zh,(by omega),by rw [hsu,if_pos (by assumption)];exact hls1,hS.sp⟩,Q4 (by omega)⟩)|(exact ⟨⟨j+1,_,_,zh,zh,(by omega),by rw [hsu,if_neg (by rw [hc];decide),List.append_nil];exact hls,hS.sp⟩,Q4 (by omega)⟩))
 · skip
   refine Zco ?_;(refine ⟨_,rfl,?_⟩;obtain ⟨c',hle,hS',hk⟩:=St.freezeL (r:=intR) hS hls rfl (by omega);refine ⟨c',hle,?_,hS'⟩;rw [show j=h.length by omega] at hk;unfold Q1o;exact hk)
theorem rin_c {s:List Int}{c:Int}{v:Value}(hK:intR.sl cx v s) (hS:St cx w L):Rets Tryz.prog R_In [v, .int .i64 c] w fun u w'=>u= .bool (decide (c∈s))∧St cx w' L:=by
 have hlen:=hK.len
 refine lgo tyD Tryz.func154 ?_;refine Zaf ?_;refine ZaI ?_
 refine zoL hS [0,1] (fun A LL ρ' w'=>∃(j:Nat),Has ρ' A∧Has ρ' [(5, .int .i64 j)]∧(j≤s.length)∧(c∈s↔c∈s.drop j)∧St cx w' (LL)) (fun ρ' _=>(s.length - iv (ρ' 5)).toNat) ?_ ?_
 · exact ⟨0,zh,zh,(by omega),by simp,hS.sp⟩
 rintro ρ w1 ⟨j,hA,hρ,hj,hd,hS⟩;obtain ⟨ρ,rfl⟩:=env2 hA hρ
 refine ZbW ?_
 refine Q5 rfl (fun hc=>?_) (fun hc=>?_)
 · skip
   refine Zar ?_;refine ZaG ?_;refine zi ?_;intro b1 o1 cs1 x1 hat1 hx1 he1;obtain rfl:=Qt he1;refine Yan ?_;refine zm ?_;first|(refine Qp ?_)|(refine Qu ?_)|(refine Q7 rfl rfl (fun hc=>?_) (fun hc=>?_))
   all_goals (refine zn ?_)
   all_goals
    first
    | (refine zct ?_
       refine Zas ?_
       ((refine ⟨_,rfl,?_,hS.sp⟩;(rw [decide_eq_true];rw [hd,Q1 hx1,List.mem_cons];exact .inl (by omega));done)))
    | (refine zcf ?_
       refine zsk ?_)
   refine Zax ?_;(exact ⟨⟨j+1,zh,zh,(by omega),by rw [hd,Q1 hx1,List.mem_cons];exact ⟨fun h=>h.resolve_left (by omega), .inr⟩,hS.sp⟩,Q4 (by omega)⟩)
 · skip
   refine ZbG ?_;(first|(refine ⟨_,rfl,?_,hS.sp⟩;rw [decide_eq_true];rw [hd,Q1 hx1,List.mem_cons];exact .inl (by omega);done)|(refine ⟨_,rfl,?_,hS.sp⟩;rw [decide_eq_false];rw [hd,List.drop_of_length_le (by omega)];exact List.not_mem_nil;done))
theorem rpass_u {hp:Nat}{h:List Bool}{v v2:Value}{xs:List Int}(hl:h.length≤16) (hx:intR.sl cx v2 xs) (hS:St cx w (blk hp 163 [v]::sl 4 1 v (h.map Qi)::L)):
 Rets Tryz.prog Q5Z [.pointer (some ⟨hp,0,none⟩),v2] w fun u w'=>u= .int .i64 (Q1c h [] xs)∧St cx w' (blk hp 163 [v]::sl 4 1 v (h.map Qi)::L):=by
 have hxl:=hx.len
 have hll:(Q1o h).length≤h.length:=by unfold Q1o;exact Q5E _ _
 rw [Qda]
 refine lgo tyD Tryz.func157 ?_;refine Zaf ?_;refine ZaI ?_
 refine zoL hS [0,1] (fun A LL ρ' w'=>∃(j:Nat),Has ρ' A∧Has ρ' [(5, .int .i64 j)]∧(j≤xs.length)∧(Q2Z h xs [] xs=Q2Z h xs (xs.take j) (xs.drop j))∧St cx w' (LL)) (fun ρ' _=>(xs.length - iv (ρ' 5)).toNat) ?_ ?_
 · exact ⟨0,zh,zh,(by omega),by rfl,hS.sp⟩
 rintro ρ w1 ⟨j,hA,hρ,hj,hgo,hS⟩;obtain ⟨ρ,rfl⟩:=env2 hA hρ
 refine ZbW ?_
 refine Q5 rfl (fun hc=>?_) (fun hc=>?_)
 · skip
   refine Zar ?_;refine Zbr ?_;refine ZaX ?_;intro b1 o1 cs1 x1 hat1 hx1 he1;obtain rfl:=Qt he1;refine Yan ?_;rw [Q1 hx1,Q2Z] at hgo;refine zR2 (c:=rhas_u hS) (h:=?_);rintro v1 w1 ⟨rfl,hS⟩;refine Zbo ?_
   refine Q5O rfl (fun hc=>?_) (fun hc=>?_)
   · skip
     refine Zas ?_;(exact ⟨_,rfl,(by rw [hgo,if_neg (by simpa using hc)]),hS.sp⟩)
   · skip
     have hc1:hasB h x1=true:=(by simpa using hc);rw [if_pos hc1] at hgo;refine zsk ?_;refine QJ ?_;refine zD (ci 8 [7]) ?_;have hS:=hS.drew;refine ZbV ?_;((refine QcC vw hx rfl rfl ⟨_,rfl⟩ rfl (by omega) (by omega) ?_;intro v4 hs4;rw [List.drop_zero] at hs4));refine zm ?_;refine ZaX ?_;intro b2 o2 cs2 x2 hat2 hx2 he2;((obtain rfl:=Qt he2));refine Yan ?_;refine zR2 (c:=rin_c hs4 hS) (h:=?_);rintro v1 w1 ⟨rfl,hS⟩;obtain rfl:x1=x2:=Option.some.inj (hx1.symm.trans hx2);refine zn ?_
     refine Q5 rfl (fun hc=>?_) (fun hc=>?_)
     · skip
       refine Zas ?_;first|(exact ⟨_,rfl,(by rw [hgo,if_neg (by simpa using hc)]),hS.sp⟩)|(exact ⟨_,rfl,(by rw [hgo,if_pos hc]),hS.sp⟩)
     · skip
       refine zsk ?_;refine Zax ?_;(exact ⟨⟨j+1,zh,zh,(by omega),by rw [hgo,if_neg hc,Qq hx1],hS.sp⟩,Q4 (by omega)⟩)
 · skip
   refine zex ?_;refine Zae ?_;refine zR1 (c:=Qd0 (L:=L) hl hS.sp) (h:=?_);rintro v5 w5 ⟨c5,hle5,hk5,hS⟩;have hx5:=hx.up hle5;have hie:j=xs.length:=(by omega);subst hie;rw [List.take_length,List.drop_length,Q2Z] at hgo;refine Zab ?_;refine ZaI ?_
   refine zoL hS [1,6] (fun A LL ρ' w'=>∃(q:Nat),Has ρ' A∧Has ρ' [(7, .int .i64 q)]∧(q≤(Q1o h).length)∧(∀y∈(Q1o h).take q,y∈xs)∧St c5 w' (LL)) (fun ρ' _=>((Q1o h).length - iv (ρ' 7)).toNat) ?_ ?_
   · exact ⟨0,zh,zh,(by omega),by simp,hS.sp⟩
   rintro ρ w1 ⟨q,hA,hρ,hq,hall,hS⟩;obtain ⟨ρ,rfl⟩:=env2 hA hρ
   refine ZbW ?_
   refine Q5 rfl (fun hc=>?_) (fun hc=>?_)
   · skip
     refine Zar ?_;refine ZaG ?_;refine ZaX ?_;intro b3 o3 cs3 x3 hat3 hx3 he3;obtain rfl:=Qt he3;refine Yan ?_;refine zR2 (c:=rin_c hx5 hS) (h:=?_);rintro v1 w1 ⟨rfl,hS⟩;refine Zbo ?_
     refine Q5O rfl (fun hc=>?_) (fun hc=>?_)
     · skip
       have hn3:x3∉xs:=(by simpa using hc);refine Zas ?_;first|(exact ⟨_,rfl,(by rw [hgo,if_neg (by simpa using hc)]),hS.sp⟩)|(exact ⟨_,rfl,(by rw [hgo,if_pos hc]),hS.sp⟩)|(exact ⟨_,rfl,(by rw [hgo,if_neg (fun ha=>hn3 (ha x3 (List.mem_of_getElem? hx3)))]),St.weak hS.sp hle5⟩)
     · skip
       have hn3:x3∈xs:=(by simpa using hc);refine zsk ?_;refine Zax ?_;((exact ⟨⟨q+1,zh,zh,(by omega),Q3x hall hx3 hn3,hS.sp⟩,Q4 (by omega)⟩))
   · skip
     refine ZbG ?_;first|(exact ⟨_,rfl,(by rw [hgo,if_neg (by simpa using hc)]),hS.sp⟩)|(exact ⟨_,rfl,(by rw [hgo,if_pos hc]),hS.sp⟩)|(exact ⟨_,rfl,(by rw [hgo,if_neg (fun ha=>hn3 (ha x3 (List.mem_of_getElem? hx3)))]),St.weak hS.sp hle5⟩)|(exact ⟨_,rfl,(by rw [hgo,if_pos (Q5b hall (by omega))]),St.weak hS.sp hle5⟩)
theorem rnew_u {n:Int}(hS:St cx w L):Rets Tryz.prog Qcm [.int .i64 n] w fun u w'=>∃hp v,u= .pointer (some ⟨hp,0,none⟩)∧St cx w' (blk hp 163 [v]::sl 4 1 v ((List.replicate (min n 16).toNat true).map Qi)::L):=by
 refine lgo tyD Tryz.func93 ?_;refine Zaf ?_;refine Zaa ?_;refine zb0 [_] ?_;refine zb hS ?_;intro p6 w1 hS;refine Zab ?_;refine ZaI ?_;have hS:=St.nil (T:=4) (es:=1) hS
 refine zo [0,3] (fun A ρ' w'=>∃(j:Nat) (v:Value),Has ρ' A∧Has ρ' [(4, .int .i64 j)]∧(j≤(min n 16).toNat)∧St cx w' (sl 4 1 v ((List.replicate j true).map Qi)::blk p6 163 [v]::L)) (fun ρ' _=>(min n 16 - iv (ρ' 4)).toNat) ?_ ?_
 · exact ⟨0,_,zh,zh,(by omega),hS.sp⟩
 rintro ρ w1 ⟨j,v,hA,hρ,hj,hS⟩;obtain ⟨ρ,rfl⟩:=env2 hA hρ
 refine Zbr ?_;first|(refine Q1f ?_)|(refine Q1g ?_)|(refine Qr rfl rfl (fun hc=>?_) (fun hc=>?_))
 all_goals (refine Zbb ?_;first|refine zgn ?_|(refine zgy ?_;(first|(refine Q1f ?_)|(refine Q1g ?_)|(refine Qr rfl rfl (fun hc=>?_) (fun hc=>?_)))))
 all_goals (refine ZaK ?_)
 all_goals
  first
  | (refine zct ?_
     refine Zar ?_;refine Zbc ?_;refine Zbj ?_;refine zB1 hS [_] ?_;intro b1 w1 hS;refine Q3G Q3Z (.inl QaQ) hS vw vw fd (hS.srcB1 fd rfl) (by simp;omega) ?_;intro vp w2 hS;have hS:=hS.ns;rw [show (List.replicate j true).map Qi++[[Value.bool true]]=(List.replicate (j+1) true).map Qi by rw [List.replicate_succ',List.map_append];rfl] at hS;refine ZaL ?_;refine zst hS ?_;intro w1 hS;have hS:=hS.ns;refine Zcj ?_
     (exact ⟨⟨j+1,_,zh,zh,(by omega),hS.sp⟩,Q4 (by omega)⟩))
  | (refine zcf ?_
     all_goals (refine Zco ?_)
     all_goals (exact ⟨_,rfl,_,v,rfl,(by rw [show (min n 16).toNat=j by omega];exact hS.sp)⟩))
end Go.Proofs.YteflkifmgnpbhaaGreat
namespace Go.Proofs.YteflkifmgnpbhaaGreat
open Go.Lir
set_option maxHeartbeats 1000000
attribute [local irreducible] LC.wp Q0 QB QH retQ Q1k LO.wp Qh Calls
set_option linter.unusedSimpArgs false
set_option linter.unusedVariables false
attribute [local irreducible] hasB Q1o Q1c Q1e Q2L upTo QU
variable {cx:Cx}{w:World}{L:List Res}{j:JP}{h:List Bool}{vl:Value}{css:List (List Value)}{i:Nat}{m:Module}
@[reducible] def JP.kcells (j:JP) (vl:Value):List Value:=[j.vm, .int .i64 j.f.regs,j.vp,j.vr,j.vb, .pointer (some ⟨j.hp,0,none⟩),vl]
theorem rhas_c {hp:Nat}{r:Int}(hS:St cx w L) (hi:nth L i=some (Q4n hp h)):Rets Tryz.prog Q7q [.pointer (some ⟨hp,0,none⟩), .int .i64 r] w fun u w'=>u= .bool (hasB h r)∧St cx w' L:=by
 obtain ⟨v,h2⟩:=Q2P (hS.out hi)
 refine (rhas_u h2).mono ?_
 rintro u w' ⟨h3,h4⟩
 exact ⟨h3,St.back0 (Q2t h4) hi⟩
theorem rlist_h {hp:Nat}(hl:h.length≤16) (hS:St cx w L) (hi:nth L i=some (Q4n hp h)):Rets Tryz.prog Q60 [.pointer (some ⟨hp,0,none⟩)] w fun u w'=>∃c',cx.Le c'∧intR.sl c' u (Q1o h)∧St c' w' L:=by
 obtain ⟨v,h2⟩:=Q2P (hS.out hi)
 refine (Qd0 hl h2).mono ?_
 rintro u w' ⟨c',h3,h5,h4⟩
 exact ⟨c',h3,h5,St.back0 (Q2t h4) hi⟩
theorem rpass_h {hp:Nat}{v2:Value}{xs:List Int}(hl:h.length≤16) (hx:intR.sl cx v2 xs) (hS:St cx w L) (hi:nth L i=some (Q4n hp h)):Rets Tryz.prog Q5Z [.pointer (some ⟨hp,0,none⟩),v2] w fun u w'=>u= .int .i64 (Q1c h [] xs)∧St cx w' L:=by
 obtain ⟨v,h2⟩:=Q2P (hS.out hi)
 refine (rpass_u hl hx h2).mono ?_
 rintro u w' ⟨h3,h4⟩
 exact ⟨h3,St.back0 (Q2t h4) hi⟩
theorem Q1U {s:JS}{k kd:Int}{held:Bool}(hls:tyR.ls cx css s.l) (hS:St cx w (blk j.sp 158 (j.kcells vl)::Q4n j.hp s.h::sl 115 3 vl css::L)):
 Rets Tryz.prog Q9M [.pointer (some ⟨j.sp,0,none⟩), .int .i64 k, .int .i64 kd, .bool held] w fun u w'=>u= .int .i64 (QU s k kd held)∧St cx w' (blk j.sp 158 (j.kcells vl)::Q4n j.hp s.h::sl 115 3 vl css::L):=by
 have hlc:=hls.1
 refine lgo tyD Tryz.func98 ?_;refine Zbx ?_;first|(refine Q1f ?_)|(refine Q1g ?_)|(refine Qr rfl rfl (fun hc=>?_) (fun hc=>?_))
 all_goals (refine Zbb ?_;refine Zcb ?_;refine Zak ?_;(first|refine zgn ?_|(refine zgy ?_;refine QZ hS vw fd hlc ?_));first|refine zgn ?_|(refine zgy ?_;(first|(refine Q2b ?_)|(refine Q2c ?_)|(refine Q1a rfl rfl (fun hc=>?_) (fun hc=>?_)))))
 all_goals (refine ZaK ?_)
 all_goals
  first
  | (refine zct ?_
     all_goals (refine Zas ?_)
     all_goals (refine ⟨_,rfl,?_,hS.sp⟩;rw [QaO (by omega)];done))
  | (refine zcf ?_
     refine zsk ?_)
 refine ZaS ?_;obtain ⟨t,ht⟩:∃t,s.l[k.toNat]?=some t:=⟨_,List.getElem?_eq_getElem (by omega)⟩;obtain ⟨d,hd,hrd⟩:=hls.2 _ _ ht;obtain ⟨vd,rfl,hld⟩:=Q9 hrd;refine Zag ?_;refine Zbj ?_;refine zm ?_;(first|(refine Yao ?_;intro b1 o1 cs1 x1 hat1 hx1 he1;obtain ⟨vl1,rfl,hl1⟩:=Q9 he1)|(refine zie hS ?_;intro b1 o1 hel1)|(refine zij hS ?_;intro b1 o1 hel1));refine Yae ?_;refine Q1A hS hel1 rfl fd rfl hd rfl ?_;refine zm ?_;first|(refine Qy ?_)|(refine Qz ?_)|(refine Qa rfl rfl (fun hc=>?_) (fun hc=>?_))
 all_goals (refine zn ?_)
 all_goals
  first
  | (refine zct ?_
     refine Zas ?_
     first|(refine ⟨_,rfl,?_,hS.sp⟩;rw [QaO (by omega)];done)|(refine ⟨_,rfl,?_,hS.sp⟩;rw [Qcq (by omega) ht (by omega)];done))
  | (refine zcf ?_
     refine zsk ?_)
 refine ZaS ?_;cases held
 all_goals (refine zD (ci 17 [14,16]) ?_;have hS:=hS.drew;refine zm ?_;refine Zbb ?_;refine Yam ?_;refine Zak ?_;refine Zcb ?_;refine Zak ?_;refine Yac ?_;(first|refine zgn ?_|(refine zgy ?_;(first|(refine Yao ?_;intro b2 o2 cs2 x2 hat2 hx2 he2;obtain ⟨vl2,rfl,hl2⟩:=Q9 he2)|(refine zie hS ?_;intro b2 o2 hel2)|(refine zij hS ?_;intro b2 o2 hel2))));refine Yah ?_;(first|refine zgn ?_|(refine zgy ?_;refine QI (j:=1) hS hel2 rfl fd rfl hd rfl ?_));first|refine zgn ?_|(refine zgy ?_;refine zR2 (c:=rhas_c hS fd) (h:=?_);rintro v1 w1 ⟨rfl,hS⟩;cases hb:hasB s.h t.r))
 all_goals (refine Yal ?_;refine ZaK ?_)
 all_goals
  first
  | (refine zct ?_
     refine Zas ?_
     first|(refine ⟨_,rfl,?_,hS.sp⟩;rw [QaO (by omega)];done)|(refine ⟨_,rfl,?_,hS.sp⟩;rw [Qcq (by omega) ht (by omega)];done)|(refine ⟨_,rfl,?_,hS.sp⟩;rw [Qcr (by omega) ht (by omega) hb];done))
  | (refine zcf ?_
     all_goals refine zsk ?_)
 all_goals (refine Zas ?_;first|(refine ⟨_,rfl,?_,hS.sp⟩;rw [QaO (by omega)];done)|(refine ⟨_,rfl,?_,hS.sp⟩;rw [Qcq (by omega) ht (by omega)];done)|(refine ⟨_,rfl,?_,hS.sp⟩;rw [Qcr (by omega) ht (by omega) hb];done)|(refine ⟨_,rfl,?_,hS.sp⟩;rw [want_0 (by omega) ht (by omega) (fun h=>Bool.noConfusion h)];done)|(refine ⟨_,rfl,?_,hS.sp⟩;rw [want_0 (by omega) ht (by omega) (fun _=>hb)];done))
theorem Qah {s:JS}{l regs:List Int}{want:List Ty}{v1 v2 v3:Value}(hsh:∀t∈want,t.Short) (hls:tyR.ls cx css s.l) (h1:intR.sl cx v1 l) (h2:tyR.sl cx v2 want) (h3:intR.sl cx v3 regs) (hS:St cx w (blk j.sp 158 (j.kcells vl)::Q4n j.hp s.h::sl 115 3 vl css::L)):
 Rets Tryz.prog Q9N [.pointer (some ⟨j.sp,0,none⟩),v1,v2,v3] w fun u w'=>u= .int .i64 (QA (Q3U s l want regs))∧St cx w' (blk j.sp 158 (j.kcells vl)::Q4n j.hp s.h::sl 115 3 vl css::L):=by
 have hl1:=h1.len
 have hl2:=h2.len
 have hlc:=hls.1
 have hle:=St.refl hS
 have hlsX:=hls.2
 unfold Q3U
 refine lgo tyD Tryz.func99 ?_;refine Zbx ?_;(first|(refine QZ hS vw fd hlc ?_)|(refine zL ?_));refine zm ?_;(first|(refine QZ hS vw fd hlc ?_)|(refine zL ?_));first|(refine Qy ?_)|(refine Qz ?_)|(refine Qa rfl rfl (fun hc=>?_) (fun hc=>?_))
 all_goals (refine zn ?_)
 all_goals
  first
  | (refine zct ?_
     refine Zas ?_
     (exact ⟨_,rfl,by rw [if_pos (by omega)];rfl,hS⟩))
  | (refine zcf ?_
     refine zsk ?_)
 refine ZaI ?_
 refine zoL hS [0,1,2,3] (fun A LL ρ' w'=>∃(k0:Cx) (q:Nat),Has ρ' A∧Has ρ' [(9, .int .i64 q)]∧(cx.Le k0)∧(q≤l.length)∧(Q1K s regs l want=Q1K s regs (l.drop q) (want.drop q))∧(want.length=l.length)∧St k0 w' (LL)) (fun ρ' _=>(l.length - iv (ρ' 9)).toNat) ?_ ?_
 · exact ⟨cx,0,zh,zh,St.refl hS,(by omega),by rfl,by omega,hS.sp⟩
 rintro ρ w1 ⟨k0,q,hA,hρ,hle2,hq,hd,hw,hS⟩;obtain ⟨ρ,rfl⟩:=env2 hA hρ;have hL0:=hle2;(try have hle:=hle.trans hle2);(try have hls:=hls.up hle2);(try have h1:=h1.up hle2);(try have h2:=h2.up hle2);(try have h3:=h3.up hle2)
 refine Zbr ?_;(first|(refine QZ hS vw fd hlc ?_)|(refine zL ?_));refine Zaj ?_
 refine Q5 rfl (fun hc=>?_) (fun hc=>?_)
 · skip
   refine Zar ?_;refine ZaS ?_;refine zD (ci 17 [16]) ?_;have hS:=hS.drew;refine ZbV ?_;refine zi ?_;intro b1 o1 cs1 x1 hat1 hx1 he1;obtain rfl:=Qt he1;refine Yan ?_;first|(refine Q1f ?_)|(refine Q1g ?_)|(refine Qr rfl rfl (fun hc=>?_) (fun hc=>?_))
   all_goals (refine Zbb ?_;refine Yac ?_;(first|refine zgn ?_|(refine zgy ?_;refine Q11 vw rfl h1 rfl (by omega) ?_;intro b8 o8 cs8 x8 hat8 hx8 he8;obtain rfl:=Qt he8;obtain rfl:x1=x8:=Option.some.inj (hx1.symm.trans hx8)));refine Yar ?_;refine Zcb ?_;refine Zak ?_;(first|refine zgn ?_|(refine zgy ?_;refine QZ hS vw fd hlc ?_));first|refine zgn ?_|(refine zgy ?_;(first|(refine Q2b ?_)|(refine Q2c ?_)|(refine Q1a rfl rfl (fun hc=>?_) (fun hc=>?_)))))
   all_goals (refine ZaK ?_)
   all_goals
    first
    | (refine zcf ?_
       refine zsk ?_)
    | (refine zct ?_
       all_goals (refine Zas ?_)
       all_goals (first|(exact ⟨_,rfl,by rw [if_pos (by omega)];rfl,hS⟩)|(exact ⟨_,rfl,by rw [if_neg (by omega),hd,Q8p hx1 (List.getElem?_eq_getElem (by omega)) (Q3R (by omega))];rfl,St.weak hS.sp hL0⟩)))
   refine QJ ?_;obtain ⟨t,ht⟩:∃t,s.l[x1.toNat]?=some t:=⟨_,List.getElem?_eq_getElem (by omega)⟩;obtain ⟨d,hdt,hrd⟩:=hls.2 _ _ ht;have g1:=Q2W (by omega) ht;refine Q1z ?_;refine zm ?_;refine zm ?_;((refine zi ?_;intro b2 o2 cs2 x2 hat2 hx2 he2;((obtain ⟨vl2,rfl,hl2⟩:=Q9 he2))));refine Yaf ?_;refine zm ?_;refine zR2 (c:=QcT x2 (hsh x2 (List.mem_of_getElem? hx2)) he2 h3 hS) (h:=?_);rintro v1 w1 ⟨c3,ds,rfl,hle2,hu3,hS⟩;(try have hle:=hle.trans hle2);(try have hL0:=hL0.trans hle2);(try have hl2:=hl2.up hle2);(try have he2:=he2.up hle2);(try have hls:=hls.up hle2);(try have h1:=h1.up hle2);(try have h2:=h2.up hle2);(try have h3:=h3.up hle2);have hrd:=Rep.R.up hrd hle2;(have hrd':=hrd);obtain ⟨vd,rfl,hld⟩:=Q9 hrd;rcases hn:x2.ren regs with _|y<;>rw [hn] at hu3<;>simp only [Option.getD_none,Option.getD_some] at hu3<;>(have hu3':=hu3)<;>obtain ⟨vu,rfl,hlu⟩:=Q9 hu3
   all_goals (refine Zct ?_;intro p10 w1 hS;refine zsn hS ?_;intro w1 hS;have hS:=hS.ns;refine Zab ?_;refine QJ ?_;refine zD (ci 17 [14,16]) ?_;have hS:=hS.drew;refine zm ?_;refine znt ?_;refine zm ?_;refine Yaq ?_;refine Zcb ?_;refine Zak ?_;refine Yac ?_;refine Yac ?_;(first|refine zgn ?_|(refine zgy ?_;refine Q11 vw rfl h1 rfl (by omega) ?_;intro b4 o4 cs4 x4 hat4 hx4 he4;obtain rfl:=Qt he4;obtain rfl:x1=x4:=Option.some.inj (hx1.symm.trans hx4)));refine Yar ?_;(first|refine zgn ?_|(refine zgy ?_;refine Q2G hS vw rfl fd (by omega) (by omega) ?_;intro b5 o5 hel5));(first|refine zgn ?_|(refine zgy ?_;refine Q3i hS hel5 rfl fd rfl hdt ?_));first|refine zgn ?_|(refine zgy ?_;refine zR2 (c:=Qab _ _ hu3' hrd' hS) (h:=?_);rintro v1 w1 ⟨rfl,hS⟩;cases hdc:decide (y=t)))
   all_goals (refine Yal ?_;refine ZaK ?_)
   all_goals
    first
    | (refine zct ?_
       all_goals (refine Zas ?_)
       all_goals (first|(exact ⟨_,rfl,by rw [if_pos (by omega)];rfl,hS⟩)|(exact ⟨_,rfl,by rw [if_neg (by omega),hd,Q8p hx1 (List.getElem?_eq_getElem (by omega)) (Q3R (by omega))];rfl,St.weak hS.sp hL0⟩)|(exact ⟨_,rfl,by rw [if_neg (by omega),hd,Q72 hx1 hx2 g1 hn];rfl,St.weak hS.sp hL0⟩)|(exact ⟨_,rfl,by rw [if_neg (by omega),hd,Q73 hx1 hx2 g1 hn (fun h=>of_decide_eq_false hdc h.symm)];rfl,St.weak hS.sp hL0⟩)))
    | (refine zcf ?_
       refine zsk ?_)
   refine Zax ?_;(exact ⟨⟨_,q+1,zh,zh,hL0,(by omega),by rw [hd,Qdr hx1 hx2 g1 hn (of_decide_eq_true hdc).symm],hw,hS.sp⟩,Q4 (by omega)⟩)
 · skip
   refine ZbG ?_;first|(exact ⟨_,rfl,by rw [if_pos (by omega)];rfl,hS⟩)|(exact ⟨_,rfl,by rw [if_neg (by omega),hd,Q8p hx1 (List.getElem?_eq_getElem (by omega)) (Q3R (by omega))];rfl,St.weak hS.sp hL0⟩)|(exact ⟨_,rfl,by rw [if_neg (by omega),hd,Q72 hx1 hx2 g1 hn];rfl,St.weak hS.sp hL0⟩)|(exact ⟨_,rfl,by rw [if_neg (by omega),hd,Q73 hx1 hx2 g1 hn (fun h=>of_decide_eq_false hdc h.symm)];rfl,St.weak hS.sp hL0⟩)|(exact ⟨_,rfl,by rw [if_neg (by omega),hd,Qdq (by omega)];rfl,St.weak hS.sp hL0⟩)
theorem Q6f {xs:List Int}{v:Value}(hn:xs.length≤1000) (hS:St cx w (sl 3 1 v (xs.map QX)::L)):Rets Tryz.prog R_first [v] w fun u w'=>u= .int .i64 (Q1v xs)∧St cx w' (sl 3 1 v (xs.map QX)::L):=by
 have hlc:(xs.map QX).length=xs.length:=List.length_map _
 refine lgo tyD Tryz.func151 ?_;refine Zaf ?_;refine ZaI ?_
 refine zoL hS [0] (fun A LL ρ' w'=>∃(q:Nat),Has ρ' A∧Has ρ' [(3, .int .i64 q)]∧(q≤xs.length)∧(Q1v xs=Q1v (xs.drop q))∧St cx w' (LL)) (fun ρ' _=>(xs.length - iv (ρ' 3)).toNat) ?_ ?_
 · exact ⟨0,zh,zh,(by omega),by rfl,hS.sp⟩
 rintro ρ w1 ⟨q,hA,hρ,hq,hd,hS⟩;obtain ⟨ρ,rfl⟩:=env2 hA hρ
 refine Zbr ?_;refine QZ hS vw fd hlc ?_;refine Zaj ?_
 refine Q5 rfl (fun hc=>?_) (fun hc=>?_)
 · skip
   refine Zbq ?_;obtain ⟨x,hx⟩:∃x,xs[q]?=some x:=⟨_,List.getElem?_eq_getElem (by omega)⟩;have hxc:(xs.map QX)[q]?=some (QX x):=(by rw [List.getElem?_map,hx];rfl);refine Zbc ?_;refine QY hS vw rfl fd (by omega) ?_;intro b1 o1 hel1;refine Q1A hS hel1 rfl fd rfl hxc rfl ?_;first|(refine Qy ?_)|(refine Qz ?_)|(refine Qa rfl rfl (fun hc=>?_) (fun hc=>?_))
   all_goals (refine zn ?_)
   all_goals
    first
    | (refine zct ?_
       refine ZaG ?_;refine QY hS vw rfl fd (by omega) ?_;intro b2 o2 hel2;refine Q1A hS hel2 rfl fd rfl hxc rfl ?_;refine ZaB ?_
       ((refine ⟨_,rfl,?_,hS.sp⟩;(rw [hd,Q1 hx,Q1v,if_pos (by omega)]);done)))
    | (refine zcf ?_
       refine zsk ?_)
   refine Zax ?_;(exact ⟨⟨q+1,zh,zh,(by omega),by rw [hd,Q1 hx,Q1v,if_neg (by omega)],hS.sp⟩,Q4 (by omega)⟩)
 · skip
   refine ZbG ?_;(first|(refine ⟨_,rfl,?_,hS.sp⟩;rw [hd,Q1 hx,Q1v,if_pos (by omega)];done)|(refine ⟨_,rfl,?_,hS.sp⟩;rw [hd,List.drop_of_length_le (by omega)];rfl;done))
end Go.Proofs.YteflkifmgnpbhaaGreat
namespace Go.Proofs.YteflkifmgnpbhaaGreat
open Go.Lir
set_option maxHeartbeats 1000000
attribute [local irreducible] LC.wp Q0 QB QH retQ Q1k LO.wp Qh Calls
set_option linter.unusedSimpArgs false
set_option linter.unusedVariables false
attribute [local irreducible] hasB Q1o Q1c Q1e Q2L upTo QU Q1v rmk
variable {cx:Cx}{w:World}{L:List Res}{j:JP}{h:List Bool}{vl:Value}{css:List (List Value)}{i:Nat}{m:Module}

@[reducible] def KLf (j:JP) (s:JS) (vl:Value) (css:List (List Value)) (L:List Res):List Res:=blk j.sp 158 (j.kcells vl)::Q4n j.hp s.h::sl 115 3 vl css::L
theorem rmakes_c {s : JS} {x : Ins} {cs : List Value}(hm:m.Short) (hF:Qm m.funcs.length x=0) (hg:JGood s) (hj:j.Fits cx m) (hx:insR.at cx cs x) (hls:tyR.ls cx css s.l) (hS:St cx w (blk j.sp 158 (j.kcells vl)::Q4n j.hp s.h::sl 115 3 vl css::L)):
 Rets Tryz.prog Q8I [.pointer (some ⟨j.sp,0,none⟩), .agg ⟨cs⟩] w fun u w'=>∃c' v,cx.Le c'∧u= .tuple #[v, .int .i64 (QA (rmk m j.f s x))]∧(∀ts,rmk m j.f s x= .ok ts→tyR.sl c' v ts)∧St c' w' (blk j.sp 158 (j.kcells vl)::Q4n j.hp s.h::sl 115 3 vl css::L):=by
 have hx':=hx
 have hop:=Q36 hF
 have hlc:=hls.1
 have hn:=hg.n
 have hm1:=hj.m
 have hN:∀{c:Cx},tyR.at c [.int .i64 1, .int .i64 0, .slice none 0 0] number:=Q1d (Rep.SR.nil _ _ _)
 obtain ⟨vr,va,rfl,hr,ha⟩:=QG hx
 have hlr:=hr.len
 have hla:=ha.len
 refine lgo tyD Tryz.func95 ?_;refine Zaw ?_;intro p3 w1 hS;refine zm ?_;refine Zab ?_;refine Zaa ?_;refine zb1 [_,_,_] ?_;refine Q1G (cs:=[_,_,_]) vw (by rfl) ?_;intro nb w1 hb1 hf1 _ hk1;have hS:=hS.laid hb1 hf1 hk1;refine Zab ?_;refine ZaJ ?_;refine Zcu ?_;refine Zbt ?_;first|(refine Qp ?_)|(refine Qu ?_)|(refine Q7 rfl rfl (fun hc=>?_) (fun hc=>?_))
 all_goals (refine Zab ?_)
 all_goals
  first
  | (refine zct ?_
     refine zsk ?_)
  | (refine zcf ?_
     refine Q1z ?_;first|(refine Qp ?_)|(refine Qu ?_)|(refine Q7 rfl rfl (fun hc=>?_) (fun hc=>?_))
     all_goals (refine zm ?_)
     all_goals refine zn ?_)
 all_goals
  first
  | (refine zct ?_
     all_goals (refine ZaG ?_;refine Zab ?_;have hM:rmk m j.f s x= .ok [number]:=rmk_1 (by omega);refine Zbu ?_)
     all_goals (first|(exact ⟨_,rfl,cx,_,St.refl hS,cd_e hM,Q1R hM,hS.sp⟩)|(exact ⟨_,rfl,cx,_,St.refl hS,cd_o hM,Q13 hM (Rep.SR.nil _ _ _),hS.sp⟩)|(exact ⟨_,rfl,cx,_,St.refl hS,cd_w hM hw,Q13 hM (Rep.SR.nil _ _ _),hS.sp⟩)|(obtain ⟨c9,hle9,hS,hk9⟩:=St.freeze1 (r:=tyR) (L:=KLf j s vl css L) hS.sp (hN:tyR.at _ _ number);exact ⟨_,rfl,c9,_,hle9,cd_c hC,Q46 hT hk9,hS⟩)|(obtain ⟨c9,hle9,hS,hk9⟩:=St.freeze1 (r:=tyR) (L:=KLf j s vl css L) hS.sp (hN:tyR.at _ _ number);exact ⟨_,rfl,c9,_,hle9,cd_o hM,Q13 hM hk9,hS⟩)))
  | (refine zcf ?_
     refine Zaa ?_;first|(refine Qp ?_)|(refine Qu ?_)|(refine Q7 rfl rfl (fun hc=>?_) (fun hc=>?_))
     all_goals (refine Zab ?_)
     all_goals
      first
      | (refine zct ?_
         refine QJ ?_;refine zC [(0,none),(1,none),(2,none),(3,none),(5,none),(6,none),(7,none),(4,some (some [7])),(8,some (some [])),(9,some (some [])),(10,some (some [])),(11,none),(12,some none)] ?_;have hS:=hS.drew;refine Zbv ?_;refine Zaz ?_;refine Zau ?_;refine Zaz ?_;refine Zbn ?_;refine zR4 (c:=Q1U (s:=s) (k:=x.a) (kd:=1) (held:=false) hls hS.p3) (h:=?_);rintro v1 w1 ⟨rfl,hS⟩;refine ZaH ?_;refine zR4 (c:=Q1U (s:=s) (k:=x.b) (kd:=1) (held:=false) hls hS.p3) (h:=?_);rintro v1 w1 ⟨rfl,hS⟩;refine ZaH ?_;refine Q4Q (cs:=[_,_]) vw vw (by rfl) ?_;intro fb w1 hb1 hf1 _ hk1;have hS:=hS.laid hb1 hf1 hk1;have hS:=St.slOf (es:=1) (css:=[QU s x.a 1 false,QU s x.b 1 false].map QX) hS rfl (by simp [QX]) rfl;refine ZaH ?_;refine zR1 (c:=Q6f (xs:=[QU s x.a 1 false,QU s x.b 1 false]) (by simp) hS) (h:=?_);rintro v1 w1 ⟨rfl,hS⟩;refine ZaM ?_;refine zm ?_;refine ZaE ?_;refine zm ?_;refine ZaA ?_;have hC:QA (rmk m j.f s x)=Q1v [QU s x.a 1 false,QU s x.b 1 false]:=(by rw [rmk_2 (by omega),Q3e,Q3e];exact Q8w (Q2o _ _ _) (Q2o _ _ _) _);have hT:∀ts,rmk m j.f s x= .ok ts→ts=[number]:=(fun ts h=>by rw [rmk_2 (by omega)] at h;exact ok1 h fun _ h=>ok1 h fun _ h=>by cases h;rfl);refine Zbu ?_
         first|(exact ⟨_,rfl,cx,_,St.refl hS,cd_e hM,Q1R hM,hS.sp⟩)|(exact ⟨_,rfl,cx,_,St.refl hS,cd_o hM,Q13 hM (Rep.SR.nil _ _ _),hS.sp⟩)|(exact ⟨_,rfl,cx,_,St.refl hS,cd_w hM hw,Q13 hM (Rep.SR.nil _ _ _),hS.sp⟩)|(obtain ⟨c9,hle9,hS,hk9⟩:=St.freeze1 (r:=tyR) (L:=KLf j s vl css L) hS.sp (hN:tyR.at _ _ number);exact ⟨_,rfl,c9,_,hle9,cd_c hC,Q46 hT hk9,hS⟩))
      | (refine zcf ?_
         refine Zaa ?_;first|(refine Qp ?_)|(refine Qu ?_)|(refine Q7 rfl rfl (fun hc=>?_) (fun hc=>?_))
         all_goals (refine Zab ?_)
         all_goals
          first
          | (refine zct ?_
             refine Zan ?_;refine Zbj ?_;refine ZaL ?_;obtain ⟨vh,hS⟩:=Q2P (hp:=j.hp) (h:=s.h) (L:=blk j.sp 158 (j.kcells vl)::sl 115 3 vl css::blk nb 115 [.int .i64 1, .int .i64 0, .slice none 0 0]::blk p3 84 [.int .i64 x.op, .int .i64 x.a, .int .i64 x.b, .int .i64 x.c, .int .i64 x.k, .int .i64 x.n,vr,va]::L) hS.sp;refine Q5i hS vw fd rfl ?_;refine QZ hS vw fd (List.length_map _) ?_;have hS:=Q2t (L:=blk j.sp 158 (j.kcells vl)::sl 115 3 vl css::blk nb 115 [.int .i64 1, .int .i64 0, .slice none 0 0]::blk p3 84 [.int .i64 x.op, .int .i64 x.a, .int .i64 x.b, .int .i64 x.c, .int .i64 x.k, .int .i64 x.n,vr,va]::L) (h:=s.h) (hp:=j.hp) (v:=vh) hS.sp;first|(refine Qp ?_)|(refine Qu ?_)|(refine Q7 rfl rfl (fun hc=>?_) (fun hc=>?_))
             all_goals (refine zn ?_)
             all_goals
              first
              | (refine zct ?_
                 refine Zbm ?_;have hM:rmk m j.f s x= .error 2:=(by rw [rmk_3 (by omega)];exact if_pos (by omega));refine Zbu ?_
                 ((exact ⟨_,rfl,cx,_,St.refl hS,cd_e hM,Q1R hM,hS.sp⟩)))
              | (refine zcf ?_
                 refine zsk ?_)
             refine Zae ?_;refine Zbj ?_;refine ZaL ?_;obtain ⟨vh,hS⟩:=Q2P (hp:=j.hp) (h:=s.h) (L:=blk j.sp 158 (j.kcells vl)::sl 115 3 vl css::blk nb 115 [.int .i64 1, .int .i64 0, .slice none 0 0]::blk p3 84 [.int .i64 x.op, .int .i64 x.a, .int .i64 x.b, .int .i64 x.c, .int .i64 x.k, .int .i64 x.n,vr,va]::L) hS.sp;refine Q5i hS vw fd rfl ?_;refine QZ hS vw fd (List.length_map _) ?_;have hS:=Q2t (L:=blk j.sp 158 (j.kcells vl)::sl 115 3 vl css::blk nb 115 [.int .i64 1, .int .i64 0, .slice none 0 0]::blk p3 84 [.int .i64 x.op, .int .i64 x.a, .int .i64 x.b, .int .i64 x.c, .int .i64 x.k, .int .i64 x.n,vr,va]::L) (h:=s.h) (hp:=j.hp) (v:=vh) hS.sp;refine zb2 [_,_,_] ?_;refine Q1G (cs:=[_,_,_]) vw (by rfl) ?_;intro ob w1 hb1 hf1 _ hk1;have hS:=hS.laid hb1 hf1 hk1;refine zm ?_;refine Zab ?_;have hM:rmk m j.f s x= .ok [.mk 2 s.h.length []]:=(by rw [rmk_3 (by omega)];exact if_neg (by omega));have hrow:∀{c:Cx},tyR.at c [.int .i64 2, .int .i64 s.h.length, .slice none 0 0] (.mk 2 s.h.length []):=Q1d (Rep.SR.nil _ _ _);refine Zbu ?_
             first|(exact ⟨_,rfl,cx,_,St.refl hS,cd_e hM,Q1R hM,hS.sp⟩)|(exact ⟨_,rfl,cx,_,St.refl hS,cd_o hM,Q13 hM (Rep.SR.nil _ _ _),hS.sp⟩)|(exact ⟨_,rfl,cx,_,St.refl hS,cd_w hM hw,Q13 hM (Rep.SR.nil _ _ _),hS.sp⟩)|(obtain ⟨c9,hle9,hS,hk9⟩:=St.freeze1 (r:=tyR) (L:=KLf j s vl css L) hS.sp (hN:tyR.at _ _ number);exact ⟨_,rfl,c9,_,hle9,cd_c hC,Q46 hT hk9,hS⟩)|(obtain ⟨c9,hle9,hS,hk9⟩:=St.freeze1 (r:=tyR) (L:=KLf j s vl css L) hS.sp (hN:tyR.at _ _ number);exact ⟨_,rfl,c9,_,hle9,cd_o hM,Q13 hM hk9,hS⟩)|(obtain ⟨c9,hle9,hS,hk9⟩:=St.freeze1 (r:=tyR) (L:=KLf j s vl css L) hS.sp hrow;exact ⟨_,rfl,c9,_,hle9,cd_o hM,Q13 hM hk9,hS⟩))
          | (refine zcf ?_
             refine Zaa ?_;first|(refine Qp ?_)|(refine Qu ?_)|(refine Q7 rfl rfl (fun hc=>?_) (fun hc=>?_))
             all_goals (refine Zab ?_)
             all_goals
              first
              | (refine zct ?_
                 refine Zae ?_;refine Zad ?_;refine zR4 (c:=Q1U (s:=s) (k:=x.a) (kd:=2) (held:=true) hls hS.p3) (h:=?_);rintro v1 w1 ⟨rfl,hS⟩;refine Zab ?_;rcases Decidable.em (QU s x.a 2 true=0) with hw|hw;rotate_left;have hM:rmk m j.f s x= .error (QU s x.a 2 true):=(by rw [Qad (by omega),Qf (Q6p hw)]);rotate_left;obtain ⟨t,g0,g1,ht,hk,hb,hjt⟩:=Q83 (s:=s) (k:=x.a) (kd:=2) (by omega);obtain ⟨d,hd,hrd⟩:=hls.2 _ _ ht;have hrt:=hrd;obtain ⟨vd,rfl,hld⟩:=Q9 hrd
                 all_goals (refine ZaS ?_;refine zD (ci 19 [18]) ?_;have hS:=hS.drew;refine zm ?_;refine Yak ?_;refine Zbb ?_;refine Yam ?_;refine Zak ?_;refine Zak ?_;(first|refine zgn ?_|(refine zgy ?_;refine Q2G hS vw rfl fd (by omega) (by omega) ?_;intro b1 o1 hel1));refine Yah ?_;(first|refine zgn ?_|(refine zgy ?_;refine QI (j:=1) hS hel1 rfl fd rfl hd rfl ?_));refine Zcb ?_;refine Zcl ?_;first|refine zgn ?_|(refine zgy ?_;(first|(refine Q1f ?_)|(refine Q1g ?_)|(refine Qr rfl rfl (fun hc=>?_) (fun hc=>?_)))))
                 all_goals (refine ZaK ?_)
                 all_goals
                  first
                  | (refine zct ?_
                     refine Zag ?_
                     refine zn ?_)
                  | (refine zcf ?_
                     all_goals refine zsk ?_)
                 all_goals (refine ZaG ?_;refine Zbg ?_;refine zf2 ?_)
                 all_goals (first|(exact ⟨_,rfl,cx,_,St.refl hS,cd_e hM,Q1R hM,hS.sp⟩)|(exact ⟨_,rfl,cx,_,St.refl hS,cd_o hM,Q13 hM (Rep.SR.nil _ _ _),hS.sp⟩)|(exact ⟨_,rfl,cx,_,St.refl hS,cd_w hM hw,Q13 hM (Rep.SR.nil _ _ _),hS.sp⟩)|(obtain ⟨c9,hle9,hS,hk9⟩:=St.freeze1 (r:=tyR) (L:=KLf j s vl css L) hS.sp (hN:tyR.at _ _ number);exact ⟨_,rfl,c9,_,hle9,cd_c hC,Q46 hT hk9,hS⟩)|(obtain ⟨c9,hle9,hS,hk9⟩:=St.freeze1 (r:=tyR) (L:=KLf j s vl css L) hS.sp (hN:tyR.at _ _ number);exact ⟨_,rfl,c9,_,hle9,cd_o hM,Q13 hM hk9,hS⟩)|(obtain ⟨c9,hle9,hS,hk9⟩:=St.freeze1 (r:=tyR) (L:=KLf j s vl css L) hS.sp hrow;exact ⟨_,rfl,c9,_,hle9,cd_o hM,Q13 hM hk9,hS⟩)|(obtain ⟨c9,hle9,hS,hk9⟩:=St.freeze1 (r:=tyR) (L:=KLf j s vl css L) hS.sp hrow;exact ⟨_,rfl,c9,_,hle2.trans hle9,cd_o hM,Q13 hM hk9,hS⟩)|(exact ⟨_,rfl,c1,_,hle2,cd_e hM,Q1R hM,hS.sp⟩)|(exact ⟨_,rfl,cx,_,St.refl hS,cd_c hC,Q46 hT (Rep.SR.nil _ _ _),hS.sp⟩)|(have hM:rmk m j.f s x= .error 11:=(by rw [Qad (by omega),Q2 hjt,if_pos (by omega)]);exact ⟨_,rfl,cx,_,St.refl hS,cd_e hM,Q1R hM,hS.sp⟩)|(have hM:rmk m j.f s x= .ok []:=(by rw [Qad (by omega),Q2 hjt,if_neg (by omega)]);exact ⟨_,rfl,cx,_,St.refl hS,cd_w hM hw,Q13 hM (Rep.SR.nil _ _ _),hS.sp⟩)))
              | (refine zcf ?_
                 refine Zaa ?_;first|(refine Qp ?_)|(refine Qu ?_)|(refine Q7 rfl rfl (fun hc=>?_) (fun hc=>?_))
                 all_goals (refine Zab ?_)
                 all_goals
                  first
                  | (refine zct ?_
                     refine ZaN ?_;refine zR4 (c:=Q1U (s:=s) (k:=x.a) (kd:=2) (held:=true) hls hS.p3) (h:=?_);rintro v1 w1 ⟨rfl,hS⟩;refine ZaW ?_;first|(refine Qy ?_)|(refine Qz ?_)|(refine Qa rfl rfl (fun hc=>?_) (fun hc=>?_))
                     all_goals (refine zn ?_)
                     all_goals
                      first
                      | (refine zct ?_
                         refine ZaG ?_;refine Zab ?_;have hM:rmk m j.f s x= .error (QU s x.a 2 true):=(by rw [QcW (by omega),Qf (Q6p (by omega))]);refine Zbu ?_
                         ((exact ⟨_,rfl,cx,_,St.refl hS,cd_e hM,Q1R hM,hS.sp⟩)))
                      | (refine zcf ?_
                         refine zsk ?_)
                     refine QJ ?_;have hal:=Q5T hF (by omega);obtain ⟨t,g0,g1,ht,hk,hb,hjt⟩:=Q83 (s:=s) (k:=x.a) (kd:=2) (by omega);obtain ⟨d,hd,hrd⟩:=hls.2 _ _ ht;have hrt:=hrd;obtain ⟨vd,rfl,hld⟩:=Q9 hrd;refine zC [(0,none),(1,none),(2,none),(3,none),(4,none),(5,none),(6,none),(7,none),(8,none),(9,none),(10,some (some [3,5,8])),(11,some none)] ?_;have hS:=hS.drew;refine Zcs ?_;refine Zcc ?_;refine Zau ?_;refine Q2G hS vw rfl fd (by omega) (by omega) ?_;intro b1 o1 hel1;refine Zac ?_;refine Zbh ?_;refine QI (j:=1) hS hel1 rfl fd rfl hd rfl ?_;refine Zac ?_;refine zb2 [_,_,_] ?_;refine ZaO ?_;intro p9 w1 hS;refine zt ?_;refine ⟨List.forall_mem_cons.2 ⟨(by first|(exact Q29 (j:=1) hS hel1 rfl fd rfl hd rfl)|(exact Q16 hS rfl fd rfl)),List.forall_mem_cons.2 ⟨(by first|(exact Q29 (j:=1) hS hel1 rfl fd rfl hd rfl)|(exact Q16 hS rfl fd rfl)),List.forall_mem_cons.2 ⟨(by (exact Q29 (j:=1) hS hel1 rfl fd rfl hd rfl)),fun _ h=>(List.not_mem_nil h).elim⟩⟩⟩,?_⟩;refine s_cf ?_;refine zsn hS ?_;intro w1 hS;have hS:=hS.ns;refine ZaA ?_;refine ZaI ?_;have hS:=St.nil (T:=115) (es:=3) hS
                     refine zo [0,3,9] (fun A ρ' w'=>∃(q:Nat) (vo:Value) (co:List (List Value)) (ts:List Ty),Has ρ' A∧Has ρ' [(10, .int .i64 q)]∧(q≤x.args.length)∧(tyR.ls cx co ts)∧(ts.length=q)∧(oneC vo=true)∧(jfields s x.args=ebind (jfields s (x.args.drop q)) fun l=> .ok (ts++l))∧St cx w' (sl 115 3 vo co::blk p9 115 [.int .i64 3, .int .i64 t.r,vo]::blk nb 115 [.int .i64 1, .int .i64 0, .slice none 0 0]::blk p3 84 [.int .i64 x.op, .int .i64 x.a, .int .i64 x.b, .int .i64 x.c, .int .i64 x.k, .int .i64 x.n,vr,va]::blk j.sp 158 (j.kcells vl)::Q4n j.hp s.h::sl 115 3 vl css::L)) (fun ρ' _=>(x.args.length - iv (ρ' 10)).toNat) ?_ ?_
                     · exact ⟨0,_,[],[],zh,zh,(by omega),Rep.LR.nil _ _ _,rfl,rfl,by rw [List.drop_zero];cases jfields s x.args<;>rfl,hS.sp⟩
                     rintro ρ w1 ⟨q,vo,co,ts,hA,hρ,hq,hlo,hlt,hvo,hdf,hS⟩;obtain ⟨ρ,rfl⟩:=env2 hA hρ
                     refine ZaN ?_;(first|(refine QZ hS vw fd hlc ?_)|(refine zL ?_));refine Zaj ?_
                     refine Q5 rfl (fun hc=>?_) (fun hc=>?_)
                     · skip
                       refine Zar ?_;refine ZaS ?_;refine zD (ci 19 [18]) ?_;have hS:=hS.drew;refine Zad ?_;refine zm ?_;refine zi ?_;intro b1 o1 cs1 x1 hat1 hx1 he1;obtain rfl:=Qt he1;refine Yan ?_;first|(refine Q1f ?_)|(refine Q1g ?_)|(refine Qr rfl rfl (fun hc=>?_) (fun hc=>?_))
                       all_goals (refine Zav ?_;refine Yac ?_;(first|refine zgn ?_|(refine zgy ?_;refine Q11 vw rfl ha rfl (by omega) ?_;intro b8 o8 cs8 x8 hat8 hx8 he8;obtain rfl:=Qt he8;obtain rfl:x1=x8:=Option.some.inj (hx1.symm.trans hx8)));refine Yar ?_;refine Zcb ?_;refine Zak ?_;(first|refine zgn ?_|(refine zgy ?_;refine QZ hS vw fd hlc ?_));first|refine zgn ?_|(refine zgy ?_;(first|(refine Q2b ?_)|(refine Q2c ?_)|(refine Q1a rfl rfl (fun hc=>?_) (fun hc=>?_)))))
                       all_goals (refine ZaK ?_)
                       all_goals
                        first
                        | (refine zct ?_
                           all_goals (refine Zbm ?_;have hM:rmk m j.f s x= .error 1:=(by rw [QcW (by omega),Q2 hjt,Qf (Q9l hx1 hdf (Q3R (by omega)))]);refine Zbu ?_)
                           all_goals (exact ⟨_,rfl,cx,_,St.refl hS,cd_e hM,Q1R hM,hS.sp⟩))
                        | (refine zcf ?_
                           refine zsk ?_)
                       obtain ⟨t2,ht2⟩:∃t,s.l[x1.toNat]?=some t:=⟨_,List.getElem?_eq_getElem (by omega)⟩;obtain ⟨d2,hd2,hrd2⟩:=hls.2 _ _ ht2;have hrd2':=hrd2;obtain ⟨vd2,rfl,hld2⟩:=Q9 hrd2;have h2:=Q2W (s:=s) (by omega) ht2;refine zC [(0,none),(1,none),(2,none),(3,none),(4,none),(5,none),(6,none),(7,none),(8,none),(9,none),(10,none),(11,none),(12,none),(13,some (some [1])),(14,some none),(15,none),(16,some none)] ?_;have hS:=hS.drew;refine ZaR ?_;refine Zaz ?_;refine znc ?_;refine Zcc ?_;refine Zau ?_;refine Zaz ?_;refine Q11 vw rfl ha rfl (by omega) ?_;intro b4 o4 cs4 x4 hat4 hx4 he4;obtain rfl:=Qt he4;obtain rfl:x1=x4:=Option.some.inj (hx1.symm.trans hx4);refine Zac ?_;refine Yan ?_;refine Zac ?_;refine Q2G hS vw rfl fd (by omega) (by omega) ?_;intro b5 o5 hel5;refine Zac ?_;refine Q3i hS hel5 rfl fd rfl hd2 ?_;refine Zat ?_;refine zB1 hS [_,_,_] ?_;intro b1 w1 hS;refine ZaZ ?_;((refine za Q2u Q4k hS ?_;intro vp1 w1 css1 hls1 hv1 hS;have hS:=hS.ns));refine Zch ?_;refine ZaE ?_;((refine zst hS ?_;intro w1 hS;have hS:=hS.ns));refine ZaA ?_;refine Zax ?_;((exact ⟨⟨q+1,_,_,ts++[t2],zh,zh,(by omega),hls1,by simp [hlt],by assumption,Q9k hx1 hdf h2,hS.sp⟩,Q4 (by omega)⟩))
                     · skip
                       refine zex ?_;have hts:=Q9j hdf (by omega);obtain ⟨c1,hle2,hS,hk1⟩:=St.freezeL (r:=tyR) hS hlo rfl (by omega);have hrow:=Q1d (k:=3) (r:=t.r) hk1;have hls:=hls.up hle2;obtain ⟨ao,no,rfl⟩:=Rep.SR.shape hk1;refine QJ ?_;refine ZaF ?_;refine zR2 (c:=QdG (.mk 3 t.r ts) hrow (by omega) (by omega) hS) (h:=?_);rintro v1 w1 ⟨rfl,hS⟩;first|(refine QL ?_)|(refine QO ?_)|(refine Qd rfl rfl (fun hc=>?_) (fun hc=>?_))
                       all_goals (refine zn ?_)
                       all_goals
                        first
                        | (refine zct ?_
                           refine Zbm ?_;have hM:rmk m j.f s x= .error 19:=(by rw [QcW (by omega),Q2 hjt,Q2 hts];exact if_pos (by omega));refine Zbu ?_
                           first|(exact ⟨_,rfl,cx,_,St.refl hS,cd_e hM,Q1R hM,hS.sp⟩)|(exact ⟨_,rfl,cx,_,St.refl hS,cd_o hM,Q13 hM (Rep.SR.nil _ _ _),hS.sp⟩)|(exact ⟨_,rfl,cx,_,St.refl hS,cd_w hM hw,Q13 hM (Rep.SR.nil _ _ _),hS.sp⟩)|(obtain ⟨c9,hle9,hS,hk9⟩:=St.freeze1 (r:=tyR) (L:=KLf j s vl css L) hS.sp (hN:tyR.at _ _ number);exact ⟨_,rfl,c9,_,hle9,cd_c hC,Q46 hT hk9,hS⟩)|(obtain ⟨c9,hle9,hS,hk9⟩:=St.freeze1 (r:=tyR) (L:=KLf j s vl css L) hS.sp (hN:tyR.at _ _ number);exact ⟨_,rfl,c9,_,hle9,cd_o hM,Q13 hM hk9,hS⟩)|(obtain ⟨c9,hle9,hS,hk9⟩:=St.freeze1 (r:=tyR) (L:=KLf j s vl css L) hS.sp hrow;exact ⟨_,rfl,c9,_,hle9,cd_o hM,Q13 hM hk9,hS⟩)|(obtain ⟨c9,hle9,hS,hk9⟩:=St.freeze1 (r:=tyR) (L:=KLf j s vl css L) hS.sp hrow;exact ⟨_,rfl,c9,_,hle2.trans hle9,cd_o hM,Q13 hM hk9,hS⟩)|(exact ⟨_,rfl,c1,_,hle2,cd_e hM,Q1R hM,hS.sp⟩))
                        | (refine zcf ?_
                           refine zsk ?_)
                       refine ZaF ?_;refine Q1G (cs:=[_,_,_]) vw (by rfl) ?_;intro ob w1 hb1 hf1 _ hk1;have hS:=hS.laid hb1 hf1 hk1;refine zm ?_;refine Zab ?_;have hM:rmk m j.f s x= .ok [.mk 3 t.r ts]:=(by rw [QcW (by omega),Q2 hjt,Q2 hts];exact if_neg (by omega));refine Zbu ?_
                       first|(exact ⟨_,rfl,cx,_,St.refl hS,cd_e hM,Q1R hM,hS.sp⟩)|(exact ⟨_,rfl,cx,_,St.refl hS,cd_o hM,Q13 hM (Rep.SR.nil _ _ _),hS.sp⟩)|(exact ⟨_,rfl,cx,_,St.refl hS,cd_w hM hw,Q13 hM (Rep.SR.nil _ _ _),hS.sp⟩)|(obtain ⟨c9,hle9,hS,hk9⟩:=St.freeze1 (r:=tyR) (L:=KLf j s vl css L) hS.sp (hN:tyR.at _ _ number);exact ⟨_,rfl,c9,_,hle9,cd_c hC,Q46 hT hk9,hS⟩)|(obtain ⟨c9,hle9,hS,hk9⟩:=St.freeze1 (r:=tyR) (L:=KLf j s vl css L) hS.sp (hN:tyR.at _ _ number);exact ⟨_,rfl,c9,_,hle9,cd_o hM,Q13 hM hk9,hS⟩)|(obtain ⟨c9,hle9,hS,hk9⟩:=St.freeze1 (r:=tyR) (L:=KLf j s vl css L) hS.sp hrow;exact ⟨_,rfl,c9,_,hle9,cd_o hM,Q13 hM hk9,hS⟩)|(obtain ⟨c9,hle9,hS,hk9⟩:=St.freeze1 (r:=tyR) (L:=KLf j s vl css L) hS.sp hrow;exact ⟨_,rfl,c9,_,hle2.trans hle9,cd_o hM,Q13 hM hk9,hS⟩))
                  | (refine zcf ?_
                     refine Zbt ?_;first|(refine Qp ?_)|(refine Qu ?_)|(refine Q7 rfl rfl (fun hc=>?_) (fun hc=>?_))
                     all_goals (refine Zab ?_)
                     all_goals
                      first
                      | (refine zct ?_
                         refine zsk ?_)
                      | (refine zcf ?_
                         refine Q1z ?_;first|(refine Qp ?_)|(refine Qu ?_)|(refine Q7 rfl rfl (fun hc=>?_) (fun hc=>?_))
                         all_goals (refine zm ?_)
                         all_goals refine zn ?_)
                     all_goals
                      first
                      | (refine zcf ?_
                         refine Zaa ?_;first|(refine Qp ?_)|(refine Qu ?_)|(refine Q7 rfl rfl (fun hc=>?_) (fun hc=>?_))
                         all_goals (refine Zab ?_)
                         all_goals
                          first
                          | (refine zct ?_
                             refine ZaS ?_;refine zC [(0,none),(1,none),(2,none),(4,none),(5,none),(6,none),(3,some (some [6])),(7,some none),(8,some none),(9,some none),(10,some none)] ?_;have hS:=hS.drew;refine Zbv ?_;refine Zau ?_;refine Zaz ?_;refine Zbn ?_;refine zR4 (c:=Q1U (s:=s) (k:=x.a) (kd:=2) (held:=true) hls hS.p3) (h:=?_);rintro v1 w1 ⟨rfl,hS⟩;refine ZaZ ?_;refine zR4 (c:=Q1U (s:=s) (k:=x.b) (kd:=1) (held:=false) hls hS.p3) (h:=?_);rintro v1 w1 ⟨rfl,hS⟩;refine ZaE ?_;refine Q4Q (cs:=[_,_]) vw vw (by rfl) ?_;intro fb w1 hb1 hf1 _ hk1;have hS:=hS.laid hb1 hf1 hk1;have hS:=St.slOf (es:=1) (css:=[QU s x.a 2 true,QU s x.b 1 false].map QX) hS rfl (by simp [QX]) rfl;refine ZaE ?_;refine zR1 (c:=Q6f (xs:=[QU s x.a 2 true,QU s x.b 1 false]) (by simp) hS) (h:=?_);rintro v1 w1 ⟨rfl,hS⟩;refine ZaE ?_;refine zm ?_;refine ZaA ?_;refine Zae ?_;first|(refine Qy ?_)|(refine Qz ?_)|(refine Qa rfl rfl (fun hc=>?_) (fun hc=>?_))
                             all_goals (refine zn ?_)
                             all_goals
                              first
                              | (refine zct ?_
                                 refine ZaG ?_;refine Zab ?_;have hM:rmk m j.f s x= .error (Q1v [QU s x.a 2 true,QU s x.b 1 false]):=(by rw [rmk_8 (by omega),Q5e,Q3e];exact Qbo (Q71 _ _ _) (by rw [←Q5e,←Q3e];omega) _);refine Zbu ?_
                                 ((exact ⟨_,rfl,cx,_,St.refl hS,cd_e hM,Q1R hM,hS.sp⟩)))
                              | (refine zcf ?_
                                 refine zsk ?_)
                             refine QJ ?_;obtain ⟨t,tb,hjt,hjb⟩:=Qbn (x:=jat s x.a 2) (y:=jkind s x.b 1) (Q71 _ _ _) (Q2o _ _ _) (by rw [←Q5e,←Q3e];omega);obtain ⟨g0,ht,hk,hb⟩:=Q5S hjt;have g1:=(List.getElem?_eq_some_iff.1 ht).1;obtain ⟨d,hd,hrd⟩:=hls.2 _ _ ht;obtain ⟨vd,rfl,hld⟩:=Q9 hrd;refine zD (ci 13 [10,12]) ?_;have hS:=hS.drew;refine zm ?_;refine Zbj ?_;refine Zad ?_;refine Q2G hS vw rfl fd (by omega) (by omega) ?_;intro b1 o1 hel1;refine Yae ?_;refine QI (j:=1) hS hel1 rfl fd rfl hd rfl ?_;refine zb2 [_,_,_] ?_;refine Q1G (cs:=[_,_,_]) vw (by rfl) ?_;intro ob w1 hb1 hf1 _ hk1;have hS:=hS.laid hb1 hf1 hk1;refine zm ?_;refine Zab ?_;have hM:rmk m j.f s x= .ok [.mk 4 t.r []]:=(by rw [rmk_8 (by omega),Q2 hjt,Q2 hjb]);have hrow:∀{c:Cx},tyR.at c [.int .i64 4, .int .i64 t.r, .slice none 0 0] (.mk 4 t.r []):=Q1d (Rep.SR.nil _ _ _);refine Zbu ?_
                             first|(exact ⟨_,rfl,cx,_,St.refl hS,cd_e hM,Q1R hM,hS.sp⟩)|(exact ⟨_,rfl,cx,_,St.refl hS,cd_o hM,Q13 hM (Rep.SR.nil _ _ _),hS.sp⟩)|(exact ⟨_,rfl,cx,_,St.refl hS,cd_w hM hw,Q13 hM (Rep.SR.nil _ _ _),hS.sp⟩)|(obtain ⟨c9,hle9,hS,hk9⟩:=St.freeze1 (r:=tyR) (L:=KLf j s vl css L) hS.sp (hN:tyR.at _ _ number);exact ⟨_,rfl,c9,_,hle9,cd_c hC,Q46 hT hk9,hS⟩)|(obtain ⟨c9,hle9,hS,hk9⟩:=St.freeze1 (r:=tyR) (L:=KLf j s vl css L) hS.sp (hN:tyR.at _ _ number);exact ⟨_,rfl,c9,_,hle9,cd_o hM,Q13 hM hk9,hS⟩)|(obtain ⟨c9,hle9,hS,hk9⟩:=St.freeze1 (r:=tyR) (L:=KLf j s vl css L) hS.sp hrow;exact ⟨_,rfl,c9,_,hle9,cd_o hM,Q13 hM hk9,hS⟩))
                          | (refine zcf ?_
                             refine Zaa ?_;first|(refine Qp ?_)|(refine Qu ?_)|(refine Q7 rfl rfl (fun hc=>?_) (fun hc=>?_))
                             all_goals (refine Zab ?_)
                             all_goals
                              first
                              | (refine zct ?_
                                 refine QJ ?_;refine zC [(0,none),(1,none),(2,none),(3,none),(5,none),(6,none),(7,none),(4,some (some [7])),(8,some (some [])),(9,some (some [])),(10,some (some [])),(11,none),(12,some none)] ?_;have hS:=hS.drew;refine Zbv ?_;refine Zaz ?_;refine Zau ?_;refine Zaz ?_;refine Zbn ?_;refine zR4 (c:=Q1U (s:=s) (k:=x.a) (kd:=4) (held:=true) hls hS.p3) (h:=?_);rintro v1 w1 ⟨rfl,hS⟩;refine ZaH ?_;refine zR4 (c:=Q1U (s:=s) (k:=x.b) (kd:=1) (held:=false) hls hS.p3) (h:=?_);rintro v1 w1 ⟨rfl,hS⟩;refine ZaH ?_;refine Q4Q (cs:=[_,_]) vw vw (by rfl) ?_;intro fb w1 hb1 hf1 _ hk1;have hS:=hS.laid hb1 hf1 hk1;have hS:=St.slOf (es:=1) (css:=[QU s x.a 4 true,QU s x.b 1 false].map QX) hS rfl (by simp [QX]) rfl;refine ZaH ?_;refine zR1 (c:=Q6f (xs:=[QU s x.a 4 true,QU s x.b 1 false]) (by simp) hS) (h:=?_);rintro v1 w1 ⟨rfl,hS⟩;refine ZaM ?_;refine zm ?_;refine ZaE ?_;refine zm ?_;refine ZaA ?_;have hC:QA (rmk m j.f s x)=Q1v [QU s x.a 4 true,QU s x.b 1 false]:=(by rw [rmk_9 (by omega),Q5e,Q3e];exact Q8w (Q71 _ _ _) (Q2o _ _ _) _);have hT:∀ts,rmk m j.f s x= .ok ts→ts=[number]:=(fun ts h=>by rw [rmk_9 (by omega)] at h;exact ok1 h fun _ h=>ok1 h fun _ h=>by cases h;rfl);refine Zbu ?_
                                 first|(exact ⟨_,rfl,cx,_,St.refl hS,cd_e hM,Q1R hM,hS.sp⟩)|(exact ⟨_,rfl,cx,_,St.refl hS,cd_o hM,Q13 hM (Rep.SR.nil _ _ _),hS.sp⟩)|(exact ⟨_,rfl,cx,_,St.refl hS,cd_w hM hw,Q13 hM (Rep.SR.nil _ _ _),hS.sp⟩)|(obtain ⟨c9,hle9,hS,hk9⟩:=St.freeze1 (r:=tyR) (L:=KLf j s vl css L) hS.sp (hN:tyR.at _ _ number);exact ⟨_,rfl,c9,_,hle9,cd_c hC,Q46 hT hk9,hS⟩))
                              | (refine zcf ?_
                                 refine Zaa ?_;first|(refine Qp ?_)|(refine Qu ?_)|(refine Q7 rfl rfl (fun hc=>?_) (fun hc=>?_))
                                 all_goals (refine Zab ?_)
                                 all_goals
                                  first
                                  | (refine zct ?_
                                     refine QJ ?_;refine zC [(0,none),(1,none),(2,none),(4,none),(5,none),(6,none),(8,none),(9,none),(10,none),(3,some (some [6,10])),(7,some (some [10])),(11,some none),(12,some none),(13,some none),(14,none),(15,some none)] ?_;have hS:=hS.drew;refine Zbv ?_;refine Zau ?_;refine Zaz ?_;refine Zau ?_;refine Zaz ?_;refine Zbn ?_;refine zR4 (c:=Q1U (s:=s) (k:=x.a) (kd:=4) (held:=true) hls hS.p3) (h:=?_);rintro v1 w1 ⟨rfl,hS⟩;refine ZaH ?_;refine zR4 (c:=Q1U (s:=s) (k:=x.b) (kd:=1) (held:=false) hls hS.p3) (h:=?_);rintro v1 w1 ⟨rfl,hS⟩;refine ZaZ ?_;refine zR4 (c:=Q1U (s:=s) (k:=x.c) (kd:=1) (held:=false) hls hS.p3) (h:=?_);rintro v1 w1 ⟨rfl,hS⟩;refine ZaE ?_;refine QcP (cs:=[_,_,_]) vw vw vw (by rfl) ?_;intro fb w1 hb1 hf1 _ hk1;have hS:=hS.laid hb1 hf1 hk1;have hS:=St.slOf (es:=1) (css:=[QU s x.a 4 true,QU s x.b 1 false,QU s x.c 1 false].map QX) hS rfl (by simp [QX]) rfl;refine ZaE ?_;refine zR1 (c:=Q6f (xs:=[QU s x.a 4 true,QU s x.b 1 false,QU s x.c 1 false]) (by simp) hS) (h:=?_);rintro v1 w1 ⟨rfl,hS⟩;refine Zac ?_;refine zm ?_;refine ZaE ?_;refine zm ?_;refine ZaA ?_;have hC:QA (rmk m j.f s x)=Q1v [QU s x.a 4 true,QU s x.b 1 false,QU s x.c 1 false]:=(by rw [QcZ (by omega),Q5e,Q3e,Q3e];exact first3_c (Q71 _ _ _) (Q2o _ _ _) (Q2o _ _ _) _);have hT:∀ts,rmk m j.f s x= .ok ts→ts=[]:=(fun ts h=>by rw [QcZ (by omega)] at h;exact ok1 h fun _ h=>ok1 h fun _ h=>ok1 h fun _ h=>by cases h;rfl);refine Zbu ?_
                                     first|(exact ⟨_,rfl,cx,_,St.refl hS,cd_e hM,Q1R hM,hS.sp⟩)|(exact ⟨_,rfl,cx,_,St.refl hS,cd_o hM,Q13 hM (Rep.SR.nil _ _ _),hS.sp⟩)|(exact ⟨_,rfl,cx,_,St.refl hS,cd_w hM hw,Q13 hM (Rep.SR.nil _ _ _),hS.sp⟩)|(obtain ⟨c9,hle9,hS,hk9⟩:=St.freeze1 (r:=tyR) (L:=KLf j s vl css L) hS.sp (hN:tyR.at _ _ number);exact ⟨_,rfl,c9,_,hle9,cd_c hC,Q46 hT hk9,hS⟩)|(obtain ⟨c9,hle9,hS,hk9⟩:=St.freeze1 (r:=tyR) (L:=KLf j s vl css L) hS.sp (hN:tyR.at _ _ number);exact ⟨_,rfl,c9,_,hle9,cd_o hM,Q13 hM hk9,hS⟩)|(obtain ⟨c9,hle9,hS,hk9⟩:=St.freeze1 (r:=tyR) (L:=KLf j s vl css L) hS.sp hrow;exact ⟨_,rfl,c9,_,hle9,cd_o hM,Q13 hM hk9,hS⟩)|(obtain ⟨c9,hle9,hS,hk9⟩:=St.freeze1 (r:=tyR) (L:=KLf j s vl css L) hS.sp hrow;exact ⟨_,rfl,c9,_,hle2.trans hle9,cd_o hM,Q13 hM hk9,hS⟩)|(exact ⟨_,rfl,c1,_,hle2,cd_e hM,Q1R hM,hS.sp⟩)|(exact ⟨_,rfl,cx,_,St.refl hS,cd_c hC,Q46 hT (Rep.SR.nil _ _ _),hS.sp⟩))
                                  | (refine zcf ?_
                                     refine Zaa ?_;first|(refine Qp ?_)|(refine Qu ?_)|(refine Q7 rfl rfl (fun hc=>?_) (fun hc=>?_))
                                     all_goals (refine Zab ?_)
                                     all_goals
                                      first
                                      | (refine zct ?_
                                         refine QJ ?_;refine Q1z ?_;refine zm ?_;refine zm ?_;refine zf0 ?_;refine zl hS ?_;refine zR4 (c:=Q1U (s:=s) (k:=x.a) (kd:=4) (held:=true) hls hS.p3) (h:=?_);rintro v1 w1 ⟨rfl,hS⟩;refine zm ?_;refine zm ?_;refine zn ?_;have hC:QA (rmk m j.f s x)=QU s x.a 4 true:=(by rw [QcY (by omega),Q5e];cases jat s x.a 4<;>rfl);have hT:∀ts,rmk m j.f s x= .ok ts→ts=[number]:=(fun ts h=>by rw [QcY (by omega)] at h;exact ok1 h fun _ h=>by cases h;rfl);refine zr ?_;refine zf2 ?_
                                         first|(exact ⟨_,rfl,cx,_,St.refl hS,cd_e hM,Q1R hM,hS.sp⟩)|(exact ⟨_,rfl,cx,_,St.refl hS,cd_o hM,Q13 hM (Rep.SR.nil _ _ _),hS.sp⟩)|(exact ⟨_,rfl,cx,_,St.refl hS,cd_w hM hw,Q13 hM (Rep.SR.nil _ _ _),hS.sp⟩)|(obtain ⟨c9,hle9,hS,hk9⟩:=St.freeze1 (r:=tyR) (L:=KLf j s vl css L) hS.sp (hN:tyR.at _ _ number);exact ⟨_,rfl,c9,_,hle9,cd_c hC,Q46 hT hk9,hS⟩))
                                      | (refine zcf ?_
                                         refine Zaa ?_;first|(refine Qp ?_)|(refine Qu ?_)|(refine Q7 rfl rfl (fun hc=>?_) (fun hc=>?_))
                                         all_goals (refine Zab ?_)
                                         all_goals
                                          first
                                          | (refine zct ?_
                                             refine QJ ?_;refine Q1z ?_;refine zm ?_;refine zf0 ?_;refine zl hS ?_;refine zR4 (c:=Q1U (s:=s) (k:=x.a) (kd:=1) (held:=false) hls hS.p3) (h:=?_);rintro v1 w1 ⟨rfl,hS⟩;refine zm ?_;refine zm ?_;refine zn ?_;have hC:QA (rmk m j.f s x)=QU s x.a 1 false:=(by rw [QcX (by omega),Q3e];cases jkind s x.a 1<;>rfl);have hT:∀ts,rmk m j.f s x= .ok ts→ts=[]:=(fun ts h=>by rw [QcX (by omega)] at h;exact ok1 h fun _ h=>by cases h;rfl);refine zr ?_;refine zf2 ?_
                                             first|(exact ⟨_,rfl,cx,_,St.refl hS,cd_e hM,Q1R hM,hS.sp⟩)|(exact ⟨_,rfl,cx,_,St.refl hS,cd_o hM,Q13 hM (Rep.SR.nil _ _ _),hS.sp⟩)|(exact ⟨_,rfl,cx,_,St.refl hS,cd_w hM hw,Q13 hM (Rep.SR.nil _ _ _),hS.sp⟩)|(obtain ⟨c9,hle9,hS,hk9⟩:=St.freeze1 (r:=tyR) (L:=KLf j s vl css L) hS.sp (hN:tyR.at _ _ number);exact ⟨_,rfl,c9,_,hle9,cd_c hC,Q46 hT hk9,hS⟩)|(obtain ⟨c9,hle9,hS,hk9⟩:=St.freeze1 (r:=tyR) (L:=KLf j s vl css L) hS.sp (hN:tyR.at _ _ number);exact ⟨_,rfl,c9,_,hle9,cd_o hM,Q13 hM hk9,hS⟩)|(obtain ⟨c9,hle9,hS,hk9⟩:=St.freeze1 (r:=tyR) (L:=KLf j s vl css L) hS.sp hrow;exact ⟨_,rfl,c9,_,hle9,cd_o hM,Q13 hM hk9,hS⟩)|(obtain ⟨c9,hle9,hS,hk9⟩:=St.freeze1 (r:=tyR) (L:=KLf j s vl css L) hS.sp hrow;exact ⟨_,rfl,c9,_,hle2.trans hle9,cd_o hM,Q13 hM hk9,hS⟩)|(exact ⟨_,rfl,c1,_,hle2,cd_e hM,Q1R hM,hS.sp⟩)|(exact ⟨_,rfl,cx,_,St.refl hS,cd_c hC,Q46 hT (Rep.SR.nil _ _ _),hS.sp⟩))
                                          | (refine zcf ?_
                                             refine zsk ?_))))))
                      | (refine zct ?_
                         all_goals (refine ZaN ?_;refine zR4 (c:=Q1U (s:=s) (k:=x.a) (kd:=3) (held:=true) hls hS.p3) (h:=?_);rintro v1 w1 ⟨rfl,hS⟩;refine ZaW ?_;first|(refine Qy ?_)|(refine Qz ?_)|(refine Qa rfl rfl (fun hc=>?_) (fun hc=>?_)))
                         all_goals (refine zn ?_)
                         all_goals
                          first
                          | (refine zct ?_
                             all_goals (refine ZaG ?_;refine Zab ?_;have hM:rmk m j.f s x= .error (QU s x.a 3 true):=rmk_67e (by omega) (Q6p (by omega));refine Zbu ?_)
                             all_goals (exact ⟨_,rfl,cx,_,St.refl hS,cd_e hM,Q1R hM,hS.sp⟩))
                          | (refine zcf ?_
                             all_goals refine zsk ?_)
                         all_goals (refine ZaS ?_;have hxk:=Q3X hF (by omega);obtain ⟨t,g0,g1,ht,hk,hb,hjt⟩:=Q83 (s:=s) (k:=x.a) (kd:=3) (by omega);obtain ⟨d,hd,hrd⟩:=hls.2 _ _ ht;have hrt:=hrd;obtain ⟨vd,rfl,hld⟩:=Q9 hrd;refine zD (ci 13 [12]) ?_;have hS:=hS.drew;refine Zad ?_;refine zm ?_;refine Zbj ?_;refine Zad ?_;refine Q2G hS vw rfl fd (by omega) (by omega) ?_;intro b1 o1 hel1;refine Yae ?_;refine QI (j:=2) hS hel1 rfl fd rfl hd rfl ?_;refine QcL vw hld ?_;first|(refine Q2b ?_)|(refine Q2c ?_)|(refine Q1a rfl rfl (fun hc=>?_) (fun hc=>?_)))
                         all_goals (refine zn ?_)
                         all_goals
                          first
                          | (refine zct ?_
                             all_goals (refine Zbm ?_;have hM:rmk m j.f s x= .error 9:=rmk_67f (by omega) hjt (List.getElem?_eq_none (by omega));refine Zbu ?_)
                             all_goals (exact ⟨_,rfl,cx,_,St.refl hS,cd_e hM,Q1R hM,hS.sp⟩))
                          | (refine zcf ?_
                             all_goals refine zsk ?_)
                         all_goals (refine QJ ?_;refine zC [(0,none),(1,none),(2,none),(3,none),(4,none),(5,none),(6,none),(7,none),(8,none),(9,none),(10,none),(11,none),(12,none),(13,some (some [3,5,8,10,12])),(14,some none)] ?_;have hS:=hS.drew;refine Zcs ?_;refine Zcc ?_;refine Zau ?_;refine Q2G hS vw rfl fd (by omega) (by omega) ?_;intro b2 o2 hel2;refine Zac ?_;refine Zbh ?_;refine QI (j:=2) hS hel2 rfl fd rfl hd rfl ?_;refine Zcc ?_;refine Q7L vw rfl hld rfl (by omega) (by omega) ?_;intro b3 o3 cs3 u3 hat3 hu3 hru3;have hrow:=hru3;obtain ⟨vu3,rfl,hlu3⟩:=Q9 hru3;have hjf:=Qc2 hu3;refine Zcg ?_;refine ZaO ?_;intro p12 w1 hS;refine zt ?_;refine ⟨List.forall_mem_cons.2 ⟨(by first|(exact Q29 (j:=2) hS hel2 rfl fd rfl hd rfl)|(exact Q16 hS rfl fd rfl)),List.forall_mem_cons.2 ⟨(by first|(exact Q29 (j:=2) hS hel2 rfl fd rfl hd rfl)|(exact Q16 hS rfl fd rfl)),List.forall_mem_cons.2 ⟨(by (exact Q29 (j:=2) hS hel2 rfl fd rfl hd rfl)),List.forall_mem_cons.2 ⟨(by first|(exact Q29 (j:=2) hS hel2 rfl fd rfl hd rfl)|(exact Q16 hS rfl fd rfl)),List.forall_mem_cons.2 ⟨(by first|(exact Q29 (j:=2) hS hel2 rfl fd rfl hd rfl)|(exact Q28 hS rfl fd rfl rfl)|(exact Q38 hS (by assumption) rfl rfl rfl)),fun _ h=>(List.not_mem_nil h).elim⟩⟩⟩⟩⟩,?_⟩;refine s_cf ?_;refine zsn hS ?_;intro w1 hS;have hS:=hS.ns;refine ZaA ?_;refine ZaJ ?_;refine Yak ?_;refine zn ?_)
                         all_goals
                          first
                          | (refine zct ?_
                             refine ZaF ?_;refine Q1G (cs:=[_,_,_]) vw (by rfl) ?_;intro ob w1 hb1 hf1 _ hk1;have hS:=hS.laid hb1 hf1 hk1;refine zm ?_;refine Zab ?_;have hM:rmk m j.f s x= .ok [u3]:=(by rw [rmk_6 (by omega),Q2 hjt,Q2 hjf]);refine Zbu ?_
                             first|(exact ⟨_,rfl,cx,_,St.refl hS,cd_e hM,Q1R hM,hS.sp⟩)|(exact ⟨_,rfl,cx,_,St.refl hS,cd_o hM,Q13 hM (Rep.SR.nil _ _ _),hS.sp⟩)|(exact ⟨_,rfl,cx,_,St.refl hS,cd_w hM hw,Q13 hM (Rep.SR.nil _ _ _),hS.sp⟩)|(obtain ⟨c9,hle9,hS,hk9⟩:=St.freeze1 (r:=tyR) (L:=KLf j s vl css L) hS.sp (hN:tyR.at _ _ number);exact ⟨_,rfl,c9,_,hle9,cd_c hC,Q46 hT hk9,hS⟩)|(obtain ⟨c9,hle9,hS,hk9⟩:=St.freeze1 (r:=tyR) (L:=KLf j s vl css L) hS.sp (hN:tyR.at _ _ number);exact ⟨_,rfl,c9,_,hle9,cd_o hM,Q13 hM hk9,hS⟩)|(obtain ⟨c9,hle9,hS,hk9⟩:=St.freeze1 (r:=tyR) (L:=KLf j s vl css L) hS.sp hrow;exact ⟨_,rfl,c9,_,hle9,cd_o hM,Q13 hM hk9,hS⟩))
                          | (refine zcf ?_
                             refine zsk ?_)
                         all_goals (refine ZaS ?_;refine zD (ci 13 [12]) ?_;have hS:=hS.drew;refine Zad ?_;first|(refine Q1f ?_)|(refine Q1g ?_)|(refine Qr rfl rfl (fun hc=>?_) (fun hc=>?_)))
                         all_goals (refine Zav ?_;refine Zcb ?_;refine Zak ?_;(first|refine zgn ?_|(refine zgy ?_;refine QZ hS vw fd hlc ?_));first|refine zgn ?_|(refine zgy ?_;(first|(refine Q2b ?_)|(refine Q2c ?_)|(refine Q1a rfl rfl (fun hc=>?_) (fun hc=>?_)))))
                         all_goals (refine ZaK ?_)
                         all_goals
                          first
                          | (refine zct ?_
                             all_goals (refine Zbm ?_;have hM:rmk m j.f s x= .error 1:=(by rw [QbN (by omega),Q2 hjt,Q2 hjf,Qf (Q3R (by omega))]);refine Zbu ?_)
                             all_goals (exact ⟨_,rfl,cx,_,St.refl hS,cd_e hM,Q1R hM,hS.sp⟩))
                          | (refine zcf ?_
                             refine zsk ?_)
                         all_goals (refine ZaS ?_;obtain ⟨t4,ht4⟩:∃t,s.l[x.b.toNat]?=some t:=⟨_,List.getElem?_eq_getElem (by omega)⟩;obtain ⟨d4,hd4,hrd4⟩:=hls.2 _ _ ht4;have hrt4:=hrd4;obtain ⟨vd4,rfl,hld4⟩:=Q9 hrd4;have hj4:=Q2W (s:=s) (k:=x.b) (by omega) ht4;refine zD (ci 11 [9,10]) ?_;have hS:=hS.drew;refine zv hS ?_;refine zm ?_;refine Zbj ?_;refine Zad ?_;refine Q2G hS vw rfl fd (by omega) (by omega) ?_;intro b4 o4 hel4;refine Q3i hS hel4 rfl fd rfl hd4 ?_;refine zR2 (c:=Qab _ _ hrow hrt4 hS) (h:=?_);rintro v1 w1 ⟨rfl,hS⟩;cases hdc:decide (u3=t4))
                         all_goals (refine Zbo ?_)
                         all_goals
                          first
                          | (refine zct ?_
                             refine Zbm ?_;have hM:rmk m j.f s x= .error 9:=(by rw [QbN (by omega),Q2 hjt,Q2 hjf,Q2 hj4];exact if_pos (of_decide_eq_false hdc));refine Zbu ?_
                             ((exact ⟨_,rfl,cx,_,St.refl hS,cd_e hM,Q1R hM,hS.sp⟩)))
                          | (refine zcf ?_
                             refine zsk ?_)
                         all_goals (refine Zbm ?_;have hM:rmk m j.f s x= .ok []:=(by rw [QbN (by omega),Q2 hjt,Q2 hjf,Q2 hj4];exact if_neg (fun h=>h (of_decide_eq_true hdc)));refine Zbu ?_)
                         all_goals (first|(exact ⟨_,rfl,cx,_,St.refl hS,cd_e hM,Q1R hM,hS.sp⟩)|(exact ⟨_,rfl,cx,_,St.refl hS,cd_o hM,Q13 hM (Rep.SR.nil _ _ _),hS.sp⟩)))
                     refine QJ ?_;have hk:=Q9t hF (by omega);have hop14:x.op=14:=(by omega);refine zC [(0,none),(1,none),(2,none),(3,none),(4,none),(5,none),(6,none),(7,none),(8,none),(9,some (some [4,6,8])),(10,some none)] ?_;have hS:=hS.drew;refine Zcs ?_;refine Zbd ?_;refine Zau ?_;refine Zau ?_;refine Yao ?_;intro b2 o2 cs2 x2 hat2 hx2 he2;obtain ⟨vp2,vr2,vb2,rfl,hp2,hr2,hb2⟩:=Qo he2;refine Zcg ?_;refine ZaO ?_;intro p14 w1 hS;refine ZaZ ?_;refine zsn hS ?_;intro w1 hS;have hS:=hS.ns;refine ZaA ?_;have ej:=rcall_k (m:=m) (f:=j.f) (s:=s) hop14 hx2;have hsf:=hm.2 x2 (List.mem_of_getElem? hx2);have hrl:=hr2.len;have hrs:=hsf.2.1.1;refine ZaJ ?_;(first|(refine QZ hS vw fd hlc ?_)|(refine zL ?_));refine Zad ?_;first|(refine Qy ?_)|(refine Qz ?_)|(refine Qa rfl rfl (fun hc=>?_) (fun hc=>?_))
                     all_goals (refine zn ?_)
                     all_goals
                      first
                      | (refine zct ?_
                         refine Zbm ?_;have hM:rmk m j.f s x= .error 2:=ej.trans (if_pos (by omega));refine Zbu ?_
                         ((exact ⟨_,rfl,cx,_,St.refl hS,cd_e hM,Q1R hM,hS.sp⟩)))
                      | (refine zcf ?_
                         refine zsk ?_)
                     refine ZaI ?_
                     refine zoL hS [0,3,14] (fun A LL ρ' w'=>∃(q:Nat),Has ρ' A∧Has ρ' [(15, .int .i64 q)]∧(q≤x.regs.length)∧(Q1V s.h [] x.regs=Q1V s.h (x.regs.take q) (x.regs.drop q))∧(¬(x.regs.length:Int)≠x2.regs)∧St cx w' (LL)) (fun ρ' _=>(x.regs.length - iv (ρ' 15)).toNat) ?_ ?_
                     · exact ⟨0,zh,zh,(by omega),by rfl,by omega,hS.sp⟩
                     rintro ρ w1 ⟨q,hA,hρ,hq,hdr,hne,hS⟩;obtain ⟨ρ,rfl⟩:=env2 hA hρ
                     refine ZaN ?_;(first|(refine QZ hS vw fd hlc ?_)|(refine zL ?_));refine Zaj ?_
                     refine Q5 rfl (fun hc=>?_) (fun hc=>?_)
                     · skip
                       refine Zar ?_;refine ZaS ?_;refine zD (ci 11 [9,10]) ?_;have hS:=hS.drew;refine zm ?_;refine Zbj ?_;refine Zad ?_;refine zm ?_;refine zi ?_;intro b3 o3 cs3 x3 hat3 hx3 he3;obtain rfl:=Qt he3;refine Yan ?_;refine zR2 (c:=rhas_c hS fd) (h:=?_);rintro v1 w1 ⟨rfl,hS⟩;cases hb1:hasB s.h x3
                       all_goals (refine Zbo ?_)
                       all_goals
                        first
                        | (refine zct ?_
                           refine Zbm ?_;have hM:rmk m j.f s x= .error 10:=(by rw [ej,if_neg hne,Qf (Qdn (p:=[]) hx3 hdr hb1)]);refine Zbu ?_
                           ((exact ⟨_,rfl,cx,_,St.refl hS,cd_e hM,Q1R hM,hS.sp⟩)))
                        | (refine zcf ?_
                           refine zsk ?_)
                       refine QJ ?_;refine zD (ci 10 [9]) ?_;have hS:=hS.drew;refine Zad ?_;refine zm ?_;((refine QcC vw hr rfl rfl ⟨_,rfl⟩ rfl (by omega) (by omega) ?_;intro v4 hs4;rw [List.drop_zero] at hs4));refine Zad ?_;refine zm ?_;refine Q11 vw rfl hr rfl (by omega) ?_;intro b7 o7 cs7 x7 hat7 hx7 he7;obtain rfl:=Qt he7;obtain rfl:x3=x7:=Option.some.inj (hx3.symm.trans hx7);refine Yan ?_;refine zR2 (c:=rin_c hs4 hS) (h:=?_);rintro v1 w1 ⟨rfl,hS⟩;cases hb2:decide (x3∈x.regs.take q)
                       all_goals (refine zn ?_)
                       all_goals
                        first
                        | (refine zct ?_
                           refine Zbm ?_;have hM:rmk m j.f s x= .error 13:=(by rw [ej,if_neg hne,Qf (Q8n hx3 hdr hb1 (of_decide_eq_true hb2))]);refine Zbu ?_
                           ((exact ⟨_,rfl,cx,_,St.refl hS,cd_e hM,Q1R hM,hS.sp⟩)))
                        | (refine zcf ?_
                           refine zsk ?_)
                       refine Zax ?_;(exact ⟨⟨q+1,zh,zh,(by omega),by exact Qdm hx3 hdr hb1 (of_decide_eq_false hb2),hne,hS.sp⟩,Q4 (by omega)⟩)
                     · skip
                       refine zex ?_;have hrg:=Qat hdr (by omega);refine ZaN ?_;refine Zad ?_;refine Zad ?_;refine zR4 (c:=Qah (s:=s) hsf.1.2 hls ha hp2 hr hS.p3) (h:=?_);rintro v1 w1 ⟨rfl,hS⟩;refine ZaW ?_;first|(refine Qy ?_)|(refine Qz ?_)|(refine Qa rfl rfl (fun hc=>?_) (fun hc=>?_))
                       all_goals (refine zn ?_)
                       all_goals
                        first
                        | (refine zct ?_
                           refine ZaG ?_;refine Zab ?_;have hM:rmk m j.f s x= .error (QA (Q3U s x.args x2.params x.regs)):=(by rw [ej,if_neg hne,Q2 hrg,Qf (Q6m (by omega))]);refine Zbu ?_
                           ((exact ⟨_,rfl,cx,_,St.refl hS,cd_e hM,Q1R hM,hS.sp⟩)))
                        | (refine zcf ?_
                           refine zsk ?_)
                       refine Zaf ?_;have har:=Q8C (Q4X s x.args x2.params x.regs) (by omega);have hM:rmk m j.f s x= .ok (x2.results.map (renT x.regs)):=(by rw [ej,if_neg hne,Q2 hrg,Q2 har]);refine ZaI ?_;have hS:=St.nil (T:=115) (es:=3) hS
                       refine zo [3,14] (fun A ρ' w'=>∃(k2:Cx) (q:Nat) (vl2:Value) (cs2:List (List Value)),Has ρ' A∧Has ρ' [(18, .int .i64 q),(17,vl2)]∧(cx.Le k2)∧(q≤x2.results.length)∧(tyR.ls k2 cs2 ((x2.results.take q).map (renT x.regs)))∧St k2 w' (sl 115 3 vl2 cs2::blk p14 95 [.int .i64 x2.regs,vp2,vr2,vb2]::blk nb 115 [.int .i64 1, .int .i64 0, .slice none 0 0]::blk p3 84 [.int .i64 x.op, .int .i64 x.a, .int .i64 x.b, .int .i64 x.c, .int .i64 x.k, .int .i64 x.n,vr,va]::blk j.sp 158 (j.kcells vl)::Q4n j.hp s.h::sl 115 3 vl css::L)) (fun ρ' _=>(x2.results.length - iv (ρ' 18)).toNat) ?_ ?_
                       · exact ⟨cx,0,_,_,zh,zh,St.refl hS,(by omega),Rep.LR.nil _ _ _,hS.sp⟩
                       rintro ρ w1 ⟨k2,q,vl2,cs2,hA,hρ,hle2,hq,hlo,hS⟩;obtain ⟨ρ,rfl⟩:=env2 hA hρ;have hL2:=hle2;(try have hr2:=hr2.up hle2);(try have hr:=hr.up hle2)
                       refine ZaN ?_;(first|(refine QZ hS vw fd hlc ?_)|(refine zL ?_));refine Zaj ?_
                       refine Q5 rfl (fun hc=>?_) (fun hc=>?_)
                       · skip
                         refine Zbq ?_
                         refine Q1F 7 11 (by kernel_rfl) ?_ ?_
                         · skip
                           refine zC [(0,none),(1,none),(2,none),(3,none),(4,none),(5,none),(6,none),(7,some none),(8,none),(9,none),(10,none),(11,some (some [])),(12,some (some [])),(13,some none)] ?_;have hS:=hS.drew;refine ZaR ?_;refine Zaz ?_;refine zi ?_;intro b4 o4 cs4 x4 hat4 hx4 he4;obtain ⟨vl4,rfl,hl4⟩:=Q9 he4;refine Zcg ?_;refine Zac ?_;refine Zam ?_;refine ZaE ?_;refine zR2 (c:=QcT x4 (hsf.2.1.2 x4 (List.mem_of_getElem? hx4)) he4 hr hS) (h:=?_);rintro v1 w1 ⟨c3,ds,rfl,hle2,hu3,hS⟩;(try have hL2:=hL2.trans hle2);(try have hlo:=hlo.up hle2);have hu3':=hu3;obtain ⟨vu,rfl,hlu⟩:=Q9 hu3;refine ZbX ?_;refine zxt ?_;refine Zac ?_;refine zxt ?_;refine ZaO ?_;intro p19 w1 hS;refine ZaH ?_;refine zsn hS ?_;intro w1 hS;have hS:=hS.ns;refine ZaZ ?_;refine zm ?_;refine ZaA ?_;refine ZbL ?_;refine zB1 hS [_,_,_] ?_;intro b1 w1 hS;refine za Q2u Q4k hS ?_;intro vp2 w2 css2 hls2 hv2 hS;have hS:=hS.ns;refine Zab ?_;refine Zax ?_;(exact ⟨⟨_,q+1,_,_,zh,zh,hL2,(by omega),by rw [Qq hx4,List.map_append];exact hls2,hS.sp⟩,Q4 (by omega)⟩)
                         · skip
                           refine zC [(0,none),(1,none),(2,none),(3,none),(4,none),(5,none),(6,none),(11,some (some [1,4,6])),(7,some none),(8,none),(9,none),(10,none),(12,some (some [])),(13,some none)] ?_;have hS:=hS.drew;refine ZaR ?_;refine Zaz ?_;refine zi ?_;intro b4 o4 cs4 x4 hat4 hx4 he4;obtain ⟨vl4,rfl,hl4⟩:=Q9 he4;refine Zcg ?_;refine Zac ?_;refine Zam ?_;refine ZaO ?_;intro p19 w1 hS;refine ZaZ ?_;refine zR2 (c:=QcT x4 (hsf.2.1.2 x4 (List.mem_of_getElem? hx4)) he4 hr hS) (h:=?_);rintro v1 w1 ⟨c3,ds,rfl,hle2,hu3,hS⟩;(try have hL2:=hL2.trans hle2);(try have hlo:=hlo.up hle2);have hu3':=hu3;obtain ⟨vu,rfl,hlu⟩:=Q9 hu3;refine ZbX ?_;refine zxt ?_;refine Zac ?_;refine zxt ?_;refine Zat ?_;refine zsn hS ?_;intro w1 hS;have hS:=hS.ns;refine ZaZ ?_;refine zm ?_;refine ZaA ?_;refine ZbL ?_;refine zB1 hS [_,_,_] ?_;intro b1 w1 hS;refine za Q2u Q4k hS ?_;intro vp2 w2 css2 hls2 hv2 hS;have hS:=hS.ns;refine Zab ?_;refine Zax ?_;(exact ⟨⟨_,q+1,_,_,zh,zh,hL2,(by omega),by rw [Qq hx4,List.map_append];exact hls2,hS.sp⟩,Q4 (by omega)⟩)
                       · skip
                         refine zex ?_;refine ZaG ?_;refine Zbg ?_;refine zf2 ?_
                         first|(exact ⟨_,rfl,cx,_,St.refl hS,cd_e hM,Q1R hM,hS.sp⟩)|(exact ⟨_,rfl,cx,_,St.refl hS,cd_o hM,Q13 hM (Rep.SR.nil _ _ _),hS.sp⟩)|(exact ⟨_,rfl,cx,_,St.refl hS,cd_w hM hw,Q13 hM (Rep.SR.nil _ _ _),hS.sp⟩)|(obtain ⟨c9,hle9,hS,hk9⟩:=St.freeze1 (r:=tyR) (L:=KLf j s vl css L) hS.sp (hN:tyR.at _ _ number);exact ⟨_,rfl,c9,_,hle9,cd_c hC,Q46 hT hk9,hS⟩)|(obtain ⟨c9,hle9,hS,hk9⟩:=St.freeze1 (r:=tyR) (L:=KLf j s vl css L) hS.sp (hN:tyR.at _ _ number);exact ⟨_,rfl,c9,_,hle9,cd_o hM,Q13 hM hk9,hS⟩)|(obtain ⟨c9,hle9,hS,hk9⟩:=St.freeze1 (r:=tyR) (L:=KLf j s vl css L) hS.sp hrow;exact ⟨_,rfl,c9,_,hle9,cd_o hM,Q13 hM hk9,hS⟩)|(obtain ⟨c9,hle9,hS,hk9⟩:=St.freeze1 (r:=tyR) (L:=KLf j s vl css L) hS.sp hrow;exact ⟨_,rfl,c9,_,hle2.trans hle9,cd_o hM,Q13 hM hk9,hS⟩)|(exact ⟨_,rfl,c1,_,hle2,cd_e hM,Q1R hM,hS.sp⟩)|(exact ⟨_,rfl,cx,_,St.refl hS,cd_c hC,Q46 hT (Rep.SR.nil _ _ _),hS.sp⟩)|(have hM:rmk m j.f s x= .error 11:=(by rw [Qad (by omega),Q2 hjt,if_pos (by omega)]);exact ⟨_,rfl,cx,_,St.refl hS,cd_e hM,Q1R hM,hS.sp⟩)|(have hM:rmk m j.f s x= .ok []:=(by rw [Qad (by omega),Q2 hjt,if_neg (by omega)]);exact ⟨_,rfl,cx,_,St.refl hS,cd_w hM hw,Q13 hM (Rep.SR.nil _ _ _),hS.sp⟩)|(obtain ⟨c9,hle9,hS,hk9⟩:=St.freezeL (r:=tyR) hS hlo rfl (by simp only [List.length_map,List.length_take];omega);exact ⟨_,rfl,c9,_,hL2.trans hle9,cd_o hM,Q13 hM (by rw [List.take_of_length_le (by omega)] at hk9;exact hk9),hS.sp⟩))))))
end Go.Proofs.YteflkifmgnpbhaaGreat
namespace Go.Proofs.YteflkifmgnpbhaaGreat
open Go.Lir
set_option maxHeartbeats 1000000
attribute [local irreducible] LC.wp Q0 QB QH retQ Q1k LO.wp Qh Calls
set_option linter.unusedSimpArgs false
set_option linter.unusedVariables false
attribute [local irreducible] hasB Q1o Q1c Q1e Q2L upTo QU Q1v rmk jIns
variable {cx:Cx}{w:World}{L:List Res}{j:JP}{h:List Bool}{vl:Value}{css:List (List Value)}{i:Nat}{m:Module}
theorem Q3n {s s':JS}{x:Ins}{c:Int}{c':Cx}{vl':Value}{css':List (List Value)}(hJ:jIns m j.f s x=(c,s')) (hle:cx.Le c') (hls:tyR.ls c' css' s'.l) (hS:St c' w (KLf j s' vl' css' L)):
 ∃c' vl' css',cx.Le c'∧(Value.int .i64 c)= .int .i64 (jIns m j.f s x).1∧tyR.ls c' css' (jIns m j.f s x).2.l∧St c' w (KLf j (jIns m j.f s x).2 vl' css' L):=by
 rw [hJ];exact ⟨_,_,_,hle,rfl,hls,hS⟩
theorem rIns_c {s:JS}{x:Ins}{cs:List Value}(hm:m.Short) (hg:JInv m j.f s) (hj:j.Fits cx m) (hx:insR.at cx cs x) (hls:tyR.ls cx css s.l) (hS:St cx w (KLf j s vl css L)):
 Rets Tryz.prog QaI [.pointer (some ⟨j.sp,0,none⟩), .agg ⟨cs⟩] w fun u w'=>∃c' vl' css',cx.Le c'∧u= .int .i64 (jIns m j.f s x).1∧tyR.ls c' css' (jIns m j.f s x).2.l∧St c' w' (KLf j (jIns m j.f s x).2 vl' css' L):=by
 have hx':=hx
 have hlc:=hls.1
 have hn:=hg.n
 have hh:=hg.h
 have hlen:(s.h.map Qi).length=s.h.length:=List.length_map _
 obtain ⟨vr,va,rfl,hr,ha⟩:=QG hx
 refine lgo tyD Tryz.func54 ?_;refine Zaw ?_;intro p3 w1 hS;refine Zab ?_;refine ZaS ?_;refine zD (ci 7 [5,6]) ?_;have hS:=hS.drew;refine zm ?_;refine ZaL ?_;refine zv hS ?_;refine zv hS ?_;refine zR2 (c:=rins_c (m:=m) ⟨_,rfl,hj.m⟩ hx' hS) (h:=?_);rintro v1 w1 ⟨rfl,hS⟩;refine ZaW ?_;first|(refine Qy ?_)|(refine Qz ?_)|(refine Qa rfl rfl (fun hc=>?_) (fun hc=>?_))
 all_goals (refine zn ?_)
 all_goals
  first
  | (refine zct ?_
     refine Zbm ?_;have hJ:=jIns_f (f:=j.f) (s:=s) (x:=x) (m:=m) (by omega);refine Zai ?_
     (exact ⟨_,rfl,Q3n hJ (St.refl hS) hls hS.sp⟩))
  | (refine zcf ?_
     refine zsk ?_)
 refine QJ ?_;have hF:Qm m.funcs.length x=0:=(by omega);refine ZbL ?_;refine zR2 (c:=rmakes_c (s:=s) hm hF hg.toJGood hj hx' hls hS.p3) (h:=?_);rintro v1 w1 ⟨c1,vm1,hle2,rfl,hv0,hS⟩;have hls:=hls.up hle2;refine zm ?_;refine Zcd ?_;refine zm ?_;refine Zab ?_;refine Zan ?_;first|(refine Qy ?_)|(refine Qz ?_)|(refine Qa rfl rfl (fun hc=>?_) (fun hc=>?_))
 all_goals (refine zn ?_)
 all_goals
  first
  | (refine zct ?_
     refine Zbm ?_;have hJ:=jIns_e (f:=j.f) (s:=s) hF hg (by omega);refine Zai ?_
     first|(exact ⟨_,rfl,Q3n hJ (St.refl hS) hls hS.sp⟩)|(exact ⟨_,rfl,Q3n hJ hle2 hls hS.sp⟩))
  | (refine zcf ?_
     refine zsk ?_)
 refine ZaS ?_;obtain ⟨ts,hts⟩:=Q6l (rmk_nz m j.f s x) (by omega);have hv:=hv0 ts hts;have hvl:=hv.len;refine Zag ?_;refine Zbj ?_;refine QZ hS vw fd hlc ?_;refine zm ?_;refine QcL vw hv ?_;refine zad ?_;first|(refine QL ?_)|(refine QO ?_)|(refine Qd rfl rfl (fun hc=>?_) (fun hc=>?_))
 all_goals (refine zn ?_)
 all_goals
  first
  | (refine zct ?_
     refine Zaf ?_;have hJ:=jIns_m hF hg hts (by omega);refine Zai ?_
     first|(exact ⟨_,rfl,Q3n hJ (St.refl hS) hls hS.sp⟩)|(exact ⟨_,rfl,Q3n hJ hle2 hls hS.sp⟩))
  | (refine zcf ?_
     refine zsk ?_)
 refine ZaJ ?_;first|(refine Qp ?_)|(refine Qu ?_)|(refine Q7 rfl rfl (fun hc=>?_) (fun hc=>?_))
 all_goals (refine zn ?_)
 all_goals
  first
  | (refine zct ?_
     obtain ⟨vh,hS⟩:=Q2P (hp:=j.hp) (h:=s.h) (L:=blk j.sp 158 (j.kcells vl)::sl 115 3 vl css::blk p3 84 [.int .i64 x.op, .int .i64 x.a, .int .i64 x.b, .int .i64 x.c, .int .i64 x.k, .int .i64 x.n,vr,va]::L) hS.sp;have h16:=rmk_3ok hts (by omega);have hJ:=jIns_o3 hF hg hts (by omega) (by omega);refine zC [(0,none),(1,none),(2,none),(3,none),(4,none),(5,none),(6,none),(7,none),(8,none),(9,none),(10,none),(11,some (some [3,7,10])),(12,some (some [3])),(13,none),(14,none),(15,some none)] ?_;have hS:=hS.drew;refine Zcs ?_;refine Zcc ?_;refine Zaz ?_;refine znc ?_;refine Zcc ?_;refine znc ?_;refine Zac ?_;refine Zbn ?_;refine zB1 hS [_] ?_;intro b1 w1 hS;refine ZaH ?_;refine Q3G Q3Z (.inl QaQ) hS vw vw fd (hS.srcB1 fd rfl) (by simp;omega) ?_;intro vp w2 hS;have hS:=hS.ns;rw [show s.h.map Qi++[[Value.bool true]]=(s.h++[true]).map Qi by simp [Qi]] at hS;refine ZaM ?_;refine znc ?_;refine Zch ?_;refine ZaE ?_;((refine zst hS ?_;intro w1 hS;have hS:=hS.ns));refine ZaA ?_
     have hS:=Q2t (hp:=j.hp) (h:=s.h++[true]) (v:=vp) (L:=blk j.sp 158 (j.kcells vl)::sl 115 3 vl css::blk p3 84 [.int .i64 x.op, .int .i64 x.a, .int .i64 x.b, .int .i64 x.c, .int .i64 x.k, .int .i64 x.n,vr,va]::L) hS.sp)
  | (refine zcf ?_
     refine zsk ?_)
 all_goals (refine ZaJ ?_;first|(refine Qp ?_)|(refine Qu ?_)|(refine Q7 rfl rfl (fun hc=>?_) (fun hc=>?_)))
 all_goals (refine zn ?_)
 all_goals
  first
  | (refine zcf ?_
     all_goals refine zsk ?_)
  | (refine zct ?_
     obtain ⟨vh,hS⟩:=Q2P (hp:=j.hp) (h:=s.h) (L:=blk j.sp 158 (j.kcells vl)::sl 115 3 vl css::blk p3 84 [.int .i64 x.op, .int .i64 x.a, .int .i64 x.b, .int .i64 x.c, .int .i64 x.k, .int .i64 x.n,vr,va]::L) hS.sp;obtain ⟨t,g0,g1,ht,r0,r1⟩:=rmk_4ok hts (by omega);have hJ:=jIns_o4 hF hg hts (by omega) (by omega) ht;obtain ⟨d,hd,hrd⟩:=hls.2 _ _ ht;obtain ⟨vd,rfl,hld⟩:=Q9 hrd;refine zD (ci 18 [17]) ?_;have hS:=hS.drew;refine zm ?_;refine Zbj ?_;refine Zbj ?_;refine zm ?_;refine Zbj ?_;refine Zad ?_;refine Q2G hS vw rfl fd (by omega) (by omega) ?_;intro b1 o1 hel1;refine Yae ?_;refine QI (j:=1) hS hel1 rfl fd rfl hd rfl ?_;refine Q2G hS vw rfl fd (by omega) (by omega) ?_;intro b2 o2 hel2;refine Q6b hS hel2 rfl vw fd rfl (Q1D Qi s.h false (by omega)) (by decide) rfl ?_;intro w2 hS;have hS:=hS.ns;rw [show (Qi (s.h.getD t.r.toNat false)).set 0 (Value.bool false)=Qi false from rfl,map_set] at hS;refine zn ?_
     have hS:=Q2t (hp:=j.hp) (h:=s.h.set t.r.toNat false) (v:=vh) (L:=blk j.sp 158 (j.kcells vl)::sl 115 3 vl css::blk p3 84 [.int .i64 x.op, .int .i64 x.a, .int .i64 x.b, .int .i64 x.c, .int .i64 x.k, .int .i64 x.n,vr,va]::L) hS.sp)
 all_goals (refine ZaG ?_;refine Zbj ?_;refine zm ?_;(first|(refine za Q2u Q4k hS ?_;intro vp1 w1 css1 hls1 hv1 hS;have hS:=hS.ns)|(refine zak Q2u Q4k hS ?_;intro vp1 w1 css1 hls1 hv1 hS;have hS:=hS.ns));refine ZaL ?_;refine zst hS ?_;intro w1 hS;have hS:=hS.ns;refine zn ?_;refine Zas ?_;(first|(exact ⟨_,rfl,Q3n hJ (St.refl hS) hls hS.sp⟩)|(exact ⟨_,rfl,Q3n hJ hle2 hls hS.sp⟩)|(exact ⟨_,rfl,Q3n hJ hle2 hls1 hS.sp⟩)|(exact ⟨_,rfl,Q3n (jIns_o hF hg hts (by omega) (by omega) (by omega)) hle2 hls1 hS.sp⟩)))
theorem rTo_c {s:JS}{t:To}{cs:List Value}(hsf:j.f.Short) (hb:0≤t.block∧t.block<j.f.blocks.length) (hfb:∀b∈j.f.blocks,j.f.regs≤b.regs) (hh:s.h.length≤16) (hj:j.Fits cx m) (hx:toR.at cx cs t) (hls:tyR.ls cx css s.l) (hS:St cx w (KLf j s vl css L)):
 Rets Tryz.prog Qcn [.pointer (some ⟨j.sp,0,none⟩), .agg ⟨cs⟩] w fun u w'=>u= .int .i64 (QA (jto j.f s t))∧St cx w' (KLf j s vl css L):=by
 have hx':=hx
 obtain ⟨vr,va,rfl,hr,ha⟩:=Q1N hx
 have hlr:=hr.len
 have hbl:=hj.b
 refine lgo tyD Tryz.func97 ?_;refine Zaw ?_;intro p3 w1 hS;refine Zab ?_;refine QJ ?_;refine zC [(0,none),(1,none),(2,none),(3,none),(4,none),(5,none),(6,none),(7,none),(8,none),(9,some (some [4,6,8])),(10,some none)] ?_;have hS:=hS.drew;refine Zcs ?_;refine ZbR ?_;refine zl hS ?_;refine Zcc ?_;refine Yao ?_;intro b1 o1 cs1 x1 hat1 hx1 he1;obtain ⟨vp1,vc1,ve11,ve12,ve13,ve14,ve15,rfl,hp1,hc1,he11,he12,he13,he14,he15⟩:=QC he1;refine Zcg ?_;refine ZaO ?_;intro p5 w1 hS;refine ZaZ ?_;refine zsn hS ?_;intro w1 hS;have hS:=hS.ns;refine ZaA ?_;have hbm:=List.mem_of_getElem? hx1;have hf1:=hfb x1 hbm;have hsb:=hsf.2.2.2 x1 hbm;refine ZaJ ?_;refine zL ?_;refine Zad ?_;first|(refine Qy ?_)|(refine Qz ?_)|(refine Qa rfl rfl (fun hc=>?_) (fun hc=>?_))
 all_goals (refine zn ?_)
 all_goals
  first
  | (refine zct ?_
     refine Zas ?_
     ((refine ⟨_,rfl,?_,hS.sp⟩;(rw [Qdl hx1 (by omega)];rfl);done)))
  | (refine zcf ?_
     refine zsk ?_)
 refine ZaI ?_
 refine zoL hS [0,3,5] (fun A LL ρ' w'=>∃(q:Nat),Has ρ' A∧Has ρ' [(6, .int .i64 q)]∧(q≤j.f.regs.toNat)∧(Q2L t.regs q=true)∧(¬(t.regs.length:Int)≠x1.regs)∧St cx w' (LL)) (fun ρ' _=>(j.f.regs - iv (ρ' 6)).toNat) ?_ ?_
 · exact ⟨0,zh,zh,(by omega),by unfold Q2L;rfl,by omega,hS.sp⟩
 rintro ρ w1 ⟨q,hA,hρ,hq,hk,hne,hS⟩;obtain ⟨ρ,rfl⟩:=env2 hA hρ
 refine Zbr ?_;refine ZaL ?_;refine ZbK ?_;refine Zaj ?_
 refine Q5 rfl (fun hc=>?_) (fun hc=>?_)
 · skip
   refine Zar ?_;refine Zao ?_;refine zm ?_;refine zi ?_;intro b2 o2 cs2 x2 hat2 hx2 he2;obtain rfl:=Qt he2;refine Yan ?_;refine zm ?_;first|(refine Qy ?_)|(refine Qz ?_)|(refine Qa rfl rfl (fun hc=>?_) (fun hc=>?_))
   all_goals (refine zn ?_)
   all_goals
    first
    | (refine zct ?_
       refine Zas ?_
       first|(refine ⟨_,rfl,?_,hS.sp⟩;rw [Qdl hx1 (by omega)];rfl;done)|(refine ⟨_,rfl,?_,hS.sp⟩;rw [Qbh hx1 hne (Q8m (q:=q) (by omega) (by rw [hx2];intro h;cases h;omega))];rfl;done))
    | (refine zcf ?_
       refine zsk ?_)
   refine Zax ?_;(exact ⟨⟨q+1,zh,zh,(by omega),by rw [kept_s,hk,hx2];simp;omega,hne,hS.sp⟩,Q4 (by omega)⟩)
 · skip
   refine zex ?_;have hq':q=j.f.regs.toNat:=(by omega);rw [hq'] at hk;refine ZaS ?_;refine zD (ci 8 [6,7]) ?_;have hS:=hS.drew;refine zm ?_;refine Zbj ?_;refine Zad ?_;refine zR2 (c:=rpass_h (h:=s.h) hh hr hS fd) (h:=?_);rintro v1 w1 ⟨rfl,hS⟩;refine ZaW ?_;first|(refine Qy ?_)|(refine Qz ?_)|(refine Qa rfl rfl (fun hc=>?_) (fun hc=>?_))
   all_goals (refine zn ?_)
   all_goals
    first
    | (refine zct ?_
       refine Zbk ?_
       first|(refine ⟨_,rfl,?_,hS.sp⟩;rw [Qdl hx1 (by omega)];rfl;done)|(refine ⟨_,rfl,?_,hS.sp⟩;rw [Qbh hx1 hne (Q8m (q:=q) (by omega) (by rw [hx2];intro h;cases h;omega))];rfl;done)|(refine ⟨_,rfl,?_,hS.sp⟩;rw [jto_p hx1 hne hk (by omega)];rfl;done))
    | (refine zcf ?_
       refine zsk ?_)
   refine Zae ?_;refine Zad ?_;refine Zad ?_;refine Zad ?_;refine zR4 (c:=Qah (s:=s) hsb.1.2 hls ha hp1 hr hS.p3) (h:=?_);rintro v1 w1 ⟨rfl,hS⟩;refine ZaB ?_;first|(refine ⟨_,rfl,?_,hS.sp⟩;rw [Qdl hx1 (by omega)];rfl;done)|(refine ⟨_,rfl,?_,hS.sp⟩;rw [Qbh hx1 hne (Q8m (q:=q) (by omega) (by rw [hx2];intro h;cases h;omega))];rfl;done)|(refine ⟨_,rfl,?_,hS.sp⟩;rw [jto_p hx1 hne hk (by omega)];rfl;done)|(refine ⟨_,rfl,?_,hS.sp⟩;rw [jto_a hx1 hne hk (by omega)];done)
end Go.Proofs.YteflkifmgnpbhaaGreat
namespace Go.Proofs.YteflkifmgnpbhaaGreat
open Go.Lir
set_option maxHeartbeats 1000000
attribute [local irreducible] LC.wp Q0 QB QH retQ Q1k LO.wp Qh Calls
set_option linter.unusedSimpArgs false
set_option linter.unusedVariables false
attribute [local irreducible] hasB Q1o Q1c Q1e Q2L upTo QU Q1v rmk jIns jEnd Module.fault
variable {cx:Cx}{w:World}{L:List Res}{j:JP}{h:List Bool}{vl:Value}{css:List (List Value)}{i:Nat}{m:Module}
theorem jto_nz (f:Fun) (s:JS) (t:To):NZ (jto f s t):=by
 unfold jto
 split
 · exact .e (by decide)
 · split
   · exact .e (by decide)
   · split
     · exact .e (by decide)
     · split
       · rename_i h;exact .e h
       · exact Q4X _ _ _ _
theorem rEnd_c {s:JS}{e:Tail}{cs:List Value}(hsf:j.f.Short) (hfb:∀b∈j.f.blocks,j.f.regs≤b.regs) (hf0:0≤j.f.regs) (hfr:j.f.regs≤100000) (hg:JInv m j.f s) (hj:j.Fits cx m) (hx:endR.at cx cs e) (hls:tyR.ls cx css s.l) (hS:St cx w (KLf j s vl css L)):
 Rets Tryz.prog QaJ [.pointer (some ⟨j.sp,0,none⟩), .agg ⟨cs⟩] w fun u w'=>u= .int .i64 (jEnd j.f s e)∧St cx w' (KLf j s vl css L):=by
 have hx':=hx
 have hh:=hg.h
 obtain ⟨v1,v2,v3,v4,v5,rfl,h1,h2,h3,h4,h5⟩:=Q3u hx
 have hT1:toR.at cx [.int .i64 e.yes.block,v1,v2] e.yes:=⟨_,_,rfl,h1,h2⟩
 have hT2:toR.at cx [.int .i64 e.no.block,v3,v4] e.no:=⟨_,_,rfl,h3,h4⟩
 have hjr:=hj.r
 refine lgo tyD Tryz.func56 ?_;refine Zaw ?_;intro p3 w1 hS;refine Zab ?_;refine ZaS ?_;refine zD (ci 7 [5,6]) ?_;have hS:=hS.drew;refine zm ?_;refine ZaL ?_;refine zv hS ?_;refine zv hS ?_;refine zR2 (c:=rend_c (x:=j.f) ⟨_,_,_,rfl,hj.p,hj.r,hj.b⟩ hx' hS) (h:=?_);rintro v1 w1 ⟨rfl,hS⟩;refine ZaW ?_;first|(refine Qy ?_)|(refine Qz ?_)|(refine Qa rfl rfl (fun hc=>?_) (fun hc=>?_))
 all_goals (refine zn ?_)
 all_goals
  first
  | (refine zct ?_
     refine Zbm ?_;have hJ:=jEnd_f (f:=j.f) (s:=s) (e:=e) (by omega);refine Zai ?_
     (exact ⟨_,rfl,(by rw [hJ]),hS.sp⟩))
  | (refine zcf ?_
     refine zsk ?_)
 refine ZaS ?_;have hF:Q10 j.f.blocks.length e=0:=(by omega);have hE:=jEnd_g (s:=s) hF;have hop:=Q2C hF;have hy:e.op≠3→0≤e.yes.block∧e.yes.block<j.f.blocks.length:=(fun h=>Q4O (by have:=hop.2.2.1;rwa [decide_eq_true h] at this));have hz:e.op=2→0≤e.no.block∧e.no.block<j.f.blocks.length:=(fun h=>Q4O (by have:=hop.2.2.2;rwa [decide_eq_true h] at this));refine Zba ?_;refine Zcu ?_;refine Zaa ?_;first|(refine Qp ?_)|(refine Qu ?_)|(refine Q7 rfl rfl (fun hc=>?_) (fun hc=>?_))
 all_goals (refine Zab ?_)
 all_goals
  first
  | (refine zct ?_
     refine Zae ?_;refine ZbN ?_;refine zR2 (c:=rTo_c (s:=s) hsf (hy (by omega)) hfb hh hj hT1 hls hS.p3) (h:=?_);rintro v6 w1 ⟨rfl,hS⟩;refine Zab ?_;have hJ:jEnd j.f s e=QA (jto j.f s e.yes):=(by rw [hE,Qdp (by omega)]);refine Zai ?_
     (exact ⟨_,rfl,(by rw [hJ]),hS.sp⟩))
  | (refine zcf ?_
     refine Zaa ?_;first|(refine Qp ?_)|(refine Qu ?_)|(refine Q7 rfl rfl (fun hc=>?_) (fun hc=>?_))
     all_goals (refine Zab ?_)
     all_goals
      first
      | (refine zct ?_
         refine ZaN ?_;refine zR4 (c:=Q1U (s:=s) (k:=e.a) (kd:=1) (held:=false) hls hS.p3) (h:=?_);rintro v6 w1 ⟨rfl,hS⟩;refine ZaW ?_;first|(refine Qy ?_)|(refine Qz ?_)|(refine Qa rfl rfl (fun hc=>?_) (fun hc=>?_))
         all_goals (refine zn ?_)
         all_goals
          first
          | (refine zct ?_
             refine Zbm ?_;have hJ:jEnd j.f s e=QU s e.a 1 false:=(by rw [hE,Q70 (by omega),Qf (Q9P (by omega))];rfl);refine Zai ?_
             (exact ⟨_,rfl,(by rw [hJ]),hS.sp⟩))
          | (refine zcf ?_
             refine zsk ?_)
         refine ZaS ?_;obtain ⟨t1,g1⟩:=Qcp (s:=s) (k:=e.a) (kd:=1) (by omega);refine Zag ?_;refine ZbN ?_;refine zR2 (c:=rTo_c (s:=s) hsf (hy (by omega)) hfb hh hj hT1 hls hS.p3) (h:=?_);rintro v6 w1 ⟨rfl,hS⟩;refine ZaW ?_;first|(refine Qy ?_)|(refine Qz ?_)|(refine Qa rfl rfl (fun hc=>?_) (fun hc=>?_))
         all_goals (refine zn ?_)
         all_goals
          first
          | (refine zct ?_
             refine Zbm ?_;have hJ:jEnd j.f s e=QA (jto j.f s e.yes):=(by rw [hE,Q70 (by omega),Q2 g1,Qf (Q6m (by omega))];rfl);refine Zai ?_
             (exact ⟨_,rfl,(by rw [hJ]),hS.sp⟩))
          | (refine zcf ?_
             refine zsk ?_)
         refine Zae ?_;refine ZbN ?_;refine zR2 (c:=rTo_c (s:=s) hsf (hz (by omega)) hfb hh hj hT2 hls hS.p3) (h:=?_);rintro v6 w1 ⟨rfl,hS⟩;refine Zab ?_;have hJ:jEnd j.f s e=QA (jto j.f s e.no):=(by rw [hE,Q70 (by omega),Q2 g1,Q2 (Q8C (jto_nz _ _ _) (by omega))]);refine Zai ?_
         (exact ⟨_,rfl,(by rw [hJ]),hS.sp⟩))
      | (refine zcf ?_
         refine zsk ?_))
 refine Zaf ?_;refine ZaI ?_;have hS:=St.nil (T:=3) (es:=1) hS
 refine zo [0,3] (fun A ρ' w'=>∃(q:Nat) (vo:Value) (co:List (List Value)),Has ρ' A∧Has ρ' [(9, .int .i64 q),(8,vo)]∧(q≤j.f.regs.toNat)∧(intR.ls cx co (upTo q))∧((upTo q).length=q)∧(e.op=3)∧St cx w' (sl 3 1 vo co::blk p3 90 [.int .i64 e.op, .int .i64 e.a, .int .i64 e.yes.block,v1,v2, .int .i64 e.no.block,v3,v4,v5]::blk j.sp 158 (j.kcells vl)::Q4n j.hp s.h::sl 115 3 vl css::L)) (fun ρ' _=>(j.f.regs - iv (ρ' 9)).toNat) ?_ ?_
 · exact ⟨0,_,[],zh,zh,(by omega),by unfold upTo;exact Rep.LR.nil _ _ _,by unfold upTo;rfl,by omega,hS.sp⟩
 rintro ρ w1 ⟨q,vo,co,hA,hρ,hq,hlo,hlq,ho3,hS⟩;obtain ⟨ρ,rfl⟩:=env2 hA hρ
 refine Zbr ?_;refine ZaL ?_;refine ZbK ?_;refine Zaj ?_
 refine Q5 rfl (fun hc=>?_) (fun hc=>?_)
 · skip
   refine Zar ?_;refine Zbc ?_;refine zB1 hS [_] ?_;intro b1 w1 hS;refine za Q3a Q61 hS ?_;intro vp1 w1 css1 hls1 hv1 hS;have hS:=hS.ns;refine Zab ?_;refine Zax ?_;(exact ⟨⟨q+1,_,_,zh,zh,(by omega),by rw [QaP];exact hls1,by rw [QaP,List.length_append,hlq];rfl,ho3,hS.sp⟩,Q4 (by omega)⟩)
 · skip
   refine zex ?_;have hq':q=j.f.regs.toNat:=(by omega);rw [hq'] at hlo;obtain ⟨c1,hle2,hS,hk1⟩:=St.freezeL (r:=intR) hS hlo rfl (by rw [←hq'];omega);have hls':=hls.up hle2;have h5':=h5.up hle2;have hjr':=hjr.up hle2;refine ZaS ?_;refine zD (ci 11 [9,10]) ?_;have hS:=hS.drew;refine zm ?_;refine Zad ?_;refine zm ?_;refine ZaL ?_;refine ZbK ?_;refine zm ?_;refine zR4 (c:=Qah (s:=s) hsf.2.1.2 hls' h5' hjr' hk1 hS.p3) (h:=?_);rintro v6 w1 ⟨rfl,hS⟩;refine ZaW ?_;first|(refine Qy ?_)|(refine Qz ?_)|(refine Qa rfl rfl (fun hc=>?_) (fun hc=>?_))
   all_goals (refine zn ?_)
   all_goals
    first
    | (refine zct ?_
       refine Zbm ?_;have hJ:jEnd j.f s e=QA (Q3U s e.args j.f.results (upTo j.f.regs.toNat)):=(by rw [hE,Q7T ho3,Qf (Q6m (by omega))];rfl);refine Zai ?_
       first|(exact ⟨_,rfl,(by rw [hJ]),hS.sp⟩)|(exact ⟨_,rfl,(by rw [hJ]),St.weak hS.sp hle2⟩))
    | (refine zcf ?_
       refine zsk ?_)
   refine QJ ?_;have har:=Q8C (Q4X s e.args j.f.results (upTo j.f.regs.toNat)) (by omega);refine Zag ?_;refine Zbj ?_;refine zR1 (c:=rlist_h (h:=s.h) hh hS fd) (h:=?_);rintro v1 w1 ⟨c2,hle3,hk2,hS⟩;have hl2:=hk2.len;refine Zab ?_;refine ZaI ?_
   refine zoL hS [0,11] (fun A LL ρ' w'=>∃(q:Nat),Has ρ' A∧Has ρ' [(12, .int .i64 q)]∧(q≤(Q1o s.h).length)∧(∀r∈(Q1o s.h).take q,r<j.f.regs)∧St c2 w' (LL)) (fun ρ' _=>((Q1o s.h).length - iv (ρ' 12)).toNat) ?_ ?_
   · exact ⟨0,zh,zh,(by omega),by simp,hS.sp⟩
   rintro ρ w1 ⟨q,hA,hρ,hq,hall,hS⟩;obtain ⟨ρ,rfl⟩:=env2 hA hρ
   refine ZbW ?_
   refine Q5 rfl (fun hc=>?_) (fun hc=>?_)
   · skip
     refine Zbq ?_;refine zD (ci 10 [9]) ?_;have hS:=hS.drew;refine ZbV ?_;refine zi ?_;intro b1 o1 cs1 x1 hat1 hx1 he1;obtain rfl:=Qt he1;refine Yan ?_;refine zm ?_;refine ZaL ?_;refine ZbK ?_;first|(refine Q2b ?_)|(refine Q2c ?_)|(refine Q1a rfl rfl (fun hc=>?_) (fun hc=>?_))
     all_goals (refine zn ?_)
     all_goals
      first
      | (refine zct ?_
         refine Zaf ?_;have hJ:jEnd j.f s e=12:=(by rw [hE,Q7T ho3,Q2 har,if_pos ((Qbf hg hf0).2 ⟨x1,List.mem_of_getElem? hx1,by omega⟩)];rfl);refine Zai ?_
         first|(exact ⟨_,rfl,(by rw [hJ]),hS.sp⟩)|(exact ⟨_,rfl,(by rw [hJ]),St.weak hS.sp hle2⟩)|(exact ⟨_,rfl,(by rw [hJ]),St.weak hS.sp (hle2.trans hle3)⟩))
      | (refine zcf ?_
         refine zsk ?_)
     refine Zax ?_;(exact ⟨⟨q+1,zh,zh,(by omega),Q3x hall hx1 (by omega),hS.sp⟩,Q4 (by omega)⟩)
   · skip
     refine zex ?_;refine Zaf ?_;have hJ:jEnd j.f s e=0:=(by rw [hE,Q7T ho3,Q2 har,if_neg (fun h=>by obtain ⟨r,hr,h2⟩:=(Qbf hg hf0).1 h;have:=hall r (by rw [List.take_of_length_le (by omega)];exact hr);omega)];rfl);refine Zai ?_;(first|(exact ⟨_,rfl,(by rw [hJ]),hS.sp⟩)|(exact ⟨_,rfl,(by rw [hJ]),St.weak hS.sp hle2⟩)|(exact ⟨_,rfl,(by rw [hJ]),St.weak hS.sp (hle2.trans hle3)⟩))
theorem QcU {l:List Ty}(hlen:l.length≤100000) (hs:∀x∈l,x.Short){cx:Cx}{w:World}{L:List Res}{v:Value}(hl:tyR.sl cx v l) (hS:St cx w L):Rets Tryz.prog Q5L [v] w fun u w'=>∃c' css,cx.Le c'∧oneC u=true∧tyR.ls c' css l∧St c' w' (sl 115 3 u css::L):=by
 refine lgo tyD Tryz.func59 ?_;refine Zaf ?_;refine Zaf ?_;refine ZaI ?_
 refine zoL hS [0] (fun A LL ρ' w'=>∃(c1:Cx) (j:Nat) (u:Value) (css:List (List Value)),Has ρ' A∧Has ρ' [(3,u),(4, .int .i64 j)]∧(cx.Le c1)∧(j≤l.length)∧(tyR.ls c1 css (l.take j))∧(oneC u=true)∧St c1 w' (sl 115 3 u css::LL)) (fun ρ' _=>(l.length - iv (ρ' 4)).toNat) ?_ ?_
 · exact ⟨cx,0, .slice none 0 0,[],zh,zh,St.refl hS,(by omega),Rep.LR.nil _ _ _,rfl,by have hS:=hS.nil (T:=115) (es:=3);exact hS⟩
 rintro ρ w1 ⟨c1,j,u,css,hA,hρ,hle,hj,hls,hu,hS⟩;obtain ⟨ρ,rfl⟩:=env2 hA hρ;have hl:=Rep.SR.up hl hle
 refine ZbW ?_
 refine Q5 rfl (fun hc=>?_) (fun hc=>?_)
 · skip
   refine Zar ?_;refine Zbc ?_;refine ZaX ?_;intro b1 o1 cs1 x1 hat1 hx1 he1;obtain ⟨vl1,rfl,hl1⟩:=Q9 he1;refine Yaf ?_;refine zR1 (c:=rown_c x1 (hs x1 (List.mem_of_getElem? hx1)) he1 hS) (h:=?_);rintro v1 w1 ⟨c2,ds,rfl,hle2,hd,hS⟩;obtain ⟨v2,rfl,hv2⟩:=Q9 hd;have hls:=Rep.LR.up hls hle2;refine zB1 hS [_,_,_] ?_;intro b1 w1 hS;refine za Q2u Q4k hS ?_;intro vp1 w1 css1 hls1 hv1 hS;have hS:=hS.ns;refine Zab ?_;refine Zax ?_;(exact ⟨⟨c2,j+1,_,_,zh,zh,hle.trans hle2,(by omega),by rw [Qq hx1];assumption,by assumption,hS.sp⟩,Q4 (by omega)⟩)
 · skip
   refine Zco ?_;(rw [List.take_of_length_le (by omega)] at hls;exact ⟨_,rfl,c1,css,hle,hu,hls,hS.sp⟩)
theorem rKAt_c {f b:Int}{fn:Fun}{y:Block}{cs:List Value}(hm:m.Short) (hf:0≤f) (hb:0≤b) (hfn:m.funcs[f.toNat]?=some fn) (hy:fn.blocks[b.toNat]?=some y) (hx:modR.at cx cs m) (hS:St cx w L):
 Rets Tryz.prog QdV [.agg ⟨cs⟩, .int .i64 f, .int .i64 b] w fun u w'=>∃(j:JP) (c':Cx) (vl:Value) (css:List (List Value)),u= .pointer (some ⟨j.sp,0,none⟩)∧cx.Le c'∧j.Fits c' m∧j.f=fn∧tyR.ls c' css y.params∧St c' w' (KLf j (Q1H y) vl css L):=by
 obtain ⟨vf,rfl,hf1⟩:=QP hx
 have hff:=(List.getElem?_eq_some_iff.1 hfn).1
 have hbb:=(List.getElem?_eq_some_iff.1 hy).1
 have hsf:=hm.2 fn (List.mem_of_getElem? hfn)
 have hle:=St.refl hS
 refine lgo tyD Tryz.func53 ?_;refine Zaw ?_;intro p3 w1 hS;refine Zab ?_;refine Zao ?_;refine zm ?_;refine Q7L vw rfl hf1 rfl (by omega) (by omega) ?_;intro b1 o1 cs1 x1 hat1 hx1 he1;obtain ⟨vp1,vr1,vb1,rfl,hp1,hr1,hb1⟩:=Qo he1;obtain rfl:fn=x1:=Option.some.inj (hfn.symm.trans hx1);refine Zcn ?_;refine zm ?_;refine Q7L vw rfl hb1 rfl (by omega) (by omega) ?_;intro b2 o2 cs2 x2 hat2 hx2 he2;obtain ⟨vp2,vc2,ve21,ve22,ve23,ve24,ve25,rfl,hp2,hc2,he21,he22,he23,he24,he25⟩:=QC he2;obtain rfl:y=x2:=Option.some.inj (hy.symm.trans hx2);refine ZaC ?_;(intro p7 w1 hS);((refine zsn hS ?_;intro w1 hS;have hS:=hS.ns));refine Zbe ?_;refine zC [(0,none),(1,none),(2,none),(3,none),(4,none),(5,none),(6,none),(7,none),(9,none),(10,none),(8,some (some [0,2,5,10])),(11,some (some [0,2,5])),(12,none),(13,some none),(14,some none)] ?_;have hS:=hS.drew;refine s_cq ?_;refine zv hS ?_;refine Zcc ?_;refine Zaz ?_;refine Q7L vw rfl hf1 rfl (by omega) (by omega) ?_;intro b3 o3 cs3 x3 hat3 hx3 he3;obtain ⟨vp3,vr3,vb3,rfl,hp3,hr3,hb3⟩:=Qo he3;obtain rfl:fn=x3:=Option.some.inj (hfn.symm.trans hx3);refine Zcg ?_;refine Zcc ?_;refine Zbn ?_;refine zR1 (c:=rnew_u hS) (h:=?_);rintro v1 w1 ⟨hp,vh,rfl,hS⟩;refine ZaH ?_;refine zR1 (c:=QcU (hsf.2.2.2 y (List.mem_of_getElem? hy)).1.1 (hsf.2.2.2 y (List.mem_of_getElem? hy)).1.2 hp2 hS) (h:=?_);rintro v1 w1 ⟨c2,css2,hle2,hv1,hls2,hS⟩;have hat3:=hat3.up hle2;obtain ⟨av,nv,rfl⟩:=hS.shape nth0;refine ZaM ?_;refine zb4 [_,_,_,_,_,_,_] ?_;refine ZaE ?_;refine zb hS ?_;intro p30 w1 hS;refine ZaE ?_;refine zm ?_;refine ZaA ?_;have hS:=Q2t (hp:=hp) (h:=(Q1H y).h) (v:=vh) (L:=blk p30 158 (JP.kcells ⟨p30,hp,fn,vf,vp3,vr3,vb3⟩ (.slice av css2.length nv))::sl 115 3 (.slice av css2.length nv) css2::L) hS.sp;refine Zai ?_;((exact ⟨_,rfl,⟨p30,hp,fn,vf,vp3,vr3,vb3⟩,c2,_,css2,rfl,hle2,⟨hf1.up hle2,hp3.up hle2,hr3.up hle2,hb3.up hle2⟩,rfl,hls2,hS.sp⟩))
end Go.Proofs.YteflkifmgnpbhaaGreat
namespace Go.Proofs.YteflkifmgnpbhaaGreat
open Go.Lir
set_option maxHeartbeats 1000000
attribute [local irreducible] LC.wp Q0 QB QH retQ Q1k LO.wp Qh Calls
set_option linter.unusedSimpArgs false
set_option linter.unusedVariables false
attribute [local irreducible] hasB Q1o Q1c Q1e Q2L upTo QU Q1v rmk jIns jEnd Module.fault Q45 Q4J
variable {cx:Cx}{w:World}{L:List Res}{j:JP}{h:List Bool}{vl:Value}{css:List (List Value)}{i:Nat}{m:Module}
theorem rRun_c {cs:List Value}(hm:m.Short) (hx:modR.at cx cs m) (hS:St cx w L):
 Rets Tryz.prog Qcl [.agg ⟨cs⟩] w fun u w'=>u=fltV m.runs∧St cx w' L:=by
 have hx':=hx
 obtain ⟨vf,rfl,hf1⟩:=QP hx
 have hle:=St.refl hS
 have hlf:=hf1.len
 refine lgo tyD Tryz.func16 ?_;refine Zaw ?_;intro p1 w1 hS;refine Qb hS ?_;intro p2 w1 hS;refine Zbe ?_;refine ZaF ?_;refine zR1 (c:=rcheck_c hm hx' hS) (h:=?_);rintro v1 w1 ⟨rfl,hS⟩;unfold fltV;refine Qb hS ?_;intro p3 w1 hS;refine zsn hS ?_;intro w1 hS;have hS:=hS.ns;refine ZbP ?_;first|(refine Qy ?_)|(refine Qz ?_)|(refine Qa rfl rfl (fun hc=>?_) (fun hc=>?_))
 all_goals (refine zn ?_)
 all_goals
  first
  | (refine zcf ?_
     refine zsk ?_)
  | (refine zct ?_
     refine ZaF ?_;refine zsn hS ?_;intro w1 hS;have hS:=hS.ns;refine zn ?_;have hJ:=Q8b (m:=m) (by omega);refine zr ?_;refine QK vw (Q3 (n:=2) (by kernel_rfl) (by kernel_rfl) (hS.blkAt fd) (by rfl) (by rfl)) ?_
     (exact ⟨_,rfl,by rw [hJ];rfl,St.weak hS.sp hle⟩))
 refine ZaS ?_;have hF:m.fault.1=0:=(by omega);have hr0:=Q5k hF;have hlf8:=hm.1;refine Zck ?_
 refine zo [1,2] (fun A ρ' w'=>∃(k0:Cx) (q:Nat),Has ρ' A∧Has ρ' [(4, .int .i64 q)]∧(cx.Le k0)∧(q≤m.funcs.length)∧(m.runs=Q1q m q (m.funcs.drop q))∧St k0 w' (blk p3 29 [.int .i64 m.fault.1, .int .i64 m.fault.2]::blk p2 29 [.int .i64 0, .int .i64 0]::blk p1 24 [vf]::L)) (fun ρ' _=>(m.funcs.length - iv (ρ' 4)).toNat) ?_ ?_
 · exact ⟨cx,0,zh,zh,St.refl hS,(by omega),by rw [hr0];rfl,hS.sp⟩
 rintro ρ w1 ⟨k0,q,hA,hρ,hle2,hq,hd,hS⟩;obtain ⟨ρ,rfl⟩:=env2 hA hρ;have hL0:=hle2;(try have hle:=hle.trans hle2);(try have hf1:=hf1.up hle2)
 refine Zbl ?_
 refine Q5 rfl (fun hc=>?_) (fun hc=>?_)
 · skip
   refine Zbq ?_;obtain ⟨fn,hfn⟩:∃fn,m.funcs[q]?=some fn:=⟨_,List.getElem?_eq_getElem (by omega)⟩;have hsf:=hm.2 fn (List.mem_of_getElem? hfn);have hfb:=mod_fb hF hfn;have hfh:=Q1Z (Q2R hF hfn);refine Zck ?_
   refine zo [1,2,4] (fun A ρ' w'=>∃(k1:Cx) (b:Nat),Has ρ' A∧Has ρ' [(5, .int .i64 b)]∧(k0.Le k1)∧(b≤fn.blocks.length)∧(Qx m fn q 0 fn.blocks=Qx m fn q b (fn.blocks.drop b))∧St k1 w' (blk p3 29 [.int .i64 m.fault.1, .int .i64 m.fault.2]::blk p2 29 [.int .i64 0, .int .i64 0]::blk p1 24 [vf]::L)) (fun ρ' _=>(fn.blocks.length - iv (ρ' 5)).toNat) ?_ ?_
   · exact ⟨k0,0,zh,zh,St.refl hS,(by omega),by rfl,hS.sp⟩
   rintro ρ w1 ⟨k1,b,hA,hρ,hle2,hb,hdb,hS⟩;obtain ⟨ρ,rfl⟩:=env2 hA hρ;have hL1:=hle2;(try have hle:=hle.trans hle2);(try have hL0:=hL0.trans hle2);(try have hf1:=hf1.up hle2)
   refine ZaN ?_;refine ZaX ?_;intro b1 o1 cs1 x1 hat1 hx1 he1;obtain ⟨vp1,vr1,vb1,rfl,hp1,hr1,hb1⟩:=Qo he1;refine Zcn ?_;refine ZaT ?_;obtain rfl:fn=x1:=Option.some.inj (hfn.symm.trans hx1)
   refine Q5 rfl (fun hc=>?_) (fun hc=>?_)
   · skip
     refine Zbq ?_;obtain ⟨y,hy⟩:∃y,fn.blocks[b]?=some y:=⟨_,List.getElem?_eq_getElem (by omega)⟩;have hsy:=hsf.2.2.2 y (List.mem_of_getElem? hy);refine Q1z ?_;refine zv hS ?_;refine ZbV ?_;refine zR3 (c:=rKAt_c (f:=q) (b:=b) hm (by omega) (by omega) (by simpa using hfn) (by simpa using hy) ⟨_,rfl,hf1⟩ hS) (h:=?_);rintro v1 w1 ⟨j,c2,vl,css,rfl,hle2,hj,hjf,hls,hS⟩;(try have hle:=hle.trans hle2);(try have hL1:=hL1.trans hle2);(try have hp1:=hp1.up hle2);(try have hr1:=hr1.up hle2);(try have hb1:=hb1.up hle2);(try have he1:=he1.up hle2);(try have hf1:=hf1.up hle2);subst hjf;refine Zab ?_;refine ZbC ?_;intro b2 o2 cs2 x2 hat2 hx2 he2;obtain ⟨vp2,vr2,vb2,rfl,hp2,hr2,hb2⟩:=Qo he2;refine Zcn ?_;obtain rfl:j.f=x2:=Option.some.inj (hfn.symm.trans hx2);refine ZaX ?_;intro b3 o3 cs3 x3 hat3 hx3 he3;obtain ⟨vp3,vc3,ve31,ve32,ve33,ve34,ve35,rfl,hp3,hc3,he31,he32,he33,he34,he35⟩:=QC he3;refine ZaC ?_;intro p7 w1 hS;refine zsn hS ?_;intro w1 hS;have hS:=hS.ns;refine zn ?_;obtain rfl:y=x3:=Option.some.inj (hy.symm.trans hx3);refine ZaS ?_;have hg0:=Qc3 hm hF hfn hy;have hlc:=hsy.2.1;refine Zck ?_
     refine zo [1,2,4,5,6,7] (fun A ρ' w'=>∃(k2:Cx) (i:Nat) (s:JS) (vl:Value) (css:List (List Value)),Has ρ' A∧Has ρ' [(8, .int .i64 i)]∧(c2.Le k2)∧(i≤y.code.length)∧(QV m j.f q b y.fin 0 (Q1H y) y.code=QV m j.f q b y.fin i s (y.code.drop i))∧(j.Fits k2 m)∧(tyR.ls k2 css s.l)∧(JInv m j.f s)∧St k2 w' (blk p7 92 [.int .i64 y.regs,vp3,vc3, .int .i64 y.fin.op, .int .i64 y.fin.a, .int .i64 y.fin.yes.block,ve31,ve32, .int .i64 y.fin.no.block,ve33,ve34,ve35]::blk j.sp 158 (j.kcells vl)::Q4n j.hp s.h::sl 115 3 vl css::blk p3 29 [.int .i64 m.fault.1, .int .i64 m.fault.2]::blk p2 29 [.int .i64 0, .int .i64 0]::blk p1 24 [vf]::L)) (fun ρ' _=>(y.code.length - iv (ρ' 8)).toNat) ?_ ?_
     · exact ⟨c2,0,Q1H y,vl,css,zh,zh,St.refl hS,(by omega),by rfl,hj,hls,hg0,hS.sp⟩
     rintro ρ w1 ⟨k2,i,s,vl,css,hA,hρ,hle2,hi,hdi,hj,hls,hg,hS⟩;obtain ⟨ρ,rfl⟩:=env2 hA hρ;have hL2:=hle2;(try have hle:=hle.trans hle2);(try have hL1:=hL1.trans hle2);(try have hc3:=hc3.up hle2);(try have he31:=he31.up hle2);(try have he32:=he32.up hle2);(try have he33:=he33.up hle2);(try have he34:=he34.up hle2);(try have he35:=he35.up hle2)
     refine Zbl ?_
     refine Q5 rfl (fun hc=>?_) (fun hc=>?_)
     · skip
       refine Zar ?_;refine Zae ?_;refine Zad ?_;refine ZaX ?_;intro b4 o4 cs4 x4 hat4 hx4 he4;obtain ⟨vr4,va4,rfl,hr4,ha4⟩:=QG he4;refine Yaf ?_;refine zR2 (c:=rIns_c (s:=s) (x:=x4) hm hg hj he4 hls hS.p3) (h:=?_);rintro v1 w1 ⟨c4,vl4,css4,hle2,rfl,hls4,hS⟩;(try have hle:=hle.trans hle2);(try have hL2:=hL2.trans hle2);have hj:=hj.up hle2;have hg1:=jIns_inv (x:=x4) hF hm hg;obtain ⟨s1,hs1⟩:∃s1,(jIns m j.f s x4).2=s1:=⟨_,rfl⟩;rw [hs1] at hls4 hS hg1;refine ZaW ?_;first|(refine Qy ?_)|(refine Qz ?_)|(refine Qa rfl rfl (fun hc=>?_) (fun hc=>?_))
       all_goals (refine zn ?_)
       all_goals
        first
        | (refine zct ?_
           refine ZaG ?_;refine ZbV ?_;refine zR3 (c:=Qb3 q b i (by omega) (by omega) (by omega) hS) (h:=?_);rintro v1 w1 ⟨rfl,hS⟩;refine zR2 (c:=rF_c hS) (h:=?_);rintro v1 w1 ⟨rfl,hS⟩;refine zsn hS ?_;intro w1 hS;have hS:=hS.ns;refine zn ?_;have hJ:=Qaa hd hfn hdb hy (by rw [hdi,Q1 hx4,Q57 (by omega)]) (by omega);refine zr ?_;refine QK vw (Q3 (n:=2) (by kernel_rfl) (by kernel_rfl) (hS.blkAt fd) (by rfl) (by rfl)) ?_
           (exact ⟨_,rfl,by rw [hJ];rfl,St.weak hS.sp hle⟩))
        | (refine zcf ?_
           refine zsk ?_)
       refine Zax ?_;(exact ⟨⟨_,i+1,s1,vl4,css4,zh,zh,hL2,(by omega),by rw [hdi,Q1 hx4,Q58 (by omega),hs1],hj,hls4,hg1,hS.sp⟩,Q4 (by omega)⟩)
     · skip
       refine zex ?_;refine Zae ?_;refine ZbN ?_;refine zR2 (c:=rEnd_c (s:=s) (e:=y.fin) hsf hfb hfh.1 (by omega) hg hj ⟨_,_,_,_,_,rfl,he31,he32,he33,he34,he35⟩ hls hS.p3) (h:=?_);rintro v1 w1 ⟨rfl,hS⟩;have hde:=Q5X (m:=m) (f:=j.f) (fi:=q) (bi:=b) (e:=y.fin) (s:=s) (i:=i) (l:=y.code) (by omega);refine ZaW ?_;first|(refine Qy ?_)|(refine Qz ?_)|(refine Qa rfl rfl (fun hc=>?_) (fun hc=>?_))
       all_goals (refine zn ?_)
       all_goals
        first
        | (refine zct ?_
           refine ZaG ?_;refine zm ?_;refine zR2 (c:=Qb4 q b (by omega) (by omega) hS) (h:=?_);rintro v1 w1 ⟨rfl,hS⟩;refine zR2 (c:=rF_c hS) (h:=?_);rintro v1 w1 ⟨rfl,hS⟩;refine zsn hS ?_;intro w1 hS;have hS:=hS.ns;refine zn ?_;have hJ:=Qaa hd hfn hdb hy (hdi.trans (hde.trans (Q4m (by omega)))) (by omega);refine zr ?_;refine QK vw (Q3 (n:=2) (by kernel_rfl) (by kernel_rfl) (hS.blkAt fd) (by rfl) (by rfl)) ?_
           (exact ⟨_,rfl,by rw [hJ];rfl,St.weak hS.sp hle⟩))
        | (refine zcf ?_
           refine zsk ?_)
       refine Zax ?_;(exact ⟨⟨_,b+1,zh,zh,hL1,(by omega),runs_b hdb hy (by rw [hdi,hde,Q1u];omega),hS.sp⟩,Q4 (by omega)⟩)
   · skip
     refine Zca ?_;(exact ⟨⟨_,q+1,zh,zh,hL0,(by omega),runs_f hd hfn hdb (by omega),hS.sp⟩,Q4 (by omega)⟩)
 · skip
   refine zex ?_;refine Zaa ?_;refine zb0 [_,_] ?_;refine zsn hS ?_;intro w1 hS;have hS:=hS.ns;refine zn ?_;have hJ:=runs_z hd (by omega);refine zr ?_;refine QK vw (Q3 (n:=2) (by kernel_rfl) (by kernel_rfl) (hS.blkAt fd) (by rfl) (by rfl)) ?_;(exact ⟨_,rfl,by rw [hJ];rfl,St.weak hS.sp hle⟩)
end Go.Proofs.YteflkifmgnpbhaaGreat
namespace Go.Lir
theorem bAdj_1 {l:List Block}{b:Nat}{y:Block}(h:l[b]?=some y) (ho:y.fin.op=1):bAdj l b=[y.fin.yes.block.toNat]:=by rw [Q4I h];unfold Q2K;rw [if_pos ho]
theorem bAdj_2 {l:List Block}{b:Nat}{y:Block}(h:l[b]?=some y) (ho:y.fin.op=2):bAdj l b=[y.fin.yes.block.toNat,y.fin.no.block.toNat]:=by rw [Q4I h];unfold Q2K;rw [if_neg (by omega),if_pos ho]
theorem bAdj_3 {l:List Block}{b:Nat}{y:Block}(h:l[b]?=some y) (ho:y.fin.op=3):bAdj l b=[]:=by rw [Q4I h];unfold Q2K;rw [if_neg (by omega),if_neg (by omega)]
end Go.Lir
namespace Go.Proofs.YteflkifmgnpbhaaGreat
open Go.Lir
set_option maxHeartbeats 1000000
attribute [local irreducible] LC.wp Q0 QB QH retQ Q1k LO.wp Qh Calls
set_option linter.unusedSimpArgs false
set_option linter.unusedVariables false
attribute [local irreducible] Q2M keepF Q2s pick idxs Q1M Q1y Module.runs Q1p Q1j kbeg bAdj fAdj
variable {cx:Cx}{w:World}{L:List Res}
theorem Q35 {ks:List Bool}{b:Nat}{x:Bool}(h:ks[b]?=some x):(ks.map Qi)[b]?=some [Value.bool x]:=by rw [List.getElem?_map,h];rfl
theorem Q5q {ks:List Bool}{k:Int}{v:Value}(h0:0≤k) (hk:k.toNat≤ks.length) (hn:ks.length≤1000000) (hS:St cx w L){i:Nat}(hi:nth L i=some (sl 4 1 v (ks.map Qi))):Rets Tryz.prog Q80 [v, .int .i64 k] w fun u w'=>u= .int .i64 (num ks k.toNat)∧St cx w' L:=by
 have h:=QbW (k:=k.toNat) hk hn hS hi
 rw [Int.toNat_of_nonneg h0] at h
 exact h
theorem rtrim_c {m :Module}{cs:List Value}(hsh:m.Short) (hm:modR.at cx cs m) (hS:St cx w L):Rets Tryz.prog QdT [.agg ⟨cs⟩] w fun u w'=>∃c' ds,u= .tuple #[.agg ⟨ds⟩,fltV m.runs]∧cx.Le c'∧modR.at c' ds (if m.runs.1=0 then m.trim else ⟨[]⟩)∧St c' w' L:=by
 have hm0:=hm
 obtain ⟨vf,rfl,hf⟩:=QP hm
 obtain ⟨a0,n0,rfl⟩:=Rep.SR.shape hf
 have hlen:=hf.len
 have hle:=St.refl hS
 all_goals refine lgo tyD Tryz.func43 ?_
 all_goals (refine Zaw ?_;intro p1 w1 hS;refine Qb hS ?_;intro p2 w1 hS;refine Qb hS ?_;intro p3 w1 hS;refine Zbe ?_;refine ZaF ?_;refine zR1 (c:=rRun_c hsh hm0 hS) (h:=?_);rintro v1 w1 ⟨rfl,hS⟩;unfold fltV;refine Qb hS ?_;intro p4 w1 hS;refine zsn hS ?_;intro w1 hS;have hS:=hS.ns;refine ZbP ?_)
 all_goals (first|(refine Qy ?_)|(refine Qz ?_)|(refine Qa rfl rfl (fun hc=>?_) (fun hc=>?_)))
 all_goals (refine zn ?_)
 all_goals
  first
  | (refine zcf ?_
     all_goals refine zsk ?_)
  | (refine zct ?_
     all_goals (refine QJ ?_;refine zC [(0,none),(1,none),(2,some (some [1])),(3,some none)] ?_;have hS:=hS.drew;refine s_cq ?_;refine zb0 [_] ?_;refine Zac ?_;refine zv hS ?_;refine Zat ?_;refine zsn hS ?_;intro w1 hS;have hS:=hS.ns;refine ZaZ ?_;refine zsn hS ?_;intro w1 hS;have hS:=hS.ns;refine ZaA ?_;refine zr ?_;refine Q8f vw (Q3 (n:=1) (by kernel_rfl) (by kernel_rfl) (hS.blkAt fd) (by rfl) (by rfl)) vw (Q3 (n:=2) (by kernel_rfl) (by kernel_rfl) (hS.blkAt fd) (by rfl) (by rfl)) ?_)
     all_goals (exact ⟨_,rfl,cx,[.slice none 0 0],rfl,hle,(by rw [if_neg hc];exact ⟨_,rfl,Rep.SR.nil _ _ _⟩),hS.sp⟩))
 all_goals (refine QJ ?_)
 all_goals (have hF:m.fault.1=0:=(Classical.byContradiction fun h=>by have:=congrArg Prod.fst (Q8b h);omega);have hmk:=mok_of hF;have hrz:m.runs=(0,0):=(by have h0:(Q1q m 0 m.funcs).1=0:=(by rw [←Q5k hF];omega);rw [Q5k hF];exact Q3Y h0))
 all_goals (refine Q1z ?_;refine zv hS ?_)
 all_goals (refine zR1 (c:=QbM hsh hm0 hS) (h:=?_);rintro v1 w1 ⟨c1,u0,css0,fs,ps,rfl,hle2,hu0,⟨hto,hls0,hst⟩,hS⟩;(try have hle:=hle.trans hle2);(try have hf:=hf.up hle2);have hfl:fs.length=m.funcs.length:=(by rw [←hto,List.length_map]);have hcl0:=hls0.1;have hfok:∀F∈fs,FOk (F.blocks.map (·.b)):=(fun F hF=>hmk.blk F.to (by rw [←hto];exact List.mem_map_of_mem hF));have hone:=hmk.one;have hfew:=hmk.few)
 all_goals (refine zsn hS ?_;intro w1 hS;have hS:=hS.ns;refine zn ?_;refine ZaI ?_)
 refine zo [1,2,3] (fun A ρ' w'=>∃(k0:Cx) (i:Nat) (css:List (List Value)),Has ρ' A∧Has ρ' [(5, .int .i64 i)]∧(c1.Le k0)∧(i≤m.funcs.length)∧(css.length=m.funcs.length)∧(funhR.ls k0 css ((fs.map FunH.trim).take i++fs.drop i))∧St k0 w' (sl 95 4 u0 css::Q22 84 ps::blk p4 29 [.int .i64 m.runs.fst, .int .i64 m.runs.snd]::blk p3 29 [.int .i64 0, .int .i64 0]::blk p2 24 [.slice none 0 0]::blk p1 24 [u0]::L)) (fun ρ' _=>(m.funcs.length - iv (ρ' 5)).toNat) ?_ ?_
 · exact ⟨c1,0,css0,zh,zh,St.refl hS,(by omega),(by omega),(by rw [List.take_zero,List.drop_zero];exact hls0),hS.sp⟩
 rintro ρ w1 ⟨k0,i,css,hA,hρ,hle2,hi,hlc,hls,hS⟩;obtain ⟨ρ,rfl⟩:=env2 hA hρ;have hL0:=hle2;(try have hle:=hle.trans hle2);(try have hf:=hf.up hle2);(try have hst:=hst.up hle2)
 all_goals (refine ZaN ?_;refine QZ hS vw fd (n:=m.funcs.length) (by omega) ?_;refine Zaj ?_)
 refine Q5 rfl (fun hc=>?_) (fun hc=>?_)
 · skip
   all_goals (refine Zbq ?_;obtain ⟨F,hFi⟩:∃F,fs[i]?=some F:=⟨_,List.getElem?_eq_getElem (by omega)⟩;have hFm:=List.mem_of_getElem? hFi;obtain ⟨d8,hd8,hat8⟩:=hls.2 i F (by rw [Qbc (by rw [List.length_map]) (by omega)];exact hFi);have hat9:=hat8;obtain ⟨y1,y2,y3,rfl,hy1,hy2,hy3⟩:=Q39 hat8;obtain ⟨a3,n3,rfl⟩:=Rep.SR.shape hy3;have hok:=hfok F hFm;have hok1:=hok.one;have hok2:=hok.few;rw [List.length_map] at hok1 hok2;refine Zba ?_;refine zm ?_;refine QY (m:=i) hS vw rfl fd (by omega) ?_;intro b8 o8 hl8;refine Yae ?_;refine QI (j:=3) hS hl8 rfl fd rfl hd8 rfl ?_;refine ZaW ?_;refine zL ?_;refine Q87 Q3Z hS rfl rfl (by omega) (by omega) ?_;intro vk w1 hS;rw [Int.toNat_natCast,show List.replicate F.blocks.length [Value.bool false]=(List.replicate F.blocks.length false).map Qi by rw [List.map_replicate];rfl] at hS;have hS:=hS.ns;refine ZaW ?_;refine QY (m:=0) hS vw rfl fd (by rw [List.length_map,List.length_replicate];omega) ?_;intro b7 o7 hl7;refine Q1m (j:=0) (css':=(kbeg F.blocks.length).map Qi) hS hl7 rfl rfl fd rfl (by rw [List.getElem?_map,List.getElem?_replicate,if_pos (by omega)];rfl) (by decide) rfl (by unfold kbeg;rw [List.map_set];rfl) ?_;intro w7 hS;have hS:=hS.ns)
   all_goals (refine zn ?_;refine ZaI ?_)
   refine zo [1,2,3,5,6,7] (fun A ρ' w'=>∃(r:Nat),Has ρ' A∧Has ρ' [(8, .int .i64 r)]∧(r≤F.blocks.length)∧St k0 w' (sl 4 1 vk ((Q1j (bAdj (F.blocks.map (·.b))) F.blocks.length r (kbeg F.blocks.length)).map Qi)::sl 95 4 u0 css::Q22 84 ps::blk p4 29 [.int .i64 m.runs.fst, .int .i64 m.runs.snd]::blk p3 29 [.int .i64 0, .int .i64 0]::blk p2 24 [.slice none 0 0]::blk p1 24 [u0]::L)) (fun ρ' _=>(F.blocks.length - iv (ρ' 8)).toNat) ?_ ?_
   · exact ⟨0,zh,zh,(by omega),by unfold Q1j;exact hS.sp⟩
   rintro ρ w1 ⟨r,hA,hρ,hr,hS⟩;obtain ⟨ρ,rfl⟩:=env2 hA hρ
   all_goals (refine ZbW ?_)
   refine Q5 rfl (fun hc=>?_) (fun hc=>?_)
   · skip
     all_goals (refine Zar ?_;refine Zay ?_)
     refine zo [1,2,3,5,6,7,8] (fun A ρ' w'=>∃(b:Nat),Has ρ' A∧Has ρ' [(9, .int .i64 b)]∧(b≤F.blocks.length)∧St k0 w' (sl 4 1 vk ((Q1p (bAdj (F.blocks.map (·.b))) b (Q1j (bAdj (F.blocks.map (·.b))) F.blocks.length r (kbeg F.blocks.length))).map Qi)::sl 95 4 u0 css::Q22 84 ps::blk p4 29 [.int .i64 m.runs.fst, .int .i64 m.runs.snd]::blk p3 29 [.int .i64 0, .int .i64 0]::blk p2 24 [.slice none 0 0]::blk p1 24 [u0]::L)) (fun ρ' _=>(F.blocks.length - iv (ρ' 9)).toNat) ?_ ?_
     · exact ⟨0,zh,zh,(by omega),by rw [show Q1p (bAdj (F.blocks.map (·.b))) 0 (Q1j (bAdj (F.blocks.map (·.b))) F.blocks.length r (kbeg F.blocks.length))=Q1j (bAdj (F.blocks.map (·.b))) F.blocks.length r (kbeg F.blocks.length) by unfold Q1p;rfl];exact hS.sp⟩
     rintro ρ w1 ⟨b,hA,hρ,hb,hS⟩;obtain ⟨ρ,rfl⟩:=env2 hA hρ
     all_goals (refine ZbW ?_)
     refine Q5 rfl (fun hc=>?_) (fun hc=>?_)
     · skip
       all_goals (refine Zar ?_;refine ZaS ?_;obtain ⟨ks,hks⟩:∃x,x=Q1p (bAdj (F.blocks.map (·.b))) b (Q1j (bAdj (F.blocks.map (·.b))) F.blocks.length r (kbeg F.blocks.length)):=⟨_,rfl⟩;rw [←hks] at hS;have hkl:ks.length=F.blocks.length:=(by rw [hks,Q79,Q2i,Q4V]);obtain ⟨bv,hbv⟩:∃x,ks[b]?=some x:=⟨_,List.getElem?_eq_getElem (by omega)⟩;obtain ⟨x2,hx2⟩:∃x,F.blocks[b]?=some x:=⟨_,List.getElem?_eq_getElem (by omega)⟩;have hx9:(F.blocks.map (·.b))[b]?=some x2.b:=(by rw [List.getElem?_map,hx2];rfl);have hm9:=List.mem_of_getElem? hx9;have hop9:=hok.op _ hm9;have hye9:=hok.yes _ hm9;have hno9:=hok.no _ hm9;rw [List.length_map] at hye9 hno9;refine Zbc ?_;refine QY (m:=b) hS vw rfl fd (by rw [List.length_map];omega) ?_;intro b4 o4 hl4)
       all_goals (refine QI (j:=0) hS hl4 rfl fd rfl (by rw [List.getElem?_map,hbv];rfl) rfl ?_;cases bv)
       all_goals (refine Zbb ?_;refine Yac ?_;(first|refine zgn ?_|(refine zgy ?_;refine Q11 (m:=b) vw rfl hy3 rfl (by omega) ?_;intro b5 o5 cs5 x5 hat5 hx5 he5;obtain rfl:x2=x5:=Option.some.inj (hx2.symm.trans hx5);obtain ⟨vp2,ve21,ve22,ve23,ve24,ve25,rfl,hp2,ho2,he21,he22,he23,he24,he25⟩:=Q1x he5));refine Yah ?_;refine Yah ?_;refine Yas ?_)
       all_goals (first|refine zgn ?_|(refine zgy ?_;(first|(refine Qy ?_)|(refine Qz ?_)|(refine Qa rfl rfl (fun hc=>?_) (fun hc=>?_)))))
       all_goals (refine ZaK ?_)
       all_goals
        first
        | (refine zcf ?_
           all_goals refine zsk ?_)
        | (refine zct ?_
           all_goals (have hyr:=hye9 hc;obtain ⟨bq,hbq⟩:∃x,ks[x2.b.fin.yes.block.toNat]?=some x:=⟨_,List.getElem?_eq_getElem (by omega)⟩;refine Zbc ?_;refine zm ?_;refine Q11 (m:=b) vw rfl hy3 rfl (by omega) ?_;intro b5 o5 cs5 x5 hat5 hx5 he5;obtain rfl:x2=x5:=Option.some.inj (hx2.symm.trans hx5);obtain ⟨vp2,ve21,ve22,ve23,ve24,ve25,rfl,hp2,ho2,he21,he22,he23,he24,he25⟩:=Q1x he5;refine Yae ?_;refine Yae ?_;refine Yae ?_;refine Q88 (j:=5) hS hat5 rfl rfl ?_;refine QY (m:=x2.b.fin.yes.block.toNat) hS vw (by rw [Int.toNat_of_nonneg hyr.1];rfl) fd (by rw [List.length_map];omega) ?_;intro b6 o6 hl6;refine Q1m (j:=0) (css':=(ks.set x2.b.fin.yes.block.toNat true).map Qi) hS hl6 rfl rfl fd rfl (by rw [List.getElem?_map,hbq];rfl) (by decide) rfl (by rw [List.map_set];rfl) ?_;intro w7 hS;have hS:=hS.ns)
           all_goals refine zn ?_)
       all_goals (refine ZaG ?_;(first|(refine QY (m:=b) hS vw rfl fd (by rw [List.length_map];omega) ?_;intro b4 o4 hl4)|(refine QY (m:=b) hS vw rfl fd (by rw [List.length_map,List.length_set];omega) ?_;intro b4 o4 hl4));(first|refine QI (j:=0) hS hl4 rfl fd rfl (Q35 hbv) rfl ?_|refine QI (j:=0) hS hl4 rfl fd rfl (Q35 (set_true hbv)) rfl ?_);refine Zbb ?_;refine Yac ?_;(first|refine zgn ?_|(refine zgy ?_;refine Q11 (m:=b) vw rfl hy3 rfl (by omega) ?_;intro b5 o5 cs5 x5 hat5 hx5 he5;obtain rfl:x2=x5:=Option.some.inj (hx2.symm.trans hx5);obtain ⟨vp2,ve21,ve22,ve23,ve24,ve25,rfl,hp2,ho2,he21,he22,he23,he24,he25⟩:=Q1x he5));refine Yah ?_;refine Yah ?_;refine Yas ?_)
       all_goals (first|refine zgn ?_|(refine zgy ?_;(first|(refine Qp ?_)|(refine Qu ?_)|(refine Q7 rfl rfl (fun hc=>?_) (fun hc=>?_)))))
       all_goals (refine ZaK ?_)
       all_goals
        first
        | (refine zct ?_
           all_goals (have hnr:=hno9 hc;obtain ⟨bz,hbz⟩:∃x,(ks.set x2.b.fin.yes.block.toNat true)[x2.b.fin.no.block.toNat]?=some x:=⟨_,List.getElem?_eq_getElem (by rw [List.length_set];omega)⟩;refine Zbc ?_;refine zm ?_;refine Q11 (m:=b) vw rfl hy3 rfl (by omega) ?_;intro b5 o5 cs5 x5 hat5 hx5 he5;obtain rfl:x2=x5:=Option.some.inj (hx2.symm.trans hx5);obtain ⟨vp2,ve21,ve22,ve23,ve24,ve25,rfl,hp2,ho2,he21,he22,he23,he24,he25⟩:=Q1x he5;refine Yae ?_;refine Yae ?_;refine Yae ?_;refine Q88 (j:=8) hS hat5 rfl rfl ?_;refine QY (m:=x2.b.fin.no.block.toNat) hS vw (by rw [Int.toNat_of_nonneg hnr.1];rfl) fd (by rw [List.length_map,List.length_set];omega) ?_;intro b6 o6 hl6;refine Q1m (j:=0) (css':=((ks.set x2.b.fin.yes.block.toNat true).set x2.b.fin.no.block.toNat true).map Qi) hS hl6 rfl rfl fd rfl (by rw [List.getElem?_map,hbz];rfl) (by decide) rfl (by simp only [List.map_set];rfl) ?_;intro w7 hS;have hS:=hS.ns)
           all_goals refine zn ?_)
        | (refine zcf ?_
           all_goals refine zsk ?_)
       all_goals (refine Zax ?_;(first|(exact ⟨⟨b+1,zh,zh,(by omega),by rw [Q1I,←hks,Q84 hbv];exact hS.sp⟩,Q4 (by omega)⟩)|(exact ⟨⟨b+1,zh,zh,(by omega),by rw [Q1I,←hks,Q6a hbv,bAdj_2 hx9 (by omega),setAll_2];exact hS.sp⟩,Q4 (by omega)⟩)|(exact ⟨⟨b+1,zh,zh,(by omega),by rw [Q1I,←hks,Q6a hbv,bAdj_1 hx9 (by omega),QaU];exact hS.sp⟩,Q4 (by omega)⟩)|(exact ⟨⟨b+1,zh,zh,(by omega),by rw [Q1I,←hks,Q6a hbv,bAdj_3 hx9 (by omega),QaV];exact hS.sp⟩,Q4 (by omega)⟩)))
     · skip
       all_goals (refine Zca ?_;exact ⟨⟨r+1,zh,zh,(by omega),by rw [Qdk];have e:b=F.blocks.length:=(by omega);rw [e] at hS;exact hS.sp⟩,Q4 (by omega)⟩)
   · skip
     all_goals (refine zex ?_;refine QJ ?_;have er:r=F.blocks.length:=(by omega);rw [er,show Q1j (bAdj (F.blocks.map (·.b))) F.blocks.length F.blocks.length (kbeg F.blocks.length)=Q2M (F.blocks.map (·.b)) by unfold Q2M Q2s;rw [List.length_map]] at hS;obtain ⟨Ks,hKs⟩:∃x,x=Q2M (F.blocks.map (·.b)):=⟨_,rfl⟩;rw [←hKs] at hS;have hKl:Ks.length=F.blocks.length:=(by rw [hKs,Q9b,List.length_map]);have hZ:F.trim.blocks=(pick Ks F.blocks).map (renH Ks):=(by unfold FunH.trim;rw [←hKs]);refine Q1z ?_;refine Zab ?_;refine ZaI ?_)
     refine zo [1,2,3,5,6,7] (fun A ρ' w'=>∃(b:Nat) (ub:Value) (cssB:List (List Value)),Has ρ' A∧Has ρ' [(10,ub),(11, .int .i64 b)]∧(b≤F.blocks.length)∧(blkhR.ls k0 cssB ((pick (Ks.take b) (F.blocks.take b)).map (renH Ks)))∧(oneC ub=true)∧St k0 w' (sl 92 12 ub cssB::sl 4 1 vk (Ks.map Qi)::sl 95 4 u0 css::Q22 84 ps::blk p4 29 [.int .i64 m.runs.fst, .int .i64 m.runs.snd]::blk p3 29 [.int .i64 0, .int .i64 0]::blk p2 24 [.slice none 0 0]::blk p1 24 [u0]::L)) (fun ρ' _=>(F.blocks.length - iv (ρ' 11)).toNat) ?_ ?_
     · exact ⟨0, .slice none 0 0,[],zh,zh,(by omega),(by rw [List.take_zero,List.take_zero,Q8g];exact Rep.LR.nil _ _ _),rfl,by have hS:=hS.nil (T:=92) (es:=12);exact hS.sp⟩
     rintro ρ w1 ⟨b,ub,cssB,hA,hρ,hb,hlsB,hub,hS⟩;obtain ⟨ρ,rfl⟩:=env2 hA hρ
     all_goals (refine ZbW ?_)
     refine Q5 rfl (fun hc=>?_) (fun hc=>?_)
     · skip
       all_goals (refine Zar ?_;refine ZaS ?_;obtain ⟨bv,hbv⟩:∃x,Ks[b]?=some x:=⟨_,List.getElem?_eq_getElem (by omega)⟩;obtain ⟨x2,hx2⟩:∃x,F.blocks[b]?=some x:=⟨_,List.getElem?_eq_getElem (by omega)⟩;have hx9:(F.blocks.map (·.b))[b]?=some x2.b:=(by rw [List.getElem?_map,hx2];rfl);have hm9:=List.mem_of_getElem? hx9;have hop9:=hok.op _ hm9;have hye9:=hok.yes _ hm9;have hno9:=hok.no _ hm9;rw [List.length_map] at hye9 hno9;have hps9:=Q6G Ks F.blocks b hbv hx2;have hpl9:=Q2n (Ks.take b) (F.blocks.take b);rw [List.length_take] at hpl9;refine Zbc ?_;refine QY (m:=b) hS vw rfl fd (by rw [List.length_map];omega) ?_;intro b4 o4 hl4)
       all_goals (refine QI (j:=0) hS hl4 rfl fd rfl (Q35 hbv) rfl ?_;cases bv)
       all_goals (refine Zbo ?_)
       all_goals
        first
        | (refine zct ?_
           all_goals (refine Zca ?_)
           all_goals (exact ⟨⟨b+1,ub,cssB,zh,zh,(by omega),(by rw [hps9,if_neg Bool.false_ne_true,List.append_nil];exact hlsB),hub,hS.sp⟩,Q4 (by omega)⟩))
        | (refine zcf ?_
           all_goals (refine zsk ?_;refine ZaG ?_;refine Q11 (m:=b) vw rfl hy3 rfl (by omega) ?_;intro b5 o5 cs5 x5 hat5 hx5 he5;obtain rfl:x2=x5:=Option.some.inj (hx2.symm.trans hx5);obtain ⟨vp2,ve21,ve22,ve23,ve24,ve25,rfl,hp2,ho2,he21,he22,he23,he24,he25⟩:=Q1x he5;refine ZaC ?_;intro p12 w1 hS;refine zsn hS ?_;intro w1 hS;have hS:=hS.ns;refine Zbe ?_;refine Zaa ?_;refine ZbF ?_;refine zl hS ?_)
           all_goals (first|(refine Qy ?_)|(refine Qz ?_)|(refine Qa rfl rfl (fun hc=>?_) (fun hc=>?_)))
           all_goals (refine zn ?_)
           all_goals
            first
            | (refine zcf ?_
               all_goals (have h31:=hc)
               all_goals refine zsk ?_)
            | (refine zct ?_
               all_goals (have h31:=hc;refine Zag ?_;refine ZbF ?_;refine ZbK ?_;refine zR2 (c:=Q5q (ks:=Ks) (hye9 hc).1 (by have:=(hye9 hc).2;omega) (by omega) hS fd) (h:=?_);rintro v1 w1 ⟨rfl,hS⟩;refine ZbF ?_;refine Yae ?_;refine zst hS ?_;intro w1 hS;have hS:=hS.ns)
               all_goals refine zn ?_)
           all_goals (refine Zbt ?_;refine ZbF ?_;refine zl hS ?_)
           all_goals (first|(refine Qp ?_)|(refine Qu ?_)|(refine Q7 rfl rfl (fun hc=>?_) (fun hc=>?_)))
           all_goals (refine zn ?_)
           all_goals
            first
            | (refine zct ?_
               all_goals (have h22:=hc;refine Zag ?_;refine ZbF ?_;refine ZbK ?_;refine zR2 (c:=Q5q (ks:=Ks) (hno9 hc).1 (by have:=(hno9 hc).2;omega) (by omega) hS fd) (h:=?_);rintro v1 w1 ⟨rfl,hS⟩;refine ZbF ?_;refine Yae ?_;refine zst hS ?_;intro w1 hS;have hS:=hS.ns)
               all_goals refine zn ?_)
            | (refine zcf ?_
               all_goals (have h22:=hc)
               all_goals refine zsk ?_)
           all_goals ((first|(have hk9:=Q7N (c:=k0) (x:=x2) (ks:=Ks) (ny:=(num Ks x2.b.fin.yes.block.toNat:Int)) (nn:=(num Ks x2.b.fin.no.block.toNat:Int)) hp2 ho2 he21 he22 he23 he24 he25 (if_pos h31).symm (if_pos h22).symm)|(have hk9:=Q7N (c:=k0) (x:=x2) (ks:=Ks) (ny:=(num Ks x2.b.fin.yes.block.toNat:Int)) (nn:=x2.b.fin.no.block) hp2 ho2 he21 he22 he23 he24 he25 (if_pos h31).symm (if_neg h22).symm)|(have hk9:=Q7N (c:=k0) (x:=x2) (ks:=Ks) (ny:=x2.b.fin.yes.block) (nn:=x2.b.fin.no.block) hp2 ho2 he21 he22 he23 he24 he25 (if_neg h31).symm (if_neg (show¬x2.b.fin.op=2 by omega)).symm));refine ZbL ?_;refine zB1 hS [_,_,_,_,_,_,_,_,_,_,_,_] ?_;intro b1 w1 hS;refine za Q7h Q9T hS ?_;intro vp1 w1 css1 hls1 hv1 hS;have hS:=hS.ns;refine Zab ?_;refine Zax ?_)
           all_goals (first|(exact ⟨⟨b+1,ub,cssB,zh,zh,(by omega),(by rw [hps9,if_neg Bool.false_ne_true,List.append_nil];exact hlsB),hub,hS.sp⟩,Q4 (by omega)⟩)|(exact ⟨⟨b+1,_,_,zh,zh,(by omega),(by rw [hps9,if_pos rfl,List.map_append];assumption),by assumption,hS.sp⟩,Q4 (by omega)⟩)))
     · skip
       all_goals (refine zex ?_)
       all_goals (rw [List.take_of_length_le (by omega),List.take_of_length_le (by omega)] at hlsB;obtain ⟨c3,hle2,hS,hk6⟩:=St.freezeL (r:=blkhR) (l:=F.trim.blocks) hS (by rw [hZ];exact hlsB) rfl (by rw [hZ,List.length_map];have:=Q2n Ks F.blocks;omega);(try have hle:=hle.trans hle2);(try have hL0:=hL0.trans hle2);(try have hf:=hf.up hle2);(try have hls:=hls.up hle2);(try have hst:=hst.up hle2);(try have hy1:=hy1.up hle2);(try have hy2:=hy2.up hle2);(try have hy3:=hy3.up hle2);(try have hat9:=hat9.up hle2);have hat2:funhR.at c3 [.int .i64 F.regs,y1,y2,ub] F.trim:=⟨_,_,_,rfl,hy1,hy2,hk6⟩)
       all_goals (refine Zba ?_;refine ZbV ?_;refine QY (m:=i) hS vw rfl fd (by omega) ?_;intro b8 o8 hl8;refine Yae ?_;refine Q1m (j:=3) (css':=css.set i [.int .i64 F.regs,y1,y2,ub]) hS hl8 rfl rfl fd rfl hd8 (by decide) hub rfl ?_;intro w7 hS;have hS:=hS.ns;refine Zcj ?_;exact ⟨⟨_,i+1,css.set i [.int .i64 F.regs,y1,y2,ub],zh,zh,hL0,(by omega),(by rw [List.length_set];exact hlc),(by rw [←Q8k (x:=F.trim) (by rw [List.length_map]) (by rw [List.getElem?_map,hFi];rfl)];exact hls.set hat2),hS.sp⟩,Q4 (by omega)⟩)
 · skip
   all_goals (refine zex ?_;rw [List.take_of_length_le (by rw [List.length_map];omega),List.drop_of_length_le (by omega),List.append_nil] at hls;have hB:=Begin.of hst;obtain ⟨cods0,hcods0⟩:∃x,x=(fs.flatMap (·.blocks)).map (·.b.code):=⟨_,rfl⟩;rw [←hcods0] at hB;obtain ⟨fs1,hfs1⟩:∃x,x=fs.map FunH.trim:=⟨_,rfl⟩;rw [←hfs1] at hB hls;obtain ⟨T,hT⟩:∃x,x=m.funcs.map Fun.trim:=⟨_,rfl⟩;have hTl:T.length=m.funcs.length:=(by rw [hT,List.length_map]);have hfl1:fs1.length=m.funcs.length:=(by rw [hfs1,List.length_map,hfl]);have eT:fs1.map (FunH.as fun y=>y.b.code)=T:=(by rw [hT,←hto,hfs1,List.map_map,List.map_map];exact List.map_congr_left fun f _=>FunH.trim_to f);have hcalls:CallsOk T:=(by rw [hT];exact hmk.calls);have hTs:∀f∈T,f.Short:=(fun f hf=>by rw [hT] at hf;obtain ⟨g,hg,rfl⟩:=List.mem_map.1 hf;exact trim_short (hsh.2 g hg));have hT12:∀f∈T,f.blocks.length≤12:=(fun f hf=>by rw [hT] at hf;obtain ⟨g,hg,rfl⟩:=List.mem_map.1 hf;exact QaS (hmk.blk g hg).few);have hone:=hmk.one;have hfew:=hmk.few;obtain ⟨KF,hKF⟩:∃x,x=keepF T:=⟨_,rfl⟩;have hKl:KF.length=fs1.length:=(by rw [hKF,Q9a];omega);have hrk:Q1j (fAdj T) m.funcs.length m.funcs.length (kbeg m.funcs.length)=KF:=(by rw [hKF,←hTl];unfold keepF Q2s;rfl);refine Zao ?_)
   all_goals (refine QZ hS vw fd (n:=m.funcs.length) (by omega) ?_;refine Q87 Q3Z hS rfl rfl (by omega) (by omega) ?_;intro vk w1 hS;rw [Int.toNat_natCast,show List.replicate m.funcs.length [Value.bool false]=(List.replicate m.funcs.length false).map Qi by rw [List.map_replicate];rfl] at hS;have hS:=hS.ns;refine ZaW ?_;refine QY (m:=0) hS vw rfl fd (by rw [List.length_map,List.length_replicate];omega) ?_;intro b7 o7 hl7;refine Q1m (j:=0) (css':=(kbeg m.funcs.length).map Qi) hS hl7 rfl rfl fd rfl (by rw [List.getElem?_map,List.getElem?_replicate,if_pos (by omega)];rfl) (by decide) rfl (by unfold kbeg;rw [List.map_set];rfl) ?_;intro w7 hS;have hS:=hS.ns;refine zn ?_;refine ZaS ?_;obtain ⟨c5,hle5,hS5,hfull,back5⟩:=Q5c (g:=fun y=>y.b.code) (hS.out (i:=2) rfl) hB.cd hB.hd hls;rw [eT] at hfull;obtain ⟨c6,hle6,hS6,hfz,back6⟩:=St.lend (r:=funcR) (hS5.out (i:=1) rfl) hfull rfl (by omega);have hS:St c6 _ (sl 4 1 vk ((kbeg m.funcs.length).map Qi)::blk p4 29 [.int .i64 m.runs.fst, .int .i64 m.runs.snd]::blk p3 29 [.int .i64 0, .int .i64 0]::blk p2 24 [.slice none 0 0]::blk p1 24 [u0]::L):=hS6;refine Zck ?_)
   refine zo [1,2,3,13] (fun A ρ' w'=>∃(r:Nat),Has ρ' A∧Has ρ' [(14, .int .i64 r)]∧(r≤m.funcs.length)∧St c6 w' (sl 4 1 vk ((Q1j (fAdj T) m.funcs.length r (kbeg m.funcs.length)).map Qi)::blk p4 29 [.int .i64 m.runs.fst, .int .i64 m.runs.snd]::blk p3 29 [.int .i64 0, .int .i64 0]::blk p2 24 [.slice none 0 0]::blk p1 24 [u0]::L)) (fun ρ' _=>(m.funcs.length - iv (ρ' 14)).toNat) ?_ ?_
   · exact ⟨0,zh,zh,(by omega),by unfold Q1j;exact hS.sp⟩
   rintro ρ w1 ⟨r,hA,hρ,hr,hS⟩;obtain ⟨ρ,rfl⟩:=env2 hA hρ
   all_goals (refine Zbl ?_)
   refine Q5 rfl (fun hc=>?_) (fun hc=>?_)
   · skip
     all_goals (refine Zar ?_;refine Zay ?_)
     refine zo [1,2,3,13,14] (fun A ρ' w'=>∃(f:Nat),Has ρ' A∧Has ρ' [(15, .int .i64 f)]∧(f≤m.funcs.length)∧St c6 w' (sl 4 1 vk ((Q1p (fAdj T) f (Q1j (fAdj T) m.funcs.length r (kbeg m.funcs.length))).map Qi)::blk p4 29 [.int .i64 m.runs.fst, .int .i64 m.runs.snd]::blk p3 29 [.int .i64 0, .int .i64 0]::blk p2 24 [.slice none 0 0]::blk p1 24 [u0]::L)) (fun ρ' _=>(m.funcs.length - iv (ρ' 15)).toNat) ?_ ?_
     · exact ⟨0,zh,zh,(by omega),by rw [show Q1p (fAdj T) 0 (Q1j (fAdj T) m.funcs.length r (kbeg m.funcs.length))=Q1j (fAdj T) m.funcs.length r (kbeg m.funcs.length) by unfold Q1p;rfl];exact hS.sp⟩
     rintro ρ w1 ⟨f,hA,hρ,hf5,hS⟩;obtain ⟨ρ,rfl⟩:=env2 hA hρ
     all_goals (refine Zbl ?_)
     refine Q5 rfl (fun hc=>?_) (fun hc=>?_)
     · skip
       all_goals (refine Zbq ?_;obtain ⟨ks,hks⟩:∃x,x=Q1p (fAdj T) f (Q1j (fAdj T) m.funcs.length r (kbeg m.funcs.length)):=⟨_,rfl⟩;rw [←hks] at hS;have hksl:ks.length=m.funcs.length:=(by rw [hks,Q79,Q2i,Q4V]);obtain ⟨bv,hbv⟩:∃x,ks[f]?=some x:=⟨_,List.getElem?_eq_getElem (by omega)⟩;obtain ⟨G,hG⟩:∃x,T[f]?=some x:=⟨_,List.getElem?_eq_getElem (by omega)⟩;have hGm:=List.mem_of_getElem? hG;have hG12:=hT12 G hGm;refine Zck ?_)
       refine zo [1,2,3,13,14,15] (fun A ρ' w'=>∃(b:Nat) (kb:List Bool),Has ρ' A∧Has ρ' [(16, .int .i64 b)]∧(b≤G.blocks.length)∧((bv=true∧kb=Q2d ks (Q1y (G.blocks.take b)))∨(bv=false∧kb=ks∧b=0))∧St c6 w' (sl 4 1 vk (kb.map Qi)::blk p4 29 [.int .i64 m.runs.fst, .int .i64 m.runs.snd]::blk p3 29 [.int .i64 0, .int .i64 0]::blk p2 24 [.slice none 0 0]::blk p1 24 [u0]::L)) (fun ρ' _=>(G.blocks.length - iv (ρ' 16)).toNat) ?_ ?_
       · exact ⟨0,ks,zh,zh,(by omega),(by cases bv;exact .inr ⟨rfl,rfl,rfl⟩;exact .inl ⟨rfl,by rw [List.take_zero,show Q1y []=[] by unfold Q1y;rfl,QaV]⟩),hS.sp⟩
       rintro ρ w1 ⟨b,kb,hA,hρ,hb6,hkb,hS⟩;obtain ⟨ρ,rfl⟩:=env2 hA hρ;have hkbl:kb.length=m.funcs.length:=(by rcases hkb with ⟨_,h⟩|⟨_,h,_⟩;(rw [h,Q49];exact hksl);(rw [h];exact hksl));have hkbf:kb[f]?=some bv:=(by rcases hkb with ⟨h0,h⟩|⟨_,h,_⟩;(rw [h,h0,Q5h];exact .inl (by rw [hbv,h0]));(rw [h];exact hbv))
       all_goals (refine ZaN ?_;refine zm ?_;refine Q11 (m:=f) vw rfl hfz rfl (by omega) ?_;intro b5 o5 cs5 x5 hat5 hx5 he5;obtain rfl:G=x5:=Option.some.inj (hG.symm.trans hx5);obtain ⟨vp5,vr5,vb5,rfl,hp5,hr5,hb5⟩:=Qo he5;refine Zcn ?_;refine zL ?_)
       all_goals (first|(refine Q1f ?_)|(refine Q1g ?_)|(refine Qr rfl rfl (fun hc=>?_) (fun hc=>?_)))
       all_goals (refine Zbb ?_;refine Yac ?_;(first|refine zgn ?_|(refine zgy ?_;refine QY (m:=f) hS vw rfl fd (by rw [List.length_map];omega) ?_;intro b4 o4 hl4)))
       all_goals (first|refine zgn ?_|(refine zgy ?_;refine QI (j:=0) hS hl4 rfl fd rfl (Q35 hkbf) rfl ?_;cases bv))
       all_goals (refine ZaK ?_)
       all_goals
        first
        | (refine zcf ?_
           all_goals (refine Zca ?_)
           all_goals (first|(exact ⟨⟨f+1,zh,zh,(by omega),by rw [Q1I,←hks,Q84 hbv];have h:=hkb.elim (fun h=>absurd h.1 Bool.false_ne_true) (fun h=>h.2.1);rw [h] at hS;exact hS.sp⟩,Q4 (by omega)⟩)|(exact ⟨⟨f+1,zh,zh,(by omega),by cases bv;rw [Q1I,←hks,Q84 hbv];have h:=hkb.elim (fun h=>absurd h.1 Bool.false_ne_true) (fun h=>h.2.1);rw [h] at hS;exact hS.sp;(have h:=hkb.elim (fun h=>h.2) (fun h=>Bool.noConfusion h.1);rw [Q1I,←hks,Q6a hbv,Q8y hG];rw [h,List.take_of_length_le (by omega)] at hS;exact hS.sp)⟩,Q4 (by omega)⟩)))
        | (refine zct ?_
           all_goals (refine Zbq ?_)
           all_goals (obtain ⟨Y,hY⟩:∃x,G.blocks[b]?=some x:=⟨_,List.getElem?_eq_getElem (by omega)⟩;have hYm:=List.mem_of_getElem? hY;have hkb1:kb=Q2d ks (Q1y (G.blocks.take b)):=hkb.elim (fun h=>h.2) (fun h=>Bool.noConfusion h.1))
           all_goals (refine Zba ?_;refine zm ?_;refine Q11 (m:=f) vw rfl hfz rfl (by omega) ?_;intro b5 o5 cs5 x5 hat5 hx5 he5;obtain rfl:G=x5:=Option.some.inj (hG.symm.trans hx5);obtain ⟨vp5,vr5,vb5,rfl,hp5,hr5,hb5⟩:=Qo he5;refine Zcn ?_;refine zm ?_;refine Q11 (m:=b) vw rfl hb5 rfl (by omega) ?_;intro b6 o6 cs6 x6 hat6 hx6 he6;obtain rfl:Y=x6:=Option.some.inj (hY.symm.trans hx6);obtain ⟨vp6,vc6,v61,v62,v63,v64,v65,rfl,hp6,hc6, -⟩:=QC he6;have hcl6:=hc6.len;refine Zcn ?_;refine Zab ?_;refine Zay ?_)
           refine zo [1,2,3,13,14,15,16,17] (fun A ρ' w'=>∃(i:Nat) (kc:List Bool),Has ρ' A∧Has ρ' [(18, .int .i64 i)]∧(i≤Y.code.length)∧(kc=Q2d ks (Q1y (G.blocks.take b)++Q1M (Y.code.take i)))∧St c6 w' (sl 4 1 vk (kc.map Qi)::blk p4 29 [.int .i64 m.runs.fst, .int .i64 m.runs.snd]::blk p3 29 [.int .i64 0, .int .i64 0]::blk p2 24 [.slice none 0 0]::blk p1 24 [u0]::L)) (fun ρ' _=>(Y.code.length - iv (ρ' 18)).toNat) ?_ ?_
           · exact ⟨0,kb,zh,zh,(by omega),(by rw [List.take_zero,show Q1M []=[] by unfold Q1M;rfl,List.append_nil];exact hkb1),hS.sp⟩
           rintro ρ w1 ⟨i,kc,hA,hρ,hi7,hkc,hS⟩;obtain ⟨ρ,rfl⟩:=env2 hA hρ
           all_goals (refine ZbW ?_)
           refine Q5 rfl (fun hc=>?_) (fun hc=>?_)
           · skip
             all_goals (refine Zar ?_;refine ZaG ?_;refine Q11 (m:=i) vw rfl hc6 rfl (by omega) ?_;intro b7 o7 cs7 x7 hat7 hx7 he7;obtain ⟨vr7,va7,rfl,hr7,ha7⟩:=QG he7;have hkcl:kc.length=m.funcs.length:=(by rw [hkc,Q49];exact hksl);refine Yae ?_;refine Yan ?_)
             all_goals (first|(refine Qp ?_)|(refine Qu ?_)|(refine Q7 rfl rfl (fun hc=>?_) (fun hc=>?_)))
             all_goals (refine zn ?_)
             all_goals
              first
              | (refine zct ?_
                 all_goals (have hca:=hcalls G hGm Y hYm x7 (List.mem_of_getElem? hx7) hc;obtain ⟨bq,hbq⟩:∃x,kc[x7.k.toNat]?=some x:=⟨_,List.getElem?_eq_getElem (by omega)⟩;refine Zbc ?_;refine zm ?_;refine Q11 (m:=i) vw rfl hc6 rfl (by omega) ?_;intro b8 o8 cs8 x8 hat8 hx8 he8;obtain rfl:x7=x8:=Option.some.inj (hx7.symm.trans hx8);obtain ⟨vr8,va8,rfl,hr8,ha8⟩:=QG he8;refine Zcn ?_;refine QY (m:=x7.k.toNat) hS vw (by rw [Int.toNat_of_nonneg hca.1];rfl) fd (by rw [List.length_map];omega) ?_;intro b9 o9 hl9;refine Q1m (j:=0) (css':=(kc.set x7.k.toNat true).map Qi) hS hl9 rfl rfl fd rfl (Q35 hbq) (by decide) rfl (by rw [List.map_set];rfl) ?_;intro w7 hS;have hS:=hS.ns)
                 all_goals refine zn ?_)
              | (refine zcf ?_
                 all_goals refine zsk ?_)
             all_goals (refine Zax ?_;(first|(exact ⟨⟨i+1,kc.set x7.k.toNat true,zh,zh,(by omega),(by rw [Q3v hx7,if_pos hc,←List.append_assoc,Q86,←hkc,QaU]),hS.sp⟩,Q4 (by omega)⟩)|(exact ⟨⟨i+1,kc,zh,zh,(by omega),(by rw [Q3v hx7,if_neg hc,List.append_nil];exact hkc),hS.sp⟩,Q4 (by omega)⟩)))
           · skip
             all_goals (refine Zca ?_)
             all_goals (exact ⟨⟨b+1,kc,zh,zh,(by omega), .inl ⟨rfl,(by rw [Q4G hY];rw [List.take_of_length_le (l:=Y.code) (by omega)] at hkc;exact hkc)⟩,hS.sp⟩,Q4 (by omega)⟩))
     · skip
       all_goals (refine Zca ?_;exact ⟨⟨r+1,zh,zh,(by omega),by rw [Qdk];have e:f=m.funcs.length:=(by omega);rw [e] at hS;exact hS.sp⟩,Q4 (by omega)⟩)
   · skip
     all_goals (refine zex ?_;refine QJ ?_;have er:r=m.funcs.length:=(by omega);rw [er,hrk] at hS;have hS8:=back5 (back6 hS);have hS:St k0 _ (sl 4 1 vk (KF.map Qi)::Q22 84 ps::sl 95 4 u0 css::blk p4 29 [.int .i64 m.runs.fst, .int .i64 m.runs.snd]::blk p3 29 [.int .i64 0, .int .i64 0]::blk p2 24 [.slice none 0 0]::blk p1 24 [u0]::L):=(hS8.out (i:=2) rfl);refine Q1z ?_;refine Qb hS ?_;intro p19 w1 hS;refine zn ?_;refine ZaI ?_)
     refine zo [1,2,3,13,19] (fun A ρ' w'=>∃(k8:Cx) (f:Nat) (uo:Value) (csso:List (List Value)) (ps2:List (Value×List (List Value))),Has ρ' A∧Has ρ' [(20, .int .i64 f)]∧(k0.Le k8)∧(f≤m.funcs.length)∧(funhR.ls k8 csso (pick (KF.take f) (fs1.take f)))∧(oneC uo=true)∧(ps2.map Prod.fst=ps.map Prod.fst)∧(Cods k8 ps2 (putL (renI KF) cods0 ((pick (KF.take f) (fs1.take f)).flatMap (·.blocks))))∧St k8 w' (sl 95 4 uo csso::blk p19 24 [uo]::sl 4 1 vk (KF.map Qi)::Q22 84 ps2::sl 95 4 u0 css::blk p4 29 [.int .i64 m.runs.fst, .int .i64 m.runs.snd]::blk p3 29 [.int .i64 0, .int .i64 0]::blk p2 24 [.slice none 0 0]::blk p1 24 [u0]::L)) (fun ρ' _=>(m.funcs.length - iv (ρ' 20)).toNat) ?_ ?_
     · exact ⟨k0,0, .slice none 0 0,[],ps,zh,zh,St.refl hS,(by omega),(by rw [List.take_zero,List.take_zero,Q8g];exact Rep.LR.nil _ _ _),rfl,rfl,(by rw [List.take_zero,List.take_zero,Q8g];exact hB.cd),by have hS:=hS.nil (T:=95) (es:=4);exact hS.sp⟩
     rintro ρ w1 ⟨k8,f,uo,csso,ps2,hA,hρ,hle2,hf8,hlo,huo,hfst,hcd,hS⟩;obtain ⟨ρ,rfl⟩:=env2 hA hρ;have hL8:=hle2;(try have hle:=hle.trans hle2);(try have hL0:=hL0.trans hle2);(try have hf:=hf.up hle2);(try have hls:=hls.up hle2);(try have hst:=hst.up hle2);(try have hB:=hB.up hle2)
     all_goals (refine ZaN ?_;refine QZ hS vw fd (n:=m.funcs.length) (by omega) ?_;refine Zaj ?_)
     refine Q5 rfl (fun hc=>?_) (fun hc=>?_)
     · skip
       all_goals (refine Zar ?_;refine ZaS ?_;obtain ⟨bv,hbv⟩:∃x,KF[f]?=some x:=⟨_,List.getElem?_eq_getElem (by omega)⟩;obtain ⟨F,hFk⟩:∃F,fs1[f]?=some F:=⟨_,List.getElem?_eq_getElem (by omega)⟩;have hps8:=Q6G KF fs1 f hbv hFk;obtain ⟨dF,hdF,hatF⟩:=hls.2 f F hFk;have hat9:=hatF;obtain ⟨y1,y2,y3,rfl,hy1,hy2,hy3⟩:=Q39 hatF;obtain ⟨a3,n3,rfl⟩:=Rep.SR.shape hy3;have hTk:T[f]?=some F.to:=(by rw [←eT,List.getElem?_map,hFk];rfl);have hF12:F.blocks.length≤12:=(by have:=hT12 F.to (List.mem_of_getElem? hTk);rw [show F.to.blocks.length=F.blocks.length from List.length_map _] at this;exact this);have hpl8:=Q2n (KF.take f) (fs1.take f);rw [List.length_take] at hpl8;refine Zbc ?_;refine QY (m:=f) hS vw rfl fd (by rw [List.length_map];omega) ?_;intro b4 o4 hl4)
       all_goals (refine QI (j:=0) hS hl4 rfl fd rfl (Q35 hbv) rfl ?_;cases bv)
       all_goals (refine Zbo ?_)
       all_goals
        first
        | (refine zct ?_
           all_goals (refine Zca ?_)
           all_goals (exact ⟨⟨_,f+1,uo,csso,ps2,zh,zh,hL8,(by omega),(by rw [hps8,if_neg Bool.false_ne_true,List.append_nil];exact hlo),huo,hfst,(by rw [hps8,if_neg Bool.false_ne_true,List.append_nil];exact hcd),hS.sp⟩,Q4 (by omega)⟩))
        | (refine zcf ?_
           all_goals (refine zsk ?_;refine Zao ?_;refine zm ?_;refine QY (m:=f) hS vw rfl fd (by omega) ?_;intro b8 o8 hl8;refine Q3i hS hl8 rfl fd rfl hdF ?_;refine Qb hS ?_;intro p21 w1 hS;refine zsn hS ?_;intro w1 hS;have hS:=hS.ns;refine zn ?_;refine ZaI ?_)
           refine zo [1,2,3,13,19,20,21] (fun A ρ' w'=>∃(b:Nat) (ps3:List (Value×List (List Value))),Has ρ' A∧Has ρ' [(22, .int .i64 b)]∧(b≤F.blocks.length)∧(ps3.map Prod.fst=ps.map Prod.fst)∧(Cods k8 ps3 (putL (renI KF) cods0 ((pick (KF.take f) (fs1.take f)).flatMap (·.blocks)++F.blocks.take b)))∧St k8 w' (blk p21 95 [.int .i64 F.regs,y1,y2, .slice a3 F.blocks.length n3]::sl 95 4 uo csso::blk p19 24 [uo]::sl 4 1 vk (KF.map Qi)::Q22 84 ps3::sl 95 4 u0 css::blk p4 29 [.int .i64 m.runs.fst, .int .i64 m.runs.snd]::blk p3 29 [.int .i64 0, .int .i64 0]::blk p2 24 [.slice none 0 0]::blk p1 24 [u0]::L)) (fun ρ' _=>(F.blocks.length - iv (ρ' 22)).toNat) ?_ ?_
           · exact ⟨0,ps2,zh,zh,(by omega),hfst,(by rw [List.take_zero,List.append_nil];exact hcd),hS.sp⟩
           rintro ρ w1 ⟨b,ps3,hA,hρ,hb,hfst3,hcd3,hS⟩;obtain ⟨ρ,rfl⟩:=env2 hA hρ
           all_goals (refine Zbl ?_)
           refine Q5 rfl (fun hc=>?_) (fun hc=>?_)
           · skip
             all_goals (refine Zbq ?_;obtain ⟨x2,hx2⟩:∃x,F.blocks[b]?=some x:=⟨_,List.getElem?_eq_getElem (by omega)⟩;have hm2:=List.mem_of_getElem? hx2;have hh2:=hB.hd F (List.mem_of_getElem? hFk) x2 hm2;have hsub9:((pick (KF.take f) (fs1.take f))++[F]).Sublist fs1:=((Q4c (KF.take f) (fs1.take f)).append (List.Sublist.refl [F])).trans (by rw [←Qq hFk];exact List.take_sublist _ _);have hq2:=hB.not (f:=renI KF) (t:=(pick (KF.take f) (fs1.take f)).length) hsub9 (by rw [List.getElem?_append_right (Nat.le_refl _),Nat.sub_self];rfl) hx2;rw [List.take_left] at hq2;have hd3:Hd ps3 x2:=(by have:=hh2.1;unfold Hd at this ⊢;rw [hfst3];exact this);obtain ⟨css3,hps3,hin3,hnl3⟩:=hd3.at_ hcd3 hq2;have hS:=hS.bigOut (i:=4) rfl hps3;have hcl3:=hin3.1;have hlq:=(List.getElem?_eq_some_iff.1 hps3).1;have hS:St k8 _ (sl 84 8 x2.v css3::big (fun p:Value×List (List Value)=>sl 84 8 p.1 p.2) (ps3.eraseIdx x2.q)::blk p21 95 [.int .i64 F.regs,y1,y2, .slice a3 F.blocks.length n3]::sl 95 4 uo csso::blk p19 24 [uo]::sl 4 1 vk (KF.map Qi)::sl 95 4 u0 css::blk p4 29 [.int .i64 m.runs.fst, .int .i64 m.runs.snd]::blk p3 29 [.int .i64 0, .int .i64 0]::blk p2 24 [.slice none 0 0]::blk p1 24 [u0]::L):=hS.sp)
             all_goals (refine Zck ?_)
             refine zo [1,2,3,13,19,20,21,22] (fun A ρ' w'=>∃(i:Nat) (css4:List (List Value)),Has ρ' A∧Has ρ' [(23, .int .i64 i)]∧(i≤x2.b.code.length)∧(insR.ls k8 css4 ((x2.b.code.map (renI KF)).take i++x2.b.code.drop i))∧(css4.length=x2.b.code.length)∧St k8 w' (sl 84 8 x2.v css4::big (fun p:Value×List (List Value)=>sl 84 8 p.1 p.2) (ps3.eraseIdx x2.q)::blk p21 95 [.int .i64 F.regs,y1,y2, .slice a3 F.blocks.length n3]::sl 95 4 uo csso::blk p19 24 [uo]::sl 4 1 vk (KF.map Qi)::sl 95 4 u0 css::blk p4 29 [.int .i64 m.runs.fst, .int .i64 m.runs.snd]::blk p3 29 [.int .i64 0, .int .i64 0]::blk p2 24 [.slice none 0 0]::blk p1 24 [u0]::L)) (fun ρ' _=>(x2.b.code.length - iv (ρ' 23)).toNat) ?_ ?_
             · exact ⟨0,css3,zh,zh,(by omega),(by rw [List.take_zero,List.drop_zero];exact hin3),(by omega),hS.sp⟩
             rintro ρ w1 ⟨i,css4,hA,hρ,hi,hin4,hcl4,hS⟩;obtain ⟨ρ,rfl⟩:=env2 hA hρ
             all_goals (refine ZaN ?_;refine zm ?_;refine Q11 (m:=b) vw rfl hy3 rfl (by omega) ?_;intro b5 o5 cs5 x5 hat5 hx5 he5;obtain rfl:x2=x5:=Option.some.inj (hx2.symm.trans hx5);obtain ⟨vp2,ve21,ve22,ve23,ve24,ve25,rfl,hp2,ho2,he21,he22,he23,he24,he25⟩:=Q1x he5;refine Zcn ?_;refine QZ hS vw fd (n:=x2.b.code.length) (by omega) ?_;refine Zaj ?_)
             refine Q5 rfl (fun hc=>?_) (fun hc=>?_)
             · skip
               all_goals (refine Zbq ?_;obtain ⟨x3,hx3⟩:∃x,x2.b.code[i]?=some x:=⟨_,List.getElem?_eq_getElem (by omega)⟩;obtain ⟨d3,hd3',hat3⟩:=hin4.2 i x3 (by rw [Qbc (by rw [List.length_map]) (by omega)];exact hx3);obtain ⟨z1,z2,rfl,hz1,hz2⟩:=QG hat3;have hm3:=List.mem_of_getElem? hx3;refine Zba ?_;refine zm ?_;refine Q11 (m:=b) vw rfl hy3 rfl (by omega) ?_;intro b5 o5 cs5 x5 hat5 hx5 he5;obtain rfl:x2=x5:=Option.some.inj (hx2.symm.trans hx5);obtain ⟨vp2,ve21,ve22,ve23,ve24,ve25,rfl,hp2,ho2,he21,he22,he23,he24,he25⟩:=Q1x he5;refine Zcn ?_;refine zm ?_;refine QY (m:=i) hS vw rfl fd (by omega) ?_;intro b6 o6 hl6;refine Yae ?_;refine QI (j:=0) hS hl6 rfl fd rfl hd3' rfl ?_)
               all_goals (first|(refine Qp ?_)|(refine Qu ?_)|(refine Q7 rfl rfl (fun hc=>?_) (fun hc=>?_)))
               all_goals (refine zn ?_)
               all_goals
                first
                | (refine zct ?_
                   all_goals (have hca:=hcalls F.to (List.mem_of_getElem? hTk) x2.b (List.mem_map_of_mem hm2) x3 hm3 hc;have hr3:insR.at k8 [.int .i64 x3.op, .int .i64 x3.a, .int .i64 x3.b, .int .i64 x3.c, .int .i64 (num KF x3.k.toNat), .int .i64 x3.n,z1,z2] (renI KF x3):=(by unfold renI;rw [if_pos hc];exact ⟨_,_,rfl,hz1,hz2⟩);refine zC [(0,none),(1,none),(2,none),(3,none),(4,none),(5,none),(6,none),(7,none),(8,none),(9,none),(10,none),(11,none),(12,none),(13,none),(14,none),(15,none),(16,none),(17,none),(18,some (some [1,5])),(19,none),(20,none),(21,some none)] ?_;have hS:=hS.drew;refine ZaR ?_;refine Zaz ?_;refine Q11 (m:=b) vw rfl hy3 rfl (by omega) ?_;intro b5 o5 cs5 x5 hat5 hx5 he5;obtain rfl:x2=x5:=Option.some.inj (hx2.symm.trans hx5);obtain ⟨vp2,ve21,ve22,ve23,ve24,ve25,rfl,hp2,ho2,he21,he22,he23,he24,he25⟩:=Q1x he5;refine Zac ?_;refine Zbh ?_;refine Yap ?_;refine ZbX ?_;refine Zaz ?_;refine zf0 ?_)
                   all_goals (refine Zac ?_;refine zl hS ?_;refine ZbX ?_;refine Q11 (m:=b) vw rfl hy3 rfl (by omega) ?_;intro b5 o5 cs5 x5 hat5 hx5 he5;obtain rfl:x2=x5:=Option.some.inj (hx2.symm.trans hx5);obtain ⟨vp2,ve21,ve22,ve23,ve24,ve25,rfl,hp2,ho2,he21,he22,he23,he24,he25⟩:=Q1x he5;refine Zac ?_;refine Zbh ?_;refine Yap ?_;refine ZbX ?_;refine QY (m:=i) hS vw rfl fd (by omega) ?_;intro b7 o7 hl7;refine Zac ?_;refine Zbh ?_;refine QI (j:=4) hS hl7 rfl fd rfl hd3' rfl ?_;refine Zat ?_;refine zR2 (c:=Q5q (ks:=KF) hca.1 (by have:=hca.2;omega) (by omega) hS fd) (h:=?_);rintro v1 w1 ⟨rfl,hS⟩;refine ZaM ?_;refine QY (m:=i) hS vw rfl fd (by omega) ?_;intro b9 o9 hl9;refine Zac ?_;refine Yae ?_;refine ZaE ?_;refine Q1m (j:=4) (css':=css4.set i [.int .i64 x3.op, .int .i64 x3.a, .int .i64 x3.b, .int .i64 x3.c, .int .i64 (num KF x3.k.toNat), .int .i64 x3.n,z1,z2]) hS hl9 rfl rfl fd rfl hd3' (by decide) rfl rfl ?_;intro w6 hS;have hS:=hS.ns)
                   all_goals (refine zt ?_)
                   all_goals refine zcn ?_)
                | (refine zcf ?_
                   all_goals refine zsk ?_)
               all_goals (refine Zax ?_;(first|(exact ⟨⟨i+1,css4.set i [.int .i64 x3.op, .int .i64 x3.a, .int .i64 x3.b, .int .i64 x3.c, .int .i64 (num KF x3.k.toNat), .int .i64 x3.n,z1,z2],zh,zh,(by omega),(by rw [←Q8k (x:=renI KF x3) (by rw [List.length_map]) (by rw [List.getElem?_map,hx3];rfl)];exact hin4.set hr3),(by rw [List.length_set];exact hcl4),hS.sp⟩,Q4 (by omega)⟩)|(exact ⟨⟨i+1,css4,zh,zh,(by omega),(by rw [Qbb (by rw [List.length_map]) (by rw [List.getElem?_map,hx3];show some (renI KF x3)=_;unfold renI;rw [if_neg hc]) (by omega)];exact hin4),hcl4,hS.sp⟩,Q4 (by omega)⟩)))
             · skip
               all_goals (refine zex ?_;rw [List.take_of_length_le (by rw [List.length_map];omega),List.drop_of_length_le (by omega),List.append_nil] at hin4;have hS:St k8 _ (Q22 84 (ps3.set x2.q (x2.v,css4))::blk p21 95 [.int .i64 F.regs,y1,y2, .slice a3 F.blocks.length n3]::sl 95 4 uo csso::blk p19 24 [uo]::sl 4 1 vk (KF.map Qi)::sl 95 4 u0 css::blk p4 29 [.int .i64 m.runs.fst, .int .i64 m.runs.snd]::blk p3 29 [.int .i64 0, .int .i64 0]::blk p2 24 [.slice none 0 0]::blk p1 24 [u0]::L):=St.bigIn (f:=(fun p:Value×List (List Value)=>sl 84 8 p.1 p.2)) (x':=(x2.v,css4)) (i:=0) hS rfl hlq;refine Zax ?_;exact ⟨⟨b+1,ps3.set x2.q (x2.v,css4),zh,zh,(by omega),(by rw [QdB hps3];exact hfst3),(by rw [Qq hx2,←List.append_assoc,Q92];exact hcd3.set hin4 (by rw [List.length_map];exact hnl3)),hS.sp⟩,Q4 (by omega)⟩)
           · skip
             all_goals (refine zex ?_;rw [List.take_of_length_le (l:=F.blocks) (by omega)] at hcd3;refine ZbA ?_;refine zB1 hS [_,_,_,_] ?_;intro b1 w1 hS;refine za Q7i Q9U hS ?_;intro vp2 w2 css2 hls2 hv2 hS;have hS:=hS.ns;refine Zbf ?_;intro w1 hS;have hS:=hS.ns;refine Zcj ?_)
             all_goals (first|(exact ⟨⟨_,f+1,uo,csso,ps2,zh,zh,hL8,(by omega),(by rw [hps8,if_neg Bool.false_ne_true,List.append_nil];exact hlo),huo,hfst,(by rw [hps8,if_neg Bool.false_ne_true,List.append_nil];exact hcd),hS.sp⟩,Q4 (by omega)⟩)|(exact ⟨⟨_,f+1,_,_,ps3,zh,zh,hL8,(by omega),(by rw [hps8,if_pos rfl];assumption),by assumption,hfst3,(by rw [hps8,if_pos rfl,List.flatMap_append,List.flatMap_cons,List.flatMap_nil,List.append_nil];exact hcd3),hS.sp⟩,Q4 (by omega)⟩)))
     · skip
       all_goals (refine zex ?_;refine ZaF ?_;refine zb0 [_,_] ?_;refine zsn hS ?_;intro w1 hS;have hS:=hS.ns;refine zsn hS ?_;intro w1 hS;have hS:=hS.ns;refine ZaY ?_;refine Q8f vw (Q3 (n:=1) (by kernel_rfl) (by kernel_rfl) (hS.blkAt fd) (by rfl) (by rfl)) vw (Q3 (n:=2) (by kernel_rfl) (by kernel_rfl) (hS.blkAt fd) (by rfl) (by rfl)) ?_;(first|(exact ⟨_,rfl,cx,[.slice none 0 0],rfl,hle,(by rw [if_neg hc];exact ⟨_,rfl,Rep.SR.nil _ _ _⟩),hS.sp⟩)|(rw [List.take_of_length_le (l:=KF) (by omega),List.take_of_length_le (l:=fs1) (by omega)] at hlo hcd;obtain ⟨c9,hle9,hS9,hfull9, -⟩:=Q5c (g:=fun y=>y.b.code.map (renI KF)) (hS.out (r:=Q22 84 ps2) fd) hcd (hB.done (Q4c KF fs1) hfst) hlo;have hpl:=Q2n KF fs1;obtain ⟨c10,hle10,hS10,hk10⟩:=St.freezeL (r:=funcR) (hS9.out (r:=sl 95 4 uo csso) fd) hfull9 rfl (by rw [List.length_map];omega);have hS:=hS10;simp only [List.eraseIdx_cons_zero,List.eraseIdx_cons_succ] at hS;exact ⟨_,rfl,c10,[uo],(by rw [hrz];rfl),(hle.trans hle9).trans hle10,(by rw [if_pos (by rw [hrz])];exact ⟨_,rfl,by rw [hfs1,hKF,hT,Q9Y hto] at hk10;exact hk10⟩),hS.sp⟩)))
end Go.Proofs.YteflkifmgnpbhaaGreat
namespace Go.Proofs.YteflkifmgnpbhaaGreat
open Go.Lir
set_option maxHeartbeats 1000000
attribute [local irreducible] LC.wp Q0 QB QH retQ Q1k LO.wp Qh Calls
set_option linter.unusedSimpArgs false
set_option linter.unusedVariables false
variable {cx:Cx}{w:World}{L:List Res}{i:Nat}
def toZ:To:=⟨0,[],[]⟩
@[reducible] def fiveN (n:Int):Module:=⟨[⟨0,[],[.mk 1 0 []],[⟨0,[],[⟨1,0,0,0,0,5,[],[]⟩],⟨3,0,toZ,toZ,[n]⟩⟩]⟩]⟩
theorem five_o (hS:St cx w L):Rets Tryz.prog Qbx [] w fun u w'=>∃q1 q2 q3 la lb,u= .agg ⟨[.slice (some ⟨la,0,none⟩) 1 1]⟩∧St cx w' (blk q1 115 [.int .i64 1, .int .i64 0, .slice none 0 0]::blk q2 84 [.int .i64 1, .int .i64 0, .int .i64 0, .int .i64 0, .int .i64 0, .int .i64 5, .slice none 0 0, .slice none 0 0]::blk q3 3 [.int .i64 0]::blk lb 92 [.int .i64 0, .slice none 0 0, .slice (some ⟨q2,0,none⟩) 1 1, .int .i64 3, .int .i64 0, .int .i64 0, .slice none 0 0, .slice none 0 0, .int .i64 0, .slice none 0 0, .slice none 0 0, .slice (some ⟨q3,0,none⟩) 1 1]::blk la 95 [.int .i64 0, .slice none 0 0, .slice (some ⟨q1,0,none⟩) 1 1, .slice (some ⟨lb,0,none⟩) 1 1]::L):=by
 refine lgo tyD Tryz.func50 ?_;refine Zbz ?_;(intro p0 w1 hS);refine zn ?_;refine Zaa ?_;refine zR0 (c:=Qdi hS) (h:=?_);rintro v1 w1 ⟨la,lb,rfl,hS⟩;simp only [Q5t] at hS;refine Qb hS ?_;(intro p1 w1 hS);((refine zsn hS ?_;intro w1 hS;have hS:=hS.ns));refine ZbP ?_;refine zb1 [_,_,_] ?_;refine Q1G (cs:=[_,_,_]) vw (by rfl) ?_;intro q1 w1 hb1 hf1 _ hk1;have hS:=hS.laid hb1 hf1 hk1;refine Qa6 rfl rfl (by decide) (by decide) ?_;refine Zbf ?_;intro w1 hS;have hS:=hS.ns;refine ZbP ?_;refine Qa6 rfl rfl (by decide) (by decide) ?_;refine Zad ?_;refine zb2 [_,_,_,_,_,_,_,_] ?_;refine Q1G (cs:=[_,_,_,_,_,_,_,_]) vw (by rfl) ?_;intro q2 w1 hb1 hf1 _ hk1;have hS:=hS.laid hb1 hf1 hk1;refine Qa6 rfl rfl (by decide) (by decide) ?_;refine Zbf ?_;intro w1 hS;have hS:=hS.ns;refine ZbP ?_;refine Qa6 rfl rfl (by decide) (by decide) ?_;refine Zad ?_;refine Q1G (cs:=[_]) vw (by rfl) ?_;intro q3 w1 hb1 hf1 _ hk1;have hS:=hS.laid hb1 hf1 hk1;refine Qa6 rfl rfl (by decide) (by decide) ?_;refine ZbF ?_;refine zst hS ?_;intro w1 hS;have hS:=hS.ns;refine ZbY ?_;((refine zsn hS ?_;intro w1 hS;have hS:=hS.ns));refine ZaY ?_;refine QK vw (Q3 (n:=1) (by kernel_rfl) (by kernel_rfl) (hS.blkAt fd) (by rfl) (by rfl)) ?_;((exact ⟨_,rfl,q1,q2,q3,la,lb,rfl,hS.sp⟩))
theorem five_fz {q1 q2 q3 la lb:Nat}{n:Int}(hS:St cx w (blk q1 115 [.int .i64 1, .int .i64 0, .slice none 0 0]::blk q2 84 [.int .i64 1, .int .i64 0, .int .i64 0, .int .i64 0, .int .i64 0, .int .i64 5, .slice none 0 0, .slice none 0 0]::blk q3 3 [.int .i64 n]::blk lb 92 [.int .i64 0, .slice none 0 0, .slice (some ⟨q2,0,none⟩) 1 1, .int .i64 3, .int .i64 0, .int .i64 0, .slice none 0 0, .slice none 0 0, .int .i64 0, .slice none 0 0, .slice none 0 0, .slice (some ⟨q3,0,none⟩) 1 1]::blk la 95 [.int .i64 0, .slice none 0 0, .slice (some ⟨q1,0,none⟩) 1 1, .slice (some ⟨lb,0,none⟩) 1 1]::L)):∃c',cx.Le c'∧modR.at c' [.slice (some ⟨la,0,none⟩) 1 1] (fiveN n)∧St c' w L:=by
 have n0:∀c:Cx,tyR.sl c (.slice none 0 0) []:=fun c=>Rep.SR.nil _ _ _
 have n1:∀c:Cx,intR.sl c (.slice none 0 0) []:=fun c=>Rep.SR.nil _ _ _
 obtain ⟨c1,hle1,hS,h1⟩:=St.freeze1 (r:=tyR) (x:= .mk 1 0 []) hS (Q1d (n0 _))
 obtain ⟨c2,hle2,hS,h2⟩:=St.freeze1 (r:=insR) (x:=⟨1,0,0,0,0,5,[],[]⟩) hS ⟨_,_,rfl,n1 _,n1 _⟩
 obtain ⟨c3,hle3,hS,h3⟩:=St.freeze1 (r:=intR) (x:=n) hS rfl
 obtain ⟨c4,hle4,hS,h4⟩:=St.freeze1 (r:=blockR) (x:=⟨0,[],[⟨1,0,0,0,0,5,[],[]⟩],⟨3,0,toZ,toZ,[n]⟩⟩) hS (Q3b (x:=⟨0,[],[⟨1,0,0,0,0,5,[],[]⟩],⟨3,0,toZ,toZ,[n]⟩⟩) (n0 _) (Rep.SR.up h2 hle3) (n1 _) (n1 _) (n1 _) (n1 _) h3)
 obtain ⟨c5,hle5,hS,h5⟩:=St.freeze1 (r:=funcR) (x:=⟨0,[],[.mk 1 0 []],[⟨0,[],[⟨1,0,0,0,0,5,[],[]⟩],⟨3,0,toZ,toZ,[n]⟩⟩]⟩) hS ⟨_,_,_,rfl,n0 _,Rep.SR.up h1 (hle2.trans (hle3.trans hle4)),h4⟩
 exact ⟨c5,hle1.trans (hle2.trans (hle3.trans (hle4.trans hle5))),⟨_,rfl,h5⟩,hS⟩
theorem five_c (hS:St cx w L):Rets Tryz.prog Qbx [] w fun u w'=>∃c' vf,cx.Le c'∧u= .agg ⟨[vf]⟩∧modR.at c' [vf] (fiveN 0)∧St c' w' L:=by
 refine (five_o hS).mono fun u w' h=>?_
 obtain ⟨q1,q2,q3,la,lb,rfl,hS⟩:=h
 obtain ⟨c',h1,h2,h3⟩:=five_fz hS
 exact ⟨c',_,h1,rfl,h2,h3⟩
end Go.Proofs.YteflkifmgnpbhaaGreat
namespace Go.Proofs.YteflkifmgnpbhaaGreat
open Go.Lir
set_option maxHeartbeats 1000000
attribute [local irreducible] LC.wp Q0 QB QH retQ Q1k LO.wp Qh Calls
set_option linter.unusedSimpArgs false
set_option linter.unusedVariables false
variable {cx:Cx}{w:World}{L:List Res}{m:Module}
@[reducible] def fiveB:Block:=⟨0,[],[⟨1,0,0,0,0,5,[],[]⟩],⟨3,0,toZ,toZ,[0]⟩⟩
@[reducible] def jumpB:Block:=⟨0,[],[],⟨1,0,toZ,toZ,[]⟩⟩
def trimT:Module:=⟨[⟨0,[],[.mk 1 0 []],[fiveB,jumpB]⟩,⟨0,[],[],[Q6N]⟩]⟩
theorem Q9Z:trimT.Short:=by
 refine ⟨Nat.le_of_ble_eq_true rfl,fun f hf=>?_⟩
 simp [trimT] at hf
 have hz:toZ.Short:=⟨by decide,by decide⟩
 rcases hf with rfl|rfl
 · refine ⟨⟨Nat.le_of_ble_eq_true rfl,by simp⟩,⟨Nat.le_of_ble_eq_true rfl,fun t ht=>?_⟩,Nat.le_of_ble_eq_true rfl,fun b hb=>?_⟩
   · simp at ht;subst ht;exact .mk (by decide) (by simp)
   · simp at hb
     rcases hb with rfl|rfl
     · refine ⟨⟨Nat.le_of_ble_eq_true rfl,by simp⟩,Nat.le_of_ble_eq_true rfl,fun i hi=>?_,hz,hz,by simp⟩
       simp at hi;subst hi;exact ⟨by decide,by decide⟩
     · exact ⟨⟨Nat.le_of_ble_eq_true rfl,by simp⟩,Nat.le_of_ble_eq_true rfl,by simp,hz,hz,by simp⟩
 · refine ⟨⟨Nat.le_of_ble_eq_true rfl,by simp⟩,⟨Nat.le_of_ble_eq_true rfl,by simp⟩,Nat.le_of_ble_eq_true rfl,fun b hb=>?_⟩
   simp at hb;subst hb
   exact ⟨⟨Nat.le_of_ble_eq_true rfl,by simp [Q6N]⟩,Nat.le_of_ble_eq_true rfl,by simp [Q6N],⟨by decide,by decide⟩,⟨by decide,by decide⟩,by simp [Q6N]⟩
theorem QbE:trimT.runs=(0,0):=by decide+kernel
theorem QbD:trimT.trim=fiveN 0:=by decide+kernel
theorem Qa1 (hS:St cx w L):Rets Tryz.prog Q8K [] w fun u w'=>u= .bool true∧St cx w' L:=by
 have e1:=QbE
 have e2:=QbD
 have n0:∀c:Cx,insR.sl c (.slice none 0 0) []:=fun c=>Rep.SR.nil _ _ _
 have n1:∀c:Cx,intR.sl c (.slice none 0 0) []:=fun c=>Rep.SR.nil _ _ _
 have n2:∀c:Cx,tyR.sl c (.slice none 0 0) []:=fun c=>Rep.SR.nil _ _ _
 have hle:=St.refl hS
 all_goals refine lgo tyD Tryz.func41 ?_
 all_goals (refine Zaf ?_;refine Zaa ?_)
 all_goals (refine zR0 (c:=five_o hS) (h:=?_);rintro v1 w1 ⟨q1,q2,q3,la,lb,rfl,hS⟩;obtain ⟨c1,hle2,hS,h1⟩:=St.freeze1 (r:=tyR) (x:= .mk 1 0 []) hS (Q1d (n2 _));(try have hle:=hle.trans hle2);obtain ⟨c2,hle2,hS,h2⟩:=St.freeze1 (r:=insR) (x:=⟨1,0,0,0,0,5,[],[]⟩) hS ⟨_,_,rfl,n1 _,n1 _⟩;(try have hle:=hle.trans hle2);(try have h1:=h1.up hle2);obtain ⟨c3,hle2,hS,h3⟩:=St.freeze1 (r:=intR) (x:=0) hS rfl;(try have hle:=hle.trans hle2);(try have h1:=h1.up hle2);(try have h2:=h2.up hle2);have hS:=St.slOf (es:=12) (n:=1) (css:=[[.int .i64 0, .slice none 0 0, .slice (some ⟨q2,0,none⟩) 1 1, .int .i64 3, .int .i64 0, .int .i64 0, .slice none 0 0, .slice none 0 0, .int .i64 0, .slice none 0 0, .slice none 0 0, .slice (some ⟨q3,0,none⟩) 1 1]]) hS rfl (by intro c hc;simp at hc;subst hc;rfl) rfl;have hS:=(St.slOf (es:=4) (n:=1) (css:=[[.int .i64 0, .slice none 0 0, .slice (some ⟨q1,0,none⟩) 1 1, .slice (some ⟨lb,0,none⟩) 1 1]]) hS.mv1 rfl (by intro c hc;simp at hc;subst hc;rfl) rfl))
 all_goals (refine Qb hS ?_;intro p1 w1 hS;refine zsn hS ?_;intro w1 hS;have hS:=hS.ns;refine Zbe ?_;refine zC [(0,none),(1,none),(2,none),(3,none),(4,none),(5,none),(6,none),(7,none),(8,none),(9,some (some [1,3,6])),(10,some (some [1])),(11,none),(12,none),(13,some none)] ?_;have hS:=hS.drew;refine Zby ?_;refine QY (m:=0) hS vw rfl fd (by simp) ?_;intro b7 o7 hl7;refine Zac ?_;refine Zbh ?_;refine QI (j:=3) hS hl7 rfl fd rfl rfl rfl ?_;refine Zac ?_;refine zb1 [_,_,_,_,_,_,_,_,_] ?_;refine Zac ?_;refine zb1 [_,_,_,_,_,_,_,_,_,_,_,_] ?_;refine Zat ?_;refine zB1 hS [_,_,_,_,_,_,_,_,_,_,_,_] ?_;intro b1 w1 hS;refine zt ?_;refine ⟨List.forall_mem_cons.2 ⟨(by first|(exact Q29 (j:=3) hS hl7 rfl fd rfl rfl rfl)|(exact Q16 hS rfl fd rfl)),List.forall_mem_cons.2 ⟨(by first|(exact Q29 (j:=3) hS hl7 rfl fd rfl rfl rfl)|(exact Q16 hS rfl fd rfl)),List.forall_mem_cons.2 ⟨(by (exact Q29 (j:=3) hS hl7 rfl fd rfl rfl rfl)),fun _ h=>(List.not_mem_nil h).elim⟩⟩⟩,?_⟩)
 all_goals (refine Qa8 ?_;refine Q3G Q7h (.inl Q9T) hS vw vw fd (hS.srcB fd rfl (by simp [oneC])) (by simp) ?_;intro vb w2 hS;have hS:=hS.ns;have hvb:=hS.oneC (v:=vb) fd;refine ZaM ?_;refine QY (m:=0) hS vw rfl fd (by simp) ?_;intro b8 o8 hl8;refine Zac ?_;refine Yae ?_;refine ZaE ?_;refine Q1m (j:=3) (css':=[[.int .i64 0, .slice none 0 0, .slice (some ⟨q1,0,none⟩) 1 1,vb]]) hS hl8 rfl rfl fd rfl rfl (by decide) hvb rfl ?_;intro w7 hS;have hS:=hS.ns;refine ZaA ?_;refine QJ ?_;refine zC [(0,none),(1,none),(2,some (some [1])),(3,none),(4,some none),(5,none),(6,some none)] ?_;have hS:=hS.drew;refine s_cq ?_;refine Zbn ?_;refine zR0 (c:=Qdi hS) (h:=?_);rintro v1 w1 ⟨ma,mb,rfl,hS⟩;simp only [Q5t] at hS;refine ZaM ?_;refine QaY rfl rfl ?_;refine ZaE ?_;refine Q3G Q7i (.inl Q9U) hS vw vw fd (hS.srcB fd rfl (by simp [oneC,hvb])) (by simp) ?_;intro uf w2 hS;have hS:=hS.ns;have huf:=hS.oneC (v:=uf) fd;refine Zch ?_;refine zt ?_)
 all_goals (refine s_cf ?_;refine zst hS ?_;intro w1 hS;have hS:=hS.ns;refine ZaA ?_;refine ZaF ?_)
 all_goals (obtain ⟨c4,hle2,hS,h4⟩:=St.freezeL (r:=blockR) (l:=[fiveB,jumpB]) (hS.out (i:=5) rfl) (((Rep.LR.nil _ _ _).push (Q3b (x:=fiveB) (n2 _) h2 (n1 _) (n1 _) (n1 _) (n1 _) h3)).push (Q3b (x:=jumpB) (n2 _) (n0 _) (n1 _) (n1 _) (n1 _) (n1 _) (n1 _))) rfl (by simp);(try have hle:=hle.trans hle2);(try have h1:=h1.up hle2);(try have h2:=h2.up hle2);(try have h3:=h3.up hle2);obtain ⟨c5,hle2,hS,h5⟩:=St.freeze1 (r:=blockR) (x:=Q6N) (hS.out (i:=1) rfl) (Q3b (x:=Q6N) (n2 _) (n0 _) (n1 _) (n1 _) (n1 _) (n1 _) (n1 _));(try have hle:=hle.trans hle2);(try have h1:=h1.up hle2);(try have h2:=h2.up hle2);(try have h3:=h3.up hle2);(try have h4:=h4.up hle2);have hr1:funcR.at c5 [.int .i64 0, .slice none 0 0, .slice (some ⟨q1,0,none⟩) 1 1,vb] (⟨0,[],[.mk 1 0 []],[fiveB,jumpB]⟩:Fun):=⟨_,_,_,rfl,n2 _,h1,h4⟩;have hr2:funcR.at c5 [.int .i64 0, .slice none 0 0, .slice none 0 0, .slice (some ⟨mb,0,none⟩) 1 1] (⟨0,[],[],[Q6N]⟩:Fun):=⟨_,_,_,rfl,n2 _,n2 _,h5⟩;obtain ⟨c6,hle2,hS,h6⟩:=St.freezeL (r:=funcR) (l:=trimT.funcs) (hS.out (i:=3) rfl) (((Rep.LR.nil _ _ _).push hr1).push hr2) rfl (by decide);(try have hle:=hle.trans hle2);(try have h1:=h1.up hle2);(try have h2:=h2.up hle2);(try have h3:=h3.up hle2);(try have h4:=h4.up hle2);(try have h5:=h5.up hle2);refine zR1 (c:=make_c Q9Z ⟨_,rfl,h6⟩ hS) (h:=?_);rintro v1 w1 ⟨c7,ds,rfl,hle2,hn1,hS⟩;(try have hle:=hle.trans hle2);(try have h1:=h1.up hle2);(try have h2:=h2.up hle2);(try have h3:=h3.up hle2);(try have h4:=h4.up hle2);(try have h5:=h5.up hle2);rw [e1,if_pos rfl,e2] at hn1;obtain ⟨v8,rfl,hf8⟩:=QP hn1;obtain ⟨a8,n8,rfl⟩:=Rep.SR.shape hf8;rw [e1];unfold fltV)
 all_goals (refine Zct ?_;intro p2 w1 hS;refine Qb hS ?_;intro p3 w1 hS;refine zsn hS ?_;intro w1 hS;have hS:=hS.ns;refine zsn hS ?_;intro w1 hS;have hS:=hS.ns;refine Zbe ?_;refine zC [(0,none),(1,none),(2,none),(3,none),(4,none),(5,some (some [4])),(6,some none),(7,none),(8,some none)] ?_;have hS:=hS.drew;refine ZaR ?_)
 all_goals (refine Qp ?_)
 all_goals (refine ZbX ?_;refine Yaq ?_;refine Zat ?_)
 all_goals (first|refine zgn ?_|(refine zgy ?_;refine zR0 (c:=five_c hS) (h:=?_);rintro v1 w1 ⟨c8,vf8,hle2,rfl,hn2,hS⟩;(try have hle:=hle.trans hle2);(try have h1:=h1.up hle2);(try have h2:=h2.up hle2);(try have h3:=h3.up hle2);(try have h4:=h4.up hle2);(try have h5:=h5.up hle2);(try have hn1:=hn1.up hle2)))
 all_goals (refine ZaZ ?_;(first|refine zgn ?_|(refine zgy ?_;refine zR2 (c:=Q5m hn1 hn2 hS) (h:=?_);rintro v1 w1 ⟨rfl,hS⟩;rw [decide_eq_true rfl]));refine Zac ?_;refine zpt ?_;refine ZaE ?_;refine zm ?_;refine ZaA ?_;refine Zai ?_;exact ⟨_,rfl,rfl,St.weak hS.sp hle⟩)
theorem Qa0 {cs:List Value}(hx:modR.at cx cs m) (hS:St cx w L):Rets Tryz.prog Q5d [.agg ⟨cs⟩] w fun u w'=>u= .bool true∧St cx w' L:=by
 obtain ⟨vf,rfl,hf⟩:=QP hx
 obtain ⟨a0,n0,rfl⟩:=Rep.SR.shape hf
 have hle:=St.refl hS
 all_goals refine lgo tyD Tryz.func8 ?_
 all_goals (refine Zaw ?_;intro p1 w1 hS;refine Zab ?_;refine Zbt ?_;refine zR0 (c:=Qa1 hS) (h:=?_);rintro v1 w1 ⟨rfl,hS⟩;refine Zbo ?_)
 all_goals
  first
  | (refine zct ?_
     all_goals (refine Zas ?_)
     all_goals (exact ⟨_,rfl,rfl,St.weak hS.sp hle⟩))
  | (refine zcf ?_
     all_goals refine zsk ?_)
 all_goals (refine QJ ?_;refine ZaF ?_)
 all_goals (refine zR1 (c:=Qc6 hx hS) (h:=?_);rintro v1 w1 ⟨g1,rfl,hg1,hS⟩;cases g1)
 all_goals (refine zn ?_)
 all_goals
  first
  | (refine zct ?_
     all_goals (refine Zas ?_)
     all_goals (exact ⟨_,rfl,rfl,St.weak hS.sp hle⟩))
  | (refine zcf ?_
     all_goals refine zsk ?_)
 all_goals (refine QJ ?_;have hm:=hg1 rfl;refine Q1z ?_;refine zv hS ?_)
 all_goals (refine zR1 (c:=QcV hm hx hS) (h:=?_);rintro v1 w1 ⟨c1,ds,rfl,hle2,hm1,hS⟩;(try have hle:=hle.trans hle2);(try have hf:=hf.up hle2);(try have hx:=hx.up hle2);obtain ⟨v9,rfl,hf9⟩:=QP hm1;obtain ⟨a9,n9,rfl⟩:=Rep.SR.shape hf9)
 all_goals (refine Qb hS ?_;intro p3 w1 hS;refine zsn hS ?_;intro w1 hS;have hS:=hS.ns;refine ZbY ?_)
 all_goals (refine zR1 (c:=make_c hm hm1 hS) (h:=?_);rintro v1 w1 ⟨c2,ds,rfl,hle2,hn1,hS⟩;(try have hle:=hle.trans hle2);(try have hf:=hf.up hle2);(try have hx:=hx.up hle2);(try have hm1:=hm1.up hle2);obtain ⟨v8,rfl,hf8⟩:=QP hn1;obtain ⟨a8,n8,rfl⟩:=Rep.SR.shape hf8;unfold fltV)
 all_goals (refine Zct ?_;intro p4 w1 hS;refine Qb hS ?_;intro p5 w1 hS;refine zsn hS ?_;intro w1 hS;have hS:=hS.ns;refine zsn hS ?_;intro w1 hS;have hS:=hS.ns;refine ZbY ?_)
 all_goals (refine zR1 (c:=rtrim_c hm hx hS) (h:=?_);rintro v1 w1 ⟨c3,ds,rfl,hle2,hn2,hS⟩;(try have hle:=hle.trans hle2);(try have hf:=hf.up hle2);(try have hx:=hx.up hle2);(try have hm1:=hm1.up hle2);(try have hn1:=hn1.up hle2);obtain ⟨v7,rfl,hf7⟩:=QP hn2;obtain ⟨a7,n7,rfl⟩:=Rep.SR.shape hf7;unfold fltV)
 all_goals (refine Zct ?_;intro p6 w1 hS;refine Qb hS ?_;intro p7 w1 hS;refine zsn hS ?_;intro w1 hS;have hS:=hS.ns;refine zsn hS ?_;intro w1 hS;have hS:=hS.ns;refine ZbY ?_;refine zv hS ?_;refine s_eq2_t flt_int2 rfl rfl ?_;refine zm ?_;refine Yaq ?_;refine Yaq ?_;(first|(refine zgn ?_)|(refine zgy ?_;refine zR2 (c:=Q5m hn1 hn2 hS) (h:=?_);rintro v1 w1 ⟨rfl,hS⟩;rw [decide_eq_true rfl]));refine zpt ?_;refine zm ?_;refine Yaq ?_;refine Yaq ?_;(first|(refine zgn ?_)|(refine zgy ?_;refine zR2 (c:=Q5m hm1 hx hS) (h:=?_);rintro v1 w1 ⟨rfl,hS⟩;rw [decide_eq_true (rfl:m=m)])))
 all_goals (refine zpt ?_;refine ZaB ?_;exact ⟨_,rfl,rfl,St.weak hS.sp hle⟩)
end Go.Proofs.YteflkifmgnpbhaaGreat
namespace Go.Proofs.YteflkifmgnpbhaaGreat
open Go.Lir
theorem trimMakes_rd {c:Array Value}{x:Module}{w:World}(h1:cMod.cod.rd w.heap c.toList x):Rets Tryz.prog Q5d [.agg c] w fun v w'=>v= .bool true∧Fr NF w w':=
 (Qa0 (cMod.top h1) (St.top w)).mono fun _ _ ⟨h,h2⟩=>⟨h,h2.fr⟩
end Go.Proofs.YteflkifmgnpbhaaGreat
