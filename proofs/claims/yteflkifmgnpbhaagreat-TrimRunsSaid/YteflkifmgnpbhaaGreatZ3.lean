
/- Lemmas of the proof, part 3: what the functions of the program do (contracts), and what follows. -/
import Derived.Test.YteflkifmgnpbhaaGreatZ2
import Derived.Test.YteflkifmgnpbhaaGreatProg
import Derived.Test.YteflkifmgnpbhaaGreatZ1
import Derived.Lib.Strings
open Go Go.Lir Go.Proofs.YteflkifmgnpbhaaGreat
variable {α:Type}{t:Ty}{cx:Cx}{w:World}{L:List Res}{cs ds:List Value}{l:List Int}{regs:Int}{v2 vp:Value}{ks:List Bool}{i N M q:Nat}{d:Res}{e:Tail}{T:TypeId}{css:List (List Value)}
set_option linter.unusedVariables false
set_option linter.unusedSimpArgs false
set_option maxHeartbeats 1000000
namespace Go.Lir
section
variable {p:Prop}
theorem Df (h:p:=by rw [EK];omega):p:=h
theorem Dx (h:p:=by simpa using hc):p:=h
theorem DG (h:p:=by rw [F8];omega):p:=h
theorem DJ (h:p:=by rw [E1 Jo] at hls;exact hls):p:=h
theorem D5 (h:p:=by intro c hc;simp at hc;subst hc;rfl):p:=h
theorem Eb (h:p:=by unfold OB;rw [if_pos Jo]):p:=h
theorem Ec (h:p:=by rw [EN,hxa];rfl):p:=h
theorem Eg (h:p:=by unfold OB;rw [if_neg Jo,if_pos Jo]):p:=h
end
end Go.Lir
namespace Go.Lir
section
variable {p:Prop}
theorem AF (h:p:=by exact ⟨0,zh,zh,Jo,by simp,hS.sp⟩):p:=h
theorem AJ (h:p:=by exact fun e=>absurd (congrArg List.length e) Jo):p:=h
theorem AX (h:p:=by exact ⟨_,a1,a2,n1,n2,p6,zh,zh,hJ6,by assumption,by assumption,hS.sp⟩):p:=h
theorem A1 (h:p:=by exact ⟨0,zh,zh,Jo,Jo,by simp,hS.sp⟩):p:=h
theorem Bl (h:p:=by exact ⟨_,a3,n3,p9,zh,zh,hJ10,by assumption,hS.sp⟩):p:=h
theorem Br (h:p:=by exact ⟨0,zh,zh,Jo,by rfl,hS.sp⟩):p:=h
theorem Bv (h:p:=by exact ⟨_,rfl,(by rw [hgo,if_neg (by simpa using hc)]),cx,Fq hS,hS.sp⟩):p:=h
theorem BE (h:p:=by exact ⟨⟨c2,j+1,_,_,zh,zh,hle.trans hle2,Jo,by rw [OI hx1];assumption,by assumption,hS.sp⟩,Qb Jo⟩):p:=h
theorem BJ (h:p:=by exact ⟨_,rfl,hgo ▸ rfl,cx,Fq hS,hS.sp⟩):p:=h
theorem BQ (h:p:=by exact ⟨_,rfl,c3,hle3,(by rw [e];simp only [FM,Io];rw [Fb (h1 Jo)];exact hl3),hS.sp⟩):p:=h
theorem BU (h:p:=by exact ⟨_,rfl,⟨_,rfl⟩,hS.sp⟩):p:=h
theorem BV (h:p:=by exact ⟨cx,0, .slice none 0 0,[],zh,zh,Fq hS,Jo,FY _ _ _,rfl,by have hS:=hS.nil (T:=115) (es:=3);exact hS⟩):p:=h
theorem B3 (h:p:=by exact ⟨rfl,rfl,by simp only;omega,by simp only;omega,by simp only;omega⟩):p:=h
theorem B8 (h:p:=by exact ⟨⟨_,k+1,_,_,zh,zh,hL2,Jo,by rw [OI hx3];assumption,by assumption,hS.sp⟩,Qb Jo⟩):p:=h
theorem Ca (h:p:=by exact ⟨_,rfl,_,v,rfl,(by rw [show (min n 16).toNat=j by omega];exact hS.sp)⟩):p:=h
theorem Cd (h:p:=by exact ⟨_,rfl,(by rw [hgo,if_pos Jo]),c5,hle5,hS.sp⟩):p:=h
theorem Co (h:p:=by exact ⟨0,_,[],zh,zh,Jo,by unfold MM;exact FY _ _ _,hS.sp⟩):p:=h
theorem Cr (h:p:=by exact ⟨_,rfl,c3,hle3,(by rw [e];simp only [FM,Io];rw [Fb (h1 Jo),Fb (h2 Jo)];exact hl3),hS.sp⟩):p:=h
theorem CD (h:p:=by exact ⟨⟨j+1,zh,zh,Jo,Jo,by rw [hd,Q1 hx1,Q1 hx2,show x1=x2 by omega];simp,hS.sp⟩,Qb Jo⟩):p:=h
theorem CE (h:p:=by exact ⟨⟨j+1,zh,zh,Jo,by rw [hd,Q1 hx1,Tys.wrong,if_neg Jo],hS.sp⟩,Qb Jo⟩):p:=h
theorem CN (h:p:=by exact ⟨⟨j+1,zh,zh,Jo,Jo,by rw [hd,Q1 hx1,Q1 hx2,hg];simp,hS.sp⟩,Qb Jo⟩):p:=h
theorem C3 (h:p:=by exact ⟨⟨j+1,_,_,zh,zh,Jo,by rw [hsu,if_pos Ja];exact hls1,hS.sp⟩,Qb Jo⟩):p:=h
theorem C7 (h:p:=by exact ⟨c9,0, .slice none 0 0,[],zh,zh,Fq hS,Jo,FY _ _ _,rfl,by have hS:=hS.nil (T:=84) (es:=8);exact hS.sp⟩):p:=h
end
end Go.Lir
namespace Go.Lir
section
variable {p:Prop}
theorem Am (h:p:=by first|(refine ⟨_,rfl,?_,hS.sp⟩;unfold Ke;simp [*];omega;done)|(refine ⟨_,rfl,?_,hS.sp⟩;unfold Ke;simp [*];done)):p:=h
theorem Ao (h:p:=by first|(exact ⟨⟨j+1,_,_,zh,zh,Jo,by rw [hsu,if_pos Ja];exact hls1,hS.sp⟩,Qb Jo⟩)|(exact ⟨⟨j+1,_,_,zh,zh,Jo,by rw [hsu,if_neg (by rw [hc];decide),FA];exact hls,hS.sp⟩,Qb Jo⟩)):p:=h
theorem Aq (h:p:=by first|(refine ⟨_,rfl,?_,hS.sp⟩;rw [decide_eq_false];exact fun e=>absurd (congrArg List.length e) Jo;done)|(refine ⟨_,rfl,?_,hS.sp⟩;rw [decide_eq_false];rw [hd,Q1 hx1,Q1 hx2];simp [hg];done)|(refine ⟨_,rfl,?_,hS.sp⟩;rw [decide_eq_true];rw [hd,EP Jo,EP Jo];done)):p:=h
theorem As (h:p:=by first|(refine ⟨_,rfl,?_,hS.sp⟩;rw [decide_eq_false];exact fun e=>absurd (congrArg List.length e) Jo;done)|(refine ⟨_,rfl,?_,hS.sp⟩;rw [decide_eq_false];rw [hd,Q1 hx1,Q1 hx2];simp [*];done)|(refine ⟨_,rfl,?_,hS.sp⟩;rw [decide_eq_true];rw [hd,EP Jo,EP Jo];done)):p:=h
end
end Go.Lir
namespace Go.Proofs.YteflkifmgnpbhaaGreat
open Go.Lir
attribute [local irreducible] LC.wp Q0 Qh Qd Kq Qz LO.wp Q5 Calls
theorem cB:∀(t:Ty){cx:Cx}{w:World}{L:List Res}{cs:List Value}{left:Int},J7.at cx cs t→-1≤left→left≤1000000→St cx w L→
 JW Tryz.prog Qgb [.agg ⟨cs⟩, .int .i64 left] w fun v w'=>v= .int .i64 (t.size left)∧St cx w' L:=by
 intro t
 induction t using GX with
 | h k r l ih=>
   intro cx w L cs left ht h1 h2 hS;obtain ⟨v,rfl,hl⟩:=Qc ht;simp only [Ty.kind,Ty.r,Ty.l] at hl ht ⊢;have hlen:=hl.len;rw [Ty.size];refine Kd Kc Tryz.func158 ?_;refine' KO;intro p2 w1 hS;refine' LZ;refine' PL;refine' Kg;refine' LU;refine LQ hS [2] (fun A LL ρ' w'=>∃(j:Nat) (n:Int),J2 ρ' A∧J2 ρ' [(1, .int .i64 n),(5, .int .i64 j)]∧(j≤l.length)∧(n≤1000000)∧(-2≤n)∧(Tys.size l (left - 1)=Tys.size (l.drop j) n)∧St cx w' (LL)) (fun ρ' _=>(l.length - iv (ρ' 5)).toNat) ?_ ?_
   · exact ⟨0,left - 1,zh,zh,Jo,Jo,Jo,by simp,hS.sp⟩
   ((rintro ρ w1 ⟨j,n,hA,hρ,hj,hn,hn1,hd,hS⟩;obtain ⟨ρ,rfl⟩:=J3 hA hρ;refine' Re;refine' zL;first|(refine' K0)|(refine' K1)|(refine' Ae<;>intro hc));all_goals (refine' Ll;first|refine' J1|(refine' J4;(first|(refine' Ml)|(refine' Mz)|(refine' Ag<;>intro hc)))));all_goals (refine' KU)
   all_goals
    first
    | (refine' J0;all_goals (refine' Up);all_goals (refine ⟨_,rfl,?_,hS.sp⟩;(rw [hd];congr 1;first|(rw [Hx _ Jo];done)|(rw [EP Jo,Tys.size];done));done))
    | (refine' JZ;refine' Lj;refine' ae;refine' N1;intro b1 o1 cs1 x1 hat1 hx1 he1;obtain ⟨vl1,rfl,hl1⟩:=Qc he1;refine' MZ;refine' zm;refine' J9 (c:=ih _ (EI Ja) Ja Jo Jo hS);rintro v1 w1 ⟨rfl,hS⟩;refine' Um;(exact ⟨⟨j+1,_,zh,zh,Jo,by have:=Ty.size_rng x1 (left:=n) Jo;omega,by have:=Ty.size_rng x1 (left:=n) Jo;omega,by rw [hd,Q1 hx1,Tys.size,if_pos Jo],hS.sp⟩,Qb Jo⟩))
theorem Yf (ht:J7.at cx cs t)(hS:St cx w L):
 JW Tryz.prog QdW [.agg ⟨cs⟩] w fun v w'=>v= .bool t.great∧St cx w' L:=by
 obtain ⟨v,rfl,hl⟩:=Qc ht;refine Kd Kc Tryz.func101 ?_;refine' KO;intro p1 w1 hS;refine' Kg;refine' Nr;refine' J9 (c:=cB t ht Jo Jo hS);rintro v1 w1 ⟨rfl,hS⟩;refine gF rfl rfl ?_;refine' KN;(((refine ⟨_,rfl,?_,hS.sp⟩;(rfl);done)))
theorem oF {l:List Ty}{v:Value}(hl:J7.sl cx v l)(hS:St cx w L):
 JW Tryz.prog zJ [v] w fun u w'=>u= .bool (Tys.great l)∧St cx w' L:=by
 (have hlen:=hl.len;unfold Tys.great;refine Kd Kc Tryz.func58 ?_;refine' NN;refine' zL;first|(refine' QV)|(refine' KM)|(refine' Af<;>intro hc));all_goals (refine' zn)
 all_goals
  first
  | (refine' JZ;refine' Kw;((refine ⟨_,rfl,?_,hS.sp⟩;(rw [decide_eq_true Jo,Hu]);done)))
  | (refine' J0;refine' J5)
 refine' LU;refine LQ hS [0] (fun A LL ρ' w'=>∃(j:Nat),J2 ρ' A∧J2 ρ' [(3, .int .i64 j)]∧(j≤l.length)∧(l.any Ty.great=(l.drop j).any Ty.great)∧St cx w' (LL)) (fun ρ' _=>(l.length - iv (ρ' 3)).toNat) ?_ ?_
 · exact AF
 rintro ρ w1 ⟨j,hA,hρ,hj,hd,hS⟩;obtain ⟨ρ,rfl⟩:=J3 hA hρ;refine' Sk;refine' Ab<;>intro hc
 · skip
   refine' Lj;refine' KL;refine' zi;intro b1 o1 cs1 x1 hat1 hx1 he1;obtain ⟨vl1,rfl,hl1⟩:=Qc he1;refine' MZ;refine' Kv (c:=Yf Ja hS);rintro v1 w1 ⟨rfl,hS⟩;cases hg:x1.great;all_goals (refine' zn)
   all_goals
    first
    | (refine' JZ;refine' Kw;first|(refine ⟨_,rfl,?_,hS.sp⟩;rw [decide_eq_true Jo,Hu];done)|(refine ⟨_,rfl,?_,hS.sp⟩;rw [decide_eq_false Jo,hd,GP,Q1 hx1,HL,hg,Hu];done))
    | (refine' J0;refine' J5)
   refine' LH;(exact ⟨⟨j+1,zh,zh,Jo,by rw [hd,Q1 hx1,HL,hg,GP],hS.sp⟩,Qb Jo⟩)
 · skip;refine' OA;(first|(refine ⟨_,rfl,?_,hS.sp⟩;rw [decide_eq_true Jo,Hu];done)|(refine ⟨_,rfl,?_,hS.sp⟩;rw [decide_eq_false Jo,hd,GP,Q1 hx1,HL,hg,Hu];done)|(refine ⟨_,rfl,?_,hS.sp⟩;rw [decide_eq_false Jo,hd,GP,EP Jo];rfl;done))
theorem cC:∀(t:Ty){cx:Cx}{w:World}{L:List Res}{cs:List Value}{left:Int},J7.at cx cs t→left≤1000000→St cx w L→
 JW Tryz.prog Qfj [.agg ⟨cs⟩, .int .i64 left] w fun v w'=>v= .bool (t.deepB left)∧St cx w' L:=by
 intro t
 induction t using GX with
 | h k r l ih=>
   (intro cx w L cs left ht h1 hS;obtain ⟨v,rfl,hl⟩:=Qc ht;simp only [Ty.kind,Ty.r,Ty.l] at hl ht ⊢;have hlen:=hl.len;rw [Ty.deepB];refine Kd Kc Tryz.func211 ?_;refine' KO;intro p2 w1 hS;refine' PO;first|(refine' K0)|(refine' K1)|(refine' Ae<;>intro hc));all_goals (refine' zn)
   all_goals
    first
    | (refine' JZ;refine' Kw;((refine ⟨_,rfl,?_,hS.sp⟩;(rw [if_pos Jo]);done)))
    | (refine' J0;refine' J5)
   refine' SQ;refine LQ hS [1,10,11] (fun A LL ρ' w'=>∃(j:Nat),J2 ρ' A∧J2 ρ' [(12, .int .i64 j)]∧(j≤l.length)∧(Tys.deepB l (left - 1)=Tys.deepB (l.drop j) (left - 1))∧St cx w' (LL)) (fun ρ' _=>(l.length - iv (ρ' 12)).toNat) ?_ ?_
   · exact AF
   rintro ρ w1 ⟨j,hA,hρ,hj,hd,hS⟩;obtain ⟨ρ,rfl⟩:=J3 hA hρ;refine' Mq;refine' Ab<;>intro hc
   · skip
     refine' Rk;intro b1 o1 cs1 x1 hat1 hx1 he1;obtain ⟨vl1,rfl,hl1⟩:=Qc he1;refine' MI;intro p6 w1 hS;refine Ka hS ?_;intro w1 hS;have hS:=hS.ns;refine' Sp;refine' zm;refine' PL;refine' J9 (c:=ih _ (EI Ja) Ja Jo hS);rintro v1 w1 ⟨rfl,hS⟩;cases hg:x1.deepB (left - 1);all_goals (refine' Oh)
     all_goals
      first
      | (refine' J0;refine' J5)
      | (refine' JZ;refine' Kw;first|(refine ⟨_,rfl,?_,hS.sp⟩;rw [if_pos Jo];done)|(refine ⟨_,rfl,?_,hS.sp⟩;rw [if_neg Jo,hd,Q1 hx1,Tys.deepB,hg,IN];done))
     refine' Og;(exact ⟨⟨j+1,zh,zh,Jo,by rw [hd,Q1 hx1,Tys.deepB,hg,Bool.true_and],hS.sp⟩,Qb Jo⟩)
   · skip;refine' OA;(first|(refine ⟨_,rfl,?_,hS.sp⟩;rw [if_pos Jo];done)|(refine ⟨_,rfl,?_,hS.sp⟩;rw [if_neg Jo,hd,Q1 hx1,Tys.deepB,hg,IN];done)|(refine ⟨_,rfl,?_,hS.sp⟩;rw [if_neg Jo,hd,EP Jo,Tys.deepB];done))
theorem Yg: ∀ (t:Ty){cx:Cx}{w:World}{L:List Res}{cs:List Value}{regs:Int},J7.at cx cs t→St cx w L→
 JW Tryz.prog QcT [.agg ⟨cs⟩, .int .i64 regs] w fun v w'=>v= .int .i64 (t.wrong 8 regs)∧St cx w' L:=by
 intro t
 induction t using GX with
 | h k r l ih =>
   intro cx w L cs regs ht hS;obtain ⟨v,rfl,hl⟩:=Qc ht;simp only [Ty.kind,Ty.r,Ty.l] at hl ht ⊢;have hlen:=hl.len;rw [Ty.wrong];refine Kd Kc Tryz.func212 ?_;refine' KO;intro p2 w1 hS;refine' Kg;refine PM hS [1,2] (fun A LL ρ' w'=>J2 ρ' A∧J2 ρ' []∧(1≤k∧k≤4∧k≠1∧(k≠3→l.length=0)∧l.length≤8)∧St cx w' (LL)) ?_ ?_
   · skip
     (refine' Ni;refine' Si;refine' Ki;first|(refine' Ql)|(refine' Qn)|(refine' Ac<;>intro hc));all_goals (refine' Kg)
     all_goals
      first
      | (refine' JZ
         ((refine' MP;first|(refine' Qy)|(refine' QD)|(refine' Ad<;>intro hc));all_goals (refine' Pv;first|refine' J1|(refine' J4;(first|(refine' QV)|(refine' KM)|(refine' Af<;>intro hc)))));all_goals (refine' KU)
         all_goals
          first
          | (refine' JZ;all_goals (refine' Kw);all_goals (refine ⟨_,rfl,?_,hS.sp⟩;(repeat (first|rw [if_pos Jo]|rw [if_neg Jo]));done))
          | (refine' J0;refine' J5)
         refine' Kw;first|(refine ⟨_,rfl,?_,hS.sp⟩;(repeat (first|rw [if_pos Jo]|rw [if_neg Jo]));done)|(refine ⟨_,rfl,?_,hS.sp⟩;((repeat (first|rw [if_pos Jo]|rw [if_neg Jo]));rw [hd,Q1 hx1,Tys.wrong,if_pos Ja]);done)|(refine ⟨_,rfl,?_,hS.sp⟩;((repeat (first|rw [if_pos Jo]|rw [if_neg Jo]));rw [Ga (l:=l) Jo,Tys.wrong]);done))
      | (refine' J0
         (refine' M3;first|(refine' Ql)|(refine' Qn)|(refine' Ac<;>intro hc));all_goals (refine' Kg)
         all_goals
          first
          | (refine' JZ;refine' J5)
          | (refine' J0;(refine' Lm;first|(refine' Ql)|(refine' Qn)|(refine' Ac<;>intro hc));all_goals (refine' zm);all_goals refine' zn)
         all_goals
          first
          | (refine' JZ
             all_goals (refine' Ni;refine' zL;first|(refine' QV)|(refine' KM)|(refine' Af<;>intro hc));all_goals (refine' zn)
             all_goals
              first
              | (refine' JZ;all_goals (refine' Kw);all_goals (refine ⟨_,rfl,?_,hS.sp⟩;(repeat (first|rw [if_pos Jo]|rw [if_neg Jo]));done))
              | (refine' J0;all_goals refine' J5))
          | (refine' J0
             (refine' Ki;first|(refine' Ql)|(refine' Qn)|(refine' Ac<;>intro hc));all_goals (refine' Kg)
             all_goals
              first
              | (refine' JZ
                 (refine' Ni;refine' zL;first|(refine' QV)|(refine' KM)|(refine' Af<;>intro hc));all_goals (refine' zn)
                 all_goals
                  first
                  | (refine' JZ;refine' Kw;((refine ⟨_,rfl,?_,hS.sp⟩;((repeat (first|rw [if_pos Jo]|rw [if_neg Jo])));done)))
                  | (refine' J0;refine' J5))
              | (refine' J0;refine' Kw;((refine ⟨_,rfl,?_,hS.sp⟩;((repeat (first|rw [if_pos Jo]|rw [if_neg Jo])));done)))))
     all_goals (exact ⟨zh,zh,Jo,hS.sp⟩)
   ((rintro ρ w1 ⟨hA,hρ,hk,hS⟩;obtain ⟨ρ,rfl⟩:=J3 hA hρ;refine' MP;first|(refine' K0)|(refine' K1)|(refine' Ae<;>intro hc));all_goals (refine' LS;refine' Mi;first|refine' J1|(refine' J4;(first|(refine' Ml)|(refine' Mz)|(refine' Ag<;>intro hc)))));all_goals (refine' KU)
   all_goals
    first
    | (refine' JZ;all_goals (refine' Kw);all_goals (refine ⟨_,rfl,?_,hS.sp⟩;(repeat (first|rw [if_pos Jo]|rw [if_neg Jo]));done))
    | (refine' J0;refine' J5)
   refine' SQ;refine LQ hS [1,44,45] (fun A LL ρ' w'=>∃(j:Nat),J2 ρ' A∧J2 ρ' [(46, .int .i64 j)]∧(j≤l.length)∧(Tys.wrong 8 l regs=Tys.wrong 8 (l.drop j) regs)∧St cx w' (LL)) (fun ρ' _=>(l.length - iv (ρ' 46)).toNat) ?_ ?_
   · exact AF
   rintro ρ w1 ⟨j,hA,hρ,hj,hd,hS⟩;obtain ⟨ρ,rfl⟩:=J3 hA hρ;refine' Mq;refine' Ab<;>intro hc
   · skip
     (refine' Rk;intro b1 o1 cs1 x1 hat1 hx1 he1;obtain ⟨vl1,rfl,hl1⟩:=Qc he1;refine' MI;intro p6 w1 hS;refine Ka hS ?_;intro w1 hS;have hS:=hS.ns;refine' Sp;refine' zm;refine' J9 (c:=ih _ (EI Ja) Ja hS);rintro v1 w1 ⟨rfl,hS⟩;refine' LZ;first|(refine' Qy)|(refine' QD)|(refine' Ad<;>intro hc));all_goals (refine' zn)
     all_goals
      first
      | (refine' JZ;refine' O9;first|(refine ⟨_,rfl,?_,hS.sp⟩;(repeat (first|rw [if_pos Jo]|rw [if_neg Jo]));done)|(refine ⟨_,rfl,?_,hS.sp⟩;((repeat (first|rw [if_pos Jo]|rw [if_neg Jo]));rw [hd,Q1 hx1,Tys.wrong,if_pos Ja]);done))
      | (refine' J0;refine' J5)
     refine' Og;(exact CE)
   · skip;refine' OA;(first|(refine ⟨_,rfl,?_,hS.sp⟩;(repeat (first|rw [if_pos Jo]|rw [if_neg Jo]));done)|(refine ⟨_,rfl,?_,hS.sp⟩;((repeat (first|rw [if_pos Jo]|rw [if_neg Jo]));rw [hd,Q1 hx1,Tys.wrong,if_pos Ja]);done)|(refine ⟨_,rfl,?_,hS.sp⟩;((repeat (first|rw [if_pos Jo]|rw [if_neg Jo]));rw [Ga (l:=l) Jo,Tys.wrong]);done)|(refine ⟨_,rfl,?_,hS.sp⟩;((repeat (first|rw [if_pos Jo]|rw [if_neg Jo]));rw [hd,EP Jo,Tys.wrong]);done))
theorem tp (ht:J7.at cx cs t)(hS:St cx w L):
 JW Tryz.prog QcU [.agg ⟨cs⟩, .int .i64 regs] w fun v w'=>v= .int .i64 (t.fault regs)∧St cx w' L:=by
 obtain ⟨v,rfl,hl⟩:=Qc ht;unfold Ty.fault;refine Kd Kc Tryz.func159 ?_;refine' KO;intro p2 w1 hS;refine' Kg;refine' W0;refine' J9 (c:=cC t ht Jo hS);rintro v1 w1 ⟨rfl,hS⟩;cases hg:t.deepB 4;all_goals (refine' Oh)
 all_goals
  first
  | (refine' JZ;refine' Kw;((refine ⟨_,rfl,?_,hS.sp⟩;(rfl);done)))
  | (refine' J0;refine' J5)
 refine' Nr;refine' zm;refine' J9 (c:=Yg t ht hS);rintro v1 w1 ⟨rfl,hS⟩;refine' KN;(refine ⟨_,rfl,?_,hS.sp⟩;(rfl);done)
theorem tq:∀(t:Ty){cx:Cx}{w:World}{L:List Res}{cs:List Value}{most:Int},J7.at cx cs t→0≤most→most≤1000→St cx w L→
 JW Tryz.prog Ux [.agg ⟨cs⟩, .int .i64 most] w fun v w'=>v= .int .i64 (t.depth most)∧St cx w' L:=by
 intro t
 induction t using GX with
 | h k r l ih=>
   intro cx w L cs most ht h0 h1 hS;obtain ⟨v,rfl,hl⟩:=Qc ht;simp only [Ty.kind,Ty.r,Ty.l] at hl ht ⊢;have hlen:=hl.len;rw [Ty.depth];refine Kd Kc Tryz.func152 ?_;refine' KO;intro p2 w1 hS;refine' Kg;refine' LG;refine' LU;refine LQ hS [1,2] (fun A LL ρ' w'=>∃(j:Nat) (n:Int),J2 ρ' A∧J2 ρ' [(5, .int .i64 n),(6, .int .i64 j)]∧(j≤l.length)∧(0≤n)∧(n≤1002)∧(Tys.depth l most 0=Tys.depth (l.drop j) most n)∧St cx w' (LL)) (fun ρ' _=>(l.length - iv (ρ' 6)).toNat) ?_ ?_
   · exact ⟨0,0,zh,zh,Jo,Jo,Jo,by simp,hS.sp⟩
   ((rintro ρ w1 ⟨j,n,hA,hρ,hj,hn0,hn,hd,hS⟩;obtain ⟨ρ,rfl⟩:=J3 hA hρ;refine' Re;refine' zL;first|(refine' K0)|(refine' K1)|(refine' Ae<;>intro hc));all_goals (refine' Ll;refine' Mi;first|refine' J1|(refine' J4;(first|(refine' Z7)|(refine' iq)|(refine XD rfl rfl (fun hc=>?_) (fun hc=>?_))))));all_goals (refine' KU)
   all_goals
    first
    | (refine' J0
       all_goals (refine' Up);all_goals (first|(refine ⟨_,rfl,?_,hS.sp⟩;rw [hd];cases hx:l.drop j with|nil=>exact absurd (Jm.1 hx) Jo|cons y m=>rw [Tys.depth,if_pos Jo,if_pos Jo];done)|(refine ⟨_,rfl,?_,hS.sp⟩;rw [hd,EP Jo,Tys.depth];done)|(refine ⟨_,rfl,?_,hS.sp⟩;rw [hd];cases hx:l.drop j with|nil=>rw [Tys.depth]|cons y m=>rw [Tys.depth,if_neg Jo];done)))
    | (refine' JZ
       (refine' Lj;refine' MN;first|(refine' Ql)|(refine' Qn)|(refine' Ac<;>intro hc));all_goals (refine' zn)
       all_goals
        first
        | (refine' JZ
           refine' Kw;((refine ⟨_,rfl,?_,hS.sp⟩;(rw [hd];cases hx:l.drop j with|nil=>exact absurd (Jm.1 hx) Jo|cons y m=>rw [Tys.depth,if_pos Jo,if_pos Jo]);done)))
        | (refine' J0;refine' J5)
       (refine' Ul;intro b1 o1 cs1 x1 hat1 hx1 he1;obtain ⟨vl1,rfl,hl1⟩:=Qc he1;refine' MZ;refine' zm;refine' PL;have hb:=Ty.depth_rng x1 (most:=most - 1) Jo;refine' J9 (c:=ih _ (EI Ja) Ja Jo Jo hS);rintro v1 w1 ⟨rfl,hS⟩;refine' nT;refine' KL;first|(refine' QV)|(refine' KM)|(refine' Af<;>intro hc));all_goals (refine' zn)
       all_goals
        first
        | (refine' JZ;refine' Oj;refine' zn)
        | (refine' J0;refine' J5)
       all_goals (refine' LH);all_goals (first|(exact ⟨⟨j+1,_,zh,zh,Jo,Jo,Jo,by rw [hd,Q1 hx1,Tys.depth,if_pos Jo,if_neg Jo,if_pos Jo],hS.sp⟩,Qb Jo⟩)|(exact ⟨⟨j+1,_,zh,zh,Jo,Jo,Jo,by rw [hd,Q1 hx1,Tys.depth,if_pos Jo,if_neg Jo,if_neg Jo],hS.sp⟩,Qb Jo⟩)))
theorem UC:∀(t:Ty){cx:Cx}{w:World}{L:List Res}{cs:List Value}{regs:Int},J7.at cx cs t→St cx w L→
 JW Tryz.prog QdQ [.agg ⟨cs⟩, .int .i64 regs] w fun v w'=>v= .int .i64 (t.wrong 8 regs)∧St cx w' L:=by
 intro t
 induction t using GX with
 | h k r l ih=>
   ((intro cx w L cs regs ht hS;obtain ⟨v,rfl,hl⟩:=Qc ht;simp only [Ty.kind,Ty.r,Ty.l] at hl ht ⊢;have hlen:=hl.len;rw [Ty.wrong];refine Kd Kc Tryz.func167 ?_;refine' KO;intro p2 w1 hS;refine' Sj;first|(refine' K0)|(refine' K1)|(refine' Ae<;>intro hc));all_goals (refine' LS;first|refine' J1|(refine' J4;(first|(refine' QV)|(refine' KM)|(refine' Af<;>intro hc)))));all_goals (refine' KU)
   all_goals
    first
    | (refine' JZ;all_goals (refine' Kw);all_goals (refine ⟨_,rfl,?_,hS.sp⟩;(repeat (first|rw [if_pos Jo]|rw [if_neg Jo]));done))
    | (refine' J0;refine' J5)
   refine PM hS [1,2] (fun A LL ρ' w'=>J2 ρ' A∧J2 ρ' []∧(1≤k∧k≤4∧(k=1→r=0)∧(k≠3→l.length=0))∧St cx w' (LL)) ?_ ?_
   · skip
     ((((refine' Ni;first|(refine' Ql)|(refine' Qn)|(refine' Ac<;>intro hc));all_goals (refine' LS;first|refine' J1|(refine' J4;(first|(refine' Qy)|(refine' QD)|(refine' Ad<;>intro hc)))));all_goals (refine' Ms;refine' LS;first|refine' J1|(refine' J4;(first|(refine' Qy)|(refine' QD)|(refine' Ad<;>intro hc)))));all_goals (refine' X9;refine' M0;first|refine' J1|(refine' J4;(first|(refine' QV)|(refine' KM)|(refine' Af<;>intro hc)))));all_goals (refine' ab;refine' KU)
     all_goals
      first
      | (refine' JZ;all_goals (refine' Kw);all_goals (refine ⟨_,rfl,?_,hS.sp⟩;(repeat (first|rw [if_pos Jo]|rw [if_neg Jo]));done))
      | (refine' J0;all_goals refine' J5)
     all_goals (exact ⟨zh,zh,Jo,hS.sp⟩)
   (rintro ρ w1 ⟨hA,hρ,hk,hS⟩;obtain ⟨ρ,rfl⟩:=J3 hA hρ;refine' MP;refine' zL;first|(refine' QV)|(refine' KM)|(refine' Af<;>intro hc));all_goals (refine' zn)
   all_goals
    first
    | (refine' JZ;refine' Kw;((refine ⟨_,rfl,?_,hS.sp⟩;((repeat (first|rw [if_pos Jo]|rw [if_neg Jo])));done)))
    | (refine' J0;refine' J5)
   refine PM hS [1,2] (fun A LL ρ' w'=>J2 ρ' A∧J2 ρ' []∧(l.length≤8)∧(k≠1→0≤r∧r<regs)∧St cx w' (LL)) ?_ ?_
   · skip
     (((refine' Ni;first|(refine' Qy)|(refine' QD)|(refine' Ad<;>intro hc));all_goals (refine' LS;first|refine' J1|(refine' J4;(first|(refine' K0)|(refine' K1)|(refine' Ae<;>intro hc)))));all_goals (refine' X9;refine' Mi;first|refine' J1|(refine' J4;(first|(refine' Ml)|(refine' Mz)|(refine' Ag<;>intro hc)))));all_goals (refine' ab;refine' KU)
     all_goals
      first
      | (refine' JZ;all_goals (refine' Kw);all_goals (refine ⟨_,rfl,?_,hS.sp⟩;(repeat (first|rw [if_pos Jo]|rw [if_neg Jo]));done))
      | (refine' J0;all_goals refine' J5)
     all_goals (exact ⟨zh,zh,Jo,Jo,hS.sp⟩)
   rintro ρ w1 ⟨hA,hρ,hk2,hk3,hS⟩;obtain ⟨ρ,rfl⟩:=J3 hA hρ;refine' LU;refine LQ hS [1,2] (fun A LL ρ' w'=>∃(j:Nat),J2 ρ' A∧J2 ρ' [(5, .int .i64 j)]∧(j≤l.length)∧(Tys.wrong 8 l regs=Tys.wrong 8 (l.drop j) regs)∧St cx w' (LL)) (fun ρ' _=>(l.length - iv (ρ' 5)).toNat) ?_ ?_
   · exact AF
   rintro ρ w1 ⟨j,hA,hρ,hj,hd,hS⟩;obtain ⟨ρ,rfl⟩:=J3 hA hρ;refine' Rh;refine' Ab<;>intro hc
   · skip
     (refine' Lj;refine' Ul;intro b1 o1 cs1 x1 hat1 hx1 he1;obtain ⟨vl1,rfl,hl1⟩:=Qc he1;refine' MZ;refine' zm;refine' J9 (c:=ih _ (EI Ja) Ja hS);rintro v1 w1 ⟨rfl,hS⟩;refine' LZ;first|(refine' Qy)|(refine' QD)|(refine' Ad<;>intro hc));all_goals (refine' zn)
     all_goals
      first
      | (refine' JZ;refine' O9;first|(refine ⟨_,rfl,?_,hS.sp⟩;(repeat (first|rw [if_pos Jo]|rw [if_neg Jo]));done)|(refine ⟨_,rfl,?_,hS.sp⟩;((repeat (first|rw [if_pos Jo]|rw [if_neg Jo]));rw [hd,Q1 hx1,Tys.wrong,if_pos Ja]);done))
      | (refine' J0;refine' J5)
     refine' LH;(exact CE)
   · skip;refine' OA;(first|(refine ⟨_,rfl,?_,hS.sp⟩;(repeat (first|rw [if_pos Jo]|rw [if_neg Jo]));done)|(refine ⟨_,rfl,?_,hS.sp⟩;((repeat (first|rw [if_pos Jo]|rw [if_neg Jo]));rw [hd,Q1 hx1,Tys.wrong,if_pos Ja]);done)|(refine ⟨_,rfl,?_,hS.sp⟩;((repeat (first|rw [if_pos Jo]|rw [if_neg Jo]));rw [hd,EP Jo,Tys.wrong]);done))
theorem Qhi (ht:J7.at cx cs t)(hS:St cx w L):
 JW Tryz.prog QdS [.agg ⟨cs⟩, .int .i64 regs] w fun v w'=>v= .int .i64 (t.fault regs)∧St cx w' L:=by
 (obtain ⟨v,rfl,hl⟩:=Qc ht;have hdp:=Ty.depth_iff t (most:=4) Jo;unfold Ty.fault;refine Kd Kc Tryz.func112 ?_;refine' KO;intro p2 w1 hS;refine' Kg;refine' W0;refine' J9 (c:=tq t ht Jo Jo hS);rintro v1 w1 ⟨rfl,hS⟩;first|(refine' QV)|(refine' KM)|(refine' Af<;>intro hc));all_goals (refine' zn)
 all_goals
  first
  | (refine' JZ;refine' Kw;((refine ⟨_,rfl,?_,hS.sp⟩;(rw [if_pos];cases hg:t.deepB 4<;>simp_all<;>omega);done)))
  | (refine' J0;refine' J5)
 refine Qu ?_;refine' Lm;refine zv hS ?_;refine' zm;refine' J9 (c:=UC t ht hS);rintro v1 w1 ⟨rfl,hS⟩;refine' zm;refine' zn;refine' zr;refine' zf;first|(refine ⟨_,rfl,?_,hS.sp⟩;(rw [if_pos];cases hg:t.deepB 4<;>simp_all<;>omega);done)|(refine ⟨_,rfl,?_,hS.sp⟩;(rw [if_neg];cases hg:t.deepB 4<;>simp_all<;>omega);done)
end Go.Proofs.YteflkifmgnpbhaaGreat
namespace Go.Proofs.YteflkifmgnpbhaaGreat
open Go.Lir
set_option maxRecDepth 100000
theorem kR:NH Tryz.prog 22=some (95,4,80,[(.int .i64 0),(.slice none 0 0),(.slice none 0 0),(.slice none 0 0)]):=by kernel_rfl
theorem RP:∃e2,Tryz.prog.underlying 22=some (.slice e2):=⟨95,by kernel_rfl⟩
theorem UD:NH Tryz.prog 25=some (2,1,8,[(.int .i64 0)]):=by kernel_rfl
theorem aj:∃e2,Tryz.prog.underlying 25=some (.slice e2):=⟨2,by kernel_rfl⟩
theorem Ro:NH Tryz.prog 68=some (3,1,8,[(.int .i64 0)]):=by kernel_rfl
theorem RQ:∃e2,Tryz.prog.underlying 68=some (.slice e2):=⟨3,by kernel_rfl⟩
theorem UE:NH Tryz.prog 85=some (84,8,96,[(.int .i64 0),(.int .i64 0),(.int .i64 0),(.int .i64 0),(.int .i64 0),(.int .i64 0),(.slice none 0 0),(.slice none 0 0)]):=by kernel_rfl
theorem ak:∃e2,Tryz.prog.underlying 85=some (.slice e2):=⟨84,by kernel_rfl⟩
theorem Px:NH Tryz.prog 86=some (115,3,40,[(.int .i64 0),(.int .i64 0),(.slice none 0 0)]):=by kernel_rfl
theorem PZ:∃e2,Tryz.prog.underlying 86=some (.slice e2):=⟨115,by kernel_rfl⟩
theorem kS:NH Tryz.prog 93=some (92,12,208,[(.int .i64 0),(.slice none 0 0),(.slice none 0 0),(.int .i64 0),(.int .i64 0),(.int .i64 0),(.slice none 0 0),(.slice none 0 0),(.int .i64 0),(.slice none 0 0),(.slice none 0 0),(.slice none 0 0)]):=by kernel_rfl
theorem RT:∃e2,Tryz.prog.underlying 93=some (.slice e2):=⟨92,by kernel_rfl⟩
theorem fx:NH Tryz.prog 146=some (4,1,1,[(.bool false)]):=by kernel_rfl
theorem kT:∃e2,Tryz.prog.underlying 146=some (.slice e2):=⟨4,by kernel_rfl⟩
end Go.Proofs.YteflkifmgnpbhaaGreat
namespace Go.Proofs.YteflkifmgnpbhaaGreat
open Go.Lir
attribute [local irreducible] LC.wp Q0 Qh Qd Kq Qz LO.wp Q5 Calls
section
theorem UF {l:List Ty}(hlen:l.length≤100000)(ih:∀x∈l,∀{cx:Cx}{w:World}{L:List Res}{cs:List Value},J7.at cx cs x→St cx w L→JW Tryz.prog tc [.agg ⟨cs⟩] w fun u w'=>∃c' ds,u= .agg ⟨ds⟩∧cx.Le c'∧J7.at c' ds x∧St c' w' L)
 {v:Value}(hl:J7.sl cx v l)(hS:St cx w L):JW Tryz.prog sX [v] w fun u w'=>∃c',cx.Le c'∧J7.sl c' u l∧St c' w' L:=by
 refine Kd Kc Tryz.func59 ?_;refine' LG;refine' LG;refine' LU;refine LQ hS [0] (fun A LL ρ' w'=>∃(c1:Cx) (j:Nat) (u:Value) (css:List (List Value)),J2 ρ' A∧J2 ρ' [(3,u),(4, .int .i64 j)]∧(cx.Le c1)∧(j≤l.length)∧(J7.ls c1 css (l.take j))∧(oneC u=true)∧St c1 w' (sl 115 3 u css::LL)) (fun ρ' _=>(l.length - iv (ρ' 4)).toNat) ?_ ?_
 · exact BV
 rintro ρ w1 ⟨c1,j,u,css,hA,hρ,hle,hj,hls,hu,hS⟩;obtain ⟨ρ,rfl⟩:=J3 hA hρ;have hl:=Hi hl hle;refine' Sk;refine' Ab<;>intro hc
 · skip;refine' Lj;refine' SK;refine' zi;intro b1 o1 cs1 x1 hat1 hx1 he1;obtain ⟨vl1,rfl,hl1⟩:=Qc he1;refine' MZ;refine' Kv (c:=ih _ (EI hx1) he1 hS);rintro v1 w1 ⟨c2,ds,rfl,hle2,hd,hS⟩;obtain ⟨v2,rfl,hv2⟩:=Qc hd;have hls:=I1 hls hle2;refine KY hS [_,_,_] ?_;intro b1 w1 hS;refine za Px PZ hS ?_;intro vp1 w1 css1 hls1 hv1 hS;have hS:=hS.ns;refine' Um;(exact BE)
 · skip;refine' Up;(obtain ⟨c3,hle3,hS,hl3⟩:=FI (r:=J7) (l:=l) (T:=115) (es:=3) (v:=u) (css:=css) (L:=L) hS.sp DJ rfl Jo;exact ⟨_,rfl,c3,hle.trans hle3,hl3,hS⟩)
theorem cD:∀(t:Ty),t.Short→∀{cx:Cx}{w:World}{L:List Res}{cs:List Value},J7.at cx cs t→St cx w L→
 JW Tryz.prog tc [.agg ⟨cs⟩] w fun u w'=>∃c' ds,u= .agg ⟨ds⟩∧cx.Le c'∧J7.at c' ds t∧St c' w' L:=by
 intro t
 induction t using GX with
 | h k r l ih=>
   intro hs cx w L cs ht hS;obtain ⟨v,rfl,hl⟩:=Qc ht;simp only [Ty.kind,Ty.r,Ty.l] at hl ht ⊢;obtain ⟨hlen,hsub⟩:=hs.parts;refine Kd Kc Tryz.func102 ?_;refine' KO;intro p1 w1 hS;refine Qe hS ?_;(intro p2 w1 hS);refine' OQ;refine zC [(0,none),(1,none),(2,none),(3,none),(4,none),(5,none),(6,some (some [1,3])),(7,none),(8,some none)] ?_;have hS:=hS.drew;refine' Rj;refine' Rm;refine' Kv (c:=UF hlen (fun x hx=>ih x hx (hsub x hx)) hl hS);rintro v1 w1 ⟨c1,hle,hl1,hS⟩;obtain ⟨a1,n1,rfl⟩:=EU hl1;refine' MB;refine Od [_,_,_] ?_;refine' LM;((refine Ka hS ?_;intro w1 hS;have hS:=hS.ns));refine' Lc;refine' zr;refine Lw vw (Q4 (n:=3) Jk Jk (hS.blkAt fd) Jr Jr) ?_;((exact ⟨_,rfl,c1,_,rfl,hle,O3 hl1,hS.sp⟩))
theorem tr {l:List Ty}(hlen:l.length≤100000)(ih:∀x∈l,∀{cx:Cx}{w:World}{L:List Res}{cs:List Value},J7.at cx cs x→St cx w L→JW Tryz.prog tn [.agg ⟨cs⟩] w fun u w'=>∃c' ds,u= .agg ⟨ds⟩∧cx.Le c'∧J7.at c' ds x∧St c' w' L)
 {v:Value}(hl:J7.sl cx v l)(hS:St cx w L):JW Tryz.prog td [v] w fun u w'=>∃c',cx.Le c'∧J7.sl c' u l∧St c' w' L:=by
 refine Kd Kc Tryz.func109 ?_;refine' LG;refine' NN;refine' PQ;refine LQ hS [6,7] (fun A LL ρ' w'=>∃(c1:Cx) (j:Nat) (u:Value) (css:List (List Value)),J2 ρ' A∧J2 ρ' [(3,u),(8, .int .i64 j)]∧(cx.Le c1)∧(j≤l.length)∧(J7.ls c1 css (l.take j))∧(oneC u=true)∧St c1 w' (sl 115 3 u css::LL)) (fun ρ' _=>(l.length - iv (ρ' 8)).toNat) ?_ ?_
 · exact BV
 rintro ρ w1 ⟨c1,j,u,css,hA,hρ,hle,hj,hls,hu,hS⟩;obtain ⟨ρ,rfl⟩:=J3 hA hρ;have hl:=Hi hl hle;refine' Mq;refine' Ab<;>intro hc
 · skip;refine' Rk;intro b1 o1 cs1 x1 hat1 hx1 he1;obtain ⟨vl1,rfl,hl1⟩:=Qc he1;refine' MI;intro p5 w1 hS;refine Ka hS ?_;intro w1 hS;have hS:=hS.ns;refine' zn;refine' PU;refine' Kv (c:=ih _ (EI hx1) he1 hS);rintro v1 w1 ⟨c2,ds,rfl,hle2,hd,hS⟩;obtain ⟨v2,rfl,hv2⟩:=Qc hd;have hls:=I1 hls hle2;refine KY hS [_,_,_] ?_;intro b1 w1 hS;refine za Px PZ hS ?_;intro vp1 w1 css1 hls1 hv1 hS;have hS:=hS.ns;refine' Kg;refine' Og;(exact BE)
 · skip;refine' Up;(obtain ⟨c3,hle3,hS,hl3⟩:=FI (r:=J7) (l:=l) (T:=115) (es:=3) (v:=u) (css:=css) (L:=L) hS.sp DJ rfl Jo;exact ⟨_,rfl,c3,hle.trans hle3,hl3,hS⟩)
theorem cE:∀(t:Ty),t.Short→∀{cx:Cx}{w:World}{L:List Res}{cs:List Value},J7.at cx cs t→St cx w L→
 JW Tryz.prog tn [.agg ⟨cs⟩] w fun u w'=>∃c' ds,u= .agg ⟨ds⟩∧cx.Le c'∧J7.at c' ds t∧St c' w' L:=by
 intro t
 induction t using GX with
 | h k r l ih=>
   intro hs cx w L cs ht hS;obtain ⟨v,rfl,hl⟩:=Qc ht;simp only [Ty.kind,Ty.r,Ty.l] at hl ht ⊢;obtain ⟨hlen,hsub⟩:=hs.parts;refine Kd Kc Tryz.func166 ?_;refine' KO;intro p1 w1 hS;refine Qe hS ?_;(intro p2 w1 hS);refine' OR;refine' KK;refine Na [_,_,_] ?_;refine Qe hS ?_;(intro p3 w1 hS);((refine Ka hS ?_;intro w1 hS;have hS:=hS.ns));refine' OR;refine' Kv (c:=tr hlen (fun x hx=>ih x hx (hsub x hx)) hl hS);rintro v1 w1 ⟨c1,hle,hl1,hS⟩;obtain ⟨a1,n1,rfl⟩:=EU hl1;refine' PS;intro w1 hS;have hS:=hS.ns;refine' Sp;((refine Ka hS ?_;intro w1 hS;have hS:=hS.ns));refine' L8;refine Lw vw (Q4 (n:=3) Jk Jk (hS.blkAt fd) Jr Jr) ?_;((exact ⟨_,rfl,c1,_,rfl,hle,O3 hl1,hS.sp⟩))
theorem P0 {l:List Ty}(hlen:l.length≤100000)(hs:∀x∈l,x.Short){v:Value}(hl:J7.sl cx v l)(hS:St cx w L):JW Tryz.prog td [v] w fun u w'=>∃c',cx.Le c'∧J7.sl c' u l∧St c' w' L:=
 tr hlen (fun x hx=>cE x (hs x hx)) hl hS
end
section
theorem tt {l:List Ty}(ih:∀x∈l,∀(y:Ty){cx:Cx}{w:World}{L:List Res}{cs ds:List Value},J7.at cx cs x→J7.at cx ds y→St cx w L→JW Tryz.prog tg [.agg ⟨cs⟩, .agg ⟨ds⟩] w fun u w'=>u= .bool (decide (x=y))∧St cx w' L)
 {m:List Ty}{v:Value}(hl:J7.sl cx v l)(hm:J7.sl cx v2 m)(hS:St cx w L):JW Tryz.prog s7 [v,v2] w fun u w'=>u= .bool (decide (l=m))∧St cx w' L:=by
 (have hlen:=hl.len;refine Kd Kc Tryz.func76 ?_;refine' NN;refine' zL;refine' zm;refine' zL;first|(refine' Qy)|(refine' QD)|(refine' Ad<;>intro hc));all_goals (refine' zn)
 all_goals
  first
  | (refine' JZ;refine' Kw;((refine ⟨_,rfl,?_,hS.sp⟩;(rw [decide_eq_false];exact AJ);done)))
  | (refine' J0;refine' J5)
 refine' LU;refine LQ hS [0,1] (fun A LL ρ' w'=>∃(j:Nat),J2 ρ' A∧J2 ρ' [(5, .int .i64 j)]∧(j≤l.length)∧(l.length=m.length)∧(l=m↔l.drop j=m.drop j)∧St cx w' (LL)) (fun ρ' _=>(l.length - iv (ρ' 5)).toNat) ?_ ?_
 · exact A1
 rintro ρ w1 ⟨j,hA,hρ,hj,hlm,hd,hS⟩;obtain ⟨ρ,rfl⟩:=J3 hA hρ;refine' Sk;refine' Ab<;>intro hc
 · skip
   (refine' PT;refine zD (ci 10 [8,9]) ?_;have hS:=hS.drew;refine' MQ;refine' zi;intro b1 o1 cs1 x1 hat1 hx1 he1;obtain ⟨vl1,rfl,hl1⟩:=Qc he1;refine' MZ;refine' MQ;refine' zi;intro b2 o2 cs2 x2 hat2 hx2 he2;obtain ⟨vl2,rfl,hl2⟩:=Qc he2;refine' MZ;refine' J9 (c:=ih _ (EI hx1) _ he1 he2 hS);rintro v1 w1 ⟨rfl,hS⟩;(cases hdec:decide (x1=x2));have hg:=of_decide_eq_false hdec;rotate_left;have hg:=of_decide_eq_true hdec;all_goals skip);all_goals (refine' Oh)
   all_goals
    first
    | (refine' JZ;refine' Kw;first|(refine ⟨_,rfl,?_,hS.sp⟩;rw [decide_eq_false];exact AJ;done)|(refine ⟨_,rfl,?_,hS.sp⟩;rw [decide_eq_false];rw [hd,Q1 hx1,Q1 hx2];simp [hg];done))
    | (refine' J0;refine' J5)
   refine' LH;(exact CN)
 · skip;refine' OA;(exact Aq)
theorem oG:∀(t u:Ty){cx:Cx}{w:World}{L:List Res}{cs ds:List Value},J7.at cx cs t→J7.at cx ds u→St cx w L→
 JW Tryz.prog tg [.agg ⟨cs⟩, .agg ⟨ds⟩] w fun v w'=>v= .bool (decide (t=u))∧St cx w' L:=by
 intro t
 induction t using GX with
 | h k r l ih=>
   ((rintro ⟨k2,r2,m⟩ cx w L cs ds ht hu hS;obtain ⟨v,rfl,hl⟩:=Qc ht;obtain ⟨v2,rfl,hm⟩:=Qc hu;simp only [Ty.kind,Ty.r,Ty.l,Ty.mk.injEq] at hl hm ht hu ⊢;refine Kd Kc Tryz.func128 ?_;refine' KO;intro p2 w1 hS;refine zb hS ?_;intro p3 w1 hS;refine' W2;refine' KK;first|(refine' Ql)|(refine' Qn)|(refine' Ac<;>intro hc));all_goals (refine' RK;first|refine' J1|(refine' J4;(first|(refine' Ql)|(refine' Qn)|(refine' Ac<;>intro hc)))));all_goals (refine' Sn;(first|refine' J1|(refine' J4;refine' J9 (c:=tt ih hl hm hS);rintro v1 w1 ⟨rfl,hS⟩));refine' Un;refine ⟨_,rfl,?_,hS.sp⟩;(simp [*]);done)
theorem fy {l m:List Ty}{v:Value}(hl:J7.sl cx v l)(hm:J7.sl cx v2 m)(hS:St cx w L):JW Tryz.prog s7 [v,v2] w fun u w'=>u= .bool (decide (l=m))∧St cx w' L:=
 tt (fun x _=>oG x) hl hm hS
theorem UG {l:List Ty}{f:FuncId}(hf:PF Tryz.prog f=true){m:List Ty}{v:Value}
 (hcall:∀x∈l,∀y∈m,∀{w:World}{L:List Res}{cs ds:List Value},J7.at cx cs x→J7.at cx ds y→St cx w L→JW Tryz.prog f [.agg ⟨cs⟩, .agg ⟨ds⟩] w fun u w'=>u= .bool (decide (x=y))∧St cx w' L)
 (hl:J7.sl cx v l)(hm:J7.sl cx v2 m)(hS:St cx w L):JW Tryz.prog Q1F [v,v2, .func (.func f) #[] #[]] w fun u w'=>u= .bool (decide (l=m))∧St cx w' L:=by
 (have hlen:=hl.len;refine Kd Kc Tryz.func162 ?_;refine' NN;refine' zL;refine' zm;refine' zL;first|(refine' Qy)|(refine' QD)|(refine' Ad<;>intro hc));all_goals (refine' zn)
 all_goals
  first
  | (refine' JZ;refine' Kw;((refine ⟨_,rfl,?_,hS.sp⟩;(rw [decide_eq_false];exact AJ);done)))
  | (refine' J0;refine' J5)
 refine' MN;refine' PQ;refine LQ hS [1,2,15,16] (fun A LL ρ' w'=>∃(j:Nat),J2 ρ' A∧J2 ρ' [(17, .int .i64 j)]∧(j≤l.length)∧(l.length=m.length)∧(l=m↔l.drop j=m.drop j)∧St cx w' (LL)) (fun ρ' _=>(l.length - iv (ρ' 17)).toNat) ?_ ?_
 · exact A1
 rintro ρ w1 ⟨j,hA,hρ,hj,hlm,hd,hS⟩;obtain ⟨ρ,rfl⟩:=J3 hA hρ;refine' Mq;refine' Ab<;>intro hc
 · skip
   (refine' Lj;refine' KH;refine' zi;intro b1 o1 cs1 x1 hat1 hx1 he1;obtain ⟨vl1,rfl,hl1⟩:=Qc he1;refine' MI;intro p8 w1 hS;refine' zm;refine Ka hS ?_;intro w1 hS;have hS:=hS.ns;refine' zn;refine' KL;refine' zi;intro b2 o2 cs2 x2 hat2 hx2 he2;obtain ⟨vl2,rfl,hl2⟩:=Qc he2;refine' MI;intro p9 w1 hS;refine Ka hS ?_;intro w1 hS;have hS:=hS.ns;refine' PW;refine zv hS ?_;refine zv hS ?_;refine r9 rfl hf Jr (hcall _ (EI hx1) _ (EI hx2) he1 he2 hS) ?_;rintro v1 w1 ⟨rfl,hS⟩;(cases hdec:decide (x1=x2));have hg:=of_decide_eq_false hdec;rotate_left;have hg:=of_decide_eq_true hdec;all_goals skip);all_goals (refine' Oh)
   all_goals
    first
    | (refine' JZ;refine' Kw;first|(refine ⟨_,rfl,?_,hS.sp⟩;rw [decide_eq_false];exact AJ;done)|(refine ⟨_,rfl,?_,hS.sp⟩;rw [decide_eq_false];rw [hd,Q1 hx1,Q1 hx2];simp [hg];done))
    | (refine' J0;refine' J5)
   refine' Og;(exact CN)
 · skip;refine' OA;(exact Aq)
theorem iG:∀(t u:Ty){cx:Cx}{w:World}{L:List Res}{cs ds:List Value},J7.at cx cs t→J7.at cx ds u→St cx w L→
 JW Tryz.prog Qfk [.agg ⟨cs⟩, .agg ⟨ds⟩] w fun v w'=>v= .bool (decide (t=u))∧St cx w' L:=by
 intro t
 induction t using GX with
 | h k r l ih=>
   ((rintro ⟨k2,r2,m⟩ cx w L cs ds ht hu hS;obtain ⟨v,rfl,hl⟩:=Qc ht;obtain ⟨v2,rfl,hm⟩:=Qc hu;simp only [Ty.kind,Ty.r,Ty.l,Ty.mk.injEq] at hl hm ht hu ⊢;refine Kd Kc Tryz.func163 ?_;refine' KO;intro p2 w1 hS;refine zb hS ?_;intro p3 w1 hS;refine' W2;refine' KK;first|(refine' Ql)|(refine' Qn)|(refine' Ac<;>intro hc));all_goals (refine' RK;first|refine' J1|(refine' J4;(first|(refine' Ql)|(refine' Qn)|(refine' Ac<;>intro hc)))));all_goals (refine' Sn;(first|refine' J1|(refine' J4;refine' K5 (c:=UG Jk (fun x hx y _ {_ _ _ _} h1 h2 h3=>ih x hx y h1 h2 h3) hl hm hS);rintro v1 w1 ⟨rfl,hS⟩));refine' Un;refine ⟨_,rfl,?_,hS.sp⟩;(simp [*]);done)
end
section
theorem iH {m:List Int}{v:Value}(hl:JY.sl cx v l)(hm:JY.sl cx v2 m)(hS:St cx w L):JW Tryz.prog Qgd [v,v2] w fun u w'=>u= .bool (decide (l=m))∧St cx w' L:=by
 (have hlen:=hl.len;refine Kd Kc Tryz.func131 ?_;refine' NN;refine' zL;refine' zm;refine' zL;first|(refine' Qy)|(refine' QD)|(refine' Ad<;>intro hc));all_goals (refine' zn)
 all_goals
  first
  | (refine' JZ;refine' Kw;((refine ⟨_,rfl,?_,hS.sp⟩;(rw [decide_eq_false];exact AJ);done)))
  | (refine' J0;refine' J5)
 refine' LU;refine LQ hS [0,1] (fun A LL ρ' w'=>∃(j:Nat),J2 ρ' A∧J2 ρ' [(5, .int .i64 j)]∧(j≤l.length)∧(l.length=m.length)∧(l=m↔l.drop j=m.drop j)∧St cx w' (LL)) (fun ρ' _=>(l.length - iv (ρ' 5)).toNat) ?_ ?_
 · exact A1
 rintro ρ w1 ⟨j,hA,hρ,hj,hlm,hd,hS⟩;obtain ⟨ρ,rfl⟩:=J3 hA hρ;refine' Sk;refine' Ab<;>intro hc
 · skip
   (refine' PT;refine zD (ci 9 [8]) ?_;have hS:=hS.drew;refine' MQ;refine' zi;intro b1 o1 cs1 x1 hat1 hx1 he1;obtain rfl:=Qs he1;refine' M1;refine' MQ;refine' zi;intro b2 o2 cs2 x2 hat2 hx2 he2;obtain rfl:=Qs he2;refine' M1;first|(refine' Qy)|(refine' QD)|(refine' Ad<;>intro hc));all_goals (refine' zn)
   all_goals
    first
    | (refine' JZ;refine' Kw;first|(refine ⟨_,rfl,?_,hS.sp⟩;rw [decide_eq_false];exact AJ;done)|(refine ⟨_,rfl,?_,hS.sp⟩;rw [decide_eq_false];rw [hd,Q1 hx1,Q1 hx2];simp [*];done))
    | (refine' J0;refine' J5)
   refine' LH;(exact CD)
 · skip;refine' OA;(exact As)
theorem tu {x y:To}(hx:toR.at cx cs x)(hy:toR.at cx ds y)(hS:St cx w L):JW Tryz.prog Uw [.agg ⟨cs⟩, .agg ⟨ds⟩] w fun u w'=>u= .bool (decide (x=y))∧St cx w' L:=by
 ((obtain ⟨n,xr,xa⟩:=x;obtain ⟨n2,yr,ya⟩:=y;obtain ⟨v1,v2,rfl,h1,h2⟩:=SG hx;obtain ⟨v3,v4,rfl,h3,h4⟩:=SG hy;simp only [To.mk.injEq] at*;refine Kd Kc Tryz.func130 ?_;refine' KO;intro p2 w1 hS;refine zb hS ?_;intro p3 w1 hS;refine' W2;refine' KK;first|(refine' Ql)|(refine' Qn)|(refine' Ac<;>intro hc));all_goals (refine' RK;(first|(refine' J1)|(refine' J4;refine' J9 (c:=iH h1 h3 hS);rintro v1 w1 ⟨rfl,hS⟩;(cases hdec:decide (xr=yr));have hg:=of_decide_eq_false hdec;rotate_left;have hg:=of_decide_eq_true hdec;all_goals skip))));all_goals (refine' Sn;(first|(refine' J1)|(refine' J4;refine' J9 (c:=iH h2 h4 hS);rintro v1 w1 ⟨rfl,hS⟩));refine' Un;refine ⟨_,rfl,?_,hS.sp⟩;(simp [*]);done)
theorem Qfy {x y:Ins}(hx:Ky.at cx cs x)(hy:Ky.at cx ds y)(hS:St cx w L):JW Tryz.prog Qj0 [.agg ⟨cs⟩, .agg ⟨ds⟩] w fun u w'=>u= .bool (decide (x=y))∧St cx w' L:=by
 (((((((obtain ⟨n,a,b,c,k,nn,xr,xa⟩:=x;obtain ⟨n2,a2,b2,c2,k2,nn2,yr,ya⟩:=y;obtain ⟨v1,v2,rfl,h1,h2⟩:=Nh hx;obtain ⟨v3,v4,rfl,h3,h4⟩:=Nh hy;simp only [Ins.mk.injEq] at*;refine Kd Kc Tryz.func129 ?_;refine' KO;intro p2 w1 hS;refine zb hS ?_;intro p3 w1 hS;refine' W2;refine' KK;first|(refine' Ql)|(refine' Qn)|(refine' Ac<;>intro hc));all_goals (refine' RK;first|refine' J1|(refine' J4;(first|(refine' Ql)|(refine' Qn)|(refine' Ac<;>intro hc)))));all_goals (refine' Sn;first|refine' J1|(refine' J4;(first|(refine' Ql)|(refine' Qn)|(refine' Ac<;>intro hc)))));all_goals (refine' Sn;first|refine' J1|(refine' J4;(first|(refine' Ql)|(refine' Qn)|(refine' Ac<;>intro hc)))));all_goals (refine' Sn;first|refine' J1|(refine' J4;(first|(refine' Ql)|(refine' Qn)|(refine' Ac<;>intro hc)))));all_goals (refine' Sn;first|refine' J1|(refine' J4;(first|(refine' Ql)|(refine' Qn)|(refine' Ac<;>intro hc)))));all_goals (refine' Sn;(first|(refine' J1)|(refine' J4;refine' J9 (c:=iH h1 h3 hS);rintro v1 w1 ⟨rfl,hS⟩;(cases hdec:decide (xr=yr));have hg:=of_decide_eq_false hdec;rotate_left;have hg:=of_decide_eq_true hdec;all_goals skip))));all_goals (refine' Sn;(first|(refine' J1)|(refine' J4;refine' J9 (c:=iH h2 h4 hS);rintro v1 w1 ⟨rfl,hS⟩));refine' Un;refine ⟨_,rfl,?_,hS.sp⟩;(simp [*]);done)
theorem al (hb:l.length≤1000000){v:Value}(hl:JY.sl cx v l)(hS:St cx w L):JW Tryz.prog Q5m [v] w fun u w'=>∃c',cx.Le c'∧JY.sl c' u l∧St c' w' L:=by
 obtain ⟨a,c,hv⟩:=EU hl
 cases a with
 | none=>
   have hl0:=IX hl hv;subst hl0;subst hv;refine Kd Kc Tryz.func111 ?_;refine' NN;refine kn (e:=3) Jk rfl rfl ?_;refine' zn
   all_goals
    first
    | (refine' JZ;refine' Kw;(exact ⟨_,rfl,cx,Fq hS,FL _ _ _,hS⟩))
   all_goals (refine' Ki; fail "no law for buildSlice"; refine' zm; refine za Ro RQ hS ?_; intro vp1 w1 css1 hls1 hv1 hS; have hS := hS.ns; refine' KN; exact ⟨_, rfl, cx, Fq hS, FL _ _ _, hS⟩)
 | some a=>
   have hn:JY.ls cx [] []:=FY _ _ _;refine Kd Kc Tryz.func111 ?_;refine' NN;refine kn (e:=3) Jk hv rfl ?_;refine' zn;refine' PV;refine' Ki;refine rV Ro ?_;intro v1 w1 hf1 hs1 hz1;have hS:=hS.new (r:=sl 3 1 v1 []) hs1 hf1 (fun b hb=>I2 hb.symm);refine' zm;(first|(refine za Ro RQ hS ?_;intro vp1 w1 css1 hls1 hv1 hS;have hS:=hS.ns)|(refine nQ Ro RQ hS ?_;intro vp1 w1 css1 hls1 hv1 hS;have hS:=hS.ns));refine' KN;(obtain ⟨c3,hle3,hS,hl3⟩:=FI (r:=JY) (l:=l) (T:=3) (es:=1) (L:=L) hS.sp hls1 rfl Jo;exact ⟨_,rfl,c3,hle3,hl3,hS⟩)
theorem kU {x:To}(hb1:x.regs.length≤1000000)(hb2:x.args.length≤1000000)(hx:toR.at cx cs x)(hS:St cx w L):JW Tryz.prog Qg1 [.agg ⟨cs⟩] w fun u w'=>∃c' ds,u= .agg ⟨ds⟩∧cx.Le c'∧toR.at c' ds x∧St c' w' L:=by
 obtain ⟨v1,v2,rfl,h1,h2⟩:=SG hx;refine Kd Kc Tryz.func110 ?_;refine' KO;intro p1 w1 hS;refine Qe hS ?_;(intro p2 w1 hS);refine' OQ;refine zC [(0,none),(1,none),(2,none),(3,none),(5,none),(6,none),(4,some (some [1,6])),(7,some (some [1])),(8,none),(9,some none)] ?_;have hS:=hS.drew;refine' Rj;refine' Rm;refine' Kv (c:=al hb1 h1 hS);rintro v1 w1 ⟨c1,hle,hl1,hS⟩;obtain ⟨a1,n1,rfl⟩:=EU hl1;have h2:=Hi h2 hle;refine' Mu;refine' Kv (c:=al hb2 h2 hS);rintro v1 w1 ⟨c2,hle2,hl2,hS⟩;obtain ⟨a2,n2,rfl⟩:=EU hl2;have hl1:=Hi hl1 hle2;refine' MB;refine Od [_,_,_] ?_;refine' LM;((refine Ka hS ?_;intro w1 hS;have hS:=hS.ns));refine' Lc;refine' zr;refine Lw vw (Q4 (n:=3) Jk Jk (hS.blkAt fd) Jr Jr) ?_;((exact ⟨_,rfl,c2,_,rfl,hle.trans hle2,⟨_,_,rfl,hl1,hl2⟩,hS.sp⟩))
end
end Go.Proofs.YteflkifmgnpbhaaGreat
namespace Go.Lir
section
section
variable {P:Program}{l:List GO}{Q:QT}{ρ:Km}{w:World}{a:List UInt8}
end
end
section
section
variable {α β:Type}
def pick:List Bool→List α→List α
 | k::ks,x::xs=>if k=true then x::pick ks xs else pick ks xs
 | _,_=>[]
theorem oH (f:α→β):∀(ks:List Bool) (xs:List α),pick ks (xs.map f)=(pick ks xs).map f
 | [],_=>rfl
 | _::_,[]=>rfl
 | k::ks,x::xs=>by
   simp only [FM,pick];rw [oH f ks xs];split<;>rfl
theorem aq:∀(ks:List Bool) (xs:List α),(pick ks xs).length≤xs.length
 | [],_=>FB _
 | _::_,[]=>FB _
 | k::ks,x::xs=>by
   have:=aq ks xs;simp only [pick];split<;>simp<;>omega
theorem cF:∀(ks:List Bool) (xs:List α){x:α},x∈pick ks xs→x∈xs
 | [],_,_,h=>by cases h
 | _::_,[],_,h=>by cases h
 | k ::ks,y::xs,x,h=>by
   simp only [pick] at h;split at h
   · rcases ES.1 h with rfl|h
     · exact Fh ..
     · exact E9 _ (cF ks xs h)
   · exact E9 _ (cF ks xs h)
end
def num (ks:List Bool)(k:Nat):Nat:=(ks.take k).countP id
def LA (ks:List Bool):List Nat:=pick ks (List.range ks.length)
section
variable (adj:Nat→List Nat)
def cG (ks:List Bool)(l:List Nat):List Bool:=l.foldl (fun ks j=>ks.set j true) ks
def Sq (ks:List Bool)(b:Nat):List Bool:=if ks.getD b false=true then cG ks (adj b) else ks
def ar (n:Nat)(ks:List Bool):List Bool:=(List.range n).foldl (Sq adj) ks
def Rp (n:Nat):Nat→List Bool→List Bool
 | 0,ks=>ks
 | k+1,ks=>ar adj n (Rp n k ks)
def OS (n:Nat):List Bool:=(List.replicate n false).set 0 true
def Rq (n:Nat):List Bool:=Rp adj n n (OS n)
inductive Come:Nat→Prop where
 | zero:Come 0
 | next {k j:Nat}:Come k→j∈adj k→Come j
end
section
variable {adj:Nat→List Nat}{n:Nat}{ks ks':List Bool}{b j:Nat}
theorem tw:∀(l:List Nat) (ks:List Bool),(cG ks l).length=ks.length
 | [],_=>rfl
 | j::l,ks=>by
   show (cG (ks.set j true) l).length=_;rw [tw l];simp
theorem tx:∀(l:List Nat) (ks:List Bool) (k:Nat),(cG ks l)[k]?=some true↔ks[k]?=some true∨(k∈l∧k<ks.length)
 | [],ks,k=>by simp [cG]
 | j ::l,ks,k=>by
   have h:=tx l (ks.set j true) k;have e:cG ks (j::l)=cG (ks.set j true) l:=rfl;rw [e,h,FD,Fe];by_cases hjk:j=k
   · subst hjk
     by_cases hl:j<ks.length
     · rw [if_pos rfl,if_pos hl];simp [hl]
     · rw [if_pos rfl,if_neg hl];simp [hl]
   · rw [if_neg hjk];simp [G4 hjk]
theorem tz:ks.getD b false=true↔ks[b]?=some true:=by
 rw [EL]
 cases h:ks[b]? with
 | none=>simp
 | some x=>simp
theorem Mv:(Sq adj ks b).length=ks.length:=by
 unfold Sq;split
 · exact tw _ _
 · rfl
theorem fD (k:Nat):(Sq adj ks b)[k]?=some true↔ks[k]?=some true∨(ks[b]?=some true∧k∈adj b∧k<ks.length):=by
 unfold Sq;split
 · next h=>
   rw [tx];rw [tz] at h;simp [h]
 · next h=>
   rw [tz] at h;simp [h]
theorem tA:∀(l:List Nat) (ks:List Bool),(l.foldl (Sq adj) ks).length=ks.length
 | [],_=>rfl
 | b::l,ks=>by rw [G8,tA l,Mv]
theorem OC:(ar adj n ks).length=ks.length:=tA _ _
theorem iI (k:Nat):(Rp adj n k ks).length=ks.length:=by
 induction k with
 | zero=>rfl
 | succ k ih=>rw [Rp,OC,ih]
theorem oI:(OS n).length=n:=by simp [OS]
theorem tB:(Rq adj n).length=n:=by rw [Rq,iI,oI]
theorem kV:∀(l:List Nat) (ks:List Bool){k:Nat},ks[k]?=some true→(l.foldl (Sq adj) ks)[k]?=some true
 | [],_,_,h=>h
 | b::l,ks,k,h=>by rw [G8];exact kV l _ ((fD k).2 (.inl h))
theorem tC:∀(l:List Nat) (ks:List Bool){b k:Nat},b∈l→ks[b]?=some true→k∈adj b→k<ks.length→(l.foldl (Sq adj) ks)[k]?=some true
 | [],_,_,_,h,_,_,_=>by cases h
 | c::l,ks,b,k,hb,h,hk,hl=>by
   rw [G8];rcases ES.1 hb with rfl|hb
   · exact kV l _ ((fD k).2 (.inr ⟨h,hk,hl⟩))
   · exact tC l _ hb ((fD b).2 (.inl h)) hk (by rw [Mv];exact hl)
theorem tD:∀(l:List Nat) (ks:List Bool),(∀k,ks[k]?=some true→Come adj k)→∀k,(l.foldl (Sq adj) ks)[k]?=some true→Come adj k
 | [],_,h=>h
 | b::l,ks,h=>by
   rw [G8];refine tD l _ fun k hk=>?_;rcases (fD k).1 hk with hk|⟨h1,h2,_⟩
   · exact h k hk
   · exact .next (h b h1) h2
def kW (adj:Nat→List Nat)(n:Nat)(ks:List Bool):Prop:=∀b<n,ks[b]?=some true→∀k∈adj b,ks[k]?=some true
def cnt (ks:List Bool):Nat:=ks.countP id
theorem kX:∀(ks ks':List Bool),ks.length=ks'.length→(∀k:Nat,ks[k]?=some true→ks'[k]?=some true)→cnt ks≤cnt ks'∧(cnt ks=cnt ks'→ks=ks')
 | [],[],_,_=>⟨E7 _,fun _=>rfl⟩
 | [],_::_,h,_=>by simp at h
 | _::_,[],h,_=>by simp at h
 | x::ks,y::ks',h,hm=>by
   have ih:=kX ks ks' Dh (fun k hk=>by have:=hm (k+1);simpa using this (by simpa using hk));have h0:=hm 0;simp at h0;unfold cnt at ih ⊢;rw [GY,GY];cases x<;>cases y<;>simp at h0 ⊢
   · exact ih
   · refine ⟨Jo,fun h=>?_⟩;omega
   · exact ih
theorem UH (ha:∀b<n,∀k∈adj b,k<n)(hl:ks.length=n):kW adj n ks∨cnt ks+1≤cnt (ar adj n ks):=by
 have h1:=kX ks (ar adj n ks) OC.symm (fun k hk=>kV _ _ hk);rcases Gc (cnt ks) (cnt (ar adj n ks)) with h|h
 · exact .inr h
 · refine .inl fun b hb hk k hka=>?_;have e:=h1.2 Jo;rw [e];exact tC (List.range n) ks (Fz.2 hb) hk hka (by rw [hl];exact ha b hb k hka)
theorem tE (_hl:ks.length=n)(h:kW adj n ks):ar adj n ks=ks:=by
 unfold ar
 have :∀l:List Nat,(∀b∈l,b<n)→l.foldl (Sq adj) ks=ks:=by
  intro l
  induction l with
  | nil=>intro _;rfl
  | cons b l ih=>
    intro hb
    have e:Sq adj ks b=ks:=by
     have h2:=kX ks (Sq adj ks b) Mv.symm (fun k hk=>(fD k).2 (.inl hk))
     have h3:=kX (Sq adj ks b) ks Mv (fun k hk=>by
      rcases (fD k).1 hk with hk|⟨h4,h5,_⟩
      · exact hk
      · exact h b (hb b (Fh ..)) h4 k h5)
     exact (h2.2 Jo).symm
    rw [G8,e];exact ih fun b hb'=>hb b (E9 _ hb')
 exact this _ fun b hb=>Fz.1 hb
theorem OD (ha:∀b<n,∀k∈adj b,k<n)(hl:ks.length=n)(h0:1≤cnt ks):∀m,kW adj n (Rp adj n m ks)∨m+1≤cnt (Rp adj n m ks)
 | 0=> .inr h0
 | m + 1=>by
   rcases OD ha hl h0 m with h|h
   · refine .inl ?_;rw [Rp,tE (by rw [iI,hl]) h];exact h
   · rcases UH ha (ks:=Rp adj n m ks) (by rw [iI,hl]) with h2|h2
     · refine .inl ?_;rw [Rp,tE (by rw [iI,hl]) h2];exact h2
     · exact .inr (by rw [Rp];omega)
theorem tF (h:∀k:Nat,ks[k]?=some true→Come adj k):∀m k,(Rp adj n m ks)[k]?=some true→Come adj k
 | 0=>h
 | m+1=>tD _ _ (tF h m)
theorem Qdb (m:Nat){k:Nat}(h:ks[k]?=some true):(Rp adj n m ks)[k]?=some true:=by
 induction m with
 | zero=>exact h
 | succ m ih=>exact kV _ _ ih
theorem tG (k:Nat):(OS n)[k]?=some true↔k=0∧0<n:=by
 unfold OS;rw [FD];by_cases hk:0=k
 · subst hk;by_cases hn:0<n<;>simp [hn]
 · rw [if_neg hk];simp [FW,G4 hk]
theorem tH (ha:∀b<n,∀k∈adj b,k<n)(h0:0<n){k:Nat}(h:Come adj k):k<n:=by
 induction h with
 | zero=>exact h0
 | next _ hj ih=>exact ha _ ih _ hj
theorem au (ha:∀b<n,∀k∈adj b,k<n)(h0:0<n)(k:Nat):(Rq adj n)[k]?=some true↔Come adj k:=by
 have hf:(OS n)[0]?=some true:=(tG 0).2 ⟨rfl,h0⟩;constructor
 · exact tF (fun k hk=>by obtain ⟨rfl,_⟩:=(tG k).1 hk;exact .zero) n k
 · have hc:kW adj n (Rq adj n):=by
    rcases OD ha (oI (n:=n)) (by
     unfold cnt;exact JB.2 ⟨true,EI hf,rfl⟩) n with h|h
    · exact h
    · exfalso
      have:cnt (Rp adj n n (OS n))≤n:=by
       have:=Hg (p:=id) (l:=Rp adj n n (OS n));rw [iI,oI] at this;exact this
      omega
   intro h
   induction h with
   | zero=>exact Qdb n hf
   | next hk hj ih=>exact hc _ (tH ha h0 hk) ih _ hj
end
section
variable {adj:Nat→List Nat}{n:Nat}{ks:List Bool}{b j j2:Nat}
end
theorem iJ (ks:List Bool)(k:Nat):k∈LA ks↔ks[k]?=some true:=by
 have : ∀(ks:List Bool) (s:Nat),k∈pick ks (List.range' s ks.length)↔s≤k∧ks[k - s]?=some true:=by
  intro ks
  induction ks with
  | nil=>intro s;simp [pick]
  | cons b ks ih=>
    intro s;have ih:=ih (s+1);rw [ET,Hh];simp only [pick];by_cases hs:s=k
    · subst hs;have:¬s+1≤s:=Dc;cases b<;>simp [ih,this]
    · by_cases hlt:s≤k
      · obtain ⟨d,rfl⟩:∃d,k=s+(d+1):=⟨k - s - 1,Jo⟩;have e1:s+(d+1) - s=d+1:=Dc;have e2:s+(d+1) - (s+1)=d:=Dc;rw [e1];rw [e2] at ih;have h3:s+1≤s+(d+1):=Dc;have h4:¬(s+(d+1)=s):=Dc;cases b<;>simp [ih]
      · have h3:¬s+1≤k:=Dc;cases b<;>simp [ih,hlt,h3,G4 hs]
 have h:=this ks 0;rw [LA,Gr]
 simpa using h
theorem oJ (ks:List Bool):(LA ks).Pairwise (· < ·):=by
 have :∀(ks:List Bool) (s:Nat),(pick ks (List.range' s ks.length)).Pairwise (· < ·):=by
  intro ks
  induction ks with
  | nil=>intro s;simp [pick]
  | cons b ks ih=>
    intro s;rw [ET,Hh];simp only [pick];split
    · refine List.Pairwise.cons (fun k hk=>?_) (ih (s+1));have:=cF _ _ hk;rw [List.mem_range'] at this;omega
    · exact ih (s+1)
 rw [LA,Gr];exact this ks 0
theorem tI:∀{l l':List Nat},l.Pairwise (· < ·)→l'.Pairwise (· < ·)→(∀k,k∈l↔k∈l')→l=l'
 | [],[],_,_,_=>rfl
 | [],a::l',_,_,h=>by have:=(h a).2 (Fh ..);cases this
 | a::l,[],_,_,h=>by have:=(h a).1 (Fh ..);cases this
 | a ::l,b::l',h1,h2,h=>by
   obtain ⟨h1a,g1⟩:=JE.1 h1;obtain ⟨h2a,g2⟩:=JE.1 h2
   have e:a=b:=by
    rcases ES.1 ((h a).1 (Fh ..)) with e|e
    · exact e
    · rcases ES.1 ((h b).2 (Fh ..)) with e2|e2
      · exact e2.symm
      · have:=h1a b e2;have:=h2a a e;omega
   subst e;refine congrArg (a::·) (tI g1 g2 fun k=>?_);have:=h k;constructor
   · intro hk
     rcases ES.1 (this.1 (E9 _ hk)) with e|e
     · subst e;have:=h1a _ hk;omega
     · exact e
   · intro hk
     rcases ES.1 (this.2 (E9 _ hk)) with e|e
     · subst e;have:=h2a _ hk;omega
     · exact e
theorem oK (ks:List Bool){k:Nat}(h:ks[k]?=some true):(LA ks)[num ks k]?=some k:=by
 have :∀(ks:List Bool) (s k:Nat),ks[k]?=some true→(pick ks (List.range' s ks.length))[(ks.take k).countP id]?=some (s+k):=by
  intro ks
  induction ks with
  | nil=>intro s k h;simp at h
  | cons b ks ih=>
    intro s k h;rw [ET,Hh]
    cases k with
    | zero=>simp at h;subst h;simp [pick]
    | succ k=>
      have ih:=ih (s+1) k Dh;rw [show s+1+k=s+(k+1) by omega] at ih;cases b<;>simp [pick,ih]
 have h2:=this ks 0 k h;rw [LA,Gr,num];simpa using h2
def W9:Nat→List Int→Int→Int
 | _,[],_=> -1
 | j,y::l,x=>if x=y then (j:Int) else W9 (j+1) l x
theorem tJ:∀{l:List Int}{j p:Nat}{x:Int},l[p]?=some x→(∀q<p,l[q]?≠some x)→W9 j l x=((j+p:Nat):Int)
 | [],_,_,_,h,_=>by simp at h
 | y::l,j,0,x,h,_=>by simp at h;subst h;rw [W9,if_pos rfl];rfl
 | y::l,j,p+1,x,h,hn=>by
   have h0:¬x=y:=fun e=>hn 0 Jo (by rw [e];rfl);rw [W9,if_neg h0,tJ (l:=l) (p:=p) Dh fun q hq=>by have:=hn (q+1) Jo;simpa using this];omega
theorem oL {k:Nat}(h:ks[k]?=some true):W9 0 ((LA ks).map fun k:Nat=>(k:Int)) k=(num ks k:Int):=by
 have h1:=oK ks h;rw [tJ (p:=num ks k) (by rw [EN,h1];rfl) fun q hq e=>?_]
 · omega
 · rw [EN] at e;have hlt:=(EJ.1 h1).1;have hs:=HI.1 (oJ ks) q (num ks k) Jo hlt hq;rw [EH Jo] at e;have h2:=(EJ.1 h1).2;have e:((LA ks)[q]:Int)=(k:Int):=(by simpa using e);omega
theorem UI {b:Bool}(h:ks[i]?=some b):num ks (i+1)=num ks i+(if b=true then 1 else 0):=by
 unfold num;rw [GS,h,HC];cases b<;>rfl
theorem tK {α:Type}:∀(ks:List Bool) (l:List α) (s j k:Nat),ks.length=l.length→(pick ks (List.range' s ks.length))[j]?=some k→s≤k∧(pick ks l)[j]?=l[k - s]?
 | [],_,_,_,_,_,h=>by simp [pick] at h
 | _::_,[],_,_,_,hl,_=>by simp at hl
 | b ::ks,x::l,s,j,k,hl,h=>by
   have ih:=fun j=>tK ks l (s+1) j k (by simpa using hl);rw [ET,Hh] at h
   cases b with
   | false=>
     simp only [pick,EX,if_false] at h ⊢;obtain ⟨h1,h2⟩:=ih j h;refine ⟨Jo,?_⟩;rw [h2,show k - s=(k - (s+1))+1 by omega];rfl
   | true=>
     simp only [pick,if_true] at h ⊢
     cases j with
     | zero=>simp at h;subst h;simp
     | succ j=>
       obtain ⟨h1,h2⟩:=ih j Dh;refine ⟨Jo,?_⟩;rw [FV,h2,show k - s=(k - (s+1))+1 by omega];rfl
theorem kY {l:List α}{j k:Nat}(hl:ks.length=l.length)(h:(LA ks)[j]?=some k):(pick ks l)[j]?=l[k]?:=by
 rw [LA,Gr] at h;have:=(tK ks l 0 j k hl h).2
 simpa using this
theorem tL {α β:Type}:∀(ks:List Bool) (l:List α) (m:List β),l.length=m.length→(pick ks l).length=(pick ks m).length
 | [],_,_,_=>rfl
 | _::_,[],[],_=>rfl
 | _::_,[],_::_,h=>by simp at h
 | _::_,_::_,[],h=>by simp at h
 | k::ks,x::l,y::m,h=>by
   have ih:=tL ks l m Dh;simp only [pick];split<;>simp [ih]
theorem oM {l:List α}(hl:ks.length=l.length):(LA ks).length=(pick ks l).length:=tL _ _ _ (by rw [Ha,hl])
end
section
def Ns (l:List Int)(n j:Nat):Prop:=∀(p q:Nat) (x y:Int),p<q→q<n→q≠j→l[p]?=some x→l[q]?=some y→x≤y
section
variable {l:List Int}{i j n:Nat}{x y:Int}
theorem Ns.one:Ns l 1 1:=fun p q _ _ h1 h2=>by omega
theorem Ns.nil:Ns l 0 0:=fun p q _ _ h1 h2=>by omega
theorem Ns.begin (h:Ns l i i):Ns l (i+1) i:=fun p q x y h1 h2 h3 h4 h5=>h p q x y h1 Jo h3 h4 h5
theorem Ns.top (h:Ns l (i+1) 0):Ns l (i+1) (i+1):=fun p q x y h1 h2 _ h4 h5=>h p q x y h1 h2 Jo h4 h5
theorem Ns.stop (h:Ns l (i+1) j)(h0:0<j)(hx:l[j - 1]?=some x)(hy:l[j]?=some y)(hle:x≤y):Ns l (i+1) (i+1):=by
 intro p q a b h1 h2 _ h4 h5;by_cases hq:q=j
 · subst hq
   rw [hy] at h5;cases h5;by_cases hp:p=q - 1
   · subst hp;rw [hx] at h4;cases h4;exact hle
   · have:=h p (q - 1) a x Jo Jo Jo h4 hx;omega
 · exact h p q a b h1 h2 hq h4 h5
theorem fE (hx:l[j - 1]?=some x)(hy:l[j]?=some y)(h0:0<j)(p:Nat):((l.set j x).set (j - 1) y)[p]?=if p=j - 1 then some y else if p=j then some x else l[p]?:=by
 have h1:=(EJ.1 hx).1;have h2:=(EJ.1 hy).1;rw [FD,FD,Fe];by_cases hp:p=j - 1
 · subst hp;rw [if_pos rfl,if_pos h1,if_pos rfl]
 · rw [if_neg (G4 hp),if_neg hp]
   by_cases hp2:p=j
   · subst hp2;rw [if_pos rfl,if_pos h2,if_pos rfl]
   · rw [if_neg (G4 hp2),if_neg hp2]
theorem Ns.swap (h:Ns l (i+1) j)(h0:0<j)(hj:j≤i)(hx:l[j - 1]?=some x)(hy:l[j]?=some y)(hlt:y<x):Ns ((l.set j x).set (j - 1) y) (i+1) (j - 1):=by
 intro p q a b h1 h2 h3 h4 h5;rw [fE hx hy h0] at h4 h5;rw [if_neg h3] at h5;by_cases hq:q=j
 · rw [if_pos hq] at h5;cases h5
   by_cases hp:p=j - 1
   · rw [if_pos hp] at h4;cases h4;omega
   · rw [if_neg hp,if_neg Jo] at h4;exact h p (j - 1) a x Jo Jo Jo h4 hx
 · rw [if_neg hq] at h5
   by_cases hp:p=j - 1
   · rw [if_pos hp] at h4;cases h4;exact h j q y b Jo h2 hq hy h5
   · rw [if_neg hp] at h4
     by_cases hp2:p=j
     · rw [if_pos hp2] at h4;cases h4;exact h (j - 1) q x b Jo h2 hq hx h5
     · rw [if_neg hp2] at h4;exact h p q a b h1 h2 hq h4 h5
theorem UJ (hx:l[j - 1]?=some x)(hy:l[j]?=some y)(h0:0<j)(z:Int):z∈(l.set j x).set (j - 1) y↔z∈l:=by
 rw [Fj,Fj];constructor
 · rintro ⟨p,hp⟩
   rw [fE hx hy h0] at hp;split at hp
   · exact ⟨j,by rw [hy];exact hp⟩
   · split at hp
     · exact ⟨j - 1,by rw [hx];exact hp⟩
     · exact ⟨p,hp⟩
 · rintro ⟨p,hp⟩
   by_cases h1:p=j
   · subst h1;exact ⟨p - 1,by rw [fE hx hy h0,if_pos rfl,←hy];exact hp⟩
   · by_cases h2:p=j - 1
     · subst h2;exact ⟨j,by rw [fE hx hy h0,if_neg Jo,if_pos rfl,←hx];exact hp⟩
     · exact ⟨p,by rw [fE hx hy h0,if_neg h2,if_neg h1];exact hp⟩
def OT (l:List Int):Prop:=∀(p q:Nat) (x:Int),l[p]?=some x→l[q]?=some x→p=q
theorem OT.swap (h:OT l)(h0:0<j)(hx:l[j - 1]?=some x)(hy:l[j]?=some y):OT ((l.set j x).set (j - 1) y):=by
 have key:∀(p:Nat) (a:Int),((l.set j x).set (j - 1) y)[p]?=some a→l[if p=j - 1 then j else if p=j then j - 1 else p]?=some a:=by
  intro p a ha;rw [fE hx hy h0] at ha;split at ha
  · next e=>rw [if_pos e,hy];exact ha
  · next e=>
    rw [if_neg e];split at ha
    · next e2=>rw [if_pos e2,hx];exact ha
    · next e2=>rw [if_neg e2];exact ha
 intro p q a hp hq;have:=h _ _ a (key p a hp) (key q a hq);split at this<;>split at this<;>(try split at this)<;>(try split at this)<;>omega
theorem OT.push (h:OT l)(hx:x∉l):OT (l++[x]):=by
 intro p q a hp hq
 have key:∀(p:Nat),(l++[x])[p]?=some a→l[p]?=some a∨(p=l.length∧a=x):=by
  intro p hp;rcases Gc p l.length with h|h
  · rw [ER h] at hp;exact .inl hp
  · rw [EV h] at hp;have:=(EJ.1 hp).1;simp at this;obtain rfl:p=l.length:=Dc;rw [Gl] at hp;simp at hp;exact .inr ⟨rfl,hp.symm⟩
 rcases key p hp with h1|⟨rfl,rfl⟩<;>rcases key q hq with h2|⟨rfl,h2⟩
 · exact h p q a h1 h2
 · subst h2;exact absurd (EI h1) hx
 · exact absurd (EI h2) hx
 · rfl
theorem Qd2 (h:Ns l l.length l.length)(hd:OT l)(hm:∀z:Int,z∈l↔∃k:Nat,z=(k:Int)∧ks[k]?=some true):l=(LA ks).map fun k:Nat=>(k:Int):=by
 have h1:(l.map Int.toNat).Pairwise (· < ·):=by
  (rw [Ip,HI];intro p q hp hq hpq;have e1:=EH hp;have e2:=EH hq;have h3:=h p q _ _ hpq hq Jo e1 e2;obtain ⟨k1,h4,_⟩:=(hm l[p]).1 (Gk hp);obtain ⟨k2,h5,_⟩:=(hm l[q]).1 (Gk hq);have:l[p]≠l[q]:=fun e=>by rw [e] at e1;have:=hd _ _ _ e1 e2;omega);omega
 have h2:=tI h1 (oJ ks) fun k=>by
  rw [iJ,Fc];constructor
  · rintro ⟨z,hz,rfl⟩;obtain ⟨k,rfl,hk⟩:=(hm z).1 hz;exact hk
  · intro hk;exact ⟨k,(hm k).2 ⟨k,rfl,hk⟩,rfl⟩
 rw [←h2,Gn];apply Gg;intro p;rw [EN]
 cases e:l[p]? with
 | none=>rfl
 | some z=>
   obtain ⟨k,rfl,_⟩:=(hm z).1 (EI e);rfl
end
structure WI (adj:Nat→List Nat) (n:Nat) (seen:List Bool) (todo out:List Int):Prop where
 len:seen.length=n
 outs:∀z:Int,z∈out↔∃k:Nat,z=(k:Int)∧seen[k]?=some true
 dif:OT out
 few:out.length=cnt seen
 todos:∀z∈todo,∃k:Nat,z=(k:Int)∧Come adj k
 come:∀k,seen[k]?=some true→Come adj k
 zero:seen[0]?=some true∨(0:Int)∈todo
 next:∀k,seen[k]?=some true→∀j∈adj k,seen[j]?=some true∨(j:Int)∈todo
section
variable {adj:Nat→List Nat}{n k:Nat}{seen:List Bool}{t out:List Int}{z:Int}
theorem Yh {k j:Nat}(hk:k<seen.length):(seen.set k true)[j]?=some true↔seen[j]?=some true∨j=k:=by
 rw [FD];by_cases h:k=j
 · subst h;rw [if_pos rfl,if_pos hk];simp
 · rw [if_neg h];simp [G4 h]
theorem tM:∀{l:List Bool}{k:Nat},l[k]?=some false→cnt (l.set k true)=cnt l+1
 | [],_,h=>by simp at h
 | b::l,0,h=>by simp at h;subst h;simp [cnt]
 | b::l,k+1,h=>by
   have:=tM (l:=l) (k:=k) Dh;unfold cnt at this ⊢;rw [Fg,GY,GY,this];omega
theorem WI.begin (_h0:0<n):WI adj n (List.replicate n false) [0] []:=by
 refine ⟨by simp,fun z=>?_,fun p q x hp=>by simp at hp,?_,fun z hz=>?_,fun k hk=>?_, .inr (Fp.2 rfl),fun k hk=>?_⟩
 · simp [FW]
 · unfold cnt;simp [List.countP_replicate]
 · rw [Fp] at hz;exact ⟨0,hz, .zero⟩
 · simp [FW] at hk
 · simp [FW] at hk
theorem WI.skip (h:WI adj n seen ((k:Int)::t) out)(hk:seen[k]?=some true):WI adj n seen t out:=by
 refine ⟨h.len,h.outs,h.dif,h.few,fun z hz=>h.todos z (E9 _ hz),h.come,?_,fun j hj i hi=>?_⟩
 · rcases h.zero with h0|h0
   · exact .inl h0
   · rcases ES.1 h0 with h0|h0
     · obtain rfl:k=0:=Dc;exact .inl hk
     · exact .inr h0
 · rcases h.next j hj i hi with h0|h0
   · exact .inl h0
   · rcases ES.1 h0 with h0|h0
     · obtain rfl:i=k:=Dc;exact .inl hk
     · exact .inr h0
theorem WI.take (h:WI adj n seen ((k:Int)::t) out)(hk:seen[k]?=some false):WI adj n (seen.set k true) (t++(adj k).map fun j:Nat=>(j:Int)) (out++[(k:Int)]):=by
 have hlt:=(EJ.1 hk).1;obtain ⟨k',hk',hc⟩:=h.todos k (Fh ..);obtain rfl:k=k':=Dc;refine ⟨by rw [Fe,h.len],fun z=>?_,h.dif.push fun hm=>?_,?_,fun z hz=>?_,fun j hj=>?_,?_,fun j hj i hi=>?_⟩
 · rw [E3,Fp,h.outs]
   constructor
   · rintro (⟨j,rfl,hj⟩|rfl)
     · exact ⟨j,rfl,(Yh hlt).2 (.inl hj)⟩
     · exact ⟨k,rfl,(Yh hlt).2 (.inr rfl)⟩
   · rintro ⟨j,rfl,hj⟩
     rcases (Yh hlt).1 hj with hj|rfl
     · exact .inl ⟨j,rfl,hj⟩
     · exact .inr rfl
 · obtain ⟨j,e,hj⟩:=(h.outs _).1 hm;obtain rfl:k=j:=Dc;rw [hk] at hj;cases hj
 · rw [EM,h.few,tM hk];rfl
 · rcases E3.1 hz with hz|hz
   · exact h.todos z (E9 _ hz)
   · obtain ⟨j,hj,rfl⟩:=Fc.1 hz;exact ⟨j,rfl, .next hc hj⟩
 · rcases (Yh hlt).1 hj with hj|rfl
   · exact h.come j hj
   · exact hc
 · rcases h.zero with h0|h0
   · exact .inl ((Yh hlt).2 (.inl h0))
   · rcases ES.1 h0 with h0|h0
     · exact .inl ((Yh hlt).2 (.inr Jo))
     · exact .inr (E3.2 (.inl h0))
 · rcases (Yh hlt).1 hj with hj|rfl
   · rcases h.next j hj i hi with h0|h0
     · exact .inl ((Yh hlt).2 (.inl h0))
     · rcases ES.1 h0 with h0|h0
       · exact .inl ((Yh hlt).2 (.inr Jo))
       · exact .inr (E3.2 (.inl h0))
   · exact .inr (E3.2 (.inr (Fc.2 ⟨i,hi,rfl⟩)))
theorem WI.le (h:WI adj n seen t out):out.length≤n:=by
 rw [h.few,←h.len];exact Hg
theorem WI.head (h:WI adj n seen (z::t) out)(ha:∀b<n,∀k∈adj b,k<n)(h0:0<n):∃k:Nat,z=(k:Int)∧k<n∧k<seen.length:=by
 obtain ⟨k,hk,hc⟩:=h.todos z (Fh ..);have:=tH ha h0 hc;exact ⟨k,hk,this,by rw [h.len];exact this⟩
theorem WI.done (h:WI adj n seen [] out)(ha:∀b<n,∀k∈adj b,k<n)(h0:0<n)(z:Int):z∈out↔∃k:Nat,z=(k:Int)∧(Rq adj n)[k]?=some true:=by
 rw [h.outs]
 have key : ∀k,seen[k]?=some true↔Come adj k:=fun k=>by
  refine ⟨h.come k,fun hc=>?_⟩
  induction hc with
  | zero => rcases h.zero with h|h
            · exact h
            · cases h
  | next _ hj ih => rcases h.next _ ih _ hj with h|h
                    · exact h
                    · cases h
 constructor
 · rintro ⟨k,rfl,hk⟩;exact ⟨k,rfl,(au ha h0 k).2 ((key k).1 hk)⟩
 · rintro ⟨k,rfl,hk⟩;exact ⟨k,rfl,(key k).2 ((au ha h0 k).1 hk)⟩
theorem WI.sorted (h:WI adj n seen [] out)(ha:∀b<n,∀k∈adj b,k<n)(h0:0<n)(ho:Ns l l.length l.length)(hd:OT l)(hm:∀z,z∈l↔z∈out):l=(LA (Rq adj n)).map fun k:Nat=>(k:Int):=
 Qd2 ho hd fun z=>(hm z).trans (h.done ha h0 z)
end
end
section
variable {P:Program}{l:List GO}{Q:QT}{ρ:Km}{w:World}
theorem Yi {d:Nat}{x i:Operand}{s:ByteArray}{k:IntKind}{n:Int}(hx:ρ.ev x= .string s)(hi:ρ.ev i= .int k n)(h0:0≤n)(hn:n.toNat<s.size)(h:∀b:UInt8,b.toNat<256→Q0 P l Q (upd ρ d (.int .u8 b.toNat)) w):Q0 P (⟨none, .sidx d x i⟩::l) Q ρ w:=
 bo hx hi h0 (getElem?_pos s _ hn) (h _ (UInt8.toNat_lt _))
end
end Go.Lir
namespace Go.Proofs.YteflkifmgnpbhaaGreat
open Go.Lir
attribute [local irreducible] LC.wp Q0 Qh Qd Kq Qz LO.wp Q5 Calls
variable {cx:Cx}{w:World}{L:List Res}
theorem oN {x:Int}{v:Value}(hl:JY.sl cx v l)(hn:l.length≤1000000)(hS:St cx w L):JW Tryz.prog s9 [v, .int .i64 x] w fun u w'=>u= .int .i64 (W9 0 l x)∧St cx w' L:=by
 ((all_goals refine Kd Kc Tryz.func89 ?_);all_goals (refine' NN;refine' PQ));refine LQ hS [0,1,7] (fun A LL ρ' w'=>∃(j:Nat),J2 ρ' A∧J2 ρ' [(8, .int .i64 j)]∧(j≤l.length)∧(W9 0 l x=W9 j (l.drop j) x)∧St cx w' (LL)) (fun ρ' _=>(l.length - iv (ρ' 8)).toNat) ?_ ?_
 · exact ⟨0,zh,zh,Jo,rfl,hS.sp⟩
 (rintro ρ w1 ⟨j,hA,hρ,hj,hd,hS⟩;obtain ⟨ρ,rfl⟩:=J3 hA hρ;all_goals (refine' Mq));refine' Ab<;>intro hc
 · skip
   (all_goals (refine' Lj;refine' Nd;refine' KL;refine' N1;intro b1 o1 cs1 x1 hat1 hx1 he1;obtain rfl:=Qs he1;refine' M1);all_goals (first|(refine' Ql)|(refine' Qn)|(refine' Ac<;>intro hc)));all_goals (refine' zn;rw [Q1 hx1,W9] at hd)
   all_goals
    first
    | (refine' JZ;all_goals (refine' O9);all_goals (refine ⟨_,rfl,?_,hS.sp⟩;rw [hd,if_pos Jo];done))
    | (refine' J0;all_goals refine' J5)
   all_goals (refine' Og;exact ⟨⟨j+1,zh,zh,Jo,by rw [hd,if_neg Jo],hS.sp⟩,Qb Jo⟩)
 · skip;all_goals (refine' OA;(first|(refine ⟨_,rfl,?_,hS.sp⟩;rw [hd,if_pos Jo];done)|(refine ⟨_,rfl,?_,hS.sp⟩;rw [hd,EP Jo,W9];done)))
theorem Yj (x:Int)(hS:St cx w L):JW Tryz.prog Qb9 [.int .i64 x] w fun u w'=>u= .bool false∧St cx w' L:=by
 (((all_goals refine Kd Kc Tryz.func260 ?_);all_goals (refine' LG;refine' KL));all_goals (refine' WY));all_goals (refine' KN;refine ⟨_,rfl,?_,hS.sp⟩;(simp);done)
theorem cH (x y:Int)(hS:St cx w L):JW Tryz.prog Qct [.int .i64 x, .int .i64 y] w fun u w'=>u= .bool (decide (x<y))∧St cx w' L:=by
 (((all_goals refine Kd Kc Tryz.func232 ?_);all_goals (refine' Oi;refine' Kv (c:=Yj _ hS);rintro v1 w1 ⟨rfl,hS⟩;refine' zm;refine' fp;refine' J1;refine' Pw;refine' Mi));all_goals (first|refine' J1|(refine' J4;(first|(refine' K0)|(refine' K1)|(refine' Ae<;>intro hc)))));all_goals (refine' Un;(first|(refine ⟨_,rfl,?_,hS.sp⟩;rw [decide_eq_true hc];done)|(refine ⟨_,rfl,?_,hS.sp⟩;rw [decide_eq_false hc];done)))
theorem UK {v:Value}(hn:l.length≤1000000)(hS:St cx w (sl 3 1 v (l.map KQ)::L)):
 JW Tryz.prog Q2R [v, .int .i64 0, .int .i64 l.length] w fun _ w'=>∃l',Ns l' l'.length l'.length∧(OT l→OT l')∧(∀z,z∈l'↔z∈l)∧l'.length=l.length∧St cx w' (sl 3 1 v (l'.map KQ)::L):=by
 ((all_goals refine Kd Kc Tryz.func226 ?_);all_goals (refine' KH;refine' Nq;refine' NY));refine zo [0,1,2] (fun A ρ' w'=>∃(i:Nat) (l1:List Int),J2 ρ' A∧J2 ρ' [(6, .int .i64 i)]∧(1≤i)∧(i≤l.length∨i=1)∧(l1.length=l.length)∧(i≤l.length→Ns l1 i i)∧(OT l→OT l1)∧(∀z,z∈l1↔z∈l)∧St cx w' (sl 3 1 v (l1.map KQ)::L)) (fun ρ' _=>(l.length - iv (ρ' 6)).toNat) ?_ ?_
 · exact ⟨1,l,zh,zh,Jo,Jo,rfl,(fun _=>Ns.one),id,(fun _=>GV),hS.sp⟩
 (rintro ρ w1 ⟨i,l1,hA,hρ,hj,hile,hl1,ho,hd,hm,hS⟩;obtain ⟨ρ,rfl⟩:=J3 hA hρ;all_goals (refine' O8;refine' PN));refine' Ab<;>intro hc
 · skip
   (all_goals (refine' Lj;refine' KH;refine' NY));refine zo [0,1,2,6] (fun A ρ' w'=>∃(j:Nat) (l2:List Int),J2 ρ' A∧J2 ρ' [(7, .int .i64 j)]∧(j≤i)∧(l2.length=l.length)∧(Ns l2 (i+1) j)∧(OT l→OT l2)∧(∀z,z∈l2↔z∈l)∧St cx w' (sl 3 1 v (l2.map KQ)::L)) (fun ρ' _=>(iv (ρ' 7)).toNat) ?_ ?_
   · exact ⟨i,l1,zh,zh,Jo,hl1,Ns.begin (ho Jo),hd,hm,hS.sp⟩
   ((((rintro ρ w1 ⟨j,l2,hA,hρ,hji,hl2,ho2,hd2,hm2,hS⟩;obtain ⟨ρ,rfl⟩:=J3 hA hρ;obtain ⟨xa,hxa⟩:∃x,l2[j]?=some x:=⟨_,EH Jo⟩;obtain ⟨xb,hxb⟩:∃x,l2[j - 1]?=some x:=⟨_,EH Jo⟩;all_goals (refine' Mt;refine zD (ci 15 [13,14]) ?_;have hS:=hS.drew;refine' MQ));all_goals (first|(refine' QV)|(refine' KM)|(refine' Af<;>intro hc)));all_goals (refine' Ll;refine' Mi;(first|refine' J1|(refine' J4;refine ML (m:=j) hS vw rfl fd Df ?_;intro b8 o8 hl8));(first|refine' J1|(refine' J4;refine Q2 (j:=0) hS hl8 rfl fd rfl Ec rfl ?_));refine' Mi;refine' Mi;(first|refine' J1|(refine' J4;refine' PL));(first|refine' J1|(refine' J4;rw [show (j:Int) - 1=((j - 1:Nat):Int) by omega];refine ML (m:=j - 1) hS vw rfl fd Df ?_;intro b9 o9 hl9));(first|refine' J1|(refine' J4;refine Q2 (j:=0) hS hl9 rfl fd rfl (by rw [EN,hxb];rfl) rfl ?_))));all_goals (first|refine' J1|(refine' J4;refine' J9 (c:=cH xa xb hS);rintro v1 w1 ⟨rfl,hS⟩;(cases hdec:decide (xa<xb));have hg:=of_decide_eq_false hdec;rotate_left;have hg:=of_decide_eq_true hdec;all_goals skip)));all_goals (refine' KU)
   all_goals
    first
    | (refine' J0
       all_goals (refine' K2;refine' LH);all_goals (exact ⟨⟨i+1,l2,zh,zh,Jo,Jo,hl2,(fun _=>if h0:j=0 then by subst h0;exact ho2.top else ho2.stop Jo hxb hxa Jo),hd2,hm2,hS.sp⟩,Qb Jo⟩))
    | (refine' JZ;all_goals (refine' Lj;refine zC [(0,none),(1,none),(2,none),(3,none),(4,none),(5,none),(6,none),(7,none),(8,none),(9,none),(10,none),(11,none),(12,none),(13,none),(14,none),(15,some (some [])),(16,none),(17,some none)] ?_;have hS:=hS.drew;refine' Nz;refine' NM;refine' NM;refine' NM;refine' PL;refine' Mb;refine' NM;refine' PL;refine' KA;rw [show (j:Int) - 1=((j - 1:Nat):Int) by omega];refine ML (m:=j - 1) hS vw rfl fd Df ?_;intro b9 o9 hl9;refine' KA;refine Q2 (j:=0) hS hl9 rfl fd rfl (by rw [EN,hxb];rfl) rfl ?_;refine' Mb;refine' NM;refine ML (m:=j) hS vw rfl fd Df ?_;intro b8 o8 hl8;refine' KA;refine Q2 (j:=0) hS hl8 rfl fd rfl Ec rfl ?_;refine' KA;refine ML (m:=j) hS vw rfl fd Df ?_;intro b7 o7 hl7);all_goals (refine' Lu;refine O2 (j:=0) (css':=(l2.set j xb).map KQ) hS hl7 rfl vw fd rfl Ec Jd rfl (by rw [F4];rfl) ?_;intro w7 hS;have hS:=hS.ns;refine' MB;refine ML (m:=j - 1) hS vw rfl fd (by rw [EK,Fe];omega) ?_;intro b6 o6 hl6;refine' LM;refine O2 (j:=0) (css':=((l2.set j xb).set (j - 1) xa).map KQ) hS hl6 rfl vw fd rfl (by rw [EN,Gd Jo,hxb];rfl) Jd rfl (by simp only [F4];rfl) ?_;intro w6 hS;have hS:=hS.ns;refine' Lc;refine' LF;refine' PL;rw [show (j:Int) - 1=((j - 1:Nat):Int) by omega];refine' Kg);all_goals (exact ⟨⟨j - 1,((l2.set j xb).set (j - 1) xa),zh,zh,Jo,(by simp only [Fe];exact hl2),ho2.swap Jo Jo hxb hxa Jo,(fun h=>(hd2 h).swap Jo hxb hxa),(fun z=>(UJ hxb hxa Jo z).trans (hm2 z)),hS.sp⟩,(by show ((j - 1:Nat):Int).toNat<(j:Int).toNat;omega)⟩))
 · skip;all_goals (refine' K2);all_goals (refine' Mo;exact ⟨_,rfl,l1,(by rw [hl1];rcases GL l.length with h0|h0;rw [h0];exact Ns.nil;rw [show l.length=i by omega];exact ho Jo),hd,hm,hl1,hS.sp⟩)
set_option maxRecDepth 100000 in
theorem Yk {n:Nat}(hn:n≤12)(hS:St cx w L):JW Tryz.prog Q8z [.int .u64 n] w fun u w'=>(∃k,u= .int .i64 k)∧St cx w' L:=by
 (((((((((((((all_goals refine Kd Kc Tryz.func236 ?_);all_goals (refine' NN));all_goals (first|(refine' Ml)|(refine' Mz)));all_goals (refine' zn));all_goals refine' J0);all_goals (refine' J5;refine' MN));all_goals (first|(refine' Ml)|(refine' Mz)));all_goals (refine' zn));all_goals refine' J0);all_goals (refine' J5;refine' MN));all_goals (first|(refine' Ml)|(refine' Mz)));all_goals (refine' zn));all_goals refine' J0);all_goals (refine' J5;refine' KL;refine mF rfl ?_;rw [bI,show n % 256=n from Nat.mod_eq_of_lt Jo];refine Yi (n:=(n:Int)) rfl rfl Jo (Nat.lt_of_lt_of_eq (show (n:Int).toNat<256 by omega) Jk) ?_;intro b9 hb9;refine S9 rfl Jo Jo ?_;refine' Nq;refine' KN;exact BU)
theorem iK {n:Nat}(hn:n≤12)(hS:St cx w L):JW Tryz.prog QaF [.int .u64 n] w fun u w'=>(∃k,u= .int .i64 k)∧St cx w' L:=by
 (all_goals refine Kd Kc Tryz.func201 ?_);all_goals (refine' LG;refine Qu ?_)
 all_goals
  first
  | (refine' JZ;all_goals (refine' KH; refine mF rfl ?_; fail "no contract of Q8A"; refine' KN);all_goals (exact BU))
  | (refine' J0;all_goals refine' J5)
 all_goals (refine' KH;refine' Kv (c:=Yk hn hS);rintro v1 w1 ⟨⟨k9,rfl⟩,hS⟩;refine' KN;exact BU)
theorem iL {v:Value}{k:Int}(hn:l.length≤12)(hS:St cx w (sl 3 1 v (l.map KQ)::L)):
 JW Tryz.prog Q3M [v, .int .i64 0, .int .i64 l.length, .int .i64 k] w fun _ w'=>∃l',Ns l' l'.length l'.length∧(OT l→OT l')∧(∀z,z∈l'↔z∈l)∧l'.length=l.length∧St cx w' (sl 3 1 v (l'.map KQ)::L):=by
 ((all_goals refine Kd Kc Tryz.func200 ?_);all_goals (refine' LG;refine' Ki;refine' NY));refine zo [0] (fun A ρ' w'=>J2 ρ' A∧J2 ρ' [(1, .int .i64 0),(2, .int .i64 l.length),(3, .int .i64 k),(8, .bool true),(9, .bool true)]∧St cx w' (sl 3 1 v (l.map KQ)::L)) (fun _ _=>0) ?_ ?_
 · exact ⟨zh,zh,hS.sp⟩
 ((((rintro ρ w1 ⟨hA,hρ,hS⟩;obtain ⟨ρ,rfl⟩:=J3 hA hρ;all_goals (refine' bf;refine' KL;refine' PL;refine' PO));all_goals (refine' Z7));all_goals (refine' zn));all_goals refine' JZ);all_goals (refine' KL;refine' zm;refine' K5 (c:=UK Jo hS);rintro v1 w1 ⟨l',ho',hd',hm',hl',hS⟩;refine' L8;refine' S7;exact ⟨_,rfl,l',ho',hd',hm',hl',hS.sp⟩)
end Go.Proofs.YteflkifmgnpbhaaGreat
namespace Go.Lir
section
structure Val where
 kind:Int
 region:Int
 thing:Int
 n:Int
deriving DecidableEq
def Val.cells (v:Val):List Value:=[.int .i64 v.kind, .int .i64 v.region, .int .i64 v.thing, .int .i64 v.n]
def Val.v (v:Val):Value:= .agg ⟨v.cells⟩
def Val.zero:Val:=⟨0,0,0,0⟩
structure Thg where
 array:Bool
 l:List Val
structure Rgn where
 there:Bool
 l:List Thg
 pages:Int
 used:Int
def Rgn.none:Rgn:=⟨false,[],0,0⟩
structure HpS where
 l:List Rgn
 left:Int
def HpS.reg (s:HpS)(k:Int):Rgn:=if 0≤k then s.l.getD k.toNat Rgn.none else Rgn.none
def HpS.has (s:HpS)(k:Int):Bool:=(s.reg k).there
def HpS.live (s:HpS):Nat:=s.l.countP fun r=>r.there
def HpS.full (s:HpS):Bool:=decide (s.live=16)
def HpS.open (s:HpS):HpS:=if s.full then s else ⟨s.l++[⟨true,[],0,0⟩],s.left⟩
def HpS.openV (s:HpS):Val:=if s.full then Val.zero else ⟨2,s.l.length,0,0⟩
def HpS.can (s:HpS)(v:Val):Bool:=decide (v.kind=2) && s.has v.region
def HpS.shut (s:HpS)(v:Val):HpS:=if s.can v then ⟨s.l.set v.region.toNat Rgn.none,s.left+(s.reg v.region).pages⟩ else s
def Rgn.more (r:Rgn)(n:Int):Bool:=decide (r.pages=0∨16<r.used+n)
def Rgn.room (r:Rgn)(n:Int):Rgn:=if r.more n then ⟨r.there,r.l,r.pages+1,n⟩ else ⟨r.there,r.l,r.pages,r.used+n⟩
def Rgn.push (r:Rgn)(t:Thg):Rgn:=⟨r.there,r.l++[t],r.pages,r.used⟩
def HpS.code (s:HpS)(v:Val)(n:Int):Int:=if !s.can v then 20 else if (s.reg v.region).more n∧s.left=0 then 14 else 0
def HpS.put (s:HpS)(v:Val)(n:Int)(t:Thg):HpS:=if s.code v n=0 then ⟨s.l.set v.region.toNat (((s.reg v.region).room n).push t),if (s.reg v.region).more n then s.left - 1 else s.left⟩ else s
def HpS.putV (s:HpS)(v:Val)(kind n:Int):Val:=if s.code v n=0 then ⟨kind,v.region,(s.reg v.region).l.length,0⟩ else Val.zero
def HpS.thg (s:HpS)(k t:Nat):Thg:=(s.reg k).l.getD t ⟨false,[]⟩
def HpS.at_ (s:HpS)(v:Val):Option (Nat×Nat):=
 if (v.kind=3∨v.kind=4)∧s.has v.region=true∧0≤v.thing∧v.thing<(s.reg v.region).l.length∧(s.thg v.region.toNat v.thing.toNat).array=decide (v.kind=4) then some (v.region.toNat,v.thing.toNat) else none
def HpS.get (s:HpS)(v:Val)(k:Int):Val×Int:=match s.at_ v with
 | none=>(Val.zero,20)
 | some (r,t)=>if 0≤k∧k<(s.thg r t).l.length then ((s.thg r t).l.getD k.toNat Val.zero,0) else (Val.zero,1)
def HpS.setC (s:HpS)(v:Val)(k:Int)(x:Val):Int:=match s.at_ v with
 | none=>20
 | some (r,t)=>if (s.thg r t).array=true∧x.kind≠1 then 20 else if 0≤k∧k<(s.thg r t).l.length then 0 else 1
def Rgn.upd (r:Rgn)(t:Nat)(x:Thg):Rgn:=⟨r.there,r.l.set t x,r.pages,r.used⟩
def Thg.upd (t:Thg)(k:Nat)(x:Val):Thg:=⟨t.array,t.l.set k x⟩
def HpS.set (s:HpS)(v:Val)(k:Int)(x:Val):HpS:=match s.at_ v with
 | none=>s
 | some (r,t)=>if s.setC v k x=0 then ⟨s.l.set r ((s.reg r).upd t ((s.thg r t).upd k.toNat x)),s.left⟩ else s
def HpS.len (s:HpS)(v:Val):Int×Int:=match s.at_ v with
 | none=>(0,20)
 | some (r,t)=>((s.thg r t).l.length,0)
def LB (l:List Val):Int:=if l.length=0 then 1 else l.length
def HpS.tuple (s:HpS)(v:Val)(l:List Val):HpS:=s.put v (LB l) ⟨false,l⟩
def OU (n:Int):List Val:=List.replicate n.toNat ⟨1,0,0,0⟩
def HpS.arrC (s:HpS)(v:Val)(n:Int):Int:=if n<0∨15<n then 1 else s.code v (n+1)
def HpS.arr (s:HpS)(v:Val)(n:Int):HpS:=if n<0∨15<n then s else s.put v (n+1) ⟨true,OU n⟩
def HpS.arrV (s:HpS)(v:Val)(n:Int):Val:=if n<0∨15<n then Val.zero else s.putV v 4 (n+1)

structure HpS.Ok (N:Nat) (s:HpS):Prop where
 len:s.l.length≤N
 each:∀r∈s.l,r.l.length≤N∧(∀t∈r.l,t.l.length≤1000)∧0≤r.pages∧0≤r.used∧r.used≤1000∧(r.there=false→r=Rgn.none)
 left:0≤s.left
 sum:s.left+(s.l.map Rgn.pages).sum≤1000
 live:s.live≤16

theorem oO {l':List Int}(h:l.Perm l'):l.sum=l'.sum:=by
 induction h with
 | nil=>rfl
 | cons x _ ih=>rw [Hj,Hj,ih]
 | swap x y l=>simp only [Hj];omega
 | trans _ _ h1 h2=>rw [h1,h2]
theorem tN (h:∀x∈l,0≤x):0≤l.sum:=by
 induction l with
 | nil=>simp
 | cons x l ih=>rw [Hj];have:=h x Js;have:=ih fun y hy=>h y (by simp [hy]);omega
theorem iM {α:Type}:∀{l:List α}{k:Nat}{x:α},l[k]?=some x→l.Perm (x::l.eraseIdx k)
 | [],_,_,h=>by simp at h
 | y::l,0,x,h=>by simp at h;subst h;exact .refl _
 | y::l,k+1,x,h=>((iM (l:=l) Dh).cons y).trans (.swap _ _ _)
theorem kZ {α:Type}:∀{l:List α}{k:Nat}{x:α},k<l.length→(l.set k x).Perm (x::l.eraseIdx k)
 | [],_,_,h=>by simp at h
 | y::l,0,x,h=> .refl _
 | y::l,k+1,x,h=>((kZ (l:=l) Dh).cons y).trans (.swap _ _ _)
theorem Yl {l:List Rgn}{k:Nat}{r r':Rgn}(hr:l[k]?=some r):((l.set k r').map Rgn.pages).sum+r.pages=(l.map Rgn.pages).sum+r'.pages:=by
 have h1:=oO ((iM hr).map Rgn.pages);have h2:=oO ((kZ (x:=r') (EJ.1 hr).1).map Rgn.pages);rw [FM,Hj] at h1 h2;rw [h1,h2];omega
theorem fF {l:List Rgn}{k:Nat}{r r':Rgn}(hr:l[k]?=some r):((l.set k r').countP fun r=>r.there)+(if r.there then 1 else 0)=(l.countP fun r=>r.there)+if r'.there then 1 else 0:=by
 have h1:=(iM hr).countP_eq fun r:Rgn=>r.there;have h2:=(kZ (x:=r') (EJ.1 hr).1).countP_eq fun r:Rgn=>r.there;rw [GY] at h1 h2;rw [h1,h2];omega
theorem HpS.Ok.pages {s:HpS}(h:s.Ok N):s.left≤1000∧∀r∈s.l,r.pages+s.left≤1000:=by
 have h1:=h.sum;have h2:=tN (l:=s.l.map Rgn.pages) (by intro x hx;obtain ⟨r,hr,rfl⟩:=Fc.1 hx;exact (h.each r hr).2.2.1);have h3:=h.left;refine ⟨Jo,fun r hr=>?_⟩;obtain ⟨k,hk⟩:=Fj.1 hr;have h4:=oO ((iM hk).map Rgn.pages);rw [FM,Hj] at h4;have h5:=tN (l:=(s.l.eraseIdx k).map Rgn.pages) (by intro x hx;obtain ⟨r,hr,rfl⟩:=Fc.1 hx;exact (h.each r (List.mem_of_mem_eraseIdx hr)).2.2.1);omega
theorem K8 {l:List α}{k:Nat}{x y:α}(h:y∈l.set k x):y=x∨y∈l:=(HJ h).symm
theorem HpS.Ok.mono {s:HpS}(h:s.Ok N)(hm:N≤M):s.Ok M:=⟨by have:=h.len;omega,fun r hr=>by obtain ⟨h1,h2⟩:=h.each r hr;exact ⟨Jo,h2⟩,h.left,h.sum,h.live⟩
theorem HpS.ok_set {s:HpS}(h:s.Ok N){k:Nat}{r r':Rgn}(hr:s.l[k]?=some r){left:Int}(hM:N≤M)(h0:0≤left)(hs:left+r'.pages=s.left+r.pages)(hl:s.live+(if r'.there then 1 else 0)≤16+if r.there then 1 else 0)
 (he:r'.l.length≤M∧(∀t∈r'.l,t.l.length≤1000)∧0≤r'.pages∧0≤r'.used∧r'.used≤1000∧(r'.there=false→r'=Rgn.none)):(⟨s.l.set k r',left⟩:HpS).Ok M:=by
 have h1:=Yl (r':=r') hr;have h2:=fF (r':=r') hr;have h3:=h.sum;have h4:=h.len;refine ⟨by rw [Fe];omega,fun x hx=>?_,h0,by show left+((s.l.set k r').map Rgn.pages).sum≤1000;omega,?_⟩
 · rcases K8 hx with rfl|hx
   · exact he
   · obtain ⟨g1,g2⟩:=h.each x hx;exact ⟨Jo,g2⟩
 · show (s.l.set k r').countP (fun r=>r.there)≤16;have:s.live=s.l.countP fun r=>r.there:=rfl;omega
abbrev IP:=@HpS.ok_set
theorem HpS.reg_get {s:HpS}{k:Nat}{r:Rgn}(h:s.l[k]?=some r):s.reg k=r:=by
 unfold HpS.reg;rw [if_pos Jo,E5,EL,h];rfl
theorem HpS.ok_put {s:HpS}(h:s.Ok N){v:Val}{n:Int}(hn:1≤n∧n≤1000){t:Thg}(ht:t.l.length≤1000):(s.put v n t).Ok (N+1):=by
 unfold HpS.put;split
 · rename_i hc
   have hcan:s.can v=true:=by
    unfold HpS.code at hc
    cases hx:s.can v with
    | true=>rfl
    | false=>rw [hx] at hc;cases hc
   unfold HpS.can at hcan;rw [EW] at hcan;have hh:=hcan.2;unfold HpS.has HpS.reg at hh;split at hh
   · rename_i h0
     rw [EL] at hh
     cases hk:s.l[v.region.toNat]? with
     | none=>rw [hk] at hh;cases hh
     | some r=>
       have hrg:s.reg v.region=r:=(by have:=HpS.reg_get hk;rw [Fb h0] at this;exact this);have hth:r.there=true:=(by rw [hk] at hh;exact hh);rw [hrg];have he:=h.each r (EI hk);have hl:=h.left;have hlive:=h.live
       have hne:r.more n=true→s.left≠0:=fun hm e=>by
        unfold HpS.code at hc;rw [hrg] at hc;split at hc
        · cases hc
        · rw [if_pos ⟨hm,e⟩] at hc;cases hc
       (have hu:¬r.more n=true→r.used+n≤16:=fun hm=>by unfold Rgn.more at hm;rw [decide_eq_true_iff] at hm;omega);refine IP h hk Jo ?_ ?_ ?_ ?_
       · split
         · rename_i hm;have:=hne hm;omega
         · exact hl
       · unfold Rgn.room;split<;>simp only [Rgn.push]<;>omega
       · unfold Rgn.room;split<;>simp only [Rgn.push,hth,if_true]<;>omega
       · obtain ⟨g1,g2,g3,g4,g5,g6⟩:=he
         have e1:(r.room n).l=r.l∧(r.room n).there=r.there∧0≤(r.room n).pages∧0≤(r.room n).used∧(r.room n).used≤1000:=by
          unfold Rgn.room;split
          · exact B3
          · rename_i hm;have:=hu hm;exact B3
         obtain ⟨e1,e2,e3,e4,e5⟩:=e1;refine ⟨by simp [Rgn.push,e1];omega,fun x hx=>?_,e3,e4,e5,fun hf=>?_⟩
         · simp only [Rgn.push,e1,E3,Fp] at hx
           rcases hx with hx|rfl
           · exact g2 x hx
           · exact ht
         · simp only [Rgn.push,e2,hth] at hf;cases hf
   · cases hh
 · exact h.mono Jo
theorem HpS.ok_shut {s:HpS}(h:s.Ok N){m:Nat}{r:Rgn}(hk:s.l[m]?=some r):(⟨s.l.set m Rgn.none,s.left+r.pages⟩:HpS).Ok N:=by
 have he:=h.each r (EI hk);have hl:=h.left;have hlive:=h.live;exact IP h hk (E7 _) Jo (by simp [Rgn.none]) (by simp [Rgn.none];split<;>omega) ⟨by simp [Rgn.none],by simp [Rgn.none],by simp [Rgn.none],by simp [Rgn.none],by simp [Rgn.none],fun _=>rfl⟩
theorem HpS.ok_open {s:HpS}(h:s.Ok N):s.open.Ok (N+1):=by
 unfold HpS.open;split
 · exact h.mono Jo
 · rename_i hf
   have hl:s.live≠16:=fun e=>hf (decide_eq_true e);have hlive:=h.live;have h2:=h.sum;have h3:=h.len;refine ⟨by simp;omega,fun r hr=>?_,h.left,by simp;omega,?_⟩
   · rcases E3.1 hr with hr|hr
     · obtain ⟨g1,g2⟩:=h.each r hr;exact ⟨Jo,g2⟩
     · simp only [Fp] at hr;subst hr;exact ⟨by simp,by simp,by simp,by simp,by simp,fun e=>by cases e⟩
   · show (s.l++[(⟨true,[],0,0⟩:Rgn)]).countP (fun r:Rgn=>r.there)≤16;rw [HC];have:s.live=s.l.countP fun r:Rgn=>r.there:=rfl;simp;omega
end
section
abbrev wr (n:Int):Int:=IntKind.i64.wrap n
def Rr (a b:Int):Int×Bool:=if b=0 then (0,false) else if b=-1 then (wr (0 - a),true) else (wr (a.tdiv b),true)
def Lv (k a b:Int):Int×Bool:=
 if k=1 then (wr (a+b),true) else if k=2 then (wr (a - b),true) else if k=3 then (wr (a*b),true)
 else if k=4 then Rr a b else if k=5 then (if (Rr a b).2 then (wr (a - wr ((Rr a b).1*b)),true) else (0,false))
 else if k=6 then (if a<b then 1 else 0,true) else if k=7 then (if a=b then 1 else 0,true) else if k=8 then (MY .and .i64 a b,true) else if k=9 then (MY .xor .i64 a b,true) else (0,false)
end
section
structure Frm where
 f:Nat
 b:Nat
 i:Nat
 vals:List Val
 regs:List Int
structure MS where
 h:HpS
 g:Frm
 st:List Frm
 inp:List Int
 out:List Int
 fuel:Nat
inductive Stp where
 | go (s:MS)
 | halt (e:Int)
 | done (l:List Int)
 | lost
def obind {α:Type}(x:Option α)(f:α→Stp):Stp:=match x with
 | none=> .lost
 | some a=>f a
theorem OV {x:Option α}{f:α→Stp}(h:x=none):obind x f= .lost:=by rw [h];rfl
theorem Qg {x:Option α}{f:α→Stp}{a:α}(h:x=some a):obind x f=f a:=by rw [h];rfl
abbrev Ku (n:Int):Val:=⟨1,0,0,n⟩
def Frm.val (g:Frm)(k:Int):Option Val:=if k<0 then none else g.vals[k.toNat]?
def Frm.num (g:Frm)(k:Int):Option Int:=match g.val k with
 | none=>none
 | some v=>if v.kind=1 then some v.n else none
def Frm.args (g:Frm):List Int→Option (List Val)
 | []=>some []
 | k::l=>match g.val k,g.args l with
   | some v,some vs=>some (v::vs)
   | _,_=>none
def Frm.reg (g:Frm)(k:Int):Option Int:=if k<0 then none else g.regs[k.toNat]?
def Frm.rgs (g:Frm):List Int→Option (List Int)
 | []=>some []
 | k::l=>match g.reg k,g.rgs l with
   | some v,some vs=>some (v::vs)
   | _,_=>none
def MS.put (s:MS)(vs:List Val):MS:=⟨s.h,⟨s.g.f,s.g.b,s.g.i,s.g.vals++vs,s.g.regs⟩,s.st,s.inp,s.out,s.fuel⟩
def MS.hp (s:MS)(h:HpS):MS:=⟨h,s.g,s.st,s.inp,s.out,s.fuel⟩
def MS.fr (s:MS)(g:Frm):MS:=⟨s.h,g,s.st,s.inp,s.out,s.fuel⟩
def MS.made (s:MS)(e:Int)(h:HpS)(v:Val):Stp:=if e=14 then .halt 6 else if e≠0 then .lost else .go ((s.hp h).put [v])
def Nf (v:Val)(e:Int)(k:Stp):Stp:=if v.kind≠4 then .lost else if e=1 then .halt 2 else if e≠0 then .lost else k
def MS.newR (s:MS):Stp:=if s.h.full=true then .halt 6 else .go ((⟨s.h.open,⟨s.g.f,s.g.b,s.g.i,s.g.vals,s.g.regs++[s.h.openV.region]⟩,s.st,s.inp,s.out,s.fuel⟩:MS).put [s.h.openV])
def MS.inS (s:MS):Stp:=match s.inp with
 | []=> .halt 4
 | n::r=> .go ((⟨s.h,s.g,s.st,r,s.out,s.fuel⟩:MS).put [Ku n])
def MS.outS (s:MS)(n:Int):Stp:=if s.out.length=2000 then .halt 8 else .go ⟨s.h,s.g,s.st,s.inp,s.out++[n],s.fuel⟩
def MS.call (m:Module)(s:MS)(x:Ins):Stp:=match m.funcs[x.k.toNat]? with
 | none=> .lost
 | some g=>obind (s.g.rgs x.regs) fun rs=>obind (s.g.args x.args) fun vs=>
   if (rs.length:Int)≠g.regs∨vs.length≠g.params.length then .lost else if s.st.length+1=40 then .halt 5 else .go ⟨s.h,⟨x.k.toNat,0,0,vs,rs⟩,s.g::s.st,s.inp,s.out,s.fuel⟩
def MS.ins (m:Module)(s:MS)(x:Ins):Stp:=
 if x.op=1 then .go (s.put [Ku x.n])
 else if x.op=2 then obind (s.g.num x.a) fun a=>obind (s.g.num x.b) fun b=>if (Lv x.k a b).2=false then .halt 1 else .go (s.put [Ku (Lv x.k a b).1])
 else if x.op=3 then s.newR
 else if x.op=4 then obind (s.g.val x.a) fun v=>if s.h.can v=false then .lost else .go (s.hp (s.h.shut v))
 else if x.op=5 then obind (s.g.val x.a) fun v=>obind (s.g.args x.args) fun l=>s.made (s.h.code v (LB l)) (s.h.tuple v l) (s.h.putV v 3 (LB l))
 else if x.op=6 then obind (s.g.val x.a) fun v=>if v.kind≠3 then .lost else if (s.h.get v x.k).2≠0 then .lost else .go (s.put [(s.h.get v x.k).1])
 else if x.op=7 then obind (s.g.val x.a) fun v=>if v.kind≠3 then .lost else obind (s.g.val x.b) fun y=>if s.h.setC v x.k y≠0 then .lost else .go (s.hp (s.h.set v x.k y))
 else if x.op=8 then obind (s.g.val x.a) fun v=>obind (s.g.num x.b) fun n=>if n<0∨15<n then .halt 3 else s.made (s.h.arrC v n) (s.h.arr v n) (s.h.arrV v n)
 else if x.op=9 then obind (s.g.val x.a) fun v=>obind (s.g.num x.b) fun n=>Nf v (s.h.get v n).2 (.go (s.put [(s.h.get v n).1]))
 else if x.op=10 then obind (s.g.val x.a) fun v=>obind (s.g.num x.b) fun n=>obind (s.g.num x.c) fun c=>Nf v (s.h.setC v n (Ku c)) (.go (s.hp (s.h.set v n (Ku c))))
 else if x.op=11 then obind (s.g.val x.a) fun v=>Nf v (s.h.len v).2 (.go (s.put [Ku (s.h.len v).1]))
 else if x.op=12 then s.inS
 else if x.op=13 then obind (s.g.num x.a) fun n=>s.outS n
 else s.call m x
def MS.to (f:Fun)(s:MS)(t:To):Stp:=match f.blocks[t.block.toNat]? with
 | none=> .lost
 | some b=>obind (s.g.rgs t.regs) fun rs=>obind (s.g.args t.args) fun vs=>
   if (rs.length:Int)≠b.regs∨vs.length≠b.params.length then .lost else .go (s.fr ⟨s.g.f,t.block.toNat,0,vs,rs⟩)
def Kr:List Val→Option (List Int)
 | []=>some []
 | v::l=>match Kr l with
   | none=>none
   | some ns=>if v.kind=1 then some (v.n::ns) else none
def MS.ret (f:Fun)(s:MS)(e:Tail):Stp:=obind (s.g.args e.args) fun vs=>if vs.length≠f.results.length then .lost else match s.st with
 | c::st=> .go ((⟨s.h,c,st,s.inp,s.out,s.fuel⟩:MS).put vs)
 | []=>match Kr vs with
   | none=> .lost
   | some ns=> .done ns
def MS.fin (f:Fun)(s:MS)(e:Tail):Stp:=
 if e.op=1 then s.to f e.yes
 else if e.op=2 then obind (s.g.num e.a) fun n=>if n≠0 then s.to f e.yes else s.to f e.no
 else s.ret f e
def MS.next (s:MS):MS:=s.fr ⟨s.g.f,s.g.b,s.g.i+1,s.g.vals,s.g.regs⟩
def MS.one (m:Module)(s:MS):Stp:=match m.funcs[s.g.f]? with
 | none=> .lost
 | some f=>match f.blocks[s.g.b]? with
   | none=> .lost
   | some b=>match b.code[s.g.i]? with
     | some x=>s.next.ins m x
     | none=>s.fin f b.fin
def MS.place (m:Module)(s:MS):Int:=match m.funcs[s.g.f]? with
 | none=>0
 | some f=>match f.blocks[s.g.b]? with
   | none=>0
   | some b=>if s.g.i<b.code.length then OL s.g.f s.g.b s.g.i else Po s.g.f s.g.b
def MS.tick (s:MS):MS:=⟨s.h,s.g,s.st,s.inp,s.out,s.fuel+1⟩
inductive Run where
 | on (s:MS)
 | over (s:MS) (e:Int) (back:List Int)
 | stuck (f:LV)
def Run.of (m:Module)(s:MS):Stp→Run
 | .go s'=> .on s'
 | .halt e=> .over s.tick e []
 | .done l=> .over s.tick 0 l
 | .lost=> .stuck (20,s.place m)
def Run.step (m:Module)(most:Nat):Run→Run
 | .on s=>if s.fuel=most then .over s 7 [] else .of m s (s.tick.one m)
 | r=>r
def Run.steps (m:Module)(most:Nat):Nat→Run→Run
 | 0,r=>r
 | k+1,r=>Run.steps m most k (r.step m most)
def MS.start (inp:List Int)(pages:Int):MS:=⟨⟨[],pages⟩,⟨0,0,0,[],[]⟩,[],inp,[],0⟩
structure Oc where
 e:Int
 back:List Int
 out:List Int
 fuel:Int
def Run.oc:Run→Oc
 | .on s=>⟨0,[],s.out,s.fuel⟩
 | .over s e back=>⟨e,back,s.out,s.fuel⟩
 | .stuck _=>⟨0,[],[],0⟩
def Run.flt:Run→LV
 | .stuck f=>f
 | _=>(0,0)
def Run.all (m:Module)(inp:List Int)(most:Nat)(pages:Int):Run:=Run.steps m most (most+1) (.on (MS.start inp pages))
end
section
theorem oP {n:Nat}{x:Ins}(h:Qj n x=0):Nw n x=0:=by
 unfold Qj at h;split at h
 · cases h
 · split at h
   · cases h
   · exact h
theorem oQ {n:Nat}{x:Ins}(h:Qj n x=0)(ho:x.op=14):0≤x.k∧x.k<n:=by
 have hk:=oP h;unfold Nw at hk;rw [if_neg Jo,if_neg Jo,if_neg Jo,if_pos ho] at hk;split at hk
 · cases hk
 · omega
theorem cI {n:Nat}{x:Ins}(h:Qj n x=0)(ho:x.op=5):x.args.length≤8:=by
 have hk:=oP h;unfold Nw at hk;rw [if_neg Jo,if_pos ho] at hk;split at hk
 · cases hk
 · omega
theorem cJ {n:Nat}{x:Ins}(h:Qj n x=0):x.regs.length≤16∧x.args.length≤8:=by
 have hk:=oP h
 have ho:¬x.odd:=by
  unfold Qj at h;split at h
  · cases h
  · split at h
    · cases h
    · assumption
 unfold Ins.odd at ho;by_cases h14:x.op=14
 · unfold Nw at hk
   rw [if_neg Jo,if_neg Jo,if_neg Jo,if_pos h14] at hk;split at hk
   · cases hk
   · split at hk
     · cases hk
     · omega
 · have g1:fG x.op=false:=by unfold fG;exact decide_eq_false h14
   have r0:¬0<x.regs.length:=fun hh=>ho (.inr (.inr (.inr (.inr (.inr (.inl ⟨g1,hh⟩))))));by_cases h5:x.op=5
   · exact ⟨Jo,cI h h5⟩
   · have g2:fR x.op=false:=(by unfold fR;exact decide_eq_false Jo);have a0:¬0<x.args.length:=fun hh=>ho (.inr (.inr (.inr (.inr (.inr (.inr ⟨g2,hh⟩))))));exact ⟨Jo,Jo⟩
theorem iN {n:Nat}{t:To}(h:LK n t true=0):t.regs.length≤16∧t.args.length≤8:=by
 unfold LK at h;rw [if_neg Jd] at h;split at h
 · cases h
 · split at h
   · cases h
   · omega
theorem lg {n:Nat}(h:QU n e=0):e.args.length≤8:=by
 unfold QU at h;split at h
 · cases h
 · split at h
   · cases h
   · split at h
     · cases h
     · omega
theorem cK {g:Frm}:∀{l:List Int}{vs:List Val},g.args l=some vs→vs.length=l.length
 | [],_,h=>by cases h;rfl
 | k ::l,vs,h=>by
   rw [Frm.args] at h;split at h
   · rename_i v vs' h1 h2;cases h;rw [ET,ET,cK h2]
   · cases h
theorem oR {g:Frm}:∀{l:List Int}{vs:List Int},g.rgs l=some vs→vs.length=l.length
 | [],_,h=>by cases h;rfl
 | k ::l,vs,h=>by
   rw [Frm.rgs] at h;split at h
   · rename_i v vs' h1 h2;cases h;rw [ET,ET,oR h2]
   · cases h
theorem oS:∀{l:List Val}{ns:List Int},Kr l=some ns→ns.length=l.length
 | [],_,h=>by cases h;rfl
 | v ::l,ns,h=>by
   rw [Kr] at h;split at h
   · cases h
   · rename_i ns' h1
     split at h
     · cases h;rw [ET,ET,oS h1]
     · cases h
def Stp.All (P:MS→Prop):Stp→Prop
 | .go s=>P s
 | .done l=>l.length≤8
 | _=>True
theorem Stp.all_bind {P:MS→Prop}{x:Option α}{f:α→Stp}(h:∀a,x=some a→(f a).All P):(obind x f).All P:=by
 cases x with
 | none=>exact trivial
 | some a=>exact h a rfl
abbrev E6:=@Stp.all_bind
theorem Stp.all_if {P:MS→Prop}{c:Prop}[Decidable c]{a b:Stp}(h1:c→a.All P)(h2:¬c→b.All P):(if c then a else b).All P:=by
 by_cases hc:c
 · rw [if_pos hc];exact h1 hc
 · rw [if_neg hc];exact h2 hc
abbrev E2:=@Stp.all_if
def aw (m:Module)(k:Nat)(g:Frm):Prop:=∃f b,m.funcs[g.f]?=some f∧f.blocks[g.b]?=some b∧g.i≤b.code.length∧g.vals.length≤8+8*k∧g.regs.length≤16+k
structure Bnd (m:Module) (k:Nat) (s:MS):Prop where
 cur:aw m k s.g
 st:∀x∈s.st,aw m k x
 sl:s.st.length≤39
 out:s.out.length≤2000
section
variable {m:Module}{k:Nat}{s:MS}
theorem aw.up {g:Frm}(h:aw m k g):aw m (k+1) g:=by
 obtain ⟨f,b,h1,h2,h3,h4,h5⟩:=h;exact ⟨f,b,h1,h2,h3,Jo,Jo⟩
theorem aw.more {g:Frm}(h:aw m k g){vs:List Val}{rs:List Int}(hv:vs.length≤8)(hr:rs.length≤1):aw m (k+1) ⟨g.f,g.b,g.i,g.vals++vs,g.regs++rs⟩:=by
 obtain ⟨f,b,h1,h2,h3,h4,h5⟩:=h;refine ⟨f,b,h1,h2,h3,?_,?_⟩
 · show (g.vals++vs).length≤_;rw [EM];omega
 · show (g.regs++rs).length≤_;rw [EM];omega
theorem Bnd.up (h:Bnd m k s):Bnd m (k+1) s:=⟨h.cur.up,fun x hx=>(h.st x hx).up,h.sl,h.out⟩
theorem Bnd.put (h:Bnd m k s){vs:List Val}(hv:vs.length≤8):Bnd m (k+1) (s.put vs):=by
 refine ⟨?_,fun x hx=>(h.st x hx).up,h.sl,h.out⟩;have:=h.cur.more (rs:=[]) hv Js;rw [FA] at this;exact this
theorem Bnd.hp (h:Bnd m k s)(q:HpS):Bnd m k (s.hp q):=⟨h.cur,h.st,h.sl,h.out⟩
theorem Bnd.made (h:Bnd m k s){e:Int}{q:HpS}{v:Val}:(s.made e q v).All (Bnd m (k+1)):=by
 unfold MS.made;exact E2 (fun _=>trivial) fun _=>E2 (fun _=>trivial) fun _=>(h.hp q).put Js
theorem fH {P:MS→Prop}{v:Val}{e:Int}{r:Stp}(h:r.All P):(Nf v e r).All P:=by
 unfold Nf;exact E2 (fun _=>trivial) fun _=>E2 (fun _=>trivial) fun _=>E2 (fun _=>trivial) fun _=>h
theorem Bnd.ins (h:Bnd m k s)(hM:m.fault.1=0){x:Ins}(hx:Qj m.funcs.length x=0):(s.ins m x).All (Bnd m (k+1)):=by
 obtain ⟨q1,q2⟩:=cJ hx;have h1:∀(v:Val) (t:MS),Bnd m k t→(Stp.go (t.put [v])).All (Bnd m (k+1)):=fun v t ht=>ht.put Js;have h2:∀(q:HpS),(Stp.go (s.hp q)).All (Bnd m (k+1)):=fun q=>(h.hp q).up;unfold MS.ins
 refine E2 (fun _=>h1 _ _ h) fun _=>E2 (fun _=>E6 fun a _=>E6 fun b _=>E2 (fun _=>trivial) fun _=>h1 _ _ h) fun _=>E2 (fun _=>?_) fun _=>
  E2 (fun _=>E6 fun v _=>E2 (fun _=>trivial) fun _=>h2 _) fun _=>E2 (fun _=>E6 fun v _=>E6 fun l _=>h.made) fun _=>
  E2 (fun _=>E6 fun v _=>E2 (fun _=>trivial) fun _=>E2 (fun _=>trivial) fun _=>h1 _ _ h) fun _=>
  E2 (fun _=>E6 fun v _=>E2 (fun _=>trivial) fun _=>E6 fun y _=>E2 (fun _=>trivial) fun _=>h2 _) fun _=>
  E2 (fun _=>E6 fun v _=>E6 fun n _=>E2 (fun _=>trivial) fun _=>h.made) fun _=>
  E2 (fun _=>E6 fun v _=>E6 fun n _=>fH (h1 _ _ h)) fun _=>
  E2 (fun _=>E6 fun v _=>E6 fun n _=>E6 fun c _=>fH (h2 _)) fun _=>
  E2 (fun _=>E6 fun v _=>fH (h1 _ _ h)) fun _=>E2 (fun _=>?_) fun _=>E2 (fun _=>E6 fun n _=>?_) fun _=>?_
 · unfold MS.newR;refine E2 (fun _=>trivial) fun _=>?_;refine ⟨?_,fun x hx=>(h.st x hx).up,h.sl,h.out⟩;exact h.cur.more (vs:=[_]) (rs:=[_]) Js Js
 · unfold MS.inS
   split
   · exact trivial
   · exact h1 _ _ ⟨h.cur,h.st,h.sl,h.out⟩
 · unfold MS.outS;refine E2 (fun _=>trivial) fun hn=>?_;refine ⟨h.cur.up,fun x hx=>(h.st x hx).up,h.sl,?_⟩;have:=h.out;show (s.out++[n]).length≤2000;rw [EM];simp only [ET,Ff];omega
 · unfold MS.call
   split
   · exact trivial
   · rename_i g hg
     refine E6 fun rs hr=>E6 fun vs hv=>E2 (fun _=>trivial) fun _=>E2 (fun _=>trivial) fun hl=>?_;have hb:=(SJ (P9 hM hg)).2.2.2.2.1;obtain ⟨b,hb⟩:∃b,g.blocks[0]?=some b:=⟨_,EH Jo⟩;refine ⟨⟨g,b,hg,hb,FB _,?_,?_⟩,?_,?_,h.out⟩
     · show vs.length≤_;rw [cK hv];omega
     · show rs.length≤_;rw [oR hr];omega
     · intro y hy
       rcases ES.1 hy with rfl|hy
       · exact h.cur.up
       · exact (h.st y hy).up
     · have:=h.sl;show (s.g::s.st).length≤39;rw [ET];omega
theorem Bnd.to (h:Bnd m k s){f:Fun}(hf:m.funcs[s.g.f]?=some f){t:To}(ht:LK f.blocks.length t true=0):(s.to f t).All (Bnd m (k+1)):=by
 obtain ⟨q1,q2⟩:=iN ht;unfold MS.to;split
 · exact trivial
 · rename_i b hb
   refine E6 fun rs hr=>E6 fun vs hv=>E2 (fun _=>trivial) fun _=>?_;refine ⟨⟨f,b,hf,hb,FB _,?_,?_⟩,fun x hx=>(h.st x hx).up,h.sl,h.out⟩
   · show vs.length≤_;rw [cK hv];omega
   · show rs.length≤_;rw [oR hr];omega
theorem Bnd.fin (h:Bnd m k s){f:Fun}(hf:m.funcs[s.g.f]?=some f)(he:QU f.blocks.length e=0):(s.fin f e).All (Bnd m (k+1)):=by
 obtain ⟨q1,q2,q3,q4⟩:=SI he;have q5:=lg he;unfold MS.fin;refine E2 (fun e1=>?_) fun n1=>E2 (fun e2=>E6 fun n _=>E2 (fun _=>?_) fun _=>?_) fun n2=>?_
 · rw [decide_eq_true Jo] at q3;exact h.to hf q3
 · rw [decide_eq_true Jo] at q3;exact h.to hf q3
 · rw [decide_eq_true Jo] at q4;exact h.to hf q4
 · unfold MS.ret
   refine E6 fun vs hv=>E2 (fun _=>trivial) fun _=>?_;split
   · rename_i c st hst;have hc:=h.st c (by rw [hst];exact Fh);have h8:vs.length≤8:=(by rw [cK hv];omega);refine Bnd.put (s:=⟨s.h,c,st,s.inp,s.out,s.fuel⟩) ⟨hc,fun x hx=>h.st x (by rw [hst];exact E9 _ hx),?_,h.out⟩ h8;have:=h.sl;rw [hst,ET] at this;show st.length≤39;omega
   · split
     · exact trivial
     · rename_i ns hns;show ns.length≤8;rw [oS hns,cK hv];omega
theorem Bnd.one (h:Bnd m k s)(hM:m.fault.1=0):(s.one m).All (Bnd m (k+1)):=by
 obtain ⟨f,b,hf,hb,hi,hv,hr⟩:=h.cur;obtain ⟨-,q1,q2⟩:=Pp hM hf hb;unfold MS.one;rw [hf];dsimp only;rw [hb];dsimp only
 cases hx:b.code[s.g.i]? with
 | none=>exact h.fin hf q2
 | some x=>
   have hlt:=(EJ.1 hx).1;refine Bnd.ins (s:=s.next) ⟨⟨f,b,hf,hb,?_,hv,hr⟩,h.st,h.sl,h.out⟩ hM (q1 x (EI hx));show s.g.i+1≤_;omega
abbrev JR:=@Bnd.one
theorem Bnd.start (hM:m.fault.1=0)(inp:List Int)(pages:Int):Bnd m 0 (MS.start inp pages):=by
 have hl:=kL hM;obtain ⟨f,hf⟩:∃f,m.funcs[0]?=some f:=⟨_,EH Jo⟩;have hb:=(SJ (P9 hM hf)).2.2.2.2.1;obtain ⟨b,hb⟩:∃b,f.blocks[0]?=some b:=⟨_,EH Jo⟩;exact ⟨⟨f,b,hf,hb,FB _,FB _,FB _⟩,fun x hx=>(by cases hx),FB _,FB _⟩
abbrev IF:=@Bnd.start
end
end
section
def OB (e:Tail):List Nat:=if e.op=1 then [e.yes.block.toNat] else if e.op=2 then [e.yes.block.toNat,e.no.block.toNat] else []
def M5 (l:List Block)(k:Nat):List Nat:=match l[k]? with
 | some y=>OB y.fin
 | none=>[]
def Lf (ks:List Bool)(t:To):To:={t with block:=num ks t.block.toNat}
def Mj (ks:List Bool)(e:Tail):Tail:={e with yes:=if e.op≠3 then Lf ks e.yes else e.yes,no:=if e.op=2 then Lf ks e.no else e.no}
def On (ks:List Bool)(y:Block):Block:={y with fin:=Mj ks y.fin}
def MV (l:List Block):List Bool:=Rq (M5 l) l.length
def Sr (l:List Block):List Block:=(pick (MV l) l).map (On (MV l))
def Fun.trim (f:Fun):Fun:={f with blocks:=Sr f.blocks}
def OW (l:List Ins):List Nat:=(l.filter fun x=>decide (x.op=14)).map fun x=>x.k.toNat
def Oo (l:List Block):List Nat:=l.flatMap fun y=>OW y.code
def Nj (l:List Fun)(k:Nat):List Nat:=match l[k]? with
 | some f=>Oo f.blocks
 | none=>[]
def Kp (ks:List Bool)(x:Ins):Ins:=if x.op=14 then {x with k:=num ks x.k.toNat} else x
def Rs (ks:List Bool)(y:Block):Block:={y with code:=y.code.map (Kp ks)}
def OX (ks:List Bool)(f:Fun):Fun:={f with blocks:=f.blocks.map (Rs ks)}
def KV (l:List Fun):List Bool:=Rq (Nj l) l.length
def fI (l:List Fun):List Fun:=(pick (KV l) l).map (OX (KV l))
def Module.trim (m:Module):Module:=⟨fI (m.funcs.map Fun.trim)⟩
structure FOk (l:List Block):Prop where
 one:1≤l.length
 few:l.length≤12
 op:∀y∈l,1≤y.fin.op∧y.fin.op≤3
 yes:∀y∈l,y.fin.op≠3→0≤y.fin.yes.block∧y.fin.yes.block.toNat<l.length
 no:∀y∈l,y.fin.op=2→0≤y.fin.no.block∧y.fin.no.block.toNat<l.length
section
variable {l:List Block}{b k:Nat}{y:Block}
theorem fJ (h:l[b]?=some y):M5 l b=OB y.fin:=by unfold M5;rw [h]
theorem Qi7 (e:Tail):(OB e).length≤2:=by unfold OB;split;(simp only [ET,Ff];omega);split<;>simp only [ET,Ff]<;>omega
theorem UL (b:Nat):(M5 l b).length≤2:=by unfold M5;split;exact Qi7 _;exact FB _
theorem FOk.lt (h:FOk l):∀b<l.length,∀k∈M5 l b,k<l.length:=by
 intro b hb k hk;have hy:=EH hb;have hm:=Gk hb;rw [fJ hy] at hk;unfold OB at hk;split at hk
 · next h1=>
   rw [Fp] at hk;subst hk;exact (h.yes _ hm Jo).2
 · split at hk
   · next h2=>
     rcases ES.1 hk with rfl|hk
     · exact (h.yes _ hm Jo).2
     · rw [Fp] at hk;subst hk;exact (h.no _ hm h2).2
   · cases hk
theorem oT:(MV l).length=l.length:=tB
theorem FOk.keep (h:FOk l)(k:Nat):(MV l)[k]?=some true↔Come (M5 l) k:=au h.lt h.one k
theorem FOk.yes_kept (h:FOk l)(hy:l[b]?=some y)(hb:(MV l)[b]?=some true)(ho:y.fin.op≠3):(MV l)[y.fin.yes.block.toNat]?=some true:=by
 rw [h.keep] at hb ⊢;refine .next hb ?_;rw [fJ hy];have:=h.op y (EI hy);unfold OB;by_cases h1:y.fin.op=1
 · rw [if_pos h1];exact Fp.2 rfl
 · rw [if_neg h1,if_pos Jo];exact Fh ..
theorem FOk.no_kept (h:FOk l)(hy:l[b]?=some y)(hb:(MV l)[b]?=some true)(ho:y.fin.op=2):(MV l)[y.fin.no.block.toNat]?=some true:=by
 rw [h.keep] at hb ⊢;refine .next hb ?_;rw [fJ hy];unfold OB;rw [if_neg Jo,if_pos ho];simp
end
theorem tO {n:Nat}{t:To}(h:LK n t true=0):0≤t.block∧t.block.toNat<n:=by
 have:=WW h;omega
theorem iO {m:Module}(hF:m.fault.1=0){f:Nat}{x:Fun}(hx:m.funcs[f]?=some x):FOk x.blocks:=by
 have hp:=SJ (P9 hF hx)
 have key:∀y∈x.blocks,QU x.blocks.length y.fin=0:=fun y hy=>by
  obtain ⟨b,hb⟩:=Fj.1 hy;exact (Pp hF hx hb).2.2
 refine ⟨hp.2.2.2.2.1,hp.2.2.2.2.2,fun y hy=>?_,fun y hy ho=>?_,fun y hy ho=>?_⟩
 · have:=SI (key y hy);exact ⟨this.1,this.2.1⟩
 · have:=SI (key y hy);rw [show decide (y.fin.op≠3)=true from decide_eq_true ho] at this;exact tO this.2.2.1
 · have:=SI (key y hy);rw [show decide (y.fin.op=2)=true from decide_eq_true ho] at this;exact tO this.2.2.2
structure MOk (l:List Fun):Prop where
 one:1≤l.length
 few:l.length≤8
 blk:∀f∈l,FOk f.blocks
 call:∀f∈l,∀y∈f.blocks,∀x∈y.code,x.op=14→0≤x.k∧x.k.toNat<l.length
theorem cL {m:Module}(hF:m.fault.1=0):MOk m.funcs:=by
 have hl:=kL hF;refine ⟨hl.1,hl.2,fun f hf=>?_,fun f hf y hy x hx ho=>?_⟩
 · obtain ⟨k,hk⟩:=Fj.1 hf;exact iO hF hk
 · obtain ⟨k,hk⟩:=Fj.1 hf;obtain ⟨b,hb⟩:=Fj.1 hy;have:=oQ ((Pp hF hk hb).2.1 x hx) ho;omega
theorem iP {l:List Fun}{k:Nat}{f:Fun}(h:l[k]?=some f):Nj l k=Oo f.blocks:=by unfold Nj;rw [h]
theorem Qg7 {l:List Ins}{k:Nat}:k∈OW l↔∃x∈l,x.op=14∧x.k.toNat=k:=by
 unfold OW;rw [Fc];constructor
 · rintro ⟨x,hx,rfl⟩;rw [GH] at hx;exact ⟨x,hx.1,of_decide_eq_true hx.2,rfl⟩
 · rintro ⟨x,hx,ho,rfl⟩;exact ⟨x,GH.2 ⟨hx,decide_eq_true ho⟩,rfl⟩
theorem lh {l:List Block}{k:Nat}:k∈Oo l↔∃y∈l,∃x∈y.code,x.op=14∧x.k.toNat=k:=by
 unfold Oo;rw [G6];exact exists_congr fun y=>and_congr_right fun _=>Qg7
theorem tP {l:List Ins}{k:Nat}{x:Ins}(h:l[k]?=some x):OW (l.take (k+1))=OW (l.take k)++(if x.op=14 then [x.k.toNat] else []):=by
 unfold OW;rw [GS,h,JC,Fa];congr 1;by_cases ho:x.op=14
 · simp [ho]
 · simp [ho]
theorem tQ {l:List Block}{k:Nat}{y:Block}(h:l[k]?=some y):Oo (l.take (k+1))=Oo (l.take k)++OW y.code:=by
 unfold Oo;rw [GS,h,Hs];simp
theorem oU {l:List Ins}:(OW l).length≤l.length:=by
 unfold OW;rw [EK];exact Jh _ _
theorem oV:∀{l:List Block},(∀y∈l,y.code.length≤100000)→(Oo l).length≤l.length*100000
 | [],_=>E7 _
 | y::l,h=>by
   have ih:=oV (l:=l) fun z hz=>h z (E9 _ hz);have h1:=h y (Fh ..);have h2:=oU (l:=y.code);show (List.flatMap (fun y=>OW y.code) (y::l)).length≤_;rw [FR,EM,ET];have:(List.flatMap (fun y=>OW y.code) l).length=(Oo l).length:=rfl;omega
theorem oW {l:List Fun}:(KV l).length=l.length:=tB
def LI (l:List Fun):Prop:=∀f∈l,∀y∈f.blocks,∀x∈y.code,x.op=14→0≤x.k∧x.k.toNat<l.length
section
variable {l:List Fun}
theorem LI.lt (h:LI l):∀b<l.length,∀k∈Nj l b,k<l.length:=by
 intro b hb k hk;rw [iP (EH hb),lh] at hk;obtain ⟨y,hy,x,hx,ho,rfl⟩:=hk;exact (h _ (Gk hb) y hy x hx ho).2
theorem LI.kept (h:LI l)(h0:0<l.length){k:Nat}{f:Fun}{y:Block}{x:Ins}(hf:l[k]?=some f)(hk:(KV l)[k]?=some true)(hy:y∈f.blocks)(hx:x∈y.code)(ho:x.op=14):(KV l)[x.k.toNat]?=some true:=by
 have key:=au h.lt h0;refine (key _).2 (.next ((key _).1 hk) ?_);rw [iP hf,lh];exact ⟨y,hy,x,hx,ho,rfl⟩
end
theorem Qfr {l:List Block}{y:Block}(h:y∈Sr l):∃z∈l,y.code=z.code:=by
 unfold Sr at h;obtain ⟨z,hz,rfl⟩:=Fc.1 h;exact ⟨z,cF _ _ hz,rfl⟩
theorem MOk.calls {l:List Fun}(h:MOk l):LI (l.map Fun.trim):=by
 intro f hf y hy x hx ho;obtain ⟨g,hg,rfl⟩:=Fc.1 hf;obtain ⟨z,hz,e⟩:=Qfr hy;rw [EK];exact h.call g hg z hz x (e ▸ hx) ho
theorem UM {l:List Fun}(h:∀f∈l,f.Short)(h2:∀f∈l,f.blocks.length≤12)(b:Nat):(Nj l b).length≤1200000:=by
 unfold Nj;split
 · next f hf=>
   have hm:=EI hf;have:=oV (l:=f.blocks) fun y hy=>((h f hm).2.2.2 y hy).2.1;have:=h2 f hm;omega
 · exact FB _
theorem UN {f:Fun}(h:f.blocks.length≤12):f.trim.blocks.length≤12:=by
 show (Sr f.blocks).length≤_;unfold Sr;rw [EK];exact F3 (aq _ _) h
theorem QfD {y:Block}(h:y.Short):(On ks y).Short:=by
 refine ⟨h.1,h.2.1,h.2.2.1,?_⟩;have:=h.2.2.2;refine ⟨?_,?_,this.2.2⟩
 · show To.Short (if y.fin.op≠3 then Lf ks y.fin.yes else y.fin.yes)
   split
   · exact this.1
   · exact this.1
 · show To.Short (if y.fin.op=2 then Lf ks y.fin.no else y.fin.no)
   split
   · exact this.2.1
   · exact this.2.1
theorem trim_short {f:Fun}(h:f.Short):f.trim.Short:=by
 refine ⟨h.1,h.2.1,?_,fun y hy=>?_⟩
 · show (Sr f.blocks).length≤_;unfold Sr;rw [EK];exact F3 (aq _ _) h.2.2.1
 · have hy:y∈Sr f.blocks:=hy;unfold Sr at hy;obtain ⟨z,hz,rfl⟩:=Fc.1 hy;exact QfD (h.2.2.2 z (cF _ _ hz))
theorem QfB {x:Ins}(h:x.Short):(Kp ks x).Short:=by
 unfold Kp;split
 · exact h
 · exact h
theorem QfC {f:Fun}(h:f.Short):(OX ks f).Short:=by
 refine ⟨h.1,h.2.1,by show (f.blocks.map _).length≤_;rw [EK];exact h.2.2.1,fun y hy=>?_⟩;obtain ⟨z,hz,rfl⟩:=Fc.1 (show y∈f.blocks.map (Rs ks) from hy);have h1:=h.2.2.2 z hz;refine ⟨h1.1,by show (z.code.map _).length≤_;rw [EK];exact h1.2.1,fun i hi=>?_,h1.2.2.2⟩;obtain ⟨x,hx,rfl⟩:=Fc.1 (show i∈z.code.map (Kp ks) from hi);exact QfB (h1.2.2.1 x hx)
theorem Module.trim_short {m:Module}(h:m.Short):m.trim.Short:=by
 unfold Module.trim fI;refine ⟨?_,fun f hf=>?_⟩
 · show ((pick _ _).map _).length≤_;rw [EK];exact F3 (aq _ _) (by rw [EK];exact h.1)
 · obtain ⟨g,hg,rfl⟩:=Fc.1 (show f∈(pick _ _).map _ from hf);obtain ⟨f0,hf0,rfl⟩:=Fc.1 (cF _ _ hg);exact QfC (Go.Lir.trim_short (h.2 f0 hf0))
abbrev JT:=@Module.trim_short
end
end Go.Lir
namespace Go.Proofs.YteflkifmgnpbhaaGreat
open Go.Lir
attribute [local irreducible] LC.wp Q0 Qh Qd Kq Qz LO.wp Q5 Calls
structure HT where
 Tv:TypeId
 Tt:TypeId
 Tr:TypeId
 Th:TypeId
structure ThgV where
 array:Bool
 lv:Value
 l:List Val
def ThgV.abs (t:ThgV):Thg:=⟨t.array,t.l⟩
def ThgV.cells (t:ThgV):List Value:=[.bool t.array,t.lv]
def ThgV.res (H:HT)(t:ThgV):Res:=sl H.Tv 4 t.lv (t.l.map Val.cells)
structure RgnV where
 there:Bool
 lv:Value
 l:List ThgV
 pages:Int
 used:Int
def RgnV.abs (r:RgnV):Rgn:=⟨r.there,r.l.map ThgV.abs,r.pages,r.used⟩
def RgnV.cells (r:RgnV):List Value:=[.bool r.there,r.lv, .int .i64 r.pages, .int .i64 r.used]
def RgnV.res (H:HT)(r:RgnV):Res:=star (sl H.Tt 2 r.lv (r.l.map ThgV.cells)) (Lb (ThgV.res H) r.l)
def RgnV.nil:RgnV:=⟨false, .slice none 0 0,[],0,0⟩
structure HpO (N:Nat) (s:HpS) (rv:List RgnV):Prop where
 hr:rv.map RgnV.abs=s.l
 ok:s.Ok N
section
variable {cx:Cx}{w:World}{L:List Res}{H:HT}
theorem MR {x y:Res}{rv:List RgnV}{k:Nat}{r:RgnV}(hS:St cx w (x::y::Lb (RgnV.res H) rv::L))(hr:rv[k]?=some r):St cx w (sl H.Tt 2 r.lv (r.l.map ThgV.cells)::Lb (ThgV.res H) r.l::x::y::Lb (RgnV.res H) (rv.eraseIdx k)::L):=
 I8 (hS.bigOut Pn hr)
theorem oX {x y:Res}{rv:List RgnV}{k:Nat}{r:RgnV}(hk:k<rv.length)(hS:St cx w (sl H.Tt 2 r.lv (r.l.map ThgV.cells)::Lb (ThgV.res H) r.l::x::y::Lb (RgnV.res H) (rv.eraseIdx k)::L)):St cx w (x::y::Lb (RgnV.res H) (rv.set k r)::L):=
 Jt (f:=RgnV.res H) (x':=r) hS.star' Pn hk
theorem fL {x:Res}{l:List ThgV}{k:Nat}{t:ThgV}(hS:St cx w (x::Lb (ThgV.res H) l::L))(ht:l[k]?=some t):St cx w (sl H.Tv 4 t.lv (t.l.map Val.cells)::x::Lb (ThgV.res H) (l.eraseIdx k)::L):=hS.bigOut OH ht
theorem cM {x:Res}{l:List ThgV}{k:Nat}{t:ThgV}(hk:k<l.length)(hS:St cx w (sl H.Tv 4 t.lv (t.l.map Val.cells)::x::Lb (ThgV.res H) (l.eraseIdx k)::L)):St cx w (x::Lb (ThgV.res H) (l.set k t)::L):=Jt (f:=ThgV.res H) (x':=t) hS OH hk
theorem St.big_push {f:α→Res}{l:List α}{x:α}(h:St cx w (f x::Lb f l::L)):St cx w (Lb f (l++[x])::L):=by
 have h1:St cx w (l.map f++(f x::L)):=h.mv1.list;have h2:St cx w ((l++[x]).map f++L):=(by simpa using h1);exact h2.list'
abbrev Ib:=@St.big_push
theorem St.big_nil (f:α→Res)(h:St cx w L):St cx w (Lb f []::L):=h.emp (r:=Go.Lir.emp) fun _ h=>h
abbrev HW:=@St.big_nil
theorem St.rot1 {a b c:Res}(h:St cx w (a::b::c::d::L)):St cx w (b::c::d::a::L):=St.mv3 (St.mv3 (St.mv3 h))
abbrev HX:=@St.rot1
theorem St.rot2 {a e b c:Res}(h:St cx w (a::e::b::c::d::L)):St cx w (b::c::d::a::e::L):=St.mv4 (St.mv4 (St.mv4 h))
abbrev JU:=@St.rot2
theorem St.rot3 {a e f b c:Res}(h:St cx w (a::e::f::b::c::d::L)):St cx w (b::c::d::a::e::f::L):=St.mv5 (St.mv5 (St.mv5 h))
theorem UO {f:α→Res}{l:List α}{k:Nat}{x y:α}(h:l[k]?=some x)(he:f y=f x):Lb f (l.set k y)=Lb f l:=by
 unfold Lb;rw [F4,he,kq (by rw [EN,h];rfl)]
theorem KW {rv:List RgnV}{m:Nat}{r:RgnV}(h:rv[m]?=some r):(rv.map RgnV.cells)[m]?=some r.cells:=by rw [EN,h];rfl
theorem ax {rv:List RgnV}{m:Nat}{r':RgnV}:(rv.map RgnV.cells).set m r'.cells=(rv.set m r').map RgnV.cells:=F4.symm
theorem lj {rv:List RgnV}{m j:Nat}{r r':RgnV}{u:Value}(h:r.cells.set j u=r'.cells):(rv.map RgnV.cells).set m (r.cells.set j u)=(rv.set m r').map RgnV.cells:=by rw [h];exact ax
theorem OY {tv:List ThgV}{m:Nat}{t:ThgV}(h:tv[m]?=some t):(tv.map ThgV.cells)[m]?=some t.cells:=by rw [EN,h];rfl
theorem ay {l:List Val}{m:Nat}(h:m<l.length):(l.map Val.cells)[m]?=some (l.getD m Val.zero).cells:=OG Val.cells l Val.zero h
theorem Pd {rv:List RgnV}{m:Nat}{r:RgnV}(h:m<rv.length):(rv.set m r)[m]?=some r:=by simp [h]
theorem HpO.len {s:HpS}{rv:List RgnV}(h:HpO N s rv):rv.length=s.l.length:=by rw [←h.hr,EK]
theorem HpO.at_ {s:HpS}{rv:List RgnV}(h:HpO N s rv){k:Nat}(hk:k<rv.length):∃r,rv[k]?=some r∧s.reg k=r.abs∧s.l[k]?=some r.abs:=by
 refine ⟨rv[k],EH hk,?_,?_⟩
 · unfold HpS.reg;rw [if_pos Jo,E5,←h.hr,EL,EN,EH hk];rfl
 · rw [←h.hr,EN,EH hk];rfl
theorem HpO.out {s:HpS}{rv:List RgnV}(h:HpO N s rv){k:Int}(hk:k<0∨(rv.length:Int)≤k):s.has k=false:=by
 have hl:=h.len;unfold HpS.has HpS.reg;split
 · rw [EL,Fk Jo];rfl
 · rfl
theorem HpO.has_in {s:HpS}{rv:List RgnV}(h:HpO N s rv){k:Int}(hk:s.has k=true):∃m:Nat,k=m∧m<rv.length:=by
 by_cases hc:k<0∨(rv.length:Int)≤k
 · rw [h.out hc] at hk;cases hk
 · exact ⟨k.toNat,Jo,Jo⟩
theorem HpO.rng {s:HpS}{rv:List RgnV}(h:HpO N s rv){k:Nat}{r:RgnV}(hr:rv[k]?=some r):r.l.length≤N∧(∀t∈r.l,t.l.length≤1000)∧0≤r.pages∧0≤r.used∧r.used≤1000∧(r.there=false→r.l.length=0∧r.pages=0):=by
 have hm:r.abs∈s.l:=(by rw [←h.hr];exact Fc.2 ⟨r,EI hr,rfl⟩);obtain ⟨h1,h2,h3,h4,h5,h6⟩:=h.ok.each _ hm;refine ⟨by simpa [RgnV.abs] using h1,fun t ht=>h2 t.abs (Fc.2 ⟨t,ht,rfl⟩),h3,h4,h5,fun hf=>?_⟩;have:=h6 hf;simp only [RgnV.abs,Rgn.none,Rgn.mk.injEq,List.map_eq_nil_iff] at this;exact ⟨by rw [this.2.1];rfl,this.2.2.1⟩
end
end Go.Proofs.YteflkifmgnpbhaaGreat
namespace Go.Lir
section
theorem St.lent {c:Cx}{r:Res}(h:St c w (r::L)):∃c' F,c.Le c'∧St c' w L∧r.A c'.H0 F∧(∀b,F b→c'.K b)∧∀{w':World}{L':List Res},St c' w' L'→St c w' (r::L'):=by
 obtain ⟨ok,F,⟨F1,F2,h1,h2,h3,h4⟩,hd⟩:=h;have hle:c.Le ⟨c.base,fun b=>c.K b∨F1 b,w.heap⟩:=⟨rfl,fun b hb=>⟨.inl hb,ok.same b hb⟩,ok.size,ok.lt⟩;refine ⟨⟨c.base,fun b=>c.K b∨F1 b,w.heap⟩,F1,hle,⟨⟨ok.os,ok.tape,ok.output,E7 _,fun b hb=>hb.elim (fun hb=>GM (ok.lt b hb) ok.size) (r.lt h1 b),fun b _=>rfl⟩,F2,h2,?_⟩,h1,fun b hb=> .inr hb,?_⟩
 · rintro b hb (hk|hk)
   · exact hd b ((h4 b).2 (.inr hb)) hk
   · exact h3 b hk hb
 · intro w' L' hS
   have hw:=hS.weak hle;obtain ⟨ok',F',hF',hd'⟩:=hS;refine ⟨hw.1,fun b=>F1 b∨F' b,⟨F1,F',r.loc h1 fun b hb _=>ok'.same b (.inr hb),hF',fun b hb hb'=>hd' b hb' (.inr hb),fun b=>GV⟩,?_⟩;rintro b (hb|hb) hk
   · exact hd b ((h4 b).2 (.inl hb)) hk
   · exact hd' b hb (.inl hk)
theorem St.lend {r:Rep α}{c:Cx}{T:TypeId}{es:Nat}{v:Value}{css:List (List Value)}{l:List α}(h:St c w (sl T es v css::L))(hl:r.ls c css l)(hes:r.es=es)(hm:l.length≤140737488355328):
 ∃c',c.Le c'∧St c' w L∧r.sl c' v l∧∀{w':World}{L':List Res},St c' w' L'→St c w' (sl T es v css::L'):=by
 subst hes;obtain ⟨c',F,h1,h2,h3,h4,h5⟩:=h.lent;exact ⟨c',h1,h2,⟨css,Hn (Sl.toR h3) fun b _ hb=>h4 b hb,hl.up h1,hm⟩,h5⟩
abbrev Jb:=@St.lend
end
section
structure BlkH where
 b:Block
 v:Value
 q:Nat
structure FunH where
 regs:Int
 params:List Ty
 results:List Ty
 blocks:List BlkH
def FunH.to (f:FunH):Fun:=⟨f.regs,f.params,f.results,f.blocks.map (·.b)⟩
def LJ:Rep BlkH where
 es:=12
 pos:=by decide
 R:=fun H K cs x=>∃vp ce,cs= .int .i64 x.b.regs::vp::x.v::ce∧J7.SR H K vp x.b.params∧oneC x.v=true∧K3.R H K ce x.b.fin
 len:=by rintro _ _ _ _ ⟨_,ce,rfl,_,_,h⟩;have:=K3.len h;simp [this,K3]
 one:=by
  rintro _ _ _ _ ⟨_,ce,rfl,h1,h2,h3⟩ u hu;simp at hu;rcases hu with rfl|rfl|rfl|hu
  · rfl
  · exact h1.oneC
  · exact h2
  · exact K3.one h3 u hu
 turn:=by rintro _ _ _ _ _ _ ⟨_,_,rfl,h1,h2,h3⟩ hs;exact ⟨_,_,rfl,h1.turn hs,h2,K3.turn h3 hs⟩
def Mc:Rep FunH where
 es:=4
 pos:=by decide
 R:=fun H K cs x=>∃vp vr vb,cs=[.int .i64 x.regs,vp,vr,vb]∧J7.SR H K vp x.params∧J7.SR H K vr x.results∧LJ.SR H K vb x.blocks
 len:=by rintro _ _ _ _ ⟨_,_,_,rfl,_⟩;rfl
 one:=by
  rintro _ _ _ _ ⟨_,_,_,rfl,h1,h2,h3⟩ u hu;simp at hu;rcases hu with rfl|rfl|rfl|rfl<;>first|rfl|exact h1.oneC|exact h2.oneC|exact h3.oneC
 turn:=by rintro _ _ _ _ _ _ ⟨_,_,_,rfl,h1,h2,h3⟩ hs;exact Cj
theorem lk {c:Cx}{x:BlkH}(h:LJ.at c cs x):∃vp v1 v2 v3 v4 v5,cs=[.int .i64 x.b.regs,vp,x.v, .int .i64 x.b.fin.op, .int .i64 x.b.fin.a, .int .i64 x.b.fin.yes.block,v1,v2, .int .i64 x.b.fin.no.block,v3,v4,v5]∧J7.sl c vp x.b.params∧oneC x.v=true∧JY.sl c v1 x.b.fin.yes.regs∧JY.sl c v2 x.b.fin.yes.args∧JY.sl c v3 x.b.fin.no.regs∧JY.sl c v4 x.b.fin.no.args∧JY.sl c v5 x.b.fin.args:=by
 obtain ⟨vp,ce,rfl,h1,h2,v1,v2,v3,v4,v5,rfl,h3⟩:=h;exact ⟨vp,v1,v2,v3,v4,v5,rfl,h1,h2,h3⟩
theorem tR {c:Cx}{x:BlkH}{v1 v3 v4 v5:Value}(h1:J7.sl c vp x.b.params)(h2:oneC x.v=true)(h3:JY.sl c v1 x.b.fin.yes.regs)(h4:JY.sl c v2 x.b.fin.yes.args)(h5:JY.sl c v3 x.b.fin.no.regs)(h6:JY.sl c v4 x.b.fin.no.args)(h7:JY.sl c v5 x.b.fin.args):
 LJ.at c [.int .i64 x.b.regs,vp,x.v, .int .i64 x.b.fin.op, .int .i64 x.b.fin.a, .int .i64 x.b.fin.yes.block,v1,v2, .int .i64 x.b.fin.no.block,v3,v4,v5] x:=⟨vp,_,rfl,h1,h2,v1,v2,v3,v4,v5,rfl,h3,h4,h5,h6,h7⟩
theorem ll {c:Cx}{x:FunH}(h:Mc.at c cs x):∃vp vr vb,cs=[.int .i64 x.regs,vp,vr,vb]∧J7.sl c vp x.params∧J7.sl c vr x.results∧LJ.sl c vb x.blocks:=h
abbrev P1 (TI:TypeId)(ps:List (Value×List (List Value))):Res:=Lb (fun p:Value×List (List Value)=>sl TI 8 p.1 p.2) ps
def L9 (c:Cx)(ps:List (Value×List (List Value)))(cods:List (List Ins)):Prop:=ps.length=cods.length∧∀(q:Nat) (l:List Ins),cods[q]?=some l→l.length≤100000∧∃p,ps[q]?=some p∧Ky.ls c p.2 l
def Hd (ps:List (Value×List (List Value)))(y:BlkH):Prop:=(ps.map Prod.fst)[y.q]?=some y.v
def BlkH.cur (cods:List (List Ins))(y:BlkH):Block:={y.b with code:=cods.getD y.q []}
def FunH.cur (cods:List (List Ins))(f:FunH):Fun:=⟨f.regs,f.params,f.results,f.blocks.map (·.cur cods)⟩
section
variable {c c':Cx}{ps:List (Value×List (List Value))}{cods:List (List Ins)}{w:World}{L:List Res}{TI:TypeId}
theorem L9.up (h:L9 c ps cods)(hle:c.Le c'):L9 c' ps cods:=⟨h.1,fun q l hl=>by obtain ⟨h0,p,h1,h2⟩:=h.2 q l hl;exact ⟨h0,p,h1,h2.up hle⟩⟩
theorem L9.nil:L9 c [] []:=⟨rfl,fun q l h=>by simp at h⟩
theorem L9.push {v:Value}{l:List Ins}(h:L9 c ps cods)(hl:Ky.ls c css l)(hn:l.length≤100000):L9 c (ps++[(v,css)]) (cods++[l]):=by
 refine ⟨by simp [h.1],fun q k hk=>?_⟩;rcases Gc q cods.length with hq|hq
 · rw [ER hq] at hk;obtain ⟨h0,p,h1,h2⟩:=h.2 q k hk;exact ⟨h0,p,by rw [ER (by rw [h.1];exact hq)];exact h1,h2⟩
 · have hlt:=(EJ.1 hk).1;simp at hlt;obtain rfl:q=cods.length:=Dc;rw [EV (E7 _),Gl] at hk;simp at hk;subst hk;exact ⟨hn,(v,css),by rw [←h.1,EV (E7 _),Gl];rfl,hl⟩
theorem Hd.push {y:BlkH}{p:Value×List (List Value)}(h:Hd ps y):Hd (ps++[p]) y:=by
 unfold Hd at h ⊢;rw [Fa,ER (EJ.1 h).1];exact h
theorem Hd.new {b:Block}{v:Value}:Hd (ps++[(v,css)]) ⟨b,v,ps.length⟩:=by
 unfold Hd;rw [Fa,EV Js];simp
theorem Hd.set {y:BlkH}{v:Value}(h:Hd ps y)(hv:(ps.map Prod.fst)[q]?=some v):Hd (ps.set q (v,css)) y:=by
 unfold Hd at h ⊢;rw [F4];show ((ps.map Prod.fst).set q v)[y.q]?=_;rw [FD];split
 · next e => subst e;rw [hv] at h;split
             · exact h
             · next hn=>exact absurd (EJ.1 hv).1 hn
 · exact h
theorem Hd.at_ {y:BlkH}(h:Hd ps y)(hc:L9 c ps cods){l:List Ins}(hl:cods[y.q]?=some l):∃css,ps[y.q]?=some (y.v,css)∧Ky.ls c css l∧l.length≤100000:=by
 obtain ⟨h0,⟨v,css⟩,h1,h2⟩:=hc.2 _ _ hl;unfold Hd at h;rw [EN,h1] at h;have h:v=y.v:=Dh;subst h;exact ⟨css,h1,h2,h0⟩
theorem L9.set {v:Value}{l:List Ins}(h:L9 c ps cods)(hl:Ky.ls c css l)(hn:l.length≤100000):L9 c (ps.set q (v,css)) (cods.set q l):=by
 refine ⟨by simp [h.1],fun k x hx=>?_⟩;rw [FD] at hx ⊢;by_cases he:q=k
 · rw [if_pos he] at hx ⊢
   rw [h.1];split at hx
   · next hq=>cases hx;exact ⟨hn,_,by rw [if_pos hq],hl⟩
   · cases hx
 · rw [if_neg he] at hx ⊢;exact h.2 k x hx
theorem tS {α:Type}{f:α→Res}{H:Kk}:∀{l:List α}{F:Nat→Prop}{k:Nat}{x:α},(Lb f l).A H F→l[k]?=some x→∃G,(f x).A H G∧∀b,G b→F b
 | [],_,_,_,_,h=>by simp at h
 | y ::l,F,k,x,⟨F1,F2,h1,h2,_,h4⟩,hx=>by
   cases k with
   | zero=>simp at hx;subst hx;exact ⟨F1,h1,fun b hb=>(h4 b).2 (.inl hb)⟩
   | succ k=>
     obtain ⟨G,hG,hs⟩:=tS (l:=l) h2 (by simpa using hx);exact ⟨G,hG,fun b hb=>(h4 b).2 (.inr (hs b hb))⟩
theorem QfZ (hS:St c w (P1 TI ps::L))(hc:L9 c ps cods):∃c',c.Le c'∧St c' w L∧(∀(q:Nat) (l:List Ins) (p:Value×List (List Value)),cods[q]?=some l→ps[q]?=some p→Ky.sl c' p.1 l)∧∀{w':World}{L':List Res},St c' w' L'→St c w' (P1 TI ps::L'):=by
 obtain ⟨c',F,h1,h2,h3,h4,h5⟩:=hS.lent;refine ⟨c',h1,h2,fun q l p hl hp=>?_,h5⟩;obtain ⟨h0,p',hp',hls⟩:=hc.2 q l hl;rw [hp] at hp';cases hp';obtain ⟨G,hG,hsub⟩:=tS h3 hp;exact ⟨p.2,Hn (Sl.toR hG) fun b _ hb=>h4 b (hsub b hb),hls.up h1,Jo⟩
structure Stor (c:Cx) (ps:List (Value×List (List Value))) (ys:List BlkH):Prop where
 cods:L9 c ps (ys.map (·.b.code))
 hd:∀y∈ys,Hd ps y
 qs:ys.map (·.q)=List.range ps.length
theorem Stor.nil:Stor c [] []:=⟨L9.nil,fun _ h=>(EY h).elim,rfl⟩
theorem Stor.up {ys:List BlkH}(h:Stor c ps ys)(hle:c.Le c'):Stor c' ps ys:=⟨h.cods.up hle,h.hd,h.qs⟩
theorem Stor.push {ys:List BlkH}{b:Block}{v:Value}(h:Stor c ps ys)(hl:Ky.ls c css b.code)(hn:b.code.length≤100000):Stor c (ps++[(v,css)]) (ys++[⟨b,v,ps.length⟩]):=by
 refine ⟨?_,fun y hy=>?_,?_⟩
 · rw [Fa];exact h.cods.push hl hn
 · rcases E3.1 hy with hy|hy
   · exact (h.hd y hy).push
   · rw [Fp] at hy;subst hy;exact Hd.new
 · rw [Fa,h.qs,EM];show _=List.range (ps.length+1);rw [Hq];rfl
theorem Stor.nodup {ys:List BlkH}(h:Stor c ps ys):(ys.map (·.q)).Nodup:=by rw [h.qs];exact List.nodup_range
theorem Stor.code {ys:List BlkH}(h:Stor c ps ys){y:BlkH}(hy:y∈ys):(ys.map (·.b.code))[y.q]?=some y.b.code:=by
 obtain ⟨i,hi⟩:=Fj.1 hy;have h1:(ys.map (·.q))[i]?=some y.q:=(by rw [EN,hi];rfl);rw [h.qs] at h1;have h2:=(EJ.1 h1).2;rw [HB] at h2;subst h2;rw [EN,hi];rfl
def Rt (f:Ins→Ins)(cods:List (List Ins))(y:BlkH):List (List Ins):=cods.set y.q (y.b.code.map f)
def NO (f:Ins→Ins)(cods:List (List Ins))(ys:List BlkH):List (List Ins):=ys.foldl (Rt f) cods
theorem QhJ {f:Ins→Ins}{ys:List BlkH}{y:BlkH}:NO f cods (ys++[y])=Rt f (NO f cods ys) y:=by unfold NO;rw [List.foldl_append];rfl
theorem oY {f:Ins→Ins}:∀{ys:List BlkH}{cods:List (List Ins)}{q:Nat},q∉ys.map (·.q)→(NO f cods ys)[q]?=cods[q]?
 | [],_,_,_=>rfl
 | y::ys,cods,q,h=>by
   rw [FM,ES,not_or] at h;show (NO f (Rt f cods y) ys)[q]?=_;rw [oY h.2];unfold Rt;rw [Gd (G4 h.1)]
theorem tT {f:Ins→Ins}:∀{ys:List BlkH}{cods:List (List Ins)}{y:BlkH},(ys.map (·.q)).Nodup→y∈ys→y.q<cods.length→(NO f cods ys)[y.q]?=some (y.b.code.map f)
 | z ::ys,cods,y,hn,hy,hq=>by
   rw [FM,GG] at hn;show (NO f (Rt f cods z) ys)[y.q]?=_;rcases ES.1 hy with rfl|hy
   · rw [oY hn.1];unfold Rt;rw [Gf hq]
   · exact tT hn.2 hy (by unfold Rt;rw [Fe];exact hq)
end
end
end Go.Lir
namespace Go.Proofs.YteflkifmgnpbhaaGreat
open Go.Lir
attribute [local irreducible] LC.wp Q0 Qh Qd Kq Qz LO.wp Q5 Calls
theorem Ym {n:Nat}(h:n≤100000):IntKind.u64.wrap (n:Int)=(n:Int):=by
 unfold IntKind.wrap;simp [IntKind.bits,IntKind.signed];omega
variable {cx:Cx}{w:World}{L:List Res}
theorem cN {v:Value}(hn:l.length≤12)(hS:St cx w (sl 3 1 v (l.map KQ)::L)):
 JW Tryz.prog Q5G [v] w fun _ w'=>∃l',Ns l' l'.length l'.length∧(OT l→OT l')∧(∀z,z∈l'↔z∈l)∧l'.length=l.length∧St cx w' (sl 3 1 v (l'.map KQ)::L):=by
 (all_goals refine Kd Kc Tryz.func146 ?_);all_goals (refine' KH;refine mU hS rfl fd ?_;rw [EK];refine' Kg;refine' SK;refine mF rfl ?_;rw [Ym (n:=l.length) Jo];refine' Kv (c:=iK hn hS);rintro v1 w1 ⟨⟨k9,rfl⟩,hS⟩;refine' Nb (c:=iL hn hS);rintro v1 w1 ⟨l',ho',hd',hm',hl',hS⟩;refine' zn;refine' Mo;exact ⟨_,rfl,l',ho',hd',hm',hl',hS.sp⟩)
theorem ln {c:Cx}(l:List Int):JY.ls c (l.map KQ) l:=⟨by simp,fun m x hx=>⟨KQ x,by rw [EN,hx];rfl,rfl⟩⟩
theorem tU:∀l:List Int,(l.map KQ).flatten=l.map fun x=>Value.int .i64 x
 | []=>rfl
 | x::l=>by rw [FM,GU,tU l];rfl
theorem iQ {b n:Nat}{T:TypeId}{cs:List Value}(hS:St cx w (blk b T cs::L))(hc:cs=l.map fun x=>Value.int .i64 x)(hn:l.length=n)(hm:n≤100000):∃c',cx.Le c'∧St c' w L∧JY.sl c' (.slice (some ⟨b,0,none⟩) n n) l:=by
 subst hc hn;have hS:=Gp (es:=1) (n:=l.length) (css:=l.map KQ) hS (tU l) (by intro c hc;obtain ⟨x,_,rfl⟩:=Fc.1 hc;rfl) Js;obtain ⟨c3,h1,h2,h3⟩:=FI (r:=JY) hS (ln l) rfl Jo;exact ⟨c3,h1,h2,h3⟩
theorem Yn {y:BlkH}(ho:1≤y.b.fin.op∧y.b.fin.op≤3)(h1:y.b.fin.op≠3→0≤y.b.fin.yes.block)(h2:y.b.fin.op=2→0≤y.b.fin.no.block)(hy:LJ.at cx cs y)(hS:St cx w L):JW Tryz.prog Qfl [.agg ⟨cs⟩] w fun u w'=>∃c',cx.Le c'∧JY.sl c' u ((OB y.b.fin).map fun k:Nat=>(k:Int))∧St c' w' L:=by
 (((obtain ⟨vp,v1,v2,v3,v4,v5,rfl,g1,g2,g3,g4,g5,g6,g7⟩:=lk hy;all_goals refine Kd Kc Tryz.func145 ?_);all_goals (refine' KO;intro p1 w1 hS;refine' Kg;refine' M3;refine' Sm;refine zl hS ?_;refine' Si;refine' Ki));all_goals (first|(refine' Ql)|(refine' Qn)|(refine' Ac<;>intro hc)));all_goals (refine' Kg)
 all_goals
  first
  | (refine' J0
     (all_goals (refine' Ki);all_goals (first|(refine' Ql)|(refine' Qn)|(refine' Ac<;>intro hc)));all_goals (refine' Kg)
     all_goals
      first
      | (refine' J0;all_goals refine' J5)
      | (refine' JZ;all_goals (refine' Ki;refine' Sm;refine' MH;refine zl hS ?_;refine' Sm;refine' MH;refine zl hS ?_;refine nO hS [_,_] ?_;intro b1 w1 hS;refine' KN);all_goals (first|(have e:OB y.b.fin=[y.b.fin.yes.block.toNat]:=Eb;obtain ⟨c3,hle3,hS,hl3⟩:=iQ (l:=[y.b.fin.yes.block]) hS rfl rfl Js;exact BQ)|(have e:OB y.b.fin=[y.b.fin.yes.block.toNat,y.b.fin.no.block.toNat]:=Eg;obtain ⟨c3,hle3,hS,hl3⟩:=iQ (l:=[y.b.fin.yes.block,y.b.fin.no.block]) hS rfl rfl Js;exact Cr))))
  | (refine' JZ;all_goals (refine' Ki;refine' Sm;refine' MH;refine zl hS ?_;refine KY hS [_] ?_;intro b1 w1 hS;refine' KN);all_goals (have e:OB y.b.fin=[y.b.fin.yes.block.toNat]:=Eb;obtain ⟨c3,hle3,hS,hl3⟩:=iQ (l:=[y.b.fin.yes.block]) hS rfl rfl Js;exact BQ))
 all_goals (refine' Kw;(first|(have e:OB y.b.fin=[y.b.fin.yes.block.toNat]:=Eb;obtain ⟨c3,hle3,hS,hl3⟩:=iQ (l:=[y.b.fin.yes.block]) hS rfl rfl Js;exact BQ)|(have e:OB y.b.fin=[y.b.fin.yes.block.toNat,y.b.fin.no.block.toNat]:=Eg;obtain ⟨c3,hle3,hS,hl3⟩:=iQ (l:=[y.b.fin.yes.block,y.b.fin.no.block]) hS rfl rfl Js;exact Cr)|(have e:OB y.b.fin=[]:=(by unfold OB;rw [if_neg Jo,if_neg Jo]);exact ⟨_,rfl,cx,Fq hS,(by rw [e];exact FL _ _ _),hS.sp⟩)))
def slen (v:Value):Nat:=match v with
 | .slice _ n _=>n
 | _=>0
theorem St.slen {c:Cx}{i T es:Nat}{v:Value}{css:List (List Value)}(hS:St c w L)(hi:nth L i=some (sl T es v css)):slen v=css.length:=by
 obtain ⟨F,hr,_⟩:=hS.step hi;obtain ⟨a,n,rfl⟩:=Sl.shape hr;rfl
abbrev Iu:=@St.slen
def UP (P:Program)(g:FuncId)(cap:List Value)(adj:Nat→List Nat)(n:Nat)(cx:Cx)(r:Res):Prop:=
 ∀(k:Nat){c:Cx}{w:World}{M:List Res}{i:Nat},cx.Le c→k<n→nth M i=some r→St c w M→JW P g ([.int .i64 k]++cap) w fun u w'=>∃c',c.Le c'∧JY.sl c' u ((adj k).map fun k:Nat=>(k:Int))∧St c' w' M
theorem UQ {n:Nat}{adj:Nat→List Nat}{g:FuncId}{cap:List Value}{D:Nat}{r:Res}(h0:0<n)(h12:n≤12)(ha:∀b<n,∀k∈adj b,k<n)(hD:∀b,(adj b).length≤D)(hDm:D≤100000000)(hg:PF Tryz.prog g=true)(hn:UP Tryz.prog g cap adj n cx r)(hS:St cx w (r::L)):
 JW Tryz.prog zU [.int .i64 n, .func (.func g) #[] ⟨cap⟩] w fun u w'=>∃c',cx.Le c'∧St c' w' (sl 3 1 u (((LA (Rq adj n)).map fun k:Nat=>(k:Int)).map KQ)::r::L):=by
 ((have hmul:n*(D+1)≤12*(D+1):=FQ _ h12;all_goals refine Kd Kc Tryz.func86 ?_);all_goals (refine' Oi;refine r6 fx hS rfl rfl Jo Jo ?_;intro vs w1 hS;rw [E5,show List.replicate n [Value.bool false]=(List.replicate n false).map QG by rw [JD];rfl] at hS;refine' Kg;refine' Ki;refine KY hS [_] ?_;intro b1 w1 hS;refine' Kg;refine' LG;refine' nS;have hS:=Gp (es:=1) (n:=1) (css:=[(0:Int)].map KQ) hS rfl D5 rfl;have hS:=hS.nil (T:=3) (es:=1)));refine zo [1] (fun A ρ' w'=>∃(k0:Cx) (seen:List Bool) (todo out:List Int) (vs vt vo:Value),J2 ρ' A∧J2 ρ' [(5,vs),(6,vt),(7,vo)]∧(cx.Le k0)∧(WI adj n seen todo out)∧((n - out.length)*(D+1)+todo.length≤n*(D+1)+1)∧St k0 w' (sl 4 1 vs (seen.map QG)::sl 3 1 vt (todo.map KQ)::sl 3 1 vo (out.map KQ)::r::L)) (fun ρ' _=>(n - slen (ρ' 7))*(D+1)+slen (ρ' 6)) ?_ ?_
 · exact ⟨cx,List.replicate n false,[0],[],vs,_, .slice none 0 0,zh,zh,Fq hS,WI.begin h0,Js,hS.sp⟩
 (rintro ρ w1 ⟨k0,seen,todo,out,vs,vt,vo,hA,hρ,hle2,hW,hsz,hS⟩;obtain ⟨ρ,rfl⟩:=J3 hA hρ;have hL0:=hle2;have hslt:=Iu hS (i:=1) rfl;have hslo:=Iu hS (i:=2) rfl;have hW1:=hW.le;rw [EK] at hslt hslo;have hlsn:=hW.len;all_goals (refine' MN;refine mU hS rfl (i:=1) rfl ?_;rw [EK];refine eS rfl rfl ?_;refine' zn));refine' Ab<;>intro hc
 · skip
   (((all_goals (refine' J5;refine' bf;refine Qu ?_);all_goals (rcases todo with _|⟨z,t⟩;(exfalso;simp at hc);obtain ⟨k,rfl,hkn,hks⟩:=hW.head ha h0;obtain ⟨bv,hbv⟩:∃b,seen[k]?=some b:=⟨_,EH hks⟩;have hlt1:((k:Int)::t).length=t.length+1:=rfl));all_goals (refine' LF;refine ML (m:=0) hS rfl rfl (i:=1) rfl Js ?_;intro b8 o8 hl8;refine Q2 (j:=0) hS hl8 rfl (i:=1) rfl rfl rfl rfl ?_;refine' LZ;refine Tx (l':=1) (h':=(((k:Int)::t).map KQ).length) hS rfl (i:=1) rfl rfl rfl ⟨_,rfl⟩ (E7 _) Js ?_;intro v7 hS;rw [HS] at hS;have hS:St k0 _ (sl 4 1 vs (seen.map QG)::sl 3 1 v7 (t.map KQ)::sl 3 1 vo (out.map KQ)::r::L):=hS;have hS:=hS.ns;refine' Kg;refine' KL;refine ML (m:=k) hS rfl rfl (i:=0) rfl Df ?_;intro b9 o9 hl9));all_goals (refine Q2 (j:=0) hS hl9 rfl (i:=0) rfl rfl (by rw [EN,hbv];rfl) rfl ?_;cases bv));all_goals (refine' Oh)
   all_goals
    first
    | (refine' JZ;all_goals (refine Qu ?_;have hWn:=hW.take hbv;have h9:=hWn.le;rw [EM,Hf] at h9;obtain ⟨e9,he9⟩:∃e,n - out.length=e+1:=⟨n - out.length - 1,Jo⟩;have hmul9:=G3 e9 (D+1);rw [←Nat.add_one,←he9] at hmul9;refine' Oj;refine ML (m:=k) hS rfl rfl (i:=0) rfl Df ?_;intro b9 o9 hl9;refine O2 (j:=0) (css':=(seen.set k true).map QG) hS hl9 rfl rfl (i:=0) rfl rfl (by rw [EN,hbv];rfl) Jd rfl (by rw [F4];rfl) ?_;intro w9 hS;have hS:=hS.ns;refine' zn;refine' KL;refine KY hS [_] ?_;intro b1 w1 hS;refine Nv Ro (.inl RQ) hS vw vw fd (hS.srcB1 fd rfl) De ?_;intro vp w2 hS;have hS:=hS.ns;rw [show out.map KQ++[[Value.int .i64 k]]=(out++[(k:Int)]).map KQ by rw [Fa];rfl] at hS;refine' Kg;refine' SK);all_goals (refine TS rfl hg rfl (hn k (i:=4) Ja hkn rfl hS) ?_;rintro v1 w1 ⟨c3,hle2,hl3,hS⟩;(try have hL0:=hL0.trans hle2));all_goals (have hDk:=hD k;refine Nv Ro (.inl RQ) hS vw vw fd (hl3.ints.src hS Qch) De ?_;intro vq w3 hS;have hS:=hS.ns;rw [←Fa] at hS;refine' zm);all_goals refine' zn)
    | (refine' J0;all_goals refine' J5)
   all_goals ((first|(exact ⟨⟨_,seen,t,out,vs,v7,vo,zh,zh,hL0,hW.skip hbv,Jo,hS.sp⟩,(by (have h7:=Iu hS (v:=v7) (i:=1) rfl;rw [EK] at h7;show (n - slen vo)*(D+1)+slen v7<(n - slen vo)*(D+1)+slen vt;omega))⟩)|(exact ⟨⟨_,seen.set k true,_,_,vs,vq,vp,zh,zh,hL0,hWn,(by have hDk:=hD k;rw [EM,EM,EK,Hf,show n - (out.length+1)=e9 by omega];omega),hS.sp⟩,(by first|(have h7:=Iu hS (v:=v7) (i:=1) rfl;rw [EK] at h7;show (n - slen vo)*(D+1)+slen v7<(n - slen vo)*(D+1)+slen vt;omega)|(have hq:=Iu hS (v:=vq) fd;have hp:=Iu hS (v:=vp) fd;have hDk:=hD k;rw [EK,EM,EK] at hq;rw [EK,EM,Hf] at hp;show (n - slen vp)*(D+1)+slen vq<(n - slen vo)*(D+1)+slen vt;rw [hp,hq,hslo,hslt,show n - (out.length+1)=e9 by omega];omega))⟩)))
 · skip;all_goals (refine' K2;refine' KH);all_goals (obtain rfl:todo=[]:=(by cases todo with|nil=>rfl|cons z t=>exfalso;simp at hc);refine' Kv (c:=cN Jo hS.drop.drop);rintro v1 w1 ⟨l',ho',hd',hm',hl',hS⟩);all_goals (refine' zn;refine' O9;exact ⟨_,rfl,k0,hL0,(by rw [←hW.sorted ha h0 ho' (hd' hW.dif) hm'];exact hS)⟩)
end Go.Proofs.YteflkifmgnpbhaaGreat
namespace Go.Lir
def Ss (ks:List Bool)(y:BlkH):BlkH:={y with b:=On ks y.b}
def FunH.trim (f:FunH):FunH:={f with blocks:=(pick (MV (f.blocks.map (·.b))) f.blocks).map (Ss (MV (f.blocks.map (·.b))))}
theorem FunH.trim_to (f:FunH):f.trim.to=f.to.trim:=by
 unfold FunH.trim FunH.to Fun.trim Sr;simp only [Gn,oH];rfl
abbrev Jc:=@FunH.trim_to
theorem oZ {c:Cx}{x:BlkH}{ks:List Bool}{v1 v3 v4 v5:Value}{ny nn:Int}(h1:J7.sl c vp x.b.params)(h2:oneC x.v=true)(h3:JY.sl c v1 x.b.fin.yes.regs)(h4:JY.sl c v2 x.b.fin.yes.args)(h5:JY.sl c v3 x.b.fin.no.regs)(h6:JY.sl c v4 x.b.fin.no.args)(h7:JY.sl c v5 x.b.fin.args)
 (hy:ny=if x.b.fin.op≠3 then (num ks x.b.fin.yes.block.toNat:Int) else x.b.fin.yes.block)(hn:nn=if x.b.fin.op=2 then (num ks x.b.fin.no.block.toNat:Int) else x.b.fin.no.block):
 LJ.at c [.int .i64 x.b.regs,vp,x.v, .int .i64 x.b.fin.op, .int .i64 x.b.fin.a, .int .i64 ny,v1,v2, .int .i64 nn,v3,v4,v5] (Ss ks x):=by
 obtain ⟨⟨r,p,co,⟨op,a,yes,no,args⟩⟩,v,q⟩:=x;subst hy hn
 have e:Ss ks ⟨⟨r,p,co,⟨op,a,yes,no,args⟩⟩,v,q⟩=⟨⟨r,p,co,⟨op,a,⟨if op≠3 then (num ks yes.block.toNat:Int) else yes.block,yes.regs,yes.args⟩,⟨if op=2 then (num ks no.block.toNat:Int) else no.block,no.regs,no.args⟩,args⟩⟩,v,q⟩:=by
  unfold Ss On Mj Lf;by_cases h3:op≠3<;>by_cases h2:op=2<;>simp [h3,h2]
 rw [e];exact tR (x:=⟨⟨r,p,co,⟨op,a,⟨if op≠3 then (num ks yes.block.toNat:Int) else yes.block,yes.regs,yes.args⟩,⟨if op=2 then (num ks no.block.toNat:Int) else no.block,no.regs,no.args⟩,args⟩⟩,v,q⟩) h1 h2 h3 h4 h5 h6 h7
end Go.Lir
namespace Go.Proofs.YteflkifmgnpbhaaGreat
open Go.Lir
attribute [local irreducible] LC.wp Q0 Qh Qd Kq Qz LO.wp Q5 Calls
section
attribute [local irreducible] MV Rq pick LA
variable {cx:Cx}{w:World}{L:List Res}
theorem Yo {f:FunH}{p:Nat}{vr vb:Value}(hok:FOk (f.blocks.map (·.b)))(hb:LJ.sl cx vb f.blocks):UP Tryz.prog ti [.pointer (some ⟨p,0,none⟩)] (M5 (f.blocks.map (·.b))) f.blocks.length cx (blk p 95 [.int .i64 f.regs,vp,vr,vb]):=by
 (((intro k cx w L i hle hk hi hS;have hb:=hb.up hle;show JW Tryz.prog ti [.int .i64 k, .pointer (some ⟨p,0,none⟩)] w _;all_goals refine Kd Kc Tryz.func144 ?_);all_goals (refine' LG;refine' Ki;refine' L7;refine eW hS rfl hi rfl ?_;refine' zm;refine RD (m:=k) vw rfl hb rfl hk ?_;intro b1 o1 cs1 x1 hat1 hx1 he1;have he9:=he1;obtain ⟨w1,w2,w3,w4,w5,w6,rfl, -⟩:=lk he1;refine' MZ));all_goals (have hx9:(f.blocks.map (·.b))[k]?=some x1.b:=(by rw [EN,hx1];rfl);have hm9:=EI hx9;refine' Kv (c:=Yn (hok.op _ hm9) (fun h=>(hok.yes _ hm9 h).1) (fun h=>(hok.no _ hm9 h).1) he9 hS);rintro v1 w1 ⟨c3,hle3,hl3,hS⟩));all_goals (refine' KN;exact ⟨_,rfl,c3,hle3,(by rw [fJ hx9];exact hl3),hS.sp⟩)
theorem UR {f:FunH}(hok:FOk (f.blocks.map (·.b)))(hf:Mc.at cx cs f)(hS:St cx w L):JW Tryz.prog zT [.agg ⟨cs⟩] w fun u w'=>∃c' ds,u= .agg ⟨ds⟩∧cx.Le c'∧Mc.at c' ds f.trim∧St c' w' L:=by
 (((((obtain ⟨vp,vr,vb,rfl,hp,hr,hb⟩:=ll hf;obtain ⟨a0,n0,rfl⟩:=EU hb;have hone:=hok.one;have ovp:=hp.oneC;have ovr:=hr.oneC;have hfew:=hok.few;rw [EK] at hone hfew;have hkl:(MV (f.blocks.map (·.b))).length=f.blocks.length:=(by rw [oT,EK]);have hil:=oM hkl;have hpl:=aq (MV (f.blocks.map (·.b))) f.blocks;have hle:=Fq hS;have ekb:Rq (M5 (f.blocks.map (·.b))) f.blocks.length=MV (f.blocks.map (·.b)):=(by unfold MV;rw [EK]);generalize hKs:MV (f.blocks.map (·.b))=Ks at*;generalize hI:LA Ks=I at*;have hZ:f.trim.blocks=(pick Ks f.blocks).map (Ss Ks):=(by unfold FunH.trim;rw [hKs]);have hZl:f.trim.blocks.length=I.length:=(by rw [hZ,EK,hil]);have hsort:∀k,k∈I↔Ks[k]?=some true:=fun k=>by rw [←hI];exact iJ Ks k);all_goals refine Kd Kc Tryz.func85 ?_);all_goals (refine' KO;intro p1 w1 hS;refine Qe hS ?_;intro p2 w1 hS;refine' OR;refine' zL;refine' gx));all_goals (refine' J9 (c:=UQ (n:=f.blocks.length) (D:=2) (adj:=M5 (f.blocks.map (·.b))) Jo hfew (by have:=hok.lt;rw [EK] at this;exact this) UL Jd Jk (Yo hok hb) (hS.out fd));rintro v1 w1 ⟨c1,hle2,hS⟩;(try have hle:=hle.trans hle2);(try have hf:=hf.up hle2);(try have hp:=hp.up hle2);(try have hr:=hr.up hle2);(try have hb:=hb.up hle2);rw [ekb,hI] at hS;obtain ⟨c2,hle2,hS2,hl⟩:=FI (r:=JY) hS (ln _) rfl De;(try have hle:=hle.trans hle2);(try have hf:=hf.up hle2);(try have hp:=hp.up hle2);(try have hr:=hr.up hle2);(try have hb:=hb.up hle2);obtain ⟨a5,n5,e5⟩:=EU hl;rw [EK] at e5;subst e5;have hS:St c2 _ (blk p1 95 [.int .i64 f.regs,vp,vr, .slice a0 f.blocks.length n0]::blk p2 95 [.int .i64 0, .slice none 0 0, .slice none 0 0, .slice none 0 0]::L):=hS2));all_goals (refine' Kg;refine' Nr;refine Qe hS ?_;intro p4 w1 hS;refine Ka hS ?_;intro w1 hS;have hS:=hS.ns;refine' W8;refine' PS;intro w1 hS;have hS:=hS.ns;refine' zn;refine' MN;refine' PQ));refine zo [1,2,3,4,15,16] (fun A ρ' w'=>∃(k0:Cx) (j:Nat) (ub:Value) (css:List (List Value)),J2 ρ' A∧J2 ρ' [(17, .int .i64 j)]∧(c2.Le k0)∧(j≤I.length)∧(LJ.ls k0 css (f.trim.blocks.take j))∧(oneC ub=true)∧St k0 w' (sl 92 12 ub css::blk p4 95 [.int .i64 f.regs,vp,vr,ub]::blk p1 95 [.int .i64 f.regs,vp,vr, .slice a0 f.blocks.length n0]::blk p2 95 [.int .i64 0, .slice none 0 0, .slice none 0 0, .slice none 0 0]::L)) (fun ρ' _=>(I.length - iv (ρ' 17)).toNat) ?_ ?_
 · exact ⟨c2,0, .slice none 0 0,[],zh,zh,Fq hS,Jo,FY _ _ _,rfl,by have hS:=hS.nil (T:=92) (es:=12);exact hS.sp⟩
 (rintro ρ w1 ⟨k0,j,ub,css,hA,hρ,hle2,hj,hls,hub,hS⟩;obtain ⟨ρ,rfl⟩:=J3 hA hρ;have hL0:=hle2;(try have hle:=hle.trans hle2);(try have hl:=hl.up hle2);(try have hf:=hf.up hle2);(try have hp:=hp.up hle2);(try have hr:=hr.up hle2);(try have hb:=hb.up hle2);have hoo:=And.intro ovr hub;have hoo2:=And.intro ovp hoo;all_goals (refine' Mq));refine' Ab<;>intro hc
 · skip
   (((all_goals (refine' Rk;intro b1 o1 cs1 x1 hat1 hx1 he1;obtain rfl:=Qs he1;refine' M1;refine' Kg);all_goals (obtain ⟨k,hk,rfl⟩:∃k:Nat,I[j]?=some k∧(k:Int)=x1:=(by rw [EN] at hx1;cases e:I[j]? with|none=>rw [e] at hx1;cases hx1|some k=>rw [e] at hx1;exact ⟨k,rfl,by simpa using hx1⟩);have hj9:=(EJ.1 hk).1;have hkt:=(hsort k).1 (EI hk);have hkn:=(EJ.1 hkt).1));all_goals (refine' Ni;refine' zm;refine RD (m:=k) vw rfl hb rfl Jo ?_;intro b2 o2 cs2 x2 hat2 hx2 he2;obtain ⟨vp2,ve21,ve22,ve23,ve24,ve25,rfl,hp2,ho2,he21,he22,he23,he24,he25⟩:=lk he2;have hx9:(f.blocks.map (·.b))[k]?=some x2.b:=(by rw [EN,hx2];rfl);have hm9:=EI hx9;have hzj:f.trim.blocks[j]?=some (Ss Ks x2):=(by rw [hZ,EN,kY hkl (by rw [hI];exact hk),hx2];rfl);rw [←hKs] at hkt;have hyk:=hok.yes_kept hx9 hkt;have hnk:=hok.no_kept hx9 hkt;rw [hKs] at hyk hnk;have hy0:=hok.yes _ hm9;have hn0:=hok.no _ hm9;refine' MI;intro p7 w1 hS;refine Ka hS ?_;intro w1 hS;have hS:=hS.ns;refine' zn;refine' M3;refine' Sm;refine zl hS ?_));all_goals (first|(refine' Qy)|(refine' QD)|(refine' Ad<;>intro hc)));all_goals (refine' zn)
   all_goals
    first
    | (refine' J0;all_goals (have h31:=hc);all_goals refine' J5)
    | (refine' JZ;all_goals (have h31:=hc;refine' LF;refine' Sm;refine' MH;refine zl hS ?_;have hfy:=oL (hyk Jo);rw [hI,Fb (hy0 Jo).1] at hfy;refine' J9 (c:=oN hl Df hS);rintro v1 w1 ⟨rfl,hS⟩;rw [hfy];refine' Sm;refine' MH;refine LP hS ?_;intro w1 hS;have hS:=hS.ns);all_goals refine' zn)
   (all_goals (refine' M3;refine' Sm;refine zl hS ?_);all_goals (first|(refine' Ql)|(refine' Qn)|(refine' Ac<;>intro hc)));all_goals (refine' zn)
   all_goals
    first
    | (refine' JZ;all_goals (have h22:=hc;refine' LF;refine' Sm;refine' MH;refine zl hS ?_;have hfn:=oL (hnk Jo);rw [hI,Fb (hn0 Jo).1] at hfn;refine' J9 (c:=oN hl Df hS);rintro v1 w1 ⟨rfl,hS⟩;rw [hfn];refine' Sm;refine' MH;refine LP hS ?_;intro w1 hS;have hS:=hS.ns);all_goals refine' zn)
    | (refine' J0;all_goals (have h22:=hc);all_goals refine' J5)
   all_goals ((first|(have hk9:=oZ (c:=k0) (x:=x2) (ks:=Ks) (ny:=(num Ks x2.b.fin.yes.block.toNat:Int)) (nn:=(num Ks x2.b.fin.no.block.toNat:Int)) hp2 ho2 he21 he22 he23 he24 he25 (if_pos h31).symm (if_pos h22).symm)|(have hk9:=oZ (c:=k0) (x:=x2) (ks:=Ks) (ny:=(num Ks x2.b.fin.yes.block.toNat:Int)) (nn:=x2.b.fin.no.block) hp2 ho2 he21 he22 he23 he24 he25 (if_pos h31).symm (if_neg h22).symm)|(have hk9:=oZ (c:=k0) (x:=x2) (ks:=Ks) (ny:=x2.b.fin.yes.block) (nn:=x2.b.fin.no.block) hp2 ho2 he21 he22 he23 he24 he25 (if_neg h31).symm (if_neg (show¬x2.b.fin.op=2 by omega)).symm));refine' W1;refine KY hS [_,_,_,_,_,_,_,_,_,_,_,_] ?_;intro b1 w1 hS;refine za kS RT hS ?_;intro vp1 w1 css1 hls1 hv1 hS;have hS:=hS.ns;refine' PS;intro w1 hS;have hS:=hS.ns;refine' PX;exact ⟨⟨_,j+1,_,_,zh,zh,hL0,Jo,(by rw [OI hzj];assumption),by assumption,hS.sp⟩,Qb Jo⟩)
 · skip;all_goals (refine' K2;refine' Nr;refine Ka hS ?_;intro w1 hS;have hS:=hS.ns;refine' L8;refine Lw vw (Q4 (n:=4) Jk Jk (hS.blkAt fd) Jr Jr) ?_);all_goals (rw [EK] at hc;obtain ⟨c6,hle2,hS,hk6⟩:=FI (r:=LJ) (l:=f.trim.blocks) hS DJ rfl Jo;(try have hle:=hle.trans hle2);(try have hL0:=hL0.trans hle2);(try have hl:=hl.up hle2);(try have hf:=hf.up hle2);(try have hls:=hls.up hle2);(try have hp:=hp.up hle2);(try have hr:=hr.up hle2);(try have hb:=hb.up hle2);exact ⟨_,rfl,c6,_,rfl,hle,⟨_,_,_,rfl,hp,hr,hk6⟩,hS.sp⟩)
end
section
theorem QhK {x:Module}(hsm:x.Short)(hx:K6.at cx cs x)(hS:St cx w L):JW Tryz.prog sY [.agg ⟨cs⟩] w fun u w'=>∃c' ds,u= .agg ⟨ds⟩∧cx.Le c'∧K6.at c' ds x∧St c' w' L:=by
 obtain ⟨vf,rfl,hf⟩:=NV hx;obtain ⟨l⟩:=x;have hf:Kj.sl cx vf l:=hf;have hsl:l.length≤100000:=hsm.1;have hsm:∀f∈l,f.Short:=hsm.2;have hle:=Fq hS;refine Kd Kc Tryz.func64 ?_;refine' KO;intro p1 w1 hS;refine Qe hS ?_;(intro p2 w1 hS);refine' zn;refine' Rf;(intro p3 w1 hS);refine' zn;refine' SQ;refine zo [2,3,13,14] (fun A ρ' w'=>∃(k0:Cx) (j:Nat) (u:Value) (css:List (List Value)),J2 ρ' A∧J2 ρ' [(15, .int .i64 j)]∧(cx.Le k0)∧(j≤l.length)∧(Kj.ls k0 css (l.take j))∧(oneC u=true)∧St k0 w' (sl 95 4 u css::blk p3 24 [u]::blk p2 24 [.slice none 0 0]::blk p1 24 [vf]::L)) (fun ρ' _=>(l.length - iv (ρ' 15)).toNat) ?_ ?_
 · exact ⟨cx,0, .slice none 0 0,[],zh,zh,Fq hS,Jo,FY _ _ _,rfl,by have hS:=hS.nil (T:=95) (es:=4);exact hS⟩
 rintro ρ w1 ⟨k0,j,u,css,hA,hρ,hle2,hj,hls,hu,hS⟩;obtain ⟨ρ,rfl⟩:=J3 hA hρ;have hL0:=hle2;(try have hle:=hle.trans hle2);(try have hf:=hf.up hle2);refine' Mq;refine' Ab<;>intro hc
 · skip
   refine' Rk;intro b1 o1 cs1 x1 hat1 hx1 he1;obtain ⟨vp1,vr1,vb1,rfl,hp1,hr1,hb1⟩:=Qw he1;refine' MI;intro p5 w1 hS;refine Ka hS ?_;intro w1 hS;have hS:=hS.ns;refine' zn;have hsh:=hsm x1 (EI hx1);have hlb:=hsh.2.2.1;have hJ6:=Fq hS;refine PM hS [2,3,5,13,14,15] (fun A LL ρ' w'=>∃(k6:Cx) (a1 a2:Option Addr) (n1 n2 p6:Nat),J2 ρ' A∧J2 ρ' [(6, .pointer (some ⟨p6,0,none⟩))]∧(k0.Le k6)∧(J7.sl k6 (.slice a1 x1.params.length n1) x1.params)∧(J7.sl k6 (.slice a2 x1.results.length n2) x1.results)∧St k6 w' (blk p6 95 [.int .i64 x1.regs, .slice a1 x1.params.length n1, .slice a2 x1.results.length n2, .slice none 0 0]::LL)) ?_ ?_
   · skip
     refine P5 4 9 Jk ?_ ?_
     · skip
       refine P5 7 9 Jk ?_ ?_
       · skip;refine zC [(0,none),(1,none),(2,none),(3,none),(5,none),(6,none),(4,some (some [1,6])),(7,some (some [1])),(8,none),(9,some (some [1])),(10,some none)] ?_;have hS:=hS.drew;refine' Rj;refine' Rm;refine' Kv (c:=P0 hsh.1.1 hsh.1.2 hp1 hS);rintro v1 w1 ⟨c1,hle2,hk1,hS⟩;obtain ⟨a1,n1,rfl⟩:=EU hk1;(try have hJ6:=hJ6.trans hle2);(try have hr1:=hr1.up hle2);refine' Mu;refine' Kv (c:=P0 hsh.2.1.1 hsh.2.1.2 hr1 hS);rintro v1 w1 ⟨c2,hle2,hk2,hS⟩;obtain ⟨a2,n2,rfl⟩:=EU hk2;(try have hJ6:=hJ6.trans hle2);(try have hk1:=hk1.up hle2);refine' MB;refine Od [_,_,_,_] ?_;refine' Pu;intro p6 w1 hS;refine' M4;refine Ka hS ?_;intro w1 hS;have hS:=hS.ns;refine' Lc;(exact AX)
       · skip;refine zC [(0,none),(1,none),(2,none),(3,none),(5,none),(6,none),(4,some (some [1,6])),(9,some (some [1,6])),(7,some (some [1])),(8,none),(10,some none)] ?_;have hS:=hS.drew;refine' Rj;refine' Rm;refine' Kv (c:=P0 hsh.1.1 hsh.1.2 hp1 hS);rintro v1 w1 ⟨c1,hle2,hk1,hS⟩;obtain ⟨a1,n1,rfl⟩:=EU hk1;(try have hJ6:=hJ6.trans hle2);(try have hr1:=hr1.up hle2);refine' Mu;refine Qe hS ?_;intro p6 w1 hS;refine' Mu;refine' Kv (c:=P0 hsh.2.1.1 hsh.2.1.2 hr1 hS);rintro v1 w1 ⟨c2,hle2,hk2,hS⟩;obtain ⟨a2,n2,rfl⟩:=EU hk2;(try have hJ6:=hJ6.trans hle2);(try have hk1:=hk1.up hle2);refine' MB;refine Od [_,_,_,_] ?_;refine' LM;refine Ka hS ?_;intro w1 hS;have hS:=hS.ns;refine' Lc;(exact AX)
     · skip;refine zC [(0,none),(1,none),(2,none),(3,none),(5,none),(6,none),(9,some (some [1,3,6])),(4,some (some [1,6])),(7,some (some [1])),(8,none),(10,some none)] ?_;have hS:=hS.drew;refine' Rj;refine' N0;refine' Pu;intro p6 w1 hS;refine' Mu;refine' Kv (c:=P0 hsh.1.1 hsh.1.2 hp1 hS);rintro v1 w1 ⟨c1,hle2,hk1,hS⟩;obtain ⟨a1,n1,rfl⟩:=EU hk1;(try have hJ6:=hJ6.trans hle2);(try have hr1:=hr1.up hle2);refine' Mu;refine' Kv (c:=P0 hsh.2.1.1 hsh.2.1.2 hr1 hS);rintro v1 w1 ⟨c2,hle2,hk2,hS⟩;obtain ⟨a2,n2,rfl⟩:=EU hk2;(try have hJ6:=hJ6.trans hle2);(try have hk1:=hk1.up hle2);refine' MB;refine Od [_,_,_,_] ?_;refine' LM;refine Ka hS ?_;intro w1 hS;have hS:=hS.ns;refine' Lc;(exact AX)
   rintro ρ w1 ⟨k6,a1,a2,n1,n2,p6,hA,hρ,hle2,hk1,hk2,hS⟩;obtain ⟨ρ,rfl⟩:=J3 hA hρ;(try have hle:=hle.trans hle2);(try have hL0:=hL0.trans hle2);(try have hJ6:=hJ6.trans hle2);(try have hf:=hf.up hle2);(try have hp1:=hp1.up hle2);(try have hr1:=hr1.up hle2);(try have hb1:=hb1.up hle2);(try have he1:=he1.up hle2);(try have hls:=hls.up hle2);refine' SQ;refine zo [2,3,6,13,14,15,29,30] (fun A ρ' w'=>∃(k1:Cx) (i:Nat) (ub:Value) (cssB:List (List Value)),J2 ρ' A∧J2 ρ' [(31, .int .i64 i)]∧(k6.Le k1)∧(i≤x1.blocks.length)∧(Kx.ls k1 cssB (x1.blocks.take i))∧(oneC ub=true)∧St k1 w' (sl 92 12 ub cssB::blk p6 95 [.int .i64 x1.regs, .slice a1 x1.params.length n1, .slice a2 x1.results.length n2,ub]::blk p5 95 [.int .i64 x1.regs,vp1,vr1,vb1]::sl 95 4 u css::blk p3 24 [u]::blk p2 24 [.slice none 0 0]::blk p1 24 [vf]::L)) (fun ρ' _=>(x1.blocks.length - iv (ρ' 31)).toNat) ?_ ?_
   · exact ⟨k6,0, .slice none 0 0,[],zh,zh,Fq hS,Jo,FY _ _ _,rfl,by have hS:=hS.nil (T:=92) (es:=12);exact hS.sp⟩
   rintro ρ w1 ⟨k1,i,ub,cssB,hA,hρ,hle2,hi,hlsB,hub,hS⟩;obtain ⟨ρ,rfl⟩:=J3 hA hρ;have hL1:=hle2;(try have hle:=hle.trans hle2);(try have hL0:=hL0.trans hle2);(try have hJ6:=hJ6.trans hle2);(try have hf:=hf.up hle2);(try have hk1:=hk1.up hle2);(try have hk2:=hk2.up hle2);(try have hp1:=hp1.up hle2);(try have hr1:=hr1.up hle2);(try have hb1:=hb1.up hle2);(try have he1:=he1.up hle2);(try have hls:=hls.up hle2);refine' Mq;refine' Ab<;>intro hc
   · skip
     refine' Rk;intro b2 o2 cs2 x2 hat2 hx2 he2;obtain ⟨vp2,vc2,ve21,ve22,ve23,ve24,ve25,rfl,hp2,hc2,he21,he22,he23,he24,he25⟩:=QZ he2;refine' MI;intro p8 w1 hS;refine Ka hS ?_;intro w1 hS;have hS:=hS.ns;refine' zn;have hsb:=hsh.2.2.2 x2 (EI hx2);have hlc:=hsb.2.1;have hJ10:=Fq hS;refine PM hS [2,3,6,8,13,14,15,29,30,31] (fun A LL ρ' w'=>∃(k10:Cx) (a3:Option Addr) (n3 p9:Nat),J2 ρ' A∧J2 ρ' [(9, .pointer (some ⟨p9,0,none⟩))]∧(k1.Le k10)∧(J7.sl k10 (.slice a3 x2.params.length n3) x2.params)∧St k10 w' (blk p9 92 [.int .i64 x2.regs, .slice a3 x2.params.length n3, .slice none 0 0, .int .i64 x2.fin.op, .int .i64 x2.fin.a, .int .i64 x2.fin.yes.block,ve21,ve22, .int .i64 x2.fin.no.block,ve23,ve24,ve25]::LL)) ?_ ?_
     · skip
       obtain ⟨q1,m1,rfl⟩:=EU he21;obtain ⟨q2,m2,rfl⟩:=EU he22;obtain ⟨q3,m3,rfl⟩:=EU he23;obtain ⟨q4,m4,rfl⟩:=EU he24;obtain ⟨q5,m5,rfl⟩:=EU he25;refine P5 4 8 Jk ?_ ?_
       · skip;refine zC [(0,none),(1,none),(2,none),(3,none),(5,none),(6,none),(4,some (some [1,6])),(7,none),(8,some (some [1,6])),(9,some none)] ?_;have hS:=hS.drew;refine' Rj;refine' Rd;refine zv hS ?_;refine' Lu;refine' Kv (c:=P0 hsb.1.1 hsb.1.2 hp2 hS);rintro v1 w1 ⟨c3,hle2,hk3,hS⟩;obtain ⟨a3,n3,rfl⟩:=EU hk3;(try have hJ10:=hJ10.trans hle2);refine' MB;refine Od [_,_,_,_,_,_,_,_,_,_,_,_] ?_;refine' Pu;intro p9 w1 hS;refine' M4;refine Ka hS ?_;intro w1 hS;have hS:=hS.ns;refine' Lc;(exact Bl)
       · skip;refine zC [(0,none),(1,none),(2,none),(3,none),(5,none),(6,none),(8,some (some [1,3,6])),(4,some (some [1,6])),(7,none),(9,some none)] ?_;have hS:=hS.drew;refine' Rj;refine' Rd;refine zv hS ?_;refine' Pu;intro p9 w1 hS;refine' Mu;refine' Kv (c:=P0 hsb.1.1 hsb.1.2 hp2 hS);rintro v1 w1 ⟨c3,hle2,hk3,hS⟩;obtain ⟨a3,n3,rfl⟩:=EU hk3;(try have hJ10:=hJ10.trans hle2);refine' MB;refine Od [_,_,_,_,_,_,_,_,_,_,_,_] ?_;refine' LM;refine Ka hS ?_;intro w1 hS;have hS:=hS.ns;refine' Lc;(exact Bl)
     rintro ρ w1 ⟨k10,a3,n3,p9,hA,hρ,hle2,hk3,hS⟩;obtain ⟨ρ,rfl⟩:=J3 hA hρ;(try have hle:=hle.trans hle2);(try have hL0:=hL0.trans hle2);(try have hL1:=hL1.trans hle2);(try have hJ6:=hJ6.trans hle2);(try have hJ10:=hJ10.trans hle2);(try have hf:=hf.up hle2);(try have hk1:=hk1.up hle2);(try have hk2:=hk2.up hle2);(try have hp1:=hp1.up hle2);(try have hr1:=hr1.up hle2);(try have hb1:=hb1.up hle2);(try have hp2:=hp2.up hle2);(try have hc2:=hc2.up hle2);(try have he21:=he21.up hle2);(try have he22:=he22.up hle2);(try have he23:=he23.up hle2);(try have he24:=he24.up hle2);(try have he25:=he25.up hle2);(try have he1:=he1.up hle2);(try have he2:=he2.up hle2);(try have hls:=hls.up hle2);(try have hlsB:=hlsB.up hle2);refine Qu ?_;refine zC [(0,none),(1,none),(2,none),(4,none),(5,none),(6,none),(8,none),(9,none),(10,none),(3,some (some [6,10])),(12,none),(13,none),(7,some (some [10])),(11,some (some [])),(14,some none),(15,none),(16,none),(17,some none),(18,none),(19,none),(20,some none)] ?_;have hS:=hS.drew;refine' L6;refine' cq;refine' NB;refine zv hS ?_;refine' Rd;refine' NB;refine zv hS ?_;refine' Rd;refine' NB;refine zl hS ?_;refine' Lu;refine' Kv (c:=kU (x:=x2.fin.yes) (by have:=hsb.2.2.2.1.1;omega) (by have:=hsb.2.2.2.1.2;omega) ⟨_,_,rfl,he21,he22⟩ hS);rintro v1 w1 ⟨c7,ds,rfl,hle2,hk7,hS⟩;obtain ⟨y1,y2,rfl,hy1,hy2⟩:=SG hk7;obtain ⟨a7,n7,rfl⟩:=EU hy1;obtain ⟨a8,n8,rfl⟩:=EU hy2;(try have hle:=hle.trans hle2);(try have hL0:=hL0.trans hle2);(try have hL1:=hL1.trans hle2);(try have hJ6:=hJ6.trans hle2);(try have hJ10:=hJ10.trans hle2);(try have hf:=hf.up hle2);(try have hk1:=hk1.up hle2);(try have hk2:=hk2.up hle2);(try have hk3:=hk3.up hle2);(try have hp1:=hp1.up hle2);(try have hr1:=hr1.up hle2);(try have hb1:=hb1.up hle2);(try have hp2:=hp2.up hle2);(try have hc2:=hc2.up hle2);(try have he21:=he21.up hle2);(try have he22:=he22.up hle2);(try have he23:=he23.up hle2);(try have he24:=he24.up hle2);(try have he25:=he25.up hle2);(try have he1:=he1.up hle2);(try have he2:=he2.up hle2);(try have hls:=hls.up hle2);(try have hlsB:=hlsB.up hle2);refine' MB;refine' cq;refine' MH;refine' Lu;refine' Kv (c:=kU (x:=x2.fin.no) (by have:=hsb.2.2.2.2.1.1;omega) (by have:=hsb.2.2.2.2.1.2;omega) ⟨_,_,rfl,he23,he24⟩ hS);rintro v1 w1 ⟨c8,ds,rfl,hle2,hk8,hS⟩;obtain ⟨z1,z2,rfl,hz1,hz2⟩:=SG hk8;obtain ⟨a9,n9,rfl⟩:=EU hz1;obtain ⟨a10,n10,rfl⟩:=EU hz2;(try have hle:=hle.trans hle2);(try have hL0:=hL0.trans hle2);(try have hL1:=hL1.trans hle2);(try have hJ6:=hJ6.trans hle2);(try have hJ10:=hJ10.trans hle2);(try have hf:=hf.up hle2);(try have hk1:=hk1.up hle2);(try have hk2:=hk2.up hle2);(try have hk3:=hk3.up hle2);(try have hk7:=hk7.up hle2);(try have hp1:=hp1.up hle2);(try have hr1:=hr1.up hle2);(try have hb1:=hb1.up hle2);(try have hp2:=hp2.up hle2);(try have hc2:=hc2.up hle2);(try have he21:=he21.up hle2);(try have he22:=he22.up hle2);(try have he23:=he23.up hle2);(try have he24:=he24.up hle2);(try have he25:=he25.up hle2);(try have he1:=he1.up hle2);(try have he2:=he2.up hle2);(try have hls:=hls.up hle2);(try have hy1:=hy1.up hle2);(try have hy2:=hy2.up hle2);(try have hlsB:=hlsB.up hle2);refine' Mu;refine' Kv (c:=al (by have:=hsb.2.2.2.2.2;omega) he25 hS);rintro v1 w1 ⟨c9,hle2,hw1,hS⟩;obtain ⟨a11,n11,rfl⟩:=EU hw1;(try have hle:=hle.trans hle2);(try have hL0:=hL0.trans hle2);(try have hL1:=hL1.trans hle2);(try have hJ6:=hJ6.trans hle2);(try have hJ10:=hJ10.trans hle2);(try have hf:=hf.up hle2);(try have hk1:=hk1.up hle2);(try have hk2:=hk2.up hle2);(try have hk3:=hk3.up hle2);(try have hk7:=hk7.up hle2);(try have hk8:=hk8.up hle2);(try have hp1:=hp1.up hle2);(try have hr1:=hr1.up hle2);(try have hb1:=hb1.up hle2);(try have hp2:=hp2.up hle2);(try have hc2:=hc2.up hle2);(try have he21:=he21.up hle2);(try have he22:=he22.up hle2);(try have he23:=he23.up hle2);(try have he24:=he24.up hle2);(try have he25:=he25.up hle2);(try have he1:=he1.up hle2);(try have he2:=he2.up hle2);(try have hls:=hls.up hle2);(try have hy1:=hy1.up hle2);(try have hy2:=hy2.up hle2);(try have hz1:=hz1.up hle2);(try have hz2:=hz2.up hle2);(try have hlsB:=hlsB.up hle2);refine' M4;(first|(refine Ka hS ?_;intro w1 hS;have hS:=hS.ns)|(refine cj hS ?_;intro w1 hS;have hS:=hS.ns));refine' Rd;refine' Uo;(first|(refine Ka hS ?_;intro w1 hS;have hS:=hS.ns)|(refine cj hS ?_;intro w1 hS;have hS:=hS.ns));refine' Rd;refine' Uo;refine LP hS ?_;intro w1 hS;have hS:=hS.ns;refine' Lc;refine' SQ;refine zo [2,3,6,9,13,14,15,29,30,31,62,63] (fun A ρ' w'=>∃(k2:Cx) (k:Nat) (uc:Value) (cssC:List (List Value)),J2 ρ' A∧J2 ρ' [(64, .int .i64 k)]∧(c9.Le k2)∧(k≤x2.code.length)∧(Ky.ls k2 cssC (x2.code.take k))∧(oneC uc=true)∧St k2 w' (sl 84 8 uc cssC::blk p9 92 [.int .i64 x2.regs, .slice a3 x2.params.length n3,uc, .int .i64 x2.fin.op, .int .i64 x2.fin.a, .int .i64 x2.fin.yes.block, .slice a7 x2.fin.yes.regs.length n7, .slice a8 x2.fin.yes.args.length n8, .int .i64 x2.fin.no.block, .slice a9 x2.fin.no.regs.length n9, .slice a10 x2.fin.no.args.length n10, .slice a11 x2.fin.args.length n11]::blk p8 92 [.int .i64 x2.regs,vp2,vc2, .int .i64 x2.fin.op, .int .i64 x2.fin.a, .int .i64 x2.fin.yes.block,ve21,ve22, .int .i64 x2.fin.no.block,ve23,ve24,ve25]::sl 92 12 ub cssB::blk p6 95 [.int .i64 x1.regs, .slice a1 x1.params.length n1, .slice a2 x1.results.length n2,ub]::blk p5 95 [.int .i64 x1.regs,vp1,vr1,vb1]::sl 95 4 u css::blk p3 24 [u]::blk p2 24 [.slice none 0 0]::blk p1 24 [vf]::L)) (fun ρ' _=>(x2.code.length - iv (ρ' 64)).toNat) ?_ ?_
     · exact C7
     rintro ρ w1 ⟨k2,k,uc,cssC,hA,hρ,hle2,hkk,hlsC,huc,hS⟩;obtain ⟨ρ,rfl⟩:=J3 hA hρ;have hL2:=hle2;(try have hle:=hle.trans hle2);(try have hL0:=hL0.trans hle2);(try have hL1:=hL1.trans hle2);(try have hJ6:=hJ6.trans hle2);(try have hJ10:=hJ10.trans hle2);(try have hf:=hf.up hle2);(try have hk1:=hk1.up hle2);(try have hk2:=hk2.up hle2);(try have hk3:=hk3.up hle2);(try have hk7:=hk7.up hle2);(try have hk8:=hk8.up hle2);(try have hp1:=hp1.up hle2);(try have hr1:=hr1.up hle2);(try have hb1:=hb1.up hle2);(try have hp2:=hp2.up hle2);(try have hc2:=hc2.up hle2);(try have he21:=he21.up hle2);(try have he22:=he22.up hle2);(try have he23:=he23.up hle2);(try have he24:=he24.up hle2);(try have he25:=he25.up hle2);(try have he1:=he1.up hle2);(try have he2:=he2.up hle2);(try have hls:=hls.up hle2);(try have hy1:=hy1.up hle2);(try have hy2:=hy2.up hle2);(try have hz1:=hz1.up hle2);(try have hz2:=hz2.up hle2);(try have hw1:=hw1.up hle2);(try have hlsB:=hlsB.up hle2);refine' Mq;refine' Ab<;>intro hc
     · skip;refine' Rk;intro b3 o3 cs3 x3 hat3 hx3 he3;obtain ⟨vr3,va3,rfl,hr3,ha3⟩:=Nh he3;refine' MI;intro p11 w1 hS;refine Ka hS ?_;intro w1 hS;have hS:=hS.ns;refine' OQ;have hsi:=hsb.2.2.1 x3 (EI hx3);refine zC [(0,none),(1,none),(3,none),(4,none),(2,some (some [4])),(6,none),(5,some (some [])),(7,some none),(8,none),(9,some none)] ?_;have hS:=hS.drew;refine' Rj;refine' Lu;refine' Kv (c:=al (by have:=hsi.1;omega) hr3 hS);rintro v1 w1 ⟨c4,hle2,hk4,hS⟩;obtain ⟨a4,n4,rfl⟩:=EU hk4;(try have hL2:=hL2.trans hle2);(try have ha3:=ha3.up hle2);(try have hlsC:=hlsC.up hle2);refine' MB;refine' L7;refine' Lu;refine' Kv (c:=al (by have:=hsi.2;omega) ha3 hS);rintro v1 w1 ⟨c5,hle2,hk5,hS⟩;obtain ⟨a5,n5,rfl⟩:=EU hk5;(try have hL2:=hL2.trans hle2);(try have hk4:=hk4.up hle2);(try have hlsC:=hlsC.up hle2);refine' M4;refine LP hS ?_;intro w1 hS;have hS:=hS.ns;refine' KA;refine' L7;refine' LM;refine LP hS ?_;intro w1 hS;have hS:=hS.ns;refine' Lc;have hk9:Ky.at c5 _ x3:=⟨_,_,rfl,hk4,hk5⟩;refine' W1;refine KY hS [_,_,_,_,_,_,_,_] ?_;intro b1 w1 hS;refine za UE ak hS ?_;intro vp1 w1 css1 hls1 hv1 hS;have hS:=hS.ns;refine' PS;intro w1 hS;have hS:=hS.ns;refine' PX;(exact B8)
     · skip;refine' K2;obtain ⟨c6,hle2,hS,hk6⟩:=FI (r:=Ky) (l:=x2.code) hS (by rw [E1 Jo] at hlsC;exact hlsC) rfl (by have:=hsb.2.1;omega);obtain ⟨a6,n6,rfl⟩:=EU hk6;(try have hL1:=hL1.trans hle2);(try have hk3:=hk3.up hle2);(try have hy1:=hy1.up hle2);(try have hy2:=hy2.up hle2);(try have hz1:=hz1.up hle2);(try have hz2:=hz2.up hle2);(try have hw1:=hw1.up hle2);(try have hlsB:=hlsB.up hle2);have hk9:Kx.at c6 _ x2:=gQ (x:=x2) hk3 hk6 hy1 hy2 hz1 hz2 hw1;refine' W1;refine KY hS [_,_,_,_,_,_,_,_,_,_,_,_] ?_;intro b1 w1 hS;refine za kS RT hS ?_;intro vp2 w2 css2 hls2 hv2 hS;have hS:=hS.ns;refine' PS;intro w1 hS;have hS:=hS.ns;refine' PX;(exact ⟨⟨_,i+1,_,_,zh,zh,hL1,Jo,by rw [OI hx2];assumption,by assumption,hS.sp⟩,Qb Jo⟩)
   · skip;refine' K2;obtain ⟨c10,hle2,hS,hk6⟩:=FI (r:=Kx) (l:=x1.blocks) hS (by rw [E1 Jo] at hlsB;exact hlsB) rfl (by have:=hsh.2.2.1;omega);obtain ⟨a6,n6,rfl⟩:=EU hk6;(try have hL0:=hL0.trans hle2);(try have hk1:=hk1.up hle2);(try have hk2:=hk2.up hle2);(try have hls:=hls.up hle2);have hk9:Kj.at c10 _ x1:=⟨_,_,_,rfl,hk1,hk2,hk6⟩;refine' W1;refine KY hS [_,_,_,_] ?_;intro b1 w1 hS;refine za kR RP hS ?_;intro vp3 w3 css3 hls3 hv3 hS;have hS:=hS.ns;refine' PS;intro w1 hS;have hS:=hS.ns;refine' PX;(exact ⟨⟨_,j+1,_,_,zh,zh,hL0,Jo,by rw [OI hx1];assumption,by assumption,hS.sp⟩,Qb Jo⟩)
 · skip;refine' K2;obtain ⟨c11,hle2,hS,hk6⟩:=FI (r:=Kj) (l:=l) hS DJ rfl Jo;obtain ⟨a6,n6,rfl⟩:=EU hk6;(try have hle:=hle.trans hle2);refine' Nr;refine Ka hS ?_;intro w1 hS;have hS:=hS.ns;refine' L8;refine Lw vw (Q4 (n:=1) Jk Jk (hS.blkAt fd) Jr Jr) ?_;(exact ⟨_,rfl,c11,_,rfl,hle,⟨_,rfl,hk6⟩,hS.sp⟩)
end
section
def pc (c:Cx)(l:List Fun)(css:List (List Value))(fs:List FunH)(ps:List (Value×List (List Value))):Prop:=fs.map FunH.to=l∧Mc.ls c css fs∧Stor c ps (fs.flatMap (·.blocks))
theorem QfF {x:Module}(hsm:x.Short)(hx:K6.at cx cs x)(hS:St cx w L):JW Tryz.prog sY [.agg ⟨cs⟩] w fun u w'=>∃c' u0 css fs ps,u= .agg ⟨[u0]⟩∧cx.Le c'∧oneC u0=true∧pc c' x.funcs css fs ps∧St c' w' (sl 95 4 u0 css::P1 84 ps::L):=by
 ((obtain ⟨vf,rfl,hf⟩:=NV hx;obtain ⟨l⟩:=x;have hf:Kj.sl cx vf l:=hf;have hsl:l.length≤100000:=hsm.1;have hsm:∀f∈l,f.Short:=hsm.2;have hle:=Fq hS;have hS:=HW (fun p:Value×List (List Value)=>sl 84 8 p.1 p.2) hS;all_goals refine Kd Kc Tryz.func64 ?_);all_goals (refine' KO;intro p1 w1 hS;refine Qe hS ?_;intro p2 w1 hS;refine' zn;refine' Rf;intro p3 w1 hS;refine' zn;refine' SQ));refine zo [2,3,13,14] (fun A ρ' w'=>∃(k0:Cx) (j:Nat) (u:Value) (css:List (List Value)) (fs:List FunH) (ps:List (Value×List (List Value))),J2 ρ' A∧J2 ρ' [(15, .int .i64 j)]∧(cx.Le k0)∧(j≤l.length)∧(fs.map FunH.to=l.take j)∧(fs.length=j)∧(Mc.ls k0 css fs)∧(Stor k0 ps (fs.flatMap (·.blocks)))∧(oneC u=true)∧St k0 w' (sl 95 4 u css::blk p3 24 [u]::blk p2 24 [.slice none 0 0]::blk p1 24 [vf]::P1 84 ps::L)) (fun ρ' _=>(l.length - iv (ρ' 15)).toNat) ?_ ?_
 · exact ⟨cx,0, .slice none 0 0,[],[],[],zh,zh,Fq hS,Jo,rfl,rfl,FY _ _ _,Stor.nil,rfl,by have hS:=hS.nil (T:=95) (es:=4);exact hS.sp⟩
 (rintro ρ w1 ⟨k0,j,u,css,fs,ps,hA,hρ,hle2,hj,hfs,hfl,hls,hst,hu,hS⟩;obtain ⟨ρ,rfl⟩:=J3 hA hρ;have hL0:=hle2;(try have hle:=hle.trans hle2);(try have hf:=hf.up hle2);all_goals (refine' Mq));refine' Ab<;>intro hc
 · skip
   (all_goals (refine' Rk;intro b1 o1 cs1 x1 hat1 hx1 he1;obtain ⟨vp1,vr1,vb1,rfl,hp1,hr1,hb1⟩:=Qw he1;refine' MI;intro p5 w1 hS;refine Ka hS ?_;intro w1 hS;have hS:=hS.ns;refine' zn;have hsh:=hsm x1 (EI hx1);have hlb:=hsh.2.2.1));have hJ6:=Fq hS;refine PM hS [2,3,5,13,14,15] (fun A LL ρ' w'=>∃(k6:Cx) (a1 a2:Option Addr) (n1 n2 p6:Nat),J2 ρ' A∧J2 ρ' [(6, .pointer (some ⟨p6,0,none⟩))]∧(k0.Le k6)∧(J7.sl k6 (.slice a1 x1.params.length n1) x1.params)∧(J7.sl k6 (.slice a2 x1.results.length n2) x1.results)∧St k6 w' (blk p6 95 [.int .i64 x1.regs, .slice a1 x1.params.length n1, .slice a2 x1.results.length n2, .slice none 0 0]::LL)) ?_ ?_
   · skip
     refine P5 4 9 Jk ?_ ?_
     · skip
       refine P5 7 9 Jk ?_ ?_
       · skip;all_goals (refine zC [(0,none),(1,none),(2,none),(3,none),(5,none),(6,none),(4,some (some [1,6])),(7,some (some [1])),(8,none),(9,some (some [1])),(10,some none)] ?_;have hS:=hS.drew;refine' Rj;refine' Rm);all_goals (refine' Kv (c:=P0 hsh.1.1 hsh.1.2 hp1 hS);rintro v1 w1 ⟨c1,hle2,hk1,hS⟩;obtain ⟨a1,n1,rfl⟩:=EU hk1;(try have hle:=hle.trans hle2);(try have hL0:=hL0.trans hle2);(try have hJ6:=hJ6.trans hle2);(try have hf:=hf.up hle2);(try have hp1:=hp1.up hle2);(try have hr1:=hr1.up hle2);(try have hb1:=hb1.up hle2);(try have he1:=he1.up hle2);(try have hls:=hls.up hle2);(try have hst:=hst.up hle2));all_goals (refine' Mu);all_goals (refine' Kv (c:=P0 hsh.2.1.1 hsh.2.1.2 hr1 hS);rintro v1 w1 ⟨c2,hle2,hk2,hS⟩;obtain ⟨a2,n2,rfl⟩:=EU hk2;(try have hle:=hle.trans hle2);(try have hL0:=hL0.trans hle2);(try have hJ6:=hJ6.trans hle2);(try have hf:=hf.up hle2);(try have hk1:=hk1.up hle2);(try have hp1:=hp1.up hle2);(try have hr1:=hr1.up hle2);(try have hb1:=hb1.up hle2);(try have he1:=he1.up hle2);(try have hls:=hls.up hle2);(try have hst:=hst.up hle2));all_goals (refine' MB;refine Od [_,_,_,_] ?_;refine' Pu;intro p6 w1 hS;refine' M4;refine Ka hS ?_;intro w1 hS;have hS:=hS.ns;refine' Lc;exact AX)
       · skip;all_goals (refine zC [(0,none),(1,none),(2,none),(3,none),(5,none),(6,none),(4,some (some [1,6])),(9,some (some [1,6])),(7,some (some [1])),(8,none),(10,some none)] ?_;have hS:=hS.drew;refine' Rj;refine' Rm);all_goals (refine' Kv (c:=P0 hsh.1.1 hsh.1.2 hp1 hS);rintro v1 w1 ⟨c1,hle2,hk1,hS⟩;obtain ⟨a1,n1,rfl⟩:=EU hk1;(try have hle:=hle.trans hle2);(try have hL0:=hL0.trans hle2);(try have hJ6:=hJ6.trans hle2);(try have hf:=hf.up hle2);(try have hp1:=hp1.up hle2);(try have hr1:=hr1.up hle2);(try have hb1:=hb1.up hle2);(try have he1:=he1.up hle2);(try have hls:=hls.up hle2);(try have hst:=hst.up hle2));all_goals (refine' Mu;refine Qe hS ?_;intro p6 w1 hS;refine' Mu);all_goals (refine' Kv (c:=P0 hsh.2.1.1 hsh.2.1.2 hr1 hS);rintro v1 w1 ⟨c2,hle2,hk2,hS⟩;obtain ⟨a2,n2,rfl⟩:=EU hk2;(try have hle:=hle.trans hle2);(try have hL0:=hL0.trans hle2);(try have hJ6:=hJ6.trans hle2);(try have hf:=hf.up hle2);(try have hk1:=hk1.up hle2);(try have hp1:=hp1.up hle2);(try have hr1:=hr1.up hle2);(try have hb1:=hb1.up hle2);(try have he1:=he1.up hle2);(try have hls:=hls.up hle2);(try have hst:=hst.up hle2));all_goals (refine' MB;refine Od [_,_,_,_] ?_;refine' LM;refine Ka hS ?_;intro w1 hS;have hS:=hS.ns;refine' Lc;exact AX)
     · skip;all_goals (refine zC [(0,none),(1,none),(2,none),(3,none),(5,none),(6,none),(9,some (some [1,3,6])),(4,some (some [1,6])),(7,some (some [1])),(8,none),(10,some none)] ?_;have hS:=hS.drew;refine' Rj;refine' N0;refine' Pu;intro p6 w1 hS;refine' Mu);all_goals (refine' Kv (c:=P0 hsh.1.1 hsh.1.2 hp1 hS);rintro v1 w1 ⟨c1,hle2,hk1,hS⟩;obtain ⟨a1,n1,rfl⟩:=EU hk1;(try have hle:=hle.trans hle2);(try have hL0:=hL0.trans hle2);(try have hJ6:=hJ6.trans hle2);(try have hf:=hf.up hle2);(try have hp1:=hp1.up hle2);(try have hr1:=hr1.up hle2);(try have hb1:=hb1.up hle2);(try have he1:=he1.up hle2);(try have hls:=hls.up hle2);(try have hst:=hst.up hle2));all_goals (refine' Mu);all_goals (refine' Kv (c:=P0 hsh.2.1.1 hsh.2.1.2 hr1 hS);rintro v1 w1 ⟨c2,hle2,hk2,hS⟩;obtain ⟨a2,n2,rfl⟩:=EU hk2;(try have hle:=hle.trans hle2);(try have hL0:=hL0.trans hle2);(try have hJ6:=hJ6.trans hle2);(try have hf:=hf.up hle2);(try have hk1:=hk1.up hle2);(try have hp1:=hp1.up hle2);(try have hr1:=hr1.up hle2);(try have hb1:=hb1.up hle2);(try have he1:=he1.up hle2);(try have hls:=hls.up hle2);(try have hst:=hst.up hle2));all_goals (refine' MB;refine Od [_,_,_,_] ?_;refine' LM;refine Ka hS ?_;intro w1 hS;have hS:=hS.ns;refine' Lc;exact AX)
   (rintro ρ w1 ⟨k6,a1,a2,n1,n2,p6,hA,hρ,hle2,hk1,hk2,hS⟩;obtain ⟨ρ,rfl⟩:=J3 hA hρ;(try have hle:=hle.trans hle2);(try have hL0:=hL0.trans hle2);(try have hJ6:=hJ6.trans hle2);(try have hf:=hf.up hle2);(try have hp1:=hp1.up hle2);(try have hr1:=hr1.up hle2);(try have hb1:=hb1.up hle2);(try have he1:=he1.up hle2);(try have hls:=hls.up hle2);(try have hst:=hst.up hle2);all_goals (refine' SQ));refine zo [2,3,6,13,14,15,29,30] (fun A ρ' w'=>∃(k1:Cx) (i:Nat) (ub:Value) (cssB:List (List Value)) (bs:List BlkH) (ps1:List (Value×List (List Value))),J2 ρ' A∧J2 ρ' [(31, .int .i64 i)]∧(k6.Le k1)∧(i≤x1.blocks.length)∧(bs.map (·.b)=x1.blocks.take i)∧(bs.length=i)∧(LJ.ls k1 cssB bs)∧(Stor k1 ps1 (fs.flatMap (·.blocks)++bs))∧(oneC ub=true)∧St k1 w' (sl 92 12 ub cssB::blk p6 95 [.int .i64 x1.regs, .slice a1 x1.params.length n1, .slice a2 x1.results.length n2,ub]::blk p5 95 [.int .i64 x1.regs,vp1,vr1,vb1]::sl 95 4 u css::blk p3 24 [u]::blk p2 24 [.slice none 0 0]::blk p1 24 [vf]::P1 84 ps1::L)) (fun ρ' _=>(x1.blocks.length - iv (ρ' 31)).toNat) ?_ ?_
   · exact ⟨k6,0, .slice none 0 0,[],[],ps,zh,zh,Fq hS,Jo,rfl,rfl,FY _ _ _,(by rw [FA];exact hst),rfl,by have hS:=hS.nil (T:=92) (es:=12);exact hS.sp⟩
   (rintro ρ w1 ⟨k1,i,ub,cssB,bs,ps1,hA,hρ,hle2,hi,hbs,hbl,hlsB,hstB,hub,hS⟩;obtain ⟨ρ,rfl⟩:=J3 hA hρ;have hL1:=hle2;(try have hle:=hle.trans hle2);(try have hL0:=hL0.trans hle2);(try have hJ6:=hJ6.trans hle2);(try have hf:=hf.up hle2);(try have hk1:=hk1.up hle2);(try have hk2:=hk2.up hle2);(try have hp1:=hp1.up hle2);(try have hr1:=hr1.up hle2);(try have hb1:=hb1.up hle2);(try have he1:=he1.up hle2);(try have hls:=hls.up hle2);(try have hst:=hst.up hle2);all_goals (refine' Mq));refine' Ab<;>intro hc
   · skip
     (all_goals (refine' Rk;intro b2 o2 cs2 x2 hat2 hx2 he2;obtain ⟨vp2,vc2,ve21,ve22,ve23,ve24,ve25,rfl,hp2,hc2,he21,he22,he23,he24,he25⟩:=QZ he2;refine' MI;intro p8 w1 hS;refine Ka hS ?_;intro w1 hS;have hS:=hS.ns;refine' zn;have hsb:=hsh.2.2.2 x2 (EI hx2);have hlc:=hsb.2.1));have hJ10:=Fq hS;refine PM hS [2,3,6,8,13,14,15,29,30,31] (fun A LL ρ' w'=>∃(k10:Cx) (a3:Option Addr) (n3 p9:Nat),J2 ρ' A∧J2 ρ' [(9, .pointer (some ⟨p9,0,none⟩))]∧(k1.Le k10)∧(J7.sl k10 (.slice a3 x2.params.length n3) x2.params)∧St k10 w' (blk p9 92 [.int .i64 x2.regs, .slice a3 x2.params.length n3, .slice none 0 0, .int .i64 x2.fin.op, .int .i64 x2.fin.a, .int .i64 x2.fin.yes.block,ve21,ve22, .int .i64 x2.fin.no.block,ve23,ve24,ve25]::LL)) ?_ ?_
     · skip
       (all_goals (obtain ⟨q1,m1,rfl⟩:=EU he21;obtain ⟨q2,m2,rfl⟩:=EU he22;obtain ⟨q3,m3,rfl⟩:=EU he23;obtain ⟨q4,m4,rfl⟩:=EU he24;obtain ⟨q5,m5,rfl⟩:=EU he25));refine P5 4 8 Jk ?_ ?_
       · skip;all_goals (refine zC [(0,none),(1,none),(2,none),(3,none),(5,none),(6,none),(4,some (some [1,6])),(7,none),(8,some (some [1,6])),(9,some none)] ?_;have hS:=hS.drew;refine' Rj;refine' Rd;refine zv hS ?_;refine' Lu);all_goals (refine' Kv (c:=P0 hsb.1.1 hsb.1.2 hp2 hS);rintro v1 w1 ⟨c3,hle2,hk3,hS⟩;obtain ⟨a3,n3,rfl⟩:=EU hk3;(try have hle:=hle.trans hle2);(try have hL0:=hL0.trans hle2);(try have hL1:=hL1.trans hle2);(try have hJ6:=hJ6.trans hle2);(try have hJ10:=hJ10.trans hle2);(try have hf:=hf.up hle2);(try have hk1:=hk1.up hle2);(try have hk2:=hk2.up hle2);(try have hp1:=hp1.up hle2);(try have hr1:=hr1.up hle2);(try have hb1:=hb1.up hle2);(try have hp2:=hp2.up hle2);(try have hc2:=hc2.up hle2);(try have he21:=he21.up hle2);(try have he22:=he22.up hle2);(try have he23:=he23.up hle2);(try have he24:=he24.up hle2);(try have he25:=he25.up hle2);(try have he1:=he1.up hle2);(try have he2:=he2.up hle2);(try have hls:=hls.up hle2);(try have hlsB:=hlsB.up hle2);(try have hst:=hst.up hle2);(try have hstB:=hstB.up hle2));all_goals (refine' MB;refine Od [_,_,_,_,_,_,_,_,_,_,_,_] ?_;refine' Pu;intro p9 w1 hS;refine' M4;refine Ka hS ?_;intro w1 hS;have hS:=hS.ns;refine' Lc;exact Bl)
       · skip;all_goals (refine zC [(0,none),(1,none),(2,none),(3,none),(5,none),(6,none),(8,some (some [1,3,6])),(4,some (some [1,6])),(7,none),(9,some none)] ?_;have hS:=hS.drew;refine' Rj;refine' Rd;refine zv hS ?_;refine' Pu;intro p9 w1 hS;refine' Mu);all_goals (refine' Kv (c:=P0 hsb.1.1 hsb.1.2 hp2 hS);rintro v1 w1 ⟨c3,hle2,hk3,hS⟩;obtain ⟨a3,n3,rfl⟩:=EU hk3;(try have hle:=hle.trans hle2);(try have hL0:=hL0.trans hle2);(try have hL1:=hL1.trans hle2);(try have hJ6:=hJ6.trans hle2);(try have hJ10:=hJ10.trans hle2);(try have hf:=hf.up hle2);(try have hk1:=hk1.up hle2);(try have hk2:=hk2.up hle2);(try have hp1:=hp1.up hle2);(try have hr1:=hr1.up hle2);(try have hb1:=hb1.up hle2);(try have hp2:=hp2.up hle2);(try have hc2:=hc2.up hle2);(try have he21:=he21.up hle2);(try have he22:=he22.up hle2);(try have he23:=he23.up hle2);(try have he24:=he24.up hle2);(try have he25:=he25.up hle2);(try have he1:=he1.up hle2);(try have he2:=he2.up hle2);(try have hls:=hls.up hle2);(try have hlsB:=hlsB.up hle2);(try have hst:=hst.up hle2);(try have hstB:=hstB.up hle2));all_goals (refine' MB;refine Od [_,_,_,_,_,_,_,_,_,_,_,_] ?_;refine' LM;refine Ka hS ?_;intro w1 hS;have hS:=hS.ns;refine' Lc;exact Bl)
     (((((((rintro ρ w1 ⟨k10,a3,n3,p9,hA,hρ,hle2,hk3,hS⟩;obtain ⟨ρ,rfl⟩:=J3 hA hρ;(try have hle:=hle.trans hle2);(try have hL0:=hL0.trans hle2);(try have hL1:=hL1.trans hle2);(try have hJ6:=hJ6.trans hle2);(try have hJ10:=hJ10.trans hle2);(try have hf:=hf.up hle2);(try have hk1:=hk1.up hle2);(try have hk2:=hk2.up hle2);(try have hp1:=hp1.up hle2);(try have hr1:=hr1.up hle2);(try have hb1:=hb1.up hle2);(try have hp2:=hp2.up hle2);(try have hc2:=hc2.up hle2);(try have he21:=he21.up hle2);(try have he22:=he22.up hle2);(try have he23:=he23.up hle2);(try have he24:=he24.up hle2);(try have he25:=he25.up hle2);(try have he1:=he1.up hle2);(try have he2:=he2.up hle2);(try have hls:=hls.up hle2);(try have hlsB:=hlsB.up hle2);(try have hst:=hst.up hle2);(try have hstB:=hstB.up hle2);all_goals (refine Qu ?_;refine zC [(0,none),(1,none),(2,none),(4,none),(5,none),(6,none),(8,none),(9,none),(10,none),(3,some (some [6,10])),(12,none),(13,none),(7,some (some [10])),(11,some (some [])),(14,some none),(15,none),(16,none),(17,some none),(18,none),(19,none),(20,some none)] ?_;have hS:=hS.drew;refine' L6;refine' cq;refine' NB;refine zv hS ?_;refine' Rd;refine' NB;refine zv hS ?_;refine' Rd;refine' NB;refine zl hS ?_;refine' Lu));all_goals (refine' Kv (c:=kU (x:=x2.fin.yes) (by have:=hsb.2.2.2.1.1;omega) (by have:=hsb.2.2.2.1.2;omega) ⟨_,_,rfl,he21,he22⟩ hS);rintro v1 w1 ⟨c7,ds,rfl,hle2,hk7,hS⟩;obtain ⟨y1,y2,rfl,hy1,hy2⟩:=SG hk7;obtain ⟨a7,n7,rfl⟩:=EU hy1;obtain ⟨a8,n8,rfl⟩:=EU hy2;(try have hle:=hle.trans hle2);(try have hL0:=hL0.trans hle2);(try have hL1:=hL1.trans hle2);(try have hJ6:=hJ6.trans hle2);(try have hJ10:=hJ10.trans hle2);(try have hf:=hf.up hle2);(try have hk1:=hk1.up hle2);(try have hk2:=hk2.up hle2);(try have hk3:=hk3.up hle2);(try have hp1:=hp1.up hle2);(try have hr1:=hr1.up hle2);(try have hb1:=hb1.up hle2);(try have hp2:=hp2.up hle2);(try have hc2:=hc2.up hle2);(try have he21:=he21.up hle2);(try have he22:=he22.up hle2);(try have he23:=he23.up hle2);(try have he24:=he24.up hle2);(try have he25:=he25.up hle2);(try have he1:=he1.up hle2);(try have he2:=he2.up hle2);(try have hls:=hls.up hle2);(try have hlsB:=hlsB.up hle2);(try have hst:=hst.up hle2);(try have hstB:=hstB.up hle2)));all_goals (refine' MB;refine' cq;refine' MH;refine' Lu));all_goals (refine' Kv (c:=kU (x:=x2.fin.no) (by have:=hsb.2.2.2.2.1.1;omega) (by have:=hsb.2.2.2.2.1.2;omega) ⟨_,_,rfl,he23,he24⟩ hS);rintro v1 w1 ⟨c8,ds,rfl,hle2,hk8,hS⟩;obtain ⟨z1,z2,rfl,hz1,hz2⟩:=SG hk8;obtain ⟨a9,n9,rfl⟩:=EU hz1;obtain ⟨a10,n10,rfl⟩:=EU hz2;(try have hle:=hle.trans hle2);(try have hL0:=hL0.trans hle2);(try have hL1:=hL1.trans hle2);(try have hJ6:=hJ6.trans hle2);(try have hJ10:=hJ10.trans hle2);(try have hf:=hf.up hle2);(try have hk1:=hk1.up hle2);(try have hk2:=hk2.up hle2);(try have hk3:=hk3.up hle2);(try have hk7:=hk7.up hle2);(try have hp1:=hp1.up hle2);(try have hr1:=hr1.up hle2);(try have hb1:=hb1.up hle2);(try have hp2:=hp2.up hle2);(try have hc2:=hc2.up hle2);(try have he21:=he21.up hle2);(try have he22:=he22.up hle2);(try have he23:=he23.up hle2);(try have he24:=he24.up hle2);(try have he25:=he25.up hle2);(try have he1:=he1.up hle2);(try have he2:=he2.up hle2);(try have hls:=hls.up hle2);(try have hy1:=hy1.up hle2);(try have hy2:=hy2.up hle2);(try have hlsB:=hlsB.up hle2);(try have hst:=hst.up hle2);(try have hstB:=hstB.up hle2)));all_goals (refine' Mu));all_goals (refine' Kv (c:=al (by have:=hsb.2.2.2.2.2;omega) he25 hS);rintro v1 w1 ⟨c9,hle2,hw1,hS⟩;obtain ⟨a11,n11,rfl⟩:=EU hw1;(try have hle:=hle.trans hle2);(try have hL0:=hL0.trans hle2);(try have hL1:=hL1.trans hle2);(try have hJ6:=hJ6.trans hle2);(try have hJ10:=hJ10.trans hle2);(try have hf:=hf.up hle2);(try have hk1:=hk1.up hle2);(try have hk2:=hk2.up hle2);(try have hk3:=hk3.up hle2);(try have hk7:=hk7.up hle2);(try have hk8:=hk8.up hle2);(try have hp1:=hp1.up hle2);(try have hr1:=hr1.up hle2);(try have hb1:=hb1.up hle2);(try have hp2:=hp2.up hle2);(try have hc2:=hc2.up hle2);(try have he21:=he21.up hle2);(try have he22:=he22.up hle2);(try have he23:=he23.up hle2);(try have he24:=he24.up hle2);(try have he25:=he25.up hle2);(try have he1:=he1.up hle2);(try have he2:=he2.up hle2);(try have hls:=hls.up hle2);(try have hy1:=hy1.up hle2);(try have hy2:=hy2.up hle2);(try have hz1:=hz1.up hle2);(try have hz2:=hz2.up hle2);(try have hlsB:=hlsB.up hle2);(try have hst:=hst.up hle2);(try have hstB:=hstB.up hle2)));all_goals (refine' M4;(first|(refine Ka hS ?_;intro w1 hS;have hS:=hS.ns)|(refine cj hS ?_;intro w1 hS;have hS:=hS.ns));refine' Rd;refine' Uo;(first|(refine Ka hS ?_;intro w1 hS;have hS:=hS.ns)|(refine cj hS ?_;intro w1 hS;have hS:=hS.ns));refine' Rd;refine' Uo;refine LP hS ?_;intro w1 hS;have hS:=hS.ns;refine' Lc;refine' SQ));refine zo [2,3,6,9,13,14,15,29,30,31,62,63] (fun A ρ' w'=>∃(k2:Cx) (k:Nat) (uc:Value) (cssC:List (List Value)),J2 ρ' A∧J2 ρ' [(64, .int .i64 k)]∧(c9.Le k2)∧(k≤x2.code.length)∧(Ky.ls k2 cssC (x2.code.take k))∧(oneC uc=true)∧St k2 w' (sl 84 8 uc cssC::blk p9 92 [.int .i64 x2.regs, .slice a3 x2.params.length n3,uc, .int .i64 x2.fin.op, .int .i64 x2.fin.a, .int .i64 x2.fin.yes.block, .slice a7 x2.fin.yes.regs.length n7, .slice a8 x2.fin.yes.args.length n8, .int .i64 x2.fin.no.block, .slice a9 x2.fin.no.regs.length n9, .slice a10 x2.fin.no.args.length n10, .slice a11 x2.fin.args.length n11]::blk p8 92 [.int .i64 x2.regs,vp2,vc2, .int .i64 x2.fin.op, .int .i64 x2.fin.a, .int .i64 x2.fin.yes.block,ve21,ve22, .int .i64 x2.fin.no.block,ve23,ve24,ve25]::sl 92 12 ub cssB::blk p6 95 [.int .i64 x1.regs, .slice a1 x1.params.length n1, .slice a2 x1.results.length n2,ub]::blk p5 95 [.int .i64 x1.regs,vp1,vr1,vb1]::sl 95 4 u css::blk p3 24 [u]::blk p2 24 [.slice none 0 0]::blk p1 24 [vf]::P1 84 ps1::L)) (fun ρ' _=>(x2.code.length - iv (ρ' 64)).toNat) ?_ ?_
     · exact C7
     (rintro ρ w1 ⟨k2,k,uc,cssC,hA,hρ,hle2,hkk,hlsC,huc,hS⟩;obtain ⟨ρ,rfl⟩:=J3 hA hρ;have hL2:=hle2;(try have hle:=hle.trans hle2);(try have hL0:=hL0.trans hle2);(try have hL1:=hL1.trans hle2);(try have hJ6:=hJ6.trans hle2);(try have hJ10:=hJ10.trans hle2);(try have hf:=hf.up hle2);(try have hk1:=hk1.up hle2);(try have hk2:=hk2.up hle2);(try have hk3:=hk3.up hle2);(try have hk7:=hk7.up hle2);(try have hk8:=hk8.up hle2);(try have hp1:=hp1.up hle2);(try have hr1:=hr1.up hle2);(try have hb1:=hb1.up hle2);(try have hp2:=hp2.up hle2);(try have hc2:=hc2.up hle2);(try have he21:=he21.up hle2);(try have he22:=he22.up hle2);(try have he23:=he23.up hle2);(try have he24:=he24.up hle2);(try have he25:=he25.up hle2);(try have he1:=he1.up hle2);(try have he2:=he2.up hle2);(try have hls:=hls.up hle2);(try have hy1:=hy1.up hle2);(try have hy2:=hy2.up hle2);(try have hz1:=hz1.up hle2);(try have hz2:=hz2.up hle2);(try have hw1:=hw1.up hle2);(try have hlsB:=hlsB.up hle2);(try have hst:=hst.up hle2);(try have hstB:=hstB.up hle2);all_goals (refine' Mq));refine' Ab<;>intro hc
     · skip;all_goals (refine' Rk;intro b3 o3 cs3 x3 hat3 hx3 he3;obtain ⟨vr3,va3,rfl,hr3,ha3⟩:=Nh he3;refine' MI;intro p11 w1 hS;refine Ka hS ?_;intro w1 hS;have hS:=hS.ns;refine' OQ;have hsi:=hsb.2.2.1 x3 (EI hx3);refine zC [(0,none),(1,none),(3,none),(4,none),(2,some (some [4])),(6,none),(5,some (some [])),(7,some none),(8,none),(9,some none)] ?_;have hS:=hS.drew;refine' Rj;refine' Lu);all_goals (refine' Kv (c:=al (by have:=hsi.1;omega) hr3 hS);rintro v1 w1 ⟨c4,hle2,hk4,hS⟩;obtain ⟨a4,n4,rfl⟩:=EU hk4;(try have hle:=hle.trans hle2);(try have hL0:=hL0.trans hle2);(try have hL1:=hL1.trans hle2);(try have hL2:=hL2.trans hle2);(try have hJ6:=hJ6.trans hle2);(try have hJ10:=hJ10.trans hle2);(try have hf:=hf.up hle2);(try have hk1:=hk1.up hle2);(try have hk2:=hk2.up hle2);(try have hk3:=hk3.up hle2);(try have hk7:=hk7.up hle2);(try have hk8:=hk8.up hle2);(try have hp1:=hp1.up hle2);(try have hr1:=hr1.up hle2);(try have hb1:=hb1.up hle2);(try have hp2:=hp2.up hle2);(try have hc2:=hc2.up hle2);(try have he21:=he21.up hle2);(try have he22:=he22.up hle2);(try have he23:=he23.up hle2);(try have he24:=he24.up hle2);(try have he25:=he25.up hle2);(try have hr3:=hr3.up hle2);(try have ha3:=ha3.up hle2);(try have he1:=he1.up hle2);(try have he2:=he2.up hle2);(try have he3:=he3.up hle2);(try have hls:=hls.up hle2);(try have hy1:=hy1.up hle2);(try have hy2:=hy2.up hle2);(try have hz1:=hz1.up hle2);(try have hz2:=hz2.up hle2);(try have hw1:=hw1.up hle2);(try have hlsB:=hlsB.up hle2);(try have hlsC:=hlsC.up hle2);(try have hst:=hst.up hle2);(try have hstB:=hstB.up hle2));all_goals (refine' MB;refine' L7;refine' Lu);all_goals (refine' Kv (c:=al (by have:=hsi.2;omega) ha3 hS);rintro v1 w1 ⟨c5,hle2,hk5,hS⟩;obtain ⟨a5,n5,rfl⟩:=EU hk5;(try have hle:=hle.trans hle2);(try have hL0:=hL0.trans hle2);(try have hL1:=hL1.trans hle2);(try have hL2:=hL2.trans hle2);(try have hJ6:=hJ6.trans hle2);(try have hJ10:=hJ10.trans hle2);(try have hf:=hf.up hle2);(try have hk1:=hk1.up hle2);(try have hk2:=hk2.up hle2);(try have hk3:=hk3.up hle2);(try have hk4:=hk4.up hle2);(try have hk7:=hk7.up hle2);(try have hk8:=hk8.up hle2);(try have hp1:=hp1.up hle2);(try have hr1:=hr1.up hle2);(try have hb1:=hb1.up hle2);(try have hp2:=hp2.up hle2);(try have hc2:=hc2.up hle2);(try have he21:=he21.up hle2);(try have he22:=he22.up hle2);(try have he23:=he23.up hle2);(try have he24:=he24.up hle2);(try have he25:=he25.up hle2);(try have hr3:=hr3.up hle2);(try have ha3:=ha3.up hle2);(try have he1:=he1.up hle2);(try have he2:=he2.up hle2);(try have he3:=he3.up hle2);(try have hls:=hls.up hle2);(try have hy1:=hy1.up hle2);(try have hy2:=hy2.up hle2);(try have hz1:=hz1.up hle2);(try have hz2:=hz2.up hle2);(try have hw1:=hw1.up hle2);(try have hlsB:=hlsB.up hle2);(try have hlsC:=hlsC.up hle2);(try have hst:=hst.up hle2);(try have hstB:=hstB.up hle2));all_goals (refine' M4;refine LP hS ?_;intro w1 hS;have hS:=hS.ns;refine' KA;refine' L7;refine' LM;refine LP hS ?_;intro w1 hS;have hS:=hS.ns;refine' Lc;have hk9:Ky.at c5 _ x3:=⟨_,_,rfl,hk4,hk5⟩;refine' W1;refine KY hS [_,_,_,_,_,_,_,_] ?_;intro b1 w1 hS;refine za UE ak hS ?_;intro vp1 w1 css1 hls1 hv1 hS;have hS:=hS.ns;refine' PS;intro w1 hS;have hS:=hS.ns;refine' PX;exact B8)
     · skip;all_goals (refine' K2;rw [E1 Jo] at hlsC;have hstC:=hstB.push (b:=x2) (v:=uc) hlsC (by have:=hsb.2.1;omega);have hS:=Ib (x:=(uc,cssC)) (f:=fun p:Value×List (List Value)=>sl 84 8 p.1 p.2) (I7 (hS.out (r:=P1 84 ps1) fd));simp only [Gs,F6] at hS;have hk9:LJ.at k2 _ ⟨x2,uc,ps1.length⟩:=tR (x:=⟨x2,uc,ps1.length⟩) hk3 huc hy1 hy2 hz1 hz2 hw1;refine' W1;refine KY hS [_,_,_,_,_,_,_,_,_,_,_,_] ?_;intro b1 w1 hS;refine za kS RT hS ?_;intro vp2 w2 css2 hls2 hv2 hS;have hS:=hS.ns;refine' PS;intro w1 hS;have hS:=hS.ns;refine' PX;exact ⟨⟨_,i+1,_,_,bs++[⟨x2,uc,ps1.length⟩],ps1++[(uc,cssC)],zh,zh,hL1,Jo,(by rw [Fa,hbs,OI hx2];rfl),(by rw [EM,hbl];rfl),by assumption,(by rw [←FX];exact hstC),by assumption,hS.sp⟩,Qb Jo⟩)
   · skip;all_goals (refine' K2);all_goals (rw [E1 Jo] at hbs;obtain ⟨c10,hle2,hS,hk6⟩:=FI (r:=LJ) (l:=bs) hS hlsB rfl (by have:=hsh.2.2.1;omega);obtain ⟨a6,n6,rfl⟩:=EU hk6;(try have hle:=hle.trans hle2);(try have hL0:=hL0.trans hle2);(try have hL1:=hL1.trans hle2);(try have hJ6:=hJ6.trans hle2);(try have hf:=hf.up hle2);(try have hk1:=hk1.up hle2);(try have hk2:=hk2.up hle2);(try have hp1:=hp1.up hle2);(try have hr1:=hr1.up hle2);(try have hb1:=hb1.up hle2);(try have he1:=he1.up hle2);(try have hls:=hls.up hle2);(try have hlsB:=hlsB.up hle2);(try have hst:=hst.up hle2);(try have hstB:=hstB.up hle2));all_goals (have hk9:Mc.at c10 _ ⟨x1.regs,x1.params,x1.results,bs⟩:=⟨_,_,_,rfl,hk1,hk2,hk6⟩;refine' W1;refine KY hS [_,_,_,_] ?_;intro b1 w1 hS;refine za kR RP hS ?_;intro vp3 w3 css3 hls3 hv3 hS;have hS:=hS.ns;refine' PS;intro w1 hS;have hS:=hS.ns;refine' PX;exact ⟨⟨_,j+1,_,_,fs++[⟨x1.regs,x1.params,x1.results,bs⟩],ps1,zh,zh,hL0,Jo,(by rw [Fa,hfs,OI hx1];show _++[Fun.mk _ _ _ (bs.map (·.b))]=_;rw [hbs]),(by rw [EM,hfl];rfl),by assumption,(by rw [Hs,FR,List.flatMap_nil,FA];exact hstB),by assumption,hS.sp⟩,Qb Jo⟩)
 · skip;all_goals (refine' K2;refine' Nr;refine Ka hS ?_;intro w1 hS;have hS:=hS.ns;refine' L8;refine Lw vw (Q4 (n:=1) Jk Jk (hS.blkAt fd) Jr Jr) ?_;exact ⟨_,rfl,k0,u,css,fs,ps,rfl,hle,hu,⟨(by rw [hfs,E1 Jo]),hls,hst⟩,hS.sp⟩)
end
section
attribute [local irreducible] MV KV Rq pick LA OW Oo
variable {cx:Cx}{w:World}{L:List Res}
theorem Yp {f:Fun}(hsh:f.Short)(h12:f.blocks.length≤12)(hok:∀y∈f.blocks,∀x∈y.code,x.op=14→0≤x.k)(hf:Kj.at cx cs f)(hS:St cx w L):JW Tryz.prog zV [.agg ⟨cs⟩] w fun u w'=>∃c',cx.Le c'∧JY.sl c' u ((Oo f.blocks).map fun k:Nat=>(k:Int))∧St c' w' L:=by
 ((obtain ⟨vp,vr,vb,rfl,hp,hr,hb⟩:=Qw hf;obtain ⟨a0,n0,rfl⟩:=EU hb;have hlen:=hb.len;have hcl:=oV (l:=f.blocks) fun y hy=>(hsh.2.2.2 y hy).2.1;all_goals refine Kd Kc Tryz.func88 ?_);all_goals (refine' KO;intro p1 w1 hS;refine' Kg;refine' LG;refine' SQ));refine zo [9,10] (fun A ρ' w'=>∃(i:Nat) (vo:Value),J2 ρ' A∧J2 ρ' [(3,vo),(11, .int .i64 i)]∧(i≤f.blocks.length)∧((Oo (f.blocks.take i)).length≤i*100000)∧St cx w' (sl 3 1 vo (((Oo (f.blocks.take i)).map fun k:Nat=>(k:Int)).map KQ)::blk p1 95 [.int .i64 f.regs,vp,vr, .slice a0 f.blocks.length n0]::L)) (fun ρ' _=>(f.blocks.length - iv (ρ' 11)).toNat) ?_ ?_
 · exact ⟨0, .slice none 0 0,zh,zh,Jo,(by rw [GB];unfold Oo;exact E7 _),by have hS:=hS.nil (T:=3) (es:=1);rw [GB,show Oo []=[] by unfold Oo;rfl];exact hS.sp⟩
 (rintro ρ w1 ⟨i,vo,hA,hρ,hi,hsz,hS⟩;obtain ⟨ρ,rfl⟩:=J3 hA hρ;all_goals (refine' Mq));refine' Ab<;>intro hc
 · skip
   (all_goals (refine' Rk;intro b1 o1 cs1 x1 hat1 hx1 he1;obtain ⟨vp1,vc1,ve11,ve12,ve13,ve14,ve15,rfl,hp1,hc1,he11,he12,he13,he14,he15⟩:=QZ he1;refine' MI;intro p5 w1 hS;refine Ka hS ?_;intro w1 hS;have hS:=hS.ns;refine' zn;have hm1:=EI hx1;have hcx:=(hsh.2.2.2 x1 hm1).2.1;have hcm:=oU (l:=x1.code);refine' Ni;refine' PQ));refine zo [9,10,11,16,17] (fun A ρ' w'=>∃(k:Nat) (vo:Value),J2 ρ' A∧J2 ρ' [(3,vo),(18, .int .i64 k)]∧(k≤x1.code.length)∧St cx w' (sl 3 1 vo (((Oo (f.blocks.take i)++OW (x1.code.take k)).map fun k:Nat=>(k:Int)).map KQ)::blk p1 95 [.int .i64 f.regs,vp,vr, .slice a0 f.blocks.length n0]::L)) (fun ρ' _=>(x1.code.length - iv (ρ' 18)).toNat) ?_ ?_
   · exact ⟨0,vo,zh,zh,Jo,by rw [GB,show OW []=[] by unfold OW;rfl,FA];exact hS.sp⟩
   (rintro ρ w1 ⟨k,vo,hA,hρ,hk,hS⟩;obtain ⟨ρ,rfl⟩:=J3 hA hρ;all_goals (refine' Mq));refine' Ab<;>intro hc
   · skip
     (all_goals (refine' Rk;intro b2 o2 cs2 x2 hat2 hx2 he2;obtain ⟨vr2,va2,rfl,hr2,ha2⟩:=Nh he2;refine' MI;intro p7 w1 hS;refine Ka hS ?_;intro w1 hS;have hS:=hS.ns;refine' OR);all_goals (first|(refine' Ql)|(refine' Qn)|(refine' Ac<;>intro hc)));all_goals (refine' zn)
     all_goals
      first
      | (refine' J0;all_goals refine' J5)
      | (refine' JZ;all_goals (refine' Pb;refine KY hS [_] ?_;intro b1 w1 hS;have hxk:=hok x1 hm1 x2 (EI hx2) Jo;have hil:=oU (l:=x1.code.take k);rw [F8] at hil;refine Nv Ro (.inl RQ) hS vw vw fd (hS.srcB1 fd rfl) De ?_;intro vq w2 hS;have hS:=hS.ns;have e9:((Oo (f.blocks.take i)++OW (x1.code.take k)).map fun k:Nat=>(k:Int)).map KQ++[[Value.int .i64 x2.k]]=((Oo (f.blocks.take i)++OW (x1.code.take (k+1))).map fun k:Nat=>(k:Int)).map KQ:=(by rw [tP hx2,if_pos Jo];simp only [Fa,FM,Io,FX];rw [Fb hxk];rfl);rw [e9] at hS;refine' zm);all_goals refine' zn)
     all_goals (refine' Og;(first|(exact ⟨⟨k+1,vq,zh,zh,Jo,hS.sp⟩,Qb Jo⟩)|(exact ⟨⟨k+1,vo,zh,zh,Jo,by rw [tP hx2,if_neg Jo,FA];exact hS.sp⟩,Qb Jo⟩)))
   · skip;all_goals (refine' K2;refine' Og;exact ⟨⟨i+1,vo,zh,zh,Jo,(by rw [tQ hx1,EM];omega),by rw [tQ hx1];rw [E1 (i:=k) Jo] at hS;exact hS.sp⟩,Qb Jo⟩)
 · skip;all_goals (refine' Up;rw [E1 Jo] at hS;obtain ⟨c6,hle6,hS,hk6⟩:=FI (r:=JY) hS (ln _) rfl Df;exact ⟨_,rfl,c6,hle6,hk6,hS.sp⟩)
theorem Yq {m:List Fun}{n p:Nat}{vf:Value}(hsh:∀f∈m,f.Short)(h12:∀f∈m,f.blocks.length≤12)(hok:LI m)(hf:Kj.sl cx vf m)(hn:n=m.length):UP Tryz.prog s8 [.pointer (some ⟨p,0,none⟩)] (Nj m) n cx (blk p 24 [vf]):=by
 (subst hn;intro k cx w L i hle hk hi hS;have hf:=hf.up hle;show JW Tryz.prog s8 [.int .i64 k, .pointer (some ⟨p,0,none⟩)] w _;all_goals refine Kd Kc Tryz.func87 ?_);all_goals (refine' LG;refine' Ki;refine' L7;refine eW hS rfl hi rfl ?_;refine' zm;refine RD (m:=k) vw rfl hf rfl hk ?_;intro b1 o1 cs1 x1 hat1 hx1 he1;have he9:=he1;obtain ⟨w1,w2,w3,rfl, -⟩:=Qw he1;refine' MZ;have hm9:=EI hx1;refine' Kv (c:=Yp (hsh _ hm9) (h12 _ hm9) (fun y hy x hx ho=>(hok _ hm9 y hy x hx ho).1) he9 hS);rintro v1 w1 ⟨c3,hle3,hl3,hS⟩;refine' KN;exact ⟨_,rfl,c3,hle3,(by rw [iP hx1];exact hl3),hS.sp⟩)
end
end Go.Proofs.YteflkifmgnpbhaaGreat
namespace Go.Lir
section
variable {c c':Cx}{w:World}{L:List Res}{TI:TypeId}{ps:List (Value×List (List Value))}{cods:List (List Ins)}
def BlkH.as (g:BlkH→List Ins)(y:BlkH):Block:={y.b with code:=g y}
def FunH.as (g:BlkH→List Ins)(f:FunH):Fun:=⟨f.regs,f.params,f.results,f.blocks.map (BlkH.as g)⟩
theorem cO {g:BlkH→List Ins}{y:BlkH}(h:LJ.at c cs y)(hle:c.Le c')(hk:Ky.sl c' y.v (g y)):Kx.at c' cs (y.as g):=by
 obtain ⟨vp,ce,rfl,h1,h2,h3⟩:=h;exact ⟨vp,y.v,ce,rfl,h1.turn hle.turn,hk,K3.turn h3 hle.turn⟩
theorem Yr {g:BlkH→List Ins}{v:Value}{ys:List BlkH}(h:LJ.sl c v ys)(hle:c.Le c')(hk:∀y∈ys,Ky.sl c' y.v (g y)):Kx.sl c' v (ys.map (BlkH.as g)):=by
 obtain ⟨css,h1,h2,h3⟩:=h;refine ⟨css,h1.turn hle.turn,⟨by rw [EK];exact h2.1,fun m x hx=>?_⟩,by rw [EK];exact h3⟩;rw [EN] at hx
 cases e:ys[m]? with
 | none=>rw [e] at hx;cases hx
 | some y=>
   rw [e] at hx;have hx:y.as g=x:=(by simpa using hx);subst hx;obtain ⟨d,h4,h5⟩:=h2.2 m y e;exact ⟨d,h4,cO h5 hle (hk y (EI e))⟩
theorem cP {g:BlkH→List Ins}{f:FunH}(h:Mc.at c cs f)(hle:c.Le c')(hk:∀y∈f.blocks,Ky.sl c' y.v (g y)):Kj.at c' cs (f.as g):=by
 obtain ⟨vp,vr,vb,rfl,h1,h2,h3⟩:=h;exact ⟨vp,vr,vb,rfl,h1.turn hle.turn,h2.turn hle.turn,Yr h3 hle hk⟩
theorem Ys {g:BlkH→List Ins}{fs:List FunH}(h:Mc.ls c css fs)(hle:c.Le c')(hk:∀f∈fs,∀y∈f.blocks,Ky.sl c' y.v (g y)):Kj.ls c' css (fs.map (FunH.as g)):=by
 refine ⟨by rw [EK];exact h.1,fun m x hx=>?_⟩;rw [EN] at hx
 cases e:fs[m]? with
 | none=>rw [e] at hx;cases hx
 | some f=>
   rw [e] at hx;have hx:f.as g=x:=(by simpa using hx);subst hx;obtain ⟨d,h4,h5⟩:=h.2 m f e;exact ⟨d,h4,cP h5 hle (hk f (EI e))⟩
theorem pd {g:BlkH→List Ins}{fs:List FunH}(hS:St c w (P1 TI ps::L))(hc:L9 c ps cods)(hh:∀f∈fs,∀y∈f.blocks,Hd ps y∧cods[y.q]?=some (g y))(hf:Mc.ls c css fs):
 ∃c',c.Le c'∧St c' w L∧Kj.ls c' css (fs.map (FunH.as g))∧∀{w':World}{L':List Res},St c' w' L'→St c w' (P1 TI ps::L'):=by
 obtain ⟨c',h1,h2,h3,h4⟩:=QfZ hS hc;refine ⟨c',h1,h2,Ys hf h1 fun f hf y hy=>?_,h4⟩;obtain ⟨h5,h6⟩:=hh f hf y hy;obtain ⟨cs,h7,_,_⟩:=h5.at_ hc h6;exact h3 _ _ _ h6 h7
structure Begin (c:Cx) (ps:List (Value×List (List Value))) (cods:List (List Ins)) (fs:List FunH):Prop where
 cd:L9 c ps cods
 hd:∀f∈fs,∀y∈f.blocks,Hd ps y∧cods[y.q]?=some y.b.code
 nd:((fs.flatMap (·.blocks)).map (·.q)).Nodup
theorem lp {α:Type}:∀(ks:List Bool) (l:List α),(pick ks l).Sublist l
 | [],_=>by cases ‹List α› <;>exact List.nil_sublist _
 | _::_,[]=>List.Sublist.slnil
 | k::ks,x::l=>by
   simp only [pick];split
   · exact (lp ks l).cons_cons x
   · exact (lp ks l).cons x
theorem Yt (f:FunH):(f.trim.blocks.map (·.q)).Sublist (f.blocks.map (·.q)):=by
 unfold FunH.trim;rw [Gn];exact (lp (MV (f.blocks.map (·.b))) f.blocks).map _
theorem tV:∀fs:List FunH,(((fs.map FunH.trim).flatMap (·.blocks)).map (·.q)).Sublist ((fs.flatMap (·.blocks)).map (·.q))
 | []=>List.Sublist.slnil
 | f::fs=>by
   rw [FM,FR,FR,Fa,Fa];exact (Yt f).append (tV fs)
theorem US {f:FunH}{y:BlkH}(h:y∈f.trim.blocks):∃z∈f.blocks,y.v=z.v∧y.q=z.q∧y.b.code=z.b.code:=by
 unfold FunH.trim at h;obtain ⟨z,hz,rfl⟩:=Fc.1 h;exact ⟨z,cF _ _ hz,rfl,rfl,rfl⟩
theorem Begin.of {fs:List FunH}(h:Stor c ps (fs.flatMap (·.blocks))):Begin c ps ((fs.flatMap (·.blocks)).map (·.b.code)) (fs.map FunH.trim):=by
 refine ⟨h.cods,fun f hf y hy=>?_,(tV fs).nodup h.nodup⟩;obtain ⟨g,hg,rfl⟩:=Fc.1 hf;obtain ⟨z,hz,e1,e2,e3⟩:=US hy;have hm:z∈fs.flatMap (·.blocks):=G6.2 ⟨g,hg,hz⟩;refine ⟨?_,by rw [e2,e3];exact h.code hm⟩;have:=h.hd z hm;unfold Hd at this ⊢;rw [e1,e2];exact this
theorem Begin.up {fs:List FunH}(h:Begin c ps cods fs)(hle:c.Le c'):Begin c' ps cods fs:=⟨h.cd.up hle,h.hd,h.nd⟩
theorem tW {Z fs:List FunH}(hZ:Z.Sublist fs):(Z.flatMap (·.blocks)).Sublist (fs.flatMap (·.blocks)):=by
 induction hZ with
 | slnil=>exact List.Sublist.slnil
 | cons a _ ih=>rw [FR];exact ih.trans (List.sublist_append_right _ _)
 | cons_cons a _ ih=>rw [FR,FR];exact (List.Sublist.refl _).append ih
theorem Begin.done {fs Z:List FunH}{ps':List (Value×List (List Value))}{f:Ins→Ins}(h:Begin c ps cods fs)(hZ:Z.Sublist fs)(hv:ps'.map Prod.fst=ps.map Prod.fst):∀F∈Z,∀y∈F.blocks,Hd ps' y∧(NO f cods (Z.flatMap (·.blocks)))[y.q]?=some (y.b.code.map f):=by
 intro F hF y hy;have h1:=h.hd F (hZ.subset hF) y hy;have hsub:((Z.flatMap (·.blocks)).map (·.q)).Sublist ((fs.flatMap (·.blocks)).map (·.q)):=(tW hZ).map _;refine ⟨?_,tT (hsub.nodup h.nd) (G6.2 ⟨F,hF,hy⟩) (EJ.1 h1.2).1⟩;have:=h1.1;unfold Hd at this ⊢;rw [hv];exact this
theorem Begin.not {fs Z:List FunH}{F:FunH}{t b:Nat}{y:BlkH}{f:Ins→Ins}(h:Begin c ps cods fs)(hZ:Z.Sublist fs)(hF:Z[t]?=some F)(hy:F.blocks[b]?=some y):(NO f cods ((Z.take t).flatMap (·.blocks)++F.blocks.take b))[y.q]?=some y.b.code:=by
 have hFm:=EI hF;have h1:=h.hd F (hZ.subset hFm) y (EI hy);rw [oY,h1.2];intro hq;have hsub:((Z.flatMap (·.blocks)).map (·.q)).Sublist ((fs.flatMap (·.blocks)).map (·.q)):=(tW hZ).map _;have hn:=hsub.nodup h.nd;have e1:Z=Z.take t++F::Z.drop (t+1):=(by rw [←Q1 hF,GC]);have e2:F.blocks=F.blocks.take b++y::F.blocks.drop (b+1):=(by rw [←Q1 hy,GC]);rw [e1,Hs,FR,e2] at hn;have e3:(List.flatMap (fun x=>x.blocks) (Z.take t)++(F.blocks.take b++y::F.blocks.drop (b+1)++List.flatMap (fun x=>x.blocks) (Z.drop (t+1))))=(List.flatMap (fun x=>x.blocks) (Z.take t)++F.blocks.take b)++y::(F.blocks.drop (b+1)++List.flatMap (fun x=>x.blocks) (Z.drop (t+1))):=(by simp);rw [e3,Fa,GI] at hn;exact hn.2.2 _ hq _ (Fh ..) rfl
end
theorem UT {a l:List α}(h:a.length=l.length)(hi:i≤l.length):(a.take i++l.drop i)[i]?=l[i]?:=by
 have e:(a.take i).length=i:=DG;rw [EV Jo,e,Gl,GN];rfl
theorem tX {a l:List α}{x:α}(h:a.length=l.length)(hx:a[i]?=some x):(a.take i++l.drop i).set i x=a.take (i+1)++l.drop (i+1):=by
 have hi:=(EJ.1 hx).1;have e:(a.take i).length=i:=DG;rw [GR _ _ Jo,e,Gl,OI hx,FX];obtain ⟨y,hy⟩:∃y,l[i]?=some y:=⟨_,EH Jo⟩;rw [Q1 hy];rfl
theorem UU {a l:List α}(_h:a.length=l.length)(hx:a[i]?=l[i]?)(hi:i<l.length):a.take (i+1)++l.drop (i+1)=a.take i++l.drop i:=by
 obtain ⟨y,hy⟩:∃y,l[i]?=some y:=⟨_,EH hi⟩;rw [OI (hx.trans hy),FX,Q1 hy];rfl
theorem Yu {β:Type}{l:List (α×β)}{v:α}{x y:β}(h:l[q]?=some (v,x)):(l.set q (v,y)).map Prod.fst=l.map Prod.fst:=by
 apply Gg;intro i;rw [EN,EN,FD];split
 · next e => subst e;rw [h];split
             · rfl
             · next hn=>exact absurd (EJ.1 h).1 hn
 · rfl
theorem Yv (F:FunH):F.as (fun y=>y.b.code.map (Kp ks))=OX ks F.to:=by
 unfold FunH.as OX FunH.to;simp only [Gn];rfl
theorem QgL {fs:List FunH}{l:List Fun}(h:fs.map FunH.to=l):(pick (KV (l.map Fun.trim)) (fs.map FunH.trim)).map (FunH.as fun y=>y.b.code.map (Kp (KV (l.map Fun.trim))))=fI (l.map Fun.trim):=by
 have e:l.map Fun.trim=(fs.map FunH.trim).map FunH.to:=by
  rw [←h,Gn,Gn];exact FE fun f _=>(Jc f).symm
 unfold fI;generalize KV (l.map Fun.trim)=ks;rw [e];generalize fs.map FunH.trim=gs;rw [oH,Gn];exact FE fun f _=>Yv f
end Go.Lir
namespace Go.Proofs.YteflkifmgnpbhaaGreat
open Go.Lir

@[reducible] def tY:FuncId:=147
@[reducible] def Q8L:FuncId:=148
@[reducible] def Q8M:FuncId:=149
@[reducible] def UW:FuncId:=202
@[reducible] def Qc2:FuncId:=205
@[reducible] def Q6U:FuncId:=206
@[reducible] def Q8J:FuncId:=207
@[reducible] def Q6V:FuncId:=209
@[reducible] def Q8K:FuncId:=210
@[reducible] def tZ:FuncId:=237
@[reducible] def Q8I:FuncId:=238
@[reducible] def Q7I:FuncId:=239
@[reducible] def pe:FuncId:=240
@[reducible] def ua:FuncId:=241
@[reducible] def ud:FuncId:=242
@[reducible] def Q9v:FuncId:=243
@[reducible] def ue:FuncId:=244
@[reducible] def Q6S:FuncId:=245
@[reducible] def Q6T:FuncId:=246
@[reducible] def Q6R:FuncId:=247
@[reducible] def Q7J:FuncId:=248
@[reducible] def Q9u:FuncId:=249
@[reducible] def Q7K:FuncId:=250
@[reducible] def ug:FuncId:=251
@[reducible] def uh:FuncId:=261
@[reducible] def ui:FuncId:=264
end Go.Proofs.YteflkifmgnpbhaaGreat
namespace Go.Lir
section
section
variable {P:Program}{l:List GO}{Q:QT}{ρ:Km}{w:World}
end
end
section
section
variable {P:Program}{l:List GO}{Q:QT}{ρ:Km}{w:World}
theorem St.freeze1 {r:Rep α}{c:Cx}{T b:Nat}{cs:List Value}{x:α}(h:St c w (blk b T cs::L))(hr:r.at c cs x):∃c',c.Le c'∧St c' w L∧r.sl c' (.slice (some ⟨b,0,none⟩) 1 1) [x]:=by
 have h1:St c w (sl T r.es (.slice (some ⟨b,0,none⟩) 1 1) [cs]::L):=h.slOf (css:=[cs]) Js (by intro q hq;simp at hq;subst hq;exact r.len hr) rfl;exact h1.freezeL (r:=r) ((FY r _ _).push hr) rfl Js
abbrev Fm:=@St.freeze1
end
end
end Go.Lir
namespace Go.Proofs.YteflkifmgnpbhaaGreat
open Go.Lir
attribute [local irreducible] LC.wp Q0 Qh Qd Kq Qz LO.wp Q5 Calls
attribute [local irreducible] Ke Ls Ma MM
variable {cx:Cx}{w:World}{L:List Res}
def Yw (hp:Nat)(h:List Bool):Res:=Res.ex fun v=>star (blk hp 296 [v]) (sl 4 1 v (h.map QG))
theorem fM {hp:Nat}{h:List Bool}(hS:St cx w (Yw hp h::L)):∃v,St cx w (blk hp 296 [v]::sl 4 1 v (h.map QG)::L):=by
 obtain ⟨v,hS⟩:=St.ex hS;exact ⟨v,hS.star⟩
theorem cQ {hp:Nat}{h:List Bool}{v:Value}(hS:St cx w (blk hp 296 [v]::sl 4 1 v (h.map QG)::L)):St cx w (Yw hp h::L):=St.ex' v hS.star'
theorem UX {hp:Nat}{h:List Bool}{v:Value}{r:Int}(hS:St cx w (blk hp 296 [v]::sl 4 1 v (h.map QG)::L)):
 JW Tryz.prog uh [.pointer (some ⟨hp,0,none⟩), .int .i64 r] w fun u w'=>u= .bool (Ke h r)∧St cx w' (blk hp 296 [v]::sl 4 1 v (h.map QG)::L):=by
 ((have hlen:(h.map QG).length=h.length:=EK _;refine Kd Kc Tryz.func261 ?_;refine' Oi;first|(refine' Ml)|(refine' Mz)|(refine' Ag<;>intro hc));all_goals (refine' Ll;refine' Pc;refine' Ny;(first|refine' J1|(refine' J4;(first|(refine QY hS hel1 rfl OH (OG QG h false Jo) rfl ?_)|(refine zl hS ?_))));refine' X8;first|refine' J1|(refine' J4;(first|(refine' K0)|(refine' K1)|(refine' Ae<;>intro hc)))));all_goals (refine' Pw;refine' Rb;refine' Ny;(first|refine' J1|(refine' J4;(first|(refine QY hS hel1 rfl OH (OG QG h false Jo) rfl ?_)|(refine zl hS ?_))));refine' Mi;(first|refine' J1|(refine' J4;(first|(refine' Nc;intro b1 o1 cs1 x1 hat1 hx1 he1;obtain rfl:=Qs he1)|(refine Ps hS ?_;intro b1 o1 hel1)|(refine Z8 hS ?_;intro b1 o1 hel1))));(first|refine' J1|(refine' J4;(first|(refine QY hS hel1 rfl OH (OG QG h false Jo) rfl ?_)|(refine zl hS ?_)|(refine Sf hS ?_)|(refine cg hS ?_)|(refine il hS ?_)|(refine im hS ?_))));refine' Un;(exact Am))
theorem iR {hp:Nat}{h:List Bool}{v:Value}(hS:St cx w (blk hp 296 [v]::sl 4 1 v (h.map QG)::L)):
 JW Tryz.prog ua [.pointer (some ⟨hp,0,none⟩)] w fun u w'=>u= .int .i64 h.length∧St cx w' (blk hp 296 [v]::sl 4 1 v (h.map QG)::L):=by
 have hlen:(h.map QG).length=h.length:=EK _;refine Kd Kc Tryz.func241 ?_;refine' Oi;refine' O7;refine' cp;refine' KN;(((refine ⟨_,rfl,?_,hS.sp⟩;(rfl);done)))
theorem UY {hp:Nat}{h:List Bool}{v:Value}(hl:h.length≤16)(hS:St cx w (blk hp 296 [v]::sl 4 1 v (h.map QG)::L)):
 JW Tryz.prog ug [.pointer (some ⟨hp,0,none⟩)] w fun u w'=>∃c',cx.Le c'∧JY.sl c' u (Ls h)∧St c' w' (blk hp 296 [v]::sl 4 1 v (h.map QG)::L):=by
 have hlen:(h.map QG).length=h.length:=EK _;refine Kd Kc Tryz.func251 ?_;refine' LG;refine' NN;refine' Mm;(first|(refine QY hS Ja rfl Pn (OG QG h false Jo) rfl ?_)|(refine zl hS ?_));refine' cp;refine' NY;have hS:=HM (T:=3) (es:=1) hS;refine zo [9,10] (fun A ρ' w'=>∃(j:Nat) (vo:Value) (co:List (List Value)),J2 ρ' A∧J2 ρ' [(11, .int .i64 j),(3,vo)]∧(j≤h.length)∧(JY.ls cx co (MM h j))∧St cx w' (sl 3 1 vo co::blk hp 296 [v]::sl 4 1 v (h.map QG)::L)) (fun ρ' _=>(h.length - iv (ρ' 11)).toNat) ?_ ?_
 · exact Co
 rintro ρ w1 ⟨j,vo,co,hA,hρ,hj,hls,hS⟩;obtain ⟨ρ,rfl⟩:=J3 hA hρ;have hll:=nr h j;have hsu:=kE h j;refine' Mq;refine' Ab<;>intro hc
 · skip
   refine' Lj;refine' KH;(first|(refine' Nc;intro b1 o1 cs1 x1 hat1 hx1 he1;obtain rfl:=Qs he1)|(refine Ps hS ?_;intro b1 o1 hel1));(first|(refine QY hS Ja rfl Pn (OG QG h false Jo) rfl ?_)|(refine zl hS ?_)|(refine Sf hS ?_)|(refine cg hS ?_)|(refine il hS ?_)|(refine im hS ?_));refine' zm;refine' Kg;refine' LG;refine' Aa<;>intro hc
   · skip;refine' Oj;refine KY hS [_] ?_;intro b1 w1 hS;refine za Ro RQ hS ?_;intro vp1 w1 css1 hls1 hv1 hS;have hS:=hS.ns;refine' Kg;refine' Og;(exact C3)
   · skip;refine' J5;refine' Og;(exact Ao)
 · skip;refine' Up;(refine ⟨_,rfl,?_⟩;obtain ⟨c',hle,hS',hk⟩:=FI (r:=JY) hS hls rfl Jo;refine ⟨c',hle,?_,hS'⟩;rw [show j=h.length by omega] at hk;unfold Ls;exact hk)
theorem cR {hp:Nat}{h:List Bool}{v:Value}(hl:h.length<16)(hS:St cx w (blk hp 296 [v]::sl 4 1 v (h.map QG)::L)):
 JW Tryz.prog ud [.pointer (some ⟨hp,0,none⟩)] w fun u w'=>u= .int .i64 h.length∧∃v',St cx w' (blk hp 296 [v']::sl 4 1 v' ((h++[true]).map QG)::L):=by
 have hlen:(h.map QG).length=h.length:=EK _;refine Kd Kc Tryz.func242 ?_;refine' NN;refine' O7;refine' cp;refine' Rc;refine' zn;refine' PV;refine' KL;refine' O7;refine KY hS [_] ?_;intro b1 w1 hS;((refine Nv fx (.inl kT) hS vw vw fd (hS.srcB1 fd rfl) De ?_;intro vp w2 hS;have hS:=hS.ns;rw [show h.map QG++[[Value.bool true]]=(h++[true]).map QG by simp [QG]] at hS));refine' Mm;((refine LP hS ?_;intro w1 hS;have hS:=hS.ns));refine' OQ;have hlen1:(h++[true]).length=h.length+1:=(by simp);refine' W6;refine' cp;refine' PL;refine' KN;((exact ⟨_,rfl,(by congr 1;omega),_,hS.sp⟩))
theorem cS {hp:Nat}{h:List Bool}{v:Value}{r:Int}(hr:Ke h r=true)(hS:St cx w (blk hp 296 [v]::sl 4 1 v (h.map QG)::L)):
 JW Tryz.prog ue [.pointer (some ⟨hp,0,none⟩), .int .i64 r] w fun u w'=>u= .bool true∧St cx w' (blk hp 296 [v]::sl 4 1 v ((h.set r.toNat false).map QG)::L):=by
 have hlen:(h.map QG).length=h.length:=EK _;have hr':=bL hr;refine Kd Kc Tryz.func244 ?_;refine' LG;refine' KL;refine ZQ rfl (UX hS) ?_;rintro v1 w1 ⟨rfl,hS⟩;rw [hr];refine' Kg;refine' M3;refine' Kg;refine' JZ;refine' W6;refine' zm;(first|(refine' Nc;intro b1 o1 cs1 x1 hat1 hx1 he1;obtain rfl:=Qs he1)|(refine Ps hS ?_;intro b1 o1 hel1)|(refine Z8 hS ?_;intro b1 o1 hel1));(first|(refine kt hS hel1 rfl vw OH (OG QG h false Jo) rfl rfl ?_;intro w2 hS;have hS:=hS.ns;rw [show (QG (h.getD r.toNat false)).set 0 (Value.bool false)=QG false from rfl,map_set] at hS)|(refine LP hS ?_;intro w1 hS;have hS:=hS.ns)|(refine sP hS ?_;intro w1 hS;have hS:=hS.ns)|(refine sQ hS ?_;intro w1 hS;have hS:=hS.ns));refine' zn;refine' O9;(refine ⟨_,rfl,?_,hS.sp⟩;(rfl);done)
theorem cT {hp:Nat}{h:List Bool}{v:Value}{xs:List Int}(hl:h.length≤16)(hx:JY.sl cx v2 xs)(hS:St cx w (blk hp 296 [v]::sl 4 1 v (h.map QG)::L)):
 JW Tryz.prog ui [.pointer (some ⟨hp,0,none⟩),v2] w fun u w'=>u= .int .i64 (Ma h [] xs)∧∃c',cx.Le c'∧St c' w' (blk hp 296 [v]::sl 4 1 v (h.map QG)::L):=by
 have hlen:(h.map QG).length=h.length:=EK _;have hxl:=hx.len;refine Kd Kc Tryz.func264 ?_;refine' Oi;refine' Mm;(first|(refine QY hS hel2 rfl fd hgetS rfl ?_)|(refine zl hS ?_));refine' cp;refine r6 fx hS rfl rfl Jo Jo ?_;intro v5 w1 hS;rw [E5] at hS;refine' SO;have hS:St cx _ (sl 4 1 v5 ((P8 h []).map QG)::blk hp 296 [v]::sl 4 1 v (h.map QG)::L):=(by rw [yG,JD];exact hS);refine' LF;refine' PQ;refine zo [0,1,5,14,15] (fun A ρ' w'=>∃(j:Nat),J2 ρ' A∧J2 ρ' [(16, .int .i64 j)]∧(j≤xs.length)∧(Ma h [] xs=Ma h (xs.take j) (xs.drop j))∧St cx w' (sl 4 1 v5 ((P8 h (xs.take j)).map QG)::blk hp 296 [v]::sl 4 1 v (h.map QG)::L)) (fun ρ' _=>(xs.length - iv (ρ' 16)).toNat) ?_ ?_
 · exact Br
 rintro ρ w1 ⟨j,hA,hρ,hj,hgo,hS⟩;obtain ⟨ρ,rfl⟩:=J3 hA hρ;have hln:=yF h (xs.take j);have hlm:((P8 h (xs.take j)).map QG).length=h.length:=(by rw [EK,hln]);refine' Mq;refine' Ab<;>intro hc
 · skip
   refine' iz;refine' zi;intro b1 o1 cs1 x1 hat1 hx1 he1;obtain rfl:=Qs he1;(first|(refine QY hS hel2 rfl fd hgetS rfl ?_)|(refine zl hS ?_)|(refine Sf hS ?_));refine' SO;rw [Q1 hx1,Ma] at hgo;refine' Oj;refine ZQ rfl (UX (L:=sl 4 1 v5 ((P8 h (xs.take j)).map QG)::L) hS.sp) ?_;rintro v1 w1 ⟨rfl,hS⟩;refine' Oh;refine' Aa<;>intro hc
   · skip;refine' Kw;(exact Bv)
   · skip
     have hc1:Ke h x1=true:=Dx;have hr:=bL hc1;rw [if_pos hc1] at hgo;have hsg:(P8 h (xs.take j)).getD x1.toNat false=decide (x1∈xs.take j):=yH Jo Jo;have hgetS:=OG QG (P8 h (xs.take j)) false (m:=x1.toNat) Jo;refine' J5;refine' O8;(first|(refine' Nc;intro b2 o2 cs2 x2 hat2 hx2 he2;obtain rfl:=Qs he2)|(refine Ps hS ?_;intro b2 o2 hel2)|(refine Z8 hS ?_;intro b2 o2 hel2));(first|(refine QY hS hel2 rfl fd hgetS rfl ?_)|(refine zl hS ?_)|(refine Sf hS ?_)|(refine cg hS ?_)|(refine il hS ?_)|(refine im hS ?_));refine' zn;refine' Aa<;>intro hc
     · skip;have hc2:x1∈xs.take j:=(by rw [hsg] at hc;exact of_decide_eq_true hc);rw [if_pos hc2] at hgo;refine' Kw;(first|(exact Bv)|(exact BJ))
     · skip;have hc2:x1∉xs.take j:=(by rw [hsg] at hc;exact of_decide_eq_false hc);rw [if_neg hc2] at hgo;refine' J5;refine' Oj;(first|(refine' Nc;intro b3 o3 cs3 x3 hat3 hx3 he3;obtain rfl:=Qs he3)|(refine Ps hS ?_;intro b3 o3 hel3)|(refine Z8 hS ?_;intro b3 o3 hel3));(first|(refine LP hS ?_;intro w1 hS;have hS:=hS.ns)|(refine sP hS ?_;intro w1 hS;have hS:=hS.ns)|(refine sQ hS ?_;intro w1 hS;have hS:=hS.ns));refine' PX;(exact ⟨⟨j+1,zh,zh,Jo,by rw [hgo,OI hx1],by rw [OI hx1,←yI hr.1];exact hS.sp⟩,Qb Jo⟩)
 · skip
   (refine' K2;refine' Mt;have hie:j=xs.length:=Dc;subst hie;rw [HS,List.drop_length,Ma] at hgo;refine' LF;refine' zL;refine' zm;refine ZQ rfl (UY (L:=L) hl hS.sp) ?_;rintro v5 w5 ⟨c5,hle5,hk5,hS⟩;refine' zL;first|(refine' K0)|(refine' K1)|(refine' Ae<;>intro hc));all_goals (refine' zn)
   all_goals
    first
    | (refine' JZ;refine' Kw;first|(exact Bv)|(exact BJ)|(exact Cd))
    | (refine' J0;refine' J5)
   refine' Kw;(first|(exact Bv)|(exact BJ)|(exact Cd)|(exact ⟨_,rfl,(by rw [hgo,if_neg Jo]),c5,hle5,hS.sp⟩))
theorem iS {n:Int}(hS:St cx w L):JW Tryz.prog UW [.int .i64 n] w fun u w'=>∃hp v,u= .pointer (some ⟨hp,0,none⟩)∧St cx w' (blk hp 296 [v]::sl 4 1 v ((List.replicate (min n 16).toNat true).map QG)::L):=by
 refine Kd Kc Tryz.func202 ?_;refine' LG;refine' Ki;refine MA [_] ?_;refine zb hS ?_;intro p5 w1 hS;refine' PO;refine gy rfl rfl ?_;refine' NY;have hS:=HM (T:=4) (es:=1) hS;refine zo [3,7] (fun A ρ' w'=>∃(j:Nat) (v:Value),J2 ρ' A∧J2 ρ' [(8, .int .i64 j)]∧(j≤(min n 16).toNat)∧St cx w' (sl 4 1 v ((List.replicate j true).map QG)::blk p5 296 [v]::L)) (fun ρ' _=>(min n 16 - iv (ρ' 8)).toNat) ?_ ?_
 · exact ⟨0,_,zh,zh,Jo,hS.sp⟩
 rintro ρ w1 ⟨j,v,hA,hρ,hj,hS⟩;obtain ⟨ρ,rfl⟩:=J3 hA hρ;refine' Mq;refine' Ab<;>intro hc
 · skip;refine' Lj;refine' Oj;refine' O7;refine KY hS [_] ?_;intro b1 w1 hS;refine Nv fx (.inl kT) hS vw vw fd (hS.srcB1 fd rfl) De ?_;intro vp w2 hS;have hS:=hS.ns;rw [show (List.replicate j true).map QG++[[Value.bool true]]=(List.replicate (j+1) true).map QG by rw [H6,Fa];rfl] at hS;refine' Mm;refine LP hS ?_;intro w1 hS;have hS:=hS.ns;refine' PX;(exact ⟨⟨j+1,_,zh,zh,Jo,hS.sp⟩,Qb Jo⟩)
 · skip;refine' Up;(exact Ca)
end Go.Proofs.YteflkifmgnpbhaaGreat
