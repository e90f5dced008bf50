
/- Lemmas of the proof, part 5: contracts. -/
import Derived.Test.YteflkifmgnpbhaaGreatZ3
import Derived.Test.YteflkifmgnpbhaaGreatZ4
import Derived.Test.YteflkifmgnpbhaaGreatZ2
open Go Go.Lir Go.Proofs.YteflkifmgnpbhaaGreat
variable {α β:Type}{l l2:List Val}{regs r kd left:Int}{m:Module}{cs ds:List Value}{s e':EstS}{t:Thg}{e:Tail}{vf u:Value}{g:Mj}{y:Block}{q d p1 p2 p3 fields:Nat}{p:α→Prop}{ms:Array (String×TypeId)}{X Y0q:RStp}{s':JS}{h':HpS}{ns:List Int}{g':RFrm}
set_option linter.unusedVariables false
set_option linter.unusedSimpArgs false
set_option maxHeartbeats 1000000
namespace Go.Lir
section
variable {p:Prop}
theorem C6 (h:p:=by intro h;cases h):p:=h
theorem Db (h:p:=by simpa using O):p:=h
theorem Ds (h:p:=by rw [←hhas];exact hh):p:=h
theorem Dz (h:p:=by unfold Thg.off Thg.size LN;split<;>(try split)<;>omega):p:=h
theorem DE (h:p:=by have:=h5 hk;omega):p:=h
theorem DT (h:p:=by intro m;exact TypeDesc.noConfusion):p:=h
theorem D3 (h:p:=by rw [hd,ES V,OY]):p:=h
theorem En (h:p:=by unfold EstS.get;rw [Qip O,Fa]):p:=h
theorem Ex (h:p:=by intro h9;rw [h9] at hpp;simp at hpp):p:=h
theorem Ey (h:p:=by rw [h0] at q5;split at q5<;>omega):p:=h
end
end Go.Lir
namespace Go.Lir
section
variable {p:Prop}
theorem Ay (h:p:=by exact ⟨⟨_,rfl⟩,rfl,Z.sp⟩):p:=h
theorem AJ (h:p:=by exact ⟨_,zh,zh,by exact ⟨fun _=> .inr ⟨Ja,V⟩,fun _=>rfl⟩,Z.sp⟩):p:=h
theorem AO (h:p:=by exact oj hw hk (Qd9 _) h):p:=h
theorem Bd (h:p:=by exact ⟨_,zh,zh,by exact ⟨fun h=>Bool.noConfusion h,fun h=>absurd h.1 V⟩,Z.sp⟩):p:=h
theorem BI (h:p:=by exact ⟨_,zh,zh,by exact ⟨fun _=>⟨V, .inr Ja⟩,fun _=>rfl⟩,Z.sp⟩):p:=h
theorem BL (h:p:=by exact ⟨_,zh,zh,by exact ⟨fun h=>Bool.noConfusion h,fun h=>h.2.elim (fun h=>absurd h Ja) (fun h=>absurd Ja h)⟩,Z.sp⟩):p:=h
theorem BS (h:p:=by exact H.apart r t x r' t' x' (hth r t x hx).2 (hth r' t' x' hx').2):p:=h
theorem BZ (h:p:=by exact .inl ⟨c.lv,c.iv,c.ov,fr,⟨g.f,e.yes.block.toNat,0,vv,vs⟩,s,inp,out,cm hv,hi,rfl,Z⟩):p:=h
theorem Cj (h:p:=by exact ⟨0,_,_,zh,zh,V,by rw [FG],Z.sp⟩):p:=h
theorem CF (h:p:=by exact ⟨_,zh,zh,by exact ⟨fun _=>⟨V, .inl Ja⟩,fun _=>rfl⟩,Z.sp⟩):p:=h
end
end Go.Lir
namespace Go.Proofs.YteflkifmgnpbhaaGreat
open Go.Lir
attribute [local irreducible] LC.wp Q0 Qp Qk KN Qw LO.wp Q6 Calls
variable {Y:Cx}{w:World}{L:List Res}
theorem lE (f:Nat)(hf:f≤1000000)(Z:St Y w L):Ka Tryz.prog Va [.int .i64 f] w fun u B=>u= .int .i64 (PC f)∧St Y B L:=by
 unfold PC;refine Kl Kh Tryz.func66 ?_;refine' Nk;refine' Pe;refine' MJ;refine' KQ;(((refine ⟨_,rfl,?_,Z.sp⟩;((congr 1;omega));done)))
theorem Qj9 (f:Nat)(hf:f≤1000000)(Z:St Y w L):Ka Tryz.prog Qfb [.int .i64 f] w fun u B=>u= .int .i64 (PC f)∧St Y B L:=by
 unfold PC;refine Kl Kh Tryz.func104 ?_;refine' Nk;refine' Pe;refine' MJ;refine' KQ;(((refine ⟨_,rfl,?_,Z.sp⟩;(rfl);done)))
theorem om (f b:Nat)(hf:f≤1000000)(hb:b≤1000000)(Z:St Y w L):Ka Tryz.prog Qkp [.int .i64 f, .int .i64 b] w fun u B=>u= .int .i64 (SS f b)∧St Y B L:=by
 unfold SS;refine Kl Kh Tryz.func113 ?_;refine' Nk;refine' Pe;refine' zm;refine' Pe;refine' MJ;refine' MJ;refine' KQ;(((refine ⟨_,rfl,?_,Z.sp⟩;((congr 1;omega));done)))
theorem QgY (f b:Nat)(hf:f≤1000000)(hb:b≤1000000)(Z:St Y w L):Ka Tryz.prog QdL [.int .i64 f, .int .i64 b] w fun u B=>u= .int .i64 (SS f b)∧St Y B L:=by
 unfold SS;refine Kl Kh Tryz.func161 ?_;refine' Nk;refine' Pe;refine' zm;refine' Pe;refine' MJ;refine' MJ;refine' KQ;(((refine ⟨_,rfl,?_,Z.sp⟩;(rfl);done)))
theorem rY (f b:Nat)(hf:f≤1000000)(hb:b≤1000000)(Z:St Y w L):Ka Tryz.prog Za [.int .i64 f, .int .i64 b] w fun u B=>u= .int .i64 (PW f b)∧St Y B L:=by
 unfold PW;refine Kl Kh Tryz.func57 ?_;refine' Nk;refine' Pe;refine' zm;refine' Pe;refine' MJ;refine' MJ;refine' KQ;(((refine ⟨_,rfl,?_,Z.sp⟩;((congr 1;omega));done)))
theorem rZ (f b:Nat)(hf:f≤1000000)(hb:b≤1000000)(Z:St Y w L):Ka Tryz.prog Qhr [.int .i64 f, .int .i64 b] w fun u B=>u= .int .i64 (PW f b)∧St Y B L:=by
 unfold PW;refine Kl Kh Tryz.func116 ?_;refine' Nk;refine' Pe;refine' zm;refine' Pe;refine' MJ;refine' MJ;refine' KQ;(((refine ⟨_,rfl,?_,Z.sp⟩;(rfl);done)))
theorem r5 (f b i:Nat)(hf:f≤1000000)(hb:b≤1000000)(hi:i≤1000000)(Z:St Y w L):Ka Tryz.prog Y9 [.int .i64 f, .int .i64 b, .int .i64 i] w fun u B=>u= .int .i64 (PX f b i)∧St Y B L:=by
 unfold PX;refine Kl Kh Tryz.func55 ?_;refine' Nk;refine' Pe;refine' zm;refine' Pe;refine' MJ;refine' XY;refine' KQ;(((refine ⟨_,rfl,?_,Z.sp⟩;((congr 1;omega));done)))
theorem r6 (f b i:Nat)(hf:f≤1000000)(hb:b≤1000000)(hi:i≤1000000)(Z:St Y w L):Ka Tryz.prog Qhq [.int .i64 f, .int .i64 b, .int .i64 i] w fun u B=>u= .int .i64 (PX f b i)∧St Y B L:=by
 unfold PX;refine Kl Kh Tryz.func115 ?_;refine' Nk;refine' Pe;refine' zm;refine' Pe;refine' MJ;refine' XY;refine' KQ;(((refine ⟨_,rfl,?_,Z.sp⟩;(rfl);done)))
theorem M5 {c a:Int}(Z:St Y w L):Ka Tryz.prog R_F [.int .i64 c, .int .i64 a] w fun u B=>u= .agg ⟨[.int .i64 c, .int .i64 a]⟩∧St Y B L:=by
 refine Kl Kh Tryz.func52 ?_;refine' Ov;(intro p4 E Z);refine' XZ;refine M8 [_,_] ?_;((refine Kp Z ?_;intro E Z;have Z:=Z.ns));refine' LM;refine QO vw (Q3 (n:=2) Jk Jk (Z.blkAt fd) Jr Jr) ?_;(((refine ⟨_,rfl,?_,Z.sp⟩;(rfl);done)))
theorem r7 {l:List Ty}{v:Value}(hl:KA.sl Y v l)(Z:St Y w L):Ka Tryz.prog Qhz [v, .int .i64 regs] w fun u B=>u= .int .i64 (QM l regs)∧St Y B L:=by
 have hlen:=hl.len;unfold QM;refine Kl Kh Tryz.func67 ?_;refine' MV;refine' zL;(refine' Af<;>intro O);all_goals (refine' zn)
 all_goals
  first
  | (refine' Kf;refine' KM;((refine ⟨_,rfl,?_,Z.sp⟩;(rw [Qip V]);done)))
  | (refine' Kd;refine' Ko)
 refine' Nr;refine Mt Z [0,1] (fun A LL ρ' B=>∃(j:Nat),Ki ρ' A∧Ki ρ' [(5, .int .i64 j)]∧(j≤l.length)∧(R6 regs l=R6 regs (l.drop j))∧St Y B (LL)) (fun ρ' _=>(l.length - iv (ρ' 5)).toNat) ?_ ?_
 · exact An
 rintro U E ⟨j,hA,hρ,hj,hd,Z⟩;obtain ⟨U,rfl⟩:=Km hA hρ;refine' S4;refine' Ab<;>intro O
 · skip
   refine' Mi;refine' KW;refine' zi;intro b1 o1 cs1 x1 hat1 hx1 he1;obtain ⟨vl1,rfl,hl1⟩:=Ql he1;refine N8 Z ?_;refine' zm;refine' Kk (c:=QiE Ja Z);rintro v1 E ⟨rfl,Z⟩;refine' L6;(refine' Ad<;>intro O);all_goals (refine' zn)
   all_goals
    first
    | (refine' Kf;refine' Rj;((refine ⟨_,rfl,?_,Z.sp⟩;(rw [Qin V,hd,Q7 hx1,R6,Ro Ja]);done)))
    | (refine' Kd;refine' Ko)
   refine' Mn;(exact ⟨⟨j+1,zh,zh,V,by rw [hd,Q7 hx1,R6,show x1.fault regs=0 by omega,PI],Z.sp⟩,Qh V⟩)
 · refine' Pn;(refine ⟨_,rfl,?_,Z.sp⟩;rw [Qin V,hd,ES V,R6];done)
theorem V1 {op : Int}(Z :St Y w L):Ka Tryz.prog QhE [.int .i64 op] w fun u B=>u= .tuple #[.agg ⟨[.bool (fA op), .bool (fB op), .bool (fC op), .bool (fK op), .bool (fN op), .bool (fG op), .bool (fR op)]⟩, .bool (decide (1≤op∧op≤14))]∧St Y B L:=by
 have hbad:(op<1∨14<op)→fA op=false∧fB op=false∧fC op=false∧fK op=false∧fN op=false∧fG op=false∧fR op=false∧decide (1≤op∧op≤14)=false:=by
  intro h;refine ⟨?_,?_,?_,?_,?_,?_,?_,?_⟩<;>(first|unfold fA|unfold fB|unfold fC|unfold fK|unfold fN|unfold fG|unfold fR|skip)<;>rw [decide_eq_false_iff_not]<;>omega
 by_cases hb:op<1∨14<op
 · obtain ⟨I, M, h3, h4, h5, h6, h7, h8⟩:=hbad hb
   rw [I,M,h3,h4,h5,h6,h7,h8];clear hbad I M h3 h4 h5 h6 h7 h8;refine Kl Kh Tryz.func150 ?_;refine' Ov;(intro p2 E Z);refine' MU;refine' S0;refine' Kn;refine' Pk
   all_goals
    first
    | (refine' Kd
       refine' P2;refine' Pk
       all_goals
        first
        | (refine' Kd;refine' Lm;refine' PE;refine' zm;refine' zn)
       all_goals
        first
        | (refine' Kd
           refine' P2;refine' Pk
           all_goals
            first
            | (refine' Kd;refine' Lm;refine' PE;refine' zm;refine' zn)
           all_goals
            first
            | (refine' Kd
               refine' P2;refine' Pk
               all_goals
                first
                | (refine' Kd
                   refine' Kn;refine' Pk
                   all_goals
                    first
                    | (refine' Kd;refine' Lm;refine' PE;refine' zm;refine' zn))
               all_goals
                first
                | (refine' Kd
                   refine' Kn;refine' Pk
                   all_goals
                    first
                    | (refine' Kd
                       refine' Kn;refine' Pk
                       all_goals
                        first
                        | (refine' Kd
                           refine' P2;refine' Pk
                           all_goals
                            first
                            | (refine' Kd;refine' Lm;refine' PE;refine' zm;refine' zn)
                           all_goals
                            first
                            | (refine' Kd
                               refine' Kn;refine' Pk
                               all_goals
                                first
                                | (refine' Kd
                                   refine' Kn;refine' Pk
                                   all_goals
                                    first
                                    | (refine' Kd;refine' Ko)))))))))
   refine' Kn;refine Ly [_,_,_,_,_,_,_] ?_;refine Kp Z ?_;intro E Z;have Z:=Z.ns;refine' Mo;refine QD vw (Q3 (n:=7) Jk Jk (Z.blkAt fd) Jr Jr) vw ?_;(refine ⟨_,rfl,?_,Z.sp⟩;(rfl);done)
 · clear hbad
   rcases LB (op:=op) V V with rfl|rfl|rfl|rfl|rfl|rfl|rfl|rfl|rfl|rfl|rfl|rfl|rfl|rfl
   all_goals (clear hb;refine Kl Kh Tryz.func150 ?_;skip;refine' Ov;intro p2 E Z;refine' MU;refine' S0;refine' Kn;refine' PG;refine' Kv)
   all_goals
    first
    | (refine' Kf;refine' Kn;refine OF [_,_,_,_,_,_,_] ?_;refine Kp Z ?_;intro E Z;have Z:=Z.ns;refine' Mo;refine QD vw (Q3 (n:=7) Jk Jk (Z.blkAt fd) Jr Jr) vw ?_;((refine ⟨_,rfl,?_,Z.sp⟩;(rfl);done)))
    | (refine' Kd
       all_goals (refine' P2;refine' PG;refine' Kv)
       all_goals
        first
        | (refine' Kf;refine' Ko)
        | (refine' Kd;all_goals (refine' Lm;refine' PG;refine' zm);all_goals refine' zn)
       all_goals
        first
        | (refine' Kf;all_goals (refine' Kn;refine PF [_,_,_,_,_,_,_] ?_;refine Kp Z ?_;intro E Z;have Z:=Z.ns;refine' Mo;refine QD vw (Q3 (n:=7) Jk Jk (Z.blkAt fd) Jr Jr) vw ?_);all_goals (refine ⟨_,rfl,?_,Z.sp⟩;(rfl);done))
        | (refine' Kd
           all_goals (refine' P2;refine' PG;refine' Kv)
           all_goals
            first
            | (refine' Kf;refine' Ko)
            | (refine' Kd;all_goals (refine' Lm;refine' PG;refine' zm);all_goals refine' zn)
           all_goals
            first
            | (refine' Kf;all_goals (refine' Kn;refine Ly [_,_,_,_,_,_,_] ?_;refine Kp Z ?_;intro E Z;have Z:=Z.ns;refine' Mo;refine QD vw (Q3 (n:=7) Jk Jk (Z.blkAt fd) Jr Jr) vw ?_);all_goals (refine ⟨_,rfl,?_,Z.sp⟩;(rfl);done))
            | (refine' Kd
               all_goals (refine' P2;refine' PG;refine' Kv)
               all_goals
                first
                | (refine' Kf;refine' Ko)
                | (refine' Kd
                   all_goals (refine' Kn;refine' PG;refine' Kv)
                   all_goals
                    first
                    | (refine' Kf;refine' Ko)
                    | (refine' Kd;all_goals (refine' Lm;refine' PG;refine' zm);all_goals refine' zn))
               all_goals
                first
                | (refine' Kf;all_goals (refine' Kn;refine OF [_,_,_,_,_,_,_] ?_;refine Kp Z ?_;intro E Z;have Z:=Z.ns;refine' Mo;refine QD vw (Q3 (n:=7) Jk Jk (Z.blkAt fd) Jr Jr) vw ?_);all_goals (refine ⟨_,rfl,?_,Z.sp⟩;(rfl);done))
                | (refine' Kd
                   all_goals (refine' Kn;refine' PG;refine' Kv)
                   all_goals
                    first
                    | (refine' Kf;refine' Kn;refine M8 [_,_,_,_,_,_,_] ?_;refine Kp Z ?_;intro E Z;have Z:=Z.ns;refine' Mo;refine QD vw (Q3 (n:=7) Jk Jk (Z.blkAt fd) Jr Jr) vw ?_;((refine ⟨_,rfl,?_,Z.sp⟩;(rfl);done)))
                    | (refine' Kd
                       all_goals (refine' Kn;refine' PG;refine' Kv)
                       all_goals
                        first
                        | (refine' Kf;refine' Kn;refine M8 [_,_,_,_,_,_,_] ?_;refine Kp Z ?_;intro E Z;have Z:=Z.ns;refine' Mo;refine QD vw (Q3 (n:=7) Jk Jk (Z.blkAt fd) Jr Jr) vw ?_;((refine ⟨_,rfl,?_,Z.sp⟩;(rfl);done)))
                        | (refine' Kd
                           all_goals (refine' P2;refine' PG;refine' Kv)
                           all_goals
                            first
                            | (refine' Kf;refine' Ko)
                            | (refine' Kd;all_goals (refine' Lm;refine' PG;refine' zm);all_goals refine' zn)
                           all_goals
                            first
                            | (refine' Kf;all_goals (refine' Kn;refine M8 [_,_,_,_,_,_,_] ?_;refine Kp Z ?_;intro E Z;have Z:=Z.ns;refine' Mo;refine QD vw (Q3 (n:=7) Jk Jk (Z.blkAt fd) Jr Jr) vw ?_);all_goals (refine ⟨_,rfl,?_,Z.sp⟩;(rfl);done))
                            | (refine' Kd
                               all_goals (refine' Kn;refine' PG;refine' Kv)
                               all_goals
                                first
                                | (refine' Kf;refine' Kn;refine PF [_,_,_,_,_,_,_] ?_;refine Kp Z ?_;intro E Z;have Z:=Z.ns;refine' Mo;refine QD vw (Q3 (n:=7) Jk Jk (Z.blkAt fd) Jr Jr) vw ?_;((refine ⟨_,rfl,?_,Z.sp⟩;(rfl);done)))
                                | (refine' Kd
                                   refine' Kn;refine' UW
                                   all_goals
                                    first
                                    | (refine' Kf;refine' Kn;refine PF [_,_,_,_,_,_,_] ?_;refine Kp Z ?_;intro E Z;have Z:=Z.ns;refine' Mo;refine QD vw (Q3 (n:=7) Jk Jk (Z.blkAt fd) Jr Jr) vw ?_;((refine ⟨_,rfl,?_,Z.sp⟩;(rfl);done)))))))))))
   all_goals (refine' Kn;refine Ly [_,_,_,_,_,_,_] ?_;refine Kp Z ?_;intro E Z;have Z:=Z.ns;refine' Mo;refine QD vw (Q3 (n:=7) Jk Jk (Z.blkAt fd) Jr Jr) vw ?_;refine ⟨_,rfl,?_,Z.sp⟩;(rfl);done)
theorem V2 {x :Ins}(hm:Lr.at Y cs m)(hx:K1.at Y ds x)(Z:St Y w L):Ka Tryz.prog Qkn [.agg ⟨cs⟩, .agg ⟨ds⟩] w fun u B=>u= .int .i64 (Qs m.funcs.length x)∧St Y B L:=by
 obtain ⟨vf,rfl,hf⟩:=NR hm;obtain ⟨vr,va,rfl,hr,ha⟩:=QN hx;have hlr:=hr.len;have hla:=ha.len;have hln:=hf.len;unfold Qs;refine Kl Kh Tryz.func94 ?_;refine' KU;intro p2 E Z;refine zb Z ?_;intro p3 E Z;refine' Kv;refine' L5;refine' Kw (c:=V1 Z);rintro v1 E ⟨rfl,Z⟩;refine' Rk;(intro p5 E Z);((refine Kp Z ?_;intro E Z;have Z:=Z.ns));refine' Kv;refine SY Z [2,3,5] (fun A LL ρ' B=>Ki ρ' A∧Ki ρ' []∧(1≤x.op∧x.op≤14)∧St Y B (LL)) ?_ ?_
 · skip
   refine Qm ?_;cases hop:decide (1≤x.op∧x.op≤14);all_goals (refine' Lp;refine' O2)
   all_goals
    first
    | (refine' Kf;refine' KM;((refine ⟨_,rfl,?_,Z.sp⟩;(rw [Qip (by have:=of_decide_eq_false hop;omega)]);done)))
    | (refine' Kd;refine' Ko)
   ((exact ⟨zh,zh,by exact of_decide_eq_true hop,Z.sp⟩))
 rintro U E ⟨hA,hρ,hop,Z⟩;obtain ⟨U,rfl⟩:=Km hA hρ;obtain ⟨a1,ha1⟩:∃b,fA x.op=b:=⟨_,rfl⟩;obtain ⟨a2,ha2⟩:∃b,fB x.op=b:=⟨_,rfl⟩;obtain ⟨a3,ha3⟩:∃b,fC x.op=b:=⟨_,rfl⟩;obtain ⟨a4,ha4⟩:∃b,fK x.op=b:=⟨_,rfl⟩;obtain ⟨a5,ha5⟩:∃b,fN x.op=b:=⟨_,rfl⟩;obtain ⟨a6,ha6⟩:∃b,fG x.op=b:=⟨_,rfl⟩;obtain ⟨a7,ha7⟩:∃b,fR x.op=b:=⟨_,rfl⟩;rw [ha1,ha2,ha3,ha4,ha5,ha6,ha7] at Z;refine SY Z [2,3] (fun A LL ρ' B=>Ki ρ' A∧Ki ρ' []∧(¬x.odd)∧St Y B (LL)) ?_ ?_
 · skip
   refine' Kn;refine P0 Z 8 [2,3,5] (fun A LL ρ' B=>∃(q1:Bool),Ki ρ' A∧Ki ρ' [(22, .bool q1)]∧(q1=true↔(fA x.op=false∧x.a≠0))∧St Y B (LL)) ?_ ?_
   · refine' KJ;cases a1;all_goals (refine' ND;refine' LH;first|refine' Kj|(refine' Kg;refine' Ad<;>intro O));all_goals (refine' nJ;first|(exact ⟨_,zh,zh,by exact ⟨fun _=>⟨Ja,V⟩,fun _=>rfl⟩,Z.sp⟩)|(exact B0))
   rintro U E ⟨q1,hA,hρ,hq1,Z⟩;obtain ⟨U,rfl⟩:=Km hA hρ;refine P0 Z 10 [2,3,5] (fun A LL ρ' B=>∃(q2:Bool),Ki ρ' A∧Ki ρ' [(32, .bool q2)]∧(q2=true↔((fA x.op=false∧x.a≠0)∨(fB x.op=false∧x.b≠0)))∧St Y B (LL)) ?_ ?_
   · cases q1;all_goals (refine' LH;cases a2);all_goals (refine' TK;first|refine' Kj|(refine' Kg;refine' Ad<;>intro O));all_goals (refine' Sg;first|(exact CJ)|(exact AJ)|(exact Ch))
   rintro U E ⟨q2,hA,hρ,hq2,Z⟩;obtain ⟨U,rfl⟩:=Km hA hρ;refine P0 Z 10 [2,3,5] (fun A LL ρ' B=>∃(q3:Bool),Ki ρ' A∧Ki ρ' [(42, .bool q3)]∧(q3=true↔(((fA x.op=false∧x.a≠0)∨(fB x.op=false∧x.b≠0))∨(fC x.op=false∧x.c≠0)))∧St Y B (LL)) ?_ ?_
   · cases q2;all_goals (refine' LH;cases a3);all_goals (refine' TK;first|refine' Kj|(refine' Kg;refine' Ad<;>intro O));all_goals (refine' Sg;first|(exact CA)|(exact AJ)|(exact Co))
   rintro U E ⟨q3,hA,hρ,hq3,Z⟩;obtain ⟨U,rfl⟩:=Km hA hρ;refine P0 Z 10 [2,3,5] (fun A LL ρ' B=>∃(q4:Bool),Ki ρ' A∧Ki ρ' [(52, .bool q4)]∧(q4=true↔((((fA x.op=false∧x.a≠0)∨(fB x.op=false∧x.b≠0))∨(fC x.op=false∧x.c≠0))∨(fK x.op=false∧x.k≠0)))∧St Y B (LL)) ?_ ?_
   · cases q3;all_goals (refine' LH;cases a4);all_goals (refine' TK;first|refine' Kj|(refine' Kg;refine' Ad<;>intro O));all_goals (refine' Sg;first|(exact B2)|(exact AJ)|(exact Cw))
   rintro U E ⟨q4,hA,hρ,hq4,Z⟩;obtain ⟨U,rfl⟩:=Km hA hρ;refine P0 Z 10 [2,3,5] (fun A LL ρ' B=>∃(q5:Bool),Ki ρ' A∧Ki ρ' [(62, .bool q5)]∧(q5=true↔(((((fA x.op=false∧x.a≠0)∨(fB x.op=false∧x.b≠0))∨(fC x.op=false∧x.c≠0))∨(fK x.op=false∧x.k≠0))∨(fN x.op=false∧x.n≠0)))∧St Y B (LL)) ?_ ?_
   · cases q4;all_goals (refine' LH;cases a5);all_goals (refine' TK;first|refine' Kj|(refine' Kg;refine' Ad<;>intro O));all_goals (refine' Sg;first|(exact Cf)|(exact AJ)|(exact BE))
   rintro U E ⟨q5,hA,hρ,hq5,Z⟩;obtain ⟨U,rfl⟩:=Km hA hρ;refine P0 Z 11 [2,3,5] (fun A LL ρ' B=>∃(q6:Bool),Ki ρ' A∧Ki ρ' [(73, .bool q6)]∧(q6=true↔((((((fA x.op=false∧x.a≠0)∨(fB x.op=false∧x.b≠0))∨(fC x.op=false∧x.c≠0))∨(fK x.op=false∧x.k≠0))∨(fN x.op=false∧x.n≠0))∨(fG x.op=false∧0<x.regs.length)))∧St Y B (LL)) ?_ ?_
   · cases q5;all_goals (refine' LH;cases a6);all_goals (refine' TK;refine' ML;first|refine' Kj|(refine' Kg;refine' Af<;>intro O));all_goals (refine' Sg;first|(exact Cl)|(exact AJ)|(exact Cd))
   ((rintro U E ⟨q6,hA,hρ,hq6,Z⟩;obtain ⟨U,rfl⟩:=Km hA hρ;cases q6;all_goals (refine' LH;cases a7));all_goals (refine' TK;refine' ML;first|refine' Kj|(refine' Kg;refine' Af<;>intro O)));all_goals (refine' Y2;refine' Ld)
   all_goals
    first
    | (refine' Kf;all_goals (refine' KM);all_goals (refine ⟨_,rfl,?_,Z.sp⟩;have ho:x.odd:=(by unfold Ins.odd;simp only [←or_assoc];first|exact .inl (hq6.1 rfl)|exact .inr ⟨Ja,V⟩);rw [Qin V,Qip ho];done))
    | (refine' Kd;all_goals refine' Ko)
   all_goals (exact ⟨zh,zh,by intro h;unfold Ins.odd at h;simp only [←or_assoc] at h;exact h.elim (fun h=>Bool.noConfusion (hq6.2 h)) (fun h=>by obtain ⟨I,M⟩:=h;first|(exfalso;omega)|(simp_all;done)),Z.sp⟩)
 rintro U E ⟨hA,hρ,hodd,Z⟩;obtain ⟨U,rfl⟩:=Km hA hρ;refine' MN;clear hm hx;refine' S2;refine' P1;refine' Kn;(refine' Ac<;>intro O);all_goals (refine' Kv)
 all_goals
  first
  | (refine' Kf
     (refine' L5;(refine' Ae<;>intro O);all_goals (refine' LH;first|refine' Kj|(refine' Kg;refine' Af<;>intro O)));all_goals (refine' Ld)
     all_goals
      first
      | (refine' Kf;all_goals (refine' KM);all_goals (refine ⟨_,rfl,?_,Z.sp⟩;rw [Qin V,Qin hodd];unfold NK;(repeat (rw [Qip V]));done))
      | (refine' Kd;refine' Ko))
  | (refine' Kd
     refine' Kn;(refine' Ac<;>intro O);all_goals (refine' Kv)
     all_goals
      first
      | (refine' Kf
         refine' Ta;(refine' Af<;>intro O);all_goals (refine' zn)
         all_goals
          first
          | (refine' Kf;refine' KM;((refine ⟨_,rfl,?_,Z.sp⟩;(rw [Qin V,Qin hodd];unfold NK;(repeat (first|rw [Qip V]|rw [Qin V])));done)))
          | (refine' Kd;refine' Ko))
      | (refine' Kd
         refine' P2;(refine' Ac<;>intro O);all_goals (refine' Kv)
         all_goals
          first
          | (refine' Kf;refine' Ko)
          | (refine' Kd;refine' Lm;(refine' Ac<;>intro O);all_goals (refine' zm);all_goals refine' zn)
         all_goals
          first
          | (refine' Kf
             (all_goals (refine' L5;refine' Ae<;>intro O);all_goals (refine' LH;first|refine' Kj|(refine' Kg;refine' Af<;>intro O)));all_goals (refine' Ld)
             all_goals
              first
              | (refine' Kf;all_goals (refine' KM);all_goals (refine ⟨_,rfl,?_,Z.sp⟩;rw [Qin V,Qin hodd];unfold NK;(repeat (first|rw [Qip V]|rw [Qin V]));done))
              | (refine' Kd;all_goals refine' Ko))
          | (refine' Kd
             refine' Kn;(refine' Ac<;>intro O);all_goals (refine' Kv)
             all_goals
              first
              | (refine' Kf
                 (refine' Nq;(refine' Ae<;>intro O);all_goals (refine' RM;refine' ML;first|refine' Kj|(refine' Kg;refine' Ag<;>intro O)));all_goals (refine' Ld)
                 all_goals
                  first
                  | (refine' Kf;all_goals (refine' KM);all_goals (refine ⟨_,rfl,?_,Z.sp⟩;rw [Qin V,Qin hodd];unfold NK;(repeat (first|rw [Qip V]|rw [Qin V]));done))
                  | (refine' Kd;refine' Ko)
                 (refine' Ta;(refine' Af<;>intro O);all_goals (refine' RL;first|refine' Kj|(refine' Kg;refine' Af<;>intro O)));all_goals (refine' Ld)
                 all_goals
                  first
                  | (refine' Kf;all_goals (refine' KM);all_goals (refine ⟨_,rfl,?_,Z.sp⟩;rw [Qin V,Qin hodd];unfold NK;(repeat (first|rw [Qip V]|rw [Qin V]));done))
                  | (refine' Kd;refine' Ko))
              | (refine' Kd;refine' Ko))))
 all_goals (refine' KM;refine ⟨_,rfl,?_,Z.sp⟩;rw [Qin V,Qin hodd];unfold NK;(repeat (first|rw [Qip V]|rw [Qin V]));done)
end Go.Proofs.YteflkifmgnpbhaaGreat
namespace Go.Lir
theorem xB {s:MS}{f:Fun}{b:Block}(hf:m.funcs[s.g.f]?=some f)(hb:f.blocks[s.g.b]?=some b)(h:s.g.i<b.code.length):s.place m=PX s.g.f s.g.b s.g.i:=by
 unfold MS.place;simp only [hf,hb];exact Qip h
theorem xC {s:MS}{f:Fun}{b:Block}(hf:m.funcs[s.g.f]?=some f)(hb:f.blocks[s.g.b]?=some b)(h:¬s.g.i<b.code.length):s.place m=PW s.g.f s.g.b:=by
 unfold MS.place;simp only [hf,hb];exact Qin h
theorem cp {s:MS}{f:Fun}{b:Block}{x:Ins}(hf:m.funcs[s.g.f]?=some f)(hb:f.blocks[s.g.b]?=some b)(h:b.code[s.g.i]?=some x):s.one m=s.next.ins m x:=by
 unfold MS.one;simp only [hf,hb,h]
theorem cq {s:MS}{f:Fun}{b:Block}(hf:m.funcs[s.g.f]?=some f)(hb:f.blocks[s.g.b]?=some b)(h:b.code.length≤s.g.i):s.one m=s.fin f b.fin:=by
 unfold MS.one;simp only [hf,hb,Fe h]
end Go.Lir
namespace Go.Proofs.YteflkifmgnpbhaaGreat
open Go.Lir
attribute [local irreducible] LC.wp Q0 Qp Qk KN Qw LO.wp Q6 Calls
section
variable {Y:Cx}{w:World}{L:List Res}{p N:Nat}{c:MC}{fr:List FrmV}{g:FrmV}{h:HpS}{out inp:List Int}{fu:Nat}{m:Module}
@[reducible] def MC.tick (c:MC):MC:=⟨c.hp,c.fn,c.lv,c.iv,c.e,c.bv,c.ov,c.fu+1,c.mo,c.dn,c.c,c.a⟩
def Qe5 (m:Module)(x:Ins):Prop:=(1≤x.op∧x.op≤14)∧(x.op=14→0≤x.k∧x.k<m.funcs.length)∧x.regs.length≤100∧x.args.length≤100
def cr (f:Fun)(e:Tail):Prop:=e.args.length≤100∧(1≤e.op∧e.op≤3)∧(e.op≠3→ToOK f e.yes)∧(e.op=2→ToOK f e.no)
attribute [local irreducible] Frm.val Frm.num Frm.args Frm.rgs Frm.reg MS.place PX PW
theorem ZE {f:Fun}{b:Block}(hfn:Ks.sl Y c.fn m.funcs)(hfx:m.funcs[g.f]?=some f)(hbx:f.blocks[g.b]?=some b)(hf:fr.length≤900)(k1:g.f≤1000000)(k2:g.b≤1000000)(k3:g.i≤1000000)(Z:St Y w (mS p c fr g N h out L)):
 Ka Tryz.prog Q6t [.pointer (some ⟨p,0,none⟩)] w fun u B=>u= .int .i64 ((Kc h g fr inp out fu).place m)∧St Y B (mS p c fr g N h out L):=by
 have hgf:=(EJ.1 hfx).1;have hgb:=(EJ.1 hbx).1;refine Kl Kh Tryz.func69 ?_;refine' Nk;refine' Kw (c:=P8 V Z);rintro v1 E ⟨b9,o9,rfl,hel,Z⟩;refine' P3;refine zD (ci 25 [24]) ?_;have Z:=Z.drew;refine' MO;refine Q9 (j:=2) Z hel rfl fd (Qc fr g) (Qj fr g) rfl ?_;refine' zm;refine' O4;refine' MO;refine QV Z hel rfl fd (Qc fr g) (Qj fr g) rfl ?_;(refine' zi;intro b8 o8 cs8 x8 hat8 hx8 he8;obtain rfl:x8=f:=EP (hx8.symm.trans hfx);obtain ⟨vp8,vr8,vb8,rfl,hp8,hr8,hb8⟩:=Qx he8);refine' bN;refine' MO;refine Q9 (j:=1) Z hel rfl fd (Qc fr g) (Qj fr g) rfl ?_;(refine' zi;intro b7 o7 cs7 x7 hat7 hx7 he7;obtain rfl:x7=b:=EP (hx7.symm.trans hbx);obtain ⟨vp7,vc7,u1,u2,u3,u4,u5,rfl,hp7,hc7,hu1,hu2,hu3,hu4,hu5⟩:=PV he7);refine' bN;refine' zL;(refine' Ae<;>intro O);all_goals (refine' zn)
 all_goals
  first
  | (refine' Kf;refine Qm ?_;have hX:=xB (m:=m) (s:=Kc h g fr inp out fu) hfx hbx (by show g.i<x7.code.length;omega);refine zD (ci 14 [12,13]) ?_;have Z:=Z.drew;refine' MO;refine QV Z hel rfl fd (Qc fr g) (Qj fr g) rfl ?_;refine' MO;refine Q9 (j:=1) Z hel rfl fd (Qc fr g) (Qj fr g) rfl ?_;refine' MO;refine Q9 (j:=2) Z hel rfl fd (Qc fr g) (Qj fr g) rfl ?_;refine' KZ (c:=r6 g.f g.b g.i k1 k2 k3 Z);rintro v1 E ⟨rfl,Z⟩;refine' KQ;((refine ⟨_,rfl,?_,Z.sp⟩;(rw [hX];rfl);done)))
  | (refine' Kd;refine' Ko)
 refine Qm ?_;have hX:=xC (m:=m) (s:=Kc h g fr inp out fu) hfx hbx (by show¬g.i<x7.code.length;omega);refine zD (ci 10 [8,9]) ?_;have Z:=Z.drew;refine' MO;refine QV Z hel rfl fd (Qc fr g) (Qj fr g) rfl ?_;refine' MO;refine Q9 (j:=1) Z hel rfl fd (Qc fr g) (Qj fr g) rfl ?_;refine' Kk (c:=rZ g.f g.b k1 k2 Z);rintro v1 E ⟨rfl,Z⟩;refine' KQ;(((refine ⟨_,rfl,?_,Z.sp⟩;(rw [hX];rfl);done)))
attribute [local irreducible] MS.ins MS.fin MS.one Mv Mf Nt Pr
theorem lF {f:Fun}{b:Block}(hfn:Ks.sl Y c.fn m.funcs)(hi:Kb.sl Y c.iv inp)(hfx:m.funcs[g.f]?=some f)(hbx:f.blocks[g.b]?=some b)(hci:∀x∈b.code,Qe5 m x)(hce:cr f b.fin)(hgi:g.i≤1000)(hf:fr.length≤900)(hn:g.vals.length≤800000)(hrn:g.regs.length≤800000)(hfr:∀x∈fr,x.vals.length≤900000)(hN:N≤99999)(hol:out.length≤2000)(hfu:0≤c.fu∧c.fu≤10000000)(Z:St Y w (mS p c fr g N h out L)):
 Kr Tryz.prog Q7S [.pointer (some ⟨p,0,none⟩)] w (fun u B=>c.fu≠c.mo∧Pr p c.tick N h out fu ((Kc h g fr inp out fu).one m) Y L u B)
  (fun u B=>(c.fu=c.mo∧u=eY 7∧St Y B (mS p c fr g N h out L))∨(c.fu≠c.mo∧Mf p c.tick N h out ((Kc h g fr inp out fu).one m) Y L u B)):=by
 (have hgf:=(EJ.1 hfx).1;have hgb:=(EJ.1 hbx).1;unfold Kr;refine Kl Kh Tryz.func71 ?_;refine Qm ?_;refine zD (ci 11 [10]) ?_;have Z:=Z.drew;refine' zm;refine' O4;refine' OM;(refine' Ac<;>intro O);all_goals (first|(refine' Kk (c:=VL Z);rintro v1 E ⟨rfl,Z⟩)|(refine KF (c:=VM Z) (p:=by rintro v9 w9 ⟨rfl,Z⟩;(repeat (refine' Qo));refine' Qi;refine .inr ⟨_,rfl,?_⟩;first|(exact .inl ⟨V,rfl,Z.sp⟩)) (h:=fun _ _ h=>h.elim))));refine' LA;have hmo:c.fu≠c.mo:=CP;refine' Lp;refine' O4;refine' MJ;refine' RG;refine Lv Z ?_;intro E Z;have Z:=Z.ns;refine' L8;have Z:St Y _ (mS p c.tick fr g N h out L):=Z.sp;refine' Kw (c:=P8 V Z);rintro v1 E ⟨b9,o9,rfl,hel,Z⟩;refine' MU;refine zC [(0,none),(1,none),(2,none),(3,none),(4,none),(5,none),(6,none),(7,none),(8,none),(9,none),(10,none),(11,none),(12,none),(13,none),(14,none),(15,none),(16,none),(17,none),(18,some (some [4,8,11,15,17])),(19,some none)] ?_;have Z:=Z.drew;refine' NT;refine' Rl;refine' Mm;refine' OL;refine QV Z hel rfl fd (Qc fr g) (Qj fr g) rfl ?_;refine' Ku;refine' zi;intro b8 o8 cs8 x8 hat8 hx8 he8;obtain rfl:x8=f:=EP (hx8.symm.trans hfx);obtain ⟨vp8,vr8,vb8,rfl,hp8,hr8,hb8⟩:=Qx he8;refine' Ku;refine' US;refine YY Z ?_;refine' Mm;refine' OL;refine Q9 (j:=1) Z hel rfl fd (Qc fr g) (Qj fr g) rfl ?_;refine' Ku;refine' zi;intro b7 o7 cs7 x7 hat7 hx7 he7;obtain rfl:x7=b:=EP (hx7.symm.trans hbx);obtain ⟨vp7,vc7,u1,u2,u3,u4,u5,rfl,hp7,hc7,hu1,hu2,hu3,hu4,hu5⟩:=PV he7;refine' TP;intro p3 E Z;refine' zt;refine ⟨EN.2 ⟨CS,EN.2 ⟨(by (exact A8)),EN.2 ⟨Df,EN.2 ⟨(by (exact A8)),EN.2 ⟨C7,fun _ h=>(ET h).elim⟩⟩⟩⟩⟩,?_⟩;refine' Lg;refine Kp Z ?_;intro E Z;have Z:=Z.ns;refine' K7;refine Qm ?_;refine zD (ci 8 [7]) ?_;have Z:=Z.drew;refine' MO;refine Q9 (j:=2) Z hel rfl fd (Qc fr g) (Qj fr g) rfl ?_;refine' Sc;(refine' Ae<;>intro O);all_goals (refine' zn)
 all_goals
  first
  | (refine' Kf;refine zD (ci 10 [9]) ?_;have Z:=Z.drew;refine' zm;refine' KJ;refine' MO;refine Q9 (j:=2) Z hel rfl fd (Qc fr g) (Qj fr g) rfl ?_;refine' zi;intro b6 o6 cs6 x6 hat6 hx6 he6;obtain ⟨vr6,va6,rfl,hr6,ha6⟩:=QN he6;have hX:=cp (m:=m) (s:=Kc h g fr inp out fu) hfx hbx hx6;obtain ⟨q1,q2,q3,q4⟩:=hci _ (EK hx6);refine N8 Z ?_;refine KF (c:=fm (c:=c.tick) (fu:=fu) (inp:=inp) he6 hfn hi q1 q2 q3 q4 hgi hf hn hrn hN hol (show St Y _ (mS p c.tick fr g N h out _) from Z.sp)) (p:=by rintro u9 w9 hB;(repeat (refine' Qo));refine' Qi;refine .inr ⟨_,rfl,?_⟩;exact .inr ⟨hmo,hX ▸ hB.drop⟩) (h:=?_);rintro u7 w7 hG;refine' zn;have hG:Pr p c.tick N h out fu ((Kc h g fr inp out fu).one m) Y L u7 w7:=hX ▸ hG.drop.ok;obtain ⟨rfl,hG⟩:=hG.tup)
  | (refine' Kd;have hX:=cq (m:=m) (s:=Kc h g fr inp out fu) hfx hbx (by show x7.code.length≤g.i;omega);obtain ⟨q1,q2,q3,q4⟩:=hce;refine' XV;refine KF (c:=fh (c:=c.tick) (fu:=fu) (inp:=inp) (e:=x7.fin) ⟨_,_,_,_,_,rfl,hu1,hu2,hu3,hu4,hu5⟩ hfn hi hfx q1 q2 q3 q4 hf hfr (show St Y _ (mS p c.tick fr g N h out _) from Z.sp)) (p:=by rintro u9 w9 hB;(repeat (refine' Qo));refine' Qi;refine .inr ⟨_,rfl,?_⟩;exact .inr ⟨hmo,hX ▸ hB.drop⟩) (h:=?_);rintro u7 w7 hG;refine' zn;have hG:Pr p c.tick N h out fu ((Kc h g fr inp out fu).one m) Y L u7 w7:=hX ▸ hG.drop;obtain ⟨rfl,hG⟩:=hG.tup)
 all_goals (refine' QY;exact .inl ⟨_,rfl,hmo,hG⟩)
end
section
attribute [local irreducible] KP K2 SQ NK Qs Nh Np QM PD Oo PC SS PW PX
variable {Y:Cx}{w:World}{L:List Res}{i:Nat}
theorem V3 (c:Int):(if decide (c≠0)=true then c else 0)=c:=by by_cases h:c=0<;>simp [h]
theorem cu {x:Fun}{t:To}{is:Bool}(hx:Ks.at Y cs x)(ht:toR.at Y ds t)(Z:St Y w L):
 Ka Tryz.prog Vd [.agg ⟨cs⟩, .agg ⟨ds⟩, .bool is] w fun u B=>u= .int .i64 (Nh x.blocks.length t is)∧St Y B L:=by
 obtain ⟨vp,vr,vb,rfl,hp,hr,hb⟩:=Qx hx;obtain ⟨v1,v2,rfl,I,M⟩:=YJ ht;have hlb:=hb.len;have hb1:=I.len;have hb2:=M.len;unfold Nh
 cases is with
 | false=>
   (refine Kl Kh Tryz.func156 ?_;refine' KU;intro p3 E Z;refine zb Z ?_;intro p4 E Z;refine' i7;refine' Kf;refine' Nq;(refine' Ad<;>intro O);all_goals (refine' RL;refine' MD;refine' ML;refine' ku;first|refine' Kj|(refine' Kg;refine' Af<;>intro O)));all_goals (refine' Ld)
   all_goals
    first
    | (refine' Kf;all_goals (refine' KM);all_goals (refine ⟨_,rfl,?_,Z.sp⟩;(rw [Qip rfl];first|rw [Qip V]|rw [Qin V]);done))
    | (refine' Kd;refine' Ko)
   refine' KM;(refine ⟨_,rfl,?_,Z.sp⟩;(rw [Qip rfl];first|rw [Qip V]|rw [Qin V]);done)
 | true=>
   (refine Kl Kh Tryz.func156 ?_;refine' KU;intro p3 E Z;refine zb Z ?_;intro p4 E Z;refine' i7;refine' TG;refine' Nq;(refine' Ae<;>intro O);all_goals (refine' RM;refine' ML;first|refine' Kj|(refine' Kg;refine' Ag<;>intro O)));all_goals (refine' Ld)
   all_goals
    first
    | (refine' Kf;all_goals (refine' KM);all_goals (refine ⟨_,rfl,?_,Z.sp⟩;rw [Qin Bool.noConfusion];(repeat (rw [Qip V]));done))
    | (refine' Kd;refine' Ko)
   (refine' Nq;refine' zL;(refine' Af<;>intro O);all_goals (refine' RL;first|refine' Kj|(refine' Kg;refine' Af<;>intro O)));all_goals (refine' Ld)
   all_goals
    first
    | (refine' Kf;all_goals (refine' KM);all_goals (refine ⟨_,rfl,?_,Z.sp⟩;rw [Qin Bool.noConfusion];(repeat (first|rw [Qip V]|rw [Qin V]));done))
    | (refine' Kd;refine' Ko)
   refine' KM;(refine ⟨_,rfl,?_,Z.sp⟩;rw [Qin Bool.noConfusion];(repeat (rw [Qin V]));done)
theorem V4 {x:Fun}(hx:Ks.at Y cs x)(he:La.at Y ds e)(Z:St Y w L):
 Ka Tryz.prog Qko [.agg ⟨cs⟩, .agg ⟨ds⟩] w fun u B=>u= .int .i64 (Np x.blocks.length e)∧St Y B L:=by
 (obtain ⟨vp,vr,vb,rfl,hp,hr,hb⟩:=Qx hx;obtain ⟨v1,v2,v3,v4,v5,rfl,I,M,h3,h4,h5⟩:=PA he;have s5:=h5.len;unfold Np;refine Kl Kh Tryz.func96 ?_;refine' KU;intro p2 E Z;refine zb Z ?_;intro p3 E Z;refine' OJ;(refine' Ae<;>intro O);all_goals (refine' LH;first|refine' Kj|(refine' Kg;refine' Af<;>intro O)));all_goals (refine' Ld)
 all_goals
  first
  | (refine' Kf;all_goals (refine' KM);all_goals (refine ⟨_,rfl,?_,Z.sp⟩;rw [Qip V];done))
  | (refine' Kd;refine' Ko)
 refine SY Z [2,3] (fun A LL ρ' B=>Ki ρ' A∧Ki ρ' []∧(¬(e.op<1∨3<e.op))∧(¬(e.op≠2∧e.a≠0∨e.op≠3∧0<e.args.length))∧St Y B (LL)) ?_ ?_
 · skip
   (((refine' L5;(refine' Ad<;>intro O);all_goals (refine' LH;first|refine' Kj|(refine' Kg;refine' Ad<;>intro O)));all_goals (refine' Lw;refine' RL;first|refine' Kj|(refine' Kg;refine' Af<;>intro O)));all_goals (refine' XP;first|refine' Kj|(refine' Kg;(first|(refine' Sb)|(refine' Ad<;>intro O)))));all_goals (refine' Y2;refine' Ld)
   all_goals
    first
    | (refine' Kf;all_goals (refine' KM);all_goals (refine ⟨_,rfl,?_,Z.sp⟩;rw [Qin V,Qip V];done))
    | (refine' Kd;all_goals refine' Ko)
   all_goals (exact ⟨zh,zh,V,V,Z.sp⟩)
 rintro U E ⟨hA,hρ,k1,k2,Z⟩;obtain ⟨U,rfl⟩:=Km hA hρ;refine' Nq;refine' zL;(refine' Af<;>intro O);all_goals (refine' zn)
 all_goals
  first
  | (refine' Kf;refine' KM;((refine ⟨_,rfl,?_,Z.sp⟩;(rw [Qin k1,Qin k2,Qip V]);done)))
  | (refine' Kd;refine' Ko)
 refine Qm ?_;refine' MM;refine' Sd;refine' KJ;refine Yh rfl rfl ?_;refine' KZ (c:=cu (t:=e.yes) hx ⟨_,_,rfl,I,M⟩ Z);rintro v1 E ⟨rfl,Z⟩;refine' L6;(refine' Ad<;>intro O);all_goals (refine' zn)
 all_goals
  first
  | (refine' Kf;refine' Rj;((refine ⟨_,rfl,?_,Z.sp⟩;(rw [Qin k1,Qin k2,Qin V];first|rw [Ro Ja]|(rw [Fk.1 (by assumption:¬Nh x.blocks.length e.yes (decide (e.op≠3))≠0),PI]));done)))
  | (refine' Kd;refine' Ko)
 refine' MM;refine' Sd;refine' KJ;refine jV rfl rfl ?_;refine' KZ (c:=cu (t:=e.no) hx ⟨_,_,rfl,h3,h4⟩ Z);rintro v1 E ⟨rfl,Z⟩;refine' KQ;(refine ⟨_,rfl,?_,Z.sp⟩;(rw [Qin k1,Qin k2,Qin V];first|rw [Ro Ja]|(rw [Fk.1 (by assumption:¬Nh x.blocks.length e.yes (decide (e.op≠3))≠0),PI]));done)
theorem fo {x:Ins}(hm:Lr.at Y cs m)(hx:K1.at Y ds x)(Z:St Y w L):Ka Tryz.prog Ve [.agg ⟨cs⟩, .agg ⟨ds⟩] w fun u B=>u= .int .i64 (Qs m.funcs.length x)∧St Y B L:=by
 obtain ⟨vf,rfl,hf⟩:=NR hm;obtain ⟨a0,n0,rfl⟩:=E0 hf;have hx':=hx;obtain ⟨vr,va,rfl,hr,ha⟩:=QN hx;refine Kl Kh Tryz.func204 ?_;refine' KU;intro p2 E Z;refine zb Z ?_;intro p3 E Z;refine' Kv;refine' MM;refine OF [_,_,_,_] ?_;refine zb Z ?_;intro p8 E Z;refine' Y6;refine' Kk (c:=bS (g:=(0,0)) (at':=0) hx' hf Z KL);rintro v1 E ⟨rfl,Z⟩;simp only [EV] at Z;rw [OX (SP _ _)] at Z;simp only [MW,R5] at Z;refine' L8;refine' O4;refine' KQ;(((refine ⟨_,rfl,?_,Z.sp⟩;(rfl);done)))
theorem fp {x:Fun}(hx:Ks.at Y cs x)(he:La.at Y ds e)(Z:St Y w L):Ka Tryz.prog Vf [.agg ⟨cs⟩, .agg ⟨ds⟩] w fun u B=>u= .int .i64 (Np x.blocks.length e)∧St Y B L:=by
 have hx':=hx;have he':=he;obtain ⟨vp,vr,vb,rfl,hp,hr,hb⟩:=Qx hx;obtain ⟨v1,v2,v3,v4,v5,rfl,I,M,h3,h4,h5⟩:=PA he;refine Kl Kh Tryz.func208 ?_;refine' KU;intro p2 E Z;refine zb Z ?_;intro p3 E Z;refine' Kv;refine' Kn;refine Ly [_,_,_,_] ?_;refine zb Z ?_;intro p7 E Z;refine' Y6;refine zv Z ?_;refine' KZ (c:=bT (g:=(0,0)) (at':=0) hx' he' Z fd);rintro v1 E ⟨rfl,Z⟩;have Z:=Z.ns;rw [OX (SP _ _)] at Z;simp only [MW,R5] at Z;refine' L8;refine' O4;refine' KQ;(((refine ⟨_,rfl,?_,Z.sp⟩;(rfl);done)))
theorem r8 {l:List Ty}{v:Value}{at':Int}{b:Nat}(hl:KA.sl Y v l)(Z:St Y w L)(hi:nth L i=some (MW b vf g at')):
 Ka Tryz.prog Qa5 [.pointer (some ⟨b,0,none⟩),v, .int .i64 regs] w fun u B=>u= .tuple #[]∧St Y B (L.set i (MW b vf (KP g (K2 (QM l regs) at')) at')):=by
 have Z:=Z.out hi;have hlen:=hl.len
 have e0:KP g (K2 (QM l regs) at')=KP g (K2 (SQ (if 8<l.length then 2 else 0) (R6 regs l)) at'):=by
  congr 2;unfold QM;split
  · rw [Ro Jd]
  · rw [PI]
 rw [e0];refine Kl Kh Tryz.func105 ?_;refine zM [0,1,2] (fun A ρ' B=>Ki ρ' A∧Ki ρ' []∧St Y B (MW b vf (KP g (K2 (if 8<l.length then 2 else 0) at')) at'::L.eraseIdx i)) ?_ ?_
 · refine' NH;refine' zL;(refine' Af<;>intro O);all_goals (refine' KZ (c:=Oy CW Z fd);rintro v1 E ⟨rfl,Z⟩;simp only [EV,E1,if_true,E2,if_false] at Z;refine' zn;exact AI)
 rintro U E ⟨hA,hρ,Z⟩;obtain ⟨U,rfl⟩:=Km hA hρ;refine' KX;refine' Ob;refine zo [0,2,14,15] (fun A ρ' B=>∃(j:Nat) (h:Mj),Ki ρ' A∧Ki ρ' [(16, .int .i64 j)]∧(j≤l.length)∧(KP g (K2 (SQ (if 8<l.length then 2 else 0) (R6 regs l)) at')=KP h (K2 (R6 regs (l.drop j)) at'))∧St Y B (MW b vf h at'::L.eraseIdx i)) (fun ρ' _=>(l.length - iv (ρ' 16)).toNat) ?_ ?_
 · exact ⟨0,_,zh,zh,V,by rw [FG,O9],Z.sp⟩
 rintro U E ⟨j,h,hA,hρ,hj,hd,Z⟩;obtain ⟨U,rfl⟩:=Km hA hρ;refine' Nd;refine' Ab<;>intro O
 · refine' XX;intro b1 o1 cs1 x1 hat1 hx1 he1;obtain ⟨vl1,rfl,hl1⟩:=Ql he1;refine' NG;intro p7 E Z;refine Kp Z ?_;intro E Z;have Z:=Z.ns;refine' RP;refine' zm;refine' Kk (c:=wW Ja Z);rintro v1 E ⟨rfl,Z⟩;refine' Kv;refine' NH;refine Yh rfl rfl ?_;refine' zm;refine' KZ (c:=Oy (by intro h;exact of_decide_eq_true h) Z fd);rintro v1 E ⟨rfl,Z⟩;simp only [EV,E1,V3] at Z;refine' S9;(exact ⟨⟨j+1,_,zh,zh,V,by rw [hd,Q7 hx1,R6,←O9],Z.sp⟩,Qh V⟩)
 · refine' LV;refine' QY;refine ⟨_,rfl,rfl,?_⟩;rw [hd,ES V,R6,Rz,iJ rfl];exact F4 Z hi
def Kz (g:Mj):Value:= .agg ⟨[.int .i64 g.1, .int .i64 g.2]⟩
theorem V5 {f b:Nat}{x:Fun}(hxf:m.funcs[f]?=some x)(hyb:x.blocks[b]?=some y)(hf0:f≤1000000)(hb0:b≤1000000)(hlc:y.code.length≤100000)(hm:Lr.at Y cs m)(Z:St Y w L):
 Ka Tryz.prog QdV [.agg ⟨cs⟩, .int .i64 f, .int .i64 b] w fun u B=>u=Kz (Pa m.funcs.length f x b y)∧St Y B L:=by
 (have hm':=hm;obtain ⟨vf,rfl,hf⟩:=NR hm;have hflt:=(EJ.1 hxf).1;have hblt:=(EJ.1 hyb).1;refine Kl Kh Tryz.func68 ?_;refine' KU;intro p3 E Z;refine Qb Z ?_;(intro p6 E Z);refine' Nl;refine' RI;intro b1 o1 cs1 x1 hat1 hx1 he1;((obtain ⟨vp1,vr1,vb1,rfl,hp1,hr1,hb1⟩:=Qx he1));refine' NG;(intro p7 E Z);((refine Kp Z ?_;intro E Z;have Z:=Z.ns));refine' zn;have e1:x=x1:=EP (hxf.symm.trans hx1);subst e1;refine' kv;intro b2 o2 cs2 x2 hat2 hx2 he2;((obtain ⟨vp2,vc2,ve21,ve22,ve23,ve24,ve25,rfl,hp2,hc2,he21,he22,he23,he24,he25⟩:=PV he2));refine' NG;(intro p8 E Z);((refine Kp Z ?_;intro E Z;have Z:=Z.ns));refine' zn;have e2:y=x2:=EP (hyb.symm.trans hx2);subst e2;refine' Nq;refine' KJ;(refine' Ae<;>intro O);all_goals (refine' LH;first|refine' Kj|(refine' Kg;refine' Af<;>intro O)));all_goals (refine' Ld)
 all_goals
  first
  | (refine' Kf;all_goals (refine' KW;refine' Kk (c:=om f b hf0 hb0 Z);rintro v1 E ⟨rfl,Z⟩;refine' Kk (c:=M5 Z);rintro v1 E ⟨rfl,Z⟩;refine Kp Z ?_;intro E Z;have Z:=Z.ns;refine' LM;refine QO vw (Q3 (n:=2) Jk Jk (Z.blkAt fd) Jr Jr) ?_);all_goals (refine ⟨_,rfl,?_,Z.sp⟩;rw [ng (c:=1) (by unfold PD;rw [Qip V]) Jd];rfl;done))
  | (refine' Kd;refine' Ko)
 refine' Nq;refine' KJ;refine' Kk (c:=r7 Ja Z);rintro v1 E ⟨rfl,Z⟩;refine' L6;(refine' Ad<;>intro O);all_goals (refine' zn)
 all_goals
  first
  | (refine' Kf;refine' KW;refine' zm;refine' Kk (c:=om f b hf0 hb0 Z);rintro v1 E ⟨rfl,Z⟩;refine' Kk (c:=M5 Z);rintro v1 E ⟨rfl,Z⟩;refine Kp Z ?_;intro E Z;have Z:=Z.ns;refine' LM;refine QO vw (Q3 (n:=2) Jk Jk (Z.blkAt fd) Jr Jr) ?_;((refine ⟨_,rfl,?_,Z.sp⟩;(rw [ng (c:=QM y.params y.regs) (by unfold PD;rw [Qin V,Qip Ja]) Ja];rfl);done)))
  | (refine' Kd;refine' Ko)
 refine' P2;refine P0 Z 17 [1,2,3,6,7,8] (fun A LL ρ' B=>∃(q:Bool),Ki ρ' A∧Ki ρ' [(65, .bool q)]∧(q=true↔(b=0∧(y.regs≠x.regs∨y.params≠x.params)))∧St Y B (LL)) ?_ ?_
 · refine' zm;(refine' Ac<;>intro O);all_goals (refine' RM;first|refine' Kj|(refine' Kg;refine' Ad<;>intro O));all_goals (refine' XP;refine' MD;first|refine' Kj|(refine' Kg;refine' Kk (c:=Vs hp2 hp1 Z);rintro v1 E ⟨rfl,Z⟩;(cases hdec:decide (y.params=x.params));have hg:=of_decide_eq_false hdec;rotate_left;have hg:=of_decide_eq_true hdec;all_goals skip));all_goals (refine' Y3;refine' Sg;first|(exact CF)|(exact BI)|(exact Bd)|(exact BL))
 rintro U E ⟨q,hA,hρ,hq,Z⟩;obtain ⟨U,rfl⟩:=Km hA hρ;refine' zn;cases q
 all_goals
  first
  | (refine' Kf;refine' KW;refine' Kk (c:=om f b hf0 hb0 Z);rintro v1 E ⟨rfl,Z⟩;refine' Kk (c:=M5 Z);rintro v1 E ⟨rfl,Z⟩;refine Kp Z ?_;intro E Z;have Z:=Z.ns;refine' LM;refine QO vw (Q3 (n:=2) Jk Jk (Z.blkAt fd) Jr Jr) ?_;((refine ⟨_,rfl,?_,Z.sp⟩;(rw [ng (c:=9) (by unfold PD;rw [Qin V,Qin V,Qip (hq.1 rfl)]) Jd];rfl);done)))
  | (refine' Kd;refine' Ko)
 refine SY Z [1,2,3,6,7,8] (fun A LL ρ' B=>Ki ρ' A∧Ki ρ' []∧(PD x b y=0)∧St Y B (LL)) ?_ ?_
 · skip
   refine' Ta;(refine' Af<;>intro O);all_goals (refine' zn)
   all_goals
    first
    | (refine' Kf;refine' KW;refine' Kk (c:=om f b hf0 hb0 Z);rintro v1 E ⟨rfl,Z⟩;refine' Kk (c:=M5 Z);rintro v1 E ⟨rfl,Z⟩;refine Kp Z ?_;intro E Z;have Z:=Z.ns;refine' LM;refine QO vw (Q3 (n:=2) Jk Jk (Z.blkAt fd) Jr Jr) ?_;((refine ⟨_,rfl,?_,Z.sp⟩;(rw [ng (c:=2) (by unfold PD;rw [Qin V,Qin V,Qin (fun h=>Bool.noConfusion (hq.2 h)),Qip V]) Jd];rfl);done)))
    | (refine' Kd;refine' Ko)
   (exact ⟨zh,zh,by unfold PD;rw [Qin V,Qin V,Qin (fun h=>Bool.noConfusion (hq.2 h)),Qin V],Z.sp⟩)
 rintro U E ⟨hA,hρ,hh,Z⟩;obtain ⟨U,rfl⟩:=Km hA hρ;refine' Nr;refine Mt Z [1,2,3,6,7,8] (fun A LL ρ' B=>∃(j:Nat),Ki ρ' A∧Ki ρ' [(10, .int .i64 j)]∧(j≤y.code.length)∧(OY m.funcs.length f b 0 y.code=OY m.funcs.length f b j (y.code.drop j))∧St Y B (LL)) (fun ρ' _=>(y.code.length - iv (ρ' 10)).toNat) ?_ ?_
 · exact An
 rintro U E ⟨j,hA,hρ,hj,hd,Z⟩;obtain ⟨U,rfl⟩:=Km hA hρ;refine' P4;refine' Ab<;>intro O
 · skip
   refine' TH;refine zD (ci 8 [6,7]) ?_;have Z:=Z.drew;refine zv Z ?_;refine' KJ;refine' RI;intro b3 o3 cs3 x3 hat3 hx3 he3;obtain ⟨vr3,va3,rfl,hr3,ha3⟩:=QN he3;refine N8 Z ?_;refine' Kk (c:=V2 hm' Ja Z);rintro v1 E ⟨rfl,Z⟩;refine' L6;(refine' Ad<;>intro O);all_goals (refine' zn)
   all_goals
    first
    | (refine' Kf;refine' KW;refine' Me;refine' KZ (c:=r5 f b j hf0 hb0 V Z);rintro v1 E ⟨rfl,Z⟩;refine' Kk (c:=M5 Z);rintro v1 E ⟨rfl,Z⟩;refine Kp Z ?_;intro E Z;have Z:=Z.ns;refine' LM;refine QO vw (Q3 (n:=2) Jk Jk (Z.blkAt fd) Jr Jr) ?_;((refine ⟨_,rfl,?_,Z.sp⟩;(rw [YN (F:=(Qs m.funcs.length x3,PX f b j)) hh (by rw [hd,Q7 hx3,Qax Ja]) Ja];rfl);done)))
    | (refine' Kd;refine' Ko)
   refine' Mn;(exact ⟨⟨j+1,zh,zh,V,by rw [hd,Q7 hx3,Qay V],Z.sp⟩,Qh V⟩)
 · skip
   refine' LV;refine Qm ?_;refine' MM;refine' Sd;refine' Kk (c:=V4 (e:=y.fin) he1 ⟨_,_,_,_,_,rfl,he21,he22,he23,he24,he25⟩ Z);rintro v1 E ⟨rfl,Z⟩;refine' L6;(refine' Ad<;>intro O);all_goals (refine' zn)
   all_goals
    first
    | (refine' Kf;refine' KW;refine' zm;refine' Kk (c:=rY f b hf0 hb0 Z);rintro v1 E ⟨rfl,Z⟩;refine' Kk (c:=M5 Z);rintro v1 E ⟨rfl,Z⟩;refine Kp Z ?_;intro E Z;have Z:=Z.ns;refine' LM;refine QO vw (Q3 (n:=2) Jk Jk (Z.blkAt fd) Jr Jr) ?_;((refine ⟨_,rfl,?_,Z.sp⟩;(rw [Uu hh D3];first|(rw [YM Ja];rfl)|(rw [show Np x.blocks.length y.fin=0 by omega,Rz];rfl));done)))
    | (refine' Kd;refine' Ko)
   refine' Kn;refine Ly [_,_] ?_;refine Kp Z ?_;intro E Z;have Z:=Z.ns;refine' LM;refine QO vw (Q3 (n:=2) Jk Jk (Z.blkAt fd) Jr Jr) ?_;(refine ⟨_,rfl,?_,Z.sp⟩;(rw [Uu hh D3];first|(rw [YM Ja];rfl)|(rw [show Np x.blocks.length y.fin=0 by omega,Rz];rfl));done)
theorem V6 (hsh:m.Short)(hm:Lr.at Y cs m)(Z:St Y w L):
 Ka Tryz.prog Qfq [.agg ⟨cs⟩] w fun u B=>u=Kz m.fault∧St Y B L:=by
 have hm':=hm;obtain ⟨vf,rfl,hf⟩:=NR hm;have hlf:=hf.len;have hsf:=hsh.2;unfold Module.fault;refine Kl Kh Tryz.func21 ?_;refine' KU;intro p1 E Z;refine Qb Z ?_;(intro p2 E Z);refine' zn;refine SY Z [1,2] (fun A LL ρ' B=>Ki ρ' A∧Ki ρ' []∧(1≤m.funcs.length∧m.funcs.length≤8)∧St Y B (LL)) ?_ ?_
 · skip
   (refine' Ta;(refine' Ae<;>intro O);all_goals (refine' RL;first|refine' Kj|(refine' Kg;refine' Af<;>intro O)));all_goals (refine' Ld)
   all_goals
    first
    | (refine' Kf;all_goals (refine' Kn;refine' Kk (c:=M5 Z);rintro v1 E ⟨rfl,Z⟩;refine Kp Z ?_;intro E Z;have Z:=Z.ns;refine' LM;refine QO vw (Q3 (n:=2) Jk Jk (Z.blkAt fd) Jr Jr) ?_);all_goals (refine ⟨_,rfl,?_,Z.sp⟩;rw [Qip V,R4 (by rw [R5];decide),YM Jd];rfl;done))
    | (refine' Kd;refine' Ko)
   ((exact ⟨zh,zh,V,Z.sp⟩))
 rintro U E ⟨hA,hρ,hl8,Z⟩;obtain ⟨U,rfl⟩:=Km hA hρ;refine' Nr;refine Mt Z [1,2] (fun A LL ρ' B=>∃(f:Nat),Ki ρ' A∧Ki ρ' [(3, .int .i64 f)]∧(f≤m.funcs.length)∧(PY m.funcs.length 0 m.funcs=PY m.funcs.length f (m.funcs.drop f))∧St Y B (LL)) (fun ρ' _=>(m.funcs.length - iv (ρ' 3)).toNat) ?_ ?_
 · exact An
 rintro U E ⟨f,hA,hρ,hj,hd,Z⟩;obtain ⟨U,rfl⟩:=Km hA hρ;refine' P4;refine' Ab<;>intro O
 · skip
   (refine' XR;intro b1 o1 cs1 x1 hat1 hx1 he1;obtain ⟨vp1,vr1,vb1,rfl,hp1,hr1,hb1⟩:=Qx he1;refine' NG;intro p4 E Z;refine Kp Z ?_;intro E Z;have Z:=Z.ns;refine' zn;have hsx:=hsf x1 (EK hx1);have hlb:=hb1.len;have hlr:=hr1.len;refine' Nq;(refine' Ae<;>intro O);all_goals (refine' LH;first|refine' Kj|(refine' Kg;refine' Af<;>intro O)));all_goals (refine' Ld)
   all_goals
    first
    | (refine' Kf;all_goals (refine' KX;refine' Kw (c:=lE f V Z);rintro v1 E ⟨rfl,Z⟩;refine' Kk (c:=M5 Z);rintro v1 E ⟨rfl,Z⟩;refine Kp Z ?_;intro E Z;have Z:=Z.ns;refine' LM;refine QO vw (Q3 (n:=2) Jk Jk (Z.blkAt fd) Jr Jr) ?_);all_goals (refine ⟨_,rfl,?_,Z.sp⟩;rw [Qin V,Rz,OX XH,hd,Q7 hx1];rw [iL (by rw [iK (c:=1) (by unfold Oo;rw [Qip V]) Jd];simp),iK (c:=1) (by unfold Oo;rw [Qip V]) Jd];rfl;done))
    | (refine' Kd;refine' Ko)
   refine' Nq;refine' KJ;refine' Kk (c:=r7 hp1 Z);rintro v1 E ⟨rfl,Z⟩;refine' L6;(refine' Ad<;>intro O);all_goals (refine' zn)
   all_goals
    first
    | (refine' Kf;refine' KW;refine' Kw (c:=lE f V Z);rintro v1 E ⟨rfl,Z⟩;refine' Kk (c:=M5 Z);rintro v1 E ⟨rfl,Z⟩;refine Kp Z ?_;intro E Z;have Z:=Z.ns;refine' LM;refine QO vw (Q3 (n:=2) Jk Jk (Z.blkAt fd) Jr Jr) ?_;((refine ⟨_,rfl,?_,Z.sp⟩;(have e:=iK (n:=m.funcs.length) (f:=f) (x:=x1) (c:=QM x1.params x1.regs) (by unfold Oo;rw [Qin V,Qip Ja]) Ja;rw [Qin V,Rz,OX XH,hd,Q7 hx1,iL (by rw [e];assumption),e];rfl);done)))
    | (refine' Kd;refine' Ko)
   refine' Nq;refine' KJ;refine' Kk (c:=r7 hr1 Z);rintro v1 E ⟨rfl,Z⟩;refine' L6;(refine' Ad<;>intro O);all_goals (refine' zn)
   all_goals
    first
    | (refine' Kf;refine' KW;refine' Kw (c:=lE f V Z);rintro v1 E ⟨rfl,Z⟩;refine' Kk (c:=M5 Z);rintro v1 E ⟨rfl,Z⟩;refine Kp Z ?_;intro E Z;have Z:=Z.ns;refine' LM;refine QO vw (Q3 (n:=2) Jk Jk (Z.blkAt fd) Jr Jr) ?_;((refine ⟨_,rfl,?_,Z.sp⟩;(have e:=iK (n:=m.funcs.length) (f:=f) (x:=x1) (c:=QM x1.results x1.regs) (by unfold Oo;rw [Qin V,Qin Ja,Qip Ja]) Ja;rw [Qin V,Rz,OX XH,hd,Q7 hx1,iL (by rw [e];assumption),e];rfl);done)))
    | (refine' Kd;refine' Ko)
   refine SY Z [1,2,3,4] (fun A LL ρ' B=>Ki ρ' A∧Ki ρ' []∧(¬(x1.regs<0∨6<x1.regs))∧(¬QM x1.params x1.regs≠0)∧(¬QM x1.results x1.regs≠0)∧(¬(x1.blocks.length<1∨12<x1.blocks.length))∧St Y B (LL)) ?_ ?_
   · skip
     (refine' Ta;(refine' Ae<;>intro O);all_goals (refine' RL;first|refine' Kj|(refine' Kg;refine' Af<;>intro O)));all_goals (refine' Ld)
     all_goals
      first
      | (refine' Kf;all_goals (refine' KX;refine' Kw (c:=lE f V Z);rintro v1 E ⟨rfl,Z⟩;refine' Kk (c:=M5 Z);rintro v1 E ⟨rfl,Z⟩;refine Kp Z ?_;intro E Z;have Z:=Z.ns;refine' LM;refine QO vw (Q3 (n:=2) Jk Jk (Z.blkAt fd) Jr Jr) ?_);all_goals (refine ⟨_,rfl,?_,Z.sp⟩;have e:=iK (n:=m.funcs.length) (f:=f) (x:=x1) (c:=2) (by unfold Oo;rw [Qin V,Qin Ja,Qin Ja,Qip V]) Jd;rw [Qin V,Rz,OX XH,hd,Q7 hx1,iL (by rw [e];simp),e];rfl;done))
      | (refine' Kd;refine' Ko)
     ((exact ⟨zh,zh,V,by assumption,by assumption,V,Z.sp⟩))
   rintro U E ⟨hA,hρ,k1,k2,k3,k4,Z⟩;obtain ⟨U,rfl⟩:=Km hA hρ;refine SY Z [1,2,3,4] (fun A LL ρ' B=>Ki ρ' A∧Ki ρ' []∧(Oo f x1=0)∧St Y B (LL)) ?_ ?_
   · skip
     refine' KX;(refine' Ac<;>intro O);all_goals (refine' zn)
     all_goals
      first
      | (refine' Kf
         refine' Kn;refine P0 Z 9 [1,2,3,4] (fun A LL ρ' B=>∃(q:Bool),Ki ρ' A∧Ki ρ' [(90, .bool q)]∧(q=true↔(x1.regs=0∧x1.params.length=0))∧St Y B (LL)) ?_ ?_
         · refine' KJ;(refine' Ac<;>intro O);all_goals (refine' RL;first|refine' Kj|(refine' Kg;refine' Ac<;>intro O));all_goals (refine' nJ;first|(exact ⟨_,zh,zh,by exact ⟨fun _=>⟨V,V⟩,fun _=>rfl⟩,Z.sp⟩)|(exact ⟨_,zh,zh,by exact ⟨fun h=>Bool.noConfusion h,fun h=>by omega⟩,Z.sp⟩))
         rintro U E ⟨q,hA,hρ,hq,Z⟩;obtain ⟨U,rfl⟩:=Km hA hρ;refine' MU;refine' S0;refine Mt Z [1,2,3,4] (fun A LL ρ' B=>∃(i:Nat) (q:Bool),Ki ρ' A∧Ki ρ' [(7, .bool q),(8, .int .i64 i)]∧(i≤x1.results.length)∧(q=true↔(x1.regs=0∧x1.params.length=0∧∀t∈x1.results.take i,t.kind=1))∧(f=0)∧St Y B (LL)) (fun ρ' _=>(x1.results.length - iv (ρ' 8)).toNat) ?_ ?_
         · exact ⟨0,q,zh,zh,V,by rw [hq];simp,V,Z.sp⟩
         rintro U E ⟨i,q,hA,hρ,hi,hq2,hf0,Z⟩;obtain ⟨U,rfl⟩:=Km hA hρ;refine' P4;refine' Ab<;>intro O
         · refine' Mi;cases q;all_goals (refine' Lp;refine' LH;refine' Mu;(first|refine' Kj|(refine' Kg;refine' zi;intro b2 o2 cs2 x2 hat2 hx2 he2;obtain ⟨vl2,rfl,hl2⟩:=Ql he2));refine' N9;refine' dP;first|refine' Kj|(refine' Kg;refine' Ac<;>intro O));all_goals (refine' Lw;refine' UX;first|(exact ⟨⟨i+1,false,zh,zh,V,by exact ⟨fun h=>Bool.noConfusion h,fun h=>hq2.2 ⟨h.1,h.2.1,fun t ht=>h.2.2 t (F8 (i:=i) (by rw [List.take_take,IH V];exact ht))⟩⟩,hf0,Z.sp⟩,Qh V⟩)|(exact ⟨⟨i+1,true,zh,zh,V,by exact ⟨fun _=>⟨(hq2.1 rfl).1,(hq2.1 rfl).2.1,YI (hq2.1 rfl).2.2 hx2 Ja⟩,fun _=>rfl⟩,hf0,Z.sp⟩,Qh V⟩)|(exact ⟨⟨i+1,false,zh,zh,V,by exact ⟨fun h=>Bool.noConfusion h,fun h=>absurd (h.2.2 x2 (by rw [Us hx2];simp)) Ja⟩,hf0,Z.sp⟩,Qh V⟩))
         · skip
           refine' LV;refine Qm ?_;cases q;all_goals (refine' Lp;refine' O2)
           all_goals
            first
            | (refine' Kf;refine' KX;refine' Kw (c:=lE f V Z);rintro v1 E ⟨rfl,Z⟩;refine' Kk (c:=M5 Z);rintro v1 E ⟨rfl,Z⟩;refine Kp Z ?_;intro E Z;have Z:=Z.ns;refine' LM;refine QO vw (Q3 (n:=2) Jk Jk (Z.blkAt fd) Jr Jr) ?_;((refine ⟨_,rfl,?_,Z.sp⟩;(have e:=iK (n:=m.funcs.length) (f:=f) (x:=x1) (c:=18) (by unfold Oo;rw [Qin k1,Qin k2,Qin k3,Qin k4,Qip];refine ⟨hf0,?_⟩;rw [Fg V] at hq2;refine Fv fun h=>?_;have:=hq2.2 ⟨V,V,fun t ht=>Fv fun hk=>h (.inr (.inr ⟨t,ht,hk⟩))⟩;cases this) Jd;rw [Qin V,Rz,OX XH,hd,Q7 hx1,iL (by rw [e];simp),e];rfl);done)))
            | (refine' Kd;refine' Ko)
           (exact ⟨zh,zh,by unfold Oo;rw [Qin k1,Qin k2,Qin k3,Qin k4,Qin];rintro ⟨_,h⟩;obtain ⟨a1,a2,a3⟩:=hq2.1 rfl;rw [Fg V] at a3;rcases h with h|h|⟨t,ht,hk⟩<;>first|(exfalso;omega)|exact hk (a3 t ht),Z.sp⟩))
      | (refine' Kd;refine' Ko;(exact ⟨zh,zh,by unfold Oo;rw [Qin k1,Qin k2,Qin k3,Qin k4,Qin (fun h=>absurd h.1 V)],Z.sp⟩))
   rintro U E ⟨hA,hρ,hh,Z⟩;obtain ⟨U,rfl⟩:=Km hA hρ;refine' S0;refine Mt Z [1,2,3,4] (fun A LL ρ' B=>∃(b:Nat),Ki ρ' A∧Ki ρ' [(9, .int .i64 b)]∧(b≤x1.blocks.length)∧(QW m.funcs.length f x1 0 x1.blocks=QW m.funcs.length f x1 b (x1.blocks.drop b))∧St Y B (LL)) (fun ρ' _=>(x1.blocks.length - iv (ρ' 9)).toNat) ?_ ?_
   · exact An
   rintro U E ⟨b,hA,hρ,hb,hd2,Z⟩;obtain ⟨U,rfl⟩:=Km hA hρ;refine' P4;refine' Ab<;>intro O
   · skip
     refine' TH;obtain ⟨y,hy⟩:∃y,x1.blocks[b]?=some y:=⟨_,EI V⟩;have hsy:=hsx.2.2.2 y (EK hy);refine' Lm;refine zv Z ?_;refine' Me;refine' KZ (c:=V5 hx1 hy V V hsy.2.1 hm' Z);rintro v1 E ⟨rfl,Z⟩;unfold Kz;refine Qb Z ?_;intro p10 E Z;refine Kp Z ?_;intro E Z;have Z:=Z.ns;refine' Nl;(refine' Ad<;>intro O);all_goals (refine' zn)
     all_goals
      first
      | (refine' Kf;refine' MM;refine Kp Z ?_;intro E Z;have Z:=Z.ns;refine' LM;refine QO vw (Q3 (n:=2) Jk Jk (Z.blkAt fd) Jr Jr) ?_;((refine ⟨_,rfl,?_,Z.sp⟩;(have e:(Pa m.funcs.length f x1 b y).1≠0:=(by assumption);have e2:R7 m.funcs.length f x1=Pa m.funcs.length f x1 b y:=(by rw [uW hh,hd2,Q7 hy,Q8H e]);rw [Qin V,Rz,OX XH,hd,Q7 hx1,iL (by rw [e2];exact e),e2];rfl);done)))
      | (refine' Kd;refine' Ko)
     refine' Mn;(exact ⟨⟨b+1,zh,zh,V,by rw [hd2,Q7 hy,Q8I V],Z.sp⟩,Qh V⟩)
   · refine' LV;refine' Mn;(exact ⟨⟨f+1,zh,zh,V,by rw [hd,Q7 hx1,Qau];rw [uW hh,hd2,ES V];rfl,Z.sp⟩,Qh V⟩)
 · refine' LV;refine' Kn;refine Ly [_,_] ?_;refine Kp Z ?_;intro E Z;have Z:=Z.ns;refine' LM;refine QO vw (Q3 (n:=2) Jk Jk (Z.blkAt fd) Jr Jr) ?_;(refine ⟨_,rfl,?_,Z.sp⟩;rw [Qin V,Rz,OX XH,hd,ES (l:=m.funcs) V,PY];rfl;done)
theorem V7 {t:Ty}(ht:KA.at Y cs t)(Z:St Y w L):Ka Tryz.prog rf [.agg ⟨cs⟩] w fun u B=>u= .bool (decide (t.kind≠1))∧St Y B L:=by
 obtain ⟨v,rfl,hl⟩:=Ql ht;refine Kl Kh Tryz.func107 ?_;refine' KU;intro p1 E Z;refine' Kv;refine' L5;refine Yh rfl rfl ?_;refine' KQ;(((refine ⟨_,rfl,?_,Z.sp⟩;(rfl);done)))
theorem ZF {l:List Ty}{v:Value}(hl:KA.sl Y v l)(Z:St Y w L):Ka Tryz.prog Q2q [v, .func (.func rf) #[] #[]] w fun u B=>∃q,u= .bool q∧(q=true↔∃t∈l,t.kind≠1)∧St Y B L:=by
 have hlen:=hl.len
 have hidx:∀{w:World}{L:List Res},St Y w L→Ka Tryz.prog Q2E [v, .func (.func rf) #[] #[]] w fun u B=>∃r:Int,u= .int .i64 r∧(0≤r↔∃t∈l,t.kind≠1)∧St Y B L:=by
  intro w L Z;refine Kl Kh Tryz.func160 ?_;refine' MV;refine' Ob;refine Mt Z [0,1,7] (fun A LL ρ' B=>∃(j:Nat),Ki ρ' A∧Ki ρ' [(8, .int .i64 j)]∧(j≤l.length)∧(∀t∈l.take j,t.kind=1)∧St Y B (LL)) (fun ρ' _=>(l.length - iv (ρ' 8)).toNat) ?_ ?_
  · exact An
  rintro U E ⟨j,hA,hρ,hj,hd,Z⟩;obtain ⟨U,rfl⟩:=Km hA hρ;refine' Nd;refine' Ab<;>intro O
  · skip
    (refine' Mi;refine' Nz;refine' KW;refine' RI;intro b1 o1 cs1 x1 hat1 hx1 he1;obtain ⟨vl1,rfl,hl1⟩:=Ql he1;refine N8 Z ?_;refine uO rfl Jk Jr (V7 he1 Z) ?_;rintro v1 E ⟨rfl,Z⟩;(cases hdec:decide (x1.kind≠1));have hg:=of_decide_eq_false hdec;rotate_left;have hg:=of_decide_eq_true hdec;all_goals skip);all_goals (refine' zn)
    all_goals
     first
     | (refine' Kf;refine' Rj;(exact ⟨_,rfl,j,rfl,⟨fun _=>⟨x1,EK hx1,hg⟩,fun _=>by omega⟩,Z.sp⟩))
     | (refine' Kd;refine' Ko)
    refine' O1;(exact ⟨⟨j+1,zh,zh,V,YI hd hx1 (Fk.1 hg),Z.sp⟩,Qh V⟩)
  · refine' Pn;(exact ⟨_,rfl, -1,rfl,⟨fun h=>by omega,fun ⟨t,ht,hk⟩=>absurd (dt hd V t ht) hk⟩,Z.sp⟩)
 refine Kl Kh Tryz.func106 ?_;refine' LS;refine' KW;refine' Kk (c:=hidx Z);rintro v1 E ⟨r,rfl,hr,Z⟩;(refine' Ag<;>intro O);all_goals (refine' KQ;first|(exact ⟨_,rfl,_,rfl,⟨fun _=>hr.1 V,fun _=>rfl⟩,Z.sp⟩)|(exact ⟨_,rfl,_,rfl,⟨fun h=>Bool.noConfusion h,fun h=>by have:=hr.2 h;omega⟩,Z.sp⟩))
theorem Qkg {a:Int}{x:Fun}{b:Nat}{q:Bool}(hq:q=true↔(b=0∧(y.regs≠x.regs∨y.params≠x.params))):
 KP (KP (KP (KP g (K2 (if y.regs<x.regs∨16<y.regs then 1 else 0) a)) (K2 (QM y.params y.regs) a)) (K2 (if q=true then 9 else 0) a)) (K2 (if 40<y.code.length then 2 else 0) a)=KP g (K2 (PD x b y) a):=by
 rw [O9,O9,O9];congr 2;unfold PD;by_cases h0:y.regs<x.regs∨16<y.regs
 · rw [Qip h0,Qip h0];simp only [Ro (show (1:Int)≠0 by decide)]
 · rw [Qin h0,Qin h0,PI]
   by_cases h:QM y.params y.regs≠0
   · rw [Qip h];simp only [Ro h]
   · rw [Qin h,Fk.1 h,PI]
     by_cases hb:b=0∧(y.regs≠x.regs∨y.params≠x.params)
     · rw [Qip hb,Qip (hq.2 hb)];simp only [Ro (show (9:Int)≠0 by decide)]
     · rw [Qin hb,Qin (fun h=>hb (hq.1 h)),PI]
theorem V8 {fs:List Fun}{f b:Nat}{x:Fun}{a:Int}{p:Nat}(hxf:fs[f]?=some x)(hyb:x.blocks[b]?=some y)(hf0:f≤1000000)(hb0:b≤1000000)(hlc:y.code.length≤100000)(hf:Ks.sl Y vf fs)(Z:St Y w L)(hi:nth L i=some (MW p vf g a)):
 Ka Tryz.prog Q8G [.pointer (some ⟨p,0,none⟩), .int .i64 f, .int .i64 b] w fun u B=>u= .tuple #[]∧∃a',St Y B (L.set i (MW p vf (KP g (Pa fs.length f x b y)) a')):=by
 have hflt:=(EJ.1 hxf).1;have hblt:=(EJ.1 hyb).1;have Z:=Z.out hi;refine Kl Kh Tryz.func108 ?_;refine' Rm;refine' KJ;refine' RI;intro b1 o1 cs1 x1 hat1 hx1 he1;((obtain ⟨vp1,vr1,vb1,rfl,hp1,hr1,hb1⟩:=Qx he1));refine' NG;(intro p6 E Z);((refine Kp Z ?_;intro E Z;have Z:=Z.ns));refine' zn;have e1:x=x1:=EP (hxf.symm.trans hx1);subst e1;refine' kv;intro b2 o2 cs2 x2 hat2 hx2 he2;((obtain ⟨vp2,vc2,ve21,ve22,ve23,ve24,ve25,rfl,hp2,hc2,he21,he22,he23,he24,he25⟩:=PV he2));refine' NG;(intro p7 E Z);((refine Kp Z ?_;intro E Z;have Z:=Z.ns));refine' zn;have e2:y=x2:=EP (hyb.symm.trans hx2);subst e2;refine zM [0,1,2,6,7] (fun A ρ' B=>Ki ρ' A∧Ki ρ' []∧St Y B (blk p7 92 [.int .i64 y.regs,vp2,vc2, .int .i64 y.fin.op, .int .i64 y.fin.a, .int .i64 y.fin.yes.block,ve21,ve22, .int .i64 y.fin.no.block,ve23,ve24,ve25]::blk p6 95 [.int .i64 x.regs,vp1,vr1,vb1]::MW p vf g (SS f b)::L.eraseIdx i)) ?_ ?_
 · refine' RN;refine' Kk (c:=QgY f b hf0 hb0 Z);rintro v1 E ⟨rfl,Z⟩;refine' bM;intro E Z;have Z:=Z.ns;refine' zn;(exact ⟨zh,zh,Z.sp⟩)
 rintro U E ⟨hA,hρ,Z⟩;obtain ⟨U,rfl⟩:=Km hA hρ;refine zM [0,1,2,6,7] (fun A ρ' B=>Ki ρ' A∧Ki ρ' []∧St Y B (blk p7 92 [.int .i64 y.regs,vp2,vc2, .int .i64 y.fin.op, .int .i64 y.fin.a, .int .i64 y.fin.yes.block,ve21,ve22, .int .i64 y.fin.no.block,ve23,ve24,ve25]::blk p6 95 [.int .i64 x.regs,vp1,vr1,vb1]::MW p vf (KP g (K2 (if y.regs<x.regs∨16<y.regs then 1 else 0) (SS f b))) (SS f b)::L.eraseIdx i)) ?_ ?_
 · refine' OK;refine' KJ;(refine' Ae<;>intro O);all_goals (refine' LH;first|refine' Kj|(refine' Kg;refine' Af<;>intro O));all_goals (refine' Lw;refine' KZ (c:=Oy (g:=_) CW Z fd);rintro v1 E ⟨rfl,Z⟩;simp only [EV,E1,if_true,E2,if_false] at Z;refine' zn;exact AI)
 rintro U E ⟨hA,hρ,Z⟩;obtain ⟨U,rfl⟩:=Km hA hρ;refine' Nj;refine' KJ;refine' KZ (c:=r8 hp2 Z fd);rintro v1 E ⟨rfl,Z⟩;have Z:=Z.ns;refine' zn;refine' Kn;refine P0 Z 18 [0,1,2,6,7] (fun A LL ρ' B=>∃(q:Bool),Ki ρ' A∧Ki ρ' [(46, .pointer (some ⟨p,0,none⟩)),(63, .bool q)]∧(q=true↔(b=0∧(y.regs≠x.regs∨y.params≠x.params)))∧St Y B (LL)) ?_ ?_
 · refine' Me;(refine' Ac<;>intro O);all_goals (refine' RM;first|refine' Kj|(refine' Kg;refine' Ad<;>intro O));all_goals (refine' XP;refine' MD;first|refine' Kj|(refine' Kg;refine' KZ (c:=Vt Jk (fun a _ b _ {_ _ _ _} I M h3=>kP a b I M h3) hp2 hp1 Z);rintro v1 E ⟨rfl,Z⟩;(cases hdec:decide (y.params=x.params));have hg:=of_decide_eq_false hdec;rotate_left;have hg:=of_decide_eq_true hdec;all_goals skip));all_goals (refine' Y3;refine' Sg;first|(exact CF)|(exact BI)|(exact Bd)|(exact BL))
 rintro U E ⟨q,hA,hρ,hq,Z⟩;obtain ⟨U,rfl⟩:=Km hA hρ;refine' KZ (c:=Oy (g:=_) CW Z fd);rintro v1 E ⟨rfl,Z⟩;simp only [EV,E1,if_true,E2,if_false] at Z;refine' zn;refine zM [0,1,2,6,7] (fun A ρ' B=>Ki ρ' A∧Ki ρ' []∧St Y B (blk p7 92 [.int .i64 y.regs,vp2,vc2, .int .i64 y.fin.op, .int .i64 y.fin.a, .int .i64 y.fin.yes.block,ve21,ve22, .int .i64 y.fin.no.block,ve23,ve24,ve25]::blk p6 95 [.int .i64 x.regs,vp1,vr1,vb1]::MW p vf (KP g (K2 (PD x b y) (SS f b))) (SS f b)::L.eraseIdx i)) ?_ ?_
 · refine' Lp;refine' Sc;(refine' Af<;>intro O);all_goals (refine' KZ (c:=Oy (g:=_) CW Z fd);rintro v1 E ⟨rfl,Z⟩;simp only [EV,E1,if_true,E2,if_false] at Z;refine' zn;exact ⟨zh,zh,by rw [←Qkg hq];first|(rw [Qip (c:=40<y.code.length) V];exact Z.sp)|(rw [Qin (c:=40<y.code.length) V];exact Z.sp)⟩)
 rintro U E ⟨hA,hρ,Z⟩;obtain ⟨U,rfl⟩:=Km hA hρ;refine' Nr;refine zo [0,1,2,6,7] (fun A ρ' B=>∃(j:Nat) (h:Mj) (at2:Int),Ki ρ' A∧Ki ρ' [(8, .int .i64 j)]∧(j≤y.code.length)∧(KP (KP g (K2 (PD x b y) (SS f b))) (OY fs.length f b 0 y.code)=KP h (OY fs.length f b j (y.code.drop j)))∧St Y B (blk p7 92 [.int .i64 y.regs,vp2,vc2, .int .i64 y.fin.op, .int .i64 y.fin.a, .int .i64 y.fin.yes.block,ve21,ve22, .int .i64 y.fin.no.block,ve23,ve24,ve25]::blk p6 95 [.int .i64 x.regs,vp1,vr1,vb1]::MW p vf h at2::L.eraseIdx i)) (fun ρ' _=>(y.code.length - iv (ρ' 8)).toNat) ?_ ?_
 · exact Cj
 (rintro U E ⟨j,h,at2,hA,hρ,hj,hd,Z⟩;obtain ⟨U,rfl⟩:=Km hA hρ;refine' i5;(refine' Ae<;>intro O);all_goals (refine' XS;refine' kx;refine' Y1;first|refine' Kj|(refine' Kg;refine' Ac<;>intro O)));all_goals (refine' Ld)
 all_goals
  first
  | (refine' Kf;refine' Mi;refine' KW;refine' Me;refine' KZ (c:=r6 f b j hf0 hb0 V Z);rintro v1 E ⟨rfl,Z⟩;refine' bM;intro E Z;have Z:=Z.ns;refine' zn;have Z:St Y _ (blk p7 92 [.int .i64 y.regs,vp2,vc2, .int .i64 y.fin.op, .int .i64 y.fin.a, .int .i64 y.fin.yes.block,ve21,ve22, .int .i64 y.fin.no.block,ve23,ve24,ve25]::blk p6 95 [.int .i64 x.regs,vp1,vr1,vb1]::MW p vf h (PX f b j)::L.eraseIdx i):=Z;refine' OK;refine' RI;intro b3 o3 cs3 x3 hat3 hx3 he3;obtain ⟨vr3,va3,rfl,hr3,ha3⟩:=QN he3;refine N8 Z ?_;refine' Kk (c:=bS he3 hf Z fd);rintro v1 E ⟨rfl,Z⟩;have Z:=Z.ns;refine' zn;refine' Mn;(exact ⟨⟨j+1,_,_,zh,zh,V,by rw [hd,Q7 hx3,OY,dv],Z.sp⟩,Qh V⟩))
  | (refine' Kd;all_goals (refine' LV;(first|(rw [ES V,OY,iJ (b:=(0,0)) rfl] at hd)|(rw [R4 (a:=h) Ja] at hd));refine' KW;refine' zm;refine' Kk (c:=rZ f b hf0 hb0 Z);rintro v1 E ⟨rfl,Z⟩;refine' bM;intro E Z;have Z:=Z.ns;refine' zn;have Z:St Y _ (blk p7 92 [.int .i64 y.regs,vp2,vc2, .int .i64 y.fin.op, .int .i64 y.fin.a, .int .i64 y.fin.yes.block,ve21,ve22, .int .i64 y.fin.no.block,ve23,ve24,ve25]::blk p6 95 [.int .i64 x.regs,vp1,vr1,vb1]::MW p vf h (PW f b)::L.eraseIdx i):=Z;refine' OH;refine' Sd;refine' KZ (c:=bT (e:=y.fin) he1 ⟨_,_,_,_,_,rfl,he21,he22,he23,he24,he25⟩ Z fd);rintro v1 E ⟨rfl,Z⟩;have Z:=Z.ns;refine' zn);all_goals (refine' QY;refine ⟨_,rfl,rfl,PW f b,?_⟩;have Z:=Z.drop.drop;rw [show KP g (Pa fs.length f x b y)=KP h (K2 (Np x.blocks.length y.fin) (PW f b)) from (by unfold Pa;rw [←dv,←dv,hd])];exact F4 Z hi))
theorem QjT {a:Int}{x:Fun}{f:Nat}{q:Bool}(hq:q=true↔(f=0∧(0<x.regs∨0<x.params.length∨∃t∈x.results,t.kind≠1))):
 KP (KP (KP (KP (KP g (K2 (if x.regs<0∨6<x.regs then 1 else 0) a)) (K2 (QM x.params x.regs) a)) (K2 (QM x.results x.regs) a)) (K2 (if x.blocks.length<1∨12<x.blocks.length then 2 else 0) a)) (K2 (if q=true then 18 else 0) a)=KP g (K2 (Oo f x) a):=by
 rw [O9,O9,O9,O9];congr 2;unfold Oo;by_cases h0:x.regs<0∨6<x.regs
 · rw [Qip h0,Qip h0];simp only [Ro (show (1:Int)≠0 by decide)]
 · rw [Qin h0,Qin h0,PI]
   by_cases h:QM x.params x.regs≠0
   · rw [Qip h];simp only [Ro h]
   · rw [Qin h,Fk.1 h,PI]
     by_cases I:QM x.results x.regs≠0
     · rw [Qip I];simp only [Ro I]
     · rw [Qin I,Fk.1 I,PI]
       by_cases M:x.blocks.length<1∨12<x.blocks.length
       · rw [Qip M,Qip M];simp only [Ro (show (2:Int)≠0 by decide)]
       · rw [Qin M,Qin M,PI]
         by_cases hb:f=0∧(0<x.regs∨0<x.params.length∨∃t∈x.results,t.kind≠1)
         · rw [Qip hb,Qip (hq.2 hb)]
         · rw [Qin hb,Qin (fun h=>hb (hq.1 h))]
theorem sa (hsh:m.Short)(hm:Lr.at Y cs m)(Z:St Y w L):
 Ka Tryz.prog Qhs [.agg ⟨cs⟩] w fun u B=>u=Kz m.fault∧St Y B L:=by
 obtain ⟨vf,rfl,hf⟩:=NR hm;have hsl:=hsh.1;have hsf:=hsh.2;obtain ⟨a0,n0,rfl⟩:=E0 hf;generalize hvf:Value.slice a0 m.funcs.length n0=vf at*;refine Kl Kh Tryz.func62 ?_;refine' KU;intro p1 E Z;refine Qb Z ?_;(intro p2 E Z);refine' RP;refine j5 (cs:=[vf, .int .i64 0, .int .i64 0, .int .i64 (-1)]) vw vw (by subst hvf;rfl) ?_;refine zb Z ?_;intro p9 E Z;refine' Kv;refine zM [1,2,3] (fun A ρ' B=>Ki ρ' A∧Ki ρ' []∧St Y B (MW p9 vf (K2 (if m.funcs.length<1∨8<m.funcs.length then 2 else 0) (-1)) (-1)::blk p2 29 [.int .i64 0, .int .i64 0]::blk p1 24 [vf]::L)) ?_ ?_
 · have Z:St Y _ (MW p9 vf (0,0) (-1)::blk p2 29 [.int .i64 0, .int .i64 0]::blk p1 24 [vf]::L):=Z;refine' Lp;refine' Sc;(refine' Ac<;>intro O);all_goals (refine' RL;first|refine' Kj|(refine' Kg;refine' Af<;>intro O));all_goals (refine' Lw;refine' KZ (c:=Oy (g:=_) CW Z fd);rintro v1 E ⟨rfl,Z⟩;simp only [EV,E1,if_true,E2,if_false] at Z;refine' zn;exact ⟨zh,zh,by rw [OX (SP _ _)] at Z;first|(rw [Qip V];exact Z.sp)|(rw [Qin V];exact Z.sp)⟩)
 rintro U E ⟨hA,hρ,Z⟩;obtain ⟨U,rfl⟩:=Km hA hρ;refine' Nr;refine zo [1,2,3] (fun A ρ' B=>∃(f:Nat) (h:Mj) (a:Int),Ki ρ' A∧Ki ρ' [(4, .int .i64 f)]∧(f≤m.funcs.length)∧(m.fault=KP h (PY m.funcs.length f (m.funcs.drop f)))∧St Y B (MW p9 vf h a::blk p2 29 [.int .i64 0, .int .i64 0]::blk p1 24 [vf]::L)) (fun ρ' _=>(m.funcs.length - iv (ρ' 4)).toNat) ?_ ?_
 · exact ⟨0,_,_,zh,zh,V,by rw [FG];rfl,Z.sp⟩
 (rintro U E ⟨f,h,a,hA,hρ,hj,hd,Z⟩;obtain ⟨U,rfl⟩:=Km hA hρ;refine' i5;(refine' Ae<;>intro O);all_goals (refine' XS;refine' kx;refine' Y1;first|refine' Kj|(refine' Kg;refine' Ac<;>intro O)));all_goals (refine' Ld)
 all_goals
  first
  | (refine' Kf
     refine' XR;intro b1 o1 cs1 x1 hat1 hx1 he1;obtain ⟨vp1,vr1,vb1,rfl,hp1,hr1,hb1⟩:=Qx he1;refine' NG;intro p5 E Z;refine Kp Z ?_;intro E Z;have Z:=Z.ns;refine' zn;have hsx:=hsf x1 (EK hx1);have hlb:=hsx.2.2.1;have hlp:=hp1.len;have hlr:=hr1.len;refine' KW;refine' Kw (c:=Qj9 f V Z);rintro v1 E ⟨rfl,Z⟩;refine' bM;intro E Z;have Z:=Z.ns;refine' zn;refine zM [1,2,3,4,5] (fun A ρ' B=>Ki ρ' A∧Ki ρ' []∧St Y B (blk p5 95 [.int .i64 x1.regs,vp1,vr1,vb1]::MW p9 vf (KP h (K2 (if x1.regs<0∨6<x1.regs then 1 else 0) (PC f))) (PC f)::blk p2 29 [.int .i64 0, .int .i64 0]::blk p1 24 [vf]::L)) ?_ ?_
     · have Z:St Y _ (blk p5 95 [.int .i64 x1.regs,vp1,vr1,vb1]::MW p9 vf h (PC f)::blk p2 29 [.int .i64 0, .int .i64 0]::blk p1 24 [vf]::L):=Z;refine' OK;(refine' Ae<;>intro O);all_goals (refine' LH;first|refine' Kj|(refine' Kg;refine' Af<;>intro O));all_goals (refine' Lw;refine' KZ (c:=Oy (g:=_) CW Z fd);rintro v1 E ⟨rfl,Z⟩;simp only [EV,E1,if_true,E2,if_false] at Z;refine' zn;exact AI)
     rintro U E ⟨hA,hρ,Z⟩;obtain ⟨U,rfl⟩:=Km hA hρ;refine' Nj;refine' KJ;refine' KZ (c:=r8 hp1 Z fd);rintro v1 E ⟨rfl,Z⟩;have Z:=Z.ns;refine' L8;refine' KJ;refine' KJ;refine' KZ (c:=r8 hr1 Z fd);rintro v1 E ⟨rfl,Z⟩;have Z:=Z.ns;refine' zn;refine zM [1,2,3,4,5] (fun A ρ' B=>Ki ρ' A∧Ki ρ' []∧St Y B (blk p5 95 [.int .i64 x1.regs,vp1,vr1,vb1]::MW p9 vf (KP (KP (KP (KP h (K2 (if x1.regs<0∨6<x1.regs then 1 else 0) (PC f))) (K2 (QM x1.params x1.regs) (PC f))) (K2 (QM x1.results x1.regs) (PC f))) (K2 (if x1.blocks.length<1∨12<x1.blocks.length then 2 else 0) (PC f))) (PC f)::blk p2 29 [.int .i64 0, .int .i64 0]::blk p1 24 [vf]::L)) ?_ ?_
     · refine' Lp;refine' Sc;(refine' Ac<;>intro O);all_goals (refine' RL;first|refine' Kj|(refine' Kg;refine' Af<;>intro O));all_goals (refine' Lw;refine' KZ (c:=Oy (g:=_) CW Z fd);rintro v1 E ⟨rfl,Z⟩;simp only [EV,E1,if_true,E2,if_false] at Z;refine' zn;exact ⟨zh,zh,by first|(rw [Qip (c:=x1.blocks.length<1∨12<x1.blocks.length) V];exact Z.sp)|(rw [Qin (c:=x1.blocks.length<1∨12<x1.blocks.length) V];exact Z.sp)⟩)
     rintro U E ⟨hA,hρ,Z⟩;obtain ⟨U,rfl⟩:=Km hA hρ;refine zM [1,2,3,4,5] (fun A ρ' B=>Ki ρ' A∧Ki ρ' []∧St Y B (blk p5 95 [.int .i64 x1.regs,vp1,vr1,vb1]::MW p9 vf (KP h (K2 (Oo f x1) (PC f))) (PC f)::blk p2 29 [.int .i64 0, .int .i64 0]::blk p1 24 [vf]::L)) ?_ ?_
     · skip
       refine' Lm;refine P0 Z 19 [1,2,3,4,5] (fun A LL ρ' B=>∃(q:Bool),Ki ρ' A∧Ki ρ' [(81, .pointer (some ⟨p9,0,none⟩)),(99, .bool q)]∧(q=true↔(f=0∧(0<x1.regs∨0<x1.params.length∨∃t∈x1.results,t.kind≠1)))∧St Y B (LL)) ?_ ?_
       · refine' Me;(refine' Ac<;>intro O);all_goals (refine' LH;first|refine' Kj|(refine' Kg;refine' Af<;>intro O));all_goals (refine' XP;refine' ML;first|refine' Kj|(refine' Kg;refine' Af<;>intro O));all_goals (refine' Y2;refine' XP;(first|(refine' Kj)|(refine' Kg;refine' Kk (c:=ZF hr1 Z);rintro v1 E ⟨qc,rfl,hqc,Z⟩;cases qc)));all_goals (refine' Sg;first|(exact ⟨_,zh,zh,by exact ⟨fun _=>⟨V, .inl V⟩,fun _=>rfl⟩,Z.sp⟩)|(exact ⟨_,zh,zh,by exact ⟨fun _=>⟨V, .inr (.inl V)⟩,fun _=>rfl⟩,Z.sp⟩)|(exact ⟨_,zh,zh,by exact ⟨fun _=>⟨V, .inr (.inr (hqc.1 rfl))⟩,fun _=>rfl⟩,Z.sp⟩)|(exact Bd)|(exact ⟨_,zh,zh,by exact ⟨fun h=>Bool.noConfusion h,fun h=>h.2.elim (fun h=>by omega) (fun h=>h.elim (fun h=>by omega) (fun h=>Bool.noConfusion (hqc.2 h)))⟩,Z.sp⟩))
       rintro U E ⟨q,hA,hρ,hq,Z⟩;obtain ⟨U,rfl⟩:=Km hA hρ;refine' KZ (c:=Oy (g:=_) CW Z fd);rintro v1 E ⟨rfl,Z⟩;simp only [EV,E1,if_true,E2,if_false] at Z;refine' zn;(exact ⟨zh,zh,by rw [←QjT hq];exact Z.sp⟩)
     rintro U E ⟨hA,hρ,Z⟩;obtain ⟨U,rfl⟩:=Km hA hρ;refine' S0;refine zo [1,2,3,4,5] (fun A ρ' B=>∃(b:Nat) (M:Mj) (a2:Int),Ki ρ' A∧Ki ρ' [(6, .int .i64 b)]∧(b≤x1.blocks.length)∧(KP (KP h (K2 (Oo f x1) (PC f))) (QW m.funcs.length f x1 0 x1.blocks)=KP M (QW m.funcs.length f x1 b (x1.blocks.drop b)))∧St Y B (blk p5 95 [.int .i64 x1.regs,vp1,vr1,vb1]::MW p9 vf M a2::blk p2 29 [.int .i64 0, .int .i64 0]::blk p1 24 [vf]::L)) (fun ρ' _=>(x1.blocks.length - iv (ρ' 6)).toNat) ?_ ?_
     · exact Cj
     (rintro U E ⟨b,M,a2,hA,hρ,hb,hd2,Z⟩;obtain ⟨U,rfl⟩:=Km hA hρ;refine' i5;(refine' Ae<;>intro O);all_goals (refine' XS;refine' kx;refine' Y1;first|refine' Kj|(refine' Kg;refine' Ac<;>intro O)));all_goals (refine' Ld)
     all_goals
      first
      | (refine' Kf;refine' Mi;obtain ⟨y,hy⟩:∃y,x1.blocks[b]?=some y:=⟨_,EI V⟩;have hsy:=hsx.2.2.2 y (EK hy);refine' RN;refine' KZ (c:=V8 hx1 hy V V hsy.2.1 hf Z fd);rintro v1 E ⟨rfl,a3,Z⟩;have Z:=Z.ns;refine' zn;refine' Mn;(exact ⟨⟨b+1,_,_,zh,zh,V,by rw [hd2,Q7 hy,QW,dv],Z.sp⟩,Qh V⟩))
      | (refine' Kd;all_goals (refine' LV;(first|(rw [ES V,QW,iJ (b:=(0,0)) rfl] at hd2)|(rw [R4 (a:=M) Ja] at hd2));refine' Mn);all_goals (exact ⟨⟨f+1,M,a2,zh,zh,V,by rw [hd,Q7 hx1,PY,←dv,show KP h (R7 m.funcs.length f x1)=M from (by unfold R7;rw [←dv,hd2])],Z.sp⟩,Qh V⟩)))
  | (refine' Kd;all_goals (refine' LV;(first|(rw [ES V,PY,iJ (b:=(0,0)) rfl] at hd)|(rw [R4 (a:=h) Ja] at hd));refine' Rm;refine zv Z ?_;refine Kp Z ?_;intro E Z;have Z:=Z.ns;refine' LM;refine QO vw (Q3 (n:=2) Jk Jk (Z.blkAt fd) Jr Jr) ?_);all_goals (refine ⟨_,rfl,?_,Z.sp⟩;rw [hd];rfl;done))
end
end Go.Proofs.YteflkifmgnpbhaaGreat
namespace Go.Lir
section
variable {P:Program}{Q:QT}{U:KD}{w:World}{l:List GO}
theorem Qiq {Ty:TypeId}{x:Operand}(ht:P.underlying Ty=some (.interface ms))(hx:U.ev x= .nilIface)(h:Q0 P l Q (upd U d (.bool true)) w):Q0 P (⟨none, .bin d .eql Ty x (.const .nilIface)⟩::l) Q U w:=
 ⟨_,fun w0=>by rw [hx];simp [KD.ev,eqGuard,binOp,vN ht],h⟩
theorem xD {Ty U0q:TypeId}{v:Value}{x:Operand}(ht:P.underlying Ty=some (.interface ms))(hx:U.ev x= .iface U0q v)(h:Q0 P l Q (upd U d (.bool false)) w):Q0 P (⟨none, .bin d .eql Ty x (.const .nilIface)⟩::l) Q U w:=
 ⟨_,fun w0=>by rw [hx];simp [KD.ev,eqGuard,binOp,vO ht],h⟩
end
end Go.Lir
namespace Go.Proofs.YteflkifmgnpbhaaGreat
open Go.Lir
attribute [local irreducible] LC.wp Q0 Qp Qk KN Qw LO.wp Q6 Calls
section
variable {Y:Cx}{w:World}{L:List Res}{p N:Nat}{c:MC}{fr:List FrmV}{g:FrmV}{h:HpS}{out inp:List Int}{fu:Nat}{m:Module}
theorem xE {P:Program}{T:TypeId}(h:OB P T=true):∃D,P.underlying T=some D∧∀m,D≠ .interface m:=by
 unfold OB at h;split at h
 · exact ⟨_,by assumption,by intro m h;cases h⟩
 · exact ⟨_,by assumption,by intro m h;cases h⟩
 · cases h
@[reducible] def fq (p3 p1 p2:Nat):List Value:=[.pointer (some ⟨p3,0,none⟩), .pointer (some ⟨p1,0,none⟩), .pointer (some ⟨p2,0,none⟩)]
@[reducible] def Ps (p p1 p2 p3:Nat)(a:Int)(L:List Res):List Res:=blk p3 3 [.int .i64 a]::blk p2 29 [.int .i64 0, .int .i64 0]::blk p1 39 [.pointer (some ⟨p,0,none⟩)]::L
theorem ZG {a:Int}(Z:St Y w (Ps p p1 p2 p3 a L)):Nb Tryz.prog re (fq p3 p1 p2) .returning w fun u' B=>u'= .returning∧St Y B (Ps p p1 p2 p3 a L):=by
 unfold Nb;refine dZ Kh Tryz.func70 ?_;refine' dL;refine' RE;refine' zn;refine' zn;refine' RD;refine' PS;refine' Kn;refine Qiq (ms:=#[]) Jk rfl ?_;refine' Se;refine' Lm;refine' Kv;refine' dU;exact Ay
@[reducible] def MC.stk (c:MC)(a:Int):MC:=⟨c.hp,c.fn,c.lv,c.iv,c.e,c.bv,c.ov,c.fu,c.mo,c.dn,20,a⟩
theorem ZH {a:Int}(Z:St Y w (Ps p p1 p2 p3 a (blk p 55 c.cells::L))):Nb Tryz.prog re (fq p3 p1 p2) (.panicking [{v:=VK,recovered:=false}]) w fun u' B=>u'= .panicking [{v:=VK,recovered:=true}]∧St Y B (blk p2 29 [.int .i64 20, .int .i64 a]::blk p 55 (c.stk a).cells::L):=by
 obtain ⟨D,hD,hi⟩:=xE (P:=Tryz.prog) (T:=121) Jk;unfold Nb;refine dZ Kh Tryz.func70 ?_;refine' dL;refine' RE;refine' zn;refine' zn;refine' RD;refine' PS;refine' Kn;refine xD (ms:=#[]) Jk rfl ?_;refine' zn;refine' Kd;refine' Kn;refine nu hD hi rfl ?_;refine' dR;refine' Se;refine' Ov;(intro p4 E Z);((refine Kp Z ?_;intro E Z;have Z:=Z.ns));refine' zn;refine' Kn;refine zl Z ?_;refine zl Z ?_;refine M8 [_,_] ?_;refine' LF;((refine iY Z ?_;intro E Z;have Z:=Z.ns));refine' zn;refine' bL;refine' LF;refine zv Z ?_;((refine Kp Z ?_;intro E Z;have Z:=Z.ns));refine' zn;refine' dU;exact Ay
@[reducible] def MC.over (c:MC)(e:Int):MC:=⟨c.hp,c.fn,c.lv,c.iv,e,c.bv,c.ov,c.fu,c.mo,true,c.c,c.a⟩
theorem xF {a e:Int}(Z:St Y w (Ps p p1 p2 p3 a (blk p 55 c.cells::L))):Nb Tryz.prog re (fq p3 p1 p2) (.panicking [{v:=eY e,recovered:=false}]) w fun u' B=>u'= .panicking [{v:=eY e,recovered:=true}]∧St Y B (blk p2 29 [.int .i64 0, .int .i64 0]::blk p 55 (c.over e).cells::L):=by
 obtain ⟨D,hD,hi⟩:=xE (P:=Tryz.prog) (T:=121) Jk;unfold Nb;refine dZ Kh Tryz.func70 ?_;refine' dL;refine' RE;refine' zn;refine' zn;refine' RD;refine' PS;refine' Kn;refine xD (ms:=#[]) Jk rfl ?_;refine' zn;refine' Kd;refine' Kn;refine Qew (z:= .agg ⟨[]⟩) hD hi Jk rfl Jd ?_;refine' dR;refine' zn;refine' Kd;refine' Kn;refine nu (D:= .int .i64) Jk DT rfl ?_;refine' dR;refine' Se;refine' LS;refine' bL;refine zl Z ?_;refine' zm;refine' bM;intro E Z;have Z:=Z.ns;refine' RG;refine Lv Z ?_;intro E Z;have Z:=Z.ns;refine' zn;refine' dU;exact Ay
theorem Pr.form {X:Stp}(hG:Pr p c N h out fu X Y L u w):∃M0q,St Y w (M0q++L)∧∀B L2,St Y B (M0q++L2)→Pr p c N h out fu X Y L2 u B:=by
 rcases hG with ⟨lv,iv,ov,fr',g',N',h',inp',out',I,M,h3,h4,Z⟩|⟨ns,bv,fr',g',I,M,Z⟩
 · exact ⟨mS p (c.upd lv iv ov) fr' g' N' h' out' [],Z,fun B L2 Z=> .inl ⟨lv,iv,ov,fr',g',N',h',inp',out',I,M,h3,h4,Z⟩⟩
 · exact ⟨_::_::_::_::_::_::_::_::[],Z,fun B L2 Z=> .inr ⟨ns,bv,fr',g',I,M,Z⟩⟩
theorem St.app {M0q:List Res}(Z:St Y w (M0q++L)):St Y w (L++M0q):=Z.perm HZ
abbrev Jt:=@St.app
def Sv (m:Module)(p:Nat)(c:MC)(fr:List FrmV)(g:FrmV)(N:Nat)(h:HpS)(inp out:List Int)(fu:Nat)(Y:Cx)(L:List Res)(u:Value)(B:World):Prop:=
 (c.fu=c.mo∧u=Kz (0,0)∧St Y B (mS p (c.over 7) fr g N h out L))∨(c.fu≠c.mo∧((u=Kz (0,0)∧Pr p c.tick N h out fu ((Kc h g fr inp out fu).one m) Y L (.tuple #[]) B)∨
   (∃e,(Kc h g fr inp out fu).one m= .halt e∧u=Kz (0,0)∧∃fr' g' N',N'≤N+1∧St Y B (mS p (c.tick.over e) fr' g' N' h out L))∨
   ((Kc h g fr inp out fu).one m= .lost∧u=Kz (20,(Kc h g fr inp out fu).place m)∧St Y B (blk p 55 (c.tick.stk ((Kc h g fr inp out fu).place m)).cells::L))))
attribute [local irreducible] MS.ins MS.fin MS.one MS.place Mv Nt Pr
theorem fw {f:Fun}{b:Block}(hdn:c.dn=false)(hc0:c.c=0)(hfn:Ks.sl Y c.fn m.funcs)(hi:Kb.sl Y c.iv inp)(hfx:m.funcs[g.f]?=some f)(hbx:f.blocks[g.b]?=some b)(hci:∀x∈b.code,Qe5 m x)(hce:cr f b.fin)(hgf:g.f≤1000000)(hgb:g.b≤1000000)(hgi:g.i≤1000)(hf:fr.length≤900)(hn:g.vals.length≤800000)(hrn:g.regs.length≤800000)(hfr:∀x∈fr,x.vals.length≤900000)(hN:N≤99999)(hol:out.length≤2000)(hfu:0≤c.fu∧c.fu≤10000000)(Z:St Y w (mS p c fr g N h out L)):
 Ka Tryz.prog vZ [.pointer (some ⟨p,0,none⟩)] w (Sv m p c fr g N h inp out fu Y L):=by
 unfold Sv;refine qL Kh Tryz.func23 ?_;refine' YV;refine' Pd;refine' Lm;refine zb Z ?_;intro p1 E Z;refine Qb Z ?_;(intro p2 E Z);refine' zn;refine' YV;refine' Pd;refine' Kn;refine zl Z ?_;refine' LF;(refine zl Z ?_;rw [hdn]);refine' zm;((refine' LU));((refine' Nf));((refine' LI));((refine' Sh));((refine' Kg;(refine zl Z ?_;rw [hc0])));(refine' Kg;refine' TA);refine' UY;refine' YV;refine' Pd;have Z:St Y _ (mS p c fr g N h out (blk p2 29 [.int .i64 0, .int .i64 0]::blk p1 39 [.pointer (some ⟨p,0,none⟩)]::L)):=Z.sp;refine' bL;refine' Kw (c:=ZE (inp:=inp) (fu:=fu) hfn hfx hbx hf hgf hgb V Z);rintro v1 E ⟨rfl,Z⟩;refine Qb Z ?_;(intro p3 E Z);((refine Lv Z ?_;intro E Z;have Z:=Z.ns));refine' zn;refine' YV;refine' dK;refine' jN;refine' zn;refine ⟨_,_,rfl,?_⟩;have Z:St Y _ (mS p c fr g N h out (Ps p p1 p2 p3 ((Kc h g fr inp out fu).place m) L)):=Z.sp;refine' zn;refine' Pd;refine' Kn;refine zl Z ?_;refine Pf (c:=lF (inp:=inp) (fu:=fu) hfn hi hfx hbx hci hce hgi hf hn hrn hfr hN hol hfu Z) (p:=by rintro v9 w9 hB;(repeat (refine' Qo));refine' nA;rcases hB with ⟨hmo,rfl,Z⟩|⟨hmo,⟨hX,rfl,Z⟩|⟨e,hX,rfl,fr',g',N',hN',Z⟩⟩;(refine YW C6 Jk (xF (c:=c) (a:=(Kc h g fr inp out fu).place m) (show St Y _ (Ps p p1 p2 p3 _ (blk p 55 c.cells::_)) from Z.sp)) ?_;rintro u' B ⟨rfl,Z⟩;refine' YX;refine QO vw (Q3 (n:=2) Jk Jk (Z.blkAt fd) Jr Jr) ?_;exact ⟨_,rfl, .inl ⟨hmo,rfl,Z.sp⟩⟩);(refine YW C6 Jk (ZH (c:=c.tick) (a:=(Kc h g fr inp out fu).place m) (show St Y _ (Ps p p1 p2 p3 _ (blk p 55 c.tick.cells::_)) from Z.sp)) ?_;rintro u' B ⟨rfl,Z⟩;refine' YX;refine QO vw (Q3 (n:=2) Jk Jk (Z.blkAt fd) Jr Jr) ?_;exact ⟨_,rfl, .inr ⟨hmo, .inr (.inr ⟨hX,rfl,Z.sp⟩)⟩⟩);(refine YW C6 Jk (xF (c:=c.tick) (a:=(Kc h g fr inp out fu).place m) (show St Y _ (Ps p p1 p2 p3 _ (blk p 55 c.tick.cells::_)) from Z.sp)) ?_;rintro u' B ⟨rfl,Z⟩;refine' YX;refine QO vw (Q3 (n:=2) Jk Jk (Z.blkAt fd) Jr Jr) ?_;exact ⟨_,rfl, .inr ⟨hmo, .inr (.inl ⟨e,hX,rfl,fr',g',N',hN',Z.sp⟩)⟩⟩)) (h:=?_);rintro u1 E ⟨hmo,hG⟩;obtain ⟨rfl,hG⟩:=hG.tup;obtain ⟨M0q,Z,hK⟩:=hG.form;have Z:St Y _ (Ps p p1 p2 p3 ((Kc h g fr inp out fu).place m) (L++M0q)):=Jt Z;refine' zn;refine' Kn;refine Ly [_,_] ?_;((refine Kp Z ?_;intro E Z;have Z:=Z.ns));refine' LM;refine' UK;refine YW C6 Jk (ZG Z) ?_;rintro u1 E ⟨rfl,Z⟩;refine' YX;refine QO vw (Q3 (n:=2) Jk Jk (Z.blkAt fd) Jr Jr) ?_;((exact ⟨_,rfl, .inr ⟨hmo, .inl ⟨rfl,hK _ _ (Jt (L:=M0q) (M0q:=L) (show St Y _ (L++M0q) from Z.drop.drop.drop))⟩⟩⟩))
end
section
variable {Y:Cx}{w:World}{L:List Res}{p:Nat}{c:RC}{fr:List RFV}{g:RFV}{s:EstS}{out inp:List Int}{fu:Nat}{m:Module}
def P9 (p:Nat)(c:RC)(s:EstS)(out:List Int)(X:RStp)(Y:Cx)(L:List Res)(u:Value)(B:World):Prop:=
 ∃ns bv fr' g',X= .done ns∧u= .tuple #[]∧St Y B (rS p (c.did bv) fr' g' s out (sl 2 1 bv (ns.map Qq)::L))
def RU (p:Nat)(c:RC)(s:EstS)(out:List Int)(fu:Nat)(X:RStp)(Y:Cx)(L:List Res)(u:Value)(B:World):Prop:=Oh p c fu X Y L u B∨P9 p c s out X Y L u B
theorem Oh.drop {r:Res}(hG:Oh p c fu X Y (r::L) u w):Oh p c fu X Y L u w:=by
 obtain ⟨lv,i1,ov,fr',g',s',inp',out',I,M,h3,Z⟩:=hG;exact ⟨lv,i1,ov,fr',g',s',inp',out',I,M,h3,Z.sp⟩
theorem Oh.ok (hG:Oh p c fu X Y L u w):RU p c s out fu X Y L u w:= .inl hG
theorem Vz.get (hB:Vz p c s out X Y L u w):∃e,X= .halt e∧u=X1 e∧∃fr' g',St Y w (rS p c fr' g' s out L):=hB
theorem P9.drop {r:Res}(hG:P9 p c s out X Y (r::L) u w):P9 p c s out X Y L u w:=by
 obtain ⟨ns,bv,fr',g',I,M,Z⟩:=hG;exact ⟨ns,bv,fr',g',I,M,Z.sp⟩
theorem RU.drop {r:Res}(hG:RU p c s out fu X Y (r::L) u w):RU p c s out fu X Y L u w:=hG.elim (fun h=> .inl h.drop) (fun h=> .inr h.drop)
theorem RU.tup (hG:RU p c s out fu X Y L u w):u= .tuple #[]∧RU p c s out fu X Y L u w:=by
 refine ⟨?_,hG⟩;rcases hG with ⟨_,_,_,_,_,_,_,_,_,_,h,_⟩|⟨_,_,_,_,_,h,_⟩
 · exact h
 · exact h
theorem RU.form (hG:RU p c s out fu X Y L u w):∃M0q,St Y w (M0q++L)∧∀B L2,St Y B (M0q++L2)→RU p c s out fu X Y L2 u B:=by
 rcases hG with ⟨lv,i1,ov,fr',g',s',inp',out',I,M,h3,Z⟩|⟨ns,bv,fr',g',I,M,Z⟩
 · exact ⟨rS p (c.upd lv i1 ov) fr' g' s' out' [],Z,fun B L2 Z=> .inl ⟨lv,i1,ov,fr',g',s',inp',out',I,M,h3,Z⟩⟩
 · exact ⟨_::_::_::_::_::_::_::[],Z,fun B L2 Z=> .inr ⟨ns,bv,fr',g',I,M,Z⟩⟩
attribute [local irreducible] RFrm.val RFrm.args EstS.get EstS.getV EstS.code EstS.word EstS.store EstS.stores RS.ins
theorem lG {r:RS}(h3:e.op=3):r.fin e=Mb (r.g.args e.args) fun vs=>match r.st with
 | c::st=> .go ((⟨r.e,c,st,r.inp,r.out,r.fuel⟩:RS).put vs)
 | []=> .done vs:=Qip h3
theorem lH {r:RS}(M:e.op=2):r.fin e=Mb (r.g.val e.a) fun n=>if n=0 then r.to e.no else r.to e.yes:=(Qin V).trans (Qip M)
theorem lI {r:RS}(h3:e.op≠3)(M:e.op≠2):r.fin e=r.to e.yes:=(Qin h3).trans (Qin M)
theorem cm {r:RS}{t:To}{vs:List Int}(h:r.g.args t.args=some vs):r.to t= .go (r.fr ⟨r.g.f,t.block.toNat,0,vs⟩):=Ox h
theorem sb {r:RS}{t:To}(h:r.to t≠ .crash):∃vs,r.g.args t.args=some vs:=by obtain ⟨vs,hv,_⟩:=OP (o:=r.g.args t.args) h;exact ⟨vs,hv⟩
theorem ZI (hx:La.at Y cs e)(hi:Kb.sl Y c.iv inp)(h8:e.args.length≤100)(hy:e.op≠3→0≤e.yes.block∧e.yes.args.length≤100)(hno:e.op=2→0≤e.no.block∧e.no.args.length≤100)(hf:fr.length≤900)(hfr:∀x∈fr,x.vals.length≤900000)(hX0:(KH s g fr inp out fu).fin e≠ .crash)(Z:St Y w (rS p c fr g s out L)):
 Ka Tryz.prog jb [.pointer (some ⟨p,0,none⟩), .agg ⟨cs⟩] w (RU p c s out fu ((KH s g fr inp out fu).fin e) Y L):=by
 by_cases h3:e.op=3
 · rw [lG h3] at hX0 ⊢
   obtain ⟨vs,hv,eX⟩:=OP hX0;rw [eX];rcases Gy fr with rfl|⟨fr0,k,hk⟩
   · refine (eL (s:=s) (out:=out) hx h3 h8 hv Z).mono ?_;rintro u B ⟨bv,rfl,ho,Z⟩;exact .inr ⟨vs,bv,[],g,rfl,rfl,Z⟩
   · obtain rfl:fr=fr0++[k]:=(by simpa using hk);rw [EO] at hf;refine (eN (s:=s) (out:=out) hx h3 h8 hv V (hfr k Js) Z).mono ?_;rintro u B ⟨lv,tv,rfl,Z⟩;refine .inl ⟨lv,c.iv,c.ov,fr0,k.push tv vs,s,inp,out,?_,hi,rfl,Z⟩;rw [xh];rfl
 · obtain ⟨y1,y2⟩:=hy h3
   by_cases M:e.op=2
   · rw [lH M] at hX0 ⊢
     obtain ⟨n,hn,eX⟩:=OP hX0;rw [eX] at hX0 ⊢;by_cases h0:n=0
     · obtain ⟨n1,n2⟩:=hno M;rw [Qip h0] at hX0 ⊢;obtain ⟨vs,hv⟩:=sb hX0;subst h0;refine (eO (s:=s) (out:=out) hx M hn n2 n1 hv V Z).mono ?_;rintro u B ⟨vv,rfl,Z⟩;exact .inl ⟨c.lv,c.iv,c.ov,fr,⟨g.f,e.no.block.toNat,0,vv,vs⟩,s,inp,out,cm hv,hi,rfl,Z⟩
     · rw [Qin h0] at hX0 ⊢;obtain ⟨vs,hv⟩:=sb hX0;refine (eP (s:=s) (out:=out) hx M h0 hn y2 y1 hv V Z).mono ?_;rintro u B ⟨vv,rfl,Z⟩;exact BZ
   · rw [lI h3 M] at hX0 ⊢;obtain ⟨vs,hv⟩:=sb hX0;refine (eQ (s:=s) (out:=out) hx M h3 y2 y1 hv V Z).mono ?_;rintro u B ⟨vv,rfl,Z⟩;exact BZ
@[reducible] def RC.over (c:RC)(e:Int):RC:=⟨c.ep,c.fn,c.lv,c.iv,e,c.bv,c.ov,c.fu,c.mo,true⟩
@[reducible] def RC.tick (c:RC):RC:=⟨c.ep,c.fn,c.lv,c.iv,c.e,c.bv,c.ov,c.fu+1,c.mo,c.dn⟩
@[reducible] def lJ (p1:Nat):List Value:=[.pointer (some ⟨p1,0,none⟩)]
@[reducible] def Oi (p p1:Nat):Res:=blk p1 59 [.pointer (some ⟨p,0,none⟩)]
theorem V9 {p1:Nat}(Z:St Y w (Oi p p1::L)):Nb Tryz.prog wu (lJ p1) .returning w fun u' B=>u'= .returning∧St Y B (Oi p p1::L):=by
 unfold Nb;refine dZ Kh Tryz.func80 ?_;refine' dL;refine' RE;refine' zn;refine' Kv;refine' RD;refine' KX;refine vP (ms:=#[]) Jk rfl ?_;refine' RJ;refine' dU;exact Ay
theorem xG {p1:Nat}{e:Int}(Z:St Y w (Oi p p1::blk p 66 c.cells::L)):Nb Tryz.prog wu (lJ p1) (.panicking [{v:=X1 e,recovered:=false}]) w fun u' B=>u'= .panicking [{v:=X1 e,recovered:=true}]∧St Y B (Oi p p1::blk p 66 (c.over e).cells::L):=by
 unfold Nb;refine dZ Kh Tryz.func80 ?_;refine' dL;refine' RE;refine' zn;refine' Kv;refine' RD;refine' KX;refine vQ (ms:=#[]) Jk rfl ?_;refine' Se;refine' KX;refine nu (D:= .int .i64) Jk DT rfl ?_;refine' U0;refine' TG;refine' bL;refine zl Z ?_;refine' zm;refine' bM;intro E Z;have Z:=Z.ns;refine' RG;refine Lv Z ?_;intro E Z;have Z:=Z.ns;refine' zn;refine' dU;exact Ay
end
section
variable {Y:Cx}{w:World}{L:List Res}{p:Nat}{c:RC}{fr:List RFV}{g:RFV}{s:EstS}{out inp:List Int}{fu:Nat}{m:Module}
def sc (m:Module)(p:Nat)(c:RC)(fr:List RFV)(g:RFV)(s:EstS)(inp out:List Int)(fu:Nat)(Y:Cx)(L:List Res)(u:Value)(B:World):Prop:=
 u = .tuple #[]∧((c.fu=c.mo∧St Y B (rS p (c.over 7) fr g s out L))∨(c.fu≠c.mo∧(RU p c.tick s out fu ((KH s g fr inp out fu).one m) Y L (.tuple #[]) B∨
   ∃e,(KH s g fr inp out fu).one m= .halt e∧∃fr' g',St Y B (rS p (c.tick.over e) fr' g' s out L))))
theorem fx {f:Fun}{b:Block}{x:Ins}(hf:m.funcs[g.f]?=some f)(hb:f.blocks[g.b]?=some b)(hx:b.code[g.i]?=some x):(KH s g fr inp out fu).one m=(KH s g.nx fr inp out fu).ins m x:=by
 unfold RS.one;rw [show m.funcs[(KH s g fr inp out fu).g.f]?=some f from hf];simp only;rw [show f.blocks[(KH s g fr inp out fu).g.b]?=some b from hb];simp only;rw [show b.code[(KH s g fr inp out fu).g.i]?=some x from hx];rfl
theorem fy {f:Fun}{b:Block}(hf:m.funcs[g.f]?=some f)(hb:f.blocks[g.b]?=some b)(hx:b.code.length≤g.i):(KH s g fr inp out fu).one m=(KH s g fr inp out fu).fin b.fin:=by
 unfold RS.one;rw [show m.funcs[(KH s g fr inp out fu).g.f]?=some f from hf];simp only;rw [show f.blocks[(KH s g fr inp out fu).g.b]?=some b from hb];simp only;rw [show b.code[(KH s g fr inp out fu).g.i]?=none from Fe hx]
attribute [local irreducible] RS.ins RS.fin RS.one Oh Vz RU P9
theorem Wa {f:Fun}{b:Block}(hdn:c.dn=false)(hfn:Ks.sl Y c.fn m.funcs)(hi:Kb.sl Y c.iv inp)(hfx:m.funcs[g.f]?=some f)(hbx:f.blocks[g.b]?=some b)(hci:∀x∈b.code,Qe5 m x)(hce:cr f b.fin)(hgi:g.i≤1000)(hf:fr.length≤900)(hn:g.vals.length≤800000)(hfr:∀x∈fr,x.vals.length≤900000)(hol:out.length≤2000)(hfu:0≤c.fu∧c.fu≤10000000)(hX0:(KH s g fr inp out fu).one m≠ .crash)(Z:St Y w (rS p c fr g s out L)):
 Ka Tryz.prog wb [.pointer (some ⟨p,0,none⟩)] w (sc m p c fr g s inp out fu Y L):=by
 (have hgf:=(EJ.1 hfx).1;have hgb:=(EJ.1 hbx).1;unfold sc;refine qL Kh Tryz.func37 ?_;refine' YV;refine' Pd;refine' Lm;refine zb Z ?_;intro p1 E Z;refine' zn;refine' YV;refine' Pd;refine' Kn;refine zl Z ?_;refine' LF;(refine zl Z ?_;rw [hdn]);refine' RJ;refine' YV;refine' dK;refine' jN;refine' zn;refine ⟨_,_,rfl,?_⟩;refine' zn;refine' Pd;refine Qm ?_;refine zD (ci 11 [10]) ?_;have Z:=Z.drew;refine zl Z ?_;refine' O4;refine zl Z ?_;refine' LG;(refine' Ac<;>intro O);all_goals (first|(refine' Kk (c:=Zl Z);rintro v1 E ⟨rfl,Z⟩)|(refine KF (c:=Zm Z) (p:=by rintro v9 w9 ⟨rfl,Z⟩;(repeat (refine' Qo));refine' nA;refine YW C6 Jk (xG (c:=c) (show St Y _ (Oi p p1::blk p 66 c.cells::_) from Z.sp)) ?_;rintro u' B ⟨rfl,Z⟩;refine' YX;refine' jH;exact ⟨_,rfl,rfl, .inl ⟨V,Z.sp⟩⟩) (h:=fun _ _ h=>h.elim))));refine' LA;have hmo:c.fu≠c.mo:=CP;refine' bL;refine' O4;refine' MJ;refine' RG;refine Lv Z ?_;intro E Z;have Z:=Z.ns;refine' zn;refine' Kn;refine zl Z ?_;have Z:St Y _ (rS p c.tick fr g s out (Oi p p1::L)):=Z.sp;refine' Kw (c:=X2 V Z);rintro v1 E ⟨b9,o9,rfl,hel,Z⟩;refine' MU;refine zC [(0,none),(1,none),(2,none),(3,none),(4,none),(5,none),(6,none),(7,none),(8,none),(9,none),(10,none),(11,none),(12,none),(13,none),(14,none),(15,none),(16,none),(17,none),(18,some (some [0,4,8,11,15,17])),(19,some none)] ?_;have Z:=Z.drew;refine' KS;refine zl Z ?_;refine' Ku;refine' Nc;refine' Rl;refine' Mm;refine' OL;refine QV Z hel rfl fd (QG fr g) (Rp fr g) rfl ?_;refine' Ku;refine' zi;intro b8 o8 cs8 x8 hat8 hx8 he8;obtain rfl:x8=f:=EP (hx8.symm.trans hfx);obtain ⟨vp8,vr8,vb8,rfl,hp8,hr8,hb8⟩:=Qx he8;refine' Ku;refine' US;refine YY Z ?_;refine' Mm;refine' OL;refine Q9 (j:=1) Z hel rfl fd (QG fr g) (Rp fr g) rfl ?_;refine' Ku;refine' zi;intro b7 o7 cs7 x7 hat7 hx7 he7;obtain rfl:x7=b:=EP (hx7.symm.trans hbx);obtain ⟨vp7,vc7,u1,u2,u3,u4,u5,rfl,hp7,hc7,hu1,hu2,hu3,hu4,hu5⟩:=PV he7;refine' TP;intro p3 E Z;refine' zt;refine ⟨EN.2 ⟨CS,EN.2 ⟨CS,EN.2 ⟨Dg,EN.2 ⟨Df,EN.2 ⟨Dg,EN.2 ⟨C7,fun _ h=>(ET h).elim⟩⟩⟩⟩⟩⟩,?_⟩;refine' Lg;refine Kp Z ?_;intro E Z;have Z:=Z.ns;refine' K7;refine Qm ?_;refine zD (ci 8 [7]) ?_;have Z:=Z.drew;refine' MO;refine Q9 (j:=2) Z hel rfl fd (QG fr g) (Rp fr g) rfl ?_;refine' Sc;(refine' Ae<;>intro O);all_goals (refine' zn)
 all_goals
  first
  | (refine' Kf;refine zD (ci 10 [9]) ?_;have Z:=Z.drew;refine zl Z ?_;refine' KJ;refine' MO;refine Q9 (j:=2) Z hel rfl fd (QG fr g) (Rp fr g) rfl ?_;refine' zi;intro b6 o6 cs6 x6 hat6 hx6 he6;obtain ⟨vr6,va6,rfl,hr6,ha6⟩:=QN he6;have hX:=fx (s:=s) (fr:=fr) (inp:=inp) (out:=out) (fu:=fu) hfx hbx hx6;rw [hX] at hX0 ⊢;obtain ⟨q1,q2,q3,q4⟩:=hci _ (EK hx6);refine N8 Z ?_;refine KF (c:=Zs (c:=c.tick) (fu:=fu) (inp:=inp) he6 hi q1 (fun h=>(q2 h).1) q4 hgi hf hn hol hX0 (show St Y _ (rS p c.tick fr g s out _) from Z.sp)) (p:=by rintro v9 w9 hB;obtain ⟨e9,hh,rfl,fr',g',Z⟩:=Vz.get hB;(repeat (refine' Qo));refine' nA;refine YW C6 Jk (xG (c:=c.tick) (show St Y _ (Oi p p1::blk p 66 c.tick.cells::_) from Z.sp)) ?_;rintro u' B ⟨rfl,Z⟩;refine' YX;refine' jH;exact ⟨_,rfl,rfl, .inr ⟨hmo, .inr ⟨e9,hh,fr',g',Z.sp⟩⟩⟩) (h:=?_);rintro u7 w7 hG;refine' zn;have hG:RU p c.tick s out fu ((KH s g.nx fr inp out fu).ins m x6) Y (Oi p p1::L) u7 w7:=(Oh.ok hG).drop;obtain ⟨rfl,hG⟩:=hG.tup;obtain ⟨M0q,Z,hK⟩:=hG.form;have Z:St Y _ (Oi p p1::(L++M0q)):=Jt Z)
  | (refine' Kd;have hX:=fy (s:=s) (fr:=fr) (inp:=inp) (out:=out) (fu:=fu) hfx hbx (by show x7.code.length≤g.i;omega);rw [hX] at hX0 ⊢;obtain ⟨q1,q2,q3,q4⟩:=hce;refine' bL;refine' Sd;refine' Kk (c:=ZI (c:=c.tick) (fu:=fu) (inp:=inp) (e:=x7.fin) ⟨_,_,_,_,_,rfl,hu1,hu2,hu3,hu4,hu5⟩ hi q1 (fun h=>⟨(q3 h).1.1,(q3 h).2.2⟩) (fun h=>⟨(q4 h).1.1,(q4 h).2.2⟩) hf hfr hX0 (show St Y _ (rS p c.tick fr g s out _) from Z.sp));rintro u7 w7 hG;refine' zn;have hG:RU p c.tick s out fu ((KH s g fr inp out fu).fin x7.fin) Y (Oi p p1::L) u7 w7:=hG.drop;obtain ⟨rfl,hG⟩:=hG.tup;obtain ⟨M0q,Z,hK⟩:=hG.form;have Z:St Y _ (Oi p p1::(L++M0q)):=Jt Z)
 all_goals (refine' dM;refine YW C6 Jk (V9 Z) ?_;rintro u1 E ⟨rfl,Z⟩;refine' YX;refine' jH;exact ⟨_,rfl,rfl, .inr ⟨hmo, .inl (hK _ _ (Jt (L:=M0q) (M0q:=L) (show St Y _ (L++M0q) from Z.drop)))⟩⟩)
end
end Go.Proofs.YteflkifmgnpbhaaGreat
namespace Go.Proofs.YteflkifmgnpbhaaGreat
open Go.Lir
def Reg.lim (r:Reg)(q:Int):Int:=if q=r.last then r.used else 16
theorem QhN (s:PoolS)(k i:Int):(s.give k).word i=s.word i:=by
 unfold PoolS.give;split<;>rfl
theorem xH {i:Int}{l:List Int}:∀{s:PoolS},(s.gives l).word i=s.word i:=by
 induction l with
 | nil=>intro s;rfl
 | cons k l ih=>intro s;exact (ih (s:=s.give k)).trans (QhN s k i)
theorem Mr {s:PoolS}{i:Int}:s.isIn i=true↔0≤i∧i<((s.n*16:Nat):Int):=decide_eq_true_iff
theorem sd {s:PoolS}(ok:s.Ok){a x:Int}(ha:s.isIn a=true)(i:Int):(s.store a x).word i=if i=a then x else s.word i:=by
 have ha':=Mr.1 ha;have hl:=ok.len;unfold PoolS.store;rw [Qip ha];unfold PoolS.word;by_cases hi:s.isIn i=true
 · have hi':=Mr.1 hi
   have e:(⟨s.n,s.ws.set a.toNat x,s.fr⟩:PoolS).isIn i=true:=hi;rw [Qip e,Qip hi,j2 V];by_cases h:i=a
   · subst h;rw [Qip rfl,Qip rfl]
   · rw [Qin V,Qin h]
 · have e:¬(⟨s.n,s.ws.set a.toNat x,s.fr⟩:PoolS).isIn i=true:=hi;rw [Qin e,Qin hi,Qin (fun h:i=a=>hi (by rw [h];exact ha))]
theorem xI {s:PoolS}(ok:s.Ok){k:Nat}{fr:List Int}(h3:s.take=⟨s.n,Sj s.ws k,fr⟩)(hk:k<s.n)(i:Int):s.take.word i=if (k:Int)*16≤i∧i<(k:Int)*16+16 then 0 else s.word i:=by
 have hl:=ok.len;rw [h3];unfold PoolS.word;by_cases hi:s.isIn i=true
 · have hi':=Mr.1 hi
   have e:(⟨s.n,Sj s.ws k,fr⟩:PoolS).isIn i=true:=hi;rw [Qip e,Qip hi,←Qk8 hl hk,rA _ _ _ _ V];by_cases h:(k:Int)*16≤i∧i<(k:Int)*16+16
   · rw [Qip V,Qip h]
   · rw [Qin V,Qin h]
 · have e:¬(⟨s.n,Sj s.ws k,fr⟩:PoolS).isIn i=true:=hi;rw [Qin e,Qin hi];split<;>rfl
theorem jj (ok:s.Ok){p:PoolS}{m k:Nat}(hm:m<16){r:Reg}:(⟨p,s.rs.set m r⟩:EstS).reg k=if k=m then r else s.reg k:=by
 have:=ok.len;unfold EstS.reg;rw [Qip V,Fa,j2 V];by_cases h:m=k
 · rw [Qip h,Qip h.symm]
 · rw [Qin h,Qin (Ib h),Qip V]
theorem se (ok:s.Ok){k m:Nat}(hk:k<16)(hm:m<16){q:Int}(I:q∈(s.reg k).pages)(M:q∈(s.reg m).pages):k=m:=by
 by_cases h:k=m
 · exact h
 exfalso;have hnd:=(GU ok hm).1;have:=(GP.1 hnd).2.2 q M q (IC.2 ⟨s.reg k,List.mem_eraseIdx_iff_getElem?.2 ⟨k,h,F9 ok hk⟩,I⟩);exact this rfl
theorem sf {r:Reg}(h:r.pages≠[]):r.last∈r.pages:=by
 unfold Reg.last;rcases Gy r.pages with e|⟨l,x,e⟩
 · exact absurd e h
 · rw [e];simp
theorem sg (ok:s.Ok){k:Nat}(hk:k<16){q:Int}(h:q∈(s.reg k).pages):0≤q∧q<s.p.n∧q∉s.p.fr:=K0.1 (((GU ok hk).2 q).1 (Ho _ h))
theorem oo (ok:s.Ok){k:Nat}(hk:k<16){q:Int}:(s.reg k).lim q≤16:=by
 unfold Reg.lim;split
 · exact (Hk ok hk).2
 · exact IG _
structure GetF (s:EstS) (m:Nat) (x:Int) (P u:Int):Prop where
 x1:1≤x
 ux:0≤u∧u+x≤16
 v:s.getV m x=P*16+u
 rs:(s.get m x).rs=s.rs.set m ⟨(s.reg m).there,((s.get m x).reg m).pages,u+x⟩
 last:((s.get m x).reg m).last=P
 mem:P∈((s.get m x).reg m).pages
 sub:∀q∈(s.reg m).pages,q∈((s.get m x).reg m).pages
 n:(s.get m x).p.n=s.p.n
 old:P∈(s.reg m).pages→P=(s.reg m).last∧u=(s.reg m).used
 new:P∉(s.reg m).pages→∀k:Nat,k<16→P∉(s.reg k).pages
 w:∀i,¬(P*16≤i∧i<P*16+16)→(s.get m x).p.word i=s.p.word i
 wz:P∉(s.reg m).pages→∀i,P*16≤i∧i<P*16+16→(s.get m x).p.word i=0
 wo:P∈(s.reg m).pages→(s.get m x).p=s.p
theorem lK (ok:s.Ok){m:Nat}(hm:m<16){x:Int}(O:s.code m x=0):∃P u,GetF s m x P u:=by
 obtain ⟨I,M,h3,h4⟩:=JG O;have hu:=Hk ok hm;have hrs:(s.get m x).rs=s.rs.set m ((s.regTo m x).use x):=En;have hp:(s.get m x).p=if (s.reg m).more x then s.p.take else s.p:=by unfold EstS.get;rw [Qip O]
 have hv:s.getV m x=(s.regTo m x).last*16+(s.regTo m x).used:=by unfold EstS.getV;rw [Qip O]
 have hreg:(s.get m x).reg m=(s.regTo m x).use x:=by
  have e:s.get m x=⟨(s.get m x).p,s.rs.set m ((s.regTo m x).use x)⟩:=(by rw [←hrs]);rw [e,jj ok hm,Qip rfl]
 by_cases hmo:(s.reg m).more x=true
 · rw [Qip hmo] at hp
   have hto:s.regTo m x=(s.reg m).grow s.p.top:=(by unfold EstS.regTo;rw [Qip hmo]);rcases HL ok.pok with ⟨e,_⟩|⟨kk,fr,e1,e2,e3⟩
   · exact absurd ⟨hmo,e⟩ h4
   · have hfree:∀k:Nat,k<16→s.p.top∉(s.reg k).pages:=fun k hk hmem=>by
      have:=(sg ok hk hmem).2.2;exact this (by rw [e2,e1];simp)
     have hnk:kk<s.p.n:=(by have:=ok.pok.rng kk (by rw [e1];simp);omega);refine ⟨s.p.top,0,M,V,by rw [hv,hto];simp [Reg.grow,Reg.last],?_,?_,?_,?_,?_,fun h=>absurd h (hfree m hm),fun _=>hfree,fun i hi=>?_,fun _ i hi=>?_,fun h=>absurd h (hfree m hm)⟩
     · rw [hrs,hreg,hto];simp [Reg.use,Reg.grow]
     · rw [hreg,hto];simp [Reg.use,Reg.grow,Reg.last]
     · rw [hreg,hto];simp [Reg.use,Reg.grow]
     · intro q hq;rw [hreg,hto];simp [Reg.use,Reg.grow,hq]
     · rw [hp];exact Jj
     · rw [hp,xI ok.pok e3 hnk,Qin (by rw [e2] at hi;exact hi)]
     · rw [hp,xI ok.pok e3 hnk,Qip (by rw [e2] at hi;exact hi)]
 · rw [Qin hmo] at hp
   have hto:s.regTo m x=s.reg m:=(by unfold EstS.regTo;rw [Qin hmo]);obtain ⟨h5,h6⟩:=J0 hmo;have hl:=sf h5;refine ⟨(s.reg m).last,(s.reg m).used,M,V,by rw [hv,hto],?_,?_,?_,?_,by rw [hp],fun _=>⟨rfl,rfl⟩,fun h=>absurd hl h,fun i _=>by rw [hp],fun h=>absurd hl h,fun _=>hp⟩
   · rw [hrs,hreg,hto];rfl
   · rw [hreg,hto];rfl
   · rw [hreg,hto];exact hl
   · intro q hq;rw [hreg,hto];exact hq
theorem GetF.reg (ok:s.Ok){m k:Nat}(hm:m<16){x P u:Int}(h:GetF s m x P u):(s.get m x).reg k=if k=m then ⟨(s.reg m).there,((s.get m x).reg m).pages,u+x⟩ else s.reg k:=by
 have e:s.get m x=⟨(s.get m x).p,s.rs.set m ⟨(s.reg m).there,((s.get m x).reg m).pages,u+x⟩⟩:=(by rw [←h.rs]);have:=jj ok hm (p:=(s.get m x).p) (k:=k) (r:=⟨(s.reg m).there,((s.get m x).reg m).pages,u+x⟩);rw [←e] at this;exact this
end Go.Proofs.YteflkifmgnpbhaaGreat
namespace Go.Lir
section
def QI {α:Type}(x:Except Int α):Int:=match x with
 | .error c=>c
 | .ok _=>0
theorem oq {x:Except Int α}(hn:NZ x)(h:QI x=0):∃a,x= .ok a:=by
 cases x with
 | error c=>exact absurd h (hn c rfl)
 | ok a=>exact ⟨a,rfl⟩
section
variable {α:Type}{x:Except Int α}{v:Value}
theorem xJ {c:Int}{p:α→Prop}(h:x= .error c):∀a,x= .ok a→p a:=fun a ha=>by rw [h] at ha;cases ha
theorem lL {b:α}{p:α→Prop}(h:x= .ok b)(hp:p b):∀a,x= .ok a→p a:=fun a ha=>by rw [h] at ha;cases ha;exact hp
theorem xK {b:α}{p:α→Prop}(h:∀a,x= .ok a→a=b)(hp:p b):∀a,x= .ok a→p a:=fun a ha=>by rw [h a ha];exact hp
theorem lM {c:Int}(h:x= .error c):(Value.tuple #[v, .int .i64 c])= .tuple #[v, .int .i64 (QI x)]:=by rw [h];rfl
theorem ZJ {b:α}(h:x= .ok b):(Value.tuple #[v, .int .i64 0])= .tuple #[v, .int .i64 (QI x)]:=by rw [h];rfl
theorem sh {b:α}{c:Int}(h:x= .ok b)(O:c=0):(Value.tuple #[v, .int .i64 c])= .tuple #[v, .int .i64 (QI x)]:=by rw [h,O];rfl
theorem lN {c:Int}(h:QI x=c):(Value.tuple #[v, .int .i64 c])= .tuple #[v, .int .i64 (QI x)]:=by rw [h]
end
def Lj (s:JS)(k kd:Int)(held:Bool):Int:=QI (if held then Lu s k kd else Kx s k kd)
section
variable {s:JS}{k kd:Int}{held:Bool}{t:Ty}
theorem fD (h:k<0∨(s.l.length:Int)≤k):Lj s k kd held=1:=by
 unfold Lj;cases held
 · simp only [E2,if_false,Kx,Qr (iN h)];rfl
 · simp only [if_true,Lu,Kx,Qr (iN h)];rfl
theorem fE (h0:0≤k)(ht:s.l[k.toNat]?=some t)(hk:t.kind≠kd):Lj s k kd held=9:=by
 have I:Kx s k kd= .error 9:=(by unfold Kx;rw [Q5 (YO h0 ht)];exact Qip hk);unfold Lj;cases held
 · simp only [E2,if_false,I];rfl
 · simp only [if_true,Lu,Qr I];rfl
theorem ZK (h0:0≤k)(ht:s.l[k.toNat]?=some t)(hk:t.kind=kd)(hh:Kt s.h t.r=false):Lj s k kd true=10:=by
 unfold Lj;simp only [if_true,UF h0 ht hk hh];rfl
theorem xL (h0:0≤k)(ht:s.l[k.toNat]?=some t)(hk:t.kind=kd):Kx s k kd= .ok t:=by
 unfold Kx;rw [Q5 (YO h0 ht)];exact Qin (fun h=>h hk)
theorem ZL (h0:0≤k)(ht:s.l[k.toNat]?=some t)(hk:t.kind=kd)(hh:Kt s.h t.r=true):Lu s k kd= .ok t:=by
 unfold Lu;rw [Q5 (xL h0 ht hk)];exact Qin (by rw [hh];decide)
theorem Wb (h0:0≤k)(ht:s.l[k.toNat]?=some t)(hk:t.kind=kd)(hh:held=true→Kt s.h t.r=true):Lj s k kd held=0:=by
 unfold Lj;cases held
 · simp only [E2,if_false,xL h0 ht hk];rfl
 · simp only [if_true,ZL h0 ht hk (hh rfl)];rfl
theorem ZM (h:Lj s k kd true=0):∃t,Lu s k kd= .ok t:=oq (dF s k kd) (by unfold Lj at h;simpa using h)
theorem QhP (h:Lj s k kd false=0):∃t,Kx s k kd= .ok t:=oq (UC s k kd) (by unfold Lj at h;simpa using h)
theorem si (h:Lj s k kd true≠0):Lu s k kd= .error (Lj s k kd true):=by
 unfold Lj at h ⊢;simp only [if_true] at h ⊢
 cases hj:Lu s k kd with
 | error c=>rfl
 | ok a=>rw [hj] at h;exact AA
theorem Qea (h:Lj s k kd false≠0):Kx s k kd= .error (Lj s k kd false):=by
 unfold Lj at h ⊢;simp only [E2,if_false] at h ⊢
 cases hj:Kx s k kd with
 | error c=>rfl
 | ok a=>rw [hj] at h;exact AA
end
def NQ:List Int→Int
 | []=>0
 | x::l=>if x≠0 then x else NQ l
def lO (m:Module)(s:JS)(x:Ins):Except Int (List Ty):=match m.funcs[x.k.toNat]? with
 | none=> .error 1
 | some g=>if (x.regs.length:Int)≠g.regs then .error 2 else Ke (M7 s.h [] x.regs) fun _=>Ke (OE s x.args g.params x.regs) fun _=> .ok (g.results.map (MH x.regs))
def KY (m:Module)(f:Fun)(s:JS)(x:Ins):Except Int (List Ty):=
 if x.op=1∨x.op=12 then (.ok [KC])
 else if x.op=2 then (Ke (Kx s x.a 1) fun _=>Ke (Kx s x.b 1) fun _=> .ok [KC])
 else if x.op=3 then (if s.h.length=16 then .error 2 else .ok [.mk 2 s.h.length []])
 else if x.op=4 then (Ke (Lu s x.a 2) fun t=>if t.r<f.regs then .error 11 else .ok [])
 else if x.op=5 then (Ke (Lu s x.a 2) fun t=>Ke (Kq s x.args) fun ts=>if 4<(Ty.mk 3 t.r ts).depth 4 then .error 19 else .ok [.mk 3 t.r ts])
 else if x.op=6 then (Ke (Lu s x.a 3) fun t=>Ke (Pb t x.k) fun u=> .ok [u])
 else if x.op=7 then (Ke (Lu s x.a 3) fun t=>Ke (Pb t x.k) fun u=>Ke (Lx s x.b) fun v=>if u≠v then .error 9 else .ok [])
 else if x.op=8 then (Ke (Lu s x.a 2) fun t=>Ke (Kx s x.b 1) fun _=> .ok [.mk 4 t.r []])
 else if x.op=9 then (Ke (Lu s x.a 4) fun _=>Ke (Kx s x.b 1) fun _=> .ok [KC])
 else if x.op=10 then (Ke (Lu s x.a 4) fun _=>Ke (Kx s x.b 1) fun _=>Ke (Kx s x.c 1) fun _=> .ok [])
 else if x.op=11 then (Ke (Lu s x.a 4) fun _=> .ok [KC])
 else if x.op=13 then (Ke (Kx s x.a 1) fun _=> .ok [])
 else lO m s x
section
variable {m:Module}{f:Fun}{s:JS}{x:Ins}
theorem Wc (h:x.op=1∨x.op=12):KY m f s x=(.ok [KC]):=by
 unfold KY;rw [Qip V]
theorem Wd (h:x.op=2):KY m f s x=(Ke (Kx s x.a 1) fun _=>Ke (Kx s x.b 1) fun _=> .ok [KC]):=by
 unfold KY;rw [Qin V,Qip V]
theorem Sw (h:x.op=3):KY m f s x=(if s.h.length=16 then .error 2 else .ok [.mk 2 s.h.length []]):=by
 unfold KY;rw [Qin V,Qin V,Qip V]
theorem lP (h:x.op=4):KY m f s x=(Ke (Lu s x.a 2) fun t=>if t.r<f.regs then .error 11 else .ok []):=by
 unfold KY;rw [Qin V,Qin V,Qin V,Qip V]
theorem lQ (h:x.op=5):KY m f s x=(Ke (Lu s x.a 2) fun t=>Ke (Kq s x.args) fun ts=>if 4<(Ty.mk 3 t.r ts).depth 4 then .error 19 else .ok [.mk 3 t.r ts]):=by
 unfold KY;(repeat rw [Qin V]);rw [Qip V]
theorem Sx (h:x.op=6):KY m f s x=(Ke (Lu s x.a 3) fun t=>Ke (Pb t x.k) fun u=> .ok [u]):=by
 unfold KY;(repeat rw [Qin V]);rw [Qip V]
theorem jk (h:x.op=7):KY m f s x=(Ke (Lu s x.a 3) fun t=>Ke (Pb t x.k) fun u=>Ke (Lx s x.b) fun v=>if u≠v then .error 9 else .ok []):=by
 unfold KY;(repeat rw [Qin V]);rw [Qip V]
theorem We (h:x.op=8):KY m f s x=(Ke (Lu s x.a 2) fun t=>Ke (Kx s x.b 1) fun _=> .ok [.mk 4 t.r []]):=by
 unfold KY;(repeat rw [Qin V]);rw [Qip V]
theorem Wf (h:x.op=9):KY m f s x=(Ke (Lu s x.a 4) fun _=>Ke (Kx s x.b 1) fun _=> .ok [KC]):=by
 unfold KY;(repeat rw [Qin V]);rw [Qip V]
theorem sj (h:x.op=10):KY m f s x=(Ke (Lu s x.a 4) fun _=>Ke (Kx s x.b 1) fun _=>Ke (Kx s x.c 1) fun _=> .ok []):=by
 unfold KY;(repeat rw [Qin V]);rw [Qip V]
theorem sk (h:x.op=11):KY m f s x=(Ke (Lu s x.a 4) fun _=> .ok [KC]):=by
 unfold KY;(repeat rw [Qin V]);rw [Qip V]
theorem sm (h:x.op=13):KY m f s x=(Ke (Kx s x.a 1) fun _=> .ok []):=by
 unfold KY;(repeat rw [Qin V]);rw [Qip V]
theorem Wg (h:x.op=14):KY m f s x=(lO m s x):=by
 unfold KY;(repeat rw [Qin V])
end
section
variable {α β γ δ:Type}{x:Except Int α}{y:Except Int β}{z:Except Int γ}
theorem lR {c:Int}{l:List Int}(h:c≠0):NQ (c::l)=c:=Qip h
theorem xM (l:List Int):NQ (0::l)=NQ l:=Qin (fun h=>h rfl)
theorem xN (hx:NZ x)(h:NQ [QI x,QI y]≠0)(g:α→β→Except Int δ):Ke x (fun a=>Ke y (g a))= .error (NQ [QI x,QI y]):=by
 cases x with
 | error c=>rw [show QI (.error c:Except Int α)=c from rfl,lR (hx c rfl)];rfl
 | ok a=>
   rw [show QI (.ok a:Except Int α)=0 from rfl,xM] at h ⊢
   cases y with
   | error c=>
     rw [show QI (.error c:Except Int β)=c from rfl] at h ⊢;by_cases O:c=0
     · subst O;exact AA
     · rw [lR O];rfl
   | ok b=>exact AA
theorem xO (hx:NZ x)(hy:NZ y)(h:NQ [QI x,QI y]=0):∃a b,x= .ok a∧y= .ok b:=by
 cases x with
 | error c=>rw [show QI (.error c:Except Int α)=c from rfl,lR (hx c rfl)] at h;exact absurd h (hx c rfl)
 | ok a=>
   rw [show QI (.ok a:Except Int α)=0 from rfl,xM] at h
   cases y with
   | error c=>rw [show QI (.error c:Except Int β)=c from rfl,lR (hy c rfl)] at h;exact absurd h (hy c rfl)
   | ok b=>exact ⟨a,b,rfl,rfl⟩
theorem so (hx:NZ x)(hy:NZ y)(d:δ):QI (Ke x fun _=>Ke y fun _=>(.ok d:Except Int δ))=NQ [QI x,QI y]:=by
 by_cases h:NQ [QI x,QI y]=0
 · obtain ⟨a,b,I,M⟩:=xO hx hy h;rw [h,Q5 I,Q5 M];rfl
 · rw [xN hx h];rfl
theorem Wh (hx:NZ x)(hy:NZ y)(hz:NZ z)(d:δ):QI (Ke x fun _=>Ke y fun _=>Ke z fun _=>(.ok d:Except Int δ))=NQ [QI x,QI y,QI z]:=by
 cases x with
 | error c=>rw [show QI (.error c:Except Int α)=c from rfl,lR (hx c rfl)];rfl
 | ok a=>
   have:NQ [QI (.ok a:Except Int α),QI y,QI z]=NQ [QI y,QI z]:=rfl;rw [this,←so hy hz d];rfl
theorem ZN {x:Except Int α}{f:α→Except Int β}{b:β}(h:Ke x f= .ok b){p:Prop}(hp:∀a,f a= .ok b→p):p:=by
 obtain ⟨a,_,M⟩:=Q8 h;exact hp a M
end
section
variable {s:JS}{k kd:Int}
theorem jl:Lj s k kd true=QI (Lu s k kd):=rfl
theorem ZO:Lj s k kd false=QI (Kx s k kd):=rfl
end
section
variable {s:JS}{k kd:Int}{m:Module}{f:Fun}{x:Ins}
theorem sq (h:Lj s k kd true=0):∃t,0≤k∧k<s.l.length∧s.l[k.toNat]?=some t∧t.kind=kd∧Kt s.h t.r=true∧Lu s k kd= .ok t:=by
 obtain ⟨t,ht⟩:=ZM h;obtain ⟨I,M,h3,h4⟩:=XJ ht;have:=(EJ.1 M).1;exact ⟨t,I,V,M,h3,h4,ht⟩
theorem ou {y:Except Int α}(h:QI y≠0):y= .error (QI y):=by
 cases y with
 | error c=>rfl
 | ok a=>exact AA
theorem ss {y:Except Int Unit}(hn:NZ y)(h:QI y=0):y= .ok ():=by
 obtain ⟨_,h⟩:=oq hn h;exact h
theorem ZP {c:Int}(h:x.op=6∨x.op=7)(hj:Lu s x.a 3= .error c):KY m f s x= .error c:=by
 rcases h with h|h
 · rw [Sx h,Qr hj]
 · rw [jk h,Qr hj]
theorem ZQ {t:Ty}(h:x.op=6∨x.op=7)(hj:Lu s x.a 3= .ok t)(hf:t.l[x.k.toNat]?=none):KY m f s x= .error 9:=by
 have I:Pb t x.k= .error 9:=(by unfold Pb;rw [hf]);rcases h with h|h
 · rw [Sx h,Q5 hj,Qr I]
 · rw [jk h,Q5 hj,Qr I]
theorem Qha {t u:Ty}{k:Int}(h:t.l[k.toNat]?=some u):Pb t k= .ok u:=by unfold Pb;rw [h]
theorem ZR {g:Fun}(h:x.op=14)(hg:m.funcs[x.k.toNat]?=some g):KY m f s x=(if (x.regs.length:Int)≠g.regs then .error 2 else Ke (M7 s.h [] x.regs) fun _=>Ke (OE s x.args g.params x.regs) fun _=> .ok (g.results.map (MH x.regs))):=by
 rw [Wg h];unfold lO;rw [hg]
end
theorem xP {n:Nat}{x:Ins}(hF:Qs n x=0)(e:x.op=5):x.args.length≤8:=by
 unfold Qs NK at hF;simp [e] at hF;omega
end
section
theorem Tys.wrong_all {n:Int}:∀{l:List Ty},Tys.wrong fields l n=0↔∀t∈l,t.wrong fields n=0
 | []=>by simp [Tys.wrong]
 | x ::l=>by
   rw [Tys.wrong];constructor
   · intro h
     split at h
     · rename_i I;exact absurd h I
     · rename_i I
       intro t ht;rcases E4.1 ht with rfl|ht
       · exact Fk.1 I
       · exact Tys.wrong_all.1 h t ht
   · intro h;rw [Qin (fun hn=>hn (h x (FR ..)))];exact Tys.wrong_all.2 fun t ht=>h t (FA _ ht)
abbrev HN:=@Tys.wrong_all
theorem Ty.wrong_iff {k n:Int}{l:List Ty}:(Ty.mk k r l).wrong fields n=0↔(1≤k∧k≤4)∧(k=1→r=0)∧(k≠3→l.length=0)∧l.length≤fields∧(k≠1→0≤r∧r<n)∧∀t∈l,t.wrong fields n=0:=by
 rw [Ty.wrong];constructor
 · intro h
   split at h
   · cases h
   · rename_i I
     split at h
     · cases h
     · rename_i M
       split at h
       · cases h
       · rename_i h3
         split at h
         · cases h
         · exact ⟨V,V,V,V,V,HN.1 h⟩
 · rintro ⟨I,M,h3,h4,h5,h6⟩;(repeat rw [Qin V]);exact HN.2 h6
abbrev Gk:=@Ty.wrong_iff
theorem Ty.wrong_up {n n':Int}(hn:n≤n'):∀t:Ty,t.wrong fields n=0→t.wrong fields n'=0:=by
 intro t
 induction t using GS with
 | h k r l ih=>
   intro h;obtain ⟨I,M,h3,h4,h5,h6⟩:=Gk.1 h;exact Gk.2 ⟨I,M,h3,h4,fun hk=>by have:=h5 hk;omega,fun t ht=>ih t ht (h6 t ht)⟩
mutual
theorem Ty.ren_right {fields:Nat}{f:List Int}{n:Int}(hf:∀i:Nat,i<f.length→0≤f.getD i 0∧f.getD i 0<n):∀(t:Ty),t.wrong fields f.length=0→∃u,t.ren f=some u∧u.wrong fields n=0
 | .mk k r l,ht=>by
   obtain ⟨I,M,h3,h4,h5,h6⟩:=Gk.1 ht;obtain ⟨m,hm,hml,hmw⟩:=Tys.ren_right hf l h6;have hr:k≠1→0≤f.getD r.toNat 0∧f.getD r.toNat 0<n:=fun hk=>hf r.toNat DE;refine ⟨.mk k (if k≠1 then f.getD r.toNat 0 else r) m,?_,?_⟩
   · rw [Ty.ren,Qin (by rintro ⟨hk,hb⟩;have:=h5 hk;have:=hr hk;omega),hm]
   · refine Gk.2 ⟨I,fun hk=>by rw [Qin V];exact M hk,fun hk=>by rw [hml];exact h3 hk,V,fun hk=>by rw [Qip hk];exact hr hk,hmw⟩
theorem Tys.ren_right {fields:Nat}{f:List Int}{n:Int}(hf:∀i:Nat,i<f.length→0≤f.getD i 0∧f.getD i 0<n):∀(l:List Ty),(∀t∈l,t.wrong fields f.length=0)→∃m,Tys.ren l f=some m∧m.length=l.length∧∀u∈m,u.wrong fields n=0
 | [],_=>⟨[],by rw [Tys.ren],rfl,by simp⟩
 | x::l,h=>by
   obtain ⟨y,I,M⟩:=Ty.ren_right hf x (h x (FR ..));obtain ⟨m,h3,h4,h5⟩:=Tys.ren_right hf l (fun t ht=>h t (FA _ ht));refine ⟨y::m,by rw [Tys.ren,I,h3],by simp [h4],fun u hu=>?_⟩;rcases E4.1 hu with rfl|hu
   · exact M
   · exact h5 u hu
end
structure JInv (m:Module) (f:Fun) (z:JS):Prop extends JGood z where
 wf:∀t∈z.l,t.wrong 8 z.h.length=0
 keep:∀r:Int,0≤r→r<f.regs→Kt z.h r=true
theorem Tf {h:List Bool}(hr:Kt h r=true):0≤r∧r<h.length:=by have:=dw hr;omega
theorem Ty.fault_wrong {t:Ty}{n:Int}(h:t.fault n=0):t.wrong 8 n=0:=by
 unfold Ty.fault at h;split at h
 · cases h
 · exact h
abbrev Hg:=@Ty.fault_wrong
theorem xQ {s:JS}{n:Int}(hw:∀t∈s.l,t.wrong 8 n=0):∀{l:List Int}{ts:List Ty},Kq s l= .ok ts→∀t∈ts,t.wrong 8 n=0
 | [],ts,h=>by rw [Kq] at h;cases h;simp
 | k::l,ts,h=>by
   rw [Kq] at h;obtain ⟨t,I,h⟩:=Q8 h;obtain ⟨us,M,h⟩:=Q8 h;cases h;intro u hu;rcases E4.1 hu with rfl|hu
   · exact hw _ (EK (nm I).2)
   · exact xQ hw M u hu
theorem JInv.at {f:Fun}{s:JS}(hg:JInv m f s){k:Int}{t:Ty}(h:Lu s k kd= .ok t):t.wrong 8 s.h.length=0∧0≤t.r∧t.r<s.h.length∧t∈s.l:=by
 have I:=XJ h;have M:=Tf I.2.2.2;exact ⟨hg.wf _ (EK I.2.1),M.1,M.2,EK I.2.1⟩
theorem xR {f:Fun}{s:JS}{x:Ins}{t:Ty}{ts:List Ty}(hF:Qs m.funcs.length x=0)(e:x.op=5)(hg:JInv m f s)(I:Lu s x.a 2= .ok t)(M:Kq s x.args= .ok ts):
 (Ty.mk 3 t.r ts).wrong 8 s.h.length=0∧((Ty.mk 3 t.r ts).fault s.h.length≠0↔4<(Ty.mk 3 t.r ts).depth 4):=by
 have h3:=hg.at I;have h4:=(qu hg.toJGood M).1;have h5:=xP hF e;have hw:(Ty.mk 3 t.r ts).wrong 8 s.h.length=0:=Gk.2 ⟨V,V,V,V,fun _=>by omega,xQ hg.wf M⟩;refine ⟨hw,?_⟩;have hd:=Ty.depth_iff (Ty.mk 3 t.r ts) (most:=4) V;unfold Ty.fault;rw [hw];constructor
 · intro h
   split at h
   · rename_i hb;exact Fv fun hn=>by rw [hd.1 V] at hb;cases hb
   · exact absurd rfl h
 · intro h
   rw [Qip]
   · decide
   · cases hb:(Ty.mk 3 t.r ts).deepB 4 with
     | false=>rfl
     | true=>have:=hd.2 hb;omega
def Nu (s:JS)(x:Ins)(ts:List Ty):Except Int JS:=if 80<s.l.length+ts.length then .error 2 else
 .ok ⟨if x.op=3 then s.h++[true] else if x.op=4 then (match s.l[x.a.toNat]? with|some t=>s.h.set t.r.toNat false|none=>s.h) else s.h,s.l++ts⟩
theorem cv {s:JS}{x:Ins}{t:Ty}(hn:s.l.length≤80)(h3:x.op≠3)(h4:x.op≠4):Nu s x [t]=LJ s t:=by
 unfold Nu LJ;rw [Qin h3,Qin h4];by_cases h:s.l.length=80
 · rw [Qip h,Qip CT]
 · rw [Qin h,Qin CT]
theorem su {s:JS}{x:Ins}(hn:s.l.length≤80)(h3:x.op≠3)(h4:x.op≠4):Nu s x []= .ok s:=by
 unfold Nu;rw [Qin h3,Qin h4,Qin CT,FX]
theorem QF {γ:Type}(x:Except Int α)(f:α→Except Int β)(g:β→Except Int γ):Ke (Ke x f) g=Ke x fun a=>Ke (f a) g:=by cases x<;>rfl
theorem QE {x:Except Int α}{f g:α→Except Int β}(h:∀a,x= .ok a→f a=g a):Ke x f=Ke x g:=by
 cases x with
 | error e=>rfl
 | ok a=>exact h a rfl
theorem Wi {f:Fun}{s:JS}{x:Ins}(hF:Qs m.funcs.length x=0)(hg:JInv m f s):KG m f s x=Ke (KY m f s x) (Nu s x):=by
 have hop:=bu hF;have hn:=hg.n;rcases LB (op:=x.op) V V with e|e|e|e|e|e|e|e|e|e|e|e|e|e
 · rw [XK V,Wc V,Q5 rfl,cv hn V V]
 · rw [bw e,Wd e,QF];refine QE fun _ _=>?_;rw [QF];refine QE fun _ _=>?_;rw [Q5 rfl,cv hn V V]
 · rw [iO e,Sw e]
   by_cases h:s.h.length=16
   · rw [Qip (.inl h),Qip h,Qr rfl]
   · rw [Qin h,Q5 rfl]
     unfold Nu;rw [Qip e];by_cases h8:s.l.length=80
     · rw [Qip (.inr h8),Qip CT]
     · rw [Qin V,Qin CT]
 · rw [dy e,lP e,QF]
   refine QE fun t ht=>?_;by_cases h:t.r<f.regs
   · rw [Qip h,Qip h,Qr rfl]
   · rw [Qin h,Qin h,Q5 rfl];unfold Nu;rw [Qin (show¬x.op=3 by omega),Qip e,Qin CT,(XJ ht).2.1,FX]
 · rw [iP e,lQ e,QF];unfold Uy
   refine QE fun t ht=>?_;rw [QF];refine QE fun ts hts=>?_;have:=(xR hF e hg ht hts).2;by_cases h:4<(Ty.mk 3 t.r ts).depth 4
   · rw [Qip (this.2 h),Qip h,Qr rfl]
   · rw [Qin (fun hh=>h (this.1 hh)),Qin h,Q5 rfl,cv hn V V]
 · rw [bx e,Sx e,QF];refine QE fun _ _=>?_;rw [QF];refine QE fun _ _=>?_;rw [Q5 rfl,cv hn V V]
 · rw [Uz e,jk e,QF];refine QE fun _ _=>?_;rw [QF];refine QE fun u _=>?_;rw [QF];refine QE fun v _=>?_
   by_cases h:u≠v
   · rw [Qip h,Qip h,Qr rfl]
   · rw [Qin h,Qin h,Q5 rfl,su hn V V]
 · rw [bz e,We e,QF];refine QE fun _ _=>?_;rw [QF];refine QE fun _ _=>?_;rw [Q5 rfl,cv hn V V]
 · rw [bA e,Wf e,QF];refine QE fun _ _=>?_;rw [QF];refine QE fun _ _=>?_;rw [Q5 rfl,cv hn V V]
 · rw [bB e,sj e,QF];refine QE fun _ _=>?_;rw [QF];refine QE fun _ _=>?_;rw [QF];refine QE fun _ _=>?_;rw [Q5 rfl,su hn V V]
 · rw [dz e,sk e,QF];refine QE fun _ _=>?_;rw [Q5 rfl,cv hn V V]
 · rw [XK V,Wc V,Q5 rfl,cv hn V V]
 · rw [iQ e,sm e,QF];refine QE fun _ _=>?_;rw [Q5 rfl,su hn V V]
 · rw [dA e,Wg e];unfold Rh lO
   cases hgf:m.funcs[x.k.toNat]? with
   | none=>rfl
   | some g=>
     dsimp only;by_cases hr:(x.regs.length:Int)≠g.regs
     · rw [Qip hr,Qip hr];rfl
     · rw [Qin hr,Qin hr,QF];refine QE fun _ _=>?_;rw [QF];refine QE fun _ _=>?_;rw [Q5 rfl];unfold Nu;rw [Qin (show¬x.op=3 by omega),Qin (show¬x.op=4 by omega),EM]
theorem oj {s:JS}{t:Ty}{f:Fun}(hw:∀t∈s.l,t.wrong 8 s.h.length=0)(hk:∀r:Int,0≤r→r<f.regs→Kt s.h r=true)(ht:t.wrong 8 s.h.length=0)(h:LJ s t= .ok s'):
 (∀t∈s'.l,t.wrong 8 s'.h.length=0)∧(∀r:Int,0≤r→r<f.regs→Kt s'.h r=true):=by
 obtain ⟨I,M,h3⟩:=nn h;refine ⟨fun u hu=>?_,fun r=>by rw [M];exact hk r⟩;rw [h3] at hu;rw [M];rcases E8.1 hu with hu|hu
 · exact hw u hu
 · simp at hu;subst hu;exact ht
theorem Qd9 (n:Int):KC.wrong 8 n=0:=by unfold KC;exact Gk.2 ⟨V,V,by simp,by simp,V,by simp⟩
theorem xS {h:List Bool}(hr:Kt h r=true):Kt (h++[true]) r=true:=by
 obtain ⟨I,M,h3⟩:=dw hr;unfold Kt;rw [EL] at h3 ⊢;rw [EU V,h3,EO];simp;omega
theorem Qf3 {h:List Bool}{k:Int}(hr:Kt h r=true)(hk:0≤k)(hne:k≠r):Kt (h.set k.toNat false) r=true:=by
 obtain ⟨I,M,h3⟩:=dw hr;unfold Kt;rw [EL] at h3 ⊢;rw [GD V,h3,Fh];simp;omega
theorem lS {f:Fun}{s:JS}{x:Ins}(hM:m.fault.1=0)(hm:m.Short)(hg:JInv m f s)(hF:Qs m.funcs.length x=0)(h:KG m f s x= .ok s'):JInv m f s':=by
 have hG:=vG hm hg.toJGood hF h
 suffices hh:(∀t∈s'.l,t.wrong 8 s'.h.length=0)∧(∀r:Int,0≤r→r<f.regs→Kt s'.h r=true) from ⟨hG,hh.1,hh.2⟩
 have hop:=bu hF;have hw:=hg.wf;have hk:=hg.keep;rcases LB (op:=x.op) V V with e|e|e|e|e|e|e|e|e|e|e|e|e|e
 · rw [XK V] at h;exact AO
 · rw [bw e] at h;obtain ⟨_,_,h⟩:=Q8 h;obtain ⟨_,_,h⟩:=Q8 h;exact AO
 · rw [iO e] at h
   split at h
   · cases h
   · cases h
     refine ⟨fun u hu=>?_,fun r h0 I=>xS (hk r h0 I)⟩;rw [EO];rcases E8.1 hu with hu|hu
     · exact Ty.wrong_up CT u (hw u hu)
     · simp at hu;subst hu;exact Gk.2 ⟨V,V,by simp,by simp,fun _=>by simp;omega,by simp⟩
 · rw [dy e] at h
   obtain ⟨t,I,h⟩:=Q8 h;split at h
   · cases h
   · rename_i hlt;cases h;have:=hg.at I;refine ⟨fun u hu=>by rw [Fh];exact hw u hu,fun r h0 I=>Qf3 (hk r h0 I) V V⟩
 · rw [iP e] at h;unfold Uy at h
   obtain ⟨t,I,h⟩:=Q8 h;obtain ⟨ts,M,h⟩:=Q8 h;split at h
   · cases h
   · exact oj hw hk (xR hF e hg I M).1 h
 · rw [bx e] at h;obtain ⟨t,I,h9⟩:=Q8 h;obtain ⟨u,M,h8⟩:=Q8 h9;have h3:=(hg.at I).1;clear h h9;obtain ⟨k,r,l⟩:=t;exact oj hw hk ((Gk.1 h3).2.2.2.2.2 u (EK (qw M))) h8
 · rw [Uz e] at h;obtain ⟨_,_,h⟩:=Q8 h;obtain ⟨_,_,h⟩:=Q8 h;obtain ⟨_,_,h⟩:=Q8 h
   split at h
   · cases h
   · cases h;exact ⟨hw,hk⟩
 · rw [bz e] at h;obtain ⟨t,I,h⟩:=Q8 h;obtain ⟨_,_,h⟩:=Q8 h;have:=hg.at I;exact oj hw hk (Gk.2 ⟨V,V,by simp,by simp,fun _=>by omega,by simp⟩) h
 · rw [bA e] at h;obtain ⟨_,_,h⟩:=Q8 h;obtain ⟨_,_,h⟩:=Q8 h;exact AO
 · rw [bB e] at h;obtain ⟨_,_,h⟩:=Q8 h;obtain ⟨_,_,h⟩:=Q8 h;obtain ⟨_,_,h⟩:=Q8 h;cases h;exact ⟨hw,hk⟩
 · rw [dz e] at h;obtain ⟨_,_,h⟩:=Q8 h;exact AO
 · rw [XK V] at h;exact AO
 · rw [iQ e] at h;obtain ⟨_,_,h⟩:=Q8 h;cases h;exact ⟨hw,hk⟩
 · rw [dA e] at h
   unfold Rh at h;split at h
   · cases h
   · rename_i g hgf
     split at h
     · cases h
     · rename_i hrl
       obtain ⟨_,I,h⟩:=Q8 h;obtain ⟨_,_,h⟩:=Q8 h;split at h
       · cases h
       · cases h
         refine ⟨fun u hu=>?_,hk⟩;rcases E8.1 hu with hu|hu
         · exact hw u hu
         · obtain ⟨t,ht,rfl⟩:=Fq.1 hu
           have M:=Hg (kj (UE (SU hM hgf)).2.2.2.1 t ht);have hall:=kl I;rw [show g.regs=(x.regs.length:Int) by omega] at M
           obtain ⟨v,h3,h4⟩:=Ty.ren_right (n:=s.h.length) (f:=x.regs) (fun i hi=>by
            rw [EL,EI hi];exact Tf (hall _ (GW hi))) t M
           unfold MH;rw [h3];exact h4
theorem Wj {f:Fun}{s:JS}{x:Ins}(hM:m.fault.1=0)(hm:m.Short)(hg:JInv m f s):JInv m f (KK m f s x).2:=by
 by_cases h:(KK m f s x).1=0
 · obtain ⟨I,M⟩:=qq h;exact lS hM hm hg I M
 · rw [vB h];exact hg
theorem ow (hm:m.Short)(hF:m.fault.1=0){f b:Nat}{x:Fun}(hx:m.funcs[f]?=some x)(hy:x.blocks[b]?=some y):JInv m x (MI y):=by
 have I:=bF (XL hF hx hy).1;have M:=UE (SU hF hx);have hl:(MI y).h.length=y.regs.toNat:=(by unfold MI;simp only [FK];omega);refine ⟨vH hm hF hx hy,fun t ht=>?_,fun r h0 hr=>?_⟩
 · rw [hl,Fi V];exact Hg (kj I.2.2.1 t ht)
 · unfold Kt;rw [hl];unfold MI;simp only;rw [EL,GI,Qip V];simp;omega
theorem xU {h:List Bool}:∀{n:Nat},(∀i:Nat,i<n→h.getD i false=true)→Na h n=K5 n
 | 0,_=>by unfold Na K5;rfl
 | n+1,hk=>by
   rw [nk,Qip (hk n V),xU (fun i hi=>hk i V)];unfold K5;rw [Hs,E7];rfl
theorem xV {h:List Bool}{n:Nat}:∀k:Nat,∃mo,Na h (n+k)=Na h n++mo∧∀r∈mo,(n:Int)≤r
 | 0=>⟨[],by simp,by simp⟩
 | k + 1=>by
   obtain ⟨mo,I,M⟩:=xV (h:=h) (n:=n) k;refine ⟨mo++(if h.getD (n+k) false=true then [((n+k:Nat):Int)] else []),?_,fun r hr=>?_⟩
   · rw [show n+(k+1)=n+k+1 by omega,nk,I,Gm]
   · rcases E8.1 hr with hr|hr
     · exact M r hr
     · split at hr
       · simp at hr;omega
       · cases hr
theorem sx {f:Fun}{s:JS}(hg:JInv m f s)(hf:0≤f.regs):(f.regs<(L4 s.h).length↔∃r∈L4 s.h,f.regs≤r):=by
 have hle:f.regs≤s.h.length:=by
  by_cases h:f.regs=0
  · omega
  · have:=Tf (hg.keep (f.regs - 1) V V);omega
 have I:Na s.h f.regs.toNat=K5 f.regs.toNat:=xU fun i hi=>(dw (hg.keep i V V)).2.2;obtain ⟨mo,M,h3⟩:=xV (h:=s.h) (n:=f.regs.toNat) (s.h.length - f.regs.toNat);rw [show f.regs.toNat+(s.h.length - f.regs.toNat)=s.h.length by omega,I] at M;have hul:(K5 f.regs.toNat).length=f.regs.toNat:=(by unfold K5;simp);unfold L4;rw [M,EO,hul];constructor
 · intro h
   cases mo with
   | nil=>simp at h;omega
   | cons r mo=>exact ⟨r,by simp,by have:=h3 r Js;omega⟩
 · rintro ⟨r,hr,h⟩
   rcases E8.1 hr with hr|hr
   · unfold K5 at hr;obtain ⟨i,hi,rfl⟩:=Fq.1 hr;have:=Fx.1 hi;simp only [Int.ofNat_eq_natCast] at h;omega
   · have:0<mo.length:=Hf hr;omega
theorem fF (m:Module)(f:Fun)(s:JS)(x:Ins):NZ (KY m f s x):=by
 unfold KY lO
 repeat' (first|exact .o _|exact .e Jd|refine .bind (UC _ _ _) fun _ _=>?_|refine .bind (dF _ _ _) fun _ _=>?_|refine .bind (vA _ _) fun _ _=>?_|refine .bind (kh _ _) fun _ _=>?_|refine .bind (qp _ _) fun _ _=>?_|refine .bind (qo _ _ _) fun _ _=>?_|refine .bind (dG _ _ _ _) fun _ _=>?_|refine .ite ?_ ?_|split)
section
variable {m:Module}{f:Fun}{s:JS}{x:Ins}{ts:List Ty}
theorem fH (h:Qs m.funcs.length x≠0):KK m f s x=(Qs m.funcs.length x,s):=by unfold KK;rw [Qip h]
theorem lT (hF:Qs m.funcs.length x=0)(hg:JInv m f s):KK m f s x=match Ke (KY m f s x) (Nu s x) with
 | .error c=>(c,s)
 | .ok s'=>(0,s'):=by
 unfold KK;rw [Qin (fun h=>h hF),Wi hF hg];all_goals (cases Ke (KY m f s x) (Nu s x)<;>rfl)
theorem fI (hF:Qs m.funcs.length x=0)(hg:JInv m f s)(h:QI (KY m f s x)≠0):KK m f s x=(QI (KY m f s x),s):=by
 rw [lT hF hg,Qr (ou h)]
theorem fJ (hF:Qs m.funcs.length x=0)(hg:JInv m f s)(h:KY m f s x= .ok ts)(hl:80<s.l.length+ts.length):KK m f s x=(2,s):=by
 rw [lT hF hg,Q5 h];unfold Nu;rw [Qip hl]
theorem ZS (hF:Qs m.funcs.length x=0)(hg:JInv m f s)(h:KY m f s x= .ok ts)(hl:¬80<s.l.length+ts.length)(h3:x.op=3):KK m f s x=(0,⟨s.h++[true],s.l++ts⟩):=by
 rw [lT hF hg,Q5 h];unfold Nu;rw [Qin hl,Qip h3]
theorem ZT (hF:Qs m.funcs.length x=0)(hg:JInv m f s)(h:KY m f s x= .ok ts)(hl:¬80<s.l.length+ts.length)(h4:x.op=4){t:Ty}(ht:s.l[x.a.toNat]?=some t):KK m f s x=(0,⟨s.h.set t.r.toNat false,s.l++ts⟩):=by
 rw [lT hF hg,Q5 h];unfold Nu;rw [Qin hl,Qin (show¬x.op=3 by omega),Qip h4,ht]
theorem fL (hF:Qs m.funcs.length x=0)(hg:JInv m f s)(h:KY m f s x= .ok ts)(hl:¬80<s.l.length+ts.length)(h3:x.op≠3)(h4:x.op≠4):KK m f s x=(0,⟨s.h,s.l++ts⟩):=by
 rw [lT hF hg,Q5 h];unfold Nu;rw [Qin hl,Qin h3,Qin h4]
theorem ZU (h:KY m f s x= .ok ts)(h3:x.op=3):s.h.length≠16:=by
 rw [Sw h3] at h;split at h
 · cases h
 · assumption
theorem ZV (h:KY m f s x= .ok ts)(h4:x.op=4):∃t,0≤x.a∧x.a<s.l.length∧s.l[x.a.toNat]?=some t∧0≤t.r∧t.r<s.h.length:=by
 rw [lP h4] at h;obtain ⟨t,I,_⟩:=Q8 h;obtain ⟨M,h3,h5,h6⟩:=XJ I;have:=(EJ.1 h3).1;have:=Tf h6;exact ⟨t,M,V,h3,this.1,this.2⟩
end
theorem fM {f:Fun}{s:JS}(h:Np f.blocks.length e≠0):Mc f s e=Np f.blocks.length e:=by unfold Mc;rw [Qip h]
theorem fO {f:Fun}{s:JS}(h:Np f.blocks.length e=0):Mc f s e=QI (Ml f s e):=by
 unfold Mc QI;rw [Qin (fun hn=>hn h)];cases Ml f s e<;>rfl
theorem Wk {f:Nat}{x:Fun}(hF:m.fault.1=0)(hx:m.funcs[f]?=some x):∀b∈x.blocks,x.regs≤b.regs:=by
 intro b hb;obtain ⟨k,hk⟩:=FL.1 hb;exact (bF (XL hF hx hk).1).1
def QU (m:Module)(f:Fun)(fi bi:Nat)(e:Tail):Nat→JS→List Ins→Mj
 | _,s,[]=>K2 (Mc f s e) (PW fi bi)
 | i,s,x::l=>if (KK m f s x).1≠0 then ((KK m f s x).1,PX fi bi i) else QU m f fi bi e (i+1) (KK m f s x).2 l
def QB (m:Module)(f:Fun)(fi:Nat):Nat→List Block→Mj
 | _,[]=>(0,0)
 | b,y::l=>KP (QU m f fi b y.fin 0 (MI y) y.code) (QB m f fi (b+1) l)
def OR (m:Module):Nat→List Fun→Mj
 | _,[]=>(0,0)
 | f,x::l=>KP (QB m x f 0 x.blocks) (OR m (f+1) l)
def Module.runs (m:Module):Mj:=KP m.fault (OR m 0 m.funcs)
theorem sy {m:Module}{f:Fun}{fi bi:Nat}{e:Tail}:∀{l:List Ins}{i:Nat}{s:JS},(QU m f fi bi e i s l).1=0→QU m f fi bi e i s l=(0,0)
 | [],_,_,h=>by rw [QU] at h ⊢;exact SP _ _ h
 | x::l,i,s,h=>by
   rw [QU] at h ⊢;split at h
   · rename_i hn;exact absurd h hn
   · rename_i hn;rw [Qin hn];exact sy h
theorem ox {m:Module}{f:Fun}{fi:Nat}:∀{l:List Block}{b:Nat},(QB m f fi b l).1=0→QB m f fi b l=(0,0)
 | [],_,_=>by rw [QB]
 | x::l,b,h=>by rw [QB] at h ⊢;exact XG sy ox h
theorem sA {m:Module}:∀{l:List Fun}{f:Nat},(OR m f l).1=0→OR m f l=(0,0)
 | [],_,_=>by rw [OR]
 | x::l,b,h=>by rw [OR] at h ⊢;exact XG ox sA h
section
variable {m:Module}{f:Fun}{fi bi i b:Nat}{e:Tail}{s:JS}{x:Ins}{l:List Ins}{y:Block}{k:List Block}
theorem sB (h:(KK m f s x).1=0):QU m f fi bi e i s (x::l)=QU m f fi bi e (i+1) (KK m f s x).2 l:=by rw [QU,Qin (fun hn=>hn h)]
theorem sC (h:(KK m f s x).1≠0):QU m f fi bi e i s (x::l)=((KK m f s x).1,PX fi bi i):=by rw [QU,Qip h]
theorem QaB (h:(QU m f fi b y.fin 0 (MI y) y.code).1=0):QB m f fi b (y::k)=QB m f fi (b+1) k:=by
 rw [QB,sy h];exact OX ox
theorem QaA (h:(QU m f fi b y.fin 0 (MI y) y.code).1≠0):QB m f fi b (y::k)=QU m f fi b y.fin 0 (MI y) y.code:=by
 rw [QB,R4 h]
theorem QdE {k:List Fun}(h:(QB m f fi 0 f.blocks).1=0):OR m fi (f::k)=OR m (fi+1) k:=by
 rw [OR,ox h];exact OX sA
theorem QdD {k:List Fun}(h:(QB m f fi 0 f.blocks).1≠0):OR m fi (f::k)=QB m f fi 0 f.blocks:=by
 rw [OR,R4 h]
theorem sD (h:l.length≤i):QU m f fi bi e i s (l.drop i)=K2 (Mc f s e) (PW fi bi):=by rw [ES h,QU]
theorem sE {E0q:Mj}(hd:m.runs=OR m q (m.funcs.drop q))(hf:m.funcs[q]?=some f)(hdb:QB m f q 0 f.blocks=QB m f q b (f.blocks.drop b))(hy:f.blocks[b]?=some y)(h0:QU m f q b y.fin 0 (MI y) y.code=E0q)(hE:E0q.1≠0):m.runs=E0q:=by
 have I:QB m f q 0 f.blocks=E0q:=(by rw [hdb,Q7 hy,QaA (by rw [h0];exact hE),h0]);rw [hd,Q7 hf,QdD (by rw [I];exact hE),I]
theorem Wl (hdb:QB m f q 0 f.blocks=QB m f q b (f.blocks.drop b))(hy:f.blocks[b]?=some y)(h0:(QU m f q b y.fin 0 (MI y) y.code).1=0):QB m f q 0 f.blocks=QB m f q (b+1) (f.blocks.drop (b+1)):=by
 rw [hdb,Q7 hy,QaB h0]
theorem Wm (hd:m.runs=OR m q (m.funcs.drop q))(hf:m.funcs[q]?=some f)(hdb:QB m f q 0 f.blocks=QB m f q b (f.blocks.drop b))(hb:f.blocks.length≤b):m.runs=OR m (q+1) (m.funcs.drop (q+1)):=by
 rw [hd,Q7 hf,QdE (by rw [hdb,ES hb,QB])]
theorem Wn (hd:m.runs=OR m q (m.funcs.drop q))(hq:m.funcs.length≤q):m.runs=(0,0):=by
 rw [hd,ES hq,OR]
theorem xW (h:m.fault.1≠0):m.runs=m.fault:=by unfold Module.runs;exact R4 h
theorem xX (h:m.fault.1=0):m.runs=OR m 0 m.funcs:=by unfold Module.runs;rw [Module.fault_z h];exact OX sA
end
end
section
mutual
def Ty.rn:Ty→List Int→Ty
 | .mk k r l,f=> .mk k (if k≠1 then f.getD r.toNat 0 else r) (Tys.rn l f)
def Tys.rn:List Ty→List Int→List Ty
 | [],_=>[]
 | x::l,f=>x.rn f::Tys.rn l f
end
theorem Tys.rn_map (f:List Int):∀l:List Ty,Tys.rn l f=l.map fun t=>t.rn f
 | []=>by rw [Tys.rn];rfl
 | x::l=>by rw [Tys.rn,Tys.rn_map f l];rfl
abbrev J2:=@Tys.rn_map
theorem Ty.rn_mk (k r:Int)(l:List Ty)(f:List Int):(Ty.mk k r l).rn f= .mk k (if k≠1 then f.getD r.toNat 0 else r) (l.map fun t=>t.rn f):=by rw [Ty.rn,J2]
abbrev Hh:=@Ty.rn_mk
theorem Ty.rn_kind (t:Ty)(f:List Int):(t.rn f).kind=t.kind:=by obtain ⟨k,r,l⟩:=t;rw [Ty.rn];rfl
abbrev HF:=@Ty.rn_kind
theorem Ty.rn_r {t:Ty}(f:List Int)(h:t.kind≠1):(t.rn f).r=f.getD t.r.toNat 0:=by obtain ⟨k,r,l⟩:=t;rw [Ty.rn];exact Qip h
theorem Ty.rn_mr {k:Int}{l:List Ty}(f:List Int)(h:k≠1):((Ty.mk k r l).rn f).r=f.getD r.toNat 0:=by rw [Ty.rn];exact Qip h
theorem Ty.rn_l (t:Ty)(f:List Int):(t.rn f).l=t.l.map fun t=>t.rn f:=by obtain ⟨k,r,l⟩:=t;rw [Hh];rfl
theorem Tys.ren_map {f:List Int}:∀{l m:List Ty},(∀x∈l,∀u,x.ren f=some u→u=x.rn f)→Tys.ren l f=some m→m=l.map fun t=>t.rn f
 | [],m,_,h=>by rw [Tys.ren] at h;cases h;rfl
 | x ::l,m,hx,h=>by
   rw [Tys.ren] at h
   cases I:x.ren f with
   | none=>rw [I] at h;cases h
   | some y=>
     rw [I] at h
     cases M:Tys.ren l f with
     | none=>rw [M] at h;cases h
     | some m2=>
       rw [M] at h;cases h;rw [Ga,hx x (FR ..) y I,Tys.ren_map (fun z hz=>hx z (FA _ hz)) M]
abbrev JL:=@Tys.ren_map
theorem Ty.rn_of {f:List Int}:∀(t u:Ty),t.ren f=some u→u=t.rn f:=by
 intro t
 induction t using GS with
 | h k r l ih=>
   intro u h;rw [Ty.ren] at h;split at h
   · cases h
   · split at h
     · cases h
     · rename_i m hm;cases h;rw [Hh,JL ih hm]
theorem Ty.rn_congr {f g:List Int}{n:Int}(h:∀i:Nat,(i:Int)<n→f.getD i 0=g.getD i 0):∀t:Ty,t.wrong 8 n=0→t.rn f=t.rn g:=by
 intro t
 induction t using GS with
 | h k r l ih=>
   intro hw;obtain ⟨I,M,h3,h4,h5,h6⟩:=Gk.1 hw;rw [Hh,Hh,Gp fun x hx=>ih x hx (h6 x hx)];by_cases hk:k≠1
   · rw [Qip hk,Qip hk,h r.toNat DE]
   · rw [Qin hk,Qin hk]
abbrev JM:=@Ty.rn_congr
theorem Ty.rn_rn {f g e:List Int}{n:Int}(h:∀i:Nat,(i:Int)<n→e.getD i 0=g.getD (f.getD i 0).toNat 0):∀t:Ty,t.wrong 8 n=0→(t.rn f).rn g=t.rn e:=by
 intro t
 induction t using GS with
 | h k r l ih=>
   intro hw;obtain ⟨I,M,h3,h4,h5,h6⟩:=Gk.1 hw;rw [Hh,Hh,Hh,List.map_map];have hl:(l.map ((fun t:Ty=>t.rn g)∘fun t=>t.rn f))=l.map fun t=>t.rn e:=Gp fun x hx=>ih x hx (h6 x hx);rw [hl];by_cases hk:k≠1
   · rw [Qip hk,Qip hk,Qip hk,h r.toNat DE]
   · rw [Qin hk,Qin hk,Qin hk]
abbrev JN:=@Ty.rn_rn
abbrev Lz:=Int→Int→Option Ty
structure VT (Ψ:Lz) (v:Val) (t:Ty):Prop where
 kind:v.kind=t.kind
 reg:t.kind≠1→v.region=t.r
 thing:t.kind=3∨t.kind=4→Ψ v.region v.thing=some t
def Wo (Ψ Ψ':Lz):Prop:=∀k j t,Ψ k j=some t→Ψ' k j=some t
theorem VT.ext {Ψ Ψ':Lz}{v:Val}{t:Ty}(h:VT Ψ v t)(he:Wo Ψ Ψ'):VT Ψ' v t:=⟨h.kind,h.reg,fun hk=>he _ _ _ (h.thing hk)⟩
theorem Wo.refl (Ψ:Lz):Wo Ψ Ψ:=fun _ _ _ h=>h
abbrev Ia:=@Wo.refl
def Mz (Ψ:Lz)(l:List Val)(ts:List Ty):Prop:=l.length=ts.length∧∀(i:Nat) (v:Val) (t:Ty),l[i]?=some v→ts[i]?=some t→VT Ψ v t
theorem Mz.ext {Ψ Ψ':Lz}{ts:List Ty}(h:Mz Ψ l ts)(he:Wo Ψ Ψ'):Mz Ψ' l ts:=⟨h.1,fun i v t I M=>(h.2 i v t I M).ext he⟩
theorem Mz.nil (Ψ:Lz):Mz Ψ [] []:=⟨rfl,fun i v t h=>by simp at h⟩
abbrev Iv:=@Mz.nil
theorem Mz.get {Ψ:Lz}{ts:List Ty}(h:Mz Ψ l ts){i:Nat}{t:Ty}(ht:ts[i]?=some t):∃v,l[i]?=some v∧VT Ψ v t:=by
 have I:=(EJ.1 ht).1;have h0:i<l.length:=(by rw [h.1];exact I);have M:l[i]?=some l[i]:=EI h0;exact ⟨_,M,h.2 i _ t M ht⟩
theorem Mz.app {Ψ:Lz}{ts ts2:List Ty}(h:Mz Ψ l ts)(M:Mz Ψ l2 ts2):Mz Ψ (l++l2) (ts++ts2):=by
 refine ⟨by rw [EO,EO,h.1,M.1],fun i v t hv ht=>?_⟩;by_cases hi:i<l.length
 · rw [EU hi] at hv;rw [EU (by rw [←h.1];exact hi)] at ht;exact h.2 i v t hv ht
 · rw [ER V] at hv;rw [ER (by rw [←h.1];omega),←h.1] at ht;exact M.2 _ v t hv ht
abbrev J7:=@Mz.app
theorem Mz.one {Ψ:Lz}{v:Val}{t:Ty}(h:VT Ψ v t):Mz Ψ [v] [t]:=by
 refine ⟨rfl,fun i v' t' hv ht=>?_⟩
 cases i with
 | zero=>simp at hv ht;subst hv ht;exact h
 | succ i=>simp at hv
abbrev Iw:=@Mz.one
theorem Mz.cons {Ψ:Lz}{v:Val}{t:Ty}{l:List Val}{ts:List Ty}(h:VT Ψ v t)(M:Mz Ψ l ts):Mz Ψ (v::l) (t::ts):=J7 (Iw h) M
theorem Mz.set {Ψ:Lz}{ts:List Ty}(h:Mz Ψ l ts){k:Nat}{v:Val}{t:Ty}(ht:ts[k]?=some t)(hv:VT Ψ v t):Mz Ψ (l.set k v) ts:=by
 refine ⟨by rw [Fh];exact h.1,fun i u w hu hw=>?_⟩;rw [Gb] at hu;split at hu
 · rename_i hk
   subst hk;split at hu
   · cases hu;rw [ht] at hw;cases hw;exact hv
   · cases hu
 · exact h.2 i u w hu hw
def Nv (Ψ:Lz)(x:Thg)(t:Ty):Prop:=x.array=decide (t.kind=4)∧(t.kind=3→Mz Ψ x.l t.l)∧(t.kind=4→x.l.length≤15∧∀v∈x.l,v.kind=1)
theorem Nv.ext {Ψ Ψ':Lz}{x:Thg}{t:Ty}(h:Nv Ψ x t)(he:Wo Ψ Ψ'):Nv Ψ' x t:=⟨h.1,fun hk=>(h.2.1 hk).ext he,h.2.2⟩
theorem Nv.tup {Ψ:Lz}{t:Ty}(hk:t.kind=3)(h:Mz Ψ l t.l):Nv Ψ ⟨false,l⟩ t:=by
 refine ⟨?_,fun _=>h,fun h4=>?_⟩
 · rw [hk];rfl
 · rw [hk] at h4;cases h4
theorem Nv.arr {Ψ:Lz}{t:Ty}(hk:t.kind=4)(hl:l.length≤15)(h:∀v∈l,v.kind=1):Nv Ψ ⟨true,l⟩ t:=by
 refine ⟨?_,fun h3=>?_,fun _=>⟨hl,h⟩⟩
 · rw [hk];rfl
 · rw [hk] at h3;cases h3
structure HTy (Ψ:Lz) (h:HpS):Prop where
 dom:∀k j t,Ψ k j=some t→0≤k∧k<h.l.length∧t.r=k∧(t.kind=3∨t.kind=4)
 here:∀k j t,Ψ k j=some t→h.has k=true→0≤j∧j<(h.reg k).l.length∧Nv Ψ (h.thg k.toNat j.toNat) t
section
variable {Ψ Ψ':Lz}{h:HpS}{v x:Val}{t u:Ty}{k j:Int}
theorem oy {l:List Rgn}(k:Int):(⟨l,left⟩:HpS).reg k=if 0≤k then l.getD k.toNat Rgn.none else Rgn.none:=rfl
theorem RV (hh:h.has k=true):0≤k∧k<h.l.length∧h.l[k.toNat]?=some (h.reg k)∧(h.reg k).there=true:=by
 have hh':=hh;unfold HpS.has HpS.reg at hh;split at hh
 · rename_i h0
   rw [EL] at hh
   cases hk:h.l[k.toNat]? with
   | none=>rw [hk] at hh;cases hh
   | some r=>
     have hlt:=(EJ.1 hk).1;refine ⟨h0,V,?_,hh'⟩;unfold HpS.reg;rw [Qip h0,EL,hk];rfl
 · cases hh
theorem reg_set {l:List Rgn}{left':Int}{m:Nat}{r:Rgn}(hm:m<l.length)(k:Int):(⟨l.set m r,left⟩:HpS).reg k=if k=m then r else (⟨l,left'⟩:HpS).reg k:=by
 rw [oy,oy];by_cases h0:0≤k
 · rw [Qip h0,Qip h0,EL,Gb]
   by_cases hk:k=m
   · rw [Qip hk,Qip V,Qip hm];rfl
   · rw [Qin hk,Qin V,EL]
 · rw [Qin h0,Qin h0,Qin V]
theorem oz {l:List Rgn}{a:Int}{r:Rgn}(k:Int):(⟨l++[r],a⟩:HpS).reg k=if k=l.length then r else (⟨l,a⟩:HpS).reg k:=by
 rw [oy,oy];by_cases h0:0≤k
 · rw [Qip h0,Qip h0,EL,EL]
   by_cases hk:k=l.length
   · rw [Qip hk,ER V,show k.toNat - l.length=0 by omega];rfl
   · rw [Qin hk]
     by_cases hl:k<l.length
     · rw [EU V]
     · rw [Fe (by rw [EO];simp only [EY,Fc];omega),Fe V]
 · rw [Qin h0,Qin h0,Qin V]
theorem Wp (hv:VT Ψ v t)(hk:t.kind=2)(hh:h.has t.r=true):h.can v=true:=by
 unfold HpS.can;rw [hv.kind,hk,hv.reg V,hh];rfl
theorem jm (hH:HTy Ψ h)(hv:VT Ψ v t)(hk:t.kind=3∨t.kind=4)(hh:h.has t.r=true):h.at_ v=some (v.region.toNat,v.thing.toNat)∧v.region=t.r∧0≤v.thing∧v.thing<(h.reg t.r).l.length∧Nv Ψ (h.thg v.region.toNat v.thing.toNat) t:=by
 have hr:=hv.reg V;have hp:=hv.thing hk;obtain ⟨I,M,h3⟩:=hH.here _ _ _ hp (by rw [hr];exact hh);refine ⟨?_,hr,I,by rw [←hr];exact M,h3⟩;unfold HpS.at_;rw [Qip];exact ⟨by rw [hv.kind];exact hk,by rw [hr];exact hh,I,M,by rw [h3.1,hv.kind]⟩
theorem fP (hH:HTy Ψ h)(hv:VT Ψ v t)(hk:t.kind=3)(hh:h.has t.r=true){i:Int}(h0:0≤i)(hu:t.l[i.toNat]?=some u):(h.get v i).2=0∧VT Ψ (h.get v i).1 u:=by
 obtain ⟨I,M,h3,h4,h5⟩:=jm hH hv (.inl hk) hh;obtain ⟨y,h6,h7⟩:=(h5.2.1 hk).get hu;have h8:=(EJ.1 h6).1;unfold HpS.get;rw [I];dsimp only;rw [Qip ⟨h0,V⟩];refine ⟨rfl,?_⟩;dsimp only;rw [EL,h6];exact h7
theorem ZW (hH:HTy Ψ h)(hv:VT Ψ v t)(hk:t.kind=4)(hh:h.has t.r=true)(i:Int):(h.get v i).2=1∨((h.get v i).2=0∧(h.get v i).1.kind=1):=by
 obtain ⟨I,M,h3,h4,h5⟩:=jm hH hv (.inr hk) hh;unfold HpS.get;rw [I];dsimp only;by_cases hi:0≤i∧i<(h.thg v.region.toNat v.thing.toNat).l.length
 · rw [Qip hi];refine .inr ⟨rfl,?_⟩;have h6:(h.thg v.region.toNat v.thing.toNat).l[i.toNat]?=some (h.thg v.region.toNat v.thing.toNat).l[i.toNat]:=EI V;dsimp only;rw [EL,h6];exact (h5.2.2 hk).2 _ (EK h6)
 · rw [Qin hi];exact .inl rfl
theorem fQ (hH:HTy Ψ h)(hv:VT Ψ v t)(hk:t.kind=4)(hh:h.has t.r=true):(h.len v).2=0:=by
 obtain ⟨I,_⟩:=jm hH hv (.inr hk) hh;unfold HpS.len;rw [I]
theorem Wq (hH:HTy Ψ h):HTy Ψ h.open:=by
 by_cases hf:h.full=true
 · have e:h.open=h:=(by unfold HpS.open;rw [Qip hf]);rw [e];exact hH
 · have e:h.open=⟨h.l++[⟨true,[],0,0⟩],h.left⟩:=by unfold HpS.open;rw [Qin hf]
   rw [e];refine ⟨fun k j t hp=>?_,fun k j t hp hh=>?_⟩
   · obtain ⟨I,M,h3⟩:=hH.dom k j t hp;exact ⟨I,by rw [EO];simp only [EY,Fc];omega,h3⟩
   · obtain ⟨I,M,h3⟩:=hH.dom k j t hp;have hr:(⟨h.l++[⟨true,[],0,0⟩],h.left⟩:HpS).reg k=h.reg k:=(by rw [oz,Qin V]);have hr2:(⟨h.l++[⟨true,[],0,0⟩],h.left⟩:HpS).reg (k.toNat:Int)=h.reg (k.toNat:Int):=(by rw [oz,Qin V]);have hh2:h.has k=true:=(by unfold HpS.has at hh ⊢;rw [hr] at hh;exact hh);obtain ⟨h4,h5,h6⟩:=hH.here k j t hp hh2;refine ⟨h4,by rw [hr];exact h5,?_⟩;unfold HpS.thg at h6 ⊢;rw [hr2];exact h6
theorem Wr (hH:HTy Ψ h):HTy Ψ (h.shut v):=by
 cases O:h.can v with
 | false => have e:h.shut v=h:=by unfold HpS.shut;rw [O];rfl
            rw [e];exact hH
 | true=>
   have e:h.shut v=⟨h.l.set v.region.toNat Rgn.none,h.left+(h.reg v.region).pages⟩:=(by unfold HpS.shut;rw [O];rfl);unfold HpS.can at O;rw [EW] at O;obtain ⟨g0,g1,g2,g3⟩:=RV O.2;rw [e];refine ⟨fun k j t hp=>?_,fun k j t hp hh=>?_⟩
   · obtain ⟨I,M,h3⟩:=hH.dom k j t hp;exact ⟨I,by rw [Fh];exact M,h3⟩
   · obtain ⟨I,M,h3⟩:=hH.dom k j t hp
     have hr:∀q:Int,q≠v.region→(⟨h.l.set v.region.toNat Rgn.none,h.left+(h.reg v.region).pages⟩:HpS).reg q=h.reg q:=fun q hq=>by
      rw [reg_set (left':=h.left) V,Qin V]
     have hne:k≠v.region:=fun hk=>by
      unfold HpS.has at hh;rw [reg_set (left':=h.left) V,Qip V] at hh;cases hh
     have hh2:h.has k=true:=(by unfold HpS.has at hh ⊢;rw [hr k hne] at hh;exact hh);obtain ⟨h4,h5,h6⟩:=hH.here k j t hp hh2;refine ⟨h4,by rw [hr k hne];exact h5,?_⟩;unfold HpS.thg at h6 ⊢;rw [hr _ V];exact h6
def RW (Ψ:Lz)(a b:Int)(t:Ty):Lz:=fun k j=>if k=a∧j=b then some t else Ψ k j
theorem Qj1 (hH:HTy Ψ h)(hh:h.has k=true):Wo Ψ (RW Ψ k (h.reg k).l.length t):=by
 intro a b u hp;unfold RW;by_cases hab:a=k∧b=(h.reg k).l.length
 · obtain ⟨rfl,rfl⟩:=hab;have:=(hH.here _ _ _ hp hh).2.1;omega
 · rw [Qin hab];exact hp
theorem xY {n:Int}(O:h.code v n=0):h.can v=true∧h.has v.region=true:=by
 unfold HpS.code at O
 cases hx:h.can v with
 | false=>rw [hx] at O;cases O
 | true=>
   refine ⟨rfl,?_⟩;unfold HpS.can at hx;rw [EW] at hx;exact hx.2
theorem Sy (hv:VT Ψ v t)(hk:t.kind=2)(hh:h.has t.r=true)(n:Int):h.code v n=0∨h.code v n=14:=by
 unfold HpS.code;rw [Wp hv hk hh];rw [Qin Jd];split
 · exact .inr rfl
 · exact .inl rfl
theorem xZ {n:Int}{x:Thg}(hH:HTy Ψ h)(O:h.code v n=0)(hr:t.r=v.region)(hk:t.kind=3∨t.kind=4)(hx:Nv Ψ x t):
 HTy (RW Ψ v.region (h.reg v.region).l.length t) (h.put v n x)∧Wo Ψ (RW Ψ v.region (h.reg v.region).l.length t)∧(∀q,(h.put v n x).has q=h.has q)∧VT (RW Ψ v.region (h.reg v.region).l.length t) (h.putV v t.kind n) t:=by
 obtain ⟨_,hh⟩:=xY O;obtain ⟨g0,g1,g2,g3⟩:=RV hh;have hE:=Qj1 (t:=t) hH hh;have e:h.put v n x=⟨h.l.set v.region.toNat (((h.reg v.region).room n).push x),if (h.reg v.region).more n then h.left - 1 else h.left⟩:=by unfold HpS.put;rw [Qip O]
 have hrl:(((h.reg v.region).room n).push x).l=(h.reg v.region).l++[x]∧(((h.reg v.region).room n).push x).there=true:=by
  unfold Rgn.room Rgn.push;split<;>exact ⟨rfl,g3⟩
 have hreg:∀q:Int,(h.put v n x).reg q=if q=v.region then ((h.reg v.region).room n).push x else h.reg q:=fun q=>by
  rw [e,reg_set (left':=h.left) V,show ((v.region.toNat:Nat):Int)=v.region by omega]
 have hhas:∀q,(h.put v n x).has q=h.has q:=fun q=>by
  unfold HpS.has;rw [hreg];by_cases hq:q=v.region
  · rw [Qip hq,hq,hrl.2,g3]
  · rw [Qin hq]
 refine ⟨⟨fun k j u hp=>?_,fun k j u hp hk2=>?_⟩,hE,hhas,?_⟩
 · unfold RW at hp
   rw [show (h.put v n x).l.length=h.l.length by rw [e,Fh]];by_cases hab:k=v.region∧j=(h.reg v.region).l.length
   · rw [Qip hab] at hp;cases hp;exact ⟨V,V,V,hk⟩
   · rw [Qin hab] at hp;exact hH.dom k j u hp
 · rw [hhas] at hk2
   unfold RW at hp;by_cases hab:k=v.region∧j=(h.reg v.region).l.length
   · rw [Qip hab] at hp;cases hp;obtain ⟨rfl,rfl⟩:=hab;refine ⟨V,by rw [hreg,Qip rfl,hrl.1,EO];simp only [EY,Fc];omega,?_⟩;unfold HpS.thg;rw [hreg,Qip V,hrl.1,Fa,EL,ER (E6 _),GX];exact hx.ext hE
   · rw [Qin hab] at hp
     obtain ⟨I,M,h3⟩:=hH.here k j u hp hk2;obtain ⟨d1,d2,d3⟩:=hH.dom k j u hp;by_cases hq:k=v.region
     · subst hq;refine ⟨I,by rw [hreg,Qip rfl,hrl.1,EO];omega,?_⟩;unfold HpS.thg at h3 ⊢;rw [hreg,Qip V,hrl.1,EL,EU V,←EL];rw [show ((v.region.toNat:Nat):Int)=v.region by omega] at h3;exact h3.ext hE
     · refine ⟨I,by rw [hreg,Qin hq];exact M,?_⟩;unfold HpS.thg at h3 ⊢;rw [hreg,Qin V];exact h3.ext hE
 · have ep:h.putV v t.kind n=⟨t.kind,v.region,(h.reg v.region).l.length,0⟩:=(by unfold HpS.putV;rw [Qip O]);rw [ep];exact ⟨rfl,fun _=>hr.symm,fun _=>Qip ⟨rfl,rfl⟩⟩
theorem ya {i:Int}{y:Val}(hH:HTy Ψ h)(hv:VT Ψ v t)(hk:t.kind=3∨t.kind=4)(hh:h.has t.r=true)(hy3:t.kind=3→∀u,t.l[i.toNat]?=some u→VT Ψ y u)(hy4:t.kind=4→y.kind=1):
 HTy Ψ (h.set v i y)∧(∀q,(h.set v i y).has q=h.has q):=by
 obtain ⟨I,M,h3,h4,h5⟩:=jm hH hv hk hh;unfold HpS.set;rw [I];dsimp only;split
 · rename_i O
   obtain ⟨g0,g1,g2,g3⟩:=RV hh;rw [←M] at g0 g1 g2 g3 hh h4
   have hin:0≤i∧i<(h.thg v.region.toNat v.thing.toNat).l.length:=by
    unfold HpS.setC at O;rw [I] at O;dsimp only at O;split at O
    · cases O
    · split at O
      · assumption
      · cases O
   have hrr:h.reg ((v.region.toNat:Nat):Int)=h.reg v.region:=by rw [show ((v.region.toNat:Nat):Int)=v.region by omega]
   have hreg:∀q:Int,(⟨h.l.set v.region.toNat ((h.reg v.region.toNat).upd v.thing.toNat ((h.thg v.region.toNat v.thing.toNat).upd i.toNat y)),h.left⟩:HpS).reg q=if q=v.region then (h.reg v.region).upd v.thing.toNat ((h.thg v.region.toNat v.thing.toNat).upd i.toNat y) else h.reg q:=fun q=>by
    rw [reg_set (left':=h.left) V,hrr,show ((v.region.toNat:Nat):Int)=v.region by omega]
   have hhas:∀q,(⟨h.l.set v.region.toNat ((h.reg v.region.toNat).upd v.thing.toNat ((h.thg v.region.toNat v.thing.toNat).upd i.toNat y)),h.left⟩:HpS).has q=h.has q:=fun q=>by
    unfold HpS.has;rw [hreg];by_cases hq:q=v.region
    · rw [Qip hq,hq];rfl
    · rw [Qin hq]
   have hlen:(⟨h.l.set v.region.toNat ((h.reg v.region.toNat).upd v.thing.toNat ((h.thg v.region.toNat v.thing.toNat).upd i.toNat y)),h.left⟩:HpS).l.length=h.l.length:=Fh;generalize (⟨h.l.set v.region.toNat ((h.reg v.region.toNat).upd v.thing.toNat ((h.thg v.region.toNat v.thing.toNat).upd i.toNat y)),h.left⟩:HpS)=H at hreg hhas hlen ⊢;refine ⟨⟨fun k j u hp=>?_,fun k j u hp hk2=>?_⟩,hhas⟩
   · obtain ⟨d1,d2,d3⟩:=hH.dom k j u hp;exact ⟨d1,by rw [hlen];exact d2,d3⟩
   · rw [hhas] at hk2
     obtain ⟨e1,e2,e3⟩:=hH.here k j u hp hk2;obtain ⟨d1,d2,d3⟩:=hH.dom k j u hp;by_cases hq:k=v.region
     · subst hq
       refine ⟨e1,by rw [hreg,Qip rfl];show j<((h.reg v.region).l.set _ _).length;rw [Fh];exact e2,?_⟩;unfold HpS.thg;rw [hreg,Qip V];show Nv Ψ (((h.reg v.region).l.set v.thing.toNat _).getD j.toNat _) u;rw [EL,Gb];by_cases hj:v.thing.toNat=j.toNat
       · rw [Qip hj,Qip V]
         have hjv:j=v.thing:=CP;subst hjv;have hu:u=t:=(by have:=hv.thing hk;rw [hp] at this;cases this;rfl);subst hu;refine ⟨h5.1,fun h3'=>?_,fun h4'=>?_⟩
         · show Mz Ψ ((h.thg v.region.toNat v.thing.toNat).l.set i.toNat y) u.l;have h6:=h5.2.1 h3';have h0':i.toNat<u.l.length:=(by rw [←h6.1];omega);have h7:u.l[i.toNat]?=some u.l[i.toNat]:=EI h0';exact h6.set h7 (hy3 h3' _ h7)
         · refine ⟨by show ((h.thg v.region.toNat v.thing.toNat).l.set i.toNat y).length≤15;rw [Fh];exact (h5.2.2 h4').1,fun z hz=>?_⟩
           rcases Li hz with rfl|hz
           · exact hy4 h4'
           · exact (h5.2.2 h4').2 z hz
       · rw [Qin hj];unfold HpS.thg at e3;rw [hrr,EL] at e3;exact e3
     · refine ⟨e1,by rw [hreg,Qin hq];exact e2,?_⟩;unfold HpS.thg at e3 ⊢;rw [hreg,Qin V];exact e3
 · exact ⟨hH,fun _=>rfl⟩
theorem ZX (hH:HTy Ψ h)(hv:VT Ψ v t)(hk:t.kind=3)(hh:h.has t.r=true){i:Int}(h0:0≤i)(hu:t.l[i.toNat]?=some u)(y:Val):h.setC v i y=0:=by
 obtain ⟨I,M,h3,h4,h5⟩:=jm hH hv (.inl hk) hh;obtain ⟨z,h6,h7⟩:=(h5.2.1 hk).get hu;have h8:=(EJ.1 h6).1;unfold HpS.setC;rw [I];dsimp only;rw [Qin (by rw [h5.1,hk];simp),Qip ⟨h0,V⟩]
theorem Ws (hH:HTy Ψ h)(hv:VT Ψ v t)(hk:t.kind=4)(hh:h.has t.r=true)(i:Int){y:Val}(hy:y.kind=1):h.setC v i y=0∨h.setC v i y=1:=by
 obtain ⟨I,M,h3,h4,h5⟩:=jm hH hv (.inr hk) hh;unfold HpS.setC;rw [I];dsimp only;rw [Qin (by rw [hy];simp)];split
 · exact .inl rfl
 · exact .inr rfl
end
end
end Go.Lir
namespace Go.Proofs.YteflkifmgnpbhaaGreat
open Go.Lir
structure RMap where
 σ:Nat→Nat
 a:Nat→Nat→Int
def Nw (φ:RMap)(h:HpS)(v:Val)(n:Int):Prop:=
 (v.kind=1→n=v.n)∧(v.kind≠1→0≤v.region∧v.region<h.l.length)∧(v.kind=2→h.has v.region=true→n=φ.σ v.region.toNat)∧
 (v.kind=3∨v.kind=4→h.has v.region=true→0≤v.thing∧v.thing<(h.reg v.region).l.length∧n=φ.a v.region.toNat v.thing.toNat)
def LX (φ:RMap)(h:HpS)(l:List Val)(ns:List Int):Prop:=l.length=ns.length∧∀(i:Nat) (v:Val) (n:Int),l[i]?=some v→ns[i]?=some n→Nw φ h v n
end Go.Proofs.YteflkifmgnpbhaaGreat
namespace Go.Lir
def Thg.off (t:Thg):Int:=if t.array=true then 1 else 0
def Thg.size (t:Thg):Int:=if t.array=true then 1+t.l.length else LN t.l
end Go.Lir
namespace Go.Proofs.YteflkifmgnpbhaaGreat
open Go.Lir
section
def Tg (φ:RMap)(h:HpS)(e:EstS)(A:Int)(t:Thg):Prop:=(t.array=true→e.word A=t.l.length)∧∀(i:Nat) (v:Val),t.l[i]?=some v→Nw φ h v (e.word (A+t.off+i))
def PL (h:HpS)(r t:Nat)(x:Thg):Prop:=h.has r=true∧(h.reg r).l[t]?=some x
structure WHR (φ:RMap) (h:HpS) (e:EstS):Prop where
 ok:e.Ok
 left:h.left=e.p.fr.length
 cnt:e.count=h.live
 live:∀r:Nat,h.has r=true→φ.σ r<16∧(e.reg (φ.σ r)).there=true∧((e.reg (φ.σ r)).pages.length:Int)=(h.reg r).pages∧(e.reg (φ.σ r)).used=(h.reg r).used
 inj:∀r q:Nat,h.has r=true→h.has q=true→φ.σ r=φ.σ q→r=q
 z:∀k:Nat,k<16→(e.reg k).pages≠[]→∀j:Int,(e.reg k).used≤j→j<16→e.p.word ((e.reg k).last*16+j)=0
 at_:∀(r t:Nat) (x:Thg),PL h r t x→∃q,q∈(e.reg (φ.σ r)).pages∧q*16≤φ.a r t∧φ.a r t+x.size≤q*16+(e.reg (φ.σ r)).lim q
 apart:∀(r t:Nat) (x:Thg) (r' t':Nat) (x':Thg),PL h r t x→PL h r' t' x'→¬(r=r'∧t=t')→φ.a r t+x.size≤φ.a r' t'∨φ.a r' t'+x'.size≤φ.a r t
 lies:∀(r t:Nat) (x:Thg),PL h r t x→Tg φ h e (φ.a r t) x
def MF (φ:RMap)(h:HpS)(φ':RMap)(h':HpS):Prop:=∀v n,Nw φ h v n→Nw φ' h' v n
theorem MF.refl (φ:RMap)(h:HpS):MF φ h φ h:=fun _ _ h=>h
theorem MF.vrs {φ φ':RMap}{h:HpS}(hM:MF φ h φ' h')(hv:LX φ h l ns):LX φ' h' l ns:=⟨hv.1,fun i v n I M=>hM _ _ (hv.2 i v n I M)⟩
theorem MF.lies {φ φ':RMap}{h:HpS}(hM:MF φ h φ' h'){e:EstS}{A:Int}(hw:∀i,A≤i→i<A+t.size→e'.word i=e.word i)(hl:Tg φ h e A t):Tg φ' h' e' A t:=by
 refine ⟨fun ha=>?_,fun i v hv=>?_⟩
 · rw [hw A (IG _) (by unfold Thg.size;rw [Qip ha];omega)];exact hl.1 ha
 · have hi:=(EJ.1 hv).1;rw [hw _ (by unfold Thg.off;split<;>omega) Dz];exact hM _ _ (hl.2 i v hv)
theorem LX.nil (φ:RMap)(h:HpS):LX φ h [] []:=⟨rfl,fun i v n I=>by simp at I⟩
theorem LX.app {φ:RMap}{h:HpS}{ns2:List Int}(I:LX φ h l ns)(M:LX φ h l2 ns2):LX φ h (l++l2) (ns++ns2):=by
 have e:=I.1;refine ⟨by rw [EO,EO,I.1,M.1],fun i v n hv hn=>?_⟩;by_cases hi:i<l.length
 · rw [EU hi] at hv;rw [EU V] at hn;exact I.2 i v n hv hn
 · rw [ER V] at hv;rw [ER V,←e] at hn;exact M.2 _ v n hv hn
theorem LX.one {φ:RMap}{h:HpS}{v:Val}{n:Int}(hv:Nw φ h v n):LX φ h [v] [n]:=⟨rfl,fun i v' n' I M=>by
 cases i with
 | zero=>simp at I M;subst I;subst M;exact hv
 | succ i=>simp at I⟩
abbrev Hr:=@LX.one
theorem LX.cons {φ:RMap}{h:HpS}{v:Val}{n:Int}{l:List Val}{ns:List Int}(hv:Nw φ h v n)(M:LX φ h l ns):LX φ h (v::l) (n::ns):=(Hr hv).app M
theorem LX.get {φ:RMap}{h:HpS}(hl:LX φ h l ns){i:Nat}{v:Val}(hv:l[i]?=some v):∃n,ns[i]?=some n∧Nw φ h v n:=by
 have hi:=(EJ.1 hv).1;exact ⟨ns[i]'(by have:=hl.1;omega),EI _,hl.2 i v _ hv (EI _)⟩
theorem Nw.int (φ:RMap)(h:HpS)(n:Int):Nw φ h (KE n) n:=⟨fun _=>rfl,fun h=>absurd rfl h,fun h=>(by cases h),fun h=>(by rcases h with h|h<;>cases h)⟩
abbrev Ix:=@Nw.int
variable {φ:RMap}{h:HpS}{e:EstS}{v:Val}{n:Int}
theorem WHR.slot (_:WHR φ h e)(hv:Nw φ h v n)(O:h.can v=true):∃r:Nat,v.region=r∧h.has r=true∧n=φ.σ r∧r<h.l.length:=by
 unfold HpS.can at O;rw [EW,decide_eq_true_iff] at O;have I:=hv.2.1 V;refine ⟨v.region.toNat,V,by rw [Fi I.1];exact O.2,hv.2.2.1 O.1 O.2,V⟩
theorem sF {p:α→Bool}{l:List α}{k:Nat}{r r':α}(hr:l[k]?=some r):(l.set k r').countP p+(if p r then 1 else 0)=l.countP p+if p r' then 1 else 0:=by
 have I:=(kI hr).countP_eq p;have M:=(nO (x:=r') (EJ.1 hr).1).countP_eq p;rw [List.countP_cons] at I M;rw [I,M];omega
theorem yb (ok:e.Ok):e.low<16↔e.count≠16:=by
 have hl:=ok.len;constructor
 · intro h O;have I:=F9 ok h;have M:=Iu ok h;have hall:∀r∈e.rs,r.there=true:=(Jx (p:=fun r:Reg=>r.there)).1 (by have h9:(List.countP (fun r:Reg=>r.there) e.rs:Int)=16:=O;rw [hl];omega);have:=hall _ (EK I);rw [M] at this;cases this
 · intro O
   by_cases h:e.low<16
   · exact h
   · exfalso;have hle:=EstS.low_le ok;have h3:e.low=e.rs.length:=CP;have h4:=I9.1 h3;refine O ?_;unfold EstS.count;rw [Jx.2 fun r hr=>by have:=h4 r hr;simpa using this];omega
theorem WHR.full (H:WHR φ h e):h.full=true↔e.openV<0:=by
 have I:=yb H.ok;have M:=H.cnt;unfold HpS.full EstS.openV;rw [decide_eq_true_iff];constructor
 · intro hf;rw [Qin V];omega
 · intro hn
   split at hn
   · omega
   · rename_i hl;by_cases hf:h.live=16
     · exact hf
     · exact absurd (I.2 V) hl
theorem jn (hf:h.full=false)(r:Int):h.open=⟨h.l++[⟨true,[],0,0⟩],h.left⟩∧h.openV=⟨2,h.l.length,0,0⟩∧h.open.reg r=if r=h.l.length then ⟨true,[],0,0⟩ else h.reg r:=by
 have e1:h.open=⟨h.l++[⟨true,[],0,0⟩],h.left⟩:=Di;refine ⟨e1,by unfold HpS.openV;rw [hf];rfl,?_⟩;rw [e1,oz]
theorem lU (hr:h.has r=true):0≤r∧r<h.l.length:=⟨(RV hr).1,(RV hr).2.1⟩
theorem WHR.open (H:WHR φ h e)(hf:h.full=false):∃φ',WHR φ' h.open e.open∧MF φ h φ' h.open∧Nw φ' h.open h.openV e.openV:=by
 have hlow:e.low<16:=(yb H.ok).2 (by
  have M:=H.cnt;unfold HpS.full at hf;rw [decide_eq_false_iff_not] at hf;omega)
 have e1:=(jn hf 0).1;have e2:=(jn hf 0).2.1;have eo:e.open=⟨e.p,e.rs.set e.low ⟨true,[],0⟩⟩:=(by unfold EstS.open;rw [Qip hlow]);have ev:e.openV=e.low:=(by unfold EstS.openV;rw [Qip hlow]);have hoff:=Iu H.ok hlow;have hreg:∀k:Nat,e.open.reg k=if k=e.low then ⟨true,[],0⟩ else e.reg k:=fun k=>by rw [eo];exact jj H.ok hlow
 have hnew:h.has h.l.length=false:=by
  cases hx:h.has h.l.length with
  | false=>rfl
  | true=>have:=(lU hx).2;omega
 have hr0:∀r:Int,h.open.has r=true→r=h.l.length∨r≠h.l.length∧h.has r=true:=fun r hr=>by
  unfold HpS.has at hr ⊢;rw [(jn hf r).2.2] at hr;by_cases O:r=h.l.length
  · exact .inl O
  · rw [Qin O] at hr;exact .inr ⟨O,hr⟩
 have hne:∀r:Nat,h.has r=true→φ.σ r≠e.low:=fun r hr O=>by
  have:=(H.live r hr).2.1;rw [O,hoff] at this;cases this
 have hM:MF φ h ⟨fun r=>if r=h.l.length then e.low else φ.σ r,φ.a⟩ h.open:=fun v n hv=>by
  refine ⟨hv.1,fun hk=>?_,fun hk hh=>?_,fun hk hh=>?_⟩
  · have:=hv.2.1 hk;rw [e1];simp;omega
  · have hl:=hv.2.1 V
    rcases hr0 _ hh with O|⟨O,hh⟩
    · omega
    · show n=((if v.region.toNat=h.l.length then e.low else φ.σ v.region.toNat:Nat):Int);rw [Qin V];exact hv.2.2.1 hk hh
  · have hl:=hv.2.1 V
    rcases hr0 _ hh with O|⟨O,hh⟩
    · omega
    · have:=hv.2.2.2 hk hh;rw [(jn hf v.region).2.2,Qin O];exact this
 have hth:∀(r t:Nat) (x:Thg),PL h.open r t x→r≠h.l.length∧PL h r t x:=fun r t x ht=>by
  obtain ⟨I,M⟩:=ht;rw [(jn hf r).2.2] at M;rcases hr0 _ I with O|⟨O,hh⟩
  · rw [Qip O] at M;simp at M
  · rw [Qin O] at M;exact ⟨V,hh,M⟩
 refine ⟨⟨fun r=>if r=h.l.length then e.low else φ.σ r,φ.a⟩,⟨Jn H.ok,?_,?_,?_,?_,?_,?_,?_,?_⟩,hM,?_⟩
 · rw [e1,eo];exact H.left
 · have h3:=sF (p:=fun r:Reg=>r.there) (r':=⟨true,[],0⟩) (F9 H.ok hlow);rw [hoff] at h3;have h4:=H.cnt;unfold EstS.count HpS.live at h4 ⊢;rw [eo,e1,Hb];simp [Reg.none] at h3 ⊢;omega
 · intro r hr
   show (if r=h.l.length then e.low else φ.σ r)<16∧_;rw [show (h.open.reg r)=if (r:Int)=h.l.length then ⟨true,[],0,0⟩ else h.reg r from (jn hf r).2.2];show _∧(e.open.reg ((if r=h.l.length then e.low else φ.σ r:Nat):Int)).there=true∧((e.open.reg ((if r=h.l.length then e.low else φ.σ r:Nat):Int)).pages.length:Int)=_∧(e.open.reg ((if r=h.l.length then e.low else φ.σ r:Nat):Int)).used=_;rcases hr0 _ hr with O|⟨O,hh⟩
   · rw [Qip V,Qip O,hreg,Qip rfl];exact ⟨hlow,rfl,rfl,rfl⟩
   · rw [Qin V,Qin O,hreg,Qin (hne r hh)];exact H.live r hh
 · intro r q hr hq hs
   have hs:(if r=h.l.length then e.low else φ.σ r)=(if q=h.l.length then e.low else φ.σ q):=hs;rcases hr0 _ hr with O|⟨O,hh⟩
   · rcases hr0 _ hq with hd|⟨hd,hg⟩
     · omega
     · rw [Qip V,Qin V] at hs;exact absurd hs.symm (hne q hg)
   · rcases hr0 _ hq with hd|⟨hd,hg⟩
     · rw [Qin V,Qip V] at hs;exact absurd hs (hne r hh)
     · rw [Qin V,Qin V] at hs;exact H.inj r q hh hg hs
 · intro k hk hp j I M
   rw [hreg] at hp I ⊢;by_cases O:k=e.low
   · rw [Qip O] at hp;exact absurd rfl hp
   · rw [Qin O] at hp I ⊢;rw [eo];exact H.z k hk hp j I M
 · intro r t x hx;obtain ⟨O,hx⟩:=hth r t x hx;show∃q,q∈(e.open.reg ((if r=h.l.length then e.low else φ.σ r:Nat):Int)).pages∧_∧_≤q*16+(e.open.reg ((if r=h.l.length then e.low else φ.σ r:Nat):Int)).lim q;rw [Qin O,hreg,Qin (hne r hx.1)];exact H.at_ r t x hx
 · intro r t x r' t' x' hx hx';exact BS
 · intro r t x hx;refine hM.lies (e:=e) (fun i _ _=>?_) (H.lies r t x (hth r t x hx).2);rw [eo];rfl
 · rw [e2,ev]
   refine ⟨fun h=>(by cases h),fun _=>?_,fun _ _=>?_,fun h=>(by rcases h with h|h<;>cases h)⟩
   · rw [e1];simp;omega
   · show ((e.low:Nat):Int)=((if (h.l.length:Int).toNat=h.l.length then e.low else _:Nat):Int);rw [Qip V]
theorem sG {r:Nat}(hv:v.region=r)(O:h.can v=true)(q:Int):h.shut v=⟨h.l.set r Rgn.none,h.left+(h.reg r).pages⟩∧(h.shut v).reg q=if q=r then Rgn.none else h.reg q:=by
 have e1:h.shut v=⟨h.l.set r Rgn.none,h.left+(h.reg r).pages⟩:=(by unfold HpS.shut;rw [Qip O,hv,Fa]);refine ⟨e1,?_⟩;have hr:h.has r=true:=(by rw [←hv];unfold HpS.can at O;rw [EW] at O;exact O.2);rw [e1,Go.Lir.reg_set (left':=h.left) (by have:=(lU hr).2;omega)]
theorem WHR.shut (H:WHR φ h e)(hv:Nw φ h v n)(O:h.can v=true):WHR φ (h.shut v) (e.shut n)∧MF φ h φ (h.shut v):=by
 obtain ⟨r0,hr0,hh0,rfl,hlt0⟩:=H.slot hv O;obtain ⟨hs,hth0,hpg,hus⟩:=H.live r0 hh0;have hk:e.has (φ.σ r0)=true:=hth0;have e1:=(sG hr0 O 0).1;have eo:=I5 hk;have hreg:∀k:Nat,(e.shut (φ.σ r0)).reg k=if k=φ.σ r0 then Reg.none else e.reg k:=fun k=>by rw [eo];exact jj H.ok hs
 have hr1:∀r:Int,(h.shut v).has r=true→r≠r0∧h.has r=true:=fun r hr=>by
  unfold HpS.has at hr ⊢;rw [(sG hr0 O r).2] at hr;by_cases O:r=r0
  · rw [Qip O] at hr;cases hr
  · rw [Qin O] at hr;exact ⟨O,hr⟩
 (have hrg:∀r:Int,r≠r0→(h.shut v).reg r=h.reg r:=fun r hn=>by rw [(sG hr0 O r).2,Qin hn]);have hne:∀r:Nat,r≠r0→h.has r=true→φ.σ r≠φ.σ r0:=fun r hn hr O=>hn (H.inj r r0 hr hh0 O)
 have hM:MF φ h φ (h.shut v):=fun u m hu=>by
  refine ⟨hu.1,fun hk=>?_,fun hk hh=>hu.2.2.1 hk (hr1 _ hh).2,fun hk hh=>?_⟩
  · have:=hu.2.1 hk;rw [e1];simp only [Fh];exact this
  · obtain ⟨g1,g2⟩:=hr1 _ hh;rw [hrg _ g1];exact hu.2.2.2 hk g2
 have hth:∀(r t:Nat) (x:Thg),PL (h.shut v) r t x→r≠r0∧PL h r t x:=fun r t x ht=>by
  obtain ⟨I,M⟩:=ht;obtain ⟨g1,g2⟩:=hr1 _ I;rw [hrg _ g1] at M;exact ⟨V,g2,M⟩
 have hok:=Jp H.ok (φ.σ r0);refine ⟨⟨hok,?_,?_,?_,?_,?_,?_,?_,?_⟩,hM⟩
 · have I:=hok.tk.len hok.pok
   have M:=H.ok.tk.len H.ok.pok;have h3:=(wQ (F9 H.ok hs)).length_eq
   have h4:(e.shut (φ.σ r0)).all.length=((e.rs.eraseIdx (φ.σ r0)).flatMap Reg.pages).length:=by
    rw [eo];exact (wR (rs:=e.rs) (k:=φ.σ r0) (r':=Reg.none) (by rw [H.ok.len];exact hs)).length_eq
   have h5:(e.shut (φ.σ r0)).p.n=e.p.n:=(by rw [eo];exact I4);rw [EO] at h3;have h6:=H.left;rw [e1];show h.left+(h.reg r0).pages=_;omega
 · have h3:=sF (p:=fun r:Reg=>r.there) (r':=Reg.none) (F9 H.ok hs);have h5:=ey (r':=Rgn.none) (RV hh0).2.2.1;rw [hth0] at h3;rw [(RV hh0).2.2.2] at h5;have h4:=H.cnt;unfold EstS.count HpS.live at h4 ⊢;rw [eo,e1];simp [Reg.none,Rgn.none] at h3 h5 ⊢;omega
 · intro r hr;obtain ⟨g1,g2⟩:=hr1 _ hr;rw [hreg,Qin (hne r V g2),hrg _ g1];exact H.live r g2
 · intro r q hr hq hs;exact H.inj r q (hr1 _ hr).2 (hr1 _ hq).2 hs
 · intro k hk hp j I M
   rw [hreg] at hp I ⊢;by_cases O:k=φ.σ r0
   · rw [Qip O] at hp;exact absurd rfl hp
   · rw [Qin O] at hp I ⊢;rw [eo];show (e.p.gives _).word _=0;rw [xH];exact H.z k hk hp j I M
 · intro r t x hx;obtain ⟨O,hx⟩:=hth r t x hx;rw [hreg,Qin (hne r O hx.1)];exact H.at_ r t x hx
 · intro r t x r' t' x' hx hx';exact BS
 · intro r t x hx;refine hM.lies (e:=e) (fun i _ _=>?_) (H.lies r t x (hth r t x hx).2);rw [eo];exact xH
end
section
theorem Wu (h:s.Ok)(k x:Int):(s.store k x).Ok:=⟨h.len,h.off,h.used,h.tk.store k x,IT h.pok k x,by show (s.p.store k x).n≤64;rw [Hj];exact h.n64⟩
theorem yc {at_:Int}:∀(l:List Int) (s:EstS) (k:Nat),s.Ok→0≤at_→at_+k+l.length≤((s.p.n*16:Nat):Int)→
 (s.storesA at_ k l).Ok∧(s.storesA at_ k l).rs=s.rs∧(s.storesA at_ k l).p.n=s.p.n∧(s.storesA at_ k l).p.fr=s.p.fr∧∀i,(s.storesA at_ k l).word i=if at_+k≤i∧i<at_+k+l.length then l.getD (i - at_ - k).toNat 0 else s.word i
 | [],s,k,ok,_,_=>⟨ok,rfl,rfl,rfl,fun i=>by rw [Qin Js];rfl⟩
 | v ::l,s,k,ok,h0,I=>by
   rw [EY] at I;have hn:=ok.n64;have hw:wr (at_+k)=at_+k:=cV V V;have hin:s.p.isIn (at_+k)=true:=Mr.2 V;obtain ⟨g1,g2,g3,g4,g5⟩:=yc l (s.store (at_+k) v) (k+1) (Wu ok _ _) h0 (by show _≤(((s.p.store (at_+k) v).n*16:Nat):Int);rw [Hj];omega);rw [EstS.storesA,hw];refine ⟨g1,g2,g3.trans Hj,g4.trans HE,fun i=>?_⟩;rw [g5,EY];have hs:(s.store (at_+k) v).word i=if i=at_+k then v else s.word i:=sd ok.pok hin i
   rw [hs];by_cases hi:i=at_+k
   · rw [Qin V,Qip hi,Qip V,show (i - at_ - k).toNat=0 by omega];rfl
   · rw [Qin hi]
     by_cases hj:at_+k≤i∧i<at_+k+(l.length+1:Nat)
     · rw [Qip V,Qip hj,show (i - at_ - k).toNat=(i - at_ - (k+1:Nat)).toNat+1 by omega];rfl
     · rw [Qin V,Qin hj]
theorem Wv {at_:Int}{l:List Int}(ok:s.Ok)(h0:0≤at_)(I:at_+l.length≤((s.p.n*16:Nat):Int)):
 (s.stores at_ l).Ok∧(s.stores at_ l).rs=s.rs∧(s.stores at_ l).p.n=s.p.n∧(s.stores at_ l).p.fr=s.p.fr∧∀i,(s.stores at_ l).word i=if at_≤i∧i<at_+l.length then l.getD (i - at_).toNat 0 else s.word i:=by
 obtain ⟨g1,g2,g3,g4,g5⟩:=yc l s 0 ok h0 V;refine ⟨g1,g2,g3,g4,fun i=>?_⟩;have:=g5 i;simp only [Int.natCast_zero,Je,Int.sub_zero] at this;exact this
variable {φ:RMap}{h:HpS}{e:EstS}{v:Val}{n:Int}
theorem more_iff {h:HpS}{e:EstS}{r:Rgn}{g:Reg}(I:(g.pages.length:Int)=r.pages)(M:g.used=r.used)(x:Int):g.more x=r.more x:=by
 unfold Reg.more Rgn.more;rw [M];have:g.pages=[]↔r.pages=0:=(by rw [←I,←FO];omega);simp only [this]
theorem WHR.code (H:WHR φ h e)(hv:Nw φ h v n)(O:h.can v=true){x:Int}(hx:1≤x∧x≤16):e.code n x=h.code v x:=by
 obtain ⟨r0,hr0,hh0,rfl,hlt0⟩:=H.slot hv O;obtain ⟨hs,hth0,hpg,hus⟩:=H.live r0 hh0;have hk:e.has (φ.σ r0)=true:=hth0;have hle:(h.left=0)=(e.p.fr=[]):=propext (by rw [H.left,←FO];omega);unfold EstS.code HpS.code;rw [hk,O,hr0,more_iff (h:=h) (e:=e) hpg hus,Qin Jd,Qin V];simp only [hle];rfl
theorem oA {x:Int}(O:h.code v x≠20):h.can v=true:=by
 unfold HpS.code at O
 cases hx:h.can v with
 | true=>rfl
 | false=>rw [hx] at O;exact absurd rfl O
theorem yd (t:Thg):1≤t.size:=by unfold Thg.size LN;split<;>(try split)<;>omega
theorem Qd1 {m:Nat}{x:Int}(ok:e.Ok)(hm:m<16)(O:e.code m x=0):(e.get m x).reg m=(e.regTo m x).use x∧(e.get m x).p=(if (e.reg m).more x then e.p.take else e.p)∧(e.get m x).rs=e.rs.set m ((e.regTo m x).use x):=by
 have hrs:(e.get m x).rs=e.rs.set m ((e.regTo m x).use x):=En;refine ⟨?_,by unfold EstS.get;rw [Qip O],hrs⟩;have e1:e.get m x=⟨(e.get m x).p,e.rs.set m ((e.regTo m x).use x)⟩:=(by rw [←hrs]);rw [e1,jj ok hm,Qip rfl]
theorem WHR.addr (H:WHR φ h e){r t:Nat}{x:Thg}(ht:PL h r t x):0≤φ.a r t∧φ.a r t+x.size≤((e.p.n*16:Nat):Int)∧φ.a r t+x.size≤1024:=by
 obtain ⟨q,I,M,h3⟩:=H.at_ r t x ht;have hs:=(H.live r ht.1).1;obtain ⟨g1,g2,_⟩:=sg H.ok hs I;have:=oo H.ok hs (q:=q);have:=H.ok.n64;omega
theorem Qho {x:Int}(h0:h.code v x=0):¬((h.reg v.region).more x=true∧h.left=0):=by
 intro O;unfold HpS.code at h0;split at h0
 · cases h0
 · simp [O] at h0
theorem ye {r:Nat}{x:Int}(hv:v.region=r)(h0:h.code v x=0)(q:Int):
 h.put v x t=⟨h.l.set r (((h.reg r).room x).push t),if (h.reg r).more x then h.left - 1 else h.left⟩∧(h.put v x t).reg q=if q=r then ((h.reg r).room x).push t else h.reg q:=by
 have e1:h.put v x t=⟨h.l.set r (((h.reg r).room x).push t),if (h.reg r).more x then h.left - 1 else h.left⟩:=(by unfold HpS.put;rw [Qip h0,hv,Fa]);refine ⟨e1,?_⟩;have hr:h.has r=true:=(by rw [←hv];have O:=oA (h:=h) (v:=v) (x:=x) V;unfold HpS.can at O;rw [EW] at O;exact O.2);rw [e1,Go.Lir.reg_set (left':=h.left) (by have:=(lU hr).2;omega)]
theorem WHR.put (H:WHR φ h e)(hv:Nw φ h v n){x:Int}(hs:t.size=x)(hx:x≤16)(h0:h.code v x=0)(hkd:kd=3∨kd=4){e2:EstS}(ok2:e2.Ok)(hrs:e2.rs=(e.get n x).rs)(hfr:e2.p.fr=(e.get n x).p.fr)
 (hw:∀i,¬(e.getV n x≤i∧i<e.getV n x+x)→e2.word i=(e.get n x).word i)(hl:Tg φ h e2 (e.getV n x) t):∃φ',WHR φ' (h.put v x t) e2∧MF φ h φ' (h.put v x t)∧Nw φ' (h.put v x t) (h.putV v kd x) (e.getV n x):=by
 have hx1:1≤x:=hs ▸ yd t;have hcan:=oA (h:=h) (v:=v) (x:=x) V;have hc0:e.code n x=0:=(H.code hv hcan ⟨hx1,hx⟩).trans h0;obtain ⟨r0,hr0,hh0,rfl,hlt0⟩:=H.slot hv hcan;obtain ⟨hm,hth0,hpg,hus⟩:=H.live r0 hh0;obtain ⟨P,u,G⟩:=lK H.ok hm hc0;obtain ⟨gr1,gp1,grs⟩:=Qd1 H.ok hm hc0;have hux:=G.ux;have hmo:=more_iff (h:=h) (e:=e) hpg hus x;have e1:=(ye (t:=t) hr0 h0 0).1;have hrg:∀q:Int,(h.put v x t).reg q=if q=r0 then ((h.reg r0).room x).push t else h.reg q:=fun q=>(ye hr0 h0 q).2
 have hroom:((h.reg r0).room x).there=(h.reg r0).there∧((h.reg r0).room x).l=(h.reg r0).l:=by unfold Rgn.room;split<;>exact ⟨rfl,rfl⟩
 have hhas:∀q:Int,(h.put v x t).has q=h.has q:=fun q=>by
  unfold HpS.has;rw [hrg];by_cases hq:q=r0
  · rw [Qip hq,hq];exact hroom.1
  · rw [Qin hq]
 have hl0:((h.put v x t).reg r0).l=(h.reg r0).l++[t]:=(by rw [hrg,Qip rfl];show ((h.reg r0).room x).l++[t]=_;rw [hroom.2]);have hln:∀q:Int,q≠r0→(h.put v x t).reg q=h.reg q:=fun q hq=>by rw [hrg,Qin hq]
 have hreg:∀k:Nat,e2.reg k=if k=φ.σ r0 then (e.regTo (φ.σ r0) x).use x else e.reg k:=fun k=>by
  have:e2.reg k=(e.get (φ.σ r0) x).reg k:=(by unfold EstS.reg;rw [hrs]);rw [this];have e3:e.get (φ.σ r0) x=⟨(e.get (φ.σ r0) x).p,e.rs.set (φ.σ r0) ((e.regTo (φ.σ r0) x).use x)⟩:=(by rw [←grs]);rw [e3,jj H.ok hm]
 have hA:e.getV (φ.σ r0) x=P*16+u:=G.v;have hthere:(e.regTo (φ.σ r0) x).there=true:=by unfold EstS.regTo;split<;>exact hth0
 -- what is old lies apart, and stays
 have hold:∀(r t0:Nat) (x0:Thg),PL h r t0 x0→(φ.a r t0+x0.size≤e.getV (φ.σ r0) x∨e.getV (φ.σ r0) x+x≤φ.a r t0)∧∀i,φ.a r t0≤i→i<φ.a r t0+x0.size→e2.word i=e.word i:=fun r t0 x0 ht=>by
  obtain ⟨q,q1,q2,q3⟩:=H.at_ r t0 x0 ht;have hsr:=(H.live r ht.1).1;have hlq:=oo H.ok hsr (q:=q)
  have hap:φ.a r t0+x0.size≤e.getV (φ.σ r0) x∨e.getV (φ.σ r0) x+x≤φ.a r t0:=by
   rw [hA];by_cases hq:q=P
   · by_cases hp:P∈(e.reg (φ.σ r0)).pages
     · have:=se H.ok hsr hm q1 (by rw [hq];exact hp);obtain ⟨h6,h7⟩:=G.old hp;have h8:(e.reg (φ.σ r)).lim q=u:=(by rw [this];unfold Reg.lim;rw [Qip (hq.trans h6),h7]);left;omega
     · exact absurd q1 (by rw [hq];exact G.new hp _ hsr)
   · omega
  refine ⟨hap,fun i i1 i2=>?_⟩;rw [hw i V];show (e.get (φ.σ r0) x).p.word i=e.p.word i;by_cases hi:P*16≤i∧i<P*16+16
  · by_cases hp:P∈(e.reg (φ.σ r0)).pages
    · rw [G.wo hp]
    · have hq:q=P:=CP;exact absurd q1 (by rw [hq];exact G.new hp _ hsr)
  · exact G.w i hi
 have hth:∀(r t0:Nat) (x0:Thg),PL (h.put v x t) r t0 x0→(r=r0∧t0=(h.reg r0).l.length∧x0=t)∨(¬(r=r0∧t0=(h.reg r0).l.length)∧PL h r t0 x0):=fun r t0 x0 ht=>by
  obtain ⟨I,M⟩:=ht;rw [hhas] at I;by_cases hr:r=r0
  · subst hr
    rw [hl0] at M;by_cases h3:t0<(h.reg r).l.length
    · rw [EU h3] at M;exact .inr ⟨V,I,M⟩
    · rw [ER V] at M
      cases h4:t0 - (h.reg r).l.length with
      | zero=>rw [h4] at M;simp at M;exact .inl ⟨rfl,V,M.symm⟩
      | succ j=>rw [h4] at M;simp at M
  · rw [hln _ V] at M;exact .inr ⟨fun O=>hr O.1,I,M⟩
 have hlen:(h.put v x t).l.length=h.l.length:=by rw [e1];exact Fh
 have hM:MF φ h ⟨φ.σ,fun r j=>if r=r0∧j=(h.reg r0).l.length then e.getV (φ.σ r0) x else φ.a r j⟩ (h.put v x t):=fun w m hw=>by
  refine ⟨hw.1,fun hk=>?_,fun hk hh=>hw.2.2.1 hk Ds,fun hk hh=>?_⟩
  · rw [hlen];exact hw.2.1 hk
  · obtain ⟨g1,g2,g3⟩:=hw.2.2.2 hk Ds
    have hrn:=hw.2.1 V;show _∧_∧m=if w.region.toNat=r0∧w.thing.toNat=(h.reg r0).l.length then _ else _
    by_cases hr:w.region=r0
    · rw [hr] at g2;rw [Qin V,hr,hl0,EO];refine ⟨g1,by simp;omega,?_⟩;rw [←hr];exact g3
    · rw [Qin V,hln _ hr];exact ⟨g1,g2,g3⟩
 have hlast:(e2.reg (φ.σ r0)).last=P:=by
  rw [hreg,Qip rfl,←gr1];exact G.last
 have hused:(e2.reg (φ.σ r0)).used=u+x:=by
  have:=G.reg H.ok hm (k:=φ.σ r0);rw [Qip rfl] at this;rw [hreg,Qip rfl,←gr1,this]
 have hmem:∀q,q=P∨q∈(e.reg (φ.σ r0)).pages→q∈(e2.reg (φ.σ r0)).pages:=fun q hq=>by
  rw [hreg,Qip rfl,←gr1];rcases hq with rfl|hq
  · exact G.mem
  · exact G.sub q hq
 have hz:∀k:Nat,k<16→(e2.reg k).pages≠[]→∀j:Int,(e2.reg k).used≤j→j<16→e2.p.word ((e2.reg k).last*16+j)=0:=fun k hk hp j I M=>by
  by_cases hkm:k=φ.σ r0
  · subst hkm
    rw [hused] at I;rw [hlast];have h3:=hw (P*16+j) (by rw [hA];omega);refine h3.trans ?_;by_cases hpp:P∈(e.reg (φ.σ r0)).pages
    · obtain ⟨h6,h7⟩:=G.old hpp;show (e.get (φ.σ r0) x).p.word _=0;rw [G.wo hpp,h6];exact H.z _ hm Ex j V M
    · exact G.wz hpp _ V
  · have hr:e2.reg k=e.reg k:=by rw [hreg,Qin hkm]
    rw [hr] at hp I ⊢;have hl2:=sf hp
    have hne:(e.reg k).last≠P:=by
     intro h9;by_cases hpp:P∈(e.reg (φ.σ r0)).pages
     · exact hkm (se H.ok hk hm (h9 ▸ hl2) hpp)
     · exact G.new hpp k hk (h9 ▸ hl2)
    have:=Hk H.ok hk;have h3:=hw ((e.reg k).last*16+j) (by rw [hA];omega);refine h3.trans ?_;exact (G.w _ V).trans (H.z k hk hp j I M)
 refine ⟨⟨φ.σ,fun r j=>if r=r0∧j=(h.reg r0).l.length then e.getV (φ.σ r0) x else φ.a r j⟩,⟨ok2,?_,?_,?_,?_,hz,?_,?_,?_⟩,hM,?_⟩
 · rw [e1,hfr,gp1]
   show (if (h.reg r0).more x=true then h.left - 1 else h.left)=_;rw [←hmo];have h4:=H.left;by_cases O:(e.reg (φ.σ r0)).more x=true
   · rw [Qip O,Qip O];have h5:=Qho h0;rw [hr0,←hmo] at h5;have h6:e.p.fr≠[]:=fun h7=>h5 ⟨O,by rw [h4,h7];rfl⟩;unfold PoolS.take;rw [Qin h6,List.length_dropLast];have:0<e.p.fr.length:=G4.2 h6;omega
   · rw [Qin O,Qin O];exact h4
 · have h3:=sF (p:=fun r:Reg=>r.there) (r':=(e.regTo (φ.σ r0) x).use x) (F9 H.ok hm);have h5:=ey (r':=((h.reg r0).room x).push t) (RV hh0).2.2.1;rw [hth0,show ((e.regTo (φ.σ r0) x).use x).there=true from hthere] at h3;rw [(RV hh0).2.2.2,show (((h.reg r0).room x).push t).there=true from hroom.1.trans (RV hh0).2.2.2] at h5;have h4:=H.cnt;unfold EstS.count HpS.live at h4 ⊢;rw [hrs,grs,e1];simp only [Fa,if_true] at h3 h5 ⊢;omega
 · intro r hr
   rw [hhas] at hr;show φ.σ r<16∧(e2.reg (φ.σ r)).there=true∧((e2.reg (φ.σ r)).pages.length:Int)=_∧(e2.reg (φ.σ r)).used=_;obtain ⟨g1,g2,g3,g4⟩:=H.live r hr;refine ⟨g1,?_⟩;by_cases hrr:r=r0
   · subst hrr
     rw [hreg,Qip rfl,hrg,Qip rfl];refine ⟨hthere,?_⟩;unfold EstS.regTo Rgn.room;rw [←hmo];by_cases O:(e.reg (φ.σ r)).more x=true
     · rw [Qip O,Qip O]
       refine ⟨?_,?_⟩
       · show (((e.reg (φ.σ r)).pages++[e.p.top]).length:Int)=(h.reg r).pages+1;rw [EO];simp;omega
       · show 0+x=x;omega
     · rw [Qin O,Qin O];exact ⟨g3,by show (e.reg (φ.σ r)).used+x=(h.reg r).used+x;omega⟩
   · rw [hreg,Qin (fun O=>hrr (H.inj r r0 hr hh0 O)),hln _ V];exact ⟨g2,g3,g4⟩
 · intro r q hr hq hs;rw [hhas] at hr hq;exact H.inj r q hr hq hs
 · intro r t0 x0 hx0
   show∃q,q∈(e2.reg (φ.σ r)).pages∧q*16≤(if r=r0∧t0=(h.reg r0).l.length then e.getV (φ.σ r0) x else φ.a r t0)∧(if r=r0∧t0=(h.reg r0).l.length then e.getV (φ.σ r0) x else φ.a r t0)+x0.size≤q*16+(e2.reg (φ.σ r)).lim q;rcases hth r t0 x0 hx0 with ⟨g1,g2,g3⟩|⟨g1,g2⟩
   · subst g1;rw [Qip ⟨rfl,g2⟩,g3,hs,hA];refine ⟨P,hmem P (.inl rfl),V,?_⟩;unfold Reg.lim;rw [Qip hlast.symm,hused];omega
   · rw [Qin g1]
     obtain ⟨q,q1,q2,q3⟩:=H.at_ r t0 x0 g2;by_cases hrr:r=r0
     · subst hrr
       refine ⟨q,hmem q (.inr q1),q2,?_⟩;have hle:=oo H.ok hm (q:=q);unfold Reg.lim;rw [hlast,hused];by_cases hq:q=P
       · rw [Qip hq]
         by_cases hp:P∈(e.reg (φ.σ r)).pages
         · obtain ⟨h6,h7⟩:=G.old hp;have h8:(e.reg (φ.σ r)).lim q=u:=(by unfold Reg.lim;rw [Qip (hq.trans h6),h7]);omega
         · exact absurd q1 (by rw [hq];exact hp)
       · rw [Qin hq];omega
     · have hr:e2.reg (φ.σ r)=e.reg (φ.σ r):=(by rw [hreg,Qin (fun O=>hrr (H.inj r r0 g2.1 hh0 O))]);rw [hr];exact ⟨q,q1,q2,q3⟩
 · intro r t0 x0 r' t0' x0' hx0 hx0' hn
   show (if r=r0∧t0=(h.reg r0).l.length then e.getV (φ.σ r0) x else φ.a r t0)+x0.size≤(if r'=r0∧t0'=(h.reg r0).l.length then e.getV (φ.σ r0) x else φ.a r' t0')∨(if r'=r0∧t0'=(h.reg r0).l.length then e.getV (φ.σ r0) x else φ.a r' t0')+x0'.size≤(if r=r0∧t0=(h.reg r0).l.length then e.getV (φ.σ r0) x else φ.a r t0);rcases hth r t0 x0 hx0 with ⟨g1,g2,g3⟩|⟨g1,g2⟩
   · rcases hth r' t0' x0' hx0' with ⟨k1,k2,k3⟩|⟨k1,k2⟩
     · exact absurd ⟨V,V⟩ hn
     · rw [Qip ⟨g1,g2⟩,Qin k1,g3,hs];exact ((hold _ _ _ k2).1).symm
   · rcases hth r' t0' x0' hx0' with ⟨k1,k2,k3⟩|⟨k1,k2⟩
     · rw [Qin g1,Qip ⟨k1,k2⟩,k3,hs];exact (hold _ _ _ g2).1
     · rw [Qin g1,Qin k1];exact H.apart _ _ _ _ _ _ g2 k2 hn
 · intro r t0 x0 hx0
   show Tg _ _ e2 (if r=r0∧t0=(h.reg r0).l.length then e.getV (φ.σ r0) x else φ.a r t0) x0;rcases hth r t0 x0 hx0 with ⟨g1,g2,g3⟩|⟨g1,g2⟩
   · rw [Qip ⟨g1,g2⟩,g3];exact hM.lies (fun _ _ _=>rfl) hl
   · rw [Qin g1];exact hM.lies (hold _ _ _ g2).2 (H.lies _ _ _ g2)
 · have ev:h.putV v kd x=⟨kd,v.region,(h.reg v.region).l.length,0⟩:=by unfold HpS.putV;rw [Qip h0]
   rw [ev,hr0];refine ⟨fun hk=>by simp at hk;omega,fun _=>⟨by simp,by rw [hlen];show (r0:Int) < _;omega⟩,fun hk=>by simp at hk;omega,fun _ _=>⟨by simp,?_,?_⟩⟩
   · show ((h.reg r0).l.length:Int)<(((h.put v x t).reg r0).l.length:Int);rw [hl0];simp;omega
   · show e.getV (φ.σ r0) x=if (r0:Int).toNat=r0∧(((h.reg r0).l.length:Nat):Int).toNat=(h.reg r0).l.length then _ else _
     rw [Qip ⟨V,V⟩]
end
section
variable {φ:RMap}{h:HpS}{e:EstS}{v:Val}{n:Int}
theorem fS {p:Nat×Nat}(ha:h.at_ v=some p):(v.kind=3∨v.kind=4)∧h.has v.region=true∧v.region=p.1∧v.thing=p.2∧PL h p.1 p.2 (h.thg p.1 p.2)∧(h.thg p.1 p.2).array=decide (v.kind=4):=by
 unfold HpS.at_ at ha;split at ha
 · rename_i O;obtain ⟨I,M,h3,h4,h5⟩:=O;cases ha;have hr:=(lU M).1;refine ⟨I,M,by show v.region=(v.region.toNat:Int);omega,by show v.thing=(v.thing.toNat:Int);omega,⟨by rw [Fi hr];exact M,?_⟩,h5⟩;unfold HpS.thg;rw [Fi hr,EL,EI V];rfl
 · cases ha
theorem WHR.place (H:WHR φ h e)(hv:Nw φ h v n){p:Nat×Nat}(ha:h.at_ v=some p):n=φ.a p.1 p.2∧PL h p.1 p.2 (h.thg p.1 p.2)∧(h.thg p.1 p.2).array=decide (v.kind=4):=by
 obtain ⟨I,M,h3,h4,h5,h6⟩:=fS ha;refine ⟨?_,h5,h6⟩;have:=(hv.2.2.2 I M).2.2;rw [h3,h4] at this;exact this
theorem WHR.get (H:WHR φ h e)(hv:Nw φ h v n){k:Int}(hg:(h.get v k).2=0):∃o:Int,o=(if v.kind=4 then 1 else 0)∧0≤n∧0≤k∧n+o+k<1024∧Nw φ h (h.get v k).1 (e.word (n+o+k)):=by
 unfold HpS.get at hg ⊢
 cases ha:h.at_ v with
 | none=>rw [ha] at hg;cases hg
 | some p=>
   rw [ha] at hg;obtain ⟨rfl,ht,hk⟩:=H.place hv ha;obtain ⟨g1,g2,g3⟩:=H.addr ht;simp only at hg ⊢;split at hg
   · rename_i O
     rw [Qip O];have ho:(h.thg p.1 p.2).off=if v.kind=4 then 1 else 0:=by unfold Thg.off;rw [hk];simp
     have hsz:(h.thg p.1 p.2).off+(h.thg p.1 p.2).l.length≤(h.thg p.1 p.2).size:=Dz;refine ⟨_,ho,g1,O.1,?_,?_⟩
     · omega
     · have hlen:k.toNat<(h.thg p.1 p.2).l.length:=CP;have I:=(H.lies _ _ _ ht).2 k.toNat ((h.thg p.1 p.2).l.getD k.toNat Val.zero) (by rw [EL,EI hlen];rfl);rw [Fi O.1] at I;exact I
   · cases hg
theorem WHR.len (H:WHR φ h e)(hv:Nw φ h v n)(hk:v.kind=4)(hg:(h.len v).2=0):e.word n=(h.len v).1∧0≤n∧n+1+(h.len v).1≤1024∧∀k,(h.get v k).2=if 0≤k∧k<(h.len v).1 then 0 else 1:=by
 unfold HpS.len at hg ⊢;unfold HpS.get
 cases ha:h.at_ v with
 | none=>rw [ha] at hg;cases hg
 | some p=>
   obtain ⟨rfl,ht,hk2⟩:=H.place hv ha;obtain ⟨g1,g2,g3⟩:=H.addr ht;have har:(h.thg p.1 p.2).array=true:=(by rw [hk2];simp [hk]);have hsz:(h.thg p.1 p.2).size=1+(h.thg p.1 p.2).l.length:=(by unfold Thg.size;rw [Qip har]);refine ⟨(H.lies _ _ _ ht).1 har,g1,by simp only;omega,fun k=>?_⟩;simp only;split<;>rfl
theorem fT {k:Int}(hg:(h.get v k).2≠20):(h.len v).2=0:=by
 unfold HpS.get at hg;unfold HpS.len
 cases ha:h.at_ v with
 | none=>rw [ha] at hg;exact absurd rfl hg
 | some p=>rfl
theorem ZY {k:Int}{y:Val}(hg:h.setC v k y≠20):(h.len v).2=0:=by
 unfold HpS.setC at hg;unfold HpS.len
 cases ha:h.at_ v with
 | none=>rw [ha] at hg;exact absurd rfl hg
 | some p=>rfl
theorem Ww (hk:v.kind=4){k:Int}{y:Val}(hg:h.setC v k y≠20):h.setC v k y=if 0≤k∧k<(h.len v).1 then 0 else 1:=by
 unfold HpS.setC at hg ⊢;unfold HpS.len
 cases ha:h.at_ v with
 | none=>rw [ha] at hg;exact absurd rfl hg
 | some p=>
   rw [ha] at hg;simp only at hg ⊢;split at hg
   · exact absurd rfl hg
   · rename_i O;rw [Qin O]
theorem WHR.set (H:WHR φ h e)(hv:Nw φ h v n){k ny:Int}{y:Val}(hy:Nw φ h y ny)(hg:h.setC v k y=0):∃o:Int,o=(if v.kind=4 then 1 else 0)∧0≤n∧0≤k∧n+o+k<1024∧WHR φ (h.set v k y) (e.store (n+o+k) ny)∧MF φ h φ (h.set v k y):=by
 have hg0:=hg;unfold HpS.setC at hg;unfold HpS.set;rw [hg0]
 cases ha:h.at_ v with
 | none=>rw [ha] at hg;cases hg
 | some p =>
   rw [ha] at hg;obtain ⟨rfl,ht,hk⟩:=H.place hv ha;obtain ⟨g1,g2,g3⟩:=H.addr ht;obtain ⟨r,t⟩:=p;simp only at hg ht hk g1 g2 g3 hv ⊢;split at hg
   · cases hg
   · split at hg
     · rename_i O
       rw [Qip trivial];have ho:(h.thg r t).off=if v.kind=4 then 1 else 0:=by unfold Thg.off;rw [hk];simp
       have hsz:(h.thg r t).off+(h.thg r t).l.length≤(h.thg r t).size:=Dz;have ho0:0≤(h.thg r t).off:=(by unfold Thg.off;split<;>omega);have hrg:∀q:Int,(⟨h.l.set r ((h.reg r).upd t ((h.thg r t).upd k.toNat y)),h.left⟩:HpS).reg q=if q=r then (h.reg r).upd t ((h.thg r t).upd k.toNat y) else h.reg q:=fun q=>Go.Lir.reg_set (left':=h.left) (by have:=(lU ht.1).2;omega) q
       have hhas:∀q:Int,(⟨h.l.set r ((h.reg r).upd t ((h.thg r t).upd k.toNat y)),h.left⟩:HpS).has q=h.has q:=fun q=>by
        unfold HpS.has;rw [hrg];by_cases hq:q=r
        · rw [Qip hq,hq];rfl
        · rw [Qin hq]
       have hlen:∀q:Int,((⟨h.l.set r ((h.reg r).upd t ((h.thg r t).upd k.toNat y)),h.left⟩:HpS).reg q).l.length=(h.reg q).l.length:=fun q=>by
        rw [hrg];by_cases hq:q=r
        · rw [Qip hq,hq];show ((h.reg r).l.set t _).length=_;rw [Fh]
        · rw [Qin hq]
       have hM:MF φ h φ ⟨h.l.set r ((h.reg r).upd t ((h.thg r t).upd k.toNat y)),h.left⟩:=fun u m hu=>by
        refine ⟨hu.1,fun hk=>?_,fun hk hh=>hu.2.2.1 hk Ds,fun hk hh=>?_⟩
        · simp only [Fh];exact hu.2.1 hk
        · rw [hlen];exact hu.2.2.2 hk Ds
       have hreg:∀q:Int,q≠r→(⟨h.l.set r ((h.reg r).upd t ((h.thg r t).upd k.toNat y)),h.left⟩:HpS).reg q=h.reg q:=fun q hq=>by rw [hrg,Qin hq]
       have hth:∀(r' t':Nat) (x:Thg),PL ⟨h.l.set r ((h.reg r).upd t ((h.thg r t).upd k.toNat y)),h.left⟩ r' t' x→(r'=r∧t'=t∧x=(h.thg r t).upd k.toNat y)∨(¬(r'=r∧t'=t)∧PL h r' t' x):=fun r' t' x hx=>by
        obtain ⟨I,M⟩:=hx;rw [hhas] at I;by_cases hr:r'=r
        · subst hr
          rw [hrg,Qip rfl] at M;have M:((h.reg r').l.set t ((h.thg r' t).upd k.toNat y))[t']?=some x:=M;by_cases ht':t'=t
          · subst ht';rw [Gu (EJ.1 ht.2).1] at M;cases M;exact .inl ⟨rfl,rfl,rfl⟩
          · rw [GD (Ib ht')] at M;exact .inr ⟨fun O=>ht' O.2,I,M⟩
        · rw [hreg _ V] at M;exact .inr ⟨fun O=>hr O.1,I,M⟩
       have hsame:∀(r' t':Nat) (x:Thg),PL ⟨h.l.set r ((h.reg r).upd t ((h.thg r t).upd k.toNat y)),h.left⟩ r' t' x→∃x0,PL h r' t' x0∧x0.size=x.size:=fun r' t' x hx=>by
        rcases hth r' t' x hx with ⟨rfl,rfl,rfl⟩|⟨_,hx⟩
        · exact ⟨_,ht,by unfold Thg.size Thg.upd LN;simp⟩
        · exact ⟨x,hx,rfl⟩
       have hin:e.p.isIn (φ.a r t+(h.thg r t).off+k)=true:=Mr.2 V;have hw:∀i,(e.store (φ.a r t+(h.thg r t).off+k) ny).word i=if i=φ.a r t+(h.thg r t).off+k then ny else e.word i:=sd H.ok.pok hin
       refine ⟨_,ho,g1,O.1,V,?_⟩;refine ⟨⟨Wu H.ok _ _,by show h.left=((e.p.store _ _).fr.length:Int);rw [HE];exact H.left,?_,fun r' hr'=>?_,fun r' q hr hq hs=>H.inj r' q (by rw [←hhas];exact hr) (by rw [←hhas];exact hq) hs,fun k' hk' hp j I M=>?_,fun r' t' x hx=>?_,fun r' t' x r2 t2 x2 hx hx2 hn=>?_,fun r' t' x hx=>?_⟩,hM⟩
       · have h5:=ey (r':=(h.reg r).upd t ((h.thg r t).upd k.toNat y)) (RV ht.1).2.2.1;rw [show ((h.reg r).upd t ((h.thg r t).upd k.toNat y)).there=(h.reg r).there from rfl] at h5;have h4:=H.cnt;unfold HpS.live at h4 ⊢;simp only [Fa] at h5 ⊢;(have h6:∀q:EstS,q.rs=e.rs→q.count=e.count:=fun q hq=>by unfold EstS.count;rw [hq]);rw [h6 (e.store _ _) rfl];omega
       · rw [hhas] at hr'
         obtain ⟨k1,k2,k3,k4⟩:=H.live r' hr';refine ⟨k1,k2,?_⟩;rw [hrg];by_cases hq:(r':Int)=r
         · rw [Qip hq,←hq];exact ⟨k3,k4⟩
         · rw [Qin hq];exact ⟨k3,k4⟩
       · have h3:=hw ((e.reg k').last*16+j)
         refine h3.trans ?_;obtain ⟨q,q1,q2,q3⟩:=H.at_ r t _ ht;have hs:=(H.live r ht.1).1;have hlq:=oo H.ok hs (q:=q);have hu:=Hk H.ok hk';have I:(e.reg k').used≤j:=I;have hp:(e.reg k').pages≠[]:=hp;rw [Qin]
         · exact H.z k' hk' hp j I M
         · intro hc2;have hqe:q=(e.reg k').last:=CP;have hkk:=se H.ok hs hk' q1 (hqe ▸ sf hp);have:(e.reg (φ.σ r)).lim q=(e.reg (φ.σ r)).used:=(by unfold Reg.lim;rw [Qip (by rw [hqe,hkk])]);rw [hkk] at this q3;omega
       · obtain ⟨x0,hx0,hs0⟩:=hsame r' t' x hx;rw [←hs0];exact H.at_ r' t' x0 hx0
       · obtain ⟨x0,hx0,hs0⟩:=hsame r' t' x hx;obtain ⟨y0,hy0,hs1⟩:=hsame r2 t2 x2 hx2;rw [←hs0,←hs1];exact H.apart _ _ _ _ _ _ hx0 hy0 hn
       · rcases hth r' t' x hx with ⟨rfl,rfl,rfl⟩|⟨hn,hx⟩
         · have hl:=H.lies _ _ _ ht
           refine ⟨fun har=>?_,fun i u hu=>?_⟩
           · have har':(h.thg r' t').array=true:=har;rw [hw,Qin (by unfold Thg.off;rw [Qip har'];omega)];rw [hl.1 har'];show ((h.thg r' t').l.length:Int)=(((h.thg r' t').l.set k.toNat y).length:Int);rw [Fh]
           · have hu:((h.thg r' t').l.set k.toNat y)[i]?=some u:=hu
             show Nw φ _ u ((e.store _ ny).word (φ.a r' t'+(h.thg r' t').off+i));rw [hw];by_cases hik:i=k.toNat
             · subst hik;rw [Gu V] at hu;cases hu;rw [Qip V];exact hM _ _ hy
             · rw [GD (Ib hik)] at hu;rw [Qin V];exact hM _ _ (hl.2 i u hu)
         · have hap:=H.apart _ _ _ _ _ _ hx ht hn;refine hM.lies (e:=e) (fun i i1 i2=>?_) (H.lies _ _ _ hx);rw [hw,Qin V]
     · cases hg
end
section
def jo (φ:RMap)(h:HpS)(g:Frm)(g':RFrm):Prop:=g.f=g'.f∧g.b=g'.b∧g.i=g'.i∧LX φ h g.vals g'.vals
def Ti (φ:RMap)(h:HpS):List Frm→List RFrm→Prop
 | [],[]=>True
 | a::l,b::l'=>jo φ h a b∧Ti φ h l l'
 | _,_=>False
structure SimF (φ:RMap) (s:MS) (r:RS):Prop where
 hr:WHR φ s.h r.e
 g:jo φ s.h s.g r.g
 st:Ti φ s.h s.st r.st
 inp:s.inp=r.inp
 out:s.out=r.out
 fuel:s.fuel=r.fuel
def yf (s:MS)(r:RS):Prop:=∃φ,SimF φ s r
def MP:Stp→RStp→Prop
 | .lost,_=>True
 | .go s,r=>∃r',r= .go r'∧yf s r'
 | .halt e,r=>r= .halt e
 | .done l,r=>r= .done l
theorem Oj {x:Option α}{f:α→Stp}(h:∀a,x=some a→MP (f a) Y0q):MP (Ls x f) Y0q:=by
 cases x with
 | none=>trivial
 | some a=>exact h a rfl
theorem X4 {p:Prop}[Decidable p]{X:Stp}(h:¬p→MP X Y0q):MP (if p then .lost else X) Y0q:=by
 split
 · trivial
 · rename_i hp;exact h hp
variable {m:Module}{φ φ':RMap}{h h':HpS}{s:MS}{r:RS}{k:Int}
theorem MF.frs (hM:MF φ h φ' h'):∀{l:List Frm}{l':List RFrm},Ti φ h l l'→Ti φ' h' l l'
 | [],[],_=>trivial
 | a::l,b::l',hf=>⟨⟨hf.1.1,hf.1.2.1,hf.1.2.2.1,hM.vrs hf.1.2.2.2⟩,MF.frs hM hf.2⟩
 | [],_::_,hf=>hf.elim
 | _::_,[],hf=>hf.elim
theorem sH:∀{l:List Frm}{l':List RFrm},Ti φ h l l'→l.length=l'.length
 | [],[],_=>rfl
 | a::l,b::l',hf=>by rw [EY,EY,sH hf.2]
 | [],_::_,hf=>hf.elim
 | _::_,[],hf=>hf.elim
theorem Wx {g:Frm}(hf:jo φ h g g'){v:Val}(hv:g.val k=some v):∃n,g'.val k=some n∧Nw φ h v n:=by
 unfold Frm.val at hv;unfold RFrm.val;split at hv
 · cases hv
 · rename_i hk;rw [Qin hk];exact hf.2.2.2.get hv
theorem cz {g:Frm}(hf:jo φ h g g'){n:Int}(hv:g.num k=some n):g'.val k=some n:=by
 unfold Frm.num at hv
 cases hx:g.val k with
 | none=>rw [hx] at hv;cases hv
 | some v=>
   rw [hx] at hv;simp only at hv;split at hv
   · rename_i hk;cases hv;obtain ⟨n,hn,hr⟩:=Wx hf hx;rw [hn,hr.1 hk]
   · cases hv
theorem lV {g:Frm}{g':RFrm}(hf:jo φ h g g'):∀{l:List Int}{vs:List Val},g.args l=some vs→∃ns,g'.args l=some ns∧LX φ h vs ns∧vs.length=l.length
 | [],vs,hv=>by rw [Frm.args] at hv;cases hv;exact ⟨[],rfl,LX.nil _ _,rfl⟩
 | k ::l,vs,hv=>by
   rw [Frm.args] at hv
   cases hx:g.val k with
   | none=>rw [hx] at hv;cases hv
   | some v=>
     rw [hx] at hv
     cases hl:g.args l with
     | none=>rw [hl] at hv;cases hv
     | some ws=>
       rw [hl] at hv;cases hv;obtain ⟨n,hn,hr⟩:=Wx hf hx;obtain ⟨ns,hns,hrs,hlen⟩:=lV hf hl;exact ⟨n::ns,by rw [RFrm.args,hn,hns],LX.cons hr hrs,by rw [EY,EY,hlen]⟩
theorem SimF.put (S:SimF φ s r){vs:List Val}(hv:LX φ s.h vs ns):SimF φ (s.put vs) (r.put ns):=
 ⟨S.hr,⟨S.g.1,S.g.2.1,S.g.2.2.1,S.g.2.2.2.app hv⟩,S.st,S.inp,S.out,S.fuel⟩
theorem SimF.heap (S:SimF φ s r){h':HpS}(H:WHR φ' h' e')(hM:MF φ s.h φ' h'):SimF φ' (s.hp h') (r.es e'):=
 ⟨H,⟨S.g.1,S.g.2.1,S.g.2.2.1,hM.vrs S.g.2.2.2⟩,hM.frs S.st,S.inp,S.out,S.fuel⟩
theorem Ng {s':MS}{r':RS}(S:SimF φ s' r'):MP (.go s') (.go r'):=⟨r',rfl,φ,S⟩
theorem Tj {n:Int}(h0:0≤n)(I:n≤100000):wr n=n:=cV V V
theorem lW (S:SimF φ s r):MP s.newR (if r.e.openV<0 then .halt 6 else .go ((r.es r.e.open).put [r.e.openV])):=by
 unfold MS.newR;have hf:=S.hr.full;by_cases O:s.h.full=true
 · rw [Qip O,Qip (hf.1 O)];rfl
 · rw [Qin O,Qin (fun h=>O (hf.2 h))];obtain ⟨φ',H',hM,hv⟩:=S.hr.open Db;exact Ng (φ:=φ') ⟨H',⟨S.g.1,S.g.2.1,S.g.2.2.1,(hM.vrs S.g.2.2.2).app (Hr hv)⟩,hM.frs S.st,S.inp,S.out,S.fuel⟩
theorem Wy (S:SimF φ s r){v:Val}{n:Int}(hv:Nw φ s.h v n){x:Int}(hs:t.size=x)(hx:x≤16)(hkd:kd=3∨kd=4)(f:EstS→Int→EstS)
 (hf:s.h.code v x=0→∀A,A=r.e.getV n x→(f (r.e.get n x) A).Ok∧(f (r.e.get n x) A).rs=(r.e.get n x).rs∧(f (r.e.get n x) A).p.fr=(r.e.get n x).p.fr∧(∀i,¬(A≤i∧i<A+x)→(f (r.e.get n x) A).word i=(r.e.get n x).word i)∧Tg φ s.h (f (r.e.get n x) A) A t):
 MP (s.made (s.h.code v x) (s.h.put v x t) (s.h.putV v kd x)) (r.gotR n x fun e at_=> .go ((r.es (f e at_)).put [at_])):=by
 unfold MS.made;have hx1:1≤x:=hs ▸ yd t;by_cases h20:s.h.code v x=20
 · rw [Qin V,Qip V];trivial
 · have O:=S.hr.code hv (oA h20) ⟨hx1,hx⟩
   unfold RS.gotR;rw [O];by_cases h14:s.h.code v x=14
   · rw [Qip h14,Qip h14];rfl
   · rw [Qin h14,Qin h14];refine X4 fun h0=>?_;have h0:s.h.code v x=0:=CP;obtain ⟨g1,g2,g3,g4,g5⟩:=hf h0 _ rfl;obtain ⟨φ',H',hM,hv'⟩:=S.hr.put hv hs hx h0 hkd g1 g2 g3 g4 g5;exact Ng ((S.heap H' hM).put (Hr hv'))
theorem Wz (H:WHR φ h r.e){v:Val}{n:Int}(hv:Nw φ h v n){x:Int}(hx1:1≤x)(hx:x≤16)(h0:h.code v x=0):(r.e.get n x).Ok∧0≤r.e.getV n x∧r.e.getV n x+x≤(((r.e.get n x).p.n*16:Nat):Int)∧r.e.getV n x+x≤1024∧∀i,r.e.getV n x≤i→i<r.e.getV n x+x→(r.e.get n x).word i=0:=by
 have hcan:=oA (h:=h) (v:=v) (x:=x) V;have hc0:r.e.code n x=0:=(H.code hv hcan ⟨hx1,hx⟩).trans h0;obtain ⟨r0,hr0,hh0,rfl,hlt0⟩:=H.slot hv hcan;obtain ⟨hm,hth0,hpg,hus⟩:=H.live r0 hh0;obtain ⟨P,u,G⟩:=lK H.ok hm hc0;have hok:=JH H.ok (φ.σ r0) x;have hux:=G.ux;have hv:=G.v;have hp:=sg hok hm G.mem;have h64:=hok.n64;refine ⟨hok,V,V,V,fun i i1 i2=>?_⟩;show (r.e.get (φ.σ r0) x).p.word i=0;by_cases hpp:P∈(r.e.reg (φ.σ r0)).pages
 · obtain ⟨h6,h7⟩:=G.old hpp;rw [G.wo hpp];have:=H.z _ hm Ex (i - P*16) V V;rw [←h6,show P*16+(i - P*16)=i by omega] at this;exact this
 · exact G.wz hpp _ V
theorem ZZ (S:SimF φ s r){v:Val}{n:Int}(hv:Nw φ s.h v n)(hl:LX φ s.h l ns)(hq:l.length=q)(h16:q≤16):
 MP (s.made (s.h.code v (LN l)) (s.h.tuple v l) (s.h.putV v 3 (LN l))) (r.gotR n (max (q:Int) 1) fun e at_=> .go ((r.es (e.stores at_ ns)).put [at_])):=by
 have hw:max (q:Int) 1=LN l:=(by unfold LN;split<;>omega);rw [hw];have hw1:1≤LN l∧LN l≤16∧(l.length:Int)≤LN l:=(by unfold LN;split<;>omega);have hln:=hl.1;refine Wy S hv (t:=⟨false,l⟩) (by unfold Thg.size;rfl) hw1.2.1 (.inl rfl) (fun e a=>e.stores a ns) fun h0 A hA=>?_;subst hA;obtain ⟨hok,a0,a1,a2,az⟩:=Wz S.hr hv hw1.1 hw1.2.1 h0;obtain ⟨g1,g2,g3,g4,g5⟩:=Wv (l:=ns) hok a0 V;refine ⟨g1,g2,g4,fun i hi=>(by rw [g5,Qin V]),fun ha=>(by cases ha),fun i u hu=>?_⟩;have hi:=(EJ.1 hu).1;have hi:i<l.length:=hi;rw [g5];show Nw φ s.h u (if r.e.getV n (LN l)≤r.e.getV n (LN l)+0+i∧r.e.getV n (LN l)+0+i<r.e.getV n (LN l)+ns.length then ns.getD (r.e.getV n (LN l)+0+i - r.e.getV n (LN l)).toNat 0 else _);rw [Qip V,show (r.e.getV n (LN l)+0+i - r.e.getV n (LN l)).toNat=i by omega];obtain ⟨y,hy,hvy⟩:=hl.get hu;rw [EL,hy];exact hvy
theorem Z0 (S:SimF φ s r){v:Val}{n k:Int}(hv:Nw φ s.h v n)(h0:0≤k)(h15:k≤15):
 MP (s.made (s.h.arrC v k) (s.h.arr v k) (s.h.arrV v k)) (r.gotR n (1+k) fun e at_=> .go ((r.es (e.store at_ k)).put [at_])):=by
 have O:¬(k<0∨15<k):=CP;unfold HpS.arrC HpS.arr HpS.arrV;rw [Qin O,Qin O,Qin O,show 1+k=k+1 by omega];have hnl:(Ow k).length=k.toNat:=FK;refine Wy S hv (t:=⟨true,Ow k⟩) (by unfold Thg.size;rw [Qip rfl];show 1+((Ow k).length:Int)=_;rw [hnl];omega) V (.inr rfl) (fun e a=>e.store a k) fun hc0 A hA=>?_;subst hA;obtain ⟨hok,a0,a1,a2,az⟩:=Wz S.hr hv V V hc0;have hin:(r.e.get n (k+1)).p.isIn (r.e.getV n (k+1))=true:=Mr.2 V;have hw:∀i,((r.e.get n (k+1)).store (r.e.getV n (k+1)) k).word i=if i=r.e.getV n (k+1) then k else (r.e.get n (k+1)).word i:=sd hok.pok hin
 refine ⟨Wu hok _ _,rfl,HE,fun i hi=>(by rw [hw,Qin V]),fun _=>?_,fun i u hu=>?_⟩
 · rw [hw,Qip rfl];show k=((Ow k).length:Int);rw [hnl];omega
 · have hu:(Ow k)[i]?=some u:=hu
   have hi:=(EJ.1 hu).1;rw [hnl] at hi
   have hue:u=KE 0:=by
    unfold Ow at hu;rw [GI] at hu;rw [Qip hi] at hu;exact (EP hu).symm
   rw [hue,hw,Qin (by show¬(_+1+_=_);omega),az _ (by show _≤_+1+_;omega) (by show _+1+_ < _;omega)];exact Ix _ _ _
theorem sI {v:Val}{c:Int}{X:Stp}(h:v.kind=4→c≠20→(c=1→Y0q= .halt 2)∧(c=0→MP X Y0q))(O:c=0∨c=1∨c=20):MP (NP v c X) Y0q:=by
 unfold NP;refine X4 fun hk=>?_;have hk:v.kind=4:=CP;rcases O with O|O|O
 · rw [Qin V,Qin V];exact (h hk V).2 O
 · rw [Qip O];exact (h hk V).1 O
 · rw [Qin V,Qip V];trivial
theorem QjP (h:HpS)(v:Val)(k:Int):(h.get v k).2=0∨(h.get v k).2=1∨(h.get v k).2=20:=by
 unfold HpS.get;split
 · simp
 · split<;>simp
theorem QgQ (h:HpS)(v:Val)(k:Int)(y:Val):h.setC v k y=0∨h.setC v k y=1∨h.setC v k y=20:=by
 unfold HpS.setC;split
 · simp
 · split
   · simp
   · split<;>simp
theorem Qjl (h:HpS)(v:Val):(h.len v).2=0∨(h.len v).2=1∨(h.len v).2=20:=by
 unfold HpS.len;split<;>simp
theorem lX (S:SimF φ s r){x:Ins}(h16:x.args.length≤16):MP (s.ins m x) (r.ins m x):=by
 have hg:=S.g;unfold MS.ins RS.ins;by_cases o1:x.op=1
 · rw [Qip o1,Qip o1];exact Ng (S.put (Hr (Ix _ _ _)))
 rw [Qin o1,Qin o1];by_cases o2:x.op=2
 · rw [Qip o2,Qip o2]
   refine Oj fun a ha=>Oj fun b hb=>?_;rw [Ox (cz hg ha),Ox (cz hg hb)];split
   · rfl
   · exact Ng (S.put (Hr (Ix _ _ _)))
 rw [Qin o2,Qin o2];by_cases o3:x.op=3
 · rw [Qip o3,Qip o3];exact lW S
 rw [Qin o3,Qin o3];by_cases o4:x.op=4
 · rw [Qip o4,Qip o4];refine Oj fun v hv=>?_;obtain ⟨n,hn,hr⟩:=Wx hg hv;rw [Ox hn];refine X4 fun O=>?_;obtain ⟨H',hM⟩:=S.hr.shut hr Db;exact Ng (S.heap H' hM)
 rw [Qin o4,Qin o4];by_cases o5:x.op=5
 · rw [Qip o5,Qip o5];refine Oj fun v hv=>Oj fun l hl=>?_;obtain ⟨n,hn,hr⟩:=Wx hg hv;obtain ⟨ns,hns,hrs,hlen⟩:=lV hg hl;rw [Ox hn,Ox hns];exact ZZ S hr hrs hlen h16
 rw [Qin o5,Qin o5];by_cases o6:x.op=6
 · rw [Qip o6,Qip o6];refine Oj fun v hv=>?_;obtain ⟨n,hn,hr⟩:=Wx hg hv;rw [Ox hn];refine X4 fun hk=>X4 fun h0=>?_;obtain ⟨o,ho,p0,p1,p2,p3⟩:=S.hr.get hr (k:=x.k) V;rw [Qin V] at ho;subst ho;rw [Tj V V];rw [Je] at p3;exact Ng (S.put (Hr p3))
 rw [Qin o6,Qin o6];by_cases o7:x.op=7
 · rw [Qip o7,Qip o7];refine Oj fun v hv=>?_;obtain ⟨n,hn,hr⟩:=Wx hg hv;rw [Ox hn];refine X4 fun hk=>Oj fun y hy=>?_;obtain ⟨b,hb,hry⟩:=Wx hg hy;rw [Ox hb];refine X4 fun h0=>?_;obtain ⟨o,ho,p0,p1,p2,p3,p4⟩:=S.hr.set hr (k:=x.k) hry V;rw [Qin V] at ho;subst ho;rw [Tj V V];rw [Je] at p3;exact Ng (S.heap p3 p4)
 rw [Qin o7,Qin o7];by_cases o8:x.op=8
 · rw [Qip o8,Qip o8]
   refine Oj fun v hv=>Oj fun k hk=>?_;obtain ⟨n,hn,hr⟩:=Wx hg hv;rw [Ox hn,Ox (cz hg hk)];by_cases O:k<0∨15<k
   · rw [Qip O,Qip O];rfl
   · rw [Qin O,Qin O];exact Z0 S hr V V
 rw [Qin o8,Qin o8];by_cases o9:x.op=9
 · rw [Qip o9,Qip o9]
   refine Oj fun v hv=>Oj fun k hk=>?_;obtain ⟨n,hn,hr⟩:=Wx hg hv;rw [Ox hn,Ox (cz hg hk)];refine sI (fun h4 h20=>?_) (QjP _ _ _);obtain ⟨q1,q2,q3,q4⟩:=S.hr.len hr h4 (fT h20);unfold RS.atR;rw [q1];have q5:=q4 k;refine ⟨fun I=>Qip ?_,fun h0=>?_⟩
   · rw [I] at q5;split at q5<;>omega
   · obtain ⟨o,ho,p0,p1,p2,p3⟩:=S.hr.get hr h0;rw [Qip h4] at ho;subst ho;rw [Qin Ey,Tj (n:=n+1) V V,Tj V V];exact Ng (S.put (Hr p3))
 rw [Qin o9,Qin o9];by_cases o10:x.op=10
 · rw [Qip o10,Qip o10]
   refine Oj fun v hv=>Oj fun k hk=>Oj fun c O=>?_;obtain ⟨n,hn,hr⟩:=Wx hg hv;rw [Ox hn,Ox (cz hg hk),Ox (cz hg O)];refine sI (fun h4 h20=>?_) (QgQ _ _ _ _);obtain ⟨q1,q2,q3,q4⟩:=S.hr.len hr h4 (ZY h20);have q5:=Ww h4 h20;unfold RS.atR;rw [q1];refine ⟨fun I=>Qip ?_,fun h0=>?_⟩
   · rw [I] at q5;split at q5<;>omega
   · obtain ⟨o,ho,p0,p1,p2,p3,p4⟩:=S.hr.set hr (Ix φ s.h c) h0;rw [Qip h4] at ho;subst ho;rw [Qin Ey,Tj (n:=n+1) V V,Tj V V];exact Ng (S.heap p3 p4)
 rw [Qin o10,Qin o10];by_cases o11:x.op=11
 · rw [Qip o11,Qip o11]
   refine Oj fun v hv=>?_;obtain ⟨n,hn,hr⟩:=Wx hg hv;rw [Ox hn];refine sI (fun h4 h20=>?_) (Qjl _ _);refine ⟨fun I=>?_,fun h0=>?_⟩
   · unfold HpS.len at I;split at I<;>simp at I
   · obtain ⟨q1,_⟩:=S.hr.len hr h4 h0;rw [q1];exact Ng (S.put (Hr (Ix _ _ _)))
 rw [Qin o11,Qin o11];by_cases o12:x.op=12
 · rw [Qip o12,Qip o12]
   unfold MS.inS RS.inR;rw [←S.inp]
   cases s.inp with
   | nil=>rfl
   | cons n l=>
     have S':SimF φ ⟨s.h,s.g,s.st,l,s.out,s.fuel⟩ ⟨r.e,r.g,r.st,l,r.out,r.fuel⟩:=⟨S.hr,S.g,S.st,rfl,S.out,S.fuel⟩;exact Ng (S'.put (Hr (Ix _ _ _)))
 rw [Qin o12,Qin o12];by_cases o13:x.op=13
 · rw [Qip o13,Qip o13]
   refine Oj fun n hn=>?_;rw [Ox (cz hg hn)];unfold MS.outS RS.outR;rw [←S.out];split
   · rfl
   · exact Ng (φ:=φ) ⟨S.hr,S.g,S.st,S.inp,rfl,S.fuel⟩
 rw [Qin o13,Qin o13];unfold MS.call
 cases hf:m.funcs[x.k.toNat]? with
 | none=>trivial
 | some gf=>
   refine Oj fun rs hrs=>Oj fun vs hvs=>?_;obtain ⟨ns,hns,hv,hlen⟩:=lV hg hvs;rw [Ox hns];refine X4 fun _=>?_;have hst:=sH S.st;unfold RS.callR;by_cases h40:s.st.length+1=40
   · rw [Qip h40,Qip V];rfl
   · rw [Qin h40,Qin V];exact Ng (φ:=φ) ⟨S.hr,⟨rfl,rfl,rfl,hv⟩,⟨S.g,S.st⟩,S.inp,S.out,S.fuel⟩
theorem fU (S:SimF φ s r){f:Fun}{t:To}:MP (s.to f t) (r.to t):=by
 unfold MS.to RS.to
 cases hb:f.blocks[t.block.toNat]? with
 | none=>trivial
 | some b=>
   refine Oj fun rs hrs=>Oj fun vs hvs=>?_;obtain ⟨ns,hns,hv,hlen⟩:=lV S.g hvs;rw [Ox hns];refine X4 fun _=>?_;exact Ng (φ:=φ) ⟨S.hr,⟨S.g.1,rfl,rfl,hv⟩,S.st,S.inp,S.out,S.fuel⟩
theorem yg:∀{vs:List Val}{ns l:List Int},LX φ h vs ns→KB vs=some l→l=ns
 | [],ns,l,hv,hi=>by
   rw [KB] at hi;cases hi;exact (FO.1 hv.1.symm).symm
 | v::vs,[],l,hv,hi=>by have:=hv.1;simp at this
 | v ::vs,n::ns,l,hv,hi=>by
   rw [KB] at hi
   cases hx:KB vs with
   | none=>rw [hx] at hi;cases hi
   | some l'=>
     rw [hx] at hi;simp only at hi;split at hi
     · rename_i hk;cases hi;have I:=yg (ns:=ns) ⟨by have:=hv.1;simpa using this,fun i u q I M=>hv.2 (i+1) u q Dn (by simpa using M)⟩ hx;have M:=(hv.2 0 v n rfl rfl).1 hk;rw [I,M]
     · cases hi
theorem lY (S:SimF φ s r){f:Fun}(he:1≤e.op∧e.op≤3):MP (s.fin f e) (r.fin e):=by
 unfold MS.fin RS.fin;by_cases I:e.op=1
 · rw [Qip I,Qin V,Qin V];exact fU S
 rw [Qin I];by_cases M:e.op=2
 · rw [Qip M,Qin V,Qip M]
   refine Oj fun n hn=>?_;rw [Ox (cz S.g hn)];by_cases h0:n=0
   · rw [Qin V,Qip h0];exact fU S
   · rw [Qip h0,Qin h0];exact fU S
 rw [Qin M,Qip V];unfold MS.ret;refine Oj fun vs hvs=>?_;obtain ⟨ns,hns,hv,hlen⟩:=lV S.g hvs;rw [Ox hns];refine X4 fun _=>?_;have hst:=S.st
 cases hs:s.st with
 | nil=>
   rw [hs] at hst
   cases hr:r.st with
   | cons c l=>rw [hr] at hst;exact hst.elim
   | nil=>
     simp only
     cases hi:KB vs with
     | none=>trivial
     | some l=>show RStp.done ns= .done l;rw [yg hv hi]
 | cons c l=>
   rw [hs] at hst
   cases hr:r.st with
   | nil=>rw [hr] at hst;exact hst.elim
   | cons c' l'=>
     rw [hr] at hst;have S':SimF φ ⟨s.h,c,l,s.inp,s.out,s.fuel⟩ ⟨r.e,c',l',r.inp,r.out,r.fuel⟩:=⟨S.hr,hst.1,hst.2,S.inp,S.out,S.fuel⟩;exact Ng (S'.put hv)
def WA (m:Module):Prop:=∀(i j:Nat) (f:Fun) (b:Block),m.funcs[i]?=some f→f.blocks[j]?=some b→(∀x∈b.code,x.args.length≤16)∧1≤b.fin.op∧b.fin.op≤3
theorem lZ (hM:WA m)(S:SimF φ s r):MP (s.one m) (r.one m):=by
 unfold MS.one RS.one;obtain ⟨e1,e2,e3,hv⟩:=S.g;rw [←e1,←e2,←e3]
 cases hf:m.funcs[s.g.f]? with
 | none=>trivial
 | some f=>
   simp only
   cases hb:f.blocks[s.g.b]? with
   | none=>trivial
   | some b=>
     simp only;obtain ⟨c1,c2⟩:=hM _ _ _ _ hf hb
     cases hx:b.code[s.g.i]? with
     | none=>exact lY S c2
     | some x=>
       have S':SimF φ s.next r.next:=⟨S.hr,⟨e1,e2,by show s.g.i+1=r.g.i+1;omega,hv⟩,S.st,S.inp,S.out,S.fuel⟩;exact lX S' (c1 _ (EK hx))
theorem fV (S:SimF φ s r):SimF φ s.tick r.tick:=⟨S.hr,S.g,S.st,S.inp,S.out,by show s.fuel+1=r.fuel+1;rw [S.fuel]⟩
theorem Z1 {inp:List Int}{pages:Nat}(hp:pages≤64):yf (MS.start inp pages) (RS.start inp pages):=by
 have hreg:∀k:Nat,k<16→(EstS.mk0 pages).reg k=Reg.none:=fun k hk=>by
  unfold EstS.reg;rw [Qip V,Fa,EL];show ((List.replicate 16 Reg.none)[k]?).getD Reg.none=_;rw [GI,Qip hk];rfl
 have hno:∀q:Int,(⟨[],pages⟩:HpS).has q=false:=fun q=>by
  unfold HpS.has HpS.reg;split<;>simp [Rgn.none]
 refine ⟨⟨fun _=>0,fun _ _=>0⟩,⟨JF hp,?_,rfl,fun q hq=>?_,fun q _ hq=>?_,fun k hk hpg=>?_,fun q t x hx=>?_,fun q t x _ _ _ hx=>?_,fun q t x hx=>?_⟩,⟨rfl,rfl,rfl,LX.nil _ _⟩,trivial,rfl,rfl,rfl⟩
 · show (pages:Int)=((Pp pages pages).length:Int);rw [nL]
 · exact absurd ((hno _).symm.trans hq) Js
 · exact absurd ((hno _).symm.trans hq) Js
 · exact absurd (by show ((EstS.mk0 pages).reg k).pages=[];rw [hreg k hk];rfl) hpg
 · exact absurd ((hno _).symm.trans hx.1) Js
 · exact absurd ((hno _).symm.trans hx.1) Js
 · exact absurd ((hno _).symm.trans hx.1) Js
end
end Go.Proofs.YteflkifmgnpbhaaGreat
