
/- Lemmas of the proof, part 5: what the functions of the program do (contracts), and what follows. -/
import Derived.Test.YteflkifmgnpbhaaGreatZ2
import Derived.Test.YteflkifmgnpbhaaGreatZ4
import Derived.Test.YteflkifmgnpbhaaGreatZ3
open Go Go.Lir Go.Proofs.YteflkifmgnpbhaaGreat
variable {α β:Type}{t:Thg}{cs ds:List Value}{m:Module}{l l2:List Val}{vf u:Value}{g:LX}{a kd left:Int}{q d p1 p2 p3 fields:Nat}{p:α→Prop}{ms:Array (String×TypeId)}{X:RStp}{s:EstS}{ys ns:List Int}{h':HpS}
set_option linter.unusedVariables false
set_option linter.unusedSimpArgs false
set_option maxHeartbeats 1000000
namespace Go.Lir
section
variable {p:Prop}
theorem Dr (h:p:=by rw [e];assumption):p:=h
theorem Dx (h:p:=by rw [RW];decide):p:=h
theorem Dy (h:p:=by intro h;cases h):p:=h
theorem DA (h:p:=by rw [NI (c:=1) (by unfold QI;rw [if_pos Jo]) Jd];simp):p:=h
theorem DB (h:p:=by rw [e];simp):p:=h
theorem DC (h:p:=by unfold QB;rw [if_pos Jo]):p:=h
theorem DD (h:p:=by unfold QI;rw [if_pos Jo]):p:=h
theorem DF (h:p:=by unfold QI;rw [if_neg Jo,if_pos Ja]):p:=h
theorem DH (h:p:=by unfold QB;rw [if_neg Jo,if_pos Ja]):p:=h
theorem DL (h:p:=by unfold QI;rw [if_neg Jo,if_neg Ja,if_pos Ja]):p:=h
theorem DP (h:p:=by unfold QB;rw [if_neg Jo,if_neg Jo,if_pos (hq.1 rfl)]):p:=h
theorem DU (h:p:=by unfold QI;rw [if_neg Jo,if_neg Ja,if_neg Ja,if_pos Jo]):p:=h
theorem DY (h:p:=by rw [←hhas];exact hh):p:=h
theorem D1 (h:p:=by unfold QB;rw [if_neg Jo,if_neg Jo,if_neg (fun h=>Bool.noConfusion (hq.2 h)),if_pos Jo]):p:=h
theorem D4 (h:p:=by unfold Thg.off Thg.size L9;split<;>(try split)<;>omega):p:=h
theorem Ec (h:p:=by rw [hd,Q1 hx3,Q47 Ja]):p:=h
theorem Eg (h:p:=by unfold QI;rw [if_neg k1,if_neg k2,if_neg k3,if_neg k4,if_pos];refine ⟨hf0,?_⟩;rw [FM Jo] at hq2;refine FW fun h=>?_;have:=hq2.2 ⟨Jo,Jo,fun t ht=>FW fun hk=>h (.inr (.inr ⟨t,ht,hk⟩))⟩;cases this):p:=h
theorem Ej (h:p:=by intro m;exact TypeDesc.noConfusion):p:=h
theorem Eo (h:p:=by have:=h5 hk;omega):p:=h
theorem EH (h:p:=by intro h9;rw [h9] at hpp;simp at hpp):p:=h
theorem EI (h:p:=by unfold EstS.get;rw [if_pos hc,FJ]):p:=h
theorem EW (h:p:=by rw [hd,Fh Jo,ON]):p:=h
end
end Go.Lir
namespace Go.Lir
section
variable {p:Prop}
theorem AQ (h:p:=by exact ⟨⟨_,rfl⟩,rfl,hS.sp⟩):p:=h
theorem AX (h:p:=by exact hg.put tI h):p:=h
theorem A1 (h:p:=by exact lW hw hk (Qcm _) h):p:=h
theorem Br (h:p:=by exact ⟨_,zh,zh,by exact ⟨fun h=>Bool.noConfusion h,fun h=>absurd h.1 Jo⟩,hS.sp⟩):p:=h
theorem BX (h:p:=by exact .inl ⟨c.lv,c.iv,c.ov,fr,⟨g.f,e.yes.block.toNat,0,vv,vs⟩,s,inp,out,aj hv,hi,rfl,hS⟩):p:=h
theorem Cd (h:p:=by exact ⟨_,rfl,j,rfl,⟨fun _=>⟨x1,Fa hx1,hg⟩,fun _=>by omega⟩,hS.sp⟩):p:=h
theorem Ce (h:p:=by exact ⟨_,zh,zh,by exact ⟨fun h=>Bool.noConfusion h,fun h=>h.2.elim (fun h=>absurd h Ja) (fun h=>absurd Ja h)⟩,hS.sp⟩):p:=h
theorem Cl (h:p:=by exact ⟨_,zh,zh,by exact ⟨fun _=>⟨Jo, .inl Ja⟩,fun _=>rfl⟩,hS.sp⟩):p:=h
theorem Cm (h:p:=by exact ⟨0,_,_,zh,zh,Jo,by rw [F9],hS.sp⟩):p:=h
theorem Cv (h:p:=by exact H.apart r t x r' t' x' (hth r t x hx).2 (hth r' t' x' hx').2):p:=h
theorem CD (h:p:=by exact ⟨_,zh,zh,by exact ⟨fun _=>⟨Jo, .inr Ja⟩,fun _=>rfl⟩,hS.sp⟩):p:=h
theorem C7 (h:p:=by exact ⟨zh,zh,by unfold QI;rw [if_neg k1,if_neg k2,if_neg k3,if_neg k4,if_neg (fun h=>absurd h.1 Jo)],hS.sp⟩):p:=h
end
end Go.Lir
namespace Go.Lir
section
variable {p:Prop}
theorem Ai (h:p:=by first|exact Qt hS hel rfl fd (Qc fr g) (Qg fr g) rfl|exact Qt (j:=0) hS hel rfl fd (Qc fr g) (Qg fr g) rfl|exact Qt (j:=1) hS hel rfl fd (Qc fr g) (Qg fr g) rfl|exact Qt (j:=2) hS hel rfl fd (Qc fr g) (Qg fr g) rfl):p:=h
end
end Go.Lir
namespace Go.Proofs.YteflkifmgnpbhaaGreat
open Go.Lir
attribute [local irreducible] LC.wp Q0 Qs Qi KN QD LO.wp Q7 Calls
attribute [local irreducible] KR K2 Sw Oj Qx Nd Nl Qy QB QI Pp Sx PT O2
variable {cx:Cx}{w:World}{L:List Res}{i:Nat}
theorem Vg (c:Int):(if decide (c≠0)=true then c else 0)=c:=by by_cases h:c=0<;>simp [h]
theorem ak {x:Fun}{t:To}{is:Bool}(hx:KD.at cx cs x)(ht:toR.at cx ds t)(hS:St cx w L):
 Kf Tryz.prog Ut [.agg ⟨cs⟩, .agg ⟨ds⟩, .bool is] w fun u w'=>u= .int .i64 (Nd x.blocks.length t is)∧St cx w' L:=by
 obtain ⟨vp,vr,vb,rfl,hp,hr,hb⟩:=QH hx;obtain ⟨v1,v2,rfl,h1,h2⟩:=ZU ht;have hlb:=hb.len;have hb1:=h1.len;have hb2:=h2.len;unfold Nd
 cases is with
 | false=>
   ((refine Kq Ko Tryz.func156 ?_;refine' KY;intro p3 w1 hS;refine zb hS ?_;intro p4 w1 hS;refine' OX;refine' Nv;refine' Ki;refine' NH;first|(refine' QO)|(refine' QU)|(refine' Ad<;>intro hc));all_goals (refine' RM;refine' PH;refine' NM;refine' iR;first|refine' Kj|(refine' Kl;(first|(refine' QV)|(refine' QW)|(refine' Af<;>intro hc)))));all_goals (refine' Ll)
   all_goals
    first
    | (refine' Ki;all_goals (refine' KQ);all_goals (refine ⟨_,rfl,?_,hS.sp⟩;(rw [if_pos rfl];first|rw [if_pos Jo]|rw [if_neg Jo]);done))
    | (refine' Kk;refine' Kx)
   refine' KQ;(refine ⟨_,rfl,?_,hS.sp⟩;(rw [if_pos rfl];first|rw [if_pos Jo]|rw [if_neg Jo]);done)
 | true=>
   ((refine Kq Ko Tryz.func156 ?_;refine' KY;intro p3 w1 hS;refine zb hS ?_;intro p4 w1 hS;refine' OX;refine' Nv;refine' Pj;refine' NH;first|(refine' KX)|(refine' K1)|(refine' Ae<;>intro hc));all_goals (refine' S2;refine' NM;first|refine' Kj|(refine' Kl;(first|(refine' Ml)|(refine' MN)|(refine' Ag<;>intro hc)))));all_goals (refine' Ll)
   all_goals
    first
    | (refine' Ki;all_goals (refine' KQ);all_goals (refine ⟨_,rfl,?_,hS.sp⟩;rw [if_neg Bool.noConfusion];(repeat (first|rw [if_pos Jo]|rw [if_neg Jo]));done))
    | (refine' Kk;refine' Kx)
   ((refine' NH;refine' zL;first|(refine' QV)|(refine' QW)|(refine' Af<;>intro hc));all_goals (refine' RM;first|refine' Kj|(refine' Kl;(first|(refine' QV)|(refine' QW)|(refine' Af<;>intro hc)))));all_goals (refine' Ll)
   all_goals
    first
    | (refine' Ki;all_goals (refine' KQ);all_goals (refine ⟨_,rfl,?_,hS.sp⟩;rw [if_neg Bool.noConfusion];(repeat (first|rw [if_pos Jo]|rw [if_neg Jo]));done))
    | (refine' Kk;refine' Kx)
   refine' KQ;(refine ⟨_,rfl,?_,hS.sp⟩;rw [if_neg Bool.noConfusion];(repeat (first|rw [if_pos Jo]|rw [if_neg Jo]));done)
theorem Vh {x:Fun}{e:Tail}(hx:KD.at cx cs x)(he:Lo.at cx ds e)(hS:St cx w L):
 Kf Tryz.prog yo [.agg ⟨cs⟩, .agg ⟨ds⟩] w fun u w'=>u= .int .i64 (Nl x.blocks.length e)∧St cx w' L:=by
 ((obtain ⟨vp,vr,vb,rfl,hp,hr,hb⟩:=QH hx;obtain ⟨v1,v2,v3,v4,v5,rfl,h1,h2,h3,h4,h5⟩:=Rj he;have s5:=h5.len;unfold Nl;refine Kq Ko Tryz.func96 ?_;refine' KY;intro p2 w1 hS;refine zb hS ?_;intro p3 w1 hS;refine' Ms;refine' Mn;first|(refine' KX)|(refine' K1)|(refine' Ae<;>intro hc));all_goals (refine' Md;first|refine' Kj|(refine' Kl;(first|(refine' QV)|(refine' QW)|(refine' Af<;>intro hc)))));all_goals (refine' Ll)
 all_goals
  first
  | (refine' Ki;all_goals (refine' KQ);all_goals (refine ⟨_,rfl,?_,hS.sp⟩;rw [if_pos Jo];done))
  | (refine' Kk;refine' Kx)
 refine Sj hS [2,3] (fun A LL ρ' w'=>Kn ρ' A∧Kn ρ' []∧(¬(e.op<1∨3<e.op))∧(¬(e.op≠2∧e.a≠0∨e.op≠3∧0<e.args.length))∧St cx w' (LL)) ?_ ?_
 · skip
   ((((refine' Mn;first|(refine' QO)|(refine' QU)|(refine' Ad<;>intro hc));all_goals (refine' Md;first|refine' Kj|(refine' Kl;(first|(refine' QO)|(refine' QU)|(refine' Ad<;>intro hc)))));all_goals (refine' Lu;refine' RM;first|refine' Kj|(refine' Kl;(first|(refine' QV)|(refine' QW)|(refine' Af<;>intro hc)))));all_goals (refine' XX;first|refine' Kj|(refine' Kl;(first|(refine' QO)|(refine' QU)|(refine' Ad<;>intro hc)))));all_goals (refine' Z1;refine' Ll)
   all_goals
    first
    | (refine' Ki;all_goals (refine' KQ);all_goals (first|(refine ⟨_,rfl,?_,hS.sp⟩;rw [if_pos Jo];done)|(refine ⟨_,rfl,?_,hS.sp⟩;rw [if_neg Jo,if_pos Jo];done)))
    | (refine' Kk;all_goals refine' Kx)
   all_goals (exact ⟨zh,zh,Jo,Jo,hS.sp⟩)
 (rintro ρ w1 ⟨hA,hρ,k1,k2,hS⟩;obtain ⟨ρ,rfl⟩:=Kp hA hρ;refine' NH;refine' zL;first|(refine' QV)|(refine' QW)|(refine' Af<;>intro hc));all_goals (refine' zn)
 all_goals
  first
  | (refine' Ki;refine' KQ;first|(refine ⟨_,rfl,?_,hS.sp⟩;rw [if_pos Jo];done)|(refine ⟨_,rfl,?_,hS.sp⟩;rw [if_neg Jo,if_pos Jo];done)|(refine ⟨_,rfl,?_,hS.sp⟩;rw [if_neg k1,if_neg k2,if_pos Jo];done))
  | (refine' Kk;refine' Kx)
 (refine QA ?_;refine' MU;refine' OV;refine' KZ;refine Xn rfl rfl ?_;refine' Lg (c:=ak (t:=e.yes) hx ⟨_,_,rfl,h1,h2⟩ hS);rintro v1 w1 ⟨rfl,hS⟩;refine' L6;first|(refine' QO)|(refine' QU)|(refine' Ad<;>intro hc));all_goals (refine' zn)
 all_goals
  first
  | (refine' Ki;refine' SX;first|(refine ⟨_,rfl,?_,hS.sp⟩;rw [if_pos Jo];done)|(refine ⟨_,rfl,?_,hS.sp⟩;rw [if_neg Jo,if_pos Jo];done)|(refine ⟨_,rfl,?_,hS.sp⟩;rw [if_neg k1,if_neg k2,if_pos Jo];done)|(refine ⟨_,rfl,?_,hS.sp⟩;(rw [if_neg k1,if_neg k2,if_neg Jo];first|rw [PW Ja]|(rw [FP.1 (by assumption:¬Nd x.blocks.length e.yes (decide (e.op≠3))≠0),Pr]));done))
  | (refine' Kk;refine' Kx)
 refine' MU;refine' OV;refine' KZ;refine hZ rfl rfl ?_;refine' Lg (c:=ak (t:=e.no) hx ⟨_,_,rfl,h3,h4⟩ hS);rintro v1 w1 ⟨rfl,hS⟩;refine' La;(first|(refine ⟨_,rfl,?_,hS.sp⟩;rw [if_pos Jo];done)|(refine ⟨_,rfl,?_,hS.sp⟩;rw [if_neg Jo,if_pos Jo];done)|(refine ⟨_,rfl,?_,hS.sp⟩;rw [if_neg k1,if_neg k2,if_pos Jo];done)|(refine ⟨_,rfl,?_,hS.sp⟩;(rw [if_neg k1,if_neg k2,if_neg Jo];first|rw [PW Ja]|(rw [FP.1 (by assumption:¬Nd x.blocks.length e.yes (decide (e.op≠3))≠0),Pr]));done))
theorem dw {x:Ins}(hm:Ls.at cx cs m)(hx:Lb.at cx ds x)(hS:St cx w L):Kf Tryz.prog Uu [.agg ⟨cs⟩, .agg ⟨ds⟩] w fun u w'=>u= .int .i64 (Qx m.funcs.length x)∧St cx w' L:=by
 obtain ⟨vf,rfl,hf⟩:=NR hm;obtain ⟨a0,n0,rfl⟩:=Fx hf;have hx':=hx;obtain ⟨vr,va,rfl,hr,ha⟩:=Nx hx;refine Kq Ko Tryz.func204 ?_;refine' KY;intro p2 w1 hS;refine zb hS ?_;intro p3 w1 hS;refine' KA;refine' MU;refine Pg [_,_,_,_] ?_;refine zb hS ?_;intro p8 w1 hS;refine' L6;refine zv hS ?_;refine' Kr (c:=Z7 (g:=(0,0)) (at':=0) hx' hf hS KU);rintro v1 w1 ⟨rfl,hS⟩;simp only [Fi] at hS;rw [Mg (Sv _ _)] at hS;simp only [MO,RW] at hS;refine' LN;refine' PN;refine' La;(((refine ⟨_,rfl,?_,hS.sp⟩;(rfl);done)))
theorem dx {x:Fun}{e:Tail}(hx:KD.at cx cs x)(he:Lo.at cx ds e)(hS:St cx w L):Kf Tryz.prog Uv [.agg ⟨cs⟩, .agg ⟨ds⟩] w fun u w'=>u= .int .i64 (Nl x.blocks.length e)∧St cx w' L:=by
 have hx':=hx;have he':=he;obtain ⟨vp,vr,vb,rfl,hp,hr,hb⟩:=QH hx;obtain ⟨v1,v2,v3,v4,v5,rfl,h1,h2,h3,h4,h5⟩:=Rj he;refine Kq Ko Tryz.func208 ?_;refine' KY;intro p2 w1 hS;refine zb hS ?_;intro p3 w1 hS;refine' KA;refine' Kv;refine L0 [_,_,_,_] ?_;refine zb hS ?_;intro p7 w1 hS;refine' L6;refine zv hS ?_;refine zv hS ?_;refine' Lg (c:=Z8 (g:=(0,0)) (at':=0) hx' he' hS fd);rintro v1 w1 ⟨rfl,hS⟩;have hS:=hS.ns;rw [Mg (Sv _ _)] at hS;simp only [MO,RW] at hS;refine' LN;refine' PN;refine' La;(((refine ⟨_,rfl,?_,hS.sp⟩;(rfl);done)))
theorem pF {l:List Ty}{regs:Int}{v:Value}{at':Int}{b:Nat}(hl:Ku.sl cx v l)(hS:St cx w L)(hi:nth L i=some (MO b vf g at')):
 Kf Tryz.prog yw [.pointer (some ⟨b,0,none⟩),v, .int .i64 regs] w fun u w'=>u= .tuple #[]∧St cx w' (L.set i (MO b vf (KR g (K2 (Qy l regs) at')) at')):=by
 have hS:=hS.out hi;have hlen:=hl.len
 have e0:KR g (K2 (Qy l regs) at')=KR g (K2 (Sw (if 8<l.length then 2 else 0) (Rs regs l)) at'):=by
  congr 2;unfold Qy;split
  · rw [PW Jd]
  · rw [Pr]
 rw [e0];refine Kq Ko Tryz.func105 ?_;refine zM [0,1,2] (fun A ρ' w'=>Kn ρ' A∧Kn ρ' []∧St cx w' (MO b vf (KR g (K2 (if 8<l.length then 2 else 0) at')) at'::L.eraseIdx i)) ?_ ?_
 · skip;(refine' MZ;refine' zL;first|(refine' QV)|(refine' QW)|(refine' Af<;>intro hc));all_goals (refine' Lg (c:=Oo Dj hS fd);rintro v1 w1 ⟨rfl,hS⟩;simp only [Fi,Fo,if_true,Fs,if_false] at hS;refine' zn;exact AY)
 rintro ρ w1 ⟨hA,hρ,hS⟩;obtain ⟨ρ,rfl⟩:=Kp hA hρ;refine' KP;refine' Oh;refine zo [0,2,14,15] (fun A ρ' w'=>∃(j:Nat) (h:LX),Kn ρ' A∧Kn ρ' [(16, .int .i64 j)]∧(j≤l.length)∧(KR g (K2 (Sw (if 8<l.length then 2 else 0) (Rs regs l)) at')=KR h (K2 (Rs regs (l.drop j)) at'))∧St cx w' (MO b vf h at'::L.eraseIdx i)) (fun ρ' _=>(l.length - iv (ρ' 16)).toNat) ?_ ?_
 · exact ⟨0,_,zh,zh,Jo,by rw [F9,O1],hS.sp⟩
 rintro ρ w1 ⟨j,h,hA,hρ,hj,hd,hS⟩;obtain ⟨ρ,rfl⟩:=Kp hA hρ;refine' MH;refine' Ab<;>intro hc
 · skip;refine' WW;intro b1 o1 cs1 x1 hat1 hx1 he1;obtain ⟨vl1,rfl,hl1⟩:=Qf he1;refine' NN;intro p7 w1 hS;refine Kt hS ?_;intro w1 hS;have hS:=hS.ns;refine' Sr;refine' zm;refine' Kr (c:=tj Ja hS);rintro v1 w1 ⟨rfl,hS⟩;refine' KA;refine' MZ;refine Xn rfl rfl ?_;refine' zm;refine' Lg (c:=Oo (by intro h;exact of_decide_eq_true h) hS fd);rintro v1 w1 ⟨rfl,hS⟩;simp only [Fi,Fo,Vg] at hS;refine' Rr;(exact ⟨⟨j+1,_,zh,zh,Jo,by rw [hd,Q1 hx1,Rs,←O1],hS.sp⟩,Qj Jo⟩)
 · skip;refine' L8;refine' LJ;refine ⟨_,rfl,rfl,?_⟩;rw [hd,Fh Jo,Rs,ME,fX rfl];exact Gn hS hi
def KG (g:LX):Value:= .agg ⟨[.int .i64 g.1, .int .i64 g.2]⟩
theorem Vi {f b:Nat}{x:Fun}{y:Block}(hxf:m.funcs[f]?=some x)(hyb:x.blocks[b]?=some y)(hf0:f≤1000000)(hb0:b≤1000000)(hlc:y.code.length≤100000)(hm:Ls.at cx cs m)(hS:St cx w L):
 Kf Tryz.prog yc [.agg ⟨cs⟩, .int .i64 f, .int .i64 b] w fun u w'=>u=KG (OC m.funcs.length f x b y)∧St cx w' L:=by
 ((have hm':=hm;obtain ⟨vf,rfl,hf⟩:=NR hm;have hflt:=(E8.1 hxf).1;have hblt:=(E8.1 hyb).1;refine Kq Ko Tryz.func68 ?_;refine' KY;intro p3 w1 hS;refine Qd hS ?_;intro p6 w1 hS;refine' NA;refine' PM;intro b1 o1 cs1 x1 hat1 hx1 he1;obtain ⟨vp1,vr1,vb1,rfl,hp1,hr1,hb1⟩:=QH he1;refine' NN;intro p7 w1 hS;refine Kt hS ?_;intro w1 hS;have hS:=hS.ns;refine' zn;have e1:x=x1:=Fm (hxf.symm.trans hx1);subst e1;refine' Ue;intro b2 o2 cs2 x2 hat2 hx2 he2;obtain ⟨vp2,vc2,ve21,ve22,ve23,ve24,ve25,rfl,hp2,hc2,he21,he22,he23,he24,he25⟩:=RJ he2;refine' NN;intro p8 w1 hS;refine Kt hS ?_;intro w1 hS;have hS:=hS.ns;refine' zn;have e2:y=x2:=Fm (hyb.symm.trans hx2);subst e2;refine' NH;refine' KZ;first|(refine' KX)|(refine' K1)|(refine' Ae<;>intro hc));all_goals (refine' Md;first|refine' Kj|(refine' Kl;(first|(refine' QV)|(refine' QW)|(refine' Af<;>intro hc)))));all_goals (refine' Ll)
 all_goals
  first
  | (refine' Ki;all_goals (refine' Lc;refine' Kr (c:=lV f b hf0 hb0 hS);rintro v1 w1 ⟨rfl,hS⟩;refine' Kr (c:=M5 hS);rintro v1 w1 ⟨rfl,hS⟩;refine Kt hS ?_;intro w1 hS;have hS:=hS.ns;refine' Lz;refine LF vw (Q2 (n:=2) Jk Jk (hS.blkAt fd) Jr Jr) ?_);all_goals (refine ⟨_,rfl,?_,hS.sp⟩;rw [Ol (c:=1) DC Jd];rfl;done))
  | (refine' Kk;refine' Kx)
 (refine' NH;refine' KZ;refine' Kr (c:=pE Ja hS);rintro v1 w1 ⟨rfl,hS⟩;refine' L6;first|(refine' QO)|(refine' QU)|(refine' Ad<;>intro hc));all_goals (refine' zn)
 all_goals
  first
  | (refine' Ki;refine' Lc;refine' zm;refine' Kr (c:=lV f b hf0 hb0 hS);rintro v1 w1 ⟨rfl,hS⟩;refine' Kr (c:=M5 hS);rintro v1 w1 ⟨rfl,hS⟩;refine Kt hS ?_;intro w1 hS;have hS:=hS.ns;refine' Lz;refine LF vw (Q2 (n:=2) Jk Jk (hS.blkAt fd) Jr Jr) ?_;first|(refine ⟨_,rfl,?_,hS.sp⟩;rw [Ol (c:=1) DC Jd];rfl;done)|(refine ⟨_,rfl,?_,hS.sp⟩;rw [Ol (c:=Qy y.params y.regs) DH Ja];rfl;done))
  | (refine' Kk;refine' Kx)
 refine QA ?_;refine' Kv;refine PF hS 17 [1,2,3,6,7,8] (fun A LL ρ' w'=>∃(q:Bool),Kn ρ' A∧Kn ρ' [(65, .bool q)]∧(q=true↔(b=0∧(y.regs≠x.regs∨y.params≠x.params)))∧St cx w' (LL)) ?_ ?_
 · skip;(refine' zm;first|(refine' Ql)|(refine' Qp)|(refine' Ac<;>intro hc));all_goals (refine' S2;first|refine' Kj|(refine' Kl;(first|(refine' QO)|(refine' QU)|(refine' Ad<;>intro hc))));all_goals (refine' XX;refine' PH;first|refine' Kj|(refine' Kl;refine' Kr (c:=UK hp2 hp1 hS);rintro v1 w1 ⟨rfl,hS⟩;(cases hdec:decide (y.params=x.params));have hg:=of_decide_eq_false hdec;rotate_left;have hg:=of_decide_eq_true hdec;all_goals skip));all_goals (refine' PG;refine' RN;first|(exact Cl)|(exact CD)|(exact Br)|(exact Ce))
 rintro ρ w1 ⟨q,hA,hρ,hq,hS⟩;obtain ⟨ρ,rfl⟩:=Kp hA hρ;refine' zn;cases q
 all_goals
  first
  | (refine' Ki;refine' Lc;refine' Kr (c:=lV f b hf0 hb0 hS);rintro v1 w1 ⟨rfl,hS⟩;refine' Kr (c:=M5 hS);rintro v1 w1 ⟨rfl,hS⟩;refine Kt hS ?_;intro w1 hS;have hS:=hS.ns;refine' Lz;refine LF vw (Q2 (n:=2) Jk Jk (hS.blkAt fd) Jr Jr) ?_;first|(refine ⟨_,rfl,?_,hS.sp⟩;rw [Ol (c:=1) DC Jd];rfl;done)|(refine ⟨_,rfl,?_,hS.sp⟩;rw [Ol (c:=Qy y.params y.regs) DH Ja];rfl;done)|(refine ⟨_,rfl,?_,hS.sp⟩;rw [Ol (c:=9) DP Jd];rfl;done))
  | (refine' Kk;refine' Kx)
 refine Sj hS [1,2,3,6,7,8] (fun A LL ρ' w'=>Kn ρ' A∧Kn ρ' []∧(QB x b y=0)∧St cx w' (LL)) ?_ ?_
 · skip
   (refine' WX;first|(refine' QV)|(refine' QW)|(refine' Af<;>intro hc));all_goals (refine' zn)
   all_goals
    first
    | (refine' Ki;refine' Lc;refine' Kr (c:=lV f b hf0 hb0 hS);rintro v1 w1 ⟨rfl,hS⟩;refine' Kr (c:=M5 hS);rintro v1 w1 ⟨rfl,hS⟩;refine Kt hS ?_;intro w1 hS;have hS:=hS.ns;refine' Lz;refine LF vw (Q2 (n:=2) Jk Jk (hS.blkAt fd) Jr Jr) ?_;first|(refine ⟨_,rfl,?_,hS.sp⟩;rw [Ol (c:=1) DC Jd];rfl;done)|(refine ⟨_,rfl,?_,hS.sp⟩;rw [Ol (c:=Qy y.params y.regs) DH Ja];rfl;done)|(refine ⟨_,rfl,?_,hS.sp⟩;rw [Ol (c:=9) DP Jd];rfl;done)|(refine ⟨_,rfl,?_,hS.sp⟩;rw [Ol (c:=2) D1 Jd];rfl;done))
    | (refine' Kk;refine' Kx)
   (exact ⟨zh,zh,by unfold QB;rw [if_neg Jo,if_neg Jo,if_neg (fun h=>Bool.noConfusion (hq.2 h)),if_neg Jo],hS.sp⟩)
 rintro ρ w1 ⟨hA,hρ,hh,hS⟩;obtain ⟨ρ,rfl⟩:=Kp hA hρ;refine' NO;refine MB hS [1,2,3,6,7,8] (fun A LL ρ' w'=>∃(j:Nat),Kn ρ' A∧Kn ρ' [(10, .int .i64 j)]∧(j≤y.code.length)∧(ON m.funcs.length f b 0 y.code=ON m.funcs.length f b j (y.code.drop j))∧St cx w' (LL)) (fun ρ' _=>(y.code.length - iv (ρ' 10)).toNat) ?_ ?_
 · exact Ay
 rintro ρ w1 ⟨j,hA,hρ,hj,hd,hS⟩;obtain ⟨ρ,rfl⟩:=Kp hA hρ;refine' Uf;refine' Ab<;>intro hc
 · skip
   (refine' Ub;refine zD (ci 8 [6,7]) ?_;have hS:=hS.drew;refine zv hS ?_;refine' KZ;refine' PM;intro b3 o3 cs3 x3 hat3 hx3 he3;obtain ⟨vr3,va3,rfl,hr3,ha3⟩:=Nx he3;refine' Oa;refine' Kr (c:=Vf hm' Ja hS);rintro v1 w1 ⟨rfl,hS⟩;refine' L6;first|(refine' QO)|(refine' QU)|(refine' Ad<;>intro hc));all_goals (refine' zn)
   all_goals
    first
    | (refine' Ki;refine' Lc;refine' MV;refine' Lg (c:=tH f b j hf0 hb0 Jo hS);rintro v1 w1 ⟨rfl,hS⟩;refine' Kr (c:=M5 hS);rintro v1 w1 ⟨rfl,hS⟩;refine Kt hS ?_;intro w1 hS;have hS:=hS.ns;refine' Lz;refine LF vw (Q2 (n:=2) Jk Jk (hS.blkAt fd) Jr Jr) ?_;first|(refine ⟨_,rfl,?_,hS.sp⟩;rw [Ol (c:=1) DC Jd];rfl;done)|(refine ⟨_,rfl,?_,hS.sp⟩;rw [Ol (c:=Qy y.params y.regs) DH Ja];rfl;done)|(refine ⟨_,rfl,?_,hS.sp⟩;rw [Ol (c:=9) DP Jd];rfl;done)|(refine ⟨_,rfl,?_,hS.sp⟩;rw [Ol (c:=2) D1 Jd];rfl;done)|(refine ⟨_,rfl,?_,hS.sp⟩;rw [oV (F:=(Qx m.funcs.length x3,O2 f b j)) hh Ec Ja];rfl;done))
    | (refine' Kk;refine' Kx)
   refine' Mt;(exact ⟨⟨j+1,zh,zh,Jo,by rw [hd,Q1 hx3,Qac Jo],hS.sp⟩,Qj Jo⟩)
 · skip
   (refine' L8;refine QA ?_;refine' MU;refine' OV;refine' Kr (c:=Vh (e:=y.fin) he1 ⟨_,_,_,_,_,rfl,he21,he22,he23,he24,he25⟩ hS);rintro v1 w1 ⟨rfl,hS⟩;refine' L6;first|(refine' QO)|(refine' QU)|(refine' Ad<;>intro hc));all_goals (refine' zn)
   all_goals
    first
    | (refine' Ki;refine' Lc;refine' zm;refine' Kr (c:=tG f b hf0 hb0 hS);rintro v1 w1 ⟨rfl,hS⟩;refine' Kr (c:=M5 hS);rintro v1 w1 ⟨rfl,hS⟩;refine Kt hS ?_;intro w1 hS;have hS:=hS.ns;refine' Lz;refine LF vw (Q2 (n:=2) Jk Jk (hS.blkAt fd) Jr Jr) ?_;first|(refine ⟨_,rfl,?_,hS.sp⟩;rw [Ol (c:=1) DC Jd];rfl;done)|(refine ⟨_,rfl,?_,hS.sp⟩;rw [Ol (c:=Qy y.params y.regs) DH Ja];rfl;done)|(refine ⟨_,rfl,?_,hS.sp⟩;rw [Ol (c:=9) DP Jd];rfl;done)|(refine ⟨_,rfl,?_,hS.sp⟩;rw [Ol (c:=2) D1 Jd];rfl;done)|(refine ⟨_,rfl,?_,hS.sp⟩;rw [oV (F:=(Qx m.funcs.length x3,O2 f b j)) hh Ec Ja];rfl;done)|(refine ⟨_,rfl,?_,hS.sp⟩;(rw [UE hh EW];first|(rw [P9 Ja];rfl)|(rw [show Nl x.blocks.length y.fin=0 by omega,ME];rfl));done))
    | (refine' Kk;refine' Kx)
   refine' Kv;refine L0 [_,_] ?_;refine Kt hS ?_;intro w1 hS;have hS:=hS.ns;refine' Lz;refine LF vw (Q2 (n:=2) Jk Jk (hS.blkAt fd) Jr Jr) ?_;first|(refine ⟨_,rfl,?_,hS.sp⟩;rw [Ol (c:=1) DC Jd];rfl;done)|(refine ⟨_,rfl,?_,hS.sp⟩;rw [Ol (c:=Qy y.params y.regs) DH Ja];rfl;done)|(refine ⟨_,rfl,?_,hS.sp⟩;rw [Ol (c:=9) DP Jd];rfl;done)|(refine ⟨_,rfl,?_,hS.sp⟩;rw [Ol (c:=2) D1 Jd];rfl;done)|(refine ⟨_,rfl,?_,hS.sp⟩;rw [oV (F:=(Qx m.funcs.length x3,O2 f b j)) hh Ec Ja];rfl;done)|(refine ⟨_,rfl,?_,hS.sp⟩;(rw [UE hh EW];first|(rw [P9 Ja];rfl)|(rw [show Nl x.blocks.length y.fin=0 by omega,ME];rfl));done)
theorem Vj (hsh:m.Short)(hm:Ls.at cx cs m)(hS:St cx w L):
 Kf Tryz.prog xH [.agg ⟨cs⟩] w fun u w'=>u=KG m.fault∧St cx w' L:=by
 have hm':=hm;obtain ⟨vf,rfl,hf⟩:=NR hm;have hlf:=hf.len;have hsf:=hsh.2;unfold Module.fault;refine Kq Ko Tryz.func21 ?_;refine' KY;intro p1 w1 hS;refine Qd hS ?_;(intro p2 w1 hS);refine' zn;refine Sj hS [1,2] (fun A LL ρ' w'=>Kn ρ' A∧Kn ρ' []∧(1≤m.funcs.length∧m.funcs.length≤8)∧St cx w' (LL)) ?_ ?_
 · skip
   ((refine' WX;first|(refine' KX)|(refine' K1)|(refine' Ae<;>intro hc));all_goals (refine' RM;first|refine' Kj|(refine' Kl;(first|(refine' QV)|(refine' QW)|(refine' Af<;>intro hc)))));all_goals (refine' Ll)
   all_goals
    first
    | (refine' Ki;all_goals (refine' Kv;refine' Kr (c:=M5 hS);rintro v1 w1 ⟨rfl,hS⟩;refine Kt hS ?_;intro w1 hS;have hS:=hS.ns;refine' Lz;refine LF vw (Q2 (n:=2) Jk Jk (hS.blkAt fd) Jr Jr) ?_);all_goals (refine ⟨_,rfl,?_,hS.sp⟩;rw [if_pos Jo,OB Dx,P9 Jd];rfl;done))
    | (refine' Kk;refine' Kx)
   ((exact ⟨zh,zh,Jo,hS.sp⟩))
 rintro ρ w1 ⟨hA,hρ,hl8,hS⟩;obtain ⟨ρ,rfl⟩:=Kp hA hρ;refine' NO;refine MB hS [1,2] (fun A LL ρ' w'=>∃(f:Nat),Kn ρ' A∧Kn ρ' [(3, .int .i64 f)]∧(f≤m.funcs.length)∧(PU m.funcs.length 0 m.funcs=PU m.funcs.length f (m.funcs.drop f))∧St cx w' (LL)) (fun ρ' _=>(m.funcs.length - iv (ρ' 3)).toNat) ?_ ?_
 · exact Ay
 rintro ρ w1 ⟨f,hA,hρ,hj,hd,hS⟩;obtain ⟨ρ,rfl⟩:=Kp hA hρ;refine' Uf;refine' Ab<;>intro hc
 · skip
   ((refine' L4;refine' Ue;intro b1 o1 cs1 x1 hat1 hx1 he1;obtain ⟨vp1,vr1,vb1,rfl,hp1,hr1,hb1⟩:=QH he1;refine' NN;intro p4 w1 hS;refine Kt hS ?_;intro w1 hS;have hS:=hS.ns;refine' zn;have hsx:=hsf x1 (Fa hx1);have hlb:=hb1.len;have hlr:=hr1.len;refine' NH;first|(refine' KX)|(refine' K1)|(refine' Ae<;>intro hc));all_goals (refine' Md;first|refine' Kj|(refine' Kl;(first|(refine' QV)|(refine' QW)|(refine' Af<;>intro hc)))));all_goals (refine' Ll)
   all_goals
    first
    | (refine' Ki;all_goals (refine' KP;refine' KE (c:=jO f Jo hS);rintro v1 w1 ⟨rfl,hS⟩;refine' Kr (c:=M5 hS);rintro v1 w1 ⟨rfl,hS⟩;refine Kt hS ?_;intro w1 hS;have hS:=hS.ns;refine' Lz;refine LF vw (Q2 (n:=2) Jk Jk (hS.blkAt fd) Jr Jr) ?_);all_goals (first|(refine ⟨_,rfl,?_,hS.sp⟩;rw [if_pos Jo,OB Dx,P9 Jd];rfl;done)|(refine ⟨_,rfl,?_,hS.sp⟩;rw [if_neg Jo,ME,Mg Qv,hd,Q1 hx1];rw [Qo DA,NI (c:=1) DD Jd];rfl;done)))
    | (refine' Kk;refine' Kx)
   (refine' NH;refine' KZ;refine' Kr (c:=pE hp1 hS);rintro v1 w1 ⟨rfl,hS⟩;refine' L6;first|(refine' QO)|(refine' QU)|(refine' Ad<;>intro hc));all_goals (refine' zn)
   all_goals
    first
    | (refine' Ki;refine' Lc;refine' KE (c:=jO f Jo hS);rintro v1 w1 ⟨rfl,hS⟩;refine' Kr (c:=M5 hS);rintro v1 w1 ⟨rfl,hS⟩;refine Kt hS ?_;intro w1 hS;have hS:=hS.ns;refine' Lz;refine LF vw (Q2 (n:=2) Jk Jk (hS.blkAt fd) Jr Jr) ?_;first|(refine ⟨_,rfl,?_,hS.sp⟩;rw [if_pos Jo,OB Dx,P9 Jd];rfl;done)|(refine ⟨_,rfl,?_,hS.sp⟩;rw [if_neg Jo,ME,Mg Qv,hd,Q1 hx1];rw [Qo DA,NI (c:=1) DD Jd];rfl;done)|(refine ⟨_,rfl,?_,hS.sp⟩;have e:=NI (n:=m.funcs.length) (f:=f) (x:=x1) (c:=Qy x1.params x1.regs) DF Ja;rw [if_neg Jo,ME,Mg Qv,hd,Q1 hx1,Qo Dr,e];rfl;done))
    | (refine' Kk;refine' Kx)
   (refine' NH;refine' KZ;refine' Kr (c:=pE hr1 hS);rintro v1 w1 ⟨rfl,hS⟩;refine' L6;first|(refine' QO)|(refine' QU)|(refine' Ad<;>intro hc));all_goals (refine' zn)
   all_goals
    first
    | (refine' Ki;refine' Lc;refine' KE (c:=jO f Jo hS);rintro v1 w1 ⟨rfl,hS⟩;refine' Kr (c:=M5 hS);rintro v1 w1 ⟨rfl,hS⟩;refine Kt hS ?_;intro w1 hS;have hS:=hS.ns;refine' Lz;refine LF vw (Q2 (n:=2) Jk Jk (hS.blkAt fd) Jr Jr) ?_;first|(refine ⟨_,rfl,?_,hS.sp⟩;rw [if_pos Jo,OB Dx,P9 Jd];rfl;done)|(refine ⟨_,rfl,?_,hS.sp⟩;rw [if_neg Jo,ME,Mg Qv,hd,Q1 hx1];rw [Qo DA,NI (c:=1) DD Jd];rfl;done)|(refine ⟨_,rfl,?_,hS.sp⟩;have e:=NI (n:=m.funcs.length) (f:=f) (x:=x1) (c:=Qy x1.params x1.regs) DF Ja;rw [if_neg Jo,ME,Mg Qv,hd,Q1 hx1,Qo Dr,e];rfl;done)|(refine ⟨_,rfl,?_,hS.sp⟩;have e:=NI (n:=m.funcs.length) (f:=f) (x:=x1) (c:=Qy x1.results x1.regs) DL Ja;rw [if_neg Jo,ME,Mg Qv,hd,Q1 hx1,Qo Dr,e];rfl;done))
    | (refine' Kk;refine' Kx)
   refine Sj hS [1,2,3,4] (fun A LL ρ' w'=>Kn ρ' A∧Kn ρ' []∧(¬(x1.regs<0∨6<x1.regs))∧(¬Qy x1.params x1.regs≠0)∧(¬Qy x1.results x1.regs≠0)∧(¬(x1.blocks.length<1∨12<x1.blocks.length))∧St cx w' (LL)) ?_ ?_
   · skip
     ((refine' WX;first|(refine' KX)|(refine' K1)|(refine' Ae<;>intro hc));all_goals (refine' RM;first|refine' Kj|(refine' Kl;(first|(refine' QV)|(refine' QW)|(refine' Af<;>intro hc)))));all_goals (refine' Ll)
     all_goals
      first
      | (refine' Ki;all_goals (refine' KP;refine' KE (c:=jO f Jo hS);rintro v1 w1 ⟨rfl,hS⟩;refine' Kr (c:=M5 hS);rintro v1 w1 ⟨rfl,hS⟩;refine Kt hS ?_;intro w1 hS;have hS:=hS.ns;refine' Lz;refine LF vw (Q2 (n:=2) Jk Jk (hS.blkAt fd) Jr Jr) ?_);all_goals (first|(refine ⟨_,rfl,?_,hS.sp⟩;rw [if_pos Jo,OB Dx,P9 Jd];rfl;done)|(refine ⟨_,rfl,?_,hS.sp⟩;rw [if_neg Jo,ME,Mg Qv,hd,Q1 hx1];rw [Qo DA,NI (c:=1) DD Jd];rfl;done)|(refine ⟨_,rfl,?_,hS.sp⟩;have e:=NI (n:=m.funcs.length) (f:=f) (x:=x1) (c:=Qy x1.params x1.regs) DF Ja;rw [if_neg Jo,ME,Mg Qv,hd,Q1 hx1,Qo Dr,e];rfl;done)|(refine ⟨_,rfl,?_,hS.sp⟩;have e:=NI (n:=m.funcs.length) (f:=f) (x:=x1) (c:=Qy x1.results x1.regs) DL Ja;rw [if_neg Jo,ME,Mg Qv,hd,Q1 hx1,Qo Dr,e];rfl;done)|(refine ⟨_,rfl,?_,hS.sp⟩;have e:=NI (n:=m.funcs.length) (f:=f) (x:=x1) (c:=2) DU Jd;rw [if_neg Jo,ME,Mg Qv,hd,Q1 hx1,Qo DB,e];rfl;done)))
      | (refine' Kk;refine' Kx)
     ((exact ⟨zh,zh,Jo,by assumption,by assumption,Jo,hS.sp⟩))
   rintro ρ w1 ⟨hA,hρ,k1,k2,k3,k4,hS⟩;obtain ⟨ρ,rfl⟩:=Kp hA hρ;refine Sj hS [1,2,3,4] (fun A LL ρ' w'=>Kn ρ' A∧Kn ρ' []∧(QI f x1=0)∧St cx w' (LL)) ?_ ?_
   · skip
     (refine' KP;first|(refine' Ql)|(refine' Qp)|(refine' Ac<;>intro hc));all_goals (refine' zn)
     all_goals
      first
      | (refine' Ki
         refine' Kv;refine PF hS 9 [1,2,3,4] (fun A LL ρ' w'=>∃(q:Bool),Kn ρ' A∧Kn ρ' [(90, .bool q)]∧(q=true↔(x1.regs=0∧x1.params.length=0))∧St cx w' (LL)) ?_ ?_
         · skip;(refine' KZ;first|(refine' Ql)|(refine' Qp)|(refine' Ac<;>intro hc));all_goals (refine' RM;first|refine' Kj|(refine' Kl;(first|(refine' Ql)|(refine' Qp)|(refine' Ac<;>intro hc))));all_goals (refine' lI;first|(exact ⟨_,zh,zh,by exact ⟨fun _=>⟨Jo,Jo⟩,fun _=>rfl⟩,hS.sp⟩)|(exact ⟨_,zh,zh,by exact ⟨fun h=>Bool.noConfusion h,fun h=>by omega⟩,hS.sp⟩))
         rintro ρ w1 ⟨q,hA,hρ,hq,hS⟩;obtain ⟨ρ,rfl⟩:=Kp hA hρ;refine' Ms;refine' SU;refine MB hS [1,2,3,4] (fun A LL ρ' w'=>∃(i:Nat) (q:Bool),Kn ρ' A∧Kn ρ' [(7, .bool q),(8, .int .i64 i)]∧(i≤x1.results.length)∧(q=true↔(x1.regs=0∧x1.params.length=0∧∀t∈x1.results.take i,t.kind=1))∧(f=0)∧St cx w' (LL)) (fun ρ' _=>(x1.results.length - iv (ρ' 8)).toNat) ?_ ?_
         · exact ⟨0,q,zh,zh,Jo,by rw [hq];simp,Jo,hS.sp⟩
         rintro ρ w1 ⟨i,q,hA,hρ,hi,hq2,hf0,hS⟩;obtain ⟨ρ,rfl⟩:=Kp hA hρ;refine' Uf;refine' Ab<;>intro hc
         · skip;refine' L4;cases q;all_goals (refine' LV;refine' Md;refine' Mc;(first|refine' Kj|(refine' Kl;refine' zi;intro b2 o2 cs2 x2 hat2 hx2 he2;obtain ⟨vl2,rfl,hl2⟩:=Qf he2));refine' MT;refine' iN;first|refine' Kj|(refine' Kl;(first|(refine' Ql)|(refine' Qp)|(refine' Ac<;>intro hc))));all_goals (refine' Lu;refine' KA;refine' Mt;first|(exact ⟨⟨i+1,false,zh,zh,Jo,by exact ⟨fun h=>Bool.noConfusion h,fun h=>hq2.2 ⟨h.1,h.2.1,fun t ht=>h.2.2 t (Gv (i:=i) (by rw [List.take_take,IX Jo];exact ht))⟩⟩,hf0,hS.sp⟩,Qj Jo⟩)|(exact ⟨⟨i+1,true,zh,zh,Jo,by exact ⟨fun _=>⟨(hq2.1 rfl).1,(hq2.1 rfl).2.1,bA (hq2.1 rfl).2.2 hx2 Ja⟩,fun _=>rfl⟩,hf0,hS.sp⟩,Qj Jo⟩)|(exact ⟨⟨i+1,false,zh,zh,Jo,by exact ⟨fun h=>Bool.noConfusion h,fun h=>absurd (h.2.2 x2 (by rw [TZ hx2];simp)) Ja⟩,hf0,hS.sp⟩,Qj Jo⟩))
         · skip
           refine' L8;refine QA ?_;cases q;all_goals (refine' LV;refine' Nv)
           all_goals
            first
            | (refine' Ki;refine' KP;refine' KE (c:=jO f Jo hS);rintro v1 w1 ⟨rfl,hS⟩;refine' Kr (c:=M5 hS);rintro v1 w1 ⟨rfl,hS⟩;refine Kt hS ?_;intro w1 hS;have hS:=hS.ns;refine' Lz;refine LF vw (Q2 (n:=2) Jk Jk (hS.blkAt fd) Jr Jr) ?_;first|(refine ⟨_,rfl,?_,hS.sp⟩;rw [if_pos Jo,OB Dx,P9 Jd];rfl;done)|(refine ⟨_,rfl,?_,hS.sp⟩;rw [if_neg Jo,ME,Mg Qv,hd,Q1 hx1];rw [Qo DA,NI (c:=1) DD Jd];rfl;done)|(refine ⟨_,rfl,?_,hS.sp⟩;have e:=NI (n:=m.funcs.length) (f:=f) (x:=x1) (c:=Qy x1.params x1.regs) DF Ja;rw [if_neg Jo,ME,Mg Qv,hd,Q1 hx1,Qo Dr,e];rfl;done)|(refine ⟨_,rfl,?_,hS.sp⟩;have e:=NI (n:=m.funcs.length) (f:=f) (x:=x1) (c:=Qy x1.results x1.regs) DL Ja;rw [if_neg Jo,ME,Mg Qv,hd,Q1 hx1,Qo Dr,e];rfl;done)|(refine ⟨_,rfl,?_,hS.sp⟩;have e:=NI (n:=m.funcs.length) (f:=f) (x:=x1) (c:=2) DU Jd;rw [if_neg Jo,ME,Mg Qv,hd,Q1 hx1,Qo DB,e];rfl;done)|(refine ⟨_,rfl,?_,hS.sp⟩;have e:=NI (n:=m.funcs.length) (f:=f) (x:=x1) (c:=18) Eg Jd;rw [if_neg Jo,ME,Mg Qv,hd,Q1 hx1,Qo DB,e];rfl;done))
            | (refine' Kk;refine' Kx)
           first|(exact C7)|(exact ⟨zh,zh,by unfold QI;rw [if_neg k1,if_neg k2,if_neg k3,if_neg k4,if_neg];rintro ⟨_,h⟩;obtain ⟨a1,a2,a3⟩:=hq2.1 rfl;rw [FM Jo] at a3;rcases h with h|h|⟨t,ht,hk⟩<;>first|(exfalso;omega)|exact hk (a3 t ht),hS.sp⟩))
      | (refine' Kk;refine' Kx;(exact C7))
   rintro ρ w1 ⟨hA,hρ,hh,hS⟩;obtain ⟨ρ,rfl⟩:=Kp hA hρ;refine' SU;refine MB hS [1,2,3,4] (fun A LL ρ' w'=>∃(b:Nat),Kn ρ' A∧Kn ρ' [(9, .int .i64 b)]∧(b≤x1.blocks.length)∧(Pq m.funcs.length f x1 0 x1.blocks=Pq m.funcs.length f x1 b (x1.blocks.drop b))∧St cx w' (LL)) (fun ρ' _=>(x1.blocks.length - iv (ρ' 9)).toNat) ?_ ?_
   · exact Ay
   rintro ρ w1 ⟨b,hA,hρ,hb,hd2,hS⟩;obtain ⟨ρ,rfl⟩:=Kp hA hρ;refine' Uf;refine' Ab<;>intro hc
   · skip
     (refine' Ub;obtain ⟨y,hy⟩:∃y,x1.blocks[b]?=some y:=⟨_,E7 Jo⟩;have hsy:=hsx.2.2.2 y (Fa hy);refine' LS;refine zv hS ?_;refine' MV;refine' Lg (c:=Vi hx1 hy Jo Jo hsy.2.1 hm' hS);rintro v1 w1 ⟨rfl,hS⟩;unfold KG;refine Qd hS ?_;intro p10 w1 hS;refine Kt hS ?_;intro w1 hS;have hS:=hS.ns;refine' NA;first|(refine' QO)|(refine' QU)|(refine' Ad<;>intro hc));all_goals (refine' zn)
     all_goals
      first
      | (refine' Ki;refine' MU;refine Kt hS ?_;intro w1 hS;have hS:=hS.ns;refine' Lz;refine LF vw (Q2 (n:=2) Jk Jk (hS.blkAt fd) Jr Jr) ?_;first|(refine ⟨_,rfl,?_,hS.sp⟩;rw [if_pos Jo,OB Dx,P9 Jd];rfl;done)|(refine ⟨_,rfl,?_,hS.sp⟩;rw [if_neg Jo,ME,Mg Qv,hd,Q1 hx1];rw [Qo DA,NI (c:=1) DD Jd];rfl;done)|(refine ⟨_,rfl,?_,hS.sp⟩;have e:=NI (n:=m.funcs.length) (f:=f) (x:=x1) (c:=Qy x1.params x1.regs) DF Ja;rw [if_neg Jo,ME,Mg Qv,hd,Q1 hx1,Qo Dr,e];rfl;done)|(refine ⟨_,rfl,?_,hS.sp⟩;have e:=NI (n:=m.funcs.length) (f:=f) (x:=x1) (c:=Qy x1.results x1.regs) DL Ja;rw [if_neg Jo,ME,Mg Qv,hd,Q1 hx1,Qo Dr,e];rfl;done)|(refine ⟨_,rfl,?_,hS.sp⟩;have e:=NI (n:=m.funcs.length) (f:=f) (x:=x1) (c:=2) DU Jd;rw [if_neg Jo,ME,Mg Qv,hd,Q1 hx1,Qo DB,e];rfl;done)|(refine ⟨_,rfl,?_,hS.sp⟩;have e:=NI (n:=m.funcs.length) (f:=f) (x:=x1) (c:=18) Eg Jd;rw [if_neg Jo,ME,Mg Qv,hd,Q1 hx1,Qo DB,e];rfl;done)|(refine ⟨_,rfl,?_,hS.sp⟩;have e:(OC m.funcs.length f x1 b y).1≠0:=(by assumption);have e2:Rt m.funcs.length f x1=OC m.funcs.length f x1 b y:=(by rw [oW hh,hd2,Q1 hy,tg e]);rw [if_neg Jo,ME,Mg Qv,hd,Q1 hx1,Qo (by rw [e2];exact e),e2];rfl;done))
      | (refine' Kk;refine' Kx)
     refine' Mt;(exact ⟨⟨b+1,zh,zh,Jo,by rw [hd2,Q1 hy,Q8n Jo],hS.sp⟩,Qj Jo⟩)
   · skip;refine' L8;refine' Mt;(exact ⟨⟨f+1,zh,zh,Jo,by rw [hd,Q1 hx1,Qa9];rw [oW hh,hd2,Fh Jo];rfl,hS.sp⟩,Qj Jo⟩)
 · skip;refine' L8;refine' Kv;refine L0 [_,_] ?_;refine Kt hS ?_;intro w1 hS;have hS:=hS.ns;refine' Lz;refine LF vw (Q2 (n:=2) Jk Jk (hS.blkAt fd) Jr Jr) ?_;first|(refine ⟨_,rfl,?_,hS.sp⟩;rw [if_pos Jo,OB Dx,P9 Jd];rfl;done)|(refine ⟨_,rfl,?_,hS.sp⟩;rw [if_neg Jo,ME,Mg Qv,hd,Q1 hx1];rw [Qo DA,NI (c:=1) DD Jd];rfl;done)|(refine ⟨_,rfl,?_,hS.sp⟩;have e:=NI (n:=m.funcs.length) (f:=f) (x:=x1) (c:=Qy x1.params x1.regs) DF Ja;rw [if_neg Jo,ME,Mg Qv,hd,Q1 hx1,Qo Dr,e];rfl;done)|(refine ⟨_,rfl,?_,hS.sp⟩;have e:=NI (n:=m.funcs.length) (f:=f) (x:=x1) (c:=Qy x1.results x1.regs) DL Ja;rw [if_neg Jo,ME,Mg Qv,hd,Q1 hx1,Qo Dr,e];rfl;done)|(refine ⟨_,rfl,?_,hS.sp⟩;have e:=NI (n:=m.funcs.length) (f:=f) (x:=x1) (c:=2) DU Jd;rw [if_neg Jo,ME,Mg Qv,hd,Q1 hx1,Qo DB,e];rfl;done)|(refine ⟨_,rfl,?_,hS.sp⟩;have e:=NI (n:=m.funcs.length) (f:=f) (x:=x1) (c:=18) Eg Jd;rw [if_neg Jo,ME,Mg Qv,hd,Q1 hx1,Qo DB,e];rfl;done)|(refine ⟨_,rfl,?_,hS.sp⟩;have e:(OC m.funcs.length f x1 b y).1≠0:=(by assumption);have e2:Rt m.funcs.length f x1=OC m.funcs.length f x1 b y:=(by rw [oW hh,hd2,Q1 hy,tg e]);rw [if_neg Jo,ME,Mg Qv,hd,Q1 hx1,Qo (by rw [e2];exact e),e2];rfl;done)|(refine ⟨_,rfl,?_,hS.sp⟩;rw [if_neg Jo,ME,Mg Qv,hd,Fh (l:=m.funcs) Jo,PU];rfl;done)
theorem Vk {t:Ty}(ht:Ku.at cx cs t)(hS:St cx w L):Kf Tryz.prog oG [.agg ⟨cs⟩] w fun u w'=>u= .bool (decide (t.kind≠1))∧St cx w' L:=by
 obtain ⟨v,rfl,hl⟩:=Qf ht;refine Kq Ko Tryz.func107 ?_;refine' KY;intro p1 w1 hS;refine' KA;refine' Mn;refine Xn rfl rfl ?_;refine' La;(((refine ⟨_,rfl,?_,hS.sp⟩;(rfl);done)))
theorem YJ {l:List Ty}{v:Value}(hl:Ku.sl cx v l)(hS:St cx w L):Kf Tryz.prog yx [v, .func (.func oG) #[] #[]] w fun u w'=>∃q,u= .bool q∧(q=true↔∃t∈l,t.kind≠1)∧St cx w' L:=by
 have hlen:=hl.len
 have hidx:∀{w:World}{L:List Res},St cx w L→Kf Tryz.prog yV [v, .func (.func oG) #[] #[]] w fun u w'=>∃r:Int,u= .int .i64 r∧(0≤r↔∃t∈l,t.kind≠1)∧St cx w' L:=by
  intro w L hS;refine Kq Ko Tryz.func160 ?_;refine' Mq;refine' Oh;refine MB hS [0,1,7] (fun A LL ρ' w'=>∃(j:Nat),Kn ρ' A∧Kn ρ' [(8, .int .i64 j)]∧(j≤l.length)∧(∀t∈l.take j,t.kind=1)∧St cx w' (LL)) (fun ρ' _=>(l.length - iv (ρ' 8)).toNat) ?_ ?_
  · exact Ay
  rintro ρ w1 ⟨j,hA,hρ,hj,hd,hS⟩;obtain ⟨ρ,rfl⟩:=Kp hA hρ;refine' MH;refine' Ab<;>intro hc
  · skip
    (refine' L4;refine' Nz;refine' Lc;refine' PM;intro b1 o1 cs1 x1 hat1 hx1 he1;obtain ⟨vl1,rfl,hl1⟩:=Qf he1;refine' Oa;refine se rfl Jk Jr (Vk he1 hS) ?_;rintro v1 w1 ⟨rfl,hS⟩;(cases hdec:decide (x1.kind≠1));have hg:=of_decide_eq_false hdec;rotate_left;have hg:=of_decide_eq_true hdec;all_goals skip);all_goals (refine' zn)
    all_goals
     first
     | (refine' Ki;refine' SX;(exact Cd))
     | (refine' Kk;refine' Kx)
    refine' N1;(exact ⟨⟨j+1,zh,zh,Jo,bA hd hx1 (FP.1 hg),hS.sp⟩,Qj Jo⟩)
  · skip;refine' Pm;first|(exact Cd)|(exact ⟨_,rfl, -1,rfl,⟨fun h=>by omega,fun ⟨t,ht,hk⟩=>absurd (iA hd Jo t ht) hk⟩,hS.sp⟩)
 (refine Kq Ko Tryz.func106 ?_;refine' LM;refine' Lc;refine' Kr (c:=hidx hS);rintro v1 w1 ⟨r,rfl,hr,hS⟩;first|(refine' Ml)|(refine' MN)|(refine' Ag<;>intro hc));all_goals (refine' La;first|(exact ⟨_,rfl,_,rfl,⟨fun _=>hr.1 Jo,fun _=>rfl⟩,hS.sp⟩)|(exact ⟨_,rfl,_,rfl,⟨fun h=>Bool.noConfusion h,fun h=>by have:=hr.2 h;omega⟩,hS.sp⟩))
theorem Qio {x:Fun}{b:Nat}{y:Block}{q:Bool}(hq:q=true↔(b=0∧(y.regs≠x.regs∨y.params≠x.params))):
 KR (KR (KR (KR g (K2 (if y.regs<x.regs∨16<y.regs then 1 else 0) a)) (K2 (Qy y.params y.regs) a)) (K2 (if q=true then 9 else 0) a)) (K2 (if 40<y.code.length then 2 else 0) a)=KR g (K2 (QB x b y) a):=by
 rw [O1,O1,O1];congr 2;unfold QB;by_cases h0:y.regs<x.regs∨16<y.regs
 · rw [if_pos h0,if_pos h0];simp only [PW (show (1:Int)≠0 by decide)]
 · rw [if_neg h0,if_neg h0,Pr]
   by_cases h:Qy y.params y.regs≠0
   · rw [if_pos h];simp only [PW h]
   · rw [if_neg h,FP.1 h,Pr]
     by_cases hb:b=0∧(y.regs≠x.regs∨y.params≠x.params)
     · rw [if_pos hb,if_pos (hq.2 hb)];simp only [PW (show (9:Int)≠0 by decide)]
     · rw [if_neg hb,if_neg (fun h=>hb (hq.1 h)),Pr]
theorem Vl {fs:List Fun}{f b:Nat}{x:Fun}{y:Block}{p:Nat}(hxf:fs[f]?=some x)(hyb:x.blocks[b]?=some y)(hf0:f≤1000000)(hb0:b≤1000000)(hlc:y.code.length≤100000)(hf:KD.sl cx vf fs)(hS:St cx w L)(hi:nth L i=some (MO p vf g a)):
 Kf Tryz.prog yy [.pointer (some ⟨p,0,none⟩), .int .i64 f, .int .i64 b] w fun u w'=>u= .tuple #[]∧∃a',St cx w' (L.set i (MO p vf (KR g (OC fs.length f x b y)) a')):=by
 have hflt:=(E8.1 hxf).1;have hblt:=(E8.1 hyb).1;have hS:=hS.out hi;refine Kq Ko Tryz.func108 ?_;refine' WS;refine' KZ;refine' PM;intro b1 o1 cs1 x1 hat1 hx1 he1;((obtain ⟨vp1,vr1,vb1,rfl,hp1,hr1,hb1⟩:=QH he1));refine' NN;(intro p6 w1 hS);((refine Kt hS ?_;intro w1 hS;have hS:=hS.ns));refine' zn;have e1:x=x1:=Fm (hxf.symm.trans hx1);subst e1;refine' Ue;intro b2 o2 cs2 x2 hat2 hx2 he2;((obtain ⟨vp2,vc2,ve21,ve22,ve23,ve24,ve25,rfl,hp2,hc2,he21,he22,he23,he24,he25⟩:=RJ he2));refine' NN;(intro p7 w1 hS);((refine Kt hS ?_;intro w1 hS;have hS:=hS.ns));refine' zn;have e2:y=x2:=Fm (hyb.symm.trans hx2);subst e2;refine zM [0,1,2,6,7] (fun A ρ' w'=>Kn ρ' A∧Kn ρ' []∧St cx w' (blk p7 92 [.int .i64 y.regs,vp2,vc2, .int .i64 y.fin.op, .int .i64 y.fin.a, .int .i64 y.fin.yes.block,ve21,ve22, .int .i64 y.fin.no.block,ve23,ve24,ve25]::blk p6 95 [.int .i64 x.regs,vp1,vr1,vb1]::MO p vf g (Sx f b)::L.eraseIdx i)) ?_ ?_
 · skip;refine' MZ;refine' zm;refine' Kr (c:=QfF f b hf0 hb0 hS);rintro v1 w1 ⟨rfl,hS⟩;refine' Z3;intro w1 hS;have hS:=hS.ns;refine' zn;(exact ⟨zh,zh,hS.sp⟩)
 rintro ρ w1 ⟨hA,hρ,hS⟩;obtain ⟨ρ,rfl⟩:=Kp hA hρ;refine zM [0,1,2,6,7] (fun A ρ' w'=>Kn ρ' A∧Kn ρ' []∧St cx w' (blk p7 92 [.int .i64 y.regs,vp2,vc2, .int .i64 y.fin.op, .int .i64 y.fin.a, .int .i64 y.fin.yes.block,ve21,ve22, .int .i64 y.fin.no.block,ve23,ve24,ve25]::blk p6 95 [.int .i64 x.regs,vp1,vr1,vb1]::MO p vf (KR g (K2 (if y.regs<x.regs∨16<y.regs then 1 else 0) (Sx f b))) (Sx f b)::L.eraseIdx i)) ?_ ?_
 · skip;(refine' NP;refine' KZ;first|(refine' KX)|(refine' K1)|(refine' Ae<;>intro hc));all_goals (refine' Md;first|refine' Kj|(refine' Kl;(first|(refine' QV)|(refine' QW)|(refine' Af<;>intro hc))));all_goals (refine' Lu;refine' Lg (c:=Oo (g:=_) Dj hS fd);rintro v1 w1 ⟨rfl,hS⟩;simp only [Fi,Fo,if_true,Fs,if_false] at hS;refine' zn;exact AY)
 rintro ρ w1 ⟨hA,hρ,hS⟩;obtain ⟨ρ,rfl⟩:=Kp hA hρ;refine' KP;refine' KZ;refine' KZ;refine' Lg (c:=pF hp2 hS fd);rintro v1 w1 ⟨rfl,hS⟩;have hS:=hS.ns;refine' Ui;refine PF hS 18 [0,1,2,6,7] (fun A LL ρ' w'=>∃(q:Bool),Kn ρ' A∧Kn ρ' [(46, .pointer (some ⟨p,0,none⟩)),(63, .bool q)]∧(q=true↔(b=0∧(y.regs≠x.regs∨y.params≠x.params)))∧St cx w' (LL)) ?_ ?_
 · skip;(refine' MV;first|(refine' Ql)|(refine' Qp)|(refine' Ac<;>intro hc));all_goals (refine' S2;first|refine' Kj|(refine' Kl;(first|(refine' QO)|(refine' QU)|(refine' Ad<;>intro hc))));all_goals (refine' XX;refine' PH;first|refine' Kj|(refine' Kl;refine' Lg (c:=UL Jk (fun a _ b _ {_ _ _ _} h1 h2 h3=>je a b h1 h2 h3) hp2 hp1 hS);rintro v1 w1 ⟨rfl,hS⟩;(cases hdec:decide (y.params=x.params));have hg:=of_decide_eq_false hdec;rotate_left;have hg:=of_decide_eq_true hdec;all_goals skip));all_goals (refine' PG;refine' RN;first|(exact Cl)|(exact CD)|(exact Br)|(exact Ce))
 rintro ρ w1 ⟨q,hA,hρ,hq,hS⟩;obtain ⟨ρ,rfl⟩:=Kp hA hρ;refine' Lg (c:=Oo (g:=_) Dj hS fd);rintro v1 w1 ⟨rfl,hS⟩;simp only [Fi,Fo,if_true,Fs,if_false] at hS;refine' zn;refine zM [0,1,2,6,7] (fun A ρ' w'=>Kn ρ' A∧Kn ρ' []∧St cx w' (blk p7 92 [.int .i64 y.regs,vp2,vc2, .int .i64 y.fin.op, .int .i64 y.fin.a, .int .i64 y.fin.yes.block,ve21,ve22, .int .i64 y.fin.no.block,ve23,ve24,ve25]::blk p6 95 [.int .i64 x.regs,vp1,vr1,vb1]::MO p vf (KR g (K2 (QB x b y) (Sx f b))) (Sx f b)::L.eraseIdx i)) ?_ ?_
 · skip;(refine' NP;refine' zL;first|(refine' QV)|(refine' QW)|(refine' Af<;>intro hc));all_goals (refine' Lg (c:=Oo (g:=_) Dj hS fd);rintro v1 w1 ⟨rfl,hS⟩;simp only [Fi,Fo,if_true,Fs,if_false] at hS;refine' zn;exact ⟨zh,zh,by rw [←Qio hq];first|(rw [if_pos (c:=40<y.code.length) Jo];exact hS.sp)|(rw [if_neg (c:=40<y.code.length) Jo];exact hS.sp)⟩)
 rintro ρ w1 ⟨hA,hρ,hS⟩;obtain ⟨ρ,rfl⟩:=Kp hA hρ;refine' NO;refine zo [0,1,2,6,7] (fun A ρ' w'=>∃(j:Nat) (h:LX) (at2:Int),Kn ρ' A∧Kn ρ' [(8, .int .i64 j)]∧(j≤y.code.length)∧(KR (KR g (K2 (QB x b y) (Sx f b))) (ON fs.length f b 0 y.code)=KR h (ON fs.length f b j (y.code.drop j)))∧St cx w' (blk p7 92 [.int .i64 y.regs,vp2,vc2, .int .i64 y.fin.op, .int .i64 y.fin.a, .int .i64 y.fin.yes.block,ve21,ve22, .int .i64 y.fin.no.block,ve23,ve24,ve25]::blk p6 95 [.int .i64 x.regs,vp1,vr1,vb1]::MO p vf h at2::L.eraseIdx i)) (fun ρ' _=>(y.code.length - iv (ρ' 8)).toNat) ?_ ?_
 · exact Cm
 ((rintro ρ w1 ⟨j,h,at2,hA,hρ,hj,hd,hS⟩;obtain ⟨ρ,rfl⟩:=Kp hA hρ;refine' P6;refine' zL;first|(refine' KX)|(refine' K1)|(refine' Ae<;>intro hc));all_goals (refine' Lv;refine' PK;refine' MT;refine' Rn;first|refine' Kj|(refine' Kl;(first|(refine' Ql)|(refine' Qp)|(refine' Ac<;>intro hc)))));all_goals (refine' Ll)
 all_goals
  first
  | (refine' Ki;refine' L4;refine' Lc;refine' MV;refine' Lg (c:=pD f b j hf0 hb0 Jo hS);rintro v1 w1 ⟨rfl,hS⟩;refine' Z3;intro w1 hS;have hS:=hS.ns;refine' zn;have hS:St cx _ (blk p7 92 [.int .i64 y.regs,vp2,vc2, .int .i64 y.fin.op, .int .i64 y.fin.a, .int .i64 y.fin.yes.block,ve21,ve22, .int .i64 y.fin.no.block,ve23,ve24,ve25]::blk p6 95 [.int .i64 x.regs,vp1,vr1,vb1]::MO p vf h (O2 f b j)::L.eraseIdx i):=hS;refine' NP;refine' PM;intro b3 o3 cs3 x3 hat3 hx3 he3;obtain ⟨vr3,va3,rfl,hr3,ha3⟩:=Nx he3;refine' Oa;refine' Kr (c:=Z7 he3 hf hS fd);rintro v1 w1 ⟨rfl,hS⟩;have hS:=hS.ns;refine' zn;refine' Mt;(exact ⟨⟨j+1,_,_,zh,zh,Jo,by rw [hd,Q1 hx3,ON,cq],hS.sp⟩,Qj Jo⟩))
  | (refine' Kk;all_goals (refine' L8;(first|(rw [Fh Jo,ON,fX (b:=(0,0)) rfl] at hd)|(rw [OB (a:=h) Ja] at hd));refine' Lc;refine' zm;refine' Kr (c:=pC f b hf0 hb0 hS);rintro v1 w1 ⟨rfl,hS⟩;refine' Z3;intro w1 hS;have hS:=hS.ns;refine' zn;have hS:St cx _ (blk p7 92 [.int .i64 y.regs,vp2,vc2, .int .i64 y.fin.op, .int .i64 y.fin.a, .int .i64 y.fin.yes.block,ve21,ve22, .int .i64 y.fin.no.block,ve23,ve24,ve25]::blk p6 95 [.int .i64 x.regs,vp1,vr1,vb1]::MO p vf h (PT f b)::L.eraseIdx i):=hS;refine' OT;refine' OV;refine' Lg (c:=Z8 (e:=y.fin) he1 ⟨_,_,_,_,_,rfl,he21,he22,he23,he24,he25⟩ hS fd);rintro v1 w1 ⟨rfl,hS⟩;have hS:=hS.ns;refine' zn);all_goals (refine' LJ;refine ⟨_,rfl,rfl,PT f b,?_⟩;have hS:=hS.drop.drop;rw [show KR g (OC fs.length f x b y)=KR h (K2 (Nl x.blocks.length y.fin) (PT f b)) from (by unfold OC;rw [←cq,←cq,hd])];exact Gn hS hi))
theorem Qi6 {x:Fun}{f:Nat}{q:Bool}(hq:q=true↔(f=0∧(0<x.regs∨0<x.params.length∨∃t∈x.results,t.kind≠1))):
 KR (KR (KR (KR (KR g (K2 (if x.regs<0∨6<x.regs then 1 else 0) a)) (K2 (Qy x.params x.regs) a)) (K2 (Qy x.results x.regs) a)) (K2 (if x.blocks.length<1∨12<x.blocks.length then 2 else 0) a)) (K2 (if q=true then 18 else 0) a)=KR g (K2 (QI f x) a):=by
 rw [O1,O1,O1,O1];congr 2;unfold QI;by_cases h0:x.regs<0∨6<x.regs
 · rw [if_pos h0,if_pos h0];simp only [PW (show (1:Int)≠0 by decide)]
 · rw [if_neg h0,if_neg h0,Pr]
   by_cases h:Qy x.params x.regs≠0
   · rw [if_pos h];simp only [PW h]
   · rw [if_neg h,FP.1 h,Pr]
     by_cases h1:Qy x.results x.regs≠0
     · rw [if_pos h1];simp only [PW h1]
     · rw [if_neg h1,FP.1 h1,Pr]
       by_cases h2:x.blocks.length<1∨12<x.blocks.length
       · rw [if_pos h2,if_pos h2];simp only [PW (show (2:Int)≠0 by decide)]
       · rw [if_neg h2,if_neg h2,Pr]
         by_cases hb:f=0∧(0<x.regs∨0<x.params.length∨∃t∈x.results,t.kind≠1)
         · rw [if_pos hb,if_pos (hq.2 hb)]
         · rw [if_neg hb,if_neg (fun h=>hb (hq.1 h))]
theorem pG (hsh:m.Short)(hm:Ls.at cx cs m)(hS:St cx w L):
 Kf Tryz.prog ya [.agg ⟨cs⟩] w fun u w'=>u=KG m.fault∧St cx w' L:=by
 obtain ⟨vf,rfl,hf⟩:=NR hm;have hsl:=hsh.1;have hsf:=hsh.2;obtain ⟨a0,n0,rfl⟩:=Fx hf;generalize hvf:Value.slice a0 m.funcs.length n0=vf at*;refine Kq Ko Tryz.func62 ?_;refine' KY;intro p1 w1 hS;refine Qd hS ?_;(intro p2 w1 hS);refine' Sr;refine iq (cs:=[vf, .int .i64 0, .int .i64 0, .int .i64 (-1)]) vw vw (by subst hvf;rfl) ?_;refine zb hS ?_;intro p9 w1 hS;refine' KA;refine zM [1,2,3] (fun A ρ' w'=>Kn ρ' A∧Kn ρ' []∧St cx w' (MO p9 vf (K2 (if m.funcs.length<1∨8<m.funcs.length then 2 else 0) (-1)) (-1)::blk p2 29 [.int .i64 0, .int .i64 0]::blk p1 24 [vf]::L)) ?_ ?_
 · skip;(have hS:St cx _ (MO p9 vf (0,0) (-1)::blk p2 29 [.int .i64 0, .int .i64 0]::blk p1 24 [vf]::L):=hS;refine' NP;refine' zL;first|(refine' Ql)|(refine' Qp)|(refine' Ac<;>intro hc));all_goals (refine' RM;first|refine' Kj|(refine' Kl;(first|(refine' QV)|(refine' QW)|(refine' Af<;>intro hc))));all_goals (refine' Lu;refine' Lg (c:=Oo (g:=_) Dj hS fd);rintro v1 w1 ⟨rfl,hS⟩;simp only [Fi,Fo,if_true,Fs,if_false] at hS;refine' zn;exact ⟨zh,zh,by rw [Mg (Sv _ _)] at hS;first|(rw [if_pos Jo];exact hS.sp)|(rw [if_neg Jo];exact hS.sp)⟩)
 rintro ρ w1 ⟨hA,hρ,hS⟩;obtain ⟨ρ,rfl⟩:=Kp hA hρ;refine' NO;refine zo [1,2,3] (fun A ρ' w'=>∃(f:Nat) (h:LX) (a:Int),Kn ρ' A∧Kn ρ' [(4, .int .i64 f)]∧(f≤m.funcs.length)∧(m.fault=KR h (PU m.funcs.length f (m.funcs.drop f)))∧St cx w' (MO p9 vf h a::blk p2 29 [.int .i64 0, .int .i64 0]::blk p1 24 [vf]::L)) (fun ρ' _=>(m.funcs.length - iv (ρ' 4)).toNat) ?_ ?_
 · exact ⟨0,_,_,zh,zh,Jo,by rw [F9];rfl,hS.sp⟩
 ((rintro ρ w1 ⟨f,h,a,hA,hρ,hj,hd,hS⟩;obtain ⟨ρ,rfl⟩:=Kp hA hρ;refine' P6;refine' zL;first|(refine' KX)|(refine' K1)|(refine' Ae<;>intro hc));all_goals (refine' Lv;refine' PK;refine' MT;refine' Rn;first|refine' Kj|(refine' Kl;(first|(refine' Ql)|(refine' Qp)|(refine' Ac<;>intro hc)))));all_goals (refine' Ll)
 all_goals
  first
  | (refine' Ki
     refine' L4;refine' Ue;intro b1 o1 cs1 x1 hat1 hx1 he1;obtain ⟨vp1,vr1,vb1,rfl,hp1,hr1,hb1⟩:=QH he1;refine' NN;intro p5 w1 hS;refine Kt hS ?_;intro w1 hS;have hS:=hS.ns;refine' zn;have hsx:=hsf x1 (Fa hx1);have hlb:=hsx.2.2.1;have hlp:=hp1.len;have hlr:=hr1.len;refine' Lc;refine' KE (c:=Qhs f Jo hS);rintro v1 w1 ⟨rfl,hS⟩;refine' Z3;intro w1 hS;have hS:=hS.ns;refine' zn;refine zM [1,2,3,4,5] (fun A ρ' w'=>Kn ρ' A∧Kn ρ' []∧St cx w' (blk p5 95 [.int .i64 x1.regs,vp1,vr1,vb1]::MO p9 vf (KR h (K2 (if x1.regs<0∨6<x1.regs then 1 else 0) (Pp f))) (Pp f)::blk p2 29 [.int .i64 0, .int .i64 0]::blk p1 24 [vf]::L)) ?_ ?_
     · skip;(have hS:St cx _ (blk p5 95 [.int .i64 x1.regs,vp1,vr1,vb1]::MO p9 vf h (Pp f)::blk p2 29 [.int .i64 0, .int .i64 0]::blk p1 24 [vf]::L):=hS;refine' NP;first|(refine' KX)|(refine' K1)|(refine' Ae<;>intro hc));all_goals (refine' Md;first|refine' Kj|(refine' Kl;(first|(refine' QV)|(refine' QW)|(refine' Af<;>intro hc))));all_goals (refine' Lu;refine' Lg (c:=Oo (g:=_) Dj hS fd);rintro v1 w1 ⟨rfl,hS⟩;simp only [Fi,Fo,if_true,Fs,if_false] at hS;refine' zn;exact AY)
     rintro ρ w1 ⟨hA,hρ,hS⟩;obtain ⟨ρ,rfl⟩:=Kp hA hρ;refine' KP;refine' KZ;refine' KZ;refine' Lg (c:=pF hp1 hS fd);rintro v1 w1 ⟨rfl,hS⟩;have hS:=hS.ns;refine' LN;refine' KZ;refine' KZ;refine' Lg (c:=pF hr1 hS fd);rintro v1 w1 ⟨rfl,hS⟩;have hS:=hS.ns;refine' zn;refine zM [1,2,3,4,5] (fun A ρ' w'=>Kn ρ' A∧Kn ρ' []∧St cx w' (blk p5 95 [.int .i64 x1.regs,vp1,vr1,vb1]::MO p9 vf (KR (KR (KR (KR h (K2 (if x1.regs<0∨6<x1.regs then 1 else 0) (Pp f))) (K2 (Qy x1.params x1.regs) (Pp f))) (K2 (Qy x1.results x1.regs) (Pp f))) (K2 (if x1.blocks.length<1∨12<x1.blocks.length then 2 else 0) (Pp f))) (Pp f)::blk p2 29 [.int .i64 0, .int .i64 0]::blk p1 24 [vf]::L)) ?_ ?_
     · skip;(refine' NP;refine' zL;first|(refine' Ql)|(refine' Qp)|(refine' Ac<;>intro hc));all_goals (refine' RM;first|refine' Kj|(refine' Kl;(first|(refine' QV)|(refine' QW)|(refine' Af<;>intro hc))));all_goals (refine' Lu;refine' Lg (c:=Oo (g:=_) Dj hS fd);rintro v1 w1 ⟨rfl,hS⟩;simp only [Fi,Fo,if_true,Fs,if_false] at hS;refine' zn;exact ⟨zh,zh,by first|(rw [if_pos (c:=x1.blocks.length<1∨12<x1.blocks.length) Jo];exact hS.sp)|(rw [if_neg (c:=x1.blocks.length<1∨12<x1.blocks.length) Jo];exact hS.sp)⟩)
     rintro ρ w1 ⟨hA,hρ,hS⟩;obtain ⟨ρ,rfl⟩:=Kp hA hρ;refine zM [1,2,3,4,5] (fun A ρ' w'=>Kn ρ' A∧Kn ρ' []∧St cx w' (blk p5 95 [.int .i64 x1.regs,vp1,vr1,vb1]::MO p9 vf (KR h (K2 (QI f x1) (Pp f))) (Pp f)::blk p2 29 [.int .i64 0, .int .i64 0]::blk p1 24 [vf]::L)) ?_ ?_
     · skip
       refine' LS;refine PF hS 19 [1,2,3,4,5] (fun A LL ρ' w'=>∃(q:Bool),Kn ρ' A∧Kn ρ' [(81, .pointer (some ⟨p9,0,none⟩)),(99, .bool q)]∧(q=true↔(f=0∧(0<x1.regs∨0<x1.params.length∨∃t∈x1.results,t.kind≠1)))∧St cx w' (LL)) ?_ ?_
       · skip;(refine' MV;first|(refine' Ql)|(refine' Qp)|(refine' Ac<;>intro hc));all_goals (refine' Md;first|refine' Kj|(refine' Kl;(first|(refine' QV)|(refine' QW)|(refine' Af<;>intro hc))));all_goals (refine' XX;refine' NM;first|refine' Kj|(refine' Kl;(first|(refine' QV)|(refine' QW)|(refine' Af<;>intro hc))));all_goals (refine' Z1;refine' XX;(first|(refine' Kj)|(refine' Kl;refine' Kr (c:=YJ hr1 hS);rintro v1 w1 ⟨qc,rfl,hqc,hS⟩;cases qc)));all_goals (refine' RN;first|(exact ⟨_,zh,zh,by exact ⟨fun _=>⟨Jo, .inl Jo⟩,fun _=>rfl⟩,hS.sp⟩)|(exact ⟨_,zh,zh,by exact ⟨fun _=>⟨Jo, .inr (.inl Jo)⟩,fun _=>rfl⟩,hS.sp⟩)|(exact ⟨_,zh,zh,by exact ⟨fun _=>⟨Jo, .inr (.inr (hqc.1 rfl))⟩,fun _=>rfl⟩,hS.sp⟩)|(exact Br)|(exact ⟨_,zh,zh,by exact ⟨fun h=>Bool.noConfusion h,fun h=>h.2.elim (fun h=>by omega) (fun h=>h.elim (fun h=>by omega) (fun h=>Bool.noConfusion (hqc.2 h)))⟩,hS.sp⟩))
       rintro ρ w1 ⟨q,hA,hρ,hq,hS⟩;obtain ⟨ρ,rfl⟩:=Kp hA hρ;refine' Lg (c:=Oo (g:=_) Dj hS fd);rintro v1 w1 ⟨rfl,hS⟩;simp only [Fi,Fo,if_true,Fs,if_false] at hS;refine' zn;(exact ⟨zh,zh,by rw [←Qi6 hq];exact hS.sp⟩)
     rintro ρ w1 ⟨hA,hρ,hS⟩;obtain ⟨ρ,rfl⟩:=Kp hA hρ;refine' SU;refine zo [1,2,3,4,5] (fun A ρ' w'=>∃(b:Nat) (h2:LX) (a2:Int),Kn ρ' A∧Kn ρ' [(6, .int .i64 b)]∧(b≤x1.blocks.length)∧(KR (KR h (K2 (QI f x1) (Pp f))) (Pq m.funcs.length f x1 0 x1.blocks)=KR h2 (Pq m.funcs.length f x1 b (x1.blocks.drop b)))∧St cx w' (blk p5 95 [.int .i64 x1.regs,vp1,vr1,vb1]::MO p9 vf h2 a2::blk p2 29 [.int .i64 0, .int .i64 0]::blk p1 24 [vf]::L)) (fun ρ' _=>(x1.blocks.length - iv (ρ' 6)).toNat) ?_ ?_
     · exact Cm
     ((rintro ρ w1 ⟨b,h2,a2,hA,hρ,hb,hd2,hS⟩;obtain ⟨ρ,rfl⟩:=Kp hA hρ;refine' P6;refine' zL;first|(refine' KX)|(refine' K1)|(refine' Ae<;>intro hc));all_goals (refine' Lv;refine' PK;refine' MT;refine' Rn;first|refine' Kj|(refine' Kl;(first|(refine' Ql)|(refine' Qp)|(refine' Ac<;>intro hc)))));all_goals (refine' Ll)
     all_goals
      first
      | (refine' Ki;refine' L4;obtain ⟨y,hy⟩:∃y,x1.blocks[b]?=some y:=⟨_,E7 Jo⟩;have hsy:=hsx.2.2.2 y (Fa hy);refine' MZ;refine' zm;refine' Lg (c:=Vl hx1 hy Jo Jo hsy.2.1 hf hS fd);rintro v1 w1 ⟨rfl,a3,hS⟩;have hS:=hS.ns;refine' zn;refine' Mt;(exact ⟨⟨b+1,_,_,zh,zh,Jo,by rw [hd2,Q1 hy,Pq,cq],hS.sp⟩,Qj Jo⟩))
      | (refine' Kk;all_goals (refine' L8;(first|(rw [Fh Jo,Pq,fX (b:=(0,0)) rfl] at hd2)|(rw [OB (a:=h2) Ja] at hd2));refine' Mt);all_goals (exact ⟨⟨f+1,h2,a2,zh,zh,Jo,by rw [hd,Q1 hx1,PU,←cq,show KR h (Rt m.funcs.length f x1)=h2 from (by unfold Rt;rw [←cq,hd2])],hS.sp⟩,Qj Jo⟩)))
  | (refine' Kk;all_goals (refine' L8;(first|(rw [Fh Jo,PU,fX (b:=(0,0)) rfl] at hd)|(rw [OB (a:=h) Ja] at hd));refine' WS;refine zv hS ?_;refine Kt hS ?_;intro w1 hS;have hS:=hS.ns;refine' Lz;refine LF vw (Q2 (n:=2) Jk Jk (hS.blkAt fd) Jr Jr) ?_);all_goals (refine ⟨_,rfl,?_,hS.sp⟩;rw [hd];rfl;done))
end Go.Proofs.YteflkifmgnpbhaaGreat
namespace Go.Lir
section
variable {P:Program}{Q:QT}{ρ:KI}{w:World}{l:List GO}
theorem QgQ {Ty:TypeId}{x:Operand}(ht:P.underlying Ty=some (.interface ms))(hx:ρ.ev x= .nilIface)(h:Q0 P l Q (upd ρ d (.bool true)) w):Q0 P (⟨none, .bin d .eql Ty x (.const .nilIface)⟩::l) Q ρ w:=
 ⟨_,fun w0=>by rw [hx];simp [KI.ev,eqGuard,binOp,sm ht],h⟩
theorem tJ {Ty U:TypeId}{v:Value}{x:Operand}(ht:P.underlying Ty=some (.interface ms))(hx:ρ.ev x= .iface U v)(h:Q0 P l Q (upd ρ d (.bool false)) w):Q0 P (⟨none, .bin d .eql Ty x (.const .nilIface)⟩::l) Q ρ w:=
 ⟨_,fun w0=>by rw [hx];simp [KI.ev,eqGuard,binOp,sn ht],h⟩
end
end Go.Lir
namespace Go.Proofs.YteflkifmgnpbhaaGreat
open Go.Lir
attribute [local irreducible] LC.wp Q0 Qs Qi KN QD LO.wp Q7 Calls
section
variable {cx:Cx}{w:World}{L:List Res}{p N:Nat}{c:MC}{fr:List FrmV}{g:FrmV}{h:HpS}{out inp:List Int}{fu:Nat}{m:Module}
theorem tK {P:Program}{T:TypeId}(h:Ov P T=true):∃D,P.underlying T=some D∧∀m,D≠ .interface m:=by
 unfold Ov at h;split at h
 · exact ⟨_,by assumption,by intro m h;cases h⟩
 · exact ⟨_,by assumption,by intro m h;cases h⟩
 · cases h
@[reducible] def dy (p3 p1 p2:Nat):List Value:=[.pointer (some ⟨p3,0,none⟩), .pointer (some ⟨p1,0,none⟩), .pointer (some ⟨p2,0,none⟩)]
@[reducible] def O7 (p p1 p2 p3:Nat)(a:Int)(L:List Res):List Res:=blk p3 3 [.int .i64 a]::blk p2 29 [.int .i64 0, .int .i64 0]::blk p1 39 [.pointer (some ⟨p,0,none⟩)]::L
theorem YK (hS:St cx w (O7 p p1 p2 p3 a L)):M3 Tryz.prog oF (dy p3 p1 p2) .returning w fun u' w'=>u'= .returning∧St cx w' (O7 p p1 p2 p3 a L):=by
 unfold M3;refine bT Ko Tryz.func70 ?_;refine' bH;refine' Rl;refine' zn;refine' zn;refine' Rk;refine' WL;refine' Kv;refine QgQ (ms:=#[]) Jk rfl ?_;refine' OY;refine' LS;refine' KA;refine' bO;exact AQ
@[reducible] def MC.stk (c:MC)(a:Int):MC:=⟨c.hp,c.fn,c.lv,c.iv,c.e,c.bv,c.ov,c.fu,c.mo,c.dn,20,a⟩
theorem YL (hS:St cx w (O7 p p1 p2 p3 a (blk p 55 c.cells::L))):M3 Tryz.prog oF (dy p3 p1 p2) (.panicking [{v:=U2,recovered:=false}]) w fun u' w'=>u'= .panicking [{v:=U2,recovered:=true}]∧St cx w' (blk p2 29 [.int .i64 20, .int .i64 a]::blk p 55 (c.stk a).cells::L):=by
 obtain ⟨D,hD,hi⟩:=tK (P:=Tryz.prog) (T:=121) Jk;unfold M3;refine bT Ko Tryz.func70 ?_;refine' bH;refine' Rl;refine' zn;refine' zn;refine' Rk;refine' WL;refine' Kv;refine tJ (ms:=#[]) Jk rfl ?_;refine' zn;refine' Kk;refine' Kv;refine lr hD hi rfl ?_;refine' Sk;refine' OY;refine' OU;intro p4 w1 hS;refine Kt hS ?_;intro w1 hS;have hS:=hS.ns;refine' Ui;refine zl hS ?_;refine zl hS ?_;refine M9 [_,_] ?_;refine' Lh;(first|(refine Kt hS ?_;intro w1 hS;have hS:=hS.ns)|(refine iJ hS ?_;intro w1 hS;have hS:=hS.ns));refine' zn;refine' Z2;refine' Lh;refine zv hS ?_;refine Kt hS ?_;intro w1 hS;have hS:=hS.ns;refine' zn;refine' bO;exact AQ
@[reducible] def MC.over (c:MC)(e:Int):MC:=⟨c.hp,c.fn,c.lv,c.iv,e,c.bv,c.ov,c.fu,c.mo,true,c.c,c.a⟩
theorem tL {e:Int}(hS:St cx w (O7 p p1 p2 p3 a (blk p 55 c.cells::L))):M3 Tryz.prog oF (dy p3 p1 p2) (.panicking [{v:=cU e,recovered:=false}]) w fun u' w'=>u'= .panicking [{v:=cU e,recovered:=true}]∧St cx w' (blk p2 29 [.int .i64 0, .int .i64 0]::blk p 55 (c.over e).cells::L):=by
 obtain ⟨D,hD,hi⟩:=tK (P:=Tryz.prog) (T:=121) Jk;unfold M3;refine bT Ko Tryz.func70 ?_;refine' bH;refine' Rl;refine' zn;refine' zn;refine' Rk;refine' WL;refine' Kv;refine tJ (ms:=#[]) Jk rfl ?_;refine' zn;refine' Kk;refine' Kv;refine xo (z:= .agg ⟨[]⟩) hD hi Jk rfl Jd ?_;refine' Sk;refine' zn;refine' Kk;refine' Kv;refine lr (D:= .int .i64) Jk Ej rfl ?_;refine' Sk;refine' OY;refine' LM;refine' Z2;refine zl hS ?_;refine' zm;refine' Z3;intro w1 hS;have hS:=hS.ns;refine' SV;refine LU hS ?_;intro w1 hS;have hS:=hS.ns;refine' zn;refine' bO;exact AQ
theorem O6.form {X:Stp}(hG:O6 p c N h out fu X cx L u w):∃M,St cx w (M++L)∧∀w' L2,St cx w' (M++L2)→O6 p c N h out fu X cx L2 u w':=by
 rcases hG with ⟨lv,iv,ov,fr',g',N',h',inp',out',h1,h2,h3,h4,hS⟩|⟨ns,bv,fr',g',h1,h2,hS⟩
 · exact ⟨mS p (c.upd lv iv ov) fr' g' N' h' out' [],hS,fun w' L2 hS=> .inl ⟨lv,iv,ov,fr',g',N',h',inp',out',h1,h2,h3,h4,hS⟩⟩
 · exact ⟨_::_::_::_::_::_::_::_::[],hS,fun w' L2 hS=> .inr ⟨ns,bv,fr',g',h1,h2,hS⟩⟩
theorem St.app {M:List Res}(hS:St cx w (M++L)):St cx w (L++M):=hS.perm Ii
abbrev JE:=@St.app
def RY (m:Module)(p:Nat)(c:MC)(fr:List FrmV)(g:FrmV)(N:Nat)(h:HpS)(inp out:List Int)(fu:Nat)(cx:Cx)(L:List Res)(u:Value)(w':World):Prop:=
 (c.fu=c.mo∧u=KG (0,0)∧St cx w' (mS p (c.over 7) fr g N h out L))∨(c.fu≠c.mo∧((u=KG (0,0)∧O6 p c.tick N h out fu ((Km h g fr inp out fu).one m) cx L (.tuple #[]) w')∨
   (∃e,(Km h g fr inp out fu).one m= .halt e∧u=KG (0,0)∧∃fr' g' N',N'≤N+1∧St cx w' (mS p (c.tick.over e) fr' g' N' h out L))∨
   ((Km h g fr inp out fu).one m= .lost∧u=KG (20,(Km h g fr inp out fu).place m)∧St cx w' (blk p 55 (c.tick.stk ((Km h g fr inp out fu).place m)).cells::L))))
attribute [local irreducible] MS.ins MS.fin MS.one MS.place Mm Nm O6
theorem dz {f:Fun}{b:Block}(hdn:c.dn=false)(hc0:c.c=0)(hfn:KD.sl cx c.fn m.funcs)(hi:Kh.sl cx c.iv inp)(hfx:m.funcs[g.f]?=some f)(hbx:f.blocks[g.b]?=some b)(hci:∀x∈b.code,Qel m x)(hce:gb f b.fin)(hgf:g.f≤1000000)(hgb:g.b≤1000000)(hgi:g.i≤1000)(hf:fr.length≤900)(hn:g.vals.length≤800000)(hrn:g.regs.length≤800000)(hfr:∀x∈fr,x.vals.length≤900000)(hN:N≤99999)(hol:out.length≤2000)(hfu:0≤c.fu∧c.fu≤10000000)(hS:St cx w (mS p c fr g N h out L)):
 Kf Tryz.prog sC [.pointer (some ⟨p,0,none⟩)] w (RY m p c fr g N h inp out fu cx L):=by
 unfold RY;refine oe Ko Tryz.func23 ?_;refine' XP;refine' OQ;refine' LS;refine zb hS ?_;intro p1 w1 hS;refine Qd hS ?_;intro p2 w1 hS;refine' zn;refine' XP;refine' OQ;refine' Kv;refine zl hS ?_;refine' Lh;refine zl hS ?_;rw [hdn];refine' zm;refine' Rn;refine' PK;refine' MT;(first|(refine' Kj)|(refine' Kl;refine zl hS ?_;rw [hc0]));refine' iP;refine' Ll;refine' Pj;refine' XP;refine' OQ;have hS:St cx _ (mS p c fr g N h out (blk p2 29 [.int .i64 0, .int .i64 0]::blk p1 39 [.pointer (some ⟨p,0,none⟩)]::L)):=hS.sp;refine' Z2;refine' KE (c:=YI (inp:=inp) (fu:=fu) hfn hfx hbx hf hgf hgb Jo hS);rintro v1 w1 ⟨rfl,hS⟩;refine Qd hS ?_;intro p3 w1 hS;refine LU hS ?_;intro w1 hS;have hS:=hS.ns;refine' zn;refine' XP;refine' bG;refine' gR;refine' zn;refine ⟨_,_,rfl,?_⟩;have hS:St cx _ (mS p c fr g N h out (O7 p p1 p2 p3 ((Km h g fr inp out fu).place m) L)):=hS.sp;refine' zn;refine' OQ;refine' Kv;refine zl hS ?_;refine OS (c:=jR (inp:=inp) (fu:=fu) hfn hi hfx hbx hci hce hgi hf hn hrn hfr hN hol hfu hS) (p:=by rintro v9 w9 hB;(repeat (refine' fS));refine' lx;rcases hB with ⟨hmo,rfl,hS⟩|⟨hmo,⟨hX,rfl,hS⟩|⟨e,hX,rfl,fr',g',N',hN',hS⟩⟩;refine XQ Dy Jk (tL (c:=c) (a:=(Km h g fr inp out fu).place m) (show St cx _ (O7 p p1 p2 p3 _ (blk p 55 c.cells::_)) from hS.sp)) ?_;rintro u' w' ⟨rfl,hS⟩;refine' XR;refine LF vw (Q2 (n:=2) Jk Jk (hS.blkAt fd) Jr Jr) ?_;exact ⟨_,rfl, .inl ⟨hmo,rfl,hS.sp⟩⟩;refine XQ Dy Jk (YL (c:=c.tick) (a:=(Km h g fr inp out fu).place m) (show St cx _ (O7 p p1 p2 p3 _ (blk p 55 c.tick.cells::_)) from hS.sp)) ?_;rintro u' w' ⟨rfl,hS⟩;refine' XR;refine LF vw (Q2 (n:=2) Jk Jk (hS.blkAt fd) Jr Jr) ?_;exact ⟨_,rfl, .inr ⟨hmo, .inr (.inr ⟨hX,rfl,hS.sp⟩)⟩⟩;refine XQ Dy Jk (tL (c:=c.tick) (a:=(Km h g fr inp out fu).place m) (show St cx _ (O7 p p1 p2 p3 _ (blk p 55 c.tick.cells::_)) from hS.sp)) ?_;rintro u' w' ⟨rfl,hS⟩;refine' XR;refine LF vw (Q2 (n:=2) Jk Jk (hS.blkAt fd) Jr Jr) ?_;exact ⟨_,rfl, .inr ⟨hmo, .inr (.inl ⟨e,hX,rfl,fr',g',N',hN',hS.sp⟩)⟩⟩) (h:=?_);rintro u1 w1 ⟨hmo,hG⟩;obtain ⟨rfl,hG⟩:=hG.tup;obtain ⟨M,hS,hK⟩:=hG.form;have hS:St cx _ (O7 p p1 p2 p3 ((Km h g fr inp out fu).place m) (L++M)):=JE hS;refine' Ui;refine L0 [_,_] ?_;refine Kt hS ?_;intro w1 hS;have hS:=hS.ns;refine' Lz;refine' T3;refine XQ Dy Jk (YK hS) ?_;rintro u1 w1 ⟨rfl,hS⟩;refine' XR;refine LF vw (Q2 (n:=2) Jk Jk (hS.blkAt fd) Jr Jr) ?_;(exact ⟨_,rfl, .inr ⟨hmo, .inl ⟨rfl,hK _ _ (JE (L:=M) (M:=L) (show St cx _ (L++M) from hS.drop.drop.drop))⟩⟩⟩)
end
section
variable {cx:Cx}{w:World}{L:List Res}{p:Nat}{c:RC}{fr:List RFV}{g:RFV}{s:EstS}{out inp:List Int}{fu:Nat}{m:Module}
def PY (p:Nat)(c:RC)(s:EstS)(out:List Int)(X:RStp)(cx:Cx)(L:List Res)(u:Value)(w':World):Prop:=
 ∃ns bv fr' g',X= .done ns∧u= .tuple #[]∧St cx w' (rS p (c.did bv) fr' g' s out (sl 2 1 bv (ns.map Qr)::L))
def Rv (p:Nat)(c:RC)(s:EstS)(out:List Int)(fu:Nat)(X:RStp)(cx:Cx)(L:List Res)(u:Value)(w':World):Prop:=N5 p c fu X cx L u w'∨PY p c s out X cx L u w'
theorem N5.drop {r:Res}(hG:N5 p c fu X cx (r::L) u w):N5 p c fu X cx L u w:=by
 obtain ⟨lv,i1,ov,fr',g',s',inp',out',h1,h2,h3,hS⟩:=hG;exact ⟨lv,i1,ov,fr',g',s',inp',out',h1,h2,h3,hS.sp⟩
theorem N5.ok (hG:N5 p c fu X cx L u w):Rv p c s out fu X cx L u w:= .inl hG
theorem UR.get (hB:UR p c s out X cx L u w):∃e,X= .halt e∧u=W0 e∧∃fr' g',St cx w (rS p c fr' g' s out L):=hB
theorem PY.drop {r:Res}(hG:PY p c s out X cx (r::L) u w):PY p c s out X cx L u w:=by
 obtain ⟨ns,bv,fr',g',h1,h2,hS⟩:=hG;exact ⟨ns,bv,fr',g',h1,h2,hS.sp⟩
theorem Rv.drop {r:Res}(hG:Rv p c s out fu X cx (r::L) u w):Rv p c s out fu X cx L u w:=hG.elim (fun h=> .inl h.drop) (fun h=> .inr h.drop)
theorem Rv.tup (hG:Rv p c s out fu X cx L u w):u= .tuple #[]∧Rv p c s out fu X cx L u w:=by
 refine ⟨?_,hG⟩;rcases hG with ⟨_,_,_,_,_,_,_,_,_,_,h,_⟩|⟨_,_,_,_,_,h,_⟩
 · exact h
 · exact h
theorem Rv.form (hG:Rv p c s out fu X cx L u w):∃M,St cx w (M++L)∧∀w' L2,St cx w' (M++L2)→Rv p c s out fu X cx L2 u w':=by
 rcases hG with ⟨lv,i1,ov,fr',g',s',inp',out',h1,h2,h3,hS⟩|⟨ns,bv,fr',g',h1,h2,hS⟩
 · exact ⟨rS p (c.upd lv i1 ov) fr' g' s' out' [],hS,fun w' L2 hS=> .inl ⟨lv,i1,ov,fr',g',s',inp',out',h1,h2,h3,hS⟩⟩
 · exact ⟨_::_::_::_::_::_::_::[],hS,fun w' L2 hS=> .inr ⟨ns,bv,fr',g',h1,h2,hS⟩⟩
attribute [local irreducible] RFrm.val RFrm.args EstS.get EstS.getV EstS.code EstS.word EstS.store EstS.stores RS.ins
theorem jS {r:RS}{e:Tail}(h3:e.op=3):r.fin e=L7 (r.g.args e.args) fun vs=>match r.st with
 | c::st=> .go ((⟨r.e,c,st,r.inp,r.out,r.fuel⟩:RS).put vs)
 | []=> .done vs:=if_pos h3
theorem jT {r:RS}{e:Tail}(h2:e.op=2):r.fin e=L7 (r.g.val e.a) fun n=>if n=0 then r.to e.no else r.to e.yes:=(if_neg Jo).trans (if_pos h2)
theorem jU {r:RS}{e:Tail}(h3:e.op≠3)(h2:e.op≠2):r.fin e=r.to e.yes:=(if_neg h3).trans (if_neg h2)
theorem aj {r:RS}{t:To}{vs:List Int}(h:r.g.args t.args=some vs):r.to t= .go (r.fr ⟨r.g.f,t.block.toNat,0,vs⟩):=On h
theorem pH {r:RS}{t:To}(h:r.to t≠ .crash):∃vs,r.g.args t.args=some vs:=by obtain ⟨vs,hv,_⟩:=OD (o:=r.g.args t.args) h;exact ⟨vs,hv⟩
theorem YM {e:Tail}(hx:Lo.at cx cs e)(hi:Kh.sl cx c.iv inp)(h8:e.args.length≤100)(hy:e.op≠3→0≤e.yes.block∧e.yes.args.length≤100)(hno:e.op=2→0≤e.no.block∧e.no.args.length≤100)(hf:fr.length≤900)(hfr:∀x∈fr,x.vals.length≤900000)(hX0:(KJ s g fr inp out fu).fin e≠ .crash)(hS:St cx w (rS p c fr g s out L)):
 Kf Tryz.prog fU [.pointer (some ⟨p,0,none⟩), .agg ⟨cs⟩] w (Rv p c s out fu ((KJ s g fr inp out fu).fin e) cx L):=by
 by_cases h3:e.op=3
 · rw [jS h3] at hX0 ⊢
   obtain ⟨vs,hv,eX⟩:=OD hX0;rw [eX];rcases Hc fr with rfl|⟨fr0,k,hk⟩
   · refine (cI (s:=s) (out:=out) hx h3 h8 hv hS).mono ?_;rintro u w' ⟨bv,rfl,ho,hS⟩;exact .inr ⟨vs,bv,[],g,rfl,rfl,hS⟩
   · obtain rfl:fr=fr0++[k]:=(by simpa using hk);rw [Fc] at hf;refine (cK (s:=s) (out:=out) hx h3 h8 hv Jo (hfr k Js) hS).mono ?_;rintro u w' ⟨lv,tv,rfl,hS⟩;refine .inl ⟨lv,c.iv,c.ov,fr0,k.push tv vs,s,inp,out,?_,hi,rfl,hS⟩;rw [tx];rfl
 · obtain ⟨y1,y2⟩:=hy h3
   by_cases h2:e.op=2
   · rw [jT h2] at hX0 ⊢
     obtain ⟨n,hn,eX⟩:=OD hX0;rw [eX] at hX0 ⊢;by_cases h0:n=0
     · obtain ⟨n1,n2⟩:=hno h2;rw [if_pos h0] at hX0 ⊢;obtain ⟨vs,hv⟩:=pH hX0;subst h0;refine (cL (s:=s) (out:=out) hx h2 hn n2 n1 hv Jo hS).mono ?_;rintro u w' ⟨vv,rfl,hS⟩;exact .inl ⟨c.lv,c.iv,c.ov,fr,⟨g.f,e.no.block.toNat,0,vv,vs⟩,s,inp,out,aj hv,hi,rfl,hS⟩
     · rw [if_neg h0] at hX0 ⊢;obtain ⟨vs,hv⟩:=pH hX0;refine (cM (s:=s) (out:=out) hx h2 h0 hn y2 y1 hv Jo hS).mono ?_;rintro u w' ⟨vv,rfl,hS⟩;exact BX
   · rw [jU h3 h2] at hX0 ⊢;obtain ⟨vs,hv⟩:=pH hX0;refine (cN (s:=s) (out:=out) hx h2 h3 y2 y1 hv Jo hS).mono ?_;rintro u w' ⟨vv,rfl,hS⟩;exact BX
@[reducible] def RC.over (c:RC)(e:Int):RC:=⟨c.ep,c.fn,c.lv,c.iv,e,c.bv,c.ov,c.fu,c.mo,true⟩
@[reducible] def RC.tick (c:RC):RC:=⟨c.ep,c.fn,c.lv,c.iv,c.e,c.bv,c.ov,c.fu+1,c.mo,c.dn⟩
@[reducible] def jV (p1:Nat):List Value:=[.pointer (some ⟨p1,0,none⟩)]
@[reducible] def N6 (p p1:Nat):Res:=blk p1 59 [.pointer (some ⟨p,0,none⟩)]
theorem Vm {p1:Nat}(hS:St cx w (N6 p p1::L)):M3 Tryz.prog sK (jV p1) .returning w fun u' w'=>u'= .returning∧St cx w' (N6 p p1::L):=by
 unfold M3;refine bT Ko Tryz.func80 ?_;refine' bH;refine' Rl;refine' zn;refine' KA;refine' Rk;refine' KP;refine so (ms:=#[]) Jk rfl ?_;refine' Pn;refine' bO;exact AQ
theorem tM {p1:Nat}{e:Int}(hS:St cx w (N6 p p1::blk p 66 c.cells::L)):M3 Tryz.prog sK (jV p1) (.panicking [{v:=W0 e,recovered:=false}]) w fun u' w'=>u'= .panicking [{v:=W0 e,recovered:=true}]∧St cx w' (N6 p p1::blk p 66 (c.over e).cells::L):=by
 unfold M3;refine bT Ko Tryz.func80 ?_;refine' bH;refine' Rl;refine' zn;refine' KA;refine' Rk;refine' KP;refine sq (ms:=#[]) Jk rfl ?_;refine' OY;refine' KP;refine lr (D:= .int .i64) Jk Ej rfl ?_;refine' zm;refine' Sk;refine' zm;refine' OX;refine' Nv;refine' Pj;refine' Z2;refine zl hS ?_;refine' zm;refine' Z3;intro w1 hS;have hS:=hS.ns;refine' SV;refine LU hS ?_;intro w1 hS;have hS:=hS.ns;refine' zn;refine' bO;exact AQ
end
section
variable {cx:Cx}{w:World}{L:List Res}{p:Nat}{c:RC}{fr:List RFV}{g:RFV}{s:EstS}{out inp:List Int}{fu:Nat}{m:Module}
def pI (m:Module)(p:Nat)(c:RC)(fr:List RFV)(g:RFV)(s:EstS)(inp out:List Int)(fu:Nat)(cx:Cx)(L:List Res)(u:Value)(w':World):Prop:=
 u = .tuple #[]∧((c.fu=c.mo∧St cx w' (rS p (c.over 7) fr g s out L))∨(c.fu≠c.mo∧(Rv p c.tick s out fu ((KJ s g fr inp out fu).one m) cx L (.tuple #[]) w'∨
   ∃e,(KJ s g fr inp out fu).one m= .halt e∧∃fr' g',St cx w' (rS p (c.tick.over e) fr' g' s out L))))
theorem dA {f:Fun}{b:Block}{x:Ins}(hf:m.funcs[g.f]?=some f)(hb:f.blocks[g.b]?=some b)(hx:b.code[g.i]?=some x):(KJ s g fr inp out fu).one m=(KJ s g.nx fr inp out fu).ins m x:=by
 unfold RS.one;rw [show m.funcs[(KJ s g fr inp out fu).g.f]?=some f from hf];simp only;rw [show f.blocks[(KJ s g fr inp out fu).g.b]?=some b from hb];simp only;rw [show b.code[(KJ s g fr inp out fu).g.i]?=some x from hx];rfl
theorem dB {f:Fun}{b:Block}(hf:m.funcs[g.f]?=some f)(hb:f.blocks[g.b]?=some b)(hx:b.code.length≤g.i):(KJ s g fr inp out fu).one m=(KJ s g fr inp out fu).fin b.fin:=by
 unfold RS.one;rw [show m.funcs[(KJ s g fr inp out fu).g.f]?=some f from hf];simp only;rw [show f.blocks[(KJ s g fr inp out fu).g.b]?=some b from hb];simp only;rw [show b.code[(KJ s g fr inp out fu).g.i]?=none from FI hx]
attribute [local irreducible] RS.ins RS.fin RS.one N5 UR Rv PY
theorem Vn {f:Fun}{b:Block}(hdn:c.dn=false)(hfn:KD.sl cx c.fn m.funcs)(hi:Kh.sl cx c.iv inp)(hfx:m.funcs[g.f]?=some f)(hbx:f.blocks[g.b]?=some b)(hci:∀x∈b.code,Qel m x)(hce:gb f b.fin)(hgi:g.i≤1000)(hf:fr.length≤900)(hn:g.vals.length≤800000)(hfr:∀x∈fr,x.vals.length≤900000)(hol:out.length≤2000)(hfu:0≤c.fu∧c.fu≤10000000)(hX0:(KJ s g fr inp out fu).one m≠ .crash)(hS:St cx w (rS p c fr g s out L)):
 Kf Tryz.prog sD [.pointer (some ⟨p,0,none⟩)] w (pI m p c fr g s inp out fu cx L):=by
 (((have hgf:=(E8.1 hfx).1;have hgb:=(E8.1 hbx).1;unfold pI;refine oe Ko Tryz.func37 ?_;refine' XP;refine' OQ;refine' LS;refine zb hS ?_;intro p1 w1 hS;refine' zn;refine' XP;refine' OQ;refine' Kv;refine zl hS ?_;refine' Lh;refine zl hS ?_;rw [hdn];refine' Pn;refine' XP;refine' bG;refine' gR;refine' zn;refine ⟨_,_,rfl,?_⟩;refine' zn;refine' OQ;refine QA ?_;refine zD (ci 11 [10]) ?_;have hS:=hS.drew;refine zl hS ?_;refine' PN;refine zl hS ?_;refine' Mf;first|(refine' Ql)|(refine' Qp)|(refine' Ac<;>intro hc));all_goals (first|(refine' Kr (c:=Yf hS);rintro v1 w1 ⟨rfl,hS⟩)|(refine KH (c:=Yg hS) (p:=by rintro v9 w9 ⟨rfl,hS⟩;(repeat (first|refine' Q6|refine' Q8|refine fun _=>?_));refine' lx;refine XQ Dy Jk (tM (c:=c) (show St cx _ (N6 p p1::blk p 66 c.cells::_) from hS.sp)) ?_;rintro u' w' ⟨rfl,hS⟩;refine' XR;refine' gK;exact ⟨_,rfl,rfl, .inl ⟨Jo,hS.sp⟩⟩) (h:=fun _ _ h=>h.elim))));refine' L5;have hmo:c.fu≠c.mo:=Df;refine' Z2;refine' PN;refine' MX;refine' SV;refine LU hS ?_;intro w1 hS;have hS:=hS.ns;refine' Ui;refine zl hS ?_;have hS:St cx _ (rS p c.tick fr g s out (N6 p p1::L)):=hS.sp;refine' KE (c:=W1 Jo hS);rintro v1 w1 ⟨b9,o9,rfl,hel,hS⟩;refine' Ms;refine zC [(0,none),(1,none),(2,none),(3,none),(4,none),(5,none),(6,none),(7,none),(8,none),(9,none),(10,none),(11,none),(12,none),(13,none),(14,none),(15,none),(16,none),(17,none),(18,some (some [0,4,8,11,15,17])),(19,some none)] ?_;have hS:=hS.drew;refine' KW;refine zl hS ?_;refine' KO;refine' Nb;refine' X0;refine' Mu;refine' RO;refine QF hS hel rfl fd (Qc fr g) (Qg fr g) rfl ?_;refine' KO;refine' zi;intro b8 o8 cs8 x8 hat8 hx8 he8;obtain rfl:x8=f:=Fm (hx8.symm.trans hfx);obtain ⟨vp8,vr8,vb8,rfl,hp8,hr8,hb8⟩:=QH he8;refine' KO;refine' XW;refine' SP;refine' Mu;refine' RO;refine Q9 (j:=1) hS hel rfl fd (Qc fr g) (Qg fr g) rfl ?_;refine' KO;refine' zi;intro b7 o7 cs7 x7 hat7 hx7 he7;obtain rfl:x7=b:=Fm (hx7.symm.trans hbx);obtain ⟨vp7,vc7,u1,u2,u3,u4,u5,rfl,hp7,hc7,hu1,hu2,hu3,hu4,hu5⟩:=RJ he7;refine' S5;refine' PL;intro p3 w1 hS;refine' zt;refine ⟨Fe.2 ⟨(by first|(exact Ai)|(exact As)),Fe.2 ⟨(by first|(exact Ai)|(exact As)),Fe.2 ⟨DQ,Fe.2 ⟨(by first|(exact Ai)|(exact As)|(exact iw hS Ja rfl rfl)|(exact fI hS Ja rfl rfl)),Fe.2 ⟨DQ,Fe.2 ⟨(by first|(exact Ai)|(exact AJ)|(exact AW)),fun _ h=>(Fv h).elim⟩⟩⟩⟩⟩⟩,?_⟩;refine' LG;refine Kt hS ?_;intro w1 hS;have hS:=hS.ns;refine' Lq;refine QA ?_;refine zD (ci 8 [7]) ?_;have hS:=hS.drew;refine' Po;refine Q9 (j:=2) hS hel rfl fd (Qc fr g) (Qg fr g) rfl ?_;refine' KZ;refine' zL;first|(refine' KX)|(refine' K1)|(refine' Ae<;>intro hc));all_goals (refine' zn)
 all_goals
  first
  | (refine' Ki;refine zD (ci 10 [9]) ?_;have hS:=hS.drew;refine zl hS ?_;refine' KZ;refine' Po;refine Q9 (j:=2) hS hel rfl fd (Qc fr g) (Qg fr g) rfl ?_;refine' zi;intro b6 o6 cs6 x6 hat6 hx6 he6;obtain ⟨vr6,va6,rfl,hr6,ha6⟩:=Nx he6;have hX:=dA (s:=s) (fr:=fr) (inp:=inp) (out:=out) (fu:=fu) hfx hbx hx6;rw [hX] at hX0 ⊢;obtain ⟨q1,q2,q3,q4⟩:=hci _ (Fa hx6);refine' Oa;refine KH (c:=Yl (c:=c.tick) (fu:=fu) (inp:=inp) he6 hi q1 (fun h=>(q2 h).1) q4 hgi hf hn hol hX0 (show St cx _ (rS p c.tick fr g s out _) from hS.sp)) (p:=by rintro v9 w9 hB;obtain ⟨e9,hh,rfl,fr',g',hS⟩:=UR.get hB;(repeat (first|refine' Q6|refine' Q8|refine fun _=>?_));refine' lx;refine XQ Dy Jk (tM (c:=c.tick) (show St cx _ (N6 p p1::blk p 66 c.tick.cells::_) from hS.sp)) ?_;rintro u' w' ⟨rfl,hS⟩;refine' XR;refine' gK;exact ⟨_,rfl,rfl, .inr ⟨hmo, .inr ⟨e9,hh,fr',g',hS.sp⟩⟩⟩) (h:=?_);rintro u7 w7 hG;refine' zn;have hG:Rv p c.tick s out fu ((KJ s g.nx fr inp out fu).ins m x6) cx (N6 p p1::L) u7 w7:=(N5.ok hG).drop;obtain ⟨rfl,hG⟩:=hG.tup;obtain ⟨M,hS,hK⟩:=hG.form;have hS:St cx _ (N6 p p1::(L++M)):=JE hS)
  | (refine' Kk;have hX:=dB (s:=s) (fr:=fr) (inp:=inp) (out:=out) (fu:=fu) hfx hbx (by show x7.code.length≤g.i;omega);rw [hX] at hX0 ⊢;obtain ⟨q1,q2,q3,q4⟩:=hce;refine' Z2;refine' OV;refine' Kr (c:=YM (c:=c.tick) (fu:=fu) (inp:=inp) (e:=x7.fin) ⟨_,_,_,_,_,rfl,hu1,hu2,hu3,hu4,hu5⟩ hi q1 (fun h=>⟨(q3 h).1.1,(q3 h).2.2⟩) (fun h=>⟨(q4 h).1.1,(q4 h).2.2⟩) hf hfr hX0 (show St cx _ (rS p c.tick fr g s out _) from hS.sp));rintro u7 w7 hG;refine' zn;have hG:Rv p c.tick s out fu ((KJ s g fr inp out fu).fin x7.fin) cx (N6 p p1::L) u7 w7:=hG.drop;obtain ⟨rfl,hG⟩:=hG.tup;obtain ⟨M,hS,hK⟩:=hG.form;have hS:St cx _ (N6 p p1::(L++M)):=JE hS)
 all_goals (refine' bI;refine XQ Dy Jk (Vm hS) ?_;rintro u1 w1 ⟨rfl,hS⟩;refine' XR;refine' gK;exact ⟨_,rfl,rfl, .inr ⟨hmo, .inl (hK _ _ (JE (L:=M) (M:=L) (show St cx _ (L++M) from hS.drop)))⟩⟩)
end
end Go.Proofs.YteflkifmgnpbhaaGreat
namespace Go.Proofs.YteflkifmgnpbhaaGreat
open Go.Lir
def Reg.lim (r:Reg)(q:Int):Int:=if q=r.last then r.used else 16
theorem Qgg (s:PoolS)(k i:Int):(s.give k).word i=s.word i:=by
 unfold PoolS.give;split<;>rfl
theorem tN {i:Int}{l:List Int}:∀{s:PoolS},(s.gives l).word i=s.word i:=by
 induction l with
 | nil=>intro s;rfl
 | cons k l ih=>intro s;exact (ih (s:=s.give k)).trans (Qgg s k i)
theorem Mh {s:PoolS}{i:Int}:s.isIn i=true↔0≤i∧i<((s.n*16:Nat):Int):=decide_eq_true_iff
theorem pJ {s:PoolS}(ok:s.Ok){x:Int}(ha:s.isIn a=true)(i:Int):(s.store a x).word i=if i=a then x else s.word i:=by
 have ha':=Mh.1 ha;have hl:=ok.len;unfold PoolS.store;rw [if_pos ha];unfold PoolS.word;by_cases hi:s.isIn i=true
 · have hi':=Mh.1 hi
   have e:(⟨s.n,s.ws.set a.toNat x,s.fr⟩:PoolS).isIn i=true:=hi;rw [if_pos e,if_pos hi,ik Jo];by_cases h:i=a
   · subst h;rw [if_pos rfl,if_pos rfl]
   · rw [if_neg Jo,if_neg h]
 · have e:¬(⟨s.n,s.ws.set a.toNat x,s.fr⟩:PoolS).isIn i=true:=hi;rw [if_neg e,if_neg hi,if_neg (fun h:i=a=>hi (by rw [h];exact ha))]
theorem tO {s:PoolS}(ok:s.Ok){k:Nat}{fr:List Int}(h3:s.take=⟨s.n,RV s.ws k,fr⟩)(hk:k<s.n)(i:Int):s.take.word i=if (k:Int)*16≤i∧i<(k:Int)*16+16 then 0 else s.word i:=by
 have hl:=ok.len;rw [h3];unfold PoolS.word;by_cases hi:s.isIn i=true
 · have hi':=Mh.1 hi
   have e:(⟨s.n,RV s.ws k,fr⟩:PoolS).isIn i=true:=hi;rw [if_pos e,if_pos hi,←Qii hl hk,oT _ _ _ _ Jo];by_cases h:(k:Int)*16≤i∧i<(k:Int)*16+16
   · rw [if_pos Jo,if_pos h]
   · rw [if_neg Jo,if_neg h]
 · have e:¬(⟨s.n,RV s.ws k,fr⟩:PoolS).isIn i=true:=hi;rw [if_neg e,if_neg hi];split<;>rfl
theorem gd (ok:s.Ok){p:PoolS}{m k:Nat}(hm:m<16){r:Reg}:(⟨p,s.rs.set m r⟩:EstS).reg k=if k=m then r else s.reg k:=by
 have:=ok.len;unfold EstS.reg;rw [if_pos Jo,FJ,ik Jo];by_cases h:m=k
 · rw [if_pos h,if_pos h.symm]
 · rw [if_neg h,if_neg (Ir h),if_pos Jo]
theorem pK (ok:s.Ok){k m:Nat}(hk:k<16)(hm:m<16){q:Int}(h1:q∈(s.reg k).pages)(h2:q∈(s.reg m).pages):k=m:=by
 by_cases h:k=m
 · exact h
 exfalso;have hnd:=(Hh ok hm).1;have:=(He.1 hnd).2.2 q h2 q (IM.2 ⟨s.reg k,List.mem_eraseIdx_iff_getElem?.2 ⟨k,h,Gw ok hk⟩,h1⟩);exact this rfl
theorem pL {r:Reg}(h:r.pages≠[]):r.last∈r.pages:=by
 unfold Reg.last;rcases Hc r.pages with e|⟨l,x,e⟩
 · exact absurd e h
 · rw [e];simp
theorem pM (ok:s.Ok){k:Nat}(hk:k<16){q:Int}(h:q∈(s.reg k).pages):0≤q∧q<s.p.n∧q∉s.p.fr:=K0.1 (((Hh ok hk).2 q).1 (HE _ h))
theorem lX (ok:s.Ok){k:Nat}(hk:k<16){q:Int}:(s.reg k).lim q≤16:=by
 unfold Reg.lim;split
 · exact (Hy ok hk).2
 · exact IU _
structure GetF (s:EstS) (m:Nat) (x:Int) (P u:Int):Prop where
 x1:1≤x
 ux:0≤u∧u+x≤16
 v:s.getV m x=P*16+u
 rs:(s.get m x).rs=s.rs.set m ⟨(s.reg m).there,((s.get m x).reg m).pages,u+x⟩
 last:((s.get m x).reg m).last=P
 mem:P∈((s.get m x).reg m).pages
 sub:∀q∈(s.reg m).pages,q∈((s.get m x).reg m).pages
 n:(s.get m x).p.n=s.p.n
 old:P∈(s.reg m).pages→P=(s.reg m).last∧u=(s.reg m).used
 new:P∉(s.reg m).pages→∀k:Nat,k<16→P∉(s.reg k).pages
 w:∀i,¬(P*16≤i∧i<P*16+16)→(s.get m x).p.word i=s.p.word i
 wz:P∉(s.reg m).pages→∀i,P*16≤i∧i<P*16+16→(s.get m x).p.word i=0
 wo:P∈(s.reg m).pages→(s.get m x).p=s.p
theorem jW (ok:s.Ok){m:Nat}(hm:m<16){x:Int}(hc:s.code m x=0):∃P u,GetF s m x P u:=by
 obtain ⟨h1,h2,h3,h4⟩:=JR hc;have hu:=Hy ok hm;have hrs:(s.get m x).rs=s.rs.set m ((s.regTo m x).use x):=EI;have hp:(s.get m x).p=if (s.reg m).more x then s.p.take else s.p:=by unfold EstS.get;rw [if_pos hc]
 have hv:s.getV m x=(s.regTo m x).last*16+(s.regTo m x).used:=by unfold EstS.getV;rw [if_pos hc]
 have hreg:(s.get m x).reg m=(s.regTo m x).use x:=by
  have e:s.get m x=⟨(s.get m x).p,s.rs.set m ((s.regTo m x).use x)⟩:=(by rw [←hrs]);rw [e,gd ok hm,if_pos rfl]
 by_cases hmo:(s.reg m).more x=true
 · rw [if_pos hmo] at hp
   have hto:s.regTo m x=(s.reg m).grow s.p.top:=(by unfold EstS.regTo;rw [if_pos hmo]);rcases H4 ok.pok with ⟨e,_⟩|⟨kk,fr,e1,e2,e3⟩
   · exact absurd ⟨hmo,e⟩ h4
   · have hfree:∀k:Nat,k<16→s.p.top∉(s.reg k).pages:=fun k hk hmem=>by
      have:=(pM ok hk hmem).2.2;exact this (by rw [e2,e1];simp)
     have hnk:kk<s.p.n:=(by have:=ok.pok.rng kk (by rw [e1];simp);omega);refine ⟨s.p.top,0,h2,Jo,by rw [hv,hto];simp [Reg.grow,Reg.last],?_,?_,?_,?_,?_,fun h=>absurd h (hfree m hm),fun _=>hfree,fun i hi=>?_,fun _ i hi=>?_,fun h=>absurd h (hfree m hm)⟩
     · rw [hrs,hreg,hto];simp [Reg.use,Reg.grow]
     · rw [hreg,hto];simp [Reg.use,Reg.grow,Reg.last]
     · rw [hreg,hto];simp [Reg.use,Reg.grow]
     · intro q hq;rw [hreg,hto];simp [Reg.use,Reg.grow,hq]
     · rw [hp];exact Jz
     · rw [hp,tO ok.pok e3 hnk,if_neg (by rw [e2] at hi;exact hi)]
     · rw [hp,tO ok.pok e3 hnk,if_pos (by rw [e2] at hi;exact hi)]
 · rw [if_neg hmo] at hp
   have hto:s.regTo m x=s.reg m:=(by unfold EstS.regTo;rw [if_neg hmo]);obtain ⟨h5,h6⟩:=J6 hmo;have hl:=pL h5;refine ⟨(s.reg m).last,(s.reg m).used,h2,Jo,by rw [hv,hto],?_,?_,?_,?_,by rw [hp],fun _=>⟨rfl,rfl⟩,fun h=>absurd hl h,fun i _=>by rw [hp],fun h=>absurd hl h,fun _=>hp⟩
   · rw [hrs,hreg,hto];rfl
   · rw [hreg,hto];rfl
   · rw [hreg,hto];exact hl
   · intro q hq;rw [hreg,hto];exact hq
theorem GetF.reg (ok:s.Ok){m k:Nat}(hm:m<16){x P u:Int}(h:GetF s m x P u):(s.get m x).reg k=if k=m then ⟨(s.reg m).there,((s.get m x).reg m).pages,u+x⟩ else s.reg k:=by
 have e:s.get m x=⟨(s.get m x).p,s.rs.set m ⟨(s.reg m).there,((s.get m x).reg m).pages,u+x⟩⟩:=(by rw [←h.rs]);have:=gd ok hm (p:=(s.get m x).p) (k:=k) (r:=⟨(s.reg m).there,((s.get m x).reg m).pages,u+x⟩);rw [←e] at this;exact this
end Go.Proofs.YteflkifmgnpbhaaGreat
namespace Go.Lir
section
def Kz (l:List Bool)(r:Int):Bool:=decide (0≤r) && decide (r<l.length) && l.getD r.toNat false

def M6 (l:List Bool)(n:Nat):List Int:=((List.range n).filter fun j=>l.getD j false).map Int.ofNat
def LY (l:List Bool):List Int:=M6 l l.length
theorem lY (l:List Bool)(n:Nat):M6 l (n+1)=M6 l n++if l.getD n false then [(n:Int)] else []:=by
 unfold M6;rw [HH,List.filter_append,FG];congr 1;by_cases h:l.getD n false=true
 · rw [if_pos h,List.filter_cons_of_pos Dz];rfl
 · rw [if_neg h,Jm Dz];rfl
theorem pN (l:List Bool)(n:Nat):(M6 l n).length≤n:=by
 unfold M6;rw [Fb];exact GL (List.length_filter_le _ _) Js

def Mv (l:List Bool)(seen:List Int):List Int→Int
 | []=>if seen.length<(LY l).length then 12 else 0
 | x::xs=>if Kz l x then if x∈seen then 13 else Mv l (seen++[x]) xs else 10
def Rw (l:List Bool)(ys:List Int):List Bool:=(List.range l.length).map fun (j:Nat)=>decide ((j:Int)∈ys)
theorem QgA (l:List Bool)(ys:List Int):(Rw l ys).length=l.length:=by simp [Rw]
theorem Qgz (l:List Bool):Rw l []=List.replicate l.length false:=by
 apply IP<;>simp [Rw]
theorem QgB {l:List Bool}{r:Int}(h0:0≤r)(h1:r<l.length):(Rw l ys).getD r.toNat false=decide (r∈ys):=by
 have:r.toNat<l.length:=Df;simp [Rw,E9,Fy,Ho this,FO h0]
theorem Qgy {l:List Bool}{r:Int}(h0:0≤r):(Rw l ys).set r.toNat true=Rw l (ys++[r]):=by
 apply GY;intro j;simp only [Rw,Gz,Fy,Fb,HZ];by_cases hj:j<l.length
 · simp only [Ho hj,Gd]
   by_cases he:r.toNat=j
   · subst he;simp [hj,FO h0]
   · have:(j:Int)≠r:=Df;simp [he,this]
 · have h2:(List.range l.length)[j]?=none:=by simp;omega
   simp only [h2,IY];by_cases he:r.toNat=j
   · subst he;simp [hj]
   · simp [he]
theorem dC {l:List Bool}{r:Int}(h:Kz l r=true):0≤r∧r<l.length∧l.getD r.toNat false=true:=by
 simp only [Kz,Fj,decide_eq_true_eq] at h;exact ⟨h.1.1,h.1.2,h.2⟩

def W3 (l:List Bool)(xs0 seen:List Int):List Int→Int
 | []=>if∀y∈LY l,y∈xs0 then 0 else 12
 | x::xs=>if Kz l x then if x∈seen then 13 else W3 l xs0 (seen++[x]) xs else 10


theorem Mi {l:List Bool}{x:Int}:x∈LY l↔Kz l x=true:=by
 simp only [LY,M6,FU,Hr,FX,Kz,Fj,decide_eq_true_eq];constructor
 · rintro ⟨j,⟨h1,h2⟩,rfl⟩;exact ⟨⟨by simp,by simpa using h1⟩,by simpa using h2⟩
 · rintro ⟨⟨h0,h1⟩,h2⟩;exact ⟨x.toNat,⟨Jo,h2⟩,by simp;omega⟩
theorem QdL (l:List Bool):(LY l).Nodup:=by
 unfold LY M6;unfold List.Nodup;rw [J9];refine List.Pairwise.imp ?_ (List.Pairwise.filter _ (List.nodup_range (n:=l.length)));intro a b h e;exact h (Int.ofNat.inj e)
theorem Qck (l:List Bool)(xs:List Int):∀(rest seen:List Int),seen++rest=xs→seen.Nodup→(∀y∈seen,Kz l y=true)→Mv l seen rest=W3 l xs seen rest:=by
 intro rest
 induction rest with
 | nil=>
   intro seen he hn hs;rw [Gk] at he;subst he;simp only [Mv,W3];have h1:seen.length≤(LY l).length:=bo hn fun y hy=>Mi.2 (hs y hy);by_cases h:∀y∈LY l,y∈seen
   · have:=bo (QdL l) h;rw [if_pos h,if_neg Jo]
   · rw [if_neg h,if_pos]
     simp only [JK] at h;obtain ⟨y,hy,hn'⟩:=h
     have:=bo (a:=y::seen) (b:=LY l) (G9.2 ⟨hn',hn⟩) (by
      intro z hz;rcases FA.1 hz with rfl|hz
      · exact hy
      · exact Mi.2 (hs z hz))
     simp only [Fk] at this;omega
 | cons x rest ih=>
   intro seen he hn hs;simp only [Mv,W3];by_cases h1:Kz l x=true
   · rw [if_pos h1,if_pos h1]
     by_cases h2:x∈seen
     · rw [if_pos h2,if_pos h2]
     · rw [if_neg h2,if_neg h2]
       refine ih (seen++[x]) (by rw [GJ];exact he) ?_ ?_
       · rw [He];exact ⟨hn,by simp,fun a ha b hb e=>by simp at hb;subst hb;subst e;exact h2 ha⟩
       · intro y hy
         rcases FC.1 hy with hy|hy
         · exact hs y hy
         · simp at hy;subst hy;exact h1
   · rw [if_neg h1,if_neg h1]
theorem Qhp (l:List Bool)(xs:List Int):Mv l [] xs=W3 l xs [] xs:=Qck l xs xs [] rfl I0 Js
end
section
structure JS where
 h:List Bool
 l:List Ty
deriving instance DecidableEq for JS
def Lw (s:JS)(k:Int):Except Int Ty:=if k<0 then .error 1 else match s.l[k.toNat]? with
 | none=> .error 1
 | some t=> .ok t
def Kg {α β:Type}(x:Except Int α)(f:α→Except Int β):Except Int β:=match x with
 | .error e=> .error e
 | .ok a=>f a
theorem Qw {x:Except Int α}{f:α→Except Int β}{e:Int}(h:x= .error e):Kg x f= .error e:=by rw [h];rfl
theorem Q3 {x:Except Int α}{f:α→Except Int β}{a:α}(h:x= .ok a):Kg x f=f a:=by rw [h];rfl
theorem Qa {x:Except Int α}{f:α→Except Int β}{b:β}(h:Kg x f= .ok b):∃a,x= .ok a∧f a= .ok b:=by
 cases x with
 | error e=>cases h
 | ok a=>exact ⟨a,rfl,h⟩
def KB (s:JS)(k kind:Int):Except Int Ty:=Kg (Lw s k) fun t=>if t.kind≠kind then .error 9 else .ok t
def Lr (s:JS)(k kind:Int):Except Int Ty:=Kg (KB s k kind) fun t=>if Kz s.h t.r=false then .error 10 else .ok t
def LH (s:JS)(t:Ty):Except Int JS:=if s.l.length=80 then .error 2 else .ok ⟨s.h,s.l++[t]⟩
def NT (s:JS)(regs:List Int):List Int→List Ty→Except Int Unit
 | k::l,u::want=>Kg (Lw s k) fun t=>match u.ren regs with
   | none=> .error 9
   | some u'=>if t≠u' then .error 9 else NT s regs l want
 | _,_=> .ok ()
def OF (s:JS)(l:List Int)(want:List Ty)(regs:List Int):Except Int Unit:=if l.length≠want.length then .error 2 else NT s regs l want
def O8 (t:Ty)(k:Int):Except Int Ty:=match t.l[k.toNat]? with
 | none=> .error 9
 | some u=> .ok u
def M0 (h:List Bool)(p:List Int):List Int→Except Int Unit
 | []=> .ok ()
 | r::l=>if Kz h r=false then .error 10 else if r∈p then .error 13 else M0 h (p++[r]) l
def MI (to:List Int)(t:Ty):Ty:=(t.ren to).getD (.mk 0 0 [])
def Rc (m:Module)(s:JS)(x:Ins):Except Int JS:=match m.funcs[x.k.toNat]? with
 | none=> .error 1
 | some g=>if (x.regs.length:Int)≠g.regs then .error 2 else Kg (M0 s.h [] x.regs) fun _=>Kg (OF s x.args g.params x.regs) fun _=>
   if 80<s.l.length+g.results.length then .error 2 else .ok ⟨s.h,s.l++g.results.map (MI x.regs)⟩
def Kw (s:JS):List Int→Except Int (List Ty)
 | []=> .ok []
 | k::l=>Kg (Lw s k) fun t=>Kg (Kw s l) fun ts=> .ok (t::ts)
def Ks:Ty:= .mk 1 0 []
def Vo (s:JS)(x:Ins):Except Int JS:=Kg (Lr s x.a 2) fun t=>Kg (Kw s x.args) fun ts=>
 if (Ty.mk 3 t.r ts).fault s.h.length≠0 then .error 19 else LH s (.mk 3 t.r ts)
def KK (m:Module)(f:Fun)(s:JS)(x:Ins):Except Int JS:=
 if x.op=1∨x.op=12 then LH s Ks
 else if x.op=2 then Kg (KB s x.a 1) fun _=>Kg (KB s x.b 1) fun _=>LH s Ks
 else if x.op=3 then (if s.h.length=16∨s.l.length=80 then .error 2 else .ok ⟨s.h++[true],s.l++[.mk 2 s.h.length []]⟩)
 else if x.op=4 then Kg (Lr s x.a 2) fun t=>if t.r<f.regs then .error 11 else .ok ⟨s.h.set t.r.toNat false,s.l⟩
 else if x.op=5 then Vo s x
 else if x.op=6 then Kg (Lr s x.a 3) fun t=>Kg (O8 t x.k) fun u=>LH s u
 else if x.op=7 then Kg (Lr s x.a 3) fun t=>Kg (O8 t x.k) fun u=>Kg (Lw s x.b) fun v=>if u≠v then .error 9 else .ok s
 else if x.op=8 then Kg (Lr s x.a 2) fun t=>Kg (KB s x.b 1) fun _=>LH s (.mk 4 t.r [])
 else if x.op=9 then Kg (Lr s x.a 4) fun _=>Kg (KB s x.b 1) fun _=>LH s Ks
 else if x.op=10 then Kg (Lr s x.a 4) fun _=>Kg (KB s x.b 1) fun _=>Kg (KB s x.c 1) fun _=> .ok s
 else if x.op=11 then Kg (Lr s x.a 4) fun _=>LH s Ks
 else if x.op=13 then Kg (KB s x.a 1) fun _=> .ok s
 else Rc m s x
def KM (m:Module)(f:Fun)(s:JS)(x:Ins):Int×JS:=if Qx m.funcs.length x≠0 then (Qx m.funcs.length x,s) else match KK m f s x with
 | .error c=>(c,s)
 | .ok s'=>(0,s')
def NJ (l:List Int)(n:Nat):Bool:=(List.range n).all fun i=>decide (l[i]?=some (i:Int))
def NK (f:Fun)(s:JS)(t:To):Except Int Unit:=match f.blocks[t.block.toNat]? with
 | none=> .error 1
 | some b=>if (t.regs.length:Int)≠b.regs then .error 2 else if NJ t.regs f.regs.toNat=false then .error 11 else
   if Mv s.h [] t.regs≠0 then .error (Mv s.h [] t.regs) else OF s t.args b.params t.regs
def K6 (n:Nat):List Int:=(List.range n).map Int.ofNat
def Mj (f:Fun)(s:JS)(e:Tail):Except Int Unit:=
 if e.op=1 then NK f s e.yes
 else if e.op=2 then Kg (KB s e.a 1) fun _=>Kg (NK f s e.yes) fun _=>NK f s e.no
 else Kg (OF s e.args f.results (K6 f.regs.toNat)) fun _=>if f.regs<(LY s.h).length then .error 12 else .ok ()
def Mb (f:Fun)(s:JS)(e:Tail):Int:=if Nl f.blocks.length e≠0 then Nl f.blocks.length e else match Mj f s e with
 | .error c=>c
 | .ok _=>0
def MJ (y:Block):JS:=⟨List.replicate (min y.regs 16).toNat true,y.params⟩

theorem lZ {s:JS}{k:Int}{t:Ty}(h:Lw s k= .ok t):0≤k∧s.l[k.toNat]?=some t:=by
 unfold Lw at h;split at h
 · cases h
 · rename_i h0
   split at h
   · cases h
   · rename_i u hu;cases h;exact ⟨Jo,hu⟩
theorem al {s:JS}{k:Int}(h:k<0∨(s.l.length:Int)≤k):Lw s k= .error 1:=by
 unfold Lw;by_cases h0:k<0
 · rw [if_pos h0]
 · rw [if_neg h0,FI Jo]
theorem YN {s:JS}{k:Int}{t:Ty}(h0:0≤k)(h:s.l[k.toNat]?=some t):Lw s k= .ok t:=by
 unfold Lw;rw [if_neg Jo,h]
theorem pO {s:JS}{k kind:Int}{t:Ty}(h:KB s k kind= .ok t):0≤k∧s.l[k.toNat]?=some t∧t.kind=kind:=by
 obtain ⟨u,h1,h2⟩:=Qa h;split at h2
 · cases h2
 · rename_i hk;cases h2;have:=lZ h1;exact ⟨this.1,this.2,FP.1 hk⟩
theorem W4 {s:JS}{k kind:Int}{t:Ty}(h:Lr s k kind= .ok t):0≤k∧s.l[k.toNat]?=some t∧t.kind=kind∧Kz s.h t.r=true:=by
 obtain ⟨u,h1,h2⟩:=Qa h;split at h2
 · cases h2
 · rename_i hk;cases h2;have:=pO h1;exact ⟨this.1,this.2.1,this.2.2,by simpa using hk⟩
theorem l0 {s s':JS}{t:Ty}(h:LH s t= .ok s'):s.l.length≠80∧s'.h=s.h∧s'.l=s.l++[t]:=by
 unfold LH at h;split at h
 · cases h
 · rename_i hk;cases h;exact ⟨hk,rfl,rfl⟩
structure JStep (x:Ins) (s s':JS):Prop where
 len:s.l.length≤80→s'.l.length≤80
 pre:∃more,s'.l=s.l++more∧(x.op≠14→more.length≤1)∧(x.op=3→more.length=1)∧(x.op=4→more=[])
 new:x.op=3→s'.h=s.h++[true]∧s.h.length≠16
 free:x.op=4→∃t,0≤x.a∧s.l[x.a.toNat]?=some t∧t.kind=2∧Kz s.h t.r=true∧s'.h=s.h.set t.r.toNat false
 else_:x.op≠3→x.op≠4→s'.h=s.h
theorem dD {x:Ins}{s s':JS}{t:Ty}(h:LH s t= .ok s')(h3:x.op≠3)(h4:x.op≠4):JStep x s s':=by
 obtain ⟨h1,h2,h5⟩:=l0 h;refine ⟨fun hl=>by rw [h5,Fc];simp only [Fk,FF];omega,⟨[t],h5,fun _=>by simp,fun h=>absurd h h3,fun h=>absurd h h4⟩,fun h=>absurd h h3,fun h=>absurd h h4,fun _ _=>h2⟩
theorem pP {x:Ins}{s:JS}(h3:x.op≠3)(h4:x.op≠4):JStep x s s:=
 ⟨fun hl=>hl,⟨[],by simp,fun _=>by simp,fun h=>absurd h h3,fun h=>absurd h h4⟩,fun h=>absurd h h3,fun h=>absurd h h4,fun _ _=>rfl⟩
theorem QhJ {f:Fun}{s s':JS}{x:Ins}(hop:1≤x.op∧x.op≤14)(h:KK m f s x= .ok s'):JStep x s s':=by
 unfold KK at h;by_cases h1:x.op=1∨x.op=12
 · rw [if_pos h1] at h;exact dD h Jo Jo
 rw [if_neg h1] at h;by_cases h2:x.op=2
 · rw [if_pos h2] at h;obtain ⟨_,_,h⟩:=Qa h;obtain ⟨_,_,h⟩:=Qa h;exact dD h Jo Jo
 rw [if_neg h2] at h;by_cases hc:x.op=3
 · rw [if_pos hc] at h
   by_cases hn:s.h.length=16∨s.l.length=80
   · rw [if_pos hn] at h;cases h
   · rw [if_neg hn] at h;cases h;exact ⟨fun hl=>by simp only [Fc,Fk,FF];omega,⟨[_],rfl,fun _=>by simp,fun _=>rfl,fun h=>by omega⟩,fun _=>⟨rfl,Jo⟩,fun h=>by omega,fun h=>absurd hc h⟩
 rw [if_neg hc] at h;by_cases hc4:x.op=4
 · rw [if_pos hc4] at h
   obtain ⟨t,h1,h⟩:=Qa h;by_cases hk:t.r<f.regs
   · rw [if_pos hk] at h;cases h
   · rw [if_neg hk] at h;cases h;obtain ⟨a1,a2,a3,a4⟩:=W4 h1;exact ⟨fun hl=>hl,⟨[],by simp,fun _=>by simp,fun h=>by omega,fun _=>rfl⟩,fun h=>by omega,fun _=>⟨t,a1,a2,a3,a4,rfl⟩,fun _ h=>absurd hc4 h⟩
 rw [if_neg hc4] at h;by_cases h5:x.op=5
 · rw [if_pos h5] at h
   unfold Vo at h;obtain ⟨t,_,h⟩:=Qa h;obtain ⟨ts,_,h⟩:=Qa h;by_cases hk:(Ty.mk 3 t.r ts).fault s.h.length≠0
   · rw [if_pos hk] at h;cases h
   · rw [if_neg hk] at h;exact dD h Jo Jo
 rw [if_neg h5] at h;by_cases h6:x.op=6
 · rw [if_pos h6] at h;obtain ⟨_,_,h⟩:=Qa h;obtain ⟨_,_,h⟩:=Qa h;exact dD h Jo Jo
 rw [if_neg h6] at h;by_cases h7:x.op=7
 · rw [if_pos h7] at h
   obtain ⟨_,_,h⟩:=Qa h;obtain ⟨u,_,h⟩:=Qa h;obtain ⟨v,_,h⟩:=Qa h;by_cases hk:u≠v
   · rw [if_pos hk] at h;cases h
   · rw [if_neg hk] at h;cases h;exact pP Jo Jo
 rw [if_neg h7] at h;by_cases h8:x.op=8
 · rw [if_pos h8] at h;obtain ⟨_,_,h⟩:=Qa h;obtain ⟨_,_,h⟩:=Qa h;exact dD h Jo Jo
 rw [if_neg h8] at h;by_cases h9:x.op=9
 · rw [if_pos h9] at h;obtain ⟨_,_,h⟩:=Qa h;obtain ⟨_,_,h⟩:=Qa h;exact dD h Jo Jo
 rw [if_neg h9] at h;by_cases h10:x.op=10
 · rw [if_pos h10] at h;obtain ⟨_,_,h⟩:=Qa h;obtain ⟨_,_,h⟩:=Qa h;obtain ⟨_,_,h⟩:=Qa h;cases h;exact pP Jo Jo
 rw [if_neg h10] at h;by_cases h11:x.op=11
 · rw [if_pos h11] at h;obtain ⟨_,_,h⟩:=Qa h;exact dD h Jo Jo
 rw [if_neg h11] at h;by_cases h13:x.op=13
 · rw [if_pos h13] at h;obtain ⟨_,_,h⟩:=Qa h;cases h;exact pP Jo Jo
 rw [if_neg h13] at h;unfold Rc at h;split at h
 · cases h
 · rename_i g hg
   by_cases hr:(x.regs.length:Int)≠g.regs
   · rw [if_pos hr] at h;cases h
   · rw [if_neg hr] at h
     obtain ⟨_,_,h⟩:=Qa h;obtain ⟨_,_,h⟩:=Qa h;by_cases hn:80<s.l.length+g.results.length
     · rw [if_pos hn] at h;cases h
     · rw [if_neg hn] at h;cases h;exact ⟨fun hl=>by rw [Fc,Fb];omega,⟨_,rfl,fun h=>by omega,fun h=>by omega,fun h=>by omega⟩,fun h=>by omega,fun h=>by omega,fun _ _=>rfl⟩
theorem aq {n:Nat}{x:Ins}(h:Qx n x=0):1≤x.op∧x.op≤14:=by
 unfold Qx at h;split at h
 · cases h
 · omega
section
variable {s:JS}{regs l:List Int}{want:List Ty}{k:Nat}{x c:Int}{u u' t:Ty}
theorem l3 (hx:l[k]?=some x)(hu:want[k]?=some u)(h:Lw s x= .error c):NT s regs (l.drop k) (want.drop k)= .error c:=by
 rw [Q1 hx,Q1 hu,NT,Qw h]
theorem tP (hx:l[k]?=some x)(hu:want[k]?=some u)(h:Lw s x= .ok t)(hn:u.ren regs=none):NT s regs (l.drop k) (want.drop k)= .error 9:=by
 rw [Q1 hx,Q1 hu,NT,Q3 h,hn]
theorem tQ (hx:l[k]?=some x)(hu:want[k]?=some u)(h:Lw s x= .ok t)(hn:u.ren regs=some u')(hd:t≠u'):NT s regs (l.drop k) (want.drop k)= .error 9:=by
 rw [Q1 hx,Q1 hu,NT,Q3 h,hn];exact if_pos hd
theorem tR (hx:l[k]?=some x)(hu:want[k]?=some u)(h:Lw s x= .ok t)(hn:u.ren regs=some u')(hd:t=u'):NT s regs (l.drop k) (want.drop k)=NT s regs (l.drop (k+1)) (want.drop (k+1)):=by
 rw [Q1 hx,Q1 hu,NT,Q3 h,hn];exact if_neg (fun h=>h hd)
theorem tS (h:l.length≤k):NT s regs (l.drop k) (want.drop k)= .ok ():=by
 rw [Fh h,NT];intro k l u w h;cases h
end
section
variable {m:Module}{f:Fun}{s:JS}{x:Ins}
theorem W5 (h:x.op=1∨x.op=12):KK m f s x=(LH s Ks):=by
 unfold KK;rw [if_pos Jo]
theorem ar (h:x.op=2):KK m f s x=(Kg (KB s x.a 1) fun _=>Kg (KB s x.b 1) fun _=>LH s Ks):=by
 unfold KK;rw [if_neg Jo,if_pos Jo]
theorem gg (h:x.op=3):KK m f s x=(if s.h.length=16∨s.l.length=80 then .error 2 else .ok ⟨s.h++[true],s.l++[.mk 2 s.h.length []]⟩):=by
 unfold KK;rw [if_neg Jo,if_neg Jo,if_pos Jo]
theorem dE (h:x.op=4):KK m f s x=(Kg (Lr s x.a 2) fun t=>if t.r<f.regs then .error 11 else .ok ⟨s.h.set t.r.toNat false,s.l⟩):=by
 unfold KK;rw [if_neg Jo,if_neg Jo,if_neg Jo,if_pos Jo]
theorem gh (h:x.op=5):KK m f s x=(Vo s x):=by
 unfold KK;(repeat rw [if_neg Jo]);rw [if_pos Jo]
theorem au (h:x.op=6):KK m f s x=(Kg (Lr s x.a 3) fun t=>Kg (O8 t x.k) fun u=>LH s u):=by
 unfold KK;(repeat rw [if_neg Jo]);rw [if_pos Jo]
theorem Vp (h:x.op=7):KK m f s x=(Kg (Lr s x.a 3) fun t=>Kg (O8 t x.k) fun u=>Kg (Lw s x.b) fun v=>if u≠v then .error 9 else .ok s):=by
 unfold KK;(repeat rw [if_neg Jo]);rw [if_pos Jo]
theorem ax (h:x.op=8):KK m f s x=(Kg (Lr s x.a 2) fun t=>Kg (KB s x.b 1) fun _=>LH s (.mk 4 t.r [])):=by
 unfold KK;(repeat rw [if_neg Jo]);rw [if_pos Jo]
theorem ay (h:x.op=9):KK m f s x=(Kg (Lr s x.a 4) fun _=>Kg (KB s x.b 1) fun _=>LH s Ks):=by
 unfold KK;(repeat rw [if_neg Jo]);rw [if_pos Jo]
theorem aA (h:x.op=10):KK m f s x=(Kg (Lr s x.a 4) fun _=>Kg (KB s x.b 1) fun _=>Kg (KB s x.c 1) fun _=> .ok s):=by
 unfold KK;(repeat rw [if_neg Jo]);rw [if_pos Jo]
theorem dF (h:x.op=11):KK m f s x=(Kg (Lr s x.a 4) fun _=>LH s Ks):=by
 unfold KK;(repeat rw [if_neg Jo]);rw [if_pos Jo]
theorem gi (h:x.op=13):KK m f s x=(Kg (KB s x.a 1) fun _=> .ok s):=by
 unfold KK;(repeat rw [if_neg Jo]);rw [if_pos Jo]
theorem dG (h:x.op=14):KK m f s x=(Rc m s x):=by
 unfold KK;(repeat rw [if_neg Jo])
theorem dH {t:Ty}(h:s.l.length≠80):LH s t= .ok ⟨s.h,s.l++[t]⟩:=if_neg h
theorem dI {t:Ty}(h:s.l.length=80):LH s t= .error 2:=if_pos h
theorem tT {k c:Int}{ts:List Ty}(hx:x.args[q]?=some k)(hd:Kw s x.args=Kg (Kw s (x.args.drop q)) fun l=> .ok (ts++l))(h:Lw s k= .error c):Kw s x.args= .error c:=by
 rw [hd,Q1 hx,Kw,Qw h];rfl
theorem tU {k:Int}{t:Ty}{ts:List Ty}(hx:x.args[q]?=some k)(hd:Kw s x.args=Kg (Kw s (x.args.drop q)) fun l=> .ok (ts++l))(h:Lw s k= .ok t):Kw s x.args=Kg (Kw s (x.args.drop (q+1))) fun l=> .ok ((ts++[t])++l):=by
 rw [hd,Q1 hx,Kw,Q3 h]
 cases Kw s (x.args.drop (q+1)) with
 | error c=>rfl
 | ok l=>simp [Kg]
theorem tV {ts:List Ty}(hd:Kw s x.args=Kg (Kw s (x.args.drop q)) fun l=> .ok (ts++l))(h:x.args.length≤q):Kw s x.args= .ok ts:=by
 rw [hd,Fh h,Kw];simp [Kg]
end
theorem dJ (l:List Int)(n:Nat):NJ l (n+1)=(NJ l n && decide (l[n]?=some (n:Int))):=by
 unfold NJ;rw [HH,List.all_append];simp
theorem l4 {l:List Int}{n q:Nat}(hq:q<n)(h:l[q]?≠some (q:Int)):NJ l n=false:=by
 unfold NJ;rw [List.all_eq_false];exact ⟨q,FX.2 hq,by simpa using h⟩
theorem tW (n:Nat):K6 (n+1)=K6 n++[(n:Int)]:=by unfold K6;rw [HH,FG];rfl
section
variable {f:Fun}{s:JS}{t:To}{b:Block}{e:Tail}
theorem jX (hb:f.blocks[t.block.toNat]?=some b)(h:(t.regs.length:Int)≠b.regs):NK f s t= .error 2:=by unfold NK;rw [hb];exact if_pos h
theorem l5 (hb:f.blocks[t.block.toNat]?=some b)(h:¬(t.regs.length:Int)≠b.regs)(h2:NJ t.regs f.regs.toNat=false):NK f s t= .error 11:=by unfold NK;rw [hb];simp only;rw [if_neg h,if_pos h2]
theorem Vq (hb:f.blocks[t.block.toNat]?=some b)(h:¬(t.regs.length:Int)≠b.regs)(h2:NJ t.regs f.regs.toNat=true)(h3:Mv s.h [] t.regs≠0):NK f s t= .error (Mv s.h [] t.regs):=by unfold NK;rw [hb];simp only;rw [if_neg h,if_neg (by rw [h2];decide),if_pos h3]
theorem Vr (hb:f.blocks[t.block.toNat]?=some b)(h:¬(t.regs.length:Int)≠b.regs)(h2:NJ t.regs f.regs.toNat=true)(h3:Mv s.h [] t.regs=0):NK f s t=OF s t.args b.params t.regs:=by unfold NK;rw [hb];simp only;rw [if_neg h,if_neg (by rw [h2];decide),if_neg (fun h=>h h3)]
theorem l6 (h:e.op=1):Mj f s e=NK f s e.yes:=by unfold Mj;rw [if_pos h]
theorem aB (h:e.op=2):Mj f s e=Kg (KB s e.a 1) fun _=>Kg (NK f s e.yes) fun _=>NK f s e.no:=by unfold Mj;rw [if_neg Jo,if_pos h]
theorem dK (h:e.op=3):Mj f s e=Kg (OF s e.args f.results (K6 f.regs.toNat)) fun _=>if f.regs<(LY s.h).length then .error 12 else .ok ():=by unfold Mj;rw [if_neg Jo,if_neg Jo]
theorem YO {n:Nat}(h:Nd n t true=0):0≤t.block∧t.block<n:=by
 unfold Nd at h;simp at h;omega
theorem gj {n:Nat}(h:Nl n e=0):1≤e.op∧e.op≤3∧Nd n e.yes (decide (e.op≠3))=0∧Nd n e.no (decide (e.op=2))=0:=by
 unfold Nl at h;split at h
 · cases h
 · split at h
   · cases h
   · split at h
     · cases h
     · unfold Sw at h
       split at h
       · rename_i h1;exact absurd h h1
       · rename_i h1;exact ⟨Jo,Jo,FP.1 h1,h⟩
end
def NZ {α:Type}(x:Except Int α):Prop:=∀c,x= .error c→c≠0
theorem NZ.e {c:Int}(h:c≠0):NZ (.error c:Except Int α):=fun _ h'=>by cases h';exact h
theorem NZ.o (a:α):NZ (.ok a:Except Int α):=fun _ h'=>by cases h'
theorem NZ.bind {x:Except Int α}{f:α→Except Int β}(h1:NZ x)(h2:∀a,x= .ok a→NZ (f a)):NZ (Kg x f):=by
 cases x with
 | error e=>exact fun c h=>by cases h;exact h1 _ rfl
 | ok a=>exact h2 a rfl
theorem NZ.ite {p:Prop}[Decidable p]{a b:Except Int α}(h1:NZ a)(h2:NZ b):NZ (if p then a else b):=by
 split
 · exact h1
 · exact h2
theorem jY (s:JS)(k:Int):NZ (Lw s k):=by
 unfold Lw;split
 · exact .e Jd
 · split
   · exact .e Jd
   · exact .o _
theorem Vs (s:JS)(k kind:Int):NZ (KB s k kind):=by
 refine .bind (jY s k) fun t _=>?_;split
 · exact .e Jd
 · exact .o _
theorem dL (s:JS)(k kind:Int):NZ (Lr s k kind):=by
 refine .bind (Vs s k kind) fun t _=>?_;split
 · exact .e Jd
 · exact .o _
theorem YP (s:JS)(t:Ty):NZ (LH s t):=by
 unfold LH;split
 · exact .e Jd
 · exact .o _
theorem tY (s:JS)(regs:List Int):∀(l:List Int) (want:List Ty),NZ (NT s regs l want)
 | [],[]=>by unfold NT;exact .o _
 | [],_::_=>by unfold NT;exact .o _
 | _::_,[]=>by unfold NT;exact .o _
 | k ::l,u::want=>by
   unfold NT;refine .bind (jY s k) fun t _=>?_;split
   · exact .e Jd
   · split
     · exact .e Jd
     · exact tY s regs l want
theorem dM (s:JS)(l:List Int)(want:List Ty)(regs:List Int):NZ (OF s l want regs):=by
 unfold OF;split
 · exact .e Jd
 · exact tY s regs l want
theorem tZ (t:Ty)(k:Int):NZ (O8 t k):=by
 unfold O8;split
 · exact .e Jd
 · exact .o _
theorem pQ (h:List Bool):∀(l p:List Int),NZ (M0 h p l)
 | [],_=>by unfold M0;exact .o _
 | r ::l,p=>by
   unfold M0;split
   · exact .e Jd
   · split
     · exact .e Jd
     · exact pQ h l _
theorem pR (s:JS):∀(l:List Int),NZ (Kw s l)
 | []=>by unfold Kw;exact .o _
 | k::l=>by
   unfold Kw;exact .bind (jY s k) fun _ _=> .bind (pR s l) fun _ _=> .o _
theorem Vt (m:Module)(s:JS)(x:Ins):NZ (Rc m s x):=by
 unfold Rc;split
 · exact .e Jd
 · split
   · exact .e Jd
   · refine .bind (pQ _ _ _) fun _ _=> .bind (dM _ _ _ _) fun _ _=>?_
     split
     · exact .e Jd
     · exact .o _
theorem YQ (m:Module)(f:Fun)(s:JS)(x:Ins):NZ (KK m f s x):=by
 unfold KK Vo
 repeat' (first|exact YP _ _|exact Vt _ _ _|exact .o _|exact .e Jd|refine .bind (Vs _ _ _) fun _ _=>?_|refine .bind (dL _ _ _) fun _ _=>?_|refine .bind (tZ _ _) fun _ _=>?_|refine .bind (jY _ _) fun _ _=>?_|refine .bind (pR _ _) fun _ _=>?_|refine .ite ?_ ?_)
theorem pS {f:Fun}{s:JS}{x:Ins}(h:(KM m f s x).1=0):Qx m.funcs.length x=0∧KK m f s x= .ok (KM m f s x).2:=by
 unfold KM at h ⊢;split at h
 · rename_i hf;exact absurd h hf
 · rename_i hf
   rw [if_neg hf];refine ⟨FP.1 hf,?_⟩
   cases hj:KK m f s x with
   | error c=>rw [hj] at h;exact absurd h (YQ m f s x c hj)
   | ok s'=>rfl
theorem ua {f:Fun}{s:JS}{x:Ins}(h:(KM m f s x).1≠0):(KM m f s x).2=s:=by
 unfold KM at h ⊢;split
 · rfl
 · rename_i hf
   rw [if_neg hf] at h
   cases hj:KK m f s x with
   | error c=>rfl
   | ok s'=>rw [hj] at h;exact AO
end
section
theorem RZ {a b:LX}(h:(KR a b).1=0):a.1=0∧b.1=0:=by
 unfold KR at h;split at h
 · rename_i hc;exact absurd h hc.2
 · rename_i hc;refine ⟨h,?_⟩;exact FW fun hb=>hc ⟨h,hb⟩
theorem ud {n f b:Nat}:∀{l:List Ins}{i:Nat},(ON n f b i l).1=0→∀x∈l,Qx n x=0
 | [],_,_,x,hx=>by cases hx
 | y::l,i,h,x,hx=>by
   rw [ON] at h;obtain ⟨h1,h2⟩:=RZ h;rw [RW] at h1;rcases FA.1 hx with rfl|hx
   · exact h1
   · exact ud h2 x hx
theorem ue {n f:Nat}{x:Fun}:∀{l:List Block}{b0:Nat},(Pq n f x b0 l).1=0→∀(b:Nat) (y:Block),l[b]?=some y→(OC n f x (b0+b) y).1=0
 | [],_,_,b,y,hy=>by cases hy
 | z::l,b0,h,b,y,hy=>by
   rw [Pq] at h;obtain ⟨h1,h2⟩:=RZ h
   cases b with
   | zero=>rw [FQ] at hy;cases hy;exact h1
   | succ b=>rw [Gg] at hy;rw [show b0+(b+1)=b0+1+b by omega];exact ue h2 b y hy
theorem pT {n:Nat}:∀{l:List Fun}{f0:Nat},(PU n f0 l).1=0→∀(f:Nat) (x:Fun),l[f]?=some x→(Rt n (f0+f) x).1=0
 | [],_,_,b,y,hy=>by cases hy
 | z::l,b0,h,b,y,hy=>by
   rw [PU] at h;obtain ⟨h1,h2⟩:=RZ h
   cases b with
   | zero=>rw [FQ] at hy;cases hy;exact h1
   | succ b=>rw [Gg] at hy;rw [show b0+(b+1)=b0+1+b by omega];exact pT h2 b y hy
theorem pU (h:m.fault.1=0):1≤m.funcs.length∧m.funcs.length≤8:=by
 have h1:=(RZ h).1;rw [RW] at h1;split at h1
 · cases h1
 · omega
theorem SB (h:m.fault.1=0){f:Nat}{x:Fun}(hx:m.funcs[f]?=some x):QI f x=0:=by
 have h1:=pT (RZ h).2 f x hx;rw [GF] at h1;have h2:=(RZ h1).1
 rwa [RW] at h2
theorem W6 (h:m.fault.1=0){f b:Nat}{x:Fun}{y:Block}(hx:m.funcs[f]?=some x)(hy:x.blocks[b]?=some y):QB x b y=0∧(∀i∈y.code,Qx m.funcs.length i=0)∧Nl x.blocks.length y.fin=0:=by
 have h1:=pT (RZ h).2 f x hx;have h2:=ue (RZ h1).2 b y hy;obtain ⟨h3,h4⟩:=RZ h2;obtain ⟨h5,h6⟩:=RZ h4;rw [RW] at h3 h6;rw [GF] at h3;exact ⟨h3,ud h5,h6⟩
theorem aC {x:Fun}{b:Nat}{y:Block}(h:QB x b y=0):x.regs≤y.regs∧y.regs≤16∧Qy y.params y.regs=0∧(b=0→y.regs=x.regs∧y.params=x.params)∧y.code.length≤40:=by
 unfold QB at h;split at h
 · cases h
 · rename_i h1
   split at h
   · rename_i h2;exact absurd h h2
   · rename_i h2
     split at h
     · cases h
     · rename_i h3
       split at h
       · cases h
       · refine ⟨Jo,Jo,FP.1 h2,fun hb=>?_,Jo⟩;refine ⟨FW fun hr=>h3 ⟨hb, .inl hr⟩,FW fun hr=>h3 ⟨hb, .inr hr⟩⟩
theorem Vu {f:Nat}{x:Fun}(h:QI f x=0):0≤x.regs∧x.regs≤6∧Qy x.params x.regs=0∧Qy x.results x.regs=0∧1≤x.blocks.length∧x.blocks.length≤12:=by
 unfold QI at h;split at h
 · cases h
 · rename_i h1
   split at h
   · rename_i h2;exact absurd h h2
   · rename_i h2
     split at h
     · rename_i h3;exact absurd h h3
     · rename_i h3
       split at h
       · cases h
       · exact ⟨Jo,Jo,FP.1 h2,FP.1 h3,Jo,Jo⟩
theorem Qct {l:List Ty}{r:Int}(h:Qy l r=0):l.length≤8:=by
 unfold Qy at h;split at h
 · cases h
 · omega
theorem jZ {b:Int}(h:Sw a b=0):a=0∧b=0:=by
 unfold Sw at h;split at h
 · rename_i h1;exact absurd h h1
 · rename_i h1;exact ⟨FP.1 h1,h⟩
theorem uf {r:Int}:∀{l:List Ty},Rs r l=0→∀t∈l,t.fault r=0
 | [],_,t,ht=>by cases ht
 | x::l,h,t,ht=>by
   rw [Rs] at h;obtain ⟨h1,h2⟩:=jZ h;rcases FA.1 ht with rfl|ht
   · exact h1
   · exact uf h2 t ht
theorem j0 {l:List Ty}{r:Int}(h:Qy l r=0):∀t∈l,t.fault r=0:=by
 unfold Qy at h;split at h
 · cases h
 · exact uf h
theorem Ty.ren_short:∀(t:Ty){to:List Int}{u:Ty},t.Short→t.ren to=some u→u.Short:=by
 intro t
 induction t using Hg with
 | h k r l ih =>
   intro to u hs h;obtain ⟨hl,hp⟩:=hs.parts;rw [Ty.ren] at h;split at h
   · cases h
   · split at h
     · cases h
     · rename_i m hm
       cases h
       have key:∀(l:List Ty) (m:List Ty),(∀x∈l,x.Short∧∀{u:Ty},x.Short→x.ren to=some u→u.Short)→Tys.ren l to=some m→m.length=l.length∧∀y∈m,y.Short:=by
        intro l
        induction l with
        | nil=>intro m _ h;rw [Tys.ren] at h;cases h;exact ⟨rfl,by simp⟩
        | cons x l ihl=>
          intro m hx h;rw [Tys.ren] at h
          cases h1:x.ren to with
          | none=>rw [h1] at h;cases h
          | some y=>
            rw [h1] at h
            cases h2:Tys.ren l to with
            | none=>rw [h2] at h;cases h
            | some m2=>
              rw [h2] at h;simp only [Fq] at h;subst h;obtain ⟨h3,h4⟩:=ihl m2 (fun z hz=>hx z (F3 _ hz)) h2;refine ⟨by simp [h3],fun z hz=>?_⟩;rcases FA.1 hz with rfl|hz
              · obtain ⟨h5,h6⟩:=hx x (Gi ..);exact h6 h5 h1
              · exact h4 z hz
       obtain ⟨h3,h4⟩:=key l m (fun x hx=>⟨hp x hx,fun hs h=>ih x hx hs h⟩) hm;exact .mk Jo h4
theorem Ty.Short.part {t:Ty}(h:t.Short):∀u∈t.l,u.Short:=by
 obtain ⟨k,r,l⟩:=t;exact h.parts.2
theorem QfC {t:Ty}{to:List Int}(h:t.Short):(MI to t).Short:=by
 unfold MI
 cases hn:t.ren to with
 | none=>exact .mk Jd Js
 | some u=>exact Ty.ren_short t h hn
structure JGood (s:JS):Prop where
 n:s.l.length≤80
 h:s.h.length≤16
 s:∀t∈s.l,t.Short
theorem JGood.get {s:JS}(hg:JGood s){k:Int}{t:Ty}(h:Lw s k= .ok t):t.Short:=hg.s t (Fa (lZ h).2)
theorem JGood.put {s s':JS}{t:Ty}(hg:JGood s)(ht:t.Short)(h:LH s t= .ok s'):JGood s':=by
 obtain ⟨h1,h2,h3⟩:=l0 h;refine ⟨by rw [h3,Fc];have:=hg.n;simp only [Fk,FF];omega,by rw [h2];exact hg.h,fun u hu=>?_⟩;rw [h3] at hu;rcases FC.1 hu with hu|hu
 · exact hg.s u hu
 · simp at hu;subst hu;exact ht
theorem tI {k r:Int}:(Ty.mk k r []).Short:= .mk Jd Js
theorem pV {s:JS}(hg:JGood s):∀{l:List Int}{ts:List Ty},Kw s l= .ok ts→ts.length=l.length∧∀t∈ts,t.Short
 | [],ts,h=>by rw [Kw] at h;cases h;exact ⟨rfl,by simp⟩
 | k::l,ts,h=>by
   rw [Kw] at h;obtain ⟨t,h1,h⟩:=Qa h;obtain ⟨us,h2,h⟩:=Qa h;cases h;obtain ⟨h3,h4⟩:=pV hg h2;refine ⟨by simp [h3],fun u hu=>?_⟩;rcases FA.1 hu with rfl|hu
   · exact hg.get h1
   · exact h4 u hu
theorem QhI {s:JS}{k:Int}{t:Ty}(h:KB s k kd= .ok t):Lw s k= .ok t:=by have:=pO h;exact YN this.1 this.2.1
theorem ug {s:JS}{k:Int}{t:Ty}(h:Lr s k kd= .ok t):Lw s k= .ok t:=by have:=W4 h;exact YN this.1 this.2.1
theorem pW {t u:Ty}{k:Int}(h:O8 t k= .ok u):t.l[k.toNat]?=some u:=by
 unfold O8 at h;split at h
 · cases h
 · rename_i v hv;cases h;exact hv
theorem uh {f:Fun}{s s':JS}{x:Ins}(hm:m.Short)(hg:JGood s)(hF:Qx m.funcs.length x=0)(h:KK m f s x= .ok s'):JGood s':=by
 have hop:=aq hF;have hst:=QhJ hop h;have hn:s'.l.length≤80:=hst.len hg.n;by_cases h3:x.op=3
 · rw [gg h3] at h
   split at h
   · cases h
   · rename_i hc
     cases h;refine ⟨hn,by have:=hg.h;simp only [Fc,Fk,FF];omega,fun u hu=>?_⟩;rcases FC.1 hu with hu|hu
     · exact hg.s u hu
     · simp at hu;subst hu;exact tI
 by_cases h4:x.op=4
 · rw [dE h4] at h
   obtain ⟨t,h1,h⟩:=Qa h;split at h
   · cases h
   · cases h;exact ⟨hn,by rw [FL];exact hg.h,hg.s⟩
 rcases LA (op:=x.op) Jo Jo with e|e|e|e|e|e|e|e|e|e|e|e|e|e
 · rw [W5 Jo] at h;exact AX
 · rw [ar Jo] at h;obtain ⟨_,_,h⟩:=Qa h;obtain ⟨_,_,h⟩:=Qa h;exact AX
 · exact absurd e h3
 · exact absurd e h4
 · rw [gh Jo] at h
   unfold Vo at h;obtain ⟨t,_,h⟩:=Qa h;obtain ⟨ts,h2,h⟩:=Qa h;split at h
   · cases h
   · obtain ⟨h5,h6⟩:=pV hg h2
     have hal:x.args.length≤8:=by
      unfold Qx Oj at hF;simp [e] at hF;omega
     exact hg.put (.mk Jo h6) h
 · rw [au Jo] at h;obtain ⟨t,h1,h⟩:=Qa h;obtain ⟨u,h2,h⟩:=Qa h;exact hg.put (Ty.Short.part (hg.get (ug h1)) u (Fa (pW h2))) h
 · rw [Vp Jo] at h;obtain ⟨_,_,h⟩:=Qa h;obtain ⟨_,_,h⟩:=Qa h;obtain ⟨_,_,h⟩:=Qa h
   split at h
   · cases h
   · cases h;exact hg
 · rw [ax Jo] at h;obtain ⟨_,_,h⟩:=Qa h;obtain ⟨_,_,h⟩:=Qa h;exact AX
 · rw [ay Jo] at h;obtain ⟨_,_,h⟩:=Qa h;obtain ⟨_,_,h⟩:=Qa h;exact AX
 · rw [aA Jo] at h;obtain ⟨_,_,h⟩:=Qa h;obtain ⟨_,_,h⟩:=Qa h;obtain ⟨_,_,h⟩:=Qa h;cases h;exact hg
 · rw [dF Jo] at h;obtain ⟨_,_,h⟩:=Qa h;exact AX
 · rw [W5 Jo] at h;exact AX
 · rw [gi Jo] at h;obtain ⟨_,_,h⟩:=Qa h;cases h;exact hg
 · rw [dG Jo] at h
   unfold Rc at h;split at h
   · cases h
   · rename_i g hgf
     split at h
     · cases h
     · obtain ⟨_,_,h⟩:=Qa h;obtain ⟨_,_,h⟩:=Qa h
       split at h
       · cases h
       · cases h
         refine ⟨hn,hg.h,fun u hu=>?_⟩;rcases FC.1 hu with hu|hu
         · exact hg.s u hu
         · obtain ⟨t,ht,rfl⟩:=FU.1 hu;exact QfC ((hm.2 g (Fa hgf)).2.1.2 t ht)
theorem QhO {f:Fun}{s:JS}{x:Ins}(hm:m.Short)(hg:JGood s):JGood (KM m f s x).2:=by
 by_cases h:(KM m f s x).1=0
 · obtain ⟨h1,h2⟩:=pS h;exact uh hm hg h1 h2
 · rw [ua h];exact hg
theorem ui (hm:m.Short)(hF:m.fault.1=0){f b:Nat}{x:Fun}{y:Block}(hx:m.funcs[f]?=some x)(hy:x.blocks[b]?=some y):JGood (MJ y):=by
 have h1:=aC (W6 hF hx hy).1;have h2:=Qct h1.2.2.1;refine ⟨by unfold MJ;simp only;omega,by unfold MJ;simp only [F6];omega,?_⟩;exact ((hm.2 x (Fa hx)).2.2.2 y (Fa hy)).1.2
theorem j1 {h:List Bool}:∀{l p:List Int},M0 h p l= .ok ()→∀r∈l,Kz h r=true
 | [],_,_,r,hr=>by cases hr
 | x ::l,p,hd,r,hr=>by
   rw [M0] at hd;split at hd
   · cases hd
   · rename_i h1
     split at hd
     · cases hd
     · rcases FA.1 hr with rfl|hr
       · simpa using h1
       · exact j1 hd r hr
theorem Vv {s:JS}{k:Int}{t:Ty}(h0:0≤k)(h:s.l[k.toNat]?=some t)(hk:t.kind=kd)(hh:Kz s.h t.r=false):Lr s k kd= .error 10:=by
 unfold Lr KB;rw [Q3 (YN h0 h),if_neg (fun h=>h hk),Q3 rfl,if_pos hh]
end
section
def QQ {α:Type}(x:Except Int α):Int:=match x with
 | .error c=>c
 | .ok _=>0
theorem l7 {x:Except Int α}(hn:NZ x)(h:QQ x=0):∃a,x= .ok a:=by
 cases x with
 | error c=>exact absurd h (hn c rfl)
 | ok a=>exact ⟨a,rfl⟩
section
variable {α:Type}{x:Except Int α}{v:Value}
theorem uj {c:Int}{p:α→Prop}(h:x= .error c):∀a,x= .ok a→p a:=fun a ha=>by rw [h] at ha;cases ha
theorem j2 {b:α}{p:α→Prop}(h:x= .ok b)(hp:p b):∀a,x= .ok a→p a:=fun a ha=>by rw [h] at ha;cases ha;exact hp
theorem uk {b:α}{p:α→Prop}(h:∀a,x= .ok a→a=b)(hp:p b):∀a,x= .ok a→p a:=fun a ha=>by rw [h a ha];exact hp
theorem j3 {c:Int}(h:x= .error c):(Value.tuple #[v, .int .i64 c])= .tuple #[v, .int .i64 (QQ x)]:=by rw [h];rfl
theorem YR {b:α}(h:x= .ok b):(Value.tuple #[v, .int .i64 0])= .tuple #[v, .int .i64 (QQ x)]:=by rw [h];rfl
theorem pX {b:α}{c:Int}(h:x= .ok b)(hc:c=0):(Value.tuple #[v, .int .i64 c])= .tuple #[v, .int .i64 (QQ x)]:=by rw [h,hc];rfl
theorem j4 {c:Int}(h:QQ x=c):(Value.tuple #[v, .int .i64 c])= .tuple #[v, .int .i64 (QQ x)]:=by rw [h]
end
def Lf (s:JS)(k kd:Int)(held:Bool):Int:=QQ (if held then Lr s k kd else KB s k kd)
section
variable {s:JS}{k kd:Int}{held:Bool}{t:Ty}
theorem l8 (h:k<0∨(s.l.length:Int)≤k):Lf s k kd held=1:=by
 unfold Lf;cases held
 · simp only [Fs,if_false,KB,Qw (al h)];rfl
 · simp only [if_true,Lr,KB,Qw (al h)];rfl
theorem pY (h0:0≤k)(ht:s.l[k.toNat]?=some t)(hk:t.kind≠kd):Lf s k kd held=9:=by
 have h1:KB s k kd= .error 9:=(by unfold KB;rw [Q3 (YN h0 ht)];exact if_pos hk);unfold Lf;cases held
 · simp only [Fs,if_false,h1];rfl
 · simp only [if_true,Lr,Qw h1];rfl
theorem um (h0:0≤k)(ht:s.l[k.toNat]?=some t)(hk:t.kind=kd)(hh:Kz s.h t.r=false):Lf s k kd true=10:=by
 unfold Lf;simp only [if_true,Vv h0 ht hk hh];rfl
theorem uo (h0:0≤k)(ht:s.l[k.toNat]?=some t)(hk:t.kind=kd):KB s k kd= .ok t:=by
 unfold KB;rw [Q3 (YN h0 ht)];exact if_neg (fun h=>h hk)
theorem YS (h0:0≤k)(ht:s.l[k.toNat]?=some t)(hk:t.kind=kd)(hh:Kz s.h t.r=true):Lr s k kd= .ok t:=by
 unfold Lr;rw [Q3 (uo h0 ht hk)];exact if_neg (by rw [hh];decide)
theorem Vw (h0:0≤k)(ht:s.l[k.toNat]?=some t)(hk:t.kind=kd)(hh:held=true→Kz s.h t.r=true):Lf s k kd held=0:=by
 unfold Lf;cases held
 · simp only [Fs,if_false,uo h0 ht hk];rfl
 · simp only [if_true,YS h0 ht hk (hh rfl)];rfl
theorem YT (h:Lf s k kd true=0):∃t,Lr s k kd= .ok t:=l7 (dL s k kd) (by unfold Lf at h;simpa using h)
theorem Qgh (h:Lf s k kd false=0):∃t,KB s k kd= .ok t:=l7 (Vs s k kd) (by unfold Lf at h;simpa using h)
theorem pZ (h:Lf s k kd true≠0):Lr s k kd= .error (Lf s k kd true):=by
 unfold Lf at h ⊢;simp only [if_true] at h ⊢
 cases hj:Lr s k kd with
 | error c=>rfl
 | ok a=>rw [hj] at h;exact AO
theorem Qd9 (h:Lf s k kd false≠0):KB s k kd= .error (Lf s k kd false):=by
 unfold Lf at h ⊢;simp only [Fs,if_false] at h ⊢
 cases hj:KB s k kd with
 | error c=>rfl
 | ok a=>rw [hj] at h;exact AO
end
def ND:List Int→Int
 | []=>0
 | x::l=>if x≠0 then x else ND l
def j5 (m:Module)(s:JS)(x:Ins):Except Int (List Ty):=match m.funcs[x.k.toNat]? with
 | none=> .error 1
 | some g=>if (x.regs.length:Int)≠g.regs then .error 2 else Kg (M0 s.h [] x.regs) fun _=>Kg (OF s x.args g.params x.regs) fun _=> .ok (g.results.map (MI x.regs))
def KV (m:Module)(f:Fun)(s:JS)(x:Ins):Except Int (List Ty):=
 if x.op=1∨x.op=12 then (.ok [Ks])
 else if x.op=2 then (Kg (KB s x.a 1) fun _=>Kg (KB s x.b 1) fun _=> .ok [Ks])
 else if x.op=3 then (if s.h.length=16 then .error 2 else .ok [.mk 2 s.h.length []])
 else if x.op=4 then (Kg (Lr s x.a 2) fun t=>if t.r<f.regs then .error 11 else .ok [])
 else if x.op=5 then (Kg (Lr s x.a 2) fun t=>Kg (Kw s x.args) fun ts=>if 4<(Ty.mk 3 t.r ts).depth 4 then .error 19 else .ok [.mk 3 t.r ts])
 else if x.op=6 then (Kg (Lr s x.a 3) fun t=>Kg (O8 t x.k) fun u=> .ok [u])
 else if x.op=7 then (Kg (Lr s x.a 3) fun t=>Kg (O8 t x.k) fun u=>Kg (Lw s x.b) fun v=>if u≠v then .error 9 else .ok [])
 else if x.op=8 then (Kg (Lr s x.a 2) fun t=>Kg (KB s x.b 1) fun _=> .ok [.mk 4 t.r []])
 else if x.op=9 then (Kg (Lr s x.a 4) fun _=>Kg (KB s x.b 1) fun _=> .ok [Ks])
 else if x.op=10 then (Kg (Lr s x.a 4) fun _=>Kg (KB s x.b 1) fun _=>Kg (KB s x.c 1) fun _=> .ok [])
 else if x.op=11 then (Kg (Lr s x.a 4) fun _=> .ok [Ks])
 else if x.op=13 then (Kg (KB s x.a 1) fun _=> .ok [])
 else j5 m s x
section
variable {m:Module}{f:Fun}{s:JS}{x:Ins}
theorem Vx (h:x.op=1∨x.op=12):KV m f s x=(.ok [Ks]):=by
 unfold KV;rw [if_pos Jo]
theorem Vy (h:x.op=2):KV m f s x=(Kg (KB s x.a 1) fun _=>Kg (KB s x.b 1) fun _=> .ok [Ks]):=by
 unfold KV;rw [if_neg Jo,if_pos Jo]
theorem R0 (h:x.op=3):KV m f s x=(if s.h.length=16 then .error 2 else .ok [.mk 2 s.h.length []]):=by
 unfold KV;rw [if_neg Jo,if_neg Jo,if_pos Jo]
theorem dN (h:x.op=4):KV m f s x=(Kg (Lr s x.a 2) fun t=>if t.r<f.regs then .error 11 else .ok []):=by
 unfold KV;rw [if_neg Jo,if_neg Jo,if_neg Jo,if_pos Jo]
theorem j6 (h:x.op=5):KV m f s x=(Kg (Lr s x.a 2) fun t=>Kg (Kw s x.args) fun ts=>if 4<(Ty.mk 3 t.r ts).depth 4 then .error 19 else .ok [.mk 3 t.r ts]):=by
 unfold KV;(repeat rw [if_neg Jo]);rw [if_pos Jo]
theorem R1 (h:x.op=6):KV m f s x=(Kg (Lr s x.a 3) fun t=>Kg (O8 t x.k) fun u=> .ok [u]):=by
 unfold KV;(repeat rw [if_neg Jo]);rw [if_pos Jo]
theorem gk (h:x.op=7):KV m f s x=(Kg (Lr s x.a 3) fun t=>Kg (O8 t x.k) fun u=>Kg (Lw s x.b) fun v=>if u≠v then .error 9 else .ok []):=by
 unfold KV;(repeat rw [if_neg Jo]);rw [if_pos Jo]
theorem Vz (h:x.op=8):KV m f s x=(Kg (Lr s x.a 2) fun t=>Kg (KB s x.b 1) fun _=> .ok [.mk 4 t.r []]):=by
 unfold KV;(repeat rw [if_neg Jo]);rw [if_pos Jo]
theorem VA (h:x.op=9):KV m f s x=(Kg (Lr s x.a 4) fun _=>Kg (KB s x.b 1) fun _=> .ok [Ks]):=by
 unfold KV;(repeat rw [if_neg Jo]);rw [if_pos Jo]
theorem qa (h:x.op=10):KV m f s x=(Kg (Lr s x.a 4) fun _=>Kg (KB s x.b 1) fun _=>Kg (KB s x.c 1) fun _=> .ok []):=by
 unfold KV;(repeat rw [if_neg Jo]);rw [if_pos Jo]
theorem qb (h:x.op=11):KV m f s x=(Kg (Lr s x.a 4) fun _=> .ok [Ks]):=by
 unfold KV;(repeat rw [if_neg Jo]);rw [if_pos Jo]
theorem qd (h:x.op=13):KV m f s x=(Kg (KB s x.a 1) fun _=> .ok []):=by
 unfold KV;(repeat rw [if_neg Jo]);rw [if_pos Jo]
theorem VB (h:x.op=14):KV m f s x=(j5 m s x):=by
 unfold KV;(repeat rw [if_neg Jo])
end
section
variable {α β γ δ:Type}{x:Except Int α}{y:Except Int β}{z:Except Int γ}
theorem j7 {c:Int}{l:List Int}(h:c≠0):ND (c::l)=c:=if_pos h
theorem uq (l:List Int):ND (0::l)=ND l:=if_neg (fun h=>h rfl)
theorem ur (hx:NZ x)(h:ND [QQ x,QQ y]≠0)(g:α→β→Except Int δ):Kg x (fun a=>Kg y (g a))= .error (ND [QQ x,QQ y]):=by
 cases x with
 | error c=>rw [show QQ (.error c:Except Int α)=c from rfl,j7 (hx c rfl)];rfl
 | ok a=>
   rw [show QQ (.ok a:Except Int α)=0 from rfl,uq] at h ⊢
   cases y with
   | error c=>
     rw [show QQ (.error c:Except Int β)=c from rfl] at h ⊢;by_cases hc:c=0
     · subst hc;exact AO
     · rw [j7 hc];rfl
   | ok b=>exact AO
theorem uu (hx:NZ x)(hy:NZ y)(h:ND [QQ x,QQ y]=0):∃a b,x= .ok a∧y= .ok b:=by
 cases x with
 | error c=>rw [show QQ (.error c:Except Int α)=c from rfl,j7 (hx c rfl)] at h;exact absurd h (hx c rfl)
 | ok a=>
   rw [show QQ (.ok a:Except Int α)=0 from rfl,uq] at h
   cases y with
   | error c=>rw [show QQ (.error c:Except Int β)=c from rfl,j7 (hy c rfl)] at h;exact absurd h (hy c rfl)
   | ok b=>exact ⟨a,b,rfl,rfl⟩
theorem qe (hx:NZ x)(hy:NZ y)(d:δ):QQ (Kg x fun _=>Kg y fun _=>(.ok d:Except Int δ))=ND [QQ x,QQ y]:=by
 by_cases h:ND [QQ x,QQ y]=0
 · obtain ⟨a,b,h1,h2⟩:=uu hx hy h;rw [h,Q3 h1,Q3 h2];rfl
 · rw [ur hx h];rfl
theorem VC (hx:NZ x)(hy:NZ y)(hz:NZ z)(d:δ):QQ (Kg x fun _=>Kg y fun _=>Kg z fun _=>(.ok d:Except Int δ))=ND [QQ x,QQ y,QQ z]:=by
 cases x with
 | error c=>rw [show QQ (.error c:Except Int α)=c from rfl,j7 (hx c rfl)];rfl
 | ok a=>
   have:ND [QQ (.ok a:Except Int α),QQ y,QQ z]=ND [QQ y,QQ z]:=rfl;rw [this,←qe hy hz d];rfl
theorem YU {x:Except Int α}{f:α→Except Int β}{b:β}(h:Kg x f= .ok b){p:Prop}(hp:∀a,f a= .ok b→p):p:=by
 obtain ⟨a,_,h2⟩:=Qa h;exact hp a h2
end
section
variable {s:JS}{k kd:Int}
theorem gl:Lf s k kd true=QQ (Lr s k kd):=rfl
theorem YV:Lf s k kd false=QQ (KB s k kd):=rfl
end
section
variable {s:JS}{k kd:Int}{m:Module}{f:Fun}{x:Ins}
theorem qf (h:Lf s k kd true=0):∃t,0≤k∧k<s.l.length∧s.l[k.toNat]?=some t∧t.kind=kd∧Kz s.h t.r=true∧Lr s k kd= .ok t:=by
 obtain ⟨t,ht⟩:=YT h;obtain ⟨h1,h2,h3,h4⟩:=W4 ht;have:=(E8.1 h2).1;exact ⟨t,h1,Jo,h2,h3,h4,ht⟩
theorem l9 {y:Except Int α}(h:QQ y≠0):y= .error (QQ y):=by
 cases y with
 | error c=>rfl
 | ok a=>exact AO
theorem qg {y:Except Int Unit}(hn:NZ y)(h:QQ y=0):y= .ok ():=by
 obtain ⟨_,h⟩:=l7 hn h;exact h
theorem YW {c:Int}(h:x.op=6∨x.op=7)(hj:Lr s x.a 3= .error c):KV m f s x= .error c:=by
 rcases h with h|h
 · rw [R1 h,Qw hj]
 · rw [gk h,Qw hj]
theorem YX {t:Ty}(h:x.op=6∨x.op=7)(hj:Lr s x.a 3= .ok t)(hf:t.l[x.k.toNat]?=none):KV m f s x= .error 9:=by
 have h1:O8 t x.k= .error 9:=(by unfold O8;rw [hf]);rcases h with h|h
 · rw [R1 h,Q3 hj,Qw h1]
 · rw [gk h,Q3 hj,Qw h1]
theorem QfM {t u:Ty}{k:Int}(h:t.l[k.toNat]?=some u):O8 t k= .ok u:=by unfold O8;rw [h]
theorem YY {g:Fun}(h:x.op=14)(hg:m.funcs[x.k.toNat]?=some g):KV m f s x=(if (x.regs.length:Int)≠g.regs then .error 2 else Kg (M0 s.h [] x.regs) fun _=>Kg (OF s x.args g.params x.regs) fun _=> .ok (g.results.map (MI x.regs))):=by
 rw [VB h];unfold j5;rw [hg]
end
theorem uv {n:Nat}{x:Ins}(hF:Qx n x=0)(e:x.op=5):x.args.length≤8:=by
 unfold Qx Oj at hF;simp [e] at hF;omega
end
section
theorem Tys.wrong_all {n:Int}:∀{l:List Ty},Tys.wrong fields l n=0↔∀t∈l,t.wrong fields n=0
 | []=>by simp [Tys.wrong]
 | x ::l=>by
   rw [Tys.wrong];constructor
   · intro h
     split at h
     · rename_i h1;exact absurd h h1
     · rename_i h1
       intro t ht;rcases FA.1 ht with rfl|ht
       · exact FP.1 h1
       · exact Tys.wrong_all.1 h t ht
   · intro h;rw [if_neg (fun hn=>hn (h x (Gi ..)))];exact Tys.wrong_all.2 fun t ht=>h t (F3 _ ht)
abbrev H6:=@Tys.wrong_all
theorem Ty.wrong_iff {k r n:Int}{l:List Ty}:(Ty.mk k r l).wrong fields n=0↔(1≤k∧k≤4)∧(k=1→r=0)∧(k≠3→l.length=0)∧l.length≤fields∧(k≠1→0≤r∧r<n)∧∀t∈l,t.wrong fields n=0:=by
 rw [Ty.wrong];constructor
 · intro h
   split at h
   · cases h
   · rename_i h1
     split at h
     · cases h
     · rename_i h2
       split at h
       · cases h
       · rename_i h3
         split at h
         · cases h
         · exact ⟨Jo,Jo,Jo,Jo,Jo,H6.1 h⟩
 · rintro ⟨h1,h2,h3,h4,h5,h6⟩;(repeat rw [if_neg Jo]);exact H6.2 h6
abbrev GG:=@Ty.wrong_iff
theorem Ty.wrong_up {n n':Int}(hn:n≤n'):∀t:Ty,t.wrong fields n=0→t.wrong fields n'=0:=by
 intro t
 induction t using Hg with
 | h k r l ih=>
   intro h;obtain ⟨h1,h2,h3,h4,h5,h6⟩:=GG.1 h;exact GG.2 ⟨h1,h2,h3,h4,fun hk=>by have:=h5 hk;omega,fun t ht=>ih t ht (h6 t ht)⟩
mutual
theorem Ty.ren_right {fields:Nat}{f:List Int}{n:Int}(hf:∀i:Nat,i<f.length→0≤f.getD i 0∧f.getD i 0<n):∀(t:Ty),t.wrong fields f.length=0→∃u,t.ren f=some u∧u.wrong fields n=0
 | .mk k r l,ht=>by
   obtain ⟨h1,h2,h3,h4,h5,h6⟩:=GG.1 ht;obtain ⟨m,hm,hml,hmw⟩:=Tys.ren_right hf l h6;have hr:k≠1→0≤f.getD r.toNat 0∧f.getD r.toNat 0<n:=fun hk=>hf r.toNat Eo;refine ⟨.mk k (if k≠1 then f.getD r.toNat 0 else r) m,?_,?_⟩
   · rw [Ty.ren,if_neg (by rintro ⟨hk,hb⟩;have:=h5 hk;have:=hr hk;omega),hm]
   · refine GG.2 ⟨h1,fun hk=>by rw [if_neg Jo];exact h2 hk,fun hk=>by rw [hml];exact h3 hk,Jo,fun hk=>by rw [if_pos hk];exact hr hk,hmw⟩
theorem Tys.ren_right {fields:Nat}{f:List Int}{n:Int}(hf:∀i:Nat,i<f.length→0≤f.getD i 0∧f.getD i 0<n):∀(l:List Ty),(∀t∈l,t.wrong fields f.length=0)→∃m,Tys.ren l f=some m∧m.length=l.length∧∀u∈m,u.wrong fields n=0
 | [],_=>⟨[],by rw [Tys.ren],rfl,by simp⟩
 | x::l,h=>by
   obtain ⟨y,h1,h2⟩:=Ty.ren_right hf x (h x (Gi ..));obtain ⟨m,h3,h4,h5⟩:=Tys.ren_right hf l (fun t ht=>h t (F3 _ ht));refine ⟨y::m,by rw [Tys.ren,h1,h3],by simp [h4],fun u hu=>?_⟩;rcases FA.1 hu with rfl|hu
   · exact h2
   · exact h5 u hu
end
structure JInv (m:Module) (f:Fun) (z:JS):Prop extends JGood z where
 wf:∀t∈z.l,t.wrong 8 z.h.length=0
 keep:∀r:Int,0≤r→r<f.regs→Kz z.h r=true
theorem SC {h:List Bool}{r:Int}(hr:Kz h r=true):0≤r∧r<h.length:=by have:=dC hr;omega
theorem Ty.fault_wrong {t:Ty}{n:Int}(h:t.fault n=0):t.wrong 8 n=0:=by
 unfold Ty.fault at h;split at h
 · cases h
 · exact h
abbrev Hv:=@Ty.fault_wrong
theorem uw {s:JS}{n:Int}(hw:∀t∈s.l,t.wrong 8 n=0):∀{l:List Int}{ts:List Ty},Kw s l= .ok ts→∀t∈ts,t.wrong 8 n=0
 | [],ts,h=>by rw [Kw] at h;cases h;simp
 | k::l,ts,h=>by
   rw [Kw] at h;obtain ⟨t,h1,h⟩:=Qa h;obtain ⟨us,h2,h⟩:=Qa h;cases h;intro u hu;rcases FA.1 hu with rfl|hu
   · exact hw _ (Fa (lZ h1).2)
   · exact uw hw h2 u hu
theorem JInv.at {f:Fun}{s:JS}(hg:JInv m f s){k:Int}{t:Ty}(h:Lr s k kd= .ok t):t.wrong 8 s.h.length=0∧0≤t.r∧t.r<s.h.length∧t∈s.l:=by
 have h1:=W4 h;have h2:=SC h1.2.2.2;exact ⟨hg.wf _ (Fa h1.2.1),h2.1,h2.2,Fa h1.2.1⟩
theorem uy {f:Fun}{s:JS}{x:Ins}{t:Ty}{ts:List Ty}(hF:Qx m.funcs.length x=0)(e:x.op=5)(hg:JInv m f s)(h1:Lr s x.a 2= .ok t)(h2:Kw s x.args= .ok ts):
 (Ty.mk 3 t.r ts).wrong 8 s.h.length=0∧((Ty.mk 3 t.r ts).fault s.h.length≠0↔4<(Ty.mk 3 t.r ts).depth 4):=by
 have h3:=hg.at h1;have h4:=(pV hg.toJGood h2).1;have h5:=uv hF e;have hw:(Ty.mk 3 t.r ts).wrong 8 s.h.length=0:=GG.2 ⟨Jo,Jo,Jo,Jo,fun _=>by omega,uw hg.wf h2⟩;refine ⟨hw,?_⟩;have hd:=Ty.depth_iff (Ty.mk 3 t.r ts) (most:=4) Jo;unfold Ty.fault;rw [hw];constructor
 · intro h
   split at h
   · rename_i hb;exact FW fun hn=>by rw [hd.1 Jo] at hb;cases hb
   · exact absurd rfl h
 · intro h
   rw [if_pos]
   · decide
   · cases hb:(Ty.mk 3 t.r ts).deepB 4 with
     | false=>rfl
     | true=>have:=hd.2 hb;omega
def Nn (s:JS)(x:Ins)(ts:List Ty):Except Int JS:=if 80<s.l.length+ts.length then .error 2 else
 .ok ⟨if x.op=3 then s.h++[true] else if x.op=4 then (match s.l[x.a.toNat]? with|some t=>s.h.set t.r.toNat false|none=>s.h) else s.h,s.l++ts⟩
theorem aD {s:JS}{x:Ins}{t:Ty}(hn:s.l.length≤80)(h3:x.op≠3)(h4:x.op≠4):Nn s x [t]=LH s t:=by
 unfold Nn LH;rw [if_neg h3,if_neg h4];by_cases h:s.l.length=80
 · rw [if_pos h,if_pos Di]
 · rw [if_neg h,if_neg Di]
theorem qh {s:JS}{x:Ins}(hn:s.l.length≤80)(h3:x.op≠3)(h4:x.op≠4):Nn s x []= .ok s:=by
 unfold Nn;rw [if_neg h3,if_neg h4,if_neg Di,Gk]
theorem QN {γ:Type}(x:Except Int α)(f:α→Except Int β)(g:β→Except Int γ):Kg (Kg x f) g=Kg x fun a=>Kg (f a) g:=by cases x<;>rfl
theorem QM {x:Except Int α}{f g:α→Except Int β}(h:∀a,x= .ok a→f a=g a):Kg x f=Kg x g:=by
 cases x with
 | error e=>rfl
 | ok a=>exact h a rfl
theorem VD {f:Fun}{s:JS}{x:Ins}(hF:Qx m.funcs.length x=0)(hg:JInv m f s):KK m f s x=Kg (KV m f s x) (Nn s x):=by
 have hop:=aq hF;have hn:=hg.n;rcases LA (op:=x.op) Jo Jo with e|e|e|e|e|e|e|e|e|e|e|e|e|e
 · rw [W5 Jo,Vx Jo,Q3 rfl,aD hn Jo Jo]
 · rw [ar e,Vy e,QN];refine QM fun _ _=>?_;rw [QN];refine QM fun _ _=>?_;rw [Q3 rfl,aD hn Jo Jo]
 · rw [gg e,R0 e]
   by_cases h:s.h.length=16
   · rw [if_pos (.inl h),if_pos h,Qw rfl]
   · rw [if_neg h,Q3 rfl]
     unfold Nn;rw [if_pos e];by_cases h8:s.l.length=80
     · rw [if_pos (.inr h8),if_pos Di]
     · rw [if_neg Jo,if_neg Di]
 · rw [dE e,dN e,QN]
   refine QM fun t ht=>?_;by_cases h:t.r<f.regs
   · rw [if_pos h,if_pos h,Qw rfl]
   · rw [if_neg h,if_neg h,Q3 rfl];unfold Nn;rw [if_neg (show¬x.op=3 by omega),if_pos e,if_neg Di,(W4 ht).2.1,Gk]
 · rw [gh e,j6 e,QN];unfold Vo
   refine QM fun t ht=>?_;rw [QN];refine QM fun ts hts=>?_;have:=(uy hF e hg ht hts).2;by_cases h:4<(Ty.mk 3 t.r ts).depth 4
   · rw [if_pos (this.2 h),if_pos h,Qw rfl]
   · rw [if_neg (fun hh=>h (this.1 hh)),if_neg h,Q3 rfl,aD hn Jo Jo]
 · rw [au e,R1 e,QN];refine QM fun _ _=>?_;rw [QN];refine QM fun _ _=>?_;rw [Q3 rfl,aD hn Jo Jo]
 · rw [Vp e,gk e,QN];refine QM fun _ _=>?_;rw [QN];refine QM fun u _=>?_;rw [QN];refine QM fun v _=>?_
   by_cases h:u≠v
   · rw [if_pos h,if_pos h,Qw rfl]
   · rw [if_neg h,if_neg h,Q3 rfl,qh hn Jo Jo]
 · rw [ax e,Vz e,QN];refine QM fun _ _=>?_;rw [QN];refine QM fun _ _=>?_;rw [Q3 rfl,aD hn Jo Jo]
 · rw [ay e,VA e,QN];refine QM fun _ _=>?_;rw [QN];refine QM fun _ _=>?_;rw [Q3 rfl,aD hn Jo Jo]
 · rw [aA e,qa e,QN];refine QM fun _ _=>?_;rw [QN];refine QM fun _ _=>?_;rw [QN];refine QM fun _ _=>?_;rw [Q3 rfl,qh hn Jo Jo]
 · rw [dF e,qb e,QN];refine QM fun _ _=>?_;rw [Q3 rfl,aD hn Jo Jo]
 · rw [W5 Jo,Vx Jo,Q3 rfl,aD hn Jo Jo]
 · rw [gi e,qd e,QN];refine QM fun _ _=>?_;rw [Q3 rfl,qh hn Jo Jo]
 · rw [dG e,VB e];unfold Rc j5
   cases hgf:m.funcs[x.k.toNat]? with
   | none=>rfl
   | some g=>
     dsimp only;by_cases hr:(x.regs.length:Int)≠g.regs
     · rw [if_pos hr,if_pos hr];rfl
     · rw [if_neg hr,if_neg hr,QN];refine QM fun _ _=>?_;rw [QN];refine QM fun _ _=>?_;rw [Q3 rfl];unfold Nn;rw [if_neg (show¬x.op=3 by omega),if_neg (show¬x.op=4 by omega),Fb]
theorem lW {s s':JS}{t:Ty}{f:Fun}(hw:∀t∈s.l,t.wrong 8 s.h.length=0)(hk:∀r:Int,0≤r→r<f.regs→Kz s.h r=true)(ht:t.wrong 8 s.h.length=0)(h:LH s t= .ok s'):
 (∀t∈s'.l,t.wrong 8 s'.h.length=0)∧(∀r:Int,0≤r→r<f.regs→Kz s'.h r=true):=by
 obtain ⟨h1,h2,h3⟩:=l0 h;refine ⟨fun u hu=>?_,fun r=>by rw [h2];exact hk r⟩;rw [h3] at hu;rw [h2];rcases FC.1 hu with hu|hu
 · exact hw u hu
 · simp at hu;subst hu;exact ht
theorem Qcm (n:Int):Ks.wrong 8 n=0:=by unfold Ks;exact GG.2 ⟨Jo,Jo,by simp,by simp,Jo,by simp⟩
theorem uz {h:List Bool}{r:Int}(hr:Kz h r=true):Kz (h++[true]) r=true:=by
 obtain ⟨h1,h2,h3⟩:=dC hr;unfold Kz;rw [E9] at h3 ⊢;rw [Fg Jo,h3,Fc];simp;omega
theorem Qe2 {h:List Bool}{r k:Int}(hr:Kz h r=true)(hk:0≤k)(hne:k≠r):Kz (h.set k.toNat false) r=true:=by
 obtain ⟨h1,h2,h3⟩:=dC hr;unfold Kz;rw [E9] at h3 ⊢;rw [G3 Jo,h3,FL];simp;omega
theorem j8 {f:Fun}{s s':JS}{x:Ins}(hM:m.fault.1=0)(hm:m.Short)(hg:JInv m f s)(hF:Qx m.funcs.length x=0)(h:KK m f s x= .ok s'):JInv m f s':=by
 have hG:=uh hm hg.toJGood hF h
 suffices hh:(∀t∈s'.l,t.wrong 8 s'.h.length=0)∧(∀r:Int,0≤r→r<f.regs→Kz s'.h r=true) from ⟨hG,hh.1,hh.2⟩
 have hop:=aq hF;have hw:=hg.wf;have hk:=hg.keep;rcases LA (op:=x.op) Jo Jo with e|e|e|e|e|e|e|e|e|e|e|e|e|e
 · rw [W5 Jo] at h;exact A1
 · rw [ar e] at h;obtain ⟨_,_,h⟩:=Qa h;obtain ⟨_,_,h⟩:=Qa h;exact A1
 · rw [gg e] at h
   split at h
   · cases h
   · cases h
     refine ⟨fun u hu=>?_,fun r h0 h1=>uz (hk r h0 h1)⟩;rw [Fc];rcases FC.1 hu with hu|hu
     · exact Ty.wrong_up Di u (hw u hu)
     · simp at hu;subst hu;exact GG.2 ⟨Jo,Jo,by simp,by simp,fun _=>by simp;omega,by simp⟩
 · rw [dE e] at h
   obtain ⟨t,h1,h⟩:=Qa h;split at h
   · cases h
   · rename_i hlt;cases h;have:=hg.at h1;refine ⟨fun u hu=>by rw [FL];exact hw u hu,fun r h0 h1=>Qe2 (hk r h0 h1) Jo Jo⟩
 · rw [gh e] at h;unfold Vo at h
   obtain ⟨t,h1,h⟩:=Qa h;obtain ⟨ts,h2,h⟩:=Qa h;split at h
   · cases h
   · exact lW hw hk (uy hF e hg h1 h2).1 h
 · rw [au e] at h;obtain ⟨t,h1,h9⟩:=Qa h;obtain ⟨u,h2,h8⟩:=Qa h9;have h3:=(hg.at h1).1;clear h h9;obtain ⟨k,r,l⟩:=t;exact lW hw hk ((GG.1 h3).2.2.2.2.2 u (Fa (pW h2))) h8
 · rw [Vp e] at h;obtain ⟨_,_,h⟩:=Qa h;obtain ⟨_,_,h⟩:=Qa h;obtain ⟨_,_,h⟩:=Qa h
   split at h
   · cases h
   · cases h;exact ⟨hw,hk⟩
 · rw [ax e] at h;obtain ⟨t,h1,h⟩:=Qa h;obtain ⟨_,_,h⟩:=Qa h;have:=hg.at h1;exact lW hw hk (GG.2 ⟨Jo,Jo,by simp,by simp,fun _=>by omega,by simp⟩) h
 · rw [ay e] at h;obtain ⟨_,_,h⟩:=Qa h;obtain ⟨_,_,h⟩:=Qa h;exact A1
 · rw [aA e] at h;obtain ⟨_,_,h⟩:=Qa h;obtain ⟨_,_,h⟩:=Qa h;obtain ⟨_,_,h⟩:=Qa h;cases h;exact ⟨hw,hk⟩
 · rw [dF e] at h;obtain ⟨_,_,h⟩:=Qa h;exact A1
 · rw [W5 Jo] at h;exact A1
 · rw [gi e] at h;obtain ⟨_,_,h⟩:=Qa h;cases h;exact ⟨hw,hk⟩
 · rw [dG e] at h
   unfold Rc at h;split at h
   · cases h
   · rename_i g hgf
     split at h
     · cases h
     · rename_i hrl
       obtain ⟨_,h1,h⟩:=Qa h;obtain ⟨_,_,h⟩:=Qa h;split at h
       · cases h
       · cases h
         refine ⟨fun u hu=>?_,hk⟩;rcases FC.1 hu with hu|hu
         · exact hw u hu
         · obtain ⟨t,ht,rfl⟩:=FU.1 hu
           have h2:=Hv (j0 (Vu (SB hM hgf)).2.2.2.1 t ht);have hall:=j1 h1;rw [show g.regs=(x.regs.length:Int) by omega] at h2
           obtain ⟨v,h3,h4⟩:=Ty.ren_right (n:=s.h.length) (f:=x.regs) (fun i hi=>by
            rw [E9,E7 hi];exact SC (hall _ (Hi hi))) t h2
           unfold MI;rw [h3];exact h4
theorem VE {f:Fun}{s:JS}{x:Ins}(hM:m.fault.1=0)(hm:m.Short)(hg:JInv m f s):JInv m f (KM m f s x).2:=by
 by_cases h:(KM m f s x).1=0
 · obtain ⟨h1,h2⟩:=pS h;exact j8 hM hm hg h1 h2
 · rw [ua h];exact hg
theorem ma (hm:m.Short)(hF:m.fault.1=0){f b:Nat}{x:Fun}{y:Block}(hx:m.funcs[f]?=some x)(hy:x.blocks[b]?=some y):JInv m x (MJ y):=by
 have h1:=aC (W6 hF hx hy).1;have h2:=Vu (SB hF hx);have hl:(MJ y).h.length=y.regs.toNat:=(by unfold MJ;simp only [F6];omega);refine ⟨ui hm hF hx hy,fun t ht=>?_,fun r h0 hr=>?_⟩
 · rw [hl,FO Jo];exact Hv (j0 h1.2.2.1 t ht)
 · unfold Kz;rw [hl];unfold MJ;simp only;rw [E9,G6,if_pos Jo];simp;omega
theorem uA {h:List Bool}:∀{n:Nat},(∀i:Nat,i<n→h.getD i false=true)→M6 h n=K6 n
 | 0,_=>by unfold M6 K6;rfl
 | n+1,hk=>by
   rw [lY,if_pos (hk n Jo),uA (fun i hi=>hk i Jo)];unfold K6;rw [HH,FG];rfl
theorem uB {h:List Bool}{n:Nat}:∀k:Nat,∃mo,M6 h (n+k)=M6 h n++mo∧∀r∈mo,(n:Int)≤r
 | 0=>⟨[],by simp,by simp⟩
 | k + 1=>by
   obtain ⟨mo,h1,h2⟩:=uB (h:=h) (n:=n) k;refine ⟨mo++(if h.getD (n+k) false=true then [((n+k:Nat):Int)] else []),?_,fun r hr=>?_⟩
   · rw [show n+(k+1)=n+k+1 by omega,lY,h1,GJ]
   · rcases FC.1 hr with hr|hr
     · exact h2 r hr
     · split at hr
       · simp at hr;omega
       · cases hr
theorem qi {f:Fun}{s:JS}(hg:JInv m f s)(hf:0≤f.regs):(f.regs<(LY s.h).length↔∃r∈LY s.h,f.regs≤r):=by
 have hle:f.regs≤s.h.length:=by
  by_cases h:f.regs=0
  · omega
  · have:=SC (hg.keep (f.regs - 1) Jo Jo);omega
 have h1:M6 s.h f.regs.toNat=K6 f.regs.toNat:=uA fun i hi=>(dC (hg.keep i Jo Jo)).2.2;obtain ⟨mo,h2,h3⟩:=uB (h:=s.h) (n:=f.regs.toNat) (s.h.length - f.regs.toNat);rw [show f.regs.toNat+(s.h.length - f.regs.toNat)=s.h.length by omega,h1] at h2;have hul:(K6 f.regs.toNat).length=f.regs.toNat:=(by unfold K6;simp);unfold LY;rw [h2,Fc,hul];constructor
 · intro h
   cases mo with
   | nil=>simp at h;omega
   | cons r mo=>exact ⟨r,by simp,by have:=h3 r Js;omega⟩
 · rintro ⟨r,hr,h⟩
   rcases FC.1 hr with hr|hr
   · unfold K6 at hr;obtain ⟨i,hi,rfl⟩:=FU.1 hr;have:=FX.1 hi;simp only [Int.ofNat_eq_natCast] at h;omega
   · have:0<mo.length:=Hu hr;omega
theorem dO (m:Module)(f:Fun)(s:JS)(x:Ins):NZ (KV m f s x):=by
 unfold KV j5
 repeat' (first|exact .o _|exact .e Jd|refine .bind (Vs _ _ _) fun _ _=>?_|refine .bind (dL _ _ _) fun _ _=>?_|refine .bind (tZ _ _) fun _ _=>?_|refine .bind (jY _ _) fun _ _=>?_|refine .bind (pR _ _) fun _ _=>?_|refine .bind (pQ _ _ _) fun _ _=>?_|refine .bind (dM _ _ _ _) fun _ _=>?_|refine .ite ?_ ?_|split)
section
variable {m:Module}{f:Fun}{s:JS}{x:Ins}{ts:List Ty}
theorem dP (h:Qx m.funcs.length x≠0):KM m f s x=(Qx m.funcs.length x,s):=by unfold KM;rw [if_pos h]
theorem j9 (hF:Qx m.funcs.length x=0)(hg:JInv m f s):KM m f s x=match Kg (KV m f s x) (Nn s x) with
 | .error c=>(c,s)
 | .ok s'=>(0,s'):=by
 unfold KM;rw [if_neg (fun h=>h hF),VD hF hg];all_goals (cases Kg (KV m f s x) (Nn s x)<;>rfl)
theorem dQ (hF:Qx m.funcs.length x=0)(hg:JInv m f s)(h:QQ (KV m f s x)≠0):KM m f s x=(QQ (KV m f s x),s):=by
 rw [j9 hF hg,Qw (l9 h)]
theorem dR (hF:Qx m.funcs.length x=0)(hg:JInv m f s)(h:KV m f s x= .ok ts)(hl:80<s.l.length+ts.length):KM m f s x=(2,s):=by
 rw [j9 hF hg,Q3 h];unfold Nn;rw [if_pos hl]
theorem YZ (hF:Qx m.funcs.length x=0)(hg:JInv m f s)(h:KV m f s x= .ok ts)(hl:¬80<s.l.length+ts.length)(h3:x.op=3):KM m f s x=(0,⟨s.h++[true],s.l++ts⟩):=by
 rw [j9 hF hg,Q3 h];unfold Nn;rw [if_neg hl,if_pos h3]
theorem Y0 (hF:Qx m.funcs.length x=0)(hg:JInv m f s)(h:KV m f s x= .ok ts)(hl:¬80<s.l.length+ts.length)(h4:x.op=4){t:Ty}(ht:s.l[x.a.toNat]?=some t):KM m f s x=(0,⟨s.h.set t.r.toNat false,s.l++ts⟩):=by
 rw [j9 hF hg,Q3 h];unfold Nn;rw [if_neg hl,if_neg (show¬x.op=3 by omega),if_pos h4,ht]
theorem dS (hF:Qx m.funcs.length x=0)(hg:JInv m f s)(h:KV m f s x= .ok ts)(hl:¬80<s.l.length+ts.length)(h3:x.op≠3)(h4:x.op≠4):KM m f s x=(0,⟨s.h,s.l++ts⟩):=by
 rw [j9 hF hg,Q3 h];unfold Nn;rw [if_neg hl,if_neg h3,if_neg h4]
theorem Y1 (h:KV m f s x= .ok ts)(h3:x.op=3):s.h.length≠16:=by
 rw [R0 h3] at h;split at h
 · cases h
 · assumption
theorem Y2 (h:KV m f s x= .ok ts)(h4:x.op=4):∃t,0≤x.a∧x.a<s.l.length∧s.l[x.a.toNat]?=some t∧0≤t.r∧t.r<s.h.length:=by
 rw [dN h4] at h;obtain ⟨t,h1,_⟩:=Qa h;obtain ⟨h2,h3,h5,h6⟩:=W4 h1;have:=(E8.1 h3).1;have:=SC h6;exact ⟨t,h2,Jo,h3,this.1,this.2⟩
end
theorem dT {f:Fun}{s:JS}{e:Tail}(h:Nl f.blocks.length e≠0):Mb f s e=Nl f.blocks.length e:=by unfold Mb;rw [if_pos h]
theorem dU {f:Fun}{s:JS}{e:Tail}(h:Nl f.blocks.length e=0):Mb f s e=QQ (Mj f s e):=by
 unfold Mb QQ;rw [if_neg (fun hn=>hn h)];cases Mj f s e<;>rfl
theorem VF {f:Nat}{x:Fun}(hF:m.fault.1=0)(hx:m.funcs[f]?=some x):∀b∈x.blocks,x.regs≤b.regs:=by
 intro b hb;obtain ⟨k,hk⟩:=Gf.1 hb;exact (aC (W6 hF hx hk).1).1
def Nf (m:Module)(f:Fun)(fi bi:Nat)(e:Tail):Nat→JS→List Ins→LX
 | _,s,[]=>K2 (Mb f s e) (PT fi bi)
 | i,s,x::l=>if (KM m f s x).1≠0 then ((KM m f s x).1,O2 fi bi i) else Nf m f fi bi e (i+1) (KM m f s x).2 l
def QJ (m:Module)(f:Fun)(fi:Nat):Nat→List Block→LX
 | _,[]=>(0,0)
 | b,y::l=>KR (Nf m f fi b y.fin 0 (MJ y) y.code) (QJ m f fi (b+1) l)
def OG (m:Module):Nat→List Fun→LX
 | _,[]=>(0,0)
 | f,x::l=>KR (QJ m x f 0 x.blocks) (OG m (f+1) l)
def Module.runs (m:Module):LX:=KR m.fault (OG m 0 m.funcs)
theorem qj {m:Module}{f:Fun}{fi bi:Nat}{e:Tail}:∀{l:List Ins}{i:Nat}{s:JS},(Nf m f fi bi e i s l).1=0→Nf m f fi bi e i s l=(0,0)
 | [],_,_,h=>by rw [Nf] at h ⊢;exact Sv _ _ h
 | x::l,i,s,h=>by
   rw [Nf] at h ⊢;split at h
   · rename_i hn;exact absurd h hn
   · rename_i hn;rw [if_neg hn];exact qj h
theorem mb {m:Module}{f:Fun}{fi:Nat}:∀{l:List Block}{b:Nat},(QJ m f fi b l).1=0→QJ m f fi b l=(0,0)
 | [],_,_=>by rw [QJ]
 | x::l,b,h=>by rw [QJ] at h ⊢;exact WY qj mb h
theorem qk {m:Module}:∀{l:List Fun}{f:Nat},(OG m f l).1=0→OG m f l=(0,0)
 | [],_,_=>by rw [OG]
 | x::l,b,h=>by rw [OG] at h ⊢;exact WY mb qk h
section
variable {m:Module}{f:Fun}{fi bi i b:Nat}{e:Tail}{s:JS}{x:Ins}{l:List Ins}{y:Block}{k:List Block}
theorem ql (h:(KM m f s x).1=0):Nf m f fi bi e i s (x::l)=Nf m f fi bi e (i+1) (KM m f s x).2 l:=by rw [Nf,if_neg (fun hn=>hn h)]
theorem qm (h:(KM m f s x).1≠0):Nf m f fi bi e i s (x::l)=((KM m f s x).1,O2 fi bi i):=by rw [Nf,if_pos h]
theorem Qaf (h:(Nf m f fi b y.fin 0 (MJ y) y.code).1=0):QJ m f fi b (y::k)=QJ m f fi (b+1) k:=by
 rw [QJ,qj h];exact Mg mb
theorem Qae (h:(Nf m f fi b y.fin 0 (MJ y) y.code).1≠0):QJ m f fi b (y::k)=Nf m f fi b y.fin 0 (MJ y) y.code:=by
 rw [QJ,OB h]
theorem QcP {k:List Fun}(h:(QJ m f fi 0 f.blocks).1=0):OG m fi (f::k)=OG m (fi+1) k:=by
 rw [OG,mb h];exact Mg qk
theorem QcO {k:List Fun}(h:(QJ m f fi 0 f.blocks).1≠0):OG m fi (f::k)=QJ m f fi 0 f.blocks:=by
 rw [OG,OB h]
theorem qn (h:l.length≤i):Nf m f fi bi e i s (l.drop i)=K2 (Mb f s e) (PT fi bi):=by rw [Fh h,Nf]
theorem qo {E:LX}(hd:m.runs=OG m q (m.funcs.drop q))(hf:m.funcs[q]?=some f)(hdb:QJ m f q 0 f.blocks=QJ m f q b (f.blocks.drop b))(hy:f.blocks[b]?=some y)(h0:Nf m f q b y.fin 0 (MJ y) y.code=E)(hE:E.1≠0):m.runs=E:=by
 have h1:QJ m f q 0 f.blocks=E:=(by rw [hdb,Q1 hy,Qae (by rw [h0];exact hE),h0]);rw [hd,Q1 hf,QcO (by rw [h1];exact hE),h1]
theorem VG (hdb:QJ m f q 0 f.blocks=QJ m f q b (f.blocks.drop b))(hy:f.blocks[b]?=some y)(h0:(Nf m f q b y.fin 0 (MJ y) y.code).1=0):QJ m f q 0 f.blocks=QJ m f q (b+1) (f.blocks.drop (b+1)):=by
 rw [hdb,Q1 hy,Qaf h0]
theorem VH (hd:m.runs=OG m q (m.funcs.drop q))(hf:m.funcs[q]?=some f)(hdb:QJ m f q 0 f.blocks=QJ m f q b (f.blocks.drop b))(hb:f.blocks.length≤b):m.runs=OG m (q+1) (m.funcs.drop (q+1)):=by
 rw [hd,Q1 hf,QcP (by rw [hdb,Fh hb,QJ])]
theorem VI (hd:m.runs=OG m q (m.funcs.drop q))(hq:m.funcs.length≤q):m.runs=(0,0):=by
 rw [hd,Fh hq,OG]
theorem uC (h:m.fault.1≠0):m.runs=m.fault:=by unfold Module.runs;exact OB h
theorem uD (h:m.fault.1=0):m.runs=OG m 0 m.funcs:=by unfold Module.runs;rw [Module.fault_z h];exact Mg qk
end
end
section
mutual
def Ty.rn:Ty→List Int→Ty
 | .mk k r l,f=> .mk k (if k≠1 then f.getD r.toNat 0 else r) (Tys.rn l f)
def Tys.rn:List Ty→List Int→List Ty
 | [],_=>[]
 | x::l,f=>x.rn f::Tys.rn l f
end
theorem Tys.rn_map (f:List Int):∀l:List Ty,Tys.rn l f=l.map fun t=>t.rn f
 | []=>by rw [Tys.rn];rfl
 | x::l=>by rw [Tys.rn,Tys.rn_map f l];rfl
abbrev J7:=@Tys.rn_map
theorem Ty.rn_mk (k r:Int)(l:List Ty)(f:List Int):(Ty.mk k r l).rn f= .mk k (if k≠1 then f.getD r.toNat 0 else r) (l.map fun t=>t.rn f):=by rw [Ty.rn,J7]
abbrev Hw:=@Ty.rn_mk
theorem Ty.rn_kind (t:Ty)(f:List Int):(t.rn f).kind=t.kind:=by obtain ⟨k,r,l⟩:=t;rw [Ty.rn];rfl
abbrev HW:=@Ty.rn_kind
theorem Ty.rn_r {t:Ty}(f:List Int)(h:t.kind≠1):(t.rn f).r=f.getD t.r.toNat 0:=by obtain ⟨k,r,l⟩:=t;rw [Ty.rn];exact if_pos h
theorem Ty.rn_mr {k r:Int}{l:List Ty}(f:List Int)(h:k≠1):((Ty.mk k r l).rn f).r=f.getD r.toNat 0:=by rw [Ty.rn];exact if_pos h
theorem Ty.rn_l (t:Ty)(f:List Int):(t.rn f).l=t.l.map fun t=>t.rn f:=by obtain ⟨k,r,l⟩:=t;rw [Hw];rfl
theorem Tys.ren_map {f:List Int}:∀{l m:List Ty},(∀x∈l,∀u,x.ren f=some u→u=x.rn f)→Tys.ren l f=some m→m=l.map fun t=>t.rn f
 | [],m,_,h=>by rw [Tys.ren] at h;cases h;rfl
 | x ::l,m,hx,h=>by
   rw [Tys.ren] at h
   cases h1:x.ren f with
   | none=>rw [h1] at h;cases h
   | some y=>
     rw [h1] at h
     cases h2:Tys.ren l f with
     | none=>rw [h2] at h;cases h
     | some m2=>
       rw [h2] at h;cases h;rw [Gy,hx x (Gi ..) y h1,Tys.ren_map (fun z hz=>hx z (F3 _ hz)) h2]
abbrev JV:=@Tys.ren_map
theorem Ty.rn_of {f:List Int}:∀(t u:Ty),t.ren f=some u→u=t.rn f:=by
 intro t
 induction t using Hg with
 | h k r l ih=>
   intro u h;rw [Ty.ren] at h;split at h
   · cases h
   · split at h
     · cases h
     · rename_i m hm;cases h;rw [Hw,JV ih hm]
theorem Ty.rn_congr {f g:List Int}{n:Int}(h:∀i:Nat,(i:Int)<n→f.getD i 0=g.getD i 0):∀t:Ty,t.wrong 8 n=0→t.rn f=t.rn g:=by
 intro t
 induction t using Hg with
 | h k r l ih=>
   intro hw;obtain ⟨h1,h2,h3,h4,h5,h6⟩:=GG.1 hw;rw [Hw,Hw,GK fun x hx=>ih x hx (h6 x hx)];by_cases hk:k≠1
   · rw [if_pos hk,if_pos hk,h r.toNat Eo]
   · rw [if_neg hk,if_neg hk]
abbrev JW:=@Ty.rn_congr
theorem Ty.rn_rn {f g e:List Int}{n:Int}(h:∀i:Nat,(i:Int)<n→e.getD i 0=g.getD (f.getD i 0).toNat 0):∀t:Ty,t.wrong 8 n=0→(t.rn f).rn g=t.rn e:=by
 intro t
 induction t using Hg with
 | h k r l ih=>
   intro hw;obtain ⟨h1,h2,h3,h4,h5,h6⟩:=GG.1 hw;rw [Hw,Hw,Hw,List.map_map];have hl:(l.map ((fun t:Ty=>t.rn g)∘fun t=>t.rn f))=l.map fun t=>t.rn e:=GK fun x hx=>ih x hx (h6 x hx);rw [hl];by_cases hk:k≠1
   · rw [if_pos hk,if_pos hk,if_pos hk,h r.toNat Eo]
   · rw [if_neg hk,if_neg hk,if_neg hk]
abbrev JX:=@Ty.rn_rn
abbrev Lx:=Int→Int→Option Ty
structure VT (Ψ:Lx) (v:Val) (t:Ty):Prop where
 kind:v.kind=t.kind
 reg:t.kind≠1→v.region=t.r
 thing:t.kind=3∨t.kind=4→Ψ v.region v.thing=some t
def VJ (Ψ Ψ':Lx):Prop:=∀k j t,Ψ k j=some t→Ψ' k j=some t
theorem VT.ext {Ψ Ψ':Lx}{v:Val}{t:Ty}(h:VT Ψ v t)(he:VJ Ψ Ψ'):VT Ψ' v t:=⟨h.kind,h.reg,fun hk=>he _ _ _ (h.thing hk)⟩
theorem VJ.refl (Ψ:Lx):VJ Ψ Ψ:=fun _ _ _ h=>h
abbrev Iq:=@VJ.refl
def Mw (Ψ:Lx)(l:List Val)(ts:List Ty):Prop:=l.length=ts.length∧∀(i:Nat) (v:Val) (t:Ty),l[i]?=some v→ts[i]?=some t→VT Ψ v t
theorem Mw.ext {Ψ Ψ':Lx}{ts:List Ty}(h:Mw Ψ l ts)(he:VJ Ψ Ψ'):Mw Ψ' l ts:=⟨h.1,fun i v t h1 h2=>(h.2 i v t h1 h2).ext he⟩
theorem Mw.nil (Ψ:Lx):Mw Ψ [] []:=⟨rfl,fun i v t h=>by simp at h⟩
abbrev IF:=@Mw.nil
theorem Mw.get {Ψ:Lx}{ts:List Ty}(h:Mw Ψ l ts){i:Nat}{t:Ty}(ht:ts[i]?=some t):∃v,l[i]?=some v∧VT Ψ v t:=by
 have h1:=(E8.1 ht).1;have h0:i<l.length:=(by rw [h.1];exact h1);have h2:l[i]?=some l[i]:=E7 h0;exact ⟨_,h2,h.2 i _ t h2 ht⟩
theorem Mw.app {Ψ:Lx}{ts ts2:List Ty}(h:Mw Ψ l ts)(h2:Mw Ψ l2 ts2):Mw Ψ (l++l2) (ts++ts2):=by
 refine ⟨by rw [Fc,Fc,h.1,h2.1],fun i v t hv ht=>?_⟩;by_cases hi:i<l.length
 · rw [Fg hi] at hv;rw [Fg (by rw [←h.1];exact hi)] at ht;exact h.2 i v t hv ht
 · rw [Ff Jo] at hv;rw [Ff (by rw [←h.1];omega),←h.1] at ht;exact h2.2 _ v t hv ht
abbrev Kc:=@Mw.app
theorem Mw.one {Ψ:Lx}{v:Val}{t:Ty}(h:VT Ψ v t):Mw Ψ [v] [t]:=by
 refine ⟨rfl,fun i v' t' hv ht=>?_⟩
 cases i with
 | zero=>simp at hv ht;subst hv ht;exact h
 | succ i=>simp at hv
abbrev IG:=@Mw.one
theorem Mw.cons {Ψ:Lx}{v:Val}{t:Ty}{l:List Val}{ts:List Ty}(h:VT Ψ v t)(h2:Mw Ψ l ts):Mw Ψ (v::l) (t::ts):=Kc (IG h) h2
theorem Mw.set {Ψ:Lx}{ts:List Ty}(h:Mw Ψ l ts){k:Nat}{v:Val}{t:Ty}(ht:ts[k]?=some t)(hv:VT Ψ v t):Mw Ψ (l.set k v) ts:=by
 refine ⟨by rw [FL];exact h.1,fun i u w hu hw=>?_⟩;rw [Gz] at hu;split at hu
 · rename_i hk
   subst hk;split at hu
   · cases hu;rw [ht] at hw;cases hw;exact hv
   · cases hu
 · exact h.2 i u w hu hw
def No (Ψ:Lx)(x:Thg)(t:Ty):Prop:=x.array=decide (t.kind=4)∧(t.kind=3→Mw Ψ x.l t.l)∧(t.kind=4→x.l.length≤15∧∀v∈x.l,v.kind=1)
theorem No.ext {Ψ Ψ':Lx}{x:Thg}{t:Ty}(h:No Ψ x t)(he:VJ Ψ Ψ'):No Ψ' x t:=⟨h.1,fun hk=>(h.2.1 hk).ext he,h.2.2⟩
theorem No.tup {Ψ:Lx}{t:Ty}(hk:t.kind=3)(h:Mw Ψ l t.l):No Ψ ⟨false,l⟩ t:=by
 refine ⟨?_,fun _=>h,fun h4=>?_⟩
 · rw [hk];rfl
 · rw [hk] at h4;cases h4
theorem No.arr {Ψ:Lx}{t:Ty}(hk:t.kind=4)(hl:l.length≤15)(h:∀v∈l,v.kind=1):No Ψ ⟨true,l⟩ t:=by
 refine ⟨?_,fun h3=>?_,fun _=>⟨hl,h⟩⟩
 · rw [hk];rfl
 · rw [hk] at h3;cases h3
structure HTy (Ψ:Lx) (h:HpS):Prop where
 dom:∀k j t,Ψ k j=some t→0≤k∧k<h.l.length∧t.r=k∧(t.kind=3∨t.kind=4)
 here:∀k j t,Ψ k j=some t→h.has k=true→0≤j∧j<(h.reg k).l.length∧No Ψ (h.thg k.toNat j.toNat) t
section
variable {Ψ Ψ':Lx}{h:HpS}{v x:Val}{t u:Ty}{k j:Int}
theorem mc {l:List Rgn}(k:Int):(⟨l,left⟩:HpS).reg k=if 0≤k then l.getD k.toNat Rgn.none else Rgn.none:=rfl
theorem Rx (hh:h.has k=true):0≤k∧k<h.l.length∧h.l[k.toNat]?=some (h.reg k)∧(h.reg k).there=true:=by
 have hh':=hh;unfold HpS.has HpS.reg at hh;split at hh
 · rename_i h0
   rw [E9] at hh
   cases hk:h.l[k.toNat]? with
   | none=>rw [hk] at hh;cases hh
   | some r=>
     have hlt:=(E8.1 hk).1;refine ⟨h0,Jo,?_,hh'⟩;unfold HpS.reg;rw [if_pos h0,E9,hk];rfl
 · cases hh
theorem reg_set {l:List Rgn}{left':Int}{m:Nat}{r:Rgn}(hm:m<l.length)(k:Int):(⟨l.set m r,left⟩:HpS).reg k=if k=m then r else (⟨l,left'⟩:HpS).reg k:=by
 rw [mc,mc];by_cases h0:0≤k
 · rw [if_pos h0,if_pos h0,E9,Gz]
   by_cases hk:k=m
   · rw [if_pos hk,if_pos Jo,if_pos hm];rfl
   · rw [if_neg hk,if_neg Jo,E9]
 · rw [if_neg h0,if_neg h0,if_neg Jo]
theorem me {l:List Rgn}{r:Rgn}(k:Int):(⟨l++[r],a⟩:HpS).reg k=if k=l.length then r else (⟨l,a⟩:HpS).reg k:=by
 rw [mc,mc];by_cases h0:0≤k
 · rw [if_pos h0,if_pos h0,E9,E9]
   by_cases hk:k=l.length
   · rw [if_pos hk,Ff Jo,show k.toNat - l.length=0 by omega];rfl
   · rw [if_neg hk]
     by_cases hl:k<l.length
     · rw [Fg Jo]
     · rw [FI (by rw [Fc];simp only [Fk,FF];omega),FI Jo]
 · rw [if_neg h0,if_neg h0,if_neg Jo]
theorem VK (hv:VT Ψ v t)(hk:t.kind=2)(hh:h.has t.r=true):h.can v=true:=by
 unfold HpS.can;rw [hv.kind,hk,hv.reg Jo,hh];rfl
theorem gm (hH:HTy Ψ h)(hv:VT Ψ v t)(hk:t.kind=3∨t.kind=4)(hh:h.has t.r=true):h.at_ v=some (v.region.toNat,v.thing.toNat)∧v.region=t.r∧0≤v.thing∧v.thing<(h.reg t.r).l.length∧No Ψ (h.thg v.region.toNat v.thing.toNat) t:=by
 have hr:=hv.reg Jo;have hp:=hv.thing hk;obtain ⟨h1,h2,h3⟩:=hH.here _ _ _ hp (by rw [hr];exact hh);refine ⟨?_,hr,h1,by rw [←hr];exact h2,h3⟩;unfold HpS.at_;rw [if_pos];exact ⟨by rw [hv.kind];exact hk,by rw [hr];exact hh,h1,h2,by rw [h3.1,hv.kind]⟩
theorem dV (hH:HTy Ψ h)(hv:VT Ψ v t)(hk:t.kind=3)(hh:h.has t.r=true){i:Int}(h0:0≤i)(hu:t.l[i.toNat]?=some u):(h.get v i).2=0∧VT Ψ (h.get v i).1 u:=by
 obtain ⟨h1,h2,h3,h4,h5⟩:=gm hH hv (.inl hk) hh;obtain ⟨y,h6,h7⟩:=(h5.2.1 hk).get hu;have h8:=(E8.1 h6).1;unfold HpS.get;rw [h1];dsimp only;rw [if_pos ⟨h0,Jo⟩];refine ⟨rfl,?_⟩;dsimp only;rw [E9,h6];exact h7
theorem Y3 (hH:HTy Ψ h)(hv:VT Ψ v t)(hk:t.kind=4)(hh:h.has t.r=true)(i:Int):(h.get v i).2=1∨((h.get v i).2=0∧(h.get v i).1.kind=1):=by
 obtain ⟨h1,h2,h3,h4,h5⟩:=gm hH hv (.inr hk) hh;unfold HpS.get;rw [h1];dsimp only;by_cases hi:0≤i∧i<(h.thg v.region.toNat v.thing.toNat).l.length
 · rw [if_pos hi];refine .inr ⟨rfl,?_⟩;have h6:(h.thg v.region.toNat v.thing.toNat).l[i.toNat]?=some (h.thg v.region.toNat v.thing.toNat).l[i.toNat]:=E7 Jo;dsimp only;rw [E9,h6];exact (h5.2.2 hk).2 _ (Fa h6)
 · rw [if_neg hi];exact .inl rfl
theorem dW (hH:HTy Ψ h)(hv:VT Ψ v t)(hk:t.kind=4)(hh:h.has t.r=true):(h.len v).2=0:=by
 obtain ⟨h1,_⟩:=gm hH hv (.inr hk) hh;unfold HpS.len;rw [h1]
theorem VL (hH:HTy Ψ h):HTy Ψ h.open:=by
 by_cases hf:h.full=true
 · have e:h.open=h:=(by unfold HpS.open;rw [if_pos hf]);rw [e];exact hH
 · have e:h.open=⟨h.l++[⟨true,[],0,0⟩],h.left⟩:=by unfold HpS.open;rw [if_neg hf]
   rw [e];refine ⟨fun k j t hp=>?_,fun k j t hp hh=>?_⟩
   · obtain ⟨h1,h2,h3⟩:=hH.dom k j t hp;exact ⟨h1,by rw [Fc];simp only [Fk,FF];omega,h3⟩
   · obtain ⟨h1,h2,h3⟩:=hH.dom k j t hp;have hr:(⟨h.l++[⟨true,[],0,0⟩],h.left⟩:HpS).reg k=h.reg k:=(by rw [me,if_neg Jo]);have hr2:(⟨h.l++[⟨true,[],0,0⟩],h.left⟩:HpS).reg (k.toNat:Int)=h.reg (k.toNat:Int):=(by rw [me,if_neg Jo]);have hh2:h.has k=true:=(by unfold HpS.has at hh ⊢;rw [hr] at hh;exact hh);obtain ⟨h4,h5,h6⟩:=hH.here k j t hp hh2;refine ⟨h4,by rw [hr];exact h5,?_⟩;unfold HpS.thg at h6 ⊢;rw [hr2];exact h6
theorem VM (hH:HTy Ψ h):HTy Ψ (h.shut v):=by
 cases hc:h.can v with
 | false => have e:h.shut v=h:=by unfold HpS.shut;rw [hc];rfl
            rw [e];exact hH
 | true=>
   have e:h.shut v=⟨h.l.set v.region.toNat Rgn.none,h.left+(h.reg v.region).pages⟩:=(by unfold HpS.shut;rw [hc];rfl);unfold HpS.can at hc;rw [Fj] at hc;obtain ⟨g0,g1,g2,g3⟩:=Rx hc.2;rw [e];refine ⟨fun k j t hp=>?_,fun k j t hp hh=>?_⟩
   · obtain ⟨h1,h2,h3⟩:=hH.dom k j t hp;exact ⟨h1,by rw [FL];exact h2,h3⟩
   · obtain ⟨h1,h2,h3⟩:=hH.dom k j t hp
     have hr:∀q:Int,q≠v.region→(⟨h.l.set v.region.toNat Rgn.none,h.left+(h.reg v.region).pages⟩:HpS).reg q=h.reg q:=fun q hq=>by
      rw [reg_set (left':=h.left) Jo,if_neg Jo]
     have hne:k≠v.region:=fun hk=>by
      unfold HpS.has at hh;rw [reg_set (left':=h.left) Jo,if_pos Jo] at hh;cases hh
     have hh2:h.has k=true:=(by unfold HpS.has at hh ⊢;rw [hr k hne] at hh;exact hh);obtain ⟨h4,h5,h6⟩:=hH.here k j t hp hh2;refine ⟨h4,by rw [hr k hne];exact h5,?_⟩;unfold HpS.thg at h6 ⊢;rw [hr _ Jo];exact h6
def Ry (Ψ:Lx)(a b:Int)(t:Ty):Lx:=fun k j=>if k=a∧j=b then some t else Ψ k j
theorem Qhl (hH:HTy Ψ h)(hh:h.has k=true):VJ Ψ (Ry Ψ k (h.reg k).l.length t):=by
 intro a b u hp;unfold Ry;by_cases hab:a=k∧b=(h.reg k).l.length
 · obtain ⟨rfl,rfl⟩:=hab;have:=(hH.here _ _ _ hp hh).2.1;omega
 · rw [if_neg hab];exact hp
theorem uE {n:Int}(hc:h.code v n=0):h.can v=true∧h.has v.region=true:=by
 unfold HpS.code at hc
 cases hx:h.can v with
 | false=>rw [hx] at hc;cases hc
 | true=>
   refine ⟨rfl,?_⟩;unfold HpS.can at hx;rw [Fj] at hx;exact hx.2
theorem R2 (hv:VT Ψ v t)(hk:t.kind=2)(hh:h.has t.r=true)(n:Int):h.code v n=0∨h.code v n=14:=by
 unfold HpS.code;rw [VK hv hk hh];rw [if_neg Jd];split
 · exact .inr rfl
 · exact .inl rfl
theorem uF {n:Int}{x:Thg}(hH:HTy Ψ h)(hc:h.code v n=0)(hr:t.r=v.region)(hk:t.kind=3∨t.kind=4)(hx:No Ψ x t):
 HTy (Ry Ψ v.region (h.reg v.region).l.length t) (h.put v n x)∧VJ Ψ (Ry Ψ v.region (h.reg v.region).l.length t)∧(∀q,(h.put v n x).has q=h.has q)∧VT (Ry Ψ v.region (h.reg v.region).l.length t) (h.putV v t.kind n) t:=by
 obtain ⟨_,hh⟩:=uE hc;obtain ⟨g0,g1,g2,g3⟩:=Rx hh;have hE:=Qhl (t:=t) hH hh;have e:h.put v n x=⟨h.l.set v.region.toNat (((h.reg v.region).room n).push x),if (h.reg v.region).more n then h.left - 1 else h.left⟩:=by unfold HpS.put;rw [if_pos hc]
 have hrl:(((h.reg v.region).room n).push x).l=(h.reg v.region).l++[x]∧(((h.reg v.region).room n).push x).there=true:=by
  unfold Rgn.room Rgn.push;split<;>exact ⟨rfl,g3⟩
 have hreg:∀q:Int,(h.put v n x).reg q=if q=v.region then ((h.reg v.region).room n).push x else h.reg q:=fun q=>by
  rw [e,reg_set (left':=h.left) Jo,show ((v.region.toNat:Nat):Int)=v.region by omega]
 have hhas:∀q,(h.put v n x).has q=h.has q:=fun q=>by
  unfold HpS.has;rw [hreg];by_cases hq:q=v.region
  · rw [if_pos hq,hq,hrl.2,g3]
  · rw [if_neg hq]
 refine ⟨⟨fun k j u hp=>?_,fun k j u hp hk2=>?_⟩,hE,hhas,?_⟩
 · unfold Ry at hp
   rw [show (h.put v n x).l.length=h.l.length by rw [e,FL]];by_cases hab:k=v.region∧j=(h.reg v.region).l.length
   · rw [if_pos hab] at hp;cases hp;exact ⟨Jo,Jo,Jo,hk⟩
   · rw [if_neg hab] at hp;exact hH.dom k j u hp
 · rw [hhas] at hk2
   unfold Ry at hp;by_cases hab:k=v.region∧j=(h.reg v.region).l.length
   · rw [if_pos hab] at hp;cases hp;obtain ⟨rfl,rfl⟩:=hab;refine ⟨Jo,by rw [hreg,if_pos rfl,hrl.1,Fc];simp only [Fk,FF];omega,?_⟩;unfold HpS.thg;rw [hreg,if_pos Jo,hrl.1,FJ,E9,Ff (FE _),Hk];exact hx.ext hE
   · rw [if_neg hab] at hp
     obtain ⟨h1,h2,h3⟩:=hH.here k j u hp hk2;obtain ⟨d1,d2,d3⟩:=hH.dom k j u hp;by_cases hq:k=v.region
     · subst hq;refine ⟨h1,by rw [hreg,if_pos rfl,hrl.1,Fc];omega,?_⟩;unfold HpS.thg at h3 ⊢;rw [hreg,if_pos Jo,hrl.1,E9,Fg Jo,←E9];rw [show ((v.region.toNat:Nat):Int)=v.region by omega] at h3;exact h3.ext hE
     · refine ⟨h1,by rw [hreg,if_neg hq];exact h2,?_⟩;unfold HpS.thg at h3 ⊢;rw [hreg,if_neg Jo];exact h3.ext hE
 · have ep:h.putV v t.kind n=⟨t.kind,v.region,(h.reg v.region).l.length,0⟩:=(by unfold HpS.putV;rw [if_pos hc]);rw [ep];exact ⟨rfl,fun _=>hr.symm,fun _=>if_pos ⟨rfl,rfl⟩⟩
theorem uG {i:Int}{y:Val}(hH:HTy Ψ h)(hv:VT Ψ v t)(hk:t.kind=3∨t.kind=4)(hh:h.has t.r=true)(hy3:t.kind=3→∀u,t.l[i.toNat]?=some u→VT Ψ y u)(hy4:t.kind=4→y.kind=1):
 HTy Ψ (h.set v i y)∧(∀q,(h.set v i y).has q=h.has q):=by
 obtain ⟨h1,h2,h3,h4,h5⟩:=gm hH hv hk hh;unfold HpS.set;rw [h1];dsimp only;split
 · rename_i hc
   obtain ⟨g0,g1,g2,g3⟩:=Rx hh;rw [←h2] at g0 g1 g2 g3 hh h4
   have hin:0≤i∧i<(h.thg v.region.toNat v.thing.toNat).l.length:=by
    unfold HpS.setC at hc;rw [h1] at hc;dsimp only at hc;split at hc
    · cases hc
    · split at hc
      · assumption
      · cases hc
   have hrr:h.reg ((v.region.toNat:Nat):Int)=h.reg v.region:=by rw [show ((v.region.toNat:Nat):Int)=v.region by omega]
   have hreg:∀q:Int,(⟨h.l.set v.region.toNat ((h.reg v.region.toNat).upd v.thing.toNat ((h.thg v.region.toNat v.thing.toNat).upd i.toNat y)),h.left⟩:HpS).reg q=if q=v.region then (h.reg v.region).upd v.thing.toNat ((h.thg v.region.toNat v.thing.toNat).upd i.toNat y) else h.reg q:=fun q=>by
    rw [reg_set (left':=h.left) Jo,hrr,show ((v.region.toNat:Nat):Int)=v.region by omega]
   have hhas:∀q,(⟨h.l.set v.region.toNat ((h.reg v.region.toNat).upd v.thing.toNat ((h.thg v.region.toNat v.thing.toNat).upd i.toNat y)),h.left⟩:HpS).has q=h.has q:=fun q=>by
    unfold HpS.has;rw [hreg];by_cases hq:q=v.region
    · rw [if_pos hq,hq];rfl
    · rw [if_neg hq]
   have hlen:(⟨h.l.set v.region.toNat ((h.reg v.region.toNat).upd v.thing.toNat ((h.thg v.region.toNat v.thing.toNat).upd i.toNat y)),h.left⟩:HpS).l.length=h.l.length:=FL;generalize (⟨h.l.set v.region.toNat ((h.reg v.region.toNat).upd v.thing.toNat ((h.thg v.region.toNat v.thing.toNat).upd i.toNat y)),h.left⟩:HpS)=H at hreg hhas hlen ⊢;refine ⟨⟨fun k j u hp=>?_,fun k j u hp hk2=>?_⟩,hhas⟩
   · obtain ⟨d1,d2,d3⟩:=hH.dom k j u hp;exact ⟨d1,by rw [hlen];exact d2,d3⟩
   · rw [hhas] at hk2
     obtain ⟨e1,e2,e3⟩:=hH.here k j u hp hk2;obtain ⟨d1,d2,d3⟩:=hH.dom k j u hp;by_cases hq:k=v.region
     · subst hq
       refine ⟨e1,by rw [hreg,if_pos rfl];show j<((h.reg v.region).l.set _ _).length;rw [FL];exact e2,?_⟩;unfold HpS.thg;rw [hreg,if_pos Jo];show No Ψ (((h.reg v.region).l.set v.thing.toNat _).getD j.toNat _) u;rw [E9,Gz];by_cases hj:v.thing.toNat=j.toNat
       · rw [if_pos hj,if_pos Jo]
         have hjv:j=v.thing:=Df;subst hjv;have hu:u=t:=(by have:=hv.thing hk;rw [hp] at this;cases this;rfl);subst hu;refine ⟨h5.1,fun h3'=>?_,fun h4'=>?_⟩
         · show Mw Ψ ((h.thg v.region.toNat v.thing.toNat).l.set i.toNat y) u.l;have h6:=h5.2.1 h3';have h0':i.toNat<u.l.length:=(by rw [←h6.1];omega);have h7:u.l[i.toNat]?=some u.l[i.toNat]:=E7 h0';exact h6.set h7 (hy3 h3' _ h7)
         · refine ⟨by show ((h.thg v.region.toNat v.thing.toNat).l.set i.toNat y).length≤15;rw [FL];exact (h5.2.2 h4').1,fun z hz=>?_⟩
           rcases Ld hz with rfl|hz
           · exact hy4 h4'
           · exact (h5.2.2 h4').2 z hz
       · rw [if_neg hj];unfold HpS.thg at e3;rw [hrr,E9] at e3;exact e3
     · refine ⟨e1,by rw [hreg,if_neg hq];exact e2,?_⟩;unfold HpS.thg at e3 ⊢;rw [hreg,if_neg Jo];exact e3
 · exact ⟨hH,fun _=>rfl⟩
theorem Y4 (hH:HTy Ψ h)(hv:VT Ψ v t)(hk:t.kind=3)(hh:h.has t.r=true){i:Int}(h0:0≤i)(hu:t.l[i.toNat]?=some u)(y:Val):h.setC v i y=0:=by
 obtain ⟨h1,h2,h3,h4,h5⟩:=gm hH hv (.inl hk) hh;obtain ⟨z,h6,h7⟩:=(h5.2.1 hk).get hu;have h8:=(E8.1 h6).1;unfold HpS.setC;rw [h1];dsimp only;rw [if_neg (by rw [h5.1,hk];simp),if_pos ⟨h0,Jo⟩]
theorem VN (hH:HTy Ψ h)(hv:VT Ψ v t)(hk:t.kind=4)(hh:h.has t.r=true)(i:Int){y:Val}(hy:y.kind=1):h.setC v i y=0∨h.setC v i y=1:=by
 obtain ⟨h1,h2,h3,h4,h5⟩:=gm hH hv (.inr hk) hh;unfold HpS.setC;rw [h1];dsimp only;rw [if_neg (by rw [hy];simp)];split
 · exact .inl rfl
 · exact .inr rfl
end
end
end Go.Lir
namespace Go.Proofs.YteflkifmgnpbhaaGreat
open Go.Lir
structure RMap where
 σ:Nat→Nat
 a:Nat→Nat→Int
def Np (φ:RMap)(h:HpS)(v:Val)(n:Int):Prop:=
 (v.kind=1→n=v.n)∧(v.kind≠1→0≤v.region∧v.region<h.l.length)∧(v.kind=2→h.has v.region=true→n=φ.σ v.region.toNat)∧
 (v.kind=3∨v.kind=4→h.has v.region=true→0≤v.thing∧v.thing<(h.reg v.region).l.length∧n=φ.a v.region.toNat v.thing.toNat)
def LK (φ:RMap)(h:HpS)(l:List Val)(ns:List Int):Prop:=l.length=ns.length∧∀(i:Nat) (v:Val) (n:Int),l[i]?=some v→ns[i]?=some n→Np φ h v n
end Go.Proofs.YteflkifmgnpbhaaGreat
namespace Go.Lir
def Thg.off (t:Thg):Int:=if t.array=true then 1 else 0
def Thg.size (t:Thg):Int:=if t.array=true then 1+t.l.length else L9 t.l
end Go.Lir
namespace Go.Proofs.YteflkifmgnpbhaaGreat
open Go.Lir
section
def SD (φ:RMap)(h:HpS)(e:EstS)(A:Int)(t:Thg):Prop:=(t.array=true→e.word A=t.l.length)∧∀(i:Nat) (v:Val),t.l[i]?=some v→Np φ h v (e.word (A+t.off+i))
def Pu (h:HpS)(r t:Nat)(x:Thg):Prop:=h.has r=true∧(h.reg r).l[t]?=some x
structure WHR (φ:RMap) (h:HpS) (e:EstS):Prop where
 ok:e.Ok
 left:h.left=e.p.fr.length
 cnt:e.count=h.live
 live:∀r:Nat,h.has r=true→φ.σ r<16∧(e.reg (φ.σ r)).there=true∧((e.reg (φ.σ r)).pages.length:Int)=(h.reg r).pages∧(e.reg (φ.σ r)).used=(h.reg r).used
 inj:∀r q:Nat,h.has r=true→h.has q=true→φ.σ r=φ.σ q→r=q
 z:∀k:Nat,k<16→(e.reg k).pages≠[]→∀j:Int,(e.reg k).used≤j→j<16→e.p.word ((e.reg k).last*16+j)=0
 at_:∀(r t:Nat) (x:Thg),Pu h r t x→∃q,q∈(e.reg (φ.σ r)).pages∧q*16≤φ.a r t∧φ.a r t+x.size≤q*16+(e.reg (φ.σ r)).lim q
 apart:∀(r t:Nat) (x:Thg) (r' t':Nat) (x':Thg),Pu h r t x→Pu h r' t' x'→¬(r=r'∧t=t')→φ.a r t+x.size≤φ.a r' t'∨φ.a r' t'+x'.size≤φ.a r t
 lies:∀(r t:Nat) (x:Thg),Pu h r t x→SD φ h e (φ.a r t) x
def Mz (φ:RMap)(h:HpS)(φ':RMap)(h':HpS):Prop:=∀v n,Np φ h v n→Np φ' h' v n
theorem Mz.refl (φ:RMap)(h:HpS):Mz φ h φ h:=fun _ _ h=>h
theorem Mz.vrs {φ φ':RMap}{h:HpS}(hM:Mz φ h φ' h')(hv:LK φ h l ns):LK φ' h' l ns:=⟨hv.1,fun i v n h1 h2=>hM _ _ (hv.2 i v n h1 h2)⟩
theorem Mz.lies {φ φ':RMap}{h:HpS}(hM:Mz φ h φ' h'){e e':EstS}{A:Int}(hw:∀i,A≤i→i<A+t.size→e'.word i=e.word i)(hl:SD φ h e A t):SD φ' h' e' A t:=by
 refine ⟨fun ha=>?_,fun i v hv=>?_⟩
 · rw [hw A (IU _) (by unfold Thg.size;rw [if_pos ha];omega)];exact hl.1 ha
 · have hi:=(E8.1 hv).1;rw [hw _ (by unfold Thg.off;split<;>omega) D4];exact hM _ _ (hl.2 i v hv)
theorem LK.nil (φ:RMap)(h:HpS):LK φ h [] []:=⟨rfl,fun i v n h1=>by simp at h1⟩
theorem LK.app {φ:RMap}{h:HpS}{ns2:List Int}(h1:LK φ h l ns)(h2:LK φ h l2 ns2):LK φ h (l++l2) (ns++ns2):=by
 have e:=h1.1;refine ⟨by rw [Fc,Fc,h1.1,h2.1],fun i v n hv hn=>?_⟩;by_cases hi:i<l.length
 · rw [Fg hi] at hv;rw [Fg Jo] at hn;exact h1.2 i v n hv hn
 · rw [Ff Jo] at hv;rw [Ff Jo,←e] at hn;exact h2.2 _ v n hv hn
theorem LK.one {φ:RMap}{h:HpS}{v:Val}{n:Int}(hv:Np φ h v n):LK φ h [v] [n]:=⟨rfl,fun i v' n' h1 h2=>by
 cases i with
 | zero=>simp at h1 h2;subst h1;subst h2;exact hv
 | succ i=>simp at h1⟩
abbrev HG:=@LK.one
theorem LK.cons {φ:RMap}{h:HpS}{v:Val}{n:Int}{l:List Val}{ns:List Int}(hv:Np φ h v n)(h2:LK φ h l ns):LK φ h (v::l) (n::ns):=(HG hv).app h2
theorem LK.get {φ:RMap}{h:HpS}(hl:LK φ h l ns){i:Nat}{v:Val}(hv:l[i]?=some v):∃n,ns[i]?=some n∧Np φ h v n:=by
 have hi:=(E8.1 hv).1;exact ⟨ns[i]'(by have:=hl.1;omega),E7 _,hl.2 i v _ hv (E7 _)⟩
theorem Np.int (φ:RMap)(h:HpS)(n:Int):Np φ h (K4 n) n:=⟨fun _=>rfl,fun h=>absurd rfl h,fun h=>(by cases h),fun h=>(by rcases h with h|h<;>cases h)⟩
abbrev IH:=@Np.int
variable {φ:RMap}{h:HpS}{e:EstS}{v:Val}{n:Int}
theorem WHR.slot (_:WHR φ h e)(hv:Np φ h v n)(hc:h.can v=true):∃r:Nat,v.region=r∧h.has r=true∧n=φ.σ r∧r<h.l.length:=by
 unfold HpS.can at hc;rw [Fj,decide_eq_true_iff] at hc;have h1:=hv.2.1 Jo;refine ⟨v.region.toNat,Jo,by rw [FO h1.1];exact hc.2,hv.2.2.1 hc.1 hc.2,Jo⟩
theorem qp {p:α→Bool}{l:List α}{k:Nat}{r r':α}(hr:l[k]?=some r):(l.set k r').countP p+(if p r then 1 else 0)=l.countP p+if p r' then 1 else 0:=by
 have h1:=(i6 hr).countP_eq p;have h2:=(lM (x:=r') (E8.1 hr).1).countP_eq p;rw [List.countP_cons] at h1 h2;rw [h1,h2];omega
theorem uH (ok:e.Ok):e.low<16↔e.count≠16:=by
 have hl:=ok.len;constructor
 · intro h hc;have h1:=Gw ok h;have h2:=ID ok h;have hall:∀r∈e.rs,r.there=true:=(JG (p:=fun r:Reg=>r.there)).1 (by have h9:(List.countP (fun r:Reg=>r.there) e.rs:Int)=16:=hc;rw [hl];omega);have:=hall _ (Fa h1);rw [h2] at this;cases this
 · intro hc
   by_cases h:e.low<16
   · exact h
   · exfalso;have hle:=EstS.low_le ok;have h3:e.low=e.rs.length:=Df;have h4:=Ju.1 h3;refine hc ?_;unfold EstS.count;rw [JG.2 fun r hr=>by have:=h4 r hr;simpa using this];omega
theorem WHR.full (H:WHR φ h e):h.full=true↔e.openV<0:=by
 have h1:=uH H.ok;have h2:=H.cnt;unfold HpS.full EstS.openV;rw [decide_eq_true_iff];constructor
 · intro hf;rw [if_neg Jo];omega
 · intro hn
   split at hn
   · omega
   · rename_i hl;by_cases hf:h.live=16
     · exact hf
     · exact absurd (h1.2 Jo) hl
theorem gn (hf:h.full=false)(r:Int):h.open=⟨h.l++[⟨true,[],0,0⟩],h.left⟩∧h.openV=⟨2,h.l.length,0,0⟩∧h.open.reg r=if r=h.l.length then ⟨true,[],0,0⟩ else h.reg r:=by
 have e1:h.open=⟨h.l++[⟨true,[],0,0⟩],h.left⟩:=Ev;refine ⟨e1,by unfold HpS.openV;rw [hf];rfl,?_⟩;rw [e1,me]
theorem ka {r:Int}(hr:h.has r=true):0≤r∧r<h.l.length:=⟨(Rx hr).1,(Rx hr).2.1⟩
theorem WHR.open (H:WHR φ h e)(hf:h.full=false):∃φ',WHR φ' h.open e.open∧Mz φ h φ' h.open∧Np φ' h.open h.openV e.openV:=by
 have hlow:e.low<16:=(uH H.ok).2 (by
  have h2:=H.cnt;unfold HpS.full at hf;rw [decide_eq_false_iff_not] at hf;omega)
 have e1:=(gn hf 0).1;have e2:=(gn hf 0).2.1;have eo:e.open=⟨e.p,e.rs.set e.low ⟨true,[],0⟩⟩:=(by unfold EstS.open;rw [if_pos hlow]);have ev:e.openV=e.low:=(by unfold EstS.openV;rw [if_pos hlow]);have hoff:=ID H.ok hlow;have hreg:∀k:Nat,e.open.reg k=if k=e.low then ⟨true,[],0⟩ else e.reg k:=fun k=>by rw [eo];exact gd H.ok hlow
 have hnew:h.has h.l.length=false:=by
  cases hx:h.has h.l.length with
  | false=>rfl
  | true=>have:=(ka hx).2;omega
 have hr0:∀r:Int,h.open.has r=true→r=h.l.length∨r≠h.l.length∧h.has r=true:=fun r hr=>by
  unfold HpS.has at hr ⊢;rw [(gn hf r).2.2] at hr;by_cases hc:r=h.l.length
  · exact .inl hc
  · rw [if_neg hc] at hr;exact .inr ⟨hc,hr⟩
 have hne:∀r:Nat,h.has r=true→φ.σ r≠e.low:=fun r hr hc=>by
  have:=(H.live r hr).2.1;rw [hc,hoff] at this;cases this
 have hM:Mz φ h ⟨fun r=>if r=h.l.length then e.low else φ.σ r,φ.a⟩ h.open:=fun v n hv=>by
  refine ⟨hv.1,fun hk=>?_,fun hk hh=>?_,fun hk hh=>?_⟩
  · have:=hv.2.1 hk;rw [e1];simp;omega
  · have hl:=hv.2.1 Jo
    rcases hr0 _ hh with hc|⟨hc,hh⟩
    · omega
    · show n=((if v.region.toNat=h.l.length then e.low else φ.σ v.region.toNat:Nat):Int);rw [if_neg Jo];exact hv.2.2.1 hk hh
  · have hl:=hv.2.1 Jo
    rcases hr0 _ hh with hc|⟨hc,hh⟩
    · omega
    · have:=hv.2.2.2 hk hh;rw [(gn hf v.region).2.2,if_neg hc];exact this
 have hth:∀(r t:Nat) (x:Thg),Pu h.open r t x→r≠h.l.length∧Pu h r t x:=fun r t x ht=>by
  obtain ⟨h1,h2⟩:=ht;rw [(gn hf r).2.2] at h2;rcases hr0 _ h1 with hc|⟨hc,hh⟩
  · rw [if_pos hc] at h2;simp at h2
  · rw [if_neg hc] at h2;exact ⟨Jo,hh,h2⟩
 refine ⟨⟨fun r=>if r=h.l.length then e.low else φ.σ r,φ.a⟩,⟨JC H.ok,?_,?_,?_,?_,?_,?_,?_,?_⟩,hM,?_⟩
 · rw [e1,eo];exact H.left
 · have h3:=qp (p:=fun r:Reg=>r.there) (r':=⟨true,[],0⟩) (Gw H.ok hlow);rw [hoff] at h3;have h4:=H.cnt;unfold EstS.count HpS.live at h4 ⊢;rw [eo,e1,HP];simp [Reg.none] at h3 ⊢;omega
 · intro r hr
   show (if r=h.l.length then e.low else φ.σ r)<16∧_;rw [show (h.open.reg r)=if (r:Int)=h.l.length then ⟨true,[],0,0⟩ else h.reg r from (gn hf r).2.2];show _∧(e.open.reg ((if r=h.l.length then e.low else φ.σ r:Nat):Int)).there=true∧((e.open.reg ((if r=h.l.length then e.low else φ.σ r:Nat):Int)).pages.length:Int)=_∧(e.open.reg ((if r=h.l.length then e.low else φ.σ r:Nat):Int)).used=_;rcases hr0 _ hr with hc|⟨hc,hh⟩
   · rw [if_pos Jo,if_pos hc,hreg,if_pos rfl];exact ⟨hlow,rfl,rfl,rfl⟩
   · rw [if_neg Jo,if_neg hc,hreg,if_neg (hne r hh)];exact H.live r hh
 · intro r q hr hq hs
   have hs:(if r=h.l.length then e.low else φ.σ r)=(if q=h.l.length then e.low else φ.σ q):=hs;rcases hr0 _ hr with hc|⟨hc,hh⟩
   · rcases hr0 _ hq with hd|⟨hd,hg⟩
     · omega
     · rw [if_pos Jo,if_neg Jo] at hs;exact absurd hs.symm (hne q hg)
   · rcases hr0 _ hq with hd|⟨hd,hg⟩
     · rw [if_neg Jo,if_pos Jo] at hs;exact absurd hs (hne r hh)
     · rw [if_neg Jo,if_neg Jo] at hs;exact H.inj r q hh hg hs
 · intro k hk hp j h1 h2
   rw [hreg] at hp h1 ⊢;by_cases hc:k=e.low
   · rw [if_pos hc] at hp;exact absurd rfl hp
   · rw [if_neg hc] at hp h1 ⊢;rw [eo];exact H.z k hk hp j h1 h2
 · intro r t x hx;obtain ⟨hc,hx⟩:=hth r t x hx;show∃q,q∈(e.open.reg ((if r=h.l.length then e.low else φ.σ r:Nat):Int)).pages∧_∧_≤q*16+(e.open.reg ((if r=h.l.length then e.low else φ.σ r:Nat):Int)).lim q;rw [if_neg hc,hreg,if_neg (hne r hx.1)];exact H.at_ r t x hx
 · intro r t x r' t' x' hx hx';exact Cv
 · intro r t x hx;refine hM.lies (e:=e) (fun i _ _=>?_) (H.lies r t x (hth r t x hx).2);rw [eo];rfl
 · rw [e2,ev]
   refine ⟨fun h=>(by cases h),fun _=>?_,fun _ _=>?_,fun h=>(by rcases h with h|h<;>cases h)⟩
   · rw [e1];simp;omega
   · show ((e.low:Nat):Int)=((if (h.l.length:Int).toNat=h.l.length then e.low else _:Nat):Int);rw [if_pos Jo]
theorem qq {r:Nat}(hv:v.region=r)(hc:h.can v=true)(q:Int):h.shut v=⟨h.l.set r Rgn.none,h.left+(h.reg r).pages⟩∧(h.shut v).reg q=if q=r then Rgn.none else h.reg q:=by
 have e1:h.shut v=⟨h.l.set r Rgn.none,h.left+(h.reg r).pages⟩:=(by unfold HpS.shut;rw [if_pos hc,hv,FJ]);refine ⟨e1,?_⟩;have hr:h.has r=true:=(by rw [←hv];unfold HpS.can at hc;rw [Fj] at hc;exact hc.2);rw [e1,Go.Lir.reg_set (left':=h.left) (by have:=(ka hr).2;omega)]
theorem WHR.shut (H:WHR φ h e)(hv:Np φ h v n)(hc:h.can v=true):WHR φ (h.shut v) (e.shut n)∧Mz φ h φ (h.shut v):=by
 obtain ⟨r0,hr0,hh0,rfl,hlt0⟩:=H.slot hv hc;obtain ⟨hs,hth0,hpg,hus⟩:=H.live r0 hh0;have hk:e.has (φ.σ r0)=true:=hth0;have e1:=(qq hr0 hc 0).1;have eo:=Jh hk;have hreg:∀k:Nat,(e.shut (φ.σ r0)).reg k=if k=φ.σ r0 then Reg.none else e.reg k:=fun k=>by rw [eo];exact gd H.ok hs
 have hr1:∀r:Int,(h.shut v).has r=true→r≠r0∧h.has r=true:=fun r hr=>by
  unfold HpS.has at hr ⊢;rw [(qq hr0 hc r).2] at hr;by_cases hc:r=r0
  · rw [if_pos hc] at hr;cases hr
  · rw [if_neg hc] at hr;exact ⟨hc,hr⟩
 (have hrg:∀r:Int,r≠r0→(h.shut v).reg r=h.reg r:=fun r hn=>by rw [(qq hr0 hc r).2,if_neg hn]);have hne:∀r:Nat,r≠r0→h.has r=true→φ.σ r≠φ.σ r0:=fun r hn hr hc=>hn (H.inj r r0 hr hh0 hc)
 have hM:Mz φ h φ (h.shut v):=fun u m hu=>by
  refine ⟨hu.1,fun hk=>?_,fun hk hh=>hu.2.2.1 hk (hr1 _ hh).2,fun hk hh=>?_⟩
  · have:=hu.2.1 hk;rw [e1];simp only [FL];exact this
  · obtain ⟨g1,g2⟩:=hr1 _ hh;rw [hrg _ g1];exact hu.2.2.2 hk g2
 have hth:∀(r t:Nat) (x:Thg),Pu (h.shut v) r t x→r≠r0∧Pu h r t x:=fun r t x ht=>by
  obtain ⟨h1,h2⟩:=ht;obtain ⟨g1,g2⟩:=hr1 _ h1;rw [hrg _ g1] at h2;exact ⟨Jo,g2,h2⟩
 have hok:=JD H.ok (φ.σ r0);refine ⟨⟨hok,?_,?_,?_,?_,?_,?_,?_,?_⟩,hM⟩
 · have h1:=hok.tk.len hok.pok
   have h2:=H.ok.tk.len H.ok.pok;have h3:=(s9 (Gw H.ok hs)).length_eq
   have h4:(e.shut (φ.σ r0)).all.length=((e.rs.eraseIdx (φ.σ r0)).flatMap Reg.pages).length:=by
    rw [eo];exact (ta (rs:=e.rs) (k:=φ.σ r0) (r':=Reg.none) (by rw [H.ok.len];exact hs)).length_eq
   have h5:(e.shut (φ.σ r0)).p.n=e.p.n:=(by rw [eo];exact Jg);rw [Fc] at h3;have h6:=H.left;rw [e1];show h.left+(h.reg r0).pages=_;omega
 · have h3:=qp (p:=fun r:Reg=>r.there) (r':=Reg.none) (Gw H.ok hs);have h5:=cr (r':=Rgn.none) (Rx hh0).2.2.1;rw [hth0] at h3;rw [(Rx hh0).2.2.2] at h5;have h4:=H.cnt;unfold EstS.count HpS.live at h4 ⊢;rw [eo,e1];simp [Reg.none,Rgn.none] at h3 h5 ⊢;omega
 · intro r hr;obtain ⟨g1,g2⟩:=hr1 _ hr;rw [hreg,if_neg (hne r Jo g2),hrg _ g1];exact H.live r g2
 · intro r q hr hq hs;exact H.inj r q (hr1 _ hr).2 (hr1 _ hq).2 hs
 · intro k hk hp j h1 h2
   rw [hreg] at hp h1 ⊢;by_cases hc:k=φ.σ r0
   · rw [if_pos hc] at hp;exact absurd rfl hp
   · rw [if_neg hc] at hp h1 ⊢;rw [eo];show (e.p.gives _).word _=0;rw [tN];exact H.z k hk hp j h1 h2
 · intro r t x hx;obtain ⟨hc,hx⟩:=hth r t x hx;rw [hreg,if_neg (hne r hc hx.1)];exact H.at_ r t x hx
 · intro r t x r' t' x' hx hx';exact Cv
 · intro r t x hx;refine hM.lies (e:=e) (fun i _ _=>?_) (H.lies r t x (hth r t x hx).2);rw [eo];exact tN
end
section
theorem VO (h:s.Ok)(k x:Int):(s.store k x).Ok:=⟨h.len,h.off,h.used,h.tk.store k x,I4 h.pok k x,by show (s.p.store k x).n≤64;rw [Hx];exact h.n64⟩
theorem uI {at_:Int}:∀(l:List Int) (s:EstS) (k:Nat),s.Ok→0≤at_→at_+k+l.length≤((s.p.n*16:Nat):Int)→
 (s.storesA at_ k l).Ok∧(s.storesA at_ k l).rs=s.rs∧(s.storesA at_ k l).p.n=s.p.n∧(s.storesA at_ k l).p.fr=s.p.fr∧∀i,(s.storesA at_ k l).word i=if at_+k≤i∧i<at_+k+l.length then l.getD (i - at_ - k).toNat 0 else s.word i
 | [],s,k,ok,_,_=>⟨ok,rfl,rfl,rfl,fun i=>by rw [if_neg Js];rfl⟩
 | v ::l,s,k,ok,h0,h1=>by
   rw [Fk] at h1;have hn:=ok.n64;have hw:wr (at_+k)=at_+k:=fw Jo Jo;have hin:s.p.isIn (at_+k)=true:=Mh.2 Jo;obtain ⟨g1,g2,g3,g4,g5⟩:=uI l (s.store (at_+k) v) (k+1) (VO ok _ _) h0 (by show _≤(((s.p.store (at_+k) v).n*16:Nat):Int);rw [Hx];omega);rw [EstS.storesA,hw];refine ⟨g1,g2,g3.trans Hx,g4.trans HV,fun i=>?_⟩;rw [g5,Fk];have hs:(s.store (at_+k) v).word i=if i=at_+k then v else s.word i:=pJ ok.pok hin i
   rw [hs];by_cases hi:i=at_+k
   · rw [if_neg Jo,if_pos hi,if_pos Jo,show (i - at_ - k).toNat=0 by omega];rfl
   · rw [if_neg hi]
     by_cases hj:at_+k≤i∧i<at_+k+(l.length+1:Nat)
     · rw [if_pos Jo,if_pos hj,show (i - at_ - k).toNat=(i - at_ - (k+1:Nat)).toNat+1 by omega];rfl
     · rw [if_neg Jo,if_neg hj]
theorem VP {at_:Int}{l:List Int}(ok:s.Ok)(h0:0≤at_)(h1:at_+l.length≤((s.p.n*16:Nat):Int)):
 (s.stores at_ l).Ok∧(s.stores at_ l).rs=s.rs∧(s.stores at_ l).p.n=s.p.n∧(s.stores at_ l).p.fr=s.p.fr∧∀i,(s.stores at_ l).word i=if at_≤i∧i<at_+l.length then l.getD (i - at_).toNat 0 else s.word i:=by
 obtain ⟨g1,g2,g3,g4,g5⟩:=uI l s 0 ok h0 Jo;refine ⟨g1,g2,g3,g4,fun i=>?_⟩;have:=g5 i;simp only [Int.natCast_zero,Jq,Int.sub_zero] at this;exact this
variable {φ:RMap}{h:HpS}{e:EstS}{v:Val}{n:Int}
theorem more_iff {h:HpS}{e:EstS}{r:Rgn}{g:Reg}(h1:(g.pages.length:Int)=r.pages)(h2:g.used=r.used)(x:Int):g.more x=r.more x:=by
 unfold Reg.more Rgn.more;rw [h2];have:g.pages=[]↔r.pages=0:=(by rw [←h1,←GI];omega);simp only [this]
theorem WHR.code (H:WHR φ h e)(hv:Np φ h v n)(hc:h.can v=true){x:Int}(hx:1≤x∧x≤16):e.code n x=h.code v x:=by
 obtain ⟨r0,hr0,hh0,rfl,hlt0⟩:=H.slot hv hc;obtain ⟨hs,hth0,hpg,hus⟩:=H.live r0 hh0;have hk:e.has (φ.σ r0)=true:=hth0;have hle:(h.left=0)=(e.p.fr=[]):=propext (by rw [H.left,←GI];omega);unfold EstS.code HpS.code;rw [hk,hc,hr0,more_iff (h:=h) (e:=e) hpg hus,if_neg Jd,if_neg Jo];simp only [hle];rfl
theorem mf {x:Int}(hc:h.code v x≠20):h.can v=true:=by
 unfold HpS.code at hc
 cases hx:h.can v with
 | true=>rfl
 | false=>rw [hx] at hc;exact absurd rfl hc
theorem uJ (t:Thg):1≤t.size:=by unfold Thg.size L9;split<;>(try split)<;>omega
theorem Qce {m:Nat}{x:Int}(ok:e.Ok)(hm:m<16)(hc:e.code m x=0):(e.get m x).reg m=(e.regTo m x).use x∧(e.get m x).p=(if (e.reg m).more x then e.p.take else e.p)∧(e.get m x).rs=e.rs.set m ((e.regTo m x).use x):=by
 have hrs:(e.get m x).rs=e.rs.set m ((e.regTo m x).use x):=EI;refine ⟨?_,by unfold EstS.get;rw [if_pos hc],hrs⟩;have e1:e.get m x=⟨(e.get m x).p,e.rs.set m ((e.regTo m x).use x)⟩:=(by rw [←hrs]);rw [e1,gd ok hm,if_pos rfl]
theorem WHR.addr (H:WHR φ h e){r t:Nat}{x:Thg}(ht:Pu h r t x):0≤φ.a r t∧φ.a r t+x.size≤((e.p.n*16:Nat):Int)∧φ.a r t+x.size≤1024:=by
 obtain ⟨q,h1,h2,h3⟩:=H.at_ r t x ht;have hs:=(H.live r ht.1).1;obtain ⟨g1,g2,_⟩:=pM H.ok hs h1;have:=lX H.ok hs (q:=q);have:=H.ok.n64;omega
theorem QfZ {x:Int}(h0:h.code v x=0):¬((h.reg v.region).more x=true∧h.left=0):=by
 intro hc;unfold HpS.code at h0;split at h0
 · cases h0
 · simp [hc] at h0
theorem uK {r:Nat}{x:Int}(hv:v.region=r)(h0:h.code v x=0)(q:Int):
 h.put v x t=⟨h.l.set r (((h.reg r).room x).push t),if (h.reg r).more x then h.left - 1 else h.left⟩∧(h.put v x t).reg q=if q=r then ((h.reg r).room x).push t else h.reg q:=by
 have e1:h.put v x t=⟨h.l.set r (((h.reg r).room x).push t),if (h.reg r).more x then h.left - 1 else h.left⟩:=(by unfold HpS.put;rw [if_pos h0,hv,FJ]);refine ⟨e1,?_⟩;have hr:h.has r=true:=(by rw [←hv];have hc:=mf (h:=h) (v:=v) (x:=x) Jo;unfold HpS.can at hc;rw [Fj] at hc;exact hc.2);rw [e1,Go.Lir.reg_set (left':=h.left) (by have:=(ka hr).2;omega)]
theorem WHR.put (H:WHR φ h e)(hv:Np φ h v n){x:Int}(hs:t.size=x)(hx:x≤16)(h0:h.code v x=0)(hkd:kd=3∨kd=4){e2:EstS}(ok2:e2.Ok)(hrs:e2.rs=(e.get n x).rs)(hfr:e2.p.fr=(e.get n x).p.fr)
 (hw:∀i,¬(e.getV n x≤i∧i<e.getV n x+x)→e2.word i=(e.get n x).word i)(hl:SD φ h e2 (e.getV n x) t):∃φ',WHR φ' (h.put v x t) e2∧Mz φ h φ' (h.put v x t)∧Np φ' (h.put v x t) (h.putV v kd x) (e.getV n x):=by
 have hx1:1≤x:=hs ▸ uJ t;have hcan:=mf (h:=h) (v:=v) (x:=x) Jo;have hc0:e.code n x=0:=(H.code hv hcan ⟨hx1,hx⟩).trans h0;obtain ⟨r0,hr0,hh0,rfl,hlt0⟩:=H.slot hv hcan;obtain ⟨hm,hth0,hpg,hus⟩:=H.live r0 hh0;obtain ⟨P,u,G⟩:=jW H.ok hm hc0;obtain ⟨gr1,gp1,grs⟩:=Qce H.ok hm hc0;have hux:=G.ux;have hmo:=more_iff (h:=h) (e:=e) hpg hus x;have e1:=(uK (t:=t) hr0 h0 0).1;have hrg:∀q:Int,(h.put v x t).reg q=if q=r0 then ((h.reg r0).room x).push t else h.reg q:=fun q=>(uK hr0 h0 q).2
 have hroom:((h.reg r0).room x).there=(h.reg r0).there∧((h.reg r0).room x).l=(h.reg r0).l:=by unfold Rgn.room;split<;>exact ⟨rfl,rfl⟩
 have hhas:∀q:Int,(h.put v x t).has q=h.has q:=fun q=>by
  unfold HpS.has;rw [hrg];by_cases hq:q=r0
  · rw [if_pos hq,hq];exact hroom.1
  · rw [if_neg hq]
 have hl0:((h.put v x t).reg r0).l=(h.reg r0).l++[t]:=(by rw [hrg,if_pos rfl];show ((h.reg r0).room x).l++[t]=_;rw [hroom.2]);have hln:∀q:Int,q≠r0→(h.put v x t).reg q=h.reg q:=fun q hq=>by rw [hrg,if_neg hq]
 have hreg:∀k:Nat,e2.reg k=if k=φ.σ r0 then (e.regTo (φ.σ r0) x).use x else e.reg k:=fun k=>by
  have:e2.reg k=(e.get (φ.σ r0) x).reg k:=(by unfold EstS.reg;rw [hrs]);rw [this];have e3:e.get (φ.σ r0) x=⟨(e.get (φ.σ r0) x).p,e.rs.set (φ.σ r0) ((e.regTo (φ.σ r0) x).use x)⟩:=(by rw [←grs]);rw [e3,gd H.ok hm]
 have hA:e.getV (φ.σ r0) x=P*16+u:=G.v;have hthere:(e.regTo (φ.σ r0) x).there=true:=by unfold EstS.regTo;split<;>exact hth0
 -- what is old lies apart, and stays
 have hold:∀(r t0:Nat) (x0:Thg),Pu h r t0 x0→(φ.a r t0+x0.size≤e.getV (φ.σ r0) x∨e.getV (φ.σ r0) x+x≤φ.a r t0)∧∀i,φ.a r t0≤i→i<φ.a r t0+x0.size→e2.word i=e.word i:=fun r t0 x0 ht=>by
  obtain ⟨q,q1,q2,q3⟩:=H.at_ r t0 x0 ht;have hsr:=(H.live r ht.1).1;have hlq:=lX H.ok hsr (q:=q)
  have hap:φ.a r t0+x0.size≤e.getV (φ.σ r0) x∨e.getV (φ.σ r0) x+x≤φ.a r t0:=by
   rw [hA];by_cases hq:q=P
   · by_cases hp:P∈(e.reg (φ.σ r0)).pages
     · have:=pK H.ok hsr hm q1 (by rw [hq];exact hp);obtain ⟨h6,h7⟩:=G.old hp;have h8:(e.reg (φ.σ r)).lim q=u:=(by rw [this];unfold Reg.lim;rw [if_pos (hq.trans h6),h7]);left;omega
     · exact absurd q1 (by rw [hq];exact G.new hp _ hsr)
   · omega
  refine ⟨hap,fun i i1 i2=>?_⟩;rw [hw i Jo];show (e.get (φ.σ r0) x).p.word i=e.p.word i;by_cases hi:P*16≤i∧i<P*16+16
  · by_cases hp:P∈(e.reg (φ.σ r0)).pages
    · rw [G.wo hp]
    · have hq:q=P:=Df;exact absurd q1 (by rw [hq];exact G.new hp _ hsr)
  · exact G.w i hi
 have hth:∀(r t0:Nat) (x0:Thg),Pu (h.put v x t) r t0 x0→(r=r0∧t0=(h.reg r0).l.length∧x0=t)∨(¬(r=r0∧t0=(h.reg r0).l.length)∧Pu h r t0 x0):=fun r t0 x0 ht=>by
  obtain ⟨h1,h2⟩:=ht;rw [hhas] at h1;by_cases hr:r=r0
  · subst hr
    rw [hl0] at h2;by_cases h3:t0<(h.reg r).l.length
    · rw [Fg h3] at h2;exact .inr ⟨Jo,h1,h2⟩
    · rw [Ff Jo] at h2
      cases h4:t0 - (h.reg r).l.length with
      | zero=>rw [h4] at h2;simp at h2;exact .inl ⟨rfl,Jo,h2.symm⟩
      | succ j=>rw [h4] at h2;simp at h2
  · rw [hln _ Jo] at h2;exact .inr ⟨fun hc=>hr hc.1,h1,h2⟩
 have hlen:(h.put v x t).l.length=h.l.length:=by rw [e1];exact FL
 have hM:Mz φ h ⟨φ.σ,fun r j=>if r=r0∧j=(h.reg r0).l.length then e.getV (φ.σ r0) x else φ.a r j⟩ (h.put v x t):=fun w m hw=>by
  refine ⟨hw.1,fun hk=>?_,fun hk hh=>hw.2.2.1 hk DY,fun hk hh=>?_⟩
  · rw [hlen];exact hw.2.1 hk
  · obtain ⟨g1,g2,g3⟩:=hw.2.2.2 hk DY
    have hrn:=hw.2.1 Jo;show _∧_∧m=if w.region.toNat=r0∧w.thing.toNat=(h.reg r0).l.length then _ else _
    by_cases hr:w.region=r0
    · rw [hr] at g2;rw [if_neg Jo,hr,hl0,Fc];refine ⟨g1,by simp;omega,?_⟩;rw [←hr];exact g3
    · rw [if_neg Jo,hln _ hr];exact ⟨g1,g2,g3⟩
 have hlast:(e2.reg (φ.σ r0)).last=P:=by
  rw [hreg,if_pos rfl,←gr1];exact G.last
 have hused:(e2.reg (φ.σ r0)).used=u+x:=by
  have:=G.reg H.ok hm (k:=φ.σ r0);rw [if_pos rfl] at this;rw [hreg,if_pos rfl,←gr1,this]
 have hmem:∀q,q=P∨q∈(e.reg (φ.σ r0)).pages→q∈(e2.reg (φ.σ r0)).pages:=fun q hq=>by
  rw [hreg,if_pos rfl,←gr1];rcases hq with rfl|hq
  · exact G.mem
  · exact G.sub q hq
 have hz:∀k:Nat,k<16→(e2.reg k).pages≠[]→∀j:Int,(e2.reg k).used≤j→j<16→e2.p.word ((e2.reg k).last*16+j)=0:=fun k hk hp j h1 h2=>by
  by_cases hkm:k=φ.σ r0
  · subst hkm
    rw [hused] at h1;rw [hlast];have h3:=hw (P*16+j) (by rw [hA];omega);refine h3.trans ?_;by_cases hpp:P∈(e.reg (φ.σ r0)).pages
    · obtain ⟨h6,h7⟩:=G.old hpp;show (e.get (φ.σ r0) x).p.word _=0;rw [G.wo hpp,h6];exact H.z _ hm EH j Jo h2
    · exact G.wz hpp _ Jo
  · have hr:e2.reg k=e.reg k:=by rw [hreg,if_neg hkm]
    rw [hr] at hp h1 ⊢;have hl2:=pL hp
    have hne:(e.reg k).last≠P:=by
     intro h9;by_cases hpp:P∈(e.reg (φ.σ r0)).pages
     · exact hkm (pK H.ok hk hm (h9 ▸ hl2) hpp)
     · exact G.new hpp k hk (h9 ▸ hl2)
    have:=Hy H.ok hk;have h3:=hw ((e.reg k).last*16+j) (by rw [hA];omega);refine h3.trans ?_;exact (G.w _ Jo).trans (H.z k hk hp j h1 h2)
 refine ⟨⟨φ.σ,fun r j=>if r=r0∧j=(h.reg r0).l.length then e.getV (φ.σ r0) x else φ.a r j⟩,⟨ok2,?_,?_,?_,?_,hz,?_,?_,?_⟩,hM,?_⟩
 · rw [e1,hfr,gp1]
   show (if (h.reg r0).more x=true then h.left - 1 else h.left)=_;rw [←hmo];have h4:=H.left;by_cases hc:(e.reg (φ.σ r0)).more x=true
   · rw [if_pos hc,if_pos hc];have h5:=QfZ h0;rw [hr0,←hmo] at h5;have h6:e.p.fr≠[]:=fun h7=>h5 ⟨hc,by rw [h4,h7];rfl⟩;unfold PoolS.take;rw [if_neg h6,List.length_dropLast];have:0<e.p.fr.length:=Hn.2 h6;omega
   · rw [if_neg hc,if_neg hc];exact h4
 · have h3:=qp (p:=fun r:Reg=>r.there) (r':=(e.regTo (φ.σ r0) x).use x) (Gw H.ok hm);have h5:=cr (r':=((h.reg r0).room x).push t) (Rx hh0).2.2.1;rw [hth0,show ((e.regTo (φ.σ r0) x).use x).there=true from hthere] at h3;rw [(Rx hh0).2.2.2,show (((h.reg r0).room x).push t).there=true from hroom.1.trans (Rx hh0).2.2.2] at h5;have h4:=H.cnt;unfold EstS.count HpS.live at h4 ⊢;rw [hrs,grs,e1];simp only [FJ,if_true] at h3 h5 ⊢;omega
 · intro r hr
   rw [hhas] at hr;show φ.σ r<16∧(e2.reg (φ.σ r)).there=true∧((e2.reg (φ.σ r)).pages.length:Int)=_∧(e2.reg (φ.σ r)).used=_;obtain ⟨g1,g2,g3,g4⟩:=H.live r hr;refine ⟨g1,?_⟩;by_cases hrr:r=r0
   · subst hrr
     rw [hreg,if_pos rfl,hrg,if_pos rfl];refine ⟨hthere,?_⟩;unfold EstS.regTo Rgn.room;rw [←hmo];by_cases hc:(e.reg (φ.σ r)).more x=true
     · rw [if_pos hc,if_pos hc]
       refine ⟨?_,?_⟩
       · show (((e.reg (φ.σ r)).pages++[e.p.top]).length:Int)=(h.reg r).pages+1;rw [Fc];simp;omega
       · show 0+x=x;omega
     · rw [if_neg hc,if_neg hc];exact ⟨g3,by show (e.reg (φ.σ r)).used+x=(h.reg r).used+x;omega⟩
   · rw [hreg,if_neg (fun hc=>hrr (H.inj r r0 hr hh0 hc)),hln _ Jo];exact ⟨g2,g3,g4⟩
 · intro r q hr hq hs;rw [hhas] at hr hq;exact H.inj r q hr hq hs
 · intro r t0 x0 hx0
   show∃q,q∈(e2.reg (φ.σ r)).pages∧q*16≤(if r=r0∧t0=(h.reg r0).l.length then e.getV (φ.σ r0) x else φ.a r t0)∧(if r=r0∧t0=(h.reg r0).l.length then e.getV (φ.σ r0) x else φ.a r t0)+x0.size≤q*16+(e2.reg (φ.σ r)).lim q;rcases hth r t0 x0 hx0 with ⟨g1,g2,g3⟩|⟨g1,g2⟩
   · subst g1;rw [if_pos ⟨rfl,g2⟩,g3,hs,hA];refine ⟨P,hmem P (.inl rfl),Jo,?_⟩;unfold Reg.lim;rw [if_pos hlast.symm,hused];omega
   · rw [if_neg g1]
     obtain ⟨q,q1,q2,q3⟩:=H.at_ r t0 x0 g2;by_cases hrr:r=r0
     · subst hrr
       refine ⟨q,hmem q (.inr q1),q2,?_⟩;have hle:=lX H.ok hm (q:=q);unfold Reg.lim;rw [hlast,hused];by_cases hq:q=P
       · rw [if_pos hq]
         by_cases hp:P∈(e.reg (φ.σ r)).pages
         · obtain ⟨h6,h7⟩:=G.old hp;have h8:(e.reg (φ.σ r)).lim q=u:=(by unfold Reg.lim;rw [if_pos (hq.trans h6),h7]);omega
         · exact absurd q1 (by rw [hq];exact hp)
       · rw [if_neg hq];omega
     · have hr:e2.reg (φ.σ r)=e.reg (φ.σ r):=(by rw [hreg,if_neg (fun hc=>hrr (H.inj r r0 g2.1 hh0 hc))]);rw [hr];exact ⟨q,q1,q2,q3⟩
 · intro r t0 x0 r' t0' x0' hx0 hx0' hn
   show (if r=r0∧t0=(h.reg r0).l.length then e.getV (φ.σ r0) x else φ.a r t0)+x0.size≤(if r'=r0∧t0'=(h.reg r0).l.length then e.getV (φ.σ r0) x else φ.a r' t0')∨(if r'=r0∧t0'=(h.reg r0).l.length then e.getV (φ.σ r0) x else φ.a r' t0')+x0'.size≤(if r=r0∧t0=(h.reg r0).l.length then e.getV (φ.σ r0) x else φ.a r t0);rcases hth r t0 x0 hx0 with ⟨g1,g2,g3⟩|⟨g1,g2⟩
   · rcases hth r' t0' x0' hx0' with ⟨k1,k2,k3⟩|⟨k1,k2⟩
     · exact absurd ⟨Jo,Jo⟩ hn
     · rw [if_pos ⟨g1,g2⟩,if_neg k1,g3,hs];exact ((hold _ _ _ k2).1).symm
   · rcases hth r' t0' x0' hx0' with ⟨k1,k2,k3⟩|⟨k1,k2⟩
     · rw [if_neg g1,if_pos ⟨k1,k2⟩,k3,hs];exact (hold _ _ _ g2).1
     · rw [if_neg g1,if_neg k1];exact H.apart _ _ _ _ _ _ g2 k2 hn
 · intro r t0 x0 hx0
   show SD _ _ e2 (if r=r0∧t0=(h.reg r0).l.length then e.getV (φ.σ r0) x else φ.a r t0) x0;rcases hth r t0 x0 hx0 with ⟨g1,g2,g3⟩|⟨g1,g2⟩
   · rw [if_pos ⟨g1,g2⟩,g3];exact hM.lies (fun _ _ _=>rfl) hl
   · rw [if_neg g1];exact hM.lies (hold _ _ _ g2).2 (H.lies _ _ _ g2)
 · have ev:h.putV v kd x=⟨kd,v.region,(h.reg v.region).l.length,0⟩:=by unfold HpS.putV;rw [if_pos h0]
   rw [ev,hr0];refine ⟨fun hk=>by simp at hk;omega,fun _=>⟨by simp,by rw [hlen];show (r0:Int) < _;omega⟩,fun hk=>by simp at hk;omega,fun _ _=>⟨by simp,?_,?_⟩⟩
   · show ((h.reg r0).l.length:Int)<(((h.put v x t).reg r0).l.length:Int);rw [hl0];simp;omega
   · show e.getV (φ.σ r0) x=if (r0:Int).toNat=r0∧(((h.reg r0).l.length:Nat):Int).toNat=(h.reg r0).l.length then _ else _
     rw [if_pos ⟨Jo,Jo⟩]
end
section
variable {φ:RMap}{h:HpS}{e:EstS}{v:Val}{n:Int}
theorem dX {p:Nat×Nat}(ha:h.at_ v=some p):(v.kind=3∨v.kind=4)∧h.has v.region=true∧v.region=p.1∧v.thing=p.2∧Pu h p.1 p.2 (h.thg p.1 p.2)∧(h.thg p.1 p.2).array=decide (v.kind=4):=by
 unfold HpS.at_ at ha;split at ha
 · rename_i hc;obtain ⟨h1,h2,h3,h4,h5⟩:=hc;cases ha;have hr:=(ka h2).1;refine ⟨h1,h2,by show v.region=(v.region.toNat:Int);omega,by show v.thing=(v.thing.toNat:Int);omega,⟨by rw [FO hr];exact h2,?_⟩,h5⟩;unfold HpS.thg;rw [FO hr,E9,E7 Jo];rfl
 · cases ha
theorem WHR.place (H:WHR φ h e)(hv:Np φ h v n){p:Nat×Nat}(ha:h.at_ v=some p):n=φ.a p.1 p.2∧Pu h p.1 p.2 (h.thg p.1 p.2)∧(h.thg p.1 p.2).array=decide (v.kind=4):=by
 obtain ⟨h1,h2,h3,h4,h5,h6⟩:=dX ha;refine ⟨?_,h5,h6⟩;have:=(hv.2.2.2 h1 h2).2.2;rw [h3,h4] at this;exact this
theorem WHR.get (H:WHR φ h e)(hv:Np φ h v n){k:Int}(hg:(h.get v k).2=0):∃o:Int,o=(if v.kind=4 then 1 else 0)∧0≤n∧0≤k∧n+o+k<1024∧Np φ h (h.get v k).1 (e.word (n+o+k)):=by
 unfold HpS.get at hg ⊢
 cases ha:h.at_ v with
 | none=>rw [ha] at hg;cases hg
 | some p=>
   rw [ha] at hg;obtain ⟨rfl,ht,hk⟩:=H.place hv ha;obtain ⟨g1,g2,g3⟩:=H.addr ht;simp only at hg ⊢;split at hg
   · rename_i hc
     rw [if_pos hc];have ho:(h.thg p.1 p.2).off=if v.kind=4 then 1 else 0:=by unfold Thg.off;rw [hk];simp
     have hsz:(h.thg p.1 p.2).off+(h.thg p.1 p.2).l.length≤(h.thg p.1 p.2).size:=D4;refine ⟨_,ho,g1,hc.1,?_,?_⟩
     · omega
     · have hlen:k.toNat<(h.thg p.1 p.2).l.length:=Df;have h1:=(H.lies _ _ _ ht).2 k.toNat ((h.thg p.1 p.2).l.getD k.toNat Val.zero) (by rw [E9,E7 hlen];rfl);rw [FO hc.1] at h1;exact h1
   · cases hg
theorem WHR.len (H:WHR φ h e)(hv:Np φ h v n)(hk:v.kind=4)(hg:(h.len v).2=0):e.word n=(h.len v).1∧0≤n∧n+1+(h.len v).1≤1024∧∀k,(h.get v k).2=if 0≤k∧k<(h.len v).1 then 0 else 1:=by
 unfold HpS.len at hg ⊢;unfold HpS.get
 cases ha:h.at_ v with
 | none=>rw [ha] at hg;cases hg
 | some p=>
   obtain ⟨rfl,ht,hk2⟩:=H.place hv ha;obtain ⟨g1,g2,g3⟩:=H.addr ht;have har:(h.thg p.1 p.2).array=true:=(by rw [hk2];simp [hk]);have hsz:(h.thg p.1 p.2).size=1+(h.thg p.1 p.2).l.length:=(by unfold Thg.size;rw [if_pos har]);refine ⟨(H.lies _ _ _ ht).1 har,g1,by simp only;omega,fun k=>?_⟩;simp only;split<;>rfl
theorem dY {k:Int}(hg:(h.get v k).2≠20):(h.len v).2=0:=by
 unfold HpS.get at hg;unfold HpS.len
 cases ha:h.at_ v with
 | none=>rw [ha] at hg;exact absurd rfl hg
 | some p=>rfl
theorem Y5 {k:Int}{y:Val}(hg:h.setC v k y≠20):(h.len v).2=0:=by
 unfold HpS.setC at hg;unfold HpS.len
 cases ha:h.at_ v with
 | none=>rw [ha] at hg;exact absurd rfl hg
 | some p=>rfl
theorem VQ (hk:v.kind=4){k:Int}{y:Val}(hg:h.setC v k y≠20):h.setC v k y=if 0≤k∧k<(h.len v).1 then 0 else 1:=by
 unfold HpS.setC at hg ⊢;unfold HpS.len
 cases ha:h.at_ v with
 | none=>rw [ha] at hg;exact absurd rfl hg
 | some p=>
   rw [ha] at hg;simp only at hg ⊢;split at hg
   · exact absurd rfl hg
   · rename_i hc;rw [if_neg hc]
theorem WHR.set (H:WHR φ h e)(hv:Np φ h v n){k ny:Int}{y:Val}(hy:Np φ h y ny)(hg:h.setC v k y=0):∃o:Int,o=(if v.kind=4 then 1 else 0)∧0≤n∧0≤k∧n+o+k<1024∧WHR φ (h.set v k y) (e.store (n+o+k) ny)∧Mz φ h φ (h.set v k y):=by
 have hg0:=hg;unfold HpS.setC at hg;unfold HpS.set;rw [hg0]
 cases ha:h.at_ v with
 | none=>rw [ha] at hg;cases hg
 | some p =>
   rw [ha] at hg;obtain ⟨rfl,ht,hk⟩:=H.place hv ha;obtain ⟨g1,g2,g3⟩:=H.addr ht;obtain ⟨r,t⟩:=p;simp only at hg ht hk g1 g2 g3 hv ⊢;split at hg
   · cases hg
   · split at hg
     · rename_i hc
       rw [if_pos trivial];have ho:(h.thg r t).off=if v.kind=4 then 1 else 0:=by unfold Thg.off;rw [hk];simp
       have hsz:(h.thg r t).off+(h.thg r t).l.length≤(h.thg r t).size:=D4;have ho0:0≤(h.thg r t).off:=(by unfold Thg.off;split<;>omega);have hrg:∀q:Int,(⟨h.l.set r ((h.reg r).upd t ((h.thg r t).upd k.toNat y)),h.left⟩:HpS).reg q=if q=r then (h.reg r).upd t ((h.thg r t).upd k.toNat y) else h.reg q:=fun q=>Go.Lir.reg_set (left':=h.left) (by have:=(ka ht.1).2;omega) q
       have hhas:∀q:Int,(⟨h.l.set r ((h.reg r).upd t ((h.thg r t).upd k.toNat y)),h.left⟩:HpS).has q=h.has q:=fun q=>by
        unfold HpS.has;rw [hrg];by_cases hq:q=r
        · rw [if_pos hq,hq];rfl
        · rw [if_neg hq]
       have hlen:∀q:Int,((⟨h.l.set r ((h.reg r).upd t ((h.thg r t).upd k.toNat y)),h.left⟩:HpS).reg q).l.length=(h.reg q).l.length:=fun q=>by
        rw [hrg];by_cases hq:q=r
        · rw [if_pos hq,hq];show ((h.reg r).l.set t _).length=_;rw [FL]
        · rw [if_neg hq]
       have hM:Mz φ h φ ⟨h.l.set r ((h.reg r).upd t ((h.thg r t).upd k.toNat y)),h.left⟩:=fun u m hu=>by
        refine ⟨hu.1,fun hk=>?_,fun hk hh=>hu.2.2.1 hk DY,fun hk hh=>?_⟩
        · simp only [FL];exact hu.2.1 hk
        · rw [hlen];exact hu.2.2.2 hk DY
       have hreg:∀q:Int,q≠r→(⟨h.l.set r ((h.reg r).upd t ((h.thg r t).upd k.toNat y)),h.left⟩:HpS).reg q=h.reg q:=fun q hq=>by rw [hrg,if_neg hq]
       have hth:∀(r' t':Nat) (x:Thg),Pu ⟨h.l.set r ((h.reg r).upd t ((h.thg r t).upd k.toNat y)),h.left⟩ r' t' x→(r'=r∧t'=t∧x=(h.thg r t).upd k.toNat y)∨(¬(r'=r∧t'=t)∧Pu h r' t' x):=fun r' t' x hx=>by
        obtain ⟨h1,h2⟩:=hx;rw [hhas] at h1;by_cases hr:r'=r
        · subst hr
          rw [hrg,if_pos rfl] at h2;have h2:((h.reg r').l.set t ((h.thg r' t).upd k.toNat y))[t']?=some x:=h2;by_cases ht':t'=t
          · subst ht';rw [GN (E8.1 ht.2).1] at h2;cases h2;exact .inl ⟨rfl,rfl,rfl⟩
          · rw [G3 (Ir ht')] at h2;exact .inr ⟨fun hc=>ht' hc.2,h1,h2⟩
        · rw [hreg _ Jo] at h2;exact .inr ⟨fun hc=>hr hc.1,h1,h2⟩
       have hsame:∀(r' t':Nat) (x:Thg),Pu ⟨h.l.set r ((h.reg r).upd t ((h.thg r t).upd k.toNat y)),h.left⟩ r' t' x→∃x0,Pu h r' t' x0∧x0.size=x.size:=fun r' t' x hx=>by
        rcases hth r' t' x hx with ⟨rfl,rfl,rfl⟩|⟨_,hx⟩
        · exact ⟨_,ht,by unfold Thg.size Thg.upd L9;simp⟩
        · exact ⟨x,hx,rfl⟩
       have hin:e.p.isIn (φ.a r t+(h.thg r t).off+k)=true:=Mh.2 Jo;have hw:∀i,(e.store (φ.a r t+(h.thg r t).off+k) ny).word i=if i=φ.a r t+(h.thg r t).off+k then ny else e.word i:=pJ H.ok.pok hin
       refine ⟨_,ho,g1,hc.1,Jo,?_⟩;refine ⟨⟨VO H.ok _ _,by show h.left=((e.p.store _ _).fr.length:Int);rw [HV];exact H.left,?_,fun r' hr'=>?_,fun r' q hr hq hs=>H.inj r' q (by rw [←hhas];exact hr) (by rw [←hhas];exact hq) hs,fun k' hk' hp j h1 h2=>?_,fun r' t' x hx=>?_,fun r' t' x r2 t2 x2 hx hx2 hn=>?_,fun r' t' x hx=>?_⟩,hM⟩
       · have h5:=cr (r':=(h.reg r).upd t ((h.thg r t).upd k.toNat y)) (Rx ht.1).2.2.1;rw [show ((h.reg r).upd t ((h.thg r t).upd k.toNat y)).there=(h.reg r).there from rfl] at h5;have h4:=H.cnt;unfold HpS.live at h4 ⊢;simp only [FJ] at h5 ⊢;(have h6:∀q:EstS,q.rs=e.rs→q.count=e.count:=fun q hq=>by unfold EstS.count;rw [hq]);rw [h6 (e.store _ _) rfl];omega
       · rw [hhas] at hr'
         obtain ⟨k1,k2,k3,k4⟩:=H.live r' hr';refine ⟨k1,k2,?_⟩;rw [hrg];by_cases hq:(r':Int)=r
         · rw [if_pos hq,←hq];exact ⟨k3,k4⟩
         · rw [if_neg hq];exact ⟨k3,k4⟩
       · have h3:=hw ((e.reg k').last*16+j)
         refine h3.trans ?_;obtain ⟨q,q1,q2,q3⟩:=H.at_ r t _ ht;have hs:=(H.live r ht.1).1;have hlq:=lX H.ok hs (q:=q);have hu:=Hy H.ok hk';have h1:(e.reg k').used≤j:=h1;have hp:(e.reg k').pages≠[]:=hp;rw [if_neg]
         · exact H.z k' hk' hp j h1 h2
         · intro hc2;have hqe:q=(e.reg k').last:=Df;have hkk:=pK H.ok hs hk' q1 (hqe ▸ pL hp);have:(e.reg (φ.σ r)).lim q=(e.reg (φ.σ r)).used:=(by unfold Reg.lim;rw [if_pos (by rw [hqe,hkk])]);rw [hkk] at this q3;omega
       · obtain ⟨x0,hx0,hs0⟩:=hsame r' t' x hx;rw [←hs0];exact H.at_ r' t' x0 hx0
       · obtain ⟨x0,hx0,hs0⟩:=hsame r' t' x hx;obtain ⟨y0,hy0,hs1⟩:=hsame r2 t2 x2 hx2;rw [←hs0,←hs1];exact H.apart _ _ _ _ _ _ hx0 hy0 hn
       · rcases hth r' t' x hx with ⟨rfl,rfl,rfl⟩|⟨hn,hx⟩
         · have hl:=H.lies _ _ _ ht
           refine ⟨fun har=>?_,fun i u hu=>?_⟩
           · have har':(h.thg r' t').array=true:=har;rw [hw,if_neg (by unfold Thg.off;rw [if_pos har'];omega)];rw [hl.1 har'];show ((h.thg r' t').l.length:Int)=(((h.thg r' t').l.set k.toNat y).length:Int);rw [FL]
           · have hu:((h.thg r' t').l.set k.toNat y)[i]?=some u:=hu
             show Np φ _ u ((e.store _ ny).word (φ.a r' t'+(h.thg r' t').off+i));rw [hw];by_cases hik:i=k.toNat
             · subst hik;rw [GN Jo] at hu;cases hu;rw [if_pos Jo];exact hM _ _ hy
             · rw [G3 (Ir hik)] at hu;rw [if_neg Jo];exact hM _ _ (hl.2 i u hu)
         · have hap:=H.apart _ _ _ _ _ _ hx ht hn;refine hM.lies (e:=e) (fun i i1 i2=>?_) (H.lies _ _ _ hx);rw [hw,if_neg Jo]
     · cases hg
end
end Go.Proofs.YteflkifmgnpbhaaGreat
