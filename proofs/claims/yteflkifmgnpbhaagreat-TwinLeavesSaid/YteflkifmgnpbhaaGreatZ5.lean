/- Lemmas of the proof, part 5: what the functions of the program do (contracts), and what follows. -/
import Derived.Test.YteflkifmgnpbhaaGreatZ2
import Derived.Test.YteflkifmgnpbhaaGreatZ4
import Derived.Test.YteflkifmgnpbhaaGreatZ3
namespace Go.Proofs.YteflkifmgnpbhaaGreat
open Go.Lir
set_option maxHeartbeats 1000000
attribute [local irreducible] LC.wp Q0 Qk Qh retQ Qt LO.wp Q4 Calls
set_option linter.unusedSimpArgs false
set_option linter.unusedVariables false
variable {cx:Cx}{w:World}{L:List Res}{p:Nat}{c:RC}{fr:List RFV}{g:RFV}{s:EstS}{out inp:List Int}{fu:Nat}{m:Module}
def QgE (m:Module) (p:Nat) (c:RC) (fr:List RFV) (g:RFV) (s:EstS) (inp out:List Int) (fu:Nat) (cx:Cx) (L:List Res) (u:Value) (w':World):Prop:=
 u = .tuple #[]∧((c.fu=c.mo∧St cx w' (rS p (c.over 7) fr g s out L))∨(c.fu≠c.mo∧(ROk p c.tick s out fu ((rsOf s g fr inp out fu).one m) cx L (.tuple #[]) w'∨
   ∃e,(rsOf s g fr inp out fu).one m= .halt e∧∃fr' g',St cx w' (rS p (c.tick.over e) fr' g' s out L))))
theorem rone_i {f:Fun}{b:Block}{x:Ins}(hf:m.funcs[g.f]?=some f) (hb:f.blocks[g.b]?=some b) (hx:b.code[g.i]?=some x):(rsOf s g fr inp out fu).one m=(rsOf s g.nx fr inp out fu).ins m x:=by
 unfold RS.one
 rw [show m.funcs[(rsOf s g fr inp out fu).g.f]?=some f from hf];simp only
 rw [show f.blocks[(rsOf s g fr inp out fu).g.b]?=some b from hb];simp only
 rw [show b.code[(rsOf s g fr inp out fu).g.i]?=some x from hx];rfl
theorem rone_e {f:Fun}{b:Block}(hf:m.funcs[g.f]?=some f) (hb:f.blocks[g.b]?=some b) (hx:b.code.length≤g.i):(rsOf s g fr inp out fu).one m=(rsOf s g fr inp out fu).fin b.fin:=by
 unfold RS.one
 rw [show m.funcs[(rsOf s g fr inp out fu).g.f]?=some f from hf];simp only
 rw [show f.blocks[(rsOf s g fr inp out fu).g.b]?=some b from hb];simp only
 rw [show b.code[(rsOf s g fr inp out fu).g.i]?=none from List.getElem?_eq_none hx]
attribute [local irreducible] RS.ins RS.fin RS.one RGo RBad ROk RDone
theorem rwstep_c {f:Fun}{b:Block}(hdn:c.dn=false) (hfn:funcR.sl cx c.fn m.funcs) (hi:intR.sl cx c.iv inp) (hfx:m.funcs[g.f]?=some f) (hbx:f.blocks[g.b]?=some b) (hci:∀x∈b.code,QcV m x) (hce:Qex f b.fin) (hgi:g.i≤1000) (hf:fr.length≤900) (hn:g.vals.length≤800000) (hfr:∀x∈fr,x.vals.length≤900000) (hol:out.length≤2000) (hfu:0≤c.fu∧c.fu≤10000000) (hX0:(rsOf s g fr inp out fu).one m≠ .crash) (hS:St cx w (rS p c fr g s out L)):
 Rets Tryz.prog Q4d [.pointer (some ⟨p,0,none⟩)] w (QgE m p c fr g s inp out fu cx L):=by
 have hgf:=(List.getElem?_eq_some_iff.1 hfx).1
 have hgb:=(List.getElem?_eq_some_iff.1 hbx).1
 unfold QgE
 all_goals refine lgd tyD Tryz.func37 ?_
 all_goals (refine QaD ?_;refine d_pl ?_;refine Q10 ?_;refine zb hS ?_;intro p1 w1 hS;refine zn ?_;refine QaD ?_;refine d_pl ?_;refine Zaa ?_;refine zl hS ?_;refine znc ?_;refine zf0 ?_;refine zl hS ?_;rw [hdn];refine zn ?_)
 all_goals refine zcf ?_
 all_goals (refine zsk ?_;refine QaD ?_;refine d_sp ?_;refine Qb2 ?_;refine zn ?_;refine ⟨_,_,rfl,?_⟩;refine zn ?_;refine d_pl ?_;refine QB ?_;refine zD (ci 11 [10]) ?_;have hS:=hS.drew;refine zl hS ?_;refine znc ?_;refine zf0 ?_;refine Yad ?_;refine zl hS ?_;refine zl hS ?_;refine znc ?_;refine zf0 ?_;refine zl hS ?_)
 all_goals (first|(refine Ql ?_)|(refine Qo ?_)|(refine Q8 rfl rfl (fun hc=> ?_) (fun hc=> ?_)))
 all_goals (first|(refine zR2 (c:=Q3W hS) (h:=?_);rintro v1 w1 ⟨rfl,hS⟩)|(refine zE2 (c:=Q3V hS) (p:=by rintro v9 w9 ⟨rfl,hS⟩;(repeat (first|refine Q2 ?_|refine Q3 ?_|refine fun _=> ?_));refine Qdk ?_;refine Q2t (by intro h;cases h) (by kernel_rfl) (Qde (c:=c) (show St cx _ (catM p p1::blk p 66 c.cells::_) from hS.sp)) ?_;rintro u' w' ⟨rfl,hS⟩;refine Q1Z ?_;refine Qbd ?_;exact ⟨_,rfl,rfl, .inl ⟨by omega,hS.sp⟩⟩) (h:=fun _ _ h=> h.elim)))
 all_goals (refine Zal ?_;have hmo:c.fu≠c.mo:=(by omega);refine Q10 ?_;refine zl hS ?_;refine znc ?_;refine zf0 ?_;refine Yad ?_;refine zl hS ?_;refine zad ?_;refine znc ?_;refine zf0 ?_;refine Yad ?_;refine zst hS ?_;intro w1 hS;have hS:=hS.ns;refine ZaD ?_;refine zl hS ?_;have hS:St cx _ (rS p c.tick fr g s out (catM p p1::L)):=hS.sp;refine zR1 (c:=Q5e (by omega) hS) (h:=?_);rintro v1 w1 ⟨b9,o9,rfl,hel,hS⟩;refine ZaF ?_;refine zC [(0,none),(1,none),(2,none),(3,none),(4,none),(5,none),(6,none),(7,none),(8,none),(9,none),(10,none),(11,none),(12,none),(13,none),(14,none),(15,none),(16,none),(17,none),(18,some (some [0,4,8,11,15,17])),(19,some none)] ?_;have hS:=hS.drew;refine s_cq ?_;refine zl hS ?_)
 all_goals (refine Zab ?_;refine Zaw ?_;refine zf0 ?_;refine Zbb ?_;refine zl hS ?_;refine Zaq ?_;refine Zbw ?_;refine Qy hS hel rfl fd (Qa fr g) (Qe fr g) rfl ?_;refine Zab ?_;refine zi ?_;intro b8 o8 cs8 x8 hat8 hx8 he8;obtain rfl:x8=f:=Option.some.inj (hx8.symm.trans hfx);obtain ⟨vp8,vr8,vb8,rfl,hp8,hr8,hb8⟩:=QG he8;refine Zbb ?_;refine Yaq ?_;refine Zaq ?_;refine Zbw ?_;refine Q6 (j:=1) hS hel rfl fd (Qa fr g) (Qe fr g) rfl ?_;refine Zab ?_;refine zi ?_;intro b7 o7 cs7 x7 hat7 hx7 he7;obtain rfl:x7=b:=Option.some.inj (hx7.symm.trans hbx);obtain ⟨vp7,vc7,u1,u2,u3,u4,u5,rfl,hp7,hc7,hu1,hu2,hu3,hu4,hu5⟩:=Q1S he7)
 all_goals (refine Zab ?_;refine Yai ?_;refine ZaY ?_;intro p3 w1 hS;refine zt ?_;refine ⟨List.forall_mem_cons.2 ⟨(by first|(first|exact Qm hS hel rfl fd (Qa fr g) (Qe fr g) rfl|exact Qm (j:=0) hS hel rfl fd (Qa fr g) (Qe fr g) rfl|exact Qm (j:=1) hS hel rfl fd (Qa fr g) (Qe fr g) rfl|exact Qm (j:=2) hS hel rfl fd (Qa fr g) (Qe fr g) rfl)|(exact QL hS rfl fd rfl)),List.forall_mem_cons.2 ⟨(by first|(first|exact Qm hS hel rfl fd (Qa fr g) (Qe fr g) rfl|exact Qm (j:=0) hS hel rfl fd (Qa fr g) (Qe fr g) rfl|exact Qm (j:=1) hS hel rfl fd (Qa fr g) (Qe fr g) rfl|exact Qm (j:=2) hS hel rfl fd (Qa fr g) (Qe fr g) rfl)|(exact QL hS rfl fd rfl)),List.forall_mem_cons.2 ⟨(by (exact Qm hS hel rfl fd (Qa fr g) (Qe fr g) rfl)),List.forall_mem_cons.2 ⟨(by first|(first|exact Qm hS hel rfl fd (Qa fr g) (Qe fr g) rfl|exact Qm (j:=0) hS hel rfl fd (Qa fr g) (Qe fr g) rfl|exact Qm (j:=1) hS hel rfl fd (Qa fr g) (Qe fr g) rfl|exact Qm (j:=2) hS hel rfl fd (Qa fr g) (Qe fr g) rfl)|(exact QL hS rfl fd rfl)|(exact Q4H hS (by assumption) rfl rfl)|(exact Q4W hS (by assumption) rfl rfl)),List.forall_mem_cons.2 ⟨(by (exact Qm hS hel rfl fd (Qa fr g) (Qe fr g) rfl)),List.forall_mem_cons.2 ⟨(by first|(first|exact Qm hS hel rfl fd (Qa fr g) (Qe fr g) rfl|exact Qm (j:=0) hS hel rfl fd (Qa fr g) (Qe fr g) rfl|exact Qm (j:=1) hS hel rfl fd (Qa fr g) (Qe fr g) rfl|exact Qm (j:=2) hS hel rfl fd (Qa fr g) (Qe fr g) rfl)|(exact Q1V hS rfl fd rfl rfl)|(exact Q2D hS (by assumption) rfl rfl rfl)),fun _ h=> (List.not_mem_nil h).elim⟩⟩⟩⟩⟩⟩,?_⟩)
 all_goals (refine s_cf ?_;refine zsn hS ?_;intro w1 hS;have hS:=hS.ns;refine Zao ?_;refine QB ?_;refine zD (ci 8 [7]) ?_;have hS:=hS.drew;refine Zbd ?_;refine Q6 (j:=2) hS hel rfl fd (Qa fr g) (Qe fr g) rfl ?_;refine zf0 ?_;refine zl hS ?_;refine zL ?_)
 all_goals (first|(refine Q15 ?_)|(refine Q1c ?_)|(refine Qu rfl rfl (fun hc=> ?_) (fun hc=> ?_)))
 all_goals (refine zn ?_)
 all_goals
  first
  | (refine zct ?_
     all_goals (refine zD (ci 10 [9]) ?_;have hS:=hS.drew;refine zl hS ?_;refine zf0 ?_;refine zl hS ?_;refine Zbd ?_;refine Q6 (j:=2) hS hel rfl fd (Qa fr g) (Qe fr g) rfl ?_;refine zi ?_;intro b6 o6 cs6 x6 hat6 hx6 he6;obtain ⟨vr6,va6,rfl,hr6,ha6⟩:=QZ he6;have hX:=rone_i (s:=s) (fr:=fr) (inp:=inp) (out:=out) (fu:=fu) hfx hbx hx6;rw [hX] at hX0 ⊢;obtain ⟨q1,q2,q3,q4⟩:=hci _ (List.mem_of_getElem? hx6);refine Yai ?_)
     all_goals (refine zE2 (c:=rwins_c (c:=c.tick) (fu:=fu) (inp:=inp) he6 hi q1 (fun h=> (q2 h).1) q4 hgi hf hn hol hX0 (show St cx _ (rS p c.tick fr g s out _) from hS.sp)) (p:=by rintro v9 w9 hB;obtain ⟨e9,hh,rfl,fr',g',hS⟩:=RBad.get hB;(repeat (first|refine Q2 ?_|refine Q3 ?_|refine fun _=> ?_));refine Qdk ?_;refine Q2t (by intro h;cases h) (by kernel_rfl) (Qde (c:=c.tick) (show St cx _ (catM p p1::blk p 66 c.tick.cells::_) from hS.sp)) ?_;rintro u' w' ⟨rfl,hS⟩;refine Q1Z ?_;refine Qbd ?_;exact ⟨_,rfl,rfl, .inr ⟨hmo, .inr ⟨e9,hh,fr',g',hS.sp⟩⟩⟩) (h:=?_);rintro u7 w7 hG)
     all_goals (refine zn ?_)
     all_goals (have hG:ROk p c.tick s out fu ((rsOf s g.nx fr inp out fu).ins m x6) cx (catM p p1::L) u7 w7:=(RGo.ok hG).drop;obtain ⟨rfl,hG⟩:=hG.tup;obtain ⟨M,hS,hK⟩:=hG.form;have hS:St cx _ (catM p p1::(L++M)):=St.app hS))
  | (refine zcf ?_
     all_goals (have hX:=rone_e (s:=s) (fr:=fr) (inp:=inp) (out:=out) (fu:=fu) hfx hbx (by show x7.code.length≤g.i;omega);rw [hX] at hX0 ⊢;obtain ⟨q1,q2,q3,q4⟩:=hce;refine Q10 ?_;refine zl hS ?_;refine zf0 ?_;refine zv hS ?_)
     all_goals (refine zR2 (c:=rwend_c (c:=c.tick) (fu:=fu) (inp:=inp) (e:=x7.fin) ⟨_,_,_,_,_,rfl,hu1,hu2,hu3,hu4,hu5⟩ hi q1 (fun h=> ⟨(q3 h).1.1,(q3 h).2.2⟩) (fun h=> ⟨(q4 h).1.1,(q4 h).2.2⟩) hf hfr hX0 (show St cx _ (rS p c.tick fr g s out _) from hS.sp)) (h:=?_);rintro u7 w7 hG)
     all_goals (refine zn ?_)
     all_goals (have hG:ROk p c.tick s out fu ((rsOf s g fr inp out fu).fin x7.fin) cx (catM p p1::L) u7 w7:=hG.drop;obtain ⟨rfl,hG⟩:=hG.tup;obtain ⟨M,hS,hK⟩:=hG.form;have hS:St cx _ (catM p p1::(L++M)):=St.app hS))
 all_goals (refine q_endD ?_;refine Q2t (by intro h;cases h) (by kernel_rfl) (rstep1_n hS) ?_;rintro u1 w1 ⟨rfl,hS⟩;refine Q1Z ?_;refine Qbd ?_;exact ⟨_,rfl,rfl, .inr ⟨hmo, .inl (hK _ _ (St.app (L:=M) (M:=L) (show St cx _ (L++M) from hS.drop)))⟩⟩)
end Go.Proofs.YteflkifmgnpbhaaGreat
namespace Go.Proofs.YteflkifmgnpbhaaGreat
open Go.Lir
def Reg.lim (r:Reg) (q:Int):Int:=if q=r.last then r.used else 16
theorem QeA (s:PoolS) (k i:Int):(s.give k).word i=s.word i:=by
 unfold PoolS.give;split <;> rfl
theorem Q9e {i:Int}{l:List Int}:∀{s:PoolS},(s.gives l).word i=s.word i:=by
 induction l with
 | nil=> intro s;rfl
 | cons k l ih=> intro s;exact (ih (s:=s.give k)).trans (QeA s k i)
theorem isIn_iff {s:PoolS}{i:Int}:s.isIn i=true↔0≤i∧i < ((s.n*16:Nat):Int):=decide_eq_true_iff
theorem Q6o {s:PoolS}(ok:s.Ok){a x:Int}(ha:s.isIn a=true) (i:Int):(s.store a x).word i=if i=a then x else s.word i:=by
 have ha':=isIn_iff.1 ha
 have hl:=ok.len
 unfold PoolS.store
 rw [if_pos ha]
 unfold PoolS.word
 by_cases hi:s.isIn i=true
 · have hi':=isIn_iff.1 hi
   have e:(⟨s.n,s.ws.set a.toNat x,s.fr⟩:PoolS).isIn i=true:=hi
   rw [if_pos e,if_pos hi,Q69 (by omega)]
   by_cases h:i=a
   · subst h;rw [if_pos rfl,if_pos rfl]
   · rw [if_neg (by omega),if_neg h]
 · have e:¬(⟨s.n,s.ws.set a.toNat x,s.fr⟩:PoolS).isIn i=true:=hi
   rw [if_neg e,if_neg hi,if_neg (fun h:i=a=> hi (by rw [h];exact ha))]
theorem QaL {s:PoolS}(ok:s.Ok){k:Nat}{fr:List Int}(h3:s.take=⟨s.n,Q2x s.ws k,fr⟩) (hk:k < s.n) (i:Int):s.take.word i=if (k:Int)*16≤i∧i < (k:Int)*16+16 then 0 else s.word i:=by
 have hl:=ok.len
 rw [h3]
 unfold PoolS.word
 by_cases hi:s.isIn i=true
 · have hi':=isIn_iff.1 hi
   have e:(⟨s.n,Q2x s.ws k,fr⟩:PoolS).isIn i=true:=hi
   rw [if_pos e,if_pos hi,←Qgr hl hk,Q8O _ _ _ _ (by omega)]
   by_cases h:(k:Int)*16≤i∧i < (k:Int)*16+16
   · rw [if_pos (by omega),if_pos h]
   · rw [if_neg (by omega),if_neg h]
 · have e:¬(⟨s.n,Q2x s.ws k,fr⟩:PoolS).isIn i=true:=hi
   rw [if_neg e,if_neg hi];split <;> rfl
theorem Q51 {s:EstS}(ok:s.Ok){p:PoolS}{m k:Nat}(hm:m < 16){r:Reg}:(⟨p,s.rs.set m r⟩:EstS).reg k=if k=m then r else s.reg k:=by
 have:=ok.len
 unfold EstS.reg
 rw [if_pos (by omega),Int.toNat_natCast,Q69 (by omega)]
 by_cases h:m=k
 · rw [if_pos h,if_pos h.symm]
 · rw [if_neg h,if_neg (Ne.symm h),if_pos (by omega)]
theorem Q9L {s:EstS}(ok:s.Ok){k m:Nat}(hk:k < 16) (hm:m < 16){q:Int}(h1:q∈(s.reg k).pages) (h2:q∈(s.reg m).pages):k=m:=by
 by_cases h:k=m
 · exact h
 exfalso
 have hnd:=(EstS.tk_at ok hm).1
 have:=(List.nodup_append.1 hnd).2.2 q h2 q (List.mem_flatMap.2 ⟨s.reg k,List.mem_eraseIdx_iff_getElem?.2 ⟨k,h,EstS.reg_at ok hk⟩,h1⟩)
 exact this rfl
theorem Qad {r:Reg}(h:r.pages≠[]):r.last∈r.pages:=by
 unfold Reg.last
 rcases List.eq_nil_or_concat r.pages with e|⟨l,x,e⟩
 · exact absurd e h
 · rw [e];simp
theorem Qcm {s:EstS}(ok:s.Ok){k:Nat}(hk:k < 16){q:Int}(h:q∈(s.reg k).pages):0≤q∧q < s.p.n∧q∉s.p.fr:=can_iff.1 (((EstS.tk_at ok hk).2 q).1 (List.mem_append_left _ h))
theorem Qdt {s:EstS}(ok:s.Ok){k:Nat}(hk:k < 16){q:Int}:(s.reg k).lim q≤16:=by
 unfold Reg.lim;split
 · exact (EstS.used_rng ok hk).2
 · exact Int.le_refl _
structure GetF (s:EstS) (m:Nat) (x:Int) (P u:Int):Prop where
 x1:1≤x
 ux:0≤u∧u+x≤16
 v:s.getV m x=P*16+u
 rs:(s.get m x).rs=s.rs.set m ⟨(s.reg m).there,((s.get m x).reg m).pages,u+x⟩
 last:((s.get m x).reg m).last=P
 mem:P∈((s.get m x).reg m).pages
 sub:∀q∈(s.reg m).pages,q∈((s.get m x).reg m).pages
 n:(s.get m x).p.n=s.p.n
 old:P∈(s.reg m).pages→P=(s.reg m).last∧u=(s.reg m).used
 new:P∉(s.reg m).pages→∀k:Nat,k < 16→P∉(s.reg k).pages
 w:∀i,¬(P*16≤i∧i < P*16+16)→(s.get m x).p.word i=s.p.word i
 wz:P∉(s.reg m).pages→∀i,P*16≤i∧i < P*16+16→(s.get m x).p.word i=0
 wo:P∈(s.reg m).pages→(s.get m x).p=s.p
theorem getF {s:EstS}(ok:s.Ok){m:Nat}(hm:m < 16){x:Int}(hc:s.code m x=0):∃P u,GetF s m x P u:=by
 obtain ⟨h1,h2,h3,h4⟩:=EstS.code_0 hc
 have hu:=EstS.used_rng ok hm
 have hrs:(s.get m x).rs=s.rs.set m ((s.regTo m x).use x):=by unfold EstS.get;rw [if_pos hc,Int.toNat_natCast]
 have hp:(s.get m x).p=if (s.reg m).more x then s.p.take else s.p:=by unfold EstS.get;rw [if_pos hc]
 have hv:s.getV m x=(s.regTo m x).last*16+(s.regTo m x).used:=by unfold EstS.getV;rw [if_pos hc]
 have hreg:(s.get m x).reg m=(s.regTo m x).use x:=by
  have e:s.get m x=⟨(s.get m x).p,s.rs.set m ((s.regTo m x).use x)⟩:=by rw [←hrs]
  rw [e,Q51 ok hm,if_pos rfl]
 by_cases hmo:(s.reg m).more x=true
 · rw [if_pos hmo] at hp
   have hto:s.regTo m x=(s.reg m).grow s.p.top:=by unfold EstS.regTo;rw [if_pos hmo]
   rcases PoolS.split ok.pok with ⟨e,_⟩|⟨kk,fr,e1,e2,e3⟩
   · exact absurd ⟨hmo,e⟩ h4
   · have hfree:∀k:Nat,k < 16→s.p.top∉(s.reg k).pages:=fun k hk hmem=> by
      have:=(Qcm ok hk hmem).2.2
      exact this (by rw [e2,e1];simp)
     have hnk:kk < s.p.n:=by have:=ok.pok.rng kk (by rw [e1];simp);omega
     refine ⟨s.p.top,0,h2,by omega,by rw [hv,hto];simp [Reg.grow,Reg.last],?_,?_,?_,?_,?_,fun h=> absurd h (hfree m hm),fun _=> hfree,fun i hi=> ?_,fun _ i hi=> ?_,fun h=> absurd h (hfree m hm)⟩
     · rw [hrs,hreg,hto];simp [Reg.use,Reg.grow]
     · rw [hreg,hto];simp [Reg.use,Reg.grow,Reg.last]
     · rw [hreg,hto];simp [Reg.use,Reg.grow]
     · intro q hq;rw [hreg,hto];simp [Reg.use,Reg.grow,hq]
     · rw [hp];exact PoolS.n_take
     · rw [hp,QaL ok.pok e3 hnk,if_neg (by rw [e2] at hi;exact hi)]
     · rw [hp,QaL ok.pok e3 hnk,if_pos (by rw [e2] at hi;exact hi)]
 · rw [if_neg hmo] at hp
   have hto:s.regTo m x=s.reg m:=by unfold EstS.regTo;rw [if_neg hmo]
   obtain ⟨h5,h6⟩:=Reg.more_f hmo
   have hl:=Qad h5
   refine ⟨(s.reg m).last,(s.reg m).used,h2,by omega,by rw [hv,hto],?_,?_,?_,?_,by rw [hp],fun _=> ⟨rfl,rfl⟩,fun h=> absurd hl h,fun i _=> by rw [hp],fun h=> absurd hl h,fun _=> hp⟩
   · rw [hrs,hreg,hto];rfl
   · rw [hreg,hto];rfl
   · rw [hreg,hto];exact hl
   · intro q hq;rw [hreg,hto];exact hq
theorem GetF.reg {s:EstS}(ok:s.Ok){m k:Nat}(hm:m < 16){x P u:Int}(h:GetF s m x P u):(s.get m x).reg k=if k=m then ⟨(s.reg m).there,((s.get m x).reg m).pages,u+x⟩ else s.reg k:=by
 have e:s.get m x=⟨(s.get m x).p,s.rs.set m ⟨(s.reg m).there,((s.get m x).reg m).pages,u+x⟩⟩:=by rw [←h.rs]
 have:=Q51 ok hm (p:=(s.get m x).p) (k:=k) (r:=⟨(s.reg m).there,((s.get m x).reg m).pages,u+x⟩)
 rw [←e] at this;exact this
end Go.Proofs.YteflkifmgnpbhaaGreat
namespace Go.Lir
set_option linter.unusedVariables false
def hasB (l:List Bool) (r:Int):Bool:=decide (0≤r) && decide (r < l.length) && l.getD r.toNat false

def Q1U (l:List Bool) (n:Nat):List Int:=((List.range n).filter fun j=> l.getD j false).map Int.ofNat
def Q3g (l:List Bool):List Int:=Q1U l l.length
theorem Q5F (l:List Bool) (n:Nat):Q1U l (n+1)=Q1U l n++if l.getD n false then [(n:Int)] else []:=by
 unfold Q1U
 rw [List.range_succ,List.filter_append,List.map_append]
 congr 1
 by_cases h:l.getD n false=true
 · rw [if_pos h,List.filter_cons_of_pos (by simpa using h)];rfl
 · rw [if_neg h,List.filter_cons_of_neg (by simpa using h)];rfl
theorem Qef (l:List Bool) (n:Nat):(Q1U l n).length≤n:=by
 unfold Q1U
 rw [List.length_map]
 exact Nat.le_trans (List.length_filter_le _ _) (by simp)

def Q1L (l:List Bool) (seen:List Int):List Int→Int
 | []=> if seen.length < (Q3g l).length then 12 else 0
 | x::xs=> if hasB l x then if x∈seen then 13 else Q1L l (seen++[x]) xs else 10
def Q5r (l:List Bool) (ys:List Int):List Bool:=(List.range l.length).map fun (j:Nat)=> decide ((j:Int)∈ys)
theorem QeS (l:List Bool) (ys:List Int):(Q5r l ys).length=l.length:=by simp [Q5r]
theorem QeR (l:List Bool):Q5r l []=List.replicate l.length false:=by
 apply List.ext_getElem <;> simp [Q5r]
theorem QeT {l:List Bool}{ys:List Int}{r:Int}(h0:0≤r) (h1:r < l.length):(Q5r l ys).getD r.toNat false=decide (r∈ys):=by
 have:r.toNat < l.length:=by omega
 simp [Q5r,List.getD_eq_getElem?_getD,List.getElem?_map,List.getElem?_range this,Int.toNat_of_nonneg h0]
theorem QeQ {l:List Bool}{ys:List Int}{r:Int}(h0:0≤r):(Q5r l ys).set r.toNat true=Q5r l (ys++[r]):=by
 apply List.ext_getElem?
 intro j
 simp only [Q5r,List.getElem?_set,List.getElem?_map,List.length_map,List.length_range]
 by_cases hj:j < l.length
 · simp only [List.getElem?_range hj,Option.map_some]
   by_cases he:r.toNat=j
   · subst he;simp [hj,Int.toNat_of_nonneg h0]
   · have:(j:Int)≠r:=by omega
     simp [he,this]
 · have h2:(List.range l.length)[j]?=none:=by simp;omega
   simp only [h2,Option.map_none]
   by_cases he:r.toNat=j
   · subst he;simp [hj]
   · simp [he]
theorem Q46 {l:List Bool}{r:Int}(h:hasB l r=true):0≤r∧r < l.length∧l.getD r.toNat false=true:=by
 simp only [hasB,Bool.and_eq_true,decide_eq_true_eq] at h;exact ⟨h.1.1,h.1.2,h.2⟩


theorem mem_heldL {l:List Bool}{x:Int}:x∈Q3g l↔hasB l x=true:=by
 simp only [Q3g,Q1U,List.mem_map,List.mem_filter,List.mem_range,hasB,Bool.and_eq_true,decide_eq_true_eq]
 constructor
 · rintro ⟨j,⟨h1,h2⟩,rfl⟩
   exact ⟨⟨by simp,by simpa using h1⟩,by simpa using h2⟩
 · rintro ⟨⟨h0,h1⟩,h2⟩
   exact ⟨x.toNat,⟨by omega,h2⟩,by simp;omega⟩
end Go.Lir
namespace Go.Lir
set_option linter.unusedVariables false
structure JS where
 h:List Bool
 l:List Ty
deriving instance DecidableEq for JS
def jval (s:JS) (k:Int):Except Int Ty:=if k < 0 then .error 1 else match s.l[k.toNat]? with
 | none=> .error 1
 | some t=> .ok t
def QA {α β:Type}(x:Except Int α) (f:α→Except Int β):Except Int β:=match x with
 | .error e=> .error e
 | .ok a=> f a
theorem QF {α β:Type}{x:Except Int α}{f:α→Except Int β}{e:Int}(h:x= .error e):QA x f= .error e:=by rw [h];rfl
theorem Qd {α β:Type}{x:Except Int α}{f:α→Except Int β}{a:α}(h:x= .ok a):QA x f=f a:=by rw [h];rfl
theorem Q5 {α β:Type}{x:Except Int α}{f:α→Except Int β}{b:β}(h:QA x f= .ok b):∃a,x= .ok a∧f a= .ok b:=by
 cases x with
 | error e=> cases h
 | ok a=> exact ⟨a,rfl,h⟩
def Q29 (s:JS) (k kind:Int):Except Int Ty:=QA (jval s k) fun t=> if t.kind≠kind then .error 9 else .ok t
def jat (s:JS) (k kind:Int):Except Int Ty:=QA (Q29 s k kind) fun t=> if hasB s.h t.r=false then .error 10 else .ok t
def jput (s:JS) (t:Ty):Except Int JS:=if s.l.length=80 then .error 2 else .ok ⟨s.h,s.l++[t]⟩
def Q25 (s:JS) (regs:List Int):List Int→List Ty→Except Int Unit
 | k::l,u::want=> QA (jval s k) fun t=> match u.ren regs with
   | none=> .error 9
   | some u'=> if t≠u' then .error 9 else Q25 s regs l want
 | _,_=> .ok ()
def Q58 (s:JS) (l:List Int) (want:List Ty) (regs:List Int):Except Int Unit:=if l.length≠want.length then .error 2 else Q25 s regs l want
def Q3E (t:Ty) (k:Int):Except Int Ty:=match t.l[k.toNat]? with
 | none=> .error 9
 | some u=> .ok u
def Q2u (h:List Bool) (p:List Int):List Int→Except Int Unit
 | []=> .ok ()
 | r::l=> if hasB h r=false then .error 10 else if r∈p then .error 13 else Q2u h (p++[r]) l
def renT (to:List Int) (t:Ty):Ty:=(t.ren to).getD (.mk 0 0 [])
def Q5A (m:Module) (s:JS) (x:Ins):Except Int JS:=match m.funcs[x.k.toNat]? with
 | none=> .error 1
 | some g=> if (x.regs.length:Int)≠g.regs then .error 2 else QA (Q2u s.h [] x.regs) fun _=> QA (Q58 s x.args g.params x.regs) fun _=>
   if 80 < s.l.length+g.results.length then .error 2 else .ok ⟨s.h,s.l++g.results.map (renT x.regs)⟩
def jfields (s:JS):List Int→Except Int (List Ty)
 | []=> .ok []
 | k::l=> QA (jval s k) fun t=> QA (jfields s l) fun ts=> .ok (t::ts)
def number:Ty:= .mk 1 0 []
def Q5j (s:JS) (x:Ins):Except Int JS:=QA (jat s x.a 2) fun t=> QA (jfields s x.args) fun ts=>
 if (Ty.mk 3 t.r ts).fault s.h.length≠0 then .error 19 else jput s (.mk 3 t.r ts)
def jins (m:Module) (f:Fun) (s:JS) (x:Ins):Except Int JS:=
 if x.op=1∨x.op=12 then jput s number
 else if x.op=2 then QA (Q29 s x.a 1) fun _=> QA (Q29 s x.b 1) fun _=> jput s number
 else if x.op=3 then (if s.h.length=16∨s.l.length=80 then .error 2 else .ok ⟨s.h++[true],s.l++[.mk 2 s.h.length []]⟩)
 else if x.op=4 then QA (jat s x.a 2) fun t=> if t.r < f.regs then .error 11 else .ok ⟨s.h.set t.r.toNat false,s.l⟩
 else if x.op=5 then Q5j s x
 else if x.op=6 then QA (jat s x.a 3) fun t=> QA (Q3E t x.k) fun u=> jput s u
 else if x.op=7 then QA (jat s x.a 3) fun t=> QA (Q3E t x.k) fun u=> QA (jval s x.b) fun v=> if u≠v then .error 9 else .ok s
 else if x.op=8 then QA (jat s x.a 2) fun t=> QA (Q29 s x.b 1) fun _=> jput s (.mk 4 t.r [])
 else if x.op=9 then QA (jat s x.a 4) fun _=> QA (Q29 s x.b 1) fun _=> jput s number
 else if x.op=10 then QA (jat s x.a 4) fun _=> QA (Q29 s x.b 1) fun _=> QA (Q29 s x.c 1) fun _=> .ok s
 else if x.op=11 then QA (jat s x.a 4) fun _=> jput s number
 else if x.op=13 then QA (Q29 s x.a 1) fun _=> .ok s
 else Q5A m s x
def jIns (m:Module) (f:Fun) (s:JS) (x:Ins):Int×JS:=if QC m.funcs.length x≠0 then (QC m.funcs.length x,s) else match jins m f s x with
 | .error c=> (c,s)
 | .ok s'=> (0,s')
def Q42 (l:List Int) (n:Nat):Bool:=(List.range n).all fun i=> decide (l[i]?=some (i:Int))
def jto (f:Fun) (s:JS) (t:To):Except Int Unit:=match f.blocks[t.block.toNat]? with
 | none=> .error 1
 | some b=> if (t.regs.length:Int)≠b.regs then .error 2 else if Q42 t.regs f.regs.toNat=false then .error 11 else
   if Q1L s.h [] t.regs≠0 then .error (Q1L s.h [] t.regs) else Q58 s t.args b.params t.regs
def upTo (n:Nat):List Int:=(List.range n).map Int.ofNat
def jend (f:Fun) (s:JS) (e:Tail):Except Int Unit:=
 if e.op=1 then jto f s e.yes
 else if e.op=2 then QA (Q29 s e.a 1) fun _=> QA (jto f s e.yes) fun _=> jto f s e.no
 else QA (Q58 s e.args f.results (upTo f.regs.toNat)) fun _=> if f.regs < (Q3g s.h).length then .error 12 else .ok ()
def jEnd (f:Fun) (s:JS) (e:Tail):Int:=if Q1I f.blocks.length e≠0 then Q1I f.blocks.length e else match jend f s e with
 | .error c=> c
 | .ok _=> 0
def Q1g (y:Block):JS:=⟨List.replicate (min y.regs 16).toNat true,y.params⟩

theorem Qag {s:JS}{k:Int}{t:Ty}(h:jval s k= .ok t):0≤k∧s.l[k.toNat]?=some t:=by
 unfold jval at h
 split at h
 · cases h
 · rename_i h0
   split at h
   · cases h
   · rename_i u hu;cases h;exact ⟨by omega,hu⟩
theorem jval_no {s:JS}{k:Int}(h:k < 0∨(s.l.length:Int)≤k):jval s k= .error 1:=by
 unfold jval
 by_cases h0:k < 0
 · rw [if_pos h0]
 · rw [if_neg h0,List.getElem?_eq_none (by omega)]
theorem Qaf {s:JS}{k:Int}{t:Ty}(h0:0≤k) (h:s.l[k.toNat]?=some t):jval s k= .ok t:=by
 unfold jval
 rw [if_neg (by omega),h]
theorem Qaj {s:JS}{k kind:Int}{t:Ty}(h:Q29 s k kind= .ok t):0≤k∧s.l[k.toNat]?=some t∧t.kind=kind:=by
 obtain ⟨u,h1,h2⟩:=Q5 h
 split at h2
 · cases h2
 · rename_i hk;cases h2;have:=Qag h1;exact ⟨this.1,this.2,Classical.not_not.1 hk⟩
theorem Q9u {s:JS}{k kind:Int}{t:Ty}(h:jat s k kind= .ok t):0≤k∧s.l[k.toNat]?=some t∧t.kind=kind∧hasB s.h t.r=true:=by
 obtain ⟨u,h1,h2⟩:=Q5 h
 split at h2
 · cases h2
 · rename_i hk;cases h2;have:=Qaj h1;exact ⟨this.1,this.2.1,this.2.2,by simpa using hk⟩
theorem Qai {s s':JS}{t:Ty}(h:jput s t= .ok s'):s.l.length≠80∧s'.h=s.h∧s'.l=s.l++[t]:=by
 unfold jput at h
 split at h
 · cases h
 · rename_i hk;cases h;exact ⟨hk,rfl,rfl⟩
structure JStep (x:Ins) (s s':JS):Prop where
 len:s.l.length≤80→s'.l.length≤80
 pre:∃more,s'.l=s.l++more∧(x.op≠14→more.length≤1)∧(x.op=3→more.length=1)∧(x.op=4→more=[])
 new:x.op=3→s'.h=s.h++[true]∧s.h.length≠16
 free:x.op=4→∃t,0≤x.a∧s.l[x.a.toNat]?=some t∧t.kind=2∧hasB s.h t.r=true∧s'.h=s.h.set t.r.toNat false
 else_:x.op≠3→x.op≠4→s'.h=s.h
theorem Q3c {x:Ins}{s s':JS}{t:Ty}(h:jput s t= .ok s') (h3:x.op≠3) (h4:x.op≠4):JStep x s s':=by
 obtain ⟨h1,h2,h5⟩:=Qai h
 refine ⟨fun hl=> by rw [h5,List.length_append];simp only [List.length_cons,List.length_nil];omega,⟨[t],h5,fun _=> by simp,fun h=> absurd h h3,fun h=> absurd h h4⟩,fun h=> absurd h h3,fun h=> absurd h h4,fun _ _=> h2⟩
theorem Q6M {x:Ins}{s:JS}(h3:x.op≠3) (h4:x.op≠4):JStep x s s:=
 ⟨fun hl=> hl,⟨[],by simp,fun _=> by simp,fun h=> absurd h h3,fun h=> absurd h h4⟩,fun h=> absurd h h3,fun h=> absurd h h4,fun _ _=> rfl⟩
theorem QfP {m:Module}{f:Fun}{s s':JS}{x:Ins}(hop:1≤x.op∧x.op≤14) (h:jins m f s x= .ok s'):JStep x s s':=by
 unfold jins at h
 by_cases h1:x.op=1∨x.op=12
 · rw [if_pos h1] at h;exact Q3c h (by omega) (by omega)
 rw [if_neg h1] at h
 by_cases h2:x.op=2
 · rw [if_pos h2] at h;obtain ⟨_,_,h⟩:=Q5 h;obtain ⟨_,_,h⟩:=Q5 h;exact Q3c h (by omega) (by omega)
 rw [if_neg h2] at h
 by_cases hc:x.op=3
 · rw [if_pos hc] at h
   by_cases hn:s.h.length=16∨s.l.length=80
   · rw [if_pos hn] at h;cases h
   · rw [if_neg hn] at h
     cases h
     exact ⟨fun hl=> by simp only [List.length_append,List.length_cons,List.length_nil];omega,⟨[_],rfl,fun _=> by simp,fun _=> rfl,fun h=> by omega⟩,fun _=> ⟨rfl,by omega⟩,fun h=> by omega,fun h=> absurd hc h⟩
 rw [if_neg hc] at h
 by_cases hc4:x.op=4
 · rw [if_pos hc4] at h
   obtain ⟨t,h1,h⟩:=Q5 h
   by_cases hk:t.r < f.regs
   · rw [if_pos hk] at h;cases h
   · rw [if_neg hk] at h
     cases h
     obtain ⟨a1,a2,a3,a4⟩:=Q9u h1
     exact ⟨fun hl=> hl,⟨[],by simp,fun _=> by simp,fun h=> by omega,fun _=> rfl⟩,fun h=> by omega,fun _=> ⟨t,a1,a2,a3,a4,rfl⟩,fun _ h=> absurd hc4 h⟩
 rw [if_neg hc4] at h
 by_cases h5:x.op=5
 · rw [if_pos h5] at h
   unfold Q5j at h
   obtain ⟨t,_,h⟩:=Q5 h;obtain ⟨ts,_,h⟩:=Q5 h
   by_cases hk:(Ty.mk 3 t.r ts).fault s.h.length≠0
   · rw [if_pos hk] at h;cases h
   · rw [if_neg hk] at h;exact Q3c h (by omega) (by omega)
 rw [if_neg h5] at h
 by_cases h6:x.op=6
 · rw [if_pos h6] at h;obtain ⟨_,_,h⟩:=Q5 h;obtain ⟨_,_,h⟩:=Q5 h;exact Q3c h (by omega) (by omega)
 rw [if_neg h6] at h
 by_cases h7:x.op=7
 · rw [if_pos h7] at h
   obtain ⟨_,_,h⟩:=Q5 h;obtain ⟨u,_,h⟩:=Q5 h;obtain ⟨v,_,h⟩:=Q5 h
   by_cases hk:u≠v
   · rw [if_pos hk] at h;cases h
   · rw [if_neg hk] at h;cases h;exact Q6M (by omega) (by omega)
 rw [if_neg h7] at h
 by_cases h8:x.op=8
 · rw [if_pos h8] at h;obtain ⟨_,_,h⟩:=Q5 h;obtain ⟨_,_,h⟩:=Q5 h;exact Q3c h (by omega) (by omega)
 rw [if_neg h8] at h
 by_cases h9:x.op=9
 · rw [if_pos h9] at h;obtain ⟨_,_,h⟩:=Q5 h;obtain ⟨_,_,h⟩:=Q5 h;exact Q3c h (by omega) (by omega)
 rw [if_neg h9] at h
 by_cases h10:x.op=10
 · rw [if_pos h10] at h;obtain ⟨_,_,h⟩:=Q5 h;obtain ⟨_,_,h⟩:=Q5 h;obtain ⟨_,_,h⟩:=Q5 h;cases h;exact Q6M (by omega) (by omega)
 rw [if_neg h10] at h
 by_cases h11:x.op=11
 · rw [if_pos h11] at h;obtain ⟨_,_,h⟩:=Q5 h;exact Q3c h (by omega) (by omega)
 rw [if_neg h11] at h
 by_cases h13:x.op=13
 · rw [if_pos h13] at h;obtain ⟨_,_,h⟩:=Q5 h;cases h;exact Q6M (by omega) (by omega)
 rw [if_neg h13] at h
 unfold Q5A at h
 split at h
 · cases h
 · rename_i g hg
   by_cases hr:(x.regs.length:Int)≠g.regs
   · rw [if_pos hr] at h;cases h
   · rw [if_neg hr] at h
     obtain ⟨_,_,h⟩:=Q5 h;obtain ⟨_,_,h⟩:=Q5 h
     by_cases hn:80 < s.l.length+g.results.length
     · rw [if_pos hn] at h;cases h
     · rw [if_neg hn] at h
       cases h
       exact ⟨fun hl=> by rw [List.length_append,List.length_map];omega,⟨_,rfl,fun h=> by omega,fun h=> by omega,fun h=> by omega⟩,fun h=> by omega,fun h=> by omega,fun _ _=> rfl⟩
theorem Q2Y {n:Nat}{x:Ins}(h:QC n x=0):1≤x.op∧x.op≤14:=by
 unfold QC at h
 split at h
 · cases h
 · omega
section
variable {s:JS}{regs l:List Int}{want:List Ty}{k:Nat}{x c:Int}{u u' t:Ty}
theorem jargs_e (hx:l[k]?=some x) (hu:want[k]?=some u) (h:jval s x= .error c):Q25 s regs (l.drop k) (want.drop k)= .error c:=by
 rw [Qb hx,Qb hu,Q25,QF h]
theorem Qcy (hx:l[k]?=some x) (hu:want[k]?=some u) (h:jval s x= .ok t) (hn:u.ren regs=none):Q25 s regs (l.drop k) (want.drop k)= .error 9:=by
 rw [Qb hx,Qb hu,Q25,Qd h,hn]
theorem Qcz (hx:l[k]?=some x) (hu:want[k]?=some u) (h:jval s x= .ok t) (hn:u.ren regs=some u') (hd:t≠u'):Q25 s regs (l.drop k) (want.drop k)= .error 9:=by
 rw [Qb hx,Qb hu,Q25,Qd h,hn];exact if_pos hd
theorem jargs_s (hx:l[k]?=some x) (hu:want[k]?=some u) (h:jval s x= .ok t) (hn:u.ren regs=some u') (hd:t=u'):Q25 s regs (l.drop k) (want.drop k)=Q25 s regs (l.drop (k+1)) (want.drop (k+1)):=by
 rw [Qb hx,Qb hu,Q25,Qd h,hn];exact if_neg (fun h=> h hd)
theorem jargs_z (h:l.length≤k):Q25 s regs (l.drop k) (want.drop k)= .ok ():=by
 rw [List.drop_of_length_le h,Q25]
 intro k l u w h;cases h
end
section
variable {m:Module}{f:Fun}{s:JS}{x:Ins}
theorem Q7b (h:x.op=1∨x.op=12):jins m f s x=(jput s number):=by
 unfold jins;rw [if_pos (by omega)]
theorem Q8j (h:x.op=2):jins m f s x=(QA (Q29 s x.a 1) fun _=> QA (Q29 s x.b 1) fun _=> jput s number):=by
 unfold jins;rw [if_neg (by omega),if_pos (by omega)]
theorem Qbr (h:x.op=3):jins m f s x=(if s.h.length=16∨s.l.length=80 then .error 2 else .ok ⟨s.h++[true],s.l++[.mk 2 s.h.length []]⟩):=by
 unfold jins;rw [if_neg (by omega),if_neg (by omega),if_pos (by omega)]
theorem Q9r (h:x.op=4):jins m f s x=(QA (jat s x.a 2) fun t=> if t.r < f.regs then .error 11 else .ok ⟨s.h.set t.r.toNat false,s.l⟩):=by
 unfold jins;rw [if_neg (by omega),if_neg (by omega),if_neg (by omega),if_pos (by omega)]
theorem Qbq (h:x.op=5):jins m f s x=(Q5j s x):=by
 unfold jins;rw [if_neg (by omega),if_neg (by omega),if_neg (by omega),if_neg (by omega),if_pos (by omega)]
theorem Q8i (h:x.op=6):jins m f s x=(QA (jat s x.a 3) fun t=> QA (Q3E t x.k) fun u=> jput s u):=by
 unfold jins;rw [if_neg (by omega),if_neg (by omega),if_neg (by omega),if_neg (by omega),if_neg (by omega),if_pos (by omega)]
theorem Q2B (h:x.op=7):jins m f s x=(QA (jat s x.a 3) fun t=> QA (Q3E t x.k) fun u=> QA (jval s x.b) fun v=> if u≠v then .error 9 else .ok s):=by
 unfold jins;rw [if_neg (by omega),if_neg (by omega),if_neg (by omega),if_neg (by omega),if_neg (by omega),if_neg (by omega),if_pos (by omega)]
theorem Q8h (h:x.op=8):jins m f s x=(QA (jat s x.a 2) fun t=> QA (Q29 s x.b 1) fun _=> jput s (.mk 4 t.r [])):=by
 unfold jins;rw [if_neg (by omega),if_neg (by omega),if_neg (by omega),if_neg (by omega),if_neg (by omega),if_neg (by omega),if_neg (by omega),if_pos (by omega)]
theorem Q8g (h:x.op=9):jins m f s x=(QA (jat s x.a 4) fun _=> QA (Q29 s x.b 1) fun _=> jput s number):=by
 unfold jins;rw [if_neg (by omega),if_neg (by omega),if_neg (by omega),if_neg (by omega),if_neg (by omega),if_neg (by omega),if_neg (by omega),if_neg (by omega),if_pos (by omega)]
theorem Q5y (h:x.op=10):jins m f s x=(QA (jat s x.a 4) fun _=> QA (Q29 s x.b 1) fun _=> QA (Q29 s x.c 1) fun _=> .ok s):=by
 unfold jins;rw [if_neg (by omega),if_neg (by omega),if_neg (by omega),if_neg (by omega),if_neg (by omega),if_neg (by omega),if_neg (by omega),if_neg (by omega),if_neg (by omega),if_pos (by omega)]
theorem Q6O (h:x.op=11):jins m f s x=(QA (jat s x.a 4) fun _=> jput s number):=by
 unfold jins;rw [if_neg (by omega),if_neg (by omega),if_neg (by omega),if_neg (by omega),if_neg (by omega),if_neg (by omega),if_neg (by omega),if_neg (by omega),if_neg (by omega),if_neg (by omega),if_pos (by omega)]
theorem Q8k (h:x.op=13):jins m f s x=(QA (Q29 s x.a 1) fun _=> .ok s):=by
 unfold jins;rw [if_neg (by omega),if_neg (by omega),if_neg (by omega),if_neg (by omega),if_neg (by omega),if_neg (by omega),if_neg (by omega),if_neg (by omega),if_neg (by omega),if_neg (by omega),if_neg (by omega),if_pos (by omega)]
theorem Q6N (h:x.op=14):jins m f s x=(Q5A m s x):=by
 unfold jins;rw [if_neg (by omega),if_neg (by omega),if_neg (by omega),if_neg (by omega),if_neg (by omega),if_neg (by omega),if_neg (by omega),if_neg (by omega),if_neg (by omega),if_neg (by omega),if_neg (by omega),if_neg (by omega)]
theorem Q43 {t:Ty}(h:s.l.length≠80):jput s t= .ok ⟨s.h,s.l++[t]⟩:=if_neg h
theorem Q5x {t:Ty}(h:s.l.length=80):jput s t= .error 2:=if_pos h
theorem QfS {q:Nat}{k c:Int}{ts:List Ty}(hx:x.args[q]?=some k) (hd:jfields s x.args=QA (jfields s (x.args.drop q)) fun l=> .ok (ts++l)) (h:jval s k= .error c):jfields s x.args= .error c:=by
 rw [hd,Qb hx,jfields,QF h];rfl
theorem QfR {q:Nat}{k:Int}{t:Ty}{ts:List Ty}(hx:x.args[q]?=some k) (hd:jfields s x.args=QA (jfields s (x.args.drop q)) fun l=> .ok (ts++l)) (h:jval s k= .ok t):jfields s x.args=QA (jfields s (x.args.drop (q+1))) fun l=> .ok ((ts++[t])++l):=by
 rw [hd,Qb hx,jfields,Qd h]
 cases jfields s (x.args.drop (q+1)) with
 | error c=> rfl
 | ok l=> simp [QA]
theorem QfQ {q:Nat}{ts:List Ty}(hd:jfields s x.args=QA (jfields s (x.args.drop q)) fun l=> .ok (ts++l)) (h:x.args.length≤q):jfields s x.args= .ok ts:=by
 rw [hd,List.drop_of_length_le h,jfields];simp [QA]
end
theorem kept_s (l:List Int) (n:Nat):Q42 l (n+1)=(Q42 l n && decide (l[n]?=some (n:Int))):=by
 unfold Q42;rw [List.range_succ,List.all_append];simp
theorem kept_no {l:List Int}{n q:Nat}(hq:q < n) (h:l[q]?≠some (q:Int)):Q42 l n=false:=by
 unfold Q42
 rw [List.all_eq_false]
 exact ⟨q,List.mem_range.2 hq,by simpa using h⟩
theorem upTo_s (n:Nat):upTo (n+1)=upTo n++[(n:Int)]:=by unfold upTo;rw [List.range_succ,List.map_append];rfl
section
variable {f:Fun}{s:JS}{t:To}{b:Block}{e:Tail}
theorem jto_2 (hb:f.blocks[t.block.toNat]?=some b) (h:(t.regs.length:Int)≠b.regs):jto f s t= .error 2:=by unfold jto;rw [hb];exact if_pos h
theorem jto_11 (hb:f.blocks[t.block.toNat]?=some b) (h:¬(t.regs.length:Int)≠b.regs) (h2:Q42 t.regs f.regs.toNat=false):jto f s t= .error 11:=by unfold jto;rw [hb];simp only;rw [if_neg h,if_pos h2]
theorem jto_p (hb:f.blocks[t.block.toNat]?=some b) (h:¬(t.regs.length:Int)≠b.regs) (h2:Q42 t.regs f.regs.toNat=true) (h3:Q1L s.h [] t.regs≠0):jto f s t= .error (Q1L s.h [] t.regs):=by unfold jto;rw [hb];simp only;rw [if_neg h,if_neg (by rw [h2];decide),if_pos h3]
theorem jto_a (hb:f.blocks[t.block.toNat]?=some b) (h:¬(t.regs.length:Int)≠b.regs) (h2:Q42 t.regs f.regs.toNat=true) (h3:Q1L s.h [] t.regs=0):jto f s t=Q58 s t.args b.params t.regs:=by unfold jto;rw [hb];simp only;rw [if_neg h,if_neg (by rw [h2];decide),if_neg (fun h=> h h3)]
theorem QfU (h:e.op=1):jend f s e=jto f s e.yes:=by unfold jend;rw [if_pos h]
theorem Qbs (h:e.op=2):jend f s e=QA (Q29 s e.a 1) fun _=> QA (jto f s e.yes) fun _=> jto f s e.no:=by unfold jend;rw [if_neg (by omega),if_pos h]
theorem Qdv (h:e.op=3):jend f s e=QA (Q58 s e.args f.results (upTo f.regs.toNat)) fun _=> if f.regs < (Q3g s.h).length then .error 12 else .ok ():=by unfold jend;rw [if_neg (by omega),if_neg (by omega)]
theorem Q3N {n:Nat}(h:Q1K n t true=0):0≤t.block∧t.block < n:=by
 unfold Q1K at h
 simp at h;omega
theorem Q3J {n:Nat}(h:Q1I n e=0):1≤e.op∧e.op≤3∧Q1K n e.yes (decide (e.op≠3))=0∧Q1K n e.no (decide (e.op=2))=0:=by
 unfold Q1I at h
 split at h
 · cases h
 · split at h
   · cases h
   · split at h
     · cases h
     · unfold orC at h
       split at h
       · rename_i h1;exact absurd h h1
       · rename_i h1;exact ⟨by omega,by omega,Classical.not_not.1 h1,h⟩
end
def NZ {α:Type}(x:Except Int α):Prop:=∀c,x= .error c→c≠0
theorem NZ.e {α:Type}{c:Int}(h:c≠0):NZ (.error c:Except Int α):=fun _ h'=> by cases h';exact h
theorem NZ.o {α:Type}(a:α):NZ (.ok a:Except Int α):=fun _ h'=> by cases h'
theorem NZ.bind {α β:Type}{x:Except Int α}{f:α→Except Int β}(h1:NZ x) (h2:∀a,x= .ok a→NZ (f a)):NZ (QA x f):=by
 cases x with
 | error e=> exact fun c h=> by cases h;exact h1 _ rfl
 | ok a=> exact h2 a rfl
theorem NZ.ite {α:Type}{p:Prop} [Decidable p] {a b:Except Int α}(h1:NZ a) (h2:NZ b):NZ (if p then a else b):=by
 split
 · exact h1
 · exact h2
theorem Qah (s:JS) (k:Int):NZ (jval s k):=by
 unfold jval
 split
 · exact .e (by decide)
 · split
   · exact .e (by decide)
   · exact .o _
theorem Qak (s:JS) (k kind:Int):NZ (Q29 s k kind):=by
 refine .bind (Qah s k) fun t _=> ?_
 split
 · exact .e (by decide)
 · exact .o _
theorem jat_nz (s:JS) (k kind:Int):NZ (jat s k kind):=by
 refine .bind (Qak s k kind) fun t _=> ?_
 split
 · exact .e (by decide)
 · exact .o _
theorem jput_nz (s:JS) (t:Ty):NZ (jput s t):=by
 unfold jput
 split
 · exact .e (by decide)
 · exact .o _
theorem Qbt (s:JS) (regs:List Int):∀(l:List Int) (want:List Ty),NZ (Q25 s regs l want)
 | [],[]=> by unfold Q25;exact .o _
 | [],_::_=> by unfold Q25;exact .o _
 | _::_,[]=> by unfold Q25;exact .o _
 | k ::l,u::want=> by
   unfold Q25
   refine .bind (Qah s k) fun t _=> ?_
   split
   · exact .e (by decide)
   · split
     · exact .e (by decide)
     · exact Qbt s regs l want
theorem Qal (s:JS) (l:List Int) (want:List Ty) (regs:List Int):NZ (Q58 s l want regs):=by
 unfold Q58
 split
 · exact .e (by decide)
 · exact Qbt s regs l want
theorem QfT (t:Ty) (k:Int):NZ (Q3E t k):=by
 unfold Q3E
 split
 · exact .e (by decide)
 · exact .o _
theorem Qdu (h:List Bool):∀(l p:List Int),NZ (Q2u h p l)
 | [],_=> by unfold Q2u;exact .o _
 | r ::l,p=> by
   unfold Q2u
   split
   · exact .e (by decide)
   · split
     · exact .e (by decide)
     · exact Qdu h l _
theorem Q9t (s:JS):∀(l:List Int),NZ (jfields s l)
 | []=> by unfold jfields;exact .o _
 | k::l=> by
   unfold jfields
   exact .bind (Qah s k) fun _ _=> .bind (Q9t s l) fun _ _=> .o _
theorem jcall_nz (m:Module) (s:JS) (x:Ins):NZ (Q5A m s x):=by
 unfold Q5A
 split
 · exact .e (by decide)
 · split
   · exact .e (by decide)
   · refine .bind (Qdu _ _ _) fun _ _=> .bind (Qal _ _ _ _) fun _ _=> ?_
     split
     · exact .e (by decide)
     · exact .o _
theorem jins_nz (m:Module) (f:Fun) (s:JS) (x:Ins):NZ (jins m f s x):=by
 unfold jins Q5j
 repeat' (first|exact jput_nz _ _|exact jcall_nz _ _ _|exact .o _|exact .e (by decide)|refine .bind (Qak _ _ _) fun _ _=> ?_|refine .bind (jat_nz _ _ _) fun _ _=> ?_|refine .bind (QfT _ _) fun _ _=> ?_|refine .bind (Qah _ _) fun _ _=> ?_|refine .bind (Q9t _ _) fun _ _=> ?_|refine .ite ?_ ?_)
theorem QfW {m:Module}{f:Fun}{s:JS}{x:Ins}(h:(jIns m f s x).1=0):QC m.funcs.length x=0∧jins m f s x= .ok (jIns m f s x).2:=by
 unfold jIns at h ⊢
 split at h
 · rename_i hf;exact absurd h hf
 · rename_i hf
   rw [if_neg hf]
   refine ⟨Classical.not_not.1 hf,?_⟩
   cases hj:jins m f s x with
   | error c=> rw [hj] at h;exact absurd h (jins_nz m f s x c hj)
   | ok s'=> rfl
theorem jIns_no {m:Module}{f:Fun}{s:JS}{x:Ins}(h:(jIns m f s x).1≠0):(jIns m f s x).2=s:=by
 unfold jIns at h ⊢
 split
 · rfl
 · rename_i hf
   rw [if_neg hf] at h
   cases hj:jins m f s x with
   | error c=> rfl
   | ok s'=> rw [hj] at h;exact absurd rfl h
end Go.Lir
namespace Go.Lir
set_option linter.unusedVariables false
theorem Q3n {a b:Flt}(h:(orF a b).1=0):a.1=0∧b.1=0:=by
 unfold orF at h
 split at h
 · rename_i hc;exact absurd h hc.2
 · rename_i hc
   refine ⟨h,?_⟩
   exact Classical.byContradiction fun hb=> hc ⟨h,hb⟩
theorem Q6e {n f b:Nat}:∀{l:List Ins}{i:Nat},(Q2c n f b i l).1=0→∀x∈l,QC n x=0
 | [],_,_,x,hx=> by cases hx
 | y::l,i,h,x,hx=> by
   rw [Q2c] at h
   obtain ⟨h1,h2⟩:=Q3n h
   rw [Q3Z] at h1
   rcases List.mem_cons.1 hx with rfl|hx
   · exact h1
   · exact Q6e h2 x hx
theorem Q4O {n f:Nat}{x:Fun}:∀{l:List Block}{b0:Nat},(Q1y n f x b0 l).1=0→∀(b:Nat) (y:Block),l[b]?=some y→(Q2E n f x (b0+b) y).1=0
 | [],_,_,b,y,hy=> by cases hy
 | z::l,b0,h,b,y,hy=> by
   rw [Q1y] at h
   obtain ⟨h1,h2⟩:=Q3n h
   cases b with
   | zero=> rw [List.getElem?_cons_zero] at hy;cases hy;exact h1
   | succ b=> rw [List.getElem?_cons_succ] at hy;rw [show b0+(b+1)=b0+1+b by omega];exact Q4O h2 b y hy
theorem Q47 {n:Nat}:∀{l:List Fun}{f0:Nat},(Q2v n f0 l).1=0→∀(f:Nat) (x:Fun),l[f]?=some x→(Q7D n (f0+f) x).1=0
 | [],_,_,b,y,hy=> by cases hy
 | z::l,b0,h,b,y,hy=> by
   rw [Q2v] at h
   obtain ⟨h1,h2⟩:=Q3n h
   cases b with
   | zero=> rw [List.getElem?_cons_zero] at hy;cases hy;exact h1
   | succ b=> rw [List.getElem?_cons_succ] at hy;rw [show b0+(b+1)=b0+1+b by omega];exact Q47 h2 b y hy
theorem Q8F {m:Module}(h:m.fault.1=0):1≤m.funcs.length∧m.funcs.length≤8:=by
 have h1:=(Q3n h).1
 rw [Q3Z] at h1
 split at h1
 · cases h1
 · omega
theorem Q1R {m:Module}(h:m.fault.1=0){f:Nat}{x:Fun}(hx:m.funcs[f]?=some x):Q3h f x=0:=by
 have h1:=Q47 (Q3n h).2 f x hx
 rw [Nat.zero_add] at h1
 have h2:=(Q3n h1).1
 rwa [Q3Z] at h2
theorem Q1x {m:Module}(h:m.fault.1=0){f b:Nat}{x:Fun}{y:Block}(hx:m.funcs[f]?=some x) (hy:x.blocks[b]?=some y):Q2y x b y=0∧(∀i∈y.code,QC m.funcs.length i=0)∧Q1I x.blocks.length y.fin=0:=by
 have h1:=Q47 (Q3n h).2 f x hx
 have h2:=Q4O (Q3n h1).2 b y hy
 obtain ⟨h3,h4⟩:=Q3n h2
 obtain ⟨h5,h6⟩:=Q3n h4
 rw [Q3Z] at h3 h6
 rw [Nat.zero_add] at h3
 exact ⟨h3,Q6e h5,h6⟩
theorem Q1W {x:Fun}{b:Nat}{y:Block}(h:Q2y x b y=0):x.regs≤y.regs∧y.regs≤16∧QM y.params y.regs=0∧(b=0→y.regs=x.regs∧y.params=x.params)∧y.code.length≤40:=by
 unfold Q2y at h
 split at h
 · cases h
 · rename_i h1
   split at h
   · rename_i h2;exact absurd h h2
   · rename_i h2
     split at h
     · cases h
     · rename_i h3
       split at h
       · cases h
       · refine ⟨by omega,by omega,Classical.not_not.1 h2,fun hb=> ?_,by omega⟩
         refine ⟨Classical.byContradiction fun hr=> h3 ⟨hb, .inl hr⟩,Classical.byContradiction fun hr=> h3 ⟨hb, .inr hr⟩⟩
theorem Q1w {f:Nat}{x:Fun}(h:Q3h f x=0):0≤x.regs∧x.regs≤6∧QM x.params x.regs=0∧QM x.results x.regs=0∧1≤x.blocks.length∧x.blocks.length≤12:=by
 unfold Q3h at h
 split at h
 · cases h
 · rename_i h1
   split at h
   · rename_i h2;exact absurd h h2
   · rename_i h2
     split at h
     · rename_i h3;exact absurd h h3
     · rename_i h3
       split at h
       · cases h
       · exact ⟨by omega,by omega,Classical.not_not.1 h2,Classical.not_not.1 h3,by omega,by omega⟩
theorem Qbl {l:List Ty}{r:Int}(h:QM l r=0):l.length≤8:=by
 unfold QM at h
 split at h
 · cases h
 · omega
theorem orC_z {a b:Int}(h:orC a b=0):a=0∧b=0:=by
 unfold orC at h
 split at h
 · rename_i h1;exact absurd h h1
 · rename_i h1;exact ⟨Classical.not_not.1 h1,h⟩
theorem Q7M {r:Int}:∀{l:List Ty},Q3M r l=0→∀t∈l,t.fault r=0
 | [],_,t,ht=> by cases ht
 | x::l,h,t,ht=> by
   rw [Q3M] at h
   obtain ⟨h1,h2⟩:=orC_z h
   rcases List.mem_cons.1 ht with rfl|ht
   · exact h1
   · exact Q7M h2 t ht
theorem Q2M {l:List Ty}{r:Int}(h:QM l r=0):∀t∈l,t.fault r=0:=by
 unfold QM at h
 split at h
 · cases h
 · exact Q7M h
theorem Ty.ren_short:∀(t:Ty){to:List Int}{u:Ty},t.Short→t.ren to=some u→u.Short:=by
 intro t
 induction t using Ty.ind with
 | h k r l ih =>
   intro to u hs h
   obtain ⟨hl,hp⟩:=hs.parts
   rw [Ty.ren] at h
   split at h
   · cases h
   · split at h
     · cases h
     · rename_i m hm
       cases h
       have key:∀(l:List Ty) (m:List Ty),(∀x∈l,x.Short∧∀{u:Ty},x.Short→x.ren to=some u→u.Short)→Tys.ren l to=some m→m.length=l.length∧∀y∈m,y.Short:=by
        intro l
        induction l with
        | nil=> intro m _ h;rw [Tys.ren] at h;cases h;exact ⟨rfl,by simp⟩
        | cons x l ihl=>
          intro m hx h
          rw [Tys.ren] at h
          cases h1:x.ren to with
          | none=> rw [h1] at h;cases h
          | some y=>
            rw [h1] at h
            cases h2:Tys.ren l to with
            | none=> rw [h2] at h;cases h
            | some m2=>
              rw [h2] at h
              simp only [Option.some.injEq] at h
              subst h
              obtain ⟨h3,h4⟩:=ihl m2 (fun z hz=> hx z (List.mem_cons_of_mem _ hz)) h2
              refine ⟨by simp [h3],fun z hz=> ?_⟩
              rcases List.mem_cons.1 hz with rfl|hz
              · obtain ⟨h5,h6⟩:=hx x (List.mem_cons_self ..);exact h6 h5 h1
              · exact h4 z hz
       obtain ⟨h3,h4⟩:=key l m (fun x hx=> ⟨hp x hx,fun hs h=> ih x hx hs h⟩) hm
       exact .mk (by omega) h4
theorem Ty.Short.part {t:Ty}(h:t.Short):∀u∈t.l,u.Short:=by
 obtain ⟨k,r,l⟩:=t
 exact h.parts.2
theorem Qe1 {t:Ty}{to:List Int}(h:t.Short):(renT to t).Short:=by
 unfold renT
 cases hn:t.ren to with
 | none=> exact .mk (by decide) (by simp)
 | some u=> exact Ty.ren_short t h hn
structure JGood (s:JS):Prop where
 n:s.l.length≤80
 h:s.h.length≤16
 s:∀t∈s.l,t.Short
theorem JGood.get {s:JS}(hg:JGood s){k:Int}{t:Ty}(h:jval s k= .ok t):t.Short:=hg.s t (List.mem_of_getElem? (Qag h).2)
theorem JGood.put {s s':JS}{t:Ty}(hg:JGood s) (ht:t.Short) (h:jput s t= .ok s'):JGood s':=by
 obtain ⟨h1,h2,h3⟩:=Qai h
 refine ⟨by rw [h3,List.length_append];have:=hg.n;simp only [List.length_cons,List.length_nil];omega,by rw [h2];exact hg.h,fun u hu=> ?_⟩
 rw [h3] at hu
 rcases List.mem_append.1 hu with hu|hu
 · exact hg.s u hu
 · simp at hu;subst hu;exact ht
theorem Q7P {k r:Int}:(Ty.mk k r []).Short:= .mk (by decide) (by simp)
theorem Q4A {s:JS}(hg:JGood s):∀{l:List Int}{ts:List Ty},jfields s l= .ok ts→ts.length=l.length∧∀t∈ts,t.Short
 | [],ts,h=> by rw [jfields] at h;cases h;exact ⟨rfl,by simp⟩
 | k::l,ts,h=> by
   rw [jfields] at h
   obtain ⟨t,h1,h⟩:=Q5 h
   obtain ⟨us,h2,h⟩:=Q5 h
   cases h
   obtain ⟨h3,h4⟩:=Q4A hg h2
   refine ⟨by simp [h3],fun u hu=> ?_⟩
   rcases List.mem_cons.1 hu with rfl|hu
   · exact hg.get h1
   · exact h4 u hu
theorem QfO {s:JS}{k kd:Int}{t:Ty}(h:Q29 s k kd= .ok t):jval s k= .ok t:=by have:=Qaj h;exact Qaf this.1 this.2.1
theorem QfV {s:JS}{k kd:Int}{t:Ty}(h:jat s k kd= .ok t):jval s k= .ok t:=by have:=Q9u h;exact Qaf this.1 this.2.1
theorem Q5W {t u:Ty}{k:Int}(h:Q3E t k= .ok u):t.l[k.toNat]?=some u:=by
 unfold Q3E at h
 split at h
 · cases h
 · rename_i v hv;cases h;exact hv
theorem Qbp {m:Module}{f:Fun}{s s':JS}{x:Ins}(hm:m.Short) (hg:JGood s) (hF:QC m.funcs.length x=0) (h:jins m f s x= .ok s'):JGood s':=by
 have hop:=Q2Y hF
 have hst:=QfP hop h
 have hn:s'.l.length≤80:=hst.len hg.n
 by_cases h3:x.op=3
 · rw [Qbr h3] at h
   split at h
   · cases h
   · rename_i hc
     cases h
     refine ⟨hn,by have:=hg.h;simp only [List.length_append,List.length_cons,List.length_nil];omega,fun u hu=> ?_⟩
     rcases List.mem_append.1 hu with hu|hu
     · exact hg.s u hu
     · simp at hu;subst hu;exact Q7P
 by_cases h4:x.op=4
 · rw [Q9r h4] at h
   obtain ⟨t,h1,h⟩:=Q5 h
   split at h
   · cases h
   · cases h;exact ⟨hn,by rw [List.length_set];exact hg.h,hg.s⟩
 rcases op_cases (op:=x.op) (by omega) (by omega) with e|e|e|e|e|e|e|e|e|e|e|e|e|e
 · rw [Q7b (by omega)] at h;exact hg.put Q7P h
 · rw [Q8j (by omega)] at h;obtain ⟨_,_,h⟩:=Q5 h;obtain ⟨_,_,h⟩:=Q5 h;exact hg.put Q7P h
 · exact absurd e h3
 · exact absurd e h4
 · rw [Qbq (by omega)] at h
   unfold Q5j at h
   obtain ⟨t,_,h⟩:=Q5 h;obtain ⟨ts,h2,h⟩:=Q5 h
   split at h
   · cases h
   · obtain ⟨h5,h6⟩:=Q4A hg h2
     have hal:x.args.length≤8:=by
      unfold QC Q1k at hF
      simp [e] at hF;omega
     exact hg.put (.mk (by omega) h6) h
 · rw [Q8i (by omega)] at h;obtain ⟨t,h1,h⟩:=Q5 h;obtain ⟨u,h2,h⟩:=Q5 h
   exact hg.put (Ty.Short.part (hg.get (QfV h1)) u (List.mem_of_getElem? (Q5W h2))) h
 · rw [Q2B (by omega)] at h;obtain ⟨_,_,h⟩:=Q5 h;obtain ⟨_,_,h⟩:=Q5 h;obtain ⟨_,_,h⟩:=Q5 h
   split at h
   · cases h
   · cases h;exact hg
 · rw [Q8h (by omega)] at h;obtain ⟨_,_,h⟩:=Q5 h;obtain ⟨_,_,h⟩:=Q5 h;exact hg.put Q7P h
 · rw [Q8g (by omega)] at h;obtain ⟨_,_,h⟩:=Q5 h;obtain ⟨_,_,h⟩:=Q5 h;exact hg.put Q7P h
 · rw [Q5y (by omega)] at h;obtain ⟨_,_,h⟩:=Q5 h;obtain ⟨_,_,h⟩:=Q5 h;obtain ⟨_,_,h⟩:=Q5 h;cases h;exact hg
 · rw [Q6O (by omega)] at h;obtain ⟨_,_,h⟩:=Q5 h;exact hg.put Q7P h
 · rw [Q7b (by omega)] at h;exact hg.put Q7P h
 · rw [Q8k (by omega)] at h;obtain ⟨_,_,h⟩:=Q5 h;cases h;exact hg
 · rw [Q6N (by omega)] at h
   unfold Q5A at h
   split at h
   · cases h
   · rename_i g hgf
     split at h
     · cases h
     · obtain ⟨_,_,h⟩:=Q5 h;obtain ⟨_,_,h⟩:=Q5 h
       split at h
       · cases h
       · cases h
         refine ⟨hn,hg.h,fun u hu=> ?_⟩
         rcases List.mem_append.1 hu with hu|hu
         · exact hg.s u hu
         · obtain ⟨t,ht,rfl⟩:=List.mem_map.1 hu
           exact Qe1 ((hm.2 g (List.mem_of_getElem? hgf)).2.1.2 t ht)
theorem QfX {m:Module}{f:Fun}{s:JS}{x:Ins}(hm:m.Short) (hg:JGood s):JGood (jIns m f s x).2:=by
 by_cases h:(jIns m f s x).1=0
 · obtain ⟨h1,h2⟩:=QfW h;exact Qbp hm hg h1 h2
 · rw [jIns_no h];exact hg
theorem Q8m {m:Module}(hm:m.Short) (hF:m.fault.1=0){f b:Nat}{x:Fun}{y:Block}(hx:m.funcs[f]?=some x) (hy:x.blocks[b]?=some y):JGood (Q1g y):=by
 have h1:=Q1W (Q1x hF hx hy).1
 have h2:=Qbl h1.2.2.1
 refine ⟨by unfold Q1g;simp only;omega,by unfold Q1g;simp only [List.length_replicate];omega,?_⟩
 exact ((hm.2 x (List.mem_of_getElem? hx)).2.2.2 y (List.mem_of_getElem? hy)).1.2
theorem Q4x {h:List Bool}:∀{l p:List Int},Q2u h p l= .ok ()→∀r∈l,hasB h r=true
 | [],_,_,r,hr=> by cases hr
 | x ::l,p,hd,r,hr=> by
   rw [Q2u] at hd
   split at hd
   · cases hd
   · rename_i h1
     split at hd
     · cases hd
     · rcases List.mem_cons.1 hr with rfl|hr
       · simpa using h1
       · exact Q4x hd r hr
end Go.Lir
namespace Go.Lir
set_option linter.unusedVariables false
def codeOf {α:Type}(x:Except Int α):Int:=match x with
 | .error c=> c
 | .ok _=> 0
section
variable {α:Type}{x:Except Int α}{v:Value}
end
def wantC (s:JS) (k kd:Int) (held:Bool):Int:=codeOf (if held then jat s k kd else Q29 s k kd)
section
variable {s:JS}{k kd:Int}{held:Bool}{t:Ty}
end
def firstC:List Int→Int
 | []=> 0
 | x::l=> if x≠0 then x else firstC l
def rcall (m:Module) (s:JS) (x:Ins):Except Int (List Ty):=match m.funcs[x.k.toNat]? with
 | none=> .error 1
 | some g=> if (x.regs.length:Int)≠g.regs then .error 2 else QA (Q2u s.h [] x.regs) fun _=> QA (Q58 s x.args g.params x.regs) fun _=> .ok (g.results.map (renT x.regs))
def rmk (m:Module) (f:Fun) (s:JS) (x:Ins):Except Int (List Ty):=
 if x.op=1∨x.op=12 then (.ok [number])
 else if x.op=2 then (QA (Q29 s x.a 1) fun _=> QA (Q29 s x.b 1) fun _=> .ok [number])
 else if x.op=3 then (if s.h.length=16 then .error 2 else .ok [.mk 2 s.h.length []])
 else if x.op=4 then (QA (jat s x.a 2) fun t=> if t.r < f.regs then .error 11 else .ok [])
 else if x.op=5 then (QA (jat s x.a 2) fun t=> QA (jfields s x.args) fun ts=> if 4 < (Ty.mk 3 t.r ts).depth 4 then .error 19 else .ok [.mk 3 t.r ts])
 else if x.op=6 then (QA (jat s x.a 3) fun t=> QA (Q3E t x.k) fun u=> .ok [u])
 else if x.op=7 then (QA (jat s x.a 3) fun t=> QA (Q3E t x.k) fun u=> QA (jval s x.b) fun v=> if u≠v then .error 9 else .ok [])
 else if x.op=8 then (QA (jat s x.a 2) fun t=> QA (Q29 s x.b 1) fun _=> .ok [.mk 4 t.r []])
 else if x.op=9 then (QA (jat s x.a 4) fun _=> QA (Q29 s x.b 1) fun _=> .ok [number])
 else if x.op=10 then (QA (jat s x.a 4) fun _=> QA (Q29 s x.b 1) fun _=> QA (Q29 s x.c 1) fun _=> .ok [])
 else if x.op=11 then (QA (jat s x.a 4) fun _=> .ok [number])
 else if x.op=13 then (QA (Q29 s x.a 1) fun _=> .ok [])
 else rcall m s x
section
variable {m:Module}{f:Fun}{s:JS}{x:Ins}
end
section
variable {α β γ δ:Type}{x:Except Int α}{y:Except Int β}{z:Except Int γ}
end
section
variable {s:JS}{k kd:Int}
end
section
variable {s:JS}{k kd:Int}{m:Module}{f:Fun}{x:Ins}
end
theorem Qbw {n:Nat}{x:Ins}(hF:QC n x=0) (e:x.op=5):x.args.length≤8:=by
 unfold QC Q1k at hF
 simp [e] at hF;omega
end Go.Lir
namespace Go.Lir
set_option linter.unusedVariables false
theorem Tys.wrong_all {n:Int}{fields:Nat}:∀{l:List Ty},Tys.wrong fields l n=0↔∀t∈l,t.wrong fields n=0
 | []=> by simp [Tys.wrong]
 | x ::l=> by
   rw [Tys.wrong]
   constructor
   · intro h
     split at h
     · rename_i h1;exact absurd h h1
     · rename_i h1
       intro t ht
       rcases List.mem_cons.1 ht with rfl|ht
       · exact Classical.not_not.1 h1
       · exact Tys.wrong_all.1 h t ht
   · intro h
     rw [if_neg (fun hn=> hn (h x (List.mem_cons_self ..)))]
     exact Tys.wrong_all.2 fun t ht=> h t (List.mem_cons_of_mem _ ht)
theorem Ty.wrong_iff {k r n:Int}{l:List Ty}{fields:Nat}:(Ty.mk k r l).wrong fields n=0↔(1≤k∧k≤4)∧(k=1→r=0)∧(k≠3→l.length=0)∧l.length≤fields∧(k≠1→0≤r∧r < n)∧∀t∈l,t.wrong fields n=0:=by
 rw [Ty.wrong]
 constructor
 · intro h
   split at h
   · cases h
   · rename_i h1
     split at h
     · cases h
     · rename_i h2
       split at h
       · cases h
       · rename_i h3
         split at h
         · cases h
         · exact ⟨by omega,by omega,by omega,by omega,by omega,Tys.wrong_all.1 h⟩
 · rintro ⟨h1,h2,h3,h4,h5,h6⟩
   rw [if_neg (by omega),if_neg (by omega),if_neg (by omega),if_neg (by omega)]
   exact Tys.wrong_all.2 h6
theorem Ty.wrong_up {fields:Nat}{n n':Int}(hn:n≤n'):∀t:Ty,t.wrong fields n=0→t.wrong fields n'=0:=by
 intro t
 induction t using Ty.ind with
 | h k r l ih=>
   intro h
   obtain ⟨h1,h2,h3,h4,h5,h6⟩:=Ty.wrong_iff.1 h
   exact Ty.wrong_iff.2 ⟨h1,h2,h3,h4,fun hk=> by have:=h5 hk;omega,fun t ht=> ih t ht (h6 t ht)⟩
mutual
theorem Ty.ren_right {fields:Nat}{f:List Int}{n:Int}(hf:∀i:Nat,i < f.length→0≤f.getD i 0∧f.getD i 0 < n):∀(t:Ty),t.wrong fields f.length=0→∃u,t.ren f=some u∧u.wrong fields n=0
 | .mk k r l,ht=> by
   obtain ⟨h1,h2,h3,h4,h5,h6⟩:=Ty.wrong_iff.1 ht
   obtain ⟨m,hm,hml,hmw⟩:=Tys.ren_right hf l h6
   have hr:k≠1→0≤f.getD r.toNat 0∧f.getD r.toNat 0 < n:=fun hk=> hf r.toNat (by have:=h5 hk;omega)
   refine ⟨.mk k (if k≠1 then f.getD r.toNat 0 else r) m,?_,?_⟩
   · rw [Ty.ren,if_neg (by rintro ⟨hk,hb⟩;have:=h5 hk;have:=hr hk;omega),hm]
   · refine Ty.wrong_iff.2 ⟨h1,fun hk=> by rw [if_neg (by omega)];exact h2 hk,fun hk=> by rw [hml];exact h3 hk,by omega,fun hk=> by rw [if_pos hk];exact hr hk,hmw⟩
theorem Tys.ren_right {fields:Nat}{f:List Int}{n:Int}(hf:∀i:Nat,i < f.length→0≤f.getD i 0∧f.getD i 0 < n):∀(l:List Ty),(∀t∈l,t.wrong fields f.length=0)→∃m,Tys.ren l f=some m∧m.length=l.length∧∀u∈m,u.wrong fields n=0
 | [],_=> ⟨[],by rw [Tys.ren],rfl,by simp⟩
 | x::l,h=> by
   obtain ⟨y,h1,h2⟩:=Ty.ren_right hf x (h x (List.mem_cons_self ..))
   obtain ⟨m,h3,h4,h5⟩:=Tys.ren_right hf l (fun t ht=> h t (List.mem_cons_of_mem _ ht))
   refine ⟨y::m,by rw [Tys.ren,h1,h3],by simp [h4],fun u hu=> ?_⟩
   rcases List.mem_cons.1 hu with rfl|hu
   · exact h2
   · exact h5 u hu
end
structure JInv (m:Module) (f:Fun) (z:JS):Prop extends JGood z where
 wf:∀t∈z.l,t.wrong 8 z.h.length=0
 keep:∀r:Int,0≤r→r < f.regs→hasB z.h r=true
theorem Q2f {h:List Bool}{r:Int}(hr:hasB h r=true):0≤r∧r < h.length:=by have:=Q46 hr;omega
theorem Ty.fault_wrong {t:Ty}{n:Int}(h:t.fault n=0):t.wrong 8 n=0:=by
 unfold Ty.fault at h
 split at h
 · cases h
 · exact h
theorem Q9s {s:JS}{n:Int}(hw:∀t∈s.l,t.wrong 8 n=0):∀{l:List Int}{ts:List Ty},jfields s l= .ok ts→∀t∈ts,t.wrong 8 n=0
 | [],ts,h=> by rw [jfields] at h;cases h;simp
 | k::l,ts,h=> by
   rw [jfields] at h
   obtain ⟨t,h1,h⟩:=Q5 h
   obtain ⟨us,h2,h⟩:=Q5 h
   cases h
   intro u hu
   rcases List.mem_cons.1 hu with rfl|hu
   · exact hw _ (List.mem_of_getElem? (Qag h1).2)
   · exact Q9s hw h2 u hu
theorem JInv.at {m:Module}{f:Fun}{s:JS}(hg:JInv m f s){k kd:Int}{t:Ty}(h:jat s k kd= .ok t):t.wrong 8 s.h.length=0∧0≤t.r∧t.r < s.h.length∧t∈s.l:=by
 have h1:=Q9u h
 have h2:=Q2f h1.2.2.2
 exact ⟨hg.wf _ (List.mem_of_getElem? h1.2.1),h2.1,h2.2,List.mem_of_getElem? h1.2.1⟩
theorem QbX {m:Module}{f:Fun}{s:JS}{x:Ins}{t:Ty}{ts:List Ty}(hF:QC m.funcs.length x=0) (e:x.op=5) (hg:JInv m f s) (h1:jat s x.a 2= .ok t) (h2:jfields s x.args= .ok ts):
 (Ty.mk 3 t.r ts).wrong 8 s.h.length=0∧((Ty.mk 3 t.r ts).fault s.h.length≠0↔4 < (Ty.mk 3 t.r ts).depth 4):=by
 have h3:=hg.at h1
 have h4:=(Q4A hg.toJGood h2).1
 have h5:=Qbw hF e
 have hw:(Ty.mk 3 t.r ts).wrong 8 s.h.length=0:=Ty.wrong_iff.2 ⟨by omega,by omega,by omega,by omega,fun _=> by omega,Q9s hg.wf h2⟩
 refine ⟨hw,?_⟩
 have hd:=Ty.depth_iff (Ty.mk 3 t.r ts) (most:=4) (by omega)
 unfold Ty.fault
 rw [hw]
 constructor
 · intro h
   split at h
   · rename_i hb
     exact Classical.byContradiction fun hn=> by rw [hd.1 (by omega)] at hb;cases hb
   · exact absurd rfl h
 · intro h
   rw [if_pos]
   · decide
   · cases hb:(Ty.mk 3 t.r ts).deepB 4 with
     | false=> rfl
     | true=> have:=hd.2 hb;omega
theorem Q4y {s s':JS}{t:Ty}{f:Fun}(hw:∀t∈s.l,t.wrong 8 s.h.length=0) (hk:∀r:Int,0≤r→r < f.regs→hasB s.h r=true) (ht:t.wrong 8 s.h.length=0) (h:jput s t= .ok s'):
 (∀t∈s'.l,t.wrong 8 s'.h.length=0)∧(∀r:Int,0≤r→r < f.regs→hasB s'.h r=true):=by
 obtain ⟨h1,h2,h3⟩:=Qai h
 refine ⟨fun u hu=> ?_,fun r=> by rw [h2];exact hk r⟩
 rw [h3] at hu
 rw [h2]
 rcases List.mem_append.1 hu with hu|hu
 · exact hw u hu
 · simp at hu;subst hu;exact ht
theorem Qbe (n:Int):number.wrong 8 n=0:=by unfold number;exact Ty.wrong_iff.2 ⟨by omega,by omega,by simp,by simp,by omega,by simp⟩
theorem Qdz {h:List Bool}{r:Int}(hr:hasB h r=true):hasB (h++[true]) r=true:=by
 obtain ⟨h1,h2,h3⟩:=Q46 hr
 unfold hasB
 rw [List.getD_eq_getElem?_getD] at h3 ⊢
 rw [List.getElem?_append_left (by omega),h3,List.length_append]
 simp;omega
theorem QcH {h:List Bool}{r k:Int}(hr:hasB h r=true) (hk:0≤k) (hne:k≠r):hasB (h.set k.toNat false) r=true:=by
 obtain ⟨h1,h2,h3⟩:=Q46 hr
 unfold hasB
 rw [List.getD_eq_getElem?_getD] at h3 ⊢
 rw [List.getElem?_set_ne (by omega),h3,List.length_set]
 simp;omega
theorem Q7A {m:Module}{f:Fun}{s s':JS}{x:Ins}(hM:m.fault.1=0) (hm:m.Short) (hg:JInv m f s) (hF:QC m.funcs.length x=0) (h:jins m f s x= .ok s'):JInv m f s':=by
 have hG:=Qbp hm hg.toJGood hF h
 suffices hh:(∀t∈s'.l,t.wrong 8 s'.h.length=0)∧(∀r:Int,0≤r→r < f.regs→hasB s'.h r=true) from ⟨hG,hh.1,hh.2⟩
 have hop:=Q2Y hF
 have hw:=hg.wf
 have hk:=hg.keep
 rcases op_cases (op:=x.op) (by omega) (by omega) with e|e|e|e|e|e|e|e|e|e|e|e|e|e
 · rw [Q7b (by omega)] at h;exact Q4y hw hk (Qbe _) h
 · rw [Q8j e] at h;obtain ⟨_,_,h⟩:=Q5 h;obtain ⟨_,_,h⟩:=Q5 h;exact Q4y hw hk (Qbe _) h
 · rw [Qbr e] at h
   split at h
   · cases h
   · cases h
     refine ⟨fun u hu=> ?_,fun r h0 h1=> Qdz (hk r h0 h1)⟩
     rw [List.length_append]
     rcases List.mem_append.1 hu with hu|hu
     · exact Ty.wrong_up (by simp;omega) u (hw u hu)
     · simp at hu;subst hu
       exact Ty.wrong_iff.2 ⟨by omega,by omega,by simp,by simp,fun _=> by simp;omega,by simp⟩
 · rw [Q9r e] at h
   obtain ⟨t,h1,h⟩:=Q5 h
   split at h
   · cases h
   · rename_i hlt
     cases h
     have:=hg.at h1
     refine ⟨fun u hu=> by rw [List.length_set];exact hw u hu,fun r h0 h1=> QcH (hk r h0 h1) (by omega) (by omega)⟩
 · rw [Qbq e] at h;unfold Q5j at h
   obtain ⟨t,h1,h⟩:=Q5 h;obtain ⟨ts,h2,h⟩:=Q5 h
   split at h
   · cases h
   · exact Q4y hw hk (QbX hF e hg h1 h2).1 h
 · rw [Q8i e] at h;obtain ⟨t,h1,h9⟩:=Q5 h;obtain ⟨u,h2,h8⟩:=Q5 h9
   have h3:=(hg.at h1).1
   clear h h9
   obtain ⟨k,r,l⟩:=t
   exact Q4y hw hk ((Ty.wrong_iff.1 h3).2.2.2.2.2 u (List.mem_of_getElem? (Q5W h2))) h8
 · rw [Q2B e] at h;obtain ⟨_,_,h⟩:=Q5 h;obtain ⟨_,_,h⟩:=Q5 h;obtain ⟨_,_,h⟩:=Q5 h
   split at h
   · cases h
   · cases h;exact ⟨hw,hk⟩
 · rw [Q8h e] at h;obtain ⟨t,h1,h⟩:=Q5 h;obtain ⟨_,_,h⟩:=Q5 h
   have:=hg.at h1
   exact Q4y hw hk (Ty.wrong_iff.2 ⟨by omega,by omega,by simp,by simp,fun _=> by omega,by simp⟩) h
 · rw [Q8g e] at h;obtain ⟨_,_,h⟩:=Q5 h;obtain ⟨_,_,h⟩:=Q5 h;exact Q4y hw hk (Qbe _) h
 · rw [Q5y e] at h;obtain ⟨_,_,h⟩:=Q5 h;obtain ⟨_,_,h⟩:=Q5 h;obtain ⟨_,_,h⟩:=Q5 h;cases h;exact ⟨hw,hk⟩
 · rw [Q6O e] at h;obtain ⟨_,_,h⟩:=Q5 h;exact Q4y hw hk (Qbe _) h
 · rw [Q7b (by omega)] at h;exact Q4y hw hk (Qbe _) h
 · rw [Q8k e] at h;obtain ⟨_,_,h⟩:=Q5 h;cases h;exact ⟨hw,hk⟩
 · rw [Q6N e] at h
   unfold Q5A at h
   split at h
   · cases h
   · rename_i g hgf
     split at h
     · cases h
     · rename_i hrl
       obtain ⟨_,h1,h⟩:=Q5 h;obtain ⟨_,_,h⟩:=Q5 h
       split at h
       · cases h
       · cases h
         refine ⟨fun u hu=> ?_,hk⟩
         rcases List.mem_append.1 hu with hu|hu
         · exact hw u hu
         · obtain ⟨t,ht,rfl⟩:=List.mem_map.1 hu
           have h2:=Ty.fault_wrong (Q2M (Q1w (Q1R hM hgf)).2.2.2.1 t ht)
           have hall:=Q4x h1
           rw [show g.regs=(x.regs.length:Int) by omega] at h2
           obtain ⟨v,h3,h4⟩:=Ty.ren_right (n:=s.h.length) (f:=x.regs) (fun i hi=> by
            rw [List.getD_eq_getElem?_getD,List.getElem?_eq_getElem hi]
            exact Q2f (hall _ (List.getElem_mem hi))) t h2
           unfold renT
           rw [h3]
           exact h4
theorem Q6P {m:Module}(hm:m.Short) (hF:m.fault.1=0){f b:Nat}{x:Fun}{y:Block}(hx:m.funcs[f]?=some x) (hy:x.blocks[b]?=some y):JInv m x (Q1g y):=by
 have h1:=Q1W (Q1x hF hx hy).1
 have h2:=Q1w (Q1R hF hx)
 have hl:(Q1g y).h.length=y.regs.toNat:=by unfold Q1g;simp only [List.length_replicate];omega
 refine ⟨Q8m hm hF hx hy,fun t ht=> ?_,fun r h0 hr=> ?_⟩
 · rw [hl,Int.toNat_of_nonneg (by omega)]
   exact Ty.fault_wrong (Q2M h1.2.2.1 t ht)
 · unfold hasB
   rw [hl]
   unfold Q1g
   simp only
   rw [List.getD_eq_getElem?_getD,List.getElem?_replicate,if_pos (by omega)]
   simp;omega
theorem Q9y {h:List Bool}:∀{n:Nat},(∀i:Nat,i < n→h.getD i false=true)→Q1U h n=upTo n
 | 0,_=> by unfold Q1U upTo;rfl
 | n+1,hk=> by
   rw [Q5F,if_pos (hk n (by omega)),Q9y (fun i hi=> hk i (by omega))]
   unfold upTo
   rw [List.range_succ,List.map_append];rfl
theorem Q8s {h:List Bool}{n:Nat}:∀k:Nat,∃mo,Q1U h (n+k)=Q1U h n++mo∧∀r∈mo,(n:Int)≤r
 | 0=> ⟨[],by simp,by simp⟩
 | k + 1=> by
   obtain ⟨mo,h1,h2⟩:=Q8s (h:=h) (n:=n) k
   refine ⟨mo++(if h.getD (n+k) false=true then [((n+k:Nat):Int)] else []),?_,fun r hr=> ?_⟩
   · rw [show n+(k+1)=n+k+1 by omega,Q5F,h1,List.append_assoc]
   · rcases List.mem_append.1 hr with hr|hr
     · exact h2 r hr
     · split at hr
       · simp at hr;omega
       · cases hr
theorem left_iff {m:Module}{f:Fun}{s:JS}(hg:JInv m f s) (hf:0≤f.regs):(f.regs < (Q3g s.h).length↔∃r∈Q3g s.h,f.regs≤r):=by
 have hle:f.regs≤s.h.length:=by
  by_cases h:f.regs=0
  · omega
  · have:=Q2f (hg.keep (f.regs - 1) (by omega) (by omega));omega
 have h1:Q1U s.h f.regs.toNat=upTo f.regs.toNat:=Q9y fun i hi=> (Q46 (hg.keep i (by omega) (by omega))).2.2
 obtain ⟨mo,h2,h3⟩:=Q8s (h:=s.h) (n:=f.regs.toNat) (s.h.length - f.regs.toNat)
 rw [show f.regs.toNat+(s.h.length - f.regs.toNat)=s.h.length by omega,h1] at h2
 have hul:(upTo f.regs.toNat).length=f.regs.toNat:=by unfold upTo;simp
 unfold Q3g
 rw [h2,List.length_append,hul]
 constructor
 · intro h
   cases mo with
   | nil=> simp at h;omega
   | cons r mo=> exact ⟨r,by simp,by have:=h3 r (by simp);omega⟩
 · rintro ⟨r,hr,h⟩
   rcases List.mem_append.1 hr with hr|hr
   · unfold upTo at hr
     obtain ⟨i,hi,rfl⟩:=List.mem_map.1 hr
     have:=List.mem_range.1 hi
     simp only [Int.ofNat_eq_natCast] at h
     omega
   · have:0 < mo.length:=List.length_pos_of_mem hr
     omega
section
variable {m:Module}{f:Fun}{s:JS}{x:Ins}{ts:List Ty}
end
theorem mod_fb {m:Module}{f:Nat}{x:Fun}(hF:m.fault.1=0) (hx:m.funcs[f]?=some x):∀b∈x.blocks,x.regs≤b.regs:=by
 intro b hb
 obtain ⟨k,hk⟩:=List.mem_iff_getElem?.1 hb
 exact (Q1W (Q1x hF hx hk).1).1
def QH (m:Module) (f:Fun) (fi bi:Nat) (e:Tail):Nat→JS→List Ins→Flt
 | _,s,[]=> mkF (jEnd f s e) (Q74 fi bi)
 | i,s,x::l=> if (jIns m f s x).1≠0 then ((jIns m f s x).1,Q7r fi bi i) else QH m f fi bi e (i+1) (jIns m f s x).2 l
def Qx (m:Module) (f:Fun) (fi:Nat):Nat→List Block→Flt
 | _,[]=> (0,0)
 | b,y::l=> orF (QH m f fi b y.fin 0 (Q1g y) y.code) (Qx m f fi (b+1) l)
def Q1H (m:Module):Nat→List Fun→Flt
 | _,[]=> (0,0)
 | f,x::l=> orF (Qx m x f 0 x.blocks) (Q1H m (f+1) l)
def Module.runs (m:Module):Flt:=orF m.fault (Q1H m 0 m.funcs)
theorem Q73 {m:Module}{f:Fun}{fi bi:Nat}{e:Tail}:∀{l:List Ins}{i:Nat}{s:JS},(QH m f fi bi e i s l).1=0→QH m f fi bi e i s l=(0,0)
 | [],_,_,h=> by rw [QH] at h ⊢;exact Q90 _ _ h
 | x::l,i,s,h=> by
   rw [QH] at h ⊢
   split at h
   · rename_i hn;exact absurd h hn
   · rename_i hn;rw [if_neg hn];exact Q73 h
theorem Q4a {m:Module}{f:Fun}{fi:Nat}:∀{l:List Block}{b:Nat},(Qx m f fi b l).1=0→Qx m f fi b l=(0,0)
 | [],_,_=> by rw [Qx]
 | x::l,b,h=> by rw [Qx] at h ⊢;exact Qa6 Q73 Q4a h
theorem Q8A {m:Module}:∀{l:List Fun}{f:Nat},(Q1H m f l).1=0→Q1H m f l=(0,0)
 | [],_,_=> by rw [Q1H]
 | x::l,b,h=> by rw [Q1H] at h ⊢;exact Qa6 Q4a Q8A h
section
variable {m:Module}{f:Fun}{fi bi i b:Nat}{e:Tail}{s:JS}{x:Ins}{l:List Ins}{y:Block}{k:List Block}
theorem Q6l (h:(jIns m f s x).1=0):QH m f fi bi e i s (x::l)=QH m f fi bi e (i+1) (jIns m f s x).2 l:=by rw [QH,if_neg (fun hn=> hn h)]
theorem Q6k (h:(jIns m f s x).1≠0):QH m f fi bi e i s (x::l)=((jIns m f s x).1,Q7r fi bi i):=by rw [QH,if_pos h]
theorem Q9c (h:(QH m f fi b y.fin 0 (Q1g y) y.code).1=0):Qx m f fi b (y::k)=Qx m f fi (b+1) k:=by
 rw [Qx,Q73 h];exact Qe6 Q4a
theorem Q9b (h:(QH m f fi b y.fin 0 (Q1g y) y.code).1≠0):Qx m f fi b (y::k)=QH m f fi b y.fin 0 (Q1g y) y.code:=by
 rw [Qx,Qcn h]
theorem QbD {k:List Fun}(h:(Qx m f fi 0 f.blocks).1=0):Q1H m fi (f::k)=Q1H m (fi+1) k:=by
 rw [Q1H,Q4a h];exact Qe6 Q8A
theorem QbC {k:List Fun}(h:(Qx m f fi 0 f.blocks).1≠0):Q1H m fi (f::k)=Qx m f fi 0 f.blocks:=by
 rw [Q1H,Qcn h]
theorem Q7e (h:l.length≤i):QH m f fi bi e i s (l.drop i)=mkF (jEnd f s e) (Q74 fi bi):=by rw [List.drop_of_length_le h,QH]
theorem runs_at {E:Flt}{q:Nat}(hd:m.runs=Q1H m q (m.funcs.drop q)) (hf:m.funcs[q]?=some f) (hdb:Qx m f q 0 f.blocks=Qx m f q b (f.blocks.drop b)) (hy:f.blocks[b]?=some y) (h0:QH m f q b y.fin 0 (Q1g y) y.code=E) (hE:E.1≠0):m.runs=E:=by
 have h1:Qx m f q 0 f.blocks=E:=by rw [hdb,Qb hy,Q9b (by rw [h0];exact hE),h0]
 rw [hd,Qb hf,QbC (by rw [h1];exact hE),h1]
theorem runs_b {q:Nat}(hdb:Qx m f q 0 f.blocks=Qx m f q b (f.blocks.drop b)) (hy:f.blocks[b]?=some y) (h0:(QH m f q b y.fin 0 (Q1g y) y.code).1=0):Qx m f q 0 f.blocks=Qx m f q (b+1) (f.blocks.drop (b+1)):=by
 rw [hdb,Qb hy,Q9c h0]
theorem runs_f {q:Nat}(hd:m.runs=Q1H m q (m.funcs.drop q)) (hf:m.funcs[q]?=some f) (hdb:Qx m f q 0 f.blocks=Qx m f q b (f.blocks.drop b)) (hb:f.blocks.length≤b):m.runs=Q1H m (q+1) (m.funcs.drop (q+1)):=by
 rw [hd,Qb hf,QbD (by rw [hdb,List.drop_of_length_le hb,Qx])]
theorem runs_z {q:Nat}(hd:m.runs=Q1H m q (m.funcs.drop q)) (hq:m.funcs.length≤q):m.runs=(0,0):=by
 rw [hd,List.drop_of_length_le hq,Q1H]
theorem runs_no (h:m.fault.1≠0):m.runs=m.fault:=by unfold Module.runs;exact Qcn h
theorem runs_go (h:m.fault.1=0):m.runs=Q1H m 0 m.funcs:=by unfold Module.runs;rw [Module.fault_z h];exact Qe6 Q8A
end
end Go.Lir
namespace Go.Lir
set_option linter.unusedVariables false
mutual
def Ty.rn:Ty→List Int→Ty
 | .mk k r l,f=> .mk k (if k≠1 then f.getD r.toNat 0 else r) (Tys.rn l f)
def Tys.rn:List Ty→List Int→List Ty
 | [],_=> []
 | x::l,f=> x.rn f::Tys.rn l f
end
theorem Tys.rn_map (f:List Int):∀l:List Ty,Tys.rn l f=l.map fun t=> t.rn f
 | []=> by rw [Tys.rn];rfl
 | x::l=> by rw [Tys.rn,Tys.rn_map f l];rfl
theorem Ty.rn_mk (k r:Int) (l:List Ty) (f:List Int):(Ty.mk k r l).rn f= .mk k (if k≠1 then f.getD r.toNat 0 else r) (l.map fun t=> t.rn f):=by rw [Ty.rn,Tys.rn_map]
theorem Ty.rn_kind (t:Ty) (f:List Int):(t.rn f).kind=t.kind:=by obtain ⟨k,r,l⟩:=t;rw [Ty.rn];rfl
theorem Ty.rn_r {t:Ty}(f:List Int) (h:t.kind≠1):(t.rn f).r=f.getD t.r.toNat 0:=by obtain ⟨k,r,l⟩:=t;rw [Ty.rn];exact if_pos h
theorem Ty.rn_mr {k r:Int}{l:List Ty}(f:List Int) (h:k≠1):((Ty.mk k r l).rn f).r=f.getD r.toNat 0:=by rw [Ty.rn];exact if_pos h
theorem Ty.rn_l (t:Ty) (f:List Int):(t.rn f).l=t.l.map fun t=> t.rn f:=by obtain ⟨k,r,l⟩:=t;rw [Ty.rn_mk];rfl
theorem Tys.ren_map {f:List Int}:∀{l m:List Ty},(∀x∈l,∀u,x.ren f=some u→u=x.rn f)→Tys.ren l f=some m→m=l.map fun t=> t.rn f
 | [],m,_,h=> by rw [Tys.ren] at h;cases h;rfl
 | x ::l,m,hx,h=> by
   rw [Tys.ren] at h
   cases h1:x.ren f with
   | none=> rw [h1] at h;cases h
   | some y=>
     rw [h1] at h
     cases h2:Tys.ren l f with
     | none=> rw [h2] at h;cases h
     | some m2=>
       rw [h2] at h
       cases h
       rw [List.map_cons,hx x (List.mem_cons_self ..) y h1,Tys.ren_map (fun z hz=> hx z (List.mem_cons_of_mem _ hz)) h2]
theorem Ty.rn_of {f:List Int}:∀(t u:Ty),t.ren f=some u→u=t.rn f:=by
 intro t
 induction t using Ty.ind with
 | h k r l ih=>
   intro u h
   rw [Ty.ren] at h
   split at h
   · cases h
   · split at h
     · cases h
     · rename_i m hm
       cases h
       rw [Ty.rn_mk,Tys.ren_map ih hm]
theorem Ty.rn_congr {f g:List Int}{n:Int}(h:∀i:Nat,(i:Int) < n→f.getD i 0=g.getD i 0):∀t:Ty,t.wrong 8 n=0→t.rn f=t.rn g:=by
 intro t
 induction t using Ty.ind with
 | h k r l ih=>
   intro hw
   obtain ⟨h1,h2,h3,h4,h5,h6⟩:=Ty.wrong_iff.1 hw
   rw [Ty.rn_mk,Ty.rn_mk,List.map_congr_left fun x hx=> ih x hx (h6 x hx)]
   by_cases hk:k≠1
   · rw [if_pos hk,if_pos hk,h r.toNat (by have:=h5 hk;omega)]
   · rw [if_neg hk,if_neg hk]
theorem Ty.rn_rn {f g e:List Int}{n:Int}(h:∀i:Nat,(i:Int) < n→e.getD i 0=g.getD (f.getD i 0).toNat 0):∀t:Ty,t.wrong 8 n=0→(t.rn f).rn g=t.rn e:=by
 intro t
 induction t using Ty.ind with
 | h k r l ih=>
   intro hw
   obtain ⟨h1,h2,h3,h4,h5,h6⟩:=Ty.wrong_iff.1 hw
   rw [Ty.rn_mk,Ty.rn_mk,Ty.rn_mk,List.map_map]
   have hl:(l.map ((fun t:Ty=> t.rn g)∘fun t=> t.rn f))=l.map fun t=> t.rn e:=List.map_congr_left fun x hx=> ih x hx (h6 x hx)
   rw [hl]
   by_cases hk:k≠1
   · rw [if_pos hk,if_pos hk,if_pos hk,h r.toNat (by have:=h5 hk;omega)]
   · rw [if_neg hk,if_neg hk,if_neg hk]
abbrev HMap:=Int→Int→Option Ty
structure VT (Ψ:HMap) (v:Val) (t:Ty):Prop where
 kind:v.kind=t.kind
 reg:t.kind≠1→v.region=t.r
 thing:t.kind=3∨t.kind=4→Ψ v.region v.thing=some t
def Ext (Ψ Ψ':HMap):Prop:=∀k j t,Ψ k j=some t→Ψ' k j=some t
theorem VT.ext {Ψ Ψ':HMap}{v:Val}{t:Ty}(h:VT Ψ v t) (he:Ext Ψ Ψ'):VT Ψ' v t:=⟨h.kind,h.reg,fun hk=> he _ _ _ (h.thing hk)⟩
theorem Ext.refl (Ψ:HMap):Ext Ψ Ψ:=fun _ _ _ h=> h
def VTs (Ψ:HMap) (l:List Val) (ts:List Ty):Prop:=l.length=ts.length∧∀(i:Nat) (v:Val) (t:Ty),l[i]?=some v→ts[i]?=some t→VT Ψ v t
theorem VTs.ext {Ψ Ψ':HMap}{l:List Val}{ts:List Ty}(h:VTs Ψ l ts) (he:Ext Ψ Ψ'):VTs Ψ' l ts:=⟨h.1,fun i v t h1 h2=> (h.2 i v t h1 h2).ext he⟩
theorem VTs.nil (Ψ:HMap):VTs Ψ [] []:=⟨rfl,fun i v t h=> by simp at h⟩
theorem VTs.get {Ψ:HMap}{l:List Val}{ts:List Ty}(h:VTs Ψ l ts){i:Nat}{t:Ty}(ht:ts[i]?=some t):∃v,l[i]?=some v∧VT Ψ v t:=by
 have h1:=(List.getElem?_eq_some_iff.1 ht).1
 have h0:i < l.length:=by rw [h.1];exact h1
 have h2:l[i]?=some l[i]:=List.getElem?_eq_getElem h0
 exact ⟨_,h2,h.2 i _ t h2 ht⟩
theorem VTs.app {Ψ:HMap}{l l2:List Val}{ts ts2:List Ty}(h:VTs Ψ l ts) (h2:VTs Ψ l2 ts2):VTs Ψ (l++l2) (ts++ts2):=by
 refine ⟨by rw [List.length_append,List.length_append,h.1,h2.1],fun i v t hv ht=> ?_⟩
 by_cases hi:i < l.length
 · rw [List.getElem?_append_left hi] at hv
   rw [List.getElem?_append_left (by rw [←h.1];exact hi)] at ht
   exact h.2 i v t hv ht
 · rw [List.getElem?_append_right (by omega)] at hv
   rw [List.getElem?_append_right (by rw [←h.1];omega),←h.1] at ht
   exact h2.2 _ v t hv ht
theorem VTs.one {Ψ:HMap}{v:Val}{t:Ty}(h:VT Ψ v t):VTs Ψ [v] [t]:=by
 refine ⟨rfl,fun i v' t' hv ht=> ?_⟩
 cases i with
 | zero=> simp at hv ht;subst hv ht;exact h
 | succ i=> simp at hv
theorem VTs.cons {Ψ:HMap}{v:Val}{t:Ty}{l:List Val}{ts:List Ty}(h:VT Ψ v t) (h2:VTs Ψ l ts):VTs Ψ (v::l) (t::ts):=VTs.app (VTs.one h) h2
theorem VTs.set {Ψ:HMap}{l:List Val}{ts:List Ty}(h:VTs Ψ l ts){k:Nat}{v:Val}{t:Ty}(ht:ts[k]?=some t) (hv:VT Ψ v t):VTs Ψ (l.set k v) ts:=by
 refine ⟨by rw [List.length_set];exact h.1,fun i u w hu hw=> ?_⟩
 rw [List.getElem?_set] at hu
 split at hu
 · rename_i hk
   subst hk
   split at hu
   · cases hu;rw [ht] at hw;cases hw;exact hv
   · cases hu
 · exact h.2 i u w hu hw
def ThOK (Ψ:HMap) (x:Thg) (t:Ty):Prop:=x.array=decide (t.kind=4)∧(t.kind=3→VTs Ψ x.l t.l)∧(t.kind=4→x.l.length≤15∧∀v∈x.l,v.kind=1)
theorem ThOK.ext {Ψ Ψ':HMap}{x:Thg}{t:Ty}(h:ThOK Ψ x t) (he:Ext Ψ Ψ'):ThOK Ψ' x t:=⟨h.1,fun hk=> (h.2.1 hk).ext he,h.2.2⟩
theorem ThOK.tup {Ψ:HMap}{l:List Val}{t:Ty}(hk:t.kind=3) (h:VTs Ψ l t.l):ThOK Ψ ⟨false,l⟩ t:=by
 refine ⟨?_,fun _=> h,fun h4=> ?_⟩
 · rw [hk];rfl
 · rw [hk] at h4;cases h4
theorem ThOK.arr {Ψ:HMap}{l:List Val}{t:Ty}(hk:t.kind=4) (hl:l.length≤15) (h:∀v∈l,v.kind=1):ThOK Ψ ⟨true,l⟩ t:=by
 refine ⟨?_,fun h3=> ?_,fun _=> ⟨hl,h⟩⟩
 · rw [hk];rfl
 · rw [hk] at h3;cases h3
structure HTy (Ψ:HMap) (h:HpS):Prop where
 dom:∀k j t,Ψ k j=some t→0≤k∧k < h.l.length∧t.r=k∧(t.kind=3∨t.kind=4)
 here:∀k j t,Ψ k j=some t→h.has k=true→0≤j∧j < (h.reg k).l.length∧ThOK Ψ (h.thg k.toNat j.toNat) t
section
variable {Ψ Ψ':HMap}{h:HpS}{v x:Val}{t u:Ty}{k j:Int}
theorem Qdh {l:List Rgn}{left:Int}(k:Int):(⟨l,left⟩:HpS).reg k=if 0≤k then l.getD k.toNat Rgn.none else Rgn.none:=rfl
theorem Q28 (hh:h.has k=true):0≤k∧k < h.l.length∧h.l[k.toNat]?=some (h.reg k)∧(h.reg k).there=true:=by
 have hh':=hh
 unfold HpS.has HpS.reg at hh
 split at hh
 · rename_i h0
   rw [List.getD_eq_getElem?_getD] at hh
   cases hk:h.l[k.toNat]? with
   | none=> rw [hk] at hh;cases hh
   | some r=>
     have hlt:=(List.getElem?_eq_some_iff.1 hk).1
     refine ⟨h0,by omega,?_,hh'⟩
     unfold HpS.reg;rw [if_pos h0,List.getD_eq_getElem?_getD,hk];rfl
 · cases hh
theorem reg_set {l:List Rgn}{left left':Int}{m:Nat}{r:Rgn}(hm:m < l.length) (k:Int):(⟨l.set m r,left⟩:HpS).reg k=if k=m then r else (⟨l,left'⟩:HpS).reg k:=by
 rw [Qdh,Qdh]
 by_cases h0:0≤k
 · rw [if_pos h0,if_pos h0,List.getD_eq_getElem?_getD,List.getElem?_set]
   by_cases hk:k=m
   · rw [if_pos hk,if_pos (by omega),if_pos hm];rfl
   · rw [if_neg hk,if_neg (by omega),List.getD_eq_getElem?_getD]
 · rw [if_neg h0,if_neg h0,if_neg (by omega)]
theorem Qa0 {l:List Rgn}{a:Int}{r:Rgn}(k:Int):(⟨l++[r],a⟩:HpS).reg k=if k=l.length then r else (⟨l,a⟩:HpS).reg k:=by
 rw [Qdh,Qdh]
 by_cases h0:0≤k
 · rw [if_pos h0,if_pos h0,List.getD_eq_getElem?_getD,List.getD_eq_getElem?_getD]
   by_cases hk:k=l.length
   · rw [if_pos hk,List.getElem?_append_right (by omega),show k.toNat - l.length=0 by omega];rfl
   · rw [if_neg hk]
     by_cases hl:k < l.length
     · rw [List.getElem?_append_left (by omega)]
     · rw [List.getElem?_eq_none (by rw [List.length_append];simp only [List.length_cons,List.length_nil];omega),List.getElem?_eq_none (by omega)]
 · rw [if_neg h0,if_neg h0,if_neg (by omega)]
theorem can_of (hv:VT Ψ v t) (hk:t.kind=2) (hh:h.has t.r=true):h.can v=true:=by
 unfold HpS.can
 rw [hv.kind,hk,hv.reg (by omega),hh];rfl
theorem Qev (hH:HTy Ψ h) (hv:VT Ψ v t) (hk:t.kind=3∨t.kind=4) (hh:h.has t.r=true):h.at_ v=some (v.region.toNat,v.thing.toNat)∧v.region=t.r∧0≤v.thing∧v.thing < (h.reg t.r).l.length∧ThOK Ψ (h.thg v.region.toNat v.thing.toNat) t:=by
 have hr:=hv.reg (by omega)
 have hp:=hv.thing hk
 obtain ⟨h1,h2,h3⟩:=hH.here _ _ _ hp (by rw [hr];exact hh)
 refine ⟨?_,hr,h1,by rw [←hr];exact h2,h3⟩
 unfold HpS.at_
 rw [if_pos]
 exact ⟨by rw [hv.kind];exact hk,by rw [hr];exact hh,h1,h2,by rw [h3.1,hv.kind]⟩
theorem get_of (hH:HTy Ψ h) (hv:VT Ψ v t) (hk:t.kind=3) (hh:h.has t.r=true){i:Int}(h0:0≤i) (hu:t.l[i.toNat]?=some u):(h.get v i).2=0∧VT Ψ (h.get v i).1 u:=by
 obtain ⟨h1,h2,h3,h4,h5⟩:=Qev hH hv (.inl hk) hh
 obtain ⟨y,h6,h7⟩:=(h5.2.1 hk).get hu
 have h8:=(List.getElem?_eq_some_iff.1 h6).1
 unfold HpS.get
 rw [h1]
 dsimp only
 rw [if_pos ⟨h0,by omega⟩]
 refine ⟨rfl,?_⟩
 dsimp only
 rw [List.getD_eq_getElem?_getD,h6]
 exact h7
theorem geta_of (hH:HTy Ψ h) (hv:VT Ψ v t) (hk:t.kind=4) (hh:h.has t.r=true) (i:Int):(h.get v i).2=1∨((h.get v i).2=0∧(h.get v i).1.kind=1):=by
 obtain ⟨h1,h2,h3,h4,h5⟩:=Qev hH hv (.inr hk) hh
 unfold HpS.get
 rw [h1]
 dsimp only
 by_cases hi:0≤i∧i < (h.thg v.region.toNat v.thing.toNat).l.length
 · rw [if_pos hi]
   refine .inr ⟨rfl,?_⟩
   have h6:(h.thg v.region.toNat v.thing.toNat).l[i.toNat]?=some (h.thg v.region.toNat v.thing.toNat).l[i.toNat]:=List.getElem?_eq_getElem (by omega)
   dsimp only
   rw [List.getD_eq_getElem?_getD,h6]
   exact (h5.2.2 hk).2 _ (List.mem_of_getElem? h6)
 · rw [if_neg hi];exact .inl rfl
theorem len_of (hH:HTy Ψ h) (hv:VT Ψ v t) (hk:t.kind=4) (hh:h.has t.r=true):(h.len v).2=0:=by
 obtain ⟨h1,_⟩:=Qev hH hv (.inr hk) hh
 unfold HpS.len;rw [h1]
theorem hty_open (hH:HTy Ψ h):HTy Ψ h.open:=by
 by_cases hf:h.full=true
 · have e:h.open=h:=by unfold HpS.open;rw [if_pos hf]
   rw [e];exact hH
 · have e:h.open=⟨h.l++[⟨true,[],0,0⟩],h.left⟩:=by unfold HpS.open;rw [if_neg hf]
   rw [e]
   refine ⟨fun k j t hp=> ?_,fun k j t hp hh=> ?_⟩
   · obtain ⟨h1,h2,h3⟩:=hH.dom k j t hp
     exact ⟨h1,by rw [List.length_append];simp only [List.length_cons,List.length_nil];omega,h3⟩
   · obtain ⟨h1,h2,h3⟩:=hH.dom k j t hp
     have hr:(⟨h.l++[⟨true,[],0,0⟩],h.left⟩:HpS).reg k=h.reg k:=by rw [Qa0,if_neg (by omega)]
     have hr2:(⟨h.l++[⟨true,[],0,0⟩],h.left⟩:HpS).reg (k.toNat:Int)=h.reg (k.toNat:Int):=by rw [Qa0,if_neg (by omega)]
     have hh2:h.has k=true:=by unfold HpS.has at hh ⊢;rw [hr] at hh;exact hh
     obtain ⟨h4,h5,h6⟩:=hH.here k j t hp hh2
     refine ⟨h4,by rw [hr];exact h5,?_⟩
     unfold HpS.thg at h6 ⊢
     rw [hr2];exact h6
theorem hty_shut (hH:HTy Ψ h):HTy Ψ (h.shut v):=by
 cases hc:h.can v with
 | false => have e:h.shut v=h:=by unfold HpS.shut;rw [hc];rfl
            rw [e];exact hH
 | true=>
   have e:h.shut v=⟨h.l.set v.region.toNat Rgn.none,h.left+(h.reg v.region).pages⟩:=by unfold HpS.shut;rw [hc];rfl
   unfold HpS.can at hc
   rw [Bool.and_eq_true] at hc
   obtain ⟨g0,g1,g2,g3⟩:=Q28 hc.2
   rw [e]
   refine ⟨fun k j t hp=> ?_,fun k j t hp hh=> ?_⟩
   · obtain ⟨h1,h2,h3⟩:=hH.dom k j t hp
     exact ⟨h1,by rw [List.length_set];exact h2,h3⟩
   · obtain ⟨h1,h2,h3⟩:=hH.dom k j t hp
     have hr:∀q:Int,q≠v.region→(⟨h.l.set v.region.toNat Rgn.none,h.left+(h.reg v.region).pages⟩:HpS).reg q=h.reg q:=fun q hq=> by
      rw [reg_set (left':=h.left) (by omega),if_neg (by omega)]
     have hne:k≠v.region:=fun hk=> by
      unfold HpS.has at hh
      rw [reg_set (left':=h.left) (by omega),if_pos (by omega)] at hh;cases hh
     have hh2:h.has k=true:=by unfold HpS.has at hh ⊢;rw [hr k hne] at hh;exact hh
     obtain ⟨h4,h5,h6⟩:=hH.here k j t hp hh2
     refine ⟨h4,by rw [hr k hne];exact h5,?_⟩
     unfold HpS.thg at h6 ⊢
     rw [hr _ (by omega)];exact h6
def addΨ (Ψ:HMap) (a b:Int) (t:Ty):HMap:=fun k j=> if k=a∧j=b then some t else Ψ k j
theorem Qft (hH:HTy Ψ h) (hh:h.has k=true):Ext Ψ (addΨ Ψ k (h.reg k).l.length t):=by
 intro a b u hp
 unfold addΨ
 by_cases hab:a=k∧b=(h.reg k).l.length
 · obtain ⟨rfl,rfl⟩:=hab
   have:=(hH.here _ _ _ hp hh).2.1
   omega
 · rw [if_neg hab];exact hp
theorem QbH {n:Int}(hc:h.code v n=0):h.can v=true∧h.has v.region=true:=by
 unfold HpS.code at hc
 cases hx:h.can v with
 | false=> rw [hx] at hc;cases hc
 | true=>
   refine ⟨rfl,?_⟩
   unfold HpS.can at hx
   rw [Bool.and_eq_true] at hx
   exact hx.2
theorem code_of (hv:VT Ψ v t) (hk:t.kind=2) (hh:h.has t.r=true) (n:Int):h.code v n=0∨h.code v n=14:=by
 unfold HpS.code
 rw [can_of hv hk hh]
 rw [if_neg (by decide)]
 split
 · exact .inr rfl
 · exact .inl rfl
theorem Qg6 {n:Int}{x:Thg}(hH:HTy Ψ h) (hc:h.code v n=0) (hr:t.r=v.region) (hk:t.kind=3∨t.kind=4) (hx:ThOK Ψ x t):
 HTy (addΨ Ψ v.region (h.reg v.region).l.length t) (h.put v n x)∧Ext Ψ (addΨ Ψ v.region (h.reg v.region).l.length t)∧(∀q,(h.put v n x).has q=h.has q)∧VT (addΨ Ψ v.region (h.reg v.region).l.length t) (h.putV v t.kind n) t:=by
 obtain ⟨_,hh⟩:=QbH hc
 obtain ⟨g0,g1,g2,g3⟩:=Q28 hh
 have hE:=Qft (t:=t) hH hh
 have e:h.put v n x=⟨h.l.set v.region.toNat (((h.reg v.region).room n).push x),if (h.reg v.region).more n then h.left - 1 else h.left⟩:=by unfold HpS.put;rw [if_pos hc]
 have hrl:(((h.reg v.region).room n).push x).l=(h.reg v.region).l++[x]∧(((h.reg v.region).room n).push x).there=true:=by
  unfold Rgn.room Rgn.push;split <;> exact ⟨rfl,g3⟩
 have hreg:∀q:Int,(h.put v n x).reg q=if q=v.region then ((h.reg v.region).room n).push x else h.reg q:=fun q=> by
  rw [e,reg_set (left':=h.left) (by omega),show ((v.region.toNat:Nat):Int)=v.region by omega]
 have hhas:∀q,(h.put v n x).has q=h.has q:=fun q=> by
  unfold HpS.has
  rw [hreg]
  by_cases hq:q=v.region
  · rw [if_pos hq,hq,hrl.2,g3]
  · rw [if_neg hq]
 refine ⟨⟨fun k j u hp=> ?_,fun k j u hp hk2=> ?_⟩,hE,hhas,?_⟩
 · unfold addΨ at hp
   rw [show (h.put v n x).l.length=h.l.length by rw [e,List.length_set]]
   by_cases hab:k=v.region∧j=(h.reg v.region).l.length
   · rw [if_pos hab] at hp;cases hp
     exact ⟨by omega,by omega,by omega,hk⟩
   · rw [if_neg hab] at hp;exact hH.dom k j u hp
 · rw [hhas] at hk2
   unfold addΨ at hp
   by_cases hab:k=v.region∧j=(h.reg v.region).l.length
   · rw [if_pos hab] at hp;cases hp
     obtain ⟨rfl,rfl⟩:=hab
     refine ⟨by omega,by rw [hreg,if_pos rfl,hrl.1,List.length_append];simp only [List.length_cons,List.length_nil];omega,?_⟩
     unfold HpS.thg
     rw [hreg,if_pos (by omega),hrl.1,Int.toNat_natCast,List.getD_eq_getElem?_getD,List.getElem?_append_right (Nat.le_refl _),Nat.sub_self]
     exact hx.ext hE
   · rw [if_neg hab] at hp
     obtain ⟨h1,h2,h3⟩:=hH.here k j u hp hk2
     obtain ⟨d1,d2,d3⟩:=hH.dom k j u hp
     by_cases hq:k=v.region
     · subst hq
       refine ⟨h1,by rw [hreg,if_pos rfl,hrl.1,List.length_append];omega,?_⟩
       unfold HpS.thg at h3 ⊢
       rw [hreg,if_pos (by omega),hrl.1,List.getD_eq_getElem?_getD,List.getElem?_append_left (by omega),←List.getD_eq_getElem?_getD]
       rw [show ((v.region.toNat:Nat):Int)=v.region by omega] at h3
       exact h3.ext hE
     · refine ⟨h1,by rw [hreg,if_neg hq];exact h2,?_⟩
       unfold HpS.thg at h3 ⊢
       rw [hreg,if_neg (by omega)]
       exact h3.ext hE
 · have ep:h.putV v t.kind n=⟨t.kind,v.region,(h.reg v.region).l.length,0⟩:=by unfold HpS.putV;rw [if_pos hc]
   rw [ep]
   exact ⟨rfl,fun _=> hr.symm,fun _=> if_pos ⟨rfl,rfl⟩⟩
theorem Qg5 {i:Int}{y:Val}(hH:HTy Ψ h) (hv:VT Ψ v t) (hk:t.kind=3∨t.kind=4) (hh:h.has t.r=true) (hy3:t.kind=3→∀u,t.l[i.toNat]?=some u→VT Ψ y u) (hy4:t.kind=4→y.kind=1):
 HTy Ψ (h.set v i y)∧(∀q,(h.set v i y).has q=h.has q):=by
 obtain ⟨h1,h2,h3,h4,h5⟩:=Qev hH hv hk hh
 unfold HpS.set
 rw [h1]
 dsimp only
 split
 · rename_i hc
   obtain ⟨g0,g1,g2,g3⟩:=Q28 hh
   rw [←h2] at g0 g1 g2 g3 hh h4
   have hin:0≤i∧i < (h.thg v.region.toNat v.thing.toNat).l.length:=by
    unfold HpS.setC at hc
    rw [h1] at hc
    dsimp only at hc
    split at hc
    · cases hc
    · split at hc
      · assumption
      · cases hc
   have hrr:h.reg ((v.region.toNat:Nat):Int)=h.reg v.region:=by rw [show ((v.region.toNat:Nat):Int)=v.region by omega]
   have hreg:∀q:Int,(⟨h.l.set v.region.toNat ((h.reg v.region.toNat).upd v.thing.toNat ((h.thg v.region.toNat v.thing.toNat).upd i.toNat y)),h.left⟩:HpS).reg q=if q=v.region then (h.reg v.region).upd v.thing.toNat ((h.thg v.region.toNat v.thing.toNat).upd i.toNat y) else h.reg q:=fun q=> by
    rw [reg_set (left':=h.left) (by omega),hrr,show ((v.region.toNat:Nat):Int)=v.region by omega]
   have hhas:∀q,(⟨h.l.set v.region.toNat ((h.reg v.region.toNat).upd v.thing.toNat ((h.thg v.region.toNat v.thing.toNat).upd i.toNat y)),h.left⟩:HpS).has q=h.has q:=fun q=> by
    unfold HpS.has
    rw [hreg]
    by_cases hq:q=v.region
    · rw [if_pos hq,hq];rfl
    · rw [if_neg hq]
   have hlen:(⟨h.l.set v.region.toNat ((h.reg v.region.toNat).upd v.thing.toNat ((h.thg v.region.toNat v.thing.toNat).upd i.toNat y)),h.left⟩:HpS).l.length=h.l.length:=List.length_set
   generalize (⟨h.l.set v.region.toNat ((h.reg v.region.toNat).upd v.thing.toNat ((h.thg v.region.toNat v.thing.toNat).upd i.toNat y)),h.left⟩:HpS)=H at hreg hhas hlen ⊢
   refine ⟨⟨fun k j u hp=> ?_,fun k j u hp hk2=> ?_⟩,hhas⟩
   · obtain ⟨d1,d2,d3⟩:=hH.dom k j u hp
     exact ⟨d1,by rw [hlen];exact d2,d3⟩
   · rw [hhas] at hk2
     obtain ⟨e1,e2,e3⟩:=hH.here k j u hp hk2
     obtain ⟨d1,d2,d3⟩:=hH.dom k j u hp
     by_cases hq:k=v.region
     · subst hq
       refine ⟨e1,by rw [hreg,if_pos rfl];show j < ((h.reg v.region).l.set _ _).length;rw [List.length_set];exact e2,?_⟩
       unfold HpS.thg
       rw [hreg,if_pos (by omega)]
       show ThOK Ψ (((h.reg v.region).l.set v.thing.toNat _).getD j.toNat _) u
       rw [List.getD_eq_getElem?_getD,List.getElem?_set]
       by_cases hj:v.thing.toNat=j.toNat
       · rw [if_pos hj,if_pos (by omega)]
         have hjv:j=v.thing:=by omega
         subst hjv
         have hu:u=t:=by have:=hv.thing hk;rw [hp] at this;cases this;rfl
         subst hu
         refine ⟨h5.1,fun h3'=> ?_,fun h4'=> ?_⟩
         · show VTs Ψ ((h.thg v.region.toNat v.thing.toNat).l.set i.toNat y) u.l
           have h6:=h5.2.1 h3'
           have h0':i.toNat < u.l.length:=by rw [←h6.1];omega
           have h7:u.l[i.toNat]?=some u.l[i.toNat]:=List.getElem?_eq_getElem h0'
           exact h6.set h7 (hy3 h3' _ h7)
         · refine ⟨by show ((h.thg v.region.toNat v.thing.toNat).l.set i.toNat y).length≤15;rw [List.length_set];exact (h5.2.2 h4').1,fun z hz=> ?_⟩
           rcases mem_set_or hz with rfl|hz
           · exact hy4 h4'
           · exact (h5.2.2 h4').2 z hz
       · rw [if_neg hj]
         unfold HpS.thg at e3
         rw [hrr,List.getD_eq_getElem?_getD] at e3
         exact e3
     · refine ⟨e1,by rw [hreg,if_neg hq];exact e2,?_⟩
       unfold HpS.thg at e3 ⊢
       rw [hreg,if_neg (by omega)]
       exact e3
 · exact ⟨hH,fun _=> rfl⟩
theorem setC_of (hH:HTy Ψ h) (hv:VT Ψ v t) (hk:t.kind=3) (hh:h.has t.r=true){i:Int}(h0:0≤i) (hu:t.l[i.toNat]?=some u) (y:Val):h.setC v i y=0:=by
 obtain ⟨h1,h2,h3,h4,h5⟩:=Qev hH hv (.inl hk) hh
 obtain ⟨z,h6,h7⟩:=(h5.2.1 hk).get hu
 have h8:=(List.getElem?_eq_some_iff.1 h6).1
 unfold HpS.setC
 rw [h1]
 dsimp only
 rw [if_neg (by rw [h5.1,hk];simp),if_pos ⟨h0,by omega⟩]
theorem setCa_of (hH:HTy Ψ h) (hv:VT Ψ v t) (hk:t.kind=4) (hh:h.has t.r=true) (i:Int){y:Val}(hy:y.kind=1):h.setC v i y=0∨h.setC v i y=1:=by
 obtain ⟨h1,h2,h3,h4,h5⟩:=Qev hH hv (.inr hk) hh
 unfold HpS.setC
 rw [h1]
 dsimp only
 rw [if_neg (by rw [hy];simp)]
 split
 · exact .inl rfl
 · exact .inr rfl
end
end Go.Lir
namespace Go.Proofs.YteflkifmgnpbhaaGreat
open Go.Lir
set_option linter.unusedVariables false
set_option linter.unusedSimpArgs false
structure RMap where
 σ:Nat→Nat
 a:Nat→Nat→Int
def WVR (φ:RMap) (h:HpS) (v:Val) (n:Int):Prop:=
 (v.kind=1→n=v.n)∧(v.kind≠1→0≤v.region∧v.region < h.l.length)∧(v.kind=2→h.has v.region=true→n=φ.σ v.region.toNat)∧
 (v.kind=3∨v.kind=4→h.has v.region=true→0≤v.thing∧v.thing < (h.reg v.region).l.length∧n=φ.a v.region.toNat v.thing.toNat)
def WVRs (φ:RMap) (h:HpS) (l:List Val) (ns:List Int):Prop:=l.length=ns.length∧∀(i:Nat) (v:Val) (n:Int),l[i]?=some v→ns[i]?=some n→WVR φ h v n
end Go.Proofs.YteflkifmgnpbhaaGreat
namespace Go.Lir
def Thg.off (t:Thg):Int:=if t.array=true then 1 else 0
def Thg.size (t:Thg):Int:=if t.array=true then 1+t.l.length else Q1d t.l
end Go.Lir
namespace Go.Proofs.YteflkifmgnpbhaaGreat
open Go.Lir
def Lies (φ:RMap) (h:HpS) (e:EstS) (A:Int) (t:Thg):Prop:=(t.array=true→e.word A=t.l.length)∧∀(i:Nat) (v:Val),t.l[i]?=some v→WVR φ h v (e.word (A+t.off+i))
def Q4i (h:HpS) (r t:Nat) (x:Thg):Prop:=h.has r=true∧(h.reg r).l[t]?=some x
structure WHR (φ:RMap) (h:HpS) (e:EstS):Prop where
 ok:e.Ok
 left:h.left=e.p.fr.length
 cnt:e.count=h.live
 live:∀r:Nat,h.has r=true→φ.σ r < 16∧(e.reg (φ.σ r)).there=true∧((e.reg (φ.σ r)).pages.length:Int)=(h.reg r).pages∧(e.reg (φ.σ r)).used=(h.reg r).used
 inj:∀r q:Nat,h.has r=true→h.has q=true→φ.σ r=φ.σ q→r=q
 z:∀k:Nat,k < 16→(e.reg k).pages≠[]→∀j:Int,(e.reg k).used≤j→j < 16→e.p.word ((e.reg k).last*16+j)=0
 at_:∀(r t:Nat) (x:Thg),Q4i h r t x→∃q,q∈(e.reg (φ.σ r)).pages∧q*16≤φ.a r t∧φ.a r t+x.size≤q*16+(e.reg (φ.σ r)).lim q
 apart:∀(r t:Nat) (x:Thg) (r' t':Nat) (x':Thg),Q4i h r t x→Q4i h r' t' x'→¬(r=r'∧t=t')→φ.a r t+x.size≤φ.a r' t'∨φ.a r' t'+x'.size≤φ.a r t
 lies:∀(r t:Nat) (x:Thg),Q4i h r t x→Lies φ h e (φ.a r t) x
def Mono (φ:RMap) (h:HpS) (φ':RMap) (h':HpS):Prop:=∀v n,WVR φ h v n→WVR φ' h' v n
theorem Mono.refl (φ:RMap) (h:HpS):Mono φ h φ h:=fun _ _ h=> h
theorem Mono.vrs {φ φ':RMap}{h h':HpS}(hM:Mono φ h φ' h'){l:List Val}{ns:List Int}(hv:WVRs φ h l ns):WVRs φ' h' l ns:=⟨hv.1,fun i v n h1 h2=> hM _ _ (hv.2 i v n h1 h2)⟩
theorem Mono.lies {φ φ':RMap}{h h':HpS}(hM:Mono φ h φ' h'){e e':EstS}{A:Int}{t:Thg}(hw:∀i,A≤i→i < A+t.size→e'.word i=e.word i) (hl:Lies φ h e A t):Lies φ' h' e' A t:=by
 refine ⟨fun ha=> ?_,fun i v hv=> ?_⟩
 · rw [hw A (Int.le_refl _) (by unfold Thg.size;rw [if_pos ha];omega)];exact hl.1 ha
 · have hi:=(List.getElem?_eq_some_iff.1 hv).1
   rw [hw _ (by unfold Thg.off;split <;> omega) (by unfold Thg.off Thg.size Q1d;split <;> (try split) <;> omega)]
   exact hM _ _ (hl.2 i v hv)
theorem WVRs.nil (φ:RMap) (h:HpS):WVRs φ h [] []:=⟨rfl,fun i v n h1=> by simp at h1⟩
theorem WVRs.app {φ:RMap}{h:HpS}{l l2:List Val}{ns ns2:List Int}(h1:WVRs φ h l ns) (h2:WVRs φ h l2 ns2):WVRs φ h (l++l2) (ns++ns2):=by
 have e:=h1.1
 refine ⟨by rw [List.length_append,List.length_append,h1.1,h2.1],fun i v n hv hn=> ?_⟩
 by_cases hi:i < l.length
 · rw [List.getElem?_append_left hi] at hv;rw [List.getElem?_append_left (by omega)] at hn;exact h1.2 i v n hv hn
 · rw [List.getElem?_append_right (by omega)] at hv;rw [List.getElem?_append_right (by omega),←e] at hn;exact h2.2 _ v n hv hn
theorem WVRs.one {φ:RMap}{h:HpS}{v:Val}{n:Int}(hv:WVR φ h v n):WVRs φ h [v] [n]:=⟨rfl,fun i v' n' h1 h2=> by
 cases i with
 | zero=> simp at h1 h2;subst h1;subst h2;exact hv
 | succ i=> simp at h1⟩
theorem WVRs.cons {φ:RMap}{h:HpS}{v:Val}{n:Int}{l:List Val}{ns:List Int}(hv:WVR φ h v n) (h2:WVRs φ h l ns):WVRs φ h (v::l) (n::ns):=(WVRs.one hv).app h2
theorem WVRs.get {φ:RMap}{h:HpS}{l:List Val}{ns:List Int}(hl:WVRs φ h l ns){i:Nat}{v:Val}(hv:l[i]?=some v):∃n,ns[i]?=some n∧WVR φ h v n:=by
 have hi:=(List.getElem?_eq_some_iff.1 hv).1
 exact ⟨ns[i]'(by have:=hl.1;omega),List.getElem?_eq_getElem _,hl.2 i v _ hv (List.getElem?_eq_getElem _)⟩
theorem WVR.int (φ:RMap) (h:HpS) (n:Int):WVR φ h (intV n) n:=⟨fun _=> rfl,fun h=> absurd rfl h,fun h=> (by cases h),fun h=> (by rcases h with h|h <;> cases h)⟩
variable {φ:RMap}{h:HpS}{e:EstS}{v:Val}{n:Int}
theorem WHR.slot (_:WHR φ h e) (hv:WVR φ h v n) (hc:h.can v=true):∃r:Nat,v.region=r∧h.has r=true∧n=φ.σ r∧r < h.l.length:=by
 unfold HpS.can at hc
 rw [Bool.and_eq_true,decide_eq_true_iff] at hc
 have h1:=hv.2.1 (by omega)
 refine ⟨v.region.toNat,by omega,by rw [Int.toNat_of_nonneg h1.1];exact hc.2,hv.2.2.1 hc.1 hc.2,by omega⟩
theorem count_le {rs:List Reg}:rs.countP (fun r=> r.there)≤rs.length:=List.countP_le_length
theorem Q72 {α:Type}{p:α→Bool}{l:List α}{k:Nat}{r r':α}(hr:l[k]?=some r):(l.set k r').countP p+(if p r then 1 else 0)=l.countP p+if p r' then 1 else 0:=by
 have h1:=(Q4I hr).countP_eq p
 have h2:=(Q5L (x:=r') (List.getElem?_eq_some_iff.1 hr).1).countP_eq p
 rw [List.countP_cons] at h1 h2
 rw [h1,h2];omega
theorem QfH (ok:e.Ok):e.low < 16↔e.count≠16:=by
 have hl:=ok.len
 constructor
 · intro h hc
   have h1:=EstS.reg_at ok h
   have h2:=EstS.low_off ok h
   have hall:∀r∈e.rs,r.there=true:=(List.countP_eq_length (p:=fun r:Reg=> r.there)).1 (by have h9:(List.countP (fun r:Reg=> r.there) e.rs:Int)=16:=hc;rw [hl];omega)
   have:=hall _ (List.mem_of_getElem? h1)
   rw [h2] at this;cases this
 · intro hc
   by_cases h:e.low < 16
   · exact h
   · exfalso
     have hle:=EstS.low_le ok
     have h3:e.low=e.rs.length:=by omega
     have h4:=List.findIdx_eq_length.1 h3
     refine hc ?_
     unfold EstS.count
     rw [List.countP_eq_length.2 fun r hr=> by have:=h4 r hr;simpa using this]
     omega
theorem WHR.full (H:WHR φ h e):h.full=true↔e.openV < 0:=by
 have h1:=QfH H.ok
 have h2:=H.cnt
 unfold HpS.full EstS.openV
 rw [decide_eq_true_iff]
 constructor
 · intro hf;rw [if_neg (by omega)];omega
 · intro hn
   split at hn
   · omega
   · rename_i hl;by_cases hf:h.live=16
     · exact hf
     · exact absurd (h1.2 (by omega)) hl
theorem Q4V (hf:h.full=false) (r:Int):h.open=⟨h.l++[⟨true,[],0,0⟩],h.left⟩∧h.openV=⟨2,h.l.length,0,0⟩∧h.open.reg r=if r=h.l.length then ⟨true,[],0,0⟩ else h.reg r:=by
 have e1:h.open=⟨h.l++[⟨true,[],0,0⟩],h.left⟩:=by unfold HpS.open;rw [hf];rfl
 refine ⟨e1,by unfold HpS.openV;rw [hf];rfl,?_⟩
 rw [e1,Qa0]
theorem QbA {r:Int}(hr:h.has r=true):0≤r∧r < h.l.length:=⟨(Q28 hr).1,(Q28 hr).2.1⟩
theorem WHR.open (H:WHR φ h e) (hf:h.full=false):∃φ',WHR φ' h.open e.open∧Mono φ h φ' h.open∧WVR φ' h.open h.openV e.openV:=by
 have hlow:e.low < 16:=(QfH H.ok).2 (by
  have h2:=H.cnt
  unfold HpS.full at hf;rw [decide_eq_false_iff_not] at hf;omega)
 have e1:=(Q4V hf 0).1
 have e2:=(Q4V hf 0).2.1
 have eo:e.open=⟨e.p,e.rs.set e.low ⟨true,[],0⟩⟩:=by unfold EstS.open;rw [if_pos hlow]
 have ev:e.openV=e.low:=by unfold EstS.openV;rw [if_pos hlow]
 have hoff:=EstS.low_off H.ok hlow
 have hreg:∀k:Nat,e.open.reg k=if k=e.low then ⟨true,[],0⟩ else e.reg k:=fun k=> by rw [eo];exact Q51 H.ok hlow
 have hnew:h.has h.l.length=false:=by
  cases hx:h.has h.l.length with
  | false=> rfl
  | true=> have:=(QbA hx).2;omega
 have hr0:∀r:Int,h.open.has r=true→r=h.l.length∨r≠h.l.length∧h.has r=true:=fun r hr=> by
  unfold HpS.has at hr ⊢
  rw [(Q4V hf r).2.2] at hr
  by_cases hc:r=h.l.length
  · exact .inl hc
  · rw [if_neg hc] at hr;exact .inr ⟨hc,hr⟩
 have hne:∀r:Nat,h.has r=true→φ.σ r≠e.low:=fun r hr hc=> by
  have:=(H.live r hr).2.1;rw [hc,hoff] at this;cases this
 have hM:Mono φ h ⟨fun r=> if r=h.l.length then e.low else φ.σ r,φ.a⟩ h.open:=fun v n hv=> by
  refine ⟨hv.1,fun hk=> ?_,fun hk hh=> ?_,fun hk hh=> ?_⟩
  · have:=hv.2.1 hk;rw [e1];simp;omega
  · have hl:=hv.2.1 (by omega)
    rcases hr0 _ hh with hc|⟨hc,hh⟩
    · omega
    · show n=((if v.region.toNat=h.l.length then e.low else φ.σ v.region.toNat:Nat):Int);rw [if_neg (by omega)];exact hv.2.2.1 hk hh
  · have hl:=hv.2.1 (by omega)
    rcases hr0 _ hh with hc|⟨hc,hh⟩
    · omega
    · have:=hv.2.2.2 hk hh;rw [(Q4V hf v.region).2.2,if_neg hc];exact this
 have hth:∀(r t:Nat) (x:Thg),Q4i h.open r t x→r≠h.l.length∧Q4i h r t x:=fun r t x ht=> by
  obtain ⟨h1,h2⟩:=ht
  rw [(Q4V hf r).2.2] at h2
  rcases hr0 _ h1 with hc|⟨hc,hh⟩
  · rw [if_pos hc] at h2;simp at h2
  · rw [if_neg hc] at h2;exact ⟨by omega,hh,h2⟩
 refine ⟨⟨fun r=> if r=h.l.length then e.low else φ.σ r,φ.a⟩,⟨EstS.ok_open H.ok,?_,?_,?_,?_,?_,?_,?_,?_⟩,hM,?_⟩
 · rw [e1,eo];exact H.left
 · have h3:=Q72 (p:=fun r:Reg=> r.there) (r':=⟨true,[],0⟩) (EstS.reg_at H.ok hlow)
   rw [hoff] at h3
   have h4:=H.cnt
   unfold EstS.count HpS.live at h4 ⊢
   rw [eo,e1,List.countP_append]
   simp [Reg.none] at h3 ⊢
   omega
 · intro r hr
   show (if r=h.l.length then e.low else φ.σ r) < 16∧_
   rw [show (h.open.reg r)=if (r:Int)=h.l.length then ⟨true,[],0,0⟩ else h.reg r from (Q4V hf r).2.2]
   show _∧(e.open.reg ((if r=h.l.length then e.low else φ.σ r:Nat):Int)).there=true∧((e.open.reg ((if r=h.l.length then e.low else φ.σ r:Nat):Int)).pages.length:Int)=_∧(e.open.reg ((if r=h.l.length then e.low else φ.σ r:Nat):Int)).used=_
   rcases hr0 _ hr with hc|⟨hc,hh⟩
   · rw [if_pos (by omega),if_pos hc,hreg,if_pos rfl];exact ⟨hlow,rfl,rfl,rfl⟩
   · rw [if_neg (by omega),if_neg hc,hreg,if_neg (hne r hh)];exact H.live r hh
 · intro r q hr hq hs
   have hs:(if r=h.l.length then e.low else φ.σ r)=(if q=h.l.length then e.low else φ.σ q):=hs
   rcases hr0 _ hr with hc|⟨hc,hh⟩
   · rcases hr0 _ hq with hd|⟨hd,hg⟩
     · omega
     · rw [if_pos (by omega),if_neg (by omega)] at hs;exact absurd hs.symm (hne q hg)
   · rcases hr0 _ hq with hd|⟨hd,hg⟩
     · rw [if_neg (by omega),if_pos (by omega)] at hs;exact absurd hs (hne r hh)
     · rw [if_neg (by omega),if_neg (by omega)] at hs;exact H.inj r q hh hg hs
 · intro k hk hp j h1 h2
   rw [hreg] at hp h1 ⊢
   by_cases hc:k=e.low
   · rw [if_pos hc] at hp;exact absurd rfl hp
   · rw [if_neg hc] at hp h1 ⊢;rw [eo];exact H.z k hk hp j h1 h2
 · intro r t x hx
   obtain ⟨hc,hx⟩:=hth r t x hx
   show∃q,q∈(e.open.reg ((if r=h.l.length then e.low else φ.σ r:Nat):Int)).pages∧_∧_≤q*16+(e.open.reg ((if r=h.l.length then e.low else φ.σ r:Nat):Int)).lim q
   rw [if_neg hc,hreg,if_neg (hne r hx.1)]
   exact H.at_ r t x hx
 · intro r t x r' t' x' hx hx'
   exact H.apart r t x r' t' x' (hth r t x hx).2 (hth r' t' x' hx').2
 · intro r t x hx
   refine hM.lies (e:=e) (fun i _ _=> ?_) (H.lies r t x (hth r t x hx).2)
   rw [eo];rfl
 · rw [e2,ev]
   refine ⟨fun h=> (by cases h),fun _=> ?_,fun _ _=> ?_,fun h=> (by rcases h with h|h <;> cases h)⟩
   · rw [e1];simp;omega
   · show ((e.low:Nat):Int)=((if (h.l.length:Int).toNat=h.l.length then e.low else _:Nat):Int);rw [if_pos (by omega)]
theorem Qat {r:Nat}(hv:v.region=r) (hc:h.can v=true) (q:Int):h.shut v=⟨h.l.set r Rgn.none,h.left+(h.reg r).pages⟩∧(h.shut v).reg q=if q=r then Rgn.none else h.reg q:=by
 have e1:h.shut v=⟨h.l.set r Rgn.none,h.left+(h.reg r).pages⟩:=by unfold HpS.shut;rw [if_pos hc,hv,Int.toNat_natCast]
 refine ⟨e1,?_⟩
 have hr:h.has r=true:=by rw [←hv];unfold HpS.can at hc;rw [Bool.and_eq_true] at hc;exact hc.2
 rw [e1,Go.Lir.reg_set (left':=h.left) (by have:=(QbA hr).2;omega)]
theorem WHR.shut (H:WHR φ h e) (hv:WVR φ h v n) (hc:h.can v=true):WHR φ (h.shut v) (e.shut n)∧Mono φ h φ (h.shut v):=by
 obtain ⟨r0,hr0,hh0,rfl,hlt0⟩:=H.slot hv hc
 obtain ⟨hs,hth0,hpg,hus⟩:=H.live r0 hh0
 have hk:e.has (φ.σ r0)=true:=hth0
 have e1:=(Qat hr0 hc 0).1
 have eo:=EstS.shut_yes hk
 have hreg:∀k:Nat,(e.shut (φ.σ r0)).reg k=if k=φ.σ r0 then Reg.none else e.reg k:=fun k=> by rw [eo];exact Q51 H.ok hs
 have hr1:∀r:Int,(h.shut v).has r=true→r≠r0∧h.has r=true:=fun r hr=> by
  unfold HpS.has at hr ⊢
  rw [(Qat hr0 hc r).2] at hr
  by_cases hc:r=r0
  · rw [if_pos hc] at hr;cases hr
  · rw [if_neg hc] at hr;exact ⟨hc,hr⟩
 have hrg:∀r:Int,r≠r0→(h.shut v).reg r=h.reg r:=fun r hn=> by rw [(Qat hr0 hc r).2,if_neg hn]
 have hne:∀r:Nat,r≠r0→h.has r=true→φ.σ r≠φ.σ r0:=fun r hn hr hc=> hn (H.inj r r0 hr hh0 hc)
 have hM:Mono φ h φ (h.shut v):=fun u m hu=> by
  refine ⟨hu.1,fun hk=> ?_,fun hk hh=> hu.2.2.1 hk (hr1 _ hh).2,fun hk hh=> ?_⟩
  · have:=hu.2.1 hk;rw [e1];simp only [List.length_set];exact this
  · obtain ⟨g1,g2⟩:=hr1 _ hh
    rw [hrg _ g1];exact hu.2.2.2 hk g2
 have hth:∀(r t:Nat) (x:Thg),Q4i (h.shut v) r t x→r≠r0∧Q4i h r t x:=fun r t x ht=> by
  obtain ⟨h1,h2⟩:=ht
  obtain ⟨g1,g2⟩:=hr1 _ h1
  rw [hrg _ g1] at h2
  exact ⟨by omega,g2,h2⟩
 have hok:=EstS.ok_shut H.ok (φ.σ r0)
 refine ⟨⟨hok,?_,?_,?_,?_,?_,?_,?_,?_⟩,hM⟩
 · have h1:=hok.tk.len hok.pok
   have h2:=H.ok.tk.len H.ok.pok
   have h3:=(QdL (EstS.reg_at H.ok hs)).length_eq
   have h4:(e.shut (φ.σ r0)).all.length=((e.rs.eraseIdx (φ.σ r0)).flatMap Reg.pages).length:=by
    rw [eo]
    exact (Q7f (rs:=e.rs) (k:=φ.σ r0) (r':=Reg.none) (by rw [H.ok.len];exact hs)).length_eq
   have h5:(e.shut (φ.σ r0)).p.n=e.p.n:=by rw [eo];exact PoolS.n_gives
   rw [List.length_append] at h3
   have h6:=H.left
   rw [e1]
   show h.left+(h.reg r0).pages=_
   omega
 · have h3:=Q72 (p:=fun r:Reg=> r.there) (r':=Reg.none) (EstS.reg_at H.ok hs)
   have h5:=Q40 (r':=Rgn.none) (Q28 hh0).2.2.1
   rw [hth0] at h3
   rw [(Q28 hh0).2.2.2] at h5
   have h4:=H.cnt
   unfold EstS.count HpS.live at h4 ⊢
   rw [eo,e1]
   simp [Reg.none,Rgn.none] at h3 h5 ⊢
   omega
 · intro r hr
   obtain ⟨g1,g2⟩:=hr1 _ hr
   rw [hreg,if_neg (hne r (by omega) g2),hrg _ g1];exact H.live r g2
 · intro r q hr hq hs
   exact H.inj r q (hr1 _ hr).2 (hr1 _ hq).2 hs
 · intro k hk hp j h1 h2
   rw [hreg] at hp h1 ⊢
   by_cases hc:k=φ.σ r0
   · rw [if_pos hc] at hp;exact absurd rfl hp
   · rw [if_neg hc] at hp h1 ⊢;rw [eo];show (e.p.gives _).word _=0;rw [Q9e];exact H.z k hk hp j h1 h2
 · intro r t x hx
   obtain ⟨hc,hx⟩:=hth r t x hx
   rw [hreg,if_neg (hne r hc hx.1)]
   exact H.at_ r t x hx
 · intro r t x r' t' x' hx hx'
   exact H.apart r t x r' t' x' (hth r t x hx).2 (hth r' t' x' hx').2
 · intro r t x hx
   refine hM.lies (e:=e) (fun i _ _=> ?_) (H.lies r t x (hth r t x hx).2)
   rw [eo];exact Q9e
end Go.Proofs.YteflkifmgnpbhaaGreat
namespace Go.Proofs.YteflkifmgnpbhaaGreat
open Go.Lir
set_option linter.unusedVariables false
set_option linter.unusedSimpArgs false
theorem ok_st {s:EstS}(h:s.Ok) (k x:Int):(s.store k x).Ok:=⟨h.len,h.off,h.used,h.tk.store k x,PoolS.ok_store h.pok k x,by show (s.p.store k x).n≤64;rw [PoolS.n_store];exact h.n64⟩
theorem QaW {at_:Int}:∀(l:List Int) (s:EstS) (k:Nat),s.Ok→0≤at_→at_+k+l.length≤((s.p.n*16:Nat):Int)→
 (s.storesA at_ k l).Ok∧(s.storesA at_ k l).rs=s.rs∧(s.storesA at_ k l).p.n=s.p.n∧(s.storesA at_ k l).p.fr=s.p.fr∧∀i,(s.storesA at_ k l).word i=if at_+k≤i∧i < at_+k+l.length then l.getD (i - at_ - k).toNat 0 else s.word i
 | [],s,k,ok,_,_=> ⟨ok,rfl,rfl,rfl,fun i=> by rw [if_neg (by simp)];rfl⟩
 | v ::l,s,k,ok,h0,h1=> by
   rw [List.length_cons] at h1
   have hn:=ok.n64
   have hw:wr (at_+k)=at_+k:=Q4P (by omega) (by omega)
   have hin:s.p.isIn (at_+k)=true:=isIn_iff.2 (by omega)
   obtain ⟨g1,g2,g3,g4,g5⟩:=QaW l (s.store (at_+k) v) (k+1) (ok_st ok _ _) h0 (by show _≤(((s.p.store (at_+k) v).n*16:Nat):Int);rw [PoolS.n_store];omega)
   rw [EstS.storesA,hw]
   refine ⟨g1,g2,g3.trans PoolS.n_store,g4.trans PoolS.fr_store,fun i=> ?_⟩
   rw [g5,List.length_cons]
   have hs:(s.store (at_+k) v).word i=if i=at_+k then v else s.word i:=Q6o ok.pok hin i
   rw [hs]
   by_cases hi:i=at_+k
   · rw [if_neg (by omega),if_pos hi,if_pos (by omega),show (i - at_ - k).toNat=0 by omega];rfl
   · rw [if_neg hi]
     by_cases hj:at_+k≤i∧i < at_+k+(l.length+1:Nat)
     · rw [if_pos (by omega),if_pos hj,show (i - at_ - k).toNat=(i - at_ - (k+1:Nat)).toNat+1 by omega];rfl
     · rw [if_neg (by omega),if_neg hj]
theorem stores_p {at_:Int}{l:List Int}{s:EstS}(ok:s.Ok) (h0:0≤at_) (h1:at_+l.length≤((s.p.n*16:Nat):Int)):
 (s.stores at_ l).Ok∧(s.stores at_ l).rs=s.rs∧(s.stores at_ l).p.n=s.p.n∧(s.stores at_ l).p.fr=s.p.fr∧∀i,(s.stores at_ l).word i=if at_≤i∧i < at_+l.length then l.getD (i - at_).toNat 0 else s.word i:=by
 obtain ⟨g1,g2,g3,g4,g5⟩:=QaW l s 0 ok h0 (by omega)
 refine ⟨g1,g2,g3,g4,fun i=> ?_⟩
 have:=g5 i
 simp only [Int.natCast_zero,Int.add_zero,Int.sub_zero] at this
 exact this
variable {φ:RMap}{h:HpS}{e:EstS}{v:Val}{n:Int}
theorem more_iff {h:HpS}{e:EstS}{r:Rgn}{g:Reg}(h1:(g.pages.length:Int)=r.pages) (h2:g.used=r.used) (x:Int):g.more x=r.more x:=by
 unfold Reg.more Rgn.more
 rw [h2]
 have:g.pages=[]↔r.pages=0:=by rw [←h1,←List.length_eq_zero_iff];omega
 simp only [this]
theorem WHR.code (H:WHR φ h e) (hv:WVR φ h v n) (hc:h.can v=true){x:Int}(hx:1≤x∧x≤16):e.code n x=h.code v x:=by
 obtain ⟨r0,hr0,hh0,rfl,hlt0⟩:=H.slot hv hc
 obtain ⟨hs,hth0,hpg,hus⟩:=H.live r0 hh0
 have hk:e.has (φ.σ r0)=true:=hth0
 have hle:(h.left=0)=(e.p.fr=[]):=propext (by rw [H.left,←List.length_eq_zero_iff];omega)
 unfold EstS.code HpS.code
 rw [hk,hc,hr0,more_iff (h:=h) (e:=e) hpg hus,if_neg (by decide),if_neg (by omega)]
 simp only [hle]
 rfl
theorem Q7E {x:Int}(hc:h.code v x≠20):h.can v=true:=by
 unfold HpS.code at hc
 cases hx:h.can v with
 | true=> rfl
 | false=> rw [hx] at hc;exact absurd rfl hc
theorem Qd2 (t:Thg):1≤t.size:=by unfold Thg.size Q1d;split <;> (try split) <;> omega
theorem Qb8 {m:Nat}{x:Int}(ok:e.Ok) (hm:m < 16) (hc:e.code m x=0):(e.get m x).reg m=(e.regTo m x).use x∧(e.get m x).p=(if (e.reg m).more x then e.p.take else e.p)∧(e.get m x).rs=e.rs.set m ((e.regTo m x).use x):=by
 have hrs:(e.get m x).rs=e.rs.set m ((e.regTo m x).use x):=by unfold EstS.get;rw [if_pos hc,Int.toNat_natCast]
 refine ⟨?_,by unfold EstS.get;rw [if_pos hc],hrs⟩
 have e1:e.get m x=⟨(e.get m x).p,e.rs.set m ((e.regTo m x).use x)⟩:=by rw [←hrs]
 rw [e1,Q51 ok hm,if_pos rfl]
theorem WHR.addr (H:WHR φ h e){r t:Nat}{x:Thg}(ht:Q4i h r t x):0≤φ.a r t∧φ.a r t+x.size≤((e.p.n*16:Nat):Int)∧φ.a r t+x.size≤1024:=by
 obtain ⟨q,h1,h2,h3⟩:=H.at_ r t x ht
 have hs:=(H.live r ht.1).1
 obtain ⟨g1,g2,_⟩:=Qcm H.ok hs h1
 have:=Qdt H.ok hs (q:=q)
 have:=H.ok.n64
 omega
theorem Qeo {x:Int}(h0:h.code v x=0):¬((h.reg v.region).more x=true∧h.left=0):=by
 intro hc
 unfold HpS.code at h0
 split at h0
 · cases h0
 · simp [hc] at h0
theorem Qg8 {r:Nat}{x:Int}{t:Thg}(hv:v.region=r) (h0:h.code v x=0) (q:Int):
 h.put v x t=⟨h.l.set r (((h.reg r).room x).push t),if (h.reg r).more x then h.left - 1 else h.left⟩∧(h.put v x t).reg q=if q=r then ((h.reg r).room x).push t else h.reg q:=by
 have e1:h.put v x t=⟨h.l.set r (((h.reg r).room x).push t),if (h.reg r).more x then h.left - 1 else h.left⟩:=by unfold HpS.put;rw [if_pos h0,hv,Int.toNat_natCast]
 refine ⟨e1,?_⟩
 have hr:h.has r=true:=by rw [←hv];have hc:=Q7E (h:=h) (v:=v) (x:=x) (by omega);unfold HpS.can at hc;rw [Bool.and_eq_true] at hc;exact hc.2
 rw [e1,Go.Lir.reg_set (left':=h.left) (by have:=(QbA hr).2;omega)]
theorem WHR.put (H:WHR φ h e) (hv:WVR φ h v n){x:Int}{t:Thg}(hs:t.size=x) (hx:x≤16) (h0:h.code v x=0){kd:Int}(hkd:kd=3∨kd=4){e2:EstS}(ok2:e2.Ok) (hrs:e2.rs=(e.get n x).rs) (hfr:e2.p.fr=(e.get n x).p.fr)
 (hw:∀i,¬(e.getV n x≤i∧i < e.getV n x+x)→e2.word i=(e.get n x).word i) (hl:Lies φ h e2 (e.getV n x) t):∃φ',WHR φ' (h.put v x t) e2∧Mono φ h φ' (h.put v x t)∧WVR φ' (h.put v x t) (h.putV v kd x) (e.getV n x):=by
 have hx1:1≤x:=hs ▸ Qd2 t
 have hcan:=Q7E (h:=h) (v:=v) (x:=x) (by omega)
 have hc0:e.code n x=0:=(H.code hv hcan ⟨hx1,hx⟩).trans h0
 obtain ⟨r0,hr0,hh0,rfl,hlt0⟩:=H.slot hv hcan
 obtain ⟨hm,hth0,hpg,hus⟩:=H.live r0 hh0
 obtain ⟨P,u,G⟩:=getF H.ok hm hc0
 obtain ⟨gr1,gp1,grs⟩:=Qb8 H.ok hm hc0
 have hux:=G.ux
 have hmo:=more_iff (h:=h) (e:=e) hpg hus x
 have e1:=(Qg8 (t:=t) hr0 h0 0).1
 have hrg:∀q:Int,(h.put v x t).reg q=if q=r0 then ((h.reg r0).room x).push t else h.reg q:=fun q=> (Qg8 hr0 h0 q).2
 have hroom:((h.reg r0).room x).there=(h.reg r0).there∧((h.reg r0).room x).l=(h.reg r0).l:=by unfold Rgn.room;split <;> exact ⟨rfl,rfl⟩
 have hhas:∀q:Int,(h.put v x t).has q=h.has q:=fun q=> by
  unfold HpS.has;rw [hrg]
  by_cases hq:q=r0
  · rw [if_pos hq,hq];exact hroom.1
  · rw [if_neg hq]
 have hl0:((h.put v x t).reg r0).l=(h.reg r0).l++[t]:=by rw [hrg,if_pos rfl];show ((h.reg r0).room x).l++[t]=_;rw [hroom.2]
 have hln:∀q:Int,q≠r0→(h.put v x t).reg q=h.reg q:=fun q hq=> by rw [hrg,if_neg hq]
 have hreg:∀k:Nat,e2.reg k=if k=φ.σ r0 then (e.regTo (φ.σ r0) x).use x else e.reg k:=fun k=> by
  have:e2.reg k=(e.get (φ.σ r0) x).reg k:=by unfold EstS.reg;rw [hrs]
  rw [this]
  have e3:e.get (φ.σ r0) x=⟨(e.get (φ.σ r0) x).p,e.rs.set (φ.σ r0) ((e.regTo (φ.σ r0) x).use x)⟩:=by rw [←grs]
  rw [e3,Q51 H.ok hm]
 have hA:e.getV (φ.σ r0) x=P*16+u:=G.v
 have hthere:(e.regTo (φ.σ r0) x).there=true:=by unfold EstS.regTo;split <;> exact hth0
 -- what is old lies apart, and stays
 have hold:∀(r t0:Nat) (x0:Thg),Q4i h r t0 x0→(φ.a r t0+x0.size≤e.getV (φ.σ r0) x∨e.getV (φ.σ r0) x+x≤φ.a r t0)∧∀i,φ.a r t0≤i→i < φ.a r t0+x0.size→e2.word i=e.word i:=fun r t0 x0 ht=> by
  obtain ⟨q,q1,q2,q3⟩:=H.at_ r t0 x0 ht
  have hsr:=(H.live r ht.1).1
  have hlq:=Qdt H.ok hsr (q:=q)
  have hap:φ.a r t0+x0.size≤e.getV (φ.σ r0) x∨e.getV (φ.σ r0) x+x≤φ.a r t0:=by
   rw [hA]
   by_cases hq:q=P
   · by_cases hp:P∈(e.reg (φ.σ r0)).pages
     · have:=Q9L H.ok hsr hm q1 (by rw [hq];exact hp)
       obtain ⟨h6,h7⟩:=G.old hp
       have h8:(e.reg (φ.σ r)).lim q=u:=by rw [this];unfold Reg.lim;rw [if_pos (hq.trans h6),h7]
       left;omega
     · exact absurd q1 (by rw [hq];exact G.new hp _ hsr)
   · omega
  refine ⟨hap,fun i i1 i2=> ?_⟩
  rw [hw i (by omega)]
  show (e.get (φ.σ r0) x).p.word i=e.p.word i
  by_cases hi:P*16≤i∧i < P*16+16
  · by_cases hp:P∈(e.reg (φ.σ r0)).pages
    · rw [G.wo hp]
    · have hq:q=P:=by omega
      exact absurd q1 (by rw [hq];exact G.new hp _ hsr)
  · exact G.w i hi
 have hth:∀(r t0:Nat) (x0:Thg),Q4i (h.put v x t) r t0 x0→(r=r0∧t0=(h.reg r0).l.length∧x0=t)∨(¬(r=r0∧t0=(h.reg r0).l.length)∧Q4i h r t0 x0):=fun r t0 x0 ht=> by
  obtain ⟨h1,h2⟩:=ht
  rw [hhas] at h1
  by_cases hr:r=r0
  · subst hr
    rw [hl0] at h2
    by_cases h3:t0 < (h.reg r).l.length
    · rw [List.getElem?_append_left h3] at h2;exact .inr ⟨by omega,h1,h2⟩
    · rw [List.getElem?_append_right (by omega)] at h2
      cases h4:t0 - (h.reg r).l.length with
      | zero=> rw [h4] at h2;simp at h2;exact .inl ⟨rfl,by omega,h2.symm⟩
      | succ j=> rw [h4] at h2;simp at h2
  · rw [hln _ (by omega)] at h2;exact .inr ⟨fun hc=> hr hc.1,h1,h2⟩
 have hlen:(h.put v x t).l.length=h.l.length:=by rw [e1];exact List.length_set
 have hM:Mono φ h ⟨φ.σ,fun r j=> if r=r0∧j=(h.reg r0).l.length then e.getV (φ.σ r0) x else φ.a r j⟩ (h.put v x t):=fun w m hw=> by
  refine ⟨hw.1,fun hk=> ?_,fun hk hh=> hw.2.2.1 hk (by rw [←hhas];exact hh),fun hk hh=> ?_⟩
  · rw [hlen];exact hw.2.1 hk
  · obtain ⟨g1,g2,g3⟩:=hw.2.2.2 hk (by rw [←hhas];exact hh)
    have hrn:=hw.2.1 (by omega)
    show _∧_∧m=if w.region.toNat=r0∧w.thing.toNat=(h.reg r0).l.length then _ else _
    by_cases hr:w.region=r0
    · rw [hr] at g2
      rw [if_neg (by omega),hr,hl0,List.length_append]
      refine ⟨g1,by simp;omega,?_⟩
      rw [←hr];exact g3
    · rw [if_neg (by omega),hln _ hr];exact ⟨g1,g2,g3⟩
 have hlast:(e2.reg (φ.σ r0)).last=P:=by
  rw [hreg,if_pos rfl,←gr1];exact G.last
 have hused:(e2.reg (φ.σ r0)).used=u+x:=by
  have:=G.reg H.ok hm (k:=φ.σ r0)
  rw [if_pos rfl] at this
  rw [hreg,if_pos rfl,←gr1,this]
 have hmem:∀q,q=P∨q∈(e.reg (φ.σ r0)).pages→q∈(e2.reg (φ.σ r0)).pages:=fun q hq=> by
  rw [hreg,if_pos rfl,←gr1]
  rcases hq with rfl|hq
  · exact G.mem
  · exact G.sub q hq
 have hz:∀k:Nat,k < 16→(e2.reg k).pages≠[]→∀j:Int,(e2.reg k).used≤j→j < 16→e2.p.word ((e2.reg k).last*16+j)=0:=fun k hk hp j h1 h2=> by
  by_cases hkm:k=φ.σ r0
  · subst hkm
    rw [hused] at h1
    rw [hlast]
    have h3:=hw (P*16+j) (by rw [hA];omega)
    refine h3.trans ?_
    by_cases hpp:P∈(e.reg (φ.σ r0)).pages
    · obtain ⟨h6,h7⟩:=G.old hpp
      show (e.get (φ.σ r0) x).p.word _=0
      rw [G.wo hpp,h6]
      exact H.z _ hm (by intro h9;rw [h9] at hpp;simp at hpp) j (by omega) h2
    · exact G.wz hpp _ (by omega)
  · have hr:e2.reg k=e.reg k:=by rw [hreg,if_neg hkm]
    rw [hr] at hp h1 ⊢
    have hl2:=Qad hp
    have hne:(e.reg k).last≠P:=by
     intro h9
     by_cases hpp:P∈(e.reg (φ.σ r0)).pages
     · exact hkm (Q9L H.ok hk hm (h9 ▸ hl2) hpp)
     · exact G.new hpp k hk (h9 ▸ hl2)
    have:=EstS.used_rng H.ok hk
    have h3:=hw ((e.reg k).last*16+j) (by rw [hA];omega)
    refine h3.trans ?_
    exact (G.w _ (by omega)).trans (H.z k hk hp j h1 h2)
 refine ⟨⟨φ.σ,fun r j=> if r=r0∧j=(h.reg r0).l.length then e.getV (φ.σ r0) x else φ.a r j⟩,⟨ok2,?_,?_,?_,?_,hz,?_,?_,?_⟩,hM,?_⟩
 · rw [e1,hfr,gp1]
   show (if (h.reg r0).more x=true then h.left - 1 else h.left)=_
   rw [←hmo]
   have h4:=H.left
   by_cases hc:(e.reg (φ.σ r0)).more x=true
   · rw [if_pos hc,if_pos hc]
     have h5:=Qeo h0
     rw [hr0,←hmo] at h5
     have h6:e.p.fr≠[]:=fun h7=> h5 ⟨hc,by rw [h4,h7];rfl⟩
     unfold PoolS.take
     rw [if_neg h6,List.length_dropLast]
     have:0 < e.p.fr.length:=List.length_pos_iff.2 h6
     omega
   · rw [if_neg hc,if_neg hc];exact h4
 · have h3:=Q72 (p:=fun r:Reg=> r.there) (r':=(e.regTo (φ.σ r0) x).use x) (EstS.reg_at H.ok hm)
   have h5:=Q40 (r':=((h.reg r0).room x).push t) (Q28 hh0).2.2.1
   rw [hth0,show ((e.regTo (φ.σ r0) x).use x).there=true from hthere] at h3
   rw [(Q28 hh0).2.2.2,show (((h.reg r0).room x).push t).there=true from hroom.1.trans (Q28 hh0).2.2.2] at h5
   have h4:=H.cnt
   unfold EstS.count HpS.live at h4 ⊢
   rw [hrs,grs,e1]
   simp only [Int.toNat_natCast,if_true] at h3 h5 ⊢
   omega
 · intro r hr
   rw [hhas] at hr
   show φ.σ r < 16∧(e2.reg (φ.σ r)).there=true∧((e2.reg (φ.σ r)).pages.length:Int)=_∧(e2.reg (φ.σ r)).used=_
   obtain ⟨g1,g2,g3,g4⟩:=H.live r hr
   refine ⟨g1,?_⟩
   by_cases hrr:r=r0
   · subst hrr
     rw [hreg,if_pos rfl,hrg,if_pos rfl]
     refine ⟨hthere,?_⟩
     unfold EstS.regTo Rgn.room
     rw [←hmo]
     by_cases hc:(e.reg (φ.σ r)).more x=true
     · rw [if_pos hc,if_pos hc]
       refine ⟨?_,?_⟩
       · show (((e.reg (φ.σ r)).pages++[e.p.top]).length:Int)=(h.reg r).pages+1
         rw [List.length_append];simp;omega
       · show 0+x=x;omega
     · rw [if_neg hc,if_neg hc]
       exact ⟨g3,by show (e.reg (φ.σ r)).used+x=(h.reg r).used+x;omega⟩
   · rw [hreg,if_neg (fun hc=> hrr (H.inj r r0 hr hh0 hc)),hln _ (by omega)]
     exact ⟨g2,g3,g4⟩
 · intro r q hr hq hs
   rw [hhas] at hr hq
   exact H.inj r q hr hq hs
 · intro r t0 x0 hx0
   show∃q,q∈(e2.reg (φ.σ r)).pages∧q*16≤(if r=r0∧t0=(h.reg r0).l.length then e.getV (φ.σ r0) x else φ.a r t0)∧(if r=r0∧t0=(h.reg r0).l.length then e.getV (φ.σ r0) x else φ.a r t0)+x0.size≤q*16+(e2.reg (φ.σ r)).lim q
   rcases hth r t0 x0 hx0 with ⟨g1,g2,g3⟩|⟨g1,g2⟩
   · subst g1
     rw [if_pos ⟨rfl,g2⟩,g3,hs,hA]
     refine ⟨P,hmem P (.inl rfl),by omega,?_⟩
     unfold Reg.lim
     rw [if_pos hlast.symm,hused];omega
   · rw [if_neg g1]
     obtain ⟨q,q1,q2,q3⟩:=H.at_ r t0 x0 g2
     by_cases hrr:r=r0
     · subst hrr
       refine ⟨q,hmem q (.inr q1),q2,?_⟩
       have hle:=Qdt H.ok hm (q:=q)
       unfold Reg.lim
       rw [hlast,hused]
       by_cases hq:q=P
       · rw [if_pos hq]
         by_cases hp:P∈(e.reg (φ.σ r)).pages
         · obtain ⟨h6,h7⟩:=G.old hp
           have h8:(e.reg (φ.σ r)).lim q=u:=by unfold Reg.lim;rw [if_pos (hq.trans h6),h7]
           omega
         · exact absurd q1 (by rw [hq];exact hp)
       · rw [if_neg hq];omega
     · have hr:e2.reg (φ.σ r)=e.reg (φ.σ r):=by rw [hreg,if_neg (fun hc=> hrr (H.inj r r0 g2.1 hh0 hc))]
       rw [hr];exact ⟨q,q1,q2,q3⟩
 · intro r t0 x0 r' t0' x0' hx0 hx0' hn
   show (if r=r0∧t0=(h.reg r0).l.length then e.getV (φ.σ r0) x else φ.a r t0)+x0.size≤(if r'=r0∧t0'=(h.reg r0).l.length then e.getV (φ.σ r0) x else φ.a r' t0')∨(if r'=r0∧t0'=(h.reg r0).l.length then e.getV (φ.σ r0) x else φ.a r' t0')+x0'.size≤(if r=r0∧t0=(h.reg r0).l.length then e.getV (φ.σ r0) x else φ.a r t0)
   rcases hth r t0 x0 hx0 with ⟨g1,g2,g3⟩|⟨g1,g2⟩
   · rcases hth r' t0' x0' hx0' with ⟨k1,k2,k3⟩|⟨k1,k2⟩
     · exact absurd ⟨by omega,by omega⟩ hn
     · rw [if_pos ⟨g1,g2⟩,if_neg k1,g3,hs]
       exact ((hold _ _ _ k2).1).symm
   · rcases hth r' t0' x0' hx0' with ⟨k1,k2,k3⟩|⟨k1,k2⟩
     · rw [if_neg g1,if_pos ⟨k1,k2⟩,k3,hs]
       exact (hold _ _ _ g2).1
     · rw [if_neg g1,if_neg k1];exact H.apart _ _ _ _ _ _ g2 k2 hn
 · intro r t0 x0 hx0
   show Lies _ _ e2 (if r=r0∧t0=(h.reg r0).l.length then e.getV (φ.σ r0) x else φ.a r t0) x0
   rcases hth r t0 x0 hx0 with ⟨g1,g2,g3⟩|⟨g1,g2⟩
   · rw [if_pos ⟨g1,g2⟩,g3];exact hM.lies (fun _ _ _=> rfl) hl
   · rw [if_neg g1];exact hM.lies (hold _ _ _ g2).2 (H.lies _ _ _ g2)
 · have ev:h.putV v kd x=⟨kd,v.region,(h.reg v.region).l.length,0⟩:=by unfold HpS.putV;rw [if_pos h0]
   rw [ev,hr0]
   refine ⟨fun hk=> by simp at hk;omega,fun _=> ⟨by simp,by rw [hlen];show (r0:Int) < _;omega⟩,fun hk=> by simp at hk;omega,fun _ _=> ⟨by simp,?_,?_⟩⟩
   · show ((h.reg r0).l.length:Int) < (((h.put v x t).reg r0).l.length:Int)
     rw [hl0];simp;omega
   · show e.getV (φ.σ r0) x=if (r0:Int).toNat=r0∧(((h.reg r0).l.length:Nat):Int).toNat=(h.reg r0).l.length then _ else _
     rw [if_pos ⟨by omega,by omega⟩]
end Go.Proofs.YteflkifmgnpbhaaGreat
namespace Go.Proofs.YteflkifmgnpbhaaGreat
open Go.Lir
set_option linter.unusedVariables false
set_option linter.unusedSimpArgs false
variable {φ:RMap}{h:HpS}{e:EstS}{v:Val}{n:Int}
theorem at_inv {p:Nat×Nat}(ha:h.at_ v=some p):(v.kind=3∨v.kind=4)∧h.has v.region=true∧v.region=p.1∧v.thing=p.2∧Q4i h p.1 p.2 (h.thg p.1 p.2)∧(h.thg p.1 p.2).array=decide (v.kind=4):=by
 unfold HpS.at_ at ha
 split at ha
 · rename_i hc
   obtain ⟨h1,h2,h3,h4,h5⟩:=hc
   cases ha
   have hr:=(QbA h2).1
   refine ⟨h1,h2,by show v.region=(v.region.toNat:Int);omega,by show v.thing=(v.thing.toNat:Int);omega,⟨by rw [Int.toNat_of_nonneg hr];exact h2,?_⟩,h5⟩
   unfold HpS.thg
   rw [Int.toNat_of_nonneg hr,List.getD_eq_getElem?_getD,List.getElem?_eq_getElem (by omega)];rfl
 · cases ha
theorem WHR.place (H:WHR φ h e) (hv:WVR φ h v n){p:Nat×Nat}(ha:h.at_ v=some p):n=φ.a p.1 p.2∧Q4i h p.1 p.2 (h.thg p.1 p.2)∧(h.thg p.1 p.2).array=decide (v.kind=4):=by
 obtain ⟨h1,h2,h3,h4,h5,h6⟩:=at_inv ha
 refine ⟨?_,h5,h6⟩
 have:=(hv.2.2.2 h1 h2).2.2
 rw [h3,h4] at this
 exact this
theorem WHR.get (H:WHR φ h e) (hv:WVR φ h v n){k:Int}(hg:(h.get v k).2=0):∃o:Int,o=(if v.kind=4 then 1 else 0)∧0≤n∧0≤k∧n+o+k < 1024∧WVR φ h (h.get v k).1 (e.word (n+o+k)):=by
 unfold HpS.get at hg ⊢
 cases ha:h.at_ v with
 | none=> rw [ha] at hg;cases hg
 | some p=>
   rw [ha] at hg
   obtain ⟨rfl,ht,hk⟩:=H.place hv ha
   obtain ⟨g1,g2,g3⟩:=H.addr ht
   simp only at hg ⊢
   split at hg
   · rename_i hc
     rw [if_pos hc]
     have ho:(h.thg p.1 p.2).off=if v.kind=4 then 1 else 0:=by unfold Thg.off;rw [hk];simp
     have hsz:(h.thg p.1 p.2).off+(h.thg p.1 p.2).l.length≤(h.thg p.1 p.2).size:=by unfold Thg.off Thg.size Q1d;split <;> (try split) <;> omega
     refine ⟨_,ho,g1,hc.1,?_,?_⟩
     · omega
     · have hlen:k.toNat < (h.thg p.1 p.2).l.length:=by omega
       have h1:=(H.lies _ _ _ ht).2 k.toNat ((h.thg p.1 p.2).l.getD k.toNat Val.zero) (by rw [List.getD_eq_getElem?_getD,List.getElem?_eq_getElem hlen];rfl)
       rw [Int.toNat_of_nonneg hc.1] at h1
       exact h1
   · cases hg
theorem WHR.len (H:WHR φ h e) (hv:WVR φ h v n) (hk:v.kind=4) (hg:(h.len v).2=0):e.word n=(h.len v).1∧0≤n∧n+1+(h.len v).1≤1024∧∀k,(h.get v k).2=if 0≤k∧k < (h.len v).1 then 0 else 1:=by
 unfold HpS.len at hg ⊢
 unfold HpS.get
 cases ha:h.at_ v with
 | none=> rw [ha] at hg;cases hg
 | some p=>
   obtain ⟨rfl,ht,hk2⟩:=H.place hv ha
   obtain ⟨g1,g2,g3⟩:=H.addr ht
   have har:(h.thg p.1 p.2).array=true:=by rw [hk2];simp [hk]
   have hsz:(h.thg p.1 p.2).size=1+(h.thg p.1 p.2).l.length:=by unfold Thg.size;rw [if_pos har]
   refine ⟨(H.lies _ _ _ ht).1 har,g1,by simp only;omega,fun k=> ?_⟩
   simp only
   split <;> rfl
theorem get_at {k:Int}(hg:(h.get v k).2≠20):(h.len v).2=0:=by
 unfold HpS.get at hg
 unfold HpS.len
 cases ha:h.at_ v with
 | none=> rw [ha] at hg;exact absurd rfl hg
 | some p=> rfl
theorem setC_at {k:Int}{y:Val}(hg:h.setC v k y≠20):(h.len v).2=0:=by
 unfold HpS.setC at hg
 unfold HpS.len
 cases ha:h.at_ v with
 | none=> rw [ha] at hg;exact absurd rfl hg
 | some p=> rfl
theorem setC_rng (hk:v.kind=4){k:Int}{y:Val}(hg:h.setC v k y≠20):h.setC v k y=if 0≤k∧k < (h.len v).1 then 0 else 1:=by
 unfold HpS.setC at hg ⊢
 unfold HpS.len
 cases ha:h.at_ v with
 | none=> rw [ha] at hg;exact absurd rfl hg
 | some p=>
   rw [ha] at hg
   simp only at hg ⊢
   split at hg
   · exact absurd rfl hg
   · rename_i hc;rw [if_neg hc]
theorem WHR.set (H:WHR φ h e) (hv:WVR φ h v n){k ny:Int}{y:Val}(hy:WVR φ h y ny) (hg:h.setC v k y=0):∃o:Int,o=(if v.kind=4 then 1 else 0)∧0≤n∧0≤k∧n+o+k < 1024∧WHR φ (h.set v k y) (e.store (n+o+k) ny)∧Mono φ h φ (h.set v k y):=by
 have hg0:=hg
 unfold HpS.setC at hg
 unfold HpS.set
 rw [hg0]
 cases ha:h.at_ v with
 | none=> rw [ha] at hg;cases hg
 | some p =>
   rw [ha] at hg
   obtain ⟨rfl,ht,hk⟩:=H.place hv ha
   obtain ⟨g1,g2,g3⟩:=H.addr ht
   obtain ⟨r,t⟩:=p
   simp only at hg ht hk g1 g2 g3 hv ⊢
   split at hg
   · cases hg
   · split at hg
     · rename_i hc
       rw [if_pos trivial]
       have ho:(h.thg r t).off=if v.kind=4 then 1 else 0:=by unfold Thg.off;rw [hk];simp
       have hsz:(h.thg r t).off+(h.thg r t).l.length≤(h.thg r t).size:=by unfold Thg.off Thg.size Q1d;split <;> (try split) <;> omega
       have ho0:0≤(h.thg r t).off:=by unfold Thg.off;split <;> omega
       have hrg:∀q:Int,(⟨h.l.set r ((h.reg r).upd t ((h.thg r t).upd k.toNat y)),h.left⟩:HpS).reg q=if q=r then (h.reg r).upd t ((h.thg r t).upd k.toNat y) else h.reg q:=fun q=> Go.Lir.reg_set (left':=h.left) (by have:=(QbA ht.1).2;omega) q
       have hhas:∀q:Int,(⟨h.l.set r ((h.reg r).upd t ((h.thg r t).upd k.toNat y)),h.left⟩:HpS).has q=h.has q:=fun q=> by
        unfold HpS.has;rw [hrg]
        by_cases hq:q=r
        · rw [if_pos hq,hq];rfl
        · rw [if_neg hq]
       have hlen:∀q:Int,((⟨h.l.set r ((h.reg r).upd t ((h.thg r t).upd k.toNat y)),h.left⟩:HpS).reg q).l.length=(h.reg q).l.length:=fun q=> by
        rw [hrg]
        by_cases hq:q=r
        · rw [if_pos hq,hq];show ((h.reg r).l.set t _).length=_;rw [List.length_set]
        · rw [if_neg hq]
       have hM:Mono φ h φ ⟨h.l.set r ((h.reg r).upd t ((h.thg r t).upd k.toNat y)),h.left⟩:=fun u m hu=> by
        refine ⟨hu.1,fun hk=> ?_,fun hk hh=> hu.2.2.1 hk (by rw [←hhas];exact hh),fun hk hh=> ?_⟩
        · simp only [List.length_set];exact hu.2.1 hk
        · rw [hlen];exact hu.2.2.2 hk (by rw [←hhas];exact hh)
       have hreg:∀q:Int,q≠r→(⟨h.l.set r ((h.reg r).upd t ((h.thg r t).upd k.toNat y)),h.left⟩:HpS).reg q=h.reg q:=fun q hq=> by rw [hrg,if_neg hq]
       have hth:∀(r' t':Nat) (x:Thg),Q4i ⟨h.l.set r ((h.reg r).upd t ((h.thg r t).upd k.toNat y)),h.left⟩ r' t' x→(r'=r∧t'=t∧x=(h.thg r t).upd k.toNat y)∨(¬(r'=r∧t'=t)∧Q4i h r' t' x):=fun r' t' x hx=> by
        obtain ⟨h1,h2⟩:=hx
        rw [hhas] at h1
        by_cases hr:r'=r
        · subst hr
          rw [hrg,if_pos rfl] at h2
          have h2:((h.reg r').l.set t ((h.thg r' t).upd k.toNat y))[t']?=some x:=h2
          by_cases ht':t'=t
          · subst ht'
            rw [List.getElem?_set_self (List.getElem?_eq_some_iff.1 ht.2).1] at h2
            cases h2;exact .inl ⟨rfl,rfl,rfl⟩
          · rw [List.getElem?_set_ne (Ne.symm ht')] at h2
            exact .inr ⟨fun hc=> ht' hc.2,h1,h2⟩
        · rw [hreg _ (by omega)] at h2;exact .inr ⟨fun hc=> hr hc.1,h1,h2⟩
       have hsame:∀(r' t':Nat) (x:Thg),Q4i ⟨h.l.set r ((h.reg r).upd t ((h.thg r t).upd k.toNat y)),h.left⟩ r' t' x→∃x0,Q4i h r' t' x0∧x0.size=x.size:=fun r' t' x hx=> by
        rcases hth r' t' x hx with ⟨rfl,rfl,rfl⟩|⟨_,hx⟩
        · exact ⟨_,ht,by unfold Thg.size Thg.upd Q1d;simp⟩
        · exact ⟨x,hx,rfl⟩
       have hin:e.p.isIn (φ.a r t+(h.thg r t).off+k)=true:=isIn_iff.2 (by omega)
       have hw:∀i,(e.store (φ.a r t+(h.thg r t).off+k) ny).word i=if i=φ.a r t+(h.thg r t).off+k then ny else e.word i:=Q6o H.ok.pok hin
       refine ⟨_,ho,g1,hc.1,by omega,?_⟩
       refine ⟨⟨ok_st H.ok _ _,by show h.left=((e.p.store _ _).fr.length:Int);rw [PoolS.fr_store];exact H.left,?_,fun r' hr'=> ?_,fun r' q hr hq hs=> H.inj r' q (by rw [←hhas];exact hr) (by rw [←hhas];exact hq) hs,fun k' hk' hp j h1 h2=> ?_,fun r' t' x hx=> ?_,fun r' t' x r2 t2 x2 hx hx2 hn=> ?_,fun r' t' x hx=> ?_⟩,hM⟩
       · have h5:=Q40 (r':=(h.reg r).upd t ((h.thg r t).upd k.toNat y)) (Q28 ht.1).2.2.1
         rw [show ((h.reg r).upd t ((h.thg r t).upd k.toNat y)).there=(h.reg r).there from rfl] at h5
         have h4:=H.cnt
         unfold HpS.live at h4 ⊢
         simp only [Int.toNat_natCast] at h5 ⊢
         have h6:∀q:EstS,q.rs=e.rs→q.count=e.count:=fun q hq=> by unfold EstS.count;rw [hq]
         rw [h6 (e.store _ _) rfl]
         omega
       · rw [hhas] at hr'
         obtain ⟨k1,k2,k3,k4⟩:=H.live r' hr'
         refine ⟨k1,k2,?_⟩
         rw [hrg]
         by_cases hq:(r':Int)=r
         · rw [if_pos hq,←hq];exact ⟨k3,k4⟩
         · rw [if_neg hq];exact ⟨k3,k4⟩
       · have h3:=hw ((e.reg k').last*16+j)
         refine h3.trans ?_
         obtain ⟨q,q1,q2,q3⟩:=H.at_ r t _ ht
         have hs:=(H.live r ht.1).1
         have hlq:=Qdt H.ok hs (q:=q)
         have hu:=EstS.used_rng H.ok hk'
         have h1:(e.reg k').used≤j:=h1
         have hp:(e.reg k').pages≠[]:=hp
         rw [if_neg]
         · exact H.z k' hk' hp j h1 h2
         · intro hc2
           have hqe:q=(e.reg k').last:=by omega
           have hkk:=Q9L H.ok hs hk' q1 (hqe ▸ Qad hp)
           have:(e.reg (φ.σ r)).lim q=(e.reg (φ.σ r)).used:=by unfold Reg.lim;rw [if_pos (by rw [hqe,hkk])]
           rw [hkk] at this q3
           omega
       · obtain ⟨x0,hx0,hs0⟩:=hsame r' t' x hx
         rw [←hs0];exact H.at_ r' t' x0 hx0
       · obtain ⟨x0,hx0,hs0⟩:=hsame r' t' x hx
         obtain ⟨y0,hy0,hs1⟩:=hsame r2 t2 x2 hx2
         rw [←hs0,←hs1];exact H.apart _ _ _ _ _ _ hx0 hy0 hn
       · rcases hth r' t' x hx with ⟨rfl,rfl,rfl⟩|⟨hn,hx⟩
         · have hl:=H.lies _ _ _ ht
           refine ⟨fun har=> ?_,fun i u hu=> ?_⟩
           · have har':(h.thg r' t').array=true:=har
             rw [hw,if_neg (by unfold Thg.off;rw [if_pos har'];omega)]
             rw [hl.1 har']
             show ((h.thg r' t').l.length:Int)=(((h.thg r' t').l.set k.toNat y).length:Int)
             rw [List.length_set]
           · have hu:((h.thg r' t').l.set k.toNat y)[i]?=some u:=hu
             show WVR φ _ u ((e.store _ ny).word (φ.a r' t'+(h.thg r' t').off+i))
             rw [hw]
             by_cases hik:i=k.toNat
             · subst hik
               rw [List.getElem?_set_self (by omega)] at hu
               cases hu
               rw [if_pos (by omega)];exact hM _ _ hy
             · rw [List.getElem?_set_ne (Ne.symm hik)] at hu
               rw [if_neg (by omega)];exact hM _ _ (hl.2 i u hu)
         · have hap:=H.apart _ _ _ _ _ _ hx ht hn
           refine hM.lies (e:=e) (fun i i1 i2=> ?_) (H.lies _ _ _ hx)
           rw [hw,if_neg (by omega)]
     · cases hg
end Go.Proofs.YteflkifmgnpbhaaGreat
namespace Go.Proofs.YteflkifmgnpbhaaGreat
open Go.Lir
set_option linter.unusedVariables false
set_option linter.unusedSimpArgs false
def FrR (φ:RMap) (h:HpS) (g:Frm) (g':RFrm):Prop:=g.f=g'.f∧g.b=g'.b∧g.i=g'.i∧WVRs φ h g.vals g'.vals
def FrsR (φ:RMap) (h:HpS):List Frm→List RFrm→Prop
 | [],[]=> True
 | a::l,b::l'=> FrR φ h a b∧FrsR φ h l l'
 | _,_=> False
structure SimF (φ:RMap) (s:MS) (r:RS):Prop where
 hr:WHR φ s.h r.e
 g:FrR φ s.h s.g r.g
 st:FrsR φ s.h s.st r.st
 inp:s.inp=r.inp
 out:s.out=r.out
 fuel:s.fuel=r.fuel
def Sim (s:MS) (r:RS):Prop:=∃φ,SimF φ s r
def StpR:Stp→RStp→Prop
 | .lost,_=> True
 | .go s,r=>∃r',r= .go r'∧Sim s r'
 | .halt e,r=> r= .halt e
 | .done l,r=> r= .done l
theorem Q33 {α:Type}{x:Option α}{f:α→Stp}{Y:RStp}(h:∀a,x=some a→StpR (f a) Y):StpR (Q14 x f) Y:=by
 cases x with
 | none=> trivial
 | some a=> exact h a rfl
theorem Q8X {p:Prop} [Decidable p] {X:Stp}{Y:RStp}(h:¬p→StpR X Y):StpR (if p then .lost else X) Y:=by
 split
 · trivial
 · rename_i hp;exact h hp
variable {m:Module}{φ φ':RMap}{h h':HpS}{s:MS}{r:RS}{k:Int}
theorem Mono.frs (hM:Mono φ h φ' h'):∀{l:List Frm}{l':List RFrm},FrsR φ h l l'→FrsR φ' h' l l'
 | [],[],_=> trivial
 | a::l,b::l',hf=> ⟨⟨hf.1.1,hf.1.2.1,hf.1.2.2.1,hM.vrs hf.1.2.2.2⟩,Mono.frs hM hf.2⟩
 | [],_::_,hf=> hf.elim
 | _::_,[],hf=> hf.elim
theorem QcJ:∀{l:List Frm}{l':List RFrm},FrsR φ h l l'→l.length=l'.length
 | [],[],_=> rfl
 | a::l,b::l',hf=> by rw [List.length_cons,List.length_cons,QcJ hf.2]
 | [],_::_,hf=> hf.elim
 | _::_,[],hf=> hf.elim
theorem Q7J {g:Frm}{g':RFrm}(hf:FrR φ h g g'){v:Val}(hv:g.val k=some v):∃n,g'.val k=some n∧WVR φ h v n:=by
 unfold Frm.val at hv
 unfold RFrm.val
 split at hv
 · cases hv
 · rename_i hk
   rw [if_neg hk]
   exact hf.2.2.2.get hv
theorem Qbf {g:Frm}{g':RFrm}(hf:FrR φ h g g'){n:Int}(hv:g.num k=some n):g'.val k=some n:=by
 unfold Frm.num at hv
 cases hx:g.val k with
 | none=> rw [hx] at hv;cases hv
 | some v=>
   rw [hx] at hv
   simp only at hv
   split at hv
   · rename_i hk
     cases hv
     obtain ⟨n,hn,hr⟩:=Q7J hf hx
     rw [hn,hr.1 hk]
   · cases hv
theorem QbQ {g:Frm}{g':RFrm}(hf:FrR φ h g g'):∀{l:List Int}{vs:List Val},g.args l=some vs→∃ns,g'.args l=some ns∧WVRs φ h vs ns∧vs.length=l.length
 | [],vs,hv=> by rw [Frm.args] at hv;cases hv;exact ⟨[],rfl,WVRs.nil _ _,rfl⟩
 | k ::l,vs,hv=> by
   rw [Frm.args] at hv
   cases hx:g.val k with
   | none=> rw [hx] at hv;cases hv
   | some v=>
     rw [hx] at hv
     cases hl:g.args l with
     | none=> rw [hl] at hv;cases hv
     | some ws=>
       rw [hl] at hv
       cases hv
       obtain ⟨n,hn,hr⟩:=Q7J hf hx
       obtain ⟨ns,hns,hrs,hlen⟩:=QbQ hf hl
       exact ⟨n::ns,by rw [RFrm.args,hn,hns],WVRs.cons hr hrs,by rw [List.length_cons,List.length_cons,hlen]⟩
theorem SimF.put (S:SimF φ s r){vs:List Val}{ns:List Int}(hv:WVRs φ s.h vs ns):SimF φ (s.put vs) (r.put ns):=
 ⟨S.hr,⟨S.g.1,S.g.2.1,S.g.2.2.1,S.g.2.2.2.app hv⟩,S.st,S.inp,S.out,S.fuel⟩
theorem SimF.heap (S:SimF φ s r){h':HpS}{e':EstS}(H:WHR φ' h' e') (hM:Mono φ s.h φ' h'):SimF φ' (s.hp h') (r.es e'):=
 ⟨H,⟨S.g.1,S.g.2.1,S.g.2.2.1,hM.vrs S.g.2.2.2⟩,hM.frs S.st,S.inp,S.out,S.fuel⟩
theorem go_r {s':MS}{r':RS}(S:SimF φ s' r'):StpR (.go s') (.go r'):=⟨r',rfl,φ,S⟩
theorem wr_s {n:Int}(h0:0≤n) (h1:n≤100000):wr n=n:=Q4P (by omega) (by omega)
theorem new_r (S:SimF φ s r):StpR s.newR (if r.e.openV < 0 then .halt 6 else .go ((r.es r.e.open).put [r.e.openV])):=by
 unfold MS.newR
 have hf:=S.hr.full
 by_cases hc:s.h.full=true
 · rw [if_pos hc,if_pos (hf.1 hc)];rfl
 · rw [if_neg hc,if_neg (fun h=> hc (hf.2 h))]
   obtain ⟨φ',H',hM,hv⟩:=S.hr.open (by simpa using hc)
   exact go_r (φ:=φ') ⟨H',⟨S.g.1,S.g.2.1,S.g.2.2.1,(hM.vrs S.g.2.2.2).app (WVRs.one hv)⟩,hM.frs S.st,S.inp,S.out,S.fuel⟩
theorem made_r (S:SimF φ s r){v:Val}{n:Int}(hv:WVR φ s.h v n){x:Int}{t:Thg}(hs:t.size=x) (hx:x≤16){kd:Int}(hkd:kd=3∨kd=4) (f:EstS→Int→EstS)
 (hf:s.h.code v x=0→∀A,A=r.e.getV n x→(f (r.e.get n x) A).Ok∧(f (r.e.get n x) A).rs=(r.e.get n x).rs∧(f (r.e.get n x) A).p.fr=(r.e.get n x).p.fr∧(∀i,¬(A≤i∧i < A+x)→(f (r.e.get n x) A).word i=(r.e.get n x).word i)∧Lies φ s.h (f (r.e.get n x) A) A t):
 StpR (s.made (s.h.code v x) (s.h.put v x t) (s.h.putV v kd x)) (r.gotR n x fun e at_=> .go ((r.es (f e at_)).put [at_])):=by
 unfold MS.made
 have hx1:1≤x:=hs ▸ Qd2 t
 by_cases h20:s.h.code v x=20
 · rw [if_neg (by omega),if_pos (by omega)];trivial
 · have hc:=S.hr.code hv (Q7E h20) ⟨hx1,hx⟩
   unfold RS.gotR
   rw [hc]
   by_cases h14:s.h.code v x=14
   · rw [if_pos h14,if_pos h14];rfl
   · rw [if_neg h14,if_neg h14]
     refine Q8X fun h0=> ?_
     have h0:s.h.code v x=0:=by omega
     obtain ⟨g1,g2,g3,g4,g5⟩:=hf h0 _ rfl
     obtain ⟨φ',H',hM,hv'⟩:=S.hr.put hv hs hx h0 hkd g1 g2 g3 g4 g5
     exact go_r ((S.heap H' hM).put (WVRs.one hv'))
theorem got_in (H:WHR φ h r.e){v:Val}{n:Int}(hv:WVR φ h v n){x:Int}(hx1:1≤x) (hx:x≤16) (h0:h.code v x=0):(r.e.get n x).Ok∧0≤r.e.getV n x∧r.e.getV n x+x≤(((r.e.get n x).p.n*16:Nat):Int)∧r.e.getV n x+x≤1024∧∀i,r.e.getV n x≤i→i < r.e.getV n x+x→(r.e.get n x).word i=0:=by
 have hcan:=Q7E (h:=h) (v:=v) (x:=x) (by omega)
 have hc0:r.e.code n x=0:=(H.code hv hcan ⟨hx1,hx⟩).trans h0
 obtain ⟨r0,hr0,hh0,rfl,hlt0⟩:=H.slot hv hcan
 obtain ⟨hm,hth0,hpg,hus⟩:=H.live r0 hh0
 obtain ⟨P,u,G⟩:=getF H.ok hm hc0
 have hok:=EstS.ok_get H.ok (φ.σ r0) x
 have hux:=G.ux
 have hv:=G.v
 have hp:=Qcm hok hm G.mem
 have h64:=hok.n64
 refine ⟨hok,by omega,by omega,by omega,fun i i1 i2=> ?_⟩
 show (r.e.get (φ.σ r0) x).p.word i=0
 by_cases hpp:P∈(r.e.reg (φ.σ r0)).pages
 · obtain ⟨h6,h7⟩:=G.old hpp
   rw [G.wo hpp]
   have:=H.z _ hm (by intro h9;rw [h9] at hpp;simp at hpp) (i - P*16) (by omega) (by omega)
   rw [←h6,show P*16+(i - P*16)=i by omega] at this
   exact this
 · exact G.wz hpp _ (by omega)
theorem tuple_r (S:SimF φ s r){v:Val}{n:Int}(hv:WVR φ s.h v n){l:List Val}{ns:List Int}(hl:WVRs φ s.h l ns){q:Nat}(hq:l.length=q) (h16:q≤16):
 StpR (s.made (s.h.code v (Q1d l)) (s.h.tuple v l) (s.h.putV v 3 (Q1d l))) (r.gotR n (max (q:Int) 1) fun e at_=> .go ((r.es (e.stores at_ ns)).put [at_])):=by
 have hw:max (q:Int) 1=Q1d l:=by unfold Q1d;split <;> omega
 rw [hw]
 have hw1:1≤Q1d l∧Q1d l≤16∧(l.length:Int)≤Q1d l:=by unfold Q1d;split <;> omega
 have hln:=hl.1
 refine made_r S hv (t:=⟨false,l⟩) (by unfold Thg.size;rfl) hw1.2.1 (.inl rfl) (fun e a=> e.stores a ns) fun h0 A hA=> ?_
 subst hA
 obtain ⟨hok,a0,a1,a2,az⟩:=got_in S.hr hv hw1.1 hw1.2.1 h0
 obtain ⟨g1,g2,g3,g4,g5⟩:=stores_p (l:=ns) hok a0 (by omega)
 refine ⟨g1,g2,g4,fun i hi=> (by rw [g5,if_neg (by omega)]),fun ha=> (by cases ha),fun i u hu=> ?_⟩
 have hi:=(List.getElem?_eq_some_iff.1 hu).1
 have hi:i < l.length:=hi
 rw [g5]
 show WVR φ s.h u (if r.e.getV n (Q1d l)≤r.e.getV n (Q1d l)+0+i∧r.e.getV n (Q1d l)+0+i < r.e.getV n (Q1d l)+ns.length then ns.getD (r.e.getV n (Q1d l)+0+i - r.e.getV n (Q1d l)).toNat 0 else _)
 rw [if_pos (by omega),show (r.e.getV n (Q1d l)+0+i - r.e.getV n (Q1d l)).toNat=i by omega]
 obtain ⟨y,hy,hvy⟩:=hl.get hu
 rw [List.getD_eq_getElem?_getD,hy];exact hvy
theorem array_r (S:SimF φ s r){v:Val}{n k:Int}(hv:WVR φ s.h v n) (h0:0≤k) (h15:k≤15):
 StpR (s.made (s.h.arrC v k) (s.h.arr v k) (s.h.arrV v k)) (r.gotR n (1+k) fun e at_=> .go ((r.es (e.store at_ k)).put [at_])):=by
 have hc:¬(k < 0∨15 < k):=by omega
 unfold HpS.arrC HpS.arr HpS.arrV
 rw [if_neg hc,if_neg hc,if_neg hc,show 1+k=k+1 by omega]
 have hnl:(Q1O k).length=k.toNat:=List.length_replicate
 refine made_r S hv (t:=⟨true,Q1O k⟩) (by unfold Thg.size;rw [if_pos rfl];show 1+((Q1O k).length:Int)=_;rw [hnl];omega) (by omega) (.inr rfl) (fun e a=> e.store a k) fun hc0 A hA=> ?_
 subst hA
 obtain ⟨hok,a0,a1,a2,az⟩:=got_in S.hr hv (by omega) (by omega) hc0
 have hin:(r.e.get n (k+1)).p.isIn (r.e.getV n (k+1))=true:=isIn_iff.2 (by omega)
 have hw:∀i,((r.e.get n (k+1)).store (r.e.getV n (k+1)) k).word i=if i=r.e.getV n (k+1) then k else (r.e.get n (k+1)).word i:=Q6o hok.pok hin
 refine ⟨ok_st hok _ _,rfl,PoolS.fr_store,fun i hi=> (by rw [hw,if_neg (by omega)]),fun _=> ?_,fun i u hu=> ?_⟩
 · rw [hw,if_pos rfl];show k=((Q1O k).length:Int);rw [hnl];omega
 · have hu:(Q1O k)[i]?=some u:=hu
   have hi:=(List.getElem?_eq_some_iff.1 hu).1
   rw [hnl] at hi
   have hue:u=intV 0:=by
    unfold Q1O at hu
    rw [List.getElem?_replicate] at hu
    rw [if_pos hi] at hu
    exact (Option.some.inj hu).symm
   rw [hue,hw,if_neg (by show¬(_+1+_=_);omega),az _ (by show _≤_+1+_;omega) (by show _+1+_ < _;omega)]
   exact WVR.int _ _ _
theorem Qfx {v:Val}{c:Int}{X:Stp}{Y:RStp}(h:v.kind=4→c≠20→(c=1→Y= .halt 2)∧(c=0→StpR X Y)) (hc:c=0∨c=1∨c=20):StpR (Q38 v c X) Y:=by
 unfold Q38
 refine Q8X fun hk=> ?_
 have hk:v.kind=4:=by omega
 rcases hc with hc|hc|hc
 · rw [if_neg (by omega),if_neg (by omega)];exact (h hk (by omega)).2 hc
 · rw [if_pos hc];exact (h hk (by omega)).1 hc
 · rw [if_neg (by omega),if_pos (by omega)];trivial
theorem Qgd (h:HpS) (v:Val) (k:Int):(h.get v k).2=0∨(h.get v k).2=1∨(h.get v k).2=20:=by
 unfold HpS.get;split
 · simp
 · split <;> simp
theorem QdW (h:HpS) (v:Val) (k:Int) (y:Val):h.setC v k y=0∨h.setC v k y=1∨h.setC v k y=20:=by
 unfold HpS.setC;split
 · simp
 · split
   · simp
   · split <;> simp
theorem QfK (h:HpS) (v:Val):(h.len v).2=0∨(h.len v).2=1∨(h.len v).2=20:=by
 unfold HpS.len;split <;> simp
theorem ins_r (S:SimF φ s r){x:Ins}(h16:x.args.length≤16):StpR (s.ins m x) (r.ins m x):=by
 have hg:=S.g
 unfold MS.ins RS.ins
 by_cases o1:x.op=1
 · rw [if_pos o1,if_pos o1];exact go_r (S.put (WVRs.one (WVR.int _ _ _)))
 rw [if_neg o1,if_neg o1]
 by_cases o2:x.op=2
 · rw [if_pos o2,if_pos o2]
   refine Q33 fun a ha=> Q33 fun b hb=> ?_
   rw [Q1q (Qbf hg ha),Q1q (Qbf hg hb)]
   split
   · rfl
   · exact go_r (S.put (WVRs.one (WVR.int _ _ _)))
 rw [if_neg o2,if_neg o2]
 by_cases o3:x.op=3
 · rw [if_pos o3,if_pos o3];exact new_r S
 rw [if_neg o3,if_neg o3]
 by_cases o4:x.op=4
 · rw [if_pos o4,if_pos o4]
   refine Q33 fun v hv=> ?_
   obtain ⟨n,hn,hr⟩:=Q7J hg hv
   rw [Q1q hn]
   refine Q8X fun hc=> ?_
   obtain ⟨H',hM⟩:=S.hr.shut hr (by simpa using hc)
   exact go_r (S.heap H' hM)
 rw [if_neg o4,if_neg o4]
 by_cases o5:x.op=5
 · rw [if_pos o5,if_pos o5]
   refine Q33 fun v hv=> Q33 fun l hl=> ?_
   obtain ⟨n,hn,hr⟩:=Q7J hg hv
   obtain ⟨ns,hns,hrs,hlen⟩:=QbQ hg hl
   rw [Q1q hn,Q1q hns]
   exact tuple_r S hr hrs hlen h16
 rw [if_neg o5,if_neg o5]
 by_cases o6:x.op=6
 · rw [if_pos o6,if_pos o6]
   refine Q33 fun v hv=> ?_
   obtain ⟨n,hn,hr⟩:=Q7J hg hv
   rw [Q1q hn]
   refine Q8X fun hk=> Q8X fun h0=> ?_
   obtain ⟨o,ho,p0,p1,p2,p3⟩:=S.hr.get hr (k:=x.k) (by omega)
   rw [if_neg (by omega)] at ho
   subst ho
   rw [wr_s (by omega) (by omega)]
   rw [Int.add_zero] at p3
   exact go_r (S.put (WVRs.one p3))
 rw [if_neg o6,if_neg o6]
 by_cases o7:x.op=7
 · rw [if_pos o7,if_pos o7]
   refine Q33 fun v hv=> ?_
   obtain ⟨n,hn,hr⟩:=Q7J hg hv
   rw [Q1q hn]
   refine Q8X fun hk=> Q33 fun y hy=> ?_
   obtain ⟨b,hb,hry⟩:=Q7J hg hy
   rw [Q1q hb]
   refine Q8X fun h0=> ?_
   obtain ⟨o,ho,p0,p1,p2,p3,p4⟩:=S.hr.set hr (k:=x.k) hry (by omega)
   rw [if_neg (by omega)] at ho
   subst ho
   rw [wr_s (by omega) (by omega)]
   rw [Int.add_zero] at p3
   exact go_r (S.heap p3 p4)
 rw [if_neg o7,if_neg o7]
 by_cases o8:x.op=8
 · rw [if_pos o8,if_pos o8]
   refine Q33 fun v hv=> Q33 fun k hk=> ?_
   obtain ⟨n,hn,hr⟩:=Q7J hg hv
   rw [Q1q hn,Q1q (Qbf hg hk)]
   by_cases hc:k < 0∨15 < k
   · rw [if_pos hc,if_pos hc];rfl
   · rw [if_neg hc,if_neg hc];exact array_r S hr (by omega) (by omega)
 rw [if_neg o8,if_neg o8]
 by_cases o9:x.op=9
 · rw [if_pos o9,if_pos o9]
   refine Q33 fun v hv=> Q33 fun k hk=> ?_
   obtain ⟨n,hn,hr⟩:=Q7J hg hv
   rw [Q1q hn,Q1q (Qbf hg hk)]
   refine Qfx (fun h4 h20=> ?_) (Qgd _ _ _)
   obtain ⟨q1,q2,q3,q4⟩:=S.hr.len hr h4 (get_at h20)
   unfold RS.atR
   rw [q1]
   have q5:=q4 k
   refine ⟨fun h1=> if_pos ?_,fun h0=> ?_⟩
   · rw [h1] at q5;split at q5 <;> omega
   · obtain ⟨o,ho,p0,p1,p2,p3⟩:=S.hr.get hr h0
     rw [if_pos h4] at ho
     subst ho
     rw [if_neg (by rw [h0] at q5;split at q5 <;> omega),wr_s (n:=n+1) (by omega) (by omega),wr_s (by omega) (by omega)]
     exact go_r (S.put (WVRs.one p3))
 rw [if_neg o9,if_neg o9]
 by_cases o10:x.op=10
 · rw [if_pos o10,if_pos o10]
   refine Q33 fun v hv=> Q33 fun k hk=> Q33 fun c hc=> ?_
   obtain ⟨n,hn,hr⟩:=Q7J hg hv
   rw [Q1q hn,Q1q (Qbf hg hk),Q1q (Qbf hg hc)]
   refine Qfx (fun h4 h20=> ?_) (QdW _ _ _ _)
   obtain ⟨q1,q2,q3,q4⟩:=S.hr.len hr h4 (setC_at h20)
   have q5:=setC_rng h4 h20
   unfold RS.atR
   rw [q1]
   refine ⟨fun h1=> if_pos ?_,fun h0=> ?_⟩
   · rw [h1] at q5;split at q5 <;> omega
   · obtain ⟨o,ho,p0,p1,p2,p3,p4⟩:=S.hr.set hr (WVR.int φ s.h c) h0
     rw [if_pos h4] at ho
     subst ho
     rw [if_neg (by rw [h0] at q5;split at q5 <;> omega),wr_s (n:=n+1) (by omega) (by omega),wr_s (by omega) (by omega)]
     exact go_r (S.heap p3 p4)
 rw [if_neg o10,if_neg o10]
 by_cases o11:x.op=11
 · rw [if_pos o11,if_pos o11]
   refine Q33 fun v hv=> ?_
   obtain ⟨n,hn,hr⟩:=Q7J hg hv
   rw [Q1q hn]
   refine Qfx (fun h4 h20=> ?_) (QfK _ _)
   refine ⟨fun h1=> ?_,fun h0=> ?_⟩
   · unfold HpS.len at h1;split at h1 <;> simp at h1
   · obtain ⟨q1,_⟩:=S.hr.len hr h4 h0
     rw [q1]
     exact go_r (S.put (WVRs.one (WVR.int _ _ _)))
 rw [if_neg o11,if_neg o11]
 by_cases o12:x.op=12
 · rw [if_pos o12,if_pos o12]
   unfold MS.inS RS.inR
   rw [←S.inp]
   cases s.inp with
   | nil=> rfl
   | cons n l=>
     have S':SimF φ ⟨s.h,s.g,s.st,l,s.out,s.fuel⟩ ⟨r.e,r.g,r.st,l,r.out,r.fuel⟩:=⟨S.hr,S.g,S.st,rfl,S.out,S.fuel⟩
     exact go_r (S'.put (WVRs.one (WVR.int _ _ _)))
 rw [if_neg o12,if_neg o12]
 by_cases o13:x.op=13
 · rw [if_pos o13,if_pos o13]
   refine Q33 fun n hn=> ?_
   rw [Q1q (Qbf hg hn)]
   unfold MS.outS RS.outR
   rw [←S.out]
   split
   · rfl
   · exact go_r (φ:=φ) ⟨S.hr,S.g,S.st,S.inp,rfl,S.fuel⟩
 rw [if_neg o13,if_neg o13]
 unfold MS.call
 cases hf:m.funcs[x.k.toNat]? with
 | none=> trivial
 | some gf=>
   refine Q33 fun rs hrs=> Q33 fun vs hvs=> ?_
   obtain ⟨ns,hns,hv,hlen⟩:=QbQ hg hvs
   rw [Q1q hns]
   refine Q8X fun _=> ?_
   have hst:=QcJ S.st
   unfold RS.callR
   by_cases h40:s.st.length+1=40
   · rw [if_pos h40,if_pos (by omega)];rfl
   · rw [if_neg h40,if_neg (by omega)]
     exact go_r (φ:=φ) ⟨S.hr,⟨rfl,rfl,rfl,hv⟩,⟨S.g,S.st⟩,S.inp,S.out,S.fuel⟩
theorem to_r (S:SimF φ s r){f:Fun}{t:To}:StpR (s.to f t) (r.to t):=by
 unfold MS.to RS.to
 cases hb:f.blocks[t.block.toNat]? with
 | none=> trivial
 | some b=>
   refine Q33 fun rs hrs=> Q33 fun vs hvs=> ?_
   obtain ⟨ns,hns,hv,hlen⟩:=QbQ S.g hvs
   rw [Q1q hns]
   refine Q8X fun _=> ?_
   exact go_r (φ:=φ) ⟨S.hr,⟨S.g.1,rfl,rfl,hv⟩,S.st,S.inp,S.out,S.fuel⟩
theorem QfZ:∀{vs:List Val}{ns l:List Int},WVRs φ h vs ns→intsV vs=some l→l=ns
 | [],ns,l,hv,hi=> by
   rw [intsV] at hi;cases hi
   exact (List.length_eq_zero_iff.1 hv.1.symm).symm
 | v::vs,[],l,hv,hi=> by have:=hv.1;simp at this
 | v ::vs,n::ns,l,hv,hi=> by
   rw [intsV] at hi
   cases hx:intsV vs with
   | none=> rw [hx] at hi;cases hi
   | some l'=>
     rw [hx] at hi
     simp only at hi
     split at hi
     · rename_i hk
       cases hi
       have h1:=QfZ (ns:=ns) ⟨by have:=hv.1;simpa using this,fun i u q h1 h2=> hv.2 (i+1) u q (by simpa using h1) (by simpa using h2)⟩ hx
       have h2:=(hv.2 0 v n rfl rfl).1 hk
       rw [h1,h2]
     · cases hi
theorem fin_r (S:SimF φ s r){f:Fun}{e:Tail}(he:1≤e.op∧e.op≤3):StpR (s.fin f e) (r.fin e):=by
 unfold MS.fin RS.fin
 by_cases h1:e.op=1
 · rw [if_pos h1,if_neg (by omega),if_neg (by omega)];exact to_r S
 rw [if_neg h1]
 by_cases h2:e.op=2
 · rw [if_pos h2,if_neg (by omega),if_pos h2]
   refine Q33 fun n hn=> ?_
   rw [Q1q (Qbf S.g hn)]
   by_cases h0:n=0
   · rw [if_neg (by omega),if_pos h0];exact to_r S
   · rw [if_pos h0,if_neg h0];exact to_r S
 rw [if_neg h2,if_pos (by omega)]
 unfold MS.ret
 refine Q33 fun vs hvs=> ?_
 obtain ⟨ns,hns,hv,hlen⟩:=QbQ S.g hvs
 rw [Q1q hns]
 refine Q8X fun _=> ?_
 have hst:=S.st
 cases hs:s.st with
 | nil=>
   rw [hs] at hst
   cases hr:r.st with
   | cons c l=> rw [hr] at hst;exact hst.elim
   | nil=>
     simp only
     cases hi:intsV vs with
     | none=> trivial
     | some l=> show RStp.done ns= .done l;rw [QfZ hv hi]
 | cons c l=>
   rw [hs] at hst
   cases hr:r.st with
   | nil=> rw [hr] at hst;exact hst.elim
   | cons c' l'=>
     rw [hr] at hst
     have S':SimF φ ⟨s.h,c,l,s.inp,s.out,s.fuel⟩ ⟨r.e,c',l',r.inp,r.out,r.fuel⟩:=⟨S.hr,hst.1,hst.2,S.inp,S.out,S.fuel⟩
     exact go_r (S'.put hv)
def CodeOK (m:Module):Prop:=∀(i j:Nat) (f:Fun) (b:Block),m.funcs[i]?=some f→f.blocks[j]?=some b→(∀x∈b.code,x.args.length≤16)∧1≤b.fin.op∧b.fin.op≤3
theorem one_r (hM:CodeOK m) (S:SimF φ s r):StpR (s.one m) (r.one m):=by
 unfold MS.one RS.one
 obtain ⟨e1,e2,e3,hv⟩:=S.g
 rw [←e1,←e2,←e3]
 cases hf:m.funcs[s.g.f]? with
 | none=> trivial
 | some f=>
   simp only
   cases hb:f.blocks[s.g.b]? with
   | none=> trivial
   | some b=>
     simp only
     obtain ⟨c1,c2⟩:=hM _ _ _ _ hf hb
     cases hx:b.code[s.g.i]? with
     | none=> exact fin_r S c2
     | some x=>
       have S':SimF φ s.next r.next:=⟨S.hr,⟨e1,e2,by show s.g.i+1=r.g.i+1;omega,hv⟩,S.st,S.inp,S.out,S.fuel⟩
       exact ins_r S' (c1 _ (List.mem_of_getElem? hx))
theorem tick_r (S:SimF φ s r):SimF φ s.tick r.tick:=⟨S.hr,S.g,S.st,S.inp,S.out,by show s.fuel+1=r.fuel+1;rw [S.fuel]⟩
theorem start_r {inp:List Int}{pages:Nat}(hp:pages≤64):Sim (MS.start inp pages) (RS.start inp pages):=by
 have hreg:∀k:Nat,k < 16→(EstS.mk0 pages).reg k=Reg.none:=fun k hk=> by
  unfold EstS.reg;rw [if_pos (by omega),Int.toNat_natCast,List.getD_eq_getElem?_getD];show ((List.replicate 16 Reg.none)[k]?).getD Reg.none=_;rw [List.getElem?_replicate,if_pos hk];rfl
 have hno:∀q:Int,(⟨[],pages⟩:HpS).has q=false:=fun q=> by
  unfold HpS.has HpS.reg
  split <;> simp [Rgn.none]
 refine ⟨⟨fun _=> 0,fun _ _=> 0⟩,⟨EstS.ok_new hp,?_,rfl,fun q hq=> ?_,fun q _ hq=> ?_,fun k hk hpg=> ?_,fun q t x hx=> ?_,fun q t x _ _ _ hx=> ?_,fun q t x hx=> ?_⟩,⟨rfl,rfl,rfl,WVRs.nil _ _⟩,trivial,rfl,rfl,rfl⟩
 · show (pages:Int)=((Q2w pages pages).length:Int);rw [Q4X]
 · exact absurd ((hno _).symm.trans hq) (by simp)
 · exact absurd ((hno _).symm.trans hq) (by simp)
 · exact absurd (by show ((EstS.mk0 pages).reg k).pages=[];rw [hreg k hk];rfl) hpg
 · exact absurd ((hno _).symm.trans hx.1) (by simp)
 · exact absurd ((hno _).symm.trans hx.1) (by simp)
 · exact absurd ((hno _).symm.trans hx.1) (by simp)
end Go.Proofs.YteflkifmgnpbhaaGreat
namespace Go.Lir
set_option linter.unusedVariables false
def Frm.ρ (g:Frm) (r:Int):Int:=g.regs.getD r.toNat 0
def Own (f:Fun) (z:JS) (g:Frm) (k:Int):Prop:=∃r,hasB z.h r=true∧f.regs≤r∧g.ρ r=k
def Inj (f:Fun) (z:JS) (g:Frm):Prop:=∀r q,hasB z.h r=true→hasB z.h q=true→f.regs≤r→f.regs≤q→g.ρ r=g.ρ q→r=q
def Q41 (f:Fun) (g:Frm):List Int:=g.regs.take f.regs.toNat
structure FT (Ψ:HMap) (z:JS) (g:Frm):Prop where
 n:g.regs.length=z.h.length
 v:VTs Ψ g.vals (z.l.map fun t=> t.rn g.regs)
theorem FT.ext {Ψ Ψ':HMap}{z:JS}{g:Frm}(h:FT Ψ z g) (he:Ext Ψ Ψ'):FT Ψ' z g:=⟨h.n,h.v.ext he⟩
inductive Wt (m:Module) (Ψ:HMap):List Frm→Fun→List Int→(Int→Prop)→Prop where
 | nil {f:Fun}(hf:m.funcs[0]?=some f):Wt m Ψ [] f [] (fun _=> False)
 | cons {c:Frm}{st:List Frm}{fc gf:Fun}{bc:Block}{z z':JS}{x:Ins}{O:Int→Prop}(hf:m.funcs[c.f]?=some fc) (hb:fc.blocks[c.b]?=some bc) (hi:JInv m fc z) (ht:FT Ψ z c) (hx:x.op=14)
    (hF:QC m.funcs.length x=0) (hc:Q5A m z x= .ok z') (hg:m.funcs[x.k.toNat]?=some gf) (hr:(QH m fc c.f c.b bc.fin c.i z' (bc.code.drop c.i)).1=0)
    (hw:Wt m Ψ st fc (Q41 fc c) O) (hj:Inj fc z c) (hd:∀k,Own fc z c k→¬O k):Wt m Ψ (c::st) gf (x.regs.map c.ρ) (fun k=> Own fc z c k∨O k)
structure Safe (m:Module) (Ψ:HMap) (s:MS) (f:Fun) (b:Block) (z:JS) (O:Int→Prop):Prop where
 ty:HTy Ψ s.h
 hf:m.funcs[s.g.f]?=some f
 hb:f.blocks[s.g.b]?=some b
 run:(QH m f s.g.f s.g.b b.fin s.g.i z (b.code.drop s.g.i)).1=0
 inv:JInv m f z
 ft:FT Ψ z s.g
 wt:Wt m Ψ s.st f (Q41 f s.g) O
 inj:Inj f z s.g
 dis:∀k,Own f z s.g k→¬O k
 has:∀k,s.h.has k=true↔(Own f z s.g k∨O k)
def Q9d (m:Module) (s:MS):Prop:=∃Ψ f b z O,Safe m Ψ s f b z O
section
variable {m:Module}{Ψ Ψ':HMap}{s:MS}{f:Fun}{b:Block}{z z':JS}{O:Int→Prop}{g:Frm}{k:Int}{t u:Ty}{v:Val}
theorem Wt.ext {st:List Frm}{kp:List Int}(h:Wt m Ψ st f kp O) (he:Ext Ψ Ψ'):Wt m Ψ' st f kp O:=by
 induction h with
 | nil hf=> exact .nil hf
 | cons hf hb hi ht hx hF hc hg hr hw hj hd ih=> exact .cons hf hb hi (ht.ext he) hx hF hc hg hr ih hj hd
theorem Qdf (h0:0≤k) (hk:k < f.regs) (hl:f.regs≤g.regs.length):g.ρ k∈Q41 f g:=by
 unfold Frm.ρ Q41
 have h1:k.toNat < g.regs.length:=by omega
 rw [List.getD_eq_getElem?_getD,List.getElem?_eq_getElem h1]
 refine List.mem_of_getElem? (i:=k.toNat) ?_
 rw [List.getElem?_take_of_lt (by omega),List.getElem?_eq_getElem h1];rfl
theorem Q5z {x:Ins}{gf:Fun}(hc:Q5A m z x= .ok z') (hg:m.funcs[x.k.toNat]?=some gf):(x.regs.length:Int)=gf.regs∧Q2u z.h [] x.regs= .ok ()∧Q58 z x.args gf.params x.regs= .ok ()∧z'=⟨z.h,z.l++gf.results.map (renT x.regs)⟩:=by
 unfold Q5A at hc
 rw [hg] at hc
 dsimp only at hc
 split at hc
 · cases hc
 · rename_i hl
   obtain ⟨_,h1,hc⟩:=Q5 hc
   obtain ⟨_,h2,hc⟩:=Q5 hc
   split at hc
   · cases hc
   · cases hc
     exact ⟨by omega,h1,h2,rfl⟩
theorem Q7Y (hi:JInv m f z):f.regs≤z.h.length:=by
 by_cases h:f.regs≤0
 · omega
 · have:=Q2f (hi.keep (f.regs - 1) (by omega) (by omega));omega
theorem Wt.kept {st:List Frm}{kp:List Int}(h:Wt m Ψ st f kp O):∀k∈kp,O k:=by
 induction h with
 | nil hf=> intro k hk;cases hk
 | @cons c st fc gf bc z z' x O hf hb hi ht hx hF hc hg hr hw hj hd ih=>
   intro k hk
   obtain ⟨r,hrx,rfl⟩:=List.mem_map.1 hk
   obtain ⟨_,h1,_⟩:=Q5z hc hg
   have hh:=Q4x h1 r hrx
   have hrg:=Q2f hh
   by_cases hlt:r < fc.regs
   · exact .inr (ih _ (Qdf hrg.1 hlt (by rw [ht.n];exact Q7Y hi)))
   · exact .inl ⟨r,hh,by omega,rfl⟩
theorem Safe.held (h:Safe m Ψ s f b z O){r:Int}(hr:hasB z.h r=true):s.h.has (s.g.ρ r)=true:=by
 have hrg:=Q2f hr
 rw [h.has]
 by_cases hlt:r < f.regs
 · exact .inr (h.wt.kept _ (Qdf hrg.1 hlt (by rw [h.ft.n];exact Q7Y h.inv)))
 · exact .inl ⟨r,hr,by omega,rfl⟩
theorem QaP (ht:FT Ψ z g) (h:jval z k= .ok t):∃v,g.val k=some v∧VT Ψ v (t.rn g.regs):=by
 obtain ⟨h0,h1⟩:=Qag h
 obtain ⟨v,h2,h3⟩:=ht.v.get (i:=k.toNat) (t:=t.rn g.regs) (by rw [List.getElem?_map,h1];rfl)
 exact ⟨v,by unfold Frm.val;rw [if_neg (by omega)];exact h2,h3⟩
theorem kind_of {kd:Int}(ht:FT Ψ z g) (h:Q29 z k kd= .ok t):∃v,g.val k=some v∧VT Ψ v (t.rn g.regs)∧t.kind=kd:=by
 obtain ⟨v,h1,h2⟩:=QaP ht (QfO h)
 exact ⟨v,h1,h2,(Qaj h).2.2⟩
theorem Q79 (ht:FT Ψ z g) (h:Q29 z k 1= .ok t):∃n,g.num k=some n:=by
 obtain ⟨v,h1,h2,h3⟩:=kind_of ht h
 have h4:=h2.kind
 rw [Ty.rn_kind,h3] at h4
 exact ⟨v.n,by unfold Frm.num;rw [h1];exact if_pos h4⟩
theorem Safe.at_ (h:Safe m Ψ s f b z O){kd:Int}(hj:jat z k kd= .ok t) (hk:kd≠1):∃v,s.g.val k=some v∧VT Ψ v (t.rn s.g.regs)∧(t.rn s.g.regs).kind=kd∧v.kind=kd∧s.h.has (t.rn s.g.regs).r=true∧(t.rn s.g.regs).r=s.g.ρ t.r:=by
 obtain ⟨v,h1,h2⟩:=QaP h.ft (QfV hj)
 obtain ⟨_,_,h3,h4⟩:=Q9u hj
 have h5:(t.rn s.g.regs).kind=kd:=by rw [Ty.rn_kind,h3]
 have h6:(t.rn s.g.regs).r=s.g.ρ t.r:=Ty.rn_r _ (by omega)
 exact ⟨v,h1,h2,h5,by rw [h2.kind,h5],by rw [h6];exact h.held h4,h6⟩
theorem QgB (ht:FT Ψ z g):∀{l:List Int}{ts:List Ty},jfields z l= .ok ts→∃vs,g.args l=some vs∧VTs Ψ vs (ts.map fun t=> t.rn g.regs)
 | [],ts,h=> by rw [jfields] at h;cases h;exact ⟨[],rfl,VTs.nil Ψ⟩
 | k::l,ts,h=> by
   rw [jfields] at h
   obtain ⟨t,h1,h⟩:=Q5 h
   obtain ⟨us,h2,h⟩:=Q5 h
   cases h
   obtain ⟨v,h3,h4⟩:=QaP ht h1
   obtain ⟨vs,h5,h6⟩:=QgB ht h2
   exact ⟨v::vs,by rw [Frm.args,h3,h5],VTs.cons h4 h6⟩
theorem Qdw (ht:FT Ψ z g){regs:List Int}:∀{l:List Int}{want:List Ty},l.length=want.length→Q25 z regs l want= .ok ()→∃vs,g.args l=some vs∧VTs Ψ vs (want.map fun t=> (t.rn regs).rn g.regs)
 | [],[],_,_=> ⟨[],rfl,VTs.nil Ψ⟩
 | [],_::_,hl,_=> by simp at hl
 | _::_,[],hl,_=> by simp at hl
 | k ::l,u::want,hl,h=> by
   rw [Q25] at h
   obtain ⟨t,h1,h⟩:=Q5 h
   cases hu:u.ren regs with
   | none=> rw [hu] at h;cases h
   | some u'=>
     rw [hu] at h
     dsimp only at h
     split at h
     · cases h
     · rename_i he
       have he:t=u':=Classical.not_not.1 he
       obtain ⟨v,h3,h4⟩:=QaP ht h1
       obtain ⟨vs,h5,h6⟩:=Qdw ht (by simpa using hl) h
       rw [he,Ty.rn_of u u' hu] at h4
       exact ⟨v::vs,by rw [Frm.args,h3,h5],VTs.cons h4 h6⟩
theorem Q8l (ht:FT Ψ z g){regs l:List Int}{want:List Ty}(h:Q58 z l want regs= .ok ()):∃vs,g.args l=some vs∧VTs Ψ vs (want.map fun t=> (t.rn regs).rn g.regs):=by
 unfold Q58 at h
 split at h
 · cases h
 · rename_i hl
   exact Qdw ht (by omega) h
theorem rgs_of {l:List Int}(hn:g.regs.length=z.h.length) (h:∀r∈l,hasB z.h r=true):g.rgs l=some (l.map g.ρ):=by
 induction l with
 | nil=> rfl
 | cons r l ih=>
   have h1:=Q2f (h r (List.mem_cons_self ..))
   have h2:g.reg r=some (g.ρ r):=by
    unfold Frm.reg Frm.ρ
    rw [if_neg (by omega),List.getD_eq_getElem?_getD,List.getElem?_eq_getElem (by omega)];rfl
   rw [Frm.rgs,h2,ih fun q hq=> h q (List.mem_cons_of_mem _ hq)];rfl
theorem QbP {g g':Frm}(h:g.vals=g'.vals):∀l:List Int,g.args l=g'.args l
 | []=> rfl
 | k::l=> by
   have h1:g.val k=g'.val k:=by unfold Frm.val;rw [h]
   rw [Frm.args,Frm.args,h1,QbP h l]
theorem Qdg {g g':Frm}(h:g.regs=g'.regs):∀l:List Int,g.rgs l=g'.rgs l
 | []=> rfl
 | k::l=> by
   have h1:g.reg k=g'.reg k:=by unfold Frm.reg;rw [h]
   rw [Frm.rgs,Frm.rgs,h1,Qdg h l]
theorem Qbi (s:MS) (l:List Int):s.next.g.args l=s.g.args l:=QbP (g:=s.next.g) (g':=s.g) rfl l
theorem next_rgs (s:MS) (l:List Int):s.next.g.rgs l=s.g.rgs l:=Qdg (g:=s.next.g) (g':=s.g) rfl l
theorem Safe.ins (h:Safe m Ψ s f b z O){x:Ins}(hx:b.code[s.g.i]?=some x):QC m.funcs.length x=0∧jins m f z x= .ok (jIns m f z x).2∧(QH m f s.g.f s.g.b b.fin (s.g.i+1) (jIns m f z x).2 (b.code.drop (s.g.i+1))).1=0:=by
 have h1:=h.run
 rw [Qb hx] at h1
 by_cases hc:(jIns m f z x).1=0
 · rw [Q6l hc] at h1
   obtain ⟨h2,h3⟩:=QfW hc
   exact ⟨h2,h3,h1⟩
 · rw [Q6k hc] at h1
   exact absurd h1 hc
theorem Safe.more (h:Safe m Ψ s f b z O){h':HpS}{ts:List Ty}{vs:List Val}{inp out:List Int}{fuel:Nat}(hH:HTy Ψ' h') (hE:Ext Ψ Ψ') (hhas:∀q,h'.has q=s.h.has q) (hz:z'=⟨z.h,z.l++ts⟩)
 (hv:VTs Ψ' vs (ts.map fun t=> t.rn s.g.regs)) (hr:(QH m f s.g.f s.g.b b.fin (s.g.i+1) z' (b.code.drop (s.g.i+1))).1=0) (hi:JInv m f z'):
 Safe m Ψ' ⟨h',⟨s.g.f,s.g.b,s.g.i+1,s.g.vals++vs,s.g.regs⟩,s.st,inp,out,fuel⟩ f b z' O:=by
 subst hz
 refine ⟨hH,h.hf,h.hb,hr,hi,⟨h.ft.n,?_⟩,h.wt.ext hE,h.inj,h.dis,fun k=> ?_⟩
 · show VTs Ψ' (s.g.vals++vs) ((z.l++ts).map fun t=> t.rn s.g.regs)
   rw [List.map_append]
   exact (h.ft.v.ext hE).app hv
 · show h'.has k=true↔_
   rw [hhas];exact h.has k
def StS (m:Module):Stp→Prop
 | .go s=> Q9d m s
 | .halt _=> True
 | .done _=> True
 | .lost=> False
theorem Q4z (h:jput z t= .ok z'):z'=⟨z.h,z.l++[t]⟩:=by
 obtain ⟨_,h1,h2⟩:=Qai h
 obtain ⟨a,l⟩:=z'
 dsimp only at h1 h2
 rw [h1,h2]
theorem Qdx (Ψ:HMap) (n:Int) (f:List Int):VT Ψ (intV n) (number.rn f):=by
 unfold number
 rw [Ty.rn_mk]
 exact ⟨rfl,fun h=> absurd rfl h,fun h=> by cases h <;> rename_i h <;> cases h⟩
theorem get_int {h:HpS}{y:Val}(hk:y.kind=1) (f:List Int):VT Ψ y (number.rn f):=by
 unfold number
 rw [Ty.rn_mk]
 exact ⟨hk,fun h=> absurd rfl h,fun h=> by cases h <;> rename_i h <;> cases h⟩
theorem ext_len (hM:m.fault.1=0) (hm:m.Short) (h:Safe m Ψ s f b z O){x:Ins}(hx:b.code[s.g.i]?=some x) (hop:x.op≠3) (hop4:x.op≠4) (hop14:x.op≠14):StS m ((s.next).ins m x):=by
 obtain ⟨hF,hj,hrun⟩:=h.ins hx
 have hinv:=Q7A hM hm h.inv hF hj
 have hopr:=Q2Y hF
 have hft:=h.ft
 have e0:s.next.g.num=s.g.num:=rfl
 have same:∀(q:Int),s.h.has q=s.h.has q:=fun _=> rfl
 generalize (jIns m f z x).2=z' at hj hrun hinv
 unfold MS.ins
 rcases op_cases (op:=x.op) (by omega) (by omega) with e|e|e|e|e|e|e|e|e|e|e|e|e|e
 · rw [if_pos e]
   rw [Q7b (.inl e)] at hj
   exact ⟨_,_,_,_,_,h.more h.ty (Ext.refl _) same (Q4z hj) (VTs.one (Qdx Ψ _ _)) hrun hinv⟩
 · rw [if_neg (by omega),if_pos e]
   rw [Q8j e] at hj
   obtain ⟨t1,h1,hj⟩:=Q5 hj;obtain ⟨t2,h2,hj⟩:=Q5 hj
   obtain ⟨a,ha⟩:=Q79 hft h1
   obtain ⟨c,hc⟩:=Q79 hft h2
   rw [Q1 (show s.next.g.num x.a=some a from ha),Q1 (show s.next.g.num x.b=some c from hc)]
   split
   · exact trivial
   · exact ⟨_,_,_,_,_,h.more h.ty (Ext.refl _) same (Q4z hj) (VTs.one (Qdx Ψ _ _)) hrun hinv⟩
 · exact absurd e hop
 · exact absurd e hop4
 · rw [if_neg (by omega),if_neg (by omega),if_neg (by omega),if_neg (by omega),if_pos e]
   rw [Qbq e] at hj
   unfold Q5j at hj
   obtain ⟨t,h1,hj⟩:=Q5 hj;obtain ⟨ts,h2,hj⟩:=Q5 hj
   split at hj
   · cases hj
   · obtain ⟨v,g1,g2,g3,g4,g5,g6⟩:=h.at_ h1 (by decide)
     obtain ⟨vs,k1,k2⟩:=QgB hft h2
     rw [Q1 (show s.next.g.val x.a=some v from g1),Q1 ((Qbi s x.args).trans k1)]
     unfold MS.made
     rcases code_of g2 g3 g5 (Q1d vs) with hc|hc
     · rw [show s.next.h.code v (Q1d vs)=0 from hc,if_neg (by decide),if_neg (by decide)]
       have hreg:=g2.reg (by omega)
       have hT:((Ty.mk 3 t.r ts).rn s.g.regs).r=v.region:=by rw [Ty.rn_mr _ (by decide),hreg,g6];rfl
       have hK:((Ty.mk 3 t.r ts).rn s.g.regs).kind=3:=Ty.rn_kind _ _
       have hL:((Ty.mk 3 t.r ts).rn s.g.regs).l=ts.map fun t=> t.rn s.g.regs:=Ty.rn_l _ _
       obtain ⟨p1,p2,p3,p4⟩:=Qg6 (t:=(Ty.mk 3 t.r ts).rn s.g.regs) (n:=Q1d vs) (x:=⟨false,vs⟩) h.ty hc hT (.inl hK) (ThOK.tup hK (by rw [hL];exact k2))
       rw [hK] at p4
       exact ⟨_,_,_,_,_,h.more p1 p2 p3 (Q4z hj) (VTs.one p4) hrun hinv⟩
     · rw [show s.next.h.code v (Q1d vs)=14 from hc,if_pos rfl];exact trivial
 · rw [if_neg (by omega),if_neg (by omega),if_neg (by omega),if_neg (by omega),if_neg (by omega),if_pos e]
   rw [Q8i e] at hj
   obtain ⟨t,h1,hj⟩:=Q5 hj;obtain ⟨u,h2,hj⟩:=Q5 hj
   obtain ⟨v,g1,g2,g3,g4,g5,g6⟩:=h.at_ h1 (by decide)
   have hk0:0≤x.k:=by unfold QC Q1k at hF;simp [e] at hF;omega
   have hu:(t.rn s.g.regs).l[x.k.toNat]?=some (u.rn s.g.regs):=by rw [Ty.rn_l,List.getElem?_map,Q5W h2];rfl
   obtain ⟨q1,q2⟩:=get_of h.ty g2 g3 g5 hk0 hu
   rw [Q1 (show s.next.g.val x.a=some v from g1),if_neg (by omega),if_neg (by rw [show s.next.h.get v x.k=s.h.get v x.k from rfl,q1];decide)]
   exact ⟨_,_,_,_,_,h.more h.ty (Ext.refl _) same (Q4z hj) (VTs.one q2) hrun hinv⟩
 · rw [if_neg (by omega),if_neg (by omega),if_neg (by omega),if_neg (by omega),if_neg (by omega),if_neg (by omega),if_pos e]
   rw [Q2B e] at hj
   obtain ⟨t,h1,hj⟩:=Q5 hj;obtain ⟨u,h2,hj⟩:=Q5 hj;obtain ⟨w,h3,hj⟩:=Q5 hj
   split at hj
   · cases hj
   · rename_i huw
     have huw:u=w:=Classical.not_not.1 huw
     subst huw
     obtain ⟨v,g1,g2,g3,g4,g5,g6⟩:=h.at_ h1 (by decide)
     obtain ⟨y,y1,y2⟩:=QaP hft h3
     have hk0:0≤x.k:=by unfold QC Q1k at hF;simp [e] at hF;omega
     have hu:(t.rn s.g.regs).l[x.k.toNat]?=some (u.rn s.g.regs):=by rw [Ty.rn_l,List.getElem?_map,Q5W h2];rfl
     have q1:=setC_of h.ty g2 g3 g5 hk0 hu y
     rw [Q1 (show s.next.g.val x.a=some v from g1),if_neg (by omega),Q1 (show s.next.g.val x.b=some y from y1),if_neg (by rw [show s.next.h.setC v x.k y=s.h.setC v x.k y from rfl,q1];decide)]
     obtain ⟨p1,p2⟩:=Qg5 (i:=x.k) (y:=y) h.ty g2 (.inl g3) g5 (fun _ u' hu'=> by rw [hu] at hu';cases hu';exact y2) (fun h4=> by omega)
     have hz:z'=⟨z.h,z.l++[]⟩:=by cases hj;rw [List.append_nil]
     have hmore:=h.more (inp:=s.inp) (out:=s.out) (fuel:=s.fuel) p1 (Ext.refl _) p2 hz (VTs.nil Ψ) hrun hinv
     rw [List.append_nil] at hmore
     exact ⟨_,_,_,_,_,hmore⟩
 · rw [if_neg (by omega),if_neg (by omega),if_neg (by omega),if_neg (by omega),if_neg (by omega),if_neg (by omega),if_neg (by omega),if_pos e]
   rw [Q8h e] at hj
   obtain ⟨t,h1,hj⟩:=Q5 hj;obtain ⟨t2,h2,hj⟩:=Q5 hj
   obtain ⟨v,g1,g2,g3,g4,g5,g6⟩:=h.at_ h1 (by decide)
   obtain ⟨n,hn⟩:=Q79 hft h2
   rw [Q1 (show s.next.g.val x.a=some v from g1),Q1 (show s.next.g.num x.b=some n from hn)]
   by_cases hr:n < 0∨15 < n
   · rw [if_pos hr];exact trivial
   · rw [if_neg hr]
     unfold HpS.arrC HpS.arr HpS.arrV
     rw [if_neg hr,if_neg hr,if_neg hr]
     unfold MS.made
     rcases code_of g2 g3 g5 (n+1) with hc|hc
     · rw [show s.next.h.code v (n+1)=0 from hc,if_neg (by decide),if_neg (by decide)]
       have hreg:=g2.reg (by omega)
       have hT:((Ty.mk 4 t.r []).rn s.g.regs).r=v.region:=by rw [Ty.rn_mr _ (by decide),hreg,g6];rfl
       have hK:((Ty.mk 4 t.r []).rn s.g.regs).kind=4:=Ty.rn_kind _ _
       have hth:ThOK Ψ ⟨true,Q1O n⟩ ((Ty.mk 4 t.r []).rn s.g.regs):=ThOK.arr hK (by unfold Q1O;rw [List.length_replicate];omega) (fun y hy=> by unfold Q1O at hy;rw [List.eq_of_mem_replicate hy])
       obtain ⟨p1,p2,p3,p4⟩:=Qg6 (t:=(Ty.mk 4 t.r []).rn s.g.regs) (n:=n+1) (x:=⟨true,Q1O n⟩) h.ty hc hT (.inr hK) hth
       rw [hK] at p4
       exact ⟨_,_,_,_,_,h.more p1 p2 p3 (Q4z hj) (VTs.one p4) hrun hinv⟩
     · rw [show s.next.h.code v (n+1)=14 from hc,if_pos rfl];exact trivial
 · rw [if_neg (by omega),if_neg (by omega),if_neg (by omega),if_neg (by omega),if_neg (by omega),if_neg (by omega),if_neg (by omega),if_neg (by omega),if_pos e]
   rw [Q8g e] at hj
   obtain ⟨t,h1,hj⟩:=Q5 hj;obtain ⟨t2,h2,hj⟩:=Q5 hj
   obtain ⟨v,g1,g2,g3,g4,g5,g6⟩:=h.at_ h1 (by decide)
   obtain ⟨n,hn⟩:=Q79 hft h2
   rw [Q1 (show s.next.g.val x.a=some v from g1),Q1 (show s.next.g.num x.b=some n from hn)]
   unfold Q38
   rw [if_neg (by omega)]
   rcases geta_of h.ty g2 g3 g5 n with hc|⟨hc,hk⟩
   · rw [if_pos (show (s.next.h.get v n).2=1 from hc)];exact trivial
   · rw [if_neg (by rw [show s.next.h.get v n=s.h.get v n from rfl,hc];decide),if_neg (by rw [show s.next.h.get v n=s.h.get v n from rfl,hc];decide)]
     exact ⟨_,_,_,_,_,h.more h.ty (Ext.refl _) same (Q4z hj) (VTs.one (get_int (h:=s.h) hk _)) hrun hinv⟩
 · rw [if_neg (by omega),if_neg (by omega),if_neg (by omega),if_neg (by omega),if_neg (by omega),if_neg (by omega),if_neg (by omega),if_neg (by omega),if_neg (by omega),if_pos e]
   rw [Q5y e] at hj
   obtain ⟨t,h1,hj⟩:=Q5 hj;obtain ⟨t2,h2,hj⟩:=Q5 hj;obtain ⟨t3,h3,hj⟩:=Q5 hj
   obtain ⟨v,g1,g2,g3,g4,g5,g6⟩:=h.at_ h1 (by decide)
   obtain ⟨n,hn⟩:=Q79 hft h2
   obtain ⟨c,hc⟩:=Q79 hft h3
   rw [Q1 (show s.next.g.val x.a=some v from g1),Q1 (show s.next.g.num x.b=some n from hn),Q1 (show s.next.g.num x.c=some c from hc)]
   unfold Q38
   rw [if_neg (by omega)]
   rcases setCa_of h.ty g2 g3 g5 n (y:=intV c) rfl with hq|hq
   · rw [if_neg (by rw [show s.next.h.setC v n (intV c)=s.h.setC v n (intV c) from rfl,hq];decide),if_neg (by rw [show s.next.h.setC v n (intV c)=s.h.setC v n (intV c) from rfl,hq];decide)]
     obtain ⟨p1,p2⟩:=Qg5 (i:=n) (y:=intV c) h.ty g2 (.inr g3) g5 (fun h3=> by omega) (fun _=> rfl)
     have hz:z'=⟨z.h,z.l++[]⟩:=by cases hj;rw [List.append_nil]
     have hmore:=h.more (inp:=s.inp) (out:=s.out) (fuel:=s.fuel) p1 (Ext.refl _) p2 hz (VTs.nil Ψ) hrun hinv
     rw [List.append_nil] at hmore
     exact ⟨_,_,_,_,_,hmore⟩
   · rw [if_pos (show s.next.h.setC v n (intV c)=1 from hq)];exact trivial
 · rw [if_neg (by omega),if_neg (by omega),if_neg (by omega),if_neg (by omega),if_neg (by omega),if_neg (by omega),if_neg (by omega),if_neg (by omega),if_neg (by omega),if_neg (by omega),if_pos e]
   rw [Q6O e] at hj
   obtain ⟨t,h1,hj⟩:=Q5 hj
   obtain ⟨v,g1,g2,g3,g4,g5,g6⟩:=h.at_ h1 (by decide)
   have hq:=len_of h.ty g2 g3 g5
   rw [Q1 (show s.next.g.val x.a=some v from g1)]
   unfold Q38
   rw [if_neg (by omega),if_neg (by rw [show s.next.h.len v=s.h.len v from rfl,hq];decide),if_neg (by rw [show s.next.h.len v=s.h.len v from rfl,hq];decide)]
   exact ⟨_,_,_,_,_,h.more h.ty (Ext.refl _) same (Q4z hj) (VTs.one (Qdx Ψ _ _)) hrun hinv⟩
 · rw [if_neg (by omega),if_neg (by omega),if_neg (by omega),if_neg (by omega),if_neg (by omega),if_neg (by omega),if_neg (by omega),if_neg (by omega),if_neg (by omega),if_neg (by omega),if_neg (by omega),if_pos e]
   rw [Q7b (.inr e)] at hj
   unfold MS.inS
   split
   · exact trivial
   · exact ⟨_,_,_,_,_,h.more h.ty (Ext.refl _) same (Q4z hj) (VTs.one (Qdx Ψ _ _)) hrun hinv⟩
 · rw [if_neg (by omega),if_neg (by omega),if_neg (by omega),if_neg (by omega),if_neg (by omega),if_neg (by omega),if_neg (by omega),if_neg (by omega),if_neg (by omega),if_neg (by omega),if_neg (by omega),if_neg (by omega),if_pos e]
   rw [Q8k e] at hj
   obtain ⟨t,h1,hj⟩:=Q5 hj
   obtain ⟨n,hn⟩:=Q79 hft h1
   rw [Q1 (show s.next.g.num x.a=some n from hn)]
   unfold MS.outS
   split
   · exact trivial
   · have hz:z'=⟨z.h,z.l++[]⟩:=by cases hj;rw [List.append_nil]
     have hmore:=h.more (inp:=s.inp) (out:=s.out++[n]) (fuel:=s.fuel) h.ty (Ext.refl _) same hz (VTs.nil Ψ) hrun hinv
     rw [List.append_nil] at hmore
     exact ⟨_,_,_,_,_,hmore⟩
 · exact absurd e hop14
end
end Go.Lir
namespace Go.Lir
set_option linter.unusedVariables false
section
variable {m:Module}{Ψ Ψ':HMap}{s:MS}{f:Fun}{b:Block}{z z':JS}{O:Int→Prop}{g:Frm}{k:Int}{t u:Ty}{v:Val}
theorem Q8w {l:List Bool}{r:Int}(h0:0≤r) (h1:l[r.toNat]?=some true):hasB l r=true:=by
 have:=(List.getElem?_eq_some_iff.1 h1).1
 unfold hasB
 rw [List.getD_eq_getElem?_getD,h1]
 simp;omega
theorem Qau {l:List Bool}{r:Int}(h:hasB l r=true):0≤r∧l[r.toNat]?=some true:=by
 obtain ⟨h0,h1,h2⟩:=Q46 h
 rw [List.getD_eq_getElem?_getD] at h2
 cases hx:l[r.toNat]? with
 | none=> rw [hx] at h2;cases h2
 | some y=> rw [hx] at h2;exact ⟨h0,by rw [show y=true from h2]⟩
theorem hasB_snoc {l:List Bool}{r:Int}(h:hasB (l++[true]) r=true):hasB l r=true∨r=l.length:=by
 obtain ⟨h0,h1⟩:=Qau h
 by_cases hr:r < l.length
 · rw [List.getElem?_append_left (by omega)] at h1;exact .inl (Q8w h0 h1)
 · have:=(List.getElem?_eq_some_iff.1 h1).1
   rw [List.length_append] at this
   simp only [List.length_cons,List.length_nil] at this
   exact .inr (by omega)
theorem QcG {l:List Bool}{r:Int}(h:hasB l r=true):hasB (l++[true]) r=true:=Qdz h
theorem QcF (l:List Bool):hasB (l++[true]) l.length=true:=Q8w (by omega) (by rw [Int.toNat_natCast,List.getElem?_append_right (Nat.le_refl _),Nat.sub_self];rfl)
theorem Q4E {l:List Bool}{r q:Int}(h0:0≤q):hasB (l.set q.toNat false) r=true↔hasB l r=true∧r≠q:=by
 constructor
 · intro h
   obtain ⟨h1,h2⟩:=Qau h
   rw [List.getElem?_set] at h2
   split at h2
   · split at h2 <;> cases h2
   · rename_i hne;exact ⟨Q8w h1 h2,by omega⟩
 · rintro ⟨h1,h2⟩
   obtain ⟨h3,h4⟩:=Qau h1
   exact Q8w h3 (by rw [List.getElem?_set,if_neg (by omega)];exact h4)
theorem hasB_all {n:Nat}{r:Int}:hasB (List.replicate n true) r=true↔0≤r∧r < n:=by
 constructor
 · intro h;have:=Q2f h;rw [List.length_replicate] at this;exact this
 · rintro ⟨h1,h2⟩;exact Q8w h1 (by rw [List.getElem?_replicate,if_pos (by omega)])
theorem QdB {l:List Int}{a:Int}{i:Nat}(h:i < l.length):(l++[a]).getD i 0=l.getD i 0:=by
 rw [List.getD_eq_getElem?_getD,List.getElem?_append_left h,←List.getD_eq_getElem?_getD]
theorem Qax {l:List Int}{fn:Int→Int}{i:Nat}(h:i < l.length):(l.map fn).getD i 0=fn (l.getD i 0):=by
 rw [List.getD_eq_getElem?_getD,List.getElem?_map,List.getElem?_eq_getElem h,List.getD_eq_getElem?_getD,List.getElem?_eq_getElem h];rfl
theorem kept_app {a:Int}{i:Nat}{vs:List Val}(hl:f.regs≤g.regs.length):Q41 f ⟨g.f,g.b,i,vs,g.regs++[a]⟩=Q41 f g:=by
 unfold Q41
 exact List.take_append_of_le_length (by omega)
theorem not_new (h:Safe m Ψ s f b z O):s.h.has s.h.l.length=false:=by
 cases hx:s.h.has s.h.l.length with
 | false=> rfl
 | true=> have:=Q28 hx;omega
theorem safe_new (hM:m.fault.1=0) (hm:m.Short) (h:Safe m Ψ s f b z O){x:Ins}(hx:b.code[s.g.i]?=some x) (hop:x.op=3):StS m ((s.next).ins m x):=by
 obtain ⟨hF,hj,hrun⟩:=h.ins hx
 have hinv:=Q7A hM hm h.inv hF hj
 have hrl:=Q7Y h.inv
 have hn:=h.ft.n
 unfold MS.ins
 rw [if_neg (by omega),if_neg (by omega),if_pos hop]
 unfold MS.newR
 by_cases hfu:s.h.full=true
 · rw [if_pos (show s.next.h.full=true from hfu)];exact trivial
 · rw [if_neg (show¬s.next.h.full=true from hfu)]
   rw [Qbr hop] at hj
   split at hj
   · cases hj
   · generalize (jIns m f z x).2=z' at hj hrun hinv
     cases hj
     have eo:s.h.open=⟨s.h.l++[⟨true,[],0,0⟩],s.h.left⟩:=by unfold HpS.open;rw [if_neg hfu]
     have ev:s.h.openV=⟨2,s.h.l.length,0,0⟩:=by unfold HpS.openV;rw [if_neg hfu]
     show Q9d m ⟨s.h.open,⟨s.g.f,s.g.b,s.g.i+1,s.g.vals++[s.h.openV],s.g.regs++[s.h.openV.region]⟩,s.st,s.inp,s.out,s.fuel⟩
     rw [ev]
     have hrho:∀r:Int,hasB z.h r=true→(⟨s.g.f,s.g.b,s.g.i+1,s.g.vals++[⟨2,s.h.l.length,0,0⟩],s.g.regs++[(s.h.l.length:Int)]⟩:Frm).ρ r=s.g.ρ r:=fun r hr=> by
      have:=Q2f hr
      unfold Frm.ρ
      exact QdB (by omega)
     have hrhn:(⟨s.g.f,s.g.b,s.g.i+1,s.g.vals++[⟨2,s.h.l.length,0,0⟩],s.g.regs++[(s.h.l.length:Int)]⟩:Frm).ρ z.h.length=s.h.l.length:=by
      unfold Frm.ρ
      rw [Int.toNat_natCast,←hn,List.getD_eq_getElem?_getD,List.getElem?_append_right (Nat.le_refl _),Nat.sub_self];rfl
     have hhas:∀q,s.h.open.has q=true↔(s.h.has q=true∨q=s.h.l.length):=fun q=> by
      unfold HpS.has
      rw [eo,Qa0]
      by_cases hq:q=s.h.l.length
      · rw [if_pos hq];exact ⟨fun _=> .inr hq,fun _=> rfl⟩
      · rw [if_neg hq];exact ⟨fun hh=> .inl hh,fun hh=> hh.elim id fun hh=> absurd hh hq⟩
     have hnn:=not_new h
     refine ⟨Ψ,f,b,_,O,hty_open h.ty,h.hf,h.hb,hrun,hinv,⟨by show (s.g.regs++[_]).length=(z.h++[true]).length;rw [List.length_append,List.length_append,hn];rfl,?_⟩,?_,?_,?_,fun q=> ?_⟩
     · show VTs Ψ (s.g.vals++[_]) ((z.l++[Ty.mk 2 z.h.length []]).map fun t=> t.rn (s.g.regs++[(s.h.l.length:Int)]))
       rw [List.map_append]
       refine VTs.app ?_ (VTs.one ?_)
       · have e9:(z.l.map fun t=> t.rn (s.g.regs++[(s.h.l.length:Int)]))=z.l.map fun t=> t.rn s.g.regs:=List.map_congr_left fun t ht=> Ty.rn_congr (n:=z.h.length) (fun i hi=> QdB (by omega)) t (h.inv.wf t ht)
         rw [e9];exact h.ft.v
       · show VT Ψ ⟨2,s.h.l.length,0,0⟩ ((Ty.mk 2 z.h.length []).rn (s.g.regs++[(s.h.l.length:Int)]))
         rw [Ty.rn_mk]
         refine ⟨rfl,fun _=> ?_,fun h9=> by cases h9 <;> rename_i h9 <;> cases h9⟩
         rw [if_pos (show (2:Int)≠1 by decide)]
         exact hrhn.symm
     · rw [show Q41 f ⟨s.g.f,s.g.b,s.g.i+1,s.g.vals++[⟨2,s.h.l.length,0,0⟩],s.g.regs++[(s.h.l.length:Int)]⟩=Q41 f s.g from kept_app (by omega)]
       exact h.wt
     · intro r q hr hq h1 h2 he
       rcases hasB_snoc hr with hr|rfl
       · rcases hasB_snoc hq with hq|rfl
         · rw [hrho r hr,hrho q hq] at he;exact h.inj r q hr hq h1 h2 he
         · rw [hrho r hr,hrhn] at he
           have:=h.held hr;rw [he,hnn] at this;cases this
       · rcases hasB_snoc hq with hq|rfl
         · rw [hrhn,hrho q hq] at he
           have:=h.held hq;rw [←he,hnn] at this;cases this
         · rfl
     · rintro q ⟨r,hr,h1,rfl⟩ hO
       rcases hasB_snoc hr with hr|rfl
       · rw [hrho r hr] at hO;exact h.dis _ ⟨r,hr,h1,rfl⟩ hO
       · rw [hrhn] at hO
         have:=(h.has s.h.l.length).2 (.inr hO)
         rw [hnn] at this;cases this
     · rw [hhas,h.has]
       constructor
       · rintro ((⟨r,hr,h1,rfl⟩|hO)|rfl)
         · exact .inl ⟨r,QcG hr,h1,hrho r hr⟩
         · exact .inr hO
         · exact .inl ⟨z.h.length,QcF _,hrl,hrhn⟩
       · rintro (⟨r,hr,h1,rfl⟩|hO)
         · rcases hasB_snoc hr with hr|rfl
           · exact .inl (.inl ⟨r,hr,h1,(hrho r hr).symm⟩)
           · exact .inr hrhn
         · exact .inl (.inr hO)
theorem shut_has (hc:s.h.can v=true) (q:Int):(s.h.shut v).has q=true↔s.h.has q=true∧q≠v.region:=by
 have e:s.h.shut v=⟨s.h.l.set v.region.toNat Rgn.none,s.h.left+(s.h.reg v.region).pages⟩:=by unfold HpS.shut;rw [hc];rfl
 unfold HpS.can at hc
 rw [Bool.and_eq_true] at hc
 obtain ⟨g0,g1,g2,g3⟩:=Q28 hc.2
 unfold HpS.has
 rw [e,reg_set (left':=s.h.left) (by omega)]
 by_cases hq:q=v.region
 · rw [if_pos (by omega)];exact ⟨fun h=> (by cases h),fun h=> absurd hq h.2⟩
 · rw [if_neg (by omega)];exact ⟨fun h=> ⟨h,hq⟩,fun h=> h.1⟩
theorem QeW (hM:m.fault.1=0) (hm:m.Short) (h:Safe m Ψ s f b z O){x:Ins}(hx:b.code[s.g.i]?=some x) (hop:x.op=4):StS m ((s.next).ins m x):=by
 obtain ⟨hF,hj,hrun⟩:=h.ins hx
 have hinv:=Q7A hM hm h.inv hF hj
 unfold MS.ins
 rw [if_neg (by omega),if_neg (by omega),if_neg (by omega),if_pos hop]
 rw [Q9r hop] at hj
 obtain ⟨t,h1,hj⟩:=Q5 hj
 split at hj
 · cases hj
 · rename_i hlt
   obtain ⟨v,g1,g2,g3,g4,g5,g6⟩:=h.at_ h1 (by decide)
   obtain ⟨_,_,_,hh⟩:=Q9u h1
   have hrg:=Q2f hh
   have hcan:=can_of g2 g3 g5
   have hv:v.region=s.g.ρ t.r:=by rw [g2.reg (by omega),g6]
   generalize (jIns m f z x).2=z' at hj hrun hinv
   cases hj
   rw [Q1 (show s.next.g.val x.a=some v from g1),if_neg (by rw [show s.next.h.can v=s.h.can v from rfl,hcan];decide)]
   refine ⟨Ψ,f,b,_,O,hty_shut h.ty,h.hf,h.hb,hrun,hinv,⟨by show s.g.regs.length=(z.h.set _ _).length;rw [List.length_set];exact h.ft.n,h.ft.v⟩,h.wt,?_,?_,fun q=> ?_⟩
   · intro r q hr hq h1 h2 he
     exact h.inj r q ((Q4E hrg.1).1 hr).1 ((Q4E hrg.1).1 hq).1 h1 h2 he
   · rintro q ⟨r,hr,h1,rfl⟩ hO
     exact h.dis _ ⟨r,((Q4E hrg.1).1 hr).1,h1,rfl⟩ hO
   · show (s.h.shut v).has q=true↔_
     rw [shut_has hcan,h.has,hv]
     constructor
     · rintro ⟨⟨r,hr,h1,rfl⟩|hO,hne⟩
       · exact .inl ⟨r,(Q4E hrg.1).2 ⟨hr,fun he=> hne (by rw [he])⟩,h1,rfl⟩
       · exact .inr hO
     · rintro (⟨r,hr,h1,rfl⟩|hO)
       · obtain ⟨h3,h4⟩:=(Q4E hrg.1).1 hr
         exact ⟨.inl ⟨r,h3,h1,rfl⟩,fun he=> h4 (h.inj r t.r h3 hh h1 (by omega) he)⟩
       · exact ⟨.inr hO,fun he=> h.dis _ ⟨t.r,hh,by omega,he.symm⟩ hO⟩
theorem Q6i {f:Fun}{fi:Nat}:∀{l:List Block}{b0:Nat},(Qx m f fi b0 l).1=0→∀(b:Nat) (y:Block),l[b]?=some y→(QH m f fi (b0+b) y.fin 0 (Q1g y) y.code).1=0
 | [],_,_,b,y,hy=> by simp at hy
 | z::l,b0,h,b,y,hy=> by
   rw [Qx] at h
   obtain ⟨h1,h2⟩:=Q3n h
   cases b with
   | zero=> rw [List.getElem?_cons_zero] at hy;cases hy;exact h1
   | succ b=> rw [List.getElem?_cons_succ] at hy;rw [show b0+(b+1)=b0+1+b by omega];exact Q6i h2 b y hy
theorem Q8B:∀{l:List Fun}{f0:Nat},(Q1H m f0 l).1=0→∀(f:Nat) (x:Fun),l[f]?=some x→(Qx m x (f0+f) 0 x.blocks).1=0
 | [],_,_,b,y,hy=> by simp at hy
 | z::l,b0,h,b,y,hy=> by
   rw [Q1H] at h
   obtain ⟨h1,h2⟩:=Q3n h
   cases b with
   | zero=> rw [List.getElem?_cons_zero] at hy;cases hy;exact h1
   | succ b=> rw [List.getElem?_cons_succ] at hy;rw [show b0+(b+1)=b0+1+b by omega];exact Q8B h2 b y hy
theorem Q1i (h:m.runs.1=0):m.fault.1=0:=(Q3n h).1
theorem Q6w (h:m.runs.1=0){fi bi:Nat}{x:Fun}{y:Block}(hx:m.funcs[fi]?=some x) (hy:x.blocks[bi]?=some y):(QH m x fi bi y.fin 0 (Q1g y) y.code).1=0:=by
 have h1:=Q8B (Q3n h).2 fi x hx
 rw [Nat.zero_add] at h1
 have h2:=Q6i h1 bi y hy
 rwa [Nat.zero_add] at h2
theorem QdC {vs:List Val}{rs regs l:List Int}{bb:Block}{fi bi:Nat}(hrs:rs=l.map g.ρ) (hl:(l.length:Int)=bb.regs) (h16:bb.regs≤16) (hv:VTs Ψ vs (bb.params.map fun t=> (t.rn l).rn g.regs)) (hw:∀t∈bb.params,t.wrong 8 bb.regs=0):
 FT Ψ (Q1g bb) ⟨fi,bi,0,vs,rs⟩:=by
 subst hrs
 refine ⟨by show (l.map g.ρ).length=(List.replicate (min bb.regs 16).toNat true).length;rw [List.length_map,List.length_replicate];omega,?_⟩
 show VTs Ψ vs (bb.params.map fun t=> t.rn (l.map g.ρ))
 have e:(bb.params.map fun t=> t.rn (l.map g.ρ))=bb.params.map fun t=> (t.rn l).rn g.regs:=List.map_congr_left fun t ht=> (Ty.rn_rn (n:=bb.regs) (fun i hi=> Qax (by omega)) t (hw t ht)).symm
 rw [e];exact hv
theorem Q32 {bb:Block}(h0:0≤bb.regs) (h16:bb.regs≤16){r:Int}:hasB (Q1g bb).h r=true↔0≤r∧r < bb.regs:=by
 unfold Q1g
 dsimp only
 rw [hasB_all]
 omega
theorem QeX (hR:m.runs.1=0) (hm:m.Short) (h:Safe m Ψ s f b z O){x:Ins}(hx:b.code[s.g.i]?=some x) (hop:x.op=14):StS m ((s.next).ins m x):=by
 have hM:=Q1i hR
 obtain ⟨hF,hj,hrun⟩:=h.ins hx
 unfold MS.ins
 rw [if_neg (by omega),if_neg (by omega),if_neg (by omega),if_neg (by omega),if_neg (by omega),if_neg (by omega),if_neg (by omega),if_neg (by omega),if_neg (by omega),if_neg (by omega),if_neg (by omega),if_neg (by omega),if_neg (by omega)]
 rw [Q6N hop] at hj
 cases hg:m.funcs[x.k.toNat]? with
 | none=> unfold Q5A at hj;rw [hg] at hj;cases hj
 | some gf=>
   obtain ⟨h1,h2,h3,h4⟩:=Q5z hj hg
   have hall:=Q4x h2
   have hrs:=rgs_of h.ft.n hall
   obtain ⟨vs,k1,k2⟩:=Q8l h.ft h3
   unfold MS.call
   rw [hg]
   dsimp only
   rw [Q1 ((next_rgs s x.regs).trans hrs),Q1 ((Qbi s x.args).trans k1)]
   have hlen:=k2.1
   rw [List.length_map] at hlen
   rw [if_neg (by rw [List.length_map];omega)]
   split
   · exact trivial
   · have hfh:=Q1w (Q1R hM hg)
     obtain ⟨b0,hb0⟩:∃b0,gf.blocks[0]?=some b0:=⟨_,List.getElem?_eq_getElem (by omega)⟩
     have hbh:=Q1W (Q1x hM hg hb0).1
     obtain ⟨e1,e2⟩:=hbh.2.2.2.1 rfl
     have hno:∀r,hasB (Q1g b0).h r=true→gf.regs≤r→False:=fun r hr hge=> by
      have:=(Q32 (by omega) (by omega)).1 hr;omega
     refine ⟨Ψ,gf,b0,Q1g b0,(fun k=> Own f z s.next.g k∨O k),h.ty,hg,hb0,?_,Q6P hm hM hg hb0,QdC (regs:=[]) (g:=s.g) rfl (by omega) (by omega) (by rw [e2];exact k2) (fun t ht=> ?_),?_,?_,?_,fun q=> ?_⟩
     · exact Q6w hR hg hb0
     · exact Ty.fault_wrong (Q2M hbh.2.2.1 t ht)
     · show Wt m Ψ (s.next.g::s.st) gf (Q41 gf ⟨x.k.toNat,0,0,vs,x.regs.map s.g.ρ⟩) _
       rw [show Q41 gf ⟨x.k.toNat,0,0,vs,x.regs.map s.g.ρ⟩=x.regs.map s.next.g.ρ from List.take_of_length_le (by rw [List.length_map];omega)]
       exact .cons (c:=s.next.g) (z:=z) h.hf h.hb h.inv ⟨h.ft.n,h.ft.v⟩ hop hF hj hg hrun h.wt h.inj h.dis
     · intro r q hr _ h5 _ _;exact (hno r hr h5).elim
     · rintro q ⟨r,hr,h5,rfl⟩ _;exact hno r hr h5
     · show s.h.has q=true↔_
       rw [h.has]
       exact ⟨fun hh=> .inr hh,fun hh=> hh.elim (fun ⟨r,hr,h5,_⟩=> (hno r hr h5).elim) id⟩
theorem QfM (f:Fun) (z:JS) (t:To):NZ (jto f z t):=by
 unfold jto
 split
 · exact .e (by decide)
 · split
   · exact .e (by decide)
   · split
     · exact .e (by decide)
     · split
       · rename_i h;exact .e h
       · exact Qal _ _ _ _
theorem jend_nz (f:Fun) (z:JS) (e:Tail):NZ (jend f z e):=by
 unfold jend
 refine .ite (QfM _ _ _) (.ite (.bind (Qak _ _ _) fun _ _=> .bind (QfM _ _ _) fun _ _=> QfM _ _ _) (.bind (Qal _ _ _ _) fun _ _=> .ite (.e (by decide)) (.o _)))
theorem Safe.fin (h:Safe m Ψ s f b z O) (hx:b.code[s.g.i]?=none):Q1I f.blocks.length b.fin=0∧jend f z b.fin= .ok ():=by
 have h1:=h.run
 rw [Q7e (List.getElem?_eq_none_iff.1 hx),Q3Z] at h1
 unfold jEnd at h1
 split at h1
 · rename_i hne;exact absurd h1 hne
 · rename_i he
   refine ⟨Classical.not_not.1 he,?_⟩
   cases hj:jend f z b.fin with
   | ok u=> rfl
   | error c=>
     rw [hj] at h1
     dsimp only at h1
     have hnz:NZ (jend f z b.fin):=jend_nz _ _ _
     exact absurd h1 (hnz c hj)
theorem Q86 {h:List Bool}:∀{l seen:List Int},Q1L h seen l=0→(∀r∈l,hasB h r=true)∧l.Nodup∧(∀r∈l,r∉seen)∧(Q3g h).length≤seen.length+l.length
 | [],seen,hp=> by
   rw [Q1L] at hp
   split at hp
   · cases hp
   · exact ⟨by simp,List.nodup_nil,by simp,by simp only [List.length_nil];omega⟩
 | x ::l,seen,hp=> by
   rw [Q1L] at hp
   split at hp
   · rename_i hx
     split at hp
     · cases hp
     · rename_i hns
       obtain ⟨h1,h2,h3,h4⟩:=Q86 hp
       refine ⟨fun r hr=> ?_,List.nodup_cons.2 ⟨fun hm=> h3 x hm (by simp),h2⟩,fun r hr=> ?_,by simp only [List.length_append,List.length_cons,List.length_nil] at h4 ⊢;omega⟩
       · rcases List.mem_cons.1 hr with rfl|hr
         · exact hx
         · exact h1 r hr
       · rcases List.mem_cons.1 hr with rfl|hr
         · exact hns
         · exact fun hs=> h3 r hr (List.mem_append.2 (.inl hs))
   · cases hp
theorem pass_all {h:List Bool}{l:List Int}(hp:Q1L h [] l=0):∀r,hasB h r=true→r∈l:=by
 obtain ⟨h1,h2,_,h4⟩:=Q86 hp
 intro r hr
 refine Classical.byContradiction fun hn=> ?_
 have:=Q3o (a:=r::l) (b:=Q3g h) (List.nodup_cons.2 ⟨hn,h2⟩) (by
  intro y hy
  rcases List.mem_cons.1 hy with rfl|hy
  · exact mem_heldL.2 hr
  · exact mem_heldL.2 (h1 y hy))
 simp only [List.length_cons,List.length_nil] at this h4
 omega
theorem Qae {l:List Int}{n:Nat}(h:Q42 l n=true){i:Nat}(hi:i < n):l[i]?=some (i:Int):=by
 unfold Q42 at h
 rw [List.all_eq_true] at h
 exact of_decide_eq_true (h i (List.mem_range.2 hi))
theorem Qbh {l:List Int}(h:l.Nodup){i j:Nat}{a:Int}(hi:l[i]?=some a) (hj:l[j]?=some a):i=j:=by
 have h1:=(List.getElem?_eq_some_iff.1 hi).1
 exact (List.getElem?_inj h1 h).1 (by rw [hi,hj])
theorem Qc6 (hR:m.runs.1=0) (hm:m.Short) (h:Safe m Ψ s f b z O){t:To}(hj:jto f z t= .ok ()) (hb0:0≤t.block):StS m (s.to f t):=by
 have hM:=Q1i hR
 unfold jto at hj
 unfold MS.to
 cases hb:f.blocks[t.block.toNat]? with
 | none=> rw [hb] at hj;cases hj
 | some b' =>
   rw [hb] at hj
   dsimp only at hj ⊢
   split at hj
   · cases hj
   · rename_i hl
     split at hj
     · cases hj
     · rename_i hk
       split at hj
       · cases hj
       · rename_i hp
         have hp:Q1L z.h [] t.regs=0:=Classical.not_not.1 hp
         have hk:Q42 t.regs f.regs.toNat=true:=by simpa using hk
         obtain ⟨p1,p2,_,_⟩:=Q86 hp
         have p3:=pass_all hp
         have hrs:=rgs_of h.ft.n p1
         obtain ⟨vs,k1,k2⟩:=Q8l h.ft hj
         have hlen:=k2.1
         rw [List.length_map] at hlen
         rw [Q1 hrs,Q1 k1,if_neg (by rw [List.length_map];omega)]
         have hbh:=Q1W (Q1x hM h.hf hb).1
         have hfh:=Q1w (Q1R hM h.hf)
         have hn:=h.ft.n
         have hrl:=Q7Y h.inv
         -- the new names
         have idx:∀r:Int,hasB (Q1g b').h r=true→∃q,t.regs[r.toNat]?=some q∧hasB z.h q=true∧(⟨s.g.f,t.block.toNat,0,vs,t.regs.map s.g.ρ⟩:Frm).ρ r=s.g.ρ q:=fun r hr=> by
          have h1:=(Q32 (by omega) (by omega)).1 hr
          have h2:t.regs[r.toNat]?=some t.regs[r.toNat]:=List.getElem?_eq_getElem (by omega)
          refine ⟨_,h2,p1 _ (List.mem_of_getElem? h2),?_⟩
          have h3:(t.regs.map s.g.ρ).getD r.toNat 0=s.g.ρ (t.regs.getD r.toNat 0):=Qax (by omega)
          show (t.regs.map s.g.ρ).getD r.toNat 0=_
          rw [h3,List.getD_eq_getElem?_getD,h2];rfl
         have up:∀(r q:Int),0≤r→t.regs[r.toNat]?=some q→hasB z.h q=true→(f.regs≤r↔f.regs≤q):=fun r q h0 hq hh=> by
          have hqr:=Q2f hh
          constructor
          · intro hr
            refine Classical.byContradiction fun hc=> ?_
            have h1:=Qae hk (i:=q.toNat) (by omega)
            rw [show ((q.toNat:Nat):Int)=q by omega] at h1
            have:=Qbh p2 hq h1;omega
          · intro hq2
            refine Classical.byContradiction fun hc=> ?_
            have h1:=Qae hk (i:=r.toNat) (by omega)
            rw [hq] at h1;cases h1;omega
         have own:∀q,Own f (Q1g b') ⟨s.g.f,t.block.toNat,0,vs,t.regs.map s.g.ρ⟩ q↔Own f z s.g q:=fun q=> by
          constructor
          · rintro ⟨r,hr,h1,rfl⟩
            obtain ⟨a,h2,h3,h4⟩:=idx r hr
            have h0:=((Q32 (by omega) (by omega)).1 hr).1
            exact ⟨a,h3,(up r a h0 h2 h3).1 h1,h4.symm⟩
          · rintro ⟨a,ha,h1,rfl⟩
            obtain ⟨i,hi⟩:=List.mem_iff_getElem?.1 (p3 a ha)
            have hil:=(List.getElem?_eq_some_iff.1 hi).1
            have hri:hasB (Q1g b').h (i:Int)=true:=(Q32 (by omega) (by omega)).2 (by omega)
            obtain ⟨a2,h2,h3,h4⟩:=idx i hri
            rw [Int.toNat_natCast,hi] at h2
            cases h2
            exact ⟨i,hri,(up i a (by omega) (by rw [Int.toNat_natCast];exact hi) h3).2 h1,h4⟩
         refine ⟨Ψ,f,b',Q1g b',O,h.ty,h.hf,hb,Q6w hR h.hf hb,Q6P hm hM h.hf hb,QdC (regs:=[]) (g:=s.g) rfl (by omega) (by omega) k2 (fun u hu=> Ty.fault_wrong (Q2M hbh.2.2.1 u hu)),?_,?_,?_,fun q=> ?_⟩
         · have ek:Q41 f ⟨s.g.f,t.block.toNat,0,vs,t.regs.map s.g.ρ⟩=Q41 f s.g:=by
            unfold Q41
            refine List.ext_getElem? fun i=> ?_
            by_cases hi:i < f.regs.toNat
            · rw [List.getElem?_take_of_lt hi,List.getElem?_take_of_lt hi,List.getElem?_map,Qae hk hi]
              unfold Frm.ρ
              rw [List.getElem?_eq_getElem (show i < s.g.regs.length by omega)]
              simp only [Option.map_some,Int.toNat_natCast]
              rw [List.getD_eq_getElem?_getD,List.getElem?_eq_getElem (show i < s.g.regs.length by omega)];rfl
            · rw [List.getElem?_eq_none (by rw [List.length_take];omega),List.getElem?_eq_none (by rw [List.length_take];omega)]
           show Wt m Ψ s.st f (Q41 f ⟨s.g.f,t.block.toNat,0,vs,t.regs.map s.g.ρ⟩) O
           rw [ek];exact h.wt
         · intro r q hr hq h1 h2 he
           obtain ⟨a,a1,a2,a3⟩:=idx r hr
           obtain ⟨c,c1,c2,c3⟩:=idx q hq
           have hr0:=((Q32 (by omega) (by omega)).1 hr).1
           have hq0:=((Q32 (by omega) (by omega)).1 hq).1
           have hac:=h.inj a c a2 c2 ((up r a hr0 a1 a2).1 h1) ((up q c hq0 c1 c2).1 h2) (by rw [←a3,←c3];exact he)
           subst hac
           have:=Qbh p2 a1 c1;omega
         · exact fun q hq=> h.dis q ((own q).1 hq)
         · show s.h.has q=true↔_
           rw [h.has]
           exact or_congr (own q).symm Iff.rfl
theorem upTo_get {n i:Nat}(h:i < n):(upTo n).getD i 0=i:=by
 unfold upTo
 rw [List.getD_eq_getElem?_getD,List.getElem?_map,List.getElem?_range h];rfl
theorem ints_of {l:List Val}{ts:List Ty}(h:VTs Ψ l ts) (hk:∀t∈ts,t.kind=1):∃ns,intsV l=some ns:=by
 induction l generalizing ts with
 | nil=> exact ⟨[],rfl⟩
 | cons v l ih=>
   cases ts with
   | nil=> have:=h.1;simp at this
   | cons t ts=>
     have h1:=h.2 0 v t rfl rfl
     obtain ⟨ns,h2⟩:=ih (ts:=ts) ⟨by have:=h.1;simpa using this,fun i w u hw hu=> h.2 (i+1) w u (by simpa using hw) (by simpa using hu)⟩ (fun u hu=> hk u (List.mem_cons_of_mem _ hu))
     exact ⟨v.n::ns,by rw [intsV,h2];exact if_pos (by rw [h1.kind];exact hk t (List.mem_cons_self ..))⟩
def Q6n (h:HpS):Prop:=∀q,h.has q=false
def StE (m:Module) (h:HpS):Stp→Prop
 | .go s=> Q9d m s
 | .halt _=> True
 | .done _=> Q6n h
 | .lost=> False
theorem Qd1 {h:HpS}{r:Stp}(hr:StS m r) (hd:∀l,r≠ .done l):StE m h r:=by
 cases r with
 | go s=> exact hr
 | halt e=> exact trivial
 | done l=> exact absurd rfl (hd l)
 | lost=> exact hr
theorem Q13 {α:Type}{o:Option α}{fn:α→Stp}(h:∀a l,fn a≠ .done l):∀l,Q14 o fn≠ .done l:=by
 cases o with
 | none=> intro l h;cases h
 | some a=> exact h a
theorem Q1p {p:Prop} [Decidable p] {a b:Stp}(h1:∀l,a≠ .done l) (h2:∀l,b≠ .done l):∀l,(if p then a else b)≠ .done l:=by
 split
 · exact h1
 · exact h2
theorem Q5U {s:MS}:∀l,Stp.go s≠ .done l:=fun l h=> by cases h
theorem Q4u {e:Int}:∀l,Stp.halt e≠ .done l:=fun l h=> by cases h
theorem Q2P:∀l,Stp.lost≠ .done l:=fun l h=> by cases h
theorem to_nd {f:Fun}{t:To}:∀l,s.to f t≠ .done l:=by
 unfold MS.to
 split
 · exact Q2P
 · exact Q13 fun _=> Q13 fun _=> Q1p Q2P Q5U
theorem Qcl {v:Val}{e:Int}{k:Stp}(h:∀l,k≠ .done l):∀l,Q38 v e k≠ .done l:=Q1p Q2P (Q1p Q4u (Q1p Q2P h))
theorem QfF {e:Int}{h:HpS}{v:Val}:∀l,s.made e h v≠ .done l:=Q1p Q4u (Q1p Q2P Q5U)
theorem ins_nd {x:Ins}:∀l,s.ins m x≠ .done l:=by
 unfold MS.ins
 refine Q1p Q5U (Q1p (Q13 fun _=> Q13 fun _=> Q1p Q4u Q5U) (Q1p (Q1p Q4u Q5U) (Q1p (Q13 fun _=> Q1p Q2P Q5U) (Q1p (Q13 fun _=> Q13 fun _=> QfF)
  (Q1p (Q13 fun _=> Q1p Q2P (Q1p Q2P Q5U)) (Q1p (Q13 fun _=> Q1p Q2P (Q13 fun _=> Q1p Q2P Q5U)) (Q1p (Q13 fun _=> Q13 fun _=> Q1p Q4u QfF)
  (Q1p (Q13 fun _=> Q13 fun _=> Qcl Q5U) (Q1p (Q13 fun _=> Q13 fun _=> Q13 fun _=> Qcl Q5U) (Q1p (Q13 fun _=> Qcl Q5U) (Q1p ?_ (Q1p (Q13 fun _=> Q1p Q4u Q5U) ?_))))))))))))
 · unfold MS.inS
   split
   · exact Q4u
   · exact Q5U
 · unfold MS.call
   split
   · exact Q2P
   · exact Q13 fun _=> Q13 fun _=> Q1p Q2P (Q1p Q4u Q5U)
def HzS:Stp→Prop
 | .halt e=> e≠0
 | _=> True
theorem Q18 {p:Prop} [Decidable p] {a b:Stp}(h1:HzS a) (h2:HzS b):HzS (if p then a else b):=by
 split
 · exact h1
 · exact h2
theorem Q3e {α:Type}{o:Option α}{fn:α→Stp}(h:∀a,HzS (fn a)):HzS (Q14 o fn):=by
 cases o with
 | none=> exact trivial
 | some a=> exact h a
theorem hz_h {e:Int}(h:e≠0):HzS (.halt e):=h
theorem QcE {v:Val}{e:Int}{k:Stp}(h:HzS k):HzS (Q38 v e k):=Q18 trivial (Q18 (hz_h (by decide)) (Q18 trivial h))
theorem Qg4 {e:Int}{h:HpS}{v:Val}:HzS (s.made e h v):=Q18 (hz_h (by decide)) (Q18 trivial trivial)
theorem hz_ins {x:Ins}:HzS (s.ins m x):=by
 unfold MS.ins
 refine Q18 trivial (Q18 (Q3e fun _=> Q3e fun _=> Q18 (hz_h (by decide)) trivial) (Q18 (Q18 (hz_h (by decide)) trivial) (Q18 (Q3e fun _=> Q18 trivial trivial) (Q18 (Q3e fun _=> Q3e fun _=> Qg4)
  (Q18 (Q3e fun _=> Q18 trivial (Q18 trivial trivial)) (Q18 (Q3e fun _=> Q18 trivial (Q3e fun _=> Q18 trivial trivial)) (Q18 (Q3e fun _=> Q3e fun _=> Q18 (hz_h (by decide)) Qg4)
  (Q18 (Q3e fun _=> Q3e fun _=> QcE trivial) (Q18 (Q3e fun _=> Q3e fun _=> Q3e fun _=> QcE trivial) (Q18 (Q3e fun _=> QcE trivial) (Q18 ?_ (Q18 (Q3e fun _=> Q18 (hz_h (by decide)) trivial) ?_))))))))))))
 · unfold MS.inS
   split
   · exact hz_h (by decide)
   · exact trivial
 · unfold MS.call
   split
   · exact trivial
   · exact Q3e fun _=> Q3e fun _=> Q18 trivial (Q18 (hz_h (by decide)) trivial)
theorem hz_to {f:Fun}{t:To}:HzS (s.to f t):=by
 unfold MS.to
 split
 · exact trivial
 · exact Q3e fun _=> Q3e fun _=> Q18 trivial trivial
theorem hz_fin {f:Fun}{e:Tail}:HzS (s.fin f e):=by
 unfold MS.fin
 refine Q18 hz_to (Q18 (Q3e fun _=> Q18 hz_to hz_to) ?_)
 unfold MS.ret
 refine Q3e fun vs=> Q18 trivial ?_
 split
 · exact trivial
 · split <;> exact trivial
theorem one_halt {s:MS}{e:Int}(h:s.one m= .halt e):e≠0:=by
 have h1:HzS (s.one m):=by
  unfold MS.one
  split
  · exact trivial
  · split
    · exact trivial
    · split
      · exact hz_ins
      · exact hz_fin
 rw [h] at h1;exact h1
theorem safe_ret (hR:m.runs.1=0) (hm:m.Short) (h:Safe m Ψ s f b z O){e:Tail}(hj:QA (Q58 z e.args f.results (upTo f.regs.toNat)) (fun _=> if f.regs < (Q3g z.h).length then (.error 12:Except Int Unit) else .ok ())= .ok ()):StE m s.h (s.ret f e):=by
 have hM:=Q1i hR
 have hfh:=Q1w (Q1R hM h.hf)
 have hrl:=Q7Y h.inv
 have hn:=h.ft.n
 obtain ⟨_,h1,hj⟩:=Q5 hj
 split at hj
 · cases hj
 · rename_i hlt
   have hno:∀q,¬Own f z s.g q:=by
    rintro q ⟨r,hr,h2,rfl⟩
    exact hlt ((left_iff h.inv hfh.1).2 ⟨r,mem_heldL.2 hr,h2⟩)
   obtain ⟨vs,k1,k2⟩:=Q8l h.ft h1
   have hwr:∀t∈f.results,t.wrong 8 f.regs=0:=fun t ht=> Ty.fault_wrong (Q2M hfh.2.2.2.1 t ht)
   have hlen:=k2.1
   rw [List.length_map] at hlen
   unfold MS.ret
   rw [Q1 k1,if_neg (by omega)]
   have hw:=h.wt
   generalize hkp:Q41 f s.g=kp at hw
   cases hst:s.st with
   | nil=>
     rw [hst] at hw
     dsimp only
     cases hw with
     | nil hf0=>
       have hfz:=Q1R hM hf0
       have hres:∀t∈f.results,t.kind=1:=by
        unfold Q3h at hfz
        split at hfz
        · cases hfz
        · split at hfz
          · rename_i hh;exact absurd hfz hh
          · split at hfz
            · rename_i hh;exact absurd hfz hh
            · split at hfz
              · cases hfz
              · split at hfz
                · cases hfz
                · rename_i hh
                  intro t ht
                  exact Classical.byContradiction fun hk=> hh ⟨rfl, .inr (.inr ⟨t,ht,hk⟩)⟩
       obtain ⟨ns,h2⟩:=ints_of k2 (fun u hu=> by
        obtain ⟨t,ht,rfl⟩:=List.mem_map.1 hu
        rw [Ty.rn_kind,Ty.rn_kind];exact hres t ht)
       rw [h2]
       intro q
       cases hq:s.h.has q with
       | false=> rfl
       | true => rcases (h.has q).1 hq with h3|h3
                 · exact absurd h3 (hno q)
                 · exact h3.elim
   | cons c st=>
     rw [hst] at hw
     dsimp only
     have hhas:=h.has
     cases hw with
     | @cons _ _ fc _ bc zc z' x O' hf hb hi ht hx hF hc hg hr hw' hj' hd'=>
       obtain ⟨c1,c2,c3,rfl⟩:=Q5z hc hg
       have hall:=Q4x c2
       have hinv:=Q7A (x:=x) hM hm hi hF (by rw [Q6N hx];exact hc)
       refine ⟨Ψ,fc,bc,_,O',h.ty,hf,hb,hr,hinv,⟨ht.n,?_⟩,hw',hj',hd',fun q=> ?_⟩
       · show VTs Ψ (c.vals++vs) ((zc.l++f.results.map (renT x.regs)).map fun t=> t.rn c.regs)
         rw [List.map_append,List.map_map]
         refine VTs.app ht.v ?_
         have e9:(f.results.map ((fun t:Ty=> t.rn c.regs)∘renT x.regs))=f.results.map fun t=> (t.rn (upTo f.regs.toNat)).rn s.g.regs:=by
          refine List.map_congr_left fun t ht2=> ?_
          have hw8:=hwr t ht2
          have hrg:∀r∈x.regs,0≤r∧r < zc.h.length:=fun r hr=> Q2f (hall r hr)
          obtain ⟨u,hu,_⟩:=Ty.ren_right (n:=zc.h.length) (f:=x.regs) (fun i hi=> by
           rw [List.getD_eq_getElem?_getD,List.getElem?_eq_getElem hi]
           exact hrg _ (List.getElem_mem hi)) t (by rw [c1];exact hw8)
          have e1:renT x.regs t=t.rn x.regs:=by unfold renT;rw [hu];exact Ty.rn_of t u hu
          show (renT x.regs t).rn c.regs=_
          rw [e1,Ty.rn_rn (e:=x.regs.map c.ρ) (n:=f.regs) (fun i hi=> by rw [Qax (by omega)];rfl) t hw8,
           Ty.rn_rn (e:=s.g.regs) (n:=f.regs) (fun i hi=> by rw [upTo_get (by omega)];rfl) t hw8]
          refine Ty.rn_congr (n:=f.regs) (fun i hi=> ?_) t hw8
          rw [←hkp]
          unfold Q41
          rw [List.getD_eq_getElem?_getD,List.getElem?_take_of_lt (by omega),←List.getD_eq_getElem?_getD]
         rw [e9];exact k2
       · show s.h.has q=true↔_
         rw [hhas]
         exact ⟨fun hh=> hh.elim (fun h3=> absurd h3 (hno q)) id,fun hh=> .inr hh⟩
theorem Qd5 (hR:m.runs.1=0) (hm:m.Short) (h:Q9d m s):StE m s.h (s.one m):=by
 obtain ⟨Ψ,f,b,z,O,h⟩:=h
 have hM:=Q1i hR
 unfold MS.one
 rw [h.hf]
 dsimp only
 rw [h.hb]
 dsimp only
 cases hx:b.code[s.g.i]? with
 | some x=>
   dsimp only
   refine Qd1 ?_ ins_nd
   by_cases h3:x.op=3
   · exact safe_new hM hm h hx h3
   · by_cases h4:x.op=4
     · exact QeW hM hm h hx h4
     · by_cases h14:x.op=14
       · exact QeX hR hm h hx h14
       · exact ext_len hM hm h hx h3 h4 h14
 | none=>
   dsimp only
   obtain ⟨he,hj⟩:=h.fin hx
   obtain ⟨e1,e2,e3,e4⟩:=Q3J he
   unfold MS.fin
   by_cases h1:b.fin.op=1
   · rw [if_pos h1]
     rw [QfU h1] at hj
     have hd:decide (b.fin.op≠3)=true:=decide_eq_true (by omega)
     rw [hd] at e3
     exact Qd1 (Qc6 hR hm h hj (Q3N e3).1) to_nd
   · rw [if_neg h1]
     by_cases h2:b.fin.op=2
     · rw [if_pos h2]
       rw [Qbs h2] at hj
       obtain ⟨t,g1,hj⟩:=Q5 hj;obtain ⟨u,g2,hj⟩:=Q5 hj
       obtain ⟨n,hn⟩:=Q79 h.ft g1
       have hd:decide (b.fin.op≠3)=true:=decide_eq_true (by omega)
       have hd2:decide (b.fin.op=2)=true:=decide_eq_true h2
       rw [hd] at e3
       rw [hd2] at e4
       rw [Q1 hn]
       split
       · exact Qd1 (Qc6 hR hm h g2 (Q3N e3).1) to_nd
       · exact Qd1 (Qc6 hR hm h hj (Q3N e4).1) to_nd
     · rw [if_neg h2]
       rw [Qdv (by omega)] at hj
       exact safe_ret hR hm h hj
theorem QaY (h:Q9d m s):Q9d m s.tick:=by
 obtain ⟨Ψ,f,b,z,O,h⟩:=h
 exact ⟨Ψ,f,b,z,O,h.ty,h.hf,h.hb,h.run,h.inv,h.ft,h.wt,h.inj,h.dis,h.has⟩
theorem QdX (hR:m.runs.1=0) (hm:m.Short) (inp:List Int) (pages:Int):Q9d m (MS.start inp pages):=by
 have hM:=Q1i hR
 have hl:=Q8F hM
 obtain ⟨f,hf⟩:∃f,m.funcs[0]?=some f:=⟨_,List.getElem?_eq_getElem (by omega)⟩
 have hfh:=Q1w (Q1R hM hf)
 have hz:f.regs=0∧f.params=[]:=by
  have hfz:=Q1R hM hf
  unfold Q3h at hfz
  split at hfz
  · cases hfz
  · split at hfz
    · rename_i hh;exact absurd hfz hh
    · split at hfz
      · rename_i hh;exact absurd hfz hh
      · split at hfz
        · cases hfz
        · split at hfz
          · cases hfz
          · rename_i hh
            exact ⟨Classical.byContradiction fun hk=> hh ⟨rfl, .inl (by omega)⟩,Classical.byContradiction fun hk=> hh ⟨rfl, .inr (.inl (List.length_pos_iff.2 hk))⟩⟩
 obtain ⟨b,hb⟩:∃b,f.blocks[0]?=some b:=⟨_,List.getElem?_eq_getElem (by omega)⟩
 have hbh:=Q1W (Q1x hM hf hb).1
 obtain ⟨e1,e2⟩:=hbh.2.2.2.1 rfl
 have hno:∀r,hasB (Q1g b).h r=true→False:=fun r hr=> by have:=(Q32 (by omega) (by omega)).1 hr;omega
 refine ⟨fun _ _=> none,f,b,Q1g b,fun _=> False,⟨fun _ _ _ h=> (by cases h),fun _ _ _ h=> (by cases h)⟩,hf,hb,Q6w hR hf hb,Q6P hm hM hf hb,⟨?_,?_⟩,?_,?_,?_,fun q=> ?_⟩
 · show 0=(List.replicate (min b.regs 16).toNat true).length
   rw [List.length_replicate];omega
 · show VTs _ [] (b.params.map _)
   rw [e2,hz.2];exact VTs.nil _
 · show Wt m _ [] f (Q41 f ⟨0,0,0,[],[]⟩) _
   rw [show Q41 f ⟨0,0,0,[],[]⟩=[] from List.take_nil]
   exact .nil hf
 · intro r q hr;exact (hno r hr).elim
 · rintro q ⟨r,hr,_⟩;exact (hno r hr).elim
 · constructor
   · intro hh
     have:=Q28 hh
     have hl0:(MS.start inp pages).h.l.length=0:=rfl
     omega
   · rintro (⟨r,hr,_⟩|hh)
     · exact (hno r hr).elim
     · exact hh.elim
def QgD (m:Module):Run→Prop
 | .on s=> Q9d m s
 | .over s e _=> e=0→Q6n s.h
 | .stuck _=> False
theorem Qga {s:MS}{e:Int}(h:s.one m= .halt e):e≠0:=one_halt h
theorem Q9Y (hR:m.runs.1=0) (hm:m.Short){most:Nat}{r:Run}(h:QgD m r):QgD m (r.step m most):=by
 cases r with
 | on s=>
   unfold Run.step
   dsimp only
   split
   · intro h0;cases h0
   · have h1:=Qd5 hR hm (QaY h)
     cases hr:s.tick.one m with
     | go t=> rw [hr] at h1;exact h1
     | halt e=> exact fun h0=> absurd h0 (Qga hr)
     | done l=> rw [hr] at h1;exact fun _=> h1
     | lost=> rw [hr] at h1;exact h1
 | over s e b=> exact h
 | stuck f=> exact h
end
end Go.Lir
namespace Go.Lir
set_option linter.unusedVariables false
theorem Q8o {n:Nat}{x:Ins}(h:QC n x=0):Q1k n x=0:=by
 unfold QC at h
 split at h
 · cases h
 · split at h
   · cases h
   · exact h
theorem insF_k {n:Nat}{x:Ins}(h:QC n x=0) (ho:x.op=14):0≤x.k∧x.k < n:=by
 have hk:=Q8o h
 unfold Q1k at hk
 rw [if_neg (by omega),if_neg (by omega),if_neg (by omega),if_pos ho] at hk
 split at hk
 · cases hk
 · omega
theorem insF_t {n:Nat}{x:Ins}(h:QC n x=0) (ho:x.op=5):x.args.length≤8:=by
 have hk:=Q8o h
 unfold Q1k at hk
 rw [if_neg (by omega),if_pos ho] at hk
 split at hk
 · cases hk
 · omega
theorem Q5C {n:Nat}{x:Ins}(h:QC n x=0):x.regs.length≤16∧x.args.length≤8:=by
 have hk:=Q8o h
 have ho:¬x.odd:=by
  unfold QC at h
  split at h
  · cases h
  · split at h
    · cases h
    · assumption
 unfold Ins.odd at ho
 by_cases h14:x.op=14
 · unfold Q1k at hk
   rw [if_neg (by omega),if_neg (by omega),if_neg (by omega),if_pos h14] at hk
   split at hk
   · cases hk
   · split at hk
     · cases hk
     · omega
 · have g1:fG x.op=false:=by unfold fG;exact decide_eq_false h14
   have r0:¬0 < x.regs.length:=fun hh=> ho (.inr (.inr (.inr (.inr (.inr (.inl ⟨g1,hh⟩))))))
   by_cases h5:x.op=5
   · exact ⟨by omega,insF_t h h5⟩
   · have g2:fR x.op=false:=by unfold fR;exact decide_eq_false (by omega)
     have a0:¬0 < x.args.length:=fun hh=> ho (.inr (.inr (.inr (.inr (.inr (.inr ⟨g2,hh⟩))))))
     exact ⟨by omega,by omega⟩
theorem QaV {n:Nat}{t:To}(h:Q1K n t true=0):t.regs.length≤16∧t.args.length≤8:=by
 unfold Q1K at h
 rw [if_neg (by decide)] at h
 split at h
 · cases h
 · split at h
   · cases h
   · omega
theorem Qaz {n:Nat}{e:Tail}(h:Q1I n e=0):e.args.length≤8:=by
 unfold Q1I at h
 split at h
 · cases h
 · split at h
   · cases h
   · split at h
     · cases h
     · omega
theorem Q4b {g:Frm}:∀{l:List Int}{vs:List Val},g.args l=some vs→vs.length=l.length
 | [],_,h=> by cases h;rfl
 | k ::l,vs,h=> by
   rw [Frm.args] at h
   split at h
   · rename_i v vs' h1 h2
     cases h
     rw [List.length_cons,List.length_cons,Q4b h2]
   · cases h
theorem Qcd {g:Frm}:∀{l:List Int}{vs:List Int},g.rgs l=some vs→vs.length=l.length
 | [],_,h=> by cases h;rfl
 | k ::l,vs,h=> by
   rw [Frm.rgs] at h
   split at h
   · rename_i v vs' h1 h2
     cases h
     rw [List.length_cons,List.length_cons,Qcd h2]
   · cases h
theorem Q8n:∀{l:List Val}{ns:List Int},intsV l=some ns→ns.length=l.length
 | [],_,h=> by cases h;rfl
 | v ::l,ns,h=> by
   rw [intsV] at h
   split at h
   · cases h
   · rename_i ns' h1
     split at h
     · cases h
       rw [List.length_cons,List.length_cons,Q8n h1]
     · cases h
def Stp.All (P:MS→Prop):Stp→Prop
 | .go s=> P s
 | .done l=> l.length≤8
 | _=> True
theorem Stp.all_bind {α:Type}{P:MS→Prop}{x:Option α}{f:α→Stp}(h:∀a,x=some a→(f a).All P):(Q14 x f).All P:=by
 cases x with
 | none=> exact trivial
 | some a=> exact h a rfl
theorem Stp.all_if {P:MS→Prop}{c:Prop} [Decidable c] {a b:Stp}(h1:c→a.All P) (h2:¬c→b.All P):(if c then a else b).All P:=by
 by_cases hc:c
 · rw [if_pos hc];exact h1 hc
 · rw [if_neg hc];exact h2 hc
def FrB (m:Module) (k:Nat) (g:Frm):Prop:=∃f b,m.funcs[g.f]?=some f∧f.blocks[g.b]?=some b∧g.i≤b.code.length∧g.vals.length≤8+8*k∧g.regs.length≤16+k
structure Bnd (m:Module) (k:Nat) (s:MS):Prop where
 cur:FrB m k s.g
 st:∀x∈s.st,FrB m k x
 sl:s.st.length≤39
 out:s.out.length≤2000
section
variable {m:Module}{k:Nat}{s:MS}
theorem FrB.up {g:Frm}(h:FrB m k g):FrB m (k+1) g:=by
 obtain ⟨f,b,h1,h2,h3,h4,h5⟩:=h
 exact ⟨f,b,h1,h2,h3,by omega,by omega⟩
theorem FrB.more {g:Frm}(h:FrB m k g){vs:List Val}{rs:List Int}(hv:vs.length≤8) (hr:rs.length≤1):FrB m (k+1) ⟨g.f,g.b,g.i,g.vals++vs,g.regs++rs⟩:=by
 obtain ⟨f,b,h1,h2,h3,h4,h5⟩:=h
 refine ⟨f,b,h1,h2,h3,?_,?_⟩
 · show (g.vals++vs).length≤_;rw [List.length_append];omega
 · show (g.regs++rs).length≤_;rw [List.length_append];omega
theorem Bnd.up (h:Bnd m k s):Bnd m (k+1) s:=⟨h.cur.up,fun x hx=> (h.st x hx).up,h.sl,h.out⟩
theorem Bnd.put (h:Bnd m k s){vs:List Val}(hv:vs.length≤8):Bnd m (k+1) (s.put vs):=by
 refine ⟨?_,fun x hx=> (h.st x hx).up,h.sl,h.out⟩
 have:=h.cur.more (rs:=[]) hv (by simp)
 rw [List.append_nil] at this
 exact this
theorem Bnd.hp (h:Bnd m k s) (q:HpS):Bnd m k (s.hp q):=⟨h.cur,h.st,h.sl,h.out⟩
theorem Bnd.made (h:Bnd m k s){e:Int}{q:HpS}{v:Val}:(s.made e q v).All (Bnd m (k+1)):=by
 unfold MS.made
 exact Stp.all_if (fun _=> trivial) fun _=> Stp.all_if (fun _=> trivial) fun _=> (h.hp q).put (by simp)
theorem Q54 {P:MS→Prop}{v:Val}{e:Int}{r:Stp}(h:r.All P):(Q38 v e r).All P:=by
 unfold Q38
 exact Stp.all_if (fun _=> trivial) fun _=> Stp.all_if (fun _=> trivial) fun _=> Stp.all_if (fun _=> trivial) fun _=> h
theorem Bnd.ins (h:Bnd m k s) (hM:m.fault.1=0){x:Ins}(hx:QC m.funcs.length x=0):(s.ins m x).All (Bnd m (k+1)):=by
 obtain ⟨q1,q2⟩:=Q5C hx
 have h1:∀(v:Val) (t:MS),Bnd m k t→(Stp.go (t.put [v])).All (Bnd m (k+1)):=fun v t ht=> ht.put (by simp)
 have h2:∀(q:HpS),(Stp.go (s.hp q)).All (Bnd m (k+1)):=fun q=> (h.hp q).up
 unfold MS.ins
 refine Stp.all_if (fun _=> h1 _ _ h) fun _=> Stp.all_if (fun _=> Stp.all_bind fun a _=> Stp.all_bind fun b _=> Stp.all_if (fun _=> trivial) fun _=> h1 _ _ h) fun _=> Stp.all_if (fun _=> ?_) fun _=>
  Stp.all_if (fun _=> Stp.all_bind fun v _=> Stp.all_if (fun _=> trivial) fun _=> h2 _) fun _=> Stp.all_if (fun _=> Stp.all_bind fun v _=> Stp.all_bind fun l _=> h.made) fun _=>
  Stp.all_if (fun _=> Stp.all_bind fun v _=> Stp.all_if (fun _=> trivial) fun _=> Stp.all_if (fun _=> trivial) fun _=> h1 _ _ h) fun _=>
  Stp.all_if (fun _=> Stp.all_bind fun v _=> Stp.all_if (fun _=> trivial) fun _=> Stp.all_bind fun y _=> Stp.all_if (fun _=> trivial) fun _=> h2 _) fun _=>
  Stp.all_if (fun _=> Stp.all_bind fun v _=> Stp.all_bind fun n _=> Stp.all_if (fun _=> trivial) fun _=> h.made) fun _=>
  Stp.all_if (fun _=> Stp.all_bind fun v _=> Stp.all_bind fun n _=> Q54 (h1 _ _ h)) fun _=>
  Stp.all_if (fun _=> Stp.all_bind fun v _=> Stp.all_bind fun n _=> Stp.all_bind fun c _=> Q54 (h2 _)) fun _=>
  Stp.all_if (fun _=> Stp.all_bind fun v _=> Q54 (h1 _ _ h)) fun _=> Stp.all_if (fun _=> ?_) fun _=> Stp.all_if (fun _=> Stp.all_bind fun n _=> ?_) fun _=> ?_
 · unfold MS.newR
   refine Stp.all_if (fun _=> trivial) fun _=> ?_
   refine ⟨?_,fun x hx=> (h.st x hx).up,h.sl,h.out⟩
   exact h.cur.more (vs:=[_]) (rs:=[_]) (by simp) (by simp)
 · unfold MS.inS
   split
   · exact trivial
   · exact h1 _ _ ⟨h.cur,h.st,h.sl,h.out⟩
 · unfold MS.outS
   refine Stp.all_if (fun _=> trivial) fun hn=> ?_
   refine ⟨h.cur.up,fun x hx=> (h.st x hx).up,h.sl,?_⟩
   have:=h.out
   show (s.out++[n]).length≤2000
   rw [List.length_append]
   simp only [List.length_cons,List.length_nil]
   omega
 · unfold MS.call
   split
   · exact trivial
   · rename_i g hg
     refine Stp.all_bind fun rs hr=> Stp.all_bind fun vs hv=> Stp.all_if (fun _=> trivial) fun _=> Stp.all_if (fun _=> trivial) fun hl=> ?_
     have hb:=(Q1w (Q1R hM hg)).2.2.2.2.1
     obtain ⟨b,hb⟩:∃b,g.blocks[0]?=some b:=⟨_,List.getElem?_eq_getElem (by omega)⟩
     refine ⟨⟨g,b,hg,hb,Nat.zero_le _,?_,?_⟩,?_,?_,h.out⟩
     · show vs.length≤_;rw [Q4b hv];omega
     · show rs.length≤_;rw [Qcd hr];omega
     · intro y hy
       rcases List.mem_cons.1 hy with rfl|hy
       · exact h.cur.up
       · exact (h.st y hy).up
     · have:=h.sl
       show (s.g::s.st).length≤39
       rw [List.length_cons];omega
theorem Bnd.to (h:Bnd m k s){f:Fun}(hf:m.funcs[s.g.f]?=some f){t:To}(ht:Q1K f.blocks.length t true=0):(s.to f t).All (Bnd m (k+1)):=by
 obtain ⟨q1,q2⟩:=QaV ht
 unfold MS.to
 split
 · exact trivial
 · rename_i b hb
   refine Stp.all_bind fun rs hr=> Stp.all_bind fun vs hv=> Stp.all_if (fun _=> trivial) fun _=> ?_
   refine ⟨⟨f,b,hf,hb,Nat.zero_le _,?_,?_⟩,fun x hx=> (h.st x hx).up,h.sl,h.out⟩
   · show vs.length≤_;rw [Q4b hv];omega
   · show rs.length≤_;rw [Qcd hr];omega
theorem Bnd.fin (h:Bnd m k s){f:Fun}(hf:m.funcs[s.g.f]?=some f){e:Tail}(he:Q1I f.blocks.length e=0):(s.fin f e).All (Bnd m (k+1)):=by
 obtain ⟨q1,q2,q3,q4⟩:=Q3J he
 have q5:=Qaz he
 unfold MS.fin
 refine Stp.all_if (fun e1=> ?_) fun n1=> Stp.all_if (fun e2=> Stp.all_bind fun n _=> Stp.all_if (fun _=> ?_) fun _=> ?_) fun n2=> ?_
 · rw [decide_eq_true (by omega)] at q3;exact h.to hf q3
 · rw [decide_eq_true (by omega)] at q3;exact h.to hf q3
 · rw [decide_eq_true (by omega)] at q4;exact h.to hf q4
 · unfold MS.ret
   refine Stp.all_bind fun vs hv=> Stp.all_if (fun _=> trivial) fun _=> ?_
   split
   · rename_i c st hst
     have hc:=h.st c (by rw [hst];exact List.mem_cons_self)
     have h8:vs.length≤8:=by rw [Q4b hv];omega
     refine Bnd.put (s:=⟨s.h,c,st,s.inp,s.out,s.fuel⟩) ⟨hc,fun x hx=> h.st x (by rw [hst];exact List.mem_cons_of_mem _ hx),?_,h.out⟩ h8
     have:=h.sl
     rw [hst,List.length_cons] at this
     show st.length≤39
     omega
   · split
     · exact trivial
     · rename_i ns hns
       show ns.length≤8
       rw [Q8n hns,Q4b hv];omega
theorem Bnd.one (h:Bnd m k s) (hM:m.fault.1=0):(s.one m).All (Bnd m (k+1)):=by
 obtain ⟨f,b,hf,hb,hi,hv,hr⟩:=h.cur
 obtain ⟨-,q1,q2⟩:=Q1x hM hf hb
 unfold MS.one
 rw [hf];dsimp only;rw [hb];dsimp only
 cases hx:b.code[s.g.i]? with
 | none=> exact h.fin hf q2
 | some x=>
   have hlt:=(List.getElem?_eq_some_iff.1 hx).1
   refine Bnd.ins (s:=s.next) ⟨⟨f,b,hf,hb,?_,hv,hr⟩,h.st,h.sl,h.out⟩ hM (q1 x (List.mem_of_getElem? hx))
   show s.g.i+1≤_
   omega
theorem Bnd.start (hM:m.fault.1=0) (inp:List Int) (pages:Int):Bnd m 0 (MS.start inp pages):=by
 have hl:=Q8F hM
 obtain ⟨f,hf⟩:∃f,m.funcs[0]?=some f:=⟨_,List.getElem?_eq_getElem (by omega)⟩
 have hb:=(Q1w (Q1R hM hf)).2.2.2.2.1
 obtain ⟨b,hb⟩:∃b,f.blocks[0]?=some b:=⟨_,List.getElem?_eq_getElem (by omega)⟩
 exact ⟨⟨f,b,hf,hb,Nat.zero_le _,Nat.zero_le _,Nat.zero_le _⟩,fun x hx=> (by cases hx),Nat.zero_le _,Nat.zero_le _⟩
end
end Go.Lir
namespace Go.Lir
def Stp.Fu (k:Nat):Stp→Prop
 | .go s=> s.fuel=k
 | _=> True
theorem Stp.fu_bind {α:Type}{k:Nat}{x:Option α}{f:α→Stp}(h:∀a,(f a).Fu k):(Q14 x f).Fu k:=by
 cases x with
 | none=> exact trivial
 | some a=> exact h a
theorem Stp.fu_if {k:Nat}{c:Prop} [Decidable c] {a b:Stp}(h1:a.Fu k) (h2:b.Fu k):(if c then a else b).Fu k:=by
 by_cases hc:c
 · rw [if_pos hc];exact h1
 · rw [if_neg hc];exact h2
section
variable {m:Module}{s:MS}
theorem Qge {e:Int}{h:HpS}{v:Val}:(s.made e h v).Fu s.fuel:=Stp.fu_if trivial (Stp.fu_if trivial rfl)
theorem QcI {v:Val}{e:Int}{r:Stp}{k:Nat}(h:r.Fu k):(Q38 v e r).Fu k:=Stp.fu_if trivial (Stp.fu_if trivial (Stp.fu_if trivial h))
theorem fu_to {f:Fun}{t:To}:(s.to f t).Fu s.fuel:=by
 unfold MS.to
 split
 · exact trivial
 · exact Stp.fu_bind fun _=> Stp.fu_bind fun _=> Stp.fu_if trivial rfl
theorem fu_ins {x:Ins}:(s.ins m x).Fu s.fuel:=by
 unfold MS.ins
 refine Stp.fu_if rfl (Stp.fu_if (Stp.fu_bind fun _=> Stp.fu_bind fun _=> Stp.fu_if trivial rfl) (Stp.fu_if (Stp.fu_if trivial rfl) (Stp.fu_if (Stp.fu_bind fun _=> Stp.fu_if trivial rfl) (Stp.fu_if (Stp.fu_bind fun _=> Stp.fu_bind fun _=> Qge) (Stp.fu_if (Stp.fu_bind fun _=> Stp.fu_if trivial (Stp.fu_if trivial rfl)) (Stp.fu_if (Stp.fu_bind fun _=> Stp.fu_if trivial (Stp.fu_bind fun _=> Stp.fu_if trivial rfl)) (Stp.fu_if (Stp.fu_bind fun _=> Stp.fu_bind fun _=> Stp.fu_if trivial Qge) (Stp.fu_if (Stp.fu_bind fun _=> Stp.fu_bind fun _=> QcI rfl) (Stp.fu_if (Stp.fu_bind fun _=> Stp.fu_bind fun _=> Stp.fu_bind fun _=> QcI rfl) (Stp.fu_if (Stp.fu_bind fun _=> QcI rfl) (Stp.fu_if ?_ (Stp.fu_if (Stp.fu_bind fun _=> Stp.fu_if trivial rfl) ?_))))))))))))
 · unfold MS.inS;split <;> first|exact trivial|rfl
 · unfold MS.call
   split
   · exact trivial
   · exact Stp.fu_bind fun _=> Stp.fu_bind fun _=> Stp.fu_if trivial (Stp.fu_if trivial rfl)
theorem fu_fin {f:Fun}{e:Tail}:(s.fin f e).Fu s.fuel:=by
 unfold MS.fin
 refine Stp.fu_if fu_to (Stp.fu_if (Stp.fu_bind fun _=> Stp.fu_if fu_to fu_to) ?_)
 unfold MS.ret
 refine Stp.fu_bind fun vs=> Stp.fu_if trivial ?_
 split
 · rfl
 · split <;> exact trivial
theorem fu_one:(s.one m).Fu s.fuel:=by
 unfold MS.one
 split
 · exact trivial
 · split
   · exact trivial
   · split
     · exact fu_ins (s:=s.next)
     · exact fu_fin
theorem Qa8 {s':MS}(h:s.tick.one m= .go s'):s'.fuel=s.fuel+1:=by
 have:=fu_one (m:=m) (s:=s.tick)
 rw [h] at this
 exact this
end
theorem Qd0 {m:Module}{most k:Nat}{s:MS}(hk:s.fuel < most) (he:k=s.fuel):Run.steps m most (most+1 - k) (.on s)=Run.steps m most (most+1 - (k+1)) (.of m s (s.tick.one m)):=by
 rw [show most+1 - k=(most+1 - (k+1))+1 by omega,Run.steps]
 rw [show Run.step m most (.on s)= .of m s (s.tick.one m) by unfold Run.step;exact if_neg (by omega)]
theorem Qc2 {m:Module}{most k:Nat}{s:MS}(hk:s.fuel=most) (he:k=s.fuel):Run.steps m most (most+1 - k) (.on s)= .over s 7 []:=by
 rw [show most+1 - k=0+1 by omega,Run.steps]
 rw [show Run.step m most (.on s)= .over s 7 [] by unfold Run.step;exact if_pos hk]
 rfl
theorem Q5J {m:Module}{most:Nat}{s:MS}{e:Int}{b:List Int}:∀k,Run.steps m most k (.over s e b)= .over s e b
 | 0=> rfl
 | k+1=> by rw [Run.steps];exact Q5J k
theorem Q9K {m:Module}{most:Nat}{f:Flt}:∀k,Run.steps m most k (.stuck f)= .stuck f
 | 0=> rfl
 | k+1=> by rw [Run.steps];exact Q9K k
def RA (m:Module) (most:Nat) (a:Run):Run→Prop
 | .on s=> a=Run.steps m most (most+1 - s.fuel) (.on s)
 | r=> a=r
section
variable {m:Module}{inp:List Int}
theorem RA.first {pages:Int}{most:Nat}:RA m most (Run.all m inp most pages) (.on (MS.start inp pages)):=rfl
theorem RA.seven {a:Run}{most:Nat}{s:MS}(h:RA m most a (.on s)) (hk:s.fuel=most):RA m most a (.over s 7 []):=Eq.trans h (Qc2 hk rfl)
theorem RA.more {a:Run}{most:Nat}{s:MS}{X:Stp}(h:RA m most a (.on s)) (hk:s.fuel < most) (hX:s.tick.one m=X) (hf:∀s',X= .go s'→s'.fuel=s.fuel+1):RA m most a (.of m s X):=by
 have h1:=Eq.trans h (Qd0 hk rfl)
 rw [hX] at h1
 cases X with
 | go s'=> show a=_;rw [h1,hf s' rfl];rfl
 | halt e=> exact h1.trans (Q5J _)
 | done l=> exact h1.trans (Q5J _)
 | lost=> exact h1.trans (Q9K _)
theorem RA.nx {a:Run}{most:Nat}{s:MS}(hA:RA m most a (.on s)) (hk:s.fuel≤most):RA m most a (Run.step m most (.on s)):=by
 by_cases h7:s.fuel=most
 · rw [show Run.step m most (.on s)= .over s 7 [] from if_pos h7];exact RA.seven hA h7
 · rw [show Run.step m most (.on s)= .of m s (s.tick.one m) from if_neg h7]
   exact RA.more hA (by omega) rfl fun s' hs=> Qa8 hs
end
end Go.Lir
namespace Go.Proofs.YteflkifmgnpbhaaGreat
open Go.Lir
set_option maxHeartbeats 1000000
attribute [local irreducible] LC.wp Q0 Qk Qh retQ Qt LO.wp Q4 Calls
set_option linter.unusedSimpArgs false
set_option linter.unusedVariables false
variable {cx:Cx}{w:World}{L:List Res}{p N:Nat}{c:MC}{fr:List FrmV}{g:FrmV}{h:HpS}{out inp:List Int}{fu:Nat}{m:Module}
theorem QdF (hS:St cx w (blk p 55 c.cells::L)):Rets Tryz.prog Q63 [.pointer (some ⟨p,0,none⟩)] w fun u w'=> u= .bool c.dn∧St cx w' (blk p 55 c.cells::L):=by
 all_goals refine lgo tyD Tryz.func25 ?_
 all_goals (refine ZbE ?_;refine zf0 ?_;refine zl hS ?_;refine Zap ?_;exact ⟨_,rfl,rfl,hS.sp⟩)
theorem Q4L {l:List Int}(hb:l.length≤1000000){v:Value}(hl:intR.sl cx v l) (hS:St cx w L):Rets Tryz.prog Q2k [v] w fun u w'=>∃c',cx.Le c'∧intR.sl c' u l∧St c' w' L:=by
 obtain ⟨a,c,hv⟩:=Rep.SR.shape hl
 cases a with
 | none=>
   have hl0:=Rep.SR.nil_of hl hv
   subst hl0
   subst hv
   all_goals refine lgo tyD Tryz.func65 ?_
   all_goals (refine ZaQ ?_;refine Q3u (e:=2) (by kernel_rfl) rfl rfl ?_;refine zn ?_)
   all_goals
    first
    | (refine zct ?_
       all_goals (refine Zas ?_)
       all_goals (exact ⟨_,rfl,cx,St.refl hS,Rep.SR.nil _ _ _,hS⟩))
   all_goals (refine Zaa ?_; fail "no law for buildSlice"; refine zm ?_; refine za Q4e Q8U hS ?_; intro vp1 w1 css1 hls1 hv1 hS; have hS := hS.ns; refine Zap ?_; exact ⟨_, rfl, cx, St.refl hS, Rep.SR.nil _ _ _, hS⟩)
 | some a=>
   have hn:intR.ls cx [] []:=Rep.LR.nil _ _ _
   all_goals refine lgo tyD Tryz.func65 ?_
   all_goals (refine ZaQ ?_;refine Q3u (e:=2) (by kernel_rfl) hv rfl ?_;refine zn ?_)
   all_goals refine zcf ?_
   all_goals (refine zsk ?_;refine Zaa ?_;refine Q7T Q4e ?_;intro v1 w1 hf1 hs1 hz1;have hS:=hS.new (r:=sl 2 1 v1 []) hs1 hf1 (fun b hb=> Nat.le_of_eq hb.symm);refine zm ?_;(first|(refine za Q4e Q8U hS ?_;intro vp1 w1 css1 hls1 hv1 hS;have hS:=hS.ns)|(refine zak Q4e Q8U hS ?_;intro vp1 w1 css1 hls1 hv1 hS;have hS:=hS.ns));refine Zap ?_;obtain ⟨c3,hle3,hS,hl3⟩:=St.freezeL (r:=intR) (l:=l) (T:=2) (es:=1) (L:=L) hS.sp hls1 rfl (by omega);exact ⟨_,rfl,c3,hle3,hl3,hS⟩)
end Go.Proofs.YteflkifmgnpbhaaGreat
namespace Go.Proofs.YteflkifmgnpbhaaGreat
open Go.Lir
set_option maxHeartbeats 1000000
attribute [local irreducible] LC.wp Q0 Qk Qh retQ Qt LO.wp Q4 Calls
set_option linter.unusedSimpArgs false
set_option linter.unusedVariables false
theorem Q3D {x:Module}(hsm:x.Short){cx:Cx}{w:World}{L:List Res}{cs:List Value}(hx:modR.at cx cs x) (hS:St cx w L):Rets Tryz.prog code_Own [.agg ⟨cs⟩] w fun u w'=>∃c' ds,u= .agg ⟨ds⟩∧cx.Le c'∧modR.at c' ds x∧St c' w' L:=by
 obtain ⟨vf,rfl,hf⟩:=Q1e hx
 obtain ⟨l⟩:=x
 have hf:funcR.sl cx vf l:=hf
 have hsl:l.length≤100000:=hsm.1
 have hsm:∀f∈l,f.Short:=hsm.2
 have hle:=St.refl hS
 all_goals refine lgo tyD Tryz.func64 ?_
 all_goals (refine Zat ?_;intro p1 w1 hS;refine Qg hS ?_;intro p2 w1 hS;refine ZaD ?_;refine Qg hS ?_;intro p3 w1 hS;refine Zbu ?_;refine zf0 ?_;refine zl hS ?_;refine zL ?_;refine ZaB ?_)
 refine zo [2,3,13,14] (fun A ρ' w'=>∃(k0:Cx) (j:Nat) (u:Value) (css:List (List Value)),Has ρ' A∧Has ρ' [(15, .int .i64 j)]∧(cx.Le k0)∧(j≤l.length)∧(funcR.ls k0 css (l.take j))∧(oneC u=true)∧St k0 w' (sl 95 4 u css::blk p3 24 [u]::blk p2 24 [.slice none 0 0]::blk p1 24 [vf]::L)) (fun ρ' _=> (l.length - iv (ρ' 15)).toNat) ?_ ?_
 · exact ⟨cx,0, .slice none 0 0,[],zh,zh,St.refl hS,(by omega),Rep.LR.nil _ _ _,rfl,by have hS:=hS.nil (T:=95) (es:=4);exact hS⟩
 rintro ρ w1 ⟨k0,j,u,css,hA,hρ,hle2,hj,hls,hu,hS⟩;obtain ⟨ρ,rfl⟩:=env2 hA hρ;have hL0:=hle2;(try have hle:=hle.trans hle2);(try have hf:=hf.up hle2)
 all_goals (refine ZaI ?_)
 refine Qq rfl (fun hc=> ?_) (fun hc=> ?_)
 · skip
   all_goals (refine Zbf ?_;refine zi ?_;intro b1 o1 cs1 x1 hat1 hx1 he1;obtain ⟨vp1,vr1,vb1,rfl,hp1,hr1,hb1⟩:=QG he1;refine ZaP ?_;intro p5 w1 hS;refine zsn hS ?_;intro w1 hS;have hS:=hS.ns;refine zn ?_;have hsh:=hsm x1 (List.mem_of_getElem? hx1);have hlb:=hsh.2.2.1)
   have hJ6:=St.refl hS
   refine zML hS [2,3,5,13,14,15] (fun A LL ρ' w'=>∃(k6:Cx) (a1 a2:Option Addr) (n1 n2 p6:Nat),Has ρ' A∧Has ρ' [(6, .pointer (some ⟨p6,0,none⟩))]∧(k0.Le k6)∧(tyR.sl k6 (.slice a1 x1.params.length n1) x1.params)∧(tyR.sl k6 (.slice a2 x1.results.length n2) x1.results)∧St k6 w' (blk p6 95 [.int .i64 x1.regs, .slice a1 x1.params.length n1, .slice a2 x1.results.length n2, .slice none 0 0]::LL)) ?_ ?_
   · skip
     refine Q1N 4 9 (by kernel_rfl) ?_ ?_
     · skip
       refine Q1N 7 9 (by kernel_rfl) ?_ ?_
       · skip
         all_goals (refine zC [(0,none),(1,none),(2,none),(3,none),(5,none),(6,none),(4,some (some [1,6])),(7,some (some [1])),(8,none),(9,some (some [1])),(10,some none)] ?_;have hS:=hS.drew;refine s_cq ?_;refine zf0 ?_;refine Zab ?_;refine zl hS ?_;refine Zab ?_;refine zf0 ?_;refine Zab ?_;refine zl hS ?_;refine Zab ?_;refine zf0 ?_;refine Zab ?_;refine zl hS ?_;refine Zaj ?_)
         all_goals (refine zR1 (c:=Q4r hsh.1.1 hsh.1.2 hp1 hS) (h:=?_);rintro v1 w1 ⟨c1,hle2,hk1,hS⟩;obtain ⟨a1,n1,rfl⟩:=Rep.SR.shape hk1;(try have hle:=hle.trans hle2);(try have hL0:=hL0.trans hle2);(try have hJ6:=hJ6.trans hle2);(try have hf:=hf.up hle2);(try have hp1:=hp1.up hle2);(try have hr1:=hr1.up hle2);(try have hb1:=hb1.up hle2);(try have he1:=he1.up hle2);(try have hls:=hls.up hle2))
         all_goals (refine Zay ?_)
         all_goals (refine zR1 (c:=Q4r hsh.2.1.1 hsh.2.1.2 hr1 hS) (h:=?_);rintro v1 w1 ⟨c2,hle2,hk2,hS⟩;obtain ⟨a2,n2,rfl⟩:=Rep.SR.shape hk2;(try have hle:=hle.trans hle2);(try have hL0:=hL0.trans hle2);(try have hJ6:=hJ6.trans hle2);(try have hf:=hf.up hle2);(try have hk1:=hk1.up hle2);(try have hp1:=hp1.up hle2);(try have hr1:=hr1.up hle2);(try have hb1:=hb1.up hle2);(try have he1:=he1.up hle2);(try have hls:=hls.up hle2))
         all_goals (refine ZaH ?_;refine zb3 [_,_,_,_] ?_;refine ZaY ?_;intro p6 w1 hS;refine ZaC ?_;refine zsn hS ?_;intro w1 hS;have hS:=hS.ns;refine Zao ?_;exact ⟨_,a1,a2,n1,n2,p6,zh,zh,hJ6,by assumption,by assumption,hS.sp⟩)
       · skip
         all_goals (refine zC [(0,none),(1,none),(2,none),(3,none),(5,none),(6,none),(4,some (some [1,6])),(9,some (some [1,6])),(7,some (some [1])),(8,none),(10,some none)] ?_;have hS:=hS.drew;refine s_cq ?_;refine zf0 ?_;refine Zab ?_;refine zl hS ?_;refine Zab ?_;refine zf0 ?_;refine Zab ?_;refine zl hS ?_;refine Zab ?_;refine zf0 ?_;refine Zab ?_;refine zl hS ?_;refine Zaj ?_)
         all_goals (refine zR1 (c:=Q4r hsh.1.1 hsh.1.2 hp1 hS) (h:=?_);rintro v1 w1 ⟨c1,hle2,hk1,hS⟩;obtain ⟨a1,n1,rfl⟩:=Rep.SR.shape hk1;(try have hle:=hle.trans hle2);(try have hL0:=hL0.trans hle2);(try have hJ6:=hJ6.trans hle2);(try have hf:=hf.up hle2);(try have hp1:=hp1.up hle2);(try have hr1:=hr1.up hle2);(try have hb1:=hb1.up hle2);(try have he1:=he1.up hle2);(try have hls:=hls.up hle2))
         all_goals (refine Zay ?_;refine Qg hS ?_;intro p6 w1 hS;refine Zay ?_)
         all_goals (refine zR1 (c:=Q4r hsh.2.1.1 hsh.2.1.2 hr1 hS) (h:=?_);rintro v1 w1 ⟨c2,hle2,hk2,hS⟩;obtain ⟨a2,n2,rfl⟩:=Rep.SR.shape hk2;(try have hle:=hle.trans hle2);(try have hL0:=hL0.trans hle2);(try have hJ6:=hJ6.trans hle2);(try have hf:=hf.up hle2);(try have hk1:=hk1.up hle2);(try have hp1:=hp1.up hle2);(try have hr1:=hr1.up hle2);(try have hb1:=hb1.up hle2);(try have he1:=he1.up hle2);(try have hls:=hls.up hle2))
         all_goals (refine ZaH ?_;refine zb3 [_,_,_,_] ?_;refine Zau ?_;refine zsn hS ?_;intro w1 hS;have hS:=hS.ns;refine Zao ?_;exact ⟨_,a1,a2,n1,n2,p6,zh,zh,hJ6,by assumption,by assumption,hS.sp⟩)
     · skip
       all_goals (refine zC [(0,none),(1,none),(2,none),(3,none),(5,none),(6,none),(9,some (some [1,3,6])),(4,some (some [1,6])),(7,some (some [1])),(8,none),(10,some none)] ?_;have hS:=hS.drew;refine s_cq ?_;refine zf0 ?_;refine Zab ?_;refine zl hS ?_;refine Zab ?_;refine zf0 ?_;refine Zab ?_;refine zl hS ?_;refine Zab ?_;refine zf0 ?_;refine Zab ?_;refine zl hS ?_;refine ZaY ?_;intro p6 w1 hS;refine Zay ?_)
       all_goals (refine zR1 (c:=Q4r hsh.1.1 hsh.1.2 hp1 hS) (h:=?_);rintro v1 w1 ⟨c1,hle2,hk1,hS⟩;obtain ⟨a1,n1,rfl⟩:=Rep.SR.shape hk1;(try have hle:=hle.trans hle2);(try have hL0:=hL0.trans hle2);(try have hJ6:=hJ6.trans hle2);(try have hf:=hf.up hle2);(try have hp1:=hp1.up hle2);(try have hr1:=hr1.up hle2);(try have hb1:=hb1.up hle2);(try have he1:=he1.up hle2);(try have hls:=hls.up hle2))
       all_goals (refine Zay ?_)
       all_goals (refine zR1 (c:=Q4r hsh.2.1.1 hsh.2.1.2 hr1 hS) (h:=?_);rintro v1 w1 ⟨c2,hle2,hk2,hS⟩;obtain ⟨a2,n2,rfl⟩:=Rep.SR.shape hk2;(try have hle:=hle.trans hle2);(try have hL0:=hL0.trans hle2);(try have hJ6:=hJ6.trans hle2);(try have hf:=hf.up hle2);(try have hk1:=hk1.up hle2);(try have hp1:=hp1.up hle2);(try have hr1:=hr1.up hle2);(try have hb1:=hb1.up hle2);(try have he1:=he1.up hle2);(try have hls:=hls.up hle2))
       all_goals (refine ZaH ?_;refine zb3 [_,_,_,_] ?_;refine Zau ?_;refine zsn hS ?_;intro w1 hS;have hS:=hS.ns;refine Zao ?_;exact ⟨_,a1,a2,n1,n2,p6,zh,zh,hJ6,by assumption,by assumption,hS.sp⟩)
   rintro ρ w1 ⟨k6,a1,a2,n1,n2,p6,hA,hρ,hle2,hk1,hk2,hS⟩;obtain ⟨ρ,rfl⟩:=env2 hA hρ;(try have hle:=hle.trans hle2);(try have hL0:=hL0.trans hle2);(try have hJ6:=hJ6.trans hle2);(try have hf:=hf.up hle2);(try have hp1:=hp1.up hle2);(try have hr1:=hr1.up hle2);(try have hb1:=hb1.up hle2);(try have he1:=he1.up hle2);(try have hls:=hls.up hle2)
   all_goals (refine Zbs ?_;refine zf0 ?_;refine zl hS ?_;refine zL ?_;refine ZaB ?_)
   refine zo [2,3,6,13,14,15,29,30] (fun A ρ' w'=>∃(k1:Cx) (i:Nat) (ub:Value) (cssB:List (List Value)),Has ρ' A∧Has ρ' [(31, .int .i64 i)]∧(k6.Le k1)∧(i≤x1.blocks.length)∧(blockR.ls k1 cssB (x1.blocks.take i))∧(oneC ub=true)∧St k1 w' (sl 92 12 ub cssB::blk p6 95 [.int .i64 x1.regs, .slice a1 x1.params.length n1, .slice a2 x1.results.length n2,ub]::blk p5 95 [.int .i64 x1.regs,vp1,vr1,vb1]::sl 95 4 u css::blk p3 24 [u]::blk p2 24 [.slice none 0 0]::blk p1 24 [vf]::L)) (fun ρ' _=> (x1.blocks.length - iv (ρ' 31)).toNat) ?_ ?_
   · exact ⟨k6,0, .slice none 0 0,[],zh,zh,St.refl hS,(by omega),Rep.LR.nil _ _ _,rfl,by have hS:=hS.nil (T:=92) (es:=12);exact hS.sp⟩
   rintro ρ w1 ⟨k1,i,ub,cssB,hA,hρ,hle2,hi,hlsB,hub,hS⟩;obtain ⟨ρ,rfl⟩:=env2 hA hρ;have hL1:=hle2;(try have hle:=hle.trans hle2);(try have hL0:=hL0.trans hle2);(try have hJ6:=hJ6.trans hle2);(try have hf:=hf.up hle2);(try have hk1:=hk1.up hle2);(try have hk2:=hk2.up hle2);(try have hp1:=hp1.up hle2);(try have hr1:=hr1.up hle2);(try have hb1:=hb1.up hle2);(try have he1:=he1.up hle2);(try have hls:=hls.up hle2)
   all_goals (refine ZaI ?_)
   refine Qq rfl (fun hc=> ?_) (fun hc=> ?_)
   · skip
     all_goals (refine Zbf ?_;refine zi ?_;intro b2 o2 cs2 x2 hat2 hx2 he2;obtain ⟨vp2,vc2,ve21,ve22,ve23,ve24,ve25,rfl,hp2,hc2,he21,he22,he23,he24,he25⟩:=Q1S he2;refine ZaP ?_;intro p8 w1 hS;refine zsn hS ?_;intro w1 hS;have hS:=hS.ns;refine zn ?_;have hsb:=hsh.2.2.2 x2 (List.mem_of_getElem? hx2);have hlc:=hsb.2.1)
     have hJ10:=St.refl hS
     refine zML hS [2,3,6,8,13,14,15,29,30,31] (fun A LL ρ' w'=>∃(k10:Cx) (a3:Option Addr) (n3 p9:Nat),Has ρ' A∧Has ρ' [(9, .pointer (some ⟨p9,0,none⟩))]∧(k1.Le k10)∧(tyR.sl k10 (.slice a3 x2.params.length n3) x2.params)∧St k10 w' (blk p9 92 [.int .i64 x2.regs, .slice a3 x2.params.length n3, .slice none 0 0, .int .i64 x2.fin.op, .int .i64 x2.fin.a, .int .i64 x2.fin.yes.block,ve21,ve22, .int .i64 x2.fin.no.block,ve23,ve24,ve25]::LL)) ?_ ?_
     · skip
       all_goals (obtain ⟨q1,m1,rfl⟩:=Rep.SR.shape he21;obtain ⟨q2,m2,rfl⟩:=Rep.SR.shape he22;obtain ⟨q3,m3,rfl⟩:=Rep.SR.shape he23;obtain ⟨q4,m4,rfl⟩:=Rep.SR.shape he24;obtain ⟨q5,m5,rfl⟩:=Rep.SR.shape he25)
       refine Q1N 4 8 (by kernel_rfl) ?_ ?_
       · skip
         all_goals (refine zC [(0,none),(1,none),(2,none),(3,none),(5,none),(6,none),(4,some (some [1,6])),(7,none),(8,some (some [1,6])),(9,some none)] ?_;have hS:=hS.drew;refine s_cq ?_;refine zf0 ?_;refine Zab ?_;refine zl hS ?_;refine Zab ?_;refine zf0 ?_;refine Zab ?_;refine zl hS ?_;refine Zab ?_;refine zf0 ?_;refine Zab ?_;refine zv hS ?_;refine Zaj ?_)
         all_goals (refine zR1 (c:=Q4r hsb.1.1 hsb.1.2 hp2 hS) (h:=?_);rintro v1 w1 ⟨c3,hle2,hk3,hS⟩;obtain ⟨a3,n3,rfl⟩:=Rep.SR.shape hk3;(try have hle:=hle.trans hle2);(try have hL0:=hL0.trans hle2);(try have hL1:=hL1.trans hle2);(try have hJ6:=hJ6.trans hle2);(try have hJ10:=hJ10.trans hle2);(try have hf:=hf.up hle2);(try have hk1:=hk1.up hle2);(try have hk2:=hk2.up hle2);(try have hp1:=hp1.up hle2);(try have hr1:=hr1.up hle2);(try have hb1:=hb1.up hle2);(try have hp2:=hp2.up hle2);(try have hc2:=hc2.up hle2);(try have he21:=he21.up hle2);(try have he22:=he22.up hle2);(try have he23:=he23.up hle2);(try have he24:=he24.up hle2);(try have he25:=he25.up hle2);(try have he1:=he1.up hle2);(try have he2:=he2.up hle2);(try have hls:=hls.up hle2);(try have hlsB:=hlsB.up hle2))
         all_goals (refine ZaH ?_;refine zb3 [_,_,_,_,_,_,_,_,_,_,_,_] ?_;refine ZaY ?_;intro p9 w1 hS;refine ZaC ?_;refine zsn hS ?_;intro w1 hS;have hS:=hS.ns;refine Zao ?_;exact ⟨_,a3,n3,p9,zh,zh,hJ10,by assumption,hS.sp⟩)
       · skip
         all_goals (refine zC [(0,none),(1,none),(2,none),(3,none),(5,none),(6,none),(8,some (some [1,3,6])),(4,some (some [1,6])),(7,none),(9,some none)] ?_;have hS:=hS.drew;refine s_cq ?_;refine zf0 ?_;refine Zab ?_;refine zl hS ?_;refine Zab ?_;refine zf0 ?_;refine Zab ?_;refine zl hS ?_;refine Zab ?_;refine zf0 ?_;refine Zab ?_;refine zv hS ?_;refine ZaY ?_;intro p9 w1 hS;refine Zay ?_)
         all_goals (refine zR1 (c:=Q4r hsb.1.1 hsb.1.2 hp2 hS) (h:=?_);rintro v1 w1 ⟨c3,hle2,hk3,hS⟩;obtain ⟨a3,n3,rfl⟩:=Rep.SR.shape hk3;(try have hle:=hle.trans hle2);(try have hL0:=hL0.trans hle2);(try have hL1:=hL1.trans hle2);(try have hJ6:=hJ6.trans hle2);(try have hJ10:=hJ10.trans hle2);(try have hf:=hf.up hle2);(try have hk1:=hk1.up hle2);(try have hk2:=hk2.up hle2);(try have hp1:=hp1.up hle2);(try have hr1:=hr1.up hle2);(try have hb1:=hb1.up hle2);(try have hp2:=hp2.up hle2);(try have hc2:=hc2.up hle2);(try have he21:=he21.up hle2);(try have he22:=he22.up hle2);(try have he23:=he23.up hle2);(try have he24:=he24.up hle2);(try have he25:=he25.up hle2);(try have he1:=he1.up hle2);(try have he2:=he2.up hle2);(try have hls:=hls.up hle2);(try have hlsB:=hlsB.up hle2))
         all_goals (refine ZaH ?_;refine zb3 [_,_,_,_,_,_,_,_,_,_,_,_] ?_;refine Zau ?_;refine zsn hS ?_;intro w1 hS;have hS:=hS.ns;refine Zao ?_;exact ⟨_,a3,n3,p9,zh,zh,hJ10,by assumption,hS.sp⟩)
     rintro ρ w1 ⟨k10,a3,n3,p9,hA,hρ,hle2,hk3,hS⟩;obtain ⟨ρ,rfl⟩:=env2 hA hρ;(try have hle:=hle.trans hle2);(try have hL0:=hL0.trans hle2);(try have hL1:=hL1.trans hle2);(try have hJ6:=hJ6.trans hle2);(try have hJ10:=hJ10.trans hle2);(try have hf:=hf.up hle2);(try have hk1:=hk1.up hle2);(try have hk2:=hk2.up hle2);(try have hp1:=hp1.up hle2);(try have hr1:=hr1.up hle2);(try have hb1:=hb1.up hle2);(try have hp2:=hp2.up hle2);(try have hc2:=hc2.up hle2);(try have he21:=he21.up hle2);(try have he22:=he22.up hle2);(try have he23:=he23.up hle2);(try have he24:=he24.up hle2);(try have he25:=he25.up hle2);(try have he1:=he1.up hle2);(try have he2:=he2.up hle2);(try have hls:=hls.up hle2);(try have hlsB:=hlsB.up hle2)
     all_goals (refine QB ?_;refine zC [(0,none),(1,none),(2,none),(4,none),(5,none),(6,none),(8,none),(9,none),(10,none),(3,some (some [6,10])),(12,none),(13,none),(7,some (some [10])),(11,some (some [])),(14,some none),(15,none),(16,none),(17,some none),(18,none),(19,none),(20,some none)] ?_;have hS:=hS.drew;refine s_cq ?_;refine zf0 ?_;refine Zbb ?_;refine zv hS ?_;refine Zab ?_;refine zf0 ?_;refine Zbb ?_;refine zv hS ?_;refine Zab ?_;refine zf0 ?_;refine Zbb ?_;refine zl hS ?_;refine Zaj ?_)
     all_goals (refine zR1 (c:=Qdm (x:=x2.fin.yes) (by have:=hsb.2.2.2.1.1;omega) (by have:=hsb.2.2.2.1.2;omega) ⟨_,_,rfl,he21,he22⟩ hS) (h:=?_);rintro v1 w1 ⟨c7,ds,rfl,hle2,hk7,hS⟩;obtain ⟨y1,y2,rfl,hy1,hy2⟩:=Q6q hk7;obtain ⟨a7,n7,rfl⟩:=Rep.SR.shape hy1;obtain ⟨a8,n8,rfl⟩:=Rep.SR.shape hy2;(try have hle:=hle.trans hle2);(try have hL0:=hL0.trans hle2);(try have hL1:=hL1.trans hle2);(try have hJ6:=hJ6.trans hle2);(try have hJ10:=hJ10.trans hle2);(try have hf:=hf.up hle2);(try have hk1:=hk1.up hle2);(try have hk2:=hk2.up hle2);(try have hk3:=hk3.up hle2);(try have hp1:=hp1.up hle2);(try have hr1:=hr1.up hle2);(try have hb1:=hb1.up hle2);(try have hp2:=hp2.up hle2);(try have hc2:=hc2.up hle2);(try have he21:=he21.up hle2);(try have he22:=he22.up hle2);(try have he23:=he23.up hle2);(try have he24:=he24.up hle2);(try have he25:=he25.up hle2);(try have he1:=he1.up hle2);(try have he2:=he2.up hle2);(try have hls:=hls.up hle2);(try have hlsB:=hlsB.up hle2))
     all_goals (refine ZaH ?_;refine zf0 ?_;refine Zab ?_;refine Yad ?_;refine Zaj ?_)
     all_goals (refine zR1 (c:=Qdm (x:=x2.fin.no) (by have:=hsb.2.2.2.2.1.1;omega) (by have:=hsb.2.2.2.2.1.2;omega) ⟨_,_,rfl,he23,he24⟩ hS) (h:=?_);rintro v1 w1 ⟨c8,ds,rfl,hle2,hk8,hS⟩;obtain ⟨z1,z2,rfl,hz1,hz2⟩:=Q6q hk8;obtain ⟨a9,n9,rfl⟩:=Rep.SR.shape hz1;obtain ⟨a10,n10,rfl⟩:=Rep.SR.shape hz2;(try have hle:=hle.trans hle2);(try have hL0:=hL0.trans hle2);(try have hL1:=hL1.trans hle2);(try have hJ6:=hJ6.trans hle2);(try have hJ10:=hJ10.trans hle2);(try have hf:=hf.up hle2);(try have hk1:=hk1.up hle2);(try have hk2:=hk2.up hle2);(try have hk3:=hk3.up hle2);(try have hk7:=hk7.up hle2);(try have hp1:=hp1.up hle2);(try have hr1:=hr1.up hle2);(try have hb1:=hb1.up hle2);(try have hp2:=hp2.up hle2);(try have hc2:=hc2.up hle2);(try have he21:=he21.up hle2);(try have he22:=he22.up hle2);(try have he23:=he23.up hle2);(try have he24:=he24.up hle2);(try have he25:=he25.up hle2);(try have he1:=he1.up hle2);(try have he2:=he2.up hle2);(try have hls:=hls.up hle2);(try have hy1:=hy1.up hle2);(try have hy2:=hy2.up hle2);(try have hlsB:=hlsB.up hle2))
     all_goals (refine Zay ?_)
     all_goals (refine zR1 (c:=Q5Q (by have:=hsb.2.2.2.2.2;omega) he25 hS) (h:=?_);rintro v1 w1 ⟨c9,hle2,hw1,hS⟩;obtain ⟨a11,n11,rfl⟩:=Rep.SR.shape hw1;(try have hle:=hle.trans hle2);(try have hL0:=hL0.trans hle2);(try have hL1:=hL1.trans hle2);(try have hJ6:=hJ6.trans hle2);(try have hJ10:=hJ10.trans hle2);(try have hf:=hf.up hle2);(try have hk1:=hk1.up hle2);(try have hk2:=hk2.up hle2);(try have hk3:=hk3.up hle2);(try have hk7:=hk7.up hle2);(try have hk8:=hk8.up hle2);(try have hp1:=hp1.up hle2);(try have hr1:=hr1.up hle2);(try have hb1:=hb1.up hle2);(try have hp2:=hp2.up hle2);(try have hc2:=hc2.up hle2);(try have he21:=he21.up hle2);(try have he22:=he22.up hle2);(try have he23:=he23.up hle2);(try have he24:=he24.up hle2);(try have he25:=he25.up hle2);(try have he1:=he1.up hle2);(try have he2:=he2.up hle2);(try have hls:=hls.up hle2);(try have hy1:=hy1.up hle2);(try have hy2:=hy2.up hle2);(try have hz1:=hz1.up hle2);(try have hz2:=hz2.up hle2);(try have hlsB:=hlsB.up hle2))
     all_goals (refine ZaC ?_;(first|(refine zsn hS ?_;intro w1 hS;have hS:=hS.ns)|(refine zsm hS ?_;intro w1 hS;have hS:=hS.ns));refine Zab ?_;refine zf0 ?_;refine Zab ?_;refine Yad ?_;refine Zau ?_;(first|(refine zsn hS ?_;intro w1 hS;have hS:=hS.ns)|(refine zsm hS ?_;intro w1 hS;have hS:=hS.ns));refine Zab ?_;refine zf0 ?_;refine Zab ?_;refine Yad ?_;refine Zau ?_;refine zst hS ?_;intro w1 hS;have hS:=hS.ns;refine Zao ?_;refine Zbs ?_;refine zf0 ?_;refine zl hS ?_;refine zL ?_;refine ZaB ?_)
     refine zo [2,3,6,9,13,14,15,29,30,31,62,63] (fun A ρ' w'=>∃(k2:Cx) (k:Nat) (uc:Value) (cssC:List (List Value)),Has ρ' A∧Has ρ' [(64, .int .i64 k)]∧(c9.Le k2)∧(k≤x2.code.length)∧(insR.ls k2 cssC (x2.code.take k))∧(oneC uc=true)∧St k2 w' (sl 84 8 uc cssC::blk p9 92 [.int .i64 x2.regs, .slice a3 x2.params.length n3,uc, .int .i64 x2.fin.op, .int .i64 x2.fin.a, .int .i64 x2.fin.yes.block, .slice a7 x2.fin.yes.regs.length n7, .slice a8 x2.fin.yes.args.length n8, .int .i64 x2.fin.no.block, .slice a9 x2.fin.no.regs.length n9, .slice a10 x2.fin.no.args.length n10, .slice a11 x2.fin.args.length n11]::blk p8 92 [.int .i64 x2.regs,vp2,vc2, .int .i64 x2.fin.op, .int .i64 x2.fin.a, .int .i64 x2.fin.yes.block,ve21,ve22, .int .i64 x2.fin.no.block,ve23,ve24,ve25]::sl 92 12 ub cssB::blk p6 95 [.int .i64 x1.regs, .slice a1 x1.params.length n1, .slice a2 x1.results.length n2,ub]::blk p5 95 [.int .i64 x1.regs,vp1,vr1,vb1]::sl 95 4 u css::blk p3 24 [u]::blk p2 24 [.slice none 0 0]::blk p1 24 [vf]::L)) (fun ρ' _=> (x2.code.length - iv (ρ' 64)).toNat) ?_ ?_
     · exact ⟨c9,0, .slice none 0 0,[],zh,zh,St.refl hS,(by omega),Rep.LR.nil _ _ _,rfl,by have hS:=hS.nil (T:=84) (es:=8);exact hS.sp⟩
     rintro ρ w1 ⟨k2,k,uc,cssC,hA,hρ,hle2,hkk,hlsC,huc,hS⟩;obtain ⟨ρ,rfl⟩:=env2 hA hρ;have hL2:=hle2;(try have hle:=hle.trans hle2);(try have hL0:=hL0.trans hle2);(try have hL1:=hL1.trans hle2);(try have hJ6:=hJ6.trans hle2);(try have hJ10:=hJ10.trans hle2);(try have hf:=hf.up hle2);(try have hk1:=hk1.up hle2);(try have hk2:=hk2.up hle2);(try have hk3:=hk3.up hle2);(try have hk7:=hk7.up hle2);(try have hk8:=hk8.up hle2);(try have hp1:=hp1.up hle2);(try have hr1:=hr1.up hle2);(try have hb1:=hb1.up hle2);(try have hp2:=hp2.up hle2);(try have hc2:=hc2.up hle2);(try have he21:=he21.up hle2);(try have he22:=he22.up hle2);(try have he23:=he23.up hle2);(try have he24:=he24.up hle2);(try have he25:=he25.up hle2);(try have he1:=he1.up hle2);(try have he2:=he2.up hle2);(try have hls:=hls.up hle2);(try have hy1:=hy1.up hle2);(try have hy2:=hy2.up hle2);(try have hz1:=hz1.up hle2);(try have hz2:=hz2.up hle2);(try have hw1:=hw1.up hle2);(try have hlsB:=hlsB.up hle2)
     all_goals (refine ZaI ?_)
     refine Qq rfl (fun hc=> ?_) (fun hc=> ?_)
     · skip
       all_goals (refine Zbf ?_;refine zi ?_;intro b3 o3 cs3 x3 hat3 hx3 he3;obtain ⟨vr3,va3,rfl,hr3,ha3⟩:=QZ he3;refine ZaP ?_;intro p11 w1 hS;refine zsn hS ?_;intro w1 hS;have hS:=hS.ns;refine Zal ?_;have hsi:=hsb.2.2.1 x3 (List.mem_of_getElem? hx3);refine zC [(0,none),(1,none),(3,none),(4,none),(2,some (some [4])),(6,none),(5,some (some [])),(7,some none),(8,none),(9,some none)] ?_;have hS:=hS.drew;refine s_cq ?_;refine zf0 ?_;refine Zab ?_;refine zl hS ?_;refine Zab ?_;refine zf0 ?_;refine Zab ?_;refine zl hS ?_;refine Zaj ?_)
       all_goals (refine zR1 (c:=Q5Q (by have:=hsi.1;omega) hr3 hS) (h:=?_);rintro v1 w1 ⟨c4,hle2,hk4,hS⟩;obtain ⟨a4,n4,rfl⟩:=Rep.SR.shape hk4;(try have hle:=hle.trans hle2);(try have hL0:=hL0.trans hle2);(try have hL1:=hL1.trans hle2);(try have hL2:=hL2.trans hle2);(try have hJ6:=hJ6.trans hle2);(try have hJ10:=hJ10.trans hle2);(try have hf:=hf.up hle2);(try have hk1:=hk1.up hle2);(try have hk2:=hk2.up hle2);(try have hk3:=hk3.up hle2);(try have hk7:=hk7.up hle2);(try have hk8:=hk8.up hle2);(try have hp1:=hp1.up hle2);(try have hr1:=hr1.up hle2);(try have hb1:=hb1.up hle2);(try have hp2:=hp2.up hle2);(try have hc2:=hc2.up hle2);(try have he21:=he21.up hle2);(try have he22:=he22.up hle2);(try have he23:=he23.up hle2);(try have he24:=he24.up hle2);(try have he25:=he25.up hle2);(try have hr3:=hr3.up hle2);(try have ha3:=ha3.up hle2);(try have he1:=he1.up hle2);(try have he2:=he2.up hle2);(try have he3:=he3.up hle2);(try have hls:=hls.up hle2);(try have hy1:=hy1.up hle2);(try have hy2:=hy2.up hle2);(try have hz1:=hz1.up hle2);(try have hz2:=hz2.up hle2);(try have hw1:=hw1.up hle2);(try have hlsB:=hlsB.up hle2);(try have hlsC:=hlsC.up hle2))
       all_goals (refine ZaH ?_;refine zf0 ?_;refine Zaj ?_)
       all_goals (refine zR1 (c:=Q5Q (by have:=hsi.2;omega) ha3 hS) (h:=?_);rintro v1 w1 ⟨c5,hle2,hk5,hS⟩;obtain ⟨a5,n5,rfl⟩:=Rep.SR.shape hk5;(try have hle:=hle.trans hle2);(try have hL0:=hL0.trans hle2);(try have hL1:=hL1.trans hle2);(try have hL2:=hL2.trans hle2);(try have hJ6:=hJ6.trans hle2);(try have hJ10:=hJ10.trans hle2);(try have hf:=hf.up hle2);(try have hk1:=hk1.up hle2);(try have hk2:=hk2.up hle2);(try have hk3:=hk3.up hle2);(try have hk4:=hk4.up hle2);(try have hk7:=hk7.up hle2);(try have hk8:=hk8.up hle2);(try have hp1:=hp1.up hle2);(try have hr1:=hr1.up hle2);(try have hb1:=hb1.up hle2);(try have hp2:=hp2.up hle2);(try have hc2:=hc2.up hle2);(try have he21:=he21.up hle2);(try have he22:=he22.up hle2);(try have he23:=he23.up hle2);(try have he24:=he24.up hle2);(try have he25:=he25.up hle2);(try have hr3:=hr3.up hle2);(try have ha3:=ha3.up hle2);(try have he1:=he1.up hle2);(try have he2:=he2.up hle2);(try have he3:=he3.up hle2);(try have hls:=hls.up hle2);(try have hy1:=hy1.up hle2);(try have hy2:=hy2.up hle2);(try have hz1:=hz1.up hle2);(try have hz2:=hz2.up hle2);(try have hw1:=hw1.up hle2);(try have hlsB:=hlsB.up hle2);(try have hlsC:=hlsC.up hle2))
       all_goals (refine ZaC ?_;refine zst hS ?_;intro w1 hS;have hS:=hS.ns;refine Zab ?_;refine zf0 ?_;refine Zau ?_;refine zst hS ?_;intro w1 hS;have hS:=hS.ns;refine Zao ?_;have hk9:insR.at c5 _ x3:=⟨_,_,rfl,hk4,hk5⟩;refine Q10 ?_;refine zf0 ?_;refine zl hS ?_;refine zv hS ?_;refine zB1 hS [_,_,_,_,_,_,_,_] ?_;intro b1 w1 hS;refine za el_T85 u_T85 hS ?_;intro vp1 w1 css1 hls1 hv1 hS;have hS:=hS.ns;refine zf0 ?_;refine zst hS ?_;intro w1 hS;have hS:=hS.ns;refine Zbi ?_;refine zad ?_;refine Zad ?_;exact ⟨⟨_,k+1,_,_,zh,zh,hL2,(by omega),by rw [Q2H hx3];assumption,by assumption,hS.sp⟩,Qv (by omega)⟩)
     · skip
       all_goals (refine zex ?_)
       all_goals (obtain ⟨c6,hle2,hS,hk6⟩:=St.freezeL (r:=insR) (l:=x2.code) hS (by rw [List.take_of_length_le (by omega)] at hlsC;exact hlsC) rfl (by have:=hsb.2.1;omega);obtain ⟨a6,n6,rfl⟩:=Rep.SR.shape hk6;(try have hle:=hle.trans hle2);(try have hL0:=hL0.trans hle2);(try have hL1:=hL1.trans hle2);(try have hL2:=hL2.trans hle2);(try have hJ6:=hJ6.trans hle2);(try have hJ10:=hJ10.trans hle2);(try have hf:=hf.up hle2);(try have hk1:=hk1.up hle2);(try have hk2:=hk2.up hle2);(try have hk3:=hk3.up hle2);(try have hk7:=hk7.up hle2);(try have hk8:=hk8.up hle2);(try have hp1:=hp1.up hle2);(try have hr1:=hr1.up hle2);(try have hb1:=hb1.up hle2);(try have hp2:=hp2.up hle2);(try have hc2:=hc2.up hle2);(try have he21:=he21.up hle2);(try have he22:=he22.up hle2);(try have he23:=he23.up hle2);(try have he24:=he24.up hle2);(try have he25:=he25.up hle2);(try have he1:=he1.up hle2);(try have he2:=he2.up hle2);(try have hls:=hls.up hle2);(try have hy1:=hy1.up hle2);(try have hy2:=hy2.up hle2);(try have hz1:=hz1.up hle2);(try have hz2:=hz2.up hle2);(try have hw1:=hw1.up hle2);(try have hlsB:=hlsB.up hle2);(try have hlsC:=hlsC.up hle2))
       all_goals (have hk9:blockR.at c6 _ x2:=QbL (x:=x2) hk3 hk6 hy1 hy2 hz1 hz2 hw1;refine Q10 ?_;refine zf0 ?_;refine zl hS ?_;refine zv hS ?_;refine zB1 hS [_,_,_,_,_,_,_,_,_,_,_,_] ?_;intro b1 w1 hS;refine za el_T93 u_T93 hS ?_;intro vp2 w2 css2 hls2 hv2 hS;have hS:=hS.ns;refine zf0 ?_;refine zst hS ?_;intro w1 hS;have hS:=hS.ns;refine Zbi ?_;refine zad ?_;refine Zad ?_;exact ⟨⟨_,i+1,_,_,zh,zh,hL1,(by omega),by rw [Q2H hx2];assumption,by assumption,hS.sp⟩,Qv (by omega)⟩)
   · skip
     all_goals (refine zex ?_)
     all_goals (obtain ⟨c10,hle2,hS,hk6⟩:=St.freezeL (r:=blockR) (l:=x1.blocks) hS (by rw [List.take_of_length_le (by omega)] at hlsB;exact hlsB) rfl (by have:=hsh.2.2.1;omega);obtain ⟨a6,n6,rfl⟩:=Rep.SR.shape hk6;(try have hle:=hle.trans hle2);(try have hL0:=hL0.trans hle2);(try have hL1:=hL1.trans hle2);(try have hJ6:=hJ6.trans hle2);(try have hf:=hf.up hle2);(try have hk1:=hk1.up hle2);(try have hk2:=hk2.up hle2);(try have hp1:=hp1.up hle2);(try have hr1:=hr1.up hle2);(try have hb1:=hb1.up hle2);(try have he1:=he1.up hle2);(try have hls:=hls.up hle2);(try have hlsB:=hlsB.up hle2))
     all_goals (have hk9:funcR.at c10 _ x1:=⟨_,_,_,rfl,hk1,hk2,hk6⟩;refine Q10 ?_;refine zf0 ?_;refine zl hS ?_;refine zv hS ?_;refine zB1 hS [_,_,_,_] ?_;intro b1 w1 hS;refine za el_T22 u_T22 hS ?_;intro vp3 w3 css3 hls3 hv3 hS;have hS:=hS.ns;refine zf0 ?_;refine zst hS ?_;intro w1 hS;have hS:=hS.ns;refine Zbi ?_;refine zad ?_;refine Zad ?_;exact ⟨⟨_,j+1,_,_,zh,zh,hL0,(by omega),by rw [Q2H hx1];assumption,by assumption,hS.sp⟩,Qv (by omega)⟩)
 · skip
   all_goals (refine zex ?_)
   all_goals (obtain ⟨c11,hle2,hS,hk6⟩:=St.freezeL (r:=funcR) (l:=l) hS (by rw [List.take_of_length_le (by omega)] at hls;exact hls) rfl (by omega);obtain ⟨a6,n6,rfl⟩:=Rep.SR.shape hk6;(try have hle:=hle.trans hle2);(try have hL0:=hL0.trans hle2);(try have hf:=hf.up hle2);(try have hls:=hls.up hle2))
   all_goals (refine Zaa ?_;refine zv hS ?_;refine zsn hS ?_;intro w1 hS;have hS:=hS.ns;refine ZaS ?_;refine Q1z vw (Q9 (n:=1) (by kernel_rfl) (by kernel_rfl) (hS.blkAt fd) (by rfl) (by rfl)) ?_;exact ⟨_,rfl,c11,_,rfl,hle,⟨_,rfl,hk6⟩,hS.sp⟩)
end Go.Proofs.YteflkifmgnpbhaaGreat
