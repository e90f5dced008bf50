/- Lemmas of the proof, part 7: what the functions of the program do (contracts), and what follows. -/
import Derived.Test.YteflkifmgnpbhaaGreatZ2
import Derived.Test.YteflkifmgnpbhaaGreatZ6
namespace Go.Proofs.YteflkifmgnpbhaaGreat
open Go.Lir
set_option maxHeartbeats 1000000
attribute [local irreducible] LC.wp Q0 Qk Qh retQ Qt LO.wp Q4 Calls
set_option linter.unusedSimpArgs false
set_option linter.unusedVariables false
variable {cx:Cx}{w:World}{L:List Res}{m:Module}
theorem St.noneNil {i T es n k:Nat}{css:List (List Value)}(hS:St cx w L) (hi:nth L i=some (sl T es (.slice none n k) css)):css=[]∧n=0∧k=0:=by
 obtain ⟨F,hr,_⟩:=hS.step hi
 have hr:Sl w.heap T es (.slice none n k) F css:=hr
 rcases hr.2 with ⟨hv,hc,_⟩|⟨b,off,cap,arr,hv,_⟩
 · cases hv;exact ⟨hc,rfl,rfl⟩
 · cases hv
theorem Q6g {l:List Int}{i:Nat}(hb:l.length≤1000000){v:Value}(hS:St cx w L) (hi:nth L i=some (sl 2 1 v (l.map Qj))):Rets Tryz.prog Q2k [v] w fun u w'=>∃c',cx.Le c'∧intR.sl c' u l∧St c' w' L:=by
 obtain ⟨a,n,hv⟩:=hS.shape hi
 rw [List.length_map] at hv
 cases a with
 | none=>
   rw [hv] at hi
   obtain ⟨hl0,h1,h2⟩:=St.noneNil hS hi
   obtain rfl:l=[]:=by simpa using hl0
   rw [hv,h2]
   all_goals refine lgo tyD Tryz.func65 ?_
   all_goals (refine ZaQ ?_;refine Q3u (e:=2) (by kernel_rfl) rfl rfl ?_;refine zn ?_)
   all_goals
    first
    | (refine zct ?_
       all_goals (refine Zas ?_)
       all_goals (exact ⟨_,rfl,cx,St.refl hS,Rep.SR.nil _ _ _,hS⟩))
   all_goals (refine Zaa ?_; fail "no law for buildSlice"; refine zm ?_; refine za Q4e Q8U hS ?_; intro vp1 w1 css1 hls1 hv1 hS; have hS := hS.ns; refine Zap ?_; exact ⟨_, rfl, cx, St.refl hS, Rep.SR.nil _ _ _, hS⟩)
 | some a=>
   all_goals refine lgo tyD Tryz.func65 ?_
   all_goals (refine ZaQ ?_;refine Q3u (e:=2) (by kernel_rfl) hv rfl ?_;refine zn ?_)
   all_goals refine zcf ?_
   all_goals (refine zsk ?_;refine Zaa ?_;refine Q7T Q4e ?_;intro v1 w1 hf1 hs1 hz1;have hS:=hS.new (r:=sl 2 1 v1 []) hs1 hf1 (fun b hb=> Nat.le_of_eq hb.symm);refine zm ?_;refine Q1T Q4e (.inl Q8U) hS vw vw (i:=0) rfl (hS.srcS (i:=i+1) hi (Q8p l)) (by simp only [List.length_nil,List.length_map];omega) ?_;intro v7 w7 hS;have hS:=hS.ns;refine Zap ?_;obtain ⟨c3,hle3,hS,hl3⟩:=St.freezeL (r:=intR) (l:=l) (T:=2) (es:=1) (L:=L) hS.sp (by simpa using icell_ls) rfl (by omega);exact ⟨_,rfl,c3,hle3,hl3,hS⟩)
theorem Q87 {p i j:Nat}{c:MC}{out back:List Int}(h1:back.length≤1000000) (h2:out.length≤1000000) (hi:nth L i=some (sl 2 1 c.bv (back.map Qj))) (hj:nth L j=some (sl 2 1 c.ov (out.map Qj))) (hS:St cx w (blk p 55 c.cells::L)):
 Rets Tryz.prog Q4D [.pointer (some ⟨p,0,none⟩)] w fun u w'=>∃c' v1 v2,cx.Le c'∧u= .agg ⟨[.int .i64 c.e,v1,v2, .int .i64 c.fu]⟩∧intR.sl c' v1 back∧intR.sl c' v2 out∧St c' w' (blk p 55 c.cells::L):=by
 obtain ⟨hp,fn,lv,iv,e0,bv,ov,fu0,mo,dn,cc,ca⟩:=c
 obtain ⟨ab,nb,eb⟩:=hS.shape (i:=i+1) hi
 obtain ⟨ao,no,eo⟩:=hS.shape (i:=j+1) hj
 have eb:bv= .slice ab _ nb:=eb
 have eo:ov= .slice ao _ no:=eo
 subst eb
 subst eo
 all_goals refine lgo tyD Tryz.func29 ?_
 all_goals (refine Zbe ?_;intro p2 w1 hS;refine ZbD ?_;refine zf0 ?_;refine zv hS ?_;refine Qg hS ?_;intro p3 w1 hS;refine zsn hS ?_;intro w1 hS;have hS:=hS.ns;refine Zal ?_;refine zC [(0,none),(1,none),(3,none),(4,none),(2,some (some [4])),(6,none),(5,some (some [])),(7,some none),(8,none),(9,some none)] ?_;have hS:=hS.drew;refine s_cq ?_;refine zf0 ?_;refine Zab ?_;refine zl hS ?_;refine Zab ?_;refine zf0 ?_;refine Zab ?_;refine zl hS ?_;refine Zaj ?_;refine zR1 (c:=Q6g (i:=i+3) h1 hS hi) (h:=?_);rintro v1 w1 ⟨c1,hle1,hv1,hS⟩;refine ZaH ?_;refine zf0 ?_;refine Zaj ?_;refine zR1 (c:=Q6g (i:=j+3) h2 hS hj) (h:=?_);rintro v2 w2 ⟨c2,hle2,hv2,hS⟩;have hv1:=Rep.SR.up hv1 hle2;obtain ⟨a1,n1,rfl⟩:=Rep.SR.shape hv1;obtain ⟨a2,n2,rfl⟩:=Rep.SR.shape hv2)
 all_goals (refine ZaC ?_;refine zst hS ?_;intro w1 hS;have hS:=hS.ns;refine Zab ?_;refine zf0 ?_;refine Zau ?_;refine zst hS ?_;intro w1 hS;have hS:=hS.ns;refine Zao ?_;refine Zaa ?_;refine zv hS ?_;refine zsn hS ?_;intro w1 hS;have hS:=hS.ns;refine ZaS ?_;refine Q1z vw (Q9 (n:=4) (by kernel_rfl) (by kernel_rfl) (hS.blkAt fd) (by rfl) (by rfl)) ?_;exact ⟨_,rfl,c2,_,_,hle1.trans hle2,rfl,hv1,hv2,hS.sp⟩)
theorem Qe0 {p i j:Nat}{c:RC}{out back:List Int}(h1:back.length≤1000000) (h2:out.length≤1000000) (hi:nth L i=some (sl 2 1 c.bv (back.map Qj))) (hj:nth L j=some (sl 2 1 c.ov (out.map Qj))) (hS:St cx w (blk p 66 c.cells::L)):
 Rets Tryz.prog Q5v [.pointer (some ⟨p,0,none⟩)] w fun u w'=>∃c' v1 v2,cx.Le c'∧u= .agg ⟨[.int .i64 c.e,v1,v2, .int .i64 c.fu]⟩∧intR.sl c' v1 back∧intR.sl c' v2 out∧St c' w' (blk p 66 c.cells::L):=by
 obtain ⟨ep,fn,lv,iv,e0,bv,ov,fu0,mo,dn⟩:=c
 obtain ⟨ab,nb,eb⟩:=hS.shape (i:=i+1) hi
 obtain ⟨ao,no,eo⟩:=hS.shape (i:=j+1) hj
 have eb:bv= .slice ab _ nb:=eb
 have eo:ov= .slice ao _ no:=eo
 subst eb
 subst eo
 all_goals refine lgo tyD Tryz.func38 ?_
 all_goals (refine Zbe ?_;intro p2 w1 hS;refine ZbD ?_;refine zf0 ?_;refine zv hS ?_;refine Qg hS ?_;intro p3 w1 hS;refine zsn hS ?_;intro w1 hS;have hS:=hS.ns;refine Zal ?_;refine zC [(0,none),(1,none),(3,none),(4,none),(2,some (some [4])),(6,none),(5,some (some [])),(7,some none),(8,none),(9,some none)] ?_;have hS:=hS.drew;refine s_cq ?_;refine zf0 ?_;refine Zab ?_;refine zl hS ?_;refine Zab ?_;refine zf0 ?_;refine Zab ?_;refine zl hS ?_;refine Zaj ?_;refine zR1 (c:=Q6g (i:=i+3) h1 hS hi) (h:=?_);rintro v1 w1 ⟨c1,hle1,hv1,hS⟩;refine ZaH ?_;refine zf0 ?_;refine Zaj ?_;refine zR1 (c:=Q6g (i:=j+3) h2 hS hj) (h:=?_);rintro v2 w2 ⟨c2,hle2,hv2,hS⟩;have hv1:=Rep.SR.up hv1 hle2;obtain ⟨a1,n1,rfl⟩:=Rep.SR.shape hv1;obtain ⟨a2,n2,rfl⟩:=Rep.SR.shape hv2)
 all_goals (refine ZaC ?_;refine zst hS ?_;intro w1 hS;have hS:=hS.ns;refine Zab ?_;refine zf0 ?_;refine Zau ?_;refine zst hS ?_;intro w1 hS;have hS:=hS.ns;refine Zao ?_;refine Zaa ?_;refine zv hS ?_;refine zsn hS ?_;intro w1 hS;have hS:=hS.ns;refine ZaS ?_;refine Q1z vw (Q9 (n:=4) (by kernel_rfl) (by kernel_rfl) (hS.blkAt fd) (by rfl) (by rfl)) ?_;exact ⟨_,rfl,c2,_,_,hle1.trans hle2,rfl,hv1,hv2,hS.sp⟩)
theorem eq64_c {l k:List Int}{v v2:Value}(hl:intR.sl cx v l) (hk:intR.sl cx v2 k) (hS:St cx w L):Rets Tryz.prog Q3B [v,v2] w fun u w'=> u= .bool (decide (l=k))∧St cx w' L:=by
 have hlen:=hl.len
 all_goals refine lgo tyD Tryz.func92 ?_
 all_goals (refine ZaQ ?_;refine zL ?_;refine zm ?_;refine zL ?_)
 all_goals (first|(refine Q1D ?_)|(refine Q1M ?_)|(refine QI rfl rfl (fun hc=> ?_) (fun hc=> ?_)))
 all_goals (refine zn ?_)
 all_goals
  first
  | (refine zct ?_
     all_goals (refine Zas ?_)
     all_goals (refine ⟨_,rfl,?_,hS.sp⟩;rw [decide_eq_false];exact fun e=> absurd (congrArg List.length e) (by omega);done))
  | (refine zcf ?_
     all_goals refine zsk ?_)
 all_goals (refine Zak ?_;refine zL ?_;refine ZaB ?_)
 refine zoL hS [0,1,12] (fun A LL ρ' w'=>∃(j:Nat),Has ρ' A∧Has ρ' [(13, .int .i64 j)]∧(j≤l.length)∧(l.length=k.length)∧(l=k↔l.drop j=k.drop j)∧St cx w' (LL)) (fun ρ' _=> (l.length - iv (ρ' 13)).toNat) ?_ ?_
 · exact ⟨0,zh,zh,(by omega),(by omega),by simp,hS.sp⟩
 rintro ρ w1 ⟨j,hA,hρ,hj,hlm,hd,hS⟩;obtain ⟨ρ,rfl⟩:=env2 hA hρ
 all_goals (refine ZaI ?_)
 refine Qq rfl (fun hc=> ?_) (fun hc=> ?_)
 · skip
   all_goals (refine Zbp ?_;refine ZaF ?_;refine zD (ci 9 [8]) ?_;have hS:=hS.drew;refine ZaT ?_;refine zi ?_;intro b1 o1 cs1 x1 hat1 hx1 he1;obtain rfl:=QY he1;refine Yat ?_;refine ZaT ?_;refine zi ?_;intro b2 o2 cs2 x2 hat2 hx2 he2;obtain rfl:=QY he2;refine Yat ?_)
   all_goals (first|(refine Q1D ?_)|(refine Q1M ?_)|(refine QI rfl rfl (fun hc=> ?_) (fun hc=> ?_)))
   all_goals (refine zn ?_)
   all_goals
    first
    | (refine zct ?_
       all_goals (refine Zas ?_)
       all_goals (first|(refine ⟨_,rfl,?_,hS.sp⟩;rw [decide_eq_false];exact fun e=> absurd (congrArg List.length e) (by omega);done)|(refine ⟨_,rfl,?_,hS.sp⟩;rw [decide_eq_false];rw [hd,Qb hx1,Qb hx2];simp [*];done)))
    | (refine zcf ?_
       all_goals refine zsk ?_)
   all_goals (refine Q10 ?_;refine zad ?_;refine Zad ?_;exact ⟨⟨j+1,zh,zh,(by omega),(by omega),by rw [hd,Qb hx1,Qb hx2,show x1=x2 by omega];simp,hS.sp⟩,Qv (by omega)⟩)
 · skip
   all_goals (refine ZbL ?_;(first|(refine ⟨_,rfl,?_,hS.sp⟩;rw [decide_eq_false];exact fun e=> absurd (congrArg List.length e) (by omega);done)|(refine ⟨_,rfl,?_,hS.sp⟩;rw [decide_eq_false];rw [hd,Qb hx1,Qb hx2];simp [*];done)|(refine ⟨_,rfl,?_,hS.sp⟩;rw [decide_eq_true];rw [hd,List.drop_of_length_le (by omega),List.drop_of_length_le (by omega)];done)))
theorem QeV {e e2 f f2:Int}{xs ys xs2 ys2:List Int}{v1 v2 v3 v4:Value}(h1:intR.sl cx v1 xs) (h2:intR.sl cx v2 ys) (h3:intR.sl cx v3 xs2) (h4:intR.sl cx v4 ys2) (hS:St cx w L):
 Rets Tryz.prog QeG [.agg ⟨[.int .i64 e,v1,v2, .int .i64 f]⟩, .agg ⟨[.int .i64 e2,v3,v4, .int .i64 f2]⟩] w fun u w'=> u= .bool (decide (e=e2∧xs=xs2∧ys=ys2∧f=f2))∧St cx w' L:=by
 all_goals refine lgo tyD Tryz.func49 ?_
 all_goals (refine Zat ?_;intro p2 w1 hS;refine zb hS ?_;intro p3 w1 hS;refine Zad ?_;refine Zaa ?_;refine zf0 ?_;refine zl hS ?_;refine zf0 ?_;refine zl hS ?_)
 all_goals (first|(refine Ql ?_)|(refine Qo ?_)|(refine Q8 rfl rfl (fun hc=> ?_) (fun hc=> ?_)))
 all_goals (refine ZaN ?_;refine Zan ?_)
 all_goals ((first|(refine zgn ?_)|(refine zgy ?_;refine zR2 (c:=eq64_c h1 h3 hS) (h:=?_);rintro v1 w1 ⟨rfl,hS⟩;(cases hdec:decide (xs=xs2));have hg:=of_decide_eq_false hdec;rotate_left;have hg:=of_decide_eq_true hdec;all_goals skip)))
 all_goals (refine Yae ?_;refine ZaN ?_;refine Zan ?_)
 all_goals ((first|(refine zgn ?_)|(refine zgy ?_;refine zR2 (c:=eq64_c h2 h4 hS) (h:=?_);rintro v1 w1 ⟨rfl,hS⟩;(cases hdec:decide (ys=ys2));have hg:=of_decide_eq_false hdec;rotate_left;have hg:=of_decide_eq_true hdec;all_goals skip)))
 all_goals (refine Yae ?_;refine ZaN ?_;refine Zan ?_)
 all_goals (first|refine zgn ?_|(refine zgy ?_;(first|(refine Ql ?_)|(refine Qo ?_)|(refine Q8 rfl rfl (fun hc=> ?_) (fun hc=> ?_)))))
 all_goals (refine Yae ?_;refine Zap ?_;refine ⟨_,rfl,?_,hS.sp⟩;(simp [*]);done)
end Go.Proofs.YteflkifmgnpbhaaGreat
namespace Go.Proofs.YteflkifmgnpbhaaGreat
open Go.Lir
set_option maxHeartbeats 1000000
attribute [local irreducible] LC.wp Q0 Qk Qh retQ Qt LO.wp Q4 Calls
set_option linter.unusedSimpArgs false
set_option linter.unusedVariables false
variable {cx:Cx}{w:World}{L:List Res}{p N:Nat}{c:MC}{z:GZ}{fr:List FrmV}{g:FrmV}{h:HpS}{out inp back:List Int}{m:Module}
theorem bnd_all {k most:Nat}(hB:Bnd m k (msOf h g fr inp out k)) (hM:m.fault.1=0) (hk:k≤most) (hm:most≤20000):∃f b,m.funcs[g.f]?=some f∧f.blocks[g.b]?=some b∧(∀x∈b.code,QcV m x)∧Qex f b.fin∧g.i≤1000∧g.f≤1000000∧g.b≤1000000∧fr.length≤900∧g.vals.length≤800000∧g.regs.length≤800000∧(∀x∈fr,x.vals.length≤900000)∧out.length≤2000:=by
 obtain ⟨f,b,hf,hb,h1,h2,h3⟩:=hB.cur
 obtain ⟨q0,q1,q2⟩:=Q1x hM hf hb
 obtain ⟨e1,e2,e3,e4⟩:=Q3J q2
 have hcl:=(Q1W q0).2.2.2.2
 have hfl:=Q8F hM
 have hbl:=(Q1w (Q1R hM hf)).2.2.2.2
 have hgf:=(List.getElem?_eq_some_iff.1 hf).1
 have hgb:=(List.getElem?_eq_some_iff.1 hb).1
 have hsl:=hB.sl
 have hst:(msOf h g fr inp out k).st.length=fr.length:=by show (fr.map FrmV.abs).reverse.length=_;simp
 have h1:g.i≤b.code.length:=h1
 have h2:g.vals.length≤8+8*k:=h2
 have h3:g.regs.length≤16+k:=h3
 have hgf:g.f < m.funcs.length:=hgf
 have hgb:g.b < f.blocks.length:=hgb
 have hto:∀{t:To},Q1K f.blocks.length t true=0→ToOK f t:=fun ht=> ⟨Q3N ht,by have:=QaV ht;omega,by have:=QaV ht;omega⟩
 refine ⟨f,b,hf,hb,fun x hx=> ⟨Q2Y (q1 x hx),insF_k (q1 x hx),by have:=Q5C (q1 x hx);omega,by have:=Q5C (q1 x hx);omega⟩,⟨by have:=Qaz q2;omega,⟨e1,e2⟩,fun hq=> hto (by rw [decide_eq_true hq] at e3;exact e3),fun hq=> hto (by rw [decide_eq_true hq] at e4;exact e4)⟩,by omega,by omega,by omega,by omega,by omega,by omega,?_,hB.out⟩
 intro x hx
 obtain ⟨f9,b9,_,_,_,h9,_⟩:=hB.st x.abs (by show x.abs∈(fr.map FrmV.abs).reverse;rw [List.mem_reverse];exact List.mem_map_of_mem hx)
 have h9:x.vals.length≤8+8*k:=h9
 omega
theorem pstep_c {most:Nat}{s:MS}(hP:PR m most c fr g N h inp out back (.on s)) (hM:m.fault.1=0) (hmo:most≤20000) (hfn:funcR.sl cx c.fn m.funcs) (hi:intR.sl cx c.iv inp) (hS:St cx w (mS p c fr g N h out (sl 2 1 c.bv (Qw back)::L))):
 Rets Tryz.prog Q3q [.pointer (some ⟨p,0,none⟩)] w fun u w'=>
  (∀f,Run.step m most (.on s)≠ .stuck f)∧(u=fltV (0,0)∧∃c' fr' g' N' h' inp' out' back',PR m most c' fr' g' N' h' inp' out' back' (Run.step m most (.on s))∧c'.fn=c.fn∧intR.sl cx c'.iv inp'∧msr c' < msr c∧St cx w' (mS p c' fr' g' N' h' out' (sl 2 1 c'.bv (Qw back')::L)))∨
  ∃(f:Int) (c':MC),Run.step m most (.on s)= .stuck (20,f)∧u=fltV (20,f)∧c'.c=20∧c'.a=f∧St cx w' (blk p 55 c'.cells::L):=by
 have hP':=hP
 obtain ⟨hms,rfl,hdn,hc0,he0,hfu,hkm,hmo2,hN,hB⟩:=hP
 rw [hms] at hB
 obtain ⟨f,b,hf,hb,k1,k2,k3,k4,k5,k6,k7,k8,k9,k10⟩:=bnd_all hB hM hkm hmo
 exact (step_c (m:=m) (f:=f) (b:=b) (inp:=inp) (fu:=s.fuel+1) hdn hc0 hfn hi hf hb k1 k2 k4 k5 k3 k6 k7 k8 k9 (by omega) k10 ⟨by omega,by omega⟩ hS).mono fun u w' hs=> hP'.step hM hi hs
end Go.Proofs.YteflkifmgnpbhaaGreat
namespace Go.Proofs.YteflkifmgnpbhaaGreat
open Go.Lir
set_option maxHeartbeats 1000000
attribute [local irreducible] LC.wp Q0 Qk Qh retQ Qt LO.wp Q4 Calls
set_option linter.unusedSimpArgs false
set_option linter.unusedVariables false
variable {cx:Cx}{w:World}{L:List Res}{m:Module}{t p q N:Nat}{c:MC}{fr:List FrmV}{g:FrmV}{h:HpS}{inp out back:List Int}{cy:RC}{fr2:List RFV}{g2:RFV}{s:EstS}{inp2 out2 back2:List Int}{most:Nat}
theorem QR.ns {ms:MS}(hQ:QR m most cy fr2 g2 s inp2 out2 back2 (.on ms)) (hR:m.runs.1=0) (hsh:m.Short):∀f,Run.step m most (.on ms)≠ .stuck f:=by
 obtain ⟨-, -, -, -, -, -, -, -,hf⟩:=hQ
 intro f hs
 have h1:=Q9Y hR hsh (most:=most) (r:= .on ms) hf
 rw [hs] at h1
 exact h1
theorem QP.same {r:Run}(hP:PR m most c fr g N h inp out back r) (hQ:QR m most cy fr2 g2 s inp2 out2 back2 r):cy.dn=c.dn∧cy.e=c.e∧cy.fu=c.fu∧out2=out∧back2=back∧h.left=s.p.fr.length∧s.count=h.live∧out.length≤2000∧back.length≤100000∧(c.e=0→c.dn=true→Q6n h):=by
 cases r with
 | on ms=>
   obtain ⟨a1,a2,a3,a4,a5,a6,a7,a8,a9,a10⟩:=hP
   obtain ⟨⟨φ,S⟩,b2,b3,b4,b5, -⟩:=hQ
   have e1:ms.h=h:=by rw [a1];rfl
   have e2:ms.out=out:=by rw [a1];rfl
   have e3:ms.out=out2:=S.out
   refine ⟨by rw [a3,b3],by rw [a5,b4],by rw [a6,b5],by rw [←e2,←e3],by rw [a2,b2],by rw [←e1];exact S.hr.left,by rw [←e1];exact S.hr.cnt,by rw [←e2];exact a10.out,by rw [a2];exact Nat.zero_le _,fun _ hd=> by rw [a3] at hd;cases hd⟩
 | over ms e b=>
   obtain ⟨a1,a2,a3,a4,a5,a6,a7,a8⟩:=hP
   obtain ⟨b1,b2,b3,b4,b5,b6,b7,b8,b9,b10⟩:=hQ
   exact ⟨by rw [a4,b3],by rw [a5,b4],by rw [a6,b5],by rw [a2,b1],by rw [a3,b2],by rw [a1];exact b8,by rw [a1];exact b9,a7,a8,fun h0 _=> by rw [a1];exact b10 (by omega)⟩
 | stuck f=> exact hP.elim
@[reducible] def tB (t p q:Nat):Res:=blk t 80 [.pointer (some ⟨p,0,none⟩), .pointer (some ⟨q,0,none⟩), .int .i64 0, .int .i64 0]
@[reducible] def tX (t p q:Nat) (c:MC) (fr:List FrmV) (g:FrmV) (N:Nat) (h:HpS) (out back:List Int) (cy:RC) (fr2:List RFV) (g2:RFV) (s:EstS) (L:List Res):List Res:=
  tB t p q::mS p c fr g N h out (sl 2 1 c.bv (back.map Qj)::rS q cy fr2 g2 s out (sl 2 1 cy.bv (back.map Qj)::L))
theorem unstuck {ms:MS}{u:Value}(hns:∀f,Run.step m most (.on ms)≠ .stuck f) (hU:(∀f,Run.step m most (.on ms)≠ .stuck f)∧(u=fltV (0,0)∧∃c' fr' g' N' h' inp' out' back',PR m most c' fr' g' N' h' inp' out' back' (Run.step m most (.on ms))∧c'.fn=c.fn∧intR.sl cx c'.iv inp'∧msr c' < msr c∧St cx w (mS p c' fr' g' N' h' out' (sl 2 1 c'.bv (Qw back')::L)))∨
 ∃(f:Int) (c':MC),Run.step m most (.on ms)= .stuck (20,f)∧u=fltV (20,f)∧c'.c=20∧c'.a=f∧St cx w (blk p 55 c'.cells::L)):u=fltV (0,0)∧∃c' fr' g' N' h' inp' out' back',PR m most c' fr' g' N' h' inp' out' back' (Run.step m most (.on ms))∧c'.fn=c.fn∧intR.sl cx c'.iv inp'∧msr c' < msr c∧St cx w (mS p c' fr' g' N' h' out' (sl 2 1 c'.bv (back'.map Qj)::L)):=by
 rcases hU with ⟨_,h⟩|⟨f,_,h,_⟩
 · exact h
 · exact absurd h (hns _)
attribute [local irreducible] PR QR Run.step
theorem QeI {ms:MS}(hP:PR m most c fr g N h inp out back (.on ms)) (hQ:QR m most cy fr2 g2 s inp2 out back (.on ms)) (hdn:c.dn=false) (hR:m.runs.1=0) (hsh:m.Short) (hmo:most≤20000) (hfn1:funcR.sl cx c.fn m.funcs) (hi1:intR.sl cx c.iv inp) (hfn2:funcR.sl cx cy.fn m.funcs) (hi2:intR.sl cx cy.iv inp2) (hS:St cx w (tX t p q c fr g N h out back cy fr2 g2 s L)):
 Rets Tryz.prog Q8V [.pointer (some ⟨t,0,none⟩)] w fun u w'=> u=fltV (0,0)∧∃c' fr' g' N' h' inp' out' back' cy' fr2' g2' s' inp2',PR m most c' fr' g' N' h' inp' out' back' (Run.step m most (.on ms))∧QR m most cy' fr2' g2' s' inp2' out' back' (Run.step m most (.on ms))∧c'.fn=c.fn∧intR.sl cx c'.iv inp'∧cy'.fn=cy.fn∧intR.sl cx cy'.iv inp2'∧msr c' < msr c∧St cx w' (tX t p q c' fr' g' N' h' out' back' cy' fr2' g2' s' L):=by
 have hns:=hQ.ns hR hsh
 all_goals refine lgo tyD Tryz.func47 ?_
 all_goals (refine Zbe ?_;intro p2 w1 hS;refine zn ?_;refine Zak ?_;refine znc ?_;refine zf0 ?_;refine Yad ?_;refine zl hS ?_)
 all_goals (refine Yar ?_)
 all_goals (refine Zam ?_;refine Zbv ?_;(first|(refine zgn ?_)|(refine zgy ?_;refine zR1 (c:=QdF (c:=c) (show St cx _ (blk p 55 c.cells::_) from hS.sp)) (h:=?_);rintro v1 w1 ⟨rfl,hS⟩;rw [hdn]));refine ZaO ?_)
 all_goals refine zcf ?_
 all_goals (refine zsk ?_;refine ZaR ?_;refine zf0 ?_;refine zl hS ?_;refine zR1 (c:=pstep_c hP (Q1i hR) hmo hfn1 hi1 (show St cx _ (mS p c fr g N h out (sl 2 1 c.bv (Qw back)::_)) from hS.sp)) (h:=?_);rintro v1 w1 hU;obtain ⟨rfl,c',fr',g',N',h',inp',out',back',hP',hfn',hin',hlt,hS⟩:=unstuck hns hU;unfold fltV;refine Qg hS ?_;intro p3 w1 hS;refine zsn hS ?_;intro w1 hS;have hS:=hS.ns;refine ZbD ?_;refine zf0 ?_;refine zl hS ?_;refine zR1 (c:=rnext_c hQ hR hsh hmo hfn2 hi2 (show St cx _ (rS q cy fr2 g2 s out (sl 2 1 cy.bv (back.map Qj)::_)) from hS.sp)) (h:=?_);rintro v1 w1 ⟨rfl,cy',fr2',g2',s',inp2',out2',back2',hQ',hfny,hiny, -,hS⟩;obtain ⟨hdd,hee,hff,e1,e2,hll,hcc,hol,hbl, -⟩:=QP.same hP' hQ';obtain rfl:=e1.symm;obtain rfl:=e2.symm;refine Zal ?_;refine Zby ?_;refine zf0 ?_;refine zl hS ?_)
 all_goals (refine Yar ?_)
 all_goals (refine Zad ?_)
 all_goals refine zcf ?_
 all_goals (refine QB ?_;obtain ⟨ep,y1,y2,y3,y4,y5,y6,y7,y8,y9⟩:=cy';obtain ⟨b5,pp,rv,ho,hS⟩:=Q21 (hS.out (r:=estX ep s') fd);obtain rfl:=ho.he;have hdd:y9=c'.dn:=hdd;have hee:y4=c'.e:=hee;have hff:y7=c'.fu:=hff;refine zC [(0,none),(1,none),(2,none),(3,none),(5,none),(6,none),(7,none),(8,none),(4,some (some [8])),(9,some none),(10,none),(11,none),(12,none),(13,none),(14,none),(15,none),(17,none),(18,none),(19,none),(20,none),(16,some (some [20])),(21,some none),(22,some none),(23,none),(24,none),(25,none),(26,none),(27,none),(28,none),(29,none),(30,none),(31,none),(32,none),(34,none),(35,none),(36,none),(37,none),(38,none),(39,none),(40,none),(41,none),(42,none),(43,none),(33,some (some [37,40,43])),(44,some none),(45,none),(46,none),(47,none),(48,none),(49,none),(50,none),(51,none),(52,none),(53,none),(54,none),(56,none),(57,none),(58,none),(59,none),(60,none),(61,none),(62,none),(55,some (some [59,62])),(63,some none),(64,none),(65,none),(66,some none)] ?_;have hS:=hS.drew;refine ZaW ?_;refine zf0 ?_;refine Zab ?_;refine zl hS ?_;refine zt ?_)
 all_goals (refine ZaW ?_;refine zf0 ?_;refine Zab ?_;refine zl hS ?_;refine Zaj ?_;refine zR1 (c:=QdF (c:=c') (show St cx _ (blk p 55 c'.cells::_) from hS.sp)) (h:=?_);rintro v1 w1 ⟨rfl,hS⟩;refine ZaC ?_;refine zR1 (c:=rdone_c (c:=⟨.pointer (some ⟨b5,0,none⟩),y1,y2,y3,y4,y5,y6,y7,y8,y9⟩) hS.sp) (h:=?_);rintro v1 w1 ⟨rfl,hS⟩;rw [hdd];refine Zab ?_;refine Qff (by kernel_rfl) rfl rfl rfl ?_;refine Zaq ?_;refine Yaa ?_;refine ZbN ?_;refine Yac ?_;refine Zab ?_;refine Yaa ?_;refine ZbF ?_)
 all_goals (refine ZbH ?_;refine Yac ?_;refine Zaj ?_;(first|(refine zgn ?_)|(refine zgy ?_;refine zR1 (c:=Q87 (c:=c') (back:=back') (out:=out') (i:=0) (j:=1) (L:=sl 2 1 c'.bv (back'.map Qj)::sl 2 1 c'.ov (out'.map Qj)::_) (by omega) (by omega) rfl rfl hS.sp) (h:=?_);rintro v1 w1 ⟨k1,v1,v2,hk1,rfl,z1,z2,hS⟩));refine ZaC ?_;(first|(refine zgn ?_)|(refine zgy ?_;refine zR1 (c:=Qe0 (c:=⟨.pointer (some ⟨b5,0,none⟩),y1,y2,y3,y4,y5,y6,y7,y8,y9⟩) (back:=back') (out:=out') (i:=0) (j:=1) (L:=sl 2 1 y5 (back'.map Qj)::sl 2 1 y6 (out'.map Qj)::_) (by omega) (by omega) rfl rfl hS.sp) (h:=?_);rintro v1 w1 ⟨k2,v3,v4,hk2,rfl,z3,z4,hS⟩));refine Zau ?_;(first|(refine zgn ?_)|(refine zgy ?_;refine zR2 (c:=QeV (Rep.SR.up z1 hk2) (Rep.SR.up z2 hk2) z3 z4 hS) (h:=?_);rintro v1 w1 ⟨rfl,hS⟩;rw [decide_eq_true (⟨hee.symm,rfl,rfl,hff.symm⟩:c'.e=y4∧back'=back'∧out'=out'∧c'.fu=y7)]));refine Zab ?_;refine Yak ?_)
 all_goals (refine Zab ?_;refine Yae ?_;refine Zaq ?_;refine Yaa ?_;refine ZbN ?_;refine Yac ?_;refine ZbN ?_;refine Yac ?_;refine Zab ?_;refine Yaa ?_;refine ZbN ?_)
 all_goals (refine Yac ?_;refine ZbN ?_;refine Yac ?_;refine ZbN ?_;refine Yac ?_;refine Zaj ?_;(first|(refine zgn ?_)|(refine zgy ?_;refine zR1 (c:=Q7C (N:=N') (s:=h') (h:=c'.hp) hS fd) (h:=?_);rintro v1 w1 ⟨rfl,hS⟩));refine ZaC ?_;(first|(refine zgn ?_)|(refine zgy ?_;refine zR1 (c:=free_x (s:=s'.p) hS fd) (h:=?_);rintro v1 w1 ⟨rfl,hS⟩));refine Zab ?_;(first|(refine zgn ?_)|(refine zgy ?_;rw [hll];refine Q1M ?_)))
 all_goals (refine Zab ?_;refine Yae ?_;refine Zaq ?_;refine Yaa ?_;refine ZbN ?_;refine Yac ?_;refine ZbN ?_;refine Yac ?_;refine Zab ?_;refine Yaa ?_;refine ZbN ?_)
 all_goals (refine Yac ?_;refine ZbN ?_;refine Yac ?_;refine Zaj ?_;(first|(refine zgn ?_)|(refine zgy ?_;refine zR1 (c:=Qam (N:=N') (s:=h') (h:=c'.hp) hS fd) (h:=?_);rintro v1 w1 ⟨rfl,hS⟩));refine ZaC ?_;(first|(refine zgn ?_)|(refine zgy ?_;have hS:=QW ho (show St k2 _ (blk b5 73 (pp::Q1o rv)::Q1B pp s'.p::big RegV.res rv::_) from hS.sp);refine zR1 (c:=ecount_c (e:= .pointer (some ⟨b5,0,none⟩)) (s:=s') hS fd) (h:=?_);rintro v1 w1 ⟨rfl,hS⟩;rw [hcc]));refine Zab ?_;(first|(refine zgn ?_)|(refine zgy ?_;refine Q1M ?_));refine Zab ?_;refine Yae ?_;refine Zau ?_;refine Zbh ?_)
 all_goals refine zcf ?_
 all_goals (refine zsk ?_;refine ZaR ?_;refine zf0 ?_;refine zv hS ?_;refine zsn hS ?_;intro w1 hS;have hS:=hS.ns;refine ZaS ?_;refine Q1z vw (Q9 (n:=2) (by kernel_rfl) (by kernel_rfl) (hS.blkAt fd) (by rfl) (by rfl)) ?_;exact ⟨_,rfl,rfl,c',fr',g',N',h',inp',_,_,⟨.pointer (some ⟨b5,0,none⟩),y1,y2,y3,y4,y5,y6,y7,y8,y9⟩,fr2',g2',s',inp2',hP',hQ',hfn',hin',hfny,hiny,hlt,St.weak hS.sp (hk1.trans hk2)⟩)
end Go.Proofs.YteflkifmgnpbhaaGreat
namespace Go.Proofs.YteflkifmgnpbhaaGreat
open Go.Lir
set_option maxHeartbeats 1000000
attribute [local irreducible] LC.wp Q0 Qk Qh retQ Qt LO.wp Q4 Calls
set_option linter.unusedSimpArgs false
set_option linter.unusedVariables false
variable {cx:Cx}{w:World}{L:List Res}{i:Nat}
def toZ:To:=⟨0,[],[]⟩
@[reducible] def QbF (n:Int):Module:=⟨[⟨0,[],[.mk 1 0 []],[⟨0,[],[⟨1,0,0,0,0,5,[],[]⟩],⟨3,0,toZ,toZ,[n]⟩⟩]⟩]⟩
theorem QcM (n:Int):(QbF n).Short:=by
 refine ⟨Nat.le_of_ble_eq_true rfl,fun f hf=> ?_⟩
 simp [QbF] at hf;subst hf
 refine ⟨⟨Nat.le_of_ble_eq_true rfl,by simp⟩,⟨Nat.le_of_ble_eq_true rfl,fun t ht=> ?_⟩,Nat.le_of_ble_eq_true rfl,fun b hb=> ?_⟩
 · simp at ht;subst ht;exact .mk (by decide) (by simp)
 · simp at hb;subst hb
   refine ⟨⟨Nat.le_of_ble_eq_true rfl,by simp⟩,Nat.le_of_ble_eq_true rfl,fun i hi=> ?_,⟨Nat.le_of_ble_eq_true rfl,Nat.le_of_ble_eq_true rfl⟩,⟨Nat.le_of_ble_eq_true rfl,Nat.le_of_ble_eq_true rfl⟩,by simp⟩
   simp at hi;subst hi;exact ⟨by decide,by decide⟩
theorem five_o (hS:St cx w L):Rets Tryz.prog QdM [] w fun u w'=>∃q1 q2 q3 la lb,u= .agg ⟨[.slice (some ⟨la,0,none⟩) 1 1]⟩∧St cx w' (blk q1 115 [.int .i64 1, .int .i64 0, .slice none 0 0]::blk q2 84 [.int .i64 1, .int .i64 0, .int .i64 0, .int .i64 0, .int .i64 0, .int .i64 5, .slice none 0 0, .slice none 0 0]::blk q3 3 [.int .i64 0]::blk lb 92 [.int .i64 0, .slice none 0 0, .slice (some ⟨q2,0,none⟩) 1 1, .int .i64 3, .int .i64 0, .int .i64 0, .slice none 0 0, .slice none 0 0, .int .i64 0, .slice none 0 0, .slice none 0 0, .slice (some ⟨q3,0,none⟩) 1 1]::blk la 95 [.int .i64 0, .slice none 0 0, .slice (some ⟨q1,0,none⟩) 1 1, .slice (some ⟨lb,0,none⟩) 1 1]::L):=by
 all_goals refine lgo tyD Tryz.func50 ?_
 all_goals (refine Zbe ?_;intro p0 w1 hS;refine ZaD ?_;refine zR0 (c:=least_c hS) (h:=?_);rintro v1 w1 ⟨la,lb,rfl,hS⟩;simp only [Q9q] at hS;refine Qg hS ?_;intro p1 w1 hS;refine zsn hS ?_;intro w1 hS;have hS:=hS.ns;refine ZaD ?_;refine zf0 ?_;refine zl hS ?_;refine zb1 [_,_,_] ?_;refine Q2b (cs:=[_,_,_]) vw (by rfl) ?_;intro q1 w1 hb1 hf1 _ hk1;have hS:=hS.laid hb1 hf1 hk1;refine Qc8 rfl rfl (by decide) (by decide) ?_;refine zf0 ?_;refine zst hS ?_;intro w1 hS;have hS:=hS.ns;refine ZaD ?_;refine zf0 ?_;refine zl hS ?_;refine Qc8 rfl rfl (by decide) (by decide) ?_;refine zf0 ?_;refine zl hS ?_;refine zb2 [_,_,_,_,_,_,_,_] ?_;refine Q2b (cs:=[_,_,_,_,_,_,_,_]) vw (by rfl) ?_;intro q2 w1 hb1 hf1 _ hk1;have hS:=hS.laid hb1 hf1 hk1;refine Qc8 rfl rfl (by decide) (by decide) ?_;refine zf0 ?_;refine zst hS ?_;intro w1 hS;have hS:=hS.ns)
 all_goals (refine ZaD ?_;refine zf0 ?_;refine zl hS ?_;refine Qc8 rfl rfl (by decide) (by decide) ?_;refine zf0 ?_;refine zl hS ?_;refine Q2b (cs:=[_]) vw (by rfl) ?_;intro q3 w1 hb1 hf1 _ hk1;have hS:=hS.laid hb1 hf1 hk1;refine Qc8 rfl rfl (by decide) (by decide) ?_;refine zf0 ?_;refine Yad ?_;refine zst hS ?_;intro w1 hS;have hS:=hS.ns;refine ZaD ?_;refine zv hS ?_;refine zsn hS ?_;intro w1 hS;have hS:=hS.ns;refine ZaS ?_;refine Q1z vw (Q9 (n:=1) (by kernel_rfl) (by kernel_rfl) (hS.blkAt fd) (by rfl) (by rfl)) ?_;exact ⟨_,rfl,q1,q2,q3,la,lb,rfl,hS.sp⟩)
theorem five_fz {q1 q2 q3 la lb:Nat}{n:Int}(hS:St cx w (blk q1 115 [.int .i64 1, .int .i64 0, .slice none 0 0]::blk q2 84 [.int .i64 1, .int .i64 0, .int .i64 0, .int .i64 0, .int .i64 0, .int .i64 5, .slice none 0 0, .slice none 0 0]::blk q3 3 [.int .i64 n]::blk lb 92 [.int .i64 0, .slice none 0 0, .slice (some ⟨q2,0,none⟩) 1 1, .int .i64 3, .int .i64 0, .int .i64 0, .slice none 0 0, .slice none 0 0, .int .i64 0, .slice none 0 0, .slice none 0 0, .slice (some ⟨q3,0,none⟩) 1 1]::blk la 95 [.int .i64 0, .slice none 0 0, .slice (some ⟨q1,0,none⟩) 1 1, .slice (some ⟨lb,0,none⟩) 1 1]::L)):∃c',cx.Le c'∧modR.at c' [.slice (some ⟨la,0,none⟩) 1 1] (QbF n)∧St c' w L:=by
 have n0:∀c:Cx,tyR.sl c (.slice none 0 0) []:=fun c=> Rep.SR.nil _ _ _
 have n1:∀c:Cx,intR.sl c (.slice none 0 0) []:=fun c=> Rep.SR.nil _ _ _
 obtain ⟨c1,hle1,hS,h1⟩:=St.freeze1 (r:=tyR) (x:= .mk 1 0 []) hS (Q2R (n0 _))
 obtain ⟨c2,hle2,hS,h2⟩:=St.freeze1 (r:=insR) (x:=⟨1,0,0,0,0,5,[],[]⟩) hS ⟨_,_,rfl,n1 _,n1 _⟩
 obtain ⟨c3,hle3,hS,h3⟩:=St.freeze1 (r:=intR) (x:=n) hS rfl
 obtain ⟨c4,hle4,hS,h4⟩:=St.freeze1 (r:=blockR) (x:=⟨0,[],[⟨1,0,0,0,0,5,[],[]⟩],⟨3,0,toZ,toZ,[n]⟩⟩) hS (QbL (x:=⟨0,[],[⟨1,0,0,0,0,5,[],[]⟩],⟨3,0,toZ,toZ,[n]⟩⟩) (n0 _) (Rep.SR.up h2 hle3) (n1 _) (n1 _) (n1 _) (n1 _) h3)
 obtain ⟨c5,hle5,hS,h5⟩:=St.freeze1 (r:=funcR) (x:=⟨0,[],[.mk 1 0 []],[⟨0,[],[⟨1,0,0,0,0,5,[],[]⟩],⟨3,0,toZ,toZ,[n]⟩⟩]⟩) hS ⟨_,_,_,rfl,n0 _,Rep.SR.up h1 (hle2.trans (hle3.trans hle4)),h4⟩
 exact ⟨c5,hle1.trans (hle2.trans (hle3.trans (hle4.trans hle5))),⟨_,rfl,h5⟩,hS⟩
theorem five_c (hS:St cx w L):Rets Tryz.prog QdM [] w fun u w'=>∃c' vf,cx.Le c'∧u= .agg ⟨[vf]⟩∧modR.at c' [vf] (QbF 0)∧St c' w' L:=by
 refine (five_o hS).mono fun u w' h=> ?_
 obtain ⟨q1,q2,q3,la,lb,rfl,hS⟩:=h
 obtain ⟨c',h1,h2,h3⟩:=five_fz hS
 exact ⟨c',_,h1,rfl,h2,h3⟩
end Go.Proofs.YteflkifmgnpbhaaGreat
namespace Go.Proofs.YteflkifmgnpbhaaGreat
open Go.Lir
set_option maxHeartbeats 1000000
attribute [local irreducible] LC.wp Q0 Qk Qh retQ Qt LO.wp Q4 Calls
set_option linter.unusedSimpArgs false
set_option linter.unusedVariables false
variable {cx:Cx}{w:World}{L:List Res}{m:Module}{inp:List Int}
theorem QcL:Q1E (QbF 0) [] 9 0=(0,0):=by decide+kernel
theorem five_ocW:(Run.all (QbF 0) [] (9:Int).toNat 0).oc=⟨0,[5],[],2⟩:=by rfl
theorem RRunS.ok {fuel pages:Int}{u:Value}(hz:Q1E m inp fuel pages=(0,0)) (hs:RRunS m inp fuel pages cx L u w):m.runs.1=0∧∃c' v1 v2,cx.Le c'∧u= .tuple #[ocV (Run.all m inp fuel.toNat pages).oc v1 v2,fltV (0,0)]∧intR.sl c' v1 (Run.all m inp fuel.toNat pages).oc.back∧intR.sl c' v2 (Run.all m inp fuel.toNat pages).oc.out∧St c' w L:=by
 rcases hs with ⟨h1,_⟩|⟨_,h1⟩
 · rw [hz] at h1;exact absurd rfl h1
 · exact h1
theorem RRunS.bad {fuel pages:Int}{u:Value}(hz:(Q1E m inp fuel pages).1≠0) (hs:RRunS m inp fuel pages cx L u w):u= .tuple #[.agg ⟨[.int .i64 0, .slice none 0 0, .slice none 0 0, .int .i64 0]⟩,fltV (Q1E m inp fuel pages)]∧St cx w L:=by
 rcases hs with ⟨_,h1⟩|⟨h1,_⟩
 · exact h1
 · rw [h1] at hz;exact absurd rfl hz
end Go.Proofs.YteflkifmgnpbhaaGreat
namespace Go.Proofs.YteflkifmgnpbhaaGreat
open Go.Lir
set_option maxHeartbeats 1000000
attribute [local irreducible] LC.wp Q0 Qk Qh retQ Qt LO.wp Q4 Calls
set_option linter.unusedSimpArgs false
set_option linter.unusedVariables false
variable {cx:Cx}{w:World}{L:List Res}{i:Nat}
theorem RunS.ok {m:Module}{inp:List Int}{fuel pages:Int}{u:Value}(hz:Q3l m inp fuel pages=(0,0)) (hs:RunS m inp fuel pages cx L u w):∃c' v1 v2,cx.Le c'∧u= .tuple #[ocV (Run.all m inp fuel.toNat pages).oc v1 v2,fltV (Run.all m inp fuel.toNat pages).flt]∧intR.sl c' v1 (Run.all m inp fuel.toNat pages).oc.back∧intR.sl c' v2 (Run.all m inp fuel.toNat pages).oc.out∧St c' w L:=by
 rcases hs with ⟨h1,_⟩|⟨_,h1⟩
 · rw [hz] at h1;exact absurd rfl h1
 · exact h1
end Go.Proofs.YteflkifmgnpbhaaGreat
namespace Go.Proofs.YteflkifmgnpbhaaGreat
open Go.Lir
set_option maxHeartbeats 1000000
attribute [local irreducible] LC.wp Q0 Qk Qh retQ Qt LO.wp Q4 Calls
set_option linter.unusedSimpArgs false
set_option linter.unusedVariables false
variable {cx:Cx}{w:World}{L:List Res}{p N:Nat}{c:MC}{z:GZ}{fr:List FrmV}{g:FrmV}{h:HpS}{out inp back:List Int}{m:Module}
theorem DR.on {most:Nat}{r:Run}(hD:DR m most z fr g N h inp out back r) (hz:z.dn=false):∃s,r= .on s:=by
 cases r with
 | on s=> exact ⟨s,rfl⟩
 | over s e b=> obtain ⟨-, -, -,h4, -⟩:=hD;rw [hz] at h4;cases h4
 | stuck f=> exact hD.elim
theorem DR.over {most:Nat}{r:Run}(hD:DR m most z fr g N h inp out back r) (hz:z.dn=true):r= .over ⟨h,(match r with| .over s _ _=> s.g|_=> ⟨0,0,0,[],[]⟩),(match r with| .over s _ _=> s.st|_=> []),(match r with| .over s _ _=> s.inp|_=> []),out,(match r with| .over s _ _=> s.fuel|_=> 0)⟩ z.e back:=by
 cases r with
 | on s=> obtain ⟨-, -,h4, -⟩:=hD;rw [hz] at h4;cases h4
 | over s e b=> obtain ⟨rfl,rfl,rfl, -, -,rfl, -⟩:=hD;rfl
 | stuck f=> exact hD.elim
theorem PR.same {most:Nat}{r:Run}{N2:Nat}{fr2:List FrmV}{g2:FrmV}{h2:HpS}{out2 inp2 back2:List Int}(hP:PR m most c fr g N h inp out back r) (hD:DR m most z fr2 g2 N2 h2 inp2 out2 back2 r):h2=h∧out2=out∧back2=back∧z.dn=c.dn∧z.fu=c.fu∧z.e=c.e∧out.length≤2000∧back.length≤100000∧N2≤most+1:=by
 cases r with
 | on s=>
   obtain ⟨a1,a2,a3,a4,a5,a6,a7,a8,a9,a10⟩:=hP
   obtain ⟨b1,b2,b3,b4,b5,b6,b7,b8,b9,b10,b11⟩:=hD
   have e1:s.h=h:=by rw [a1];rfl
   have e2:s.h=h2:=by rw [b1];rfl
   have e3:s.out=out:=by rw [a1];rfl
   have e4:s.out=out2:=by rw [b1];rfl
   refine ⟨by rw [←e1,←e2],by rw [←e3,←e4],by rw [a2,b2],by rw [a3,b3],by rw [a6,b6],by rw [a5,b5],by rw [←e3];exact a10.out,by rw [a2];exact Nat.zero_le _,by omega⟩
 | over s e b=>
   obtain ⟨a1,a2,a3,a4,a5,a6,a7,a8⟩:=hP
   obtain ⟨b1,b2,b3,b4,b5,b6,b7,b8,b9,b10⟩:=hD
   exact ⟨by rw [a1,b1],by rw [a2,b2],by rw [a3,b3],by rw [a4,b4],by rw [a6,b7],by rw [a5,b6],a7,a8,b8⟩
 | stuck f=> exact hP.elim
theorem PR.first {fuel pages:Int}{hp fn lv iv:Value}(hM:m.fault.1=0) (h0:0≤fuel):PR m fuel.toNat (newC hp fn lv iv fuel) [] newG 0 ⟨[],pages⟩ inp [] [] (.on (MS.start inp pages)):=
 ⟨rfl,rfl,rfl,rfl,rfl,rfl,Nat.zero_le _,(Int.toNat_of_nonneg h0).symm,Nat.zero_le _,Bnd.start hM inp pages⟩
theorem DR.first {fuel pages:Int}{fn fv iv:Value}(hM:m.fault.1=0) (h0:0≤fuel) (hin:∀n∈inp,inI n):DR m fuel.toNat (newZ fn fv iv fuel) [] newG 0 ⟨[],pages⟩ inp [] [] (.on (MS.start inp pages)):=
 ⟨rfl,rfl,rfl,⟨rfl,rfl⟩,rfl,rfl,Nat.zero_le _,(Int.toNat_of_nonneg h0).symm,Nat.zero_le _,Bnd.start hM inp pages,Rg.start hin⟩
theorem RA.on {a:Run}{most:Nat}{s:MS}(hA:RA m most a (.on s)) (hP:PR m most c fr g N h inp out back (.on s)):RA m most a (Run.step m most (.on s)):=by
 obtain ⟨a1,a2,a3,a4,a5,a6,a7,a8,a9,a10⟩:=hP
 by_cases hk:s.fuel=most
 · rw [show Run.step m most (.on s)= .over s 7 [] from if_pos hk];exact RA.seven hA hk
 · rw [show Run.step m most (.on s)= .of m s (s.tick.one m) from if_neg hk]
   exact RA.more hA (by omega) rfl fun s' hs=> Qa8 hs
end Go.Proofs.YteflkifmgnpbhaaGreat
namespace Go.Proofs.YteflkifmgnpbhaaGreat
open Go.Lir
variable {N:Nat}{z:GZ}{fr:List FrmV}{g:FrmV}{h:HpS}{out inp back:List Int}{m:Module}
theorem DR.fin {most:Nat}{r a:Run}(hD:DR m most z fr g N h inp out back r) (hA:RA m most a r) (hz:z.dn=true):a.flt=(0,0)∧a.oc=⟨z.e,back,out,z.fu⟩∧z.c=0∧z.a=0:=by
 cases r with
 | on s=> obtain ⟨-, -,h4, -⟩:=hD;rw [hz] at h4;cases h4
 | over s e b=>
   obtain ⟨b1,b2,b3,b4,⟨b5,b9⟩,b6,b7, -⟩:=hD
   have hA:a= .over s e b:=hA
   refine ⟨by rw [hA];rfl,by rw [hA,b2,b3,b6,b7];rfl,b5,b9⟩
 | stuck f=> exact hD.elim
theorem RA.stuck {most:Nat}{r a:Run}{f:Flt}(hA:RA m most a r) (hr:r= .stuck f):a.flt=f∧a.oc=⟨0,[],[],0⟩:=by
 subst hr
 have hA:a= .stuck f:=hA
 exact ⟨by rw [hA];rfl,by rw [hA];rfl⟩
end Go.Proofs.YteflkifmgnpbhaaGreat
namespace Go.Proofs.YteflkifmgnpbhaaGreat
open Go.Lir
variable {N:Nat}{z:GZ}{fr:List FrmV}{g:FrmV}{h:HpS}{out inp back:List Int}{m:Module}
theorem DR.lens {most:Nat}{r:Run}(hD:DR m most z fr g N h inp out back r):out.length≤2000∧back.length≤100000:=by
 cases r with
 | on s=>
   obtain ⟨a1,a2,a3,a4,a5,a6,a7,a8,a9,a10, -⟩:=hD
   have e3:s.out=out:=by rw [a1];rfl
   exact ⟨by rw [←e3];exact a10.out,by rw [a2];exact Nat.zero_le _⟩
 | over s e b=>
   obtain ⟨-, -, -, -, -, -, -, -,a7,a8⟩:=hD
   exact ⟨a7,a8⟩
 | stuck f=> exact hD.elim
end Go.Proofs.YteflkifmgnpbhaaGreat
namespace Go.Proofs.YteflkifmgnpbhaaGreat
open Go.Lir
set_option maxHeartbeats 1000000
attribute [local irreducible] LC.wp Q0 Qk Qh retQ Qt LO.wp Q4 Calls
set_option linter.unusedSimpArgs false
set_option linter.unusedVariables false
variable {cx:Cx}{w:World}{L:List Res}{m:Module}{inp:List Int}
def TNewS (m:Module) (inp:List Int) (fuel pages:Int) (cx:Cx) (L:List Res) (u:Value) (w':World):Prop:=
 ((Q1E m inp fuel pages).1≠0∧u= .tuple #[.pointer none,fltV (Q1E m inp fuel pages)]∧St cx w' L)∨
 (Q1E m inp fuel pages=(0,0)∧m.runs.1=0∧inp.length≤200∧0≤fuel∧fuel≤20000∧∃(n:Nat),pages=n∧n≤64∧∃c' t p q hp fn lv i1 ep fn2 lv2 i2,u= .tuple #[.pointer (some ⟨t,0,none⟩),fltV (0,0)]∧cx.Le c'∧funcR.sl c' fn m.funcs∧intR.sl c' i1 inp∧funcR.sl c' fn2 m.funcs∧intR.sl c' i2 inp∧St c' w' (tX t p q (newC hp fn lv i1 fuel) [] newG 0 ⟨[],n⟩ [] [] (Qcs ep fn2 lv2 i2 fuel) [] Qcr (EstS.mk0 n) L))
theorem tnew_c {cs:List Value}{v:Value}{fuel pages:Int}(hsh:m.Short) (hx:modR.at cx cs m) (hi:intR.sl cx v inp) (hS:St cx w L):
 Rets Tryz.prog twin_New [.agg ⟨cs⟩,v, .int .i64 fuel, .int .i64 pages] w (TNewS m inp fuel pages cx L):=by
 have hx':=hx
 obtain ⟨vf,rfl,hf⟩:=Q1e hx
 unfold TNewS
 all_goals refine lgo tyD Tryz.func46 ?_
 all_goals (refine Zat ?_;intro p4 w1 hS;refine zm ?_;refine Qg hS ?_;intro p9 w1 hS;refine ZaD ?_;refine zv hS ?_;refine ZaT ?_;refine zm ?_)
 all_goals (refine zR4 (c:=rnew_c hsh hx' hi hS) (h:=?_);rintro v1 w1 hN;rcases hN.split with ⟨hz,rfl,hS⟩|⟨hs0,hR,hil,hf0,hf1,n,rfl,hq,c2,q,ep,fn2,lv2,i2,rfl,hle2,hfn2,hi2,hS⟩)
 all_goals (unfold fltV;dsimp only;refine ZbI ?_;intro p11 w1 hS;refine zm ?_;refine zsn hS ?_;intro w1 hS;have hS:=hS.ns;refine Zbu ?_;refine zf0 ?_;refine zl hS ?_)
 all_goals (refine Yar ?_)
 all_goals (refine zn ?_)
 all_goals
  first
  | (refine zct ?_
     all_goals (refine QB ?_;refine zD (ci 3 [2]) ?_;have hS:=hS.drew;refine zv hS ?_;refine zm ?_;refine zsn hS ?_;intro w1 hS;have hS:=hS.ns;refine ZaS ?_;refine Q1G vw vw (Q9 (n:=2) (by kernel_rfl) (by kernel_rfl) (hS.blkAt fd) (by rfl) (by rfl)) ?_)
     all_goals (exact ⟨_,rfl, .inl ⟨hz,rfl,hS.sp⟩⟩))
  | (refine zcf ?_
     all_goals refine zsk ?_)
 all_goals (refine Zaa ?_;refine zv hS ?_;refine ZaT ?_;refine zm ?_)
 all_goals (refine zR4 (c:=new_c hsh (Rep.R.up hx' hle2) (Rep.SR.up hi hle2) hS) (h:=?_);rintro v1 w1 hN2;rcases hN2 with ⟨hz,rfl,hS⟩|⟨-, -, -, -, -, -, -,c3,p,hp,fn,lv,i1,rfl,hle3,hfn,hi1,hS⟩;exact absurd (by rw [Q5K (by rw [Q1i hR];decide) (by omega)]) hz)
 all_goals (unfold fltV;dsimp only;refine zm ?_;refine Zba ?_;refine zm ?_;refine zsn hS ?_;intro w1 hS;have hS:=hS.ns;refine Zbu ?_;refine zf0 ?_;refine zl hS ?_)
 all_goals (refine Yar ?_)
 all_goals (refine zn ?_)
 all_goals
  first
  | (refine zct ?_
     all_goals (refine QB ?_;refine zD (ci 3 [2]) ?_;have hS:=hS.drew;refine zv hS ?_;refine zm ?_;refine zsn hS ?_;intro w1 hS;have hS:=hS.ns;refine ZaS ?_;refine Q1G vw vw (Q9 (n:=2) (by kernel_rfl) (by kernel_rfl) (hS.blkAt fd) (by rfl) (by rfl)) ?_)
     all_goals (exact ⟨_,rfl, .inl ⟨hz,rfl,hS.sp⟩⟩))
  | (refine zcf ?_
     all_goals refine zsk ?_)
 all_goals (refine ZaX ?_;refine zb2 [_,_,_,_] ?_;refine zb hS ?_;intro p40 w1 hS;refine zb0 [_,_] ?_;refine zm ?_;refine zsn hS ?_;intro w1 hS;have hS:=hS.ns;refine ZaS ?_;refine Q1G vw vw (Q9 (n:=2) (by kernel_rfl) (by kernel_rfl) (hS.blkAt fd) (by rfl) (by rfl)) ?_;(first|exact ⟨_,rfl, .inl ⟨hz,rfl,hS.sp⟩⟩|(have hS:=hS.nil (T:=2) (es:=1);have hS:=hS.nil (T:=2) (es:=1);exact ⟨_,rfl, .inr ⟨hs0,hR,hil,hf0,hf1,n,rfl,hq,c3,_,p,q,hp,fn,lv,i1,ep,fn2,lv2,i2,rfl,hle2.trans hle3,hfn,hi1,Rep.SR.up hfn2 hle3,Rep.SR.up hi2 hle3,hS.sp⟩⟩)))
theorem TNewS.split {fuel pages:Int}{u:Value}(h:TNewS m inp fuel pages cx L u w):((Q1E m inp fuel pages).1≠0∧u= .tuple #[.pointer none,fltV (Q1E m inp fuel pages)]∧St cx w L)∨
 (Q1E m inp fuel pages=(0,0)∧m.runs.1=0∧inp.length≤200∧0≤fuel∧fuel≤20000∧∃(n:Nat),pages=n∧n≤64∧∃c' t p q hp fn lv i1 ep fn2 lv2 i2,u= .tuple #[.pointer (some ⟨t,0,none⟩),fltV (0,0)]∧cx.Le c'∧funcR.sl c' fn m.funcs∧intR.sl c' i1 inp∧funcR.sl c' fn2 m.funcs∧intR.sl c' i2 inp∧St c' w (tX t p q (newC hp fn lv i1 fuel) [] newG 0 ⟨[],n⟩ [] [] (Qcs ep fn2 lv2 i2 fuel) [] Qcr (EstS.mk0 n) L)):=h
theorem PR.on {c:MC}{fr:List FrmV}{g:FrmV}{N:Nat}{h:HpS}{inp1 out back:List Int}{most:Nat}{r:Run}(hP:PR m most c fr g N h inp1 out back r) (hdn:c.dn=false):∃ms,r= .on ms∧ms.fuel≤most:=by
 cases r with
 | on ms=> obtain ⟨-, -, -, -, -, -,h7, -⟩:=hP;exact ⟨ms,rfl,h7⟩
 | over ms e b=> obtain ⟨-, -, -,h4, -⟩:=hP;rw [hdn] at h4;cases h4
 | stuck f=> exact hP.elim
theorem PR.fin {c:MC}{fr:List FrmV}{g:FrmV}{N:Nat}{h:HpS}{inp1 out back:List Int}{most:Nat}{r a:Run}(hP:PR m most c fr g N h inp1 out back r) (hA:RA m most a r) (hdn:c.dn=true):a.oc=⟨c.e,back,out,c.fu⟩∧out.length≤2000∧back.length≤100000:=by
 cases r with
 | on ms=> obtain ⟨-, -,h3, -⟩:=hP;rw [hdn] at h3;cases h3
 | over ms e b=>
   obtain ⟨-,h1,h2, -,h4,h5,h6,h7⟩:=hP
   have hA:a= .over ms e b:=hA
   refine ⟨?_,h6,h7⟩
   rw [hA,h1,h2,h4,h5];rfl
 | stuck f=> exact hP.elim
def TRunS (m:Module) (inp:List Int) (fuel pages:Int) (cx:Cx) (L:List Res) (u:Value) (w':World):Prop:=
 ((Q1E m inp fuel pages).1≠0∧u= .tuple #[.agg ⟨[.int .i64 0, .slice none 0 0, .slice none 0 0, .int .i64 0]⟩,fltV (Q1E m inp fuel pages)]∧St cx w' L)∨
 (Q1E m inp fuel pages=(0,0)∧m.runs.1=0∧∃c' a1 x1 y1 a2 x2 y2 oc,(Run.all m inp fuel.toNat pages).oc=oc∧cx.Le c'∧u= .tuple #[.agg ⟨[.int .i64 oc.e, .slice a1 x1 y1, .slice a2 x2 y2, .int .i64 oc.fuel]⟩,fltV (0,0)]∧intR.sl c' (.slice a1 x1 y1) oc.back∧intR.sl c' (.slice a2 x2 y2) oc.out∧St c' w' L)
attribute [local irreducible] PR QR RA Run.all Run.oc Run.step Q1E
theorem trun_c {cs:List Value}{v:Value}{fuel pages:Int}(hsh:m.Short) (hx:modR.at cx cs m) (hi:intR.sl cx v inp) (hS:St cx w L):
 Rets Tryz.prog QcY [.agg ⟨cs⟩,v, .int .i64 fuel, .int .i64 pages] w (TRunS m inp fuel pages cx L):=by
 have hx':=hx
 obtain ⟨vf,rfl,hf⟩:=Q1e hx
 unfold TRunS
 all_goals refine lgo tyD Tryz.func48 ?_
 all_goals (refine Zat ?_;intro p4 w1 hS;refine Qg hS ?_;intro p8 w1 hS;refine Qg hS ?_;intro p9 w1 hS;refine ZaD ?_;refine zv hS ?_;refine ZaT ?_;refine zm ?_)
 all_goals (refine zR4 (c:=tnew_c hsh hx' hi hS) (h:=?_);rintro v1 w1 hN;rcases hN.split with ⟨hz,rfl,hS⟩|⟨hs0,hR,hil,hf0,hf1,n,rfl,hq,c2,t,p,q,hp,fn,lv,i1,ep,fn2,lv2,i2,rfl,hle2,hfn,hin,hfn2,hin2,hS⟩)
 all_goals (unfold fltV;dsimp only;refine ZbI ?_;intro p11 w1 hS;refine zm ?_;refine zsn hS ?_;intro w1 hS;have hS:=hS.ns;refine Zbu ?_;refine zf0 ?_;refine zl hS ?_)
 all_goals (refine Yar ?_)
 all_goals (refine zn ?_)
 all_goals
  first
  | (refine zct ?_
     all_goals (refine QB ?_;refine zC [(0,none),(1,none),(2,some (some [1])),(3,some none)] ?_;have hS:=hS.drew;refine s_cq ?_;refine zb0 [_,_,_,_] ?_;refine Zab ?_;refine zv hS ?_;refine Zaj ?_;refine zsn hS ?_;intro w1 hS;have hS:=hS.ns;refine ZaC ?_;refine zsn hS ?_;intro w1 hS;have hS:=hS.ns;refine Zao ?_;refine zr ?_;refine Qch vw (Q9 (n:=4) (by kernel_rfl) (by kernel_rfl) (hS.blkAt fd) (by rfl) (by rfl)) vw (Q9 (n:=2) (by kernel_rfl) (by kernel_rfl) (hS.blkAt fd) (by rfl) (by rfl)) ?_)
     all_goals (exact ⟨_,rfl, .inl ⟨hz,rfl,hS.sp⟩⟩))
  | (refine zcf ?_
     all_goals refine zsk ?_)
 all_goals (refine Zar ?_)
 refine zo [8,9,10] (fun A ρ' w'=>∃(r:Run) (c:MC) (fr:List FrmV) (g:FrmV) (N:Nat) (h:HpS) (inp1 out back:List Int) (cy:RC) (fr2:List RFV) (g2:RFV) (s:EstS) (inp2:List Int),Has ρ' A∧Has ρ' []∧(RA m fuel.toNat (Run.all m inp fuel.toNat n) r)∧(PR m fuel.toNat c fr g N h inp1 out back r)∧(QR m fuel.toNat cy fr2 g2 s inp2 out back r)∧(funcR.sl c2 c.fn m.funcs)∧(intR.sl c2 c.iv inp1)∧(funcR.sl c2 cy.fn m.funcs)∧(intR.sl c2 cy.iv inp2)∧St c2 w' (tX t p q c fr g N h out back cy fr2 g2 s (blk p11 29 [.int .i64 0, .int .i64 0]::blk p9 29 [.int .i64 0, .int .i64 0]::blk p8 33 [.int .i64 0, .slice none 0 0, .slice none 0 0, .int .i64 0]::L))) (fun _ w'=> msrW w' p) ?_ ?_
 · exact ⟨.on (MS.start inp n),newC hp fn lv i1 fuel,[],newG,0,⟨[],n⟩,inp,[],[],Qcs ep fn2 lv2 i2 fuel,[],Qcr,EstS.mk0 n,inp,zh,zh,RA.first,PR.first (Q1i hR) hf0,QR.first hR hsh hf0 hq,hfn,hin,hfn2,hin2,hS.sp⟩
 rintro ρ w1 ⟨r,c,fr,g,N,h,inp1,out,back,cy,fr2,g2,s,inp2,hA,hρ,hRA,hP,hQ,hfn1,hin1,hfny,hiny,hS⟩;obtain ⟨ρ,rfl⟩:=env2 hA hρ;have hm0:=Qdo (c:=c) (L:=L) (show St c2 _ (blk p 55 c.cells::L) from hS.sp)
 all_goals (refine Zak ?_;refine znc ?_;refine zf0 ?_;refine zl hS ?_)
 all_goals (refine zR1 (c:=QdF (c:=c) (show St c2 _ (blk p 55 c.cells::_) from hS.sp)) (h:=?_);rintro v1 w1 ⟨rfl,hS⟩;cases hdn:c.dn)
 all_goals (refine Zbm ?_)
 all_goals
  first
  | (refine zct ?_
     all_goals (refine zsk ?_;refine Q3v ?_;refine Zac ?_;obtain ⟨ms,rfl,hkm⟩:=hP.on hdn;have hRA':=hRA.nx hkm;refine zR1 (c:=QeI hP hQ hdn hR hsh (by omega) hfn1 hin1 hfny hiny (show St c2 _ (tX t p q c fr g N h out back cy fr2 g2 s _) from hS.sp)) (h:=?_);rintro v1 w1 ⟨rfl,c',fr',g',N',h',inp',out',back',cy',fr2',g2',s',inp2',hP',hQ',hfn',hin',hfny',hiny',hlt,hS⟩;unfold fltV;refine Qg hS ?_;intro p12 w1 hS;refine zsn hS ?_;intro w1 hS;have hS:=hS.ns;refine ZaD ?_;refine zf0 ?_;refine zl hS ?_)
     all_goals (refine Yar ?_)
     all_goals (refine zn ?_)
     all_goals
      first
      | (refine zct ?_
         all_goals (refine QB ?_;refine zC [(0,none),(1,none),(2,some (some [1])),(3,some none)] ?_;have hS:=hS.drew;refine s_cq ?_;refine zb0 [_,_,_,_] ?_;refine Zab ?_;refine zv hS ?_;refine Zaj ?_;refine zsn hS ?_;intro w1 hS;have hS:=hS.ns;refine ZaC ?_;refine zsn hS ?_;intro w1 hS;have hS:=hS.ns;refine Zao ?_;refine zr ?_;refine Qch vw (Q9 (n:=4) (by kernel_rfl) (by kernel_rfl) (hS.blkAt fd) (by rfl) (by rfl)) vw (Q9 (n:=2) (by kernel_rfl) (by kernel_rfl) (hS.blkAt fd) (by rfl) (by rfl)) ?_)
         all_goals (exact ⟨_,rfl, .inl ⟨hz,rfl,hS.sp⟩⟩))
      | (refine zcf ?_
         all_goals refine zsk ?_)
     all_goals (exact ⟨⟨Run.step m fuel.toNat (.on ms),c',fr',g',N',h',inp',out',back',cy',fr2',g2',s',inp2',zh,zh,hRA',hP',hQ',(by rw [hfn'];exact hfn1),hin',(by rw [hfny'];exact hfny),hiny',hS.sp⟩,(by rw [Qdo (c:=c') (L:=L) (show St c2 _ (blk p 55 c'.cells::L) from hS.sp),hm0];exact hlt)⟩))
  | (refine zcf ?_
     all_goals (refine zex ?_;refine ZaR ?_;refine zf0 ?_;refine zl hS ?_;obtain ⟨ho,hol,hbl⟩:=hP.fin hRA hdn;refine zR1 (c:=Q87 (c:=c) (back:=back) (out:=out) (i:=0) (j:=1) (L:=sl 2 1 c.bv (back.map Qj)::sl 2 1 c.ov (out.map Qj)::_) (by omega) (by omega) rfl rfl hS.sp) (h:=?_);rintro v1 w1 ⟨k1,u1,u2,hk1,rfl,z1,z2,hS⟩;obtain ⟨a1,n1,rfl⟩:=Rep.SR.shape z1;obtain ⟨a2,n2,rfl⟩:=Rep.SR.shape z2;refine zb0 [_,_] ?_;refine zsn hS ?_;intro w1 hS;have hS:=hS.ns;refine zsn hS ?_;intro w1 hS;have hS:=hS.ns;refine ZaS ?_;refine Qch vw (Q9 (n:=4) (by kernel_rfl) (by kernel_rfl) (hS.blkAt fd) (by rfl) (by rfl)) vw (Q9 (n:=2) (by kernel_rfl) (by kernel_rfl) (hS.blkAt fd) (by rfl) (by rfl)) ?_)
     all_goals ((first|exact ⟨_,rfl, .inl ⟨hz,rfl,hS.sp⟩⟩|exact ⟨_,rfl, .inr ⟨hs0,hR,k1,a1,_,n1,a2,_,n2,⟨c.e,back,out,c.fu⟩,ho,hle2.trans hk1,rfl,z1,z2,hS.sp⟩⟩)))
theorem tfive_c {vf:Value}(hx:modR.at cx [vf] (QbF 0)) (hS:St cx w L):Rets Tryz.prog QcY [.agg ⟨[vf]⟩, .slice none 0 0, .int .i64 9, .int .i64 0] w fun u w'=>∃c' a1 x1 y1 a2 x2 y2,cx.Le c'∧u= .tuple #[.agg ⟨[.int .i64 0, .slice a1 x1 y1, .slice a2 x2 y2, .int .i64 2]⟩, .agg ⟨[.int .i64 0, .int .i64 0]⟩]∧intR.sl c' (.slice a1 x1 y1) [5]∧intR.sl c' (.slice a2 x2 y2) []∧St c' w' L:=by
 refine (trun_c (m:=QbF 0) (inp:=[]) (QcM 0) hx (Rep.SR.nil _ _ _) hS).mono fun u w' hs=> ?_
 rcases hs with ⟨h1,_⟩|⟨_,_,c',a1,x1,y1,a2,x2,y2,oc,ho,h1,h2,h3,h4,h5⟩
 · rw [QcL] at h1;exact absurd rfl h1
 · obtain rfl:oc=⟨0,[5],[],2⟩:=ho.symm.trans five_ocW
   exact ⟨c',a1,x1,y1,a2,x2,y2,h1,h2,h3,h4,h5⟩
theorem QbW (hS:St cx w L):Rets Tryz.prog QaJ [] w fun u w'=> u= .bool true∧St cx w' L:=by
 have n1:∀c:Cx,intR.sl c (.slice none 0 0) []:=fun c=> Rep.SR.nil _ _ _
 all_goals refine lgo tyD Tryz.func45 ?_
 all_goals (refine Zaf ?_;refine Zaa ?_;refine zR0 (c:=five_c hS) (h:=?_);rintro v1 w1 ⟨c1,vf,hle1,rfl,hx1,hS⟩;refine zR4 (c:=tfive_c hx1 hS) (h:=?_);rintro v1 w1 ⟨c2,a1,x1,y1,a2,x2,y2,hle2,rfl,k1,k2,hS⟩;refine ZbI ?_;intro p1 w1 hS;refine Qg hS ?_;intro p2 w1 hS;refine zsn hS ?_;intro w1 hS;have hS:=hS.ns;refine zsn hS ?_;intro w1 hS;have hS:=hS.ns;refine ZaD ?_;refine zf0 ?_;refine zl hS ?_)
 all_goals (refine Ql ?_)
 all_goals (refine zm ?_;(first|refine zgn ?_|(refine zgy ?_;refine zv hS ?_));(first|(refine zgn ?_)|(refine zgy ?_;refine Q2b (cs:=[_]) vw (by rfl) ?_;intro q5 w1 hb1 hf1 _ hk1;have hS:=hS.laid hb1 hf1 hk1));(first|refine zgn ?_|(refine zgy ?_;refine zb2 [_,_,_,_] ?_));(first|(refine zgn ?_)|(refine zgy ?_;obtain ⟨c6,hle6,hS,h6⟩:=St.freeze1 (r:=intR) (x:=5) hS rfl;refine zR2 (c:=QeV (Rep.SR.up k1 hle6) (Rep.SR.up k2 hle6) h6 (n1 _) hS) (h:=?_);rintro v1 w1 ⟨rfl,hS⟩;rw [show decide ((0:Int)=0∧[(5:Int)]=[5]∧([]:List Int)=[]∧(2:Int)=2)=true by decide]));refine zpt ?_;refine zm ?_;(first|refine zgn ?_|(refine zgy ?_;refine zv hS ?_));(first|refine zgn ?_|(refine zgy ?_;refine zb0 [_,_,_,_] ?_));(first|(refine zgn ?_)|(refine zgy ?_;refine zR2 (c:=QeV (Rep.SR.up k1 hle6) (Rep.SR.up k2 hle6) (n1 _) (n1 _) hS) (h:=?_);rintro v1 w1 ⟨rfl,hS⟩;rw [show decide ((0:Int)=0∧[(5:Int)]=[]∧([]:List Int)=[]∧(2:Int)=0)=false by decide]));refine Yak ?_;refine zpt ?_;refine Zap ?_;exact ⟨_,rfl,rfl,St.weak hS.sp (hle1.trans (hle2.trans hle6))⟩)
end Go.Proofs.YteflkifmgnpbhaaGreat
namespace Go.Proofs.YteflkifmgnpbhaaGreat
open Go.Lir
set_option maxHeartbeats 1000000
attribute [local irreducible] LC.wp Q0 Qk Qh retQ Qt LO.wp Q4 Calls
set_option linter.unusedSimpArgs false
set_option linter.unusedVariables false
variable {cx:Cx}{w:World}{L:List Res}{m:Module}{inp:List Int}
theorem PR.tot {c:MC}{fr:List FrmV}{g:FrmV}{N:Nat}{h:HpS}{inp1 out back:List Int}{most:Nat}{r:Run}{n:Int}(hP:PR m most c fr g N h inp1 out back r) (hT:r.Tt n):Tot n h:=by
 cases r with
 | on ms=>
   obtain ⟨h1, -⟩:=hP
   have e:ms.h=h:=by rw [h1];rfl
   have hT:Tot n ms.h:=hT
   rw [e] at hT;exact hT
 | over ms e b=> obtain ⟨h1, -⟩:=hP;rw [h1];exact hT
 | stuck f=> exact hP.elim
theorem live16 {s:EstS}(h:s.Ok):s.count≤16:=by
 have h1:=h.len
 have h2:=count_le (rs:=s.rs)
 unfold EstS.count;omega
attribute [local irreducible] PR QR RA Run.all Run.oc Run.step Q1E Run.Tt
theorem QaU {cs:List Value}{v:Value}{fuel pages:Int}(hx:modR.at cx cs m) (hi:intR.sl cx v inp) (hS:St cx w L):Rets Tryz.prog Q5p [.agg ⟨cs⟩,v, .int .i64 fuel, .int .i64 pages] w fun u w'=> u= .bool true∧St cx w' L:=by
 have hx':=hx
 obtain ⟨vf,rfl,hf⟩:=Q1e hx
 all_goals refine lgo tyD Tryz.func12 ?_
 all_goals (refine Zat ?_;intro p4 w1 hS;refine ZaF ?_;refine Zaa ?_;refine zR0 (c:=QbW hS) (h:=?_);rintro v1 w1 ⟨rfl,hS⟩;refine Zbm ?_)
 all_goals
  first
  | (refine zct ?_
     all_goals (refine Zas ?_)
     all_goals (exact ⟨_,rfl,rfl,hS.sp⟩))
  | (refine zcf ?_
     all_goals refine zsk ?_)
 all_goals (refine Zbs ?_;refine zv hS ?_;refine zm ?_)
 all_goals (refine zR2 (c:=long_c hx' hS) (h:=?_);rintro v1 w1 ⟨b,rfl,hb,hS⟩;cases b)
 all_goals (refine zn ?_)
 all_goals
  first
  | (refine zct ?_
     all_goals (refine Zas ?_)
     all_goals (exact ⟨_,rfl,rfl,hS.sp⟩))
  | (refine zcf ?_
     all_goals refine zsk ?_)
 all_goals (refine Zaa ?_;refine zv hS ?_;refine ZaT ?_;refine zm ?_)
 all_goals (obtain ⟨hfew,hfu⟩:=hb rfl;refine zR4 (c:=tnew_c (Q7O hfew) hx' hi hS) (h:=?_);rintro v1 w1 hN;rcases hN.split with ⟨hz,rfl,hS⟩|⟨hs0,hR,hil,hf0,hf1,n,rfl,hq,c2,t,p,q,hp,fn,lv,i1,ep,fn2,lv2,i2,rfl,hle2,hfn,hin,hfn2,hin2,hS⟩)
 all_goals (unfold fltV;dsimp only;refine ZbI ?_;intro p10 w1 hS;refine zm ?_;refine zsn hS ?_;intro w1 hS;have hS:=hS.ns;refine Zbu ?_;refine zf0 ?_;refine zl hS ?_)
 all_goals (refine Yar ?_)
 all_goals (refine zn ?_)
 all_goals
  first
  | (refine zct ?_
     all_goals (refine Zas ?_)
     all_goals (exact ⟨_,rfl,rfl,hS.sp⟩))
  | (refine zcf ?_
     all_goals refine zsk ?_)
 all_goals (refine Zar ?_)
 refine zo [3,9] (fun A ρ' w'=>∃(r:Run) (c:MC) (fr:List FrmV) (g:FrmV) (N:Nat) (h:HpS) (inp1 out back:List Int) (cy:RC) (fr2:List RFV) (g2:RFV) (s:EstS) (inp2:List Int),Has ρ' A∧Has ρ' []∧(r.Tt n)∧(PR m fuel.toNat c fr g N h inp1 out back r)∧(QR m fuel.toNat cy fr2 g2 s inp2 out back r)∧(funcR.sl c2 c.fn m.funcs)∧(intR.sl c2 c.iv inp1)∧(funcR.sl c2 cy.fn m.funcs)∧(intR.sl c2 cy.iv inp2)∧St c2 w' (tX t p q c fr g N h out back cy fr2 g2 s (blk p10 29 [.int .i64 0, .int .i64 0]::L))) (fun _ w'=> msrW w' p) ?_ ?_
 · exact ⟨.on (MS.start inp n),newC hp fn lv i1 fuel,[],newG,0,⟨[],n⟩,inp,[],[],Qcs ep fn2 lv2 i2 fuel,[],Qcr,EstS.mk0 n,inp,zh,zh,tt_start (by omega),PR.first (Q1i hR) hf0,QR.first hR (Q7O hfew) hf0 hq,hfn,hin,hfn2,hin2,hS.sp⟩
 rintro ρ w1 ⟨r,c,fr,g,N,h,inp1,out,back,cy,fr2,g2,s,inp2,hA,hρ,hT,hP,hQ,hfn1,hin1,hfny,hiny,hS⟩;obtain ⟨ρ,rfl⟩:=env2 hA hρ;have hm0:=Qdo (c:=c) (L:=L) (show St c2 _ (blk p 55 c.cells::L) from hS.sp)
 all_goals (refine Zak ?_;refine znc ?_;refine zf0 ?_;refine zl hS ?_)
 all_goals (refine zR1 (c:=QdF (c:=c) (show St c2 _ (blk p 55 c.cells::_) from hS.sp)) (h:=?_);rintro v1 w1 ⟨rfl,hS⟩;cases hdn:c.dn)
 all_goals (refine Zbm ?_)
 all_goals
  first
  | (refine zct ?_
     all_goals (refine zsk ?_;refine Q3v ?_;refine Zac ?_;obtain ⟨ms,rfl,hkm⟩:=hP.on hdn;have hT':=tt_step (m:=m) (most:=fuel.toNat) hT;refine zR1 (c:=QeI hP hQ hdn hR (Q7O hfew) (by omega) hfn1 hin1 hfny hiny (show St c2 _ (tX t p q c fr g N h out back cy fr2 g2 s _) from hS.sp)) (h:=?_);rintro v1 w1 ⟨rfl,c',fr',g',N',h',inp',out',back',cy',fr2',g2',s',inp2',hP',hQ',hfn',hin',hfny',hiny',hlt,hS⟩;unfold fltV;refine Zal ?_;have hto:=PR.tot hP' hT';have hl0:=hto.left;have hl1:=hto.le;have hcc:=(QP.same hP' hQ').2.2.2.2.2.2.1;have h16:=live16 (Q8G (e:=cy'.ep) (s:=s') hS fd).1;refine Zbt ?_;refine zf0 ?_;refine zl hS ?_;refine znc ?_;refine zf0 ?_;refine zl hS ?_;refine zR1 (c:=Q7C (N:=N') (s:=h') (h:=c'.hp) hS fd) (h:=?_);rintro v1 w1 ⟨rfl,hS⟩)
     all_goals (refine Yau ?_)
     all_goals (refine Zam ?_;refine Zbv ?_;refine Zbv ?_;(first|(refine zgn ?_)|(refine zgy ?_;refine zR1 (c:=Q7C (N:=N') (s:=h') (h:=c'.hp) hS fd) (h:=?_);rintro v1 w1 ⟨rfl,hS⟩));refine Yaa ?_)
     all_goals (refine Yao ?_)
     all_goals (refine Zbr ?_;refine Zbv ?_;refine Zbv ?_;(first|(refine zgn ?_)|(refine zgy ?_;refine zR1 (c:=Qam (N:=N') (s:=h') (h:=c'.hp) hS fd) (h:=?_);rintro v1 w1 ⟨rfl,hS⟩)))
     all_goals (refine Yav ?_)
     all_goals (refine Zbr ?_;refine Zbv ?_;refine Zbv ?_;(first|(refine zgn ?_)|(refine zgy ?_;refine zR1 (c:=Qam (N:=N') (s:=h') (h:=c'.hp) hS fd) (h:=?_);rintro v1 w1 ⟨rfl,hS⟩)))
     all_goals (refine Yao ?_)
     all_goals (refine ZaO ?_)
     all_goals
      first
      | (refine zct ?_
         all_goals (refine Zas ?_)
         all_goals (exact ⟨_,rfl,rfl,hS.sp⟩))
      | (refine zcf ?_
         all_goals refine zsk ?_)
     all_goals (exact ⟨⟨Run.step m fuel.toNat (.on ms),c',fr',g',N',h',inp',out',back',cy',fr2',g2',s',inp2',zh,zh,hT',hP',hQ',(by rw [hfn'];exact hfn1),hin',(by rw [hfny'];exact hfny),hiny',hS.sp⟩,(by rw [Qdo (c:=c') (L:=L) (show St c2 _ (blk p 55 c'.cells::L) from hS.sp),hm0];exact hlt)⟩))
  | (refine zcf ?_
     all_goals (refine zex ?_;refine ZaR ?_;refine zf0 ?_;refine zl hS ?_;obtain ⟨-, -, -, -, -, -, -,hol,hbl,hnl⟩:=QP.same hP hQ;refine zR1 (c:=Q87 (c:=c) (back:=back) (out:=out) (i:=0) (j:=1) (L:=sl 2 1 c.bv (back.map Qj)::sl 2 1 c.ov (out.map Qj)::_) (by omega) (by omega) rfl rfl hS.sp) (h:=?_);rintro v1 w1 ⟨k1,u1,u2,hk1,rfl,z1,z2,hS⟩;refine Q7W rfl rfl ?_)
     all_goals (first|(refine Q1D ?_)|(refine Q1M ?_)|(refine QI rfl rfl (fun hc=> ?_) (fun hc=> ?_)))
     all_goals (refine Zam ?_;refine Zbv ?_;refine Zbv ?_;(first|(refine zgn ?_)|(refine zgy ?_;have hfi:=(PR.tot hP hT).none (hnl (by omega) hdn);refine zR1 (c:=Q7C (N:=N) (s:=h) (h:=c.hp) hS fd) (h:=?_);rintro v1 w1 ⟨rfl,hS⟩;rw [hfi.1]));refine Yaa ?_;refine Yaz ?_;refine Yaa ?_;refine Yaa ?_;refine ZaV ?_)
     all_goals (refine Yac ?_;refine Zbv ?_;(first|(refine zgn ?_)|(refine zgy ?_;refine zR1 (c:=Qam (N:=N) (s:=h) (h:=c.hp) hS fd) (h:=?_);rintro v1 w1 ⟨rfl,hS⟩;rw [hfi.2]));refine Yaz ?_;(first|refine zgn ?_|(refine zgy ?_;refine zpt ?_));refine Yae ?_;refine Zap ?_)
     all_goals ((first|exact ⟨_,rfl,rfl,hS.sp⟩|exact ⟨_,rfl,rfl,St.weak hS.sp (hle2.trans hk1)⟩)))
end Go.Proofs.YteflkifmgnpbhaaGreat
namespace Go.Proofs.YteflkifmgnpbhaaGreat
open Go.Lir
def cLongs:Cod.Of Tryz.prog 25 intR.list:=Cod.Of.list cLong (by kernel_rfl) (by kernel_rfl) (by kernel_rfl)
theorem twinLeaves_rd {c:Array Value}{x:Module}{v:Value}{inp:List Int}{w:World}(h1:cMod.cod.rd w.heap c.toList x) (h2:cLongs.cod.rd w.heap [v] inp) (a b:Int):Rets Tryz.prog Q5p [.agg c,v, .int .i64 a, .int .i64 b] w fun v w'=> v= .bool true∧Fr NF w w':=by
 obtain ⟨v',hv,hin⟩:=cLongs.top h2
 cases hv
 exact (QaU (cMod.top h1) hin (St.top w)).mono fun _ _ ⟨h,h2⟩=> ⟨h,h2.fr⟩
end Go.Proofs.YteflkifmgnpbhaaGreat
