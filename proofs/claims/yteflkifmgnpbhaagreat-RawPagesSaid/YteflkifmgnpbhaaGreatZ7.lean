/- Lemmas of the proof, part 7: what the functions of the program do (contracts), and what follows. -/
import Derived.Test.YteflkifmgnpbhaaGreatZ2
import Derived.Test.YteflkifmgnpbhaaGreatZ6
import Derived.Test.YteflkifmgnpbhaaGreatZ4
import Derived.Test.YteflkifmgnpbhaaGreatZ5
namespace Go.Lir
theorem intsV_y {l:List Val}(h:∀x∈l,x.kind=1):intsV l=some (l.map Val.n):=by
 induction l with
 | nil=> rfl
 | cons v l ih=> rw [ints_y (h v (by simp)),ih fun x hx=> h x (by simp [hx])];rfl
theorem intsV_n {l:List Val}(h:¬∀x∈l,x.kind=1):intsV l=none:=by
 induction l with
 | nil=> exact absurd (by simp) h
 | cons v l ih=>
   by_cases hk:v.kind=1
   · rw [ints_y hk,ih fun h2=> h fun x hx=> by rcases List.mem_cons.1 hx with rfl|hx;(exact hk);exact h2 x hx];rfl
   · exact ints_n hk
end Go.Lir
namespace Go.Proofs.YteflkifmgnpbhaaGreat
open Go.Lir
set_option maxHeartbeats 1000000
attribute [local irreducible] LC.wp Q0 Qh Qc retQ Qw LO.wp Q3 Calls
set_option linter.unusedSimpArgs false
set_option linter.unusedVariables false
variable {cx:Cx}{w:World}{L:List Res}{p N:Nat}{z:GZ}{fr:List FrmV}{g:FrmV}{h:HpS}{out inp:List Int}{fu:Nat}{m:Module}
theorem GQ.drop {X:Stp}{u:Value}{r:Res}(hG:GQ p z N fu h out X cx (r::L) u w):GQ p z N fu h out X cx L u w:=by
 rcases hG with ⟨fv,iv,ov,fr',g',N',h',inp',out',h1,h2,h3,h4,hS⟩|⟨e,fr',g',N',h1,h2,h3,hS⟩|⟨l,bv,fr',g',N',h1,h2,h3,h4,hS⟩|⟨h1,h2,lv,left,hS⟩
 · exact .inl ⟨fv,iv,ov,fr',g',N',h',inp',out',h1,h2,h3,h4,hS.sp⟩
 · exact .inr (.inl ⟨e,fr',g',N',h1,h2,h3,hS.sp⟩)
 · exact .inr (.inr (.inl ⟨l,bv,fr',g',N',h1,h2,h3,h4,hS.sp⟩))
 · exact .inr (.inr (.inr ⟨h1,h2,lv,left,hS.sp⟩))
theorem big_k1 {k:FrmV}(hS:St cx w (big FrmV.res1 (fr++[k])::L)):St cx w (sl 182 4 k.vv (k.vals.map Val.cells)::sl 3 1 k.rv (Qk k.regs)::big FrmV.res1 fr::L):=by
 have h1:=hS.bigOut (i:=0) (k:=fr.length) (x:=k) rfl (by simp)
 have h2:(fr++[k]).eraseIdx fr.length=fr:=by rw [List.eraseIdx_append_of_length_le (Nat.le_refl _)];simp
 rw [List.set_cons_zero,h2] at h1
 exact St.star h1
@[reducible] def eBlk (b:Nat) (e:Tail) (v1 v2 v3 v4 v5:Value):Res:=blk b 90 [.int .i64 e.op, .int .i64 e.a, .int .i64 e.yes.block,v1,v2, .int .i64 e.no.block,v3,v4,v5]
attribute [local irreducible] Frm.val Frm.num Frm.args Frm.rgs Frm.reg intsV MS.to MS.ret GQ
theorem GQ.lost' {X:Stp}{L':List Res}{h2:HpS}{N2:Nat}{out2:List Int}(hX:X= .lost) (hS:St cx w (gX p z fr g N2 h2 out2 L')) (hsub:∀lv left,St cx w (gBlk z p lv left::L')→St cx w (gBlk z p lv left::L)):GQ p z N fu h out X cx L (.int .i64 2) w:=GQ.lost hX hS hsub
theorem gret_c {f:Fun}{e:Tail}{cs:List Value}(hx:endR.at cx cs e) (hfn:funcR.sl cx z.fn m.funcs) (hi:intR.sl cx z.iv inp) (hfx:m.funcs[g.f]?=some f) (h8:e.args.length≤100) (hop:e.op=3) (hf:fr.length≤900) (hn:∀x∈fr,x.vals.length≤900000) (hS:St cx w (gX p z fr g N h out L)):
 Rets Tryz.prog Q8x [.pointer (some ⟨p,0,none⟩), .agg ⟨cs⟩] w (GQ p z N fu h out ((msOf h g fr inp out fu).ret f e) cx L):=by
 obtain ⟨v1,v2,v3,v4,v5,rfl,k1,k2,k3,k4,k5⟩:=Q22 hx
 have hfl:=hfn.len
 have hgf:=(List.getElem?_eq_some_iff.1 hfx).1
 all_goals refine lgo tyD Tryz.func75 ?_
 all_goals (refine Zaq ?_;intro p3 w1 hS;refine ZbD ?_;refine zf0 ?_;refine zl hS ?_;refine ZbJ ?_;refine Qv ?_;have hS:St cx _ (gX p z fr g N h out (eBlk p3 e v1 v2 v3 v4 v5::L)):=hS.sp;refine Q1d ?_)
 all_goals (refine Yao ?_)
 all_goals (refine Zad ?_)
 all_goals refine zcf ?_
 all_goals (refine Zaa ?_)
 all_goals (refine Yao ?_)
 all_goals (refine Zad ?_)
 all_goals refine zcf ?_
 all_goals (refine zsk ?_;refine Zab ?_;refine zf0 ?_;refine zl hS ?_)
 all_goals (refine zR2 (c:=Qgi (by omega) (by omega) k5 (show St cx _ (gX p z fr g N h out _) from hS)) (h:=?_);rintro u1 w1 (⟨vs,sw,hvs,hvl,ho2,rfl,hS⟩|⟨hvs,rfl,hS⟩))
 all_goals (refine Zbc ?_;refine ZbE ?_;obtain ⟨lv,rv,ho,hS⟩:=Q1T hS;refine zC [(0,none),(1,none),(2,none),(3,none),(4,none),(5,none),(6,none),(7,none),(8,none),(9,none),(10,none),(11,some (some [9])),(12,none),(13,none),(14,none),(15,none),(16,none),(17,none),(18,none),(19,none),(20,some none)] ?_;have hS:=hS.drew;refine ZaC ?_;refine znt ?_;refine Zax ?_;refine ZbQ ?_;refine Yan ?_;refine Zac ?_;refine ZbQ ?_;refine ZbR ?_;refine ZbS ?_;refine ZbS ?_;refine Yad ?_)
 all_goals (refine Zac ?_;refine Yaa ?_;refine Zal ?_;(first|(refine zgn ?_)|(refine zgy ?_;refine zR1 (c:=Q3s (by omega) (show St cx _ (gL p z lv h.left fr g _) from hS)) (h:=?_);rintro v9 w1 ⟨b9,o9,rfl,hel,hS⟩));refine ZaS ?_;refine ZbR ?_;refine Yag ?_;refine Zac ?_;(first|(refine zgn ?_)|(refine zgy ?_;refine Qs hS hel rfl fd (Qg fr g) (Qo fr g) rfl ?_));refine Zac ?_;(first|(refine zgn ?_)|(refine zgy ?_;refine zi ?_;intro b8 o8 cs8 x8 hat8 hx8 he8;obtain rfl:f=x8:=Option.some.inj (hfx.symm.trans hx8);obtain ⟨vp8,vr8,vb8,rfl,hp8,hr8,hb8⟩:=QM he8));refine Zac ?_;refine Yag ?_;refine Zac ?_;refine Yav ?_;refine Zac ?_;refine Yaj ?_)
 all_goals (refine Zac ?_)
 all_goals (first|refine zgn ?_|(refine zgy ?_;(first|(refine Q11 ?_)|(refine Q18 ?_)|(refine Qu rfl rfl (fun hc=> ?_) (fun hc=> ?_)))))
 all_goals (refine Zay ?_;refine Yae ?_;refine Zav ?_)
 all_goals
  first
  | (refine zct ?_
     all_goals (refine Qv ?_;have hG:GQ p z N fu h out ((msOf h g fr inp out fu).ret f e) cx L (.int .i64 2) _:=GQ.lost' (out2:=out) (h2:=h) (N2:=N) (fr:=fr) (g:=g) (L':=L) (by first|exact ret_l hvs|exact ret_n hvs (by omega)) (QB ho hS.sp) fun _ _ hS=> hS;refine ZaX ?_)
     all_goals (exact ⟨_,rfl,hG⟩))
  | (refine zcf ?_
     all_goals refine zsk ?_)
 all_goals (refine Zah ?_;refine znc ?_;refine zf0 ?_;refine zl hS ?_;refine QO hS vw fd (Qg fr g) ?_)
 all_goals (first|(refine Q1e ?_)|(refine Q1s ?_)|(refine Qx rfl rfl (fun hc=> ?_) (fun hc=> ?_)))
 all_goals (refine zn ?_)
 all_goals
  first
  | (refine zct ?_
     all_goals (obtain ⟨fr0,k,rfl⟩:∃fr0 k,fr=fr0++[k]:=(by rcases List.eq_nil_or_concat fr with rfl|⟨fr0,k,hk⟩;exact absurd hc (by simp);exact ⟨fr0,k,by simpa using hk⟩);have hl1:(fr0++[k]).length=fr0.length+1:=(by simp);have hst:(msOf h g (fr0++[k]) inp out fu).st=k.abs::(fr0.map FrmV.abs).reverse:=(by unfold msOf;simp);have hkn:=hn k (by simp))
     all_goals (refine Qv ?_;refine zD (ci 15 [14]) ?_;have hS:=hS.drew;refine Zbg ?_;refine znc ?_;refine zf0 ?_;refine zl hS ?_;refine Zbm ?_;refine zf0 ?_;refine zl hS ?_;refine QO (n:=fr0.length+2) hS vw fd (by rw [Qg];omega) ?_;refine zsu ?_;rw [show ((fr0.length+2:Nat):Int) - 1=(((fr0++[k]).length:Nat):Int) by omega];refine s_subE (l':=0) (h':=(fr0++[k]).length) hS vw fd rfl ⟨_,rfl⟩ rfl (by rw [Qg];omega) (by omega) ?_;intro v7 hS;rw [rows_cut] at hS;have hS:=hS.ns;have ho7:=hS.oneC (v:=v7) fd;refine znc ?_;refine zf0 ?_;refine zst hS ?_;intro w1 hS;have hS:=hS.ns;refine ZaF ?_;have hS:=big_k1 (fr:=fr0) (k:=k) (L:=gBlk (z.upd v7 z.iv z.ov) p lv h.left::sl 119 5 v7 (Q2d fr0 k)::sl 182 4 sw (vs.map Val.cells)::sl 131 4 lv (rv.map RgnV.cells)::big (RgnV.res H1) rv::sl 2 1 z.ov (Qk out)::L) hS.sp;have hS:St cx _ (gX p (z.upd v7 z.iv z.ov) fr0 k N h out (sl 182 4 sw (vs.map Val.cells)::L)):=QB ho hS.sp)
     all_goals (refine ZaI ?_;have hS:St cx _ (sl 182 4 sw (vs.map Val.cells)::gX p (z.upd v7 z.iv z.ov) fr0 k N h out L):=hS.sp;refine zR2 (c:=gP_c (by omega) (by omega) hS) (h:=?_);rintro u1 w1 ⟨rfl,tv,hS⟩;have hG:GQ p z N fu h out ((msOf h g (fr0++[k]) inp out fu).ret f e) cx L (.int .i64 0) _:=(by unfold GQ;exact .inl ⟨v7,z.iv,z.ov,fr0,k.push tv vs,N,h,inp,out,ret_k hvs (by omega) hst,hi,Nat.le_succ N,rfl,hS⟩);refine Zai ?_)
     all_goals (exact ⟨_,rfl,hG⟩))
  | (refine zcf ?_
     all_goals (obtain rfl:fr=[]:=List.length_eq_zero_iff.1 (by omega))
     all_goals refine zsk ?_)
 all_goals (refine Zab ?_;refine zf0 ?_;refine zl hS ?_)
 all_goals (refine zR2 (c:=gNs_c (by omega) (by simp) k5 (show St cx _ (gX p z [] g N h out _) from QB ho hS.sp)) (h:=?_);rintro u1 w1 (⟨vs2,sn,b9,hvs2,hvl2,ho3,hb9,rfl,hS⟩|⟨hvs2,rfl,hS⟩);rotate_left;rw [hvs] at hvs2;cases hvs2;rw [hvs] at hvs2;cases hvs2;cases b9)
 all_goals (refine ZbF ?_)
 all_goals
  first
  | (refine zct ?_
     all_goals (refine Qv ?_)
     all_goals (have hG:GQ p z N fu h out ((msOf h g [] inp out fu).ret f e) cx L (.int .i64 2) _:=GQ.lost' (ret_b hvs (by omega) rfl (intsV_n fun hh=> absurd (hb9.2 hh) (by decide))) hS fun _ _ hS=> hS.sp)
     all_goals (refine ZaX ?_)
     all_goals (exact ⟨_,rfl,hG⟩))
  | (refine zcf ?_
     all_goals refine zsk ?_)
 all_goals (refine Qv ?_;obtain ⟨lv,rv,ho,hS⟩:=Q1T hS;refine ZaI ?_;refine znc ?_;refine zf0 ?_;refine Yac ?_;refine zst hS ?_;intro w1 hS;have hS:=hS.ns;refine ZaF ?_;have hS:St cx _ (gX p (z.bk sn) [] g N h out (sl 2 1 sn (Qk (vs.map Val.n))::L)):=QB (z:=z.bk sn) ho hS.sp;refine Zag ?_;refine zR2 (c:=gE_c 0 hS) (h:=?_);rintro u1 w1 ⟨rfl,hS⟩;have hG:GQ p z N fu h out ((msOf h g [] inp out fu).ret f e) cx L (.int .i64 1) _:=(by unfold GQ;exact .inr (.inr (.inl ⟨vs.map Val.n,sn,[],g,N,ret_d hvs (by omega) rfl (intsV_y (hb9.1 rfl)),Nat.le_succ N,by rw [List.length_map];omega,rfl,hS⟩)));refine Zai ?_;exact ⟨_,rfl,hG⟩)
end Go.Proofs.YteflkifmgnpbhaaGreat
namespace Go.Proofs.YteflkifmgnpbhaaGreat
open Go.Lir
set_option maxHeartbeats 1000000
attribute [local irreducible] LC.wp Q0 Qh Qc retQ Qw LO.wp Q3 Calls
set_option linter.unusedSimpArgs false
set_option linter.unusedVariables false
variable {cx:Cx}{w:World}{L:List Res}{p N:Nat}{z:GZ}{fr:List FrmV}{g:FrmV}{h:HpS}{out inp:List Int}{fu:Nat}{m:Module}
attribute [local irreducible] Frm.val Frm.num Frm.args Frm.rgs Frm.reg intsV MS.to MS.ret GQ
theorem gend_c {f:Fun}{e:Tail}{cs:List Value}(hx:endR.at cx cs e) (hfn:funcR.sl cx z.fn m.funcs) (hi:intR.sl cx z.iv inp) (hfx:m.funcs[g.f]?=some f) (he:Qed f e) (hf:fr.length≤900) (hn:∀x∈fr,x.vals.length≤900000) (hS:St cx w (gX p z fr g N h out L)):
 Rets Tryz.prog Q8x [.pointer (some ⟨p,0,none⟩), .agg ⟨cs⟩] w (GQ p z N fu h out ((msOf h g fr inp out fu).fin f e) cx L):=by
 obtain ⟨h8,hop,hy,hno⟩:=he
 rcases (show e.op=1∨e.op=2∨e.op=3 by omega) with h1|h1|h1
 · have hX:(msOf h g fr inp out fu).fin f e=(msOf h g fr inp out fu).to f e.yes:=if_pos h1
   obtain ⟨⟨y1,y2⟩,y3,y4⟩:=hy (by omega)
   rw [hX]
   obtain ⟨v1,v2,v3,v4,v5,rfl,k1,k2,k3,k4,k5⟩:=Q22 hx
   all_goals refine lgo tyD Tryz.func75 ?_
   all_goals (refine Zaq ?_;intro p3 w1 hS;refine ZbD ?_;refine zf0 ?_;refine zl hS ?_;refine ZbJ ?_;refine Qv ?_;have hS:St cx _ (gX p z fr g N h out (eBlk p3 e v1 v2 v3 v4 v5::L)):=hS.sp;refine Q1d ?_)
   all_goals (refine Qi ?_)
   all_goals (refine Zad ?_)
   all_goals refine zct ?_
   all_goals (refine Zab ?_;refine zf0 ?_;refine zv hS ?_;refine zR2 (c:=gto_c (t:=e.yes) (inp:=inp) (fu:=fu) ⟨_,_,rfl,k1,k2⟩ hfn hi hfx y1 y2 y3 y4 (by omega) hS) (h:=?_);intro u1 w1 hG;refine Zai ?_;exact ⟨_,rfl,hG.drop⟩)
 · have hX:(msOf h g fr inp out fu).fin f e=Q16 (g.abs.num e.a) fun n=> if n≠0 then (msOf h g fr inp out fu).to f e.yes else (msOf h g fr inp out fu).to f e.no:=(if_neg (by omega)).trans (if_pos h1)
   obtain ⟨⟨y1,y2⟩,y3,y4⟩:=hy (by omega)
   obtain ⟨⟨n1,n2⟩,n3,n4⟩:=hno h1
   rw [hX]
   obtain ⟨v1,v2,v3,v4,v5,rfl,k1,k2,k3,k4,k5⟩:=Q22 hx
   all_goals refine lgo tyD Tryz.func75 ?_
   all_goals (refine Zaq ?_;intro p3 w1 hS;refine ZbD ?_;refine zf0 ?_;refine zl hS ?_;refine ZbJ ?_;refine Qv ?_;have hS:St cx _ (gX p z fr g N h out (eBlk p3 e v1 v2 v3 v4 v5::L)):=hS.sp;refine Q1d ?_)
   all_goals (refine Yao ?_)
   all_goals (refine Zad ?_)
   all_goals refine zcf ?_
   all_goals (refine Zaa ?_)
   all_goals (refine Qi ?_)
   all_goals (refine Zad ?_)
   all_goals refine zct ?_
   all_goals (refine Zab ?_;refine zf0 ?_;refine zl hS ?_;refine zB1 hS [_] ?_;intro b1 w1 hS)
   all_goals (have hS:St cx _ (sl 3 1 (.slice (some ⟨b1,0,none⟩) 1 1) (Qk [e.a])::gX p z fr g N h out (eBlk p3 e v1 v2 v3 v4 v5::L)):=(by have hS:=St.slOf (T:=3) (es:=1) (css:=Qk [e.a]) hS rfl (by simp [Qk]) rfl;exact hS.sp);refine zR2 (c:=gN_c (by omega) hS) (h:=?_);rintro u1 w1 (⟨n0,sn,hn0,ho2,rfl,hS⟩|⟨hn0,sn,rfl,hS⟩))
   all_goals (refine ZbF ?_)
   all_goals
    first
    | (refine zct ?_
       all_goals (refine Qv ?_;have hG:GQ p z N fu h out (Q16 (g.abs.num e.a) fun n=> if n≠0 then (msOf h g fr inp out fu).to f e.yes else (msOf h g fr inp out fu).to f e.no) cx L (.int .i64 2) _:=GQ.lost' (Q1D hn0) hS fun _ _ hS=> hS.sp;refine ZaX ?_)
       all_goals (exact ⟨_,rfl,hG⟩))
    | (refine zcf ?_
       all_goals refine zsk ?_)
   all_goals (refine Zah ?_;rw [Qb hn0];refine QJ hS vw rfl fd (by simp) (by simp) ?_;intro b2 o2 hel2;refine Qs hS hel2 rfl fd rfl rfl rfl ?_)
   all_goals (first|(refine Qi ?_)|(refine Qm ?_)|(refine Q5 rfl rfl (fun hc=> ?_) (fun hc=> ?_)))
   all_goals (refine zn ?_)
   all_goals
    first
    | (refine zct ?_
       all_goals (refine Qv ?_;rw [if_neg (show¬n0≠0 by omega)];refine Zag ?_;refine zf0 ?_;refine zv hS ?_;refine zR2 (c:=gto_c (t:=e.no) (inp:=inp) (fu:=fu) ⟨_,_,rfl,k3,k4⟩ hfn hi hfx n1 n2 n3 n4 (by omega) (show St cx _ (gX p z fr g N h out (eBlk p3 e v1 v2 v3 v4 v5::L)) from hS.sp)) (h:=?_);intro u1 w1 hG;have hG:=hG.drop;refine Zai ?_)
       all_goals (exact ⟨_,rfl,hG⟩))
    | (refine zcf ?_
       all_goals refine zsk ?_)
   all_goals (refine Qv ?_;rw [if_pos (show n0≠0 by omega)];refine Zag ?_;refine zf0 ?_;refine zv hS ?_;refine zR2 (c:=gto_c (t:=e.yes) (inp:=inp) (fu:=fu) ⟨_,_,rfl,k1,k2⟩ hfn hi hfx y1 y2 y3 y4 (by omega) (show St cx _ (gX p z fr g N h out (eBlk p3 e v1 v2 v3 v4 v5::L)) from hS.sp)) (h:=?_);intro u1 w1 hG;have hG:=hG.drop;refine Zai ?_;exact ⟨_,rfl,hG⟩)
 · have hX:(msOf h g fr inp out fu).fin f e=(msOf h g fr inp out fu).ret f e:=(if_neg (by omega)).trans (if_neg (by omega))
   rw [hX]
   exact gret_c hx hfn hi hfx h8 h1 hf hn hS
end Go.Proofs.YteflkifmgnpbhaaGreat
namespace Go.Proofs.YteflkifmgnpbhaaGreat
open Go.Lir
set_option maxHeartbeats 1000000
attribute [local irreducible] LC.wp Q0 Qh Qc retQ Qw LO.wp Q3 Calls
set_option linter.unusedSimpArgs false
set_option linter.unusedVariables false
variable {cx:Cx}{w:World}{L:List Res}{p N:Nat}{z:GZ}{fr:List FrmV}{g:FrmV}{h:HpS}{out inp:List Int}{fu:Nat}{m:Module}
@[reducible] def GZ.tick (z:GZ):GZ:=⟨z.fn,z.fv,z.iv,z.e,z.bv,z.ov,z.fu+1,z.mo,z.dn,z.c,z.a⟩
@[reducible] def GZ.stk (z:GZ) (c a:Int):GZ:=⟨z.fn,z.fv,z.iv,z.e,z.bv,z.ov,z.fu,z.mo,z.dn,c,a⟩
def GSt (p:Nat) (z:GZ) (N fu most:Nat) (h:HpS) (out:List Int) (X:Stp) (at_:Int) (fr:List FrmV) (g:FrmV) (cx:Cx) (L:List Res) (u:Value) (w':World):Prop:=
 (fu=most∧u=fltV (0,0)∧St cx w' (gX p (z.end 7) fr g N h out L))
 ∨(fu≠most∧u=fltV (0,0)∧∃k,k≠2∧GQ p z.tick N (fu+1) h out X cx L (.int .i64 k) w')
 ∨(fu≠most∧X= .lost∧u=fltV (20,at_)∧∃lv left,St cx w' (gBlk (z.tick.stk 20 at_) p lv left::L))
attribute [local irreducible] Frm.val Frm.num Frm.args Frm.rgs Frm.reg intsV MS.ins MS.fin MS.one MS.place
theorem gstep_c {f:Fun}{b:Block}{most:Nat}(hfn:funcR.sl cx z.fn m.funcs) (hi:intR.sl cx z.iv inp) (hfx:m.funcs[g.f]?=some f) (hbx:f.blocks[g.b]?=some b) (hci:∀x∈b.code,Qec m x) (hce:Qed f b.fin) (hgi:g.i≤1000) (kf:g.f≤1000000) (kb:g.b≤1000000) (hf:fr.length≤900) (hn:g.vals.length≤800000) (hrn:g.regs.length≤800000) (hfr:∀x∈fr,x.vals.length≤900000) (hN:N≤99999) (hol:out.length≤2000) (hrg:∀v∈g.vals,inI v.n) (hdn:z.dn=false) (hc0:z.c=0) (ha0:z.a=0) (hfu:z.fu=fu) (hmo:z.mo=most) (hfm:fu≤1000000) (hS:St cx w (gX p z fr g N h out L)):
 Rets Tryz.prog Q6V [.pointer (some ⟨p,0,none⟩)] w (GSt p z N fu most h out ((msOf h g fr inp out (fu+1)).one m) ((msOf h g fr inp out fu).place m) fr g cx L):=by
 have hgf:=(List.getElem?_eq_some_iff.1 hfx).1
 have hgb:=(List.getElem?_eq_some_iff.1 hbx).1
 all_goals refine lgo tyD Tryz.func24 ?_
 all_goals (refine Zbv ?_;intro p2 w1 hS;refine ZaF ?_;refine Qv ?_;obtain ⟨lv,rv,ho,hS⟩:=Q1T (p:=p) (fr:=fr) (g:=g) (N:=N) (h:=h) (out:=out) (L:=blk p2 29 [.int .i64 0, .int .i64 0]::L) hS.sp;refine Zby ?_;refine zf0 ?_;refine zl hS ?_;rw [hdn];refine Zak ?_;refine Zbh ?_;refine Yag ?_;refine Yad ?_)
 all_goals (refine Yar ?_)
 all_goals (refine ZaL ?_)
 all_goals refine zcf ?_
 all_goals (refine zsk ?_;refine Zbo ?_;refine zD (ci 10 [9]) ?_;have hS:=hS.drew;refine Zbm ?_;refine zf0 ?_;refine Yac ?_;refine zl hS ?_;refine Zbm ?_;refine zf0 ?_;refine zl hS ?_)
 all_goals (first|(refine Qi ?_)|(refine Qm ?_)|(refine Q5 rfl rfl (fun hc=> ?_) (fun hc=> ?_)))
 all_goals (refine zn ?_)
 all_goals
  first
  | (refine zct ?_
     all_goals (refine Zab ?_;have hS:St cx _ (gX p z fr g N h out (blk p2 29 [.int .i64 0, .int .i64 0]::L)):=QB ho hS.sp;refine zR2 (c:=gE_c 7 hS) (h:=?_);rintro v1 w1 ⟨rfl,hS⟩;refine ZaE ?_;refine zb0 [_,_] ?_;refine zsn hS ?_;intro w1 hS;have hS:=hS.ns;refine Zbb ?_;refine Q25 vw (Qa (n:=2) (by kernel_rfl) (by kernel_rfl) (hS.blkAt fd) (by rfl) (by rfl)) ?_)
     all_goals (exact ⟨_,rfl, .inl ⟨by omega,rfl,hS.sp⟩⟩))
  | (refine zcf ?_
     all_goals refine zsk ?_)
 all_goals (refine ZbG ?_;refine zf0 ?_;refine Yac ?_;refine zl hS ?_;refine zad ?_;refine znc ?_;refine zf0 ?_;refine Yac ?_;refine zst hS ?_;intro w1 hS;have hS:=hS.ns;refine ZaH ?_;refine zR1 (c:=Q3s (z:=z.tick) (by omega) (show St cx _ (gL p z.tick lv h.left fr g _) from hS.sp)) (h:=?_);rintro v1 w1 ⟨b9,o9,rfl,hel,hS⟩;refine Zaz ?_;refine zC [(0,none),(1,none),(2,none),(3,none),(4,none),(5,none),(6,none),(7,none),(8,none),(9,none),(10,none),(11,none),(12,none),(13,none),(14,none),(15,none),(16,none),(17,none),(18,some (some [4,8,11,15,17])),(19,some none)] ?_;have hS:=hS.drew;refine Zbu ?_;refine zf0 ?_;refine Zac ?_;refine zf0 ?_;refine Zac ?_;refine zl hS ?_)
 all_goals (refine Zax ?_;refine ZbI ?_;refine Qs hS hel rfl fd (Qg fr g) (Qo fr g) rfl ?_;refine Zac ?_;refine zi ?_;intro b8 o8 cs8 x8 hat8 hx8 he8;obtain rfl:f=x8:=Option.some.inj (hfx.symm.trans hx8);obtain ⟨vp8,vr8,vb8,rfl,hp8,hr8,hb8⟩:=QM he8;refine Zbj ?_;refine Yaw ?_;refine Zax ?_;refine ZbI ?_;refine Q1 (j:=1) hS hel rfl fd (Qg fr g) (Qo fr g) rfl ?_;refine Zac ?_;refine zi ?_;intro b7 o7 cs7 x7 hat7 hx7 he7;obtain rfl:b=x7:=Option.some.inj (hbx.symm.trans hx7);obtain ⟨vp7,vc7,u1,u2,u3,u4,u5,rfl,hp7,hc7,hu1,hu2,hu3,hu4,hu5⟩:=Q23 he7;refine Zac ?_;refine Yai ?_;refine ZaY ?_;intro p4 w1 hS;refine zt ?_;refine ⟨List.forall_mem_cons.2 ⟨(by first|(first|exact Qp (j:=0) hS hel rfl fd (Qg fr g) (Qo fr g) rfl|exact Qp (j:=1) hS hel rfl fd (Qg fr g) (Qo fr g) rfl)|(exact QK hS rfl fd rfl)),List.forall_mem_cons.2 ⟨(by (exact Qp (j:=0) hS hel rfl fd (Qg fr g) (Qo fr g) rfl)),List.forall_mem_cons.2 ⟨(by first|(first|exact Qp (j:=0) hS hel rfl fd (Qg fr g) (Qo fr g) rfl|exact Qp (j:=1) hS hel rfl fd (Qg fr g) (Qo fr g) rfl)|(exact QK hS rfl fd rfl)|(exact Q4A hS (by assumption) rfl rfl)|(exact Q4O hS (by assumption) rfl rfl)),List.forall_mem_cons.2 ⟨(by (first|exact Qp (j:=0) hS hel rfl fd (Qg fr g) (Qo fr g) rfl|exact Qp (j:=1) hS hel rfl fd (Qg fr g) (Qo fr g) rfl)),List.forall_mem_cons.2 ⟨(by first|(first|exact Qp (j:=0) hS hel rfl fd (Qg fr g) (Qo fr g) rfl|exact Qp (j:=1) hS hel rfl fd (Qg fr g) (Qo fr g) rfl)|(exact Q1Y hS rfl fd rfl rfl)|(exact Q2B hS (by assumption) rfl rfl rfl)),fun _ h=> (List.not_mem_nil h).elim⟩⟩⟩⟩⟩,?_⟩)
 all_goals (refine s_cf ?_;refine zsn hS ?_;intro w1 hS;have hS:=hS.ns;refine Zav ?_;refine Qv ?_;refine zD (ci 10 [8,9]) ?_;have hS:=hS.drew;refine Zbd ?_;refine Qs hS hel rfl fd (Qg fr g) (Qo fr g) rfl ?_;refine Zbd ?_;refine Q1 (j:=1) hS hel rfl fd (Qg fr g) (Qo fr g) rfl ?_;refine zR2 (c:=rEndAt_c g.f g.b kf kb hS) (h:=?_);rintro v1 w1 ⟨rfl,hS⟩;refine Zad ?_;refine Zaf ?_;refine Zbo ?_;refine zD (ci 8 [7]) ?_;have hS:=hS.drew;refine Zbd ?_;refine Q1 (j:=2) hS hel rfl fd (Qg fr g) (Qo fr g) rfl ?_;refine zf0 ?_;refine zl hS ?_;refine zL ?_)
 all_goals (first|(refine Q1k ?_)|(refine Q1w ?_)|(refine QA rfl rfl (fun hc=> ?_) (fun hc=> ?_)))
 all_goals (refine zn ?_)
 all_goals
  first
  | (refine zct ?_
     all_goals (refine Qv ?_;refine zD (ci 14 [12,13]) ?_;have hS:=hS.drew;refine Zbd ?_;refine Qs hS hel rfl fd (Qg fr g) (Qo fr g) rfl ?_;refine Zbd ?_;refine Q1 (j:=1) hS hel rfl fd (Qg fr g) (Qo fr g) rfl ?_;refine Zbd ?_;refine Q1 (j:=2) hS hel rfl fd (Qg fr g) (Qo fr g) rfl ?_;refine zR3 (c:=rInsAt_c g.f g.b g.i kf kb (by omega) hS) (h:=?_);rintro v1 w1 ⟨rfl,hS⟩;refine Zad ?_;refine zD (ci 11 [9,10]) ?_;have hS:=hS.drew;refine zm ?_;refine zf0 ?_;refine zl hS ?_;refine Zbd ?_;refine Q1 (j:=2) hS hel rfl fd (Qg fr g) (Qo fr g) rfl ?_;refine zi ?_;intro b6 o6 cs6 x6 hat6 hx6 he6;obtain ⟨vr6,va6,rfl,hr6,ha6⟩:=Q1a he6;refine Yai ?_)
     all_goals (have hX:=one_i (s:=msOf h g fr inp out (fu+1)) hfx hbx hx6;have hP:=place_i (s:=msOf h g fr inp out fu) hfx hbx (List.getElem?_eq_some_iff.1 hx6).1;obtain ⟨i1,i2,i3,i4⟩:=hci x6 (List.mem_of_getElem? hx6);refine zR2 (c:=gins_c (z:=z.tick) (inp:=inp) (fu:=fu+1) (m:=m) he6 hfn hi i1 i2 i3 i4 hgi hf hn hrn hN hol hrg (show St cx _ (gX p z.tick fr g N h out _) from QB ho hS.sp)) (h:=?_);intro u9 w1 hG;rw [show MS.ins m (msOf h g.nx fr inp out (fu+1)) x6=(msOf h g fr inp out (fu+1)).one m from hX.symm] at hG;rcases hG with ⟨fv,iv,ov,fr',g',N',h',inp',out',h1,h2,h3,rfl,hS⟩|⟨e,fr',g',N',h1,h2,rfl,hS⟩|⟨l,bv,fr',g',N',h1,h2,h3,rfl,hS⟩|⟨h1,rfl,lv9,left9,hS⟩)
     all_goals (refine zm ?_)
     all_goals refine zn ?_)
  | (refine zcf ?_
     all_goals (refine Zag ?_;refine zf0 ?_;refine zv hS ?_)
     all_goals (have hX:=one_e (s:=msOf h g fr inp out (fu+1)) hfx hbx (by show b.code.length≤g.i;omega);have hP:=place_e (s:=msOf h g fr inp out fu) hfx hbx (by show¬g.i < b.code.length;omega);refine zR2 (c:=gend_c (z:=z.tick) (e:=b.fin) (inp:=inp) (fu:=fu+1) (m:=m) ⟨_,_,_,_,_,rfl,hu1,hu2,hu3,hu4,hu5⟩ hfn hi hfx hce hf hfr (show St cx _ (gX p z.tick fr g N h out _) from QB ho hS.sp)) (h:=?_);intro u9 w1 hG;rw [←hX] at hG;rcases hG with ⟨fv,iv,ov,fr',g',N',h',inp',out',h1,h2,h3,rfl,hS⟩|⟨e,fr',g',N',h1,h2,rfl,hS⟩|⟨l,bv,fr',g',N',h1,h2,h3,rfl,hS⟩|⟨h1,rfl,lv9,left9,hS⟩)
     all_goals (refine zm ?_)
     all_goals refine zn ?_)
 all_goals (refine Zbo ?_;(first|(obtain ⟨lv2,rv2,ho2,hS⟩:=Q1T hS)|skip);refine Zag ?_)
 all_goals (refine Yao ?_)
 all_goals (refine zn ?_)
 all_goals
  first
  | (refine zct ?_
     all_goals (refine ZaI ?_;refine zR2 (c:=rF_c hS) (h:=?_);rintro v1 w1 ⟨rfl,hS⟩;refine znc ?_;refine zf0 ?_;(first|(refine zsn hS ?_;intro w1 hS;have hS:=hS.ns)|(refine zsm hS ?_;intro w1 hS;have hS:=hS.ns)))
     all_goals refine zn ?_)
  | (refine zcf ?_
     all_goals refine zsk ?_)
 all_goals (refine ZbG ?_;refine zf0 ?_;refine zv hS ?_;refine zsn hS ?_;intro w1 hS;have hS:=hS.ns;refine Zbb ?_;refine Q25 vw (Qa (n:=2) (by kernel_rfl) (by kernel_rfl) (hS.blkAt fd) (by rfl) (by rfl)) ?_;(first|(first|exact ⟨_,rfl, .inl ⟨by omega,rfl,hS.sp⟩⟩|exact ⟨_,rfl, .inr (.inl ⟨by omega,by show Value.agg ⟨[.int .i64 z.c, .int .i64 z.a]⟩=_;rw [hc0,ha0];rfl,0,by decide, .inl ⟨fv,iv,ov,fr',g',N',h',inp',out',h1,h2,h3,rfl,QB ho2 hS.sp⟩⟩)⟩|exact ⟨_,rfl, .inr (.inl ⟨by omega,by show Value.agg ⟨[.int .i64 z.c, .int .i64 z.a]⟩=_;rw [hc0,ha0];rfl,1,by decide, .inr (.inl ⟨e,fr',g',N',h1,h2,rfl,QB ho2 hS.sp⟩)⟩)⟩|exact ⟨_,rfl, .inr (.inl ⟨by omega,by show Value.agg ⟨[.int .i64 z.c, .int .i64 z.a]⟩=_;rw [hc0,ha0];rfl,1,by decide, .inr (.inr (.inl ⟨l,bv,fr',g',N',h1,h2,h3,rfl,QB ho2 hS.sp⟩))⟩)⟩)|(rw [hP];exact ⟨_,rfl, .inr (.inr ⟨by omega,h1,rfl,lv9,left9,hS.sp⟩)⟩)))
end Go.Proofs.YteflkifmgnpbhaaGreat
namespace Go.Lir
set_option linter.unusedVariables false
def VR (l:List Val):Prop:=∀v∈l,inI v.n
def TR (t:Thg):Prop:=t.l.length≤1000∧VR t.l
def RR (r:Rgn):Prop:=∀t∈r.l,TR t
def HR (h:HpS):Prop:=∀r∈h.l,RR r
structure Rg (s:MS):Prop where
 g:VR s.g.vals
 st:∀x∈s.st,VR x.vals
 h:HR s.h
 inp:∀n∈s.inp,inI n
theorem in0:inI 0:=by unfold inI;omega
theorem in_nat {n:Nat}(h:n≤1000):inI n:=by unfold inI;omega
theorem VR.nil:VR []:=fun v hv=> by cases hv
theorem VR.one {v:Val}(h:inI v.n):VR [v]:=fun u hu=> by rw [List.mem_singleton.1 hu];exact h
theorem VR.app {a b:List Val}(ha:VR a) (hb:VR b):VR (a++b):=fun v hv=> (List.mem_append.1 hv).elim (ha v) (hb v)
theorem RR.none:RR Rgn.none:=fun t ht=> by cases ht
theorem TR.dflt:TR ⟨false,[]⟩:=⟨Nat.zero_le _,VR.nil⟩
theorem val_in {g:Frm}{k:Int}{v:Val}(hg:VR g.vals) (h:g.val k=some v):inI v.n:=by
 unfold Frm.val at h
 split at h
 · cases h
 · exact hg v (List.mem_of_getElem? h)
theorem num_in {g:Frm}{k n:Int}(hg:VR g.vals) (h:g.num k=some n):inI n:=by
 obtain ⟨v,hv,rfl⟩:=QbU h;exact hg v hv
theorem Q8v {g:Frm}(hg:VR g.vals):∀{l:List Int}{vs:List Val},g.args l=some vs→VR vs
 | [],vs,h=> by rw [Frm.args] at h;cases h;exact VR.nil
 | k ::l,vs,h=> by
   rw [Frm.args] at h
   cases hv:g.val k with
   | none=> rw [hv] at h;cases h
   | some v=>
     rw [hv] at h
     cases hl:g.args l with
     | none=> rw [hl] at h;cases h
     | some us=>
       rw [hl] at h
       cases h
       intro u hu
       rcases List.mem_cons.1 hu with rfl|hu
       · exact val_in hg hv
       · exact Q8v hg hl u hu
theorem Q9U {α:Type}{P:α→Prop}{l:List α}{k:Nat}{d:α}(h:∀x∈l,P x) (hd:P d):P (l.getD k d):=by
 rw [List.getD_eq_getElem?_getD]
 cases hk:l[k]? with
 | none=> exact hd
 | some x=> exact h x (List.mem_of_getElem? hk)
theorem HR.reg {h:HpS}(hh:HR h) (k:Int):RR (h.reg k):=by
 unfold HpS.reg
 split
 · exact Q9U (P:=RR) hh RR.none
 · exact RR.none
theorem HR.thg {h:HpS}(hh:HR h) (k t:Nat):TR (h.thg k t):=Q9U (P:=TR) (hh.reg k) TR.dflt
theorem HR.upd {l:List Rgn}{k:Nat}{r:Rgn}{a b:Int}(hh:HR ⟨l,a⟩) (hr:RR r):HR ⟨l.set k r,b⟩:=fun q hq=> by
 rcases mem_set_or hq with rfl|hq
 · exact hr
 · exact hh q hq
theorem HR.open {h:HpS}(hh:HR h):HR h.open:=by
 unfold HpS.open
 split
 · exact hh
 · intro r hr
   rcases List.mem_append.1 hr with hr|hr
   · exact hh r hr
   · rw [List.mem_singleton.1 hr];exact RR.none
theorem openV_in {h:HpS}:inI h.openV.n:=by
 unfold HpS.openV;split <;> exact in0
theorem HR.shut {h:HpS}(hh:HR h) (v:Val):HR (h.shut v):=by
 unfold HpS.shut
 split
 · exact HR.upd (a:=h.left) hh RR.none
 · exact hh
theorem HR.put {h:HpS}(hh:HR h) (v:Val) (n:Int){t:Thg}(ht:TR t):HR (h.put v n t):=by
 unfold HpS.put
 split
 · refine HR.upd (a:=h.left) hh fun u hu=> ?_
   have hl:(((h.reg v.region).room n).push t).l=(h.reg v.region).l++[t]:=by unfold Rgn.room;split <;> rfl
   rw [hl] at hu
   rcases List.mem_append.1 hu with hu|hu
   · exact hh.reg _ u hu
   · rw [List.mem_singleton.1 hu];exact ht
 · exact hh
theorem Qfy {h:HpS}{v:Val}{k n:Int}:inI (h.putV v k n).n:=by
 unfold HpS.putV;split <;> exact in0
theorem HR.arr {h:HpS}(hh:HR h) (v:Val) (n:Int):HR (h.arr v n):=by
 unfold HpS.arr
 split
 · exact hh
 · refine hh.put v _ ⟨?_,fun u hu=> ?_⟩
   · show (List.replicate _ _).length≤1000;rw [List.length_replicate];omega
   · rw [List.eq_of_mem_replicate hu];exact in0
theorem arrV_in {h:HpS}{v:Val}{n:Int}:inI (h.arrV v n).n:=by
 unfold HpS.arrV;split
 · exact in0
 · exact Qfy
theorem get_in {h:HpS}(hh:HR h) (v:Val) (k:Int):inI (h.get v k).1.n:=by
 unfold HpS.get
 split
 · exact in0
 · split
   · exact Q9U (P:=fun v:Val=> inI v.n) (hh.thg _ _).2 in0
   · exact in0
theorem len_in {h:HpS}(hh:HR h) (v:Val):inI (h.len v).1:=by
 unfold HpS.len
 split
 · exact in0
 · exact in_nat (hh.thg _ _).1
theorem HR.set {h:HpS}(hh:HR h) (v:Val) (k:Int){x:Val}(hx:inI x.n):HR (h.set v k x):=by
 unfold HpS.set
 split
 · exact hh
 · rename_i r t _
   split
   · refine HR.upd (a:=h.left) hh fun u hu=> ?_
     rcases mem_set_or hu with rfl|hu
     · refine ⟨by show ((h.thg r t).l.set _ _).length≤_;rw [List.length_set];exact (hh.thg r t).1,fun y hy=> ?_⟩
       rcases mem_set_or hy with rfl|hy
       · exact hx
       · exact (hh.thg r t).2 y hy
     · exact hh.reg _ u hu
   · exact hh
section
variable {m:Module}{s:MS}
theorem Rg.put (h:Rg s){vs:List Val}(hv:VR vs):Rg (s.put vs):=⟨h.g.app hv,h.st,h.h,h.inp⟩
theorem Rg.hp (h:Rg s){q:HpS}(hq:HR q):Rg (s.hp q):=⟨h.g,h.st,hq,h.inp⟩
theorem Rg.made (h:Rg s){e:Int}{q:HpS}{v:Val}(hq:HR q) (hv:inI v.n):(s.made e q v).All Rg:=by
 unfold MS.made
 exact Stp.all_if (fun _=> trivial) fun _=> Stp.all_if (fun _=> trivial) fun _=> (h.hp hq).put (.one hv)
theorem Rg.ins (h:Rg s){x:Ins}(hx:QE m.funcs.length x=0) (hn:inI x.n):(s.ins m x).All Rg:=by
 obtain ⟨q1,q2⟩:=Q5s hx
 have h1:∀(v:Val),inI v.n→(Stp.go (s.put [v])).All Rg:=fun v hv=> h.put (.one hv)
 have h2:∀(q:HpS),HR q→(Stp.go (s.hp q)).All Rg:=fun q hq=> h.hp hq
 unfold MS.ins
 refine Stp.all_if (fun _=> h1 _ hn) fun _=> Stp.all_if (fun _=> Stp.all_bind fun a _=> Stp.all_bind fun b _=> Stp.all_if (fun _=> trivial) fun _=> h1 _ (opF_in _ _ _)) fun _=> Stp.all_if (fun _=> ?_) fun _=>
  Stp.all_if (fun _=> Stp.all_bind fun v _=> Stp.all_if (fun _=> trivial) fun _=> h2 _ (h.h.shut v)) fun _=> Stp.all_if (fun _=> Stp.all_bind fun v _=> Stp.all_bind fun l hl=> h.made (h.h.put v _ ⟨by have:=Q4a hl;show l.length≤_;omega,Q8v h.g hl⟩) Qfy) fun _=>
  Stp.all_if (fun _=> Stp.all_bind fun v _=> Stp.all_if (fun _=> trivial) fun _=> Stp.all_if (fun _=> trivial) fun _=> h1 _ (get_in h.h _ _)) fun _=>
  Stp.all_if (fun _=> Stp.all_bind fun v _=> Stp.all_if (fun _=> trivial) fun _=> Stp.all_bind fun y hy=> Stp.all_if (fun _=> trivial) fun _=> h2 _ (h.h.set _ _ (val_in h.g hy))) fun _=>
  Stp.all_if (fun _=> Stp.all_bind fun v _=> Stp.all_bind fun n _=> Stp.all_if (fun _=> trivial) fun _=> h.made (h.h.arr _ _) arrV_in) fun _=>
  Stp.all_if (fun _=> Stp.all_bind fun v _=> Stp.all_bind fun n _=> Q4W (h1 _ (get_in h.h _ _))) fun _=>
  Stp.all_if (fun _=> Stp.all_bind fun v _=> Stp.all_bind fun n _=> Stp.all_bind fun c hc=> Q4W (h2 _ (h.h.set _ _ (num_in h.g hc)))) fun _=>
  Stp.all_if (fun _=> Stp.all_bind fun v _=> Q4W (h1 _ (len_in h.h _))) fun _=> Stp.all_if (fun _=> ?_) fun _=> Stp.all_if (fun _=> Stp.all_bind fun n _=> ?_) fun _=> ?_
 · unfold MS.newR
   exact Stp.all_if (fun _=> trivial) fun _=> ⟨h.g.app (.one openV_in),h.st,h.h.open,h.inp⟩
 · unfold MS.inS
   cases hi:s.inp with
   | nil=> exact trivial
   | cons n r=> exact ⟨h.g.app (.one (h.inp n (by rw [hi];simp))),h.st,h.h,fun q hq=> h.inp q (by rw [hi];exact List.mem_cons_of_mem _ hq)⟩
 · unfold MS.outS
   exact Stp.all_if (fun _=> trivial) fun _=> ⟨h.g,h.st,h.h,h.inp⟩
 · unfold MS.call
   split
   · exact trivial
   · refine Stp.all_bind fun rs _=> Stp.all_bind fun vs hv=> Stp.all_if (fun _=> trivial) fun _=> Stp.all_if (fun _=> trivial) fun _=> ?_
     refine ⟨Q8v h.g hv,fun y hy=> ?_,h.h,h.inp⟩
     rcases List.mem_cons.1 hy with rfl|hy
     · exact h.g
     · exact h.st y hy
theorem Rg.to (h:Rg s){f:Fun}{t:To}:(s.to f t).All Rg:=by
 unfold MS.to
 split
 · exact trivial
 · exact Stp.all_bind fun rs _=> Stp.all_bind fun vs hv=> Stp.all_if (fun _=> trivial) fun _=> ⟨Q8v h.g hv,h.st,h.h,h.inp⟩
theorem Rg.fin (h:Rg s){f:Fun}{e:Tail}{n:Nat}(he:Q1M n e=0):(s.fin f e).All Rg:=by
 unfold MS.fin
 refine Stp.all_if (fun _=> h.to) fun _=> Stp.all_if (fun _=> Stp.all_bind fun n _=> Stp.all_if (fun _=> h.to) fun _=> h.to) fun _=> ?_
 unfold MS.ret
 refine Stp.all_bind fun vs hv=> Stp.all_if (fun _=> trivial) fun _=> ?_
 cases hs:s.st with
 | cons c st=> exact Rg.put (s:=⟨s.h,c,st,s.inp,s.out,s.fuel⟩) ⟨h.st c (by rw [hs];simp),fun x hx=> h.st x (by rw [hs];exact List.mem_cons_of_mem _ hx),h.h,h.inp⟩ (Q8v h.g hv)
 | nil=>
   dsimp only
   cases hi:intsV vs with
   | none=> exact trivial
   | some ns=> show ns.length≤8;rw [Q85 hi,Q4a hv];exact Q9V he
theorem Rg.one {k:Nat}(h:Rg s) (hB:Bnd m k s) (hM:m.fault.1=0) (hR:m.InR):(s.one m).All Rg:=by
 obtain ⟨f,b,hf,hb,hi,hv,hr⟩:=hB.cur
 obtain ⟨-,q1,q2⟩:=Q1F hM hf hb
 unfold MS.one
 rw [hf];dsimp only;rw [hb];dsimp only
 cases hx:b.code[s.g.i]? with
 | none=> exact h.fin q2
 | some x=>
   have hxm:=List.mem_of_getElem? hx
   have hxr:=((hR f (List.mem_of_getElem? hf)).2.2.2 b (List.mem_of_getElem? hb)).2.2.1 x hxm
   exact Rg.ins (s:=s.next) ⟨h.g,h.st,h.h,h.inp⟩ (q1 x hxm) hxr.1.2.2.2.2.2
theorem Rg.start {inp:List Int}{pages:Int}(hi:∀n∈inp,inI n):Rg (MS.start inp pages):=⟨VR.nil,fun x hx=> (by cases hx),fun r hr=> (by cases hr),hi⟩
end
end Go.Lir
namespace Go.Proofs.YteflkifmgnpbhaaGreat
open Go.Lir
set_option maxHeartbeats 1000000
attribute [local irreducible] LC.wp Q0 Qh Qc retQ Qw LO.wp Q3 Calls
set_option linter.unusedSimpArgs false
set_option linter.unusedVariables false
variable {cx:Cx}{w:World}{L:List Res}{p N:Nat}{z:GZ}{fr:List FrmV}{g:FrmV}{h:HpS}{out inp:List Int}{fu:Nat}{m:Module}
@[reducible] def newZ (fn fv iv:Value) (fuel:Int):GZ:=⟨fn,fv,iv,0, .slice none 0 0, .slice none 0 0,0,fuel,false,0,0⟩
theorem gstart_c {vf v:Value}{fuel pages:Int}(hp:0≤pages∧pages≤1000) (hi:intR.sl cx v inp) (hS:St cx w L):Rets Tryz.prog R_Starts [.agg ⟨[vf]⟩,v, .int .i64 fuel, .int .i64 pages] w fun u w'=>
 ∃p fv,u= .pointer (some ⟨p,0,none⟩)∧St cx w' (gX p (newZ vf fv v fuel) [] newG 0 ⟨[],pages⟩ [] L):=by
 obtain ⟨av,nv,hv⟩:=hi.shape
 subst hv
 all_goals refine lgo tyD Tryz.func22 ?_
 all_goals (refine Zaq ?_;intro p4 w1 hS;refine ZbO ?_;refine zv hS ?_;refine zm ?_;refine zb1 [_,_] ?_;refine zb0 [_,_,_,_,_] ?_;refine zB1 hS [_,_,_,_,_] ?_;intro b1 w1 hS;refine Zbg ?_;refine zb5 [_,_,_,_,_,_,_,_,_,_,_,_,_] ?_;refine zb hS ?_;intro p17 w1 hS;refine Zai ?_;have hS:=St.slOf (T:=119) (es:=5) (css:=Q2d [] newG) (hS.out (r:=blk b1 119 [.int .i64 0, .int .i64 0, .int .i64 0, .slice none 0 0, .slice none 0 0]) fd) rfl (by simp [Q2d,FrmV.cells]) rfl;simp only [List.eraseIdx_cons_zero,List.eraseIdx_cons_succ] at hS;have hS:=St.big_nil FrmV.res1 (St.big_nil (RgnV.res H1) hS);have hS:=hS.nil (T:=182) (es:=4);have hS:=hS.nil (T:=3) (es:=1);have hS:=hS.nil (T:=2) (es:=1);have hS:=hS.nil (T:=131) (es:=4);exact ⟨_,rfl,p17,_,rfl,QB (z:=newZ vf (.slice (some ⟨b1,0,none⟩) 1 1) (.slice av inp.length nv) fuel) (lv:= .slice none 0 0) (rv:=[]) ⟨rfl,HpS.ok_new hp⟩ hS.sp⟩)
end Go.Proofs.YteflkifmgnpbhaaGreat
namespace Go.Proofs.YteflkifmgnpbhaaGreat
open Go.Lir
set_option maxHeartbeats 1000000
attribute [local irreducible] LC.wp Q0 Qh Qc retQ Qw LO.wp Q3 Calls
set_option linter.unusedSimpArgs false
set_option linter.unusedVariables false
variable {cx:Cx}{w:World}{L:List Res}{p N:Nat}{c:MC}{z:GZ}{fr:List FrmV}{g:FrmV}{h:HpS}{out inp back:List Int}{m:Module}
def PR (m:Module) (most:Nat) (c:MC) (fr:List FrmV) (g:FrmV) (N:Nat) (h:HpS) (inp out back:List Int):Run→Prop
 | .on s=> s=msOf h g fr inp out s.fuel∧back=[]∧c.dn=false∧c.c=0∧c.e=0∧c.fu=s.fuel∧s.fuel≤most∧c.mo=most∧N≤s.fuel∧Bnd m s.fuel s
 | .over s e b=> h=s.h∧out=s.out∧back=b∧c.dn=true∧c.e=e∧c.fu=s.fuel∧out.length≤2000∧back.length≤100000
 | .stuck _=> False
def DR (m:Module) (most:Nat) (z:GZ) (fr:List FrmV) (g:FrmV) (N:Nat) (h:HpS) (inp out back:List Int):Run→Prop
 | .on s=> s=msOf h g fr inp out s.fuel∧back=[]∧z.dn=false∧(z.c=0∧z.a=0)∧z.e=0∧z.fu=s.fuel∧s.fuel≤most∧z.mo=most∧N≤s.fuel∧Bnd m s.fuel s∧Rg s
 | .over s e b=> h=s.h∧out=s.out∧back=b∧z.dn=true∧(z.c=0∧z.a=0)∧z.e=e∧z.fu=s.fuel∧N≤most+1∧out.length≤2000∧back.length≤100000
 | .stuck _=> False
theorem oneB {s:MS}(hB:Bnd m s.fuel s) (hM:m.fault.1=0):(s.tick.one m).All (Bnd m (s.fuel+1)):=Bnd.one (s:=s.tick) (k:=s.fuel) ⟨hB.cur,hB.st,hB.sl,hB.out⟩ hM
theorem oneR {s:MS}(hR:Rg s) (hB:Bnd m s.fuel s) (hM:m.fault.1=0) (hIn:m.InR):(s.tick.one m).All Rg:=Rg.one (s:=s.tick) (k:=s.fuel) ⟨hR.g,hR.st,hR.h,hR.inp⟩ ⟨hB.cur,hB.st,hB.sl,hB.out⟩ hM hIn
theorem PR.step {most:Nat}{s:MS}{u:Value}(hP:PR m most c fr g N h inp out back (.on s)) (hM:m.fault.1=0) (hi:intR.sl cx c.iv inp) (hs:StepS m p c fr g N h inp out (s.fuel+1) cx (sl 2 1 c.bv []::L) u w):
 (∀f,Run.step m most (.on s)≠ .stuck f)∧(u=fltV (0,0)∧∃c' fr' g' N' h' inp' out' back',PR m most c' fr' g' N' h' inp' out' back' (Run.step m most (.on s))∧c'.fn=c.fn∧intR.sl cx c'.iv inp'∧msr c' < msr c∧St cx w (mS p c' fr' g' N' h' out' (sl 2 1 c'.bv (Qk back')::L)))∨
 ∃(f:Int) (c':MC),Run.step m most (.on s)= .stuck (20,f)∧u=fltV (20,f)∧c'.c=20∧c'.a=f∧St cx w (blk p 55 c'.cells::L):=by
 obtain ⟨hms, -,hdn,hc0,he0,hfu,hkm,hmo,hN,hB⟩:=hP
 generalize hk:s.fuel=k at*
 subst hms
 rcases hs with ⟨h7,rfl,hS⟩|⟨hlt,hs⟩
 · have hst:Run.step m most (.on (msOf h g fr inp out k))= .over (msOf h g fr inp out k) 7 []:=if_pos (show k=most by omega)
   rw [hst]
   refine .inl ⟨fun f hf=> (by cases hf),rfl,c.over 7,fr,g,N,h,inp,out,[],⟨rfl,rfl,rfl,rfl,rfl,hfu,hB.out,Nat.zero_le _⟩,rfl,hi,?_,hS⟩
   unfold msr;rw [hdn];show 2*(c.mo - c.fu).toNat+0 < 2*(c.mo - c.fu).toNat+1;omega
 · have hst:Run.step m most (.on (msOf h g fr inp out k))= .of m (msOf h g fr inp out k) ((msOf h g fr inp out (k+1)).one m):=if_neg (show¬k=most by omega)
   have hB1:((msOf h g fr inp out (k+1)).one m).All (Bnd m (k+1)):=oneB (s:=msOf h g fr inp out k) hB hM
   have hmm:2*(c.mo - (c.fu+1)).toNat+1 < 2*(c.mo - c.fu).toNat+1:=by omega
   have hmz:2*(c.mo - (c.fu+1)).toNat+0 < 2*(c.mo - c.fu).toNat+1:=by omega
   rcases hs with ⟨rfl,hG⟩|⟨e,hX,rfl,fr',g',N',hN',hS⟩|⟨hX,rfl,hS⟩
   · rcases hG with ⟨lv,iv,ov,fr',g',N',h',inp',out',hX,hi',hN', -,hS⟩|⟨ns,bv,fr',g',hX, -,hS⟩
     · rw [hX] at hst hB1
       rw [hst]
       refine .inl ⟨fun f hf=> (by cases hf),rfl,c.tick.upd lv iv ov,fr',g',N',h',inp',out',[],⟨rfl,rfl,hdn,hc0,he0,?_,?_,hmo,?_,hB1⟩,rfl,hi',?_,hS⟩
       · show c.fu+1=((k+1:Nat):Int);omega
       · show k+1≤most;omega
       · show N'≤k+1;omega
       · unfold msr;rw [hdn];exact hmm
     · rw [hX] at hst hB1
       rw [hst]
       refine .inl ⟨fun f hf=> (by cases hf),rfl,⟨c.hp,c.fn,c.lv,c.iv,c.e,bv,c.ov,c.fu+1,c.mo,true,c.c,c.a⟩,fr',g',N,h,inp,out,ns,⟨rfl,rfl,rfl,rfl,he0,?_,hB.out,?_⟩,rfl,hi,?_,(hS.subP (by (repeat constructor);first|done|fail))⟩
       · show c.fu+1=((k+1:Nat):Int);omega
       · have h8:ns.length≤8:=hB1;omega
       · unfold msr;rw [hdn];exact hmz
   · rw [hX] at hst
     rw [hst]
     refine .inl ⟨fun f hf=> (by cases hf),rfl,c.tick.over e,fr',g',N',h,inp,out,[],⟨rfl,rfl,rfl,rfl,rfl,?_,hB.out,Nat.zero_le _⟩,rfl,hi,?_,hS⟩
     · show c.fu+1=((k+1:Nat):Int);omega
     · unfold msr;rw [hdn];exact hmz
   · rw [hX] at hst
     rw [hst]
     exact .inr ⟨_,c.tick.stk ((msOf h g fr inp out (k+1)).place m),rfl,rfl,rfl,rfl,(hS.subP (by (repeat constructor);first|done|fail))⟩
theorem DR.step {most:Nat}{s:MS}{u:Value}(hP:DR m most z fr g N h inp out back (.on s)) (hM:m.fault.1=0) (hIn:m.InR) (hi:intR.sl cx z.iv inp) (hs:GSt p z N s.fuel most h out ((msOf h g fr inp out (s.fuel+1)).one m) ((msOf h g fr inp out s.fuel).place m) fr g cx (sl 2 1 z.bv []::L) u w):
 (u=fltV (0,0)∧∃z' fr' g' N' h' inp' out' back',DR m most z' fr' g' N' h' inp' out' back' (Run.step m most (.on s))∧z'.fn=z.fn∧intR.sl cx z'.iv inp'∧St cx w (gX p z' fr' g' N' h' out' (sl 2 1 z'.bv (Qk back')::L)))∨
 ∃(f:Int) (z':GZ) (lv:Value) (left:Int),Run.step m most (.on s)= .stuck (20,f)∧u=fltV (20,f)∧z'.c=20∧z'.a=f∧z'.dn=false∧St cx w (gBlk z' p lv left::L):=by
 obtain ⟨hms, -,hdn,⟨hc0,ha0⟩,he0,hfu,hkm,hmo,hN,hB,hR⟩:=hP
 generalize hk:s.fuel=k at*
 subst hms
 have hst:k≠most→Run.step m most (.on (msOf h g fr inp out k))= .of m (msOf h g fr inp out k) ((msOf h g fr inp out (k+1)).one m):=fun hne=> if_neg (show¬k=most from hne)
 have hB1:((msOf h g fr inp out (k+1)).one m).All (Bnd m (k+1)):=oneB (s:=msOf h g fr inp out k) hB hM
 have hR1:((msOf h g fr inp out (k+1)).one m).All Rg:=oneR (s:=msOf h g fr inp out k) hR hB hM hIn
 rcases hs with ⟨h7,rfl,hS⟩|⟨hlt,rfl,q,hq,hG⟩|⟨hlt,hX,rfl,lv,left,hS⟩
 · have hs7:Run.step m most (.on (msOf h g fr inp out k))= .over (msOf h g fr inp out k) 7 []:=if_pos (show k=most by omega)
   rw [hs7]
   exact .inl ⟨rfl,z.end 7,fr,g,N,h,inp,out,[],⟨rfl,rfl,rfl,rfl,⟨hc0,ha0⟩,rfl,hfu,(by omega),hB.out,Nat.zero_le _⟩,rfl,hi,hS⟩
 · have hst:=hst hlt
   rcases hG with ⟨fv,iv,ov,fr',g',N',h',inp',out',hX,hi',hN', -,hS⟩|⟨e,fr',g',N',hX,hN', -,hS⟩|⟨l,bv,fr',g',N',hX,hN',hl, -,hS⟩|⟨-,hu, -⟩
   · rw [hX] at hst hB1 hR1
     rw [hst]
     refine .inl ⟨rfl,z.tick.upd fv iv ov,fr',g',N',h',inp',out',[],⟨rfl,rfl,hdn,⟨hc0,ha0⟩,he0,?_,?_,hmo,?_,hB1,hR1⟩,rfl,hi',hS⟩
     · show z.fu+1=((k+1:Nat):Int);omega
     · show k+1≤most;omega
     · show N'≤k+1;omega
   · rw [hX] at hst
     rw [hst]
     refine .inl ⟨rfl,z.tick.end e,fr',g',N',h,inp,out,[],⟨rfl,rfl,rfl,rfl,⟨hc0,ha0⟩,rfl,?_,(by omega),hB.out,Nat.zero_le _⟩,rfl,hi,hS⟩
     show z.fu+1=((k+1:Nat):Int);omega
   · rw [hX] at hst
     rw [hst]
     refine .inl ⟨rfl,(z.tick.bk bv).end 0,fr',g',N',h,inp,out,l,⟨rfl,rfl,rfl,rfl,⟨hc0,ha0⟩,rfl,?_,(by omega),hB.out,hl⟩,rfl,hi,(hS.subP (by (repeat constructor);first|done|fail))⟩
     show z.fu+1=((k+1:Nat):Int);omega
   · cases hu;exact absurd rfl hq
 · have hst:=hst hlt
   rw [hX] at hst
   rw [hst]
   exact .inr ⟨_,z.tick.stk 20 ((msOf h g fr inp out k).place m),lv,left,rfl,rfl,rfl,rfl,hdn,(hS.subP (by (repeat constructor);first|done|fail))⟩
end Go.Proofs.YteflkifmgnpbhaaGreat
namespace Go.Proofs.YteflkifmgnpbhaaGreat
open Go.Lir
set_option maxHeartbeats 1000000
attribute [local irreducible] LC.wp Q0 Qh Qc retQ Qw LO.wp Q3 Calls
set_option linter.unusedSimpArgs false
set_option linter.unusedVariables false
variable {cx:Cx}{w:World}{L:List Res}{p N:Nat}{c:MC}{z:GZ}{fr:List FrmV}{g:FrmV}{h:HpS}{out inp back:List Int}{m:Module}
theorem bnd_all {k most:Nat}(hB:Bnd m k (msOf h g fr inp out k)) (hM:m.fault.1=0) (hk:k≤most) (hm:most≤20000):∃f b,m.funcs[g.f]?=some f∧f.blocks[g.b]?=some b∧(∀x∈b.code,Qec m x)∧Qed f b.fin∧g.i≤1000∧g.f≤1000000∧g.b≤1000000∧fr.length≤900∧g.vals.length≤800000∧g.regs.length≤800000∧(∀x∈fr,x.vals.length≤900000)∧out.length≤2000:=by
 obtain ⟨f,b,hf,hb,h1,h2,h3⟩:=hB.cur
 obtain ⟨q0,q1,q2⟩:=Q1F hM hf hb
 obtain ⟨e1,e2,e3,e4⟩:=Q3J q2
 have hcl:=(Q1Z q0).2.2.2.2
 have hfl:=Q8j hM
 have hbl:=(Q1E (Q1S hM hf)).2.2.2.2
 have hgf:=(List.getElem?_eq_some_iff.1 hf).1
 have hgb:=(List.getElem?_eq_some_iff.1 hb).1
 have hsl:=hB.sl
 have hst:(msOf h g fr inp out k).st.length=fr.length:=by show (fr.map FrmV.abs).reverse.length=_;simp
 have h1:g.i≤b.code.length:=h1
 have h2:g.vals.length≤8+8*k:=h2
 have h3:g.regs.length≤16+k:=h3
 have hgf:g.f < m.funcs.length:=hgf
 have hgb:g.b < f.blocks.length:=hgb
 have hto:∀{t:To},Q1O f.blocks.length t true=0→ToOK f t:=fun ht=> ⟨Q3O ht,by have:=Qan ht;omega,by have:=Qan ht;omega⟩
 refine ⟨f,b,hf,hb,fun x hx=> ⟨Q2X (q1 x hx),insF_k (q1 x hx),by have:=Q5s (q1 x hx);omega,by have:=Q5s (q1 x hx);omega⟩,⟨by have:=Q9V q2;omega,⟨e1,e2⟩,fun hq=> hto (by rw [decide_eq_true hq] at e3;exact e3),fun hq=> hto (by rw [decide_eq_true hq] at e4;exact e4)⟩,by omega,by omega,by omega,by omega,by omega,by omega,?_,hB.out⟩
 intro x hx
 obtain ⟨f9,b9,_,_,_,h9,_⟩:=hB.st x.abs (by show x.abs∈(fr.map FrmV.abs).reverse;rw [List.mem_reverse];exact List.mem_map_of_mem hx)
 have h9:x.vals.length≤8+8*k:=h9
 omega
theorem gnext_c {most:Nat}{s:MS}(hP:DR m most z fr g N h inp out back (.on s)) (hM:m.fault.1=0) (hIn:m.InR) (hmo:most≤20000) (hfn:funcR.sl cx z.fn m.funcs) (hi:intR.sl cx z.iv inp) (hS:St cx w (gX p z fr g N h out (sl 2 1 z.bv (Qk back)::L))):
 Rets Tryz.prog Q6V [.pointer (some ⟨p,0,none⟩)] w fun u w'=>
  (u=fltV (0,0)∧∃z' fr' g' N' h' inp' out' back',DR m most z' fr' g' N' h' inp' out' back' (Run.step m most (.on s))∧z'.fn=z.fn∧intR.sl cx z'.iv inp'∧St cx w' (gX p z' fr' g' N' h' out' (sl 2 1 z'.bv (Qk back')::L)))∨
  ∃(f:Int) (z':GZ) (lv:Value) (left:Int),Run.step m most (.on s)= .stuck (20,f)∧u=fltV (20,f)∧z'.c=20∧z'.a=f∧z'.dn=false∧St cx w' (gBlk z' p lv left::L):=by
 have hP':=hP
 obtain ⟨hms,rfl,hdn,⟨hc0,ha0⟩,he0,hfu,hkm,hmo2,hN,hB,hR⟩:=hP
 rw [hms] at hB
 have hRg:∀v∈g.vals,inI v.n:=by rw [hms] at hR;exact hR.g
 obtain ⟨f,b,hf,hb,k1,k2,k3,k4,k5,k6,k7,k8,k9,k10⟩:=bnd_all hB hM hkm hmo
 exact (gstep_c (m:=m) (f:=f) (b:=b) (inp:=inp) (fu:=s.fuel) (most:=most) hfn hi hf hb k1 k2 k3 k4 k5 k6 k7 k8 k9 (by omega) k10 hRg hdn hc0 ha0 hfu hmo2 (by omega) hS).mono fun u w' hs=> hP'.step hM hIn hi hs
end Go.Proofs.YteflkifmgnpbhaaGreat
namespace Go.Proofs.YteflkifmgnpbhaaGreat
open Go.Lir
set_option maxHeartbeats 1000000
attribute [local irreducible] LC.wp Q0 Qh Qc retQ Qw LO.wp Q3 Calls
set_option linter.unusedSimpArgs false
set_option linter.unusedVariables false
variable {cx:Cx}{w:World}{L:List Res}{p N:Nat}{c:MC}{z:GZ}{fr:List FrmV}{g:FrmV}{h:HpS}{out inp back:List Int}{m:Module}
theorem DR.on {most:Nat}{r:Run}(hD:DR m most z fr g N h inp out back r) (hz:z.dn=false):∃s,r= .on s:=by
 cases r with
 | on s=> exact ⟨s,rfl⟩
 | over s e b=> obtain ⟨-, -, -,h4, -⟩:=hD;rw [hz] at h4;cases h4
 | stuck f=> exact hD.elim
theorem DR.over {most:Nat}{r:Run}(hD:DR m most z fr g N h inp out back r) (hz:z.dn=true):r= .over ⟨h,(match r with| .over s _ _=> s.g|_=> ⟨0,0,0,[],[]⟩),(match r with| .over s _ _=> s.st|_=> []),(match r with| .over s _ _=> s.inp|_=> []),out,(match r with| .over s _ _=> s.fuel|_=> 0)⟩ z.e back:=by
 cases r with
 | on s=> obtain ⟨-, -,h4, -⟩:=hD;rw [hz] at h4;cases h4
 | over s e b=> obtain ⟨rfl,rfl,rfl, -, -,rfl, -⟩:=hD;rfl
 | stuck f=> exact hD.elim
theorem PR.same {most:Nat}{r:Run}{N2:Nat}{fr2:List FrmV}{g2:FrmV}{h2:HpS}{out2 inp2 back2:List Int}(hP:PR m most c fr g N h inp out back r) (hD:DR m most z fr2 g2 N2 h2 inp2 out2 back2 r):h2=h∧out2=out∧back2=back∧z.dn=c.dn∧z.fu=c.fu∧z.e=c.e∧out.length≤2000∧back.length≤100000∧N2≤most+1:=by
 cases r with
 | on s=>
   obtain ⟨a1,a2,a3,a4,a5,a6,a7,a8,a9,a10⟩:=hP
   obtain ⟨b1,b2,b3,b4,b5,b6,b7,b8,b9,b10,b11⟩:=hD
   have e1:s.h=h:=by rw [a1];rfl
   have e2:s.h=h2:=by rw [b1];rfl
   have e3:s.out=out:=by rw [a1];rfl
   have e4:s.out=out2:=by rw [b1];rfl
   refine ⟨by rw [←e1,←e2],by rw [←e3,←e4],by rw [a2,b2],by rw [a3,b3],by rw [a6,b6],by rw [a5,b5],by rw [←e3];exact a10.out,by rw [a2];exact Nat.zero_le _,by omega⟩
 | over s e b=>
   obtain ⟨a1,a2,a3,a4,a5,a6,a7,a8⟩:=hP
   obtain ⟨b1,b2,b3,b4,b5,b6,b7,b8,b9,b10⟩:=hD
   exact ⟨by rw [a1,b1],by rw [a2,b2],by rw [a3,b3],by rw [a4,b4],by rw [a6,b7],by rw [a5,b6],a7,a8,b8⟩
 | stuck f=> exact hP.elim
theorem PR.first {fuel pages:Int}{hp fn lv iv:Value}(hM:m.fault.1=0) (h0:0≤fuel):PR m fuel.toNat (newC hp fn lv iv fuel) [] newG 0 ⟨[],pages⟩ inp [] [] (.on (MS.start inp pages)):=
 ⟨rfl,rfl,rfl,rfl,rfl,rfl,Nat.zero_le _,(Int.toNat_of_nonneg h0).symm,Nat.zero_le _,Bnd.start hM inp pages⟩
theorem DR.first {fuel pages:Int}{fn fv iv:Value}(hM:m.fault.1=0) (h0:0≤fuel) (hin:∀n∈inp,inI n):DR m fuel.toNat (newZ fn fv iv fuel) [] newG 0 ⟨[],pages⟩ inp [] [] (.on (MS.start inp pages)):=
 ⟨rfl,rfl,rfl,⟨rfl,rfl⟩,rfl,rfl,Nat.zero_le _,(Int.toNat_of_nonneg h0).symm,Nat.zero_le _,Bnd.start hM inp pages,Rg.start hin⟩
theorem RA.on {a:Run}{most:Nat}{s:MS}(hA:RA m most a (.on s)) (hP:PR m most c fr g N h inp out back (.on s)):RA m most a (Run.step m most (.on s)):=by
 obtain ⟨a1,a2,a3,a4,a5,a6,a7,a8,a9,a10⟩:=hP
 by_cases hk:s.fuel=most
 · rw [show Run.step m most (.on s)= .over s 7 [] from if_pos hk];exact RA.seven hA hk
 · rw [show Run.step m most (.on s)= .of m s (s.tick.one m) from if_neg hk]
   exact RA.more hA (by omega) rfl fun s' hs=> Q9D hs
end Go.Proofs.YteflkifmgnpbhaaGreat
namespace Go.Proofs.YteflkifmgnpbhaaGreat
open Go.Lir
variable {N:Nat}{z:GZ}{fr:List FrmV}{g:FrmV}{h:HpS}{out inp back:List Int}{m:Module}
theorem DR.fin {most:Nat}{r a:Run}(hD:DR m most z fr g N h inp out back r) (hA:RA m most a r) (hz:z.dn=true):a.flt=(0,0)∧a.oc=⟨z.e,back,out,z.fu⟩∧z.c=0∧z.a=0:=by
 cases r with
 | on s=> obtain ⟨-, -,h4, -⟩:=hD;rw [hz] at h4;cases h4
 | over s e b=>
   obtain ⟨b1,b2,b3,b4,⟨b5,b9⟩,b6,b7, -⟩:=hD
   have hA:a= .over s e b:=hA
   refine ⟨by rw [hA];rfl,by rw [hA,b2,b3,b6,b7];rfl,b5,b9⟩
 | stuck f=> exact hD.elim
theorem RA.stuck {most:Nat}{r a:Run}{f:Flt}(hA:RA m most a r) (hr:r= .stuck f):a.flt=f∧a.oc=⟨0,[],[],0⟩:=by
 subst hr
 have hA:a= .stuck f:=hA
 exact ⟨by rw [hA];rfl,by rw [hA];rfl⟩
end Go.Proofs.YteflkifmgnpbhaaGreat
namespace Go.Proofs.YteflkifmgnpbhaaGreat
open Go.Lir
variable {N:Nat}{z:GZ}{fr:List FrmV}{g:FrmV}{h:HpS}{out inp back:List Int}{m:Module}
theorem DR.lens {most:Nat}{r:Run}(hD:DR m most z fr g N h inp out back r):out.length≤2000∧back.length≤100000:=by
 cases r with
 | on s=>
   obtain ⟨a1,a2,a3,a4,a5,a6,a7,a8,a9,a10, -⟩:=hD
   have e3:s.out=out:=by rw [a1];rfl
   exact ⟨by rw [←e3];exact a10.out,by rw [a2];exact Nat.zero_le _⟩
 | over s e b=>
   obtain ⟨-, -, -, -, -, -, -, -,a7,a8⟩:=hD
   exact ⟨a7,a8⟩
 | stuck f=> exact hD.elim
end Go.Proofs.YteflkifmgnpbhaaGreat
namespace Go.Lir
set_option linter.unusedVariables false
structure Tot (n:Int) (h:HpS):Prop where
 sum:h.left+(h.l.map Rgn.pages).sum=n
 left:0≤h.left
 each:∀r∈h.l,0≤r.pages∧(r.there=false→r.pages=0)
theorem Tot.set {n:Int}{h:HpS}(H:Tot n h){k:Nat}{r r':Rgn}{left:Int}(hr:h.l[k]?=some r) (h0:0≤left) (hs:left+r'.pages=h.left+r.pages) (h1:0≤r'.pages∧(r'.there=false→r'.pages=0)):Tot n ⟨h.l.set k r',left⟩:=by
 have h2:=QeF (r':=r') hr
 have h3:=H.sum
 refine ⟨by show left+((h.l.set k r').map Rgn.pages).sum=n;omega,h0,fun x hx=> ?_⟩
 rcases mem_set_or hx with rfl|hx
 · exact h1
 · exact H.each x hx
theorem Tot.at_ {n:Int}{h:HpS}(H:Tot n h){k:Int}(hk:h.has k=true):h.l[k.toNat]?=some (h.reg k)∧0≤(h.reg k).pages∧(h.reg k).there=true:=by
 obtain ⟨_,_,h1,h2⟩:=Q29 hk
 exact ⟨h1,(H.each _ (List.mem_of_getElem? h1)).1,h2⟩
theorem Tot.open {n:Int}{h:HpS}(H:Tot n h):Tot n h.open:=by
 unfold HpS.open
 split
 · exact H
 · have h2:=H.sum
   refine ⟨by simp;omega,H.left,fun r hr=> ?_⟩
   rcases List.mem_append.1 hr with hr|hr
   · exact H.each r hr
   · simp only [List.mem_singleton] at hr;subst hr;exact ⟨by simp,fun e=> by cases e⟩
theorem Tot.shut {n:Int}{h:HpS}(H:Tot n h) (v:Val):Tot n (h.shut v):=by
 unfold HpS.shut
 split
 · rename_i hc
   unfold HpS.can at hc
   rw [Bool.and_eq_true] at hc
   obtain ⟨h1,h2,h3⟩:=H.at_ hc.2
   have:=H.left
   exact H.set h1 (by omega) (by simp [Rgn.none]) ⟨by simp [Rgn.none],fun _=> rfl⟩
 · exact H
theorem Tot.put {n:Int}{h:HpS}(H:Tot n h) (v:Val) (x:Int) (t:Thg):Tot n (h.put v x t):=by
 unfold HpS.put
 split
 · rename_i hc
   obtain ⟨_,hh⟩:=Qb8 hc
   obtain ⟨h1,h2,h3⟩:=H.at_ hh
   have hl:=H.left
   have hne:(h.reg v.region).more x=true→h.left≠0:=fun hm e=> by
    unfold HpS.code at hc
    split at hc
    · cases hc
    · rw [if_pos ⟨hm,e⟩] at hc;cases hc
   have hf:∀b:Bool,((h.reg v.region).room x).there=(h.reg v.region).there:=fun _=> by unfold Rgn.room;split <;> rfl
   by_cases hm:(h.reg v.region).more x=true
   · rw [if_pos hm]
     have hp:(((h.reg v.region).room x).push t).pages=(h.reg v.region).pages+1:=by unfold Rgn.room;rw [if_pos hm];rfl
     have:=hne hm
     exact H.set h1 (by omega) (by rw [hp];omega) ⟨by rw [hp];omega,fun e=> by have e:((h.reg v.region).room x).there=false:=e;rw [hf true,h3] at e;cases e⟩
   · rw [if_neg hm]
     have hp:(((h.reg v.region).room x).push t).pages=(h.reg v.region).pages:=by unfold Rgn.room;rw [if_neg hm];rfl
     exact H.set h1 hl (by rw [hp]) ⟨by rw [hp];exact h2,fun e=> by have e:((h.reg v.region).room x).there=false:=e;rw [hf true,h3] at e;cases e⟩
 · exact H
theorem Tot.sets {n:Int}{h:HpS}(H:Tot n h) (v:Val) (k:Int) (x:Val):Tot n (h.set v k x):=by
 unfold HpS.set
 split
 · exact H
 · rename_i r t ha
   split
   · have hh:h.has r=true:=by
      unfold HpS.at_ at ha
      split at ha
      · rename_i hc;cases ha;rw [Int.toNat_of_nonneg (Q29 hc.2.1).1];exact hc.2.1
      · cases ha
     obtain ⟨h1,h2,h3⟩:=H.at_ hh
     rw [Int.toNat_natCast] at h1
     exact H.set h1 H.left rfl ⟨h2,fun e=> by have e:(h.reg r).there=false:=e;rw [h3] at e;cases e⟩
   · exact H
def Stp.Tt (n:Int):Stp→Prop
 | .go s=> Tot n s.h
 | _=> True
theorem Stp.tt_bind {α:Type}{n:Int}{x:Option α}{f:α→Stp}(h:∀a,(f a).Tt n):(Q16 x f).Tt n:=by
 cases x with
 | none=> exact trivial
 | some a=> exact h a
theorem Stp.tt_if {n:Int}{c:Prop} [Decidable c] {a b:Stp}(h1:a.Tt n) (h2:b.Tt n):(if c then a else b).Tt n:=by
 by_cases hc:c
 · rw [if_pos hc];exact h1
 · rw [if_neg hc];exact h2
section
variable {m:Module}{s:MS}{n:Int}
theorem QeB {e:Int}{h:HpS}{v:Val}(H:Tot n h):(s.made e h v).Tt n:=Stp.tt_if trivial (Stp.tt_if trivial H)
theorem Qbx {v:Val}{e:Int}{r:Stp}(h:r.Tt n):(Q2A v e r).Tt n:=Stp.tt_if trivial (Stp.tt_if trivial (Stp.tt_if trivial h))
theorem tt_to (H:Tot n s.h){f:Fun}{t:To}:(s.to f t).Tt n:=by
 unfold MS.to
 split
 · exact trivial
 · exact Stp.tt_bind fun _=> Stp.tt_bind fun _=> Stp.tt_if trivial H
theorem tt_ins (H:Tot n s.h){x:Ins}:(s.ins m x).Tt n:=by
 unfold MS.ins
 refine Stp.tt_if H (Stp.tt_if (Stp.tt_bind fun _=> Stp.tt_bind fun _=> Stp.tt_if trivial H) (Stp.tt_if (Stp.tt_if trivial H.open) (Stp.tt_if (Stp.tt_bind fun _=> Stp.tt_if trivial (H.shut _)) (Stp.tt_if (Stp.tt_bind fun _=> Stp.tt_bind fun _=> QeB (H.put _ _ _)) (Stp.tt_if (Stp.tt_bind fun _=> Stp.tt_if trivial (Stp.tt_if trivial H)) (Stp.tt_if (Stp.tt_bind fun _=> Stp.tt_if trivial (Stp.tt_bind fun _=> Stp.tt_if trivial (H.sets _ _ _))) (Stp.tt_if (Stp.tt_bind fun _=> Stp.tt_bind fun k=> Stp.tt_if trivial (QeB ?_)) (Stp.tt_if (Stp.tt_bind fun _=> Stp.tt_bind fun _=> Qbx H) (Stp.tt_if (Stp.tt_bind fun _=> Stp.tt_bind fun _=> Stp.tt_bind fun _=> Qbx (H.sets _ _ _)) (Stp.tt_if (Stp.tt_bind fun _=> Qbx H) (Stp.tt_if ?_ (Stp.tt_if (Stp.tt_bind fun _=> Stp.tt_if trivial H) ?_))))))))))))
 · unfold HpS.arr;split
   · exact H
   · exact H.put _ _ _
 · unfold MS.inS;split <;> first|exact trivial|exact H
 · unfold MS.call
   split
   · exact trivial
   · exact Stp.tt_bind fun _=> Stp.tt_bind fun _=> Stp.tt_if trivial (Stp.tt_if trivial H)
theorem tt_one (H:Tot n s.h):(s.one m).Tt n:=by
 unfold MS.one
 split
 · exact trivial
 · split
   · exact trivial
   · split
     · exact tt_ins (s:=s.next) H
     · unfold MS.fin
       refine Stp.tt_if (tt_to H) (Stp.tt_if (Stp.tt_bind fun _=> Stp.tt_if (tt_to H) (tt_to H)) ?_)
       unfold MS.ret
       refine Stp.tt_bind fun vs=> Stp.tt_if trivial ?_
       split
       · exact H
       · split <;> exact trivial
def Run.Tt (n:Int):Run→Prop
 | .on s=> Tot n s.h
 | .over s _ _=> Tot n s.h
 | .stuck _=> True
theorem tt_step {most:Nat}{r:Run}(h:r.Tt n):(r.step m most).Tt n:=by
 cases r with
 | on s=>
   unfold Run.step
   dsimp only
   split
   · exact h
   · have h1:(s.tick.one m).Tt n:=tt_one (s:=s.tick) h
     cases hr:s.tick.one m with
     | go t=> rw [hr] at h1;exact h1
     | halt e=> exact h
     | done l=> exact h
     | lost=> exact trivial
 | over s e b=> exact h
 | stuck f=> exact h
theorem tt_start {inp:List Int}(h:0≤n):(Run.on (MS.start inp n)).Tt n:=⟨by show n+0=n;omega,h,fun r hr=> by cases hr⟩
theorem Tot.le {h:HpS}(H:Tot n h):h.left≤n:=by
 have:=Q66 (l:=h.l.map Rgn.pages) (by intro x hx;obtain ⟨r,hr,rfl⟩:=List.mem_map.1 hx;exact (H.each r hr).1)
 have:=H.sum;omega
theorem Tot.none {h:HpS}(H:Tot n h) (hn:Qac h):h.left=n∧h.live=0:=by
 have hall:∀r∈h.l,r.there=false:=fun r hr=> by
  obtain ⟨k,hk⟩:=List.mem_iff_getElem?.1 hr
  have:=hn k
  unfold HpS.has at this
  rw [HpS.reg_get hk] at this
  exact this
 have hz:(h.l.map Rgn.pages).sum=0:=by
  have:∀l:List Rgn,(∀r∈l,r.pages=0)→(l.map Rgn.pages).sum=0:=by
   intro l hl
   induction l with
   | nil=> rfl
   | cons a l ih=> rw [List.map_cons,List.sum_cons,hl a (by simp),ih fun r hr=> hl r (by simp [hr])];rfl
  exact this _ fun r hr=> (H.each r hr).2 (hall r hr)
 refine ⟨by have:=H.sum;omega,?_⟩
 unfold HpS.live
 rw [List.countP_eq_zero]
 intro r hr
 rw [hall r hr];decide
end
end Go.Lir
namespace Go.Proofs.YteflkifmgnpbhaaGreat
open Go.Lir
set_option maxHeartbeats 1000000
attribute [local irreducible] LC.wp Q0 Qh Qc retQ Qw LO.wp Q3 Calls
set_option linter.unusedSimpArgs false
set_option linter.unusedVariables false
variable {cx:Cx}{w:World}{L:List Res}{m:Module}{inp:List Int}{c:RC}{fr:List RFV}{g:RFV}{s:EstS}{out back:List Int}
theorem QD.same {z:GZ}{fr2:List FrmV}{g2:FrmV}{N2:Nat}{h:HpS}{inp2 out2 back2:List Int}{most:Nat}{r:Run}(hQ:QR m most c fr g s inp out back r) (hD:DR m most z fr2 g2 N2 h inp2 out2 back2 r):z.dn=c.dn∧h.left=s.p.fr.length∧s.count=h.live∧N2≤most+1:=by
 cases r with
 | on ms=>
   obtain ⟨⟨φ,S⟩, -,a3, -⟩:=hQ
   obtain ⟨b1, -,b3, -, -, -,b7, -,b9, -⟩:=hD
   have e2:ms.h=h:=by rw [b1];rfl
   refine ⟨by rw [a3,b3],?_,?_,by omega⟩
   · rw [←e2];exact S.hr.left
   · rw [←e2];exact S.hr.cnt
 | over ms e b=>
   obtain ⟨-, -,a3, -, -, -, -,a8,a9, -⟩:=hQ
   obtain ⟨b1, -, -,b4, -, -, -,b8, -⟩:=hD
   exact ⟨by rw [a3,b4],by rw [b1];exact a8,by rw [b1];exact a9,b8⟩
 | stuck f=> exact hQ.elim
theorem QR.lens {most:Nat}{r:Run}{n:Int}(hQ:QR m most c fr g s inp out back r) (hT:r.Tt n) (hdn:c.dn=true):out.length≤2000∧back.length≤100000∧(c.e=0→(s.p.fr.length:Int)=n∧s.count=0):=by
 cases r with
 | on ms=> obtain ⟨-, -,h, -⟩:=hQ;rw [hdn] at h;cases h
 | over ms e b=>
   obtain ⟨-, -, -,h4, -,h6,h7,h8,h9,h10⟩:=hQ
   refine ⟨h6,h7,fun h0=> ?_⟩
   obtain ⟨k1,k2⟩:=Tot.none (show Tot n ms.h from hT) (h10 (by omega))
   omega
 | stuck f=> exact hQ.elim
theorem QR.no {most:Nat}{r:Run}{f:Flt}(hQ:QR m most c fr g s inp out back r) (hr:r= .stuck f):False:=by subst hr;exact hQ
attribute [local irreducible] QR DR RA Run.all Run.oc Q2x Run.Tt
theorem QdB {cs:List Value}{v:Value}{fuel pages:Int}(hx:modR.at cx cs m) (hIn:m.InR) (hi:intR.sl cx v inp) (hin:∀n∈inp,inI n) (hS:St cx w L):Rets Tryz.prog Q6W [.agg ⟨cs⟩,v, .int .i64 fuel, .int .i64 pages] w fun u w'=> u= .bool true∧St cx w' L:=by
 have hx':=hx
 obtain ⟨vf,rfl,hf⟩:=Q21 hx
 obtain ⟨af,nf,rfl⟩:=Rep.SR.shape hf
 all_goals refine lgo tyD Tryz.func7 ?_
 all_goals (refine Zaq ?_;intro p4 w1 hS;refine ZbD ?_;refine zR0 (c:=QdC hS) (h:=?_);rintro v1 w1 ⟨rfl,hS⟩;refine ZaU ?_)
 all_goals
  first
  | (refine zct ?_
     all_goals (refine Zao ?_)
     all_goals (exact ⟨_,rfl,rfl,hS.sp⟩))
  | (refine zcf ?_
     all_goals refine zsk ?_)
 all_goals (refine Zbn ?_;refine zv hS ?_;refine zm ?_)
 all_goals (refine zR2 (c:=long_c hx' hS) (h:=?_);rintro v1 w1 ⟨b,rfl,hb,hS⟩;cases b)
 all_goals (refine zn ?_)
 all_goals
  first
  | (refine zct ?_
     all_goals (refine Zao ?_)
     all_goals (exact ⟨_,rfl,rfl,hS.sp⟩))
  | (refine zcf ?_
     all_goals refine zsk ?_)
 all_goals (refine Zaa ?_;refine zv hS ?_;refine Zbg ?_;refine zm ?_)
 all_goals (obtain ⟨hfew,hfu⟩:=hb rfl;refine zR4 (c:=rnew_c (Q7t hfew) hx' hi hS) (h:=?_);rintro v1 w1 hN;rcases hN.split with ⟨hz,rfl,hS⟩|⟨hs0,hR,hil,hf0,hf1,n,rfl,hq,c2,p,ep,fn,lv,i1,rfl,hle2,hfn,hin9,hS⟩)
 all_goals (unfold fltV;dsimp only;refine Zbw ?_;intro p10 w1 hS;refine zm ?_;refine zsn hS ?_;intro w1 hS;have hS:=hS.ns;refine ZbH ?_;refine zf0 ?_;refine zl hS ?_)
 all_goals (refine Yaq ?_)
 all_goals (refine zn ?_)
 all_goals
  first
  | (refine zct ?_
     all_goals (refine Zao ?_)
     all_goals (exact ⟨_,rfl,rfl,hS.sp⟩))
  | (refine zcf ?_
     all_goals refine zsk ?_)
 all_goals (refine Zaa ?_;refine zv hS ?_;refine Zbg ?_;refine zm ?_;refine zR4 (c:=gstart_c ⟨by omega,by omega⟩ (Rep.SR.up hi hle2) hS) (h:=?_);rintro v1 w1 ⟨q,fv,rfl,hS⟩;have hD0:=DR.first (inp:=inp) (pages:=n) (fn:= .slice af m.funcs.length nf) (fv:=fv) (iv:=v) (Q1J hR) hf0 hin;refine Zad ?_;refine Zan ?_)
 refine zo [3,9,11] (fun A ρ' w'=>∃(r:Run) (c:RC) (fr:List RFV) (g:RFV) (s:EstS) (inp1 out back:List Int) (z:GZ) (fr2:List FrmV) (g2:FrmV) (N2:Nat) (h:HpS) (inp2 out2 back2:List Int),Has ρ' A∧Has ρ' []∧(QR m fuel.toNat c fr g s inp1 out back r)∧(DR m fuel.toNat z fr2 g2 N2 h inp2 out2 back2 r)∧(r.Tt n)∧(funcR.sl c2 c.fn m.funcs)∧(intR.sl c2 c.iv inp1)∧(funcR.sl c2 z.fn m.funcs)∧(intR.sl c2 z.iv inp2)∧St c2 w' (rS p c fr g s out (sl 2 1 c.bv (back.map Qj)::gX q z fr2 g2 N2 h out2 (sl 2 1 z.bv (Qk back2)::blk p10 29 [.int .i64 0, .int .i64 0]::L)))) (fun _ w'=> msrW w' p) ?_ ?_
 · exact ⟨.on (MS.start inp n),QfG ep fn lv i1 fuel,[],QfF,EstS.mk0 n,inp,[],[],newZ (.slice af m.funcs.length nf) fv v fuel,[],newG,0,⟨[],n⟩,inp,[],[],zh,zh,QR.first hR (Q7t hfew) hf0 hq,hD0,tt_start (by omega),hfn,hin9,(Rep.SR.up hf hle2),(Rep.SR.up hi hle2),by have hS:=hS.nil (T:=2) (es:=1);have hS:=hS.nil (T:=2) (es:=1);exact hS.sp⟩
 rintro ρ w1 ⟨r,c,fr,g,s,inp1,out,back,z,fr2,g2,N2,h,inp2,out2,back2,hA,hρ,hQ,hD,hT,hfn1,hin1,hfn2,hin2,hS⟩;obtain ⟨ρ,rfl⟩:=env2 hA hρ;have hm0:=Q9x hS
 all_goals (refine Zah ?_)
 all_goals (refine zR1 (c:=QbN hS) (h:=?_);rintro v1 w1 ⟨rfl,hS⟩;cases hdn:c.dn)
 all_goals (refine ZaU ?_)
 all_goals
  first
  | (refine zcf ?_
     all_goals (refine zex ?_;refine Zab ?_;obtain ⟨hol,hbl,hfin⟩:=hQ.lens hT hdn;obtain ⟨c4,hle4,hS2,hb3⟩:=St.freezeL (r:=intR) (l:=back) (hS.out (r:=sl 2 1 c.bv (back.map Qj)) fd) Q7f rfl (by omega);obtain ⟨c5,hle5,hS3,ho4⟩:=St.freezeL (r:=intR) (l:=out) (hS2.out (r:=sl 2 1 c.ov (out.map Qj)) fd) Q7f rfl (by omega);have hb3:=Rep.SR.up hb3 hle5;refine zR1 (c:=Q6f (c:=c) (by omega) (by omega) hb3 ho4 (show St c5 _ (blk p 66 c.cells::estX c.ep s::L) from (by have hS:=hS3;exact hS.sp))) (h:=?_);rintro v1 w1 ⟨c6,u1,u2,hle6,rfl,z1,z2,hS⟩;obtain ⟨a1,n1,rfl⟩:=Rep.SR.shape z1;obtain ⟨a2,n2,rfl⟩:=Rep.SR.shape z2;refine Ql hS ?_;intro p12 w1 hS;refine zsn hS ?_;intro w1 hS;have hS:=hS.ns;refine ZaH ?_;refine zR1 (c:=QbJ (c:=c) hdn (show St c6 _ (blk p 66 c.cells::_) from hS.sp)) (h:=?_);rintro v1 w1 ⟨rfl,hS⟩;refine ZaF ?_;obtain ⟨b5,pp,rv,ho,hS⟩:=Q1V (hS.out (r:=estX c.ep s) fd);have hep:=ho.he;refine zC [(0,none),(1,none),(2,some (some [0])),(3,some none),(4,none),(5,none),(6,none),(7,none),(8,none),(9,none),(10,none),(11,none),(12,none),(13,none),(14,none),(15,none),(17,none),(16,some (some [])),(18,none),(19,none),(20,none),(21,none),(22,none),(23,none),(24,some none),(25,none),(26,none),(27,none),(28,none),(29,some none)] ?_)
     all_goals (have hS:=hS.drew;refine s_cq ?_;refine zv hS ?_;refine Zac ?_;refine zm ?_;refine Zal ?_;refine zR1 (c:=Q6f (c:=c) (by omega) (by omega) (Rep.SR.up hb3 hle6) (Rep.SR.up ho4 hle6) (show St c6 _ (blk p 66 c.cells::_) from hS.sp)) (h:=?_);rintro v1 w1 ⟨c7,u3,u4,hle7,rfl,z3,z4,hS⟩;refine ZaZ ?_;refine zR2 (c:=Qav (Rep.SR.up z1 hle7) (Rep.SR.up z2 hle7) z3 z4 hS) (h:=?_);rintro v1 w1 ⟨rfl,hS⟩;rw [decide_eq_true ⟨rfl,rfl,rfl,rfl⟩];refine Zax ?_;refine ZbS ?_;refine Yad ?_;refine Zac ?_)
     all_goals (first|refine zgn ?_|(refine zgy ?_;(first|(refine Q11 ?_)|(refine Q18 ?_)|(refine Qu rfl rfl (fun hc=> ?_) (fun hc=> ?_)))))
     all_goals (refine Zac ?_;refine ZbQ ?_;refine ZbQ ?_;refine ZbR ?_;refine ZbS ?_;(first|(refine zgn ?_)|(refine zgy ?_;refine zl hS ?_;rw [hep]));refine Zac ?_;refine ZbR ?_;refine ZbS ?_;refine Yad ?_;refine Zac ?_;refine Yaa ?_;refine Zal ?_;(first|(refine zgn ?_)|(refine zgy ?_;refine zR1 (c:=free_x (s:=s.p) hS fd) (h:=?_);rintro v1 w1 ⟨rfl,hS⟩));refine ZaS ?_)
     all_goals (refine Yax ?_)
     all_goals (refine Zac ?_;refine ZbQ ?_;refine ZbQ ?_;refine ZbR ?_;refine ZbS ?_;(first|(refine zgn ?_)|(refine zgy ?_;refine zl hS ?_;rw [hep]));refine Zay ?_;(first|(refine zgn ?_)|(refine zgy ?_;have hS:=QW ho (show St c7 _ (blk b5 73 (pp::Q1n rv)::Q1C pp s.p::big RegV.res rv::_) from hS.sp);rw [hep] at hS;refine zR1 (c:=Qdf (e:= .pointer (some ⟨b5,0,none⟩)) (s:=s) hS fd) (h:=?_);rintro v1 w1 ⟨rfl,hS⟩));refine Zac ?_)
     all_goals (refine Yax ?_)
     all_goals (refine Zac ?_;(first|refine zgn ?_|(refine zgy ?_;refine zpt ?_));refine Zac ?_;refine Yal ?_;refine Zac ?_;refine zpt ?_;refine Zay ?_;refine ZbN ?_;refine Zae ?_)
     all_goals ((first|exact ⟨_,rfl,rfl,hS.sp⟩|exact ⟨_,rfl,rfl,St.weak hS.sp hle2⟩|exact ⟨_,rfl,rfl,St.weak hS.sp (hle2.trans (hle4.trans (hle5.trans (hle6.trans hle7))))⟩)))
  | (refine zct ?_
     all_goals (refine zsk ?_;refine Q6b ?_;refine Zab ?_;obtain ⟨ms,rfl,hkm⟩:=hQ.on hdn;have hT':=tt_step (m:=m) (most:=fuel.toNat) hT;refine zR1 (c:=Qfk hQ hR (Q7t hfew) (by omega) hfn1 hin1 hS) (h:=?_);rintro v1 w1 ⟨rfl,c',fr',g',s',inp',out',back',hQ',hfn',hin',hlt,hS⟩;refine ZaH ?_)
     all_goals (refine zR1 (c:=gnext_c (L:=rS p c' fr' g' s' out' (sl 2 1 c'.bv (back'.map Qj)::blk p10 29 [.int .i64 0, .int .i64 0]::L)) hD (Q1J hR) hIn (by omega) hfn2 hin2 hS.sp) (h:=?_);rintro v1 w1 (⟨rfl,z',fr3,g3,N3,h3,inp3,out3,back3,hD',hfn3,hin3,hS⟩|⟨f8,z8,lv8,left8,hr8,rfl,hz1,hz2,hz3,hS⟩) <;> first|(exact (hQ'.no hr8).elim)|skip)
     all_goals (refine ZaF ?_;obtain ⟨hdd,hll,hcc,hN3⟩:=QD.same hQ' hD';obtain ⟨lv2,rv2,ho2,hS⟩:=Q1T (p:=q) (z:=z') (fr:=fr3) (g:=g3) (N:=N3) (h:=h3) (out:=out3) (L:=rS p c' fr' g' s' out' (sl 2 1 c'.bv (back'.map Qj)::sl 2 1 z'.bv (Qk back3)::blk p10 29 [.int .i64 0, .int .i64 0]::L)) hS.sp;obtain ⟨b5,pp,rv,ho,hS⟩:=Q1V (hS.out (r:=estX c'.ep s') fd);have hep:=ho.he;refine zC [(0,none),(2,none),(3,none),(4,none),(5,none),(1,some (some [5])),(6,none),(7,none),(8,none),(9,none),(10,none),(11,none),(12,none),(13,none),(14,none),(16,none),(17,none),(18,none),(19,none),(20,none),(15,some (some [20])),(21,none),(22,none),(23,none),(24,none),(25,none),(26,none),(27,none),(29,none),(30,none),(31,none),(28,some (some [])),(32,some none),(33,none),(34,some none)] ?_;have hS:=hS.drew;refine Zbf ?_;refine Zaw ?_;refine zf0 ?_;refine Zac ?_;refine zl hS ?_;refine Zal ?_;refine zR1 (c:=QbN (c:=c') (show St c2 _ (blk p 66 c'.cells::_) from hS.sp)) (h:=?_);rintro v1 w1 ⟨rfl,hS⟩;rw [←hdd])
     all_goals (refine ZaS ?_;refine Qfa (by kernel_rfl) rfl rfl rfl ?_;refine Zax ?_;refine ZbQ ?_;refine ZbR ?_;refine ZbS ?_;(first|(refine zgn ?_)|(refine zgy ?_;refine zl hS ?_;rw [hep]));refine Zac ?_;refine ZbR ?_;refine ZbS ?_;refine Yad ?_;refine Zac ?_;refine ZbQ ?_;refine ZbR ?_;refine ZbS ?_;refine Yag ?_)
     all_goals (refine Zac ?_;refine Yad ?_;refine Zal ?_;(first|(refine zgn ?_)|(refine zgy ?_;refine zR1 (c:=free_x (s:=s'.p) hS fd) (h:=?_);rintro v1 w1 ⟨rfl,hS⟩));refine ZaS ?_;(first|(refine zgn ?_)|(refine zgy ?_;rw [hll];refine Q18 ?_));refine Zac ?_;refine Yae ?_;refine Zax ?_;refine ZbQ ?_;refine ZbR ?_;refine ZbS ?_;(first|(refine zgn ?_)|(refine zgy ?_;refine zl hS ?_;rw [hep]));refine Zac ?_;refine ZbQ ?_;refine ZbR ?_;refine Yab ?_;refine Zal ?_;(first|(refine zgn ?_)|(refine zgy ?_;have hS:=QW ho (show St c2 _ (blk b5 73 (pp::Q1n rv)::Q1C pp s'.p::big RegV.res rv::_) from hS.sp);rw [hep] at hS;refine zR1 (c:=Qdf (e:= .pointer (some ⟨b5,0,none⟩)) (s:=s') hS fd) (h:=?_);rintro v1 w1 ⟨rfl,hS⟩;rw [←hep] at hS)))
     all_goals (refine ZaZ ?_;(first|(refine zgn ?_)|(refine zgy ?_;refine zR1 (c:=Q9v (z:=z') (b:=q) (lv:=lv2) (left:=h3.left) (rv:=rv2) ho2 (by omega) (show St c2 _ (Q4Z z' q lv2 h3.left rv2 _) from hS.sp)) (h:=?_);rintro v1 w1 ⟨rfl,hS⟩;rw [hcc]));refine Zac ?_;(first|(refine zgn ?_)|(refine zgy ?_;refine Q18 ?_));refine Zay ?_;refine Yae ?_;refine Zav ?_)
     all_goals
      first
      | (refine zct ?_
         all_goals (refine Zao ?_)
         all_goals (exact ⟨_,rfl,rfl,hS.sp⟩))
      | (refine zcf ?_
         all_goals refine zsk ?_)
     all_goals (exact ⟨⟨Run.step m fuel.toNat (.on ms),c',fr',g',s',inp',out',back',z',fr3,g3,N3,h3,inp3,out3,back3,zh,zh,hQ',hD',hT',(by rw [hfn'];exact hfn1),hin',(by rw [hfn3];exact hfn2),hin3,by have hS1:St c2 _ (gX q z' fr3 g3 N3 h3 out3 (rS p c' fr' g' s' out' (sl 2 1 c'.bv (back'.map Qj)::sl 2 1 z'.bv (Qk back3)::blk p10 29 [.int .i64 0, .int .i64 0]::L))):=QB ho2 hS.sp;have hS:=hS1;exact hS.sp⟩,(by rw [Q9x (c:=c') (L:=L) (show St c2 _ (blk p 66 c'.cells::L) from hS.sp),hm0];exact hlt)⟩))
end Go.Proofs.YteflkifmgnpbhaaGreat
namespace Go.Proofs.YteflkifmgnpbhaaGreat
open Go.Lir
def cLongsI:Cod.Of Tryz.prog 25 (intR.an InI).list:=Cod.Of.list cLongI (by kernel_rfl) (by kernel_rfl) (by kernel_rfl)
theorem rawPages_rd {c:Array Value}{x:Module}{v:Value}{inp:List Int}{w:World}(h1:cModI.cod.rd w.heap c.toList x) (h2:cLongsI.cod.rd w.heap [v] inp) (a b:Int):Rets Tryz.prog Q6W [.agg c,v, .int .i64 a, .int .i64 b] w fun v w'=> v= .bool true∧Fr NF w w':=by
 obtain ⟨v',hv,hin⟩:=cLongsI.top h2
 cases hv
 obtain ⟨hi,hr⟩:=Rep.an_SR hin
 have hm:=cModI.top h1
 exact (QdB hm.1 hm.2 hi hr (St.top w)).mono fun _ _ ⟨h,h2⟩=> ⟨h,h2.fr⟩
end Go.Proofs.YteflkifmgnpbhaaGreat
