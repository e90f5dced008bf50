
/- Lemmas of the proof, part 5: what the functions of the program do (contracts), and what follows. -/
import Derived.Test.YteflkifmgnpbhaaGreatZ4
import Derived.Test.YteflkifmgnpbhaaGreatZ3
import Derived.Test.YteflkifmgnpbhaaGreatZ2
import Derived.Test.YteflkifmgnpbhaaGreatProg
open Go Go.Lir Go.Proofs.YteflkifmgnpbhaaGreat
variable {α β:Type}{fields q fi bi j most d:Nat}{l l2 vs:List Val}{t:Ty}{m:Module}{s:JS}{kd e left pages fuel:Int}{ts:List Ty}{g:Frm}{s' ms:MS}{y:Val}{h':HpS}{ns inp kp rs:List Int}{e':EstS}{p:Nat×Nat}{Y:RStp}{X:Stp}{g':RFrm}{c:Prop}{st:List Frm}{fn:α→Stp}{bb:Block}{o:Option α}{P:MS→Prop}{cx:Cx}{w w0:World}{L:List Res}{cs:List Value}{T:TypeId}{u:Value}
set_option linter.unusedVariables false
set_option linter.unusedSimpArgs false
set_option maxHeartbeats 1000000
namespace Go.Lir
section
variable {p:Prop}
theorem D6 (h:p:=by simpa using hc):p:=h
theorem Ej (h:p:=by rw [←hhas];exact hh):p:=h
theorem EA (h:p:=by cases hj;rw [GL]):p:=h
theorem ED (h:p:=by have:=h5 hk;omega):p:=h
theorem EJ (h:p:=by unfold HpS.open;rw [hf];rfl):p:=h
theorem EN (h:p:=by unfold Thg.off Thg.size Mv;split<;>(try split)<;>omega):p:=h
theorem ES (h:p:=by intro h9;rw [h9] at hpp;simp at hpp):p:=h
theorem EW (h:p:=by rw [Gd Jo] at hlsB;exact hlsB):p:=h
theorem E1 (h:p:=by rw [decide_eq_true hq] at e3;exact e3):p:=h
theorem E7 (h:p:=by rw [show s.next.h.get v n=s.h.get v n from rfl,hc];decide):p:=h
theorem E9 (h:p:=by rw [show s.next.h.setC v n (Lk c)=s.h.setC v n (Lk c) from rfl,hq];decide):p:=h
theorem Fh (h:p:=by unfold Qz OP at hF;simp [e] at hF;omega):p:=h
theorem Fj (h:p:=by rw [show s.next.h.len v=s.h.len v from rfl,hq];decide):p:=h
theorem Fo (h:p:=by rw [h0] at q5;split at q5<;>omega):p:=h
theorem Fv (h:p:=by rw [Gd Jo] at hlsC;exact hlsC):p:=h
theorem Fz (h:p:=by rw [decide_eq_true hq] at e4;exact e4):p:=h
theorem FA (h:p:=by rw [Ty.rn_l,FW,oV h2];rfl):p:=h
end
end Go.Lir
namespace Go.Lir
section
variable {p:Prop}
theorem Bb (h:p:=by exact ⟨_,a1,a2,n1,n2,p6,zh,zh,hJ6,by assumption,by assumption,hS.sp⟩):p:=h
theorem Bd (h:p:=by exact mE hw hk (Qc2 _) h):p:=h
theorem Bn (h:p:=by exact ⟨_,_,_,_,_,h.more h.ty (IZ _) same (mF hj) (Ji (QeW Ψ _ _)) hrun hinv⟩):p:=h
theorem Bp (h:p:=by exact absurd O RStp.noConfusion):p:=h
theorem Bv (h:p:=by exact ⟨_,a3,n3,p9,zh,zh,hJ10,by assumption,hS.sp⟩):p:=h
theorem By (h:p:=by exact ⟨_,rfl,(by rw [hgo,if_neg (by simpa using hc)]),cx,Gj hS,hS.sp⟩):p:=h
theorem BA (h:p:=by exact ⟨0,zh,zh,Jo,by rfl,hS.sp⟩):p:=h
theorem BJ (h:p:=by exact ⟨_,rfl,hgo ▸ rfl,cx,Gj hS,hS.sp⟩):p:=h
theorem BL (h:p:=by exact RA.more hA Jo rfl fun s' hs=>q8 hs):p:=h
theorem Ce (h:p:=by exact ⟨cx,0, .slice none 0 0,[],zh,zh,Gj hS,Jo,GU _ _ _,rfl,by have hS:=hS.nil (T:=95) (es:=4);exact hS⟩):p:=h
theorem Co (h:p:=by exact ⟨⟨j+1,_,_,zh,zh,Jo,by rw [hsu,if_pos Ja];exact hls1,hS.sp⟩,Qc Jo⟩):p:=h
theorem Cw (h:p:=by exact ⟨_,rfl,(by rw [hgo,if_pos Jo]),c5,hle5,hS.sp⟩):p:=h
theorem Cy (h:p:=by exact ⟨⟨_,i+1,_,_,zh,zh,hL1,Jo,by rw [Ux hx2];assumption,by assumption,hS.sp⟩,Qc Jo⟩):p:=h
theorem CN (h:p:=by exact ⟨⟨_,k+1,_,_,zh,zh,hL2,Jo,by rw [Ux hx3];assumption,by assumption,hS.sp⟩,Qc Jo⟩):p:=h
theorem CR (h:p:=by exact ⟨_,_,_,_,_,h.more p1 p2 p3 (mF hj) (Ji p4) hrun hinv⟩):p:=h
theorem CX (h:p:=by exact ⟨k6,0, .slice none 0 0,[],zh,zh,Gj hS,Jo,GU _ _ _,rfl,by have hS:=hS.nil (T:=92) (es:=12);exact hS.sp⟩):p:=h
theorem Di (h:p:=by exact ⟨_,rfl,c11,_,rfl,hle,⟨_,rfl,hk6⟩,hS.sp⟩):p:=h
theorem Dm (h:p:=by exact ⟨_,rfl,_,v,rfl,(by rw [show (min n 16).toNat=j by omega];exact hS.sp)⟩):p:=h
theorem Dp (h:p:=by exact ⟨⟨_,j+1,_,_,zh,zh,hL0,Jo,by rw [Ux hx1];assumption,by assumption,hS.sp⟩,Qc Jo⟩):p:=h
theorem Dr (h:p:=by exact ⟨v::vs,by rw [Frm.args,h3,h5],MZ.cons h4 h6⟩):p:=h
theorem Dv (h:p:=by exact ⟨0,_,[],zh,zh,Jo,by unfold NG;exact GU _ _ _,hS.sp⟩):p:=h
theorem Dx (h:p:=by exact H.apart r t x r' t' x' (hth r t x hx).2 (hth r' t' x' hx').2):p:=h
end
end Go.Lir
namespace Go.Lir
section
variable {p:Prop}
theorem Ao (h:p:=by first|(exact ⟨⟨j+1,_,_,zh,zh,Jo,by rw [hsu,if_pos Ja];exact hls1,hS.sp⟩,Qc Jo⟩)|(exact ⟨⟨j+1,_,_,zh,zh,Jo,by rw [hsu,if_neg (by rw [hc];decide),GL];exact hls,hS.sp⟩,Qc Jo⟩)):p:=h
theorem Au (h:p:=by first|(refine ⟨_,rfl,?_,hS.sp⟩;unfold K4;simp [*];omega;done)|(refine ⟨_,rfl,?_,hS.sp⟩;unfold K4;simp [*];done)):p:=h
end
end Go.Lir
namespace Go.Lir
section
theorem Tys.wrong_all {n:Int}:∀{l:List Ty},Tys.wrong fields l n=0↔∀t∈l,t.wrong fields n=0
 | []=>by simp [Tys.wrong]
 | x ::l=>by
   rw [Tys.wrong];constructor
   · intro h
     split at h
     · rename_i h1;exact absurd h h1
     · rename_i h1
       intro t ht;rcases FX.1 ht with rfl|ht
       · exact Gi.1 h1
       · exact Tys.wrong_all.1 h t ht
   · intro h;rw [if_neg (fun hn=>hn (h x (GK ..)))];exact Tys.wrong_all.2 fun t ht=>h t (Gr _ ht)
abbrev IC:=@Tys.wrong_all
theorem Ty.wrong_iff {k r n:Int}{l:List Ty}:(Ty.mk k r l).wrong fields n=0↔(1≤k∧k≤4)∧(k=1→r=0)∧(k≠3→l.length=0)∧l.length≤fields∧(k≠1→0≤r∧r<n)∧∀t∈l,t.wrong fields n=0:=by
 rw [Ty.wrong];constructor
 · intro h
   split at h
   · cases h
   · rename_i h1
     split at h
     · cases h
     · rename_i h2
       split at h
       · cases h
       · rename_i h3
         split at h
         · cases h
         · exact ⟨Jo,Jo,Jo,Jo,Jo,IC.1 h⟩
 · rintro ⟨h1,h2,h3,h4,h5,h6⟩;(repeat rw [if_neg Jo]);exact IC.2 h6
abbrev Hf:=@Ty.wrong_iff
theorem Ty.wrong_up {n n':Int}(hn:n≤n'):∀t:Ty,t.wrong fields n=0→t.wrong fields n'=0:=by
 intro t
 induction t using HI with
 | h k r l ih=>
   intro h;obtain ⟨h1,h2,h3,h4,h5,h6⟩:=Hf.1 h;exact Hf.2 ⟨h1,h2,h3,h4,fun hk=>by have:=h5 hk;omega,fun t ht=>ih t ht (h6 t ht)⟩
mutual
theorem Ty.ren_right {fields:Nat}{f:List Int}{n:Int}(hf:∀i:Nat,i<f.length→0≤f.getD i 0∧f.getD i 0<n):∀(t:Ty),t.wrong fields f.length=0→∃u,t.ren f=some u∧u.wrong fields n=0
 | .mk k r l,ht=>by
   obtain ⟨h1,h2,h3,h4,h5,h6⟩:=Hf.1 ht;obtain ⟨m,hm,hml,hmw⟩:=Tys.ren_right hf l h6;have hr:k≠1→0≤f.getD r.toNat 0∧f.getD r.toNat 0<n:=fun hk=>hf r.toNat ED;refine ⟨.mk k (if k≠1 then f.getD r.toNat 0 else r) m,?_,?_⟩
   · rw [Ty.ren,if_neg (by rintro ⟨hk,hb⟩;have:=h5 hk;have:=hr hk;omega),hm]
   · refine Hf.2 ⟨h1,fun hk=>by rw [if_neg Jo];exact h2 hk,fun hk=>by rw [hml];exact h3 hk,Jo,fun hk=>by rw [if_pos hk];exact hr hk,hmw⟩
theorem Tys.ren_right {fields:Nat}{f:List Int}{n:Int}(hf:∀i:Nat,i<f.length→0≤f.getD i 0∧f.getD i 0<n):∀(l:List Ty),(∀t∈l,t.wrong fields f.length=0)→∃m,Tys.ren l f=some m∧m.length=l.length∧∀u∈m,u.wrong fields n=0
 | [],_=>⟨[],by rw [Tys.ren],rfl,by simp⟩
 | x::l,h=>by
   obtain ⟨y,h1,h2⟩:=Ty.ren_right hf x (h x (GK ..));obtain ⟨m,h3,h4,h5⟩:=Tys.ren_right hf l (fun t ht=>h t (Gr _ ht));refine ⟨y::m,by rw [Tys.ren,h1,h3],by simp [h4],fun u hu=>?_⟩;rcases FX.1 hu with rfl|hu
   · exact h2
   · exact h5 u hu
end
structure JInv (m:Module) (f:Fun) (z:JS):Prop extends JGood z where
 wf:∀t∈z.l,t.wrong 8 z.h.length=0
 keep:∀r:Int,0≤r→r<f.regs→K4 z.h r=true
theorem Tj {h:List Bool}{r:Int}(hr:K4 h r=true):0≤r∧r<h.length:=by have:=cE hr;omega
theorem Ty.fault_wrong {n:Int}(h:t.fault n=0):t.wrong 8 n=0:=by
 unfold Ty.fault at h;split at h
 · cases h
 · exact h
abbrev HW:=@Ty.fault_wrong
theorem vZ {s:JS}{n:Int}(hw:∀t∈s.l,t.wrong 8 n=0):∀{l:List Int}{ts:List Ty},K2 s l= .ok ts→∀t∈ts,t.wrong 8 n=0
 | [],ts,h=>by rw [K2] at h;cases h;simp
 | k::l,ts,h=>by
   rw [K2] at h;obtain ⟨t,h1,h⟩:=Q7 h;obtain ⟨us,h2,h⟩:=Q7 h;cases h;intro u hu;rcases FX.1 hu with rfl|hu
   · exact hw _ (FC (lQ h1).2)
   · exact vZ hw h2 u hu
theorem JInv.at {f:Fun}(hg:JInv m f s){k:Int}(h:L4 s k kd= .ok t):t.wrong 8 s.h.length=0∧0≤t.r∧t.r<s.h.length∧t∈s.l:=by
 have h1:=Xp h;have h2:=Tj h1.2.2.2;exact ⟨hg.wf _ (FC h1.2.1),h2.1,h2.2,FC h1.2.1⟩
theorem wa {f:Fun}{x:Ins}(hF:Qz m.funcs.length x=0)(e:x.op=5)(hg:JInv m f s)(h1:L4 s x.a 2= .ok t)(h2:K2 s x.args= .ok ts):
 (Ty.mk 3 t.r ts).wrong 8 s.h.length=0∧((Ty.mk 3 t.r ts).fault s.h.length≠0↔4<(Ty.mk 3 t.r ts).depth 4):=by
 have h3:=hg.at h1;have h4:=(oU hg.toJGood h2).1;have h5:=vY hF e;have hw:(Ty.mk 3 t.r ts).wrong 8 s.h.length=0:=Hf.2 ⟨Jo,Jo,Jo,Jo,fun _=>by omega,vZ hg.wf h2⟩;refine ⟨hw,?_⟩;have hd:=Ty.depth_iff (Ty.mk 3 t.r ts) (most:=4) Jo;unfold Ty.fault;rw [hw];constructor
 · intro h
   split at h
   · rename_i hb;exact Gn fun hn=>by rw [hd.1 Jo] at hb;cases hb
   · exact absurd rfl h
 · intro h
   rw [if_pos]
   · decide
   · cases hb:(Ty.mk 3 t.r ts).deepB 4 with
     | false=>rfl
     | true=>have:=hd.2 hb;omega
def NY (s:JS)(x:Ins)(ts:List Ty):Except Int JS:=if 80<s.l.length+ts.length then .error 2 else
 .ok ⟨if x.op=3 then s.h++[true] else if x.op=4 then (match s.l[x.a.toNat]? with|some t=>s.h.set t.r.toNat false|none=>s.h) else s.h,s.l++ts⟩
theorem bt {x:Ins}(hn:s.l.length≤80)(h3:x.op≠3)(h4:x.op≠4):NY s x [t]=Me s t:=by
 unfold NY Me;rw [if_neg h3,if_neg h4];by_cases h:s.l.length=80
 · rw [if_pos h,if_pos DE]
 · rw [if_neg h,if_neg DE]
theorem q9 {x:Ins}(hn:s.l.length≤80)(h3:x.op≠3)(h4:x.op≠4):NY s x []= .ok s:=by
 unfold NY;rw [if_neg h3,if_neg h4,if_neg DE,GL]
theorem QU {γ:Type}(x:Except Int α)(f:α→Except Int β)(g:β→Except Int γ):KL (KL x f) g=KL x fun a=>KL (f a) g:=by cases x<;>rfl
theorem QQ {x:Except Int α}{f g:α→Except Int β}(h:∀a,x= .ok a→f a=g a):KL x f=KL x g:=by
 cases x with
 | error e=>rfl
 | ok a=>exact h a rfl
theorem V6 {f:Fun}{x:Ins}(hF:Qz m.funcs.length x=0)(hg:JInv m f s):Lb m f s x=KL (Lv m f s x) (NY s x):=by
 have hop:=aC hF;have hn:=hg.n;rcases Mc (op:=x.op) Jo Jo with e|e|e|e|e|e|e|e|e|e|e|e|e|e
 · rw [Xq Jo,V0 Jo,Q4 rfl,bt hn Jo Jo]
 · rw [aD e,V1 e,QU];refine QQ fun _ _=>?_;rw [QU];refine QQ fun _ _=>?_;rw [Q4 rfl,bt hn Jo Jo]
 · rw [gj e,SE e]
   by_cases h:s.h.length=16
   · rw [if_pos (.inl h),if_pos h,Qy rfl]
   · rw [if_neg h,Q4 rfl]
     unfold NY;rw [if_pos e];by_cases h8:s.l.length=80
     · rw [if_pos (.inr h8),if_pos DE]
     · rw [if_neg Jo,if_neg DE]
 · rw [cG e,dT e,QU]
   refine QQ fun t ht=>?_;by_cases h:t.r<f.regs
   · rw [if_pos h,if_pos h,Qy rfl]
   · rw [if_neg h,if_neg h,Q4 rfl];unfold NY;rw [if_neg (show¬x.op=3 by omega),if_pos e,if_neg DE,(Xp ht).2.1,GL]
 · rw [gk e,kn e,QU];unfold UD
   refine QQ fun t ht=>?_;rw [QU];refine QQ fun ts hts=>?_;have:=(wa hF e hg ht hts).2;by_cases h:4<(Ty.mk 3 t.r ts).depth 4
   · rw [if_pos (this.2 h),if_pos h,Qy rfl]
   · rw [if_neg (fun hh=>h (this.1 hh)),if_neg h,Q4 rfl,bt hn Jo Jo]
 · rw [aE e,SF e,QU];refine QQ fun _ _=>?_;rw [QU];refine QQ fun _ _=>?_;rw [Q4 rfl,bt hn Jo Jo]
 · rw [UE e,gM e,QU];refine QQ fun _ _=>?_;rw [QU];refine QQ fun u _=>?_;rw [QU];refine QQ fun v _=>?_
   by_cases h:u≠v
   · rw [if_pos h,if_pos h,Qy rfl]
   · rw [if_neg h,if_neg h,Q4 rfl,q9 hn Jo Jo]
 · rw [aF e,V2 e,QU];refine QQ fun _ _=>?_;rw [QU];refine QQ fun _ _=>?_;rw [Q4 rfl,bt hn Jo Jo]
 · rw [aG e,V3 e,QU];refine QQ fun _ _=>?_;rw [QU];refine QQ fun _ _=>?_;rw [Q4 rfl,bt hn Jo Jo]
 · rw [aH e,qU e,QU];refine QQ fun _ _=>?_;rw [QU];refine QQ fun _ _=>?_;rw [QU];refine QQ fun _ _=>?_;rw [Q4 rfl,q9 hn Jo Jo]
 · rw [cH e,qV e,QU];refine QQ fun _ _=>?_;rw [Q4 rfl,bt hn Jo Jo]
 · rw [Xq Jo,V0 Jo,Q4 rfl,bt hn Jo Jo]
 · rw [gl e,qW e,QU];refine QQ fun _ _=>?_;rw [Q4 rfl,q9 hn Jo Jo]
 · rw [cI e,V4 e];unfold Rw km
   cases hgf:m.funcs[x.k.toNat]? with
   | none=>rfl
   | some g=>
     dsimp only;by_cases hr:(x.regs.length:Int)≠g.regs
     · rw [if_pos hr,if_pos hr];rfl
     · rw [if_neg hr,if_neg hr,QU];refine QQ fun _ _=>?_;rw [QU];refine QQ fun _ _=>?_;rw [Q4 rfl];unfold NY;rw [if_neg (show¬x.op=3 by omega),if_neg (show¬x.op=4 by omega),FF]
theorem mE {s':JS}{f:Fun}(hw:∀t∈s.l,t.wrong 8 s.h.length=0)(hk:∀r:Int,0≤r→r<f.regs→K4 s.h r=true)(ht:t.wrong 8 s.h.length=0)(h:Me s t= .ok s'):
 (∀t∈s'.l,t.wrong 8 s'.h.length=0)∧(∀r:Int,0≤r→r<f.regs→K4 s'.h r=true):=by
 obtain ⟨h1,h2,h3⟩:=lR h;refine ⟨fun u hu=>?_,fun r=>by rw [h2];exact hk r⟩;rw [h3] at hu;rw [h2];rcases F5.1 hu with hu|hu
 · exact hw u hu
 · simp at hu;subst hu;exact ht
theorem Qc2 (n:Int):KZ.wrong 8 n=0:=by unfold KZ;exact Hf.2 ⟨Jo,Jo,by simp,by simp,Jo,by simp⟩
theorem wb {h:List Bool}{r:Int}(hr:K4 h r=true):K4 (h++[true]) r=true:=by
 obtain ⟨h1,h2,h3⟩:=cE hr;unfold K4;rw [FE] at h3 ⊢;rw [FL Jo,h3,FH];simp;omega
theorem QdJ {h:List Bool}{r k:Int}(hr:K4 h r=true)(hk:0≤k)(hne:k≠r):K4 (h.set k.toNat false) r=true:=by
 obtain ⟨h1,h2,h3⟩:=cE hr;unfold K4;rw [FE] at h3 ⊢;rw [Ht Jo,h3,Gf];simp;omega
theorem kq {f:Fun}{s':JS}{x:Ins}(hM:m.fault.1=0)(hm:m.Short)(hg:JInv m f s)(hF:Qz m.funcs.length x=0)(h:Lb m f s x= .ok s'):JInv m f s':=by
 have hG:=tP hm hg.toJGood hF h
 suffices hh:(∀t∈s'.l,t.wrong 8 s'.h.length=0)∧(∀r:Int,0≤r→r<f.regs→K4 s'.h r=true) from ⟨hG,hh.1,hh.2⟩
 have hop:=aC hF;have hw:=hg.wf;have hk:=hg.keep;rcases Mc (op:=x.op) Jo Jo with e|e|e|e|e|e|e|e|e|e|e|e|e|e
 · rw [Xq Jo] at h;exact Bd
 · rw [aD e] at h;obtain ⟨_,_,h⟩:=Q7 h;obtain ⟨_,_,h⟩:=Q7 h;exact Bd
 · rw [gj e] at h
   split at h
   · cases h
   · cases h
     refine ⟨fun u hu=>?_,fun r h0 h1=>wb (hk r h0 h1)⟩;rw [FH];rcases F5.1 hu with hu|hu
     · exact Ty.wrong_up DE u (hw u hu)
     · simp at hu;subst hu;exact Hf.2 ⟨Jo,Jo,by simp,by simp,fun _=>by simp;omega,by simp⟩
 · rw [cG e] at h
   obtain ⟨t,h1,h⟩:=Q7 h;split at h
   · cases h
   · rename_i hlt;cases h;have:=hg.at h1;refine ⟨fun u hu=>by rw [Gf];exact hw u hu,fun r h0 h1=>QdJ (hk r h0 h1) Jo Jo⟩
 · rw [gk e] at h;unfold UD at h
   obtain ⟨t,h1,h⟩:=Q7 h;obtain ⟨ts,h2,h⟩:=Q7 h;split at h
   · cases h
   · exact mE hw hk (wa hF e hg h1 h2).1 h
 · rw [aE e] at h;obtain ⟨t,h1,h9⟩:=Q7 h;obtain ⟨u,h2,h8⟩:=Q7 h9;have h3:=(hg.at h1).1;clear h h9;obtain ⟨k,r,l⟩:=t;exact mE hw hk ((Hf.1 h3).2.2.2.2.2 u (FC (oV h2))) h8
 · rw [UE e] at h;obtain ⟨_,_,h⟩:=Q7 h;obtain ⟨_,_,h⟩:=Q7 h;obtain ⟨_,_,h⟩:=Q7 h
   split at h
   · cases h
   · cases h;exact ⟨hw,hk⟩
 · rw [aF e] at h;obtain ⟨t,h1,h⟩:=Q7 h;obtain ⟨_,_,h⟩:=Q7 h;have:=hg.at h1;exact mE hw hk (Hf.2 ⟨Jo,Jo,by simp,by simp,fun _=>by omega,by simp⟩) h
 · rw [aG e] at h;obtain ⟨_,_,h⟩:=Q7 h;obtain ⟨_,_,h⟩:=Q7 h;exact Bd
 · rw [aH e] at h;obtain ⟨_,_,h⟩:=Q7 h;obtain ⟨_,_,h⟩:=Q7 h;obtain ⟨_,_,h⟩:=Q7 h;cases h;exact ⟨hw,hk⟩
 · rw [cH e] at h;obtain ⟨_,_,h⟩:=Q7 h;exact Bd
 · rw [Xq Jo] at h;exact Bd
 · rw [gl e] at h;obtain ⟨_,_,h⟩:=Q7 h;cases h;exact ⟨hw,hk⟩
 · rw [cI e] at h
   unfold Rw at h;split at h
   · cases h
   · rename_i g hgf
     split at h
     · cases h
     · rename_i hrl
       obtain ⟨_,h1,h⟩:=Q7 h;obtain ⟨_,_,h⟩:=Q7 h;split at h
       · cases h
       · cases h
         refine ⟨fun u hu=>?_,hk⟩;rcases F5.1 hu with hu|hu
         · exact hw u hu
         · obtain ⟨t,ht,rfl⟩:=Gm.1 hu
           have h2:=HW (i9 (UJ (S1 hM hgf)).2.2.2.1 t ht);have hall:=ja h1;rw [show g.regs=(x.regs.length:Int) by omega] at h2
           obtain ⟨v,h3,h4⟩:=Ty.ren_right (n:=s.h.length) (f:=x.regs) (fun i hi=>by
            rw [FE,FB hi];exact Tj (hall _ (HM hi))) t h2
           unfold Nc;rw [h3];exact h4
theorem V7 {f:Fun}{x:Ins}(hM:m.fault.1=0)(hm:m.Short)(hg:JInv m f s):JInv m f (Lj m f s x).2:=by
 by_cases h:(Lj m f s x).1=0
 · obtain ⟨h1,h2⟩:=oR h;exact kq hM hm hg h1 h2
 · rw [tK h];exact hg
theorem mG (hm:m.Short)(hF:m.fault.1=0){f b:Nat}{x:Fun}{y:Block}(hx:m.funcs[f]?=some x)(hy:x.blocks[b]?=some y):JInv m x (Nd y):=by
 have h1:=aJ (Xr hF hx hy).1;have h2:=UJ (S1 hF hx);have hl:(Nd y).h.length=y.regs.toNat:=(by unfold Nd;simp only [Gw];omega);refine ⟨tQ hm hF hx hy,fun t ht=>?_,fun r h0 hr=>?_⟩
 · rw [hl,Gh Jo];exact HW (i9 h1.2.2.1 t ht)
 · unfold K4;rw [hl];unfold Nd;simp only;rw [FE,Hy,if_pos Jo];simp;omega
theorem wc {h:List Bool}:∀{n:Nat},(∀i:Nat,i<n→h.getD i false=true)→NG h n=LJ n
 | 0,_=>by unfold NG LJ;rfl
 | n+1,hk=>by
   rw [lP,if_pos (hk n Jo),wc (fun i hi=>hk i Jo)];unfold LJ;rw [Ib,Ga];rfl
theorem we {h:List Bool}{n:Nat}:∀k:Nat,∃mo,NG h (n+k)=NG h n++mo∧∀r∈mo,(n:Int)≤r
 | 0=>⟨[],by simp,by simp⟩
 | k + 1=>by
   obtain ⟨mo,h1,h2⟩:=we (h:=h) (n:=n) k;refine ⟨mo++(if h.getD (n+k) false=true then [((n+k:Nat):Int)] else []),?_,fun r hr=>?_⟩
   · rw [show n+(k+1)=n+k+1 by omega,lP,h1,Hg]
   · rcases F5.1 hr with hr|hr
     · exact h2 r hr
     · split at hr
       · simp at hr;omega
       · cases hr
theorem ra {f:Fun}(hg:JInv m f s)(hf:0≤f.regs):(f.regs<(Mq s.h).length↔∃r∈Mq s.h,f.regs≤r):=by
 have hle:f.regs≤s.h.length:=by
  by_cases h:f.regs=0
  · omega
  · have:=Tj (hg.keep (f.regs - 1) Jo Jo);omega
 have h1:NG s.h f.regs.toNat=LJ f.regs.toNat:=wc fun i hi=>(cE (hg.keep i Jo Jo)).2.2;obtain ⟨mo,h2,h3⟩:=we (h:=s.h) (n:=f.regs.toNat) (s.h.length - f.regs.toNat);rw [show f.regs.toNat+(s.h.length - f.regs.toNat)=s.h.length by omega,h1] at h2;have hul:(LJ f.regs.toNat).length=f.regs.toNat:=(by unfold LJ;simp);unfold Mq;rw [h2,FH,hul];constructor
 · intro h
   cases mo with
   | nil=>simp at h;omega
   | cons r mo=>exact ⟨r,by simp,by have:=h3 r Js;omega⟩
 · rintro ⟨r,hr,h⟩
   rcases F5.1 hr with hr|hr
   · unfold LJ at hr;obtain ⟨i,hi,rfl⟩:=Gm.1 hr;have:=Gp.1 hi;simp only [Int.ofNat_eq_natCast] at h;omega
   · have:0<mo.length:=HV hr;omega
theorem dU (m:Module)(f:Fun)(s:JS)(x:Ins):NZ (Lv m f s x):=by
 unfold Lv km
 repeat' (first|exact .o _|exact .e Jd|refine .bind (UH _ _ _) fun _ _=>?_|refine .bind (cN _ _ _) fun _ _=>?_|refine .bind (tJ _ _) fun _ _=>?_|refine .bind (i6 _ _) fun _ _=>?_|refine .bind (oQ _ _) fun _ _=>?_|refine .bind (oP _ _ _) fun _ _=>?_|refine .bind (cO _ _ _ _) fun _ _=>?_|refine .ite ?_ ?_|split)
section
variable {m:Module}{f:Fun}{s:JS}{x:Ins}{ts:List Ty}
theorem dV (h:Qz m.funcs.length x≠0):Lj m f s x=(Qz m.funcs.length x,s):=by unfold Lj;rw [if_pos h]
theorem ks (hF:Qz m.funcs.length x=0)(hg:JInv m f s):Lj m f s x=match KL (Lv m f s x) (NY s x) with
 | .error c=>(c,s)
 | .ok s'=>(0,s'):=by
 unfold Lj;rw [if_neg (fun h=>h hF),V6 hF hg];all_goals (cases KL (Lv m f s x) (NY s x)<;>rfl)
theorem dW (hF:Qz m.funcs.length x=0)(hg:JInv m f s)(h:QW (Lv m f s x)≠0):Lj m f s x=(QW (Lv m f s x),s):=by
 rw [ks hF hg,Qy (mD h)]
theorem dX (hF:Qz m.funcs.length x=0)(hg:JInv m f s)(h:Lv m f s x= .ok ts)(hl:80<s.l.length+ts.length):Lj m f s x=(2,s):=by
 rw [ks hF hg,Q4 h];unfold NY;rw [if_pos hl]
theorem Zl (hF:Qz m.funcs.length x=0)(hg:JInv m f s)(h:Lv m f s x= .ok ts)(hl:¬80<s.l.length+ts.length)(h3:x.op=3):Lj m f s x=(0,⟨s.h++[true],s.l++ts⟩):=by
 rw [ks hF hg,Q4 h];unfold NY;rw [if_neg hl,if_pos h3]
theorem Zm (hF:Qz m.funcs.length x=0)(hg:JInv m f s)(h:Lv m f s x= .ok ts)(hl:¬80<s.l.length+ts.length)(h4:x.op=4)(ht:s.l[x.a.toNat]?=some t):Lj m f s x=(0,⟨s.h.set t.r.toNat false,s.l++ts⟩):=by
 rw [ks hF hg,Q4 h];unfold NY;rw [if_neg hl,if_neg (show¬x.op=3 by omega),if_pos h4,ht]
theorem dY (hF:Qz m.funcs.length x=0)(hg:JInv m f s)(h:Lv m f s x= .ok ts)(hl:¬80<s.l.length+ts.length)(h3:x.op≠3)(h4:x.op≠4):Lj m f s x=(0,⟨s.h,s.l++ts⟩):=by
 rw [ks hF hg,Q4 h];unfold NY;rw [if_neg hl,if_neg h3,if_neg h4]
theorem Zn (h:Lv m f s x= .ok ts)(h3:x.op=3):s.h.length≠16:=by
 rw [SE h3] at h;split at h
 · cases h
 · assumption
theorem Zo (h:Lv m f s x= .ok ts)(h4:x.op=4):∃t,0≤x.a∧x.a<s.l.length∧s.l[x.a.toNat]?=some t∧0≤t.r∧t.r<s.h.length:=by
 rw [dT h4] at h;obtain ⟨t,h1,_⟩:=Q7 h;obtain ⟨h2,h3,h5,h6⟩:=Xp h1;have:=(FD.1 h3).1;have:=Tj h6;exact ⟨t,h2,Jo,h3,this.1,this.2⟩
end
theorem dZ {f:Fun}{e:Tail}(h:NU f.blocks.length e≠0):MD f s e=NU f.blocks.length e:=by unfold MD;rw [if_pos h]
theorem ea {f:Fun}{e:Tail}(h:NU f.blocks.length e=0):MD f s e=QW (MJ f s e):=by
 unfold MD QW;rw [if_neg (fun hn=>hn h)];cases MJ f s e<;>rfl
theorem V8 {f:Nat}{x:Fun}(hF:m.fault.1=0)(hx:m.funcs[f]?=some x):∀b∈x.blocks,x.regs≤b.regs:=by
 intro b hb;obtain ⟨k,hk⟩:=GH.1 hb;exact (aJ (Xr hF hx hk).1).1
def NQ (m:Module)(f:Fun)(fi bi:Nat)(e:Tail):Nat→JS→List Ins→Mw
 | _,s,[]=>LB (MD f s e) (Rd fi bi)
 | i,s,x::l=>if (Lj m f s x).1≠0 then ((Lj m f s x).1,Pu fi bi i) else NQ m f fi bi e (i+1) (Lj m f s x).2 l
def QM (m:Module)(f:Fun)(fi:Nat):Nat→List Block→Mw
 | _,[]=>(0,0)
 | b,y::l=>Ln (NQ m f fi b y.fin 0 (Nd y) y.code) (QM m f fi (b+1) l)
def Pc (m:Module):Nat→List Fun→Mw
 | _,[]=>(0,0)
 | f,x::l=>Ln (QM m x f 0 x.blocks) (Pc m (f+1) l)
def Module.runs (m:Module):Mw:=Ln m.fault (Pc m 0 m.funcs)
theorem rb {m:Module}{f:Fun}{fi bi:Nat}{e:Tail}:∀{l:List Ins}{i:Nat}{s:JS},(NQ m f fi bi e i s l).1=0→NQ m f fi bi e i s l=(0,0)
 | [],_,_,h=>by rw [NQ] at h ⊢;exact SY _ _ h
 | x::l,i,s,h=>by
   rw [NQ] at h ⊢;split at h
   · rename_i hn;exact absurd h hn
   · rename_i hn;rw [if_neg hn];exact rb h
theorem mH {m:Module}{f:Fun}{fi:Nat}:∀{l:List Block}{b:Nat},(QM m f fi b l).1=0→QM m f fi b l=(0,0)
 | [],_,_=>by rw [QM]
 | x::l,b,h=>by rw [QM] at h ⊢;exact Xn rb mH h
theorem re {m:Module}:∀{l:List Fun}{f:Nat},(Pc m f l).1=0→Pc m f l=(0,0)
 | [],_,_=>by rw [Pc]
 | x::l,b,h=>by rw [Pc] at h ⊢;exact Xn mH re h
section
variable {m:Module}{f:Fun}{fi bi i b:Nat}{e:Tail}{s:JS}{x:Ins}{l:List Ins}{y:Block}{k:List Block}
theorem rf (h:(Lj m f s x).1=0):NQ m f fi bi e i s (x::l)=NQ m f fi bi e (i+1) (Lj m f s x).2 l:=by rw [NQ,if_neg (fun hn=>hn h)]
theorem rh (h:(Lj m f s x).1≠0):NQ m f fi bi e i s (x::l)=((Lj m f s x).1,Pu fi bi i):=by rw [NQ,if_pos h]
theorem Q9W (h:(NQ m f fi b y.fin 0 (Nd y) y.code).1=0):QM m f fi b (y::k)=QM m f fi (b+1) k:=by
 rw [QM,rb h];exact MH mH
theorem Q9V (h:(NQ m f fi b y.fin 0 (Nd y) y.code).1≠0):QM m f fi b (y::k)=NQ m f fi b y.fin 0 (Nd y) y.code:=by
 rw [QM,O0 h]
theorem Qcu {k:List Fun}(h:(QM m f fi 0 f.blocks).1=0):Pc m fi (f::k)=Pc m (fi+1) k:=by
 rw [Pc,mH h];exact MH re
theorem Qct {k:List Fun}(h:(QM m f fi 0 f.blocks).1≠0):Pc m fi (f::k)=QM m f fi 0 f.blocks:=by
 rw [Pc,O0 h]
theorem ri (h:l.length≤i):NQ m f fi bi e i s (l.drop i)=LB (MD f s e) (Rd fi bi):=by rw [FJ h,NQ]
theorem rj {E:Mw}(hd:m.runs=Pc m q (m.funcs.drop q))(hf:m.funcs[q]?=some f)(hdb:QM m f q 0 f.blocks=QM m f q b (f.blocks.drop b))(hy:f.blocks[b]?=some y)(h0:NQ m f q b y.fin 0 (Nd y) y.code=E)(hE:E.1≠0):m.runs=E:=by
 have h1:QM m f q 0 f.blocks=E:=(by rw [hdb,Q1 hy,Q9V (by rw [h0];exact hE),h0]);rw [hd,Q1 hf,Qct (by rw [h1];exact hE),h1]
theorem V9 (hdb:QM m f q 0 f.blocks=QM m f q b (f.blocks.drop b))(hy:f.blocks[b]?=some y)(h0:(NQ m f q b y.fin 0 (Nd y) y.code).1=0):QM m f q 0 f.blocks=QM m f q (b+1) (f.blocks.drop (b+1)):=by
 rw [hdb,Q1 hy,Q9W h0]
theorem Wa (hd:m.runs=Pc m q (m.funcs.drop q))(hf:m.funcs[q]?=some f)(hdb:QM m f q 0 f.blocks=QM m f q b (f.blocks.drop b))(hb:f.blocks.length≤b):m.runs=Pc m (q+1) (m.funcs.drop (q+1)):=by
 rw [hd,Q1 hf,Qcu (by rw [hdb,FJ hb,QM])]
theorem Wb (hd:m.runs=Pc m q (m.funcs.drop q))(hq:m.funcs.length≤q):m.runs=(0,0):=by
 rw [hd,FJ hq,Pc]
theorem wg (h:m.fault.1≠0):m.runs=m.fault:=by unfold Module.runs;exact O0 h
theorem wh (h:m.fault.1=0):m.runs=Pc m 0 m.funcs:=by unfold Module.runs;rw [Module.fault_z h];exact MH re
end
end
section
mutual
def Ty.rn:Ty→List Int→Ty
 | .mk k r l,f=> .mk k (if k≠1 then f.getD r.toNat 0 else r) (Tys.rn l f)
def Tys.rn:List Ty→List Int→List Ty
 | [],_=>[]
 | x::l,f=>x.rn f::Tys.rn l f
end
theorem Tys.rn_map (f:List Int):∀l:List Ty,Tys.rn l f=l.map fun t=>t.rn f
 | []=>by rw [Tys.rn];rfl
 | x::l=>by rw [Tys.rn,Tys.rn_map f l];rfl
abbrev KB:=@Tys.rn_map
theorem Ty.rn_mk (k r:Int)(l:List Ty)(f:List Int):(Ty.mk k r l).rn f= .mk k (if k≠1 then f.getD r.toNat 0 else r) (l.map fun t=>t.rn f):=by rw [Ty.rn,KB]
abbrev HX:=@Ty.rn_mk
theorem Ty.rn_kind (t:Ty)(f:List Int):(t.rn f).kind=t.kind:=by obtain ⟨k,r,l⟩:=t;rw [Ty.rn];rfl
abbrev Iu:=@Ty.rn_kind
theorem Ty.rn_r (f:List Int)(h:t.kind≠1):(t.rn f).r=f.getD t.r.toNat 0:=by obtain ⟨k,r,l⟩:=t;rw [Ty.rn];exact if_pos h
theorem Ty.rn_mr {k r:Int}{l:List Ty}(f:List Int)(h:k≠1):((Ty.mk k r l).rn f).r=f.getD r.toNat 0:=by rw [Ty.rn];exact if_pos h
theorem Ty.rn_l (t:Ty)(f:List Int):(t.rn f).l=t.l.map fun t=>t.rn f:=by obtain ⟨k,r,l⟩:=t;rw [HX];rfl
theorem Tys.ren_map {f:List Int}:∀{l m:List Ty},(∀x∈l,∀u,x.ren f=some u→u=x.rn f)→Tys.ren l f=some m→m=l.map fun t=>t.rn f
 | [],m,_,h=>by rw [Tys.ren] at h;cases h;rfl
 | x ::l,m,hx,h=>by
   rw [Tys.ren] at h
   cases h1:x.ren f with
   | none=>rw [h1] at h;cases h
   | some y=>
     rw [h1] at h
     cases h2:Tys.ren l f with
     | none=>rw [h2] at h;cases h
     | some m2=>
       rw [h2] at h;cases h;rw [He,hx x (GK ..) y h1,Tys.ren_map (fun z hz=>hx z (Gr _ hz)) h2]
abbrev Kn:=@Tys.ren_map
theorem Ty.rn_of {f:List Int}:∀(t u:Ty),t.ren f=some u→u=t.rn f:=by
 intro t
 induction t using HI with
 | h k r l ih=>
   intro u h;rw [Ty.ren] at h;split at h
   · cases h
   · split at h
     · cases h
     · rename_i m hm;cases h;rw [HX,Kn ih hm]
theorem Ty.rn_congr {f g:List Int}{n:Int}(h:∀i:Nat,(i:Int)<n→f.getD i 0=g.getD i 0):∀t:Ty,t.wrong 8 n=0→t.rn f=t.rn g:=by
 intro t
 induction t using HI with
 | h k r l ih=>
   intro hw;obtain ⟨h1,h2,h3,h4,h5,h6⟩:=Hf.1 hw;rw [HX,HX,Hh fun x hx=>ih x hx (h6 x hx)];by_cases hk:k≠1
   · rw [if_pos hk,if_pos hk,h r.toNat ED]
   · rw [if_neg hk,if_neg hk]
abbrev Ko:=@Ty.rn_congr
theorem Ty.rn_rn {f g e:List Int}{n:Int}(h:∀i:Nat,(i:Int)<n→e.getD i 0=g.getD (f.getD i 0).toNat 0):∀t:Ty,t.wrong 8 n=0→(t.rn f).rn g=t.rn e:=by
 intro t
 induction t using HI with
 | h k r l ih=>
   intro hw;obtain ⟨h1,h2,h3,h4,h5,h6⟩:=Hf.1 hw;rw [HX,HX,HX,List.map_map];have hl:(l.map ((fun t:Ty=>t.rn g)∘fun t=>t.rn f))=l.map fun t=>t.rn e:=Hh fun x hx=>ih x hx (h6 x hx);rw [hl];by_cases hk:k≠1
   · rw [if_pos hk,if_pos hk,if_pos hk,h r.toNat ED]
   · rw [if_neg hk,if_neg hk,if_neg hk]
abbrev Kp:=@Ty.rn_rn
abbrev L9:=Int→Int→Option Ty
structure VT (Ψ:L9) (v:Val) (t:Ty):Prop where
 kind:v.kind=t.kind
 reg:t.kind≠1→v.region=t.r
 thing:t.kind=3∨t.kind=4→Ψ v.region v.thing=some t
def Wc (Ψ Ψ':L9):Prop:=∀k j t,Ψ k j=some t→Ψ' k j=some t
theorem VT.ext {Ψ Ψ':L9}{v:Val}(h:VT Ψ v t)(he:Wc Ψ Ψ'):VT Ψ' v t:=⟨h.kind,h.reg,fun hk=>he _ _ _ (h.thing hk)⟩
theorem Wc.refl (Ψ:L9):Wc Ψ Ψ:=fun _ _ _ h=>h
abbrev IZ:=@Wc.refl
def MZ (Ψ:L9)(l:List Val)(ts:List Ty):Prop:=l.length=ts.length∧∀(i:Nat) (v:Val) (t:Ty),l[i]?=some v→ts[i]?=some t→VT Ψ v t
theorem MZ.ext {Ψ Ψ':L9}(h:MZ Ψ l ts)(he:Wc Ψ Ψ'):MZ Ψ' l ts:=⟨h.1,fun i v t h1 h2=>(h.2 i v t h1 h2).ext he⟩
theorem MZ.nil (Ψ:L9):MZ Ψ [] []:=⟨rfl,fun i v t h=>by simp at h⟩
abbrev Jh:=@MZ.nil
theorem MZ.get {Ψ:L9}(h:MZ Ψ l ts){i:Nat}(ht:ts[i]?=some t):∃v,l[i]?=some v∧VT Ψ v t:=by
 have h1:=(FD.1 ht).1;have h0:i<l.length:=(by rw [h.1];exact h1);have h2:l[i]?=some l[i]:=FB h0;exact ⟨_,h2,h.2 i _ t h2 ht⟩
theorem MZ.app {Ψ:L9}{ts2:List Ty}(h:MZ Ψ l ts)(h2:MZ Ψ l2 ts2):MZ Ψ (l++l2) (ts++ts2):=by
 refine ⟨by rw [FH,FH,h.1,h2.1],fun i v t hv ht=>?_⟩;by_cases hi:i<l.length
 · rw [FL hi] at hv;rw [FL (by rw [←h.1];exact hi)] at ht;exact h.2 i v t hv ht
 · rw [FI Jo] at hv;rw [FI (by rw [←h.1];omega),←h.1] at ht;exact h2.2 _ v t hv ht
abbrev KH:=@MZ.app
theorem MZ.one {Ψ:L9}{v:Val}(h:VT Ψ v t):MZ Ψ [v] [t]:=by
 refine ⟨rfl,fun i v' t' hv ht=>?_⟩
 cases i with
 | zero=>simp at hv ht;subst hv ht;exact h
 | succ i=>simp at hv
abbrev Ji:=@MZ.one
theorem MZ.cons {Ψ:L9}{v:Val}{t:Ty}{l:List Val}{ts:List Ty}(h:VT Ψ v t)(h2:MZ Ψ l ts):MZ Ψ (v::l) (t::ts):=KH (Ji h) h2
theorem MZ.set {Ψ:L9}(h:MZ Ψ l ts){k:Nat}{v:Val}(ht:ts[k]?=some t)(hv:VT Ψ v t):MZ Ψ (l.set k v) ts:=by
 refine ⟨by rw [Gf];exact h.1,fun i u w hu hw=>?_⟩;rw [G9] at hu;split at hu
 · rename_i hk
   subst hk;split at hu
   · cases hu;rw [ht] at hw;cases hw;exact hv
   · cases hu
 · exact h.2 i u w hu hw
def N0 (Ψ:L9)(x:Thg)(t:Ty):Prop:=x.array=decide (t.kind=4)∧(t.kind=3→MZ Ψ x.l t.l)∧(t.kind=4→x.l.length≤15∧∀v∈x.l,v.kind=1)
theorem N0.ext {Ψ Ψ':L9}{x:Thg}(h:N0 Ψ x t)(he:Wc Ψ Ψ'):N0 Ψ' x t:=⟨h.1,fun hk=>(h.2.1 hk).ext he,h.2.2⟩
theorem N0.tup {Ψ:L9}(hk:t.kind=3)(h:MZ Ψ l t.l):N0 Ψ ⟨false,l⟩ t:=by
 refine ⟨?_,fun _=>h,fun h4=>?_⟩
 · rw [hk];rfl
 · rw [hk] at h4;cases h4
theorem N0.arr {Ψ:L9}(hk:t.kind=4)(hl:l.length≤15)(h:∀v∈l,v.kind=1):N0 Ψ ⟨true,l⟩ t:=by
 refine ⟨?_,fun h3=>?_,fun _=>⟨hl,h⟩⟩
 · rw [hk];rfl
 · rw [hk] at h3;cases h3
structure HTy (Ψ:L9) (h:HpS):Prop where
 dom:∀k j t,Ψ k j=some t→0≤k∧k<h.l.length∧t.r=k∧(t.kind=3∨t.kind=4)
 here:∀k j t,Ψ k j=some t→h.has k=true→0≤j∧j<(h.reg k).l.length∧N0 Ψ (h.thg k.toNat j.toNat) t
section
variable {Ψ Ψ':L9}{h:HpS}{v x:Val}{t u:Ty}{k j:Int}
theorem mI {l:List Rgn}(k:Int):(⟨l,left⟩:HpS).reg k=if 0≤k then l.getD k.toNat Rgn.none else Rgn.none:=rfl
theorem SG (hh:h.has k=true):0≤k∧k<h.l.length∧h.l[k.toNat]?=some (h.reg k)∧(h.reg k).there=true:=by
 have hh':=hh;unfold HpS.has HpS.reg at hh;split at hh
 · rename_i h0
   rw [FE] at hh
   cases hk:h.l[k.toNat]? with
   | none=>rw [hk] at hh;cases hh
   | some r=>
     have hlt:=(FD.1 hk).1;refine ⟨h0,Jo,?_,hh'⟩;unfold HpS.reg;rw [if_pos h0,FE,hk];rfl
 · cases hh
theorem reg_set {l:List Rgn}{left':Int}{m:Nat}{r:Rgn}(hm:m<l.length)(k:Int):(⟨l.set m r,left⟩:HpS).reg k=if k=m then r else (⟨l,left'⟩:HpS).reg k:=by
 rw [mI,mI];by_cases h0:0≤k
 · rw [if_pos h0,if_pos h0,FE,G9]
   by_cases hk:k=m
   · rw [if_pos hk,if_pos Jo,if_pos hm];rfl
   · rw [if_neg hk,if_neg Jo,FE]
 · rw [if_neg h0,if_neg h0,if_neg Jo]
theorem mJ {l:List Rgn}{a:Int}{r:Rgn}(k:Int):(⟨l++[r],a⟩:HpS).reg k=if k=l.length then r else (⟨l,a⟩:HpS).reg k:=by
 rw [mI,mI];by_cases h0:0≤k
 · rw [if_pos h0,if_pos h0,FE,FE]
   by_cases hk:k=l.length
   · rw [if_pos hk,FI Jo,show k.toNat - l.length=0 by omega];rfl
   · rw [if_neg hk]
     by_cases hl:k<l.length
     · rw [FL Jo]
     · rw [Gb (by rw [FH];simp only [FP,F8];omega),Gb Jo]
 · rw [if_neg h0,if_neg h0,if_neg Jo]
theorem Wd (hv:VT Ψ v t)(hk:t.kind=2)(hh:h.has t.r=true):h.can v=true:=by
 unfold HpS.can;rw [hv.kind,hk,hv.reg Jo,hh];rfl
theorem gO (hH:HTy Ψ h)(hv:VT Ψ v t)(hk:t.kind=3∨t.kind=4)(hh:h.has t.r=true):h.at_ v=some (v.region.toNat,v.thing.toNat)∧v.region=t.r∧0≤v.thing∧v.thing<(h.reg t.r).l.length∧N0 Ψ (h.thg v.region.toNat v.thing.toNat) t:=by
 have hr:=hv.reg Jo;have hp:=hv.thing hk;obtain ⟨h1,h2,h3⟩:=hH.here _ _ _ hp (by rw [hr];exact hh);refine ⟨?_,hr,h1,by rw [←hr];exact h2,h3⟩;unfold HpS.at_;rw [if_pos];exact ⟨by rw [hv.kind];exact hk,by rw [hr];exact hh,h1,h2,by rw [h3.1,hv.kind]⟩
theorem ec (hH:HTy Ψ h)(hv:VT Ψ v t)(hk:t.kind=3)(hh:h.has t.r=true){i:Int}(h0:0≤i)(hu:t.l[i.toNat]?=some u):(h.get v i).2=0∧VT Ψ (h.get v i).1 u:=by
 obtain ⟨h1,h2,h3,h4,h5⟩:=gO hH hv (.inl hk) hh;obtain ⟨y,h6,h7⟩:=(h5.2.1 hk).get hu;have h8:=(FD.1 h6).1;unfold HpS.get;rw [h1];dsimp only;rw [if_pos ⟨h0,Jo⟩];refine ⟨rfl,?_⟩;dsimp only;rw [FE,h6];exact h7
theorem Zp (hH:HTy Ψ h)(hv:VT Ψ v t)(hk:t.kind=4)(hh:h.has t.r=true)(i:Int):(h.get v i).2=1∨((h.get v i).2=0∧(h.get v i).1.kind=1):=by
 obtain ⟨h1,h2,h3,h4,h5⟩:=gO hH hv (.inr hk) hh;unfold HpS.get;rw [h1];dsimp only;by_cases hi:0≤i∧i<(h.thg v.region.toNat v.thing.toNat).l.length
 · rw [if_pos hi];refine .inr ⟨rfl,?_⟩;have h6:(h.thg v.region.toNat v.thing.toNat).l[i.toNat]?=some (h.thg v.region.toNat v.thing.toNat).l[i.toNat]:=FB Jo;dsimp only;rw [FE,h6];exact (h5.2.2 hk).2 _ (FC h6)
 · rw [if_neg hi];exact .inl rfl
theorem ee (hH:HTy Ψ h)(hv:VT Ψ v t)(hk:t.kind=4)(hh:h.has t.r=true):(h.len v).2=0:=by
 obtain ⟨h1,_⟩:=gO hH hv (.inr hk) hh;unfold HpS.len;rw [h1]
theorem We (hH:HTy Ψ h):HTy Ψ h.open:=by
 by_cases hf:h.full=true
 · have e:h.open=h:=(by unfold HpS.open;rw [if_pos hf]);rw [e];exact hH
 · have e:h.open=⟨h.l++[⟨true,[],0,0⟩],h.left⟩:=by unfold HpS.open;rw [if_neg hf]
   rw [e];refine ⟨fun k j t hp=>?_,fun k j t hp hh=>?_⟩
   · obtain ⟨h1,h2,h3⟩:=hH.dom k j t hp;exact ⟨h1,by rw [FH];simp only [FP,F8];omega,h3⟩
   · obtain ⟨h1,h2,h3⟩:=hH.dom k j t hp;have hr:(⟨h.l++[⟨true,[],0,0⟩],h.left⟩:HpS).reg k=h.reg k:=(by rw [mJ,if_neg Jo]);have hr2:(⟨h.l++[⟨true,[],0,0⟩],h.left⟩:HpS).reg (k.toNat:Int)=h.reg (k.toNat:Int):=(by rw [mJ,if_neg Jo]);have hh2:h.has k=true:=(by unfold HpS.has at hh ⊢;rw [hr] at hh;exact hh);obtain ⟨h4,h5,h6⟩:=hH.here k j t hp hh2;refine ⟨h4,by rw [hr];exact h5,?_⟩;unfold HpS.thg at h6 ⊢;rw [hr2];exact h6
theorem Wf (hH:HTy Ψ h):HTy Ψ (h.shut v):=by
 cases hc:h.can v with
 | false => have e:h.shut v=h:=by unfold HpS.shut;rw [hc];rfl
            rw [e];exact hH
 | true=>
   have e:h.shut v=⟨h.l.set v.region.toNat Rgn.none,h.left+(h.reg v.region).pages⟩:=(by unfold HpS.shut;rw [hc];rfl);unfold HpS.can at hc;rw [FN] at hc;obtain ⟨g0,g1,g2,g3⟩:=SG hc.2;rw [e];refine ⟨fun k j t hp=>?_,fun k j t hp hh=>?_⟩
   · obtain ⟨h1,h2,h3⟩:=hH.dom k j t hp;exact ⟨h1,by rw [Gf];exact h2,h3⟩
   · obtain ⟨h1,h2,h3⟩:=hH.dom k j t hp
     have hr:∀q:Int,q≠v.region→(⟨h.l.set v.region.toNat Rgn.none,h.left+(h.reg v.region).pages⟩:HpS).reg q=h.reg q:=fun q hq=>by
      rw [reg_set (left':=h.left) Jo,if_neg Jo]
     have hne:k≠v.region:=fun hk=>by
      unfold HpS.has at hh;rw [reg_set (left':=h.left) Jo,if_pos Jo] at hh;cases hh
     have hh2:h.has k=true:=(by unfold HpS.has at hh ⊢;rw [hr k hne] at hh;exact hh);obtain ⟨h4,h5,h6⟩:=hH.here k j t hp hh2;refine ⟨h4,by rw [hr k hne];exact h5,?_⟩;unfold HpS.thg at h6 ⊢;rw [hr _ Jo];exact h6
def R1 (Ψ:L9)(a b:Int)(t:Ty):L9:=fun k j=>if k=a∧j=b then some t else Ψ k j
theorem QhI (hH:HTy Ψ h)(hh:h.has k=true):Wc Ψ (R1 Ψ k (h.reg k).l.length t):=by
 intro a b u hp;unfold R1;by_cases hab:a=k∧b=(h.reg k).l.length
 · obtain ⟨rfl,rfl⟩:=hab;have:=(hH.here _ _ _ hp hh).2.1;omega
 · rw [if_neg hab];exact hp
theorem QiG {n:Int}(hc:h.code v n=0):h.can v=true∧h.has v.region=true:=by
 unfold HpS.code at hc
 cases hx:h.can v with
 | false=>rw [hx] at hc;cases hc
 | true=>
   refine ⟨rfl,?_⟩;unfold HpS.can at hx;rw [FN] at hx;exact hx.2
theorem SH (hv:VT Ψ v t)(hk:t.kind=2)(hh:h.has t.r=true)(n:Int):h.code v n=0∨h.code v n=14:=by
 unfold HpS.code;rw [Wd hv hk hh];rw [if_neg Jd];split
 · exact .inr rfl
 · exact .inl rfl
theorem wi {n:Int}{x:Thg}(hH:HTy Ψ h)(hc:h.code v n=0)(hr:t.r=v.region)(hk:t.kind=3∨t.kind=4)(hx:N0 Ψ x t):
 HTy (R1 Ψ v.region (h.reg v.region).l.length t) (h.put v n x)∧Wc Ψ (R1 Ψ v.region (h.reg v.region).l.length t)∧(∀q,(h.put v n x).has q=h.has q)∧VT (R1 Ψ v.region (h.reg v.region).l.length t) (h.putV v t.kind n) t:=by
 obtain ⟨_,hh⟩:=QiG hc;obtain ⟨g0,g1,g2,g3⟩:=SG hh;have hE:=QhI (t:=t) hH hh;have e:h.put v n x=⟨h.l.set v.region.toNat (((h.reg v.region).room n).push x),if (h.reg v.region).more n then h.left - 1 else h.left⟩:=by unfold HpS.put;rw [if_pos hc]
 have hrl:(((h.reg v.region).room n).push x).l=(h.reg v.region).l++[x]∧(((h.reg v.region).room n).push x).there=true:=by
  unfold Rgn.room Rgn.push;split<;>exact ⟨rfl,g3⟩
 have hreg:∀q:Int,(h.put v n x).reg q=if q=v.region then ((h.reg v.region).room n).push x else h.reg q:=fun q=>by
  rw [e,reg_set (left':=h.left) Jo,show ((v.region.toNat:Nat):Int)=v.region by omega]
 have hhas:∀q,(h.put v n x).has q=h.has q:=fun q=>by
  unfold HpS.has;rw [hreg];by_cases hq:q=v.region
  · rw [if_pos hq,hq,hrl.2,g3]
  · rw [if_neg hq]
 refine ⟨⟨fun k j u hp=>?_,fun k j u hp hk2=>?_⟩,hE,hhas,?_⟩
 · unfold R1 at hp
   rw [show (h.put v n x).l.length=h.l.length by rw [e,Gf]];by_cases hab:k=v.region∧j=(h.reg v.region).l.length
   · rw [if_pos hab] at hp;cases hp;exact ⟨Jo,Jo,Jo,hk⟩
   · rw [if_neg hab] at hp;exact hH.dom k j u hp
 · rw [hhas] at hk2
   unfold R1 at hp;by_cases hab:k=v.region∧j=(h.reg v.region).l.length
   · rw [if_pos hab] at hp;cases hp;obtain ⟨rfl,rfl⟩:=hab;refine ⟨Jo,by rw [hreg,if_pos rfl,hrl.1,FH];simp only [FP,F8];omega,?_⟩;unfold HpS.thg;rw [hreg,if_pos Jo,hrl.1,F9,FE,FI (F6 _),HN];exact hx.ext hE
   · rw [if_neg hab] at hp
     obtain ⟨h1,h2,h3⟩:=hH.here k j u hp hk2;obtain ⟨d1,d2,d3⟩:=hH.dom k j u hp;by_cases hq:k=v.region
     · subst hq;refine ⟨h1,by rw [hreg,if_pos rfl,hrl.1,FH];omega,?_⟩;unfold HpS.thg at h3 ⊢;rw [hreg,if_pos Jo,hrl.1,FE,FL Jo,←FE];rw [show ((v.region.toNat:Nat):Int)=v.region by omega] at h3;exact h3.ext hE
     · refine ⟨h1,by rw [hreg,if_neg hq];exact h2,?_⟩;unfold HpS.thg at h3 ⊢;rw [hreg,if_neg Jo];exact h3.ext hE
 · have ep:h.putV v t.kind n=⟨t.kind,v.region,(h.reg v.region).l.length,0⟩:=(by unfold HpS.putV;rw [if_pos hc]);rw [ep];exact ⟨rfl,fun _=>hr.symm,fun _=>if_pos ⟨rfl,rfl⟩⟩
theorem wj {i:Int}(hH:HTy Ψ h)(hv:VT Ψ v t)(hk:t.kind=3∨t.kind=4)(hh:h.has t.r=true)(hy3:t.kind=3→∀u,t.l[i.toNat]?=some u→VT Ψ y u)(hy4:t.kind=4→y.kind=1):
 HTy Ψ (h.set v i y)∧(∀q,(h.set v i y).has q=h.has q):=by
 obtain ⟨h1,h2,h3,h4,h5⟩:=gO hH hv hk hh;unfold HpS.set;rw [h1];dsimp only;split
 · rename_i hc
   obtain ⟨g0,g1,g2,g3⟩:=SG hh;rw [←h2] at g0 g1 g2 g3 hh h4
   have hin:0≤i∧i<(h.thg v.region.toNat v.thing.toNat).l.length:=by
    unfold HpS.setC at hc;rw [h1] at hc;dsimp only at hc;split at hc
    · cases hc
    · split at hc
      · assumption
      · cases hc
   have hrr:h.reg ((v.region.toNat:Nat):Int)=h.reg v.region:=by rw [show ((v.region.toNat:Nat):Int)=v.region by omega]
   have hreg:∀q:Int,(⟨h.l.set v.region.toNat ((h.reg v.region.toNat).upd v.thing.toNat ((h.thg v.region.toNat v.thing.toNat).upd i.toNat y)),h.left⟩:HpS).reg q=if q=v.region then (h.reg v.region).upd v.thing.toNat ((h.thg v.region.toNat v.thing.toNat).upd i.toNat y) else h.reg q:=fun q=>by
    rw [reg_set (left':=h.left) Jo,hrr,show ((v.region.toNat:Nat):Int)=v.region by omega]
   have hhas:∀q,(⟨h.l.set v.region.toNat ((h.reg v.region.toNat).upd v.thing.toNat ((h.thg v.region.toNat v.thing.toNat).upd i.toNat y)),h.left⟩:HpS).has q=h.has q:=fun q=>by
    unfold HpS.has;rw [hreg];by_cases hq:q=v.region
    · rw [if_pos hq,hq];rfl
    · rw [if_neg hq]
   have hlen:(⟨h.l.set v.region.toNat ((h.reg v.region.toNat).upd v.thing.toNat ((h.thg v.region.toNat v.thing.toNat).upd i.toNat y)),h.left⟩:HpS).l.length=h.l.length:=Gf;generalize (⟨h.l.set v.region.toNat ((h.reg v.region.toNat).upd v.thing.toNat ((h.thg v.region.toNat v.thing.toNat).upd i.toNat y)),h.left⟩:HpS)=H at hreg hhas hlen ⊢;refine ⟨⟨fun k j u hp=>?_,fun k j u hp hk2=>?_⟩,hhas⟩
   · obtain ⟨d1,d2,d3⟩:=hH.dom k j u hp;exact ⟨d1,by rw [hlen];exact d2,d3⟩
   · rw [hhas] at hk2
     obtain ⟨e1,e2,e3⟩:=hH.here k j u hp hk2;obtain ⟨d1,d2,d3⟩:=hH.dom k j u hp;by_cases hq:k=v.region
     · subst hq
       refine ⟨e1,by rw [hreg,if_pos rfl];show j<((h.reg v.region).l.set _ _).length;rw [Gf];exact e2,?_⟩;unfold HpS.thg;rw [hreg,if_pos Jo];show N0 Ψ (((h.reg v.region).l.set v.thing.toNat _).getD j.toNat _) u;rw [FE,G9];by_cases hj:v.thing.toNat=j.toNat
       · rw [if_pos hj,if_pos Jo]
         have hjv:j=v.thing:=DB;subst hjv;have hu:u=t:=(by have:=hv.thing hk;rw [hp] at this;cases this;rfl);subst hu;refine ⟨h5.1,fun h3'=>?_,fun h4'=>?_⟩
         · show MZ Ψ ((h.thg v.region.toNat v.thing.toNat).l.set i.toNat y) u.l;have h6:=h5.2.1 h3';have h0':i.toNat<u.l.length:=(by rw [←h6.1];omega);have h7:u.l[i.toNat]?=some u.l[i.toNat]:=FB h0';exact h6.set h7 (hy3 h3' _ h7)
         · refine ⟨by show ((h.thg v.region.toNat v.thing.toNat).l.set i.toNat y).length≤15;rw [Gf];exact (h5.2.2 h4').1,fun z hz=>?_⟩
           rcases L8 hz with rfl|hz
           · exact hy4 h4'
           · exact (h5.2.2 h4').2 z hz
       · rw [if_neg hj];unfold HpS.thg at e3;rw [hrr,FE] at e3;exact e3
     · refine ⟨e1,by rw [hreg,if_neg hq];exact e2,?_⟩;unfold HpS.thg at e3 ⊢;rw [hreg,if_neg Jo];exact e3
 · exact ⟨hH,fun _=>rfl⟩
theorem Zq (hH:HTy Ψ h)(hv:VT Ψ v t)(hk:t.kind=3)(hh:h.has t.r=true){i:Int}(h0:0≤i)(hu:t.l[i.toNat]?=some u)(y:Val):h.setC v i y=0:=by
 obtain ⟨h1,h2,h3,h4,h5⟩:=gO hH hv (.inl hk) hh;obtain ⟨z,h6,h7⟩:=(h5.2.1 hk).get hu;have h8:=(FD.1 h6).1;unfold HpS.setC;rw [h1];dsimp only;rw [if_neg (by rw [h5.1,hk];simp),if_pos ⟨h0,Jo⟩]
theorem Wg (hH:HTy Ψ h)(hv:VT Ψ v t)(hk:t.kind=4)(hh:h.has t.r=true)(i:Int)(hy:y.kind=1):h.setC v i y=0∨h.setC v i y=1:=by
 obtain ⟨h1,h2,h3,h4,h5⟩:=gO hH hv (.inr hk) hh;unfold HpS.setC;rw [h1];dsimp only;rw [if_neg (by rw [hy];simp)];split
 · exact .inl rfl
 · exact .inr rfl
end
end
end Go.Lir
namespace Go.Proofs.YteflkifmgnpbhaaGreat
open Go.Lir
structure RMap where
 σ:Nat→Nat
 a:Nat→Nat→Int
def N1 (φ:RMap)(h:HpS)(v:Val)(n:Int):Prop:=
 (v.kind=1→n=v.n)∧(v.kind≠1→0≤v.region∧v.region<h.l.length)∧(v.kind=2→h.has v.region=true→n=φ.σ v.region.toNat)∧
 (v.kind=3∨v.kind=4→h.has v.region=true→0≤v.thing∧v.thing<(h.reg v.region).l.length∧n=φ.a v.region.toNat v.thing.toNat)
def Ml (φ:RMap)(h:HpS)(l:List Val)(ns:List Int):Prop:=l.length=ns.length∧∀(i:Nat) (v:Val) (n:Int),l[i]?=some v→ns[i]?=some n→N1 φ h v n
end Go.Proofs.YteflkifmgnpbhaaGreat
namespace Go.Lir
def Thg.off (t:Thg):Int:=if t.array=true then 1 else 0
def Thg.size (t:Thg):Int:=if t.array=true then 1+t.l.length else Mv t.l
end Go.Lir
namespace Go.Proofs.YteflkifmgnpbhaaGreat
open Go.Lir
section
def Tk (φ:RMap)(h:HpS)(e:EstS)(A:Int)(t:Thg):Prop:=(t.array=true→e.word A=t.l.length)∧∀(i:Nat) (v:Val),t.l[i]?=some v→N1 φ h v (e.word (A+t.off+i))
def P4 (h:HpS)(r t:Nat)(x:Thg):Prop:=h.has r=true∧(h.reg r).l[t]?=some x
structure WHR (φ:RMap) (h:HpS) (e:EstS):Prop where
 ok:e.Ok
 left:h.left=e.p.fr.length
 cnt:e.count=h.live
 live:∀r:Nat,h.has r=true→φ.σ r<16∧(e.reg (φ.σ r)).there=true∧((e.reg (φ.σ r)).pages.length:Int)=(h.reg r).pages∧(e.reg (φ.σ r)).used=(h.reg r).used
 inj:∀r q:Nat,h.has r=true→h.has q=true→φ.σ r=φ.σ q→r=q
 z:∀k:Nat,k<16→(e.reg k).pages≠[]→∀j:Int,(e.reg k).used≤j→j<16→e.p.word ((e.reg k).last*16+j)=0
 at_:∀(r t:Nat) (x:Thg),P4 h r t x→∃q,q∈(e.reg (φ.σ r)).pages∧q*16≤φ.a r t∧φ.a r t+x.size≤q*16+(e.reg (φ.σ r)).lim q
 apart:∀(r t:Nat) (x:Thg) (r' t':Nat) (x':Thg),P4 h r t x→P4 h r' t' x'→¬(r=r'∧t=t')→φ.a r t+x.size≤φ.a r' t'∨φ.a r' t'+x'.size≤φ.a r t
 lies:∀(r t:Nat) (x:Thg),P4 h r t x→Tk φ h e (φ.a r t) x
def M3 (φ:RMap)(h:HpS)(φ':RMap)(h':HpS):Prop:=∀v n,N1 φ h v n→N1 φ' h' v n
theorem M3.refl (φ:RMap)(h:HpS):M3 φ h φ h:=fun _ _ h=>h
theorem M3.vrs {φ φ':RMap}{h:HpS}(hM:M3 φ h φ' h')(hv:Ml φ h l ns):Ml φ' h' l ns:=⟨hv.1,fun i v n h1 h2=>hM _ _ (hv.2 i v n h1 h2)⟩
theorem M3.lies {φ φ':RMap}{h:HpS}(hM:M3 φ h φ' h'){e:EstS}{A:Int}{t:Thg}(hw:∀i,A≤i→i<A+t.size→e'.word i=e.word i)(hl:Tk φ h e A t):Tk φ' h' e' A t:=by
 refine ⟨fun ha=>?_,fun i v hv=>?_⟩
 · rw [hw A (Jx _) (by unfold Thg.size;rw [if_pos ha];omega)];exact hl.1 ha
 · have hi:=(FD.1 hv).1;rw [hw _ (by unfold Thg.off;split<;>omega) EN];exact hM _ _ (hl.2 i v hv)
theorem Ml.nil (φ:RMap)(h:HpS):Ml φ h [] []:=⟨rfl,fun i v n h1=>by simp at h1⟩
theorem Ml.app {φ:RMap}{h:HpS}{ns2:List Int}(h1:Ml φ h l ns)(h2:Ml φ h l2 ns2):Ml φ h (l++l2) (ns++ns2):=by
 have e:=h1.1;refine ⟨by rw [FH,FH,h1.1,h2.1],fun i v n hv hn=>?_⟩;by_cases hi:i<l.length
 · rw [FL hi] at hv;rw [FL Jo] at hn;exact h1.2 i v n hv hn
 · rw [FI Jo] at hv;rw [FI Jo,←e] at hn;exact h2.2 _ v n hv hn
theorem Ml.one {φ:RMap}{h:HpS}{v:Val}{n:Int}(hv:N1 φ h v n):Ml φ h [v] [n]:=⟨rfl,fun i v' n' h1 h2=>by
 cases i with
 | zero=>simp at h1 h2;subst h1;subst h2;exact hv
 | succ i=>simp at h1⟩
abbrev Ia:=@Ml.one
theorem Ml.cons {φ:RMap}{h:HpS}{v:Val}{n:Int}{l:List Val}{ns:List Int}(hv:N1 φ h v n)(h2:Ml φ h l ns):Ml φ h (v::l) (n::ns):=(Ia hv).app h2
theorem Ml.get {φ:RMap}{h:HpS}(hl:Ml φ h l ns){i:Nat}{v:Val}(hv:l[i]?=some v):∃n,ns[i]?=some n∧N1 φ h v n:=by
 have hi:=(FD.1 hv).1;exact ⟨ns[i]'(by have:=hl.1;omega),FB _,hl.2 i v _ hv (FB _)⟩
theorem N1.int (φ:RMap)(h:HpS)(n:Int):N1 φ h (Lk n) n:=⟨fun _=>rfl,fun h=>absurd rfl h,fun h=>(by cases h),fun h=>(by rcases h with h|h<;>cases h)⟩
abbrev Jj:=@N1.int
variable {φ:RMap}{h:HpS}{e:EstS}{v:Val}{n:Int}
theorem WHR.slot (_:WHR φ h e)(hv:N1 φ h v n)(hc:h.can v=true):∃r:Nat,v.region=r∧h.has r=true∧n=φ.σ r∧r<h.l.length:=by
 unfold HpS.can at hc;rw [FN,decide_eq_true_iff] at hc;have h1:=hv.2.1 Jo;refine ⟨v.region.toNat,Jo,by rw [Gh h1.1];exact hc.2,hv.2.2.1 hc.1 hc.2,Jo⟩
theorem rk {p:α→Bool}{l:List α}{k:Nat}{r r':α}(hr:l[k]?=some r):(l.set k r').countP p+(if p r then 1 else 0)=l.countP p+if p r' then 1 else 0:=by
 have h1:=(jC hr).countP_eq p;have h2:=(mi (x:=r') (FD.1 hr).1).countP_eq p;rw [List.countP_cons] at h1 h2;rw [h1,h2];omega
theorem wm (ok:e.Ok):e.low<16↔e.count≠16:=by
 have hl:=ok.len;constructor
 · intro h hc;have h1:=G6 ok h;have h2:=Jg ok h;have hall:∀r∈e.rs,r.there=true:=(Kd (p:=fun r:Reg=>r.there)).1 (by have h9:(List.countP (fun r:Reg=>r.there) e.rs:Int)=16:=hc;rw [hl];omega);have:=hall _ (FC h1);rw [h2] at this;cases this
 · intro hc
   by_cases h:e.low<16
   · exact h
   · exfalso;have hle:=EstS.low_le ok;have h3:e.low=e.rs.length:=DB;have h4:=J3.1 h3;refine hc ?_;unfold EstS.count;rw [Kd.2 fun r hr=>by have:=h4 r hr;simpa using this];omega
theorem WHR.full (H:WHR φ h e):h.full=true↔e.openV<0:=by
 have h1:=wm H.ok;have h2:=H.cnt;unfold HpS.full EstS.openV;rw [decide_eq_true_iff];constructor
 · intro hf;rw [if_neg Jo];omega
 · intro hn
   split at hn
   · omega
   · rename_i hl;by_cases hf:h.live=16
     · exact hf
     · exact absurd (h1.2 Jo) hl
theorem gP (hf:h.full=false)(r:Int):h.open=⟨h.l++[⟨true,[],0,0⟩],h.left⟩∧h.openV=⟨2,h.l.length,0,0⟩∧h.open.reg r=if r=h.l.length then ⟨true,[],0,0⟩ else h.reg r:=by
 have e1:h.open=⟨h.l++[⟨true,[],0,0⟩],h.left⟩:=EJ;refine ⟨e1,by unfold HpS.openV;rw [hf];rfl,?_⟩;rw [e1,mJ]
theorem kt {r:Int}(hr:h.has r=true):0≤r∧r<h.l.length:=⟨(SG hr).1,(SG hr).2.1⟩
theorem WHR.open (H:WHR φ h e)(hf:h.full=false):∃φ',WHR φ' h.open e.open∧M3 φ h φ' h.open∧N1 φ' h.open h.openV e.openV:=by
 have hlow:e.low<16:=(wm H.ok).2 (by
  have h2:=H.cnt;unfold HpS.full at hf;rw [decide_eq_false_iff_not] at hf;omega)
 have e1:=(gP hf 0).1;have e2:=(gP hf 0).2.1;have eo:e.open=⟨e.p,e.rs.set e.low ⟨true,[],0⟩⟩:=(by unfold EstS.open;rw [if_pos hlow]);have ev:e.openV=e.low:=(by unfold EstS.openV;rw [if_pos hlow]);have hoff:=Jg H.ok hlow;have hreg:∀k:Nat,e.open.reg k=if k=e.low then ⟨true,[],0⟩ else e.reg k:=fun k=>by rw [eo];exact gK H.ok hlow
 have hnew:h.has h.l.length=false:=by
  cases hx:h.has h.l.length with
  | false=>rfl
  | true=>have:=(kt hx).2;omega
 have hr0:∀r:Int,h.open.has r=true→r=h.l.length∨r≠h.l.length∧h.has r=true:=fun r hr=>by
  unfold HpS.has at hr ⊢;rw [(gP hf r).2.2] at hr;by_cases hc:r=h.l.length
  · exact .inl hc
  · rw [if_neg hc] at hr;exact .inr ⟨hc,hr⟩
 have hne:∀r:Nat,h.has r=true→φ.σ r≠e.low:=fun r hr hc=>by
  have:=(H.live r hr).2.1;rw [hc,hoff] at this;cases this
 have hM:M3 φ h ⟨fun r=>if r=h.l.length then e.low else φ.σ r,φ.a⟩ h.open:=fun v n hv=>by
  refine ⟨hv.1,fun hk=>?_,fun hk hh=>?_,fun hk hh=>?_⟩
  · have:=hv.2.1 hk;rw [e1];simp;omega
  · have hl:=hv.2.1 Jo
    rcases hr0 _ hh with hc|⟨hc,hh⟩
    · omega
    · show n=((if v.region.toNat=h.l.length then e.low else φ.σ v.region.toNat:Nat):Int);rw [if_neg Jo];exact hv.2.2.1 hk hh
  · have hl:=hv.2.1 Jo
    rcases hr0 _ hh with hc|⟨hc,hh⟩
    · omega
    · have:=hv.2.2.2 hk hh;rw [(gP hf v.region).2.2,if_neg hc];exact this
 have hth:∀(r t:Nat) (x:Thg),P4 h.open r t x→r≠h.l.length∧P4 h r t x:=fun r t x ht=>by
  obtain ⟨h1,h2⟩:=ht;rw [(gP hf r).2.2] at h2;rcases hr0 _ h1 with hc|⟨hc,hh⟩
  · rw [if_pos hc] at h2;simp at h2
  · rw [if_neg hc] at h2;exact ⟨Jo,hh,h2⟩
 refine ⟨⟨fun r=>if r=h.l.length then e.low else φ.σ r,φ.a⟩,⟨J9 H.ok,?_,?_,?_,?_,?_,?_,?_,?_⟩,hM,?_⟩
 · rw [e1,eo];exact H.left
 · have h3:=rk (p:=fun r:Reg=>r.there) (r':=⟨true,[],0⟩) (G6 H.ok hlow);rw [hoff] at h3;have h4:=H.cnt;unfold EstS.count HpS.live at h4 ⊢;rw [eo,e1,I6];simp [Reg.none] at h3 ⊢;omega
 · intro r hr
   show (if r=h.l.length then e.low else φ.σ r)<16∧_;rw [show (h.open.reg r)=if (r:Int)=h.l.length then ⟨true,[],0,0⟩ else h.reg r from (gP hf r).2.2];show _∧(e.open.reg ((if r=h.l.length then e.low else φ.σ r:Nat):Int)).there=true∧((e.open.reg ((if r=h.l.length then e.low else φ.σ r:Nat):Int)).pages.length:Int)=_∧(e.open.reg ((if r=h.l.length then e.low else φ.σ r:Nat):Int)).used=_;rcases hr0 _ hr with hc|⟨hc,hh⟩
   · rw [if_pos Jo,if_pos hc,hreg,if_pos rfl];exact ⟨hlow,rfl,rfl,rfl⟩
   · rw [if_neg Jo,if_neg hc,hreg,if_neg (hne r hh)];exact H.live r hh
 · intro r q hr hq hs
   have hs:(if r=h.l.length then e.low else φ.σ r)=(if q=h.l.length then e.low else φ.σ q):=hs;rcases hr0 _ hr with hc|⟨hc,hh⟩
   · rcases hr0 _ hq with hd|⟨hd,hg⟩
     · omega
     · rw [if_pos Jo,if_neg Jo] at hs;exact absurd hs.symm (hne q hg)
   · rcases hr0 _ hq with hd|⟨hd,hg⟩
     · rw [if_neg Jo,if_pos Jo] at hs;exact absurd hs (hne r hh)
     · rw [if_neg Jo,if_neg Jo] at hs;exact H.inj r q hh hg hs
 · intro k hk hp j h1 h2
   rw [hreg] at hp h1 ⊢;by_cases hc:k=e.low
   · rw [if_pos hc] at hp;exact absurd rfl hp
   · rw [if_neg hc] at hp h1 ⊢;rw [eo];exact H.z k hk hp j h1 h2
 · intro r t x hx;obtain ⟨hc,hx⟩:=hth r t x hx;show∃q,q∈(e.open.reg ((if r=h.l.length then e.low else φ.σ r:Nat):Int)).pages∧_∧_≤q*16+(e.open.reg ((if r=h.l.length then e.low else φ.σ r:Nat):Int)).lim q;rw [if_neg hc,hreg,if_neg (hne r hx.1)];exact H.at_ r t x hx
 · intro r t x r' t' x' hx hx';exact Dx
 · intro r t x hx;refine hM.lies (e:=e) (fun i _ _=>?_) (H.lies r t x (hth r t x hx).2);rw [eo];rfl
 · rw [e2,ev]
   refine ⟨fun h=>(by cases h),fun _=>?_,fun _ _=>?_,fun h=>(by rcases h with h|h<;>cases h)⟩
   · rw [e1];simp;omega
   · show ((e.low:Nat):Int)=((if (h.l.length:Int).toNat=h.l.length then e.low else _:Nat):Int);rw [if_pos Jo]
theorem rl {r:Nat}(hv:v.region=r)(hc:h.can v=true)(q:Int):h.shut v=⟨h.l.set r Rgn.none,h.left+(h.reg r).pages⟩∧(h.shut v).reg q=if q=r then Rgn.none else h.reg q:=by
 have e1:h.shut v=⟨h.l.set r Rgn.none,h.left+(h.reg r).pages⟩:=(by unfold HpS.shut;rw [if_pos hc,hv,F9]);refine ⟨e1,?_⟩;have hr:h.has r=true:=(by rw [←hv];unfold HpS.can at hc;rw [FN] at hc;exact hc.2);rw [e1,Go.Lir.reg_set (left':=h.left) (by have:=(kt hr).2;omega)]
theorem WHR.shut (H:WHR φ h e)(hv:N1 φ h v n)(hc:h.can v=true):WHR φ (h.shut v) (e.shut n)∧M3 φ h φ (h.shut v):=by
 obtain ⟨r0,hr0,hh0,rfl,hlt0⟩:=H.slot hv hc;obtain ⟨hs,hth0,hpg,hus⟩:=H.live r0 hh0;have hk:e.has (φ.σ r0)=true:=hth0;have e1:=(rl hr0 hc 0).1;have eo:=JW hk;have hreg:∀k:Nat,(e.shut (φ.σ r0)).reg k=if k=φ.σ r0 then Reg.none else e.reg k:=fun k=>by rw [eo];exact gK H.ok hs
 have hr1:∀r:Int,(h.shut v).has r=true→r≠r0∧h.has r=true:=fun r hr=>by
  unfold HpS.has at hr ⊢;rw [(rl hr0 hc r).2] at hr;by_cases hc:r=r0
  · rw [if_pos hc] at hr;cases hr
  · rw [if_neg hc] at hr;exact ⟨hc,hr⟩
 (have hrg:∀r:Int,r≠r0→(h.shut v).reg r=h.reg r:=fun r hn=>by rw [(rl hr0 hc r).2,if_neg hn]);have hne:∀r:Nat,r≠r0→h.has r=true→φ.σ r≠φ.σ r0:=fun r hn hr hc=>hn (H.inj r r0 hr hh0 hc)
 have hM:M3 φ h φ (h.shut v):=fun u m hu=>by
  refine ⟨hu.1,fun hk=>?_,fun hk hh=>hu.2.2.1 hk (hr1 _ hh).2,fun hk hh=>?_⟩
  · have:=hu.2.1 hk;rw [e1];simp only [Gf];exact this
  · obtain ⟨g1,g2⟩:=hr1 _ hh;rw [hrg _ g1];exact hu.2.2.2 hk g2
 have hth:∀(r t:Nat) (x:Thg),P4 (h.shut v) r t x→r≠r0∧P4 h r t x:=fun r t x ht=>by
  obtain ⟨h1,h2⟩:=ht;obtain ⟨g1,g2⟩:=hr1 _ h1;rw [hrg _ g1] at h2;exact ⟨Jo,g2,h2⟩
 have hok:=Ka H.ok (φ.σ r0);refine ⟨⟨hok,?_,?_,?_,?_,?_,?_,?_,?_⟩,hM⟩
 · have h1:=hok.tk.len hok.pok
   have h2:=H.ok.tk.len H.ok.pok;have h3:=(uS (G6 H.ok hs)).length_eq
   have h4:(e.shut (φ.σ r0)).all.length=((e.rs.eraseIdx (φ.σ r0)).flatMap Reg.pages).length:=by
    rw [eo];exact (uT (rs:=e.rs) (k:=φ.σ r0) (r':=Reg.none) (by rw [H.ok.len];exact hs)).length_eq
   have h5:(e.shut (φ.σ r0)).p.n=e.p.n:=(by rw [eo];exact JV);rw [FH] at h3;have h6:=H.left;rw [e1];show h.left+(h.reg r0).pages=_;omega
 · have h3:=rk (p:=fun r:Reg=>r.there) (r':=Reg.none) (G6 H.ok hs);have h5:=gF (r':=Rgn.none) (SG hh0).2.2.1;rw [hth0] at h3;rw [(SG hh0).2.2.2] at h5;have h4:=H.cnt;unfold EstS.count HpS.live at h4 ⊢;rw [eo,e1];simp [Reg.none,Rgn.none] at h3 h5 ⊢;omega
 · intro r hr;obtain ⟨g1,g2⟩:=hr1 _ hr;rw [hreg,if_neg (hne r Jo g2),hrg _ g1];exact H.live r g2
 · intro r q hr hq hs;exact H.inj r q (hr1 _ hr).2 (hr1 _ hq).2 hs
 · intro k hk hp j h1 h2
   rw [hreg] at hp h1 ⊢;by_cases hc:k=φ.σ r0
   · rw [if_pos hc] at hp;exact absurd rfl hp
   · rw [if_neg hc] at hp h1 ⊢;rw [eo];show (e.p.gives _).word _=0;rw [vP];exact H.z k hk hp j h1 h2
 · intro r t x hx;obtain ⟨hc,hx⟩:=hth r t x hx;rw [hreg,if_neg (hne r hc hx.1)];exact H.at_ r t x hx
 · intro r t x r' t' x' hx hx';exact Dx
 · intro r t x hx;refine hM.lies (e:=e) (fun i _ _=>?_) (H.lies r t x (hth r t x hx).2);rw [eo];exact vP
end
section
theorem Wh {s:EstS}(h:s.Ok)(k x:Int):(s.store k x).Ok:=⟨h.len,h.off,h.used,h.tk.store k x,JI h.pok k x,by show (s.p.store k x).n≤64;rw [HZ];exact h.n64⟩
theorem wq {at_:Int}:∀(l:List Int) (s:EstS) (k:Nat),s.Ok→0≤at_→at_+k+l.length≤((s.p.n*16:Nat):Int)→
 (s.storesA at_ k l).Ok∧(s.storesA at_ k l).rs=s.rs∧(s.storesA at_ k l).p.n=s.p.n∧(s.storesA at_ k l).p.fr=s.p.fr∧∀i,(s.storesA at_ k l).word i=if at_+k≤i∧i<at_+k+l.length then l.getD (i - at_ - k).toNat 0 else s.word i
 | [],s,k,ok,_,_=>⟨ok,rfl,rfl,rfl,fun i=>by rw [if_neg Js];rfl⟩
 | v ::l,s,k,ok,h0,h1=>by
   rw [FP] at h1;have hn:=ok.n64;have hw:wr (at_+k)=at_+k:=bQ Jo Jo;have hin:s.p.isIn (at_+k)=true:=MN.2 Jo;obtain ⟨g1,g2,g3,g4,g5⟩:=wq l (s.store (at_+k) v) (k+1) (Wh ok _ _) h0 (by show _≤(((s.p.store (at_+k) v).n*16:Nat):Int);rw [HZ];omega);rw [EstS.storesA,hw];refine ⟨g1,g2,g3.trans HZ,g4.trans It,fun i=>?_⟩;rw [g5,FP];have hs:(s.store (at_+k) v).word i=if i=at_+k then v else s.word i:=qN ok.pok hin i
   rw [hs];by_cases hi:i=at_+k
   · rw [if_neg Jo,if_pos hi,if_pos Jo,show (i - at_ - k).toNat=0 by omega];rfl
   · rw [if_neg hi]
     by_cases hj:at_+k≤i∧i<at_+k+(l.length+1:Nat)
     · rw [if_pos Jo,if_pos hj,show (i - at_ - k).toNat=(i - at_ - (k+1:Nat)).toNat+1 by omega];rfl
     · rw [if_neg Jo,if_neg hj]
theorem Wi {at_:Int}{l:List Int}{s:EstS}(ok:s.Ok)(h0:0≤at_)(h1:at_+l.length≤((s.p.n*16:Nat):Int)):
 (s.stores at_ l).Ok∧(s.stores at_ l).rs=s.rs∧(s.stores at_ l).p.n=s.p.n∧(s.stores at_ l).p.fr=s.p.fr∧∀i,(s.stores at_ l).word i=if at_≤i∧i<at_+l.length then l.getD (i - at_).toNat 0 else s.word i:=by
 obtain ⟨g1,g2,g3,g4,g5⟩:=wq l s 0 ok h0 Jo;refine ⟨g1,g2,g3,g4,fun i=>?_⟩;have:=g5 i;simp only [Int.natCast_zero,J2,Int.sub_zero] at this;exact this
variable {φ:RMap}{h:HpS}{e:EstS}{v:Val}{n:Int}
theorem more_iff {h:HpS}{e:EstS}{r:Rgn}{g:Reg}(h1:(g.pages.length:Int)=r.pages)(h2:g.used=r.used)(x:Int):g.more x=r.more x:=by
 unfold Reg.more Rgn.more;rw [h2];have:g.pages=[]↔r.pages=0:=(by rw [←h1,←GP];omega);simp only [this]
theorem WHR.code (H:WHR φ h e)(hv:N1 φ h v n)(hc:h.can v=true){x:Int}(hx:1≤x∧x≤16):e.code n x=h.code v x:=by
 obtain ⟨r0,hr0,hh0,rfl,hlt0⟩:=H.slot hv hc;obtain ⟨hs,hth0,hpg,hus⟩:=H.live r0 hh0;have hk:e.has (φ.σ r0)=true:=hth0;have hle:(h.left=0)=(e.p.fr=[]):=propext (by rw [H.left,←GP];omega);unfold EstS.code HpS.code;rw [hk,hc,hr0,more_iff (h:=h) (e:=e) hpg hus,if_neg Jd,if_neg Jo];simp only [hle];rfl
theorem mK {x:Int}(hc:h.code v x≠20):h.can v=true:=by
 unfold HpS.code at hc
 cases hx:h.can v with
 | true=>rfl
 | false=>rw [hx] at hc;exact absurd rfl hc
theorem wu (t:Thg):1≤t.size:=by unfold Thg.size Mv;split<;>(try split)<;>omega
theorem QbU {m:Nat}{x:Int}(ok:e.Ok)(hm:m<16)(hc:e.code m x=0):(e.get m x).reg m=(e.regTo m x).use x∧(e.get m x).p=(if (e.reg m).more x then e.p.take else e.p)∧(e.get m x).rs=e.rs.set m ((e.regTo m x).use x):=by
 have hrs:(e.get m x).rs=e.rs.set m ((e.regTo m x).use x):=Fe;refine ⟨?_,by unfold EstS.get;rw [if_pos hc],hrs⟩;have e1:e.get m x=⟨(e.get m x).p,e.rs.set m ((e.regTo m x).use x)⟩:=(by rw [←hrs]);rw [e1,gK ok hm,if_pos rfl]
theorem WHR.addr (H:WHR φ h e){r t:Nat}{x:Thg}(ht:P4 h r t x):0≤φ.a r t∧φ.a r t+x.size≤((e.p.n*16:Nat):Int)∧φ.a r t+x.size≤1024:=by
 obtain ⟨q,h1,h2,h3⟩:=H.at_ r t x ht;have hs:=(H.live r ht.1).1;obtain ⟨g1,g2,_⟩:=qQ H.ok hs h1;have:=mA H.ok hs (q:=q);have:=H.ok.n64;omega
theorem QfT {x:Int}(h0:h.code v x=0):¬((h.reg v.region).more x=true∧h.left=0):=by
 intro hc;unfold HpS.code at h0;split at h0
 · cases h0
 · simp [hc] at h0
theorem wv {r:Nat}{x:Int}{t:Thg}(hv:v.region=r)(h0:h.code v x=0)(q:Int):
 h.put v x t=⟨h.l.set r (((h.reg r).room x).push t),if (h.reg r).more x then h.left - 1 else h.left⟩∧(h.put v x t).reg q=if q=r then ((h.reg r).room x).push t else h.reg q:=by
 have e1:h.put v x t=⟨h.l.set r (((h.reg r).room x).push t),if (h.reg r).more x then h.left - 1 else h.left⟩:=(by unfold HpS.put;rw [if_pos h0,hv,F9]);refine ⟨e1,?_⟩;have hr:h.has r=true:=(by rw [←hv];have hc:=mK (h:=h) (v:=v) (x:=x) Jo;unfold HpS.can at hc;rw [FN] at hc;exact hc.2);rw [e1,Go.Lir.reg_set (left':=h.left) (by have:=(kt hr).2;omega)]
theorem WHR.put (H:WHR φ h e)(hv:N1 φ h v n){x:Int}{t:Thg}(hs:t.size=x)(hx:x≤16)(h0:h.code v x=0)(hkd:kd=3∨kd=4){e2:EstS}(ok2:e2.Ok)(hrs:e2.rs=(e.get n x).rs)(hfr:e2.p.fr=(e.get n x).p.fr)
 (hw:∀i,¬(e.getV n x≤i∧i<e.getV n x+x)→e2.word i=(e.get n x).word i)(hl:Tk φ h e2 (e.getV n x) t):∃φ',WHR φ' (h.put v x t) e2∧M3 φ h φ' (h.put v x t)∧N1 φ' (h.put v x t) (h.putV v kd x) (e.getV n x):=by
 have hx1:1≤x:=hs ▸ wu t;have hcan:=mK (h:=h) (v:=v) (x:=x) Jo;have hc0:e.code n x=0:=(H.code hv hcan ⟨hx1,hx⟩).trans h0;obtain ⟨r0,hr0,hh0,rfl,hlt0⟩:=H.slot hv hcan;obtain ⟨hm,hth0,hpg,hus⟩:=H.live r0 hh0;obtain ⟨P,u,G⟩:=kh H.ok hm hc0;obtain ⟨gr1,gp1,grs⟩:=QbU H.ok hm hc0;have hux:=G.ux;have hmo:=more_iff (h:=h) (e:=e) hpg hus x;have e1:=(wv (t:=t) hr0 h0 0).1;have hrg:∀q:Int,(h.put v x t).reg q=if q=r0 then ((h.reg r0).room x).push t else h.reg q:=fun q=>(wv hr0 h0 q).2
 have hroom:((h.reg r0).room x).there=(h.reg r0).there∧((h.reg r0).room x).l=(h.reg r0).l:=by unfold Rgn.room;split<;>exact ⟨rfl,rfl⟩
 have hhas:∀q:Int,(h.put v x t).has q=h.has q:=fun q=>by
  unfold HpS.has;rw [hrg];by_cases hq:q=r0
  · rw [if_pos hq,hq];exact hroom.1
  · rw [if_neg hq]
 have hl0:((h.put v x t).reg r0).l=(h.reg r0).l++[t]:=(by rw [hrg,if_pos rfl];show ((h.reg r0).room x).l++[t]=_;rw [hroom.2]);have hln:∀q:Int,q≠r0→(h.put v x t).reg q=h.reg q:=fun q hq=>by rw [hrg,if_neg hq]
 have hreg:∀k:Nat,e2.reg k=if k=φ.σ r0 then (e.regTo (φ.σ r0) x).use x else e.reg k:=fun k=>by
  have:e2.reg k=(e.get (φ.σ r0) x).reg k:=(by unfold EstS.reg;rw [hrs]);rw [this];have e3:e.get (φ.σ r0) x=⟨(e.get (φ.σ r0) x).p,e.rs.set (φ.σ r0) ((e.regTo (φ.σ r0) x).use x)⟩:=(by rw [←grs]);rw [e3,gK H.ok hm]
 have hA:e.getV (φ.σ r0) x=P*16+u:=G.v;have hthere:(e.regTo (φ.σ r0) x).there=true:=by unfold EstS.regTo;split<;>exact hth0
 -- what is old lies apart, and stays
 have hold:∀(r t0:Nat) (x0:Thg),P4 h r t0 x0→(φ.a r t0+x0.size≤e.getV (φ.σ r0) x∨e.getV (φ.σ r0) x+x≤φ.a r t0)∧∀i,φ.a r t0≤i→i<φ.a r t0+x0.size→e2.word i=e.word i:=fun r t0 x0 ht=>by
  obtain ⟨q,q1,q2,q3⟩:=H.at_ r t0 x0 ht;have hsr:=(H.live r ht.1).1;have hlq:=mA H.ok hsr (q:=q)
  have hap:φ.a r t0+x0.size≤e.getV (φ.σ r0) x∨e.getV (φ.σ r0) x+x≤φ.a r t0:=by
   rw [hA];by_cases hq:q=P
   · by_cases hp:P∈(e.reg (φ.σ r0)).pages
     · have:=qO H.ok hsr hm q1 (by rw [hq];exact hp);obtain ⟨h6,h7⟩:=G.old hp;have h8:(e.reg (φ.σ r)).lim q=u:=(by rw [this];unfold Reg.lim;rw [if_pos (hq.trans h6),h7]);left;omega
     · exact absurd q1 (by rw [hq];exact G.new hp _ hsr)
   · omega
  refine ⟨hap,fun i i1 i2=>?_⟩;rw [hw i Jo];show (e.get (φ.σ r0) x).p.word i=e.p.word i;by_cases hi:P*16≤i∧i<P*16+16
  · by_cases hp:P∈(e.reg (φ.σ r0)).pages
    · rw [G.wo hp]
    · have hq:q=P:=DB;exact absurd q1 (by rw [hq];exact G.new hp _ hsr)
  · exact G.w i hi
 have hth:∀(r t0:Nat) (x0:Thg),P4 (h.put v x t) r t0 x0→(r=r0∧t0=(h.reg r0).l.length∧x0=t)∨(¬(r=r0∧t0=(h.reg r0).l.length)∧P4 h r t0 x0):=fun r t0 x0 ht=>by
  obtain ⟨h1,h2⟩:=ht;rw [hhas] at h1;by_cases hr:r=r0
  · subst hr
    rw [hl0] at h2;by_cases h3:t0<(h.reg r).l.length
    · rw [FL h3] at h2;exact .inr ⟨Jo,h1,h2⟩
    · rw [FI Jo] at h2
      cases h4:t0 - (h.reg r).l.length with
      | zero=>rw [h4] at h2;simp at h2;exact .inl ⟨rfl,Jo,h2.symm⟩
      | succ j=>rw [h4] at h2;simp at h2
  · rw [hln _ Jo] at h2;exact .inr ⟨fun hc=>hr hc.1,h1,h2⟩
 have hlen:(h.put v x t).l.length=h.l.length:=by rw [e1];exact Gf
 have hM:M3 φ h ⟨φ.σ,fun r j=>if r=r0∧j=(h.reg r0).l.length then e.getV (φ.σ r0) x else φ.a r j⟩ (h.put v x t):=fun w m hw=>by
  refine ⟨hw.1,fun hk=>?_,fun hk hh=>hw.2.2.1 hk Ej,fun hk hh=>?_⟩
  · rw [hlen];exact hw.2.1 hk
  · obtain ⟨g1,g2,g3⟩:=hw.2.2.2 hk Ej
    have hrn:=hw.2.1 Jo;show _∧_∧m=if w.region.toNat=r0∧w.thing.toNat=(h.reg r0).l.length then _ else _
    by_cases hr:w.region=r0
    · rw [hr] at g2;rw [if_neg Jo,hr,hl0,FH];refine ⟨g1,by simp;omega,?_⟩;rw [←hr];exact g3
    · rw [if_neg Jo,hln _ hr];exact ⟨g1,g2,g3⟩
 have hlast:(e2.reg (φ.σ r0)).last=P:=by
  rw [hreg,if_pos rfl,←gr1];exact G.last
 have hused:(e2.reg (φ.σ r0)).used=u+x:=by
  have:=G.reg H.ok hm (k:=φ.σ r0);rw [if_pos rfl] at this;rw [hreg,if_pos rfl,←gr1,this]
 have hmem:∀q,q=P∨q∈(e.reg (φ.σ r0)).pages→q∈(e2.reg (φ.σ r0)).pages:=fun q hq=>by
  rw [hreg,if_pos rfl,←gr1];rcases hq with rfl|hq
  · exact G.mem
  · exact G.sub q hq
 have hz:∀k:Nat,k<16→(e2.reg k).pages≠[]→∀j:Int,(e2.reg k).used≤j→j<16→e2.p.word ((e2.reg k).last*16+j)=0:=fun k hk hp j h1 h2=>by
  by_cases hkm:k=φ.σ r0
  · subst hkm
    rw [hused] at h1;rw [hlast];have h3:=hw (P*16+j) (by rw [hA];omega);refine h3.trans ?_;by_cases hpp:P∈(e.reg (φ.σ r0)).pages
    · obtain ⟨h6,h7⟩:=G.old hpp;show (e.get (φ.σ r0) x).p.word _=0;rw [G.wo hpp,h6];exact H.z _ hm ES j Jo h2
    · exact G.wz hpp _ Jo
  · have hr:e2.reg k=e.reg k:=by rw [hreg,if_neg hkm]
    rw [hr] at hp h1 ⊢;have hl2:=qP hp
    have hne:(e.reg k).last≠P:=by
     intro h9;by_cases hpp:P∈(e.reg (φ.σ r0)).pages
     · exact hkm (qO H.ok hk hm (h9 ▸ hl2) hpp)
     · exact G.new hpp k hk (h9 ▸ hl2)
    have:=H2 H.ok hk;have h3:=hw ((e.reg k).last*16+j) (by rw [hA];omega);refine h3.trans ?_;exact (G.w _ Jo).trans (H.z k hk hp j h1 h2)
 refine ⟨⟨φ.σ,fun r j=>if r=r0∧j=(h.reg r0).l.length then e.getV (φ.σ r0) x else φ.a r j⟩,⟨ok2,?_,?_,?_,?_,hz,?_,?_,?_⟩,hM,?_⟩
 · rw [e1,hfr,gp1]
   show (if (h.reg r0).more x=true then h.left - 1 else h.left)=_;rw [←hmo];have h4:=H.left;by_cases hc:(e.reg (φ.σ r0)).more x=true
   · rw [if_pos hc,if_pos hc];have h5:=QfT h0;rw [hr0,←hmo] at h5;have h6:e.p.fr≠[]:=fun h7=>h5 ⟨hc,by rw [h4,h7];rfl⟩;unfold PoolS.take;rw [if_neg h6,List.length_dropLast];have:0<e.p.fr.length:=HO.2 h6;omega
   · rw [if_neg hc,if_neg hc];exact h4
 · have h3:=rk (p:=fun r:Reg=>r.there) (r':=(e.regTo (φ.σ r0) x).use x) (G6 H.ok hm);have h5:=gF (r':=((h.reg r0).room x).push t) (SG hh0).2.2.1;rw [hth0,show ((e.regTo (φ.σ r0) x).use x).there=true from hthere] at h3;rw [(SG hh0).2.2.2,show (((h.reg r0).room x).push t).there=true from hroom.1.trans (SG hh0).2.2.2] at h5;have h4:=H.cnt;unfold EstS.count HpS.live at h4 ⊢;rw [hrs,grs,e1];simp only [F9,if_true] at h3 h5 ⊢;omega
 · intro r hr
   rw [hhas] at hr;show φ.σ r<16∧(e2.reg (φ.σ r)).there=true∧((e2.reg (φ.σ r)).pages.length:Int)=_∧(e2.reg (φ.σ r)).used=_;obtain ⟨g1,g2,g3,g4⟩:=H.live r hr;refine ⟨g1,?_⟩;by_cases hrr:r=r0
   · subst hrr
     rw [hreg,if_pos rfl,hrg,if_pos rfl];refine ⟨hthere,?_⟩;unfold EstS.regTo Rgn.room;rw [←hmo];by_cases hc:(e.reg (φ.σ r)).more x=true
     · rw [if_pos hc,if_pos hc]
       refine ⟨?_,?_⟩
       · show (((e.reg (φ.σ r)).pages++[e.p.top]).length:Int)=(h.reg r).pages+1;rw [FH];simp;omega
       · show 0+x=x;omega
     · rw [if_neg hc,if_neg hc];exact ⟨g3,by show (e.reg (φ.σ r)).used+x=(h.reg r).used+x;omega⟩
   · rw [hreg,if_neg (fun hc=>hrr (H.inj r r0 hr hh0 hc)),hln _ Jo];exact ⟨g2,g3,g4⟩
 · intro r q hr hq hs;rw [hhas] at hr hq;exact H.inj r q hr hq hs
 · intro r t0 x0 hx0
   show∃q,q∈(e2.reg (φ.σ r)).pages∧q*16≤(if r=r0∧t0=(h.reg r0).l.length then e.getV (φ.σ r0) x else φ.a r t0)∧(if r=r0∧t0=(h.reg r0).l.length then e.getV (φ.σ r0) x else φ.a r t0)+x0.size≤q*16+(e2.reg (φ.σ r)).lim q;rcases hth r t0 x0 hx0 with ⟨g1,g2,g3⟩|⟨g1,g2⟩
   · subst g1;rw [if_pos ⟨rfl,g2⟩,g3,hs,hA];refine ⟨P,hmem P (.inl rfl),Jo,?_⟩;unfold Reg.lim;rw [if_pos hlast.symm,hused];omega
   · rw [if_neg g1]
     obtain ⟨q,q1,q2,q3⟩:=H.at_ r t0 x0 g2;by_cases hrr:r=r0
     · subst hrr
       refine ⟨q,hmem q (.inr q1),q2,?_⟩;have hle:=mA H.ok hm (q:=q);unfold Reg.lim;rw [hlast,hused];by_cases hq:q=P
       · rw [if_pos hq]
         by_cases hp:P∈(e.reg (φ.σ r)).pages
         · obtain ⟨h6,h7⟩:=G.old hp;have h8:(e.reg (φ.σ r)).lim q=u:=(by unfold Reg.lim;rw [if_pos (hq.trans h6),h7]);omega
         · exact absurd q1 (by rw [hq];exact hp)
       · rw [if_neg hq];omega
     · have hr:e2.reg (φ.σ r)=e.reg (φ.σ r):=(by rw [hreg,if_neg (fun hc=>hrr (H.inj r r0 g2.1 hh0 hc))]);rw [hr];exact ⟨q,q1,q2,q3⟩
 · intro r t0 x0 r' t0' x0' hx0 hx0' hn
   show (if r=r0∧t0=(h.reg r0).l.length then e.getV (φ.σ r0) x else φ.a r t0)+x0.size≤(if r'=r0∧t0'=(h.reg r0).l.length then e.getV (φ.σ r0) x else φ.a r' t0')∨(if r'=r0∧t0'=(h.reg r0).l.length then e.getV (φ.σ r0) x else φ.a r' t0')+x0'.size≤(if r=r0∧t0=(h.reg r0).l.length then e.getV (φ.σ r0) x else φ.a r t0);rcases hth r t0 x0 hx0 with ⟨g1,g2,g3⟩|⟨g1,g2⟩
   · rcases hth r' t0' x0' hx0' with ⟨k1,k2,k3⟩|⟨k1,k2⟩
     · exact absurd ⟨Jo,Jo⟩ hn
     · rw [if_pos ⟨g1,g2⟩,if_neg k1,g3,hs];exact ((hold _ _ _ k2).1).symm
   · rcases hth r' t0' x0' hx0' with ⟨k1,k2,k3⟩|⟨k1,k2⟩
     · rw [if_neg g1,if_pos ⟨k1,k2⟩,k3,hs];exact (hold _ _ _ g2).1
     · rw [if_neg g1,if_neg k1];exact H.apart _ _ _ _ _ _ g2 k2 hn
 · intro r t0 x0 hx0
   show Tk _ _ e2 (if r=r0∧t0=(h.reg r0).l.length then e.getV (φ.σ r0) x else φ.a r t0) x0;rcases hth r t0 x0 hx0 with ⟨g1,g2,g3⟩|⟨g1,g2⟩
   · rw [if_pos ⟨g1,g2⟩,g3];exact hM.lies (fun _ _ _=>rfl) hl
   · rw [if_neg g1];exact hM.lies (hold _ _ _ g2).2 (H.lies _ _ _ g2)
 · have ev:h.putV v kd x=⟨kd,v.region,(h.reg v.region).l.length,0⟩:=by unfold HpS.putV;rw [if_pos h0]
   rw [ev,hr0];refine ⟨fun hk=>by simp at hk;omega,fun _=>⟨by simp,by rw [hlen];show (r0:Int) < _;omega⟩,fun hk=>by simp at hk;omega,fun _ _=>⟨by simp,?_,?_⟩⟩
   · show ((h.reg r0).l.length:Int)<(((h.put v x t).reg r0).l.length:Int);rw [hl0];simp;omega
   · show e.getV (φ.σ r0) x=if (r0:Int).toNat=r0∧(((h.reg r0).l.length:Nat):Int).toNat=(h.reg r0).l.length then _ else _
     rw [if_pos ⟨Jo,Jo⟩]
end
section
variable {φ:RMap}{h:HpS}{e:EstS}{v:Val}{n:Int}
theorem ef (ha:h.at_ v=some p):(v.kind=3∨v.kind=4)∧h.has v.region=true∧v.region=p.1∧v.thing=p.2∧P4 h p.1 p.2 (h.thg p.1 p.2)∧(h.thg p.1 p.2).array=decide (v.kind=4):=by
 unfold HpS.at_ at ha;split at ha
 · rename_i hc;obtain ⟨h1,h2,h3,h4,h5⟩:=hc;cases ha;have hr:=(kt h2).1;refine ⟨h1,h2,by show v.region=(v.region.toNat:Int);omega,by show v.thing=(v.thing.toNat:Int);omega,⟨by rw [Gh hr];exact h2,?_⟩,h5⟩;unfold HpS.thg;rw [Gh hr,FE,FB Jo];rfl
 · cases ha
theorem WHR.place (H:WHR φ h e)(hv:N1 φ h v n)(ha:h.at_ v=some p):n=φ.a p.1 p.2∧P4 h p.1 p.2 (h.thg p.1 p.2)∧(h.thg p.1 p.2).array=decide (v.kind=4):=by
 obtain ⟨h1,h2,h3,h4,h5,h6⟩:=ef ha;refine ⟨?_,h5,h6⟩;have:=(hv.2.2.2 h1 h2).2.2;rw [h3,h4] at this;exact this
theorem WHR.get (H:WHR φ h e)(hv:N1 φ h v n){k:Int}(hg:(h.get v k).2=0):∃o:Int,o=(if v.kind=4 then 1 else 0)∧0≤n∧0≤k∧n+o+k<1024∧N1 φ h (h.get v k).1 (e.word (n+o+k)):=by
 unfold HpS.get at hg ⊢
 cases ha:h.at_ v with
 | none=>rw [ha] at hg;cases hg
 | some p=>
   rw [ha] at hg;obtain ⟨rfl,ht,hk⟩:=H.place hv ha;obtain ⟨g1,g2,g3⟩:=H.addr ht;simp only at hg ⊢;split at hg
   · rename_i hc
     rw [if_pos hc];have ho:(h.thg p.1 p.2).off=if v.kind=4 then 1 else 0:=by unfold Thg.off;rw [hk];simp
     have hsz:(h.thg p.1 p.2).off+(h.thg p.1 p.2).l.length≤(h.thg p.1 p.2).size:=EN;refine ⟨_,ho,g1,hc.1,?_,?_⟩
     · omega
     · have hlen:k.toNat<(h.thg p.1 p.2).l.length:=DB;have h1:=(H.lies _ _ _ ht).2 k.toNat ((h.thg p.1 p.2).l.getD k.toNat Val.zero) (by rw [FE,FB hlen];rfl);rw [Gh hc.1] at h1;exact h1
   · cases hg
theorem WHR.len (H:WHR φ h e)(hv:N1 φ h v n)(hk:v.kind=4)(hg:(h.len v).2=0):e.word n=(h.len v).1∧0≤n∧n+1+(h.len v).1≤1024∧∀k,(h.get v k).2=if 0≤k∧k<(h.len v).1 then 0 else 1:=by
 unfold HpS.len at hg ⊢;unfold HpS.get
 cases ha:h.at_ v with
 | none=>rw [ha] at hg;cases hg
 | some p=>
   obtain ⟨rfl,ht,hk2⟩:=H.place hv ha;obtain ⟨g1,g2,g3⟩:=H.addr ht;have har:(h.thg p.1 p.2).array=true:=(by rw [hk2];simp [hk]);have hsz:(h.thg p.1 p.2).size=1+(h.thg p.1 p.2).l.length:=(by unfold Thg.size;rw [if_pos har]);refine ⟨(H.lies _ _ _ ht).1 har,g1,by simp only;omega,fun k=>?_⟩;simp only;split<;>rfl
theorem eg {k:Int}(hg:(h.get v k).2≠20):(h.len v).2=0:=by
 unfold HpS.get at hg;unfold HpS.len
 cases ha:h.at_ v with
 | none=>rw [ha] at hg;exact absurd rfl hg
 | some p=>rfl
theorem Zr {k:Int}(hg:h.setC v k y≠20):(h.len v).2=0:=by
 unfold HpS.setC at hg;unfold HpS.len
 cases ha:h.at_ v with
 | none=>rw [ha] at hg;exact absurd rfl hg
 | some p=>rfl
theorem Wj (hk:v.kind=4){k:Int}(hg:h.setC v k y≠20):h.setC v k y=if 0≤k∧k<(h.len v).1 then 0 else 1:=by
 unfold HpS.setC at hg ⊢;unfold HpS.len
 cases ha:h.at_ v with
 | none=>rw [ha] at hg;exact absurd rfl hg
 | some p=>
   rw [ha] at hg;simp only at hg ⊢;split at hg
   · exact absurd rfl hg
   · rename_i hc;rw [if_neg hc]
theorem WHR.set (H:WHR φ h e)(hv:N1 φ h v n){k ny:Int}(hy:N1 φ h y ny)(hg:h.setC v k y=0):∃o:Int,o=(if v.kind=4 then 1 else 0)∧0≤n∧0≤k∧n+o+k<1024∧WHR φ (h.set v k y) (e.store (n+o+k) ny)∧M3 φ h φ (h.set v k y):=by
 have hg0:=hg;unfold HpS.setC at hg;unfold HpS.set;rw [hg0]
 cases ha:h.at_ v with
 | none=>rw [ha] at hg;cases hg
 | some p =>
   rw [ha] at hg;obtain ⟨rfl,ht,hk⟩:=H.place hv ha;obtain ⟨g1,g2,g3⟩:=H.addr ht;obtain ⟨r,t⟩:=p;simp only at hg ht hk g1 g2 g3 hv ⊢;split at hg
   · cases hg
   · split at hg
     · rename_i hc
       rw [if_pos trivial];have ho:(h.thg r t).off=if v.kind=4 then 1 else 0:=by unfold Thg.off;rw [hk];simp
       have hsz:(h.thg r t).off+(h.thg r t).l.length≤(h.thg r t).size:=EN;have ho0:0≤(h.thg r t).off:=(by unfold Thg.off;split<;>omega);have hrg:∀q:Int,(⟨h.l.set r ((h.reg r).upd t ((h.thg r t).upd k.toNat y)),h.left⟩:HpS).reg q=if q=r then (h.reg r).upd t ((h.thg r t).upd k.toNat y) else h.reg q:=fun q=>Go.Lir.reg_set (left':=h.left) (by have:=(kt ht.1).2;omega) q
       have hhas:∀q:Int,(⟨h.l.set r ((h.reg r).upd t ((h.thg r t).upd k.toNat y)),h.left⟩:HpS).has q=h.has q:=fun q=>by
        unfold HpS.has;rw [hrg];by_cases hq:q=r
        · rw [if_pos hq,hq];rfl
        · rw [if_neg hq]
       have hlen:∀q:Int,((⟨h.l.set r ((h.reg r).upd t ((h.thg r t).upd k.toNat y)),h.left⟩:HpS).reg q).l.length=(h.reg q).l.length:=fun q=>by
        rw [hrg];by_cases hq:q=r
        · rw [if_pos hq,hq];show ((h.reg r).l.set t _).length=_;rw [Gf]
        · rw [if_neg hq]
       have hM:M3 φ h φ ⟨h.l.set r ((h.reg r).upd t ((h.thg r t).upd k.toNat y)),h.left⟩:=fun u m hu=>by
        refine ⟨hu.1,fun hk=>?_,fun hk hh=>hu.2.2.1 hk Ej,fun hk hh=>?_⟩
        · simp only [Gf];exact hu.2.1 hk
        · rw [hlen];exact hu.2.2.2 hk Ej
       have hreg:∀q:Int,q≠r→(⟨h.l.set r ((h.reg r).upd t ((h.thg r t).upd k.toNat y)),h.left⟩:HpS).reg q=h.reg q:=fun q hq=>by rw [hrg,if_neg hq]
       have hth:∀(r' t':Nat) (x:Thg),P4 ⟨h.l.set r ((h.reg r).upd t ((h.thg r t).upd k.toNat y)),h.left⟩ r' t' x→(r'=r∧t'=t∧x=(h.thg r t).upd k.toNat y)∨(¬(r'=r∧t'=t)∧P4 h r' t' x):=fun r' t' x hx=>by
        obtain ⟨h1,h2⟩:=hx;rw [hhas] at h1;by_cases hr:r'=r
        · subst hr
          rw [hrg,if_pos rfl] at h2;have h2:((h.reg r').l.set t ((h.thg r' t).upd k.toNat y))[t']?=some x:=h2;by_cases ht':t'=t
          · subst ht';rw [Hk (FD.1 ht.2).1] at h2;cases h2;exact .inl ⟨rfl,rfl,rfl⟩
          · rw [Ht (I0 ht')] at h2;exact .inr ⟨fun hc=>ht' hc.2,h1,h2⟩
        · rw [hreg _ Jo] at h2;exact .inr ⟨fun hc=>hr hc.1,h1,h2⟩
       have hsame:∀(r' t':Nat) (x:Thg),P4 ⟨h.l.set r ((h.reg r).upd t ((h.thg r t).upd k.toNat y)),h.left⟩ r' t' x→∃x0,P4 h r' t' x0∧x0.size=x.size:=fun r' t' x hx=>by
        rcases hth r' t' x hx with ⟨rfl,rfl,rfl⟩|⟨_,hx⟩
        · exact ⟨_,ht,by unfold Thg.size Thg.upd Mv;simp⟩
        · exact ⟨x,hx,rfl⟩
       have hin:e.p.isIn (φ.a r t+(h.thg r t).off+k)=true:=MN.2 Jo;have hw:∀i,(e.store (φ.a r t+(h.thg r t).off+k) ny).word i=if i=φ.a r t+(h.thg r t).off+k then ny else e.word i:=qN H.ok.pok hin
       refine ⟨_,ho,g1,hc.1,Jo,?_⟩;refine ⟨⟨Wh H.ok _ _,by show h.left=((e.p.store _ _).fr.length:Int);rw [It];exact H.left,?_,fun r' hr'=>?_,fun r' q hr hq hs=>H.inj r' q (by rw [←hhas];exact hr) (by rw [←hhas];exact hq) hs,fun k' hk' hp j h1 h2=>?_,fun r' t' x hx=>?_,fun r' t' x r2 t2 x2 hx hx2 hn=>?_,fun r' t' x hx=>?_⟩,hM⟩
       · have h5:=gF (r':=(h.reg r).upd t ((h.thg r t).upd k.toNat y)) (SG ht.1).2.2.1;rw [show ((h.reg r).upd t ((h.thg r t).upd k.toNat y)).there=(h.reg r).there from rfl] at h5;have h4:=H.cnt;unfold HpS.live at h4 ⊢;simp only [F9] at h5 ⊢;(have h6:∀q:EstS,q.rs=e.rs→q.count=e.count:=fun q hq=>by unfold EstS.count;rw [hq]);rw [h6 (e.store _ _) rfl];omega
       · rw [hhas] at hr'
         obtain ⟨k1,k2,k3,k4⟩:=H.live r' hr';refine ⟨k1,k2,?_⟩;rw [hrg];by_cases hq:(r':Int)=r
         · rw [if_pos hq,←hq];exact ⟨k3,k4⟩
         · rw [if_neg hq];exact ⟨k3,k4⟩
       · have h3:=hw ((e.reg k').last*16+j)
         refine h3.trans ?_;obtain ⟨q,q1,q2,q3⟩:=H.at_ r t _ ht;have hs:=(H.live r ht.1).1;have hlq:=mA H.ok hs (q:=q);have hu:=H2 H.ok hk';have h1:(e.reg k').used≤j:=h1;have hp:(e.reg k').pages≠[]:=hp;rw [if_neg]
         · exact H.z k' hk' hp j h1 h2
         · intro hc2;have hqe:q=(e.reg k').last:=DB;have hkk:=qO H.ok hs hk' q1 (hqe ▸ qP hp);have:(e.reg (φ.σ r)).lim q=(e.reg (φ.σ r)).used:=(by unfold Reg.lim;rw [if_pos (by rw [hqe,hkk])]);rw [hkk] at this q3;omega
       · obtain ⟨x0,hx0,hs0⟩:=hsame r' t' x hx;rw [←hs0];exact H.at_ r' t' x0 hx0
       · obtain ⟨x0,hx0,hs0⟩:=hsame r' t' x hx;obtain ⟨y0,hy0,hs1⟩:=hsame r2 t2 x2 hx2;rw [←hs0,←hs1];exact H.apart _ _ _ _ _ _ hx0 hy0 hn
       · rcases hth r' t' x hx with ⟨rfl,rfl,rfl⟩|⟨hn,hx⟩
         · have hl:=H.lies _ _ _ ht
           refine ⟨fun har=>?_,fun i u hu=>?_⟩
           · have har':(h.thg r' t').array=true:=har;rw [hw,if_neg (by unfold Thg.off;rw [if_pos har'];omega)];rw [hl.1 har'];show ((h.thg r' t').l.length:Int)=(((h.thg r' t').l.set k.toNat y).length:Int);rw [Gf]
           · have hu:((h.thg r' t').l.set k.toNat y)[i]?=some u:=hu
             show N1 φ _ u ((e.store _ ny).word (φ.a r' t'+(h.thg r' t').off+i));rw [hw];by_cases hik:i=k.toNat
             · subst hik;rw [Hk Jo] at hu;cases hu;rw [if_pos Jo];exact hM _ _ hy
             · rw [Ht (I0 hik)] at hu;rw [if_neg Jo];exact hM _ _ (hl.2 i u hu)
         · have hap:=H.apart _ _ _ _ _ _ hx ht hn;refine hM.lies (e:=e) (fun i i1 i2=>?_) (H.lies _ _ _ hx);rw [hw,if_neg Jo]
     · cases hg
end
section
def gQ (φ:RMap)(h:HpS)(g:Frm)(g':RFrm):Prop:=g.f=g'.f∧g.b=g'.b∧g.i=g'.i∧Ml φ h g.vals g'.vals
def Tl (φ:RMap)(h:HpS):List Frm→List RFrm→Prop
 | [],[]=>True
 | a::l,b::l'=>gQ φ h a b∧Tl φ h l l'
 | _,_=>False
structure SimF (φ:RMap) (s:MS) (r:RS):Prop where
 hr:WHR φ s.h r.e
 g:gQ φ s.h s.g r.g
 st:Tl φ s.h s.st r.st
 inp:s.inp=r.inp
 out:s.out=r.out
 fuel:s.fuel=r.fuel
def wx (s:MS)(r:RS):Prop:=∃φ,SimF φ s r
def Nk:Stp→RStp→Prop
 | .lost,_=>True
 | .go s,r=>∃r',r= .go r'∧wx s r'
 | .halt e,r=>r= .halt e
 | .done l,r=>r= .done l
theorem ON {x:Option α}{f:α→Stp}(h:∀a,x=some a→Nk (f a) Y):Nk (Md x f) Y:=by
 cases x with
 | none=>trivial
 | some a=>exact h a rfl
theorem XD {p:Prop}[Decidable p](h:¬p→Nk X Y):Nk (if p then .lost else X) Y:=by
 split
 · trivial
 · rename_i hp;exact h hp
variable {m:Module}{φ φ':RMap}{h h':HpS}{s:MS}{r:RS}{k:Int}
theorem M3.frs (hM:M3 φ h φ' h'):∀{l:List Frm}{l':List RFrm},Tl φ h l l'→Tl φ' h' l l'
 | [],[],_=>trivial
 | a::l,b::l',hf=>⟨⟨hf.1.1,hf.1.2.1,hf.1.2.2.1,hM.vrs hf.1.2.2.2⟩,M3.frs hM hf.2⟩
 | [],_::_,hf=>hf.elim
 | _::_,[],hf=>hf.elim
theorem rm:∀{l:List Frm}{l':List RFrm},Tl φ h l l'→l.length=l'.length
 | [],[],_=>rfl
 | a::l,b::l',hf=>by rw [FP,FP,rm hf.2]
 | [],_::_,hf=>hf.elim
 | _::_,[],hf=>hf.elim
theorem Wk (hf:gQ φ h g g'){v:Val}(hv:g.val k=some v):∃n,g'.val k=some n∧N1 φ h v n:=by
 unfold Frm.val at hv;unfold RFrm.val;split at hv
 · cases hv
 · rename_i hk;rw [if_neg hk];exact hf.2.2.2.get hv
theorem bu (hf:gQ φ h g g'){n:Int}(hv:g.num k=some n):g'.val k=some n:=by
 unfold Frm.num at hv
 cases hx:g.val k with
 | none=>rw [hx] at hv;cases hv
 | some v=>
   rw [hx] at hv;simp only at hv;split at hv
   · rename_i hk;cases hv;obtain ⟨n,hn,hr⟩:=Wk hf hx;rw [hn,hr.1 hk]
   · cases hv
theorem ku {g:Frm}{g':RFrm}(hf:gQ φ h g g'):∀{l:List Int}{vs:List Val},g.args l=some vs→∃ns,g'.args l=some ns∧Ml φ h vs ns∧vs.length=l.length
 | [],vs,hv=>by rw [Frm.args] at hv;cases hv;exact ⟨[],rfl,Ml.nil _ _,rfl⟩
 | k ::l,vs,hv=>by
   rw [Frm.args] at hv
   cases hx:g.val k with
   | none=>rw [hx] at hv;cases hv
   | some v=>
     rw [hx] at hv
     cases hl:g.args l with
     | none=>rw [hl] at hv;cases hv
     | some ws=>
       rw [hl] at hv;cases hv;obtain ⟨n,hn,hr⟩:=Wk hf hx;obtain ⟨ns,hns,hrs,hlen⟩:=ku hf hl;exact ⟨n::ns,by rw [RFrm.args,hn,hns],Ml.cons hr hrs,by rw [FP,FP,hlen]⟩
theorem SimF.put (S:SimF φ s r)(hv:Ml φ s.h vs ns):SimF φ (s.put vs) (r.put ns):=
 ⟨S.hr,⟨S.g.1,S.g.2.1,S.g.2.2.1,S.g.2.2.2.app hv⟩,S.st,S.inp,S.out,S.fuel⟩
theorem SimF.heap (S:SimF φ s r){h':HpS}(H:WHR φ' h' e')(hM:M3 φ s.h φ' h'):SimF φ' (s.hp h') (r.es e'):=
 ⟨H,⟨S.g.1,S.g.2.1,S.g.2.2.1,hM.vrs S.g.2.2.2⟩,hM.frs S.st,S.inp,S.out,S.fuel⟩
theorem NL {r':RS}(S:SimF φ s' r'):Nk (.go s') (.go r'):=⟨r',rfl,φ,S⟩
theorem Tm {n:Int}(h0:0≤n)(h1:n≤100000):wr n=n:=bQ Jo Jo
theorem kv (S:SimF φ s r):Nk s.newR (if r.e.openV<0 then .halt 6 else .go ((r.es r.e.open).put [r.e.openV])):=by
 unfold MS.newR;have hf:=S.hr.full;by_cases hc:s.h.full=true
 · rw [if_pos hc,if_pos (hf.1 hc)];rfl
 · rw [if_neg hc,if_neg (fun h=>hc (hf.2 h))];obtain ⟨φ',H',hM,hv⟩:=S.hr.open D6;exact NL (φ:=φ') ⟨H',⟨S.g.1,S.g.2.1,S.g.2.2.1,(hM.vrs S.g.2.2.2).app (Ia hv)⟩,hM.frs S.st,S.inp,S.out,S.fuel⟩
theorem Wl (S:SimF φ s r){v:Val}{n:Int}(hv:N1 φ s.h v n){x:Int}{t:Thg}(hs:t.size=x)(hx:x≤16)(hkd:kd=3∨kd=4)(f:EstS→Int→EstS)
 (hf:s.h.code v x=0→∀A,A=r.e.getV n x→(f (r.e.get n x) A).Ok∧(f (r.e.get n x) A).rs=(r.e.get n x).rs∧(f (r.e.get n x) A).p.fr=(r.e.get n x).p.fr∧(∀i,¬(A≤i∧i<A+x)→(f (r.e.get n x) A).word i=(r.e.get n x).word i)∧Tk φ s.h (f (r.e.get n x) A) A t):
 Nk (s.made (s.h.code v x) (s.h.put v x t) (s.h.putV v kd x)) (r.gotR n x fun e at_=> .go ((r.es (f e at_)).put [at_])):=by
 unfold MS.made;have hx1:1≤x:=hs ▸ wu t;by_cases h20:s.h.code v x=20
 · rw [if_neg Jo,if_pos Jo];trivial
 · have hc:=S.hr.code hv (mK h20) ⟨hx1,hx⟩
   unfold RS.gotR;rw [hc];by_cases h14:s.h.code v x=14
   · rw [if_pos h14,if_pos h14];rfl
   · rw [if_neg h14,if_neg h14];refine XD fun h0=>?_;have h0:s.h.code v x=0:=DB;obtain ⟨g1,g2,g3,g4,g5⟩:=hf h0 _ rfl;obtain ⟨φ',H',hM,hv'⟩:=S.hr.put hv hs hx h0 hkd g1 g2 g3 g4 g5;exact NL ((S.heap H' hM).put (Ia hv'))
theorem Wm (H:WHR φ h r.e){v:Val}{n:Int}(hv:N1 φ h v n){x:Int}(hx1:1≤x)(hx:x≤16)(h0:h.code v x=0):(r.e.get n x).Ok∧0≤r.e.getV n x∧r.e.getV n x+x≤(((r.e.get n x).p.n*16:Nat):Int)∧r.e.getV n x+x≤1024∧∀i,r.e.getV n x≤i→i<r.e.getV n x+x→(r.e.get n x).word i=0:=by
 have hcan:=mK (h:=h) (v:=v) (x:=x) Jo;have hc0:r.e.code n x=0:=(H.code hv hcan ⟨hx1,hx⟩).trans h0;obtain ⟨r0,hr0,hh0,rfl,hlt0⟩:=H.slot hv hcan;obtain ⟨hm,hth0,hpg,hus⟩:=H.live r0 hh0;obtain ⟨P,u,G⟩:=kh H.ok hm hc0;have hok:=Km H.ok (φ.σ r0) x;have hux:=G.ux;have hv:=G.v;have hp:=qQ hok hm G.mem;have h64:=hok.n64;refine ⟨hok,Jo,Jo,Jo,fun i i1 i2=>?_⟩;show (r.e.get (φ.σ r0) x).p.word i=0;by_cases hpp:P∈(r.e.reg (φ.σ r0)).pages
 · obtain ⟨h6,h7⟩:=G.old hpp;rw [G.wo hpp];have:=H.z _ hm ES (i - P*16) Jo Jo;rw [←h6,show P*16+(i - P*16)=i by omega] at this;exact this
 · exact G.wz hpp _ Jo
theorem Zs (S:SimF φ s r){v:Val}{n:Int}(hv:N1 φ s.h v n)(hl:Ml φ s.h l ns)(hq:l.length=q)(h16:q≤16):
 Nk (s.made (s.h.code v (Mv l)) (s.h.tuple v l) (s.h.putV v 3 (Mv l))) (r.gotR n (max (q:Int) 1) fun e at_=> .go ((r.es (e.stores at_ ns)).put [at_])):=by
 have hw:max (q:Int) 1=Mv l:=(by unfold Mv;split<;>omega);rw [hw];have hw1:1≤Mv l∧Mv l≤16∧(l.length:Int)≤Mv l:=(by unfold Mv;split<;>omega);have hln:=hl.1;refine Wl S hv (t:=⟨false,l⟩) (by unfold Thg.size;rfl) hw1.2.1 (.inl rfl) (fun e a=>e.stores a ns) fun h0 A hA=>?_;subst hA;obtain ⟨hok,a0,a1,a2,az⟩:=Wm S.hr hv hw1.1 hw1.2.1 h0;obtain ⟨g1,g2,g3,g4,g5⟩:=Wi (l:=ns) hok a0 Jo;refine ⟨g1,g2,g4,fun i hi=>(by rw [g5,if_neg Jo]),fun ha=>(by cases ha),fun i u hu=>?_⟩;have hi:=(FD.1 hu).1;have hi:i<l.length:=hi;rw [g5];show N1 φ s.h u (if r.e.getV n (Mv l)≤r.e.getV n (Mv l)+0+i∧r.e.getV n (Mv l)+0+i<r.e.getV n (Mv l)+ns.length then ns.getD (r.e.getV n (Mv l)+0+i - r.e.getV n (Mv l)).toNat 0 else _);rw [if_pos Jo,show (r.e.getV n (Mv l)+0+i - r.e.getV n (Mv l)).toNat=i by omega];obtain ⟨y,hy,hvy⟩:=hl.get hu;rw [FE,hy];exact hvy
theorem Zt (S:SimF φ s r){v:Val}{n k:Int}(hv:N1 φ s.h v n)(h0:0≤k)(h15:k≤15):
 Nk (s.made (s.h.arrC v k) (s.h.arr v k) (s.h.arrV v k)) (r.gotR n (1+k) fun e at_=> .go ((r.es (e.store at_ k)).put [at_])):=by
 have hc:¬(k<0∨15<k):=DB;unfold HpS.arrC HpS.arr HpS.arrV;rw [if_neg hc,if_neg hc,if_neg hc,show 1+k=k+1 by omega];have hnl:(PI k).length=k.toNat:=Gw;refine Wl S hv (t:=⟨true,PI k⟩) (by unfold Thg.size;rw [if_pos rfl];show 1+((PI k).length:Int)=_;rw [hnl];omega) Jo (.inr rfl) (fun e a=>e.store a k) fun hc0 A hA=>?_;subst hA;obtain ⟨hok,a0,a1,a2,az⟩:=Wm S.hr hv Jo Jo hc0;have hin:(r.e.get n (k+1)).p.isIn (r.e.getV n (k+1))=true:=MN.2 Jo;have hw:∀i,((r.e.get n (k+1)).store (r.e.getV n (k+1)) k).word i=if i=r.e.getV n (k+1) then k else (r.e.get n (k+1)).word i:=qN hok.pok hin
 refine ⟨Wh hok _ _,rfl,It,fun i hi=>(by rw [hw,if_neg Jo]),fun _=>?_,fun i u hu=>?_⟩
 · rw [hw,if_pos rfl];show k=((PI k).length:Int);rw [hnl];omega
 · have hu:(PI k)[i]?=some u:=hu
   have hi:=(FD.1 hu).1;rw [hnl] at hi
   have hue:u=Lk 0:=by
    unfold PI at hu;rw [Hy] at hu;rw [if_pos hi] at hu;exact (FY hu).symm
   rw [hue,hw,if_neg (by show¬(_+1+_=_);omega),az _ (by show _≤_+1+_;omega) (by show _+1+_ < _;omega)];exact Jj _ _ _
theorem rp {v:Val}{c:Int}(h:v.kind=4→c≠20→(c=1→Y= .halt 2)∧(c=0→Nk X Y))(hc:c=0∨c=1∨c=20):Nk (Oo v c X) Y:=by
 unfold Oo;refine XD fun hk=>?_;have hk:v.kind=4:=DB;rcases hc with hc|hc|hc
 · rw [if_neg Jo,if_neg Jo];exact (h hk Jo).2 hc
 · rw [if_pos hc];exact (h hk Jo).1 hc
 · rw [if_neg Jo,if_pos Jo];trivial
theorem Qiq (h:HpS)(v:Val)(k:Int):(h.get v k).2=0∨(h.get v k).2=1∨(h.get v k).2=20:=by
 unfold HpS.get;split
 · simp
 · split<;>simp
theorem Qfn (h:HpS)(v:Val)(k:Int)(y:Val):h.setC v k y=0∨h.setC v k y=1∨h.setC v k y=20:=by
 unfold HpS.setC;split
 · simp
 · split
   · simp
   · split<;>simp
theorem Qi0 (h:HpS)(v:Val):(h.len v).2=0∨(h.len v).2=1∨(h.len v).2=20:=by
 unfold HpS.len;split<;>simp
theorem kx (S:SimF φ s r){x:Ins}(h16:x.args.length≤16):Nk (s.ins m x) (r.ins m x):=by
 have hg:=S.g;unfold MS.ins RS.ins;by_cases o1:x.op=1
 · rw [if_pos o1,if_pos o1];exact NL (S.put (Ia (Jj _ _ _)))
 rw [if_neg o1,if_neg o1];by_cases o2:x.op=2
 · rw [if_pos o2,if_pos o2]
   refine ON fun a ha=>ON fun b hb=>?_;rw [OU (bu hg ha),OU (bu hg hb)];split
   · rfl
   · exact NL (S.put (Ia (Jj _ _ _)))
 rw [if_neg o2,if_neg o2];by_cases o3:x.op=3
 · rw [if_pos o3,if_pos o3];exact kv S
 rw [if_neg o3,if_neg o3];by_cases o4:x.op=4
 · rw [if_pos o4,if_pos o4];refine ON fun v hv=>?_;obtain ⟨n,hn,hr⟩:=Wk hg hv;rw [OU hn];refine XD fun hc=>?_;obtain ⟨H',hM⟩:=S.hr.shut hr D6;exact NL (S.heap H' hM)
 rw [if_neg o4,if_neg o4];by_cases o5:x.op=5
 · rw [if_pos o5,if_pos o5];refine ON fun v hv=>ON fun l hl=>?_;obtain ⟨n,hn,hr⟩:=Wk hg hv;obtain ⟨ns,hns,hrs,hlen⟩:=ku hg hl;rw [OU hn,OU hns];exact Zs S hr hrs hlen h16
 rw [if_neg o5,if_neg o5];by_cases o6:x.op=6
 · rw [if_pos o6,if_pos o6];refine ON fun v hv=>?_;obtain ⟨n,hn,hr⟩:=Wk hg hv;rw [OU hn];refine XD fun hk=>XD fun h0=>?_;obtain ⟨o,ho,p0,p1,p2,p3⟩:=S.hr.get hr (k:=x.k) Jo;rw [if_neg Jo] at ho;subst ho;rw [Tm Jo Jo];rw [J2] at p3;exact NL (S.put (Ia p3))
 rw [if_neg o6,if_neg o6];by_cases o7:x.op=7
 · rw [if_pos o7,if_pos o7];refine ON fun v hv=>?_;obtain ⟨n,hn,hr⟩:=Wk hg hv;rw [OU hn];refine XD fun hk=>ON fun y hy=>?_;obtain ⟨b,hb,hry⟩:=Wk hg hy;rw [OU hb];refine XD fun h0=>?_;obtain ⟨o,ho,p0,p1,p2,p3,p4⟩:=S.hr.set hr (k:=x.k) hry Jo;rw [if_neg Jo] at ho;subst ho;rw [Tm Jo Jo];rw [J2] at p3;exact NL (S.heap p3 p4)
 rw [if_neg o7,if_neg o7];by_cases o8:x.op=8
 · rw [if_pos o8,if_pos o8]
   refine ON fun v hv=>ON fun k hk=>?_;obtain ⟨n,hn,hr⟩:=Wk hg hv;rw [OU hn,OU (bu hg hk)];by_cases hc:k<0∨15<k
   · rw [if_pos hc,if_pos hc];rfl
   · rw [if_neg hc,if_neg hc];exact Zt S hr Jo Jo
 rw [if_neg o8,if_neg o8];by_cases o9:x.op=9
 · rw [if_pos o9,if_pos o9]
   refine ON fun v hv=>ON fun k hk=>?_;obtain ⟨n,hn,hr⟩:=Wk hg hv;rw [OU hn,OU (bu hg hk)];refine rp (fun h4 h20=>?_) (Qiq _ _ _);obtain ⟨q1,q2,q3,q4⟩:=S.hr.len hr h4 (eg h20);unfold RS.atR;rw [q1];have q5:=q4 k;refine ⟨fun h1=>if_pos ?_,fun h0=>?_⟩
   · rw [h1] at q5;split at q5<;>omega
   · obtain ⟨o,ho,p0,p1,p2,p3⟩:=S.hr.get hr h0;rw [if_pos h4] at ho;subst ho;rw [if_neg Fo,Tm (n:=n+1) Jo Jo,Tm Jo Jo];exact NL (S.put (Ia p3))
 rw [if_neg o9,if_neg o9];by_cases o10:x.op=10
 · rw [if_pos o10,if_pos o10]
   refine ON fun v hv=>ON fun k hk=>ON fun c hc=>?_;obtain ⟨n,hn,hr⟩:=Wk hg hv;rw [OU hn,OU (bu hg hk),OU (bu hg hc)];refine rp (fun h4 h20=>?_) (Qfn _ _ _ _);obtain ⟨q1,q2,q3,q4⟩:=S.hr.len hr h4 (Zr h20);have q5:=Wj h4 h20;unfold RS.atR;rw [q1];refine ⟨fun h1=>if_pos ?_,fun h0=>?_⟩
   · rw [h1] at q5;split at q5<;>omega
   · obtain ⟨o,ho,p0,p1,p2,p3,p4⟩:=S.hr.set hr (Jj φ s.h c) h0;rw [if_pos h4] at ho;subst ho;rw [if_neg Fo,Tm (n:=n+1) Jo Jo,Tm Jo Jo];exact NL (S.heap p3 p4)
 rw [if_neg o10,if_neg o10];by_cases o11:x.op=11
 · rw [if_pos o11,if_pos o11]
   refine ON fun v hv=>?_;obtain ⟨n,hn,hr⟩:=Wk hg hv;rw [OU hn];refine rp (fun h4 h20=>?_) (Qi0 _ _);refine ⟨fun h1=>?_,fun h0=>?_⟩
   · unfold HpS.len at h1;split at h1<;>simp at h1
   · obtain ⟨q1,_⟩:=S.hr.len hr h4 h0;rw [q1];exact NL (S.put (Ia (Jj _ _ _)))
 rw [if_neg o11,if_neg o11];by_cases o12:x.op=12
 · rw [if_pos o12,if_pos o12]
   unfold MS.inS RS.inR;rw [←S.inp]
   cases s.inp with
   | nil=>rfl
   | cons n l=>
     have S':SimF φ ⟨s.h,s.g,s.st,l,s.out,s.fuel⟩ ⟨r.e,r.g,r.st,l,r.out,r.fuel⟩:=⟨S.hr,S.g,S.st,rfl,S.out,S.fuel⟩;exact NL (S'.put (Ia (Jj _ _ _)))
 rw [if_neg o12,if_neg o12];by_cases o13:x.op=13
 · rw [if_pos o13,if_pos o13]
   refine ON fun n hn=>?_;rw [OU (bu hg hn)];unfold MS.outS RS.outR;rw [←S.out];split
   · rfl
   · exact NL (φ:=φ) ⟨S.hr,S.g,S.st,S.inp,rfl,S.fuel⟩
 rw [if_neg o13,if_neg o13];unfold MS.call
 cases hf:m.funcs[x.k.toNat]? with
 | none=>trivial
 | some gf=>
   refine ON fun rs hrs=>ON fun vs hvs=>?_;obtain ⟨ns,hns,hv,hlen⟩:=ku hg hvs;rw [OU hns];refine XD fun _=>?_;have hst:=rm S.st;unfold RS.callR;by_cases h40:s.st.length+1=40
   · rw [if_pos h40,if_pos Jo];rfl
   · rw [if_neg h40,if_neg Jo];exact NL (φ:=φ) ⟨S.hr,⟨rfl,rfl,rfl,hv⟩,⟨S.g,S.st⟩,S.inp,S.out,S.fuel⟩
theorem eh (S:SimF φ s r){f:Fun}{t:To}:Nk (s.to f t) (r.to t):=by
 unfold MS.to RS.to
 cases hb:f.blocks[t.block.toNat]? with
 | none=>trivial
 | some b=>
   refine ON fun rs hrs=>ON fun vs hvs=>?_;obtain ⟨ns,hns,hv,hlen⟩:=ku S.g hvs;rw [OU hns];refine XD fun _=>?_;exact NL (φ:=φ) ⟨S.hr,⟨S.g.1,rfl,rfl,hv⟩,S.st,S.inp,S.out,S.fuel⟩
theorem wy:∀{vs:List Val}{ns l:List Int},Ml φ h vs ns→Lm vs=some l→l=ns
 | [],ns,l,hv,hi=>by
   rw [Lm] at hi;cases hi;exact (GP.1 hv.1.symm).symm
 | v::vs,[],l,hv,hi=>by have:=hv.1;simp at this
 | v ::vs,n::ns,l,hv,hi=>by
   rw [Lm] at hi
   cases hx:Lm vs with
   | none=>rw [hx] at hi;cases hi
   | some l'=>
     rw [hx] at hi;simp only at hi;split at hi
     · rename_i hk;cases hi;have h1:=wy (ns:=ns) ⟨by have:=hv.1;simpa using this,fun i u q h1 h2=>hv.2 (i+1) u q Em (by simpa using h2)⟩ hx;have h2:=(hv.2 0 v n rfl rfl).1 hk;rw [h1,h2]
     · cases hi
theorem ky (S:SimF φ s r){f:Fun}{e:Tail}(he:1≤e.op∧e.op≤3):Nk (s.fin f e) (r.fin e):=by
 unfold MS.fin RS.fin;by_cases h1:e.op=1
 · rw [if_pos h1,if_neg Jo,if_neg Jo];exact eh S
 rw [if_neg h1];by_cases h2:e.op=2
 · rw [if_pos h2,if_neg Jo,if_pos h2]
   refine ON fun n hn=>?_;rw [OU (bu S.g hn)];by_cases h0:n=0
   · rw [if_neg Jo,if_pos h0];exact eh S
   · rw [if_pos h0,if_neg h0];exact eh S
 rw [if_neg h2,if_pos Jo];unfold MS.ret;refine ON fun vs hvs=>?_;obtain ⟨ns,hns,hv,hlen⟩:=ku S.g hvs;rw [OU hns];refine XD fun _=>?_;have hst:=S.st
 cases hs:s.st with
 | nil=>
   rw [hs] at hst
   cases hr:r.st with
   | cons c l=>rw [hr] at hst;exact hst.elim
   | nil=>
     simp only
     cases hi:Lm vs with
     | none=>trivial
     | some l=>show RStp.done ns= .done l;rw [wy hv hi]
 | cons c l=>
   rw [hs] at hst
   cases hr:r.st with
   | nil=>rw [hr] at hst;exact hst.elim
   | cons c' l'=>
     rw [hr] at hst;have S':SimF φ ⟨s.h,c,l,s.inp,s.out,s.fuel⟩ ⟨r.e,c',l',r.inp,r.out,r.fuel⟩:=⟨S.hr,hst.1,hst.2,S.inp,S.out,S.fuel⟩;exact NL (S'.put hv)
def Wn (m:Module):Prop:=∀(i j:Nat) (f:Fun) (b:Block),m.funcs[i]?=some f→f.blocks[j]?=some b→(∀x∈b.code,x.args.length≤16)∧1≤b.fin.op∧b.fin.op≤3
theorem kz (hM:Wn m)(S:SimF φ s r):Nk (s.one m) (r.one m):=by
 unfold MS.one RS.one;obtain ⟨e1,e2,e3,hv⟩:=S.g;rw [←e1,←e2,←e3]
 cases hf:m.funcs[s.g.f]? with
 | none=>trivial
 | some f=>
   simp only
   cases hb:f.blocks[s.g.b]? with
   | none=>trivial
   | some b=>
     simp only;obtain ⟨c1,c2⟩:=hM _ _ _ _ hf hb
     cases hx:b.code[s.g.i]? with
     | none=>exact ky S c2
     | some x=>
       have S':SimF φ s.next r.next:=⟨S.hr,⟨e1,e2,by show s.g.i+1=r.g.i+1;omega,hv⟩,S.st,S.inp,S.out,S.fuel⟩;exact kx S' (c1 _ (FC hx))
theorem ei (S:SimF φ s r):SimF φ s.tick r.tick:=⟨S.hr,S.g,S.st,S.inp,S.out,by show s.fuel+1=r.fuel+1;rw [S.fuel]⟩
theorem Zu {pages:Nat}(hp:pages≤64):wx (MS.start inp pages) (RS.start inp pages):=by
 have hreg:∀k:Nat,k<16→(EstS.mk0 pages).reg k=Reg.none:=fun k hk=>by
  unfold EstS.reg;rw [if_pos Jo,F9,FE];show ((List.replicate 16 Reg.none)[k]?).getD Reg.none=_;rw [Hy,if_pos hk];rfl
 have hno:∀q:Int,(⟨[],pages⟩:HpS).has q=false:=fun q=>by
  unfold HpS.has HpS.reg;split<;>simp [Rgn.none]
 refine ⟨⟨fun _=>0,fun _ _=>0⟩,⟨Kk hp,?_,rfl,fun q hq=>?_,fun q _ hq=>?_,fun k hk hpg=>?_,fun q t x hx=>?_,fun q t x _ _ _ hx=>?_,fun q t x hx=>?_⟩,⟨rfl,rfl,rfl,Ml.nil _ _⟩,trivial,rfl,rfl,rfl⟩
 · show (pages:Int)=((PH pages pages).length:Int);rw [mf]
 · exact absurd ((hno _).symm.trans hq) Js
 · exact absurd ((hno _).symm.trans hq) Js
 · exact absurd (by show ((EstS.mk0 pages).reg k).pages=[];rw [hreg k hk];rfl) hpg
 · exact absurd ((hno _).symm.trans hx.1) Js
 · exact absurd ((hno _).symm.trans hx.1) Js
 · exact absurd ((hno _).symm.trans hx.1) Js
end
end Go.Proofs.YteflkifmgnpbhaaGreat
namespace Go.Lir
section
def Frm.ρ (g:Frm)(r:Int):Int:=g.regs.getD r.toNat 0
def bw (f:Fun)(z:JS)(g:Frm)(k:Int):Prop:=∃r,K4 z.h r=true∧f.regs≤r∧g.ρ r=k
def wA (f:Fun)(z:JS)(g:Frm):Prop:=∀r q,K4 z.h r=true→K4 z.h q=true→f.regs≤r→f.regs≤q→g.ρ r=g.ρ q→r=q
def PL (f:Fun)(g:Frm):List Int:=g.regs.take f.regs.toNat
structure FT (Ψ:L9) (z:JS) (g:Frm):Prop where
 n:g.regs.length=z.h.length
 v:MZ Ψ g.vals (z.l.map fun t=>t.rn g.regs)
theorem FT.ext {Ψ Ψ':L9}{z:JS}(h:FT Ψ z g)(he:Wc Ψ Ψ'):FT Ψ' z g:=⟨h.n,h.v.ext he⟩
inductive Wt (m:Module) (Ψ:L9):List Frm→Fun→List Int→(Int→Prop)→Prop where
 | nil {f:Fun}(hf:m.funcs[0]?=some f):Wt m Ψ [] f [] (fun _=>False)
 | cons {c:Frm}{st:List Frm}{fc gf:Fun}{bc:Block}{z z':JS}{x:Ins}{O:Int→Prop}(hf:m.funcs[c.f]?=some fc) (hb:fc.blocks[c.b]?=some bc) (hi:JInv m fc z) (ht:FT Ψ z c) (hx:x.op=14)
    (hF:Qz m.funcs.length x=0) (hc:Rw m z x= .ok z') (hg:m.funcs[x.k.toNat]?=some gf) (hr:(NQ m fc c.f c.b bc.fin c.i z' (bc.code.drop c.i)).1=0)
    (hw:Wt m Ψ st fc (PL fc c) O) (hj:wA fc z c) (hd:∀k,bw fc z c k→¬O k):Wt m Ψ (c::st) gf (x.regs.map c.ρ) (fun k=>bw fc z c k∨O k)
structure Safe (m:Module) (Ψ:L9) (s:MS) (f:Fun) (b:Block) (z:JS) (O:Int→Prop):Prop where
 ty:HTy Ψ s.h
 hf:m.funcs[s.g.f]?=some f
 hb:f.blocks[s.g.b]?=some b
 run:(NQ m f s.g.f s.g.b b.fin s.g.i z (b.code.drop s.g.i)).1=0
 inv:JInv m f z
 ft:FT Ψ z s.g
 wt:Wt m Ψ s.st f (PL f s.g) O
 inj:wA f z s.g
 dis:∀k,bw f z s.g k→¬O k
 has:∀k,s.h.has k=true↔(bw f z s.g k∨O k)
def XE (m:Module)(s:MS):Prop:=∃Ψ f b z O,Safe m Ψ s f b z O
section
variable {m:Module}{Ψ Ψ':L9}{s:MS}{f:Fun}{b:Block}{z z':JS}{O:Int→Prop}{g:Frm}{k:Int}{t u:Ty}{v:Val}
theorem Wt.ext (h:Wt m Ψ st f kp O)(he:Wc Ψ Ψ'):Wt m Ψ' st f kp O:=by
 induction h with
 | nil hf=>exact .nil hf
 | cons hf hb hi ht hx hF hc hg hr hw hj hd ih=>exact .cons hf hb hi (ht.ext he) hx hF hc hg hr ih hj hd
theorem wB (h0:0≤k)(hk:k<f.regs)(hl:f.regs≤g.regs.length):g.ρ k∈PL f g:=by
 unfold Frm.ρ PL;have h1:k.toNat<g.regs.length:=DB;rw [FE,FB h1];refine FC (i:=k.toNat) ?_;rw [Gv Jo,FB h1];rfl
theorem rq {x:Ins}{gf:Fun}(hc:Rw m z x= .ok z')(hg:m.funcs[x.k.toNat]?=some gf):(x.regs.length:Int)=gf.regs∧NB z.h [] x.regs= .ok ()∧O2 z x.args gf.params x.regs= .ok ()∧z'=⟨z.h,z.l++gf.results.map (Nc x.regs)⟩:=by
 unfold Rw at hc;rw [hg] at hc;dsimp only at hc;split at hc
 · cases hc
 · rename_i hl
   obtain ⟨_,h1,hc⟩:=Q7 hc;obtain ⟨_,h2,hc⟩:=Q7 hc;split at hc
   · cases hc
   · cases hc;exact ⟨Jo,h1,h2,rfl⟩
theorem kA (hi:JInv m f z):f.regs≤z.h.length:=by
 by_cases h:f.regs≤0
 · omega
 · have:=Tj (hi.keep (f.regs - 1) Jo Jo);omega
theorem Wt.kept (h:Wt m Ψ st f kp O):∀k∈kp,O k:=by
 induction h with
 | nil hf=>intro k hk;cases hk
 | @cons c st fc gf bc z z' x O hf hb hi ht hx hF hc hg hr hw hj hd ih=>
   intro k hk;obtain ⟨r,hrx,rfl⟩:=Gm.1 hk;obtain ⟨_,h1,_⟩:=rq hc hg;have hh:=ja h1 r hrx;have hrg:=Tj hh;by_cases hlt:r<fc.regs
   · exact .inr (ih _ (wB hrg.1 hlt (by rw [ht.n];exact kA hi)))
   · exact .inl ⟨r,hh,Jo,rfl⟩
theorem Safe.held (h:Safe m Ψ s f b z O){r:Int}(hr:K4 z.h r=true):s.h.has (s.g.ρ r)=true:=by
 have hrg:=Tj hr;rw [h.has];by_cases hlt:r<f.regs
 · exact .inr (h.wt.kept _ (wB hrg.1 hlt (by rw [h.ft.n];exact kA h.inv)))
 · exact .inl ⟨r,hr,Jo,rfl⟩
theorem kB (ht:FT Ψ z g)(h:L6 z k= .ok t):∃v,g.val k=some v∧VT Ψ v (t.rn g.regs):=by
 obtain ⟨h0,h1⟩:=lQ h;obtain ⟨v,h2,h3⟩:=ht.v.get (i:=k.toNat) (t:=t.rn g.regs) (by rw [FW,h1];rfl);exact ⟨v,by unfold Frm.val;rw [if_neg Jo];exact h2,h3⟩
theorem Zv (ht:FT Ψ z g)(h:K6 z k kd= .ok t):∃v,g.val k=some v∧VT Ψ v (t.rn g.regs)∧t.kind=kd:=by
 obtain ⟨v,h1,h2⟩:=kB ht (zJ h);exact ⟨v,h1,h2,(oN h).2.2⟩
theorem bx (ht:FT Ψ z g)(h:K6 z k 1= .ok t):∃n,g.num k=some n:=by
 obtain ⟨v,h1,h2,h3⟩:=Zv ht h;have h4:=h2.kind;rw [Iu,h3] at h4;exact ⟨v.n,by unfold Frm.num;rw [h1];exact if_pos h4⟩
theorem Safe.at_ (h:Safe m Ψ s f b z O)(hj:L4 z k kd= .ok t)(hk:kd≠1):∃v,s.g.val k=some v∧VT Ψ v (t.rn s.g.regs)∧(t.rn s.g.regs).kind=kd∧v.kind=kd∧s.h.has (t.rn s.g.regs).r=true∧(t.rn s.g.regs).r=s.g.ρ t.r:=by
 obtain ⟨v,h1,h2⟩:=kB h.ft (tO hj);obtain ⟨_,_,h3,h4⟩:=Xp hj;have h5:(t.rn s.g.regs).kind=kd:=(by rw [Iu,h3]);have h6:(t.rn s.g.regs).r=s.g.ρ t.r:=Ty.rn_r _ Jo;exact ⟨v,h1,h2,h5,by rw [h2.kind,h5],by rw [h6];exact h.held h4,h6⟩
theorem wC (ht:FT Ψ z g):∀{l:List Int}{ts:List Ty},K2 z l= .ok ts→∃vs,g.args l=some vs∧MZ Ψ vs (ts.map fun t=>t.rn g.regs)
 | [],ts,h=>by rw [K2] at h;cases h;exact ⟨[],rfl,Jh Ψ⟩
 | k::l,ts,h=>by
   rw [K2] at h;obtain ⟨t,h1,h⟩:=Q7 h;obtain ⟨us,h2,h⟩:=Q7 h;cases h;obtain ⟨v,h3,h4⟩:=kB ht h1;obtain ⟨vs,h5,h6⟩:=wC ht h2;exact Dr
theorem wD (ht:FT Ψ z g){regs:List Int}:∀{l:List Int}{want:List Ty},l.length=want.length→Ox z regs l want= .ok ()→∃vs,g.args l=some vs∧MZ Ψ vs (want.map fun t=>(t.rn regs).rn g.regs)
 | [],[],_,_=>⟨[],rfl,Jh Ψ⟩
 | [],_::_,hl,_=>by simp at hl
 | _::_,[],hl,_=>by simp at hl
 | k ::l,u::want,hl,h=>by
   rw [Ox] at h;obtain ⟨t,h1,h⟩:=Q7 h
   cases hu:u.ren regs with
   | none=>rw [hu] at h;cases h
   | some u'=>
     rw [hu] at h;dsimp only at h;split at h
     · cases h
     · rename_i he;have he:t=u':=Gi.1 he;obtain ⟨v,h3,h4⟩:=kB ht h1;obtain ⟨vs,h5,h6⟩:=wD ht (by simpa using hl) h;rw [he,Ty.rn_of u u' hu] at h4;exact Dr
theorem rr (ht:FT Ψ z g){regs l:List Int}{want:List Ty}(h:O2 z l want regs= .ok ()):∃vs,g.args l=some vs∧MZ Ψ vs (want.map fun t=>(t.rn regs).rn g.regs):=by
 unfold O2 at h;split at h
 · cases h
 · rename_i hl;exact wD ht Jo h
theorem Wo {l:List Int}(hn:g.regs.length=z.h.length)(h:∀r∈l,K4 z.h r=true):g.rgs l=some (l.map g.ρ):=by
 induction l with
 | nil=>rfl
 | cons r l ih=>
   have h1:=Tj (h r (GK ..))
   have h2:g.reg r=some (g.ρ r):=by
    unfold Frm.reg Frm.ρ;rw [if_neg Jo,FE,FB Jo];rfl
   rw [Frm.rgs,h2,ih fun q hq=>h q (Gr _ hq)];rfl
theorem wE {g g':Frm}(h:g.vals=g'.vals):∀l:List Int,g.args l=g'.args l
 | []=>rfl
 | k::l=>by
   have h1:g.val k=g'.val k:=(by unfold Frm.val;rw [h]);rw [Frm.args,Frm.args,h1,wE h l]
theorem wF {g g':Frm}(h:g.regs=g'.regs):∀l:List Int,g.rgs l=g'.rgs l
 | []=>rfl
 | k::l=>by
   have h1:g.reg k=g'.reg k:=(by unfold Frm.reg;rw [h]);rw [Frm.rgs,Frm.rgs,h1,wF h l]
theorem wG (s:MS)(l:List Int):s.next.g.args l=s.g.args l:=wE (g:=s.next.g) (g':=s.g) rfl l
theorem Wp (s:MS)(l:List Int):s.next.g.rgs l=s.g.rgs l:=wF (g:=s.next.g) (g':=s.g) rfl l
theorem Safe.ins (h:Safe m Ψ s f b z O){x:Ins}(hx:b.code[s.g.i]?=some x):Qz m.funcs.length x=0∧Lb m f z x= .ok (Lj m f z x).2∧(NQ m f s.g.f s.g.b b.fin (s.g.i+1) (Lj m f z x).2 (b.code.drop (s.g.i+1))).1=0:=by
 have h1:=h.run;rw [Q1 hx] at h1;by_cases hc:(Lj m f z x).1=0
 · rw [rf hc] at h1;obtain ⟨h2,h3⟩:=oR hc;exact ⟨h2,h3,h1⟩
 · rw [rh hc] at h1;exact absurd h1 hc
theorem Safe.more (h:Safe m Ψ s f b z O){out:List Int}{fuel:Nat}(hH:HTy Ψ' h')(hE:Wc Ψ Ψ')(hhas:∀q,h'.has q=s.h.has q)(hz:z'=⟨z.h,z.l++ts⟩)
 (hv:MZ Ψ' vs (ts.map fun t=>t.rn s.g.regs))(hr:(NQ m f s.g.f s.g.b b.fin (s.g.i+1) z' (b.code.drop (s.g.i+1))).1=0)(hi:JInv m f z'):
 Safe m Ψ' ⟨h',⟨s.g.f,s.g.b,s.g.i+1,s.g.vals++vs,s.g.regs⟩,s.st,inp,out,fuel⟩ f b z' O:=by
 subst hz;refine ⟨hH,h.hf,h.hb,hr,hi,⟨h.ft.n,?_⟩,h.wt.ext hE,h.inj,h.dis,fun k=>?_⟩
 · show MZ Ψ' (s.g.vals++vs) ((z.l++ts).map fun t=>t.rn s.g.regs);rw [Ga];exact (h.ft.v.ext hE).app hv
 · show h'.has k=true↔_;rw [hhas];exact h.has k
def gR (m:Module):Stp→Prop
 | .go s=>XE m s
 | .halt _=>True
 | .done _=>True
 | .lost=>False
theorem mF (h:Me z t= .ok z'):z'=⟨z.h,z.l++[t]⟩:=by
 obtain ⟨_,h1,h2⟩:=lR h;obtain ⟨a,l⟩:=z';dsimp only at h1 h2;rw [h1,h2]
theorem QeW (Ψ:L9)(n:Int)(f:List Int):VT Ψ (Lk n) (KZ.rn f):=by
 unfold KZ;rw [HX];exact ⟨rfl,fun h=>absurd rfl h,fun h=>by cases h<;>rename_i h<;>cases h⟩
theorem Zw {h:HpS}(hk:y.kind=1)(f:List Int):VT Ψ y (KZ.rn f):=by
 unfold KZ;rw [HX];exact ⟨hk,fun h=>absurd rfl h,fun h=>by cases h<;>rename_i h<;>cases h⟩
theorem Zx (hM:m.fault.1=0)(hm:m.Short)(h:Safe m Ψ s f b z O){x:Ins}(hx:b.code[s.g.i]?=some x)(hop:x.op≠3)(hop4:x.op≠4)(hop14:x.op≠14):gR m ((s.next).ins m x):=by
 obtain ⟨hF,hj,hrun⟩:=h.ins hx;have hinv:=kq hM hm h.inv hF hj;have hopr:=aC hF;have hft:=h.ft;have e0:s.next.g.num=s.g.num:=rfl;have same:∀(q:Int),s.h.has q=s.h.has q:=fun _=>rfl;generalize (Lj m f z x).2=z' at hj hrun hinv;unfold MS.ins;rcases Mc (op:=x.op) Jo Jo with e|e|e|e|e|e|e|e|e|e|e|e|e|e
 · rw [if_pos e];rw [Xq (.inl e)] at hj;exact Bn
 · rw [if_neg Jo,if_pos e]
   rw [aD e] at hj;obtain ⟨t1,h1,hj⟩:=Q7 hj;obtain ⟨t2,h2,hj⟩:=Q7 hj;obtain ⟨a,ha⟩:=bx hft h1;obtain ⟨c,hc⟩:=bx hft h2;rw [Ql (show s.next.g.num x.a=some a from ha),Ql (show s.next.g.num x.b=some c from hc)];split
   · exact trivial
   · exact Bn
 · exact absurd e hop
 · exact absurd e hop4
 · rw [if_neg Jo,if_neg Jo,if_neg Jo,if_neg Jo,if_pos e]
   rw [gk e] at hj;unfold UD at hj;obtain ⟨t,h1,hj⟩:=Q7 hj;obtain ⟨ts,h2,hj⟩:=Q7 hj;split at hj
   · cases hj
   · obtain ⟨v,g1,g2,g3,g4,g5,g6⟩:=h.at_ h1 Jd
     obtain ⟨vs,k1,k2⟩:=wC hft h2;rw [Ql (show s.next.g.val x.a=some v from g1),Ql ((wG s x.args).trans k1)];unfold MS.made;rcases SH g2 g3 g5 (Mv vs) with hc|hc
     · rw [show s.next.h.code v (Mv vs)=0 from hc,if_neg Jd,if_neg Jd];have hreg:=g2.reg Jo;have hT:((Ty.mk 3 t.r ts).rn s.g.regs).r=v.region:=(by rw [Ty.rn_mr _ Jd,hreg,g6];rfl);have hK:((Ty.mk 3 t.r ts).rn s.g.regs).kind=3:=Iu _ _;have hL:((Ty.mk 3 t.r ts).rn s.g.regs).l=ts.map fun t=>t.rn s.g.regs:=Ty.rn_l _ _;obtain ⟨p1,p2,p3,p4⟩:=wi (t:=(Ty.mk 3 t.r ts).rn s.g.regs) (n:=Mv vs) (x:=⟨false,vs⟩) h.ty hc hT (.inl hK) (N0.tup hK (by rw [hL];exact k2));rw [hK] at p4;exact CR
     · rw [show s.next.h.code v (Mv vs)=14 from hc,if_pos rfl];exact trivial
 · rw [if_neg Jo,if_neg Jo,if_neg Jo,if_neg Jo,if_neg Jo,if_pos e];rw [aE e] at hj;obtain ⟨t,h1,hj⟩:=Q7 hj;obtain ⟨u,h2,hj⟩:=Q7 hj;obtain ⟨v,g1,g2,g3,g4,g5,g6⟩:=h.at_ h1 Jd;have hk0:0≤x.k:=Fh;have hu:(t.rn s.g.regs).l[x.k.toNat]?=some (u.rn s.g.regs):=FA;obtain ⟨q1,q2⟩:=ec h.ty g2 g3 g5 hk0 hu;rw [Ql (show s.next.g.val x.a=some v from g1),if_neg Jo,if_neg (by rw [show s.next.h.get v x.k=s.h.get v x.k from rfl,q1];decide)];exact ⟨_,_,_,_,_,h.more h.ty (IZ _) same (mF hj) (Ji q2) hrun hinv⟩
 · rw [if_neg Jo,if_neg Jo,if_neg Jo,if_neg Jo,if_neg Jo,if_neg Jo,if_pos e]
   rw [UE e] at hj;obtain ⟨t,h1,hj⟩:=Q7 hj;obtain ⟨u,h2,hj⟩:=Q7 hj;obtain ⟨w,h3,hj⟩:=Q7 hj;split at hj
   · cases hj
   · rename_i huw;have huw:u=w:=Gi.1 huw;subst huw;obtain ⟨v,g1,g2,g3,g4,g5,g6⟩:=h.at_ h1 Jd;obtain ⟨y,y1,y2⟩:=kB hft h3;have hk0:0≤x.k:=Fh;have hu:(t.rn s.g.regs).l[x.k.toNat]?=some (u.rn s.g.regs):=FA;have q1:=Zq h.ty g2 g3 g5 hk0 hu y;rw [Ql (show s.next.g.val x.a=some v from g1),if_neg Jo,Ql (show s.next.g.val x.b=some y from y1),if_neg (by rw [show s.next.h.setC v x.k y=s.h.setC v x.k y from rfl,q1];decide)];obtain ⟨p1,p2⟩:=wj (i:=x.k) (y:=y) h.ty g2 (.inl g3) g5 (fun _ u' hu'=>by rw [hu] at hu';cases hu';exact y2) (fun h4=>by omega);have hz:z'=⟨z.h,z.l++[]⟩:=EA;have hmore:=h.more (inp:=s.inp) (out:=s.out) (fuel:=s.fuel) p1 (IZ _) p2 hz (Jh Ψ) hrun hinv;rw [GL] at hmore;exact ⟨_,_,_,_,_,hmore⟩
 · rw [if_neg Jo,if_neg Jo,if_neg Jo,if_neg Jo,if_neg Jo,if_neg Jo,if_neg Jo,if_pos e]
   rw [aF e] at hj;obtain ⟨t,h1,hj⟩:=Q7 hj;obtain ⟨t2,h2,hj⟩:=Q7 hj;obtain ⟨v,g1,g2,g3,g4,g5,g6⟩:=h.at_ h1 Jd;obtain ⟨n,hn⟩:=bx hft h2;rw [Ql (show s.next.g.val x.a=some v from g1),Ql (show s.next.g.num x.b=some n from hn)];by_cases hr:n<0∨15<n
   · rw [if_pos hr];exact trivial
   · rw [if_neg hr]
     unfold HpS.arrC HpS.arr HpS.arrV;rw [if_neg hr,if_neg hr,if_neg hr];unfold MS.made;rcases SH g2 g3 g5 (n+1) with hc|hc
     · rw [show s.next.h.code v (n+1)=0 from hc,if_neg Jd,if_neg Jd];have hreg:=g2.reg Jo;have hT:((Ty.mk 4 t.r []).rn s.g.regs).r=v.region:=(by rw [Ty.rn_mr _ Jd,hreg,g6];rfl);have hK:((Ty.mk 4 t.r []).rn s.g.regs).kind=4:=Iu _ _;have hth:N0 Ψ ⟨true,PI n⟩ ((Ty.mk 4 t.r []).rn s.g.regs):=N0.arr hK (by unfold PI;rw [Gw];omega) (fun y hy=>by unfold PI at hy;rw [GX hy]);obtain ⟨p1,p2,p3,p4⟩:=wi (t:=(Ty.mk 4 t.r []).rn s.g.regs) (n:=n+1) (x:=⟨true,PI n⟩) h.ty hc hT (.inr hK) hth;rw [hK] at p4;exact CR
     · rw [show s.next.h.code v (n+1)=14 from hc,if_pos rfl];exact trivial
 · rw [if_neg Jo,if_neg Jo,if_neg Jo,if_neg Jo,if_neg Jo,if_neg Jo,if_neg Jo,if_neg Jo,if_pos e]
   rw [aG e] at hj;obtain ⟨t,h1,hj⟩:=Q7 hj;obtain ⟨t2,h2,hj⟩:=Q7 hj;obtain ⟨v,g1,g2,g3,g4,g5,g6⟩:=h.at_ h1 Jd;obtain ⟨n,hn⟩:=bx hft h2;rw [Ql (show s.next.g.val x.a=some v from g1),Ql (show s.next.g.num x.b=some n from hn)];unfold Oo;rw [if_neg Jo];rcases Zp h.ty g2 g3 g5 n with hc|⟨hc,hk⟩
   · rw [if_pos (show (s.next.h.get v n).2=1 from hc)];exact trivial
   · rw [if_neg E7,if_neg E7];exact ⟨_,_,_,_,_,h.more h.ty (IZ _) same (mF hj) (Ji (Zw (h:=s.h) hk _)) hrun hinv⟩
 · rw [if_neg Jo,if_neg Jo,if_neg Jo,if_neg Jo,if_neg Jo,if_neg Jo,if_neg Jo,if_neg Jo,if_neg Jo,if_pos e]
   rw [aH e] at hj;obtain ⟨t,h1,hj⟩:=Q7 hj;obtain ⟨t2,h2,hj⟩:=Q7 hj;obtain ⟨t3,h3,hj⟩:=Q7 hj;obtain ⟨v,g1,g2,g3,g4,g5,g6⟩:=h.at_ h1 Jd;obtain ⟨n,hn⟩:=bx hft h2;obtain ⟨c,hc⟩:=bx hft h3;rw [Ql (show s.next.g.val x.a=some v from g1),Ql (show s.next.g.num x.b=some n from hn),Ql (show s.next.g.num x.c=some c from hc)];unfold Oo;rw [if_neg Jo];rcases Wg h.ty g2 g3 g5 n (y:=Lk c) rfl with hq|hq
   · rw [if_neg E9,if_neg E9];obtain ⟨p1,p2⟩:=wj (i:=n) (y:=Lk c) h.ty g2 (.inr g3) g5 (fun h3=>by omega) (fun _=>rfl);have hz:z'=⟨z.h,z.l++[]⟩:=EA;have hmore:=h.more (inp:=s.inp) (out:=s.out) (fuel:=s.fuel) p1 (IZ _) p2 hz (Jh Ψ) hrun hinv;rw [GL] at hmore;exact ⟨_,_,_,_,_,hmore⟩
   · rw [if_pos (show s.next.h.setC v n (Lk c)=1 from hq)];exact trivial
 · rw [if_neg Jo,if_neg Jo,if_neg Jo,if_neg Jo,if_neg Jo,if_neg Jo,if_neg Jo,if_neg Jo,if_neg Jo,if_neg Jo,if_pos e];rw [cH e] at hj;obtain ⟨t,h1,hj⟩:=Q7 hj;obtain ⟨v,g1,g2,g3,g4,g5,g6⟩:=h.at_ h1 Jd;have hq:=ee h.ty g2 g3 g5;rw [Ql (show s.next.g.val x.a=some v from g1)];unfold Oo;rw [if_neg Jo,if_neg Fj,if_neg Fj];exact Bn
 · rw [if_neg Jo,if_neg Jo,if_neg Jo,if_neg Jo,if_neg Jo,if_neg Jo,if_neg Jo,if_neg Jo,if_neg Jo,if_neg Jo,if_neg Jo,if_pos e]
   rw [Xq (.inr e)] at hj;unfold MS.inS;split
   · exact trivial
   · exact Bn
 · rw [if_neg Jo,if_neg Jo,if_neg Jo,if_neg Jo,if_neg Jo,if_neg Jo,if_neg Jo,if_neg Jo,if_neg Jo,if_neg Jo,if_neg Jo,if_neg Jo,if_pos e]
   rw [gl e] at hj;obtain ⟨t,h1,hj⟩:=Q7 hj;obtain ⟨n,hn⟩:=bx hft h1;rw [Ql (show s.next.g.num x.a=some n from hn)];unfold MS.outS;split
   · exact trivial
   · have hz:z'=⟨z.h,z.l++[]⟩:=EA;have hmore:=h.more (inp:=s.inp) (out:=s.out++[n]) (fuel:=s.fuel) h.ty (IZ _) same hz (Jh Ψ) hrun hinv;rw [GL] at hmore;exact ⟨_,_,_,_,_,hmore⟩
 · exact absurd e hop14
end
end
section
section
variable {m:Module}{Ψ Ψ':L9}{s:MS}{f:Fun}{b:Block}{z z':JS}{O:Int→Prop}{g:Frm}{k:Int}{t u:Ty}{v:Val}
theorem kC {l:List Bool}{r:Int}(h0:0≤r)(h1:l[r.toNat]?=some true):K4 l r=true:=by
 have:=(FD.1 h1).1;unfold K4;rw [FE,h1];simp;omega
theorem ru {l:List Bool}{r:Int}(h:K4 l r=true):0≤r∧l[r.toNat]?=some true:=by
 obtain ⟨h0,h1,h2⟩:=cE h;rw [FE] at h2
 cases hx:l[r.toNat]? with
 | none=>rw [hx] at h2;cases h2
 | some y=>rw [hx] at h2;exact ⟨h0,by rw [show y=true from h2]⟩
theorem MO {l:List Bool}{r:Int}(h:K4 (l++[true]) r=true):K4 l r=true∨r=l.length:=by
 obtain ⟨h0,h1⟩:=ru h;by_cases hr:r<l.length
 · rw [FL Jo] at h1;exact .inl (kC h0 h1)
 · have:=(FD.1 h1).1;rw [FH] at this;simp only [FP,F8] at this;exact .inr Jo
theorem QdI {l:List Bool}{r:Int}(h:K4 l r=true):K4 (l++[true]) r=true:=wb h
theorem QdH (l:List Bool):K4 (l++[true]) l.length=true:=kC Jo (by rw [F9,FI (F6 _),HN];rfl)
theorem kD {l:List Bool}{r q:Int}(h0:0≤q):K4 (l.set q.toNat false) r=true↔K4 l r=true∧r≠q:=by
 constructor
 · intro h
   obtain ⟨h1,h2⟩:=ru h;rw [G9] at h2;split at h2
   · split at h2<;>cases h2
   · rename_i hne;exact ⟨kC h1 h2,Jo⟩
 · rintro ⟨h1,h2⟩;obtain ⟨h3,h4⟩:=ru h1;exact kC h3 (by rw [G9,if_neg Jo];exact h4)
theorem Wq {n:Nat}{r:Int}:K4 (List.replicate n true) r=true↔0≤r∧r<n:=by
 constructor
 · intro h;have:=Tj h;rw [Gw] at this;exact this
 · rintro ⟨h1,h2⟩;exact kC h1 (by rw [Hy,if_pos Jo])
theorem wH {l:List Int}{a:Int}{i:Nat}(h:i<l.length):(l++[a]).getD i 0=l.getD i 0:=by
 rw [FE,FL h,←FE]
theorem ry {l:List Int}{fn:Int→Int}{i:Nat}(h:i<l.length):(l.map fn).getD i 0=fn (l.getD i 0):=by
 rw [FE,FW,FB h,FE,FB h];rfl
theorem Wr {a:Int}{i:Nat}(hl:f.regs≤g.regs.length):PL f ⟨g.f,g.b,i,vs,g.regs++[a]⟩=PL f g:=by
 unfold PL;exact H3 Jo
theorem Zy (h:Safe m Ψ s f b z O):s.h.has s.h.l.length=false:=by
 cases hx:s.h.has s.h.l.length with
 | false=>rfl
 | true=>have:=SG hx;omega
theorem Ws (hM:m.fault.1=0)(hm:m.Short)(h:Safe m Ψ s f b z O){x:Ins}(hx:b.code[s.g.i]?=some x)(hop:x.op=3):gR m ((s.next).ins m x):=by
 obtain ⟨hF,hj,hrun⟩:=h.ins hx;have hinv:=kq hM hm h.inv hF hj;have hrl:=kA h.inv;have hn:=h.ft.n;unfold MS.ins;rw [if_neg Jo,if_neg Jo,if_pos hop];unfold MS.newR;by_cases hfu:s.h.full=true
 · rw [if_pos (show s.next.h.full=true from hfu)];exact trivial
 · rw [if_neg (show¬s.next.h.full=true from hfu)]
   rw [gj hop] at hj;split at hj
   · cases hj
   · generalize (Lj m f z x).2=z' at hj hrun hinv
     cases hj;have eo:s.h.open=⟨s.h.l++[⟨true,[],0,0⟩],s.h.left⟩:=(by unfold HpS.open;rw [if_neg hfu]);have ev:s.h.openV=⟨2,s.h.l.length,0,0⟩:=(by unfold HpS.openV;rw [if_neg hfu]);show XE m ⟨s.h.open,⟨s.g.f,s.g.b,s.g.i+1,s.g.vals++[s.h.openV],s.g.regs++[s.h.openV.region]⟩,s.st,s.inp,s.out,s.fuel⟩;rw [ev]
     have hrho:∀r:Int,K4 z.h r=true→(⟨s.g.f,s.g.b,s.g.i+1,s.g.vals++[⟨2,s.h.l.length,0,0⟩],s.g.regs++[(s.h.l.length:Int)]⟩:Frm).ρ r=s.g.ρ r:=fun r hr=>by
      have:=Tj hr;unfold Frm.ρ;exact wH Jo
     have hrhn:(⟨s.g.f,s.g.b,s.g.i+1,s.g.vals++[⟨2,s.h.l.length,0,0⟩],s.g.regs++[(s.h.l.length:Int)]⟩:Frm).ρ z.h.length=s.h.l.length:=by
      unfold Frm.ρ;rw [F9,←hn,FE,FI (F6 _),HN];rfl
     have hhas:∀q,s.h.open.has q=true↔(s.h.has q=true∨q=s.h.l.length):=fun q=>by
      unfold HpS.has;rw [eo,mJ];by_cases hq:q=s.h.l.length
      · rw [if_pos hq];exact ⟨fun _=> .inr hq,fun _=>rfl⟩
      · rw [if_neg hq];exact ⟨fun hh=> .inl hh,fun hh=>hh.elim id fun hh=>absurd hh hq⟩
     have hnn:=Zy h;refine ⟨Ψ,f,b,_,O,We h.ty,h.hf,h.hb,hrun,hinv,⟨by show (s.g.regs++[_]).length=(z.h++[true]).length;rw [FH,FH,hn];rfl,?_⟩,?_,?_,?_,fun q=>?_⟩
     · show MZ Ψ (s.g.vals++[_]) ((z.l++[Ty.mk 2 z.h.length []]).map fun t=>t.rn (s.g.regs++[(s.h.l.length:Int)]))
       rw [Ga];refine KH ?_ (Ji ?_)
       · have e9:(z.l.map fun t=>t.rn (s.g.regs++[(s.h.l.length:Int)]))=z.l.map fun t=>t.rn s.g.regs:=Hh fun t ht=>Ko (n:=z.h.length) (fun i hi=>wH Jo) t (h.inv.wf t ht);rw [e9];exact h.ft.v
       · show VT Ψ ⟨2,s.h.l.length,0,0⟩ ((Ty.mk 2 z.h.length []).rn (s.g.regs++[(s.h.l.length:Int)]));rw [HX];refine ⟨rfl,fun _=>?_,fun h9=>by cases h9<;>rename_i h9<;>cases h9⟩;rw [if_pos (show (2:Int)≠1 by decide)];exact hrhn.symm
     · rw [show PL f ⟨s.g.f,s.g.b,s.g.i+1,s.g.vals++[⟨2,s.h.l.length,0,0⟩],s.g.regs++[(s.h.l.length:Int)]⟩=PL f s.g from Wr Jo];exact h.wt
     · intro r q hr hq h1 h2 he
       rcases MO hr with hr|rfl
       · rcases MO hq with hq|rfl
         · rw [hrho r hr,hrho q hq] at he;exact h.inj r q hr hq h1 h2 he
         · rw [hrho r hr,hrhn] at he;have:=h.held hr;rw [he,hnn] at this;cases this
       · rcases MO hq with hq|rfl
         · rw [hrhn,hrho q hq] at he;have:=h.held hq;rw [←he,hnn] at this;cases this
         · rfl
     · rintro q ⟨r,hr,h1,rfl⟩ hO
       rcases MO hr with hr|rfl
       · rw [hrho r hr] at hO;exact h.dis _ ⟨r,hr,h1,rfl⟩ hO
       · rw [hrhn] at hO;have:=(h.has s.h.l.length).2 (.inr hO);rw [hnn] at this;cases this
     · rw [hhas,h.has]
       constructor
       · rintro ((⟨r,hr,h1,rfl⟩|hO)|rfl)
         · exact .inl ⟨r,QdI hr,h1,hrho r hr⟩
         · exact .inr hO
         · exact .inl ⟨z.h.length,QdH _,hrl,hrhn⟩
       · rintro (⟨r,hr,h1,rfl⟩|hO)
         · rcases MO hr with hr|rfl
           · exact .inl (.inl ⟨r,hr,h1,(hrho r hr).symm⟩)
           · exact .inr hrhn
         · exact .inl (.inr hO)
theorem Wu (hc:s.h.can v=true)(q:Int):(s.h.shut v).has q=true↔s.h.has q=true∧q≠v.region:=by
 have e:s.h.shut v=⟨s.h.l.set v.region.toNat Rgn.none,s.h.left+(s.h.reg v.region).pages⟩:=(by unfold HpS.shut;rw [hc];rfl);unfold HpS.can at hc;rw [FN] at hc;obtain ⟨g0,g1,g2,g3⟩:=SG hc.2;unfold HpS.has;rw [e,reg_set (left':=s.h.left) Jo];by_cases hq:q=v.region
 · rw [if_pos Jo];exact ⟨fun h=>(by cases h),fun h=>absurd hq h.2⟩
 · rw [if_neg Jo];exact ⟨fun h=>⟨h,hq⟩,fun h=>h.1⟩
theorem QgN (hM:m.fault.1=0)(hm:m.Short)(h:Safe m Ψ s f b z O){x:Ins}(hx:b.code[s.g.i]?=some x)(hop:x.op=4):gR m ((s.next).ins m x):=by
 obtain ⟨hF,hj,hrun⟩:=h.ins hx;have hinv:=kq hM hm h.inv hF hj;unfold MS.ins;rw [if_neg Jo,if_neg Jo,if_neg Jo,if_pos hop];rw [cG hop] at hj;obtain ⟨t,h1,hj⟩:=Q7 hj;split at hj
 · cases hj
 · rename_i hlt
   obtain ⟨v,g1,g2,g3,g4,g5,g6⟩:=h.at_ h1 Jd;obtain ⟨_,_,_,hh⟩:=Xp h1;have hrg:=Tj hh;have hcan:=Wd g2 g3 g5;have hv:v.region=s.g.ρ t.r:=(by rw [g2.reg Jo,g6]);generalize (Lj m f z x).2=z' at hj hrun hinv;cases hj;rw [Ql (show s.next.g.val x.a=some v from g1),if_neg (by rw [show s.next.h.can v=s.h.can v from rfl,hcan];decide)];refine ⟨Ψ,f,b,_,O,Wf h.ty,h.hf,h.hb,hrun,hinv,⟨by show s.g.regs.length=(z.h.set _ _).length;rw [Gf];exact h.ft.n,h.ft.v⟩,h.wt,?_,?_,fun q=>?_⟩
   · intro r q hr hq h1 h2 he;exact h.inj r q ((kD hrg.1).1 hr).1 ((kD hrg.1).1 hq).1 h1 h2 he
   · rintro q ⟨r,hr,h1,rfl⟩ hO;exact h.dis _ ⟨r,((kD hrg.1).1 hr).1,h1,rfl⟩ hO
   · show (s.h.shut v).has q=true↔_
     rw [Wu hcan,h.has,hv];constructor
     · rintro ⟨⟨r,hr,h1,rfl⟩|hO,hne⟩
       · exact .inl ⟨r,(kD hrg.1).2 ⟨hr,fun he=>hne (by rw [he])⟩,h1,rfl⟩
       · exact .inr hO
     · rintro (⟨r,hr,h1,rfl⟩|hO)
       · obtain ⟨h3,h4⟩:=(kD hrg.1).1 hr;exact ⟨.inl ⟨r,h3,h1,rfl⟩,fun he=>h4 (h.inj r t.r h3 hh h1 Jo he)⟩
       · exact ⟨.inr hO,fun he=>h.dis _ ⟨t.r,hh,Jo,he.symm⟩ hO⟩
theorem wI {f:Fun}{fi:Nat}:∀{l:List Block}{b0:Nat},(QM m f fi b0 l).1=0→∀(b:Nat) (y:Block),l[b]?=some y→(NQ m f fi (b0+b) y.fin 0 (Nd y) y.code).1=0
 | [],_,_,b,y,hy=>by simp at hy
 | z::l,b0,h,b,y,hy=>by
   rw [QM] at h;obtain ⟨h1,h2⟩:=Sd h
   cases b with
   | zero=>rw [Gl] at hy;cases hy;exact h1
   | succ b=>rw [GI] at hy;rw [show b0+(b+1)=b0+1+b by omega];exact wI h2 b y hy
theorem wJ:∀{l:List Fun}{f0:Nat},(Pc m f0 l).1=0→∀(f:Nat) (x:Fun),l[f]?=some x→(QM m x (f0+f) 0 x.blocks).1=0
 | [],_,_,b,y,hy=>by simp at hy
 | z::l,b0,h,b,y,hy=>by
   rw [Pc] at h;obtain ⟨h1,h2⟩:=Sd h
   cases b with
   | zero=>rw [Gl] at hy;cases hy;exact h1
   | succ b=>rw [GI] at hy;rw [show b0+(b+1)=b0+1+b by omega];exact wJ h2 b y hy
theorem XF (h:m.runs.1=0):m.fault.1=0:=(Sd h).1
theorem rz (h:m.runs.1=0){x:Fun}{y:Block}(hx:m.funcs[fi]?=some x)(hy:x.blocks[bi]?=some y):(NQ m x fi bi y.fin 0 (Nd y) y.code).1=0:=by
 have h1:=wJ (Sd h).2 fi x hx;rw [Hb] at h1;have h2:=wI h1 bi y hy
 rwa [Hb] at h2
theorem wK {regs l:List Int}(hrs:rs=l.map g.ρ)(hl:(l.length:Int)=bb.regs)(h16:bb.regs≤16)(hv:MZ Ψ vs (bb.params.map fun t=>(t.rn l).rn g.regs))(hw:∀t∈bb.params,t.wrong 8 bb.regs=0):
 FT Ψ (Nd bb) ⟨fi,bi,0,vs,rs⟩:=by
 subst hrs;refine ⟨by show (l.map g.ρ).length=(List.replicate (min bb.regs 16).toNat true).length;rw [FF,Gw];omega,?_⟩;show MZ Ψ vs (bb.params.map fun t=>t.rn (l.map g.ρ));have e:(bb.params.map fun t=>t.rn (l.map g.ρ))=bb.params.map fun t=>(t.rn l).rn g.regs:=Hh fun t ht=>(Kp (n:=bb.regs) (fun i hi=>ry Jo) t (hw t ht)).symm;rw [e];exact hv
theorem en (h0:0≤bb.regs)(h16:bb.regs≤16){r:Int}:K4 (Nd bb).h r=true↔0≤r∧r<bb.regs:=by
 unfold Nd;dsimp only;rw [Wq];omega
theorem QgO (hR:m.runs.1=0)(hm:m.Short)(h:Safe m Ψ s f b z O){x:Ins}(hx:b.code[s.g.i]?=some x)(hop:x.op=14):gR m ((s.next).ins m x):=by
 have hM:=XF hR;obtain ⟨hF,hj,hrun⟩:=h.ins hx;unfold MS.ins;(repeat rw [if_neg Jo]);rw [cI hop] at hj
 cases hg:m.funcs[x.k.toNat]? with
 | none=>unfold Rw at hj;rw [hg] at hj;cases hj
 | some gf=>
   obtain ⟨h1,h2,h3,h4⟩:=rq hj hg;have hall:=ja h2;have hrs:=Wo h.ft.n hall;obtain ⟨vs,k1,k2⟩:=rr h.ft h3;unfold MS.call;rw [hg];dsimp only;rw [Ql ((Wp s x.regs).trans hrs),Ql ((wG s x.args).trans k1)];have hlen:=k2.1;rw [FF] at hlen;rw [if_neg DQ];split
   · exact trivial
   · have hfh:=UJ (S1 hM hg)
     obtain ⟨b0,hb0⟩:∃b0,gf.blocks[0]?=some b0:=⟨_,FB Jo⟩;have hbh:=aJ (Xr hM hg hb0).1;obtain ⟨e1,e2⟩:=hbh.2.2.2.1 rfl
     have hno:∀r,K4 (Nd b0).h r=true→gf.regs≤r→False:=fun r hr hge=>by
      have:=(en Jo Jo).1 hr;omega
     refine ⟨Ψ,gf,b0,Nd b0,(fun k=>bw f z s.next.g k∨O k),h.ty,hg,hb0,?_,mG hm hM hg hb0,wK (regs:=[]) (g:=s.g) rfl Jo Jo (by rw [e2];exact k2) (fun t ht=>?_),?_,?_,?_,fun q=>?_⟩
     · exact rz hR hg hb0
     · exact HW (i9 hbh.2.2.1 t ht)
     · show Wt m Ψ (s.next.g::s.st) gf (PL gf ⟨x.k.toNat,0,0,vs,x.regs.map s.g.ρ⟩) _;rw [show PL gf ⟨x.k.toNat,0,0,vs,x.regs.map s.g.ρ⟩=x.regs.map s.next.g.ρ from Gd DQ];exact .cons (c:=s.next.g) (z:=z) h.hf h.hb h.inv ⟨h.ft.n,h.ft.v⟩ hop hF hj hg hrun h.wt h.inj h.dis
     · intro r q hr _ h5 _ _;exact (hno r hr h5).elim
     · rintro q ⟨r,hr,h5,rfl⟩ _;exact hno r hr h5
     · show s.h.has q=true↔_;rw [h.has];exact ⟨fun hh=> .inr hh,fun hh=>hh.elim (fun ⟨r,hr,h5,_⟩=>(hno r hr h5).elim) id⟩
theorem Qcd (f:Fun)(z:JS)(t:To):NZ (On f z t):=by
 unfold On;split
 · exact .e Jd
 · split
   · exact .e Jd
   · split
     · exact .e Jd
     · split
       · rename_i h;exact .e h
       · exact cO _ _ _ _
theorem Zz (f:Fun)(z:JS)(e:Tail):NZ (MJ f z e):=by
 unfold MJ;refine .ite (Qcd _ _ _) (.ite (.bind (UH _ _ _) fun _ _=> .bind (Qcd _ _ _) fun _ _=>Qcd _ _ _) (.bind (cO _ _ _ _) fun _ _=> .ite (.e Jd) (.o _)))
theorem Safe.fin (h:Safe m Ψ s f b z O)(hx:b.code[s.g.i]?=none):NU f.blocks.length b.fin=0∧MJ f z b.fin= .ok ():=by
 have h1:=h.run;rw [ri (JN.1 hx),Sc] at h1;unfold MD at h1;split at h1
 · rename_i hne;exact absurd h1 hne
 · rename_i he
   refine ⟨Gi.1 he,?_⟩
   cases hj:MJ f z b.fin with
   | ok u=>rfl
   | error c=>
     rw [hj] at h1;dsimp only at h1;have hnz:NZ (MJ f z b.fin):=Zz _ _ _;exact absurd h1 (hnz c hj)
theorem rA {h:List Bool}:∀{l seen:List Int},MY h seen l=0→(∀r∈l,K4 h r=true)∧l.Nodup∧(∀r∈l,r∉seen)∧(Mq h).length≤seen.length+l.length
 | [],seen,hp=>by
   rw [MY] at hp;split at hp
   · cases hp
   · exact ⟨by simp,JG,by simp,by simp only [F8];omega⟩
 | x ::l,seen,hp=>by
   rw [MY] at hp;split at hp
   · rename_i hx
     split at hp
     · cases hp
     · rename_i hns
       obtain ⟨h1,h2,h3,h4⟩:=rA hp;refine ⟨fun r hr=>?_,HC.2 ⟨fun hm=>h3 x hm Js,h2⟩,fun r hr=>?_,by simp only [FH,FP,F8] at h4 ⊢;omega⟩
       · rcases FX.1 hr with rfl|hr
         · exact hx
         · exact h1 r hr
       · rcases FX.1 hr with rfl|hr
         · exact hns
         · exact fun hs=>h3 r hr (F5.2 (.inl hs))
   · cases hp
theorem Wv {h:List Bool}{l:List Int}(hp:MY h [] l=0):∀r,K4 h r=true→r∈l:=by
 obtain ⟨h1,h2,_,h4⟩:=rA hp;intro r hr;refine Gn fun hn=>?_
 have:=ck (a:=r::l) (b:=Mq h) (HC.2 ⟨hn,h2⟩) (by
  intro y hy;rcases FX.1 hy with rfl|hy
  · exact MI.2 hr
  · exact MI.2 (h1 y hy))
 simp only [FP,F8] at this h4;omega
theorem rB {l:List Int}{n:Nat}(h:Om l n=true){i:Nat}(hi:i<n):l[i]?=some (i:Int):=by
 unfold Om at h;rw [GB] at h;exact of_decide_eq_true (h i (Gp.2 hi))
theorem wL {l:List Int}(h:l.Nodup){i:Nat}{a:Int}(hi:l[i]?=some a)(hj:l[j]?=some a):i=j:=by
 have h1:=(FD.1 hi).1;exact (List.getElem?_inj h1 h).1 (by rw [hi,hj])
theorem rC (hR:m.runs.1=0)(hm:m.Short)(h:Safe m Ψ s f b z O){t:To}(hj:On f z t= .ok ())(hb0:0≤t.block):gR m (s.to f t):=by
 have hM:=XF hR;unfold On at hj;unfold MS.to
 cases hb:f.blocks[t.block.toNat]? with
 | none=>rw [hb] at hj;cases hj
 | some b' =>
   rw [hb] at hj;dsimp only at hj ⊢;split at hj
   · cases hj
   · rename_i hl
     split at hj
     · cases hj
     · rename_i hk
       split at hj
       · cases hj
       · rename_i hp
         have hp:MY z.h [] t.regs=0:=Gi.1 hp;have hk:Om t.regs f.regs.toNat=true:=(by simpa using hk);obtain ⟨p1,p2,_,_⟩:=rA hp;have p3:=Wv hp;have hrs:=Wo h.ft.n p1;obtain ⟨vs,k1,k2⟩:=rr h.ft hj;have hlen:=k2.1;rw [FF] at hlen;rw [Ql hrs,Ql k1,if_neg DQ];have hbh:=aJ (Xr hM h.hf hb).1;have hfh:=UJ (S1 hM h.hf);have hn:=h.ft.n;have hrl:=kA h.inv
         -- the new names
         have idx:∀r:Int,K4 (Nd b').h r=true→∃q,t.regs[r.toNat]?=some q∧K4 z.h q=true∧(⟨s.g.f,t.block.toNat,0,vs,t.regs.map s.g.ρ⟩:Frm).ρ r=s.g.ρ q:=fun r hr=>by
          have h1:=(en Jo Jo).1 hr;have h2:t.regs[r.toNat]?=some t.regs[r.toNat]:=FB Jo;refine ⟨_,h2,p1 _ (FC h2),?_⟩;have h3:(t.regs.map s.g.ρ).getD r.toNat 0=s.g.ρ (t.regs.getD r.toNat 0):=ry Jo;show (t.regs.map s.g.ρ).getD r.toNat 0=_;rw [h3,FE,h2];rfl
         have up:∀(r q:Int),0≤r→t.regs[r.toNat]?=some q→K4 z.h q=true→(f.regs≤r↔f.regs≤q):=fun r q h0 hq hh=>by
          have hqr:=Tj hh;constructor
          · intro hr;refine Gn fun hc=>?_;have h1:=rB hk (i:=q.toNat) Jo;rw [show ((q.toNat:Nat):Int)=q by omega] at h1;have:=wL p2 hq h1;omega
          · intro hq2;refine Gn fun hc=>?_;have h1:=rB hk (i:=r.toNat) Jo;rw [hq] at h1;cases h1;omega
         have own:∀q,bw f (Nd b') ⟨s.g.f,t.block.toNat,0,vs,t.regs.map s.g.ρ⟩ q↔bw f z s.g q:=fun q=>by
          constructor
          · rintro ⟨r,hr,h1,rfl⟩;obtain ⟨a,h2,h3,h4⟩:=idx r hr;have h0:=((en Jo Jo).1 hr).1;exact ⟨a,h3,(up r a h0 h2 h3).1 h1,h4.symm⟩
          · rintro ⟨a,ha,h1,rfl⟩;obtain ⟨i,hi⟩:=GH.1 (p3 a ha);have hil:=(FD.1 hi).1;have hri:K4 (Nd b').h (i:Int)=true:=(en Jo Jo).2 Jo;obtain ⟨a2,h2,h3,h4⟩:=idx i hri;rw [F9,hi] at h2;cases h2;exact ⟨i,hri,(up i a Jo (by rw [F9];exact hi) h3).2 h1,h4⟩
         refine ⟨Ψ,f,b',Nd b',O,h.ty,h.hf,hb,rz hR h.hf hb,mG hm hM h.hf hb,wK (regs:=[]) (g:=s.g) rfl Jo Jo k2 (fun u hu=>HW (i9 hbh.2.2.1 u hu)),?_,?_,?_,fun q=>?_⟩
         · have ek:PL f ⟨s.g.f,t.block.toNat,0,vs,t.regs.map s.g.ρ⟩=PL f s.g:=by
            unfold PL;refine Hu fun i=>?_;by_cases hi:i<f.regs.toNat
            · rw [Gv hi,Gv hi,FW,rB hk hi];unfold Frm.ρ;rw [FB (show i<s.g.regs.length by omega)];simp only [GC,F9];rw [FE,FB (show i<s.g.regs.length by omega)];rfl
            · rw [Gb Ez,Gb Ez]
           show Wt m Ψ s.st f (PL f ⟨s.g.f,t.block.toNat,0,vs,t.regs.map s.g.ρ⟩) O;rw [ek];exact h.wt
         · intro r q hr hq h1 h2 he;obtain ⟨a,a1,a2,a3⟩:=idx r hr;obtain ⟨c,c1,c2,c3⟩:=idx q hq;have hr0:=((en Jo Jo).1 hr).1;have hq0:=((en Jo Jo).1 hq).1;have hac:=h.inj a c a2 c2 ((up r a hr0 a1 a2).1 h1) ((up q c hq0 c1 c2).1 h2) (by rw [←a3,←c3];exact he);subst hac;have:=wL p2 a1 c1;omega
         · exact fun q hq=>h.dis q ((own q).1 hq)
         · show s.h.has q=true↔_;rw [h.has];exact or_congr (own q).symm HL
theorem Ww {n i:Nat}(h:i<n):(LJ n).getD i 0=i:=by
 unfold LJ;rw [FE,FW,HP h];rfl
theorem ZA (h:MZ Ψ l ts)(hk:∀t∈ts,t.kind=1):∃ns,Lm l=some ns:=by
 induction l generalizing ts with
 | nil=>exact ⟨[],rfl⟩
 | cons v l ih=>
   cases ts with
   | nil=>have:=h.1;simp at this
   | cons t ts=>
     have h1:=h.2 0 v t rfl rfl;obtain ⟨ns,h2⟩:=ih (ts:=ts) ⟨by have:=h.1;simpa using this,fun i w u hw hu=>h.2 (i+1) w u (by simpa using hw) (by simpa using hu)⟩ (fun u hu=>hk u (Gr _ hu));exact ⟨v.n::ns,by rw [Lm,h2];exact if_pos (by rw [h1.kind];exact hk t (GK ..))⟩
def rD (h:HpS):Prop:=∀q,h.has q=false
def kE (m:Module)(h:HpS):Stp→Prop
 | .go s=>XE m s
 | .halt _=>True
 | .done _=>rD h
 | .lost=>False
theorem mM {h:HpS}{r:Stp}(hr:gR m r)(hd:∀l,r≠ .done l):kE m h r:=by
 cases r with
 | go s=>exact hr
 | halt e=>exact trivial
 | done l=>exact absurd rfl (hd l)
 | lost=>exact hr
theorem Pd (h:∀a l,fn a≠ .done l):∀l,Md o fn≠ .done l:=by
 cases o with
 | none=>intro l h;cases h
 | some a=>exact h a
theorem NR {p:Prop}[Decidable p]{a b:Stp}(h1:∀l,a≠ .done l)(h2:∀l,b≠ .done l):∀l,(if p then a else b)≠ .done l:=by
 split
 · exact h1
 · exact h2
theorem SI {s:MS}:∀l,Stp.go s≠ .done l:=fun l h=>by cases h
theorem bz:∀l,Stp.halt e≠ .done l:=fun l h=>by cases h
theorem TY:∀l,Stp.lost≠ .done l:=fun l h=>by cases h
theorem Wx {f:Fun}{t:To}:∀l,s.to f t≠ .done l:=by
 unfold MS.to;split
 · exact TY
 · exact Pd fun _=>Pd fun _=>NR TY SI
theorem rE {v:Val}{k:Stp}(h:∀l,k≠ .done l):∀l,Oo v e k≠ .done l:=NR TY (NR bz (NR TY h))
theorem wM {h:HpS}{v:Val}:∀l,s.made e h v≠ .done l:=NR bz (NR TY SI)
theorem et {x:Ins}:∀l,s.ins m x≠ .done l:=by
 unfold MS.ins
 refine NR SI (NR (Pd fun _=>Pd fun _=>NR bz SI) (NR (NR bz SI) (NR (Pd fun _=>NR TY SI) (NR (Pd fun _=>Pd fun _=>wM)
  (NR (Pd fun _=>NR TY (NR TY SI)) (NR (Pd fun _=>NR TY (Pd fun _=>NR TY SI)) (NR (Pd fun _=>Pd fun _=>NR bz wM)
  (NR (Pd fun _=>Pd fun _=>rE SI) (NR (Pd fun _=>Pd fun _=>Pd fun _=>rE SI) (NR (Pd fun _=>rE SI) (NR ?_ (NR (Pd fun _=>NR bz SI) ?_))))))))))))
 · unfold MS.inS
   split
   · exact bz
   · exact SI
 · unfold MS.call
   split
   · exact TY
   · exact Pd fun _=>Pd fun _=>NR TY (NR bz SI)
def Tn:Stp→Prop
 | .halt e=>e≠0
 | _=>True
theorem Np {p:Prop}[Decidable p]{a b:Stp}(h1:Tn a)(h2:Tn b):Tn (if p then a else b):=by
 split
 · exact h1
 · exact h2
theorem OO (h:∀a,Tn (fn a)):Tn (Md o fn):=by
 cases o with
 | none=>exact trivial
 | some a=>exact h a
theorem Rr (h:e≠0):Tn (.halt e):=h
theorem rF {v:Val}{k:Stp}(h:Tn k):Tn (Oo v e k):=Np trivial (Np (Rr Jd) (Np trivial h))
theorem wN {h:HpS}{v:Val}:Tn (s.made e h v):=Np (Rr Jd) (Np trivial trivial)
theorem eu {x:Ins}:Tn (s.ins m x):=by
 unfold MS.ins
 refine Np trivial (Np (OO fun _=>OO fun _=>Np (Rr Jd) trivial) (Np (Np (Rr Jd) trivial) (Np (OO fun _=>Np trivial trivial) (Np (OO fun _=>OO fun _=>wN)
  (Np (OO fun _=>Np trivial (Np trivial trivial)) (Np (OO fun _=>Np trivial (OO fun _=>Np trivial trivial)) (Np (OO fun _=>OO fun _=>Np (Rr Jd) wN)
  (Np (OO fun _=>OO fun _=>rF trivial) (Np (OO fun _=>OO fun _=>OO fun _=>rF trivial) (Np (OO fun _=>rF trivial) (Np ?_ (Np (OO fun _=>Np (Rr Jd) trivial) ?_))))))))))))
 · unfold MS.inS
   split
   · exact Rr Jd
   · exact trivial
 · unfold MS.call
   split
   · exact trivial
   · exact OO fun _=>OO fun _=>Np trivial (Np (Rr Jd) trivial)
theorem Wy {f:Fun}{t:To}:Tn (s.to f t):=by
 unfold MS.to;split
 · exact trivial
 · exact OO fun _=>OO fun _=>Np trivial trivial
theorem ew {f:Fun}{e:Tail}:Tn (s.fin f e):=by
 unfold MS.fin;refine Np Wy (Np (OO fun _=>Np Wy Wy) ?_);unfold MS.ret;refine OO fun vs=>Np trivial ?_;split
 · exact trivial
 · split<;>exact trivial
theorem Wz {s:MS}(h:s.one m= .halt e):e≠0:=by
 have h1:Tn (s.one m):=by
  unfold MS.one;split
  · exact trivial
  · split
    · exact trivial
    · split
      · exact eu
      · exact ew
 rw [h] at h1;exact h1
theorem WA (hR:m.runs.1=0)(hm:m.Short)(h:Safe m Ψ s f b z O){e:Tail}(hj:KL (O2 z e.args f.results (LJ f.regs.toNat)) (fun _=>if f.regs<(Mq z.h).length then (.error 12:Except Int Unit) else .ok ())= .ok ()):kE m s.h (s.ret f e):=by
 have hM:=XF hR;have hfh:=UJ (S1 hM h.hf);have hrl:=kA h.inv;have hn:=h.ft.n;obtain ⟨_,h1,hj⟩:=Q7 hj;split at hj
 · cases hj
 · rename_i hlt
   have hno:∀q,¬bw f z s.g q:=by
    rintro q ⟨r,hr,h2,rfl⟩;exact hlt ((ra h.inv hfh.1).2 ⟨r,MI.2 hr,h2⟩)
   obtain ⟨vs,k1,k2⟩:=rr h.ft h1;have hwr:∀t∈f.results,t.wrong 8 f.regs=0:=fun t ht=>HW (i9 hfh.2.2.2.1 t ht);have hlen:=k2.1;rw [FF] at hlen;unfold MS.ret;rw [Ql k1,if_neg Jo];have hw:=h.wt;generalize hkp:PL f s.g=kp at hw
   cases hst:s.st with
   | nil=>
     rw [hst] at hw;dsimp only
     cases hw with
     | nil hf0=>
       have hfz:=S1 hM hf0
       have hres:∀t∈f.results,t.kind=1:=by
        unfold QK at hfz;split at hfz
        · cases hfz
        · split at hfz
          · rename_i hh;exact absurd hfz hh
          · split at hfz
            · rename_i hh;exact absurd hfz hh
            · split at hfz
              · cases hfz
              · split at hfz
                · cases hfz
                · rename_i hh;intro t ht;exact Gn fun hk=>hh ⟨rfl, .inr (.inr ⟨t,ht,hk⟩)⟩
       obtain ⟨ns,h2⟩:=ZA k2 (fun u hu=>by
        obtain ⟨t,ht,rfl⟩:=Gm.1 hu;rw [Iu,Iu];exact hres t ht)
       rw [h2];intro q
       cases hq:s.h.has q with
       | false=>rfl
       | true => rcases (h.has q).1 hq with h3|h3
                 · exact absurd h3 (hno q)
                 · exact h3.elim
   | cons c st=>
     rw [hst] at hw;dsimp only;have hhas:=h.has
     cases hw with
     | @cons _ _ fc _ bc zc z' x O' hf hb hi ht hx hF hc hg hr hw' hj' hd'=>
       obtain ⟨c1,c2,c3,rfl⟩:=rq hc hg;have hall:=ja c2;have hinv:=kq (x:=x) hM hm hi hF (by rw [cI hx];exact hc);refine ⟨Ψ,fc,bc,_,O',h.ty,hf,hb,hr,hinv,⟨ht.n,?_⟩,hw',hj',hd',fun q=>?_⟩
       · show MZ Ψ (c.vals++vs) ((zc.l++f.results.map (Nc x.regs)).map fun t=>t.rn c.regs)
         rw [Ga,List.map_map];refine KH ht.v ?_
         have e9:(f.results.map ((fun t:Ty=>t.rn c.regs)∘Nc x.regs))=f.results.map fun t=>(t.rn (LJ f.regs.toNat)).rn s.g.regs:=by
          refine Hh fun t ht2=>?_;have hw8:=hwr t ht2;have hrg:∀r∈x.regs,0≤r∧r<zc.h.length:=fun r hr=>Tj (hall r hr)
          obtain ⟨u,hu,_⟩:=Ty.ren_right (n:=zc.h.length) (f:=x.regs) (fun i hi=>by
           rw [FE,FB hi];exact hrg _ (HM hi)) t (by rw [c1];exact hw8)
          have e1:Nc x.regs t=t.rn x.regs:=(by unfold Nc;rw [hu];exact Ty.rn_of t u hu);show (Nc x.regs t).rn c.regs=_
          rw [e1,Kp (e:=x.regs.map c.ρ) (n:=f.regs) (fun i hi=>by rw [ry Jo];rfl) t hw8,
           Kp (e:=s.g.regs) (n:=f.regs) (fun i hi=>by rw [Ww Jo];rfl) t hw8]
          refine Ko (n:=f.regs) (fun i hi=>?_) t hw8;rw [←hkp];unfold PL;rw [FE,Gv Jo,←FE]
         rw [e9];exact k2
       · show s.h.has q=true↔_;rw [hhas];exact ⟨fun hh=>hh.elim (fun h3=>absurd h3 (hno q)) id,fun hh=> .inr hh⟩
theorem wO (hR:m.runs.1=0)(hm:m.Short)(h:XE m s):kE m s.h (s.one m):=by
 obtain ⟨Ψ,f,b,z,O,h⟩:=h;have hM:=XF hR;unfold MS.one;rw [h.hf];dsimp only;rw [h.hb];dsimp only
 cases hx:b.code[s.g.i]? with
 | some x=>
   dsimp only;refine mM ?_ et;by_cases h3:x.op=3
   · exact Ws hM hm h hx h3
   · by_cases h4:x.op=4
     · exact QgN hM hm h hx h4
     · by_cases h14:x.op=14
       · exact QgO hR hm h hx h14
       · exact Zx hM hm h hx h3 h4 h14
 | none=>
   dsimp only;obtain ⟨he,hj⟩:=h.fin hx;obtain ⟨e1,e2,e3,e4⟩:=gm he;unfold MS.fin;by_cases h1:b.fin.op=1
   · rw [if_pos h1];rw [lV h1] at hj;have hd:decide (b.fin.op≠3)=true:=decide_eq_true Jo;rw [hd] at e3;exact mM (rC hR hm h hj (Yo e3).1) Wx
   · rw [if_neg h1]
     by_cases h2:b.fin.op=2
     · rw [if_pos h2]
       rw [aI h2] at hj;obtain ⟨t,g1,hj⟩:=Q7 hj;obtain ⟨u,g2,hj⟩:=Q7 hj;obtain ⟨n,hn⟩:=bx h.ft g1;have hd:decide (b.fin.op≠3)=true:=decide_eq_true Jo;have hd2:decide (b.fin.op=2)=true:=decide_eq_true h2;rw [hd] at e3;rw [hd2] at e4;rw [Ql hn];split
       · exact mM (rC hR hm h g2 (Yo e3).1) Wx
       · exact mM (rC hR hm h hj (Yo e4).1) Wx
     · rw [if_neg h2];rw [cM Jo] at hj;exact WA hR hm h hj
theorem wP (h:XE m s):XE m s.tick:=by
 obtain ⟨Ψ,f,b,z,O,h⟩:=h;exact ⟨Ψ,f,b,z,O,h.ty,h.hf,h.hb,h.run,h.inv,h.ft,h.wt,h.inj,h.dis,h.has⟩
theorem wQ (hR:m.runs.1=0)(hm:m.Short)(inp:List Int)(pages:Int):XE m (MS.start inp pages):=by
 have hM:=XF hR;have hl:=oT hM;obtain ⟨f,hf⟩:∃f,m.funcs[0]?=some f:=⟨_,FB Jo⟩;have hfh:=UJ (S1 hM hf)
 have hz:f.regs=0∧f.params=[]:=by
  have hfz:=S1 hM hf;unfold QK at hfz;split at hfz
  · cases hfz
  · split at hfz
    · rename_i hh;exact absurd hfz hh
    · split at hfz
      · rename_i hh;exact absurd hfz hh
      · split at hfz
        · cases hfz
        · split at hfz
          · cases hfz
          · rename_i hh;exact ⟨Gn fun hk=>hh ⟨rfl, .inl Jo⟩,Gn fun hk=>hh ⟨rfl, .inr (.inl (HO.2 hk))⟩⟩
 (obtain ⟨b,hb⟩:∃b,f.blocks[0]?=some b:=⟨_,FB Jo⟩;have hbh:=aJ (Xr hM hf hb).1;obtain ⟨e1,e2⟩:=hbh.2.2.2.1 rfl;have hno:∀r,K4 (Nd b).h r=true→False:=fun r hr=>by have:=(en Jo Jo).1 hr;omega);refine ⟨fun _ _=>none,f,b,Nd b,fun _=>False,⟨fun _ _ _ h=>(by cases h),fun _ _ _ h=>(by cases h)⟩,hf,hb,rz hR hf hb,mG hm hM hf hb,⟨?_,?_⟩,?_,?_,?_,fun q=>?_⟩
 · show 0=(List.replicate (min b.regs 16).toNat true).length;rw [Gw];omega
 · show MZ _ [] (b.params.map _);rw [e2,hz.2];exact Jh _
 · show Wt m _ [] f (PL f ⟨0,0,0,[],[]⟩) _;rw [show PL f ⟨0,0,0,[],[]⟩=[] from List.take_nil];exact .nil hf
 · intro r q hr;exact (hno r hr).elim
 · rintro q ⟨r,hr,_⟩;exact (hno r hr).elim
 · constructor
   · intro hh;have:=SG hh;have hl0:(MS.start inp pages).h.l.length=0:=rfl;omega
   · rintro (⟨r,hr,_⟩|hh)
     · exact (hno r hr).elim
     · exact hh.elim
def mN (m:Module):Run→Prop
 | .on s=>XE m s
 | .over s e _=>e=0→rD s.h
 | .stuck _=>False
theorem wR {s:MS}(h:s.one m= .halt e):e≠0:=Wz h
theorem QaH (hR:m.runs.1=0)(hm:m.Short){r:Run}(h:mN m r):mN m (r.step m most):=by
 cases r with
 | on s=>
   unfold Run.step;dsimp only;split
   · intro h0;cases h0
   · have h1:=wO hR hm (wP h)
     cases hr:s.tick.one m with
     | go t=>rw [hr] at h1;exact h1
     | halt e=>exact fun h0=>absurd h0 (wR hr)
     | done l=>rw [hr] at h1;exact fun _=>h1
     | lost=>rw [hr] at h1;exact h1
 | over s e b=>exact h
 | stuck f=>exact h
theorem wS (hR:m.runs.1=0)(hm:m.Short){most:Nat}:∀(k:Nat){r:Run},mN m r→mN m (Run.steps m most k r)
 | 0,r,h=>h
 | k+1,r,h=>wS hR hm k (QaH hR hm h)
theorem Qdv (hR:m.runs.1=0)(hm:m.Short)(inp:List Int)(most:Nat)(pages:Int):(Run.all m inp most pages).flt=(0,0):=by
 have h:=wS hR hm (most:=most) (most+1) (r:= .on (MS.start inp pages)) (wQ hR hm inp pages);unfold Run.all
 cases hr:Run.steps m most (most+1) (.on (MS.start inp pages)) with
 | on s=>rfl
 | over s e b=>rfl
 | stuck f=>rw [hr] at h;exact h.elim
end
end
section
theorem rG {n:Nat}{x:Ins}(h:Qz n x=0):OP n x=0:=by
 unfold Qz at h;split at h
 · cases h
 · split at h
   · cases h
   · exact h
theorem WB {n:Nat}{x:Ins}(h:Qz n x=0)(ho:x.op=14):0≤x.k∧x.k<n:=by
 have hk:=rG h;unfold OP at hk;rw [if_neg Jo,if_neg Jo,if_neg Jo,if_pos ho] at hk;split at hk
 · cases hk
 · omega
theorem ey {n:Nat}{x:Ins}(h:Qz n x=0)(ho:x.op=5):x.args.length≤8:=by
 have hk:=rG h;unfold OP at hk;rw [if_neg Jo,if_pos ho] at hk;split at hk
 · cases hk
 · omega
theorem ez {n:Nat}{x:Ins}(h:Qz n x=0):x.regs.length≤16∧x.args.length≤8:=by
 have hk:=rG h
 have ho:¬x.odd:=by
  unfold Qz at h;split at h
  · cases h
  · split at h
    · cases h
    · assumption
 unfold Ins.odd at ho;by_cases h14:x.op=14
 · unfold OP at hk
   rw [if_neg Jo,if_neg Jo,if_neg Jo,if_pos h14] at hk;split at hk
   · cases hk
   · split at hk
     · cases hk
     · omega
 · have g1:fG x.op=false:=by unfold fG;exact decide_eq_false h14
   have r0:¬0<x.regs.length:=fun hh=>ho (.inr (.inr (.inr (.inr (.inr (.inl ⟨g1,hh⟩))))));by_cases h5:x.op=5
   · exact ⟨Jo,ey h h5⟩
   · have g2:fR x.op=false:=(by unfold fR;exact decide_eq_false Jo);have a0:¬0<x.args.length:=fun hh=>ho (.inr (.inr (.inr (.inr (.inr (.inr ⟨g2,hh⟩))))));exact ⟨Jo,Jo⟩
theorem kF {n:Nat}{t:To}(h:NM n t true=0):t.regs.length≤16∧t.args.length≤8:=by
 unfold NM at h;rw [if_neg Jd] at h;split at h
 · cases h
 · split at h
   · cases h
   · omega
theorem mO {n:Nat}{e:Tail}(h:NU n e=0):e.args.length≤8:=by
 unfold NU at h;split at h
 · cases h
 · split at h
   · cases h
   · split at h
     · cases h
     · omega
theorem eA {g:Frm}:∀{l:List Int}{vs:List Val},g.args l=some vs→vs.length=l.length
 | [],_,h=>by cases h;rfl
 | k ::l,vs,h=>by
   rw [Frm.args] at h;split at h
   · rename_i v vs' h1 h2;cases h;rw [FP,FP,eA h2]
   · cases h
theorem rH {g:Frm}:∀{l:List Int}{vs:List Int},g.rgs l=some vs→vs.length=l.length
 | [],_,h=>by cases h;rfl
 | k ::l,vs,h=>by
   rw [Frm.rgs] at h;split at h
   · rename_i v vs' h1 h2;cases h;rw [FP,FP,rH h2]
   · cases h
theorem rI:∀{l:List Val}{ns:List Int},Lm l=some ns→ns.length=l.length
 | [],_,h=>by cases h;rfl
 | v ::l,ns,h=>by
   rw [Lm] at h;split at h
   · cases h
   · rename_i ns' h1
     split at h
     · cases h;rw [FP,FP,rI h1]
     · cases h
def Stp.All (P:MS→Prop):Stp→Prop
 | .go s=>P s
 | .done l=>l.length≤8
 | _=>True
theorem Stp.all_bind {x:Option α}{f:α→Stp}(h:∀a,x=some a→(f a).All P):(Md x f).All P:=by
 cases x with
 | none=>exact trivial
 | some a=>exact h a rfl
abbrev F4:=@Stp.all_bind
theorem Stp.all_if [Decidable c]{a b:Stp}(h1:c→a.All P)(h2:¬c→b.All P):(if c then a else b).All P:=by
 by_cases hc:c
 · rw [if_pos hc];exact h1 hc
 · rw [if_neg hc];exact h2 hc
abbrev FZ:=@Stp.all_if
def bA (m:Module)(k:Nat)(g:Frm):Prop:=∃f b,m.funcs[g.f]?=some f∧f.blocks[g.b]?=some b∧g.i≤b.code.length∧g.vals.length≤8+8*k∧g.regs.length≤16+k
structure Bnd (m:Module) (k:Nat) (s:MS):Prop where
 cur:bA m k s.g
 st:∀x∈s.st,bA m k x
 sl:s.st.length≤39
 out:s.out.length≤2000
section
variable {m:Module}{k:Nat}{s:MS}
theorem bA.up (h:bA m k g):bA m (k+1) g:=by
 obtain ⟨f,b,h1,h2,h3,h4,h5⟩:=h;exact ⟨f,b,h1,h2,h3,Jo,Jo⟩
theorem bA.more (h:bA m k g)(hv:vs.length≤8)(hr:rs.length≤1):bA m (k+1) ⟨g.f,g.b,g.i,g.vals++vs,g.regs++rs⟩:=by
 obtain ⟨f,b,h1,h2,h3,h4,h5⟩:=h;refine ⟨f,b,h1,h2,h3,?_,?_⟩
 · show (g.vals++vs).length≤_;rw [FH];omega
 · show (g.regs++rs).length≤_;rw [FH];omega
theorem Bnd.up (h:Bnd m k s):Bnd m (k+1) s:=⟨h.cur.up,fun x hx=>(h.st x hx).up,h.sl,h.out⟩
theorem Bnd.put (h:Bnd m k s)(hv:vs.length≤8):Bnd m (k+1) (s.put vs):=by
 refine ⟨?_,fun x hx=>(h.st x hx).up,h.sl,h.out⟩;have:=h.cur.more (rs:=[]) hv Js;rw [GL] at this;exact this
theorem Bnd.hp (h:Bnd m k s)(q:HpS):Bnd m k (s.hp q):=⟨h.cur,h.st,h.sl,h.out⟩
theorem Bnd.made (h:Bnd m k s){q:HpS}{v:Val}:(s.made e q v).All (Bnd m (k+1)):=by
 unfold MS.made;exact FZ (fun _=>trivial) fun _=>FZ (fun _=>trivial) fun _=>(h.hp q).put Js
theorem gS {v:Val}{r:Stp}(h:r.All P):(Oo v e r).All P:=by
 unfold Oo;exact FZ (fun _=>trivial) fun _=>FZ (fun _=>trivial) fun _=>FZ (fun _=>trivial) fun _=>h
theorem Bnd.ins (h:Bnd m k s)(hM:m.fault.1=0){x:Ins}(hx:Qz m.funcs.length x=0):(s.ins m x).All (Bnd m (k+1)):=by
 obtain ⟨q1,q2⟩:=ez hx;have h1:∀(v:Val) (t:MS),Bnd m k t→(Stp.go (t.put [v])).All (Bnd m (k+1)):=fun v t ht=>ht.put Js;have h2:∀(q:HpS),(Stp.go (s.hp q)).All (Bnd m (k+1)):=fun q=>(h.hp q).up;unfold MS.ins
 refine FZ (fun _=>h1 _ _ h) fun _=>FZ (fun _=>F4 fun a _=>F4 fun b _=>FZ (fun _=>trivial) fun _=>h1 _ _ h) fun _=>FZ (fun _=>?_) fun _=>
  FZ (fun _=>F4 fun v _=>FZ (fun _=>trivial) fun _=>h2 _) fun _=>FZ (fun _=>F4 fun v _=>F4 fun l _=>h.made) fun _=>
  FZ (fun _=>F4 fun v _=>FZ (fun _=>trivial) fun _=>FZ (fun _=>trivial) fun _=>h1 _ _ h) fun _=>
  FZ (fun _=>F4 fun v _=>FZ (fun _=>trivial) fun _=>F4 fun y _=>FZ (fun _=>trivial) fun _=>h2 _) fun _=>
  FZ (fun _=>F4 fun v _=>F4 fun n _=>FZ (fun _=>trivial) fun _=>h.made) fun _=>
  FZ (fun _=>F4 fun v _=>F4 fun n _=>gS (h1 _ _ h)) fun _=>
  FZ (fun _=>F4 fun v _=>F4 fun n _=>F4 fun c _=>gS (h2 _)) fun _=>
  FZ (fun _=>F4 fun v _=>gS (h1 _ _ h)) fun _=>FZ (fun _=>?_) fun _=>FZ (fun _=>F4 fun n _=>?_) fun _=>?_
 · unfold MS.newR;refine FZ (fun _=>trivial) fun _=>?_;refine ⟨?_,fun x hx=>(h.st x hx).up,h.sl,h.out⟩;exact h.cur.more (vs:=[_]) (rs:=[_]) Js Js
 · unfold MS.inS
   split
   · exact trivial
   · exact h1 _ _ ⟨h.cur,h.st,h.sl,h.out⟩
 · unfold MS.outS;refine FZ (fun _=>trivial) fun hn=>?_;refine ⟨h.cur.up,fun x hx=>(h.st x hx).up,h.sl,?_⟩;have:=h.out;show (s.out++[n]).length≤2000;rw [FH];simp only [FP,F8];omega
 · unfold MS.call
   split
   · exact trivial
   · rename_i g hg
     refine F4 fun rs hr=>F4 fun vs hv=>FZ (fun _=>trivial) fun _=>FZ (fun _=>trivial) fun hl=>?_;have hb:=(UJ (S1 hM hg)).2.2.2.2.1;obtain ⟨b,hb⟩:∃b,g.blocks[0]?=some b:=⟨_,FB Jo⟩;refine ⟨⟨g,b,hg,hb,Gt _,?_,?_⟩,?_,?_,h.out⟩
     · show vs.length≤_;rw [eA hv];omega
     · show rs.length≤_;rw [rH hr];omega
     · intro y hy
       rcases FX.1 hy with rfl|hy
       · exact h.cur.up
       · exact (h.st y hy).up
     · have:=h.sl;show (s.g::s.st).length≤39;rw [FP];omega
theorem Bnd.to (h:Bnd m k s){f:Fun}(hf:m.funcs[s.g.f]?=some f){t:To}(ht:NM f.blocks.length t true=0):(s.to f t).All (Bnd m (k+1)):=by
 obtain ⟨q1,q2⟩:=kF ht;unfold MS.to;split
 · exact trivial
 · rename_i b hb
   refine F4 fun rs hr=>F4 fun vs hv=>FZ (fun _=>trivial) fun _=>?_;refine ⟨⟨f,b,hf,hb,Gt _,?_,?_⟩,fun x hx=>(h.st x hx).up,h.sl,h.out⟩
   · show vs.length≤_;rw [eA hv];omega
   · show rs.length≤_;rw [rH hr];omega
theorem Bnd.fin (h:Bnd m k s){f:Fun}(hf:m.funcs[s.g.f]?=some f){e:Tail}(he:NU f.blocks.length e=0):(s.fin f e).All (Bnd m (k+1)):=by
 obtain ⟨q1,q2,q3,q4⟩:=gm he;have q5:=mO he;unfold MS.fin;refine FZ (fun e1=>?_) fun n1=>FZ (fun e2=>F4 fun n _=>FZ (fun _=>?_) fun _=>?_) fun n2=>?_
 · rw [decide_eq_true Jo] at q3;exact h.to hf q3
 · rw [decide_eq_true Jo] at q3;exact h.to hf q3
 · rw [decide_eq_true Jo] at q4;exact h.to hf q4
 · unfold MS.ret
   refine F4 fun vs hv=>FZ (fun _=>trivial) fun _=>?_;split
   · rename_i c st hst;have hc:=h.st c (by rw [hst];exact GK);have h8:vs.length≤8:=(by rw [eA hv];omega);refine Bnd.put (s:=⟨s.h,c,st,s.inp,s.out,s.fuel⟩) ⟨hc,fun x hx=>h.st x (by rw [hst];exact Gr _ hx),?_,h.out⟩ h8;have:=h.sl;rw [hst,FP] at this;show st.length≤39;omega
   · split
     · exact trivial
     · rename_i ns hns;show ns.length≤8;rw [rI hns,eA hv];omega
theorem Bnd.one (h:Bnd m k s)(hM:m.fault.1=0):(s.one m).All (Bnd m (k+1)):=by
 obtain ⟨f,b,hf,hb,hi,hv,hr⟩:=h.cur;obtain ⟨-,q1,q2⟩:=Xr hM hf hb;unfold MS.one;rw [hf];dsimp only;rw [hb];dsimp only
 cases hx:b.code[s.g.i]? with
 | none=>exact h.fin hf q2
 | some x=>
   have hlt:=(FD.1 hx).1;refine Bnd.ins (s:=s.next) ⟨⟨f,b,hf,hb,?_,hv,hr⟩,h.st,h.sl,h.out⟩ hM (q1 x (FC hx));show s.g.i+1≤_;omega
abbrev KI:=@Bnd.one
theorem Bnd.start (hM:m.fault.1=0)(inp:List Int)(pages:Int):Bnd m 0 (MS.start inp pages):=by
 have hl:=oT hM;obtain ⟨f,hf⟩:∃f,m.funcs[0]?=some f:=⟨_,FB Jo⟩;have hb:=(UJ (S1 hM hf)).2.2.2.2.1;obtain ⟨b,hb⟩:∃b,f.blocks[0]?=some b:=⟨_,FB Jo⟩;exact ⟨⟨f,b,hf,hb,Gt _,Gt _,Gt _⟩,fun x hx=>(by cases hx),Gt _,Gt _⟩
abbrev Jw:=@Bnd.start
end
end
section
def Stp.Fu (k:Nat):Stp→Prop
 | .go s=>s.fuel=k
 | _=>True
theorem Stp.fu_bind {k:Nat}{x:Option α}{f:α→Stp}(h:∀a,(f a).Fu k):(Md x f).Fu k:=by
 cases x with
 | none=>exact trivial
 | some a=>exact h a
abbrev Gy:=@Stp.fu_bind
theorem Stp.fu_if {k:Nat}[Decidable c]{a b:Stp}(h1:a.Fu k)(h2:b.Fu k):(if c then a else b).Fu k:=by
 by_cases hc:c
 · rw [if_pos hc];exact h1
 · rw [if_neg hc];exact h2
abbrev Gq:=@Stp.fu_if
section
variable {m:Module}{s:MS}
theorem wT {h:HpS}{v:Val}:(s.made e h v).Fu s.fuel:=Gq trivial (Gq trivial rfl)
theorem rJ {v:Val}{r:Stp}{k:Nat}(h:r.Fu k):(Oo v e r).Fu k:=Gq trivial (Gq trivial (Gq trivial h))
theorem WC {f:Fun}{t:To}:(s.to f t).Fu s.fuel:=by
 unfold MS.to;split
 · exact trivial
 · exact Gy fun _=>Gy fun _=>Gq trivial rfl
theorem eB {x:Ins}:(s.ins m x).Fu s.fuel:=by
 unfold MS.ins;refine Gq rfl (Gq (Gy fun _=>Gy fun _=>Gq trivial rfl) (Gq (Gq trivial rfl) (Gq (Gy fun _=>Gq trivial rfl) (Gq (Gy fun _=>Gy fun _=>wT) (Gq (Gy fun _=>Gq trivial (Gq trivial rfl)) (Gq (Gy fun _=>Gq trivial (Gy fun _=>Gq trivial rfl)) (Gq (Gy fun _=>Gy fun _=>Gq trivial wT) (Gq (Gy fun _=>Gy fun _=>rJ rfl) (Gq (Gy fun _=>Gy fun _=>Gy fun _=>rJ rfl) (Gq (Gy fun _=>rJ rfl) (Gq ?_ (Gq (Gy fun _=>Gq trivial rfl) ?_))))))))))))
 · unfold MS.inS;split<;>first|exact trivial|rfl
 · unfold MS.call
   split
   · exact trivial
   · exact Gy fun _=>Gy fun _=>Gq trivial (Gq trivial rfl)
theorem eC {f:Fun}{e:Tail}:(s.fin f e).Fu s.fuel:=by
 unfold MS.fin;refine Gq WC (Gq (Gy fun _=>Gq WC WC) ?_);unfold MS.ret;refine Gy fun vs=>Gq trivial ?_;split
 · rfl
 · split<;>exact trivial
theorem eD:(s.one m).Fu s.fuel:=by
 unfold MS.one;split
 · exact trivial
 · split
   · exact trivial
   · split
     · exact eB (s:=s.next)
     · exact eC
theorem q8 (h:s.tick.one m= .go s'):s'.fuel=s.fuel+1:=by
 have:=eD (m:=m) (s:=s.tick);rw [h] at this;exact this
end
theorem wU {k:Nat}{s:MS}(hk:s.fuel<most)(he:k=s.fuel):Run.steps m most (most+1 - k) (.on s)=Run.steps m most (most+1 - (k+1)) (.of m s (s.tick.one m)):=by
 rw [show most+1 - k=(most+1 - (k+1))+1 by omega,Run.steps];rw [show Run.step m most (.on s)= .of m s (s.tick.one m) by unfold Run.step;exact if_neg Jo]
theorem rK {k:Nat}{s:MS}(hk:s.fuel=most)(he:k=s.fuel):Run.steps m most (most+1 - k) (.on s)= .over s 7 []:=by
 rw [show most+1 - k=0+1 by omega,Run.steps];rw [show Run.step m most (.on s)= .over s 7 [] by unfold Run.step;exact if_pos hk];rfl
theorem kG {m:Module}{most:Nat}{s:MS}{e:Int}{b:List Int}:∀k,Run.steps m most k (.over s e b)= .over s e b
 | 0=>rfl
 | k+1=>by rw [Run.steps];exact kG k
theorem rM {m:Module}{most:Nat}{f:Mw}:∀k,Run.steps m most k (.stuck f)= .stuck f
 | 0=>rfl
 | k+1=>by rw [Run.steps];exact rM k
def RA (m:Module)(most:Nat)(a:Run):Run→Prop
 | .on s=>a=Run.steps m most (most+1 - s.fuel) (.on s)
 | r=>a=r
section
variable {m:Module}{inp:List Int}
theorem RA.first:RA m most (Run.all m inp most pages) (.on (MS.start inp pages)):=rfl
theorem RA.seven {a:Run}{s:MS}(h:RA m most a (.on s))(hk:s.fuel=most):RA m most a (.over s 7 []):=JF h (rK hk rfl)
abbrev Kq:=@RA.seven
theorem RA.more {a:Run}{s:MS}(h:RA m most a (.on s))(hk:s.fuel<most)(hX:s.tick.one m=X)(hf:∀s',X= .go s'→s'.fuel=s.fuel+1):RA m most a (.of m s X):=by
 have h1:=JF h (wU hk rfl);rw [hX] at h1
 cases X with
 | go s'=>show a=_;rw [h1,hf s' rfl];rfl
 | halt e=>exact h1.trans (kG _)
 | done l=>exact h1.trans (kG _)
 | lost=>exact h1.trans (rM _)
theorem RA.nx {a:Run}{s:MS}(hA:RA m most a (.on s))(hk:s.fuel≤most):RA m most a (Run.step m most (.on s)):=by
 by_cases h7:s.fuel=most
 · rw [show Run.step m most (.on s)= .over s 7 [] from if_pos h7];exact Kq hA h7
 · rw [show Run.step m most (.on s)= .of m s (s.tick.one m) from if_neg h7];exact BL
end
end
end Go.Lir
namespace Go.Proofs.YteflkifmgnpbhaaGreat
open Go.Lir
attribute [local irreducible] LC.wp Q0 Qr Qj Lo QJ LO.wp Q6 Calls
section
variable {cx:Cx}{w:World}{L:List Res}{p N:Nat}{c:MC}{fr:List FrmV}{g:FrmV}{h:HpS}{out inp:List Int}{fu:Nat}{m:Module}
theorem rN {l:List Int}(hb:l.length≤1000000){v:Value}(hl:KM.sl cx v l)(hS:St cx w L):KK Tryz.prog Q47 [v] w fun u w'=>∃c',cx.Le c'∧KM.sl c' u l∧St c' w' L:=by
 obtain ⟨a,c,hv⟩:=FK hl
 cases a with
 | none=>
   have hl0:=I3 hl hv;subst hl0;subst hv;refine KY KX Tryz.func65 ?_;refine' Ob;refine fZ (e:=2) Jk rfl rfl ?_;refine' zn
   all_goals
    first
    | (refine' KN;refine' Lh;(exact ⟨_,rfl,cx,Gj hS,Gz _ _ _,hS⟩))
   all_goals (refine' K3; fail "no law for buildSlice"; refine' zm; refine za YT aX hS ?_; intro vp1 w1 css1 hls1 hv1 hS; have hS := hS.ns; refine' Ly; exact Dl)
 | some a=>
   have hn:KM.ls cx [] []:=GU _ _ _;refine KY KX Tryz.func65 ?_;refine' Ob;refine fZ (e:=2) Jk hv rfl ?_;refine' Sy;refine' K3;refine nY YT ?_;intro v1 w1 hf1 hs1 hz1;have hS:=hS.new (r:=sl 2 1 v1 []) hs1 hf1 (fun b hb=>Je hb.symm);refine' zm;(first|(refine za YT aX hS ?_;intro vp1 w1 css1 hls1 hv1 hS;have hS:=hS.ns)|(refine jl YT aX hS ?_;intro vp1 w1 css1 hls1 hv1 hS;have hS:=hS.ns));refine' Ly;(obtain ⟨c3,hle3,hS,hl3⟩:=GF (r:=KM) (l:=l) (T:=2) (es:=1) (L:=L) hS.sp hls1 rfl Jo;exact B4)
end
section
theorem Qho {x:Module}(hsm:x.Short)(hx:LS.at cx cs x)(hS:St cx w L):KK Tryz.prog z6 [.agg ⟨cs⟩] w fun u w'=>∃c' ds,u= .agg ⟨ds⟩∧cx.Le c'∧LS.at c' ds x∧St c' w' L:=by
 obtain ⟨vf,rfl,hf⟩:=OE hx;obtain ⟨l⟩:=x;have hf:K8.sl cx vf l:=hf;have hsl:l.length≤100000:=hsm.1;have hsm:∀f∈l,f.Short:=hsm.2;have hle:=Gj hS;refine KY KX Tryz.func19 ?_;refine' Lx;intro p1 w1 hS;refine Qh hS ?_;(intro p2 w1 hS);refine' zn;refine' RW;(intro p3 w1 hS);refine' MM;refine' gy;refine zo [1,2,3] (fun A ρ' w'=>∃(k0:Cx) (j:Nat) (u:Value) (css:List (List Value)),KR ρ' A∧KR ρ' [(4, .int .i64 j)]∧(cx.Le k0)∧(j≤l.length)∧(K8.ls k0 css (l.take j))∧(oneC u=true)∧St k0 w' (sl 95 4 u css::blk p3 24 [u]::blk p2 24 [.slice none 0 0]::blk p1 24 [vf]::L)) (fun ρ' _=>(l.length - iv (ρ' 4)).toNat) ?_ ?_
 · exact Ce
 rintro ρ w1 ⟨k0,j,u,css,hA,hρ,hle2,hj,hls,hu,hS⟩;obtain ⟨ρ,rfl⟩:=KS hA hρ;have hL0:=hle2;(try have hle:=hle.trans hle2);(try have hf:=hf.up hle2);refine' O4;refine' Ab<;>intro hc
 · skip
   refine' Ta;intro b1 o1 cs1 x1 hat1 hx1 he1;obtain ⟨vp1,vr1,vb1,rfl,hp1,hr1,hb1⟩:=QC he1;refine' NO;intro p5 w1 hS;refine K1 hS ?_;intro w1 hS;have hS:=hS.ns;refine' zn;have hsh:=hsm x1 (FC hx1);have hlb:=hsh.2.2.1;have hJ6:=Gj hS;refine Rx hS [1,2,3,4,5] (fun A LL ρ' w'=>∃(k6:Cx) (a1 a2:Option Addr) (n1 n2 p6:Nat),KR ρ' A∧KR ρ' [(6, .pointer (some ⟨p6,0,none⟩))]∧(k0.Le k6)∧(K0.sl k6 (.slice a1 x1.params.length n1) x1.params)∧(K0.sl k6 (.slice a2 x1.results.length n2) x1.results)∧St k6 w' (blk p6 95 [.int .i64 x1.regs, .slice a1 x1.params.length n1, .slice a2 x1.results.length n2, .slice none 0 0]::LL)) ?_ ?_
   · skip
     refine Ru 4 9 Jk ?_ ?_
     · skip
       refine Ru 7 9 Jk ?_ ?_
       · skip;refine zC [(0,none),(1,none),(2,none),(3,none),(5,none),(6,none),(4,some (some [1,6])),(7,some (some [1])),(8,none),(9,some (some [1])),(10,some none)] ?_;have hS:=hS.drew;refine' TU;refine' PY;refine' Lf (c:=ba hsh.1.1 hsh.1.2 hp1 hS);rintro v1 w1 ⟨c1,hle2,hk1,hS⟩;obtain ⟨a1,n1,rfl⟩:=FK hk1;(try have hJ6:=hJ6.trans hle2);(try have hr1:=hr1.up hle2);refine' MG;refine' Lf (c:=ba hsh.2.1.1 hsh.2.1.2 hr1 hS);rintro v1 w1 ⟨c2,hle2,hk2,hS⟩;obtain ⟨a2,n2,rfl⟩:=FK hk2;(try have hJ6:=hJ6.trans hle2);(try have hk1:=hk1.up hle2);refine' Ni;refine OF [_,_,_,_] ?_;refine' Rk;intro p6 w1 hS;refine' Nj;refine K1 hS ?_;intro w1 hS;have hS:=hS.ns;refine' LV;(exact Bb)
       · skip;refine zC [(0,none),(1,none),(2,none),(3,none),(5,none),(6,none),(4,some (some [1,6])),(9,some (some [1,6])),(7,some (some [1])),(8,none),(10,some none)] ?_;have hS:=hS.drew;refine' TU;refine' PY;refine' Lf (c:=ba hsh.1.1 hsh.1.2 hp1 hS);rintro v1 w1 ⟨c1,hle2,hk1,hS⟩;obtain ⟨a1,n1,rfl⟩:=FK hk1;(try have hJ6:=hJ6.trans hle2);(try have hr1:=hr1.up hle2);refine' MG;refine Qh hS ?_;intro p6 w1 hS;refine' MG;refine' Lf (c:=ba hsh.2.1.1 hsh.2.1.2 hr1 hS);rintro v1 w1 ⟨c2,hle2,hk2,hS⟩;obtain ⟨a2,n2,rfl⟩:=FK hk2;(try have hJ6:=hJ6.trans hle2);(try have hk1:=hk1.up hle2);refine' Ni;refine OF [_,_,_,_] ?_;refine' Mb;refine K1 hS ?_;intro w1 hS;have hS:=hS.ns;refine' LV;(exact Bb)
     · skip;refine zC [(0,none),(1,none),(2,none),(3,none),(5,none),(6,none),(9,some (some [1,3,6])),(4,some (some [1,6])),(7,some (some [1])),(8,none),(10,some none)] ?_;have hS:=hS.drew;refine' TU;refine' Nh;refine' Rk;intro p6 w1 hS;refine' MG;refine' Lf (c:=ba hsh.1.1 hsh.1.2 hp1 hS);rintro v1 w1 ⟨c1,hle2,hk1,hS⟩;obtain ⟨a1,n1,rfl⟩:=FK hk1;(try have hJ6:=hJ6.trans hle2);(try have hr1:=hr1.up hle2);refine' MG;refine' Lf (c:=ba hsh.2.1.1 hsh.2.1.2 hr1 hS);rintro v1 w1 ⟨c2,hle2,hk2,hS⟩;obtain ⟨a2,n2,rfl⟩:=FK hk2;(try have hJ6:=hJ6.trans hle2);(try have hk1:=hk1.up hle2);refine' Ni;refine OF [_,_,_,_] ?_;refine' Mb;refine K1 hS ?_;intro w1 hS;have hS:=hS.ns;refine' LV;(exact Bb)
   rintro ρ w1 ⟨k6,a1,a2,n1,n2,p6,hA,hρ,hle2,hk1,hk2,hS⟩;obtain ⟨ρ,rfl⟩:=KS hA hρ;(try have hle:=hle.trans hle2);(try have hL0:=hL0.trans hle2);(try have hJ6:=hJ6.trans hle2);(try have hf:=hf.up hle2);(try have hp1:=hp1.up hle2);(try have hr1:=hr1.up hle2);(try have hb1:=hb1.up hle2);(try have he1:=he1.up hle2);(try have hls:=hls.up hle2);refine' M8;refine zo [1,2,3,4,5,6] (fun A ρ' w'=>∃(k1:Cx) (i:Nat) (ub:Value) (cssB:List (List Value)),KR ρ' A∧KR ρ' [(7, .int .i64 i)]∧(k6.Le k1)∧(i≤x1.blocks.length)∧(Lp.ls k1 cssB (x1.blocks.take i))∧(oneC ub=true)∧St k1 w' (sl 92 12 ub cssB::blk p6 95 [.int .i64 x1.regs, .slice a1 x1.params.length n1, .slice a2 x1.results.length n2,ub]::blk p5 95 [.int .i64 x1.regs,vp1,vr1,vb1]::sl 95 4 u css::blk p3 24 [u]::blk p2 24 [.slice none 0 0]::blk p1 24 [vf]::L)) (fun ρ' _=>(x1.blocks.length - iv (ρ' 7)).toNat) ?_ ?_
   · exact CX
   rintro ρ w1 ⟨k1,i,ub,cssB,hA,hρ,hle2,hi,hlsB,hub,hS⟩;obtain ⟨ρ,rfl⟩:=KS hA hρ;have hL1:=hle2;(try have hle:=hle.trans hle2);(try have hL0:=hL0.trans hle2);(try have hJ6:=hJ6.trans hle2);(try have hf:=hf.up hle2);(try have hk1:=hk1.up hle2);(try have hk2:=hk2.up hle2);(try have hp1:=hp1.up hle2);(try have hr1:=hr1.up hle2);(try have hb1:=hb1.up hle2);(try have he1:=he1.up hle2);(try have hls:=hls.up hle2);refine' O4;refine' Ab<;>intro hc
   · skip
     refine' Ta;intro b2 o2 cs2 x2 hat2 hx2 he2;obtain ⟨vp2,vc2,ve21,ve22,ve23,ve24,ve25,rfl,hp2,hc2,he21,he22,he23,he24,he25⟩:=OZ he2;refine' NO;intro p8 w1 hS;refine K1 hS ?_;intro w1 hS;have hS:=hS.ns;refine' zn;have hsb:=hsh.2.2.2 x2 (FC hx2);have hlc:=hsb.2.1;have hJ10:=Gj hS;refine Rx hS [1,2,3,4,5,6,7,8] (fun A LL ρ' w'=>∃(k10:Cx) (a3:Option Addr) (n3 p9:Nat),KR ρ' A∧KR ρ' [(9, .pointer (some ⟨p9,0,none⟩))]∧(k1.Le k10)∧(K0.sl k10 (.slice a3 x2.params.length n3) x2.params)∧St k10 w' (blk p9 92 [.int .i64 x2.regs, .slice a3 x2.params.length n3, .slice none 0 0, .int .i64 0, .int .i64 0, .int .i64 0, .slice none 0 0, .slice none 0 0, .int .i64 0, .slice none 0 0, .slice none 0 0, .slice none 0 0]::LL)) ?_ ?_
     · skip
       refine Ru 4 6 Jk ?_ ?_
       · skip;refine zC [(0,none),(1,none),(2,none),(3,none),(4,some (some [1])),(5,none),(6,some (some [1])),(7,some none)] ?_;have hS:=hS.drew;refine' UW;refine' PY;refine' Lf (c:=ba hsb.1.1 hsb.1.2 hp2 hS);rintro v1 w1 ⟨c3,hle2,hk3,hS⟩;obtain ⟨a3,n3,rfl⟩:=FK hk3;(try have hJ10:=hJ10.trans hle2);refine' Ni;refine Nn [_,_,_,_,_,_,_,_,_,_,_,_] ?_;refine' Rk;intro p9 w1 hS;refine' Nj;refine K1 hS ?_;intro w1 hS;have hS:=hS.ns;refine' LV;(exact Bv)
       · skip;refine zC [(0,none),(1,none),(2,none),(3,none),(6,some (some [1,3])),(4,some (some [1])),(5,none),(7,some none)] ?_;have hS:=hS.drew;refine' TU;refine' Rk;intro p9 w1 hS;refine' MG;refine' Lf (c:=ba hsb.1.1 hsb.1.2 hp2 hS);rintro v1 w1 ⟨c3,hle2,hk3,hS⟩;obtain ⟨a3,n3,rfl⟩:=FK hk3;(try have hJ10:=hJ10.trans hle2);refine' Ni;refine Nn [_,_,_,_,_,_,_,_,_,_,_,_] ?_;refine' Mb;refine K1 hS ?_;intro w1 hS;have hS:=hS.ns;refine' LV;(exact Bv)
     rintro ρ w1 ⟨k10,a3,n3,p9,hA,hρ,hle2,hk3,hS⟩;obtain ⟨ρ,rfl⟩:=KS hA hρ;(try have hle:=hle.trans hle2);(try have hL0:=hL0.trans hle2);(try have hL1:=hL1.trans hle2);(try have hJ6:=hJ6.trans hle2);(try have hJ10:=hJ10.trans hle2);(try have hf:=hf.up hle2);(try have hk1:=hk1.up hle2);(try have hk2:=hk2.up hle2);(try have hp1:=hp1.up hle2);(try have hr1:=hr1.up hle2);(try have hb1:=hb1.up hle2);(try have hp2:=hp2.up hle2);(try have hc2:=hc2.up hle2);(try have he21:=he21.up hle2);(try have he22:=he22.up hle2);(try have he23:=he23.up hle2);(try have he24:=he24.up hle2);(try have he25:=he25.up hle2);(try have he1:=he1.up hle2);(try have he2:=he2.up hle2);(try have hls:=hls.up hle2);(try have hlsB:=hlsB.up hle2);refine' M8;refine zo [1,2,3,4,5,6,7,8,9] (fun A ρ' w'=>∃(k2:Cx) (k:Nat) (uc:Value) (cssC:List (List Value)),KR ρ' A∧KR ρ' [(10, .int .i64 k)]∧(k10.Le k2)∧(k≤x2.code.length)∧(Lz.ls k2 cssC (x2.code.take k))∧(oneC uc=true)∧St k2 w' (sl 84 8 uc cssC::blk p9 92 [.int .i64 x2.regs, .slice a3 x2.params.length n3,uc, .int .i64 0, .int .i64 0, .int .i64 0, .slice none 0 0, .slice none 0 0, .int .i64 0, .slice none 0 0, .slice none 0 0, .slice none 0 0]::blk p8 92 [.int .i64 x2.regs,vp2,vc2, .int .i64 x2.fin.op, .int .i64 x2.fin.a, .int .i64 x2.fin.yes.block,ve21,ve22, .int .i64 x2.fin.no.block,ve23,ve24,ve25]::sl 92 12 ub cssB::blk p6 95 [.int .i64 x1.regs, .slice a1 x1.params.length n1, .slice a2 x1.results.length n2,ub]::blk p5 95 [.int .i64 x1.regs,vp1,vr1,vb1]::sl 95 4 u css::blk p3 24 [u]::blk p2 24 [.slice none 0 0]::blk p1 24 [vf]::L)) (fun ρ' _=>(x2.code.length - iv (ρ' 10)).toNat) ?_ ?_
     · exact ⟨k10,0, .slice none 0 0,[],zh,zh,Gj hS,Jo,GU _ _ _,rfl,by have hS:=hS.nil (T:=84) (es:=8);exact hS.sp⟩
     rintro ρ w1 ⟨k2,k,uc,cssC,hA,hρ,hle2,hkk,hlsC,huc,hS⟩;obtain ⟨ρ,rfl⟩:=KS hA hρ;have hL2:=hle2;(try have hle:=hle.trans hle2);(try have hL0:=hL0.trans hle2);(try have hL1:=hL1.trans hle2);(try have hJ6:=hJ6.trans hle2);(try have hJ10:=hJ10.trans hle2);(try have hf:=hf.up hle2);(try have hk1:=hk1.up hle2);(try have hk2:=hk2.up hle2);(try have hk3:=hk3.up hle2);(try have hp1:=hp1.up hle2);(try have hr1:=hr1.up hle2);(try have hb1:=hb1.up hle2);(try have hp2:=hp2.up hle2);(try have hc2:=hc2.up hle2);(try have he21:=he21.up hle2);(try have he22:=he22.up hle2);(try have he23:=he23.up hle2);(try have he24:=he24.up hle2);(try have he25:=he25.up hle2);(try have he1:=he1.up hle2);(try have he2:=he2.up hle2);(try have hls:=hls.up hle2);(try have hlsB:=hlsB.up hle2);refine' O4;refine' Ab<;>intro hc
     · skip;refine' Ta;intro b3 o3 cs3 x3 hat3 hx3 he3;obtain ⟨vr3,va3,rfl,hr3,ha3⟩:=QY he3;refine' NO;intro p11 w1 hS;refine K1 hS ?_;intro w1 hS;have hS:=hS.ns;refine' MM;have hsi:=hsb.2.2.1 x3 (FC hx3);refine zC [(0,none),(1,none),(3,none),(4,none),(2,some (some [4])),(6,none),(5,some (some [])),(7,some none),(8,none),(9,some none)] ?_;have hS:=hS.drew;refine' UW;refine' PY;refine' Lf (c:=jH (by have:=hsi.1;omega) hr3 hS);rintro v1 w1 ⟨c4,hle2,hk4,hS⟩;obtain ⟨a4,n4,rfl⟩:=FK hk4;(try have hL2:=hL2.trans hle2);(try have ha3:=ha3.up hle2);(try have hlsC:=hlsC.up hle2);refine' Ni;refine' MR;refine' My;refine' Lf (c:=jH (by have:=hsi.2;omega) ha3 hS);rintro v1 w1 ⟨c5,hle2,hk5,hS⟩;obtain ⟨a5,n5,rfl⟩:=FK hk5;(try have hL2:=hL2.trans hle2);(try have hk4:=hk4.up hle2);(try have hlsC:=hlsC.up hle2);refine' Nj;refine Mi hS ?_;intro w1 hS;have hS:=hS.ns;refine' Ll;refine' MR;refine' Mb;refine Mi hS ?_;intro w1 hS;have hS:=hS.ns;refine' LV;have hk9:Lz.at c5 _ x3:=⟨_,_,rfl,hk4,hk5⟩;refine' So;refine zv hS ?_;refine LK hS [_,_,_,_,_,_,_,_] ?_;intro b1 w1 hS;refine za Vr aY hS ?_;intro vp1 w1 css1 hls1 hv1 hS;have hS:=hS.ns;refine' S7;intro w1 hS;have hS:=hS.ns;refine' zn;refine' Mk;(exact CN)
     · skip;refine' L7;obtain ⟨c6,hle2,hS,hk6⟩:=GF (r:=Lz) (l:=x2.code) hS Fv rfl (by have:=hsb.2.1;omega);obtain ⟨a6,n6,rfl⟩:=FK hk6;(try have hL1:=hL1.trans hle2);(try have hk3:=hk3.up hle2);(try have he21:=he21.up hle2);(try have he22:=he22.up hle2);(try have he23:=he23.up hle2);(try have he24:=he24.up hle2);(try have he25:=he25.up hle2);(try have hlsB:=hlsB.up hle2);refine Qo ?_;refine zC [(0,none),(1,none),(2,none),(3,none),(4,none),(5,none),(6,none),(7,none),(8,none),(10,none),(11,none),(12,none),(14,none),(15,none),(16,none),(9,some (some [2,5,12,16])),(13,some (some [2,5,16])),(17,some (some [2,5])),(18,none),(19,none),(20,some none)] ?_;have hS:=hS.drew;refine' LP;refine' gw;refine' Rz;refine zl hS ?_;refine' TV;refine zl hS ?_;refine' TV;refine zv hS ?_;refine' TV;refine zv hS ?_;refine' TV;refine zl hS ?_;refine' My;refine' Lf (c:=vq (x:=x2.fin.yes) (by have:=hsb.2.2.2.1.1;omega) (by have:=hsb.2.2.2.1.2;omega) ⟨_,_,rfl,he21,he22⟩ hS);rintro v1 w1 ⟨c7,ds,rfl,hle2,hk7,hS⟩;obtain ⟨y1,y2,rfl,hy1,hy2⟩:=SX hk7;obtain ⟨a7,n7,rfl⟩:=FK hy1;obtain ⟨a8,n8,rfl⟩:=FK hy2;(try have hL1:=hL1.trans hle2);(try have hk3:=hk3.up hle2);(try have hk6:=hk6.up hle2);(try have he23:=he23.up hle2);(try have he24:=he24.up hle2);(try have he25:=he25.up hle2);(try have hlsB:=hlsB.up hle2);refine' MG;refine' Lf (c:=vq (x:=x2.fin.no) (by have:=hsb.2.2.2.2.1.1;omega) (by have:=hsb.2.2.2.2.1.2;omega) ⟨_,_,rfl,he23,he24⟩ hS);rintro v1 w1 ⟨c8,ds,rfl,hle2,hk8,hS⟩;obtain ⟨z1,z2,rfl,hz1,hz2⟩:=SX hk8;obtain ⟨a9,n9,rfl⟩:=FK hz1;obtain ⟨a10,n10,rfl⟩:=FK hz2;(try have hL1:=hL1.trans hle2);(try have hk3:=hk3.up hle2);(try have hk6:=hk6.up hle2);(try have he25:=he25.up hle2);(try have hy1:=hy1.up hle2);(try have hy2:=hy2.up hle2);(try have hlsB:=hlsB.up hle2);refine' MG;refine' Lf (c:=jH (by have:=hsb.2.2.2.2.2;omega) he25 hS);rintro v1 w1 ⟨c9,hle2,hw1,hS⟩;obtain ⟨a11,n11,rfl⟩:=FK hw1;(try have hL1:=hL1.trans hle2);(try have hk3:=hk3.up hle2);(try have hk6:=hk6.up hle2);(try have hy1:=hy1.up hle2);(try have hy2:=hy2.up hle2);(try have hz1:=hz1.up hle2);(try have hz2:=hz2.up hle2);(try have hlsB:=hlsB.up hle2);refine' Ni;refine pf [_,_,_,_,_,_,_,_,_] ?_;refine' Ll;refine' MR;refine' Mb;(first|(refine K1 hS ?_;intro w1 hS;have hS:=hS.ns)|(refine gv hS ?_;intro w1 hS;have hS:=hS.ns));refine' LV;have hk9:Lp.at c9 _ x2:=oF (x:=x2) hk3 hk6 hy1 hy2 hz1 hz2 hw1;refine' So;refine zv hS ?_;refine LK hS [_,_,_,_,_,_,_,_,_,_,_,_] ?_;intro b1 w1 hS;refine za Vs aZ hS ?_;intro vp2 w2 css2 hls2 hv2 hS;have hS:=hS.ns;refine' S7;intro w1 hS;have hS:=hS.ns;refine' zn;refine' Mk;(exact Cy)
   · skip;refine' L7;obtain ⟨c10,hle2,hS,hk6⟩:=GF (r:=Lp) (l:=x1.blocks) hS EW rfl (by have:=hsh.2.2.1;omega);obtain ⟨a6,n6,rfl⟩:=FK hk6;(try have hL0:=hL0.trans hle2);(try have hk1:=hk1.up hle2);(try have hk2:=hk2.up hle2);(try have hls:=hls.up hle2);have hk9:K8.at c10 _ x1:=⟨_,_,_,rfl,hk1,hk2,hk6⟩;refine' So;refine zv hS ?_;refine LK hS [_,_,_,_] ?_;intro b1 w1 hS;refine za Vq aW hS ?_;intro vp3 w3 css3 hls3 hv3 hS;have hS:=hS.ns;refine' S7;intro w1 hS;have hS:=hS.ns;refine' zn;refine' Mk;(exact Dp)
 · skip;refine' L7;obtain ⟨c11,hle2,hS,hk6⟩:=GF (r:=K8) (l:=l) hS Eg rfl Jo;obtain ⟨a6,n6,rfl⟩:=FK hk6;(try have hle:=hle.trans hle2);refine' Nw;refine K1 hS ?_;intro w1 hS;have hS:=hS.ns;refine' Mu;refine Mp vw (Q2 (n:=1) Jk Jk (hS.blkAt fd) Jr Jr) ?_;(exact Di)
theorem wV {x:Module}(hsm:x.Short)(hx:LS.at cx cs x)(hS:St cx w L):KK Tryz.prog U9 [.agg ⟨cs⟩] w fun u w'=>∃c' ds,u= .agg ⟨ds⟩∧cx.Le c'∧LS.at c' ds x∧St c' w' L:=by
 obtain ⟨vf,rfl,hf⟩:=OE hx;obtain ⟨l⟩:=x;have hf:K8.sl cx vf l:=hf;have hsl:l.length≤100000:=hsm.1;have hsm:∀f∈l,f.Short:=hsm.2;have hle:=Gj hS;refine KY KX Tryz.func64 ?_;refine' Lx;intro p1 w1 hS;refine Qh hS ?_;(intro p2 w1 hS);refine' zn;refine' RW;(intro p3 w1 hS);refine' MM;refine' Ot;refine' PF;refine zo [2,3,13,14] (fun A ρ' w'=>∃(k0:Cx) (j:Nat) (u:Value) (css:List (List Value)),KR ρ' A∧KR ρ' [(15, .int .i64 j)]∧(cx.Le k0)∧(j≤l.length)∧(K8.ls k0 css (l.take j))∧(oneC u=true)∧St k0 w' (sl 95 4 u css::blk p3 24 [u]::blk p2 24 [.slice none 0 0]::blk p1 24 [vf]::L)) (fun ρ' _=>(l.length - iv (ρ' 15)).toNat) ?_ ?_
 · exact Ce
 rintro ρ w1 ⟨k0,j,u,css,hA,hρ,hle2,hj,hls,hu,hS⟩;obtain ⟨ρ,rfl⟩:=KS hA hρ;have hL0:=hle2;(try have hle:=hle.trans hle2);(try have hf:=hf.up hle2);refine' NV;refine' Ab<;>intro hc
 · skip
   refine' S9;refine' zi;intro b1 o1 cs1 x1 hat1 hx1 he1;obtain ⟨vp1,vr1,vb1,rfl,hp1,hr1,hb1⟩:=QC he1;refine' NO;intro p5 w1 hS;refine K1 hS ?_;intro w1 hS;have hS:=hS.ns;refine' zn;have hsh:=hsm x1 (FC hx1);have hlb:=hsh.2.2.1;have hJ6:=Gj hS;refine Rx hS [2,3,5,13,14,15] (fun A LL ρ' w'=>∃(k6:Cx) (a1 a2:Option Addr) (n1 n2 p6:Nat),KR ρ' A∧KR ρ' [(6, .pointer (some ⟨p6,0,none⟩))]∧(k0.Le k6)∧(K0.sl k6 (.slice a1 x1.params.length n1) x1.params)∧(K0.sl k6 (.slice a2 x1.results.length n2) x1.results)∧St k6 w' (blk p6 95 [.int .i64 x1.regs, .slice a1 x1.params.length n1, .slice a2 x1.results.length n2, .slice none 0 0]::LL)) ?_ ?_
   · skip
     refine Ru 4 9 Jk ?_ ?_
     · skip
       refine Ru 7 9 Jk ?_ ?_
       · skip;refine zC [(0,none),(1,none),(2,none),(3,none),(5,none),(6,none),(4,some (some [1,6])),(7,some (some [1])),(8,none),(9,some (some [1])),(10,some none)] ?_;have hS:=hS.drew;refine' TU;refine' PY;refine' Lf (c:=bd hsh.1.1 hsh.1.2 hp1 hS);rintro v1 w1 ⟨c1,hle2,hk1,hS⟩;obtain ⟨a1,n1,rfl⟩:=FK hk1;(try have hJ6:=hJ6.trans hle2);(try have hr1:=hr1.up hle2);refine' MG;refine' Lf (c:=bd hsh.2.1.1 hsh.2.1.2 hr1 hS);rintro v1 w1 ⟨c2,hle2,hk2,hS⟩;obtain ⟨a2,n2,rfl⟩:=FK hk2;(try have hJ6:=hJ6.trans hle2);(try have hk1:=hk1.up hle2);refine' Ni;refine OF [_,_,_,_] ?_;refine' Rk;intro p6 w1 hS;refine' Nj;refine K1 hS ?_;intro w1 hS;have hS:=hS.ns;refine' LV;(exact Bb)
       · skip;refine zC [(0,none),(1,none),(2,none),(3,none),(5,none),(6,none),(4,some (some [1,6])),(9,some (some [1,6])),(7,some (some [1])),(8,none),(10,some none)] ?_;have hS:=hS.drew;refine' TU;refine' PY;refine' Lf (c:=bd hsh.1.1 hsh.1.2 hp1 hS);rintro v1 w1 ⟨c1,hle2,hk1,hS⟩;obtain ⟨a1,n1,rfl⟩:=FK hk1;(try have hJ6:=hJ6.trans hle2);(try have hr1:=hr1.up hle2);refine' MG;refine Qh hS ?_;intro p6 w1 hS;refine' MG;refine' Lf (c:=bd hsh.2.1.1 hsh.2.1.2 hr1 hS);rintro v1 w1 ⟨c2,hle2,hk2,hS⟩;obtain ⟨a2,n2,rfl⟩:=FK hk2;(try have hJ6:=hJ6.trans hle2);(try have hk1:=hk1.up hle2);refine' Ni;refine OF [_,_,_,_] ?_;refine' Mb;refine K1 hS ?_;intro w1 hS;have hS:=hS.ns;refine' LV;(exact Bb)
     · skip;refine zC [(0,none),(1,none),(2,none),(3,none),(5,none),(6,none),(9,some (some [1,3,6])),(4,some (some [1,6])),(7,some (some [1])),(8,none),(10,some none)] ?_;have hS:=hS.drew;refine' TU;refine' Nh;refine' Rk;intro p6 w1 hS;refine' MG;refine' Lf (c:=bd hsh.1.1 hsh.1.2 hp1 hS);rintro v1 w1 ⟨c1,hle2,hk1,hS⟩;obtain ⟨a1,n1,rfl⟩:=FK hk1;(try have hJ6:=hJ6.trans hle2);(try have hr1:=hr1.up hle2);refine' MG;refine' Lf (c:=bd hsh.2.1.1 hsh.2.1.2 hr1 hS);rintro v1 w1 ⟨c2,hle2,hk2,hS⟩;obtain ⟨a2,n2,rfl⟩:=FK hk2;(try have hJ6:=hJ6.trans hle2);(try have hk1:=hk1.up hle2);refine' Ni;refine OF [_,_,_,_] ?_;refine' Mb;refine K1 hS ?_;intro w1 hS;have hS:=hS.ns;refine' LV;(exact Bb)
   rintro ρ w1 ⟨k6,a1,a2,n1,n2,p6,hA,hρ,hle2,hk1,hk2,hS⟩;obtain ⟨ρ,rfl⟩:=KS hA hρ;(try have hle:=hle.trans hle2);(try have hL0:=hL0.trans hle2);(try have hJ6:=hJ6.trans hle2);(try have hf:=hf.up hle2);(try have hp1:=hp1.up hle2);(try have hr1:=hr1.up hle2);(try have hb1:=hb1.up hle2);(try have he1:=he1.up hle2);(try have hls:=hls.up hle2);refine' NP;refine' PF;refine zo [2,3,6,13,14,15,29,30] (fun A ρ' w'=>∃(k1:Cx) (i:Nat) (ub:Value) (cssB:List (List Value)),KR ρ' A∧KR ρ' [(31, .int .i64 i)]∧(k6.Le k1)∧(i≤x1.blocks.length)∧(Lp.ls k1 cssB (x1.blocks.take i))∧(oneC ub=true)∧St k1 w' (sl 92 12 ub cssB::blk p6 95 [.int .i64 x1.regs, .slice a1 x1.params.length n1, .slice a2 x1.results.length n2,ub]::blk p5 95 [.int .i64 x1.regs,vp1,vr1,vb1]::sl 95 4 u css::blk p3 24 [u]::blk p2 24 [.slice none 0 0]::blk p1 24 [vf]::L)) (fun ρ' _=>(x1.blocks.length - iv (ρ' 31)).toNat) ?_ ?_
   · exact CX
   rintro ρ w1 ⟨k1,i,ub,cssB,hA,hρ,hle2,hi,hlsB,hub,hS⟩;obtain ⟨ρ,rfl⟩:=KS hA hρ;have hL1:=hle2;(try have hle:=hle.trans hle2);(try have hL0:=hL0.trans hle2);(try have hJ6:=hJ6.trans hle2);(try have hf:=hf.up hle2);(try have hk1:=hk1.up hle2);(try have hk2:=hk2.up hle2);(try have hp1:=hp1.up hle2);(try have hr1:=hr1.up hle2);(try have hb1:=hb1.up hle2);(try have he1:=he1.up hle2);(try have hls:=hls.up hle2);refine' NV;refine' Ab<;>intro hc
   · skip
     refine' S9;refine' zi;intro b2 o2 cs2 x2 hat2 hx2 he2;obtain ⟨vp2,vc2,ve21,ve22,ve23,ve24,ve25,rfl,hp2,hc2,he21,he22,he23,he24,he25⟩:=OZ he2;refine' NO;intro p8 w1 hS;refine K1 hS ?_;intro w1 hS;have hS:=hS.ns;refine' zn;have hsb:=hsh.2.2.2 x2 (FC hx2);have hlc:=hsb.2.1;have hJ10:=Gj hS;refine Rx hS [2,3,6,8,13,14,15,29,30,31] (fun A LL ρ' w'=>∃(k10:Cx) (a3:Option Addr) (n3 p9:Nat),KR ρ' A∧KR ρ' [(9, .pointer (some ⟨p9,0,none⟩))]∧(k1.Le k10)∧(K0.sl k10 (.slice a3 x2.params.length n3) x2.params)∧St k10 w' (blk p9 92 [.int .i64 x2.regs, .slice a3 x2.params.length n3, .slice none 0 0, .int .i64 x2.fin.op, .int .i64 x2.fin.a, .int .i64 x2.fin.yes.block,ve21,ve22, .int .i64 x2.fin.no.block,ve23,ve24,ve25]::LL)) ?_ ?_
     · skip
       obtain ⟨q1,m1,rfl⟩:=FK he21;obtain ⟨q2,m2,rfl⟩:=FK he22;obtain ⟨q3,m3,rfl⟩:=FK he23;obtain ⟨q4,m4,rfl⟩:=FK he24;obtain ⟨q5,m5,rfl⟩:=FK he25;refine Ru 4 8 Jk ?_ ?_
       · skip;refine zC [(0,none),(1,none),(2,none),(3,none),(5,none),(6,none),(4,some (some [1,6])),(7,none),(8,some (some [1,6])),(9,some none)] ?_;have hS:=hS.drew;refine' TU;refine' aU;refine zv hS ?_;refine' My;refine' Lf (c:=bd hsb.1.1 hsb.1.2 hp2 hS);rintro v1 w1 ⟨c3,hle2,hk3,hS⟩;obtain ⟨a3,n3,rfl⟩:=FK hk3;(try have hJ10:=hJ10.trans hle2);refine' Ni;refine OF [_,_,_,_,_,_,_,_,_,_,_,_] ?_;refine' Rk;intro p9 w1 hS;refine' Nj;refine K1 hS ?_;intro w1 hS;have hS:=hS.ns;refine' LV;(exact Bv)
       · skip;refine zC [(0,none),(1,none),(2,none),(3,none),(5,none),(6,none),(8,some (some [1,3,6])),(4,some (some [1,6])),(7,none),(9,some none)] ?_;have hS:=hS.drew;refine' TU;refine' aU;refine zv hS ?_;refine' Rk;intro p9 w1 hS;refine' MG;refine' Lf (c:=bd hsb.1.1 hsb.1.2 hp2 hS);rintro v1 w1 ⟨c3,hle2,hk3,hS⟩;obtain ⟨a3,n3,rfl⟩:=FK hk3;(try have hJ10:=hJ10.trans hle2);refine' Ni;refine OF [_,_,_,_,_,_,_,_,_,_,_,_] ?_;refine' Mb;refine K1 hS ?_;intro w1 hS;have hS:=hS.ns;refine' LV;(exact Bv)
     rintro ρ w1 ⟨k10,a3,n3,p9,hA,hρ,hle2,hk3,hS⟩;obtain ⟨ρ,rfl⟩:=KS hA hρ;(try have hle:=hle.trans hle2);(try have hL0:=hL0.trans hle2);(try have hL1:=hL1.trans hle2);(try have hJ6:=hJ6.trans hle2);(try have hJ10:=hJ10.trans hle2);(try have hf:=hf.up hle2);(try have hk1:=hk1.up hle2);(try have hk2:=hk2.up hle2);(try have hp1:=hp1.up hle2);(try have hr1:=hr1.up hle2);(try have hb1:=hb1.up hle2);(try have hp2:=hp2.up hle2);(try have hc2:=hc2.up hle2);(try have he21:=he21.up hle2);(try have he22:=he22.up hle2);(try have he23:=he23.up hle2);(try have he24:=he24.up hle2);(try have he25:=he25.up hle2);(try have he1:=he1.up hle2);(try have he2:=he2.up hle2);(try have hls:=hls.up hle2);(try have hlsB:=hlsB.up hle2);refine Qo ?_;refine zC [(0,none),(1,none),(2,none),(4,none),(5,none),(6,none),(8,none),(9,none),(10,none),(3,some (some [6,10])),(12,none),(13,none),(7,some (some [10])),(11,some (some [])),(14,some none),(15,none),(16,none),(17,some none),(18,none),(19,none),(20,some none)] ?_;have hS:=hS.drew;refine' LP;refine' gw;refine' Rz;refine zv hS ?_;refine' TV;refine zv hS ?_;refine' TV;refine zl hS ?_;refine' My;refine' Lf (c:=vx (x:=x2.fin.yes) (by have:=hsb.2.2.2.1.1;omega) (by have:=hsb.2.2.2.1.2;omega) ⟨_,_,rfl,he21,he22⟩ hS);rintro v1 w1 ⟨c7,ds,rfl,hle2,hk7,hS⟩;obtain ⟨y1,y2,rfl,hy1,hy2⟩:=SX hk7;obtain ⟨a7,n7,rfl⟩:=FK hy1;obtain ⟨a8,n8,rfl⟩:=FK hy2;(try have hle:=hle.trans hle2);(try have hL0:=hL0.trans hle2);(try have hL1:=hL1.trans hle2);(try have hJ6:=hJ6.trans hle2);(try have hJ10:=hJ10.trans hle2);(try have hf:=hf.up hle2);(try have hk1:=hk1.up hle2);(try have hk2:=hk2.up hle2);(try have hk3:=hk3.up hle2);(try have hp1:=hp1.up hle2);(try have hr1:=hr1.up hle2);(try have hb1:=hb1.up hle2);(try have hp2:=hp2.up hle2);(try have hc2:=hc2.up hle2);(try have he21:=he21.up hle2);(try have he22:=he22.up hle2);(try have he23:=he23.up hle2);(try have he24:=he24.up hle2);(try have he25:=he25.up hle2);(try have he1:=he1.up hle2);(try have he2:=he2.up hle2);(try have hls:=hls.up hle2);(try have hlsB:=hlsB.up hle2);refine' Ni;refine' gw;refine' M6;refine' My;refine' Lf (c:=vx (x:=x2.fin.no) (by have:=hsb.2.2.2.2.1.1;omega) (by have:=hsb.2.2.2.2.1.2;omega) ⟨_,_,rfl,he23,he24⟩ hS);rintro v1 w1 ⟨c8,ds,rfl,hle2,hk8,hS⟩;obtain ⟨z1,z2,rfl,hz1,hz2⟩:=SX hk8;obtain ⟨a9,n9,rfl⟩:=FK hz1;obtain ⟨a10,n10,rfl⟩:=FK hz2;(try have hle:=hle.trans hle2);(try have hL0:=hL0.trans hle2);(try have hL1:=hL1.trans hle2);(try have hJ6:=hJ6.trans hle2);(try have hJ10:=hJ10.trans hle2);(try have hf:=hf.up hle2);(try have hk1:=hk1.up hle2);(try have hk2:=hk2.up hle2);(try have hk3:=hk3.up hle2);(try have hk7:=hk7.up hle2);(try have hp1:=hp1.up hle2);(try have hr1:=hr1.up hle2);(try have hb1:=hb1.up hle2);(try have hp2:=hp2.up hle2);(try have hc2:=hc2.up hle2);(try have he21:=he21.up hle2);(try have he22:=he22.up hle2);(try have he23:=he23.up hle2);(try have he24:=he24.up hle2);(try have he25:=he25.up hle2);(try have he1:=he1.up hle2);(try have he2:=he2.up hle2);(try have hls:=hls.up hle2);(try have hy1:=hy1.up hle2);(try have hy2:=hy2.up hle2);(try have hlsB:=hlsB.up hle2);refine' MG;refine' Lf (c:=jI (by have:=hsb.2.2.2.2.2;omega) he25 hS);rintro v1 w1 ⟨c9,hle2,hw1,hS⟩;obtain ⟨a11,n11,rfl⟩:=FK hw1;(try have hle:=hle.trans hle2);(try have hL0:=hL0.trans hle2);(try have hL1:=hL1.trans hle2);(try have hJ6:=hJ6.trans hle2);(try have hJ10:=hJ10.trans hle2);(try have hf:=hf.up hle2);(try have hk1:=hk1.up hle2);(try have hk2:=hk2.up hle2);(try have hk3:=hk3.up hle2);(try have hk7:=hk7.up hle2);(try have hk8:=hk8.up hle2);(try have hp1:=hp1.up hle2);(try have hr1:=hr1.up hle2);(try have hb1:=hb1.up hle2);(try have hp2:=hp2.up hle2);(try have hc2:=hc2.up hle2);(try have he21:=he21.up hle2);(try have he22:=he22.up hle2);(try have he23:=he23.up hle2);(try have he24:=he24.up hle2);(try have he25:=he25.up hle2);(try have he1:=he1.up hle2);(try have he2:=he2.up hle2);(try have hls:=hls.up hle2);(try have hy1:=hy1.up hle2);(try have hy2:=hy2.up hle2);(try have hz1:=hz1.up hle2);(try have hz2:=hz2.up hle2);(try have hlsB:=hlsB.up hle2);refine' Nj;(first|(refine K1 hS ?_;intro w1 hS;have hS:=hS.ns)|(refine gv hS ?_;intro w1 hS;have hS:=hS.ns));refine' aU;refine' M6;refine' Mb;(first|(refine K1 hS ?_;intro w1 hS;have hS:=hS.ns)|(refine gv hS ?_;intro w1 hS;have hS:=hS.ns));refine' aU;refine' M6;refine' Mb;refine Mi hS ?_;intro w1 hS;have hS:=hS.ns;refine' LV;refine' NP;refine' PF;refine zo [2,3,6,9,13,14,15,29,30,31,62,63] (fun A ρ' w'=>∃(k2:Cx) (k:Nat) (uc:Value) (cssC:List (List Value)),KR ρ' A∧KR ρ' [(64, .int .i64 k)]∧(c9.Le k2)∧(k≤x2.code.length)∧(Lz.ls k2 cssC (x2.code.take k))∧(oneC uc=true)∧St k2 w' (sl 84 8 uc cssC::blk p9 92 [.int .i64 x2.regs, .slice a3 x2.params.length n3,uc, .int .i64 x2.fin.op, .int .i64 x2.fin.a, .int .i64 x2.fin.yes.block, .slice a7 x2.fin.yes.regs.length n7, .slice a8 x2.fin.yes.args.length n8, .int .i64 x2.fin.no.block, .slice a9 x2.fin.no.regs.length n9, .slice a10 x2.fin.no.args.length n10, .slice a11 x2.fin.args.length n11]::blk p8 92 [.int .i64 x2.regs,vp2,vc2, .int .i64 x2.fin.op, .int .i64 x2.fin.a, .int .i64 x2.fin.yes.block,ve21,ve22, .int .i64 x2.fin.no.block,ve23,ve24,ve25]::sl 92 12 ub cssB::blk p6 95 [.int .i64 x1.regs, .slice a1 x1.params.length n1, .slice a2 x1.results.length n2,ub]::blk p5 95 [.int .i64 x1.regs,vp1,vr1,vb1]::sl 95 4 u css::blk p3 24 [u]::blk p2 24 [.slice none 0 0]::blk p1 24 [vf]::L)) (fun ρ' _=>(x2.code.length - iv (ρ' 64)).toNat) ?_ ?_
     · exact ⟨c9,0, .slice none 0 0,[],zh,zh,Gj hS,Jo,GU _ _ _,rfl,by have hS:=hS.nil (T:=84) (es:=8);exact hS.sp⟩
     rintro ρ w1 ⟨k2,k,uc,cssC,hA,hρ,hle2,hkk,hlsC,huc,hS⟩;obtain ⟨ρ,rfl⟩:=KS hA hρ;have hL2:=hle2;(try have hle:=hle.trans hle2);(try have hL0:=hL0.trans hle2);(try have hL1:=hL1.trans hle2);(try have hJ6:=hJ6.trans hle2);(try have hJ10:=hJ10.trans hle2);(try have hf:=hf.up hle2);(try have hk1:=hk1.up hle2);(try have hk2:=hk2.up hle2);(try have hk3:=hk3.up hle2);(try have hk7:=hk7.up hle2);(try have hk8:=hk8.up hle2);(try have hp1:=hp1.up hle2);(try have hr1:=hr1.up hle2);(try have hb1:=hb1.up hle2);(try have hp2:=hp2.up hle2);(try have hc2:=hc2.up hle2);(try have he21:=he21.up hle2);(try have he22:=he22.up hle2);(try have he23:=he23.up hle2);(try have he24:=he24.up hle2);(try have he25:=he25.up hle2);(try have he1:=he1.up hle2);(try have he2:=he2.up hle2);(try have hls:=hls.up hle2);(try have hy1:=hy1.up hle2);(try have hy2:=hy2.up hle2);(try have hz1:=hz1.up hle2);(try have hz2:=hz2.up hle2);(try have hw1:=hw1.up hle2);(try have hlsB:=hlsB.up hle2);refine' NV;refine' Ab<;>intro hc
     · skip;refine' S9;refine' zi;intro b3 o3 cs3 x3 hat3 hx3 he3;obtain ⟨vr3,va3,rfl,hr3,ha3⟩:=QY he3;refine' NO;intro p11 w1 hS;refine K1 hS ?_;intro w1 hS;have hS:=hS.ns;refine' MM;have hsi:=hsb.2.2.1 x3 (FC hx3);refine zC [(0,none),(1,none),(3,none),(4,none),(2,some (some [4])),(6,none),(5,some (some [])),(7,some none),(8,none),(9,some none)] ?_;have hS:=hS.drew;refine' UW;refine' PY;refine' Lf (c:=jI (by have:=hsi.1;omega) hr3 hS);rintro v1 w1 ⟨c4,hle2,hk4,hS⟩;obtain ⟨a4,n4,rfl⟩:=FK hk4;(try have hL2:=hL2.trans hle2);(try have ha3:=ha3.up hle2);(try have hlsC:=hlsC.up hle2);refine' Ni;refine' MR;refine' My;refine' Lf (c:=jI (by have:=hsi.2;omega) ha3 hS);rintro v1 w1 ⟨c5,hle2,hk5,hS⟩;obtain ⟨a5,n5,rfl⟩:=FK hk5;(try have hL2:=hL2.trans hle2);(try have hk4:=hk4.up hle2);(try have hlsC:=hlsC.up hle2);refine' Nj;refine Mi hS ?_;intro w1 hS;have hS:=hS.ns;refine' Ll;refine' MR;refine' Mb;refine Mi hS ?_;intro w1 hS;have hS:=hS.ns;refine' LV;have hk9:Lz.at c5 _ x3:=⟨_,_,rfl,hk4,hk5⟩;refine' So;refine zv hS ?_;refine LK hS [_,_,_,_,_,_,_,_] ?_;intro b1 w1 hS;refine za Vr aY hS ?_;intro vp1 w1 css1 hls1 hv1 hS;have hS:=hS.ns;refine' S7;intro w1 hS;have hS:=hS.ns;refine' Sw;(exact CN)
     · skip;refine' L7;obtain ⟨c6,hle2,hS,hk6⟩:=GF (r:=Lz) (l:=x2.code) hS Fv rfl (by have:=hsb.2.1;omega);obtain ⟨a6,n6,rfl⟩:=FK hk6;(try have hL1:=hL1.trans hle2);(try have hk3:=hk3.up hle2);(try have hy1:=hy1.up hle2);(try have hy2:=hy2.up hle2);(try have hz1:=hz1.up hle2);(try have hz2:=hz2.up hle2);(try have hw1:=hw1.up hle2);(try have hlsB:=hlsB.up hle2);have hk9:Lp.at c6 _ x2:=oF (x:=x2) hk3 hk6 hy1 hy2 hz1 hz2 hw1;refine' So;refine zv hS ?_;refine LK hS [_,_,_,_,_,_,_,_,_,_,_,_] ?_;intro b1 w1 hS;refine za Vs aZ hS ?_;intro vp2 w2 css2 hls2 hv2 hS;have hS:=hS.ns;refine' S7;intro w1 hS;have hS:=hS.ns;refine' Sw;(exact Cy)
   · skip;refine' L7;obtain ⟨c10,hle2,hS,hk6⟩:=GF (r:=Lp) (l:=x1.blocks) hS EW rfl (by have:=hsh.2.2.1;omega);obtain ⟨a6,n6,rfl⟩:=FK hk6;(try have hL0:=hL0.trans hle2);(try have hk1:=hk1.up hle2);(try have hk2:=hk2.up hle2);(try have hls:=hls.up hle2);have hk9:K8.at c10 _ x1:=⟨_,_,_,rfl,hk1,hk2,hk6⟩;refine' So;refine zv hS ?_;refine LK hS [_,_,_,_] ?_;intro b1 w1 hS;refine za Vq aW hS ?_;intro vp3 w3 css3 hls3 hv3 hS;have hS:=hS.ns;refine' S7;intro w1 hS;have hS:=hS.ns;refine' Sw;(exact Dp)
 · skip;refine' L7;obtain ⟨c11,hle2,hS,hk6⟩:=GF (r:=K8) (l:=l) hS Eg rfl Jo;obtain ⟨a6,n6,rfl⟩:=FK hk6;(try have hle:=hle.trans hle2);refine' Nw;refine K1 hS ?_;intro w1 hS;have hS:=hS.ns;refine' Mu;refine Mp vw (Q2 (n:=1) Jk Jk (hS.blkAt fd) Jr Jr) ?_;(exact Di)
end
end Go.Proofs.YteflkifmgnpbhaaGreat
namespace Go.Lir
def eE (m:Module)(inp:List Int)(fuel pages:Int):Mw:=if m.fault.1≠0 then m.fault else if 200<inp.length∨fuel<0∨20000<fuel∨pages<0∨64<pages then (1, -1) else (0,0)
end Go.Lir
namespace Go.Proofs.YteflkifmgnpbhaaGreat
open Go.Lir
attribute [local irreducible] LC.wp Q0 Qr Qj Lo QJ LO.wp Q6 Calls
variable {cx:Cx}{w:World}{L:List Res}{m:Module}{inp:List Int}
@[reducible] def ZB (hp fn lv iv:Value)(fuel:Int):MC:=⟨hp,fn,lv,iv,0, .slice none 0 0, .slice none 0 0,0,fuel,false,0,0⟩
@[reducible] def Rs:FrmV:=⟨0,0,0, .slice none 0 0,[], .slice none 0 0,[]⟩
def ZC (m:Module)(inp:List Int)(fuel pages:Int)(cx:Cx)(L:List Res)(u:Value)(w':World):Prop:=
 ((eE m inp fuel pages).1≠0∧u= .tuple #[.pointer none,Lg (eE m inp fuel pages)]∧St cx w' L)∨
 (eE m inp fuel pages=(0,0)∧m.fault.1=0∧inp.length≤200∧0≤fuel∧fuel≤20000∧0≤pages∧pages≤64∧∃c' p hp fn lv iv,u= .tuple #[.pointer (some ⟨p,0,none⟩),Lg (0,0)]∧cx.Le c'∧K8.sl c' fn m.funcs∧KM.sl c' iv inp∧St c' w' (mS p (ZB hp fn lv iv fuel) [] Rs 0 ⟨[],pages⟩ [] L))
end Go.Proofs.YteflkifmgnpbhaaGreat
namespace Go.Lir
def eF (w:World)(b j:Nat):Value:=(w.cell? ⟨b,j,none⟩).getD undef
theorem kH {c:Cx}{T b i:Nat}(hS:St c w L)(hi:nth L i=some (blk b T cs))(hj:cs[j]?=some u):eF w b j=u:=by
 unfold eF;rw [(hS.blkAt hi).cell hj];rfl
def ZD:Value→Nat
 | .bool true=>0
 | _=>1
def eG (w:World)(p:Nat):Nat:=2*(iv (eF w p 8) - iv (eF w p 7)).toNat+ZD (eF w p 9)
end Go.Lir
namespace Go.Proofs.YteflkifmgnpbhaaGreat
open Go.Lir
attribute [local irreducible] LC.wp Q0 Qr Qj Lo QJ LO.wp Q6 Calls
section
variable {cx:Cx}{w:World}{L:List Res}{p N:Nat}{c:MC}{fr:List FrmV}{g:FrmV}{h:HpS}{out inp:List Int}{m:Module}
def TZ (c:MC):Nat:=2*(c.mo - c.fu).toNat+ZD (.bool c.dn)
def eH (m:Module)(r:Run)(most k:Nat)(c:MC)(fr:List FrmV)(g:FrmV)(N:Nat)(h:HpS)(inp out:List Int):Prop:=
 c.dn=false∧c.c=0∧c.e=0∧c.fu=k∧k≤most∧c.mo=most∧N≤k∧Bnd m k (KW h g fr inp out k)∧r=Run.steps m most (most+1 - k) (.on (KW h g fr inp out k))
def eI (m:Module)(r:Run)(most:Nat)(c:MC)(fr:List FrmV)(g:FrmV)(N:Nat)(h:HpS)(inp out back:List Int):Prop:=
 (back=[]∧∃k,eH m r most k c fr g N h inp out)∨(c.dn=true∧r.oc=⟨c.e,back,out,c.fu⟩∧r.flt=(0,0)∧out.length≤2000∧back.length≤100000)
theorem eH.next {r:Run}{k:Nat}(hI:eH m r most k c fr g N h inp out)(hM:m.fault.1=0)(hi:KM.sl cx c.iv inp)(hs:br m p c fr g N h inp out (k+1) cx (sl 2 1 c.bv []::L) u w):
 (u=Lg (0,0)∧∃c' fr' g' N' h' inp' out' back',eI m r most c' fr' g' N' h' inp' out' back'∧c'.fn=c.fn∧KM.sl cx c'.iv inp'∧TZ c'<TZ c∧St cx w (mS p c' fr' g' N' h' out' (sl 2 1 c'.bv (Qv back')::L)))∨
 ∃f,r= .stuck (20,f)∧u=Lg (20,f)∧St cx w L:=by
 obtain ⟨hdn,hc0,he0,hfu,hkm,hmo,hN,hB,hr⟩:=hI;rcases hs with ⟨h7,rfl,hS⟩|⟨hlt,hs⟩
 · refine .inl ⟨rfl,c.over 7,fr,g,N,h,inp,out,[], .inr ⟨rfl,?_,?_,hB.out,Gt _⟩,rfl,hi,?_,hS⟩
   · rw [hr,rK (m:=m) (most:=most) (k:=k) (s:=KW h g fr inp out k) (by show k=most;omega) rfl];show Oc.mk 7 [] out k=Oc.mk 7 [] out c.fu;rw [hfu]
   · rw [hr,rK (m:=m) (most:=most) (k:=k) (s:=KW h g fr inp out k) (by show k=most;omega) rfl];rfl
   · unfold TZ;rw [hdn];show 2*(c.mo - c.fu).toNat+0<2*(c.mo - c.fu).toNat+1;omega
 · have hst:=hr.trans (wU (m:=m) (most:=most) (k:=k) (s:=KW h g fr inp out k) (by show k<most;omega) rfl)
   have hone:(KW h g fr inp out k).tick.one m=(KW h g fr inp out (k+1)).one m:=rfl;rw [hone] at hst;have hB1:((KW h g fr inp out (k+1)).one m).All (Bnd m (k+1)):=KI (s:=KW h g fr inp out (k+1)) (k:=k) ⟨hB.cur,hB.st,hB.sl,hB.out⟩ hM;have hms:2*(c.mo - (c.fu+1)).toNat+1<2*(c.mo - c.fu).toNat+1:=DB;rcases hs with ⟨rfl,hG⟩|⟨e,hX,rfl,fr',g',N',hN',hS⟩|⟨hX,rfl,hS⟩
   · rcases hG with ⟨lv,iv,ov,fr',g',N',h',inp',out',hX,hi',hN', -,hS⟩|⟨ns,bv,fr',g',hX, -,hS⟩
     · rw [hX] at hst hB1
       refine .inl ⟨rfl,c.tick.upd lv iv ov,fr',g',N',h',inp',out',[], .inl ⟨rfl,k+1,hdn,hc0,he0,?_,Jo,hmo,Jo,hB1,hst⟩,rfl,hi',?_,hS⟩
       · show c.fu+1=((k+1:Nat):Int);omega
       · unfold TZ;rw [hdn];exact hms
     · rw [hX] at hst
       rw [show Run.of m (KW h g fr inp out k) (.done ns)= .over (KW h g fr inp out k).tick 0 ns from rfl,kG] at hst;refine .inl ⟨rfl,⟨c.hp,c.fn,c.lv,c.iv,c.e,bv,c.ov,c.fu+1,c.mo,true,c.c,c.a⟩,fr',g',N,h,inp,out,ns, .inr ⟨rfl,?_,?_,hB.out,?_⟩,rfl,hi,?_,hS.sp⟩
       · rw [hst];show Oc.mk 0 ns out ((k+1:Nat):Int)=Oc.mk c.e ns out (c.fu+1);rw [hfu,he0];rfl
       · rw [hst];rfl
       · have h8:ns.length≤8:=(by rw [hX] at hB1;exact hB1);omega
       · unfold TZ;rw [hdn];show 2*(c.mo - (c.fu+1)).toNat+0 < _;omega
   · rw [hX] at hst
     rw [show Run.of m (KW h g fr inp out k) (.halt e)= .over (KW h g fr inp out k).tick e [] from rfl,kG] at hst;refine .inl ⟨rfl,c.tick.over e,fr',g',N',h,inp,out,[], .inr ⟨rfl,?_,?_,hB.out,Gt _⟩,rfl,hi,?_,hS⟩
     · rw [hst];show Oc.mk e [] out ((k+1:Nat):Int)=Oc.mk e [] out (c.fu+1);rw [hfu];rfl
     · rw [hst];rfl
     · unfold TZ;rw [hdn];show 2*(c.mo - (c.fu+1)).toNat+0 < _;omega
   · rw [hX] at hst;rw [show Run.of m (KW h g fr inp out k) .lost= .stuck (20,(KW h g fr inp out k).place m) from rfl,rM] at hst;exact .inr ⟨_,hst,rfl,hS.sp⟩
theorem ZC.bad (hz:(eE m inp fuel pages).1≠0)(hs:ZC m inp fuel pages cx L u w):u= .tuple #[.pointer none,Lg (eE m inp fuel pages)]∧St cx w L:=by
 rcases hs with ⟨_,h1,h2⟩|⟨h1,_⟩
 · exact ⟨h1,h2⟩
 · rw [h1] at hz;exact absurd rfl hz
theorem ZC.ok (hz:(eE m inp fuel pages).1=0)(hs:ZC m inp fuel pages cx L u w):eE m inp fuel pages=(0,0)∧m.fault.1=0∧inp.length≤200∧0≤fuel∧fuel≤20000∧0≤pages∧pages≤64∧∃c' p hp fn lv iv,u= .tuple #[.pointer (some ⟨p,0,none⟩),Lg (0,0)]∧cx.Le c'∧K8.sl c' fn m.funcs∧KM.sl c' iv inp∧St c' w (mS p (ZB hp fn lv iv fuel) [] Rs 0 ⟨[],pages⟩ [] L):=by
 rcases hs with ⟨h1,_⟩|h1
 · exact absurd hz h1
 · exact h1
def wW (o:Oc)(v1 v2:Value):Value:= .agg ⟨[.int .i64 o.e,v1,v2, .int .i64 o.fuel]⟩
theorem wX {l:List Int}:KM.ls cx (Qv l) l:=
 ⟨by unfold Qv;simp,fun k x hx=>⟨[.int .i64 x],by unfold Qv;rw [FW,hx];rfl,rfl⟩⟩
theorem eI.first {hp fn lv iv:Value}(hM:m.fault.1=0)(h0:0≤fuel):eI m (Run.all m inp fuel.toNat pages) fuel.toNat (ZB hp fn lv iv fuel) [] Rs 0 ⟨[],pages⟩ inp [] []:=
 .inl ⟨rfl,0,rfl,rfl,rfl,rfl,Gt _,(Gh h0).symm,Gt _,Jw hM inp pages,rfl⟩
end
section
variable {cx:Cx}{w:World}{L:List Res}{p:Nat}{c:RC}{fr:List RFV}{g:RFV}{s:EstS}{out inp back:List Int}{m:Module}{φ:RMap}
theorem WD {i:Nat}{f:Fun}{b:Block}(hM:m.fault.1=0)(hf:m.funcs[i]?=some f)(hb:f.blocks[j]?=some b):(∀x∈b.code,Qgb m x)∧gJ f b.fin∧b.code.length≤40∧(∀x∈b.code,x.args.length≤16):=by
 obtain ⟨q0,q1,q2⟩:=Xr hM hf hb;obtain ⟨e1,e2,e3,e4⟩:=gm q2;have hcl:=(aJ q0).2.2.2.2;have hto:∀{t:To},NM f.blocks.length t true=0→ToOK f t:=fun ht=>⟨Yo ht,by have:=kF ht;omega,by have:=kF ht;omega⟩;exact ⟨fun x hx=>⟨aC (q1 x hx),WB (q1 x hx),by have:=ez (q1 x hx);omega,by have:=ez (q1 x hx);omega⟩,⟨by have:=mO q2;omega,⟨e1,e2⟩,fun hq=>hto E1,fun hq=>hto Fz⟩,hcl,fun x hx=>by have:=ez (q1 x hx);omega⟩
theorem WE (hM:m.fault.1=0):Wn m:=fun i j f b hf hb=>by
 obtain ⟨_,h2,_,h4⟩:=WD hM hf hb;exact ⟨h4,h2.2.1⟩
theorem wY {φ:RMap}{h:HpS}:∀{l:List Frm}{l':List RFrm},Tl φ h l l'→∀b∈l',∃a∈l,gQ φ h a b
 | [],[],_,b,hb=>by simp at hb
 | a::l,b::l',hf,x,hx=>by
   rcases FX.1 hx with rfl|hx
   · exact ⟨a,by simp,hf.1⟩
   · obtain ⟨y,hy,h2⟩:=wY hf.2 x hx;exact ⟨y,by simp [hy],h2⟩
 | [],_::_,hf,_,_=>hf.elim
 | _::_,[],hf,_,_=>hf.elim
theorem kI {k:Nat}{fu:Nat}(S:SimF φ ms (Lc s g fr inp out fu))(hB:Bnd m k ms)(hM:m.fault.1=0)(hk:k≤most)(hm:most≤20000):∃f b,m.funcs[g.f]?=some f∧f.blocks[g.b]?=some b∧(∀x∈b.code,Qgb m x)∧gJ f b.fin∧g.i≤1000∧fr.length≤900∧g.vals.length≤800000∧(∀x∈fr,x.vals.length≤900000)∧out.length≤2000:=by
 obtain ⟨f,b,hf,hb,h1,h2,h3⟩:=hB.cur;obtain ⟨b1,b2,b3,_⟩:=WD hM hf hb;obtain ⟨e1,e2,e3,e4⟩:=S.g;have e1:ms.g.f=g.f:=e1;have e2:ms.g.b=g.b:=e2;have e3:ms.g.i=g.i:=e3;have e5:ms.g.vals.length=g.vals.length:=e4.1;have hsl:=hB.sl;have hln:ms.st.length=((fr.map RFV.abs).reverse).length:=rm S.st;rw [Ig,FF] at hln;have ho:ms.out=out:=S.out;rw [e1] at hf;rw [e2] at hb;refine ⟨f,b,hf,hb,b1,b2,Jo,Jo,Jo,fun x hx=>?_,by rw [←ho];exact hB.out⟩;obtain ⟨a,ha,h9⟩:=wY S.st x.abs (by show x.abs∈(fr.map RFV.abs).reverse;rw [List.mem_reverse];exact Kt hx);obtain ⟨_,_,_,_,_,h10,_⟩:=hB.st a ha;have:a.vals.length=x.vals.length:=h9.2.2.2.1;omega
def Pe (c:RC):Nat:=2*(c.mo - c.fu).toNat+ZD (.bool c.dn)
theorem wZ (hS:St cx w (blk p 66 c.cells::L)):eG w p=Pe c:=by
 unfold eG Pe;rw [kH (j:=8) hS (i:=0) rfl rfl,kH (j:=7) hS (i:=0) rfl rfl,kH (j:=9) hS (i:=0) rfl rfl];rfl
def QR (m:Module)(most:Nat)(c:RC)(fr:List RFV)(g:RFV)(s:EstS)(inp out back:List Int):Run→Prop
 | .on ms=>(∃φ,SimF φ ms (Lc s g fr inp out ms.fuel))∧back=[]∧c.dn=false∧c.e=0∧c.fu=ms.fuel∧ms.fuel≤most∧c.mo=most∧Bnd m ms.fuel ms∧XE m ms
 | .over ms e b=>out=ms.out∧back=b∧c.dn=true∧c.e=e∧c.fu=ms.fuel∧out.length≤2000∧back.length≤100000∧ms.h.left=s.p.fr.length∧s.count=ms.h.live∧(e=0→rD ms.h)
 | .stuck _=>False
theorem kJ {k:Nat}(S:SimF φ ms (Lc s g fr inp out k))(hR:m.runs.1=0)(hsh:m.Short)(hf:XE m ms):Nk (ms.tick.one m) ((Lc s g fr inp out (k+1)).one m)∧kE m ms.h (ms.tick.one m)∧(Lc s g fr inp out (k+1)).one m≠ .crash:=by
 have h1:Nk (ms.tick.one m) ((Lc s g fr inp out (k+1)).one m):=kz (WE (XF hR)) (ei S);have h2:kE m ms.h (ms.tick.one m):=wO hR hsh (wP hf);refine ⟨h1,h2,?_⟩
 cases hX:ms.tick.one m with
 | go s'=>rw [hX] at h1;obtain ⟨r',e,_⟩:=h1;rw [e];exact RStp.noConfusion
 | halt e=>rw [hX] at h1;have h1:_=RStp.halt e:=h1;rw [h1];exact RStp.noConfusion
 | done l=>rw [hX] at h1;have h1:_=RStp.done l:=h1;rw [h1];exact RStp.noConfusion
 | lost=>rw [hX] at h2;exact h2.elim
theorem QR.step (hP:QR m most c fr g s inp out back (.on ms))(hR:m.runs.1=0)(hsh:m.Short)(hi:KM.sl cx c.iv inp)(hs:qM m p c fr g s inp out (ms.fuel+1) cx (sl 2 1 c.bv []::L) u w):
 u= .tuple #[]∧∃c' fr' g' s' inp' out' back',QR m most c' fr' g' s' inp' out' back' (Run.step m most (.on ms))∧c'.fn=c.fn∧KM.sl cx c'.iv inp'∧Pe c'<Pe c∧St cx w (rS p c' fr' g' s' out' (sl 2 1 c'.bv (back'.map Qs)::L)):=by
 obtain ⟨⟨φ,S⟩, -,hdn,he0,hfu,hkm,hmo,hB,hf⟩:=hP;have hM:=XF hR;obtain ⟨O,E,hX0⟩:=kJ S hR hsh hf;have ho:ms.out=out:=S.out;have hle:ms.h.left=s.p.fr.length:=S.hr.left;have hcn:s.count=ms.h.live:=S.hr.cnt;have hol:out.length≤2000:=(by rw [←ho];exact hB.out);obtain ⟨rfl,hs⟩:=hs;refine ⟨rfl,?_⟩;rcases hs with ⟨h7,hS⟩|⟨hlt,hs⟩
 · have hst:Run.step m most (.on ms)= .over ms 7 []:=if_pos (show ms.fuel=most by omega);rw [hst];refine ⟨c.over 7,fr,g,s,inp,out,[],⟨ho.symm,rfl,rfl,rfl,hfu,hol,Gt _,hle,hcn,fun h=>by cases h⟩,rfl,hi,?_,hS⟩;unfold Pe;rw [hdn];show 2*(c.mo - c.fu).toNat+0<2*(c.mo - c.fu).toNat+1;omega
 · have hst:Run.step m most (.on ms)= .of m ms (ms.tick.one m):=if_neg (show¬ms.fuel=most by omega)
   have hB1:(ms.tick.one m).All (Bnd m (ms.fuel+1)):=KI (s:=ms.tick) (k:=ms.fuel) ⟨hB.cur,hB.st,hB.sl,hB.out⟩ hM;have hmm:2*(c.mo - (c.fu+1)).toNat+1<2*(c.mo - c.fu).toNat+1:=DB;have hmz:2*(c.mo - (c.fu+1)).toNat+0<2*(c.mo - c.fu).toNat+1:=DB;rcases hs with (⟨lv,iv,ov,fr',g',s',inp',out',hX,hi', -,hS⟩|⟨ns,bv,fr',g',hX, -,hS⟩)|⟨e,hX,fr',g',hS⟩
   · rw [hX] at O
     cases hY:ms.tick.one m with
     | lost=>rw [hY] at E;exact E.elim
     | halt e=>rw [hY] at O;exact Bp
     | done l=>rw [hY] at O;exact Bp
     | go ms'=>
       rw [hY] at O E hst hB1;rw [hst];obtain ⟨r',er,φ',S'⟩:=O;cases er;have hfl:ms'.fuel=ms.fuel+1:=q8 hY;refine ⟨c.tick.upd lv iv ov,fr',g',s',inp',out',[],⟨⟨φ',by rw [hfl];exact S'⟩,rfl,hdn,he0,?_,?_,hmo,by rw [hfl];exact hB1,E⟩,rfl,hi',?_,hS⟩
       · show c.fu+1=_;omega
       · omega
       · unfold Pe;rw [hdn];exact hmm
   · rw [hX] at O
     cases hY:ms.tick.one m with
     | lost=>rw [hY] at E;exact E.elim
     | halt e=>rw [hY] at O;exact Bp
     | go ms'=>rw [hY] at O;obtain ⟨r',er,_⟩:=O;exact absurd er RStp.noConfusion
     | done l=>
       rw [hY] at O E hst hB1;rw [hst];have hl:RStp.done ns= .done l:=O;cases hl;refine ⟨c.tick.did bv,fr',g',s,inp,out,ns,⟨ho.symm,rfl,rfl,he0,?_,hol,?_,hle,hcn,fun _=>E⟩,rfl,hi,?_,(hS.subP DF)⟩
       · show c.fu+1=((ms.fuel+1:Nat):Int);omega
       · have h8:ns.length≤8:=hB1;omega
       · unfold Pe;rw [hdn];exact hmz
   · rw [hX] at O
     cases hY:ms.tick.one m with
     | lost=>rw [hY] at E;exact E.elim
     | done l=>rw [hY] at O;exact Bp
     | go ms'=>rw [hY] at O;obtain ⟨r',er,_⟩:=O;exact absurd er RStp.noConfusion
     | halt e'=>
       rw [hY] at O hst;rw [hst];have hl:RStp.halt e= .halt e':=O;cases hl;refine ⟨c.tick.over e,fr',g',s,inp,out,[],⟨ho.symm,rfl,rfl,rfl,?_,hol,Gt _,hle,hcn,fun h0=>absurd h0 (wR hY)⟩,rfl,hi,?_,hS⟩
       · show c.fu+1=((ms.fuel+1:Nat):Int);omega
       · unfold Pe;rw [hdn];exact hmz
theorem ZE (hP:QR m most c fr g s inp out back (.on ms))(hR:m.runs.1=0)(hsh:m.Short)(hmo:most≤20000)(hfn:K8.sl cx c.fn m.funcs)(hi:KM.sl cx c.iv inp)(hS:St cx w (rS p c fr g s out (sl 2 1 c.bv (back.map Qs)::L))):
 KK Tryz.prog uu [.pointer (some ⟨p,0,none⟩)] w fun u w'=>u= .tuple #[]∧∃c' fr' g' s' inp' out' back',QR m most c' fr' g' s' inp' out' back' (Run.step m most (.on ms))∧c'.fn=c.fn∧KM.sl cx c'.iv inp'∧Pe c'<Pe c∧St cx w' (rS p c' fr' g' s' out' (sl 2 1 c'.bv (back'.map Qs)::L)):=by
 have hP':=hP;obtain ⟨⟨φ,S⟩,rfl,hdn,he0,hfu,hkm,hmo2,hB,hf⟩:=hP;obtain ⟨O,E,hX0⟩:=kJ S hR hsh hf;obtain ⟨f,b,h1,h2,k1,k2,k3,k4,k5,k6,k7⟩:=kI S hB (XF hR) hkm hmo;exact (VY (m:=m) (f:=f) (b:=b) (inp:=inp) (fu:=ms.fuel+1) hdn hfn hi h1 h2 k1 k2 k3 k4 k5 k6 k7 ⟨Jo,Jo⟩ hX0 hS).mono fun u w' hs=>hP'.step hR hsh hi hs
end
section
variable {cx:Cx}{w:World}{L:List Res}{p:Nat}{c:RC}{out:List Int}
theorem ZF (hS:St cx w (blk p 66 c.cells::L)):KK Tryz.prog Q7Y [.pointer (some ⟨p,0,none⟩)] w fun u w'=>u= .bool c.dn∧St cx w' (blk p 66 c.cells::L):=by
 refine KY KX Tryz.func36 ?_;refine' Og;refine' Oa;refine' Ly;((exact AX))
theorem Qfr {back:List Int}(h1:back.length≤1000000)(h2:out.length≤1000000)(hb:KM.sl cx c.bv back)(ho:KM.sl cx c.ov out)(hS:St cx w (blk p 66 c.cells::L)):
 KK Tryz.prog Q6e [.pointer (some ⟨p,0,none⟩)] w fun u w'=>∃c' v1 v2,cx.Le c'∧u= .agg ⟨[.int .i64 c.e,v1,v2, .int .i64 c.fu]⟩∧KM.sl c' v1 back∧KM.sl c' v2 out∧St c' w' (blk p 66 c.cells::L):=by
 obtain ⟨ep,fn,lv,iv,e0,bv,ov,fu0,mo,dn⟩:=c;dsimp only [RC.cells] at hb ho hS ⊢;obtain ⟨ab,nb,rfl⟩:=FK hb;obtain ⟨ao,no,rfl⟩:=FK ho;refine KY KX Tryz.func38 ?_;refine' RW;(intro p2 w1 hS);refine' Nb;refine' Ma;refine zv hS ?_;refine Qh hS ?_;(intro p3 w1 hS);((refine K1 hS ?_;intro w1 hS;have hS:=hS.ns));refine' MM;refine zC [(0,none),(1,none),(3,none),(4,none),(2,some (some [4])),(6,none),(5,some (some [])),(7,some none),(8,none),(9,some none)] ?_;have hS:=hS.drew;refine' UW;refine' PY;refine' Lf (c:=rN h1 hb hS);rintro v1 w1 ⟨c1,hle1,hv1,hS⟩;have ho:=GJ ho hle1;obtain ⟨a1,n1,rfl⟩:=FK hv1;refine' Ni;refine' MR;refine' My;refine' Lf (c:=rN h2 ho hS);rintro v2 w2 ⟨c2,hle2,hv2,hS⟩;have hv1:=GJ hv1 hle2;obtain ⟨a2,n2,rfl⟩:=FK hv2;refine' Nj;refine Mi hS ?_;intro w1 hS;have hS:=hS.ns;refine' Ll;refine' MR;refine' Mb;refine Mi hS ?_;intro w1 hS;have hS:=hS.ns;refine' LV;refine' Nw;((refine K1 hS ?_;intro w1 hS;have hS:=hS.ns));refine' Mu;refine Mp vw (Q2 (n:=4) Jk Jk (hS.blkAt fd) Jr Jr) ?_;((exact ⟨_,rfl,c2,_,_,hle1.trans hle2,rfl,hv1,hv2,hS.sp⟩))
end
end Go.Proofs.YteflkifmgnpbhaaGreat
namespace Go.Proofs.YteflkifmgnpbhaaGreat
open Go.Lir

@[reducible] def xb:FuncId:=147
@[reducible] def Q8Z:FuncId:=148
@[reducible] def Q90:FuncId:=149
@[reducible] def WG:FuncId:=202
@[reducible] def Qcb:FuncId:=205
@[reducible] def Q7g:FuncId:=206
@[reducible] def Q8X:FuncId:=207
@[reducible] def Q7h:FuncId:=209
@[reducible] def Q8Y:FuncId:=210
@[reducible] def xd:FuncId:=237
@[reducible] def Q8W:FuncId:=238
@[reducible] def Q7Z:FuncId:=239
@[reducible] def rO:FuncId:=240
@[reducible] def xe:FuncId:=241
@[reducible] def xf:FuncId:=242
@[reducible] def Q9O:FuncId:=243
@[reducible] def xh:FuncId:=244
@[reducible] def Q7e:FuncId:=245
@[reducible] def Q7f:FuncId:=246
@[reducible] def Q7d:FuncId:=247
@[reducible] def Q80:FuncId:=248
@[reducible] def Q9N:FuncId:=249
@[reducible] def Q81:FuncId:=250
@[reducible] def xi:FuncId:=251
@[reducible] def xj:FuncId:=261
@[reducible] def xk:FuncId:=264
end Go.Proofs.YteflkifmgnpbhaaGreat
namespace Go.Lir
section
section
variable {P:Program}{l:List GO}{Q:QT}{ρ:La}{w:World}
def WH (P : Program)(f : Field)(i : Nat): Prop := f.name ≠ "_" ∧ (∃ k, P.underlying f.type = some (.int k)) ∧ f.offset = i ∧ Tu P f.type = true
theorem xl (k:Nat){q:IntKind}{a b:Int}{kk:IntKind}(ht:P.underlying T=some (.int q)):(Op.equalIn (k+1) T (.int kk a) (.int kk b)).run P w0= .ok (a==b) w0:=by
 simp only [Op.equalIn,F7,Q8 P T _ w0 ht,FO];simp [Gk]
def SJ (P : Program)(f : Field)(i : Nat): Bool := f.name != "_" && (match P.underlying f.type with | some (.int _) => true | _ => false) && f.offset == i && Tu P f.type
theorem xm {f:Field}{i:Nat}(h:SJ P f i=true):WH P f i:=by
 unfold SJ at h;simp only [FN,bne_iff_ne,ne_eq,beq_iff_eq] at h;obtain ⟨⟨⟨h1,h2⟩,h3⟩,h4⟩:=h;refine ⟨h1,?_,h3,h4⟩;split at h2
 · rename_i k hk;exact ⟨k,hk⟩
 · cases h2
end
end
section
section
variable {P:Program}{l:List GO}{Q:QT}{ρ:La}{w:World}
theorem xq (k:Nat){f0 f1:Field}{a0 a1 b0 b1:Int}(ht:P.underlying T=some (.struct #[f0,f1]))(hh:P.stoodInHeld T=false)
 (h0:WH P f0 0)(h1:WH P f1 1):
 (Op.equalIn (k+2) T (.agg ⟨[.int .i64 a0, .int .i64 a1]⟩) (.agg ⟨[.int .i64 b0, .int .i64 b1]⟩)).run P w0= .ok (a0==b0 && a1==b1) w0:=by
 obtain ⟨n0,⟨q0,u0⟩,o0,s0⟩:=h0;obtain ⟨n1,⟨q1,u1⟩,o1,s1⟩:=h1;have hp:∀(T:TypeId) (cs:Array Value) (off:Nat) (v:Value) (w:World),Tu P T=true→cs[off]?=some v→(part T cs off).run P w= .ok v w:=fun T cs off v w h hv=>nk P T cs off v w h hv;unfold Op.equalIn;simp only [F7,Q8 P T _ w0 ht,FO];simp [hh,n0,n1,o0,o1,xl _ u0,xl _ u1,hp _ _ _ _ _ s0,hp _ _ _ _ _ s1];by_cases e0:a0=b0<;>by_cases e1:a1=b1<;>simp [e0,e1]
def Tp (P:Program)(T:TypeId):Prop:=∃f0 f1:Field,P.underlying T=some (.struct #[f0,f1])∧P.stoodInHeld T=false∧P.eqGuardType P.depth T=false∧WH P f0 0∧WH P f1 1
def bB (P:Program)(T:TypeId):Bool:=match P.underlying T with
 | some (.struct fs)=>match fs.toList with
   | [f0,f1]=> !P.stoodInHeld T && !P.eqGuardType P.depth T && SJ P f0 0 && SJ P f1 1
   | _=>false
 | _=>false
theorem ZG (h:bB P T=true):Tp P T:=by
 unfold bB at h;split at h
 · rename_i fs hu
   split at h
   · rename_i f0 f1 hf;simp only [FN,G7] at h;obtain ⟨⟨⟨h1,h2⟩,h3⟩,h4⟩:=h;have:fs=#[f0,f1]:=(by apply Io;exact hf);subst this;exact ⟨f0,f1,hu,h1,h2,xm h3,xm h4⟩
   · cases h
 · cases h
theorem xt (a0 a1 b0 b1:Int):(a0==b0 && a1==b1)=decide ((a0,a1)=(b0,b1)):=by
 rw [Bool.eq_iff_iff];simp
theorem kK {x y:Operand}{a b:Int×Int}(hT:Tp P T)(hx:ρ.ev x= .agg ⟨[.int .i64 a.1, .int .i64 a.2]⟩)(hy:ρ.ev y= .agg ⟨[.int .i64 b.1, .int .i64 b.2]⟩)
 (h:Q0 P l Q (upd ρ d (.bool (decide (a=b)))) w):Q0 P (⟨none, .bin d .eql T x y⟩::l) Q ρ w:=by
 obtain ⟨f0,f1,ht,hh,hg,h0,h1⟩:=hT;exact ⟨.bool (decide (a=b)),fun w0=>by rw [hx,hy];simp only [F7,run_eqGuard_agg w0 .eql T x y _ _ hg,FO,run_eql_struct,xq 9998 ht hh h0 h1,xt],h⟩
theorem kL {x y:Operand}{a b:Int×Int}(hT:Tp P T)(hx:ρ.ev x= .agg ⟨[.int .i64 a.1, .int .i64 a.2]⟩)(hy:ρ.ev y= .agg ⟨[.int .i64 b.1, .int .i64 b.2]⟩)
 (h:Q0 P l Q (upd ρ d (.bool (!decide (a=b)))) w):Q0 P (⟨none, .bin d .neq T x y⟩::l) Q ρ w:=by
 obtain ⟨f0,f1,ht,hh,hg,h0,h1⟩:=hT;exact ⟨.bool (!decide (a=b)),fun w0=>by rw [hx,hy];simp only [F7,run_eqGuard_agg w0 .neq T x y _ _ hg,FO,run_neq_struct,xq 9998 ht hh h0 h1,xt],h⟩
theorem ZH {x y:Operand}{a:Int×Int}(hT:Tp P T)(hx:ρ.ev x= .agg ⟨[.int .i64 a.1, .int .i64 a.2]⟩)(hy:ρ.ev y= .agg ⟨[.int .i64 a.1, .int .i64 a.2]⟩)
 (h:Q0 P l Q (upd ρ d (.bool true)) w):Q0 P (⟨none, .bin d .eql T x y⟩::l) Q ρ w:=kK hT hx hy (by rw [decide_eq_true rfl];exact h)
theorem rP {x y:Operand}{a:Int×Int}(hT:Tp P T)(hx:ρ.ev x= .agg ⟨[.int .i64 a.1, .int .i64 a.2]⟩)(hy:ρ.ev y= .agg ⟨[.int .i64 a.1, .int .i64 a.2]⟩)
 (h:Q0 P l Q (upd ρ d (.bool false)) w):Q0 P (⟨none, .bin d .neq T x y⟩::l) Q ρ w:=kL hT hx hy (by rw [decide_eq_true rfl];exact h)
theorem St.freeze1 {r:Rep α}{c:Cx}{T b:Nat}{cs:List Value}{x:α}(h:St c w (blk b T cs::L))(hr:r.at c cs x):∃c',c.Le c'∧St c' w L∧r.sl c' (.slice (some ⟨b,0,none⟩) 1 1) [x]:=by
 have h1:St c w (sl T r.es (.slice (some ⟨b,0,none⟩) 1 1) [cs]::L):=h.slOf (css:=[cs]) Js (by intro q hq;simp at hq;subst hq;exact r.len hr) rfl;exact h1.freezeL (r:=r) ((GU r _ _).push hr) rfl Js
abbrev Ge:=@St.freeze1
end
end
end Go.Lir
namespace Go.Proofs.YteflkifmgnpbhaaGreat
open Go.Lir
attribute [local irreducible] LC.wp Q0 Qr Qj Lo QJ LO.wp Q6 Calls
attribute [local irreducible] K4 Mq MY NG
variable {cx:Cx}{w:World}{L:List Res}
def ZI (hp:Nat)(h:List Bool):Res:=Res.ex fun v=>star (blk hp 296 [v]) (sl 4 1 v (h.map QH))
theorem gT {hp:Nat}{h:List Bool}(hS:St cx w (ZI hp h::L)):∃v,St cx w (blk hp 296 [v]::sl 4 1 v (h.map QH)::L):=by
 obtain ⟨v,hS⟩:=St.ex hS;exact ⟨v,hS.star⟩
theorem eJ {hp:Nat}{h:List Bool}{v:Value}(hS:St cx w (blk hp 296 [v]::sl 4 1 v (h.map QH)::L)):St cx w (ZI hp h::L):=Kw v hS.star'
theorem WI {hp:Nat}{h:List Bool}{v:Value}{r:Int}(hS:St cx w (blk hp 296 [v]::sl 4 1 v (h.map QH)::L)):
 KK Tryz.prog xj [.pointer (some ⟨hp,0,none⟩), .int .i64 r] w fun u w'=>u= .bool (K4 h r)∧St cx w' (blk hp 296 [v]::sl 4 1 v (h.map QH)::L):=by
 ((have hlen:(h.map QH).length=h.length:=FF _;refine KY KX Tryz.func261 ?_;refine' Og;first|(refine' MV)|(refine' Nu)|(refine' Ag<;>intro hc));all_goals (refine' Ss;refine' Nf;(first|refine' KP|(refine' KQ;(first|(refine Qx hS hel1 rfl OD (Ns QH h false Jo) rfl ?_)|(refine zl hS ?_))));refine' Yx;first|refine' KP|(refine' KQ;(first|(refine' LG)|(refine' LM)|(refine' Ae<;>intro hc)))));all_goals (refine' PE;refine' aR;refine' Nf;(first|refine' KP|(refine' KQ;(first|(refine Qx hS hel1 rfl OD (Ns QH h false Jo) rfl ?_)|(refine zl hS ?_))));refine' MT;(first|refine' KP|(refine' KQ;(first|(refine' N9;intro b1 o1 cs1 x1 hat1 hx1 he1;obtain rfl:=QB he1)|(refine Rf hS ?_;intro b1 o1 hel1)|(refine aO hS ?_;intro b1 o1 hel1))));(first|refine' KP|(refine' KQ;(first|(refine Qx hS hel1 rfl OD (Ns QH h false Jo) rfl ?_)|(refine zl hS ?_)|(refine S4 hS ?_)|(refine cU hS ?_)|(refine jj hS ?_)|(refine jk hS ?_))));refine' Xx;(exact Au))
theorem kM {hp:Nat}{h:List Bool}{v:Value}(hS:St cx w (blk hp 296 [v]::sl 4 1 v (h.map QH)::L)):
 KK Tryz.prog xe [.pointer (some ⟨hp,0,none⟩)] w fun u w'=>u= .int .i64 h.length∧St cx w' (blk hp 296 [v]::sl 4 1 v (h.map QH)::L):=by
 have hlen:(h.map QH).length=h.length:=FF _;refine KY KX Tryz.func241 ?_;refine' Og;refine' Oa;refine' aT;refine' Ly;(((refine ⟨_,rfl,?_,hS.sp⟩;(rfl);done)))
theorem WJ {hp:Nat}{h:List Bool}{v:Value}(hl:h.length≤16)(hS:St cx w (blk hp 296 [v]::sl 4 1 v (h.map QH)::L)):
 KK Tryz.prog xi [.pointer (some ⟨hp,0,none⟩)] w fun u w'=>∃c',cx.Le c'∧KM.sl c' u (Mq h)∧St c' w' (blk hp 296 [v]::sl 4 1 v (h.map QH)::L):=by
 have hlen:(h.map QH).length=h.length:=FF _;refine KY KX Tryz.func251 ?_;refine' Mf;refine' Ob;refine' Ma;(first|(refine Qx hS Ja rfl NT (Ns QH h false Jo) rfl ?_)|(refine zl hS ?_));refine' aT;refine' Ry;have hS:=Ic (T:=3) (es:=1) hS;refine zo [9,10] (fun A ρ' w'=>∃(j:Nat) (vo:Value) (co:List (List Value)),KR ρ' A∧KR ρ' [(11, .int .i64 j),(3,vo)]∧(j≤h.length)∧(KM.ls cx co (NG h j))∧St cx w' (sl 3 1 vo co::blk hp 296 [v]::sl 4 1 v (h.map QH)::L)) (fun ρ' _=>(h.length - iv (ρ' 11)).toNat) ?_ ?_
 · exact Dv
 rintro ρ w1 ⟨j,vo,co,hA,hρ,hj,hls,hS⟩;obtain ⟨ρ,rfl⟩:=KS hA hρ;have hll:=oM h j;have hsu:=lP h j;refine' NV;refine' Ab<;>intro hc
 · skip
   refine' MF;refine' Ls;(first|(refine' N9;intro b1 o1 cs1 x1 hat1 hx1 he1;obtain rfl:=QB he1)|(refine Rf hS ?_;intro b1 o1 hel1));(first|(refine Qx hS Ja rfl NT (Ns QH h false Jo) rfl ?_)|(refine zl hS ?_)|(refine S4 hS ?_)|(refine cU hS ?_)|(refine jj hS ?_)|(refine jk hS ?_));refine' zm;refine' K5;refine' Mf;refine' Aa<;>intro hc
   · skip;refine' NJ;refine LK hS [_] ?_;intro b1 w1 hS;refine za SC Tg hS ?_;intro vp1 w1 css1 hls1 hv1 hS;have hS:=hS.ns;refine' K5;refine' Rl;(exact Co)
   · skip;refine' KV;refine' Rl;(exact Ao)
 · skip;refine' U2;(refine ⟨_,rfl,?_⟩;obtain ⟨c',hle,hS',hk⟩:=GF (r:=KM) hS hls rfl Jo;refine ⟨c',hle,?_,hS'⟩;rw [show j=h.length by omega] at hk;unfold Mq;exact hk)
theorem eK {hp:Nat}{h:List Bool}{v:Value}(hl:h.length<16)(hS:St cx w (blk hp 296 [v]::sl 4 1 v (h.map QH)::L)):
 KK Tryz.prog xf [.pointer (some ⟨hp,0,none⟩)] w fun u w'=>u= .int .i64 h.length∧∃v',St cx w' (blk hp 296 [v']::sl 4 1 v' ((h++[true]).map QH)::L):=by
 have hlen:(h.map QH).length=h.length:=FF _;refine KY KX Tryz.func242 ?_;refine' Ob;refine' Oa;refine' aT;refine' aS;refine' Sy;refine' Lu;refine' Oa;refine LK hS [_] ?_;intro b1 w1 hS;((refine Ow jE (.inl mj) hS vw vw fd (hS.srcB1 fd rfl) DE ?_;intro vp w2 hS;have hS:=hS.ns;rw [show h.map QH++[[Value.bool true]]=(h++[true]).map QH by simp [QH]] at hS));refine' Ma;((refine Mi hS ?_;intro w1 hS;have hS:=hS.ns));refine' MM;have hlen1:(h++[true]).length=h.length+1:=DN;refine' RZ;refine' aT;refine' PV;refine' Ly;((exact ⟨_,rfl,(by congr 1;omega),_,hS.sp⟩))
theorem eL {hp:Nat}{h:List Bool}{v:Value}{r:Int}(hr:K4 h r=true)(hS:St cx w (blk hp 296 [v]::sl 4 1 v (h.map QH)::L)):
 KK Tryz.prog xh [.pointer (some ⟨hp,0,none⟩), .int .i64 r] w fun u w'=>u= .bool true∧St cx w' (blk hp 296 [v]::sl 4 1 v ((h.set r.toNat false).map QH)::L):=by
 have hlen:(h.map QH).length=h.length:=FF _;have hr':=cE hr;refine KY KX Tryz.func244 ?_;refine' Mf;refine' Lu;refine Tw rfl (WI hS) ?_;rintro v1 w1 ⟨rfl,hS⟩;rw [hr];refine' OS;refine' Mf;refine' KN;refine' RZ;refine' zm;(first|(refine' N9;intro b1 o1 cs1 x1 hat1 hx1 he1;obtain rfl:=QB he1)|(refine Rf hS ?_;intro b1 o1 hel1)|(refine aO hS ?_;intro b1 o1 hel1));(first|(refine lL hS hel1 rfl vw OD (Ns QH h false Jo) rfl rfl ?_;intro w2 hS;have hS:=hS.ns;rw [show (QH (h.getD r.toNat false)).set 0 (Value.bool false)=QH false from rfl,map_set] at hS)|(refine Mi hS ?_;intro w1 hS;have hS:=hS.ns)|(refine uh hS ?_;intro w1 hS;have hS:=hS.ns)|(refine ui hS ?_;intro w1 hS;have hS:=hS.ns));refine' Nb;refine' Ly;(refine ⟨_,rfl,?_,hS.sp⟩;(rfl);done)
theorem eM {hp:Nat}{h:List Bool}{v v2:Value}{xs:List Int}(hl:h.length≤16)(hx:KM.sl cx v2 xs)(hS:St cx w (blk hp 296 [v]::sl 4 1 v (h.map QH)::L)):
 KK Tryz.prog xk [.pointer (some ⟨hp,0,none⟩),v2] w fun u w'=>u= .int .i64 (MY h [] xs)∧∃c',cx.Le c'∧St c' w' (blk hp 296 [v]::sl 4 1 v (h.map QH)::L):=by
 have hlen:(h.map QH).length=h.length:=FF _;have hxl:=hx.len;refine KY KX Tryz.func264 ?_;refine' Og;refine' Ma;(first|(refine Qx hS hel2 rfl fd hgetS rfl ?_)|(refine zl hS ?_));refine' aT;refine Yb jE hS rfl rfl Jo Jo ?_;intro v5 w1 hS;rw [F9] at hS;refine' S8;have hS:St cx _ (sl 4 1 v5 ((RP h []).map QH)::blk hp 296 [v]::sl 4 1 v (h.map QH)::L):=(by rw [zx,Iq];exact hS);refine' Mj;refine' PF;refine zo [0,1,5,14,15] (fun A ρ' w'=>∃(j:Nat),KR ρ' A∧KR ρ' [(16, .int .i64 j)]∧(j≤xs.length)∧(MY h [] xs=MY h (xs.take j) (xs.drop j))∧St cx w' (sl 4 1 v5 ((RP h (xs.take j)).map QH)::blk hp 296 [v]::sl 4 1 v (h.map QH)::L)) (fun ρ' _=>(xs.length - iv (ρ' 16)).toNat) ?_ ?_
 · exact BA
 rintro ρ w1 ⟨j,hA,hρ,hj,hgo,hS⟩;obtain ⟨ρ,rfl⟩:=KS hA hρ;have hln:=zw h (xs.take j);have hlm:((RP h (xs.take j)).map QH).length=h.length:=(by rw [FF,hln]);refine' NV;refine' Ab<;>intro hc
 · skip
   refine' S9;refine' zi;intro b1 o1 cs1 x1 hat1 hx1 he1;obtain rfl:=QB he1;(first|(refine Qx hS hel2 rfl fd hgetS rfl ?_)|(refine zl hS ?_)|(refine S4 hS ?_));refine' S8;rw [Q1 hx1,MY] at hgo;refine' NJ;refine Tw rfl (WI (L:=sl 4 1 v5 ((RP h (xs.take j)).map QH)::L) hS.sp) ?_;rintro v1 w1 ⟨rfl,hS⟩;refine' Oy;refine' Aa<;>intro hc
   · skip;refine' Lh;(exact By)
   · skip
     have hc1:K4 h x1=true:=D6;have hr:=cE hc1;rw [if_pos hc1] at hgo;have hsg:(RP h (xs.take j)).getD x1.toNat false=decide (x1∈xs.take j):=zz Jo Jo;have hgetS:=Ns QH (RP h (xs.take j)) false (m:=x1.toNat) Jo;refine' KV;refine' PB;(first|(refine' N9;intro b2 o2 cs2 x2 hat2 hx2 he2;obtain rfl:=QB he2)|(refine Rf hS ?_;intro b2 o2 hel2)|(refine aO hS ?_;intro b2 o2 hel2));(first|(refine Qx hS hel2 rfl fd hgetS rfl ?_)|(refine zl hS ?_)|(refine S4 hS ?_)|(refine cU hS ?_)|(refine jj hS ?_)|(refine jk hS ?_));refine' zn;refine' Aa<;>intro hc
     · skip;have hc2:x1∈xs.take j:=(by rw [hsg] at hc;exact of_decide_eq_true hc);rw [if_pos hc2] at hgo;refine' Lh;(first|(exact By)|(exact BJ))
     · skip;have hc2:x1∉xs.take j:=(by rw [hsg] at hc;exact of_decide_eq_false hc);rw [if_neg hc2] at hgo;refine' KV;refine' NJ;(first|(refine' N9;intro b3 o3 cs3 x3 hat3 hx3 he3;obtain rfl:=QB he3)|(refine Rf hS ?_;intro b3 o3 hel3)|(refine aO hS ?_;intro b3 o3 hel3));(first|(refine Mi hS ?_;intro w1 hS;have hS:=hS.ns)|(refine uh hS ?_;intro w1 hS;have hS:=hS.ns)|(refine ui hS ?_;intro w1 hS;have hS:=hS.ns));refine' Sw;(exact ⟨⟨j+1,zh,zh,Jo,by rw [hgo,Ux hx1],by rw [Ux hx1,←zA hr.1];exact hS.sp⟩,Qc Jo⟩)
 · skip
   (refine' L7;refine' Nx;have hie:j=xs.length:=DB;subst hie;rw [ID,List.drop_length,MY] at hgo;refine' Mj;refine' zL;refine' zm;refine Tw rfl (WJ (L:=L) hl hS.sp) ?_;rintro v5 w5 ⟨c5,hle5,hk5,hS⟩;refine' zL;first|(refine' LG)|(refine' LM)|(refine' Ae<;>intro hc));all_goals (refine' zn)
   all_goals
    first
    | (refine' KN;refine' Lh;first|(exact By)|(exact BJ)|(exact Cw))
    | (refine' KO;refine' KV)
   refine' Lh;(first|(exact By)|(exact BJ)|(exact Cw)|(exact ⟨_,rfl,(by rw [hgo,if_neg Jo]),c5,hle5,hS.sp⟩))
theorem kN {n:Int}(hS:St cx w L):KK Tryz.prog WG [.int .i64 n] w fun u w'=>∃hp v,u= .pointer (some ⟨hp,0,none⟩)∧St cx w' (blk hp 296 [v]::sl 4 1 v ((List.replicate (min n 16).toNat true).map QH)::L):=by
 refine KY KX Tryz.func202 ?_;refine' Mf;refine' K3;refine M5 [_] ?_;refine zb hS ?_;intro p5 w1 hS;refine' Pz;refine iw rfl rfl ?_;refine' Ry;have hS:=Ic (T:=4) (es:=1) hS;refine zo [3,7] (fun A ρ' w'=>∃(j:Nat) (v:Value),KR ρ' A∧KR ρ' [(8, .int .i64 j)]∧(j≤(min n 16).toNat)∧St cx w' (sl 4 1 v ((List.replicate j true).map QH)::blk p5 296 [v]::L)) (fun ρ' _=>(min n 16 - iv (ρ' 8)).toNat) ?_ ?_
 · exact ⟨0,_,zh,zh,Jo,hS.sp⟩
 rintro ρ w1 ⟨j,v,hA,hρ,hj,hS⟩;obtain ⟨ρ,rfl⟩:=KS hA hρ;refine' NV;refine' Ab<;>intro hc
 · skip;refine' MF;refine' NJ;refine' Oa;refine LK hS [_] ?_;intro b1 w1 hS;refine Ow jE (.inl mj) hS vw vw fd (hS.srcB1 fd rfl) DE ?_;intro vp w2 hS;have hS:=hS.ns;rw [show (List.replicate j true).map QH++[[Value.bool true]]=(List.replicate (j+1) true).map QH by rw [IU,Ga];rfl] at hS;refine' Ma;refine Mi hS ?_;intro w1 hS;have hS:=hS.ns;refine' Sw;(exact ⟨⟨j+1,_,zh,zh,Jo,hS.sp⟩,Qc Jo⟩)
 · skip;refine' U2;(exact Dm)
end Go.Proofs.YteflkifmgnpbhaaGreat
