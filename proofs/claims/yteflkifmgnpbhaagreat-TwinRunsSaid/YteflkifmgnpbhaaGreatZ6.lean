
/- Lemmas of the proof, part 6: contracts. -/
import Derived.Test.YteflkifmgnpbhaaGreatZ5
import Derived.Test.YteflkifmgnpbhaaGreatZ3
import Derived.Test.YteflkifmgnpbhaaGreatZ2
import Derived.Test.YteflkifmgnpbhaaGreatZ4
import Derived.Test.YteflkifmgnpbhaaGreatProg
open Go Go.Lir Go.Proofs.YteflkifmgnpbhaaGreat
variable {α:Type}{g:Frm}{st:List Frm}{kp regs l inp rs xs:List Int}{kd fuel e c pages:Int}{want ts us:List Ty}{vs:List Val}{y bb:Block}{q n i fi bi j p most d pa pb:Nat}{fn:α→Stp}{t:To}{o:Option α}{b:Stp}{s:JS}{f:Fun}{P:MS→Prop}{m:Module}{Y:Cx}{w w0:World}{L:List Res}{cs:List Value}{T:TypeId}{u v2:Value}{ms:MS}
set_option linter.unusedVariables false
set_option linter.unusedSimpArgs false
set_option maxHeartbeats 1000000
namespace Go.Lir
section
variable {p:Prop}
theorem C8 (h:p:=by simpa using hb):p:=h
theorem DS (h:p:=by cases hj;rw [FX]):p:=h
theorem DY (h:p:=by (exact Qc5 Z rfl fd rfl)):p:=h
theorem D7 (h:p:=by have:=hop.2.2.2;rwa [decide_eq_true h] at this):p:=h
theorem Ed (h:p:=by unfold Qs NK at hF;simp [e] at hF;omega):p:=h
theorem Ef (h:p:=by rw [decide_eq_true hq] at e3;exact e3):p:=h
theorem Ej (h:p:=by rw [hgo,Qin (by simpa using O)]):p:=h
theorem Ek (h:p:=by have:=hop.2.2.1;rwa [decide_eq_true h] at this):p:=h
theorem Eu (h:p:=by rw [show s.next.h.len v=s.h.len v from rfl,hq];decide):p:=h
theorem Ez (h:p:=by rw [show s.next.h.setC v n (KE c)=s.h.setC v n (KE c) from rfl,hq];decide):p:=h
theorem ED (h:p:=by rw [show s.next.h.get v n=s.h.get v n from rfl,O];decide):p:=h
theorem EE (h:p:=by rw [decide_eq_true hq] at e4;exact e4):p:=h
theorem EF (h:p:=by rw [Ty.rn_l,EZ,qw M];rfl):p:=h
end
end Go.Lir
namespace Go.Lir
section
variable {p:Prop}
theorem Ar (h:p:=by exact .inl ⟨_,rfl,hJ⟩):p:=h
theorem Az (h:p:=by exact ⟨_,rfl,by rw [hJ];rfl,Ge Z.sp hle⟩):p:=h
theorem AD (h:p:=by exact ⟨_,rfl,_,_,rfl,hle,Ry (FU _ _ _),Z.sp⟩):p:=h
theorem AQ (h:p:=by exact absurd O0q RStp.noConfusion):p:=h
theorem AS (h:p:=by exact pW Z rfl fd rfl rfl):p:=h
theorem AT (h:p:=by exact ⟨0,zh,zh,V,by rfl,Z.sp⟩):p:=h
theorem AU (h:p:=by exact ⟨_,rfl, .inr ⟨yh V V,V,V,V,V,V,V,c2,_,_,_,_,_,rfl,hle1.trans hle2,hf1,hi2,Z.sp⟩⟩):p:=h
theorem A0 (h:p:=by exact ⟨_,_,_,_,_,h.more h.ty (Ia _) same (oB hj) (Iw (Qgi Ψ _ _)) hrun hinv⟩):p:=h
theorem A4 (h:p:=by exact ⟨_,by rw [Uz V,Q5 I,Qr M],rfl,(Ff Z.sp hi)⟩):p:=h
theorem Ba (h:p:=by exact RA.more hA V rfl fun s' hs=>sJ hs):p:=h
theorem Bb (h:p:=by exact ⟨_,by rw [Qin V,hd];exact uY hx1 hx2 g1 hn,rfl,Ge (Ff Z.sp hi) hL0⟩):p:=h
theorem Bi (h:p:=by exact ⟨_,Qip V,rfl,(Ff Z.sp hi)⟩):p:=h
theorem Bj (h:p:=by exact .inl ⟨_,rfl,hJ,rfl,(Ff Z.sp hi)⟩):p:=h
theorem Bk (h:p:=by exact ⟨_,by rw [Uz V,Q5 I,Q5 M,Q5 h3,Qip (by simpa using hb)],rfl,(Ff Z.sp hi)⟩):p:=h
theorem Bp (h:p:=by exact ⟨_,rfl,by rw [hJ];rfl,Z.sp⟩):p:=h
theorem Bq (h:p:=by exact ⟨_,Qr I,rfl,(Ff Z.sp hi)⟩):p:=h
theorem Br (h:p:=by exact ⟨_,by rw [Qin V,hd];exact uZ hx1 hx2 g1 hn (by simpa using hb),rfl,Ge (Ff Z.sp hi) hL0⟩):p:=h
theorem Bv (h:p:=by exact ⟨_,a1,a2,n1,n2,p6,zh,zh,hJ6,by assumption,by assumption,Z.sp⟩):p:=h
theorem By (h:p:=by exact ⟨_,by rw [Uz V,Qr I],rfl,(Ff Z.sp hi)⟩):p:=h
theorem Bz (h:p:=by exact ⟨_,by rw [Uz V,Q5 I,Q5 M,Qr h3],rfl,(Ff Z.sp hi)⟩):p:=h
theorem BD (h:p:=by exact ⟨⟨j+1,_,_,zh,zh,V,by rw [hsu,Qin (by rw [O];decide),FX];exact hls,Z.sp⟩,Qh V⟩):p:=h
theorem BH (h:p:=by exact ⟨_,_,_,_,_,h.more p1 p2 p3 (oB hj) (Iw p4) hrun hinv⟩):p:=h
theorem BM (h:p:=by exact ⟨0,_,[],[],zh,zh,V,Gd _ _ _,rfl,rfl,by rw [FG];cases Kq s x.args<;>rfl,Z.sp⟩):p:=h
theorem BN (h:p:=by exact ⟨⟨q+1,_,_,zh,zh,V,by rw [vy];exact hls1,by rw [vy,EO,hlq];rfl,ho3,Z.sp⟩,Qh V⟩):p:=h
theorem BP (h:p:=by exact ⟨0,_,[],zh,zh,V,by unfold Na;exact Gd _ _ _,Z.sp⟩):p:=h
theorem BT (h:p:=by exact ⟨0,_,[],zh,zh,V,by unfold K5;exact Gd _ _ _,by unfold K5;rfl,V,Z.sp⟩):p:=h
theorem B6 (h:p:=by exact ⟨⟨j+1,zh,zh,V,by rw [hd,Q7 hx1,E4];exact ⟨fun h=>h.resolve_left V, .inr⟩,Z.sp⟩,Qh V⟩):p:=h
theorem B8 (h:p:=by exact ⟨_,by rw [ej,Qin hne,Qr (yi hx2 hd (by simpa using hb1) (of_decide_eq_true hb))],rfl,(Ff Z.sp hi)⟩):p:=h
theorem B9 (h:p:=by exact ⟨c2,0,MI y,vl,css,zh,zh,Fs Z,V,by rfl,hj,hls,hg0,Z.sp⟩):p:=h
theorem Ca (h:p:=by exact ⟨v::vs,by rw [Frm.args,h3,h5],Mz.cons h4 h6⟩):p:=h
theorem Cb (h:p:=by exact .inl ⟨_,rfl,rfl,V,_,_,hls2,(JP.cls hi Z.sp)⟩):p:=h
theorem Cc (h:p:=by exact ⟨_,ej.trans (Qip V),rfl,(Ff Z.sp hi)⟩):p:=h
theorem Cg (h:p:=by exact ⟨_,a3,n3,p9,zh,zh,hJ10,by assumption,Z.sp⟩):p:=h
theorem Ci (h:p:=by exact ⟨_,rfl,_,v,rfl,(by rw [show (min n 16).toNat=j by omega];exact Z.sp)⟩):p:=h
theorem Ck (h:p:=by exact ⟨Y,0, .slice none 0 0,[],[],zh,zh,Fs Z,V,rfl,by simp,Gd _ _ _,rfl,by have Z:=Z.nil (T:=115) (es:=3);exact Z.sp⟩):p:=h
theorem Cn (h:p:=by exact ⟨⟨j+1,_,_,zh,zh,V,by rw [hsu,Qip Ja];exact hls1,Z.sp⟩,Qh V⟩):p:=h
theorem Cs (h:p:=by exact ⟨⟨q+1,zh,zh,V,by rw [dD,hk,hx2];simp;omega,hne,Z.sp⟩,Qh V⟩):p:=h
theorem CE (h:p:=by exact ⟨⟨_,j+1,_,_,us++[y],zh,zh,hL0,V,by simp [hus],QcZ hd hx3 (by rw [hg,←hy,hg];rfl),by assumption,by assumption,Z.sp⟩,Qh V⟩):p:=h
end
end Go.Lir
namespace Go.Lir
section
variable {p:Prop}
theorem Ai (h:p:=by first|(exact ⟨_,zh,zh,fW V V V hx2 (by have h9:=EP (hx1.symm.trans hx2);omega),Z.sp⟩)|(exact ⟨_,zh,zh,QiV V,Z.sp⟩)):p:=h
end
end Go.Lir
namespace Go.Lir
section
def Frm.ρ (g:Frm)(r:Int):Int:=g.regs.getD r.toNat 0
def cA (f:Fun)(z:JS)(g:Frm)(k:Int):Prop:=∃r,Kt z.h r=true∧f.regs≤r∧g.ρ r=k
def yj (f:Fun)(z:JS)(g:Frm):Prop:=∀r q,Kt z.h r=true→Kt z.h q=true→f.regs≤r→f.regs≤q→g.ρ r=g.ρ q→r=q
def Pt (f:Fun)(g:Frm):List Int:=g.regs.take f.regs.toNat
structure FT (Ψ:Lz) (z:JS) (g:Frm):Prop where
 n:g.regs.length=z.h.length
 v:Mz Ψ g.vals (z.l.map fun t=>t.rn g.regs)
theorem FT.ext {Ψ Ψ':Lz}{z:JS}(h:FT Ψ z g)(he:Wo Ψ Ψ'):FT Ψ' z g:=⟨h.n,h.v.ext he⟩
inductive Wt (m:Module) (Ψ:Lz):List Frm→Fun→List Int→(Int→Prop)→Prop where
 | nil {f:Fun}(hf:m.funcs[0]?=some f):Wt m Ψ [] f [] (fun _=>False)
 | cons {c:Frm}{st:List Frm}{fc gf:Fun}{bc:Block}{z z':JS}{x:Ins}{O0q:Int→Prop}(hf:m.funcs[c.f]?=some fc) (hb:fc.blocks[c.b]?=some bc) (hi:JInv m fc z) (ht:FT Ψ z c) (hx:x.op=14)
    (hF:Qs m.funcs.length x=0) (O:Rh m z x= .ok z') (hg:m.funcs[x.k.toNat]?=some gf) (hr:(QU m fc c.f c.b bc.fin c.i z' (bc.code.drop c.i)).1=0)
    (hw:Wt m Ψ st fc (Pt fc c) O0q) (hj:yj fc z c) (hd:∀k,cA fc z c k→¬O0q k):Wt m Ψ (c::st) gf (x.regs.map c.ρ) (fun k=>cA fc z c k∨O0q k)
structure Safe (m:Module) (Ψ:Lz) (s:MS) (f:Fun) (b:Block) (z:JS) (O0q:Int→Prop):Prop where
 ty:HTy Ψ s.h
 hf:m.funcs[s.g.f]?=some f
 hb:f.blocks[s.g.b]?=some b
 run:(QU m f s.g.f s.g.b b.fin s.g.i z (b.code.drop s.g.i)).1=0
 inv:JInv m f z
 ft:FT Ψ z s.g
 wt:Wt m Ψ s.st f (Pt f s.g) O0q
 inj:yj f z s.g
 dis:∀k,cA f z s.g k→¬O0q k
 has:∀k,s.h.has k=true↔(cA f z s.g k∨O0q k)
def X5 (m:Module)(s:MS):Prop:=∃Ψ f b z O0q,Safe m Ψ s f b z O0q
section
variable {m:Module}{Ψ Ψ':Lz}{s:MS}{f:Fun}{b:Block}{z z':JS}{O0q:Int→Prop}{g:Frm}{k:Int}{t u:Ty}{v:Val}
theorem Wt.ext (h:Wt m Ψ st f kp O0q)(he:Wo Ψ Ψ'):Wt m Ψ' st f kp O0q:=by
 induction h with
 | nil hf=>exact .nil hf
 | cons hf hb hi ht hx hF O hg hr hw hj hd ih=>exact .cons hf hb hi (ht.ext he) hx hF O hg hr ih hj hd
theorem yk (h0:0≤k)(hk:k<f.regs)(hl:f.regs≤g.regs.length):g.ρ k∈Pt f g:=by
 unfold Frm.ρ Pt;have I:k.toNat<g.regs.length:=CP;rw [EL,EI I];refine EK (i:=k.toNat) ?_;rw [FE V,EI I];rfl
theorem sK {x:Ins}{gf:Fun}(O:Rh m z x= .ok z')(hg:m.funcs[x.k.toNat]?=some gf):(x.regs.length:Int)=gf.regs∧M7 z.h [] x.regs= .ok ()∧OE z x.args gf.params x.regs= .ok ()∧z'=⟨z.h,z.l++gf.results.map (MH x.regs)⟩:=by
 unfold Rh at O;rw [hg] at O;dsimp only at O;split at O
 · cases O
 · rename_i hl
   obtain ⟨_,I,O⟩:=Q8 O;obtain ⟨_,M,O⟩:=Q8 O;split at O
   · cases O
   · cases O;exact ⟨V,I,M,rfl⟩
theorem l0 (hi:JInv m f z):f.regs≤z.h.length:=by
 by_cases h:f.regs≤0
 · omega
 · have:=Tf (hi.keep (f.regs - 1) V V);omega
theorem Wt.kept (h:Wt m Ψ st f kp O0q):∀k∈kp,O0q k:=by
 induction h with
 | nil hf=>intro k hk;cases hk
 | @cons c st fc gf bc z z' x O0q hf hb hi ht hx hF O hg hr hw hj hd ih=>
   intro k hk;obtain ⟨r,hrx,rfl⟩:=Fq.1 hk;obtain ⟨_,I,_⟩:=sK O hg;have hh:=kl I r hrx;have hrg:=Tf hh;by_cases hlt:r<fc.regs
   · exact .inr (ih _ (yk hrg.1 hlt (by rw [ht.n];exact l0 hi)))
   · exact .inl ⟨r,hh,V,rfl⟩
theorem Safe.held (h:Safe m Ψ s f b z O0q){r:Int}(hr:Kt z.h r=true):s.h.has (s.g.ρ r)=true:=by
 have hrg:=Tf hr;rw [h.has];by_cases hlt:r<f.regs
 · exact .inr (h.wt.kept _ (yk hrg.1 hlt (by rw [h.ft.n];exact l0 h.inv)))
 · exact .inl ⟨r,hr,V,rfl⟩
theorem l3 (ht:FT Ψ z g)(h:Lx z k= .ok t):∃v,g.val k=some v∧VT Ψ v (t.rn g.regs):=by
 obtain ⟨h0,I⟩:=nm h;obtain ⟨v,M,h3⟩:=ht.v.get (i:=k.toNat) (t:=t.rn g.regs) (by rw [EZ,I];rfl);exact ⟨v,by unfold Frm.val;rw [Qin V];exact M,h3⟩
theorem Z2 (ht:FT Ψ z g)(h:Kx z k kd= .ok t):∃v,g.val k=some v∧VT Ψ v (t.rn g.regs)∧t.kind=kd:=by
 obtain ⟨v,I,M⟩:=l3 ht (Qjq h);exact ⟨v,I,M,(qm h).2.2⟩
theorem cB (ht:FT Ψ z g)(h:Kx z k 1= .ok t):∃n,g.num k=some n:=by
 obtain ⟨v,I,M,h3⟩:=Z2 ht h;have h4:=M.kind;rw [HF,h3] at h4;exact ⟨v.n,by unfold Frm.num;rw [I];exact Qip h4⟩
theorem Safe.at_ (h:Safe m Ψ s f b z O0q)(hj:Lu z k kd= .ok t)(hk:kd≠1):∃v,s.g.val k=some v∧VT Ψ v (t.rn s.g.regs)∧(t.rn s.g.regs).kind=kd∧v.kind=kd∧s.h.has (t.rn s.g.regs).r=true∧(t.rn s.g.regs).r=s.g.ρ t.r:=by
 obtain ⟨v,I,M⟩:=l3 h.ft (vF hj);obtain ⟨_,_,h3,h4⟩:=XJ hj;have h5:(t.rn s.g.regs).kind=kd:=(by rw [HF,h3]);have h6:(t.rn s.g.regs).r=s.g.ρ t.r:=Ty.rn_r _ V;exact ⟨v,I,M,h5,by rw [M.kind,h5],by rw [h6];exact h.held h4,h6⟩
theorem yl (ht:FT Ψ z g):∀{l:List Int}{ts:List Ty},Kq z l= .ok ts→∃vs,g.args l=some vs∧Mz Ψ vs (ts.map fun t=>t.rn g.regs)
 | [],ts,h=>by rw [Kq] at h;cases h;exact ⟨[],rfl,Iv Ψ⟩
 | k::l,ts,h=>by
   rw [Kq] at h;obtain ⟨t,I,h⟩:=Q8 h;obtain ⟨us,M,h⟩:=Q8 h;cases h;obtain ⟨v,h3,h4⟩:=l3 ht I;obtain ⟨vs,h5,h6⟩:=yl ht M;exact Ca
theorem ym (ht:FT Ψ z g){regs:List Int}:∀{l:List Int}{want:List Ty},l.length=want.length→NX z regs l want= .ok ()→∃vs,g.args l=some vs∧Mz Ψ vs (want.map fun t=>(t.rn regs).rn g.regs)
 | [],[],_,_=>⟨[],rfl,Iv Ψ⟩
 | [],_::_,hl,_=>by simp at hl
 | _::_,[],hl,_=>by simp at hl
 | k ::l,u::want,hl,h=>by
   rw [NX] at h;obtain ⟨t,I,h⟩:=Q8 h
   cases hu:u.ren regs with
   | none=>rw [hu] at h;cases h
   | some u'=>
     rw [hu] at h;dsimp only at h;split at h
     · cases h
     · rename_i he;have he:t=u':=Fk.1 he;obtain ⟨v,h3,h4⟩:=l3 ht I;obtain ⟨vs,h5,h6⟩:=ym ht (by simpa using hl) h;rw [he,Ty.rn_of u u' hu] at h4;exact Ca
theorem sL (ht:FT Ψ z g)(h:OE z l want regs= .ok ()):∃vs,g.args l=some vs∧Mz Ψ vs (want.map fun t=>(t.rn regs).rn g.regs):=by
 unfold OE at h;split at h
 · cases h
 · rename_i hl;exact ym ht V h
theorem WB (hn:g.regs.length=z.h.length)(h:∀r∈l,Kt z.h r=true):g.rgs l=some (l.map g.ρ):=by
 induction l with
 | nil=>rfl
 | cons r l ih=>
   have I:=Tf (h r (FR ..))
   have M:g.reg r=some (g.ρ r):=by
    unfold Frm.reg Frm.ρ;rw [Qin V,EL,EI V];rfl
   rw [Frm.rgs,M,ih fun q hq=>h q (FA _ hq)];rfl
theorem yn {g g':Frm}(h:g.vals=g'.vals):∀l:List Int,g.args l=g'.args l
 | []=>rfl
 | k::l=>by
   have I:g.val k=g'.val k:=(by unfold Frm.val;rw [h]);rw [Frm.args,Frm.args,I,yn h l]
theorem yo {g g':Frm}(h:g.regs=g'.regs):∀l:List Int,g.rgs l=g'.rgs l
 | []=>rfl
 | k::l=>by
   have I:g.reg k=g'.reg k:=(by unfold Frm.reg;rw [h]);rw [Frm.rgs,Frm.rgs,I,yo h l]
theorem yp (s:MS)(l:List Int):s.next.g.args l=s.g.args l:=yn (g:=s.next.g) (g':=s.g) rfl l
theorem WC (s:MS)(l:List Int):s.next.g.rgs l=s.g.rgs l:=yo (g:=s.next.g) (g':=s.g) rfl l
theorem Safe.ins (h:Safe m Ψ s f b z O0q){x:Ins}(hx:b.code[s.g.i]?=some x):Qs m.funcs.length x=0∧KG m f z x= .ok (KK m f z x).2∧(QU m f s.g.f s.g.b b.fin (s.g.i+1) (KK m f z x).2 (b.code.drop (s.g.i+1))).1=0:=by
 have I:=h.run;rw [Q7 hx] at I;by_cases O:(KK m f z x).1=0
 · rw [sB O] at I;obtain ⟨M,h3⟩:=qq O;exact ⟨M,h3,I⟩
 · rw [sC O] at I;exact absurd I O
theorem Safe.more (h:Safe m Ψ s f b z O0q){h':HpS}{out:List Int}{fuel:Nat}(hH:HTy Ψ' h')(hE:Wo Ψ Ψ')(hhas:∀q,h'.has q=s.h.has q)(hz:z'=⟨z.h,z.l++ts⟩)
 (hv:Mz Ψ' vs (ts.map fun t=>t.rn s.g.regs))(hr:(QU m f s.g.f s.g.b b.fin (s.g.i+1) z' (b.code.drop (s.g.i+1))).1=0)(hi:JInv m f z'):
 Safe m Ψ' ⟨h',⟨s.g.f,s.g.b,s.g.i+1,s.g.vals++vs,s.g.regs⟩,s.st,inp,out,fuel⟩ f b z' O0q:=by
 subst hz;refine ⟨hH,h.hf,h.hb,hr,hi,⟨h.ft.n,?_⟩,h.wt.ext hE,h.inj,h.dis,fun k=>?_⟩
 · show Mz Ψ' (s.g.vals++vs) ((z.l++ts).map fun t=>t.rn s.g.regs);rw [E7];exact (h.ft.v.ext hE).app hv
 · show h'.has k=true↔_;rw [hhas];exact h.has k
def jq (m:Module):Stp→Prop
 | .go s=>X5 m s
 | .halt _=>True
 | .done _=>True
 | .lost=>False
theorem oB (h:LJ z t= .ok z'):z'=⟨z.h,z.l++[t]⟩:=by
 obtain ⟨_,I,M⟩:=nn h;obtain ⟨a,l⟩:=z';dsimp only at I M;rw [I,M]
theorem Qgi (Ψ:Lz)(n:Int)(f:List Int):VT Ψ (KE n) (KC.rn f):=by
 unfold KC;rw [Hh];exact ⟨rfl,fun h=>absurd rfl h,fun h=>by cases h<;>rename_i h<;>cases h⟩
theorem Z3 {h:HpS}{y:Val}(hk:y.kind=1)(f:List Int):VT Ψ y (KC.rn f):=by
 unfold KC;rw [Hh];exact ⟨hk,fun h=>absurd rfl h,fun h=>by cases h<;>rename_i h<;>cases h⟩
theorem Z4 (hM:m.fault.1=0)(hm:m.Short)(h:Safe m Ψ s f b z O0q){x:Ins}(hx:b.code[s.g.i]?=some x)(hop:x.op≠3)(hop4:x.op≠4)(hop14:x.op≠14):jq m ((s.next).ins m x):=by
 obtain ⟨hF,hj,hrun⟩:=h.ins hx;have hinv:=lS hM hm h.inv hF hj;have hopr:=bu hF;have hft:=h.ft;have e0:s.next.g.num=s.g.num:=rfl;have same:∀(q:Int),s.h.has q=s.h.has q:=fun _=>rfl;generalize (KK m f z x).2=z' at hj hrun hinv;unfold MS.ins;rcases LB (op:=x.op) V V with e|e|e|e|e|e|e|e|e|e|e|e|e|e
 · rw [Qip e];rw [XK (.inl e)] at hj;exact A0
 · rw [Qin V,Qip e]
   rw [bw e] at hj;obtain ⟨t1,I,hj⟩:=Q8 hj;obtain ⟨t2,M,hj⟩:=Q8 hj;obtain ⟨a,ha⟩:=cB hft I;obtain ⟨c,O⟩:=cB hft M;rw [Q1 (show s.next.g.num x.a=some a from ha),Q1 (show s.next.g.num x.b=some c from O)];split
   · exact trivial
   · exact A0
 · exact absurd e hop
 · exact absurd e hop4
 · rw [Qin V,Qin V,Qin V,Qin V,Qip e]
   rw [iP e] at hj;unfold Uy at hj;obtain ⟨t,I,hj⟩:=Q8 hj;obtain ⟨ts,M,hj⟩:=Q8 hj;split at hj
   · cases hj
   · obtain ⟨v,g1,g2,g3,g4,g5,g6⟩:=h.at_ I Jd
     obtain ⟨vs,k1,k2⟩:=yl hft M;rw [Q1 (show s.next.g.val x.a=some v from g1),Q1 ((yp s x.args).trans k1)];unfold MS.made;rcases Sy g2 g3 g5 (LN vs) with O|O
     · rw [show s.next.h.code v (LN vs)=0 from O,Qin Jd,Qin Jd];have hreg:=g2.reg V;have hT:((Ty.mk 3 t.r ts).rn s.g.regs).r=v.region:=(by rw [Ty.rn_mr _ Jd,hreg,g6];rfl);have hK:((Ty.mk 3 t.r ts).rn s.g.regs).kind=3:=HF _ _;have hL:((Ty.mk 3 t.r ts).rn s.g.regs).l=ts.map fun t=>t.rn s.g.regs:=Ty.rn_l _ _;obtain ⟨p1,p2,p3,p4⟩:=xZ (t:=(Ty.mk 3 t.r ts).rn s.g.regs) (n:=LN vs) (x:=⟨false,vs⟩) h.ty O hT (.inl hK) (Nv.tup hK (by rw [hL];exact k2));rw [hK] at p4;exact BH
     · rw [show s.next.h.code v (LN vs)=14 from O,Qip rfl];exact trivial
 · rw [Qin V,Qin V,Qin V,Qin V,Qin V,Qip e];rw [bx e] at hj;obtain ⟨t,I,hj⟩:=Q8 hj;obtain ⟨u,M,hj⟩:=Q8 hj;obtain ⟨v,g1,g2,g3,g4,g5,g6⟩:=h.at_ I Jd;have hk0:0≤x.k:=Ed;have hu:(t.rn s.g.regs).l[x.k.toNat]?=some (u.rn s.g.regs):=EF;obtain ⟨q1,q2⟩:=fP h.ty g2 g3 g5 hk0 hu;rw [Q1 (show s.next.g.val x.a=some v from g1),Qin V,Qin (by rw [show s.next.h.get v x.k=s.h.get v x.k from rfl,q1];decide)];exact ⟨_,_,_,_,_,h.more h.ty (Ia _) same (oB hj) (Iw q2) hrun hinv⟩
 · rw [Qin V,Qin V,Qin V,Qin V,Qin V,Qin V,Qip e]
   rw [Uz e] at hj;obtain ⟨t,I,hj⟩:=Q8 hj;obtain ⟨u,M,hj⟩:=Q8 hj;obtain ⟨w,h3,hj⟩:=Q8 hj;split at hj
   · cases hj
   · rename_i huw;have huw:u=w:=Fk.1 huw;subst huw;obtain ⟨v,g1,g2,g3,g4,g5,g6⟩:=h.at_ I Jd;obtain ⟨y,y1,y2⟩:=l3 hft h3;have hk0:0≤x.k:=Ed;have hu:(t.rn s.g.regs).l[x.k.toNat]?=some (u.rn s.g.regs):=EF;have q1:=ZX h.ty g2 g3 g5 hk0 hu y;rw [Q1 (show s.next.g.val x.a=some v from g1),Qin V,Q1 (show s.next.g.val x.b=some y from y1),Qin (by rw [show s.next.h.setC v x.k y=s.h.setC v x.k y from rfl,q1];decide)];obtain ⟨p1,p2⟩:=ya (i:=x.k) (y:=y) h.ty g2 (.inl g3) g5 (fun _ u' hu'=>by rw [hu] at hu';cases hu';exact y2) (fun h4=>by omega);have hz:z'=⟨z.h,z.l++[]⟩:=DS;have hmore:=h.more (inp:=s.inp) (out:=s.out) (fuel:=s.fuel) p1 (Ia _) p2 hz (Iv Ψ) hrun hinv;rw [FX] at hmore;exact ⟨_,_,_,_,_,hmore⟩
 · rw [Qin V,Qin V,Qin V,Qin V,Qin V,Qin V,Qin V,Qip e]
   rw [bz e] at hj;obtain ⟨t,I,hj⟩:=Q8 hj;obtain ⟨t2,M,hj⟩:=Q8 hj;obtain ⟨v,g1,g2,g3,g4,g5,g6⟩:=h.at_ I Jd;obtain ⟨n,hn⟩:=cB hft M;rw [Q1 (show s.next.g.val x.a=some v from g1),Q1 (show s.next.g.num x.b=some n from hn)];by_cases hr:n<0∨15<n
   · rw [Qip hr];exact trivial
   · rw [Qin hr]
     unfold HpS.arrC HpS.arr HpS.arrV;rw [Qin hr,Qin hr,Qin hr];unfold MS.made;rcases Sy g2 g3 g5 (n+1) with O|O
     · rw [show s.next.h.code v (n+1)=0 from O,Qin Jd,Qin Jd];have hreg:=g2.reg V;have hT:((Ty.mk 4 t.r []).rn s.g.regs).r=v.region:=(by rw [Ty.rn_mr _ Jd,hreg,g6];rfl);have hK:((Ty.mk 4 t.r []).rn s.g.regs).kind=4:=HF _ _;have hth:Nv Ψ ⟨true,Ow n⟩ ((Ty.mk 4 t.r []).rn s.g.regs):=Nv.arr hK (by unfold Ow;rw [FK];omega) (fun y hy=>by unfold Ow at hy;rw [F6 hy]);obtain ⟨p1,p2,p3,p4⟩:=xZ (t:=(Ty.mk 4 t.r []).rn s.g.regs) (n:=n+1) (x:=⟨true,Ow n⟩) h.ty O hT (.inr hK) hth;rw [hK] at p4;exact BH
     · rw [show s.next.h.code v (n+1)=14 from O,Qip rfl];exact trivial
 · rw [Qin V,Qin V,Qin V,Qin V,Qin V,Qin V,Qin V,Qin V,Qip e]
   rw [bA e] at hj;obtain ⟨t,I,hj⟩:=Q8 hj;obtain ⟨t2,M,hj⟩:=Q8 hj;obtain ⟨v,g1,g2,g3,g4,g5,g6⟩:=h.at_ I Jd;obtain ⟨n,hn⟩:=cB hft M;rw [Q1 (show s.next.g.val x.a=some v from g1),Q1 (show s.next.g.num x.b=some n from hn)];unfold NP;rw [Qin V];rcases ZW h.ty g2 g3 g5 n with O|⟨O,hk⟩
   · rw [Qip (show (s.next.h.get v n).2=1 from O)];exact trivial
   · rw [Qin ED,Qin ED];exact ⟨_,_,_,_,_,h.more h.ty (Ia _) same (oB hj) (Iw (Z3 (h:=s.h) hk _)) hrun hinv⟩
 · rw [Qin V,Qin V,Qin V,Qin V,Qin V,Qin V,Qin V,Qin V,Qin V,Qip e]
   rw [bB e] at hj;obtain ⟨t,I,hj⟩:=Q8 hj;obtain ⟨t2,M,hj⟩:=Q8 hj;obtain ⟨t3,h3,hj⟩:=Q8 hj;obtain ⟨v,g1,g2,g3,g4,g5,g6⟩:=h.at_ I Jd;obtain ⟨n,hn⟩:=cB hft M;obtain ⟨c,O⟩:=cB hft h3;rw [Q1 (show s.next.g.val x.a=some v from g1),Q1 (show s.next.g.num x.b=some n from hn),Q1 (show s.next.g.num x.c=some c from O)];unfold NP;rw [Qin V];rcases Ws h.ty g2 g3 g5 n (y:=KE c) rfl with hq|hq
   · rw [Qin Ez,Qin Ez];obtain ⟨p1,p2⟩:=ya (i:=n) (y:=KE c) h.ty g2 (.inr g3) g5 (fun h3=>by omega) (fun _=>rfl);have hz:z'=⟨z.h,z.l++[]⟩:=DS;have hmore:=h.more (inp:=s.inp) (out:=s.out) (fuel:=s.fuel) p1 (Ia _) p2 hz (Iv Ψ) hrun hinv;rw [FX] at hmore;exact ⟨_,_,_,_,_,hmore⟩
   · rw [Qip (show s.next.h.setC v n (KE c)=1 from hq)];exact trivial
 · rw [Qin V,Qin V,Qin V,Qin V,Qin V,Qin V,Qin V,Qin V,Qin V,Qin V,Qip e];rw [dz e] at hj;obtain ⟨t,I,hj⟩:=Q8 hj;obtain ⟨v,g1,g2,g3,g4,g5,g6⟩:=h.at_ I Jd;have hq:=fQ h.ty g2 g3 g5;rw [Q1 (show s.next.g.val x.a=some v from g1)];unfold NP;rw [Qin V,Qin Eu,Qin Eu];exact A0
 · rw [Qin V,Qin V,Qin V,Qin V,Qin V,Qin V,Qin V,Qin V,Qin V,Qin V,Qin V,Qip e]
   rw [XK (.inr e)] at hj;unfold MS.inS;split
   · exact trivial
   · exact A0
 · rw [Qin V,Qin V,Qin V,Qin V,Qin V,Qin V,Qin V,Qin V,Qin V,Qin V,Qin V,Qin V,Qip e]
   rw [iQ e] at hj;obtain ⟨t,I,hj⟩:=Q8 hj;obtain ⟨n,hn⟩:=cB hft I;rw [Q1 (show s.next.g.num x.a=some n from hn)];unfold MS.outS;split
   · exact trivial
   · have hz:z'=⟨z.h,z.l++[]⟩:=DS;have hmore:=h.more (inp:=s.inp) (out:=s.out++[n]) (fuel:=s.fuel) h.ty (Ia _) same hz (Iv Ψ) hrun hinv;rw [FX] at hmore;exact ⟨_,_,_,_,_,hmore⟩
 · exact absurd e hop14
end
end
section
section
variable {m:Module}{Ψ Ψ':Lz}{s:MS}{f:Fun}{b:Block}{z z':JS}{O0q:Int→Prop}{g:Frm}{k:Int}{t u:Ty}{v:Val}
theorem l4 {l:List Bool}{r:Int}(h0:0≤r)(I:l[r.toNat]?=some true):Kt l r=true:=by
 have:=(EJ.1 I).1;unfold Kt;rw [EL,I];simp;omega
theorem sM {l:List Bool}{r:Int}(h:Kt l r=true):0≤r∧l[r.toNat]?=some true:=by
 obtain ⟨h0,I,M⟩:=dw h;rw [EL] at M
 cases hx:l[r.toNat]? with
 | none=>rw [hx] at M;cases M
 | some y=>rw [hx] at M;exact ⟨h0,by rw [show y=true from M]⟩
theorem Ms {l:List Bool}{r:Int}(h:Kt (l++[true]) r=true):Kt l r=true∨r=l.length:=by
 obtain ⟨h0,I⟩:=sM h;by_cases hr:r<l.length
 · rw [EU V] at I;exact .inl (l4 h0 I)
 · have:=(EJ.1 I).1;rw [EO] at this;simp only [EY,Fc] at this;exact .inr V
theorem Qf2 {l:List Bool}{r:Int}(h:Kt l r=true):Kt (l++[true]) r=true:=xS h
theorem Qf1 (l:List Bool):Kt (l++[true]) l.length=true:=l4 V (by rw [Fa,ER (E6 _),GX];rfl)
theorem l5 {l:List Bool}{r q:Int}(h0:0≤q):Kt (l.set q.toNat false) r=true↔Kt l r=true∧r≠q:=by
 constructor
 · intro h
   obtain ⟨I,M⟩:=sM h;rw [Gb] at M;split at M
   · split at M<;>cases M
   · rename_i hne;exact ⟨l4 I M,V⟩
 · rintro ⟨I,M⟩;obtain ⟨h3,h4⟩:=sM I;exact l4 h3 (by rw [Gb,Qin V];exact h4)
theorem WD {r:Int}:Kt (List.replicate n true) r=true↔0≤r∧r<n:=by
 constructor
 · intro h;have:=Tf h;rw [FK] at this;exact this
 · rintro ⟨I,M⟩;exact l4 I (by rw [GI,Qip V])
theorem yq {a:Int}(h:i<l.length):(l++[a]).getD i 0=l.getD i 0:=by
 rw [EL,EU h,←EL]
theorem sN {fn:Int→Int}(h:i<l.length):(l.map fn).getD i 0=fn (l.getD i 0):=by
 rw [EL,EZ,EI h,EL,EI h];rfl
theorem WE {a:Int}(hl:f.regs≤g.regs.length):Pt f ⟨g.f,g.b,i,vs,g.regs++[a]⟩=Pt f g:=by
 unfold Pt;exact Hn V
theorem Z5 (h:Safe m Ψ s f b z O0q):s.h.has s.h.l.length=false:=by
 cases hx:s.h.has s.h.l.length with
 | false=>rfl
 | true=>have:=RV hx;omega
theorem WG (hM:m.fault.1=0)(hm:m.Short)(h:Safe m Ψ s f b z O0q){x:Ins}(hx:b.code[s.g.i]?=some x)(hop:x.op=3):jq m ((s.next).ins m x):=by
 obtain ⟨hF,hj,hrun⟩:=h.ins hx;have hinv:=lS hM hm h.inv hF hj;have hrl:=l0 h.inv;have hn:=h.ft.n;unfold MS.ins;rw [Qin V,Qin V,Qip hop];unfold MS.newR;by_cases hfu:s.h.full=true
 · rw [Qip (show s.next.h.full=true from hfu)];exact trivial
 · rw [Qin (show¬s.next.h.full=true from hfu)]
   rw [iO hop] at hj;split at hj
   · cases hj
   · generalize (KK m f z x).2=z' at hj hrun hinv
     cases hj;have eo:s.h.open=⟨s.h.l++[⟨true,[],0,0⟩],s.h.left⟩:=(by unfold HpS.open;rw [Qin hfu]);have ev:s.h.openV=⟨2,s.h.l.length,0,0⟩:=(by unfold HpS.openV;rw [Qin hfu]);show X5 m ⟨s.h.open,⟨s.g.f,s.g.b,s.g.i+1,s.g.vals++[s.h.openV],s.g.regs++[s.h.openV.region]⟩,s.st,s.inp,s.out,s.fuel⟩;rw [ev]
     have hrho:∀r:Int,Kt z.h r=true→(⟨s.g.f,s.g.b,s.g.i+1,s.g.vals++[⟨2,s.h.l.length,0,0⟩],s.g.regs++[(s.h.l.length:Int)]⟩:Frm).ρ r=s.g.ρ r:=fun r hr=>by
      have:=Tf hr;unfold Frm.ρ;exact yq V
     have hrhn:(⟨s.g.f,s.g.b,s.g.i+1,s.g.vals++[⟨2,s.h.l.length,0,0⟩],s.g.regs++[(s.h.l.length:Int)]⟩:Frm).ρ z.h.length=s.h.l.length:=by
      unfold Frm.ρ;rw [Fa,←hn,EL,ER (E6 _),GX];rfl
     have hhas:∀q,s.h.open.has q=true↔(s.h.has q=true∨q=s.h.l.length):=fun q=>by
      unfold HpS.has;rw [eo,oz];by_cases hq:q=s.h.l.length
      · rw [Qip hq];exact ⟨fun _=> .inr hq,fun _=>rfl⟩
      · rw [Qin hq];exact ⟨fun hh=> .inl hh,fun hh=>hh.elim id fun hh=>absurd hh hq⟩
     have hnn:=Z5 h;refine ⟨Ψ,f,b,_,O0q,Wq h.ty,h.hf,h.hb,hrun,hinv,⟨by show (s.g.regs++[_]).length=(z.h++[true]).length;rw [EO,EO,hn];rfl,?_⟩,?_,?_,?_,fun q=>?_⟩
     · show Mz Ψ (s.g.vals++[_]) ((z.l++[Ty.mk 2 z.h.length []]).map fun t=>t.rn (s.g.regs++[(s.h.l.length:Int)]))
       rw [E7];refine J7 ?_ (Iw ?_)
       · have e9:(z.l.map fun t=>t.rn (s.g.regs++[(s.h.l.length:Int)]))=z.l.map fun t=>t.rn s.g.regs:=Gp fun t ht=>JM (n:=z.h.length) (fun i hi=>yq V) t (h.inv.wf t ht);rw [e9];exact h.ft.v
       · show VT Ψ ⟨2,s.h.l.length,0,0⟩ ((Ty.mk 2 z.h.length []).rn (s.g.regs++[(s.h.l.length:Int)]));rw [Hh];refine ⟨rfl,fun _=>?_,fun h9=>by cases h9<;>rename_i h9<;>cases h9⟩;rw [Qip (show (2:Int)≠1 by decide)];exact hrhn.symm
     · rw [show Pt f ⟨s.g.f,s.g.b,s.g.i+1,s.g.vals++[⟨2,s.h.l.length,0,0⟩],s.g.regs++[(s.h.l.length:Int)]⟩=Pt f s.g from WE V];exact h.wt
     · intro r q hr hq I M he
       rcases Ms hr with hr|rfl
       · rcases Ms hq with hq|rfl
         · rw [hrho r hr,hrho q hq] at he;exact h.inj r q hr hq I M he
         · rw [hrho r hr,hrhn] at he;have:=h.held hr;rw [he,hnn] at this;cases this
       · rcases Ms hq with hq|rfl
         · rw [hrhn,hrho q hq] at he;have:=h.held hq;rw [←he,hnn] at this;cases this
         · rfl
     · rintro q ⟨r,hr,I,rfl⟩ hO
       rcases Ms hr with hr|rfl
       · rw [hrho r hr] at hO;exact h.dis _ ⟨r,hr,I,rfl⟩ hO
       · rw [hrhn] at hO;have:=(h.has s.h.l.length).2 (.inr hO);rw [hnn] at this;cases this
     · rw [hhas,h.has]
       constructor
       · rintro ((⟨r,hr,I,rfl⟩|hO)|rfl)
         · exact .inl ⟨r,Qf2 hr,I,hrho r hr⟩
         · exact .inr hO
         · exact .inl ⟨z.h.length,Qf1 _,hrl,hrhn⟩
       · rintro (⟨r,hr,I,rfl⟩|hO)
         · rcases Ms hr with hr|rfl
           · exact .inl (.inl ⟨r,hr,I,(hrho r hr).symm⟩)
           · exact .inr hrhn
         · exact .inl (.inr hO)
theorem WH (O:s.h.can v=true)(q:Int):(s.h.shut v).has q=true↔s.h.has q=true∧q≠v.region:=by
 have e:s.h.shut v=⟨s.h.l.set v.region.toNat Rgn.none,s.h.left+(s.h.reg v.region).pages⟩:=(by unfold HpS.shut;rw [O];rfl);unfold HpS.can at O;rw [EW] at O;obtain ⟨g0,g1,g2,g3⟩:=RV O.2;unfold HpS.has;rw [e,reg_set (left':=s.h.left) V];by_cases hq:q=v.region
 · rw [Qip V];exact ⟨fun h=>(by cases h),fun h=>absurd hq h.2⟩
 · rw [Qin V];exact ⟨fun h=>⟨h,hq⟩,fun h=>h.1⟩
theorem Qia (hM:m.fault.1=0)(hm:m.Short)(h:Safe m Ψ s f b z O0q){x:Ins}(hx:b.code[s.g.i]?=some x)(hop:x.op=4):jq m ((s.next).ins m x):=by
 obtain ⟨hF,hj,hrun⟩:=h.ins hx;have hinv:=lS hM hm h.inv hF hj;unfold MS.ins;rw [Qin V,Qin V,Qin V,Qip hop];rw [dy hop] at hj;obtain ⟨t,I,hj⟩:=Q8 hj;split at hj
 · cases hj
 · rename_i hlt
   obtain ⟨v,g1,g2,g3,g4,g5,g6⟩:=h.at_ I Jd;obtain ⟨_,_,_,hh⟩:=XJ I;have hrg:=Tf hh;have hcan:=Wp g2 g3 g5;have hv:v.region=s.g.ρ t.r:=(by rw [g2.reg V,g6]);generalize (KK m f z x).2=z' at hj hrun hinv;cases hj;rw [Q1 (show s.next.g.val x.a=some v from g1),Qin (by rw [show s.next.h.can v=s.h.can v from rfl,hcan];decide)];refine ⟨Ψ,f,b,_,O0q,Wr h.ty,h.hf,h.hb,hrun,hinv,⟨by show s.g.regs.length=(z.h.set _ _).length;rw [Fh];exact h.ft.n,h.ft.v⟩,h.wt,?_,?_,fun q=>?_⟩
   · intro r q hr hq I M he;exact h.inj r q ((l5 hrg.1).1 hr).1 ((l5 hrg.1).1 hq).1 I M he
   · rintro q ⟨r,hr,I,rfl⟩ hO;exact h.dis _ ⟨r,((l5 hrg.1).1 hr).1,I,rfl⟩ hO
   · show (s.h.shut v).has q=true↔_
     rw [WH hcan,h.has,hv];constructor
     · rintro ⟨⟨r,hr,I,rfl⟩|hO,hne⟩
       · exact .inl ⟨r,(l5 hrg.1).2 ⟨hr,fun he=>hne (by rw [he])⟩,I,rfl⟩
       · exact .inr hO
     · rintro (⟨r,hr,I,rfl⟩|hO)
       · obtain ⟨h3,h4⟩:=(l5 hrg.1).1 hr;exact ⟨.inl ⟨r,h3,I,rfl⟩,fun he=>h4 (h.inj r t.r h3 hh I V he)⟩
       · exact ⟨.inr hO,fun he=>h.dis _ ⟨t.r,hh,V,he.symm⟩ hO⟩
theorem yr {f:Fun}{fi:Nat}:∀{l:List Block}{b0:Nat},(QB m f fi b0 l).1=0→∀(b:Nat) (y:Block),l[b]?=some y→(QU m f fi (b0+b) y.fin 0 (MI y) y.code).1=0
 | [],_,_,b,y,hy=>by simp at hy
 | z::l,b0,h,b,y,hy=>by
   rw [QB] at h;obtain ⟨I,M⟩:=R8 h
   cases b with
   | zero=>rw [Fm] at hy;cases hy;exact I
   | succ b=>rw [FP] at hy;rw [show b0+(b+1)=b0+1+b by omega];exact yr M b y hy
theorem yt:∀{l:List Fun}{f0:Nat},(OR m f0 l).1=0→∀(f:Nat) (x:Fun),l[f]?=some x→(QB m x (f0+f) 0 x.blocks).1=0
 | [],_,_,b,y,hy=>by simp at hy
 | z::l,b0,h,b,y,hy=>by
   rw [OR] at h;obtain ⟨I,M⟩:=R8 h
   cases b with
   | zero=>rw [Fm] at hy;cases hy;exact I
   | succ b=>rw [FP] at hy;rw [show b0+(b+1)=b0+1+b by omega];exact yt M b y hy
theorem Tk (h:m.runs.1=0):m.fault.1=0:=(R8 h).1
theorem sO (h:m.runs.1=0){x:Fun}(hx:m.funcs[fi]?=some x)(hy:x.blocks[bi]?=some y):(QU m x fi bi y.fin 0 (MI y) y.code).1=0:=by
 have I:=yt (R8 h).2 fi x hx;rw [Gi] at I;have M:=yr I bi y hy
 rwa [Gi] at M
theorem yu {regs:List Int}(hrs:rs=l.map g.ρ)(hl:(l.length:Int)=bb.regs)(h16:bb.regs≤16)(hv:Mz Ψ vs (bb.params.map fun t=>(t.rn l).rn g.regs))(hw:∀t∈bb.params,t.wrong 8 bb.regs=0):
 FT Ψ (MI bb) ⟨fi,bi,0,vs,rs⟩:=by
 subst hrs;refine ⟨by show (l.map g.ρ).length=(List.replicate (min bb.regs 16).toNat true).length;rw [EM,FK];omega,?_⟩;show Mz Ψ vs (bb.params.map fun t=>t.rn (l.map g.ρ));have e:(bb.params.map fun t=>t.rn (l.map g.ρ))=bb.params.map fun t=>(t.rn l).rn g.regs:=Gp fun t ht=>(JN (n:=bb.regs) (fun i hi=>sN V) t (hw t ht)).symm;rw [e];exact hv
theorem fX (h0:0≤bb.regs)(h16:bb.regs≤16){r:Int}:Kt (MI bb).h r=true↔0≤r∧r<bb.regs:=by
 unfold MI;dsimp only;rw [WD];omega
theorem Qib (hR:m.runs.1=0)(hm:m.Short)(h:Safe m Ψ s f b z O0q){x:Ins}(hx:b.code[s.g.i]?=some x)(hop:x.op=14):jq m ((s.next).ins m x):=by
 have hM:=Tk hR;obtain ⟨hF,hj,hrun⟩:=h.ins hx;unfold MS.ins;(repeat rw [Qin V]);rw [dA hop] at hj
 cases hg:m.funcs[x.k.toNat]? with
 | none=>unfold Rh at hj;rw [hg] at hj;cases hj
 | some gf=>
   obtain ⟨I,M,h3,h4⟩:=sK hj hg;have hall:=kl M;have hrs:=WB h.ft.n hall;obtain ⟨vs,k1,k2⟩:=sL h.ft h3;unfold MS.call;rw [hg];dsimp only;rw [Q1 ((WC s x.regs).trans hrs),Q1 ((yp s x.args).trans k1)];have hlen:=k2.1;rw [EM] at hlen;rw [Qin C4];split
   · exact trivial
   · have hfh:=UE (SU hM hg)
     obtain ⟨b0,hb0⟩:∃b0,gf.blocks[0]?=some b0:=⟨_,EI V⟩;have hbh:=bF (XL hM hg hb0).1;obtain ⟨e1,e2⟩:=hbh.2.2.2.1 rfl
     have hno:∀r,Kt (MI b0).h r=true→gf.regs≤r→False:=fun r hr hge=>by
      have:=(fX V V).1 hr;omega
     refine ⟨Ψ,gf,b0,MI b0,(fun k=>cA f z s.next.g k∨O0q k),h.ty,hg,hb0,?_,ow hm hM hg hb0,yu (regs:=[]) (g:=s.g) rfl V V (by rw [e2];exact k2) (fun t ht=>?_),?_,?_,?_,fun q=>?_⟩
     · exact sO hR hg hb0
     · exact Hg (kj hbh.2.2.1 t ht)
     · show Wt m Ψ (s.next.g::s.st) gf (Pt gf ⟨x.k.toNat,0,0,vs,x.regs.map s.g.ρ⟩) _;rw [show Pt gf ⟨x.k.toNat,0,0,vs,x.regs.map s.g.ρ⟩=x.regs.map s.next.g.ρ from Fg C4];exact .cons (c:=s.next.g) (z:=z) h.hf h.hb h.inv ⟨h.ft.n,h.ft.v⟩ hop hF hj hg hrun h.wt h.inj h.dis
     · intro r q hr _ h5 _ _;exact (hno r hr h5).elim
     · rintro q ⟨r,hr,h5,rfl⟩ _;exact hno r hr h5
     · show s.h.has q=true↔_;rw [h.has];exact ⟨fun hh=> .inr hh,fun hh=>hh.elim (fun ⟨r,hr,h5,_⟩=>(hno r hr h5).elim) id⟩
theorem Qdk (f:Fun)(z:JS)(t:To):NZ (NM f z t):=by
 unfold NM;split
 · exact .e Jd
 · split
   · exact .e Jd
   · split
     · exact .e Jd
     · split
       · rename_i h;exact .e h
       · exact dG _ _ _ _
theorem Z6 (f:Fun)(z:JS)(e:Tail):NZ (Ml f z e):=by
 unfold Ml;refine .ite (Qdk _ _ _) (.ite (.bind (UC _ _ _) fun _ _=> .bind (Qdk _ _ _) fun _ _=>Qdk _ _ _) (.bind (dG _ _ _ _) fun _ _=> .ite (.e Jd) (.o _)))
theorem Safe.fin (h:Safe m Ψ s f b z O0q)(hx:b.code[s.g.i]?=none):Np f.blocks.length b.fin=0∧Ml f z b.fin= .ok ():=by
 have I:=h.run;rw [sD (IY.1 hx),R5] at I;unfold Mc at I;split at I
 · rename_i hne;exact absurd I hne
 · rename_i he
   refine ⟨Fk.1 he,?_⟩
   cases hj:Ml f z b.fin with
   | ok u=>rfl
   | error c=>
     rw [hj] at I;dsimp only at I;have hnz:NZ (Ml f z b.fin):=Z6 _ _ _;exact absurd I (hnz c hj)
theorem sP {h:List Bool}:∀{l seen:List Int},My h seen l=0→(∀r∈l,Kt h r=true)∧l.Nodup∧(∀r∈l,r∉seen)∧(L4 h).length≤seen.length+l.length
 | [],seen,hp=>by
   rw [My] at hp;split at hp
   · cases hp
   · exact ⟨by simp,IN,by simp,by simp only [Fc];omega⟩
 | x ::l,seen,hp=>by
   rw [My] at hp;split at hp
   · rename_i hx
     split at hp
     · cases hp
     · rename_i hns
       obtain ⟨I,M,h3,h4⟩:=sP hp;refine ⟨fun r hr=>?_,GM.2 ⟨fun hm=>h3 x hm Js,M⟩,fun r hr=>?_,by simp only [EO,EY,Fc] at h4 ⊢;omega⟩
       · rcases E4.1 hr with rfl|hr
         · exact hx
         · exact I r hr
       · rcases E4.1 hr with rfl|hr
         · exact hns
         · exact fun hs=>h3 r hr (E8.2 (.inl hs))
   · cases hp
theorem WI {h:List Bool}(hp:My h [] l=0):∀r,Kt h r=true→r∈l:=by
 obtain ⟨I,M,_,h4⟩:=sP hp;intro r hr;refine Fv fun hn=>?_
 have:=dg (a:=r::l) (b:=L4 h) (GM.2 ⟨hn,M⟩) (by
  intro y hy;rcases E4.1 hy with rfl|hy
  · exact Mk.2 hr
  · exact Mk.2 (I y hy))
 simp only [EY,Fc] at this h4;omega
theorem sQ (h:NL l n=true)(hi:i<n):l[i]?=some (i:Int):=by
 unfold NL at h;rw [FI] at h;exact of_decide_eq_true (h i (Fx.2 hi))
theorem yv (h:l.Nodup){a:Int}(hi:l[i]?=some a)(hj:l[j]?=some a):i=j:=by
 have I:=(EJ.1 hi).1;exact (List.getElem?_inj I h).1 (by rw [hi,hj])
theorem sR (hR:m.runs.1=0)(hm:m.Short)(h:Safe m Ψ s f b z O0q){t:To}(hj:NM f z t= .ok ())(hb0:0≤t.block):jq m (s.to f t):=by
 have hM:=Tk hR;unfold NM at hj;unfold MS.to
 cases hb:f.blocks[t.block.toNat]? with
 | none=>rw [hb] at hj;cases hj
 | some b' =>
   rw [hb] at hj;dsimp only at hj ⊢;split at hj
   · cases hj
   · rename_i hl
     split at hj
     · cases hj
     · rename_i hk
       split at hj
       · cases hj
       · rename_i hp
         have hp:My z.h [] t.regs=0:=Fk.1 hp;have hk:NL t.regs f.regs.toNat=true:=(by simpa using hk);obtain ⟨p1,p2,_,_⟩:=sP hp;have p3:=WI hp;have hrs:=WB h.ft.n p1;obtain ⟨vs,k1,k2⟩:=sL h.ft hj;have hlen:=k2.1;rw [EM] at hlen;rw [Q1 hrs,Q1 k1,Qin C4];have hbh:=bF (XL hM h.hf hb).1;have hfh:=UE (SU hM h.hf);have hn:=h.ft.n;have hrl:=l0 h.inv
         -- the new names
         have idx:∀r:Int,Kt (MI b').h r=true→∃q,t.regs[r.toNat]?=some q∧Kt z.h q=true∧(⟨s.g.f,t.block.toNat,0,vs,t.regs.map s.g.ρ⟩:Frm).ρ r=s.g.ρ q:=fun r hr=>by
          have I:=(fX V V).1 hr;have M:t.regs[r.toNat]?=some t.regs[r.toNat]:=EI V;refine ⟨_,M,p1 _ (EK M),?_⟩;have h3:(t.regs.map s.g.ρ).getD r.toNat 0=s.g.ρ (t.regs.getD r.toNat 0):=sN V;show (t.regs.map s.g.ρ).getD r.toNat 0=_;rw [h3,EL,M];rfl
         have up:∀(r q:Int),0≤r→t.regs[r.toNat]?=some q→Kt z.h q=true→(f.regs≤r↔f.regs≤q):=fun r q h0 hq hh=>by
          have hqr:=Tf hh;constructor
          · intro hr;refine Fv fun O=>?_;have I:=sQ hk (i:=q.toNat) V;rw [show ((q.toNat:Nat):Int)=q by omega] at I;have:=yv p2 hq I;omega
          · intro hq2;refine Fv fun O=>?_;have I:=sQ hk (i:=r.toNat) V;rw [hq] at I;cases I;omega
         have own:∀q,cA f (MI b') ⟨s.g.f,t.block.toNat,0,vs,t.regs.map s.g.ρ⟩ q↔cA f z s.g q:=fun q=>by
          constructor
          · rintro ⟨r,hr,I,rfl⟩;obtain ⟨a,M,h3,h4⟩:=idx r hr;have h0:=((fX V V).1 hr).1;exact ⟨a,h3,(up r a h0 M h3).1 I,h4.symm⟩
          · rintro ⟨a,ha,I,rfl⟩;obtain ⟨i,hi⟩:=FL.1 (p3 a ha);have hil:=(EJ.1 hi).1;have hri:Kt (MI b').h (i:Int)=true:=(fX V V).2 V;obtain ⟨a2,M,h3,h4⟩:=idx i hri;rw [Fa,hi] at M;cases M;exact ⟨i,hri,(up i a V (by rw [Fa];exact hi) h3).2 I,h4⟩
         refine ⟨Ψ,f,b',MI b',O0q,h.ty,h.hf,hb,sO hR h.hf hb,ow hm hM h.hf hb,yu (regs:=[]) (g:=s.g) rfl V V k2 (fun u hu=>Hg (kj hbh.2.2.1 u hu)),?_,?_,?_,fun q=>?_⟩
         · have ek:Pt f ⟨s.g.f,t.block.toNat,0,vs,t.regs.map s.g.ρ⟩=Pt f s.g:=by
            unfold Pt;refine GC fun i=>?_;by_cases hi:i<f.regs.toNat
            · rw [FE hi,FE hi,EZ,sQ hk hi];unfold Frm.ρ;rw [EI (show i<s.g.regs.length by omega)];simp only [FJ,Fa];rw [EL,EI (show i<s.g.regs.length by omega)];rfl
            · rw [Fe DU,Fe DU]
           show Wt m Ψ s.st f (Pt f ⟨s.g.f,t.block.toNat,0,vs,t.regs.map s.g.ρ⟩) O0q;rw [ek];exact h.wt
         · intro r q hr hq I M he;obtain ⟨a,a1,a2,a3⟩:=idx r hr;obtain ⟨c,c1,c2,c3⟩:=idx q hq;have hr0:=((fX V V).1 hr).1;have hq0:=((fX V V).1 hq).1;have hac:=h.inj a c a2 c2 ((up r a hr0 a1 a2).1 I) ((up q c hq0 c1 c2).1 M) (by rw [←a3,←c3];exact he);subst hac;have:=yv p2 a1 c1;omega
         · exact fun q hq=>h.dis q ((own q).1 hq)
         · show s.h.has q=true↔_;rw [h.has];exact or_congr (own q).symm GY
theorem WJ (h:i<n):(K5 n).getD i 0=i:=by
 unfold K5;rw [EL,EZ,G5 h];rfl
theorem Z7 {l:List Val}(h:Mz Ψ l ts)(hk:∀t∈ts,t.kind=1):∃ns,KB l=some ns:=by
 induction l generalizing ts with
 | nil=>exact ⟨[],rfl⟩
 | cons v l ih=>
   cases ts with
   | nil=>have:=h.1;simp at this
   | cons t ts=>
     have I:=h.2 0 v t rfl rfl;obtain ⟨ns,M⟩:=ih (ts:=ts) ⟨by have:=h.1;simpa using this,fun i w u hw hu=>h.2 (i+1) w u (by simpa using hw) (by simpa using hu)⟩ (fun u hu=>hk u (FA _ hu));exact ⟨v.n::ns,by rw [KB,M];exact Qip (by rw [I.kind];exact hk t (FR ..))⟩
def l6 (h:HpS):Prop:=∀q,h.has q=false
def l7 (m:Module)(h:HpS):Stp→Prop
 | .go s=>X5 m s
 | .halt _=>True
 | .done _=>l6 h
 | .lost=>False
theorem oC {h:HpS}{r:Stp}(hr:jq m r)(hd:∀l,r≠ .done l):l7 m h r:=by
 cases r with
 | go s=>exact hr
 | halt e=>exact trivial
 | done l=>exact absurd rfl (hd l)
 | lost=>exact hr
theorem OS (h:∀a l,fn a≠ .done l):∀l,Ls o fn≠ .done l:=by
 cases o with
 | none=>intro l h;cases h
 | some a=>exact h a
theorem Nm {p:Prop}[Decidable p]{a b:Stp}(I:∀l,a≠ .done l)(M:∀l,b≠ .done l):∀l,(if p then a else b)≠ .done l:=by
 split
 · exact I
 · exact M
theorem Sz {s:MS}:∀l,Stp.go s≠ .done l:=fun l h=>by cases h
theorem cC:∀l,Stp.halt e≠ .done l:=fun l h=>by cases h
theorem TW:∀l,Stp.lost≠ .done l:=fun l h=>by cases h
theorem WK {f:Fun}{t:To}:∀l,s.to f t≠ .done l:=by
 unfold MS.to;split
 · exact TW
 · exact OS fun _=>OS fun _=>Nm TW Sz
theorem sS {v:Val}{k:Stp}(h:∀l,k≠ .done l):∀l,NP v e k≠ .done l:=Nm TW (Nm cC (Nm TW h))
theorem yw {h:HpS}{v:Val}:∀l,s.made e h v≠ .done l:=Nm cC (Nm TW Sz)
theorem fY {x:Ins}:∀l,s.ins m x≠ .done l:=by
 unfold MS.ins
 refine Nm Sz (Nm (OS fun _=>OS fun _=>Nm cC Sz) (Nm (Nm cC Sz) (Nm (OS fun _=>Nm TW Sz) (Nm (OS fun _=>OS fun _=>yw)
  (Nm (OS fun _=>Nm TW (Nm TW Sz)) (Nm (OS fun _=>Nm TW (OS fun _=>Nm TW Sz)) (Nm (OS fun _=>OS fun _=>Nm cC yw)
  (Nm (OS fun _=>OS fun _=>sS Sz) (Nm (OS fun _=>OS fun _=>OS fun _=>sS Sz) (Nm (OS fun _=>sS Sz) (Nm ?_ (Nm (OS fun _=>Nm cC Sz) ?_))))))))))))
 · unfold MS.inS
   split
   · exact cC
   · exact Sz
 · unfold MS.call
   split
   · exact TW
   · exact OS fun _=>OS fun _=>Nm TW (Nm cC Sz)
def Tl:Stp→Prop
 | .halt e=>e≠0
 | _=>True
theorem MY {p:Prop}[Decidable p]{a b:Stp}(I:Tl a)(M:Tl b):Tl (if p then a else b):=by
 split
 · exact I
 · exact M
theorem Ol (h:∀a,Tl (fn a)):Tl (Ls o fn):=by
 cases o with
 | none=>exact trivial
 | some a=>exact h a
theorem Ra (h:e≠0):Tl (.halt e):=h
theorem sT {v:Val}{k:Stp}(h:Tl k):Tl (NP v e k):=MY trivial (MY (Ra Jd) (MY trivial h))
theorem yx {h:HpS}{v:Val}:Tl (s.made e h v):=MY (Ra Jd) (MY trivial trivial)
theorem fZ {x:Ins}:Tl (s.ins m x):=by
 unfold MS.ins
 refine MY trivial (MY (Ol fun _=>Ol fun _=>MY (Ra Jd) trivial) (MY (MY (Ra Jd) trivial) (MY (Ol fun _=>MY trivial trivial) (MY (Ol fun _=>Ol fun _=>yx)
  (MY (Ol fun _=>MY trivial (MY trivial trivial)) (MY (Ol fun _=>MY trivial (Ol fun _=>MY trivial trivial)) (MY (Ol fun _=>Ol fun _=>MY (Ra Jd) yx)
  (MY (Ol fun _=>Ol fun _=>sT trivial) (MY (Ol fun _=>Ol fun _=>Ol fun _=>sT trivial) (MY (Ol fun _=>sT trivial) (MY ?_ (MY (Ol fun _=>MY (Ra Jd) trivial) ?_))))))))))))
 · unfold MS.inS
   split
   · exact Ra Jd
   · exact trivial
 · unfold MS.call
   split
   · exact trivial
   · exact Ol fun _=>Ol fun _=>MY trivial (MY (Ra Jd) trivial)
theorem WL {f:Fun}{t:To}:Tl (s.to f t):=by
 unfold MS.to;split
 · exact trivial
 · exact Ol fun _=>Ol fun _=>MY trivial trivial
theorem ga {f:Fun}{e:Tail}:Tl (s.fin f e):=by
 unfold MS.fin;refine MY WL (MY (Ol fun _=>MY WL WL) ?_);unfold MS.ret;refine Ol fun vs=>MY trivial ?_;split
 · exact trivial
 · split<;>exact trivial
theorem WM {s:MS}(h:s.one m= .halt e):e≠0:=by
 have I:Tl (s.one m):=by
  unfold MS.one;split
  · exact trivial
  · split
    · exact trivial
    · split
      · exact fZ
      · exact ga
 rw [h] at I;exact I
theorem WN (hR:m.runs.1=0)(hm:m.Short)(h:Safe m Ψ s f b z O0q){e:Tail}(hj:Ke (OE z e.args f.results (K5 f.regs.toNat)) (fun _=>if f.regs<(L4 z.h).length then (.error 12:Except Int Unit) else .ok ())= .ok ()):l7 m s.h (s.ret f e):=by
 have hM:=Tk hR;have hfh:=UE (SU hM h.hf);have hrl:=l0 h.inv;have hn:=h.ft.n;obtain ⟨_,I,hj⟩:=Q8 hj;split at hj
 · cases hj
 · rename_i hlt
   have hno:∀q,¬cA f z s.g q:=by
    rintro q ⟨r,hr,M,rfl⟩;exact hlt ((sx h.inv hfh.1).2 ⟨r,Mk.2 hr,M⟩)
   obtain ⟨vs,k1,k2⟩:=sL h.ft I;have hwr:∀t∈f.results,t.wrong 8 f.regs=0:=fun t ht=>Hg (kj hfh.2.2.2.1 t ht);have hlen:=k2.1;rw [EM] at hlen;unfold MS.ret;rw [Q1 k1,Qin V];have hw:=h.wt;generalize hkp:Pt f s.g=kp at hw
   cases hst:s.st with
   | nil=>
     rw [hst] at hw;dsimp only
     cases hw with
     | nil hf0=>
       have hfz:=SU hM hf0
       have hres:∀t∈f.results,t.kind=1:=by
        unfold Oo at hfz;split at hfz
        · cases hfz
        · split at hfz
          · rename_i hh;exact absurd hfz hh
          · split at hfz
            · rename_i hh;exact absurd hfz hh
            · split at hfz
              · cases hfz
              · split at hfz
                · cases hfz
                · rename_i hh;intro t ht;exact Fv fun hk=>hh ⟨rfl, .inr (.inr ⟨t,ht,hk⟩)⟩
       obtain ⟨ns,M⟩:=Z7 k2 (fun u hu=>by
        obtain ⟨t,ht,rfl⟩:=Fq.1 hu;rw [HF,HF];exact hres t ht)
       rw [M];intro q
       cases hq:s.h.has q with
       | false=>rfl
       | true => rcases (h.has q).1 hq with h3|h3
                 · exact absurd h3 (hno q)
                 · exact h3.elim
   | cons c st=>
     rw [hst] at hw;dsimp only;have hhas:=h.has
     cases hw with
     | @cons _ _ fc _ bc zc z' x O' hf hb hi ht hx hF O hg hr hw' hj' hd'=>
       obtain ⟨c1,c2,c3,rfl⟩:=sK O hg;have hall:=kl c2;have hinv:=lS (x:=x) hM hm hi hF (by rw [dA hx];exact O);refine ⟨Ψ,fc,bc,_,O',h.ty,hf,hb,hr,hinv,⟨ht.n,?_⟩,hw',hj',hd',fun q=>?_⟩
       · show Mz Ψ (c.vals++vs) ((zc.l++f.results.map (MH x.regs)).map fun t=>t.rn c.regs)
         rw [E7,List.map_map];refine J7 ht.v ?_
         have e9:(f.results.map ((fun t:Ty=>t.rn c.regs)∘MH x.regs))=f.results.map fun t=>(t.rn (K5 f.regs.toNat)).rn s.g.regs:=by
          refine Gp fun t ht2=>?_;have hw8:=hwr t ht2;have hrg:∀r∈x.regs,0≤r∧r<zc.h.length:=fun r hr=>Tf (hall r hr)
          obtain ⟨u,hu,_⟩:=Ty.ren_right (n:=zc.h.length) (f:=x.regs) (fun i hi=>by
           rw [EL,EI hi];exact hrg _ (GW hi)) t (by rw [c1];exact hw8)
          have e1:MH x.regs t=t.rn x.regs:=(by unfold MH;rw [hu];exact Ty.rn_of t u hu);show (MH x.regs t).rn c.regs=_
          rw [e1,JN (e:=x.regs.map c.ρ) (n:=f.regs) (fun i hi=>by rw [sN V];rfl) t hw8,
           JN (e:=s.g.regs) (n:=f.regs) (fun i hi=>by rw [WJ V];rfl) t hw8]
          refine JM (n:=f.regs) (fun i hi=>?_) t hw8;rw [←hkp];unfold Pt;rw [EL,FE V,←EL]
         rw [e9];exact k2
       · show s.h.has q=true↔_;rw [hhas];exact ⟨fun hh=>hh.elim (fun h3=>absurd h3 (hno q)) id,fun hh=> .inr hh⟩
theorem yy (hR:m.runs.1=0)(hm:m.Short)(h:X5 m s):l7 m s.h (s.one m):=by
 obtain ⟨Ψ,f,b,z,O0q,h⟩:=h;have hM:=Tk hR;unfold MS.one;rw [h.hf];dsimp only;rw [h.hb];dsimp only
 cases hx:b.code[s.g.i]? with
 | some x=>
   dsimp only;refine oC ?_ fY;by_cases h3:x.op=3
   · exact WG hM hm h hx h3
   · by_cases h4:x.op=4
     · exact Qia hM hm h hx h4
     · by_cases h14:x.op=14
       · exact Qib hR hm h hx h14
       · exact Z4 hM hm h hx h3 h4 h14
 | none=>
   dsimp only;obtain ⟨he,hj⟩:=h.fin hx;obtain ⟨e1,e2,e3,e4⟩:=iR he;unfold MS.fin;by_cases I:b.fin.op=1
   · rw [Qip I];rw [np I] at hj;have hd:decide (b.fin.op≠3)=true:=decide_eq_true V;rw [hd] at e3;exact oC (sR hR hm h hj (YP e3).1) WK
   · rw [Qin I]
     by_cases M:b.fin.op=2
     · rw [Qip M]
       rw [bE M] at hj;obtain ⟨t,g1,hj⟩:=Q8 hj;obtain ⟨u,g2,hj⟩:=Q8 hj;obtain ⟨n,hn⟩:=cB h.ft g1;have hd:decide (b.fin.op≠3)=true:=decide_eq_true V;have hd2:decide (b.fin.op=2)=true:=decide_eq_true M;rw [hd] at e3;rw [hd2] at e4;rw [Q1 hn];split
       · exact oC (sR hR hm h g2 (YP e3).1) WK
       · exact oC (sR hR hm h hj (YP e4).1) WK
     · rw [Qin M];rw [dE V] at hj;exact WN hR hm h hj
theorem yz (h:X5 m s):X5 m s.tick:=by
 obtain ⟨Ψ,f,b,z,O0q,h⟩:=h;exact ⟨Ψ,f,b,z,O0q,h.ty,h.hf,h.hb,h.run,h.inv,h.ft,h.wt,h.inj,h.dis,h.has⟩
theorem yA (hR:m.runs.1=0)(hm:m.Short)(inp:List Int)(pages:Int):X5 m (MS.start inp pages):=by
 have hM:=Tk hR;have hl:=qt hM;obtain ⟨f,hf⟩:∃f,m.funcs[0]?=some f:=⟨_,EI V⟩;have hfh:=UE (SU hM hf)
 have hz:f.regs=0∧f.params=[]:=by
  have hfz:=SU hM hf;unfold Oo at hfz;split at hfz
  · cases hfz
  · split at hfz
    · rename_i hh;exact absurd hfz hh
    · split at hfz
      · rename_i hh;exact absurd hfz hh
      · split at hfz
        · cases hfz
        · split at hfz
          · cases hfz
          · rename_i hh;exact ⟨Fv fun hk=>hh ⟨rfl, .inl V⟩,Fv fun hk=>hh ⟨rfl, .inr (.inl (G4.2 hk))⟩⟩
 (obtain ⟨b,hb⟩:∃b,f.blocks[0]?=some b:=⟨_,EI V⟩;have hbh:=bF (XL hM hf hb).1;obtain ⟨e1,e2⟩:=hbh.2.2.2.1 rfl;have hno:∀r,Kt (MI b).h r=true→False:=fun r hr=>by have:=(fX V V).1 hr;omega);refine ⟨fun _ _=>none,f,b,MI b,fun _=>False,⟨fun _ _ _ h=>(by cases h),fun _ _ _ h=>(by cases h)⟩,hf,hb,sO hR hf hb,ow hm hM hf hb,⟨?_,?_⟩,?_,?_,?_,fun q=>?_⟩
 · show 0=(List.replicate (min b.regs 16).toNat true).length;rw [FK];omega
 · show Mz _ [] (b.params.map _);rw [e2,hz.2];exact Iv _
 · show Wt m _ [] f (Pt f ⟨0,0,0,[],[]⟩) _;rw [show Pt f ⟨0,0,0,[],[]⟩=[] from List.take_nil];exact .nil hf
 · intro r q hr;exact (hno r hr).elim
 · rintro q ⟨r,hr,_⟩;exact (hno r hr).elim
 · constructor
   · intro hh;have:=RV hh;have hl0:(MS.start inp pages).h.l.length=0:=rfl;omega
   · rintro (⟨r,hr,_⟩|hh)
     · exact (hno r hr).elim
     · exact hh.elim
def oD (m:Module):Run→Prop
 | .on s=>X5 m s
 | .over s e _=>e=0→l6 s.h
 | .stuck _=>False
theorem yB {s:MS}(h:s.one m= .halt e):e≠0:=WM h
theorem yC (hR:m.runs.1=0)(hm:m.Short){r:Run}(h:oD m r):oD m (r.step m most):=by
 cases r with
 | on s=>
   unfold Run.step;dsimp only;split
   · intro h0;cases h0
   · have I:=yy hR hm (yz h)
     cases hr:s.tick.one m with
     | go t=>rw [hr] at I;exact I
     | halt e=>exact fun h0=>absurd h0 (yB hr)
     | done l=>rw [hr] at I;exact fun _=>I
     | lost=>rw [hr] at I;exact I
 | over s e b=>exact h
 | stuck f=>exact h
theorem yD (hR:m.runs.1=0)(hm:m.Short){most:Nat}:∀(k:Nat){r:Run},oD m r→oD m (Run.steps m most k r)
 | 0,r,h=>h
 | k+1,r,h=>yD hR hm k (yC hR hm h)
theorem QeO (hR:m.runs.1=0)(hm:m.Short)(inp:List Int)(most:Nat)(pages:Int):(Run.all m inp most pages).flt=(0,0):=by
 have h:=yD hR hm (most:=most) (most+1) (r:= .on (MS.start inp pages)) (yA hR hm inp pages);unfold Run.all
 cases hr:Run.steps m most (most+1) (.on (MS.start inp pages)) with
 | on s=>rfl
 | over s e b=>rfl
 | stuck f=>rw [hr] at h;exact h.elim
end
end
section
theorem sU {x:Ins}(h:Qs n x=0):NK n x=0:=by
 unfold Qs at h;split at h
 · cases h
 · split at h
   · cases h
   · exact h
theorem WO {x:Ins}(h:Qs n x=0)(ho:x.op=14):0≤x.k∧x.k<n:=by
 have hk:=sU h;unfold NK at hk;rw [Qin V,Qin V,Qin V,Qip ho] at hk;split at hk
 · cases hk
 · omega
theorem gd {x:Ins}(h:Qs n x=0)(ho:x.op=5):x.args.length≤8:=by
 have hk:=sU h;unfold NK at hk;rw [Qin V,Qip ho] at hk;split at hk
 · cases hk
 · omega
theorem gg {x:Ins}(h:Qs n x=0):x.regs.length≤16∧x.args.length≤8:=by
 have hk:=sU h
 have ho:¬x.odd:=by
  unfold Qs at h;split at h
  · cases h
  · split at h
    · cases h
    · assumption
 unfold Ins.odd at ho;by_cases h14:x.op=14
 · unfold NK at hk
   rw [Qin V,Qin V,Qin V,Qip h14] at hk;split at hk
   · cases hk
   · split at hk
     · cases hk
     · omega
 · have g1:fG x.op=false:=by unfold fG;exact decide_eq_false h14
   have r0:¬0<x.regs.length:=fun hh=>ho (.inr (.inr (.inr (.inr (.inr (.inl ⟨g1,hh⟩))))));by_cases h5:x.op=5
   · exact ⟨V,gd h h5⟩
   · have g2:fR x.op=false:=(by unfold fR;exact decide_eq_false V);have a0:¬0<x.args.length:=fun hh=>ho (.inr (.inr (.inr (.inr (.inr (.inr ⟨g2,hh⟩))))));exact ⟨V,V⟩
theorem l8 (h:Nh n t true=0):t.regs.length≤16∧t.args.length≤8:=by
 unfold Nh at h;rw [Qin Jd] at h;split at h
 · cases h
 · split at h
   · cases h
   · omega
theorem oE {e:Tail}(h:Np n e=0):e.args.length≤8:=by
 unfold Np at h;split at h
 · cases h
 · split at h
   · cases h
   · split at h
     · cases h
     · omega
theorem gh {g:Frm}:∀{l:List Int}{vs:List Val},g.args l=some vs→vs.length=l.length
 | [],_,h=>by cases h;rfl
 | k ::l,vs,h=>by
   rw [Frm.args] at h;split at h
   · rename_i v vs' I M;cases h;rw [EY,EY,gh M]
   · cases h
theorem sV {g:Frm}:∀{l:List Int}{vs:List Int},g.rgs l=some vs→vs.length=l.length
 | [],_,h=>by cases h;rfl
 | k ::l,vs,h=>by
   rw [Frm.rgs] at h;split at h
   · rename_i v vs' I M;cases h;rw [EY,EY,sV M]
   · cases h
theorem sW:∀{l:List Val}{ns:List Int},KB l=some ns→ns.length=l.length
 | [],_,h=>by cases h;rfl
 | v ::l,ns,h=>by
   rw [KB] at h;split at h
   · cases h
   · rename_i ns' I
     split at h
     · cases h;rw [EY,EY,sW I]
     · cases h
def Stp.All (P:MS→Prop):Stp→Prop
 | .go s=>P s
 | .done l=>l.length≤8
 | _=>True
theorem Stp.all_bind {x:Option α}{f:α→Stp}(h:∀a,x=some a→(f a).All P):(Ls x f).All P:=by
 cases x with
 | none=>exact trivial
 | some a=>exact h a rfl
abbrev E9:=@Stp.all_bind
theorem Stp.all_if {c:Prop}[Decidable c]{a:Stp}(I:c→a.All P)(M:¬c→b.All P):(if c then a else b).All P:=by
 by_cases O:c
 · rw [Qip O];exact I O
 · rw [Qin O];exact M O
abbrev E5:=@Stp.all_if
def cD (m:Module)(k:Nat)(g:Frm):Prop:=∃f b,m.funcs[g.f]?=some f∧f.blocks[g.b]?=some b∧g.i≤b.code.length∧g.vals.length≤8+8*k∧g.regs.length≤16+k
structure Bnd (m:Module) (k:Nat) (s:MS):Prop where
 cur:cD m k s.g
 st:∀x∈s.st,cD m k x
 sl:s.st.length≤39
 out:s.out.length≤2000
section
variable {m:Module}{k:Nat}{s:MS}
theorem cD.up (h:cD m k g):cD m (k+1) g:=by
 obtain ⟨f,b,I,M,h3,h4,h5⟩:=h;exact ⟨f,b,I,M,h3,V,V⟩
theorem cD.more (h:cD m k g)(hv:vs.length≤8)(hr:rs.length≤1):cD m (k+1) ⟨g.f,g.b,g.i,g.vals++vs,g.regs++rs⟩:=by
 obtain ⟨f,b,I,M,h3,h4,h5⟩:=h;refine ⟨f,b,I,M,h3,?_,?_⟩
 · show (g.vals++vs).length≤_;rw [EO];omega
 · show (g.regs++rs).length≤_;rw [EO];omega
theorem Bnd.up (h:Bnd m k s):Bnd m (k+1) s:=⟨h.cur.up,fun x hx=>(h.st x hx).up,h.sl,h.out⟩
theorem Bnd.put (h:Bnd m k s)(hv:vs.length≤8):Bnd m (k+1) (s.put vs):=by
 refine ⟨?_,fun x hx=>(h.st x hx).up,h.sl,h.out⟩;have:=h.cur.more (rs:=[]) hv Js;rw [FX] at this;exact this
theorem Bnd.hp (h:Bnd m k s)(q:HpS):Bnd m k (s.hp q):=⟨h.cur,h.st,h.sl,h.out⟩
theorem Bnd.made (h:Bnd m k s){q:HpS}{v:Val}:(s.made e q v).All (Bnd m (k+1)):=by
 unfold MS.made;exact E5 (fun _=>trivial) fun _=>E5 (fun _=>trivial) fun _=>(h.hp q).put Js
theorem jr {v:Val}{r:Stp}(h:r.All P):(NP v e r).All P:=by
 unfold NP;exact E5 (fun _=>trivial) fun _=>E5 (fun _=>trivial) fun _=>E5 (fun _=>trivial) fun _=>h
theorem Bnd.ins (h:Bnd m k s)(hM:m.fault.1=0){x:Ins}(hx:Qs m.funcs.length x=0):(s.ins m x).All (Bnd m (k+1)):=by
 obtain ⟨q1,q2⟩:=gg hx;have I:∀(v:Val) (t:MS),Bnd m k t→(Stp.go (t.put [v])).All (Bnd m (k+1)):=fun v t ht=>ht.put Js;have M:∀(q:HpS),(Stp.go (s.hp q)).All (Bnd m (k+1)):=fun q=>(h.hp q).up;unfold MS.ins
 refine E5 (fun _=>I _ _ h) fun _=>E5 (fun _=>E9 fun a _=>E9 fun b _=>E5 (fun _=>trivial) fun _=>I _ _ h) fun _=>E5 (fun _=>?_) fun _=>
  E5 (fun _=>E9 fun v _=>E5 (fun _=>trivial) fun _=>M _) fun _=>E5 (fun _=>E9 fun v _=>E9 fun l _=>h.made) fun _=>
  E5 (fun _=>E9 fun v _=>E5 (fun _=>trivial) fun _=>E5 (fun _=>trivial) fun _=>I _ _ h) fun _=>
  E5 (fun _=>E9 fun v _=>E5 (fun _=>trivial) fun _=>E9 fun y _=>E5 (fun _=>trivial) fun _=>M _) fun _=>
  E5 (fun _=>E9 fun v _=>E9 fun n _=>E5 (fun _=>trivial) fun _=>h.made) fun _=>
  E5 (fun _=>E9 fun v _=>E9 fun n _=>jr (I _ _ h)) fun _=>
  E5 (fun _=>E9 fun v _=>E9 fun n _=>E9 fun c _=>jr (M _)) fun _=>
  E5 (fun _=>E9 fun v _=>jr (I _ _ h)) fun _=>E5 (fun _=>?_) fun _=>E5 (fun _=>E9 fun n _=>?_) fun _=>?_
 · unfold MS.newR;refine E5 (fun _=>trivial) fun _=>?_;refine ⟨?_,fun x hx=>(h.st x hx).up,h.sl,h.out⟩;exact h.cur.more (vs:=[_]) (rs:=[_]) Js Js
 · unfold MS.inS
   split
   · exact trivial
   · exact I _ _ ⟨h.cur,h.st,h.sl,h.out⟩
 · unfold MS.outS;refine E5 (fun _=>trivial) fun hn=>?_;refine ⟨h.cur.up,fun x hx=>(h.st x hx).up,h.sl,?_⟩;have:=h.out;show (s.out++[n]).length≤2000;rw [EO];simp only [EY,Fc];omega
 · unfold MS.call
   split
   · exact trivial
   · rename_i g hg
     refine E9 fun rs hr=>E9 fun vs hv=>E5 (fun _=>trivial) fun _=>E5 (fun _=>trivial) fun hl=>?_;have hb:=(UE (SU hM hg)).2.2.2.2.1;obtain ⟨b,hb⟩:∃b,g.blocks[0]?=some b:=⟨_,EI V⟩;refine ⟨⟨g,b,hg,hb,FB _,?_,?_⟩,?_,?_,h.out⟩
     · show vs.length≤_;rw [gh hv];omega
     · show rs.length≤_;rw [sV hr];omega
     · intro y hy
       rcases E4.1 hy with rfl|hy
       · exact h.cur.up
       · exact (h.st y hy).up
     · have:=h.sl;show (s.g::s.st).length≤39;rw [EY];omega
theorem Bnd.to (h:Bnd m k s)(hf:m.funcs[s.g.f]?=some f)(ht:Nh f.blocks.length t true=0):(s.to f t).All (Bnd m (k+1)):=by
 obtain ⟨q1,q2⟩:=l8 ht;unfold MS.to;split
 · exact trivial
 · rename_i b hb
   refine E9 fun rs hr=>E9 fun vs hv=>E5 (fun _=>trivial) fun _=>?_;refine ⟨⟨f,b,hf,hb,FB _,?_,?_⟩,fun x hx=>(h.st x hx).up,h.sl,h.out⟩
   · show vs.length≤_;rw [gh hv];omega
   · show rs.length≤_;rw [sV hr];omega
theorem Bnd.fin (h:Bnd m k s)(hf:m.funcs[s.g.f]?=some f){e:Tail}(he:Np f.blocks.length e=0):(s.fin f e).All (Bnd m (k+1)):=by
 obtain ⟨q1,q2,q3,q4⟩:=iR he;have q5:=oE he;unfold MS.fin;refine E5 (fun e1=>?_) fun n1=>E5 (fun e2=>E9 fun n _=>E5 (fun _=>?_) fun _=>?_) fun n2=>?_
 · rw [decide_eq_true V] at q3;exact h.to hf q3
 · rw [decide_eq_true V] at q3;exact h.to hf q3
 · rw [decide_eq_true V] at q4;exact h.to hf q4
 · unfold MS.ret
   refine E9 fun vs hv=>E5 (fun _=>trivial) fun _=>?_;split
   · rename_i c st hst;have O:=h.st c (by rw [hst];exact FR);have h8:vs.length≤8:=(by rw [gh hv];omega);refine Bnd.put (s:=⟨s.h,c,st,s.inp,s.out,s.fuel⟩) ⟨O,fun x hx=>h.st x (by rw [hst];exact FA _ hx),?_,h.out⟩ h8;have:=h.sl;rw [hst,EY] at this;show st.length≤39;omega
   · split
     · exact trivial
     · rename_i ns hns;show ns.length≤8;rw [sW hns,gh hv];omega
theorem Bnd.one (h:Bnd m k s)(hM:m.fault.1=0):(s.one m).All (Bnd m (k+1)):=by
 obtain ⟨f,b,hf,hb,hi,hv,hr⟩:=h.cur;obtain ⟨-,q1,q2⟩:=XL hM hf hb;unfold MS.one;rw [hf];dsimp only;rw [hb];dsimp only
 cases hx:b.code[s.g.i]? with
 | none=>exact h.fin hf q2
 | some x=>
   have hlt:=(EJ.1 hx).1;refine Bnd.ins (s:=s.next) ⟨⟨f,b,hf,hb,?_,hv,hr⟩,h.st,h.sl,h.out⟩ hM (q1 x (EK hx));show s.g.i+1≤_;omega
abbrev J8:=@Bnd.one
theorem Bnd.start (hM:m.fault.1=0)(inp:List Int)(pages:Int):Bnd m 0 (MS.start inp pages):=by
 have hl:=qt hM;obtain ⟨f,hf⟩:∃f,m.funcs[0]?=some f:=⟨_,EI V⟩;have hb:=(UE (SU hM hf)).2.2.2.2.1;obtain ⟨b,hb⟩:∃b,f.blocks[0]?=some b:=⟨_,EI V⟩;exact ⟨⟨f,b,hf,hb,FB _,FB _,FB _⟩,fun x hx=>(by cases hx),FB _,FB _⟩
abbrev IF:=@Bnd.start
end
end
section
def Stp.Fu (k:Nat):Stp→Prop
 | .go s=>s.fuel=k
 | _=>True
theorem Stp.fu_bind {k:Nat}{x:Option α}{f:α→Stp}(h:∀a,(f a).Fu k):(Ls x f).Fu k:=by
 cases x with
 | none=>exact trivial
 | some a=>exact h a
abbrev FF:=@Stp.fu_bind
theorem Stp.fu_if {k:Nat}{c:Prop}[Decidable c]{a:Stp}(I:a.Fu k)(M:b.Fu k):(if c then a else b).Fu k:=by
 by_cases O:c
 · rw [Qip O];exact I
 · rw [Qin O];exact M
abbrev Fy:=@Stp.fu_if
section
variable {m:Module}{s:MS}
theorem yE {h:HpS}{v:Val}:(s.made e h v).Fu s.fuel:=Fy trivial (Fy trivial rfl)
theorem sX {v:Val}{r:Stp}{k:Nat}(h:r.Fu k):(NP v e r).Fu k:=Fy trivial (Fy trivial (Fy trivial h))
theorem WQ:(s.to f t).Fu s.fuel:=by
 unfold MS.to;split
 · exact trivial
 · exact FF fun _=>FF fun _=>Fy trivial rfl
theorem gi {x:Ins}:(s.ins m x).Fu s.fuel:=by
 unfold MS.ins;refine Fy rfl (Fy (FF fun _=>FF fun _=>Fy trivial rfl) (Fy (Fy trivial rfl) (Fy (FF fun _=>Fy trivial rfl) (Fy (FF fun _=>FF fun _=>yE) (Fy (FF fun _=>Fy trivial (Fy trivial rfl)) (Fy (FF fun _=>Fy trivial (FF fun _=>Fy trivial rfl)) (Fy (FF fun _=>FF fun _=>Fy trivial yE) (Fy (FF fun _=>FF fun _=>sX rfl) (Fy (FF fun _=>FF fun _=>FF fun _=>sX rfl) (Fy (FF fun _=>sX rfl) (Fy ?_ (Fy (FF fun _=>Fy trivial rfl) ?_))))))))))))
 · unfold MS.inS;split<;>first|exact trivial|rfl
 · unfold MS.call
   split
   · exact trivial
   · exact FF fun _=>FF fun _=>Fy trivial (Fy trivial rfl)
theorem gj {e:Tail}:(s.fin f e).Fu s.fuel:=by
 unfold MS.fin;refine Fy WQ (Fy (FF fun _=>Fy WQ WQ) ?_);unfold MS.ret;refine FF fun vs=>Fy trivial ?_;split
 · rfl
 · split<;>exact trivial
theorem gk:(s.one m).Fu s.fuel:=by
 unfold MS.one;split
 · exact trivial
 · split
   · exact trivial
   · split
     · exact gi (s:=s.next)
     · exact gj
theorem sJ {s':MS}(h:s.tick.one m= .go s'):s'.fuel=s.fuel+1:=by
 have:=gk (m:=m) (s:=s.tick);rw [h] at this;exact this
end
theorem yF {k:Nat}{s:MS}(hk:s.fuel<most)(he:k=s.fuel):Run.steps m most (most+1 - k) (.on s)=Run.steps m most (most+1 - (k+1)) (.of m s (s.tick.one m)):=by
 rw [show most+1 - k=(most+1 - (k+1))+1 by omega,Run.steps];rw [show Run.step m most (.on s)= .of m s (s.tick.one m) by unfold Run.step;exact Qin V]
theorem sY {k:Nat}{s:MS}(hk:s.fuel=most)(he:k=s.fuel):Run.steps m most (most+1 - k) (.on s)= .over s 7 []:=by
 rw [show most+1 - k=0+1 by omega,Run.steps];rw [show Run.step m most (.on s)= .over s 7 [] by unfold Run.step;exact Qip hk];rfl
theorem l9 {m:Module}{most:Nat}{s:MS}{e:Int}{b:List Int}:∀k,Run.steps m most k (.over s e b)= .over s e b
 | 0=>rfl
 | k+1=>by rw [Run.steps];exact l9 k
theorem sZ {m:Module}{most:Nat}{f:Mj}:∀k,Run.steps m most k (.stuck f)= .stuck f
 | 0=>rfl
 | k+1=>by rw [Run.steps];exact sZ k
def RA (m:Module)(most:Nat)(a:Run):Run→Prop
 | .on s=>a=Run.steps m most (most+1 - s.fuel) (.on s)
 | r=>a=r
section
variable {m:Module}{inp:List Int}
theorem RA.first:RA m most (Run.all m inp most pages) (.on (MS.start inp pages)):=rfl
theorem RA.seven {a:Run}{s:MS}(h:RA m most a (.on s))(hk:s.fuel=most):RA m most a (.over s 7 []):=IM h (sY hk rfl)
abbrev JO:=@RA.seven
theorem RA.more {a:Run}{s:MS}{X:Stp}(h:RA m most a (.on s))(hk:s.fuel<most)(hX:s.tick.one m=X)(hf:∀s',X= .go s'→s'.fuel=s.fuel+1):RA m most a (.of m s X):=by
 have I:=IM h (yF hk rfl);rw [hX] at I
 cases X with
 | go s'=>show a=_;rw [I,hf s' rfl];rfl
 | halt e=>exact I.trans (l9 _)
 | done l=>exact I.trans (l9 _)
 | lost=>exact I.trans (sZ _)
theorem RA.nx {a:Run}{s:MS}(hA:RA m most a (.on s))(hk:s.fuel≤most):RA m most a (Run.step m most (.on s)):=by
 by_cases h7:s.fuel=most
 · rw [show Run.step m most (.on s)= .over s 7 [] from Qip h7];exact JO hA h7
 · rw [show Run.step m most (.on s)= .of m s (s.tick.one m) from Qin h7];exact Ba
end
end
end Go.Lir
namespace Go.Proofs.YteflkifmgnpbhaaGreat
open Go.Lir
attribute [local irreducible] LC.wp Q0 Qp Qk KN Qw LO.wp Q6 Calls
section
variable {Y:Cx}{w:World}{L:List Res}{p N:Nat}{c:MC}{fr:List FrmV}{g:FrmV}{h:HpS}{out inp:List Int}{fu:Nat}{m:Module}
theorem s6 (Z:St Y w (blk p 55 c.cells::L)):Ka Tryz.prog Q72 [.pointer (some ⟨p,0,none⟩)] w fun u B=>u= .bool c.dn∧St Y B (blk p 55 c.cells::L):=by
 refine Kl Kh Tryz.func25 ?_;refine' Nk;refine' LG;refine' KQ;((exact Ap))
theorem ma (hb:l.length≤1000000){v:Value}(hl:Kb.sl Y v l)(Z:St Y w L):Ka Tryz.prog wi [v] w fun u B=>∃c',Y.Le c'∧Kb.sl c' u l∧St c' B L:=by
 obtain ⟨a,c,hv⟩:=E0 hl
 cases a with
 | none=>
   have hl0:=Ii hl hv;subst hl0;subst hv;refine Kl Kh Tryz.func65 ?_;refine' MV;refine XF (e:=2) Jk rfl rfl ?_;refine' zn
   all_goals
    first
    | (refine' Kf;refine' KM;(exact A6))
   all_goals (refine' Kn; fail "no law for buildSlice"; refine' zm; refine za Td Vq Z ?_; intro vp1 E css1 hls1 hv1 Z; have Z := Z.ns; refine' KQ; exact A3)
 | some a=>
   have hn:Kb.ls Y [] []:=Gd _ _ _;refine Kl Kh Tryz.func65 ?_;refine' MV;refine XF (e:=2) Jk hv rfl ?_;refine' RJ;refine' Kn;refine j4 Td ?_;intro v1 E hf1 hs1 hz1;have Z:=Z.new (r:=sl 2 1 v1 []) hs1 hf1 (fun b hb=>Hv hb.symm);refine' zm;((refine nD Td Vq Z ?_;intro vp1 E css1 hls1 hv1 Z;have Z:=Z.ns));refine' KQ;((obtain ⟨c3,hle3,Z,hl3⟩:=FV (r:=Kb) (l:=l) (T:=2) (es:=1) (L:=L) Z.sp hls1 rfl V;exact BA))
end
section
theorem js {x:Module}(hsm:x.Short)(hx:Lr.at Y cs x)(Z:St Y w L):Ka Tryz.prog U9 [.agg ⟨cs⟩] w fun u B=>∃c' ds,u= .agg ⟨ds⟩∧Y.Le c'∧Lr.at c' ds x∧St c' B L:=by
 obtain ⟨vf,rfl,hf⟩:=NR hx;obtain ⟨l⟩:=x;have hf:Ks.sl Y vf l:=hf;have hsl:l.length≤100000:=hsm.1;have hsm:∀f∈l,f.Short:=hsm.2;have hle:=Fs Z;refine Kl Kh Tryz.func64 ?_;refine' KU;intro p1 E Z;refine Qb Z ?_;(intro p2 E Z);refine' zn;refine' Ov;(intro p3 E Z);refine' LA;refine' L5;refine' Ob;refine zo [2,3,13,14] (fun A ρ' B=>∃(k0:Cx) (j:Nat) (u:Value) (css:List (List Value)),Ki ρ' A∧Ki ρ' [(15, .int .i64 j)]∧(Y.Le k0)∧(j≤l.length)∧(Ks.ls k0 css (l.take j))∧(oneC u=true)∧St k0 B (sl 95 4 u css::blk p3 24 [u]::blk p2 24 [.slice none 0 0]::blk p1 24 [vf]::L)) (fun ρ' _=>(l.length - iv (ρ' 15)).toNat) ?_ ?_
 · exact ⟨Y,0, .slice none 0 0,[],zh,zh,Fs Z,V,Gd _ _ _,rfl,by have Z:=Z.nil (T:=95) (es:=4);exact Z⟩
 rintro U E ⟨k0,j,u,css,hA,hρ,hle2,hj,hls,hu,Z⟩;obtain ⟨U,rfl⟩:=Km hA hρ;have hL0:=hle2;(try have hle:=hle.trans hle2);(try have hf:=hf.up hle2);refine' Nd;refine' Ab<;>intro O
 · skip
   refine' XX;intro b1 o1 cs1 x1 hat1 hx1 he1;obtain ⟨vp1,vr1,vb1,rfl,hp1,hr1,hb1⟩:=Qx he1;refine' NG;intro p5 E Z;refine Kp Z ?_;intro E Z;have Z:=Z.ns;refine' zn;have hsh:=hsm x1 (EK hx1);have hlb:=hsh.2.2.1;have hJ6:=Fs Z;refine SY Z [2,3,5,13,14,15] (fun A LL ρ' B=>∃(k6:Cx) (a1 a2:Option Addr) (n1 n2 p6:Nat),Ki ρ' A∧Ki ρ' [(6, .pointer (some ⟨p6,0,none⟩))]∧(k0.Le k6)∧(KA.sl k6 (.slice a1 x1.params.length n1) x1.params)∧(KA.sl k6 (.slice a2 x1.results.length n2) x1.results)∧St k6 B (blk p6 95 [.int .i64 x1.regs, .slice a1 x1.params.length n1, .slice a2 x1.results.length n2, .slice none 0 0]::LL)) ?_ ?_
   · skip
     refine NU 4 9 Jk ?_ ?_
     · skip
       refine NU 7 9 Jk ?_ ?_
       · refine zC [(0,none),(1,none),(2,none),(3,none),(5,none),(6,none),(4,some (some [1,6])),(7,some (some [1])),(8,none),(9,some (some [1])),(10,some none)] ?_;have Z:=Z.drew;refine' KS;refine' TO;refine' Ot;refine' Kw (c:=bR hsh.1.1 hsh.1.2 hp1 Z);rintro v1 E ⟨c1,hle2,hk1,Z⟩;obtain ⟨a1,n1,rfl⟩:=E0 hk1;(try have hJ6:=hJ6.trans hle2);(try have hr1:=hr1.up hle2);refine' Lc;refine' Kw (c:=bR hsh.2.1.1 hsh.2.1.2 hr1 Z);rintro v1 E ⟨c2,hle2,hk2,Z⟩;obtain ⟨a2,n2,rfl⟩:=E0 hk2;(try have hJ6:=hJ6.trans hle2);(try have hk1:=hk1.up hle2);refine' LZ;refine PF [_,_,_,_] ?_;refine' UU;intro p6 E Z;refine' LY;refine Kp Z ?_;intro E Z;have Z:=Z.ns;refine' K7;(exact Bv)
       · refine zC [(0,none),(1,none),(2,none),(3,none),(5,none),(6,none),(4,some (some [1,6])),(9,some (some [1,6])),(7,some (some [1])),(8,none),(10,some none)] ?_;have Z:=Z.drew;refine' KS;refine' TO;refine' Ot;refine' Kw (c:=bR hsh.1.1 hsh.1.2 hp1 Z);rintro v1 E ⟨c1,hle2,hk1,Z⟩;obtain ⟨a1,n1,rfl⟩:=E0 hk1;(try have hJ6:=hJ6.trans hle2);(try have hr1:=hr1.up hle2);refine' Lc;refine Qb Z ?_;intro p6 E Z;refine' Lc;refine' Kw (c:=bR hsh.2.1.1 hsh.2.1.2 hr1 Z);rintro v1 E ⟨c2,hle2,hk2,Z⟩;obtain ⟨a2,n2,rfl⟩:=E0 hk2;(try have hJ6:=hJ6.trans hle2);(try have hk1:=hk1.up hle2);refine' LZ;refine PF [_,_,_,_] ?_;refine' K8;refine Kp Z ?_;intro E Z;have Z:=Z.ns;refine' K7;(exact Bv)
     · refine zC [(0,none),(1,none),(2,none),(3,none),(5,none),(6,none),(9,some (some [1,3,6])),(4,some (some [1,6])),(7,some (some [1])),(8,none),(10,some none)] ?_;have Z:=Z.drew;refine' KS;refine' TO;refine' Ot;refine Qb Z ?_;intro p6 E Z;refine' Lc;refine' Kw (c:=bR hsh.1.1 hsh.1.2 hp1 Z);rintro v1 E ⟨c1,hle2,hk1,Z⟩;obtain ⟨a1,n1,rfl⟩:=E0 hk1;(try have hJ6:=hJ6.trans hle2);(try have hr1:=hr1.up hle2);refine' Lc;refine' Kw (c:=bR hsh.2.1.1 hsh.2.1.2 hr1 Z);rintro v1 E ⟨c2,hle2,hk2,Z⟩;obtain ⟨a2,n2,rfl⟩:=E0 hk2;(try have hJ6:=hJ6.trans hle2);(try have hk1:=hk1.up hle2);refine' LZ;refine PF [_,_,_,_] ?_;refine' K8;refine Kp Z ?_;intro E Z;have Z:=Z.ns;refine' K7;(exact Bv)
   rintro U E ⟨k6,a1,a2,n1,n2,p6,hA,hρ,hle2,hk1,hk2,Z⟩;obtain ⟨U,rfl⟩:=Km hA hρ;(try have hle:=hle.trans hle2);(try have hL0:=hL0.trans hle2);(try have hJ6:=hJ6.trans hle2);(try have hf:=hf.up hle2);(try have hp1:=hp1.up hle2);(try have hr1:=hr1.up hle2);(try have hb1:=hb1.up hle2);(try have he1:=he1.up hle2);(try have hls:=hls.up hle2);refine' Nq;refine' Ob;refine zo [2,3,6,13,14,15,29,30] (fun A ρ' B=>∃(k1:Cx) (i:Nat) (ub:Value) (cssB:List (List Value)),Ki ρ' A∧Ki ρ' [(31, .int .i64 i)]∧(k6.Le k1)∧(i≤x1.blocks.length)∧(K3.ls k1 cssB (x1.blocks.take i))∧(oneC ub=true)∧St k1 B (sl 92 12 ub cssB::blk p6 95 [.int .i64 x1.regs, .slice a1 x1.params.length n1, .slice a2 x1.results.length n2,ub]::blk p5 95 [.int .i64 x1.regs,vp1,vr1,vb1]::sl 95 4 u css::blk p3 24 [u]::blk p2 24 [.slice none 0 0]::blk p1 24 [vf]::L)) (fun ρ' _=>(x1.blocks.length - iv (ρ' 31)).toNat) ?_ ?_
   · exact ⟨k6,0, .slice none 0 0,[],zh,zh,Fs Z,V,Gd _ _ _,rfl,by have Z:=Z.nil (T:=92) (es:=12);exact Z.sp⟩
   rintro U E ⟨k1,i,ub,cssB,hA,hρ,hle2,hi,hlsB,hub,Z⟩;obtain ⟨U,rfl⟩:=Km hA hρ;have hL1:=hle2;(try have hle:=hle.trans hle2);(try have hL0:=hL0.trans hle2);(try have hJ6:=hJ6.trans hle2);(try have hf:=hf.up hle2);(try have hk1:=hk1.up hle2);(try have hk2:=hk2.up hle2);(try have hp1:=hp1.up hle2);(try have hr1:=hr1.up hle2);(try have hb1:=hb1.up hle2);(try have he1:=he1.up hle2);(try have hls:=hls.up hle2);refine' Nd;refine' Ab<;>intro O
   · skip
     refine' XX;intro b2 o2 cs2 x2 hat2 hx2 he2;obtain ⟨vp2,vc2,ve21,ve22,ve23,ve24,ve25,rfl,hp2,hc2,he21,he22,he23,he24,he25⟩:=PV he2;refine' NG;intro p8 E Z;refine Kp Z ?_;intro E Z;have Z:=Z.ns;refine' zn;have hsb:=hsh.2.2.2 x2 (EK hx2);have hlc:=hsb.2.1;have hJ10:=Fs Z;refine SY Z [2,3,6,8,13,14,15,29,30,31] (fun A LL ρ' B=>∃(k10:Cx) (a3:Option Addr) (n3 p9:Nat),Ki ρ' A∧Ki ρ' [(9, .pointer (some ⟨p9,0,none⟩))]∧(k1.Le k10)∧(KA.sl k10 (.slice a3 x2.params.length n3) x2.params)∧St k10 B (blk p9 92 [.int .i64 x2.regs, .slice a3 x2.params.length n3, .slice none 0 0, .int .i64 x2.fin.op, .int .i64 x2.fin.a, .int .i64 x2.fin.yes.block,ve21,ve22, .int .i64 x2.fin.no.block,ve23,ve24,ve25]::LL)) ?_ ?_
     · skip
       obtain ⟨q1,m1,rfl⟩:=E0 he21;obtain ⟨q2,m2,rfl⟩:=E0 he22;obtain ⟨q3,m3,rfl⟩:=E0 he23;obtain ⟨q4,m4,rfl⟩:=E0 he24;obtain ⟨q5,m5,rfl⟩:=E0 he25;refine NU 4 8 Jk ?_ ?_
       · refine zC [(0,none),(1,none),(2,none),(3,none),(5,none),(6,none),(4,some (some [1,6])),(7,none),(8,some (some [1,6])),(9,some none)] ?_;have Z:=Z.drew;refine' KS;refine' TO;refine' Oq;refine zv Z ?_;refine' Lh;refine' Kw (c:=bR hsb.1.1 hsb.1.2 hp2 Z);rintro v1 E ⟨c3,hle2,hk3,Z⟩;obtain ⟨a3,n3,rfl⟩:=E0 hk3;(try have hJ10:=hJ10.trans hle2);refine' LZ;refine PF [_,_,_,_,_,_,_,_,_,_,_,_] ?_;refine' UU;intro p9 E Z;refine' LY;refine Kp Z ?_;intro E Z;have Z:=Z.ns;refine' K7;(exact Cg)
       · refine zC [(0,none),(1,none),(2,none),(3,none),(5,none),(6,none),(8,some (some [1,3,6])),(4,some (some [1,6])),(7,none),(9,some none)] ?_;have Z:=Z.drew;refine' KS;refine' TO;refine' Oq;refine zv Z ?_;refine' UU;intro p9 E Z;refine' Lc;refine' Kw (c:=bR hsb.1.1 hsb.1.2 hp2 Z);rintro v1 E ⟨c3,hle2,hk3,Z⟩;obtain ⟨a3,n3,rfl⟩:=E0 hk3;(try have hJ10:=hJ10.trans hle2);refine' LZ;refine PF [_,_,_,_,_,_,_,_,_,_,_,_] ?_;refine' K8;refine Kp Z ?_;intro E Z;have Z:=Z.ns;refine' K7;(exact Cg)
     rintro U E ⟨k10,a3,n3,p9,hA,hρ,hle2,hk3,Z⟩;obtain ⟨U,rfl⟩:=Km hA hρ;(try have hle:=hle.trans hle2);(try have hL0:=hL0.trans hle2);(try have hL1:=hL1.trans hle2);(try have hJ6:=hJ6.trans hle2);(try have hJ10:=hJ10.trans hle2);(try have hf:=hf.up hle2);(try have hk1:=hk1.up hle2);(try have hk2:=hk2.up hle2);(try have hp1:=hp1.up hle2);(try have hr1:=hr1.up hle2);(try have hb1:=hb1.up hle2);(try have hp2:=hp2.up hle2);(try have hc2:=hc2.up hle2);(try have he21:=he21.up hle2);(try have he22:=he22.up hle2);(try have he23:=he23.up hle2);(try have he24:=he24.up hle2);(try have he25:=he25.up hle2);(try have he1:=he1.up hle2);(try have he2:=he2.up hle2);(try have hls:=hls.up hle2);(try have hlsB:=hlsB.up hle2);refine Qm ?_;refine zC [(0,none),(1,none),(2,none),(4,none),(5,none),(6,none),(8,none),(9,none),(10,none),(3,some (some [6,10])),(12,none),(13,none),(7,some (some [10])),(11,some (some [])),(14,some none),(15,none),(16,none),(17,some none),(18,none),(19,none),(20,some none)] ?_;have Z:=Z.drew;refine' KS;refine' i6;refine' S3;refine' i6;refine' S3;refine' Rl;refine' Lh;refine' Kw (c:=xa (x:=x2.fin.yes) (by have:=hsb.2.2.2.1.1;omega) (by have:=hsb.2.2.2.1.2;omega) ⟨_,_,rfl,he21,he22⟩ Z);rintro v1 E ⟨c7,ds,rfl,hle2,hk7,Z⟩;obtain ⟨y1,y2,rfl,hy1,hy2⟩:=YJ hk7;obtain ⟨a7,n7,rfl⟩:=E0 hy1;obtain ⟨a8,n8,rfl⟩:=E0 hy2;(try have hle:=hle.trans hle2);(try have hL0:=hL0.trans hle2);(try have hL1:=hL1.trans hle2);(try have hJ6:=hJ6.trans hle2);(try have hJ10:=hJ10.trans hle2);(try have hf:=hf.up hle2);(try have hk1:=hk1.up hle2);(try have hk2:=hk2.up hle2);(try have hk3:=hk3.up hle2);(try have hp1:=hp1.up hle2);(try have hr1:=hr1.up hle2);(try have hb1:=hb1.up hle2);(try have hp2:=hp2.up hle2);(try have hc2:=hc2.up hle2);(try have he21:=he21.up hle2);(try have he22:=he22.up hle2);(try have he23:=he23.up hle2);(try have he24:=he24.up hle2);(try have he25:=he25.up hle2);(try have he1:=he1.up hle2);(try have he2:=he2.up hle2);(try have hls:=hls.up hle2);(try have hlsB:=hlsB.up hle2);refine' LZ;refine' Oq;refine' NN;refine' Lh;refine' Kw (c:=xa (x:=x2.fin.no) (by have:=hsb.2.2.2.2.1.1;omega) (by have:=hsb.2.2.2.2.1.2;omega) ⟨_,_,rfl,he23,he24⟩ Z);rintro v1 E ⟨c8,ds,rfl,hle2,hk8,Z⟩;obtain ⟨z1,z2,rfl,hz1,hz2⟩:=YJ hk8;obtain ⟨a9,n9,rfl⟩:=E0 hz1;obtain ⟨a10,n10,rfl⟩:=E0 hz2;(try have hle:=hle.trans hle2);(try have hL0:=hL0.trans hle2);(try have hL1:=hL1.trans hle2);(try have hJ6:=hJ6.trans hle2);(try have hJ10:=hJ10.trans hle2);(try have hf:=hf.up hle2);(try have hk1:=hk1.up hle2);(try have hk2:=hk2.up hle2);(try have hk3:=hk3.up hle2);(try have hk7:=hk7.up hle2);(try have hp1:=hp1.up hle2);(try have hr1:=hr1.up hle2);(try have hb1:=hb1.up hle2);(try have hp2:=hp2.up hle2);(try have hc2:=hc2.up hle2);(try have he21:=he21.up hle2);(try have he22:=he22.up hle2);(try have he23:=he23.up hle2);(try have he24:=he24.up hle2);(try have he25:=he25.up hle2);(try have he1:=he1.up hle2);(try have he2:=he2.up hle2);(try have hls:=hls.up hle2);(try have hy1:=hy1.up hle2);(try have hy2:=hy2.up hle2);(try have hlsB:=hlsB.up hle2);refine' Lc;refine' Kw (c:=kQ (by have:=hsb.2.2.2.2.2;omega) he25 Z);rintro v1 E ⟨c9,hle2,hw1,Z⟩;obtain ⟨a11,n11,rfl⟩:=E0 hw1;(try have hle:=hle.trans hle2);(try have hL0:=hL0.trans hle2);(try have hL1:=hL1.trans hle2);(try have hJ6:=hJ6.trans hle2);(try have hJ10:=hJ10.trans hle2);(try have hf:=hf.up hle2);(try have hk1:=hk1.up hle2);(try have hk2:=hk2.up hle2);(try have hk3:=hk3.up hle2);(try have hk7:=hk7.up hle2);(try have hk8:=hk8.up hle2);(try have hp1:=hp1.up hle2);(try have hr1:=hr1.up hle2);(try have hb1:=hb1.up hle2);(try have hp2:=hp2.up hle2);(try have hc2:=hc2.up hle2);(try have he21:=he21.up hle2);(try have he22:=he22.up hle2);(try have he23:=he23.up hle2);(try have he24:=he24.up hle2);(try have he25:=he25.up hle2);(try have he1:=he1.up hle2);(try have he2:=he2.up hle2);(try have hls:=hls.up hle2);(try have hy1:=hy1.up hle2);(try have hy2:=hy2.up hle2);(try have hz1:=hz1.up hle2);(try have hz2:=hz2.up hle2);(try have hlsB:=hlsB.up hle2);refine' LY;((refine iY Z ?_;intro E Z;have Z:=Z.ns));refine' Ku;refine' Oq;refine' TM;((refine iY Z ?_;intro E Z;have Z:=Z.ns));refine' Ku;refine' Oq;refine' TM;refine Lv Z ?_;intro E Z;have Z:=Z.ns;refine' K7;refine' Nq;refine' Ob;refine zo [2,3,6,9,13,14,15,29,30,31,62,63] (fun A ρ' B=>∃(k2:Cx) (k:Nat) (uc:Value) (cssC:List (List Value)),Ki ρ' A∧Ki ρ' [(64, .int .i64 k)]∧(c9.Le k2)∧(k≤x2.code.length)∧(K1.ls k2 cssC (x2.code.take k))∧(oneC uc=true)∧St k2 B (sl 84 8 uc cssC::blk p9 92 [.int .i64 x2.regs, .slice a3 x2.params.length n3,uc, .int .i64 x2.fin.op, .int .i64 x2.fin.a, .int .i64 x2.fin.yes.block, .slice a7 x2.fin.yes.regs.length n7, .slice a8 x2.fin.yes.args.length n8, .int .i64 x2.fin.no.block, .slice a9 x2.fin.no.regs.length n9, .slice a10 x2.fin.no.args.length n10, .slice a11 x2.fin.args.length n11]::blk p8 92 [.int .i64 x2.regs,vp2,vc2, .int .i64 x2.fin.op, .int .i64 x2.fin.a, .int .i64 x2.fin.yes.block,ve21,ve22, .int .i64 x2.fin.no.block,ve23,ve24,ve25]::sl 92 12 ub cssB::blk p6 95 [.int .i64 x1.regs, .slice a1 x1.params.length n1, .slice a2 x1.results.length n2,ub]::blk p5 95 [.int .i64 x1.regs,vp1,vr1,vb1]::sl 95 4 u css::blk p3 24 [u]::blk p2 24 [.slice none 0 0]::blk p1 24 [vf]::L)) (fun ρ' _=>(x2.code.length - iv (ρ' 64)).toNat) ?_ ?_
     · exact ⟨c9,0, .slice none 0 0,[],zh,zh,Fs Z,V,Gd _ _ _,rfl,by have Z:=Z.nil (T:=84) (es:=8);exact Z.sp⟩
     rintro U E ⟨k2,k,uc,cssC,hA,hρ,hle2,hkk,hlsC,huc,Z⟩;obtain ⟨U,rfl⟩:=Km hA hρ;have hL2:=hle2;(try have hle:=hle.trans hle2);(try have hL0:=hL0.trans hle2);(try have hL1:=hL1.trans hle2);(try have hJ6:=hJ6.trans hle2);(try have hJ10:=hJ10.trans hle2);(try have hf:=hf.up hle2);(try have hk1:=hk1.up hle2);(try have hk2:=hk2.up hle2);(try have hk3:=hk3.up hle2);(try have hk7:=hk7.up hle2);(try have hk8:=hk8.up hle2);(try have hp1:=hp1.up hle2);(try have hr1:=hr1.up hle2);(try have hb1:=hb1.up hle2);(try have hp2:=hp2.up hle2);(try have hc2:=hc2.up hle2);(try have he21:=he21.up hle2);(try have he22:=he22.up hle2);(try have he23:=he23.up hle2);(try have he24:=he24.up hle2);(try have he25:=he25.up hle2);(try have he1:=he1.up hle2);(try have he2:=he2.up hle2);(try have hls:=hls.up hle2);(try have hy1:=hy1.up hle2);(try have hy2:=hy2.up hle2);(try have hz1:=hz1.up hle2);(try have hz2:=hz2.up hle2);(try have hw1:=hw1.up hle2);(try have hlsB:=hlsB.up hle2);refine' Nd;refine' Ab<;>intro O
     · refine' XX;intro b3 o3 cs3 x3 hat3 hx3 he3;obtain ⟨vr3,va3,rfl,hr3,ha3⟩:=QN he3;refine' NG;intro p11 E Z;refine Kp Z ?_;intro E Z;have Z:=Z.ns;refine' LA;have hsi:=hsb.2.2.1 x3 (EK hx3);refine zC [(0,none),(1,none),(3,none),(4,none),(2,some (some [4])),(6,none),(5,some (some [])),(7,some none),(8,none),(9,some none)] ?_;have Z:=Z.drew;refine' KS;refine' TS;refine' Kw (c:=kQ (by have:=hsi.1;omega) hr3 Z);rintro v1 E ⟨c4,hle2,hk4,Z⟩;obtain ⟨a4,n4,rfl⟩:=E0 hk4;(try have hL2:=hL2.trans hle2);(try have ha3:=ha3.up hle2);(try have hlsC:=hlsC.up hle2);refine' LZ;refine' MT;refine' Lh;refine' Kw (c:=kQ (by have:=hsi.2;omega) ha3 Z);rintro v1 E ⟨c5,hle2,hk5,Z⟩;obtain ⟨a5,n5,rfl⟩:=E0 hk5;(try have hL2:=hL2.trans hle2);(try have hk4:=hk4.up hle2);(try have hlsC:=hlsC.up hle2);refine' LY;refine Lv Z ?_;intro E Z;have Z:=Z.ns;refine' Ku;refine' MT;refine' K8;refine Lv Z ?_;intro E Z;have Z:=Z.ns;refine' K7;have hk9:K1.at c5 _ x3:=⟨_,_,rfl,hk4,hk5⟩;refine' S2;refine zv Z ?_;refine KO Z [_,_,_,_,_,_,_,_] ?_;intro b1 E Z;refine za eE kM Z ?_;intro vp1 E css1 hls1 hv1 Z;have Z:=Z.ns;refine' XQ;intro E Z;have Z:=Z.ns;refine' S9;(exact ⟨⟨_,k+1,_,_,zh,zh,hL2,V,by rw [Us hx3];assumption,by assumption,Z.sp⟩,Qh V⟩)
     · refine' LV;obtain ⟨c6,hle2,Z,hk6⟩:=FV (r:=K1) (l:=x2.code) Z (by rw [Fg V] at hlsC;exact hlsC) rfl (by have:=hsb.2.1;omega);obtain ⟨a6,n6,rfl⟩:=E0 hk6;(try have hL1:=hL1.trans hle2);(try have hk3:=hk3.up hle2);(try have hy1:=hy1.up hle2);(try have hy2:=hy2.up hle2);(try have hz1:=hz1.up hle2);(try have hz2:=hz2.up hle2);(try have hw1:=hw1.up hle2);(try have hlsB:=hlsB.up hle2);have hk9:K3.at c6 _ x2:=uQ (x:=x2) hk3 hk6 hy1 hy2 hz1 hz2 hw1;refine' S2;refine zv Z ?_;refine KO Z [_,_,_,_,_,_,_,_,_,_,_,_] ?_;intro b1 E Z;refine za eF kN Z ?_;intro vp2 w2 css2 hls2 hv2 Z;have Z:=Z.ns;refine' XQ;intro E Z;have Z:=Z.ns;refine' S9;(exact ⟨⟨_,i+1,_,_,zh,zh,hL1,V,by rw [Us hx2];assumption,by assumption,Z.sp⟩,Qh V⟩)
   · refine' LV;obtain ⟨c10,hle2,Z,hk6⟩:=FV (r:=K3) (l:=x1.blocks) Z (by rw [Fg V] at hlsB;exact hlsB) rfl (by have:=hsh.2.2.1;omega);obtain ⟨a6,n6,rfl⟩:=E0 hk6;(try have hL0:=hL0.trans hle2);(try have hk1:=hk1.up hle2);(try have hk2:=hk2.up hle2);(try have hls:=hls.up hle2);have hk9:Ks.at c10 _ x1:=⟨_,_,_,rfl,hk1,hk2,hk6⟩;refine' S2;refine zv Z ?_;refine KO Z [_,_,_,_] ?_;intro b1 E Z;refine za eB kJ Z ?_;intro vp3 w3 css3 hls3 hv3 Z;have Z:=Z.ns;refine' XQ;intro E Z;have Z:=Z.ns;refine' S9;(exact ⟨⟨_,j+1,_,_,zh,zh,hL0,V,by rw [Us hx1];assumption,by assumption,Z.sp⟩,Qh V⟩)
 · refine' LV;obtain ⟨c11,hle2,Z,hk6⟩:=FV (r:=Ks) (l:=l) Z DB rfl V;obtain ⟨a6,n6,rfl⟩:=E0 hk6;(try have hle:=hle.trans hle2);refine' MM;refine Kp Z ?_;intro E Z;have Z:=Z.ns;refine' LM;refine QO vw (Q3 (n:=1) Jk Jk (Z.blkAt fd) Jr Jr) ?_;(exact ⟨_,rfl,c11,_,rfl,hle,⟨_,rfl,hk6⟩,Z.sp⟩)
end
end Go.Proofs.YteflkifmgnpbhaaGreat
namespace Go.Lir
def SA (m:Module)(inp:List Int)(fuel pages:Int):Mj:=if m.fault.1≠0 then m.fault else if 200<inp.length∨fuel<0∨20000<fuel∨pages<0∨64<pages then (1, -1) else (0,0)
theorem yG (h:m.fault.1≠0):SA m inp fuel pages=m.fault:=Qip h
theorem yH (h:¬m.fault.1≠0)(hr:200<inp.length∨fuel<0∨20000<fuel∨pages<0∨64<pages):SA m inp fuel pages=(1, -1):=(Qin h).trans (Qip hr)
theorem yh (h:¬m.fault.1≠0)(hr:¬(200<inp.length∨fuel<0∨20000<fuel∨pages<0∨64<pages)):SA m inp fuel pages=(0,0):=(Qin h).trans (Qin hr)
end Go.Lir
namespace Go.Proofs.YteflkifmgnpbhaaGreat
open Go.Lir
attribute [local irreducible] LC.wp Q0 Qp Qk KN Qw LO.wp Q6 Calls
variable {Y:Cx}{w:World}{L:List Res}{m:Module}{inp:List Int}
@[reducible] def RX (hp fn lv iv:Value)(fuel:Int):MC:=⟨hp,fn,lv,iv,0, .slice none 0 0, .slice none 0 0,0,fuel,false,0,0⟩
@[reducible] def Om:FrmV:=⟨0,0,0, .slice none 0 0,[], .slice none 0 0,[]⟩
def Tm (m:Module)(inp:List Int)(fuel pages:Int)(Y:Cx)(L:List Res)(u:Value)(B:World):Prop:=
 ((SA m inp fuel pages).1≠0∧u= .tuple #[.pointer none,Kz (SA m inp fuel pages)]∧St Y B L)∨
 (SA m inp fuel pages=(0,0)∧m.fault.1=0∧inp.length≤200∧0≤fuel∧fuel≤20000∧0≤pages∧pages≤64∧∃c' p hp fn lv iv,u= .tuple #[.pointer (some ⟨p,0,none⟩),Kz (0,0)]∧Y.Le c'∧Ks.sl c' fn m.funcs∧Kb.sl c' iv inp∧St c' B (mS p (RX hp fn lv iv fuel) [] Om 0 ⟨[],pages⟩ [] L))
theorem mb {v:Value}(hsh:m.Short)(hx:Lr.at Y cs m)(hi:Kb.sl Y v inp)(Z:St Y w L):
 Ka Tryz.prog QjE [.agg ⟨cs⟩,v, .int .i64 fuel, .int .i64 pages] w (Tm m inp fuel pages Y L):=by
 have hle:=Fs Z;have hx':=hx;obtain ⟨vf,rfl,hf⟩:=NR hx;have hil:=hi.len;unfold Tm;refine Kl Kh Tryz.func20 ?_;refine' KU;intro p4 E Z;refine' zm;refine Qb Z ?_;(intro p9 E Z);refine' LA;refine' MM;refine' Kw (c:=sa hsh hx' Z);rintro v1 E ⟨rfl,Z⟩;unfold Kz;refine Qb Z ?_;(intro p10 E Z);((refine Kp Z ?_;intro E Z;have Z:=Z.ns));refine' Nl;(refine' Ad<;>intro O);all_goals (refine' zn)
 all_goals
  first
  | (refine' Kf;refine Qm ?_;refine zD (ci 3 [2]) ?_;have Z:=Z.drew;refine zv Z ?_;refine' zm;((refine Kp Z ?_;intro E Z;have Z:=Z.ns));refine' LM;refine Px vw vw (Q3 (n:=2) Jk Jk (Z.blkAt fd) Jr Jr) ?_;(exact ⟨_,rfl, .inl ⟨by rw [yG V];omega,by rw [yG V];rfl,Z.sp⟩⟩))
  | (refine' Kd;refine' Ko)
 ((((refine' Lb;refine' zL;(refine' Af<;>intro O);all_goals (refine' Md;first|refine' Kj|(refine' Kg;refine' Ae<;>intro O)));all_goals (refine' Po;first|refine' Kj|(refine' Kg;refine' Af<;>intro O)));all_goals (refine' Po;first|refine' Kj|(refine' Kg;refine' Ae<;>intro O)));all_goals (refine' Po;first|refine' Kj|(refine' Kg;refine' Af<;>intro O)));all_goals (refine' Ld)
 all_goals
  first
  | (refine' Kf;all_goals (refine' Kn;refine M8 [_,_] ?_;refine' zm;refine Kp Z ?_;intro E Z;have Z:=Z.ns;refine' LM;refine Px vw vw (Q3 (n:=2) Jk Jk (Z.blkAt fd) Jr Jr) ?_);all_goals (exact ⟨_,rfl, .inl ⟨by rw [yH V V];decide,by rw [yH V V];rfl,Z.sp⟩⟩))
  | (refine' Kd;refine' Ko)
 refine Qm ?_;refine NU 1 5 Jk ?_ ?_
 · skip
   refine NU 3 5 Jk ?_ ?_
   · skip
     refine NU 5 7 Jk ?_ ?_
     · refine zC [(0,none),(2,none),(4,none),(6,none),(8,none),(11,none),(1,some (some [2])),(3,some (some [])),(5,some (some [])),(7,some (some [])),(9,none),(10,some (some [])),(12,none),(13,some none)] ?_;have Z:=Z.drew;refine' Ph;refine' S3;refine Ly [_,_,_,_,_] ?_;refine' Mm;refine' O0;refine Ly [_,_] ?_;refine' Lh;refine' Kw (c:=nW pages V Z);rintro v1 E ⟨bh,rfl,Z⟩;refine' Lc;refine' Kw (c:=js hsh hx' Z);rintro v1 E ⟨c1,ds,rfl,hle1,hx1,Z⟩;obtain ⟨vf1,rfl,hf1⟩:=NR hx1;have hi:=Fo hi hle1;obtain ⟨af,nf,rfl⟩:=E0 hf1;refine' Lc;refine KO Z [_,_,_,_,_] ?_;intro b1 E Z;have Z:=Fz (T:=110) (es:=5) (css:=[[.int .i64 0, .int .i64 0, .int .i64 0, .slice none 0 0, .slice none 0 0]]) Z rfl Js rfl;refine' Lc;refine' Kw (c:=ma V hi Z);rintro vi E ⟨c2,hle2,hi2,Z⟩;have hf1:=Fo hf1 hle2;obtain ⟨ai,ni,rfl⟩:=E0 hi2;refine' LZ;refine iZ [_,_,_,_,_,_,_,_,_,_,_,_] ?_;refine' Lh;refine zb Z ?_;intro p47 E Z;refine' LZ;refine' zm;refine' K8;refine Kp Z ?_;intro E Z;have Z:=Z.ns;refine' K7;refine' zr;refine Px vw vw (Q3 (n:=2) Jk Jk (Z.blkAt fd) Jr Jr) ?_;(have Z:=Gx FrmV.res (Gg (T:=224) (es:=4) (Gg (T:=3) (es:=1) (Gg (T:=2) (es:=1) Z)));exact AU)
     · refine zC [(0,none),(2,none),(4,none),(6,none),(8,none),(11,none),(1,some (some [2])),(3,some (some [])),(7,some (some [])),(5,some (some [])),(9,none),(10,some (some [])),(12,none),(13,some none)] ?_;have Z:=Z.drew;refine' Ph;refine' S3;refine Ly [_,_,_,_,_] ?_;refine' Mm;refine' O0;refine Ly [_,_] ?_;refine' Lh;refine' Kw (c:=nW pages V Z);rintro v1 E ⟨bh,rfl,Z⟩;refine' Lc;refine' Kw (c:=js hsh hx' Z);rintro v1 E ⟨c1,ds,rfl,hle1,hx1,Z⟩;obtain ⟨vf1,rfl,hf1⟩:=NR hx1;have hi:=Fo hi hle1;obtain ⟨af,nf,rfl⟩:=E0 hf1;refine' Lc;refine' Kw (c:=ma V hi Z);rintro vi E ⟨c2,hle2,hi2,Z⟩;have hf1:=Fo hf1 hle2;obtain ⟨ai,ni,rfl⟩:=E0 hi2;refine' Lc;refine KO Z [_,_,_,_,_] ?_;intro b1 E Z;have Z:=Fz (T:=110) (es:=5) (css:=[[.int .i64 0, .int .i64 0, .int .i64 0, .slice none 0 0, .slice none 0 0]]) Z rfl Js rfl;refine' LZ;refine iZ [_,_,_,_,_,_,_,_,_,_,_,_] ?_;refine' Lh;refine zb Z ?_;intro p47 E Z;refine' LZ;refine' zm;refine' K8;refine Kp Z ?_;intro E Z;have Z:=Z.ns;refine' K7;refine' zr;refine Px vw vw (Q3 (n:=2) Jk Jk (Z.blkAt fd) Jr Jr) ?_;(have Z:=Gx FrmV.res (Gg (T:=224) (es:=4) (Gg (T:=3) (es:=1) (Gg (T:=2) (es:=1) Z)));exact AU)
   · refine zC [(0,none),(2,none),(4,none),(6,none),(8,none),(11,none),(1,some (some [2])),(5,some (some [2])),(3,some (some [])),(7,some (some [])),(9,none),(10,some (some [])),(12,none),(13,some none)] ?_;have Z:=Z.drew;refine' Ph;refine' S3;refine Ly [_,_,_,_,_] ?_;refine' Mm;refine' O0;refine Ly [_,_] ?_;refine' Lh;refine' Kw (c:=nW pages V Z);rintro v1 E ⟨bh,rfl,Z⟩;refine' Lc;refine KO Z [_,_,_,_,_] ?_;intro b1 E Z;have Z:=Fz (T:=110) (es:=5) (css:=[[.int .i64 0, .int .i64 0, .int .i64 0, .slice none 0 0, .slice none 0 0]]) Z rfl Js rfl;refine' Lc;refine' Kw (c:=js hsh hx' Z);rintro v1 E ⟨c1,ds,rfl,hle1,hx1,Z⟩;obtain ⟨vf1,rfl,hf1⟩:=NR hx1;have hi:=Fo hi hle1;obtain ⟨af,nf,rfl⟩:=E0 hf1;refine' Lc;refine' Kw (c:=ma V hi Z);rintro vi E ⟨c2,hle2,hi2,Z⟩;have hf1:=Fo hf1 hle2;obtain ⟨ai,ni,rfl⟩:=E0 hi2;refine' LZ;refine iZ [_,_,_,_,_,_,_,_,_,_,_,_] ?_;refine' Lh;refine zb Z ?_;intro p47 E Z;refine' LZ;refine' zm;refine' K8;refine Kp Z ?_;intro E Z;have Z:=Z.ns;refine' K7;refine' zr;refine Px vw vw (Q3 (n:=2) Jk Jk (Z.blkAt fd) Jr Jr) ?_;(have Z:=Gx FrmV.res (Gg (T:=224) (es:=4) (Gg (T:=3) (es:=1) (Gg (T:=2) (es:=1) Z)));exact AU)
 · refine zC [(0,none),(2,none),(4,none),(6,none),(8,none),(11,none),(5,some (some [2])),(1,some (some [2])),(3,some (some [])),(7,some (some [])),(9,none),(10,some (some [])),(12,none),(13,some none)] ?_;have Z:=Z.drew;refine' Ph;refine' S3;refine Ly [_,_,_,_,_] ?_;refine' Mm;refine' O0;refine Ly [_,_] ?_;refine' Lh;refine KO Z [_,_,_,_,_] ?_;intro b1 E Z;have Z:=Fz (T:=110) (es:=5) (css:=[[.int .i64 0, .int .i64 0, .int .i64 0, .slice none 0 0, .slice none 0 0]]) Z rfl Js rfl;refine' Lc;refine' Kw (c:=nW pages V Z);rintro v1 E ⟨bh,rfl,Z⟩;refine' Lc;refine' Kw (c:=js hsh hx' Z);rintro v1 E ⟨c1,ds,rfl,hle1,hx1,Z⟩;obtain ⟨vf1,rfl,hf1⟩:=NR hx1;have hi:=Fo hi hle1;obtain ⟨af,nf,rfl⟩:=E0 hf1;refine' Lc;refine' Kw (c:=ma V hi Z);rintro vi E ⟨c2,hle2,hi2,Z⟩;have hf1:=Fo hf1 hle2;obtain ⟨ai,ni,rfl⟩:=E0 hi2;refine' LZ;refine iZ [_,_,_,_,_,_,_,_,_,_,_,_] ?_;refine' Lh;refine zb Z ?_;intro p47 E Z;refine' LZ;refine' zm;refine' K8;refine Kp Z ?_;intro E Z;have Z:=Z.ns;refine' K7;refine' zr;refine Px vw vw (Q3 (n:=2) Jk Jk (Z.blkAt fd) Jr Jr) ?_;(have Z:=Gx FrmV.res (Gg (T:=224) (es:=4) (Gg (T:=3) (es:=1) (Gg (T:=2) (es:=1) Z)));exact AU)
end Go.Proofs.YteflkifmgnpbhaaGreat
namespace Go.Lir
def gl (w:World)(b j:Nat):Value:=(w.cell? ⟨b,j,none⟩).getD undef
theorem mc {c:Cx}{T b:Nat}(Z:St c w L)(hi:nth L i=some (blk b T cs))(hj:cs[j]?=some u):gl w b j=u:=by
 unfold gl;rw [(Z.blkAt hi).cell hj];rfl
def Z8:Value→Nat
 | .bool true=>0
 | _=>1
def gm (w:World)(p:Nat):Nat:=2*(iv (gl w p 8) - iv (gl w p 7)).toNat+Z8 (gl w p 9)
end Go.Lir
namespace Go.Proofs.YteflkifmgnpbhaaGreat
open Go.Lir
attribute [local irreducible] LC.wp Q0 Qp Qk KN Qw LO.wp Q6 Calls
section
variable {Y:Cx}{w:World}{L:List Res}{p N:Nat}{c:MC}{fr:List FrmV}{g:FrmV}{h:HpS}{out inp:List Int}{m:Module}
def Oz (c:MC):Nat:=2*(c.mo - c.fu).toNat+Z8 (.bool c.dn)
theorem WR (Z:St Y w (blk p 55 c.cells::L)):gm w p=Oz c:=by
 unfold gm Oz;rw [mc (j:=8) Z (i:=0) rfl rfl,mc (j:=7) Z (i:=0) rfl rfl,mc (j:=9) Z (i:=0) rfl rfl];rfl
def gn (m:Module)(r:Run)(most k:Nat)(c:MC)(fr:List FrmV)(g:FrmV)(N:Nat)(h:HpS)(inp out:List Int):Prop:=
 c.dn=false∧c.c=0∧c.e=0∧c.fu=k∧k≤most∧c.mo=most∧N≤k∧Bnd m k (Kc h g fr inp out k)∧r=Run.steps m most (most+1 - k) (.on (Kc h g fr inp out k))
def gp (m:Module)(r:Run)(most:Nat)(c:MC)(fr:List FrmV)(g:FrmV)(N:Nat)(h:HpS)(inp out back:List Int):Prop:=
 (back=[]∧∃k,gn m r most k c fr g N h inp out)∨(c.dn=true∧r.oc=⟨c.e,back,out,c.fu⟩∧r.flt=(0,0)∧out.length≤2000∧back.length≤100000)
theorem gn.next {r:Run}{k:Nat}(hI:gn m r most k c fr g N h inp out)(hM:m.fault.1=0)(hi:Kb.sl Y c.iv inp)(hs:Sv m p c fr g N h inp out (k+1) Y (sl 2 1 c.bv []::L) u w):
 (u=Kz (0,0)∧∃c' fr' g' N' h' inp' out' back',gp m r most c' fr' g' N' h' inp' out' back'∧c'.fn=c.fn∧Kb.sl Y c'.iv inp'∧Oz c'<Oz c∧St Y w (mS p c' fr' g' N' h' out' (sl 2 1 c'.bv (Qe back')::L)))∨
 ∃f,r= .stuck (20,f)∧u=Kz (20,f)∧St Y w L:=by
 obtain ⟨hdn,hc0,he0,hfu,hkm,hmo,hN,hB,hr⟩:=hI;rcases hs with ⟨h7,rfl,Z⟩|⟨hlt,hs⟩
 · refine .inl ⟨rfl,c.over 7,fr,g,N,h,inp,out,[], .inr ⟨rfl,?_,?_,hB.out,FB _⟩,rfl,hi,?_,Z⟩
   · rw [hr,sY (m:=m) (most:=most) (k:=k) (s:=Kc h g fr inp out k) (by show k=most;omega) rfl];show Oc.mk 7 [] out k=Oc.mk 7 [] out c.fu;rw [hfu]
   · rw [hr,sY (m:=m) (most:=most) (k:=k) (s:=Kc h g fr inp out k) (by show k=most;omega) rfl];rfl
   · unfold Oz;rw [hdn];show 2*(c.mo - c.fu).toNat+0<2*(c.mo - c.fu).toNat+1;omega
 · have hst:=hr.trans (yF (m:=m) (most:=most) (k:=k) (s:=Kc h g fr inp out k) (by show k<most;omega) rfl)
   have hone:(Kc h g fr inp out k).tick.one m=(Kc h g fr inp out (k+1)).one m:=rfl;rw [hone] at hst;have hB1:((Kc h g fr inp out (k+1)).one m).All (Bnd m (k+1)):=J8 (s:=Kc h g fr inp out (k+1)) (k:=k) ⟨hB.cur,hB.st,hB.sl,hB.out⟩ hM;have hms:2*(c.mo - (c.fu+1)).toNat+1<2*(c.mo - c.fu).toNat+1:=CP;rcases hs with ⟨rfl,hG⟩|⟨e,hX,rfl,fr',g',N',hN',Z⟩|⟨hX,rfl,Z⟩
   · rcases hG with ⟨lv,iv,ov,fr',g',N',h',inp',out',hX,hi',hN', -,Z⟩|⟨ns,bv,fr',g',hX, -,Z⟩
     · rw [hX] at hst hB1
       refine .inl ⟨rfl,c.tick.upd lv iv ov,fr',g',N',h',inp',out',[], .inl ⟨rfl,k+1,hdn,hc0,he0,?_,V,hmo,V,hB1,hst⟩,rfl,hi',?_,Z⟩
       · show c.fu+1=((k+1:Nat):Int);omega
       · unfold Oz;rw [hdn];exact hms
     · rw [hX] at hst
       rw [show Run.of m (Kc h g fr inp out k) (.done ns)= .over (Kc h g fr inp out k).tick 0 ns from rfl,l9] at hst;refine .inl ⟨rfl,⟨c.hp,c.fn,c.lv,c.iv,c.e,bv,c.ov,c.fu+1,c.mo,true,c.c,c.a⟩,fr',g',N,h,inp,out,ns, .inr ⟨rfl,?_,?_,hB.out,?_⟩,rfl,hi,?_,Z.sp⟩
       · rw [hst];show Oc.mk 0 ns out ((k+1:Nat):Int)=Oc.mk c.e ns out (c.fu+1);rw [hfu,he0];rfl
       · rw [hst];rfl
       · have h8:ns.length≤8:=(by rw [hX] at hB1;exact hB1);omega
       · unfold Oz;rw [hdn];show 2*(c.mo - (c.fu+1)).toNat+0 < _;omega
   · rw [hX] at hst
     rw [show Run.of m (Kc h g fr inp out k) (.halt e)= .over (Kc h g fr inp out k).tick e [] from rfl,l9] at hst;refine .inl ⟨rfl,c.tick.over e,fr',g',N',h,inp,out,[], .inr ⟨rfl,?_,?_,hB.out,FB _⟩,rfl,hi,?_,Z⟩
     · rw [hst];show Oc.mk e [] out ((k+1:Nat):Int)=Oc.mk e [] out (c.fu+1);rw [hfu];rfl
     · rw [hst];rfl
     · unfold Oz;rw [hdn];show 2*(c.mo - (c.fu+1)).toNat+0 < _;omega
   · rw [hX] at hst;rw [show Run.of m (Kc h g fr inp out k) .lost= .stuck (20,(Kc h g fr inp out k).place m) from rfl,sZ] at hst;exact .inr ⟨_,hst,rfl,Z.sp⟩
theorem Tm.bad (hz:(SA m inp fuel pages).1≠0)(hs:Tm m inp fuel pages Y L u w):u= .tuple #[.pointer none,Kz (SA m inp fuel pages)]∧St Y w L:=by
 rcases hs with ⟨_,I,M⟩|⟨I,_⟩
 · exact ⟨I,M⟩
 · rw [I] at hz;exact absurd rfl hz
theorem Tm.ok (hz:(SA m inp fuel pages).1=0)(hs:Tm m inp fuel pages Y L u w):SA m inp fuel pages=(0,0)∧m.fault.1=0∧inp.length≤200∧0≤fuel∧fuel≤20000∧0≤pages∧pages≤64∧∃c' p hp fn lv iv,u= .tuple #[.pointer (some ⟨p,0,none⟩),Kz (0,0)]∧Y.Le c'∧Ks.sl c' fn m.funcs∧Kb.sl c' iv inp∧St c' w (mS p (RX hp fn lv iv fuel) [] Om 0 ⟨[],pages⟩ [] L):=by
 rcases hs with ⟨I,_⟩|I
 · exact absurd hz I
 · exact I
def oF (o:Oc)(v1 v2:Value):Value:= .agg ⟨[.int .i64 o.e,v1,v2, .int .i64 o.fuel]⟩
def me (m:Module)(inp:List Int)(fuel pages:Int)(Y:Cx)(L:List Res)(u:Value)(B:World):Prop:=
 ((SA m inp fuel pages).1≠0∧u= .tuple #[.agg ⟨[.int .i64 0, .slice none 0 0, .slice none 0 0, .int .i64 0]⟩,Kz (SA m inp fuel pages)]∧St Y B L)∨
 (SA m inp fuel pages=(0,0)∧∃c' v1 v2,Y.Le c'∧u= .tuple #[oF (Run.all m inp fuel.toNat pages).oc v1 v2,Kz (Run.all m inp fuel.toNat pages).flt]∧Kb.sl c' v1 (Run.all m inp fuel.toNat pages).oc.back∧Kb.sl c' v2 (Run.all m inp fuel.toNat pages).oc.out∧St c' B L)
theorem yI:Kb.ls Y (Qe l) l:=
 ⟨by unfold Qe;simp,fun k x hx=>⟨[.int .i64 x],by unfold Qe;rw [EZ,hx];rfl,rfl⟩⟩
theorem gp.first {hp fn lv iv:Value}(hM:m.fault.1=0)(h0:0≤fuel):gp m (Run.all m inp fuel.toNat pages) fuel.toNat (RX hp fn lv iv fuel) [] Om 0 ⟨[],pages⟩ inp [] []:=
 .inl ⟨rfl,0,rfl,rfl,rfl,rfl,FB _,(Fi h0).symm,FB _,IF hM inp pages,rfl⟩
end
section
variable {Y:Cx}{w:World}{L:List Res}{p:Nat}{c:RC}{fr:List RFV}{g:RFV}{s:EstS}{out inp back:List Int}{m:Module}{φ:RMap}
theorem WS {b:Block}(hM:m.fault.1=0)(hf:m.funcs[i]?=some f)(hb:f.blocks[j]?=some b):(∀x∈b.code,Qe5 m x)∧cr f b.fin∧b.code.length≤40∧(∀x∈b.code,x.args.length≤16):=by
 obtain ⟨q0,q1,q2⟩:=XL hM hf hb;obtain ⟨e1,e2,e3,e4⟩:=iR q2;have hcl:=(bF q0).2.2.2.2;have hto:∀{t:To},Nh f.blocks.length t true=0→ToOK f t:=fun ht=>⟨YP ht,by have:=l8 ht;omega,by have:=l8 ht;omega⟩;exact ⟨fun x hx=>⟨bu (q1 x hx),WO (q1 x hx),by have:=gg (q1 x hx);omega,by have:=gg (q1 x hx);omega⟩,⟨by have:=oE q2;omega,⟨e1,e2⟩,fun hq=>hto Ef,fun hq=>hto EE⟩,hcl,fun x hx=>by have:=gg (q1 x hx);omega⟩
theorem WT (hM:m.fault.1=0):WA m:=fun i j f b hf hb=>by
 obtain ⟨_,M,_,h4⟩:=WS hM hf hb;exact ⟨h4,M.2.1⟩
theorem yJ {φ:RMap}{h:HpS}:∀{l:List Frm}{l':List RFrm},Ti φ h l l'→∀b∈l',∃a∈l,jo φ h a b
 | [],[],_,b,hb=>by simp at hb
 | a::l,b::l',hf,x,hx=>by
   rcases E4.1 hx with rfl|hx
   · exact ⟨a,by simp,hf.1⟩
   · obtain ⟨y,hy,M⟩:=yJ hf.2 x hx;exact ⟨y,by simp [hy],M⟩
 | [],_::_,hf,_,_=>hf.elim
 | _::_,[],hf,_,_=>hf.elim
theorem mf {k:Nat}{fu:Nat}(S:SimF φ ms (KH s g fr inp out fu))(hB:Bnd m k ms)(hM:m.fault.1=0)(hk:k≤most)(hm:most≤20000):∃f b,m.funcs[g.f]?=some f∧f.blocks[g.b]?=some b∧(∀x∈b.code,Qe5 m x)∧cr f b.fin∧g.i≤1000∧fr.length≤900∧g.vals.length≤800000∧(∀x∈fr,x.vals.length≤900000)∧out.length≤2000:=by
 obtain ⟨f,b,hf,hb,I,M,h3⟩:=hB.cur;obtain ⟨b1,b2,b3,_⟩:=WS hM hf hb;obtain ⟨e1,e2,e3,e4⟩:=S.g;have e1:ms.g.f=g.f:=e1;have e2:ms.g.b=g.b:=e2;have e3:ms.g.i=g.i:=e3;have e5:ms.g.vals.length=g.vals.length:=e4.1;have hsl:=hB.sl;have hln:ms.st.length=((fr.map RFV.abs).reverse).length:=sH S.st;rw [GH,EM] at hln;have ho:ms.out=out:=S.out;rw [e1] at hf;rw [e2] at hb;refine ⟨f,b,hf,hb,b1,b2,V,V,V,fun x hx=>?_,by rw [←ho];exact hB.out⟩;obtain ⟨a,ha,h9⟩:=yJ S.st x.abs (by show x.abs∈(fr.map RFV.abs).reverse;rw [List.mem_reverse];exact JR hx);obtain ⟨_,_,_,_,_,h10,_⟩:=hB.st a ha;have:a.vals.length=x.vals.length:=h9.2.2.2.1;omega
def Rb (c:RC):Nat:=2*(c.mo - c.fu).toNat+Z8 (.bool c.dn)
def QR (m:Module)(most:Nat)(c:RC)(fr:List RFV)(g:RFV)(s:EstS)(inp out back:List Int):Run→Prop
 | .on ms=>(∃φ,SimF φ ms (KH s g fr inp out ms.fuel))∧back=[]∧c.dn=false∧c.e=0∧c.fu=ms.fuel∧ms.fuel≤most∧c.mo=most∧Bnd m ms.fuel ms∧X5 m ms
 | .over ms e b=>out=ms.out∧back=b∧c.dn=true∧c.e=e∧c.fu=ms.fuel∧out.length≤2000∧back.length≤100000∧ms.h.left=s.p.fr.length∧s.count=ms.h.live∧(e=0→l6 ms.h)
 | .stuck _=>False
theorem mg {k:Nat}(S:SimF φ ms (KH s g fr inp out k))(hR:m.runs.1=0)(hsh:m.Short)(hf:X5 m ms):MP (ms.tick.one m) ((KH s g fr inp out (k+1)).one m)∧l7 m ms.h (ms.tick.one m)∧(KH s g fr inp out (k+1)).one m≠ .crash:=by
 have I:MP (ms.tick.one m) ((KH s g fr inp out (k+1)).one m):=lZ (WT (Tk hR)) (fV S);have M:l7 m ms.h (ms.tick.one m):=yy hR hsh (yz hf);refine ⟨I,M,?_⟩
 cases hX:ms.tick.one m with
 | go s'=>rw [hX] at I;obtain ⟨r',e,_⟩:=I;rw [e];exact RStp.noConfusion
 | halt e=>rw [hX] at I;have I:_=RStp.halt e:=I;rw [I];exact RStp.noConfusion
 | done l=>rw [hX] at I;have I:_=RStp.done l:=I;rw [I];exact RStp.noConfusion
 | lost=>rw [hX] at M;exact M.elim
theorem QR.step (hP:QR m most c fr g s inp out back (.on ms))(hR:m.runs.1=0)(hsh:m.Short)(hi:Kb.sl Y c.iv inp)(hs:sc m p c fr g s inp out (ms.fuel+1) Y (sl 2 1 c.bv []::L) u w):
 u= .tuple #[]∧∃c' fr' g' s' inp' out' back',QR m most c' fr' g' s' inp' out' back' (Run.step m most (.on ms))∧c'.fn=c.fn∧Kb.sl Y c'.iv inp'∧Rb c'<Rb c∧St Y w (rS p c' fr' g' s' out' (sl 2 1 c'.bv (back'.map Qq)::L)):=by
 obtain ⟨⟨φ,S⟩, -,hdn,he0,hfu,hkm,hmo,hB,hf⟩:=hP;have hM:=Tk hR;obtain ⟨O0q,E0q,hX0⟩:=mg S hR hsh hf;have ho:ms.out=out:=S.out;have hle:ms.h.left=s.p.fr.length:=S.hr.left;have hcn:s.count=ms.h.live:=S.hr.cnt;have hol:out.length≤2000:=(by rw [←ho];exact hB.out);obtain ⟨rfl,hs⟩:=hs;refine ⟨rfl,?_⟩;rcases hs with ⟨h7,Z⟩|⟨hlt,hs⟩
 · have hst:Run.step m most (.on ms)= .over ms 7 []:=Qip (show ms.fuel=most by omega);rw [hst];refine ⟨c.over 7,fr,g,s,inp,out,[],⟨ho.symm,rfl,rfl,rfl,hfu,hol,FB _,hle,hcn,fun h=>by cases h⟩,rfl,hi,?_,Z⟩;unfold Rb;rw [hdn];show 2*(c.mo - c.fu).toNat+0<2*(c.mo - c.fu).toNat+1;omega
 · have hst:Run.step m most (.on ms)= .of m ms (ms.tick.one m):=Qin (show¬ms.fuel=most by omega)
   have hB1:(ms.tick.one m).All (Bnd m (ms.fuel+1)):=J8 (s:=ms.tick) (k:=ms.fuel) ⟨hB.cur,hB.st,hB.sl,hB.out⟩ hM;have hmm:2*(c.mo - (c.fu+1)).toNat+1<2*(c.mo - c.fu).toNat+1:=CP;have hmz:2*(c.mo - (c.fu+1)).toNat+0<2*(c.mo - c.fu).toNat+1:=CP;rcases hs with (⟨lv,iv,ov,fr',g',s',inp',out',hX,hi', -,Z⟩|⟨ns,bv,fr',g',hX, -,Z⟩)|⟨e,hX,fr',g',Z⟩
   · rw [hX] at O0q
     cases hY:ms.tick.one m with
     | lost=>rw [hY] at E0q;exact E0q.elim
     | halt e=>rw [hY] at O0q;exact AQ
     | done l=>rw [hY] at O0q;exact AQ
     | go ms'=>
       rw [hY] at O0q E0q hst hB1;rw [hst];obtain ⟨r',er,φ',S'⟩:=O0q;cases er;have hfl:ms'.fuel=ms.fuel+1:=sJ hY;refine ⟨c.tick.upd lv iv ov,fr',g',s',inp',out',[],⟨⟨φ',by rw [hfl];exact S'⟩,rfl,hdn,he0,?_,?_,hmo,by rw [hfl];exact hB1,E0q⟩,rfl,hi',?_,Z⟩
       · show c.fu+1=_;omega
       · omega
       · unfold Rb;rw [hdn];exact hmm
   · rw [hX] at O0q
     cases hY:ms.tick.one m with
     | lost=>rw [hY] at E0q;exact E0q.elim
     | halt e=>rw [hY] at O0q;exact AQ
     | go ms'=>rw [hY] at O0q;obtain ⟨r',er,_⟩:=O0q;exact absurd er RStp.noConfusion
     | done l=>
       rw [hY] at O0q E0q hst hB1;rw [hst];have hl:RStp.done ns= .done l:=O0q;cases hl;refine ⟨c.tick.did bv,fr',g',s,inp,out,ns,⟨ho.symm,rfl,rfl,he0,?_,hol,?_,hle,hcn,fun _=>E0q⟩,rfl,hi,?_,(Z.subP CR)⟩
       · show c.fu+1=((ms.fuel+1:Nat):Int);omega
       · have h8:ns.length≤8:=hB1;omega
       · unfold Rb;rw [hdn];exact hmz
   · rw [hX] at O0q
     cases hY:ms.tick.one m with
     | lost=>rw [hY] at E0q;exact E0q.elim
     | done l=>rw [hY] at O0q;exact AQ
     | go ms'=>rw [hY] at O0q;obtain ⟨r',er,_⟩:=O0q;exact absurd er RStp.noConfusion
     | halt e'=>
       rw [hY] at O0q hst;rw [hst];have hl:RStp.halt e= .halt e':=O0q;cases hl;refine ⟨c.tick.over e,fr',g',s,inp,out,[],⟨ho.symm,rfl,rfl,rfl,?_,hol,FB _,hle,hcn,fun h0=>absurd h0 (yB hY)⟩,rfl,hi,?_,Z⟩
       · show c.fu+1=((ms.fuel+1:Nat):Int);omega
       · unfold Rb;rw [hdn];exact hmz
theorem Z9 (hP:QR m most c fr g s inp out back (.on ms))(hR:m.runs.1=0)(hsh:m.Short)(hmo:most≤20000)(hfn:Ks.sl Y c.fn m.funcs)(hi:Kb.sl Y c.iv inp)(Z:St Y w (rS p c fr g s out (sl 2 1 c.bv (back.map Qq)::L))):
 Ka Tryz.prog wb [.pointer (some ⟨p,0,none⟩)] w fun u B=>u= .tuple #[]∧∃c' fr' g' s' inp' out' back',QR m most c' fr' g' s' inp' out' back' (Run.step m most (.on ms))∧c'.fn=c.fn∧Kb.sl Y c'.iv inp'∧Rb c'<Rb c∧St Y B (rS p c' fr' g' s' out' (sl 2 1 c'.bv (back'.map Qq)::L)):=by
 have hP':=hP;obtain ⟨⟨φ,S⟩,rfl,hdn,he0,hfu,hkm,hmo2,hB,hf⟩:=hP;obtain ⟨O0q,E0q,hX0⟩:=mg S hR hsh hf;obtain ⟨f,b,I,M,k1,k2,k3,k4,k5,k6,k7⟩:=mf S hB (Tk hR) hkm hmo;exact (Wa (m:=m) (f:=f) (b:=b) (inp:=inp) (fu:=ms.fuel+1) hdn hfn hi I M k1 k2 k3 k4 k5 k6 k7 ⟨V,V⟩ hX0 Z).mono fun u B hs=>hP'.step hR hsh hi hs
end
section
variable {Y:Cx}{w:World}{L:List Res}{p:Nat}{c:RC}{out:List Int}
theorem aa (Z:St Y w (blk p 66 c.cells::L)):Ka Tryz.prog Q8B [.pointer (some ⟨p,0,none⟩)] w fun u B=>u= .bool c.dn∧St Y B (blk p 66 c.cells::L):=by
 refine Kl Kh Tryz.func36 ?_;refine' Nk;refine' LG;refine' KQ;((exact Ap))
end
end Go.Proofs.YteflkifmgnpbhaaGreat
namespace Go.Proofs.YteflkifmgnpbhaaGreat
open Go.Lir

@[reducible] def yK:FuncId:=147
@[reducible] def Q9z:FuncId:=148
@[reducible] def Q9A:FuncId:=149
@[reducible] def WU:FuncId:=202
@[reducible] def Qdi:FuncId:=205
@[reducible] def Q7J:FuncId:=206
@[reducible] def Q9x:FuncId:=207
@[reducible] def Q7K:FuncId:=209
@[reducible] def Q9y:FuncId:=210
@[reducible] def yL:FuncId:=237
@[reducible] def Q9w:FuncId:=238
@[reducible] def Q8C:FuncId:=239
@[reducible] def s7:FuncId:=240
@[reducible] def yM:FuncId:=241
@[reducible] def yN:FuncId:=242
@[reducible] def Qao:FuncId:=243
@[reducible] def yO:FuncId:=244
@[reducible] def Q7H:FuncId:=245
@[reducible] def Q7I:FuncId:=246
@[reducible] def Q7G:FuncId:=247
@[reducible] def Q8D:FuncId:=248
@[reducible] def Qan:FuncId:=249
@[reducible] def Q8E:FuncId:=250
@[reducible] def yP:FuncId:=251
@[reducible] def yQ:FuncId:=261
@[reducible] def yR:FuncId:=264
end Go.Proofs.YteflkifmgnpbhaaGreat
namespace Go.Lir
section
section
variable {P:Program}{l:List GO}{Q:QT}{U:KD}{w:World}
def WV (P : Program)(f : Field)(i : Nat): Prop := f.name ≠ "_" ∧ (∃ k, P.underlying f.type = some (.int k)) ∧ f.offset = i ∧ Tp P f.type = true
theorem yS (k:Nat){q:IntKind}{a b:Int}{kk:IntKind}(ht:P.underlying T=some (.int q)):(Op.equalIn (k+1) T (.int kk a) (.int kk b)).run P w0= .ok (a==b) w0:=by
 simp only [Op.equalIn,Fb,Qa P T _ w0 ht,EX];simp [Fp]
def SB (P : Program)(f : Field)(i : Nat): Bool := f.name != "_" && (match P.underlying f.type with | some (.int _) => true | _ => false) && f.offset == i && Tp P f.type
theorem yT {f:Field}(h:SB P f i=true):WV P f i:=by
 unfold SB at h;simp only [EW,bne_iff_ne,ne_eq,beq_iff_eq] at h;obtain ⟨⟨⟨I,M⟩,h3⟩,h4⟩:=h;refine ⟨I,?_,h3,h4⟩;split at M
 · rename_i k hk;exact ⟨k,hk⟩
 · cases M
end
end
section
section
variable {P:Program}{l:List GO}{Q:QT}{U:KD}{w:World}
theorem ae (k:Nat){f0 f1:Field}{a0 a1 b0 b1:Int}(ht:P.underlying T=some (.struct #[f0,f1]))(hh:P.stoodInHeld T=false)
 (h0:WV P f0 0)(I:WV P f1 1):
 (Op.equalIn (k+2) T (.agg ⟨[.int .i64 a0, .int .i64 a1]⟩) (.agg ⟨[.int .i64 b0, .int .i64 b1]⟩)).run P w0= .ok (a0==b0 && a1==b1) w0:=by
 obtain ⟨n0,⟨q0,u0⟩,o0,s0⟩:=h0;obtain ⟨n1,⟨q1,u1⟩,o1,s1⟩:=I;have hp:∀(T:TypeId) (cs:Array Value) (off:Nat) (v:Value) (w:World),Tp P T=true→cs[off]?=some v→(part T cs off).run P w= .ok v w:=fun T cs off v w h hv=>oV P T cs off v w h hv;unfold Op.equalIn;simp only [Fb,Qa P T _ w0 ht,EX];simp [hh,n0,n1,o0,o1,yS _ u0,yS _ u1,hp _ _ _ _ _ s0,hp _ _ _ _ _ s1];by_cases e0:a0=b0<;>by_cases e1:a1=b1<;>simp [e0,e1]
def ag (P:Program)(T:TypeId):Prop:=∃f0 f1:Field,P.underlying T=some (.struct #[f0,f1])∧P.stoodInHeld T=false∧P.eqGuardType P.depth T=false∧WV P f0 0∧WV P f1 1
def cE (P:Program)(T:TypeId):Bool:=match P.underlying T with
 | some (.struct fs)=>match fs.toList with
   | [f0,f1]=> !P.stoodInHeld T && !P.eqGuardType P.depth T && SB P f0 0 && SB P f1 1
   | _=>false
 | _=>false
theorem ah (h:cE P T=true):ag P T:=by
 unfold cE at h;split at h
 · rename_i fs hu
   split at h
   · rename_i f0 f1 hf;simp only [EW,Gc] at h;obtain ⟨⟨⟨I,M⟩,h3⟩,h4⟩:=h;have:fs=#[f0,f1]:=(by apply HB;exact hf);subst this;exact ⟨f0,f1,hu,I,M,yT h3,yT h4⟩
   · cases h
 · cases h
theorem WW (a0 a1 b0 b1:Int):(a0==b0 && a1==b1)=decide ((a0,a1)=(b0,b1)):=by
 rw [Bool.eq_iff_iff];simp
theorem mh {x y:Operand}{a b:Int×Int}(hT:ag P T)(hx:U.ev x= .agg ⟨[.int .i64 a.1, .int .i64 a.2]⟩)(hy:U.ev y= .agg ⟨[.int .i64 b.1, .int .i64 b.2]⟩)
 (h:Q0 P l Q (upd U d (.bool (!decide (a=b)))) w):Q0 P (⟨none, .bin d .neq T x y⟩::l) Q U w:=by
 obtain ⟨f0,f1,ht,hh,hg,h0,I⟩:=hT;exact ⟨.bool (!decide (a=b)),fun w0=>by rw [hx,hy];simp only [Fb,run_eqGuard_agg w0 .neq T x y _ _ hg,EX,run_neq_struct,ae 9998 ht hh h0 I,WW],h⟩
theorem s8 {x y:Operand}{a:Int×Int}(hT:ag P T)(hx:U.ev x= .agg ⟨[.int .i64 a.1, .int .i64 a.2]⟩)(hy:U.ev y= .agg ⟨[.int .i64 a.1, .int .i64 a.2]⟩)
 (h:Q0 P l Q (upd U d (.bool false)) w):Q0 P (⟨none, .bin d .neq T x y⟩::l) Q U w:=mh hT hx hy (by rw [decide_eq_true rfl];exact h)
theorem St.freeze1 {r:Rep α}{c:Cx}{T b:Nat}{cs:List Value}{x:α}(h:St c w (blk b T cs::L))(hr:r.at c cs x):∃c',c.Le c'∧St c' w L∧r.sl c' (.slice (some ⟨b,0,none⟩) 1 1) [x]:=by
 have I:St c w (sl T r.es (.slice (some ⟨b,0,none⟩) 1 1) [cs]::L):=h.slOf (css:=[cs]) Js (by intro q hq;simp at hq;subst hq;exact r.len hr) rfl;exact I.freezeL (r:=r) ((Gd r _ _).push hr) rfl Js
abbrev Gh:=@St.freeze1
end
end
end Go.Lir
namespace Go.Proofs.YteflkifmgnpbhaaGreat
open Go.Lir
attribute [local irreducible] LC.wp Q0 Qp Qk KN Qw LO.wp Q6 Calls
section
attribute [local irreducible] Kt L4 My Na
variable {Y:Cx}{w:World}{L:List Res}
def aj (hp:Nat)(h:List Bool):Res:=Res.ex fun v=>star (blk hp 296 [v]) (sl 4 1 v (h.map QH))
theorem jt {hp:Nat}{h:List Bool}(Z:St Y w (aj hp h::L)):∃v,St Y w (blk hp 296 [v]::sl 4 1 v (h.map QH)::L):=by
 obtain ⟨v,Z⟩:=St.ex Z;exact ⟨v,Z.star⟩
theorem gq {hp:Nat}{h:List Bool}{v:Value}(Z:St Y w (blk hp 296 [v]::sl 4 1 v (h.map QH)::L)):St Y w (aj hp h::L):=Jh v Z.star'
theorem WX {hp:Nat}{h:List Bool}{v:Value}{r:Int}(Z:St Y w (blk hp 296 [v]::sl 4 1 v (h.map QH)::L)):
 Ka Tryz.prog yQ [.pointer (some ⟨hp,0,none⟩), .int .i64 r] w fun u B=>u= .bool (Kt h r)∧St Y B (blk hp 296 [v]::sl 4 1 v (h.map QH)::L):=by
 (have hlen:(h.map QH).length=h.length:=EM _;refine Kl Kh Tryz.func261 ?_;refine' Nk;(refine' Ag<;>intro O);all_goals (refine' S5;refine' MD;refine' SZ;first|refine' Kj|(refine' Kg;refine' Ae<;>intro O)));all_goals (refine' Po;refine' bK;refine' MD;refine' Mu;(first|refine' Kj|(refine' Kg;refine Y0 Z ?_;intro b1 o1 hel1));(first|refine' Kj|(refine' Kg;refine kq Z ?_));refine' Lw;refine' KQ;refine ⟨_,rfl,?_,Z.sp⟩;unfold Kt;simp [*];done)
theorem mi {hp:Nat}{h:List Bool}{v:Value}(Z:St Y w (blk hp 296 [v]::sl 4 1 v (h.map QH)::L)):
 Ka Tryz.prog yM [.pointer (some ⟨hp,0,none⟩)] w fun u B=>u= .int .i64 h.length∧St Y B (blk hp 296 [v]::sl 4 1 v (h.map QH)::L):=by
 have hlen:(h.map QH).length=h.length:=EM _;refine Kl Kh Tryz.func241 ?_;refine' Nk;refine' LG;refine PZ Z ?_;refine' KQ;(((refine ⟨_,rfl,?_,Z.sp⟩;(rfl);done)))
theorem WY {hp:Nat}{h:List Bool}{v:Value}(hl:h.length≤16)(Z:St Y w (blk hp 296 [v]::sl 4 1 v (h.map QH)::L)):
 Ka Tryz.prog yP [.pointer (some ⟨hp,0,none⟩)] w fun u B=>∃c',Y.Le c'∧Kb.sl c' u (L4 h)∧St c' B (blk hp 296 [v]::sl 4 1 v (h.map QH)::L):=by
 have hlen:(h.map QH).length=h.length:=EM _;refine Kl Kh Tryz.func251 ?_;refine' LS;refine' MV;refine' LG;refine PZ Z ?_;refine' OG;have Z:=Gg (T:=3) (es:=1) Z;refine zo [9,10] (fun A ρ' B=>∃(j:Nat) (vo:Value) (co:List (List Value)),Ki ρ' A∧Ki ρ' [(11, .int .i64 j),(3,vo)]∧(j≤h.length)∧(Kb.ls Y co (Na h j))∧St Y B (sl 3 1 vo co::blk hp 296 [v]::sl 4 1 v (h.map QH)::L)) (fun ρ' _=>(h.length - iv (ρ' 11)).toNat) ?_ ?_
 · exact BP
 rintro U E ⟨j,vo,co,hA,hρ,hj,hls,Z⟩;obtain ⟨U,rfl⟩:=Km hA hρ;have hll:=ql h j;have hsu:=nk h j;refine' Nd;refine' Ab<;>intro O
 · skip
   refine' Mi;refine' KX;refine SX Z ?_;intro b1 o1 hel1;refine kq Z ?_;refine' X0;refine' LS;refine' Aa<;>intro O
   · refine' NH;refine KO Z [_] ?_;intro b1 E Z;refine za RQ Sk Z ?_;intro vp1 E css1 hls1 hv1 Z;have Z:=Z.ns;refine' Kv;refine' O1;(exact Cn)
   · refine' Ko;refine' O1;(exact BD)
 · refine' S8;(refine ⟨_,rfl,?_⟩;obtain ⟨c',hle,hS',hk⟩:=FV (r:=Kb) Z hls rfl V;refine ⟨c',hle,?_,hS'⟩;rw [show j=h.length by omega] at hk;unfold L4;exact hk)
theorem gr {hp:Nat}{h:List Bool}{v:Value}(hl:h.length<16)(Z:St Y w (blk hp 296 [v]::sl 4 1 v (h.map QH)::L)):
 Ka Tryz.prog yN [.pointer (some ⟨hp,0,none⟩)] w fun u B=>u= .int .i64 h.length∧∃v',St Y B (blk hp 296 [v']::sl 4 1 v' ((h++[true]).map QH)::L):=by
 have hlen:(h.map QH).length=h.length:=EM _;refine Kl Kh Tryz.func242 ?_;refine' MV;refine' LG;refine PZ Z ?_;refine' PE;refine' RJ;refine' KW;refine' LG;refine KO Z [_] ?_;intro b1 E Z;((refine Mx kO (.inl nP) Z vw vw fd (Z.srcB1 fd rfl) CT ?_;intro vp w2 Z;have Z:=Z.ns;rw [show h.map QH++[[Value.bool true]]=(h++[true]).map QH by simp [QH]] at Z));refine' LF;((refine Lv Z ?_;intro E Z;have Z:=Z.ns));refine' LA;have hlen1:(h++[true]).length=h.length+1:=C3;refine' P6;refine PZ Z ?_;refine' NY;refine' KQ;((exact ⟨_,rfl,(by congr 1;omega),_,Z.sp⟩))
theorem gu {hp:Nat}{h:List Bool}{v:Value}{r:Int}(hr:Kt h r=true)(Z:St Y w (blk hp 296 [v]::sl 4 1 v (h.map QH)::L)):
 Ka Tryz.prog yO [.pointer (some ⟨hp,0,none⟩), .int .i64 r] w fun u B=>u= .bool true∧St Y B (blk hp 296 [v]::sl 4 1 v ((h.set r.toNat false).map QH)::L):=by
 have hlen:(h.map QH).length=h.length:=EM _;have hr':=dw hr;refine Kl Kh Tryz.func244 ?_;refine' LS;refine' KW;refine SN rfl (WX Z) ?_;rintro v1 E ⟨rfl,Z⟩;rw [hr];refine' MU;refine' LS;refine' Kf;refine' P6;refine' zm;((refine Y0 Z ?_;intro b1 o1 hel1));((refine vS Z ?_;intro E Z;have Z:=Z.ns));refine' L8;refine' KQ;(((refine ⟨_,rfl,?_,Z.sp⟩;(rfl);done)))
theorem gv {hp:Nat}{h:List Bool}{v:Value}(hl:h.length≤16)(hx:Kb.sl Y v2 xs)(Z:St Y w (blk hp 296 [v]::sl 4 1 v (h.map QH)::L)):
 Ka Tryz.prog yR [.pointer (some ⟨hp,0,none⟩),v2] w fun u B=>u= .int .i64 (My h [] xs)∧∃c',Y.Le c'∧St c' B (blk hp 296 [v]::sl 4 1 v (h.map QH)::L):=by
 have hlen:(h.map QH).length=h.length:=EM _;have hxl:=hx.len;refine Kl Kh Tryz.func264 ?_;refine' Nk;refine' LG;refine PZ Z ?_;refine Yy kO Z rfl rfl V V ?_;intro v5 E Z;rw [Fa] at Z;refine' P3;have Z:St Y _ (sl 4 1 v5 ((RB h []).map QH)::blk hp 296 [v]::sl 4 1 v (h.map QH)::L):=(by rw [Qi6,HA];exact Z);refine' Lp;refine' Ob;refine zo [0,1,5,14,15] (fun A ρ' B=>∃(j:Nat),Ki ρ' A∧Ki ρ' [(16, .int .i64 j)]∧(j≤xs.length)∧(My h [] xs=My h (xs.take j) (xs.drop j))∧St Y B (sl 4 1 v5 ((RB h (xs.take j)).map QH)::blk hp 296 [v]::sl 4 1 v (h.map QH)::L)) (fun ρ' _=>(xs.length - iv (ρ' 16)).toNat) ?_ ?_
 · exact AT
 rintro U E ⟨j,hA,hρ,hj,hgo,Z⟩;obtain ⟨U,rfl⟩:=Km hA hρ;have hln:=Qi7 h (xs.take j);have hlm:((RB h (xs.take j)).map QH).length=h.length:=(by rw [EM,hln]);refine' Nd;refine' Ab<;>intro O
 · skip
   refine' i9;refine' zi;intro b1 o1 cs1 x1 hat1 hx1 he1;obtain rfl:=Qy he1;refine MG Z ?_;refine' P3;rw [Q7 hx1,My] at hgo;refine' NH;refine SN rfl (WX (L:=sl 4 1 v5 ((RB h (xs.take j)).map QH)::L) Z.sp) ?_;rintro v1 E ⟨rfl,Z⟩;refine' O2;refine' Aa<;>intro O
   · refine' KM;(exact ⟨_,rfl,Ej,Y,Fs Z,Z.sp⟩)
   · skip
     have hc1:Kt h x1=true:=Db;have hr:=dw hc1;rw [Qip hc1] at hgo;have hsg:(RB h (xs.take j)).getD x1.toNat false=decide (x1∈xs.take j):=Qi8 V V;have hgetS:=Tu QH (RB h (xs.take j)) false (m:=x1.toNat) V;refine' Ko;refine' RH;((refine Y0 Z ?_;intro b2 o2 hel2));refine kq Z ?_;refine' zn;refine' Aa<;>intro O
     · have hc2:x1∈xs.take j:=(by rw [hsg] at O;exact of_decide_eq_true O);rw [Qip hc2] at hgo;refine' KM;((exact ⟨_,rfl,hgo ▸ rfl,Y,Fs Z,Z.sp⟩))
     · have hc2:x1∉xs.take j:=(by rw [hsg] at O;exact of_decide_eq_false O);rw [Qin hc2] at hgo;refine' Ko;refine' NH;((refine Y0 Z ?_;intro b3 o3 hel3));((refine vS Z ?_;intro E Z;have Z:=Z.ns));refine' S9;((exact ⟨⟨j+1,zh,zh,V,by rw [hgo,Us hx1],by rw [Us hx1,←Qi5 hr.1];exact Z.sp⟩,Qh V⟩))
 · skip
   refine' LV;refine' MN;have hie:j=xs.length:=CP;subst hie;rw [HP,List.drop_length,My] at hgo;refine' Lp;refine' zL;refine' zm;refine SN rfl (WY (L:=L) hl Z.sp) ?_;rintro v5 w5 ⟨c5,hle5,hk5,Z⟩;refine' zL;(refine' Ae<;>intro O);all_goals (refine' zn)
   all_goals
    first
    | (refine' Kf;refine' KM;(exact ⟨_,rfl,(by rw [hgo,Qip V]),c5,hle5,Z.sp⟩))
    | (refine' Kd;refine' Ko)
   refine' KM;(exact ⟨_,rfl,(by rw [hgo,Qin V]),c5,hle5,Z.sp⟩)
theorem mj {n:Int}(Z:St Y w L):Ka Tryz.prog WU [.int .i64 n] w fun u B=>∃hp v,u= .pointer (some ⟨hp,0,none⟩)∧St Y B (blk hp 296 [v]::sl 4 1 v ((List.replicate (min n 16).toNat true).map QH)::L):=by
 refine Kl Kh Tryz.func202 ?_;refine' LS;refine' Kn;refine Ly [_] ?_;refine zb Z ?_;intro p5 E Z;refine' Ou;refine jO rfl rfl ?_;refine' OG;have Z:=Gg (T:=4) (es:=1) Z;refine zo [3,7] (fun A ρ' B=>∃(j:Nat) (v:Value),Ki ρ' A∧Ki ρ' [(8, .int .i64 j)]∧(j≤(min n 16).toNat)∧St Y B (sl 4 1 v ((List.replicate j true).map QH)::blk p5 296 [v]::L)) (fun ρ' _=>(min n 16 - iv (ρ' 8)).toNat) ?_ ?_
 · exact ⟨0,_,zh,zh,V,Z.sp⟩
 rintro U E ⟨j,v,hA,hρ,hj,Z⟩;obtain ⟨U,rfl⟩:=Km hA hρ;refine' Nd;refine' Ab<;>intro O
 · refine' Mi;refine' NH;refine' LG;refine KO Z [_] ?_;intro b1 E Z;refine Mx kO (.inl nP) Z vw vw fd (Z.srcB1 fd rfl) CT ?_;intro vp w2 Z;have Z:=Z.ns;rw [show (List.replicate j true).map QH++[[Value.bool true]]=(List.replicate (j+1) true).map QH by rw [H4,E7];rfl] at Z;refine' LF;refine Lv Z ?_;intro E Z;have Z:=Z.ns;refine' S9;(exact ⟨⟨j+1,_,zh,zh,V,Z.sp⟩,Qh V⟩)
 · refine' S8;(exact Ci)
end
section
theorem WZ {k r:Int}{l:List Ty}{to:List Int}(h:k≠1∧(r<0∨(to.length:Int)≤r)):Ty.ren (.mk k r l) to=none:=by
 rw [Ty.ren,Qip V]
theorem yU {k r x:Int}{l:List Ty}{to:List Int}(hk:k≠1)(hx:to[r.toNat]?=some x)(h:x<0):Ty.ren (.mk k r l) to=none:=by
 rw [Ty.ren,Qip ⟨hk, .inr (.inr (by rw [EL,hx];exact h))⟩]
theorem QiV {k r:Int}{l:List Ty}{to:List Int}(h:k=1):Ty.ren (.mk k r l) to=(Tys.ren l to).map (Ty.mk k r):=by
 subst h;rw [Ty.ren,Qin V];cases Tys.ren l to<;>rfl
theorem fW {k r x:Int}{l:List Ty}{to:List Int}(hk:k≠1)(h0:0≤r)(I:r<to.length)(hx:to[r.toNat]?=some x)(h:0≤x):Ty.ren (.mk k r l) to=(Tys.ren l to).map (Ty.mk k x):=by
 have hd:to.getD r.toNat 0=x:=(by rw [EL,hx];rfl);rw [Ty.ren,Qin V,hd]
 cases Tys.ren l to with
 | none=>rfl
 | some m=>simp [hk]
theorem yV {l:List Ty}{to:List Int}{x:Ty}(hd:Tys.ren l to=(Tys.ren (l.drop j) to).map (us++·))(hx:l[j]?=some x)(hn:x.ren to=none):Tys.ren l to=none:=by
 rw [hd,Q7 hx,Tys.ren,hn];rfl
theorem QcZ {l:List Ty}{to:List Int}{x y:Ty}(hd:Tys.ren l to=(Tys.ren (l.drop j) to).map (us++·))(hx:l[j]?=some x)(hn:x.ren to=some y):Tys.ren l to=(Tys.ren (l.drop (j+1)) to).map ((us++[y])++·):=by
 rw [hd,Q7 hx,Tys.ren,hn];cases Tys.ren (l.drop (j+1)) to<;>simp
theorem yW {l:List Ty}{to:List Int}(hd:Tys.ren l to=(Tys.ren (l.drop j) to).map (us++·))(hj:l.length≤j):Tys.ren l to=some us:=by
 rw [hd,ES hj,Tys.ren];simp
theorem W0:∀(t:Ty),t.Short→∀{Y:Cx}{w:World}{L:List Res}{cs:List Value}{v2:Value}{to:List Int},KA.at Y cs t→Kb.sl Y v2 to→St Y w L→
 Ka Tryz.prog QcH [.agg ⟨cs⟩,v2] w fun u B=>∃c' ds,u= .tuple #[.agg ⟨ds⟩, .bool (t.ren to).isSome]∧Y.Le c'∧KA.at c' ds ((t.ren to).getD (.mk 0 0 []))∧St c' B L:=by
 intro t
 induction t using GS with
 | h k r l ih=>
   intro hs Y w L cs v2 to ht hto Z;obtain ⟨v,rfl,hl⟩:=Ql ht;simp only [Ty.kind,Ty.r,Ty.l] at hl ht ⊢;obtain ⟨hlen,hsub⟩:=hs.parts;have hle:=Fs Z;refine Kl Kh Tryz.func263 ?_;refine' KU;intro p2 E Z;refine Qb Z ?_;(intro p4 E Z);refine' Kv;refine' L5;refine' KJ;refine M8 [_,_,_] ?_;refine Qb Z ?_;(intro p6 E Z);((refine Kp Z ?_;intro E Z;have Z:=Z.ns));refine' zn;refine zM [1,2,4,6] (fun A ρ' B=>∃(r2:Int),Ki ρ' A∧Ki ρ' []∧(Ty.ren (.mk k r l) to=(Tys.ren l to).map (Ty.mk k r2))∧St Y B (blk p6 115 [.int .i64 k, .int .i64 r2, .slice none 0 0]::blk p4 115 [.int .i64 0, .int .i64 0, .slice none 0 0]::blk p2 115 [.int .i64 k, .int .i64 r,v]::L)) ?_ ?_
   · skip
     refine' L5;(refine' Ad<;>intro O);all_goals (refine' zn)
     all_goals
      first
      | (refine' Kf
         ((refine' Nq;(refine' Ae<;>intro O);all_goals (refine' LH;refine' Mu;refine' ML;first|refine' Kj|(refine' Kg;refine' Ag<;>intro O)));all_goals (refine' Po;refine' MD;(first|refine' Kj|(refine' Kg;refine' zj;intro b1 o1 cs1 x1 hat1 hx1 he1;obtain rfl:=Qy he1));refine' dP;first|refine' Kj|(refine' Kg;refine' Ae<;>intro O)));all_goals (refine' Ld)
         all_goals
          first
          | (refine' Kf;all_goals (refine' Kn;refine Ly [_,_,_] ?_;refine Kp Z ?_;intro E Z;have Z:=Z.ns;refine' Mo;refine QD vw (Q3 (n:=3) Jk Jk (Z.blkAt fd) Jr Jr) vw ?_);all_goals (first|(rw [WZ V];exact AD)|(rw [yU V hx1 V];exact AD)))
          | (refine' Kd;refine' Ko)
         refine' OK;refine' zj;intro b2 o2 cs2 x2 hat2 hx2 he2;obtain rfl:=Qy he2;refine MG Z ?_;refine' XQ;intro E Z;have Z:=Z.ns;refine' zn)
      | (refine' Kd;refine' Ko)
     all_goals ((exact Ai))
   rintro U E ⟨r2,hA,hρ,hr,Z⟩;obtain ⟨U,rfl⟩:=Km hA hρ;refine' Nq;refine' Ob;refine zo [1,4,6,45,46] (fun A ρ' B=>∃(k0:Cx) (j:Nat) (u:Value) (css:List (List Value)) (us:List Ty),Ki ρ' A∧Ki ρ' [(47, .int .i64 j)]∧(Y.Le k0)∧(j≤l.length)∧(us.length=j)∧(Tys.ren l to=(Tys.ren (l.drop j) to).map (us++·))∧(KA.ls k0 css us)∧(oneC u=true)∧St k0 B (sl 115 3 u css::blk p6 115 [.int .i64 k, .int .i64 r2,u]::blk p4 115 [.int .i64 0, .int .i64 0, .slice none 0 0]::blk p2 115 [.int .i64 k, .int .i64 r,v]::L)) (fun ρ' _=>(l.length - iv (ρ' 47)).toNat) ?_ ?_
   · exact Ck
   rintro U E ⟨k0,j,u,css,us,hA,hρ,hle2,hj,hus,hd,hls,hu,Z⟩;obtain ⟨U,rfl⟩:=Km hA hρ;have hL0:=hle2;(try have hle:=hle.trans hle2);(try have hl:=hl.up hle2);(try have hto:=hto.up hle2);refine' Nd;refine' Ab<;>intro O
   · skip
     refine' XX;intro b3 o3 cs3 x3 hat3 hx3 he3;obtain ⟨vl3,rfl,hl3⟩:=Ql he3;refine' NG;intro p8 E Z;refine Kp Z ?_;intro E Z;have Z:=Z.ns;refine' RP;refine' zm;refine' Kk (c:=ih _ (EK hx3) (hsub _ (EK hx3)) he3 hto Z);rintro v1 E ⟨c1,ds,rfl,hle2,hd1,Z⟩;obtain ⟨y,hy⟩:∃y,(x3.ren to).getD (.mk 0 0 [])=y:=⟨_,rfl⟩;rw [hy] at hd1;obtain ⟨v7,rfl,hv7⟩:=Ql hd1;(try have hle:=hle.trans hle2);(try have hL0:=hL0.trans hle2);(try have hls:=hls.up hle2);cases hg:x3.ren to;all_goals (refine' Rk;intro p9 E Z;refine Kp Z ?_;intro E Z;have Z:=Z.ns;refine' i7)
     all_goals
      first
      | (refine' Kf;refine' Kn;refine Ly [_,_,_] ?_;refine Kp Z ?_;intro E Z;have Z:=Z.ns;refine' Mo;refine QD vw (Q3 (n:=3) Jk Jk (Z.blkAt fd) Jr Jr) vw ?_;(rw [hr,yV hd hx3 hg];exact AD))
      | (refine' Kd;refine' Ko)
     refine' S2;refine zv Z ?_;refine KO Z [_,_,_] ?_;intro b1 E Z;refine za RT Sm Z ?_;intro vp1 E css1 hls1 hv1 Z;have Z:=Z.ns;refine' XQ;intro E Z;have Z:=Z.ns;refine' S9;(exact CE)
   · refine' LV;refine' MM;refine Kp Z ?_;intro E Z;have Z:=Z.ns;refine' Mo;refine QD vw (Q3 (n:=3) Jk Jk (Z.blkAt fd) Jr Jr) vw ?_;(rw [hr,yW hd V];obtain ⟨c3,hle3,Z,hl3⟩:=FV (r:=KA) (l:=us) (T:=115) (es:=3) (v:=u) (css:=css) (L:=L) Z.sp hls rfl V;exact ⟨_,rfl,c3,_,rfl,hle.trans hle3,Ry hl3,Z⟩)
theorem s9:∀(t:Ty),t.Short→∀{Y:Cx}{w:World}{L:List Res}{cs:List Value}{v2:Value}{to:List Int},KA.at Y cs t→Kb.sl Y v2 to→St Y w L→
 Ka Tryz.prog Qkl [.agg ⟨cs⟩,v2] w fun u B=>∃c' ds,u= .tuple #[.agg ⟨ds⟩, .bool (t.ren to).isSome]∧Y.Le c'∧KA.at c' ds ((t.ren to).getD (.mk 0 0 []))∧St c' B L:=by
 intro t
 induction t using GS with
 | h k r l ih=>
   intro hs Y w L cs v2 to ht hto Z;obtain ⟨v,rfl,hl⟩:=Ql ht;simp only [Ty.kind,Ty.r,Ty.l] at hl ht ⊢;obtain ⟨hlen,hsub⟩:=hs.parts;have hle:=Fs Z;refine Kl Kh Tryz.func155 ?_;refine' KU;intro p2 E Z;refine Qb Z ?_;(intro p4 E Z);refine' Kv;refine' L5;refine' KJ;refine M8 [_,_,_] ?_;refine Qb Z ?_;(intro p6 E Z);((refine Kp Z ?_;intro E Z;have Z:=Z.ns));refine' zn;refine zM [1,2,4,6] (fun A ρ' B=>∃(r2:Int),Ki ρ' A∧Ki ρ' []∧(Ty.ren (.mk k r l) to=(Tys.ren l to).map (Ty.mk k r2))∧St Y B (blk p6 115 [.int .i64 k, .int .i64 r2, .slice none 0 0]::blk p4 115 [.int .i64 0, .int .i64 0, .slice none 0 0]::blk p2 115 [.int .i64 k, .int .i64 r,v]::L)) ?_ ?_
   · skip
     refine' L5;(refine' Ad<;>intro O);all_goals (refine' zn)
     all_goals
      first
      | (refine' Kf
         (refine' Nq;(refine' Ae<;>intro O);all_goals (refine' LH;refine' Mu;refine' ML;first|refine' Kj|(refine' Kg;refine' Ag<;>intro O)));all_goals (refine' Ld)
         all_goals
          first
          | (refine' Kf;all_goals (refine' Kn;refine Ly [_,_,_] ?_;refine Kp Z ?_;intro E Z;have Z:=Z.ns;refine' Mo;refine QD vw (Q3 (n:=3) Jk Jk (Z.blkAt fd) Jr Jr) vw ?_);all_goals (rw [WZ V];exact AD))
          | (refine' Kd;refine' Ko)
         refine' Lb;refine' KJ;refine' zj;intro b1 o1 cs1 x1 hat1 hx1 he1;obtain rfl:=Qy he1;refine MG Z ?_;(refine' Ae<;>intro O);all_goals (refine' zn)
         all_goals
          first
          | (refine' Kf;refine' Kn;refine Ly [_,_,_] ?_;refine Kp Z ?_;intro E Z;have Z:=Z.ns;refine' Mo;refine QD vw (Q3 (n:=3) Jk Jk (Z.blkAt fd) Jr Jr) vw ?_;(rw [yU V hx1 V];exact AD))
          | (refine' Kd;refine' Ko)
         refine' OK;refine' zj;intro b2 o2 cs2 x2 hat2 hx2 he2;obtain rfl:=Qy he2;refine MG Z ?_;refine' XQ;intro E Z;have Z:=Z.ns;refine' zn)
      | (refine' Kd;refine' Ko)
     all_goals ((exact Ai))
   rintro U E ⟨r2,hA,hρ,hr,Z⟩;obtain ⟨U,rfl⟩:=Km hA hρ;refine' Nr;refine zo [1,2,4,6] (fun A ρ' B=>∃(k0:Cx) (j:Nat) (u:Value) (css:List (List Value)) (us:List Ty),Ki ρ' A∧Ki ρ' [(7, .int .i64 j)]∧(Y.Le k0)∧(j≤l.length)∧(us.length=j)∧(Tys.ren l to=(Tys.ren (l.drop j) to).map (us++·))∧(KA.ls k0 css us)∧(oneC u=true)∧St k0 B (sl 115 3 u css::blk p6 115 [.int .i64 k, .int .i64 r2,u]::blk p4 115 [.int .i64 0, .int .i64 0, .slice none 0 0]::blk p2 115 [.int .i64 k, .int .i64 r,v]::L)) (fun ρ' _=>(l.length - iv (ρ' 7)).toNat) ?_ ?_
   · exact Ck
   rintro U E ⟨k0,j,u,css,us,hA,hρ,hle2,hj,hus,hd,hls,hu,Z⟩;obtain ⟨U,rfl⟩:=Km hA hρ;have hL0:=hle2;(try have hle:=hle.trans hle2);(try have hl:=hl.up hle2);(try have hto:=hto.up hle2);refine' P4;refine' Ab<;>intro O
   · skip
     refine' XR;intro b3 o3 cs3 x3 hat3 hx3 he3;obtain ⟨vl3,rfl,hl3⟩:=Ql he3;refine N8 Z ?_;refine' zm;refine' Kk (c:=ih _ (EK hx3) (hsub _ (EK hx3)) he3 hto Z);rintro v1 E ⟨c1,ds,rfl,hle2,hd1,Z⟩;obtain ⟨y,hy⟩:∃y,(x3.ren to).getD (.mk 0 0 [])=y:=⟨_,rfl⟩;rw [hy] at hd1;obtain ⟨v7,rfl,hv7⟩:=Ql hd1;(try have hle:=hle.trans hle2);(try have hL0:=hL0.trans hle2);(try have hls:=hls.up hle2);cases hg:x3.ren to;all_goals (refine' Rk;intro p8 E Z;refine Kp Z ?_;intro E Z;have Z:=Z.ns;refine' i7)
     all_goals
      first
      | (refine' Kf;refine' Kn;refine Ly [_,_,_] ?_;refine Kp Z ?_;intro E Z;have Z:=Z.ns;refine' Mo;refine QD vw (Q3 (n:=3) Jk Jk (Z.blkAt fd) Jr Jr) vw ?_;(rw [hr,yV hd hx3 hg];exact AD))
      | (refine' Kd;refine' Ko)
     refine' S2;refine zv Z ?_;refine KO Z [_,_,_] ?_;intro b1 E Z;refine za RT Sm Z ?_;intro vp1 E css1 hls1 hv1 Z;have Z:=Z.ns;refine' XQ;intro E Z;have Z:=Z.ns;refine' zn;refine' Mn;(exact CE)
   · refine' LV;refine' MM;refine Kp Z ?_;intro E Z;have Z:=Z.ns;refine' Mo;refine QD vw (Q3 (n:=3) Jk Jk (Z.blkAt fd) Jr Jr) vw ?_;(rw [hr,yW hd V];obtain ⟨c3,hle3,Z,hl3⟩:=FV (r:=KA) (l:=us) (T:=115) (es:=3) (v:=u) (css:=css) (L:=L) Z.sp hls rfl V;exact ⟨_,rfl,c3,_,rfl,hle.trans hle3,Ry hl3,Z⟩)
end
section
attribute [local irreducible] Kt L4 My Na
section
variable {P:Program}{l:List GO}{Q:QT}{U:KD}
variable {Y:Cx}{w:World}{L:List Res}
structure JP where
 sp:Nat
 hp:Nat
 f:Fun
 vm:Value
 vp:Value
 vr:Value
 vb:Value
structure JP.Fits (j:JP) (Y:Cx) (m:Module):Prop where
 m:Ks.sl Y j.vm m.funcs
 p:KA.sl Y j.vp j.f.params
 r:KA.sl Y j.vr j.f.results
 b:K3.sl Y j.vb j.f.blocks
theorem JP.Fits.up {j:JP}{Y cx':Cx}(h:j.Fits Y m)(hle:Y.Le cx'):j.Fits cx' m:=⟨h.m.up hle,h.p.up hle,h.r.up hle,h.b.up hle⟩
@[reducible] def JP.cells (j:JP)(vl:Value):List Value:=[.pointer (some ⟨j.hp,0,none⟩),j.vm, .int .i64 j.f.regs,j.vp,j.vr,j.vb,vl]
def JP.res (j:JP)(h:List Bool)(vl:Value)(css:List (List Value)):Res:=star (blk j.sp 258 (j.cells vl)) (star (aj j.hp h) (sl 115 3 vl css))
variable {j:JP}{h:List Bool}{vl:Value}{css:List (List Value)}
theorem JP.opn (Z:St Y w L)(hi:nth L i=some (j.res h vl css)):St Y w (blk j.sp 258 (j.cells vl)::aj j.hp h::sl 115 3 vl css::L.eraseIdx i):=by
 have I:=(Z.out hi).star;exact (IJ (I.mv1)).mv2
abbrev HG:=@JP.opn
theorem JP.cls {h':List Bool}{vl':Value}{css':List (List Value)}(hi:nth L i=some (j.res h vl css))(Z:St Y w (blk j.sp 258 (j.cells vl')::aj j.hp h'::sl 115 3 vl' css'::L.eraseIdx i)):St Y w (L.set i (j.res h' vl' css')):=by
 have I:St Y w (star (aj j.hp h') (sl 115 3 vl' css')::blk j.sp 258 (j.cells vl')::L.eraseIdx i):=G8 (Z.mv2.mv2);exact F4 (G8 I.mv1) hi
theorem JP.cls0 (hi:nth L i=some (j.res h vl css))(Z:St Y w (blk j.sp 258 (j.cells vl)::aj j.hp h::sl 115 3 vl css::L.eraseIdx i)):St Y w L:=by
 have I:St Y w (star (aj j.hp h) (sl 115 3 vl css)::blk j.sp 258 (j.cells vl)::L.eraseIdx i):=G8 (Z.mv2.mv2);exact Ff (G8 I.mv1) hi
abbrev Ic:=@JP.cls0
theorem TQ {o:Nat}{x:Operand}(Z:St Y w L)(hx:U.ev x= .pointer (some ⟨j.sp,o,none⟩))(hi:nth L i=some (j.res h vl css))(hu:(j.cells vl)[o]?=some u)(h:Q0 P l Q (upd U d u) w):Q0 P (⟨none, .load1 d x⟩::l) Q U w:=
 Pz (HG Z hi) hx KL hu h
theorem yX {o:Nat}{x:Operand}{us:List Value}(Z:St Y w L)(hx:U.ev x= .pointer (some ⟨j.sp,o,none⟩))(hi:nth L i=some (j.res h vl css))(hu:((j.cells vl).drop o).take n=us)(hl:us.length=n)(h:Q0 P l Q (upd U d (.agg ⟨us⟩)) w):Q0 P (⟨none, .loadn d n x⟩::l) Q U w:=
 pS (HG Z hi) hx KL hu hl h
theorem Qc5 {o:Nat}{x:Operand}(Z:St Y w L)(hx:U.ev x= .pointer (some ⟨j.sp,o,none⟩))(hi:nth L i=some (j.res h vl css))(hu:(j.cells vl)[o]?=some u):Nn P U w ⟨none, .load1 d x⟩ u:=QJ (HG Z hi) hx KL hu
theorem W1 {x:Operand}(Z:St Y w L)(hi:nth L i=some (j.res h vl css))(hx:U.ev x=vl)(hn:css.length=n)(h:Q0 P l Q (upd U d (.int .i64 n)) w):Q0 P (⟨none, .len d x⟩::l) Q U w:=
 Qt (HG Z hi) hx PU hn h
end
variable {Y:Cx}{w:World}{L:List Res}{j:JP}{h:List Bool}{vl:Value}{css:List (List Value)}{i:Nat}{m:Module}
theorem W2 {r:Int}(Z:St Y w L)(hi:nth L i=some (j.res h vl css)):Ka Tryz.prog yQ [.pointer (some ⟨j.hp,0,none⟩), .int .i64 r] w fun u B=>u= .bool (Kt h r)∧St Y B L:=by
 obtain ⟨v,M⟩:=jt (HG Z hi).mv1;refine (WX M).mono ?_;rintro u B ⟨h3,h4⟩;exact ⟨h3,Ic hi (gq h4).mv1⟩
theorem W3 (Z:St Y w L)(hi:nth L i=some (j.res h vl css)):Ka Tryz.prog yM [.pointer (some ⟨j.hp,0,none⟩)] w fun u B=>u= .int .i64 h.length∧St Y B L:=by
 obtain ⟨v,M⟩:=jt (HG Z hi).mv1;refine (mi M).mono ?_;rintro u B ⟨h3,h4⟩;exact ⟨h3,Ic hi (gq h4).mv1⟩
theorem ak (hl:h.length≤16)(Z:St Y w L)(hi:nth L i=some (j.res h vl css)):Ka Tryz.prog yP [.pointer (some ⟨j.hp,0,none⟩)] w fun u B=>∃c',Y.Le c'∧Kb.sl c' u (L4 h)∧St c' B L:=by
 obtain ⟨v,M⟩:=jt (HG Z hi).mv1;refine (WY hl M).mono ?_;rintro u B ⟨c',h3,h5,h4⟩;exact ⟨c',h3,h5,Ic hi (gq h4).mv1⟩
theorem al (hl:h.length<16)(Z:St Y w L)(hi:nth L i=some (j.res h vl css)):Ka Tryz.prog yN [.pointer (some ⟨j.hp,0,none⟩)] w fun u B=>u= .int .i64 h.length∧St Y B (L.set i (j.res (h++[true]) vl css)):=by
 obtain ⟨v,M⟩:=jt (HG Z hi).mv1;refine (gr hl M).mono ?_;rintro u B ⟨h3,v',h4⟩;exact ⟨h3,JP.cls hi (gq h4).mv1⟩
theorem aq {r:Int}(hr:Kt h r=true)(Z:St Y w L)(hi:nth L i=some (j.res h vl css)):Ka Tryz.prog yO [.pointer (some ⟨j.hp,0,none⟩), .int .i64 r] w fun u B=>u= .bool true∧St Y B (L.set i (j.res (h.set r.toNat false) vl css)):=by
 obtain ⟨v,M⟩:=jt (HG Z hi).mv1;refine (gu hr M).mono ?_;rintro u B ⟨h3,h4⟩;exact ⟨h3,JP.cls hi (gq h4).mv1⟩
theorem ar (hl:h.length≤16)(hx:Kb.sl Y v2 xs)(Z:St Y w L)(hi:nth L i=some (j.res h vl css)):Ka Tryz.prog yR [.pointer (some ⟨j.hp,0,none⟩),v2] w fun u B=>u= .int .i64 (My h [] xs)∧St Y B L:=by
 obtain ⟨v,M⟩:=jt (HG Z hi).mv1;refine (gv hl hx M).mono ?_;rintro u B ⟨h3,c',h5,h4⟩;exact ⟨h3,Ge (Ic hi (gq h4).mv1) h5⟩

@[reducible] def SC (c:Int):Value:= .iface 297 (.int .i64 c)
theorem W4 (Z:St Y w L):Ka Tryz.prog s7 [.bool false, .int .i64 c] w fun u B=>u= .tuple #[]∧St Y B L:=by
 refine Kl Kh Tryz.func240 ?_;refine' LS;refine' TG;refine' QY;exact Ap
theorem TX (Z:St Y w L):Kr Tryz.prog s7 [.bool true, .int .i64 c] w (fun _ _=>False) (fun u B=>u=SC c∧St Y B L):=by
 unfold Kr;refine Kl Kh Tryz.func240 ?_;refine' LS;refine' Kf;refine' Lp;refine' nC;refine nr rfl ?_;(repeat (refine' Qo));refine' Qi;exact AR
theorem W5 {b:Bool}(Z:St Y w L):Kr Tryz.prog s7 [.bool b, .int .i64 c] w (fun u B=>u= .tuple #[]∧b=false∧St Y B L) (fun u B=>u=SC c∧b=true∧St Y B L):=by
 cases b with
 | false=>exact ((W4 Z).mono fun u B h=>(⟨h.1,rfl,h.2⟩:u= .tuple #[]∧false=false∧St Y B L)).ends
 | true=>exact (TX Z).mono (fun _ _ h=>h.elim) (fun _ _ h=>⟨h.1,rfl,h.2⟩)
theorem ju {k:Int}(hls:KA.ls Y css s.l)(Z:St Y w L)(hi:nth L i=some (j.res h vl css)):Kr Tryz.prog Q7G [.pointer (some ⟨j.sp,0,none⟩), .int .i64 k] w
 (fun u B=>∃t cs,Lx s k= .ok t∧u= .agg ⟨cs⟩∧KA.at Y cs t∧St Y B L) (fun u B=>∃c,Lx s k= .error c∧u=SC c∧St Y B L):=by
 ((have hlc:=hls.1;have Z:=HG Z hi;unfold Kr;refine Kl Kh Tryz.func247 ?_;refine' Ov;(intro p4 E Z);refine' L8;(refine' Ae<;>intro O);all_goals (refine' S5;refine' MD;(first|refine' Kj|(refine' Kg;refine Qt Z vw fd hlc ?_));first|refine' Kj|(refine' Kg;refine' Ag<;>intro O)));all_goals (refine' Lw;first|(refine' Kk (c:=W4 Z);rintro v1 E ⟨rfl,Z⟩)|(refine KF (c:=TX Z) (p:=by rintro v9 w9 ⟨rfl,Z⟩;(repeat (refine' Qo));refine' Qi;refine .inr ⟨_,rfl,?_⟩;first|(exact ⟨_,iN V,rfl,(Ic hi Z.sp)⟩)) (h:=fun _ _ h=>h.elim))));refine' LA;obtain ⟨t,ht⟩:∃t,s.l[k.toNat]?=some t:=⟨_,EI V⟩;obtain ⟨d,hd,hrd⟩:=hls.2 _ _ ht;obtain ⟨vd,rfl,hld⟩:=Ql hrd;refine' P6;refine' zm;refine Y0 Z ?_;intro b1 o1 hel1;refine NW Z hel1 rfl fd rfl hd ?_;refine Kp Z ?_;intro E Z;have Z:=Z.ns;refine' LM;refine QO vw (Q3 (n:=3) Jk Jk (Z.blkAt fd) Jr Jr) ?_;(exact .inl ⟨_,rfl,t,_,YO V ht,rfl,hrd,(Ic hi Z.sp)⟩)
theorem au {k:Int}(hls:KA.ls Y css s.l)(Z:St Y w L)(hi:nth L i=some (j.res h vl css)):Kr Tryz.prog Q8C [.pointer (some ⟨j.sp,0,none⟩), .int .i64 k, .int .i64 kd] w
 (fun u B=>∃t cs,Kx s k kd= .ok t∧u= .agg ⟨cs⟩∧KA.at Y cs t∧St Y B L) (fun u B=>∃c,Kx s k kd= .error c∧u=SC c∧St Y B L):=by
 (have Z:=Z.out hi;unfold Kr Kx;refine Kl Kh Tryz.func239 ?_;refine' Ov;(intro p6 E Z);refine' XZ;refine KF (c:=ju hls Z fd) (p:=by rintro v9 w9 ⟨c,I,rfl,Z⟩;(repeat (refine' Qo));refine' Qi;refine .inr ⟨_,rfl,?_⟩;exact Bq) (h:=?_);rintro v1 E ⟨t,cs,I,rfl,hrd,Z⟩;have hrd':=hrd;obtain ⟨vd,rfl,hld⟩:=Ql hrd;refine Qb Z ?_;(intro p7 E Z);((refine Kp Z ?_;intro E Z;have Z:=Z.ns));refine' Nl;refine' zm;(refine' Ad<;>intro O);all_goals (first|(refine' Kk (c:=W4 Z);rintro v1 E ⟨rfl,Z⟩)|(refine KF (c:=TX Z) (p:=by rintro v9 w9 ⟨rfl,Z⟩;(repeat (refine' Qo));refine' Qi;refine .inr ⟨_,rfl,?_⟩;first|(exact ⟨_,(Q5 I).trans (Qip V),rfl,(Ff Z.sp hi)⟩)) (h:=fun _ _ h=>h.elim))));refine' RP;refine Kp Z ?_;intro E Z;have Z:=Z.ns;refine' LM;refine QO vw (Q3 (n:=3) Jk Jk (Z.blkAt fd) Jr Jr) ?_;(exact .inl ⟨_,rfl,t,_,(Q5 I).trans (Qin V),rfl,hrd',(Ff Z.sp hi)⟩)
theorem X6 {k:Int}(hls:KA.ls Y css s.l)(Z:St Y w L)(hi:nth L i=some (j.res s.h vl css)):Kr Tryz.prog Qao [.pointer (some ⟨j.sp,0,none⟩), .int .i64 k, .int .i64 kd] w
 (fun u B=>∃t cs,Lu s k kd= .ok t∧u= .agg ⟨cs⟩∧KA.at Y cs t∧St Y B L) (fun u B=>∃c,Lu s k kd= .error c∧u=SC c∧St Y B L):=by
 have Z:=Z.out hi;unfold Kr Lu;refine Kl Kh Tryz.func243 ?_;refine' Ov;intro p6 E Z;refine' XZ;refine' zm;refine MK (c:=au hls Z fd) (p:=by rintro v9 w9 ⟨c,I,rfl,Z⟩;(repeat (refine' Qo));refine' Qi;refine .inr ⟨_,rfl,?_⟩;exact Bq) (h:=?_);rintro v1 E ⟨t,cs,I,rfl,hrd,Z⟩;have hrd':=hrd;obtain ⟨vd,rfl,hld⟩:=Ql hrd;refine Qb Z ?_;intro p7 E Z;refine Kp Z ?_;intro E Z;have Z:=Z.ns;refine' LA;refine zD (ci 9 [6,8]) ?_;have Z:=Z.drew;refine' zm;refine' ja;refine' KJ;refine' Kk (c:=W2 Z fd);rintro v1 E ⟨rfl,Z⟩;refine' ND;refine KF (c:=W5 Z) (p:=by rintro v9 w9 ⟨rfl,hb,Z⟩;(repeat (refine' Qo));refine' Qi;refine .inr ⟨_,rfl,?_⟩;first|(exact ⟨_,(Q5 I).trans (Qip C8),rfl,(Ff Z.sp hi)⟩)) (h:=?_);rintro v1 E ⟨rfl,hb,Z⟩;refine' RP;refine Kp Z ?_;intro E Z;have Z:=Z.ns;refine' LM;refine QO vw (Q3 (n:=3) Jk Jk (Z.blkAt fd) Jr Jr) ?_;(exact .inl ⟨_,rfl,t,_,(Q5 I).trans (Qin C8),rfl,hrd',(Ff Z.sp hi)⟩)
end
section
attribute [local irreducible] Kt L4 My Na
variable {Y:Cx}{w:World}{L:List Res}{j:JP}{h:List Bool}{vl:Value}{css:List (List Value)}{i:Nat}{m:Module}
theorem ax {t:Ty}(hn:s.l.length≤100000)(ht:KA.at Y cs t)(hls:KA.ls Y css s.l)(Z:St Y w L)(hi:nth L i=some (j.res h vl css)):Kr Tryz.prog Q9w [.pointer (some ⟨j.sp,0,none⟩), .agg ⟨cs⟩] w
 (fun u B=>u= .tuple #[]∧s.l.length≠80∧∃vl' css',KA.ls Y css' (s.l++[t])∧St Y B (L.set i (j.res h vl' css'))) (fun u B=>u=SC 2∧s.l.length=80∧St Y B L):=by
 (have hlc:=hls.1;have Z:=HG Z hi;have ht':=ht;obtain ⟨vd,rfl,hld⟩:=Ql ht;have hz:KA.at Y [.int .i64 0, .int .i64 0, .slice none 0 0] (.mk 0 0 []):=Ry (FU _ _ _);unfold Kr;refine Kl Kh Tryz.func238 ?_;refine' KU;intro p3 E Z;refine' L8;refine' LG;((refine Qt Z vw fd hlc ?_));(refine' Ac<;>intro O);all_goals (first|(refine' Kk (c:=W4 Z);rintro v1 E ⟨rfl,Z⟩)|(refine KF (c:=TX Z) (p:=by rintro v9 w9 ⟨rfl,Z⟩;(repeat (refine' Qo));refine' Qi;refine .inr ⟨_,rfl,?_⟩;first|(exact ⟨rfl,V,(Ic hi Z.sp)⟩)) (h:=fun _ _ h=>h.elim))));refine' zn;refine NU 9 12 Jk ?_ ?_
 · refine zC [(0,none),(1,none),(2,none),(3,none),(4,none),(5,none),(6,some (some [3,4])),(7,some none),(8,none),(10,none),(11,none),(9,some (some [])),(12,some none)] ?_;have Z:=Z.drew;refine' NT;refine' NS;refine' S3;refine Qt Z vw fd hlc ?_;refine' Lh;refine KO Z [_,_,_] ?_;intro b1 E Z;refine' LY;refine za RT Sm Z ?_;intro vp1 E css1 hls1 hv1 Z;have Z:=Z.ns;refine' Ku;have hl1:=hls1.1;rw [EO,EY,Fc] at hl1;obtain ⟨d1,hd1,_⟩:=hls1.2 s.l.length (.mk 0 0 []) Js;refine SX Z ?_;intro b1 o1 hel1;refine' Ku;refine' Nc;refine' MT;refine' Lh;refine pU Z hel1 rfl rfl rfl fd rfl hd1 rfl (KA.one ht') ?_;intro w3 Z;have Z:=Z.ns;refine' LY;refine Lv Z ?_;intro E Z;have Z:=Z.ns;refine' bO;have hls2:=JX (i:=s.l.length) hls1 ht';rw [Gf _ _ (E6 _),GX,EV] at hls2;exact Cb
 · refine zC [(0,none),(1,none),(2,none),(3,none),(4,none),(5,none),(6,some (some [3,4])),(7,some none),(8,none),(10,none),(11,none),(12,some (some [])),(9,some (some []))] ?_;have Z:=Z.drew;refine' NT;refine' NS;refine' S3;refine Qt Z vw fd hlc ?_;refine' Lh;refine KO Z [_,_,_] ?_;intro b1 E Z;refine' LY;refine za RT Sm Z ?_;intro vp1 E css1 hls1 hv1 Z;have Z:=Z.ns;refine' Ku;have hl1:=hls1.1;rw [EO,EY,Fc] at hl1;obtain ⟨d1,hd1,_⟩:=hls1.2 s.l.length (.mk 0 0 []) Js;refine SX Z ?_;intro b1 o1 hel1;refine' Ku;refine' Nc;refine' MT;refine' Lh;refine Lv Z ?_;intro E Z;have Z:=Z.ns;refine' Lc;refine pU Z hel1 rfl rfl rfl fd rfl hd1 rfl (KA.one ht') ?_;intro w3 Z;have Z:=Z.ns;refine' nH;refine' vR;refine' QY;have hls2:=JX (i:=s.l.length) hls1 ht';rw [Gf _ _ (E6 _),GX,EV] at hls2;exact Cb
theorem oG {t:Ty}{k:Int}(hk:0≤k)(ht:KA.at Y cs t)(Z:St Y w L):Kr Tryz.prog Q7I [.pointer (some ⟨j.sp,0,none⟩), .agg ⟨cs⟩, .int .i64 k] w
 (fun u B=>∃t' cs',Pb t k= .ok t'∧u= .agg ⟨cs'⟩∧KA.at Y cs' t'∧St Y B L) (fun u B=>∃c,Pb t k= .error c∧u=SC c∧St Y B L):=by
 (obtain ⟨vd,rfl,hld⟩:=Ql ht;unfold Kr Pb;refine Kl Kh Tryz.func246 ?_;refine' KU;intro p4 E Z;refine Qb Z ?_;(intro p6 E Z);refine' L8;refine' Sc;(refine' Ag<;>intro O);all_goals (first|(refine' Kk (c:=W4 Z);rintro v1 E ⟨rfl,Z⟩)|(refine KF (c:=TX Z) (p:=by rintro v9 w9 ⟨rfl,Z⟩;(repeat (refine' Qo));refine' Qi;refine .inr ⟨_,rfl,?_⟩;first|(exact ⟨_,by rw [Fe V],rfl,Z.sp⟩)) (h:=fun _ _ h=>h.elim))));refine' Nl;refine' zm;refine iF vw rfl hld rfl hk V ?_;intro b1 o1 cs1 x1 hat1 hx1 he1;have he1':=he1;obtain ⟨vl1,rfl,hl1⟩:=Ql he1;refine N8 Z ?_;refine Kp Z ?_;intro E Z;have Z:=Z.ns;refine' LM;refine QO vw (Q3 (n:=3) Jk Jk (Z.blkAt fd) Jr Jr) ?_;(exact .inl ⟨_,rfl,x1,_,by rw [hx1],rfl,he1',Z.sp⟩)
theorem ta {v1 v3:Value}(hsh:∀t∈want,t.Short)(hls:KA.ls Y css s.l)(I:Kb.sl Y v1 l)(M:KA.sl Y v2 want)(h3:Kb.sl Y v3 regs)(Z:St Y w L)(hi:nth L i=some (j.res h vl css)):
 Kr Tryz.prog Q8E [.pointer (some ⟨j.sp,0,none⟩),v1,v2,v3] w
 (fun u B=>OE s l want regs= .ok ()∧u= .tuple #[]∧St Y B L) (fun u B=>∃c,OE s l want regs= .error c∧u=SC c∧St Y B L):=by
 (have hl1:=I.len;have hl2:=M.len;have Z:=Z.out hi;have hle:=Fs Z;unfold Kr OE;refine Kl Kh Tryz.func250 ?_;refine' KX;refine' zL;refine' zm;refine' zL;(refine' Ad<;>intro O);all_goals (first|(refine' Kk (c:=W4 Z);rintro v1 E ⟨rfl,Z⟩)|(refine KF (c:=TX Z) (p:=by rintro v9 w9 ⟨rfl,Z⟩;(repeat (refine' Qo));refine' Qi;refine .inr ⟨_,rfl,?_⟩;first|(exact Bi)|(exact Bb)|(exact Br)) (h:=fun _ _ h=>h.elim))));refine' L8;refine' Ob;refine Mt Z [0,2,3,19,20] (fun A LL ρ' B=>∃(k0:Cx) (q:Nat),Ki ρ' A∧Ki ρ' [(21, .int .i64 q)]∧(Y.Le k0)∧(q≤l.length)∧(NX s regs l want=NX s regs (l.drop q) (want.drop q))∧(want.length=l.length)∧St k0 B (LL)) (fun ρ' _=>(l.length - iv (ρ' 21)).toNat) ?_ ?_
 · exact ⟨Y,0,zh,zh,Fs Z,V,by rfl,V,Z.sp⟩
 rintro U E ⟨k0,q,hA,hρ,hle2,hq,hd,hw,Z⟩;obtain ⟨U,rfl⟩:=Km hA hρ;have hL0:=hle2;(try have hle:=hle.trans hle2);(try have hls:=hls.up hle2);(try have I:=I.up hle2);(try have M:=M.up hle2);(try have h3:=h3.up hle2);refine' Nd;refine' Ab<;>intro O
 · refine' Ko;refine Qm ?_;refine' PS;refine Qm ?_;refine' Lm;refine' zm;refine' zi;intro b1 o1 cs1 x1 hat1 hx1 he1;obtain rfl:=Qy he1;refine MG Z ?_;refine' zm;refine' zm;refine' zn;refine Qm ?_;refine' Lm;refine' zm;refine' zm;refine KF (c:=ju hls Z fd) (p:=by rintro v9 w9 ⟨c,g1,rfl,Z⟩;(repeat (refine' Lo));refine' Qi;refine .inr ⟨_,rfl,?_⟩;exact ⟨_,by rw [Qin V,hd];exact uX hx1 (EI V) g1,rfl,Ge (Ff Z.sp hi) hL0⟩) (h:=?_);rintro v1 E ⟨t,cs,g1,rfl,hrd,Z⟩;have hrd':=hrd;obtain ⟨vd,rfl,hld⟩:=Ql hrd;refine Qb Z ?_;intro p10 E Z;refine Kp Z ?_;intro E Z;have Z:=Z.ns;refine' zn;refine Qm ?_;refine' Lm;refine' zm;refine' zm;refine Tx vw rfl M rfl V ?_;intro b2 o2 cs2 x2 hat2 hx2 he2;have he2':=he2;obtain ⟨vl2,rfl,hl2⟩:=Ql he2;refine N8 Z ?_;refine' zm;refine' Kk (c:=W0 x2 (hsh x2 (EK hx2)) he2' h3 Z);rintro v1 E ⟨c3,ds,rfl,hle2,hu3,Z⟩;(try have hle:=hle.trans hle2);(try have hL0:=hL0.trans hle2);(try have hl2:=hl2.up hle2);(try have he2:=he2.up hle2);(try have hls:=hls.up hle2);(try have I:=I.up hle2);(try have M:=M.up hle2);(try have h3:=h3.up hle2);have hrd':=IS hrd' hle2;cases hn:x2.ren regs<;>rw [hn] at hu3<;>simp only [Option.getD_none,Gw] at hu3<;>(have hu3':=hu3)<;>obtain ⟨vu,rfl,hlu⟩:=Ql hu3;(all_goals (refine' Rk;intro p11 E Z;refine Kp Z ?_;intro E Z;have Z:=Z.ns;refine' Kv;refine' Lp;refine' ND;refine' zm;(first|refine' Kj|(refine' TJ));(first|refine' Kj|(refine' TJ));(first|(refine' Kj)|(refine' Kg;refine' Kk (c:=kP _ _ hrd' hu3' Z);rintro v1 E ⟨rfl,Z⟩));refine' Y3;refine' Lw;first|(refine KF (c:=TX Z) (p:=by rintro v9 w9 ⟨rfl,Z⟩;(repeat (refine' Lo));refine' Qi;refine .inr ⟨_,rfl,?_⟩;first|(exact Bi)|(exact Bb)|(exact Br)) (h:=fun _ _ h=>h.elim))|(refine KF (c:=W5 Z) (p:=by rintro v9 w9 ⟨rfl,hb,Z⟩;(repeat (refine' Lo));refine' Qi;refine .inr ⟨_,rfl,?_⟩;first|(exact Bi)|(exact Bb)|(exact Br)) (h:=?_);rintro v1 E ⟨rfl,hb,Z⟩)));refine' S9;(exact ⟨⟨_,q+1,zh,zh,hL0,V,by rw [hd,u6 hx1 hx2 g1 hn C8],hw,Z.sp⟩,Qh V⟩)
 · refine' LV;refine' QY;exact .inl ⟨_,rfl,(by rw [Qin V,hd,ve V]),rfl,Ge (Ff Z.sp hi) hL0⟩
theorem W6 {s:List Int}{v:Value}(hK:Kb.sl Y v s)(Z:St Y w L):Ka Tryz.prog Q5N [v, .int .i64 c] w fun u B=>∃r:Int,u= .int .i64 r∧(0≤r↔c∈s)∧St Y B L:=by
 have hlen:=hK.len;refine Kl Kh Tryz.func89 ?_;refine' MV;refine' Ob;refine Mt Z [0,1,7] (fun A LL ρ' B=>∃(j:Nat),Ki ρ' A∧Ki ρ' [(8, .int .i64 j)]∧(j≤s.length)∧(c∈s↔c∈s.drop j)∧St Y B (LL)) (fun ρ' _=>(s.length - iv (ρ' 8)).toNat) ?_ ?_
 · exact An
 rintro U E ⟨j,hA,hρ,hj,hd,Z⟩;obtain ⟨U,rfl⟩:=Km hA hρ;refine' Nd;refine' Ab<;>intro O
 · skip
   refine' Mi;refine' Nz;refine' KW;refine' RI;intro b1 o1 cs1 x1 hat1 hx1 he1;obtain rfl:=Qy he1;refine MG Z ?_;(refine' Ac<;>intro O);all_goals (refine' zn)
   all_goals
    first
    | (refine' Kf;refine' Rj;(exact ⟨_,rfl,j,rfl,⟨fun _=>by rw [hd,Q7 hx1,E4];exact .inl V,fun _=>by omega⟩,Z.sp⟩))
    | (refine' Kd;refine' Ko)
   refine' O1;(exact B6)
 · refine' Pn;(exact ⟨_,rfl, -1,rfl,⟨fun h=>by omega,fun h=>by rw [hd,ES V] at h;cases h⟩,Z.sp⟩)
theorem QeZ {s:List Int}{v:Value}(hK:Kb.sl Y v s)(Z:St Y w L):Ka Tryz.prog Q4m [v, .int .i64 c] w fun u B=>u= .bool (decide (c∈s))∧St Y B L:=by
 refine Kl Kh Tryz.func262 ?_;refine' LS;refine' KW;refine' Kk (c:=W6 hK Z);rintro v1 E ⟨r,rfl,hr,Z⟩;(refine' Ag<;>intro O);all_goals (refine' KQ;refine ⟨_,rfl,?_,Z.sp⟩;(first|rw [decide_eq_true (hr.1 V)]|rw [decide_eq_false (fun h=>by have:=hr.2 h;omega)]);done)
def PM (Y:Cx)(L:List Res)(j:JP)(i:Nat)(r:Except Int JS)(u:Value)(B:World):Prop:=u= .tuple #[]∧∃c' s' vl' css',Y.Le c'∧r= .ok s'∧KA.ls c' css' s'.l∧St c' B (L.set i (j.res s'.h vl' css'))
def ml {α:Type}(Y:Cx)(L:List Res)(r:Except Int α)(u:Value)(B:World):Prop:=∃e,r= .error e∧u=SC e∧St Y B L
theorem yY {h:List Bool}{p:List Int}{x:Int}(hx:l[q]?=some x)(hd:M7 h [] l=M7 h (l.take q) (l.drop q))(hb:Kt h x=false):M7 h [] l= .error 10:=by
 rw [hd,Q7 hx,M7,Qip hb]
theorem yi {h:List Bool}{x:Int}(hx:l[q]?=some x)(hd:M7 h [] l=M7 h (l.take q) (l.drop q))(hb:Kt h x=true)(ht:x∈l.take q):M7 h [] l= .error 13:=by
 rw [hd,Q7 hx,M7,Qin (by rw [hb];decide),Qip ht]
theorem yZ {h:List Bool}{x:Int}(hx:l[q]?=some x)(hd:M7 h [] l=M7 h (l.take q) (l.drop q))(hb:Kt h x=true)(ht:x∉l.take q):M7 h [] l=M7 h (l.take (q+1)) (l.drop (q+1)):=by
 rw [hd,Q7 hx,M7,Qin (by rw [hb];decide),Qin ht,Us hx]
theorem tc {h:List Bool}(hd:M7 h [] l=M7 h (l.take q) (l.drop q))(hq:l.length≤q):M7 h [] l= .ok ():=by
 rw [hd,ES hq,M7]
theorem ay {x:Ins}(hm:m.Short)(hk:0≤x.k∧x.k<m.funcs.length)(hn:s.l.length≤80)(hj:j.Fits Y m)(hx:K1.at Y cs x)(hls:KA.ls Y css s.l)(Z:St Y w L)(hi:nth L i=some (j.res s.h vl css)):
 Kr Tryz.prog Q8D [.pointer (some ⟨j.sp,0,none⟩), .agg ⟨cs⟩] w (PM Y L j i (Rh m s x)) (ml Y L (Rh m s x)):=by
 (have Z:=Z.out hi;have hle:=Fs Z;obtain ⟨vr,va,rfl,hr,ha⟩:=QN hx;have hlr:=hr.len;have hla:=ha.len;have hm1:=hj.m;unfold Kr;refine Kl Kh Tryz.func248 ?_;refine' KU;intro p3 E Z;refine' LA;refine zC [(0,none),(1,none),(2,none),(3,none),(4,none),(5,none),(6,none),(7,none),(8,none),(9,some (some [4,6,8])),(10,some none)] ?_;have Z:=Z.drew;refine' NT;refine' i6;refine TQ Z rfl fd rfl ?_;refine' Ku;refine' NS;((refine' zj;intro b1 o1 cs1 x1 hat1 hx1 he1;((obtain ⟨vp1,vr1,vb1,rfl,hp1,hr1,hb1⟩:=Qx he1))));refine' TP;(intro p4 E Z);refine' zt;refine ⟨EN.2 ⟨DY,EN.2 ⟨CS,EN.2 ⟨C7,fun _ h=>(ET h).elim⟩⟩⟩,?_⟩;refine' Lg;((refine Kp Z ?_;intro E Z;have Z:=Z.ns));refine' K7;have ej:Rh m s x=(if (x.regs.length:Int)≠x1.regs then .error 2 else Ke (M7 s.h [] x.regs) fun _=>Ke (OE s x.args x1.params x.regs) fun _=>if 80<s.l.length+x1.results.length then .error 2 else .ok ⟨s.h,s.l++x1.results.map (MH x.regs)⟩):=(by unfold Rh;rw [hx1]);have hsf:=hm.2 x1 (EK hx1);have hrl:=hr1.len;refine' Ta;refine' KJ;(refine' Ad<;>intro O);all_goals (first|(refine' Kk (c:=W4 Z);rintro v1 E ⟨rfl,Z⟩)|(refine KF (c:=TX Z) (p:=by rintro v9 w9 ⟨rfl,Z⟩;(repeat (refine' Qo));refine' Qi;refine .inr ⟨_,rfl,?_⟩;first|(exact Cc)|(exact B8)) (h:=fun _ _ h=>h.elim))));refine' LA;refine' L5;refine' Ob;refine Mt Z [0,3,4,28,29] (fun A LL ρ' B=>∃(q:Nat),Ki ρ' A∧Ki ρ' [(30, .int .i64 q)]∧(q≤x.regs.length)∧(M7 s.h [] x.regs=M7 s.h (x.regs.take q) (x.regs.drop q))∧(¬(x.regs.length:Int)≠x1.regs)∧St Y B (LL)) (fun ρ' _=>(x.regs.length - iv (ρ' 30)).toNat) ?_ ?_
 · exact ⟨0,zh,zh,V,by rfl,V,Z.sp⟩
 rintro U E ⟨q,hA,hρ,hq,hd,hne,Z⟩;obtain ⟨U,rfl⟩:=Km hA hρ;refine' Nd;refine' Ab<;>intro O
 · refine' Mi;refine' KX;refine' zi;intro b2 o2 cs2 x2 hat2 hx2 he2;obtain rfl:=Qy he2;refine MG Z ?_;refine' zm;refine' L6;refine' ja;refine' zm;refine' Kk (c:=W2 Z fd);rintro v1 E ⟨rfl,Z⟩;refine' ND;refine KF (c:=W5 Z) (p:=by rintro v9 w9 ⟨rfl,hb,Z⟩;(repeat (refine' Lo));refine' Qi;refine .inr ⟨_,rfl,?_⟩;exact ⟨_,by rw [ej,Qin hne,Qr (yY (p:=[]) hx2 hd C8)],rfl,(Ff Z.sp hi)⟩) (h:=?_);rintro v1 E ⟨rfl,hb1,Z⟩;refine' zn;refine' S2;refine' zm;refine iH vw hr rfl rfl ⟨_,rfl⟩ rfl V V ?_;intro v4 hs4;rw [FG] at hs4;refine' zm;refine' Kk (c:=QeZ Ja Z);rintro v1 E ⟨rfl,Z⟩;refine KF (c:=W5 Z) (p:=by rintro v9 w9 ⟨rfl,hb,Z⟩;(repeat (refine' Lo));refine' Qi;refine .inr ⟨_,rfl,?_⟩;first|(exact Cc)|(exact B8)) (h:=?_);rintro v1 E ⟨rfl,hb,Z⟩;refine' S9;(exact ⟨⟨q+1,zh,zh,V,by exact yZ hx2 hd (by simpa using hb1) (of_decide_eq_false hb),hne,Z.sp⟩,Qh V⟩)
 · skip
   refine' LV;refine' Nj;refine' KJ;refine' KJ;refine qD (c:=ta (s:=s) hsf.1.2 hls ha hp1 hr Z fd) (p:=by rintro v9 w9 ⟨c,g1,rfl,Z⟩;(repeat (refine' Qo));refine' Qi;refine .inr ⟨_,rfl,?_⟩;exact ⟨_,by rw [ej,Qin hne,Q5 (tc hd V),Qr g1],rfl,(Ff Z.sp hi)⟩) (h:=?_);rintro v1 E ⟨har,rfl,Z⟩;have hrg:=tc hd V;refine' LA;refine zD (ci 11 [10]) ?_;have Z:=Z.drew;refine' zm;refine' ja;refine W1 Z fd vw hls.1 ?_;refine' Sc;refine' MJ;refine jW rfl rfl ?_;refine KF (c:=W5 Z) (p:=by rintro v9 w9 ⟨rfl,hb,Z⟩;(repeat (refine' Qo));refine' Qi;refine .inr ⟨_,rfl,?_⟩;exact ⟨_,by rw [ej,Qin hne,Q5 hrg,Q5 har,Qip (by have:=of_decide_eq_true hb;omega)],rfl,(Ff Z.sp hi)⟩) (h:=?_);rintro v1 E ⟨rfl,hb,Z⟩;have h80:¬80<s.l.length+x1.results.length:=(by have:=of_decide_eq_false hb;omega);refine' Nl;refine' Ob;refine zo [0,3,71,72] (fun A ρ' B=>∃(k1:Cx) (q:Nat) (vl2:Value) (cs2:List (List Value)),Ki ρ' A∧Ki ρ' [(73, .int .i64 q)]∧(Y.Le k1)∧(q≤x1.results.length)∧(KA.ls k1 cs2 (s.l++(x1.results.take q).map (MH x.regs)))∧St k1 B (blk p4 95 [.int .i64 x1.regs,vp1,vr1,vb1]::blk p3 84 [.int .i64 x.op, .int .i64 x.a, .int .i64 x.b, .int .i64 x.c, .int .i64 x.k, .int .i64 x.n,vr,va]::j.res s.h vl2 cs2::L.eraseIdx i)) (fun ρ' _=>(x1.results.length - iv (ρ' 73)).toNat) ?_ ?_
   · exact ⟨Y,0,vl,css,zh,zh,Fs Z,V,by simpa using hls,Z.sp⟩
   rintro U E ⟨k1,q,vl2,cs2,hA,hρ,hle2,hq,hls,Z⟩;obtain ⟨U,rfl⟩:=Km hA hρ;have hL1:=hle2;(try have hle:=hle.trans hle2);(try have hp1:=hp1.up hle2);(try have hr1:=hr1.up hle2);(try have hb1:=hb1.up hle2);(try have he1:=he1.up hle2);(try have hr:=hr.up hle2);(try have ha:=ha.up hle2);(try have hm1:=hm1.up hle2);refine' Nd;refine' Ab<;>intro O
   · refine' i9;refine' zi;intro b3 o3 cs3 x3 hat3 hx3 he3;obtain ⟨vl3,rfl,hl3⟩:=Ql he3;refine' NG;intro p8 E Z;refine Kp Z ?_;intro E Z;have Z:=Z.ns;refine' RP;refine' KJ;refine' Kk (c:=W0 x3 (hsf.2.1.2 x3 (EK hx3)) he3 hr Z);rintro v1 E ⟨c3,ds,rfl,hle2,hu3,Z⟩;(try have hL1:=hL1.trans hle2);(try have hls:=hls.up hle2);have hu3':=hu3;obtain ⟨vu,rfl,hlu⟩:=Ql hu3;refine' Rk;intro p9 E Z;refine Kp Z ?_;intro E Z;have Z:=Z.ns;refine' Kv;refine' OH;refine KF (c:=ax (s:=⟨s.h,_⟩) (by simp only [EO,EM,FY];omega) hu3' hls Z fd) (p:=by rintro v9 w9 ⟨rfl,h80',Z⟩;(repeat (refine' Lo));refine' Qi;refine .inr ⟨_,rfl,?_⟩;(exfalso;simp only [EO,EM,FY] at h80';omega)) (h:=?_);rintro v1 E ⟨rfl,hne80,vl4,cs4,hls4,Z⟩;have Z:=Z.ns;refine' S9;(exact ⟨⟨_,q+1,vl4,cs4,zh,zh,hL1,V,by rw [Us hx3,E7,←Gm];exact hls4,Z.sp⟩,Qh V⟩)
   · refine' LV;refine' QY;refine .inl ⟨_,rfl,rfl,k1,⟨s.h,s.l++x1.results.map (MH x.regs)⟩,vl2,cs2,hL1,by rw [ej,Qin hne,Q5 hrg,Q5 har,Qin h80],?_,(F4 Z.sp hi)⟩;rw [Fg V] at hls;exact hls
end
section
attribute [local irreducible] Kt L4 My Na
variable {Y:Cx}{w:World}{L:List Res}{j:JP}{h:List Bool}{vl:Value}{css:List (List Value)}{i:Nat}{m:Module}
theorem W7 {x:Ins}(hal:x.args.length≤8)(hn:s.l.length≤80)(hx:K1.at Y cs x)(hls:KA.ls Y css s.l)(Z:St Y w L)(hi:nth L i=some (j.res s.h vl css)):
 Kr Tryz.prog Q7H [.pointer (some ⟨j.sp,0,none⟩), .agg ⟨cs⟩] w (PM Y L j i (Uy s x)) (ml Y L (Uy s x)):=by
 have Z:=Z.out hi;obtain ⟨vr,va,rfl,hr,ha⟩:=QN hx;unfold Kr Uy;refine Kl Kh Tryz.func245 ?_;refine' KU;intro p3 E Z;refine' L8;refine' KJ;refine MK (c:=X6 hls Z fd) (p:=by rintro v9 w9 ⟨c,I,rfl,Z⟩;(repeat (refine' Qo));refine' Qi;refine .inr ⟨_,rfl,?_⟩;exact Bq) (h:=?_);rintro v1 E ⟨t,cs1,I,rfl,hrd,Z⟩;have hrd':=hrd;obtain ⟨vd,rfl,hld⟩:=Ql hrd;refine iz rfl rfl ?_;refine M8 [_,_,_] ?_;refine Qb Z ?_;(intro p4 E Z);((refine Kp Z ?_;intro E Z;have Z:=Z.ns));refine' LA;refine' L5;refine' Ob;have Z:=Gg (T:=115) (es:=3) Z;refine zo [0,4,14,15] (fun A ρ' B=>∃(q:Nat) (vo:Value) (co:List (List Value)) (ts:List Ty),Ki ρ' A∧Ki ρ' [(16, .int .i64 q)]∧(q≤x.args.length)∧(KA.ls Y co ts)∧(ts.length=q)∧(oneC vo=true)∧(Kq s x.args=Ke (Kq s (x.args.drop q)) fun l=> .ok (ts++l))∧St Y B (sl 115 3 vo co::blk p4 115 [.int .i64 3, .int .i64 t.r,vo]::blk p3 84 [.int .i64 x.op, .int .i64 x.a, .int .i64 x.b, .int .i64 x.c, .int .i64 x.k, .int .i64 x.n,vr,va]::j.res s.h vl css::L.eraseIdx i)) (fun ρ' _=>(x.args.length - iv (ρ' 16)).toNat) ?_ ?_
 · exact BM
 rintro U E ⟨q,vo,co,ts,hA,hρ,hq,hlo,hlt,hvo,hd,Z⟩;obtain ⟨U,rfl⟩:=Km hA hρ;refine' Nd;refine' Ab<;>intro O
 · refine' i9;refine' zi;intro b1 o1 cs1 x1 hat1 hx1 he1;obtain rfl:=Qy he1;refine MG Z ?_;refine' Kv;refine zC [(0,none),(1,none),(2,none),(3,none),(4,some (some [1])),(5,some (some [1])),(6,some none),(7,none),(8,some none)] ?_;have Z:=Z.drew;refine' KS;refine' Pj;refine' zm;refine' Lh;refine KF (c:=ju hls Z fd) (p:=by rintro v9 w9 ⟨c,M,rfl,Z⟩;(repeat (first|refine' Qo|refine' QL|refine fun _=>?_));refine' Qi;refine .inr ⟨_,rfl,?_⟩;exact ⟨_,by rw [Q5 I,Qr (vg hx1 hd M)],rfl,(Ff Z.sp hi)⟩) (h:=?_);rintro v1 E ⟨t2,cs2,M,rfl,hrd2,Z⟩;have hrd2':=hrd2;obtain ⟨vd2,rfl,hld2⟩:=Ql hrd2;refine' zt;refine ⟨EN.2 ⟨CS,fun _ h=>(ET h).elim⟩,?_⟩;refine' Py;refine KO Z [_,_,_] ?_;intro b1 E Z;refine' zt;refine ⟨EN.2 ⟨CS,fun _ h=>(ET h).elim⟩,?_⟩;refine' Lg;refine za RT Sm Z ?_;intro vp1 E css1 hls1 hv1 Z;have Z:=Z.ns;refine' Ku;refine' MT;refine' K8;refine Lv Z ?_;intro E Z;have Z:=Z.ns;refine' K7;refine' O1;(exact ⟨⟨q+1,_,_,ts++[t2],zh,zh,V,hls1,by simp [hlt],by assumption,vj hx1 hd M,Z.sp⟩,Qh V⟩)
 · refine' LV;have hts:=vq hd V;obtain ⟨c1,hle2,Z,hk1⟩:=FV (r:=KA) Z hlo rfl V;have hT:=Ry (k:=3) (r:=t.r) hk1;have hls:=hls.up hle2;obtain ⟨ao,no,rfl⟩:=E0 hk1;refine Qm ?_;refine zC [(0,none),(1,none),(2,none),(3,none),(4,none),(5,some (some [0])),(6,some none),(7,none),(8,some none)] ?_;have Z:=Z.drew;refine' KS;refine zv Z ?_;refine' Mm;refine' Nc;refine' Oq;refine TQ Z rfl fd rfl ?_;refine' Lh;refine' Kw (c:=W3 Z fd);rintro v1 E ⟨rfl,Z⟩;refine' zt;refine ⟨EN.2 ⟨(by (exact AS)),fun _ h=>(ET h).elim⟩,?_⟩;refine' Lg;refine' Kk (c:=wW hT Z);rintro v1 E ⟨rfl,Z⟩;refine' Ku;refine Yh rfl rfl ?_;refine' K8;refine KF (c:=W5 Z) (p:=by rintro v9 w9 ⟨rfl,hb,Z⟩;(repeat (refine' Qo));refine' Qi;refine .inr ⟨_,rfl,?_⟩;first|(exact ⟨_,by rw [Q5 I,Q5 hts,Qip (of_decide_eq_true hb)],rfl,Ge (Ff Z.sp hi) hle2⟩)) (h:=?_);rintro v1 E ⟨rfl,hb,Z⟩;refine' K7;refine' OH;refine KF (c:=ax (s:=s) V hT hls Z fd) (p:=by rintro v9 w9 ⟨rfl,h80',Z⟩;(repeat (refine' Qo));refine' Qi;refine .inr ⟨_,rfl,?_⟩;exact ⟨_,by rw [Q5 I,Q5 hts,Qin (of_decide_eq_false hb),dC h80'],rfl,Ge (Ff Z.sp hi) hle2⟩) (h:=?_);rintro v1 E ⟨rfl,hne80,vl4,cs4,hls4,Z⟩;have Z:=Z.ns;refine' Pm;exact .inl ⟨_,rfl,rfl,c1,⟨s.h,_⟩,vl4,cs4,hle2,by rw [Q5 I,Q5 hts,Qin (of_decide_eq_false hb),dB hne80],hls4,(F4 Z.sp hi)⟩
theorem td {x:Ins}(h:Qs n x=0):NK n x=0:=by
 unfold Qs at h;split at h
 · cases h
 · split at h
   · cases h
   · exact h
theorem mm {x:Ins}(h:Qs n x=0)(ho:x.op=6∨x.op=7):0≤x.k:=by
 have h:=td h;unfold NK at h;rcases ho with ho|ho<;>simp [ho] at h<;>omega
theorem QjC {x:Ins}(h:Qs n x=0)(ho:x.op=5):x.args.length≤8:=by
 have h:=td h;unfold NK at h;simp [ho] at h;omega
theorem zd {x:Ins}(h:Qs n x=0)(ho:x.op=14):0≤x.k∧x.k<n:=by
 have h:=td h;unfold NK at h;simp [ho] at h;omega
theorem gw {x : Ins}(hm:m.Short)(hF:Qs m.funcs.length x=0)(hn:s.l.length≤80)(hh:s.h.length≤16)(hj:j.Fits Y m)(hx:K1.at Y cs x)(hls:KA.ls Y css s.l)(Z:St Y w L)(hi:nth L i=some (j.res s.h vl css)):
 Kr Tryz.prog Q9x [.pointer (some ⟨j.sp,0,none⟩), .agg ⟨cs⟩] w (PM Y L j i (KG m j.f s x)) (ml Y L (KG m j.f s x)):=by
 have Z:=Z.out hi;have hx':=hx;have hop:=bu hF;have hlc:=hls.1;have hN:KA.at Y [.int .i64 1, .int .i64 0, .slice none 0 0] KC:=Ry (FU _ _ _);obtain ⟨vr,va,rfl,hr,ha⟩:=QN hx;unfold Kr;refine Kl Kh Tryz.func207 ?_;refine' KU;intro p3 E Z;refine' zn;refine' Kn;refine OF [_,_,_] ?_;refine Qb Z ?_;(intro p4 E Z);((refine Kp Z ?_;intro E Z;have Z:=Z.ns));refine' Nl;refine' P1;refine' P2;(refine' Ac<;>intro O);all_goals (refine' Kv)
 all_goals
  first
  | (refine' Kf;refine' Ko)
  | (refine' Kd;refine' Lm;(refine' Ac<;>intro O);all_goals (refine' zm);all_goals refine' zn)
 all_goals
  first
  | (refine' Kf;all_goals (refine' OH;refine KF (c:=ax (s:=s) V hN hls Z fd) (p:=by rintro v9 w9 ⟨rfl,h80,Z⟩;(repeat (refine' QL));refine' Qi;refine .inr ⟨_,rfl,?_⟩;exact ⟨_,by rw [XK V,dC h80],rfl,(Ff Z.sp hi)⟩) (h:=?_);rintro v1 E ⟨rfl,hne,vl4,cs4,hls4,Z⟩;have Z:=Z.ns;have hJ:PM Y L j i (KG m j.f s x) (.tuple #[]) E:=⟨rfl,Y,⟨s.h,_⟩,vl4,cs4,Fs Z,by rw [XK V,dB hne],hls4,(F4 Z.sp hi)⟩;refine' zn);all_goals (refine' QY;exact Ar))
  | (refine' Kd
     refine' Kn;(refine' Ac<;>intro O);all_goals (refine' Kv)
     all_goals
      first
      | (refine' Kf;refine' Nj;refine MK (c:=au (s:=s) hls Z fd) (p:=by rintro v9 w9 ⟨c,I,rfl,Z⟩;(repeat (refine' Lo));refine' Qi;refine .inr ⟨_,rfl,?_⟩;exact ⟨_,by rw [bw V,Qr I],rfl,(Ff Z.sp hi)⟩) (h:=?_);rintro v1 E ⟨t1,cs1,I,rfl,hrd1,Z⟩;skip;refine' L8;refine' KJ;refine MK (c:=au (s:=s) hls Z fd) (p:=by rintro v9 w9 ⟨c,M,rfl,Z⟩;(repeat (refine' Lo));refine' Qi;refine .inr ⟨_,rfl,?_⟩;exact ⟨_,by rw [bw V,Q5 I,Qr M],rfl,(Ff Z.sp hi)⟩) (h:=?_);rintro v1 E ⟨t2,cs2,M,rfl,hrd2,Z⟩;skip;refine' Tb;refine KF (c:=ax (s:=s) V hN hls Z fd) (p:=by rintro v9 w9 ⟨rfl,h80,Z⟩;(repeat (refine' QL));refine' Qi;refine .inr ⟨_,rfl,?_⟩;exact ⟨_,by rw [bw V,Q5 I,Q5 M,dC h80],rfl,(Ff Z.sp hi)⟩) (h:=?_);rintro v1 E ⟨rfl,hne,vl4,cs4,hls4,Z⟩;have Z:=Z.ns;have hJ:PM Y L j i (KG m j.f s x) (.tuple #[]) E:=⟨rfl,Y,⟨s.h,_⟩,vl4,cs4,Fs Z,by rw [bw V,Q5 I,Q5 M,dB hne],hls4,(F4 Z.sp hi)⟩;refine' zn;refine' QY;exact Ar)
      | (refine' Kd
         refine' Kn;(refine' Ac<;>intro O);all_goals (refine' Kv)
         all_goals
          first
          | (refine' Kd
             refine' Kn;(refine' Ac<;>intro O);all_goals (refine' Kv)
             all_goals
              first
              | (refine' Kf;refine' Nj;refine MK (c:=X6 (s:=s) hls Z fd) (p:=by rintro v9 w9 ⟨c,I,rfl,Z⟩;(repeat (refine' Lo));refine' Qi;refine .inr ⟨_,rfl,?_⟩;exact ⟨_,by rw [dy V,Qr I],rfl,(Ff Z.sp hi)⟩) (h:=?_);rintro v1 E ⟨t1,cs1,I,rfl,hrd1,Z⟩;obtain ⟨vd1,rfl,hld1⟩:=Ql hrd1;refine iz rfl rfl ?_;refine' Kv;refine' KW;refine' RG;refine TQ Z rfl fd rfl ?_;(refine' Ae<;>intro O);(all_goals (first|(refine' Kk (c:=W4 Z);rintro v1 E ⟨rfl,Z⟩)|(refine KF (c:=TX Z) (p:=by rintro v9 w9 ⟨rfl,Z⟩;(repeat (refine' Lo));refine' Qi;refine .inr ⟨_,rfl,?_⟩;exact ⟨_,by rw [dy V,Q5 I,Qip V],rfl,(Ff Z.sp hi)⟩) (h:=fun _ _ h=>h.elim))));refine' zn;refine' Lp;refine' ja;refine' zm;refine' Kk (c:=aq (XJ I).2.2.2 Z fd);rintro v1 E ⟨rfl,Z⟩;have Z:=Z.ns;have hJ:PM Y L j i (KG m j.f s x) (.tuple #[]) E:=⟨rfl,Y,⟨s.h.set t1.r.toNat false,s.l⟩,vl,css,Fs Z,by rw [dy V,Q5 I,Qin V],hls,(F4 Z.sp hi)⟩;refine' zn;refine' QY;exact Ar)
              | (refine' Kd
                 refine' Kn;(refine' Ac<;>intro O);all_goals (refine' Kv)
                 all_goals
                  first
                  | (refine' Kf;refine' OH;refine KF (c:=W7 (QjC hF V) hn hx' hls Z fd) (p:=by rintro v9 w9 ⟨c,g1,rfl,Z⟩;(repeat (refine' QL));refine' Qi;refine .inr ⟨_,rfl,?_⟩;exact ⟨_,by rw [iP V];exact g1,rfl,(Ff Z.sp hi)⟩) (h:=?_);rintro v1 E ⟨rfl,c1,s1,vl4,cs4,hle,hr1,hls4,Z⟩;have Z:=Z.ns;have hJ:PM Y L j i (KG m j.f s x) (.tuple #[]) E:=⟨rfl,c1,s1,vl4,cs4,hle,by rw [iP V];exact hr1,hls4,(F4 Z.sp hi)⟩;refine' zn;refine' QY;exact Ar)
                  | (refine' Kd
                     refine' Kn;(refine' Ac<;>intro O);all_goals (refine' Kv)
                     all_goals
                      first
                      | (refine' Kf;refine zC [(0,none),(1,none),(2,none),(3,none),(4,none),(6,none),(7,none),(5,some (some [7])),(8,some (some [])),(9,some none)] ?_;have Z:=Z.drew;refine' OI;refine' O0;refine' TS;refine MK (c:=X6 (s:=s) hls Z fd) (p:=by rintro v9 w9 ⟨c,I,rfl,Z⟩;(repeat (first|refine' Qo|refine' QL|refine fun _=>?_));refine' Qi;refine .inr ⟨_,rfl,?_⟩;exact ⟨_,by rw [bx V,Qr I],rfl,(Ff Z.sp hi)⟩) (h:=?_);rintro v1 E ⟨t1,cs1,I,rfl,hrd1,Z⟩;have hrd1':=hrd1;obtain ⟨vd1,rfl,hld1⟩:=Ql hrd1;refine' zt;refine ⟨EN.2 ⟨CS,fun _ h=>(ET h).elim⟩,?_⟩;refine' Py;refine MK (c:=oG (j:=j) (mm hF V) hrd1' Z) (p:=by rintro v9 w9 ⟨c,M,rfl,Z⟩;(repeat (first|refine' Qo|refine' QL|refine fun _=>?_));refine' Qi;refine .inr ⟨_,rfl,?_⟩;exact ⟨_,by rw [bx V,Q5 I,Qr M],rfl,(Ff Z.sp hi)⟩) (h:=?_);rintro v1 E ⟨t2,cs2,M,rfl,hrd2,Z⟩;skip;refine' zt;refine ⟨fun _ h=>(ET h).elim,?_⟩;refine' Lg;refine KF (c:=ax (s:=s) V hrd2 hls Z fd) (p:=by rintro v9 w9 ⟨rfl,h80,Z⟩;(repeat (refine' Lo));refine' Qi;refine .inr ⟨_,rfl,?_⟩;exact ⟨_,by rw [bx V,Q5 I,Q5 M,dC h80],rfl,(Ff Z.sp hi)⟩) (h:=?_);rintro v1 E ⟨rfl,hne,vl4,cs4,hls4,Z⟩;have Z:=Z.ns;have hJ:PM Y L j i (KG m j.f s x) (.tuple #[]) E:=⟨rfl,Y,⟨s.h,_⟩,vl4,cs4,Fs Z,by rw [bx V,Q5 I,Q5 M,dB hne],hls4,(F4 Z.sp hi)⟩;refine' K7;refine' QY;exact Ar)
                      | (refine' Kd
                         refine' Kn;(refine' Ac<;>intro O);all_goals (refine' Kv)
                         all_goals
                          first
                          | (refine' Kf
                             refine Qm ?_;refine NU 4 8 Jk ?_ ?_
                             · skip
                               refine NU 7 8 Jk ?_ ?_
                               · refine zC [(0,none),(1,none),(2,none),(3,none),(5,none),(6,none),(4,some (some [6])),(7,some none),(8,some none),(9,some none)] ?_;have Z:=Z.drew;refine' OI;refine' TS;refine MK (c:=X6 (s:=s) hls Z fd) (p:=by rintro v9 w9 ⟨c,I,rfl,Z⟩;(repeat (first|refine' Qo|refine' QL|refine fun _=>?_));refine' Qi;refine .inr ⟨_,rfl,?_⟩;exact By) (h:=?_);rintro v1 E ⟨t1,cs1,I,rfl,hrd1,Z⟩;have hrd1':=hrd1;obtain ⟨vd1,rfl,hld1⟩:=Ql hrd1;refine' zt;refine ⟨EN.2 ⟨CS,fun _ h=>(ET h).elim⟩,?_⟩;refine' Lg;refine MK (c:=oG (j:=j) (mm hF V) hrd1' Z) (p:=by rintro v9 w9 ⟨c,M,rfl,Z⟩;(repeat (refine' Lo));refine' Qi;refine .inr ⟨_,rfl,?_⟩;exact A4) (h:=?_);rintro v1 E ⟨t2,cs2,M,rfl,hrd2,Z⟩;have hrd2':=hrd2;obtain ⟨vd2,rfl,hld2⟩:=Ql hrd2;refine' K8;refine Qb Z ?_;intro p6 E Z;refine' K8;refine Kp Z ?_;intro E Z;have Z:=Z.ns;refine' K7;refine zC [(0,none),(1,none),(2,none),(3,none),(4,some (some [0])),(5,some none),(6,none),(7,some none)] ?_;have Z:=Z.drew;refine' KS;refine zv Z ?_;refine' Mm;refine' Ot;refine KF (c:=ju (s:=s) hls Z fd) (p:=by rintro v9 w9 ⟨c,h3,rfl,Z⟩;(repeat (first|refine' Qo|refine' QL|refine fun _=>?_));refine' Qi;refine .inr ⟨_,rfl,?_⟩;exact Bz) (h:=?_);rintro v1 E ⟨t3,cs3,h3,rfl,hrd3,Z⟩;skip;refine' zt;refine ⟨EN.2 ⟨(by (exact AS)),fun _ h=>(ET h).elim⟩,?_⟩;refine' Lg;refine' Kk (c:=kP _ _ hrd2' hrd3 Z);rintro v1 E ⟨rfl,Z⟩;refine' Ku;refine' ND;refine' K8;refine KF (c:=W5 Z) (p:=by rintro v9 w9 ⟨rfl,hb,Z⟩;(repeat (refine' Lo));refine' Qi;refine .inr ⟨_,rfl,?_⟩;exact Bk) (h:=?_);rintro v1 E ⟨rfl,hb,Z⟩;refine' K7;have hJ:PM Y L j i (KG m j.f s x) (.tuple #[]) E:=⟨rfl,Y,s,vl,css,Fs Z,by rw [Uz V,Q5 I,Q5 M,Q5 h3,Qin C8],hls,(F4 Z.sp hi)⟩;refine' QY;exact Ar
                               · refine zC [(0,none),(1,none),(2,none),(3,none),(5,none),(6,none),(4,some (some [6])),(8,some (some [6])),(7,some none),(9,some none)] ?_;have Z:=Z.drew;refine' OI;refine' TS;refine MK (c:=X6 (s:=s) hls Z fd) (p:=by rintro v9 w9 ⟨c,I,rfl,Z⟩;(repeat (first|refine' Qo|refine' QL|refine fun _=>?_));refine' Qi;refine .inr ⟨_,rfl,?_⟩;exact By) (h:=?_);rintro v1 E ⟨t1,cs1,I,rfl,hrd1,Z⟩;have hrd1':=hrd1;obtain ⟨vd1,rfl,hld1⟩:=Ql hrd1;refine' zt;refine ⟨EN.2 ⟨CS,fun _ h=>(ET h).elim⟩,?_⟩;refine' Py;refine Qb Z ?_;intro p6 E Z;refine' zt;refine ⟨EN.2 ⟨CS,fun _ h=>(ET h).elim⟩,?_⟩;refine' Lg;refine MK (c:=oG (j:=j) (mm hF V) hrd1' Z) (p:=by rintro v9 w9 ⟨c,M,rfl,Z⟩;(repeat (refine' Lo));refine' Qi;refine .inr ⟨_,rfl,?_⟩;exact A4) (h:=?_);rintro v1 E ⟨t2,cs2,M,rfl,hrd2,Z⟩;have hrd2':=hrd2;obtain ⟨vd2,rfl,hld2⟩:=Ql hrd2;refine' K8;refine Kp Z ?_;intro E Z;have Z:=Z.ns;refine' K7;refine zC [(0,none),(1,none),(2,none),(3,none),(4,some (some [0])),(5,some none),(6,none),(7,some none)] ?_;have Z:=Z.drew;refine' KS;refine zv Z ?_;refine' Mm;refine' Ot;refine KF (c:=ju (s:=s) hls Z fd) (p:=by rintro v9 w9 ⟨c,h3,rfl,Z⟩;(repeat (first|refine' Qo|refine' QL|refine fun _=>?_));refine' Qi;refine .inr ⟨_,rfl,?_⟩;exact Bz) (h:=?_);rintro v1 E ⟨t3,cs3,h3,rfl,hrd3,Z⟩;skip;refine' zt;refine ⟨EN.2 ⟨(by (exact AS)),fun _ h=>(ET h).elim⟩,?_⟩;refine' Lg;refine' Kk (c:=kP _ _ hrd2' hrd3 Z);rintro v1 E ⟨rfl,Z⟩;refine' Ku;refine' ND;refine' K8;refine KF (c:=W5 Z) (p:=by rintro v9 w9 ⟨rfl,hb,Z⟩;(repeat (refine' Lo));refine' Qi;refine .inr ⟨_,rfl,?_⟩;exact Bk) (h:=?_);rintro v1 E ⟨rfl,hb,Z⟩;refine' K7;have hJ:PM Y L j i (KG m j.f s x) (.tuple #[]) E:=⟨rfl,Y,s,vl,css,Fs Z,by rw [Uz V,Q5 I,Q5 M,Q5 h3,Qin C8],hls,(F4 Z.sp hi)⟩;refine' QY;exact Ar
                             · refine zC [(0,none),(1,none),(2,none),(3,none),(5,none),(6,none),(8,some (some [3,6])),(4,some (some [6])),(7,some none),(9,some none)] ?_;have Z:=Z.drew;refine' OI;refine' TS;refine Qb Z ?_;intro p6 E Z;refine' zt;refine ⟨EN.2 ⟨CS,EN.2 ⟨CS,fun _ h=>(ET h).elim⟩⟩,?_⟩;refine' Py;refine MK (c:=X6 (s:=s) hls Z fd) (p:=by rintro v9 w9 ⟨c,I,rfl,Z⟩;(repeat (first|refine' Qo|refine' QL|refine fun _=>?_));refine' Qi;refine .inr ⟨_,rfl,?_⟩;exact By) (h:=?_);rintro v1 E ⟨t1,cs1,I,rfl,hrd1,Z⟩;have hrd1':=hrd1;obtain ⟨vd1,rfl,hld1⟩:=Ql hrd1;refine' zt;refine ⟨EN.2 ⟨CS,fun _ h=>(ET h).elim⟩,?_⟩;refine' Lg;refine MK (c:=oG (j:=j) (mm hF V) hrd1' Z) (p:=by rintro v9 w9 ⟨c,M,rfl,Z⟩;(repeat (refine' Lo));refine' Qi;refine .inr ⟨_,rfl,?_⟩;exact A4) (h:=?_);rintro v1 E ⟨t2,cs2,M,rfl,hrd2,Z⟩;have hrd2':=hrd2;obtain ⟨vd2,rfl,hld2⟩:=Ql hrd2;refine' K8;refine Kp Z ?_;intro E Z;have Z:=Z.ns;refine' K7;refine zC [(0,none),(1,none),(2,none),(3,none),(4,some (some [0])),(5,some none),(6,none),(7,some none)] ?_;have Z:=Z.drew;refine' KS;refine zv Z ?_;refine' Mm;refine' Ot;refine KF (c:=ju (s:=s) hls Z fd) (p:=by rintro v9 w9 ⟨c,h3,rfl,Z⟩;(repeat (first|refine' Qo|refine' QL|refine fun _=>?_));refine' Qi;refine .inr ⟨_,rfl,?_⟩;exact Bz) (h:=?_);rintro v1 E ⟨t3,cs3,h3,rfl,hrd3,Z⟩;skip;refine' zt;refine ⟨EN.2 ⟨(by (exact AS)),fun _ h=>(ET h).elim⟩,?_⟩;refine' Lg;refine' Kk (c:=kP _ _ hrd2' hrd3 Z);rintro v1 E ⟨rfl,Z⟩;refine' Ku;refine' ND;refine' K8;refine KF (c:=W5 Z) (p:=by rintro v9 w9 ⟨rfl,hb,Z⟩;(repeat (refine' Lo));refine' Qi;refine .inr ⟨_,rfl,?_⟩;exact Bk) (h:=?_);rintro v1 E ⟨rfl,hb,Z⟩;refine' K7;have hJ:PM Y L j i (KG m j.f s x) (.tuple #[]) E:=⟨rfl,Y,s,vl,css,Fs Z,by rw [Uz V,Q5 I,Q5 M,Q5 h3,Qin C8],hls,(F4 Z.sp hi)⟩;refine' QY;exact Ar)
                          | (refine' Kd
                             refine' Kn;(refine' Ac<;>intro O);all_goals (refine' Kv)
                             all_goals
                              first
                              | (refine' Kf;refine' Nj;refine MK (c:=X6 (s:=s) hls Z fd) (p:=by rintro v9 w9 ⟨c,I,rfl,Z⟩;(repeat (refine' Lo));refine' Qi;refine .inr ⟨_,rfl,?_⟩;exact ⟨_,by rw [bz V,Qr I],rfl,(Ff Z.sp hi)⟩) (h:=?_);rintro v1 E ⟨t1,cs1,I,rfl,hrd1,Z⟩;obtain ⟨vd1,rfl,hld1⟩:=Ql hrd1;refine iz rfl rfl ?_;refine' L6;refine' KJ;refine MK (c:=au (s:=s) hls Z fd) (p:=by rintro v9 w9 ⟨c,M,rfl,Z⟩;(repeat (refine' Lo));refine' Qi;refine .inr ⟨_,rfl,?_⟩;exact ⟨_,by rw [bz V,Q5 I,Qr M],rfl,(Ff Z.sp hi)⟩) (h:=?_);rintro v1 E ⟨t2,cs2,M,rfl,hrd2,Z⟩;skip;refine' U3;refine M8 [_,_,_] ?_;refine KF (c:=ax (s:=s) V (Ry (k:=4) (r:=t1.r) (l:=[]) (FU _ _ _)) hls Z fd) (p:=by rintro v9 w9 ⟨rfl,h80,Z⟩;(repeat (refine' QL));refine' Qi;refine .inr ⟨_,rfl,?_⟩;exact ⟨_,by rw [bz V,Q5 I,Q5 M,dC h80],rfl,(Ff Z.sp hi)⟩) (h:=?_);rintro v1 E ⟨rfl,hne,vl4,cs4,hls4,Z⟩;have Z:=Z.ns;have hJ:PM Y L j i (KG m j.f s x) (.tuple #[]) E:=⟨rfl,Y,⟨s.h,_⟩,vl4,cs4,Fs Z,by rw [bz V,Q5 I,Q5 M,dB hne],hls4,(F4 Z.sp hi)⟩;refine' zn)
                              | (refine' Kd
                                 refine' Kn;(refine' Ac<;>intro O);all_goals (refine' Kv)
                                 all_goals
                                  first
                                  | (refine' Kf;refine' Nj;refine MK (c:=X6 (s:=s) hls Z fd) (p:=by rintro v9 w9 ⟨c,I,rfl,Z⟩;(repeat (refine' Lo));refine' Qi;refine .inr ⟨_,rfl,?_⟩;exact ⟨_,by rw [bA V,Qr I],rfl,(Ff Z.sp hi)⟩) (h:=?_);rintro v1 E ⟨t1,cs1,I,rfl,hrd1,Z⟩;skip;refine' L8;refine' KJ;refine MK (c:=au (s:=s) hls Z fd) (p:=by rintro v9 w9 ⟨c,M,rfl,Z⟩;(repeat (refine' Lo));refine' Qi;refine .inr ⟨_,rfl,?_⟩;exact ⟨_,by rw [bA V,Q5 I,Qr M],rfl,(Ff Z.sp hi)⟩) (h:=?_);rintro v1 E ⟨t2,cs2,M,rfl,hrd2,Z⟩;skip;refine' Tb;refine KF (c:=ax (s:=s) V hN hls Z fd) (p:=by rintro v9 w9 ⟨rfl,h80,Z⟩;(repeat (refine' QL));refine' Qi;refine .inr ⟨_,rfl,?_⟩;exact ⟨_,by rw [bA V,Q5 I,Q5 M,dC h80],rfl,(Ff Z.sp hi)⟩) (h:=?_);rintro v1 E ⟨rfl,hne,vl4,cs4,hls4,Z⟩;have Z:=Z.ns;have hJ:PM Y L j i (KG m j.f s x) (.tuple #[]) E:=⟨rfl,Y,⟨s.h,_⟩,vl4,cs4,Fs Z,by rw [bA V,Q5 I,Q5 M,dB hne],hls4,(F4 Z.sp hi)⟩;refine' zn)
                                  | (refine' Kd
                                     refine' Kn;(refine' Ac<;>intro O);all_goals (refine' Kv)
                                     all_goals
                                      first
                                      | (refine' Kf;refine' Nj;refine MK (c:=X6 (s:=s) hls Z fd) (p:=by rintro v9 w9 ⟨c,I,rfl,Z⟩;(repeat (refine' Lo));refine' Qi;refine .inr ⟨_,rfl,?_⟩;exact ⟨_,by rw [bB V,Qr I],rfl,(Ff Z.sp hi)⟩) (h:=?_);rintro v1 E ⟨t1,cs1,I,rfl,hrd1,Z⟩;skip;refine' L8;refine' KJ;refine MK (c:=au (s:=s) hls Z fd) (p:=by rintro v9 w9 ⟨c,M,rfl,Z⟩;(repeat (refine' Lo));refine' Qi;refine .inr ⟨_,rfl,?_⟩;exact ⟨_,by rw [bB V,Q5 I,Qr M],rfl,(Ff Z.sp hi)⟩) (h:=?_);rintro v1 E ⟨t2,cs2,M,rfl,hrd2,Z⟩;skip;refine' zn;refine' OK;refine MK (c:=au (s:=s) hls Z fd) (p:=by rintro v9 w9 ⟨c,h3,rfl,Z⟩;(repeat (refine' QL));refine' Qi;refine .inr ⟨_,rfl,?_⟩;exact ⟨_,by rw [bB V,Q5 I,Q5 M,Qr h3],rfl,(Ff Z.sp hi)⟩) (h:=?_);rintro v1 E ⟨t3,cs3,h3,rfl,hrd3,Z⟩;skip;refine' zn;have hJ:PM Y L j i (KG m j.f s x) (.tuple #[]) E:=⟨rfl,Y,s,vl,css,Fs Z,by rw [bB V,Q5 I,Q5 M,Q5 h3],hls,(F4 Z.sp hi)⟩)
                                      | (refine' Kd
                                         refine' Kn;(refine' Ac<;>intro O);all_goals (refine' Kv)
                                         all_goals
                                          first
                                          | (refine' Kf;refine' Nj;refine MK (c:=X6 (s:=s) hls Z fd) (p:=by rintro v9 w9 ⟨c,I,rfl,Z⟩;(repeat (refine' Lo));refine' Qi;refine .inr ⟨_,rfl,?_⟩;exact ⟨_,by rw [dz V,Qr I],rfl,(Ff Z.sp hi)⟩) (h:=?_);rintro v1 E ⟨t1,cs1,I,rfl,hrd1,Z⟩;skip;refine' Tb;refine KF (c:=ax (s:=s) V hN hls Z fd) (p:=by rintro v9 w9 ⟨rfl,h80,Z⟩;(repeat (refine' QL));refine' Qi;refine .inr ⟨_,rfl,?_⟩;exact ⟨_,by rw [dz V,Q5 I,dC h80],rfl,(Ff Z.sp hi)⟩) (h:=?_);rintro v1 E ⟨rfl,hne,vl4,cs4,hls4,Z⟩;have Z:=Z.ns;have hJ:PM Y L j i (KG m j.f s x) (.tuple #[]) E:=⟨rfl,Y,⟨s.h,_⟩,vl4,cs4,Fs Z,by rw [dz V,Q5 I,dB hne],hls4,(F4 Z.sp hi)⟩;refine' zn)
                                          | (refine' Kd
                                             refine' Kn;(refine' Ac<;>intro O);all_goals (refine' Kv)
                                             all_goals
                                              first
                                              | (refine' Kf;refine' OK;refine MK (c:=au (s:=s) hls Z fd) (p:=by rintro v9 w9 ⟨c,I,rfl,Z⟩;(repeat (refine' QL));refine' Qi;refine .inr ⟨_,rfl,?_⟩;exact ⟨_,by rw [iQ V,Qr I],rfl,(Ff Z.sp hi)⟩) (h:=?_);rintro v1 E ⟨t1,cs1,I,rfl,hrd1,Z⟩;skip;refine' zn;have hJ:PM Y L j i (KG m j.f s x) (.tuple #[]) E:=⟨rfl,Y,s,vl,css,Fs Z,by rw [iQ V,Q5 I],hls,(F4 Z.sp hi)⟩)
                                              | (refine' Kd
                                                 refine' Kn;refine' UW
                                                 all_goals
                                                  first
                                                  | (refine' Kf;refine' OH;refine KF (c:=ay hm (zd hF V) hn hj hx' hls Z fd) (p:=by rintro v9 w9 ⟨c,g1,rfl,Z⟩;(repeat (refine' QL));refine' Qi;refine .inr ⟨_,rfl,?_⟩;exact ⟨_,by rw [dA V];exact g1,rfl,(Ff Z.sp hi)⟩) (h:=?_);rintro v1 E ⟨rfl,c1,s1,vl4,cs4,hle,hr1,hls4,Z⟩;have Z:=Z.ns;have hJ:PM Y L j i (KG m j.f s x) (.tuple #[]) E:=⟨rfl,c1,s1,vl4,cs4,hle,by rw [dA V];exact hr1,hls4,(F4 Z.sp hi)⟩;refine' zn))))))
                             all_goals (refine' QY;exact Ar))))))
          | (refine' Kf;refine' Rm;refine TQ Z rfl fd rfl ?_;refine' Kw (c:=W3 Z fd);rintro v1 E ⟨rfl,Z⟩;(refine' Ac<;>intro O);(all_goals (refine' XS;refine' UP;(first|refine' Kj|(refine' Kg;refine TQ Z rfl fd rfl ?_));(first|refine' Kj|(refine' Kg;refine W1 Z fd vw hlc ?_));first|refine' Kj|(refine' Kg;refine' Ac<;>intro O));all_goals (refine' Lw;first|(refine' Kk (c:=W4 Z);rintro v1 E ⟨rfl,Z⟩)|(refine KF (c:=TX Z) (p:=by rintro v9 w9 ⟨rfl,Z⟩;(repeat (refine' Lo));refine' Qi;refine .inr ⟨_,rfl,?_⟩;exact ⟨_,by rw [iO V,Qip V],rfl,(Ff Z.sp hi)⟩) (h:=fun _ _ h=>h.elim))));refine' U3;refine' ja;refine' Kw (c:=al (h:=s.h) V Z fd);rintro v1 E ⟨rfl,Z⟩;have Z:=Z.ns;refine M8 [_,_,_] ?_;refine KF (c:=ax (s:=s) V (Ry (k:=2) (r:=s.h.length) (l:=[]) (FU _ _ _)) hls Z fd) (p:=by rintro v9 w9 ⟨rfl,h80,Z⟩;(repeat (refine' QL));refine' Qi;refine .inr ⟨_,rfl,?_⟩;(exfalso;omega)) (h:=?_);rintro v1 E ⟨rfl,hne,vl4,cs4,hls4,Z⟩;have Z:=Z.ns;have hJ:PM Y L j i (KG m j.f s x) (.tuple #[]) E:=⟨rfl,Y,⟨s.h++[true],_⟩,vl4,cs4,Fs Z,by rw [iO V,Qin V],hls4,(F4 Z.sp hi)⟩;refine' zn;refine' QY;exact Ar)))
end
section
attribute [local irreducible] Kt L4 My Na NL K5
variable {Y:Cx}{w:World}{L:List Res}{j:JP}{h:List Bool}{vl:Value}{css:List (List Value)}{i:Nat}{m:Module}
theorem W8 (hsf:j.f.Short)(hb:0≤t.block∧t.block<j.f.blocks.length)(hfb:∀b∈j.f.blocks,j.f.regs≤b.regs)(hh:s.h.length≤16)(hj:j.Fits Y m)(hx:toR.at Y cs t)(hls:KA.ls Y css s.l)(Z:St Y w L)(hi:nth L i=some (j.res s.h vl css)):
 Kr Tryz.prog Qan [.pointer (some ⟨j.sp,0,none⟩), .agg ⟨cs⟩] w (fun u B=>NM j.f s t= .ok ()∧u= .tuple #[]∧St Y B L) (ml Y L (NM j.f s t)):=by
 (have Z:=Z.out hi;obtain ⟨vr,va,rfl,hr,ha⟩:=YJ hx;have hlr:=hr.len;have hbl:=hj.b;unfold Kr;refine Kl Kh Tryz.func249 ?_;refine' KU;intro p3 E Z;refine' LA;refine zC [(0,none),(1,none),(2,none),(3,none),(4,none),(5,none),(6,none),(7,none),(8,none),(9,some (some [4,6,8])),(10,some none)] ?_;have Z:=Z.drew;refine' NT;refine' i6;refine TQ Z rfl fd rfl ?_;refine' Ku;refine' NS;((refine' zj;intro b1 o1 cs1 x1 hat1 hx1 he1;((obtain ⟨vp1,vc1,ve11,ve12,ve13,ve14,ve15,rfl,hp1,hc1,he11,he12,he13,he14,he15⟩:=PV he1))));refine' TP;(intro p4 E Z);refine' zt;refine ⟨EN.2 ⟨DY,EN.2 ⟨CS,EN.2 ⟨C7,fun _ h=>(ET h).elim⟩⟩⟩,?_⟩;refine' Lg;((refine Kp Z ?_;intro E Z;have Z:=Z.ns));refine' K7;have hbm:=EK hx1;have hf1:=hfb x1 hbm;have hsb:=hsf.2.2.2 x1 hbm;refine' Ta;refine' KJ;(refine' Ad<;>intro O);all_goals (first|(refine' Kk (c:=W4 Z);rintro v1 E ⟨rfl,Z⟩)|(refine KF (c:=TX Z) (p:=by rintro v9 w9 ⟨rfl,Z⟩;(repeat (refine' Qo));refine' Qi;refine .inr ⟨_,rfl,?_⟩;exact ⟨_,bC hx1 V,rfl,(Ff Z.sp hi)⟩) (h:=fun _ _ h=>h.elim))));refine' zn;refine' Lb;refine' RG;refine TQ Z rfl fd rfl ?_;refine' OG;refine Mt Z [0,3,4,27] (fun A LL ρ' B=>∃(q:Nat),Ki ρ' A∧Ki ρ' [(28, .int .i64 q)]∧(q≤j.f.regs.toNat)∧(NL t.regs q=true)∧(¬(t.regs.length:Int)≠x1.regs)∧St Y B (LL)) (fun ρ' _=>(j.f.regs - iv (ρ' 28)).toNat) ?_ ?_
 · exact ⟨0,zh,zh,V,by unfold NL;rfl,V,Z.sp⟩
 rintro U E ⟨q,hA,hρ,hq,hk,hne,Z⟩;obtain ⟨U,rfl⟩:=Km hA hρ;refine' Nd;refine' Ab<;>intro O
 · refine' Mi;refine' Nz;refine' S2;refine' zm;refine' zi;intro b2 o2 cs2 x2 hat2 hx2 he2;obtain rfl:=Qy he2;refine MG Z ?_;refine' zm;(refine' Ad<;>intro O);(all_goals (first|(refine' Kk (c:=W4 Z);rintro v1 E ⟨rfl,Z⟩)|(refine KF (c:=TX Z) (p:=by rintro v9 w9 ⟨rfl,Z⟩;(repeat (refine' Lo));refine' Qi;refine .inr ⟨_,rfl,?_⟩;exact ⟨_,UA hx1 hne (vx (q:=q) V (by rw [hx2];intro h;cases h;omega)),rfl,(Ff Z.sp hi)⟩) (h:=fun _ _ h=>h.elim))));refine' S9;(exact Cs)
 · refine' LV;have hq':q=j.f.regs.toNat:=CP;rw [hq'] at hk;refine Qm ?_;refine zD (ci 8 [6,7]) ?_;have Z:=Z.drew;refine' zm;refine' ja;refine' KJ;refine' Kk (c:=ar (h:=s.h) hh hr Z fd);rintro v1 E ⟨rfl,Z⟩;refine' L6;refine Yh rfl rfl ?_;refine' zm;refine KF (c:=W5 Z) (p:=by rintro v9 w9 ⟨rfl,hb,Z⟩;(repeat (refine' Qo));refine' Qi;refine .inr ⟨_,rfl,?_⟩;exact ⟨_,bD hx1 hne hk (of_decide_eq_true hb),rfl,(Ff Z.sp hi)⟩) (h:=?_);rintro v1 E ⟨rfl,hb,Z⟩;refine' zn;refine' OK;refine' KJ;refine' KJ;refine qD (c:=ta (s:=s) hsb.1.2 hls ha hp1 hr Z fd) (p:=by rintro v9 w9 ⟨c,g1,rfl,Z⟩;(repeat (refine' Qo));refine' Qi;refine .inr ⟨_,rfl,?_⟩;exact ⟨_,(UB hx1 hne hk (Fk.1 (of_decide_eq_false hb))).trans g1,rfl,(Ff Z.sp hi)⟩) (h:=?_);rintro v1 E ⟨har,rfl,Z⟩;refine' Pm;exact .inl ⟨_,rfl,(UB hx1 hne hk (Fk.1 (of_decide_eq_false hb))).trans har,rfl,(Ff Z.sp hi)⟩
theorem gx {e:Tail}(hsf:j.f.Short)(hF:Np j.f.blocks.length e=0)(hfb:∀b∈j.f.blocks,j.f.regs≤b.regs)(hfr:j.f.regs≤100000)(hh:s.h.length≤16)(hj:j.Fits Y m)(hx:La.at Y cs e)(hls:KA.ls Y css s.l)(Z:St Y w L)(hi:nth L i=some (j.res s.h vl css)):
 Kr Tryz.prog Q9y [.pointer (some ⟨j.sp,0,none⟩), .agg ⟨cs⟩] w (fun u B=>Ml j.f s e= .ok ()∧u= .tuple #[]∧St Y B L) (ml Y L (Ml j.f s e)):=by
 have Z:=Z.out hi;obtain ⟨v1,v2,v3,v4,v5,rfl,I,M,h3,h4,h5⟩:=PA hx;have hop:=iR hF;have hy:e.op≠3→0≤e.yes.block∧e.yes.block<j.f.blocks.length:=fun h=>YP Ek;have hz:e.op=2→0≤e.no.block∧e.no.block<j.f.blocks.length:=fun h=>YP D7;have hT1:toR.at Y [.int .i64 e.yes.block,v1,v2] e.yes:=⟨_,_,rfl,I,M⟩;have hT2:toR.at Y [.int .i64 e.no.block,v3,v4] e.no:=⟨_,_,rfl,h3,h4⟩;have hjr:=hj.r;unfold Kr;refine Kl Kh Tryz.func210 ?_;refine' KU;intro p3 E Z;refine' Nl;refine' P1;refine' Kn;(refine' Ac<;>intro O);all_goals (refine' Kv)
 all_goals
  first
  | (refine' Kf;refine' XV;refine KF (c:=W8 (s:=s) hsf (hy V) hfb hh hj hT1 hls Z fd) (p:=by rintro v9 w9 ⟨c,g1,rfl,Z⟩;(repeat (refine' QL));refine' Qi;refine .inr ⟨_,rfl,?_⟩;exact ⟨_,(np V).trans g1,rfl,(Ff Z.sp hi)⟩) (h:=?_);rintro v6 E ⟨g1,rfl,Z⟩;have hJ:=(np (f:=j.f) (s:=s) (e:=e) V).trans g1;refine' zn;refine' QY;exact Bj)
  | (refine' Kd
     refine' Kn;(refine' Ac<;>intro O);all_goals (refine' Kv)
     all_goals
      first
      | (refine' Kf;refine' Nj;refine MK (c:=au (s:=s) hls Z fd) (p:=by rintro v9 w9 ⟨c,g1,rfl,Z⟩;(repeat (refine' Lo));refine' Qi;refine .inr ⟨_,rfl,?_⟩;exact ⟨_,by rw [bE V,Qr g1],rfl,(Ff Z.sp hi)⟩) (h:=?_);rintro v6 E ⟨t1,cs1,g1,rfl,hrd1,Z⟩;refine' L8;refine' Sd;refine KF (c:=W8 (s:=s) hsf (hy V) hfb hh hj hT1 hls Z fd) (p:=by rintro v9 w9 ⟨c,g2,rfl,Z⟩;(repeat (refine' Lo));refine' Qi;refine .inr ⟨_,rfl,?_⟩;exact ⟨_,by rw [bE V,Q5 g1,Qr g2],rfl,(Ff Z.sp hi)⟩) (h:=?_);rintro v6 E ⟨g2,rfl,Z⟩;refine' zn;refine' XV;refine KF (c:=W8 (s:=s) hsf (hz V) hfb hh hj hT2 hls Z fd) (p:=by rintro v9 w9 ⟨c,g3,rfl,Z⟩;(repeat (refine' QL));refine' Qi;refine .inr ⟨_,rfl,?_⟩;exact ⟨_,by rw [bE V,Q5 g1,Q5 g2];exact g3,rfl,(Ff Z.sp hi)⟩) (h:=?_);rintro v6 E ⟨g3,rfl,Z⟩;have hJ:Ml j.f s e= .ok ():=(by rw [bE V,Q5 g1,Q5 g2];exact g3);refine' zn;refine' QY;exact Bj)
      | (refine' Kd
         refine' Kn;refine' UW
         all_goals
          first
          | (refine' Kf
             refine' MV;refine' RG;refine TQ Z rfl fd rfl ?_;refine' OG;have Z:=Gg (T:=3) (es:=1) Z;refine zo [0,3,34] (fun A ρ' B=>∃(q:Nat) (vo:Value) (co:List (List Value)),Ki ρ' A∧Ki ρ' [(35, .int .i64 q),(4,vo)]∧(q≤j.f.regs.toNat)∧(Kb.ls Y co (K5 q))∧((K5 q).length=q)∧(e.op=3)∧St Y B (sl 3 1 vo co::blk p3 90 [.int .i64 e.op, .int .i64 e.a, .int .i64 e.yes.block,v1,v2, .int .i64 e.no.block,v3,v4,v5]::j.res s.h vl css::L.eraseIdx i)) (fun ρ' _=>(j.f.regs - iv (ρ' 35)).toNat) ?_ ?_
             · exact BT
             rintro U E ⟨q,vo,co,hA,hρ,hq,hlo,hlq,ho3,Z⟩;obtain ⟨U,rfl⟩:=Km hA hρ;refine' Nd;refine' Ab<;>intro O
             · refine' Mi;refine' Nz;refine' NH;refine KO Z [_] ?_;intro b1 E Z;refine za RQ Sk Z ?_;intro vp1 E css1 hls1 hv1 Z;have Z:=Z.ns;refine' Kv;refine' O1;(exact BN)
             · refine' LV;have hq':q=j.f.regs.toNat:=CP;rw [hq'] at hlo;obtain ⟨c1,hle2,Z,hk1⟩:=FV (r:=Kb) Z hlo rfl (by rw [←hq'];omega);have hls':=hls.up hle2;have h5':=h5.up hle2;have hjr':=hjr.up hle2;refine Qm ?_;refine zD (ci 10 [9]) ?_;have Z:=Z.drew;refine' zm;refine' KJ;refine' zm;refine' RG;refine TQ Z rfl fd rfl ?_;refine' zm;refine qD (c:=ta (s:=s) hsf.2.1.2 hls' h5' hjr' hk1 Z fd) (p:=by rintro v9 w9 ⟨c,g1,rfl,Z⟩;(repeat (refine' Lo));refine' Qi;refine .inr ⟨_,rfl,?_⟩;exact ⟨_,by rw [dE ho3,Qr g1],rfl,Ge (Ff Z.sp hi) hle2⟩) (h:=?_);rintro v6 E ⟨har,rfl,Z⟩;refine' zn;refine zC [(0,none),(1,none),(2,none),(3,none),(6,none),(7,none),(8,none),(9,none),(10,none),(4,some (some [10])),(5,none),(11,none),(12,some none)] ?_;have Z:=Z.drew;refine' NT;refine' Oq;refine TQ Z rfl fd rfl ?_;refine' Mm;refine' Nc;refine' i6;refine TQ Z rfl fd rfl ?_;refine' Lh;refine' Kw (c:=ak (h:=s.h) hh Z fd);rintro v1 E ⟨c2,hle3,hk2,Z⟩;have Z:=Ge Z hle3;have Z:=Ge Z hle2;have hl2:=hk2.len;refine' zt;refine ⟨EN.2 ⟨DY,fun _ h=>(ET h).elim⟩,?_⟩;refine' KS;refine' zL;refine' Ku;refine jW rfl rfl ?_;refine' K8;refine KF (c:=W5 Z) (p:=by rintro v9 w9 ⟨rfl,hb,Z⟩;(repeat (refine' Lo));refine' Qi;refine .inr ⟨_,rfl,?_⟩;exact ⟨_,by rw [dE ho3,Q5 har,Qip (by have:=of_decide_eq_true hb;omega)],rfl,(Ff Z.sp hi)⟩) (h:=?_);rintro v1 E ⟨rfl,hb,Z⟩;have hJ:Ml j.f s e= .ok ():=(by rw [dE ho3,Q5 har,Qin (by have:=of_decide_eq_false hb;omega)]);refine' K7;refine' QY;exact Bj)))
end
section
attribute [local irreducible] Kt L4 My Na NL K5
variable {Y:Cx}{w:World}{L:List Res}{j:JP}{h:List Bool}{vl:Value}{css:List (List Value)}{i:Nat}{m:Module}
theorem Qkb {n:Int}(Z:St Y w (blk p 3 [.int .i64 n]::L)):Nb Tryz.prog yL [.pointer (some ⟨p,0,none⟩)] .returning w fun u' B=>u'= .returning∧St Y B (blk p 3 [.int .i64 n]::L):=by
 unfold Nb;refine dZ Kh Tryz.func237 ?_;refine' dL;refine' RE;refine' zn;refine' Kv;refine' RD;refine' KX;refine vP (ms:=#[]) Jk rfl ?_;refine' RJ;refine' dU;exact Ay
theorem Qka {n:Int}(Z:St Y w (blk p 3 [.int .i64 n]::L)):Nb Tryz.prog yL [.pointer (some ⟨p,0,none⟩)] (.panicking [{v:=SC e,recovered:=false}]) w fun u' B=>u'= .panicking [{v:=SC e,recovered:=true}]∧St Y B (blk p 3 [.int .i64 e]::L):=by
 unfold Nb;refine dZ Kh Tryz.func237 ?_;refine' dL;refine' RE;refine' zn;refine' Kv;refine' RD;refine' KX;refine vQ (ms:=#[]) Jk rfl ?_;refine' Se;refine' KX;refine nu (D:= .int .i64) Jk DT rfl ?_;refine' U0;refine' TG;refine' Lp;refine Lv Z ?_;intro E Z;have Z:=Z.ns;refine' zn;refine' dU;exact Ay
theorem ze {f:FuncId}{cap:List Value}{X:Cx→List Res→Prop}{Y0q:Int→Cx→List Res→Prop}(hf:SI Tryz.prog f=true)
 (O:∀(p:Nat) (w:World),St Y w (blk p 3 [.int .i64 0]::L)→Kr Tryz.prog f cap w (fun _ B=>∃c' L',Y.Le c'∧St c' B (blk p 3 [.int .i64 0]::L')∧X c' L') (fun u B=>∃e c' L',u=SC e∧Y.Le c'∧St c' B (blk p 3 [.int .i64 0]::L')∧Y0q e c' L'))(Z:St Y w L):
 Ka Tryz.prog Qdi [.func (.func f) #[] ⟨cap⟩] w fun u B=>∃e c' L',u= .int .i64 e∧Y.Le c'∧St c' B L'∧(e=0∧X c' L'∨Y0q e c' L'):=by
 refine qL Kh Tryz.func205 ?_;refine' YV;refine' Pd;refine' Lm;refine Qb Z ?_;(intro p2 E Z);refine' zn;refine' YV;refine' dK;refine' jN;refine' zn;refine ⟨_,_,rfl,?_⟩;refine' zn;refine' Pd;refine' KX;refine YU rfl hf rfl (O _ _ Z) (by rintro v9 w9 ⟨e,c1,L1,rfl,hle,Z,hY⟩;(repeat (refine' Qo));refine' nA;refine YW (by intro h;cases h) Jk (Qka Z) ?_;rintro u' B ⟨rfl,Z⟩;refine' YX;refine QO vw (vM Jk (Z.blkAt KL) rfl) ?_;exact ⟨_,rfl,e,c1,L1,rfl,hle,Z.drop, .inr hY⟩) ?_;rintro v1 E ⟨c1,L1,hle,Z,hX⟩;refine' zn;refine' Kn;refine Lv Z ?_;intro E Z;have Z:=Z.ns;refine' LM;refine' UK;refine YW C6 Jk (Qkb Z) ?_;rintro u1 E ⟨rfl,Z⟩;refine' YX;refine QO vw (vM Jk (Z.blkAt fd) rfl) ?_;((exact ⟨_,rfl,0,c1,L1,rfl,hle,Z.drop, .inl ⟨rfl,hX⟩⟩))
theorem aA {x:Ins}(hm:m.Short)(hF:Qs m.funcs.length x=0)(hn:s.l.length≤80)(hh:s.h.length≤16)(hj:j.Fits Y m)(hx:K1.at Y cs x)(hls:KA.ls Y css s.l)
 (Z:St Y w (blk p 3 [.int .i64 0]::blk pb 84 cs::blk pa 207 [.pointer (some ⟨j.sp,0,none⟩)]::j.res s.h vl css::L)):
 Kr Tryz.prog Q7J [.pointer (some ⟨pa,0,none⟩), .pointer (some ⟨pb,0,none⟩)] w
  (fun _ B=>∃c' L',Y.Le c'∧St c' B (blk p 3 [.int .i64 0]::L')∧∃s' vl' css',KG m j.f s x= .ok s'∧KA.ls c' css' s'.l∧L'=blk pb 84 cs::blk pa 207 [.pointer (some ⟨j.sp,0,none⟩)]::j.res s'.h vl' css'::L)
  (fun u B=>∃e c' L',u=SC e∧Y.Le c'∧St c' B (blk p 3 [.int .i64 0]::L')∧KG m j.f s x= .error e∧c'=Y∧L'=blk pb 84 cs::blk pa 207 [.pointer (some ⟨j.sp,0,none⟩)]::j.res s.h vl css::L):=by
 have hx':=hx;obtain ⟨vr,va,rfl,hr,ha⟩:=QN hx;unfold Kr;refine Kl Kh Tryz.func206 ?_;refine' bL;refine zv Z ?_;refine KF (c:=gw hm hF hn hh hj hx' hls Z fd) (p:=by rintro v9 w9 ⟨c,g1,rfl,Z⟩;(repeat (refine' Qo));refine' Qi;refine .inr ⟨_,rfl,?_⟩;exact ⟨c,Y,_,rfl,Fs Z,Z,g1,rfl,rfl⟩) (h:=?_);rintro v1 E ⟨rfl,c1,s1,vl4,cs4,hle,hr1,hls4,Z⟩;have Z:=Z.ns;refine' Pm;exact .inl ⟨_,rfl,c1,_,hle,Z,s1,vl4,cs4,hr1,hls4,rfl⟩
theorem gy {x:Ins}(hm:m.Short)(hn:s.l.length≤80)(hh:s.h.length≤16)(hj:j.Fits Y m)(hx:K1.at Y cs x)(hls:KA.ls Y css s.l)(Z:St Y w L)(hi:nth L i=some (j.res s.h vl css)):
 Ka Tryz.prog Q9z [.pointer (some ⟨j.sp,0,none⟩), .agg ⟨cs⟩] w fun u B=>u= .int .i64 (KK m j.f s x).1∧∃c' vl' css',Y.Le c'∧KA.ls c' css' (KK m j.f s x).2.l∧St c' B (L.set i (j.res (KK m j.f s x).2.h vl' css')):=by
 have Z:=Z.out hi;have hx':=hx;obtain ⟨vr,va,rfl,hr,ha⟩:=QN hx;unfold KK;refine Kl Kh Tryz.func148 ?_;refine' KU;intro p2 E Z;refine zb Z ?_;intro p3 E Z;refine' P3;refine zD (ci 7 [5,6]) ?_;have Z:=Z.drew;refine zl Z ?_;refine' LF;refine yX Z rfl fd rfl rfl ?_;refine zv Z ?_;refine' Kk (c:=fo (m:=m) ⟨_,rfl,hj.m⟩ hx' Z);rintro v1 E ⟨rfl,Z⟩;refine' L6;(refine' Ad<;>intro O);all_goals (refine' zn)
 all_goals
  first
  | (refine' Kf;refine' Rj;(exact ⟨_,rfl,by rw [Qip V],Y,vl,css,Fs Z,by rw [Qip V];exact hls,by rw [Qip V];exact (F4 Z.sp hi)⟩))
  | (refine' Kd;refine' Ko)
 refine' Kn;refine' jN;refine' Kw (c:=ze Jk (fun p w Z=>aA (s:=s) hm V hn hh hj hx' hls Z) Z.sp);rintro v1 E ⟨e,c1,L1,rfl,hle,Z,⟨rfl,s1,vl4,cs4,hr1,hls4,rfl⟩|⟨hr1,rfl,rfl⟩⟩;all_goals (refine' KQ;(first|(exact ⟨_,rfl,by rw [Qin V,hr1],c1,vl4,cs4,hle,by rw [Qin V,hr1];exact hls4,by rw [Qin V,hr1];exact (F4 Z.sp hi)⟩)|(exact ⟨_,rfl,by rw [Qin V,hr1],_,vl,css,Fs Z,by rw [Qin V,hr1];exact hls,by rw [Qin V,hr1];exact (F4 Z.sp hi)⟩)))
theorem aB {x:Tail}(hsf:j.f.Short)(hF:Np j.f.blocks.length x=0)(hfb:∀b∈j.f.blocks,j.f.regs≤b.regs)(hfr:j.f.regs≤100000)(hh:s.h.length≤16)(hj:j.Fits Y m)(hx:La.at Y cs x)(hls:KA.ls Y css s.l)
 (Z:St Y w (blk p 3 [.int .i64 0]::blk pb 90 cs::blk pa 207 [.pointer (some ⟨j.sp,0,none⟩)]::j.res s.h vl css::L)):
 Kr Tryz.prog Q7K [.pointer (some ⟨pa,0,none⟩), .pointer (some ⟨pb,0,none⟩)] w
  (fun _ B=>∃c' L',Y.Le c'∧St c' B (blk p 3 [.int .i64 0]::L')∧Ml j.f s x= .ok ()∧c'=Y∧L'=blk pb 90 cs::blk pa 207 [.pointer (some ⟨j.sp,0,none⟩)]::j.res s.h vl css::L)
  (fun u B=>∃e c' L',u=SC e∧Y.Le c'∧St c' B (blk p 3 [.int .i64 0]::L')∧Ml j.f s x= .error e∧c'=Y∧L'=blk pb 90 cs::blk pa 207 [.pointer (some ⟨j.sp,0,none⟩)]::j.res s.h vl css::L):=by
 have hx':=hx;obtain ⟨u1,u2,u3,u4,u5,rfl,I,M,h3,h4,h5⟩:=PA hx;unfold Kr;refine Kl Kh Tryz.func209 ?_;refine' bL;refine zv Z ?_;refine KF (c:=gx hsf hF hfb hfr hh hj hx' hls Z fd) (p:=by rintro v9 w9 ⟨c,g1,rfl,Z⟩;(repeat (refine' Qo));refine' Qi;refine .inr ⟨_,rfl,?_⟩;exact ⟨c,Y,_,rfl,Fs Z,Z,g1,rfl,rfl⟩) (h:=?_);rintro v1 E ⟨hr1,rfl,Z⟩;refine' Pm;exact .inl ⟨_,rfl,Y,_,Fs Z,Z,hr1,rfl,rfl⟩
theorem gz {x:Tail}(hsf:j.f.Short)(hfb:∀b∈j.f.blocks,j.f.regs≤b.regs)(hfr:j.f.regs≤100000)(hh:s.h.length≤16)(hj:j.Fits Y m)(hx:La.at Y cs x)(hls:KA.ls Y css s.l)(Z:St Y w L)(hi:nth L i=some (j.res s.h vl css)):
 Ka Tryz.prog Q9A [.pointer (some ⟨j.sp,0,none⟩), .agg ⟨cs⟩] w fun u B=>u= .int .i64 (Mc j.f s x)∧St Y B L:=by
 have Z:=Z.out hi;have hx':=hx;obtain ⟨u1,u2,u3,u4,u5,rfl,I,M,h3,h4,h5⟩:=PA hx;unfold Mc;refine Kl Kh Tryz.func149 ?_;refine' KU;intro p2 E Z;refine zb Z ?_;intro p3 E Z;refine' P3;refine zD (ci 7 [5,6]) ?_;have Z:=Z.drew;refine zl Z ?_;refine' LF;refine yX Z rfl fd rfl rfl ?_;refine zv Z ?_;refine' Kk (c:=fp (x:=j.f) ⟨_,_,_,rfl,hj.p,hj.r,hj.b⟩ hx' Z);rintro v1 E ⟨rfl,Z⟩;refine' L6;(refine' Ad<;>intro O);all_goals (refine' zn)
 all_goals
  first
  | (refine' Kf;refine' Rj;(exact ⟨_,rfl,by rw [Qip V],(Ff Z.sp hi)⟩))
  | (refine' Kd;refine' Ko)
 refine' Kn;refine' jN;refine' Kw (c:=ze Jk (fun p w Z=>aB (s:=s) hsf V hfb hfr hh hj hx' hls Z) Z.sp);rintro v1 E ⟨e,c1,L1,rfl,hle,Z,⟨rfl,hr1,rfl,rfl⟩|⟨hr1,rfl,rfl⟩⟩;all_goals (refine' KQ;exact ⟨_,rfl,by rw [Qin V,hr1],(Ff Z.sp hi)⟩)
end
section
attribute [local irreducible] Kt L4 My Na NL K5 Module.fault
variable {Y:Cx}{w:World}{L:List Res}{j:JP}{h:List Bool}{vl:Value}{css:List (List Value)}{i:Nat}{m:Module}
theorem W9 {l:List Ty}{v:Value}(hl:KA.sl Y v l)(hb:l.length≤1000000)(Z:St Y w L):Ka Tryz.prog Q32 [v] w fun u B=>oneC u=true∧∃css,KA.ls Y css l∧St Y B (sl 115 3 u css::L):=by
 obtain ⟨a,c,hv⟩:=E0 hl
 cases a with
 | none=>
   have hl0:=Ii hl hv;subst hl0;subst hv;refine Kl Kh Tryz.func203 ?_;refine' MV;refine XF (e:=115) Jk rfl rfl ?_;refine' zn
   all_goals
    first
    | (refine' Kf;refine' KM;(exact ⟨_,rfl,rfl,[],Gd _ _ _,Z.nil⟩))
   all_goals (refine' Kn; fail "no law for buildSlice"; refine' zm; refine za RT Sm Z ?_; intro vp1 E css1 hls1 hv1 Z; have Z := Z.ns; refine' KQ; exact ⟨_, rfl, rfl, [], Gd _ _ _, Z.nil⟩)
 | some a=>
   have hn:KA.ls Y [] []:=Gd _ _ _;refine Kl Kh Tryz.func203 ?_;refine' MV;refine XF (e:=115) Jk hv rfl ?_;refine' RJ;refine' Kn;refine j4 RT ?_;intro v1 E hf1 hs1 hz1;have Z:=Z.new (r:=sl 115 3 v1 []) hs1 hf1 (fun b hb=>Hv hb.symm);refine' zm;((refine nD RT Sm Z ?_;intro vp1 E css1 hls1 hv1 Z;have Z:=Z.ns));refine' KQ;((exact ⟨_,rfl,by assumption,_,hls1,Z.sp⟩))
theorem JP.shut {v:Value}(Z:St Y w (blk j.sp 258 (j.cells vl)::blk j.hp 296 [v]::sl 4 1 v (h.map QH)::sl 115 3 vl css::L)):St Y w (j.res h vl css::L):=by
 have I:St Y w (aj j.hp h::sl 115 3 vl css::blk j.sp 258 (j.cells vl)::L):=gq (Z.perm (by
  refine List.Perm.trans (List.Perm.swap _ _ _) (List.Perm.cons _ ?_);refine List.Perm.trans (List.Perm.swap _ _ _) (List.Perm.cons _ ?_);exact List.Perm.swap _ _ _))
 exact G8 (St.mv1 (G8 I))
theorem gA {f b:Int}(hm:m.Short)(hx:Lr.at Y cs m)(Z:St Y w L):
 Ka Tryz.prog yK [.agg ⟨cs⟩, .int .i64 f, .int .i64 b] w fun u B=>
  (m.fault.1≠0∧u= .tuple #[.pointer none,Kz m.fault]∧St Y B L)∨
  (m.fault.1=0∧((f<0∨m.funcs.length≤f)∨∃fn,m.funcs[f.toNat]?=some fn∧(b<0∨fn.blocks.length≤b))∧u= .tuple #[.pointer none,Kz (1, -1)]∧St Y B L)∨
  (∃(fn:Fun) (y:Block) (j:JP) (c':Cx) (vl:Value) (css:List (List Value)),m.fault.1=0∧0≤f∧0≤b∧m.funcs[f.toNat]?=some fn∧fn.blocks[b.toNat]?=some y∧u= .tuple #[.pointer (some ⟨j.sp,0,none⟩),Kz (0,0)]∧Y.Le c'∧j.Fits c' m∧j.f=fn∧KA.ls c' css y.params∧St c' B (j.res (MI y).h vl css::L)):=by
 obtain ⟨vf,rfl,hf⟩:=NR hx;obtain ⟨a0,n0,rfl⟩:=E0 hf;have hlf:=hf.len;refine Kl Kh Tryz.func147 ?_;refine' KU;intro p3 E Z;refine' zm;refine Qb Z ?_;(intro p7 E Z);refine' LA;refine' MM;refine' Kw (c:=sa hm hx Z);rintro v1 E ⟨rfl,Z⟩;unfold Kz;refine Qb Z ?_;(intro p8 E Z);((refine Kp Z ?_;intro E Z;have Z:=Z.ns));refine' Nl;(refine' Ad<;>intro O);all_goals (refine' zn)
 all_goals
  first
  | (refine' Kf;refine Qm ?_;refine zD (ci 3 [2]) ?_;have Z:=Z.drew;refine zv Z ?_;refine' zm;((refine Kp Z ?_;intro E Z;have Z:=Z.ns));refine' LM;refine Px vw vw (Q3 (n:=2) Jk Jk (Z.blkAt fd) Jr Jr) ?_;(exact ⟨_,rfl, .inl ⟨V,rfl,Z.sp⟩⟩))
  | (refine' Kd;refine' Ko)
 refine SY Z [1,2,3,7] (fun A LL ρ' B=>Ki ρ' A∧Ki ρ' []∧(m.fault.1=0)∧(0≤f∧f<m.funcs.length∧∃fn,m.funcs[f.toNat]?=some fn∧0≤b∧b<fn.blocks.length)∧St Y B (LL)) ?_ ?_
 · skip
   (((refine' KX;(refine' Ae<;>intro O);all_goals (refine' Md;refine' MD;refine' ML;first|refine' Kj|(refine' Kg;refine' Ag<;>intro O)));all_goals (refine' Po;first|refine' Kj|(refine' Kg;refine' Ae<;>intro O)));all_goals (refine' Po;refine' MD;refine' Mu;(first|refine' Kj|(refine' Kg;refine' zj;intro b1 o1 cs1 x1 hat1 hx1 he1;obtain ⟨vp1,vr1,vb1,rfl,hp1,hr1,hb1⟩:=Qx he1));refine' N9;refine' nF;refine' ML;first|refine' Kj|(refine' Kg;refine' Ag<;>intro O)));all_goals (refine' Ld;skip)
   all_goals
    first
    | (refine' Kd;refine' Ko)
    | (refine' Kf;all_goals (refine' Kn;refine M8 [_,_] ?_;refine' zm;refine Kp Z ?_;intro E Z;have Z:=Z.ns;refine' LM;refine Px vw vw (Q3 (n:=2) Jk Jk (Z.blkAt fd) Jr Jr) ?_);all_goals (first|(exact ⟨_,rfl, .inr (.inl ⟨V, .inl (.inl V),rfl,Z.sp⟩)⟩)|(exact ⟨_,rfl, .inr (.inl ⟨V, .inl (.inr V),rfl,Z.sp⟩)⟩)|(exact ⟨_,rfl, .inr (.inl ⟨V, .inr ⟨_,EI (i:=f.toNat) V, .inl V⟩,rfl,Z.sp⟩)⟩)|(exact ⟨_,rfl, .inr (.inl ⟨V, .inr ⟨x1,hx1, .inr V⟩,rfl,Z.sp⟩)⟩)))
   ((exact ⟨zh,zh,V,by refine ⟨V,V,x1,hx1,V,V⟩,Z.sp⟩))
 rintro U E ⟨hA,hρ,hz,hb,Z⟩;obtain ⟨U,rfl⟩:=Km hA hρ;refine' MM;refine' Kw (c:=js hm hx Z);rintro v1 E ⟨c1,ds,rfl,hle,hm2,Z⟩;obtain ⟨vm,rfl,hf2⟩:=NR hm2;obtain ⟨hb1,hb2,fn,hfn,hb3,hb4⟩:=hb;refine OF [_,_,_,_,_,_,_] ?_;refine zb Z ?_;intro p45 E Z;refine' Kv;skip;refine' KW;refine' O4;refine' zm;refine' zj;intro b2 o2 cs2 x2 hat2 hx2 he2;obtain ⟨vp2,vr2,vb2,rfl,hp2,hr2,hb2⟩:=Qx he2;refine N8 Z ?_;refine' LF;refine iY Z ?_;intro E Z;have Z:=Z.ns;refine' zn;obtain rfl:fn=x2:=EP (hfn.symm.trans hx2);have hsf:=hm.2 fn (EK hfn);refine' KX;refine' O4;refine' zm;refine' zj;intro b3 o3 cs3 x3 hat3 hx3 he3;obtain ⟨vp3,vc3,ve31,ve32,ve33,ve34,ve35,rfl,hp3,hc3,he31,he32,he33,he34,he35⟩:=PV he3;refine' NG;intro p10 E Z;refine Kp Z ?_;intro E Z;have Z:=Z.ns;refine' L8;refine' KJ;refine' Kw (c:=mj Z);rintro v1 E ⟨hp,vh,rfl,Z⟩;refine' bM;intro E Z;have Z:=Z.ns;refine' L8;refine' KJ;refine' Kw (c:=W9 hp3 (by have:=(hsf.2.2.2 x3 (EK hx3)).1.1;omega) Z);rintro v1 E ⟨hvl,css4,hls4,Z⟩;refine' bM;intro E Z;have Z:=Z.ns;refine' L8;refine Ly [_,_] ?_;refine' zm;refine Kp Z ?_;intro E Z;have Z:=Z.ns;refine' LM;refine Px vw vw (Q3 (n:=2) Jk Jk (Z.blkAt fd) Jr Jr) ?_;(exact ⟨_,rfl, .inr (.inr ⟨fn,x3,⟨p45,hp,fn,vm,vp2,vr2,vb2⟩,c1,_,css4,hz,V,V,hfn,hx3,rfl,hle,⟨hf2,hp2,hr2,hb2⟩,rfl,hls4,JP.shut (v:=vh) Z.sp⟩)⟩)
end
section
end
section
variable {Y:Cx}{w:World}{L:List Res}{i:Nat}
abbrev zg (vc:Value):List Value:=[.int .i64 0, .slice none 0 0,vc, .int .i64 3, .int .i64 0, .int .i64 0, .slice none 0 0, .slice none 0 0, .int .i64 0, .slice none 0 0, .slice none 0 0, .slice none 0 0]
theorem te:ag Tryz.prog 29:=ah Jk
theorem aC (Z:St Y w L):Ka Tryz.prog Qkr [] w fun u B=>∃a b,u= .agg ⟨[.slice (some ⟨a,0,none⟩) 1 1]⟩∧St Y B (blk a 95 [.int .i64 0, .slice none 0 0, .slice none 0 0, .slice (some ⟨b,0,none⟩) 1 1]::blk b 92 (zg (.slice none 0 0))::L):=by
 refine Kl Kh Tryz.func51 ?_;refine' Ov;(intro p0 E Z);refine' zn;refine' Kn;refine OF [_,_,_,_,_,_,_,_,_] ?_;refine OF [_,_,_,_,_,_,_,_,_,_,_,_] ?_;refine Rw (cs:=[_,_,_,_,_,_,_,_,_,_,_,_]) vw Jr ?_;intro q1 E hb1 hf1 _ hk1;have Z:=Z.laid hb1 hf1 hk1;refine OF [_,_,_,_] ?_;refine Rw (cs:=[_,_,_,_]) vw Jr ?_;intro q2 E hb1 hf1 _ hk1;have Z:=Z.laid hb1 hf1 hk1;refine OF [_] ?_;((refine Kp Z ?_;intro E Z;have Z:=Z.ns));refine' LM;refine QO vw (Q3 (n:=1) Jk Jk (Z.blkAt fd) Jr Jr) ?_;((exact ⟨_,rfl,q2,q1,rfl,Z.sp⟩))
end
section
attribute [local irreducible] Kt L4 My Na NL K5 Module.fault KK Mc
variable {Y:Cx}{w:World}{L:List Res}{j:JP}{h:List Bool}{vl:Value}{css:List (List Value)}{i:Nat}{m:Module}
end
section
attribute [local irreducible] Kt L4 My Na NL K5 Lj NQ KY KK Mc Module.fault PX PW
variable {Y:Cx}{w:World}{L:List Res}{j:JP}{h:List Bool}{vl:Value}{css:List (List Value)}{i:Nat}{m:Module}
theorem Xa {f b:Nat}{fn:Fun}(hm:m.Short)(hF:m.fault.1=0)(hfn:m.funcs[f]?=some fn)(hy:fn.blocks[b]?=some y)(hx:Lr.at Y cs m)(Z:St Y w L):
 Ka Tryz.prog yK [.agg ⟨cs⟩, .int .i64 f, .int .i64 b] w fun u B=>∃(j:JP) (c':Cx) (vl:Value) (css:List (List Value)),u= .tuple #[.pointer (some ⟨j.sp,0,none⟩),Kz (0,0)]∧Y.Le c'∧j.Fits c' m∧j.f=fn∧KA.ls c' css y.params∧St c' B (j.res (MI y).h vl css::L):=by
 refine (gA hm hx Z).mono ?_;have I:=(EJ.1 hfn).1;have M:=(EJ.1 hy).1;rintro u B (⟨h0, -⟩|⟨-,h9, -⟩|⟨fn',y',j,c2,vl,css, -, -, -,hf',hy',rfl,hle,hj,jf,hls,Z⟩)
 · exact absurd hF h0
 · exfalso
   rcases h9 with (h|h)|⟨fn',hf',h⟩
   · omega
   · omega
   · rw [Fa] at hf';obtain rfl:fn=fn':=EP (hfn.symm.trans hf');omega
 · rw [Fa] at hf' hy';obtain rfl:fn=fn':=EP (hfn.symm.trans hf');obtain rfl:y=y':=EP (hy.symm.trans hy');exact ⟨j,c2,vl,css,rfl,hle,hj,jf,hls,Z⟩
theorem Xb {b:Nat}{fn:Fun}(hm:m.Short)(hF:m.fault.1=0)(hfn:m.funcs[q]?=some fn)(hy:fn.blocks[b]?=some y)(hx:Lr.at Y cs m)(Z:St Y w L):
 Ka Tryz.prog QcB [.agg ⟨cs⟩, .int .i64 q, .int .i64 b] w fun u B=>u=Kz (QU m fn q b y.fin 0 (MI y) y.code)∧St Y B L:=by
 have hx':=hx;obtain ⟨vf,rfl,hf1⟩:=NR hx;have hle:=Fs Z;have hsf:=hm.2 fn (EK hfn);have hfb:=Wk hF hfn;have hfh:=UE (SU hF hfn);have hg0:=vH hm hF hfn hy;have hlc:=(hsf.2.2.2 y (EK hy)).2.1;have hq1:=(EJ.1 hfn).1;have hq2:=hm.1;have hb1:=(EJ.1 hy).1;refine Kl Kh Tryz.func91 ?_;refine' KU;intro p3 E Z;refine Qb Z ?_;(intro p6 E Z);refine' RP;refine' Me;refine' KZ (c:=Xa hm hF hfn hy hx' Z);rintro v1 E ⟨j,c2,vl,css,rfl,hle2,hj,hjf,hls,Z⟩;(try have hle:=hle.trans hle2);(try have hf1:=hf1.up hle2);unfold Kz;subst hjf;refine' Rk;(intro p8 E Z);refine' zm;((refine Kp Z ?_;intro E Z;have Z:=Z.ns));refine' Nl;refine' RI;intro b1 o1 cs1 x1 hat1 hx1 he1;((obtain ⟨vp1,vr1,vb1,rfl,hp1,hr1,hb1⟩:=Qx he1));obtain rfl:j.f=x1:=EP (hfn.symm.trans hx1);refine' bN;refine' RI;intro b2 o2 cs2 x2 hat2 hx2 he2;((obtain ⟨vp2,vc2,ve21,ve22,ve23,ve24,ve25,rfl,hp2,hc2,he21,he22,he23,he24,he25⟩:=PV he2));refine' NG;(intro p9 E Z);((refine Kp Z ?_;intro E Z;have Z:=Z.ns));refine' zn;obtain rfl:y=x2:=EP (hy.symm.trans hx2);refine' Nq;refine' Ob;refine zo [1,2,6,7,9,31,32] (fun A ρ' B=>∃(k0:Cx) (i:Nat) (s:JS) (vl:Value) (css:List (List Value)),Ki ρ' A∧Ki ρ' [(33, .int .i64 i)]∧(c2.Le k0)∧(i≤y.code.length)∧(QU m j.f q b y.fin 0 (MI y) y.code=QU m j.f q b y.fin i s (y.code.drop i))∧(j.Fits k0 m)∧(KA.ls k0 css s.l)∧(JGood s)∧St k0 B (blk p9 92 [.int .i64 y.regs,vp2,vc2, .int .i64 y.fin.op, .int .i64 y.fin.a, .int .i64 y.fin.yes.block,ve21,ve22, .int .i64 y.fin.no.block,ve23,ve24,ve25]::j.res s.h vl css::blk p6 29 [.int .i64 0, .int .i64 0]::L)) (fun ρ' _=>(y.code.length - iv (ρ' 33)).toNat) ?_ ?_
 · exact B9
 rintro U E ⟨k0,i,s,vl,css,hA,hρ,hle2,hi,hdi,hj,hls,hg,Z⟩;obtain ⟨U,rfl⟩:=Km hA hρ;have hL0:=hle2;(try have hle:=hle.trans hle2);(try have hc2:=hc2.up hle2);(try have he21:=he21.up hle2);(try have he22:=he22.up hle2);(try have he23:=he23.up hle2);(try have he24:=he24.up hle2);(try have he25:=he25.up hle2);refine' Nd;refine' Ab<;>intro O
 · skip
   refine' Mi;refine' KX;refine' zi;intro b3 o3 cs3 x3 hat3 hx3 he3;obtain ⟨vr3,va3,rfl,hr3,ha3⟩:=QN he3;refine' NG;intro p11 E Z;refine' zm;refine Kp Z ?_;intro E Z;have Z:=Z.ns;refine' L8;refine zv Z ?_;refine' Kk (c:=gy (s:=s) (x:=x3) hm hg.n hg.h hj he3 hls Z fd);rintro v1 E ⟨rfl,c4,vl4,css4,hle2,hls4,Z⟩;have Z:=Z.ns;(try have hle:=hle.trans hle2);(try have hL0:=hL0.trans hle2);have hj:=hj.up hle2;have hg1:=Qjx (f:=j.f) (x:=x3) hm hg;obtain ⟨s1,hs1⟩:∃s1,(KK m j.f s x3).2=s1:=⟨_,rfl⟩;rw [hs1] at hls4 Z hg1;refine' L6;(refine' Ad<;>intro O);all_goals (refine' zn)
   all_goals
    first
    | (refine' Kf;refine' KW;refine' Me;refine' KZ (c:=r6 q b i V V V Z);rintro v1 E ⟨rfl,Z⟩;refine M8 [_,_] ?_;refine Kp Z ?_;intro E Z;have Z:=Z.ns;refine' zn;have hJ:QU m j.f q b y.fin 0 (MI y) y.code=((KK m j.f s x3).1,PX q b i):=(by rw [hdi,Q7 hx3,sC V]);refine' zr;refine QO vw (Q3 (n:=2) Jk Jk (Z.blkAt fd) Jr Jr) ?_;(exact Az))
    | (refine' Kd;refine' Ko)
   refine' O1;(exact ⟨⟨_,i+1,s1,vl4,css4,zh,zh,hL0,V,by rw [hdi,Q7 hx3,sB V,hs1],hj,hls4,hg1,Z.sp⟩,Qh V⟩)
 · skip
   refine' LV;refine' Lb;refine' Sd;refine' Kk (c:=gz (s:=s) (x:=y.fin) hsf hfb V hg.h hj ⟨_,_,_,_,_,rfl,he21,he22,he23,he24,he25⟩ hls Z fd);rintro v1 E ⟨rfl,Z⟩;have hde:=sD (m:=m) (f:=j.f) (fi:=q) (bi:=b) (e:=y.fin) (s:=s) (i:=i) (l:=y.code) V;refine' L6;(refine' Ad<;>intro O);all_goals (refine' zn)
   all_goals
    first
    | (refine' Kf;refine' KW;refine' zm;refine' Kk (c:=rZ q b V V Z);rintro v1 E ⟨rfl,Z⟩;refine M8 [_,_] ?_;refine Kp Z ?_;intro E Z;have Z:=Z.ns;refine' zn;have hJ:=hdi.trans (hde.trans (YM V));refine' zr;refine QO vw (Q3 (n:=2) Jk Jk (Z.blkAt fd) Jr Jr) ?_;(exact Az))
    | (refine' Kd;refine' Ko)
   refine' Kn;refine Ly [_,_] ?_;refine Kp Z ?_;intro E Z;have Z:=Z.ns;refine' zn;have hJ:=hdi.trans (hde.trans (SP _ _ (by rw [R5];omega)));refine' zr;refine QO vw (Q3 (n:=2) Jk Jk (Z.blkAt fd) Jr Jr) ?_;(exact Az)
theorem Xc (hm:m.Short)(hx:Lr.at Y cs m)(Z:St Y w L):
 Ka Tryz.prog QcC [.agg ⟨cs⟩] w fun u B=>u=Kz m.runs∧St Y B L:=by
 have hx':=hx;obtain ⟨vf,rfl,hf1⟩:=NR hx;have hlf:=hf1.len;refine Kl Kh Tryz.func44 ?_;refine' KU;intro p1 E Z;refine Qb Z ?_;(intro p2 E Z);refine' LA;refine' MM;refine' Kw (c:=sa hm hx' Z);rintro v1 E ⟨rfl,Z⟩;unfold Kz;refine Qb Z ?_;(intro p3 E Z);((refine Kp Z ?_;intro E Z;have Z:=Z.ns));refine' Nl;(refine' Ad<;>intro O);all_goals (refine' zn)
 all_goals
  first
  | (refine' Kf;refine' MM;refine Kp Z ?_;intro E Z;have Z:=Z.ns;refine' zn;have hJ:=xW (m:=m) V;refine' zr;refine QO vw (Q3 (n:=2) Jk Jk (Z.blkAt fd) Jr Jr) ?_;(exact Bp))
  | (refine' Kd;refine' Ko)
 refine' MN;have hF:m.fault.1=0:=CP;have hr0:=xX hF;have hlf8:=hm.1;refine' Lm;refine' Sc;refine' OG;refine Mt Z [1,2,15,16] (fun A LL ρ' B=>∃(q:Nat),Ki ρ' A∧Ki ρ' [(17, .int .i64 q)]∧(q≤m.funcs.length)∧(m.runs=OR m q (m.funcs.drop q))∧St Y B (LL)) (fun ρ' _=>(m.funcs.length - iv (ρ' 17)).toNat) ?_ ?_
 · exact ⟨0,zh,zh,V,by rw [hr0];rfl,Z.sp⟩
 rintro U E ⟨q,hA,hρ,hq,hd,Z⟩;obtain ⟨U,rfl⟩:=Km hA hρ;refine' Nd;refine' Ab<;>intro O
 · skip
   refine' Mi;refine' KX;refine' zi;intro b1 o1 cs1 x1 hat1 hx1 he1;obtain ⟨vp1,vr1,vb1,rfl,hp1,hr1,hb1⟩:=Qx he1;refine' NG;intro p5 E Z;refine' zm;refine Kp Z ?_;intro E Z;have Z:=Z.ns;refine' zn;have hsf:=hm.2 x1 (EK hx1);have hbl:=hsf.2.2.1;refine' L5;refine' Ob;refine Mt Z [1,2,4,15,16,17,24] (fun A LL ρ' B=>∃(b:Nat),Ki ρ' A∧Ki ρ' [(25, .int .i64 b)]∧(b≤x1.blocks.length)∧(QB m x1 q 0 x1.blocks=QB m x1 q b (x1.blocks.drop b))∧St Y B (LL)) (fun ρ' _=>(x1.blocks.length - iv (ρ' 25)).toNat) ?_ ?_
   · exact AT
   rintro U E ⟨b,hA,hρ,hb,hdb,Z⟩;obtain ⟨U,rfl⟩:=Km hA hρ;refine' Nd;refine' Ab<;>intro O
   · skip
     refine' TH;obtain ⟨y,hy⟩:∃y,x1.blocks[b]?=some y:=⟨_,EI V⟩;refine' Lp;refine' Kv;refine' MM;refine' Me;refine' KZ (c:=Xb hm hF hx1 hy hx' Z);rintro v1 E ⟨rfl,Z⟩;unfold Kz;refine Qb Z ?_;intro p7 E Z;refine Kp Z ?_;intro E Z;have Z:=Z.ns;refine' Nl;(refine' Ad<;>intro O);all_goals (refine' zn)
     all_goals
      first
      | (refine' Kf;refine' MM;refine Kp Z ?_;intro E Z;have Z:=Z.ns;refine' zn;have hJ:=sE hd hx1 hdb hy rfl V;refine' zr;refine QO vw (Q3 (n:=2) Jk Jk (Z.blkAt fd) Jr Jr) ?_;(exact Bp))
      | (refine' Kd;refine' Ko)
     refine' O1;(exact ⟨⟨b+1,zh,zh,V,Wl hdb hy V,Z.sp⟩,Qh V⟩)
   · refine' LV;refine' O1;(exact ⟨⟨q+1,zh,zh,V,Wm hd hx1 hdb V,Z.sp⟩,Qh V⟩)
 · refine' LV;refine' Kn;refine Ly [_,_] ?_;refine Kp Z ?_;intro E Z;have Z:=Z.ns;refine' zn;have hJ:=Wn hd V;refine' zr;refine QO vw (Q3 (n:=2) Jk Jk (Z.blkAt fd) Jr Jr) ?_;(exact Bp)
end
end Go.Proofs.YteflkifmgnpbhaaGreat
