
/- Lemmas of the proof, part 6: what the functions of the program do (contracts), and what follows. -/
import Derived.Test.YteflkifmgnpbhaaGreatZ5
import Derived.Test.YteflkifmgnpbhaaGreatZ2
import Derived.Test.YteflkifmgnpbhaaGreatProg
import Derived.Test.YteflkifmgnpbhaaGreatZ1
import Derived.Test.YteflkifmgnpbhaaGreatZ3
import Derived.Test.YteflkifmgnpbhaaGreatZ4
open Go Go.Lir Go.Proofs.YteflkifmgnpbhaaGreat
variable {α:Type}{g:Frm}{st:List Frm}{kp l inp out ws tk ns:List Int}{gf f F:Fun}{r:RgnV}{kd fuel e pages:Int}{h' h:HpS}{ts:List Ty}{vs:List Val}{q fi bi j most m:Nat}{fn:α→Stp}{bb b:Block}{t:To}{o:Option α}{p:Prop}{s ms:MS}{ks:List Bool}{th:ThgV}{u:Value}{X:Stp}{w:World}{L:List Res}{cs:List Value}
set_option linter.unusedVariables false
set_option linter.unusedSimpArgs false
set_option maxHeartbeats 1000000
namespace Go.Lir
section
variable {p:Prop}
theorem Di (h:p:=by (repeat constructor);first|done|fail):p:=h
theorem DM (h:p:=by simpa using hz):p:=h
theorem DP (h:p:=by rw [←hhas];exact hh):p:=h
theorem DW (h:p:=by cases hj;rw [FA]):p:=h
theorem DX (h:p:=by unfold Thg.off Thg.size LB;split<;>(try split)<;>omega):p:=h
theorem D0 (h:p:=by unfold HpS.open;rw [hf];rfl):p:=h
theorem Ee (h:p:=by rw [h0] at q5;split at q5<;>omega):p:=h
theorem Eh (h:p:=by rw [show s.next.h.get v n=s.h.get v n from rfl,hc];decide):p:=h
theorem Em (h:p:=by rw [decide_eq_true hq] at e4;exact e4):p:=h
theorem Eo (h:p:=by rw [show s.next.h.setC v n (Ku c)=s.h.setC v n (Ku c) from rfl,hq];decide):p:=h
theorem Ep (h:p:=by rw [decide_eq_true hq] at e3;exact e3):p:=h
theorem Es (h:p:=by intro h9;rw [h9] at hpp;simp at hpp):p:=h
theorem Eu (h:p:=by unfold Qj Nw at hF;simp [e] at hF;omega):p:=h
theorem Ex (h:p:=by rw [show s.next.h.len v=s.h.len v from rfl,hq];decide):p:=h
theorem Ey (h:p:=by unfold EstS.get;rw [if_pos hc,E5]):p:=h
theorem EE (h:p:=by rw [Ty.rn_l,EN,nF h2];rfl):p:=h
end
end Go.Lir
namespace Go.Lir
section
variable {p:Prop}
theorem Be (h:p:=by exact ⟨_,rfl,true,rfl,fun h=>Bool.noConfusion h,hS.sp⟩):p:=h
theorem Bn (h:p:=by exact ⟨_,_,_,_,_,h.more h.ty (Ic _) same (lN hj) (Iw (QeQ Ψ _ _)) hrun hinv⟩):p:=h
theorem Bs (h:p:=by exact absurd O RStp.noConfusion):p:=h
theorem Ct (h:p:=by exact ⟨_,_,_,_,_,h.more p1 p2 p3 (lN hj) (Iw p4) hrun hinv⟩):p:=h
theorem Cy (h:p:=by exact ⟨v::vs,by rw [Frm.args,h3,h5],Md.cons h4 h6⟩):p:=h
theorem CP (h:p:=by exact H.apart r t x r' t' x' (hth r t x hx).2 (hth r' t' x' hx').2):p:=h
end
end Go.Lir
namespace Go.Lir
section
def Frm.ρ (g:Frm)(r:Int):Int:=g.regs.getD r.toNat 0
def aF (f:Fun)(z:JS)(g:Frm)(k:Int):Prop:=∃r,Ke z.h r=true∧f.regs≤r∧g.ρ r=k
def ve (f:Fun)(z:JS)(g:Frm):Prop:=∀r q,Ke z.h r=true→Ke z.h q=true→f.regs≤r→f.regs≤q→g.ρ r=g.ρ q→r=q
def OZ (f:Fun)(g:Frm):List Int:=g.regs.take f.regs.toNat
structure FT (Ψ:La) (z:JS) (g:Frm):Prop where
 n:g.regs.length=z.h.length
 v:Md Ψ g.vals (z.l.map fun t=>t.rn g.regs)
theorem FT.ext {Ψ Ψ':La}{z:JS}(h:FT Ψ z g)(he:VH Ψ Ψ'):FT Ψ' z g:=⟨h.n,h.v.ext he⟩
inductive Wt (m:Module) (Ψ:La):List Frm→Fun→List Int→(Int→Prop)→Prop where
 | nil {f:Fun}(hf:m.funcs[0]?=some f):Wt m Ψ [] f [] (fun _=>False)
 | cons {c:Frm}{st:List Frm}{fc gf:Fun}{bc:Block}{z z':JS}{x:Ins}{O:Int→Prop}(hf:m.funcs[c.f]?=some fc) (hb:fc.blocks[c.b]?=some bc) (hi:JInv m fc z) (ht:FT Ψ z c) (hx:x.op=14)
    (hF:Qj m.funcs.length x=0) (hc:O6 m z x= .ok z') (hg:m.funcs[x.k.toNat]?=some gf) (hr:(QI m fc c.f c.b bc.fin c.i z' (bc.code.drop c.i)).1=0)
    (hw:Wt m Ψ st fc (OZ fc c) O) (hj:ve fc z c) (hd:∀k,aF fc z c k→¬O k):Wt m Ψ (c::st) gf (x.regs.map c.ρ) (fun k=>aF fc z c k∨O k)
structure Safe (m:Module) (Ψ:La) (s:MS) (f:Fun) (b:Block) (z:JS) (O:Int→Prop):Prop where
 ty:HTy Ψ s.h
 hf:m.funcs[s.g.f]?=some f
 hb:f.blocks[s.g.b]?=some b
 run:(QI m f s.g.f s.g.b b.fin s.g.i z (b.code.drop s.g.i)).1=0
 inv:JInv m f z
 ft:FT Ψ z s.g
 wt:Wt m Ψ s.st f (OZ f s.g) O
 inj:ve f z s.g
 dis:∀k,aF f z s.g k→¬O k
 has:∀k,s.h.has k=true↔(aF f z s.g k∨O k)
def Xb (m:Module)(s:MS):Prop:=∃Ψ f b z O,Safe m Ψ s f b z O
section
variable {m:Module}{Ψ Ψ':La}{s:MS}{f:Fun}{b:Block}{z z':JS}{O:Int→Prop}{g:Frm}{k:Int}{t u:Ty}{v:Val}
theorem Wt.ext (h:Wt m Ψ st f kp O)(he:VH Ψ Ψ'):Wt m Ψ' st f kp O:=by
 induction h with
 | nil hf=>exact .nil hf
 | cons hf hb hi ht hx hF hc hg hr hw hj hd ih=>exact .cons hf hb hi (ht.ext he) hx hF hc hg hr ih hj hd
theorem vg (h0:0≤k)(hk:k<f.regs)(hl:f.regs≤g.regs.length):g.ρ k∈OZ f g:=by
 unfold Frm.ρ OZ;have h1:k.toNat<g.regs.length:=Dc;rw [EL,EH h1];refine EI (i:=k.toNat) ?_;rw [FH Jo,EH h1];rfl
theorem pV {x:Ins}(hc:O6 m z x= .ok z')(hg:m.funcs[x.k.toNat]?=some gf):(x.regs.length:Int)=gf.regs∧MF z.h [] x.regs= .ok ()∧Ob z x.args gf.params x.regs= .ok ()∧z'=⟨z.h,z.l++gf.results.map (Mp x.regs)⟩:=by
 unfold O6 at hc;rw [hg] at hc;dsimp only at hc;split at hc
 · cases hc
 · rename_i hl
   obtain ⟨_,h1,hc⟩:=Q7 hc;obtain ⟨_,h2,hc⟩:=Q7 hc;split at hc
   · cases hc
   · cases hc;exact ⟨Jo,h1,h2,rfl⟩
theorem jh (hi:JInv m f z):f.regs≤z.h.length:=by
 by_cases h:f.regs≤0
 · omega
 · have:=Su (hi.keep (f.regs - 1) Jo Jo);omega
theorem Wt.kept (h:Wt m Ψ st f kp O):∀k∈kp,O k:=by
 induction h with
 | nil hf=>intro k hk;cases hk
 | @cons c st fc gf bc z z' x O hf hb hi ht hx hF hc hg hr hw hj hd ih=>
   intro k hk;obtain ⟨r,hrx,rfl⟩:=Fc.1 hk;obtain ⟨_,h1,_⟩:=pV hc hg;have hh:=ia h1 r hrx;have hrg:=Su hh;by_cases hlt:r<fc.regs
   · exact .inr (ih _ (vg hrg.1 hlt (by rw [ht.n];exact jh hi)))
   · exact .inl ⟨r,hh,Jo,rfl⟩
theorem Safe.held (h:Safe m Ψ s f b z O){r:Int}(hr:Ke z.h r=true):s.h.has (s.g.ρ r)=true:=by
 have hrg:=Su hr;rw [h.has];by_cases hlt:r<f.regs
 · exact .inr (h.wt.kept _ (vg hrg.1 hlt (by rw [h.ft.n];exact jh h.inv)))
 · exact .inl ⟨r,hr,Jo,rfl⟩
theorem ji (ht:FT Ψ z g)(h:K7 z k= .ok t):∃v,g.val k=some v∧VT Ψ v (t.rn g.regs):=by
 obtain ⟨h0,h1⟩:=kF h;obtain ⟨v,h2,h3⟩:=ht.v.get (i:=k.toNat) (t:=t.rn g.regs) (by rw [EN,h1];rfl);exact ⟨v,by unfold Frm.val;rw [if_neg Jo];exact h2,h3⟩
theorem Y7 (ht:FT Ψ z g)(h:Kf z k kd= .ok t):∃v,g.val k=some v∧VT Ψ v (t.rn g.regs)∧t.kind=kd:=by
 obtain ⟨v,h1,h2⟩:=ji ht (yP h);exact ⟨v,h1,h2,(nu h).2.2⟩
theorem aG (ht:FT Ψ z g)(h:Kf z k 1= .ok t):∃n,g.num k=some n:=by
 obtain ⟨v,h1,h2,h3⟩:=Y7 ht h;have h4:=h2.kind;rw [HF,h3] at h4;exact ⟨v.n,by unfold Frm.num;rw [h1];exact if_pos h4⟩
theorem Safe.at_ (h:Safe m Ψ s f b z O)(hj:K4 z k kd= .ok t)(hk:kd≠1):∃v,s.g.val k=some v∧VT Ψ v (t.rn s.g.regs)∧(t.rn s.g.regs).kind=kd∧v.kind=kd∧s.h.has (t.rn s.g.regs).r=true∧(t.rn s.g.regs).r=s.g.ρ t.r:=by
 obtain ⟨v,h1,h2⟩:=ji h.ft (sC hj);obtain ⟨_,_,h3,h4⟩:=WU hj;have h5:(t.rn s.g.regs).kind=kd:=(by rw [HF,h3]);have h6:(t.rn s.g.regs).r=s.g.ρ t.r:=Ty.rn_r _ Jo;exact ⟨v,h1,h2,h5,by rw [h2.kind,h5],by rw [h6];exact h.held h4,h6⟩
theorem vi (ht:FT Ψ z g):∀{l:List Int}{ts:List Ty},Kb z l= .ok ts→∃vs,g.args l=some vs∧Md Ψ vs (ts.map fun t=>t.rn g.regs)
 | [],ts,h=>by rw [Kb] at h;cases h;exact ⟨[],rfl,Iv Ψ⟩
 | k::l,ts,h=>by
   rw [Kb] at h;obtain ⟨t,h1,h⟩:=Q7 h;obtain ⟨us,h2,h⟩:=Q7 h;cases h;obtain ⟨v,h3,h4⟩:=ji ht h1;obtain ⟨vs,h5,h6⟩:=vi ht h2;exact Cy
theorem vj (ht:FT Ψ z g){regs:List Int}:∀{l:List Int}{want:List Ty},l.length=want.length→Nx z regs l want= .ok ()→∃vs,g.args l=some vs∧Md Ψ vs (want.map fun t=>(t.rn regs).rn g.regs)
 | [],[],_,_=>⟨[],rfl,Iv Ψ⟩
 | [],_::_,hl,_=>by simp at hl
 | _::_,[],hl,_=>by simp at hl
 | k ::l,u::want,hl,h=>by
   rw [Nx] at h;obtain ⟨t,h1,h⟩:=Q7 h
   cases hu:u.ren regs with
   | none=>rw [hu] at h;cases h
   | some u'=>
     rw [hu] at h;dsimp only at h;split at h
     · cases h
     · rename_i he;have he:t=u':=Fy.1 he;obtain ⟨v,h3,h4⟩:=ji ht h1;obtain ⟨vs,h5,h6⟩:=vj ht (by simpa using hl) h;rw [he,Ty.rn_of u u' hu] at h4;exact Cy
theorem pW (ht:FT Ψ z g){regs:List Int}{want:List Ty}(h:Ob z l want regs= .ok ()):∃vs,g.args l=some vs∧Md Ψ vs (want.map fun t=>(t.rn regs).rn g.regs):=by
 unfold Ob at h;split at h
 · cases h
 · rename_i hl;exact vj ht Jo h
theorem VM (hn:g.regs.length=z.h.length)(h:∀r∈l,Ke z.h r=true):g.rgs l=some (l.map g.ρ):=by
 induction l with
 | nil=>rfl
 | cons r l ih=>
   have h1:=Su (h r (Fh ..))
   have h2:g.reg r=some (g.ρ r):=by
    unfold Frm.reg Frm.ρ;rw [if_neg Jo,EL,EH Jo];rfl
   rw [Frm.rgs,h2,ih fun q hq=>h q (E9 _ hq)];rfl
theorem vx {g g':Frm}(h:g.vals=g'.vals):∀l:List Int,g.args l=g'.args l
 | []=>rfl
 | k::l=>by
   have h1:g.val k=g'.val k:=(by unfold Frm.val;rw [h]);rw [Frm.args,Frm.args,h1,vx h l]
theorem vy {g g':Frm}(h:g.regs=g'.regs):∀l:List Int,g.rgs l=g'.rgs l
 | []=>rfl
 | k::l=>by
   have h1:g.reg k=g'.reg k:=(by unfold Frm.reg;rw [h]);rw [Frm.rgs,Frm.rgs,h1,vy h l]
theorem vz (s:MS)(l:List Int):s.next.g.args l=s.g.args l:=vx (g:=s.next.g) (g':=s.g) rfl l
theorem VN (s:MS)(l:List Int):s.next.g.rgs l=s.g.rgs l:=vy (g:=s.next.g) (g':=s.g) rfl l
theorem Safe.ins (h:Safe m Ψ s f b z O){x:Ins}(hx:b.code[s.g.i]?=some x):Qj m.funcs.length x=0∧Kl m f z x= .ok (Ko m f z x).2∧(QI m f s.g.f s.g.b b.fin (s.g.i+1) (Ko m f z x).2 (b.code.drop (s.g.i+1))).1=0:=by
 have h1:=h.run;rw [Q1 hx] at h1;by_cases hc:(Ko m f z x).1=0
 · rw [jc hc] at h1;obtain ⟨h2,h3⟩:=nC hc;exact ⟨h2,h3,h1⟩
 · rw [lF hc] at h1;exact absurd h1 hc
theorem Safe.more (h:Safe m Ψ s f b z O){fuel:Nat}(hH:HTy Ψ' h')(hE:VH Ψ Ψ')(hhas:∀q,h'.has q=s.h.has q)(hz:z'=⟨z.h,z.l++ts⟩)
 (hv:Md Ψ' vs (ts.map fun t=>t.rn s.g.regs))(hr:(QI m f s.g.f s.g.b b.fin (s.g.i+1) z' (b.code.drop (s.g.i+1))).1=0)(hi:JInv m f z'):
 Safe m Ψ' ⟨h',⟨s.g.f,s.g.b,s.g.i+1,s.g.vals++vs,s.g.regs⟩,s.st,inp,out,fuel⟩ f b z' O:=by
 subst hz;refine ⟨hH,h.hf,h.hb,hr,hi,⟨h.ft.n,?_⟩,h.wt.ext hE,h.inj,h.dis,fun k=>?_⟩
 · show Md Ψ' (s.g.vals++vs) ((z.l++ts).map fun t=>t.rn s.g.regs);rw [Fa];exact (h.ft.v.ext hE).app hv
 · show h'.has k=true↔_;rw [hhas];exact h.has k
def fY (m:Module):Stp→Prop
 | .go s=>Xb m s
 | .halt _=>True
 | .done _=>True
 | .lost=>False
theorem lN (h:Li z t= .ok z'):z'=⟨z.h,z.l++[t]⟩:=by
 obtain ⟨_,h1,h2⟩:=kG h;obtain ⟨a,l⟩:=z';dsimp only at h1 h2;rw [h1,h2]
theorem QeQ (Ψ:La)(n:Int)(f:List Int):VT Ψ (Ku n) (J8.rn f):=by
 unfold J8;rw [He];exact ⟨rfl,fun h=>absurd rfl h,fun h=>by cases h<;>rename_i h<;>cases h⟩
theorem Y8 {h:HpS}{y:Val}(hk:y.kind=1)(f:List Int):VT Ψ y (J8.rn f):=by
 unfold J8;rw [He];exact ⟨hk,fun h=>absurd rfl h,fun h=>by cases h<;>rename_i h<;>cases h⟩
theorem Y9 (hM:m.fault.1=0)(hm:m.Short)(h:Safe m Ψ s f b z O){x:Ins}(hx:b.code[s.g.i]?=some x)(hop:x.op≠3)(hop4:x.op≠4)(hop14:x.op≠14):fY m ((s.next).ins m x):=by
 obtain ⟨hF,hj,hrun⟩:=h.ins hx;have hinv:=ja hM hm h.inv hF hj;have hopr:=T0 hF;have hft:=h.ft;have e0:s.next.g.num=s.g.num:=rfl;have same:∀(q:Int),s.h.has q=s.h.has q:=fun _=>rfl;generalize (Ko m f z x).2=z' at hj hrun hinv;unfold MS.ins;rcases Ld (op:=x.op) Jo Jo with e|e|e|e|e|e|e|e|e|e|e|e|e|e
 · rw [if_pos e];rw [WV (.inl e)] at hj;exact Bn
 · rw [if_neg Jo,if_pos e]
   rw [ZW e] at hj;obtain ⟨t1,h1,hj⟩:=Q7 hj;obtain ⟨t2,h2,hj⟩:=Q7 hj;obtain ⟨a,ha⟩:=aG hft h1;obtain ⟨c,hc⟩:=aG hft h2;rw [Qg (show s.next.g.num x.a=some a from ha),Qg (show s.next.g.num x.b=some c from hc)];split
   · exact trivial
   · exact Bn
 · exact absurd e hop
 · exact absurd e hop4
 · rw [if_neg Jo,if_neg Jo,if_neg Jo,if_neg Jo,if_pos e]
   rw [ff e] at hj;unfold TZ at hj;obtain ⟨t,h1,hj⟩:=Q7 hj;obtain ⟨ts,h2,hj⟩:=Q7 hj;split at hj
   · cases hj
   · obtain ⟨v,g1,g2,g3,g4,g5,g6⟩:=h.at_ h1 Jd
     obtain ⟨vs,k1,k2⟩:=vi hft h2;rw [Qg (show s.next.g.val x.a=some v from g1),Qg ((vz s x.args).trans k1)];unfold MS.made;rcases R0 g2 g3 g5 (LB vs) with hc|hc
     · rw [show s.next.h.code v (LB vs)=0 from hc,if_neg Jd,if_neg Jd];have hreg:=g2.reg Jo;have hT:((Ty.mk 3 t.r ts).rn s.g.regs).r=v.region:=(by rw [Ty.rn_mr _ Jd,hreg,g6];rfl);have hK:((Ty.mk 3 t.r ts).rn s.g.regs).kind=3:=HF _ _;have hL:((Ty.mk 3 t.r ts).rn s.g.regs).l=ts.map fun t=>t.rn s.g.regs:=Ty.rn_l _ _;obtain ⟨p1,p2,p3,p4⟩:=u6 (t:=(Ty.mk 3 t.r ts).rn s.g.regs) (n:=LB vs) (x:=⟨false,vs⟩) h.ty hc hT (.inl hK) (M7.tup hK (by rw [hL];exact k2));rw [hK] at p4;exact Ct
     · rw [show s.next.h.code v (LB vs)=14 from hc,if_pos rfl];exact trivial
 · rw [if_neg Jo,if_neg Jo,if_neg Jo,if_neg Jo,if_neg Jo,if_pos e];rw [ZX e] at hj;obtain ⟨t,h1,hj⟩:=Q7 hj;obtain ⟨u,h2,hj⟩:=Q7 hj;obtain ⟨v,g1,g2,g3,g4,g5,g6⟩:=h.at_ h1 Jd;have hk0:0≤x.k:=Eu;have hu:(t.rn s.g.regs).l[x.k.toNat]?=some (u.rn s.g.regs):=EE;obtain ⟨q1,q2⟩:=dB h.ty g2 g3 g5 hk0 hu;rw [Qg (show s.next.g.val x.a=some v from g1),if_neg Jo,if_neg (by rw [show s.next.h.get v x.k=s.h.get v x.k from rfl,q1];decide)];exact ⟨_,_,_,_,_,h.more h.ty (Ic _) same (lN hj) (Iw q2) hrun hinv⟩
 · rw [if_neg Jo,if_neg Jo,if_neg Jo,if_neg Jo,if_neg Jo,if_neg Jo,if_pos e]
   rw [T1 e] at hj;obtain ⟨t,h1,hj⟩:=Q7 hj;obtain ⟨u,h2,hj⟩:=Q7 hj;obtain ⟨w,h3,hj⟩:=Q7 hj;split at hj
   · cases hj
   · rename_i huw;have huw:u=w:=Fy.1 huw;subst huw;obtain ⟨v,g1,g2,g3,g4,g5,g6⟩:=h.at_ h1 Jd;obtain ⟨y,y1,y2⟩:=ji hft h3;have hk0:0≤x.k:=Eu;have hu:(t.rn s.g.regs).l[x.k.toNat]?=some (u.rn s.g.regs):=EE;have q1:=Y6 h.ty g2 g3 g5 hk0 hu y;rw [Qg (show s.next.g.val x.a=some v from g1),if_neg Jo,Qg (show s.next.g.val x.b=some y from y1),if_neg (by rw [show s.next.h.setC v x.k y=s.h.setC v x.k y from rfl,q1];decide)];obtain ⟨p1,p2⟩:=u7 (i:=x.k) (y:=y) h.ty g2 (.inl g3) g5 (fun _ u' hu'=>by rw [hu] at hu';cases hu';exact y2) (fun h4=>by omega);have hz:z'=⟨z.h,z.l++[]⟩:=DW;have hmore:=h.more (inp:=s.inp) (out:=s.out) (fuel:=s.fuel) p1 (Ic _) p2 hz (Iv Ψ) hrun hinv;rw [FA] at hmore;exact ⟨_,_,_,_,_,hmore⟩
 · rw [if_neg Jo,if_neg Jo,if_neg Jo,if_neg Jo,if_neg Jo,if_neg Jo,if_neg Jo,if_pos e]
   rw [ZY e] at hj;obtain ⟨t,h1,hj⟩:=Q7 hj;obtain ⟨t2,h2,hj⟩:=Q7 hj;obtain ⟨v,g1,g2,g3,g4,g5,g6⟩:=h.at_ h1 Jd;obtain ⟨n,hn⟩:=aG hft h2;rw [Qg (show s.next.g.val x.a=some v from g1),Qg (show s.next.g.num x.b=some n from hn)];by_cases hr:n<0∨15<n
   · rw [if_pos hr];exact trivial
   · rw [if_neg hr]
     unfold HpS.arrC HpS.arr HpS.arrV;rw [if_neg hr,if_neg hr,if_neg hr];unfold MS.made;rcases R0 g2 g3 g5 (n+1) with hc|hc
     · rw [show s.next.h.code v (n+1)=0 from hc,if_neg Jd,if_neg Jd];have hreg:=g2.reg Jo;have hT:((Ty.mk 4 t.r []).rn s.g.regs).r=v.region:=(by rw [Ty.rn_mr _ Jd,hreg,g6];rfl);have hK:((Ty.mk 4 t.r []).rn s.g.regs).kind=4:=HF _ _;have hth:M7 Ψ ⟨true,OU n⟩ ((Ty.mk 4 t.r []).rn s.g.regs):=M7.arr hK (by unfold OU;rw [FO];omega) (fun y hy=>by unfold OU at hy;rw [Gm hy]);obtain ⟨p1,p2,p3,p4⟩:=u6 (t:=(Ty.mk 4 t.r []).rn s.g.regs) (n:=n+1) (x:=⟨true,OU n⟩) h.ty hc hT (.inr hK) hth;rw [hK] at p4;exact Ct
     · rw [show s.next.h.code v (n+1)=14 from hc,if_pos rfl];exact trivial
 · rw [if_neg Jo,if_neg Jo,if_neg Jo,if_neg Jo,if_neg Jo,if_neg Jo,if_neg Jo,if_neg Jo,if_pos e]
   rw [ZZ e] at hj;obtain ⟨t,h1,hj⟩:=Q7 hj;obtain ⟨t2,h2,hj⟩:=Q7 hj;obtain ⟨v,g1,g2,g3,g4,g5,g6⟩:=h.at_ h1 Jd;obtain ⟨n,hn⟩:=aG hft h2;rw [Qg (show s.next.g.val x.a=some v from g1),Qg (show s.next.g.num x.b=some n from hn)];unfold Nf;rw [if_neg Jo];rcases Y5 h.ty g2 g3 g5 n with hc|⟨hc,hk⟩
   · rw [if_pos (show (s.next.h.get v n).2=1 from hc)];exact trivial
   · rw [if_neg Eh,if_neg Eh];exact ⟨_,_,_,_,_,h.more h.ty (Ic _) same (lN hj) (Iw (Y8 (h:=s.h) hk _)) hrun hinv⟩
 · rw [if_neg Jo,if_neg Jo,if_neg Jo,if_neg Jo,if_neg Jo,if_neg Jo,if_neg Jo,if_neg Jo,if_neg Jo,if_pos e]
   rw [Z0 e] at hj;obtain ⟨t,h1,hj⟩:=Q7 hj;obtain ⟨t2,h2,hj⟩:=Q7 hj;obtain ⟨t3,h3,hj⟩:=Q7 hj;obtain ⟨v,g1,g2,g3,g4,g5,g6⟩:=h.at_ h1 Jd;obtain ⟨n,hn⟩:=aG hft h2;obtain ⟨c,hc⟩:=aG hft h3;rw [Qg (show s.next.g.val x.a=some v from g1),Qg (show s.next.g.num x.b=some n from hn),Qg (show s.next.g.num x.c=some c from hc)];unfold Nf;rw [if_neg Jo];rcases VL h.ty g2 g3 g5 n (y:=Ku c) rfl with hq|hq
   · rw [if_neg Eo,if_neg Eo];obtain ⟨p1,p2⟩:=u7 (i:=n) (y:=Ku c) h.ty g2 (.inr g3) g5 (fun h3=>by omega) (fun _=>rfl);have hz:z'=⟨z.h,z.l++[]⟩:=DW;have hmore:=h.more (inp:=s.inp) (out:=s.out) (fuel:=s.fuel) p1 (Ic _) p2 hz (Iv Ψ) hrun hinv;rw [FA] at hmore;exact ⟨_,_,_,_,_,hmore⟩
   · rw [if_pos (show s.next.h.setC v n (Ku c)=1 from hq)];exact trivial
 · rw [if_neg Jo,if_neg Jo,if_neg Jo,if_neg Jo,if_neg Jo,if_neg Jo,if_neg Jo,if_neg Jo,if_neg Jo,if_neg Jo,if_pos e];rw [bO e] at hj;obtain ⟨t,h1,hj⟩:=Q7 hj;obtain ⟨v,g1,g2,g3,g4,g5,g6⟩:=h.at_ h1 Jd;have hq:=dC h.ty g2 g3 g5;rw [Qg (show s.next.g.val x.a=some v from g1)];unfold Nf;rw [if_neg Jo,if_neg Ex,if_neg Ex];exact Bn
 · rw [if_neg Jo,if_neg Jo,if_neg Jo,if_neg Jo,if_neg Jo,if_neg Jo,if_neg Jo,if_neg Jo,if_neg Jo,if_neg Jo,if_neg Jo,if_pos e]
   rw [WV (.inr e)] at hj;unfold MS.inS;split
   · exact trivial
   · exact Bn
 · rw [if_neg Jo,if_neg Jo,if_neg Jo,if_neg Jo,if_neg Jo,if_neg Jo,if_neg Jo,if_neg Jo,if_neg Jo,if_neg Jo,if_neg Jo,if_neg Jo,if_pos e]
   rw [fg e] at hj;obtain ⟨t,h1,hj⟩:=Q7 hj;obtain ⟨n,hn⟩:=aG hft h1;rw [Qg (show s.next.g.num x.a=some n from hn)];unfold MS.outS;split
   · exact trivial
   · have hz:z'=⟨z.h,z.l++[]⟩:=DW;have hmore:=h.more (inp:=s.inp) (out:=s.out++[n]) (fuel:=s.fuel) h.ty (Ic _) same hz (Iv Ψ) hrun hinv;rw [FA] at hmore;exact ⟨_,_,_,_,_,hmore⟩
 · exact absurd e hop14
end
end
section
section
variable {m:Module}{Ψ Ψ':La}{s:MS}{f:Fun}{b:Block}{z z':JS}{O:Int→Prop}{g:Frm}{k:Int}{t u:Ty}{v:Val}
theorem jj {l:List Bool}{r:Int}(h0:0≤r)(h1:l[r.toNat]?=some true):Ke l r=true:=by
 have:=(EJ.1 h1).1;unfold Ke;rw [EL,h1];simp;omega
theorem pX {l:List Bool}{r:Int}(h:Ke l r=true):0≤r∧l[r.toNat]?=some true:=by
 obtain ⟨h0,h1,h2⟩:=bL h;rw [EL] at h2
 cases hx:l[r.toNat]? with
 | none=>rw [hx] at h2;cases h2
 | some y=>rw [hx] at h2;exact ⟨h0,by rw [show y=true from h2]⟩
theorem L0 {l:List Bool}{r:Int}(h:Ke (l++[true]) r=true):Ke l r=true∨r=l.length:=by
 obtain ⟨h0,h1⟩:=pX h;by_cases hr:r<l.length
 · rw [ER Jo] at h1;exact .inl (jj h0 h1)
 · have:=(EJ.1 h1).1;rw [EM] at this;simp only [ET,Ff] at this;exact .inr Jo
theorem QdH {l:List Bool}{r:Int}(h:Ke l r=true):Ke (l++[true]) r=true:=uL h
theorem QdG (l:List Bool):Ke (l++[true]) l.length=true:=jj Jo (by rw [E5,EV (E7 _),Gl];rfl)
theorem jk {l:List Bool}{r q:Int}(h0:0≤q):Ke (l.set q.toNat false) r=true↔Ke l r=true∧r≠q:=by
 constructor
 · intro h
   obtain ⟨h1,h2⟩:=pX h;rw [FD] at h2;split at h2
   · split at h2<;>cases h2
   · rename_i hne;exact ⟨jj h1 h2,Jo⟩
 · rintro ⟨h1,h2⟩;obtain ⟨h3,h4⟩:=pX h1;exact jj h3 (by rw [FD,if_neg Jo];exact h4)
theorem VO {n:Nat}{r:Int}:Ke (List.replicate n true) r=true↔0≤r∧r<n:=by
 constructor
 · intro h;have:=Su h;rw [FO] at this;exact this
 · rintro ⟨h1,h2⟩;exact jj h1 (by rw [FW,if_pos Jo])
theorem vA {a:Int}{i:Nat}(h:i<l.length):(l++[a]).getD i 0=l.getD i 0:=by
 rw [EL,ER h,←EL]
theorem pY {fn:Int→Int}{i:Nat}(h:i<l.length):(l.map fn).getD i 0=fn (l.getD i 0):=by
 rw [EL,EN,EH h,EL,EH h];rfl
theorem VP {a:Int}{i:Nat}(hl:f.regs≤g.regs.length):OZ f ⟨g.f,g.b,i,vs,g.regs++[a]⟩=OZ f g:=by
 unfold OZ;exact IG Jo
theorem Za (h:Safe m Ψ s f b z O):s.h.has s.h.l.length=false:=by
 cases hx:s.h.has s.h.l.length with
 | false=>rfl
 | true=>have:=RZ hx;omega
theorem VQ (hM:m.fault.1=0)(hm:m.Short)(h:Safe m Ψ s f b z O){x:Ins}(hx:b.code[s.g.i]?=some x)(hop:x.op=3):fY m ((s.next).ins m x):=by
 obtain ⟨hF,hj,hrun⟩:=h.ins hx;have hinv:=ja hM hm h.inv hF hj;have hrl:=jh h.inv;have hn:=h.ft.n;unfold MS.ins;rw [if_neg Jo,if_neg Jo,if_pos hop];unfold MS.newR;by_cases hfu:s.h.full=true
 · rw [if_pos (show s.next.h.full=true from hfu)];exact trivial
 · rw [if_neg (show¬s.next.h.full=true from hfu)]
   rw [fe hop] at hj;split at hj
   · cases hj
   · generalize (Ko m f z x).2=z' at hj hrun hinv
     cases hj;have eo:s.h.open=⟨s.h.l++[⟨true,[],0,0⟩],s.h.left⟩:=(by unfold HpS.open;rw [if_neg hfu]);have ev:s.h.openV=⟨2,s.h.l.length,0,0⟩:=(by unfold HpS.openV;rw [if_neg hfu]);show Xb m ⟨s.h.open,⟨s.g.f,s.g.b,s.g.i+1,s.g.vals++[s.h.openV],s.g.regs++[s.h.openV.region]⟩,s.st,s.inp,s.out,s.fuel⟩;rw [ev]
     have hrho:∀r:Int,Ke z.h r=true→(⟨s.g.f,s.g.b,s.g.i+1,s.g.vals++[⟨2,s.h.l.length,0,0⟩],s.g.regs++[(s.h.l.length:Int)]⟩:Frm).ρ r=s.g.ρ r:=fun r hr=>by
      have:=Su hr;unfold Frm.ρ;exact vA Jo
     have hrhn:(⟨s.g.f,s.g.b,s.g.i+1,s.g.vals++[⟨2,s.h.l.length,0,0⟩],s.g.regs++[(s.h.l.length:Int)]⟩:Frm).ρ z.h.length=s.h.l.length:=by
      unfold Frm.ρ;rw [E5,←hn,EL,EV (E7 _),Gl];rfl
     have hhas:∀q,s.h.open.has q=true↔(s.h.has q=true∨q=s.h.l.length):=fun q=>by
      unfold HpS.has;rw [eo,lM];by_cases hq:q=s.h.l.length
      · rw [if_pos hq];exact ⟨fun _=> .inr hq,fun _=>rfl⟩
      · rw [if_neg hq];exact ⟨fun hh=> .inl hh,fun hh=>hh.elim id fun hh=>absurd hh hq⟩
     have hnn:=Za h;refine ⟨Ψ,f,b,_,O,VJ h.ty,h.hf,h.hb,hrun,hinv,⟨by show (s.g.regs++[_]).length=(z.h++[true]).length;rw [EM,EM,hn];rfl,?_⟩,?_,?_,?_,fun q=>?_⟩
     · show Md Ψ (s.g.vals++[_]) ((z.l++[Ty.mk 2 z.h.length []]).map fun t=>t.rn (s.g.regs++[(s.h.l.length:Int)]))
       rw [Fa];refine JV ?_ (Iw ?_)
       · have e9:(z.l.map fun t=>t.rn (s.g.regs++[(s.h.l.length:Int)]))=z.l.map fun t=>t.rn s.g.regs:=FE fun t ht=>Jw (n:=z.h.length) (fun i hi=>vA Jo) t (h.inv.wf t ht);rw [e9];exact h.ft.v
       · show VT Ψ ⟨2,s.h.l.length,0,0⟩ ((Ty.mk 2 z.h.length []).rn (s.g.regs++[(s.h.l.length:Int)]));rw [He];refine ⟨rfl,fun _=>?_,fun h9=>by cases h9<;>rename_i h9<;>cases h9⟩;rw [if_pos (show (2:Int)≠1 by decide)];exact hrhn.symm
     · rw [show OZ f ⟨s.g.f,s.g.b,s.g.i+1,s.g.vals++[⟨2,s.h.l.length,0,0⟩],s.g.regs++[(s.h.l.length:Int)]⟩=OZ f s.g from VP Jo];exact h.wt
     · intro r q hr hq h1 h2 he
       rcases L0 hr with hr|rfl
       · rcases L0 hq with hq|rfl
         · rw [hrho r hr,hrho q hq] at he;exact h.inj r q hr hq h1 h2 he
         · rw [hrho r hr,hrhn] at he;have:=h.held hr;rw [he,hnn] at this;cases this
       · rcases L0 hq with hq|rfl
         · rw [hrhn,hrho q hq] at he;have:=h.held hq;rw [←he,hnn] at this;cases this
         · rfl
     · rintro q ⟨r,hr,h1,rfl⟩ hO
       rcases L0 hr with hr|rfl
       · rw [hrho r hr] at hO;exact h.dis _ ⟨r,hr,h1,rfl⟩ hO
       · rw [hrhn] at hO;have:=(h.has s.h.l.length).2 (.inr hO);rw [hnn] at this;cases this
     · rw [hhas,h.has]
       constructor
       · rintro ((⟨r,hr,h1,rfl⟩|hO)|rfl)
         · exact .inl ⟨r,QdH hr,h1,hrho r hr⟩
         · exact .inr hO
         · exact .inl ⟨z.h.length,QdG _,hrl,hrhn⟩
       · rintro (⟨r,hr,h1,rfl⟩|hO)
         · rcases L0 hr with hr|rfl
           · exact .inl (.inl ⟨r,hr,h1,(hrho r hr).symm⟩)
           · exact .inr hrhn
         · exact .inl (.inr hO)
theorem VS (hc:s.h.can v=true)(q:Int):(s.h.shut v).has q=true↔s.h.has q=true∧q≠v.region:=by
 have e:s.h.shut v=⟨s.h.l.set v.region.toNat Rgn.none,s.h.left+(s.h.reg v.region).pages⟩:=(by unfold HpS.shut;rw [hc];rfl);unfold HpS.can at hc;rw [EW] at hc;obtain ⟨g0,g1,g2,g3⟩:=RZ hc.2;unfold HpS.has;rw [e,reg_set (left':=s.h.left) Jo];by_cases hq:q=v.region
 · rw [if_pos Jo];exact ⟨fun h=>(by cases h),fun h=>absurd hq h.2⟩
 · rw [if_neg Jo];exact ⟨fun h=>⟨h,hq⟩,fun h=>h.1⟩
theorem QgW (hM:m.fault.1=0)(hm:m.Short)(h:Safe m Ψ s f b z O){x:Ins}(hx:b.code[s.g.i]?=some x)(hop:x.op=4):fY m ((s.next).ins m x):=by
 obtain ⟨hF,hj,hrun⟩:=h.ins hx;have hinv:=ja hM hm h.inv hF hj;unfold MS.ins;rw [if_neg Jo,if_neg Jo,if_neg Jo,if_pos hop];rw [bN hop] at hj;obtain ⟨t,h1,hj⟩:=Q7 hj;split at hj
 · cases hj
 · rename_i hlt
   obtain ⟨v,g1,g2,g3,g4,g5,g6⟩:=h.at_ h1 Jd;obtain ⟨_,_,_,hh⟩:=WU h1;have hrg:=Su hh;have hcan:=VI g2 g3 g5;have hv:v.region=s.g.ρ t.r:=(by rw [g2.reg Jo,g6]);generalize (Ko m f z x).2=z' at hj hrun hinv;cases hj;rw [Qg (show s.next.g.val x.a=some v from g1),if_neg (by rw [show s.next.h.can v=s.h.can v from rfl,hcan];decide)];refine ⟨Ψ,f,b,_,O,VK h.ty,h.hf,h.hb,hrun,hinv,⟨by show s.g.regs.length=(z.h.set _ _).length;rw [Fe];exact h.ft.n,h.ft.v⟩,h.wt,?_,?_,fun q=>?_⟩
   · intro r q hr hq h1 h2 he;exact h.inj r q ((jk hrg.1).1 hr).1 ((jk hrg.1).1 hq).1 h1 h2 he
   · rintro q ⟨r,hr,h1,rfl⟩ hO;exact h.dis _ ⟨r,((jk hrg.1).1 hr).1,h1,rfl⟩ hO
   · show (s.h.shut v).has q=true↔_
     rw [VS hcan,h.has,hv];constructor
     · rintro ⟨⟨r,hr,h1,rfl⟩|hO,hne⟩
       · exact .inl ⟨r,(jk hrg.1).2 ⟨hr,fun he=>hne (by rw [he])⟩,h1,rfl⟩
       · exact .inr hO
     · rintro (⟨r,hr,h1,rfl⟩|hO)
       · obtain ⟨h3,h4⟩:=(jk hrg.1).1 hr;exact ⟨.inl ⟨r,h3,h1,rfl⟩,fun he=>h4 (h.inj r t.r h3 hh h1 Jo he)⟩
       · exact ⟨.inr hO,fun he=>h.dis _ ⟨t.r,hh,Jo,he.symm⟩ hO⟩
theorem vB {f:Fun}{fi:Nat}:∀{l:List Block}{b0:Nat},(QE m f fi b0 l).1=0→∀(b:Nat) (y:Block),l[b]?=some y→(QI m f fi (b0+b) y.fin 0 (Mh y) y.code).1=0
 | [],_,_,b,y,hy=>by simp at hy
 | z::l,b0,h,b,y,hy=>by
   rw [QE] at h;obtain ⟨h1,h2⟩:=RG h
   cases b with
   | zero=>rw [FJ] at hy;cases hy;exact h1
   | succ b=>rw [FV] at hy;rw [show b0+(b+1)=b0+1+b by omega];exact vB h2 b y hy
theorem vC:∀{l:List Fun}{f0:Nat},(NC m f0 l).1=0→∀(f:Nat) (x:Fun),l[f]?=some x→(QE m x (f0+f) 0 x.blocks).1=0
 | [],_,_,b,y,hy=>by simp at hy
 | z::l,b0,h,b,y,hy=>by
   rw [NC] at h;obtain ⟨h1,h2⟩:=RG h
   cases b with
   | zero=>rw [FJ] at hy;cases hy;exact h1
   | succ b=>rw [FV] at hy;rw [show b0+(b+1)=b0+1+b by omega];exact vC h2 b y hy
theorem Xc (h:m.runs.1=0):m.fault.1=0:=(RG h).1
theorem lO (h:m.runs.1=0){x:Fun}{y:Block}(hx:m.funcs[fi]?=some x)(hy:x.blocks[bi]?=some y):(QI m x fi bi y.fin 0 (Mh y) y.code).1=0:=by
 have h1:=vC (RG h).2 fi x hx;rw [F7] at h1;have h2:=vB h1 bi y hy
 rwa [F7] at h2
theorem vD {rs regs:List Int}(hrs:rs=l.map g.ρ)(hl:(l.length:Int)=bb.regs)(h16:bb.regs≤16)(hv:Md Ψ vs (bb.params.map fun t=>(t.rn l).rn g.regs))(hw:∀t∈bb.params,t.wrong 8 bb.regs=0):
 FT Ψ (Mh bb) ⟨fi,bi,0,vs,rs⟩:=by
 subst hrs;refine ⟨by show (l.map g.ρ).length=(List.replicate (min bb.regs 16).toNat true).length;rw [EK,FO];omega,?_⟩;show Md Ψ vs (bb.params.map fun t=>t.rn (l.map g.ρ));have e:(bb.params.map fun t=>t.rn (l.map g.ρ))=bb.params.map fun t=>(t.rn l).rn g.regs:=FE fun t ht=>(Jx (n:=bb.regs) (fun i hi=>pY Jo) t (hw t ht)).symm;rw [e];exact hv
theorem dD (h0:0≤bb.regs)(h16:bb.regs≤16){r:Int}:Ke (Mh bb).h r=true↔0≤r∧r<bb.regs:=by
 unfold Mh;dsimp only;rw [VO];omega
theorem QgX (hR:m.runs.1=0)(hm:m.Short)(h:Safe m Ψ s f b z O){x:Ins}(hx:b.code[s.g.i]?=some x)(hop:x.op=14):fY m ((s.next).ins m x):=by
 have hM:=Xc hR;obtain ⟨hF,hj,hrun⟩:=h.ins hx;unfold MS.ins;(repeat rw [if_neg Jo]);rw [bP hop] at hj
 cases hg:m.funcs[x.k.toNat]? with
 | none=>unfold O6 at hj;rw [hg] at hj;cases hj
 | some gf=>
   obtain ⟨h1,h2,h3,h4⟩:=pV hj hg;have hall:=ia h2;have hrs:=VM h.ft.n hall;obtain ⟨vs,k1,k2⟩:=pW h.ft h3;unfold MS.call;rw [hg];dsimp only;rw [Qg ((VN s x.regs).trans hrs),Qg ((vz s x.args).trans k1)];have hlen:=k2.1;rw [EK] at hlen;rw [if_neg Df];split
   · exact trivial
   · have hfh:=SJ (P9 hM hg)
     obtain ⟨b0,hb0⟩:∃b0,gf.blocks[0]?=some b0:=⟨_,EH Jo⟩;have hbh:=Z2 (Pp hM hg hb0).1;obtain ⟨e1,e2⟩:=hbh.2.2.2.1 rfl
     have hno:∀r,Ke (Mh b0).h r=true→gf.regs≤r→False:=fun r hr hge=>by
      have:=(dD Jo Jo).1 hr;omega
     refine ⟨Ψ,gf,b0,Mh b0,(fun k=>aF f z s.next.g k∨O k),h.ty,hg,hb0,?_,lC hm hM hg hb0,vD (regs:=[]) (g:=s.g) rfl Jo Jo (by rw [e2];exact k2) (fun t ht=>?_),?_,?_,?_,fun q=>?_⟩
     · exact lO hR hg hb0
     · exact Hc (hU hbh.2.2.1 t ht)
     · show Wt m Ψ (s.next.g::s.st) gf (OZ gf ⟨x.k.toNat,0,0,vs,x.regs.map s.g.ρ⟩) _;rw [show OZ gf ⟨x.k.toNat,0,0,vs,x.regs.map s.g.ρ⟩=x.regs.map s.next.g.ρ from E1 Df];exact .cons (c:=s.next.g) (z:=z) h.hf h.hb h.inv ⟨h.ft.n,h.ft.v⟩ hop hF hj hg hrun h.wt h.inj h.dis
     · intro r q hr _ h5 _ _;exact (hno r hr h5).elim
     · rintro q ⟨r,hr,h5,rfl⟩ _;exact hno r hr h5
     · show s.h.has q=true↔_;rw [h.has];exact ⟨fun hh=> .inr hh,fun hh=>hh.elim (fun ⟨r,hr,h5,_⟩=>(hno r hr h5).elim) id⟩
theorem Qc4 (f:Fun)(z:JS)(t:To):NZ (MG f z t):=by
 unfold MG;split
 · exact .e Jd
 · split
   · exact .e Jd
   · split
     · exact .e Jd
     · split
       · rename_i h;exact .e h
       · exact bV _ _ _ _
theorem Zb (f:Fun)(z:JS)(e:Tail):NZ (Lo f z e):=by
 unfold Lo;refine .ite (Qc4 _ _ _) (.ite (.bind (T4 _ _ _) fun _ _=> .bind (Qc4 _ _ _) fun _ _=>Qc4 _ _ _) (.bind (bV _ _ _ _) fun _ _=> .ite (.e Jd) (.o _)))
theorem Safe.fin (h:Safe m Ψ s f b z O)(hx:b.code[s.g.i]?=none):QU f.blocks.length b.fin=0∧Lo f z b.fin= .ok ():=by
 have h1:=h.run;rw [pJ (IT.1 hx),PJ] at h1;unfold Lz at h1;split at h1
 · rename_i hne;exact absurd h1 hne
 · rename_i he
   refine ⟨Fy.1 he,?_⟩
   cases hj:Lo f z b.fin with
   | ok u=>rfl
   | error c=>
     rw [hj] at h1;dsimp only at h1;have hnz:NZ (Lo f z b.fin):=Zb _ _ _;exact absurd h1 (hnz c hj)
theorem pZ {h:List Bool}:∀{l seen:List Int},Ma h seen l=0→(∀r∈l,Ke h r=true)∧l.Nodup∧(∀r∈l,r∉seen)∧(Ls h).length≤seen.length+l.length
 | [],seen,hp=>by
   rw [Ma] at hp;split at hp
   · cases hp
   · exact ⟨by simp,IL,by simp,by simp only [Ff];omega⟩
 | x ::l,seen,hp=>by
   rw [Ma] at hp;split at hp
   · rename_i hx
     split at hp
     · cases hp
     · rename_i hns
       obtain ⟨h1,h2,h3,h4⟩:=pZ hp;refine ⟨fun r hr=>?_,GG.2 ⟨fun hm=>h3 x hm Js,h2⟩,fun r hr=>?_,by simp only [EM,ET,Ff] at h4 ⊢;omega⟩
       · rcases ES.1 hr with rfl|hr
         · exact hx
         · exact h1 r hr
       · rcases ES.1 hr with rfl|hr
         · exact hns
         · exact fun hs=>h3 r hr (E3.2 (.inl hs))
   · cases hp
theorem VU {h:List Bool}(hp:Ma h [] l=0):∀r,Ke h r=true→r∈l:=by
 obtain ⟨h1,h2,_,h4⟩:=pZ hp;intro r hr;refine Fv fun hn=>?_
 have:=eU (a:=r::l) (b:=Ls h) (GG.2 ⟨hn,h2⟩) (by
  intro y hy;rcases ES.1 hy with rfl|hy
  · exact LX.2 hr
  · exact LX.2 (h1 y hy))
 simp only [ET,Ff] at this h4;omega
theorem qa {n:Nat}(h:Np l n=true){i:Nat}(hi:i<n):l[i]?=some (i:Int):=by
 unfold Np at h;rw [FN] at h;exact of_decide_eq_true (h i (Fz.2 hi))
theorem vE (h:l.Nodup){i:Nat}{a:Int}(hi:l[i]?=some a)(hj:l[j]?=some a):i=j:=by
 have h1:=(EJ.1 hi).1;exact (List.getElem?_inj h1 h).1 (by rw [hi,hj])
theorem qb (hR:m.runs.1=0)(hm:m.Short)(h:Safe m Ψ s f b z O){t:To}(hj:MG f z t= .ok ())(hb0:0≤t.block):fY m (s.to f t):=by
 have hM:=Xc hR;unfold MG at hj;unfold MS.to
 cases hb:f.blocks[t.block.toNat]? with
 | none=>rw [hb] at hj;cases hj
 | some b' =>
   rw [hb] at hj;dsimp only at hj ⊢;split at hj
   · cases hj
   · rename_i hl
     split at hj
     · cases hj
     · rename_i hk
       split at hj
       · cases hj
       · rename_i hp
         have hp:Ma z.h [] t.regs=0:=Fy.1 hp;have hk:Np t.regs f.regs.toNat=true:=(by simpa using hk);obtain ⟨p1,p2,_,_⟩:=pZ hp;have p3:=VU hp;have hrs:=VM h.ft.n p1;obtain ⟨vs,k1,k2⟩:=pW h.ft hj;have hlen:=k2.1;rw [EK] at hlen;rw [Qg hrs,Qg k1,if_neg Df];have hbh:=Z2 (Pp hM h.hf hb).1;have hfh:=SJ (P9 hM h.hf);have hn:=h.ft.n;have hrl:=jh h.inv
         -- the new names
         have idx:∀r:Int,Ke (Mh b').h r=true→∃q,t.regs[r.toNat]?=some q∧Ke z.h q=true∧(⟨s.g.f,t.block.toNat,0,vs,t.regs.map s.g.ρ⟩:Frm).ρ r=s.g.ρ q:=fun r hr=>by
          have h1:=(dD Jo Jo).1 hr;have h2:t.regs[r.toNat]?=some t.regs[r.toNat]:=EH Jo;refine ⟨_,h2,p1 _ (EI h2),?_⟩;have h3:(t.regs.map s.g.ρ).getD r.toNat 0=s.g.ρ (t.regs.getD r.toNat 0):=pY Jo;show (t.regs.map s.g.ρ).getD r.toNat 0=_;rw [h3,EL,h2];rfl
         have up:∀(r q:Int),0≤r→t.regs[r.toNat]?=some q→Ke z.h q=true→(f.regs≤r↔f.regs≤q):=fun r q h0 hq hh=>by
          have hqr:=Su hh;constructor
          · intro hr;refine Fv fun hc=>?_;have h1:=qa hk (i:=q.toNat) Jo;rw [show ((q.toNat:Nat):Int)=q by omega] at h1;have:=vE p2 hq h1;omega
          · intro hq2;refine Fv fun hc=>?_;have h1:=qa hk (i:=r.toNat) Jo;rw [hq] at h1;cases h1;omega
         have own:∀q,aF f (Mh b') ⟨s.g.f,t.block.toNat,0,vs,t.regs.map s.g.ρ⟩ q↔aF f z s.g q:=fun q=>by
          constructor
          · rintro ⟨r,hr,h1,rfl⟩;obtain ⟨a,h2,h3,h4⟩:=idx r hr;have h0:=((dD Jo Jo).1 hr).1;exact ⟨a,h3,(up r a h0 h2 h3).1 h1,h4.symm⟩
          · rintro ⟨a,ha,h1,rfl⟩;obtain ⟨i,hi⟩:=Fj.1 (p3 a ha);have hil:=(EJ.1 hi).1;have hri:Ke (Mh b').h (i:Int)=true:=(dD Jo Jo).2 Jo;obtain ⟨a2,h2,h3,h4⟩:=idx i hri;rw [E5,hi] at h2;cases h2;exact ⟨i,hri,(up i a Jo (by rw [E5];exact hi) h3).2 h1,h4⟩
         refine ⟨Ψ,f,b',Mh b',O,h.ty,h.hf,hb,lO hR h.hf hb,lC hm hM h.hf hb,vD (regs:=[]) (g:=s.g) rfl Jo Jo k2 (fun u hu=>Hc (hU hbh.2.2.1 u hu)),?_,?_,?_,fun q=>?_⟩
         · have ek:OZ f ⟨s.g.f,t.block.toNat,0,vs,t.regs.map s.g.ρ⟩=OZ f s.g:=by
            unfold OZ;refine Gg fun i=>?_;by_cases hi:i<f.regs.toNat
            · rw [FH hi,FH hi,EN,qa hk hi];unfold Frm.ρ;rw [EH (show i<s.g.regs.length by omega)];simp only [FP,E5];rw [EL,EH (show i<s.g.regs.length by omega)];rfl
            · rw [Fk DG,Fk DG]
           show Wt m Ψ s.st f (OZ f ⟨s.g.f,t.block.toNat,0,vs,t.regs.map s.g.ρ⟩) O;rw [ek];exact h.wt
         · intro r q hr hq h1 h2 he;obtain ⟨a,a1,a2,a3⟩:=idx r hr;obtain ⟨c,c1,c2,c3⟩:=idx q hq;have hr0:=((dD Jo Jo).1 hr).1;have hq0:=((dD Jo Jo).1 hq).1;have hac:=h.inj a c a2 c2 ((up r a hr0 a1 a2).1 h1) ((up q c hq0 c1 c2).1 h2) (by rw [←a3,←c3];exact he);subst hac;have:=vE p2 a1 c1;omega
         · exact fun q hq=>h.dis q ((own q).1 hq)
         · show s.h.has q=true↔_;rw [h.has];exact or_congr (own q).symm GV
theorem VV {n i:Nat}(h:i<n):(KR n).getD i 0=i:=by
 unfold KR;rw [EL,EN,Ht h];rfl
theorem Zc {l:List Val}(h:Md Ψ l ts)(hk:∀t∈ts,t.kind=1):∃ns,Kr l=some ns:=by
 induction l generalizing ts with
 | nil=>exact ⟨[],rfl⟩
 | cons v l ih=>
   cases ts with
   | nil=>have:=h.1;simp at this
   | cons t ts=>
     have h1:=h.2 0 v t rfl rfl;obtain ⟨ns,h2⟩:=ih (ts:=ts) ⟨by have:=h.1;simpa using this,fun i w u hw hu=>h.2 (i+1) w u (by simpa using hw) (by simpa using hu)⟩ (fun u hu=>hk u (E9 _ hu));exact ⟨v.n::ns,by rw [Kr,h2];exact if_pos (by rw [h1.kind];exact hk t (Fh ..))⟩
def qd (h:HpS):Prop:=∀q,h.has q=false
def jl (m:Module)(h:HpS):Stp→Prop
 | .go s=>Xb m s
 | .halt _=>True
 | .done _=>qd h
 | .lost=>False
theorem lP {r:Stp}(hr:fY m r)(hd:∀l,r≠ .done l):jl m h r:=by
 cases r with
 | go s=>exact hr
 | halt e=>exact trivial
 | done l=>exact absurd rfl (hd l)
 | lost=>exact hr
theorem Oq (h:∀a l,fn a≠ .done l):∀l,obind o fn≠ .done l:=by
 cases o with
 | none=>intro l h;cases h
 | some a=>exact h a
theorem MW [Decidable p]{a b:Stp}(h1:∀l,a≠ .done l)(h2:∀l,b≠ .done l):∀l,(if p then a else b)≠ .done l:=by
 split
 · exact h1
 · exact h2
theorem R1 {s:MS}:∀l,Stp.go s≠ .done l:=fun l h=>by cases h
theorem aH:∀l,Stp.halt e≠ .done l:=fun l h=>by cases h
theorem SS:∀l,Stp.lost≠ .done l:=fun l h=>by cases h
theorem VW {f:Fun}{t:To}:∀l,s.to f t≠ .done l:=by
 unfold MS.to;split
 · exact SS
 · exact Oq fun _=>Oq fun _=>MW SS R1
theorem qe {v:Val}{k:Stp}(h:∀l,k≠ .done l):∀l,Nf v e k≠ .done l:=MW SS (MW aH (MW SS h))
theorem vF {v:Val}:∀l,s.made e h v≠ .done l:=MW aH (MW SS R1)
theorem dE {x:Ins}:∀l,s.ins m x≠ .done l:=by
 unfold MS.ins
 refine MW R1 (MW (Oq fun _=>Oq fun _=>MW aH R1) (MW (MW aH R1) (MW (Oq fun _=>MW SS R1) (MW (Oq fun _=>Oq fun _=>vF)
  (MW (Oq fun _=>MW SS (MW SS R1)) (MW (Oq fun _=>MW SS (Oq fun _=>MW SS R1)) (MW (Oq fun _=>Oq fun _=>MW aH vF)
  (MW (Oq fun _=>Oq fun _=>qe R1) (MW (Oq fun _=>Oq fun _=>Oq fun _=>qe R1) (MW (Oq fun _=>qe R1) (MW ?_ (MW (Oq fun _=>MW aH R1) ?_))))))))))))
 · unfold MS.inS
   split
   · exact aH
   · exact R1
 · unfold MS.call
   split
   · exact SS
   · exact Oq fun _=>Oq fun _=>MW SS (MW aH R1)
def Sx:Stp→Prop
 | .halt e=>e≠0
 | _=>True
theorem Mx [Decidable p]{a b:Stp}(h1:Sx a)(h2:Sx b):Sx (if p then a else b):=by
 split
 · exact h1
 · exact h2
theorem NQ (h:∀a,Sx (fn a)):Sx (obind o fn):=by
 cases o with
 | none=>exact trivial
 | some a=>exact h a
theorem PA (h:e≠0):Sx (.halt e):=h
theorem qf {v:Val}{k:Stp}(h:Sx k):Sx (Nf v e k):=Mx trivial (Mx (PA Jd) (Mx trivial h))
theorem vG {v:Val}:Sx (s.made e h v):=Mx (PA Jd) (Mx trivial trivial)
theorem dG {x:Ins}:Sx (s.ins m x):=by
 unfold MS.ins
 refine Mx trivial (Mx (NQ fun _=>NQ fun _=>Mx (PA Jd) trivial) (Mx (Mx (PA Jd) trivial) (Mx (NQ fun _=>Mx trivial trivial) (Mx (NQ fun _=>NQ fun _=>vG)
  (Mx (NQ fun _=>Mx trivial (Mx trivial trivial)) (Mx (NQ fun _=>Mx trivial (NQ fun _=>Mx trivial trivial)) (Mx (NQ fun _=>NQ fun _=>Mx (PA Jd) vG)
  (Mx (NQ fun _=>NQ fun _=>qf trivial) (Mx (NQ fun _=>NQ fun _=>NQ fun _=>qf trivial) (Mx (NQ fun _=>qf trivial) (Mx ?_ (Mx (NQ fun _=>Mx (PA Jd) trivial) ?_))))))))))))
 · unfold MS.inS
   split
   · exact PA Jd
   · exact trivial
 · unfold MS.call
   split
   · exact trivial
   · exact NQ fun _=>NQ fun _=>Mx trivial (Mx (PA Jd) trivial)
theorem VX {f:Fun}{t:To}:Sx (s.to f t):=by
 unfold MS.to;split
 · exact trivial
 · exact NQ fun _=>NQ fun _=>Mx trivial trivial
theorem dH {f:Fun}{e:Tail}:Sx (s.fin f e):=by
 unfold MS.fin;refine Mx VX (Mx (NQ fun _=>Mx VX VX) ?_);unfold MS.ret;refine NQ fun vs=>Mx trivial ?_;split
 · exact trivial
 · split<;>exact trivial
theorem VY {s:MS}(h:s.one m= .halt e):e≠0:=by
 have h1:Sx (s.one m):=by
  unfold MS.one;split
  · exact trivial
  · split
    · exact trivial
    · split
      · exact dG
      · exact dH
 rw [h] at h1;exact h1
theorem VZ (hR:m.runs.1=0)(hm:m.Short)(h:Safe m Ψ s f b z O){e:Tail}(hj:JX (Ob z e.args f.results (KR f.regs.toNat)) (fun _=>if f.regs<(Ls z.h).length then (.error 12:Except Int Unit) else .ok ())= .ok ()):jl m s.h (s.ret f e):=by
 have hM:=Xc hR;have hfh:=SJ (P9 hM h.hf);have hrl:=jh h.inv;have hn:=h.ft.n;obtain ⟨_,h1,hj⟩:=Q7 hj;split at hj
 · cases hj
 · rename_i hlt
   have hno:∀q,¬aF f z s.g q:=by
    rintro q ⟨r,hr,h2,rfl⟩;exact hlt ((pH h.inv hfh.1).2 ⟨r,LX.2 hr,h2⟩)
   obtain ⟨vs,k1,k2⟩:=pW h.ft h1;have hwr:∀t∈f.results,t.wrong 8 f.regs=0:=fun t ht=>Hc (hU hfh.2.2.2.1 t ht);have hlen:=k2.1;rw [EK] at hlen;unfold MS.ret;rw [Qg k1,if_neg Jo];have hw:=h.wt;generalize hkp:OZ f s.g=kp at hw
   cases hst:s.st with
   | nil=>
     rw [hst] at hw;dsimp only
     cases hw with
     | nil hf0=>
       have hfz:=P9 hM hf0
       have hres:∀t∈f.results,t.kind=1:=by
        unfold QF at hfz;split at hfz
        · cases hfz
        · split at hfz
          · rename_i hh;exact absurd hfz hh
          · split at hfz
            · rename_i hh;exact absurd hfz hh
            · split at hfz
              · cases hfz
              · split at hfz
                · cases hfz
                · rename_i hh;intro t ht;exact Fv fun hk=>hh ⟨rfl, .inr (.inr ⟨t,ht,hk⟩)⟩
       obtain ⟨ns,h2⟩:=Zc k2 (fun u hu=>by
        obtain ⟨t,ht,rfl⟩:=Fc.1 hu;rw [HF,HF];exact hres t ht)
       rw [h2];intro q
       cases hq:s.h.has q with
       | false=>rfl
       | true => rcases (h.has q).1 hq with h3|h3
                 · exact absurd h3 (hno q)
                 · exact h3.elim
   | cons c st=>
     rw [hst] at hw;dsimp only;have hhas:=h.has
     cases hw with
     | @cons _ _ fc _ bc zc z' x O' hf hb hi ht hx hF hc hg hr hw' hj' hd'=>
       obtain ⟨c1,c2,c3,rfl⟩:=pV hc hg;have hall:=ia c2;have hinv:=ja (x:=x) hM hm hi hF (by rw [bP hx];exact hc);refine ⟨Ψ,fc,bc,_,O',h.ty,hf,hb,hr,hinv,⟨ht.n,?_⟩,hw',hj',hd',fun q=>?_⟩
       · show Md Ψ (c.vals++vs) ((zc.l++f.results.map (Mp x.regs)).map fun t=>t.rn c.regs)
         rw [Fa,Gn];refine JV ht.v ?_
         have e9:(f.results.map ((fun t:Ty=>t.rn c.regs)∘Mp x.regs))=f.results.map fun t=>(t.rn (KR f.regs.toNat)).rn s.g.regs:=by
          refine FE fun t ht2=>?_;have hw8:=hwr t ht2;have hrg:∀r∈x.regs,0≤r∧r<zc.h.length:=fun r hr=>Su (hall r hr)
          obtain ⟨u,hu,_⟩:=Ty.ren_right (n:=zc.h.length) (f:=x.regs) (fun i hi=>by
           rw [EL,EH hi];exact hrg _ (Gk hi)) t (by rw [c1];exact hw8)
          have e1:Mp x.regs t=t.rn x.regs:=(by unfold Mp;rw [hu];exact Ty.rn_of t u hu);show (Mp x.regs t).rn c.regs=_
          rw [e1,Jx (e:=x.regs.map c.ρ) (n:=f.regs) (fun i hi=>by rw [pY Jo];rfl) t hw8,
           Jx (e:=s.g.regs) (n:=f.regs) (fun i hi=>by rw [VV Jo];rfl) t hw8]
          refine Jw (n:=f.regs) (fun i hi=>?_) t hw8;rw [←hkp];unfold OZ;rw [EL,FH Jo,←EL]
         rw [e9];exact k2
       · show s.h.has q=true↔_;rw [hhas];exact ⟨fun hh=>hh.elim (fun h3=>absurd h3 (hno q)) id,fun hh=> .inr hh⟩
theorem vH (hR:m.runs.1=0)(hm:m.Short)(h:Xb m s):jl m s.h (s.one m):=by
 obtain ⟨Ψ,f,b,z,O,h⟩:=h;have hM:=Xc hR;unfold MS.one;rw [h.hf];dsimp only;rw [h.hb];dsimp only
 cases hx:b.code[s.g.i]? with
 | some x=>
   dsimp only;refine lP ?_ dE;by_cases h3:x.op=3
   · exact VQ hM hm h hx h3
   · by_cases h4:x.op=4
     · exact QgW hM hm h hx h4
     · by_cases h14:x.op=14
       · exact QgX hR hm h hx h14
       · exact Y9 hM hm h hx h3 h4 h14
 | none=>
   dsimp only;obtain ⟨he,hj⟩:=h.fin hx;obtain ⟨e1,e2,e3,e4⟩:=SI he;unfold MS.fin;by_cases h1:b.fin.op=1
   · rw [if_pos h1];rw [kK h1] at hj;have hd:decide (b.fin.op≠3)=true:=decide_eq_true Jo;rw [hd] at e3;exact lP (qb hR hm h hj (WW e3).1) VW
   · rw [if_neg h1]
     by_cases h2:b.fin.op=2
     · rw [if_pos h2]
       rw [Z1 h2] at hj;obtain ⟨t,g1,hj⟩:=Q7 hj;obtain ⟨u,g2,hj⟩:=Q7 hj;obtain ⟨n,hn⟩:=aG h.ft g1;have hd:decide (b.fin.op≠3)=true:=decide_eq_true Jo;have hd2:decide (b.fin.op=2)=true:=decide_eq_true h2;rw [hd] at e3;rw [hd2] at e4;rw [Qg hn];split
       · exact lP (qb hR hm h g2 (WW e3).1) VW
       · exact lP (qb hR hm h hj (WW e4).1) VW
     · rw [if_neg h2];rw [bT Jo] at hj;exact VZ hR hm h hj
theorem vI (h:Xb m s):Xb m s.tick:=by
 obtain ⟨Ψ,f,b,z,O,h⟩:=h;exact ⟨Ψ,f,b,z,O,h.ty,h.hf,h.hb,h.run,h.inv,h.ft,h.wt,h.inj,h.dis,h.has⟩
theorem vJ (hR:m.runs.1=0)(hm:m.Short)(inp:List Int)(pages:Int):Xb m (MS.start inp pages):=by
 have hM:=Xc hR;have hl:=kL hM;obtain ⟨f,hf⟩:∃f,m.funcs[0]?=some f:=⟨_,EH Jo⟩;have hfh:=SJ (P9 hM hf)
 have hz:f.regs=0∧f.params=[]:=by
  have hfz:=P9 hM hf;unfold QF at hfz;split at hfz
  · cases hfz
  · split at hfz
    · rename_i hh;exact absurd hfz hh
    · split at hfz
      · rename_i hh;exact absurd hfz hh
      · split at hfz
        · cases hfz
        · split at hfz
          · cases hfz
          · rename_i hh;exact ⟨Fv fun hk=>hh ⟨rfl, .inl Jo⟩,Fv fun hk=>hh ⟨rfl, .inr (.inl (Ij.2 hk))⟩⟩
 (obtain ⟨b,hb⟩:∃b,f.blocks[0]?=some b:=⟨_,EH Jo⟩;have hbh:=Z2 (Pp hM hf hb).1;obtain ⟨e1,e2⟩:=hbh.2.2.2.1 rfl;have hno:∀r,Ke (Mh b).h r=true→False:=fun r hr=>by have:=(dD Jo Jo).1 hr;omega);refine ⟨fun _ _=>none,f,b,Mh b,fun _=>False,⟨fun _ _ _ h=>(by cases h),fun _ _ _ h=>(by cases h)⟩,hf,hb,lO hR hf hb,lC hm hM hf hb,⟨?_,?_⟩,?_,?_,?_,fun q=>?_⟩
 · show 0=(List.replicate (min b.regs 16).toNat true).length;rw [FO];omega
 · show Md _ [] (b.params.map _);rw [e2,hz.2];exact Iv _
 · show Wt m _ [] f (OZ f ⟨0,0,0,[],[]⟩) _;rw [show OZ f ⟨0,0,0,[],[]⟩=[] from List.take_nil];exact .nil hf
 · intro r q hr;exact (hno r hr).elim
 · rintro q ⟨r,hr,_⟩;exact (hno r hr).elim
 · constructor
   · intro hh;have:=RZ hh;have hl0:(MS.start inp pages).h.l.length=0:=rfl;omega
   · rintro (⟨r,hr,_⟩|hh)
     · exact (hno r hr).elim
     · exact hh.elim
def lQ (m:Module):Run→Prop
 | .on s=>Xb m s
 | .over s e _=>e=0→qd s.h
 | .stuck _=>False
theorem vK {s:MS}(h:s.one m= .halt e):e≠0:=VY h
theorem Qar (hR:m.runs.1=0)(hm:m.Short){r:Run}(h:lQ m r):lQ m (r.step m most):=by
 cases r with
 | on s=>
   unfold Run.step;dsimp only;split
   · intro h0;cases h0
   · have h1:=vH hR hm (vI h)
     cases hr:s.tick.one m with
     | go t=>rw [hr] at h1;exact h1
     | halt e=>exact fun h0=>absurd h0 (vK hr)
     | done l=>rw [hr] at h1;exact fun _=>h1
     | lost=>rw [hr] at h1;exact h1
 | over s e b=>exact h
 | stuck f=>exact h
theorem vL (hR:m.runs.1=0)(hm:m.Short){most:Nat}:∀(k:Nat){r:Run},lQ m r→lQ m (Run.steps m most k r)
 | 0,r,h=>h
 | k+1,r,h=>vL hR hm k (Qar hR hm h)
theorem vM (hR:m.runs.1=0)(hm:m.Short)(inp:List Int)(most:Nat)(pages:Int):(Run.all m inp most pages).flt=(0,0):=by
 have h:=vL hR hm (most:=most) (most+1) (r:= .on (MS.start inp pages)) (vJ hR hm inp pages);unfold Run.all
 cases hr:Run.steps m most (most+1) (.on (MS.start inp pages)) with
 | on s=>rfl
 | over s e b=>rfl
 | stuck f=>rw [hr] at h;exact h.elim
end
end
section
theorem jm {a b:LV}(ha:a=(0,0))(hb:b=(0,0)):Kz a b=(0,0):=by rw [ha,hb];rfl
theorem vN {n f b:Nat}:∀{l:List Ins}{i:Nat},(∀x∈l,Qj n x=0)→NW n f b i l=(0,0)
 | [],_,_=>rfl
 | x::l,i,h=>by
   rw [NW,h x (Fh ..),Mg];exact jm rfl (vN fun y hy=>h y (E9 _ hy))
theorem Qbb {n f b:Nat}{x:Fun}{y:Block}(h1:Qt x b y=0)(h2:∀i∈y.code,Qj n i=0)(h3:QU x.blocks.length y.fin=0):QH n f x b y=(0,0):=by
 unfold QH;rw [h1,h3,vN h2];rfl
theorem vO {n f:Nat}{x:Fun}:∀{l:List Block}{b:Nat},(∀j y,l[j]?=some y→QH n f x (b+j) y=(0,0))→QP n f x b l=(0,0)
 | [],_,_=>rfl
 | y::l,b,h=>by
   rw [QP];refine jm (h 0 y rfl) (vO fun j z hz=>?_);have:=h (j+1) z DM;rw [show b+1+j=b+(j+1) by omega];exact this
theorem QdJ {n f:Nat}{x:Fun}(h1:QF f x=0)(h2:∀j y,x.blocks[j]?=some y→QH n f x j y=(0,0)):OM n f x=(0,0):=by
 unfold OM;rw [h1];exact jm rfl (vO fun j y hy=>by rw [F7];exact h2 j y hy)
theorem vP {n:Nat}:∀{l:List Fun}{f:Nat},(∀j x,l[j]?=some x→OM n (f+j) x=(0,0))→ON n f l=(0,0)
 | [],_,_=>rfl
 | x::l,f,h=>by
   rw [ON];refine jm (h 0 x rfl) (vP fun j z hz=>?_);have:=h (j+1) z DM;rw [show f+1+j=f+(j+1) by omega];exact this
theorem V0 {m:Module}(h1:1≤m.funcs.length)(h2:m.funcs.length≤8)(h:∀j x,m.funcs[j]?=some x→OM m.funcs.length j x=(0,0)):m.fault=(0,0):=by
 unfold Module.fault;rw [if_neg Jo];exact jm rfl (vP fun j x hx=>by rw [F7];exact h j x hx)
theorem vQ {m:Module}{f:Fun}{fi:Nat}:∀{l:List Block}{b:Nat},(∀j y,l[j]?=some y→(QI m f fi (b+j) y.fin 0 (Mh y) y.code).1=0)→QE m f fi b l=(0,0)
 | [],_,_=>by rw [QE]
 | y::l,b,h=>by
   rw [uO (by have:=h 0 y rfl;rw [Hw] at this;exact this)];refine vQ fun j z hz=>?_;have:=h (j+1) z DM;rw [show b+1+j=b+(j+1) by omega];exact this
theorem vR {m:Module}:∀{l:List Fun}{f:Nat},(∀j x,l[j]?=some x→QE m x (f+j) 0 x.blocks=(0,0))→NC m f l=(0,0)
 | [],_,_=>by rw [NC]
 | x::l,f,h=>by
   rw [uP (by have:=h 0 x rfl;rw [Hw] at this;rw [this])];refine vR fun j z hz=>?_;have:=h (j+1) z DM;rw [show f+1+j=f+(j+1) by omega];exact this
theorem vS {k:Nat}(h0:ks[0]?=some true)(hk:0<k):0<num ks k:=by
 unfold num;rw [JB];refine ⟨true,?_,rfl⟩;refine EI (i:=0) ?_;rw [FH hk];exact h0
section
variable {n n':Nat}{ks:List Bool}{x:Ins}{e:Tail}
theorem QdB (h:Qj n x=0)(hk:x.op=14→num ks x.k.toNat<n'):Qj n' (Kp ks x)=0:=by
 have hop:=T0 h;by_cases ho:x.op=14
 · have er:Kp ks x={x with k:=num ks x.k.toNat}:=by unfold Kp;rw [if_pos ho]
   (have hkk:=hk ho;rw [er];unfold Qj at h ⊢;rw [if_neg Jo] at h;show (if x.op<1∨14<x.op then 3 else _)=_;rw [if_neg Jo];have hodd:¬x.odd:=fun hd=>by rw [if_pos hd] at h;cases h);rw [if_neg hodd] at h
   have hodd':¬Ins.odd {x with k:=num ks x.k.toNat}:=by
    intro hd;apply hodd;unfold Ins.odd at hd ⊢;have hK:fK x.op=true:=(by unfold fK;exact decide_eq_true Jo);simp only [hK] at hd ⊢
    simpa using hd
   rw [if_neg hodd'];unfold Nw at h ⊢;show (if x.op=2 then _ else if x.op=5 then _ else if x.op=6∨x.op=7 then _ else if x.op=14 then (if ((num ks x.k.toNat:Nat):Int)<0∨(n':Int)≤((num ks x.k.toNat:Nat):Int) then 1 else if 6<x.regs.length∨8<x.args.length then 2 else 0) else 0)=(0:Int);rw [if_neg Jo,if_neg Jo,if_neg Jo,if_pos ho,if_neg Jo];rw [if_neg Jo,if_neg Jo,if_neg Jo,if_pos ho] at h;split at h
   · cases h
   · exact h
 · have er:Kp ks x=x:=by unfold Kp;rw [if_neg ho]
   rw [er];unfold Qj at h ⊢;rw [if_neg Jo] at h ⊢;split at h
   · cases h
   · next hd=>
     rw [if_neg hd];unfold Nw at h ⊢;rw [if_neg (c:=x.op=14) ho] at h ⊢;exact h
theorem vT (h:LK n t true=0)(hk:num ks t.block.toNat<n'):LK n' (Lf ks t) true=0:=by
 unfold LK at h ⊢;rw [if_neg Bool.noConfusion] at h ⊢;show (if ((num ks t.block.toNat:Nat):Int)<0∨(n':Int)≤((num ks t.block.toNat:Nat):Int) then 1 else if 16<t.regs.length∨8<t.args.length then 2 else 0)=(0:Int);rw [if_neg Jo];split at h
 · cases h
 · exact h
theorem vU (h:LK n t false=0):LK n' t false=0:=by
 unfold LK at h ⊢;rw [if_pos rfl] at h ⊢;exact h
theorem QdM (h:QU n e=0)(hy:e.op≠3→num ks e.yes.block.toNat<n')(hn:e.op=2→num ks e.no.block.toNat<n'):QU n' (Mj ks e)=0:=by
 have hp:=SI h
 have e1:LK n' (Mj ks e).yes (decide (e.op≠3))=0:=by
  show LK n' (if e.op≠3 then Lf ks e.yes else e.yes) _=0;by_cases ho:e.op≠3
  · have h1:=hp.2.2.1;rw [show decide (e.op≠3)=true from decide_eq_true ho] at h1 ⊢;rw [if_pos ho];exact vT h1 (hy ho)
  · have h1:=hp.2.2.1;rw [show decide (e.op≠3)=false from decide_eq_false ho] at h1 ⊢;rw [if_neg ho];exact vU h1
 have e2:LK n' (Mj ks e).no (decide (e.op=2))=0:=by
  show LK n' (if e.op=2 then Lf ks e.no else e.no) _=0;by_cases ho:e.op=2
  · have h1:=hp.2.2.2;rw [show decide (e.op=2)=true from decide_eq_true ho] at h1 ⊢;rw [if_pos ho];exact vT h1 (hn ho)
  · have h1:=hp.2.2.2;rw [show decide (e.op=2)=false from decide_eq_false ho] at h1 ⊢;rw [if_neg ho];exact vU h1
 unfold QU at h ⊢;show (if e.op<1∨3<e.op then 3 else if e.op≠2∧e.a≠0∨e.op≠3∧0<e.args.length then 4 else if 8<e.args.length then 2 else RF (LK n' (Mj ks e).yes (decide (e.op≠3))) (LK n' (Mj ks e).no (decide (e.op=2))))=(0:Int);rw [e1,e2];rw [if_neg Jo] at h ⊢;split at h
 · cases h
 · next h4=>
   rw [if_neg h4];split at h
   · cases h
   · next h5=>rw [if_neg h5];rfl
end
section
variable {m:Module}{F:Fun}{f b:Nat}{y:Block}{x:Ins}{s:JS}
theorem vV {f:Fun}(ho:x.op=14):Kl m f s x=O6 m s x:=by
 unfold Kl;(repeat rw [if_neg Jo])
theorem V1 (ho:1≤x.op∧x.op≤14)(hk:x.op=14→∃G,m.funcs[x.k.toNat]?=some G∧(KF m)[x.k.toNat]?=some true):Kl m.trim (Kt m F) s (Kp (KF m) x)=Kl m F s x:=by
 by_cases h14:x.op=14
 · obtain ⟨G,hG,hkk⟩:=hk h14;have hG':=fV hG hkk;have er:Kp (KF m) x={x with k:=num (KF m) x.k.toNat}:=(by unfold Kp;rw [if_pos h14]);rw [er];rw [vV (x:={x with k:=num (KF m) x.k.toNat}) h14,vV h14];unfold O6;show (match m.trim.funcs[((num (KF m) x.k.toNat:Nat):Int).toNat]? with|none=>_|some g=>_)=_;rw [E5,hG',hG];rfl
 · have er:Kp (KF m) x=x:=(by unfold Kp;rw [if_neg h14]);rw [er];unfold Kl;rw [show (Kt m F).regs=F.regs from rfl];refine ite_congr rfl (fun _=>rfl) fun h1=>ite_congr rfl (fun _=>rfl) fun h2=>ite_congr rfl (fun _=>rfl) fun h3=>ite_congr rfl (fun _=>rfl) fun h4=>ite_congr rfl (fun _=>rfl) fun h5=>ite_congr rfl (fun _=>rfl) fun h6=>ite_congr rfl (fun _=>rfl) fun h7=>ite_congr rfl (fun _=>rfl) fun h8=>ite_congr rfl (fun _=>rfl) fun h9=>ite_congr rfl (fun _=>rfl) fun h10=>ite_congr rfl (fun _=>rfl) fun h11=>ite_congr rfl (fun _=>rfl) fun h12=>?_;exfalso;omega
theorem V2 (h:Qj m.funcs.length x=0)(h':Qj m.trim.funcs.length (Kp (KF m) x)=0)(hk:x.op=14→∃G,m.funcs[x.k.toNat]?=some G∧(KF m)[x.k.toNat]?=some true):Ko m.trim (Kt m F) s (Kp (KF m) x)=Ko m F s x:=by
 unfold Ko;rw [if_neg (fun hn=>hn h'),if_neg (fun hn=>hn h),V1 (T0 h) hk]
theorem qg (hk:(KB F)[t.block.toNat]?=some true):MG (Kt m F) s (Lf (KB F) t)=MG F s t:=by
 have hlt:=(EJ.1 hk).1;rw [dx] at hlt;obtain ⟨y,hy⟩:∃y,F.blocks[t.block.toNat]?=some y:=⟨_,EH hlt⟩;have hy':=fW (m:=m) hy hk;unfold MG;show (match (Kt m F).blocks[((num (KB F) t.block.toNat:Nat):Int).toNat]? with|none=>_|some b=>_)=_;rw [E5,hy',hy];rfl
theorem V3 {e:Tail}(ho:1≤e.op∧e.op≤3)(hy:e.op≠3→(KB F)[e.yes.block.toNat]?=some true)(hn:e.op=2→(KB F)[e.no.block.toNat]?=some true):Lo (Kt m F) s (Mj (KB F) e)=Lo F s e:=by
 unfold Lo;show (if e.op=1 then MG (Kt m F) s (if e.op≠3 then Lf (KB F) e.yes else e.yes) else if e.op=2 then JX (Kf s e.a 1) (fun _=>JX (MG (Kt m F) s (if e.op≠3 then Lf (KB F) e.yes else e.yes)) fun _=>MG (Kt m F) s (if e.op=2 then Lf (KB F) e.no else e.no)) else _)=_;refine ite_congr rfl (fun h1=>?_) fun h1=>ite_congr rfl (fun h2=>?_) fun h2=>rfl
 · rw [if_pos Jo];exact qg (hy Jo)
 · rw [if_pos Jo,if_pos h2,qg (hy Jo),qg (hn h2)]
theorem vW {f' b':Nat}{e:Tail}(he:QU F.blocks.length e=0)(he':QU (Kt m F).blocks.length (Mj (KB F) e)=0)(hy:e.op≠3→(KB F)[e.yes.block.toNat]?=some true)(hn:e.op=2→(KB F)[e.no.block.toNat]?=some true):
 ∀{l:List Ins}{i i':Nat}{s:JS},(∀x∈l,Qj m.funcs.length x=0∧Qj m.trim.funcs.length (Kp (KF m) x)=0∧(x.op=14→∃G,m.funcs[x.k.toNat]?=some G∧(KF m)[x.k.toNat]?=some true))→(QI m F f b e i s l).1=0→(QI m.trim (Kt m F) f' b' (Mj (KB F) e) i' s (l.map (Kp (KF m)))).1=0
 | [],i,i',s,_,h=>by
   rw [QI,PJ] at h;rw [Io,QI,PJ];unfold Lz at h ⊢;rw [if_neg (fun hn=>hn he)] at h;rw [if_neg (fun hn=>hn he'),V3 ⟨(SI he).1,(SI he).2.1⟩ hy hn];exact h
 | x ::l,i,i',s,hx,h=>by
   obtain ⟨h1,h2,h3⟩:=hx x (Fh ..);have e1:=V2 (F:=F) (s:=s) h1 h2 h3;by_cases hz:(Ko m F s x).1=0
   · rw [jc hz] at h;rw [FM,jc (by rw [e1];exact hz),e1];exact vW he he' hy hn (fun z hz=>hx z (E9 _ hz)) h
   · rw [lF hz] at h;exact absurd h hz
end
section
variable {m:Module}
theorem V4 (hM:MOk m.funcs):1≤m.trim.funcs.length∧m.trim.funcs.length≤8:=by
 have h0:=hM.one;obtain ⟨F,hF⟩:∃F,m.funcs[0]?=some F:=⟨_,EH Jo⟩;have h1:=(EJ.1 (fV hF (pP hM))).1
 have h2:m.trim.funcs.length≤m.funcs.length:=by
  show ((pick _ _).map _).length≤_;rw [EK];exact F3 (aq _ _) (by rw [EK];exact E7 _)
 have:=hM.few;omega
theorem V5 (hF:FOk F.blocks):1≤(Kt m F).blocks.length∧(Kt m F).blocks.length≤12:=by
 have h0:=hF.one;obtain ⟨y,hy⟩:∃y,F.blocks[0]?=some y:=⟨_,EH Jo⟩;have h1:=(EJ.1 (fW (m:=m) hy (lJ hF))).1;have h2:(Kt m F).blocks.length≤F.blocks.length:=(by rw [pO,EK];exact aq _ _);have:=hF.few;omega
theorem vX {k:Nat}(hk:(KB F)[k]?=some true):num (KB F) k<(Kt m F).blocks.length:=by
 have hlt:=(EJ.1 hk).1;rw [dx] at hlt;exact (EJ.1 (fW (m:=m) (EH hlt) hk)).1
theorem Zd {k:Nat}(hk:(KF m)[k]?=some true):num (KF m) k<m.trim.funcs.length:=by
 have hlt:=(EJ.1 hk).1;rw [fU] at hlt;exact (EJ.1 (fV (EH hlt) hk)).1
theorem vY (hF:m.fault.1=0){f b:Nat}{y:Block}(hf:m.funcs[f]?=some F)(hk:(KF m)[f]?=some true)(hy:F.blocks[b]?=some y)(hb:(KB F)[b]?=some true):∀x∈y.code,Qj m.funcs.length x=0∧Qj m.trim.funcs.length (Kp (KF m) x)=0∧(x.op=14→∃G,m.funcs[x.k.toNat]?=some G∧(KF m)[x.k.toNat]?=some true):=by
 intro x hx;have hM:=cL hF;have h1:=(Pp hF hf hy).2.1 x hx;have hc:=fun ho=>uT hM hf hk hy hb hx ho;refine ⟨h1,QdB h1 fun ho=>Zd (hc ho),fun ho=>?_⟩;have hlt:=(EJ.1 (hc ho)).1;rw [fU] at hlt;exact ⟨_,EH hlt,hc ho⟩
theorem vZ (hF:m.fault.1=0){f b:Nat}{y:Block}(hf:m.funcs[f]?=some F)(hy:F.blocks[b]?=some y)(hb:(KB F)[b]?=some true):QU (Kt m F).blocks.length (Mj (KB F) y.fin)=0:=by
 have hok:=iO hF hf;exact QdM (Pp hF hf hy).2.2 (fun ho=>vX (hok.yes_kept hy hb ho)) fun ho=>vX (hok.no_kept hy hb ho)
theorem wa (hF:m.fault.1=0):m.trim.fault=(0,0):=by
 have hM:=cL hF;have hl:=V4 hM;refine V0 hl.1 hl.2 fun j F' hj=>?_;obtain ⟨f,F,hf,hk,rfl,rfl⟩:=je hj;have hok:=iO hF hf;refine QdJ ?_ fun j y' hy'=>?_
 · have h1 :=P9 hF hf
   have hn:=V5 (m:=m) hok;unfold QF at h1 ⊢;show (if F.regs<0∨6<F.regs then 1 else if Qm F.params F.regs≠0 then Qm F.params F.regs else if Qm F.results F.regs≠0 then Qm F.results F.regs else if (Kt m F).blocks.length<1∨12<(Kt m F).blocks.length then 2 else if num (KF m) f=0∧(0<F.regs∨0<F.params.length∨∃t∈F.results,t.kind≠1) then 18 else 0)=(0:Int);split at h1
   · cases h1
   · next a1 =>
     rw [if_neg a1];split at h1
     · next a2=>exact absurd h1 a2
     · next a2=>
       rw [if_neg a2];split at h1
       · next a3=>exact absurd h1 a3
       · next a3=>
         rw [if_neg a3,if_neg Jo];split at h1
         · cases h1
         · split at h1
           · cases h1
           · next a5=>
             rw [if_neg];rintro ⟨h0,h2⟩;refine a5 ⟨?_,h2⟩;rcases GL f with h|h
             · exact h
             · have:=vS (pP hM) h;omega
 · obtain ⟨b,y,hy,hb,rfl,rfl⟩:=lI hy'
   have hcp:=vY hF hf hk hy hb;refine Qbb ?_ (fun x hx=>?_) (vZ hF hf hy hb)
   · have h1 :=(Pp hF hf hy).1
     unfold Qt at h1 ⊢;show (if y.regs<F.regs∨16<y.regs then 1 else if Qm y.params y.regs≠0 then Qm y.params y.regs else if num (KB F) b=0∧(y.regs≠F.regs∨y.params≠F.params) then 9 else if 40<(y.code.map (Kp (KF m))).length then 2 else 0)=(0:Int);rw [EK];split at h1
     · cases h1
     · next a1=>
       rw [if_neg a1];split at h1
       · next a2=>exact absurd h1 a2
       · next a2=>
         rw [if_neg a2];split at h1
         · cases h1
         · next a3=>
           rw [if_neg]
           · exact h1
           · rintro ⟨h0,h2⟩
             refine a3 ⟨?_,h2⟩;rcases GL b with h|h
             · exact h
             · have:=vS (lJ hok) h;omega
   · obtain ⟨z,hz,rfl⟩:=Fc.1 (show x∈y.code.map (Kp (KF m)) from hx);exact (hcp z hz).2.1
theorem QgK (h:m.runs.1=0):m.trim.runs=(0,0):=by
 (have hF:m.fault.1=0:=Fv fun hn=>by have:=congrArg Prod.fst (lG hn);omega);have hM:=cL hF;have hF':=wa hF;rw [jd (by rw [hF'])];refine vR fun j F' hj=>?_;rw [F7];obtain ⟨f,F,hf,hk,rfl,rfl⟩:=je hj;have hok:=iO hF hf;refine vQ fun j y' hy'=>?_;rw [F7];obtain ⟨b,y,hy,hb,rfl,rfl⟩:=lI hy';exact vW (f:=f) (b:=b) (e:=y.fin) (l:=y.code) (s:=Mh y) (i:=0) (i':=0) (Pp hF hf hy).2.2 (vZ hF hf hy hb) (hok.yes_kept hy hb) (hok.no_kept hy hb) (vY hF hf hk hy hb) (lO h hf hy)
end
end
section
theorem qh {α:Type}:∀{ks:List Bool}{l:List α},ks.length=l.length→(∀j<l.length,ks[j]?=some true)→pick ks l=l
 | [],[],_,_=>rfl
 | [],_::_,h,_=>by simp at h
 | _::_,[],h,_=>by simp at h
 | k::ks,x::l,h,ha=>by
   have h0:=ha 0 Js;simp at h0;subst h0;simp only [pick,if_true];rw [qh Dh fun j hj=>by have:=ha (j+1) (by simpa using hj);simpa using this]
theorem qi {ks:List Bool}:∀{k:Nat},(∀j<k,ks[j]?=some true)→num ks k=k
 | 0,_=>rfl
 | k+1,h=>by
   rw [UI (h k Jo),qi fun j hj=>h j Jo,if_pos rfl]
theorem Qi6 {e:Tail}(h:j∈OB e):num ks j∈OB (Mj ks e):=by
 unfold OB at h ⊢;show num ks j∈if e.op=1 then [(if e.op≠3 then Lf ks e.yes else e.yes).block.toNat] else if e.op=2 then [(if e.op≠3 then Lf ks e.yes else e.yes).block.toNat,(if e.op=2 then Lf ks e.no else e.no).block.toNat] else []
 by_cases h1:e.op=1
 · rw [if_pos h1] at h ⊢;rw [Fp] at h ⊢;rw [if_pos Jo,h];show _=((num ks e.yes.block.toNat:Nat):Int).toNat;rw [E5]
 · rw [if_neg h1] at h ⊢
   by_cases h2:e.op=2
   · rw [if_pos h2] at h ⊢
     rw [if_pos Jo,if_pos h2];rcases ES.1 h with rfl|h
     · refine ES.2 (.inl ?_);show _=((num ks e.yes.block.toNat:Nat):Int).toNat;rw [E5]
     · rw [Fp] at h;refine ES.2 (.inr (Fp.2 ?_));rw [h];show _=((num ks e.no.block.toNat:Nat):Int).toNat;rw [E5]
   · rw [if_neg h2] at h;cases h
section
variable {m:Module}{F:Fun}{f:Nat}
theorem V6 (hok:FOk F.blocks){b:Nat}(h:Come (M5 F.blocks) b):Come (M5 (Kt m F).blocks) (num (KB F) b):=by
 induction h with
 | zero=>exact .zero
 | @next k j hk hj ih=>
   have hkk:=(hok.keep k).2 hk
   cases hy:F.blocks[k]? with
   | none=>unfold M5 at hj;rw [hy] at hj;cases hj
   | some y=>
     rw [fJ hy] at hj;refine .next ih ?_;rw [fJ (fW (m:=m) hy hkk)];exact Qi6 (e:=y.fin) hj
theorem Qi8 (hok:FOk F.blocks)(hok':FOk (Kt m F).blocks):∀j<(Kt m F).blocks.length,(MV (Kt m F).blocks)[j]?=some true:=by
 intro j hj;obtain ⟨b,y,hy,hb,rfl,_⟩:=lI (EH hj);exact (hok'.keep _).2 (V6 hok ((hok.keep b).1 hb))
theorem Ze (hok:FOk F.blocks)(hok':FOk (Kt m F).blocks):(Kt m F).trim=Kt m F:=by
 have ha:=Qi8 hok hok'
 have e:Sr (Kt m F).blocks=(Kt m F).blocks:=by
  unfold Sr;rw [qh oT ha];refine Hl (FE fun y hy=>?_) (H7 _);have h1:=hok'.yes y hy;have h2:=hok'.no y hy
  have e1:∀t:To,0≤t.block∧t.block.toNat<(Kt m F).blocks.length→Lf (MV (Kt m F).blocks) t=t:=by
   intro t ht;have:num (MV (Kt m F).blocks) t.block.toNat=t.block.toNat:=qi fun j hj=>ha j Jo;unfold Lf;rw [this,Fb ht.1]
  show On (MV (Kt m F).blocks) y=y;unfold On
  have e2:Mj (MV (Kt m F).blocks) y.fin=y.fin:=by
   unfold Mj;by_cases h3:y.fin.op≠3
   · by_cases h4:y.fin.op=2
     · rw [if_pos h3,if_pos h4,e1 _ (h1 h3),e1 _ (h2 h4)]
     · rw [if_pos h3,if_neg h4,e1 _ (h1 h3)]
   · rw [if_neg h3,if_neg Jo]
  rw [e2]
 show ({Kt m F with blocks:=Sr (Kt m F).blocks}:Fun)=Kt m F;rw [e]
theorem V7 (hM:MOk m.funcs){k:Nat}(h:Come (Nj (m.funcs.map Fun.trim)) k):Come (Nj m.trim.funcs) (num (KF m) k):=by
 have key:=au hM.calls.lt DN
 induction h with
 | zero=>exact .zero
 | @next k j hk hj ih=>
   have hkk:(KF m)[k]?=some true:=(key k).2 hk
   cases hF:m.funcs[k]? with
   | none=>unfold Nj at hj;rw [EN,hF] at hj;cases hj
   | some F=>
     have hT:(m.funcs.map Fun.trim)[k]?=some F.trim:=(by rw [EN,hF];rfl);rw [iP hT,lh] at hj;obtain ⟨y,hy,x,hx,ho,rfl⟩:=hj;refine .next ih ?_;rw [iP (fV hF hkk),lh];refine ⟨Rs (KF m) y,Gu hy,Kp (KF m) x,Gu hx,?_,?_⟩
     · unfold Kp;rw [if_pos ho];exact ho
     · unfold Kp;rw [if_pos ho];exact E5 _
theorem QgJ (hF:m.fault.1=0):m.trim.trim=m.trim:=by
 have hM:=cL hF;have hF':=wa hF;have hM':=cL (m:=m.trim) (by rw [hF'])
 have hid:m.trim.funcs.map Fun.trim=m.trim.funcs:=by
  refine Hl (FE fun F' hF9=>?_) (H7 _);obtain ⟨j,hj⟩:=Fj.1 hF9;obtain ⟨f,F,hf,hk,rfl,rfl⟩:=je hj;exact Ze (iO hF hf) (hM'.blk _ hF9)
 have hc':LI m.trim.funcs:=hM'.call
 have ha:∀j<m.trim.funcs.length,(KV m.trim.funcs)[j]?=some true:=by
  intro j hj;obtain ⟨f,F,hf,hk,rfl,_⟩:=je (EH hj);refine (au hc'.lt hM'.one _).2 (V7 hM ?_);exact (au hM.calls.lt DN f).1 hk
 show (⟨fI (m.trim.funcs.map Fun.trim)⟩:Module)=m.trim;rw [hid];unfold fI;rw [qh oW ha]
 have e:m.trim.funcs.map (OX (KV m.trim.funcs))=m.trim.funcs:=by
  refine Hl (FE fun F' hF9=>?_) (H7 _);show ({F' with blocks:=F'.blocks.map (Rs (KV m.trim.funcs))}:Fun)=F'
  have e1:F'.blocks.map (Rs (KV m.trim.funcs))=F'.blocks:=by
   refine Hl (FE fun y hy=>?_) (H7 _);show ({y with code:=y.code.map (Kp (KV m.trim.funcs))}:Block)=y
   have e2:y.code.map (Kp (KV m.trim.funcs))=y.code:=by
    refine Hl (FE fun x hx=>?_) (H7 _);show Kp (KV m.trim.funcs) x=x;unfold Kp;by_cases ho:x.op=14
    · have h3:=hc' F' hF9 y hy x hx ho;rw [if_pos ho,qi fun j hj=>ha j Jo,Fb h3.1]
    · rw [if_neg ho]
   rw [e2]
  rw [e1]
 rw [e]
end
end
section
theorem Zf {k:Nat}:num ks k≤ks.length:=by
 unfold num;exact F3 Hg (by rw [F8];exact Nat.min_le_right _ _)
theorem wb {k:Nat}(h:ks.length≤100000):Lh (num ks k):=by
 have:=Zf (ks:=ks) (k:=k);unfold Lh;omega
section
variable {m:Module}
theorem V8 (hm:m.Short)(h:m.InR):m.trim.InR:=by
 intro F' hF';obtain ⟨j,hj⟩:=Fj.1 hF';obtain ⟨f,F,hf,hk,rfl,rfl⟩:=je hj;have hFm:=EI hf;have h1:=h F hFm;have hs:=hm.2 F hFm;have hkl:(KF m).length≤100000:=(by rw [fU];exact hm.1);have hbl:(KB F).length≤100000:=(by rw [dx];exact hs.2.2.1);refine ⟨h1.1,h1.2.1,h1.2.2.1,fun y' hy'=>?_⟩;obtain ⟨i,hi⟩:=Fj.1 hy';obtain ⟨b,y,hy,hb,rfl,rfl⟩:=lI hi;have h2:=h1.2.2.2 y (EI hy);refine ⟨h2.1,h2.2.1,fun x hx=>?_,?_⟩
 · obtain ⟨z,hz,rfl⟩:=Fc.1 (show x∈y.code.map (Kp (KF m)) from hx)
   have h3:=h2.2.2.1 z hz;unfold Kp;split
   · exact ⟨⟨h3.1.1,h3.1.2.1,h3.1.2.2.1,h3.1.2.2.2.1,wb hkl,h3.1.2.2.2.2.2⟩,h3.2⟩
   · exact h3
 · have h4:=h2.2.2.2
   have ht:∀t:To,t.InR→(Lf (KB F) t).InR:=fun t ht=>⟨wb hbl,ht.2⟩;refine ⟨h4.1,h4.2.1,?_,?_,h4.2.2.2.2⟩
   · show To.InR (if y.fin.op≠3 then Lf (KB F) y.fin.yes else y.fin.yes)
     split
     · exact ht _ h4.2.2.1
     · exact h4.2.2.1
   · show To.InR (if y.fin.op=2 then Lf (KB F) y.fin.no else y.fin.no)
     split
     · exact ht _ h4.2.2.2.1
     · exact h4.2.2.2.1
theorem Zg (hF:m.fault.1=0):(Run.all m.trim inp most pages).oc=(Run.all m inp most pages).oc:=
 (Y4 (Y3 (cL hF) (fun F hFm y hy x hx=>by
   obtain ⟨f,hf⟩:=Fj.1 hFm;obtain ⟨b,hb⟩:=Fj.1 hy;exact T0 ((Pp hF hf hb).2.1 x hx)))).1
end
end
end Go.Lir


namespace Go.Proofs.YteflkifmgnpbhaaGreat
open Go.Lir
end Go.Proofs.YteflkifmgnpbhaaGreat
namespace Go.Proofs.YteflkifmgnpbhaaGreat
open Go.Lir
attribute [local irreducible] LC.wp Q0 Qh Qd Kq Qz LO.wp Q5 Calls


def qj (n:Nat)(fr:List Int):List Bool:=(List.range n).map fun (j:Nat)=> !decide ((j:Int)∈fr)
def Xd (n i:Nat):List Int:=(List.range i).map fun j=>((n - 1 - j:Nat):Int)
theorem wc (n i:Nat):(Xd n i).length=i:=by simp [Xd]
theorem lR {n i:Nat}{x:Int}(hi:i≤n):x∈Xd n i↔(n:Int) - i≤x∧x<n:=by
 simp only [Xd,Fc,Fz];constructor
 · rintro ⟨j,hj,rfl⟩;omega
 · rintro ⟨h1,h2⟩;exact ⟨n - 1 - x.toNat,Jo,Jo⟩
theorem we {n i:Nat}(hi:i≤n):(Xd n i).Nodup:=by
 unfold Xd List.Nodup;rw [Ip];refine (List.pairwise_lt_range (n:=i)).imp_of_mem ?_;intro a b ha hb h e;simp only [Fz] at ha hb;omega

def V9 (ws:List Int)(k:Nat):List Int:=ws.take (k*16)++(List.replicate 16 0++ws.drop (k*16+16))
theorem wg {k n:Nat}(h:ws.length=n*16)(hk:k<n):(V9 ws k).length=n*16:=by
 simp [V9];omega

structure PoolOk (n:Nat) (ws fr:List Int):Prop where
 len:ws.length=n*16
 nd:fr.Nodup
 rng:∀x∈fr,0≤x∧x<n
 le:n≤64
theorem PoolOk.store {n i:Nat}{fr:List Int}{x:Int}(h:PoolOk n ws fr):PoolOk n (ws.set i x) fr:=⟨by rw [Fe];exact h.len,h.nd,h.rng,h.le⟩
theorem PoolOk.take {n k:Nat}{fr:List Int}(h:PoolOk n ws (fr++[(k:Int)])):PoolOk n (V9 ws k) fr∧k<n∧(k:Int)∉fr:=by
 have hk:=h.rng k Js;obtain ⟨h1,_,h3⟩:=GI.1 h.nd;exact ⟨⟨wg h.len Jo,h1,fun x hx=>h.rng x Du,h.le⟩,Jo,fun hm=>h3 _ hm _ Js rfl⟩
theorem PoolOk.give {n k:Nat}{fr:List Int}(h:PoolOk n ws fr)(hk:k<n)(hn:(k:Int)∉fr):PoolOk n ws (fr++[(k:Int)]):=
 ⟨h.len,by rw [GI];exact ⟨h.nd,by simp,fun a ha b hb e=>by simp at hb;subst hb;subst e;exact hn ha⟩,fun x hx=>by
   rcases E3.1 hx with hx|hx
   · exact h.rng x hx
   · simp at hx;omega,h.le⟩
theorem QfG {n:Nat}(h:n≤64):PoolOk n (List.replicate (n*16) 0) (Xd n n):=
 ⟨by simp,we (E7 n),fun x hx=>by have:=(lR (E7 n)).1 hx;omega,h⟩


structure PoolR (H:Kk) (p:Value) (F:Nat→Prop) (n:Nat) (ws fr:List Int) (b:Nat) (vw vl vt:Value) (Fw Fl Ft:Nat→Prop):Prop where
 hp:p= .pointer (some ⟨b,0,none⟩)
 blk:Lg H b 148 [vw,vl,vt]
 sw:Sl H 2 1 vw Fw (ws.map KQ)
 sl:Sl H 3 1 vl Fl (fr.map KQ)
 st:Sl H 4 1 vt Ft ((qj n fr).map QG)
 nw:¬Fw b
 nl:¬Fl b
 nt:¬Ft b
 wl:∀x,Fw x→¬Fl x
 wt:∀x,Fw x→¬Ft x
 lt:∀x,Fl x→¬Ft x
 hF:∀x,F x↔x=b∨Fw x∨Fl x∨Ft x
 ok:PoolOk n ws fr
def NR (H:Kk)(p:Value)(F:Nat→Prop)(n:Nat)(ws fr:List Int):Prop:=∃b vw vl vt Fw Fl Ft,PoolR H p F n ws fr b vw vl vt Fw Fl Ft
theorem NR.fr {p:Value}{F G:Nat→Prop}{n:Nat}{ws fr:List Int}{w w':World}(h:NR w.heap p F n ws fr)(hf:Fr G w w')(hn:∀b,F b→¬G b):NR w'.heap p F n ws fr:=by
 obtain ⟨b,vw,vl,vt,Fw,Fl,Ft,h⟩:=h
 exact ⟨b,vw,vl,vt,Fw,Fl,Ft,h.hp,h.blk.fr hf (hn b ((h.hF b).2 (.inl rfl))),h.sw.fr hf (fun x hx=>hn x ((h.hF x).2 (.inr (.inl hx)))),h.sl.fr hf (fun x hx=>hn x ((h.hF x).2 (.inr (.inr (.inl hx))))),
  h.st.fr hf (fun x hx=>hn x ((h.hF x).2 (.inr (.inr (.inr hx))))),h.nw,h.nl,h.nt,h.wl,h.wt,h.lt,h.hF,h.ok⟩
theorem NR.lt {p:Value}{F:Nat→Prop}{n:Nat}{fr:List Int}{H:Kk}(h:NR H p F n ws fr):∀b,F b→b<H.size:=by
 obtain ⟨b,vw,vl,vt,Fw,Fl,Ft,h⟩:=h;intro x hx;rcases (h.hF x).1 hx with rfl|hx|hx|hx
 · exact h.blk.lt
 · exact h.sw.lt x hx
 · exact h.sl.lt x hx
 · exact h.st.lt x hx

end Go.Proofs.YteflkifmgnpbhaaGreat

namespace Go.Proofs.YteflkifmgnpbhaaGreat
open Go.Lir
attribute [local irreducible] LC.wp Q0 Qh Qd Kq Qz LO.wp Q5 Calls
section

end
section

structure PoolS where
 n:Nat
 ws:List Int
 fr:List Int
def PoolS.Ok (s:PoolS):Prop:=PoolOk s.n s.ws s.fr
def PoolS.mk0 (n:Nat):PoolS:=⟨n,List.replicate (n*16) 0,Xd n n⟩
def PoolS.top (s:PoolS):Int:=s.fr.getLastD (-1)
def PoolS.take (s:PoolS):PoolS:=if s.fr=[] then s else ⟨s.n,V9 s.ws s.top.toNat,s.fr.dropLast⟩
def PoolS.can (s:PoolS)(k:Int):Bool:=decide (0≤k∧k<s.n∧k∉s.fr)
def PoolS.give (s:PoolS)(k:Int):PoolS:=if s.can k then ⟨s.n,s.ws,s.fr++[k]⟩ else s
def PoolS.isIn (s:PoolS)(i:Int):Bool:=decide (0≤i∧i<((s.n*16:Nat):Int))
def PoolS.store (s:PoolS)(i x:Int):PoolS:=if s.isIn i then ⟨s.n,s.ws.set i.toNat x,s.fr⟩ else s
def PoolS.word (s:PoolS)(i:Int):Int:=if s.isIn i then s.ws.getD i.toNat 0 else 0

theorem PoolS.ok_new {n:Nat}(h:n≤64):(PoolS.mk0 n).Ok:=QfG h
theorem PoolS.split {s:PoolS}(h:s.Ok):(s.fr=[]∧s.top=-1∧s.take=s)∨∃(k:Nat) (fr:List Int),s=⟨s.n,s.ws,fr++[(k:Int)]⟩∧s.top=k∧s.take=⟨s.n,V9 s.ws k,fr⟩:=by
 obtain ⟨n,ws,fr⟩:=s;rcases H4 fr with rfl|⟨fr,k,rfl⟩
 · exact .inl ⟨rfl,rfl,rfl⟩
 · simp only [List.concat_eq_append] at h ⊢
   have hk:=h.rng k Js;refine .inr ⟨k.toNat,fr,by rw [Fb hk.1],?_,?_⟩
   · simp [PoolS.top];omega
   · simp [PoolS.take,PoolS.top]
abbrev II:=@PoolS.split
theorem PoolS.ok_take {s:PoolS}(h:s.Ok):s.take.Ok:=by
 rcases II h with ⟨_,_,e⟩|⟨k,fr,e,_,e2⟩
 · rw [e];exact h
 · rw [e2];rw [e] at h;exact (PoolOk.take h).1
theorem PoolS.ok_give {s:PoolS}(h:s.Ok)(k:Int):(s.give k).Ok:=by
 unfold PoolS.give PoolS.can;split
 · rename_i hc;have hc:=of_decide_eq_true hc;obtain ⟨k,rfl⟩:=HQ hc.1;exact PoolOk.give (n:=s.n) h Jo hc.2.2
 · exact h
theorem PoolS.ok_store {s:PoolS}(h:s.Ok)(i x:Int):(s.store i x).Ok:=by
 unfold PoolS.store;split
 · exact PoolOk.store h
 · exact h
theorem PoolS.n_take {s:PoolS}:s.take.n=s.n:=by unfold PoolS.take;split<;>rfl
abbrev Je:=@PoolS.n_take
theorem PoolS.n_give {s:PoolS}{k:Int}:(s.give k).n=s.n:=by unfold PoolS.give;split<;>rfl
abbrev Jf:=@PoolS.n_give
theorem PoolS.n_store {s:PoolS}{i x:Int}:(s.store i x).n=s.n:=by unfold PoolS.store;split<;>rfl
abbrev HO:=@PoolS.n_store
theorem PoolS.fr_store {s:PoolS}{i x:Int}:(s.store i x).fr=s.fr:=by unfold PoolS.store;split<;>rfl

abbrev HG:=@PoolS.fr_store
def jn (p:Value)(s:PoolS):Res where
 A H F:=NR H p F s.n s.ws s.fr
 loc:=by
  rintro H H' F ⟨b,vw,vl,vt,Fw,Fl,Ft,h⟩ hs;have hF:=h.hF
  exact ⟨b,vw,vl,vt,Fw,Fl,Ft,h.hp,h.blk.of_same (hs b ((hF b).2 (.inl rfl)) h.blk.lt),h.sw.of_same (fun x hx=>hs x ((hF x).2 (.inr (.inl hx)))),h.sl.of_same (fun x hx=>hs x ((hF x).2 (.inr (.inr (.inl hx))))),
   h.st.of_same (fun x hx=>hs x ((hF x).2 (.inr (.inr (.inr hx))))),h.nw,h.nl,h.nt,h.wl,h.wt,h.lt,h.hF,h.ok⟩
 lt:=NR.lt
 ext:=by
  rintro H F G ⟨b,vw,vl,vt,Fw,Fl,Ft,h⟩ hs;exact ⟨b,vw,vl,vt,Fw,Fl,Ft,h.hp,h.blk,h.sw,h.sl,h.st,h.nw,h.nl,h.nt,h.wl,h.wt,h.lt,fun x=>(hs x).symm.trans (h.hF x),h.ok⟩
variable {cx:Cx}{w:World}{L:List Res}{i:Nat}{p:Value}{s:PoolS}
end
end Go.Proofs.YteflkifmgnpbhaaGreat
namespace Go.Proofs.YteflkifmgnpbhaaGreat
open Go.Lir
def fZ (ws:List Int)(k:Nat):Nat→List Int
 | 0=>ws
 | i+1=>(fZ ws k i).set (k*16+i) 0
theorem lS (ws:List Int)(k:Nat):∀i,(fZ ws k i).length=ws.length
 | 0=>rfl
 | i+1=>by rw [fZ,Fe,lS ws k i]
theorem qk (ws:List Int)(k:Nat):∀(i j:Nat),k*16+i≤ws.length→(fZ ws k i).getD j 0=if k*16≤j∧j<k*16+i then 0 else ws.getD j 0
 | 0,j,_=>by rw [if_neg Jo];rfl
 | i +1,j,h=>by
   rw [fZ,mP (by rw [lS];omega),qk ws k i j Jo];by_cases h1:k*16+i=j
   · rw [if_pos h1,if_pos Jo]
   · rw [if_neg h1]
     by_cases h2:k*16≤j∧j<k*16+i
     · rw [if_pos h2,if_pos Jo]
     · rw [if_neg h2,if_neg Jo]
theorem QiN {k n:Nat}(h:ws.length=n*16)(hk:k<n):fZ ws k 16=V9 ws k:=by
 refine Tj 0 (by rw [lS,wg h hk,h]) fun j hj=>?_;rw [lS] at hj;rw [qk ws k 16 j Jo];simp only [V9,EL];have hl:(ws.take (k*16)).length=k*16:=DG;by_cases h1:j<k*16
 · rw [if_neg Jo,ER Jo,FH h1]
 · rw [EV Jo,hl]
   by_cases h2:j<k*16+16
   · rw [if_pos Jo,ER De,FW,if_pos Jo];rfl
   · rw [if_neg Jo,EV De,GN];congr 2;simp;omega

end Go.Proofs.YteflkifmgnpbhaaGreat
namespace Go.Proofs.YteflkifmgnpbhaaGreat
open Go.Lir
attribute [local irreducible] LC.wp Q0 Qh Qd Kq Qz LO.wp Q5 Calls
section

def Lr (s:PoolS)(tk:List Int):Prop:=tk.Nodup∧∀k,k∈tk↔s.can k=true
theorem KS {s:PoolS}{k:Int}:s.can k=true↔0≤k∧k<s.n∧k∉s.fr:=decide_eq_true_iff
theorem Lr.len {s:PoolS}(h:Lr s tk)(ok:s.Ok):tk.length+s.fr.length=s.n:=by
 have hnd:(tk++s.fr).Nodup:=GI.2 ⟨h.1,ok.nd,fun a ha b hb e=>by subst e;exact (KS.1 ((h.2 a).1 ha)).2.2 hb⟩
 have h1:=eU (b:=Xd s.n s.n) hnd fun x hx=>(lR (E7 _)).2 (by
  rcases E3.1 hx with hx|hx
  · have:=KS.1 ((h.2 x).1 hx);omega
  · have:=ok.rng x hx;omega)
 have h2:=eU (b:=tk++s.fr) (we (E7 s.n)) fun x hx=>by
  have:=(lR (E7 _)).1 hx;by_cases hm:x∈s.fr
  · exact List.mem_append_right _ hm
  · exact H9 _ ((h.2 x).2 (KS.2 ⟨Jo,Jo,hm⟩))
 rw [wc,EM] at*;omega
theorem Lr.new {n:Nat}:Lr (PoolS.mk0 n) []:=⟨IL,fun k=>⟨fun h=>absurd h Js,fun h=>by
 obtain ⟨h1,h2,h3⟩:=KS.1 h;exact absurd ((lR (E7 n)).2 (by simp only [PoolS.mk0] at h2;omega)) h3⟩⟩
theorem Lr.take {s:PoolS}(h:Lr s tk)(ok:s.Ok){k:Nat}{fr:List Int}(h1:s=⟨s.n,s.ws,fr++[(k:Int)]⟩)(h2:s.top=k)(h3:s.take=⟨s.n,V9 s.ws k,fr⟩):s.top∉tk∧k<s.n∧Lr s.take (tk++[s.top]):=by
 have ok':PoolOk s.n s.ws (fr++[(k:Int)]):=(by rw [h1] at ok;exact ok);obtain ⟨_,hk,hkn⟩:=ok'.take;have hfr:s.fr=fr++[(k:Int)]:=(by rw [h1]);have hnot:(k:Int)∉tk:=fun hm=>(KS.1 ((h.2 k).1 hm)).2.2 (by rw [hfr];simp);refine ⟨by rw [h2];exact hnot,hk,?_,fun x=>?_⟩
 · rw [h2];exact GI.2 ⟨h.1,by simp,fun a ha b hb e=>by simp at hb;subst hb;subst e;exact hnot ha⟩
 · rw [h2,E3,Fp,h.2 x,KS,KS,h3,hfr,E3,Fp]
   constructor
   · rintro (⟨h1,h2,h3⟩|rfl)
     · exact ⟨h1,h2,fun h=>h3 (.inl h)⟩
     · exact ⟨Jo,by simpa using hk,hkn⟩
   · rintro ⟨h1,h2,h3⟩
     by_cases hx:x=k
     · exact .inr hx
     · exact .inl ⟨h1,h2,fun h=>h.elim h3 hx⟩
theorem Lr.give {s:PoolS}(h:Lr s tk)(k:Int):Lr (s.give k) (tk.filter fun y=>decide (y≠k)):=by
 refine ⟨h.1.filter _,fun x=>?_⟩;rw [GH,h.2 x,KS,KS,decide_eq_true_iff,Jf];unfold PoolS.give;split
 · simp only [E3,Fp,not_or]
   constructor
   · rintro ⟨⟨h1,h2,h3⟩,h4⟩;exact ⟨h1,h2,h3,h4⟩
   · rintro ⟨h1,h2,h3,h4⟩;exact ⟨⟨h1,h2,h3⟩,h4⟩
 · rename_i hc
   constructor
   · rintro ⟨h1,_⟩;exact h1
   · intro h1;exact ⟨h1,fun e=>hc (by subst e;exact KS.2 h1)⟩
theorem Lr.store {s:PoolS}(h:Lr s tk)(k x:Int):Lr (s.store k x) tk:=⟨h.1,fun y=>by rw [h.2 y,KS,KS,HO,HG]⟩
theorem Lr.perm {s:PoolS}{l':List Int}(h:Lr s l)(hp:l.Perm l'):Lr s l':=⟨hp.nodup_iff.1 h.1,fun k=>by rw [←h.2 k];exact hp.mem_iff.symm⟩
def PoolS.gives (s:PoolS)(l:List Int):PoolS:=l.foldl PoolS.give s
theorem PoolS.n_gives:∀{s:PoolS},(s.gives l).n=s.n:=by
 induction l with
 | nil=>intro s;rfl
 | cons k l ih=>intro s;exact (ih (s:=s.give k)).trans Jf
abbrev IZ:=@PoolS.n_gives
theorem PoolS.ok_gives:∀{s:PoolS},s.Ok→(s.gives l).Ok:=by
 induction l with
 | nil=>intro s h;exact h
 | cons k l ih=>intro s h;exact ih (s:=s.give k) (PoolS.ok_give h k)
theorem Lr.gives {rest:List Int}:∀{s:PoolS},Lr s (l++rest)→Lr (s.gives l) rest:=by
 induction l with
 | nil=>intro s h;exact h
 | cons k l ih=>
   intro s h;have h1:=h.give k;have hnd:=h.1;rw [Gz,GG] at hnd
   have e:((k::l++rest).filter fun y=>decide (y≠k))=l++rest:=by
    rw [Gz,I0 Js];exact List.filter_eq_self.2 fun y hy=>decide_eq_true fun e=>hnd.1 (e ▸ hy)
   rw [e] at h1;exact ih h1
theorem wh {α:Type}:∀{l:List α}{k:Nat}{x:α},l[k]?=some x→l.Perm (x::l.eraseIdx k)
 | [],_,_,h=>by simp at h
 | y::l,0,x,h=>by simp at h;subst h;exact .refl _
 | y::l,k+1,x,h=>((wh (l:=l) Dh).cons y).trans (.swap _ _ _)
theorem wi {α:Type}:∀{l:List α}{k:Nat}{x:α},k<l.length→(l.set k x).Perm (x::l.eraseIdx k)
 | [],_,_,h=>by simp at h
 | y::l,0,x,h=> .refl _
 | y::l,k+1,x,h=>((wi (l:=l) Dh).cons y).trans (.swap _ _ _)
end
section

structure Reg where
 there:Bool
 pages:List Int
 used:Int
def Reg.none:Reg:=⟨false,[],0⟩
structure EstS where
 p:PoolS
 rs:List Reg
def EstS.reg (s:EstS)(k:Int):Reg:=if 0≤k then s.rs.getD k.toNat Reg.none else Reg.none
def EstS.has (s:EstS)(k:Int):Bool:=(s.reg k).there
def EstS.all (s:EstS):List Int:=s.rs.flatMap Reg.pages
structure EstS.Ok (s:EstS):Prop where
 len:s.rs.length=16
 off:∀r∈s.rs,r.there=false→r=Reg.none
 used:∀r∈s.rs,0≤r.used∧r.used≤16
 tk:Lr s.p s.all
 pok:s.p.Ok
 n64:s.p.n≤64
def EstS.low (s:EstS):Nat:=s.rs.findIdx fun r=> !r.there
def EstS.open (s:EstS):EstS:=if s.low<16 then ⟨s.p,s.rs.set s.low ⟨true,[],0⟩⟩ else s
def EstS.openV (s:EstS):Int:=if s.low<16 then s.low else -1
def EstS.shut (s:EstS)(k:Int):EstS:=if s.has k then ⟨s.p.gives (s.reg k).pages,s.rs.set k.toNat Reg.none⟩ else s
def Reg.more (r:Reg)(n:Int):Bool:=decide (r.pages=[]∨16<r.used+n)
def Reg.last (r:Reg):Int:=r.pages.getLastD 0
def EstS.code (s:EstS)(k n:Int):Int:=if !s.has k then 15 else if n<1∨16<n then 1 else if (s.reg k).more n∧s.p.fr=[] then 14 else 0
def Reg.grow (r:Reg)(p:Int):Reg:=⟨r.there,r.pages++[p],0⟩
def Reg.use (r:Reg)(n:Int):Reg:=⟨r.there,r.pages,r.used+n⟩
def EstS.regTo (s:EstS)(k n:Int):Reg:=if (s.reg k).more n then (s.reg k).grow s.p.top else s.reg k
def EstS.get (s:EstS)(k n:Int):EstS:=if s.code k n=0 then ⟨if (s.reg k).more n then s.p.take else s.p,s.rs.set k.toNat ((s.regTo k n).use n)⟩ else s
def EstS.getV (s:EstS)(k n:Int):Int:=if s.code k n=0 then (s.regTo k n).last*16+(s.regTo k n).used else 0
def EstS.count (s:EstS):Int:=(s.rs.countP fun r=>r.there:Nat)
def EstS.mk0 (n:Nat):EstS:=⟨PoolS.mk0 n,List.replicate 16 Reg.none⟩

theorem EstS.reg_at {s:EstS}(h:s.Ok){k:Nat}(hk:k<16):s.rs[k]?=some (s.reg k):=by
 have:=h.len;unfold EstS.reg;rw [if_pos Jo,show (k:Int).toNat=k by omega];exact Ti Jo
abbrev Gy:=@EstS.reg_at
theorem EstS.reg_out {s:EstS}(h:s.Ok){k:Int}(hk:k<0∨16≤k):s.reg k=Reg.none:=by
 have:=h.len;unfold EstS.reg;split
 · rw [EL,Fk Jo];rfl
 · rfl
theorem EstS.has_in {s:EstS}(h:s.Ok){k:Int}(hk:s.has k=true):∃m:Nat,k=m∧m<16:=by
 by_cases hc:k<0∨16≤k
 · unfold EstS.has at hk;rw [EstS.reg_out h hc] at hk;cases hk
 · exact ⟨k.toNat,Jo,Jo⟩
abbrev Jy:=@EstS.has_in
theorem wj {s:EstS}{k:Nat}{r:Reg}(hr:s.rs[k]?=some r):s.all.Perm (r.pages++(s.rs.eraseIdx k).flatMap Reg.pages):=by
 have:=(wh hr).flatMap_right Reg.pages;rw [FR] at this;exact this
theorem wm {rs:List Reg}{k:Nat}{r':Reg}(hk:k<rs.length):((rs.set k r').flatMap Reg.pages).Perm (r'.pages++(rs.eraseIdx k).flatMap Reg.pages):=by
 have:=(wi (x:=r') hk).flatMap_right Reg.pages
 simpa [FR] using this
theorem NS {l:List α}{k:Nat}{x y:α}(h:y∈l.set k x):y=x∨y∈l:=(HJ h).symm
theorem EstS.ok_set {s:EstS}(h:s.Ok){p:PoolS}{k:Nat}(hk:k<16){r':Reg}(h1:r'.there=false→r'=Reg.none)(h2:0≤r'.used∧r'.used≤16)(h3:Lr p (r'.pages++(s.rs.eraseIdx k).flatMap Reg.pages))(h4:p.Ok)(h5:p.n=s.p.n):(⟨p,s.rs.set k r'⟩:EstS).Ok:=by
 have hl:=h.len;refine ⟨by simpa using hl,fun r hr=>?_,fun r hr=>?_,h3.perm (wm Jo).symm,h4,by rw [h5];exact h.n64⟩
 · rcases NS hr with rfl|hr
   · exact h1
   · exact h.off r hr
 · rcases NS hr with rfl|hr
   · exact h2
   · exact h.used r hr
abbrev Ie:=@EstS.ok_set
theorem EstS.tk_at {s:EstS}(h:s.Ok){k:Nat}(hk:k<16):Lr s.p ((s.reg k).pages++(s.rs.eraseIdx k).flatMap Reg.pages):=h.tk.perm (wj (Gy h hk))
abbrev HH:=@EstS.tk_at
theorem EstS.ok_new {n:Nat}(hn:n≤64):(EstS.mk0 n).Ok:=
 ⟨by simp [EstS.mk0],fun r hr _=>Gm hr,fun r hr=>by rw [Gm hr];simp [Reg.none],by
   have:(EstS.mk0 n).all=[]:=(by simp [EstS.all,EstS.mk0,Reg.none,List.flatMap_replicate]);rw [this];exact Lr.new,PoolS.ok_new hn,hn⟩

theorem EstS.low_le {s:EstS}(h:s.Ok):s.low≤16:=by have:=List.findIdx_le_length (xs:=s.rs) (p:=fun r=> !r.there);rw [h.len] at this;exact this
theorem EstS.low_off {s:EstS}(h:s.Ok)(hl:s.low<16):s.reg s.low=Reg.none:=by
 have h1:=Gy h hl;have h2:s.low<s.rs.length:=(by rw [h.len];exact hl);have h3:=List.findIdx_getElem (xs:=s.rs) (p:=fun r:Reg=> !r.there) (w:=h2);rw [EH h2] at h1;simp only [E0] at h1;have h4:(s.rs[s.low]'h2).there=false:=(by have h5:(!(s.rs[s.low]'h2).there)=true:=h3;simpa using h5);rw [←h1];exact h.off _ (Gk h2) h4
abbrev Ix:=@EstS.low_off
theorem EstS.ok_open {s:EstS}(h:s.Ok):s.open.Ok:=by
 unfold EstS.open;split
 · rename_i hl;have:=HH h hl;rw [Ix h hl] at this;exact Ie h hl (fun hf=>by cases hf) ⟨IH _,by simp⟩ this h.pok rfl
 · exact h
theorem EstS.ok_shut {s:EstS}(h:s.Ok)(k:Int):(s.shut k).Ok:=by
 unfold EstS.shut;split
 · rename_i hk;obtain ⟨m,rfl,hm⟩:=Jy h hk;exact Ie h (show (m:Int).toNat<16 by omega) (fun _=>rfl) ⟨IH _,by simp [Reg.none]⟩ (by rw [show (m:Int).toNat=m by omega];exact (HH h hm).gives) (PoolS.ok_gives h.pok) IZ
 · exact h
theorem EstS.code_0 {s:EstS}{k n:Int}(hc:s.code k n=0):s.has k=true∧1≤n∧n≤16∧¬((s.reg k).more n=true∧s.p.fr=[]):=by
 unfold EstS.code at hc;split at hc
 · cases hc
 · rename_i h1
   split at hc
   · cases hc
   · split at hc
     · cases hc
     · rename_i h2 h3;exact ⟨by simpa using h1,Jo,Jo,h3⟩
abbrev Jz:=@EstS.code_0
theorem Reg.more_f {r:Reg}{n:Int}(h:¬r.more n=true):r.pages≠[]∧r.used+n≤16:=by
 unfold Reg.more at h;rw [decide_eq_true_iff] at h;exact ⟨fun e=>h (.inl e),Jo⟩
abbrev JL:=@Reg.more_f
theorem EstS.ok_get {s:EstS}(h:s.Ok)(k n:Int):(s.get k n).Ok:=by
 unfold EstS.get;split
 · rename_i hc
   obtain ⟨h1,h2,h3,h4⟩:=Jz hc;obtain ⟨m,rfl,hm⟩:=Jy h h1;rw [show (m:Int).toNat=m by omega];have hth:(s.reg m).there=true:=h1;have hu:=h.used _ (EI (Gy h hm));unfold EstS.regTo;by_cases hmo:(s.reg m).more n=true
   · rw [if_pos hmo,if_pos hmo]
     rcases II h.pok with ⟨e,_⟩|⟨kk,fr,e1,e2,e3⟩
     · exact absurd ⟨hmo,e⟩ h4
     · obtain ⟨_,_,h5⟩:=(HH h hm).take h.pok e1 e2 e3;refine Ie h hm (fun hf=>by simp [Reg.use,Reg.grow,hth] at hf) ⟨by simp [Reg.use,Reg.grow];omega,by simp [Reg.use,Reg.grow];omega⟩ ?_ (PoolS.ok_take h.pok) Je;simp only [Reg.use,Reg.grow];refine h5.perm ?_;rw [FX,FX];exact (H5).append_left _
   · rw [if_neg hmo,if_neg hmo];obtain ⟨_,h6⟩:=JL hmo;exact Ie h hm (fun hf=>by simp [Reg.use,hth] at hf) ⟨by simp [Reg.use];omega,by simp [Reg.use];omega⟩ (HH h hm) h.pok rfl
 · exact h

structure RegV where
 there:Bool
 pv:Value
 pages:List Int
 used:Int
def RegV.reg (r:RegV):Reg:=⟨r.there,r.pages,r.used⟩
def RegV.cells (r:RegV):List Value:=[.bool r.there,r.pv, .int .i64 r.used]
def RegV.res (r:RegV):Res:=sl 3 1 r.pv (r.pages.map KQ)
def RegV.nil:RegV:=⟨false, .slice none 0 0,[],0⟩
def jo (rv:List RegV):List Value:=(rv.map RegV.cells).flatten
structure EstO (e:Value) (s:EstS) (b:Nat) (rv:List RegV):Prop where
 he:e= .pointer (some ⟨b,0,none⟩)
 hr:rv.map RegV.reg=s.rs
 ok:s.Ok
def ql (e:Value)(s:EstS):Res:=Res.ex fun x:Nat×Value×List RegV=>Res.pure (EstO e s x.1 x.2.2) (P6 [blk x.1 73 (x.2.1::jo x.2.2),jn x.2.1 s.p,Lb RegV.res x.2.2])
variable {cx:Cx}{w:World}{L:List Res}{i:Nat}{e:Value}{s:EstS}
theorem EstO.len {b:Nat}{rv:List RegV}(h:EstO e s b rv):rv.length=16:=by have:=congrArg List.length h.hr;rw [EK,h.ok.len] at this;exact this
theorem EstO.at_ {b:Nat}{rv:List RegV}(h:EstO e s b rv){k:Nat}(hk:k<16):∃r,rv[k]?=some r∧s.reg k=r.reg:=by
 have hl:=h.len;refine ⟨rv[k]' Dc,EH Jo,?_⟩;have:=Gy h.ok hk;rw [←h.hr,EN,EH Jo] at this
 simpa using this.symm
theorem EstO.set {b:Nat}{rv:List RegV}(h:EstO e s b rv){s':EstS}{k:Nat}{r':RegV}(hs:s'.rs=s.rs.set k r'.reg)(ok:s'.Ok):EstO e s' b (rv.set k r'):=⟨h.he,by rw [F4,h.hr,hs],ok⟩
theorem EstS.used_rng {s:EstS}(h:s.Ok){k:Nat}(hk:k<16):0≤(s.reg k).used∧(s.reg k).used≤16:=h.used _ (EI (Gy h hk))
abbrev HP:=@EstS.used_rng
end
section
variable {cx:Cx}{w:World}{L:List Res}{i:Nat}{e:Value}{s:EstS}

theorem EstS.shut_yes {s:EstS}(hk:s.has m=true):s.shut m=⟨s.p.gives (s.reg m).pages,s.rs.set m Reg.none⟩:=by unfold EstS.shut;rw [if_pos hk,E5]
theorem EstS.shut_no {s:EstS}{k:Int}(hk:s.has k=false):s.shut k=s:=by unfold EstS.shut;rw [hk,if_neg Js]
theorem RegV.more_iff {r:RegV}{n:Int}:r.reg.more n=true↔(r.pages=[]∨16<r.used+n):=decide_eq_true_iff
theorem set_set {rv:List RegV}{r r':RegV}:(rv.set m r).set m r'=rv.set m r':=Hv ..
theorem big_nil:∀(n:Nat){cx:Cx}{w:World}{L:List Res},St cx w L→St cx w (Lb RegV.res (List.replicate n RegV.nil)::L)
 | 0,_,_,_,h=>h.emp (r:=emp) fun _ h=>h
 | n+1,_,_,_,h=>by
   have h1:=(big_nil n h).nil (T:=3) (es:=1);exact Ho (r:=RegV.res RegV.nil) h1
end
end Go.Proofs.YteflkifmgnpbhaaGreat
namespace Go.Proofs.YteflkifmgnpbhaaGreat
open Go.Lir
structure RFrm where
 f:Nat
 b:Nat
 i:Nat
 vals:List Int
structure RS where
 e:EstS
 g:RFrm
 st:List RFrm
 inp:List Int
 out:List Int
 fuel:Nat
inductive RStp where
 | go (s:RS)
 | halt (e:Int)
 | done (l:List Int)
 | crash
def N7 {α:Type}(x:Option α)(f:α→RStp):RStp:=match x with
 | none=> .crash
 | some a=>f a
theorem Ot {x:Option α}{f:α→RStp}{a:α}(h:x=some a):N7 x f=f a:=by rw [h];rfl
def RFrm.val (g:RFrm)(k:Int):Option Int:=if k<0 then none else g.vals[k.toNat]?
def RFrm.args (g:RFrm):List Int→Option (List Int)
 | []=>some []
 | k::l=>match g.val k,g.args l with
   | some v,some vs=>some (v::vs)
   | _,_=>none
def RS.put (s:RS)(vs:List Int):RS:=⟨s.e,⟨s.g.f,s.g.b,s.g.i,s.g.vals++vs⟩,s.st,s.inp,s.out,s.fuel⟩
def RS.es (s:RS)(e:EstS):RS:=⟨e,s.g,s.st,s.inp,s.out,s.fuel⟩
def RS.fr (s:RS)(g:RFrm):RS:=⟨s.e,g,s.st,s.inp,s.out,s.fuel⟩
def EstS.word (s:EstS)(i:Int):Int:=s.p.word i
def EstS.store (s:EstS)(i x:Int):EstS:=⟨s.p.store i x,s.rs⟩
def EstS.storesA (s:EstS)(at_:Int)(k:Nat):List Int→EstS
 | []=>s
 | v::l=>(s.store (wr (at_+k)) v).storesA at_ (k+1) l
def EstS.stores (s:EstS)(at_:Int)(l:List Int):EstS:=s.storesA at_ 0 l
def RS.gotR (s:RS)(r n:Int)(k:EstS→Int→RStp):RStp:=if s.e.code r n=14 then .halt 6 else k (s.e.get r n) (s.e.getV r n)
def RS.atR (s:RS)(a k:Int)(c:Int→RStp):RStp:=if k<0∨s.e.word a≤k then .halt 2 else c (wr (wr (a+1)+k))
def RS.inR (s:RS):RStp:=match s.inp with
 | []=> .halt 4
 | n::r=> .go ((⟨s.e,s.g,s.st,r,s.out,s.fuel⟩:RS).put [n])
def RS.outR (s:RS)(n:Int):RStp:=if s.out.length=2000 then .halt 8 else .go ⟨s.e,s.g,s.st,s.inp,s.out++[n],s.fuel⟩
def RS.callR (s:RS)(k:Int)(vs:List Int):RStp:=if s.st.length+1=40 then .halt 5 else .go ⟨s.e,⟨k.toNat,0,0,vs⟩,s.g::s.st,s.inp,s.out,s.fuel⟩
def RS.ins (m:Module)(s:RS)(x:Ins):RStp:=
 if x.op=1 then .go (s.put [x.n])
 else if x.op=2 then N7 (s.g.val x.a) fun a=>N7 (s.g.val x.b) fun b=>if (Lv x.k a b).2=false then .halt 1 else .go (s.put [(Lv x.k a b).1])
 else if x.op=3 then (if s.e.openV<0 then .halt 6 else .go ((s.es s.e.open).put [s.e.openV]))
 else if x.op=4 then N7 (s.g.val x.a) fun a=> .go (s.es (s.e.shut a))
 else if x.op=5 then N7 (s.g.val x.a) fun a=>N7 (s.g.args x.args) fun l=>s.gotR a (max (x.args.length:Int) 1) fun e at_=> .go ((s.es (e.stores at_ l)).put [at_])
 else if x.op=6 then N7 (s.g.val x.a) fun a=> .go (s.put [s.e.word (wr (a+x.k))])
 else if x.op=7 then N7 (s.g.val x.a) fun a=>N7 (s.g.val x.b) fun b=> .go (s.es (s.e.store (wr (a+x.k)) b))
 else if x.op=8 then N7 (s.g.val x.a) fun a=>N7 (s.g.val x.b) fun n=>if n<0∨15<n then .halt 3 else s.gotR a (1+n) fun e at_=> .go ((s.es (e.store at_ n)).put [at_])
 else if x.op=9 then N7 (s.g.val x.a) fun a=>N7 (s.g.val x.b) fun k=>s.atR a k fun q=> .go (s.put [s.e.word q])
 else if x.op=10 then N7 (s.g.val x.a) fun a=>N7 (s.g.val x.b) fun k=>N7 (s.g.val x.c) fun c=>s.atR a k fun q=> .go (s.es (s.e.store q c))
 else if x.op=11 then N7 (s.g.val x.a) fun a=> .go (s.put [s.e.word a])
 else if x.op=12 then s.inR
 else if x.op=13 then N7 (s.g.val x.a) fun n=>s.outR n
 else N7 (s.g.args x.args) fun vs=>s.callR x.k vs
def RS.to (s:RS)(t:To):RStp:=N7 (s.g.args t.args) fun vs=> .go (s.fr ⟨s.g.f,t.block.toNat,0,vs⟩)
def RS.fin (s:RS)(e:Tail):RStp:=
 if e.op=3 then N7 (s.g.args e.args) fun vs=>match s.st with
  | c::st=> .go ((⟨s.e,c,st,s.inp,s.out,s.fuel⟩:RS).put vs)
  | []=> .done vs
 else if e.op=2 then N7 (s.g.val e.a) fun n=>if n=0 then s.to e.no else s.to e.yes
 else s.to e.yes
def RS.next (s:RS):RS:=s.fr ⟨s.g.f,s.g.b,s.g.i+1,s.g.vals⟩
def RS.one (m:Module)(s:RS):RStp:=match m.funcs[s.g.f]? with
 | none=> .crash
 | some f=>match f.blocks[s.g.b]? with
   | none=> .crash
   | some b=>match b.code[s.g.i]? with
     | some x=>s.next.ins m x
     | none=>s.fin b.fin
def RS.tick (s:RS):RS:=⟨s.e,s.g,s.st,s.inp,s.out,s.fuel+1⟩
def RS.start (inp:List Int)(pages:Nat):RS:=⟨EstS.mk0 pages,⟨0,0,0,[]⟩,[],inp,[],0⟩
end Go.Proofs.YteflkifmgnpbhaaGreat
namespace Go.Proofs.YteflkifmgnpbhaaGreat
open Go.Lir
attribute [local irreducible] LC.wp Q0 Qh Qd Kq Qz LO.wp Q5 Calls
structure RFV where
 f:Nat
 b:Nat
 i:Nat
 vv:Value
 vals:List Int
def RFV.abs (x:RFV):RFrm:=⟨x.f,x.b,x.i,x.vals⟩
def RFV.cells (x:RFV):List Value:=[.int .i64 x.f, .int .i64 x.b, .int .i64 x.i,x.vv]
def RFV.res (x:RFV):Res:=sl 2 1 x.vv (x.vals.map KQ)
structure RC where
 ep:Value
 fn:Value
 lv:Value
 iv:Value
 e:Int
 bv:Value
 ov:Value
 fu:Int
 mo:Int
 dn:Bool
@[reducible] def RC.cells (x:RC):List Value:=[x.ep,x.fn,x.lv,x.iv, .int .i64 x.e,x.bv,x.ov, .int .i64 x.fu, .int .i64 x.mo, .bool x.dn]
@[reducible] def jq (fr:List RFV)(g:RFV):List (List Value):=fr.map RFV.cells++[g.cells]
@[reducible] def rL (p:Nat)(c:RC)(fr:List RFV)(g:RFV)(L:List Res):List Res:=blk p 66 c.cells::sl 138 4 c.lv (jq fr g)::sl 2 1 g.vv (g.vals.map KQ)::Lb RFV.res fr::L
@[reducible] def aI (e:Int):Value:= .iface 139 (.int .i64 e)
variable {cx:Cx}{w:World}{L:List Res}{p:Nat}{c:RC}{fr:List RFV}{g:RFV}
theorem RFrm.val_in {g:RFrm}{k v:Int}(h:g.val k=some v):0≤k∧k.toNat<g.vals.length∧g.vals[k.toNat]?=some v:=by
 unfold RFrm.val at h;by_cases h0:k<0
 · rw [if_pos h0] at h;cases h
 · rw [if_neg h0] at h;exact ⟨Jo,(EJ.mp h).1,h⟩
end Go.Proofs.YteflkifmgnpbhaaGreat
namespace Go.Proofs.YteflkifmgnpbhaaGreat
open Go.Lir
end Go.Proofs.YteflkifmgnpbhaaGreat
namespace Go.Proofs.YteflkifmgnpbhaaGreat
open Go.Lir
attribute [local irreducible] LC.wp Q0 Qh Qd Kq Qz LO.wp Q5 Calls
section
variable {cx:Cx}{w:World}{L:List Res}{p:Nat}{c:RC}{fr:List RFV}{g:RFV}
attribute [local irreducible] RFrm.val RFrm.args
theorem Qch (l:List Int):∀c∈l.map KQ,∀u∈c,oneC u=true:=by
 intro c hc u hu;obtain ⟨v,_,rfl⟩:=Fc.1 hc;simp [KQ] at hu;rcases hu with rfl;rfl
def RFV.push (g:RFV)(tv:Value)(vs:List Int):RFV:=⟨g.f,g.b,g.i,tv,g.vals++vs⟩
end
section
@[reducible] def rS (p:Nat)(c:RC)(fr:List RFV)(g:RFV)(s:EstS)(out:List Int)(L:List Res):List Res:=rL p c fr g (ql c.ep s::sl 2 1 c.ov (out.map KQ)::L)
variable {cx:Cx}{w:World}{L:List Res}{p:Nat}{c:RC}{fr:List RFV}{g:RFV}{s:EstS}{out:List Int}
attribute [local irreducible] RFrm.val RFrm.args
end
section
variable {cx:Cx}{w:World}{L:List Res}{p:Nat}{c:RC}{fr:List RFV}{g:RFV}{s:EstS}{out:List Int}
attribute [local irreducible] RFrm.val RFrm.args EstS.get EstS.getV EstS.code EstS.word EstS.store
end
section
variable {cx:Cx}{w:World}{L:List Res}{p:Nat}{c:RC}{fr:List RFV}{g:RFV}{s:EstS}{out:List Int}
attribute [local irreducible] RFrm.val RFrm.args EstS.get EstS.getV EstS.code EstS.word EstS.store
end
section
variable {cx:Cx}{w:World}{L:List Res}{p:Nat}{c:RC}{fr:List RFV}{g:RFV}{s:EstS}{out:List Int}
attribute [local irreducible] RFrm.val RFrm.args EstS.get EstS.getV EstS.code EstS.word EstS.store EstS.stores
end
section
variable {cx:Cx}{w:World}{L:List Res}{p:Nat}{c:RC}{fr:List RFV}{g:RFV}{s:EstS}{out:List Int}
attribute [local irreducible] RFrm.val RFrm.args EstS.get EstS.getV EstS.code EstS.word EstS.store EstS.stores
@[reducible] def RC.did (c:RC)(bv:Value):RC:=⟨c.ep,c.fn,c.lv,c.iv,c.e,bv,c.ov,c.fu,c.mo,true⟩
end
section
variable {cx:Cx}{w:World}{L:List Res}{p:Nat}{c:RC}{fr:List RFV}{g:RFV}{s:EstS}{out:List Int}
attribute [local irreducible] RFrm.val RFrm.args EstS.get EstS.getV EstS.code EstS.word EstS.store EstS.stores
@[reducible] def RC.upd (c:RC)(lv iv ov:Value):RC:=⟨c.ep,c.fn,lv,iv,c.e,c.bv,ov,c.fu,c.mo,c.dn⟩
end
section
variable {cx:Cx}{w:World}{L:List Res}{p:Nat}{c:RC}{fr:List RFV}{g:RFV}{s:EstS}{out:List Int}
attribute [local irreducible] RFrm.val RFrm.args EstS.get EstS.getV EstS.code EstS.word EstS.store EstS.stores
end
section
end
section
section
variable {m:Module}{s:RS}{x:Ins}
end
variable {cx:Cx}{w:World}{L:List Res}{p:Nat}{c:RC}{fr:List RFV}{g:RFV}{s:EstS}{out inp:List Int}{fu:Nat}{m:Module}
def PB (s:EstS)(g:RFV)(fr:List RFV)(inp out:List Int)(fu:Nat):RS:=⟨s,g.abs,(fr.map RFV.abs).reverse,inp,out,fu⟩
def dI (p:Nat)(c:RC)(fu:Nat)(X:RStp)(cx:Cx)(L:List Res)(u:Value)(w':World):Prop:=
 ∃lv i1 ov fr' g' s' inp' out',X= .go (PB s' g' fr' inp' out' fu)∧JY.sl cx i1 inp'∧u= .tuple #[]∧St cx w' (rS p (c.upd lv i1 ov) fr' g' s' out' L)
def dJ (p:Nat)(c:RC)(s:EstS)(out:List Int)(X:RStp)(cx:Cx)(L:List Res)(u:Value)(w':World):Prop:=
 ∃e,X= .halt e∧u=aI e∧∃fr' g',St cx w' (rS p c fr' g' s out L)
def RFV.nx (g:RFV):RFV:=⟨g.f,g.b,g.i+1,g.vv,g.vals⟩
attribute [local irreducible] RFrm.val RFrm.args EstS.get EstS.getV EstS.code PoolS.word EstS.store EstS.stores EstS.open EstS.openV EstS.shut RS.ins Lv
end
section
def H0:HT:=⟨224,272,267,127⟩
def jr (N:Nat)(h:Value)(s:HpS):Res:=Res.ex fun x:Nat×Value×List RgnV=>Res.pure (h= .pointer (some ⟨x.1,0,none⟩)∧HpO N s x.2.2) (P6 [blk x.1 127 [x.2.1, .int .i64 s.left, .int .i64 s.live],sl 267 4 x.2.1 (x.2.2.map RgnV.cells),Lb (RgnV.res H0) x.2.2])
variable {cx:Cx}{w:World}{L:List Res}{i:Nat}{N:Nat}{h:Value}{s:HpS}
variable {b:Nat}{lv:Value}{left live:Int}{rv:List RgnV}
def js (rv:List RgnV)(k t:Nat)(th:ThgV)(v:Value):Prop:=∃r b o,rv[k]?=some r∧r.l[t]?=some th∧v= .pointer (some ⟨b,o,none⟩)∧Nn r.lv r.l.length 2 t b o
theorem HpO.thg {k t:Nat}(ho:HpO N s rv)(hr:rv[k]?=some r)(ht:r.l[t]?=some th):s.thg k t=th.abs:=by
 obtain ⟨r',h1,h2,_⟩:=ho.at_ (EJ.1 hr).1;rw [hr] at h1;cases h1;unfold HpS.thg;rw [h2];show (r.l.map ThgV.abs).getD t _=_;rw [EL,EN,ht];rfl
def RgnV.roomV (r:RgnV)(n:Int):RgnV:=if r.abs.more n then ⟨r.there,r.lv,r.l,r.pages+1,n⟩ else ⟨r.there,r.lv,r.l,r.pages,r.used+n⟩
theorem Qhq {n:Int}:(r.roomV n).abs=r.abs.room n∧(r.roomV n).lv=r.lv∧(r.roomV n).l=r.l:=by
 unfold RgnV.roomV Rgn.room;split<;>exact ⟨rfl,rfl,rfl⟩
theorem RgnV.more_iff {n:Int}:r.abs.more n=true↔(r.pages=0∨16<r.used+n):=decide_eq_true_iff
end
section
variable {cx:Cx}{w:World}{L:List Res}{i:Nat}{N:Nat}{h:Value}{s:HpS}
theorem wq {s:HpS}{v:Val}{n:Int}(hc:s.can v=false):s.code v n=20:=by unfold HpS.code;rw [hc];rfl
theorem lT {s:HpS}{v:Val}{n:Int}(hc:s.code v n≠0)(kind:Int)(t:Thg):s.put v n t=s∧s.putV v kind n=Val.zero:=by unfold HpS.put HpS.putV;rw [if_neg hc,if_neg hc];exact ⟨rfl,rfl⟩
theorem jt {a b:Value}(h1:oneC a=true)(h2:oneC b=true):∀u∈[a,b],oneC u=true:=by
 intro u hu;simp only [ES,EY,or_false] at hu;rcases hu with rfl|rfl;exact h1;exact h2
theorem wu (l:List Val):∀c∈l.map Val.cells,∀u∈c,oneC u=true:=by
 intro c hc u hu;obtain ⟨v,_,rfl⟩:=Fc.1 hc;simp [Val.cells] at hu;rcases hu with rfl|rfl|rfl|rfl<;>rfl

def aJ (r:RgnV)(v:Value)(t:ThgV):RgnV:=⟨r.there,v,r.l++[t],r.pages,r.used⟩
theorem QbP {v:Value}{t:ThgV}:(aJ r v t).abs=r.abs.push t.abs:=by simp [aJ,RgnV.abs,Rgn.push]
theorem QiZ:r.abs.l.length=r.l.length:=EK _
theorem QhG {s:HpS}{vt vn n kind:Int}{t:Thg}(hc:s.code ⟨2,m,vt,vn⟩ n=0)(hsl:s.l[m]?=some r.abs)(hrs:s.reg m=r.abs):
 s.put ⟨2,m,vt,vn⟩ n t=⟨s.l.set m ((r.abs.room n).push t),if r.abs.more n then s.left - 1 else s.left⟩∧(s.put ⟨2,m,vt,vn⟩ n t).live=s.live∧s.putV ⟨2,m,vt,vn⟩ kind n=⟨kind,m,r.abs.l.length,0⟩:=by
 have e:s.put ⟨2,m,vt,vn⟩ n t=⟨s.l.set m ((r.abs.room n).push t),if r.abs.more n then s.left - 1 else s.left⟩:=by
  unfold HpS.put;rw [if_pos hc];simp only [hrs,E5]
 refine ⟨e,?_,?_⟩
 · rw [e];have h1:=fF (r':=(r.abs.room n).push t) hsl;have h2:((r.abs.room n).push t).there=r.abs.there:=(by unfold Rgn.room;split<;>rfl);rw [h2] at h1;show (s.l.set m _).countP (fun r=>r.there)=s.l.countP fun r=>r.there;omega
 · unfold HpS.putV;rw [if_pos hc];simp only [hrs]
theorem shut_no {s:HpS}{v:Val}(h:s.can v=false):s.shut v=s:=by unfold HpS.shut;rw [h];rfl
theorem HpS.ok_new {n:Int}(hn:0≤n∧n≤1000):(⟨[],n⟩:HpS).Ok 0:=⟨E7 _,by simp,hn.1,by simp;omega,by simp [HpS.live]⟩
theorem Xe (v:Val):∀u∈v.cells,oneC u=true:=by simp [Val.cells,oneC]
theorem ju {l:List Val}{k:Nat}{x:Val}:(l.map Val.cells).set k x.cells=(l.set k x).map Val.cells:=F4.symm
theorem dK {s:HpS}{v:Val}{k:Int}{x:Val}(h:s.setC v k x≠0):s.set v k x=s:=by
 unfold HpS.set;split
 · rfl
 · rw [if_neg h]
def Sy (r:RgnV)(t:Nat)(th:ThgV)(k:Nat)(x:Val):RgnV:=⟨r.there,r.lv,r.l.set t ⟨th.array,th.lv,th.l.set k x⟩,r.pages,r.used⟩
theorem Wa {t k:Nat}{x:Val}:(Sy r t th k x).abs=r.abs.upd t (th.abs.upd k x):=by simp [Sy,RgnV.abs,Rgn.upd,F4];rfl
theorem Zh {s:HpS}{v:Val}{k:Int}{x:Val}{kr t:Nat}{rv:List RgnV}(ho:HpO N s rv)(hr:rv[kr]?=some r)(hth:r.l[t]?=some th)(e0:s.at_ v=some (kr,t))(hc:s.setC v k x=0)(hk:k.toNat<th.l.length):
 s.set v k x=⟨s.l.set kr (r.abs.upd t (th.abs.upd k.toNat x)),s.left⟩∧(s.set v k x).live=s.live∧HpO N (s.set v k x) (rv.set kr (Sy r t th k.toNat x)):=by
 obtain ⟨r',h1,h2,h3⟩:=ho.at_ (EJ.1 hr).1;rw [hr] at h1;cases h1
 have e:s.set v k x=⟨s.l.set kr (r.abs.upd t (th.abs.upd k.toNat x)),s.left⟩:=by
  unfold HpS.set;rw [e0];simp only [hc,if_true,h2,ho.thg hr hth]
 have hl:=fF (r':=r.abs.upd t (th.abs.upd k.toNat x)) h3;have hth2:(r.abs.upd t (th.abs.upd k.toNat x)).there=r.abs.there:=rfl;rw [hth2] at hl
 have hlive:(s.set v k x).live=s.live:=by
  rw [e];show (s.l.set kr _).countP (fun r=>r.there)=s.l.countP fun r=>r.there;omega
 obtain ⟨g1,g2,g3,g4,g5,g6⟩:=ho.rng hr;refine ⟨e,hlive,⟨by rw [F4,Wa,ho.hr,e],?_⟩⟩;rw [e];have hok:=ho.ok
 have hth3:r.there=true:=by
  cases hx:r.there with
  | true=>rfl
  | false=>
    have:=(g6 hx).1;have:=(EJ.1 hth).1;omega
 refine IP hok h3 (E7 _) hok.left rfl (by show s.live+_≤_;have:=hok.live;rw [hth2];omega) ⟨by simp [Rgn.upd,RgnV.abs];exact g1,fun y hy=>?_,g3,g4,g5,fun hf=>by simp [Rgn.upd,RgnV.abs,hth3] at hf⟩;rcases K8 hy with rfl|hy
 · simp only [Thg.upd,Fe];exact g2 th (EI hth)
 · obtain ⟨z,hz,rfl⟩:=Fc.1 hy;exact g2 z hz
theorem Qgx {l:List Val}(h:l.length≤1000):1≤LB l∧LB l≤1000:=by unfold LB;split<;>omega
theorem QbU:(OU ((j:Int)+1))=OU j++[⟨1,0,0,0⟩]:=by
 unfold OU;rw [show ((j:Int)+1).toNat=j+1 by omega,E5,H6]
theorem Qdq {n:Nat}:(OU n).length=n:=by simp [OU]
end
section
structure FrmV where
 f:Nat
 b:Nat
 i:Nat
 vv:Value
 vals:List Val
 rv:Value
 regs:List Int
abbrev Qq (l:List Int):List (List Value):=l.map fun n=>[.int .i64 n]
def FrmV.abs (x:FrmV):Frm:=⟨x.f,x.b,x.i,x.vals,x.regs⟩
def FrmV.cells (x:FrmV):List Value:=[.int .i64 x.f, .int .i64 x.b, .int .i64 x.i,x.vv,x.rv]
def FrmV.res (x:FrmV):Res:=star (sl 224 4 x.vv (x.vals.map Val.cells)) (sl 3 1 x.rv (Qq x.regs))
structure MC where
 hp:Value
 fn:Value
 lv:Value
 iv:Value
 e:Int
 bv:Value
 ov:Value
 fu:Int
 mo:Int
 dn:Bool
 c:Int
 a:Int
@[reducible] def MC.cells (x:MC):List Value:=[x.hp,x.fn,x.lv,x.iv, .int .i64 x.e,x.bv,x.ov, .int .i64 x.fu, .int .i64 x.mo, .bool x.dn, .int .i64 x.c, .int .i64 x.a]
@[reducible] def Ou (fr:List FrmV)(g:FrmV):List (List Value):=fr.map FrmV.cells++[g.cells]
theorem Qp (fr:List FrmV)(g:FrmV):(Ou fr g).length=fr.length+1:=by simp
theorem QB (fr:List FrmV)(g:FrmV):(Ou fr g)[fr.length]?=some g.cells:=by
 rw [EV Js];simp
theorem Zi {fr:List FrmV}{g g':FrmV}(h:g.cells.set j u=g'.cells):(Ou fr g).set fr.length (g.cells.set j u)=Ou fr g':=by
 rw [h];unfold Ou;rw [GR _ _ Js];simp
@[reducible] def mL (p:Nat)(c:MC)(fr:List FrmV)(g:FrmV)(L:List Res):List Res:=blk p 55 c.cells::sl 110 5 c.lv (Ou fr g)::sl 224 4 g.vv (g.vals.map Val.cells)::sl 3 1 g.rv (Qq g.regs)::Lb FrmV.res fr::L
@[reducible] def dL:Value:= .iface 121 (.agg ⟨[]⟩)
@[reducible] def jv (e:Int):Value:= .iface 122 (.int .i64 e)
variable {cx:Cx}{w:World}{L:List Res}{p:Nat}{c:MC}{fr:List FrmV}{g:FrmV}
end
end Go.Proofs.YteflkifmgnpbhaaGreat
namespace Go.Lir
theorem QiW {k:Int}{v:Val}{out:List Val}(hd:g.args l=(g.args (l.drop q)).map fun r=>out++r)(hx:l[q]?=some k)(hv:g.val k=some v):g.args l=(g.args (l.drop (q+1))).map fun r=>(out++[v])++r:=by
 rw [hd,Q1 hx,Frm.args,hv]
 cases g.args (l.drop (q+1)) with
 | none=>rfl
 | some r=>simp
theorem wv {k:Int}{out:List Val}(hd:g.args l=(g.args (l.drop q)).map fun r=>out++r)(hx:l[q]?=some k)(hv:g.val k=none):g.args l=none:=by
 rw [hd,Q1 hx,Frm.args,hv];rfl
theorem Wb {out:List Val}(hd:g.args l=(g.args (l.drop q)).map fun r=>out++r)(hq:l.length≤q):g.args l=some out:=by
 rw [hd,EP hq,Frm.args];simp
theorem dM:g.args l=(g.args (l.drop 0)).map fun r=>[]++r:=by
 rw [FU];cases g.args l<;>rfl
theorem Wc {k v:Int}(hd:g.rgs l=(g.rgs (l.drop q)).map fun r=>out++r)(hx:l[q]?=some k)(hv:g.reg k=some v):g.rgs l=(g.rgs (l.drop (q+1))).map fun r=>(out++[v])++r:=by
 rw [hd,Q1 hx,Frm.rgs,hv]
 cases g.rgs (l.drop (q+1)) with
 | none=>rfl
 | some r=>simp
theorem wx {k:Int}(hd:g.rgs l=(g.rgs (l.drop q)).map fun r=>out++r)(hx:l[q]?=some k)(hv:g.reg k=none):g.rgs l=none:=by
 rw [hd,Q1 hx,Frm.rgs,hv];rfl
theorem Zj (hd:g.rgs l=(g.rgs (l.drop q)).map fun r=>out++r)(hq:l.length≤q):g.rgs l=some out:=by
 rw [hd,EP hq,Frm.rgs];simp
theorem jw:g.rgs l=(g.rgs (l.drop 0)).map fun r=>[]++r:=by
 rw [FU];cases g.rgs l<;>rfl
theorem Wd {k:Int}{v:Val}(h:g.val k=some v)(hk:v.kind=1):g.num k=some v.n:=by unfold Frm.num;rw [h];exact if_pos hk
theorem We {k:Int}{v:Val}(h:g.val k=some v)(hk:v.kind≠1):g.num k=none:=by unfold Frm.num;rw [h];exact if_neg hk
theorem Wf {k:Int}(h:g.val k=none):g.num k=none:=by unfold Frm.num;rw [h]
theorem dN {k v:Int}(h0:0≤k)(h:g.regs[k.toNat]?=some v):g.reg k=some v:=by unfold Frm.reg;rw [if_neg Jo];exact h
theorem Wg {k:Int}(h:k<0∨(g.regs.length:Int)≤k):g.reg k=none:=by
 unfold Frm.reg;by_cases h0:k<0
 · rw [if_pos h0]
 · rw [if_neg h0];exact Fk Jo
end Go.Lir
namespace Go.Proofs.YteflkifmgnpbhaaGreat
open Go.Lir
attribute [local irreducible] LC.wp Q0 Qh Qd Kq Qz LO.wp Q5 Calls
section
variable {cx:Cx}{w:World}{L:List Res}{p:Nat}{c:MC}{fr:List FrmV}{g:FrmV}
attribute [local irreducible] Frm.val Frm.num Frm.args Frm.rgs Frm.reg
def FrmV.push (g:FrmV)(tv:Value)(vs:List Val):FrmV:=⟨g.f,g.b,g.i,tv,g.vals++vs,g.rv,g.regs⟩
end
section
variable {cx:Cx}{w:World}{L:List Res}{p:Nat}{c:MC}{fr:List FrmV}{g:FrmV}
attribute [local irreducible] Frm.val Frm.num Frm.args Frm.rgs Frm.reg
end
section
variable {cx:Cx}{w:World}{L:List Res}{p N:Nat}{c:MC}{fr:List FrmV}{g:FrmV}{h:HpS}{out:List Int}
attribute [local irreducible] Frm.val Frm.num Frm.args Frm.rgs Frm.reg HpS.get HpS.set HpS.setC HpS.len HpS.code HpS.put HpS.putV HpS.open HpS.shut HpS.full HpS.openV HpS.can HpS.arr HpS.arrC HpS.arrV HpS.tuple
end
section
@[reducible] def mS (p:Nat)(c:MC)(fr:List FrmV)(g:FrmV)(N:Nat)(h:HpS)(out:List Int)(L:List Res):List Res:=mL p c fr g (jr N c.hp h::sl 2 1 c.ov (Qq out)::L)
def J6 (h:HpS)(g:FrmV)(fr:List FrmV)(inp out:List Int)(fu:Nat):MS:=⟨h,g.abs,(fr.map FrmV.abs).reverse,inp,out,fu⟩
@[reducible] def MC.upd (c:MC)(lv iv ov:Value):MC:=⟨c.hp,c.fn,lv,iv,c.e,c.bv,ov,c.fu,c.mo,c.dn,c.c,c.a⟩
def SU (p:Nat)(c:MC)(N:Nat)(fu:Nat)(X:Stp)(cx:Cx)(L:List Res)(u:Value)(w':World):Prop:=
 ∃lv iv ov fr' g' N' h' inp' out',X= .go (J6 h' g' fr' inp' out' fu)∧JY.sl cx iv inp'∧N'≤N+1∧u= .tuple #[]∧St cx w' (mS p (c.upd lv iv ov) fr' g' N' h' out' L)
def Wh (p:Nat)(c:MC)(N:Nat)(h:HpS)(out:List Int)(X:Stp)(cx:Cx)(L:List Res)(u:Value)(w':World):Prop:=
 (X= .lost∧u=dL∧St cx w' (blk p 55 c.cells::L))∨(∃e,X= .halt e∧u=jv e∧∃fr' g' N',N'≤N+1∧St cx w' (mS p c fr' g' N' h out L))
variable {cx:Cx}{w:World}{L:List Res}{p N:Nat}{c:MC}{fr:List FrmV}{g:FrmV}{h:HpS}{out inp:List Int}{fu:Nat}
attribute [local irreducible] Frm.val Frm.num Frm.args Frm.rgs Frm.reg HpS.get HpS.set HpS.setC HpS.len HpS.code HpS.putV HpS.open HpS.shut HpS.full HpS.openV HpS.can HpS.tuple
theorem Q8B {v:Val}(he:e=14):s.made e h v= .halt 6:=if_pos he
theorem lU {v:Val}(he:e≠14)(h0:e≠0):s.made e h v= .lost:=by unfold MS.made;rw [if_neg he,if_pos h0]
theorem lV {v:Val}(he:e=0):s.made e h v= .go ((s.hp h).put [v]):=by unfold MS.made;rw [if_neg Jo,if_neg Jo]
theorem Wi {h:HpS}{v:Val}{n:Int}(e:h.arrC v n≠0):h.arr v n=h:=by
 unfold HpS.arrC at e;unfold HpS.arr;split
 · rfl
 · rename_i hn;rw [if_neg hn] at e;unfold HpS.put;exact if_neg e
attribute [local irreducible] HpS.arr HpS.arrC HpS.arrV
end
section
variable {cx:Cx}{w:World}{L:List Res}{p N:Nat}{c:MC}{fr:List FrmV}{g:FrmV}{h:HpS}{out inp:List Int}{fu:Nat}{m:Module}
theorem QhU {g':FrmV}:J6 h g' (fr++[g]) inp out fu=⟨h,g'.abs,g.abs::(fr.map FrmV.abs).reverse,inp,out,fu⟩:=by unfold J6;simp
theorem dO {x:Ins}(hg:m.funcs[x.k.toNat]?=some gf):s.call m x=obind (s.g.rgs x.regs) fun rs=>obind (s.g.args x.args) fun vs=>
 if (rs.length:Int)≠gf.regs∨vs.length≠gf.params.length then .lost else if s.st.length+1=40 then .halt 5 else .go ⟨s.h,⟨x.k.toNat,0,0,vs,rs⟩,s.g::s.st,s.inp,s.out,s.fuel⟩:=by unfold MS.call;rw [hg]
theorem Qho {g':FrmV}:Ou fr g++[g'.cells]=Ou (fr++[g]) g':=by simp [Ou]
attribute [local irreducible] Frm.val Frm.num Frm.args Frm.rgs Frm.reg
end
section
variable {cx:Cx}{w:World}{L:List Res}{p N:Nat}{c:MC}{fr:List FrmV}{g:FrmV}{h:HpS}{out inp:List Int}{fu:Nat}{m:Module}
theorem qm (hb:f.blocks[t.block.toNat]?=some b):s.to f t=obind (s.g.rgs t.regs) fun rs=>obind (s.g.args t.args) fun vs=>
 if (rs.length:Int)≠b.regs∨vs.length≠b.params.length then .lost else .go (s.fr ⟨s.g.f,t.block.toNat,0,vs,rs⟩):=by unfold MS.to;rw [hb]
attribute [local irreducible] Frm.val Frm.num Frm.args Frm.rgs Frm.reg
end
end Go.Proofs.YteflkifmgnpbhaaGreat
namespace Go.Lir
theorem jx {e:Tail}(h:s.g.args e.args=none):s.ret f e= .lost:=by unfold MS.ret;exact OV h
theorem jy {e:Tail}(h:s.g.args e.args=some vs)(hl:vs.length≠f.results.length):s.ret f e= .lost:=by unfold MS.ret;rw [Qg h,if_pos hl]
theorem jz {e:Tail}{c:Frm}(h:s.g.args e.args=some vs)(hl:vs.length=f.results.length)(hs:s.st=c::st):s.ret f e= .go ((⟨s.h,c,st,s.inp,s.out,s.fuel⟩:MS).put vs):=by
 unfold MS.ret;rw [Qg h,if_neg (fun hn=>hn hl),hs]
theorem jA {e:Tail}(h:s.g.args e.args=some vs)(hl:vs.length=f.results.length)(hs:s.st=[])(hn:Kr vs=some ns):s.ret f e= .done ns:=by
 unfold MS.ret;rw [Qg h,if_neg (fun hn=>hn hl),hs];dsimp only;rw [hn]
theorem jB {e:Tail}(h:s.g.args e.args=some vs)(hl:vs.length=f.results.length)(hs:s.st=[])(hn:Kr vs=none):s.ret f e= .lost:=by
 unfold MS.ret;rw [Qg h,if_neg (fun hn=>hn hl),hs];dsimp only;rw [hn]
theorem Wj {v:Val}{l:List Val}(h:v.kind=1):Kr (v::l)=(Kr l).map fun r=>v.n::r:=by
 rw [Kr]
 cases Kr l with
 | none=>rfl
 | some ns=>exact if_pos h
theorem dP {v:Val}{l:List Val}(h:v.kind≠1):Kr (v::l)=none:=by
 rw [Kr]
 cases Kr l with
 | none=>rfl
 | some ns=>exact if_neg h
end Go.Lir
namespace Go.Proofs.YteflkifmgnpbhaaGreat
open Go.Lir
attribute [local irreducible] LC.wp Q0 Qh Qd Kq Qz LO.wp Q5 Calls
section
variable {cx:Cx}{w:World}{L:List Res}{p N:Nat}{c:MC}{fr:List FrmV}{g:FrmV}{h:HpS}{out inp:List Int}{fu:Nat}{m:Module}
def NT (p:Nat)(c:MC)(N:Nat)(h:HpS)(out:List Int)(X:Stp)(cx:Cx)(L:List Res)(u:Value)(w':World):Prop:=
 ∃ns bv fr' g',X= .done ns∧u= .tuple #[]∧St cx w' (mS p ⟨c.hp,c.fn,c.lv,c.iv,c.e,bv,c.ov,c.fu,c.mo,true,c.c,c.a⟩ fr' g' N h out (sl 2 1 bv (Qq ns)::L))
attribute [local irreducible] Frm.val Frm.num Frm.args Frm.rgs Frm.reg Kr
theorem Wk {k:FrmV}:((Ou (fr++[k]) g).take (fr++[k]).length).drop 0=Ou fr k:=by
 unfold Ou;rw [FU,IG Js,E1 Js,Fa];rfl
end
section
variable {cx:Cx}{w:World}{L:List Res}{p N:Nat}{c:MC}{fr:List FrmV}{g:FrmV}{h:HpS}{out inp:List Int}{fu:Nat}{m:Module}
def R2 (p:Nat)(c:MC)(N:Nat)(h:HpS)(out:List Int)(fu:Nat)(X:Stp)(cx:Cx)(L:List Res)(u:Value)(w':World):Prop:=SU p c N fu X cx L u w'∨NT p c N h out X cx L u w'
theorem SU.tup (hG:SU p c N fu X cx L u w):u= .tuple #[]∧SU p c N fu X cx L u w:=⟨by obtain ⟨lv,iv,ov,fr',g',N',h',inp',out',_,_,_,hu,_⟩:=hG;exact hu,hG⟩
theorem SU.drop {r:Res}(hG:SU p c N fu X cx (r::L) u w):SU p c N fu X cx L u w:=by
 obtain ⟨lv,iv,ov,fr',g',N',h',inp',out',h1,h2,h3,h4,hS⟩:=hG;exact ⟨lv,iv,ov,fr',g',N',h',inp',out',h1,h2,h3,h4,hS.sp⟩
theorem Wh.drop {r:Res}(hB:Wh p c N h out X cx (r::L) u w):Wh p c N h out X cx L u w:=by
 rcases hB with ⟨h1,h2,hS⟩|⟨e,h1,h2,fr',g',N',h3,hS⟩
 · exact .inl ⟨h1,h2,hS.sp⟩
 · exact .inr ⟨e,h1,h2,fr',g',N',h3,hS.sp⟩
theorem NT.drop {r:Res}(hD:NT p c N h out X cx (r::L) u w):NT p c N h out X cx L u w:=by
 obtain ⟨ns,bv,fr',g',h1,h2,hS⟩:=hD;exact ⟨ns,bv,fr',g',h1,h2,hS.sp⟩
theorem SU.ok (hG:SU p c N fu X cx L u w):R2 p c N h out fu X cx L u w:= .inl hG
theorem R2.drop {r:Res}(hG:R2 p c N h out fu X cx (r::L) u w):R2 p c N h out fu X cx L u w:=hG.elim (fun h=> .inl h.drop) (fun h=> .inr h.drop)
theorem R2.tup (hG:R2 p c N h out fu X cx L u w):u= .tuple #[]∧R2 p c N h out fu X cx L u w:=by
 refine ⟨?_,hG⟩;rcases hG with h|⟨ns,bv,fr',g',h1,h2,hS⟩
 · exact h.tup.1
 · exact h2
def ToOK (f:Fun)(t:To):Prop:=(0≤t.block∧t.block<f.blocks.length)∧t.regs.length≤100∧t.args.length≤100
attribute [local irreducible] Frm.val Frm.num Frm.args Frm.rgs Frm.reg Kr MS.to MS.ret SU Wh NT R2
end
end Go.Proofs.YteflkifmgnpbhaaGreat
namespace Go.Lir
section
variable {m:Module}{s:MS}{x:Ins}
theorem dQ (h:x.op=1):s.ins m x= .go (s.put [Ku x.n]):=by unfold MS.ins;rw [if_pos h]
theorem qn (h:x.op=2):s.ins m x=obind (s.g.num x.a) fun a=>obind (s.g.num x.b) fun b=>if (Lv x.k a b).2=false then .halt 1 else .go (s.put [Ku (Lv x.k a b).1]):=by unfold MS.ins;rw [if_neg Jo,if_pos h]
theorem lW (h:x.op=3):s.ins m x=s.newR:=by unfold MS.ins;rw [if_neg Jo,if_neg Jo,if_pos h]
theorem qo (h:x.op=4):s.ins m x=obind (s.g.val x.a) fun v=>if s.h.can v=false then .lost else .go (s.hp (s.h.shut v)):=by unfold MS.ins;rw [if_neg Jo,if_neg Jo,if_neg Jo,if_pos h]
theorem qp (h:x.op=5):s.ins m x=obind (s.g.val x.a) fun v=>obind (s.g.args x.args) fun l=>s.made (s.h.code v (LB l)) (s.h.tuple v l) (s.h.putV v 3 (LB l)):=by unfold MS.ins;(repeat rw [if_neg Jo]);rw [if_pos h]
theorem qq (h:x.op=6):s.ins m x=obind (s.g.val x.a) fun v=>if v.kind≠3 then .lost else if (s.h.get v x.k).2≠0 then .lost else .go (s.put [(s.h.get v x.k).1]):=by unfold MS.ins;(repeat rw [if_neg Jo]);rw [if_pos h]
theorem lX (h:x.op=7):s.ins m x=obind (s.g.val x.a) fun v=>if v.kind≠3 then .lost else obind (s.g.val x.b) fun y=>if s.h.setC v x.k y≠0 then .lost else .go (s.hp (s.h.set v x.k y)):=by unfold MS.ins;(repeat rw [if_neg Jo]);rw [if_pos h]
theorem qt (h:x.op=9):s.ins m x=obind (s.g.val x.a) fun v=>obind (s.g.num x.b) fun n=>Nf v (s.h.get v n).2 (.go (s.put [(s.h.get v n).1])):=by unfold MS.ins;(repeat rw [if_neg Jo]);rw [if_pos h]
theorem qu (h:x.op=10):s.ins m x=obind (s.g.val x.a) fun v=>obind (s.g.num x.b) fun n=>obind (s.g.num x.c) fun c=>Nf v (s.h.setC v n (Ku c)) (.go (s.hp (s.h.set v n (Ku c)))):=by unfold MS.ins;(repeat rw [if_neg Jo]);rw [if_pos h]
theorem wy (h:x.op=11):s.ins m x=obind (s.g.val x.a) fun v=>Nf v (s.h.len v).2 (.go (s.put [Ku (s.h.len v).1])):=by unfold MS.ins;(repeat rw [if_neg Jo]);rw [if_pos h]
theorem wA (h:x.op=12):s.ins m x=s.inS:=by unfold MS.ins;(repeat rw [if_neg Jo]);rw [if_pos h]
theorem qw (h:x.op=13):s.ins m x=obind (s.g.num x.a) fun n=>s.outS n:=by unfold MS.ins;(repeat rw [if_neg Jo]);rw [if_pos h]
theorem Zk (h:x.op=14):s.ins m x=s.call m x:=by unfold MS.ins;(repeat rw [if_neg Jo])
theorem dR {v:Val}{k:Stp}(hv:v.kind≠4):Nf v e k= .lost:=if_pos hv
theorem wB {v:Val}{k:Stp}(hv:v.kind=4)(he:e=1):Nf v e k= .halt 2:=by unfold Nf;rw [if_neg Jo,if_pos he]
theorem lY {v:Val}{k:Stp}(he:v.kind=4→e≠1∧e≠0):Nf v e k= .lost:=by
 unfold Nf;by_cases hv:v.kind=4
 · obtain ⟨h1,h2⟩:=he hv;rw [if_neg Jo,if_neg h1,if_pos h2]
 · rw [if_pos hv]
theorem Zl {v:Val}{k:Stp}(hv:v.kind=4)(he:e=0):Nf v e k=k:=by unfold Nf;rw [if_neg Jo,if_neg Jo,if_neg Jo]
theorem qx {v:Val}{l:List Val}(e:h.code v (LB l)≠0):h.tuple v l=h:=by unfold HpS.tuple HpS.put;exact if_neg e
theorem Zm (e:h.full=true):h.open=h:=by unfold HpS.open;exact if_pos e
theorem dS (e:s.h.full=true):s.newR= .halt 6:=by unfold MS.newR;exact if_pos e
theorem qy (e:s.h.full=false):s.newR= .go ((⟨s.h.open,⟨s.g.f,s.g.b,s.g.i,s.g.vals,s.g.regs++[s.h.openV.region]⟩,s.st,s.inp,s.out,s.fuel⟩:MS).put [s.h.openV]):=by unfold MS.newR;exact if_neg (by rw [e];decide)
theorem qz (e:s.inp=[]):s.inS= .halt 4:=by unfold MS.inS;rw [e]
theorem qA {n:Int}{r:List Int}(e:s.inp=n::r):s.inS= .go ((⟨s.h,s.g,s.st,r,s.out,s.fuel⟩:MS).put [Ku n]):=by unfold MS.inS;rw [e]
theorem jC {n:Int}(e:s.out.length=2000):s.outS n= .halt 8:=if_pos e
theorem jD {n:Int}(e:s.out.length≠2000):s.outS n= .go ⟨s.h,s.g,s.st,s.inp,s.out++[n],s.fuel⟩:=if_neg e
end
end Go.Lir
namespace Go.Proofs.YteflkifmgnpbhaaGreat
open Go.Lir
attribute [local irreducible] LC.wp Q0 Qh Qd Kq Qz LO.wp Q5 Calls
variable {cx:Cx}{w:World}{L:List Res}{p N:Nat}{c:MC}{fr:List FrmV}{g:FrmV}{h:HpS}{out inp:List Int}{fu:Nat}{m:Module}
def FrmV.nx (g:FrmV):FrmV:=⟨g.f,g.b,g.i+1,g.vv,g.vals,g.rv,g.regs⟩
section
variable {s:MS}{x:Ins}
end
attribute [local irreducible] Frm.val Frm.num Frm.args Frm.rgs Frm.reg Kr MS.ins MS.call HpS.get HpS.set HpS.setC HpS.len HpS.code HpS.put HpS.putV HpS.open HpS.shut HpS.full HpS.openV HpS.can HpS.tuple HpS.arr HpS.arrC HpS.arrV Lv LB
end Go.Proofs.YteflkifmgnpbhaaGreat
namespace Go.Lir
theorem Zn {m:Module}(hf:m.funcs[s.g.f]?=some f)(hb:f.blocks[s.g.b]?=some b)(h:s.g.i<b.code.length):s.place m=OL s.g.f s.g.b s.g.i:=by
 unfold MS.place;simp only [hf,hb];exact if_pos h
theorem Zo {m:Module}(hf:m.funcs[s.g.f]?=some f)(hb:f.blocks[s.g.b]?=some b)(h:¬s.g.i<b.code.length):s.place m=Po s.g.f s.g.b:=by
 unfold MS.place;simp only [hf,hb];exact if_neg h
theorem jE {m:Module}{x:Ins}(hf:m.funcs[s.g.f]?=some f)(hb:f.blocks[s.g.b]?=some b)(h:b.code[s.g.i]?=some x):s.one m=s.next.ins m x:=by
 unfold MS.one;simp only [hf,hb,h]
theorem jF {m:Module}(hf:m.funcs[s.g.f]?=some f)(hb:f.blocks[s.g.b]?=some b)(h:b.code.length≤s.g.i):s.one m=s.fin f b.fin:=by
 unfold MS.one;simp only [hf,hb,Fk h]
end Go.Lir
namespace Go.Proofs.YteflkifmgnpbhaaGreat
open Go.Lir
attribute [local irreducible] LC.wp Q0 Qh Qd Kq Qz LO.wp Q5 Calls
variable {cx:Cx}{w:World}{L:List Res}{p N:Nat}{c:MC}{fr:List FrmV}{g:FrmV}{h:HpS}{out inp:List Int}{fu:Nat}{m:Module}
@[reducible] def MC.tick (c:MC):MC:=⟨c.hp,c.fn,c.lv,c.iv,c.e,c.bv,c.ov,c.fu+1,c.mo,c.dn,c.c,c.a⟩
def InsOK (m:Module)(x:Ins):Prop:=(1≤x.op∧x.op≤14)∧(x.op=14→0≤x.k∧x.k<m.funcs.length)∧x.regs.length≤100∧x.args.length≤100
def R3 (f:Fun)(e:Tail):Prop:=e.args.length≤100∧(1≤e.op∧e.op≤3)∧(e.op≠3→ToOK f e.yes)∧(e.op=2→ToOK f e.no)
attribute [local irreducible] Frm.val Frm.num Frm.args Frm.rgs Frm.reg MS.place OL Po
attribute [local irreducible] MS.ins MS.fin MS.one SU Wh NT R2
end Go.Proofs.YteflkifmgnpbhaaGreat
namespace Go.Lir
section
variable {P:Program}{Q:QT}{ρ:Km}{w:World}{l:List GO}
end
end Go.Lir
namespace Go.Proofs.YteflkifmgnpbhaaGreat
open Go.Lir
attribute [local irreducible] LC.wp Q0 Qh Qd Kq Qz LO.wp Q5 Calls
section
variable {cx:Cx}{w:World}{L:List Res}{p N:Nat}{c:MC}{fr:List FrmV}{g:FrmV}{h:HpS}{out inp:List Int}{fu:Nat}{m:Module}
@[reducible] def MC.stk (c:MC)(a:Int):MC:=⟨c.hp,c.fn,c.lv,c.iv,c.e,c.bv,c.ov,c.fu,c.mo,c.dn,20,a⟩
@[reducible] def MC.over (c:MC)(e:Int):MC:=⟨c.hp,c.fn,c.lv,c.iv,e,c.bv,c.ov,c.fu,c.mo,true,c.c,c.a⟩
theorem R2.form (hG:R2 p c N h out fu X cx L u w):∃M,St cx w (M++L)∧∀w' L2,St cx w' (M++L2)→R2 p c N h out fu X cx L2 u w':=by
 rcases hG with ⟨lv,iv,ov,fr',g',N',h',inp',out',h1,h2,h3,h4,hS⟩|⟨ns,bv,fr',g',h1,h2,hS⟩
 · exact ⟨mS p (c.upd lv iv ov) fr' g' N' h' out' [],hS,fun w' L2 hS=> .inl ⟨lv,iv,ov,fr',g',N',h',inp',out',h1,h2,h3,h4,hS⟩⟩
 · exact ⟨_::_::_::_::_::_::_::_::[],hS,fun w' L2 hS=> .inr ⟨ns,bv,fr',g',h1,h2,hS⟩⟩
theorem St.app {M:List Res}(hS:St cx w (M++L)):St cx w (L++M):=hS.perm H5
def aK (m:Module)(p:Nat)(c:MC)(fr:List FrmV)(g:FrmV)(N:Nat)(h:HpS)(inp out:List Int)(fu:Nat)(cx:Cx)(L:List Res)(u:Value)(w':World):Prop:=
 (c.fu=c.mo∧u=Kn (0,0)∧St cx w' (mS p (c.over 7) fr g N h out L))∨(c.fu≠c.mo∧((u=Kn (0,0)∧R2 p c.tick N h out fu ((J6 h g fr inp out fu).one m) cx L (.tuple #[]) w')∨
   (∃e,(J6 h g fr inp out fu).one m= .halt e∧u=Kn (0,0)∧∃fr' g' N',N'≤N+1∧St cx w' (mS p (c.tick.over e) fr' g' N' h out L))∨
   ((J6 h g fr inp out fu).one m= .lost∧u=Kn (20,(J6 h g fr inp out fu).place m)∧St cx w' (blk p 55 (c.tick.stk ((J6 h g fr inp out fu).place m)).cells::L))))
attribute [local irreducible] MS.ins MS.fin MS.one MS.place SU NT R2
end
section
variable {cx:Cx}{w:World}{L:List Res}{p:Nat}{c:RC}{fr:List RFV}{g:RFV}{s:EstS}{out inp:List Int}{fu:Nat}{m:Module}
def PC (p:Nat)(c:RC)(s:EstS)(out:List Int)(X:RStp)(cx:Cx)(L:List Res)(u:Value)(w':World):Prop:=
 ∃ns bv fr' g',X= .done ns∧u= .tuple #[]∧St cx w' (rS p (c.did bv) fr' g' s out (sl 2 1 bv (ns.map KQ)::L))
def SV (p:Nat)(c:RC)(s:EstS)(out:List Int)(fu:Nat)(X:RStp)(cx:Cx)(L:List Res)(u:Value)(w':World):Prop:=dI p c fu X cx L u w'∨PC p c s out X cx L u w'
theorem dI.drop {X:RStp}{r:Res}(hG:dI p c fu X cx (r::L) u w):dI p c fu X cx L u w:=by
 obtain ⟨lv,i1,ov,fr',g',s',inp',out',h1,h2,h3,hS⟩:=hG;exact ⟨lv,i1,ov,fr',g',s',inp',out',h1,h2,h3,hS.sp⟩
theorem dI.ok {X:RStp}(hG:dI p c fu X cx L u w):SV p c s out fu X cx L u w:= .inl hG
theorem dJ.get {X:RStp}(hB:dJ p c s out X cx L u w):∃e,X= .halt e∧u=aI e∧∃fr' g',St cx w (rS p c fr' g' s out L):=hB
theorem PC.drop {X:RStp}{r:Res}(hG:PC p c s out X cx (r::L) u w):PC p c s out X cx L u w:=by
 obtain ⟨ns,bv,fr',g',h1,h2,hS⟩:=hG;exact ⟨ns,bv,fr',g',h1,h2,hS.sp⟩
theorem SV.drop {X:RStp}{r:Res}(hG:SV p c s out fu X cx (r::L) u w):SV p c s out fu X cx L u w:=hG.elim (fun h=> .inl h.drop) (fun h=> .inr h.drop)
theorem SV.tup {X:RStp}(hG:SV p c s out fu X cx L u w):u= .tuple #[]∧SV p c s out fu X cx L u w:=by
 refine ⟨?_,hG⟩;rcases hG with ⟨_,_,_,_,_,_,_,_,_,_,h,_⟩|⟨_,_,_,_,_,h,_⟩
 · exact h
 · exact h
theorem SV.form {X:RStp}(hG:SV p c s out fu X cx L u w):∃M,St cx w (M++L)∧∀w' L2,St cx w' (M++L2)→SV p c s out fu X cx L2 u w':=by
 rcases hG with ⟨lv,i1,ov,fr',g',s',inp',out',h1,h2,h3,hS⟩|⟨ns,bv,fr',g',h1,h2,hS⟩
 · exact ⟨rS p (c.upd lv i1 ov) fr' g' s' out' [],hS,fun w' L2 hS=> .inl ⟨lv,i1,ov,fr',g',s',inp',out',h1,h2,h3,hS⟩⟩
 · exact ⟨_::_::_::_::_::_::_::[],hS,fun w' L2 hS=> .inr ⟨ns,bv,fr',g',h1,h2,hS⟩⟩
attribute [local irreducible] RFrm.val RFrm.args EstS.get EstS.getV EstS.code EstS.word EstS.store EstS.stores RS.ins
@[reducible] def RC.over (c:RC)(e:Int):RC:=⟨c.ep,c.fn,c.lv,c.iv,e,c.bv,c.ov,c.fu,c.mo,true⟩
@[reducible] def RC.tick (c:RC):RC:=⟨c.ep,c.fn,c.lv,c.iv,c.e,c.bv,c.ov,c.fu+1,c.mo,c.dn⟩
end
section
variable {cx:Cx}{w:World}{L:List Res}{p:Nat}{c:RC}{fr:List RFV}{g:RFV}{s:EstS}{out inp:List Int}{fu:Nat}{m:Module}
def dT (m:Module)(p:Nat)(c:RC)(fr:List RFV)(g:RFV)(s:EstS)(inp out:List Int)(fu:Nat)(cx:Cx)(L:List Res)(u:Value)(w':World):Prop:=
 u = .tuple #[]∧((c.fu=c.mo∧St cx w' (rS p (c.over 7) fr g s out L))∨(c.fu≠c.mo∧(SV p c.tick s out fu ((PB s g fr inp out fu).one m) cx L (.tuple #[]) w'∨
   ∃e,(PB s g fr inp out fu).one m= .halt e∧∃fr' g',St cx w' (rS p (c.tick.over e) fr' g' s out L))))
attribute [local irreducible] RS.ins RS.fin RS.one dI dJ SV PC
end
end Go.Proofs.YteflkifmgnpbhaaGreat
namespace Go.Proofs.YteflkifmgnpbhaaGreat
open Go.Lir
section
def Reg.lim (r:Reg)(q:Int):Int:=if q=r.last then r.used else 16
theorem Qgy (s:PoolS)(k i:Int):(s.give k).word i=s.word i:=by
 unfold PoolS.give;split<;>rfl
theorem wC {i:Int}:∀{s:PoolS},(s.gives l).word i=s.word i:=by
 induction l with
 | nil=>intro s;rfl
 | cons k l ih=>intro s;exact (ih (s:=s.give k)).trans (Qgy s k i)
theorem L4 {s:PoolS}{i:Int}:s.isIn i=true↔0≤i∧i<((s.n*16:Nat):Int):=decide_eq_true_iff
theorem qB {s:PoolS}(ok:s.Ok){a x:Int}(ha:s.isIn a=true)(i:Int):(s.store a x).word i=if i=a then x else s.word i:=by
 have ha':=L4.1 ha;have hl:=ok.len;unfold PoolS.store;rw [if_pos ha];unfold PoolS.word;by_cases hi:s.isIn i=true
 · have hi':=L4.1 hi
   have e:(⟨s.n,s.ws.set a.toNat x,s.fr⟩:PoolS).isIn i=true:=hi;rw [if_pos e,if_pos hi,mP Jo];by_cases h:i=a
   · subst h;rw [if_pos rfl,if_pos rfl]
   · rw [if_neg Jo,if_neg h]
 · have e:¬(⟨s.n,s.ws.set a.toNat x,s.fr⟩:PoolS).isIn i=true:=hi;rw [if_neg e,if_neg hi,if_neg (fun h:i=a=>hi (by rw [h];exact ha))]
theorem wD {s:PoolS}(ok:s.Ok){k:Nat}{fr:List Int}(h3:s.take=⟨s.n,V9 s.ws k,fr⟩)(hk:k<s.n)(i:Int):s.take.word i=if (k:Int)*16≤i∧i<(k:Int)*16+16 then 0 else s.word i:=by
 have hl:=ok.len;rw [h3];unfold PoolS.word;by_cases hi:s.isIn i=true
 · have hi':=L4.1 hi
   have e:(⟨s.n,V9 s.ws k,fr⟩:PoolS).isIn i=true:=hi;rw [if_pos e,if_pos hi,←QiN hl hk,qk _ _ _ _ Jo];by_cases h:(k:Int)*16≤i∧i<(k:Int)*16+16
   · rw [if_pos Jo,if_pos h]
   · rw [if_neg Jo,if_neg h]
 · have e:¬(⟨s.n,V9 s.ws k,fr⟩:PoolS).isIn i=true:=hi;rw [if_neg e,if_neg hi];split<;>rfl
theorem ga {s:EstS}(ok:s.Ok){p:PoolS}{k:Nat}(hm:m<16){r:Reg}:(⟨p,s.rs.set m r⟩:EstS).reg k=if k=m then r else s.reg k:=by
 have:=ok.len;unfold EstS.reg;rw [if_pos Jo,E5,mP Jo];by_cases h:m=k
 · rw [if_pos h,if_pos h.symm]
 · rw [if_neg h,if_neg (G4 h),if_pos Jo]
theorem qC {s:EstS}(ok:s.Ok){k:Nat}(hk:k<16)(hm:m<16){q:Int}(h1:q∈(s.reg k).pages)(h2:q∈(s.reg m).pages):k=m:=by
 by_cases h:k=m
 · exact h
 exfalso;have hnd:=(HH ok hm).1;have:=(GI.1 hnd).2.2 q h2 q (G6.2 ⟨s.reg k,List.mem_eraseIdx_iff_getElem?.2 ⟨k,h,Gy ok hk⟩,h1⟩);exact this rfl
theorem qD {r:Reg}(h:r.pages≠[]):r.last∈r.pages:=by
 unfold Reg.last;rcases H4 r.pages with e|⟨l,x,e⟩
 · exact absurd e h
 · rw [e];simp
theorem qE {s:EstS}(ok:s.Ok){k:Nat}(hk:k<16){q:Int}(h:q∈(s.reg k).pages):0≤q∧q<s.p.n∧q∉s.p.fr:=KS.1 (((HH ok hk).2 q).1 (H9 _ h))
theorem lZ {s:EstS}(ok:s.Ok){k:Nat}(hk:k<16){q:Int}:(s.reg k).lim q≤16:=by
 unfold Reg.lim;split
 · exact (HP ok hk).2
 · exact IH _
structure GetF (s:EstS) (m:Nat) (x:Int) (P u:Int):Prop where
 x1:1≤x
 ux:0≤u∧u+x≤16
 v:s.getV m x=P*16+u
 rs:(s.get m x).rs=s.rs.set m ⟨(s.reg m).there,((s.get m x).reg m).pages,u+x⟩
 last:((s.get m x).reg m).last=P
 mem:P∈((s.get m x).reg m).pages
 sub:∀q∈(s.reg m).pages,q∈((s.get m x).reg m).pages
 n:(s.get m x).p.n=s.p.n
 old:P∈(s.reg m).pages→P=(s.reg m).last∧u=(s.reg m).used
 new:P∉(s.reg m).pages→∀k:Nat,k<16→P∉(s.reg k).pages
 w:∀i,¬(P*16≤i∧i<P*16+16)→(s.get m x).p.word i=s.p.word i
 wz:P∉(s.reg m).pages→∀i,P*16≤i∧i<P*16+16→(s.get m x).p.word i=0
 wo:P∈(s.reg m).pages→(s.get m x).p=s.p
theorem jG {s:EstS}(ok:s.Ok)(hm:m<16){x:Int}(hc:s.code m x=0):∃P u,GetF s m x P u:=by
 obtain ⟨h1,h2,h3,h4⟩:=Jz hc;have hu:=HP ok hm;have hrs:(s.get m x).rs=s.rs.set m ((s.regTo m x).use x):=Ey;have hp:(s.get m x).p=if (s.reg m).more x then s.p.take else s.p:=by unfold EstS.get;rw [if_pos hc]
 have hv:s.getV m x=(s.regTo m x).last*16+(s.regTo m x).used:=by unfold EstS.getV;rw [if_pos hc]
 have hreg:(s.get m x).reg m=(s.regTo m x).use x:=by
  have e:s.get m x=⟨(s.get m x).p,s.rs.set m ((s.regTo m x).use x)⟩:=(by rw [←hrs]);rw [e,ga ok hm,if_pos rfl]
 by_cases hmo:(s.reg m).more x=true
 · rw [if_pos hmo] at hp
   have hto:s.regTo m x=(s.reg m).grow s.p.top:=(by unfold EstS.regTo;rw [if_pos hmo]);rcases II ok.pok with ⟨e,_⟩|⟨kk,fr,e1,e2,e3⟩
   · exact absurd ⟨hmo,e⟩ h4
   · have hfree:∀k:Nat,k<16→s.p.top∉(s.reg k).pages:=fun k hk hmem=>by
      have:=(qE ok hk hmem).2.2;exact this (by rw [e2,e1];simp)
     have hnk:kk<s.p.n:=(by have:=ok.pok.rng kk (by rw [e1];simp);omega);refine ⟨s.p.top,0,h2,Jo,by rw [hv,hto];simp [Reg.grow,Reg.last],?_,?_,?_,?_,?_,fun h=>absurd h (hfree m hm),fun _=>hfree,fun i hi=>?_,fun _ i hi=>?_,fun h=>absurd h (hfree m hm)⟩
     · rw [hrs,hreg,hto];simp [Reg.use,Reg.grow]
     · rw [hreg,hto];simp [Reg.use,Reg.grow,Reg.last]
     · rw [hreg,hto];simp [Reg.use,Reg.grow]
     · intro q hq;rw [hreg,hto];simp [Reg.use,Reg.grow,hq]
     · rw [hp];exact Je
     · rw [hp,wD ok.pok e3 hnk,if_neg (by rw [e2] at hi;exact hi)]
     · rw [hp,wD ok.pok e3 hnk,if_pos (by rw [e2] at hi;exact hi)]
 · rw [if_neg hmo] at hp
   have hto:s.regTo m x=s.reg m:=(by unfold EstS.regTo;rw [if_neg hmo]);obtain ⟨h5,h6⟩:=JL hmo;have hl:=qD h5;refine ⟨(s.reg m).last,(s.reg m).used,h2,Jo,by rw [hv,hto],?_,?_,?_,?_,by rw [hp],fun _=>⟨rfl,rfl⟩,fun h=>absurd hl h,fun i _=>by rw [hp],fun h=>absurd hl h,fun _=>hp⟩
   · rw [hrs,hreg,hto];rfl
   · rw [hreg,hto];rfl
   · rw [hreg,hto];exact hl
   · intro q hq;rw [hreg,hto];exact hq
theorem GetF.reg {s:EstS}(ok:s.Ok){k:Nat}(hm:m<16){x P u:Int}(h:GetF s m x P u):(s.get m x).reg k=if k=m then ⟨(s.reg m).there,((s.get m x).reg m).pages,u+x⟩ else s.reg k:=by
 have e:s.get m x=⟨(s.get m x).p,s.rs.set m ⟨(s.reg m).there,((s.get m x).reg m).pages,u+x⟩⟩:=(by rw [←h.rs]);have:=ga ok hm (p:=(s.get m x).p) (k:=k) (r:=⟨(s.reg m).there,((s.get m x).reg m).pages,u+x⟩);rw [←e] at this;exact this
end
section
structure RMap where
 σ:Nat→Nat
 a:Nat→Nat→Int
def M8 (φ:RMap)(h:HpS)(v:Val)(n:Int):Prop:=
 (v.kind=1→n=v.n)∧(v.kind≠1→0≤v.region∧v.region<h.l.length)∧(v.kind=2→h.has v.region=true→n=φ.σ v.region.toNat)∧
 (v.kind=3∨v.kind=4→h.has v.region=true→0≤v.thing∧v.thing<(h.reg v.region).l.length∧n=φ.a v.region.toNat v.thing.toNat)
def Ln (φ:RMap)(h:HpS)(l:List Val)(ns:List Int):Prop:=l.length=ns.length∧∀(i:Nat) (v:Val) (n:Int),l[i]?=some v→ns[i]?=some n→M8 φ h v n
end
end Go.Proofs.YteflkifmgnpbhaaGreat
namespace Go.Lir
def Thg.off (t:Thg):Int:=if t.array=true then 1 else 0
def Thg.size (t:Thg):Int:=if t.array=true then 1+t.l.length else LB t.l
end Go.Lir
namespace Go.Proofs.YteflkifmgnpbhaaGreat
open Go.Lir
section
def Sz (φ:RMap)(h:HpS)(e:EstS)(A:Int)(t:Thg):Prop:=(t.array=true→e.word A=t.l.length)∧∀(i:Nat) (v:Val),t.l[i]?=some v→M8 φ h v (e.word (A+t.off+i))
def Pg (h:HpS)(r t:Nat)(x:Thg):Prop:=h.has r=true∧(h.reg r).l[t]?=some x
structure WHR (φ:RMap) (h:HpS) (e:EstS):Prop where
 ok:e.Ok
 left:h.left=e.p.fr.length
 cnt:e.count=h.live
 live:∀r:Nat,h.has r=true→φ.σ r<16∧(e.reg (φ.σ r)).there=true∧((e.reg (φ.σ r)).pages.length:Int)=(h.reg r).pages∧(e.reg (φ.σ r)).used=(h.reg r).used
 inj:∀r q:Nat,h.has r=true→h.has q=true→φ.σ r=φ.σ q→r=q
 z:∀k:Nat,k<16→(e.reg k).pages≠[]→∀j:Int,(e.reg k).used≤j→j<16→e.p.word ((e.reg k).last*16+j)=0
 at_:∀(r t:Nat) (x:Thg),Pg h r t x→∃q,q∈(e.reg (φ.σ r)).pages∧q*16≤φ.a r t∧φ.a r t+x.size≤q*16+(e.reg (φ.σ r)).lim q
 apart:∀(r t:Nat) (x:Thg) (r' t':Nat) (x':Thg),Pg h r t x→Pg h r' t' x'→¬(r=r'∧t=t')→φ.a r t+x.size≤φ.a r' t'∨φ.a r' t'+x'.size≤φ.a r t
 lies:∀(r t:Nat) (x:Thg),Pg h r t x→Sz φ h e (φ.a r t) x
def Mk (φ:RMap)(h:HpS)(φ':RMap)(h':HpS):Prop:=∀v n,M8 φ h v n→M8 φ' h' v n
theorem Mk.refl (φ:RMap)(h:HpS):Mk φ h φ h:=fun _ _ h=>h
theorem Mk.vrs {φ φ':RMap}(hM:Mk φ h φ' h'){l:List Val}(hv:Ln φ h l ns):Ln φ' h' l ns:=⟨hv.1,fun i v n h1 h2=>hM _ _ (hv.2 i v n h1 h2)⟩
theorem Mk.lies {φ φ':RMap}(hM:Mk φ h φ' h'){e e':EstS}{A:Int}{t:Thg}(hw:∀i,A≤i→i<A+t.size→e'.word i=e.word i)(hl:Sz φ h e A t):Sz φ' h' e' A t:=by
 refine ⟨fun ha=>?_,fun i v hv=>?_⟩
 · rw [hw A (IH _) (by unfold Thg.size;rw [if_pos ha];omega)];exact hl.1 ha
 · have hi:=(EJ.1 hv).1;rw [hw _ (by unfold Thg.off;split<;>omega) DX];exact hM _ _ (hl.2 i v hv)
theorem Ln.nil (φ:RMap)(h:HpS):Ln φ h [] []:=⟨rfl,fun i v n h1=>by simp at h1⟩
theorem Ln.app {φ:RMap}{l l2:List Val}{ns2:List Int}(h1:Ln φ h l ns)(h2:Ln φ h l2 ns2):Ln φ h (l++l2) (ns++ns2):=by
 have e:=h1.1;refine ⟨by rw [EM,EM,h1.1,h2.1],fun i v n hv hn=>?_⟩;by_cases hi:i<l.length
 · rw [ER hi] at hv;rw [ER Jo] at hn;exact h1.2 i v n hv hn
 · rw [EV Jo] at hv;rw [EV Jo,←e] at hn;exact h2.2 _ v n hv hn
theorem Ln.one {φ:RMap}{v:Val}{n:Int}(hv:M8 φ h v n):Ln φ h [v] [n]:=⟨rfl,fun i v' n' h1 h2=>by
 cases i with
 | zero=>simp at h1 h2;subst h1;subst h2;exact hv
 | succ i=>simp at h1⟩
abbrev Hp:=@Ln.one
theorem Ln.cons {φ:RMap}{h:HpS}{v:Val}{n:Int}{l:List Val}{ns:List Int}(hv:M8 φ h v n)(h2:Ln φ h l ns):Ln φ h (v::l) (n::ns):=(Hp hv).app h2
theorem Ln.get {φ:RMap}{l:List Val}(hl:Ln φ h l ns){i:Nat}{v:Val}(hv:l[i]?=some v):∃n,ns[i]?=some n∧M8 φ h v n:=by
 have hi:=(EJ.1 hv).1;exact ⟨ns[i]'(by have:=hl.1;omega),EH _,hl.2 i v _ hv (EH _)⟩
theorem M8.int (φ:RMap)(h:HpS)(n:Int):M8 φ h (Ku n) n:=⟨fun _=>rfl,fun h=>absurd rfl h,fun h=>(by cases h),fun h=>(by rcases h with h|h<;>cases h)⟩
abbrev Iy:=@M8.int
variable {φ:RMap}{h:HpS}{e:EstS}{v:Val}{n:Int}
theorem WHR.slot (_:WHR φ h e)(hv:M8 φ h v n)(hc:h.can v=true):∃r:Nat,v.region=r∧h.has r=true∧n=φ.σ r∧r<h.l.length:=by
 unfold HpS.can at hc;rw [EW,decide_eq_true_iff] at hc;have h1:=hv.2.1 Jo;refine ⟨v.region.toNat,Jo,by rw [Fb h1.1];exact hc.2,hv.2.2.1 hc.1 hc.2,Jo⟩
theorem qF {p:α→Bool}{l:List α}{k:Nat}{r r':α}(hr:l[k]?=some r):(l.set k r').countP p+(if p r then 1 else 0)=l.countP p+if p r' then 1 else 0:=by
 have h1:=(iM hr).countP_eq p;have h2:=(kZ (x:=r') (EJ.1 hr).1).countP_eq p;rw [GY] at h1 h2;rw [h1,h2];omega
theorem wE (ok:e.Ok):e.low<16↔e.count≠16:=by
 have hl:=ok.len;constructor
 · intro h hc;have h1:=Gy ok h;have h2:=Ix ok h;have hall:∀r∈e.rs,r.there=true:=(Ji (p:=fun r:Reg=>r.there)).1 (by have h9:(List.countP (fun r:Reg=>r.there) e.rs:Int)=16:=hc;rw [hl];omega);have:=hall _ (EI h1);rw [h2] at this;cases this
 · intro hc
   by_cases h:e.low<16
   · exact h
   · exfalso;have hle:=EstS.low_le ok;have h3:e.low=e.rs.length:=Dc;have h4:=List.findIdx_eq_length.1 h3;refine hc ?_;unfold EstS.count;rw [Ji.2 fun r hr=>by have:=h4 r hr;simpa using this];omega
theorem WHR.full (H:WHR φ h e):h.full=true↔e.openV<0:=by
 have h1:=wE H.ok;have h2:=H.cnt;unfold HpS.full EstS.openV;rw [decide_eq_true_iff];constructor
 · intro hf;rw [if_neg Jo];omega
 · intro hn
   split at hn
   · omega
   · rename_i hl;by_cases hf:h.live=16
     · exact hf
     · exact absurd (h1.2 Jo) hl
theorem gb (hf:h.full=false)(r:Int):h.open=⟨h.l++[⟨true,[],0,0⟩],h.left⟩∧h.openV=⟨2,h.l.length,0,0⟩∧h.open.reg r=if r=h.l.length then ⟨true,[],0,0⟩ else h.reg r:=by
 have e1:h.open=⟨h.l++[⟨true,[],0,0⟩],h.left⟩:=D0;refine ⟨e1,by unfold HpS.openV;rw [hf];rfl,?_⟩;rw [e1,lM]
theorem jH {r:Int}(hr:h.has r=true):0≤r∧r<h.l.length:=⟨(RZ hr).1,(RZ hr).2.1⟩
theorem WHR.open (H:WHR φ h e)(hf:h.full=false):∃φ',WHR φ' h.open e.open∧Mk φ h φ' h.open∧M8 φ' h.open h.openV e.openV:=by
 have hlow:e.low<16:=(wE H.ok).2 (by
  have h2:=H.cnt;unfold HpS.full at hf;rw [decide_eq_false_iff_not] at hf;omega)
 have e1:=(gb hf 0).1;have e2:=(gb hf 0).2.1;have eo:e.open=⟨e.p,e.rs.set e.low ⟨true,[],0⟩⟩:=(by unfold EstS.open;rw [if_pos hlow]);have ev:e.openV=e.low:=(by unfold EstS.openV;rw [if_pos hlow]);have hoff:=Ix H.ok hlow;have hreg:∀k:Nat,e.open.reg k=if k=e.low then ⟨true,[],0⟩ else e.reg k:=fun k=>by rw [eo];exact ga H.ok hlow
 have hnew:h.has h.l.length=false:=by
  cases hx:h.has h.l.length with
  | false=>rfl
  | true=>have:=(jH hx).2;omega
 have hr0:∀r:Int,h.open.has r=true→r=h.l.length∨r≠h.l.length∧h.has r=true:=fun r hr=>by
  unfold HpS.has at hr ⊢;rw [(gb hf r).2.2] at hr;by_cases hc:r=h.l.length
  · exact .inl hc
  · rw [if_neg hc] at hr;exact .inr ⟨hc,hr⟩
 have hne:∀r:Nat,h.has r=true→φ.σ r≠e.low:=fun r hr hc=>by
  have:=(H.live r hr).2.1;rw [hc,hoff] at this;cases this
 have hM:Mk φ h ⟨fun r=>if r=h.l.length then e.low else φ.σ r,φ.a⟩ h.open:=fun v n hv=>by
  refine ⟨hv.1,fun hk=>?_,fun hk hh=>?_,fun hk hh=>?_⟩
  · have:=hv.2.1 hk;rw [e1];simp;omega
  · have hl:=hv.2.1 Jo
    rcases hr0 _ hh with hc|⟨hc,hh⟩
    · omega
    · show n=((if v.region.toNat=h.l.length then e.low else φ.σ v.region.toNat:Nat):Int);rw [if_neg Jo];exact hv.2.2.1 hk hh
  · have hl:=hv.2.1 Jo
    rcases hr0 _ hh with hc|⟨hc,hh⟩
    · omega
    · have:=hv.2.2.2 hk hh;rw [(gb hf v.region).2.2,if_neg hc];exact this
 have hth:∀(r t:Nat) (x:Thg),Pg h.open r t x→r≠h.l.length∧Pg h r t x:=fun r t x ht=>by
  obtain ⟨h1,h2⟩:=ht;rw [(gb hf r).2.2] at h2;rcases hr0 _ h1 with hc|⟨hc,hh⟩
  · rw [if_pos hc] at h2;simp at h2
  · rw [if_neg hc] at h2;exact ⟨Jo,hh,h2⟩
 refine ⟨⟨fun r=>if r=h.l.length then e.low else φ.σ r,φ.a⟩,⟨EstS.ok_open H.ok,?_,?_,?_,?_,?_,?_,?_,?_⟩,hM,?_⟩
 · rw [e1,eo];exact H.left
 · have h3:=qF (p:=fun r:Reg=>r.there) (r':=⟨true,[],0⟩) (Gy H.ok hlow);rw [hoff] at h3;have h4:=H.cnt;unfold EstS.count HpS.live at h4 ⊢;rw [eo,e1,HC];simp [Reg.none] at h3 ⊢;omega
 · intro r hr
   show (if r=h.l.length then e.low else φ.σ r)<16∧_;rw [show (h.open.reg r)=if (r:Int)=h.l.length then ⟨true,[],0,0⟩ else h.reg r from (gb hf r).2.2];show _∧(e.open.reg ((if r=h.l.length then e.low else φ.σ r:Nat):Int)).there=true∧((e.open.reg ((if r=h.l.length then e.low else φ.σ r:Nat):Int)).pages.length:Int)=_∧(e.open.reg ((if r=h.l.length then e.low else φ.σ r:Nat):Int)).used=_;rcases hr0 _ hr with hc|⟨hc,hh⟩
   · rw [if_pos Jo,if_pos hc,hreg,if_pos rfl];exact ⟨hlow,rfl,rfl,rfl⟩
   · rw [if_neg Jo,if_neg hc,hreg,if_neg (hne r hh)];exact H.live r hh
 · intro r q hr hq hs
   have hs:(if r=h.l.length then e.low else φ.σ r)=(if q=h.l.length then e.low else φ.σ q):=hs;rcases hr0 _ hr with hc|⟨hc,hh⟩
   · rcases hr0 _ hq with hd|⟨hd,hg⟩
     · omega
     · rw [if_pos Jo,if_neg Jo] at hs;exact absurd hs.symm (hne q hg)
   · rcases hr0 _ hq with hd|⟨hd,hg⟩
     · rw [if_neg Jo,if_pos Jo] at hs;exact absurd hs (hne r hh)
     · rw [if_neg Jo,if_neg Jo] at hs;exact H.inj r q hh hg hs
 · intro k hk hp j h1 h2
   rw [hreg] at hp h1 ⊢;by_cases hc:k=e.low
   · rw [if_pos hc] at hp;exact absurd rfl hp
   · rw [if_neg hc] at hp h1 ⊢;rw [eo];exact H.z k hk hp j h1 h2
 · intro r t x hx;obtain ⟨hc,hx⟩:=hth r t x hx;show∃q,q∈(e.open.reg ((if r=h.l.length then e.low else φ.σ r:Nat):Int)).pages∧_∧_≤q*16+(e.open.reg ((if r=h.l.length then e.low else φ.σ r:Nat):Int)).lim q;rw [if_neg hc,hreg,if_neg (hne r hx.1)];exact H.at_ r t x hx
 · intro r t x r' t' x' hx hx';exact CP
 · intro r t x hx;refine hM.lies (e:=e) (fun i _ _=>?_) (H.lies r t x (hth r t x hx).2);rw [eo];rfl
 · rw [e2,ev]
   refine ⟨fun h=>(by cases h),fun _=>?_,fun _ _=>?_,fun h=>(by rcases h with h|h<;>cases h)⟩
   · rw [e1];simp;omega
   · show ((e.low:Nat):Int)=((if (h.l.length:Int).toNat=h.l.length then e.low else _:Nat):Int);rw [if_pos Jo]
theorem qG {r:Nat}(hv:v.region=r)(hc:h.can v=true)(q:Int):h.shut v=⟨h.l.set r Rgn.none,h.left+(h.reg r).pages⟩∧(h.shut v).reg q=if q=r then Rgn.none else h.reg q:=by
 have e1:h.shut v=⟨h.l.set r Rgn.none,h.left+(h.reg r).pages⟩:=(by unfold HpS.shut;rw [if_pos hc,hv,E5]);refine ⟨e1,?_⟩;have hr:h.has r=true:=(by rw [←hv];unfold HpS.can at hc;rw [EW] at hc;exact hc.2);rw [e1,Go.Lir.reg_set (left':=h.left) (by have:=(jH hr).2;omega)]
theorem WHR.shut (H:WHR φ h e)(hv:M8 φ h v n)(hc:h.can v=true):WHR φ (h.shut v) (e.shut n)∧Mk φ h φ (h.shut v):=by
 obtain ⟨r0,hr0,hh0,rfl,hlt0⟩:=H.slot hv hc;obtain ⟨hs,hth0,hpg,hus⟩:=H.live r0 hh0;have hk:e.has (φ.σ r0)=true:=hth0;have e1:=(qG hr0 hc 0).1;have eo:=EstS.shut_yes hk;have hreg:∀k:Nat,(e.shut (φ.σ r0)).reg k=if k=φ.σ r0 then Reg.none else e.reg k:=fun k=>by rw [eo];exact ga H.ok hs
 have hr1:∀r:Int,(h.shut v).has r=true→r≠r0∧h.has r=true:=fun r hr=>by
  unfold HpS.has at hr ⊢;rw [(qG hr0 hc r).2] at hr;by_cases hc:r=r0
  · rw [if_pos hc] at hr;cases hr
  · rw [if_neg hc] at hr;exact ⟨hc,hr⟩
 (have hrg:∀r:Int,r≠r0→(h.shut v).reg r=h.reg r:=fun r hn=>by rw [(qG hr0 hc r).2,if_neg hn]);have hne:∀r:Nat,r≠r0→h.has r=true→φ.σ r≠φ.σ r0:=fun r hn hr hc=>hn (H.inj r r0 hr hh0 hc)
 have hM:Mk φ h φ (h.shut v):=fun u m hu=>by
  refine ⟨hu.1,fun hk=>?_,fun hk hh=>hu.2.2.1 hk (hr1 _ hh).2,fun hk hh=>?_⟩
  · have:=hu.2.1 hk;rw [e1];simp only [Fe];exact this
  · obtain ⟨g1,g2⟩:=hr1 _ hh;rw [hrg _ g1];exact hu.2.2.2 hk g2
 have hth:∀(r t:Nat) (x:Thg),Pg (h.shut v) r t x→r≠r0∧Pg h r t x:=fun r t x ht=>by
  obtain ⟨h1,h2⟩:=ht;obtain ⟨g1,g2⟩:=hr1 _ h1;rw [hrg _ g1] at h2;exact ⟨Jo,g2,h2⟩
 have hok:=EstS.ok_shut H.ok (φ.σ r0);refine ⟨⟨hok,?_,?_,?_,?_,?_,?_,?_,?_⟩,hM⟩
 · have h1:=hok.tk.len hok.pok
   have h2:=H.ok.tk.len H.ok.pok;have h3:=(wj (Gy H.ok hs)).length_eq
   have h4:(e.shut (φ.σ r0)).all.length=((e.rs.eraseIdx (φ.σ r0)).flatMap Reg.pages).length:=by
    rw [eo];exact (wm (rs:=e.rs) (k:=φ.σ r0) (r':=Reg.none) (by rw [H.ok.len];exact hs)).length_eq
   have h5:(e.shut (φ.σ r0)).p.n=e.p.n:=(by rw [eo];exact IZ);rw [EM] at h3;have h6:=H.left;rw [e1];show h.left+(h.reg r0).pages=_;omega
 · have h3:=qF (p:=fun r:Reg=>r.there) (r':=Reg.none) (Gy H.ok hs);have h5:=fF (r':=Rgn.none) (RZ hh0).2.2.1;rw [hth0] at h3;rw [(RZ hh0).2.2.2] at h5;have h4:=H.cnt;unfold EstS.count HpS.live at h4 ⊢;rw [eo,e1];simp [Reg.none,Rgn.none] at h3 h5 ⊢;omega
 · intro r hr;obtain ⟨g1,g2⟩:=hr1 _ hr;rw [hreg,if_neg (hne r Jo g2),hrg _ g1];exact H.live r g2
 · intro r q hr hq hs;exact H.inj r q (hr1 _ hr).2 (hr1 _ hq).2 hs
 · intro k hk hp j h1 h2
   rw [hreg] at hp h1 ⊢;by_cases hc:k=φ.σ r0
   · rw [if_pos hc] at hp;exact absurd rfl hp
   · rw [if_neg hc] at hp h1 ⊢;rw [eo];show (e.p.gives _).word _=0;rw [wC];exact H.z k hk hp j h1 h2
 · intro r t x hx;obtain ⟨hc,hx⟩:=hth r t x hx;rw [hreg,if_neg (hne r hc hx.1)];exact H.at_ r t x hx
 · intro r t x r' t' x' hx hx';exact CP
 · intro r t x hx;refine hM.lies (e:=e) (fun i _ _=>?_) (H.lies r t x (hth r t x hx).2);rw [eo];exact wC
end
section
theorem Wl {s:EstS}(h:s.Ok)(k x:Int):(s.store k x).Ok:=⟨h.len,h.off,h.used,h.tk.store k x,PoolS.ok_store h.pok k x,by show (s.p.store k x).n≤64;rw [HO];exact h.n64⟩
theorem wF {at_:Int}:∀(l:List Int) (s:EstS) (k:Nat),s.Ok→0≤at_→at_+k+l.length≤((s.p.n*16:Nat):Int)→
 (s.storesA at_ k l).Ok∧(s.storesA at_ k l).rs=s.rs∧(s.storesA at_ k l).p.n=s.p.n∧(s.storesA at_ k l).p.fr=s.p.fr∧∀i,(s.storesA at_ k l).word i=if at_+k≤i∧i<at_+k+l.length then l.getD (i - at_ - k).toNat 0 else s.word i
 | [],s,k,ok,_,_=>⟨ok,rfl,rfl,rfl,fun i=>by rw [if_neg Js];rfl⟩
 | v ::l,s,k,ok,h0,h1=>by
   rw [ET] at h1;have hn:=ok.n64;have hw:wr (at_+k)=at_+k:=ZN Jo Jo;have hin:s.p.isIn (at_+k)=true:=L4.2 Jo;obtain ⟨g1,g2,g3,g4,g5⟩:=wF l (s.store (at_+k) v) (k+1) (Wl ok _ _) h0 (by show _≤(((s.p.store (at_+k) v).n*16:Nat):Int);rw [HO];omega);rw [EstS.storesA,hw];refine ⟨g1,g2,g3.trans HO,g4.trans HG,fun i=>?_⟩;rw [g5,ET];have hs:(s.store (at_+k) v).word i=if i=at_+k then v else s.word i:=qB ok.pok hin i
   rw [hs];by_cases hi:i=at_+k
   · rw [if_neg Jo,if_pos hi,if_pos Jo,show (i - at_ - k).toNat=0 by omega];rfl
   · rw [if_neg hi]
     by_cases hj:at_+k≤i∧i<at_+k+(l.length+1:Nat)
     · rw [if_pos Jo,if_pos hj,show (i - at_ - k).toNat=(i - at_ - (k+1:Nat)).toNat+1 by omega];rfl
     · rw [if_neg Jo,if_neg hj]
theorem Wm {at_:Int}{s:EstS}(ok:s.Ok)(h0:0≤at_)(h1:at_+l.length≤((s.p.n*16:Nat):Int)):
 (s.stores at_ l).Ok∧(s.stores at_ l).rs=s.rs∧(s.stores at_ l).p.n=s.p.n∧(s.stores at_ l).p.fr=s.p.fr∧∀i,(s.stores at_ l).word i=if at_≤i∧i<at_+l.length then l.getD (i - at_).toNat 0 else s.word i:=by
 obtain ⟨g1,g2,g3,g4,g5⟩:=wF l s 0 ok h0 Jo;refine ⟨g1,g2,g3,g4,fun i=>?_⟩;have:=g5 i;simp only [Int.natCast_zero,I3,Int.sub_zero] at this;exact this
variable {φ:RMap}{h:HpS}{e:EstS}{v:Val}{n:Int}
theorem more_iff {h:HpS}{e:EstS}{r:Rgn}{g:Reg}(h1:(g.pages.length:Int)=r.pages)(h2:g.used=r.used)(x:Int):g.more x=r.more x:=by
 unfold Reg.more Rgn.more;rw [h2];have:g.pages=[]↔r.pages=0:=(by rw [←h1,←Gt];omega);simp only [this]
theorem WHR.code (H:WHR φ h e)(hv:M8 φ h v n)(hc:h.can v=true){x:Int}(hx:1≤x∧x≤16):e.code n x=h.code v x:=by
 obtain ⟨r0,hr0,hh0,rfl,hlt0⟩:=H.slot hv hc;obtain ⟨hs,hth0,hpg,hus⟩:=H.live r0 hh0;have hk:e.has (φ.σ r0)=true:=hth0;have hle:(h.left=0)=(e.p.fr=[]):=propext (by rw [H.left,←Gt];omega);unfold EstS.code HpS.code;rw [hk,hc,hr0,more_iff (h:=h) (e:=e) hpg hus,if_neg Jd,if_neg Jo];simp only [hle];rfl
theorem l0 {x:Int}(hc:h.code v x≠20):h.can v=true:=by
 unfold HpS.code at hc
 cases hx:h.can v with
 | true=>rfl
 | false=>rw [hx] at hc;exact absurd rfl hc
theorem wG (t:Thg):1≤t.size:=by unfold Thg.size LB;split<;>(try split)<;>omega
theorem QbL {x:Int}(ok:e.Ok)(hm:m<16)(hc:e.code m x=0):(e.get m x).reg m=(e.regTo m x).use x∧(e.get m x).p=(if (e.reg m).more x then e.p.take else e.p)∧(e.get m x).rs=e.rs.set m ((e.regTo m x).use x):=by
 have hrs:(e.get m x).rs=e.rs.set m ((e.regTo m x).use x):=Ey;refine ⟨?_,by unfold EstS.get;rw [if_pos hc],hrs⟩;have e1:e.get m x=⟨(e.get m x).p,e.rs.set m ((e.regTo m x).use x)⟩:=(by rw [←hrs]);rw [e1,ga ok hm,if_pos rfl]
theorem WHR.addr (H:WHR φ h e){r t:Nat}{x:Thg}(ht:Pg h r t x):0≤φ.a r t∧φ.a r t+x.size≤((e.p.n*16:Nat):Int)∧φ.a r t+x.size≤1024:=by
 obtain ⟨q,h1,h2,h3⟩:=H.at_ r t x ht;have hs:=(H.live r ht.1).1;obtain ⟨g1,g2,_⟩:=qE H.ok hs h1;have:=lZ H.ok hs (q:=q);have:=H.ok.n64;omega
theorem Qg0 {x:Int}(h0:h.code v x=0):¬((h.reg v.region).more x=true∧h.left=0):=by
 intro hc;unfold HpS.code at h0;split at h0
 · cases h0
 · simp [hc] at h0
theorem wH {r:Nat}{x:Int}{t:Thg}(hv:v.region=r)(h0:h.code v x=0)(q:Int):
 h.put v x t=⟨h.l.set r (((h.reg r).room x).push t),if (h.reg r).more x then h.left - 1 else h.left⟩∧(h.put v x t).reg q=if q=r then ((h.reg r).room x).push t else h.reg q:=by
 have e1:h.put v x t=⟨h.l.set r (((h.reg r).room x).push t),if (h.reg r).more x then h.left - 1 else h.left⟩:=(by unfold HpS.put;rw [if_pos h0,hv,E5]);refine ⟨e1,?_⟩;have hr:h.has r=true:=(by rw [←hv];have hc:=l0 (h:=h) (v:=v) (x:=x) Jo;unfold HpS.can at hc;rw [EW] at hc;exact hc.2);rw [e1,Go.Lir.reg_set (left':=h.left) (by have:=(jH hr).2;omega)]
theorem WHR.put (H:WHR φ h e)(hv:M8 φ h v n){x:Int}{t:Thg}(hs:t.size=x)(hx:x≤16)(h0:h.code v x=0)(hkd:kd=3∨kd=4){e2:EstS}(ok2:e2.Ok)(hrs:e2.rs=(e.get n x).rs)(hfr:e2.p.fr=(e.get n x).p.fr)
 (hw:∀i,¬(e.getV n x≤i∧i<e.getV n x+x)→e2.word i=(e.get n x).word i)(hl:Sz φ h e2 (e.getV n x) t):∃φ',WHR φ' (h.put v x t) e2∧Mk φ h φ' (h.put v x t)∧M8 φ' (h.put v x t) (h.putV v kd x) (e.getV n x):=by
 have hx1:1≤x:=hs ▸ wG t;have hcan:=l0 (h:=h) (v:=v) (x:=x) Jo;have hc0:e.code n x=0:=(H.code hv hcan ⟨hx1,hx⟩).trans h0;obtain ⟨r0,hr0,hh0,rfl,hlt0⟩:=H.slot hv hcan;obtain ⟨hm,hth0,hpg,hus⟩:=H.live r0 hh0;obtain ⟨P,u,G⟩:=jG H.ok hm hc0;obtain ⟨gr1,gp1,grs⟩:=QbL H.ok hm hc0;have hux:=G.ux;have hmo:=more_iff (h:=h) (e:=e) hpg hus x;have e1:=(wH (t:=t) hr0 h0 0).1;have hrg:∀q:Int,(h.put v x t).reg q=if q=r0 then ((h.reg r0).room x).push t else h.reg q:=fun q=>(wH hr0 h0 q).2
 have hroom:((h.reg r0).room x).there=(h.reg r0).there∧((h.reg r0).room x).l=(h.reg r0).l:=by unfold Rgn.room;split<;>exact ⟨rfl,rfl⟩
 have hhas:∀q:Int,(h.put v x t).has q=h.has q:=fun q=>by
  unfold HpS.has;rw [hrg];by_cases hq:q=r0
  · rw [if_pos hq,hq];exact hroom.1
  · rw [if_neg hq]
 have hl0:((h.put v x t).reg r0).l=(h.reg r0).l++[t]:=(by rw [hrg,if_pos rfl];show ((h.reg r0).room x).l++[t]=_;rw [hroom.2]);have hln:∀q:Int,q≠r0→(h.put v x t).reg q=h.reg q:=fun q hq=>by rw [hrg,if_neg hq]
 have hreg:∀k:Nat,e2.reg k=if k=φ.σ r0 then (e.regTo (φ.σ r0) x).use x else e.reg k:=fun k=>by
  have:e2.reg k=(e.get (φ.σ r0) x).reg k:=(by unfold EstS.reg;rw [hrs]);rw [this];have e3:e.get (φ.σ r0) x=⟨(e.get (φ.σ r0) x).p,e.rs.set (φ.σ r0) ((e.regTo (φ.σ r0) x).use x)⟩:=(by rw [←grs]);rw [e3,ga H.ok hm]
 have hA:e.getV (φ.σ r0) x=P*16+u:=G.v;have hthere:(e.regTo (φ.σ r0) x).there=true:=by unfold EstS.regTo;split<;>exact hth0
 -- what is old lies apart, and stays
 have hold:∀(r t0:Nat) (x0:Thg),Pg h r t0 x0→(φ.a r t0+x0.size≤e.getV (φ.σ r0) x∨e.getV (φ.σ r0) x+x≤φ.a r t0)∧∀i,φ.a r t0≤i→i<φ.a r t0+x0.size→e2.word i=e.word i:=fun r t0 x0 ht=>by
  obtain ⟨q,q1,q2,q3⟩:=H.at_ r t0 x0 ht;have hsr:=(H.live r ht.1).1;have hlq:=lZ H.ok hsr (q:=q)
  have hap:φ.a r t0+x0.size≤e.getV (φ.σ r0) x∨e.getV (φ.σ r0) x+x≤φ.a r t0:=by
   rw [hA];by_cases hq:q=P
   · by_cases hp:P∈(e.reg (φ.σ r0)).pages
     · have:=qC H.ok hsr hm q1 (by rw [hq];exact hp);obtain ⟨h6,h7⟩:=G.old hp;have h8:(e.reg (φ.σ r)).lim q=u:=(by rw [this];unfold Reg.lim;rw [if_pos (hq.trans h6),h7]);left;omega
     · exact absurd q1 (by rw [hq];exact G.new hp _ hsr)
   · omega
  refine ⟨hap,fun i i1 i2=>?_⟩;rw [hw i Jo];show (e.get (φ.σ r0) x).p.word i=e.p.word i;by_cases hi:P*16≤i∧i<P*16+16
  · by_cases hp:P∈(e.reg (φ.σ r0)).pages
    · rw [G.wo hp]
    · have hq:q=P:=Dc;exact absurd q1 (by rw [hq];exact G.new hp _ hsr)
  · exact G.w i hi
 have hth:∀(r t0:Nat) (x0:Thg),Pg (h.put v x t) r t0 x0→(r=r0∧t0=(h.reg r0).l.length∧x0=t)∨(¬(r=r0∧t0=(h.reg r0).l.length)∧Pg h r t0 x0):=fun r t0 x0 ht=>by
  obtain ⟨h1,h2⟩:=ht;rw [hhas] at h1;by_cases hr:r=r0
  · subst hr
    rw [hl0] at h2;by_cases h3:t0<(h.reg r).l.length
    · rw [ER h3] at h2;exact .inr ⟨Jo,h1,h2⟩
    · rw [EV Jo] at h2
      cases h4:t0 - (h.reg r).l.length with
      | zero=>rw [h4] at h2;simp at h2;exact .inl ⟨rfl,Jo,h2.symm⟩
      | succ j=>rw [h4] at h2;simp at h2
  · rw [hln _ Jo] at h2;exact .inr ⟨fun hc=>hr hc.1,h1,h2⟩
 have hlen:(h.put v x t).l.length=h.l.length:=by rw [e1];exact Fe
 have hM:Mk φ h ⟨φ.σ,fun r j=>if r=r0∧j=(h.reg r0).l.length then e.getV (φ.σ r0) x else φ.a r j⟩ (h.put v x t):=fun w m hw=>by
  refine ⟨hw.1,fun hk=>?_,fun hk hh=>hw.2.2.1 hk DP,fun hk hh=>?_⟩
  · rw [hlen];exact hw.2.1 hk
  · obtain ⟨g1,g2,g3⟩:=hw.2.2.2 hk DP
    have hrn:=hw.2.1 Jo;show _∧_∧m=if w.region.toNat=r0∧w.thing.toNat=(h.reg r0).l.length then _ else _
    by_cases hr:w.region=r0
    · rw [hr] at g2;rw [if_neg Jo,hr,hl0,EM];refine ⟨g1,by simp;omega,?_⟩;rw [←hr];exact g3
    · rw [if_neg Jo,hln _ hr];exact ⟨g1,g2,g3⟩
 have hlast:(e2.reg (φ.σ r0)).last=P:=by
  rw [hreg,if_pos rfl,←gr1];exact G.last
 have hused:(e2.reg (φ.σ r0)).used=u+x:=by
  have:=G.reg H.ok hm (k:=φ.σ r0);rw [if_pos rfl] at this;rw [hreg,if_pos rfl,←gr1,this]
 have hmem:∀q,q=P∨q∈(e.reg (φ.σ r0)).pages→q∈(e2.reg (φ.σ r0)).pages:=fun q hq=>by
  rw [hreg,if_pos rfl,←gr1];rcases hq with rfl|hq
  · exact G.mem
  · exact G.sub q hq
 have hz:∀k:Nat,k<16→(e2.reg k).pages≠[]→∀j:Int,(e2.reg k).used≤j→j<16→e2.p.word ((e2.reg k).last*16+j)=0:=fun k hk hp j h1 h2=>by
  by_cases hkm:k=φ.σ r0
  · subst hkm
    rw [hused] at h1;rw [hlast];have h3:=hw (P*16+j) (by rw [hA];omega);refine h3.trans ?_;by_cases hpp:P∈(e.reg (φ.σ r0)).pages
    · obtain ⟨h6,h7⟩:=G.old hpp;show (e.get (φ.σ r0) x).p.word _=0;rw [G.wo hpp,h6];exact H.z _ hm Es j Jo h2
    · exact G.wz hpp _ Jo
  · have hr:e2.reg k=e.reg k:=by rw [hreg,if_neg hkm]
    rw [hr] at hp h1 ⊢;have hl2:=qD hp
    have hne:(e.reg k).last≠P:=by
     intro h9;by_cases hpp:P∈(e.reg (φ.σ r0)).pages
     · exact hkm (qC H.ok hk hm (h9 ▸ hl2) hpp)
     · exact G.new hpp k hk (h9 ▸ hl2)
    have:=HP H.ok hk;have h3:=hw ((e.reg k).last*16+j) (by rw [hA];omega);refine h3.trans ?_;exact (G.w _ Jo).trans (H.z k hk hp j h1 h2)
 refine ⟨⟨φ.σ,fun r j=>if r=r0∧j=(h.reg r0).l.length then e.getV (φ.σ r0) x else φ.a r j⟩,⟨ok2,?_,?_,?_,?_,hz,?_,?_,?_⟩,hM,?_⟩
 · rw [e1,hfr,gp1]
   show (if (h.reg r0).more x=true then h.left - 1 else h.left)=_;rw [←hmo];have h4:=H.left;by_cases hc:(e.reg (φ.σ r0)).more x=true
   · rw [if_pos hc,if_pos hc];have h5:=Qg0 h0;rw [hr0,←hmo] at h5;have h6:e.p.fr≠[]:=fun h7=>h5 ⟨hc,by rw [h4,h7];rfl⟩;unfold PoolS.take;rw [if_neg h6,List.length_dropLast];have:0<e.p.fr.length:=Ij.2 h6;omega
   · rw [if_neg hc,if_neg hc];exact h4
 · have h3:=qF (p:=fun r:Reg=>r.there) (r':=(e.regTo (φ.σ r0) x).use x) (Gy H.ok hm);have h5:=fF (r':=((h.reg r0).room x).push t) (RZ hh0).2.2.1;rw [hth0,show ((e.regTo (φ.σ r0) x).use x).there=true from hthere] at h3;rw [(RZ hh0).2.2.2,show (((h.reg r0).room x).push t).there=true from hroom.1.trans (RZ hh0).2.2.2] at h5;have h4:=H.cnt;unfold EstS.count HpS.live at h4 ⊢;rw [hrs,grs,e1];simp only [E5,if_true] at h3 h5 ⊢;omega
 · intro r hr
   rw [hhas] at hr;show φ.σ r<16∧(e2.reg (φ.σ r)).there=true∧((e2.reg (φ.σ r)).pages.length:Int)=_∧(e2.reg (φ.σ r)).used=_;obtain ⟨g1,g2,g3,g4⟩:=H.live r hr;refine ⟨g1,?_⟩;by_cases hrr:r=r0
   · subst hrr
     rw [hreg,if_pos rfl,hrg,if_pos rfl];refine ⟨hthere,?_⟩;unfold EstS.regTo Rgn.room;rw [←hmo];by_cases hc:(e.reg (φ.σ r)).more x=true
     · rw [if_pos hc,if_pos hc]
       refine ⟨?_,?_⟩
       · show (((e.reg (φ.σ r)).pages++[e.p.top]).length:Int)=(h.reg r).pages+1;rw [EM];simp;omega
       · show 0+x=x;omega
     · rw [if_neg hc,if_neg hc];exact ⟨g3,by show (e.reg (φ.σ r)).used+x=(h.reg r).used+x;omega⟩
   · rw [hreg,if_neg (fun hc=>hrr (H.inj r r0 hr hh0 hc)),hln _ Jo];exact ⟨g2,g3,g4⟩
 · intro r q hr hq hs;rw [hhas] at hr hq;exact H.inj r q hr hq hs
 · intro r t0 x0 hx0
   show∃q,q∈(e2.reg (φ.σ r)).pages∧q*16≤(if r=r0∧t0=(h.reg r0).l.length then e.getV (φ.σ r0) x else φ.a r t0)∧(if r=r0∧t0=(h.reg r0).l.length then e.getV (φ.σ r0) x else φ.a r t0)+x0.size≤q*16+(e2.reg (φ.σ r)).lim q;rcases hth r t0 x0 hx0 with ⟨g1,g2,g3⟩|⟨g1,g2⟩
   · subst g1;rw [if_pos ⟨rfl,g2⟩,g3,hs,hA];refine ⟨P,hmem P (.inl rfl),Jo,?_⟩;unfold Reg.lim;rw [if_pos hlast.symm,hused];omega
   · rw [if_neg g1]
     obtain ⟨q,q1,q2,q3⟩:=H.at_ r t0 x0 g2;by_cases hrr:r=r0
     · subst hrr
       refine ⟨q,hmem q (.inr q1),q2,?_⟩;have hle:=lZ H.ok hm (q:=q);unfold Reg.lim;rw [hlast,hused];by_cases hq:q=P
       · rw [if_pos hq]
         by_cases hp:P∈(e.reg (φ.σ r)).pages
         · obtain ⟨h6,h7⟩:=G.old hp;have h8:(e.reg (φ.σ r)).lim q=u:=(by unfold Reg.lim;rw [if_pos (hq.trans h6),h7]);omega
         · exact absurd q1 (by rw [hq];exact hp)
       · rw [if_neg hq];omega
     · have hr:e2.reg (φ.σ r)=e.reg (φ.σ r):=(by rw [hreg,if_neg (fun hc=>hrr (H.inj r r0 g2.1 hh0 hc))]);rw [hr];exact ⟨q,q1,q2,q3⟩
 · intro r t0 x0 r' t0' x0' hx0 hx0' hn
   show (if r=r0∧t0=(h.reg r0).l.length then e.getV (φ.σ r0) x else φ.a r t0)+x0.size≤(if r'=r0∧t0'=(h.reg r0).l.length then e.getV (φ.σ r0) x else φ.a r' t0')∨(if r'=r0∧t0'=(h.reg r0).l.length then e.getV (φ.σ r0) x else φ.a r' t0')+x0'.size≤(if r=r0∧t0=(h.reg r0).l.length then e.getV (φ.σ r0) x else φ.a r t0);rcases hth r t0 x0 hx0 with ⟨g1,g2,g3⟩|⟨g1,g2⟩
   · rcases hth r' t0' x0' hx0' with ⟨k1,k2,k3⟩|⟨k1,k2⟩
     · exact absurd ⟨Jo,Jo⟩ hn
     · rw [if_pos ⟨g1,g2⟩,if_neg k1,g3,hs];exact ((hold _ _ _ k2).1).symm
   · rcases hth r' t0' x0' hx0' with ⟨k1,k2,k3⟩|⟨k1,k2⟩
     · rw [if_neg g1,if_pos ⟨k1,k2⟩,k3,hs];exact (hold _ _ _ g2).1
     · rw [if_neg g1,if_neg k1];exact H.apart _ _ _ _ _ _ g2 k2 hn
 · intro r t0 x0 hx0
   show Sz _ _ e2 (if r=r0∧t0=(h.reg r0).l.length then e.getV (φ.σ r0) x else φ.a r t0) x0;rcases hth r t0 x0 hx0 with ⟨g1,g2,g3⟩|⟨g1,g2⟩
   · rw [if_pos ⟨g1,g2⟩,g3];exact hM.lies (fun _ _ _=>rfl) hl
   · rw [if_neg g1];exact hM.lies (hold _ _ _ g2).2 (H.lies _ _ _ g2)
 · have ev:h.putV v kd x=⟨kd,v.region,(h.reg v.region).l.length,0⟩:=by unfold HpS.putV;rw [if_pos h0]
   rw [ev,hr0];refine ⟨fun hk=>by simp at hk;omega,fun _=>⟨by simp,by rw [hlen];show (r0:Int) < _;omega⟩,fun hk=>by simp at hk;omega,fun _ _=>⟨by simp,?_,?_⟩⟩
   · show ((h.reg r0).l.length:Int)<(((h.put v x t).reg r0).l.length:Int);rw [hl0];simp;omega
   · show e.getV (φ.σ r0) x=if (r0:Int).toNat=r0∧(((h.reg r0).l.length:Nat):Int).toNat=(h.reg r0).l.length then _ else _
     rw [if_pos ⟨Jo,Jo⟩]
end
section
variable {φ:RMap}{h:HpS}{e:EstS}{v:Val}{n:Int}
theorem dU {p:Nat×Nat}(ha:h.at_ v=some p):(v.kind=3∨v.kind=4)∧h.has v.region=true∧v.region=p.1∧v.thing=p.2∧Pg h p.1 p.2 (h.thg p.1 p.2)∧(h.thg p.1 p.2).array=decide (v.kind=4):=by
 unfold HpS.at_ at ha;split at ha
 · rename_i hc;obtain ⟨h1,h2,h3,h4,h5⟩:=hc;cases ha;have hr:=(jH h2).1;refine ⟨h1,h2,by show v.region=(v.region.toNat:Int);omega,by show v.thing=(v.thing.toNat:Int);omega,⟨by rw [Fb hr];exact h2,?_⟩,h5⟩;unfold HpS.thg;rw [Fb hr,EL,EH Jo];rfl
 · cases ha
theorem WHR.place (H:WHR φ h e)(hv:M8 φ h v n){p:Nat×Nat}(ha:h.at_ v=some p):n=φ.a p.1 p.2∧Pg h p.1 p.2 (h.thg p.1 p.2)∧(h.thg p.1 p.2).array=decide (v.kind=4):=by
 obtain ⟨h1,h2,h3,h4,h5,h6⟩:=dU ha;refine ⟨?_,h5,h6⟩;have:=(hv.2.2.2 h1 h2).2.2;rw [h3,h4] at this;exact this
theorem WHR.get (H:WHR φ h e)(hv:M8 φ h v n){k:Int}(hg:(h.get v k).2=0):∃o:Int,o=(if v.kind=4 then 1 else 0)∧0≤n∧0≤k∧n+o+k<1024∧M8 φ h (h.get v k).1 (e.word (n+o+k)):=by
 unfold HpS.get at hg ⊢
 cases ha:h.at_ v with
 | none=>rw [ha] at hg;cases hg
 | some p=>
   rw [ha] at hg;obtain ⟨rfl,ht,hk⟩:=H.place hv ha;obtain ⟨g1,g2,g3⟩:=H.addr ht;simp only at hg ⊢;split at hg
   · rename_i hc
     rw [if_pos hc];have ho:(h.thg p.1 p.2).off=if v.kind=4 then 1 else 0:=by unfold Thg.off;rw [hk];simp
     have hsz:(h.thg p.1 p.2).off+(h.thg p.1 p.2).l.length≤(h.thg p.1 p.2).size:=DX;refine ⟨_,ho,g1,hc.1,?_,?_⟩
     · omega
     · have hlen:k.toNat<(h.thg p.1 p.2).l.length:=Dc;have h1:=(H.lies _ _ _ ht).2 k.toNat ((h.thg p.1 p.2).l.getD k.toNat Val.zero) (by rw [EL,EH hlen];rfl);rw [Fb hc.1] at h1;exact h1
   · cases hg
theorem WHR.len (H:WHR φ h e)(hv:M8 φ h v n)(hk:v.kind=4)(hg:(h.len v).2=0):e.word n=(h.len v).1∧0≤n∧n+1+(h.len v).1≤1024∧∀k,(h.get v k).2=if 0≤k∧k<(h.len v).1 then 0 else 1:=by
 unfold HpS.len at hg ⊢;unfold HpS.get
 cases ha:h.at_ v with
 | none=>rw [ha] at hg;cases hg
 | some p=>
   obtain ⟨rfl,ht,hk2⟩:=H.place hv ha;obtain ⟨g1,g2,g3⟩:=H.addr ht;have har:(h.thg p.1 p.2).array=true:=(by rw [hk2];simp [hk]);have hsz:(h.thg p.1 p.2).size=1+(h.thg p.1 p.2).l.length:=(by unfold Thg.size;rw [if_pos har]);refine ⟨(H.lies _ _ _ ht).1 har,g1,by simp only;omega,fun k=>?_⟩;simp only;split<;>rfl
theorem dV {k:Int}(hg:(h.get v k).2≠20):(h.len v).2=0:=by
 unfold HpS.get at hg;unfold HpS.len
 cases ha:h.at_ v with
 | none=>rw [ha] at hg;exact absurd rfl hg
 | some p=>rfl
theorem Zp {k:Int}{y:Val}(hg:h.setC v k y≠20):(h.len v).2=0:=by
 unfold HpS.setC at hg;unfold HpS.len
 cases ha:h.at_ v with
 | none=>rw [ha] at hg;exact absurd rfl hg
 | some p=>rfl
theorem Wn (hk:v.kind=4){k:Int}{y:Val}(hg:h.setC v k y≠20):h.setC v k y=if 0≤k∧k<(h.len v).1 then 0 else 1:=by
 unfold HpS.setC at hg ⊢;unfold HpS.len
 cases ha:h.at_ v with
 | none=>rw [ha] at hg;exact absurd rfl hg
 | some p=>
   rw [ha] at hg;simp only at hg ⊢;split at hg
   · exact absurd rfl hg
   · rename_i hc;rw [if_neg hc]
theorem WHR.set (H:WHR φ h e)(hv:M8 φ h v n){k ny:Int}{y:Val}(hy:M8 φ h y ny)(hg:h.setC v k y=0):∃o:Int,o=(if v.kind=4 then 1 else 0)∧0≤n∧0≤k∧n+o+k<1024∧WHR φ (h.set v k y) (e.store (n+o+k) ny)∧Mk φ h φ (h.set v k y):=by
 have hg0:=hg;unfold HpS.setC at hg;unfold HpS.set;rw [hg0]
 cases ha:h.at_ v with
 | none=>rw [ha] at hg;cases hg
 | some p =>
   rw [ha] at hg;obtain ⟨rfl,ht,hk⟩:=H.place hv ha;obtain ⟨g1,g2,g3⟩:=H.addr ht;obtain ⟨r,t⟩:=p;simp only at hg ht hk g1 g2 g3 hv ⊢;split at hg
   · cases hg
   · split at hg
     · rename_i hc
       rw [if_pos trivial];have ho:(h.thg r t).off=if v.kind=4 then 1 else 0:=by unfold Thg.off;rw [hk];simp
       have hsz:(h.thg r t).off+(h.thg r t).l.length≤(h.thg r t).size:=DX;have ho0:0≤(h.thg r t).off:=(by unfold Thg.off;split<;>omega);have hrg:∀q:Int,(⟨h.l.set r ((h.reg r).upd t ((h.thg r t).upd k.toNat y)),h.left⟩:HpS).reg q=if q=r then (h.reg r).upd t ((h.thg r t).upd k.toNat y) else h.reg q:=fun q=>Go.Lir.reg_set (left':=h.left) (by have:=(jH ht.1).2;omega) q
       have hhas:∀q:Int,(⟨h.l.set r ((h.reg r).upd t ((h.thg r t).upd k.toNat y)),h.left⟩:HpS).has q=h.has q:=fun q=>by
        unfold HpS.has;rw [hrg];by_cases hq:q=r
        · rw [if_pos hq,hq];rfl
        · rw [if_neg hq]
       have hlen:∀q:Int,((⟨h.l.set r ((h.reg r).upd t ((h.thg r t).upd k.toNat y)),h.left⟩:HpS).reg q).l.length=(h.reg q).l.length:=fun q=>by
        rw [hrg];by_cases hq:q=r
        · rw [if_pos hq,hq];show ((h.reg r).l.set t _).length=_;rw [Fe]
        · rw [if_neg hq]
       have hM:Mk φ h φ ⟨h.l.set r ((h.reg r).upd t ((h.thg r t).upd k.toNat y)),h.left⟩:=fun u m hu=>by
        refine ⟨hu.1,fun hk=>?_,fun hk hh=>hu.2.2.1 hk DP,fun hk hh=>?_⟩
        · simp only [Fe];exact hu.2.1 hk
        · rw [hlen];exact hu.2.2.2 hk DP
       have hreg:∀q:Int,q≠r→(⟨h.l.set r ((h.reg r).upd t ((h.thg r t).upd k.toNat y)),h.left⟩:HpS).reg q=h.reg q:=fun q hq=>by rw [hrg,if_neg hq]
       have hth:∀(r' t':Nat) (x:Thg),Pg ⟨h.l.set r ((h.reg r).upd t ((h.thg r t).upd k.toNat y)),h.left⟩ r' t' x→(r'=r∧t'=t∧x=(h.thg r t).upd k.toNat y)∨(¬(r'=r∧t'=t)∧Pg h r' t' x):=fun r' t' x hx=>by
        obtain ⟨h1,h2⟩:=hx;rw [hhas] at h1;by_cases hr:r'=r
        · subst hr
          rw [hrg,if_pos rfl] at h2;have h2:((h.reg r').l.set t ((h.thg r' t).upd k.toNat y))[t']?=some x:=h2;by_cases ht':t'=t
          · subst ht';rw [Gf (EJ.1 ht.2).1] at h2;cases h2;exact .inl ⟨rfl,rfl,rfl⟩
          · rw [Gd (G4 ht')] at h2;exact .inr ⟨fun hc=>ht' hc.2,h1,h2⟩
        · rw [hreg _ Jo] at h2;exact .inr ⟨fun hc=>hr hc.1,h1,h2⟩
       have hsame:∀(r' t':Nat) (x:Thg),Pg ⟨h.l.set r ((h.reg r).upd t ((h.thg r t).upd k.toNat y)),h.left⟩ r' t' x→∃x0,Pg h r' t' x0∧x0.size=x.size:=fun r' t' x hx=>by
        rcases hth r' t' x hx with ⟨rfl,rfl,rfl⟩|⟨_,hx⟩
        · exact ⟨_,ht,by unfold Thg.size Thg.upd LB;simp⟩
        · exact ⟨x,hx,rfl⟩
       have hin:e.p.isIn (φ.a r t+(h.thg r t).off+k)=true:=L4.2 Jo;have hw:∀i,(e.store (φ.a r t+(h.thg r t).off+k) ny).word i=if i=φ.a r t+(h.thg r t).off+k then ny else e.word i:=qB H.ok.pok hin
       refine ⟨_,ho,g1,hc.1,Jo,?_⟩;refine ⟨⟨Wl H.ok _ _,by show h.left=((e.p.store _ _).fr.length:Int);rw [HG];exact H.left,?_,fun r' hr'=>?_,fun r' q hr hq hs=>H.inj r' q (by rw [←hhas];exact hr) (by rw [←hhas];exact hq) hs,fun k' hk' hp j h1 h2=>?_,fun r' t' x hx=>?_,fun r' t' x r2 t2 x2 hx hx2 hn=>?_,fun r' t' x hx=>?_⟩,hM⟩
       · have h5:=fF (r':=(h.reg r).upd t ((h.thg r t).upd k.toNat y)) (RZ ht.1).2.2.1;rw [show ((h.reg r).upd t ((h.thg r t).upd k.toNat y)).there=(h.reg r).there from rfl] at h5;have h4:=H.cnt;unfold HpS.live at h4 ⊢;simp only [E5] at h5 ⊢;(have h6:∀q:EstS,q.rs=e.rs→q.count=e.count:=fun q hq=>by unfold EstS.count;rw [hq]);rw [h6 (e.store _ _) rfl];omega
       · rw [hhas] at hr'
         obtain ⟨k1,k2,k3,k4⟩:=H.live r' hr';refine ⟨k1,k2,?_⟩;rw [hrg];by_cases hq:(r':Int)=r
         · rw [if_pos hq,←hq];exact ⟨k3,k4⟩
         · rw [if_neg hq];exact ⟨k3,k4⟩
       · have h3:=hw ((e.reg k').last*16+j)
         refine h3.trans ?_;obtain ⟨q,q1,q2,q3⟩:=H.at_ r t _ ht;have hs:=(H.live r ht.1).1;have hlq:=lZ H.ok hs (q:=q);have hu:=HP H.ok hk';have h1:(e.reg k').used≤j:=h1;have hp:(e.reg k').pages≠[]:=hp;rw [if_neg]
         · exact H.z k' hk' hp j h1 h2
         · intro hc2;have hqe:q=(e.reg k').last:=Dc;have hkk:=qC H.ok hs hk' q1 (hqe ▸ qD hp);have:(e.reg (φ.σ r)).lim q=(e.reg (φ.σ r)).used:=(by unfold Reg.lim;rw [if_pos (by rw [hqe,hkk])]);rw [hkk] at this q3;omega
       · obtain ⟨x0,hx0,hs0⟩:=hsame r' t' x hx;rw [←hs0];exact H.at_ r' t' x0 hx0
       · obtain ⟨x0,hx0,hs0⟩:=hsame r' t' x hx;obtain ⟨y0,hy0,hs1⟩:=hsame r2 t2 x2 hx2;rw [←hs0,←hs1];exact H.apart _ _ _ _ _ _ hx0 hy0 hn
       · rcases hth r' t' x hx with ⟨rfl,rfl,rfl⟩|⟨hn,hx⟩
         · have hl:=H.lies _ _ _ ht
           refine ⟨fun har=>?_,fun i u hu=>?_⟩
           · have har':(h.thg r' t').array=true:=har;rw [hw,if_neg (by unfold Thg.off;rw [if_pos har'];omega)];rw [hl.1 har'];show ((h.thg r' t').l.length:Int)=(((h.thg r' t').l.set k.toNat y).length:Int);rw [Fe]
           · have hu:((h.thg r' t').l.set k.toNat y)[i]?=some u:=hu
             show M8 φ _ u ((e.store _ ny).word (φ.a r' t'+(h.thg r' t').off+i));rw [hw];by_cases hik:i=k.toNat
             · subst hik;rw [Gf Jo] at hu;cases hu;rw [if_pos Jo];exact hM _ _ hy
             · rw [Gd (G4 hik)] at hu;rw [if_neg Jo];exact hM _ _ (hl.2 i u hu)
         · have hap:=H.apart _ _ _ _ _ _ hx ht hn;refine hM.lies (e:=e) (fun i i1 i2=>?_) (H.lies _ _ _ hx);rw [hw,if_neg Jo]
     · cases hg
end
section
def jI (φ:RMap)(h:HpS)(g:Frm)(g':RFrm):Prop:=g.f=g'.f∧g.b=g'.b∧g.i=g'.i∧Ln φ h g.vals g'.vals
def Wo (φ:RMap)(h:HpS):List Frm→List RFrm→Prop
 | [],[]=>True
 | a::l,b::l'=>jI φ h a b∧Wo φ h l l'
 | _,_=>False
structure SimF (φ:RMap) (s:MS) (r:RS):Prop where
 hr:WHR φ s.h r.e
 g:jI φ s.h s.g r.g
 st:Wo φ s.h s.st r.st
 inp:s.inp=r.inp
 out:s.out=r.out
 fuel:s.fuel=r.fuel
def wI (s:MS)(r:RS):Prop:=∃φ,SimF φ s r
def Mr:Stp→RStp→Prop
 | .lost,_=>True
 | .go s,r=>∃r',r= .go r'∧wI s r'
 | .halt e,r=>r= .halt e
 | .done l,r=>r= .done l
theorem NU {x:Option α}{f:α→Stp}{Y:RStp}(h:∀a,x=some a→Mr (f a) Y):Mr (obind x f) Y:=by
 cases x with
 | none=>trivial
 | some a=>exact h a rfl
theorem Xf [Decidable p]{Y:RStp}(h:¬p→Mr X Y):Mr (if p then .lost else X) Y:=by
 split
 · trivial
 · rename_i hp;exact h hp
variable {m:Module}{φ φ':RMap}{h h':HpS}{s:MS}{r:RS}{k:Int}
theorem Mk.frs (hM:Mk φ h φ' h'):∀{l:List Frm}{l':List RFrm},Wo φ h l l'→Wo φ' h' l l'
 | [],[],_=>trivial
 | a::l,b::l',hf=>⟨⟨hf.1.1,hf.1.2.1,hf.1.2.2.1,hM.vrs hf.1.2.2.2⟩,Mk.frs hM hf.2⟩
 | [],_::_,hf=>hf.elim
 | _::_,[],hf=>hf.elim
theorem wJ:∀{l:List Frm}{l':List RFrm},Wo φ h l l'→l.length=l'.length
 | [],[],_=>rfl
 | a::l,b::l',hf=>by rw [ET,ET,wJ hf.2]
 | [],_::_,hf=>hf.elim
 | _::_,[],hf=>hf.elim
theorem Wp {g':RFrm}(hf:jI φ h g g'){v:Val}(hv:g.val k=some v):∃n,g'.val k=some n∧M8 φ h v n:=by
 unfold Frm.val at hv;unfold RFrm.val;split at hv
 · cases hv
 · rename_i hk;rw [if_neg hk];exact hf.2.2.2.get hv
theorem aL {g':RFrm}(hf:jI φ h g g'){n:Int}(hv:g.num k=some n):g'.val k=some n:=by
 unfold Frm.num at hv
 cases hx:g.val k with
 | none=>rw [hx] at hv;cases hv
 | some v=>
   rw [hx] at hv;simp only at hv;split at hv
   · rename_i hk;cases hv;obtain ⟨n,hn,hr⟩:=Wp hf hx;rw [hn,hr.1 hk]
   · cases hv
theorem jJ {g:Frm}{g':RFrm}(hf:jI φ h g g'):∀{l:List Int}{vs:List Val},g.args l=some vs→∃ns,g'.args l=some ns∧Ln φ h vs ns∧vs.length=l.length
 | [],vs,hv=>by rw [Frm.args] at hv;cases hv;exact ⟨[],rfl,Ln.nil _ _,rfl⟩
 | k ::l,vs,hv=>by
   rw [Frm.args] at hv
   cases hx:g.val k with
   | none=>rw [hx] at hv;cases hv
   | some v=>
     rw [hx] at hv
     cases hl:g.args l with
     | none=>rw [hl] at hv;cases hv
     | some ws=>
       rw [hl] at hv;cases hv;obtain ⟨n,hn,hr⟩:=Wp hf hx;obtain ⟨ns,hns,hrs,hlen⟩:=jJ hf hl;exact ⟨n::ns,by rw [RFrm.args,hn,hns],Ln.cons hr hrs,by rw [ET,ET,hlen]⟩
theorem SimF.put (S:SimF φ s r)(hv:Ln φ s.h vs ns):SimF φ (s.put vs) (r.put ns):=
 ⟨S.hr,⟨S.g.1,S.g.2.1,S.g.2.2.1,S.g.2.2.2.app hv⟩,S.st,S.inp,S.out,S.fuel⟩
theorem SimF.heap (S:SimF φ s r){h':HpS}{e':EstS}(H:WHR φ' h' e')(hM:Mk φ s.h φ' h'):SimF φ' (s.hp h') (r.es e'):=
 ⟨H,⟨S.g.1,S.g.2.1,S.g.2.2.1,hM.vrs S.g.2.2.2⟩,hM.frs S.st,S.inp,S.out,S.fuel⟩
theorem MT {s':MS}{r':RS}(S:SimF φ s' r'):Mr (.go s') (.go r'):=⟨r',rfl,φ,S⟩
theorem SA {n:Int}(h0:0≤n)(h1:n≤100000):wr n=n:=ZN Jo Jo
theorem jK (S:SimF φ s r):Mr s.newR (if r.e.openV<0 then .halt 6 else .go ((r.es r.e.open).put [r.e.openV])):=by
 unfold MS.newR;have hf:=S.hr.full;by_cases hc:s.h.full=true
 · rw [if_pos hc,if_pos (hf.1 hc)];rfl
 · rw [if_neg hc,if_neg (fun h=>hc (hf.2 h))];obtain ⟨φ',H',hM,hv⟩:=S.hr.open Dx;exact MT (φ:=φ') ⟨H',⟨S.g.1,S.g.2.1,S.g.2.2.1,(hM.vrs S.g.2.2.2).app (Hp hv)⟩,hM.frs S.st,S.inp,S.out,S.fuel⟩
theorem Wq (S:SimF φ s r){v:Val}{n:Int}(hv:M8 φ s.h v n){x:Int}{t:Thg}(hs:t.size=x)(hx:x≤16)(hkd:kd=3∨kd=4)(f:EstS→Int→EstS)
 (hf:s.h.code v x=0→∀A,A=r.e.getV n x→(f (r.e.get n x) A).Ok∧(f (r.e.get n x) A).rs=(r.e.get n x).rs∧(f (r.e.get n x) A).p.fr=(r.e.get n x).p.fr∧(∀i,¬(A≤i∧i<A+x)→(f (r.e.get n x) A).word i=(r.e.get n x).word i)∧Sz φ s.h (f (r.e.get n x) A) A t):
 Mr (s.made (s.h.code v x) (s.h.put v x t) (s.h.putV v kd x)) (r.gotR n x fun e at_=> .go ((r.es (f e at_)).put [at_])):=by
 unfold MS.made;have hx1:1≤x:=hs ▸ wG t;by_cases h20:s.h.code v x=20
 · rw [if_neg Jo,if_pos Jo];trivial
 · have hc:=S.hr.code hv (l0 h20) ⟨hx1,hx⟩
   unfold RS.gotR;rw [hc];by_cases h14:s.h.code v x=14
   · rw [if_pos h14,if_pos h14];rfl
   · rw [if_neg h14,if_neg h14];refine Xf fun h0=>?_;have h0:s.h.code v x=0:=Dc;obtain ⟨g1,g2,g3,g4,g5⟩:=hf h0 _ rfl;obtain ⟨φ',H',hM,hv'⟩:=S.hr.put hv hs hx h0 hkd g1 g2 g3 g4 g5;exact MT ((S.heap H' hM).put (Hp hv'))
theorem Wr (H:WHR φ h r.e){v:Val}{n:Int}(hv:M8 φ h v n){x:Int}(hx1:1≤x)(hx:x≤16)(h0:h.code v x=0):(r.e.get n x).Ok∧0≤r.e.getV n x∧r.e.getV n x+x≤(((r.e.get n x).p.n*16:Nat):Int)∧r.e.getV n x+x≤1024∧∀i,r.e.getV n x≤i→i<r.e.getV n x+x→(r.e.get n x).word i=0:=by
 have hcan:=l0 (h:=h) (v:=v) (x:=x) Jo;have hc0:r.e.code n x=0:=(H.code hv hcan ⟨hx1,hx⟩).trans h0;obtain ⟨r0,hr0,hh0,rfl,hlt0⟩:=H.slot hv hcan;obtain ⟨hm,hth0,hpg,hus⟩:=H.live r0 hh0;obtain ⟨P,u,G⟩:=jG H.ok hm hc0;have hok:=EstS.ok_get H.ok (φ.σ r0) x;have hux:=G.ux;have hv:=G.v;have hp:=qE hok hm G.mem;have h64:=hok.n64;refine ⟨hok,Jo,Jo,Jo,fun i i1 i2=>?_⟩;show (r.e.get (φ.σ r0) x).p.word i=0;by_cases hpp:P∈(r.e.reg (φ.σ r0)).pages
 · obtain ⟨h6,h7⟩:=G.old hpp;rw [G.wo hpp];have:=H.z _ hm Es (i - P*16) Jo Jo;rw [←h6,show P*16+(i - P*16)=i by omega] at this;exact this
 · exact G.wz hpp _ Jo
theorem Zq (S:SimF φ s r){v:Val}{n:Int}(hv:M8 φ s.h v n){l:List Val}(hl:Ln φ s.h l ns)(hq:l.length=q)(h16:q≤16):
 Mr (s.made (s.h.code v (LB l)) (s.h.tuple v l) (s.h.putV v 3 (LB l))) (r.gotR n (max (q:Int) 1) fun e at_=> .go ((r.es (e.stores at_ ns)).put [at_])):=by
 have hw:max (q:Int) 1=LB l:=(by unfold LB;split<;>omega);rw [hw];have hw1:1≤LB l∧LB l≤16∧(l.length:Int)≤LB l:=(by unfold LB;split<;>omega);have hln:=hl.1;refine Wq S hv (t:=⟨false,l⟩) (by unfold Thg.size;rfl) hw1.2.1 (.inl rfl) (fun e a=>e.stores a ns) fun h0 A hA=>?_;subst hA;obtain ⟨hok,a0,a1,a2,az⟩:=Wr S.hr hv hw1.1 hw1.2.1 h0;obtain ⟨g1,g2,g3,g4,g5⟩:=Wm (l:=ns) hok a0 Jo;refine ⟨g1,g2,g4,fun i hi=>(by rw [g5,if_neg Jo]),fun ha=>(by cases ha),fun i u hu=>?_⟩;have hi:=(EJ.1 hu).1;have hi:i<l.length:=hi;rw [g5];show M8 φ s.h u (if r.e.getV n (LB l)≤r.e.getV n (LB l)+0+i∧r.e.getV n (LB l)+0+i<r.e.getV n (LB l)+ns.length then ns.getD (r.e.getV n (LB l)+0+i - r.e.getV n (LB l)).toNat 0 else _);rw [if_pos Jo,show (r.e.getV n (LB l)+0+i - r.e.getV n (LB l)).toNat=i by omega];obtain ⟨y,hy,hvy⟩:=hl.get hu;rw [EL,hy];exact hvy
theorem Zr (S:SimF φ s r){v:Val}{n k:Int}(hv:M8 φ s.h v n)(h0:0≤k)(h15:k≤15):
 Mr (s.made (s.h.arrC v k) (s.h.arr v k) (s.h.arrV v k)) (r.gotR n (1+k) fun e at_=> .go ((r.es (e.store at_ k)).put [at_])):=by
 have hc:¬(k<0∨15<k):=Dc;unfold HpS.arrC HpS.arr HpS.arrV;rw [if_neg hc,if_neg hc,if_neg hc,show 1+k=k+1 by omega];have hnl:(OU k).length=k.toNat:=FO;refine Wq S hv (t:=⟨true,OU k⟩) (by unfold Thg.size;rw [if_pos rfl];show 1+((OU k).length:Int)=_;rw [hnl];omega) Jo (.inr rfl) (fun e a=>e.store a k) fun hc0 A hA=>?_;subst hA;obtain ⟨hok,a0,a1,a2,az⟩:=Wr S.hr hv Jo Jo hc0;have hin:(r.e.get n (k+1)).p.isIn (r.e.getV n (k+1))=true:=L4.2 Jo;have hw:∀i,((r.e.get n (k+1)).store (r.e.getV n (k+1)) k).word i=if i=r.e.getV n (k+1) then k else (r.e.get n (k+1)).word i:=qB hok.pok hin
 refine ⟨Wl hok _ _,rfl,HG,fun i hi=>(by rw [hw,if_neg Jo]),fun _=>?_,fun i u hu=>?_⟩
 · rw [hw,if_pos rfl];show k=((OU k).length:Int);rw [hnl];omega
 · have hu:(OU k)[i]?=some u:=hu
   have hi:=(EJ.1 hu).1;rw [hnl] at hi
   have hue:u=Ku 0:=by
    unfold OU at hu;rw [FW] at hu;rw [if_pos hi] at hu;exact (E4 hu).symm
   rw [hue,hw,if_neg (by show¬(_+1+_=_);omega),az _ (by show _≤_+1+_;omega) (by show _+1+_ < _;omega)];exact Iy _ _ _
theorem qH {v:Val}{c:Int}{Y:RStp}(h:v.kind=4→c≠20→(c=1→Y= .halt 2)∧(c=0→Mr X Y))(hc:c=0∨c=1∨c=20):Mr (Nf v c X) Y:=by
 unfold Nf;refine Xf fun hk=>?_;have hk:v.kind=4:=Dc;rcases hc with hc|hc|hc
 · rw [if_neg Jo,if_neg Jo];exact (h hk Jo).2 hc
 · rw [if_pos hc];exact (h hk Jo).1 hc
 · rw [if_neg Jo,if_pos Jo];trivial
theorem Qiw (h:HpS)(v:Val)(k:Int):(h.get v k).2=0∨(h.get v k).2=1∨(h.get v k).2=20:=by
 unfold HpS.get;split
 · simp
 · split<;>simp
theorem Qfw (h:HpS)(v:Val)(k:Int)(y:Val):h.setC v k y=0∨h.setC v k y=1∨h.setC v k y=20:=by
 unfold HpS.setC;split
 · simp
 · split
   · simp
   · split<;>simp
theorem Qi3 (h:HpS)(v:Val):(h.len v).2=0∨(h.len v).2=1∨(h.len v).2=20:=by
 unfold HpS.len;split<;>simp
theorem jL (S:SimF φ s r){x:Ins}(h16:x.args.length≤16):Mr (s.ins m x) (r.ins m x):=by
 have hg:=S.g;unfold MS.ins RS.ins;by_cases o1:x.op=1
 · rw [if_pos o1,if_pos o1];exact MT (S.put (Hp (Iy _ _ _)))
 rw [if_neg o1,if_neg o1];by_cases o2:x.op=2
 · rw [if_pos o2,if_pos o2]
   refine NU fun a ha=>NU fun b hb=>?_;rw [Ot (aL hg ha),Ot (aL hg hb)];split
   · rfl
   · exact MT (S.put (Hp (Iy _ _ _)))
 rw [if_neg o2,if_neg o2];by_cases o3:x.op=3
 · rw [if_pos o3,if_pos o3];exact jK S
 rw [if_neg o3,if_neg o3];by_cases o4:x.op=4
 · rw [if_pos o4,if_pos o4];refine NU fun v hv=>?_;obtain ⟨n,hn,hr⟩:=Wp hg hv;rw [Ot hn];refine Xf fun hc=>?_;obtain ⟨H',hM⟩:=S.hr.shut hr Dx;exact MT (S.heap H' hM)
 rw [if_neg o4,if_neg o4];by_cases o5:x.op=5
 · rw [if_pos o5,if_pos o5];refine NU fun v hv=>NU fun l hl=>?_;obtain ⟨n,hn,hr⟩:=Wp hg hv;obtain ⟨ns,hns,hrs,hlen⟩:=jJ hg hl;rw [Ot hn,Ot hns];exact Zq S hr hrs hlen h16
 rw [if_neg o5,if_neg o5];by_cases o6:x.op=6
 · rw [if_pos o6,if_pos o6];refine NU fun v hv=>?_;obtain ⟨n,hn,hr⟩:=Wp hg hv;rw [Ot hn];refine Xf fun hk=>Xf fun h0=>?_;obtain ⟨o,ho,p0,p1,p2,p3⟩:=S.hr.get hr (k:=x.k) Jo;rw [if_neg Jo] at ho;subst ho;rw [SA Jo Jo];rw [I3] at p3;exact MT (S.put (Hp p3))
 rw [if_neg o6,if_neg o6];by_cases o7:x.op=7
 · rw [if_pos o7,if_pos o7];refine NU fun v hv=>?_;obtain ⟨n,hn,hr⟩:=Wp hg hv;rw [Ot hn];refine Xf fun hk=>NU fun y hy=>?_;obtain ⟨b,hb,hry⟩:=Wp hg hy;rw [Ot hb];refine Xf fun h0=>?_;obtain ⟨o,ho,p0,p1,p2,p3,p4⟩:=S.hr.set hr (k:=x.k) hry Jo;rw [if_neg Jo] at ho;subst ho;rw [SA Jo Jo];rw [I3] at p3;exact MT (S.heap p3 p4)
 rw [if_neg o7,if_neg o7];by_cases o8:x.op=8
 · rw [if_pos o8,if_pos o8]
   refine NU fun v hv=>NU fun k hk=>?_;obtain ⟨n,hn,hr⟩:=Wp hg hv;rw [Ot hn,Ot (aL hg hk)];by_cases hc:k<0∨15<k
   · rw [if_pos hc,if_pos hc];rfl
   · rw [if_neg hc,if_neg hc];exact Zr S hr Jo Jo
 rw [if_neg o8,if_neg o8];by_cases o9:x.op=9
 · rw [if_pos o9,if_pos o9]
   refine NU fun v hv=>NU fun k hk=>?_;obtain ⟨n,hn,hr⟩:=Wp hg hv;rw [Ot hn,Ot (aL hg hk)];refine qH (fun h4 h20=>?_) (Qiw _ _ _);obtain ⟨q1,q2,q3,q4⟩:=S.hr.len hr h4 (dV h20);unfold RS.atR;rw [q1];have q5:=q4 k;refine ⟨fun h1=>if_pos ?_,fun h0=>?_⟩
   · rw [h1] at q5;split at q5<;>omega
   · obtain ⟨o,ho,p0,p1,p2,p3⟩:=S.hr.get hr h0;rw [if_pos h4] at ho;subst ho;rw [if_neg Ee,SA (n:=n+1) Jo Jo,SA Jo Jo];exact MT (S.put (Hp p3))
 rw [if_neg o9,if_neg o9];by_cases o10:x.op=10
 · rw [if_pos o10,if_pos o10]
   refine NU fun v hv=>NU fun k hk=>NU fun c hc=>?_;obtain ⟨n,hn,hr⟩:=Wp hg hv;rw [Ot hn,Ot (aL hg hk),Ot (aL hg hc)];refine qH (fun h4 h20=>?_) (Qfw _ _ _ _);obtain ⟨q1,q2,q3,q4⟩:=S.hr.len hr h4 (Zp h20);have q5:=Wn h4 h20;unfold RS.atR;rw [q1];refine ⟨fun h1=>if_pos ?_,fun h0=>?_⟩
   · rw [h1] at q5;split at q5<;>omega
   · obtain ⟨o,ho,p0,p1,p2,p3,p4⟩:=S.hr.set hr (Iy φ s.h c) h0;rw [if_pos h4] at ho;subst ho;rw [if_neg Ee,SA (n:=n+1) Jo Jo,SA Jo Jo];exact MT (S.heap p3 p4)
 rw [if_neg o10,if_neg o10];by_cases o11:x.op=11
 · rw [if_pos o11,if_pos o11]
   refine NU fun v hv=>?_;obtain ⟨n,hn,hr⟩:=Wp hg hv;rw [Ot hn];refine qH (fun h4 h20=>?_) (Qi3 _ _);refine ⟨fun h1=>?_,fun h0=>?_⟩
   · unfold HpS.len at h1;split at h1<;>simp at h1
   · obtain ⟨q1,_⟩:=S.hr.len hr h4 h0;rw [q1];exact MT (S.put (Hp (Iy _ _ _)))
 rw [if_neg o11,if_neg o11];by_cases o12:x.op=12
 · rw [if_pos o12,if_pos o12]
   unfold MS.inS RS.inR;rw [←S.inp]
   cases s.inp with
   | nil=>rfl
   | cons n l=>
     have S':SimF φ ⟨s.h,s.g,s.st,l,s.out,s.fuel⟩ ⟨r.e,r.g,r.st,l,r.out,r.fuel⟩:=⟨S.hr,S.g,S.st,rfl,S.out,S.fuel⟩;exact MT (S'.put (Hp (Iy _ _ _)))
 rw [if_neg o12,if_neg o12];by_cases o13:x.op=13
 · rw [if_pos o13,if_pos o13]
   refine NU fun n hn=>?_;rw [Ot (aL hg hn)];unfold MS.outS RS.outR;rw [←S.out];split
   · rfl
   · exact MT (φ:=φ) ⟨S.hr,S.g,S.st,S.inp,rfl,S.fuel⟩
 rw [if_neg o13,if_neg o13];unfold MS.call
 cases hf:m.funcs[x.k.toNat]? with
 | none=>trivial
 | some gf=>
   refine NU fun rs hrs=>NU fun vs hvs=>?_;obtain ⟨ns,hns,hv,hlen⟩:=jJ hg hvs;rw [Ot hns];refine Xf fun _=>?_;have hst:=wJ S.st;unfold RS.callR;by_cases h40:s.st.length+1=40
   · rw [if_pos h40,if_pos Jo];rfl
   · rw [if_neg h40,if_neg Jo];exact MT (φ:=φ) ⟨S.hr,⟨rfl,rfl,rfl,hv⟩,⟨S.g,S.st⟩,S.inp,S.out,S.fuel⟩
theorem dW (S:SimF φ s r):Mr (s.to f t) (r.to t):=by
 unfold MS.to RS.to
 cases hb:f.blocks[t.block.toNat]? with
 | none=>trivial
 | some b=>
   refine NU fun rs hrs=>NU fun vs hvs=>?_;obtain ⟨ns,hns,hv,hlen⟩:=jJ S.g hvs;rw [Ot hns];refine Xf fun _=>?_;exact MT (φ:=φ) ⟨S.hr,⟨S.g.1,rfl,rfl,hv⟩,S.st,S.inp,S.out,S.fuel⟩
theorem wK:∀{vs:List Val}{ns l:List Int},Ln φ h vs ns→Kr vs=some l→l=ns
 | [],ns,l,hv,hi=>by
   rw [Kr] at hi;cases hi;exact (Gt.1 hv.1.symm).symm
 | v::vs,[],l,hv,hi=>by have:=hv.1;simp at this
 | v ::vs,n::ns,l,hv,hi=>by
   rw [Kr] at hi
   cases hx:Kr vs with
   | none=>rw [hx] at hi;cases hi
   | some l'=>
     rw [hx] at hi;simp only at hi;split at hi
     · rename_i hk;cases hi;have h1:=wK (ns:=ns) ⟨by have:=hv.1;simpa using this,fun i u q h1 h2=>hv.2 (i+1) u q (by simpa using h1) (by simpa using h2)⟩ hx;have h2:=(hv.2 0 v n rfl rfl).1 hk;rw [h1,h2]
     · cases hi
theorem jM (S:SimF φ s r){e:Tail}(he:1≤e.op∧e.op≤3):Mr (s.fin f e) (r.fin e):=by
 unfold MS.fin RS.fin;by_cases h1:e.op=1
 · rw [if_pos h1,if_neg Jo,if_neg Jo];exact dW S
 rw [if_neg h1];by_cases h2:e.op=2
 · rw [if_pos h2,if_neg Jo,if_pos h2]
   refine NU fun n hn=>?_;rw [Ot (aL S.g hn)];by_cases h0:n=0
   · rw [if_neg Jo,if_pos h0];exact dW S
   · rw [if_pos h0,if_neg h0];exact dW S
 rw [if_neg h2,if_pos Jo];unfold MS.ret;refine NU fun vs hvs=>?_;obtain ⟨ns,hns,hv,hlen⟩:=jJ S.g hvs;rw [Ot hns];refine Xf fun _=>?_;have hst:=S.st
 cases hs:s.st with
 | nil=>
   rw [hs] at hst
   cases hr:r.st with
   | cons c l=>rw [hr] at hst;exact hst.elim
   | nil=>
     simp only
     cases hi:Kr vs with
     | none=>trivial
     | some l=>show RStp.done ns= .done l;rw [wK hv hi]
 | cons c l=>
   rw [hs] at hst
   cases hr:r.st with
   | nil=>rw [hr] at hst;exact hst.elim
   | cons c' l'=>
     rw [hr] at hst;have S':SimF φ ⟨s.h,c,l,s.inp,s.out,s.fuel⟩ ⟨r.e,c',l',r.inp,r.out,r.fuel⟩:=⟨S.hr,hst.1,hst.2,S.inp,S.out,S.fuel⟩;exact MT (S'.put hv)
def Ws (m:Module):Prop:=∀(i j:Nat) (f:Fun) (b:Block),m.funcs[i]?=some f→f.blocks[j]?=some b→(∀x∈b.code,x.args.length≤16)∧1≤b.fin.op∧b.fin.op≤3
theorem jN (hM:Ws m)(S:SimF φ s r):Mr (s.one m) (r.one m):=by
 unfold MS.one RS.one;obtain ⟨e1,e2,e3,hv⟩:=S.g;rw [←e1,←e2,←e3]
 cases hf:m.funcs[s.g.f]? with
 | none=>trivial
 | some f=>
   simp only
   cases hb:f.blocks[s.g.b]? with
   | none=>trivial
   | some b=>
     simp only;obtain ⟨c1,c2⟩:=hM _ _ _ _ hf hb
     cases hx:b.code[s.g.i]? with
     | none=>exact jM S c2
     | some x=>
       have S':SimF φ s.next r.next:=⟨S.hr,⟨e1,e2,by show s.g.i+1=r.g.i+1;omega,hv⟩,S.st,S.inp,S.out,S.fuel⟩;exact jL S' (c1 _ (EI hx))
theorem dX (S:SimF φ s r):SimF φ s.tick r.tick:=⟨S.hr,S.g,S.st,S.inp,S.out,by show s.fuel+1=r.fuel+1;rw [S.fuel]⟩
theorem Zs {pages:Nat}(hp:pages≤64):wI (MS.start inp pages) (RS.start inp pages):=by
 have hreg:∀k:Nat,k<16→(EstS.mk0 pages).reg k=Reg.none:=fun k hk=>by
  unfold EstS.reg;rw [if_pos Jo,E5,EL];show ((List.replicate 16 Reg.none)[k]?).getD Reg.none=_;rw [FW,if_pos hk];rfl
 have hno:∀q:Int,(⟨[],pages⟩:HpS).has q=false:=fun q=>by
  unfold HpS.has HpS.reg;split<;>simp [Rgn.none]
 refine ⟨⟨fun _=>0,fun _ _=>0⟩,⟨EstS.ok_new hp,?_,rfl,fun q hq=>?_,fun q _ hq=>?_,fun k hk hpg=>?_,fun q t x hx=>?_,fun q t x _ _ _ hx=>?_,fun q t x hx=>?_⟩,⟨rfl,rfl,rfl,Ln.nil _ _⟩,trivial,rfl,rfl,rfl⟩
 · show (pages:Int)=((Xd pages pages).length:Int);rw [wc]
 · exact absurd ((hno _).symm.trans hq) Js
 · exact absurd ((hno _).symm.trans hq) Js
 · exact absurd (by show ((EstS.mk0 pages).reg k).pages=[];rw [hreg k hk];rfl) hpg
 · exact absurd ((hno _).symm.trans hx.1) Js
 · exact absurd ((hno _).symm.trans hx.1) Js
 · exact absurd ((hno _).symm.trans hx.1) Js
end
end Go.Proofs.YteflkifmgnpbhaaGreat
namespace Go.Proofs.YteflkifmgnpbhaaGreat
open Go.Lir
attribute [local irreducible] LC.wp Q0 Qh Qd Kq Qz LO.wp Q5 Calls
variable {cx:Cx}{w:World}{L:List Res}{p N:Nat}{c:MC}{fr:List FrmV}{g:FrmV}{h:HpS}{out inp:List Int}{fu:Nat}{m:Module}
end Go.Proofs.YteflkifmgnpbhaaGreat
namespace Go.Lir
def dY (m:Module)(inp:List Int)(fuel pages:Int):LV:=if m.fault.1≠0 then m.fault else if 200<inp.length∨fuel<0∨20000<fuel∨pages<0∨64<pages then (1, -1) else (0,0)
end Go.Lir
namespace Go.Proofs.YteflkifmgnpbhaaGreat
open Go.Lir
attribute [local irreducible] LC.wp Q0 Qh Qd Kq Qz LO.wp Q5 Calls
variable {cx:Cx}{w:World}{L:List Res}{m:Module}{inp:List Int}
@[reducible] def Zt (hp fn lv iv:Value)(fuel:Int):MC:=⟨hp,fn,lv,iv,0, .slice none 0 0, .slice none 0 0,0,fuel,false,0,0⟩
@[reducible] def PD:FrmV:=⟨0,0,0, .slice none 0 0,[], .slice none 0 0,[]⟩
def Zu (m:Module)(inp:List Int)(fuel pages:Int)(cx:Cx)(L:List Res)(u:Value)(w':World):Prop:=
 ((dY m inp fuel pages).1≠0∧u= .tuple #[.pointer none,Kn (dY m inp fuel pages)]∧St cx w' L)∨
 (dY m inp fuel pages=(0,0)∧m.fault.1=0∧inp.length≤200∧0≤fuel∧fuel≤20000∧0≤pages∧pages≤64∧∃c' p hp fn lv iv,u= .tuple #[.pointer (some ⟨p,0,none⟩),Kn (0,0)]∧cx.Le c'∧Kj.sl c' fn m.funcs∧JY.sl c' iv inp∧St c' w' (mS p (Zt hp fn lv iv fuel) [] PD 0 ⟨[],pages⟩ [] L))
end Go.Proofs.YteflkifmgnpbhaaGreat
namespace Go.Lir
def R4 (w:World)(b j:Nat):Value:=(w.cell? ⟨b,j,none⟩).getD undef
theorem wL {c:Cx}{T b i:Nat}(hS:St c w L)(hi:nth L i=some (blk b T cs))(hj:cs[j]?=some u):R4 w b j=u:=by
 unfold R4;rw [(hS.blkAt hi).cell hj];rfl
def aM:Value→Nat
 | .bool true=>0
 | _=>1
end Go.Lir
namespace Go.Proofs.YteflkifmgnpbhaaGreat
open Go.Lir
attribute [local irreducible] LC.wp Q0 Qh Qd Kq Qz LO.wp Q5 Calls
section
variable {cx:Cx}{w:World}{L:List Res}{p N:Nat}{c:MC}{fr:List FrmV}{g:FrmV}{h:HpS}{out inp:List Int}{m:Module}
def SW (c:MC):Nat:=2*(c.mo - c.fu).toNat+aM (.bool c.dn)
def dZ (m:Module)(r:Run)(most k:Nat)(c:MC)(fr:List FrmV)(g:FrmV)(N:Nat)(h:HpS)(inp out:List Int):Prop:=
 c.dn=false∧c.c=0∧c.e=0∧c.fu=k∧k≤most∧c.mo=most∧N≤k∧Bnd m k (J6 h g fr inp out k)∧r=Run.steps m most (most+1 - k) (.on (J6 h g fr inp out k))
def ea (m:Module)(r:Run)(most:Nat)(c:MC)(fr:List FrmV)(g:FrmV)(N:Nat)(h:HpS)(inp out back:List Int):Prop:=
 (back=[]∧∃k,dZ m r most k c fr g N h inp out)∨(c.dn=true∧r.oc=⟨c.e,back,out,c.fu⟩∧r.flt=(0,0)∧out.length≤2000∧back.length≤100000)
theorem dZ.next {r:Run}{most k:Nat}{u:Value}(hI:dZ m r most k c fr g N h inp out)(hM:m.fault.1=0)(hi:JY.sl cx c.iv inp)(hs:aK m p c fr g N h inp out (k+1) cx (sl 2 1 c.bv []::L) u w):
 (u=Kn (0,0)∧∃c' fr' g' N' h' inp' out' back',ea m r most c' fr' g' N' h' inp' out' back'∧c'.fn=c.fn∧JY.sl cx c'.iv inp'∧SW c'<SW c∧St cx w (mS p c' fr' g' N' h' out' (sl 2 1 c'.bv (Qq back')::L)))∨
 ∃f,r= .stuck (20,f)∧u=Kn (20,f)∧St cx w L:=by
 obtain ⟨hdn,hc0,he0,hfu,hkm,hmo,hN,hB,hr⟩:=hI;rcases hs with ⟨h7,rfl,hS⟩|⟨hlt,hs⟩
 · refine .inl ⟨rfl,c.over 7,fr,g,N,h,inp,out,[], .inr ⟨rfl,?_,?_,hB.out,FB _⟩,rfl,hi,?_,hS⟩
   · rw [hr,pR (m:=m) (most:=most) (k:=k) (s:=J6 h g fr inp out k) (by show k=most;omega) rfl];show Oc.mk 7 [] out k=Oc.mk 7 [] out c.fu;rw [hfu]
   · rw [hr,pR (m:=m) (most:=most) (k:=k) (s:=J6 h g fr inp out k) (by show k=most;omega) rfl];rfl
   · unfold SW;rw [hdn];show 2*(c.mo - c.fu).toNat+0<2*(c.mo - c.fu).toNat+1;omega
 · have hst:=hr.trans (uV (m:=m) (most:=most) (k:=k) (s:=J6 h g fr inp out k) (by show k<most;omega) rfl)
   have hone:(J6 h g fr inp out k).tick.one m=(J6 h g fr inp out (k+1)).one m:=rfl;rw [hone] at hst;have hB1:((J6 h g fr inp out (k+1)).one m).All (Bnd m (k+1)):=JR (s:=J6 h g fr inp out (k+1)) (k:=k) ⟨hB.cur,hB.st,hB.sl,hB.out⟩ hM;have hms:2*(c.mo - (c.fu+1)).toNat+1<2*(c.mo - c.fu).toNat+1:=Dc;rcases hs with ⟨rfl,hG⟩|⟨e,hX,rfl,fr',g',N',hN',hS⟩|⟨hX,rfl,hS⟩
   · rcases hG with ⟨lv,iv,ov,fr',g',N',h',inp',out',hX,hi',hN', -,hS⟩|⟨ns,bv,fr',g',hX, -,hS⟩
     · rw [hX] at hst hB1
       refine .inl ⟨rfl,c.tick.upd lv iv ov,fr',g',N',h',inp',out',[], .inl ⟨rfl,k+1,hdn,hc0,he0,?_,Jo,hmo,Jo,hB1,hst⟩,rfl,hi',?_,hS⟩
       · show c.fu+1=((k+1:Nat):Int);omega
       · unfold SW;rw [hdn];exact hms
     · rw [hX] at hst
       rw [show Run.of m (J6 h g fr inp out k) (.done ns)= .over (J6 h g fr inp out k).tick 0 ns from rfl,jg] at hst;refine .inl ⟨rfl,⟨c.hp,c.fn,c.lv,c.iv,c.e,bv,c.ov,c.fu+1,c.mo,true,c.c,c.a⟩,fr',g',N,h,inp,out,ns, .inr ⟨rfl,?_,?_,hB.out,?_⟩,rfl,hi,?_,hS.sp⟩
       · rw [hst];show Oc.mk 0 ns out ((k+1:Nat):Int)=Oc.mk c.e ns out (c.fu+1);rw [hfu,he0];rfl
       · rw [hst];rfl
       · have h8:ns.length≤8:=(by rw [hX] at hB1;exact hB1);omega
       · unfold SW;rw [hdn];show 2*(c.mo - (c.fu+1)).toNat+0 < _;omega
   · rw [hX] at hst
     rw [show Run.of m (J6 h g fr inp out k) (.halt e)= .over (J6 h g fr inp out k).tick e [] from rfl,jg] at hst;refine .inl ⟨rfl,c.tick.over e,fr',g',N',h,inp,out,[], .inr ⟨rfl,?_,?_,hB.out,FB _⟩,rfl,hi,?_,hS⟩
     · rw [hst];show Oc.mk e [] out ((k+1:Nat):Int)=Oc.mk e [] out (c.fu+1);rw [hfu];rfl
     · rw [hst];rfl
     · unfold SW;rw [hdn];show 2*(c.mo - (c.fu+1)).toNat+0 < _;omega
   · rw [hX] at hst;rw [show Run.of m (J6 h g fr inp out k) .lost= .stuck (20,(J6 h g fr inp out k).place m) from rfl,pS] at hst;exact .inr ⟨_,hst,rfl,hS.sp⟩
theorem Zu.bad (hz:(dY m inp fuel pages).1≠0)(hs:Zu m inp fuel pages cx L u w):u= .tuple #[.pointer none,Kn (dY m inp fuel pages)]∧St cx w L:=by
 rcases hs with ⟨_,h1,h2⟩|⟨h1,_⟩
 · exact ⟨h1,h2⟩
 · rw [h1] at hz;exact absurd rfl hz
theorem Zu.ok (hz:(dY m inp fuel pages).1=0)(hs:Zu m inp fuel pages cx L u w):dY m inp fuel pages=(0,0)∧m.fault.1=0∧inp.length≤200∧0≤fuel∧fuel≤20000∧0≤pages∧pages≤64∧∃c' p hp fn lv iv,u= .tuple #[.pointer (some ⟨p,0,none⟩),Kn (0,0)]∧cx.Le c'∧Kj.sl c' fn m.funcs∧JY.sl c' iv inp∧St c' w (mS p (Zt hp fn lv iv fuel) [] PD 0 ⟨[],pages⟩ [] L):=by
 rcases hs with ⟨h1,_⟩|h1
 · exact absurd hz h1
 · exact h1
def wM (o:Oc)(v1 v2:Value):Value:= .agg ⟨[.int .i64 o.e,v1,v2, .int .i64 o.fuel]⟩
theorem wN:JY.ls cx (Qq l) l:=
 ⟨by unfold Qq;simp,fun k x hx=>⟨[.int .i64 x],by unfold Qq;rw [EN,hx];rfl,rfl⟩⟩
theorem ea.first {hp fn lv iv:Value}(hM:m.fault.1=0)(h0:0≤fuel):ea m (Run.all m inp fuel.toNat pages) fuel.toNat (Zt hp fn lv iv fuel) [] PD 0 ⟨[],pages⟩ inp [] []:=
 .inl ⟨rfl,0,rfl,rfl,rfl,rfl,FB _,(Fb h0).symm,FB _,IF hM inp pages,rfl⟩
end
section
variable {cx:Cx}{w:World}{L:List Res}{p:Nat}{c:RC}{fr:List RFV}{g:RFV}{s:EstS}{out inp back:List Int}{m:Module}{φ:RMap}
theorem ec {i:Nat}(hM:m.fault.1=0)(hf:m.funcs[i]?=some f)(hb:f.blocks[j]?=some b):(∀x∈b.code,InsOK m x)∧R3 f b.fin∧b.code.length≤40∧(∀x∈b.code,x.args.length≤16):=by
 obtain ⟨q0,q1,q2⟩:=Pp hM hf hb;obtain ⟨e1,e2,e3,e4⟩:=SI q2;have hcl:=(Z2 q0).2.2.2.2;have hto:∀{t:To},LK f.blocks.length t true=0→ToOK f t:=fun ht=>⟨WW ht,by have:=iN ht;omega,by have:=iN ht;omega⟩;exact ⟨fun x hx=>⟨T0 (q1 x hx),oQ (q1 x hx),by have:=cJ (q1 x hx);omega,by have:=cJ (q1 x hx);omega⟩,⟨by have:=lg q2;omega,⟨e1,e2⟩,fun hq=>hto Ep,fun hq=>hto Em⟩,hcl,fun x hx=>by have:=cJ (q1 x hx);omega⟩
theorem Wu (hM:m.fault.1=0):Ws m:=fun i j f b hf hb=>by
 obtain ⟨_,h2,_,h4⟩:=ec hM hf hb;exact ⟨h4,h2.2.1⟩
def SB (c:RC):Nat:=2*(c.mo - c.fu).toNat+aM (.bool c.dn)
def QR (m:Module)(most:Nat)(c:RC)(fr:List RFV)(g:RFV)(s:EstS)(inp out back:List Int):Run→Prop
 | .on ms=>(∃φ,SimF φ ms (PB s g fr inp out ms.fuel))∧back=[]∧c.dn=false∧c.e=0∧c.fu=ms.fuel∧ms.fuel≤most∧c.mo=most∧Bnd m ms.fuel ms∧Xb m ms
 | .over ms e b=>out=ms.out∧back=b∧c.dn=true∧c.e=e∧c.fu=ms.fuel∧out.length≤2000∧back.length≤100000∧ms.h.left=s.p.fr.length∧s.count=ms.h.live∧(e=0→qd ms.h)
 | .stuck _=>False
theorem qI {k:Nat}(S:SimF φ ms (PB s g fr inp out k))(hR:m.runs.1=0)(hsh:m.Short)(hf:Xb m ms):Mr (ms.tick.one m) ((PB s g fr inp out (k+1)).one m)∧jl m ms.h (ms.tick.one m)∧(PB s g fr inp out (k+1)).one m≠ .crash:=by
 have h1:Mr (ms.tick.one m) ((PB s g fr inp out (k+1)).one m):=jN (Wu (Xc hR)) (dX S);have h2:jl m ms.h (ms.tick.one m):=vH hR hsh (vI hf);refine ⟨h1,h2,?_⟩
 cases hX:ms.tick.one m with
 | go s'=>rw [hX] at h1;obtain ⟨r',e,_⟩:=h1;rw [e];exact RStp.noConfusion
 | halt e=>rw [hX] at h1;have h1:_=RStp.halt e:=h1;rw [h1];exact RStp.noConfusion
 | done l=>rw [hX] at h1;have h1:_=RStp.done l:=h1;rw [h1];exact RStp.noConfusion
 | lost=>rw [hX] at h2;exact h2.elim
theorem QR.step (hP:QR m most c fr g s inp out back (.on ms))(hR:m.runs.1=0)(hsh:m.Short)(hi:JY.sl cx c.iv inp)(hs:dT m p c fr g s inp out (ms.fuel+1) cx (sl 2 1 c.bv []::L) u w):
 u= .tuple #[]∧∃c' fr' g' s' inp' out' back',QR m most c' fr' g' s' inp' out' back' (Run.step m most (.on ms))∧c'.fn=c.fn∧JY.sl cx c'.iv inp'∧SB c'<SB c∧St cx w (rS p c' fr' g' s' out' (sl 2 1 c'.bv (back'.map KQ)::L)):=by
 obtain ⟨⟨φ,S⟩, -,hdn,he0,hfu,hkm,hmo,hB,hf⟩:=hP;have hM:=Xc hR;obtain ⟨O,E,hX0⟩:=qI S hR hsh hf;have ho:ms.out=out:=S.out;have hle:ms.h.left=s.p.fr.length:=S.hr.left;have hcn:s.count=ms.h.live:=S.hr.cnt;have hol:out.length≤2000:=(by rw [←ho];exact hB.out);obtain ⟨rfl,hs⟩:=hs;refine ⟨rfl,?_⟩;rcases hs with ⟨h7,hS⟩|⟨hlt,hs⟩
 · have hst:Run.step m most (.on ms)= .over ms 7 []:=if_pos (show ms.fuel=most by omega);rw [hst];refine ⟨c.over 7,fr,g,s,inp,out,[],⟨ho.symm,rfl,rfl,rfl,hfu,hol,FB _,hle,hcn,fun h=>by cases h⟩,rfl,hi,?_,hS⟩;unfold SB;rw [hdn];show 2*(c.mo - c.fu).toNat+0<2*(c.mo - c.fu).toNat+1;omega
 · have hst:Run.step m most (.on ms)= .of m ms (ms.tick.one m):=if_neg (show¬ms.fuel=most by omega)
   have hB1:(ms.tick.one m).All (Bnd m (ms.fuel+1)):=JR (s:=ms.tick) (k:=ms.fuel) ⟨hB.cur,hB.st,hB.sl,hB.out⟩ hM;have hmm:2*(c.mo - (c.fu+1)).toNat+1<2*(c.mo - c.fu).toNat+1:=Dc;have hmz:2*(c.mo - (c.fu+1)).toNat+0<2*(c.mo - c.fu).toNat+1:=Dc;rcases hs with (⟨lv,iv,ov,fr',g',s',inp',out',hX,hi', -,hS⟩|⟨ns,bv,fr',g',hX, -,hS⟩)|⟨e,hX,fr',g',hS⟩
   · rw [hX] at O
     cases hY:ms.tick.one m with
     | lost=>rw [hY] at E;exact E.elim
     | halt e=>rw [hY] at O;exact Bs
     | done l=>rw [hY] at O;exact Bs
     | go ms'=>
       rw [hY] at O E hst hB1;rw [hst];obtain ⟨r',er,φ',S'⟩:=O;cases er;have hfl:ms'.fuel=ms.fuel+1:=pw hY;refine ⟨c.tick.upd lv iv ov,fr',g',s',inp',out',[],⟨⟨φ',by rw [hfl];exact S'⟩,rfl,hdn,he0,?_,?_,hmo,by rw [hfl];exact hB1,E⟩,rfl,hi',?_,hS⟩
       · show c.fu+1=_;omega
       · omega
       · unfold SB;rw [hdn];exact hmm
   · rw [hX] at O
     cases hY:ms.tick.one m with
     | lost=>rw [hY] at E;exact E.elim
     | halt e=>rw [hY] at O;exact Bs
     | go ms'=>rw [hY] at O;obtain ⟨r',er,_⟩:=O;exact absurd er RStp.noConfusion
     | done l=>
       rw [hY] at O E hst hB1;rw [hst];have hl:RStp.done ns= .done l:=O;cases hl;refine ⟨c.tick.did bv,fr',g',s,inp,out,ns,⟨ho.symm,rfl,rfl,he0,?_,hol,?_,hle,hcn,fun _=>E⟩,rfl,hi,?_,(hS.subP Di)⟩
       · show c.fu+1=((ms.fuel+1:Nat):Int);omega
       · have h8:ns.length≤8:=hB1;omega
       · unfold SB;rw [hdn];exact hmz
   · rw [hX] at O
     cases hY:ms.tick.one m with
     | lost=>rw [hY] at E;exact E.elim
     | done l=>rw [hY] at O;exact Bs
     | go ms'=>rw [hY] at O;obtain ⟨r',er,_⟩:=O;exact absurd er RStp.noConfusion
     | halt e'=>
       rw [hY] at O hst;rw [hst];have hl:RStp.halt e= .halt e':=O;cases hl;refine ⟨c.tick.over e,fr',g',s,inp,out,[],⟨ho.symm,rfl,rfl,rfl,?_,hol,FB _,hle,hcn,fun h0=>absurd h0 (vK hY)⟩,rfl,hi,?_,hS⟩
       · show c.fu+1=((ms.fuel+1:Nat):Int);omega
       · unfold SB;rw [hdn];exact hmz
end
section
variable {cx:Cx}{w:World}{L:List Res}{p:Nat}{c:RC}{out:List Int}
end
end Go.Proofs.YteflkifmgnpbhaaGreat
namespace Go.Lir
def SC (m:Module)(inp:List Int)(fuel pages:Int):LV:=if m.runs.1≠0 then m.runs else if 200<inp.length∨fuel<0∨20000<fuel∨pages<0∨64<pages then (1, -1) else (0,0)
end Go.Lir
namespace Go.Proofs.YteflkifmgnpbhaaGreat
open Go.Lir
attribute [local irreducible] LC.wp Q0 Qh Qd Kq Qz LO.wp Q5 Calls
section
variable {cx:Cx}{w:World}{L:List Res}{m:Module}{inp:List Int}
@[reducible] def Wv (ep fn lv iv:Value)(fuel:Int):RC:=⟨ep,fn,lv,iv,0, .slice none 0 0, .slice none 0 0,0,fuel,false⟩
@[reducible] def Ww:RFV:=⟨0,0,0, .slice none 0 0,[]⟩
def aN (m:Module)(inp:List Int)(fuel pages:Int)(cx:Cx)(L:List Res)(u:Value)(w':World):Prop:=
 ((SC m inp fuel pages).1≠0∧u= .tuple #[.pointer none,Kn (SC m inp fuel pages)]∧St cx w' L)∨
 (SC m inp fuel pages=(0,0)∧m.runs.1=0∧inp.length≤200∧0≤fuel∧fuel≤20000∧∃(q:Nat),pages=q∧q≤64∧∃c' p ep fn lv iv,u= .tuple #[.pointer (some ⟨p,0,none⟩),Kn (0,0)]∧cx.Le c'∧Kj.sl c' fn m.funcs∧JY.sl c' iv inp∧St c' w' (rS p (Wv ep fn lv iv fuel) [] Ww (EstS.mk0 q) [] L))
end
section
variable {cx:Cx}{w:World}{L:List Res}{p:Nat}{c:RC}{fr:List RFV}{g:RFV}{s:EstS}{out inp back:List Int}{m:Module}
theorem QR.first {ep fn lv iv:Value}(hR:m.runs.1=0)(hsh:m.Short)(h0:0≤fuel)(hq:q≤64):QR m fuel.toNat (Wv ep fn lv iv fuel) [] Ww (EstS.mk0 q) inp [] [] (.on (MS.start inp q)):=
 ⟨Zs hq,rfl,rfl,rfl,rfl,FB _,(Fb h0).symm,IF (Xc hR) inp q,vJ hR hsh inp q⟩
theorem QR.on {most:Nat}{r:Run}(hQ:QR m most c fr g s inp out back r)(hdn:c.dn=false):∃ms,r= .on ms∧ms.fuel≤most:=by
 cases r with
 | on ms=>obtain ⟨-, -, -, -, -,h, -⟩:=hQ;exact ⟨ms,rfl,h⟩
 | over ms e b=>obtain ⟨-, -,h, -⟩:=hQ;rw [hdn] at h;cases h
 | stuck f=>exact hQ.elim
theorem QR.fin {r a:Run}(hQ:QR m most c fr g s inp out back r)(hA:RA m most a r)(hdn:c.dn=true):a.oc=⟨c.e,back,out,c.fu⟩∧out.length≤2000∧back.length≤100000:=by
 cases r with
 | on ms=>obtain ⟨-, -,h, -⟩:=hQ;rw [hdn] at h;cases h
 | over ms e b=>
   obtain ⟨h1,h2, -,h4,h5,h6,h7, -⟩:=hQ;have hA:a= .over ms e b:=hA;refine ⟨?_,h6,h7⟩;rw [hA,h1,h2,h4,h5];rfl
 | stuck f=>exact hQ.elim
def R5 (m:Module)(inp:List Int)(fuel pages:Int)(cx:Cx)(L:List Res)(u:Value)(w':World):Prop:=
 ((SC m inp fuel pages).1≠0∧u= .tuple #[.agg ⟨[.int .i64 0, .slice none 0 0, .slice none 0 0, .int .i64 0]⟩,Kn (SC m inp fuel pages)]∧St cx w' L)∨
 (SC m inp fuel pages=(0,0)∧m.runs.1=0∧∃c' v1 v2,cx.Le c'∧u= .tuple #[wM (Run.all m inp fuel.toNat pages).oc v1 v2,Kn (0,0)]∧JY.sl c' v1 (Run.all m inp fuel.toNat pages).oc.back∧JY.sl c' v2 (Run.all m inp fuel.toNat pages).oc.out∧St c' w' L)
attribute [local irreducible] QR RA Run.all Run.oc
theorem aN.split (h:aN m inp fuel pages cx L u w):((SC m inp fuel pages).1≠0∧u= .tuple #[.pointer none,Kn (SC m inp fuel pages)]∧St cx w L)∨
 (SC m inp fuel pages=(0,0)∧m.runs.1=0∧inp.length≤200∧0≤fuel∧fuel≤20000∧∃(q:Nat),pages=q∧q≤64∧∃c' p ep fn lv iv,u= .tuple #[.pointer (some ⟨p,0,none⟩),Kn (0,0)]∧cx.Le c'∧Kj.sl c' fn m.funcs∧JY.sl c' iv inp∧St c' w (rS p (Wv ep fn lv iv fuel) [] Ww (EstS.mk0 q) [] L)):=h
end
section
theorem QfU {x:Module}{cx:Cx}(hx:K6.at cx cs x)(hS:St cx w L):JW Tryz.prog zq [.agg ⟨cs⟩] w fun u w'=>∃b,u= .bool b∧(b=false→x.Few)∧St cx w' L:=by
 (obtain ⟨vf,rfl,hl⟩:=NV hx;obtain ⟨l⟩:=x;have hl:Kj.sl cx vf l:=hl;have hlen:=hl.len;refine Kd Kc Tryz.func18 ?_;refine' KO;intro p1 w1 hS;refine' Sj;refine' zL;first|(refine' QV)|(refine' KM)|(refine' Af<;>intro hc));all_goals (refine' zn)
 all_goals
  first
  | (refine' JZ;refine' Kw;(exact Be))
  | (refine' J0;refine' J5)
 refine' LU;refine LQ hS [1] (fun A LL ρ' w'=>∃(j:Nat),J2 ρ' A∧J2 ρ' [(3, .int .i64 j)]∧(j≤l.length)∧(l.length≤20)∧(∀f∈l.take j,f.Few)∧St cx w' (LL)) (fun ρ' _=>(l.length - iv (ρ' 3)).toNat) ?_ ?_
 · exact A1
 rintro ρ w1 ⟨j,hA,hρ,hj,hl20,hd,hS⟩;obtain ⟨ρ,rfl⟩:=J3 hA hρ;refine' Rh;refine' Ab<;>intro hc
 · skip
   (((refine' Lj;refine' Ul;intro b1 o1 cs1 x1 hat1 hx1 he1;obtain ⟨vp1,vr1,vb1,rfl,hp1,hr1,hb1⟩:=Qw he1;refine' MI;intro p4 w1 hS;refine Ka hS ?_;intro w1 hS;have hS:=hS.ns;refine' zn;refine' MP;refine' zL;first|(refine' QV)|(refine' KM)|(refine' Af<;>intro hc));all_goals (refine' LS;(first|(refine' J1)|(refine' J4;refine' Kv (c:=oF hp1 hS);rintro v1 w1 ⟨rfl,hS⟩;cases hg1:Tys.great x1.params))));all_goals (refine' Ms;refine' LS;(first|(refine' J1)|(refine' J4;refine' Kv (c:=oF hr1 hS);rintro v1 w1 ⟨rfl,hS⟩;cases hg2:Tys.great x1.results))));all_goals (refine' KU)
   all_goals
    first
    | (refine' JZ;all_goals (refine' Kw);all_goals (exact Be))
    | (refine' J0;refine' J5)
   refine Qu ?_;have hlb:=hb1.len;refine' Lm;refine' NY;refine LQ hS [1,3,4] (fun A LL ρ' w'=>∃(i:Nat),J2 ρ' A∧J2 ρ' [(5, .int .i64 i)]∧(i≤x1.blocks.length)∧(x1.blocks.length≤30)∧(Tys.great x1.params=false)∧(Tys.great x1.results=false)∧(∀f∈x1.blocks.take i,f.Few)∧St cx w' (LL)) (fun ρ' _=>(x1.blocks.length - iv (ρ' 5)).toNat) ?_ ?_
   · exact ⟨0,zh,zh,Jo,Jo,by assumption,by assumption,by simp,hS.sp⟩
   rintro ρ w1 ⟨i,hA,hρ,hi,hl30,hg1,hg2,hd1,hS⟩;obtain ⟨ρ,rfl⟩:=J3 hA hρ;refine' Rh;refine' Ab<;>intro hc
   · skip
     (((((((refine' Lj;refine' Ul;intro b2 o2 cs2 x2 hat2 hx2 he2;obtain ⟨vp2,vc2,ve21,ve22,ve23,ve24,ve25,rfl,hp2,hc2,he21,he22,he23,he24,he25⟩:=QZ he2;refine' MI;intro p6 w1 hS;refine Ka hS ?_;intro w1 hS;have hS:=hS.ns;refine' zn;refine' MP;refine' zL;first|(refine' QV)|(refine' KM)|(refine' Af<;>intro hc));all_goals (refine' LS;(first|(refine' J1)|(refine' J4;refine' Kv (c:=oF hp2 hS);rintro v1 w1 ⟨rfl,hS⟩;cases hg3:Tys.great x2.params))));all_goals (refine' Rl;refine' SL;refine' M0;first|refine' J1|(refine' J4;(first|(refine' QV)|(refine' KM)|(refine' Af<;>intro hc)))));all_goals (refine' Rl;refine' Ya;refine' Nt;refine' aa;refine' M0;first|refine' J1|(refine' J4;(first|(refine' QV)|(refine' KM)|(refine' Af<;>intro hc)))));all_goals (refine' Rl;refine' Ya;refine' Nt;refine' aa;refine' M0;first|refine' J1|(refine' J4;(first|(refine' QV)|(refine' KM)|(refine' Af<;>intro hc)))));all_goals (refine' Rl;refine' Ya;refine' Nt;refine' aa;refine' M0;first|refine' J1|(refine' J4;(first|(refine' QV)|(refine' KM)|(refine' Af<;>intro hc)))));all_goals (refine' Rl;refine' Ya;refine' Nt;refine' aa;refine' M0;first|refine' J1|(refine' J4;(first|(refine' QV)|(refine' KM)|(refine' Af<;>intro hc)))));all_goals (refine' KU)
     all_goals
      first
      | (refine' JZ;all_goals (refine' Kw);all_goals (exact Be))
      | (refine' J0;refine' J5)
     refine Qu ?_;have hlc:=hc2.len;refine' Lm;refine' NY;refine LQ hS [1,3,4,5,6] (fun A LL ρ' w'=>∃(k:Nat),J2 ρ' A∧J2 ρ' [(7, .int .i64 k)]∧(k≤x2.code.length)∧(x2.code.length≤200)∧(Tys.great x2.params=false)∧(x2.fin.Few)∧(∀f∈x2.code.take k,f.Few)∧St cx w' (LL)) (fun ρ' _=>(x2.code.length - iv (ρ' 7)).toNat) ?_ ?_
     · exact ⟨0,zh,zh,Jo,Jo,by assumption,⟨⟨Jo,Jo⟩,⟨Jo,Jo⟩,Jo⟩,by simp,hS.sp⟩
     rintro ρ w1 ⟨k,hA,hρ,hk,hl200,hg3,hfin,hd2,hS⟩;obtain ⟨ρ,rfl⟩:=J3 hA hρ;refine' Rh;refine' Ab<;>intro hc
     · skip
       ((refine' Lj;refine' Ul;intro b3 o3 cs3 x3 hat3 hx3 he3;obtain ⟨vr3,va3,rfl,hr3,ha3⟩:=Nh he3;refine' MH;refine' cm;refine' zL;first|(refine' QV)|(refine' KM)|(refine' Af<;>intro hc));all_goals (refine' LS;refine' Mi;(first|(refine' J1)|(refine' J4;refine RD vw rfl Ja rfl Jo ?_;intro b4 o4 cs4 x4 hat4 hx4 he4;rw [hx3] at hx4;obtain rfl:x3=x4:=E4 hx4;obtain ⟨vr4,va4,rfl,hr4,ha4⟩:=Nh he4));refine' Nt;refine' nR;refine' M0;first|refine' J1|(refine' J4;(first|(refine' QV)|(refine' KM)|(refine' Af<;>intro hc)))));all_goals (refine' KU)
       all_goals
        first
        | (refine' JZ;all_goals (refine' Kw);all_goals (exact Be))
        | (refine' J0;refine' J5)
       refine' LH;(exact ⟨⟨k+1,zh,zh,Jo,Jo,by assumption,by assumption,bH hd2 hx3 ⟨Jo,Jo⟩,hS.sp⟩,Qb Jo⟩)
     · skip;refine' K2;refine' LH;(exact ⟨⟨i+1,zh,zh,Jo,Jo,by assumption,by assumption,bH hd1 hx2 ⟨hg3,Jo,gP hd2 Jo,hfin⟩,hS.sp⟩,Qb Jo⟩)
   · skip;refine' K2;refine' LH;(exact ⟨⟨j+1,zh,zh,Jo,Jo,bH hd hx1 ⟨hg1,hg2,Jo,gP hd1 Jo⟩,hS.sp⟩,Qb Jo⟩)
 · skip;refine' OA;first|(exact Be)|(have h1:l.length≤20:=Dc;exact ⟨_,rfl,false,rfl,fun _=>⟨h1,gP (l:=l) hd Jo⟩,hS.sp⟩)
end
end Go.Proofs.YteflkifmgnpbhaaGreat
