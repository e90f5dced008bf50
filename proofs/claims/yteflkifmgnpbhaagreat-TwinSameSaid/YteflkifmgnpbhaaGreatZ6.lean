
/- Lemmas of the proof, part 6: what the functions of the program do (contracts), and what follows. -/
import Derived.Test.YteflkifmgnpbhaaGreatZ5
import Derived.Test.YteflkifmgnpbhaaGreatZ3
import Derived.Test.YteflkifmgnpbhaaGreatZ2
import Derived.Test.YteflkifmgnpbhaaGreatZ4
import Derived.Lib.Strings
import Derived.Test.YteflkifmgnpbhaaGreatProg
open Go Go.Lir Go.Proofs.YteflkifmgnpbhaaGreat
variable {α:Type}{f:Fun}{Y:RStp}{p:Prop}{X b:Stp}{g:Frm}{g':RFrm}{vs:List Val}{ns l inp kp regs rs xs:List Int}{h':HpS}{s' s ms:MS}{t:To}{kd c e pages fuel:Int}{q i fi bi j most T d:Nat}{st:List Frm}{want ts us:List Ty}{fn:α→Stp}{bb:Block}{o:Option α}{P:MS→Prop}{m:Module}{cx:Cx}{w:World}{L:List Res}{cs:List Value}{u v2:Value}
set_option linter.unusedVariables false
set_option linter.unusedSimpArgs false
set_option maxHeartbeats 1000000
namespace Go.Lir
section
variable {p:Prop}
theorem Ds (h:p:=by first|(exact Au)|(exact As)):p:=h
theorem DE (h:p:=by simpa using hc):p:=h
theorem DG (h:p:=by simpa using hb):p:=h
theorem DV (h:p:=by first|(exact Au)|(exact AJ)):p:=h
theorem Ed (h:p:=by cases hj;rw [Gk]):p:=h
theorem EA (h:p:=by rw [show s.next.h.get v n=s.h.get v n from rfl,hc];decide):p:=h
theorem EG (h:p:=by rw [h0] at q5;split at q5<;>omega):p:=h
theorem EP (h:p:=by rw [decide_eq_true hq] at e4;exact e4):p:=h
theorem ER (h:p:=by rw [decide_eq_true hq] at e3;exact e3):p:=h
theorem ES (h:p:=by rw [show s.next.h.len v=s.h.len v from rfl,hq];decide):p:=h
theorem EU (h:p:=by first|(exact Au)|(exact AJ)|(exact AW)):p:=h
theorem E2 (h:p:=by unfold Qx Oj at hF;simp [e] at hF;omega):p:=h
theorem E3 (h:p:=by rw [Ty.rn_l,Fy,pW h2];rfl):p:=h
theorem E4 (h:p:=by rw [show s.next.h.setC v n (K4 c)=s.h.setC v n (K4 c) from rfl,hq];decide):p:=h
end
end Go.Lir
namespace Go.Lir
section
variable {p:Prop}
theorem Au (h:p:=by exact Q1x hS rfl fd rfl):p:=h
theorem AF (h:p:=by exact ⟨_,rfl,_,_,rfl,hle,PB (Gj _ _ _),hS.sp⟩):p:=h
theorem AI (h:p:=by exact .inl ⟨_,rfl,hJ⟩):p:=h
theorem A4 (h:p:=by exact ⟨_,rfl,(by rw [hgo,if_neg (by simpa using hc)]),cx,FV hS,hS.sp⟩):p:=h
theorem Bb (h:p:=by exact ⟨0,zh,zh,Jo,by rfl,hS.sp⟩):p:=h
theorem Be (h:p:=by exact absurd O RStp.noConfusion):p:=h
theorem Bf (h:p:=by exact ⟨_,_,_,_,_,h.more h.ty (Iq _) same (mg hj) (IG (Qf3 Ψ _ _)) hrun hinv⟩):p:=h
theorem Bl (h:p:=by exact ⟨_,by rw [Vp Jo,Q3 h1,Qw h2],rfl,(FK hS.sp hi)⟩):p:=h
theorem Bs (h:p:=by exact ⟨_,by rw [ej,if_neg hne,Qw (uL hx2 hd (by simpa using hb1) (of_decide_eq_true hb))],rfl,(FK hS.sp hi)⟩):p:=h
theorem Bv (h:p:=by exact ⟨_,by rw [if_neg Jo,hd];exact tQ hx1 hx2 g1 hn (by simpa using hb),rfl,Gx (FK hS.sp hi) hL0⟩):p:=h
theorem BA (h:p:=by exact ⟨_,rfl,hgo ▸ rfl,cx,FV hS,hS.sp⟩):p:=h
theorem BB (h:p:=by exact ⟨_,by rw [if_neg Jo,hd];exact tP hx1 hx2 g1 hn,rfl,Gx (FK hS.sp hi) hL0⟩):p:=h
theorem BG (h:p:=by exact ⟨_,if_pos Jo,rfl,(FK hS.sp hi)⟩):p:=h
theorem BI (h:p:=by exact ⟨_,ej.trans (if_pos Jo),rfl,(FK hS.sp hi)⟩):p:=h
theorem BJ (h:p:=by exact ⟨_,by rw [Vp Jo,Qw h1],rfl,(FK hS.sp hi)⟩):p:=h
theorem BN (h:p:=by exact ⟨_,a1,a2,n1,n2,p6,zh,zh,hJ6,by assumption,by assumption,hS.sp⟩):p:=h
theorem BP (h:p:=by exact ⟨_,Qw h1,rfl,(FK hS.sp hi)⟩):p:=h
theorem BR (h:p:=by exact ⟨_,by rw [Vp Jo,Q3 h1,Q3 h2,Q3 h3,if_pos (by simpa using hb)],rfl,(FK hS.sp hi)⟩):p:=h
theorem BW (h:p:=by exact ⟨_,by rw [Vp Jo,Q3 h1,Q3 h2,Qw h3],rfl,(FK hS.sp hi)⟩):p:=h
theorem BZ (h:p:=by exact ⟨cx,0, .slice none 0 0,[],[],zh,zh,FV hS,Jo,rfl,by simp,GB _ _ _,rfl,by have hS:=hS.nil (T:=115) (es:=3);exact hS.sp⟩):p:=h
theorem B8 (h:p:=by exact ⟨_,rfl,_,v,rfl,(by rw [show (min n 16).toNat=j by omega];exact hS.sp)⟩):p:=h
theorem Cg (h:p:=by exact ⟨_,rfl,(by rw [hgo,if_pos Jo]),c5,hle5,hS.sp⟩):p:=h
theorem Cu (h:p:=by exact ⟨_,rfl, .inl ⟨by rw [mh Jo];omega,by rw [mh Jo];rfl,hS.sp⟩⟩):p:=h
theorem Cy (h:p:=by exact ⟨0,_,[],zh,zh,Jo,by unfold M6;exact GB _ _ _,hS.sp⟩):p:=h
theorem CC (h:p:=by exact ⟨0,_,[],[],zh,zh,Jo,GB _ _ _,rfl,rfl,by rw [F9];cases Kw s x.args<;>rfl,hS.sp⟩):p:=h
theorem CM (h:p:=by exact .inl ⟨_,rfl,rfl,Jo,_,_,hls2,(JP.cls hi hS.sp)⟩):p:=h
theorem CS (h:p:=by exact ⟨_,(Q3 h1).trans (if_pos (by simpa using hb)),rfl,(FK hS.sp hi)⟩):p:=h
theorem C1 (h:p:=by exact ⟨_,by rw [Q3 h1,Q3 hts,if_pos (of_decide_eq_true hb)],rfl,Gx (FK hS.sp hi) hle2⟩):p:=h
theorem C2 (h:p:=by exact ⟨⟨_,j+1,_,_,us++[y],zh,zh,hL0,Jo,by simp [hus],Qcd hd hx3 (by rw [hg,←hy,hg];rfl),by assumption,by assumption,hS.sp⟩,Qj Jo⟩):p:=h
theorem C4 (h:p:=by exact ⟨_,rfl,j,rfl,⟨fun _=>by rw [hd,Q1 hx1,FA];exact .inl Jo,fun _=>by omega⟩,hS.sp⟩):p:=h
theorem C5 (h:p:=by exact ⟨⟨j+1,zh,zh,Jo,by rw [hd,Q1 hx1,FA];exact ⟨fun h=>h.resolve_left Jo, .inr⟩,hS.sp⟩,Qj Jo⟩):p:=h
theorem C8 (h:p:=by exact ⟨_,_,_,_,_,h.more p1 p2 p3 (mg hj) (IG p4) hrun hinv⟩):p:=h
theorem C9 (h:p:=by exact ⟨v::vs,by rw [Frm.args,h3,h5],Mw.cons h4 h6⟩):p:=h
theorem Db (h:p:=by exact ⟨_,a3,n3,p9,zh,zh,hJ10,by assumption,hS.sp⟩):p:=h
theorem Dd (h:p:=by exact ⟨⟨j+1,_,_,zh,zh,Jo,by rw [hsu,if_pos Ja];exact hls1,hS.sp⟩,Qj Jo⟩):p:=h
end
end Go.Lir
namespace Go.Lir
section
variable {p:Prop}
theorem Aj (h:p:=by first|exact ⟨_,rfl, .inl ⟨by rw [mh Jo];omega,by rw [mh Jo];rfl,hS.sp⟩⟩|exact ⟨_,rfl, .inl ⟨by rw [mi Jo Jo];decide,by rw [mi Jo Jo];rfl,hS.sp⟩⟩|(have hS:=Ie FrmV.res (Hp (T:=224) (es:=4) (Hp (T:=3) (es:=1) (Hp (T:=2) (es:=1) hS)));exact ⟨_,rfl, .inr ⟨uM Jo Jo,Jo,Jo,Jo,Jo,Jo,Jo,c2,_,_,_,_,_,rfl,hle1.trans hle2,hf1,hi2,hS.sp⟩⟩)):p:=h
theorem Am (h:p:=by first|(rw [gp Jo];exact ⟨_,rfl,_,_,rfl,hle,PB (Gj _ _ _),hS.sp⟩)|(rw [kb Jo hx1 Jo];exact ⟨_,rfl,_,_,rfl,hle,PB (Gj _ _ _),hS.sp⟩)|(rw [hr,qs hd hx3 hg];exact ⟨_,rfl,_,_,rfl,hle,PB (Gj _ _ _),hS.sp⟩)|(rw [hr,QeK hd Jo];obtain ⟨c3,hle3,hS,hl3⟩:=Gp (r:=Ku) (l:=us) (T:=115) (es:=3) (v:=u) (css:=css) (L:=L) hS.sp hls rfl Jo;exact ⟨_,rfl,c3,_,rfl,hle.trans hle3,PB hl3,hS⟩)):p:=h
theorem An (h:p:=by first|(refine ⟨_,rfl,?_,hS.sp⟩;unfold Kz;simp [*];omega;done)|(refine ⟨_,rfl,?_,hS.sp⟩;unfold Kz;simp [*];done)):p:=h
theorem Ap (h:p:=by first|(exact ⟨⟨j+1,_,_,zh,zh,Jo,by rw [hsu,if_pos Ja];exact hls1,hS.sp⟩,Qj Jo⟩)|(exact ⟨⟨j+1,_,_,zh,zh,Jo,by rw [hsu,if_neg (by rw [hc];decide),Gk];exact hls,hS.sp⟩,Qj Jo⟩)):p:=h
theorem Aq (h:p:=by first|(exact ⟨_,zh,zh,dZ Jo Jo Jo hx2 (by have h9:=Fm (hx1.symm.trans hx2);omega),hS.sp⟩)|(exact ⟨_,zh,zh,Qhg Jo,hS.sp⟩)):p:=h
end
end Go.Lir
namespace Go.Proofs.YteflkifmgnpbhaaGreat
open Go.Lir
def gq (φ:RMap)(h:HpS)(g:Frm)(g':RFrm):Prop:=g.f=g'.f∧g.b=g'.b∧g.i=g'.i∧LK φ h g.vals g'.vals
def SE (φ:RMap)(h:HpS):List Frm→List RFrm→Prop
 | [],[]=>True
 | a::l,b::l'=>gq φ h a b∧SE φ h l l'
 | _,_=>False
structure SimF (φ:RMap) (s:MS) (r:RS):Prop where
 hr:WHR φ s.h r.e
 g:gq φ s.h s.g r.g
 st:SE φ s.h s.st r.st
 inp:s.inp=r.inp
 out:s.out=r.out
 fuel:s.fuel=r.fuel
def uN (s:MS)(r:RS):Prop:=∃φ,SimF φ s r
def MK:Stp→RStp→Prop
 | .lost,_=>True
 | .go s,r=>∃r',r= .go r'∧uN s r'
 | .halt e,r=>r= .halt e
 | .done l,r=>r= .done l
theorem N7 {x:Option α}{f:α→Stp}(h:∀a,x=some a→MK (f a) Y):MK (LB x f) Y:=by
 cases x with
 | none=>trivial
 | some a=>exact h a rfl
theorem W7 [Decidable p](h:¬p→MK X Y):MK (if p then .lost else X) Y:=by
 split
 · trivial
 · rename_i hp;exact h hp
variable {m:Module}{φ φ':RMap}{h h':HpS}{s:MS}{r:RS}{k:Int}
theorem Mz.frs (hM:Mz φ h φ' h'):∀{l:List Frm}{l':List RFrm},SE φ h l l'→SE φ' h' l l'
 | [],[],_=>trivial
 | a::l,b::l',hf=>⟨⟨hf.1.1,hf.1.2.1,hf.1.2.2.1,hM.vrs hf.1.2.2.2⟩,Mz.frs hM hf.2⟩
 | [],_::_,hf=>hf.elim
 | _::_,[],hf=>hf.elim
theorem qt:∀{l:List Frm}{l':List RFrm},SE φ h l l'→l.length=l'.length
 | [],[],_=>rfl
 | a::l,b::l',hf=>by rw [Fk,Fk,qt hf.2]
 | [],_::_,hf=>hf.elim
 | _::_,[],hf=>hf.elim
theorem VS (hf:gq φ h g g'){v:Val}(hv:g.val k=some v):∃n,g'.val k=some n∧Np φ h v n:=by
 unfold Frm.val at hv;unfold RFrm.val;split at hv
 · cases hv
 · rename_i hk;rw [if_neg hk];exact hf.2.2.2.get hv
theorem aE (hf:gq φ h g g'){n:Int}(hv:g.num k=some n):g'.val k=some n:=by
 unfold Frm.num at hv
 cases hx:g.val k with
 | none=>rw [hx] at hv;cases hv
 | some v=>
   rw [hx] at hv;simp only at hv;split at hv
   · rename_i hk;cases hv;obtain ⟨n,hn,hr⟩:=VS hf hx;rw [hn,hr.1 hk]
   · cases hv
theorem kc {g:Frm}{g':RFrm}(hf:gq φ h g g'):∀{l:List Int}{vs:List Val},g.args l=some vs→∃ns,g'.args l=some ns∧LK φ h vs ns∧vs.length=l.length
 | [],vs,hv=>by rw [Frm.args] at hv;cases hv;exact ⟨[],rfl,LK.nil _ _,rfl⟩
 | k ::l,vs,hv=>by
   rw [Frm.args] at hv
   cases hx:g.val k with
   | none=>rw [hx] at hv;cases hv
   | some v=>
     rw [hx] at hv
     cases hl:g.args l with
     | none=>rw [hl] at hv;cases hv
     | some ws=>
       rw [hl] at hv;cases hv;obtain ⟨n,hn,hr⟩:=VS hf hx;obtain ⟨ns,hns,hrs,hlen⟩:=kc hf hl;exact ⟨n::ns,by rw [RFrm.args,hn,hns],LK.cons hr hrs,by rw [Fk,Fk,hlen]⟩
theorem SimF.put (S:SimF φ s r)(hv:LK φ s.h vs ns):SimF φ (s.put vs) (r.put ns):=
 ⟨S.hr,⟨S.g.1,S.g.2.1,S.g.2.2.1,S.g.2.2.2.app hv⟩,S.st,S.inp,S.out,S.fuel⟩
theorem SimF.heap (S:SimF φ s r){h':HpS}{e':EstS}(H:WHR φ' h' e')(hM:Mz φ s.h φ' h'):SimF φ' (s.hp h') (r.es e'):=
 ⟨H,⟨S.g.1,S.g.2.1,S.g.2.2.1,hM.vrs S.g.2.2.2⟩,hM.frs S.st,S.inp,S.out,S.fuel⟩
theorem M7 {r':RS}(S:SimF φ s' r'):MK (.go s') (.go r'):=⟨r',rfl,φ,S⟩
theorem SF {n:Int}(h0:0≤n)(h1:n≤100000):wr n=n:=fw Jo Jo
theorem ke (S:SimF φ s r):MK s.newR (if r.e.openV<0 then .halt 6 else .go ((r.es r.e.open).put [r.e.openV])):=by
 unfold MS.newR;have hf:=S.hr.full;by_cases hc:s.h.full=true
 · rw [if_pos hc,if_pos (hf.1 hc)];rfl
 · rw [if_neg hc,if_neg (fun h=>hc (hf.2 h))];obtain ⟨φ',H',hM,hv⟩:=S.hr.open DE;exact M7 (φ:=φ') ⟨H',⟨S.g.1,S.g.2.1,S.g.2.2.1,(hM.vrs S.g.2.2.2).app (HG hv)⟩,hM.frs S.st,S.inp,S.out,S.fuel⟩
theorem VU (S:SimF φ s r){v:Val}{n:Int}(hv:Np φ s.h v n){x:Int}{t:Thg}(hs:t.size=x)(hx:x≤16)(hkd:kd=3∨kd=4)(f:EstS→Int→EstS)
 (hf:s.h.code v x=0→∀A,A=r.e.getV n x→(f (r.e.get n x) A).Ok∧(f (r.e.get n x) A).rs=(r.e.get n x).rs∧(f (r.e.get n x) A).p.fr=(r.e.get n x).p.fr∧(∀i,¬(A≤i∧i<A+x)→(f (r.e.get n x) A).word i=(r.e.get n x).word i)∧SD φ s.h (f (r.e.get n x) A) A t):
 MK (s.made (s.h.code v x) (s.h.put v x t) (s.h.putV v kd x)) (r.gotR n x fun e at_=> .go ((r.es (f e at_)).put [at_])):=by
 unfold MS.made;have hx1:1≤x:=hs ▸ uJ t;by_cases h20:s.h.code v x=20
 · rw [if_neg Jo,if_pos Jo];trivial
 · have hc:=S.hr.code hv (mf h20) ⟨hx1,hx⟩
   unfold RS.gotR;rw [hc];by_cases h14:s.h.code v x=14
   · rw [if_pos h14,if_pos h14];rfl
   · rw [if_neg h14,if_neg h14];refine W7 fun h0=>?_;have h0:s.h.code v x=0:=Df;obtain ⟨g1,g2,g3,g4,g5⟩:=hf h0 _ rfl;obtain ⟨φ',H',hM,hv'⟩:=S.hr.put hv hs hx h0 hkd g1 g2 g3 g4 g5;exact M7 ((S.heap H' hM).put (HG hv'))
theorem VV (H:WHR φ h r.e){v:Val}{n:Int}(hv:Np φ h v n){x:Int}(hx1:1≤x)(hx:x≤16)(h0:h.code v x=0):(r.e.get n x).Ok∧0≤r.e.getV n x∧r.e.getV n x+x≤(((r.e.get n x).p.n*16:Nat):Int)∧r.e.getV n x+x≤1024∧∀i,r.e.getV n x≤i→i<r.e.getV n x+x→(r.e.get n x).word i=0:=by
 have hcan:=mf (h:=h) (v:=v) (x:=x) Jo;have hc0:r.e.code n x=0:=(H.code hv hcan ⟨hx1,hx⟩).trans h0;obtain ⟨r0,hr0,hh0,rfl,hlt0⟩:=H.slot hv hcan;obtain ⟨hm,hth0,hpg,hus⟩:=H.live r0 hh0;obtain ⟨P,u,G⟩:=jW H.ok hm hc0;have hok:=JT H.ok (φ.σ r0) x;have hux:=G.ux;have hv:=G.v;have hp:=pM hok hm G.mem;have h64:=hok.n64;refine ⟨hok,Jo,Jo,Jo,fun i i1 i2=>?_⟩;show (r.e.get (φ.σ r0) x).p.word i=0;by_cases hpp:P∈(r.e.reg (φ.σ r0)).pages
 · obtain ⟨h6,h7⟩:=G.old hpp;rw [G.wo hpp];have:=H.z _ hm EH (i - P*16) Jo Jo;rw [←h6,show P*16+(i - P*16)=i by omega] at this;exact this
 · exact G.wz hpp _ Jo
theorem Y6 (S:SimF φ s r){v:Val}{n:Int}(hv:Np φ s.h v n){l:List Val}(hl:LK φ s.h l ns)(hq:l.length=q)(h16:q≤16):
 MK (s.made (s.h.code v (L9 l)) (s.h.tuple v l) (s.h.putV v 3 (L9 l))) (r.gotR n (max (q:Int) 1) fun e at_=> .go ((r.es (e.stores at_ ns)).put [at_])):=by
 have hw:max (q:Int) 1=L9 l:=(by unfold L9;split<;>omega);rw [hw];have hw1:1≤L9 l∧L9 l≤16∧(l.length:Int)≤L9 l:=(by unfold L9;split<;>omega);have hln:=hl.1;refine VU S hv (t:=⟨false,l⟩) (by unfold Thg.size;rfl) hw1.2.1 (.inl rfl) (fun e a=>e.stores a ns) fun h0 A hA=>?_;subst hA;obtain ⟨hok,a0,a1,a2,az⟩:=VV S.hr hv hw1.1 hw1.2.1 h0;obtain ⟨g1,g2,g3,g4,g5⟩:=VP (l:=ns) hok a0 Jo;refine ⟨g1,g2,g4,fun i hi=>(by rw [g5,if_neg Jo]),fun ha=>(by cases ha),fun i u hu=>?_⟩;have hi:=(E8.1 hu).1;have hi:i<l.length:=hi;rw [g5];show Np φ s.h u (if r.e.getV n (L9 l)≤r.e.getV n (L9 l)+0+i∧r.e.getV n (L9 l)+0+i<r.e.getV n (L9 l)+ns.length then ns.getD (r.e.getV n (L9 l)+0+i - r.e.getV n (L9 l)).toNat 0 else _);rw [if_pos Jo,show (r.e.getV n (L9 l)+0+i - r.e.getV n (L9 l)).toNat=i by omega];obtain ⟨y,hy,hvy⟩:=hl.get hu;rw [E9,hy];exact hvy
theorem Y7 (S:SimF φ s r){v:Val}{n k:Int}(hv:Np φ s.h v n)(h0:0≤k)(h15:k≤15):
 MK (s.made (s.h.arrC v k) (s.h.arr v k) (s.h.arrV v k)) (r.gotR n (1+k) fun e at_=> .go ((r.es (e.store at_ k)).put [at_])):=by
 have hc:¬(k<0∨15<k):=Df;unfold HpS.arrC HpS.arr HpS.arrV;rw [if_neg hc,if_neg hc,if_neg hc,show 1+k=k+1 by omega];have hnl:(O3 k).length=k.toNat:=F6;refine VU S hv (t:=⟨true,O3 k⟩) (by unfold Thg.size;rw [if_pos rfl];show 1+((O3 k).length:Int)=_;rw [hnl];omega) Jo (.inr rfl) (fun e a=>e.store a k) fun hc0 A hA=>?_;subst hA;obtain ⟨hok,a0,a1,a2,az⟩:=VV S.hr hv Jo Jo hc0;have hin:(r.e.get n (k+1)).p.isIn (r.e.getV n (k+1))=true:=Mh.2 Jo;have hw:∀i,((r.e.get n (k+1)).store (r.e.getV n (k+1)) k).word i=if i=r.e.getV n (k+1) then k else (r.e.get n (k+1)).word i:=pJ hok.pok hin
 refine ⟨VO hok _ _,rfl,HV,fun i hi=>(by rw [hw,if_neg Jo]),fun _=>?_,fun i u hu=>?_⟩
 · rw [hw,if_pos rfl];show k=((O3 k).length:Int);rw [hnl];omega
 · have hu:(O3 k)[i]?=some u:=hu
   have hi:=(E8.1 hu).1;rw [hnl] at hi
   have hue:u=K4 0:=by
    unfold O3 at hu;rw [G6] at hu;rw [if_pos hi] at hu;exact (Fm hu).symm
   rw [hue,hw,if_neg (by show¬(_+1+_=_);omega),az _ (by show _≤_+1+_;omega) (by show _+1+_ < _;omega)];exact IH _ _ _
theorem qu {v:Val}(h:v.kind=4→c≠20→(c=1→Y= .halt 2)∧(c=0→MK X Y))(hc:c=0∨c=1∨c=20):MK (Om v c X) Y:=by
 unfold Om;refine W7 fun hk=>?_;have hk:v.kind=4:=Df;rcases hc with hc|hc|hc
 · rw [if_neg Jo,if_neg Jo];exact (h hk Jo).2 hc
 · rw [if_pos hc];exact (h hk Jo).1 hc
 · rw [if_neg Jo,if_pos Jo];trivial
theorem Qi3 (h:HpS)(v:Val)(k:Int):(h.get v k).2=0∨(h.get v k).2=1∨(h.get v k).2=20:=by
 unfold HpS.get;split
 · simp
 · split<;>simp
theorem Qfw (h:HpS)(v:Val)(k:Int)(y:Val):h.setC v k y=0∨h.setC v k y=1∨h.setC v k y=20:=by
 unfold HpS.setC;split
 · simp
 · split
   · simp
   · split<;>simp
theorem QhD (h:HpS)(v:Val):(h.len v).2=0∨(h.len v).2=1∨(h.len v).2=20:=by
 unfold HpS.len;split<;>simp
theorem kf (S:SimF φ s r){x:Ins}(h16:x.args.length≤16):MK (s.ins m x) (r.ins m x):=by
 have hg:=S.g;unfold MS.ins RS.ins;by_cases o1:x.op=1
 · rw [if_pos o1,if_pos o1];exact M7 (S.put (HG (IH _ _ _)))
 rw [if_neg o1,if_neg o1];by_cases o2:x.op=2
 · rw [if_pos o2,if_pos o2]
   refine N7 fun a ha=>N7 fun b hb=>?_;rw [On (aE hg ha),On (aE hg hb)];split
   · rfl
   · exact M7 (S.put (HG (IH _ _ _)))
 rw [if_neg o2,if_neg o2];by_cases o3:x.op=3
 · rw [if_pos o3,if_pos o3];exact ke S
 rw [if_neg o3,if_neg o3];by_cases o4:x.op=4
 · rw [if_pos o4,if_pos o4];refine N7 fun v hv=>?_;obtain ⟨n,hn,hr⟩:=VS hg hv;rw [On hn];refine W7 fun hc=>?_;obtain ⟨H',hM⟩:=S.hr.shut hr DE;exact M7 (S.heap H' hM)
 rw [if_neg o4,if_neg o4];by_cases o5:x.op=5
 · rw [if_pos o5,if_pos o5];refine N7 fun v hv=>N7 fun l hl=>?_;obtain ⟨n,hn,hr⟩:=VS hg hv;obtain ⟨ns,hns,hrs,hlen⟩:=kc hg hl;rw [On hn,On hns];exact Y6 S hr hrs hlen h16
 rw [if_neg o5,if_neg o5];by_cases o6:x.op=6
 · rw [if_pos o6,if_pos o6];refine N7 fun v hv=>?_;obtain ⟨n,hn,hr⟩:=VS hg hv;rw [On hn];refine W7 fun hk=>W7 fun h0=>?_;obtain ⟨o,ho,p0,p1,p2,p3⟩:=S.hr.get hr (k:=x.k) Jo;rw [if_neg Jo] at ho;subst ho;rw [SF Jo Jo];rw [Jq] at p3;exact M7 (S.put (HG p3))
 rw [if_neg o6,if_neg o6];by_cases o7:x.op=7
 · rw [if_pos o7,if_pos o7];refine N7 fun v hv=>?_;obtain ⟨n,hn,hr⟩:=VS hg hv;rw [On hn];refine W7 fun hk=>N7 fun y hy=>?_;obtain ⟨b,hb,hry⟩:=VS hg hy;rw [On hb];refine W7 fun h0=>?_;obtain ⟨o,ho,p0,p1,p2,p3,p4⟩:=S.hr.set hr (k:=x.k) hry Jo;rw [if_neg Jo] at ho;subst ho;rw [SF Jo Jo];rw [Jq] at p3;exact M7 (S.heap p3 p4)
 rw [if_neg o7,if_neg o7];by_cases o8:x.op=8
 · rw [if_pos o8,if_pos o8]
   refine N7 fun v hv=>N7 fun k hk=>?_;obtain ⟨n,hn,hr⟩:=VS hg hv;rw [On hn,On (aE hg hk)];by_cases hc:k<0∨15<k
   · rw [if_pos hc,if_pos hc];rfl
   · rw [if_neg hc,if_neg hc];exact Y7 S hr Jo Jo
 rw [if_neg o8,if_neg o8];by_cases o9:x.op=9
 · rw [if_pos o9,if_pos o9]
   refine N7 fun v hv=>N7 fun k hk=>?_;obtain ⟨n,hn,hr⟩:=VS hg hv;rw [On hn,On (aE hg hk)];refine qu (fun h4 h20=>?_) (Qi3 _ _ _);obtain ⟨q1,q2,q3,q4⟩:=S.hr.len hr h4 (dY h20);unfold RS.atR;rw [q1];have q5:=q4 k;refine ⟨fun h1=>if_pos ?_,fun h0=>?_⟩
   · rw [h1] at q5;split at q5<;>omega
   · obtain ⟨o,ho,p0,p1,p2,p3⟩:=S.hr.get hr h0;rw [if_pos h4] at ho;subst ho;rw [if_neg EG,SF (n:=n+1) Jo Jo,SF Jo Jo];exact M7 (S.put (HG p3))
 rw [if_neg o9,if_neg o9];by_cases o10:x.op=10
 · rw [if_pos o10,if_pos o10]
   refine N7 fun v hv=>N7 fun k hk=>N7 fun c hc=>?_;obtain ⟨n,hn,hr⟩:=VS hg hv;rw [On hn,On (aE hg hk),On (aE hg hc)];refine qu (fun h4 h20=>?_) (Qfw _ _ _ _);obtain ⟨q1,q2,q3,q4⟩:=S.hr.len hr h4 (Y5 h20);have q5:=VQ h4 h20;unfold RS.atR;rw [q1];refine ⟨fun h1=>if_pos ?_,fun h0=>?_⟩
   · rw [h1] at q5;split at q5<;>omega
   · obtain ⟨o,ho,p0,p1,p2,p3,p4⟩:=S.hr.set hr (IH φ s.h c) h0;rw [if_pos h4] at ho;subst ho;rw [if_neg EG,SF (n:=n+1) Jo Jo,SF Jo Jo];exact M7 (S.heap p3 p4)
 rw [if_neg o10,if_neg o10];by_cases o11:x.op=11
 · rw [if_pos o11,if_pos o11]
   refine N7 fun v hv=>?_;obtain ⟨n,hn,hr⟩:=VS hg hv;rw [On hn];refine qu (fun h4 h20=>?_) (QhD _ _);refine ⟨fun h1=>?_,fun h0=>?_⟩
   · unfold HpS.len at h1;split at h1<;>simp at h1
   · obtain ⟨q1,_⟩:=S.hr.len hr h4 h0;rw [q1];exact M7 (S.put (HG (IH _ _ _)))
 rw [if_neg o11,if_neg o11];by_cases o12:x.op=12
 · rw [if_pos o12,if_pos o12]
   unfold MS.inS RS.inR;rw [←S.inp]
   cases s.inp with
   | nil=>rfl
   | cons n l=>
     have S':SimF φ ⟨s.h,s.g,s.st,l,s.out,s.fuel⟩ ⟨r.e,r.g,r.st,l,r.out,r.fuel⟩:=⟨S.hr,S.g,S.st,rfl,S.out,S.fuel⟩;exact M7 (S'.put (HG (IH _ _ _)))
 rw [if_neg o12,if_neg o12];by_cases o13:x.op=13
 · rw [if_pos o13,if_pos o13]
   refine N7 fun n hn=>?_;rw [On (aE hg hn)];unfold MS.outS RS.outR;rw [←S.out];split
   · rfl
   · exact M7 (φ:=φ) ⟨S.hr,S.g,S.st,S.inp,rfl,S.fuel⟩
 rw [if_neg o13,if_neg o13];unfold MS.call
 cases hf:m.funcs[x.k.toNat]? with
 | none=>trivial
 | some gf=>
   refine N7 fun rs hrs=>N7 fun vs hvs=>?_;obtain ⟨ns,hns,hv,hlen⟩:=kc hg hvs;rw [On hns];refine W7 fun _=>?_;have hst:=qt S.st;unfold RS.callR;by_cases h40:s.st.length+1=40
   · rw [if_pos h40,if_pos Jo];rfl
   · rw [if_neg h40,if_neg Jo];exact M7 (φ:=φ) ⟨S.hr,⟨rfl,rfl,rfl,hv⟩,⟨S.g,S.st⟩,S.inp,S.out,S.fuel⟩
theorem ea (S:SimF φ s r):MK (s.to f t) (r.to t):=by
 unfold MS.to RS.to
 cases hb:f.blocks[t.block.toNat]? with
 | none=>trivial
 | some b=>
   refine N7 fun rs hrs=>N7 fun vs hvs=>?_;obtain ⟨ns,hns,hv,hlen⟩:=kc S.g hvs;rw [On hns];refine W7 fun _=>?_;exact M7 (φ:=φ) ⟨S.hr,⟨S.g.1,rfl,rfl,hv⟩,S.st,S.inp,S.out,S.fuel⟩
theorem uO:∀{vs:List Val}{ns l:List Int},LK φ h vs ns→KF vs=some l→l=ns
 | [],ns,l,hv,hi=>by
   rw [KF] at hi;cases hi;exact (GI.1 hv.1.symm).symm
 | v::vs,[],l,hv,hi=>by have:=hv.1;simp at this
 | v ::vs,n::ns,l,hv,hi=>by
   rw [KF] at hi
   cases hx:KF vs with
   | none=>rw [hx] at hi;cases hi
   | some l'=>
     rw [hx] at hi;simp only at hi;split at hi
     · rename_i hk;cases hi;have h1:=uO (ns:=ns) ⟨by have:=hv.1;simpa using this,fun i u q h1 h2=>hv.2 (i+1) u q D3 (by simpa using h2)⟩ hx;have h2:=(hv.2 0 v n rfl rfl).1 hk;rw [h1,h2]
     · cases hi
theorem kg (S:SimF φ s r){e:Tail}(he:1≤e.op∧e.op≤3):MK (s.fin f e) (r.fin e):=by
 unfold MS.fin RS.fin;by_cases h1:e.op=1
 · rw [if_pos h1,if_neg Jo,if_neg Jo];exact ea S
 rw [if_neg h1];by_cases h2:e.op=2
 · rw [if_pos h2,if_neg Jo,if_pos h2]
   refine N7 fun n hn=>?_;rw [On (aE S.g hn)];by_cases h0:n=0
   · rw [if_neg Jo,if_pos h0];exact ea S
   · rw [if_pos h0,if_neg h0];exact ea S
 rw [if_neg h2,if_pos Jo];unfold MS.ret;refine N7 fun vs hvs=>?_;obtain ⟨ns,hns,hv,hlen⟩:=kc S.g hvs;rw [On hns];refine W7 fun _=>?_;have hst:=S.st
 cases hs:s.st with
 | nil=>
   rw [hs] at hst
   cases hr:r.st with
   | cons c l=>rw [hr] at hst;exact hst.elim
   | nil=>
     simp only
     cases hi:KF vs with
     | none=>trivial
     | some l=>show RStp.done ns= .done l;rw [uO hv hi]
 | cons c l=>
   rw [hs] at hst
   cases hr:r.st with
   | nil=>rw [hr] at hst;exact hst.elim
   | cons c' l'=>
     rw [hr] at hst;have S':SimF φ ⟨s.h,c,l,s.inp,s.out,s.fuel⟩ ⟨r.e,c',l',r.inp,r.out,r.fuel⟩:=⟨S.hr,hst.1,hst.2,S.inp,S.out,S.fuel⟩;exact M7 (S'.put hv)
def VW (m:Module):Prop:=∀(i j:Nat) (f:Fun) (b:Block),m.funcs[i]?=some f→f.blocks[j]?=some b→(∀x∈b.code,x.args.length≤16)∧1≤b.fin.op∧b.fin.op≤3
theorem kh (hM:VW m)(S:SimF φ s r):MK (s.one m) (r.one m):=by
 unfold MS.one RS.one;obtain ⟨e1,e2,e3,hv⟩:=S.g;rw [←e1,←e2,←e3]
 cases hf:m.funcs[s.g.f]? with
 | none=>trivial
 | some f=>
   simp only
   cases hb:f.blocks[s.g.b]? with
   | none=>trivial
   | some b=>
     simp only;obtain ⟨c1,c2⟩:=hM _ _ _ _ hf hb
     cases hx:b.code[s.g.i]? with
     | none=>exact kg S c2
     | some x=>
       have S':SimF φ s.next r.next:=⟨S.hr,⟨e1,e2,by show s.g.i+1=r.g.i+1;omega,hv⟩,S.st,S.inp,S.out,S.fuel⟩;exact kf S' (c1 _ (Fa hx))
theorem ec (S:SimF φ s r):SimF φ s.tick r.tick:=⟨S.hr,S.g,S.st,S.inp,S.out,by show s.fuel+1=r.fuel+1;rw [S.fuel]⟩
theorem Y8 {pages:Nat}(hp:pages≤64):uN (MS.start inp pages) (RS.start inp pages):=by
 have hreg:∀k:Nat,k<16→(EstS.mk0 pages).reg k=Reg.none:=fun k hk=>by
  unfold EstS.reg;rw [if_pos Jo,FJ,E9];show ((List.replicate 16 Reg.none)[k]?).getD Reg.none=_;rw [G6,if_pos hk];rfl
 have hno:∀q:Int,(⟨[],pages⟩:HpS).has q=false:=fun q=>by
  unfold HpS.has HpS.reg;split<;>simp [Rgn.none]
 refine ⟨⟨fun _=>0,fun _ _=>0⟩,⟨JQ hp,?_,rfl,fun q hq=>?_,fun q _ hq=>?_,fun k hk hpg=>?_,fun q t x hx=>?_,fun q t x _ _ _ hx=>?_,fun q t x hx=>?_⟩,⟨rfl,rfl,rfl,LK.nil _ _⟩,trivial,rfl,rfl,rfl⟩
 · show (pages:Int)=((OZ pages pages).length:Int);rw [lJ]
 · exact absurd ((hno _).symm.trans hq) Js
 · exact absurd ((hno _).symm.trans hq) Js
 · exact absurd (by show ((EstS.mk0 pages).reg k).pages=[];rw [hreg k hk];rfl) hpg
 · exact absurd ((hno _).symm.trans hx.1) Js
 · exact absurd ((hno _).symm.trans hx.1) Js
 · exact absurd ((hno _).symm.trans hx.1) Js
end Go.Proofs.YteflkifmgnpbhaaGreat
namespace Go.Lir
section
def Frm.ρ (g:Frm)(r:Int):Int:=g.regs.getD r.toNat 0
def aF (f:Fun)(z:JS)(g:Frm)(k:Int):Prop:=∃r,Kz z.h r=true∧f.regs≤r∧g.ρ r=k
def uP (f:Fun)(z:JS)(g:Frm):Prop:=∀r q,Kz z.h r=true→Kz z.h q=true→f.regs≤r→f.regs≤q→g.ρ r=g.ρ q→r=q
def O9 (f:Fun)(g:Frm):List Int:=g.regs.take f.regs.toNat
structure FT (Ψ:Lx) (z:JS) (g:Frm):Prop where
 n:g.regs.length=z.h.length
 v:Mw Ψ g.vals (z.l.map fun t=>t.rn g.regs)
theorem FT.ext {Ψ Ψ':Lx}{z:JS}(h:FT Ψ z g)(he:VJ Ψ Ψ'):FT Ψ' z g:=⟨h.n,h.v.ext he⟩
inductive Wt (m:Module) (Ψ:Lx):List Frm→Fun→List Int→(Int→Prop)→Prop where
 | nil {f:Fun}(hf:m.funcs[0]?=some f):Wt m Ψ [] f [] (fun _=>False)
 | cons {c:Frm}{st:List Frm}{fc gf:Fun}{bc:Block}{z z':JS}{x:Ins}{O:Int→Prop}(hf:m.funcs[c.f]?=some fc) (hb:fc.blocks[c.b]?=some bc) (hi:JInv m fc z) (ht:FT Ψ z c) (hx:x.op=14)
    (hF:Qx m.funcs.length x=0) (hc:Rc m z x= .ok z') (hg:m.funcs[x.k.toNat]?=some gf) (hr:(Nf m fc c.f c.b bc.fin c.i z' (bc.code.drop c.i)).1=0)
    (hw:Wt m Ψ st fc (O9 fc c) O) (hj:uP fc z c) (hd:∀k,aF fc z c k→¬O k):Wt m Ψ (c::st) gf (x.regs.map c.ρ) (fun k=>aF fc z c k∨O k)
structure Safe (m:Module) (Ψ:Lx) (s:MS) (f:Fun) (b:Block) (z:JS) (O:Int→Prop):Prop where
 ty:HTy Ψ s.h
 hf:m.funcs[s.g.f]?=some f
 hb:f.blocks[s.g.b]?=some b
 run:(Nf m f s.g.f s.g.b b.fin s.g.i z (b.code.drop s.g.i)).1=0
 inv:JInv m f z
 ft:FT Ψ z s.g
 wt:Wt m Ψ s.st f (O9 f s.g) O
 inj:uP f z s.g
 dis:∀k,aF f z s.g k→¬O k
 has:∀k,s.h.has k=true↔(aF f z s.g k∨O k)
def W8 (m:Module)(s:MS):Prop:=∃Ψ f b z O,Safe m Ψ s f b z O
section
variable {m:Module}{Ψ Ψ':Lx}{s:MS}{f:Fun}{b:Block}{z z':JS}{O:Int→Prop}{g:Frm}{k:Int}{t u:Ty}{v:Val}
theorem Wt.ext (h:Wt m Ψ st f kp O)(he:VJ Ψ Ψ'):Wt m Ψ' st f kp O:=by
 induction h with
 | nil hf=>exact .nil hf
 | cons hf hb hi ht hx hF hc hg hr hw hj hd ih=>exact .cons hf hb hi (ht.ext he) hx hF hc hg hr ih hj hd
theorem uQ (h0:0≤k)(hk:k<f.regs)(hl:f.regs≤g.regs.length):g.ρ k∈O9 f g:=by
 unfold Frm.ρ O9;have h1:k.toNat<g.regs.length:=Df;rw [E9,E7 h1];refine Fa (i:=k.toNat) ?_;rw [F5 Jo,E7 h1];rfl
theorem qw {x:Ins}{gf:Fun}(hc:Rc m z x= .ok z')(hg:m.funcs[x.k.toNat]?=some gf):(x.regs.length:Int)=gf.regs∧M0 z.h [] x.regs= .ok ()∧OF z x.args gf.params x.regs= .ok ()∧z'=⟨z.h,z.l++gf.results.map (MI x.regs)⟩:=by
 unfold Rc at hc;rw [hg] at hc;dsimp only at hc;split at hc
 · cases hc
 · rename_i hl
   obtain ⟨_,h1,hc⟩:=Qa hc;obtain ⟨_,h2,hc⟩:=Qa hc;split at hc
   · cases hc
   · cases hc;exact ⟨Jo,h1,h2,rfl⟩
theorem ki (hi:JInv m f z):f.regs≤z.h.length:=by
 by_cases h:f.regs≤0
 · omega
 · have:=SC (hi.keep (f.regs - 1) Jo Jo);omega
theorem Wt.kept (h:Wt m Ψ st f kp O):∀k∈kp,O k:=by
 induction h with
 | nil hf=>intro k hk;cases hk
 | @cons c st fc gf bc z z' x O hf hb hi ht hx hF hc hg hr hw hj hd ih=>
   intro k hk;obtain ⟨r,hrx,rfl⟩:=FU.1 hk;obtain ⟨_,h1,_⟩:=qw hc hg;have hh:=j1 h1 r hrx;have hrg:=SC hh;by_cases hlt:r<fc.regs
   · exact .inr (ih _ (uQ hrg.1 hlt (by rw [ht.n];exact ki hi)))
   · exact .inl ⟨r,hh,Jo,rfl⟩
theorem Safe.held (h:Safe m Ψ s f b z O){r:Int}(hr:Kz z.h r=true):s.h.has (s.g.ρ r)=true:=by
 have hrg:=SC hr;rw [h.has];by_cases hlt:r<f.regs
 · exact .inr (h.wt.kept _ (uQ hrg.1 hlt (by rw [h.ft.n];exact ki h.inv)))
 · exact .inl ⟨r,hr,Jo,rfl⟩
theorem kj (ht:FT Ψ z g)(h:Lw z k= .ok t):∃v,g.val k=some v∧VT Ψ v (t.rn g.regs):=by
 obtain ⟨h0,h1⟩:=lZ h;obtain ⟨v,h2,h3⟩:=ht.v.get (i:=k.toNat) (t:=t.rn g.regs) (by rw [Fy,h1];rfl);exact ⟨v,by unfold Frm.val;rw [if_neg Jo];exact h2,h3⟩
theorem Y9 (ht:FT Ψ z g)(h:KB z k kd= .ok t):∃v,g.val k=some v∧VT Ψ v (t.rn g.regs)∧t.kind=kd:=by
 obtain ⟨v,h1,h2⟩:=kj ht (QhI h);exact ⟨v,h1,h2,(pO h).2.2⟩
theorem aG (ht:FT Ψ z g)(h:KB z k 1= .ok t):∃n,g.num k=some n:=by
 obtain ⟨v,h1,h2,h3⟩:=Y9 ht h;have h4:=h2.kind;rw [HW,h3] at h4;exact ⟨v.n,by unfold Frm.num;rw [h1];exact if_pos h4⟩
theorem Safe.at_ (h:Safe m Ψ s f b z O)(hj:Lr z k kd= .ok t)(hk:kd≠1):∃v,s.g.val k=some v∧VT Ψ v (t.rn s.g.regs)∧(t.rn s.g.regs).kind=kd∧v.kind=kd∧s.h.has (t.rn s.g.regs).r=true∧(t.rn s.g.regs).r=s.g.ρ t.r:=by
 obtain ⟨v,h1,h2⟩:=kj h.ft (ug hj);obtain ⟨_,_,h3,h4⟩:=W4 hj;have h5:(t.rn s.g.regs).kind=kd:=(by rw [HW,h3]);have h6:(t.rn s.g.regs).r=s.g.ρ t.r:=Ty.rn_r _ Jo;exact ⟨v,h1,h2,h5,by rw [h2.kind,h5],by rw [h6];exact h.held h4,h6⟩
theorem uR (ht:FT Ψ z g):∀{l:List Int}{ts:List Ty},Kw z l= .ok ts→∃vs,g.args l=some vs∧Mw Ψ vs (ts.map fun t=>t.rn g.regs)
 | [],ts,h=>by rw [Kw] at h;cases h;exact ⟨[],rfl,IF Ψ⟩
 | k::l,ts,h=>by
   rw [Kw] at h;obtain ⟨t,h1,h⟩:=Qa h;obtain ⟨us,h2,h⟩:=Qa h;cases h;obtain ⟨v,h3,h4⟩:=kj ht h1;obtain ⟨vs,h5,h6⟩:=uR ht h2;exact C9
theorem uS (ht:FT Ψ z g){regs:List Int}:∀{l:List Int}{want:List Ty},l.length=want.length→NT z regs l want= .ok ()→∃vs,g.args l=some vs∧Mw Ψ vs (want.map fun t=>(t.rn regs).rn g.regs)
 | [],[],_,_=>⟨[],rfl,IF Ψ⟩
 | [],_::_,hl,_=>by simp at hl
 | _::_,[],hl,_=>by simp at hl
 | k ::l,u::want,hl,h=>by
   rw [NT] at h;obtain ⟨t,h1,h⟩:=Qa h
   cases hu:u.ren regs with
   | none=>rw [hu] at h;cases h
   | some u'=>
     rw [hu] at h;dsimp only at h;split at h
     · cases h
     · rename_i he;have he:t=u':=FP.1 he;obtain ⟨v,h3,h4⟩:=kj ht h1;obtain ⟨vs,h5,h6⟩:=uS ht (by simpa using hl) h;rw [he,Ty.rn_of u u' hu] at h4;exact C9
theorem qx (ht:FT Ψ z g)(h:OF z l want regs= .ok ()):∃vs,g.args l=some vs∧Mw Ψ vs (want.map fun t=>(t.rn regs).rn g.regs):=by
 unfold OF at h;split at h
 · cases h
 · rename_i hl;exact uS ht Jo h
theorem VX (hn:g.regs.length=z.h.length)(h:∀r∈l,Kz z.h r=true):g.rgs l=some (l.map g.ρ):=by
 induction l with
 | nil=>rfl
 | cons r l ih=>
   have h1:=SC (h r (Gi ..))
   have h2:g.reg r=some (g.ρ r):=by
    unfold Frm.reg Frm.ρ;rw [if_neg Jo,E9,E7 Jo];rfl
   rw [Frm.rgs,h2,ih fun q hq=>h q (F3 _ hq)];rfl
theorem uT {g g':Frm}(h:g.vals=g'.vals):∀l:List Int,g.args l=g'.args l
 | []=>rfl
 | k::l=>by
   have h1:g.val k=g'.val k:=(by unfold Frm.val;rw [h]);rw [Frm.args,Frm.args,h1,uT h l]
theorem uU {g g':Frm}(h:g.regs=g'.regs):∀l:List Int,g.rgs l=g'.rgs l
 | []=>rfl
 | k::l=>by
   have h1:g.reg k=g'.reg k:=(by unfold Frm.reg;rw [h]);rw [Frm.rgs,Frm.rgs,h1,uU h l]
theorem uV (s:MS)(l:List Int):s.next.g.args l=s.g.args l:=uT (g:=s.next.g) (g':=s.g) rfl l
theorem VY (s:MS)(l:List Int):s.next.g.rgs l=s.g.rgs l:=uU (g:=s.next.g) (g':=s.g) rfl l
theorem Safe.ins (h:Safe m Ψ s f b z O){x:Ins}(hx:b.code[s.g.i]?=some x):Qx m.funcs.length x=0∧KK m f z x= .ok (KM m f z x).2∧(Nf m f s.g.f s.g.b b.fin (s.g.i+1) (KM m f z x).2 (b.code.drop (s.g.i+1))).1=0:=by
 have h1:=h.run;rw [Q1 hx] at h1;by_cases hc:(KM m f z x).1=0
 · rw [ql hc] at h1;obtain ⟨h2,h3⟩:=pS hc;exact ⟨h2,h3,h1⟩
 · rw [qm hc] at h1;exact absurd h1 hc
theorem Safe.more (h:Safe m Ψ s f b z O){out:List Int}{fuel:Nat}(hH:HTy Ψ' h')(hE:VJ Ψ Ψ')(hhas:∀q,h'.has q=s.h.has q)(hz:z'=⟨z.h,z.l++ts⟩)
 (hv:Mw Ψ' vs (ts.map fun t=>t.rn s.g.regs))(hr:(Nf m f s.g.f s.g.b b.fin (s.g.i+1) z' (b.code.drop (s.g.i+1))).1=0)(hi:JInv m f z'):
 Safe m Ψ' ⟨h',⟨s.g.f,s.g.b,s.g.i+1,s.g.vals++vs,s.g.regs⟩,s.st,inp,out,fuel⟩ f b z' O:=by
 subst hz;refine ⟨hH,h.hf,h.hb,hr,hi,⟨h.ft.n,?_⟩,h.wt.ext hE,h.inj,h.dis,fun k=>?_⟩
 · show Mw Ψ' (s.g.vals++vs) ((z.l++ts).map fun t=>t.rn s.g.regs);rw [FG];exact (h.ft.v.ext hE).app hv
 · show h'.has k=true↔_;rw [hhas];exact h.has k
def gr (m:Module):Stp→Prop
 | .go s=>W8 m s
 | .halt _=>True
 | .done _=>True
 | .lost=>False
theorem mg (h:LH z t= .ok z'):z'=⟨z.h,z.l++[t]⟩:=by
 obtain ⟨_,h1,h2⟩:=l0 h;obtain ⟨a,l⟩:=z';dsimp only at h1 h2;rw [h1,h2]
theorem Qf3 (Ψ:Lx)(n:Int)(f:List Int):VT Ψ (K4 n) (Ks.rn f):=by
 unfold Ks;rw [Hw];exact ⟨rfl,fun h=>absurd rfl h,fun h=>by cases h<;>rename_i h<;>cases h⟩
theorem Za {h:HpS}{y:Val}(hk:y.kind=1)(f:List Int):VT Ψ y (Ks.rn f):=by
 unfold Ks;rw [Hw];exact ⟨hk,fun h=>absurd rfl h,fun h=>by cases h<;>rename_i h<;>cases h⟩
theorem Zb (hM:m.fault.1=0)(hm:m.Short)(h:Safe m Ψ s f b z O){x:Ins}(hx:b.code[s.g.i]?=some x)(hop:x.op≠3)(hop4:x.op≠4)(hop14:x.op≠14):gr m ((s.next).ins m x):=by
 obtain ⟨hF,hj,hrun⟩:=h.ins hx;have hinv:=j8 hM hm h.inv hF hj;have hopr:=aq hF;have hft:=h.ft;have e0:s.next.g.num=s.g.num:=rfl;have same:∀(q:Int),s.h.has q=s.h.has q:=fun _=>rfl;generalize (KM m f z x).2=z' at hj hrun hinv;unfold MS.ins;rcases LA (op:=x.op) Jo Jo with e|e|e|e|e|e|e|e|e|e|e|e|e|e
 · rw [if_pos e];rw [W5 (.inl e)] at hj;exact Bf
 · rw [if_neg Jo,if_pos e]
   rw [ar e] at hj;obtain ⟨t1,h1,hj⟩:=Qa hj;obtain ⟨t2,h2,hj⟩:=Qa hj;obtain ⟨a,ha⟩:=aG hft h1;obtain ⟨c,hc⟩:=aG hft h2;rw [Q5 (show s.next.g.num x.a=some a from ha),Q5 (show s.next.g.num x.b=some c from hc)];split
   · exact trivial
   · exact Bf
 · exact absurd e hop
 · exact absurd e hop4
 · rw [if_neg Jo,if_neg Jo,if_neg Jo,if_neg Jo,if_pos e]
   rw [gh e] at hj;unfold Vo at hj;obtain ⟨t,h1,hj⟩:=Qa hj;obtain ⟨ts,h2,hj⟩:=Qa hj;split at hj
   · cases hj
   · obtain ⟨v,g1,g2,g3,g4,g5,g6⟩:=h.at_ h1 Jd
     obtain ⟨vs,k1,k2⟩:=uR hft h2;rw [Q5 (show s.next.g.val x.a=some v from g1),Q5 ((uV s x.args).trans k1)];unfold MS.made;rcases R2 g2 g3 g5 (L9 vs) with hc|hc
     · rw [show s.next.h.code v (L9 vs)=0 from hc,if_neg Jd,if_neg Jd];have hreg:=g2.reg Jo;have hT:((Ty.mk 3 t.r ts).rn s.g.regs).r=v.region:=(by rw [Ty.rn_mr _ Jd,hreg,g6];rfl);have hK:((Ty.mk 3 t.r ts).rn s.g.regs).kind=3:=HW _ _;have hL:((Ty.mk 3 t.r ts).rn s.g.regs).l=ts.map fun t=>t.rn s.g.regs:=Ty.rn_l _ _;obtain ⟨p1,p2,p3,p4⟩:=uF (t:=(Ty.mk 3 t.r ts).rn s.g.regs) (n:=L9 vs) (x:=⟨false,vs⟩) h.ty hc hT (.inl hK) (No.tup hK (by rw [hL];exact k2));rw [hK] at p4;exact C8
     · rw [show s.next.h.code v (L9 vs)=14 from hc,if_pos rfl];exact trivial
 · rw [if_neg Jo,if_neg Jo,if_neg Jo,if_neg Jo,if_neg Jo,if_pos e];rw [au e] at hj;obtain ⟨t,h1,hj⟩:=Qa hj;obtain ⟨u,h2,hj⟩:=Qa hj;obtain ⟨v,g1,g2,g3,g4,g5,g6⟩:=h.at_ h1 Jd;have hk0:0≤x.k:=E2;have hu:(t.rn s.g.regs).l[x.k.toNat]?=some (u.rn s.g.regs):=E3;obtain ⟨q1,q2⟩:=dV h.ty g2 g3 g5 hk0 hu;rw [Q5 (show s.next.g.val x.a=some v from g1),if_neg Jo,if_neg (by rw [show s.next.h.get v x.k=s.h.get v x.k from rfl,q1];decide)];exact ⟨_,_,_,_,_,h.more h.ty (Iq _) same (mg hj) (IG q2) hrun hinv⟩
 · rw [if_neg Jo,if_neg Jo,if_neg Jo,if_neg Jo,if_neg Jo,if_neg Jo,if_pos e]
   rw [Vp e] at hj;obtain ⟨t,h1,hj⟩:=Qa hj;obtain ⟨u,h2,hj⟩:=Qa hj;obtain ⟨w,h3,hj⟩:=Qa hj;split at hj
   · cases hj
   · rename_i huw;have huw:u=w:=FP.1 huw;subst huw;obtain ⟨v,g1,g2,g3,g4,g5,g6⟩:=h.at_ h1 Jd;obtain ⟨y,y1,y2⟩:=kj hft h3;have hk0:0≤x.k:=E2;have hu:(t.rn s.g.regs).l[x.k.toNat]?=some (u.rn s.g.regs):=E3;have q1:=Y4 h.ty g2 g3 g5 hk0 hu y;rw [Q5 (show s.next.g.val x.a=some v from g1),if_neg Jo,Q5 (show s.next.g.val x.b=some y from y1),if_neg (by rw [show s.next.h.setC v x.k y=s.h.setC v x.k y from rfl,q1];decide)];obtain ⟨p1,p2⟩:=uG (i:=x.k) (y:=y) h.ty g2 (.inl g3) g5 (fun _ u' hu'=>by rw [hu] at hu';cases hu';exact y2) (fun h4=>by omega);have hz:z'=⟨z.h,z.l++[]⟩:=Ed;have hmore:=h.more (inp:=s.inp) (out:=s.out) (fuel:=s.fuel) p1 (Iq _) p2 hz (IF Ψ) hrun hinv;rw [Gk] at hmore;exact ⟨_,_,_,_,_,hmore⟩
 · rw [if_neg Jo,if_neg Jo,if_neg Jo,if_neg Jo,if_neg Jo,if_neg Jo,if_neg Jo,if_pos e]
   rw [ax e] at hj;obtain ⟨t,h1,hj⟩:=Qa hj;obtain ⟨t2,h2,hj⟩:=Qa hj;obtain ⟨v,g1,g2,g3,g4,g5,g6⟩:=h.at_ h1 Jd;obtain ⟨n,hn⟩:=aG hft h2;rw [Q5 (show s.next.g.val x.a=some v from g1),Q5 (show s.next.g.num x.b=some n from hn)];by_cases hr:n<0∨15<n
   · rw [if_pos hr];exact trivial
   · rw [if_neg hr]
     unfold HpS.arrC HpS.arr HpS.arrV;rw [if_neg hr,if_neg hr,if_neg hr];unfold MS.made;rcases R2 g2 g3 g5 (n+1) with hc|hc
     · rw [show s.next.h.code v (n+1)=0 from hc,if_neg Jd,if_neg Jd];have hreg:=g2.reg Jo;have hT:((Ty.mk 4 t.r []).rn s.g.regs).r=v.region:=(by rw [Ty.rn_mr _ Jd,hreg,g6];rfl);have hK:((Ty.mk 4 t.r []).rn s.g.regs).kind=4:=HW _ _;have hth:No Ψ ⟨true,O3 n⟩ ((Ty.mk 4 t.r []).rn s.g.regs):=No.arr hK (by unfold O3;rw [F6];omega) (fun y hy=>by unfold O3 at hy;rw [Gs hy]);obtain ⟨p1,p2,p3,p4⟩:=uF (t:=(Ty.mk 4 t.r []).rn s.g.regs) (n:=n+1) (x:=⟨true,O3 n⟩) h.ty hc hT (.inr hK) hth;rw [hK] at p4;exact C8
     · rw [show s.next.h.code v (n+1)=14 from hc,if_pos rfl];exact trivial
 · rw [if_neg Jo,if_neg Jo,if_neg Jo,if_neg Jo,if_neg Jo,if_neg Jo,if_neg Jo,if_neg Jo,if_pos e]
   rw [ay e] at hj;obtain ⟨t,h1,hj⟩:=Qa hj;obtain ⟨t2,h2,hj⟩:=Qa hj;obtain ⟨v,g1,g2,g3,g4,g5,g6⟩:=h.at_ h1 Jd;obtain ⟨n,hn⟩:=aG hft h2;rw [Q5 (show s.next.g.val x.a=some v from g1),Q5 (show s.next.g.num x.b=some n from hn)];unfold Om;rw [if_neg Jo];rcases Y3 h.ty g2 g3 g5 n with hc|⟨hc,hk⟩
   · rw [if_pos (show (s.next.h.get v n).2=1 from hc)];exact trivial
   · rw [if_neg EA,if_neg EA];exact ⟨_,_,_,_,_,h.more h.ty (Iq _) same (mg hj) (IG (Za (h:=s.h) hk _)) hrun hinv⟩
 · rw [if_neg Jo,if_neg Jo,if_neg Jo,if_neg Jo,if_neg Jo,if_neg Jo,if_neg Jo,if_neg Jo,if_neg Jo,if_pos e]
   rw [aA e] at hj;obtain ⟨t,h1,hj⟩:=Qa hj;obtain ⟨t2,h2,hj⟩:=Qa hj;obtain ⟨t3,h3,hj⟩:=Qa hj;obtain ⟨v,g1,g2,g3,g4,g5,g6⟩:=h.at_ h1 Jd;obtain ⟨n,hn⟩:=aG hft h2;obtain ⟨c,hc⟩:=aG hft h3;rw [Q5 (show s.next.g.val x.a=some v from g1),Q5 (show s.next.g.num x.b=some n from hn),Q5 (show s.next.g.num x.c=some c from hc)];unfold Om;rw [if_neg Jo];rcases VN h.ty g2 g3 g5 n (y:=K4 c) rfl with hq|hq
   · rw [if_neg E4,if_neg E4];obtain ⟨p1,p2⟩:=uG (i:=n) (y:=K4 c) h.ty g2 (.inr g3) g5 (fun h3=>by omega) (fun _=>rfl);have hz:z'=⟨z.h,z.l++[]⟩:=Ed;have hmore:=h.more (inp:=s.inp) (out:=s.out) (fuel:=s.fuel) p1 (Iq _) p2 hz (IF Ψ) hrun hinv;rw [Gk] at hmore;exact ⟨_,_,_,_,_,hmore⟩
   · rw [if_pos (show s.next.h.setC v n (K4 c)=1 from hq)];exact trivial
 · rw [if_neg Jo,if_neg Jo,if_neg Jo,if_neg Jo,if_neg Jo,if_neg Jo,if_neg Jo,if_neg Jo,if_neg Jo,if_neg Jo,if_pos e];rw [dF e] at hj;obtain ⟨t,h1,hj⟩:=Qa hj;obtain ⟨v,g1,g2,g3,g4,g5,g6⟩:=h.at_ h1 Jd;have hq:=dW h.ty g2 g3 g5;rw [Q5 (show s.next.g.val x.a=some v from g1)];unfold Om;rw [if_neg Jo,if_neg ES,if_neg ES];exact Bf
 · rw [if_neg Jo,if_neg Jo,if_neg Jo,if_neg Jo,if_neg Jo,if_neg Jo,if_neg Jo,if_neg Jo,if_neg Jo,if_neg Jo,if_neg Jo,if_pos e]
   rw [W5 (.inr e)] at hj;unfold MS.inS;split
   · exact trivial
   · exact Bf
 · rw [if_neg Jo,if_neg Jo,if_neg Jo,if_neg Jo,if_neg Jo,if_neg Jo,if_neg Jo,if_neg Jo,if_neg Jo,if_neg Jo,if_neg Jo,if_neg Jo,if_pos e]
   rw [gi e] at hj;obtain ⟨t,h1,hj⟩:=Qa hj;obtain ⟨n,hn⟩:=aG hft h1;rw [Q5 (show s.next.g.num x.a=some n from hn)];unfold MS.outS;split
   · exact trivial
   · have hz:z'=⟨z.h,z.l++[]⟩:=Ed;have hmore:=h.more (inp:=s.inp) (out:=s.out++[n]) (fuel:=s.fuel) h.ty (Iq _) same hz (IF Ψ) hrun hinv;rw [Gk] at hmore;exact ⟨_,_,_,_,_,hmore⟩
 · exact absurd e hop14
end
end
section
section
variable {m:Module}{Ψ Ψ':Lx}{s:MS}{f:Fun}{b:Block}{z z':JS}{O:Int→Prop}{g:Frm}{k:Int}{t u:Ty}{v:Val}
theorem kl {l:List Bool}{r:Int}(h0:0≤r)(h1:l[r.toNat]?=some true):Kz l r=true:=by
 have:=(E8.1 h1).1;unfold Kz;rw [E9,h1];simp;omega
theorem qy {l:List Bool}{r:Int}(h:Kz l r=true):0≤r∧l[r.toNat]?=some true:=by
 obtain ⟨h0,h1,h2⟩:=dC h;rw [E9] at h2
 cases hx:l[r.toNat]? with
 | none=>rw [hx] at h2;cases h2
 | some y=>rw [hx] at h2;exact ⟨h0,by rw [show y=true from h2]⟩
theorem Mk {l:List Bool}{r:Int}(h:Kz (l++[true]) r=true):Kz l r=true∨r=l.length:=by
 obtain ⟨h0,h1⟩:=qy h;by_cases hr:r<l.length
 · rw [Fg Jo] at h1;exact .inl (kl h0 h1)
 · have:=(E8.1 h1).1;rw [Fc] at this;simp only [Fk,FF] at this;exact .inr Jo
theorem Qe1 {l:List Bool}{r:Int}(h:Kz l r=true):Kz (l++[true]) r=true:=uz h
theorem Qe0 (l:List Bool):Kz (l++[true]) l.length=true:=kl Jo (by rw [FJ,Ff (FE _),Hk];rfl)
theorem km {l:List Bool}{r q:Int}(h0:0≤q):Kz (l.set q.toNat false) r=true↔Kz l r=true∧r≠q:=by
 constructor
 · intro h
   obtain ⟨h1,h2⟩:=qy h;rw [Gz] at h2;split at h2
   · split at h2<;>cases h2
   · rename_i hne;exact ⟨kl h1 h2,Jo⟩
 · rintro ⟨h1,h2⟩;obtain ⟨h3,h4⟩:=qy h1;exact kl h3 (by rw [Gz,if_neg Jo];exact h4)
theorem VZ {n:Nat}{r:Int}:Kz (List.replicate n true) r=true↔0≤r∧r<n:=by
 constructor
 · intro h;have:=SC h;rw [F6] at this;exact this
 · rintro ⟨h1,h2⟩;exact kl h1 (by rw [G6,if_pos Jo])
theorem uW {a:Int}(h:i<l.length):(l++[a]).getD i 0=l.getD i 0:=by
 rw [E9,Fg h,←E9]
theorem qz {fn:Int→Int}(h:i<l.length):(l.map fn).getD i 0=fn (l.getD i 0):=by
 rw [E9,Fy,E7 h,E9,E7 h];rfl
theorem V0 {a:Int}(hl:f.regs≤g.regs.length):O9 f ⟨g.f,g.b,i,vs,g.regs++[a]⟩=O9 f g:=by
 unfold O9;exact HB Jo
theorem Zc (h:Safe m Ψ s f b z O):s.h.has s.h.l.length=false:=by
 cases hx:s.h.has s.h.l.length with
 | false=>rfl
 | true=>have:=Rx hx;omega
theorem V1 (hM:m.fault.1=0)(hm:m.Short)(h:Safe m Ψ s f b z O){x:Ins}(hx:b.code[s.g.i]?=some x)(hop:x.op=3):gr m ((s.next).ins m x):=by
 obtain ⟨hF,hj,hrun⟩:=h.ins hx;have hinv:=j8 hM hm h.inv hF hj;have hrl:=ki h.inv;have hn:=h.ft.n;unfold MS.ins;rw [if_neg Jo,if_neg Jo,if_pos hop];unfold MS.newR;by_cases hfu:s.h.full=true
 · rw [if_pos (show s.next.h.full=true from hfu)];exact trivial
 · rw [if_neg (show¬s.next.h.full=true from hfu)]
   rw [gg hop] at hj;split at hj
   · cases hj
   · generalize (KM m f z x).2=z' at hj hrun hinv
     cases hj;have eo:s.h.open=⟨s.h.l++[⟨true,[],0,0⟩],s.h.left⟩:=(by unfold HpS.open;rw [if_neg hfu]);have ev:s.h.openV=⟨2,s.h.l.length,0,0⟩:=(by unfold HpS.openV;rw [if_neg hfu]);show W8 m ⟨s.h.open,⟨s.g.f,s.g.b,s.g.i+1,s.g.vals++[s.h.openV],s.g.regs++[s.h.openV.region]⟩,s.st,s.inp,s.out,s.fuel⟩;rw [ev]
     have hrho:∀r:Int,Kz z.h r=true→(⟨s.g.f,s.g.b,s.g.i+1,s.g.vals++[⟨2,s.h.l.length,0,0⟩],s.g.regs++[(s.h.l.length:Int)]⟩:Frm).ρ r=s.g.ρ r:=fun r hr=>by
      have:=SC hr;unfold Frm.ρ;exact uW Jo
     have hrhn:(⟨s.g.f,s.g.b,s.g.i+1,s.g.vals++[⟨2,s.h.l.length,0,0⟩],s.g.regs++[(s.h.l.length:Int)]⟩:Frm).ρ z.h.length=s.h.l.length:=by
      unfold Frm.ρ;rw [FJ,←hn,E9,Ff (FE _),Hk];rfl
     have hhas:∀q,s.h.open.has q=true↔(s.h.has q=true∨q=s.h.l.length):=fun q=>by
      unfold HpS.has;rw [eo,me];by_cases hq:q=s.h.l.length
      · rw [if_pos hq];exact ⟨fun _=> .inr hq,fun _=>rfl⟩
      · rw [if_neg hq];exact ⟨fun hh=> .inl hh,fun hh=>hh.elim id fun hh=>absurd hh hq⟩
     have hnn:=Zc h;refine ⟨Ψ,f,b,_,O,VL h.ty,h.hf,h.hb,hrun,hinv,⟨by show (s.g.regs++[_]).length=(z.h++[true]).length;rw [Fc,Fc,hn];rfl,?_⟩,?_,?_,?_,fun q=>?_⟩
     · show Mw Ψ (s.g.vals++[_]) ((z.l++[Ty.mk 2 z.h.length []]).map fun t=>t.rn (s.g.regs++[(s.h.l.length:Int)]))
       rw [FG];refine Kc ?_ (IG ?_)
       · have e9:(z.l.map fun t=>t.rn (s.g.regs++[(s.h.l.length:Int)]))=z.l.map fun t=>t.rn s.g.regs:=GK fun t ht=>JW (n:=z.h.length) (fun i hi=>uW Jo) t (h.inv.wf t ht);rw [e9];exact h.ft.v
       · show VT Ψ ⟨2,s.h.l.length,0,0⟩ ((Ty.mk 2 z.h.length []).rn (s.g.regs++[(s.h.l.length:Int)]));rw [Hw];refine ⟨rfl,fun _=>?_,fun h9=>by cases h9<;>rename_i h9<;>cases h9⟩;rw [if_pos (show (2:Int)≠1 by decide)];exact hrhn.symm
     · rw [show O9 f ⟨s.g.f,s.g.b,s.g.i+1,s.g.vals++[⟨2,s.h.l.length,0,0⟩],s.g.regs++[(s.h.l.length:Int)]⟩=O9 f s.g from V0 Jo];exact h.wt
     · intro r q hr hq h1 h2 he
       rcases Mk hr with hr|rfl
       · rcases Mk hq with hq|rfl
         · rw [hrho r hr,hrho q hq] at he;exact h.inj r q hr hq h1 h2 he
         · rw [hrho r hr,hrhn] at he;have:=h.held hr;rw [he,hnn] at this;cases this
       · rcases Mk hq with hq|rfl
         · rw [hrhn,hrho q hq] at he;have:=h.held hq;rw [←he,hnn] at this;cases this
         · rfl
     · rintro q ⟨r,hr,h1,rfl⟩ hO
       rcases Mk hr with hr|rfl
       · rw [hrho r hr] at hO;exact h.dis _ ⟨r,hr,h1,rfl⟩ hO
       · rw [hrhn] at hO;have:=(h.has s.h.l.length).2 (.inr hO);rw [hnn] at this;cases this
     · rw [hhas,h.has]
       constructor
       · rintro ((⟨r,hr,h1,rfl⟩|hO)|rfl)
         · exact .inl ⟨r,Qe1 hr,h1,hrho r hr⟩
         · exact .inr hO
         · exact .inl ⟨z.h.length,Qe0 _,hrl,hrhn⟩
       · rintro (⟨r,hr,h1,rfl⟩|hO)
         · rcases Mk hr with hr|rfl
           · exact .inl (.inl ⟨r,hr,h1,(hrho r hr).symm⟩)
           · exact .inr hrhn
         · exact .inl (.inr hO)
theorem V2 (hc:s.h.can v=true)(q:Int):(s.h.shut v).has q=true↔s.h.has q=true∧q≠v.region:=by
 have e:s.h.shut v=⟨s.h.l.set v.region.toNat Rgn.none,s.h.left+(s.h.reg v.region).pages⟩:=(by unfold HpS.shut;rw [hc];rfl);unfold HpS.can at hc;rw [Fj] at hc;obtain ⟨g0,g1,g2,g3⟩:=Rx hc.2;unfold HpS.has;rw [e,reg_set (left':=s.h.left) Jo];by_cases hq:q=v.region
 · rw [if_pos Jo];exact ⟨fun h=>(by cases h),fun h=>absurd hq h.2⟩
 · rw [if_neg Jo];exact ⟨fun h=>⟨h,hq⟩,fun h=>h.1⟩
theorem QgE (hM:m.fault.1=0)(hm:m.Short)(h:Safe m Ψ s f b z O){x:Ins}(hx:b.code[s.g.i]?=some x)(hop:x.op=4):gr m ((s.next).ins m x):=by
 obtain ⟨hF,hj,hrun⟩:=h.ins hx;have hinv:=j8 hM hm h.inv hF hj;unfold MS.ins;rw [if_neg Jo,if_neg Jo,if_neg Jo,if_pos hop];rw [dE hop] at hj;obtain ⟨t,h1,hj⟩:=Qa hj;split at hj
 · cases hj
 · rename_i hlt
   obtain ⟨v,g1,g2,g3,g4,g5,g6⟩:=h.at_ h1 Jd;obtain ⟨_,_,_,hh⟩:=W4 h1;have hrg:=SC hh;have hcan:=VK g2 g3 g5;have hv:v.region=s.g.ρ t.r:=(by rw [g2.reg Jo,g6]);generalize (KM m f z x).2=z' at hj hrun hinv;cases hj;rw [Q5 (show s.next.g.val x.a=some v from g1),if_neg (by rw [show s.next.h.can v=s.h.can v from rfl,hcan];decide)];refine ⟨Ψ,f,b,_,O,VM h.ty,h.hf,h.hb,hrun,hinv,⟨by show s.g.regs.length=(z.h.set _ _).length;rw [FL];exact h.ft.n,h.ft.v⟩,h.wt,?_,?_,fun q=>?_⟩
   · intro r q hr hq h1 h2 he;exact h.inj r q ((km hrg.1).1 hr).1 ((km hrg.1).1 hq).1 h1 h2 he
   · rintro q ⟨r,hr,h1,rfl⟩ hO;exact h.dis _ ⟨r,((km hrg.1).1 hr).1,h1,rfl⟩ hO
   · show (s.h.shut v).has q=true↔_
     rw [V2 hcan,h.has,hv];constructor
     · rintro ⟨⟨r,hr,h1,rfl⟩|hO,hne⟩
       · exact .inl ⟨r,(km hrg.1).2 ⟨hr,fun he=>hne (by rw [he])⟩,h1,rfl⟩
       · exact .inr hO
     · rintro (⟨r,hr,h1,rfl⟩|hO)
       · obtain ⟨h3,h4⟩:=(km hrg.1).1 hr;exact ⟨.inl ⟨r,h3,h1,rfl⟩,fun he=>h4 (h.inj r t.r h3 hh h1 Jo he)⟩
       · exact ⟨.inr hO,fun he=>h.dis _ ⟨t.r,hh,Jo,he.symm⟩ hO⟩
theorem uX {f:Fun}{fi:Nat}:∀{l:List Block}{b0:Nat},(QJ m f fi b0 l).1=0→∀(b:Nat) (y:Block),l[b]?=some y→(Nf m f fi (b0+b) y.fin 0 (MJ y) y.code).1=0
 | [],_,_,b,y,hy=>by simp at hy
 | z::l,b0,h,b,y,hy=>by
   rw [QJ] at h;obtain ⟨h1,h2⟩:=RZ h
   cases b with
   | zero=>rw [FQ] at hy;cases hy;exact h1
   | succ b=>rw [Gg] at hy;rw [show b0+(b+1)=b0+1+b by omega];exact uX h2 b y hy
theorem uY:∀{l:List Fun}{f0:Nat},(OG m f0 l).1=0→∀(f:Nat) (x:Fun),l[f]?=some x→(QJ m x (f0+f) 0 x.blocks).1=0
 | [],_,_,b,y,hy=>by simp at hy
 | z::l,b0,h,b,y,hy=>by
   rw [OG] at h;obtain ⟨h1,h2⟩:=RZ h
   cases b with
   | zero=>rw [FQ] at hy;cases hy;exact h1
   | succ b=>rw [Gg] at hy;rw [show b0+(b+1)=b0+1+b by omega];exact uY h2 b y hy
theorem SG (h:m.runs.1=0):m.fault.1=0:=(RZ h).1
theorem qA (h:m.runs.1=0){x:Fun}{y:Block}(hx:m.funcs[fi]?=some x)(hy:x.blocks[bi]?=some y):(Nf m x fi bi y.fin 0 (MJ y) y.code).1=0:=by
 have h1:=uY (RZ h).2 fi x hx;rw [GF] at h1;have h2:=uX h1 bi y hy
 rwa [GF] at h2
theorem uZ {regs:List Int}(hrs:rs=l.map g.ρ)(hl:(l.length:Int)=bb.regs)(h16:bb.regs≤16)(hv:Mw Ψ vs (bb.params.map fun t=>(t.rn l).rn g.regs))(hw:∀t∈bb.params,t.wrong 8 bb.regs=0):
 FT Ψ (MJ bb) ⟨fi,bi,0,vs,rs⟩:=by
 subst hrs;refine ⟨by show (l.map g.ρ).length=(List.replicate (min bb.regs 16).toNat true).length;rw [Fb,F6];omega,?_⟩;show Mw Ψ vs (bb.params.map fun t=>t.rn (l.map g.ρ));have e:(bb.params.map fun t=>t.rn (l.map g.ρ))=bb.params.map fun t=>(t.rn l).rn g.regs:=GK fun t ht=>(JX (n:=bb.regs) (fun i hi=>qz Jo) t (hw t ht)).symm;rw [e];exact hv
theorem ee (h0:0≤bb.regs)(h16:bb.regs≤16){r:Int}:Kz (MJ bb).h r=true↔0≤r∧r<bb.regs:=by
 unfold MJ;dsimp only;rw [VZ];omega
theorem QgF (hR:m.runs.1=0)(hm:m.Short)(h:Safe m Ψ s f b z O){x:Ins}(hx:b.code[s.g.i]?=some x)(hop:x.op=14):gr m ((s.next).ins m x):=by
 have hM:=SG hR;obtain ⟨hF,hj,hrun⟩:=h.ins hx;unfold MS.ins;(repeat rw [if_neg Jo]);rw [dG hop] at hj
 cases hg:m.funcs[x.k.toNat]? with
 | none=>unfold Rc at hj;rw [hg] at hj;cases hj
 | some gf=>
   obtain ⟨h1,h2,h3,h4⟩:=qw hj hg;have hall:=j1 h2;have hrs:=VX h.ft.n hall;obtain ⟨vs,k1,k2⟩:=qx h.ft h3;unfold MS.call;rw [hg];dsimp only;rw [Q5 ((VY s x.regs).trans hrs),Q5 ((uV s x.args).trans k1)];have hlen:=k2.1;rw [Fb] at hlen;rw [if_neg DJ];split
   · exact trivial
   · have hfh:=Vu (SB hM hg)
     obtain ⟨b0,hb0⟩:∃b0,gf.blocks[0]?=some b0:=⟨_,E7 Jo⟩;have hbh:=aC (W6 hM hg hb0).1;obtain ⟨e1,e2⟩:=hbh.2.2.2.1 rfl
     have hno:∀r,Kz (MJ b0).h r=true→gf.regs≤r→False:=fun r hr hge=>by
      have:=(ee Jo Jo).1 hr;omega
     refine ⟨Ψ,gf,b0,MJ b0,(fun k=>aF f z s.next.g k∨O k),h.ty,hg,hb0,?_,ma hm hM hg hb0,uZ (regs:=[]) (g:=s.g) rfl Jo Jo (by rw [e2];exact k2) (fun t ht=>?_),?_,?_,?_,fun q=>?_⟩
     · exact qA hR hg hb0
     · exact Hv (j0 hbh.2.2.1 t ht)
     · show Wt m Ψ (s.next.g::s.st) gf (O9 gf ⟨x.k.toNat,0,0,vs,x.regs.map s.g.ρ⟩) _;rw [show O9 gf ⟨x.k.toNat,0,0,vs,x.regs.map s.g.ρ⟩=x.regs.map s.next.g.ρ from FM DJ];exact .cons (c:=s.next.g) (z:=z) h.hf h.hb h.inv ⟨h.ft.n,h.ft.v⟩ hop hF hj hg hrun h.wt h.inj h.dis
     · intro r q hr _ h5 _ _;exact (hno r hr h5).elim
     · rintro q ⟨r,hr,h5,rfl⟩ _;exact hno r hr h5
     · show s.h.has q=true↔_;rw [h.has];exact ⟨fun hh=> .inr hh,fun hh=>hh.elim (fun ⟨r,hr,h5,_⟩=>(hno r hr h5).elim) id⟩
theorem Qcx (f:Fun)(z:JS)(t:To):NZ (NK f z t):=by
 unfold NK;split
 · exact .e Jd
 · split
   · exact .e Jd
   · split
     · exact .e Jd
     · split
       · rename_i h;exact .e h
       · exact dM _ _ _ _
theorem Zd (f:Fun)(z:JS)(e:Tail):NZ (Mj f z e):=by
 unfold Mj;refine .ite (Qcx _ _ _) (.ite (.bind (Vs _ _ _) fun _ _=> .bind (Qcx _ _ _) fun _ _=>Qcx _ _ _) (.bind (dM _ _ _ _) fun _ _=> .ite (.e Jd) (.o _)))
theorem Safe.fin (h:Safe m Ψ s f b z O)(hx:b.code[s.g.i]?=none):Nl f.blocks.length b.fin=0∧Mj f z b.fin= .ok ():=by
 have h1:=h.run;rw [qn (Jb.1 hx),RW] at h1;unfold Mb at h1;split at h1
 · rename_i hne;exact absurd h1 hne
 · rename_i he
   refine ⟨FP.1 he,?_⟩
   cases hj:Mj f z b.fin with
   | ok u=>rfl
   | error c=>
     rw [hj] at h1;dsimp only at h1;have hnz:NZ (Mj f z b.fin):=Zd _ _ _;exact absurd h1 (hnz c hj)
theorem qB {h:List Bool}:∀{l seen:List Int},Mv h seen l=0→(∀r∈l,Kz h r=true)∧l.Nodup∧(∀r∈l,r∉seen)∧(LY h).length≤seen.length+l.length
 | [],seen,hp=>by
   rw [Mv] at hp;split at hp
   · cases hp
   · exact ⟨by simp,I0,by simp,by simp only [FF];omega⟩
 | x ::l,seen,hp=>by
   rw [Mv] at hp;split at hp
   · rename_i hx
     split at hp
     · cases hp
     · rename_i hns
       obtain ⟨h1,h2,h3,h4⟩:=qB hp;refine ⟨fun r hr=>?_,G9.2 ⟨fun hm=>h3 x hm Js,h2⟩,fun r hr=>?_,by simp only [Fc,Fk,FF] at h4 ⊢;omega⟩
       · rcases FA.1 hr with rfl|hr
         · exact hx
         · exact h1 r hr
       · rcases FA.1 hr with rfl|hr
         · exact hns
         · exact fun hs=>h3 r hr (FC.2 (.inl hs))
   · cases hp
theorem V3 {h:List Bool}(hp:Mv h [] l=0):∀r,Kz h r=true→r∈l:=by
 obtain ⟨h1,h2,_,h4⟩:=qB hp;intro r hr;refine FW fun hn=>?_
 have:=bo (a:=r::l) (b:=LY h) (G9.2 ⟨hn,h2⟩) (by
  intro y hy;rcases FA.1 hy with rfl|hy
  · exact Mi.2 hr
  · exact Mi.2 (h1 y hy))
 simp only [Fk,FF] at this h4;omega
theorem qC {n:Nat}(h:NJ l n=true)(hi:i<n):l[i]?=some (i:Int):=by
 unfold NJ at h;rw [Gb] at h;exact of_decide_eq_true (h i (FX.2 hi))
theorem u6 (h:l.Nodup){a:Int}(hi:l[i]?=some a)(hj:l[j]?=some a):i=j:=by
 have h1:=(E8.1 hi).1;exact (List.getElem?_inj h1 h).1 (by rw [hi,hj])
theorem qD (hR:m.runs.1=0)(hm:m.Short)(h:Safe m Ψ s f b z O){t:To}(hj:NK f z t= .ok ())(hb0:0≤t.block):gr m (s.to f t):=by
 have hM:=SG hR;unfold NK at hj;unfold MS.to
 cases hb:f.blocks[t.block.toNat]? with
 | none=>rw [hb] at hj;cases hj
 | some b' =>
   rw [hb] at hj;dsimp only at hj ⊢;split at hj
   · cases hj
   · rename_i hl
     split at hj
     · cases hj
     · rename_i hk
       split at hj
       · cases hj
       · rename_i hp
         have hp:Mv z.h [] t.regs=0:=FP.1 hp;have hk:NJ t.regs f.regs.toNat=true:=(by simpa using hk);obtain ⟨p1,p2,_,_⟩:=qB hp;have p3:=V3 hp;have hrs:=VX h.ft.n p1;obtain ⟨vs,k1,k2⟩:=qx h.ft hj;have hlen:=k2.1;rw [Fb] at hlen;rw [Q5 hrs,Q5 k1,if_neg DJ];have hbh:=aC (W6 hM h.hf hb).1;have hfh:=Vu (SB hM h.hf);have hn:=h.ft.n;have hrl:=ki h.inv
         -- the new names
         have idx:∀r:Int,Kz (MJ b').h r=true→∃q,t.regs[r.toNat]?=some q∧Kz z.h q=true∧(⟨s.g.f,t.block.toNat,0,vs,t.regs.map s.g.ρ⟩:Frm).ρ r=s.g.ρ q:=fun r hr=>by
          have h1:=(ee Jo Jo).1 hr;have h2:t.regs[r.toNat]?=some t.regs[r.toNat]:=E7 Jo;refine ⟨_,h2,p1 _ (Fa h2),?_⟩;have h3:(t.regs.map s.g.ρ).getD r.toNat 0=s.g.ρ (t.regs.getD r.toNat 0):=qz Jo;show (t.regs.map s.g.ρ).getD r.toNat 0=_;rw [h3,E9,h2];rfl
         have up:∀(r q:Int),0≤r→t.regs[r.toNat]?=some q→Kz z.h q=true→(f.regs≤r↔f.regs≤q):=fun r q h0 hq hh=>by
          have hqr:=SC hh;constructor
          · intro hr;refine FW fun hc=>?_;have h1:=qC hk (i:=q.toNat) Jo;rw [show ((q.toNat:Nat):Int)=q by omega] at h1;have:=u6 p2 hq h1;omega
          · intro hq2;refine FW fun hc=>?_;have h1:=qC hk (i:=r.toNat) Jo;rw [hq] at h1;cases h1;omega
         have own:∀q,aF f (MJ b') ⟨s.g.f,t.block.toNat,0,vs,t.regs.map s.g.ρ⟩ q↔aF f z s.g q:=fun q=>by
          constructor
          · rintro ⟨r,hr,h1,rfl⟩;obtain ⟨a,h2,h3,h4⟩:=idx r hr;have h0:=((ee Jo Jo).1 hr).1;exact ⟨a,h3,(up r a h0 h2 h3).1 h1,h4.symm⟩
          · rintro ⟨a,ha,h1,rfl⟩;obtain ⟨i,hi⟩:=Gf.1 (p3 a ha);have hil:=(E8.1 hi).1;have hri:Kz (MJ b').h (i:Int)=true:=(ee Jo Jo).2 Jo;obtain ⟨a2,h2,h3,h4⟩:=idx i hri;rw [FJ,hi] at h2;cases h2;exact ⟨i,hri,(up i a Jo (by rw [FJ];exact hi) h3).2 h1,h4⟩
         refine ⟨Ψ,f,b',MJ b',O,h.ty,h.hf,hb,qA hR h.hf hb,ma hm hM h.hf hb,uZ (regs:=[]) (g:=s.g) rfl Jo Jo k2 (fun u hu=>Hv (j0 hbh.2.2.1 u hu)),?_,?_,?_,fun q=>?_⟩
         · have ek:O9 f ⟨s.g.f,t.block.toNat,0,vs,t.regs.map s.g.ρ⟩=O9 f s.g:=by
            unfold O9;refine GY fun i=>?_;by_cases hi:i<f.regs.toNat
            · rw [F5 hi,F5 hi,Fy,qC hk hi];unfold Frm.ρ;rw [E7 (show i<s.g.regs.length by omega)];simp only [Gd,FJ];rw [E9,E7 (show i<s.g.regs.length by omega)];rfl
            · rw [FI Eb,FI Eb]
           show Wt m Ψ s.st f (O9 f ⟨s.g.f,t.block.toNat,0,vs,t.regs.map s.g.ρ⟩) O;rw [ek];exact h.wt
         · intro r q hr hq h1 h2 he;obtain ⟨a,a1,a2,a3⟩:=idx r hr;obtain ⟨c,c1,c2,c3⟩:=idx q hq;have hr0:=((ee Jo Jo).1 hr).1;have hq0:=((ee Jo Jo).1 hq).1;have hac:=h.inj a c a2 c2 ((up r a hr0 a1 a2).1 h1) ((up q c hq0 c1 c2).1 h2) (by rw [←a3,←c3];exact he);subst hac;have:=u6 p2 a1 c1;omega
         · exact fun q hq=>h.dis q ((own q).1 hq)
         · show s.h.has q=true↔_;rw [h.has];exact or_congr (own q).symm Hl
theorem V4 {n:Nat}(h:i<n):(K6 n).getD i 0=i:=by
 unfold K6;rw [E9,Fy,Ho h];rfl
theorem Ze {l:List Val}(h:Mw Ψ l ts)(hk:∀t∈ts,t.kind=1):∃ns,KF l=some ns:=by
 induction l generalizing ts with
 | nil=>exact ⟨[],rfl⟩
 | cons v l ih=>
   cases ts with
   | nil=>have:=h.1;simp at this
   | cons t ts=>
     have h1:=h.2 0 v t rfl rfl;obtain ⟨ns,h2⟩:=ih (ts:=ts) ⟨by have:=h.1;simpa using this,fun i w u hw hu=>h.2 (i+1) w u (by simpa using hw) (by simpa using hu)⟩ (fun u hu=>hk u (F3 _ hu));exact ⟨v.n::ns,by rw [KF,h2];exact if_pos (by rw [h1.kind];exact hk t (Gi ..))⟩
def kn (h:HpS):Prop:=∀q,h.has q=false
def ko (m:Module)(h:HpS):Stp→Prop
 | .go s=>W8 m s
 | .halt _=>True
 | .done _=>kn h
 | .lost=>False
theorem mj {h:HpS}{r:Stp}(hr:gr m r)(hd:∀l,r≠ .done l):ko m h r:=by
 cases r with
 | go s=>exact hr
 | halt e=>exact trivial
 | done l=>exact absurd rfl (hd l)
 | lost=>exact hr
theorem OH (h:∀a l,fn a≠ .done l):∀l,LB o fn≠ .done l:=by
 cases o with
 | none=>intro l h;cases h
 | some a=>exact h a
theorem Ng [Decidable p]{a b:Stp}(h1:∀l,a≠ .done l)(h2:∀l,b≠ .done l):∀l,(if p then a else b)≠ .done l:=by
 split
 · exact h1
 · exact h2
theorem R3 {s:MS}:∀l,Stp.go s≠ .done l:=fun l h=>by cases h
theorem aH:∀l,Stp.halt e≠ .done l:=fun l h=>by cases h
theorem S9:∀l,Stp.lost≠ .done l:=fun l h=>by cases h
theorem V5 {f:Fun}{t:To}:∀l,s.to f t≠ .done l:=by
 unfold MS.to;split
 · exact S9
 · exact OH fun _=>OH fun _=>Ng S9 R3
theorem qE {v:Val}{k:Stp}(h:∀l,k≠ .done l):∀l,Om v e k≠ .done l:=Ng S9 (Ng aH (Ng S9 h))
theorem ve {h:HpS}{v:Val}:∀l,s.made e h v≠ .done l:=Ng aH (Ng S9 R3)
theorem ef {x:Ins}:∀l,s.ins m x≠ .done l:=by
 unfold MS.ins
 refine Ng R3 (Ng (OH fun _=>OH fun _=>Ng aH R3) (Ng (Ng aH R3) (Ng (OH fun _=>Ng S9 R3) (Ng (OH fun _=>OH fun _=>ve)
  (Ng (OH fun _=>Ng S9 (Ng S9 R3)) (Ng (OH fun _=>Ng S9 (OH fun _=>Ng S9 R3)) (Ng (OH fun _=>OH fun _=>Ng aH ve)
  (Ng (OH fun _=>OH fun _=>qE R3) (Ng (OH fun _=>OH fun _=>OH fun _=>qE R3) (Ng (OH fun _=>qE R3) (Ng ?_ (Ng (OH fun _=>Ng aH R3) ?_))))))))))))
 · unfold MS.inS
   split
   · exact aH
   · exact R3
 · unfold MS.call
   split
   · exact S9
   · exact OH fun _=>OH fun _=>Ng S9 (Ng aH R3)
def SH:Stp→Prop
 | .halt e=>e≠0
 | _=>True
theorem MP [Decidable p]{a b:Stp}(h1:SH a)(h2:SH b):SH (if p then a else b):=by
 split
 · exact h1
 · exact h2
theorem N8 (h:∀a,SH (fn a)):SH (LB o fn):=by
 cases o with
 | none=>exact trivial
 | some a=>exact h a
theorem PZ (h:e≠0):SH (.halt e):=h
theorem qF {v:Val}{k:Stp}(h:SH k):SH (Om v e k):=MP trivial (MP (PZ Jd) (MP trivial h))
theorem vg {h:HpS}{v:Val}:SH (s.made e h v):=MP (PZ Jd) (MP trivial trivial)
theorem eg {x:Ins}:SH (s.ins m x):=by
 unfold MS.ins
 refine MP trivial (MP (N8 fun _=>N8 fun _=>MP (PZ Jd) trivial) (MP (MP (PZ Jd) trivial) (MP (N8 fun _=>MP trivial trivial) (MP (N8 fun _=>N8 fun _=>vg)
  (MP (N8 fun _=>MP trivial (MP trivial trivial)) (MP (N8 fun _=>MP trivial (N8 fun _=>MP trivial trivial)) (MP (N8 fun _=>N8 fun _=>MP (PZ Jd) vg)
  (MP (N8 fun _=>N8 fun _=>qF trivial) (MP (N8 fun _=>N8 fun _=>N8 fun _=>qF trivial) (MP (N8 fun _=>qF trivial) (MP ?_ (MP (N8 fun _=>MP (PZ Jd) trivial) ?_))))))))))))
 · unfold MS.inS
   split
   · exact PZ Jd
   · exact trivial
 · unfold MS.call
   split
   · exact trivial
   · exact N8 fun _=>N8 fun _=>MP trivial (MP (PZ Jd) trivial)
theorem V6 {f:Fun}{t:To}:SH (s.to f t):=by
 unfold MS.to;split
 · exact trivial
 · exact N8 fun _=>N8 fun _=>MP trivial trivial
theorem eh {f:Fun}{e:Tail}:SH (s.fin f e):=by
 unfold MS.fin;refine MP V6 (MP (N8 fun _=>MP V6 V6) ?_);unfold MS.ret;refine N8 fun vs=>MP trivial ?_;split
 · exact trivial
 · split<;>exact trivial
theorem V7 {s:MS}(h:s.one m= .halt e):e≠0:=by
 have h1:SH (s.one m):=by
  unfold MS.one;split
  · exact trivial
  · split
    · exact trivial
    · split
      · exact eg
      · exact eh
 rw [h] at h1;exact h1
theorem V8 (hR:m.runs.1=0)(hm:m.Short)(h:Safe m Ψ s f b z O){e:Tail}(hj:Kg (OF z e.args f.results (K6 f.regs.toNat)) (fun _=>if f.regs<(LY z.h).length then (.error 12:Except Int Unit) else .ok ())= .ok ()):ko m s.h (s.ret f e):=by
 have hM:=SG hR;have hfh:=Vu (SB hM h.hf);have hrl:=ki h.inv;have hn:=h.ft.n;obtain ⟨_,h1,hj⟩:=Qa hj;split at hj
 · cases hj
 · rename_i hlt
   have hno:∀q,¬aF f z s.g q:=by
    rintro q ⟨r,hr,h2,rfl⟩;exact hlt ((qi h.inv hfh.1).2 ⟨r,Mi.2 hr,h2⟩)
   obtain ⟨vs,k1,k2⟩:=qx h.ft h1;have hwr:∀t∈f.results,t.wrong 8 f.regs=0:=fun t ht=>Hv (j0 hfh.2.2.2.1 t ht);have hlen:=k2.1;rw [Fb] at hlen;unfold MS.ret;rw [Q5 k1,if_neg Jo];have hw:=h.wt;generalize hkp:O9 f s.g=kp at hw
   cases hst:s.st with
   | nil=>
     rw [hst] at hw;dsimp only
     cases hw with
     | nil hf0=>
       have hfz:=SB hM hf0
       have hres:∀t∈f.results,t.kind=1:=by
        unfold QI at hfz;split at hfz
        · cases hfz
        · split at hfz
          · rename_i hh;exact absurd hfz hh
          · split at hfz
            · rename_i hh;exact absurd hfz hh
            · split at hfz
              · cases hfz
              · split at hfz
                · cases hfz
                · rename_i hh;intro t ht;exact FW fun hk=>hh ⟨rfl, .inr (.inr ⟨t,ht,hk⟩)⟩
       obtain ⟨ns,h2⟩:=Ze k2 (fun u hu=>by
        obtain ⟨t,ht,rfl⟩:=FU.1 hu;rw [HW,HW];exact hres t ht)
       rw [h2];intro q
       cases hq:s.h.has q with
       | false=>rfl
       | true => rcases (h.has q).1 hq with h3|h3
                 · exact absurd h3 (hno q)
                 · exact h3.elim
   | cons c st=>
     rw [hst] at hw;dsimp only;have hhas:=h.has
     cases hw with
     | @cons _ _ fc _ bc zc z' x O' hf hb hi ht hx hF hc hg hr hw' hj' hd'=>
       obtain ⟨c1,c2,c3,rfl⟩:=qw hc hg;have hall:=j1 c2;have hinv:=j8 (x:=x) hM hm hi hF (by rw [dG hx];exact hc);refine ⟨Ψ,fc,bc,_,O',h.ty,hf,hb,hr,hinv,⟨ht.n,?_⟩,hw',hj',hd',fun q=>?_⟩
       · show Mw Ψ (c.vals++vs) ((zc.l++f.results.map (MI x.regs)).map fun t=>t.rn c.regs)
         rw [FG,List.map_map];refine Kc ht.v ?_
         have e9:(f.results.map ((fun t:Ty=>t.rn c.regs)∘MI x.regs))=f.results.map fun t=>(t.rn (K6 f.regs.toNat)).rn s.g.regs:=by
          refine GK fun t ht2=>?_;have hw8:=hwr t ht2;have hrg:∀r∈x.regs,0≤r∧r<zc.h.length:=fun r hr=>SC (hall r hr)
          obtain ⟨u,hu,_⟩:=Ty.ren_right (n:=zc.h.length) (f:=x.regs) (fun i hi=>by
           rw [E9,E7 hi];exact hrg _ (Hi hi)) t (by rw [c1];exact hw8)
          have e1:MI x.regs t=t.rn x.regs:=(by unfold MI;rw [hu];exact Ty.rn_of t u hu);show (MI x.regs t).rn c.regs=_
          rw [e1,JX (e:=x.regs.map c.ρ) (n:=f.regs) (fun i hi=>by rw [qz Jo];rfl) t hw8,
           JX (e:=s.g.regs) (n:=f.regs) (fun i hi=>by rw [V4 Jo];rfl) t hw8]
          refine JW (n:=f.regs) (fun i hi=>?_) t hw8;rw [←hkp];unfold O9;rw [E9,F5 Jo,←E9]
         rw [e9];exact k2
       · show s.h.has q=true↔_;rw [hhas];exact ⟨fun hh=>hh.elim (fun h3=>absurd h3 (hno q)) id,fun hh=> .inr hh⟩
theorem vj (hR:m.runs.1=0)(hm:m.Short)(h:W8 m s):ko m s.h (s.one m):=by
 obtain ⟨Ψ,f,b,z,O,h⟩:=h;have hM:=SG hR;unfold MS.one;rw [h.hf];dsimp only;rw [h.hb];dsimp only
 cases hx:b.code[s.g.i]? with
 | some x=>
   dsimp only;refine mj ?_ ef;by_cases h3:x.op=3
   · exact V1 hM hm h hx h3
   · by_cases h4:x.op=4
     · exact QgE hM hm h hx h4
     · by_cases h14:x.op=14
       · exact QgF hR hm h hx h14
       · exact Zb hM hm h hx h3 h4 h14
 | none=>
   dsimp only;obtain ⟨he,hj⟩:=h.fin hx;obtain ⟨e1,e2,e3,e4⟩:=gj he;unfold MS.fin;by_cases h1:b.fin.op=1
   · rw [if_pos h1];rw [l6 h1] at hj;have hd:decide (b.fin.op≠3)=true:=decide_eq_true Jo;rw [hd] at e3;exact mj (qD hR hm h hj (YO e3).1) V5
   · rw [if_neg h1]
     by_cases h2:b.fin.op=2
     · rw [if_pos h2]
       rw [aB h2] at hj;obtain ⟨t,g1,hj⟩:=Qa hj;obtain ⟨u,g2,hj⟩:=Qa hj;obtain ⟨n,hn⟩:=aG h.ft g1;have hd:decide (b.fin.op≠3)=true:=decide_eq_true Jo;have hd2:decide (b.fin.op=2)=true:=decide_eq_true h2;rw [hd] at e3;rw [hd2] at e4;rw [Q5 hn];split
       · exact mj (qD hR hm h g2 (YO e3).1) V5
       · exact mj (qD hR hm h hj (YO e4).1) V5
     · rw [if_neg h2];rw [dK Jo] at hj;exact V8 hR hm h hj
theorem vq (h:W8 m s):W8 m s.tick:=by
 obtain ⟨Ψ,f,b,z,O,h⟩:=h;exact ⟨Ψ,f,b,z,O,h.ty,h.hf,h.hb,h.run,h.inv,h.ft,h.wt,h.inj,h.dis,h.has⟩
theorem Qfx (hR:m.runs.1=0)(hm:m.Short)(inp:List Int)(pages:Int):W8 m (MS.start inp pages):=by
 have hM:=SG hR;have hl:=pU hM;obtain ⟨f,hf⟩:∃f,m.funcs[0]?=some f:=⟨_,E7 Jo⟩;have hfh:=Vu (SB hM hf)
 have hz:f.regs=0∧f.params=[]:=by
  have hfz:=SB hM hf;unfold QI at hfz;split at hfz
  · cases hfz
  · split at hfz
    · rename_i hh;exact absurd hfz hh
    · split at hfz
      · rename_i hh;exact absurd hfz hh
      · split at hfz
        · cases hfz
        · split at hfz
          · cases hfz
          · rename_i hh;exact ⟨FW fun hk=>hh ⟨rfl, .inl Jo⟩,FW fun hk=>hh ⟨rfl, .inr (.inl (Hn.2 hk))⟩⟩
 (obtain ⟨b,hb⟩:∃b,f.blocks[0]?=some b:=⟨_,E7 Jo⟩;have hbh:=aC (W6 hM hf hb).1;obtain ⟨e1,e2⟩:=hbh.2.2.2.1 rfl;have hno:∀r,Kz (MJ b).h r=true→False:=fun r hr=>by have:=(ee Jo Jo).1 hr;omega);refine ⟨fun _ _=>none,f,b,MJ b,fun _=>False,⟨fun _ _ _ h=>(by cases h),fun _ _ _ h=>(by cases h)⟩,hf,hb,qA hR hf hb,ma hm hM hf hb,⟨?_,?_⟩,?_,?_,?_,fun q=>?_⟩
 · show 0=(List.replicate (min b.regs 16).toNat true).length;rw [F6];omega
 · show Mw _ [] (b.params.map _);rw [e2,hz.2];exact IF _
 · show Wt m _ [] f (O9 f ⟨0,0,0,[],[]⟩) _;rw [show O9 f ⟨0,0,0,[],[]⟩=[] from List.take_nil];exact .nil hf
 · intro r q hr;exact (hno r hr).elim
 · rintro q ⟨r,hr,_⟩;exact (hno r hr).elim
 · constructor
   · intro hh;have:=Rx hh;have hl0:(MS.start inp pages).h.l.length=0:=rfl;omega
   · rintro (⟨r,hr,_⟩|hh)
     · exact (hno r hr).elim
     · exact hh.elim
def vx (m:Module):Run→Prop
 | .on s=>W8 m s
 | .over s e _=>e=0→kn s.h
 | .stuck _=>False
theorem vy {s:MS}(h:s.one m= .halt e):e≠0:=V7 h
theorem Qb1 (hR:m.runs.1=0)(hm:m.Short){r:Run}(h:vx m r):vx m (r.step m most):=by
 cases r with
 | on s=>
   unfold Run.step;dsimp only;split
   · intro h0;cases h0
   · have h1:=vj hR hm (vq h)
     cases hr:s.tick.one m with
     | go t=>rw [hr] at h1;exact h1
     | halt e=>exact fun h0=>absurd h0 (vy hr)
     | done l=>rw [hr] at h1;exact fun _=>h1
     | lost=>rw [hr] at h1;exact h1
 | over s e b=>exact h
 | stuck f=>exact h
end
end
section
theorem qG {n:Nat}{x:Ins}(h:Qx n x=0):Oj n x=0:=by
 unfold Qx at h;split at h
 · cases h
 · split at h
   · cases h
   · exact h
theorem V9 {n:Nat}{x:Ins}(h:Qx n x=0)(ho:x.op=14):0≤x.k∧x.k<n:=by
 have hk:=qG h;unfold Oj at hk;rw [if_neg Jo,if_neg Jo,if_neg Jo,if_pos ho] at hk;split at hk
 · cases hk
 · omega
theorem ei {n:Nat}{x:Ins}(h:Qx n x=0)(ho:x.op=5):x.args.length≤8:=by
 have hk:=qG h;unfold Oj at hk;rw [if_neg Jo,if_pos ho] at hk;split at hk
 · cases hk
 · omega
theorem en {n:Nat}{x:Ins}(h:Qx n x=0):x.regs.length≤16∧x.args.length≤8:=by
 have hk:=qG h
 have ho:¬x.odd:=by
  unfold Qx at h;split at h
  · cases h
  · split at h
    · cases h
    · assumption
 unfold Ins.odd at ho;by_cases h14:x.op=14
 · unfold Oj at hk
   rw [if_neg Jo,if_neg Jo,if_neg Jo,if_pos h14] at hk;split at hk
   · cases hk
   · split at hk
     · cases hk
     · omega
 · have g1:fG x.op=false:=by unfold fG;exact decide_eq_false h14
   have r0:¬0<x.regs.length:=fun hh=>ho (.inr (.inr (.inr (.inr (.inr (.inl ⟨g1,hh⟩))))));by_cases h5:x.op=5
   · exact ⟨Jo,ei h h5⟩
   · have g2:fR x.op=false:=(by unfold fR;exact decide_eq_false Jo);have a0:¬0<x.args.length:=fun hh=>ho (.inr (.inr (.inr (.inr (.inr (.inr ⟨g2,hh⟩))))));exact ⟨Jo,Jo⟩
theorem kq {n:Nat}(h:Nd n t true=0):t.regs.length≤16∧t.args.length≤8:=by
 unfold Nd at h;rw [if_neg Jd] at h;split at h
 · cases h
 · split at h
   · cases h
   · omega
theorem ml {n:Nat}{e:Tail}(h:Nl n e=0):e.args.length≤8:=by
 unfold Nl at h;split at h
 · cases h
 · split at h
   · cases h
   · split at h
     · cases h
     · omega
theorem et {g:Frm}:∀{l:List Int}{vs:List Val},g.args l=some vs→vs.length=l.length
 | [],_,h=>by cases h;rfl
 | k ::l,vs,h=>by
   rw [Frm.args] at h;split at h
   · rename_i v vs' h1 h2;cases h;rw [Fk,Fk,et h2]
   · cases h
theorem qH {g:Frm}:∀{l:List Int}{vs:List Int},g.rgs l=some vs→vs.length=l.length
 | [],_,h=>by cases h;rfl
 | k ::l,vs,h=>by
   rw [Frm.rgs] at h;split at h
   · rename_i v vs' h1 h2;cases h;rw [Fk,Fk,qH h2]
   · cases h
theorem qI:∀{l:List Val}{ns:List Int},KF l=some ns→ns.length=l.length
 | [],_,h=>by cases h;rfl
 | v ::l,ns,h=>by
   rw [KF] at h;split at h
   · cases h
   · rename_i ns' h1
     split at h
     · cases h;rw [Fk,Fk,qI h1]
     · cases h
def Stp.All (P:MS→Prop):Stp→Prop
 | .go s=>P s
 | .done l=>l.length≤8
 | _=>True
theorem Stp.all_bind {x:Option α}{f:α→Stp}(h:∀a,x=some a→(f a).All P):(LB x f).All P:=by
 cases x with
 | none=>exact trivial
 | some a=>exact h a rfl
abbrev FD:=@Stp.all_bind
theorem Stp.all_if {c:Prop}[Decidable c]{a:Stp}(h1:c→a.All P)(h2:¬c→b.All P):(if c then a else b).All P:=by
 by_cases hc:c
 · rw [if_pos hc];exact h1 hc
 · rw [if_neg hc];exact h2 hc
abbrev Fz:=@Stp.all_if
def aI (m:Module)(k:Nat)(g:Frm):Prop:=∃f b,m.funcs[g.f]?=some f∧f.blocks[g.b]?=some b∧g.i≤b.code.length∧g.vals.length≤8+8*k∧g.regs.length≤16+k
structure Bnd (m:Module) (k:Nat) (s:MS):Prop where
 cur:aI m k s.g
 st:∀x∈s.st,aI m k x
 sl:s.st.length≤39
 out:s.out.length≤2000
section
variable {m:Module}{k:Nat}{s:MS}
theorem aI.up (h:aI m k g):aI m (k+1) g:=by
 obtain ⟨f,b,h1,h2,h3,h4,h5⟩:=h;exact ⟨f,b,h1,h2,h3,Jo,Jo⟩
theorem aI.more (h:aI m k g)(hv:vs.length≤8)(hr:rs.length≤1):aI m (k+1) ⟨g.f,g.b,g.i,g.vals++vs,g.regs++rs⟩:=by
 obtain ⟨f,b,h1,h2,h3,h4,h5⟩:=h;refine ⟨f,b,h1,h2,h3,?_,?_⟩
 · show (g.vals++vs).length≤_;rw [Fc];omega
 · show (g.regs++rs).length≤_;rw [Fc];omega
theorem Bnd.up (h:Bnd m k s):Bnd m (k+1) s:=⟨h.cur.up,fun x hx=>(h.st x hx).up,h.sl,h.out⟩
theorem Bnd.put (h:Bnd m k s)(hv:vs.length≤8):Bnd m (k+1) (s.put vs):=by
 refine ⟨?_,fun x hx=>(h.st x hx).up,h.sl,h.out⟩;have:=h.cur.more (rs:=[]) hv Js;rw [Gk] at this;exact this
theorem Bnd.hp (h:Bnd m k s)(q:HpS):Bnd m k (s.hp q):=⟨h.cur,h.st,h.sl,h.out⟩
theorem Bnd.made (h:Bnd m k s){q:HpS}{v:Val}:(s.made e q v).All (Bnd m (k+1)):=by
 unfold MS.made;exact Fz (fun _=>trivial) fun _=>Fz (fun _=>trivial) fun _=>(h.hp q).put Js
theorem gu {v:Val}{r:Stp}(h:r.All P):(Om v e r).All P:=by
 unfold Om;exact Fz (fun _=>trivial) fun _=>Fz (fun _=>trivial) fun _=>Fz (fun _=>trivial) fun _=>h
theorem Bnd.ins (h:Bnd m k s)(hM:m.fault.1=0){x:Ins}(hx:Qx m.funcs.length x=0):(s.ins m x).All (Bnd m (k+1)):=by
 obtain ⟨q1,q2⟩:=en hx;have h1:∀(v:Val) (t:MS),Bnd m k t→(Stp.go (t.put [v])).All (Bnd m (k+1)):=fun v t ht=>ht.put Js;have h2:∀(q:HpS),(Stp.go (s.hp q)).All (Bnd m (k+1)):=fun q=>(h.hp q).up;unfold MS.ins
 refine Fz (fun _=>h1 _ _ h) fun _=>Fz (fun _=>FD fun a _=>FD fun b _=>Fz (fun _=>trivial) fun _=>h1 _ _ h) fun _=>Fz (fun _=>?_) fun _=>
  Fz (fun _=>FD fun v _=>Fz (fun _=>trivial) fun _=>h2 _) fun _=>Fz (fun _=>FD fun v _=>FD fun l _=>h.made) fun _=>
  Fz (fun _=>FD fun v _=>Fz (fun _=>trivial) fun _=>Fz (fun _=>trivial) fun _=>h1 _ _ h) fun _=>
  Fz (fun _=>FD fun v _=>Fz (fun _=>trivial) fun _=>FD fun y _=>Fz (fun _=>trivial) fun _=>h2 _) fun _=>
  Fz (fun _=>FD fun v _=>FD fun n _=>Fz (fun _=>trivial) fun _=>h.made) fun _=>
  Fz (fun _=>FD fun v _=>FD fun n _=>gu (h1 _ _ h)) fun _=>
  Fz (fun _=>FD fun v _=>FD fun n _=>FD fun c _=>gu (h2 _)) fun _=>
  Fz (fun _=>FD fun v _=>gu (h1 _ _ h)) fun _=>Fz (fun _=>?_) fun _=>Fz (fun _=>FD fun n _=>?_) fun _=>?_
 · unfold MS.newR;refine Fz (fun _=>trivial) fun _=>?_;refine ⟨?_,fun x hx=>(h.st x hx).up,h.sl,h.out⟩;exact h.cur.more (vs:=[_]) (rs:=[_]) Js Js
 · unfold MS.inS
   split
   · exact trivial
   · exact h1 _ _ ⟨h.cur,h.st,h.sl,h.out⟩
 · unfold MS.outS;refine Fz (fun _=>trivial) fun hn=>?_;refine ⟨h.cur.up,fun x hx=>(h.st x hx).up,h.sl,?_⟩;have:=h.out;show (s.out++[n]).length≤2000;rw [Fc];simp only [Fk,FF];omega
 · unfold MS.call
   split
   · exact trivial
   · rename_i g hg
     refine FD fun rs hr=>FD fun vs hv=>Fz (fun _=>trivial) fun _=>Fz (fun _=>trivial) fun hl=>?_;have hb:=(Vu (SB hM hg)).2.2.2.2.1;obtain ⟨b,hb⟩:∃b,g.blocks[0]?=some b:=⟨_,E7 Jo⟩;refine ⟨⟨g,b,hg,hb,FZ _,?_,?_⟩,?_,?_,h.out⟩
     · show vs.length≤_;rw [et hv];omega
     · show rs.length≤_;rw [qH hr];omega
     · intro y hy
       rcases FA.1 hy with rfl|hy
       · exact h.cur.up
       · exact (h.st y hy).up
     · have:=h.sl;show (s.g::s.st).length≤39;rw [Fk];omega
theorem Bnd.to (h:Bnd m k s)(hf:m.funcs[s.g.f]?=some f)(ht:Nd f.blocks.length t true=0):(s.to f t).All (Bnd m (k+1)):=by
 obtain ⟨q1,q2⟩:=kq ht;unfold MS.to;split
 · exact trivial
 · rename_i b hb
   refine FD fun rs hr=>FD fun vs hv=>Fz (fun _=>trivial) fun _=>?_;refine ⟨⟨f,b,hf,hb,FZ _,?_,?_⟩,fun x hx=>(h.st x hx).up,h.sl,h.out⟩
   · show vs.length≤_;rw [et hv];omega
   · show rs.length≤_;rw [qH hr];omega
theorem Bnd.fin (h:Bnd m k s)(hf:m.funcs[s.g.f]?=some f){e:Tail}(he:Nl f.blocks.length e=0):(s.fin f e).All (Bnd m (k+1)):=by
 obtain ⟨q1,q2,q3,q4⟩:=gj he;have q5:=ml he;unfold MS.fin;refine Fz (fun e1=>?_) fun n1=>Fz (fun e2=>FD fun n _=>Fz (fun _=>?_) fun _=>?_) fun n2=>?_
 · rw [decide_eq_true Jo] at q3;exact h.to hf q3
 · rw [decide_eq_true Jo] at q3;exact h.to hf q3
 · rw [decide_eq_true Jo] at q4;exact h.to hf q4
 · unfold MS.ret
   refine FD fun vs hv=>Fz (fun _=>trivial) fun _=>?_;split
   · rename_i c st hst;have hc:=h.st c (by rw [hst];exact Gi);have h8:vs.length≤8:=(by rw [et hv];omega);refine Bnd.put (s:=⟨s.h,c,st,s.inp,s.out,s.fuel⟩) ⟨hc,fun x hx=>h.st x (by rw [hst];exact F3 _ hx),?_,h.out⟩ h8;have:=h.sl;rw [hst,Fk] at this;show st.length≤39;omega
   · split
     · exact trivial
     · rename_i ns hns;show ns.length≤8;rw [qI hns,et hv];omega
theorem Bnd.one (h:Bnd m k s)(hM:m.fault.1=0):(s.one m).All (Bnd m (k+1)):=by
 obtain ⟨f,b,hf,hb,hi,hv,hr⟩:=h.cur;obtain ⟨-,q1,q2⟩:=W6 hM hf hb;unfold MS.one;rw [hf];dsimp only;rw [hb];dsimp only
 cases hx:b.code[s.g.i]? with
 | none=>exact h.fin hf q2
 | some x=>
   have hlt:=(E8.1 hx).1;refine Bnd.ins (s:=s.next) ⟨⟨f,b,hf,hb,?_,hv,hr⟩,h.st,h.sl,h.out⟩ hM (q1 x (Fa hx));show s.g.i+1≤_;omega
abbrev Kd:=@Bnd.one
theorem Bnd.start (hM:m.fault.1=0)(inp:List Int)(pages:Int):Bnd m 0 (MS.start inp pages):=by
 have hl:=pU hM;obtain ⟨f,hf⟩:∃f,m.funcs[0]?=some f:=⟨_,E7 Jo⟩;have hb:=(Vu (SB hM hf)).2.2.2.2.1;obtain ⟨b,hb⟩:∃b,f.blocks[0]?=some b:=⟨_,E7 Jo⟩;exact ⟨⟨f,b,hf,hb,FZ _,FZ _,FZ _⟩,fun x hx=>(by cases hx),FZ _,FZ _⟩
abbrev IT:=@Bnd.start
end
end
section
def Stp.Fu (k:Nat):Stp→Prop
 | .go s=>s.fuel=k
 | _=>True
theorem Stp.fu_bind {k:Nat}{x:Option α}{f:α→Stp}(h:∀a,(f a).Fu k):(LB x f).Fu k:=by
 cases x with
 | none=>exact trivial
 | some a=>exact h a
abbrev F8:=@Stp.fu_bind
theorem Stp.fu_if {k:Nat}{c:Prop}[Decidable c]{a:Stp}(h1:a.Fu k)(h2:b.Fu k):(if c then a else b).Fu k:=by
 by_cases hc:c
 · rw [if_pos hc];exact h1
 · rw [if_neg hc];exact h2
abbrev FY:=@Stp.fu_if
section
variable {m:Module}{s:MS}
theorem vz {h:HpS}{v:Val}:(s.made e h v).Fu s.fuel:=FY trivial (FY trivial rfl)
theorem qJ {v:Val}{r:Stp}{k:Nat}(h:r.Fu k):(Om v e r).Fu k:=FY trivial (FY trivial (FY trivial h))
theorem Wa:(s.to f t).Fu s.fuel:=by
 unfold MS.to;split
 · exact trivial
 · exact F8 fun _=>F8 fun _=>FY trivial rfl
theorem eu {x:Ins}:(s.ins m x).Fu s.fuel:=by
 unfold MS.ins;refine FY rfl (FY (F8 fun _=>F8 fun _=>FY trivial rfl) (FY (FY trivial rfl) (FY (F8 fun _=>FY trivial rfl) (FY (F8 fun _=>F8 fun _=>vz) (FY (F8 fun _=>FY trivial (FY trivial rfl)) (FY (F8 fun _=>FY trivial (F8 fun _=>FY trivial rfl)) (FY (F8 fun _=>F8 fun _=>FY trivial vz) (FY (F8 fun _=>F8 fun _=>qJ rfl) (FY (F8 fun _=>F8 fun _=>F8 fun _=>qJ rfl) (FY (F8 fun _=>qJ rfl) (FY ?_ (FY (F8 fun _=>FY trivial rfl) ?_))))))))))))
 · unfold MS.inS;split<;>first|exact trivial|rfl
 · unfold MS.call
   split
   · exact trivial
   · exact F8 fun _=>F8 fun _=>FY trivial (FY trivial rfl)
theorem ew {e:Tail}:(s.fin f e).Fu s.fuel:=by
 unfold MS.fin;refine FY Wa (FY (F8 fun _=>FY Wa Wa) ?_);unfold MS.ret;refine F8 fun vs=>FY trivial ?_;split
 · rfl
 · split<;>exact trivial
theorem ey:(s.one m).Fu s.fuel:=by
 unfold MS.one;split
 · exact trivial
 · split
   · exact trivial
   · split
     · exact eu (s:=s.next)
     · exact ew
theorem qK (h:s.tick.one m= .go s'):s'.fuel=s.fuel+1:=by
 have:=ey (m:=m) (s:=s.tick);rw [h] at this;exact this
end
theorem vA {k:Nat}(hk:s.fuel<most)(he:k=s.fuel):Run.steps m most (most+1 - k) (.on s)=Run.steps m most (most+1 - (k+1)) (.of m s (s.tick.one m)):=by
 rw [show most+1 - k=(most+1 - (k+1))+1 by omega,Run.steps];rw [show Run.step m most (.on s)= .of m s (s.tick.one m) by unfold Run.step;exact if_neg Jo]
theorem qL {k:Nat}(hk:s.fuel=most)(he:k=s.fuel):Run.steps m most (most+1 - k) (.on s)= .over s 7 []:=by
 rw [show most+1 - k=0+1 by omega,Run.steps];rw [show Run.step m most (.on s)= .over s 7 [] by unfold Run.step;exact if_pos hk];rfl
theorem ks {m:Module}{most:Nat}{s:MS}{e:Int}{b:List Int}:∀k,Run.steps m most k (.over s e b)= .over s e b
 | 0=>rfl
 | k+1=>by rw [Run.steps];exact ks k
theorem qM {m:Module}{most:Nat}{f:LX}:∀k,Run.steps m most k (.stuck f)= .stuck f
 | 0=>rfl
 | k+1=>by rw [Run.steps];exact qM k
def RA (m:Module)(most:Nat)(a:Run):Run→Prop
 | .on s=>a=Run.steps m most (most+1 - s.fuel) (.on s)
 | r=>a=r
section
variable {m:Module}{inp:List Int}
theorem RA.first:RA m most (Run.all m inp most pages) (.on (MS.start inp pages)):=rfl
theorem RA.seven {a:Run}(h:RA m most a (.on s))(hk:s.fuel=most):RA m most a (.over s 7 []):=Eq.trans h (qL hk rfl)
theorem RA.more {a:Run}(h:RA m most a (.on s))(hk:s.fuel<most)(hX:s.tick.one m=X)(hf:∀s',X= .go s'→s'.fuel=s.fuel+1):RA m most a (.of m s X):=by
 have h1:=Eq.trans h (vA hk rfl);rw [hX] at h1
 cases X with
 | go s'=>show a=_;rw [h1,hf s' rfl];rfl
 | halt e=>exact h1.trans (ks _)
 | done l=>exact h1.trans (ks _)
 | lost=>exact h1.trans (qM _)
theorem RA.nx {a:Run}(hA:RA m most a (.on s))(hk:s.fuel≤most):RA m most a (Run.step m most (.on s)):=by
 by_cases h7:s.fuel=most
 · rw [show Run.step m most (.on s)= .over s 7 [] from if_pos h7];exact RA.seven hA h7
 · rw [show Run.step m most (.on s)= .of m s (s.tick.one m) from if_neg h7];exact RA.more hA Jo rfl fun s' hs=>qK hs
end
end
end Go.Lir
namespace Go.Proofs.YteflkifmgnpbhaaGreat
open Go.Lir
attribute [local irreducible] LC.wp Q0 Qs Qi KN QD LO.wp Q7 Calls
section
variable {cx:Cx}{w:World}{L:List Res}{p N:Nat}{c:MC}{fr:List FrmV}{g:FrmV}{h:HpS}{out inp:List Int}{fu:Nat}{m:Module}
theorem mm (hS:St cx w (blk p 55 c.cells::L)):Kf Tryz.prog xI [.pointer (some ⟨p,0,none⟩)] w fun u w'=>u= .bool c.dn∧St cx w' (blk p 55 c.cells::L):=by
 refine Kq Ko Tryz.func25 ?_;refine' Nk;refine' Mf;refine' La;((exact Az))
theorem kt (hb:l.length≤1000000){v:Value}(hl:Kh.sl cx v l)(hS:St cx w L):Kf Tryz.prog sI [v] w fun u w'=>∃c',cx.Le c'∧Kh.sl c' u l∧St c' w' L:=by
 obtain ⟨a,c,hv⟩:=Fx hl
 cases a with
 | none=>
   have hl0:=Iu hl hv;subst hl0;subst hv;refine Kq Ko Tryz.func65 ?_;refine' Mq;refine WN (e:=2) Jk rfl rfl ?_;refine' zn
   all_goals
    first
    | (refine' Ki;refine' KQ;(exact Bu))
   all_goals (refine' Kv; fail "no law for buildSlice"; refine' zm; refine za S7 WZ hS ?_; intro vp1 w1 css1 hls1 hv1 hS; have hS := hS.ns; refine' La; exact BM)
 | some a=>
   have hn:Kh.ls cx [] []:=GB _ _ _;refine Kq Ko Tryz.func65 ?_;refine' Mq;refine WN (e:=2) Jk hv rfl ?_;refine' Pn;refine' Kv;refine im S7 ?_;intro v1 w1 hf1 hs1 hz1;have hS:=hS.new (r:=sl 2 1 v1 []) hs1 hf1 (fun b hb=>HK hb.symm);refine' zm;(first|(refine za S7 WZ hS ?_;intro vp1 w1 css1 hls1 hv1 hS;have hS:=hS.ns)|(refine lC S7 WZ hS ?_;intro vp1 w1 css1 hls1 hv1 hS;have hS:=hS.ns));refine' La;(obtain ⟨c3,hle3,hS,hl3⟩:=Gp (r:=Kh) (l:=l) (T:=2) (es:=1) (L:=L) hS.sp hls1 rfl Jo;exact By)
end
section
theorem gv {x:Module}(hsm:x.Short)(hx:Ls.at cx cs x)(hS:St cx w L):Kf Tryz.prog Uq [.agg ⟨cs⟩] w fun u w'=>∃c' ds,u= .agg ⟨ds⟩∧cx.Le c'∧Ls.at c' ds x∧St c' w' L:=by
 obtain ⟨vf,rfl,hf⟩:=NR hx;obtain ⟨l⟩:=x;have hf:KD.sl cx vf l:=hf;have hsl:l.length≤100000:=hsm.1;have hsm:∀f∈l,f.Short:=hsm.2;have hle:=FV hS;refine Kq Ko Tryz.func64 ?_;refine' KY;intro p1 w1 hS;refine Qd hS ?_;(intro p2 w1 hS);refine' zn;refine' OU;(intro p3 w1 hS);refine' L5;refine' Mn;refine' Oh;refine zo [2,3,13,14] (fun A ρ' w'=>∃(k0:Cx) (j:Nat) (u:Value) (css:List (List Value)),Kn ρ' A∧Kn ρ' [(15, .int .i64 j)]∧(cx.Le k0)∧(j≤l.length)∧(KD.ls k0 css (l.take j))∧(oneC u=true)∧St k0 w' (sl 95 4 u css::blk p3 24 [u]::blk p2 24 [.slice none 0 0]::blk p1 24 [vf]::L)) (fun ρ' _=>(l.length - iv (ρ' 15)).toNat) ?_ ?_
 · exact ⟨cx,0, .slice none 0 0,[],zh,zh,FV hS,Jo,GB _ _ _,rfl,by have hS:=hS.nil (T:=95) (es:=4);exact hS⟩
 rintro ρ w1 ⟨k0,j,u,css,hA,hρ,hle2,hj,hls,hu,hS⟩;obtain ⟨ρ,rfl⟩:=Kp hA hρ;have hL0:=hle2;(try have hle:=hle.trans hle2);(try have hf:=hf.up hle2);refine' MH;refine' Ab<;>intro hc
 · skip
   refine' WW;intro b1 o1 cs1 x1 hat1 hx1 he1;obtain ⟨vp1,vr1,vb1,rfl,hp1,hr1,hb1⟩:=QH he1;refine' NN;intro p5 w1 hS;refine Kt hS ?_;intro w1 hS;have hS:=hS.ns;refine' zn;have hsh:=hsm x1 (Fa hx1);have hlb:=hsh.2.2.1;have hJ6:=FV hS;refine Sj hS [2,3,5,13,14,15] (fun A LL ρ' w'=>∃(k6:Cx) (a1 a2:Option Addr) (n1 n2 p6:Nat),Kn ρ' A∧Kn ρ' [(6, .pointer (some ⟨p6,0,none⟩))]∧(k0.Le k6)∧(Ku.sl k6 (.slice a1 x1.params.length n1) x1.params)∧(Ku.sl k6 (.slice a2 x1.results.length n2) x1.results)∧St k6 w' (blk p6 95 [.int .i64 x1.regs, .slice a1 x1.params.length n1, .slice a2 x1.results.length n2, .slice none 0 0]::LL)) ?_ ?_
   · skip
     refine OK 4 9 Jk ?_ ?_
     · skip
       refine OK 7 9 Jk ?_ ?_
       · skip;refine zC [(0,none),(1,none),(2,none),(3,none),(5,none),(6,none),(4,some (some [1,6])),(7,some (some [1])),(8,none),(9,some (some [1])),(10,some none)] ?_;have hS:=hS.drew;refine' KW;refine' Ug;refine' Od;refine' KE (c:=Z6 hsh.1.1 hsh.1.2 hp1 hS);rintro v1 w1 ⟨c1,hle2,hk1,hS⟩;obtain ⟨a1,n1,rfl⟩:=Fx hk1;(try have hJ6:=hJ6.trans hle2);(try have hr1:=hr1.up hle2);refine' Li;refine' KE (c:=Z6 hsh.2.1.1 hsh.2.1.2 hr1 hS);rintro v1 w1 ⟨c2,hle2,hk2,hS⟩;obtain ⟨a2,n2,rfl⟩:=Fx hk2;(try have hJ6:=hJ6.trans hle2);(try have hk1:=hk1.up hle2);refine' Mp;refine Ph [_,_,_,_] ?_;refine' PL;intro p6 w1 hS;refine' Ly;refine Kt hS ?_;intro w1 hS;have hS:=hS.ns;refine' Lq;(exact BN)
       · skip;refine zC [(0,none),(1,none),(2,none),(3,none),(5,none),(6,none),(4,some (some [1,6])),(9,some (some [1,6])),(7,some (some [1])),(8,none),(10,some none)] ?_;have hS:=hS.drew;refine' KW;refine' Ug;refine' Od;refine' KE (c:=Z6 hsh.1.1 hsh.1.2 hp1 hS);rintro v1 w1 ⟨c1,hle2,hk1,hS⟩;obtain ⟨a1,n1,rfl⟩:=Fx hk1;(try have hJ6:=hJ6.trans hle2);(try have hr1:=hr1.up hle2);refine' Li;refine Qd hS ?_;intro p6 w1 hS;refine' Li;refine' KE (c:=Z6 hsh.2.1.1 hsh.2.1.2 hr1 hS);rintro v1 w1 ⟨c2,hle2,hk2,hS⟩;obtain ⟨a2,n2,rfl⟩:=Fx hk2;(try have hJ6:=hJ6.trans hle2);(try have hk1:=hk1.up hle2);refine' Mp;refine Ph [_,_,_,_] ?_;refine' Lk;refine Kt hS ?_;intro w1 hS;have hS:=hS.ns;refine' Lq;(exact BN)
     · skip;refine zC [(0,none),(1,none),(2,none),(3,none),(5,none),(6,none),(9,some (some [1,3,6])),(4,some (some [1,6])),(7,some (some [1])),(8,none),(10,some none)] ?_;have hS:=hS.drew;refine' KW;refine' Ug;refine' Od;refine Qd hS ?_;intro p6 w1 hS;refine' Li;refine' KE (c:=Z6 hsh.1.1 hsh.1.2 hp1 hS);rintro v1 w1 ⟨c1,hle2,hk1,hS⟩;obtain ⟨a1,n1,rfl⟩:=Fx hk1;(try have hJ6:=hJ6.trans hle2);(try have hr1:=hr1.up hle2);refine' Li;refine' KE (c:=Z6 hsh.2.1.1 hsh.2.1.2 hr1 hS);rintro v1 w1 ⟨c2,hle2,hk2,hS⟩;obtain ⟨a2,n2,rfl⟩:=Fx hk2;(try have hJ6:=hJ6.trans hle2);(try have hk1:=hk1.up hle2);refine' Mp;refine Ph [_,_,_,_] ?_;refine' Lk;refine Kt hS ?_;intro w1 hS;have hS:=hS.ns;refine' Lq;(exact BN)
   rintro ρ w1 ⟨k6,a1,a2,n1,n2,p6,hA,hρ,hle2,hk1,hk2,hS⟩;obtain ⟨ρ,rfl⟩:=Kp hA hρ;(try have hle:=hle.trans hle2);(try have hL0:=hL0.trans hle2);(try have hJ6:=hJ6.trans hle2);(try have hf:=hf.up hle2);(try have hp1:=hp1.up hle2);(try have hr1:=hr1.up hle2);(try have hb1:=hb1.up hle2);(try have he1:=he1.up hle2);(try have hls:=hls.up hle2);refine' NH;refine' Oh;refine zo [2,3,6,13,14,15,29,30] (fun A ρ' w'=>∃(k1:Cx) (i:Nat) (ub:Value) (cssB:List (List Value)),Kn ρ' A∧Kn ρ' [(31, .int .i64 i)]∧(k6.Le k1)∧(i≤x1.blocks.length)∧(Lm.ls k1 cssB (x1.blocks.take i))∧(oneC ub=true)∧St k1 w' (sl 92 12 ub cssB::blk p6 95 [.int .i64 x1.regs, .slice a1 x1.params.length n1, .slice a2 x1.results.length n2,ub]::blk p5 95 [.int .i64 x1.regs,vp1,vr1,vb1]::sl 95 4 u css::blk p3 24 [u]::blk p2 24 [.slice none 0 0]::blk p1 24 [vf]::L)) (fun ρ' _=>(x1.blocks.length - iv (ρ' 31)).toNat) ?_ ?_
   · exact ⟨k6,0, .slice none 0 0,[],zh,zh,FV hS,Jo,GB _ _ _,rfl,by have hS:=hS.nil (T:=92) (es:=12);exact hS.sp⟩
   rintro ρ w1 ⟨k1,i,ub,cssB,hA,hρ,hle2,hi,hlsB,hub,hS⟩;obtain ⟨ρ,rfl⟩:=Kp hA hρ;have hL1:=hle2;(try have hle:=hle.trans hle2);(try have hL0:=hL0.trans hle2);(try have hJ6:=hJ6.trans hle2);(try have hf:=hf.up hle2);(try have hk1:=hk1.up hle2);(try have hk2:=hk2.up hle2);(try have hp1:=hp1.up hle2);(try have hr1:=hr1.up hle2);(try have hb1:=hb1.up hle2);(try have he1:=he1.up hle2);(try have hls:=hls.up hle2);refine' MH;refine' Ab<;>intro hc
   · skip
     refine' WW;intro b2 o2 cs2 x2 hat2 hx2 he2;obtain ⟨vp2,vc2,ve21,ve22,ve23,ve24,ve25,rfl,hp2,hc2,he21,he22,he23,he24,he25⟩:=RJ he2;refine' NN;intro p8 w1 hS;refine Kt hS ?_;intro w1 hS;have hS:=hS.ns;refine' zn;have hsb:=hsh.2.2.2 x2 (Fa hx2);have hlc:=hsb.2.1;have hJ10:=FV hS;refine Sj hS [2,3,6,8,13,14,15,29,30,31] (fun A LL ρ' w'=>∃(k10:Cx) (a3:Option Addr) (n3 p9:Nat),Kn ρ' A∧Kn ρ' [(9, .pointer (some ⟨p9,0,none⟩))]∧(k1.Le k10)∧(Ku.sl k10 (.slice a3 x2.params.length n3) x2.params)∧St k10 w' (blk p9 92 [.int .i64 x2.regs, .slice a3 x2.params.length n3, .slice none 0 0, .int .i64 x2.fin.op, .int .i64 x2.fin.a, .int .i64 x2.fin.yes.block,ve21,ve22, .int .i64 x2.fin.no.block,ve23,ve24,ve25]::LL)) ?_ ?_
     · skip
       obtain ⟨q1,m1,rfl⟩:=Fx he21;obtain ⟨q2,m2,rfl⟩:=Fx he22;obtain ⟨q3,m3,rfl⟩:=Fx he23;obtain ⟨q4,m4,rfl⟩:=Fx he24;obtain ⟨q5,m5,rfl⟩:=Fx he25;refine OK 4 8 Jk ?_ ?_
       · skip;refine zC [(0,none),(1,none),(2,none),(3,none),(5,none),(6,none),(4,some (some [1,6])),(7,none),(8,some (some [1,6])),(9,some none)] ?_;have hS:=hS.drew;refine' KW;refine' Ug;refine' SS;refine zv hS ?_;refine' Lp;refine' KE (c:=Z6 hsb.1.1 hsb.1.2 hp2 hS);rintro v1 w1 ⟨c3,hle2,hk3,hS⟩;obtain ⟨a3,n3,rfl⟩:=Fx hk3;(try have hJ10:=hJ10.trans hle2);refine' Mp;refine Ph [_,_,_,_,_,_,_,_,_,_,_,_] ?_;refine' PL;intro p9 w1 hS;refine' Ly;refine Kt hS ?_;intro w1 hS;have hS:=hS.ns;refine' Lq;(exact Db)
       · skip;refine zC [(0,none),(1,none),(2,none),(3,none),(5,none),(6,none),(8,some (some [1,3,6])),(4,some (some [1,6])),(7,none),(9,some none)] ?_;have hS:=hS.drew;refine' KW;refine' Ug;refine' SS;refine zv hS ?_;refine' PL;intro p9 w1 hS;refine' Li;refine' KE (c:=Z6 hsb.1.1 hsb.1.2 hp2 hS);rintro v1 w1 ⟨c3,hle2,hk3,hS⟩;obtain ⟨a3,n3,rfl⟩:=Fx hk3;(try have hJ10:=hJ10.trans hle2);refine' Mp;refine Ph [_,_,_,_,_,_,_,_,_,_,_,_] ?_;refine' Lk;refine Kt hS ?_;intro w1 hS;have hS:=hS.ns;refine' Lq;(exact Db)
     rintro ρ w1 ⟨k10,a3,n3,p9,hA,hρ,hle2,hk3,hS⟩;obtain ⟨ρ,rfl⟩:=Kp hA hρ;(try have hle:=hle.trans hle2);(try have hL0:=hL0.trans hle2);(try have hL1:=hL1.trans hle2);(try have hJ6:=hJ6.trans hle2);(try have hJ10:=hJ10.trans hle2);(try have hf:=hf.up hle2);(try have hk1:=hk1.up hle2);(try have hk2:=hk2.up hle2);(try have hp1:=hp1.up hle2);(try have hr1:=hr1.up hle2);(try have hb1:=hb1.up hle2);(try have hp2:=hp2.up hle2);(try have hc2:=hc2.up hle2);(try have he21:=he21.up hle2);(try have he22:=he22.up hle2);(try have he23:=he23.up hle2);(try have he24:=he24.up hle2);(try have he25:=he25.up hle2);(try have he1:=he1.up hle2);(try have he2:=he2.up hle2);(try have hls:=hls.up hle2);(try have hlsB:=hlsB.up hle2);refine QA ?_;refine zC [(0,none),(1,none),(2,none),(4,none),(5,none),(6,none),(8,none),(9,none),(10,none),(3,some (some [6,10])),(12,none),(13,none),(7,some (some [10])),(11,some (some [])),(14,some none),(15,none),(16,none),(17,some none),(18,none),(19,none),(20,some none)] ?_;have hS:=hS.drew;refine' KW;refine' SY;refine' S1;refine' SY;refine' S1;refine' X0;refine' Lp;refine' KE (c:=tq (x:=x2.fin.yes) (by have:=hsb.2.2.2.1.1;omega) (by have:=hsb.2.2.2.1.2;omega) ⟨_,_,rfl,he21,he22⟩ hS);rintro v1 w1 ⟨c7,ds,rfl,hle2,hk7,hS⟩;obtain ⟨y1,y2,rfl,hy1,hy2⟩:=ZU hk7;obtain ⟨a7,n7,rfl⟩:=Fx hy1;obtain ⟨a8,n8,rfl⟩:=Fx hy2;(try have hle:=hle.trans hle2);(try have hL0:=hL0.trans hle2);(try have hL1:=hL1.trans hle2);(try have hJ6:=hJ6.trans hle2);(try have hJ10:=hJ10.trans hle2);(try have hf:=hf.up hle2);(try have hk1:=hk1.up hle2);(try have hk2:=hk2.up hle2);(try have hk3:=hk3.up hle2);(try have hp1:=hp1.up hle2);(try have hr1:=hr1.up hle2);(try have hb1:=hb1.up hle2);(try have hp2:=hp2.up hle2);(try have hc2:=hc2.up hle2);(try have he21:=he21.up hle2);(try have he22:=he22.up hle2);(try have he23:=he23.up hle2);(try have he24:=he24.up hle2);(try have he25:=he25.up hle2);(try have he1:=he1.up hle2);(try have he2:=he2.up hle2);(try have hls:=hls.up hle2);(try have hlsB:=hlsB.up hle2);refine' Mp;refine' SS;refine' Nt;refine' Lp;refine' KE (c:=tq (x:=x2.fin.no) (by have:=hsb.2.2.2.2.1.1;omega) (by have:=hsb.2.2.2.2.1.2;omega) ⟨_,_,rfl,he23,he24⟩ hS);rintro v1 w1 ⟨c8,ds,rfl,hle2,hk8,hS⟩;obtain ⟨z1,z2,rfl,hz1,hz2⟩:=ZU hk8;obtain ⟨a9,n9,rfl⟩:=Fx hz1;obtain ⟨a10,n10,rfl⟩:=Fx hz2;(try have hle:=hle.trans hle2);(try have hL0:=hL0.trans hle2);(try have hL1:=hL1.trans hle2);(try have hJ6:=hJ6.trans hle2);(try have hJ10:=hJ10.trans hle2);(try have hf:=hf.up hle2);(try have hk1:=hk1.up hle2);(try have hk2:=hk2.up hle2);(try have hk3:=hk3.up hle2);(try have hk7:=hk7.up hle2);(try have hp1:=hp1.up hle2);(try have hr1:=hr1.up hle2);(try have hb1:=hb1.up hle2);(try have hp2:=hp2.up hle2);(try have hc2:=hc2.up hle2);(try have he21:=he21.up hle2);(try have he22:=he22.up hle2);(try have he23:=he23.up hle2);(try have he24:=he24.up hle2);(try have he25:=he25.up hle2);(try have he1:=he1.up hle2);(try have he2:=he2.up hle2);(try have hls:=hls.up hle2);(try have hy1:=hy1.up hle2);(try have hy2:=hy2.up hle2);(try have hlsB:=hlsB.up hle2);refine' Li;refine' KE (c:=jg (by have:=hsb.2.2.2.2.2;omega) he25 hS);rintro v1 w1 ⟨c9,hle2,hw1,hS⟩;obtain ⟨a11,n11,rfl⟩:=Fx hw1;(try have hle:=hle.trans hle2);(try have hL0:=hL0.trans hle2);(try have hL1:=hL1.trans hle2);(try have hJ6:=hJ6.trans hle2);(try have hJ10:=hJ10.trans hle2);(try have hf:=hf.up hle2);(try have hk1:=hk1.up hle2);(try have hk2:=hk2.up hle2);(try have hk3:=hk3.up hle2);(try have hk7:=hk7.up hle2);(try have hk8:=hk8.up hle2);(try have hp1:=hp1.up hle2);(try have hr1:=hr1.up hle2);(try have hb1:=hb1.up hle2);(try have hp2:=hp2.up hle2);(try have hc2:=hc2.up hle2);(try have he21:=he21.up hle2);(try have he22:=he22.up hle2);(try have he23:=he23.up hle2);(try have he24:=he24.up hle2);(try have he25:=he25.up hle2);(try have he1:=he1.up hle2);(try have he2:=he2.up hle2);(try have hls:=hls.up hle2);(try have hy1:=hy1.up hle2);(try have hy2:=hy2.up hle2);(try have hz1:=hz1.up hle2);(try have hz2:=hz2.up hle2);(try have hlsB:=hlsB.up hle2);refine' Ly;(first|(refine Kt hS ?_;intro w1 hS;have hS:=hS.ns)|(refine iJ hS ?_;intro w1 hS;have hS:=hS.ns));refine' KO;refine' SS;refine' Nt;refine' Lk;(first|(refine Kt hS ?_;intro w1 hS;have hS:=hS.ns)|(refine iJ hS ?_;intro w1 hS;have hS:=hS.ns));refine' KO;refine' SS;refine' Nt;refine' Lk;refine LU hS ?_;intro w1 hS;have hS:=hS.ns;refine' Lq;refine' NH;refine' Oh;refine zo [2,3,6,9,13,14,15,29,30,31,62,63] (fun A ρ' w'=>∃(k2:Cx) (k:Nat) (uc:Value) (cssC:List (List Value)),Kn ρ' A∧Kn ρ' [(64, .int .i64 k)]∧(c9.Le k2)∧(k≤x2.code.length)∧(Lb.ls k2 cssC (x2.code.take k))∧(oneC uc=true)∧St k2 w' (sl 84 8 uc cssC::blk p9 92 [.int .i64 x2.regs, .slice a3 x2.params.length n3,uc, .int .i64 x2.fin.op, .int .i64 x2.fin.a, .int .i64 x2.fin.yes.block, .slice a7 x2.fin.yes.regs.length n7, .slice a8 x2.fin.yes.args.length n8, .int .i64 x2.fin.no.block, .slice a9 x2.fin.no.regs.length n9, .slice a10 x2.fin.no.args.length n10, .slice a11 x2.fin.args.length n11]::blk p8 92 [.int .i64 x2.regs,vp2,vc2, .int .i64 x2.fin.op, .int .i64 x2.fin.a, .int .i64 x2.fin.yes.block,ve21,ve22, .int .i64 x2.fin.no.block,ve23,ve24,ve25]::sl 92 12 ub cssB::blk p6 95 [.int .i64 x1.regs, .slice a1 x1.params.length n1, .slice a2 x1.results.length n2,ub]::blk p5 95 [.int .i64 x1.regs,vp1,vr1,vb1]::sl 95 4 u css::blk p3 24 [u]::blk p2 24 [.slice none 0 0]::blk p1 24 [vf]::L)) (fun ρ' _=>(x2.code.length - iv (ρ' 64)).toNat) ?_ ?_
     · exact ⟨c9,0, .slice none 0 0,[],zh,zh,FV hS,Jo,GB _ _ _,rfl,by have hS:=hS.nil (T:=84) (es:=8);exact hS.sp⟩
     rintro ρ w1 ⟨k2,k,uc,cssC,hA,hρ,hle2,hkk,hlsC,huc,hS⟩;obtain ⟨ρ,rfl⟩:=Kp hA hρ;have hL2:=hle2;(try have hle:=hle.trans hle2);(try have hL0:=hL0.trans hle2);(try have hL1:=hL1.trans hle2);(try have hJ6:=hJ6.trans hle2);(try have hJ10:=hJ10.trans hle2);(try have hf:=hf.up hle2);(try have hk1:=hk1.up hle2);(try have hk2:=hk2.up hle2);(try have hk3:=hk3.up hle2);(try have hk7:=hk7.up hle2);(try have hk8:=hk8.up hle2);(try have hp1:=hp1.up hle2);(try have hr1:=hr1.up hle2);(try have hb1:=hb1.up hle2);(try have hp2:=hp2.up hle2);(try have hc2:=hc2.up hle2);(try have he21:=he21.up hle2);(try have he22:=he22.up hle2);(try have he23:=he23.up hle2);(try have he24:=he24.up hle2);(try have he25:=he25.up hle2);(try have he1:=he1.up hle2);(try have he2:=he2.up hle2);(try have hls:=hls.up hle2);(try have hy1:=hy1.up hle2);(try have hy2:=hy2.up hle2);(try have hz1:=hz1.up hle2);(try have hz2:=hz2.up hle2);(try have hw1:=hw1.up hle2);(try have hlsB:=hlsB.up hle2);refine' MH;refine' Ab<;>intro hc
     · skip;refine' WW;intro b3 o3 cs3 x3 hat3 hx3 he3;obtain ⟨vr3,va3,rfl,hr3,ha3⟩:=Nx he3;refine' NN;intro p11 w1 hS;refine Kt hS ?_;intro w1 hS;have hS:=hS.ns;refine' L5;have hsi:=hsb.2.2.1 x3 (Fa hx3);refine zC [(0,none),(1,none),(3,none),(4,none),(2,some (some [4])),(6,none),(5,some (some [])),(7,some none),(8,none),(9,some none)] ?_;have hS:=hS.drew;refine' KW;refine' Nu;refine' Od;refine' KE (c:=jg (by have:=hsi.1;omega) hr3 hS);rintro v1 w1 ⟨c4,hle2,hk4,hS⟩;obtain ⟨a4,n4,rfl⟩:=Fx hk4;(try have hL2:=hL2.trans hle2);(try have ha3:=ha3.up hle2);(try have hlsC:=hlsC.up hle2);refine' Mp;refine' MA;refine' Lp;refine' KE (c:=jg (by have:=hsi.2;omega) ha3 hS);rintro v1 w1 ⟨c5,hle2,hk5,hS⟩;obtain ⟨a5,n5,rfl⟩:=Fx hk5;(try have hL2:=hL2.trans hle2);(try have hk4:=hk4.up hle2);(try have hlsC:=hlsC.up hle2);refine' Ly;refine LU hS ?_;intro w1 hS;have hS:=hS.ns;refine' KO;refine' MA;refine' Lk;refine LU hS ?_;intro w1 hS;have hS:=hS.ns;refine' Lq;have hk9:Lb.at c5 _ x3:=⟨_,_,rfl,hk4,hk5⟩;refine' Uc;refine zv hS ?_;refine K8 hS [_,_,_,_,_,_,_,_] ?_;intro b1 w1 hS;refine za cC jb hS ?_;intro vp1 w1 css1 hls1 hv1 hS;have hS:=hS.ns;refine' WR;intro w1 hS;have hS:=hS.ns;refine' Rr;(exact ⟨⟨_,k+1,_,_,zh,zh,hL2,Jo,by rw [TZ hx3];assumption,by assumption,hS.sp⟩,Qj Jo⟩)
     · skip;refine' L8;obtain ⟨c6,hle2,hS,hk6⟩:=Gp (r:=Lb) (l:=x2.code) hS (by rw [FM Jo] at hlsC;exact hlsC) rfl (by have:=hsb.2.1;omega);obtain ⟨a6,n6,rfl⟩:=Fx hk6;(try have hL1:=hL1.trans hle2);(try have hk3:=hk3.up hle2);(try have hy1:=hy1.up hle2);(try have hy2:=hy2.up hle2);(try have hz1:=hz1.up hle2);(try have hz2:=hz2.up hle2);(try have hw1:=hw1.up hle2);(try have hlsB:=hlsB.up hle2);have hk9:Lm.at c6 _ x2:=sf (x:=x2) hk3 hk6 hy1 hy2 hz1 hz2 hw1;refine' Uc;refine zv hS ?_;refine K8 hS [_,_,_,_,_,_,_,_,_,_,_,_] ?_;intro b1 w1 hS;refine za cD jc hS ?_;intro vp2 w2 css2 hls2 hv2 hS;have hS:=hS.ns;refine' WR;intro w1 hS;have hS:=hS.ns;refine' Rr;(exact ⟨⟨_,i+1,_,_,zh,zh,hL1,Jo,by rw [TZ hx2];assumption,by assumption,hS.sp⟩,Qj Jo⟩)
   · skip;refine' L8;obtain ⟨c10,hle2,hS,hk6⟩:=Gp (r:=Lm) (l:=x1.blocks) hS (by rw [FM Jo] at hlsB;exact hlsB) rfl (by have:=hsh.2.2.1;omega);obtain ⟨a6,n6,rfl⟩:=Fx hk6;(try have hL0:=hL0.trans hle2);(try have hk1:=hk1.up hle2);(try have hk2:=hk2.up hle2);(try have hls:=hls.up hle2);have hk9:KD.at c10 _ x1:=⟨_,_,_,rfl,hk1,hk2,hk6⟩;refine' Uc;refine zv hS ?_;refine K8 hS [_,_,_,_] ?_;intro b1 w1 hS;refine za cz i7 hS ?_;intro vp3 w3 css3 hls3 hv3 hS;have hS:=hS.ns;refine' WR;intro w1 hS;have hS:=hS.ns;refine' Rr;(exact ⟨⟨_,j+1,_,_,zh,zh,hL0,Jo,by rw [TZ hx1];assumption,by assumption,hS.sp⟩,Qj Jo⟩)
 · skip;refine' L8;obtain ⟨c11,hle2,hS,hk6⟩:=Gp (r:=KD) (l:=l) hS Em rfl Jo;obtain ⟨a6,n6,rfl⟩:=Fx hk6;(try have hle:=hle.trans hle2);refine' MU;refine Kt hS ?_;intro w1 hS;have hS:=hS.ns;refine' Lz;refine LF vw (Q2 (n:=1) Jk Jk (hS.blkAt fd) Jr Jr) ?_;(exact ⟨_,rfl,c11,_,rfl,hle,⟨_,rfl,hk6⟩,hS.sp⟩)
end
end Go.Proofs.YteflkifmgnpbhaaGreat
namespace Go.Lir
def R4 (m:Module)(inp:List Int)(fuel pages:Int):LX:=if m.fault.1≠0 then m.fault else if 200<inp.length∨fuel<0∨20000<fuel∨pages<0∨64<pages then (1, -1) else (0,0)
theorem mh (h:m.fault.1≠0):R4 m inp fuel pages=m.fault:=if_pos h
theorem mi (h:¬m.fault.1≠0)(hr:200<inp.length∨fuel<0∨20000<fuel∨pages<0∨64<pages):R4 m inp fuel pages=(1, -1):=(if_neg h).trans (if_pos hr)
theorem uM (h:¬m.fault.1≠0)(hr:¬(200<inp.length∨fuel<0∨20000<fuel∨pages<0∨64<pages)):R4 m inp fuel pages=(0,0):=(if_neg h).trans (if_neg hr)
end Go.Lir
namespace Go.Proofs.YteflkifmgnpbhaaGreat
open Go.Lir
attribute [local irreducible] LC.wp Q0 Qs Qi KN QD LO.wp Q7 Calls
variable {cx:Cx}{w:World}{L:List Res}{m:Module}{inp:List Int}
@[reducible] def P0 (hp fn lv iv:Value)(fuel:Int):MC:=⟨hp,fn,lv,iv,0, .slice none 0 0, .slice none 0 0,0,fuel,false,0,0⟩
@[reducible] def Pa:FrmV:=⟨0,0,0, .slice none 0 0,[], .slice none 0 0,[]⟩
def SI (m:Module)(inp:List Int)(fuel pages:Int)(cx:Cx)(L:List Res)(u:Value)(w':World):Prop:=
 ((R4 m inp fuel pages).1≠0∧u= .tuple #[.pointer none,KG (R4 m inp fuel pages)]∧St cx w' L)∨
 (R4 m inp fuel pages=(0,0)∧m.fault.1=0∧inp.length≤200∧0≤fuel∧fuel≤20000∧0≤pages∧pages≤64∧∃c' p hp fn lv iv,u= .tuple #[.pointer (some ⟨p,0,none⟩),KG (0,0)]∧cx.Le c'∧KD.sl c' fn m.funcs∧Kh.sl c' iv inp∧St c' w' (mS p (P0 hp fn lv iv fuel) [] Pa 0 ⟨[],pages⟩ [] L))
theorem ku {v:Value}(hsh:m.Short)(hx:Ls.at cx cs m)(hi:Kh.sl cx v inp)(hS:St cx w L):
 Kf Tryz.prog xG [.agg ⟨cs⟩,v, .int .i64 fuel, .int .i64 pages] w (SI m inp fuel pages cx L):=by
 (have hle:=FV hS;have hx':=hx;obtain ⟨vf,rfl,hf⟩:=NR hx;have hil:=hi.len;unfold SI;refine Kq Ko Tryz.func20 ?_;refine' KY;intro p4 w1 hS;refine' zm;refine Qd hS ?_;intro p9 w1 hS;refine' L5;refine' MU;refine' KE (c:=pG hsh hx' hS);rintro v1 w1 ⟨rfl,hS⟩;unfold KG;refine Qd hS ?_;intro p10 w1 hS;refine Kt hS ?_;intro w1 hS;have hS:=hS.ns;refine' NA;first|(refine' QO)|(refine' QU)|(refine' Ad<;>intro hc));all_goals (refine' zn)
 all_goals
  first
  | (refine' Ki;refine QA ?_;refine zD (ci 3 [2]) ?_;have hS:=hS.drew;refine' Ud;((refine Kt hS ?_;intro w1 hS;have hS:=hS.ns));refine' Lz;refine OJ vw vw (Q2 (n:=2) Jk Jk (hS.blkAt fd) Jr Jr) ?_;(exact Cu))
  | (refine' Kk;refine' Kx)
 (((((refine' Na;refine' zL;first|(refine' QV)|(refine' QW)|(refine' Af<;>intro hc));all_goals (refine' Lv;first|refine' Kj|(refine' Kl;(first|(refine' KX)|(refine' K1)|(refine' Ae<;>intro hc)))));all_goals (refine' PQ;first|refine' Kj|(refine' Kl;(first|(refine' QV)|(refine' QW)|(refine' Af<;>intro hc)))));all_goals (refine' PQ;first|refine' Kj|(refine' Kl;(first|(refine' KX)|(refine' K1)|(refine' Ae<;>intro hc)))));all_goals (refine' PQ;first|refine' Kj|(refine' Kl;(first|(refine' QV)|(refine' QW)|(refine' Af<;>intro hc)))));all_goals (refine' Ll)
 all_goals
  first
  | (refine' Ki;all_goals (refine' Kv;refine M9 [_,_] ?_;refine' zm;refine Kt hS ?_;intro w1 hS;have hS:=hS.ns;refine' Lz;refine OJ vw vw (Q2 (n:=2) Jk Jk (hS.blkAt fd) Jr Jr) ?_);all_goals ((first|exact Cu|exact ⟨_,rfl, .inl ⟨by rw [mi Jo Jo];decide,by rw [mi Jo Jo];rfl,hS.sp⟩⟩)))
  | (refine' Kk;refine' Kx)
 refine QA ?_;refine OK 1 5 Jk ?_ ?_
 · skip
   refine OK 3 5 Jk ?_ ?_
   · skip
     refine OK 5 7 Jk ?_ ?_
     · skip;refine zC [(0,none),(2,none),(4,none),(6,none),(8,none),(11,none),(1,some (some [2])),(3,some (some [])),(5,some (some [])),(7,some (some [])),(9,none),(10,some (some [])),(12,none),(13,some none)] ?_;have hS:=hS.drew;refine' PI;refine' S1;refine L0 [_,_,_,_,_] ?_;refine' Mu;refine' T9;refine L0 [_,_] ?_;refine' Lp;refine' KE (c:=lS pages Jo hS);rintro v1 w1 ⟨bh,rfl,hS⟩;refine' Li;refine' KE (c:=gv hsh hx' hS);rintro v1 w1 ⟨c1,ds,rfl,hle1,hx1,hS⟩;obtain ⟨vf1,rfl,hf1⟩:=NR hx1;have hi:=Gc hi hle1;obtain ⟨af,nf,rfl⟩:=Fx hf1;refine' Li;refine K8 hS [_,_,_,_,_] ?_;intro b1 w1 hS;have hS:=Gh (T:=110) (es:=5) (css:=[[.int .i64 0, .int .i64 0, .int .i64 0, .slice none 0 0, .slice none 0 0]]) hS rfl Js rfl;refine' Li;refine' KE (c:=kt Jo hi hS);rintro vi w1 ⟨c2,hle2,hi2,hS⟩;have hf1:=Gc hf1 hle2;obtain ⟨ai,ni,rfl⟩:=Fx hi2;refine' Mp;refine iK [_,_,_,_,_,_,_,_,_,_,_,_] ?_;refine' Lp;refine zb hS ?_;intro p47 w1 hS;refine' Mp;refine' zm;refine' Lk;refine Kt hS ?_;intro w1 hS;have hS:=hS.ns;refine' Lq;refine' zr;refine OJ vw vw (Q2 (n:=2) Jk Jk (hS.blkAt fd) Jr Jr) ?_;((exact Aj))
     · skip;refine zC [(0,none),(2,none),(4,none),(6,none),(8,none),(11,none),(1,some (some [2])),(3,some (some [])),(7,some (some [])),(5,some (some [])),(9,none),(10,some (some [])),(12,none),(13,some none)] ?_;have hS:=hS.drew;refine' PI;refine' S1;refine L0 [_,_,_,_,_] ?_;refine' Mu;refine' T9;refine L0 [_,_] ?_;refine' Lp;refine' KE (c:=lS pages Jo hS);rintro v1 w1 ⟨bh,rfl,hS⟩;refine' Li;refine' KE (c:=gv hsh hx' hS);rintro v1 w1 ⟨c1,ds,rfl,hle1,hx1,hS⟩;obtain ⟨vf1,rfl,hf1⟩:=NR hx1;have hi:=Gc hi hle1;obtain ⟨af,nf,rfl⟩:=Fx hf1;refine' Li;refine' KE (c:=kt Jo hi hS);rintro vi w1 ⟨c2,hle2,hi2,hS⟩;have hf1:=Gc hf1 hle2;obtain ⟨ai,ni,rfl⟩:=Fx hi2;refine' Li;refine K8 hS [_,_,_,_,_] ?_;intro b1 w1 hS;have hS:=Gh (T:=110) (es:=5) (css:=[[.int .i64 0, .int .i64 0, .int .i64 0, .slice none 0 0, .slice none 0 0]]) hS rfl Js rfl;refine' Mp;refine iK [_,_,_,_,_,_,_,_,_,_,_,_] ?_;refine' Lp;refine zb hS ?_;intro p47 w1 hS;refine' Mp;refine' zm;refine' Lk;refine Kt hS ?_;intro w1 hS;have hS:=hS.ns;refine' Lq;refine' zr;refine OJ vw vw (Q2 (n:=2) Jk Jk (hS.blkAt fd) Jr Jr) ?_;((exact Aj))
   · skip;refine zC [(0,none),(2,none),(4,none),(6,none),(8,none),(11,none),(1,some (some [2])),(5,some (some [2])),(3,some (some [])),(7,some (some [])),(9,none),(10,some (some [])),(12,none),(13,some none)] ?_;have hS:=hS.drew;refine' PI;refine' S1;refine L0 [_,_,_,_,_] ?_;refine' Mu;refine' T9;refine L0 [_,_] ?_;refine' Lp;refine' KE (c:=lS pages Jo hS);rintro v1 w1 ⟨bh,rfl,hS⟩;refine' Li;refine K8 hS [_,_,_,_,_] ?_;intro b1 w1 hS;have hS:=Gh (T:=110) (es:=5) (css:=[[.int .i64 0, .int .i64 0, .int .i64 0, .slice none 0 0, .slice none 0 0]]) hS rfl Js rfl;refine' Li;refine' KE (c:=gv hsh hx' hS);rintro v1 w1 ⟨c1,ds,rfl,hle1,hx1,hS⟩;obtain ⟨vf1,rfl,hf1⟩:=NR hx1;have hi:=Gc hi hle1;obtain ⟨af,nf,rfl⟩:=Fx hf1;refine' Li;refine' KE (c:=kt Jo hi hS);rintro vi w1 ⟨c2,hle2,hi2,hS⟩;have hf1:=Gc hf1 hle2;obtain ⟨ai,ni,rfl⟩:=Fx hi2;refine' Mp;refine iK [_,_,_,_,_,_,_,_,_,_,_,_] ?_;refine' Lp;refine zb hS ?_;intro p47 w1 hS;refine' Mp;refine' zm;refine' Lk;refine Kt hS ?_;intro w1 hS;have hS:=hS.ns;refine' Lq;refine' zr;refine OJ vw vw (Q2 (n:=2) Jk Jk (hS.blkAt fd) Jr Jr) ?_;((exact Aj))
 · skip;refine zC [(0,none),(2,none),(4,none),(6,none),(8,none),(11,none),(5,some (some [2])),(1,some (some [2])),(3,some (some [])),(7,some (some [])),(9,none),(10,some (some [])),(12,none),(13,some none)] ?_;have hS:=hS.drew;refine' PI;refine' S1;refine L0 [_,_,_,_,_] ?_;refine' Mu;refine' T9;refine L0 [_,_] ?_;refine' Lp;refine K8 hS [_,_,_,_,_] ?_;intro b1 w1 hS;have hS:=Gh (T:=110) (es:=5) (css:=[[.int .i64 0, .int .i64 0, .int .i64 0, .slice none 0 0, .slice none 0 0]]) hS rfl Js rfl;refine' Li;refine' KE (c:=lS pages Jo hS);rintro v1 w1 ⟨bh,rfl,hS⟩;refine' Li;refine' KE (c:=gv hsh hx' hS);rintro v1 w1 ⟨c1,ds,rfl,hle1,hx1,hS⟩;obtain ⟨vf1,rfl,hf1⟩:=NR hx1;have hi:=Gc hi hle1;obtain ⟨af,nf,rfl⟩:=Fx hf1;refine' Li;refine' KE (c:=kt Jo hi hS);rintro vi w1 ⟨c2,hle2,hi2,hS⟩;have hf1:=Gc hf1 hle2;obtain ⟨ai,ni,rfl⟩:=Fx hi2;refine' Mp;refine iK [_,_,_,_,_,_,_,_,_,_,_,_] ?_;refine' Lp;refine zb hS ?_;intro p47 w1 hS;refine' Mp;refine' zm;refine' Lk;refine Kt hS ?_;intro w1 hS;have hS:=hS.ns;refine' Lq;refine' zr;refine OJ vw vw (Q2 (n:=2) Jk Jk (hS.blkAt fd) Jr Jr) ?_;((exact Aj))
end Go.Proofs.YteflkifmgnpbhaaGreat
namespace Go.Lir
section
def qN (n:Int):Int:=PA .xor .u64 (IntKind.u64.wrap (IntKind.u64.wrap n*2 ^ (min (1:Int).toNat IntKind.u64.bits))) (IntKind.u64.wrap (n.fdiv (2 ^ (min (63:Int).toNat IntKind.i64.bits))))
def zig (n:Int):Nat:=(qN n).toNat
def kv:Nat→Nat→List UInt8
 | 0,_=>[]
 | k+1,u=>if u<128 then [UInt8.ofNat u] else UInt8.ofNat (u % 128+128)::kv k (u / 128)
theorem vB:∀(k u:Nat),(kv k u).length≤k
 | 0,_=>by simp [kv]
 | k +1,u=>by
   rw [kv];split
   · simp
   · have:=vB k (u / 128);simp only [Fk];omega
def Pv (n:Int):List UInt8:=kv 10 (zig n)
def mn (l:List Int):List UInt8:=l.flatMap Pv
theorem Pb (n:Int):(Pv n).length≤10:=vB 10 _
theorem vC:∀(l:List Int),(mn l).length≤10*l.length
 | []=>by simp [mn]
 | n::l=>by
   have h1:=Pb n;have h2:=vC l;simp only [mn,H2,Fc,Fk] at h2 ⊢;omega
def ez (l:List Int):List UInt8:=Pv l.length++mn l
mutual
def Ty.bts:Ty→List UInt8
 | .mk k r l=>Pv k++(if k≠1 then Pv r else [])++(if k=3 then Pv l.length++Tys.bts l else [])
def Tys.bts:List Ty→List UInt8
 | []=>[]
 | x::l=>x.bts++Tys.bts l
end
def Wb (l:List Ty):List UInt8:=Pv l.length++Tys.bts l
def To.bts (t:To):List UInt8:=Pv t.block++ez t.regs++ez t.args
def Tail.bts (e:Tail):List UInt8:=Pv e.op++(if e.op=1 then e.yes.bts else if e.op=2 then Pv e.a++e.yes.bts++e.no.bts else if e.op=3 then ez e.args else [])
def Ta (op:Int):Nat:=if op<0∨14<op then 0 else [0,64,11,0,1,33,9,11,3,3,7,1,0,1,56].getD op.toNat 0
def R5 (h:Nat):Nat→List Int→List UInt8
 | _,[]=>[]
 | k,n::l=>(if h / 2 ^ k % 2=1 then Pv n else [])++R5 h (k+1) l
def Ins.bts (x:Ins):List UInt8:=Pv x.op++R5 (Ta x.op) 0 [x.a,x.b,x.c,x.k]++(if Ta x.op / 64 % 2=1 then Pv x.n else [])++(if Ta x.op / 16 % 2=1 then ez x.regs else [])++(if Ta x.op / 32 % 2=1 then ez x.args else [])
end
section
mutual
def Ty.nodes:Ty→Nat
 | .mk _ _ l=>1+Tys.nodes l
def Tys.nodes:List Ty→Nat
 | []=>0
 | x::l=>x.nodes+Tys.nodes l
end
mutual
theorem Ty.size_nodes:∀(t:Ty){n:Int},0≤t.size n→t.size n=n - t.nodes
 | .mk k r l,n,h=>by
   rw [Ty.size] at h ⊢;rw [Tys.size_nodes l h,Ty.nodes];omega
theorem Tys.size_nodes:∀(l:List Ty){n:Int},0≤Tys.size l n→Tys.size l n=n - Tys.nodes l
 | [],n,h=>by rw [Tys.size,Tys.nodes];omega
 | x ::l,n,h=>by
   rw [Tys.size] at h ⊢;by_cases hn:0≤n
   · rw [if_pos hn] at h ⊢
     have hx:0≤x.size n:=by
      rcases Int.lt_or_le (x.size n) 0 with h1|h1
      · rw [HO l h1] at h;omega
      · exact h1
     rw [Tys.size_nodes l h,Ty.size_nodes x hx,Tys.nodes];omega
   · rw [if_neg hn] at h;omega
end
theorem Ty.nodes_of_great {t:Ty}(h:t.great=false):t.nodes≤2000:=by
 unfold Ty.great at h;simp at h;have:=Ty.size_nodes t h;omega
abbrev Ke:=@Ty.nodes_of_great
end
section
def Zf (c:BitVec 32):BitVec 32:=(c >>> 1) ^^^ (3988292384#32 &&& -(c &&& 1#32))
def kx:Nat→BitVec 32→BitVec 32
 | 0,c=>c
 | k+1,c=>kx k (Zf c)
def Zg (c:BitVec 32)(x:UInt8):BitVec 32:=kx 8 (c ^^^ BitVec.ofNat 32 x.toNat)
def ky (bs:List UInt8):BitVec 32:=4294967295#32 ^^^ bs.foldl Zg 4294967295#32
section
variable {P:Program}{l:List GO}{Q:QT}{ρ:KI}{w:World}
end
end
section
def Block.bts (b:Block):List UInt8:=Pv b.regs++Wb b.params++Pv b.code.length++b.code.flatMap Ins.bts++b.fin.bts
def Fun.bts (f:Fun):List UInt8:=Pv f.regs++Wb f.params++Wb f.results++Pv f.blocks.length++f.blocks.flatMap Block.bts
def Module.body (m:Module):List UInt8:=[67,72,1]++Pv m.funcs.length++m.funcs.flatMap Fun.bts
def Ins.Few (x:Ins):Prop:=x.regs.length≤300∧x.args.length≤300
def To.Few (x:To):Prop:=x.regs.length≤300∧x.args.length≤300
def Tail.Few (x:Tail):Prop:=x.yes.Few∧x.no.Few∧x.args.length≤300
def Block.Few (b:Block):Prop:=Tys.great b.params=false∧b.code.length≤200∧(∀i∈b.code,i.Few)∧b.fin.Few
def Fun.Few (f:Fun):Prop:=Tys.great f.params=false∧Tys.great f.results=false∧f.blocks.length≤30∧∀b∈f.blocks,b.Few
def Module.Few (m:Module):Prop:=m.funcs.length≤20∧∀f∈m.funcs,f.Few
theorem vD {α:Type}{f:α→List UInt8}{c:Nat}:∀{l:List α},(∀x∈l,(f x).length≤c)→(l.flatMap f).length≤l.length*c
 | [],_=>by simp
 | x::l,h=>by
   have h1:=h x (Gi ..);have h2:=vD (l:=l) fun y hy=>h y (F3 _ hy);rw [H2,Fc,Fk,Ht];omega
theorem vE {f:α→List UInt8}{c n:Nat}{l:List α}(h:∀x∈l,(f x).length≤c)(hn:l.length≤n):(l.flatMap f).length≤n*c:=
 GL (vD h) (Ga c hn)
mutual
theorem Ty.bts_len:∀(t:Ty),t.bts.length≤30*t.nodes
 | .mk k r l=>by
   have h1:=Tys.bts_len l;have h2:=Pb k;have h3:=Pb r;have h4:=Pb l.length;rw [Ty.bts,Ty.nodes];simp only [Fc];split<;>split<;>simp only [Fc,FF]<;>omega
theorem Tys.bts_len:∀(l:List Ty),(Tys.bts l).length≤30*Tys.nodes l
 | []=>by simp [Tys.bts]
 | x::l=>by
   have h1:=Ty.bts_len x;have h2:=Tys.bts_len l;rw [Tys.bts,Tys.nodes,Fc];omega
end
theorem Tys.nodes_few:∀{l:List Ty},(∀x∈l,x.nodes≤2000)→Tys.nodes l≤2000*l.length
 | [],_=>by simp [Tys.nodes]
 | x::l,h=>by
   have h1:=h x (Gi ..);have h2:=Tys.nodes_few (l:=l) fun y hy=>h y (F3 _ hy);rw [Tys.nodes,Fk];omega
abbrev Jl:=@Tys.nodes_few
theorem qO {l:List Ty}(h:Tys.great l=false):(Wb l).length≤12000010:=by
 unfold Tys.great at h;rw [HD] at h;have hl:l.length≤200:=(by have:=of_decide_eq_false h.1;omega);have h1:=Tys.bts_len l;have h2:=Jl (l:=l) fun x hx=>Ke (by have:=List.any_eq_false.1 h.2 x hx;simpa using this);have h3:=Pb l.length;unfold Wb;rw [Fc];omega
theorem kz (h:l.length≤300):(ez l).length≤3010:=by
 have h1:=vC l;have h2:=Pb l.length;unfold ez;rw [Fc];omega
theorem To.bts_few {x:To}(h:x.Few):x.bts.length≤6030:=by
 have h1:=kz h.1;have h2:=kz h.2;have h3:=Pb x.block;unfold To.bts;simp only [Fc];omega
abbrev J8:=@To.bts_few
theorem Tail.bts_few {x:Tail}(h:x.Few):x.bts.length≤13000:=by
 have h1:=J8 h.1;have h2:=J8 h.2.1;have h3:=kz h.2.2;have h4:=Pb x.op;have h5:=Pb x.a;unfold Tail.bts;rw [Fc];split
 · omega
 · split
   · simp only [Fc];omega
   · split
     · omega
     · simp only [FF];omega
theorem Ins.bts_few {x:Ins}(h:x.Few):x.bts.length≤6110:=by
 have h1:=kz h.1;have h2:=kz h.2;have h3:=Pb x.op;have h4:=Pb x.n;have ha:=Pb x.a;have hb:=Pb x.b;have hc:=Pb x.c;have hk:=Pb x.k
 have h5:(R5 (Ta x.op) 0 [x.a,x.b,x.c,x.k]).length≤40:=by
  simp only [R5,Fc,FF];split<;>split<;>split<;>split<;>(try simp only [FF])<;>omega
 unfold Ins.bts;simp only [Fc];split<;>split<;>split<;>(try simp only [FF])<;>omega
theorem Block.bts_few {b:Block}(h:b.Few):b.bts.length≤14000000:=by
 have h1:=qO h.1;have h2:=vE (f:=Ins.bts) (c:=6110) (fun x hx=>Ins.bts_few (h.2.2.1 x hx)) h.2.1;have h3:=Tail.bts_few h.2.2.2;have h4:=Pb b.regs;have h5:=Pb b.code.length;unfold Block.bts;simp only [Fc];omega
theorem Fun.bts_few (h:f.Few):f.bts.length≤450000000:=by
 have h1:=qO h.1;have h2:=qO h.2.1;have h3:=vE (f:=Block.bts) (c:=14000000) (fun x hx=>Block.bts_few (h.2.2.2 x hx)) h.2.2.1;have h4:=Pb f.regs;have h5:=Pb f.blocks.length;unfold Fun.bts;simp only [Fc];omega
end
section
abbrev gw (α:Type):=Except LX (α×List UInt8)
end
section
section
variable {P:Program}{l:List GO}{Q:QT}{ρ:KI}{w:World}
theorem qP {a b T':Nat}{R:Ending→World→Prop}{p o p' o':Nat}{v v':Value}(ha:ρ a= .pointer (some ⟨p,o,none⟩))(hv:Xg P w ⟨p,o,none⟩ T v)(ha':ρ b= .pointer (some ⟨p',o',none⟩))(hv':Xg P w ⟨p',o',none⟩ T' v')(h:R (.returned (.tuple #[v,v'])) w):KN P [.cell a T, .cell b T'] R .ret ρ w:=
 ⟨_,v,ha,hv,_,v',ha',hv',h⟩
end
end
section
def kA (w:World)(b j:Nat):Value:=(w.cell? ⟨b,j,none⟩).getD undef
theorem qQ {c:Cx}{b:Nat}(hS:St c w L)(hi:nth L i=some (blk b T cs))(hj:cs[j]?=some u):kA w b j=u:=by
 unfold kA;rw [(hS.blkAt hi).cell hj];rfl
def Wc:Value→Nat
 | .bool true=>0
 | _=>1
def Zh (w:World)(p:Nat):Nat:=2*(iv (kA w p 8) - iv (kA w p 7)).toNat+Wc (kA w p 9)
end
end Go.Lir
namespace Go.Proofs.YteflkifmgnpbhaaGreat
open Go.Lir
attribute [local irreducible] LC.wp Q0 Qs Qi KN QD LO.wp Q7 Calls
section
variable {cx:Cx}{w:World}{L:List Res}{p N:Nat}{c:MC}{fr:List FrmV}{g:FrmV}{h:HpS}{out inp:List Int}{m:Module}
def Ot (c:MC):Nat:=2*(c.mo - c.fu).toNat+Wc (.bool c.dn)
theorem qR (hS:St cx w (blk p 55 c.cells::L)):Zh w p=Ot c:=by
 unfold Zh Ot;rw [qQ (j:=8) hS (i:=0) rfl rfl,qQ (j:=7) hS (i:=0) rfl rfl,qQ (j:=9) hS (i:=0) rfl rfl];rfl
def eA (m:Module)(r:Run)(most k:Nat)(c:MC)(fr:List FrmV)(g:FrmV)(N:Nat)(h:HpS)(inp out:List Int):Prop:=
 c.dn=false∧c.c=0∧c.e=0∧c.fu=k∧k≤most∧c.mo=most∧N≤k∧Bnd m k (Km h g fr inp out k)∧r=Run.steps m most (most+1 - k) (.on (Km h g fr inp out k))
def eB (m:Module)(r:Run)(most:Nat)(c:MC)(fr:List FrmV)(g:FrmV)(N:Nat)(h:HpS)(inp out back:List Int):Prop:=
 (back=[]∧∃k,eA m r most k c fr g N h inp out)∨(c.dn=true∧r.oc=⟨c.e,back,out,c.fu⟩∧r.flt=(0,0)∧out.length≤2000∧back.length≤100000)
theorem eA.next {r:Run}{k:Nat}(hI:eA m r most k c fr g N h inp out)(hM:m.fault.1=0)(hi:Kh.sl cx c.iv inp)(hs:RY m p c fr g N h inp out (k+1) cx (sl 2 1 c.bv []::L) u w):
 (u=KG (0,0)∧∃c' fr' g' N' h' inp' out' back',eB m r most c' fr' g' N' h' inp' out' back'∧c'.fn=c.fn∧Kh.sl cx c'.iv inp'∧Ot c'<Ot c∧St cx w (mS p c' fr' g' N' h' out' (sl 2 1 c'.bv (QK back')::L)))∨
 ∃f,r= .stuck (20,f)∧u=KG (20,f)∧St cx w L:=by
 obtain ⟨hdn,hc0,he0,hfu,hkm,hmo,hN,hB,hr⟩:=hI;rcases hs with ⟨h7,rfl,hS⟩|⟨hlt,hs⟩
 · refine .inl ⟨rfl,c.over 7,fr,g,N,h,inp,out,[], .inr ⟨rfl,?_,?_,hB.out,FZ _⟩,rfl,hi,?_,hS⟩
   · rw [hr,qL (m:=m) (most:=most) (k:=k) (s:=Km h g fr inp out k) (by show k=most;omega) rfl];show Oc.mk 7 [] out k=Oc.mk 7 [] out c.fu;rw [hfu]
   · rw [hr,qL (m:=m) (most:=most) (k:=k) (s:=Km h g fr inp out k) (by show k=most;omega) rfl];rfl
   · unfold Ot;rw [hdn];show 2*(c.mo - c.fu).toNat+0<2*(c.mo - c.fu).toNat+1;omega
 · have hst:=hr.trans (vA (m:=m) (most:=most) (k:=k) (s:=Km h g fr inp out k) (by show k<most;omega) rfl)
   have hone:(Km h g fr inp out k).tick.one m=(Km h g fr inp out (k+1)).one m:=rfl;rw [hone] at hst;have hB1:((Km h g fr inp out (k+1)).one m).All (Bnd m (k+1)):=Kd (s:=Km h g fr inp out (k+1)) (k:=k) ⟨hB.cur,hB.st,hB.sl,hB.out⟩ hM;have hms:2*(c.mo - (c.fu+1)).toNat+1<2*(c.mo - c.fu).toNat+1:=Df;rcases hs with ⟨rfl,hG⟩|⟨e,hX,rfl,fr',g',N',hN',hS⟩|⟨hX,rfl,hS⟩
   · rcases hG with ⟨lv,iv,ov,fr',g',N',h',inp',out',hX,hi',hN', -,hS⟩|⟨ns,bv,fr',g',hX, -,hS⟩
     · rw [hX] at hst hB1
       refine .inl ⟨rfl,c.tick.upd lv iv ov,fr',g',N',h',inp',out',[], .inl ⟨rfl,k+1,hdn,hc0,he0,?_,Jo,hmo,Jo,hB1,hst⟩,rfl,hi',?_,hS⟩
       · show c.fu+1=((k+1:Nat):Int);omega
       · unfold Ot;rw [hdn];exact hms
     · rw [hX] at hst
       rw [show Run.of m (Km h g fr inp out k) (.done ns)= .over (Km h g fr inp out k).tick 0 ns from rfl,ks] at hst;refine .inl ⟨rfl,⟨c.hp,c.fn,c.lv,c.iv,c.e,bv,c.ov,c.fu+1,c.mo,true,c.c,c.a⟩,fr',g',N,h,inp,out,ns, .inr ⟨rfl,?_,?_,hB.out,?_⟩,rfl,hi,?_,hS.sp⟩
       · rw [hst];show Oc.mk 0 ns out ((k+1:Nat):Int)=Oc.mk c.e ns out (c.fu+1);rw [hfu,he0];rfl
       · rw [hst];rfl
       · have h8:ns.length≤8:=(by rw [hX] at hB1;exact hB1);omega
       · unfold Ot;rw [hdn];show 2*(c.mo - (c.fu+1)).toNat+0 < _;omega
   · rw [hX] at hst
     rw [show Run.of m (Km h g fr inp out k) (.halt e)= .over (Km h g fr inp out k).tick e [] from rfl,ks] at hst;refine .inl ⟨rfl,c.tick.over e,fr',g',N',h,inp,out,[], .inr ⟨rfl,?_,?_,hB.out,FZ _⟩,rfl,hi,?_,hS⟩
     · rw [hst];show Oc.mk e [] out ((k+1:Nat):Int)=Oc.mk e [] out (c.fu+1);rw [hfu];rfl
     · rw [hst];rfl
     · unfold Ot;rw [hdn];show 2*(c.mo - (c.fu+1)).toNat+0 < _;omega
   · rw [hX] at hst;rw [show Run.of m (Km h g fr inp out k) .lost= .stuck (20,(Km h g fr inp out k).place m) from rfl,qM] at hst;exact .inr ⟨_,hst,rfl,hS.sp⟩
theorem SI.bad (hz:(R4 m inp fuel pages).1≠0)(hs:SI m inp fuel pages cx L u w):u= .tuple #[.pointer none,KG (R4 m inp fuel pages)]∧St cx w L:=by
 rcases hs with ⟨_,h1,h2⟩|⟨h1,_⟩
 · exact ⟨h1,h2⟩
 · rw [h1] at hz;exact absurd rfl hz
theorem SI.ok (hz:(R4 m inp fuel pages).1=0)(hs:SI m inp fuel pages cx L u w):R4 m inp fuel pages=(0,0)∧m.fault.1=0∧inp.length≤200∧0≤fuel∧fuel≤20000∧0≤pages∧pages≤64∧∃c' p hp fn lv iv,u= .tuple #[.pointer (some ⟨p,0,none⟩),KG (0,0)]∧cx.Le c'∧KD.sl c' fn m.funcs∧Kh.sl c' iv inp∧St c' w (mS p (P0 hp fn lv iv fuel) [] Pa 0 ⟨[],pages⟩ [] L):=by
 rcases hs with ⟨h1,_⟩|h1
 · exact absurd hz h1
 · exact h1
def mq (o:Oc)(v1 v2:Value):Value:= .agg ⟨[.int .i64 o.e,v1,v2, .int .i64 o.fuel]⟩
def kB (m:Module)(inp:List Int)(fuel pages:Int)(cx:Cx)(L:List Res)(u:Value)(w':World):Prop:=
 ((R4 m inp fuel pages).1≠0∧u= .tuple #[.agg ⟨[.int .i64 0, .slice none 0 0, .slice none 0 0, .int .i64 0]⟩,KG (R4 m inp fuel pages)]∧St cx w' L)∨
 (R4 m inp fuel pages=(0,0)∧∃c' v1 v2,cx.Le c'∧u= .tuple #[mq (Run.all m inp fuel.toNat pages).oc v1 v2,KG (Run.all m inp fuel.toNat pages).flt]∧Kh.sl c' v1 (Run.all m inp fuel.toNat pages).oc.back∧Kh.sl c' v2 (Run.all m inp fuel.toNat pages).oc.out∧St c' w' L)
theorem eB.first {hp fn lv iv:Value}(hM:m.fault.1=0)(h0:0≤fuel):eB m (Run.all m inp fuel.toNat pages) fuel.toNat (P0 hp fn lv iv fuel) [] Pa 0 ⟨[],pages⟩ inp [] []:=
 .inl ⟨rfl,0,rfl,rfl,rfl,rfl,FZ _,(FO h0).symm,FZ _,IT hM inp pages,rfl⟩
end
section
variable {cx:Cx}{w:World}{L:List Res}{p:Nat}{c:RC}{fr:List RFV}{g:RFV}{s:EstS}{out inp back:List Int}{m:Module}{φ:RMap}
theorem Wd {b:Block}(hM:m.fault.1=0)(hf:m.funcs[i]?=some f)(hb:f.blocks[j]?=some b):(∀x∈b.code,Qel m x)∧gb f b.fin∧b.code.length≤40∧(∀x∈b.code,x.args.length≤16):=by
 obtain ⟨q0,q1,q2⟩:=W6 hM hf hb;obtain ⟨e1,e2,e3,e4⟩:=gj q2;have hcl:=(aC q0).2.2.2.2;have hto:∀{t:To},Nd f.blocks.length t true=0→ToOK f t:=fun ht=>⟨YO ht,by have:=kq ht;omega,by have:=kq ht;omega⟩;exact ⟨fun x hx=>⟨aq (q1 x hx),V9 (q1 x hx),by have:=en (q1 x hx);omega,by have:=en (q1 x hx);omega⟩,⟨by have:=ml q2;omega,⟨e1,e2⟩,fun hq=>hto ER,fun hq=>hto EP⟩,hcl,fun x hx=>by have:=en (q1 x hx);omega⟩
theorem We (hM:m.fault.1=0):VW m:=fun i j f b hf hb=>by
 obtain ⟨_,h2,_,h4⟩:=Wd hM hf hb;exact ⟨h4,h2.2.1⟩
theorem vF {φ:RMap}{h:HpS}:∀{l:List Frm}{l':List RFrm},SE φ h l l'→∀b∈l',∃a∈l,gq φ h a b
 | [],[],_,b,hb=>by simp at hb
 | a::l,b::l',hf,x,hx=>by
   rcases FA.1 hx with rfl|hx
   · exact ⟨a,by simp,hf.1⟩
   · obtain ⟨y,hy,h2⟩:=vF hf.2 x hx;exact ⟨y,by simp [hy],h2⟩
 | [],_::_,hf,_,_=>hf.elim
 | _::_,[],hf,_,_=>hf.elim
theorem kC {k:Nat}{fu:Nat}(S:SimF φ ms (KJ s g fr inp out fu))(hB:Bnd m k ms)(hM:m.fault.1=0)(hk:k≤most)(hm:most≤20000):∃f b,m.funcs[g.f]?=some f∧f.blocks[g.b]?=some b∧(∀x∈b.code,Qel m x)∧gb f b.fin∧g.i≤1000∧fr.length≤900∧g.vals.length≤800000∧(∀x∈fr,x.vals.length≤900000)∧out.length≤2000:=by
 obtain ⟨f,b,hf,hb,h1,h2,h3⟩:=hB.cur;obtain ⟨b1,b2,b3,_⟩:=Wd hM hf hb;obtain ⟨e1,e2,e3,e4⟩:=S.g;have e1:ms.g.f=g.f:=e1;have e2:ms.g.b=g.b:=e2;have e3:ms.g.i=g.i:=e3;have e5:ms.g.vals.length=g.vals.length:=e4.1;have hsl:=hB.sl;have hln:ms.st.length=((fr.map RFV.abs).reverse).length:=qt S.st;rw [Hm,Fb] at hln;have ho:ms.out=out:=S.out;rw [e1] at hf;rw [e2] at hb;refine ⟨f,b,hf,hb,b1,b2,Jo,Jo,Jo,fun x hx=>?_,by rw [←ho];exact hB.out⟩;obtain ⟨a,ha,h9⟩:=vF S.st x.abs (by show x.abs∈(fr.map RFV.abs).reverse;rw [List.mem_reverse];exact JY hx);obtain ⟨_,_,_,_,_,h10,_⟩:=hB.st a ha;have:a.vals.length=x.vals.length:=h9.2.2.2.1;omega
def P1 (c:RC):Nat:=2*(c.mo - c.fu).toNat+Wc (.bool c.dn)
def QR (m:Module)(most:Nat)(c:RC)(fr:List RFV)(g:RFV)(s:EstS)(inp out back:List Int):Run→Prop
 | .on ms=>(∃φ,SimF φ ms (KJ s g fr inp out ms.fuel))∧back=[]∧c.dn=false∧c.e=0∧c.fu=ms.fuel∧ms.fuel≤most∧c.mo=most∧Bnd m ms.fuel ms∧W8 m ms
 | .over ms e b=>out=ms.out∧back=b∧c.dn=true∧c.e=e∧c.fu=ms.fuel∧out.length≤2000∧back.length≤100000∧ms.h.left=s.p.fr.length∧s.count=ms.h.live∧(e=0→kn ms.h)
 | .stuck _=>False
theorem kD {k:Nat}(S:SimF φ ms (KJ s g fr inp out k))(hR:m.runs.1=0)(hsh:m.Short)(hf:W8 m ms):MK (ms.tick.one m) ((KJ s g fr inp out (k+1)).one m)∧ko m ms.h (ms.tick.one m)∧(KJ s g fr inp out (k+1)).one m≠ .crash:=by
 have h1:MK (ms.tick.one m) ((KJ s g fr inp out (k+1)).one m):=kh (We (SG hR)) (ec S);have h2:ko m ms.h (ms.tick.one m):=vj hR hsh (vq hf);refine ⟨h1,h2,?_⟩
 cases hX:ms.tick.one m with
 | go s'=>rw [hX] at h1;obtain ⟨r',e,_⟩:=h1;rw [e];exact RStp.noConfusion
 | halt e=>rw [hX] at h1;have h1:_=RStp.halt e:=h1;rw [h1];exact RStp.noConfusion
 | done l=>rw [hX] at h1;have h1:_=RStp.done l:=h1;rw [h1];exact RStp.noConfusion
 | lost=>rw [hX] at h2;exact h2.elim
theorem QR.step (hP:QR m most c fr g s inp out back (.on ms))(hR:m.runs.1=0)(hsh:m.Short)(hi:Kh.sl cx c.iv inp)(hs:pI m p c fr g s inp out (ms.fuel+1) cx (sl 2 1 c.bv []::L) u w):
 u= .tuple #[]∧∃c' fr' g' s' inp' out' back',QR m most c' fr' g' s' inp' out' back' (Run.step m most (.on ms))∧c'.fn=c.fn∧Kh.sl cx c'.iv inp'∧P1 c'<P1 c∧St cx w (rS p c' fr' g' s' out' (sl 2 1 c'.bv (back'.map Qr)::L)):=by
 obtain ⟨⟨φ,S⟩, -,hdn,he0,hfu,hkm,hmo,hB,hf⟩:=hP;have hM:=SG hR;obtain ⟨O,E,hX0⟩:=kD S hR hsh hf;have ho:ms.out=out:=S.out;have hle:ms.h.left=s.p.fr.length:=S.hr.left;have hcn:s.count=ms.h.live:=S.hr.cnt;have hol:out.length≤2000:=(by rw [←ho];exact hB.out);obtain ⟨rfl,hs⟩:=hs;refine ⟨rfl,?_⟩;rcases hs with ⟨h7,hS⟩|⟨hlt,hs⟩
 · have hst:Run.step m most (.on ms)= .over ms 7 []:=if_pos (show ms.fuel=most by omega);rw [hst];refine ⟨c.over 7,fr,g,s,inp,out,[],⟨ho.symm,rfl,rfl,rfl,hfu,hol,FZ _,hle,hcn,fun h=>by cases h⟩,rfl,hi,?_,hS⟩;unfold P1;rw [hdn];show 2*(c.mo - c.fu).toNat+0<2*(c.mo - c.fu).toNat+1;omega
 · have hst:Run.step m most (.on ms)= .of m ms (ms.tick.one m):=if_neg (show¬ms.fuel=most by omega)
   have hB1:(ms.tick.one m).All (Bnd m (ms.fuel+1)):=Kd (s:=ms.tick) (k:=ms.fuel) ⟨hB.cur,hB.st,hB.sl,hB.out⟩ hM;have hmm:2*(c.mo - (c.fu+1)).toNat+1<2*(c.mo - c.fu).toNat+1:=Df;have hmz:2*(c.mo - (c.fu+1)).toNat+0<2*(c.mo - c.fu).toNat+1:=Df;rcases hs with (⟨lv,iv,ov,fr',g',s',inp',out',hX,hi', -,hS⟩|⟨ns,bv,fr',g',hX, -,hS⟩)|⟨e,hX,fr',g',hS⟩
   · rw [hX] at O
     cases hY:ms.tick.one m with
     | lost=>rw [hY] at E;exact E.elim
     | halt e=>rw [hY] at O;exact Be
     | done l=>rw [hY] at O;exact Be
     | go ms'=>
       rw [hY] at O E hst hB1;rw [hst];obtain ⟨r',er,φ',S'⟩:=O;cases er;have hfl:ms'.fuel=ms.fuel+1:=qK hY;refine ⟨c.tick.upd lv iv ov,fr',g',s',inp',out',[],⟨⟨φ',by rw [hfl];exact S'⟩,rfl,hdn,he0,?_,?_,hmo,by rw [hfl];exact hB1,E⟩,rfl,hi',?_,hS⟩
       · show c.fu+1=_;omega
       · omega
       · unfold P1;rw [hdn];exact hmm
   · rw [hX] at O
     cases hY:ms.tick.one m with
     | lost=>rw [hY] at E;exact E.elim
     | halt e=>rw [hY] at O;exact Be
     | go ms'=>rw [hY] at O;obtain ⟨r',er,_⟩:=O;exact absurd er RStp.noConfusion
     | done l=>
       rw [hY] at O E hst hB1;rw [hst];have hl:RStp.done ns= .done l:=O;cases hl;refine ⟨c.tick.did bv,fr',g',s,inp,out,ns,⟨ho.symm,rfl,rfl,he0,?_,hol,?_,hle,hcn,fun _=>E⟩,rfl,hi,?_,(hS.subP Dn)⟩
       · show c.fu+1=((ms.fuel+1:Nat):Int);omega
       · have h8:ns.length≤8:=hB1;omega
       · unfold P1;rw [hdn];exact hmz
   · rw [hX] at O
     cases hY:ms.tick.one m with
     | lost=>rw [hY] at E;exact E.elim
     | done l=>rw [hY] at O;exact Be
     | go ms'=>rw [hY] at O;obtain ⟨r',er,_⟩:=O;exact absurd er RStp.noConfusion
     | halt e'=>
       rw [hY] at O hst;rw [hst];have hl:RStp.halt e= .halt e':=O;cases hl;refine ⟨c.tick.over e,fr',g',s,inp,out,[],⟨ho.symm,rfl,rfl,rfl,?_,hol,FZ _,hle,hcn,fun h0=>absurd h0 (vy hY)⟩,rfl,hi,?_,hS⟩
       · show c.fu+1=((ms.fuel+1:Nat):Int);omega
       · unfold P1;rw [hdn];exact hmz
theorem Zi (hP:QR m most c fr g s inp out back (.on ms))(hR:m.runs.1=0)(hsh:m.Short)(hmo:most≤20000)(hfn:KD.sl cx c.fn m.funcs)(hi:Kh.sl cx c.iv inp)(hS:St cx w (rS p c fr g s out (sl 2 1 c.bv (back.map Qr)::L))):
 Kf Tryz.prog sD [.pointer (some ⟨p,0,none⟩)] w fun u w'=>u= .tuple #[]∧∃c' fr' g' s' inp' out' back',QR m most c' fr' g' s' inp' out' back' (Run.step m most (.on ms))∧c'.fn=c.fn∧Kh.sl cx c'.iv inp'∧P1 c'<P1 c∧St cx w' (rS p c' fr' g' s' out' (sl 2 1 c'.bv (back'.map Qr)::L)):=by
 have hP':=hP;obtain ⟨⟨φ,S⟩,rfl,hdn,he0,hfu,hkm,hmo2,hB,hf⟩:=hP;obtain ⟨O,E,hX0⟩:=kD S hR hsh hf;obtain ⟨f,b,h1,h2,k1,k2,k3,k4,k5,k6,k7⟩:=kC S hB (SG hR) hkm hmo;exact (Vn (m:=m) (f:=f) (b:=b) (inp:=inp) (fu:=ms.fuel+1) hdn hfn hi h1 h2 k1 k2 k3 k4 k5 k6 k7 ⟨Jo,Jo⟩ hX0 hS).mono fun u w' hs=>hP'.step hR hsh hi hs
end
section
variable {cx:Cx}{w:World}{L:List Res}{p:Nat}{c:RC}{out:List Int}
theorem Zj (hS:St cx w (blk p 66 c.cells::L)):Kf Tryz.prog xM [.pointer (some ⟨p,0,none⟩)] w fun u w'=>u= .bool c.dn∧St cx w' (blk p 66 c.cells::L):=by
 refine Kq Ko Tryz.func36 ?_;refine' Nk;refine' Mf;refine' La;((exact Az))
end
end Go.Proofs.YteflkifmgnpbhaaGreat
namespace Go.Proofs.YteflkifmgnpbhaaGreat
open Go.Lir

@[reducible] def vG:FuncId:=147
@[reducible] def Q9e:FuncId:=148
@[reducible] def Q9f:FuncId:=149
@[reducible] def Wf:FuncId:=202
@[reducible] def Qcv:FuncId:=205
@[reducible] def Q7x:FuncId:=206
@[reducible] def Q9c:FuncId:=207
@[reducible] def Q7y:FuncId:=209
@[reducible] def Q9d:FuncId:=210
@[reducible] def vH:FuncId:=237
@[reducible] def Q9b:FuncId:=238
@[reducible] def Q8i:FuncId:=239
@[reducible] def qS:FuncId:=240
@[reducible] def vI:FuncId:=241
@[reducible] def vJ:FuncId:=242
@[reducible] def Qa3:FuncId:=243
@[reducible] def vK:FuncId:=244
@[reducible] def Q7v:FuncId:=245
@[reducible] def Q7w:FuncId:=246
@[reducible] def Q7u:FuncId:=247
@[reducible] def Q8j:FuncId:=248
@[reducible] def Qa2:FuncId:=249
@[reducible] def Q8k:FuncId:=250
@[reducible] def vL:FuncId:=251
@[reducible] def vM:FuncId:=261
@[reducible] def vN:FuncId:=264
end Go.Proofs.YteflkifmgnpbhaaGreat
namespace Go.Lir
section
section
variable {P:Program}{l:List GO}{Q:QT}{ρ:KI}{w:World}
end
end
section
section
variable {P:Program}{l:List GO}{Q:QT}{ρ:KI}{w:World}
theorem St.freeze1 {r:Rep α}{c:Cx}{T b:Nat}{cs:List Value}{x:α}(h:St c w (blk b T cs::L))(hr:r.at c cs x):∃c',c.Le c'∧St c' w L∧r.sl c' (.slice (some ⟨b,0,none⟩) 1 1) [x]:=by
 have h1:St c w (sl T r.es (.slice (some ⟨b,0,none⟩) 1 1) [cs]::L):=h.slOf (css:=[cs]) Js (by intro q hq;simp at hq;subst hq;exact r.len hr) rfl;exact h1.freezeL (r:=r) ((GB r _ _).push hr) rfl Js
abbrev FN:=@St.freeze1
end
end
end Go.Lir
namespace Go.Proofs.YteflkifmgnpbhaaGreat
open Go.Lir
attribute [local irreducible] LC.wp Q0 Qs Qi KN QD LO.wp Q7 Calls
section
attribute [local irreducible] Kz LY Mv M6
variable {cx:Cx}{w:World}{L:List Res}
def Zk (hp:Nat)(h:List Bool):Res:=Res.ex fun v=>star (blk hp 296 [v]) (sl 4 1 v (h.map QE))
theorem gx {hp:Nat}{h:List Bool}(hS:St cx w (Zk hp h::L)):∃v,St cx w (blk hp 296 [v]::sl 4 1 v (h.map QE)::L):=by
 obtain ⟨v,hS⟩:=St.ex hS;exact ⟨v,hS.star⟩
theorem eC {hp:Nat}{h:List Bool}{v:Value}(hS:St cx w (blk hp 296 [v]::sl 4 1 v (h.map QE)::L)):St cx w (Zk hp h::L):=J3 v hS.star'
theorem Wg {hp:Nat}{h:List Bool}{v:Value}{r:Int}(hS:St cx w (blk hp 296 [v]::sl 4 1 v (h.map QE)::L)):
 Kf Tryz.prog vM [.pointer (some ⟨hp,0,none⟩), .int .i64 r] w fun u w'=>u= .bool (Kz h r)∧St cx w' (blk hp 296 [v]::sl 4 1 v (h.map QE)::L):=by
 ((have hlen:(h.map QE).length=h.length:=Fb _;refine Kq Ko Tryz.func261 ?_;refine' Nk;first|(refine' Ml)|(refine' MN)|(refine' Ag<;>intro hc));all_goals (refine' WT;(first|refine' Kj|(refine' Kl;(first|(refine QF hS hel1 rfl NX (MQ QE h false Jo) rfl ?_)|(refine zl hS ?_))));refine' XT;first|refine' Kj|(refine' Kl;(first|(refine' KX)|(refine' K1)|(refine' Ae<;>intro hc)))));all_goals (refine' PQ;refine' PK;(first|refine' Kj|(refine' Kl;(first|(refine QF hS hel1 rfl NX (MQ QE h false Jo) rfl ?_)|(refine zl hS ?_))));refine' Mc;(first|refine' Kj|(refine' Kl;(first|(refine' Nj;intro b1 o1 cs1 x1 hat1 hx1 he1;obtain rfl:=QG he1)|(refine PE hS ?_;intro b1 o1 hel1)|(refine XS hS ?_;intro b1 o1 hel1))));(first|refine' Kj|(refine' Kl;(first|(refine QF hS hel1 rfl NX (MQ QE h false Jo) rfl ?_)|(refine zl hS ?_)|(refine Rm hS ?_)|(refine ZY hS ?_)|(refine iF hS ?_)|(refine iG hS ?_))));refine' Lu;refine' La;(exact An))
theorem kE {hp:Nat}{h:List Bool}{v:Value}(hS:St cx w (blk hp 296 [v]::sl 4 1 v (h.map QE)::L)):
 Kf Tryz.prog vI [.pointer (some ⟨hp,0,none⟩)] w fun u w'=>u= .int .i64 h.length∧St cx w' (blk hp 296 [v]::sl 4 1 v (h.map QE)::L):=by
 have hlen:(h.map QE).length=h.length:=Fb _;refine Kq Ko Tryz.func241 ?_;refine' Nk;refine' Mf;refine' SQ;refine' La;(((refine ⟨_,rfl,?_,hS.sp⟩;(rfl);done)))
theorem Wh {hp:Nat}{h:List Bool}{v:Value}(hl:h.length≤16)(hS:St cx w (blk hp 296 [v]::sl 4 1 v (h.map QE)::L)):
 Kf Tryz.prog vL [.pointer (some ⟨hp,0,none⟩)] w fun u w'=>∃c',cx.Le c'∧Kh.sl c' u (LY h)∧St c' w' (blk hp 296 [v]::sl 4 1 v (h.map QE)::L):=by
 have hlen:(h.map QE).length=h.length:=Fb _;refine Kq Ko Tryz.func251 ?_;refine' LM;refine' Mq;refine' Lh;(first|(refine QF hS Ja rfl Ni (MQ QE h false Jo) rfl ?_)|(refine zl hS ?_));refine' SQ;refine' Ob;have hS:=Hp (T:=3) (es:=1) hS;refine zo [9,10] (fun A ρ' w'=>∃(j:Nat) (vo:Value) (co:List (List Value)),Kn ρ' A∧Kn ρ' [(11, .int .i64 j),(3,vo)]∧(j≤h.length)∧(Kh.ls cx co (M6 h j))∧St cx w' (sl 3 1 vo co::blk hp 296 [v]::sl 4 1 v (h.map QE)::L)) (fun ρ' _=>(h.length - iv (ρ' 11)).toNat) ?_ ?_
 · exact Cy
 rintro ρ w1 ⟨j,vo,co,hA,hρ,hj,hls,hS⟩;obtain ⟨ρ,rfl⟩:=Kp hA hρ;have hll:=pN h j;have hsu:=lY h j;refine' MH;refine' Ab<;>intro hc
 · skip
   refine' L4;refine' KP;(first|(refine' Nj;intro b1 o1 cs1 x1 hat1 hx1 he1;obtain rfl:=QG he1)|(refine PE hS ?_;intro b1 o1 hel1));(first|(refine QF hS Ja rfl Ni (MQ QE h false Jo) rfl ?_)|(refine zl hS ?_)|(refine Rm hS ?_)|(refine ZY hS ?_)|(refine iF hS ?_)|(refine iG hS ?_));refine' zm;refine' KA;refine' LM;refine' Aa<;>intro hc
   · skip;refine' MZ;refine K8 hS [_] ?_;intro b1 w1 hS;refine za S8 UI hS ?_;intro vp1 w1 css1 hls1 hv1 hS;have hS:=hS.ns;refine' KA;refine' N1;(exact Dd)
   · skip;refine' Kx;refine' N1;(exact Ap)
 · skip;refine' Sn;(refine ⟨_,rfl,?_⟩;obtain ⟨c',hle,hS',hk⟩:=Gp (r:=Kh) hS hls rfl Jo;refine ⟨c',hle,?_,hS'⟩;rw [show j=h.length by omega] at hk;unfold LY;exact hk)
theorem eD {hp:Nat}{h:List Bool}{v:Value}(hl:h.length<16)(hS:St cx w (blk hp 296 [v]::sl 4 1 v (h.map QE)::L)):
 Kf Tryz.prog vJ [.pointer (some ⟨hp,0,none⟩)] w fun u w'=>u= .int .i64 h.length∧∃v',St cx w' (blk hp 296 [v']::sl 4 1 v' ((h++[true]).map QE)::L):=by
 have hlen:(h.map QE).length=h.length:=Fb _;refine Kq Ko Tryz.func242 ?_;refine' Mq;refine' Mf;refine' SQ;refine' Z0;refine' Pn;refine' Lc;refine' Mf;refine K8 hS [_] ?_;intro b1 w1 hS;((refine NL jd (.inl lN) hS vw vw fd (hS.srcB1 fd rfl) Di ?_;intro vp w2 hS;have hS:=hS.ns;rw [show h.map QE++[[Value.bool true]]=(h++[true]).map QE by simp [QE]] at hS));refine' Lh;((refine LU hS ?_;intro w1 hS;have hS:=hS.ns));refine' L5;have hlen1:(h++[true]).length=h.length+1:=Dq;refine' So;refine' SQ;refine' PD;refine' La;((exact ⟨_,rfl,(by congr 1;omega),_,hS.sp⟩))
theorem eE {hp:Nat}{h:List Bool}{v:Value}{r:Int}(hr:Kz h r=true)(hS:St cx w (blk hp 296 [v]::sl 4 1 v (h.map QE)::L)):
 Kf Tryz.prog vK [.pointer (some ⟨hp,0,none⟩), .int .i64 r] w fun u w'=>u= .bool true∧St cx w' (blk hp 296 [v]::sl 4 1 v ((h.set r.toNat false).map QE)::L):=by
 have hlen:(h.map QE).length=h.length:=Fb _;have hr':=dC hr;refine Kq Ko Tryz.func244 ?_;refine' LM;refine' Lc;refine Sf rfl (Wg hS) ?_;rintro v1 w1 ⟨rfl,hS⟩;rw [hr];refine' Ms;refine' LM;refine' Ki;refine' So;refine' zm;(first|(refine' Nj;intro b1 o1 cs1 x1 hat1 hx1 he1;obtain rfl:=QG he1)|(refine PE hS ?_;intro b1 o1 hel1)|(refine XS hS ?_;intro b1 o1 hel1));(first|(refine ln hS hel1 rfl vw NX (MQ QE h false Jo) rfl rfl ?_;intro w2 hS;have hS:=hS.ns;rw [show (QE (h.getD r.toNat false)).set 0 (Value.bool false)=QE false from rfl,map_set] at hS)|(refine LU hS ?_;intro w1 hS;have hS:=hS.ns)|(refine sv hS ?_;intro w1 hS;have hS:=hS.ns)|(refine sx hS ?_;intro w1 hS;have hS:=hS.ns));refine' LN;refine' La;(refine ⟨_,rfl,?_,hS.sp⟩;(rfl);done)
theorem eF {hp:Nat}{h:List Bool}{v:Value}(hl:h.length≤16)(hx:Kh.sl cx v2 xs)(hS:St cx w (blk hp 296 [v]::sl 4 1 v (h.map QE)::L)):
 Kf Tryz.prog vN [.pointer (some ⟨hp,0,none⟩),v2] w fun u w'=>u= .int .i64 (Mv h [] xs)∧∃c',cx.Le c'∧St c' w' (blk hp 296 [v]::sl 4 1 v (h.map QE)::L):=by
 have hlen:(h.map QE).length=h.length:=Fb _;have hxl:=hx.len;refine Kq Ko Tryz.func264 ?_;refine' Nk;refine' Lh;(first|(refine QF hS hel2 rfl fd hgetS rfl ?_)|(refine zl hS ?_));refine' SQ;refine XE jd hS rfl rfl Jo Jo ?_;intro v5 w1 hS;rw [FJ] at hS;refine' S0;have hS:St cx _ (sl 4 1 v5 ((Rw h []).map QE)::blk hp 296 [v]::sl 4 1 v (h.map QE)::L):=(by rw [Qgz,HS];exact hS);refine' LV;refine' Oh;refine zo [0,1,5,14,15] (fun A ρ' w'=>∃(j:Nat),Kn ρ' A∧Kn ρ' [(16, .int .i64 j)]∧(j≤xs.length)∧(Mv h [] xs=Mv h (xs.take j) (xs.drop j))∧St cx w' (sl 4 1 v5 ((Rw h (xs.take j)).map QE)::blk hp 296 [v]::sl 4 1 v (h.map QE)::L)) (fun ρ' _=>(xs.length - iv (ρ' 16)).toNat) ?_ ?_
 · exact Bb
 rintro ρ w1 ⟨j,hA,hρ,hj,hgo,hS⟩;obtain ⟨ρ,rfl⟩:=Kp hA hρ;have hln:=QgA h (xs.take j);have hlm:((Rw h (xs.take j)).map QE).length=h.length:=(by rw [Fb,hln]);refine' MH;refine' Ab<;>intro hc
 · skip
   refine' bM;refine' zi;intro b1 o1 cs1 x1 hat1 hx1 he1;obtain rfl:=QG he1;(first|(refine QF hS hel2 rfl fd hgetS rfl ?_)|(refine zl hS ?_)|(refine Rm hS ?_));refine' S0;rw [Q1 hx1,Mv] at hgo;refine' MZ;refine Sf rfl (Wg (L:=sl 4 1 v5 ((Rw h (xs.take j)).map QE)::L) hS.sp) ?_;rintro v1 w1 ⟨rfl,hS⟩;refine' Nv;refine' Aa<;>intro hc
   · skip;refine' KQ;(exact A4)
   · skip
     have hc1:Kz h x1=true:=DE;have hr:=dC hc1;rw [if_pos hc1] at hgo;have hsg:(Rw h (xs.take j)).getD x1.toNat false=decide (x1∈xs.take j):=QgB Jo Jo;have hgetS:=MQ QE (Rw h (xs.take j)) false (m:=x1.toNat) Jo;refine' Kx;refine' P7;(first|(refine' Nj;intro b2 o2 cs2 x2 hat2 hx2 he2;obtain rfl:=QG he2)|(refine PE hS ?_;intro b2 o2 hel2)|(refine XS hS ?_;intro b2 o2 hel2));(first|(refine QF hS hel2 rfl fd hgetS rfl ?_)|(refine zl hS ?_)|(refine Rm hS ?_)|(refine ZY hS ?_)|(refine iF hS ?_)|(refine iG hS ?_));refine' zn;refine' Aa<;>intro hc
     · skip;have hc2:x1∈xs.take j:=(by rw [hsg] at hc;exact of_decide_eq_true hc);rw [if_pos hc2] at hgo;refine' KQ;(first|(exact A4)|(exact BA))
     · skip;have hc2:x1∉xs.take j:=(by rw [hsg] at hc;exact of_decide_eq_false hc);rw [if_neg hc2] at hgo;refine' Kx;refine' MZ;(first|(refine' Nj;intro b3 o3 cs3 x3 hat3 hx3 he3;obtain rfl:=QG he3)|(refine PE hS ?_;intro b3 o3 hel3)|(refine XS hS ?_;intro b3 o3 hel3));(first|(refine LU hS ?_;intro w1 hS;have hS:=hS.ns)|(refine sv hS ?_;intro w1 hS;have hS:=hS.ns)|(refine sx hS ?_;intro w1 hS;have hS:=hS.ns));refine' Rr;(exact ⟨⟨j+1,zh,zh,Jo,by rw [hgo,TZ hx1],by rw [TZ hx1,←Qgy hr.1];exact hS.sp⟩,Qj Jo⟩)
 · skip
   (refine' L8;refine' Oe;have hie:j=xs.length:=Df;subst hie;rw [IQ,List.drop_length,Mv] at hgo;refine' LV;refine' zL;refine' zm;refine Sf rfl (Wh (L:=L) hl hS.sp) ?_;rintro v5 w5 ⟨c5,hle5,hk5,hS⟩;refine' zL;first|(refine' KX)|(refine' K1)|(refine' Ae<;>intro hc));all_goals (refine' zn)
   all_goals
    first
    | (refine' Ki;refine' KQ;first|(exact A4)|(exact BA)|(exact Cg))
    | (refine' Kk;refine' Kx)
   refine' KQ;(first|(exact A4)|(exact BA)|(exact Cg)|(exact ⟨_,rfl,(by rw [hgo,if_neg Jo]),c5,hle5,hS.sp⟩))
theorem kF {n:Int}(hS:St cx w L):Kf Tryz.prog Wf [.int .i64 n] w fun u w'=>∃hp v,u= .pointer (some ⟨hp,0,none⟩)∧St cx w' (blk hp 296 [v]::sl 4 1 v ((List.replicate (min n 16).toNat true).map QE)::L):=by
 refine Kq Ko Tryz.func202 ?_;refine' LM;refine' Kv;refine L0 [_] ?_;refine zb hS ?_;intro p5 w1 hS;refine' OX;refine gS rfl rfl ?_;refine' Ob;have hS:=Hp (T:=4) (es:=1) hS;refine zo [3,7] (fun A ρ' w'=>∃(j:Nat) (v:Value),Kn ρ' A∧Kn ρ' [(8, .int .i64 j)]∧(j≤(min n 16).toNat)∧St cx w' (sl 4 1 v ((List.replicate j true).map QE)::blk p5 296 [v]::L)) (fun ρ' _=>(min n 16 - iv (ρ' 8)).toNat) ?_ ?_
 · exact ⟨0,_,zh,zh,Jo,hS.sp⟩
 rintro ρ w1 ⟨j,v,hA,hρ,hj,hS⟩;obtain ⟨ρ,rfl⟩:=Kp hA hρ;refine' MH;refine' Ab<;>intro hc
 · skip;refine' L4;refine' MZ;refine' Mf;refine K8 hS [_] ?_;intro b1 w1 hS;refine NL jd (.inl lN) hS vw vw fd (hS.srcB1 fd rfl) Di ?_;intro vp w2 hS;have hS:=hS.ns;rw [show (List.replicate j true).map QE++[[Value.bool true]]=(List.replicate (j+1) true).map QE by rw [Il,FG];rfl] at hS;refine' Lh;refine LU hS ?_;intro w1 hS;have hS:=hS.ns;refine' Rr;(exact ⟨⟨j+1,_,zh,zh,Jo,hS.sp⟩,Qj Jo⟩)
 · skip;refine' Sn;(exact B8)
end
section
theorem gp {k r:Int}{l:List Ty}{to:List Int}(h:k≠1∧(r<0∨(to.length:Int)≤r)):Ty.ren (.mk k r l) to=none:=by
 rw [Ty.ren,if_pos Jo]
theorem kb {k r x:Int}{l:List Ty}{to:List Int}(hk:k≠1)(hx:to[r.toNat]?=some x)(h:x<0):Ty.ren (.mk k r l) to=none:=by
 rw [Ty.ren,if_pos ⟨hk, .inr (.inr (by rw [E9,hx];exact h))⟩]
theorem Qhg {k r:Int}{l:List Ty}{to:List Int}(h:k=1):Ty.ren (.mk k r l) to=(Tys.ren l to).map (Ty.mk k r):=by
 subst h;rw [Ty.ren,if_neg Jo];cases Tys.ren l to<;>rfl
theorem dZ {k r x:Int}{l:List Ty}{to:List Int}(hk:k≠1)(h0:0≤r)(h1:r<to.length)(hx:to[r.toNat]?=some x)(h:0≤x):Ty.ren (.mk k r l) to=(Tys.ren l to).map (Ty.mk k x):=by
 have hd:to.getD r.toNat 0=x:=(by rw [E9,hx];rfl);rw [Ty.ren,if_neg Jo,hd]
 cases Tys.ren l to with
 | none=>rfl
 | some m=>simp [hk]
theorem qs {l:List Ty}{to:List Int}{x:Ty}(hd:Tys.ren l to=(Tys.ren (l.drop j) to).map (us++·))(hx:l[j]?=some x)(hn:x.ren to=none):Tys.ren l to=none:=by
 rw [hd,Q1 hx,Tys.ren,hn];rfl
theorem Qcd {l:List Ty}{to:List Int}{x y:Ty}(hd:Tys.ren l to=(Tys.ren (l.drop j) to).map (us++·))(hx:l[j]?=some x)(hn:x.ren to=some y):Tys.ren l to=(Tys.ren (l.drop (j+1)) to).map ((us++[y])++·):=by
 rw [hd,Q1 hx,Tys.ren,hn];cases Tys.ren (l.drop (j+1)) to<;>simp
theorem QeK {l:List Ty}{to:List Int}(hd:Tys.ren l to=(Tys.ren (l.drop j) to).map (us++·))(hj:l.length≤j):Tys.ren l to=some us:=by
 rw [hd,Fh hj,Tys.ren];simp
theorem Wi:∀(t:Ty),t.Short→∀{cx:Cx}{w:World}{L:List Res}{cs:List Value}{v2:Value}{to:List Int},Ku.at cx cs t→Kh.sl cx v2 to→St cx w L→
 Kf Tryz.prog z9 [.agg ⟨cs⟩,v2] w fun u w'=>∃c' ds,u= .tuple #[.agg ⟨ds⟩, .bool (t.ren to).isSome]∧cx.Le c'∧Ku.at c' ds ((t.ren to).getD (.mk 0 0 []))∧St c' w' L:=by
 intro t
 induction t using Hg with
 | h k r l ih=>
   intro hs cx w L cs v2 to ht hto hS;obtain ⟨v,rfl,hl⟩:=Qf ht;simp only [Ty.kind,Ty.r,Ty.l] at hl ht ⊢;obtain ⟨hlen,hsub⟩:=hs.parts;have hle:=FV hS;refine Kq Ko Tryz.func263 ?_;refine' KY;intro p2 w1 hS;refine Qd hS ?_;(intro p4 w1 hS);refine' KA;refine' Mn;refine' KZ;refine M9 [_,_,_] ?_;refine Qd hS ?_;(intro p6 w1 hS);((refine Kt hS ?_;intro w1 hS;have hS:=hS.ns));refine' zn;refine zM [1,2,4,6] (fun A ρ' w'=>∃(r2:Int),Kn ρ' A∧Kn ρ' []∧(Ty.ren (.mk k r l) to=(Tys.ren l to).map (Ty.mk k r2))∧St cx w' (blk p6 115 [.int .i64 k, .int .i64 r2, .slice none 0 0]::blk p4 115 [.int .i64 0, .int .i64 0, .slice none 0 0]::blk p2 115 [.int .i64 k, .int .i64 r,v]::L)) ?_ ?_
   · skip
     (refine' Mn;first|(refine' QO)|(refine' QU)|(refine' Ad<;>intro hc));all_goals (refine' zn)
     all_goals
      first
      | (refine' Ki
         (((refine' NH;first|(refine' KX)|(refine' K1)|(refine' Ae<;>intro hc));all_goals (refine' Md;refine' Mc;refine' NM;first|refine' Kj|(refine' Kl;(first|(refine' Ml)|(refine' MN)|(refine' Ag<;>intro hc)))));all_goals (refine' PQ;refine' PH;(first|refine' Kj|(refine' Kl;refine' Nj;intro b1 o1 cs1 x1 hat1 hx1 he1;obtain rfl:=QG he1));refine' iN;first|refine' Kj|(refine' Kl;(first|(refine' KX)|(refine' K1)|(refine' Ae<;>intro hc)))));all_goals (refine' Ll)
         all_goals
          first
          | (refine' Ki;all_goals (refine' Kv;refine L0 [_,_,_] ?_;refine Kt hS ?_;intro w1 hS;have hS:=hS.ns;refine' Mo;refine QY vw (Q2 (n:=3) Jk Jk (hS.blkAt fd) Jr Jr) vw ?_);all_goals (first|(rw [gp Jo];exact AF)|(rw [kb Jo hx1 Jo];exact AF)))
          | (refine' Kk;refine' Kx)
         refine' NP;refine' Nj;intro b2 o2 cs2 x2 hat2 hx2 he2;obtain rfl:=QG he2;refine' N0;refine' WR;intro w1 hS;have hS:=hS.ns;refine' zn)
      | (refine' Kk;refine' Kx)
     all_goals ((exact Aq))
   rintro ρ w1 ⟨r2,hA,hρ,hr,hS⟩;obtain ⟨ρ,rfl⟩:=Kp hA hρ;refine' NH;refine' Oh;refine zo [1,4,6,45,46] (fun A ρ' w'=>∃(k0:Cx) (j:Nat) (u:Value) (css:List (List Value)) (us:List Ty),Kn ρ' A∧Kn ρ' [(47, .int .i64 j)]∧(cx.Le k0)∧(j≤l.length)∧(us.length=j)∧(Tys.ren l to=(Tys.ren (l.drop j) to).map (us++·))∧(Ku.ls k0 css us)∧(oneC u=true)∧St k0 w' (sl 115 3 u css::blk p6 115 [.int .i64 k, .int .i64 r2,u]::blk p4 115 [.int .i64 0, .int .i64 0, .slice none 0 0]::blk p2 115 [.int .i64 k, .int .i64 r,v]::L)) (fun ρ' _=>(l.length - iv (ρ' 47)).toNat) ?_ ?_
   · exact BZ
   rintro ρ w1 ⟨k0,j,u,css,us,hA,hρ,hle2,hj,hus,hd,hls,hu,hS⟩;obtain ⟨ρ,rfl⟩:=Kp hA hρ;have hL0:=hle2;(try have hle:=hle.trans hle2);(try have hl:=hl.up hle2);(try have hto:=hto.up hle2);refine' MH;refine' Ab<;>intro hc
   · skip
     refine' WW;intro b3 o3 cs3 x3 hat3 hx3 he3;obtain ⟨vl3,rfl,hl3⟩:=Qf he3;refine' NN;intro p8 w1 hS;refine Kt hS ?_;intro w1 hS;have hS:=hS.ns;refine' Sr;refine' zm;refine' Kr (c:=ih _ (Fa hx3) (hsub _ (Fa hx3)) he3 hto hS);rintro v1 w1 ⟨c1,ds,rfl,hle2,hd1,hS⟩;obtain ⟨y,hy⟩:∃y,(x3.ren to).getD (.mk 0 0 [])=y:=⟨_,rfl⟩;rw [hy] at hd1;obtain ⟨v7,rfl,hv7⟩:=Qf hd1;(try have hle:=hle.trans hle2);(try have hL0:=hL0.trans hle2);(try have hls:=hls.up hle2);cases hg:x3.ren to;all_goals (refine' RT;intro p9 w1 hS;refine Kt hS ?_;intro w1 hS;have hS:=hS.ns;refine' OX;refine' Nv)
     all_goals
      first
      | (refine' Ki;refine' Kv;refine L0 [_,_,_] ?_;refine Kt hS ?_;intro w1 hS;have hS:=hS.ns;refine' Mo;refine QY vw (Q2 (n:=3) Jk Jk (hS.blkAt fd) Jr Jr) vw ?_;first|(rw [gp Jo];exact AF)|(rw [kb Jo hx1 Jo];exact AF)|(rw [hr,qs hd hx3 hg];exact AF))
      | (refine' Kk;refine' Kx)
     refine' Uc;refine zv hS ?_;refine K8 hS [_,_,_] ?_;intro b1 w1 hS;refine za PV Ra hS ?_;intro vp1 w1 css1 hls1 hv1 hS;have hS:=hS.ns;refine' WR;intro w1 hS;have hS:=hS.ns;refine' Rr;(exact C2)
   · skip;refine' L8;refine' MU;refine Kt hS ?_;intro w1 hS;have hS:=hS.ns;refine' Mo;refine QY vw (Q2 (n:=3) Jk Jk (hS.blkAt fd) Jr Jr) vw ?_;(exact Am)
theorem qT:∀(t:Ty),t.Short→∀{cx:Cx}{w:World}{L:List Res}{cs:List Value}{v2:Value}{to:List Int},Ku.at cx cs t→Kh.sl cx v2 to→St cx w L→
 Kf Tryz.prog yS [.agg ⟨cs⟩,v2] w fun u w'=>∃c' ds,u= .tuple #[.agg ⟨ds⟩, .bool (t.ren to).isSome]∧cx.Le c'∧Ku.at c' ds ((t.ren to).getD (.mk 0 0 []))∧St c' w' L:=by
 intro t
 induction t using Hg with
 | h k r l ih=>
   intro hs cx w L cs v2 to ht hto hS;obtain ⟨v,rfl,hl⟩:=Qf ht;simp only [Ty.kind,Ty.r,Ty.l] at hl ht ⊢;obtain ⟨hlen,hsub⟩:=hs.parts;have hle:=FV hS;refine Kq Ko Tryz.func155 ?_;refine' KY;intro p2 w1 hS;refine Qd hS ?_;(intro p4 w1 hS);refine' KA;refine' Mn;refine' KZ;refine M9 [_,_,_] ?_;refine Qd hS ?_;(intro p6 w1 hS);((refine Kt hS ?_;intro w1 hS;have hS:=hS.ns));refine' zn;refine zM [1,2,4,6] (fun A ρ' w'=>∃(r2:Int),Kn ρ' A∧Kn ρ' []∧(Ty.ren (.mk k r l) to=(Tys.ren l to).map (Ty.mk k r2))∧St cx w' (blk p6 115 [.int .i64 k, .int .i64 r2, .slice none 0 0]::blk p4 115 [.int .i64 0, .int .i64 0, .slice none 0 0]::blk p2 115 [.int .i64 k, .int .i64 r,v]::L)) ?_ ?_
   · skip
     (refine' Mn;first|(refine' QO)|(refine' QU)|(refine' Ad<;>intro hc));all_goals (refine' zn)
     all_goals
      first
      | (refine' Ki
         ((refine' NH;first|(refine' KX)|(refine' K1)|(refine' Ae<;>intro hc));all_goals (refine' Md;refine' Mc;refine' NM;first|refine' Kj|(refine' Kl;(first|(refine' Ml)|(refine' MN)|(refine' Ag<;>intro hc)))));all_goals (refine' Ll)
         all_goals
          first
          | (refine' Ki;all_goals (refine' Kv;refine L0 [_,_,_] ?_;refine Kt hS ?_;intro w1 hS;have hS:=hS.ns;refine' Mo;refine QY vw (Q2 (n:=3) Jk Jk (hS.blkAt fd) Jr Jr) vw ?_);all_goals (rw [gp Jo];exact AF))
          | (refine' Kk;refine' Kx)
         (refine' P6;refine' Nj;intro b1 o1 cs1 x1 hat1 hx1 he1;obtain rfl:=QG he1;refine' N0;first|(refine' KX)|(refine' K1)|(refine' Ae<;>intro hc));all_goals (refine' zn)
         all_goals
          first
          | (refine' Ki;refine' Kv;refine L0 [_,_,_] ?_;refine Kt hS ?_;intro w1 hS;have hS:=hS.ns;refine' Mo;refine QY vw (Q2 (n:=3) Jk Jk (hS.blkAt fd) Jr Jr) vw ?_;first|(rw [gp Jo];exact AF)|(rw [kb Jo hx1 Jo];exact AF))
          | (refine' Kk;refine' Kx)
         refine' NP;refine' Nj;intro b2 o2 cs2 x2 hat2 hx2 he2;obtain rfl:=QG he2;refine' N0;refine' WR;intro w1 hS;have hS:=hS.ns;refine' zn)
      | (refine' Kk;refine' Kx)
     all_goals ((exact Aq))
   rintro ρ w1 ⟨r2,hA,hρ,hr,hS⟩;obtain ⟨ρ,rfl⟩:=Kp hA hρ;refine' NO;refine zo [1,2,4,6] (fun A ρ' w'=>∃(k0:Cx) (j:Nat) (u:Value) (css:List (List Value)) (us:List Ty),Kn ρ' A∧Kn ρ' [(7, .int .i64 j)]∧(cx.Le k0)∧(j≤l.length)∧(us.length=j)∧(Tys.ren l to=(Tys.ren (l.drop j) to).map (us++·))∧(Ku.ls k0 css us)∧(oneC u=true)∧St k0 w' (sl 115 3 u css::blk p6 115 [.int .i64 k, .int .i64 r2,u]::blk p4 115 [.int .i64 0, .int .i64 0, .slice none 0 0]::blk p2 115 [.int .i64 k, .int .i64 r,v]::L)) (fun ρ' _=>(l.length - iv (ρ' 7)).toNat) ?_ ?_
   · exact BZ
   rintro ρ w1 ⟨k0,j,u,css,us,hA,hρ,hle2,hj,hus,hd,hls,hu,hS⟩;obtain ⟨ρ,rfl⟩:=Kp hA hρ;have hL0:=hle2;(try have hle:=hle.trans hle2);(try have hl:=hl.up hle2);(try have hto:=hto.up hle2);refine' Uf;refine' Ab<;>intro hc
   · skip
     refine' L4;refine' Ue;intro b3 o3 cs3 x3 hat3 hx3 he3;obtain ⟨vl3,rfl,hl3⟩:=Qf he3;refine' Oa;refine' zm;refine' Kr (c:=ih _ (Fa hx3) (hsub _ (Fa hx3)) he3 hto hS);rintro v1 w1 ⟨c1,ds,rfl,hle2,hd1,hS⟩;obtain ⟨y,hy⟩:∃y,(x3.ren to).getD (.mk 0 0 [])=y:=⟨_,rfl⟩;rw [hy] at hd1;obtain ⟨v7,rfl,hv7⟩:=Qf hd1;(try have hle:=hle.trans hle2);(try have hL0:=hL0.trans hle2);(try have hls:=hls.up hle2);cases hg:x3.ren to;all_goals (refine' RT;intro p8 w1 hS;refine Kt hS ?_;intro w1 hS;have hS:=hS.ns;refine' OX;refine' Nv)
     all_goals
      first
      | (refine' Ki;refine' Kv;refine L0 [_,_,_] ?_;refine Kt hS ?_;intro w1 hS;have hS:=hS.ns;refine' Mo;refine QY vw (Q2 (n:=3) Jk Jk (hS.blkAt fd) Jr Jr) vw ?_;first|(rw [gp Jo];exact AF)|(rw [kb Jo hx1 Jo];exact AF)|(rw [hr,qs hd hx3 hg];exact AF))
      | (refine' Kk;refine' Kx)
     refine' Uc;refine zv hS ?_;refine K8 hS [_,_,_] ?_;intro b1 w1 hS;refine za PV Ra hS ?_;intro vp1 w1 css1 hls1 hv1 hS;have hS:=hS.ns;refine' WR;intro w1 hS;have hS:=hS.ns;refine' zn;refine' Mt;(exact C2)
   · skip;refine' L8;refine' MU;refine Kt hS ?_;intro w1 hS;have hS:=hS.ns;refine' Mo;refine QY vw (Q2 (n:=3) Jk Jk (hS.blkAt fd) Jr Jr) vw ?_;(exact Am)
end
section
attribute [local irreducible] Kz LY Mv M6
section
variable {P:Program}{l:List GO}{Q:QT}{ρ:KI}
variable {cx:Cx}{w:World}{L:List Res}
structure JP where
 sp:Nat
 hp:Nat
 f:Fun
 vm:Value
 vp:Value
 vr:Value
 vb:Value
structure JP.Fits (j:JP) (cx:Cx) (m:Module):Prop where
 m:KD.sl cx j.vm m.funcs
 p:Ku.sl cx j.vp j.f.params
 r:Ku.sl cx j.vr j.f.results
 b:Lm.sl cx j.vb j.f.blocks
theorem JP.Fits.up {j:JP}{cx cx':Cx}(h:j.Fits cx m)(hle:cx.Le cx'):j.Fits cx' m:=⟨h.m.up hle,h.p.up hle,h.r.up hle,h.b.up hle⟩
@[reducible] def JP.cells (j:JP)(vl:Value):List Value:=[.pointer (some ⟨j.hp,0,none⟩),j.vm, .int .i64 j.f.regs,j.vp,j.vr,j.vb,vl]
def JP.res (j:JP)(h:List Bool)(vl:Value)(css:List (List Value)):Res:=star (blk j.sp 258 (j.cells vl)) (star (Zk j.hp h) (sl 115 3 vl css))
variable {j:JP}{h:List Bool}{vl:Value}{css:List (List Value)}
theorem JP.opn (hS:St cx w L)(hi:nth L i=some (j.res h vl css)):St cx w (blk j.sp 258 (j.cells vl)::Zk j.hp h::sl 115 3 vl css::L.eraseIdx i):=by
 have h1:=(hS.out hi).star;exact (Jx (h1.mv1)).mv2
abbrev HX:=@JP.opn
theorem JP.cls {h':List Bool}{vl':Value}{css':List (List Value)}(hi:nth L i=some (j.res h vl css))(hS:St cx w (blk j.sp 258 (j.cells vl')::Zk j.hp h'::sl 115 3 vl' css'::L.eraseIdx i)):St cx w (L.set i (j.res h' vl' css')):=by
 have h1:St cx w (star (Zk j.hp h') (sl 115 3 vl' css')::blk j.sp 258 (j.cells vl')::L.eraseIdx i):=HF (hS.mv2.mv2);exact Gn (HF h1.mv1) hi
theorem JP.cls0 (hi:nth L i=some (j.res h vl css))(hS:St cx w (blk j.sp 258 (j.cells vl)::Zk j.hp h::sl 115 3 vl css::L.eraseIdx i)):St cx w L:=by
 have h1:St cx w (star (Zk j.hp h) (sl 115 3 vl css)::blk j.sp 258 (j.cells vl)::L.eraseIdx i):=HF (hS.mv2.mv2);exact FK (HF h1.mv1) hi
abbrev Is:=@JP.cls0
theorem Ro {o:Nat}{x:Operand}(hS:St cx w L)(hx:ρ.ev x= .pointer (some ⟨j.sp,o,none⟩))(hi:nth L i=some (j.res h vl css))(hu:(j.cells vl)[o]?=some u)(h:Q0 P l Q (upd ρ d u) w):Q0 P (⟨none, .load1 d x⟩::l) Q ρ w:=
 QX (HX hS hi) hx KU hu h
theorem mr {n o:Nat}{x:Operand}{us:List Value}(hS:St cx w L)(hx:ρ.ev x= .pointer (some ⟨j.sp,o,none⟩))(hi:nth L i=some (j.res h vl css))(hu:((j.cells vl).drop o).take n=us)(hl:us.length=n)(h:Q0 P l Q (upd ρ d (.agg ⟨us⟩)) w):Q0 P (⟨none, .loadn d n x⟩::l) Q ρ w:=
 nC (HX hS hi) hx KU hu hl h
theorem Q1x {o:Nat}{x:Operand}(hS:St cx w L)(hx:ρ.ev x= .pointer (some ⟨j.sp,o,none⟩))(hi:nth L i=some (j.res h vl css))(hu:(j.cells vl)[o]?=some u):Nr P ρ w ⟨none, .load1 d x⟩ u:=QZ (HX hS hi) hx KU hu
theorem gy {n:Nat}{x:Operand}(hS:St cx w L)(hi:nth L i=some (j.res h vl css))(hx:ρ.ev x=vl)(hn:css.length=n)(h:Q0 P l Q (upd ρ d (.int .i64 n)) w):Q0 P (⟨none, .len d x⟩::l) Q ρ w:=
 QL (HX hS hi) hx Ni hn h
end
variable {cx:Cx}{w:World}{L:List Res}{j:JP}{h:List Bool}{vl:Value}{css:List (List Value)}{i:Nat}{m:Module}
theorem Wj {r:Int}(hS:St cx w L)(hi:nth L i=some (j.res h vl css)):Kf Tryz.prog vM [.pointer (some ⟨j.hp,0,none⟩), .int .i64 r] w fun u w'=>u= .bool (Kz h r)∧St cx w' L:=by
 obtain ⟨v,h2⟩:=gx (HX hS hi).mv1;refine (Wg h2).mono ?_;rintro u w' ⟨h3,h4⟩;exact ⟨h3,Is hi (eC h4).mv1⟩
theorem Wk (hS:St cx w L)(hi:nth L i=some (j.res h vl css)):Kf Tryz.prog vI [.pointer (some ⟨j.hp,0,none⟩)] w fun u w'=>u= .int .i64 h.length∧St cx w' L:=by
 obtain ⟨v,h2⟩:=gx (HX hS hi).mv1;refine (kE h2).mono ?_;rintro u w' ⟨h3,h4⟩;exact ⟨h3,Is hi (eC h4).mv1⟩
theorem Zl (hl:h.length≤16)(hS:St cx w L)(hi:nth L i=some (j.res h vl css)):Kf Tryz.prog vL [.pointer (some ⟨j.hp,0,none⟩)] w fun u w'=>∃c',cx.Le c'∧Kh.sl c' u (LY h)∧St c' w' L:=by
 obtain ⟨v,h2⟩:=gx (HX hS hi).mv1;refine (Wh hl h2).mono ?_;rintro u w' ⟨c',h3,h5,h4⟩;exact ⟨c',h3,h5,Is hi (eC h4).mv1⟩
theorem Zm (hl:h.length<16)(hS:St cx w L)(hi:nth L i=some (j.res h vl css)):Kf Tryz.prog vJ [.pointer (some ⟨j.hp,0,none⟩)] w fun u w'=>u= .int .i64 h.length∧St cx w' (L.set i (j.res (h++[true]) vl css)):=by
 obtain ⟨v,h2⟩:=gx (HX hS hi).mv1;refine (eD hl h2).mono ?_;rintro u w' ⟨h3,v',h4⟩;exact ⟨h3,JP.cls hi (eC h4).mv1⟩
theorem Zn {r:Int}(hr:Kz h r=true)(hS:St cx w L)(hi:nth L i=some (j.res h vl css)):Kf Tryz.prog vK [.pointer (some ⟨j.hp,0,none⟩), .int .i64 r] w fun u w'=>u= .bool true∧St cx w' (L.set i (j.res (h.set r.toNat false) vl css)):=by
 obtain ⟨v,h2⟩:=gx (HX hS hi).mv1;refine (eE hr h2).mono ?_;rintro u w' ⟨h3,h4⟩;exact ⟨h3,JP.cls hi (eC h4).mv1⟩
theorem Zo (hl:h.length≤16)(hx:Kh.sl cx v2 xs)(hS:St cx w L)(hi:nth L i=some (j.res h vl css)):Kf Tryz.prog vN [.pointer (some ⟨j.hp,0,none⟩),v2] w fun u w'=>u= .int .i64 (Mv h [] xs)∧St cx w' L:=by
 obtain ⟨v,h2⟩:=gx (HX hS hi).mv1;refine (eF hl hx h2).mono ?_;rintro u w' ⟨h3,c',h5,h4⟩;exact ⟨h3,Gx (Is hi (eC h4).mv1) h5⟩

@[reducible] def R6 (c:Int):Value:= .iface 297 (.int .i64 c)
theorem Rz (hS:St cx w L):Kf Tryz.prog qS [.bool false, .int .i64 c] w fun u w'=>u= .tuple #[]∧St cx w' L:=by
 refine Kq Ko Tryz.func240 ?_;refine' LM;refine' Pj;refine' LJ;exact Az
theorem RB (hS:St cx w L):Ky Tryz.prog qS [.bool true, .int .i64 c] w (fun _ _=>False) (fun u w'=>u=R6 c∧St cx w' L):=by
 unfold Ky;refine Kq Ko Tryz.func240 ?_;refine' LM;refine' Ki;refine' LV;refine' lA;refine lq rfl ?_;(repeat (refine' fS));refine' Qe;exact A5
theorem Wl {b:Bool}(hS:St cx w L):Ky Tryz.prog qS [.bool b, .int .i64 c] w (fun u w'=>u= .tuple #[]∧b=false∧St cx w' L) (fun u w'=>u=R6 c∧b=true∧St cx w' L):=by
 cases b with
 | false=>exact ((Rz hS).mono fun u w' h=>(⟨h.1,rfl,h.2⟩:u= .tuple #[]∧false=false∧St cx w' L)).ends
 | true=>exact (RB hS).mono (fun _ _ h=>h.elim) (fun _ _ h=>⟨h.1,rfl,h.2⟩)
theorem gz {s:JS}{k:Int}(hls:Ku.ls cx css s.l)(hS:St cx w L)(hi:nth L i=some (j.res h vl css)):Ky Tryz.prog Q7u [.pointer (some ⟨j.sp,0,none⟩), .int .i64 k] w
 (fun u w'=>∃t cs,Lw s k= .ok t∧u= .agg ⟨cs⟩∧Ku.at cx cs t∧St cx w' L) (fun u w'=>∃c,Lw s k= .error c∧u=R6 c∧St cx w' L):=by
 (((have hlc:=hls.1;have hS:=HX hS hi;unfold Ky;refine Kq Ko Tryz.func247 ?_;refine' OU;intro p4 w1 hS;refine' LN;first|(refine' KX)|(refine' K1)|(refine' Ae<;>intro hc));all_goals (refine' Sm;refine' Sp;(first|refine' Kj|(refine' Kl;refine QL hS vw fd hlc ?_));first|refine' Kj|(refine' Kl;(first|(refine' Ml)|(refine' MN)|(refine' Ag<;>intro hc)))));all_goals (refine' Lu;first|(refine' Kr (c:=Rz hS);rintro v1 w1 ⟨rfl,hS⟩)|(refine KH (c:=RB hS) (p:=by rintro v9 w9 ⟨rfl,hS⟩;(repeat (first|refine' Q6|refine' Q8|refine fun _=>?_));refine' Qe;refine .inr ⟨_,rfl,?_⟩;first|(exact ⟨_,al Jo,rfl,(Is hi hS.sp)⟩)) (h:=fun _ _ h=>h.elim))));refine' L5;obtain ⟨t,ht⟩:∃t,s.l[k.toNat]?=some t:=⟨_,E7 Jo⟩;obtain ⟨d,hd,hrd⟩:=hls.2 _ _ ht;obtain ⟨vd,rfl,hld⟩:=Qf hrd;refine' So;refine' zm;(first|(refine' Nj;intro b1 o1 cs1 x1 hat1 hx1 he1;obtain ⟨vl1,rfl,hl1⟩:=Qf he1)|(refine PE hS ?_;intro b1 o1 hel1)|(refine XS hS ?_;intro b1 o1 hel1));refine bu hS hel1 rfl fd rfl hd ?_;refine Kt hS ?_;intro w1 hS;have hS:=hS.ns;refine' Lz;refine LF vw (Q2 (n:=3) Jk Jk (hS.blkAt fd) Jr Jr) ?_;(exact .inl ⟨_,rfl,t,_,YN Jo ht,rfl,hrd,(Is hi hS.sp)⟩)
theorem Zp {s:JS}{k:Int}(hls:Ku.ls cx css s.l)(hS:St cx w L)(hi:nth L i=some (j.res h vl css)):Ky Tryz.prog Q8i [.pointer (some ⟨j.sp,0,none⟩), .int .i64 k, .int .i64 kd] w
 (fun u w'=>∃t cs,KB s k kd= .ok t∧u= .agg ⟨cs⟩∧Ku.at cx cs t∧St cx w' L) (fun u w'=>∃c,KB s k kd= .error c∧u=R6 c∧St cx w' L):=by
 ((have hS:=hS.out hi;unfold Ky KB;refine Kq Ko Tryz.func239 ?_;refine' OU;intro p6 w1 hS;refine' Uj;refine KH (c:=gz hls hS fd) (p:=by rintro v9 w9 ⟨c,h1,rfl,hS⟩;(repeat (first|refine' Q6|refine' Q8|refine fun _=>?_));refine' Qe;refine .inr ⟨_,rfl,?_⟩;exact BP) (h:=?_);rintro v1 w1 ⟨t,cs,h1,rfl,hrd,hS⟩;have hrd':=hrd;obtain ⟨vd,rfl,hld⟩:=Qf hrd;refine Qd hS ?_;intro p7 w1 hS;refine Kt hS ?_;intro w1 hS;have hS:=hS.ns;refine' NA;refine' zm;first|(refine' QO)|(refine' QU)|(refine' Ad<;>intro hc));all_goals (first|(refine' Kr (c:=Rz hS);rintro v1 w1 ⟨rfl,hS⟩)|(refine KH (c:=RB hS) (p:=by rintro v9 w9 ⟨rfl,hS⟩;(repeat (first|refine' Q6|refine' Q8|refine fun _=>?_));refine' Qe;refine .inr ⟨_,rfl,?_⟩;first|(exact ⟨_,(Q3 h1).trans (if_pos Jo),rfl,(FK hS.sp hi)⟩)) (h:=fun _ _ h=>h.elim))));refine' Sr;refine Kt hS ?_;intro w1 hS;have hS:=hS.ns;refine' Lz;refine LF vw (Q2 (n:=3) Jk Jk (hS.blkAt fd) Jr Jr) ?_;(exact .inl ⟨_,rfl,t,_,(Q3 h1).trans (if_neg Jo),rfl,hrd',(FK hS.sp hi)⟩)
theorem W9 {s:JS}{k:Int}(hls:Ku.ls cx css s.l)(hS:St cx w L)(hi:nth L i=some (j.res s.h vl css)):Ky Tryz.prog Qa3 [.pointer (some ⟨j.sp,0,none⟩), .int .i64 k, .int .i64 kd] w
 (fun u w'=>∃t cs,Lr s k kd= .ok t∧u= .agg ⟨cs⟩∧Ku.at cx cs t∧St cx w' L) (fun u w'=>∃c,Lr s k kd= .error c∧u=R6 c∧St cx w' L):=by
 have hS:=hS.out hi;unfold Ky Lr;refine Kq Ko Tryz.func243 ?_;refine' OU;intro p6 w1 hS;refine' Uj;refine' zm;refine MG (c:=Zp hls hS fd) (p:=by rintro v9 w9 ⟨c,h1,rfl,hS⟩;(repeat (first|refine' Q6|refine' Q8|refine fun _=>?_));refine' Qe;refine .inr ⟨_,rfl,?_⟩;exact BP) (h:=?_);rintro v1 w1 ⟨t,cs,h1,rfl,hrd,hS⟩;have hrd':=hrd;obtain ⟨vd,rfl,hld⟩:=Qf hrd;refine Qd hS ?_;intro p7 w1 hS;refine Kt hS ?_;intro w1 hS;have hS:=hS.ns;refine' L5;refine zD (ci 9 [6,8]) ?_;have hS:=hS.drew;refine' zm;refine' bN;refine' MD;refine' Kr (c:=Wj hS fd);rintro v1 w1 ⟨rfl,hS⟩;refine' PC;(first|(refine' Kr (c:=Rz hS);rintro v1 w1 ⟨rfl,hS⟩)|(refine KH (c:=RB hS) (p:=by rintro v9 w9 ⟨rfl,hS⟩;(repeat (refine' Q6));refine' Qe;refine .inr ⟨_,rfl,?_⟩;first|(exact CS)) (h:=fun _ _ h=>h.elim))|(refine KH (c:=Wl hS) (p:=by rintro v9 w9 ⟨rfl,hb,hS⟩;(repeat (first|refine' Q6|refine' Q8|refine fun _=>?_));refine' Qe;refine .inr ⟨_,rfl,?_⟩;first|(exact CS)) (h:=?_);rintro v1 w1 ⟨rfl,hb,hS⟩));refine' Sr;refine Kt hS ?_;intro w1 hS;have hS:=hS.ns;refine' Lz;refine LF vw (Q2 (n:=3) Jk Jk (hS.blkAt fd) Jr Jr) ?_;(exact .inl ⟨_,rfl,t,_,(Q3 h1).trans (if_neg DG),rfl,hrd',(FK hS.sp hi)⟩)
end
section
attribute [local irreducible] Kz LY Mv M6
variable {cx:Cx}{w:World}{L:List Res}{j:JP}{h:List Bool}{vl:Value}{css:List (List Value)}{i:Nat}{m:Module}
theorem Zq {s:JS}{t:Ty}(hn:s.l.length≤100000)(ht:Ku.at cx cs t)(hls:Ku.ls cx css s.l)(hS:St cx w L)(hi:nth L i=some (j.res h vl css)):Ky Tryz.prog Q9b [.pointer (some ⟨j.sp,0,none⟩), .agg ⟨cs⟩] w
 (fun u w'=>u= .tuple #[]∧s.l.length≠80∧∃vl' css',Ku.ls cx css' (s.l++[t])∧St cx w' (L.set i (j.res h vl' css'))) (fun u w'=>u=R6 2∧s.l.length=80∧St cx w' L):=by
 ((have hlc:=hls.1;have hS:=HX hS hi;have ht':=ht;obtain ⟨vd,rfl,hld⟩:=Qf ht;have hz:Ku.at cx [.int .i64 0, .int .i64 0, .slice none 0 0] (.mk 0 0 []):=PB (Gj _ _ _);unfold Ky;refine Kq Ko Tryz.func238 ?_;refine' KY;intro p3 w1 hS;refine' LN;refine' Mf;refine QL hS vw fd hlc ?_;first|(refine' Ql)|(refine' Qp)|(refine' Ac<;>intro hc));all_goals (first|(refine' Kr (c:=Rz hS);rintro v1 w1 ⟨rfl,hS⟩)|(refine KH (c:=RB hS) (p:=by rintro v9 w9 ⟨rfl,hS⟩;(repeat (first|refine' Q6|refine' Q8|refine fun _=>?_));refine' Qe;refine .inr ⟨_,rfl,?_⟩;first|(exact ⟨rfl,Jo,(Is hi hS.sp)⟩)) (h:=fun _ _ h=>h.elim))));refine' zn;refine OK 9 12 Jk ?_ ?_
 · skip;refine zC [(0,none),(1,none),(2,none),(3,none),(4,none),(5,none),(6,some (some [3,4])),(7,some none),(8,none),(10,none),(11,none),(9,some (some [])),(12,some none)] ?_;have hS:=hS.drew;refine' Pk;refine' Nu;refine' S1;refine QL hS vw fd hlc ?_;refine' Lp;refine K8 hS [_,_,_] ?_;intro b1 w1 hS;refine' Ly;refine za PV Ra hS ?_;intro vp1 w1 css1 hls1 hv1 hS;have hS:=hS.ns;refine' KO;have hl1:=hls1.1;rw [Fc,Fk,FF] at hl1;obtain ⟨d1,hd1,_⟩:=hls1.2 s.l.length (.mk 0 0 []) Js;(first|(refine' Nj;intro b1 o1 cs1 x1 hat1 hx1 he1;obtain ⟨vl1,rfl,hl1⟩:=Qf he1)|(refine PE hS ?_;intro b1 o1 hel1));refine' KO;refine' Nb;refine' MA;refine' Lp;refine nE hS hel1 rfl rfl rfl fd rfl hd1 rfl (Ku.one ht') ?_;intro w3 hS;have hS:=hS.ns;refine' Ly;refine LU hS ?_;intro w1 hS;have hS:=hS.ns;refine' Z4;have hls2:=J4 (i:=s.l.length) hls1 ht';rw [GC _ _ (FE _),Hk,Fi] at hls2;exact CM
 · skip;refine zC [(0,none),(1,none),(2,none),(3,none),(4,none),(5,none),(6,some (some [3,4])),(7,some none),(8,none),(10,none),(11,none),(12,some (some [])),(9,some (some []))] ?_;have hS:=hS.drew;refine' Pk;refine' Nu;refine' S1;refine QL hS vw fd hlc ?_;refine' Lp;refine K8 hS [_,_,_] ?_;intro b1 w1 hS;refine' Ly;refine za PV Ra hS ?_;intro vp1 w1 css1 hls1 hv1 hS;have hS:=hS.ns;refine' KO;have hl1:=hls1.1;rw [Fc,Fk,FF] at hl1;obtain ⟨d1,hd1,_⟩:=hls1.2 s.l.length (.mk 0 0 []) Js;(first|(refine' Nj;intro b1 o1 cs1 x1 hat1 hx1 he1;obtain ⟨vl1,rfl,hl1⟩:=Qf he1)|(refine PE hS ?_;intro b1 o1 hel1));refine' KO;refine' Nb;refine' MA;refine' Lp;refine LU hS ?_;intro w1 hS;have hS:=hS.ns;refine' Li;refine nE hS hel1 rfl rfl rfl fd rfl hd1 rfl (Ku.one ht') ?_;intro w3 hS;have hS:=hS.ns;refine' lG;refine' ly;refine' LJ;have hls2:=J4 (i:=s.l.length) hls1 ht';rw [GC _ _ (FE _),Hk,Fi] at hls2;exact CM
theorem mu {t:Ty}{k:Int}(hk:0≤k)(ht:Ku.at cx cs t)(hS:St cx w L):Ky Tryz.prog Q7w [.pointer (some ⟨j.sp,0,none⟩), .agg ⟨cs⟩, .int .i64 k] w
 (fun u w'=>∃t' cs',O8 t k= .ok t'∧u= .agg ⟨cs'⟩∧Ku.at cx cs' t'∧St cx w' L) (fun u w'=>∃c,O8 t k= .error c∧u=R6 c∧St cx w' L):=by
 ((obtain ⟨vd,rfl,hld⟩:=Qf ht;unfold Ky O8;refine Kq Ko Tryz.func246 ?_;refine' KY;intro p4 w1 hS;refine Qd hS ?_;intro p6 w1 hS;refine' LN;refine' KZ;refine' zL;first|(refine' Ml)|(refine' MN)|(refine' Ag<;>intro hc));all_goals (first|(refine' Kr (c:=Rz hS);rintro v1 w1 ⟨rfl,hS⟩)|(refine KH (c:=RB hS) (p:=by rintro v9 w9 ⟨rfl,hS⟩;(repeat (first|refine' Q6|refine' Q8|refine fun _=>?_));refine' Qe;refine .inr ⟨_,rfl,?_⟩;first|(exact ⟨_,by rw [FI Jo],rfl,hS.sp⟩)) (h:=fun _ _ h=>h.elim))));refine' NA;refine' zm;refine fJ vw rfl hld rfl hk Jo ?_;intro b1 o1 cs1 x1 hat1 hx1 he1;have he1':=he1;obtain ⟨vl1,rfl,hl1⟩:=Qf he1;refine' Oa;refine Kt hS ?_;intro w1 hS;have hS:=hS.ns;refine' Lz;refine LF vw (Q2 (n:=3) Jk Jk (hS.blkAt fd) Jr Jr) ?_;(exact .inl ⟨_,rfl,x1,_,by rw [hx1],rfl,he1',hS.sp⟩)
theorem qU {s:JS}{v1 v3:Value}(hsh:∀t∈want,t.Short)(hls:Ku.ls cx css s.l)(h1:Kh.sl cx v1 l)(h2:Ku.sl cx v2 want)(h3:Kh.sl cx v3 regs)(hS:St cx w L)(hi:nth L i=some (j.res h vl css)):
 Ky Tryz.prog Q8k [.pointer (some ⟨j.sp,0,none⟩),v1,v2,v3] w
 (fun u w'=>OF s l want regs= .ok ()∧u= .tuple #[]∧St cx w' L) (fun u w'=>∃c,OF s l want regs= .error c∧u=R6 c∧St cx w' L):=by
 ((have hl1:=h1.len;have hl2:=h2.len;have hS:=hS.out hi;have hle:=FV hS;unfold Ky OF;refine Kq Ko Tryz.func250 ?_;refine' KP;refine' zL;refine' zm;refine' zL;first|(refine' QO)|(refine' QU)|(refine' Ad<;>intro hc));all_goals (first|(refine' Kr (c:=Rz hS);rintro v1 w1 ⟨rfl,hS⟩)|(refine KH (c:=RB hS) (p:=by rintro v9 w9 ⟨rfl,hS⟩;(repeat (first|refine' Q6|refine' Q8|refine fun _=>?_));refine' Qe;refine .inr ⟨_,rfl,?_⟩;first|(exact BG)|(exact BB)|(exact Bv)) (h:=fun _ _ h=>h.elim))));refine' LN;refine' Oh;refine MB hS [0,2,3,19,20] (fun A LL ρ' w'=>∃(k0:Cx) (q:Nat),Kn ρ' A∧Kn ρ' [(21, .int .i64 q)]∧(cx.Le k0)∧(q≤l.length)∧(NT s regs l want=NT s regs (l.drop q) (want.drop q))∧(want.length=l.length)∧St k0 w' (LL)) (fun ρ' _=>(l.length - iv (ρ' 21)).toNat) ?_ ?_
 · exact ⟨cx,0,zh,zh,FV hS,Jo,by rfl,Jo,hS.sp⟩
 rintro ρ w1 ⟨k0,q,hA,hρ,hle2,hq,hd,hw,hS⟩;obtain ⟨ρ,rfl⟩:=Kp hA hρ;have hL0:=hle2;(try have hle:=hle.trans hle2);(try have hls:=hls.up hle2);(try have h1:=h1.up hle2);(try have h2:=h2.up hle2);(try have h3:=h3.up hle2);refine' MH;refine' Ab<;>intro hc
 · skip;refine' Kx;refine QA ?_;refine' WL;refine QA ?_;refine' LS;refine' zm;(first|(refine TY vw rfl h2 rfl Jo ?_);intro b2 o2 cs2 x2 hat2 hx2 he2;have he2':=he2;obtain ⟨vl2,rfl,hl2⟩:=Qf he2|(refine' zi;intro b1 o1 cs1 x1 hat1 hx1 he1;obtain rfl:=QG he1));refine' N0;refine' zm;refine' zm;refine' zn;refine QA ?_;refine' LS;refine' zm;refine' zm;refine KH (c:=gz hls hS fd) (p:=by rintro v9 w9 ⟨c,g1,rfl,hS⟩;(repeat (first|refine' Q6|refine' Q8|refine fun _=>?_));refine' Qe;refine .inr ⟨_,rfl,?_⟩;exact ⟨_,by rw [if_neg Jo,hd];exact l3 hx1 (E7 Jo) g1,rfl,Gx (FK hS.sp hi) hL0⟩) (h:=?_);rintro v1 w1 ⟨t,cs,g1,rfl,hrd,hS⟩;have hrd':=hrd;obtain ⟨vd,rfl,hld⟩:=Qf hrd;refine Qd hS ?_;intro p10 w1 hS;refine Kt hS ?_;intro w1 hS;have hS:=hS.ns;refine' zn;refine QA ?_;refine' LS;refine' zm;refine' zm;refine TY vw rfl h2 rfl Jo ?_;intro b2 o2 cs2 x2 hat2 hx2 he2;have he2':=he2;obtain ⟨vl2,rfl,hl2⟩:=Qf he2;refine' Oa;refine' zm;refine' Kr (c:=Wi x2 (hsh x2 (Fa hx2)) he2' h3 hS);rintro v1 w1 ⟨c3,ds,rfl,hle2,hu3,hS⟩;(try have hle:=hle.trans hle2);(try have hL0:=hL0.trans hle2);(try have hl2:=hl2.up hle2);(try have he2:=he2.up hle2);(try have hls:=hls.up hle2);(try have h1:=h1.up hle2);(try have h2:=h2.up hle2);(try have h3:=h3.up hle2);have hrd':=JO hrd' hle2;cases hn:x2.ren regs<;>rw [hn] at hu3<;>simp only [Option.getD_none,GS] at hu3<;>(have hu3':=hu3)<;>obtain ⟨vu,rfl,hlu⟩:=Qf hu3;(all_goals (refine' RT;intro p11 w1 hS;refine Kt hS ?_;intro w1 hS;have hS:=hS.ns;refine' KA;refine' LV;refine' PC;refine' zm;refine' iQ;refine' iQ;(first|(refine' Kj)|(refine' Kl;refine' Kr (c:=je _ _ hrd' hu3' hS);rintro v1 w1 ⟨rfl,hS⟩));refine' PG;refine' Lu;first|(refine' Kr (c:=Rz hS);rintro v1 w1 ⟨rfl,hS⟩)|(refine KH (c:=RB hS) (p:=by rintro v9 w9 ⟨rfl,hS⟩;(repeat (first|refine' Q6|refine' Q8|refine fun _=>?_));refine' Qe;refine .inr ⟨_,rfl,?_⟩;first|(exact BG)|(exact BB)|(exact Bv)) (h:=fun _ _ h=>h.elim))|(refine KH (c:=Wl hS) (p:=by rintro v9 w9 ⟨rfl,hb,hS⟩;(repeat (first|refine' Q6|refine' Q8|refine fun _=>?_));refine' Qe;refine .inr ⟨_,rfl,?_⟩;first|(exact BG)|(exact BB)|(exact Bv)) (h:=?_);rintro v1 w1 ⟨rfl,hb,hS⟩)));refine' Rr;(exact ⟨⟨_,q+1,zh,zh,hL0,Jo,by rw [hd,tR hx1 hx2 g1 hn DG],hw,hS.sp⟩,Qj Jo⟩)
 · skip;refine' L8;refine' LJ;exact .inl ⟨_,rfl,(by rw [if_neg Jo,hd,tS Jo]),rfl,Gx (FK hS.sp hi) hL0⟩
theorem Wm {s:List Int}{v:Value}(hK:Kh.sl cx v s)(hS:St cx w L):Kf Tryz.prog yi [v, .int .i64 c] w fun u w'=>∃r:Int,u= .int .i64 r∧(0≤r↔c∈s)∧St cx w' L:=by
 have hlen:=hK.len;refine Kq Ko Tryz.func89 ?_;refine' Mq;refine' Oh;refine MB hS [0,1,7] (fun A LL ρ' w'=>∃(j:Nat),Kn ρ' A∧Kn ρ' [(8, .int .i64 j)]∧(j≤s.length)∧(c∈s↔c∈s.drop j)∧St cx w' (LL)) (fun ρ' _=>(s.length - iv (ρ' 8)).toNat) ?_ ?_
 · exact Ay
 rintro ρ w1 ⟨j,hA,hρ,hj,hd,hS⟩;obtain ⟨ρ,rfl⟩:=Kp hA hρ;refine' MH;refine' Ab<;>intro hc
 · skip
   (refine' L4;refine' Nz;refine' Lc;refine' PM;intro b1 o1 cs1 x1 hat1 hx1 he1;obtain rfl:=QG he1;refine' N0;first|(refine' Ql)|(refine' Qp)|(refine' Ac<;>intro hc));all_goals (refine' zn)
   all_goals
    first
    | (refine' Ki;refine' SX;(exact C4))
    | (refine' Kk;refine' Kx)
   refine' N1;(exact C5)
 · skip;refine' Pm;first|(exact C4)|(exact ⟨_,rfl, -1,rfl,⟨fun h=>by omega,fun h=>by rw [hd,Fh Jo] at h;cases h⟩,hS.sp⟩)
theorem QdY {s:List Int}{v:Value}(hK:Kh.sl cx v s)(hS:St cx w L):Kf Tryz.prog z8 [v, .int .i64 c] w fun u w'=>u= .bool (decide (c∈s))∧St cx w' L:=by
 (refine Kq Ko Tryz.func262 ?_;refine' LM;refine' Lc;refine' Kr (c:=Wm hK hS);rintro v1 w1 ⟨r,rfl,hr,hS⟩;first|(refine' Ml)|(refine' MN)|(refine' Ag<;>intro hc));all_goals (refine' La;refine ⟨_,rfl,?_,hS.sp⟩;(first|rw [decide_eq_true (hr.1 Jo)]|rw [decide_eq_false (fun h=>by have:=hr.2 h;omega)]);done)
def Pw (cx:Cx)(L:List Res)(j:JP)(i:Nat)(r:Except Int JS)(u:Value)(w':World):Prop:=u= .tuple #[]∧∃c' s' vl' css',cx.Le c'∧r= .ok s'∧Ku.ls c' css' s'.l∧St c' w' (L.set i (j.res s'.h vl' css'))
def kG {α:Type}(cx:Cx)(L:List Res)(r:Except Int α)(u:Value)(w':World):Prop:=∃e,r= .error e∧u=R6 e∧St cx w' L
theorem vO {h:List Bool}{p:List Int}{x:Int}(hx:l[q]?=some x)(hd:M0 h [] l=M0 h (l.take q) (l.drop q))(hb:Kz h x=false):M0 h [] l= .error 10:=by
 rw [hd,Q1 hx,M0,if_pos hb]
theorem uL {h:List Bool}{x:Int}(hx:l[q]?=some x)(hd:M0 h [] l=M0 h (l.take q) (l.drop q))(hb:Kz h x=true)(ht:x∈l.take q):M0 h [] l= .error 13:=by
 rw [hd,Q1 hx,M0,if_neg (by rw [hb];decide),if_pos ht]
theorem vP {h:List Bool}{x:Int}(hx:l[q]?=some x)(hd:M0 h [] l=M0 h (l.take q) (l.drop q))(hb:Kz h x=true)(ht:x∉l.take q):M0 h [] l=M0 h (l.take (q+1)) (l.drop (q+1)):=by
 rw [hd,Q1 hx,M0,if_neg (by rw [hb];decide),if_neg ht,TZ hx]
theorem qV {h:List Bool}(hd:M0 h [] l=M0 h (l.take q) (l.drop q))(hq:l.length≤q):M0 h [] l= .ok ():=by
 rw [hd,Fh hq,M0]
theorem Zr {s:JS}{x:Ins}(hm:m.Short)(hk:0≤x.k∧x.k<m.funcs.length)(hn:s.l.length≤80)(hj:j.Fits cx m)(hx:Lb.at cx cs x)(hls:Ku.ls cx css s.l)(hS:St cx w L)(hi:nth L i=some (j.res s.h vl css)):
 Ky Tryz.prog Q8j [.pointer (some ⟨j.sp,0,none⟩), .agg ⟨cs⟩] w (Pw cx L j i (Rc m s x)) (kG cx L (Rc m s x)):=by
 ((have hS:=hS.out hi;have hle:=FV hS;obtain ⟨vr,va,rfl,hr,ha⟩:=Nx hx;have hlr:=hr.len;have hla:=ha.len;have hm1:=hj.m;unfold Ky;refine Kq Ko Tryz.func248 ?_;refine' KY;intro p3 w1 hS;refine' L5;refine zC [(0,none),(1,none),(2,none),(3,none),(4,none),(5,none),(6,none),(7,none),(8,none),(9,some (some [4,6,8])),(10,some none)] ?_;have hS:=hS.drew;refine' Pk;refine' SY;refine Ro hS rfl fd rfl ?_;refine' KO;refine' RQ;refine' KO;refine' Nj;intro b1 o1 cs1 x1 hat1 hx1 he1;obtain ⟨vp1,vr1,vb1,rfl,hp1,hr1,hb1⟩:=QH he1;refine' S5;refine' PL;intro p4 w1 hS;refine' zt;refine ⟨Fe.2 ⟨(by (exact Au)),Fe.2 ⟨Ds,Fe.2 ⟨EU,fun _ h=>(Fv h).elim⟩⟩⟩,?_⟩;refine' LG;refine Kt hS ?_;intro w1 hS;have hS:=hS.ns;refine' Lq;have ej:Rc m s x=(if (x.regs.length:Int)≠x1.regs then .error 2 else Kg (M0 s.h [] x.regs) fun _=>Kg (OF s x.args x1.params x.regs) fun _=>if 80<s.l.length+x1.results.length then .error 2 else .ok ⟨s.h,s.l++x1.results.map (MI x.regs)⟩):=by {unfold Rc;rw [hx1]};have hsf:=hm.2 x1 (Fa hx1);have hrl:=hr1.len;refine' Kv;refine' MD;(first|(refine gy hS fd vw hls.1 ?_)|(refine' zL));refine' MD;first|(refine' QO)|(refine' QU)|(refine' Ad<;>intro hc));all_goals (first|(refine' Kr (c:=Rz hS);rintro v1 w1 ⟨rfl,hS⟩)|(refine KH (c:=RB hS) (p:=by rintro v9 w9 ⟨rfl,hS⟩;(repeat (first|refine' Q6|refine' Q8|refine fun _=>?_));refine' Qe;refine .inr ⟨_,rfl,?_⟩;first|(exact BI)|(exact Bs)) (h:=fun _ _ h=>h.elim))));refine' L5;refine' Kv;refine' MD;(first|(refine gy hS fd vw hls.1 ?_)|(refine' zL));refine' Ob;refine MB hS [0,3,4,28,29] (fun A LL ρ' w'=>∃(q:Nat),Kn ρ' A∧Kn ρ' [(30, .int .i64 q)]∧(q≤x.regs.length)∧(M0 s.h [] x.regs=M0 s.h (x.regs.take q) (x.regs.drop q))∧(¬(x.regs.length:Int)≠x1.regs)∧St cx w' (LL)) (fun ρ' _=>(x.regs.length - iv (ρ' 30)).toNat) ?_ ?_
 · exact ⟨0,zh,zh,Jo,by rfl,Jo,hS.sp⟩
 rintro ρ w1 ⟨q,hA,hρ,hq,hd,hne,hS⟩;obtain ⟨ρ,rfl⟩:=Kp hA hρ;refine' MH;refine' Ab<;>intro hc
 · skip;refine' L4;refine' KP;refine' zi;intro b2 o2 cs2 x2 hat2 hx2 he2;obtain rfl:=QG he2;(first|(refine Ro hS rfl fd rfl ?_)|(refine zl hS ?_)|(refine Rm hS ?_));refine' zm;refine' L6;refine' bN;refine' zm;refine' Kr (c:=Wj hS fd);rintro v1 w1 ⟨rfl,hS⟩;refine' PC;refine KH (c:=Wl hS) (p:=by rintro v9 w9 ⟨rfl,hb,hS⟩;(repeat (first|refine' Q6|refine' Q8|refine fun _=>?_));refine' Qe;refine .inr ⟨_,rfl,?_⟩;exact ⟨_,by rw [ej,if_neg hne,Qw (vO (p:=[]) hx2 hd DG)],rfl,(FK hS.sp hi)⟩) (h:=?_);rintro v1 w1 ⟨rfl,hb1,hS⟩;refine' zn;refine' LS;refine' MD;refine' zm;refine iz vw hr rfl rfl ⟨_,rfl⟩ rfl Jo Jo ?_;intro v4 hs4;rw [F9] at hs4;refine' zm;refine' Kr (c:=QdY Ja hS);rintro v1 w1 ⟨rfl,hS⟩;(first|(refine' Kr (c:=Rz hS);rintro v1 w1 ⟨rfl,hS⟩)|(refine KH (c:=RB hS) (p:=by rintro v9 w9 ⟨rfl,hS⟩;(repeat (refine' Q6));refine' Qe;refine .inr ⟨_,rfl,?_⟩;first|(exact BI)|(exact Bs)) (h:=fun _ _ h=>h.elim))|(refine KH (c:=Wl hS) (p:=by rintro v9 w9 ⟨rfl,hb,hS⟩;(repeat (first|refine' Q6|refine' Q8|refine fun _=>?_));refine' Qe;refine .inr ⟨_,rfl,?_⟩;first|(exact BI)|(exact Bs)) (h:=?_);rintro v1 w1 ⟨rfl,hb,hS⟩));refine' Rr;(exact ⟨⟨q+1,zh,zh,Jo,by exact vP hx2 hd (by simpa using hb1) (of_decide_eq_false hb),hne,hS.sp⟩,Qj Jo⟩)
 · skip
   refine' L8;refine' KP;refine' MD;refine' MD;refine' MD;refine nU (c:=qU (s:=s) hsf.1.2 hls ha hp1 hr hS fd) (p:=by rintro v9 w9 ⟨c,g1,rfl,hS⟩;(repeat (first|refine' Q6|refine' Q8|refine fun _=>?_));refine' Qe;refine .inr ⟨_,rfl,?_⟩;exact ⟨_,by rw [ej,if_neg hne,Q3 (qV hd Jo),Qw g1],rfl,(FK hS.sp hi)⟩) (h:=?_);rintro v1 w1 ⟨har,rfl,hS⟩;have hrg:=qV hd Jo;refine' L5;refine zD (ci 11 [10]) ?_;have hS:=hS.drew;refine' zm;refine' bN;refine gy hS fd vw hls.1 ?_;refine' MD;(first|(refine gy hS fd vw hls.1 ?_)|(refine' zL));refine' MX;refine ib rfl rfl ?_;refine KH (c:=Wl hS) (p:=by rintro v9 w9 ⟨rfl,hb,hS⟩;(repeat (first|refine' Q6|refine' Q8|refine fun _=>?_));refine' Qe;refine .inr ⟨_,rfl,?_⟩;exact ⟨_,by rw [ej,if_neg hne,Q3 hrg,Q3 har,if_pos (by have:=of_decide_eq_true hb;omega)],rfl,(FK hS.sp hi)⟩) (h:=?_);rintro v1 w1 ⟨rfl,hb,hS⟩;have h80:¬80<s.l.length+x1.results.length:=(by have:=of_decide_eq_false hb;omega);refine' Ui;refine' MD;(first|(refine gy hS fd vw hls.1 ?_)|(refine' zL));refine' Ob;refine zo [0,3,71,72] (fun A ρ' w'=>∃(k1:Cx) (q:Nat) (vl2:Value) (cs2:List (List Value)),Kn ρ' A∧Kn ρ' [(73, .int .i64 q)]∧(cx.Le k1)∧(q≤x1.results.length)∧(Ku.ls k1 cs2 (s.l++(x1.results.take q).map (MI x.regs)))∧St k1 w' (blk p4 95 [.int .i64 x1.regs,vp1,vr1,vb1]::blk p3 84 [.int .i64 x.op, .int .i64 x.a, .int .i64 x.b, .int .i64 x.c, .int .i64 x.k, .int .i64 x.n,vr,va]::j.res s.h vl2 cs2::L.eraseIdx i)) (fun ρ' _=>(x1.results.length - iv (ρ' 73)).toNat) ?_ ?_
   · exact ⟨cx,0,vl,css,zh,zh,FV hS,Jo,by simpa using hls,hS.sp⟩
   rintro ρ w1 ⟨k1,q,vl2,cs2,hA,hρ,hle2,hq,hls,hS⟩;obtain ⟨ρ,rfl⟩:=Kp hA hρ;have hL1:=hle2;(try have hle:=hle.trans hle2);(try have hp1:=hp1.up hle2);(try have hr1:=hr1.up hle2);(try have hb1:=hb1.up hle2);(try have he1:=he1.up hle2);(try have hr:=hr.up hle2);(try have ha:=ha.up hle2);(try have hm1:=hm1.up hle2);refine' MH;refine' Ab<;>intro hc
   · skip;refine' bM;refine' zi;intro b3 o3 cs3 x3 hat3 hx3 he3;obtain ⟨vl3,rfl,hl3⟩:=Qf he3;refine' NN;intro p8 w1 hS;refine Kt hS ?_;intro w1 hS;have hS:=hS.ns;refine' Sr;refine' MD;refine' Kr (c:=Wi x3 (hsf.2.1.2 x3 (Fa hx3)) he3 hr hS);rintro v1 w1 ⟨c3,ds,rfl,hle2,hu3,hS⟩;(try have hL1:=hL1.trans hle2);(try have hls:=hls.up hle2);have hu3':=hu3;obtain ⟨vu,rfl,hlu⟩:=Qf hu3;refine' RT;intro p9 w1 hS;refine Kt hS ?_;intro w1 hS;have hS:=hS.ns;refine' KA;refine' OT;refine KH (c:=Zq (s:=⟨s.h,_⟩) (by simp only [Fc,Fb,Gm];omega) hu3' hls hS fd) (p:=by rintro v9 w9 ⟨rfl,h80',hS⟩;(repeat (first|refine' Q6|refine' Q8|refine fun _=>?_));refine' Qe;refine .inr ⟨_,rfl,?_⟩;(exfalso;simp only [Fc,Fb,Gm] at h80';omega)) (h:=?_);rintro v1 w1 ⟨rfl,hne80,vl4,cs4,hls4,hS⟩;have hS:=hS.ns;refine' Rr;(exact ⟨⟨_,q+1,vl4,cs4,zh,zh,hL1,Jo,by rw [TZ hx3,FG,←GJ];exact hls4,hS.sp⟩,Qj Jo⟩)
   · skip;refine' L8;refine' LJ;refine .inl ⟨_,rfl,rfl,k1,⟨s.h,s.l++x1.results.map (MI x.regs)⟩,vl2,cs2,hL1,by rw [ej,if_neg hne,Q3 hrg,Q3 har,if_neg h80],?_,(Gn hS.sp hi)⟩;rw [FM Jo] at hls;exact hls
end
section
attribute [local irreducible] Kz LY Mv M6
variable {cx:Cx}{w:World}{L:List Res}{j:JP}{h:List Bool}{vl:Value}{css:List (List Value)}{i:Nat}{m:Module}
theorem Wn {s:JS}{x:Ins}(hal:x.args.length≤8)(hn:s.l.length≤80)(hx:Lb.at cx cs x)(hls:Ku.ls cx css s.l)(hS:St cx w L)(hi:nth L i=some (j.res s.h vl css)):
 Ky Tryz.prog Q7v [.pointer (some ⟨j.sp,0,none⟩), .agg ⟨cs⟩] w (Pw cx L j i (Vo s x)) (kG cx L (Vo s x)):=by
 have hS:=hS.out hi;obtain ⟨vr,va,rfl,hr,ha⟩:=Nx hx;unfold Ky Vo;refine Kq Ko Tryz.func245 ?_;refine' KY;intro p3 w1 hS;refine' LN;refine' MD;refine MG (c:=W9 hls hS fd) (p:=by rintro v9 w9 ⟨c,h1,rfl,hS⟩;(repeat (first|refine' Q6|refine' Q8|refine fun _=>?_));refine' Qe;refine .inr ⟨_,rfl,?_⟩;exact BP) (h:=?_);rintro v1 w1 ⟨t,cs1,h1,rfl,hrd,hS⟩;have hrd':=hrd;obtain ⟨vd,rfl,hld⟩:=Qf hrd;refine ZP rfl rfl ?_;refine M9 [_,_,_] ?_;refine Qd hS ?_;(intro p4 w1 hS);((refine Kt hS ?_;intro w1 hS;have hS:=hS.ns));refine' L5;refine' Kv;refine' MD;refine' Oh;have hS:=Hp (T:=115) (es:=3) hS;refine zo [0,4,14,15] (fun A ρ' w'=>∃(q:Nat) (vo:Value) (co:List (List Value)) (ts:List Ty),Kn ρ' A∧Kn ρ' [(16, .int .i64 q)]∧(q≤x.args.length)∧(Ku.ls cx co ts)∧(ts.length=q)∧(oneC vo=true)∧(Kw s x.args=Kg (Kw s (x.args.drop q)) fun l=> .ok (ts++l))∧St cx w' (sl 115 3 vo co::blk p4 115 [.int .i64 3, .int .i64 t.r,vo]::blk p3 84 [.int .i64 x.op, .int .i64 x.a, .int .i64 x.b, .int .i64 x.c, .int .i64 x.k, .int .i64 x.n,vr,va]::j.res s.h vl css::L.eraseIdx i)) (fun ρ' _=>(x.args.length - iv (ρ' 16)).toNat) ?_ ?_
 · exact CC
 rintro ρ w1 ⟨q,vo,co,ts,hA,hρ,hq,hlo,hlt,hvo,hd,hS⟩;obtain ⟨ρ,rfl⟩:=Kp hA hρ;refine' MH;refine' Ab<;>intro hc
 · skip;refine' bM;refine' zi;intro b1 o1 cs1 x1 hat1 hx1 he1;obtain rfl:=QG he1;(first|(refine Ro hS rfl fd rfl ?_)|(refine zl hS ?_)|(refine Rm hS ?_));refine' KA;refine zC [(0,none),(1,none),(2,none),(3,none),(4,some (some [1])),(5,some (some [1])),(6,some none),(7,none),(8,some none)] ?_;have hS:=hS.drew;refine' KW;refine' RQ;refine' Mu;refine' zm;refine' Lp;refine KH (c:=gz hls hS fd) (p:=by rintro v9 w9 ⟨c,h2,rfl,hS⟩;(repeat (first|refine' Q6|refine' Q8|refine fun _=>?_));refine' Qe;refine .inr ⟨_,rfl,?_⟩;exact ⟨_,by rw [Q3 h1,Qw (tT hx1 hd h2)],rfl,(FK hS.sp hi)⟩) (h:=?_);rintro v1 w1 ⟨t2,cs2,h2,rfl,hrd2,hS⟩;have hrd2':=hrd2;obtain ⟨vd2,rfl,hld2⟩:=Qf hrd2;refine' zt;refine ⟨Fe.2 ⟨Ds,fun _ h=>(Fv h).elim⟩,?_⟩;refine' SJ;refine K8 hS [_,_,_] ?_;intro b1 w1 hS;refine' zt;refine ⟨Fe.2 ⟨Ds,fun _ h=>(Fv h).elim⟩,?_⟩;refine' LG;refine za PV Ra hS ?_;intro vp1 w1 css1 hls1 hv1 hS;have hS:=hS.ns;refine' KO;refine' MA;refine' Lk;refine LU hS ?_;intro w1 hS;have hS:=hS.ns;refine' Lq;refine' N1;(exact ⟨⟨q+1,_,_,ts++[t2],zh,zh,Jo,hls1,by simp [hlt],by assumption,tU hx1 hd h2,hS.sp⟩,Qj Jo⟩)
 · skip;refine' L8;have hts:=tV hd Jo;obtain ⟨c1,hle2,hS,hk1⟩:=Gp (r:=Ku) hS hlo rfl Jo;have hT:=PB (k:=3) (r:=t.r) hk1;have hls:=hls.up hle2;obtain ⟨ao,no,rfl⟩:=Fx hk1;refine QA ?_;refine zC [(0,none),(1,none),(2,none),(3,none),(4,none),(5,some (some [0])),(6,some none),(7,none),(8,some none)] ?_;have hS:=hS.drew;refine' KW;refine zv hS ?_;refine' Mu;refine' Nb;refine' SS;refine Ro hS rfl fd rfl ?_;refine' Lp;refine' KE (c:=Wk hS fd);rintro v1 w1 ⟨rfl,hS⟩;refine' zt;refine ⟨Fe.2 ⟨DV,fun _ h=>(Fv h).elim⟩,?_⟩;refine' LG;refine' Kr (c:=tj hT hS);rintro v1 w1 ⟨rfl,hS⟩;refine' KO;refine Xn rfl rfl ?_;refine' Lk;(first|(refine' Kr (c:=Rz hS);rintro v1 w1 ⟨rfl,hS⟩)|(refine KH (c:=RB hS) (p:=by rintro v9 w9 ⟨rfl,hS⟩;(repeat (refine' Q6));refine' Qe;refine .inr ⟨_,rfl,?_⟩;first|(exact C1)) (h:=fun _ _ h=>h.elim))|(refine KH (c:=Wl hS) (p:=by rintro v9 w9 ⟨rfl,hb,hS⟩;(repeat (first|refine' Q6|refine' Q8|refine fun _=>?_));refine' Qe;refine .inr ⟨_,rfl,?_⟩;first|(exact C1)) (h:=?_);rintro v1 w1 ⟨rfl,hb,hS⟩));refine' Lq;refine' OT;refine KH (c:=Zq (s:=s) Jo hT hls hS fd) (p:=by rintro v9 w9 ⟨rfl,h80',hS⟩;(repeat (first|refine' Q6|refine' Q8|refine fun _=>?_));refine' Qe;refine .inr ⟨_,rfl,?_⟩;exact ⟨_,by rw [Q3 h1,Q3 hts,if_neg (of_decide_eq_false hb),dI h80'],rfl,Gx (FK hS.sp hi) hle2⟩) (h:=?_);rintro v1 w1 ⟨rfl,hne80,vl4,cs4,hls4,hS⟩;have hS:=hS.ns;refine' OW;exact .inl ⟨_,rfl,rfl,c1,⟨s.h,_⟩,vl4,cs4,hle2,by rw [Q3 h1,Q3 hts,if_neg (of_decide_eq_false hb),dH hne80],hls4,(Gn hS.sp hi)⟩
theorem qW {n:Nat}{x:Ins}(h:Qx n x=0):Oj n x=0:=by
 unfold Qx at h;split at h
 · cases h
 · split at h
   · cases h
   · exact h
theorem kH {n:Nat}{x:Ins}(h:Qx n x=0)(ho:x.op=6∨x.op=7):0≤x.k:=by
 have h:=qW h;unfold Oj at h;rcases ho with ho|ho<;>simp [ho] at h<;>omega
theorem QhR {n:Nat}{x:Ins}(h:Qx n x=0)(ho:x.op=5):x.args.length≤8:=by
 have h:=qW h;unfold Oj at h;simp [ho] at h;omega
theorem vQ {n:Nat}{x:Ins}(h:Qx n x=0)(ho:x.op=14):0≤x.k∧x.k<n:=by
 have h:=qW h;unfold Oj at h;simp [ho] at h;omega
theorem eG {s : JS}{x : Ins}(hm:m.Short)(hF:Qx m.funcs.length x=0)(hn:s.l.length≤80)(hh:s.h.length≤16)(hj:j.Fits cx m)(hx:Lb.at cx cs x)(hls:Ku.ls cx css s.l)(hS:St cx w L)(hi:nth L i=some (j.res s.h vl css)):
 Ky Tryz.prog Q9c [.pointer (some ⟨j.sp,0,none⟩), .agg ⟨cs⟩] w (Pw cx L j i (KK m j.f s x)) (kG cx L (KK m j.f s x)):=by
 (have hS:=hS.out hi;have hx':=hx;have hop:=aq hF;have hlc:=hls.1;have hN:Ku.at cx [.int .i64 1, .int .i64 0, .slice none 0 0] Ks:=PB (Gj _ _ _);obtain ⟨vr,va,rfl,hr,ha⟩:=Nx hx;unfold Ky;refine Kq Ko Tryz.func207 ?_;refine' KY;intro p3 w1 hS;refine' Ui;refine Pg [_,_,_] ?_;refine Qd hS ?_;intro p4 w1 hS;refine Kt hS ?_;intro w1 hS;have hS:=hS.ns;refine' Ui;refine' MD;refine' SZ;refine QA ?_;refine' Kv;first|(refine' Ql)|(refine' Qp)|(refine' Ac<;>intro hc));all_goals (refine' KA)
 all_goals
  first
  | (refine' Ki;refine' Kx)
  | (refine' Kk;(refine' LS;first|(refine' Ql)|(refine' Qp)|(refine' Ac<;>intro hc));all_goals (refine' zm);all_goals refine' zn)
 all_goals
  first
  | (refine' Ki;all_goals (refine' OT;refine KH (c:=Zq (s:=s) Jo hN hls hS fd) (p:=by rintro v9 w9 ⟨rfl,h80,hS⟩;(repeat (first|refine' Q6|refine' Q8|refine fun _=>?_));refine' Qe;refine .inr ⟨_,rfl,?_⟩;exact ⟨_,by rw [W5 Jo,dI h80],rfl,(FK hS.sp hi)⟩) (h:=?_);rintro v1 w1 ⟨rfl,hne,vl4,cs4,hls4,hS⟩;have hS:=hS.ns;have hJ:Pw cx L j i (KK m j.f s x) (.tuple #[]) w1:=⟨rfl,cx,⟨s.h,_⟩,vl4,cs4,FV hS,by rw [W5 Jo,dH hne],hls4,(Gn hS.sp hi)⟩;refine' zn);all_goals (refine' LJ;exact AI))
  | (refine' Kk
     (refine' Kv;first|(refine' Ql)|(refine' Qp)|(refine' Ac<;>intro hc));all_goals (refine' KA)
     all_goals
      first
      | (refine' Ki;refine' KP;refine' MD;refine MG (c:=Zp (s:=s) hls hS fd) (p:=by rintro v9 w9 ⟨c,h1,rfl,hS⟩;(repeat (first|refine' Q6|refine' Q8|refine fun _=>?_));refine' Qe;refine .inr ⟨_,rfl,?_⟩;exact ⟨_,by rw [ar Jo,Qw h1],rfl,(FK hS.sp hi)⟩) (h:=?_);rintro v1 w1 ⟨t1,cs1,h1,rfl,hrd1,hS⟩;skip;refine' LN;refine' MD;refine MG (c:=Zp (s:=s) hls hS fd) (p:=by rintro v9 w9 ⟨c,h2,rfl,hS⟩;(repeat (first|refine' Q6|refine' Q8|refine fun _=>?_));refine' Qe;refine .inr ⟨_,rfl,?_⟩;exact ⟨_,by rw [ar Jo,Q3 h1,Qw h2],rfl,(FK hS.sp hi)⟩) (h:=?_);rintro v1 w1 ⟨t2,cs2,h2,rfl,hrd2,hS⟩;skip;refine' Ss;refine KH (c:=Zq (s:=s) Jo hN hls hS fd) (p:=by rintro v9 w9 ⟨rfl,h80,hS⟩;(repeat (first|refine' Q6|refine' Q8|refine fun _=>?_));refine' Qe;refine .inr ⟨_,rfl,?_⟩;exact ⟨_,by rw [ar Jo,Q3 h1,Q3 h2,dI h80],rfl,(FK hS.sp hi)⟩) (h:=?_);rintro v1 w1 ⟨rfl,hne,vl4,cs4,hls4,hS⟩;have hS:=hS.ns;have hJ:Pw cx L j i (KK m j.f s x) (.tuple #[]) w1:=⟨rfl,cx,⟨s.h,_⟩,vl4,cs4,FV hS,by rw [ar Jo,Q3 h1,Q3 h2,dH hne],hls4,(Gn hS.sp hi)⟩;refine' zn;refine' LJ;exact AI)
      | (refine' Kk
         (refine' Kv;first|(refine' Ql)|(refine' Qp)|(refine' Ac<;>intro hc));all_goals (refine' KA)
         all_goals
          first
          | (refine' Kk
             (refine' Kv;first|(refine' Ql)|(refine' Qp)|(refine' Ac<;>intro hc));all_goals (refine' KA)
             all_goals
              first
              | (refine' Ki;(refine' KP;refine' MD;refine MG (c:=W9 (s:=s) hls hS fd) (p:=by rintro v9 w9 ⟨c,h1,rfl,hS⟩;(repeat (first|refine' Q6|refine' Q8|refine fun _=>?_));refine' Qe;refine .inr ⟨_,rfl,?_⟩;exact ⟨_,by rw [dE Jo,Qw h1],rfl,(FK hS.sp hi)⟩) (h:=?_);rintro v1 w1 ⟨t1,cs1,h1,rfl,hrd1,hS⟩;obtain ⟨vd1,rfl,hld1⟩:=Qf hrd1;refine ZP rfl rfl ?_;refine' KA;refine' Lc;refine' SV;refine Ro hS rfl fd rfl ?_;first|(refine' KX)|(refine' K1)|(refine' Ae<;>intro hc));(all_goals (first|(refine' Kr (c:=Rz hS);rintro v1 w1 ⟨rfl,hS⟩)|(refine KH (c:=RB hS) (p:=by rintro v9 w9 ⟨rfl,hS⟩;(repeat (first|refine' Q6|refine' Q8|refine fun _=>?_));refine' Qe;refine .inr ⟨_,rfl,?_⟩;exact ⟨_,by rw [dE Jo,Q3 h1,if_pos Jo],rfl,(FK hS.sp hi)⟩) (h:=fun _ _ h=>h.elim))));refine' zn;refine' LV;refine' bN;refine' zm;refine' Kr (c:=Zn (W4 h1).2.2.2 hS fd);rintro v1 w1 ⟨rfl,hS⟩;have hS:=hS.ns;have hJ:Pw cx L j i (KK m j.f s x) (.tuple #[]) w1:=⟨rfl,cx,⟨s.h.set t1.r.toNat false,s.l⟩,vl,css,FV hS,by rw [dE Jo,Q3 h1,if_neg Jo],hls,(Gn hS.sp hi)⟩;refine' zn;refine' LJ;exact AI)
              | (refine' Kk
                 (refine' Kv;first|(refine' Ql)|(refine' Qp)|(refine' Ac<;>intro hc));all_goals (refine' KA)
                 all_goals
                  first
                  | (refine' Ki;refine' OT;refine KH (c:=Wn (QhR hF Jo) hn hx' hls hS fd) (p:=by rintro v9 w9 ⟨c,g1,rfl,hS⟩;(repeat (first|refine' Q6|refine' Q8|refine fun _=>?_));refine' Qe;refine .inr ⟨_,rfl,?_⟩;exact ⟨_,by rw [gh Jo];exact g1,rfl,(FK hS.sp hi)⟩) (h:=?_);rintro v1 w1 ⟨rfl,c1,s1,vl4,cs4,hle,hr1,hls4,hS⟩;have hS:=hS.ns;have hJ:Pw cx L j i (KK m j.f s x) (.tuple #[]) w1:=⟨rfl,c1,s1,vl4,cs4,hle,by rw [gh Jo];exact hr1,hls4,(Gn hS.sp hi)⟩;refine' zn;refine' LJ;exact AI)
                  | (refine' Kk
                     (refine' Kv;first|(refine' Ql)|(refine' Qp)|(refine' Ac<;>intro hc));all_goals (refine' KA)
                     all_goals
                      first
                      | (refine' Ki;refine zC [(0,none),(1,none),(2,none),(3,none),(4,none),(6,none),(7,none),(5,some (some [7])),(8,some (some [])),(9,some none)] ?_;have hS:=hS.drew;refine' Og;refine' T9;refine' RQ;refine' KO;refine' RQ;refine' Lp;refine MG (c:=W9 (s:=s) hls hS fd) (p:=by rintro v9 w9 ⟨c,h1,rfl,hS⟩;(repeat (first|refine' Q6|refine' Q8|refine fun _=>?_));refine' Qe;refine .inr ⟨_,rfl,?_⟩;exact ⟨_,by rw [au Jo,Qw h1],rfl,(FK hS.sp hi)⟩) (h:=?_);rintro v1 w1 ⟨t1,cs1,h1,rfl,hrd1,hS⟩;have hrd1':=hrd1;obtain ⟨vd1,rfl,hld1⟩:=Qf hrd1;refine' zt;refine ⟨Fe.2 ⟨Ds,fun _ h=>(Fv h).elim⟩,?_⟩;refine' SJ;refine MG (c:=mu (j:=j) (kH hF Jo) hrd1' hS) (p:=by rintro v9 w9 ⟨c,h2,rfl,hS⟩;(repeat (first|refine' Q6|refine' Q8|refine fun _=>?_));refine' Qe;refine .inr ⟨_,rfl,?_⟩;exact ⟨_,by rw [au Jo,Q3 h1,Qw h2],rfl,(FK hS.sp hi)⟩) (h:=?_);rintro v1 w1 ⟨t2,cs2,h2,rfl,hrd2,hS⟩;skip;refine' zt;refine ⟨fun _ h=>(Fv h).elim,?_⟩;refine' LG;refine KH (c:=Zq (s:=s) Jo hrd2 hls hS fd) (p:=by rintro v9 w9 ⟨rfl,h80,hS⟩;(repeat (first|refine' Q6|refine' Q8|refine fun _=>?_));refine' Qe;refine .inr ⟨_,rfl,?_⟩;exact ⟨_,by rw [au Jo,Q3 h1,Q3 h2,dI h80],rfl,(FK hS.sp hi)⟩) (h:=?_);rintro v1 w1 ⟨rfl,hne,vl4,cs4,hls4,hS⟩;have hS:=hS.ns;have hJ:Pw cx L j i (KK m j.f s x) (.tuple #[]) w1:=⟨rfl,cx,⟨s.h,_⟩,vl4,cs4,FV hS,by rw [au Jo,Q3 h1,Q3 h2,dH hne],hls4,(Gn hS.sp hi)⟩;refine' Lq;refine' LJ;exact AI)
                      | (refine' Kk
                         (refine' Kv;first|(refine' Ql)|(refine' Qp)|(refine' Ac<;>intro hc));all_goals (refine' KA)
                         all_goals
                          first
                          | (refine' Ki
                             refine QA ?_;refine OK 4 8 Jk ?_ ?_
                             · skip
                               refine OK 7 8 Jk ?_ ?_
                               · skip;refine zC [(0,none),(1,none),(2,none),(3,none),(5,none),(6,none),(4,some (some [6])),(7,some none),(8,some none),(9,some none)] ?_;have hS:=hS.drew;refine' Og;refine' RQ;refine' KO;refine' RQ;refine' Lp;refine MG (c:=W9 (s:=s) hls hS fd) (p:=by rintro v9 w9 ⟨c,h1,rfl,hS⟩;(repeat (first|refine' Q6|refine' Q8|refine fun _=>?_));refine' Qe;refine .inr ⟨_,rfl,?_⟩;exact BJ) (h:=?_);rintro v1 w1 ⟨t1,cs1,h1,rfl,hrd1,hS⟩;have hrd1':=hrd1;obtain ⟨vd1,rfl,hld1⟩:=Qf hrd1;refine' zt;refine ⟨Fe.2 ⟨Ds,fun _ h=>(Fv h).elim⟩,?_⟩;refine' LG;refine MG (c:=mu (j:=j) (kH hF Jo) hrd1' hS) (p:=by rintro v9 w9 ⟨c,h2,rfl,hS⟩;(repeat (first|refine' Q6|refine' Q8|refine fun _=>?_));refine' Qe;refine .inr ⟨_,rfl,?_⟩;exact Bl) (h:=?_);rintro v1 w1 ⟨t2,cs2,h2,rfl,hrd2,hS⟩;have hrd2':=hrd2;obtain ⟨vd2,rfl,hld2⟩:=Qf hrd2;refine' Lk;refine Qd hS ?_;intro p6 w1 hS;refine' Lk;refine Kt hS ?_;intro w1 hS;have hS:=hS.ns;refine' Lq;refine zC [(0,none),(1,none),(2,none),(3,none),(4,some (some [0])),(5,some none),(6,none),(7,some none)] ?_;have hS:=hS.drew;refine' KW;refine zv hS ?_;refine' Mu;refine' RQ;refine' Lp;refine KH (c:=gz (s:=s) hls hS fd) (p:=by rintro v9 w9 ⟨c,h3,rfl,hS⟩;(repeat (first|refine' Q6|refine' Q8|refine fun _=>?_));refine' Qe;refine .inr ⟨_,rfl,?_⟩;exact BW) (h:=?_);rintro v1 w1 ⟨t3,cs3,h3,rfl,hrd3,hS⟩;skip;refine' zt;refine ⟨Fe.2 ⟨DV,fun _ h=>(Fv h).elim⟩,?_⟩;refine' LG;refine' Kr (c:=je _ _ hrd2' hrd3 hS);rintro v1 w1 ⟨rfl,hS⟩;refine' KO;refine' PC;refine' Lk;refine KH (c:=Wl hS) (p:=by rintro v9 w9 ⟨rfl,hb,hS⟩;(repeat (first|refine' Q6|refine' Q8|refine fun _=>?_));refine' Qe;refine .inr ⟨_,rfl,?_⟩;exact BR) (h:=?_);rintro v1 w1 ⟨rfl,hb,hS⟩;refine' Lq;have hJ:Pw cx L j i (KK m j.f s x) (.tuple #[]) w1:=⟨rfl,cx,s,vl,css,FV hS,by rw [Vp Jo,Q3 h1,Q3 h2,Q3 h3,if_neg DG],hls,(Gn hS.sp hi)⟩;refine' LJ;exact AI
                               · skip;refine zC [(0,none),(1,none),(2,none),(3,none),(5,none),(6,none),(4,some (some [6])),(8,some (some [6])),(7,some none),(9,some none)] ?_;have hS:=hS.drew;refine' Og;refine' RQ;refine' KO;refine' RQ;refine' Lp;refine MG (c:=W9 (s:=s) hls hS fd) (p:=by rintro v9 w9 ⟨c,h1,rfl,hS⟩;(repeat (first|refine' Q6|refine' Q8|refine fun _=>?_));refine' Qe;refine .inr ⟨_,rfl,?_⟩;exact BJ) (h:=?_);rintro v1 w1 ⟨t1,cs1,h1,rfl,hrd1,hS⟩;have hrd1':=hrd1;obtain ⟨vd1,rfl,hld1⟩:=Qf hrd1;refine' zt;refine ⟨Fe.2 ⟨Ds,fun _ h=>(Fv h).elim⟩,?_⟩;refine' SJ;refine Qd hS ?_;intro p6 w1 hS;refine' zt;refine ⟨Fe.2 ⟨Ds,fun _ h=>(Fv h).elim⟩,?_⟩;refine' LG;refine MG (c:=mu (j:=j) (kH hF Jo) hrd1' hS) (p:=by rintro v9 w9 ⟨c,h2,rfl,hS⟩;(repeat (first|refine' Q6|refine' Q8|refine fun _=>?_));refine' Qe;refine .inr ⟨_,rfl,?_⟩;exact Bl) (h:=?_);rintro v1 w1 ⟨t2,cs2,h2,rfl,hrd2,hS⟩;have hrd2':=hrd2;obtain ⟨vd2,rfl,hld2⟩:=Qf hrd2;refine' Lk;refine Kt hS ?_;intro w1 hS;have hS:=hS.ns;refine' Lq;refine zC [(0,none),(1,none),(2,none),(3,none),(4,some (some [0])),(5,some none),(6,none),(7,some none)] ?_;have hS:=hS.drew;refine' KW;refine zv hS ?_;refine' Mu;refine' RQ;refine' Lp;refine KH (c:=gz (s:=s) hls hS fd) (p:=by rintro v9 w9 ⟨c,h3,rfl,hS⟩;(repeat (first|refine' Q6|refine' Q8|refine fun _=>?_));refine' Qe;refine .inr ⟨_,rfl,?_⟩;exact BW) (h:=?_);rintro v1 w1 ⟨t3,cs3,h3,rfl,hrd3,hS⟩;skip;refine' zt;refine ⟨Fe.2 ⟨DV,fun _ h=>(Fv h).elim⟩,?_⟩;refine' LG;refine' Kr (c:=je _ _ hrd2' hrd3 hS);rintro v1 w1 ⟨rfl,hS⟩;refine' KO;refine' PC;refine' Lk;refine KH (c:=Wl hS) (p:=by rintro v9 w9 ⟨rfl,hb,hS⟩;(repeat (first|refine' Q6|refine' Q8|refine fun _=>?_));refine' Qe;refine .inr ⟨_,rfl,?_⟩;exact BR) (h:=?_);rintro v1 w1 ⟨rfl,hb,hS⟩;refine' Lq;have hJ:Pw cx L j i (KK m j.f s x) (.tuple #[]) w1:=⟨rfl,cx,s,vl,css,FV hS,by rw [Vp Jo,Q3 h1,Q3 h2,Q3 h3,if_neg DG],hls,(Gn hS.sp hi)⟩;refine' LJ;exact AI
                             · skip;refine zC [(0,none),(1,none),(2,none),(3,none),(5,none),(6,none),(8,some (some [3,6])),(4,some (some [6])),(7,some none),(9,some none)] ?_;have hS:=hS.drew;refine' Og;refine' RQ;refine' KO;refine' RQ;refine' PL;intro p6 w1 hS;refine' zt;refine ⟨Fe.2 ⟨Ds,Fe.2 ⟨Ds,fun _ h=>(Fv h).elim⟩⟩,?_⟩;refine' SJ;refine MG (c:=W9 (s:=s) hls hS fd) (p:=by rintro v9 w9 ⟨c,h1,rfl,hS⟩;(repeat (first|refine' Q6|refine' Q8|refine fun _=>?_));refine' Qe;refine .inr ⟨_,rfl,?_⟩;exact BJ) (h:=?_);rintro v1 w1 ⟨t1,cs1,h1,rfl,hrd1,hS⟩;have hrd1':=hrd1;obtain ⟨vd1,rfl,hld1⟩:=Qf hrd1;refine' zt;refine ⟨Fe.2 ⟨Ds,fun _ h=>(Fv h).elim⟩,?_⟩;refine' LG;refine MG (c:=mu (j:=j) (kH hF Jo) hrd1' hS) (p:=by rintro v9 w9 ⟨c,h2,rfl,hS⟩;(repeat (first|refine' Q6|refine' Q8|refine fun _=>?_));refine' Qe;refine .inr ⟨_,rfl,?_⟩;exact Bl) (h:=?_);rintro v1 w1 ⟨t2,cs2,h2,rfl,hrd2,hS⟩;have hrd2':=hrd2;obtain ⟨vd2,rfl,hld2⟩:=Qf hrd2;refine' Lk;refine Kt hS ?_;intro w1 hS;have hS:=hS.ns;refine' Lq;refine zC [(0,none),(1,none),(2,none),(3,none),(4,some (some [0])),(5,some none),(6,none),(7,some none)] ?_;have hS:=hS.drew;refine' KW;refine zv hS ?_;refine' Mu;refine' RQ;refine' Lp;refine KH (c:=gz (s:=s) hls hS fd) (p:=by rintro v9 w9 ⟨c,h3,rfl,hS⟩;(repeat (first|refine' Q6|refine' Q8|refine fun _=>?_));refine' Qe;refine .inr ⟨_,rfl,?_⟩;exact BW) (h:=?_);rintro v1 w1 ⟨t3,cs3,h3,rfl,hrd3,hS⟩;skip;refine' zt;refine ⟨Fe.2 ⟨DV,fun _ h=>(Fv h).elim⟩,?_⟩;refine' LG;refine' Kr (c:=je _ _ hrd2' hrd3 hS);rintro v1 w1 ⟨rfl,hS⟩;refine' KO;refine' PC;refine' Lk;refine KH (c:=Wl hS) (p:=by rintro v9 w9 ⟨rfl,hb,hS⟩;(repeat (first|refine' Q6|refine' Q8|refine fun _=>?_));refine' Qe;refine .inr ⟨_,rfl,?_⟩;exact BR) (h:=?_);rintro v1 w1 ⟨rfl,hb,hS⟩;refine' Lq;have hJ:Pw cx L j i (KK m j.f s x) (.tuple #[]) w1:=⟨rfl,cx,s,vl,css,FV hS,by rw [Vp Jo,Q3 h1,Q3 h2,Q3 h3,if_neg DG],hls,(Gn hS.sp hi)⟩;refine' LJ;exact AI)
                          | (refine' Kk
                             (refine' Kv;first|(refine' Ql)|(refine' Qp)|(refine' Ac<;>intro hc));all_goals (refine' KA)
                             all_goals
                              first
                              | (refine' Ki;refine' KP;refine' MD;refine MG (c:=W9 (s:=s) hls hS fd) (p:=by rintro v9 w9 ⟨c,h1,rfl,hS⟩;(repeat (first|refine' Q6|refine' Q8|refine fun _=>?_));refine' Qe;refine .inr ⟨_,rfl,?_⟩;exact ⟨_,by rw [ax Jo,Qw h1],rfl,(FK hS.sp hi)⟩) (h:=?_);rintro v1 w1 ⟨t1,cs1,h1,rfl,hrd1,hS⟩;obtain ⟨vd1,rfl,hld1⟩:=Qf hrd1;refine ZP rfl rfl ?_;refine' L6;refine' MD;refine MG (c:=Zp (s:=s) hls hS fd) (p:=by rintro v9 w9 ⟨c,h2,rfl,hS⟩;(repeat (first|refine' Q6|refine' Q8|refine fun _=>?_));refine' Qe;refine .inr ⟨_,rfl,?_⟩;exact ⟨_,by rw [ax Jo,Q3 h1,Qw h2],rfl,(FK hS.sp hi)⟩) (h:=?_);rintro v1 w1 ⟨t2,cs2,h2,rfl,hrd2,hS⟩;skip;refine' Ul;refine M9 [_,_,_] ?_;refine KH (c:=Zq (s:=s) Jo (PB (k:=4) (r:=t1.r) (l:=[]) (Gj _ _ _)) hls hS fd) (p:=by rintro v9 w9 ⟨rfl,h80,hS⟩;(repeat (first|refine' Q6|refine' Q8|refine fun _=>?_));refine' Qe;refine .inr ⟨_,rfl,?_⟩;exact ⟨_,by rw [ax Jo,Q3 h1,Q3 h2,dI h80],rfl,(FK hS.sp hi)⟩) (h:=?_);rintro v1 w1 ⟨rfl,hne,vl4,cs4,hls4,hS⟩;have hS:=hS.ns;have hJ:Pw cx L j i (KK m j.f s x) (.tuple #[]) w1:=⟨rfl,cx,⟨s.h,_⟩,vl4,cs4,FV hS,by rw [ax Jo,Q3 h1,Q3 h2,dH hne],hls4,(Gn hS.sp hi)⟩;refine' zn)
                              | (refine' Kk
                                 (refine' Kv;first|(refine' Ql)|(refine' Qp)|(refine' Ac<;>intro hc));all_goals (refine' KA)
                                 all_goals
                                  first
                                  | (refine' Ki;refine' KP;refine' MD;refine MG (c:=W9 (s:=s) hls hS fd) (p:=by rintro v9 w9 ⟨c,h1,rfl,hS⟩;(repeat (first|refine' Q6|refine' Q8|refine fun _=>?_));refine' Qe;refine .inr ⟨_,rfl,?_⟩;exact ⟨_,by rw [ay Jo,Qw h1],rfl,(FK hS.sp hi)⟩) (h:=?_);rintro v1 w1 ⟨t1,cs1,h1,rfl,hrd1,hS⟩;skip;refine' LN;refine' MD;refine MG (c:=Zp (s:=s) hls hS fd) (p:=by rintro v9 w9 ⟨c,h2,rfl,hS⟩;(repeat (first|refine' Q6|refine' Q8|refine fun _=>?_));refine' Qe;refine .inr ⟨_,rfl,?_⟩;exact ⟨_,by rw [ay Jo,Q3 h1,Qw h2],rfl,(FK hS.sp hi)⟩) (h:=?_);rintro v1 w1 ⟨t2,cs2,h2,rfl,hrd2,hS⟩;skip;refine' Ss;refine KH (c:=Zq (s:=s) Jo hN hls hS fd) (p:=by rintro v9 w9 ⟨rfl,h80,hS⟩;(repeat (first|refine' Q6|refine' Q8|refine fun _=>?_));refine' Qe;refine .inr ⟨_,rfl,?_⟩;exact ⟨_,by rw [ay Jo,Q3 h1,Q3 h2,dI h80],rfl,(FK hS.sp hi)⟩) (h:=?_);rintro v1 w1 ⟨rfl,hne,vl4,cs4,hls4,hS⟩;have hS:=hS.ns;have hJ:Pw cx L j i (KK m j.f s x) (.tuple #[]) w1:=⟨rfl,cx,⟨s.h,_⟩,vl4,cs4,FV hS,by rw [ay Jo,Q3 h1,Q3 h2,dH hne],hls4,(Gn hS.sp hi)⟩;refine' zn)
                                  | (refine' Kk
                                     (refine' Kv;first|(refine' Ql)|(refine' Qp)|(refine' Ac<;>intro hc));all_goals (refine' KA)
                                     all_goals
                                      first
                                      | (refine' Ki;refine' KP;refine' MD;refine MG (c:=W9 (s:=s) hls hS fd) (p:=by rintro v9 w9 ⟨c,h1,rfl,hS⟩;(repeat (first|refine' Q6|refine' Q8|refine fun _=>?_));refine' Qe;refine .inr ⟨_,rfl,?_⟩;exact ⟨_,by rw [aA Jo,Qw h1],rfl,(FK hS.sp hi)⟩) (h:=?_);rintro v1 w1 ⟨t1,cs1,h1,rfl,hrd1,hS⟩;skip;refine' LN;refine' MD;refine MG (c:=Zp (s:=s) hls hS fd) (p:=by rintro v9 w9 ⟨c,h2,rfl,hS⟩;(repeat (first|refine' Q6|refine' Q8|refine fun _=>?_));refine' Qe;refine .inr ⟨_,rfl,?_⟩;exact ⟨_,by rw [aA Jo,Q3 h1,Qw h2],rfl,(FK hS.sp hi)⟩) (h:=?_);rintro v1 w1 ⟨t2,cs2,h2,rfl,hrd2,hS⟩;skip;refine' zn;refine' LV;refine' MD;refine MG (c:=Zp (s:=s) hls hS fd) (p:=by rintro v9 w9 ⟨c,h3,rfl,hS⟩;(repeat (first|refine' Q6|refine' Q8|refine fun _=>?_));refine' Qe;refine .inr ⟨_,rfl,?_⟩;exact ⟨_,by rw [aA Jo,Q3 h1,Q3 h2,Qw h3],rfl,(FK hS.sp hi)⟩) (h:=?_);rintro v1 w1 ⟨t3,cs3,h3,rfl,hrd3,hS⟩;skip;refine' zn;have hJ:Pw cx L j i (KK m j.f s x) (.tuple #[]) w1:=⟨rfl,cx,s,vl,css,FV hS,by rw [aA Jo,Q3 h1,Q3 h2,Q3 h3],hls,(Gn hS.sp hi)⟩)
                                      | (refine' Kk
                                         (refine' Kv;first|(refine' Ql)|(refine' Qp)|(refine' Ac<;>intro hc));all_goals (refine' KA)
                                         all_goals
                                          first
                                          | (refine' Ki;refine' KP;refine' MD;refine MG (c:=W9 (s:=s) hls hS fd) (p:=by rintro v9 w9 ⟨c,h1,rfl,hS⟩;(repeat (first|refine' Q6|refine' Q8|refine fun _=>?_));refine' Qe;refine .inr ⟨_,rfl,?_⟩;exact ⟨_,by rw [dF Jo,Qw h1],rfl,(FK hS.sp hi)⟩) (h:=?_);rintro v1 w1 ⟨t1,cs1,h1,rfl,hrd1,hS⟩;skip;refine' Ss;refine KH (c:=Zq (s:=s) Jo hN hls hS fd) (p:=by rintro v9 w9 ⟨rfl,h80,hS⟩;(repeat (first|refine' Q6|refine' Q8|refine fun _=>?_));refine' Qe;refine .inr ⟨_,rfl,?_⟩;exact ⟨_,by rw [dF Jo,Q3 h1,dI h80],rfl,(FK hS.sp hi)⟩) (h:=?_);rintro v1 w1 ⟨rfl,hne,vl4,cs4,hls4,hS⟩;have hS:=hS.ns;have hJ:Pw cx L j i (KK m j.f s x) (.tuple #[]) w1:=⟨rfl,cx,⟨s.h,_⟩,vl4,cs4,FV hS,by rw [dF Jo,Q3 h1,dH hne],hls4,(Gn hS.sp hi)⟩;refine' zn)
                                          | (refine' Kk
                                             (refine' Kv;first|(refine' Ql)|(refine' Qp)|(refine' Ac<;>intro hc));all_goals (refine' KA)
                                             all_goals
                                              first
                                              | (refine' Ki;refine' LV;refine' MD;refine MG (c:=Zp (s:=s) hls hS fd) (p:=by rintro v9 w9 ⟨c,h1,rfl,hS⟩;(repeat (first|refine' Q6|refine' Q8|refine fun _=>?_));refine' Qe;refine .inr ⟨_,rfl,?_⟩;exact ⟨_,by rw [gi Jo,Qw h1],rfl,(FK hS.sp hi)⟩) (h:=?_);rintro v1 w1 ⟨t1,cs1,h1,rfl,hrd1,hS⟩;skip;refine' zn;have hJ:Pw cx L j i (KK m j.f s x) (.tuple #[]) w1:=⟨rfl,cx,s,vl,css,FV hS,by rw [gi Jo,Q3 h1],hls,(Gn hS.sp hi)⟩)
                                              | (refine' Kk
                                                 refine' Kv;refine' XZ
                                                 all_goals
                                                  first
                                                  | (refine' Ki;refine' OT;refine KH (c:=Zr hm (vQ hF Jo) hn hj hx' hls hS fd) (p:=by rintro v9 w9 ⟨c,g1,rfl,hS⟩;(repeat (first|refine' Q6|refine' Q8|refine fun _=>?_));refine' Qe;refine .inr ⟨_,rfl,?_⟩;exact ⟨_,by rw [dG Jo];exact g1,rfl,(FK hS.sp hi)⟩) (h:=?_);rintro v1 w1 ⟨rfl,c1,s1,vl4,cs4,hle,hr1,hls4,hS⟩;have hS:=hS.ns;have hJ:Pw cx L j i (KK m j.f s x) (.tuple #[]) w1:=⟨rfl,c1,s1,vl4,cs4,hle,by rw [dG Jo];exact hr1,hls4,(Gn hS.sp hi)⟩;refine' zn))))))
                             all_goals (refine' LJ;exact AI))))))
          | (refine' Ki;(refine' KP;refine' bN;refine' KE (c:=Wk hS fd);rintro v1 w1 ⟨rfl,hS⟩;first|(refine' Ql)|(refine' Qp)|(refine' Ac<;>intro hc));(all_goals (refine' Lv;refine' PK;(first|refine' Kj|(refine' Kl;refine Ro hS rfl fd rfl ?_));(first|refine' Kj|(refine' Kl;refine gy hS fd vw hlc ?_));first|refine' Kj|(refine' Kl;(first|(refine' Ql)|(refine' Qp)|(refine' Ac<;>intro hc))));all_goals (refine' Lu;first|(refine' Kr (c:=Rz hS);rintro v1 w1 ⟨rfl,hS⟩)|(refine KH (c:=RB hS) (p:=by rintro v9 w9 ⟨rfl,hS⟩;(repeat (first|refine' Q6|refine' Q8|refine fun _=>?_));refine' Qe;refine .inr ⟨_,rfl,?_⟩;exact ⟨_,by rw [gg Jo,if_pos Jo],rfl,(FK hS.sp hi)⟩) (h:=fun _ _ h=>h.elim))));refine' Ul;refine' bN;refine' KE (c:=Zm (h:=s.h) Jo hS fd);rintro v1 w1 ⟨rfl,hS⟩;have hS:=hS.ns;refine M9 [_,_,_] ?_;refine KH (c:=Zq (s:=s) Jo (PB (k:=2) (r:=s.h.length) (l:=[]) (Gj _ _ _)) hls hS fd) (p:=by rintro v9 w9 ⟨rfl,h80,hS⟩;(repeat (first|refine' Q6|refine' Q8|refine fun _=>?_));refine' Qe;refine .inr ⟨_,rfl,?_⟩;(exfalso;omega)) (h:=?_);rintro v1 w1 ⟨rfl,hne,vl4,cs4,hls4,hS⟩;have hS:=hS.ns;have hJ:Pw cx L j i (KK m j.f s x) (.tuple #[]) w1:=⟨rfl,cx,⟨s.h++[true],_⟩,vl4,cs4,FV hS,by rw [gg Jo,if_neg Jo],hls4,(Gn hS.sp hi)⟩;refine' zn;refine' LJ;exact AI)))
end
end Go.Proofs.YteflkifmgnpbhaaGreat
