/- Lemmas of the proof, part 5: what the functions of the program do (contracts), and what follows. -/
import Derived.Test.YteflkifmgnpbhaaGreatZ4
import Derived.Test.YteflkifmgnpbhaaGreatZ3
import Derived.Test.YteflkifmgnpbhaaGreatZ2
import Derived.Test.YteflkifmgnpbhaaGreatProg
import Derived.Test.YteflkifmgnpbhaaGreatZ1
namespace Go.Lir
set_option linter.unusedVariables false
def Frm.ρ (g:Frm) (r:Int):Int:=g.regs.getD r.toNat 0
def Own (f:Fun) (z:JS) (g:Frm) (k:Int):Prop:=∃r,hasB z.h r=true∧f.regs≤r∧g.ρ r=k
def Inj (f:Fun) (z:JS) (g:Frm):Prop:=∀r q,hasB z.h r=true→hasB z.h q=true→f.regs≤r→f.regs≤q→g.ρ r=g.ρ q→r=q
def Q41 (f:Fun) (g:Frm):List Int:=g.regs.take f.regs.toNat
structure FT (Ψ:HMap) (z:JS) (g:Frm):Prop where
 n:g.regs.length=z.h.length
 v:VTs Ψ g.vals (z.l.map fun t=> t.rn g.regs)
theorem FT.ext {Ψ Ψ':HMap}{z:JS}{g:Frm}(h:FT Ψ z g) (he:Ext Ψ Ψ'):FT Ψ' z g:=⟨h.n,h.v.ext he⟩
inductive Wt (m:Module) (Ψ:HMap):List Frm→Fun→List Int→(Int→Prop)→Prop where
 | nil {f:Fun}(hf:m.funcs[0]?=some f):Wt m Ψ [] f [] (fun _=> False)
 | cons {c:Frm}{st:List Frm}{fc gf:Fun}{bc:Block}{z z':JS}{x:Ins}{O:Int→Prop}(hf:m.funcs[c.f]?=some fc) (hb:fc.blocks[c.b]?=some bc) (hi:JInv m fc z) (ht:FT Ψ z c) (hx:x.op=14)
    (hF:QE m.funcs.length x=0) (hc:Q5q m z x= .ok z') (hg:m.funcs[x.k.toNat]?=some gf) (hr:(QI m fc c.f c.b bc.fin c.i z' (bc.code.drop c.i)).1=0)
    (hw:Wt m Ψ st fc (Q41 fc c) O) (hj:Inj fc z c) (hd:∀k,Own fc z c k→¬O k):Wt m Ψ (c::st) gf (x.regs.map c.ρ) (fun k=> Own fc z c k∨O k)
structure Safe (m:Module) (Ψ:HMap) (s:MS) (f:Fun) (b:Block) (z:JS) (O:Int→Prop):Prop where
 ty:HTy Ψ s.h
 hf:m.funcs[s.g.f]?=some f
 hb:f.blocks[s.g.b]?=some b
 run:(QI m f s.g.f s.g.b b.fin s.g.i z (b.code.drop s.g.i)).1=0
 inv:JInv m f z
 ft:FT Ψ z s.g
 wt:Wt m Ψ s.st f (Q41 f s.g) O
 inj:Inj f z s.g
 dis:∀k,Own f z s.g k→¬O k
 has:∀k,s.h.has k=true↔(Own f z s.g k∨O k)
def Qa5 (m:Module) (s:MS):Prop:=∃Ψ f b z O,Safe m Ψ s f b z O
section
variable {m:Module}{Ψ Ψ':HMap}{s:MS}{f:Fun}{b:Block}{z z':JS}{O:Int→Prop}{g:Frm}{k:Int}{t u:Ty}{v:Val}
theorem Wt.ext {st:List Frm}{kp:List Int}(h:Wt m Ψ st f kp O) (he:Ext Ψ Ψ'):Wt m Ψ' st f kp O:=by
 induction h with
 | nil hf=> exact .nil hf
 | cons hf hb hi ht hx hF hc hg hr hw hj hd ih=> exact .cons hf hb hi (ht.ext he) hx hF hc hg hr ih hj hd
theorem QcP (h0:0≤k) (hk:k < f.regs) (hl:f.regs≤g.regs.length):g.ρ k∈Q41 f g:=by
 unfold Frm.ρ Q41
 have h1:k.toNat < g.regs.length:=by omega
 rw [List.getD_eq_getElem?_getD,List.getElem?_eq_getElem h1]
 refine List.mem_of_getElem? (i:=k.toNat) ?_
 rw [List.getElem?_take_of_lt (by omega),List.getElem?_eq_getElem h1];rfl
theorem Q5p {x:Ins}{gf:Fun}(hc:Q5q m z x= .ok z') (hg:m.funcs[x.k.toNat]?=some gf):(x.regs.length:Int)=gf.regs∧Q2r z.h [] x.regs= .ok ()∧Q50 z x.args gf.params x.regs= .ok ()∧z'=⟨z.h,z.l++gf.results.map (renT x.regs)⟩:=by
 unfold Q5q at hc
 rw [hg] at hc
 dsimp only at hc
 split at hc
 · cases hc
 · rename_i hl
   obtain ⟨_,h1,hc⟩:=Q2 hc
   obtain ⟨_,h2,hc⟩:=Q2 hc
   split at hc
   · cases hc
   · cases hc
     exact ⟨by omega,h1,h2,rfl⟩
theorem Q7E (hi:JInv m f z):f.regs≤z.h.length:=by
 by_cases h:f.regs≤0
 · omega
 · have:=Q2g (hi.keep (f.regs - 1) (by omega) (by omega));omega
theorem Wt.kept {st:List Frm}{kp:List Int}(h:Wt m Ψ st f kp O):∀k∈kp,O k:=by
 induction h with
 | nil hf=> intro k hk;cases hk
 | @cons c st fc gf bc z z' x O hf hb hi ht hx hF hc hg hr hw hj hd ih=>
   intro k hk
   obtain ⟨r,hrx,rfl⟩:=List.mem_map.1 hk
   obtain ⟨_,h1,_⟩:=Q5p hc hg
   have hh:=Q4s h1 r hrx
   have hrg:=Q2g hh
   by_cases hlt:r < fc.regs
   · exact .inr (ih _ (QcP hrg.1 hlt (by rw [ht.n];exact Q7E hi)))
   · exact .inl ⟨r,hh,by omega,rfl⟩
theorem Safe.held (h:Safe m Ψ s f b z O){r:Int}(hr:hasB z.h r=true):s.h.has (s.g.ρ r)=true:=by
 have hrg:=Q2g hr
 rw [h.has]
 by_cases hlt:r < f.regs
 · exact .inr (h.wt.kept _ (QcP hrg.1 hlt (by rw [h.ft.n];exact Q7E h.inv)))
 · exact .inl ⟨r,hr,by omega,rfl⟩
theorem Qai (ht:FT Ψ z g) (h:jval z k= .ok t):∃v,g.val k=some v∧VT Ψ v (t.rn g.regs):=by
 obtain ⟨h0,h1⟩:=Q9J h
 obtain ⟨v,h2,h3⟩:=ht.v.get (i:=k.toNat) (t:=t.rn g.regs) (by rw [List.getElem?_map,h1];rfl)
 exact ⟨v,by unfold Frm.val;rw [if_neg (by omega)];exact h2,h3⟩
theorem kind_of {kd:Int}(ht:FT Ψ z g) (h:Q2b z k kd= .ok t):∃v,g.val k=some v∧VT Ψ v (t.rn g.regs)∧t.kind=kd:=by
 obtain ⟨v,h1,h2⟩:=Qai ht (QfT h)
 exact ⟨v,h1,h2,(Q9M h).2.2⟩
theorem Q6K (ht:FT Ψ z g) (h:Q2b z k 1= .ok t):∃n,g.num k=some n:=by
 obtain ⟨v,h1,h2,h3⟩:=kind_of ht h
 have h4:=h2.kind
 rw [Ty.rn_kind,h3] at h4
 exact ⟨v.n,by unfold Frm.num;rw [h1];exact if_pos h4⟩
theorem Safe.at_ (h:Safe m Ψ s f b z O){kd:Int}(hj:jat z k kd= .ok t) (hk:kd≠1):∃v,s.g.val k=some v∧VT Ψ v (t.rn s.g.regs)∧(t.rn s.g.regs).kind=kd∧v.kind=kd∧s.h.has (t.rn s.g.regs).r=true∧(t.rn s.g.regs).r=s.g.ρ t.r:=by
 obtain ⟨v,h1,h2⟩:=Qai h.ft (Qg0 hj)
 obtain ⟨_,_,h3,h4⟩:=Q91 hj
 have h5:(t.rn s.g.regs).kind=kd:=by rw [Ty.rn_kind,h3]
 have h6:(t.rn s.g.regs).r=s.g.ρ t.r:=Ty.rn_r _ (by omega)
 exact ⟨v,h1,h2,h5,by rw [h2.kind,h5],by rw [h6];exact h.held h4,h6⟩
theorem QgK (ht:FT Ψ z g):∀{l:List Int}{ts:List Ty},jfields z l= .ok ts→∃vs,g.args l=some vs∧VTs Ψ vs (ts.map fun t=> t.rn g.regs)
 | [],ts,h=> by rw [jfields] at h;cases h;exact ⟨[],rfl,VTs.nil Ψ⟩
 | k::l,ts,h=> by
   rw [jfields] at h
   obtain ⟨t,h1,h⟩:=Q2 h
   obtain ⟨us,h2,h⟩:=Q2 h
   cases h
   obtain ⟨v,h3,h4⟩:=Qai ht h1
   obtain ⟨vs,h5,h6⟩:=QgK ht h2
   exact ⟨v::vs,by rw [Frm.args,h3,h5],VTs.cons h4 h6⟩
theorem Qd7 (ht:FT Ψ z g){regs:List Int}:∀{l:List Int}{want:List Ty},l.length=want.length→Q26 z regs l want= .ok ()→∃vs,g.args l=some vs∧VTs Ψ vs (want.map fun t=> (t.rn regs).rn g.regs)
 | [],[],_,_=> ⟨[],rfl,VTs.nil Ψ⟩
 | [],_::_,hl,_=> by simp at hl
 | _::_,[],hl,_=> by simp at hl
 | k ::l,u::want,hl,h=> by
   rw [Q26] at h
   obtain ⟨t,h1,h⟩:=Q2 h
   cases hu:u.ren regs with
   | none=> rw [hu] at h;cases h
   | some u'=>
     rw [hu] at h
     dsimp only at h
     split at h
     · cases h
     · rename_i he
       have he:t=u':=Classical.not_not.1 he
       obtain ⟨v,h3,h4⟩:=Qai ht h1
       obtain ⟨vs,h5,h6⟩:=Qd7 ht (by simpa using hl) h
       rw [he,Ty.rn_of u u' hu] at h4
       exact ⟨v::vs,by rw [Frm.args,h3,h5],VTs.cons h4 h6⟩
theorem Q83 (ht:FT Ψ z g){regs l:List Int}{want:List Ty}(h:Q50 z l want regs= .ok ()):∃vs,g.args l=some vs∧VTs Ψ vs (want.map fun t=> (t.rn regs).rn g.regs):=by
 unfold Q50 at h
 split at h
 · cases h
 · rename_i hl
   exact Qd7 ht (by omega) h
theorem rgs_of {l:List Int}(hn:g.regs.length=z.h.length) (h:∀r∈l,hasB z.h r=true):g.rgs l=some (l.map g.ρ):=by
 induction l with
 | nil=> rfl
 | cons r l ih=>
   have h1:=Q2g (h r (List.mem_cons_self ..))
   have h2:g.reg r=some (g.ρ r):=by
    unfold Frm.reg Frm.ρ
    rw [if_neg (by omega),List.getD_eq_getElem?_getD,List.getElem?_eq_getElem (by omega)];rfl
   rw [Frm.rgs,h2,ih fun q hq=> h q (List.mem_cons_of_mem _ hq)];rfl
theorem Qbg {g g':Frm}(h:g.vals=g'.vals):∀l:List Int,g.args l=g'.args l
 | []=> rfl
 | k::l=> by
   have h1:g.val k=g'.val k:=by unfold Frm.val;rw [h]
   rw [Frm.args,Frm.args,h1,Qbg h l]
theorem QcQ {g g':Frm}(h:g.regs=g'.regs):∀l:List Int,g.rgs l=g'.rgs l
 | []=> rfl
 | k::l=> by
   have h1:g.reg k=g'.reg k:=by unfold Frm.reg;rw [h]
   rw [Frm.rgs,Frm.rgs,h1,QcQ h l]
theorem QaL (s:MS) (l:List Int):s.next.g.args l=s.g.args l:=Qbg (g:=s.next.g) (g':=s.g) rfl l
theorem next_rgs (s:MS) (l:List Int):s.next.g.rgs l=s.g.rgs l:=QcQ (g:=s.next.g) (g':=s.g) rfl l
theorem Safe.ins (h:Safe m Ψ s f b z O){x:Ins}(hx:b.code[s.g.i]?=some x):QE m.funcs.length x=0∧jins m f z x= .ok (jIns m f z x).2∧(QI m f s.g.f s.g.b b.fin (s.g.i+1) (jIns m f z x).2 (b.code.drop (s.g.i+1))).1=0:=by
 have h1:=h.run
 rw [Q7 hx] at h1
 by_cases hc:(jIns m f z x).1=0
 · rw [Q5Z hc] at h1
   obtain ⟨h2,h3⟩:=Qg1 hc
   exact ⟨h2,h3,h1⟩
 · rw [Q5Y hc] at h1
   exact absurd h1 hc
theorem Safe.more (h:Safe m Ψ s f b z O){h':HpS}{ts:List Ty}{vs:List Val}{inp out:List Int}{fuel:Nat}(hH:HTy Ψ' h') (hE:Ext Ψ Ψ') (hhas:∀q,h'.has q=s.h.has q) (hz:z'=⟨z.h,z.l++ts⟩)
 (hv:VTs Ψ' vs (ts.map fun t=> t.rn s.g.regs)) (hr:(QI m f s.g.f s.g.b b.fin (s.g.i+1) z' (b.code.drop (s.g.i+1))).1=0) (hi:JInv m f z'):
 Safe m Ψ' ⟨h',⟨s.g.f,s.g.b,s.g.i+1,s.g.vals++vs,s.g.regs⟩,s.st,inp,out,fuel⟩ f b z' O:=by
 subst hz
 refine ⟨hH,h.hf,h.hb,hr,hi,⟨h.ft.n,?_⟩,h.wt.ext hE,h.inj,h.dis,fun k=> ?_⟩
 · show VTs Ψ' (s.g.vals++vs) ((z.l++ts).map fun t=> t.rn s.g.regs)
   rw [List.map_append]
   exact (h.ft.v.ext hE).app hv
 · show h'.has k=true↔_
   rw [hhas];exact h.has k
def StS (m:Module):Stp→Prop
 | .go s=> Qa5 m s
 | .halt _=> True
 | .done _=> True
 | .lost=> False
theorem Q4u (h:jput z t= .ok z'):z'=⟨z.h,z.l++[t]⟩:=by
 obtain ⟨_,h1,h2⟩:=Q9L h
 obtain ⟨a,l⟩:=z'
 dsimp only at h1 h2
 rw [h1,h2]
theorem Qd8 (Ψ:HMap) (n:Int) (f:List Int):VT Ψ (intV n) (number.rn f):=by
 unfold number
 rw [Ty.rn_mk]
 exact ⟨rfl,fun h=> absurd rfl h,fun h=> by cases h <;> rename_i h <;> cases h⟩
theorem get_int {h:HpS}{y:Val}(hk:y.kind=1) (f:List Int):VT Ψ y (number.rn f):=by
 unfold number
 rw [Ty.rn_mk]
 exact ⟨hk,fun h=> absurd rfl h,fun h=> by cases h <;> rename_i h <;> cases h⟩
theorem ext_len (hM:m.fault.1=0) (hm:m.Short) (h:Safe m Ψ s f b z O){x:Ins}(hx:b.code[s.g.i]?=some x) (hop:x.op≠3) (hop4:x.op≠4) (hop14:x.op≠14):StS m ((s.next).ins m x):=by
 obtain ⟨hF,hj,hrun⟩:=h.ins hx
 have hinv:=Q7d hM hm h.inv hF hj
 have hopr:=Q2X hF
 have hft:=h.ft
 have e0:s.next.g.num=s.g.num:=rfl
 have same:∀(q:Int),s.h.has q=s.h.has q:=fun _=> rfl
 generalize (jIns m f z x).2=z' at hj hrun hinv
 unfold MS.ins
 rcases op_cases (op:=x.op) (by omega) (by omega) with e|e|e|e|e|e|e|e|e|e|e|e|e|e
 · rw [if_pos e]
   rw [Q6M (.inl e)] at hj
   exact ⟨_,_,_,_,_,h.more h.ty (Ext.refl _) same (Q4u hj) (VTs.one (Qd8 Ψ _ _)) hrun hinv⟩
 · rw [if_neg (by omega),if_pos e]
   rw [Q81 e] at hj
   obtain ⟨t1,h1,hj⟩:=Q2 hj;obtain ⟨t2,h2,hj⟩:=Q2 hj
   obtain ⟨a,ha⟩:=Q6K hft h1
   obtain ⟨c,hc⟩:=Q6K hft h2
   rw [Qb (show s.next.g.num x.a=some a from ha),Qb (show s.next.g.num x.b=some c from hc)]
   split
   · exact trivial
   · exact ⟨_,_,_,_,_,h.more h.ty (Ext.refl _) same (Q4u hj) (VTs.one (Qd8 Ψ _ _)) hrun hinv⟩
 · exact absurd e hop
 · exact absurd e hop4
 · rw [if_neg (by omega),if_neg (by omega),if_neg (by omega),if_neg (by omega),if_pos e]
   rw [QaT e] at hj
   unfold Q59 at hj
   obtain ⟨t,h1,hj⟩:=Q2 hj;obtain ⟨ts,h2,hj⟩:=Q2 hj
   split at hj
   · cases hj
   · obtain ⟨v,g1,g2,g3,g4,g5,g6⟩:=h.at_ h1 (by decide)
     obtain ⟨vs,k1,k2⟩:=QgK hft h2
     rw [Qb (show s.next.g.val x.a=some v from g1),Qb ((QaL s x.args).trans k1)]
     unfold MS.made
     rcases code_of g2 g3 g5 (QZ vs) with hc|hc
     · rw [show s.next.h.code v (QZ vs)=0 from hc,if_neg (by decide),if_neg (by decide)]
       have hreg:=g2.reg (by omega)
       have hT:((Ty.mk 3 t.r ts).rn s.g.regs).r=v.region:=by rw [Ty.rn_mr _ (by decide),hreg,g6];rfl
       have hK:((Ty.mk 3 t.r ts).rn s.g.regs).kind=3:=Ty.rn_kind _ _
       have hL:((Ty.mk 3 t.r ts).rn s.g.regs).l=ts.map fun t=> t.rn s.g.regs:=Ty.rn_l _ _
       obtain ⟨p1,p2,p3,p4⟩:=Qga (t:=(Ty.mk 3 t.r ts).rn s.g.regs) (n:=QZ vs) (x:=⟨false,vs⟩) h.ty hc hT (.inl hK) (ThOK.tup hK (by rw [hL];exact k2))
       rw [hK] at p4
       exact ⟨_,_,_,_,_,h.more p1 p2 p3 (Q4u hj) (VTs.one p4) hrun hinv⟩
     · rw [show s.next.h.code v (QZ vs)=14 from hc,if_pos rfl];exact trivial
 · rw [if_neg (by omega),if_neg (by omega),if_neg (by omega),if_neg (by omega),if_neg (by omega),if_pos e]
   rw [Q80 e] at hj
   obtain ⟨t,h1,hj⟩:=Q2 hj;obtain ⟨u,h2,hj⟩:=Q2 hj
   obtain ⟨v,g1,g2,g3,g4,g5,g6⟩:=h.at_ h1 (by decide)
   have hk0:0≤x.k:=by unfold QE Q1m at hF;simp [e] at hF;omega
   have hu:(t.rn s.g.regs).l[x.k.toNat]?=some (u.rn s.g.regs):=by rw [Ty.rn_l,List.getElem?_map,Q5H h2];rfl
   obtain ⟨q1,q2⟩:=get_of h.ty g2 g3 g5 hk0 hu
   rw [Qb (show s.next.g.val x.a=some v from g1),if_neg (by omega),if_neg (by rw [show s.next.h.get v x.k=s.h.get v x.k from rfl,q1];decide)]
   exact ⟨_,_,_,_,_,h.more h.ty (Ext.refl _) same (Q4u hj) (VTs.one q2) hrun hinv⟩
 · rw [if_neg (by omega),if_neg (by omega),if_neg (by omega),if_neg (by omega),if_neg (by omega),if_neg (by omega),if_pos e]
   rw [Q2z e] at hj
   obtain ⟨t,h1,hj⟩:=Q2 hj;obtain ⟨u,h2,hj⟩:=Q2 hj;obtain ⟨w,h3,hj⟩:=Q2 hj
   split at hj
   · cases hj
   · rename_i huw
     have huw:u=w:=Classical.not_not.1 huw
     subst huw
     obtain ⟨v,g1,g2,g3,g4,g5,g6⟩:=h.at_ h1 (by decide)
     obtain ⟨y,y1,y2⟩:=Qai hft h3
     have hk0:0≤x.k:=by unfold QE Q1m at hF;simp [e] at hF;omega
     have hu:(t.rn s.g.regs).l[x.k.toNat]?=some (u.rn s.g.regs):=by rw [Ty.rn_l,List.getElem?_map,Q5H h2];rfl
     have q1:=setC_of h.ty g2 g3 g5 hk0 hu y
     rw [Qb (show s.next.g.val x.a=some v from g1),if_neg (by omega),Qb (show s.next.g.val x.b=some y from y1),if_neg (by rw [show s.next.h.setC v x.k y=s.h.setC v x.k y from rfl,q1];decide)]
     obtain ⟨p1,p2⟩:=Qg9 (i:=x.k) (y:=y) h.ty g2 (.inl g3) g5 (fun _ u' hu'=> by rw [hu] at hu';cases hu';exact y2) (fun h4=> by omega)
     have hz:z'=⟨z.h,z.l++[]⟩:=by cases hj;rw [List.append_nil]
     have hmore:=h.more (inp:=s.inp) (out:=s.out) (fuel:=s.fuel) p1 (Ext.refl _) p2 hz (VTs.nil Ψ) hrun hinv
     rw [List.append_nil] at hmore
     exact ⟨_,_,_,_,_,hmore⟩
 · rw [if_neg (by omega),if_neg (by omega),if_neg (by omega),if_neg (by omega),if_neg (by omega),if_neg (by omega),if_neg (by omega),if_pos e]
   rw [Q7Z e] at hj
   obtain ⟨t,h1,hj⟩:=Q2 hj;obtain ⟨t2,h2,hj⟩:=Q2 hj
   obtain ⟨v,g1,g2,g3,g4,g5,g6⟩:=h.at_ h1 (by decide)
   obtain ⟨n,hn⟩:=Q6K hft h2
   rw [Qb (show s.next.g.val x.a=some v from g1),Qb (show s.next.g.num x.b=some n from hn)]
   by_cases hr:n < 0∨15 < n
   · rw [if_pos hr];exact trivial
   · rw [if_neg hr]
     unfold HpS.arrC HpS.arr HpS.arrV
     rw [if_neg hr,if_neg hr,if_neg hr]
     unfold MS.made
     rcases code_of g2 g3 g5 (n+1) with hc|hc
     · rw [show s.next.h.code v (n+1)=0 from hc,if_neg (by decide),if_neg (by decide)]
       have hreg:=g2.reg (by omega)
       have hT:((Ty.mk 4 t.r []).rn s.g.regs).r=v.region:=by rw [Ty.rn_mr _ (by decide),hreg,g6];rfl
       have hK:((Ty.mk 4 t.r []).rn s.g.regs).kind=4:=Ty.rn_kind _ _
       have hth:ThOK Ψ ⟨true,Q1R n⟩ ((Ty.mk 4 t.r []).rn s.g.regs):=ThOK.arr hK (by unfold Q1R;rw [List.length_replicate];omega) (fun y hy=> by unfold Q1R at hy;rw [List.eq_of_mem_replicate hy])
       obtain ⟨p1,p2,p3,p4⟩:=Qga (t:=(Ty.mk 4 t.r []).rn s.g.regs) (n:=n+1) (x:=⟨true,Q1R n⟩) h.ty hc hT (.inr hK) hth
       rw [hK] at p4
       exact ⟨_,_,_,_,_,h.more p1 p2 p3 (Q4u hj) (VTs.one p4) hrun hinv⟩
     · rw [show s.next.h.code v (n+1)=14 from hc,if_pos rfl];exact trivial
 · rw [if_neg (by omega),if_neg (by omega),if_neg (by omega),if_neg (by omega),if_neg (by omega),if_neg (by omega),if_neg (by omega),if_neg (by omega),if_pos e]
   rw [Q7Y e] at hj
   obtain ⟨t,h1,hj⟩:=Q2 hj;obtain ⟨t2,h2,hj⟩:=Q2 hj
   obtain ⟨v,g1,g2,g3,g4,g5,g6⟩:=h.at_ h1 (by decide)
   obtain ⟨n,hn⟩:=Q6K hft h2
   rw [Qb (show s.next.g.val x.a=some v from g1),Qb (show s.next.g.num x.b=some n from hn)]
   unfold Q2A
   rw [if_neg (by omega)]
   rcases geta_of h.ty g2 g3 g5 n with hc|⟨hc,hk⟩
   · rw [if_pos (show (s.next.h.get v n).2=1 from hc)];exact trivial
   · rw [if_neg (by rw [show s.next.h.get v n=s.h.get v n from rfl,hc];decide),if_neg (by rw [show s.next.h.get v n=s.h.get v n from rfl,hc];decide)]
     exact ⟨_,_,_,_,_,h.more h.ty (Ext.refl _) same (Q4u hj) (VTs.one (get_int (h:=s.h) hk _)) hrun hinv⟩
 · rw [if_neg (by omega),if_neg (by omega),if_neg (by omega),if_neg (by omega),if_neg (by omega),if_neg (by omega),if_neg (by omega),if_neg (by omega),if_neg (by omega),if_pos e]
   rw [Q5o e] at hj
   obtain ⟨t,h1,hj⟩:=Q2 hj;obtain ⟨t2,h2,hj⟩:=Q2 hj;obtain ⟨t3,h3,hj⟩:=Q2 hj
   obtain ⟨v,g1,g2,g3,g4,g5,g6⟩:=h.at_ h1 (by decide)
   obtain ⟨n,hn⟩:=Q6K hft h2
   obtain ⟨c,hc⟩:=Q6K hft h3
   rw [Qb (show s.next.g.val x.a=some v from g1),Qb (show s.next.g.num x.b=some n from hn),Qb (show s.next.g.num x.c=some c from hc)]
   unfold Q2A
   rw [if_neg (by omega)]
   rcases setCa_of h.ty g2 g3 g5 n (y:=intV c) rfl with hq|hq
   · rw [if_neg (by rw [show s.next.h.setC v n (intV c)=s.h.setC v n (intV c) from rfl,hq];decide),if_neg (by rw [show s.next.h.setC v n (intV c)=s.h.setC v n (intV c) from rfl,hq];decide)]
     obtain ⟨p1,p2⟩:=Qg9 (i:=n) (y:=intV c) h.ty g2 (.inr g3) g5 (fun h3=> by omega) (fun _=> rfl)
     have hz:z'=⟨z.h,z.l++[]⟩:=by cases hj;rw [List.append_nil]
     have hmore:=h.more (inp:=s.inp) (out:=s.out) (fuel:=s.fuel) p1 (Ext.refl _) p2 hz (VTs.nil Ψ) hrun hinv
     rw [List.append_nil] at hmore
     exact ⟨_,_,_,_,_,hmore⟩
   · rw [if_pos (show s.next.h.setC v n (intV c)=1 from hq)];exact trivial
 · rw [if_neg (by omega),if_neg (by omega),if_neg (by omega),if_neg (by omega),if_neg (by omega),if_neg (by omega),if_neg (by omega),if_neg (by omega),if_neg (by omega),if_neg (by omega),if_pos e]
   rw [Q6u e] at hj
   obtain ⟨t,h1,hj⟩:=Q2 hj
   obtain ⟨v,g1,g2,g3,g4,g5,g6⟩:=h.at_ h1 (by decide)
   have hq:=len_of h.ty g2 g3 g5
   rw [Qb (show s.next.g.val x.a=some v from g1)]
   unfold Q2A
   rw [if_neg (by omega),if_neg (by rw [show s.next.h.len v=s.h.len v from rfl,hq];decide),if_neg (by rw [show s.next.h.len v=s.h.len v from rfl,hq];decide)]
   exact ⟨_,_,_,_,_,h.more h.ty (Ext.refl _) same (Q4u hj) (VTs.one (Qd8 Ψ _ _)) hrun hinv⟩
 · rw [if_neg (by omega),if_neg (by omega),if_neg (by omega),if_neg (by omega),if_neg (by omega),if_neg (by omega),if_neg (by omega),if_neg (by omega),if_neg (by omega),if_neg (by omega),if_neg (by omega),if_pos e]
   rw [Q6M (.inr e)] at hj
   unfold MS.inS
   split
   · exact trivial
   · exact ⟨_,_,_,_,_,h.more h.ty (Ext.refl _) same (Q4u hj) (VTs.one (Qd8 Ψ _ _)) hrun hinv⟩
 · rw [if_neg (by omega),if_neg (by omega),if_neg (by omega),if_neg (by omega),if_neg (by omega),if_neg (by omega),if_neg (by omega),if_neg (by omega),if_neg (by omega),if_neg (by omega),if_neg (by omega),if_neg (by omega),if_pos e]
   rw [Q82 e] at hj
   obtain ⟨t,h1,hj⟩:=Q2 hj
   obtain ⟨n,hn⟩:=Q6K hft h1
   rw [Qb (show s.next.g.num x.a=some n from hn)]
   unfold MS.outS
   split
   · exact trivial
   · have hz:z'=⟨z.h,z.l++[]⟩:=by cases hj;rw [List.append_nil]
     have hmore:=h.more (inp:=s.inp) (out:=s.out++[n]) (fuel:=s.fuel) h.ty (Ext.refl _) same hz (VTs.nil Ψ) hrun hinv
     rw [List.append_nil] at hmore
     exact ⟨_,_,_,_,_,hmore⟩
 · exact absurd e hop14
end
end Go.Lir
namespace Go.Lir
set_option linter.unusedVariables false
section
variable {m:Module}{Ψ Ψ':HMap}{s:MS}{f:Fun}{b:Block}{z z':JS}{O:Int→Prop}{g:Frm}{k:Int}{t u:Ty}{v:Val}
theorem Q88 {l:List Bool}{r:Int}(h0:0≤r) (h1:l[r.toNat]?=some true):hasB l r=true:=by
 have:=(List.getElem?_eq_some_iff.1 h1).1
 unfold hasB
 rw [List.getD_eq_getElem?_getD,h1]
 simp;omega
theorem Q9R {l:List Bool}{r:Int}(h:hasB l r=true):0≤r∧l[r.toNat]?=some true:=by
 obtain ⟨h0,h1,h2⟩:=Q45 h
 rw [List.getD_eq_getElem?_getD] at h2
 cases hx:l[r.toNat]? with
 | none=> rw [hx] at h2;cases h2
 | some y=> rw [hx] at h2;exact ⟨h0,by rw [show y=true from h2]⟩
theorem hasB_snoc {l:List Bool}{r:Int}(h:hasB (l++[true]) r=true):hasB l r=true∨r=l.length:=by
 obtain ⟨h0,h1⟩:=Q9R h
 by_cases hr:r < l.length
 · rw [List.getElem?_append_left (by omega)] at h1;exact .inl (Q88 h0 h1)
 · have:=(List.getElem?_eq_some_iff.1 h1).1
   rw [List.length_append] at this
   simp only [List.length_cons,List.length_nil] at this
   exact .inr (by omega)
theorem Qcb {l:List Bool}{r:Int}(h:hasB l r=true):hasB (l++[true]) r=true:=Qd9 h
theorem Qca (l:List Bool):hasB (l++[true]) l.length=true:=Q88 (by omega) (by rw [Int.toNat_natCast,List.getElem?_append_right (Nat.le_refl _),Nat.sub_self];rfl)
theorem Q4y {l:List Bool}{r q:Int}(h0:0≤q):hasB (l.set q.toNat false) r=true↔hasB l r=true∧r≠q:=by
 constructor
 · intro h
   obtain ⟨h1,h2⟩:=Q9R h
   rw [List.getElem?_set] at h2
   split at h2
   · split at h2 <;> cases h2
   · rename_i hne;exact ⟨Q88 h1 h2,by omega⟩
 · rintro ⟨h1,h2⟩
   obtain ⟨h3,h4⟩:=Q9R h1
   exact Q88 h3 (by rw [List.getElem?_set,if_neg (by omega)];exact h4)
theorem hasB_all {n:Nat}{r:Int}:hasB (List.replicate n true) r=true↔0≤r∧r < n:=by
 constructor
 · intro h;have:=Q2g h;rw [List.length_replicate] at this;exact this
 · rintro ⟨h1,h2⟩;exact Q88 h1 (by rw [List.getElem?_replicate,if_pos (by omega)])
theorem Qdb {l:List Int}{a:Int}{i:Nat}(h:i < l.length):(l++[a]).getD i 0=l.getD i 0:=by
 rw [List.getD_eq_getElem?_getD,List.getElem?_append_left h,←List.getD_eq_getElem?_getD]
theorem Q9T {l:List Int}{fn:Int→Int}{i:Nat}(h:i < l.length):(l.map fn).getD i 0=fn (l.getD i 0):=by
 rw [List.getD_eq_getElem?_getD,List.getElem?_map,List.getElem?_eq_getElem h,List.getD_eq_getElem?_getD,List.getElem?_eq_getElem h];rfl
theorem kept_app {a:Int}{i:Nat}{vs:List Val}(hl:f.regs≤g.regs.length):Q41 f ⟨g.f,g.b,i,vs,g.regs++[a]⟩=Q41 f g:=by
 unfold Q41
 exact List.take_append_of_le_length (by omega)
theorem not_new (h:Safe m Ψ s f b z O):s.h.has s.h.l.length=false:=by
 cases hx:s.h.has s.h.l.length with
 | false=> rfl
 | true=> have:=Q29 hx;omega
theorem safe_new (hM:m.fault.1=0) (hm:m.Short) (h:Safe m Ψ s f b z O){x:Ins}(hx:b.code[s.g.i]?=some x) (hop:x.op=3):StS m ((s.next).ins m x):=by
 obtain ⟨hF,hj,hrun⟩:=h.ins hx
 have hinv:=Q7d hM hm h.inv hF hj
 have hrl:=Q7E h.inv
 have hn:=h.ft.n
 unfold MS.ins
 rw [if_neg (by omega),if_neg (by omega),if_pos hop]
 unfold MS.newR
 by_cases hfu:s.h.full=true
 · rw [if_pos (show s.next.h.full=true from hfu)];exact trivial
 · rw [if_neg (show¬s.next.h.full=true from hfu)]
   rw [QaU hop] at hj
   split at hj
   · cases hj
   · generalize (jIns m f z x).2=z' at hj hrun hinv
     cases hj
     have eo:s.h.open=⟨s.h.l++[⟨true,[],0,0⟩],s.h.left⟩:=by unfold HpS.open;rw [if_neg hfu]
     have ev:s.h.openV=⟨2,s.h.l.length,0,0⟩:=by unfold HpS.openV;rw [if_neg hfu]
     show Qa5 m ⟨s.h.open,⟨s.g.f,s.g.b,s.g.i+1,s.g.vals++[s.h.openV],s.g.regs++[s.h.openV.region]⟩,s.st,s.inp,s.out,s.fuel⟩
     rw [ev]
     have hrho:∀r:Int,hasB z.h r=true→(⟨s.g.f,s.g.b,s.g.i+1,s.g.vals++[⟨2,s.h.l.length,0,0⟩],s.g.regs++[(s.h.l.length:Int)]⟩:Frm).ρ r=s.g.ρ r:=fun r hr=> by
      have:=Q2g hr
      unfold Frm.ρ
      exact Qdb (by omega)
     have hrhn:(⟨s.g.f,s.g.b,s.g.i+1,s.g.vals++[⟨2,s.h.l.length,0,0⟩],s.g.regs++[(s.h.l.length:Int)]⟩:Frm).ρ z.h.length=s.h.l.length:=by
      unfold Frm.ρ
      rw [Int.toNat_natCast,←hn,List.getD_eq_getElem?_getD,List.getElem?_append_right (Nat.le_refl _),Nat.sub_self];rfl
     have hhas:∀q,s.h.open.has q=true↔(s.h.has q=true∨q=s.h.l.length):=fun q=> by
      unfold HpS.has
      rw [eo,Q9y]
      by_cases hq:q=s.h.l.length
      · rw [if_pos hq];exact ⟨fun _=> .inr hq,fun _=> rfl⟩
      · rw [if_neg hq];exact ⟨fun hh=> .inl hh,fun hh=> hh.elim id fun hh=> absurd hh hq⟩
     have hnn:=not_new h
     refine ⟨Ψ,f,b,_,O,hty_open h.ty,h.hf,h.hb,hrun,hinv,⟨by show (s.g.regs++[_]).length=(z.h++[true]).length;rw [List.length_append,List.length_append,hn];rfl,?_⟩,?_,?_,?_,fun q=> ?_⟩
     · show VTs Ψ (s.g.vals++[_]) ((z.l++[Ty.mk 2 z.h.length []]).map fun t=> t.rn (s.g.regs++[(s.h.l.length:Int)]))
       rw [List.map_append]
       refine VTs.app ?_ (VTs.one ?_)
       · have e9:(z.l.map fun t=> t.rn (s.g.regs++[(s.h.l.length:Int)]))=z.l.map fun t=> t.rn s.g.regs:=List.map_congr_left fun t ht=> Ty.rn_congr (n:=z.h.length) (fun i hi=> Qdb (by omega)) t (h.inv.wf t ht)
         rw [e9];exact h.ft.v
       · show VT Ψ ⟨2,s.h.l.length,0,0⟩ ((Ty.mk 2 z.h.length []).rn (s.g.regs++[(s.h.l.length:Int)]))
         rw [Ty.rn_mk]
         refine ⟨rfl,fun _=> ?_,fun h9=> by cases h9 <;> rename_i h9 <;> cases h9⟩
         rw [if_pos (show (2:Int)≠1 by decide)]
         exact hrhn.symm
     · rw [show Q41 f ⟨s.g.f,s.g.b,s.g.i+1,s.g.vals++[⟨2,s.h.l.length,0,0⟩],s.g.regs++[(s.h.l.length:Int)]⟩=Q41 f s.g from kept_app (by omega)]
       exact h.wt
     · intro r q hr hq h1 h2 he
       rcases hasB_snoc hr with hr|rfl
       · rcases hasB_snoc hq with hq|rfl
         · rw [hrho r hr,hrho q hq] at he;exact h.inj r q hr hq h1 h2 he
         · rw [hrho r hr,hrhn] at he
           have:=h.held hr;rw [he,hnn] at this;cases this
       · rcases hasB_snoc hq with hq|rfl
         · rw [hrhn,hrho q hq] at he
           have:=h.held hq;rw [←he,hnn] at this;cases this
         · rfl
     · rintro q ⟨r,hr,h1,rfl⟩ hO
       rcases hasB_snoc hr with hr|rfl
       · rw [hrho r hr] at hO;exact h.dis _ ⟨r,hr,h1,rfl⟩ hO
       · rw [hrhn] at hO
         have:=(h.has s.h.l.length).2 (.inr hO)
         rw [hnn] at this;cases this
     · rw [hhas,h.has]
       constructor
       · rintro ((⟨r,hr,h1,rfl⟩|hO)|rfl)
         · exact .inl ⟨r,Qcb hr,h1,hrho r hr⟩
         · exact .inr hO
         · exact .inl ⟨z.h.length,Qca _,hrl,hrhn⟩
       · rintro (⟨r,hr,h1,rfl⟩|hO)
         · rcases hasB_snoc hr with hr|rfl
           · exact .inl (.inl ⟨r,hr,h1,(hrho r hr).symm⟩)
           · exact .inr hrhn
         · exact .inl (.inr hO)
theorem shut_has (hc:s.h.can v=true) (q:Int):(s.h.shut v).has q=true↔s.h.has q=true∧q≠v.region:=by
 have e:s.h.shut v=⟨s.h.l.set v.region.toNat Rgn.none,s.h.left+(s.h.reg v.region).pages⟩:=by unfold HpS.shut;rw [hc];rfl
 unfold HpS.can at hc
 rw [Bool.and_eq_true] at hc
 obtain ⟨g0,g1,g2,g3⟩:=Q29 hc.2
 unfold HpS.has
 rw [e,reg_set (left':=s.h.left) (by omega)]
 by_cases hq:q=v.region
 · rw [if_pos (by omega)];exact ⟨fun h=> (by cases h),fun h=> absurd hq h.2⟩
 · rw [if_neg (by omega)];exact ⟨fun h=> ⟨h,hq⟩,fun h=> h.1⟩
theorem QeN (hM:m.fault.1=0) (hm:m.Short) (h:Safe m Ψ s f b z O){x:Ins}(hx:b.code[s.g.i]?=some x) (hop:x.op=4):StS m ((s.next).ins m x):=by
 obtain ⟨hF,hj,hrun⟩:=h.ins hx
 have hinv:=Q7d hM hm h.inv hF hj
 unfold MS.ins
 rw [if_neg (by omega),if_neg (by omega),if_neg (by omega),if_pos hop]
 rw [Q8Y hop] at hj
 obtain ⟨t,h1,hj⟩:=Q2 hj
 split at hj
 · cases hj
 · rename_i hlt
   obtain ⟨v,g1,g2,g3,g4,g5,g6⟩:=h.at_ h1 (by decide)
   obtain ⟨_,_,_,hh⟩:=Q91 h1
   have hrg:=Q2g hh
   have hcan:=can_of g2 g3 g5
   have hv:v.region=s.g.ρ t.r:=by rw [g2.reg (by omega),g6]
   generalize (jIns m f z x).2=z' at hj hrun hinv
   cases hj
   rw [Qb (show s.next.g.val x.a=some v from g1),if_neg (by rw [show s.next.h.can v=s.h.can v from rfl,hcan];decide)]
   refine ⟨Ψ,f,b,_,O,hty_shut h.ty,h.hf,h.hb,hrun,hinv,⟨by show s.g.regs.length=(z.h.set _ _).length;rw [List.length_set];exact h.ft.n,h.ft.v⟩,h.wt,?_,?_,fun q=> ?_⟩
   · intro r q hr hq h1 h2 he
     exact h.inj r q ((Q4y hrg.1).1 hr).1 ((Q4y hrg.1).1 hq).1 h1 h2 he
   · rintro q ⟨r,hr,h1,rfl⟩ hO
     exact h.dis _ ⟨r,((Q4y hrg.1).1 hr).1,h1,rfl⟩ hO
   · show (s.h.shut v).has q=true↔_
     rw [shut_has hcan,h.has,hv]
     constructor
     · rintro ⟨⟨r,hr,h1,rfl⟩|hO,hne⟩
       · exact .inl ⟨r,(Q4y hrg.1).2 ⟨hr,fun he=> hne (by rw [he])⟩,h1,rfl⟩
       · exact .inr hO
     · rintro (⟨r,hr,h1,rfl⟩|hO)
       · obtain ⟨h3,h4⟩:=(Q4y hrg.1).1 hr
         exact ⟨.inl ⟨r,h3,h1,rfl⟩,fun he=> h4 (h.inj r t.r h3 hh h1 (by omega) he)⟩
       · exact ⟨.inr hO,fun he=> h.dis _ ⟨t.r,hh,by omega,he.symm⟩ hO⟩
theorem Q5W {f:Fun}{fi:Nat}:∀{l:List Block}{b0:Nat},(Qz m f fi b0 l).1=0→∀(b:Nat) (y:Block),l[b]?=some y→(QI m f fi (b0+b) y.fin 0 (Q1i y) y.code).1=0
 | [],_,_,b,y,hy=> by simp at hy
 | z::l,b0,h,b,y,hy=> by
   rw [Qz] at h
   obtain ⟨h1,h2⟩:=Q3o h
   cases b with
   | zero=> rw [List.getElem?_cons_zero] at hy;cases hy;exact h1
   | succ b=> rw [List.getElem?_cons_succ] at hy;rw [show b0+(b+1)=b0+1+b by omega];exact Q5W h2 b y hy
theorem Q8d:∀{l:List Fun}{f0:Nat},(Q1L m f0 l).1=0→∀(f:Nat) (x:Fun),l[f]?=some x→(Qz m x (f0+f) 0 x.blocks).1=0
 | [],_,_,b,y,hy=> by simp at hy
 | z::l,b0,h,b,y,hy=> by
   rw [Q1L] at h
   obtain ⟨h1,h2⟩:=Q3o h
   cases b with
   | zero=> rw [List.getElem?_cons_zero] at hy;cases hy;exact h1
   | succ b=> rw [List.getElem?_cons_succ] at hy;rw [show b0+(b+1)=b0+1+b by omega];exact Q8d h2 b y hy
theorem Q1J (h:m.runs.1=0):m.fault.1=0:=(Q3o h).1
theorem Q6c (h:m.runs.1=0){fi bi:Nat}{x:Fun}{y:Block}(hx:m.funcs[fi]?=some x) (hy:x.blocks[bi]?=some y):(QI m x fi bi y.fin 0 (Q1i y) y.code).1=0:=by
 have h1:=Q8d (Q3o h).2 fi x hx
 rw [Nat.zero_add] at h1
 have h2:=Q5W h1 bi y hy
 rwa [Nat.zero_add] at h2
theorem Qdc {vs:List Val}{rs regs l:List Int}{bb:Block}{fi bi:Nat}(hrs:rs=l.map g.ρ) (hl:(l.length:Int)=bb.regs) (h16:bb.regs≤16) (hv:VTs Ψ vs (bb.params.map fun t=> (t.rn l).rn g.regs)) (hw:∀t∈bb.params,t.wrong 8 bb.regs=0):
 FT Ψ (Q1i bb) ⟨fi,bi,0,vs,rs⟩:=by
 subst hrs
 refine ⟨by show (l.map g.ρ).length=(List.replicate (min bb.regs 16).toNat true).length;rw [List.length_map,List.length_replicate];omega,?_⟩
 show VTs Ψ vs (bb.params.map fun t=> t.rn (l.map g.ρ))
 have e:(bb.params.map fun t=> t.rn (l.map g.ρ))=bb.params.map fun t=> (t.rn l).rn g.regs:=List.map_congr_left fun t ht=> (Ty.rn_rn (n:=bb.regs) (fun i hi=> Q9T (by omega)) t (hw t ht)).symm
 rw [e];exact hv
theorem Q31 {bb:Block}(h0:0≤bb.regs) (h16:bb.regs≤16){r:Int}:hasB (Q1i bb).h r=true↔0≤r∧r < bb.regs:=by
 unfold Q1i
 dsimp only
 rw [hasB_all]
 omega
theorem QeO (hR:m.runs.1=0) (hm:m.Short) (h:Safe m Ψ s f b z O){x:Ins}(hx:b.code[s.g.i]?=some x) (hop:x.op=14):StS m ((s.next).ins m x):=by
 have hM:=Q1J hR
 obtain ⟨hF,hj,hrun⟩:=h.ins hx
 unfold MS.ins
 rw [if_neg (by omega),if_neg (by omega),if_neg (by omega),if_neg (by omega),if_neg (by omega),if_neg (by omega),if_neg (by omega),if_neg (by omega),if_neg (by omega),if_neg (by omega),if_neg (by omega),if_neg (by omega),if_neg (by omega)]
 rw [Q6t hop] at hj
 cases hg:m.funcs[x.k.toNat]? with
 | none=> unfold Q5q at hj;rw [hg] at hj;cases hj
 | some gf=>
   obtain ⟨h1,h2,h3,h4⟩:=Q5p hj hg
   have hall:=Q4s h2
   have hrs:=rgs_of h.ft.n hall
   obtain ⟨vs,k1,k2⟩:=Q83 h.ft h3
   unfold MS.call
   rw [hg]
   dsimp only
   rw [Qb ((next_rgs s x.regs).trans hrs),Qb ((QaL s x.args).trans k1)]
   have hlen:=k2.1
   rw [List.length_map] at hlen
   rw [if_neg (by rw [List.length_map];omega)]
   split
   · exact trivial
   · have hfh:=Q1E (Q1S hM hg)
     obtain ⟨b0,hb0⟩:∃b0,gf.blocks[0]?=some b0:=⟨_,List.getElem?_eq_getElem (by omega)⟩
     have hbh:=Q1Z (Q1F hM hg hb0).1
     obtain ⟨e1,e2⟩:=hbh.2.2.2.1 rfl
     have hno:∀r,hasB (Q1i b0).h r=true→gf.regs≤r→False:=fun r hr hge=> by
      have:=(Q31 (by omega) (by omega)).1 hr;omega
     refine ⟨Ψ,gf,b0,Q1i b0,(fun k=> Own f z s.next.g k∨O k),h.ty,hg,hb0,?_,Q6v hm hM hg hb0,Qdc (regs:=[]) (g:=s.g) rfl (by omega) (by omega) (by rw [e2];exact k2) (fun t ht=> ?_),?_,?_,?_,fun q=> ?_⟩
     · exact Q6c hR hg hb0
     · exact Ty.fault_wrong (Q2I hbh.2.2.1 t ht)
     · show Wt m Ψ (s.next.g::s.st) gf (Q41 gf ⟨x.k.toNat,0,0,vs,x.regs.map s.g.ρ⟩) _
       rw [show Q41 gf ⟨x.k.toNat,0,0,vs,x.regs.map s.g.ρ⟩=x.regs.map s.next.g.ρ from List.take_of_length_le (by rw [List.length_map];omega)]
       exact .cons (c:=s.next.g) (z:=z) h.hf h.hb h.inv ⟨h.ft.n,h.ft.v⟩ hop hF hj hg hrun h.wt h.inj h.dis
     · intro r q hr _ h5 _ _;exact (hno r hr h5).elim
     · rintro q ⟨r,hr,h5,rfl⟩ _;exact hno r hr h5
     · show s.h.has q=true↔_
       rw [h.has]
       exact ⟨fun hh=> .inr hh,fun hh=> hh.elim (fun ⟨r,hr,h5,_⟩=> (hno r hr h5).elim) id⟩
theorem QfR (f:Fun) (z:JS) (t:To):NZ (jto f z t):=by
 unfold jto
 split
 · exact .e (by decide)
 · split
   · exact .e (by decide)
   · split
     · exact .e (by decide)
     · split
       · rename_i h;exact .e h
       · exact Q9O _ _ _ _
theorem jend_nz (f:Fun) (z:JS) (e:Tail):NZ (jend f z e):=by
 unfold jend
 refine .ite (QfR _ _ _) (.ite (.bind (Q9N _ _ _) fun _ _=> .bind (QfR _ _ _) fun _ _=> QfR _ _ _) (.bind (Q9O _ _ _ _) fun _ _=> .ite (.e (by decide)) (.o _)))
theorem Safe.fin (h:Safe m Ψ s f b z O) (hx:b.code[s.g.i]?=none):Q1M f.blocks.length b.fin=0∧jend f z b.fin= .ok ():=by
 have h1:=h.run
 rw [Q6Q (List.getElem?_eq_none_iff.1 hx),Q40] at h1
 unfold jEnd at h1
 split at h1
 · rename_i hne;exact absurd h1 hne
 · rename_i he
   refine ⟨Classical.not_not.1 he,?_⟩
   cases hj:jend f z b.fin with
   | ok u=> rfl
   | error c=>
     rw [hj] at h1
     dsimp only at h1
     have hnz:NZ (jend f z b.fin):=jend_nz _ _ _
     exact absurd h1 (hnz c hj)
theorem Q7N {h:List Bool}:∀{l seen:List Int},Q1P h seen l=0→(∀r∈l,hasB h r=true)∧l.Nodup∧(∀r∈l,r∉seen)∧(Q3g h).length≤seen.length+l.length
 | [],seen,hp=> by
   rw [Q1P] at hp
   split at hp
   · cases hp
   · exact ⟨by simp,List.nodup_nil,by simp,by simp only [List.length_nil];omega⟩
 | x ::l,seen,hp=> by
   rw [Q1P] at hp
   split at hp
   · rename_i hx
     split at hp
     · cases hp
     · rename_i hns
       obtain ⟨h1,h2,h3,h4⟩:=Q7N hp
       refine ⟨fun r hr=> ?_,List.nodup_cons.2 ⟨fun hm=> h3 x hm (by simp),h2⟩,fun r hr=> ?_,by simp only [List.length_append,List.length_cons,List.length_nil] at h4 ⊢;omega⟩
       · rcases List.mem_cons.1 hr with rfl|hr
         · exact hx
         · exact h1 r hr
       · rcases List.mem_cons.1 hr with rfl|hr
         · exact hns
         · exact fun hs=> h3 r hr (List.mem_append.2 (.inl hs))
   · cases hp
theorem pass_all {h:List Bool}{l:List Int}(hp:Q1P h [] l=0):∀r,hasB h r=true→r∈l:=by
 obtain ⟨h1,h2,_,h4⟩:=Q7N hp
 intro r hr
 refine Classical.byContradiction fun hn=> ?_
 have:=Q3p (a:=r::l) (b:=Q3g h) (List.nodup_cons.2 ⟨hn,h2⟩) (by
  intro y hy
  rcases List.mem_cons.1 hy with rfl|hy
  · exact mem_heldL.2 hr
  · exact mem_heldL.2 (h1 y hy))
 simp only [List.length_cons,List.length_nil] at this h4
 omega
theorem Q9H {l:List Int}{n:Nat}(h:Q42 l n=true){i:Nat}(hi:i < n):l[i]?=some (i:Int):=by
 unfold Q42 at h
 rw [List.all_eq_true] at h
 exact of_decide_eq_true (h i (List.mem_range.2 hi))
theorem QaK {l:List Int}(h:l.Nodup){i j:Nat}{a:Int}(hi:l[i]?=some a) (hj:l[j]?=some a):i=j:=by
 have h1:=(List.getElem?_eq_some_iff.1 hi).1
 exact (List.getElem?_inj h1 h).1 (by rw [hi,hj])
theorem QbD (hR:m.runs.1=0) (hm:m.Short) (h:Safe m Ψ s f b z O){t:To}(hj:jto f z t= .ok ()) (hb0:0≤t.block):StS m (s.to f t):=by
 have hM:=Q1J hR
 unfold jto at hj
 unfold MS.to
 cases hb:f.blocks[t.block.toNat]? with
 | none=> rw [hb] at hj;cases hj
 | some b' =>
   rw [hb] at hj
   dsimp only at hj ⊢
   split at hj
   · cases hj
   · rename_i hl
     split at hj
     · cases hj
     · rename_i hk
       split at hj
       · cases hj
       · rename_i hp
         have hp:Q1P z.h [] t.regs=0:=Classical.not_not.1 hp
         have hk:Q42 t.regs f.regs.toNat=true:=by simpa using hk
         obtain ⟨p1,p2,_,_⟩:=Q7N hp
         have p3:=pass_all hp
         have hrs:=rgs_of h.ft.n p1
         obtain ⟨vs,k1,k2⟩:=Q83 h.ft hj
         have hlen:=k2.1
         rw [List.length_map] at hlen
         rw [Qb hrs,Qb k1,if_neg (by rw [List.length_map];omega)]
         have hbh:=Q1Z (Q1F hM h.hf hb).1
         have hfh:=Q1E (Q1S hM h.hf)
         have hn:=h.ft.n
         have hrl:=Q7E h.inv
         -- the new names
         have idx:∀r:Int,hasB (Q1i b').h r=true→∃q,t.regs[r.toNat]?=some q∧hasB z.h q=true∧(⟨s.g.f,t.block.toNat,0,vs,t.regs.map s.g.ρ⟩:Frm).ρ r=s.g.ρ q:=fun r hr=> by
          have h1:=(Q31 (by omega) (by omega)).1 hr
          have h2:t.regs[r.toNat]?=some t.regs[r.toNat]:=List.getElem?_eq_getElem (by omega)
          refine ⟨_,h2,p1 _ (List.mem_of_getElem? h2),?_⟩
          have h3:(t.regs.map s.g.ρ).getD r.toNat 0=s.g.ρ (t.regs.getD r.toNat 0):=Q9T (by omega)
          show (t.regs.map s.g.ρ).getD r.toNat 0=_
          rw [h3,List.getD_eq_getElem?_getD,h2];rfl
         have up:∀(r q:Int),0≤r→t.regs[r.toNat]?=some q→hasB z.h q=true→(f.regs≤r↔f.regs≤q):=fun r q h0 hq hh=> by
          have hqr:=Q2g hh
          constructor
          · intro hr
            refine Classical.byContradiction fun hc=> ?_
            have h1:=Q9H hk (i:=q.toNat) (by omega)
            rw [show ((q.toNat:Nat):Int)=q by omega] at h1
            have:=QaK p2 hq h1;omega
          · intro hq2
            refine Classical.byContradiction fun hc=> ?_
            have h1:=Q9H hk (i:=r.toNat) (by omega)
            rw [hq] at h1;cases h1;omega
         have own:∀q,Own f (Q1i b') ⟨s.g.f,t.block.toNat,0,vs,t.regs.map s.g.ρ⟩ q↔Own f z s.g q:=fun q=> by
          constructor
          · rintro ⟨r,hr,h1,rfl⟩
            obtain ⟨a,h2,h3,h4⟩:=idx r hr
            have h0:=((Q31 (by omega) (by omega)).1 hr).1
            exact ⟨a,h3,(up r a h0 h2 h3).1 h1,h4.symm⟩
          · rintro ⟨a,ha,h1,rfl⟩
            obtain ⟨i,hi⟩:=List.mem_iff_getElem?.1 (p3 a ha)
            have hil:=(List.getElem?_eq_some_iff.1 hi).1
            have hri:hasB (Q1i b').h (i:Int)=true:=(Q31 (by omega) (by omega)).2 (by omega)
            obtain ⟨a2,h2,h3,h4⟩:=idx i hri
            rw [Int.toNat_natCast,hi] at h2
            cases h2
            exact ⟨i,hri,(up i a (by omega) (by rw [Int.toNat_natCast];exact hi) h3).2 h1,h4⟩
         refine ⟨Ψ,f,b',Q1i b',O,h.ty,h.hf,hb,Q6c hR h.hf hb,Q6v hm hM h.hf hb,Qdc (regs:=[]) (g:=s.g) rfl (by omega) (by omega) k2 (fun u hu=> Ty.fault_wrong (Q2I hbh.2.2.1 u hu)),?_,?_,?_,fun q=> ?_⟩
         · have ek:Q41 f ⟨s.g.f,t.block.toNat,0,vs,t.regs.map s.g.ρ⟩=Q41 f s.g:=by
            unfold Q41
            refine List.ext_getElem? fun i=> ?_
            by_cases hi:i < f.regs.toNat
            · rw [List.getElem?_take_of_lt hi,List.getElem?_take_of_lt hi,List.getElem?_map,Q9H hk hi]
              unfold Frm.ρ
              rw [List.getElem?_eq_getElem (show i < s.g.regs.length by omega)]
              simp only [Option.map_some,Int.toNat_natCast]
              rw [List.getD_eq_getElem?_getD,List.getElem?_eq_getElem (show i < s.g.regs.length by omega)];rfl
            · rw [List.getElem?_eq_none (by rw [List.length_take];omega),List.getElem?_eq_none (by rw [List.length_take];omega)]
           show Wt m Ψ s.st f (Q41 f ⟨s.g.f,t.block.toNat,0,vs,t.regs.map s.g.ρ⟩) O
           rw [ek];exact h.wt
         · intro r q hr hq h1 h2 he
           obtain ⟨a,a1,a2,a3⟩:=idx r hr
           obtain ⟨c,c1,c2,c3⟩:=idx q hq
           have hr0:=((Q31 (by omega) (by omega)).1 hr).1
           have hq0:=((Q31 (by omega) (by omega)).1 hq).1
           have hac:=h.inj a c a2 c2 ((up r a hr0 a1 a2).1 h1) ((up q c hq0 c1 c2).1 h2) (by rw [←a3,←c3];exact he)
           subst hac
           have:=QaK p2 a1 c1;omega
         · exact fun q hq=> h.dis q ((own q).1 hq)
         · show s.h.has q=true↔_
           rw [h.has]
           exact or_congr (own q).symm Iff.rfl
theorem upTo_get {n i:Nat}(h:i < n):(upTo n).getD i 0=i:=by
 unfold upTo
 rw [List.getD_eq_getElem?_getD,List.getElem?_map,List.getElem?_range h];rfl
theorem ints_of {l:List Val}{ts:List Ty}(h:VTs Ψ l ts) (hk:∀t∈ts,t.kind=1):∃ns,intsV l=some ns:=by
 induction l generalizing ts with
 | nil=> exact ⟨[],rfl⟩
 | cons v l ih=>
   cases ts with
   | nil=> have:=h.1;simp at this
   | cons t ts=>
     have h1:=h.2 0 v t rfl rfl
     obtain ⟨ns,h2⟩:=ih (ts:=ts) ⟨by have:=h.1;simpa using this,fun i w u hw hu=> h.2 (i+1) w u (by simpa using hw) (by simpa using hu)⟩ (fun u hu=> hk u (List.mem_cons_of_mem _ hu))
     exact ⟨v.n::ns,by rw [intsV,h2];exact if_pos (by rw [h1.kind];exact hk t (List.mem_cons_self ..))⟩
def Qac (h:HpS):Prop:=∀q,h.has q=false
def StE (m:Module) (h:HpS):Stp→Prop
 | .go s=> Qa5 m s
 | .halt _=> True
 | .done _=> Qac h
 | .lost=> False
theorem QcA {h:HpS}{r:Stp}(hr:StS m r) (hd:∀l,r≠ .done l):StE m h r:=by
 cases r with
 | go s=> exact hr
 | halt e=> exact trivial
 | done l=> exact absurd rfl (hd l)
 | lost=> exact hr
theorem Q15 {α:Type}{o:Option α}{fn:α→Stp}(h:∀a l,fn a≠ .done l):∀l,Q16 o fn≠ .done l:=by
 cases o with
 | none=> intro l h;cases h
 | some a=> exact h a
theorem Q1u {p:Prop} [Decidable p] {a b:Stp}(h1:∀l,a≠ .done l) (h2:∀l,b≠ .done l):∀l,(if p then a else b)≠ .done l:=by
 split
 · exact h1
 · exact h2
theorem Q5F {s:MS}:∀l,Stp.go s≠ .done l:=fun l h=> by cases h
theorem Q4o {e:Int}:∀l,Stp.halt e≠ .done l:=fun l h=> by cases h
theorem Q2N:∀l,Stp.lost≠ .done l:=fun l h=> by cases h
theorem to_nd {f:Fun}{t:To}:∀l,s.to f t≠ .done l:=by
 unfold MS.to
 split
 · exact Q2N
 · exact Q15 fun _=> Q15 fun _=> Q1u Q2N Q5F
theorem QbR {v:Val}{e:Int}{k:Stp}(h:∀l,k≠ .done l):∀l,Q2A v e k≠ .done l:=Q1u Q2N (Q1u Q4o (Q1u Q2N h))
theorem QfJ {e:Int}{h:HpS}{v:Val}:∀l,s.made e h v≠ .done l:=Q1u Q4o (Q1u Q2N Q5F)
theorem ins_nd {x:Ins}:∀l,s.ins m x≠ .done l:=by
 unfold MS.ins
 refine Q1u Q5F (Q1u (Q15 fun _=> Q15 fun _=> Q1u Q4o Q5F) (Q1u (Q1u Q4o Q5F) (Q1u (Q15 fun _=> Q1u Q2N Q5F) (Q1u (Q15 fun _=> Q15 fun _=> QfJ)
  (Q1u (Q15 fun _=> Q1u Q2N (Q1u Q2N Q5F)) (Q1u (Q15 fun _=> Q1u Q2N (Q15 fun _=> Q1u Q2N Q5F)) (Q1u (Q15 fun _=> Q15 fun _=> Q1u Q4o QfJ)
  (Q1u (Q15 fun _=> Q15 fun _=> QbR Q5F) (Q1u (Q15 fun _=> Q15 fun _=> Q15 fun _=> QbR Q5F) (Q1u (Q15 fun _=> QbR Q5F) (Q1u ?_ (Q1u (Q15 fun _=> Q1u Q4o Q5F) ?_))))))))))))
 · unfold MS.inS
   split
   · exact Q4o
   · exact Q5F
 · unfold MS.call
   split
   · exact Q2N
   · exact Q15 fun _=> Q15 fun _=> Q1u Q2N (Q1u Q4o Q5F)
def HzS:Stp→Prop
 | .halt e=> e≠0
 | _=> True
theorem Q1b {p:Prop} [Decidable p] {a b:Stp}(h1:HzS a) (h2:HzS b):HzS (if p then a else b):=by
 split
 · exact h1
 · exact h2
theorem Q3e {α:Type}{o:Option α}{fn:α→Stp}(h:∀a,HzS (fn a)):HzS (Q16 o fn):=by
 cases o with
 | none=> exact trivial
 | some a=> exact h a
theorem hz_h {e:Int}(h:e≠0):HzS (.halt e):=h
theorem Qc9 {v:Val}{e:Int}{k:Stp}(h:HzS k):HzS (Q2A v e k):=Q1b trivial (Q1b (hz_h (by decide)) (Q1b trivial h))
theorem Qg8 {e:Int}{h:HpS}{v:Val}:HzS (s.made e h v):=Q1b (hz_h (by decide)) (Q1b trivial trivial)
theorem hz_ins {x:Ins}:HzS (s.ins m x):=by
 unfold MS.ins
 refine Q1b trivial (Q1b (Q3e fun _=> Q3e fun _=> Q1b (hz_h (by decide)) trivial) (Q1b (Q1b (hz_h (by decide)) trivial) (Q1b (Q3e fun _=> Q1b trivial trivial) (Q1b (Q3e fun _=> Q3e fun _=> Qg8)
  (Q1b (Q3e fun _=> Q1b trivial (Q1b trivial trivial)) (Q1b (Q3e fun _=> Q1b trivial (Q3e fun _=> Q1b trivial trivial)) (Q1b (Q3e fun _=> Q3e fun _=> Q1b (hz_h (by decide)) Qg8)
  (Q1b (Q3e fun _=> Q3e fun _=> Qc9 trivial) (Q1b (Q3e fun _=> Q3e fun _=> Q3e fun _=> Qc9 trivial) (Q1b (Q3e fun _=> Qc9 trivial) (Q1b ?_ (Q1b (Q3e fun _=> Q1b (hz_h (by decide)) trivial) ?_))))))))))))
 · unfold MS.inS
   split
   · exact hz_h (by decide)
   · exact trivial
 · unfold MS.call
   split
   · exact trivial
   · exact Q3e fun _=> Q3e fun _=> Q1b trivial (Q1b (hz_h (by decide)) trivial)
theorem hz_to {f:Fun}{t:To}:HzS (s.to f t):=by
 unfold MS.to
 split
 · exact trivial
 · exact Q3e fun _=> Q3e fun _=> Q1b trivial trivial
theorem hz_fin {f:Fun}{e:Tail}:HzS (s.fin f e):=by
 unfold MS.fin
 refine Q1b hz_to (Q1b (Q3e fun _=> Q1b hz_to hz_to) ?_)
 unfold MS.ret
 refine Q3e fun vs=> Q1b trivial ?_
 split
 · exact trivial
 · split <;> exact trivial
theorem one_halt {s:MS}{e:Int}(h:s.one m= .halt e):e≠0:=by
 have h1:HzS (s.one m):=by
  unfold MS.one
  split
  · exact trivial
  · split
    · exact trivial
    · split
      · exact hz_ins
      · exact hz_fin
 rw [h] at h1;exact h1
theorem safe_ret (hR:m.runs.1=0) (hm:m.Short) (h:Safe m Ψ s f b z O){e:Tail}(hj:QC (Q50 z e.args f.results (upTo f.regs.toNat)) (fun _=> if f.regs < (Q3g z.h).length then (.error 12:Except Int Unit) else .ok ())= .ok ()):StE m s.h (s.ret f e):=by
 have hM:=Q1J hR
 have hfh:=Q1E (Q1S hM h.hf)
 have hrl:=Q7E h.inv
 have hn:=h.ft.n
 obtain ⟨_,h1,hj⟩:=Q2 hj
 split at hj
 · cases hj
 · rename_i hlt
   have hno:∀q,¬Own f z s.g q:=by
    rintro q ⟨r,hr,h2,rfl⟩
    exact hlt ((left_iff h.inv hfh.1).2 ⟨r,mem_heldL.2 hr,h2⟩)
   obtain ⟨vs,k1,k2⟩:=Q83 h.ft h1
   have hwr:∀t∈f.results,t.wrong 8 f.regs=0:=fun t ht=> Ty.fault_wrong (Q2I hfh.2.2.2.1 t ht)
   have hlen:=k2.1
   rw [List.length_map] at hlen
   unfold MS.ret
   rw [Qb k1,if_neg (by omega)]
   have hw:=h.wt
   generalize hkp:Q41 f s.g=kp at hw
   cases hst:s.st with
   | nil=>
     rw [hst] at hw
     dsimp only
     cases hw with
     | nil hf0=>
       have hfz:=Q1S hM hf0
       have hres:∀t∈f.results,t.kind=1:=by
        unfold Q3h at hfz
        split at hfz
        · cases hfz
        · split at hfz
          · rename_i hh;exact absurd hfz hh
          · split at hfz
            · rename_i hh;exact absurd hfz hh
            · split at hfz
              · cases hfz
              · split at hfz
                · cases hfz
                · rename_i hh
                  intro t ht
                  exact Classical.byContradiction fun hk=> hh ⟨rfl, .inr (.inr ⟨t,ht,hk⟩)⟩
       obtain ⟨ns,h2⟩:=ints_of k2 (fun u hu=> by
        obtain ⟨t,ht,rfl⟩:=List.mem_map.1 hu
        rw [Ty.rn_kind,Ty.rn_kind];exact hres t ht)
       rw [h2]
       intro q
       cases hq:s.h.has q with
       | false=> rfl
       | true => rcases (h.has q).1 hq with h3|h3
                 · exact absurd h3 (hno q)
                 · exact h3.elim
   | cons c st=>
     rw [hst] at hw
     dsimp only
     have hhas:=h.has
     cases hw with
     | @cons _ _ fc _ bc zc z' x O' hf hb hi ht hx hF hc hg hr hw' hj' hd'=>
       obtain ⟨c1,c2,c3,rfl⟩:=Q5p hc hg
       have hall:=Q4s c2
       have hinv:=Q7d (x:=x) hM hm hi hF (by rw [Q6t hx];exact hc)
       refine ⟨Ψ,fc,bc,_,O',h.ty,hf,hb,hr,hinv,⟨ht.n,?_⟩,hw',hj',hd',fun q=> ?_⟩
       · show VTs Ψ (c.vals++vs) ((zc.l++f.results.map (renT x.regs)).map fun t=> t.rn c.regs)
         rw [List.map_append,List.map_map]
         refine VTs.app ht.v ?_
         have e9:(f.results.map ((fun t:Ty=> t.rn c.regs)∘renT x.regs))=f.results.map fun t=> (t.rn (upTo f.regs.toNat)).rn s.g.regs:=by
          refine List.map_congr_left fun t ht2=> ?_
          have hw8:=hwr t ht2
          have hrg:∀r∈x.regs,0≤r∧r < zc.h.length:=fun r hr=> Q2g (hall r hr)
          obtain ⟨u,hu,_⟩:=Ty.ren_right (n:=zc.h.length) (f:=x.regs) (fun i hi=> by
           rw [List.getD_eq_getElem?_getD,List.getElem?_eq_getElem hi]
           exact hrg _ (List.getElem_mem hi)) t (by rw [c1];exact hw8)
          have e1:renT x.regs t=t.rn x.regs:=by unfold renT;rw [hu];exact Ty.rn_of t u hu
          show (renT x.regs t).rn c.regs=_
          rw [e1,Ty.rn_rn (e:=x.regs.map c.ρ) (n:=f.regs) (fun i hi=> by rw [Q9T (by omega)];rfl) t hw8,
           Ty.rn_rn (e:=s.g.regs) (n:=f.regs) (fun i hi=> by rw [upTo_get (by omega)];rfl) t hw8]
          refine Ty.rn_congr (n:=f.regs) (fun i hi=> ?_) t hw8
          rw [←hkp]
          unfold Q41
          rw [List.getD_eq_getElem?_getD,List.getElem?_take_of_lt (by omega),←List.getD_eq_getElem?_getD]
         rw [e9];exact k2
       · show s.h.has q=true↔_
         rw [hhas]
         exact ⟨fun hh=> hh.elim (fun h3=> absurd h3 (hno q)) id,fun hh=> .inr hh⟩
theorem safe_one (hR:m.runs.1=0) (hm:m.Short) (h:Qa5 m s):StE m s.h (s.one m):=by
 obtain ⟨Ψ,f,b,z,O,h⟩:=h
 have hM:=Q1J hR
 unfold MS.one
 rw [h.hf]
 dsimp only
 rw [h.hb]
 dsimp only
 cases hx:b.code[s.g.i]? with
 | some x=>
   dsimp only
   refine QcA ?_ ins_nd
   by_cases h3:x.op=3
   · exact safe_new hM hm h hx h3
   · by_cases h4:x.op=4
     · exact QeN hM hm h hx h4
     · by_cases h14:x.op=14
       · exact QeO hR hm h hx h14
       · exact ext_len hM hm h hx h3 h4 h14
 | none=>
   dsimp only
   obtain ⟨he,hj⟩:=h.fin hx
   obtain ⟨e1,e2,e3,e4⟩:=Q3J he
   unfold MS.fin
   by_cases h1:b.fin.op=1
   · rw [if_pos h1]
     rw [QfZ h1] at hj
     have hd:decide (b.fin.op≠3)=true:=decide_eq_true (by omega)
     rw [hd] at e3
     exact QcA (QbD hR hm h hj (Q3O e3).1) to_nd
   · rw [if_neg h1]
     by_cases h2:b.fin.op=2
     · rw [if_pos h2]
       rw [QaV h2] at hj
       obtain ⟨t,g1,hj⟩:=Q2 hj;obtain ⟨u,g2,hj⟩:=Q2 hj
       obtain ⟨n,hn⟩:=Q6K h.ft g1
       have hd:decide (b.fin.op≠3)=true:=decide_eq_true (by omega)
       have hd2:decide (b.fin.op=2)=true:=decide_eq_true h2
       rw [hd] at e3
       rw [hd2] at e4
       rw [Qb hn]
       split
       · exact QcA (QbD hR hm h g2 (Q3O e3).1) to_nd
       · exact QcA (QbD hR hm h hj (Q3O e4).1) to_nd
     · rw [if_neg h2]
       rw [Qd6 (by omega)] at hj
       exact safe_ret hR hm h hj
theorem QeM (h:Qa5 m s):Qa5 m s.tick:=by
 obtain ⟨Ψ,f,b,z,O,h⟩:=h
 exact ⟨Ψ,f,b,z,O,h.ty,h.hf,h.hb,h.run,h.inv,h.ft,h.wt,h.inj,h.dis,h.has⟩
theorem Qdx (hR:m.runs.1=0) (hm:m.Short) (inp:List Int) (pages:Int):Qa5 m (MS.start inp pages):=by
 have hM:=Q1J hR
 have hl:=Q8j hM
 obtain ⟨f,hf⟩:∃f,m.funcs[0]?=some f:=⟨_,List.getElem?_eq_getElem (by omega)⟩
 have hfh:=Q1E (Q1S hM hf)
 have hz:f.regs=0∧f.params=[]:=by
  have hfz:=Q1S hM hf
  unfold Q3h at hfz
  split at hfz
  · cases hfz
  · split at hfz
    · rename_i hh;exact absurd hfz hh
    · split at hfz
      · rename_i hh;exact absurd hfz hh
      · split at hfz
        · cases hfz
        · split at hfz
          · cases hfz
          · rename_i hh
            exact ⟨Classical.byContradiction fun hk=> hh ⟨rfl, .inl (by omega)⟩,Classical.byContradiction fun hk=> hh ⟨rfl, .inr (.inl (List.length_pos_iff.2 hk))⟩⟩
 obtain ⟨b,hb⟩:∃b,f.blocks[0]?=some b:=⟨_,List.getElem?_eq_getElem (by omega)⟩
 have hbh:=Q1Z (Q1F hM hf hb).1
 obtain ⟨e1,e2⟩:=hbh.2.2.2.1 rfl
 have hno:∀r,hasB (Q1i b).h r=true→False:=fun r hr=> by have:=(Q31 (by omega) (by omega)).1 hr;omega
 refine ⟨fun _ _=> none,f,b,Q1i b,fun _=> False,⟨fun _ _ _ h=> (by cases h),fun _ _ _ h=> (by cases h)⟩,hf,hb,Q6c hR hf hb,Q6v hm hM hf hb,⟨?_,?_⟩,?_,?_,?_,fun q=> ?_⟩
 · show 0=(List.replicate (min b.regs 16).toNat true).length
   rw [List.length_replicate];omega
 · show VTs _ [] (b.params.map _)
   rw [e2,hz.2];exact VTs.nil _
 · show Wt m _ [] f (Q41 f ⟨0,0,0,[],[]⟩) _
   rw [show Q41 f ⟨0,0,0,[],[]⟩=[] from List.take_nil]
   exact .nil hf
 · intro r q hr;exact (hno r hr).elim
 · rintro q ⟨r,hr,_⟩;exact (hno r hr).elim
 · constructor
   · intro hh
     have:=Q29 hh
     have hl0:(MS.start inp pages).h.l.length=0:=rfl
     omega
   · rintro (⟨r,hr,_⟩|hh)
     · exact (hno r hr).elim
     · exact hh.elim
theorem halt_nz {s:MS}{e:Int}(h:s.one m= .halt e):e≠0:=one_halt h
end
end Go.Lir
namespace Go.Lir
set_option linter.unusedVariables false
theorem Q86 {n:Nat}{x:Ins}(h:QE n x=0):Q1m n x=0:=by
 unfold QE at h
 split at h
 · cases h
 · split at h
   · cases h
   · exact h
theorem insF_k {n:Nat}{x:Ins}(h:QE n x=0) (ho:x.op=14):0≤x.k∧x.k < n:=by
 have hk:=Q86 h
 unfold Q1m at hk
 rw [if_neg (by omega),if_neg (by omega),if_neg (by omega),if_pos ho] at hk
 split at hk
 · cases hk
 · omega
theorem insF_t {n:Nat}{x:Ins}(h:QE n x=0) (ho:x.op=5):x.args.length≤8:=by
 have hk:=Q86 h
 unfold Q1m at hk
 rw [if_neg (by omega),if_pos ho] at hk
 split at hk
 · cases hk
 · omega
theorem Q5s {n:Nat}{x:Ins}(h:QE n x=0):x.regs.length≤16∧x.args.length≤8:=by
 have hk:=Q86 h
 have ho:¬x.odd:=by
  unfold QE at h
  split at h
  · cases h
  · split at h
    · cases h
    · assumption
 unfold Ins.odd at ho
 by_cases h14:x.op=14
 · unfold Q1m at hk
   rw [if_neg (by omega),if_neg (by omega),if_neg (by omega),if_pos h14] at hk
   split at hk
   · cases hk
   · split at hk
     · cases hk
     · omega
 · have g1:fG x.op=false:=by unfold fG;exact decide_eq_false h14
   have r0:¬0 < x.regs.length:=fun hh=> ho (.inr (.inr (.inr (.inr (.inr (.inl ⟨g1,hh⟩))))))
   by_cases h5:x.op=5
   · exact ⟨by omega,insF_t h h5⟩
   · have g2:fR x.op=false:=by unfold fR;exact decide_eq_false (by omega)
     have a0:¬0 < x.args.length:=fun hh=> ho (.inr (.inr (.inr (.inr (.inr (.inr ⟨g2,hh⟩))))))
     exact ⟨by omega,by omega⟩
theorem Qan {n:Nat}{t:To}(h:Q1O n t true=0):t.regs.length≤16∧t.args.length≤8:=by
 unfold Q1O at h
 rw [if_neg (by decide)] at h
 split at h
 · cases h
 · split at h
   · cases h
   · omega
theorem Q9V {n:Nat}{e:Tail}(h:Q1M n e=0):e.args.length≤8:=by
 unfold Q1M at h
 split at h
 · cases h
 · split at h
   · cases h
   · split at h
     · cases h
     · omega
theorem Q4a {g:Frm}:∀{l:List Int}{vs:List Val},g.args l=some vs→vs.length=l.length
 | [],_,h=> by cases h;rfl
 | k ::l,vs,h=> by
   rw [Frm.args] at h
   split at h
   · rename_i v vs' h1 h2
     cases h
     rw [List.length_cons,List.length_cons,Q4a h2]
   · cases h
theorem QbK {g:Frm}:∀{l:List Int}{vs:List Int},g.rgs l=some vs→vs.length=l.length
 | [],_,h=> by cases h;rfl
 | k ::l,vs,h=> by
   rw [Frm.rgs] at h
   split at h
   · rename_i v vs' h1 h2
     cases h
     rw [List.length_cons,List.length_cons,QbK h2]
   · cases h
theorem Q85:∀{l:List Val}{ns:List Int},intsV l=some ns→ns.length=l.length
 | [],_,h=> by cases h;rfl
 | v ::l,ns,h=> by
   rw [intsV] at h
   split at h
   · cases h
   · rename_i ns' h1
     split at h
     · cases h
       rw [List.length_cons,List.length_cons,Q85 h1]
     · cases h
def Stp.All (P:MS→Prop):Stp→Prop
 | .go s=> P s
 | .done l=> l.length≤8
 | _=> True
theorem Stp.all_bind {α:Type}{P:MS→Prop}{x:Option α}{f:α→Stp}(h:∀a,x=some a→(f a).All P):(Q16 x f).All P:=by
 cases x with
 | none=> exact trivial
 | some a=> exact h a rfl
theorem Stp.all_if {P:MS→Prop}{c:Prop} [Decidable c] {a b:Stp}(h1:c→a.All P) (h2:¬c→b.All P):(if c then a else b).All P:=by
 by_cases hc:c
 · rw [if_pos hc];exact h1 hc
 · rw [if_neg hc];exact h2 hc
def FrB (m:Module) (k:Nat) (g:Frm):Prop:=∃f b,m.funcs[g.f]?=some f∧f.blocks[g.b]?=some b∧g.i≤b.code.length∧g.vals.length≤8+8*k∧g.regs.length≤16+k
structure Bnd (m:Module) (k:Nat) (s:MS):Prop where
 cur:FrB m k s.g
 st:∀x∈s.st,FrB m k x
 sl:s.st.length≤39
 out:s.out.length≤2000
section
variable {m:Module}{k:Nat}{s:MS}
theorem FrB.up {g:Frm}(h:FrB m k g):FrB m (k+1) g:=by
 obtain ⟨f,b,h1,h2,h3,h4,h5⟩:=h
 exact ⟨f,b,h1,h2,h3,by omega,by omega⟩
theorem FrB.more {g:Frm}(h:FrB m k g){vs:List Val}{rs:List Int}(hv:vs.length≤8) (hr:rs.length≤1):FrB m (k+1) ⟨g.f,g.b,g.i,g.vals++vs,g.regs++rs⟩:=by
 obtain ⟨f,b,h1,h2,h3,h4,h5⟩:=h
 refine ⟨f,b,h1,h2,h3,?_,?_⟩
 · show (g.vals++vs).length≤_;rw [List.length_append];omega
 · show (g.regs++rs).length≤_;rw [List.length_append];omega
theorem Bnd.up (h:Bnd m k s):Bnd m (k+1) s:=⟨h.cur.up,fun x hx=> (h.st x hx).up,h.sl,h.out⟩
theorem Bnd.put (h:Bnd m k s){vs:List Val}(hv:vs.length≤8):Bnd m (k+1) (s.put vs):=by
 refine ⟨?_,fun x hx=> (h.st x hx).up,h.sl,h.out⟩
 have:=h.cur.more (rs:=[]) hv (by simp)
 rw [List.append_nil] at this
 exact this
theorem Bnd.hp (h:Bnd m k s) (q:HpS):Bnd m k (s.hp q):=⟨h.cur,h.st,h.sl,h.out⟩
theorem Bnd.made (h:Bnd m k s){e:Int}{q:HpS}{v:Val}:(s.made e q v).All (Bnd m (k+1)):=by
 unfold MS.made
 exact Stp.all_if (fun _=> trivial) fun _=> Stp.all_if (fun _=> trivial) fun _=> (h.hp q).put (by simp)
theorem Q4W {P:MS→Prop}{v:Val}{e:Int}{r:Stp}(h:r.All P):(Q2A v e r).All P:=by
 unfold Q2A
 exact Stp.all_if (fun _=> trivial) fun _=> Stp.all_if (fun _=> trivial) fun _=> Stp.all_if (fun _=> trivial) fun _=> h
theorem Bnd.ins (h:Bnd m k s) (hM:m.fault.1=0){x:Ins}(hx:QE m.funcs.length x=0):(s.ins m x).All (Bnd m (k+1)):=by
 obtain ⟨q1,q2⟩:=Q5s hx
 have h1:∀(v:Val) (t:MS),Bnd m k t→(Stp.go (t.put [v])).All (Bnd m (k+1)):=fun v t ht=> ht.put (by simp)
 have h2:∀(q:HpS),(Stp.go (s.hp q)).All (Bnd m (k+1)):=fun q=> (h.hp q).up
 unfold MS.ins
 refine Stp.all_if (fun _=> h1 _ _ h) fun _=> Stp.all_if (fun _=> Stp.all_bind fun a _=> Stp.all_bind fun b _=> Stp.all_if (fun _=> trivial) fun _=> h1 _ _ h) fun _=> Stp.all_if (fun _=> ?_) fun _=>
  Stp.all_if (fun _=> Stp.all_bind fun v _=> Stp.all_if (fun _=> trivial) fun _=> h2 _) fun _=> Stp.all_if (fun _=> Stp.all_bind fun v _=> Stp.all_bind fun l _=> h.made) fun _=>
  Stp.all_if (fun _=> Stp.all_bind fun v _=> Stp.all_if (fun _=> trivial) fun _=> Stp.all_if (fun _=> trivial) fun _=> h1 _ _ h) fun _=>
  Stp.all_if (fun _=> Stp.all_bind fun v _=> Stp.all_if (fun _=> trivial) fun _=> Stp.all_bind fun y _=> Stp.all_if (fun _=> trivial) fun _=> h2 _) fun _=>
  Stp.all_if (fun _=> Stp.all_bind fun v _=> Stp.all_bind fun n _=> Stp.all_if (fun _=> trivial) fun _=> h.made) fun _=>
  Stp.all_if (fun _=> Stp.all_bind fun v _=> Stp.all_bind fun n _=> Q4W (h1 _ _ h)) fun _=>
  Stp.all_if (fun _=> Stp.all_bind fun v _=> Stp.all_bind fun n _=> Stp.all_bind fun c _=> Q4W (h2 _)) fun _=>
  Stp.all_if (fun _=> Stp.all_bind fun v _=> Q4W (h1 _ _ h)) fun _=> Stp.all_if (fun _=> ?_) fun _=> Stp.all_if (fun _=> Stp.all_bind fun n _=> ?_) fun _=> ?_
 · unfold MS.newR
   refine Stp.all_if (fun _=> trivial) fun _=> ?_
   refine ⟨?_,fun x hx=> (h.st x hx).up,h.sl,h.out⟩
   exact h.cur.more (vs:=[_]) (rs:=[_]) (by simp) (by simp)
 · unfold MS.inS
   split
   · exact trivial
   · exact h1 _ _ ⟨h.cur,h.st,h.sl,h.out⟩
 · unfold MS.outS
   refine Stp.all_if (fun _=> trivial) fun hn=> ?_
   refine ⟨h.cur.up,fun x hx=> (h.st x hx).up,h.sl,?_⟩
   have:=h.out
   show (s.out++[n]).length≤2000
   rw [List.length_append]
   simp only [List.length_cons,List.length_nil]
   omega
 · unfold MS.call
   split
   · exact trivial
   · rename_i g hg
     refine Stp.all_bind fun rs hr=> Stp.all_bind fun vs hv=> Stp.all_if (fun _=> trivial) fun _=> Stp.all_if (fun _=> trivial) fun hl=> ?_
     have hb:=(Q1E (Q1S hM hg)).2.2.2.2.1
     obtain ⟨b,hb⟩:∃b,g.blocks[0]?=some b:=⟨_,List.getElem?_eq_getElem (by omega)⟩
     refine ⟨⟨g,b,hg,hb,Nat.zero_le _,?_,?_⟩,?_,?_,h.out⟩
     · show vs.length≤_;rw [Q4a hv];omega
     · show rs.length≤_;rw [QbK hr];omega
     · intro y hy
       rcases List.mem_cons.1 hy with rfl|hy
       · exact h.cur.up
       · exact (h.st y hy).up
     · have:=h.sl
       show (s.g::s.st).length≤39
       rw [List.length_cons];omega
theorem Bnd.to (h:Bnd m k s){f:Fun}(hf:m.funcs[s.g.f]?=some f){t:To}(ht:Q1O f.blocks.length t true=0):(s.to f t).All (Bnd m (k+1)):=by
 obtain ⟨q1,q2⟩:=Qan ht
 unfold MS.to
 split
 · exact trivial
 · rename_i b hb
   refine Stp.all_bind fun rs hr=> Stp.all_bind fun vs hv=> Stp.all_if (fun _=> trivial) fun _=> ?_
   refine ⟨⟨f,b,hf,hb,Nat.zero_le _,?_,?_⟩,fun x hx=> (h.st x hx).up,h.sl,h.out⟩
   · show vs.length≤_;rw [Q4a hv];omega
   · show rs.length≤_;rw [QbK hr];omega
theorem Bnd.fin (h:Bnd m k s){f:Fun}(hf:m.funcs[s.g.f]?=some f){e:Tail}(he:Q1M f.blocks.length e=0):(s.fin f e).All (Bnd m (k+1)):=by
 obtain ⟨q1,q2,q3,q4⟩:=Q3J he
 have q5:=Q9V he
 unfold MS.fin
 refine Stp.all_if (fun e1=> ?_) fun n1=> Stp.all_if (fun e2=> Stp.all_bind fun n _=> Stp.all_if (fun _=> ?_) fun _=> ?_) fun n2=> ?_
 · rw [decide_eq_true (by omega)] at q3;exact h.to hf q3
 · rw [decide_eq_true (by omega)] at q3;exact h.to hf q3
 · rw [decide_eq_true (by omega)] at q4;exact h.to hf q4
 · unfold MS.ret
   refine Stp.all_bind fun vs hv=> Stp.all_if (fun _=> trivial) fun _=> ?_
   split
   · rename_i c st hst
     have hc:=h.st c (by rw [hst];exact List.mem_cons_self)
     have h8:vs.length≤8:=by rw [Q4a hv];omega
     refine Bnd.put (s:=⟨s.h,c,st,s.inp,s.out,s.fuel⟩) ⟨hc,fun x hx=> h.st x (by rw [hst];exact List.mem_cons_of_mem _ hx),?_,h.out⟩ h8
     have:=h.sl
     rw [hst,List.length_cons] at this
     show st.length≤39
     omega
   · split
     · exact trivial
     · rename_i ns hns
       show ns.length≤8
       rw [Q85 hns,Q4a hv];omega
theorem Bnd.one (h:Bnd m k s) (hM:m.fault.1=0):(s.one m).All (Bnd m (k+1)):=by
 obtain ⟨f,b,hf,hb,hi,hv,hr⟩:=h.cur
 obtain ⟨-,q1,q2⟩:=Q1F hM hf hb
 unfold MS.one
 rw [hf];dsimp only;rw [hb];dsimp only
 cases hx:b.code[s.g.i]? with
 | none=> exact h.fin hf q2
 | some x=>
   have hlt:=(List.getElem?_eq_some_iff.1 hx).1
   refine Bnd.ins (s:=s.next) ⟨⟨f,b,hf,hb,?_,hv,hr⟩,h.st,h.sl,h.out⟩ hM (q1 x (List.mem_of_getElem? hx))
   show s.g.i+1≤_
   omega
theorem Bnd.start (hM:m.fault.1=0) (inp:List Int) (pages:Int):Bnd m 0 (MS.start inp pages):=by
 have hl:=Q8j hM
 obtain ⟨f,hf⟩:∃f,m.funcs[0]?=some f:=⟨_,List.getElem?_eq_getElem (by omega)⟩
 have hb:=(Q1E (Q1S hM hf)).2.2.2.2.1
 obtain ⟨b,hb⟩:∃b,f.blocks[0]?=some b:=⟨_,List.getElem?_eq_getElem (by omega)⟩
 exact ⟨⟨f,b,hf,hb,Nat.zero_le _,Nat.zero_le _,Nat.zero_le _⟩,fun x hx=> (by cases hx),Nat.zero_le _,Nat.zero_le _⟩
end
end Go.Lir
namespace Go.Lir
def Stp.Fu (k:Nat):Stp→Prop
 | .go s=> s.fuel=k
 | _=> True
theorem Stp.fu_bind {α:Type}{k:Nat}{x:Option α}{f:α→Stp}(h:∀a,(f a).Fu k):(Q16 x f).Fu k:=by
 cases x with
 | none=> exact trivial
 | some a=> exact h a
theorem Stp.fu_if {k:Nat}{c:Prop} [Decidable c] {a b:Stp}(h1:a.Fu k) (h2:b.Fu k):(if c then a else b).Fu k:=by
 by_cases hc:c
 · rw [if_pos hc];exact h1
 · rw [if_neg hc];exact h2
section
variable {m:Module}{s:MS}
theorem Qgj {e:Int}{h:HpS}{v:Val}:(s.made e h v).Fu s.fuel:=Stp.fu_if trivial (Stp.fu_if trivial rfl)
theorem Qcd {v:Val}{e:Int}{r:Stp}{k:Nat}(h:r.Fu k):(Q2A v e r).Fu k:=Stp.fu_if trivial (Stp.fu_if trivial (Stp.fu_if trivial h))
theorem fu_to {f:Fun}{t:To}:(s.to f t).Fu s.fuel:=by
 unfold MS.to
 split
 · exact trivial
 · exact Stp.fu_bind fun _=> Stp.fu_bind fun _=> Stp.fu_if trivial rfl
theorem fu_ins {x:Ins}:(s.ins m x).Fu s.fuel:=by
 unfold MS.ins
 refine Stp.fu_if rfl (Stp.fu_if (Stp.fu_bind fun _=> Stp.fu_bind fun _=> Stp.fu_if trivial rfl) (Stp.fu_if (Stp.fu_if trivial rfl) (Stp.fu_if (Stp.fu_bind fun _=> Stp.fu_if trivial rfl) (Stp.fu_if (Stp.fu_bind fun _=> Stp.fu_bind fun _=> Qgj) (Stp.fu_if (Stp.fu_bind fun _=> Stp.fu_if trivial (Stp.fu_if trivial rfl)) (Stp.fu_if (Stp.fu_bind fun _=> Stp.fu_if trivial (Stp.fu_bind fun _=> Stp.fu_if trivial rfl)) (Stp.fu_if (Stp.fu_bind fun _=> Stp.fu_bind fun _=> Stp.fu_if trivial Qgj) (Stp.fu_if (Stp.fu_bind fun _=> Stp.fu_bind fun _=> Qcd rfl) (Stp.fu_if (Stp.fu_bind fun _=> Stp.fu_bind fun _=> Stp.fu_bind fun _=> Qcd rfl) (Stp.fu_if (Stp.fu_bind fun _=> Qcd rfl) (Stp.fu_if ?_ (Stp.fu_if (Stp.fu_bind fun _=> Stp.fu_if trivial rfl) ?_))))))))))))
 · unfold MS.inS;split <;> first|exact trivial|rfl
 · unfold MS.call
   split
   · exact trivial
   · exact Stp.fu_bind fun _=> Stp.fu_bind fun _=> Stp.fu_if trivial (Stp.fu_if trivial rfl)
theorem fu_fin {f:Fun}{e:Tail}:(s.fin f e).Fu s.fuel:=by
 unfold MS.fin
 refine Stp.fu_if fu_to (Stp.fu_if (Stp.fu_bind fun _=> Stp.fu_if fu_to fu_to) ?_)
 unfold MS.ret
 refine Stp.fu_bind fun vs=> Stp.fu_if trivial ?_
 split
 · rfl
 · split <;> exact trivial
theorem fu_one:(s.one m).Fu s.fuel:=by
 unfold MS.one
 split
 · exact trivial
 · split
   · exact trivial
   · split
     · exact fu_ins (s:=s.next)
     · exact fu_fin
theorem Q9D {s':MS}(h:s.tick.one m= .go s'):s'.fuel=s.fuel+1:=by
 have:=fu_one (m:=m) (s:=s.tick)
 rw [h] at this
 exact this
end
theorem Qcz {m:Module}{most k:Nat}{s:MS}(hk:s.fuel < most) (he:k=s.fuel):Run.steps m most (most+1 - k) (.on s)=Run.steps m most (most+1 - (k+1)) (.of m s (s.tick.one m)):=by
 rw [show most+1 - k=(most+1 - (k+1))+1 by omega,Run.steps]
 rw [show Run.step m most (.on s)= .of m s (s.tick.one m) by unfold Run.step;exact if_neg (by omega)]
theorem Qbz {m:Module}{most k:Nat}{s:MS}(hk:s.fuel=most) (he:k=s.fuel):Run.steps m most (most+1 - k) (.on s)= .over s 7 []:=by
 rw [show most+1 - k=0+1 by omega,Run.steps]
 rw [show Run.step m most (.on s)= .over s 7 [] by unfold Run.step;exact if_pos hk]
 rfl
theorem Q5y {m:Module}{most:Nat}{s:MS}{e:Int}{b:List Int}:∀k,Run.steps m most k (.over s e b)= .over s e b
 | 0=> rfl
 | k+1=> by rw [Run.steps];exact Q5y k
theorem Q9g {m:Module}{most:Nat}{f:Flt}:∀k,Run.steps m most k (.stuck f)= .stuck f
 | 0=> rfl
 | k+1=> by rw [Run.steps];exact Q9g k
def RA (m:Module) (most:Nat) (a:Run):Run→Prop
 | .on s=> a=Run.steps m most (most+1 - s.fuel) (.on s)
 | r=> a=r
section
variable {m:Module}{inp:List Int}
theorem RA.first {pages:Int}{most:Nat}:RA m most (Run.all m inp most pages) (.on (MS.start inp pages)):=rfl
theorem RA.seven {a:Run}{most:Nat}{s:MS}(h:RA m most a (.on s)) (hk:s.fuel=most):RA m most a (.over s 7 []):=Eq.trans h (Qbz hk rfl)
theorem RA.more {a:Run}{most:Nat}{s:MS}{X:Stp}(h:RA m most a (.on s)) (hk:s.fuel < most) (hX:s.tick.one m=X) (hf:∀s',X= .go s'→s'.fuel=s.fuel+1):RA m most a (.of m s X):=by
 have h1:=Eq.trans h (Qcz hk rfl)
 rw [hX] at h1
 cases X with
 | go s'=> show a=_;rw [h1,hf s' rfl];rfl
 | halt e=> exact h1.trans (Q5y _)
 | done l=> exact h1.trans (Q5y _)
 | lost=> exact h1.trans (Q9g _)
theorem RA.nx {a:Run}{most:Nat}{s:MS}(hA:RA m most a (.on s)) (hk:s.fuel≤most):RA m most a (Run.step m most (.on s)):=by
 by_cases h7:s.fuel=most
 · rw [show Run.step m most (.on s)= .over s 7 [] from if_pos h7];exact RA.seven hA h7
 · rw [show Run.step m most (.on s)= .of m s (s.tick.one m) from if_neg h7]
   exact RA.more hA (by omega) rfl fun s' hs=> Q9D hs
end
end Go.Lir
namespace Go.Proofs.YteflkifmgnpbhaaGreat
open Go.Lir
set_option maxHeartbeats 1000000
attribute [local irreducible] LC.wp Q0 Qh Qc retQ Qw LO.wp Q3 Calls
set_option linter.unusedSimpArgs false
set_option linter.unusedVariables false
variable {cx:Cx}{w:World}{L:List Res}{p N:Nat}{c:MC}{fr:List FrmV}{g:FrmV}{h:HpS}{out inp:List Int}{fu:Nat}{m:Module}
theorem Q8s {l:List Int}(hb:l.length≤1000000){v:Value}(hl:intR.sl cx v l) (hS:St cx w L):Rets Tryz.prog Q3C [v] w fun u w'=>∃c',cx.Le c'∧intR.sl c' u l∧St c' w' L:=by
 obtain ⟨a,c,hv⟩:=Rep.SR.shape hl
 cases a with
 | none=>
   have hl0:=Rep.SR.nil_of hl hv
   subst hl0
   subst hv
   all_goals refine lgo tyD Tryz.func65 ?_
   all_goals (refine Zba ?_;refine Q69 (e:=2) (by kernel_rfl) rfl rfl ?_;refine zn ?_)
   all_goals
    first
    | (refine zct ?_
       all_goals (refine Zao ?_)
       all_goals (exact ⟨_,rfl,cx,St.refl hS,Rep.SR.nil _ _ _,hS⟩))
   all_goals (refine Zaa ?_; fail "no law for buildSlice"; refine zm ?_; refine za Q5R Qal hS ?_; intro vp1 w1 css1 hls1 hv1 hS; have hS := hS.ns; refine Zai ?_; exact ⟨_, rfl, cx, St.refl hS, Rep.SR.nil _ _ _, hS⟩)
 | some a=>
   have hn:intR.ls cx [] []:=Rep.LR.nil _ _ _
   all_goals refine lgo tyD Tryz.func65 ?_
   all_goals (refine Zba ?_;refine Q69 (e:=2) (by kernel_rfl) hv rfl ?_;refine zn ?_)
   all_goals refine zcf ?_
   all_goals (refine zsk ?_;refine Zaa ?_;refine QbE Q5R ?_;intro v1 w1 hf1 hs1 hz1;have hS:=hS.new (r:=sl 2 1 v1 []) hs1 hf1 (fun b hb=> Nat.le_of_eq hb.symm);refine zm ?_;(first|(refine za Q5R Qal hS ?_;intro vp1 w1 css1 hls1 hv1 hS;have hS:=hS.ns)|(refine zak Q5R Qal hS ?_;intro vp1 w1 css1 hls1 hv1 hS;have hS:=hS.ns));refine Zai ?_;obtain ⟨c3,hle3,hS,hl3⟩:=St.freezeL (r:=intR) (l:=l) (T:=2) (es:=1) (L:=L) hS.sp hls1 rfl (by omega);exact ⟨_,rfl,c3,hle3,hl3,hS⟩)
end Go.Proofs.YteflkifmgnpbhaaGreat
namespace Go.Proofs.YteflkifmgnpbhaaGreat
open Go.Lir
set_option maxHeartbeats 1000000
attribute [local irreducible] LC.wp Q0 Qh Qc retQ Qw LO.wp Q3 Calls
set_option linter.unusedSimpArgs false
set_option linter.unusedVariables false
theorem QaG {x:Module}(hsm:x.Short){cx:Cx}{w:World}{L:List Res}{cs:List Value}(hx:modR.at cx cs x) (hS:St cx w L):Rets Tryz.prog code_Own [.agg ⟨cs⟩] w fun u w'=>∃c' ds,u= .agg ⟨ds⟩∧cx.Le c'∧modR.at c' ds x∧St c' w' L:=by
 obtain ⟨vf,rfl,hf⟩:=Q21 hx
 obtain ⟨l⟩:=x
 have hf:funcR.sl cx vf l:=hf
 have hsl:l.length≤100000:=hsm.1
 have hsm:∀f∈l,f.Short:=hsm.2
 have hle:=St.refl hS
 all_goals refine lgo tyD Tryz.func64 ?_
 all_goals (refine Zaq ?_;intro p1 w1 hS;refine Ql hS ?_;intro p2 w1 hS;refine ZaE ?_;refine Ql hS ?_;intro p3 w1 hS;refine ZbH ?_;refine zf0 ?_;refine zl hS ?_;refine zL ?_;refine ZaB ?_)
 refine zo [2,3,13,14] (fun A ρ' w'=>∃(k0:Cx) (j:Nat) (u:Value) (css:List (List Value)),Has ρ' A∧Has ρ' [(15, .int .i64 j)]∧(cx.Le k0)∧(j≤l.length)∧(funcR.ls k0 css (l.take j))∧(oneC u=true)∧St k0 w' (sl 95 4 u css::blk p3 24 [u]::blk p2 24 [.slice none 0 0]::blk p1 24 [vf]::L)) (fun ρ' _=> (l.length - iv (ρ' 15)).toNat) ?_ ?_
 · exact ⟨cx,0, .slice none 0 0,[],zh,zh,St.refl hS,(by omega),Rep.LR.nil _ _ _,rfl,by have hS:=hS.nil (T:=95) (es:=4);exact hS⟩
 rintro ρ w1 ⟨k0,j,u,css,hA,hρ,hle2,hj,hls,hu,hS⟩;obtain ⟨ρ,rfl⟩:=env2 hA hρ;have hL0:=hle2;(try have hle:=hle.trans hle2);(try have hf:=hf.up hle2)
 all_goals (refine ZaQ ?_)
 refine Qn rfl (fun hc=> ?_) (fun hc=> ?_)
 · skip
   all_goals (refine Zbk ?_;refine zi ?_;intro b1 o1 cs1 x1 hat1 hx1 he1;obtain ⟨vp1,vr1,vb1,rfl,hp1,hr1,hb1⟩:=QM he1;refine ZaP ?_;intro p5 w1 hS;refine zsn hS ?_;intro w1 hS;have hS:=hS.ns;refine zn ?_;have hsh:=hsm x1 (List.mem_of_getElem? hx1);have hlb:=hsh.2.2.1)
   have hJ6:=St.refl hS
   refine zML hS [2,3,5,13,14,15] (fun A LL ρ' w'=>∃(k6:Cx) (a1 a2:Option Addr) (n1 n2 p6:Nat),Has ρ' A∧Has ρ' [(6, .pointer (some ⟨p6,0,none⟩))]∧(k0.Le k6)∧(tyR.sl k6 (.slice a1 x1.params.length n1) x1.params)∧(tyR.sl k6 (.slice a2 x1.results.length n2) x1.results)∧St k6 w' (blk p6 95 [.int .i64 x1.regs, .slice a1 x1.params.length n1, .slice a2 x1.results.length n2, .slice none 0 0]::LL)) ?_ ?_
   · skip
     refine Q34 4 9 (by kernel_rfl) ?_ ?_
     · skip
       refine Q34 7 9 (by kernel_rfl) ?_ ?_
       · skip
         all_goals (refine zC [(0,none),(1,none),(2,none),(3,none),(5,none),(6,none),(4,some (some [1,6])),(7,some (some [1])),(8,none),(9,some (some [1])),(10,some none)] ?_;have hS:=hS.drew;refine s_cq ?_;refine zf0 ?_;refine Zac ?_;refine zl hS ?_;refine Zac ?_;refine zf0 ?_;refine Zac ?_;refine zl hS ?_;refine Zac ?_;refine zf0 ?_;refine Zac ?_;refine zl hS ?_;refine Zal ?_)
         all_goals (refine zR1 (c:=Q4l hsh.1.1 hsh.1.2 hp1 hS) (h:=?_);rintro v1 w1 ⟨c1,hle2,hk1,hS⟩;obtain ⟨a1,n1,rfl⟩:=Rep.SR.shape hk1;(try have hle:=hle.trans hle2);(try have hL0:=hL0.trans hle2);(try have hJ6:=hJ6.trans hle2);(try have hf:=hf.up hle2);(try have hp1:=hp1.up hle2);(try have hr1:=hr1.up hle2);(try have hb1:=hb1.up hle2);(try have he1:=he1.up hle2);(try have hls:=hls.up hle2))
         all_goals (refine Zbe ?_)
         all_goals (refine zR1 (c:=Q4l hsh.2.1.1 hsh.2.1.2 hr1 hS) (h:=?_);rintro v1 w1 ⟨c2,hle2,hk2,hS⟩;obtain ⟨a2,n2,rfl⟩:=Rep.SR.shape hk2;(try have hle:=hle.trans hle2);(try have hL0:=hL0.trans hle2);(try have hJ6:=hJ6.trans hle2);(try have hf:=hf.up hle2);(try have hk1:=hk1.up hle2);(try have hp1:=hp1.up hle2);(try have hr1:=hr1.up hle2);(try have hb1:=hb1.up hle2);(try have he1:=he1.up hle2);(try have hls:=hls.up hle2))
         all_goals (refine ZaS ?_;refine zb3 [_,_,_,_] ?_;refine ZaY ?_;intro p6 w1 hS;refine ZaZ ?_;refine zsn hS ?_;intro w1 hS;have hS:=hS.ns;refine Zav ?_;exact ⟨_,a1,a2,n1,n2,p6,zh,zh,hJ6,by assumption,by assumption,hS.sp⟩)
       · skip
         all_goals (refine zC [(0,none),(1,none),(2,none),(3,none),(5,none),(6,none),(4,some (some [1,6])),(9,some (some [1,6])),(7,some (some [1])),(8,none),(10,some none)] ?_;have hS:=hS.drew;refine s_cq ?_;refine zf0 ?_;refine Zac ?_;refine zl hS ?_;refine Zac ?_;refine zf0 ?_;refine Zac ?_;refine zl hS ?_;refine Zac ?_;refine zf0 ?_;refine Zac ?_;refine zl hS ?_;refine Zal ?_)
         all_goals (refine zR1 (c:=Q4l hsh.1.1 hsh.1.2 hp1 hS) (h:=?_);rintro v1 w1 ⟨c1,hle2,hk1,hS⟩;obtain ⟨a1,n1,rfl⟩:=Rep.SR.shape hk1;(try have hle:=hle.trans hle2);(try have hL0:=hL0.trans hle2);(try have hJ6:=hJ6.trans hle2);(try have hf:=hf.up hle2);(try have hp1:=hp1.up hle2);(try have hr1:=hr1.up hle2);(try have hb1:=hb1.up hle2);(try have he1:=he1.up hle2);(try have hls:=hls.up hle2))
         all_goals (refine Zbe ?_;refine Ql hS ?_;intro p6 w1 hS;refine Zbe ?_)
         all_goals (refine zR1 (c:=Q4l hsh.2.1.1 hsh.2.1.2 hr1 hS) (h:=?_);rintro v1 w1 ⟨c2,hle2,hk2,hS⟩;obtain ⟨a2,n2,rfl⟩:=Rep.SR.shape hk2;(try have hle:=hle.trans hle2);(try have hL0:=hL0.trans hle2);(try have hJ6:=hJ6.trans hle2);(try have hf:=hf.up hle2);(try have hk1:=hk1.up hle2);(try have hp1:=hp1.up hle2);(try have hr1:=hr1.up hle2);(try have hb1:=hb1.up hle2);(try have he1:=he1.up hle2);(try have hls:=hls.up hle2))
         all_goals (refine ZaS ?_;refine zb3 [_,_,_,_] ?_;refine Zay ?_;refine zsn hS ?_;intro w1 hS;have hS:=hS.ns;refine Zav ?_;exact ⟨_,a1,a2,n1,n2,p6,zh,zh,hJ6,by assumption,by assumption,hS.sp⟩)
     · skip
       all_goals (refine zC [(0,none),(1,none),(2,none),(3,none),(5,none),(6,none),(9,some (some [1,3,6])),(4,some (some [1,6])),(7,some (some [1])),(8,none),(10,some none)] ?_;have hS:=hS.drew;refine s_cq ?_;refine zf0 ?_;refine Zac ?_;refine zl hS ?_;refine Zac ?_;refine zf0 ?_;refine Zac ?_;refine zl hS ?_;refine Zac ?_;refine zf0 ?_;refine Zac ?_;refine zl hS ?_;refine ZaY ?_;intro p6 w1 hS;refine Zbe ?_)
       all_goals (refine zR1 (c:=Q4l hsh.1.1 hsh.1.2 hp1 hS) (h:=?_);rintro v1 w1 ⟨c1,hle2,hk1,hS⟩;obtain ⟨a1,n1,rfl⟩:=Rep.SR.shape hk1;(try have hle:=hle.trans hle2);(try have hL0:=hL0.trans hle2);(try have hJ6:=hJ6.trans hle2);(try have hf:=hf.up hle2);(try have hp1:=hp1.up hle2);(try have hr1:=hr1.up hle2);(try have hb1:=hb1.up hle2);(try have he1:=he1.up hle2);(try have hls:=hls.up hle2))
       all_goals (refine Zbe ?_)
       all_goals (refine zR1 (c:=Q4l hsh.2.1.1 hsh.2.1.2 hr1 hS) (h:=?_);rintro v1 w1 ⟨c2,hle2,hk2,hS⟩;obtain ⟨a2,n2,rfl⟩:=Rep.SR.shape hk2;(try have hle:=hle.trans hle2);(try have hL0:=hL0.trans hle2);(try have hJ6:=hJ6.trans hle2);(try have hf:=hf.up hle2);(try have hk1:=hk1.up hle2);(try have hp1:=hp1.up hle2);(try have hr1:=hr1.up hle2);(try have hb1:=hb1.up hle2);(try have he1:=he1.up hle2);(try have hls:=hls.up hle2))
       all_goals (refine ZaS ?_;refine zb3 [_,_,_,_] ?_;refine Zay ?_;refine zsn hS ?_;intro w1 hS;have hS:=hS.ns;refine Zav ?_;exact ⟨_,a1,a2,n1,n2,p6,zh,zh,hJ6,by assumption,by assumption,hS.sp⟩)
   rintro ρ w1 ⟨k6,a1,a2,n1,n2,p6,hA,hρ,hle2,hk1,hk2,hS⟩;obtain ⟨ρ,rfl⟩:=env2 hA hρ;(try have hle:=hle.trans hle2);(try have hL0:=hL0.trans hle2);(try have hJ6:=hJ6.trans hle2);(try have hf:=hf.up hle2);(try have hp1:=hp1.up hle2);(try have hr1:=hr1.up hle2);(try have hb1:=hb1.up hle2);(try have he1:=he1.up hle2);(try have hls:=hls.up hle2)
   all_goals (refine Zbn ?_;refine zf0 ?_;refine zl hS ?_;refine zL ?_;refine ZaB ?_)
   refine zo [2,3,6,13,14,15,29,30] (fun A ρ' w'=>∃(k1:Cx) (i:Nat) (ub:Value) (cssB:List (List Value)),Has ρ' A∧Has ρ' [(31, .int .i64 i)]∧(k6.Le k1)∧(i≤x1.blocks.length)∧(blockR.ls k1 cssB (x1.blocks.take i))∧(oneC ub=true)∧St k1 w' (sl 92 12 ub cssB::blk p6 95 [.int .i64 x1.regs, .slice a1 x1.params.length n1, .slice a2 x1.results.length n2,ub]::blk p5 95 [.int .i64 x1.regs,vp1,vr1,vb1]::sl 95 4 u css::blk p3 24 [u]::blk p2 24 [.slice none 0 0]::blk p1 24 [vf]::L)) (fun ρ' _=> (x1.blocks.length - iv (ρ' 31)).toNat) ?_ ?_
   · exact ⟨k6,0, .slice none 0 0,[],zh,zh,St.refl hS,(by omega),Rep.LR.nil _ _ _,rfl,by have hS:=hS.nil (T:=92) (es:=12);exact hS.sp⟩
   rintro ρ w1 ⟨k1,i,ub,cssB,hA,hρ,hle2,hi,hlsB,hub,hS⟩;obtain ⟨ρ,rfl⟩:=env2 hA hρ;have hL1:=hle2;(try have hle:=hle.trans hle2);(try have hL0:=hL0.trans hle2);(try have hJ6:=hJ6.trans hle2);(try have hf:=hf.up hle2);(try have hk1:=hk1.up hle2);(try have hk2:=hk2.up hle2);(try have hp1:=hp1.up hle2);(try have hr1:=hr1.up hle2);(try have hb1:=hb1.up hle2);(try have he1:=he1.up hle2);(try have hls:=hls.up hle2)
   all_goals (refine ZaQ ?_)
   refine Qn rfl (fun hc=> ?_) (fun hc=> ?_)
   · skip
     all_goals (refine Zbk ?_;refine zi ?_;intro b2 o2 cs2 x2 hat2 hx2 he2;obtain ⟨vp2,vc2,ve21,ve22,ve23,ve24,ve25,rfl,hp2,hc2,he21,he22,he23,he24,he25⟩:=Q23 he2;refine ZaP ?_;intro p8 w1 hS;refine zsn hS ?_;intro w1 hS;have hS:=hS.ns;refine zn ?_;have hsb:=hsh.2.2.2 x2 (List.mem_of_getElem? hx2);have hlc:=hsb.2.1)
     have hJ10:=St.refl hS
     refine zML hS [2,3,6,8,13,14,15,29,30,31] (fun A LL ρ' w'=>∃(k10:Cx) (a3:Option Addr) (n3 p9:Nat),Has ρ' A∧Has ρ' [(9, .pointer (some ⟨p9,0,none⟩))]∧(k1.Le k10)∧(tyR.sl k10 (.slice a3 x2.params.length n3) x2.params)∧St k10 w' (blk p9 92 [.int .i64 x2.regs, .slice a3 x2.params.length n3, .slice none 0 0, .int .i64 x2.fin.op, .int .i64 x2.fin.a, .int .i64 x2.fin.yes.block,ve21,ve22, .int .i64 x2.fin.no.block,ve23,ve24,ve25]::LL)) ?_ ?_
     · skip
       all_goals (obtain ⟨q1,m1,rfl⟩:=Rep.SR.shape he21;obtain ⟨q2,m2,rfl⟩:=Rep.SR.shape he22;obtain ⟨q3,m3,rfl⟩:=Rep.SR.shape he23;obtain ⟨q4,m4,rfl⟩:=Rep.SR.shape he24;obtain ⟨q5,m5,rfl⟩:=Rep.SR.shape he25)
       refine Q34 4 8 (by kernel_rfl) ?_ ?_
       · skip
         all_goals (refine zC [(0,none),(1,none),(2,none),(3,none),(5,none),(6,none),(4,some (some [1,6])),(7,none),(8,some (some [1,6])),(9,some none)] ?_;have hS:=hS.drew;refine s_cq ?_;refine zf0 ?_;refine Zac ?_;refine zl hS ?_;refine Zac ?_;refine zf0 ?_;refine Zac ?_;refine zl hS ?_;refine Zac ?_;refine zf0 ?_;refine Zac ?_;refine zv hS ?_;refine Zal ?_)
         all_goals (refine zR1 (c:=Q4l hsb.1.1 hsb.1.2 hp2 hS) (h:=?_);rintro v1 w1 ⟨c3,hle2,hk3,hS⟩;obtain ⟨a3,n3,rfl⟩:=Rep.SR.shape hk3;(try have hle:=hle.trans hle2);(try have hL0:=hL0.trans hle2);(try have hL1:=hL1.trans hle2);(try have hJ6:=hJ6.trans hle2);(try have hJ10:=hJ10.trans hle2);(try have hf:=hf.up hle2);(try have hk1:=hk1.up hle2);(try have hk2:=hk2.up hle2);(try have hp1:=hp1.up hle2);(try have hr1:=hr1.up hle2);(try have hb1:=hb1.up hle2);(try have hp2:=hp2.up hle2);(try have hc2:=hc2.up hle2);(try have he21:=he21.up hle2);(try have he22:=he22.up hle2);(try have he23:=he23.up hle2);(try have he24:=he24.up hle2);(try have he25:=he25.up hle2);(try have he1:=he1.up hle2);(try have he2:=he2.up hle2);(try have hls:=hls.up hle2);(try have hlsB:=hlsB.up hle2))
         all_goals (refine ZaS ?_;refine zb3 [_,_,_,_,_,_,_,_,_,_,_,_] ?_;refine ZaY ?_;intro p9 w1 hS;refine ZaZ ?_;refine zsn hS ?_;intro w1 hS;have hS:=hS.ns;refine Zav ?_;exact ⟨_,a3,n3,p9,zh,zh,hJ10,by assumption,hS.sp⟩)
       · skip
         all_goals (refine zC [(0,none),(1,none),(2,none),(3,none),(5,none),(6,none),(8,some (some [1,3,6])),(4,some (some [1,6])),(7,none),(9,some none)] ?_;have hS:=hS.drew;refine s_cq ?_;refine zf0 ?_;refine Zac ?_;refine zl hS ?_;refine Zac ?_;refine zf0 ?_;refine Zac ?_;refine zl hS ?_;refine Zac ?_;refine zf0 ?_;refine Zac ?_;refine zv hS ?_;refine ZaY ?_;intro p9 w1 hS;refine Zbe ?_)
         all_goals (refine zR1 (c:=Q4l hsb.1.1 hsb.1.2 hp2 hS) (h:=?_);rintro v1 w1 ⟨c3,hle2,hk3,hS⟩;obtain ⟨a3,n3,rfl⟩:=Rep.SR.shape hk3;(try have hle:=hle.trans hle2);(try have hL0:=hL0.trans hle2);(try have hL1:=hL1.trans hle2);(try have hJ6:=hJ6.trans hle2);(try have hJ10:=hJ10.trans hle2);(try have hf:=hf.up hle2);(try have hk1:=hk1.up hle2);(try have hk2:=hk2.up hle2);(try have hp1:=hp1.up hle2);(try have hr1:=hr1.up hle2);(try have hb1:=hb1.up hle2);(try have hp2:=hp2.up hle2);(try have hc2:=hc2.up hle2);(try have he21:=he21.up hle2);(try have he22:=he22.up hle2);(try have he23:=he23.up hle2);(try have he24:=he24.up hle2);(try have he25:=he25.up hle2);(try have he1:=he1.up hle2);(try have he2:=he2.up hle2);(try have hls:=hls.up hle2);(try have hlsB:=hlsB.up hle2))
         all_goals (refine ZaS ?_;refine zb3 [_,_,_,_,_,_,_,_,_,_,_,_] ?_;refine Zay ?_;refine zsn hS ?_;intro w1 hS;have hS:=hS.ns;refine Zav ?_;exact ⟨_,a3,n3,p9,zh,zh,hJ10,by assumption,hS.sp⟩)
     rintro ρ w1 ⟨k10,a3,n3,p9,hA,hρ,hle2,hk3,hS⟩;obtain ⟨ρ,rfl⟩:=env2 hA hρ;(try have hle:=hle.trans hle2);(try have hL0:=hL0.trans hle2);(try have hL1:=hL1.trans hle2);(try have hJ6:=hJ6.trans hle2);(try have hJ10:=hJ10.trans hle2);(try have hf:=hf.up hle2);(try have hk1:=hk1.up hle2);(try have hk2:=hk2.up hle2);(try have hp1:=hp1.up hle2);(try have hr1:=hr1.up hle2);(try have hb1:=hb1.up hle2);(try have hp2:=hp2.up hle2);(try have hc2:=hc2.up hle2);(try have he21:=he21.up hle2);(try have he22:=he22.up hle2);(try have he23:=he23.up hle2);(try have he24:=he24.up hle2);(try have he25:=he25.up hle2);(try have he1:=he1.up hle2);(try have he2:=he2.up hle2);(try have hls:=hls.up hle2);(try have hlsB:=hlsB.up hle2)
     all_goals (refine Qv ?_;refine zC [(0,none),(1,none),(2,none),(4,none),(5,none),(6,none),(8,none),(9,none),(10,none),(3,some (some [6,10])),(12,none),(13,none),(7,some (some [10])),(11,some (some [])),(14,some none),(15,none),(16,none),(17,some none),(18,none),(19,none),(20,some none)] ?_;have hS:=hS.drew;refine s_cq ?_;refine zf0 ?_;refine Zbj ?_;refine zv hS ?_;refine Zac ?_;refine zf0 ?_;refine Zbj ?_;refine zv hS ?_;refine Zac ?_;refine zf0 ?_;refine Zbj ?_;refine zl hS ?_;refine Zal ?_)
     all_goals (refine zR1 (c:=QcX (x:=x2.fin.yes) (by have:=hsb.2.2.2.1.1;omega) (by have:=hsb.2.2.2.1.2;omega) ⟨_,_,rfl,he21,he22⟩ hS) (h:=?_);rintro v1 w1 ⟨c7,ds,rfl,hle2,hk7,hS⟩;obtain ⟨y1,y2,rfl,hy1,hy2⟩:=Q64 hk7;obtain ⟨a7,n7,rfl⟩:=Rep.SR.shape hy1;obtain ⟨a8,n8,rfl⟩:=Rep.SR.shape hy2;(try have hle:=hle.trans hle2);(try have hL0:=hL0.trans hle2);(try have hL1:=hL1.trans hle2);(try have hJ6:=hJ6.trans hle2);(try have hJ10:=hJ10.trans hle2);(try have hf:=hf.up hle2);(try have hk1:=hk1.up hle2);(try have hk2:=hk2.up hle2);(try have hk3:=hk3.up hle2);(try have hp1:=hp1.up hle2);(try have hr1:=hr1.up hle2);(try have hb1:=hb1.up hle2);(try have hp2:=hp2.up hle2);(try have hc2:=hc2.up hle2);(try have he21:=he21.up hle2);(try have he22:=he22.up hle2);(try have he23:=he23.up hle2);(try have he24:=he24.up hle2);(try have he25:=he25.up hle2);(try have he1:=he1.up hle2);(try have he2:=he2.up hle2);(try have hls:=hls.up hle2);(try have hlsB:=hlsB.up hle2))
     all_goals (refine ZaS ?_;refine zf0 ?_;refine Zac ?_;refine Yac ?_;refine Zal ?_)
     all_goals (refine zR1 (c:=QcX (x:=x2.fin.no) (by have:=hsb.2.2.2.2.1.1;omega) (by have:=hsb.2.2.2.2.1.2;omega) ⟨_,_,rfl,he23,he24⟩ hS) (h:=?_);rintro v1 w1 ⟨c8,ds,rfl,hle2,hk8,hS⟩;obtain ⟨z1,z2,rfl,hz1,hz2⟩:=Q64 hk8;obtain ⟨a9,n9,rfl⟩:=Rep.SR.shape hz1;obtain ⟨a10,n10,rfl⟩:=Rep.SR.shape hz2;(try have hle:=hle.trans hle2);(try have hL0:=hL0.trans hle2);(try have hL1:=hL1.trans hle2);(try have hJ6:=hJ6.trans hle2);(try have hJ10:=hJ10.trans hle2);(try have hf:=hf.up hle2);(try have hk1:=hk1.up hle2);(try have hk2:=hk2.up hle2);(try have hk3:=hk3.up hle2);(try have hk7:=hk7.up hle2);(try have hp1:=hp1.up hle2);(try have hr1:=hr1.up hle2);(try have hb1:=hb1.up hle2);(try have hp2:=hp2.up hle2);(try have hc2:=hc2.up hle2);(try have he21:=he21.up hle2);(try have he22:=he22.up hle2);(try have he23:=he23.up hle2);(try have he24:=he24.up hle2);(try have he25:=he25.up hle2);(try have he1:=he1.up hle2);(try have he2:=he2.up hle2);(try have hls:=hls.up hle2);(try have hy1:=hy1.up hle2);(try have hy2:=hy2.up hle2);(try have hlsB:=hlsB.up hle2))
     all_goals (refine Zbe ?_)
     all_goals (refine zR1 (c:=Q5C (by have:=hsb.2.2.2.2.2;omega) he25 hS) (h:=?_);rintro v1 w1 ⟨c9,hle2,hw1,hS⟩;obtain ⟨a11,n11,rfl⟩:=Rep.SR.shape hw1;(try have hle:=hle.trans hle2);(try have hL0:=hL0.trans hle2);(try have hL1:=hL1.trans hle2);(try have hJ6:=hJ6.trans hle2);(try have hJ10:=hJ10.trans hle2);(try have hf:=hf.up hle2);(try have hk1:=hk1.up hle2);(try have hk2:=hk2.up hle2);(try have hk3:=hk3.up hle2);(try have hk7:=hk7.up hle2);(try have hk8:=hk8.up hle2);(try have hp1:=hp1.up hle2);(try have hr1:=hr1.up hle2);(try have hb1:=hb1.up hle2);(try have hp2:=hp2.up hle2);(try have hc2:=hc2.up hle2);(try have he21:=he21.up hle2);(try have he22:=he22.up hle2);(try have he23:=he23.up hle2);(try have he24:=he24.up hle2);(try have he25:=he25.up hle2);(try have he1:=he1.up hle2);(try have he2:=he2.up hle2);(try have hls:=hls.up hle2);(try have hy1:=hy1.up hle2);(try have hy2:=hy2.up hle2);(try have hz1:=hz1.up hle2);(try have hz2:=hz2.up hle2);(try have hlsB:=hlsB.up hle2))
     all_goals (refine ZaZ ?_;(first|(refine zsn hS ?_;intro w1 hS;have hS:=hS.ns)|(refine zsm hS ?_;intro w1 hS;have hS:=hS.ns));refine Zac ?_;refine zf0 ?_;refine Zac ?_;refine Yac ?_;refine Zay ?_;(first|(refine zsn hS ?_;intro w1 hS;have hS:=hS.ns)|(refine zsm hS ?_;intro w1 hS;have hS:=hS.ns));refine Zac ?_;refine zf0 ?_;refine Zac ?_;refine Yac ?_;refine Zay ?_;refine zst hS ?_;intro w1 hS;have hS:=hS.ns;refine Zav ?_;refine Zbn ?_;refine zf0 ?_;refine zl hS ?_;refine zL ?_;refine ZaB ?_)
     refine zo [2,3,6,9,13,14,15,29,30,31,62,63] (fun A ρ' w'=>∃(k2:Cx) (k:Nat) (uc:Value) (cssC:List (List Value)),Has ρ' A∧Has ρ' [(64, .int .i64 k)]∧(c9.Le k2)∧(k≤x2.code.length)∧(insR.ls k2 cssC (x2.code.take k))∧(oneC uc=true)∧St k2 w' (sl 84 8 uc cssC::blk p9 92 [.int .i64 x2.regs, .slice a3 x2.params.length n3,uc, .int .i64 x2.fin.op, .int .i64 x2.fin.a, .int .i64 x2.fin.yes.block, .slice a7 x2.fin.yes.regs.length n7, .slice a8 x2.fin.yes.args.length n8, .int .i64 x2.fin.no.block, .slice a9 x2.fin.no.regs.length n9, .slice a10 x2.fin.no.args.length n10, .slice a11 x2.fin.args.length n11]::blk p8 92 [.int .i64 x2.regs,vp2,vc2, .int .i64 x2.fin.op, .int .i64 x2.fin.a, .int .i64 x2.fin.yes.block,ve21,ve22, .int .i64 x2.fin.no.block,ve23,ve24,ve25]::sl 92 12 ub cssB::blk p6 95 [.int .i64 x1.regs, .slice a1 x1.params.length n1, .slice a2 x1.results.length n2,ub]::blk p5 95 [.int .i64 x1.regs,vp1,vr1,vb1]::sl 95 4 u css::blk p3 24 [u]::blk p2 24 [.slice none 0 0]::blk p1 24 [vf]::L)) (fun ρ' _=> (x2.code.length - iv (ρ' 64)).toNat) ?_ ?_
     · exact ⟨c9,0, .slice none 0 0,[],zh,zh,St.refl hS,(by omega),Rep.LR.nil _ _ _,rfl,by have hS:=hS.nil (T:=84) (es:=8);exact hS.sp⟩
     rintro ρ w1 ⟨k2,k,uc,cssC,hA,hρ,hle2,hkk,hlsC,huc,hS⟩;obtain ⟨ρ,rfl⟩:=env2 hA hρ;have hL2:=hle2;(try have hle:=hle.trans hle2);(try have hL0:=hL0.trans hle2);(try have hL1:=hL1.trans hle2);(try have hJ6:=hJ6.trans hle2);(try have hJ10:=hJ10.trans hle2);(try have hf:=hf.up hle2);(try have hk1:=hk1.up hle2);(try have hk2:=hk2.up hle2);(try have hk3:=hk3.up hle2);(try have hk7:=hk7.up hle2);(try have hk8:=hk8.up hle2);(try have hp1:=hp1.up hle2);(try have hr1:=hr1.up hle2);(try have hb1:=hb1.up hle2);(try have hp2:=hp2.up hle2);(try have hc2:=hc2.up hle2);(try have he21:=he21.up hle2);(try have he22:=he22.up hle2);(try have he23:=he23.up hle2);(try have he24:=he24.up hle2);(try have he25:=he25.up hle2);(try have he1:=he1.up hle2);(try have he2:=he2.up hle2);(try have hls:=hls.up hle2);(try have hy1:=hy1.up hle2);(try have hy2:=hy2.up hle2);(try have hz1:=hz1.up hle2);(try have hz2:=hz2.up hle2);(try have hw1:=hw1.up hle2);(try have hlsB:=hlsB.up hle2)
     all_goals (refine ZaQ ?_)
     refine Qn rfl (fun hc=> ?_) (fun hc=> ?_)
     · skip
       all_goals (refine Zbk ?_;refine zi ?_;intro b3 o3 cs3 x3 hat3 hx3 he3;obtain ⟨vr3,va3,rfl,hr3,ha3⟩:=Q1a he3;refine ZaP ?_;intro p11 w1 hS;refine zsn hS ?_;intro w1 hS;have hS:=hS.ns;refine ZaF ?_;have hsi:=hsb.2.2.1 x3 (List.mem_of_getElem? hx3);refine zC [(0,none),(1,none),(3,none),(4,none),(2,some (some [4])),(6,none),(5,some (some [])),(7,some none),(8,none),(9,some none)] ?_;have hS:=hS.drew;refine s_cq ?_;refine zf0 ?_;refine Zac ?_;refine zl hS ?_;refine Zac ?_;refine zf0 ?_;refine Zac ?_;refine zl hS ?_;refine Zal ?_)
       all_goals (refine zR1 (c:=Q5C (by have:=hsi.1;omega) hr3 hS) (h:=?_);rintro v1 w1 ⟨c4,hle2,hk4,hS⟩;obtain ⟨a4,n4,rfl⟩:=Rep.SR.shape hk4;(try have hle:=hle.trans hle2);(try have hL0:=hL0.trans hle2);(try have hL1:=hL1.trans hle2);(try have hL2:=hL2.trans hle2);(try have hJ6:=hJ6.trans hle2);(try have hJ10:=hJ10.trans hle2);(try have hf:=hf.up hle2);(try have hk1:=hk1.up hle2);(try have hk2:=hk2.up hle2);(try have hk3:=hk3.up hle2);(try have hk7:=hk7.up hle2);(try have hk8:=hk8.up hle2);(try have hp1:=hp1.up hle2);(try have hr1:=hr1.up hle2);(try have hb1:=hb1.up hle2);(try have hp2:=hp2.up hle2);(try have hc2:=hc2.up hle2);(try have he21:=he21.up hle2);(try have he22:=he22.up hle2);(try have he23:=he23.up hle2);(try have he24:=he24.up hle2);(try have he25:=he25.up hle2);(try have hr3:=hr3.up hle2);(try have ha3:=ha3.up hle2);(try have he1:=he1.up hle2);(try have he2:=he2.up hle2);(try have he3:=he3.up hle2);(try have hls:=hls.up hle2);(try have hy1:=hy1.up hle2);(try have hy2:=hy2.up hle2);(try have hz1:=hz1.up hle2);(try have hz2:=hz2.up hle2);(try have hw1:=hw1.up hle2);(try have hlsB:=hlsB.up hle2);(try have hlsC:=hlsC.up hle2))
       all_goals (refine ZaS ?_;refine zf0 ?_;refine Zal ?_)
       all_goals (refine zR1 (c:=Q5C (by have:=hsi.2;omega) ha3 hS) (h:=?_);rintro v1 w1 ⟨c5,hle2,hk5,hS⟩;obtain ⟨a5,n5,rfl⟩:=Rep.SR.shape hk5;(try have hle:=hle.trans hle2);(try have hL0:=hL0.trans hle2);(try have hL1:=hL1.trans hle2);(try have hL2:=hL2.trans hle2);(try have hJ6:=hJ6.trans hle2);(try have hJ10:=hJ10.trans hle2);(try have hf:=hf.up hle2);(try have hk1:=hk1.up hle2);(try have hk2:=hk2.up hle2);(try have hk3:=hk3.up hle2);(try have hk4:=hk4.up hle2);(try have hk7:=hk7.up hle2);(try have hk8:=hk8.up hle2);(try have hp1:=hp1.up hle2);(try have hr1:=hr1.up hle2);(try have hb1:=hb1.up hle2);(try have hp2:=hp2.up hle2);(try have hc2:=hc2.up hle2);(try have he21:=he21.up hle2);(try have he22:=he22.up hle2);(try have he23:=he23.up hle2);(try have he24:=he24.up hle2);(try have he25:=he25.up hle2);(try have hr3:=hr3.up hle2);(try have ha3:=ha3.up hle2);(try have he1:=he1.up hle2);(try have he2:=he2.up hle2);(try have he3:=he3.up hle2);(try have hls:=hls.up hle2);(try have hy1:=hy1.up hle2);(try have hy2:=hy2.up hle2);(try have hz1:=hz1.up hle2);(try have hz2:=hz2.up hle2);(try have hw1:=hw1.up hle2);(try have hlsB:=hlsB.up hle2);(try have hlsC:=hlsC.up hle2))
       all_goals (refine ZaZ ?_;refine zst hS ?_;intro w1 hS;have hS:=hS.ns;refine Zac ?_;refine zf0 ?_;refine Zay ?_;refine zst hS ?_;intro w1 hS;have hS:=hS.ns;refine Zav ?_;have hk9:insR.at c5 _ x3:=⟨_,_,rfl,hk4,hk5⟩;refine Q1d ?_;refine zf0 ?_;refine zl hS ?_;refine zv hS ?_;refine zB1 hS [_,_,_,_,_,_,_,_] ?_;intro b1 w1 hS;refine za el_T85 u_T85 hS ?_;intro vp1 w1 css1 hls1 hv1 hS;have hS:=hS.ns;refine zf0 ?_;refine zst hS ?_;intro w1 hS;have hS:=hS.ns;refine Zbq ?_;refine zad ?_;refine Zad ?_;exact ⟨⟨_,k+1,_,_,zh,zh,hL2,(by omega),by rw [Q2E hx3];assumption,by assumption,hS.sp⟩,Qr (by omega)⟩)
     · skip
       all_goals (refine zex ?_)
       all_goals (obtain ⟨c6,hle2,hS,hk6⟩:=St.freezeL (r:=insR) (l:=x2.code) hS (by rw [List.take_of_length_le (by omega)] at hlsC;exact hlsC) rfl (by have:=hsb.2.1;omega);obtain ⟨a6,n6,rfl⟩:=Rep.SR.shape hk6;(try have hle:=hle.trans hle2);(try have hL0:=hL0.trans hle2);(try have hL1:=hL1.trans hle2);(try have hL2:=hL2.trans hle2);(try have hJ6:=hJ6.trans hle2);(try have hJ10:=hJ10.trans hle2);(try have hf:=hf.up hle2);(try have hk1:=hk1.up hle2);(try have hk2:=hk2.up hle2);(try have hk3:=hk3.up hle2);(try have hk7:=hk7.up hle2);(try have hk8:=hk8.up hle2);(try have hp1:=hp1.up hle2);(try have hr1:=hr1.up hle2);(try have hb1:=hb1.up hle2);(try have hp2:=hp2.up hle2);(try have hc2:=hc2.up hle2);(try have he21:=he21.up hle2);(try have he22:=he22.up hle2);(try have he23:=he23.up hle2);(try have he24:=he24.up hle2);(try have he25:=he25.up hle2);(try have he1:=he1.up hle2);(try have he2:=he2.up hle2);(try have hls:=hls.up hle2);(try have hy1:=hy1.up hle2);(try have hy2:=hy2.up hle2);(try have hz1:=hz1.up hle2);(try have hz2:=hz2.up hle2);(try have hw1:=hw1.up hle2);(try have hlsB:=hlsB.up hle2);(try have hlsC:=hlsC.up hle2))
       all_goals (have hk9:blockR.at c6 _ x2:=Qbc (x:=x2) hk3 hk6 hy1 hy2 hz1 hz2 hw1;refine Q1d ?_;refine zf0 ?_;refine zl hS ?_;refine zv hS ?_;refine zB1 hS [_,_,_,_,_,_,_,_,_,_,_,_] ?_;intro b1 w1 hS;refine za el_T93 u_T93 hS ?_;intro vp2 w2 css2 hls2 hv2 hS;have hS:=hS.ns;refine zf0 ?_;refine zst hS ?_;intro w1 hS;have hS:=hS.ns;refine Zbq ?_;refine zad ?_;refine Zad ?_;exact ⟨⟨_,i+1,_,_,zh,zh,hL1,(by omega),by rw [Q2E hx2];assumption,by assumption,hS.sp⟩,Qr (by omega)⟩)
   · skip
     all_goals (refine zex ?_)
     all_goals (obtain ⟨c10,hle2,hS,hk6⟩:=St.freezeL (r:=blockR) (l:=x1.blocks) hS (by rw [List.take_of_length_le (by omega)] at hlsB;exact hlsB) rfl (by have:=hsh.2.2.1;omega);obtain ⟨a6,n6,rfl⟩:=Rep.SR.shape hk6;(try have hle:=hle.trans hle2);(try have hL0:=hL0.trans hle2);(try have hL1:=hL1.trans hle2);(try have hJ6:=hJ6.trans hle2);(try have hf:=hf.up hle2);(try have hk1:=hk1.up hle2);(try have hk2:=hk2.up hle2);(try have hp1:=hp1.up hle2);(try have hr1:=hr1.up hle2);(try have hb1:=hb1.up hle2);(try have he1:=he1.up hle2);(try have hls:=hls.up hle2);(try have hlsB:=hlsB.up hle2))
     all_goals (have hk9:funcR.at c10 _ x1:=⟨_,_,_,rfl,hk1,hk2,hk6⟩;refine Q1d ?_;refine zf0 ?_;refine zl hS ?_;refine zv hS ?_;refine zB1 hS [_,_,_,_] ?_;intro b1 w1 hS;refine za el_T22 u_T22 hS ?_;intro vp3 w3 css3 hls3 hv3 hS;have hS:=hS.ns;refine zf0 ?_;refine zst hS ?_;intro w1 hS;have hS:=hS.ns;refine Zbq ?_;refine zad ?_;refine Zad ?_;exact ⟨⟨_,j+1,_,_,zh,zh,hL0,(by omega),by rw [Q2E hx1];assumption,by assumption,hS.sp⟩,Qr (by omega)⟩)
 · skip
   all_goals (refine zex ?_)
   all_goals (obtain ⟨c11,hle2,hS,hk6⟩:=St.freezeL (r:=funcR) (l:=l) hS (by rw [List.take_of_length_le (by omega)] at hls;exact hls) rfl (by omega);obtain ⟨a6,n6,rfl⟩:=Rep.SR.shape hk6;(try have hle:=hle.trans hle2);(try have hL0:=hL0.trans hle2);(try have hf:=hf.up hle2);(try have hls:=hls.up hle2))
   all_goals (refine Zaa ?_;refine zv hS ?_;refine zsn hS ?_;intro w1 hS;have hS:=hS.ns;refine Zbb ?_;refine Q25 vw (Qa (n:=1) (by kernel_rfl) (by kernel_rfl) (hS.blkAt fd) (by rfl) (by rfl)) ?_;exact ⟨_,rfl,c11,_,rfl,hle,⟨_,rfl,hk6⟩,hS.sp⟩)
end Go.Proofs.YteflkifmgnpbhaaGreat
namespace Go.Lir
def Q7s (m:Module) (inp:List Int) (fuel pages:Int):Flt:=if m.fault.1≠0 then m.fault else if 200 < inp.length∨fuel < 0∨20000 < fuel∨pages < 0∨64 < pages then (1, -1) else (0,0)
end Go.Lir
namespace Go.Proofs.YteflkifmgnpbhaaGreat
open Go.Lir
set_option maxHeartbeats 1000000
attribute [local irreducible] LC.wp Q0 Qh Qc retQ Qw LO.wp Q3 Calls
set_option linter.unusedSimpArgs false
set_option linter.unusedVariables false
variable {cx:Cx}{w:World}{L:List Res}{m:Module}{inp:List Int}
@[reducible] def newC (hp fn lv iv:Value) (fuel:Int):MC:=⟨hp,fn,lv,iv,0, .slice none 0 0, .slice none 0 0,0,fuel,false,0,0⟩
@[reducible] def newG:FrmV:=⟨0,0,0, .slice none 0 0,[], .slice none 0 0,[]⟩
def NewS (m:Module) (inp:List Int) (fuel pages:Int) (cx:Cx) (L:List Res) (u:Value) (w':World):Prop:=
 ((Q7s m inp fuel pages).1≠0∧u= .tuple #[.pointer none,fltV (Q7s m inp fuel pages)]∧St cx w' L)∨
 (Q7s m inp fuel pages=(0,0)∧m.fault.1=0∧inp.length≤200∧0≤fuel∧fuel≤20000∧0≤pages∧pages≤64∧∃c' p hp fn lv iv,u= .tuple #[.pointer (some ⟨p,0,none⟩),fltV (0,0)]∧cx.Le c'∧funcR.sl c' fn m.funcs∧intR.sl c' iv inp∧St c' w' (mS p (newC hp fn lv iv fuel) [] newG 0 ⟨[],pages⟩ [] L))
end Go.Proofs.YteflkifmgnpbhaaGreat
namespace Go.Lir
def QgA (w:World) (b j:Nat):Value:=(w.cell? ⟨b,j,none⟩).getD undef
theorem Qa1 {w:World}{c:Cx}{L:List Res}{T b j i:Nat}{cs:List Value}{u:Value}(hS:St c w L) (hi:nth L i=some (blk b T cs)) (hj:cs[j]?=some u):QgA w b j=u:=by
 unfold QgA;rw [(hS.blkAt hi).cell hj];rfl
def downV:Value→Nat
 | .bool true=> 0
 | _=> 1
def msrW (w:World) (p:Nat):Nat:=2*(iv (QgA w p 8) - iv (QgA w p 7)).toNat+downV (QgA w p 9)
end Go.Lir
namespace Go.Proofs.YteflkifmgnpbhaaGreat
open Go.Lir
set_option maxHeartbeats 1000000
attribute [local irreducible] LC.wp Q0 Qh Qc retQ Qw LO.wp Q3 Calls
set_option linter.unusedSimpArgs false
set_option linter.unusedVariables false
variable {cx:Cx}{w:World}{L:List Res}{p N:Nat}{c:MC}{fr:List FrmV}{g:FrmV}{h:HpS}{out inp:List Int}{m:Module}
def msr (c:MC):Nat:=2*(c.mo - c.fu).toNat+downV (.bool c.dn)
def RunL (m:Module) (r:Run) (most k:Nat) (c:MC) (fr:List FrmV) (g:FrmV) (N:Nat) (h:HpS) (inp out:List Int):Prop:=
 c.dn=false∧c.c=0∧c.e=0∧c.fu=k∧k≤most∧c.mo=most∧N≤k∧Bnd m k (msOf h g fr inp out k)∧r=Run.steps m most (most+1 - k) (.on (msOf h g fr inp out k))
def RunI (m:Module) (r:Run) (most:Nat) (c:MC) (fr:List FrmV) (g:FrmV) (N:Nat) (h:HpS) (inp out back:List Int):Prop:=
 (back=[]∧∃k,RunL m r most k c fr g N h inp out)∨(c.dn=true∧r.oc=⟨c.e,back,out,c.fu⟩∧r.flt=(0,0)∧out.length≤2000∧back.length≤100000)
theorem RunL.next {r:Run}{most k:Nat}{u:Value}(hI:RunL m r most k c fr g N h inp out) (hM:m.fault.1=0) (hi:intR.sl cx c.iv inp) (hs:StepS m p c fr g N h inp out (k+1) cx (sl 2 1 c.bv []::L) u w):
 (u=fltV (0,0)∧∃c' fr' g' N' h' inp' out' back',RunI m r most c' fr' g' N' h' inp' out' back'∧c'.fn=c.fn∧intR.sl cx c'.iv inp'∧msr c' < msr c∧St cx w (mS p c' fr' g' N' h' out' (sl 2 1 c'.bv (Qk back')::L)))∨
 ∃f,r= .stuck (20,f)∧u=fltV (20,f)∧St cx w L:=by
 obtain ⟨hdn,hc0,he0,hfu,hkm,hmo,hN,hB,hr⟩:=hI
 rcases hs with ⟨h7,rfl,hS⟩|⟨hlt,hs⟩
 · refine .inl ⟨rfl,c.over 7,fr,g,N,h,inp,out,[], .inr ⟨rfl,?_,?_,hB.out,Nat.zero_le _⟩,rfl,hi,?_,hS⟩
   · rw [hr,Qbz (m:=m) (most:=most) (k:=k) (s:=msOf h g fr inp out k) (by show k=most;omega) rfl];show Oc.mk 7 [] out k=Oc.mk 7 [] out c.fu;rw [hfu]
   · rw [hr,Qbz (m:=m) (most:=most) (k:=k) (s:=msOf h g fr inp out k) (by show k=most;omega) rfl];rfl
   · unfold msr;rw [hdn];show 2*(c.mo - c.fu).toNat+0 < 2*(c.mo - c.fu).toNat+1;omega
 · have hst:=hr.trans (Qcz (m:=m) (most:=most) (k:=k) (s:=msOf h g fr inp out k) (by show k < most;omega) rfl)
   have hone:(msOf h g fr inp out k).tick.one m=(msOf h g fr inp out (k+1)).one m:=rfl
   rw [hone] at hst
   have hB1:((msOf h g fr inp out (k+1)).one m).All (Bnd m (k+1)):=Bnd.one (s:=msOf h g fr inp out (k+1)) (k:=k) ⟨hB.cur,hB.st,hB.sl,hB.out⟩ hM
   have hms:2*(c.mo - (c.fu+1)).toNat+1 < 2*(c.mo - c.fu).toNat+1:=by omega
   rcases hs with ⟨rfl,hG⟩|⟨e,hX,rfl,fr',g',N',hN',hS⟩|⟨hX,rfl,hS⟩
   · rcases hG with ⟨lv,iv,ov,fr',g',N',h',inp',out',hX,hi',hN', -,hS⟩|⟨ns,bv,fr',g',hX, -,hS⟩
     · rw [hX] at hst hB1
       refine .inl ⟨rfl,c.tick.upd lv iv ov,fr',g',N',h',inp',out',[], .inl ⟨rfl,k+1,hdn,hc0,he0,?_,by omega,hmo,by omega,hB1,hst⟩,rfl,hi',?_,hS⟩
       · show c.fu+1=((k+1:Nat):Int);omega
       · unfold msr;rw [hdn];exact hms
     · rw [hX] at hst
       rw [show Run.of m (msOf h g fr inp out k) (.done ns)= .over (msOf h g fr inp out k).tick 0 ns from rfl,Q5y] at hst
       refine .inl ⟨rfl,⟨c.hp,c.fn,c.lv,c.iv,c.e,bv,c.ov,c.fu+1,c.mo,true,c.c,c.a⟩,fr',g',N,h,inp,out,ns, .inr ⟨rfl,?_,?_,hB.out,?_⟩,rfl,hi,?_,hS.sp⟩
       · rw [hst];show Oc.mk 0 ns out ((k+1:Nat):Int)=Oc.mk c.e ns out (c.fu+1);rw [hfu,he0];rfl
       · rw [hst];rfl
       · have h8:ns.length≤8:=by rw [hX] at hB1;exact hB1
         omega
       · unfold msr;rw [hdn];show 2*(c.mo - (c.fu+1)).toNat+0 < _;omega
   · rw [hX] at hst
     rw [show Run.of m (msOf h g fr inp out k) (.halt e)= .over (msOf h g fr inp out k).tick e [] from rfl,Q5y] at hst
     refine .inl ⟨rfl,c.tick.over e,fr',g',N',h,inp,out,[], .inr ⟨rfl,?_,?_,hB.out,Nat.zero_le _⟩,rfl,hi,?_,hS⟩
     · rw [hst];show Oc.mk e [] out ((k+1:Nat):Int)=Oc.mk e [] out (c.fu+1);rw [hfu];rfl
     · rw [hst];rfl
     · unfold msr;rw [hdn];show 2*(c.mo - (c.fu+1)).toNat+0 < _;omega
   · rw [hX] at hst
     rw [show Run.of m (msOf h g fr inp out k) .lost= .stuck (20,(msOf h g fr inp out k).place m) from rfl,Q9g] at hst
     exact .inr ⟨_,hst,rfl,hS.sp⟩
theorem NewS.bad {fuel pages:Int}{u:Value}(hz:(Q7s m inp fuel pages).1≠0) (hs:NewS m inp fuel pages cx L u w):u= .tuple #[.pointer none,fltV (Q7s m inp fuel pages)]∧St cx w L:=by
 rcases hs with ⟨_,h1,h2⟩|⟨h1,_⟩
 · exact ⟨h1,h2⟩
 · rw [h1] at hz;exact absurd rfl hz
theorem NewS.ok {fuel pages:Int}{u:Value}(hz:(Q7s m inp fuel pages).1=0) (hs:NewS m inp fuel pages cx L u w):Q7s m inp fuel pages=(0,0)∧m.fault.1=0∧inp.length≤200∧0≤fuel∧fuel≤20000∧0≤pages∧pages≤64∧∃c' p hp fn lv iv,u= .tuple #[.pointer (some ⟨p,0,none⟩),fltV (0,0)]∧cx.Le c'∧funcR.sl c' fn m.funcs∧intR.sl c' iv inp∧St c' w (mS p (newC hp fn lv iv fuel) [] newG 0 ⟨[],pages⟩ [] L):=by
 rcases hs with ⟨h1,_⟩|h1
 · exact absurd hz h1
 · exact h1
def ocV (o:Oc) (v1 v2:Value):Value:= .agg ⟨[.int .i64 o.e,v1,v2, .int .i64 o.fuel]⟩
theorem RunI.first {fuel pages:Int}{hp fn lv iv:Value}(hM:m.fault.1=0) (h0:0≤fuel):RunI m (Run.all m inp fuel.toNat pages) fuel.toNat (newC hp fn lv iv fuel) [] newG 0 ⟨[],pages⟩ inp [] []:=
 .inl ⟨rfl,0,rfl,rfl,rfl,rfl,Nat.zero_le _,(Int.toNat_of_nonneg h0).symm,Nat.zero_le _,Bnd.start hM inp pages,rfl⟩
end Go.Proofs.YteflkifmgnpbhaaGreat
namespace Go.Proofs.YteflkifmgnpbhaaGreat
open Go.Lir
set_option maxHeartbeats 1000000
attribute [local irreducible] LC.wp Q0 Qh Qc retQ Qw LO.wp Q3 Calls
set_option linter.unusedSimpArgs false
set_option linter.unusedVariables false
variable {cx:Cx}{w:World}{L:List Res}{p:Nat}{c:RC}{fr:List RFV}{g:RFV}{s:EstS}{out inp back:List Int}{m:Module}{φ:RMap}
theorem blk_ok {i j:Nat}{f:Fun}{b:Block}(hM:m.fault.1=0) (hf:m.funcs[i]?=some f) (hb:f.blocks[j]?=some b):(∀x∈b.code,Qec m x)∧Qed f b.fin∧b.code.length≤40∧(∀x∈b.code,x.args.length≤16):=by
 obtain ⟨q0,q1,q2⟩:=Q1F hM hf hb
 obtain ⟨e1,e2,e3,e4⟩:=Q3J q2
 have hcl:=(Q1Z q0).2.2.2.2
 have hto:∀{t:To},Q1O f.blocks.length t true=0→ToOK f t:=fun ht=> ⟨Q3O ht,by have:=Qan ht;omega,by have:=Qan ht;omega⟩
 exact ⟨fun x hx=> ⟨Q2X (q1 x hx),insF_k (q1 x hx),by have:=Q5s (q1 x hx);omega,by have:=Q5s (q1 x hx);omega⟩,⟨by have:=Q9V q2;omega,⟨e1,e2⟩,fun hq=> hto (by rw [decide_eq_true hq] at e3;exact e3),fun hq=> hto (by rw [decide_eq_true hq] at e4;exact e4)⟩,hcl,fun x hx=> by have:=Q5s (q1 x hx);omega⟩
theorem mcode_ok (hM:m.fault.1=0):CodeOK m:=fun i j f b hf hb=> by
 obtain ⟨_,h2,_,h4⟩:=blk_ok hM hf hb
 exact ⟨h4,h2.2.1⟩
theorem Qgk {φ:RMap}{h:HpS}:∀{l:List Frm}{l':List RFrm},FrsR φ h l l'→∀b∈l',∃a∈l,FrR φ h a b
 | [],[],_,b,hb=> by simp at hb
 | a::l,b::l',hf,x,hx=> by
   rcases List.mem_cons.1 hx with rfl|hx
   · exact ⟨a,by simp,hf.1⟩
   · obtain ⟨y,hy,h2⟩:=Qgk hf.2 x hx;exact ⟨y,by simp [hy],h2⟩
 | [],_::_,hf,_,_=> hf.elim
 | _::_,[],hf,_,_=> hf.elim
theorem bnd_r {k most:Nat}{ms:MS}{fu:Nat}(S:SimF φ ms (rsOf s g fr inp out fu)) (hB:Bnd m k ms) (hM:m.fault.1=0) (hk:k≤most) (hm:most≤20000):∃f b,m.funcs[g.f]?=some f∧f.blocks[g.b]?=some b∧(∀x∈b.code,Qec m x)∧Qed f b.fin∧g.i≤1000∧fr.length≤900∧g.vals.length≤800000∧(∀x∈fr,x.vals.length≤900000)∧out.length≤2000:=by
 obtain ⟨f,b,hf,hb,h1,h2,h3⟩:=hB.cur
 obtain ⟨b1,b2,b3,_⟩:=blk_ok hM hf hb
 obtain ⟨e1,e2,e3,e4⟩:=S.g
 have e1:ms.g.f=g.f:=e1
 have e2:ms.g.b=g.b:=e2
 have e3:ms.g.i=g.i:=e3
 have e5:ms.g.vals.length=g.vals.length:=e4.1
 have hsl:=hB.sl
 have hln:ms.st.length=((fr.map RFV.abs).reverse).length:=Qce S.st
 rw [List.length_reverse,List.length_map] at hln
 have ho:ms.out=out:=S.out
 rw [e1] at hf
 rw [e2] at hb
 refine ⟨f,b,hf,hb,b1,b2,by omega,by omega,by omega,fun x hx=> ?_,by rw [←ho];exact hB.out⟩
 obtain ⟨a,ha,h9⟩:=Qgk S.st x.abs (by show x.abs∈(fr.map RFV.abs).reverse;rw [List.mem_reverse];exact List.mem_map_of_mem hx)
 obtain ⟨_,_,_,_,_,h10,_⟩:=hB.st a ha
 have:a.vals.length=x.vals.length:=h9.2.2.2.1
 omega
def rmsr (c:RC):Nat:=2*(c.mo - c.fu).toNat+downV (.bool c.dn)
theorem Q9x (hS:St cx w (blk p 66 c.cells::L)):msrW w p=rmsr c:=by
 unfold msrW rmsr
 rw [Qa1 (j:=8) hS (i:=0) rfl rfl,Qa1 (j:=7) hS (i:=0) rfl rfl,Qa1 (j:=9) hS (i:=0) rfl rfl]
 rfl
def QR (m:Module) (most:Nat) (c:RC) (fr:List RFV) (g:RFV) (s:EstS) (inp out back:List Int):Run→Prop
 | .on ms=> (∃φ,SimF φ ms (rsOf s g fr inp out ms.fuel))∧back=[]∧c.dn=false∧c.e=0∧c.fu=ms.fuel∧ms.fuel≤most∧c.mo=most∧Bnd m ms.fuel ms∧Qa5 m ms
 | .over ms e b=> out=ms.out∧back=b∧c.dn=true∧c.e=e∧c.fu=ms.fuel∧out.length≤2000∧back.length≤100000∧ms.h.left=s.p.fr.length∧s.count=ms.h.live∧(e=0→Qac ms.h)
 | .stuck _=> False
theorem qone {ms:MS}{k:Nat}(S:SimF φ ms (rsOf s g fr inp out k)) (hR:m.runs.1=0) (hsh:m.Short) (hf:Qa5 m ms):StpR (ms.tick.one m) ((rsOf s g fr inp out (k+1)).one m)∧StE m ms.h (ms.tick.one m)∧(rsOf s g fr inp out (k+1)).one m≠ .crash:=by
 have h1:StpR (ms.tick.one m) ((rsOf s g fr inp out (k+1)).one m):=one_r (mcode_ok (Q1J hR)) (tick_r S)
 have h2:StE m ms.h (ms.tick.one m):=safe_one hR hsh (QeM hf)
 refine ⟨h1,h2,?_⟩
 cases hX:ms.tick.one m with
 | go s'=> rw [hX] at h1;obtain ⟨r',e,_⟩:=h1;rw [e];exact RStp.noConfusion
 | halt e=> rw [hX] at h1;have h1:_=RStp.halt e:=h1;rw [h1];exact RStp.noConfusion
 | done l=> rw [hX] at h1;have h1:_=RStp.done l:=h1;rw [h1];exact RStp.noConfusion
 | lost=> rw [hX] at h2;exact h2.elim
theorem QR.step {most:Nat}{ms:MS}{u:Value}(hP:QR m most c fr g s inp out back (.on ms)) (hR:m.runs.1=0) (hsh:m.Short) (hi:intR.sl cx c.iv inp) (hs:QgN m p c fr g s inp out (ms.fuel+1) cx (sl 2 1 c.bv []::L) u w):
 u= .tuple #[]∧∃c' fr' g' s' inp' out' back',QR m most c' fr' g' s' inp' out' back' (Run.step m most (.on ms))∧c'.fn=c.fn∧intR.sl cx c'.iv inp'∧rmsr c' < rmsr c∧St cx w (rS p c' fr' g' s' out' (sl 2 1 c'.bv (back'.map Qj)::L)):=by
 obtain ⟨⟨φ,S⟩, -,hdn,he0,hfu,hkm,hmo,hB,hf⟩:=hP
 have hM:=Q1J hR
 obtain ⟨O,E,hX0⟩:=qone S hR hsh hf
 have ho:ms.out=out:=S.out
 have hle:ms.h.left=s.p.fr.length:=S.hr.left
 have hcn:s.count=ms.h.live:=S.hr.cnt
 have hol:out.length≤2000:=by rw [←ho];exact hB.out
 obtain ⟨rfl,hs⟩:=hs
 refine ⟨rfl,?_⟩
 rcases hs with ⟨h7,hS⟩|⟨hlt,hs⟩
 · have hst:Run.step m most (.on ms)= .over ms 7 []:=if_pos (show ms.fuel=most by omega)
   rw [hst]
   refine ⟨c.over 7,fr,g,s,inp,out,[],⟨ho.symm,rfl,rfl,rfl,hfu,hol,Nat.zero_le _,hle,hcn,fun h=> by cases h⟩,rfl,hi,?_,hS⟩
   unfold rmsr;rw [hdn];show 2*(c.mo - c.fu).toNat+0 < 2*(c.mo - c.fu).toNat+1;omega
 · have hst:Run.step m most (.on ms)= .of m ms (ms.tick.one m):=if_neg (show¬ms.fuel=most by omega)
   have hB1:(ms.tick.one m).All (Bnd m (ms.fuel+1)):=Bnd.one (s:=ms.tick) (k:=ms.fuel) ⟨hB.cur,hB.st,hB.sl,hB.out⟩ hM
   have hmm:2*(c.mo - (c.fu+1)).toNat+1 < 2*(c.mo - c.fu).toNat+1:=by omega
   have hmz:2*(c.mo - (c.fu+1)).toNat+0 < 2*(c.mo - c.fu).toNat+1:=by omega
   rcases hs with (⟨lv,iv,ov,fr',g',s',inp',out',hX,hi', -,hS⟩|⟨ns,bv,fr',g',hX, -,hS⟩)|⟨e,hX,fr',g',hS⟩
   · rw [hX] at O
     cases hY:ms.tick.one m with
     | lost=> rw [hY] at E;exact E.elim
     | halt e=> rw [hY] at O;exact absurd O RStp.noConfusion
     | done l=> rw [hY] at O;exact absurd O RStp.noConfusion
     | go ms'=>
       rw [hY] at O E hst hB1
       rw [hst]
       obtain ⟨r',er,φ',S'⟩:=O
       cases er
       have hfl:ms'.fuel=ms.fuel+1:=Q9D hY
       refine ⟨c.tick.upd lv iv ov,fr',g',s',inp',out',[],⟨⟨φ',by rw [hfl];exact S'⟩,rfl,hdn,he0,?_,?_,hmo,by rw [hfl];exact hB1,E⟩,rfl,hi',?_,hS⟩
       · show c.fu+1=_;omega
       · omega
       · unfold rmsr;rw [hdn];exact hmm
   · rw [hX] at O
     cases hY:ms.tick.one m with
     | lost=> rw [hY] at E;exact E.elim
     | halt e=> rw [hY] at O;exact absurd O RStp.noConfusion
     | go ms'=> rw [hY] at O;obtain ⟨r',er,_⟩:=O;exact absurd er RStp.noConfusion
     | done l=>
       rw [hY] at O E hst hB1
       rw [hst]
       have hl:RStp.done ns= .done l:=O
       cases hl
       refine ⟨c.tick.did bv,fr',g',s,inp,out,ns,⟨ho.symm,rfl,rfl,he0,?_,hol,?_,hle,hcn,fun _=> E⟩,rfl,hi,?_,(hS.subP (by (repeat constructor);first|done|fail))⟩
       · show c.fu+1=((ms.fuel+1:Nat):Int);omega
       · have h8:ns.length≤8:=hB1;omega
       · unfold rmsr;rw [hdn];exact hmz
   · rw [hX] at O
     cases hY:ms.tick.one m with
     | lost=> rw [hY] at E;exact E.elim
     | done l=> rw [hY] at O;exact absurd O RStp.noConfusion
     | go ms'=> rw [hY] at O;obtain ⟨r',er,_⟩:=O;exact absurd er RStp.noConfusion
     | halt e'=>
       rw [hY] at O hst
       rw [hst]
       have hl:RStp.halt e= .halt e':=O
       cases hl
       refine ⟨c.tick.over e,fr',g',s,inp,out,[],⟨ho.symm,rfl,rfl,rfl,?_,hol,Nat.zero_le _,hle,hcn,fun h0=> absurd h0 (halt_nz hY)⟩,rfl,hi,?_,hS⟩
       · show c.fu+1=((ms.fuel+1:Nat):Int);omega
       · unfold rmsr;rw [hdn];exact hmz
theorem Qfk {most:Nat}{ms:MS}(hP:QR m most c fr g s inp out back (.on ms)) (hR:m.runs.1=0) (hsh:m.Short) (hmo:most≤20000) (hfn:funcR.sl cx c.fn m.funcs) (hi:intR.sl cx c.iv inp) (hS:St cx w (rS p c fr g s out (sl 2 1 c.bv (back.map Qj)::L))):
 Rets Tryz.prog Q2M [.pointer (some ⟨p,0,none⟩)] w fun u w'=> u= .tuple #[]∧∃c' fr' g' s' inp' out' back',QR m most c' fr' g' s' inp' out' back' (Run.step m most (.on ms))∧c'.fn=c.fn∧intR.sl cx c'.iv inp'∧rmsr c' < rmsr c∧St cx w' (rS p c' fr' g' s' out' (sl 2 1 c'.bv (back'.map Qj)::L)):=by
 have hP':=hP
 obtain ⟨⟨φ,S⟩,rfl,hdn,he0,hfu,hkm,hmo2,hB,hf⟩:=hP
 obtain ⟨O,E,hX0⟩:=qone S hR hsh hf
 obtain ⟨f,b,h1,h2,k1,k2,k3,k4,k5,k6,k7⟩:=bnd_r S hB (Q1J hR) hkm hmo
 exact (rwstep_c (m:=m) (f:=f) (b:=b) (inp:=inp) (fu:=ms.fuel+1) hdn hfn hi h1 h2 k1 k2 k3 k4 k5 k6 k7 ⟨by omega,by omega⟩ hX0 hS).mono fun u w' hs=> hP'.step hR hsh hi hs
end Go.Proofs.YteflkifmgnpbhaaGreat
namespace Go.Proofs.YteflkifmgnpbhaaGreat
open Go.Lir
set_option maxHeartbeats 1000000
attribute [local irreducible] LC.wp Q0 Qh Qc retQ Qw LO.wp Q3 Calls
set_option linter.unusedSimpArgs false
set_option linter.unusedVariables false
variable {cx:Cx}{w:World}{L:List Res}{p:Nat}{c:RC}{out:List Int}
theorem QbN (hS:St cx w (blk p 66 c.cells::L)):Rets Tryz.prog Q72 [.pointer (some ⟨p,0,none⟩)] w fun u w'=> u= .bool c.dn∧St cx w' (blk p 66 c.cells::L):=by
 all_goals refine lgo tyD Tryz.func36 ?_
 all_goals (refine ZaV ?_;refine znc ?_;refine zf0 ?_;refine zl hS ?_;refine Zai ?_;exact ⟨_,rfl,rfl,hS.sp⟩)
theorem Q6f {back:List Int}(h1:back.length≤1000000) (h2:out.length≤1000000) (hb:intR.sl cx c.bv back) (ho:intR.sl cx c.ov out) (hS:St cx w (blk p 66 c.cells::L)):
 Rets Tryz.prog Q5l [.pointer (some ⟨p,0,none⟩)] w fun u w'=>∃c' v1 v2,cx.Le c'∧u= .agg ⟨[.int .i64 c.e,v1,v2, .int .i64 c.fu]⟩∧intR.sl c' v1 back∧intR.sl c' v2 out∧St c' w' (blk p 66 c.cells::L):=by
 obtain ⟨ep,fn,lv,iv,e0,bv,ov,fu0,mo,dn⟩:=c
 dsimp only [RC.cells] at hb ho hS ⊢
 obtain ⟨ab,nb,rfl⟩:=Rep.SR.shape hb
 obtain ⟨ao,no,rfl⟩:=Rep.SR.shape ho
 all_goals refine lgo tyD Tryz.func38 ?_
 all_goals (refine Zbv ?_;intro p2 w1 hS;refine ZaH ?_;refine znc ?_;refine zf0 ?_;refine zv hS ?_;refine Ql hS ?_;intro p3 w1 hS;refine zsn hS ?_;intro w1 hS;have hS:=hS.ns;refine ZaF ?_;refine zC [(0,none),(1,none),(3,none),(4,none),(2,some (some [4])),(6,none),(5,some (some [])),(7,some none),(8,none),(9,some none)] ?_;have hS:=hS.drew;refine s_cq ?_;refine zf0 ?_;refine Zac ?_;refine zl hS ?_;refine Zac ?_;refine zf0 ?_;refine Zac ?_;refine zl hS ?_;refine Zal ?_;refine zR1 (c:=Q8s h1 hb hS) (h:=?_);rintro v1 w1 ⟨c1,hle1,hv1,hS⟩;have ho:=Rep.SR.up ho hle1;obtain ⟨a1,n1,rfl⟩:=Rep.SR.shape hv1;refine ZaS ?_;refine zf0 ?_;refine Zal ?_;refine zR1 (c:=Q8s h2 ho hS) (h:=?_);rintro v2 w2 ⟨c2,hle2,hv2,hS⟩;have hv1:=Rep.SR.up hv1 hle2;obtain ⟨a2,n2,rfl⟩:=Rep.SR.shape hv2;refine Zat ?_)
 all_goals (refine s_cf ?_;refine zst hS ?_;intro w1 hS;have hS:=hS.ns;refine Zac ?_;refine zf0 ?_;refine Zay ?_;refine zst hS ?_;intro w1 hS;have hS:=hS.ns;refine Zav ?_;refine Zaa ?_;refine zv hS ?_;refine zsn hS ?_;intro w1 hS;have hS:=hS.ns;refine Zbb ?_;refine Q25 vw (Qa (n:=4) (by kernel_rfl) (by kernel_rfl) (hS.blkAt fd) (by rfl) (by rfl)) ?_;exact ⟨_,rfl,c2,_,_,hle1.trans hle2,rfl,hv1,hv2,hS.sp⟩)
end Go.Proofs.YteflkifmgnpbhaaGreat
namespace Go.Proofs.YteflkifmgnpbhaaGreat
open Go.Lir

@[reducible] def QaR:FuncId:=147
@[reducible] def Q7W:FuncId:=148
@[reducible] def Q7X:FuncId:=149
@[reducible] def held_New:FuncId:=202
@[reducible] def QaQ:FuncId:=205
@[reducible] def Q6q:FuncId:=206
@[reducible] def Q7U:FuncId:=207
@[reducible] def Q6r:FuncId:=209
@[reducible] def Q7V:FuncId:=210
@[reducible] def Q58:FuncId:=237
@[reducible] def Q7T:FuncId:=238
@[reducible] def Q73:FuncId:=239
@[reducible] def Q6m:FuncId:=240
@[reducible] def Q5J:FuncId:=241
@[reducible] def Q5c:FuncId:=242
@[reducible] def Q8H:FuncId:=243
@[reducible] def Q5a:FuncId:=244
@[reducible] def Q6o:FuncId:=245
@[reducible] def Q6p:FuncId:=246
@[reducible] def Q6n:FuncId:=247
@[reducible] def Q74:FuncId:=248
@[reducible] def Q8G:FuncId:=249
@[reducible] def Q75:FuncId:=250
@[reducible] def Q5d:FuncId:=251
@[reducible] def Q5K:FuncId:=261
@[reducible] def Q5b:FuncId:=264
end Go.Proofs.YteflkifmgnpbhaaGreat
namespace Go.Lir
section
variable {P:Program}{l:List GO}{Q:QT}{ρ:Env}{w:World}
def IntF (P : Program) (f : Field) (i : Nat) : Prop := f.name ≠ "_" ∧ (∃ k, P.underlying f.type = some (.int k)) ∧ f.offset = i ∧ Q2J P f.type = true
theorem Q4j (k:Nat){T:TypeId}{q:IntKind}{a b:Int}{kk:IntKind}{w0:World}(ht:P.underlying T=some (.int q)):(Op.equalIn (k+1) T (.int kk a) (.int kk b)).run P w0= .ok (a==b) w0:=by
 simp only [Op.equalIn,Sem.run_bind,Q4 P T _ w0 ht,Result.andThen_ok]
 simp [Sem.run_pure]
def intFB (P : Program) (f : Field) (i : Nat) : Bool := f.name != "_" && (match P.underlying f.type with | some (.int _) => true | _ => false) && f.offset == i && Q2J P f.type
theorem Qg4 {f:Field}{i:Nat}(h:intFB P f i=true):IntF P f i:=by
 unfold intFB at h
 simp only [Bool.and_eq_true,bne_iff_ne,ne_eq,beq_iff_eq] at h
 obtain ⟨⟨⟨h1,h2⟩,h3⟩,h4⟩:=h
 refine ⟨h1,?_,h3,h4⟩
 split at h2
 · rename_i k hk;exact ⟨k,hk⟩
 · cases h2
end
end Go.Lir
namespace Go.Lir
section
variable {P:Program}{l:List GO}{Q:QT}{ρ:Env}{w:World}
theorem run_eq2 (k:Nat){T:TypeId}{f0 f1:Field}{a0 a1 b0 b1:Int}{w0:World}(ht:P.underlying T=some (.struct #[f0,f1])) (hh:P.stoodInHeld T=false)
 (h0:IntF P f0 0) (h1:IntF P f1 1):
 (Op.equalIn (k+2) T (.agg ⟨[.int .i64 a0, .int .i64 a1]⟩) (.agg ⟨[.int .i64 b0, .int .i64 b1]⟩)).run P w0= .ok (a0==b0 && a1==b1) w0:=by
 obtain ⟨n0,⟨q0,u0⟩,o0,s0⟩:=h0
 obtain ⟨n1,⟨q1,u1⟩,o1,s1⟩:=h1
 have hp:∀(T:TypeId) (cs:Array Value) (off:Nat) (v:Value) (w:World),Q2J P T=true→cs[off]?=some v→(part T cs off).run P w= .ok v w:=fun T cs off v w h hv=> Q9t P T cs off v w h hv
 unfold Op.equalIn
 simp only [Sem.run_bind,Q4 P T _ w0 ht,Result.andThen_ok]
 simp [hh,n0,n1,o0,o1,Q4j _ u0,Q4j _ u1,hp _ _ _ _ _ s0,hp _ _ _ _ _ s1]
 by_cases e0:a0=b0 <;> by_cases e1:a1=b1 <;> simp [e0,e1]
def Int2 (P:Program) (T:TypeId):Prop:=∃f0 f1:Field,P.underlying T=some (.struct #[f0,f1])∧P.stoodInHeld T=false∧P.eqGuardType P.depth T=false∧IntF P f0 0∧IntF P f1 1
def int2B (P:Program) (T:TypeId):Bool:=match P.underlying T with
 | some (.struct fs)=> match fs.toList with
   | [f0,f1]=> !P.stoodInHeld T && !P.eqGuardType P.depth T && intFB P f0 0 && intFB P f1 1
   | _=> false
 | _=> false
theorem int2_of {T:TypeId}(h:int2B P T=true):Int2 P T:=by
 unfold int2B at h
 split at h
 · rename_i fs hu
   split at h
   · rename_i f0 f1 hf
     simp only [Bool.and_eq_true,Bool.not_eq_true'] at h
     obtain ⟨⟨⟨h1,h2⟩,h3⟩,h4⟩:=h
     have:fs=#[f0,f1]:=by apply Array.ext';exact hf
     subst this
     exact ⟨f0,f1,hu,h1,h2,Qg4 h3,Qg4 h4⟩
   · cases h
 · cases h
theorem pair_dec (a0 a1 b0 b1:Int):(a0==b0 && a1==b1)=decide ((a0,a1)=(b0,b1)):=by
 rw [Bool.eq_iff_iff];simp
theorem s_eq2 {d:Nat}{T:TypeId}{x y:Operand}{a b:Int×Int}(hT:Int2 P T) (hx:ρ.ev x= .agg ⟨[.int .i64 a.1, .int .i64 a.2]⟩) (hy:ρ.ev y= .agg ⟨[.int .i64 b.1, .int .i64 b.2]⟩)
 (h:Q0 P l Q (upd ρ d (.bool (decide (a=b)))) w):Q0 P (⟨none, .bin d .eql T x y⟩::l) Q ρ w:=by
 obtain ⟨f0,f1,ht,hh,hg,h0,h1⟩:=hT
 exact ⟨.bool (decide (a=b)),fun w0=> by rw [hx,hy];simp only [Sem.run_bind,run_eqGuard_agg w0 .eql T x y _ _ hg,Result.andThen_ok,run_eql_struct,run_eq2 9998 ht hh h0 h1,pair_dec],h⟩
theorem s_eq2_t {d:Nat}{T:TypeId}{x y:Operand}{a:Int×Int}(hT:Int2 P T) (hx:ρ.ev x= .agg ⟨[.int .i64 a.1, .int .i64 a.2]⟩) (hy:ρ.ev y= .agg ⟨[.int .i64 a.1, .int .i64 a.2]⟩)
 (h:Q0 P l Q (upd ρ d (.bool true)) w):Q0 P (⟨none, .bin d .eql T x y⟩::l) Q ρ w:=s_eq2 hT hx hy (by rw [decide_eq_true rfl];exact h)
theorem St.freeze1 {α:Type}{r:Rep α}{c:Cx}{L:List Res}{T b:Nat}{cs:List Value}{x:α}(h:St c w (blk b T cs::L)) (hr:r.at c cs x):∃c',c.Le c'∧St c' w L∧r.sl c' (.slice (some ⟨b,0,none⟩) 1 1) [x]:=by
 have h1:St c w (sl T r.es (.slice (some ⟨b,0,none⟩) 1 1) [cs]::L):=h.slOf (css:=[cs]) (by simp) (by intro q hq;simp at hq;subst hq;exact r.len hr) rfl
 exact h1.freezeL (r:=r) ((Rep.LR.nil r _ _).push hr) rfl (by simp)
end
end Go.Lir
namespace Go.Proofs.YteflkifmgnpbhaaGreat
open Go.Lir
set_option maxHeartbeats 1000000
attribute [local irreducible] LC.wp Q0 Qh Qc retQ Qw LO.wp Q3 Calls
set_option linter.unusedSimpArgs false
set_option linter.unusedVariables false
attribute [local irreducible] hasB Q3g Q1P Q1X
variable {cx:Cx}{w:World}{L:List Res}
def Q9P (hp:Nat) (h:List Bool):Res:=Res.ex fun v=> star (blk hp 296 [v]) (sl 4 1 v (h.map QF))
theorem Q3F {hp:Nat}{h:List Bool}(hS:St cx w (Q9P hp h::L)):∃v,St cx w (blk hp 296 [v]::sl 4 1 v (h.map QF)::L):=by
 obtain ⟨v,hS⟩:=St.ex hS
 exact ⟨v,hS.star⟩
theorem Q3f {hp:Nat}{h:List Bool}{v:Value}(hS:St cx w (blk hp 296 [v]::sl 4 1 v (h.map QF)::L)):St cx w (Q9P hp h::L):=St.ex' v hS.star'
theorem has_u {hp:Nat}{h:List Bool}{v:Value}{r:Int}(hS:St cx w (blk hp 296 [v]::sl 4 1 v (h.map QF)::L)):
 Rets Tryz.prog Q5K [.pointer (some ⟨hp,0,none⟩), .int .i64 r] w fun u w'=> u= .bool (hasB h r)∧St cx w' (blk hp 296 [v]::sl 4 1 v (h.map QF)::L):=by
 have hlen:(h.map QF).length=h.length:=List.length_map _
 all_goals refine lgo tyD Tryz.func261 ?_
 all_goals (refine ZaV ?_)
 all_goals (first|(refine Q2w ?_)|(refine Q3k ?_)|(refine Q1I rfl rfl (fun hc=> ?_) (fun hc=> ?_)))
 all_goals (refine Zbp ?_;refine Zbh ?_;(first|refine zgn ?_|(refine zgy ?_;(first|(refine Qs hS hel1 rfl nth1 (Q17 QF h false (by omega)) rfl ?_)|(refine zl hS ?_))));refine Yan ?_)
 all_goals (first|refine zgn ?_|(refine zgy ?_;(first|(refine Q1k ?_)|(refine Q1w ?_)|(refine QA rfl rfl (fun hc=> ?_) (fun hc=> ?_)))))
 all_goals (refine Zbt ?_;refine Zbh ?_;(first|refine zgn ?_|(refine zgy ?_;(first|(refine Qs hS hel1 rfl nth1 (Q17 QF h false (by omega)) rfl ?_)|(refine zl hS ?_))));refine Yaa ?_;(first|refine zgn ?_|(refine zgy ?_;(first|(refine Yam ?_;intro b1 o1 cs1 x1 hat1 hx1 he1;obtain rfl:=QQ he1)|(refine zie hS ?_;intro b1 o1 hel1)|(refine zij hS ?_;intro b1 o1 hel1))));(first|refine zgn ?_|(refine zgy ?_;(first|(refine Qs hS hel1 rfl nth1 (Q17 QF h false (by omega)) rfl ?_)|(refine zl hS ?_)|(refine zlk hS ?_)|(refine zlj hS ?_)|(refine zli hS ?_)|(refine zlb hS ?_))));refine Yae ?_;refine Zai ?_;(first|(refine ⟨_,rfl,?_,hS.sp⟩;unfold hasB;simp [*];omega;done)|(refine ⟨_,rfl,?_,hS.sp⟩;unfold hasB;simp [*];done)))
theorem len_u {hp:Nat}{h:List Bool}{v:Value}(hS:St cx w (blk hp 296 [v]::sl 4 1 v (h.map QF)::L)):
 Rets Tryz.prog Q5J [.pointer (some ⟨hp,0,none⟩)] w fun u w'=> u= .int .i64 h.length∧St cx w' (blk hp 296 [v]::sl 4 1 v (h.map QF)::L):=by
 have hlen:(h.map QF).length=h.length:=List.length_map _
 all_goals refine lgo tyD Tryz.func241 ?_
 all_goals (refine ZaV ?_;refine znc ?_;refine zf0 ?_;refine zl hS ?_;refine Yay ?_;refine Zai ?_;refine ⟨_,rfl,?_,hS.sp⟩;(rfl);done)
theorem list_u {hp:Nat}{h:List Bool}{v:Value}(hl:h.length≤16) (hS:St cx w (blk hp 296 [v]::sl 4 1 v (h.map QF)::L)):
 Rets Tryz.prog Q5d [.pointer (some ⟨hp,0,none⟩)] w fun u w'=>∃c',cx.Le c'∧intR.sl c' u (Q3g h)∧St c' w' (blk hp 296 [v]::sl 4 1 v (h.map QF)::L):=by
 have hlen:(h.map QF).length=h.length:=List.length_map _
 all_goals refine lgo tyD Tryz.func251 ?_
 all_goals (refine Zaf ?_;refine Zba ?_;refine znc ?_;refine zf0 ?_;(first|(refine Qs hS (by assumption) rfl nth2 (Q17 QF h false (by omega)) rfl ?_)|(refine zl hS ?_));refine Yay ?_;refine ZaB ?_;have hS:=St.nil (T:=3) (es:=1) hS)
 refine zo [9,10] (fun A ρ' w'=>∃(j:Nat) (vo:Value) (co:List (List Value)),Has ρ' A∧Has ρ' [(11, .int .i64 j),(3,vo)]∧(j≤h.length)∧(intR.ls cx co (Q1X h j))∧St cx w' (sl 3 1 vo co::blk hp 296 [v]::sl 4 1 v (h.map QF)::L)) (fun ρ' _=> (h.length - iv (ρ' 11)).toNat) ?_ ?_
 · exact ⟨0,_,[],zh,zh,(by omega),by unfold Q1X;exact Rep.LR.nil _ _ _,hS.sp⟩
 rintro ρ w1 ⟨j,vo,co,hA,hρ,hj,hls,hS⟩;obtain ⟨ρ,rfl⟩:=env2 hA hρ;have hll:=QdS h j;have hsu:=Q5t h j
 all_goals (refine ZaQ ?_)
 refine Qn rfl (fun hc=> ?_) (fun hc=> ?_)
 · skip
   all_goals (refine ZbC ?_;(first|(refine Yam ?_;intro b1 o1 cs1 x1 hat1 hx1 he1;obtain rfl:=QQ he1)|(refine zie hS ?_;intro b1 o1 hel1));(first|(refine Qs hS (by assumption) rfl nth2 (Q17 QF h false (by omega)) rfl ?_)|(refine zl hS ?_)|(refine zlk hS ?_)|(refine zlj hS ?_)|(refine zli hS ?_)|(refine zlb hS ?_));refine zm ?_;refine Zad ?_;refine Zaf ?_)
   refine Q6H rfl (fun hc=> ?_) (fun hc=> ?_)
   · skip
     all_goals (refine ZaI ?_;refine zB1 hS [_] ?_;intro b1 w1 hS;refine za Q5e Q9a hS ?_;intro vp1 w1 css1 hls1 hv1 hS;have hS:=hS.ns;refine Zad ?_;refine Q1d ?_;refine zad ?_;refine Zad ?_;exact ⟨⟨j+1,_,_,zh,zh,(by omega),by rw [hsu,if_pos (by assumption)];exact hls1,hS.sp⟩,Qr (by omega)⟩)
   · skip
     all_goals (refine zsk ?_;refine Q1d ?_;refine zad ?_;refine Zad ?_;(first|(exact ⟨⟨j+1,_,_,zh,zh,(by omega),by rw [hsu,if_pos (by assumption)];exact hls1,hS.sp⟩,Qr (by omega)⟩)|(exact ⟨⟨j+1,_,_,zh,zh,(by omega),by rw [hsu,if_neg (by rw [hc];decide),List.append_nil];exact hls,hS.sp⟩,Qr (by omega)⟩)))
 · skip
   all_goals (refine zex ?_;refine Zbl ?_;refine ⟨_,rfl,?_⟩;obtain ⟨c',hle,hS',hk⟩:=St.freezeL (r:=intR) hS hls rfl (by omega);refine ⟨c',hle,?_,hS'⟩;rw [show j=h.length by omega] at hk;unfold Q3g;exact hk)
theorem open_u {hp:Nat}{h:List Bool}{v:Value}(hl:h.length < 16) (hS:St cx w (blk hp 296 [v]::sl 4 1 v (h.map QF)::L)):
 Rets Tryz.prog Q5c [.pointer (some ⟨hp,0,none⟩)] w fun u w'=> u= .int .i64 h.length∧∃v',St cx w' (blk hp 296 [v']::sl 4 1 v' ((h++[true]).map QF)::L):=by
 have hlen:(h.map QF).length=h.length:=List.length_map _
 all_goals refine lgo tyD Tryz.func242 ?_
 all_goals (refine Zba ?_;refine znc ?_;refine zf0 ?_;refine zl hS ?_;refine Yay ?_)
 all_goals (refine Yao ?_)
 all_goals (refine zn ?_)
 all_goals refine zcf ?_
 all_goals (refine zsk ?_;refine Zas ?_;refine znc ?_;refine zf0 ?_;refine zl hS ?_;refine zB1 hS [_] ?_;intro b1 w1 hS;refine Q24 Qci (.inl u_T146) hS vw vw fd (hS.srcB1 fd rfl) (by simp;omega) ?_;intro vp w2 hS;have hS:=hS.ns;rw [show h.map QF++[[Value.bool true]]=(h++[true]).map QF by simp [QF]] at hS;refine znc ?_;refine zf0 ?_;refine zst hS ?_;intro w1 hS;have hS:=hS.ns;refine ZaF ?_;have hlen1:(h++[true]).length=h.length+1:=(by simp);refine Zby ?_;refine zf0 ?_;refine zl hS ?_;refine Yay ?_;refine zsu ?_)
 all_goals (refine Zai ?_;exact ⟨_,rfl,(by congr 1;omega),_,hS.sp⟩)
theorem shut_u {hp:Nat}{h:List Bool}{v:Value}{r:Int}(hr:hasB h r=true) (hS:St cx w (blk hp 296 [v]::sl 4 1 v (h.map QF)::L)):
 Rets Tryz.prog Q5a [.pointer (some ⟨hp,0,none⟩), .int .i64 r] w fun u w'=> u= .bool true∧St cx w' (blk hp 296 [v]::sl 4 1 v ((h.set r.toNat false).map QF)::L):=by
 have hlen:(h.map QF).length=h.length:=List.length_map _
 have hr':=Q45 hr
 all_goals refine lgo tyD Tryz.func244 ?_
 all_goals (refine Zaf ?_;refine Zas ?_;refine Q4b rfl (has_u hS) ?_;rintro v1 w1 ⟨rfl,hS⟩;rw [hr];refine Zaz ?_;refine Zaf ?_)
 all_goals refine zct ?_
 all_goals (refine Zby ?_;refine zf0 ?_;refine zl hS ?_;refine zm ?_;(first|(refine Yam ?_;intro b1 o1 cs1 x1 hat1 hx1 he1;obtain rfl:=QQ he1)|(refine zie hS ?_;intro b1 o1 hel1)|(refine zij hS ?_;intro b1 o1 hel1));(first|(refine Q9k hS hel1 rfl vw nth1 (Q17 QF h false (by omega)) rfl rfl ?_;intro w2 hS;have hS:=hS.ns;rw [show (QF (h.getD r.toNat false)).set 0 (Value.bool false)=QF false from rfl,map_set] at hS)|(refine zst hS ?_;intro w1 hS;have hS:=hS.ns)|(refine zsi hS ?_;intro w1 hS;have hS:=hS.ns)|(refine zsb hS ?_;intro w1 hS;have hS:=hS.ns));refine ZaH ?_;refine Zai ?_;refine ⟨_,rfl,?_,hS.sp⟩;(rfl);done)
theorem pass_u {hp:Nat}{h:List Bool}{v v2:Value}{xs:List Int}(hl:h.length≤16) (hx:intR.sl cx v2 xs) (hS:St cx w (blk hp 296 [v]::sl 4 1 v (h.map QF)::L)):
 Rets Tryz.prog Q5b [.pointer (some ⟨hp,0,none⟩),v2] w fun u w'=> u= .int .i64 (Q1P h [] xs)∧∃c',cx.Le c'∧St c' w' (blk hp 296 [v]::sl 4 1 v (h.map QF)::L):=by
 have hlen:(h.map QF).length=h.length:=List.length_map _
 have hxl:=hx.len
 all_goals refine lgo tyD Tryz.func264 ?_
 all_goals (refine ZaV ?_;refine znc ?_;refine zf0 ?_;(first|(refine Qs hS hel2 rfl fd hgetS rfl ?_)|(refine zl hS ?_));refine Yay ?_;refine s_makeE Qci hS rfl rfl (by omega) (by omega) ?_;intro v5 w1 hS;rw [Int.toNat_natCast] at hS;refine ZbE ?_;have hS:St cx _ (sl 4 1 v5 ((Q5h h []).map QF)::blk hp 296 [v]::sl 4 1 v (h.map QF)::L):=(by rw [QeI,List.map_replicate];exact hS);refine Zag ?_;refine zL ?_;refine ZaB ?_)
 refine zo [0,1,5,14,15] (fun A ρ' w'=>∃(j:Nat),Has ρ' A∧Has ρ' [(16, .int .i64 j)]∧(j≤xs.length)∧(Q1P h [] xs=Q1P h (xs.take j) (xs.drop j))∧St cx w' (sl 4 1 v5 ((Q5h h (xs.take j)).map QF)::blk hp 296 [v]::sl 4 1 v (h.map QF)::L)) (fun ρ' _=> (xs.length - iv (ρ' 16)).toNat) ?_ ?_
 · exact ⟨0,zh,zh,(by omega),by rfl,hS.sp⟩
 rintro ρ w1 ⟨j,hA,hρ,hj,hgo,hS⟩;obtain ⟨ρ,rfl⟩:=env2 hA hρ;have hln:=QeJ h (xs.take j);have hlm:((Q5h h (xs.take j)).map QF).length=h.length:=(by rw [List.length_map,hln])
 all_goals (refine ZaQ ?_)
 refine Qn rfl (fun hc=> ?_) (fun hc=> ?_)
 · skip
   all_goals (refine Zbk ?_;refine zi ?_;intro b1 o1 cs1 x1 hat1 hx1 he1;obtain rfl:=QQ he1;(first|(refine Qs hS hel2 rfl fd hgetS rfl ?_)|(refine zl hS ?_)|(refine zlk hS ?_));refine ZbE ?_;rw [Q7 hx1,Q1P] at hgo;refine ZaI ?_;refine Q4b rfl (has_u (L:=sl 4 1 v5 ((Q5h h (xs.take j)).map QF)::L) hS.sp) ?_;rintro v1 w1 ⟨rfl,hS⟩;refine ZaU ?_)
   refine Q6H rfl (fun hc=> ?_) (fun hc=> ?_)
   · skip
     all_goals (refine Zao ?_;exact ⟨_,rfl,(by rw [hgo,if_neg (by simpa using hc)]),cx,St.refl hS,hS.sp⟩)
   · skip
     all_goals (have hc1:hasB h x1=true:=(by simpa using hc);have hr:=Q45 hc1;rw [if_pos hc1] at hgo;have hsg:(Q5h h (xs.take j)).getD x1.toNat false=decide (x1∈xs.take j):=QeK (by omega) (by omega);have hgetS:=Q17 QF (Q5h h (xs.take j)) false (m:=x1.toNat) (by omega);refine zsk ?_;refine ZbL ?_;(first|(refine Yam ?_;intro b2 o2 cs2 x2 hat2 hx2 he2;obtain rfl:=QQ he2)|(refine zie hS ?_;intro b2 o2 hel2)|(refine zij hS ?_;intro b2 o2 hel2));(first|(refine Qs hS hel2 rfl fd hgetS rfl ?_)|(refine zl hS ?_)|(refine zlk hS ?_)|(refine zlj hS ?_)|(refine zli hS ?_)|(refine zlb hS ?_));refine zn ?_)
     refine Q6H rfl (fun hc=> ?_) (fun hc=> ?_)
     · skip
       all_goals (have hc2:x1∈xs.take j:=(by rw [hsg] at hc;exact of_decide_eq_true hc);rw [if_pos hc2] at hgo;refine Zao ?_;(first|(exact ⟨_,rfl,(by rw [hgo,if_neg (by simpa using hc)]),cx,St.refl hS,hS.sp⟩)|(exact ⟨_,rfl,hgo ▸ rfl,cx,St.refl hS,hS.sp⟩)))
     · skip
       all_goals (have hc2:x1∉xs.take j:=(by rw [hsg] at hc;exact of_decide_eq_false hc);rw [if_neg hc2] at hgo;refine zsk ?_;refine ZaI ?_;(first|(refine Yam ?_;intro b3 o3 cs3 x3 hat3 hx3 he3;obtain rfl:=QQ he3)|(refine zie hS ?_;intro b3 o3 hel3)|(refine zij hS ?_;intro b3 o3 hel3));(first|(refine zst hS ?_;intro w1 hS;have hS:=hS.ns)|(refine zsi hS ?_;intro w1 hS;have hS:=hS.ns)|(refine zsb hS ?_;intro w1 hS;have hS:=hS.ns));refine Zbq ?_;refine zad ?_;refine Zad ?_;exact ⟨⟨j+1,zh,zh,(by omega),by rw [hgo,Q2E hx1],by rw [Q2E hx1,←QeH hr.1];exact hS.sp⟩,Qr (by omega)⟩)
 · skip
   all_goals (refine zex ?_;refine Zbo ?_;have hie:j=xs.length:=(by omega);subst hie;rw [List.take_length,List.drop_length,Q1P] at hgo;refine Zag ?_;refine zL ?_;refine zm ?_;refine Q4b rfl (list_u (L:=L) hl hS.sp) ?_;rintro v5 w5 ⟨c5,hle5,hk5,hS⟩;refine zL ?_)
   all_goals (first|(refine Q1k ?_)|(refine Q1w ?_)|(refine QA rfl rfl (fun hc=> ?_) (fun hc=> ?_)))
   all_goals (refine zn ?_)
   all_goals
    first
    | (refine zct ?_
       all_goals (refine Zao ?_)
       all_goals (first|(exact ⟨_,rfl,(by rw [hgo,if_neg (by simpa using hc)]),cx,St.refl hS,hS.sp⟩)|(exact ⟨_,rfl,hgo ▸ rfl,cx,St.refl hS,hS.sp⟩)|(exact ⟨_,rfl,(by rw [hgo,if_pos (by omega)]),c5,hle5,hS.sp⟩)))
    | (refine zcf ?_
       all_goals refine zsk ?_)
   all_goals (refine Zao ?_;(first|(exact ⟨_,rfl,(by rw [hgo,if_neg (by simpa using hc)]),cx,St.refl hS,hS.sp⟩)|(exact ⟨_,rfl,hgo ▸ rfl,cx,St.refl hS,hS.sp⟩)|(exact ⟨_,rfl,(by rw [hgo,if_pos (by omega)]),c5,hle5,hS.sp⟩)|(exact ⟨_,rfl,(by rw [hgo,if_neg (by omega)]),c5,hle5,hS.sp⟩)))
theorem new_u {n:Int}(hS:St cx w L):Rets Tryz.prog held_New [.int .i64 n] w fun u w'=>∃hp v,u= .pointer (some ⟨hp,0,none⟩)∧St cx w' (blk hp 296 [v]::sl 4 1 v ((List.replicate (min n 16).toNat true).map QF)::L):=by
 all_goals refine lgo tyD Tryz.func202 ?_
 all_goals (refine Zaf ?_;refine Zaa ?_;refine zb0 [_] ?_;refine zb hS ?_;intro p5 w1 hS;refine ZaM ?_;refine s_min rfl rfl ?_;refine ZaB ?_;have hS:=St.nil (T:=4) (es:=1) hS)
 refine zo [3,7] (fun A ρ' w'=>∃(j:Nat) (v:Value),Has ρ' A∧Has ρ' [(8, .int .i64 j)]∧(j≤(min n 16).toNat)∧St cx w' (sl 4 1 v ((List.replicate j true).map QF)::blk p5 296 [v]::L)) (fun ρ' _=> (min n 16 - iv (ρ' 8)).toNat) ?_ ?_
 · exact ⟨0,_,zh,zh,(by omega),hS.sp⟩
 rintro ρ w1 ⟨j,v,hA,hρ,hj,hS⟩;obtain ⟨ρ,rfl⟩:=env2 hA hρ
 all_goals (refine ZaQ ?_)
 refine Qn rfl (fun hc=> ?_) (fun hc=> ?_)
 · skip
   all_goals (refine ZaA ?_;refine ZaI ?_;refine znc ?_;refine zf0 ?_;refine zl hS ?_;refine zB1 hS [_] ?_;intro b1 w1 hS;refine Q24 Qci (.inl u_T146) hS vw vw fd (hS.srcB1 fd rfl) (by simp;omega) ?_;intro vp w2 hS;have hS:=hS.ns;rw [show (List.replicate j true).map QF++[[Value.bool true]]=(List.replicate (j+1) true).map QF by rw [List.replicate_succ',List.map_append];rfl] at hS;refine znc ?_;refine zf0 ?_;refine zst hS ?_;intro w1 hS;have hS:=hS.ns;refine Zbq ?_;refine zad ?_;refine Zad ?_;exact ⟨⟨j+1,_,zh,zh,(by omega),hS.sp⟩,Qr (by omega)⟩)
 · skip
   all_goals (refine zex ?_;refine Zbl ?_;exact ⟨_,rfl,_,v,rfl,(by rw [show (min n 16).toNat=j by omega];exact hS.sp)⟩)
end Go.Proofs.YteflkifmgnpbhaaGreat
namespace Go.Proofs.YteflkifmgnpbhaaGreat
open Go.Lir
set_option maxHeartbeats 1000000
attribute [local irreducible] LC.wp Q0 Qh Qc retQ Qw LO.wp Q3 Calls
set_option linter.unusedSimpArgs false
set_option linter.unusedVariables false
theorem Qfq {k r:Int}{l:List Ty}{to:List Int}(h:k≠1∧(r < 0∨(to.length:Int)≤r)):Ty.ren (.mk k r l) to=none:=by
 rw [Ty.ren,if_pos (by omega)]
theorem QbL {k r x:Int}{l:List Ty}{to:List Int}(hk:k≠1) (hx:to[r.toNat]?=some x) (h:x < 0):Ty.ren (.mk k r l) to=none:=by
 rw [Ty.ren,if_pos ⟨hk, .inr (.inr (by rw [List.getD_eq_getElem?_getD,hx];exact h))⟩]
theorem ren_one {k r:Int}{l:List Ty}{to:List Int}(h:k=1):Ty.ren (.mk k r l) to=(Tys.ren l to).map (Ty.mk k r):=by
 subst h
 rw [Ty.ren,if_neg (by omega)]
 cases Tys.ren l to <;> rfl
theorem ren_to {k r x:Int}{l:List Ty}{to:List Int}(hk:k≠1) (h0:0≤r) (h1:r < to.length) (hx:to[r.toNat]?=some x) (h:0≤x):Ty.ren (.mk k r l) to=(Tys.ren l to).map (Ty.mk k x):=by
 have hd:to.getD r.toNat 0=x:=by rw [List.getD_eq_getElem?_getD,hx];rfl
 rw [Ty.ren,if_neg (by omega),hd]
 cases Tys.ren l to with
 | none=> rfl
 | some m=> simp [hk]
theorem Qay {l us:List Ty}{to:List Int}{j:Nat}{x:Ty}(hd:Tys.ren l to=(Tys.ren (l.drop j) to).map (us++·)) (hx:l[j]?=some x) (hn:x.ren to=none):Tys.ren l to=none:=by
 rw [hd,Q7 hx,Tys.ren,hn];rfl
theorem Qfp {l us:List Ty}{to:List Int}{j:Nat}{x y:Ty}(hd:Tys.ren l to=(Tys.ren (l.drop j) to).map (us++·)) (hx:l[j]?=some x) (hn:x.ren to=some y):Tys.ren l to=(Tys.ren (l.drop (j+1)) to).map ((us++[y])++·):=by
 rw [hd,Q7 hx,Tys.ren,hn]
 cases Tys.ren (l.drop (j+1)) to <;> simp
theorem rens_all {l us:List Ty}{to:List Int}{j:Nat}(hd:Tys.ren l to=(Tys.ren (l.drop j) to).map (us++·)) (hj:l.length≤j):Tys.ren l to=some us:=by
 rw [hd,List.drop_of_length_le hj,Tys.ren];simp
theorem pren_c:∀(t:Ty),t.Short→∀{cx:Cx}{w:World}{L:List Res}{cs:List Value}{v2:Value}{to:List Int},tyR.at cx cs t→intR.sl cx v2 to→St cx w L→
 Rets Tryz.prog Qam [.agg ⟨cs⟩,v2] w fun u w'=>∃c' ds,u= .tuple #[.agg ⟨ds⟩, .bool (t.ren to).isSome]∧cx.Le c'∧tyR.at c' ds ((t.ren to).getD (.mk 0 0 []))∧St c' w' L:=by
 intro t
 induction t using Ty.ind with
 | h k r l ih=>
   intro hs cx w L cs v2 to ht hto hS
   obtain ⟨v,rfl,hl⟩:=Qt ht
   simp only [Ty.kind,Ty.r,Ty.l] at hl ht ⊢
   obtain ⟨hlen,hsub⟩:=hs.parts
   have hle:=St.refl hS
   all_goals refine lgo tyD Tryz.func263 ?_
   all_goals (refine Zaq ?_;intro p2 w1 hS;refine Ql hS ?_;intro p4 w1 hS;refine ZbO ?_;refine zf0 ?_;refine zl hS ?_;refine zf0 ?_;refine zl hS ?_;refine zb2 [_,_,_] ?_;refine Ql hS ?_;intro p6 w1 hS;refine zsn hS ?_;intro w1 hS;have hS:=hS.ns;refine zn ?_)
   refine zM [1,2,4,6] (fun A ρ' w'=>∃(r2:Int),Has ρ' A∧Has ρ' []∧(Ty.ren (.mk k r l) to=(Tys.ren l to).map (Ty.mk k r2))∧St cx w' (blk p6 115 [.int .i64 k, .int .i64 r2, .slice none 0 0]::blk p4 115 [.int .i64 0, .int .i64 0, .slice none 0 0]::blk p2 115 [.int .i64 k, .int .i64 r,v]::L)) ?_ ?_
   · skip
     all_goals (refine Zaa ?_;refine zf0 ?_;refine zl hS ?_)
     all_goals (first|(refine Q11 ?_)|(refine Q18 ?_)|(refine Qu rfl rfl (fun hc=> ?_) (fun hc=> ?_)))
     all_goals (refine zn ?_)
     all_goals
      first
      | (refine zct ?_
         all_goals (refine Zbn ?_;refine zf0 ?_;refine zl hS ?_)
         all_goals (first|(refine Q1k ?_)|(refine Q1w ?_)|(refine QA rfl rfl (fun hc=> ?_) (fun hc=> ?_)))
         all_goals (refine ZaO ?_;refine Yaa ?_;refine Yaj ?_)
         all_goals (first|refine zgn ?_|(refine zgy ?_;(first|(refine Q2w ?_)|(refine Q3k ?_)|(refine Q1I rfl rfl (fun hc=> ?_) (fun hc=> ?_)))))
         all_goals (refine Zbt ?_;refine Zap ?_;(first|refine zgn ?_|(refine zgy ?_;refine Yam ?_;intro b1 o1 cs1 x1 hat1 hx1 he1;obtain rfl:=QQ he1));refine Yba ?_)
         all_goals (first|refine zgn ?_|(refine zgy ?_;(first|(refine Q1k ?_)|(refine Q1w ?_)|(refine QA rfl rfl (fun hc=> ?_) (fun hc=> ?_)))))
         all_goals (refine ZaL ?_)
         all_goals
          first
          | (refine zct ?_
             all_goals (refine Zaa ?_;refine zb0 [_,_,_] ?_;refine zsn hS ?_;intro w1 hS;have hS:=hS.ns;refine Zau ?_;refine Q2a vw (Qa (n:=3) (by kernel_rfl) (by kernel_rfl) (hS.blkAt fd) (by rfl) (by rfl)) vw ?_)
             all_goals (first|(rw [Qfq (by omega)];exact ⟨_,rfl,_,_,rfl,hle,Q2P (Rep.SR.nil _ _ _),hS.sp⟩)|(rw [QbL (by omega) hx1 (by omega)];exact ⟨_,rfl,_,_,rfl,hle,Q2P (Rep.SR.nil _ _ _),hS.sp⟩)))
          | (refine zcf ?_
             all_goals refine zsk ?_)
         all_goals (refine Zag ?_;refine zf0 ?_;refine zl hS ?_;refine Yam ?_;intro b2 o2 cs2 x2 hat2 hx2 he2;obtain rfl:=QQ he2;refine Yap ?_;refine zf0 ?_;refine zst hS ?_;intro w1 hS;have hS:=hS.ns)
         all_goals refine zn ?_)
      | (refine zcf ?_
         all_goals refine zsk ?_)
     all_goals ((first|(exact ⟨_,zh,zh,ren_to (by omega) (by omega) (by omega) hx2 (by have h9:=Option.some.inj (hx1.symm.trans hx2);omega),hS.sp⟩)|(exact ⟨_,zh,zh,ren_one (by omega),hS.sp⟩)))
   rintro ρ w1 ⟨r2,hA,hρ,hr,hS⟩;obtain ⟨ρ,rfl⟩:=env2 hA hρ
   all_goals (refine Zbn ?_;refine zf0 ?_;refine zl hS ?_;refine zL ?_;refine ZaB ?_)
   refine zo [1,4,6,45,46] (fun A ρ' w'=>∃(k0:Cx) (j:Nat) (u:Value) (css:List (List Value)) (us:List Ty),Has ρ' A∧Has ρ' [(47, .int .i64 j)]∧(cx.Le k0)∧(j≤l.length)∧(us.length=j)∧(Tys.ren l to=(Tys.ren (l.drop j) to).map (us++·))∧(tyR.ls k0 css us)∧(oneC u=true)∧St k0 w' (sl 115 3 u css::blk p6 115 [.int .i64 k, .int .i64 r2,u]::blk p4 115 [.int .i64 0, .int .i64 0, .slice none 0 0]::blk p2 115 [.int .i64 k, .int .i64 r,v]::L)) (fun ρ' _=> (l.length - iv (ρ' 47)).toNat) ?_ ?_
   · exact ⟨cx,0, .slice none 0 0,[],[],zh,zh,St.refl hS,(by omega),rfl,by simp,Rep.LR.nil _ _ _,rfl,by have hS:=hS.nil (T:=115) (es:=3);exact hS.sp⟩
   rintro ρ w1 ⟨k0,j,u,css,us,hA,hρ,hle2,hj,hus,hd,hls,hu,hS⟩;obtain ⟨ρ,rfl⟩:=env2 hA hρ;have hL0:=hle2;(try have hle:=hle.trans hle2);(try have hl:=hl.up hle2);(try have hto:=hto.up hle2)
   all_goals (refine ZaQ ?_)
   refine Qn rfl (fun hc=> ?_) (fun hc=> ?_)
   · skip
     all_goals (refine Zbk ?_;refine zi ?_;intro b3 o3 cs3 x3 hat3 hx3 he3;obtain ⟨vl3,rfl,hl3⟩:=Qt he3;refine ZaP ?_;intro p8 w1 hS;refine zsn hS ?_;intro w1 hS;have hS:=hS.ns;refine ZaE ?_;refine zv hS ?_;refine zm ?_)
     all_goals (refine zR2 (c:=ih _ (List.mem_of_getElem? hx3) (hsub _ (List.mem_of_getElem? hx3)) he3 hto hS) (h:=?_);rintro v1 w1 ⟨c1,ds,rfl,hle2,hd1,hS⟩;obtain ⟨y,hy⟩:∃y,(x3.ren to).getD (.mk 0 0 [])=y:=⟨_,rfl⟩;rw [hy] at hd1;obtain ⟨v7,rfl,hv7⟩:=Qt hd1;(try have hle:=hle.trans hle2);(try have hL0:=hL0.trans hle2);(try have hl:=hl.up hle2);(try have hl3:=hl3.up hle2);(try have he3:=he3.up hle2);(try have hls:=hls.up hle2);(try have hto:=hto.up hle2);cases hg:x3.ren to)
     all_goals (refine Zbw ?_;intro p9 w1 hS;refine zsn hS ?_;intro w1 hS;have hS:=hS.ns;refine ZaM ?_;refine ZaU ?_)
     all_goals
      first
      | (refine zct ?_
         all_goals (refine Zaa ?_;refine zb0 [_,_,_] ?_;refine zsn hS ?_;intro w1 hS;have hS:=hS.ns;refine Zau ?_;refine Q2a vw (Qa (n:=3) (by kernel_rfl) (by kernel_rfl) (hS.blkAt fd) (by rfl) (by rfl)) vw ?_)
         all_goals (first|(rw [Qfq (by omega)];exact ⟨_,rfl,_,_,rfl,hle,Q2P (Rep.SR.nil _ _ _),hS.sp⟩)|(rw [QbL (by omega) hx1 (by omega)];exact ⟨_,rfl,_,_,rfl,hle,Q2P (Rep.SR.nil _ _ _),hS.sp⟩)|(rw [hr,Qay hd hx3 hg];exact ⟨_,rfl,_,_,rfl,hle,Q2P (Rep.SR.nil _ _ _),hS.sp⟩)))
      | (refine zcf ?_
         all_goals refine zsk ?_)
     all_goals (refine Q1d ?_;refine zf0 ?_;refine zl hS ?_;refine zv hS ?_;refine zB1 hS [_,_,_] ?_;intro b1 w1 hS;refine za Q5Q Qak hS ?_;intro vp1 w1 css1 hls1 hv1 hS;have hS:=hS.ns;refine zf0 ?_;refine zst hS ?_;intro w1 hS;have hS:=hS.ns;refine Zbq ?_;refine zad ?_;refine Zad ?_;exact ⟨⟨_,j+1,_,_,us++[y],zh,zh,hL0,(by omega),by simp [hus],Qfp hd hx3 (by rw [hg,←hy,hg];rfl),by assumption,by assumption,hS.sp⟩,Qr (by omega)⟩)
   · skip
     all_goals (refine zex ?_;refine Zaa ?_;refine zv hS ?_;refine zsn hS ?_;intro w1 hS;have hS:=hS.ns;refine Zau ?_;refine Q2a vw (Qa (n:=3) (by kernel_rfl) (by kernel_rfl) (hS.blkAt fd) (by rfl) (by rfl)) vw ?_;(first|(rw [Qfq (by omega)];exact ⟨_,rfl,_,_,rfl,hle,Q2P (Rep.SR.nil _ _ _),hS.sp⟩)|(rw [QbL (by omega) hx1 (by omega)];exact ⟨_,rfl,_,_,rfl,hle,Q2P (Rep.SR.nil _ _ _),hS.sp⟩)|(rw [hr,Qay hd hx3 hg];exact ⟨_,rfl,_,_,rfl,hle,Q2P (Rep.SR.nil _ _ _),hS.sp⟩)|(rw [hr,rens_all hd (by omega)];obtain ⟨c3,hle3,hS,hl3⟩:=St.freezeL (r:=tyR) (l:=us) (T:=115) (es:=3) (v:=u) (css:=css) (L:=L) hS.sp hls rfl (by omega);exact ⟨_,rfl,c3,_,rfl,hle.trans hle3,Q2P hl3,hS⟩)))
end Go.Proofs.YteflkifmgnpbhaaGreat
namespace Go.Proofs.YteflkifmgnpbhaaGreat
open Go.Lir
set_option maxHeartbeats 1000000
attribute [local irreducible] LC.wp Q0 Qh Qc retQ Qw LO.wp Q3 Calls
set_option linter.unusedSimpArgs false
set_option linter.unusedVariables false
attribute [local irreducible] hasB Q3g Q1P Q1X
section
variable {P:Program}{l:List GO}{Q:QT}{ρ:Env}
variable {cx:Cx}{w:World}{L:List Res}
structure JP where
 sp:Nat
 hp:Nat
 f:Fun
 vm:Value
 vp:Value
 vr:Value
 vb:Value
structure JP.Fits (j:JP) (cx:Cx) (m:Module):Prop where
 m:funcR.sl cx j.vm m.funcs
 p:tyR.sl cx j.vp j.f.params
 r:tyR.sl cx j.vr j.f.results
 b:blockR.sl cx j.vb j.f.blocks
theorem JP.Fits.up {j:JP}{cx cx':Cx}{m:Module}(h:j.Fits cx m) (hle:cx.Le cx'):j.Fits cx' m:=⟨h.m.up hle,h.p.up hle,h.r.up hle,h.b.up hle⟩
@[reducible] def JP.cells (j:JP) (vl:Value):List Value:=[.pointer (some ⟨j.hp,0,none⟩),j.vm, .int .i64 j.f.regs,j.vp,j.vr,j.vb,vl]
def JP.res (j:JP) (h:List Bool) (vl:Value) (css:List (List Value)):Res:=star (blk j.sp 258 (j.cells vl)) (star (Q9P j.hp h) (sl 115 3 vl css))
variable {j:JP}{h:List Bool}{vl:Value}{css:List (List Value)}
theorem JP.opn {i:Nat}(hS:St cx w L) (hi:nth L i=some (j.res h vl css)):St cx w (blk j.sp 258 (j.cells vl)::Q9P j.hp h::sl 115 3 vl css::L.eraseIdx i):=by
 have h1:=(hS.out hi).star
 exact (St.star (h1.mv1)).mv2
theorem JP.cls {i:Nat}{h':List Bool}{vl':Value}{css':List (List Value)}(hi:nth L i=some (j.res h vl css)) (hS:St cx w (blk j.sp 258 (j.cells vl')::Q9P j.hp h'::sl 115 3 vl' css'::L.eraseIdx i)):St cx w (L.set i (j.res h' vl' css')):=by
 have h1:St cx w (star (Q9P j.hp h') (sl 115 3 vl' css')::blk j.sp 258 (j.cells vl')::L.eraseIdx i):=St.star' (hS.mv2.mv2)
 exact St.back (St.star' h1.mv1) hi
theorem JP.cls0 {i:Nat}(hi:nth L i=some (j.res h vl css)) (hS:St cx w (blk j.sp 258 (j.cells vl)::Q9P j.hp h::sl 115 3 vl css::L.eraseIdx i)):St cx w L:=by
 have h1:St cx w (star (Q9P j.hp h) (sl 115 3 vl css)::blk j.sp 258 (j.cells vl)::L.eraseIdx i):=St.star' (hS.mv2.mv2)
 exact St.back0 (St.star' h1.mv1) hi
theorem Q1A {d i o:Nat}{x:Operand}{u:Value}(hS:St cx w L) (hx:ρ.ev x= .pointer (some ⟨j.sp,o,none⟩)) (hi:nth L i=some (j.res h vl css)) (hu:(j.cells vl)[o]?=some u) (h:Q0 P l Q (upd ρ d u) w):Q0 P (⟨none, .load1 d x⟩::l) Q ρ w:=
 QG (JP.opn hS hi) hx nth0 hu h
theorem Q78 {d n i o:Nat}{x:Operand}{us:List Value}(hS:St cx w L) (hx:ρ.ev x= .pointer (some ⟨j.sp,o,none⟩)) (hi:nth L i=some (j.res h vl css)) (hu:((j.cells vl).drop o).take n=us) (hl:us.length=n) (h:Q0 P l Q (upd ρ d (.agg ⟨us⟩)) w):Q0 P (⟨none, .loadn d n x⟩::l) Q ρ w:=
 Q9o (JP.opn hS hi) hx nth0 hu hl h
theorem Q1c {d i o:Nat}{x:Operand}{u:Value}(hS:St cx w L) (hx:ρ.ev x= .pointer (some ⟨j.sp,o,none⟩)) (hi:nth L i=some (j.res h vl css)) (hu:(j.cells vl)[o]?=some u):gqv P ρ w ⟨none, .load1 d x⟩ u:=QK (JP.opn hS hi) hx nth0 hu
theorem Q8U {d i n:Nat}{x:Operand}(hS:St cx w L) (hi:nth L i=some (j.res h vl css)) (hx:ρ.ev x=vl) (hn:css.length=n) (h:Q0 P l Q (upd ρ d (.int .i64 n)) w):Q0 P (⟨none, .len d x⟩::l) Q ρ w:=
 QO (JP.opn hS hi) hx nth2 hn h
end
variable {cx:Cx}{w:World}{L:List Res}{j:JP}{h:List Bool}{vl:Value}{css:List (List Value)}{i:Nat}{m:Module}
theorem jhas_c {r:Int}(hS:St cx w L) (hi:nth L i=some (j.res h vl css)):Rets Tryz.prog Q5K [.pointer (some ⟨j.hp,0,none⟩), .int .i64 r] w fun u w'=> u= .bool (hasB h r)∧St cx w' L:=by
 obtain ⟨v,h2⟩:=Q3F (JP.opn hS hi).mv1
 refine (has_u h2).mono ?_
 rintro u w' ⟨h3,h4⟩
 exact ⟨h3,JP.cls0 hi (Q3f h4).mv1⟩
theorem jlen_c (hS:St cx w L) (hi:nth L i=some (j.res h vl css)):Rets Tryz.prog Q5J [.pointer (some ⟨j.hp,0,none⟩)] w fun u w'=> u= .int .i64 h.length∧St cx w' L:=by
 obtain ⟨v,h2⟩:=Q3F (JP.opn hS hi).mv1
 refine (len_u h2).mono ?_
 rintro u w' ⟨h3,h4⟩
 exact ⟨h3,JP.cls0 hi (Q3f h4).mv1⟩
theorem jlist_c (hl:h.length≤16) (hS:St cx w L) (hi:nth L i=some (j.res h vl css)):Rets Tryz.prog Q5d [.pointer (some ⟨j.hp,0,none⟩)] w fun u w'=>∃c',cx.Le c'∧intR.sl c' u (Q3g h)∧St c' w' L:=by
 obtain ⟨v,h2⟩:=Q3F (JP.opn hS hi).mv1
 refine (list_u hl h2).mono ?_
 rintro u w' ⟨c',h3,h5,h4⟩
 exact ⟨c',h3,h5,JP.cls0 hi (Q3f h4).mv1⟩
theorem jopen_c (hl:h.length < 16) (hS:St cx w L) (hi:nth L i=some (j.res h vl css)):Rets Tryz.prog Q5c [.pointer (some ⟨j.hp,0,none⟩)] w fun u w'=> u= .int .i64 h.length∧St cx w' (L.set i (j.res (h++[true]) vl css)):=by
 obtain ⟨v,h2⟩:=Q3F (JP.opn hS hi).mv1
 refine (open_u hl h2).mono ?_
 rintro u w' ⟨h3,v',h4⟩
 exact ⟨h3,JP.cls hi (Q3f h4).mv1⟩
theorem jshut_c {r:Int}(hr:hasB h r=true) (hS:St cx w L) (hi:nth L i=some (j.res h vl css)):Rets Tryz.prog Q5a [.pointer (some ⟨j.hp,0,none⟩), .int .i64 r] w fun u w'=> u= .bool true∧St cx w' (L.set i (j.res (h.set r.toNat false) vl css)):=by
 obtain ⟨v,h2⟩:=Q3F (JP.opn hS hi).mv1
 refine (shut_u hr h2).mono ?_
 rintro u w' ⟨h3,h4⟩
 exact ⟨h3,JP.cls hi (Q3f h4).mv1⟩
theorem jpass_c {v2:Value}{xs:List Int}(hl:h.length≤16) (hx:intR.sl cx v2 xs) (hS:St cx w L) (hi:nth L i=some (j.res h vl css)):Rets Tryz.prog Q5b [.pointer (some ⟨j.hp,0,none⟩),v2] w fun u w'=> u= .int .i64 (Q1P h [] xs)∧St cx w' L:=by
 obtain ⟨v,h2⟩:=Q3F (JP.opn hS hi).mv1
 refine (pass_u hl hx h2).mono ?_
 rintro u w' ⟨h3,c',h5,h4⟩
 exact ⟨h3,St.weak (JP.cls0 hi (Q3f h4).mv1) h5⟩

@[reducible] def Q5M (c:Int):Value:= .iface 297 (.int .i64 c)
theorem Q2i {c:Int}(hS:St cx w L):Rets Tryz.prog Q6m [.bool false, .int .i64 c] w fun u w'=> u= .tuple #[]∧St cx w' L:=by
 all_goals refine lgo tyD Tryz.func240 ?_
 all_goals (refine Zaf ?_)
 all_goals refine zcf ?_
 all_goals (refine zsk ?_;refine Q19 ?_;exact ⟨_,rfl,rfl,hS.sp⟩)
theorem Q2h {c:Int}(hS:St cx w L):Fins Tryz.prog Q6m [.bool true, .int .i64 c] w (fun _ _=> False) (fun u w'=> u=Q5M c∧St cx w' L):=by
 unfold Fins
 all_goals refine lgo tyD Tryz.func240 ?_
 all_goals (refine Zaf ?_)
 all_goals refine zct ?_
 all_goals (refine Zag ?_;refine zki ?_;refine QeX rfl ?_;(repeat (first|refine Qe ?_|refine Qf ?_));refine Qy ?_;exact .inr ⟨_,rfl,rfl,hS.sp⟩)
theorem Q3d {b:Bool}{c:Int}(hS:St cx w L):Fins Tryz.prog Q6m [.bool b, .int .i64 c] w (fun u w'=> u= .tuple #[]∧b=false∧St cx w' L) (fun u w'=> u=Q5M c∧b=true∧St cx w' L):=by
 cases b with
 | false=> exact ((Q2i hS).mono fun u w' h=> (⟨h.1,rfl,h.2⟩:u= .tuple #[]∧false=false∧St cx w' L)).ends
 | true=> exact (Q2h hS).mono (fun _ _ h=> h.elim) (fun _ _ h=> ⟨h.1,rfl,h.2⟩)
theorem Q4M {s:JS}{k:Int}(hls:tyR.ls cx css s.l) (hS:St cx w L) (hi:nth L i=some (j.res h vl css)):Fins Tryz.prog Q6n [.pointer (some ⟨j.sp,0,none⟩), .int .i64 k] w
 (fun u w'=>∃t cs,jval s k= .ok t∧u= .agg ⟨cs⟩∧tyR.at cx cs t∧St cx w' L) (fun u w'=>∃c,jval s k= .error c∧u=Q5M c∧St cx w' L):=by
 have hlc:=hls.1
 have hS:=JP.opn hS hi
 unfold Fins
 all_goals refine lgo tyD Tryz.func247 ?_
 all_goals (refine Zbv ?_;intro p4 w1 hS;refine ZaH ?_)
 all_goals (first|(refine Q1k ?_)|(refine Q1w ?_)|(refine QA rfl rfl (fun hc=> ?_) (fun hc=> ?_)))
 all_goals (refine Zbp ?_;refine Yah ?_;refine Zap ?_;(first|refine zgn ?_|(refine zgy ?_;refine QO hS vw fd hlc ?_)))
 all_goals (first|refine zgn ?_|(refine zgy ?_;(first|(refine Q2w ?_)|(refine Q3k ?_)|(refine Q1I rfl rfl (fun hc=> ?_) (fun hc=> ?_)))))
 all_goals (refine Yae ?_)
 all_goals (first|(refine zR2 (c:=Q2i hS) (h:=?_);rintro v1 w1 ⟨rfl,hS⟩)|(refine zE2 (c:=Q2h hS) (p:=by rintro v9 w9 ⟨rfl,hS⟩;(repeat (first|refine Qe ?_|refine Qf ?_|refine fun _=> ?_));refine Qy ?_;refine .inr ⟨_,rfl,?_⟩;first|(exact ⟨_,jval_no (by omega),rfl,(JP.cls0 hi hS.sp)⟩)) (h:=fun _ _ h=> h.elim)))
 all_goals (refine ZaF ?_;obtain ⟨t,ht⟩:∃t,s.l[k.toNat]?=some t:=⟨_,List.getElem?_eq_getElem (by omega)⟩;obtain ⟨d,hd,hrd⟩:=hls.2 _ _ ht;obtain ⟨vd,rfl,hld⟩:=Qt hrd;refine Zby ?_;refine zf0 ?_;refine zl hS ?_;refine zm ?_;(first|(refine Yam ?_;intro b1 o1 cs1 x1 hat1 hx1 he1;obtain ⟨vl1,rfl,hl1⟩:=Qt he1)|(refine zie hS ?_;intro b1 o1 hel1)|(refine zij hS ?_;intro b1 o1 hel1));refine Q1p hS hel1 rfl fd rfl hd ?_;refine zsn hS ?_;intro w1 hS;have hS:=hS.ns;refine Zbb ?_;refine Q25 vw (Qa (n:=3) (by kernel_rfl) (by kernel_rfl) (hS.blkAt fd) (by rfl) (by rfl)) ?_;exact .inl ⟨_,rfl,t,_,Q9I (by omega) ht,rfl,hrd,(JP.cls0 hi hS.sp)⟩)
theorem Q44 {s:JS}{k kd:Int}(hls:tyR.ls cx css s.l) (hS:St cx w L) (hi:nth L i=some (j.res h vl css)):Fins Tryz.prog Q73 [.pointer (some ⟨j.sp,0,none⟩), .int .i64 k, .int .i64 kd] w
 (fun u w'=>∃t cs,Q2b s k kd= .ok t∧u= .agg ⟨cs⟩∧tyR.at cx cs t∧St cx w' L) (fun u w'=>∃c,Q2b s k kd= .error c∧u=Q5M c∧St cx w' L):=by
 have hS:=hS.out hi
 unfold Fins Q2b
 all_goals refine lgo tyD Tryz.func239 ?_
 all_goals (refine Zbv ?_;intro p6 w1 hS;refine zn ?_;refine Zas ?_;refine zE2 (c:=Q4M hls hS fd) (p:=by rintro v9 w9 ⟨c,h1,rfl,hS⟩;(repeat (first|refine Qe ?_|refine Qf ?_|refine fun _=> ?_));refine Qy ?_;refine .inr ⟨_,rfl,?_⟩;exact ⟨_,QH h1,rfl,(St.back0 hS.sp hi)⟩) (h:=?_);rintro v1 w1 ⟨t,cs,h1,rfl,hrd,hS⟩;have hrd':=hrd;obtain ⟨vd,rfl,hld⟩:=Qt hrd;refine Ql hS ?_;intro p7 w1 hS;refine zsn hS ?_;intro w1 hS;have hS:=hS.ns;refine ZaE ?_;refine zf0 ?_;refine zl hS ?_;refine zm ?_)
 all_goals (first|(refine Q11 ?_)|(refine Q18 ?_)|(refine Qu rfl rfl (fun hc=> ?_) (fun hc=> ?_)))
 all_goals (first|(refine zR2 (c:=Q2i hS) (h:=?_);rintro v1 w1 ⟨rfl,hS⟩)|(refine zE2 (c:=Q2h hS) (p:=by rintro v9 w9 ⟨rfl,hS⟩;(repeat (first|refine Qe ?_|refine Qf ?_|refine fun _=> ?_));refine Qy ?_;refine .inr ⟨_,rfl,?_⟩;first|(exact ⟨_,(Q8 h1).trans (if_pos (by omega)),rfl,(St.back0 hS.sp hi)⟩)) (h:=fun _ _ h=> h.elim)))
 all_goals (refine ZaE ?_;refine zv hS ?_;refine zsn hS ?_;intro w1 hS;have hS:=hS.ns;refine Zbb ?_;refine Q25 vw (Qa (n:=3) (by kernel_rfl) (by kernel_rfl) (hS.blkAt fd) (by rfl) (by rfl)) ?_;exact .inl ⟨_,rfl,t,_,(Q8 h1).trans (if_neg (by omega)),rfl,hrd',(St.back0 hS.sp hi)⟩)
theorem Q8I {s:JS}{k kd:Int}(hls:tyR.ls cx css s.l) (hS:St cx w L) (hi:nth L i=some (j.res s.h vl css)):Fins Tryz.prog Q8H [.pointer (some ⟨j.sp,0,none⟩), .int .i64 k, .int .i64 kd] w
 (fun u w'=>∃t cs,jat s k kd= .ok t∧u= .agg ⟨cs⟩∧tyR.at cx cs t∧St cx w' L) (fun u w'=>∃c,jat s k kd= .error c∧u=Q5M c∧St cx w' L):=by
 have hS:=hS.out hi
 unfold Fins jat
 all_goals refine lgo tyD Tryz.func243 ?_
 all_goals (refine Zbv ?_;intro p6 w1 hS;refine zn ?_;refine Zas ?_;refine zm ?_;refine zE3 (c:=Q44 hls hS fd) (p:=by rintro v9 w9 ⟨c,h1,rfl,hS⟩;(repeat (first|refine Qe ?_|refine Qf ?_|refine fun _=> ?_));refine Qy ?_;refine .inr ⟨_,rfl,?_⟩;exact ⟨_,QH h1,rfl,(St.back0 hS.sp hi)⟩) (h:=?_);rintro v1 w1 ⟨t,cs,h1,rfl,hrd,hS⟩;have hrd':=hrd;obtain ⟨vd,rfl,hld⟩:=Qt hrd;refine Ql hS ?_;intro p7 w1 hS;refine zsn hS ?_;intro w1 hS;have hS:=hS.ns;refine ZaF ?_;refine zD (ci 9 [6,8]) ?_;have hS:=hS.drew;refine Zbm ?_;refine zf0 ?_;refine Q1A hS rfl fd rfl ?_;refine zf0 ?_;refine Yaf ?_;refine zR2 (c:=jhas_c hS fd) (h:=?_);rintro v1 w1 ⟨rfl,hS⟩;refine znt ?_)
 all_goals (first|(refine zR2 (c:=Q2i hS) (h:=?_);rintro v1 w1 ⟨rfl,hS⟩)|(refine zE2 (c:=Q2h hS) (p:=by rintro v9 w9 ⟨rfl,hS⟩;(repeat (refine Qe ?_));refine Qy ?_;refine .inr ⟨_,rfl,?_⟩;first|(exact ⟨_,(Q8 h1).trans (if_pos (by simpa using hb)),rfl,(St.back0 hS.sp hi)⟩)) (h:=fun _ _ h=> h.elim))|(refine zE2 (c:=Q3d hS) (p:=by rintro v9 w9 ⟨rfl,hb,hS⟩;(repeat (first|refine Qe ?_|refine Qf ?_|refine fun _=> ?_));refine Qy ?_;refine .inr ⟨_,rfl,?_⟩;first|(exact ⟨_,(Q8 h1).trans (if_pos (by simpa using hb)),rfl,(St.back0 hS.sp hi)⟩)) (h:=?_);rintro v1 w1 ⟨rfl,hb,hS⟩))
 all_goals (refine ZaE ?_;refine zv hS ?_;refine zsn hS ?_;intro w1 hS;have hS:=hS.ns;refine Zbb ?_;refine Q25 vw (Qa (n:=3) (by kernel_rfl) (by kernel_rfl) (hS.blkAt fd) (by rfl) (by rfl)) ?_;exact .inl ⟨_,rfl,t,_,(Q8 h1).trans (if_neg (by simpa using hb)),rfl,hrd',(St.back0 hS.sp hi)⟩)
end Go.Proofs.YteflkifmgnpbhaaGreat
namespace Go.Proofs.YteflkifmgnpbhaaGreat
open Go.Lir
set_option maxHeartbeats 1000000
attribute [local irreducible] LC.wp Q0 Qh Qc retQ Qw LO.wp Q3 Calls
set_option linter.unusedSimpArgs false
set_option linter.unusedVariables false
attribute [local irreducible] hasB Q3g Q1P Q1X
variable {cx:Cx}{w:World}{L:List Res}{j:JP}{h:List Bool}{vl:Value}{css:List (List Value)}{i:Nat}{m:Module}
theorem Q5G {s:JS}{t:Ty}{cs:List Value}(hn:s.l.length≤100000) (ht:tyR.at cx cs t) (hls:tyR.ls cx css s.l) (hS:St cx w L) (hi:nth L i=some (j.res h vl css)):Fins Tryz.prog Q7T [.pointer (some ⟨j.sp,0,none⟩), .agg ⟨cs⟩] w
 (fun u w'=> u= .tuple #[]∧s.l.length≠80∧∃vl' css',tyR.ls cx css' (s.l++[t])∧St cx w' (L.set i (j.res h vl' css'))) (fun u w'=> u=Q5M 2∧s.l.length=80∧St cx w' L):=by
 have hlc:=hls.1
 have hS:=JP.opn hS hi
 have ht':=ht
 obtain ⟨vd,rfl,hld⟩:=Qt ht
 have hz:tyR.at cx [.int .i64 0, .int .i64 0, .slice none 0 0] (.mk 0 0 []):=Q2P (Rep.SR.nil _ _ _)
 unfold Fins
 all_goals refine lgo tyD Tryz.func238 ?_
 all_goals (refine Zaq ?_;intro p3 w1 hS;refine ZaH ?_;refine znc ?_;refine zf0 ?_;refine zl hS ?_;refine QO hS vw fd hlc ?_)
 all_goals (first|(refine Qi ?_)|(refine Qm ?_)|(refine Q5 rfl rfl (fun hc=> ?_) (fun hc=> ?_)))
 all_goals (first|(refine zR2 (c:=Q2i hS) (h:=?_);rintro v1 w1 ⟨rfl,hS⟩)|(refine zE2 (c:=Q2h hS) (p:=by rintro v9 w9 ⟨rfl,hS⟩;(repeat (first|refine Qe ?_|refine Qf ?_|refine fun _=> ?_));refine Qy ?_;refine .inr ⟨_,rfl,?_⟩;first|(exact ⟨rfl,by omega,(JP.cls0 hi hS.sp)⟩)) (h:=fun _ _ h=> h.elim)))
 all_goals (refine zn ?_)
 refine Q34 9 12 (by kernel_rfl) ?_ ?_
 · skip
   all_goals (refine zC [(0,none),(1,none),(2,none),(3,none),(4,none),(5,none),(6,some (some [3,4])),(7,some none),(8,none),(10,none),(11,none),(9,some (some [])),(12,some none)] ?_;have hS:=hS.drew;refine Zbu ?_;refine zf0 ?_;refine Zac ?_;refine zl hS ?_;refine Zac ?_;refine zv hS ?_;refine Zac ?_;refine QO hS vw fd hlc ?_;refine Zal ?_;refine zB1 hS [_,_,_] ?_;intro b1 w1 hS;refine ZaZ ?_;refine za Q5Q Qak hS ?_;intro vp1 w1 css1 hls1 hv1 hS;have hS:=hS.ns;refine Zac ?_;have hl1:=hls1.1;rw [List.length_append,List.length_cons,List.length_nil] at hl1;obtain ⟨d1,hd1,_⟩:=hls1.2 s.l.length (.mk 0 0 []) (by simp);(first|(refine Yam ?_;intro b1 o1 cs1 x1 hat1 hx1 he1;obtain ⟨vl1,rfl,hl1⟩:=Qt he1)|(refine zie hS ?_;intro b1 o1 hel1)))
   all_goals (refine Zac ?_;refine Zaw ?_;refine zf0 ?_;refine Zal ?_;refine Q7x hS hel1 rfl rfl rfl fd rfl hd1 rfl (tyR.one ht') ?_;intro w3 hS;have hS:=hS.ns;refine ZaZ ?_;refine zst hS ?_;intro w1 hS;have hS:=hS.ns;refine Zav ?_;refine Q19 ?_;have hls2:=Rep.LR.set (i:=s.l.length) hls1 ht';rw [List.set_append_right _ _ (Nat.le_refl _),Nat.sub_self,List.set_cons_zero] at hls2;exact .inl ⟨_,rfl,rfl,by omega,_,_,hls2,(JP.cls hi hS.sp)⟩)
 · skip
   all_goals (refine zC [(0,none),(1,none),(2,none),(3,none),(4,none),(5,none),(6,some (some [3,4])),(7,some none),(8,none),(10,none),(11,none),(12,some (some [])),(9,some (some []))] ?_;have hS:=hS.drew;refine Zbu ?_;refine zf0 ?_;refine Zac ?_;refine zl hS ?_;refine Zac ?_;refine zv hS ?_;refine Zac ?_;refine QO hS vw fd hlc ?_;refine Zal ?_;refine zB1 hS [_,_,_] ?_;intro b1 w1 hS;refine ZaZ ?_;refine za Q5Q Qak hS ?_;intro vp1 w1 css1 hls1 hv1 hS;have hS:=hS.ns;refine Zac ?_;have hl1:=hls1.1;rw [List.length_append,List.length_cons,List.length_nil] at hl1;obtain ⟨d1,hd1,_⟩:=hls1.2 s.l.length (.mk 0 0 []) (by simp);(first|(refine Yam ?_;intro b1 o1 cs1 x1 hat1 hx1 he1;obtain ⟨vl1,rfl,hl1⟩:=Qt he1)|(refine zie hS ?_;intro b1 o1 hel1)))
   all_goals (refine Zac ?_;refine Zaw ?_;refine zf0 ?_;refine Zal ?_;refine zst hS ?_;intro w1 hS;have hS:=hS.ns;refine Zbe ?_;refine Q7x hS hel1 rfl rfl rfl fd rfl hd1 rfl (tyR.one ht') ?_;intro w3 hS;have hS:=hS.ns;refine Zat ?_;refine zcn ?_;refine Q19 ?_;have hls2:=Rep.LR.set (i:=s.l.length) hls1 ht';rw [List.set_append_right _ _ (Nat.le_refl _),Nat.sub_self,List.set_cons_zero] at hls2;exact .inl ⟨_,rfl,rfl,by omega,_,_,hls2,(JP.cls hi hS.sp)⟩)
theorem Q7e {t:Ty}{k:Int}{cs:List Value}(hk:0≤k) (ht:tyR.at cx cs t) (hS:St cx w L):Fins Tryz.prog Q6p [.pointer (some ⟨j.sp,0,none⟩), .agg ⟨cs⟩, .int .i64 k] w
 (fun u w'=>∃t' cs',Q3E t k= .ok t'∧u= .agg ⟨cs'⟩∧tyR.at cx cs' t'∧St cx w' L) (fun u w'=>∃c,Q3E t k= .error c∧u=Q5M c∧St cx w' L):=by
 obtain ⟨vd,rfl,hld⟩:=Qt ht
 unfold Fins Q3E
 all_goals refine lgo tyD Tryz.func246 ?_
 all_goals (refine Zaq ?_;intro p4 w1 hS;refine Ql hS ?_;intro p6 w1 hS;refine ZaH ?_;refine zf0 ?_;refine zl hS ?_;refine zL ?_)
 all_goals (first|(refine Q2w ?_)|(refine Q3k ?_)|(refine Q1I rfl rfl (fun hc=> ?_) (fun hc=> ?_)))
 all_goals (first|(refine zR2 (c:=Q2i hS) (h:=?_);rintro v1 w1 ⟨rfl,hS⟩)|(refine zE2 (c:=Q2h hS) (p:=by rintro v9 w9 ⟨rfl,hS⟩;(repeat (first|refine Qe ?_|refine Qf ?_|refine fun _=> ?_));refine Qy ?_;refine .inr ⟨_,rfl,?_⟩;first|(exact ⟨_,by rw [List.getElem?_eq_none (by omega)],rfl,hS.sp⟩)) (h:=fun _ _ h=> h.elim)))
 all_goals (refine ZaE ?_;refine zf0 ?_;refine zl hS ?_;refine zm ?_;refine s_idxL vw rfl hld rfl hk (by omega) ?_;intro b1 o1 cs1 x1 hat1 hx1 he1;have he1':=he1;obtain ⟨vl1,rfl,hl1⟩:=Qt he1;refine Yai ?_;refine zsn hS ?_;intro w1 hS;have hS:=hS.ns;refine Zbb ?_;refine Q25 vw (Qa (n:=3) (by kernel_rfl) (by kernel_rfl) (hS.blkAt fd) (by rfl) (by rfl)) ?_;exact .inl ⟨_,rfl,x1,_,by rw [hx1],rfl,he1',hS.sp⟩)
theorem Qc5 {s:JS}{l regs:List Int}{want:List Ty}{v1 v2 v3:Value}(hsh:∀t∈want,t.Short) (hls:tyR.ls cx css s.l) (h1:intR.sl cx v1 l) (h2:tyR.sl cx v2 want) (h3:intR.sl cx v3 regs) (hS:St cx w L) (hi:nth L i=some (j.res h vl css)):
 Fins Tryz.prog Q75 [.pointer (some ⟨j.sp,0,none⟩),v1,v2,v3] w
 (fun u w'=> Q50 s l want regs= .ok ()∧u= .tuple #[]∧St cx w' L) (fun u w'=>∃c,Q50 s l want regs= .error c∧u=Q5M c∧St cx w' L):=by
 have hl1:=h1.len
 have hl2:=h2.len
 have hS:=hS.out hi
 have hle:=St.refl hS
 unfold Fins Q50
 all_goals refine lgo tyD Tryz.func250 ?_
 all_goals (refine Zab ?_;refine zL ?_;refine zm ?_;refine zL ?_)
 all_goals (first|(refine Q11 ?_)|(refine Q18 ?_)|(refine Qu rfl rfl (fun hc=> ?_) (fun hc=> ?_)))
 all_goals (first|(refine zR2 (c:=Q2i hS) (h:=?_);rintro v1 w1 ⟨rfl,hS⟩)|(refine zE2 (c:=Q2h hS) (p:=by rintro v9 w9 ⟨rfl,hS⟩;(repeat (first|refine Qe ?_|refine Qf ?_|refine fun _=> ?_));refine Qy ?_;refine .inr ⟨_,rfl,?_⟩;first|(exact ⟨_,if_pos (by omega),rfl,(St.back0 hS.sp hi)⟩)|(exact ⟨_,by rw [if_neg (by omega),hd];exact Qc3 hx1 hx2 g1 hn,rfl,St.weak (St.back0 hS.sp hi) hL0⟩)|(exact ⟨_,by rw [if_neg (by omega),hd];exact Qc4 hx1 hx2 g1 hn (by simpa using hb),rfl,St.weak (St.back0 hS.sp hi) hL0⟩)) (h:=fun _ _ h=> h.elim)))
 all_goals (refine ZaH ?_;refine zL ?_;refine ZaB ?_)
 refine zoL hS [0,2,3,19,20] (fun A LL ρ' w'=>∃(k0:Cx) (q:Nat),Has ρ' A∧Has ρ' [(21, .int .i64 q)]∧(cx.Le k0)∧(q≤l.length)∧(Q26 s regs l want=Q26 s regs (l.drop q) (want.drop q))∧(want.length=l.length)∧St k0 w' (LL)) (fun ρ' _=> (l.length - iv (ρ' 21)).toNat) ?_ ?_
 · exact ⟨cx,0,zh,zh,St.refl hS,(by omega),by rfl,by omega,hS.sp⟩
 rintro ρ w1 ⟨k0,q,hA,hρ,hle2,hq,hd,hw,hS⟩;obtain ⟨ρ,rfl⟩:=env2 hA hρ;have hL0:=hle2;(try have hle:=hle.trans hle2);(try have hls:=hls.up hle2);(try have h1:=h1.up hle2);(try have h2:=h2.up hle2);(try have h3:=h3.up hle2)
 all_goals (refine ZaQ ?_)
 refine Qn rfl (fun hc=> ?_) (fun hc=> ?_)
 · skip
   all_goals (refine ZbC ?_;(first|(refine Q68 vw rfl h2 rfl (by omega) ?_);intro b2 o2 cs2 x2 hat2 hx2 he2;have he2':=he2;obtain ⟨vl2,rfl,hl2⟩:=Qt he2|(refine zi ?_;intro b1 o1 cs1 x1 hat1 hx1 he1;obtain rfl:=QQ he1));refine Yap ?_;refine zm ?_;refine Zad ?_;refine Zas ?_;refine zE2 (c:=Q4M hls hS fd) (p:=by rintro v9 w9 ⟨c,g1,rfl,hS⟩;(repeat (first|refine Qe ?_|refine Qf ?_|refine fun _=> ?_));refine Qy ?_;refine .inr ⟨_,rfl,?_⟩;exact ⟨_,by rw [if_neg (by omega),hd];exact jargs_e hx1 (List.getElem?_eq_getElem (by omega)) g1,rfl,St.weak (St.back0 hS.sp hi) hL0⟩) (h:=?_);rintro v1 w1 ⟨t,cs,g1,rfl,hrd,hS⟩;have hrd':=hrd;obtain ⟨vd,rfl,hld⟩:=Qt hrd;refine Ql hS ?_;intro p10 w1 hS;refine zsn hS ?_;intro w1 hS;have hS:=hS.ns;refine zn ?_;refine Zas ?_;refine Q68 vw rfl h2 rfl (by omega) ?_;intro b2 o2 cs2 x2 hat2 hx2 he2;have he2':=he2;obtain ⟨vl2,rfl,hl2⟩:=Qt he2)
   all_goals (refine Yai ?_;refine zm ?_)
   all_goals (refine zR2 (c:=pren_c x2 (hsh x2 (List.mem_of_getElem? hx2)) he2' h3 hS) (h:=?_);rintro v1 w1 ⟨c3,ds,rfl,hle2,hu3,hS⟩;(try have hle:=hle.trans hle2);(try have hL0:=hL0.trans hle2);(try have hl2:=hl2.up hle2);(try have he2:=he2.up hle2);(try have hls:=hls.up hle2);(try have h1:=h1.up hle2);(try have h2:=h2.up hle2);(try have h3:=h3.up hle2);have hrd':=Rep.R.up hrd' hle2;cases hn:x2.ren regs <;> rw [hn] at hu3 <;> simp only [Option.getD_none,Option.getD_some] at hu3 <;> (have hu3':=hu3) <;> obtain ⟨vu,rfl,hlu⟩:=Qt hu3)
   all_goals (refine Zbw ?_;intro p11 w1 hS;refine zsn hS ?_;intro w1 hS;have hS:=hS.ns;refine Zad ?_;refine Zag ?_;refine znt ?_;refine zm ?_;(first|refine zgn ?_|(refine zgy ?_;refine zv hS ?_));(first|refine zgn ?_|(refine zgy ?_;refine zv hS ?_));(first|(refine zgn ?_)|(refine zgy ?_;refine zR2 (c:=Q7M _ _ hrd' hu3' hS) (h:=?_);rintro v1 w1 ⟨rfl,hS⟩));refine Yak ?_;refine Yae ?_)
   all_goals (first|(refine zR2 (c:=Q2i hS) (h:=?_);rintro v1 w1 ⟨rfl,hS⟩)|(refine zE2 (c:=Q2h hS) (p:=by rintro v9 w9 ⟨rfl,hS⟩;(repeat (first|refine Qe ?_|refine Qf ?_|refine fun _=> ?_));refine Qy ?_;refine .inr ⟨_,rfl,?_⟩;first|(exact ⟨_,if_pos (by omega),rfl,(St.back0 hS.sp hi)⟩)|(exact ⟨_,by rw [if_neg (by omega),hd];exact Qc3 hx1 hx2 g1 hn,rfl,St.weak (St.back0 hS.sp hi) hL0⟩)|(exact ⟨_,by rw [if_neg (by omega),hd];exact Qc4 hx1 hx2 g1 hn (by simpa using hb),rfl,St.weak (St.back0 hS.sp hi) hL0⟩)) (h:=fun _ _ h=> h.elim))|(refine zE2 (c:=Q3d hS) (p:=by rintro v9 w9 ⟨rfl,hb,hS⟩;(repeat (first|refine Qe ?_|refine Qf ?_|refine fun _=> ?_));refine Qy ?_;refine .inr ⟨_,rfl,?_⟩;first|(exact ⟨_,if_pos (by omega),rfl,(St.back0 hS.sp hi)⟩)|(exact ⟨_,by rw [if_neg (by omega),hd];exact Qc3 hx1 hx2 g1 hn,rfl,St.weak (St.back0 hS.sp hi) hL0⟩)|(exact ⟨_,by rw [if_neg (by omega),hd];exact Qc4 hx1 hx2 g1 hn (by simpa using hb),rfl,St.weak (St.back0 hS.sp hi) hL0⟩)) (h:=?_);rintro v1 w1 ⟨rfl,hb,hS⟩))
   all_goals (refine Zbq ?_;refine zad ?_;refine Zad ?_;exact ⟨⟨_,q+1,zh,zh,hL0,(by omega),by rw [hd,jargs_s hx1 hx2 g1 hn (by simpa using hb)],hw,hS.sp⟩,Qr (by omega)⟩)
 · skip
   all_goals (refine zex ?_;refine Q19 ?_;exact .inl ⟨_,rfl,(by rw [if_neg (by omega),hd,jargs_z (by omega)]),rfl,St.weak (St.back0 hS.sp hi) hL0⟩)
theorem iindex_c {s:List Int}{c:Int}{v:Value}(hK:intR.sl cx v s) (hS:St cx w L):Rets Tryz.prog Q4X [v, .int .i64 c] w fun u w'=>∃r:Int,u= .int .i64 r∧(0≤r↔c∈s)∧St cx w' L:=by
 have hlen:=hK.len
 all_goals refine lgo tyD Tryz.func89 ?_
 all_goals (refine Zba ?_;refine zL ?_;refine ZaB ?_)
 refine zoL hS [0,1,7] (fun A LL ρ' w'=>∃(j:Nat),Has ρ' A∧Has ρ' [(8, .int .i64 j)]∧(j≤s.length)∧(c∈s↔c∈s.drop j)∧St cx w' (LL)) (fun ρ' _=> (s.length - iv (ρ' 8)).toNat) ?_ ?_
 · exact ⟨0,zh,zh,(by omega),by simp,hS.sp⟩
 rintro ρ w1 ⟨j,hA,hρ,hj,hd,hS⟩;obtain ⟨ρ,rfl⟩:=env2 hA hρ
 all_goals (refine ZaQ ?_)
 refine Qn rfl (fun hc=> ?_) (fun hc=> ?_)
 · skip
   all_goals (refine ZbC ?_;refine Zad ?_;refine Zas ?_;refine zm ?_;refine zi ?_;intro b1 o1 cs1 x1 hat1 hx1 he1;obtain rfl:=QQ he1;refine Yap ?_)
   all_goals (first|(refine Qi ?_)|(refine Qm ?_)|(refine Q5 rfl rfl (fun hc=> ?_) (fun hc=> ?_)))
   all_goals (refine zn ?_)
   all_goals
    first
    | (refine zct ?_
       all_goals (refine Zbl ?_)
       all_goals (exact ⟨_,rfl,j,rfl,⟨fun _=> by rw [hd,Q7 hx1,List.mem_cons];exact .inl (by omega),fun _=> by omega⟩,hS.sp⟩))
    | (refine zcf ?_
       all_goals refine zsk ?_)
   all_goals (refine Q1d ?_;refine zad ?_;refine Zad ?_)
   all_goals (exact ⟨⟨j+1,zh,zh,(by omega),by rw [hd,Q7 hx1,List.mem_cons];exact ⟨fun h=> h.resolve_left (by omega), .inr⟩,hS.sp⟩,Qr (by omega)⟩)
 · skip
   all_goals (refine ZbK ?_)
   all_goals (first|(exact ⟨_,rfl,j,rfl,⟨fun _=> by rw [hd,Q7 hx1,List.mem_cons];exact .inl (by omega),fun _=> by omega⟩,hS.sp⟩)|(exact ⟨_,rfl, -1,rfl,⟨fun h=> by omega,fun h=> by rw [hd,List.drop_of_length_le (by omega)] at h;cases h⟩,hS.sp⟩))
theorem Qc8 {s:List Int}{c:Int}{v:Value}(hK:intR.sl cx v s) (hS:St cx w L):Rets Tryz.prog Q3R [v, .int .i64 c] w fun u w'=> u= .bool (decide (c∈s))∧St cx w' L:=by
 all_goals refine lgo tyD Tryz.func262 ?_
 all_goals (refine Zaf ?_;refine Zas ?_;refine zR2 (c:=iindex_c hK hS) (h:=?_);rintro v1 w1 ⟨r,rfl,hr,hS⟩)
 all_goals (first|(refine Q2w ?_)|(refine Q3k ?_)|(refine Q1I rfl rfl (fun hc=> ?_) (fun hc=> ?_)))
 all_goals (refine Zai ?_)
 all_goals (refine ⟨_,rfl,?_,hS.sp⟩;(first|rw [decide_eq_true (hr.1 (by omega))]|rw [decide_eq_false (fun h=> by have:=hr.2 h;omega)]);done)
def JOk (cx:Cx) (L:List Res) (j:JP) (i:Nat) (r:Except Int JS) (u:Value) (w':World):Prop:=u= .tuple #[]∧∃c' s' vl' css',cx.Le c'∧r= .ok s'∧tyR.ls c' css' s'.l∧St c' w' (L.set i (j.res s'.h vl' css'))
def JNo {α:Type}(cx:Cx) (L:List Res) (r:Except Int α) (u:Value) (w':World):Prop:=∃e,r= .error e∧u=Q5M e∧St cx w' L
theorem jregs_b {h:List Bool}{p l:List Int}{q:Nat}{x:Int}(hx:l[q]?=some x) (hd:Q2r h [] l=Q2r h (l.take q) (l.drop q)) (hb:hasB h x=false):Q2r h [] l= .error 10:=by
 rw [hd,Q7 hx,Q2r,if_pos hb]
theorem Qc2 {h:List Bool}{l:List Int}{q:Nat}{x:Int}(hx:l[q]?=some x) (hd:Q2r h [] l=Q2r h (l.take q) (l.drop q)) (hb:hasB h x=true) (ht:x∈l.take q):Q2r h [] l= .error 13:=by
 rw [hd,Q7 hx,Q2r,if_neg (by rw [hb];decide),if_pos ht]
theorem jregs_s {h:List Bool}{l:List Int}{q:Nat}{x:Int}(hx:l[q]?=some x) (hd:Q2r h [] l=Q2r h (l.take q) (l.drop q)) (hb:hasB h x=true) (ht:x∉l.take q):Q2r h [] l=Q2r h (l.take (q+1)) (l.drop (q+1)):=by
 rw [hd,Q7 hx,Q2r,if_neg (by rw [hb];decide),if_neg ht,Q2E hx]
theorem QfS {h:List Bool}{l:List Int}{q:Nat}(hd:Q2r h [] l=Q2r h (l.take q) (l.drop q)) (hq:l.length≤q):Q2r h [] l= .ok ():=by
 rw [hd,List.drop_of_length_le hq,Q2r]
theorem jcall_c {s:JS}{x:Ins}{cs:List Value}(hm:m.Short) (hk:0≤x.k∧x.k < m.funcs.length) (hn:s.l.length≤80) (hj:j.Fits cx m) (hx:insR.at cx cs x) (hls:tyR.ls cx css s.l) (hS:St cx w L) (hi:nth L i=some (j.res s.h vl css)):
 Fins Tryz.prog Q74 [.pointer (some ⟨j.sp,0,none⟩), .agg ⟨cs⟩] w (JOk cx L j i (Q5q m s x)) (JNo cx L (Q5q m s x)):=by
 have hS:=hS.out hi
 have hle:=St.refl hS
 obtain ⟨vr,va,rfl,hr,ha⟩:=Q1a hx
 have hlr:=hr.len
 have hla:=ha.len
 have hm1:=hj.m
 unfold Fins
 all_goals refine lgo tyD Tryz.func248 ?_
 all_goals (refine Zaq ?_;intro p3 w1 hS;refine ZaF ?_;refine zC [(0,none),(1,none),(2,none),(3,none),(4,none),(5,none),(6,none),(7,none),(8,none),(9,some (some [4,6,8])),(10,some none)] ?_;have hS:=hS.drew;refine Zbu ?_;refine zf0 ?_;refine Zbj ?_;refine Q1A hS rfl fd rfl ?_;refine Zac ?_;refine zf0 ?_;refine Zbz ?_;refine Zac ?_;refine Yam ?_;intro b1 o1 cs1 x1 hat1 hx1 he1;obtain ⟨vp1,vr1,vb1,rfl,hp1,hr1,hb1⟩:=QM he1;refine Zac ?_;refine Yai ?_;refine ZaY ?_;intro p4 w1 hS;refine zt ?_;refine ⟨List.forall_mem_cons.2 ⟨(by (exact Q1c hS rfl fd rfl)),List.forall_mem_cons.2 ⟨(by first|(exact Q1c hS rfl fd rfl)|(exact QK hS rfl fd rfl)),List.forall_mem_cons.2 ⟨(by first|(exact Q1c hS rfl fd rfl)|(exact Q1Y hS rfl fd rfl rfl)|(exact Q2B hS (by assumption) rfl rfl rfl)),fun _ h=> (List.not_mem_nil h).elim⟩⟩⟩,?_⟩)
 all_goals (refine s_cf ?_;refine zsn hS ?_;intro w1 hS;have hS:=hS.ns;refine Zav ?_;have ej:Q5q m s x=(if (x.regs.length:Int)≠x1.regs then .error 2 else QC (Q2r s.h [] x.regs) fun _=> QC (Q50 s x.args x1.params x.regs) fun _=> if 80 < s.l.length+x1.results.length then .error 2 else .ok ⟨s.h,s.l++x1.results.map (renT x.regs)⟩):=by {unfold Q5q;rw [hx1]};have hsf:=hm.2 x1 (List.mem_of_getElem? hx1);have hrl:=hr1.len;refine Zaa ?_;refine zf0 ?_;refine Yaf ?_;(first|(refine Q8U hS fd vw hls.1 ?_)|(refine zL ?_));refine zf0 ?_;refine Yaf ?_)
 all_goals (first|(refine Q11 ?_)|(refine Q18 ?_)|(refine Qu rfl rfl (fun hc=> ?_) (fun hc=> ?_)))
 all_goals (first|(refine zR2 (c:=Q2i hS) (h:=?_);rintro v1 w1 ⟨rfl,hS⟩)|(refine zE2 (c:=Q2h hS) (p:=by rintro v9 w9 ⟨rfl,hS⟩;(repeat (first|refine Qe ?_|refine Qf ?_|refine fun _=> ?_));refine Qy ?_;refine .inr ⟨_,rfl,?_⟩;first|(exact ⟨_,ej.trans (if_pos (by omega)),rfl,(St.back0 hS.sp hi)⟩)|(exact ⟨_,by rw [ej,if_neg hne,QH (Qc2 hx2 hd (by simpa using hb1) (of_decide_eq_true hb))],rfl,(St.back0 hS.sp hi)⟩)) (h:=fun _ _ h=> h.elim)))
 all_goals (refine ZbH ?_;refine zf0 ?_;refine Yaf ?_;(first|(refine Q8U hS fd vw hls.1 ?_)|(refine zL ?_));refine ZaB ?_)
 refine zoL hS [0,3,4,28,29] (fun A LL ρ' w'=>∃(q:Nat),Has ρ' A∧Has ρ' [(30, .int .i64 q)]∧(q≤x.regs.length)∧(Q2r s.h [] x.regs=Q2r s.h (x.regs.take q) (x.regs.drop q))∧(¬(x.regs.length:Int)≠x1.regs)∧St cx w' (LL)) (fun ρ' _=> (x.regs.length - iv (ρ' 30)).toNat) ?_ ?_
 · exact ⟨0,zh,zh,(by omega),by rfl,by omega,hS.sp⟩
 rintro ρ w1 ⟨q,hA,hρ,hq,hd,hne,hS⟩;obtain ⟨ρ,rfl⟩:=env2 hA hρ
 all_goals (refine ZaQ ?_)
 refine Qn rfl (fun hc=> ?_) (fun hc=> ?_)
 · skip
   all_goals (refine ZbC ?_;refine zi ?_;intro b2 o2 cs2 x2 hat2 hx2 he2;obtain rfl:=QQ he2;(first|(refine Q1A hS rfl fd rfl ?_)|(refine zl hS ?_)|(refine zlk hS ?_));refine zm ?_;refine ZaT ?_;refine znc ?_;refine zf0 ?_;refine Q1A hS rfl fd rfl ?_;refine zm ?_;refine zR2 (c:=jhas_c hS fd) (h:=?_);rintro v1 w1 ⟨rfl,hS⟩;refine znt ?_;refine zE2 (c:=Q3d hS) (p:=by rintro v9 w9 ⟨rfl,hb,hS⟩;(repeat (first|refine Qe ?_|refine Qf ?_|refine fun _=> ?_));refine Qy ?_;refine .inr ⟨_,rfl,?_⟩;exact ⟨_,by rw [ej,if_neg hne,QH (jregs_b (p:=[]) hx2 hd (by simpa using hb))],rfl,(St.back0 hS.sp hi)⟩) (h:=?_);rintro v1 w1 ⟨rfl,hb1,hS⟩;refine Zbq ?_;refine zf0 ?_;refine Yaf ?_;refine zm ?_)
   all_goals (refine QeQ vw hr rfl rfl ⟨_,rfl⟩ rfl (by omega) (by omega) ?_;intro v4 hs4;rw [List.drop_zero] at hs4;refine zm ?_;refine zR2 (c:=Qc8 (by assumption) hS) (h:=?_);rintro v1 w1 ⟨rfl,hS⟩)
   all_goals (first|(refine zR2 (c:=Q2i hS) (h:=?_);rintro v1 w1 ⟨rfl,hS⟩)|(refine zE2 (c:=Q2h hS) (p:=by rintro v9 w9 ⟨rfl,hS⟩;(repeat (refine Qe ?_));refine Qy ?_;refine .inr ⟨_,rfl,?_⟩;first|(exact ⟨_,ej.trans (if_pos (by omega)),rfl,(St.back0 hS.sp hi)⟩)|(exact ⟨_,by rw [ej,if_neg hne,QH (Qc2 hx2 hd (by simpa using hb1) (of_decide_eq_true hb))],rfl,(St.back0 hS.sp hi)⟩)) (h:=fun _ _ h=> h.elim))|(refine zE2 (c:=Q3d hS) (p:=by rintro v9 w9 ⟨rfl,hb,hS⟩;(repeat (first|refine Qe ?_|refine Qf ?_|refine fun _=> ?_));refine Qy ?_;refine .inr ⟨_,rfl,?_⟩;first|(exact ⟨_,ej.trans (if_pos (by omega)),rfl,(St.back0 hS.sp hi)⟩)|(exact ⟨_,by rw [ej,if_neg hne,QH (Qc2 hx2 hd (by simpa using hb1) (of_decide_eq_true hb))],rfl,(St.back0 hS.sp hi)⟩)) (h:=?_);rintro v1 w1 ⟨rfl,hb,hS⟩))
   all_goals (refine Zbq ?_;refine zad ?_;refine Zad ?_;exact ⟨⟨q+1,zh,zh,(by omega),by exact jregs_s hx2 hd (by simpa using hb1) (of_decide_eq_false hb),hne,hS.sp⟩,Qr (by omega)⟩)
 · skip
   all_goals (refine zex ?_;refine Zab ?_;refine zf0 ?_;refine Yaf ?_;refine zf0 ?_;refine Yaf ?_;refine zf0 ?_;refine Yaf ?_;refine zE4 (c:=Qc5 (s:=s) hsf.1.2 hls ha hp1 hr hS fd) (p:=by rintro v9 w9 ⟨c,g1,rfl,hS⟩;(repeat (first|refine Qe ?_|refine Qf ?_|refine fun _=> ?_));refine Qy ?_;refine .inr ⟨_,rfl,?_⟩;exact ⟨_,by rw [ej,if_neg hne,Q8 (QfS hd (by omega)),QH g1],rfl,(St.back0 hS.sp hi)⟩) (h:=?_);rintro v1 w1 ⟨har,rfl,hS⟩;have hrg:=QfS hd (by omega);refine ZaF ?_;refine zD (ci 11 [10]) ?_;have hS:=hS.drew;refine Zbm ?_;refine zf0 ?_;refine Q1A hS rfl fd rfl ?_)
   all_goals (refine Q8U hS fd vw hls.1 ?_;refine zf0 ?_;refine Yaf ?_;(first|(refine Q8U hS fd vw hls.1 ?_)|(refine zL ?_));refine zad ?_;refine Q7B rfl rfl ?_;refine zE2 (c:=Q3d hS) (p:=by rintro v9 w9 ⟨rfl,hb,hS⟩;(repeat (first|refine Qe ?_|refine Qf ?_|refine fun _=> ?_));refine Qy ?_;refine .inr ⟨_,rfl,?_⟩;exact ⟨_,by rw [ej,if_neg hne,Q8 hrg,Q8 har,if_pos (by have:=of_decide_eq_true hb;omega)],rfl,(St.back0 hS.sp hi)⟩) (h:=?_);rintro v1 w1 ⟨rfl,hb,hS⟩;have h80:¬80 < s.l.length+x1.results.length:=(by have:=of_decide_eq_false hb;omega);refine ZaE ?_;refine zf0 ?_;refine Yaf ?_;(first|(refine Q8U hS fd vw hls.1 ?_)|(refine zL ?_));refine ZaB ?_)
   refine zo [0,3,71,72] (fun A ρ' w'=>∃(k1:Cx) (q:Nat) (vl2:Value) (cs2:List (List Value)),Has ρ' A∧Has ρ' [(73, .int .i64 q)]∧(cx.Le k1)∧(q≤x1.results.length)∧(tyR.ls k1 cs2 (s.l++(x1.results.take q).map (renT x.regs)))∧St k1 w' (blk p4 95 [.int .i64 x1.regs,vp1,vr1,vb1]::blk p3 84 [.int .i64 x.op, .int .i64 x.a, .int .i64 x.b, .int .i64 x.c, .int .i64 x.k, .int .i64 x.n,vr,va]::j.res s.h vl2 cs2::L.eraseIdx i)) (fun ρ' _=> (x1.results.length - iv (ρ' 73)).toNat) ?_ ?_
   · exact ⟨cx,0,vl,css,zh,zh,St.refl hS,(by omega),by simpa using hls,hS.sp⟩
   rintro ρ w1 ⟨k1,q,vl2,cs2,hA,hρ,hle2,hq,hls,hS⟩;obtain ⟨ρ,rfl⟩:=env2 hA hρ;have hL1:=hle2;(try have hle:=hle.trans hle2);(try have hp1:=hp1.up hle2);(try have hr1:=hr1.up hle2);(try have hb1:=hb1.up hle2);(try have he1:=he1.up hle2);(try have hr:=hr.up hle2);(try have ha:=ha.up hle2);(try have hm1:=hm1.up hle2)
   all_goals (refine ZaQ ?_)
   refine Qn rfl (fun hc=> ?_) (fun hc=> ?_)
   · skip
     all_goals (refine Zbk ?_;refine zi ?_;intro b3 o3 cs3 x3 hat3 hx3 he3;obtain ⟨vl3,rfl,hl3⟩:=Qt he3;refine ZaP ?_;intro p8 w1 hS;refine zsn hS ?_;intro w1 hS;have hS:=hS.ns;refine ZaE ?_;refine zv hS ?_;refine zf0 ?_;refine Yaf ?_)
     all_goals (refine zR2 (c:=pren_c x3 (hsf.2.1.2 x3 (List.mem_of_getElem? hx3)) he3 hr hS) (h:=?_);rintro v1 w1 ⟨c3,ds,rfl,hle2,hu3,hS⟩;(try have hle:=hle.trans hle2);(try have hL1:=hL1.trans hle2);(try have hp1:=hp1.up hle2);(try have hr1:=hr1.up hle2);(try have hb1:=hb1.up hle2);(try have hl3:=hl3.up hle2);(try have he1:=he1.up hle2);(try have he3:=he3.up hle2);(try have hls:=hls.up hle2);(try have hr:=hr.up hle2);(try have ha:=ha.up hle2);(try have hm1:=hm1.up hle2);have hu3':=hu3;obtain ⟨vu,rfl,hlu⟩:=Qt hu3)
     all_goals (refine Zbw ?_;intro p9 w1 hS;refine zsn hS ?_;intro w1 hS;have hS:=hS.ns;refine Zad ?_;refine Zag ?_;refine zv hS ?_;refine zE2 (c:=Q5G (s:=⟨s.h,_⟩) (by simp only [List.length_append,List.length_map,List.length_take];omega) hu3' hls hS fd) (p:=by rintro v9 w9 ⟨rfl,h80',hS⟩;(repeat (first|refine Qe ?_|refine Qf ?_|refine fun _=> ?_));refine Qy ?_;refine .inr ⟨_,rfl,?_⟩;(exfalso;simp only [List.length_append,List.length_map,List.length_take] at h80';omega)) (h:=?_);rintro v1 w1 ⟨rfl,hne80,vl4,cs4,hls4,hS⟩;have hS:=hS.ns;refine Zbq ?_;refine zad ?_;refine Zad ?_;exact ⟨⟨_,q+1,vl4,cs4,zh,zh,hL1,(by omega),by rw [Q2E hx3,List.map_append,←List.append_assoc];exact hls4,hS.sp⟩,Qr (by omega)⟩)
   · skip
     all_goals (refine zex ?_;refine Q19 ?_;refine .inl ⟨_,rfl,rfl,k1,⟨s.h,s.l++x1.results.map (renT x.regs)⟩,vl2,cs2,hL1,by rw [ej,if_neg hne,Q8 hrg,Q8 har,if_neg h80],?_,(St.back hS.sp hi)⟩;rw [List.take_of_length_le (by omega)] at hls;exact hls)
end Go.Proofs.YteflkifmgnpbhaaGreat
namespace Go.Proofs.YteflkifmgnpbhaaGreat
open Go.Lir
set_option maxHeartbeats 1000000
attribute [local irreducible] LC.wp Q0 Qh Qc retQ Qw LO.wp Q3 Calls
set_option linter.unusedSimpArgs false
set_option linter.unusedVariables false
attribute [local irreducible] hasB Q3g Q1P Q1X
variable {cx:Cx}{w:World}{L:List Res}{j:JP}{h:List Bool}{vl:Value}{css:List (List Value)}{i:Nat}{m:Module}
theorem jtuple_c {s:JS}{x:Ins}{cs:List Value}(hal:x.args.length≤8) (hn:s.l.length≤80) (hx:insR.at cx cs x) (hls:tyR.ls cx css s.l) (hS:St cx w L) (hi:nth L i=some (j.res s.h vl css)):
 Fins Tryz.prog Q6o [.pointer (some ⟨j.sp,0,none⟩), .agg ⟨cs⟩] w (JOk cx L j i (Q59 s x)) (JNo cx L (Q59 s x)):=by
 have hS:=hS.out hi
 obtain ⟨vr,va,rfl,hr,ha⟩:=Q1a hx
 unfold Fins Q59
 all_goals refine lgo tyD Tryz.func245 ?_
 all_goals (refine Zaq ?_;intro p3 w1 hS;refine ZaH ?_;refine zf0 ?_;refine Yaf ?_;refine zE3 (c:=Q8I hls hS fd) (p:=by rintro v9 w9 ⟨c,h1,rfl,hS⟩;(repeat (first|refine Qe ?_|refine Qf ?_|refine fun _=> ?_));refine Qy ?_;refine .inr ⟨_,rfl,?_⟩;exact ⟨_,QH h1,rfl,(St.back0 hS.sp hi)⟩) (h:=?_);rintro v1 w1 ⟨t,cs1,h1,rfl,hrd,hS⟩;have hrd':=hrd;obtain ⟨vd,rfl,hld⟩:=Qt hrd;refine Qf1 rfl rfl ?_;refine zb2 [_,_,_] ?_;refine Ql hS ?_;intro p4 w1 hS;refine zsn hS ?_;intro w1 hS;have hS:=hS.ns;refine ZbH ?_;refine zf0 ?_;refine Yaf ?_;refine zL ?_;refine ZaB ?_;have hS:=St.nil (T:=115) (es:=3) hS)
 refine zo [0,4,14,15] (fun A ρ' w'=>∃(q:Nat) (vo:Value) (co:List (List Value)) (ts:List Ty),Has ρ' A∧Has ρ' [(16, .int .i64 q)]∧(q≤x.args.length)∧(tyR.ls cx co ts)∧(ts.length=q)∧(oneC vo=true)∧(jfields s x.args=QC (jfields s (x.args.drop q)) fun l=> .ok (ts++l))∧St cx w' (sl 115 3 vo co::blk p4 115 [.int .i64 3, .int .i64 t.r,vo]::blk p3 84 [.int .i64 x.op, .int .i64 x.a, .int .i64 x.b, .int .i64 x.c, .int .i64 x.k, .int .i64 x.n,vr,va]::j.res s.h vl css::L.eraseIdx i)) (fun ρ' _=> (x.args.length - iv (ρ' 16)).toNat) ?_ ?_
 · exact ⟨0,_,[],[],zh,zh,(by omega),Rep.LR.nil _ _ _,rfl,rfl,by rw [List.drop_zero];cases jfields s x.args <;> rfl,hS.sp⟩
 rintro ρ w1 ⟨q,vo,co,ts,hA,hρ,hq,hlo,hlt,hvo,hd,hS⟩;obtain ⟨ρ,rfl⟩:=env2 hA hρ
 all_goals (refine ZaQ ?_)
 refine Qn rfl (fun hc=> ?_) (fun hc=> ?_)
 · skip
   all_goals (refine Zbk ?_;refine zi ?_;intro b1 o1 cs1 x1 hat1 hx1 he1;obtain rfl:=QQ he1;(first|(refine Q1A hS rfl fd rfl ?_)|(refine zl hS ?_)|(refine zlk hS ?_));refine Zad ?_;refine zC [(0,none),(1,none),(2,none),(3,none),(4,some (some [1])),(5,some (some [1])),(6,some none),(7,none),(8,some none)] ?_;have hS:=hS.drew;refine s_cq ?_;refine zf0 ?_;refine Zbz ?_;refine Zax ?_;refine zm ?_;refine Zal ?_;refine zE2 (c:=Q4M hls hS fd) (p:=by rintro v9 w9 ⟨c,h2,rfl,hS⟩;(repeat (first|refine Qe ?_|refine Qf ?_|refine fun _=> ?_));refine Qy ?_;refine .inr ⟨_,rfl,?_⟩;exact ⟨_,by rw [Q8 h1,QH (QfX hx1 hd h2)],rfl,(St.back0 hS.sp hi)⟩) (h:=?_);rintro v1 w1 ⟨t2,cs2,h2,rfl,hrd2,hS⟩;have hrd2':=hrd2;obtain ⟨vd2,rfl,hld2⟩:=Qt hrd2;refine zt ?_;refine ⟨List.forall_mem_cons.2 ⟨(by first|(exact Q1c hS rfl fd rfl)|(exact QK hS rfl fd rfl)),fun _ h=> (List.not_mem_nil h).elim⟩,?_⟩)
   all_goals (refine Q3U ?_;refine zB1 hS [_,_,_] ?_;intro b1 w1 hS;refine zt ?_;refine ⟨List.forall_mem_cons.2 ⟨(by first|(exact Q1c hS rfl fd rfl)|(exact QK hS rfl fd rfl)),fun _ h=> (List.not_mem_nil h).elim⟩,?_⟩;refine s_cf ?_;refine za Q5Q Qak hS ?_;intro vp1 w1 css1 hls1 hv1 hS;have hS:=hS.ns;refine Zac ?_;refine zf0 ?_;refine Zay ?_;refine zst hS ?_;intro w1 hS;have hS:=hS.ns;refine Zav ?_;refine Q1d ?_;refine zad ?_;refine Zad ?_;exact ⟨⟨q+1,_,_,ts++[t2],zh,zh,(by omega),hls1,by simp [hlt],by assumption,QfW hx1 hd h2,hS.sp⟩,Qr (by omega)⟩)
 · skip
   all_goals (refine zex ?_;have hts:=QfV hd (by omega);obtain ⟨c1,hle2,hS,hk1⟩:=St.freezeL (r:=tyR) hS hlo rfl (by omega);have hT:=Q2P (k:=3) (r:=t.r) hk1;have hls:=hls.up hle2;obtain ⟨ao,no,rfl⟩:=Rep.SR.shape hk1;refine Qv ?_;refine zC [(0,none),(1,none),(2,none),(3,none),(4,none),(5,some (some [0])),(6,some none),(7,none),(8,some none)] ?_;have hS:=hS.drew;refine s_cq ?_;refine zv hS ?_;refine Zax ?_;refine Zaw ?_;refine zf0 ?_;refine Zac ?_;refine Q1A hS rfl fd rfl ?_;refine Zal ?_;refine zR1 (c:=jlen_c hS fd) (h:=?_);rintro v1 w1 ⟨rfl,hS⟩;refine zt ?_;refine ⟨List.forall_mem_cons.2 ⟨(by first|(exact Q1c hS rfl fd rfl)|(exact Q1Y hS rfl fd rfl rfl)),fun _ h=> (List.not_mem_nil h).elim⟩,?_⟩;refine s_cf ?_;refine zR2 (c:=Qcy hT hS) (h:=?_);rintro v1 w1 ⟨rfl,hS⟩;refine Zac ?_;refine Q4h rfl rfl ?_;refine Zay ?_)
   all_goals (first|(refine zR2 (c:=Q2i hS) (h:=?_);rintro v1 w1 ⟨rfl,hS⟩)|(refine zE2 (c:=Q2h hS) (p:=by rintro v9 w9 ⟨rfl,hS⟩;(repeat (refine Qe ?_));refine Qy ?_;refine .inr ⟨_,rfl,?_⟩;first|(exact ⟨_,by rw [Q8 h1,Q8 hts,if_pos (of_decide_eq_true hb)],rfl,St.weak (St.back0 hS.sp hi) hle2⟩)) (h:=fun _ _ h=> h.elim))|(refine zE2 (c:=Q3d hS) (p:=by rintro v9 w9 ⟨rfl,hb,hS⟩;(repeat (first|refine Qe ?_|refine Qf ?_|refine fun _=> ?_));refine Qy ?_;refine .inr ⟨_,rfl,?_⟩;first|(exact ⟨_,by rw [Q8 h1,Q8 hts,if_pos (of_decide_eq_true hb)],rfl,St.weak (St.back0 hS.sp hi) hle2⟩)) (h:=?_);rintro v1 w1 ⟨rfl,hb,hS⟩))
   all_goals (refine Zav ?_;refine Zag ?_;refine zv hS ?_;refine zE2 (c:=Q5G (s:=s) (by omega) hT hls hS fd) (p:=by rintro v9 w9 ⟨rfl,h80',hS⟩;(repeat (first|refine Qe ?_|refine Qf ?_|refine fun _=> ?_));refine Qy ?_;refine .inr ⟨_,rfl,?_⟩;exact ⟨_,by rw [Q8 h1,Q8 hts,if_neg (of_decide_eq_false hb),Q5n h80'],rfl,St.weak (St.back0 hS.sp hi) hle2⟩) (h:=?_);rintro v1 w1 ⟨rfl,hne80,vl4,cs4,hls4,hS⟩;have hS:=hS.ns;refine ZbB ?_;exact .inl ⟨_,rfl,rfl,c1,⟨s.h,_⟩,vl4,cs4,hle2,by rw [Q8 h1,Q8 hts,if_neg (of_decide_eq_false hb),Q43 hne80],hls4,(St.back hS.sp hi)⟩)
theorem Q4x {n:Nat}{x:Ins}(h:QE n x=0):Q1m n x=0:=by
 unfold QE at h
 split at h
 · cases h
 · split at h
   · cases h
   · exact h
theorem Q5I {n:Nat}{x:Ins}(h:QE n x=0) (ho:x.op=6∨x.op=7):0≤x.k:=by
 have h:=Q4x h
 unfold Q1m at h
 rcases ho with ho|ho <;> simp [ho] at h <;> omega
theorem Qg5 {n:Nat}{x:Ins}(h:QE n x=0) (ho:x.op=5):x.args.length≤8:=by
 have h:=Q4x h
 unfold Q1m at h
 simp [ho] at h;omega
theorem Qg6 {n:Nat}{x:Ins}(h:QE n x=0) (ho:x.op=14):0≤x.k∧x.k < n:=by
 have h:=Q4x h
 unfold Q1m at h
 simp [ho] at h;omega
theorem jins_c {s : JS} {x : Ins} {cs : List Value} (hm:m.Short) (hF:QE m.funcs.length x=0) (hn:s.l.length≤80) (hh:s.h.length≤16) (hj:j.Fits cx m) (hx:insR.at cx cs x) (hls:tyR.ls cx css s.l) (hS:St cx w L) (hi:nth L i=some (j.res s.h vl css)):
 Fins Tryz.prog Q7U [.pointer (some ⟨j.sp,0,none⟩), .agg ⟨cs⟩] w (JOk cx L j i (jins m j.f s x)) (JNo cx L (jins m j.f s x)):=by
 have hS:=hS.out hi
 have hx':=hx
 have hop:=Q2X hF
 have hlc:=hls.1
 have hN:tyR.at cx [.int .i64 1, .int .i64 0, .slice none 0 0] number:=Q2P (Rep.SR.nil _ _ _)
 obtain ⟨vr,va,rfl,hr,ha⟩:=Q1a hx
 unfold Fins
 all_goals refine lgo tyD Tryz.func207 ?_
 all_goals (refine Zaq ?_;intro p3 w1 hS;refine ZaE ?_;refine zb1 [_,_,_] ?_;refine Ql hS ?_;intro p4 w1 hS;refine zsn hS ?_;intro w1 hS;have hS:=hS.ns;refine ZaE ?_;refine zf0 ?_;refine Yaf ?_;refine ZbJ ?_;refine Zbn ?_)
 all_goals (first|(refine Qi ?_)|(refine Qm ?_)|(refine Q5 rfl rfl (fun hc=> ?_) (fun hc=> ?_)))
 all_goals (refine Zad ?_)
 all_goals
  first
  | (refine zct ?_
     all_goals refine zsk ?_)
  | (refine zcf ?_
     all_goals (refine Q1d ?_)
     all_goals (first|(refine Qi ?_)|(refine Qm ?_)|(refine Q5 rfl rfl (fun hc=> ?_) (fun hc=> ?_)))
     all_goals (refine zm ?_)
     all_goals refine zn ?_)
 all_goals
  first
  | (refine zct ?_
     all_goals (refine Zag ?_;refine zv hS ?_;refine zE2 (c:=Q5G (s:=s) (by omega) hN hls hS fd) (p:=by rintro v9 w9 ⟨rfl,h80,hS⟩;(repeat (first|refine Qe ?_|refine Qf ?_|refine fun _=> ?_));refine Qy ?_;refine .inr ⟨_,rfl,?_⟩;exact ⟨_,by rw [Q6M (by omega),Q5n h80],rfl,(St.back0 hS.sp hi)⟩) (h:=?_);rintro v1 w1 ⟨rfl,hne,vl4,cs4,hls4,hS⟩;have hS:=hS.ns;have hJ:JOk cx L j i (jins m j.f s x) (.tuple #[]) w1:=⟨rfl,cx,⟨s.h,_⟩,vl4,cs4,St.refl hS,by rw [Q6M (by omega),Q43 hne],hls4,(St.back hS.sp hi)⟩;refine zn ?_)
     all_goals (refine Q19 ?_;exact .inl ⟨_,rfl,hJ⟩))
  | (refine zcf ?_
     all_goals (refine Zaa ?_)
     all_goals (first|(refine Qi ?_)|(refine Qm ?_)|(refine Q5 rfl rfl (fun hc=> ?_) (fun hc=> ?_)))
     all_goals (refine Zad ?_)
     all_goals
      first
      | (refine zct ?_
         all_goals (refine Zab ?_;refine zf0 ?_;refine Yaf ?_;refine zE3 (c:=Q44 (s:=s) hls hS fd) (p:=by rintro v9 w9 ⟨c,h1,rfl,hS⟩;(repeat (first|refine Qe ?_|refine Qf ?_|refine fun _=> ?_));refine Qy ?_;refine .inr ⟨_,rfl,?_⟩;exact ⟨_,by rw [Q81 (by omega),QH h1],rfl,(St.back0 hS.sp hi)⟩) (h:=?_);rintro v1 w1 ⟨t1,cs1,h1,rfl,hrd1,hS⟩;skip;refine ZaH ?_;refine zf0 ?_;refine Yaf ?_;refine zE3 (c:=Q44 (s:=s) hls hS fd) (p:=by rintro v9 w9 ⟨c,h2,rfl,hS⟩;(repeat (first|refine Qe ?_|refine Qf ?_|refine fun _=> ?_));refine Qy ?_;refine .inr ⟨_,rfl,?_⟩;exact ⟨_,by rw [Q81 (by omega),Q8 h1,QH h2],rfl,(St.back0 hS.sp hi)⟩) (h:=?_);rintro v1 w1 ⟨t2,cs2,h2,rfl,hrd2,hS⟩;skip;refine Zbs ?_;refine zv hS ?_;refine zE2 (c:=Q5G (s:=s) (by omega) hN hls hS fd) (p:=by rintro v9 w9 ⟨rfl,h80,hS⟩;(repeat (first|refine Qe ?_|refine Qf ?_|refine fun _=> ?_));refine Qy ?_;refine .inr ⟨_,rfl,?_⟩;exact ⟨_,by rw [Q81 (by omega),Q8 h1,Q8 h2,Q5n h80],rfl,(St.back0 hS.sp hi)⟩) (h:=?_);rintro v1 w1 ⟨rfl,hne,vl4,cs4,hls4,hS⟩;have hS:=hS.ns;have hJ:JOk cx L j i (jins m j.f s x) (.tuple #[]) w1:=⟨rfl,cx,⟨s.h,_⟩,vl4,cs4,St.refl hS,by rw [Q81 (by omega),Q8 h1,Q8 h2,Q43 hne],hls4,(St.back hS.sp hi)⟩)
         all_goals (refine zn ?_)
         all_goals (refine Q19 ?_;exact .inl ⟨_,rfl,hJ⟩))
      | (refine zcf ?_
         all_goals (refine Zaa ?_)
         all_goals (first|(refine Qi ?_)|(refine Qm ?_)|(refine Q5 rfl rfl (fun hc=> ?_) (fun hc=> ?_)))
         all_goals (refine Zad ?_)
         all_goals
          first
          | (refine zcf ?_
             all_goals (refine Zaa ?_)
             all_goals (first|(refine Qi ?_)|(refine Qm ?_)|(refine Q5 rfl rfl (fun hc=> ?_) (fun hc=> ?_)))
             all_goals (refine Zad ?_)
             all_goals
              first
              | (refine zct ?_
                 all_goals (refine Zab ?_;refine zf0 ?_;refine Yaf ?_;refine zE3 (c:=Q8I (s:=s) hls hS fd) (p:=by rintro v9 w9 ⟨c,h1,rfl,hS⟩;(repeat (first|refine Qe ?_|refine Qf ?_|refine fun _=> ?_));refine Qy ?_;refine .inr ⟨_,rfl,?_⟩;exact ⟨_,by rw [Q8Y (by omega),QH h1],rfl,(St.back0 hS.sp hi)⟩) (h:=?_);rintro v1 w1 ⟨t1,cs1,h1,rfl,hrd1,hS⟩;obtain ⟨vd1,rfl,hld1⟩:=Qt hrd1;refine Qf1 rfl rfl ?_;refine Zad ?_;refine Zas ?_;refine znc ?_;refine zf0 ?_;refine Yac ?_;refine Q1A hS rfl fd rfl ?_)
                 all_goals (first|(refine Q1k ?_)|(refine Q1w ?_)|(refine QA rfl rfl (fun hc=> ?_) (fun hc=> ?_)))
                 all_goals (first|(refine zR2 (c:=Q2i hS) (h:=?_);rintro v1 w1 ⟨rfl,hS⟩)|(refine zE2 (c:=Q2h hS) (p:=by rintro v9 w9 ⟨rfl,hS⟩;(repeat (first|refine Qe ?_|refine Qf ?_|refine fun _=> ?_));refine Qy ?_;refine .inr ⟨_,rfl,?_⟩;exact ⟨_,by rw [Q8Y (by omega),Q8 h1,if_pos (by omega)],rfl,(St.back0 hS.sp hi)⟩) (h:=fun _ _ h=> h.elim)))
                 all_goals (refine Zbs ?_;refine znc ?_;refine zf0 ?_;refine Q1A hS rfl fd rfl ?_;refine zm ?_;refine zR2 (c:=jshut_c (Q91 h1).2.2.2 hS fd) (h:=?_);rintro v1 w1 ⟨rfl,hS⟩;have hS:=hS.ns;have hJ:JOk cx L j i (jins m j.f s x) (.tuple #[]) w1:=⟨rfl,cx,⟨s.h.set t1.r.toNat false,s.l⟩,vl,css,St.refl hS,by rw [Q8Y (by omega),Q8 h1,if_neg (by omega)],hls,(St.back hS.sp hi)⟩;refine zn ?_)
                 all_goals (refine Q19 ?_;exact .inl ⟨_,rfl,hJ⟩))
              | (refine zcf ?_
                 all_goals (refine Zaa ?_)
                 all_goals (first|(refine Qi ?_)|(refine Qm ?_)|(refine Q5 rfl rfl (fun hc=> ?_) (fun hc=> ?_)))
                 all_goals (refine Zad ?_)
                 all_goals
                  first
                  | (refine zct ?_
                     all_goals (refine Zag ?_;refine zv hS ?_;refine zE2 (c:=jtuple_c (Qg5 hF (by omega)) hn hx' hls hS fd) (p:=by rintro v9 w9 ⟨c,g1,rfl,hS⟩;(repeat (first|refine Qe ?_|refine Qf ?_|refine fun _=> ?_));refine Qy ?_;refine .inr ⟨_,rfl,?_⟩;exact ⟨_,by rw [QaT (by omega)];exact g1,rfl,(St.back0 hS.sp hi)⟩) (h:=?_);rintro v1 w1 ⟨rfl,c1,s1,vl4,cs4,hle,hr1,hls4,hS⟩;have hS:=hS.ns;have hJ:JOk cx L j i (jins m j.f s x) (.tuple #[]) w1:=⟨rfl,c1,s1,vl4,cs4,hle,by rw [QaT (by omega)];exact hr1,hls4,(St.back hS.sp hi)⟩;refine zn ?_)
                     all_goals (refine Q19 ?_;exact .inl ⟨_,rfl,hJ⟩))
                  | (refine zcf ?_
                     all_goals (refine Zaa ?_)
                     all_goals (first|(refine Qi ?_)|(refine Qm ?_)|(refine Q5 rfl rfl (fun hc=> ?_) (fun hc=> ?_)))
                     all_goals (refine Zad ?_)
                     all_goals
                      first
                      | (refine zct ?_
                         all_goals (refine zC [(0,none),(1,none),(2,none),(3,none),(4,none),(6,none),(7,none),(5,some (some [7])),(8,some (some [])),(9,some none)] ?_;have hS:=hS.drew;refine Zbf ?_;refine Zaj ?_;refine zf0 ?_;refine Zbz ?_;refine Zac ?_;refine zf0 ?_;refine Zbz ?_;refine Zal ?_;refine zE3 (c:=Q8I (s:=s) hls hS fd) (p:=by rintro v9 w9 ⟨c,h1,rfl,hS⟩;(repeat (first|refine Qe ?_|refine Qf ?_|refine fun _=> ?_));refine Qy ?_;refine .inr ⟨_,rfl,?_⟩;exact ⟨_,by rw [Q80 (by omega),QH h1],rfl,(St.back0 hS.sp hi)⟩) (h:=?_);rintro v1 w1 ⟨t1,cs1,h1,rfl,hrd1,hS⟩;have hrd1':=hrd1;obtain ⟨vd1,rfl,hld1⟩:=Qt hrd1;refine zt ?_;refine ⟨List.forall_mem_cons.2 ⟨(by first|(exact Q1c hS rfl fd rfl)|(exact QK hS rfl fd rfl)),fun _ h=> (List.not_mem_nil h).elim⟩,?_⟩)
                         all_goals (refine Q3U ?_;refine zE3 (c:=Q7e (j:=j) (Q5I hF (by omega)) hrd1' hS) (p:=by rintro v9 w9 ⟨c,h2,rfl,hS⟩;(repeat (first|refine Qe ?_|refine Qf ?_|refine fun _=> ?_));refine Qy ?_;refine .inr ⟨_,rfl,?_⟩;exact ⟨_,by rw [Q80 (by omega),Q8 h1,QH h2],rfl,(St.back0 hS.sp hi)⟩) (h:=?_);rintro v1 w1 ⟨t2,cs2,h2,rfl,hrd2,hS⟩;skip;refine zt ?_;refine ⟨fun _ h=> (List.not_mem_nil h).elim,?_⟩;refine s_cf ?_;refine zE2 (c:=Q5G (s:=s) (by omega) hrd2 hls hS fd) (p:=by rintro v9 w9 ⟨rfl,h80,hS⟩;(repeat (first|refine Qe ?_|refine Qf ?_|refine fun _=> ?_));refine Qy ?_;refine .inr ⟨_,rfl,?_⟩;exact ⟨_,by rw [Q80 (by omega),Q8 h1,Q8 h2,Q5n h80],rfl,(St.back0 hS.sp hi)⟩) (h:=?_);rintro v1 w1 ⟨rfl,hne,vl4,cs4,hls4,hS⟩;have hS:=hS.ns;have hJ:JOk cx L j i (jins m j.f s x) (.tuple #[]) w1:=⟨rfl,cx,⟨s.h,_⟩,vl4,cs4,St.refl hS,by rw [Q80 (by omega),Q8 h1,Q8 h2,Q43 hne],hls4,(St.back hS.sp hi)⟩;refine Zav ?_)
                         all_goals (refine Q19 ?_;exact .inl ⟨_,rfl,hJ⟩))
                      | (refine zcf ?_
                         all_goals (refine Zaa ?_)
                         all_goals (first|(refine Qi ?_)|(refine Qm ?_)|(refine Q5 rfl rfl (fun hc=> ?_) (fun hc=> ?_)))
                         all_goals (refine Zad ?_)
                         all_goals
                          first
                          | (refine zct ?_
                             all_goals (refine Qv ?_)
                             refine Q34 4 8 (by kernel_rfl) ?_ ?_
                             · skip
                               refine Q34 7 8 (by kernel_rfl) ?_ ?_
                               · skip
                                 all_goals (refine zC [(0,none),(1,none),(2,none),(3,none),(5,none),(6,none),(4,some (some [6])),(7,some none),(8,some none),(9,some none)] ?_;have hS:=hS.drew;refine Zbf ?_;refine zf0 ?_;refine Zbz ?_;refine Zac ?_;refine zf0 ?_;refine Zbz ?_;refine Zal ?_;refine zE3 (c:=Q8I (s:=s) hls hS fd) (p:=by rintro v9 w9 ⟨c,h1,rfl,hS⟩;(repeat (first|refine Qe ?_|refine Qf ?_|refine fun _=> ?_));refine Qy ?_;refine .inr ⟨_,rfl,?_⟩;exact ⟨_,by rw [Q2z (by omega),QH h1],rfl,(St.back0 hS.sp hi)⟩) (h:=?_);rintro v1 w1 ⟨t1,cs1,h1,rfl,hrd1,hS⟩;have hrd1':=hrd1;obtain ⟨vd1,rfl,hld1⟩:=Qt hrd1;refine zt ?_;refine ⟨List.forall_mem_cons.2 ⟨(by first|(exact Q1c hS rfl fd rfl)|(exact QK hS rfl fd rfl)),fun _ h=> (List.not_mem_nil h).elim⟩,?_⟩)
                                 all_goals (refine s_cf ?_;refine zE3 (c:=Q7e (j:=j) (Q5I hF (by omega)) hrd1' hS) (p:=by rintro v9 w9 ⟨c,h2,rfl,hS⟩;(repeat (first|refine Qe ?_|refine Qf ?_|refine fun _=> ?_));refine Qy ?_;refine .inr ⟨_,rfl,?_⟩;exact ⟨_,by rw [Q2z (by omega),Q8 h1,QH h2],rfl,(St.back0 hS.sp hi)⟩) (h:=?_);rintro v1 w1 ⟨t2,cs2,h2,rfl,hrd2,hS⟩;have hrd2':=hrd2;obtain ⟨vd2,rfl,hld2⟩:=Qt hrd2;refine Zay ?_;refine Ql hS ?_;intro p6 w1 hS;refine Zay ?_;refine zsn hS ?_;intro w1 hS;have hS:=hS.ns;refine Zav ?_;refine zC [(0,none),(1,none),(2,none),(3,none),(4,some (some [0])),(5,some none),(6,none),(7,some none)] ?_;have hS:=hS.drew;refine s_cq ?_;refine zv hS ?_;refine Zax ?_;refine zf0 ?_;refine Zbz ?_;refine Zal ?_;refine zE2 (c:=Q4M (s:=s) hls hS fd) (p:=by rintro v9 w9 ⟨c,h3,rfl,hS⟩;(repeat (first|refine Qe ?_|refine Qf ?_|refine fun _=> ?_));refine Qy ?_;refine .inr ⟨_,rfl,?_⟩;exact ⟨_,by rw [Q2z (by omega),Q8 h1,Q8 h2,QH h3],rfl,(St.back0 hS.sp hi)⟩) (h:=?_);rintro v1 w1 ⟨t3,cs3,h3,rfl,hrd3,hS⟩;skip)
                                 all_goals (refine zt ?_;refine ⟨List.forall_mem_cons.2 ⟨(by first|(exact Q1c hS rfl fd rfl)|(exact Q1Y hS rfl fd rfl rfl)),fun _ h=> (List.not_mem_nil h).elim⟩,?_⟩;refine s_cf ?_;refine zR2 (c:=Q7M _ _ hrd2' hrd3 hS) (h:=?_);rintro v1 w1 ⟨rfl,hS⟩;refine Zac ?_;refine znt ?_;refine Zay ?_;refine zE2 (c:=Q3d hS) (p:=by rintro v9 w9 ⟨rfl,hb,hS⟩;(repeat (first|refine Qe ?_|refine Qf ?_|refine fun _=> ?_));refine Qy ?_;refine .inr ⟨_,rfl,?_⟩;exact ⟨_,by rw [Q2z (by omega),Q8 h1,Q8 h2,Q8 h3,if_pos (by simpa using hb)],rfl,(St.back0 hS.sp hi)⟩) (h:=?_);rintro v1 w1 ⟨rfl,hb,hS⟩;refine Zav ?_;have hJ:JOk cx L j i (jins m j.f s x) (.tuple #[]) w1:=⟨rfl,cx,s,vl,css,St.refl hS,by rw [Q2z (by omega),Q8 h1,Q8 h2,Q8 h3,if_neg (by simpa using hb)],hls,(St.back hS.sp hi)⟩;refine Q19 ?_;exact .inl ⟨_,rfl,hJ⟩)
                               · skip
                                 all_goals (refine zC [(0,none),(1,none),(2,none),(3,none),(5,none),(6,none),(4,some (some [6])),(8,some (some [6])),(7,some none),(9,some none)] ?_;have hS:=hS.drew;refine Zbf ?_;refine zf0 ?_;refine Zbz ?_;refine Zac ?_;refine zf0 ?_;refine Zbz ?_;refine Zal ?_;refine zE3 (c:=Q8I (s:=s) hls hS fd) (p:=by rintro v9 w9 ⟨c,h1,rfl,hS⟩;(repeat (first|refine Qe ?_|refine Qf ?_|refine fun _=> ?_));refine Qy ?_;refine .inr ⟨_,rfl,?_⟩;exact ⟨_,by rw [Q2z (by omega),QH h1],rfl,(St.back0 hS.sp hi)⟩) (h:=?_);rintro v1 w1 ⟨t1,cs1,h1,rfl,hrd1,hS⟩;have hrd1':=hrd1;obtain ⟨vd1,rfl,hld1⟩:=Qt hrd1;refine zt ?_;refine ⟨List.forall_mem_cons.2 ⟨(by first|(exact Q1c hS rfl fd rfl)|(exact QK hS rfl fd rfl)),fun _ h=> (List.not_mem_nil h).elim⟩,?_⟩)
                                 all_goals (refine Q3U ?_;refine Ql hS ?_;intro p6 w1 hS;refine zt ?_;refine ⟨List.forall_mem_cons.2 ⟨(by first|(exact Q1c hS rfl fd rfl)|(exact QK hS rfl fd rfl)),fun _ h=> (List.not_mem_nil h).elim⟩,?_⟩;refine s_cf ?_;refine zE3 (c:=Q7e (j:=j) (Q5I hF (by omega)) hrd1' hS) (p:=by rintro v9 w9 ⟨c,h2,rfl,hS⟩;(repeat (first|refine Qe ?_|refine Qf ?_|refine fun _=> ?_));refine Qy ?_;refine .inr ⟨_,rfl,?_⟩;exact ⟨_,by rw [Q2z (by omega),Q8 h1,QH h2],rfl,(St.back0 hS.sp hi)⟩) (h:=?_);rintro v1 w1 ⟨t2,cs2,h2,rfl,hrd2,hS⟩;have hrd2':=hrd2;obtain ⟨vd2,rfl,hld2⟩:=Qt hrd2;refine Zay ?_;refine zsn hS ?_;intro w1 hS;have hS:=hS.ns;refine Zav ?_;refine zC [(0,none),(1,none),(2,none),(3,none),(4,some (some [0])),(5,some none),(6,none),(7,some none)] ?_;have hS:=hS.drew;refine s_cq ?_;refine zv hS ?_;refine Zax ?_;refine zf0 ?_;refine Zbz ?_)
                                 all_goals (refine Zal ?_;refine zE2 (c:=Q4M (s:=s) hls hS fd) (p:=by rintro v9 w9 ⟨c,h3,rfl,hS⟩;(repeat (first|refine Qe ?_|refine Qf ?_|refine fun _=> ?_));refine Qy ?_;refine .inr ⟨_,rfl,?_⟩;exact ⟨_,by rw [Q2z (by omega),Q8 h1,Q8 h2,QH h3],rfl,(St.back0 hS.sp hi)⟩) (h:=?_);rintro v1 w1 ⟨t3,cs3,h3,rfl,hrd3,hS⟩;skip;refine zt ?_;refine ⟨List.forall_mem_cons.2 ⟨(by first|(exact Q1c hS rfl fd rfl)|(exact Q1Y hS rfl fd rfl rfl)),fun _ h=> (List.not_mem_nil h).elim⟩,?_⟩;refine s_cf ?_;refine zR2 (c:=Q7M _ _ hrd2' hrd3 hS) (h:=?_);rintro v1 w1 ⟨rfl,hS⟩;refine Zac ?_;refine znt ?_;refine Zay ?_;refine zE2 (c:=Q3d hS) (p:=by rintro v9 w9 ⟨rfl,hb,hS⟩;(repeat (first|refine Qe ?_|refine Qf ?_|refine fun _=> ?_));refine Qy ?_;refine .inr ⟨_,rfl,?_⟩;exact ⟨_,by rw [Q2z (by omega),Q8 h1,Q8 h2,Q8 h3,if_pos (by simpa using hb)],rfl,(St.back0 hS.sp hi)⟩) (h:=?_);rintro v1 w1 ⟨rfl,hb,hS⟩;refine Zav ?_;have hJ:JOk cx L j i (jins m j.f s x) (.tuple #[]) w1:=⟨rfl,cx,s,vl,css,St.refl hS,by rw [Q2z (by omega),Q8 h1,Q8 h2,Q8 h3,if_neg (by simpa using hb)],hls,(St.back hS.sp hi)⟩;refine Q19 ?_;exact .inl ⟨_,rfl,hJ⟩)
                             · skip
                               all_goals (refine zC [(0,none),(1,none),(2,none),(3,none),(5,none),(6,none),(8,some (some [3,6])),(4,some (some [6])),(7,some none),(9,some none)] ?_;have hS:=hS.drew;refine Zbf ?_;refine zf0 ?_;refine Zbz ?_;refine Zac ?_;refine zf0 ?_;refine Zbz ?_;refine ZaY ?_;intro p6 w1 hS;refine zt ?_;refine ⟨List.forall_mem_cons.2 ⟨(by first|(exact Q1c hS rfl fd rfl)|(exact QK hS rfl fd rfl)),List.forall_mem_cons.2 ⟨(by first|(exact Q1c hS rfl fd rfl)|(exact QK hS rfl fd rfl)),fun _ h=> (List.not_mem_nil h).elim⟩⟩,?_⟩;refine Q3U ?_;refine zE3 (c:=Q8I (s:=s) hls hS fd) (p:=by rintro v9 w9 ⟨c,h1,rfl,hS⟩;(repeat (first|refine Qe ?_|refine Qf ?_|refine fun _=> ?_));refine Qy ?_;refine .inr ⟨_,rfl,?_⟩;exact ⟨_,by rw [Q2z (by omega),QH h1],rfl,(St.back0 hS.sp hi)⟩) (h:=?_);rintro v1 w1 ⟨t1,cs1,h1,rfl,hrd1,hS⟩;have hrd1':=hrd1;obtain ⟨vd1,rfl,hld1⟩:=Qt hrd1)
                               all_goals (refine zt ?_;refine ⟨List.forall_mem_cons.2 ⟨(by first|(exact Q1c hS rfl fd rfl)|(exact QK hS rfl fd rfl)),fun _ h=> (List.not_mem_nil h).elim⟩,?_⟩;refine s_cf ?_;refine zE3 (c:=Q7e (j:=j) (Q5I hF (by omega)) hrd1' hS) (p:=by rintro v9 w9 ⟨c,h2,rfl,hS⟩;(repeat (first|refine Qe ?_|refine Qf ?_|refine fun _=> ?_));refine Qy ?_;refine .inr ⟨_,rfl,?_⟩;exact ⟨_,by rw [Q2z (by omega),Q8 h1,QH h2],rfl,(St.back0 hS.sp hi)⟩) (h:=?_);rintro v1 w1 ⟨t2,cs2,h2,rfl,hrd2,hS⟩;have hrd2':=hrd2;obtain ⟨vd2,rfl,hld2⟩:=Qt hrd2;refine Zay ?_;refine zsn hS ?_;intro w1 hS;have hS:=hS.ns;refine Zav ?_;refine zC [(0,none),(1,none),(2,none),(3,none),(4,some (some [0])),(5,some none),(6,none),(7,some none)] ?_;have hS:=hS.drew;refine s_cq ?_;refine zv hS ?_;refine Zax ?_;refine zf0 ?_;refine Zbz ?_;refine zt ?_)
                               all_goals (refine Q3U ?_;refine zE2 (c:=Q4M (s:=s) hls hS fd) (p:=by rintro v9 w9 ⟨c,h3,rfl,hS⟩;(repeat (first|refine Qe ?_|refine Qf ?_|refine fun _=> ?_));refine Qy ?_;refine .inr ⟨_,rfl,?_⟩;exact ⟨_,by rw [Q2z (by omega),Q8 h1,Q8 h2,QH h3],rfl,(St.back0 hS.sp hi)⟩) (h:=?_);rintro v1 w1 ⟨t3,cs3,h3,rfl,hrd3,hS⟩;skip;refine zt ?_;refine ⟨List.forall_mem_cons.2 ⟨(by first|(exact Q1c hS rfl fd rfl)|(exact Q1Y hS rfl fd rfl rfl)),fun _ h=> (List.not_mem_nil h).elim⟩,?_⟩;refine s_cf ?_;refine zR2 (c:=Q7M _ _ hrd2' hrd3 hS) (h:=?_);rintro v1 w1 ⟨rfl,hS⟩;refine Zac ?_;refine znt ?_;refine Zay ?_;refine zE2 (c:=Q3d hS) (p:=by rintro v9 w9 ⟨rfl,hb,hS⟩;(repeat (first|refine Qe ?_|refine Qf ?_|refine fun _=> ?_));refine Qy ?_;refine .inr ⟨_,rfl,?_⟩;exact ⟨_,by rw [Q2z (by omega),Q8 h1,Q8 h2,Q8 h3,if_pos (by simpa using hb)],rfl,(St.back0 hS.sp hi)⟩) (h:=?_);rintro v1 w1 ⟨rfl,hb,hS⟩;refine Zav ?_;have hJ:JOk cx L j i (jins m j.f s x) (.tuple #[]) w1:=⟨rfl,cx,s,vl,css,St.refl hS,by rw [Q2z (by omega),Q8 h1,Q8 h2,Q8 h3,if_neg (by simpa using hb)],hls,(St.back hS.sp hi)⟩)
                               all_goals (refine Q19 ?_;exact .inl ⟨_,rfl,hJ⟩))
                          | (refine zcf ?_
                             all_goals (refine Zaa ?_)
                             all_goals (first|(refine Qi ?_)|(refine Qm ?_)|(refine Q5 rfl rfl (fun hc=> ?_) (fun hc=> ?_)))
                             all_goals (refine Zad ?_)
                             all_goals
                              first
                              | (refine zct ?_
                                 all_goals (refine Zab ?_;refine zf0 ?_;refine Yaf ?_;refine zE3 (c:=Q8I (s:=s) hls hS fd) (p:=by rintro v9 w9 ⟨c,h1,rfl,hS⟩;(repeat (first|refine Qe ?_|refine Qf ?_|refine fun _=> ?_));refine Qy ?_;refine .inr ⟨_,rfl,?_⟩;exact ⟨_,by rw [Q7Z (by omega),QH h1],rfl,(St.back0 hS.sp hi)⟩) (h:=?_);rintro v1 w1 ⟨t1,cs1,h1,rfl,hrd1,hS⟩;obtain ⟨vd1,rfl,hld1⟩:=Qt hrd1;refine Qf1 rfl rfl ?_;refine ZaT ?_;refine zf0 ?_;refine Yaf ?_;refine zE3 (c:=Q44 (s:=s) hls hS fd) (p:=by rintro v9 w9 ⟨c,h2,rfl,hS⟩;(repeat (first|refine Qe ?_|refine Qf ?_|refine fun _=> ?_));refine Qy ?_;refine .inr ⟨_,rfl,?_⟩;exact ⟨_,by rw [Q7Z (by omega),Q8 h1,QH h2],rfl,(St.back0 hS.sp hi)⟩) (h:=?_);rintro v1 w1 ⟨t2,cs2,h2,rfl,hrd2,hS⟩;skip;refine zn ?_;refine ZaI ?_;refine zb2 [_,_,_] ?_;refine zE2 (c:=Q5G (s:=s) (by omega) (Q2P (k:=4) (r:=t1.r) (l:=[]) (Rep.SR.nil _ _ _)) hls hS fd) (p:=by rintro v9 w9 ⟨rfl,h80,hS⟩;(repeat (first|refine Qe ?_|refine Qf ?_|refine fun _=> ?_));refine Qy ?_;refine .inr ⟨_,rfl,?_⟩;exact ⟨_,by rw [Q7Z (by omega),Q8 h1,Q8 h2,Q5n h80],rfl,(St.back0 hS.sp hi)⟩) (h:=?_);rintro v1 w1 ⟨rfl,hne,vl4,cs4,hls4,hS⟩;have hS:=hS.ns;have hJ:JOk cx L j i (jins m j.f s x) (.tuple #[]) w1:=⟨rfl,cx,⟨s.h,_⟩,vl4,cs4,St.refl hS,by rw [Q7Z (by omega),Q8 h1,Q8 h2,Q43 hne],hls4,(St.back hS.sp hi)⟩)
                                 all_goals refine zn ?_)
                              | (refine zcf ?_
                                 all_goals (refine Zaa ?_)
                                 all_goals (first|(refine Qi ?_)|(refine Qm ?_)|(refine Q5 rfl rfl (fun hc=> ?_) (fun hc=> ?_)))
                                 all_goals (refine Zad ?_)
                                 all_goals
                                  first
                                  | (refine zct ?_
                                     all_goals (refine Zab ?_;refine zf0 ?_;refine Yaf ?_;refine zE3 (c:=Q8I (s:=s) hls hS fd) (p:=by rintro v9 w9 ⟨c,h1,rfl,hS⟩;(repeat (first|refine Qe ?_|refine Qf ?_|refine fun _=> ?_));refine Qy ?_;refine .inr ⟨_,rfl,?_⟩;exact ⟨_,by rw [Q7Y (by omega),QH h1],rfl,(St.back0 hS.sp hi)⟩) (h:=?_);rintro v1 w1 ⟨t1,cs1,h1,rfl,hrd1,hS⟩;skip;refine ZaH ?_;refine zf0 ?_;refine Yaf ?_;refine zE3 (c:=Q44 (s:=s) hls hS fd) (p:=by rintro v9 w9 ⟨c,h2,rfl,hS⟩;(repeat (first|refine Qe ?_|refine Qf ?_|refine fun _=> ?_));refine Qy ?_;refine .inr ⟨_,rfl,?_⟩;exact ⟨_,by rw [Q7Y (by omega),Q8 h1,QH h2],rfl,(St.back0 hS.sp hi)⟩) (h:=?_);rintro v1 w1 ⟨t2,cs2,h2,rfl,hrd2,hS⟩;skip;refine Zbs ?_;refine zv hS ?_;refine zE2 (c:=Q5G (s:=s) (by omega) hN hls hS fd) (p:=by rintro v9 w9 ⟨rfl,h80,hS⟩;(repeat (first|refine Qe ?_|refine Qf ?_|refine fun _=> ?_));refine Qy ?_;refine .inr ⟨_,rfl,?_⟩;exact ⟨_,by rw [Q7Y (by omega),Q8 h1,Q8 h2,Q5n h80],rfl,(St.back0 hS.sp hi)⟩) (h:=?_);rintro v1 w1 ⟨rfl,hne,vl4,cs4,hls4,hS⟩;have hS:=hS.ns;have hJ:JOk cx L j i (jins m j.f s x) (.tuple #[]) w1:=⟨rfl,cx,⟨s.h,_⟩,vl4,cs4,St.refl hS,by rw [Q7Y (by omega),Q8 h1,Q8 h2,Q43 hne],hls4,(St.back hS.sp hi)⟩)
                                     all_goals refine zn ?_)
                                  | (refine zcf ?_
                                     all_goals (refine Zaa ?_)
                                     all_goals (first|(refine Qi ?_)|(refine Qm ?_)|(refine Q5 rfl rfl (fun hc=> ?_) (fun hc=> ?_)))
                                     all_goals (refine Zad ?_)
                                     all_goals
                                      first
                                      | (refine zct ?_
                                         all_goals (refine Zab ?_;refine zf0 ?_;refine Yaf ?_;refine zE3 (c:=Q8I (s:=s) hls hS fd) (p:=by rintro v9 w9 ⟨c,h1,rfl,hS⟩;(repeat (first|refine Qe ?_|refine Qf ?_|refine fun _=> ?_));refine Qy ?_;refine .inr ⟨_,rfl,?_⟩;exact ⟨_,by rw [Q5o (by omega),QH h1],rfl,(St.back0 hS.sp hi)⟩) (h:=?_);rintro v1 w1 ⟨t1,cs1,h1,rfl,hrd1,hS⟩;skip;refine ZaH ?_;refine zf0 ?_;refine Yaf ?_;refine zE3 (c:=Q44 (s:=s) hls hS fd) (p:=by rintro v9 w9 ⟨c,h2,rfl,hS⟩;(repeat (first|refine Qe ?_|refine Qf ?_|refine fun _=> ?_));refine Qy ?_;refine .inr ⟨_,rfl,?_⟩;exact ⟨_,by rw [Q5o (by omega),Q8 h1,QH h2],rfl,(St.back0 hS.sp hi)⟩) (h:=?_);rintro v1 w1 ⟨t2,cs2,h2,rfl,hrd2,hS⟩;skip;refine Zbs ?_;refine zf0 ?_;refine Yaf ?_)
                                         all_goals (refine zE3 (c:=Q44 (s:=s) hls hS fd) (p:=by rintro v9 w9 ⟨c,h3,rfl,hS⟩;(repeat (first|refine Qe ?_|refine Qf ?_|refine fun _=> ?_));refine Qy ?_;refine .inr ⟨_,rfl,?_⟩;exact ⟨_,by rw [Q5o (by omega),Q8 h1,Q8 h2,QH h3],rfl,(St.back0 hS.sp hi)⟩) (h:=?_);rintro v1 w1 ⟨t3,cs3,h3,rfl,hrd3,hS⟩;skip;refine zn ?_)
                                         all_goals (have hJ:JOk cx L j i (jins m j.f s x) (.tuple #[]) w1:=⟨rfl,cx,s,vl,css,St.refl hS,by rw [Q5o (by omega),Q8 h1,Q8 h2,Q8 h3],hls,(St.back hS.sp hi)⟩))
                                      | (refine zcf ?_
                                         all_goals (refine Zaa ?_)
                                         all_goals (first|(refine Qi ?_)|(refine Qm ?_)|(refine Q5 rfl rfl (fun hc=> ?_) (fun hc=> ?_)))
                                         all_goals (refine Zad ?_)
                                         all_goals
                                          first
                                          | (refine zct ?_
                                             all_goals (refine Zab ?_;refine zf0 ?_;refine Yaf ?_;refine zE3 (c:=Q8I (s:=s) hls hS fd) (p:=by rintro v9 w9 ⟨c,h1,rfl,hS⟩;(repeat (first|refine Qe ?_|refine Qf ?_|refine fun _=> ?_));refine Qy ?_;refine .inr ⟨_,rfl,?_⟩;exact ⟨_,by rw [Q6u (by omega),QH h1],rfl,(St.back0 hS.sp hi)⟩) (h:=?_);rintro v1 w1 ⟨t1,cs1,h1,rfl,hrd1,hS⟩;skip;refine Zbs ?_;refine zv hS ?_;refine zE2 (c:=Q5G (s:=s) (by omega) hN hls hS fd) (p:=by rintro v9 w9 ⟨rfl,h80,hS⟩;(repeat (first|refine Qe ?_|refine Qf ?_|refine fun _=> ?_));refine Qy ?_;refine .inr ⟨_,rfl,?_⟩;exact ⟨_,by rw [Q6u (by omega),Q8 h1,Q5n h80],rfl,(St.back0 hS.sp hi)⟩) (h:=?_);rintro v1 w1 ⟨rfl,hne,vl4,cs4,hls4,hS⟩;have hS:=hS.ns;have hJ:JOk cx L j i (jins m j.f s x) (.tuple #[]) w1:=⟨rfl,cx,⟨s.h,_⟩,vl4,cs4,St.refl hS,by rw [Q6u (by omega),Q8 h1,Q43 hne],hls4,(St.back hS.sp hi)⟩)
                                             all_goals refine zn ?_)
                                          | (refine zcf ?_
                                             all_goals (refine Zaa ?_)
                                             all_goals (first|(refine Qi ?_)|(refine Qm ?_)|(refine Q5 rfl rfl (fun hc=> ?_) (fun hc=> ?_)))
                                             all_goals (refine Zad ?_)
                                             all_goals
                                              first
                                              | (refine zct ?_
                                                 all_goals (refine Zag ?_;refine zf0 ?_;refine Yaf ?_;refine zE3 (c:=Q44 (s:=s) hls hS fd) (p:=by rintro v9 w9 ⟨c,h1,rfl,hS⟩;(repeat (first|refine Qe ?_|refine Qf ?_|refine fun _=> ?_));refine Qy ?_;refine .inr ⟨_,rfl,?_⟩;exact ⟨_,by rw [Q82 (by omega),QH h1],rfl,(St.back0 hS.sp hi)⟩) (h:=?_);rintro v1 w1 ⟨t1,cs1,h1,rfl,hrd1,hS⟩;skip;refine zn ?_)
                                                 all_goals (have hJ:JOk cx L j i (jins m j.f s x) (.tuple #[]) w1:=⟨rfl,cx,s,vl,css,St.refl hS,by rw [Q82 (by omega),Q8 h1],hls,(St.back hS.sp hi)⟩))
                                              | (refine zcf ?_
                                                 all_goals (refine Zaa ?_)
                                                 all_goals (refine Qi ?_)
                                                 all_goals (refine Zad ?_)
                                                 all_goals
                                                  first
                                                  | (refine zct ?_
                                                     all_goals (refine Zag ?_;refine zv hS ?_;refine zE2 (c:=jcall_c hm (Qg6 hF (by omega)) hn hj hx' hls hS fd) (p:=by rintro v9 w9 ⟨c,g1,rfl,hS⟩;(repeat (first|refine Qe ?_|refine Qf ?_|refine fun _=> ?_));refine Qy ?_;refine .inr ⟨_,rfl,?_⟩;exact ⟨_,by rw [Q6t (by omega)];exact g1,rfl,(St.back0 hS.sp hi)⟩) (h:=?_);rintro v1 w1 ⟨rfl,c1,s1,vl4,cs4,hle,hr1,hls4,hS⟩;have hS:=hS.ns;have hJ:JOk cx L j i (jins m j.f s x) (.tuple #[]) w1:=⟨rfl,c1,s1,vl4,cs4,hle,by rw [Q6t (by omega)];exact hr1,hls4,(St.back hS.sp hi)⟩)
                                                     all_goals refine zn ?_))))))
                             all_goals (refine Q19 ?_;exact .inl ⟨_,rfl,hJ⟩))))))
          | (refine zct ?_
             all_goals (refine ZbG ?_;refine zf0 ?_;refine Q1A hS rfl fd rfl ?_;refine zR1 (c:=jlen_c hS fd) (h:=?_);rintro v1 w1 ⟨rfl,hS⟩)
             all_goals (first|(refine Qi ?_)|(refine Qm ?_)|(refine Q5 rfl rfl (fun hc=> ?_) (fun hc=> ?_)))
             all_goals (refine Zak ?_;refine Zbh ?_;(first|refine zgn ?_|(refine zgy ?_;refine Q1A hS rfl fd rfl ?_));(first|refine zgn ?_|(refine zgy ?_;refine Q8U hS fd vw hlc ?_)))
             all_goals (first|refine zgn ?_|(refine zgy ?_;(first|(refine Qi ?_)|(refine Qm ?_)|(refine Q5 rfl rfl (fun hc=> ?_) (fun hc=> ?_)))))
             all_goals (refine Yae ?_)
             all_goals (first|(refine zR2 (c:=Q2i hS) (h:=?_);rintro v1 w1 ⟨rfl,hS⟩)|(refine zE2 (c:=Q2h hS) (p:=by rintro v9 w9 ⟨rfl,hS⟩;(repeat (first|refine Qe ?_|refine Qf ?_|refine fun _=> ?_));refine Qy ?_;refine .inr ⟨_,rfl,?_⟩;exact ⟨_,by rw [QaU (by omega),if_pos (by omega)],rfl,(St.back0 hS.sp hi)⟩) (h:=fun _ _ h=> h.elim)))
             all_goals (refine zn ?_;refine ZaI ?_;refine znc ?_;refine zf0 ?_;refine Q1A hS rfl fd rfl ?_;refine zR1 (c:=jopen_c (h:=s.h) (by omega) hS fd) (h:=?_);rintro v1 w1 ⟨rfl,hS⟩;have hS:=hS.ns;refine zb2 [_,_,_] ?_;refine zE2 (c:=Q5G (s:=s) (by omega) (Q2P (k:=2) (r:=s.h.length) (l:=[]) (Rep.SR.nil _ _ _)) hls hS fd) (p:=by rintro v9 w9 ⟨rfl,h80,hS⟩;(repeat (first|refine Qe ?_|refine Qf ?_|refine fun _=> ?_));refine Qy ?_;refine .inr ⟨_,rfl,?_⟩;(exfalso;omega)) (h:=?_);rintro v1 w1 ⟨rfl,hne,vl4,cs4,hls4,hS⟩;have hS:=hS.ns;have hJ:JOk cx L j i (jins m j.f s x) (.tuple #[]) w1:=⟨rfl,cx,⟨s.h++[true],_⟩,vl4,cs4,St.refl hS,by rw [QaU (by omega),if_neg (by omega)],hls4,(St.back hS.sp hi)⟩;refine zn ?_)
             all_goals (refine Q19 ?_;exact .inl ⟨_,rfl,hJ⟩))))
end Go.Proofs.YteflkifmgnpbhaaGreat
namespace Go.Proofs.YteflkifmgnpbhaaGreat
open Go.Lir
set_option maxHeartbeats 1000000
attribute [local irreducible] LC.wp Q0 Qh Qc retQ Qw LO.wp Q3 Calls
set_option linter.unusedSimpArgs false
set_option linter.unusedVariables false
attribute [local irreducible] hasB Q3g Q1P Q1X Q42 upTo
variable {cx:Cx}{w:World}{L:List Res}{j:JP}{h:List Bool}{vl:Value}{css:List (List Value)}{i:Nat}{m:Module}
theorem jto_c {s:JS}{t:To}{cs:List Value}(hsf:j.f.Short) (hb:0≤t.block∧t.block < j.f.blocks.length) (hfb:∀b∈j.f.blocks,j.f.regs≤b.regs) (hh:s.h.length≤16) (hj:j.Fits cx m) (hx:toR.at cx cs t) (hls:tyR.ls cx css s.l) (hS:St cx w L) (hi:nth L i=some (j.res s.h vl css)):
 Fins Tryz.prog Q8G [.pointer (some ⟨j.sp,0,none⟩), .agg ⟨cs⟩] w (fun u w'=> jto j.f s t= .ok ()∧u= .tuple #[]∧St cx w' L) (JNo cx L (jto j.f s t)):=by
 have hS:=hS.out hi
 obtain ⟨vr,va,rfl,hr,ha⟩:=Q64 hx
 have hlr:=hr.len
 have hbl:=hj.b
 unfold Fins
 all_goals refine lgo tyD Tryz.func249 ?_
 all_goals (refine Zaq ?_;intro p3 w1 hS;refine ZaF ?_;refine zC [(0,none),(1,none),(2,none),(3,none),(4,none),(5,none),(6,none),(7,none),(8,none),(9,some (some [4,6,8])),(10,some none)] ?_;have hS:=hS.drew;refine Zbu ?_;refine zf0 ?_;refine Zbj ?_;refine Q1A hS rfl fd rfl ?_;refine Zac ?_;refine zf0 ?_;refine Zbz ?_;refine Zac ?_;refine Yam ?_;intro b1 o1 cs1 x1 hat1 hx1 he1;obtain ⟨vp1,vc1,ve11,ve12,ve13,ve14,ve15,rfl,hp1,hc1,he11,he12,he13,he14,he15⟩:=Q23 he1;refine Zac ?_;refine Yai ?_;refine ZaY ?_;intro p4 w1 hS;refine zt ?_;refine ⟨List.forall_mem_cons.2 ⟨(by (exact Q1c hS rfl fd rfl)),List.forall_mem_cons.2 ⟨(by first|(exact Q1c hS rfl fd rfl)|(exact QK hS rfl fd rfl)),List.forall_mem_cons.2 ⟨(by first|(exact Q1c hS rfl fd rfl)|(exact Q1Y hS rfl fd rfl rfl)|(exact Q2B hS (by assumption) rfl rfl rfl)),fun _ h=> (List.not_mem_nil h).elim⟩⟩⟩,?_⟩)
 all_goals (refine s_cf ?_;refine zsn hS ?_;intro w1 hS;have hS:=hS.ns;refine Zav ?_;have hbm:=List.mem_of_getElem? hx1;have hf1:=hfb x1 hbm;have hsb:=hsf.2.2.2 x1 hbm;refine Zaa ?_;refine zf0 ?_;refine Yaf ?_;refine zL ?_;refine zf0 ?_;refine Yaf ?_)
 all_goals (first|(refine Q11 ?_)|(refine Q18 ?_)|(refine Qu rfl rfl (fun hc=> ?_) (fun hc=> ?_)))
 all_goals (first|(refine zR2 (c:=Q2i hS) (h:=?_);rintro v1 w1 ⟨rfl,hS⟩)|(refine zE2 (c:=Q2h hS) (p:=by rintro v9 w9 ⟨rfl,hS⟩;(repeat (first|refine Qe ?_|refine Qf ?_|refine fun _=> ?_));refine Qy ?_;refine .inr ⟨_,rfl,?_⟩;exact ⟨_,jto_2 hx1 (by omega),rfl,(St.back0 hS.sp hi)⟩) (h:=fun _ _ h=> h.elim)))
 all_goals (refine zn ?_;refine Zah ?_;refine znc ?_;refine zf0 ?_;refine Yac ?_;refine Q1A hS rfl fd rfl ?_;refine ZaB ?_)
 refine zoL hS [0,3,4,27] (fun A LL ρ' w'=>∃(q:Nat),Has ρ' A∧Has ρ' [(28, .int .i64 q)]∧(q≤j.f.regs.toNat)∧(Q42 t.regs q=true)∧(¬(t.regs.length:Int)≠x1.regs)∧St cx w' (LL)) (fun ρ' _=> (j.f.regs - iv (ρ' 28)).toNat) ?_ ?_
 · exact ⟨0,zh,zh,(by omega),by unfold Q42;rfl,by omega,hS.sp⟩
 rintro ρ w1 ⟨q,hA,hρ,hq,hk,hne,hS⟩;obtain ⟨ρ,rfl⟩:=env2 hA hρ
 all_goals (refine ZaQ ?_)
 refine Qn rfl (fun hc=> ?_) (fun hc=> ?_)
 · skip
   all_goals (refine ZbC ?_;refine Zad ?_;refine Q1d ?_;refine zf0 ?_;refine Yaf ?_;refine zm ?_;refine zi ?_;intro b2 o2 cs2 x2 hat2 hx2 he2;obtain rfl:=QQ he2;(first|(refine Q1A hS rfl fd rfl ?_)|(refine zl hS ?_)|(refine zlk hS ?_));refine zm ?_)
   all_goals (first|(refine Q11 ?_)|(refine Q18 ?_)|(refine Qu rfl rfl (fun hc=> ?_) (fun hc=> ?_)))
   all_goals (first|(refine zR2 (c:=Q2i hS) (h:=?_);rintro v1 w1 ⟨rfl,hS⟩)|(refine zE2 (c:=Q2h hS) (p:=by rintro v9 w9 ⟨rfl,hS⟩;(repeat (first|refine Qe ?_|refine Qf ?_|refine fun _=> ?_));refine Qy ?_;refine .inr ⟨_,rfl,?_⟩;exact ⟨_,jto_11 hx1 hne (kept_no (q:=q) (by omega) (by rw [hx2];intro h;cases h;omega)),rfl,(St.back0 hS.sp hi)⟩) (h:=fun _ _ h=> h.elim)))
   all_goals (refine Zbq ?_;refine zad ?_;refine Zad ?_;exact ⟨⟨q+1,zh,zh,(by omega),by rw [kept_s,hk,hx2];simp;omega,hne,hS.sp⟩,Qr (by omega)⟩)
 · skip
   all_goals (refine zex ?_;have hq':q=j.f.regs.toNat:=(by omega);rw [hq'] at hk;refine Qv ?_;refine zD (ci 8 [6,7]) ?_;have hS:=hS.drew;refine Zbm ?_;refine zf0 ?_;refine Q1A hS rfl fd rfl ?_;refine zf0 ?_;refine Yaf ?_;refine zR2 (c:=jpass_c (h:=s.h) hh hr hS fd) (h:=?_);rintro v1 w1 ⟨rfl,hS⟩;refine ZaT ?_;refine Q4h rfl rfl ?_;refine zm ?_;refine zE2 (c:=Q3d hS) (p:=by rintro v9 w9 ⟨rfl,hb,hS⟩;(repeat (first|refine Qe ?_|refine Qf ?_|refine fun _=> ?_));refine Qy ?_;refine .inr ⟨_,rfl,?_⟩;exact ⟨_,jto_p hx1 hne hk (of_decide_eq_true hb),rfl,(St.back0 hS.sp hi)⟩) (h:=?_);rintro v1 w1 ⟨rfl,hb,hS⟩;refine Zbs ?_;refine zf0 ?_;refine Yaf ?_;refine zf0 ?_;refine Yaf ?_)
   all_goals (refine zf0 ?_;refine Yaf ?_;refine zE4 (c:=Qc5 (s:=s) hsb.1.2 hls ha hp1 hr hS fd) (p:=by rintro v9 w9 ⟨c,g1,rfl,hS⟩;(repeat (first|refine Qe ?_|refine Qf ?_|refine fun _=> ?_));refine Qy ?_;refine .inr ⟨_,rfl,?_⟩;exact ⟨_,(jto_a hx1 hne hk (Classical.not_not.1 (of_decide_eq_false hb))).trans g1,rfl,(St.back0 hS.sp hi)⟩) (h:=?_);rintro v1 w1 ⟨har,rfl,hS⟩;refine ZbB ?_;exact .inl ⟨_,rfl,(jto_a hx1 hne hk (Classical.not_not.1 (of_decide_eq_false hb))).trans har,rfl,(St.back0 hS.sp hi)⟩)
theorem jend_c {s:JS}{e:Tail}{cs:List Value}(hsf:j.f.Short) (hF:Q1M j.f.blocks.length e=0) (hfb:∀b∈j.f.blocks,j.f.regs≤b.regs) (hfr:j.f.regs≤100000) (hh:s.h.length≤16) (hj:j.Fits cx m) (hx:endR.at cx cs e) (hls:tyR.ls cx css s.l) (hS:St cx w L) (hi:nth L i=some (j.res s.h vl css)):
 Fins Tryz.prog Q7V [.pointer (some ⟨j.sp,0,none⟩), .agg ⟨cs⟩] w (fun u w'=> jend j.f s e= .ok ()∧u= .tuple #[]∧St cx w' L) (JNo cx L (jend j.f s e)):=by
 have hS:=hS.out hi
 obtain ⟨v1,v2,v3,v4,v5,rfl,h1,h2,h3,h4,h5⟩:=Q22 hx
 have hop:=Q3J hF
 have hy:e.op≠3→0≤e.yes.block∧e.yes.block < j.f.blocks.length:=fun h=> Q3O (by have:=hop.2.2.1;rwa [decide_eq_true h] at this)
 have hz:e.op=2→0≤e.no.block∧e.no.block < j.f.blocks.length:=fun h=> Q3O (by have:=hop.2.2.2;rwa [decide_eq_true h] at this)
 have hT1:toR.at cx [.int .i64 e.yes.block,v1,v2] e.yes:=⟨_,_,rfl,h1,h2⟩
 have hT2:toR.at cx [.int .i64 e.no.block,v3,v4] e.no:=⟨_,_,rfl,h3,h4⟩
 have hjr:=hj.r
 unfold Fins
 all_goals refine lgo tyD Tryz.func210 ?_
 all_goals (refine Zaq ?_;intro p3 w1 hS;refine ZaE ?_;refine zf0 ?_;refine Yaf ?_;refine ZbJ ?_;refine Zaa ?_)
 all_goals (first|(refine Qi ?_)|(refine Qm ?_)|(refine Q5 rfl rfl (fun hc=> ?_) (fun hc=> ?_)))
 all_goals (refine Zad ?_)
 all_goals
  first
  | (refine zct ?_
     all_goals (refine Zag ?_;refine zf0 ?_;refine zv hS ?_;refine zE2 (c:=jto_c (s:=s) hsf (hy (by omega)) hfb hh hj hT1 hls hS fd) (p:=by rintro v9 w9 ⟨c,g1,rfl,hS⟩;(repeat (first|refine Qe ?_|refine Qf ?_|refine fun _=> ?_));refine Qy ?_;refine .inr ⟨_,rfl,?_⟩;exact ⟨_,(QfZ (by omega)).trans g1,rfl,(St.back0 hS.sp hi)⟩) (h:=?_);rintro v6 w1 ⟨g1,rfl,hS⟩;have hJ:=(QfZ (f:=j.f) (s:=s) (e:=e) (by omega)).trans g1;refine zn ?_)
     all_goals (refine Q19 ?_;exact .inl ⟨_,rfl,hJ,rfl,(St.back0 hS.sp hi)⟩))
  | (refine zcf ?_
     all_goals (refine Zaa ?_)
     all_goals (first|(refine Qi ?_)|(refine Qm ?_)|(refine Q5 rfl rfl (fun hc=> ?_) (fun hc=> ?_)))
     all_goals (refine Zad ?_)
     all_goals
      first
      | (refine zct ?_
         all_goals (refine Zab ?_;refine zf0 ?_;refine Yaf ?_;refine zE3 (c:=Q44 (s:=s) hls hS fd) (p:=by rintro v9 w9 ⟨c,g1,rfl,hS⟩;(repeat (first|refine Qe ?_|refine Qf ?_|refine fun _=> ?_));refine Qy ?_;refine .inr ⟨_,rfl,?_⟩;exact ⟨_,by rw [QaV (by omega),QH g1],rfl,(St.back0 hS.sp hi)⟩) (h:=?_);rintro v6 w1 ⟨t1,cs1,g1,rfl,hrd1,hS⟩;refine ZaH ?_;refine zf0 ?_;refine zv hS ?_;refine zE2 (c:=jto_c (s:=s) hsf (hy (by omega)) hfb hh hj hT1 hls hS fd) (p:=by rintro v9 w9 ⟨c,g2,rfl,hS⟩;(repeat (first|refine Qe ?_|refine Qf ?_|refine fun _=> ?_));refine Qy ?_;refine .inr ⟨_,rfl,?_⟩;exact ⟨_,by rw [QaV (by omega),Q8 g1,QH g2],rfl,(St.back0 hS.sp hi)⟩) (h:=?_);rintro v6 w1 ⟨g2,rfl,hS⟩;refine Zbs ?_;refine zf0 ?_;refine zv hS ?_;refine zE2 (c:=jto_c (s:=s) hsf (hz (by omega)) hfb hh hj hT2 hls hS fd) (p:=by rintro v9 w9 ⟨c,g3,rfl,hS⟩;(repeat (first|refine Qe ?_|refine Qf ?_|refine fun _=> ?_));refine Qy ?_;refine .inr ⟨_,rfl,?_⟩;exact ⟨_,by rw [QaV (by omega),Q8 g1,Q8 g2];exact g3,rfl,(St.back0 hS.sp hi)⟩) (h:=?_);rintro v6 w1 ⟨g3,rfl,hS⟩;have hJ:jend j.f s e= .ok ():=(by rw [QaV (by omega),Q8 g1,Q8 g2];exact g3))
         all_goals (refine zn ?_)
         all_goals (refine Q19 ?_;exact .inl ⟨_,rfl,hJ,rfl,(St.back0 hS.sp hi)⟩))
      | (refine zcf ?_
         all_goals (refine Zaa ?_)
         all_goals (refine Qi ?_)
         all_goals (refine Zad ?_)
         all_goals
          first
          | (refine zcf ?_
             all_goals (refine zsk ?_)
             all_goals (refine Q19 ?_;exact .inl ⟨_,rfl,hJ,rfl,(St.back0 hS.sp hi)⟩))
          | (refine zct ?_
             all_goals (refine Zba ?_;refine znc ?_;refine zf0 ?_;refine Yac ?_;refine Q1A hS rfl fd rfl ?_;refine ZaB ?_;have hS:=St.nil (T:=3) (es:=1) hS)
             refine zo [0,3,34] (fun A ρ' w'=>∃(q:Nat) (vo:Value) (co:List (List Value)),Has ρ' A∧Has ρ' [(35, .int .i64 q),(4,vo)]∧(q≤j.f.regs.toNat)∧(intR.ls cx co (upTo q))∧((upTo q).length=q)∧(e.op=3)∧St cx w' (sl 3 1 vo co::blk p3 90 [.int .i64 e.op, .int .i64 e.a, .int .i64 e.yes.block,v1,v2, .int .i64 e.no.block,v3,v4,v5]::j.res s.h vl css::L.eraseIdx i)) (fun ρ' _=> (j.f.regs - iv (ρ' 35)).toNat) ?_ ?_
             · exact ⟨0,_,[],zh,zh,(by omega),by unfold upTo;exact Rep.LR.nil _ _ _,by unfold upTo;rfl,by omega,hS.sp⟩
             rintro ρ w1 ⟨q,vo,co,hA,hρ,hq,hlo,hlq,ho3,hS⟩;obtain ⟨ρ,rfl⟩:=env2 hA hρ
             all_goals (refine ZaQ ?_)
             refine Qn rfl (fun hc=> ?_) (fun hc=> ?_)
             · skip
               all_goals (refine ZbC ?_;refine Zad ?_;refine ZaI ?_;refine zB1 hS [_] ?_;intro b1 w1 hS;refine za Q5e Q9a hS ?_;intro vp1 w1 css1 hls1 hv1 hS;have hS:=hS.ns;refine Zad ?_;refine Q1d ?_;refine zad ?_;refine Zad ?_;exact ⟨⟨q+1,_,_,zh,zh,(by omega),by rw [upTo_s];exact hls1,by rw [upTo_s,List.length_append,hlq];rfl,ho3,hS.sp⟩,Qr (by omega)⟩)
             · skip
               all_goals (refine zex ?_;have hq':q=j.f.regs.toNat:=(by omega);rw [hq'] at hlo;obtain ⟨c1,hle2,hS,hk1⟩:=St.freezeL (r:=intR) hS hlo rfl (by rw [←hq'];omega);have hls':=hls.up hle2;have h5':=h5.up hle2;have hjr':=hjr.up hle2;refine Qv ?_;refine zD (ci 10 [9]) ?_;have hS:=hS.drew;refine zm ?_;refine zf0 ?_;refine Yaf ?_;refine Zbm ?_;refine zf0 ?_;refine Yac ?_;refine Q1A hS rfl fd rfl ?_;refine zm ?_;refine zE4 (c:=Qc5 (s:=s) hsf.2.1.2 hls' h5' hjr' hk1 hS fd) (p:=by rintro v9 w9 ⟨c,g1,rfl,hS⟩;(repeat (first|refine Qe ?_|refine Qf ?_|refine fun _=> ?_));refine Qy ?_;refine .inr ⟨_,rfl,?_⟩;exact ⟨_,by rw [Qd6 ho3,QH g1],rfl,St.weak (St.back0 hS.sp hi) hle2⟩) (h:=?_);rintro v6 w1 ⟨har,rfl,hS⟩;refine zn ?_;refine zC [(0,none),(1,none),(2,none),(3,none),(6,none),(7,none),(8,none),(9,none),(10,none),(4,some (some [10])),(5,none),(11,none),(12,some none)] ?_;have hS:=hS.drew)
               all_goals (refine Zbu ?_;refine zf0 ?_;refine Zac ?_;refine Q1A hS rfl fd rfl ?_;refine Zax ?_;refine Zaw ?_;refine zf0 ?_;refine Zbj ?_;refine Q1A hS rfl fd rfl ?_;refine Zal ?_;refine zR1 (c:=jlist_c (h:=s.h) hh hS fd) (h:=?_);rintro v1 w1 ⟨c2,hle3,hk2,hS⟩;have hS:=St.weak hS hle3;have hS:=St.weak hS hle2;have hl2:=hk2.len;refine zt ?_;refine ⟨List.forall_mem_cons.2 ⟨(by (exact Q1c hS rfl fd rfl)),fun _ h=> (List.not_mem_nil h).elim⟩,?_⟩;refine s_cq ?_;refine zL ?_;refine Zac ?_;refine Q7B rfl rfl ?_;refine Zay ?_)
               all_goals (refine zE2 (c:=Q3d hS) (p:=by rintro v9 w9 ⟨rfl,hb,hS⟩;(repeat (first|refine Qe ?_|refine Qf ?_|refine fun _=> ?_));refine Qy ?_;refine .inr ⟨_,rfl,?_⟩;exact ⟨_,by rw [Qd6 ho3,Q8 har,if_pos (by have:=of_decide_eq_true hb;omega)],rfl,(St.back0 hS.sp hi)⟩) (h:=?_);rintro v1 w1 ⟨rfl,hb,hS⟩;have hJ:jend j.f s e= .ok ():=(by rw [Qd6 ho3,Q8 har,if_neg (by have:=of_decide_eq_false hb;omega)]);refine Zav ?_)
               all_goals (refine Q19 ?_;exact .inl ⟨_,rfl,hJ,rfl,(St.back0 hS.sp hi)⟩))))
end Go.Proofs.YteflkifmgnpbhaaGreat
namespace Go.Proofs.YteflkifmgnpbhaaGreat
open Go.Lir
set_option maxHeartbeats 1000000
attribute [local irreducible] LC.wp Q0 Qh Qc retQ Qw LO.wp Q3 Calls
set_option linter.unusedSimpArgs false
set_option linter.unusedVariables false
attribute [local irreducible] hasB Q3g Q1P Q1X Q42 upTo
variable {cx:Cx}{w:World}{L:List Res}{j:JP}{h:List Bool}{vl:Value}{css:List (List Value)}{i:Nat}{m:Module}
theorem QgD {p:Nat}{n:Int}(hS:St cx w (blk p 3 [.int .i64 n]::L)):Defs Tryz.prog Q58 [.pointer (some ⟨p,0,none⟩)] .returning w fun u' w'=> u'= .returning∧St cx w' (blk p 3 [.int .i64 n]::L):=by
 unfold Defs
 all_goals refine lgr tyD Tryz.func237 ?_
 all_goals (refine r_seq ?_;refine r_sp ?_;refine zn ?_;refine Zad ?_;refine r_pl ?_;refine Zab ?_;refine QcJ (ms:=#[]) (by kernel_rfl) rfl ?_;refine zn ?_)
 all_goals refine zcf ?_
 all_goals (refine zsk ?_;refine QcW ?_;refine Q19 ?_;exact ⟨⟨_,rfl⟩,rfl,hS.sp⟩)
theorem QgC {p:Nat}{n e:Int}(hS:St cx w (blk p 3 [.int .i64 n]::L)):Defs Tryz.prog Q58 [.pointer (some ⟨p,0,none⟩)] (.panicking [{v:=Q5M e,recovered:=false}]) w fun u' w'=> u'= .panicking [{v:=Q5M e,recovered:=true}]∧St cx w' (blk p 3 [.int .i64 e]::L):=by
 unfold Defs
 all_goals refine lgr tyD Tryz.func237 ?_
 all_goals (refine r_seq ?_;refine r_sp ?_;refine zn ?_;refine Zad ?_;refine r_pl ?_;refine Zab ?_;refine QcI (ms:=#[]) (by kernel_rfl) rfl ?_;refine zn ?_)
 all_goals refine zct ?_
 all_goals (refine Zab ?_;refine QcL (D:= .int .i64) (by kernel_rfl) (by intro m;exact TypeDesc.noConfusion) rfl ?_;refine ZbF ?_)
 all_goals refine zcf ?_
 all_goals (refine zsk ?_;refine Zag ?_;refine zst hS ?_;intro w1 hS;have hS:=hS.ns;refine zn ?_;refine QcW ?_;refine Q19 ?_;exact ⟨⟨_,rfl⟩,rfl,hS.sp⟩)
theorem Qdh {f:FuncId}{cap:List Value}{X:Cx→List Res→Prop}{Y:Int→Cx→List Res→Prop}(hf:Q3G Tryz.prog f=true)
 (hc:∀(p:Nat) (w:World),St cx w (blk p 3 [.int .i64 0]::L)→Fins Tryz.prog f cap w (fun _ w'=>∃c' L',cx.Le c'∧St c' w' (blk p 3 [.int .i64 0]::L')∧X c' L') (fun u w'=>∃e c' L',u=Q5M e∧cx.Le c'∧St c' w' (blk p 3 [.int .i64 0]::L')∧Y e c' L')) (hS:St cx w L):
 Rets Tryz.prog QaQ [.func (.func f) #[] ⟨cap⟩] w fun u w'=>∃e c' L',u= .int .i64 e∧cx.Le c'∧St c' w' L'∧(e=0∧X c' L'∨Y e c' L'):=by
 all_goals refine lgd tyD Tryz.func205 ?_
 all_goals (refine Qcj ?_;refine d_pl ?_;refine Q1d ?_;refine Ql hS ?_;intro p2 w1 hS;refine zn ?_;refine Qcj ?_;refine d_sp ?_;refine QcG ?_;refine zn ?_;refine ⟨_,_,rfl,?_⟩;refine zn ?_;refine d_pl ?_;refine Zab ?_)
 all_goals (refine s_endsv rfl hf rfl (hc _ _ hS) (by rintro v9 w9 ⟨e,c1,L1,rfl,hle,hS,hY⟩;(repeat (first|refine Qe ?_|refine Qf ?_));refine Qfv ?_;refine Q4r (by intro h;cases h) (by kernel_rfl) (QgC hS) ?_;rintro u' w' ⟨rfl,hS⟩;refine Q2W ?_;refine Q25 vw (Q92 (by kernel_rfl) (hS.blkAt nth0) rfl) ?_;exact ⟨_,rfl,e,c1,L1,rfl,hle,hS.drop, .inr hY⟩) ?_;rintro v1 w1 ⟨c1,L1,hle,hS,hX⟩)
 all_goals (refine ZaE ?_;refine zst hS ?_;intro w1 hS;have hS:=hS.ns;refine Zbb ?_)
 all_goals (refine q_retD ?_;refine Q4r (by intro h;cases h) (by kernel_rfl) (QgD hS) ?_;rintro u1 w1 ⟨rfl,hS⟩;refine Q2W ?_)
 all_goals (refine Q25 vw (Q92 (by kernel_rfl) (hS.blkAt fd) rfl) ?_;exact ⟨_,rfl,0,c1,L1,rfl,hle,hS.drop, .inl ⟨rfl,hX⟩⟩)
theorem jins1_c {s:JS}{x:Ins}{cs:List Value}{p pa pb:Nat}(hm:m.Short) (hF:QE m.funcs.length x=0) (hn:s.l.length≤80) (hh:s.h.length≤16) (hj:j.Fits cx m) (hx:insR.at cx cs x) (hls:tyR.ls cx css s.l)
 (hS:St cx w (blk p 3 [.int .i64 0]::blk pb 84 cs::blk pa 207 [.pointer (some ⟨j.sp,0,none⟩)]::j.res s.h vl css::L)):
 Fins Tryz.prog Q6q [.pointer (some ⟨pa,0,none⟩), .pointer (some ⟨pb,0,none⟩)] w
  (fun _ w'=>∃c' L',cx.Le c'∧St c' w' (blk p 3 [.int .i64 0]::L')∧∃s' vl' css',jins m j.f s x= .ok s'∧tyR.ls c' css' s'.l∧L'=blk pb 84 cs::blk pa 207 [.pointer (some ⟨j.sp,0,none⟩)]::j.res s'.h vl' css'::L)
  (fun u w'=>∃e c' L',u=Q5M e∧cx.Le c'∧St c' w' (blk p 3 [.int .i64 0]::L')∧jins m j.f s x= .error e∧c'=cx∧L'=blk pb 84 cs::blk pa 207 [.pointer (some ⟨j.sp,0,none⟩)]::j.res s.h vl css::L):=by
 have hx':=hx
 obtain ⟨vr,va,rfl,hr,ha⟩:=Q1a hx
 unfold Fins
 all_goals refine lgo tyD Tryz.func206 ?_
 all_goals (refine Q1d ?_;refine zl hS ?_;refine zv hS ?_;refine zE2 (c:=jins_c hm hF hn hh hj hx' hls hS fd) (p:=by rintro v9 w9 ⟨c,g1,rfl,hS⟩;(repeat (first|refine Qe ?_|refine Qf ?_|refine fun _=> ?_));refine Qy ?_;refine .inr ⟨_,rfl,?_⟩;exact ⟨c,cx,_,rfl,St.refl hS,hS,g1,rfl,rfl⟩) (h:=?_);rintro v1 w1 ⟨rfl,c1,s1,vl4,cs4,hle,hr1,hls4,hS⟩;have hS:=hS.ns;refine ZbB ?_;exact .inl ⟨_,rfl,c1,_,hle,hS,s1,vl4,cs4,hr1,hls4,rfl⟩)
theorem jIns_c {s:JS}{x:Ins}{cs:List Value}(hm:m.Short) (hn:s.l.length≤80) (hh:s.h.length≤16) (hj:j.Fits cx m) (hx:insR.at cx cs x) (hls:tyR.ls cx css s.l) (hS:St cx w L) (hi:nth L i=some (j.res s.h vl css)):
 Rets Tryz.prog Q7W [.pointer (some ⟨j.sp,0,none⟩), .agg ⟨cs⟩] w fun u w'=> u= .int .i64 (jIns m j.f s x).1∧∃c' vl' css',cx.Le c'∧tyR.ls c' css' (jIns m j.f s x).2.l∧St c' w' (L.set i (j.res (jIns m j.f s x).2.h vl' css')):=by
 have hS:=hS.out hi
 have hx':=hx
 obtain ⟨vr,va,rfl,hr,ha⟩:=Q1a hx
 unfold jIns
 all_goals refine lgo tyD Tryz.func148 ?_
 all_goals (refine Zaq ?_;intro p2 w1 hS;refine zb hS ?_;intro p3 w1 hS;refine ZbE ?_;refine zD (ci 7 [5,6]) ?_;have hS:=hS.drew;refine Yaf ?_;refine znc ?_;refine zf0 ?_;refine Q78 hS rfl fd rfl rfl ?_;(first|(refine Q78 hS rfl fd rfl rfl ?_)|(refine zv hS ?_));refine zR2 (c:=pins_c (m:=m) ⟨_,rfl,hj.m⟩ hx' hS) (h:=?_);rintro v1 w1 ⟨rfl,hS⟩;refine ZaT ?_)
 all_goals (first|(refine Q11 ?_)|(refine Q18 ?_)|(refine Qu rfl rfl (fun hc=> ?_) (fun hc=> ?_)))
 all_goals (refine zn ?_)
 all_goals
  first
  | (refine zct ?_
     all_goals (refine Zbl ?_)
     all_goals (exact ⟨_,rfl,by rw [if_pos (by omega)],cx,vl,css,St.refl hS,by rw [if_pos (by omega)];exact hls,by rw [if_pos (by omega)];exact (St.back hS.sp hi)⟩))
  | (refine zcf ?_
     all_goals refine zsk ?_)
 all_goals (refine Zaa ?_;refine QcG ?_)
 all_goals (refine zR1 (c:=Qdh (by kernel_rfl) (fun p w hS=> jins1_c (s:=s) hm (by omega) hn hh hj hx' hls hS) hS.sp) (h:=?_);rintro v1 w1 ⟨e,c1,L1,rfl,hle,hS,⟨rfl,s1,vl4,cs4,hr1,hls4,rfl⟩|⟨hr1,rfl,rfl⟩⟩)
 all_goals (refine Zai ?_;(first|(exact ⟨_,rfl,by rw [if_pos (by omega)],cx,vl,css,St.refl hS,by rw [if_pos (by omega)];exact hls,by rw [if_pos (by omega)];exact (St.back hS.sp hi)⟩)|(exact ⟨_,rfl,by rw [if_neg (by omega),hr1],c1,vl4,cs4,hle,by rw [if_neg (by omega),hr1];exact hls4,by rw [if_neg (by omega),hr1];exact (St.back hS.sp hi)⟩)|(exact ⟨_,rfl,by rw [if_neg (by omega),hr1],_,vl,css,St.refl hS,by rw [if_neg (by omega),hr1];exact hls,by rw [if_neg (by omega),hr1];exact (St.back hS.sp hi)⟩)))
theorem jend1_c {s:JS}{x:Tail}{cs:List Value}{p pa pb:Nat}(hsf:j.f.Short) (hF:Q1M j.f.blocks.length x=0) (hfb:∀b∈j.f.blocks,j.f.regs≤b.regs) (hfr:j.f.regs≤100000) (hh:s.h.length≤16) (hj:j.Fits cx m) (hx:endR.at cx cs x) (hls:tyR.ls cx css s.l)
 (hS:St cx w (blk p 3 [.int .i64 0]::blk pb 90 cs::blk pa 207 [.pointer (some ⟨j.sp,0,none⟩)]::j.res s.h vl css::L)):
 Fins Tryz.prog Q6r [.pointer (some ⟨pa,0,none⟩), .pointer (some ⟨pb,0,none⟩)] w
  (fun _ w'=>∃c' L',cx.Le c'∧St c' w' (blk p 3 [.int .i64 0]::L')∧jend j.f s x= .ok ()∧c'=cx∧L'=blk pb 90 cs::blk pa 207 [.pointer (some ⟨j.sp,0,none⟩)]::j.res s.h vl css::L)
  (fun u w'=>∃e c' L',u=Q5M e∧cx.Le c'∧St c' w' (blk p 3 [.int .i64 0]::L')∧jend j.f s x= .error e∧c'=cx∧L'=blk pb 90 cs::blk pa 207 [.pointer (some ⟨j.sp,0,none⟩)]::j.res s.h vl css::L):=by
 have hx':=hx
 obtain ⟨u1,u2,u3,u4,u5,rfl,h1,h2,h3,h4,h5⟩:=Q22 hx
 unfold Fins
 all_goals refine lgo tyD Tryz.func209 ?_
 all_goals (refine Q1d ?_;refine zl hS ?_;refine zv hS ?_;refine zE2 (c:=jend_c hsf hF hfb hfr hh hj hx' hls hS fd) (p:=by rintro v9 w9 ⟨c,g1,rfl,hS⟩;(repeat (first|refine Qe ?_|refine Qf ?_|refine fun _=> ?_));refine Qy ?_;refine .inr ⟨_,rfl,?_⟩;exact ⟨c,cx,_,rfl,St.refl hS,hS,g1,rfl,rfl⟩) (h:=?_);rintro v1 w1 ⟨hr1,rfl,hS⟩;refine ZbB ?_;exact .inl ⟨_,rfl,cx,_,St.refl hS,hS,hr1,rfl,rfl⟩)
theorem jEnd_c {s:JS}{x:Tail}{cs:List Value}(hsf:j.f.Short) (hfb:∀b∈j.f.blocks,j.f.regs≤b.regs) (hfr:j.f.regs≤100000) (hh:s.h.length≤16) (hj:j.Fits cx m) (hx:endR.at cx cs x) (hls:tyR.ls cx css s.l) (hS:St cx w L) (hi:nth L i=some (j.res s.h vl css)):
 Rets Tryz.prog Q7X [.pointer (some ⟨j.sp,0,none⟩), .agg ⟨cs⟩] w fun u w'=> u= .int .i64 (jEnd j.f s x)∧St cx w' L:=by
 have hS:=hS.out hi
 have hx':=hx
 obtain ⟨u1,u2,u3,u4,u5,rfl,h1,h2,h3,h4,h5⟩:=Q22 hx
 unfold jEnd
 all_goals refine lgo tyD Tryz.func149 ?_
 all_goals (refine Zaq ?_;intro p2 w1 hS;refine zb hS ?_;intro p3 w1 hS;refine ZbE ?_;refine zD (ci 7 [5,6]) ?_;have hS:=hS.drew;refine Yaf ?_;refine znc ?_;refine zf0 ?_;refine Q78 hS rfl fd rfl rfl ?_;(first|(refine Q78 hS rfl fd rfl rfl ?_)|(refine zv hS ?_));refine zR2 (c:=pend_c (x:=j.f) ⟨_,_,_,rfl,hj.p,hj.r,hj.b⟩ hx' hS) (h:=?_);rintro v1 w1 ⟨rfl,hS⟩;refine ZaT ?_)
 all_goals (first|(refine Q11 ?_)|(refine Q18 ?_)|(refine Qu rfl rfl (fun hc=> ?_) (fun hc=> ?_)))
 all_goals (refine zn ?_)
 all_goals
  first
  | (refine zct ?_
     all_goals (refine Zbl ?_)
     all_goals (exact ⟨_,rfl,by rw [if_pos (by omega)],(St.back0 hS.sp hi)⟩))
  | (refine zcf ?_
     all_goals refine zsk ?_)
 all_goals (refine Zaa ?_;refine QcG ?_)
 all_goals (refine zR1 (c:=Qdh (by kernel_rfl) (fun p w hS=> jend1_c (s:=s) hsf (by omega) hfb hfr hh hj hx' hls hS) hS.sp) (h:=?_);rintro v1 w1 ⟨e,c1,L1,rfl,hle,hS,⟨rfl,hr1,rfl,rfl⟩|⟨hr1,rfl,rfl⟩⟩)
 all_goals (refine Zai ?_;(first|(exact ⟨_,rfl,by rw [if_pos (by omega)],(St.back0 hS.sp hi)⟩)|(exact ⟨_,rfl,by rw [if_neg (by omega),hr1],(St.back0 hS.sp hi)⟩)))
end Go.Proofs.YteflkifmgnpbhaaGreat
namespace Go.Proofs.YteflkifmgnpbhaaGreat
open Go.Lir
set_option maxHeartbeats 1000000
attribute [local irreducible] LC.wp Q0 Qh Qc retQ Qw LO.wp Q3 Calls
set_option linter.unusedSimpArgs false
set_option linter.unusedVariables false
attribute [local irreducible] hasB Q3g Q1P Q1X Q42 upTo Module.fault
variable {cx:Cx}{w:World}{L:List Res}{j:JP}{h:List Bool}{vl:Value}{css:List (List Value)}{i:Nat}{m:Module}
theorem clonet_c {l:List Ty}{v:Value}(hl:tyR.sl cx v l) (hb:l.length≤1000000) (hS:St cx w L):Rets Tryz.prog Q2F [v] w fun u w'=> oneC u=true∧∃css,tyR.ls cx css l∧St cx w' (sl 115 3 u css::L):=by
 obtain ⟨a,c,hv⟩:=Rep.SR.shape hl
 cases a with
 | none=>
   have hl0:=Rep.SR.nil_of hl hv
   subst hl0
   subst hv
   all_goals refine lgo tyD Tryz.func203 ?_
   all_goals (refine Zba ?_;refine Q69 (e:=115) (by kernel_rfl) rfl rfl ?_;refine zn ?_)
   all_goals
    first
    | (refine zct ?_
       all_goals (refine Zao ?_)
       all_goals (exact ⟨_,rfl,rfl,[],Rep.LR.nil _ _ _,hS.nil⟩))
   all_goals (refine Zaa ?_; fail "no law for buildSlice"; refine zm ?_; refine za Q5Q Qak hS ?_; intro vp1 w1 css1 hls1 hv1 hS; have hS := hS.ns; refine Zai ?_; exact ⟨_, rfl, rfl, [], Rep.LR.nil _ _ _, hS.nil⟩)
 | some a=>
   have hn:tyR.ls cx [] []:=Rep.LR.nil _ _ _
   all_goals refine lgo tyD Tryz.func203 ?_
   all_goals (refine Zba ?_;refine Q69 (e:=115) (by kernel_rfl) hv rfl ?_;refine zn ?_)
   all_goals refine zcf ?_
   all_goals (refine zsk ?_;refine Zaa ?_;refine QbE Q5Q ?_;intro v1 w1 hf1 hs1 hz1;have hS:=hS.new (r:=sl 115 3 v1 []) hs1 hf1 (fun b hb=> Nat.le_of_eq hb.symm);refine zm ?_;(first|(refine za Q5Q Qak hS ?_;intro vp1 w1 css1 hls1 hv1 hS;have hS:=hS.ns)|(refine zak Q5Q Qak hS ?_;intro vp1 w1 css1 hls1 hv1 hS;have hS:=hS.ns));refine Zai ?_;exact ⟨_,rfl,by assumption,_,hls1,hS.sp⟩)
theorem JP.shut {v:Value}(hS:St cx w (blk j.sp 258 (j.cells vl)::blk j.hp 296 [v]::sl 4 1 v (h.map QF)::sl 115 3 vl css::L)):St cx w (j.res h vl css::L):=by
 have h1:St cx w (Q9P j.hp h::sl 115 3 vl css::blk j.sp 258 (j.cells vl)::L):=Q3f (hS.perm (by
  refine List.Perm.trans (List.Perm.swap _ _ _) (List.Perm.cons _ ?_)
  refine List.Perm.trans (List.Perm.swap _ _ _) (List.Perm.cons _ ?_)
  exact List.Perm.swap _ _ _))
 exact St.star' (St.mv1 (St.star' h1))
theorem jNew_c {f b:Int}{cs:List Value}(hm:m.Short) (hx:modR.at cx cs m) (hS:St cx w L):
 Rets Tryz.prog QaR [.agg ⟨cs⟩, .int .i64 f, .int .i64 b] w fun u w'=>
  (m.fault.1≠0∧u= .tuple #[.pointer none,fltV m.fault]∧St cx w' L)∨
  (m.fault.1=0∧((f < 0∨m.funcs.length≤f)∨∃fn,m.funcs[f.toNat]?=some fn∧(b < 0∨fn.blocks.length≤b))∧u= .tuple #[.pointer none,fltV (1, -1)]∧St cx w' L)∨
  (∃(fn:Fun) (y:Block) (j:JP) (c':Cx) (vl:Value) (css:List (List Value)),m.fault.1=0∧0≤f∧0≤b∧m.funcs[f.toNat]?=some fn∧fn.blocks[b.toNat]?=some y∧u= .tuple #[.pointer (some ⟨j.sp,0,none⟩),fltV (0,0)]∧cx.Le c'∧j.Fits c' m∧j.f=fn∧tyR.ls c' css y.params∧St c' w' (j.res (Q1i y).h vl css::L)):=by
 obtain ⟨vf,rfl,hf⟩:=Q21 hx
 obtain ⟨a0,n0,rfl⟩:=Rep.SR.shape hf
 have hlf:=hf.len
 all_goals refine lgo tyD Tryz.func147 ?_
 all_goals (refine Zaq ?_;intro p3 w1 hS;refine zm ?_;refine Ql hS ?_;intro p7 w1 hS;refine ZbH ?_;refine zv hS ?_;refine zR1 (c:=QcZ hm hx hS) (h:=?_);rintro v1 w1 ⟨rfl,hS⟩;unfold fltV;refine Ql hS ?_;intro p8 w1 hS;refine zsn hS ?_;intro w1 hS;have hS:=hS.ns;refine ZaE ?_;refine zf0 ?_;refine zl hS ?_)
 all_goals (first|(refine Q11 ?_)|(refine Q18 ?_)|(refine Qu rfl rfl (fun hc=> ?_) (fun hc=> ?_)))
 all_goals (refine zn ?_)
 all_goals
  first
  | (refine zct ?_
     all_goals (refine Qv ?_;refine zD (ci 3 [2]) ?_;have hS:=hS.drew;refine zv hS ?_;refine zm ?_;refine zsn hS ?_;intro w1 hS;have hS:=hS.ns;refine Zbb ?_;refine Q37 vw vw (Qa (n:=2) (by kernel_rfl) (by kernel_rfl) (hS.blkAt fd) (by rfl) (by rfl)) ?_)
     all_goals (exact ⟨_,rfl, .inl ⟨by omega,rfl,hS.sp⟩⟩))
  | (refine zcf ?_
     all_goals refine zsk ?_)
 refine zML hS [1,2,3,7] (fun A LL ρ' w'=> Has ρ' A∧Has ρ' []∧(m.fault.1=0)∧(0≤f∧f < m.funcs.length∧∃fn,m.funcs[f.toNat]?=some fn∧0≤b∧b < fn.blocks.length)∧St cx w' (LL)) ?_ ?_
 · skip
   all_goals (refine Zab ?_)
   all_goals (first|(refine Q1k ?_)|(refine Q1w ?_)|(refine QA rfl rfl (fun hc=> ?_) (fun hc=> ?_)))
   all_goals (refine Zak ?_;refine Zap ?_;refine Yaj ?_)
   all_goals (first|refine zgn ?_|(refine zgy ?_;(first|(refine Q2w ?_)|(refine Q3k ?_)|(refine Q1I rfl rfl (fun hc=> ?_) (fun hc=> ?_)))))
   all_goals (refine Zbt ?_)
   all_goals (first|refine zgn ?_|(refine zgy ?_;(first|(refine Q1k ?_)|(refine Q1w ?_)|(refine QA rfl rfl (fun hc=> ?_) (fun hc=> ?_)))))
   all_goals (refine Zbt ?_;refine Zap ?_;refine Yaa ?_;(first|refine zgn ?_|(refine zgy ?_;refine Yam ?_;intro b1 o1 cs1 x1 hat1 hx1 he1;obtain ⟨vp1,vr1,vb1,rfl,hp1,hr1,hb1⟩:=QM he1));refine Yag ?_;refine Yav ?_;refine Yaj ?_)
   all_goals (first|refine zgn ?_|(refine zgy ?_;(first|(refine Q2w ?_)|(refine Q3k ?_)|(refine Q1I rfl rfl (fun hc=> ?_) (fun hc=> ?_)))))
   all_goals (refine ZaL ?_;skip)
   all_goals
    first
    | (refine zcf ?_
       all_goals refine zsk ?_)
    | (refine zct ?_
       all_goals (refine Zaa ?_;refine zb2 [_,_] ?_;refine zm ?_;refine zsn hS ?_;intro w1 hS;have hS:=hS.ns;refine Zbb ?_;refine Q37 vw vw (Qa (n:=2) (by kernel_rfl) (by kernel_rfl) (hS.blkAt fd) (by rfl) (by rfl)) ?_)
       all_goals (first|(exact ⟨_,rfl, .inl ⟨by omega,rfl,hS.sp⟩⟩)|(exact ⟨_,rfl, .inr (.inl ⟨by omega, .inl (.inl (by omega)),rfl,hS.sp⟩)⟩)|(exact ⟨_,rfl, .inr (.inl ⟨by omega, .inl (.inr (by omega)),rfl,hS.sp⟩)⟩)|(exact ⟨_,rfl, .inr (.inl ⟨by omega, .inr ⟨_,List.getElem?_eq_getElem (i:=f.toNat) (by omega), .inl (by omega)⟩,rfl,hS.sp⟩)⟩)|(exact ⟨_,rfl, .inr (.inl ⟨by omega, .inr ⟨x1,hx1, .inr (by omega)⟩,rfl,hS.sp⟩)⟩)))
   all_goals (exact ⟨zh,zh,by omega,by refine ⟨by omega,by omega,x1,hx1,by omega,by omega⟩,hS.sp⟩)
 rintro ρ w1 ⟨hA,hρ,hz,hb,hS⟩;obtain ⟨ρ,rfl⟩:=env2 hA hρ
 all_goals (refine Zaa ?_;refine zv hS ?_;refine zR1 (c:=QaG hm hx hS) (h:=?_);rintro v1 w1 ⟨c1,ds,rfl,hle,hm2,hS⟩;obtain ⟨vm,rfl,hf2⟩:=Q21 hm2;obtain ⟨hb1,hb2,fn,hfn,hb3,hb4⟩:=hb;refine zb1 [_,_,_,_,_,_,_] ?_;refine zb hS ?_;intro p45 w1 hS;refine Zad ?_;skip;refine Zas ?_;refine znc ?_;refine zf0 ?_;refine Yac ?_;refine zl hS ?_;refine zm ?_;refine Yam ?_;intro b2 o2 cs2 x2 hat2 hx2 he2;obtain ⟨vp2,vr2,vb2,rfl,hp2,hr2,hb2⟩:=QM he2;refine Yai ?_;refine znc ?_;refine zf0 ?_;(first|(refine zsn hS ?_;intro w1 hS;have hS:=hS.ns)|(refine zsm hS ?_;intro w1 hS;have hS:=hS.ns));refine zn ?_;obtain rfl:fn=x2:=Option.some.inj (hfn.symm.trans hx2);have hsf:=hm.2 fn (List.mem_of_getElem? hfn);refine ZbG ?_;refine zf0 ?_;refine Yac ?_;refine zl hS ?_;refine zm ?_)
 all_goals (refine Yam ?_;intro b3 o3 cs3 x3 hat3 hx3 he3;obtain ⟨vp3,vc3,ve31,ve32,ve33,ve34,ve35,rfl,hp3,hc3,he31,he32,he33,he34,he35⟩:=Q23 he3;refine ZaP ?_;intro p10 w1 hS;refine zsn hS ?_;intro w1 hS;have hS:=hS.ns;refine ZaH ?_;refine zf0 ?_;refine zl hS ?_;refine zR1 (c:=new_u hS) (h:=?_);rintro v1 w1 ⟨hp,vh,rfl,hS⟩;refine znc ?_;refine zf0 ?_;refine zst hS ?_;intro w1 hS;have hS:=hS.ns;refine ZaH ?_;refine zf0 ?_;refine zl hS ?_;refine zR1 (c:=clonet_c hp3 (by have:=(hsf.2.2.2 x3 (List.mem_of_getElem? hx3)).1.1;omega) hS) (h:=?_);rintro v1 w1 ⟨hvl,css4,hls4,hS⟩;refine znc ?_;refine zf0 ?_;refine zst hS ?_;intro w1 hS;have hS:=hS.ns;refine ZaH ?_;refine zb0 [_,_] ?_;refine zm ?_;refine zsn hS ?_;intro w1 hS;have hS:=hS.ns;refine zn ?_)
 all_goals (refine zr ?_;refine Q37 vw vw (Qa (n:=2) (by kernel_rfl) (by kernel_rfl) (hS.blkAt fd) (by rfl) (by rfl)) ?_;(first|(exact ⟨_,rfl, .inl ⟨by omega,rfl,hS.sp⟩⟩)|(exact ⟨_,rfl, .inr (.inl ⟨by omega, .inl (.inl (by omega)),rfl,hS.sp⟩)⟩)|(exact ⟨_,rfl, .inr (.inl ⟨by omega, .inl (.inr (by omega)),rfl,hS.sp⟩)⟩)|(exact ⟨_,rfl, .inr (.inl ⟨by omega, .inr ⟨_,List.getElem?_eq_getElem (i:=f.toNat) (by omega), .inl (by omega)⟩,rfl,hS.sp⟩)⟩)|(exact ⟨_,rfl, .inr (.inl ⟨by omega, .inr ⟨x1,hx1, .inr (by omega)⟩,rfl,hS.sp⟩)⟩)|(exact ⟨_,rfl, .inr (.inr ⟨fn,x3,⟨p45,hp,fn,vm,vp2,vr2,vb2⟩,c1,_,css4,hz,by omega,by omega,hfn,hx3,rfl,hle,⟨hf2,hp2,hr2,hb2⟩,rfl,hls4,JP.shut (v:=vh) hS.sp⟩)⟩)))
end Go.Proofs.YteflkifmgnpbhaaGreat
namespace Go.Proofs.YteflkifmgnpbhaaGreat
open Go.Lir
set_option maxHeartbeats 1000000
attribute [local irreducible] LC.wp Q0 Qh Qc retQ Qw LO.wp Q3 Calls
set_option linter.unusedSimpArgs false
set_option linter.unusedVariables false
end Go.Proofs.YteflkifmgnpbhaaGreat
namespace Go.Proofs.YteflkifmgnpbhaaGreat
open Go.Lir
set_option maxHeartbeats 1000000
attribute [local irreducible] LC.wp Q0 Qh Qc retQ Qw LO.wp Q3 Calls
set_option linter.unusedSimpArgs false
set_option linter.unusedVariables false
variable {cx:Cx}{w:World}{L:List Res}{i:Nat}
abbrev Q8X (vc:Value):List Value:=[.int .i64 0, .slice none 0 0,vc, .int .i64 3, .int .i64 0, .int .i64 0, .slice none 0 0, .slice none 0 0, .int .i64 0, .slice none 0 0, .slice none 0 0, .slice none 0 0]
theorem flt_int2:Int2 Tryz.prog 29:=int2_of (by kernel_rfl)
theorem least_c (hS:St cx w L):Rets Tryz.prog QgO [] w fun u w'=>∃a b,u= .agg ⟨[.slice (some ⟨a,0,none⟩) 1 1]⟩∧St cx w' (blk a 95 [.int .i64 0, .slice none 0 0, .slice none 0 0, .slice (some ⟨b,0,none⟩) 1 1]::blk b 92 (Q8X (.slice none 0 0))::L):=by
 all_goals refine lgo tyD Tryz.func51 ?_
 all_goals (refine Zbv ?_;intro p0 w1 hS;refine ZaE ?_;refine zb1 [_,_,_,_,_,_,_,_,_] ?_;refine zb1 [_,_,_,_,_,_,_,_,_,_,_,_] ?_;refine Q2c (cs:=[_,_,_,_,_,_,_,_,_,_,_,_]) vw (by rfl) ?_;intro q1 w1 hb1 hf1 _ hk1;have hS:=hS.laid hb1 hf1 hk1;refine zb1 [_,_,_,_] ?_;refine Q2c (cs:=[_,_,_,_]) vw (by rfl) ?_;intro q2 w1 hb1 hf1 _ hk1;have hS:=hS.laid hb1 hf1 hk1;refine zb1 [_] ?_;refine zsn hS ?_;intro w1 hS;have hS:=hS.ns;refine Zbb ?_;refine Q25 vw (Qa (n:=1) (by kernel_rfl) (by kernel_rfl) (hS.blkAt fd) (by rfl) (by rfl)) ?_;exact ⟨_,rfl,q2,q1,rfl,hS.sp⟩)
end Go.Proofs.YteflkifmgnpbhaaGreat
