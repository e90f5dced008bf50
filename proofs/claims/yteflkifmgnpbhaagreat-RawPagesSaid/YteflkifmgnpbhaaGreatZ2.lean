/- Lemmas of the proof, part 2: what the functions of the program do (contracts), and what follows. -/
import Derived.Test.YteflkifmgnpbhaaGreatZ1
import Derived.Laws.IdiomStrings
import Derived.Lib.Strings
import Derived.Test.YteflkifmgnpbhaaGreatProg
import Derived.Recover
namespace Go.Lir
inductive Ty where
 | mk:Int→Int→List Ty→Ty
def Ty.kind:Ty→Int| .mk k _ _=> k
def Ty.r:Ty→Int| .mk _ r _=> r
def Ty.l:Ty→List Ty| .mk _ _ l=> l
def tyRd (H:Heap) (F:Nat→Prop):Nat→List Value→Ty→Prop
 | 0,_,_=> False
 | n+1,cs,t=>∃v css,cs=[.int .i64 t.kind, .int .i64 t.r,v]∧SlR H 3 v F css∧css.length=t.l.length∧t.l.length≤140737488355328∧∀(m:Nat) (x:Ty),t.l[m]?=some x→∃d,css[m]?=some d∧tyRd H F n d x
theorem tyRd.len {H:Heap}{F:Nat→Prop}:∀{n:Nat}{cs:List Value}{t:Ty},tyRd H F n cs t→cs.length=3
 | 0,_,_,h=> h.elim
 | _+1,_,_,h=> by obtain ⟨_,_,rfl,_⟩:=h;rfl
theorem tyRd.more {H:Heap}{F:Nat→Prop}:∀{n m:Nat}{cs:List Value}{t:Ty},n≤m→tyRd H F n cs t→tyRd H F m cs t
 | 0,_,_,_,_,h=> h.elim
 | n+1,0,_,_,hm,_=> by omega
 | n+1,m+1,_,_,hm,h=> by
   obtain ⟨v,css,h1,h2,h3,h4,h5⟩:=h
   exact ⟨v,css,h1,h2,h3,h4,fun i x hx=> by obtain ⟨d,h6,h7⟩:=h5 i x hx;exact ⟨d,h6,h7.more (by omega)⟩⟩
theorem tyRd.turn {H H':Heap}{F G:Nat→Prop}(hs:∀v css,SlR H 3 v F css→SlR H' 3 v G css):∀{n:Nat}{cs:List Value}{t:Ty},tyRd H F n cs t→tyRd H' G n cs t
 | 0,_,_,h=> h.elim
 | n+1,_,_,h=> by
   obtain ⟨v,css,h1,h2,h3,h4,h5⟩:=h
   exact ⟨v,css,h1,hs _ _ h2,h3,h4,fun i x hx=> by obtain ⟨d,h6,h7⟩:=h5 i x hx;exact ⟨d,h6,h7.turn hs⟩⟩
def TyK (c:Cx) (cs:List Value) (t:Ty):Prop:=∃n,tyRd c.H0 c.K n cs t
theorem TyK.up {c c':Cx}{cs:List Value}{t:Ty}(h:TyK c cs t) (hle:c.Le c'):TyK c' cs t:=by
 obtain ⟨n,h⟩:=h;exact ⟨n,h.turn fun v css hs=> FzS.up hs hle⟩
theorem QbY {α:Type}{xs:List α}{R:Nat→α→Prop}(hm:∀n m x,n≤m→R n x→R m x) (h:∀x∈xs,∃n,R n x):∃n,∀x∈xs,R n x:=by
 induction xs with
 | nil=> exact ⟨0,by simp⟩
 | cons x xs ih=>
   obtain ⟨n,hn⟩:=ih fun y hy=> h y (List.mem_cons_of_mem _ hy)
   obtain ⟨m,hx⟩:=h x (List.mem_cons_self ..)
   refine ⟨max n m,fun y hy=> ?_⟩
   rcases List.mem_cons.1 hy with rfl|hy
   · exact hm _ _ _ (Nat.le_max_right ..) hx
   · exact hm _ _ _ (Nat.le_max_left ..) (hn y hy)
theorem TyK.mk {c:Cx}{k r:Int}{v:Value}{css:List (List Value)}{l:List Ty}(hs:FzS c 3 v css) (hl:css.length=l.length) (hm:l.length≤140737488355328) (h:∀(m:Nat) (x:Ty),l[m]?=some x→∃d,css[m]?=some d∧TyK c d x):TyK c [.int .i64 k, .int .i64 r,v] (.mk k r l):=by
 obtain ⟨n,hn⟩:=QbY (xs:=List.range l.length) (R:=fun n m=>∀x,l[m]?=some x→∃d,css[m]?=some d∧tyRd c.H0 c.K n d x) (fun n m i hnm hr x hx=> by obtain ⟨d,h1,h2⟩:=hr x hx;exact ⟨d,h1,h2.more hnm⟩) (fun m hm=> by
  have hlt:=List.mem_range.1 hm
  obtain ⟨d,h1,n,h2⟩:=h m _ (List.getElem?_eq_getElem hlt)
  exact ⟨n,fun x hx=> by rw [List.getElem?_eq_getElem hlt] at hx;cases hx;exact ⟨d,h1,h2⟩⟩)
 exact ⟨n+1,v,css,rfl,hs,hl,hm,fun m x hx=> hn m (List.mem_range.2 (List.getElem?_eq_some_iff.1 hx).1) x hx⟩
theorem TyK.out {c:Cx}{cs:List Value}{t:Ty}(h:TyK c cs t):∃v css,cs=[.int .i64 t.kind, .int .i64 t.r,v]∧FzS c 3 v css∧css.length=t.l.length∧t.l.length≤140737488355328∧∀(m:Nat) (x:Ty),t.l[m]?=some x→∃d,css[m]?=some d∧TyK c d x:=by
 obtain ⟨n,h⟩:=h
 cases n with
 | zero=> exact h.elim
 | succ n=>
   obtain ⟨v,css,h1,h2,h3,h4,h5⟩:=h
   exact ⟨v,css,h1,h2,h3,h4,fun m x hx=> by obtain ⟨d,h6,h7⟩:=h5 m x hx;exact ⟨d,h6,n,h7⟩⟩

theorem Qdv {P:Program}{T e:TypeId}{α:Type}{Hd:Type}{enc:TypeId×Value→Hd}{w:World}{fuel es:Nat}{cs:List Value}{y:DataW Hd×List MemPlace}{rd:List Value→α→Prop}(hsz:P.cellsOf e=es) (hes:0 < es) (hlen:∀d x,rd d x→d.length=es)
 (ht:P.underlying T=some (.slice e)) (h:DataW.trod enc P w 0 (fun _=> true) true fuel T cs=some y) (hby:0 < P.bytesOf e) (hfit:Fits P T y.1)
 (hel:∀(n:Nat) (d:List Value) (z:DataW Hd×List MemPlace),DataW.trod enc P w 0 (fun _=> true) true n e d=some z→Fits P e z.1→SizeOf.sizeOf z.1 < SizeOf.sizeOf y.1→∃x,rd d x):
 ∃(xs:List α) (v:Value) (css:List (List Value)),cs=[v]∧SlR w.heap es v (fun _=> True) css∧css.length=xs.length∧xs.length≤140737488355328∧∀(m:Nat) (x:α),xs[m]?=some x→∃d,css[m]?=some d∧rd d x:=by
 rcases Go.Deep.open_slice ht h with ⟨rfl,_⟩|⟨a,len,cap,m,n,D,Pl,rfl,_,hl,hm,hmm,hy,hi⟩
 · exact ⟨[], .slice none 0 0,[],rfl,⟨by simp,none,0,rfl,Nat.le_refl _, .inl rfl⟩,rfl,by simp,by simp⟩
 · have hmc:m=cap:=by simpa using hmm
   subst hmc
   have hfit':=hfit
   rw [hy] at hfit'
   obtain ⟨hlen0,hel0⟩:=Q94 ht hfit' hby
   simp only [List.length_map,List.length_range] at hlen0
   have hel2:∀i,i < len→∃(d:List Value) (x:α),w.cells? 0 (a.add (i*es)) es=some d∧rd d x:=by
    intro i hi'
    obtain ⟨d,h1,h2⟩:=hi i (by omega)
    rw [hsz] at h1
    obtain ⟨x,hx⟩:=hel n d _ h2 (hel0 _ (List.mem_map.2 ⟨i,List.mem_range.2 hi',rfl⟩)) (by
     rw [hy]
     have hmem:D i∈(List.range len).map D:=List.mem_map.2 ⟨i,List.mem_range.2 hi',rfl⟩
     have:=List.sizeOf_lt_of_mem hmem
     simp only [DataW.slice.sizeOf_spec]
     omega)
    exact ⟨d,x,h1,hx⟩
   have build:∀n,n≤len→∃(css:List (List Value)) (xs:List α),css.length=n∧xs.length=n∧
    ∀m,m < n→∃d x,css[m]?=some d∧xs[m]?=some x∧w.cells? 0 (a.add (m*es)) es=some d∧rd d x:=by
    intro n
    induction n with
    | zero=> intro _;exact ⟨[],[],rfl,rfl,fun m hm=> absurd hm (by omega)⟩
    | succ n ih=>
      intro hn
      obtain ⟨css,xs,h1,h2,h3⟩:=ih (by omega)
      obtain ⟨d,x,h4,h5⟩:=hel2 n (by omega)
      refine ⟨css++[d],xs++[x],by simp [h1],by simp [h2],fun m hm=> ?_⟩
      by_cases hmn:m=n
      · subst hmn
        exact ⟨d,x,by rw [List.getElem?_append_right (by omega),h1];simp,by rw [List.getElem?_append_right (by omega),h2];simp,h4,h5⟩
      · obtain ⟨d',x',g1,g2,g3,g4⟩:=h3 m (by omega)
        exact ⟨d',x',by rw [List.getElem?_append_left (by omega)];exact g1,by rw [List.getElem?_append_left (by omega)];exact g2,g3,g4⟩
   obtain ⟨css,xs,h1,h2,h3⟩:=build len (Nat.le_refl _)
   refine ⟨xs, .slice (some a) len m,css,rfl,⟨?_,some a,m,by rw [h1],by omega,?_⟩,by omega,by omega,?_⟩
   · intro d hd
     obtain ⟨i,hi'⟩:=List.mem_iff_getElem?.1 hd
     have hlt:=(List.getElem?_eq_some_iff.1 hi').1
     obtain ⟨d',x',g1,g2,g3,g4⟩:=h3 i (by omega)
     rw [hi'] at g1
     simp only [Option.some.injEq] at g1
     subst g1
     exact hlen _ _ g4
   · rcases Nat.eq_zero_or_pos len with h0|h0
     · exact .inl (List.eq_nil_of_length_eq_zero (by omega))
     · obtain ⟨d0,x0,_,_,g3,_⟩:=h3 0 h0
       obtain ⟨hsp,hbl,_⟩:=Q7j g3 hes
       have ha0:a.add (0*es)=a:=by rw [Nat.zero_mul];rfl
       rw [ha0] at hsp hbl
       obtain ⟨b,o,s⟩:=a
       simp only at hsp
       subst hsp
       refine .inr ⟨b,o,rfl,trivial,hbl,fun i d hd=> ?_⟩
       have hlt:=(List.getElem?_eq_some_iff.1 hd).1
       obtain ⟨d',x',g1,g2,g3,g4⟩:=h3 i (by omega)
       rw [hd] at g1
       simp only [Option.some.injEq] at g1
       subst g1
       rw [Q1r] at g3
       exact (Q7j g3 hes).2.2
   · intro i x hx
     have hlt:=(List.getElem?_eq_some_iff.1 hx).1
     obtain ⟨d',x',g1,g2,g3,g4⟩:=h3 i (by omega)
     rw [hx] at g2
     simp only [Option.some.injEq] at g2
     subst g2
     exact ⟨d',g1,g4⟩
theorem Q4f {Hd:Type}{enc:TypeId×Value→Hd}{P:Program}{w:World}{T:TypeId}{fuel:Nat}{cs:List Value}{y:DataW Hd×List MemPlace}(h:DataW.trod enc P w 0 (fun _=> true) true fuel T cs=some y)
 {i o s:Nat}{t:TypeId}(hf:fieldAt P T i=some (o,s,t)) (hfit:Fits P T y.1):cs.length=P.cellsOf T∧∃n z,DataW.trod enc P w 0 (fun _=> true) true n t ((cs.drop o).take s)=some z∧Fits P t z.1∧SizeOf.sizeOf z.1 < SizeOf.sizeOf y.1:=by
 unfold fieldAt at hf
 split at hf
 · rename_i fs hu
   simp only [Option.map_eq_some_iff,Prod.mk.injEq] at hf
   obtain ⟨f,hf,rfl,rfl,rfl⟩:=hf
   obtain ⟨xs,n,_,hy,hl,hx,hall⟩:=DataW.trod_struct hu h
   have:=hall i f hf
   have hlt:=(Array.getElem?_eq_some_iff.1 hf).1
   refine ⟨hl,n,xs[i]'(by omega),?_,?_,?_⟩
   · rw [this,List.getElem?_eq_getElem (by omega)]
   · rw [hy] at hfit
     exact Q8i hu hfit hf (by rw [List.getElem?_map,List.getElem?_eq_getElem (by omega)];rfl)
   · rw [hy]
     have hmem:(xs[i]'(by omega)).1∈xs.map (·.1):=List.mem_map.2 ⟨_,List.getElem_mem _,rfl⟩
     have:=List.sizeOf_lt_of_mem hmem
     simp only [DataW.agg.sizeOf_spec]
     omega
 · cases hf
inductive Ty.InR:Ty→Prop where
 | mk {k r:Int}{l:List Ty}:(Lit.int .i64 k).wf=true→(Lit.int .i64 r).wf=true→(∀x∈l,x.InR)→Ty.InR (.mk k r l)
theorem Qeu {n:Int}(h:(Lit.int .i64 n).wf=true): -9223372036854775808≤n∧n≤9223372036854775807:=by
 simp [Lit.wf,IntKind.min,IntKind.max,IntKind.bits,IntKind.signed] at h;omega
theorem Ty.InR.parts {k r:Int}{l:List Ty}(h:(Ty.mk k r l).InR):(-9223372036854775808≤k∧k≤9223372036854775807)∧(-9223372036854775808≤r∧r≤9223372036854775807)∧∀x∈l,x.InR:=by
 cases h with|mk h1 h2 h3=> exact ⟨Qeu h1,Qeu h2,h3⟩
theorem Qbv {P:Program}{T TL t0 t1:TypeId}(h0:fieldAt P T 0=some (0,1,t0)) (h1:fieldAt P T 1=some (1,1,t1)) (h2:fieldAt P T 2=some (2,1,TL)) (hi0:P.underlying t0=some (.int .i64)) (hi1:P.underlying t1=some (.int .i64)) (hT:P.cellsOf T=3) (hTL:P.underlying TL=some (.slice T)) (hby:0 < P.bytesOf T)
 {Hd:Type}{enc:TypeId×Value→Hd}{w:World}:∀(N fuel:Nat) (cs:List Value) (y:DataW Hd×List MemPlace),DataW.trod enc P w 0 (fun _=> true) true fuel T cs=some y→Fits P T y.1→SizeOf.sizeOf y.1 < N→∃t n,tyRd w.heap (fun _=> True) n cs t∧t.InR
 | 0,_,_,_,_,_,hN=> by omega
 | N +1,fuel,cs,y,h,hfit,hN=> by
   obtain ⟨hl,n0,z0,g0,_⟩:=Q4f h h0 hfit
   obtain ⟨_,n1,z1,g1,_⟩:=Q4f h h1 hfit
   obtain ⟨_,n2,z2,g2,u2,hz⟩:=Q4f h h2 hfit
   rw [hT] at hl
   obtain ⟨a,b,v,hc⟩:∃a b v,cs=[a,b,v]:=by
    match cs,hl with
    | [a,b,v],_=> exact ⟨a,b,v,rfl⟩
   subst hc
   obtain ⟨k,hk,_,wk⟩:=DataW.trod_int hi0 g0
   obtain ⟨r,hr,_,wr⟩:=DataW.trod_int hi1 g1
   have hk2:[a]=[Value.int .i64 k]:=hk
   have hr2:[b]=[Value.int .i64 r]:=hr
   clear hk hr
   simp only [List.cons.injEq,and_true] at hk2 hr2
   have g3:DataW.trod enc P w 0 (fun _=> true) true n2 TL [v]=some z2:=g2
   clear g2
   obtain ⟨xs,v',css,hv,s1,s2,s3,s4⟩:=Qdv (rd:=fun d (x:Nat×Ty)=> tyRd w.heap (fun _=> True) x.1 d x.2∧x.2.InR) hT (by decide) (fun d x hx=> hx.1.len) hTL g3 hby u2 (fun n d z hz1 hz3 hz2=> by
    obtain ⟨t,n,ht,hr⟩:=Qbv h0 h1 h2 hi0 hi1 hT hTL hby N _ d z hz1 hz3 (by omega)
    exact ⟨(n,t),ht,hr⟩)
   simp only [List.cons.injEq,and_true] at hv
   subst hv hk2 hr2
   obtain ⟨n,hn⟩:=QbY (xs:=xs) (R:=fun n x=> x.1≤n) (fun n m x h1 h2=> Nat.le_trans h2 h1) (fun x _=> ⟨x.1,Nat.le_refl _⟩)
   refine ⟨.mk k r (xs.map (·.2)),n+1,⟨v,css,rfl,s1,by simp [Ty.l,s2],by simpa [Ty.l] using s3,fun m x hx=> ?_⟩, .mk wk wr fun x hx=> ?_⟩
   rotate_left
   · obtain ⟨p,hp,rfl⟩:=List.mem_map.1 hx
     obtain ⟨m,hm⟩:=List.mem_iff_getElem?.1 hp
     obtain ⟨d,d1,d2⟩:=s4 m p hm
     exact d2.2
   simp only [Ty.l,List.getElem?_map,Option.map_eq_some_iff] at hx
   obtain ⟨p,hp,rfl⟩:=hx
   obtain ⟨d,d1,d2⟩:=s4 m p hp
   exact ⟨d,d1,d2.1.more (hn p (List.mem_of_getElem? hp))⟩
def Cod.ty {P:Program}{T TL t0 t1:TypeId}(h0:fieldAt P T 0=some (0,1,t0)) (h1:fieldAt P T 1=some (1,1,t1)) (h2:fieldAt P T 2=some (2,1,TL)) (hi0:P.underlying t0=some (.int .i64)) (hi1:P.underlying t1=some (.int .i64)) (hT:P.cellsOf T=3) (hTL:P.underlying TL=some (.slice T)) (hby:decide (0 < P.bytesOf T)=true):Cod P T Ty where
 es:=3
 rd:=fun H cs t=>∃n,tyRd H (fun b=> b < H.size) n cs t
 size:=hT
 len:=by rintro _ _ _ ⟨n,h⟩;exact h.len
 stay:=by
  rintro H H' cs t ⟨n,h⟩ hH
  exact ⟨n,h.turn fun v css hs=> SlR.mono (hs.of_same fun b hb _=> hH b hb) fun b hb _=> hb⟩
 open_:=fun enc w fuel cs y h hfit=> by
  obtain ⟨t,n,ht,_⟩:=Qbv h0 h1 h2 hi0 hi1 hT hTL (of_decide_eq_true hby) (SizeOf.sizeOf y.1+1) fuel cs y h hfit (by omega)
  exact ⟨t,n,ht.turn fun v css hs=> SlR.mono hs fun b hb _=> hb⟩
def Cod.tyInt {P:Program}{T TL t0 t1:TypeId}(h0:fieldAt P T 0=some (0,1,t0)) (h1:fieldAt P T 1=some (1,1,t1)) (h2:fieldAt P T 2=some (2,1,TL)) (hi0:P.underlying t0=some (.int .i64)) (hi1:P.underlying t1=some (.int .i64)) (hT:P.cellsOf T=3) (hTL:P.underlying TL=some (.slice T)) (hby:decide (0 < P.bytesOf T)=true):Cod P T Ty where
 es:=3
 rd:=fun H cs t=> (∃n,tyRd H (fun b=> b < H.size) n cs t)∧t.InR
 size:=hT
 len:=by rintro _ _ _ ⟨⟨n,h⟩,_⟩;exact h.len
 stay:=by
  rintro H H' cs t ⟨⟨n,h⟩,hr⟩ hH
  exact ⟨⟨n,h.turn fun v css hs=> SlR.mono (hs.of_same fun b hb _=> hH b hb) fun b hb _=> hb⟩,hr⟩
 open_:=fun enc w fuel cs y h hfit=> by
  obtain ⟨t,n,ht,hr⟩:=Qbv h0 h1 h2 hi0 hi1 hT hTL (of_decide_eq_true hby) (SizeOf.sizeOf y.1+1) fuel cs y h hfit (by omega)
  exact ⟨t,⟨n,ht.turn fun v css hs=> SlR.mono hs fun b hb _=> hb⟩,hr⟩
theorem TyK.top {w:World}{cs:List Value}{t:Ty}(h:∃n,tyRd w.heap (fun b=> b < w.heap.size) n cs t):TyK (Cx.top w) cs t:=h
end Go.Lir
namespace Go.Lir
structure Fld (P:Program) (T:TypeId) (α:Type) where
 rd:Heap→List Value→α→Prop
 stay:∀(H H':Heap) cs x,rd H cs x→(∀b,b < H.size→H'[b]?=H[b]?)→rd H' cs x
 open_:∀{Hd:Type}(enc:TypeId×Value→Hd) (w:World) (fuel:Nat) (cs:List Value) (y:DataW Hd×List MemPlace),DataW.trod enc P w 0 (fun _=> true) true fuel T cs=some y→Fits P T y.1→∃x,rd w.heap cs x
def Fld.none {P:Program}{T:TypeId}:Fld P T Unit:=⟨fun _ _ _=> True,fun _ _ _ _ h _=> h,fun _ _ _ _ _ _ _=> ⟨(),trivial⟩⟩
def Fld.more {P:Program}{T t:TypeId}{α β:Type}{i o s:Nat}(c:Cod P t α) (h:fieldAt P T i=some (o,s,t)) (f:Fld P T β):Fld P T (α×β) where
 rd:=fun H cs x=> c.rd H ((cs.drop o).take s) x.1∧f.rd H cs x.2
 stay:=fun H H' cs x h hH=> ⟨c.stay _ _ _ _ h.1 hH,f.stay _ _ _ _ h.2 hH⟩
 open_:=fun enc w fuel cs y hy hfit=> by
  obtain ⟨_,n,z,g,u⟩:=Q7r hy h hfit
  obtain ⟨a,ha⟩:=c.open_ enc w _ _ _ g u
  obtain ⟨b,hb⟩:=f.open_ enc w _ _ _ hy hfit
  exact ⟨(a,b),ha,hb⟩
def Fld.cod {P:Program}{T t:TypeId}{α:Type}{o s:Nat}(f:Fld P T α) (h0:fieldAt P T 0=some (o,s,t)) (n:Nat) (hn:P.cellsOf T=n):Cod P T α where
 es:=n
 rd:=fun H cs x=> cs.length=n∧f.rd H cs x
 size:=hn
 len:=fun _ _ _ h=> h.1
 stay:=fun H H' cs x h hH=> ⟨h.1,f.stay _ _ _ _ h.2 hH⟩
 open_:=fun enc w fuel cs y hy hfit=> by
  obtain ⟨hl,_⟩:=Q7r hy h0 hfit
  obtain ⟨a,ha⟩:=f.open_ enc w _ _ _ hy hfit
  exact ⟨a,by rw [hl,hn],ha⟩
end Go.Lir
namespace Go.Lir

theorem SlR.turn {H H':Heap}{es:Nat}{v:Value}{F G:Nat→Prop}{css:List (List Value)}(h:SlR H es v F css) (hs:∀b,F b→b < H.size→G b∧H'[b]?=H[b]?):SlR H' es v G css:=by
 obtain ⟨h0,a,cap,hv,hlc,hc|⟨b,off,ha,hF,hb,hat⟩⟩:=h
 · exact ⟨h0,a,cap,hv,hlc, .inl hc⟩
 · obtain ⟨h1,h2⟩:=hs b hF hb
   refine ⟨h0,a,cap,hv,hlc, .inr ⟨b,off,ha,h1,?_,fun m c hm=> (hat m c hm).of_same h2⟩⟩
   rcases Nat.lt_or_ge b H'.size with h|h
   · exact h
   · rw [Array.getElem?_eq_none h,Array.getElem?_eq_getElem hb] at h2;cases h2

structure Rep (α:Type) where
 es:Nat
 pos:0 < es
 R:Heap→(Nat→Prop)→List Value→α→Prop
 len:∀{H:Heap}{K:Nat→Prop}{cs:List Value}{x:α},R H K cs x→cs.length=es
 one:∀{H:Heap}{K:Nat→Prop}{cs:List Value}{x:α},R H K cs x→∀u∈cs,oneC u=true
 turn:∀{H H':Heap}{K K':Nat→Prop}{cs:List Value}{x:α},R H K cs x→(∀b,K b→b < H.size→K' b∧H'[b]?=H[b]?)→R H' K' cs x

section
variable {α β:Type}
def Rep.LR (r:Rep α) (H:Heap) (K:Nat→Prop) (css:List (List Value)) (l:List α):Prop:=css.length=l.length∧∀(m:Nat) (x:α),l[m]?=some x→∃d,css[m]?=some d∧r.R H K d x
def Rep.SR (r:Rep α) (H:Heap) (K:Nat→Prop) (v:Value) (l:List α):Prop:=∃css,SlR H r.es v K css∧r.LR H K css l∧l.length≤140737488355328
theorem Rep.LR.turn {r:Rep α}{H H':Heap}{K K':Nat→Prop}{css:List (List Value)}{l:List α}(h:r.LR H K css l) (hs:∀b,K b→b < H.size→K' b∧H'[b]?=H[b]?):r.LR H' K' css l:=
 ⟨h.1,fun m x hx=> by obtain ⟨d,h1,h2⟩:=h.2 m x hx;exact ⟨d,h1,r.turn h2 hs⟩⟩
theorem Rep.SR.turn {r:Rep α}{H H':Heap}{K K':Nat→Prop}{v:Value}{l:List α}(h:r.SR H K v l) (hs:∀b,K b→b < H.size→K' b∧H'[b]?=H[b]?):r.SR H' K' v l:=by
 obtain ⟨css,h1,h2,h3⟩:=h
 exact ⟨css,h1.turn hs,h2.turn hs,h3⟩
theorem Rep.LR.nil (r:Rep α) (H:Heap) (K:Nat→Prop):r.LR H K [] []:=⟨rfl,by simp⟩
theorem Rep.LR.push {r:Rep α}{H:Heap}{K:Nat→Prop}{css:List (List Value)}{l:List α}{d:List Value}{x:α}(h:r.LR H K css l) (hd:r.R H K d x):r.LR H K (css++[d]) (l++[x]):=by
 refine ⟨by simp [h.1],fun m y hy=> ?_⟩
 rcases Nat.lt_or_ge m l.length with hm|hm
 · rw [List.getElem?_append_left hm] at hy
   rw [List.getElem?_append_left (by rw [h.1];exact hm)]
   exact h.2 m y hy
 · rw [List.getElem?_append_right hm] at hy
   rw [List.getElem?_append_right (by rw [h.1];exact hm),h.1]
   obtain ⟨i,hi⟩:∃i,m - l.length=i:=⟨_,rfl⟩
   rw [hi] at hy ⊢
   cases i with
   | zero=> simp only [List.getElem?_cons_zero,Option.some.injEq] at hy;subst hy;exact ⟨d,rfl,hd⟩
   | succ i=> simp at hy
theorem Rep.LR.append {r:Rep α}{H:Heap}{K:Nat→Prop}{css css2:List (List Value)}{l l2:List α}(h:r.LR H K css l) (h2:r.LR H K css2 l2):r.LR H K (css++css2) (l++l2):=by
 refine ⟨by simp [h.1,h2.1],fun m y hy=> ?_⟩
 rcases Nat.lt_or_ge m l.length with hm|hm
 · rw [List.getElem?_append_left hm] at hy
   rw [List.getElem?_append_left (by rw [h.1];exact hm)]
   exact h.2 m y hy
 · rw [List.getElem?_append_right hm] at hy
   rw [List.getElem?_append_right (by rw [h.1];exact hm),h.1]
   exact h2.2 _ y hy
theorem Rep.LR.set {r:Rep α}{H:Heap}{K:Nat→Prop}{css:List (List Value)}{l:List α}{d:List Value}{x:α}{i:Nat}(h:r.LR H K css l) (hd:r.R H K d x):r.LR H K (css.set i d) (l.set i x):=by
 refine ⟨by simp [h.1],fun m y hy=> ?_⟩
 rw [List.getElem?_set] at hy ⊢
 by_cases he:i=m
 · rw [if_pos he] at hy ⊢
   rw [h.1]
   split at hy
   · rename_i hm;rw [if_pos hm];cases hy;exact ⟨d,rfl,hd⟩
   · cases hy
 · rw [if_neg he] at hy ⊢
   exact h.2 m y hy
theorem Rep.LR.sub {r:Rep α}{H:Heap}{K:Nat→Prop}{css:List (List Value)}{l:List α}(h:r.LR H K css l) (i j:Nat):r.LR H K ((css.take j).drop i) ((l.take j).drop i):=by
 refine ⟨by simp [h.1],fun m y hy=> ?_⟩
 rw [List.getElem?_drop] at hy ⊢
 have hlt:=(List.getElem?_eq_some_iff.1 hy).1
 rw [List.length_take] at hlt
 rw [List.getElem?_take_of_lt (by omega)] at hy ⊢
 exact h.2 _ y hy
theorem Rep.LR.one {r:Rep α}{H:Heap}{K:Nat→Prop}{css:List (List Value)}{l:List α}(h:r.LR H K css l):∀c∈css,∀u∈c,oneC u=true:=by
 intro c hc
 obtain ⟨m,hm⟩:=List.mem_iff_getElem?.1 hc
 have hlt:=(List.getElem?_eq_some_iff.1 hm).1
 obtain ⟨d,h1,h2⟩:=h.2 m _ (List.getElem?_eq_getElem (by rw [←h.1];exact hlt))
 rw [hm] at h1;cases h1
 exact r.one h2
theorem Rep.LR.lens {r:Rep α}{H:Heap}{K:Nat→Prop}{css:List (List Value)}{l:List α}(h:r.LR H K css l):∀c∈css,c.length=r.es:=by
 intro c hc
 obtain ⟨m,hm⟩:=List.mem_iff_getElem?.1 hc
 have hlt:=(List.getElem?_eq_some_iff.1 hm).1
 obtain ⟨d,h1,h2⟩:=h.2 m _ (List.getElem?_eq_getElem (by rw [←h.1];exact hlt))
 rw [hm] at h1;cases h1
 exact r.len h2
theorem Rep.SR.oneC {r:Rep α}{H:Heap}{K:Nat→Prop}{v:Value}{l:List α}(h:r.SR H K v l):Go.Lir.oneC v=true:=by
 obtain ⟨css,h1,_⟩:=h;exact SlR.oneC h1
theorem Rep.SR.nil (r:Rep α) (H:Heap) (K:Nat→Prop):r.SR H K (.slice none 0 0) []:=⟨[],⟨by simp,none,0,rfl,Nat.le_refl _, .inl rfl⟩, .nil r H K,by simp⟩
theorem Rep.SR.len {r:Rep α}{H:Heap}{K:Nat→Prop}{v:Value}{l:List α}(h:r.SR H K v l):l.length≤140737488355328:=by obtain ⟨_,_,_,h⟩:=h;exact h
theorem Rep.SR.shape {r:Rep α}{H:Heap}{K:Nat→Prop}{v:Value}{l:List α}(h:r.SR H K v l):∃a c,v= .slice a l.length c:=by
 obtain ⟨css,h1,h2,_⟩:=h
 obtain ⟨a,c,hv⟩:=SlR.shape h1
 exact ⟨a,c,by rw [←h2.1];exact hv⟩

theorem Rep.SR.nil_of {r:Rep α}{H:Heap}{K:Nat→Prop}{v:Value}{l:List α}{n c:Nat}(h:r.SR H K v l) (hv:v= .slice none n c):l=[]:=by
 obtain ⟨css,⟨_,a,cap,hv2,_,hc|⟨b,off,ha,_⟩⟩,h2,_⟩:=h
 · exact List.eq_nil_of_length_eq_zero (by rw [←h2.1,hc];rfl)
 · rw [hv,ha] at hv2;simp at hv2
def Rep.lit (f:α→Value) (hf:∀x,oneC (f x)=true):Rep α where
 es:=1
 pos:=by decide
 R:=fun _ _ cs x=> cs=[f x]
 len:=by rintro _ _ _ _ rfl;rfl
 one:=by rintro _ _ _ x rfl u hu;simp at hu;subst hu;exact hf x
 turn:=fun h _=> h
def intR:Rep Int:=Rep.lit (fun n=> .int .i64 n) (fun _=> rfl)
def Rep.list (r:Rep α):Rep (List α) where
 es:=1
 pos:=by decide
 R:=fun H K cs l=>∃v,cs=[v]∧r.SR H K v l
 len:=by rintro _ _ _ _ ⟨v,rfl,_⟩;rfl
 one:=by rintro _ _ _ _ ⟨v,rfl,h⟩ u hu;simp at hu;subst hu;exact h.oneC
 turn:=by rintro _ _ _ _ _ _ ⟨v,rfl,h⟩ hs;exact ⟨v,rfl,h.turn hs⟩
def Rep.and (r:Rep α) (p:α→Prop):Rep α where
 es:=r.es
 pos:=r.pos
 R:=fun H K cs x=> r.R H K cs x∧p x
 len:=fun h=> r.len h.1
 one:=fun h=> r.one h.1
 turn:=fun h hs=> ⟨r.turn h.1 hs,h.2⟩
def tyR:Rep Ty where
 es:=3
 pos:=by decide
 R:=fun H K cs t=>∃n,tyRd H K n cs t
 len:=by rintro _ _ _ _ ⟨n,h⟩;exact h.len
 one:=by
  rintro _ _ _ _ ⟨n,h⟩
  cases n with
  | zero=> exact h.elim
  | succ n=>
    obtain ⟨v,css,rfl,h2,_⟩:=h
    intro u hu;simp at hu
    rcases hu with rfl|rfl|rfl
    · rfl
    · rfl
    · exact SlR.oneC h2
 turn:=by rintro _ _ _ _ _ _ ⟨n,h⟩ hs;exact ⟨n,h.turn fun v css hv=> hv.turn hs⟩
theorem Qt {H:Heap}{K:Nat→Prop}{cs:List Value}{t:Ty}(h:tyR.R H K cs t):∃v,cs=[.int .i64 t.kind, .int .i64 t.r,v]∧tyR.SR H K v t.l:=by
 obtain ⟨n,h⟩:=h
 cases n with
 | zero=> exact h.elim
 | succ n=>
   obtain ⟨v,css,h1,h2,h3,h4,h5⟩:=h
   exact ⟨v,h1,css,h2,⟨h3,fun m x hx=> by obtain ⟨d,h6,h7⟩:=h5 m x hx;exact ⟨d,h6,n,h7⟩⟩,h4⟩
theorem Q2P {H:Heap}{K:Nat→Prop}{k r:Int}{v:Value}{l:List Ty}(h:tyR.SR H K v l):tyR.R H K [.int .i64 k, .int .i64 r,v] (.mk k r l):=by
 obtain ⟨css,h1,h2,h3⟩:=h
 obtain ⟨n,hn⟩:=QbY (xs:=List.range l.length) (R:=fun n m=>∀x,l[m]?=some x→∃d,css[m]?=some d∧tyRd H K n d x) (fun n m i hnm hr x hx=> by obtain ⟨d,h1,h2⟩:=hr x hx;exact ⟨d,h1,h2.more hnm⟩) (fun m hm=> by
  have hlt:=List.mem_range.1 hm
  obtain ⟨d,h4,n,h5⟩:=h2.2 m _ (List.getElem?_eq_getElem hlt)
  exact ⟨n,fun x hx=> by rw [List.getElem?_eq_getElem hlt] at hx;cases hx;exact ⟨d,h4,h5⟩⟩)
 exact ⟨n+1,v,css,rfl,h1,h2.1,h3,fun m x hx=> hn m (List.mem_range.2 (List.getElem?_eq_some_iff.1 hx).1) x hx⟩

abbrev Rep.at (r:Rep α) (c:Cx) (cs:List Value) (x:α):Prop:=r.R c.H0 c.K cs x
abbrev Rep.sl (r:Rep α) (c:Cx) (v:Value) (l:List α):Prop:=r.SR c.H0 c.K v l
abbrev Rep.ls (r:Rep α) (c:Cx) (css:List (List Value)) (l:List α):Prop:=r.LR c.H0 c.K css l
theorem Cx.Le.turn {c c':Cx}(h:c.Le c'):∀b,c.K b→b < c.H0.size→c'.K b∧c'.H0[b]?=c.H0[b]?:=fun b hb _=> h.K b hb
theorem Rep.R.up {r:Rep α}{c c':Cx}{cs:List Value}{x:α}(h:r.at c cs x) (hle:c.Le c'):r.at c' cs x:=r.turn h hle.turn
theorem Rep.SR.up {r:Rep α}{c c':Cx}{v:Value}{l:List α}(h:r.sl c v l) (hle:c.Le c'):r.sl c' v l:=Rep.SR.turn h hle.turn
theorem Rep.LR.up {r:Rep α}{c c':Cx}{v:List (List Value)}{l:List α}(h:r.ls c v l) (hle:c.Le c'):r.ls c' v l:=Rep.LR.turn h hle.turn
theorem St.freezeL {r:Rep α}{c:Cx}{w:World}{L:List Res}{T:TypeId}{es:Nat}{v:Value}{css:List (List Value)}{l:List α}(h:St c w (sl T es v css::L)) (hl:r.ls c css l) (hes:r.es=es) (hm:l.length≤140737488355328):∃c',c.Le c'∧St c' w L∧r.sl c' v l:=by
 subst hes
 obtain ⟨c',h1,h2,h3⟩:=h.freezeS
 exact ⟨c',h1,h2,css,h3,hl.up h1,hm⟩
theorem Rep.SR.ints {c:Cx}{v:Value}{l:List Int}(h:intR.sl c v l):FzS c 1 v (l.map Qj):=by
 obtain ⟨css,h1,h2,h3⟩:=h
 have:css=l.map Qj:=by
  apply List.ext_getElem?
  intro m
  rw [List.getElem?_map]
  rcases Nat.lt_or_ge m l.length with hm|hm
  · obtain ⟨d,h4,h5⟩:=h2.2 m _ (List.getElem?_eq_getElem hm)
    have h5:d=[_]:=h5
    rw [h4,List.getElem?_eq_getElem hm,h5];rfl
  · rw [List.getElem?_eq_none (by rw [h2.1];exact hm),List.getElem?_eq_none hm];rfl
 rw [this] at h1;exact h1
theorem FzS.ints {c:Cx}{v:Value}{l:List Int}(h:FzS c 1 v (l.map Qj)) (hm:l.length≤140737488355328):intR.sl c v l:=
 ⟨_,h,⟨by simp,fun m x hx=> ⟨Qj x,by rw [List.getElem?_map,hx];rfl,rfl⟩⟩,hm⟩

section
variable {P:Program}{l:List GO}{Q:QT}{ρ:Env}{w:World}{c:Cx}{L:List Res}{r:Rep α}{xs:List α}{v:Value}{es:Nat}
theorem s_idxL {d:Nat}{x y:Operand}{k:IntKind}{n:Int}(hx:ρ.ev x=v) (hy:ρ.ev y= .int k n) (hK:r.sl c v xs) (hes:r.es=es) (h0:0≤n) (hn:n < xs.length)
 (h:∀b o cs a,AtK c b o cs→xs[n.toNat]?=some a→r.at c cs a→Q0 P l Q (upd ρ d (.pointer (some ⟨b,o,none⟩))) w):Q0 P (⟨none, .idx d es x y⟩::l) Q ρ w:=by
 subst hes
 obtain ⟨css,h1,h2,h3⟩:=hK
 have hn':n.toNat < xs.length:=by omega
 obtain ⟨cs,h4,h5⟩:=h2.2 n.toNat _ (List.getElem?_eq_getElem hn')
 exact s_idxK (m:=n.toNat) hx (by rw [hy,Int.toNat_of_nonneg h0]) h1 h4 fun b o hb=> h b o cs _ hb (List.getElem?_eq_getElem hn') h5
theorem Q68 {d m:Nat}{x y:Operand}{k:IntKind}(hx:ρ.ev x=v) (hy:ρ.ev y= .int k (m:Int)) (hK:r.sl c v xs) (hes:r.es=es) (hn:m < xs.length)
 (h:∀b o cs a,AtK c b o cs→xs[m]?=some a→r.at c cs a→Q0 P l Q (upd ρ d (.pointer (some ⟨b,o,none⟩))) w):Q0 P (⟨none, .idx d es x y⟩::l) Q ρ w:=by
 subst hes
 obtain ⟨css,h1,h2,h3⟩:=hK
 obtain ⟨cs,h4,h5⟩:=h2.2 m _ (List.getElem?_eq_getElem hn)
 exact s_idxK (m:=m) hx hy h1 h4 fun b o hb=> h b o cs _ hb (List.getElem?_eq_getElem hn) h5
theorem Q7 {l:List α}{m:Nat}{x:α}(h:l[m]?=some x):l.drop m=x::l.drop (m+1):=by
 obtain ⟨hm,rfl⟩:=List.getElem?_eq_some_iff.1 h
 exact List.drop_eq_getElem_cons hm
theorem Q2E {l:List α}{m:Nat}{x:α}(h:l[m]?=some x):l.take (m+1)=l.take m++[x]:=by
 rw [List.take_add_one,h];rfl
theorem QQ {cs:List Value}{n:Int}(h:intR.at c cs n):cs=[.int .i64 n]:=h
theorem Q9F:∀{L:List Res}{i:Nat}{a a':Res},nth L i=some a→nth (L.set i a') i=some a'
 | [],_,_,_,h=> by cases h
 | _::_,0,_,_,_=> rfl
 | _::L,i+1,_,_,h=> Q9F (L:=L) (i:=i) h
theorem s_appR1 {T T' d Ts Ts2 Ty nb i k b:Nat}{z:List Value}{x y:Operand}{ds:List Value}{css:List (List Value)}{a:α}(hel:Q1H P Ts=some (T,es,nb,z))
 (hts:∃e2,P.underlying Ts2=some (.slice e2)) (hS:St c w L) (hx:ρ.ev x=v) (hy:ρ.ev y= .slice (some ⟨b,0,none⟩) 1 1) (hi:nth L i=some (Go.Lir.sl T es v css)) (hk:nth L k=some (blk b T' ds)) (hls:r.ls c css xs) (ha:r.at c ds a) (hes:r.es=es) (hb:(xs.length+1)*nb≤140737488355328)
 (h : ∀ v' w' css', r.ls c css' (xs ++ [a]) → oneC v' = true → St c w' (L.set i (Go.Lir.sl T es v' css')) → Q0 P l Q (upd ρ d v') w') : Q0 P (⟨none, .raw ⟨some d, .call ⟨.builtin .append, #[x, y], #[Ts, Ts2]⟩, Ty, "", #[], none⟩⟩ :: l) Q ρ w :=
 Q24 hel (.inl hts) hS hx hy hi (hS.srcB hk ((r.len ha).trans hes) (r.one ha)) (by rw [hls.1];exact hb) fun v' w' hS'=> h v' w' _ (hls.push ha) (hS'.oneC (Q9F hi)) hS'
theorem s_appRK {T d Ts Ts2 Ty nb i:Nat}{z:List Value}{x y:Operand}{v2:Value}{css:List (List Value)}{ys:List α}(hel:Q1H P Ts=some (T,es,nb,z))
 (hts:∃e2,P.underlying Ts2=some (.slice e2)) (hS:St c w L) (hx:ρ.ev x=v) (hy:ρ.ev y=v2) (hi:nth L i=some (Go.Lir.sl T es v css)) (hls:r.ls c css xs) (hK:r.sl c v2 ys) (hes:r.es=es) (hb:(xs.length+ys.length)*nb≤140737488355328)
 (h : ∀ v' w' css', r.ls c css' (xs ++ ys) → oneC v' = true → St c w' (L.set i (Go.Lir.sl T es v' css')) → Q0 P l Q (upd ρ d v') w') : Q0 P (⟨none, .raw ⟨some d, .call ⟨.builtin .append, #[x, y], #[Ts, Ts2]⟩, Ty, "", #[], none⟩⟩ :: l) Q ρ w := by
 subst hes
 obtain ⟨css2,h1,h2,h3⟩:=hK
 exact Q24 hel (.inl hts) hS hx hy hi (FzS.src h1 hS h2.one) (by rw [hls.1,h2.1];exact hb) fun v' w' hS'=> h v' w' _ (hls.append h2) (hS'.oneC (Q9F hi)) hS'
theorem QeW {d:Nat}{x:Operand}{os:List Operand}{f:FuncId}{args:List Value}{S:Value→World→Prop}(hx:ρ.ev x= .func (.func f) #[] #[]) (hf:Q3G P f=true) (hxs:os.map ρ.ev=args) (hc:Rets P f args w S)
 (h:∀v w',S v w'→Q0 P l Q (upd ρ d v) w'):Q0 P (⟨none, .callv (some d) x os⟩::l) Q ρ w:=by
 unfold Q3G at hf
 rw [Option.any_eq_true] at hf
 obtain ⟨fn,h1,h2⟩:=hf
 rw [Bool.and_eq_true,Bool.not_eq_true'] at h2
 refine Qf6 (cap:=[]) hx h1 h2.1 h2.2 (by rw [hxs,List.append_nil]) hc ?_
 rintro e w' ⟨v,rfl,hv⟩
 exact h v w' hv
theorem Q4A {d:Nat}{x:Operand}{b o:Nat}{cs:List Value}{u:Value}(hS:St c w L) (ha:AtK c b o cs) (hx:ρ.ev x= .pointer (some ⟨b,o,none⟩)) (hu:cs[0]?=some u):gqv P ρ w ⟨none, .load1 d x⟩ u:=Q4O (j:=0) hS ha hx hu
theorem Q2B {d n:Nat}{x:Operand}{b o:Nat}{cs us:List Value}(hS:St c w L) (ha:AtK c b o cs) (hx:ρ.ev x= .pointer (some ⟨b,o,none⟩)) (hu:cs.take n=us) (hl:us.length=n):gqv P ρ w ⟨none, .loadn d n x⟩ (.agg ⟨us⟩):=Q89 (j:=0) hS ha hx hu hl
theorem QeT {n i b T:Nat}{x y:Operand}{cs us:List Value}(hS:St c w L) (hx:ρ.ev x= .pointer (some ⟨b,0,none⟩)) (hy:ρ.ev y= .agg ⟨us⟩) (hn:us.length=n) (hi:nth L i=some (blk b T cs)) (hc:cs.length=n) (h1:∀u∈us,oneC u=true)
 (h:∀w',St c w' (L.set i (blk b T us))→Q0 P l Q ρ w'):Q0 P (⟨none, .storen n x y⟩::l) Q ρ w:=
 Q1g hS hx hy hn hi (by omega) h1 (by simp;omega) h
theorem Q5E:∀{a b:List GO}{Q:QT}{ρ:Env}{w:World},Q0 P a (Qh (Q0 P b Q) Q) ρ w→Q0 P (a++b) Q ρ w
 | [],_,_,_,_,h=> h
 | ⟨none,o⟩::a,b,Q,ρ,w,h=> by
   simp only [List.cons_append,Q0] at h ⊢
   exact Q5w (fun ρ w h=> Q5E h) (fun e ρ w hn h=> by cases e <;> first|exact h|exact absurd rfl hn) h
 | ⟨some (s,b'),o⟩::a,b,Q,ρ,w,h=> by
   simp only [List.cons_append,Q0] at h ⊢
   split
   · rename_i hw
     rw [if_pos hw] at h
     exact Q5w (fun ρ w h=> Q5E h) (fun e ρ w hn h=> by cases e <;> first|exact h|exact absurd rfl hn) h
   · rename_i hw
     rw [if_neg hw] at h
     exact Q5E h
theorem s_cut {l:List GO}(n:Nat) (J:Env→World→Prop) (ha:Q0 P (l.take n) (Qh J Q) ρ w) (hb:∀ρ w,J ρ w→Q0 P (l.drop n) Q ρ w):Q0 P l Q ρ w:=by
 rw [←List.take_append_drop n l]
 exact Q5E (Q6j (Q4I hb fun _ _ _ h=> h) ha)
theorem QeZ {d:Nat}{x:Operand}(hx:ρ.ev x=v) (hK:r.sl c v xs) (h:Q0 P l Q (upd ρ d (.int .i64 xs.length)) w):Q0 P (⟨none, .len d x⟩::l) Q ρ w:=by
 obtain ⟨css,h1,h2,h3⟩:=hK
 exact s_lenKn hx h1 h2.1 h
theorem QeQ {d:Nat}{x:Operand}{lo hi mx:Option Operand}{l' h':Nat}(hx:ρ.ev x=v) (hK:r.sl c v xs) (hes:r.es=es) (hmx:mx=none) (hh:bnd ρ xs.length hi h') (hl:bnd ρ 0 lo l') (h2:h'≤xs.length) (h3:l'≤h')
 (h:∀v',r.sl c v' ((xs.take h').drop l')→Q0 P l Q (upd ρ d v') w):Q0 P (⟨none, .sub d es x lo hi mx⟩::l) Q ρ w:=by
 subst hes
 obtain ⟨css,h1,g2,g3⟩:=hK
 exact s_subK hx h1 hmx (by rw [g2.1];exact hh) hl (by rw [g2.1];exact h2) h3 fun v' hv=> h v' ⟨_,hv,g2.sub _ _,by simp;omega⟩
end
end

section
variable {P:Program}{T e:TypeId}{α β:Type}
def Cod.rep (c:Cod P T α) (r:Rep β) (hs:c.es=r.es) (h:∀(H:Heap) cs x,c.rd H cs x→∃y,r.R H (· < H.size) cs y):Cod P T β where
 es:=r.es
 rd:=fun H cs y=> r.R H (· < H.size) cs y
 size:=by rw [←hs];exact c.size
 len:=fun _ _ _ h=> r.len h
 stay:=fun H H' cs x hx hH=> r.turn hx fun b hb hlt=> by
  have:=hH b hlt
  refine ⟨?_,this⟩
  rcases Nat.lt_or_ge b H'.size with h|h
  · exact h
  · rw [Array.getElem?_eq_none h,Array.getElem?_eq_getElem hlt] at this;cases this
 open_:=fun enc w fuel cs y hy hfit=> by
  obtain ⟨x,hx⟩:=c.open_ enc w fuel cs y hy hfit
  exact h _ _ _ hx
theorem list_rd {r:Rep α}{n:Nat}{H:Heap}{cs:List Value}{xs:List α}(hn:r.es=n)
 (h:∃v css,cs=[v]∧SlR H n v (fun _=> True) css∧css.length=xs.length∧xs.length≤140737488355328∧∀(m:Nat) (x:α),xs[m]?=some x→∃d,css[m]?=some d∧r.R H (· < H.size) d x):r.list.R H (· < H.size) cs xs:=by
 obtain ⟨v,css,rfl,h1,h2,h3,h4⟩:=h
 subst hn
 exact ⟨v,rfl,css,SlR.mono h1 fun b hb _=> hb,⟨h2,h4⟩,h3⟩
def Cod.listOf (c:Cod P e β) (r:Rep β) (hs:c.es=r.es) (h:∀(H:Heap) cs x,c.rd H cs x→r.R H (· < H.size) cs x) (ht:P.underlying T=some (.slice e)) (h1:P.cellsOf T=1) (hby:decide (0 < P.bytesOf e)=true):Cod P T (List β):=
 Cod.rep (Cod.slice c ht h1 (by rw [hs];exact r.pos) hby) r.list rfl fun H cs x hx=> ⟨x,list_rd hs.symm (by
  obtain ⟨v,css,g1,g2,g3,g4,g5⟩:=hx
  exact ⟨v,css,g1,g2,g3,g4,fun m y hy=> by obtain ⟨d,g6,g7⟩:=g5 m y hy;exact ⟨d,g6,h _ _ _ g7⟩⟩)⟩
structure Cod.Of (P:Program) (T:TypeId){α:Type}(r:Rep α) where
 cod:Cod P T α
 es:cod.es=r.es
 rd:∀(H:Heap) cs x,cod.rd H cs x→r.R H (· < H.size) cs x
def Cod.of (c:Cod P T α) (r:Rep β) (hs:c.es=r.es) (h:∀(H:Heap) cs x,c.rd H cs x→∃y,r.R H (· < H.size) cs y):Cod.Of P T r:=⟨Cod.rep c r hs h,rfl,fun _ _ _ h=> h⟩
def Cod.Of.list {r:Rep α}(c:Cod.Of P e r) (ht:P.underlying T=some (.slice e)) (h1:P.cellsOf T=1) (hby:decide (0 < P.bytesOf e)=true):Cod.Of P T r.list:=⟨Cod.listOf c.cod r c.es c.rd ht h1 hby,rfl,fun _ _ _ h=> h⟩
def Cod.Of.int (ht:P.underlying T=some (.int .i64)) (hs:P.cellsOf T=1):Cod.Of P T intR:=Cod.of (Cod.int .i64 ht hs) intR rfl fun _ _ x h=> ⟨x,h.1⟩
def Cod.Of.ty {TL t0 t1:TypeId}(h0:fieldAt P T 0=some (0,1,t0)) (h1:fieldAt P T 1=some (1,1,t1)) (h2:fieldAt P T 2=some (2,1,TL)) (hi0:P.underlying t0=some (.int .i64)) (hi1:P.underlying t1=some (.int .i64)) (hT:P.cellsOf T=3) (hTL:P.underlying TL=some (.slice T)) (hby:decide (0 < P.bytesOf T)=true):Cod.Of P T tyR:=
 ⟨Cod.ty h0 h1 h2 hi0 hi1 hT hTL hby,rfl,fun _ _ _ h=> h⟩
theorem Cod.Of.top {r:Rep α}(c:Cod.Of P T r){w:World}{cs:List Value}{x:α}(h:c.cod.rd w.heap cs x):r.at (Cx.top w) cs x:=c.rd _ _ _ h
end
end Go.Lir
namespace Go.Lir
def Qaj (b:UInt8):List Value:=[.int .u8 (b.toNat:Int)]
def u8R:Rep UInt8:=Rep.lit (fun b=> .int .u8 (b.toNat:Int)) (fun _=> rfl)
theorem u8R_out {c:Cx}{cs:List Value}{b:UInt8}(h:u8R.at c cs b):cs=[.int .u8 (b.toNat:Int)]:=h
theorem u8R_ls {c:Cx}(l:List UInt8):u8R.ls c (l.map Qaj) l:=⟨by simp,fun m x hx=> ⟨Qaj x,by rw [List.getElem?_map,hx];rfl,rfl⟩⟩
theorem Rep.LR.u8 {r:Rep UInt8}{H:Heap}{K:Nat→Prop}{css:List (List Value)}{l:List UInt8}(hr:r=u8R) (h:r.LR H K css l):css=l.map Qaj:=by
 subst hr
 apply List.ext_getElem?
 intro m
 rw [List.getElem?_map]
 rcases Nat.lt_or_ge m l.length with hm|hm
 · obtain ⟨d,h4,h5⟩:=h.2 m _ (List.getElem?_eq_getElem hm)
   have h5:d=[_]:=h5
   rw [h4,List.getElem?_eq_getElem hm,h5];rfl
 · rw [List.getElem?_eq_none (by rw [h.1];exact hm),List.getElem?_eq_none hm];rfl
section
variable {P:Program}{l:List GO}{Q:QT}{ρ:Env}{w:World}{c:Cx}{L:List Res}{v:Value}
theorem Qbs (s:List UInt8):(s.map Qaj).flatten=s.map fun b=> Value.int .u8 (b.toNat:Int):=by
 induction s with
 | nil=> rfl
 | cons b s ih=> simp [Qaj,ih]
theorem s_bytes {d src dst e Ty:Nat}{x:Operand}{s:ByteArray}(hs:P.underlying src=some .string) (hd:P.underlying dst=some (.slice e)) (he:P.underlying e=some (.int .u8)) (hS:St c w L) (hx:ρ.ev x= .string s)
 (h : ∀ v' w', St c w' (sl e 1 v' (s.data.toList.map Qaj) :: L) → Q0 P l Q (upd ρ d v') w') : Q0 P (⟨none, .raw ⟨some d, .convert src dst x, Ty, "", #[], none⟩⟩ :: l) Q ρ w := by
 have hr:=run_bytes_of_string (P:=P) w src dst e s hs hd he
 have hge:=grownCap_ge w s.size 0 e
 generalize hcap:grownCap w s.size 0 e=cap at hr hge
 refine QN (v:= .slice (some ⟨w.heap.size,0,none⟩) s.size cap) (w':=w.drew.alloc (.cells (bytesRow s cap) e ((bytesRow s cap).size,(bytesRow s cap).size+1))) ?_ ?_
 · simp only [execOp,hx,Sem.run_bind,hr,Result.andThen_ok,Sem.run_pure]
 · have hsz:s.data.size=s.size:=rfl
   have hrow:(bytesRow s cap).size=cap:=by simp [bytesRow];omega
   refine h _ _ (hS.new (F':=(· =w.heap.size)) ?_ (((Fr.refl NF w).drew').then0 (Q47 w.drew _)) fun b hb=> by omega)
   refine ⟨by intro q hq;obtain ⟨b,_,rfl⟩:=List.mem_map.1 hq;rfl, .inr ⟨w.heap.size,0,cap,(bytesRow s cap).toList,?_,?_,?_,?_,?_,fun _=> Iff.rfl⟩⟩
   · have:(List.map Qaj s.data.toList).length=s.size:=by rw [List.length_map,Array.length_toList];rfl
     rw [this]
   · have:(List.map Qaj s.data.toList).length=s.size:=by rw [List.length_map,Array.length_toList];rfl
     rw [this];exact hge
   · refine ⟨((bytesRow s cap).size,(bytesRow s cap).size+1),?_,?_⟩
     · show (w.heap.push _)[w.heap.size]?=_
       rw [Array.getElem?_push_size]
     · refine ⟨fun i h1 h2=> ?_,by simp⟩
       simp only [Array.length_toList] at*;omega
   · simp [hrow]
   · intro i hi
     rw [Qbs]
     simp only [List.length_map,Array.length_toList,Nat.mul_one] at hi
     rw [Nat.zero_add,Array.getElem?_toList,bytesRow_at s cap i hi,List.getElem?_map,Array.getElem?_toList,Array.getElem?_eq_getElem hi];rfl
theorem s_idxv {d T Ty e n:Nat}{x y:Operand}{k:IntKind}{m:Int}{cs:List Value}{u:Value}(hT:P.underlying T=some (.array n e)) (he:Q2J P e=true) (hsz:Q33 P e=some 1) (hx:ρ.ev x= .agg ⟨cs⟩) (hy:ρ.ev y= .int k m) (h0:0≤m) (hm:m < n) (hu:cs[m.toNat]?=some u)
 (h : Q0 P l Q (upd ρ d u) w) : Q0 P (⟨none, .raw ⟨some d, .index T x y, Ty, "", #[], none⟩⟩ :: l) Q ρ w := by
 refine QN (v:=u) (w':=w) ?_ h
 simp only [execOp,hx,hy,Instr.index,Sem.run_bind,asIntOf,Sem.run_pure,Result.andThen_ok,Q4 P T _ w hT]
 rw [if_pos ⟨h0,hm⟩]
 simp only [Sem.run_bind,QU P e 1 w hsz,Result.andThen_ok,Nat.mul_one,Q9t P e ⟨cs⟩ _ _ w he (by simpa using hu)]
end
end Go.Lir
namespace Go.Lir
set_option linter.unusedVariables false
mutual
def Ty.size:Ty→Int→Int
 | .mk _ _ l,left=> Tys.size l (left - 1)
def Tys.size:List Ty→Int→Int
 | [],left=> left
 | x::l,left=> if 0≤left then Tys.size l (x.size left) else left
end
theorem Tys.size_neg:∀(l:List Ty){left:Int},left < 0→Tys.size l left=left
 | [],_,_=> by simp [Tys.size]
 | x::l,left,h=> by rw [Tys.size,if_neg (by omega)]
mutual
def Ty.deepB:Ty→Int→Bool
 | .mk _ _ l,left=> if left < 0 then false else Tys.deepB l (left - 1)
def Tys.deepB:List Ty→Int→Bool
 | [],_=> true
 | x::l,left=> x.deepB left && Tys.deepB l left
end
mutual
def Ty.depth:Ty→Int→Int
 | .mk _ _ l,most=> Tys.depth l most 0
def Tys.depth:List Ty→Int→Int→Int
 | [],_,n=> n
 | x::l,most,n=> if n≤most then (if most=0 then 1 else Tys.depth l most (if n < 1+x.depth (most - 1) then 1+x.depth (most - 1) else n)) else n
end
mutual
theorem Ty.depth_iff:∀(t:Ty){most:Int},0≤most→(t.depth most≤most↔t.deepB most=true)
 | .mk _ _ l,most,h=> by
   rw [Ty.depth,Ty.deepB,if_neg (by omega),Tys.depth_iff l h]
   exact ⟨fun h=> h.2,fun h2=> ⟨h,h2⟩⟩
theorem Tys.depth_iff:∀(l:List Ty){most n:Int},0≤most→(Tys.depth l most n≤most↔n≤most∧Tys.deepB l (most - 1)=true)
 | [],most,n,h=> by rw [Tys.depth,Tys.deepB];simp
 | x ::l,most,n,h=> by
   rw [Tys.depth,Tys.deepB]
   by_cases hn:n≤most
   · rw [if_pos hn]
     by_cases h0:most=0
     · rw [if_pos h0]
       have:x.deepB (most - 1)=false:=by obtain ⟨k,r,l2⟩:=x;rw [Ty.deepB,if_pos (by omega)]
       rw [this];simp;omega
     · rw [if_neg h0,Tys.depth_iff l h]
       have:=Ty.depth_iff x (most:=most - 1) (by omega)
       rw [Bool.and_eq_true,←this]
       constructor
       · rintro ⟨h1,h2⟩;split at h1 <;> exact ⟨by omega,by omega,h2⟩
       · rintro ⟨h1,h2,h3⟩;refine ⟨?_,h3⟩;split <;> omega
   · rw [if_neg hn]
     exact ⟨fun h=> absurd h hn,fun h=> h.1⟩
end
mutual
def Ty.same:Ty→Ty→Bool
 | .mk k r l, .mk k2 r2 l2=> decide (k=k2) && decide (r=r2) && Tys.same l l2
def Tys.same:List Ty→List Ty→Bool
 | [],[]=> true
 | x::l,y::m=> x.same y && Tys.same l m
 | [],_::_=> false
 | _::_,[]=> false
end
mutual
theorem Ty.same_iff:∀(t u:Ty),t.same u=true↔t=u
 | .mk k r l, .mk k2 r2 l2=> by
   rw [Ty.same,Bool.and_eq_true,Bool.and_eq_true,Tys.same_iff l l2]
   simp only [decide_eq_true_eq,Ty.mk.injEq,and_assoc]
theorem Tys.same_iff:∀(l m:List Ty),Tys.same l m=true↔l=m
 | [],[]=> by simp [Tys.same]
 | x::l,y::m=> by rw [Tys.same,Bool.and_eq_true,Ty.same_iff x y,Tys.same_iff l m];simp
 | [],_::_=> by simp [Tys.same]
 | _::_,[]=> by simp [Tys.same]
end
instance:DecidableEq Ty:=fun t u=> decidable_of_iff _ (Ty.same_iff t u)
mutual
def Ty.wrong (fields:Nat):Ty→Int→Int
 | .mk k r l,regs=>
   if k < 1∨4 < k then 3 else if k=1∧r≠0∨k≠3∧0 < l.length then 4 else if fields < l.length then 2 else if k≠1∧(r < 0∨regs≤r) then 1 else Tys.wrong fields l regs
def Tys.wrong (fields:Nat):List Ty→Int→Int
 | [],_=> 0
 | x::l,regs=> if x.wrong fields regs≠0 then x.wrong fields regs else Tys.wrong fields l regs
end
mutual
def Ty.ren:Ty→List Int→Option Ty
 | .mk k r l,to=> if k≠1∧(r < 0∨(to.length:Int)≤r∨to.getD r.toNat 0 < 0) then none else
   match Tys.ren l to with
   | none=> none
   | some m=> some (.mk k (if k≠1 then to.getD r.toNat 0 else r) m)
def Tys.ren:List Ty→List Int→Option (List Ty)
 | [],_=> some []
 | x ::l,to=> match x.ren to with
   | none=> none
   | some y=> match Tys.ren l to with
     | none=> none
     | some m=> some (y::m)
end
mutual
theorem Ty.ren_ren {f g h:List Int}(hfg:∀i:Nat,i < f.length→0≤f.getD i 0∧f.getD i 0 < g.length∧0≤g.getD (f.getD i 0).toNat 0∧i < h.length∧h.getD i 0=g.getD (f.getD i 0).toNat 0):
 ∀(t u:Ty),t.ren f=some u→∃v,u.ren g=some v∧t.ren h=some v
 | .mk k r l,u,ht=> by
   rw [Ty.ren] at ht
   split at ht
   · cases ht
   · rename_i hc
     cases hl:Tys.ren l f with
     | none=> rw [hl] at ht;cases ht
     | some m=>
       rw [hl] at ht
       simp only [Option.some.injEq] at ht
       obtain ⟨m2,h1,h2⟩:=Tys.ren_ren hfg l m hl
       subst ht
       by_cases hk:k=1
       · refine ⟨.mk k r m2,?_,?_⟩
         · rw [Ty.ren,if_neg (by omega),h1];simp [hk]
         · rw [Ty.ren,if_neg (by omega),h2];simp [hk]
       · have:=hfg r.toNat (by omega)
         refine ⟨.mk k (g.getD (f.getD r.toNat 0).toNat 0) m2,?_,?_⟩
         · rw [Ty.ren,if_pos hk,if_neg (by omega),h1];simp [hk]
         · rw [Ty.ren,if_neg (by omega),h2];simp only [if_pos hk,this.2.2.2.2]
theorem Tys.ren_ren {f g h:List Int}(hfg:∀i:Nat,i < f.length→0≤f.getD i 0∧f.getD i 0 < g.length∧0≤g.getD (f.getD i 0).toNat 0∧i < h.length∧h.getD i 0=g.getD (f.getD i 0).toNat 0):
 ∀(t u:List Ty),Tys.ren t f=some u→∃v,Tys.ren u g=some v∧Tys.ren t h=some v
 | [],u,ht=> by rw [Tys.ren] at ht;cases ht;exact ⟨[],by rw [Tys.ren],by rw [Tys.ren]⟩
 | x ::l,u,ht=> by
   rw [Tys.ren] at ht
   cases hx:x.ren f with
   | none=> rw [hx] at ht;cases ht
   | some y=>
     rw [hx] at ht
     cases hl:Tys.ren l f with
     | none=> rw [hl] at ht;cases ht
     | some m=>
       rw [hl] at ht
       simp only [Option.some.injEq] at ht
       subst ht
       obtain ⟨y2,a1,a2⟩:=Ty.ren_ren hfg x y hx
       obtain ⟨m2,b1,b2⟩:=Tys.ren_ren hfg l m hl
       exact ⟨y2::m2,by rw [Tys.ren,a1,b1],by rw [Tys.ren,a2,b2]⟩
end
mutual
theorem Ty.ren_wrong {fields:Nat}{f:List Int}(hf:∀i:Nat,i < f.length→0≤f.getD i 0∧f.getD i 0 < f.length):∀(t u:Ty),t.ren f=some u→u.wrong fields f.length=t.wrong fields f.length
 | .mk k r l,u,ht=> by
   rw [Ty.ren] at ht
   split at ht
   · cases ht
   · rename_i hc
     cases hl:Tys.ren l f with
     | none=> rw [hl] at ht;cases ht
     | some m=>
       rw [hl] at ht
       simp only [Option.some.injEq] at ht
       subst ht
       obtain ⟨h1,h2⟩:=Tys.ren_wrong (fields:=fields) hf l m hl
       by_cases hk:k=1
       · rw [Ty.wrong,Ty.wrong,h1,h2];simp [hk]
       · have:=hf r.toNat (by omega)
         rw [Ty.wrong,Ty.wrong,h1,h2]
         simp only [if_pos hk]
         rw [if_neg (show¬(k≠1∧(f.getD r.toNat 0 < 0∨(f.length:Int)≤f.getD r.toNat 0)) by omega),if_neg (show¬(k≠1∧(r < 0∨(f.length:Int)≤r)) by omega)]
         simp [hk]
theorem Tys.ren_wrong {fields:Nat}{f:List Int}(hf:∀i:Nat,i < f.length→0≤f.getD i 0∧f.getD i 0 < f.length):∀(t u:List Ty),Tys.ren t f=some u→u.length=t.length∧Tys.wrong fields u f.length=Tys.wrong fields t f.length
 | [],u,ht=> by rw [Tys.ren] at ht;cases ht;exact ⟨rfl,rfl⟩
 | x ::l,u,ht=> by
   rw [Tys.ren] at ht
   cases hx:x.ren f with
   | none=> rw [hx] at ht;cases ht
   | some y=>
     rw [hx] at ht
     cases hl:Tys.ren l f with
     | none=> rw [hl] at ht;cases ht
     | some m=>
       rw [hl] at ht
       simp only [Option.some.injEq] at ht
       subst ht
       obtain ⟨h1,h2⟩:=Tys.ren_wrong (fields:=fields) hf l m hl
       exact ⟨by simp [h1],by rw [Tys.wrong,Tys.wrong,Ty.ren_wrong hf x y hx,h2]⟩
end
mutual
theorem Ty.ren_none {fields:Nat}{f:List Int}(hf:∀i:Nat,i < f.length→0≤f.getD i 0):∀(t:Ty),t.ren f=none→t.wrong fields f.length≠0
 | .mk k r l,ht=> by
   rw [Ty.wrong]
   rw [Ty.ren] at ht
   split
   · decide
   · split
     · decide
     · split
       · decide
       · split
         · decide
         · rename_i h1 h2 h3 h4
           have hc:¬(k≠1∧(r < 0∨(f.length:Int)≤r∨f.getD r.toNat 0 < 0)):=by
            rintro ⟨a,b⟩
            have:=hf r.toNat
            omega
           rw [if_neg hc] at ht
           cases hl:Tys.ren l f with
           | none=> exact Tys.ren_none hf l hl
           | some m=> rw [hl] at ht;cases ht
theorem Tys.ren_none {fields:Nat}{f:List Int}(hf:∀i:Nat,i < f.length→0≤f.getD i 0):∀(t:List Ty),Tys.ren t f=none→Tys.wrong fields t f.length≠0
 | [],ht=> by rw [Tys.ren] at ht;cases ht
 | x ::l,ht=> by
   rw [Tys.ren] at ht
   rw [Tys.wrong]
   split
   · rename_i h;exact h
   · rename_i h
     cases hx:x.ren f with
     | none=> exact absurd hx (fun hx=> h (Ty.ren_none hf x hx))
     | some y=>
       rw [hx] at ht
       cases hl:Tys.ren l f with
       | none=> exact Tys.ren_none hf l hl
       | some m=> rw [hl] at ht;cases ht
end
mutual
theorem Ty.ren_deep {f:List Int}:∀(t u:Ty) (left:Int),t.ren f=some u→u.deepB left=t.deepB left
 | .mk k r l,u,left,ht=> by
   rw [Ty.ren] at ht
   split at ht
   · cases ht
   · cases hl:Tys.ren l f with
     | none=> rw [hl] at ht;cases ht
     | some m=>
       rw [hl] at ht
       simp only [Option.some.injEq] at ht
       subst ht
       rw [Ty.deepB,Ty.deepB,Tys.ren_deep l m (left - 1) hl]
theorem Tys.ren_deep {f:List Int}:∀(t u:List Ty) (left:Int),Tys.ren t f=some u→Tys.deepB u left=Tys.deepB t left
 | [],u,_,ht=> by rw [Tys.ren] at ht;cases ht;rfl
 | x ::l,u,left,ht=> by
   rw [Tys.ren] at ht
   cases hx:x.ren f with
   | none=> rw [hx] at ht;cases ht
   | some y=>
     rw [hx] at ht
     cases hl:Tys.ren l f with
     | none=> rw [hl] at ht;cases ht
     | some m=>
       rw [hl] at ht
       simp only [Option.some.injEq] at ht
       subst ht
       rw [Tys.deepB,Tys.deepB,Ty.ren_deep x y left hx,Tys.ren_deep l m left hl]
end
mutual
theorem Ty.ren_id {f:List Int}(hf:∀i:Nat,i < f.length→f.getD i 0=i):∀(t u:Ty),t.ren f=some u→u=t
 | .mk k r l,u,ht=> by
   rw [Ty.ren] at ht
   split at ht
   · cases ht
   · rename_i hc
     cases hl:Tys.ren l f with
     | none=> rw [hl] at ht;cases ht
     | some m=>
       rw [hl] at ht
       simp only [Option.some.injEq] at ht
       subst ht
       rw [Tys.ren_id hf l m hl]
       by_cases hk:k=1
       · simp [hk]
       · have:=hf r.toNat (by omega)
         rw [if_pos hk,this,Int.toNat_of_nonneg (by omega)]
theorem Tys.ren_id {f:List Int}(hf:∀i:Nat,i < f.length→f.getD i 0=i):∀(t u:List Ty),Tys.ren t f=some u→u=t
 | [],u,ht=> by rw [Tys.ren] at ht;cases ht;rfl
 | x ::l,u,ht=> by
   rw [Tys.ren] at ht
   cases hx:x.ren f with
   | none=> rw [hx] at ht;cases ht
   | some y=>
     rw [hx] at ht
     cases hl:Tys.ren l f with
     | none=> rw [hl] at ht;cases ht
     | some m=>
       rw [hl] at ht
       simp only [Option.some.injEq] at ht
       subst ht
       rw [Ty.ren_id hf x y hx,Tys.ren_id hf l m hl]
end
theorem Ty.ind {p:Ty→Prop}(h:∀k r l,(∀x∈l,p x)→p (.mk k r l)):∀t,p t
 | .mk k r l=> h k r l fun x hx=> Ty.ind h x
termination_by t=> SizeOf.sizeOf t
decreasing_by
 have:=List.sizeOf_lt_of_mem hx
 simp only [Ty.mk.sizeOf_spec]
 omega
mutual
theorem Ty.size_rng:∀(t:Ty){left:Int},0≤left→-1≤t.size left∧t.size left < left
 | .mk _ _ l,left,h=> by
   rw [Ty.size]
   have:=Tys.size_rng l (left:=left - 1) (by omega)
   omega
theorem Tys.size_rng:∀(l:List Ty){left:Int}, -1≤left→-1≤Tys.size l left∧Tys.size l left≤left
 | [],left,h=> by rw [Tys.size];omega
 | x ::l,left,h=> by
   rw [Tys.size]
   split
   · rename_i h0
     have h1:=Ty.size_rng x h0
     have h2:=Tys.size_rng l (left:=x.size left) h1.1
     omega
   · omega
end
mutual
theorem Ty.size_mono:∀(t:Ty){a b:Int},a≤b→-1≤a→t.size a≤t.size b
 | .mk _ _ l,a,b,h,ha=> by
   rw [Ty.size,Ty.size]
   by_cases h0:0≤a
   · exact Tys.size_mono l (by omega) (by omega)
   · rw [Tys.size_neg l (by omega)]
     by_cases hb:0≤b
     · have:=Tys.size_rng l (left:=b - 1) (by omega);omega
     · rw [Tys.size_neg l (by omega)];omega
theorem Tys.size_mono:∀(l:List Ty){a b:Int},a≤b→-1≤a→Tys.size l a≤Tys.size l b
 | [],a,b,h,_=> by rw [Tys.size,Tys.size];exact h
 | x ::l,a,b,h,ha=> by
   by_cases h0:0≤a
   · rw [Tys.size,Tys.size,if_pos h0,if_pos (by omega)]
     exact Tys.size_mono l (Ty.size_mono x h ha) (Ty.size_rng x h0).1
   · rw [Tys.size_neg _ (by omega)]
     have:=Tys.size_rng (x::l) (left:=b) (by omega);omega
end
theorem Tys.size_len:∀(l:List Ty){left:Int},0≤Tys.size l left→-1≤left→(l.length:Int)≤left∧∀x∈l,0≤x.size left
 | [],left,h,_=> by rw [Tys.size] at h;simp;exact h
 | x ::l,left,h,hl=> by
   rw [Tys.size] at h
   split at h
   · rename_i h0
     have h1:=Ty.size_rng x h0
     have h2:=Tys.size_len l h h1.1
     have h3:=Tys.size_rng l (left:=x.size left) h1.1
     refine ⟨by simp only [List.length_cons];omega,fun y hy=> ?_⟩
     rcases List.mem_cons.1 hy with rfl|hy
     · omega
     · exact Int.le_trans (h2.2 y hy) (Ty.size_mono y (by omega) h1.1)
   · omega
def Ty.fault (t:Ty) (regs:Int):Int:=if t.deepB 4=false then 19 else t.wrong 8 regs
mutual
theorem Ty.depth_rng:∀(t:Ty){most:Int},0≤most→0≤t.depth most∧t.depth most≤most+1
 | .mk _ _ l,most,h=> by
   rw [Ty.depth]
   exact Tys.depth_rng l h (by omega) (by omega)
theorem Tys.depth_rng:∀(l:List Ty){most n:Int},0≤most→0≤n→n≤most+1→0≤Tys.depth l most n∧Tys.depth l most n≤most+1
 | [],most,n,_,h1,h2=> by rw [Tys.depth];omega
 | x ::l,most,n,h,h1,h2=> by
   rw [Tys.depth]
   split
   · split
     · omega
     · have:=Ty.depth_rng x (most:=most - 1) (by omega)
       exact Tys.depth_rng l h (by split <;> omega) (by split <;> omega)
   · omega
end
inductive Ty.Short:Ty→Prop where
 | mk {k r:Int}{l:List Ty}:l.length≤100000→(∀x∈l,x.Short)→Ty.Short (.mk k r l)
theorem Ty.Short.parts {k r:Int}{l:List Ty}(h:(Ty.mk k r l).Short):l.length≤100000∧∀x∈l,x.Short:=by
 cases h with|mk h1 h2=> exact ⟨h1,h2⟩
theorem Ty.short_of_size:∀(t:Ty){n:Int},n≤100000→0≤n→0≤t.size n→t.Short:=by
 intro t
 induction t using Ty.ind with
 | h k r l ih=>
   intro n h1 h0 h
   rw [Ty.size] at h
   obtain ⟨h2,h3⟩:=Tys.size_len l h (by omega)
   refine .mk (by omega) fun x hx=> ?_
   have hp:=h3 x hx
   have hl:=List.length_pos_of_mem hx
   exact ih x hx (n:=n - 1) (by omega) (by omega) hp
def Ty.great (t:Ty):Bool:=decide (t.size 2000 < 0)
def Tys.great (l:List Ty):Bool:=decide (200 < l.length)||l.any Ty.great
theorem Ty.short_of_great {t:Ty}(h:t.great=false):t.Short:=Ty.short_of_size t (n:=2000) (by omega) (by omega) (by unfold Ty.great at h;simp at h;exact h)
theorem Tys.short_of_great {l:List Ty}(h:Tys.great l=false):l.length≤200∧∀x∈l,x.Short:=by
 unfold Tys.great at h
 rw [Bool.or_eq_false_iff] at h
 refine ⟨by have:=of_decide_eq_false h.1;omega,fun x hx=> Ty.short_of_great ?_⟩
 cases hg:x.great with
 | false=> rfl
 | true=> have:=List.any_eq_true.2 ⟨x,hx,hg⟩;rw [h.2] at this;cases this
end Go.Lir
namespace Go.Lir
structure Ins where
 op:Int
 a:Int
 b:Int
 c:Int
 k:Int
 n:Int
 regs:List Int
 args:List Int
structure To where
 block:Int
 regs:List Int
 args:List Int
structure Tail where
 op:Int
 a:Int
 yes:To
 no:To
 args:List Int
structure Block where
 regs:Int
 params:List Ty
 code:List Ins
 fin:Tail
deriving instance DecidableEq for Ins
deriving instance DecidableEq for To
deriving instance DecidableEq for Tail
deriving instance DecidableEq for Block
structure Fun where
 regs:Int
 params:List Ty
 results:List Ty
 blocks:List Block
structure Module where
 funcs:List Fun
deriving instance DecidableEq for Fun
deriving instance DecidableEq for Module

def Ins.Short (x:Ins):Prop:=x.regs.length≤100000∧x.args.length≤100000
def To.Short (x:To):Prop:=x.regs.length≤100000∧x.args.length≤100000
def Tail.Short (x:Tail):Prop:=x.yes.Short∧x.no.Short∧x.args.length≤100000
def Tys.Short (l:List Ty):Prop:=l.length≤100000∧∀t∈l,t.Short
def Block.Short (x:Block):Prop:=Tys.Short x.params∧x.code.length≤100000∧(∀i∈x.code,i.Short)∧x.fin.Short
def Fun.Short (x:Fun):Prop:=Tys.Short x.params∧Tys.Short x.results∧x.blocks.length≤100000∧∀b∈x.blocks,b.Short
def Module.Short (x:Module):Prop:=x.funcs.length≤100000∧∀f∈x.funcs,f.Short
theorem Tys.Short.of_great {l:List Ty}(h:Tys.great l=false):Tys.Short l:=by
 have:=Tys.short_of_great h
 exact ⟨by omega,this.2⟩
theorem Q7l {α:Type}{l:List α}{p:α→Prop}{j:Nat}{x:α}(h:∀y∈l.take j,p y) (hx:l[j]?=some x) (hp:p x):∀y∈l.take (j+1),p y:=by
 intro y hy
 rw [List.take_add_one,hx] at hy
 rcases List.mem_append.1 hy with hy|hy
 · exact h y hy
 · simp at hy;subst hy;exact hp
theorem Q7k {α:Type}{l:List α}{p:α→Prop}{j:Nat}(h:∀y∈l.take j,p y) (hj:l.length≤j):∀y∈l,p y:=by
 rw [List.take_of_length_le hj] at h;exact h
def insR:Rep Ins where
 es:=8
 pos:=by decide
 R:=fun H K cs x=>∃vr va,cs=[.int .i64 x.op, .int .i64 x.a, .int .i64 x.b, .int .i64 x.c, .int .i64 x.k, .int .i64 x.n,vr,va]∧intR.SR H K vr x.regs∧intR.SR H K va x.args
 len:=by rintro _ _ _ _ ⟨vr,va,rfl,_⟩;rfl
 one:=by
  rintro _ _ _ _ ⟨vr,va,rfl,h1,h2⟩ u hu
  simp at hu
  rcases hu with rfl|rfl|rfl|rfl|rfl|rfl|rfl|rfl <;> first|rfl|exact h1.oneC|exact h2.oneC
 turn:=by rintro _ _ _ _ _ _ ⟨vr,va,rfl,h1,h2⟩ hs;exact ⟨vr,va,rfl,h1.turn hs,h2.turn hs⟩
def toR:Rep To where
 es:=3
 pos:=by decide
 R:=fun H K cs x=>∃vr va,cs=[.int .i64 x.block,vr,va]∧intR.SR H K vr x.regs∧intR.SR H K va x.args
 len:=by rintro _ _ _ _ ⟨vr,va,rfl,_⟩;rfl
 one:=by
  rintro _ _ _ _ ⟨vr,va,rfl,h1,h2⟩ u hu
  simp at hu
  rcases hu with rfl|rfl|rfl <;> first|rfl|exact h1.oneC|exact h2.oneC
 turn:=by rintro _ _ _ _ _ _ ⟨vr,va,rfl,h1,h2⟩ hs;exact ⟨vr,va,rfl,h1.turn hs,h2.turn hs⟩
def endR:Rep Tail where
 es:=9
 pos:=by decide
 R:=fun H K cs x=>∃v1 v2 v3 v4 v5,cs=[.int .i64 x.op, .int .i64 x.a, .int .i64 x.yes.block,v1,v2, .int .i64 x.no.block,v3,v4,v5]∧intR.SR H K v1 x.yes.regs∧intR.SR H K v2 x.yes.args∧intR.SR H K v3 x.no.regs∧intR.SR H K v4 x.no.args∧intR.SR H K v5 x.args
 len:=by rintro _ _ _ _ ⟨_,_,_,_,_,rfl,_⟩;rfl
 one:=by
  rintro _ _ _ _ ⟨_,_,_,_,_,rfl,h1,h2,h3,h4,h5⟩ u hu
  simp at hu
  rcases hu with rfl|rfl|rfl|rfl|rfl|rfl|rfl|rfl|rfl <;> first|rfl|exact h1.oneC|exact h2.oneC|exact h3.oneC|exact h4.oneC|exact h5.oneC
 turn:=by rintro _ _ _ _ _ _ ⟨_,_,_,_,_,rfl,h1,h2,h3,h4,h5⟩ hs;exact ⟨_,_,_,_,_,rfl,h1.turn hs,h2.turn hs,h3.turn hs,h4.turn hs,h5.turn hs⟩
def blockR:Rep Block where
 es:=12
 pos:=by decide
 R:=fun H K cs x=>∃vp vc ce,cs= .int .i64 x.regs::vp::vc::ce∧tyR.SR H K vp x.params∧insR.SR H K vc x.code∧endR.R H K ce x.fin
 len:=by rintro _ _ _ _ ⟨_,_,ce,rfl,_,_,h⟩;have:=endR.len h;simp [this,endR]
 one:=by
  rintro _ _ _ _ ⟨_,_,ce,rfl,h1,h2,h3⟩ u hu
  simp at hu
  rcases hu with rfl|rfl|rfl|hu
  · rfl
  · exact h1.oneC
  · exact h2.oneC
  · exact endR.one h3 u hu
 turn:=by rintro _ _ _ _ _ _ ⟨_,_,_,rfl,h1,h2,h3⟩ hs;exact ⟨_,_,_,rfl,h1.turn hs,h2.turn hs,endR.turn h3 hs⟩
def funcR:Rep Fun where
 es:=4
 pos:=by decide
 R:=fun H K cs x=>∃vp vr vb,cs=[.int .i64 x.regs,vp,vr,vb]∧tyR.SR H K vp x.params∧tyR.SR H K vr x.results∧blockR.SR H K vb x.blocks
 len:=by rintro _ _ _ _ ⟨_,_,_,rfl,_⟩;rfl
 one:=by
  rintro _ _ _ _ ⟨_,_,_,rfl,h1,h2,h3⟩ u hu
  simp at hu
  rcases hu with rfl|rfl|rfl|rfl <;> first|rfl|exact h1.oneC|exact h2.oneC|exact h3.oneC
 turn:=by rintro _ _ _ _ _ _ ⟨_,_,_,rfl,h1,h2,h3⟩ hs;exact ⟨_,_,_,rfl,h1.turn hs,h2.turn hs,h3.turn hs⟩
def modR:Rep Module where
 es:=1
 pos:=by decide
 R:=fun H K cs x=>∃vf,cs=[vf]∧funcR.SR H K vf x.funcs
 len:=by rintro _ _ _ _ ⟨_,rfl,_⟩;rfl
 one:=by
  rintro _ _ _ _ ⟨_,rfl,h1⟩ u hu
  simp at hu;subst hu;exact h1.oneC
 turn:=by rintro _ _ _ _ _ _ ⟨_,rfl,h1⟩ hs;exact ⟨_,rfl,h1.turn hs⟩

theorem Q1a {c:Cx}{cs:List Value}{x:Ins}(h:insR.at c cs x):∃vr va,cs=[.int .i64 x.op, .int .i64 x.a, .int .i64 x.b, .int .i64 x.c, .int .i64 x.k, .int .i64 x.n,vr,va]∧intR.sl c vr x.regs∧intR.sl c va x.args:=h
theorem Q64 {c:Cx}{cs:List Value}{x:To}(h:toR.at c cs x):∃vr va,cs=[.int .i64 x.block,vr,va]∧intR.sl c vr x.regs∧intR.sl c va x.args:=h
theorem Q22 {c:Cx}{cs:List Value}{x:Tail}(h:endR.at c cs x):∃v1 v2 v3 v4 v5,cs=[.int .i64 x.op, .int .i64 x.a, .int .i64 x.yes.block,v1,v2, .int .i64 x.no.block,v3,v4,v5]∧intR.sl c v1 x.yes.regs∧intR.sl c v2 x.yes.args∧intR.sl c v3 x.no.regs∧intR.sl c v4 x.no.args∧intR.sl c v5 x.args:=h
theorem Q23 {c:Cx}{cs:List Value}{x:Block}(h:blockR.at c cs x):∃vp vc v1 v2 v3 v4 v5,cs=[.int .i64 x.regs,vp,vc, .int .i64 x.fin.op, .int .i64 x.fin.a, .int .i64 x.fin.yes.block,v1,v2, .int .i64 x.fin.no.block,v3,v4,v5]∧tyR.sl c vp x.params∧insR.sl c vc x.code∧intR.sl c v1 x.fin.yes.regs∧intR.sl c v2 x.fin.yes.args∧intR.sl c v3 x.fin.no.regs∧intR.sl c v4 x.fin.no.args∧intR.sl c v5 x.fin.args:=by
 obtain ⟨vp,vc,ce,rfl,h1,h2,v1,v2,v3,v4,v5,rfl,h3⟩:=h
 exact ⟨vp,vc,v1,v2,v3,v4,v5,rfl,h1,h2,h3⟩
theorem Qbc {c:Cx}{x:Block}{vp vc v1 v2 v3 v4 v5:Value}(h1:tyR.sl c vp x.params) (h2:insR.sl c vc x.code) (h3:intR.sl c v1 x.fin.yes.regs) (h4:intR.sl c v2 x.fin.yes.args) (h5:intR.sl c v3 x.fin.no.regs) (h6:intR.sl c v4 x.fin.no.args) (h7:intR.sl c v5 x.fin.args):
 blockR.at c [.int .i64 x.regs,vp,vc, .int .i64 x.fin.op, .int .i64 x.fin.a, .int .i64 x.fin.yes.block,v1,v2, .int .i64 x.fin.no.block,v3,v4,v5] x:=⟨vp,vc,_,rfl,h1,h2,v1,v2,v3,v4,v5,rfl,h3,h4,h5,h6,h7⟩
theorem QM {c:Cx}{cs:List Value}{x:Fun}(h:funcR.at c cs x):∃vp vr vb,cs=[.int .i64 x.regs,vp,vr,vb]∧tyR.sl c vp x.params∧tyR.sl c vr x.results∧blockR.sl c vb x.blocks:=h
theorem Q21 {c:Cx}{cs:List Value}{x:Module}(h:modR.at c cs x):∃vf,cs=[vf]∧funcR.sl c vf x.funcs:=h

section
variable {P:Program}{T:TypeId}
theorem Cod.Of.part {α:Type}{r:Rep α}(c:Cod.Of P T r){H:Heap}{cs:List Value}{x:α}(h:c.cod.rd H cs x):r.R H (· < H.size) cs x:=c.rd _ _ _ h
def Cod.Of.to {TI TL:TypeId}(ci:Cod.Of P TI intR) (cl:Cod.Of P TL intR.list) (h0:fieldAt P T 0=some (0,1,TI)) (h1:fieldAt P T 1=some (1,1,TL)) (h2:fieldAt P T 2=some (2,1,TL)) (hT:P.cellsOf T=3):Cod.Of P T toR:=
 Cod.of (Fld.cod (Fld.more ci.cod h0 (Fld.more cl.cod h1 (Fld.more cl.cod h2 Fld.none))) h0 3 hT) toR rfl fun H cs x h=> by
  obtain ⟨hl,g0,g1,g2,_⟩:=h
  match cs,hl with
  | [a,b,c],_=>
    have e0:[a]=[_]:=ci.part g0
    obtain ⟨v1,e1,s1⟩:=cl.part g1
    obtain ⟨v2,e2,s2⟩:=cl.part g2
    replace e1:[b]=[v1]:=e1
    replace e2:[c]=[v2]:=e2
    simp only [List.cons.injEq,and_true] at e0 e1 e2
    subst e0 e1 e2
    exact ⟨⟨x.1,x.2.1,x.2.2.1⟩,b,c,rfl,s1,s2⟩
def Cod.Of.ins {TI TL TN:TypeId}(ci:Cod.Of P TI intR) (cn:Cod.Of P TN intR) (cl:Cod.Of P TL intR.list) (h0:fieldAt P T 0=some (0,1,TI)) (h1:fieldAt P T 1=some (1,1,TI)) (h2:fieldAt P T 2=some (2,1,TI)) (h3:fieldAt P T 3=some (3,1,TI)) (h4:fieldAt P T 4=some (4,1,TI)) (h5:fieldAt P T 5=some (5,1,TN)) (h6:fieldAt P T 6=some (6,1,TL)) (h7:fieldAt P T 7=some (7,1,TL)) (hT:P.cellsOf T=8):Cod.Of P T insR:=
 Cod.of (Fld.cod (Fld.more ci.cod h0 (Fld.more ci.cod h1 (Fld.more ci.cod h2 (Fld.more ci.cod h3 (Fld.more ci.cod h4 (Fld.more cn.cod h5 (Fld.more cl.cod h6 (Fld.more cl.cod h7 Fld.none)))))))) h0 8 hT) insR rfl fun H cs x h=> by
  obtain ⟨hl,g0,g1,g2,g3,g4,g5,g6,g7,_⟩:=h
  match cs,hl with
  | [a0,a1,a2,a3,a4,a5,a6,a7],_=>
    have e0:[a0]=[_]:=ci.part g0
    have e1:[a1]=[_]:=ci.part g1
    have e2:[a2]=[_]:=ci.part g2
    have e3:[a3]=[_]:=ci.part g3
    have e4:[a4]=[_]:=ci.part g4
    have e5:[a5]=[_]:=cn.part g5
    obtain ⟨v1,e6,s1⟩:=cl.part g6
    obtain ⟨v2,e7,s2⟩:=cl.part g7
    replace e6:[a6]=[v1]:=e6
    replace e7:[a7]=[v2]:=e7
    simp only [List.cons.injEq,and_true] at e0 e1 e2 e3 e4 e5 e6 e7
    subst e0 e1 e2 e3 e4 e5 e6 e7
    exact ⟨⟨x.1,x.2.1,x.2.2.1,x.2.2.2.1,x.2.2.2.2.1,x.2.2.2.2.2.1,x.2.2.2.2.2.2.1,x.2.2.2.2.2.2.2.1⟩,_,_,rfl,s1,s2⟩
def Cod.Of.block {TI TL TC TE:TypeId}(ci:Cod.Of P TI intR) (cl:Cod.Of P TL tyR.list) (cc:Cod.Of P TC insR.list) (ce:Cod.Of P TE endR) (h0:fieldAt P T 0=some (0,1,TI)) (h1:fieldAt P T 1=some (1,1,TL)) (h2:fieldAt P T 2=some (2,1,TC)) (h3:fieldAt P T 3=some (3,9,TE)) (hT:P.cellsOf T=12):Cod.Of P T blockR:=
 Cod.of (Fld.cod (Fld.more ci.cod h0 (Fld.more cl.cod h1 (Fld.more cc.cod h2 (Fld.more ce.cod h3 Fld.none)))) h0 12 hT) blockR rfl fun H cs x h=> by
  obtain ⟨hl,g0,g1,g2,g3,_⟩:=h
  match cs,hl with
  | [a0,a1,a2,a3,a4,a5,a6,a7,a8,a9,a10,a11],_=>
    have e0:[a0]=[_]:=ci.part g0
    obtain ⟨v1,e1,s1⟩:=cl.part g1
    obtain ⟨v2,e2,s2⟩:=cc.part g2
    have s3:=ce.part g3
    replace e1:[a1]=_:=e1
    replace e2:[a2]=_:=e2
    replace s3:endR.R H (· < H.size) [a3,a4,a5,a6,a7,a8,a9,a10,a11] x.2.2.2.1:=s3
    simp only [List.cons.injEq,and_true] at e0 e1 e2
    subst e0 e1 e2
    exact ⟨⟨x.1,x.2.1,x.2.2.1,x.2.2.2.1⟩,_,_,_,rfl,s1,s2,s3⟩
def Cod.Of.func {TI TL TB:TypeId}(ci:Cod.Of P TI intR) (cl:Cod.Of P TL tyR.list) (cb:Cod.Of P TB blockR.list) (h0:fieldAt P T 0=some (0,1,TI)) (h1:fieldAt P T 1=some (1,1,TL)) (h2:fieldAt P T 2=some (2,1,TL)) (h3:fieldAt P T 3=some (3,1,TB)) (hT:P.cellsOf T=4):Cod.Of P T funcR:=
 Cod.of (Fld.cod (Fld.more ci.cod h0 (Fld.more cl.cod h1 (Fld.more cl.cod h2 (Fld.more cb.cod h3 Fld.none)))) h0 4 hT) funcR rfl fun H cs x h=> by
  obtain ⟨hl,g0,g1,g2,g3,_⟩:=h
  match cs,hl with
  | [a0,a1,a2,a3],_=>
    have e0:[a0]=[_]:=ci.part g0
    obtain ⟨v1,e1,s1⟩:=cl.part g1
    obtain ⟨v2,e2,s2⟩:=cl.part g2
    obtain ⟨v3,e3,s3⟩:=cb.part g3
    replace e1:[a1]=_:=e1
    replace e2:[a2]=_:=e2
    replace e3:[a3]=_:=e3
    simp only [List.cons.injEq,and_true] at e0 e1 e2 e3
    subst e0 e1 e2 e3
    exact ⟨⟨x.1,x.2.1,x.2.2.1,x.2.2.2.1⟩,_,_,_,rfl,s1,s2,s3⟩
end
end Go.Lir
namespace Go.Lir
set_option linter.unusedVariables false
def zigI (n:Int):Int:=bitI .xor .u64 (IntKind.u64.wrap (IntKind.u64.wrap n*2 ^ (min (1:Int).toNat IntKind.u64.bits))) (IntKind.u64.wrap (n.fdiv (2 ^ (min (63:Int).toNat IntKind.i64.bits))))
def zig (n:Int):Nat:=(zigI n).toNat
def leb:Nat→Nat→List UInt8
 | 0,_=> []
 | k+1,u=> if u < 128 then [UInt8.ofNat u] else UInt8.ofNat (u % 128+128)::leb k (u / 128)
theorem QfQ:∀(k u:Nat),(leb k u).length≤k
 | 0,_=> by simp [leb]
 | k +1,u=> by
   rw [leb]
   split
   · simp
   · have:=QfQ k (u / 128)
     simp only [List.length_cons];omega
def Q4d (n:Int):List UInt8:=leb 10 (zig n)
def Qd2 (l:List Int):List UInt8:=l.flatMap Q4d
theorem QX (n:Int):(Q4d n).length≤10:=QfQ 10 _
theorem Q8W:∀(l:List Int),(Qd2 l).length≤10*l.length
 | []=> by simp [Qd2]
 | n::l=> by
   have h1:=QX n
   have h2:=Q8W l
   simp only [Qd2,List.flatMap_cons,List.length_append,List.length_cons] at h2 ⊢
   omega
def Qc6 (l:List Int):List UInt8:=Q4d l.length++Qd2 l
mutual
def Ty.bts:Ty→List UInt8
 | .mk k r l=> Q4d k++(if k≠1 then Q4d r else [])++(if k=3 then Q4d l.length++Tys.bts l else [])
def Tys.bts:List Ty→List UInt8
 | []=> []
 | x::l=> x.bts++Tys.bts l
end
def tysB (l:List Ty):List UInt8:=Q4d l.length++Tys.bts l
def To.bts (t:To):List UInt8:=Q4d t.block++Qc6 t.regs++Qc6 t.args
def Tail.bts (e:Tail):List UInt8:=Q4d e.op++(if e.op=1 then e.yes.bts else if e.op=2 then Q4d e.a++e.yes.bts++e.no.bts else if e.op=3 then Qc6 e.args else [])
def Q2O (op:Int):Nat:=if op < 0∨14 < op then 0 else [0,64,11,0,1,33,9,11,3,3,7,1,0,1,56].getD op.toNat 0
def regsB (h:Nat):Nat→List Int→List UInt8
 | _,[]=> []
 | k,n::l=> (if h / 2 ^ k % 2=1 then Q4d n else [])++regsB h (k+1) l
def Ins.bts (x:Ins):List UInt8:=Q4d x.op++regsB (Q2O x.op) 0 [x.a,x.b,x.c,x.k]++(if Q2O x.op / 64 % 2=1 then Q4d x.n else [])++(if Q2O x.op / 16 % 2=1 then Qc6 x.regs else [])++(if Q2O x.op / 32 % 2=1 then Qc6 x.args else [])
end Go.Lir
namespace Go.Lir
set_option linter.unusedVariables false
mutual
def Ty.nodes:Ty→Nat
 | .mk _ _ l=> 1+Tys.nodes l
def Tys.nodes:List Ty→Nat
 | []=> 0
 | x::l=> x.nodes+Tys.nodes l
end
mutual
theorem Ty.size_nodes:∀(t:Ty){n:Int},0≤t.size n→t.size n=n - t.nodes
 | .mk k r l,n,h=> by
   rw [Ty.size] at h ⊢
   rw [Tys.size_nodes l h,Ty.nodes]
   omega
theorem Tys.size_nodes:∀(l:List Ty){n:Int},0≤Tys.size l n→Tys.size l n=n - Tys.nodes l
 | [],n,h=> by rw [Tys.size,Tys.nodes];omega
 | x ::l,n,h=> by
   rw [Tys.size] at h ⊢
   by_cases hn:0≤n
   · rw [if_pos hn] at h ⊢
     have hx:0≤x.size n:=by
      rcases Int.lt_or_le (x.size n) 0 with h1|h1
      · rw [Tys.size_neg l h1] at h;omega
      · exact h1
     rw [Tys.size_nodes l h,Ty.size_nodes x hx,Tys.nodes]
     omega
   · rw [if_neg hn] at h;omega
end
theorem Ty.nodes_of_great {t:Ty}(h:t.great=false):t.nodes≤2000:=by
 unfold Ty.great at h
 simp at h
 have:=Ty.size_nodes t h
 omega
end Go.Lir
namespace Go.Lir
set_option linter.unusedVariables false
def crcStep (c:BitVec 32):BitVec 32:=(c >>> 1) ^^^ (3988292384#32 &&& -(c &&& 1#32))
def crcN:Nat→BitVec 32→BitVec 32
 | 0,c=> c
 | k+1,c=> crcN k (crcStep c)
def crcByte (c:BitVec 32) (x:UInt8):BitVec 32:=crcN 8 (c ^^^ BitVec.ofNat 32 x.toNat)
def crcOf (bs:List UInt8):BitVec 32:=4294967295#32 ^^^ bs.foldl crcByte 4294967295#32
section
variable {P:Program}{l:List GO}{Q:QT}{ρ:Env}{w:World}
end
end Go.Lir
namespace Go.Lir
set_option linter.unusedVariables false
def Block.bts (b:Block):List UInt8:=Q4d b.regs++tysB b.params++Q4d b.code.length++b.code.flatMap Ins.bts++b.fin.bts
def Fun.bts (f:Fun):List UInt8:=Q4d f.regs++tysB f.params++tysB f.results++Q4d f.blocks.length++f.blocks.flatMap Block.bts
def Module.body (m:Module):List UInt8:=[67,72,1]++Q4d m.funcs.length++m.funcs.flatMap Fun.bts
def Ins.Few (x:Ins):Prop:=x.regs.length≤300∧x.args.length≤300
def To.Few (x:To):Prop:=x.regs.length≤300∧x.args.length≤300
def Tail.Few (x:Tail):Prop:=x.yes.Few∧x.no.Few∧x.args.length≤300
def Block.Few (b:Block):Prop:=Tys.great b.params=false∧b.code.length≤200∧(∀i∈b.code,i.Few)∧b.fin.Few
def Fun.Few (f:Fun):Prop:=Tys.great f.params=false∧Tys.great f.results=false∧f.blocks.length≤30∧∀b∈f.blocks,b.Few
def Module.Few (m:Module):Prop:=m.funcs.length≤20∧∀f∈m.funcs,f.Few
theorem Qdd {α:Type}{f:α→List UInt8}{c:Nat}:∀{l:List α},(∀x∈l,(f x).length≤c)→(l.flatMap f).length≤l.length*c
 | [],_=> by simp
 | x::l,h=> by
   have h1:=h x (List.mem_cons_self ..)
   have h2:=Qdd (l:=l) fun y hy=> h y (List.mem_cons_of_mem _ hy)
   rw [List.flatMap_cons,List.length_append,List.length_cons,Nat.succ_mul]
   omega
theorem Qb5 {α:Type}{f:α→List UInt8}{c n:Nat}{l:List α}(h:∀x∈l,(f x).length≤c) (hn:l.length≤n):(l.flatMap f).length≤n*c:=
 Nat.le_trans (Qdd h) (Nat.mul_le_mul_right c hn)
mutual
theorem Ty.bts_len:∀(t:Ty),t.bts.length≤30*t.nodes
 | .mk k r l=> by
   have h1:=Tys.bts_len l
   have h2:=QX k
   have h3:=QX r
   have h4:=QX l.length
   rw [Ty.bts,Ty.nodes]
   simp only [List.length_append]
   split <;> split <;> simp only [List.length_append,List.length_nil] <;> omega
theorem Tys.bts_len:∀(l:List Ty),(Tys.bts l).length≤30*Tys.nodes l
 | []=> by simp [Tys.bts]
 | x::l=> by
   have h1:=Ty.bts_len x
   have h2:=Tys.bts_len l
   rw [Tys.bts,Tys.nodes,List.length_append]
   omega
end
theorem Tys.nodes_few:∀{l:List Ty},(∀x∈l,x.nodes≤2000)→Tys.nodes l≤2000*l.length
 | [],_=> by simp [Tys.nodes]
 | x::l,h=> by
   have h1:=h x (List.mem_cons_self ..)
   have h2:=Tys.nodes_few (l:=l) fun y hy=> h y (List.mem_cons_of_mem _ hy)
   rw [Tys.nodes,List.length_cons]
   omega
theorem Q9b {l:List Ty}(h:Tys.great l=false):(tysB l).length≤12000010:=by
 unfold Tys.great at h
 rw [Bool.or_eq_false_iff] at h
 have hl:l.length≤200:=by have:=of_decide_eq_false h.1;omega
 have h1:=Tys.bts_len l
 have h2:=Tys.nodes_few (l:=l) fun x hx=> Ty.nodes_of_great (by have:=List.any_eq_false.1 h.2 x hx;simpa using this)
 have h3:=QX l.length
 unfold tysB
 rw [List.length_append]
 omega
theorem Q4w {l:List Int}(h:l.length≤300):(Qc6 l).length≤3010:=by
 have h1:=Q8W l
 have h2:=QX l.length
 unfold Qc6
 rw [List.length_append]
 omega
theorem To.bts_few {x:To}(h:x.Few):x.bts.length≤6030:=by
 have h1:=Q4w h.1
 have h2:=Q4w h.2
 have h3:=QX x.block
 unfold To.bts
 simp only [List.length_append]
 omega
theorem Tail.bts_few {x:Tail}(h:x.Few):x.bts.length≤13000:=by
 have h1:=To.bts_few h.1
 have h2:=To.bts_few h.2.1
 have h3:=Q4w h.2.2
 have h4:=QX x.op
 have h5:=QX x.a
 unfold Tail.bts
 rw [List.length_append]
 split
 · omega
 · split
   · simp only [List.length_append];omega
   · split
     · omega
     · simp only [List.length_nil];omega
theorem Ins.bts_few {x:Ins}(h:x.Few):x.bts.length≤6110:=by
 have h1:=Q4w h.1
 have h2:=Q4w h.2
 have h3:=QX x.op
 have h4:=QX x.n
 have ha:=QX x.a
 have hb:=QX x.b
 have hc:=QX x.c
 have hk:=QX x.k
 have h5:(regsB (Q2O x.op) 0 [x.a,x.b,x.c,x.k]).length≤40:=by
  simp only [regsB,List.length_append,List.length_nil]
  split <;> split <;> split <;> split <;> (try simp only [List.length_nil]) <;> omega
 unfold Ins.bts
 simp only [List.length_append]
 split <;> split <;> split <;> (try simp only [List.length_nil]) <;> omega
theorem Block.bts_few {b:Block}(h:b.Few):b.bts.length≤14000000:=by
 have h1:=Q9b h.1
 have h2:=Qb5 (f:=Ins.bts) (c:=6110) (fun x hx=> Ins.bts_few (h.2.2.1 x hx)) h.2.1
 have h3:=Tail.bts_few h.2.2.2
 have h4:=QX b.regs
 have h5:=QX b.code.length
 unfold Block.bts
 simp only [List.length_append]
 omega
theorem Fun.bts_few {f:Fun}(h:f.Few):f.bts.length≤450000000:=by
 have h1:=Q9b h.1
 have h2:=Q9b h.2.1
 have h3:=Qb5 (f:=Block.bts) (c:=14000000) (fun x hx=> Block.bts_few (h.2.2.2 x hx)) h.2.2.1
 have h4:=QX f.regs
 have h5:=QX f.blocks.length
 unfold Fun.bts
 simp only [List.length_append]
 omega
end Go.Lir
namespace Go.Lir
set_option linter.unusedVariables false
abbrev Flt:=Int×Int
def orF (a b:Flt):Flt:=if a.1=0∧b.1≠0 then b else a
def mkF (c at':Int):Flt:=if c=0 then (0,0) else (c,at')
theorem Q39 (a b c:Flt):orF (orF a b) c=orF a (orF b c):=by
 unfold orF
 by_cases h1:a.1=0 <;> by_cases h2:b.1=0 <;> by_cases h3:c.1=0 <;> simp [h1,h2,h3]
theorem QbT {a b:Flt}(h:a.1≠0):orF a b=a:=by unfold orF;rw [if_neg (fun h'=> h h'.1)]
theorem QdH {a b:Flt}(h:b.1=0):orF a b=a:=by unfold orF;rw [if_neg (fun h'=> h'.2 h)]
theorem QdI {b:Flt}(h:b.1=0→b=(0,0)):orF (0,0) b=b:=by
 unfold orF
 by_cases hb:b.1=0
 · rw [h hb];rfl
 · rw [if_pos ⟨rfl,hb⟩]
theorem mkF_0 (at':Int):mkF 0 at'=(0,0):=rfl
theorem mkF_c {c at':Int}(h:c≠0):mkF c at'=(c,at'):=if_neg h
theorem Q40 (c at':Int):(mkF c at').1=c:=by unfold mkF;split <;> simp_all
theorem Q8F (c at':Int):(mkF c at').1=0→mkF c at'=(0,0):=by rw [Q40];rintro rfl;rfl
theorem Q9B {a b:Flt}(ha:a.1=0→a=(0,0)) (hb:b.1=0→b=(0,0)):(orF a b).1=0→orF a b=(0,0):=by
 unfold orF
 split
 · exact hb
 · exact ha
def orC (a b:Int):Int:=if a≠0 then a else b
theorem Q2o {g:Flt}{a b at':Int}:orF (orF g (mkF a at')) (mkF b at')=orF g (mkF (orC a b) at'):=by
 rw [Q39]
 congr 1
 unfold orC orF
 by_cases h:a=0
 · subst h
   by_cases hb:b=0
   · subst hb;rfl
   · simp [mkF,hb]
 · simp [mkF,h]

def fA (op:Int):Bool:=decide (op=2∨op=4∨op=5∨op=6∨op=7∨op=8∨op=9∨op=10∨op=11∨op=13)
def fB (op:Int):Bool:=decide (op=2∨op=7∨op=8∨op=9∨op=10)
def fC (op:Int):Bool:=decide (op=10)
def fK (op:Int):Bool:=decide (op=2∨op=6∨op=7∨op=14)
def fN (op:Int):Bool:=decide (op=1)
def fG (op:Int):Bool:=decide (op=14)
def fR (op:Int):Bool:=decide (op=5∨op=14)
def Ins.odd (x:Ins):Prop:=(fA x.op=false∧x.a≠0)∨(fB x.op=false∧x.b≠0)∨(fC x.op=false∧x.c≠0)∨(fK x.op=false∧x.k≠0)∨(fN x.op=false∧x.n≠0)∨(fG x.op=false∧0 < x.regs.length)∨(fR x.op=false∧0 < x.args.length)
instance (x:Ins):Decidable x.odd:=by unfold Ins.odd;infer_instance
def Q1m (n:Nat) (x:Ins):Int:=
 if x.op=2 then (if x.k < 1∨9 < x.k then 1 else 0)
 else if x.op=5 then (if 8 < x.args.length then 2 else 0)
 else if x.op=6∨x.op=7 then (if x.k < 0∨8≤x.k then 1 else 0)
 else if x.op=14 then (if x.k < 0∨(n:Int)≤x.k then 1 else if 6 < x.regs.length∨8 < x.args.length then 2 else 0)
 else 0
def QE (n:Nat) (x:Ins):Int:=if x.op < 1∨14 < x.op then 3 else if x.odd then 4 else Q1m n x
def Q1O (n:Nat) (t:To) (is:Bool):Int:=
 if is=false then (if t.block≠0∨0 < t.regs.length∨0 < t.args.length then 4 else 0)
 else if t.block < 0∨(n:Int)≤t.block then 1 else if 16 < t.regs.length∨8 < t.args.length then 2 else 0
def Q1M (n:Nat) (e:Tail):Int:=
 if e.op < 1∨3 < e.op then 3
 else if e.op≠2∧e.a≠0∨e.op≠3∧0 < e.args.length then 4
 else if 8 < e.args.length then 2
 else orC (Q1O n e.yes (decide (e.op≠3))) (Q1O n e.no (decide (e.op=2)))
def Q3N (regs:Int):List Ty→Int
 | []=> 0
 | t::l=> orC (t.fault regs) (Q3N regs l)
def QP (l:List Ty) (regs:Int):Int:=if 8 < l.length then 2 else Q3N regs l
def Q3j (f:Nat):Int:=f*10000+9999
def Q3B (f b:Nat):Int:=f*10000+b*100+90
def Q5v (f b:Nat):Int:=f*10000+b*100+91
def Q60 (f b i:Nat):Int:=f*10000+b*100+i
def Q2e (n f b:Nat):Nat→List Ins→Flt
 | _,[]=> (0,0)
 | i,x::l=> orF (mkF (QE n x) (Q60 f b i)) (Q2e n f b (i+1) l)
def Q2v (x:Fun) (b:Nat) (y:Block):Int:=
 if y.regs < x.regs∨16 < y.regs then 1
 else if QP y.params y.regs≠0 then QP y.params y.regs
 else if b=0∧(y.regs≠x.regs∨y.params≠x.params) then 9
 else if 40 < y.code.length then 2 else 0
def Q2C (n f:Nat) (x:Fun) (b:Nat) (y:Block):Flt:=orF (mkF (Q2v x b y) (Q3B f b)) (orF (Q2e n f b 0 y.code) (mkF (Q1M x.blocks.length y.fin) (Q5v f b)))
def Q1G (n f:Nat) (x:Fun):Nat→List Block→Flt
 | _,[]=> (0,0)
 | b,y::l=> orF (Q2C n f x b y) (Q1G n f x (b+1) l)
def Q3h (f:Nat) (x:Fun):Int:=
 if x.regs < 0∨6 < x.regs then 1
 else if QP x.params x.regs≠0 then QP x.params x.regs
 else if QP x.results x.regs≠0 then QP x.results x.regs
 else if x.blocks.length < 1∨12 < x.blocks.length then 2
 else if f=0∧(0 < x.regs∨0 < x.params.length∨∃t∈x.results,t.kind≠1) then 18 else 0
def Q7h (n f:Nat) (x:Fun):Flt:=orF (mkF (Q3h f x) (Q3j f)) (Q1G n f x 0 x.blocks)
def Q2s (n:Nat):Nat→List Fun→Flt
 | _,[]=> (0,0)
 | f,x::l=> orF (Q7h n f x) (Q2s n (f+1) l)
def Module.fault (m:Module):Flt:=orF (mkF (if m.funcs.length < 1∨8 < m.funcs.length then 2 else 0) (-1)) (Q2s m.funcs.length 0 m.funcs)
theorem Q8p {n f b:Nat}:∀{l:List Ins}{i:Nat},(Q2e n f b i l).1=0→Q2e n f b i l=(0,0)
 | [],_=> fun _=> rfl
 | _::_,_=> Q9B (Q8F _ _) Q8p
theorem Qbd {n f:Nat}{x:Fun}{b:Nat}{y:Block}:(Q2C n f x b y).1=0→Q2C n f x b y=(0,0):=Q9B (Q8F _ _) (Q9B Q8p (Q8F _ _))
theorem Q5X {n f:Nat}{x:Fun}:∀{l:List Block}{b:Nat},(Q1G n f x b l).1=0→Q1G n f x b l=(0,0)
 | [],_=> fun _=> rfl
 | _::_,_=> Q9B Qbd Q5X
theorem Q8e {n:Nat}:∀{l:List Fun}{f:Nat},(Q2s n f l).1=0→Q2s n f l=(0,0)
 | [],_=> fun _=> rfl
 | _::_,_=> Q9B (Q9B (Q8F _ _) Q5X) Q8e
theorem Module.fault_z {m:Module}:m.fault.1=0→m.fault=(0,0):=Q9B (Q8F _ _) Q8e

def hasTab:List ByteArray:=[⟨#[]⟩,⟨#[110]⟩,⟨#[97,98,107]⟩,⟨#[]⟩,⟨#[97]⟩,⟨#[97,114]⟩,⟨#[97,107]⟩,⟨#[97,98,107]⟩,⟨#[97,98]⟩,⟨#[97,98]⟩,⟨#[97,98,99]⟩,⟨#[97]⟩,⟨#[]⟩,⟨#[97]⟩,⟨#[107,103,114]⟩]
def hasF (op:Int):ByteArray:=if op < 1∨14 < op then ⟨#[]⟩ else hasTab.getD op.toNat ⟨#[]⟩
def Q1f (s:ByteArray) (c:Nat):Bool:=s.data.toList.any fun b=> decide (b.toNat=c)
theorem op_cases {op:Int}(h1:¬op < 1) (h2:¬14 < op):op=1∨op=2∨op=3∨op=4∨op=5∨op=6∨op=7∨op=8∨op=9∨op=10∨op=11∨op=12∨op=13∨op=14:=by omega
theorem with_all (op:Int) (h:¬(op < 1∨14 < op)):Q1f (hasF op) 97=fA op∧Q1f (hasF op) 98=fB op∧Q1f (hasF op) 99=fC op∧Q1f (hasF op) 107=fK op∧Q1f (hasF op) 110=fN op∧Q1f (hasF op) 103=fG op∧Q1f (hasF op) 114=fR op:=by
 rcases op_cases (op:=op) (by omega) (by omega) with rfl|rfl|rfl|rfl|rfl|rfl|rfl|rfl|rfl|rfl|rfl|rfl|rfl|rfl <;> decide
end Go.Lir
namespace Go.Lir
set_option linter.unusedVariables false
abbrev Got (α:Type):=Except Flt (α×List UInt8)
end Go.Lir
namespace Go.Lir
section
variable {P:Program}{l:List GO}{Q:QT}{ρ:Env}{w:World}
theorem Qfu {a b T T':Nat}{R:Ending→World→Prop}{p o p' o':Nat}{v v':Value}(ha:ρ a= .pointer (some ⟨p,o,none⟩)) (hv:Qad P w ⟨p,o,none⟩ T v) (ha':ρ b= .pointer (some ⟨p',o',none⟩)) (hv':Qad P w ⟨p',o',none⟩ T' v') (h:R (.returned (.tuple #[v,v'])) w):retQ P [.cell a T, .cell b T'] R .ret ρ w:=
 ⟨_,v,ha,hv,_,v',ha',hv',h⟩
end
end Go.Lir
namespace Go.Lir
def crc4 (c:BitVec 32):List UInt8:=[UInt8.ofNat c.toNat,UInt8.ofNat (c >>> 8).toNat,UInt8.ofNat (c >>> 16).toNat,UInt8.ofNat (c >>> 24).toNat]
def Module.enc (m:Module):List UInt8:=m.body++crc4 (crcOf m.body)
end Go.Lir
namespace Go.Lir
section
variable {bs:List UInt8}{at0 i u:Nat}{x:UInt8}{X:Got Nat}
end
end Go.Lir
namespace Go.Lir
section
variable {α:Type}
variable {f:List UInt8→Got α}{N k n0:Nat}{n:Int}{xs:List α}{r r1 r2 r3:List UInt8}{a:α}{e:Flt}{X:Got (List α)}
end
end Go.Lir
namespace Go.Lir
section
variable {bs r:List UInt8}{N:Nat}{e:Flt}{l:List Fun}
end
end Go.Lir
namespace Go.Lir
set_option linter.unusedVariables false
section
variable {α β:Type}{M n:Nat}
def Goodp (M:Nat) (f:List UInt8→Got α) (p:α→Prop):Prop:=∀r x r',r.length≤M→f r= .ok (x,r')→p x∧r'.length≤r.length
theorem Goodp.weak {f:List UInt8→Got α}{p q:α→Prop}(h:Goodp M f p) (hq:∀x,p x→q x):Goodp M f q:=fun r x r' h1 h2=> ⟨hq x (h r x r' h1 h2).1,(h r x r' h1 h2).2⟩
end
end Go.Lir
namespace Go.Lir
section
variable {n:Nat}{r r1 r2 r3 r4:List UInt8}{e:Flt}{op a:Int}{yes no:To}{l:List Int}
variable {h j:Nat}{x:Int×Int×Int×Int}{y:Int}{X:Got (Int×Int×Int×Int)}
end
end Go.Lir
namespace Go.Lir
set_option linter.unusedVariables false
section
variable {α:Type}{n:Nat}
def InI (x:Int):Prop:=-9223372036854775808≤x∧x≤9223372036854775807
def Qdo (l:List Int):Prop:=l.length≤9000000000000000000∧∀x∈l,InI x
def ToOK (t:To):Prop:=InI t.block∧Qdo t.regs∧Qdo t.args
def Qec (x:Ins):Prop:=(InI x.op∧InI x.a∧InI x.b∧InI x.c∧InI x.k∧InI x.n)∧((¬Q2O x.op / 2 ^ 0 % 2=1→x.a=0)∧(¬Q2O x.op / 2 ^ 1 % 2=1→x.b=0)∧(¬Q2O x.op / 2 ^ 2 % 2=1→x.c=0)∧(¬Q2O x.op / 2 ^ 3 % 2=1→x.k=0))∧
 (¬Q2O x.op / 64 % 2=1→x.n=0)∧(¬Q2O x.op / 16 % 2=1→x.regs=[])∧(¬Q2O x.op / 32 % 2=1→x.args=[])∧Qdo x.regs∧Qdo x.args
end
end Go.Lir
namespace Go.Lir
set_option linter.unusedVariables false
def hasB (l:List Bool) (r:Int):Bool:=decide (0≤r) && decide (r < l.length) && l.getD r.toNat false

def Q1X (l:List Bool) (n:Nat):List Int:=((List.range n).filter fun j=> l.getD j false).map Int.ofNat
def Q3g (l:List Bool):List Int:=Q1X l l.length
theorem Q5t (l:List Bool) (n:Nat):Q1X l (n+1)=Q1X l n++if l.getD n false then [(n:Int)] else []:=by
 unfold Q1X
 rw [List.range_succ,List.filter_append,List.map_append]
 congr 1
 by_cases h:l.getD n false=true
 · rw [if_pos h,List.filter_cons_of_pos (by simpa using h)];rfl
 · rw [if_neg h,List.filter_cons_of_neg (by simpa using h)];rfl
theorem QdS (l:List Bool) (n:Nat):(Q1X l n).length≤n:=by
 unfold Q1X
 rw [List.length_map]
 exact Nat.le_trans (List.length_filter_le _ _) (by simp)

def Q1P (l:List Bool) (seen:List Int):List Int→Int
 | []=> if seen.length < (Q3g l).length then 12 else 0
 | x::xs=> if hasB l x then if x∈seen then 13 else Q1P l (seen++[x]) xs else 10
def Q5h (l:List Bool) (ys:List Int):List Bool:=(List.range l.length).map fun (j:Nat)=> decide ((j:Int)∈ys)
theorem QeJ (l:List Bool) (ys:List Int):(Q5h l ys).length=l.length:=by simp [Q5h]
theorem QeI (l:List Bool):Q5h l []=List.replicate l.length false:=by
 apply List.ext_getElem <;> simp [Q5h]
theorem QeK {l:List Bool}{ys:List Int}{r:Int}(h0:0≤r) (h1:r < l.length):(Q5h l ys).getD r.toNat false=decide (r∈ys):=by
 have:r.toNat < l.length:=by omega
 simp [Q5h,List.getD_eq_getElem?_getD,List.getElem?_map,List.getElem?_range this,Int.toNat_of_nonneg h0]
theorem QeH {l:List Bool}{ys:List Int}{r:Int}(h0:0≤r):(Q5h l ys).set r.toNat true=Q5h l (ys++[r]):=by
 apply List.ext_getElem?
 intro j
 simp only [Q5h,List.getElem?_set,List.getElem?_map,List.length_map,List.length_range]
 by_cases hj:j < l.length
 · simp only [List.getElem?_range hj,Option.map_some]
   by_cases he:r.toNat=j
   · subst he;simp [hj,Int.toNat_of_nonneg h0]
   · have:(j:Int)≠r:=by omega
     simp [he,this]
 · have h2:(List.range l.length)[j]?=none:=by simp;omega
   simp only [h2,Option.map_none]
   by_cases he:r.toNat=j
   · subst he;simp [hj]
   · simp [he]
theorem Q45 {l:List Bool}{r:Int}(h:hasB l r=true):0≤r∧r < l.length∧l.getD r.toNat false=true:=by
 simp only [hasB,Bool.and_eq_true,decide_eq_true_eq] at h;exact ⟨h.1.1,h.1.2,h.2⟩


theorem mem_heldL {l:List Bool}{x:Int}:x∈Q3g l↔hasB l x=true:=by
 simp only [Q3g,Q1X,List.mem_map,List.mem_filter,List.mem_range,hasB,Bool.and_eq_true,decide_eq_true_eq]
 constructor
 · rintro ⟨j,⟨h1,h2⟩,rfl⟩
   exact ⟨⟨by simp,by simpa using h1⟩,by simpa using h2⟩
 · rintro ⟨⟨h0,h1⟩,h2⟩
   exact ⟨x.toNat,⟨by omega,h2⟩,by simp;omega⟩
end Go.Lir
namespace Go.Lir
set_option linter.unusedVariables false
structure JS where
 h:List Bool
 l:List Ty
deriving instance DecidableEq for JS
def jval (s:JS) (k:Int):Except Int Ty:=if k < 0 then .error 1 else match s.l[k.toNat]? with
 | none=> .error 1
 | some t=> .ok t
def QC {α β:Type}(x:Except Int α) (f:α→Except Int β):Except Int β:=match x with
 | .error e=> .error e
 | .ok a=> f a
theorem QH {α β:Type}{x:Except Int α}{f:α→Except Int β}{e:Int}(h:x= .error e):QC x f= .error e:=by rw [h];rfl
theorem Q8 {α β:Type}{x:Except Int α}{f:α→Except Int β}{a:α}(h:x= .ok a):QC x f=f a:=by rw [h];rfl
theorem Q2 {α β:Type}{x:Except Int α}{f:α→Except Int β}{b:β}(h:QC x f= .ok b):∃a,x= .ok a∧f a= .ok b:=by
 cases x with
 | error e=> cases h
 | ok a=> exact ⟨a,rfl,h⟩
def Q2b (s:JS) (k kind:Int):Except Int Ty:=QC (jval s k) fun t=> if t.kind≠kind then .error 9 else .ok t
def jat (s:JS) (k kind:Int):Except Int Ty:=QC (Q2b s k kind) fun t=> if hasB s.h t.r=false then .error 10 else .ok t
def jput (s:JS) (t:Ty):Except Int JS:=if s.l.length=80 then .error 2 else .ok ⟨s.h,s.l++[t]⟩
def Q26 (s:JS) (regs:List Int):List Int→List Ty→Except Int Unit
 | k::l,u::want=> QC (jval s k) fun t=> match u.ren regs with
   | none=> .error 9
   | some u'=> if t≠u' then .error 9 else Q26 s regs l want
 | _,_=> .ok ()
def Q50 (s:JS) (l:List Int) (want:List Ty) (regs:List Int):Except Int Unit:=if l.length≠want.length then .error 2 else Q26 s regs l want
def Q3E (t:Ty) (k:Int):Except Int Ty:=match t.l[k.toNat]? with
 | none=> .error 9
 | some u=> .ok u
def Q2r (h:List Bool) (p:List Int):List Int→Except Int Unit
 | []=> .ok ()
 | r::l=> if hasB h r=false then .error 10 else if r∈p then .error 13 else Q2r h (p++[r]) l
def renT (to:List Int) (t:Ty):Ty:=(t.ren to).getD (.mk 0 0 [])
def Q5q (m:Module) (s:JS) (x:Ins):Except Int JS:=match m.funcs[x.k.toNat]? with
 | none=> .error 1
 | some g=> if (x.regs.length:Int)≠g.regs then .error 2 else QC (Q2r s.h [] x.regs) fun _=> QC (Q50 s x.args g.params x.regs) fun _=>
   if 80 < s.l.length+g.results.length then .error 2 else .ok ⟨s.h,s.l++g.results.map (renT x.regs)⟩
def jfields (s:JS):List Int→Except Int (List Ty)
 | []=> .ok []
 | k::l=> QC (jval s k) fun t=> QC (jfields s l) fun ts=> .ok (t::ts)
def number:Ty:= .mk 1 0 []
def Q59 (s:JS) (x:Ins):Except Int JS:=QC (jat s x.a 2) fun t=> QC (jfields s x.args) fun ts=>
 if (Ty.mk 3 t.r ts).fault s.h.length≠0 then .error 19 else jput s (.mk 3 t.r ts)
def jins (m:Module) (f:Fun) (s:JS) (x:Ins):Except Int JS:=
 if x.op=1∨x.op=12 then jput s number
 else if x.op=2 then QC (Q2b s x.a 1) fun _=> QC (Q2b s x.b 1) fun _=> jput s number
 else if x.op=3 then (if s.h.length=16∨s.l.length=80 then .error 2 else .ok ⟨s.h++[true],s.l++[.mk 2 s.h.length []]⟩)
 else if x.op=4 then QC (jat s x.a 2) fun t=> if t.r < f.regs then .error 11 else .ok ⟨s.h.set t.r.toNat false,s.l⟩
 else if x.op=5 then Q59 s x
 else if x.op=6 then QC (jat s x.a 3) fun t=> QC (Q3E t x.k) fun u=> jput s u
 else if x.op=7 then QC (jat s x.a 3) fun t=> QC (Q3E t x.k) fun u=> QC (jval s x.b) fun v=> if u≠v then .error 9 else .ok s
 else if x.op=8 then QC (jat s x.a 2) fun t=> QC (Q2b s x.b 1) fun _=> jput s (.mk 4 t.r [])
 else if x.op=9 then QC (jat s x.a 4) fun _=> QC (Q2b s x.b 1) fun _=> jput s number
 else if x.op=10 then QC (jat s x.a 4) fun _=> QC (Q2b s x.b 1) fun _=> QC (Q2b s x.c 1) fun _=> .ok s
 else if x.op=11 then QC (jat s x.a 4) fun _=> jput s number
 else if x.op=13 then QC (Q2b s x.a 1) fun _=> .ok s
 else Q5q m s x
def jIns (m:Module) (f:Fun) (s:JS) (x:Ins):Int×JS:=if QE m.funcs.length x≠0 then (QE m.funcs.length x,s) else match jins m f s x with
 | .error c=> (c,s)
 | .ok s'=> (0,s')
def Q42 (l:List Int) (n:Nat):Bool:=(List.range n).all fun i=> decide (l[i]?=some (i:Int))
def jto (f:Fun) (s:JS) (t:To):Except Int Unit:=match f.blocks[t.block.toNat]? with
 | none=> .error 1
 | some b=> if (t.regs.length:Int)≠b.regs then .error 2 else if Q42 t.regs f.regs.toNat=false then .error 11 else
   if Q1P s.h [] t.regs≠0 then .error (Q1P s.h [] t.regs) else Q50 s t.args b.params t.regs
def upTo (n:Nat):List Int:=(List.range n).map Int.ofNat
def jend (f:Fun) (s:JS) (e:Tail):Except Int Unit:=
 if e.op=1 then jto f s e.yes
 else if e.op=2 then QC (Q2b s e.a 1) fun _=> QC (jto f s e.yes) fun _=> jto f s e.no
 else QC (Q50 s e.args f.results (upTo f.regs.toNat)) fun _=> if f.regs < (Q3g s.h).length then .error 12 else .ok ()
def jEnd (f:Fun) (s:JS) (e:Tail):Int:=if Q1M f.blocks.length e≠0 then Q1M f.blocks.length e else match jend f s e with
 | .error c=> c
 | .ok _=> 0
def Q1i (y:Block):JS:=⟨List.replicate (min y.regs 16).toNat true,y.params⟩

theorem Q9J {s:JS}{k:Int}{t:Ty}(h:jval s k= .ok t):0≤k∧s.l[k.toNat]?=some t:=by
 unfold jval at h
 split at h
 · cases h
 · rename_i h0
   split at h
   · cases h
   · rename_i u hu;cases h;exact ⟨by omega,hu⟩
theorem jval_no {s:JS}{k:Int}(h:k < 0∨(s.l.length:Int)≤k):jval s k= .error 1:=by
 unfold jval
 by_cases h0:k < 0
 · rw [if_pos h0]
 · rw [if_neg h0,List.getElem?_eq_none (by omega)]
theorem Q9I {s:JS}{k:Int}{t:Ty}(h0:0≤k) (h:s.l[k.toNat]?=some t):jval s k= .ok t:=by
 unfold jval
 rw [if_neg (by omega),h]
theorem Q9M {s:JS}{k kind:Int}{t:Ty}(h:Q2b s k kind= .ok t):0≤k∧s.l[k.toNat]?=some t∧t.kind=kind:=by
 obtain ⟨u,h1,h2⟩:=Q2 h
 split at h2
 · cases h2
 · rename_i hk;cases h2;have:=Q9J h1;exact ⟨this.1,this.2,Classical.not_not.1 hk⟩
theorem Q91 {s:JS}{k kind:Int}{t:Ty}(h:jat s k kind= .ok t):0≤k∧s.l[k.toNat]?=some t∧t.kind=kind∧hasB s.h t.r=true:=by
 obtain ⟨u,h1,h2⟩:=Q2 h
 split at h2
 · cases h2
 · rename_i hk;cases h2;have:=Q9M h1;exact ⟨this.1,this.2.1,this.2.2,by simpa using hk⟩
theorem Q9L {s s':JS}{t:Ty}(h:jput s t= .ok s'):s.l.length≠80∧s'.h=s.h∧s'.l=s.l++[t]:=by
 unfold jput at h
 split at h
 · cases h
 · rename_i hk;cases h;exact ⟨hk,rfl,rfl⟩
structure JStep (x:Ins) (s s':JS):Prop where
 len:s.l.length≤80→s'.l.length≤80
 pre:∃more,s'.l=s.l++more∧(x.op≠14→more.length≤1)∧(x.op=3→more.length=1)∧(x.op=4→more=[])
 new:x.op=3→s'.h=s.h++[true]∧s.h.length≠16
 free:x.op=4→∃t,0≤x.a∧s.l[x.a.toNat]?=some t∧t.kind=2∧hasB s.h t.r=true∧s'.h=s.h.set t.r.toNat false
 else_:x.op≠3→x.op≠4→s'.h=s.h
theorem Q3c {x:Ins}{s s':JS}{t:Ty}(h:jput s t= .ok s') (h3:x.op≠3) (h4:x.op≠4):JStep x s s':=by
 obtain ⟨h1,h2,h5⟩:=Q9L h
 refine ⟨fun hl=> by rw [h5,List.length_append];simp only [List.length_cons,List.length_nil];omega,⟨[t],h5,fun _=> by simp,fun h=> absurd h h3,fun h=> absurd h h4⟩,fun h=> absurd h h3,fun h=> absurd h h4,fun _ _=> h2⟩
theorem Q6s {x:Ins}{s:JS}(h3:x.op≠3) (h4:x.op≠4):JStep x s s:=
 ⟨fun hl=> hl,⟨[],by simp,fun _=> by simp,fun h=> absurd h h3,fun h=> absurd h h4⟩,fun h=> absurd h h3,fun h=> absurd h h4,fun _ _=> rfl⟩
theorem QfU {m:Module}{f:Fun}{s s':JS}{x:Ins}(hop:1≤x.op∧x.op≤14) (h:jins m f s x= .ok s'):JStep x s s':=by
 unfold jins at h
 by_cases h1:x.op=1∨x.op=12
 · rw [if_pos h1] at h;exact Q3c h (by omega) (by omega)
 rw [if_neg h1] at h
 by_cases h2:x.op=2
 · rw [if_pos h2] at h;obtain ⟨_,_,h⟩:=Q2 h;obtain ⟨_,_,h⟩:=Q2 h;exact Q3c h (by omega) (by omega)
 rw [if_neg h2] at h
 by_cases hc:x.op=3
 · rw [if_pos hc] at h
   by_cases hn:s.h.length=16∨s.l.length=80
   · rw [if_pos hn] at h;cases h
   · rw [if_neg hn] at h
     cases h
     exact ⟨fun hl=> by simp only [List.length_append,List.length_cons,List.length_nil];omega,⟨[_],rfl,fun _=> by simp,fun _=> rfl,fun h=> by omega⟩,fun _=> ⟨rfl,by omega⟩,fun h=> by omega,fun h=> absurd hc h⟩
 rw [if_neg hc] at h
 by_cases hc4:x.op=4
 · rw [if_pos hc4] at h
   obtain ⟨t,h1,h⟩:=Q2 h
   by_cases hk:t.r < f.regs
   · rw [if_pos hk] at h;cases h
   · rw [if_neg hk] at h
     cases h
     obtain ⟨a1,a2,a3,a4⟩:=Q91 h1
     exact ⟨fun hl=> hl,⟨[],by simp,fun _=> by simp,fun h=> by omega,fun _=> rfl⟩,fun h=> by omega,fun _=> ⟨t,a1,a2,a3,a4,rfl⟩,fun _ h=> absurd hc4 h⟩
 rw [if_neg hc4] at h
 by_cases h5:x.op=5
 · rw [if_pos h5] at h
   unfold Q59 at h
   obtain ⟨t,_,h⟩:=Q2 h;obtain ⟨ts,_,h⟩:=Q2 h
   by_cases hk:(Ty.mk 3 t.r ts).fault s.h.length≠0
   · rw [if_pos hk] at h;cases h
   · rw [if_neg hk] at h;exact Q3c h (by omega) (by omega)
 rw [if_neg h5] at h
 by_cases h6:x.op=6
 · rw [if_pos h6] at h;obtain ⟨_,_,h⟩:=Q2 h;obtain ⟨_,_,h⟩:=Q2 h;exact Q3c h (by omega) (by omega)
 rw [if_neg h6] at h
 by_cases h7:x.op=7
 · rw [if_pos h7] at h
   obtain ⟨_,_,h⟩:=Q2 h;obtain ⟨u,_,h⟩:=Q2 h;obtain ⟨v,_,h⟩:=Q2 h
   by_cases hk:u≠v
   · rw [if_pos hk] at h;cases h
   · rw [if_neg hk] at h;cases h;exact Q6s (by omega) (by omega)
 rw [if_neg h7] at h
 by_cases h8:x.op=8
 · rw [if_pos h8] at h;obtain ⟨_,_,h⟩:=Q2 h;obtain ⟨_,_,h⟩:=Q2 h;exact Q3c h (by omega) (by omega)
 rw [if_neg h8] at h
 by_cases h9:x.op=9
 · rw [if_pos h9] at h;obtain ⟨_,_,h⟩:=Q2 h;obtain ⟨_,_,h⟩:=Q2 h;exact Q3c h (by omega) (by omega)
 rw [if_neg h9] at h
 by_cases h10:x.op=10
 · rw [if_pos h10] at h;obtain ⟨_,_,h⟩:=Q2 h;obtain ⟨_,_,h⟩:=Q2 h;obtain ⟨_,_,h⟩:=Q2 h;cases h;exact Q6s (by omega) (by omega)
 rw [if_neg h10] at h
 by_cases h11:x.op=11
 · rw [if_pos h11] at h;obtain ⟨_,_,h⟩:=Q2 h;exact Q3c h (by omega) (by omega)
 rw [if_neg h11] at h
 by_cases h13:x.op=13
 · rw [if_pos h13] at h;obtain ⟨_,_,h⟩:=Q2 h;cases h;exact Q6s (by omega) (by omega)
 rw [if_neg h13] at h
 unfold Q5q at h
 split at h
 · cases h
 · rename_i g hg
   by_cases hr:(x.regs.length:Int)≠g.regs
   · rw [if_pos hr] at h;cases h
   · rw [if_neg hr] at h
     obtain ⟨_,_,h⟩:=Q2 h;obtain ⟨_,_,h⟩:=Q2 h
     by_cases hn:80 < s.l.length+g.results.length
     · rw [if_pos hn] at h;cases h
     · rw [if_neg hn] at h
       cases h
       exact ⟨fun hl=> by rw [List.length_append,List.length_map];omega,⟨_,rfl,fun h=> by omega,fun h=> by omega,fun h=> by omega⟩,fun h=> by omega,fun h=> by omega,fun _ _=> rfl⟩
theorem Q2X {n:Nat}{x:Ins}(h:QE n x=0):1≤x.op∧x.op≤14:=by
 unfold QE at h
 split at h
 · cases h
 · omega
section
variable {s:JS}{regs l:List Int}{want:List Ty}{k:Nat}{x c:Int}{u u' t:Ty}
theorem jargs_e (hx:l[k]?=some x) (hu:want[k]?=some u) (h:jval s x= .error c):Q26 s regs (l.drop k) (want.drop k)= .error c:=by
 rw [Q7 hx,Q7 hu,Q26,QH h]
theorem Qc3 (hx:l[k]?=some x) (hu:want[k]?=some u) (h:jval s x= .ok t) (hn:u.ren regs=none):Q26 s regs (l.drop k) (want.drop k)= .error 9:=by
 rw [Q7 hx,Q7 hu,Q26,Q8 h,hn]
theorem Qc4 (hx:l[k]?=some x) (hu:want[k]?=some u) (h:jval s x= .ok t) (hn:u.ren regs=some u') (hd:t≠u'):Q26 s regs (l.drop k) (want.drop k)= .error 9:=by
 rw [Q7 hx,Q7 hu,Q26,Q8 h,hn];exact if_pos hd
theorem jargs_s (hx:l[k]?=some x) (hu:want[k]?=some u) (h:jval s x= .ok t) (hn:u.ren regs=some u') (hd:t=u'):Q26 s regs (l.drop k) (want.drop k)=Q26 s regs (l.drop (k+1)) (want.drop (k+1)):=by
 rw [Q7 hx,Q7 hu,Q26,Q8 h,hn];exact if_neg (fun h=> h hd)
theorem jargs_z (h:l.length≤k):Q26 s regs (l.drop k) (want.drop k)= .ok ():=by
 rw [List.drop_of_length_le h,Q26]
 intro k l u w h;cases h
end
section
variable {m:Module}{f:Fun}{s:JS}{x:Ins}
theorem Q6M (h:x.op=1∨x.op=12):jins m f s x=(jput s number):=by
 unfold jins;rw [if_pos (by omega)]
theorem Q81 (h:x.op=2):jins m f s x=(QC (Q2b s x.a 1) fun _=> QC (Q2b s x.b 1) fun _=> jput s number):=by
 unfold jins;rw [if_neg (by omega),if_pos (by omega)]
theorem QaU (h:x.op=3):jins m f s x=(if s.h.length=16∨s.l.length=80 then .error 2 else .ok ⟨s.h++[true],s.l++[.mk 2 s.h.length []]⟩):=by
 unfold jins;rw [if_neg (by omega),if_neg (by omega),if_pos (by omega)]
theorem Q8Y (h:x.op=4):jins m f s x=(QC (jat s x.a 2) fun t=> if t.r < f.regs then .error 11 else .ok ⟨s.h.set t.r.toNat false,s.l⟩):=by
 unfold jins;rw [if_neg (by omega),if_neg (by omega),if_neg (by omega),if_pos (by omega)]
theorem QaT (h:x.op=5):jins m f s x=(Q59 s x):=by
 unfold jins;rw [if_neg (by omega),if_neg (by omega),if_neg (by omega),if_neg (by omega),if_pos (by omega)]
theorem Q80 (h:x.op=6):jins m f s x=(QC (jat s x.a 3) fun t=> QC (Q3E t x.k) fun u=> jput s u):=by
 unfold jins;rw [if_neg (by omega),if_neg (by omega),if_neg (by omega),if_neg (by omega),if_neg (by omega),if_pos (by omega)]
theorem Q2z (h:x.op=7):jins m f s x=(QC (jat s x.a 3) fun t=> QC (Q3E t x.k) fun u=> QC (jval s x.b) fun v=> if u≠v then .error 9 else .ok s):=by
 unfold jins;rw [if_neg (by omega),if_neg (by omega),if_neg (by omega),if_neg (by omega),if_neg (by omega),if_neg (by omega),if_pos (by omega)]
theorem Q7Z (h:x.op=8):jins m f s x=(QC (jat s x.a 2) fun t=> QC (Q2b s x.b 1) fun _=> jput s (.mk 4 t.r [])):=by
 unfold jins;rw [if_neg (by omega),if_neg (by omega),if_neg (by omega),if_neg (by omega),if_neg (by omega),if_neg (by omega),if_neg (by omega),if_pos (by omega)]
theorem Q7Y (h:x.op=9):jins m f s x=(QC (jat s x.a 4) fun _=> QC (Q2b s x.b 1) fun _=> jput s number):=by
 unfold jins;rw [if_neg (by omega),if_neg (by omega),if_neg (by omega),if_neg (by omega),if_neg (by omega),if_neg (by omega),if_neg (by omega),if_neg (by omega),if_pos (by omega)]
theorem Q5o (h:x.op=10):jins m f s x=(QC (jat s x.a 4) fun _=> QC (Q2b s x.b 1) fun _=> QC (Q2b s x.c 1) fun _=> .ok s):=by
 unfold jins;rw [if_neg (by omega),if_neg (by omega),if_neg (by omega),if_neg (by omega),if_neg (by omega),if_neg (by omega),if_neg (by omega),if_neg (by omega),if_neg (by omega),if_pos (by omega)]
theorem Q6u (h:x.op=11):jins m f s x=(QC (jat s x.a 4) fun _=> jput s number):=by
 unfold jins;rw [if_neg (by omega),if_neg (by omega),if_neg (by omega),if_neg (by omega),if_neg (by omega),if_neg (by omega),if_neg (by omega),if_neg (by omega),if_neg (by omega),if_neg (by omega),if_pos (by omega)]
theorem Q82 (h:x.op=13):jins m f s x=(QC (Q2b s x.a 1) fun _=> .ok s):=by
 unfold jins;rw [if_neg (by omega),if_neg (by omega),if_neg (by omega),if_neg (by omega),if_neg (by omega),if_neg (by omega),if_neg (by omega),if_neg (by omega),if_neg (by omega),if_neg (by omega),if_neg (by omega),if_pos (by omega)]
theorem Q6t (h:x.op=14):jins m f s x=(Q5q m s x):=by
 unfold jins;rw [if_neg (by omega),if_neg (by omega),if_neg (by omega),if_neg (by omega),if_neg (by omega),if_neg (by omega),if_neg (by omega),if_neg (by omega),if_neg (by omega),if_neg (by omega),if_neg (by omega),if_neg (by omega)]
theorem Q43 {t:Ty}(h:s.l.length≠80):jput s t= .ok ⟨s.h,s.l++[t]⟩:=if_neg h
theorem Q5n {t:Ty}(h:s.l.length=80):jput s t= .error 2:=if_pos h
theorem QfX {q:Nat}{k c:Int}{ts:List Ty}(hx:x.args[q]?=some k) (hd:jfields s x.args=QC (jfields s (x.args.drop q)) fun l=> .ok (ts++l)) (h:jval s k= .error c):jfields s x.args= .error c:=by
 rw [hd,Q7 hx,jfields,QH h];rfl
theorem QfW {q:Nat}{k:Int}{t:Ty}{ts:List Ty}(hx:x.args[q]?=some k) (hd:jfields s x.args=QC (jfields s (x.args.drop q)) fun l=> .ok (ts++l)) (h:jval s k= .ok t):jfields s x.args=QC (jfields s (x.args.drop (q+1))) fun l=> .ok ((ts++[t])++l):=by
 rw [hd,Q7 hx,jfields,Q8 h]
 cases jfields s (x.args.drop (q+1)) with
 | error c=> rfl
 | ok l=> simp [QC]
theorem QfV {q:Nat}{ts:List Ty}(hd:jfields s x.args=QC (jfields s (x.args.drop q)) fun l=> .ok (ts++l)) (h:x.args.length≤q):jfields s x.args= .ok ts:=by
 rw [hd,List.drop_of_length_le h,jfields];simp [QC]
end
theorem kept_s (l:List Int) (n:Nat):Q42 l (n+1)=(Q42 l n && decide (l[n]?=some (n:Int))):=by
 unfold Q42;rw [List.range_succ,List.all_append];simp
theorem kept_no {l:List Int}{n q:Nat}(hq:q < n) (h:l[q]?≠some (q:Int)):Q42 l n=false:=by
 unfold Q42
 rw [List.all_eq_false]
 exact ⟨q,List.mem_range.2 hq,by simpa using h⟩
theorem upTo_s (n:Nat):upTo (n+1)=upTo n++[(n:Int)]:=by unfold upTo;rw [List.range_succ,List.map_append];rfl
section
variable {f:Fun}{s:JS}{t:To}{b:Block}{e:Tail}
theorem jto_2 (hb:f.blocks[t.block.toNat]?=some b) (h:(t.regs.length:Int)≠b.regs):jto f s t= .error 2:=by unfold jto;rw [hb];exact if_pos h
theorem jto_11 (hb:f.blocks[t.block.toNat]?=some b) (h:¬(t.regs.length:Int)≠b.regs) (h2:Q42 t.regs f.regs.toNat=false):jto f s t= .error 11:=by unfold jto;rw [hb];simp only;rw [if_neg h,if_pos h2]
theorem jto_p (hb:f.blocks[t.block.toNat]?=some b) (h:¬(t.regs.length:Int)≠b.regs) (h2:Q42 t.regs f.regs.toNat=true) (h3:Q1P s.h [] t.regs≠0):jto f s t= .error (Q1P s.h [] t.regs):=by unfold jto;rw [hb];simp only;rw [if_neg h,if_neg (by rw [h2];decide),if_pos h3]
theorem jto_a (hb:f.blocks[t.block.toNat]?=some b) (h:¬(t.regs.length:Int)≠b.regs) (h2:Q42 t.regs f.regs.toNat=true) (h3:Q1P s.h [] t.regs=0):jto f s t=Q50 s t.args b.params t.regs:=by unfold jto;rw [hb];simp only;rw [if_neg h,if_neg (by rw [h2];decide),if_neg (fun h=> h h3)]
theorem QfZ (h:e.op=1):jend f s e=jto f s e.yes:=by unfold jend;rw [if_pos h]
theorem QaV (h:e.op=2):jend f s e=QC (Q2b s e.a 1) fun _=> QC (jto f s e.yes) fun _=> jto f s e.no:=by unfold jend;rw [if_neg (by omega),if_pos h]
theorem Qd6 (h:e.op=3):jend f s e=QC (Q50 s e.args f.results (upTo f.regs.toNat)) fun _=> if f.regs < (Q3g s.h).length then .error 12 else .ok ():=by unfold jend;rw [if_neg (by omega),if_neg (by omega)]
theorem Q3O {n:Nat}(h:Q1O n t true=0):0≤t.block∧t.block < n:=by
 unfold Q1O at h
 simp at h;omega
theorem Q3J {n:Nat}(h:Q1M n e=0):1≤e.op∧e.op≤3∧Q1O n e.yes (decide (e.op≠3))=0∧Q1O n e.no (decide (e.op=2))=0:=by
 unfold Q1M at h
 split at h
 · cases h
 · split at h
   · cases h
   · split at h
     · cases h
     · unfold orC at h
       split at h
       · rename_i h1;exact absurd h h1
       · rename_i h1;exact ⟨by omega,by omega,Classical.not_not.1 h1,h⟩
end
def NZ {α:Type}(x:Except Int α):Prop:=∀c,x= .error c→c≠0
theorem NZ.e {α:Type}{c:Int}(h:c≠0):NZ (.error c:Except Int α):=fun _ h'=> by cases h';exact h
theorem NZ.o {α:Type}(a:α):NZ (.ok a:Except Int α):=fun _ h'=> by cases h'
theorem NZ.bind {α β:Type}{x:Except Int α}{f:α→Except Int β}(h1:NZ x) (h2:∀a,x= .ok a→NZ (f a)):NZ (QC x f):=by
 cases x with
 | error e=> exact fun c h=> by cases h;exact h1 _ rfl
 | ok a=> exact h2 a rfl
theorem NZ.ite {α:Type}{p:Prop} [Decidable p] {a b:Except Int α}(h1:NZ a) (h2:NZ b):NZ (if p then a else b):=by
 split
 · exact h1
 · exact h2
theorem Q9K (s:JS) (k:Int):NZ (jval s k):=by
 unfold jval
 split
 · exact .e (by decide)
 · split
   · exact .e (by decide)
   · exact .o _
theorem Q9N (s:JS) (k kind:Int):NZ (Q2b s k kind):=by
 refine .bind (Q9K s k) fun t _=> ?_
 split
 · exact .e (by decide)
 · exact .o _
theorem jat_nz (s:JS) (k kind:Int):NZ (jat s k kind):=by
 refine .bind (Q9N s k kind) fun t _=> ?_
 split
 · exact .e (by decide)
 · exact .o _
theorem jput_nz (s:JS) (t:Ty):NZ (jput s t):=by
 unfold jput
 split
 · exact .e (by decide)
 · exact .o _
theorem QaW (s:JS) (regs:List Int):∀(l:List Int) (want:List Ty),NZ (Q26 s regs l want)
 | [],[]=> by unfold Q26;exact .o _
 | [],_::_=> by unfold Q26;exact .o _
 | _::_,[]=> by unfold Q26;exact .o _
 | k ::l,u::want=> by
   unfold Q26
   refine .bind (Q9K s k) fun t _=> ?_
   split
   · exact .e (by decide)
   · split
     · exact .e (by decide)
     · exact QaW s regs l want
theorem Q9O (s:JS) (l:List Int) (want:List Ty) (regs:List Int):NZ (Q50 s l want regs):=by
 unfold Q50
 split
 · exact .e (by decide)
 · exact QaW s regs l want
theorem QfY (t:Ty) (k:Int):NZ (Q3E t k):=by
 unfold Q3E
 split
 · exact .e (by decide)
 · exact .o _
theorem Qd5 (h:List Bool):∀(l p:List Int),NZ (Q2r h p l)
 | [],_=> by unfold Q2r;exact .o _
 | r ::l,p=> by
   unfold Q2r
   split
   · exact .e (by decide)
   · split
     · exact .e (by decide)
     · exact Qd5 h l _
theorem Q90 (s:JS):∀(l:List Int),NZ (jfields s l)
 | []=> by unfold jfields;exact .o _
 | k::l=> by
   unfold jfields
   exact .bind (Q9K s k) fun _ _=> .bind (Q90 s l) fun _ _=> .o _
theorem jcall_nz (m:Module) (s:JS) (x:Ins):NZ (Q5q m s x):=by
 unfold Q5q
 split
 · exact .e (by decide)
 · split
   · exact .e (by decide)
   · refine .bind (Qd5 _ _ _) fun _ _=> .bind (Q9O _ _ _ _) fun _ _=> ?_
     split
     · exact .e (by decide)
     · exact .o _
theorem jins_nz (m:Module) (f:Fun) (s:JS) (x:Ins):NZ (jins m f s x):=by
 unfold jins Q59
 repeat' (first|exact jput_nz _ _|exact jcall_nz _ _ _|exact .o _|exact .e (by decide)|refine .bind (Q9N _ _ _) fun _ _=> ?_|refine .bind (jat_nz _ _ _) fun _ _=> ?_|refine .bind (QfY _ _) fun _ _=> ?_|refine .bind (Q9K _ _) fun _ _=> ?_|refine .bind (Q90 _ _) fun _ _=> ?_|refine .ite ?_ ?_)
theorem Qg1 {m:Module}{f:Fun}{s:JS}{x:Ins}(h:(jIns m f s x).1=0):QE m.funcs.length x=0∧jins m f s x= .ok (jIns m f s x).2:=by
 unfold jIns at h ⊢
 split at h
 · rename_i hf;exact absurd h hf
 · rename_i hf
   rw [if_neg hf]
   refine ⟨Classical.not_not.1 hf,?_⟩
   cases hj:jins m f s x with
   | error c=> rw [hj] at h;exact absurd h (jins_nz m f s x c hj)
   | ok s'=> rfl
theorem jIns_no {m:Module}{f:Fun}{s:JS}{x:Ins}(h:(jIns m f s x).1≠0):(jIns m f s x).2=s:=by
 unfold jIns at h ⊢
 split
 · rfl
 · rename_i hf
   rw [if_neg hf] at h
   cases hj:jins m f s x with
   | error c=> rfl
   | ok s'=> rw [hj] at h;exact absurd rfl h
end Go.Lir
namespace Go.Lir
set_option linter.unusedVariables false
theorem Q3o {a b:Flt}(h:(orF a b).1=0):a.1=0∧b.1=0:=by
 unfold orF at h
 split at h
 · rename_i hc;exact absurd h hc.2
 · rename_i hc
   refine ⟨h,?_⟩
   exact Classical.byContradiction fun hb=> hc ⟨h,hb⟩
theorem Q5T {n f b:Nat}:∀{l:List Ins}{i:Nat},(Q2e n f b i l).1=0→∀x∈l,QE n x=0
 | [],_,_,x,hx=> by cases hx
 | y::l,i,h,x,hx=> by
   rw [Q2e] at h
   obtain ⟨h1,h2⟩:=Q3o h
   rw [Q40] at h1
   rcases List.mem_cons.1 hx with rfl|hx
   · exact h1
   · exact Q5T h2 x hx
theorem Q4G {n f:Nat}{x:Fun}:∀{l:List Block}{b0:Nat},(Q1G n f x b0 l).1=0→∀(b:Nat) (y:Block),l[b]?=some y→(Q2C n f x (b0+b) y).1=0
 | [],_,_,b,y,hy=> by cases hy
 | z::l,b0,h,b,y,hy=> by
   rw [Q1G] at h
   obtain ⟨h1,h2⟩:=Q3o h
   cases b with
   | zero=> rw [List.getElem?_cons_zero] at hy;cases hy;exact h1
   | succ b=> rw [List.getElem?_cons_succ] at hy;rw [show b0+(b+1)=b0+1+b by omega];exact Q4G h2 b y hy
theorem Q46 {n:Nat}:∀{l:List Fun}{f0:Nat},(Q2s n f0 l).1=0→∀(f:Nat) (x:Fun),l[f]?=some x→(Q7h n (f0+f) x).1=0
 | [],_,_,b,y,hy=> by cases hy
 | z::l,b0,h,b,y,hy=> by
   rw [Q2s] at h
   obtain ⟨h1,h2⟩:=Q3o h
   cases b with
   | zero=> rw [List.getElem?_cons_zero] at hy;cases hy;exact h1
   | succ b=> rw [List.getElem?_cons_succ] at hy;rw [show b0+(b+1)=b0+1+b by omega];exact Q46 h2 b y hy
theorem Q8j {m:Module}(h:m.fault.1=0):1≤m.funcs.length∧m.funcs.length≤8:=by
 have h1:=(Q3o h).1
 rw [Q40] at h1
 split at h1
 · cases h1
 · omega
theorem Q1S {m:Module}(h:m.fault.1=0){f:Nat}{x:Fun}(hx:m.funcs[f]?=some x):Q3h f x=0:=by
 have h1:=Q46 (Q3o h).2 f x hx
 rw [Nat.zero_add] at h1
 have h2:=(Q3o h1).1
 rwa [Q40] at h2
theorem Q1F {m:Module}(h:m.fault.1=0){f b:Nat}{x:Fun}{y:Block}(hx:m.funcs[f]?=some x) (hy:x.blocks[b]?=some y):Q2v x b y=0∧(∀i∈y.code,QE m.funcs.length i=0)∧Q1M x.blocks.length y.fin=0:=by
 have h1:=Q46 (Q3o h).2 f x hx
 have h2:=Q4G (Q3o h1).2 b y hy
 obtain ⟨h3,h4⟩:=Q3o h2
 obtain ⟨h5,h6⟩:=Q3o h4
 rw [Q40] at h3 h6
 rw [Nat.zero_add] at h3
 exact ⟨h3,Q5T h5,h6⟩
theorem Q1Z {x:Fun}{b:Nat}{y:Block}(h:Q2v x b y=0):x.regs≤y.regs∧y.regs≤16∧QP y.params y.regs=0∧(b=0→y.regs=x.regs∧y.params=x.params)∧y.code.length≤40:=by
 unfold Q2v at h
 split at h
 · cases h
 · rename_i h1
   split at h
   · rename_i h2;exact absurd h h2
   · rename_i h2
     split at h
     · cases h
     · rename_i h3
       split at h
       · cases h
       · refine ⟨by omega,by omega,Classical.not_not.1 h2,fun hb=> ?_,by omega⟩
         refine ⟨Classical.byContradiction fun hr=> h3 ⟨hb, .inl hr⟩,Classical.byContradiction fun hr=> h3 ⟨hb, .inr hr⟩⟩
theorem Q1E {f:Nat}{x:Fun}(h:Q3h f x=0):0≤x.regs∧x.regs≤6∧QP x.params x.regs=0∧QP x.results x.regs=0∧1≤x.blocks.length∧x.blocks.length≤12:=by
 unfold Q3h at h
 split at h
 · cases h
 · rename_i h1
   split at h
   · rename_i h2;exact absurd h h2
   · rename_i h2
     split at h
     · rename_i h3;exact absurd h h3
     · rename_i h3
       split at h
       · cases h
       · exact ⟨by omega,by omega,Classical.not_not.1 h2,Classical.not_not.1 h3,by omega,by omega⟩
theorem QaO {l:List Ty}{r:Int}(h:QP l r=0):l.length≤8:=by
 unfold QP at h
 split at h
 · cases h
 · omega
theorem orC_z {a b:Int}(h:orC a b=0):a=0∧b=0:=by
 unfold orC at h
 split at h
 · rename_i h1;exact absurd h h1
 · rename_i h1;exact ⟨Classical.not_not.1 h1,h⟩
theorem Q7q {r:Int}:∀{l:List Ty},Q3N r l=0→∀t∈l,t.fault r=0
 | [],_,t,ht=> by cases ht
 | x::l,h,t,ht=> by
   rw [Q3N] at h
   obtain ⟨h1,h2⟩:=orC_z h
   rcases List.mem_cons.1 ht with rfl|ht
   · exact h1
   · exact Q7q h2 t ht
theorem Q2I {l:List Ty}{r:Int}(h:QP l r=0):∀t∈l,t.fault r=0:=by
 unfold QP at h
 split at h
 · cases h
 · exact Q7q h
theorem Ty.ren_short:∀(t:Ty){to:List Int}{u:Ty},t.Short→t.ren to=some u→u.Short:=by
 intro t
 induction t using Ty.ind with
 | h k r l ih =>
   intro to u hs h
   obtain ⟨hl,hp⟩:=hs.parts
   rw [Ty.ren] at h
   split at h
   · cases h
   · split at h
     · cases h
     · rename_i m hm
       cases h
       have key:∀(l:List Ty) (m:List Ty),(∀x∈l,x.Short∧∀{u:Ty},x.Short→x.ren to=some u→u.Short)→Tys.ren l to=some m→m.length=l.length∧∀y∈m,y.Short:=by
        intro l
        induction l with
        | nil=> intro m _ h;rw [Tys.ren] at h;cases h;exact ⟨rfl,by simp⟩
        | cons x l ihl=>
          intro m hx h
          rw [Tys.ren] at h
          cases h1:x.ren to with
          | none=> rw [h1] at h;cases h
          | some y=>
            rw [h1] at h
            cases h2:Tys.ren l to with
            | none=> rw [h2] at h;cases h
            | some m2=>
              rw [h2] at h
              simp only [Option.some.injEq] at h
              subst h
              obtain ⟨h3,h4⟩:=ihl m2 (fun z hz=> hx z (List.mem_cons_of_mem _ hz)) h2
              refine ⟨by simp [h3],fun z hz=> ?_⟩
              rcases List.mem_cons.1 hz with rfl|hz
              · obtain ⟨h5,h6⟩:=hx x (List.mem_cons_self ..);exact h6 h5 h1
              · exact h4 z hz
       obtain ⟨h3,h4⟩:=key l m (fun x hx=> ⟨hp x hx,fun hs h=> ih x hx hs h⟩) hm
       exact .mk (by omega) h4
theorem Ty.Short.part {t:Ty}(h:t.Short):∀u∈t.l,u.Short:=by
 obtain ⟨k,r,l⟩:=t
 exact h.parts.2
theorem QdA {t:Ty}{to:List Int}(h:t.Short):(renT to t).Short:=by
 unfold renT
 cases hn:t.ren to with
 | none=> exact .mk (by decide) (by simp)
 | some u=> exact Ty.ren_short t h hn
structure JGood (s:JS):Prop where
 n:s.l.length≤80
 h:s.h.length≤16
 s:∀t∈s.l,t.Short
theorem JGood.get {s:JS}(hg:JGood s){k:Int}{t:Ty}(h:jval s k= .ok t):t.Short:=hg.s t (List.mem_of_getElem? (Q9J h).2)
theorem JGood.put {s s':JS}{t:Ty}(hg:JGood s) (ht:t.Short) (h:jput s t= .ok s'):JGood s':=by
 obtain ⟨h1,h2,h3⟩:=Q9L h
 refine ⟨by rw [h3,List.length_append];have:=hg.n;simp only [List.length_cons,List.length_nil];omega,by rw [h2];exact hg.h,fun u hu=> ?_⟩
 rw [h3] at hu
 rcases List.mem_append.1 hu with hu|hu
 · exact hg.s u hu
 · simp at hu;subst hu;exact ht
theorem Q7u {k r:Int}:(Ty.mk k r []).Short:= .mk (by decide) (by simp)
theorem Q4v {s:JS}(hg:JGood s):∀{l:List Int}{ts:List Ty},jfields s l= .ok ts→ts.length=l.length∧∀t∈ts,t.Short
 | [],ts,h=> by rw [jfields] at h;cases h;exact ⟨rfl,by simp⟩
 | k::l,ts,h=> by
   rw [jfields] at h
   obtain ⟨t,h1,h⟩:=Q2 h
   obtain ⟨us,h2,h⟩:=Q2 h
   cases h
   obtain ⟨h3,h4⟩:=Q4v hg h2
   refine ⟨by simp [h3],fun u hu=> ?_⟩
   rcases List.mem_cons.1 hu with rfl|hu
   · exact hg.get h1
   · exact h4 u hu
theorem QfT {s:JS}{k kd:Int}{t:Ty}(h:Q2b s k kd= .ok t):jval s k= .ok t:=by have:=Q9M h;exact Q9I this.1 this.2.1
theorem Qg0 {s:JS}{k kd:Int}{t:Ty}(h:jat s k kd= .ok t):jval s k= .ok t:=by have:=Q91 h;exact Q9I this.1 this.2.1
theorem Q5H {t u:Ty}{k:Int}(h:Q3E t k= .ok u):t.l[k.toNat]?=some u:=by
 unfold Q3E at h
 split at h
 · cases h
 · rename_i v hv;cases h;exact hv
theorem QaS {m:Module}{f:Fun}{s s':JS}{x:Ins}(hm:m.Short) (hg:JGood s) (hF:QE m.funcs.length x=0) (h:jins m f s x= .ok s'):JGood s':=by
 have hop:=Q2X hF
 have hst:=QfU hop h
 have hn:s'.l.length≤80:=hst.len hg.n
 by_cases h3:x.op=3
 · rw [QaU h3] at h
   split at h
   · cases h
   · rename_i hc
     cases h
     refine ⟨hn,by have:=hg.h;simp only [List.length_append,List.length_cons,List.length_nil];omega,fun u hu=> ?_⟩
     rcases List.mem_append.1 hu with hu|hu
     · exact hg.s u hu
     · simp at hu;subst hu;exact Q7u
 by_cases h4:x.op=4
 · rw [Q8Y h4] at h
   obtain ⟨t,h1,h⟩:=Q2 h
   split at h
   · cases h
   · cases h;exact ⟨hn,by rw [List.length_set];exact hg.h,hg.s⟩
 rcases op_cases (op:=x.op) (by omega) (by omega) with e|e|e|e|e|e|e|e|e|e|e|e|e|e
 · rw [Q6M (by omega)] at h;exact hg.put Q7u h
 · rw [Q81 (by omega)] at h;obtain ⟨_,_,h⟩:=Q2 h;obtain ⟨_,_,h⟩:=Q2 h;exact hg.put Q7u h
 · exact absurd e h3
 · exact absurd e h4
 · rw [QaT (by omega)] at h
   unfold Q59 at h
   obtain ⟨t,_,h⟩:=Q2 h;obtain ⟨ts,h2,h⟩:=Q2 h
   split at h
   · cases h
   · obtain ⟨h5,h6⟩:=Q4v hg h2
     have hal:x.args.length≤8:=by
      unfold QE Q1m at hF
      simp [e] at hF;omega
     exact hg.put (.mk (by omega) h6) h
 · rw [Q80 (by omega)] at h;obtain ⟨t,h1,h⟩:=Q2 h;obtain ⟨u,h2,h⟩:=Q2 h
   exact hg.put (Ty.Short.part (hg.get (Qg0 h1)) u (List.mem_of_getElem? (Q5H h2))) h
 · rw [Q2z (by omega)] at h;obtain ⟨_,_,h⟩:=Q2 h;obtain ⟨_,_,h⟩:=Q2 h;obtain ⟨_,_,h⟩:=Q2 h
   split at h
   · cases h
   · cases h;exact hg
 · rw [Q7Z (by omega)] at h;obtain ⟨_,_,h⟩:=Q2 h;obtain ⟨_,_,h⟩:=Q2 h;exact hg.put Q7u h
 · rw [Q7Y (by omega)] at h;obtain ⟨_,_,h⟩:=Q2 h;obtain ⟨_,_,h⟩:=Q2 h;exact hg.put Q7u h
 · rw [Q5o (by omega)] at h;obtain ⟨_,_,h⟩:=Q2 h;obtain ⟨_,_,h⟩:=Q2 h;obtain ⟨_,_,h⟩:=Q2 h;cases h;exact hg
 · rw [Q6u (by omega)] at h;obtain ⟨_,_,h⟩:=Q2 h;exact hg.put Q7u h
 · rw [Q6M (by omega)] at h;exact hg.put Q7u h
 · rw [Q82 (by omega)] at h;obtain ⟨_,_,h⟩:=Q2 h;cases h;exact hg
 · rw [Q6t (by omega)] at h
   unfold Q5q at h
   split at h
   · cases h
   · rename_i g hgf
     split at h
     · cases h
     · obtain ⟨_,_,h⟩:=Q2 h;obtain ⟨_,_,h⟩:=Q2 h
       split at h
       · cases h
       · cases h
         refine ⟨hn,hg.h,fun u hu=> ?_⟩
         rcases List.mem_append.1 hu with hu|hu
         · exact hg.s u hu
         · obtain ⟨t,ht,rfl⟩:=List.mem_map.1 hu
           exact QdA ((hm.2 g (List.mem_of_getElem? hgf)).2.1.2 t ht)
theorem Qg2 {m:Module}{f:Fun}{s:JS}{x:Ins}(hm:m.Short) (hg:JGood s):JGood (jIns m f s x).2:=by
 by_cases h:(jIns m f s x).1=0
 · obtain ⟨h1,h2⟩:=Qg1 h;exact QaS hm hg h1 h2
 · rw [jIns_no h];exact hg
theorem Q84 {m:Module}(hm:m.Short) (hF:m.fault.1=0){f b:Nat}{x:Fun}{y:Block}(hx:m.funcs[f]?=some x) (hy:x.blocks[b]?=some y):JGood (Q1i y):=by
 have h1:=Q1Z (Q1F hF hx hy).1
 have h2:=QaO h1.2.2.1
 refine ⟨by unfold Q1i;simp only;omega,by unfold Q1i;simp only [List.length_replicate];omega,?_⟩
 exact ((hm.2 x (List.mem_of_getElem? hx)).2.2.2 y (List.mem_of_getElem? hy)).1.2
theorem Q4s {h:List Bool}:∀{l p:List Int},Q2r h p l= .ok ()→∀r∈l,hasB h r=true
 | [],_,_,r,hr=> by cases hr
 | x ::l,p,hd,r,hr=> by
   rw [Q2r] at hd
   split at hd
   · cases hd
   · rename_i h1
     split at hd
     · cases hd
     · rcases List.mem_cons.1 hr with rfl|hr
       · simpa using h1
       · exact Q4s hd r hr
end Go.Lir
namespace Go.Lir
set_option linter.unusedVariables false
variable {α:Type}
def Rep.an (r:Rep α) (p:α→Prop):Rep α where
 es:=r.es
 pos:=r.pos
 R:=fun H K cs x=> r.R H K cs x∧p x
 len:=fun h=> r.len h.1
 one:=fun h=> r.one h.1
 turn:=fun h hs=> ⟨r.turn h.1 hs,h.2⟩
theorem Rep.an_SR {r:Rep α}{p:α→Prop}{H:Heap}{K:Nat→Prop}{v:Value}{l:List α}(h:(r.an p).SR H K v l):r.SR H K v l∧∀x∈l,p x:=by
 obtain ⟨css,h1,⟨h2,h3⟩,h4⟩:=h
 refine ⟨⟨css,h1,⟨h2,fun m x hx=> ?_⟩,h4⟩,fun x hx=> ?_⟩
 · obtain ⟨d,e1,e2⟩:=h3 m x hx;exact ⟨d,e1,e2.1⟩
 · obtain ⟨m,hm⟩:=List.mem_iff_getElem?.1 hx
   obtain ⟨d,e1,e2⟩:=h3 m x hm;exact e2.2
def To.InR (t:To):Prop:=InI t.block∧(∀n∈t.regs,InI n)∧∀n∈t.args,InI n
def Ins.InR (x:Ins):Prop:=(InI x.op∧InI x.a∧InI x.b∧InI x.c∧InI x.k∧InI x.n)∧(∀n∈x.regs,InI n)∧∀n∈x.args,InI n
def Tail.InR (x:Tail):Prop:=InI x.op∧InI x.a∧x.yes.InR∧x.no.InR∧∀n∈x.args,InI n
def Block.InR (x:Block):Prop:=InI x.regs∧(∀t∈x.params,t.InR)∧(∀i∈x.code,i.InR)∧x.fin.InR
def Fun.InR (x:Fun):Prop:=InI x.regs∧(∀t∈x.params,t.InR)∧(∀t∈x.results,t.InR)∧∀b∈x.blocks,b.InR
def Module.InR (m:Module):Prop:=∀f∈m.funcs,f.InR
section
variable {P:Program}{T e:TypeId}
def Cod.Of.intI (ht:P.underlying T=some (.int .i64)) (hs:P.cellsOf T=1):Cod.Of P T (intR.an InI):=Cod.of (Cod.int .i64 ht hs) (intR.an InI) rfl fun _ _ x h=> ⟨x,h.1,Qeu h.2⟩
def Cod.Of.tyI {TL t0 t1:TypeId}(h0:fieldAt P T 0=some (0,1,t0)) (h1:fieldAt P T 1=some (1,1,t1)) (h2:fieldAt P T 2=some (2,1,TL)) (hi0:P.underlying t0=some (.int .i64)) (hi1:P.underlying t1=some (.int .i64)) (hT:P.cellsOf T=3) (hTL:P.underlying TL=some (.slice T)) (hby:decide (0 < P.bytesOf T)=true):Cod.Of P T (tyR.an Ty.InR):=
 ⟨Cod.tyInt h0 h1 h2 hi0 hi1 hT hTL hby,rfl,fun _ _ _ h=> h⟩
def Cod.Of.toI {TI TL:TypeId}(ci:Cod.Of P TI (intR.an InI)) (cl:Cod.Of P TL (intR.an InI).list) (h0:fieldAt P T 0=some (0,1,TI)) (h1:fieldAt P T 1=some (1,1,TL)) (h2:fieldAt P T 2=some (2,1,TL)) (hT:P.cellsOf T=3):Cod.Of P T (toR.an To.InR):=
 Cod.of (Fld.cod (Fld.more ci.cod h0 (Fld.more cl.cod h1 (Fld.more cl.cod h2 Fld.none))) h0 3 hT) (toR.an To.InR) rfl fun H cs x h=> by
  obtain ⟨hl,g0,g1,g2,_⟩:=h
  match cs,hl with
  | [a,b,c],_=>
    obtain ⟨e0,n0⟩:[a]=[_]∧InI _:=ci.part g0
    obtain ⟨v1,e1,s1⟩:=cl.part g1;obtain ⟨s1,q1⟩:=Rep.an_SR s1
    obtain ⟨v2,e2,s2⟩:=cl.part g2;obtain ⟨s2,q2⟩:=Rep.an_SR s2
    replace e1:[b]=[v1]:=e1
    replace e2:[c]=[v2]:=e2
    simp only [List.cons.injEq,and_true] at e0 e1 e2
    subst e0 e1 e2
    exact ⟨⟨x.1,x.2.1,x.2.2.1⟩,⟨b,c,rfl,s1,s2⟩,n0,q1,q2⟩
def Cod.Of.insI {TI TL TN:TypeId}(ci:Cod.Of P TI (intR.an InI)) (cn:Cod.Of P TN (intR.an InI)) (cl:Cod.Of P TL (intR.an InI).list) (h0:fieldAt P T 0=some (0,1,TI)) (h1:fieldAt P T 1=some (1,1,TI)) (h2:fieldAt P T 2=some (2,1,TI)) (h3:fieldAt P T 3=some (3,1,TI)) (h4:fieldAt P T 4=some (4,1,TI)) (h5:fieldAt P T 5=some (5,1,TN)) (h6:fieldAt P T 6=some (6,1,TL)) (h7:fieldAt P T 7=some (7,1,TL)) (hT:P.cellsOf T=8):Cod.Of P T (insR.an Ins.InR):=
 Cod.of (Fld.cod (Fld.more ci.cod h0 (Fld.more ci.cod h1 (Fld.more ci.cod h2 (Fld.more ci.cod h3 (Fld.more ci.cod h4 (Fld.more cn.cod h5 (Fld.more cl.cod h6 (Fld.more cl.cod h7 Fld.none)))))))) h0 8 hT) (insR.an Ins.InR) rfl fun H cs x h=> by
  obtain ⟨hl,g0,g1,g2,g3,g4,g5,g6,g7,_⟩:=h
  match cs,hl with
  | [a0,a1,a2,a3,a4,a5,a6,a7],_=>
    obtain ⟨e0,n0⟩:[a0]=[_]∧InI _:=ci.part g0
    obtain ⟨e1,n1⟩:[a1]=[_]∧InI _:=ci.part g1
    obtain ⟨e2,n2⟩:[a2]=[_]∧InI _:=ci.part g2
    obtain ⟨e3,n3⟩:[a3]=[_]∧InI _:=ci.part g3
    obtain ⟨e4,n4⟩:[a4]=[_]∧InI _:=ci.part g4
    obtain ⟨e5,n5⟩:[a5]=[_]∧InI _:=cn.part g5
    obtain ⟨v1,e6,s1⟩:=cl.part g6;obtain ⟨s1,q1⟩:=Rep.an_SR s1
    obtain ⟨v2,e7,s2⟩:=cl.part g7;obtain ⟨s2,q2⟩:=Rep.an_SR s2
    replace e6:[a6]=[v1]:=e6
    replace e7:[a7]=[v2]:=e7
    simp only [List.cons.injEq,and_true] at e0 e1 e2 e3 e4 e5 e6 e7
    subst e0 e1 e2 e3 e4 e5 e6 e7
    exact ⟨⟨x.1,x.2.1,x.2.2.1,x.2.2.2.1,x.2.2.2.2.1,x.2.2.2.2.2.1,x.2.2.2.2.2.2.1,x.2.2.2.2.2.2.2.1⟩,⟨_,_,rfl,s1,s2⟩,⟨n0,n1,n2,n3,n4,n5⟩,q1,q2⟩
def Cod.Of.endpI {TI TL TT:TypeId}(ci:Cod.Of P TI (intR.an InI)) (cl:Cod.Of P TL (intR.an InI).list) (ct:Cod.Of P TT (toR.an To.InR)) (h0:fieldAt P T 0=some (0,1,TI)) (h1:fieldAt P T 1=some (1,1,TI)) (h2:fieldAt P T 2=some (2,3,TT)) (h3:fieldAt P T 3=some (5,3,TT)) (h4:fieldAt P T 4=some (8,1,TL)) (hT:P.cellsOf T=9):Cod.Of P T (endR.an Tail.InR):=
 Cod.of (Fld.cod (Fld.more ci.cod h0 (Fld.more ci.cod h1 (Fld.more ct.cod h2 (Fld.more ct.cod h3 (Fld.more cl.cod h4 Fld.none))))) h0 9 hT) (endR.an Tail.InR) rfl fun H cs x h=> by
  obtain ⟨hl,g0,g1,g2,g3,g4,_⟩:=h
  match cs,hl with
  | [a0,a1,a2,a3,a4,a5,a6,a7,a8],_=>
    obtain ⟨e0,n0⟩:[a0]=[_]∧InI _:=ci.part g0
    obtain ⟨e1,n1⟩:[a1]=[_]∧InI _:=ci.part g1
    obtain ⟨⟨v1,v2,e2,s1,s2⟩,n2⟩:=ct.part g2
    obtain ⟨⟨v3,v4,e3,s3,s4⟩,n3⟩:=ct.part g3
    obtain ⟨v5,e4,s5⟩:=cl.part g4;obtain ⟨s5,q5⟩:=Rep.an_SR s5
    replace e2:[a2,a3,a4]=_:=e2
    replace e3:[a5,a6,a7]=_:=e3
    replace e4:[a8]=_:=e4
    simp only [List.cons.injEq,and_true] at e0 e1 e2 e3 e4
    obtain ⟨q2,q3,q4⟩:=e2
    obtain ⟨q5,q6,q7⟩:=e3
    subst e0 e1 q2 q3 q4 q5 q6 q7 e4
    exact ⟨⟨x.1,x.2.1,x.2.2.1,x.2.2.2.1,x.2.2.2.2.1⟩,⟨_,_,_,_,_,rfl,s1,s2,s3,s4,s5⟩,n0,n1,n2,n3,q5⟩
def Cod.Of.blockI {TI TL TC TE:TypeId}(ci:Cod.Of P TI (intR.an InI)) (cl:Cod.Of P TL (tyR.an Ty.InR).list) (cc:Cod.Of P TC (insR.an Ins.InR).list) (ce:Cod.Of P TE (endR.an Tail.InR)) (h0:fieldAt P T 0=some (0,1,TI)) (h1:fieldAt P T 1=some (1,1,TL)) (h2:fieldAt P T 2=some (2,1,TC)) (h3:fieldAt P T 3=some (3,9,TE)) (hT:P.cellsOf T=12):Cod.Of P T (blockR.an Block.InR):=
 Cod.of (Fld.cod (Fld.more ci.cod h0 (Fld.more cl.cod h1 (Fld.more cc.cod h2 (Fld.more ce.cod h3 Fld.none)))) h0 12 hT) (blockR.an Block.InR) rfl fun H cs x h=> by
  obtain ⟨hl,g0,g1,g2,g3,_⟩:=h
  match cs,hl with
  | [a0,a1,a2,a3,a4,a5,a6,a7,a8,a9,a10,a11],_=>
    obtain ⟨e0,n0⟩:[a0]=[_]∧InI _:=ci.part g0
    obtain ⟨v1,e1,s1⟩:=cl.part g1;obtain ⟨s1,q1⟩:=Rep.an_SR s1
    obtain ⟨v2,e2,s2⟩:=cc.part g2;obtain ⟨s2,q2⟩:=Rep.an_SR s2
    obtain ⟨s3,n3⟩:=ce.part g3
    replace e1:[a1]=_:=e1
    replace e2:[a2]=_:=e2
    replace s3:endR.R H (· < H.size) [a3,a4,a5,a6,a7,a8,a9,a10,a11] x.2.2.2.1:=s3
    simp only [List.cons.injEq,and_true] at e0 e1 e2
    subst e0 e1 e2
    exact ⟨⟨x.1,x.2.1,x.2.2.1,x.2.2.2.1⟩,⟨_,_,_,rfl,s1,s2,s3⟩,n0,q1,q2,n3⟩
def Cod.Of.funcI {TI TL TB:TypeId}(ci:Cod.Of P TI (intR.an InI)) (cl:Cod.Of P TL (tyR.an Ty.InR).list) (cb:Cod.Of P TB (blockR.an Block.InR).list) (h0:fieldAt P T 0=some (0,1,TI)) (h1:fieldAt P T 1=some (1,1,TL)) (h2:fieldAt P T 2=some (2,1,TL)) (h3:fieldAt P T 3=some (3,1,TB)) (hT:P.cellsOf T=4):Cod.Of P T (funcR.an Fun.InR):=
 Cod.of (Fld.cod (Fld.more ci.cod h0 (Fld.more cl.cod h1 (Fld.more cl.cod h2 (Fld.more cb.cod h3 Fld.none)))) h0 4 hT) (funcR.an Fun.InR) rfl fun H cs x h=> by
  obtain ⟨hl,g0,g1,g2,g3,_⟩:=h
  match cs,hl with
  | [a0,a1,a2,a3],_=>
    obtain ⟨e0,n0⟩:[a0]=[_]∧InI _:=ci.part g0
    obtain ⟨v1,e1,s1⟩:=cl.part g1;obtain ⟨s1,q1⟩:=Rep.an_SR s1
    obtain ⟨v2,e2,s2⟩:=cl.part g2;obtain ⟨s2,q2⟩:=Rep.an_SR s2
    obtain ⟨v3,e3,s3⟩:=cb.part g3;obtain ⟨s3,q3⟩:=Rep.an_SR s3
    replace e1:[a1]=_:=e1
    replace e2:[a2]=_:=e2
    replace e3:[a3]=_:=e3
    simp only [List.cons.injEq,and_true] at e0 e1 e2 e3
    subst e0 e1 e2 e3
    exact ⟨⟨x.1,x.2.1,x.2.2.1,x.2.2.2.1⟩,⟨_,_,_,rfl,s1,s2,s3⟩,n0,q1,q2,q3⟩
def Cod.Of.modI {TF:TypeId}(cf:Cod.Of P TF (funcR.an Fun.InR).list) (h0:fieldAt P T 0=some (0,1,TF)) (hT:P.cellsOf T=1):Cod.Of P T (modR.an Module.InR):=
 Cod.of (Fld.cod (Fld.more cf.cod h0 Fld.none) h0 1 hT) (modR.an Module.InR) rfl fun H cs x h=> by
  obtain ⟨hl,g0,_⟩:=h
  match cs,hl with
  | [a0],_=>
    obtain ⟨v1,e1,s1⟩:=cf.part g0;obtain ⟨s1,q1⟩:=Rep.an_SR s1
    replace e1:[a0]=_:=e1
    simp only [List.cons.injEq,and_true] at e1
    subst e1
    exact ⟨⟨x.1⟩,⟨_,rfl,s1⟩,q1⟩
end
theorem Q7t {m:Module}(h:m.Few):m.Short:=by
 refine ⟨by have:=h.1;omega,fun f hf=> ?_⟩
 obtain ⟨h1,h2,h3,h4⟩:=h.2 f hf
 refine ⟨Tys.Short.of_great h1,Tys.Short.of_great h2,by omega,fun b hb=> ?_⟩
 obtain ⟨g1,g2,g3,⟨⟨g4,g5⟩,⟨g6,g7⟩,g8⟩⟩:=h4 b hb
 exact ⟨Tys.Short.of_great g1,by omega,fun x hx=> ⟨by have:=(g3 x hx).1;omega,by have:=(g3 x hx).2;omega⟩,⟨by omega,by omega⟩,⟨by omega,by omega⟩,by omega⟩
end Go.Lir
namespace Go.Proofs.YteflkifmgnpbhaaGreat
open Go.Lir
def Qe7:Cod.Of Tryz.prog 3 (intR.an InI):=Cod.Of.intI (by kernel_rfl) (by kernel_rfl)
def cLongI:Cod.Of Tryz.prog 2 (intR.an InI):=Cod.Of.intI (by kernel_rfl) (by kernel_rfl)
def QgE:Cod.Of Tryz.prog 68 (intR.an InI).list:=Cod.Of.list Qe7 (by kernel_rfl) (by kernel_rfl) (by kernel_rfl)
def cTyI:Cod.Of Tryz.prog 115 (tyR.an Ty.InR):=Cod.Of.tyI (TL:=86) (t0:=3) (t1:=3) (by kernel_rfl) (by kernel_rfl) (by kernel_rfl) (by kernel_rfl) (by kernel_rfl) (by kernel_rfl) (by kernel_rfl) (by kernel_rfl)
def cTysI:Cod.Of Tryz.prog 86 (tyR.an Ty.InR).list:=Cod.Of.list cTyI (by kernel_rfl) (by kernel_rfl) (by kernel_rfl)
def cInsI:Cod.Of Tryz.prog 84 (insR.an Ins.InR):=Cod.Of.insI Qe7 cLongI QgE (by kernel_rfl) (by kernel_rfl) (by kernel_rfl) (by kernel_rfl) (by kernel_rfl) (by kernel_rfl) (by kernel_rfl) (by kernel_rfl) (by kernel_rfl)
def cInssI:Cod.Of Tryz.prog 85 (insR.an Ins.InR).list:=Cod.Of.list cInsI (by kernel_rfl) (by kernel_rfl) (by kernel_rfl)
def cToI:Cod.Of Tryz.prog 88 (toR.an To.InR):=Cod.Of.toI Qe7 QgE (by kernel_rfl) (by kernel_rfl) (by kernel_rfl) (by kernel_rfl)
def cEndI:Cod.Of Tryz.prog 90 (endR.an Tail.InR):=Cod.Of.endpI Qe7 QgE cToI (by kernel_rfl) (by kernel_rfl) (by kernel_rfl) (by kernel_rfl) (by kernel_rfl) (by kernel_rfl)
def cBlockI:Cod.Of Tryz.prog 92 (blockR.an Block.InR):=Cod.Of.blockI Qe7 cTysI cInssI cEndI (by kernel_rfl) (by kernel_rfl) (by kernel_rfl) (by kernel_rfl) (by kernel_rfl)
def cBlocksI:Cod.Of Tryz.prog 93 (blockR.an Block.InR).list:=Cod.Of.list cBlockI (by kernel_rfl) (by kernel_rfl) (by kernel_rfl)
def cFuncI:Cod.Of Tryz.prog 95 (funcR.an Fun.InR):=Cod.Of.funcI Qe7 cTysI cBlocksI (by kernel_rfl) (by kernel_rfl) (by kernel_rfl) (by kernel_rfl) (by kernel_rfl)
def cFuncsI:Cod.Of Tryz.prog 22 (funcR.an Fun.InR).list:=Cod.Of.list cFuncI (by kernel_rfl) (by kernel_rfl) (by kernel_rfl)
def cModI:Cod.Of Tryz.prog 24 (modR.an Module.InR):=Cod.Of.modI cFuncsI (by kernel_rfl) (by kernel_rfl)
end Go.Proofs.YteflkifmgnpbhaaGreat
namespace Go.Lir


def Fins (P:Program) (f:FuncId) (args:List Value) (w:World) (S T:Value→World→Prop):Prop:=
 Calls P f ⟨args⟩ w fun e w'=> (∃v,e= .returned v∧S v w')∨(∃v,e= .panicked [{v:=v,recovered:=false}]∧T v w')

theorem Fins.mono {P:Program}{f:FuncId}{args:List Value}{w:World}{S S' T T':Value→World→Prop}(h:Fins P f args w S T) (hs:∀v w',S v w'→S' v w') (ht:∀v w',T v w'→T' v w'):Fins P f args w S' T':=
 Calls.mono h fun _ _ h=> h.elim (fun ⟨v,he,hv⟩=> .inl ⟨v,he,hs _ _ hv⟩) (fun ⟨v,he,hv⟩=> .inr ⟨v,he,ht _ _ hv⟩)
theorem Rets.ends {P:Program}{f:FuncId}{args:List Value}{w:World}{S T:Value→World→Prop}(h:Rets P f args w S):Fins P f args w S T:=
 Calls.mono h fun _ _ h=> .inl h
section
variable {P:Program}{l:List GO}{Q:QT}{ρ:Env}{w:World}
theorem Qf4 {d:Nat}{f:FuncId}{xs:List Operand}{args:List Value}{S T:Value→World→Prop}(hxs:xs.map ρ.ev=args) (hc:Fins P f args w S T)
 (hp:∀v w',T v w'→Q (.panic [{v:=v,recovered:=false}]) ρ w') (h:∀v w',S v w'→Q0 P l Q (upd ρ d v) w'):Q0 P (⟨none, .call (some d) f xs⟩::l) Q ρ w:=by
 subst hxs
 refine Calls.mono hc fun e w' h'=> ?_
 rcases h' with ⟨v,he,hs⟩|⟨v,he,hs⟩
 · subst he;exact h v w' hs
 · subst he;exact hp v w' hs
theorem s_endsv {d:Nat}{x:Operand}{os:List Operand}{f:FuncId}{args cap:List Value}{S T:Value→World→Prop}(hx:ρ.ev x= .func (.func f) #[] ⟨cap⟩) (hf:Q3G P f=true) (hxs:os.map ρ.ev++cap=args) (hc:Fins P f args w S T)
 (hp:∀v w',T v w'→Q (.panic [{v:=v,recovered:=false}]) ρ w') (h:∀v w',S v w'→Q0 P l Q (upd ρ d v) w'):Q0 P (⟨none, .callv (some d) x os⟩::l) Q ρ w:=by
 unfold Q3G at hf
 rw [Option.any_eq_true] at hf
 obtain ⟨fn,h1,h2⟩:=hf
 rw [Bool.and_eq_true,Bool.not_eq_true'] at h2
 refine Qf6 hx h1 h2.1 h2.2 hxs hc ?_
 intro e w' h'
 rcases h' with ⟨v,rfl,hs⟩|⟨v,rfl,hs⟩
 · exact h v w' hs
 · exact hp v w' hs
theorem Qe {K:KT}{ch:List PanicEntry}(h:Q (.panic ch) ρ w):Qh K Q (.panic ch) ρ w:=h
theorem Qf {id:Nat}{ch:List PanicEntry}(h:Q (.panic ch) ρ w):Qc id Q (.panic ch) ρ w:=h
theorem Qy {rs:List ResultVar}{R:Ending→World→Prop}{ch:List PanicEntry}(h:R (.panicked ch) w):retQ P rs R (.panic ch) ρ w:=h
theorem QeX {d : Option Nat} {x : Operand} {Ty T : TypeId} {v : Value} (hx : ρ.ev x = .iface T v) (h : Q (.panic [{ v := .iface T v, recovered := false }]) ρ w) : Q0 P (⟨none, .raw ⟨d, .panic x, Ty, "", #[], none⟩⟩ :: l) Q ρ w := by
 refine (?_:Q4k P _ ρ w _ Q)
 unfold Q4k
 have e : (execOp ρ.ev ⟨d, .panic x, Ty, "", #[], none⟩).run P w = .halt (.panic (.iface T v)) w := by
  simp [execOp,Instr.panic,hx,goPanic,Sem.run]
 rw [e];exact h
theorem QcL {d:Nat}{x:Operand}{Ty T xT:TypeId}{v:Value}{D:TypeDesc}(hd:P.underlying T=some D) (hi:∀m,D≠ .interface m) (hx:ρ.ev x= .iface T v)
 (h : Q0 P l Q (upd ρ d (.tuple #[v, .bool true])) w) : Q0 P (⟨none, .raw ⟨some d, .typeAssert x xT T true, Ty, "", #[], none⟩⟩ :: l) Q ρ w := by
 refine QN (v:= .tuple #[v, .bool true]) (w':=w) ?_ h
 simp only [execOp,Instr.typeAssert,hx,Sem.run_bind,Q4 P T D w hd,Result.andThen_ok]
 cases D <;> first|(exact absurd rfl (hi _))|simp
end


inductive LSp where
 | dfr (d:Option Nat) (x:Operand)
 | rcv (d:Option Nat)

inductive LD where
 | pl (c:LC)
 | seq (a b:LD)
 | sp (l1:List GO) (o:LSp) (l2:List GO)

def spOf (o:Oper):Option LSp:=match o.guard,o.op with
 | none, .defer ⟨.value x,xs,_⟩=> if xs.size=0 then some (.dfr o.dst x) else none
 | none, .call ⟨.builtin .recover,xs,_⟩=> if xs.size=0 then some (.rcv o.dst) else none
 | _,_=> none
def QdT:Code→Bool
 | .seq a b=> QdT a||QdT b
 | .region _ ops _=> ops.toList.any fun o=> (spOf o).isSome
 | _=> false
def Q67:List Oper→Option (List Oper×Oper×LSp×List Oper)
 | []=> none
 | o::r=> match spOf o with
   | some s=> some ([],o,s,r)
   | none=> (Q67 r).map fun p=> (o::p.1,p.2)
def lowD (P:Program) (n:Nat):Code→LD
 | .seq a b=> if QdT a||QdT b then .seq (lowD P n a) (lowD P n b) else .pl (Q2R P n (.seq a b))
 | .region id ops false=> match Q67 ops.toList with
   | some (l1,_,s,l2)=> if ops.toList.all (okG n ops) then .sp (l1.map (Q2q P ops)) s (l2.map (Q2q P ops)) else .pl .bad
   | none=> .pl (Q2R P n (.region id ops false))
 | c=> .pl (Q2R P n c)
def QdO (P:Program) (fn:Func):Option LD:=fn.body.map (lowD P fn.ntmps)

def LD.wpD (P:Program):LD→(List Deferred→QT)→List Deferred→Env→World→Prop
 | .pl c,Q,ds,ρ,w=> c.wp P (Q ds) ρ w
 | .seq a b,Q,ds,ρ,w=> a.wpD P (fun ds'=> Qh (b.wpD P Q ds') (Q ds')) ds ρ w
 | .sp l1 (.dfr d x) l2,Q,ds,ρ,w=> Q0 P l1 (Qh (fun ρ w=>∃f cap,ρ.ev x= .func (.func f) #[] cap∧Q0 P l2 (Q (⟨.fn (.func f) cap,#[]⟩::ds)) (updo ρ d undef) w) (Q ds)) ρ w
 | _,_,_,_,_=> False

theorem Q4g:∀{ops l1 l2:List Oper}{o:Oper}{s:LSp},Q67 ops=some (l1,o,s,l2)→ops=l1++o::l2∧spOf o=some s
 | [],_,_,_,_,h=> by simp [Q67] at h
 | o'::r,l1,l2,o,s,h=> by
   rw [Q67] at h
   cases hs:spOf o' with
   | some s'=>
     simp only [hs,Option.some.injEq,Prod.mk.injEq] at h
     obtain ⟨rfl,rfl,rfl,rfl⟩:=h
     exact ⟨rfl,hs⟩
   | none=>
     simp only [hs,Option.map_eq_some_iff] at h
     obtain ⟨⟨a,b,c,d⟩,h1,h2⟩:=h
     simp only [Prod.mk.injEq] at h2
     obtain ⟨rfl,rfl,rfl,rfl⟩:=h2
     obtain ⟨h3,h4⟩:=Q4g h1
     exact ⟨by rw [h3];rfl,h4⟩

theorem Q63 {P:Program}{o:Oper}{a:Act}{K K':Act→World→Prop}{Q Q':Exit→Act→World→Prop}(hk:∀a w,K a w→K' a w) (hp:∀ch a w,Q (.panic ch) a w→Q' (.panic ch) a w) (ho:LetsOut Q→LetsOut Q') (r:Result Next) (h:o.upon P a K Q r):o.upon P a K' Q' r:=by
 cases r with
 | ok n w=>
   cases n <;> first|exact hk _ _ h|exact h|skip
   · refine Calls.mono h fun e w h=> ?_
     cases e <;> first|exact hk _ _ h|exact hp _ _ _ h|exact ho h
   · exact Rows.mono h fun v w h=> hk _ _ h
 | halt x w=> cases x <;> first|exact hp _ _ _ h|exact h

theorem Q3l {P:Program}{ops:Array Oper}{Q:Exit→Act→World→Prop}{l2:List Nat}:∀(l1:List Nat) (a:Act) (w:World),
 wpOps P ops (Exit.then (wpOps P ops Q l2) Q) l1 a w→wpOps P ops Q (l1++l2) a w
 | [],a,w,h=> h
 | i ::l1,a,w,h=> by
   simp only [List.cons_append,wpOps] at h ⊢
   cases ho:ops[i]? with
   | none=> simp only [ho] at h ⊢;exact Q3l l1 a w h
   | some o=>
     simp only [ho] at h ⊢
     split
     · rename_i hw
       rw [if_pos hw] at h
       rcases h with h|⟨h1,h2⟩
       · exact .inl (Q63 (fun a w h=> Q3l l1 a w h) (fun ch a w h=> h) (fun h=> h) _ h)
       · exact .inr ⟨h1,h2⟩
     · rename_i hw
       rw [if_neg hw] at h
       exact Q3l l1 _ w h
theorem Q2Y {P:Program}{ops:Array Oper}{Q Q':Exit→Act→World→Prop}(hq:∀e a w,Q e a w→Q' e a w):∀(l:List Nat) (a:Act) (w:World),wpOps P ops Q l a w→wpOps P ops Q' l a w
 | [],a,w,h=> hq _ _ _ h
 | i ::l,a,w,h=> by
   simp only [wpOps] at h ⊢
   have ho':LetsOut Q→LetsOut Q':=fun ⟨a,w,h⟩=> ⟨a,w,hq _ _ _ h⟩
   cases ho:ops[i]? with
   | none=> simp only [ho] at h ⊢;exact Q2Y hq l a w h
   | some o=>
     simp only [ho] at h ⊢
     split
     · rename_i hw
       rw [if_pos hw] at h
       rcases h with h|⟨h1,h2⟩
       · exact .inl (Q63 (fun a w h=> Q2Y hq l a w h) (fun ch a w h=> hq _ _ _ h) ho' _ h)
       · exact .inr ⟨h1,ho' h2⟩
     · rename_i hw
       rw [if_neg hw] at h
       exact Q2Y hq l _ w h

def liftD (n:Nat) (Q:List Deferred→QT):Exit→Act→World→Prop:=fun e a w=>∃ds,QaP n ds (Q ds) e a w

theorem QaC {α:Type}{ops l1 l2:List α}{o:α}(h:ops=l1++o::l2):List.range ops.length=List.range l1.length++l1.length::(List.range l2.length).map (l1.length+1+·):=by
 subst h
 apply List.ext_getElem
 · simp
 · intro i h1 h2
   rw [List.getElem_range]
   rcases Nat.lt_trichotomy i l1.length with h|h|h
   · rw [List.getElem_append_left (by simpa using h),List.getElem_range]
   · subst h;rw [List.getElem_append_right (by simp)];simp
   · rw [List.getElem_append_right (by simpa using Nat.le_of_lt h)]
     simp only [List.length_range]
     rw [List.getElem_cons]
     rw [dif_neg (by omega),List.getElem_map,List.getElem_range];omega
theorem QeG {α β:Type}{ops l1 l2:List α}{o:α}(g:α→β) (h:ops=l1++o::l2):((List.range l2.length).map (l1.length+1+·)).filterMap (fun i=> (ops[i]?).map g)=l2.map g:=by
 subst h
 rw [List.filterMap_map]
 have:∀i,((fun i=> ((l1++o::l2)[i]?).map g)∘(l1.length+1+·)) i=(l2[i]?).map g:=by
  intro i
  simp only [Function.comp]
  rw [List.getElem?_append_right (by omega)]
  rw [show l1.length+1+i - l1.length=i+1 by omega,List.getElem?_cons_succ]
 rw [Q2j (fun i _=> this i)]
 have:=Q36 g l2 []
 simpa [List.range_eq_range'] using this
theorem QcD {α β:Type}{ops l1 l2:List α}{o:α}(g:α→β) (h:ops=l1++o::l2):(List.range l1.length).filterMap (fun i=> (ops[i]?).map g)=l1.map g:=by
 subst h
 have:∀i∈List.range l1.length,((l1++o::l2)[i]?).map g=(l1[i]?).map g:=by
  intro i hi
  rw [List.getElem?_append_left (by simpa using hi)]
 rw [Q2j this]
 have:=Q36 g l1 []
 simpa [List.range_eq_range'] using this

theorem QdP {P:Program}{n:Nat}:∀(c:Code) (Q:List Deferred→QT) (ds:List Deferred) (ρ:Env) (a:Act) (w:World),Rel n ρ ds a→(lowD P n c).wpD P Q ds ρ w→c.wp P (liftD n Q) a w:=by
 have hpl:∀(c:Code) (Q:List Deferred→QT) (ds:List Deferred) (ρ:Env) (a:Act) (w:World),Rel n ρ ds a→(Q2R P n c).wp P (Q ds) ρ w→c.wp P (liftD n Q) a w:=fun c Q ds ρ a w hr h=>
  wp_mono (Q4q c _ ρ a w hr h) fun e a w h=> ⟨ds,h⟩
 intro c
 induction c with
 | seq x y ihx ihy=>
   intro Q ds ρ a w hr h
   rw [lowD] at h
   split at h
   · refine wp_seq ?_
     refine wp_mono (ihx _ ds ρ a w hr h) ?_
     rintro e a w ⟨ds',ρ',hr',h'⟩
     cases e with
     | normal=> exact ihy _ ds' ρ' a w hr' h'
     | _=> exact ⟨ds',ρ',hr',h'⟩
   · exact hpl _ Q ds ρ a w hr h
 | region id ops draw=>
   intro Q ds ρ a w hr h
   cases draw with
   | true=> exact hpl _ Q ds ρ a w hr h
   | false =>
     rw [lowD] at h
     split at h
     · rename_i l1 o s l2 hs
       obtain ⟨hops,hsp⟩:=Q4g hs
       split at h
       · rename_i hall
         have hok:∀i o,ops[i]?=some o→okG n ops o=true:=fun i o hi=> List.all_eq_true.1 hall o (by rw [←Array.getElem?_toList] at hi;exact List.mem_of_getElem? hi)
         have hsz:ops.size=ops.toList.length:=by simp
         have hgm:∀(l:List Nat),(l.filterMap fun i=> (ops[i]?).map (Q2q P ops))=l.filterMap fun i=> (ops.toList[i]?).map (Q2q P ops):=fun l=> by simp
         have hlen:ops.toList.length=l1.length+1+l2.length:=by rw [hops];simp;omega
         have hrange:∀(l:List Nat),(∀i∈l,i < ops.size)→∀i∈l,∃o,ops[i]?=some o∧okG n ops o=true:=fun l hl i hi=> ⟨ops[i]'(hl i hi),by simp [hl i hi],hok i _ (by simp [hl i hi])⟩
         refine wp_region ?_
         rw [hsz,QaC hops]
         refine Q3l _ _ _ ?_
         cases s with
         | rcv d=> exact h.elim
         | dfr d x=>
           have h1:=Q4L (Q:=Qh (fun ρ w=>∃f cap,ρ.ev x= .func (.func f) #[] cap∧Q0 P (l2.map (Q2q P ops)) (Q (⟨.fn (.func f) cap,#[]⟩::ds)) (updo ρ d undef) w) (Q ds)) (ds:=ds) (List.range l1.length) ρ a w hr
            (hrange _ fun i hi=> by rw [hsz,hlen];have:=List.mem_range.1 hi;omega) (by rw [hgm,QcD _ hops];exact h)
           refine Q2Y ?_ _ _ _ h1
           rintro e a w ⟨ρ',hr',h'⟩
           cases e with
           | normal=>
             obtain ⟨f,cap,hf,h'⟩:=h'
             have hoi:ops[l1.length]?=some o:=by rw [←Array.getElem?_toList,hops];simp
             refine (?_:wpOps P ops _ (l1.length::_) a w)
             simp only [wpOps,hoi]
             have hg:o.guard=none∧∃ts,∃xs:Array Operand,o.op= .defer ⟨.value x,xs,ts⟩∧xs.size=0∧o.dst=d:=by
              unfold spOf at hsp
              split at hsp
              · rename_i x' xs' ts' hg ho
                split at hsp
                · rename_i hx0
                  simp only [Option.some.injEq,LSp.dfr.injEq] at hsp
                  obtain ⟨g1,g2⟩:=hsp
                  subst g2
                  exact ⟨hg,ts',xs',ho,hx0,g1⟩
                · cases hsp
              · split at hsp <;> cases hsp
              · cases hsp
             obtain ⟨hgd,ts,xs,hop,hxs,hd⟩:=hg
             have hxs':xs=#[]:=Array.eq_empty_of_size_eq_zero hxs
             subst hxs'
             rw [if_pos (by simp [Region.wanted,hgd])]
             refine .inl ?_
             unfold Oper.wp
             have e1:(execOp a.eval o).run P w= .ok (.defer ⟨.fn (.func f) cap,#[]⟩) w:=by
              simp [execOp,hop,resolve,hr'.ev,hf,Deferred.ofValue]
             rw [e1,Oper.upon_defer,hd]
             have hdn:=Q6k (hok _ o hoi)
             rw [hd] at hdn
             have hr2:Rel n (updo ρ' d undef) (⟨.fn (.func f) cap,#[]⟩::ds) ({a with defers:=⟨.fn (.func f) cap,#[]⟩::a.defers}.put d undef):=by
              have hr3:Rel n ρ' (⟨.fn (.func f) cap,#[]⟩::ds) {a with defers:=⟨.fn (.func f) cap,#[]⟩::a.defers}:=⟨hr'.1,hr'.2.1,by simp [hr'.2.2]⟩
              exact hr3.put d undef hdn
             have h2:=Q4L (Q:=Q (⟨.fn (.func f) cap,#[]⟩::ds)) (ds:=⟨.fn (.func f) cap,#[]⟩::ds) _ _ _ w hr2
              (hrange ((List.range l2.length).map (l1.length+1+·)) fun i hi=> by rw [hsz,hlen];rw [List.mem_map] at hi;obtain ⟨j,hj,rfl⟩:=hi;have:=List.mem_range.1 hj;omega) (by rw [hgm,QeG _ hops];exact h')
             exact Q2Y (fun e a w h=> ⟨_,h⟩) _ _ _ h2
           | _=> exact ⟨ds,ρ',hr',h'⟩
       · exact h.elim
     · exact hpl _ Q ds ρ a w hr h
 | _=> exact hpl _

def Q3b (P:Program) (rs:List ResultVar) (ρ:Env) (R:Ending→World→Prop):List Deferred→FrameMode→World→Prop
 | [], .returning,w=> Qw P w ρ rs [] fun v=> R (.returned v) w
 | [], .panicking chain,w=> R (.panicked chain) w
 | [], .run,_=> False
 | d ::ds,u,w=> u≠ .run∧∃f cap,d=⟨.fn (.func f) cap,#[]⟩∧Q3G P f=true∧CallsD P f cap u w fun
     | .returned _,u',w'=> Q3b P rs ρ R ds (settle u') w'
     | .panicked chain,u',w'=> Q3b P rs ρ R ds (raised u' chain) w'
     | .outgrown,_,w'=> R .outgrown w'
def retD (P:Program) (rs:List ResultVar) (R:Ending→World→Prop) (ds:List Deferred):QT
 | .normal,ρ,w| .ret,ρ,w=> Q3b P rs ρ R ds .returning w
 | .panic chain,ρ,w=> Q3b P rs ρ R ds (.panicking chain) w
 | .outgrown,_,w=> R .outgrown w
 | _,_,_=> False

theorem Q3a {P:Program}{fn:Func}{tmps:Array Value}{ρ:Env}{R:Ending→World→Prop}(ht:∀i,tmps.getD i undef=ρ i):∀(ds:List Deferred) (u:FrameMode) (w:World),
 Q3b P fn.results.toList ρ R ds u w→Leaves P fn tmps R ds u w
 | [], .returning,w,h=> by obtain ⟨v,h1,h2⟩:=Q2m ht h;exact ⟨v,h1,h2⟩
 | [], .panicking _,w,h=> h
 | [], .run,w,h=> h.elim
 | d ::ds,u,w,h=> by
   obtain ⟨hu,f,cap,rfl,hf,hc⟩:=h
   unfold Q3G at hf
   rw [Option.any_eq_true] at hf
   obtain ⟨fn',h1,h2⟩:=hf
   rw [Bool.and_eq_true,Bool.not_eq_true'] at h2
   refine leaves_cons hu (f:=f) (args:=cap) ?_ ?_
   · simp only [invoke]
     rw [Q6I _ h1 h2.1 h2.2];simp
   · refine hc.mono ?_
     intro e u' w' h
     cases e with
     | returned v=> exact Q3a ht ds _ _ h
     | panicked ch=> exact Q3a ht ds _ _ h
     | outgrown=> exact h

theorem Qa2 {P:Program}{f:FuncId}{fn:Func}{args:List Value}{w:World}{R:Ending→World→Prop}{ld:LD}{rs:List ResultVar}
 (hf:P.funcs[f]?=some fn) (hl:QdO P fn=some ld) (hrs:fn.results.toList=rs) (hn:Nat.ble args.length fn.ntmps=true)
 (h:ld.wpD P (retD P rs R) [] (Q61 args) w):Calls P f ⟨args⟩ w R:=by
 unfold QdO at hl
 cases hb:fn.body with
 | none=> simp [hb] at hl
 | some c=>
   simp only [hb,Option.map_some,Option.some.injEq] at hl
   subst hl hrs
   refine calls_of_wp_defers hf hb ?_
   have hn':args.length≤fn.ntmps:=Nat.le_of_ble_eq_true hn
   refine wp_mono (QdP c _ [] _ _ _ (Q6E ⟨args⟩ fn.ntmps hn' []) h) ?_
   rintro e a w ⟨ds,ρ,hr,h⟩
   have hd:=hr.2.2
   cases e with
   | normal=> exact (hd ▸ Q3a hr.2.1 ds _ _ h:Leaves P fn a.tmps R a.defers .returning w)
   | ret=> exact (hd ▸ Q3a hr.2.1 ds _ _ h:Leaves P fn a.tmps R a.defers .returning w)
   | panic ch=> exact (hd ▸ Q3a hr.2.1 ds _ _ h:Leaves P fn a.tmps R a.defers (.panicking ch) w)
   | outgrown=> exact h
   | exit=> exact h
   | goto=> exact h


def recM:FrameMode→Value×FrameMode
 | .panicking ({v:=v,recovered:=false,goexit:=false}::older)=> (v, .panicking ({v:=v,recovered:=true}::older))
 | u=> (.nilIface,u)

def LD.wpR (P:Program):LD→(FrameMode→QT)→FrameMode→Env→World→Prop
 | .pl c,Q,u,ρ,w=> c.wp P (Q u) ρ w
 | .seq a b,Q,u,ρ,w=> a.wpR P (fun u'=> Qh (b.wpR P Q u') (Q u')) u ρ w
 | .sp l1 (.rcv d) l2,Q,u,ρ,w=> Q0 P l1 (Qh (fun ρ w=> Q0 P l2 (Q (recM u).2) (updo ρ d (recM u).1) w) (Q u)) ρ w
 | _,_,_,_,_=> False

def liftR (n:Nat) (c₀:Frame) (cs:List Frame) (Q:FrameMode→QT):Exit→Act→List Frame→World→Prop:=
 fun e a cs' w=>∃u,cs'={c₀ with mode:=u}::cs∧QaP n [] (Q u) e a w

theorem QbM (c₀:Frame) (cs:List Frame) (u:FrameMode):(match recoverD ({c₀ with mode:=u}::cs) with
 | some (v,cs')=> (v,cs')
 | none=> (.nilIface,{c₀ with mode:=u}::cs))=((recM u).1,{c₀ with mode:=(recM u).2}::cs):=by
 unfold recoverD recM
 dsimp only
 split <;> rename_i h
 · split at h
   · rename_i hm
     simp only [Option.some.injEq,Prod.mk.injEq] at h
     obtain ⟨rfl,rfl⟩:=h
     rfl
   · cases h
 · split at h
   · cases h
   · rename_i hm
     split
     · rename_i hm'
       exact absurd rfl (hm _ _)
     · rfl

theorem Q7S {P:Program}{n:Nat}{ops:Array Oper}{Q:QT}{QS:Exit→Act→List Frame→World→Prop}{cs:List Frame}{rest:List Nat}(hn:∀a w,QaP n [] Q .normal a w→wpOpsS P ops QS rest a cs w) (hq:∀e a w,e≠ .normal→QaP n [] Q e a w→QS e a cs w):∀(l:List Nat) (ρ:Env) (a:Act) (w:World),Rel n ρ [] a→
 (∀i∈l,∃o,ops[i]?=some o∧okG n ops o=true)→
 Q0 P (l.filterMap fun i=> (ops[i]?).map (Q2q P ops)) Q ρ w→wpOpsS P ops QS (l++rest) a cs w:=by
 intro l
 induction l with
 | nil=> intro ρ a w hr _ h;exact hn a w ⟨ρ,hr,h⟩
 | cons i l ih=>
   intro ρ a w hr hok h
   obtain ⟨o,ho,hg⟩:=hok i (by simp)
   have hok':∀i∈l,∃o,ops[i]?=some o∧okG n ops o=true:=fun i hi=> hok i (by simp [hi])
   simp only [List.filterMap_cons,ho,Option.map_some] at h
   have h':=Q6G hr hg _ Q w h
   simp only [List.cons_append,wpOpsS,ho]
   split
   · rename_i hw
     rw [if_pos hw] at h'
     have h1:=QaA (ds:=[]) hr (Q6k hg) (Q7R h')
     have h2:=Q63 (Q':=fun e a' w'=> QS e a' cs w') (K':=fun a' w'=> wpOpsS P ops QS (l++rest) a' cs w') (fun a w ⟨ρ,hr,h⟩=> ih ρ a w hr hok' h) (fun ch a w h=> hq _ a w (by simp) h) (fun ⟨a,w,h⟩=> ⟨a,w,hq _ a w (by simp) h⟩) _ h1
     split
     · rename_i w' hrun
       rw [hrun] at h2
       exact h2.elim
     · rename_i r hrun
       exact h2
   · rename_i hw
     rw [if_neg hw] at h'
     exact ih _ _ w (hr.put _ _ (Q6k hg)) hok' h'

theorem QdN {P :Program}{n:Nat}{c₀:Frame}{cs:List Frame}:∀(c:Code) (Q:FrameMode→QT) (u:FrameMode) (ρ:Env) (a:Act) (w:World),Rel n ρ [] a→(lowD P n c).wpR P Q u ρ w→c.wpS P (liftR n c₀ cs Q) a ({c₀ with mode:=u}::cs) w:=by
 have hpl:∀(c:Code) (Q:FrameMode→QT) (u:FrameMode) (ρ:Env) (a:Act) (w:World),Rel n ρ [] a→(Q2R P n c).wp P (Q u) ρ w→c.wpS P (liftR n c₀ cs Q) a ({c₀ with mode:=u}::cs) w:=fun c Q u ρ a w hr h=>
  wpS_of_wp (wp_mono (Q4q c _ ρ a w hr h) fun e a w h=> ⟨u,rfl,h⟩)
 intro c
 induction c with
 | seq x y ihx ihy=>
   intro Q u ρ a w hr h
   rw [lowD] at h
   split at h
   · refine wpS_seq ?_
     intro b k hb hro
     obtain ⟨e,a',cs',w',⟨u',rfl,ρ',hr',h'⟩,harr⟩:=ihx _ u ρ a w hr h b k hb hro
     refine ⟨e,a',_,w',?_,harr⟩
     cases e with
     | normal=> exact ihy _ u' ρ' a' w' hr' h'
     | _=> exact ⟨u',rfl,ρ',hr',h'⟩
   · exact hpl _ Q u ρ a w hr h
 | region id ops draw=>
   intro Q u ρ a w hr h
   cases draw with
   | true=> exact hpl _ Q u ρ a w hr h
   | false =>
     rw [lowD] at h
     split at h
     · rename_i l1 o s l2 hs
       obtain ⟨hops,hsp⟩:=Q4g hs
       split at h
       · rename_i hall
         have hok:∀i o,ops[i]?=some o→okG n ops o=true:=fun i o hi=> List.all_eq_true.1 hall o (by rw [←Array.getElem?_toList] at hi;exact List.mem_of_getElem? hi)
         have hsz:ops.size=ops.toList.length:=by simp
         have hgm:∀(l:List Nat),(l.filterMap fun i=> (ops[i]?).map (Q2q P ops))=l.filterMap fun i=> (ops.toList[i]?).map (Q2q P ops):=fun l=> by simp
         have hlen:ops.toList.length=l1.length+1+l2.length:=by rw [hops];simp;omega
         have hrange:∀(l:List Nat),(∀i∈l,i < ops.size)→∀i∈l,∃o,ops[i]?=some o∧okG n ops o=true:=fun l hl i hi=> ⟨ops[i]'(hl i hi),by simp [hl i hi],hok i _ (by simp [hl i hi])⟩
         refine wpS_region ?_
         rw [hsz,QaC hops]
         cases s with
         | dfr d x=> exact h.elim
         | rcv d=>
           refine Q7S (Q:=Qh (fun ρ w=> Q0 P (l2.map (Q2q P ops)) (Q (recM u).2) (updo ρ d (recM u).1) w) (Q u)) ?_ ?_ (List.range l1.length) ρ a w hr
            (hrange _ fun i hi=> by rw [hsz,hlen];have:=List.mem_range.1 hi;omega) (by rw [hgm,QcD _ hops];exact h)
           · rintro a w ⟨ρ',hr',h'⟩
             have hoi:ops[l1.length]?=some o:=by rw [←Array.getElem?_toList,hops];simp
             have hg:o.guard=none∧∃ts,∃xs:Array Operand,o.op= .call ⟨.builtin .recover,xs,ts⟩∧xs.size=0∧o.dst=d:=by
              unfold spOf at hsp
              split at hsp
              · split at hsp <;> cases hsp
              · rename_i xs' ts' hg ho
                split at hsp
                · rename_i hx0
                  simp only [Option.some.injEq,LSp.rcv.injEq] at hsp
                  exact ⟨hg,ts',xs',ho,hx0,hsp⟩
                · cases hsp
              · cases hsp
             obtain ⟨hgd,ts,xs,hop,hxs,hd⟩:=hg
             have hxs':xs=#[]:=Array.eq_empty_of_size_eq_zero hxs
             subst hxs'
             refine (?_:wpOpsS P ops _ (l1.length::_) a _ w)
             simp only [wpOpsS,hoi]
             rw [if_pos (by simp [Region.wanted,hgd])]
             have e1:(execOp a.eval o).run P w= .ok .recover w:=by
              simp [execOp,hop,resolve,invoke,builtin]
             rw [e1]
             have hdn:=Q6k (hok _ o hoi)
             rw [hd] at hdn
             have hr2:Rel n (updo ρ' d (recM u).1) [] (a.put d (recM u).1):=hr'.put d _ hdn
             have hrec:=QbM c₀ cs u
             have key:wpOpsS P ops (liftR n c₀ cs Q) ((List.range l2.length).map (l1.length+1+·)) (a.put o.dst (recM u).1) ({c₀ with mode:=(recM u).2}::cs) w:=by
              rw [hd]
              have h2:=Q7S (Q:=Q (recM u).2) (QS:=liftR n c₀ cs Q) (cs:={c₀ with mode:=(recM u).2}::cs) (rest:=[]) (fun a w h=> ⟨_,rfl,h⟩) (fun e a w _ h=> ⟨_,rfl,h⟩) ((List.range l2.length).map (l1.length+1+·)) _ _ w hr2
               (hrange _ fun i hi=> by rw [hsz,hlen];rw [List.mem_map] at hi;obtain ⟨j,hj,rfl⟩:=hi;have:=List.mem_range.1 hj;omega) (by rw [hgm,QeG _ hops];exact h')
              rwa [List.append_nil] at h2
             dsimp only
             split
             · rename_i v cs' hrd
               rw [hrd] at hrec
               simp only [Prod.mk.injEq] at hrec
               rw [hrec.1,hrec.2];exact key
             · rename_i hrd
               rw [hrd] at hrec
               simp only [Prod.mk.injEq] at hrec
               have e3:({c₀ with mode:=u}::cs:List Frame)={c₀ with mode:=(recM u).2}::cs:=hrec.2
               rw [hrec.1,e3];exact key
           · rintro e a w he ⟨ρ',hr',h'⟩
             refine ⟨u,rfl,ρ',hr',?_⟩
             cases e <;> first|exact h'|exact absurd rfl he
       · exact h.elim
     · exact hpl _ Q u ρ a w hr h
 | _=> exact hpl _

def retR (P:Program) (rs:List ResultVar) (R:Ending→FrameMode→World→Prop) (u:FrameMode):QT
 | .normal,ρ,w| .ret,ρ,w=> Qw P w ρ rs [] fun v=> R (.returned v) u w
 | .panic chain,_,w=> R (.panicked chain) u w
 | .outgrown,_,w=> R .outgrown u w
 | _,_,_=> False

theorem Q8L {P:Program}{f:FuncId}{fn:Func}{args:List Value}{u:FrameMode}{w:World}{R:Ending→FrameMode→World→Prop}{ld:LD}{rs:List ResultVar}
 (hf:P.funcs[f]?=some fn) (hl:QdO P fn=some ld) (hrs:fn.results.toList=rs) (hn:Nat.ble args.length fn.ntmps=true)
 (h:ld.wpR P (retR P rs R) u (Q61 args) w):CallsD P f ⟨args⟩ u w R:=by
 unfold QdO at hl
 cases hb:fn.body with
 | none=> simp [hb] at hl
 | some c=>
   simp only [hb,Option.map_some,Option.some.injEq] at hl
   subst hl hrs
   refine callsD_of_wpS hf hb ?_
   intro c₀ cs hu
   have hn':args.length≤fn.ntmps:=Nat.le_of_ble_eq_true hn
   have h1:=QdN (c₀:=c₀) (cs:=cs) c _ u _ _ w (Q6E ⟨args⟩ fn.ntmps hn' []) h
   have hc:({c₀ with mode:=u}:Frame)=c₀:=by subst hu;rfl
   rw [hc] at h1
   intro b k hb hro
   obtain ⟨e,a,cs',w',⟨u',rfl,ρ,hr,h2⟩,harr⟩:=h1 b k hb hro
   refine ⟨e,a,_,w',?_,harr⟩
   cases e with
   | normal=> obtain ⟨v,h3,h4⟩:=Q2m hr.2.1 h2;exact ⟨hr.2.2,u',rfl,v,h3,h4⟩
   | ret=> obtain ⟨v,h3,h4⟩:=Q2m hr.2.1 h2;exact ⟨hr.2.2,u',rfl,v,h3,h4⟩
   | panic ch=> exact ⟨hr.2.2,u',rfl,h2⟩
   | outgrown=> exact ⟨u',h2⟩
   | exit=> exact h2
   | goto=> exact h2

section
variable {P:Program}{ρ:Env}{w:World}{u:FrameMode}{ds:List Deferred}
theorem d_pl {c:LC}{Q:List Deferred→QT}(h:c.wp P (Q ds) ρ w):(LD.pl c).wpD P Q ds ρ w:=h
theorem Qcj {a b:LD}{Q:List Deferred→QT}(h:a.wpD P (fun ds'=> Qh (b.wpD P Q ds') (Q ds')) ds ρ w):(LD.seq a b).wpD P Q ds ρ w:=h
theorem d_sp {l1 l2:List GO}{d:Option Nat}{x:Operand}{Q:List Deferred→QT}(h:Q0 P l1 (Qh (fun ρ w=>∃f cap,ρ.ev x= .func (.func f) #[] cap∧Q0 P l2 (Q (⟨.fn (.func f) cap,#[]⟩::ds)) (updo ρ d undef) w) (Q ds)) ρ w):(LD.sp l1 (.dfr d x) l2).wpD P Q ds ρ w:=h
theorem r_pl {c:LC}{Q:FrameMode→QT}(h:c.wp P (Q u) ρ w):(LD.pl c).wpR P Q u ρ w:=h
theorem r_seq {a b:LD}{Q:FrameMode→QT}(h:a.wpR P (fun u'=> Qh (b.wpR P Q u') (Q u')) u ρ w):(LD.seq a b).wpR P Q u ρ w:=h
theorem r_sp {l1 l2:List GO}{d:Option Nat}{Q:FrameMode→QT}(h:Q0 P l1 (Qh (fun ρ w=> Q0 P l2 (Q (recM u).2) (updo ρ d (recM u).1) w) (Q u)) ρ w):(LD.sp l1 (.rcv d) l2).wpR P Q u ρ w:=h
def Defs (P:Program) (f:FuncId) (args:List Value) (u:FrameMode) (w:World) (S:FrameMode→World→Prop):Prop:=
 CallsD P f ⟨args⟩ u w fun e u' w'=> (∃v,e= .returned v)∧S u' w'
theorem Q4r {rs:List ResultVar}{R:Ending→World→Prop}{f:FuncId}{cap:List Value}{S:FrameMode→World→Prop}(hu:u≠ .run) (hf:Q3G P f=true) (hc:Defs P f cap u w S)
 (h:∀u' w',S u' w'→Q3b P rs ρ R [] (settle u') w'):Q3b P rs ρ R [⟨.fn (.func f) ⟨cap⟩,#[]⟩] u w:=by
 refine ⟨hu,f,⟨cap⟩,rfl,hf,hc.mono ?_⟩
 rintro e u' w' ⟨⟨v,rfl⟩,hs⟩
 exact h u' w' hs
theorem q_retD {rs:List ResultVar}{R:Ending→World→Prop}(h:Q3b P rs ρ R ds .returning w):retD P rs R ds .ret ρ w:=h
theorem q_endD {rs:List ResultVar}{R:Ending→World→Prop}(h:Q3b P rs ρ R ds .returning w):retD P rs R ds .normal ρ w:=h
theorem Qfv {rs:List ResultVar}{R:Ending→World→Prop}{ch:List PanicEntry}(h:Q3b P rs ρ R ds (.panicking ch) w):retD P rs R ds (.panic ch) ρ w:=h
theorem Q2W {rs:List ResultVar}{R:Ending→World→Prop}(h:retQ P rs R .ret ρ w):Q3b P rs ρ R [] .returning w:=h
theorem QcW {rs:List ResultVar}{R:Ending→FrameMode→World→Prop}(h:retQ P rs (fun e w=> R e u w) .normal ρ w):retR P rs R u .normal ρ w:=h
end
end Go.Lir
namespace Go.Lir
section
variable {P:Program}{l:List GO}{Q:QT}{ρ:Env}{w:World}{f:FuncId}{S T:Value→World→Prop}

theorem s_ends_2 {d:Nat}{u0 u1:Value}{x0 x1:Operand}(h0:ρ.ev x0=u0) (h1:ρ.ev x1=u1) (hc:Fins P f [u0,u1] w S T) (hp:∀v w',T v w'→Q (.panic [{v:=v,recovered:=false}]) ρ w') (h:∀v w',S v w'→Q0 P l Q (upd ρ d v) w'):Q0 P (⟨none, .call (some d) f [x0,x1]⟩::l) Q ρ w:=by
 subst h0 h1;exact Qf4 (by rfl) hc hp h
theorem s_ends_3 {d:Nat}{u0 u1 u2:Value}{x0 x1 x2:Operand}(h0:ρ.ev x0=u0) (h1:ρ.ev x1=u1) (h2:ρ.ev x2=u2) (hc:Fins P f [u0,u1,u2] w S T) (hp:∀v w',T v w'→Q (.panic [{v:=v,recovered:=false}]) ρ w') (h:∀v w',S v w'→Q0 P l Q (upd ρ d v) w'):Q0 P (⟨none, .call (some d) f [x0,x1,x2]⟩::l) Q ρ w:=by
 subst h0 h1 h2;exact Qf4 (by rfl) hc hp h
theorem s_ends_4 {d:Nat}{u0 u1 u2 u3:Value}{x0 x1 x2 x3:Operand}(h0:ρ.ev x0=u0) (h1:ρ.ev x1=u1) (h2:ρ.ev x2=u2) (h3:ρ.ev x3=u3) (hc:Fins P f [u0,u1,u2,u3] w S T) (hp:∀v w',T v w'→Q (.panic [{v:=v,recovered:=false}]) ρ w') (h:∀v w',S v w'→Q0 P l Q (upd ρ d v) w'):Q0 P (⟨none, .call (some d) f [x0,x1,x2,x3]⟩::l) Q ρ w:=by
 subst h0 h1 h2 h3;exact Qf4 (by rfl) hc hp h
theorem Q92 {b o T:Nat}{T':TypeId}{cs:List Value}{v:Value}(hs:Q2J P T=true) (hb:Blk w.heap b T' cs) (hv:cs[o]?=some v):Qad P w ⟨b,o,none⟩ T v:= .inl ⟨hs,hb.cell hv⟩
theorem Q6Y (k:Nat){Ty:TypeId}{ms:Array (String×TypeId)}{w0:World}(ht:P.underlying Ty=some (.interface ms)):(Op.equalIn (k+1) Ty .nilIface .nilIface).run P w0= .ok true w0:=by
 simp only [Op.equalIn,Sem.run_bind,Q4 P Ty _ w0 ht,Result.andThen_ok]
 simp [Sem.run_pure]
theorem Q8C {Ty:TypeId}{ms:Array (String×TypeId)}{w0:World}(ht:P.underlying Ty=some (.interface ms)):(Op.equal Ty .nilIface .nilIface).run P w0= .ok true w0:=Q6Y 9999 ht
theorem Q6d (k:Nat){Ty U:TypeId}{v:Value}{ms:Array (String×TypeId)}{w0:World}(ht:P.underlying Ty=some (.interface ms)):(Op.equalIn (k+1) Ty (.iface U v) .nilIface).run P w0= .ok false w0:=by
 simp only [Op.equalIn,Sem.run_bind,Q4 P Ty _ w0 ht,Result.andThen_ok]
 simp [Sem.run_pure]
theorem Q7C {Ty U:TypeId}{v:Value}{ms:Array (String×TypeId)}{w0:World}(ht:P.underlying Ty=some (.interface ms)):(Op.equal Ty (.iface U v) .nilIface).run P w0= .ok false w0:=Q6d 9999 ht
theorem QcJ {d:Nat}{Ty:TypeId}{x:Operand}{ms:Array (String×TypeId)}(ht:P.underlying Ty=some (.interface ms)) (hx:ρ.ev x= .nilIface) (h:Q0 P l Q (upd ρ d (.bool false)) w):Q0 P (⟨none, .bin d .neq Ty x (.const .nilIface)⟩::l) Q ρ w:=
 ⟨_,fun w0=> by rw [hx];simp [Env.ev,eqGuard,binOp,Q8C ht],h⟩
theorem QcI {d:Nat}{Ty U:TypeId}{v:Value}{x:Operand}{ms:Array (String×TypeId)}(ht:P.underlying Ty=some (.interface ms)) (hx:ρ.ev x= .iface U v) (h:Q0 P l Q (upd ρ d (.bool true)) w):Q0 P (⟨none, .bin d .neq Ty x (.const .nilIface)⟩::l) Q ρ w:=
 ⟨_,fun w0=> by rw [hx];simp [Env.ev,eqGuard,binOp,Q7C ht],h⟩
theorem St.pick3 {c:Cx}{L L1 L2 L3:List Res}{r1 r2 r3:Res}(h:St c w L) (p1:Pick L r1 L1) (p2:Pick L1 r2 L2) (p3:Pick L2 r3 L3):St c w (r1::r2::r3::L3):=
 h.perm (p1.perm.trans (List.Perm.cons _ (p2.perm.trans (List.Perm.cons _ p3.perm))))
end
end Go.Lir
namespace Go.Lir
set_option linter.unusedVariables false
structure Bx (K:Prop):Prop where
 o:K
section
variable {K G:Prop}
theorem zn (k:K) (h:Bx K→G:=by
 intro K9
 refine s_nil ?_
 (repeat (first|refine Q7w ?_|refine Q7a ?_))
 exact K9.o):G:=h ⟨k⟩
theorem zcn (k:K) (h:Bx K→G:=by
 intro K9
 refine s_cnil ?_
 (repeat (first|refine Q7w ?_|refine Q7a ?_))
 exact K9.o):G:=h ⟨k⟩
theorem zsk (k:K) (h:Bx K→G:=by
 intro K9
 refine s_skip ?_
 (repeat (first|refine Q7w ?_|refine Q7a ?_))
 exact K9.o):G:=h ⟨k⟩
theorem zex (k:K) (h:Bx K→G:=by
 intro K9
 refine s_exit ?_
 (repeat (first|refine s_exitQ ?_|refine s_exitT ?_|refine s_exitB rfl ?_|refine Q7w ?_|refine Q7a ?_))
 exact K9.o):G:=h ⟨k⟩
theorem zr (k:K) (h:Bx K→G:=by
 intro K9
 refine s_ret ?_
 (repeat (first|refine s_retT ?_|refine s_retB ?_))
 exact K9.o):G:=h ⟨k⟩
theorem zy {A:Prop}(k:G) (h:A:=by
 repeat (first
  | exact fun _ h=> (List.not_mem_nil h).elim
  | refine List.forall_mem_cons.2 ⟨by first|exact QK hS rfl (NthP.nth (by repeat constructor)) rfl|exact Q1Y hS rfl (NthP.nth (by repeat constructor)) rfl rfl|exact Q4A hS (by assumption) rfl rfl|exact Q2B hS (by assumption) rfl rfl rfl|exact Q4O hS (by assumption) rfl rfl|exact Q89 hS (by assumption) rfl rfl rfl|exact gq_skip rfl rfl|exact Q6x rfl (QK hS rfl (NthP.nth (by repeat constructor)) rfl)|exact Q6x rfl (Q1Y hS rfl (NthP.nth (by repeat constructor)) rfl rfl)|exact Q6x rfl (Q4A hS (by assumption) rfl rfl)|exact Q6x rfl (Q2B hS (by assumption) rfl rfl rfl)|exact Q6x rfl (Q4O hS (by assumption) rfl rfl)|exact Q6x rfl (Q89 hS (by assumption) rfl rfl rfl),?_⟩)):A∧G:=⟨h,k⟩
end
section
variable {P:Program}{l:List GO}{Q:QT}{ρ:Env}{w:World}{c:Cx}{L:List Res}{i:Nat}{T es:Nat}{v:Value}{css:List (List Value)}
theorem zt {K:KT}(h:K ρ w):Q0 P [] (Qh K Q) ρ w:=s_nil (Q7w h)
theorem St.ns {L':List Res}(h:St c w L) (e:L=L':=by (conv=> lhs;simp only [List.set_cons_zero,List.set_cons_succ]);first|done|exact rfl):St c w L':=e ▸ h
theorem zgn {s:Nat}{b:Bool}{o:LO}{v:Value}(h:Q0 P l Q (updo ρ o.dst undef) w) (hg:ρ s=v:=by exact rfl) (hw:Q8z v b=false:=by exact rfl):Q0 P (⟨some (s,b),o⟩::l) Q ρ w:=s_gn hg hw h
theorem zgy {s:Nat}{b:Bool}{o:LO}(h:Q0 P (⟨none,o⟩::l) Q ρ w) (hg:ρ s= .bool b:=by exact rfl):Q0 P (⟨some (s,b),o⟩::l) Q ρ w:=s_gy hg h
theorem zct {c:Operand}{a b:LC}(h:a.wp P Q ρ w) (hc:ρ.ev c= .bool true:=by exact rfl):(LC.cond c a b).wp P Q ρ w:=s_cond_t hc h
theorem zcf {c:Operand}{a b:LC}(h:b.wp P Q ρ w) (hc:ρ.ev c= .bool false:=by exact rfl):(LC.cond c a b).wp P Q ρ w:=s_cond_f hc h
theorem zf0 {d:Nat}{x:Operand}{off b:Nat}(h:Q0 P l Q (upd ρ d (.pointer (some ⟨b,off,none⟩))) w) (hx:ρ.ev x= .pointer (some ⟨b,0,none⟩):=by exact rfl):Q0 P (⟨none, .fld d x off⟩::l) Q ρ w:=s_fld0 hx h
theorem zfd {d:Nat}{x:Operand}{off b o:Nat}(h:Q0 P l Q (upd ρ d (.pointer (some ⟨b,o+off,none⟩))) w) (hx:ρ.ev x= .pointer (some ⟨b,o,none⟩):=by exact rfl):Q0 P (⟨none, .fld d x off⟩::l) Q ρ w:=s_fld hx h
theorem znc {d:Nat}{x:Operand}{a:Addr}(h:Q0 P l Q (upd ρ d (.pointer (some a))) w) (hx:ρ.ev x= .pointer (some a):=by exact rfl):Q0 P (⟨none, .nilc d x⟩::l) Q ρ w:=s_nilc hx h
theorem znt {d:Nat}{x:Operand}{b:Bool}(h:Q0 P l Q (upd ρ d (.bool (!b))) w) (hx:ρ.ev x= .bool b:=by exact rfl):Q0 P (⟨none, .un d .not x⟩::l) Q ρ w:=s_not hx h
theorem zxt {d:Nat}{x:Operand}{i:Nat}{vs:List Value}{v:Value}(h:Q0 P l Q (upd ρ d v) w) (hx:ρ.ev x= .tuple ⟨vs⟩:=by exact rfl) (hv:vs[i]?=some v:=by exact rfl):Q0 P (⟨none, .ext d x i⟩::l) Q ρ w:=s_ext hx hv h
theorem zm {d:Nat}{x:Operand}{v:Value}(h:Q0 P l Q (upd ρ d v) w) (hx:ρ.ev x=v:=by (conv=> lhs;whnf);first|done|exact rfl):Q0 P (⟨none, .mov d x⟩::l) Q ρ w:=s_mov hx h
theorem zpt {d:Nat}{c x y:Operand}{v:Value}(h:Q0 P l Q (upd ρ d v) w) (hc:ρ.ev c= .bool true:=by exact rfl) (hx:ρ.ev x=v:=by (conv=> lhs;whnf);first|done|exact rfl):Q0 P (⟨none, .pick d c x y⟩::l) Q ρ w:=Q1h hc hx h
theorem zpf {d:Nat}{c x y:Operand}{v:Value}(h:Q0 P l Q (upd ρ d v) w) (hc:ρ.ev c= .bool false:=by exact rfl) (hx:ρ.ev y=v:=by (conv=> lhs;whnf);first|done|exact rfl):Q0 P (⟨none, .pick d c x y⟩::l) Q ρ w:=Q1y hc hx h
theorem zki {d:Nat}{T:TypeId}{x:Operand}{v:Value}(h:Q0 P l Q (upd ρ d (.iface T v)) w) (hx:ρ.ev x=v:=by (conv=> lhs;whnf);first|done|exact rfl):Q0 P (⟨none, .mki d T x⟩::l) Q ρ w:=s_mki hx h
theorem zl {d:Nat}{x:Operand}{b o:Nat}{cs:List Value}{u:Value}(hS:St c w L) (h:Q0 P l Q (upd ρ d u) w) (hx:ρ.ev x= .pointer (some ⟨b,o,none⟩):=by exact rfl) (hi:nth L i=some (blk b T cs):=by exact NthP.nth (by repeat constructor)) (hu:cs[o]?=some u:=by exact rfl):Q0 P (⟨none, .load1 d x⟩::l) Q ρ w:=QG hS hx hi hu h
theorem zlk {d:Nat}{x:Operand}{b o:Nat}{cs:List Value}{u:Value}(hS:St c w L) (h:Q0 P l Q (upd ρ d u) w) (ha:AtK c b o cs:=by assumption) (hx:ρ.ev x= .pointer (some ⟨b,o,none⟩):=by exact rfl) (hu:cs[0]?=some u:=by exact rfl):Q0 P (⟨none, .load1 d x⟩::l) Q ρ w:=s_loadK hS ha hx hu h
theorem zlj {d:Nat}{x:Operand}{b o j:Nat}{cs:List Value}{u:Value}(hS:St c w L) (h:Q0 P l Q (upd ρ d u) w) (ha:AtK c b o cs:=by assumption) (hx:ρ.ev x= .pointer (some ⟨b,o+j,none⟩):=by exact rfl) (hu:cs[j]?=some u:=by exact rfl):Q0 P (⟨none, .load1 d x⟩::l) Q ρ w:=s_loadKj hS ha hx hu h
theorem zv {d n:Nat}{x:Operand}{b o:Nat}{cs us:List Value}(hS:St c w L) (h:Q0 P l Q (upd ρ d (.agg ⟨us⟩)) w) (hx:ρ.ev x= .pointer (some ⟨b,o,none⟩):=by exact rfl) (hi:nth L i=some (blk b T cs):=by exact NthP.nth (by repeat constructor)) (hu:(cs.drop o).take n=us:=by exact rfl) (hl:us.length=n:=by exact rfl):Q0 P (⟨none, .loadn d n x⟩::l) Q ρ w:=Q9o hS hx hi hu hl h
theorem zvk {d n:Nat}{x:Operand}{b o:Nat}{cs:List Value}(hS:St c w L) (h:Q0 P l Q (upd ρ d (.agg ⟨cs⟩)) w) (ha:AtK c b o cs:=by assumption) (hx:ρ.ev x= .pointer (some ⟨b,o,none⟩):=by exact rfl) (hl:cs.length=n:=by exact rfl):Q0 P (⟨none, .loadn d n x⟩::l) Q ρ w:=s_loadnK hS ha hx hl h
theorem zli {d n:Nat}{x:Operand}{m b o:Nat}{xs:List Int}(hS:St c w L) (h:Q0 P l Q (upd ρ d (.int .i64 (xs.getD m 0))) w) (he:ElP v n 1 m b o:=by assumption) (hx:ρ.ev x= .pointer (some ⟨b,o,none⟩):=by exact rfl) (hi:nth L i=some (sl T 1 v (xs.map Qj)):=by exact NthP.nth (by repeat constructor)) (hn:(xs.map Qj).length=n:=by exact rfl) (hm:m < xs.length:=by first|omega|(simp;omega)):Q0 P (⟨none, .load1 d x⟩::l) Q ρ w:=QbF hS he hx hi hn hm h
theorem zlb {d n:Nat}{x:Operand}{m b o:Nat}{xs:List Bool}(hS:St c w L) (h:Q0 P l Q (upd ρ d (.bool (xs.getD m false))) w) (he:ElP v n 1 m b o:=by assumption) (hx:ρ.ev x= .pointer (some ⟨b,o,none⟩):=by exact rfl) (hi:nth L i=some (sl T 1 v (xs.map QF)):=by exact NthP.nth (by repeat constructor)) (hn:(xs.map QF).length=n:=by exact rfl) (hm:m < xs.length:=by first|omega|(simp;omega)):Q0 P (⟨none, .load1 d x⟩::l) Q ρ w:=s_loadBo hS he hx hi hn hm h
theorem zLe {d n:Nat}{x:Operand}(hS:St c w L) (h:Q0 P l Q (upd ρ d (.int .i64 n)) w) (hx:ρ.ev x=v:=by (conv=> lhs;whnf);first|done|exact rfl) (hi:nth L i=some (sl T es v css):=by exact NthP.nth (by repeat constructor)) (hn:css.length=n:=by first|exact List.length_map _|rfl):Q0 P (⟨none, .len d x⟩::l) Q ρ w:=QO hS hx hi hn h
theorem zad {d:Nat}{T:TypeId}{x y:Operand}{a b:Int}(h:Q0 P l Q (upd ρ d (.int .i64 (a+b))) w) (hx:ρ.ev x= .int .i64 a:=by exact rfl) (hy:ρ.ev y= .int .i64 b:=by exact rfl) (h1: -9223372036854775808≤a+b:=by omega) (h2:a+b≤9223372036854775807:=by omega):Q0 P (⟨none, .bin d .add T x y⟩::l) Q ρ w:=s_add hx hy h1 h2 h
theorem zsu {d:Nat}{T:TypeId}{x y:Operand}{a b:Int}(h:Q0 P l Q (upd ρ d (.int .i64 (a - b))) w) (hx:ρ.ev x= .int .i64 a:=by exact rfl) (hy:ρ.ev y= .int .i64 b:=by exact rfl) (h1: -9223372036854775808≤a - b:=by omega) (h2:a - b≤9223372036854775807:=by omega):Q0 P (⟨none, .bin d .sub T x y⟩::l) Q ρ w:=s_subi hx hy h1 h2 h
theorem zmu {d:Nat}{T:TypeId}{x y:Operand}{a b:Int}(h:Q0 P l Q (upd ρ d (.int .i64 (a*b))) w) (hx:ρ.ev x= .int .i64 a:=by exact rfl) (hy:ρ.ev y= .int .i64 b:=by exact rfl) (h1: -9223372036854775808≤a*b:=by omega) (h2:a*b≤9223372036854775807:=by omega):Q0 P (⟨none, .bin d .mul T x y⟩::l) Q ρ w:=s_mul hx hy h1 h2 h
theorem Q1k {d:Nat}{T:TypeId}{x y:Operand}{k:IntKind}{a b:Int}(h:Q0 P l Q (upd ρ d (.bool true)) w) (hx:ρ.ev x= .int k a:=by exact rfl) (hy:ρ.ev y= .int k b:=by exact rfl) (hp:a < b:=by omega):Q0 P (⟨none, .bin d .lss T x y⟩::l) Q ρ w:=s_lss_t hx hy hp h
theorem Q1w {d:Nat}{T:TypeId}{x y:Operand}{k:IntKind}{a b:Int}(h:Q0 P l Q (upd ρ d (.bool false)) w) (hx:ρ.ev x= .int k a:=by exact rfl) (hy:ρ.ev y= .int k b:=by exact rfl) (hp:¬(a < b):=by omega):Q0 P (⟨none, .bin d .lss T x y⟩::l) Q ρ w:=s_lss_f hx hy hp h
theorem Qi {d:Nat}{T:TypeId}{x y:Operand}{k:IntKind}{a b:Int}(h:Q0 P l Q (upd ρ d (.bool true)) w) (hx:ρ.ev x= .int k a:=by exact rfl) (hy:ρ.ev y= .int k b:=by exact rfl) (hp:a=b:=by omega):Q0 P (⟨none, .bin d .eql T x y⟩::l) Q ρ w:=Qf2 hx hy hp h
theorem Qm {d:Nat}{T:TypeId}{x y:Operand}{k:IntKind}{a b:Int}(h:Q0 P l Q (upd ρ d (.bool false)) w) (hx:ρ.ev x= .int k a:=by exact rfl) (hy:ρ.ev y= .int k b:=by exact rfl) (hp:¬(a=b):=by omega):Q0 P (⟨none, .bin d .eql T x y⟩::l) Q ρ w:=Qf3 hx hy hp h
theorem Q11 {d:Nat}{T:TypeId}{x y:Operand}{k:IntKind}{a b:Int}(h:Q0 P l Q (upd ρ d (.bool true)) w) (hx:ρ.ev x= .int k a:=by exact rfl) (hy:ρ.ev y= .int k b:=by exact rfl) (hp:a≠b:=by omega):Q0 P (⟨none, .bin d .neq T x y⟩::l) Q ρ w:=s_neq_t hx hy hp h
theorem Q18 {d:Nat}{T:TypeId}{x y:Operand}{k:IntKind}{a b:Int}(h:Q0 P l Q (upd ρ d (.bool false)) w) (hx:ρ.ev x= .int k a:=by exact rfl) (hy:ρ.ev y= .int k b:=by exact rfl) (hp:¬(a≠b):=by omega):Q0 P (⟨none, .bin d .neq T x y⟩::l) Q ρ w:=s_neq_f hx hy hp h
theorem Q1e {d:Nat}{T:TypeId}{x y:Operand}{k:IntKind}{a b:Int}(h:Q0 P l Q (upd ρ d (.bool true)) w) (hx:ρ.ev x= .int k a:=by exact rfl) (hy:ρ.ev y= .int k b:=by exact rfl) (hp:b < a:=by omega):Q0 P (⟨none, .bin d .gtr T x y⟩::l) Q ρ w:=s_gtr_t hx hy hp h
theorem Q1s {d:Nat}{T:TypeId}{x y:Operand}{k:IntKind}{a b:Int}(h:Q0 P l Q (upd ρ d (.bool false)) w) (hx:ρ.ev x= .int k a:=by exact rfl) (hy:ρ.ev y= .int k b:=by exact rfl) (hp:¬(b < a):=by omega):Q0 P (⟨none, .bin d .gtr T x y⟩::l) Q ρ w:=s_gtr_f hx hy hp h
theorem Q2w {d:Nat}{T:TypeId}{x y:Operand}{k:IntKind}{a b:Int}(h:Q0 P l Q (upd ρ d (.bool true)) w) (hx:ρ.ev x= .int k a:=by exact rfl) (hy:ρ.ev y= .int k b:=by exact rfl) (hp:b≤a:=by omega):Q0 P (⟨none, .bin d .geq T x y⟩::l) Q ρ w:=s_geq_t hx hy hp h
theorem Q3k {d:Nat}{T:TypeId}{x y:Operand}{k:IntKind}{a b:Int}(h:Q0 P l Q (upd ρ d (.bool false)) w) (hx:ρ.ev x= .int k a:=by exact rfl) (hy:ρ.ev y= .int k b:=by exact rfl) (hp:¬(b≤a):=by omega):Q0 P (⟨none, .bin d .geq T x y⟩::l) Q ρ w:=s_geq_f hx hy hp h
theorem zst {x y:Operand}{b o:Nat}{cs:List Value}{u:Value}(hS:St c w L) (h:∀w',St c w' (L.set i (blk b T (cs.set o u)))→Q0 P l Q ρ w') (hx:ρ.ev x= .pointer (some ⟨b,o,none⟩):=by exact rfl) (hy:ρ.ev y=u:=by (conv=> lhs;whnf);first|done|exact rfl) (hi:nth L i=some (blk b T cs):=by exact NthP.nth (by repeat constructor)) (ho:o < cs.length:=by simp) (h1:oneC u=true:=by first|rfl|assumption|exact hS.oneC (NthP.nth (by repeat constructor))|exact SlR.oneC (by assumption)):Q0 P (⟨none, .store1 x y⟩::l) Q ρ w:=QcF hS hx hy hi ho h1 h
theorem zsi {n:Nat}{x y:Operand}{m b o:Nat}{xs:List Int}{u:Int}(hS:St c w L) (h:∀w',St c w' (L.set i (sl T 1 v ((xs.set m u).map Qj)))→Q0 P l Q ρ w') (he:ElP v n 1 m b o:=by assumption) (hx:ρ.ev x= .pointer (some ⟨b,o,none⟩):=by exact rfl) (hy:ρ.ev y= .int .i64 u:=by (conv=> lhs;whnf);first|done|exact rfl) (hi:nth L i=some (sl T 1 v (xs.map Qj)):=by exact NthP.nth (by repeat constructor)) (hn:(xs.map Qj).length=n:=by exact rfl) (hm:m < xs.length:=by first|omega|(simp;omega)):Q0 P (⟨none, .store1 x y⟩::l) Q ρ w:=s_storeI hS he hx hy hi hn hm h
theorem zsb {n:Nat}{x y:Operand}{m b o:Nat}{xs:List Bool}{u:Bool}(hS:St c w L) (h:∀w',St c w' (L.set i (sl T 1 v ((xs.set m u).map QF)))→Q0 P l Q ρ w') (he:ElP v n 1 m b o:=by assumption) (hx:ρ.ev x= .pointer (some ⟨b,o,none⟩):=by exact rfl) (hy:ρ.ev y= .bool u:=by (conv=> lhs;whnf);first|done|exact rfl) (hi:nth L i=some (sl T 1 v (xs.map QF)):=by exact NthP.nth (by repeat constructor)) (hn:(xs.map QF).length=n:=by exact rfl) (hm:m < xs.length:=by first|omega|(simp;omega)):Q0 P (⟨none, .store1 x y⟩::l) Q ρ w:=QeU hS he hx hy hi hn hm h
theorem zb {d:Nat}{x:Operand}{cs:List Value}(hS:St c w L) (h:∀b w',St c w' (blk b T cs::L)→Q0 P l Q (upd ρ d (.pointer (some ⟨b,0,none⟩))) w') (hx:ρ.ev x=v:=by (conv=> lhs;whnf);first|done|exact rfl) (hc:v.cells=⟨cs⟩:=by rfl):Q0 P (⟨none, .box d T x⟩::l) Q ρ w:=Q1U hS hx hc h
theorem zie {d m:Nat}{x y:Operand}{k:IntKind}(hS:St c w L) (h:∀b o,ElP v css.length es m b o→Q0 P l Q (upd ρ d (.pointer (some ⟨b,o,none⟩))) w) (hx:ρ.ev x=v:=by (conv=> lhs;whnf);first|done|exact rfl) (hy:ρ.ev y= .int k (m:Int):=by exact rfl) (hi:nth L i=some (sl T es v css):=by exact NthP.nth (by repeat constructor)) (hm:m < css.length:=by first|omega|(simp;omega)):Q0 P (⟨none, .idx d es x y⟩::l) Q ρ w:=Q2Q hS hx hy hi hm h
theorem zij {d:Nat}{x y:Operand}{k:IntKind}{n:Int}(hS:St c w L) (h:∀b o,ElP v css.length es n.toNat b o→Q0 P l Q (upd ρ d (.pointer (some ⟨b,o,none⟩))) w) (hx:ρ.ev x=v:=by (conv=> lhs;whnf);first|done|exact rfl) (hy:ρ.ev y= .int k n:=by exact rfl) (hi:nth L i=some (sl T es v css):=by exact NthP.nth (by repeat constructor)) (h0:0≤n:=by first|omega|(simp;omega)) (hm:n < css.length:=by first|omega|(simp;omega)):Q0 P (⟨none, .idx d es x y⟩::l) Q ρ w:=QJ hS hx hy hi h0 hm h
theorem zsn {n i b T:Nat}{x y:Operand}{cs us:List Value}(hS:St c w L) (h:∀w',St c w' (L.set i (blk b T us))→Q0 P l Q ρ w') (hx:ρ.ev x= .pointer (some ⟨b,0,none⟩):=by exact rfl) (hy:ρ.ev y= .agg ⟨us⟩:=by exact rfl) (hn:us.length=n:=by rfl) (hi:nth L i=some (blk b T cs):=by exact NthP.nth (by repeat constructor)) (hc:cs.length=n:=by rfl) (h1:∀u∈us,oneC u=true:=by first|(simp [oneC];done)|assumption|exact Rep.one _ (by assumption)|(simp only [List.take_succ_cons,List.take_zero,List.drop_zero,List.mem_cons,List.not_mem_nil,or_false,forall_eq_or_imp,forall_eq];((try refine And.intro ?_ ?_) <;> try refine And.intro ?_ ?_) <;> first|rfl|assumption)):Q0 P (⟨none, .storen n x y⟩::l) Q ρ w:=QeT hS hx hy hn hi hc h1 h
theorem zsm {n:Nat}{x y:Operand}{b o:Nat}{cs us cs':List Value}(hS:St c w L) (h:∀w',St c w' (L.set i (blk b T cs'))→Q0 P l Q ρ w') (hx:ρ.ev x= .pointer (some ⟨b,o,none⟩):=by exact rfl) (hy:ρ.ev y= .agg ⟨us⟩:=by exact rfl) (hn:us.length=n:=by rfl) (hi:nth L i=some (blk b T cs):=by exact NthP.nth (by repeat constructor)) (ho:o+n≤cs.length:=by simp) (h1:∀u∈us,oneC u=true:=by first|(simp [oneC];done)|assumption|exact Rep.one _ (by assumption)|(simp only [List.take_succ_cons,List.take_zero,List.drop_zero,List.mem_cons,List.not_mem_nil,or_false,forall_eq_or_imp,forall_eq];((try refine And.intro ?_ ?_) <;> try refine And.intro ?_ ?_) <;> first|rfl|assumption)) (hc:cs.take o++(us++cs.drop (o+n))=cs':=by (conv=> lhs;simp only [List.take_succ_cons,List.take_zero,List.drop_succ_cons,List.drop_zero,List.cons_append,List.nil_append]);first|done|exact rfl):Q0 P (⟨none, .storen n x y⟩::l) Q ρ w:=Q1g hS hx hy hn hi ho h1 hc h
theorem zf {t:Nat}{R:Ending→World→Prop}{v:Value}(h:R (.returned v) w) (hv:ρ t=v:=by (conv=> lhs;whnf);first|done|exact rfl):retQ P [.tmp t] R .ret ρ w:=q_ret1 hv h
theorem zf2 {t u:Nat}{R:Ending→World→Prop}{v v':Value}(h:R (.returned (.tuple #[v,v'])) w) (hv:ρ t=v:=by (conv=> lhs;whnf);first|done|exact rfl) (hv':ρ u=v':=by (conv=> lhs;whnf);first|done|exact rfl):retQ P [.tmp t, .tmp u] R .ret ρ w:=q_ret2 hv hv' h
theorem zb0 {d:Nat}{z:List Value}(cs:List Value) (h:Q0 P l Q (upd ρ d (.agg ⟨cs⟩)) w) (hf:Q2U z []=some cs:=by rfl):Q0 P (⟨none, .build d z []⟩::l) Q ρ w:=Q79 hf h
theorem zb1 {d:Nat}{z:List Value}{o0 n0:Nat}{x0:Operand}{v0:Value}(cs:List Value) (h:Q0 P l Q (upd ρ d (.agg ⟨cs⟩)) w) (h0:ρ.ev x0=v0:=by (conv=> lhs;whnf);first|done|exact rfl) (hf:Q2U z [(o0,n0,v0)]=some cs:=by rfl):Q0 P (⟨none, .build d z [(o0,n0,x0)]⟩::l) Q ρ w:=Q9r h0 hf h
theorem zB1 {d:Nat}{T:TypeId}{n:Nat}{z:List Value}{o0 n0:Nat}{x0:Operand}{v0:Value}(hS:St c w L) (cs:List Value) (h:∀b w',St c w' (blk b T cs::L)→Q0 P l Q (upd ρ d (.slice (some ⟨b,0,none⟩) n n)) w') (h0:ρ.ev x0=v0:=by (conv=> lhs;whnf);first|done|exact rfl) (hf:Q2U z [(o0,n0,v0)]=some cs:=by rfl):Q0 P (⟨none, .buildS d T n z [(o0,n0,x0)]⟩::l) Q ρ w:=Q2c h0 hf fun b w' hb hf1 _ hk=> h b w' (hS.laid hb hf1 hk)
theorem zb2 {d:Nat}{z:List Value}{o0 n0:Nat}{x0:Operand}{v0:Value}{o1 n1:Nat}{x1:Operand}{v1:Value}(cs:List Value) (h:Q0 P l Q (upd ρ d (.agg ⟨cs⟩)) w) (h0:ρ.ev x0=v0:=by (conv=> lhs;whnf);first|done|exact rfl) (h1:ρ.ev x1=v1:=by (conv=> lhs;whnf);first|done|exact rfl) (hf:Q2U z [(o0,n0,v0),(o1,n1,v1)]=some cs:=by rfl):Q0 P (⟨none, .build d z [(o0,n0,x0),(o1,n1,x1)]⟩::l) Q ρ w:=Q5A h0 h1 hf h
theorem zB2 {d:Nat}{T:TypeId}{n:Nat}{z:List Value}{o0 n0:Nat}{x0:Operand}{v0:Value}{o1 n1:Nat}{x1:Operand}{v1:Value}(hS:St c w L) (cs:List Value) (h:∀b w',St c w' (blk b T cs::L)→Q0 P l Q (upd ρ d (.slice (some ⟨b,0,none⟩) n n)) w') (h0:ρ.ev x0=v0:=by (conv=> lhs;whnf);first|done|exact rfl) (h1:ρ.ev x1=v1:=by (conv=> lhs;whnf);first|done|exact rfl) (hf:Q2U z [(o0,n0,v0),(o1,n1,v1)]=some cs:=by rfl):Q0 P (⟨none, .buildS d T n z [(o0,n0,x0),(o1,n1,x1)]⟩::l) Q ρ w:=Qf7 h0 h1 hf fun b w' hb hf1 _ hk=> h b w' (hS.laid hb hf1 hk)
theorem zb3 {d:Nat}{z:List Value}{o0 n0:Nat}{x0:Operand}{v0:Value}{o1 n1:Nat}{x1:Operand}{v1:Value}{o2 n2:Nat}{x2:Operand}{v2:Value}(cs:List Value) (h:Q0 P l Q (upd ρ d (.agg ⟨cs⟩)) w) (h0:ρ.ev x0=v0:=by (conv=> lhs;whnf);first|done|exact rfl) (h1:ρ.ev x1=v1:=by (conv=> lhs;whnf);first|done|exact rfl) (h2:ρ.ev x2=v2:=by (conv=> lhs;whnf);first|done|exact rfl) (hf:Q2U z [(o0,n0,v0),(o1,n1,v1),(o2,n2,v2)]=some cs:=by rfl):Q0 P (⟨none, .build d z [(o0,n0,x0),(o1,n1,x1),(o2,n2,x2)]⟩::l) Q ρ w:=s_build3 h0 h1 h2 hf h
theorem zb5 {d:Nat}{z:List Value}{o0 n0:Nat}{x0:Operand}{v0:Value}{o1 n1:Nat}{x1:Operand}{v1:Value}{o2 n2:Nat}{x2:Operand}{v2:Value}{o3 n3:Nat}{x3:Operand}{v3:Value}{o4 n4:Nat}{x4:Operand}{v4:Value}(cs:List Value) (h:Q0 P l Q (upd ρ d (.agg ⟨cs⟩)) w) (h0:ρ.ev x0=v0:=by (conv=> lhs;whnf);first|done|exact rfl) (h1:ρ.ev x1=v1:=by (conv=> lhs;whnf);first|done|exact rfl) (h2:ρ.ev x2=v2:=by (conv=> lhs;whnf);first|done|exact rfl) (h3:ρ.ev x3=v3:=by (conv=> lhs;whnf);first|done|exact rfl) (h4:ρ.ev x4=v4:=by (conv=> lhs;whnf);first|done|exact rfl) (hf:Q2U z [(o0,n0,v0),(o1,n1,v1),(o2,n2,v2),(o3,n3,v3),(o4,n4,v4)]=some cs:=by rfl):Q0 P (⟨none, .build d z [(o0,n0,x0),(o1,n1,x1),(o2,n2,x2),(o3,n3,x3),(o4,n4,x4)]⟩::l) Q ρ w:=s_build5 h0 h1 h2 h3 h4 hf h
theorem zD {gs:List GO}{es:List (List Nat)}(C:List CI) (h:Q0 P (C.map fun c=> gat gs c.1) Q ρ w.drew) (hok:Q8m gs es C=true:=by kernel_rfl) (hpl:(C.all fun c=> match c.2 with|some (some _)=> false|_=> true)=true:=by kernel_rfl):(LC.draw gs es).wp P Q ρ w:=Qf5 C hok hpl h
theorem zC {gs:List GO}{es:List (List Nat)}(C:List CI) (h:Q1N P gs C Q ρ w.drew) (hok:Q8m gs es C=true:=by kernel_rfl):(LC.draw gs es).wp P Q ρ w:=QbH C hok h
theorem zR0 {d:Nat}{f:FuncId}{S:Value→World→Prop}(c:Rets P f [] w S) (h:∀v w',S v w'→Q0 P l Q (upd ρ d v) w'):Q0 P (⟨none, .call (some d) f []⟩::l) Q ρ w:=s_rets_0 c h
theorem zR1 {d:Nat}{f:FuncId}{x0:Operand}{u0:Value}{S:Value→World→Prop}(h0:ρ.ev x0=u0:=by (conv=> lhs;whnf);first|done|exact rfl) (c:Rets P f [u0] w S) (h:∀v w',S v w'→Q0 P l Q (upd ρ d v) w'):Q0 P (⟨none, .call (some d) f [x0]⟩::l) Q ρ w:=Q9l h0 c h
theorem zR2 {d:Nat}{f:FuncId}{x0 x1:Operand}{u0 u1:Value}{S:Value→World→Prop}(h0:ρ.ev x0=u0:=by (conv=> lhs;whnf);first|done|exact rfl) (h1:ρ.ev x1=u1:=by (conv=> lhs;whnf);first|done|exact rfl) (c:Rets P f [u0,u1] w S) (h:∀v w',S v w'→Q0 P l Q (upd ρ d v) w'):Q0 P (⟨none, .call (some d) f [x0,x1]⟩::l) Q ρ w:=Q3T h0 h1 c h
theorem zE2 {d:Nat}{f:FuncId}{x0 x1:Operand}{u0 u1:Value}{S T:Value→World→Prop}(h0:ρ.ev x0=u0:=by (conv=> lhs;whnf);first|done|exact rfl) (h1:ρ.ev x1=u1:=by (conv=> lhs;whnf);first|done|exact rfl) (c:Fins P f [u0,u1] w S T) (p:∀v w',T v w'→Q (.panic [{v:=v,recovered:=false}]) ρ w') (h:∀v w',S v w'→Q0 P l Q (upd ρ d v) w'):Q0 P (⟨none, .call (some d) f [x0,x1]⟩::l) Q ρ w:=s_ends_2 h0 h1 c p h
theorem zR3 {d:Nat}{f:FuncId}{x0 x1 x2:Operand}{u0 u1 u2:Value}{S:Value→World→Prop}(h0:ρ.ev x0=u0:=by (conv=> lhs;whnf);first|done|exact rfl) (h1:ρ.ev x1=u1:=by (conv=> lhs;whnf);first|done|exact rfl) (h2:ρ.ev x2=u2:=by (conv=> lhs;whnf);first|done|exact rfl) (c:Rets P f [u0,u1,u2] w S) (h:∀v w',S v w'→Q0 P l Q (upd ρ d v) w'):Q0 P (⟨none, .call (some d) f [x0,x1,x2]⟩::l) Q ρ w:=s_rets_3 h0 h1 h2 c h
theorem zE3 {d:Nat}{f:FuncId}{x0 x1 x2:Operand}{u0 u1 u2:Value}{S T:Value→World→Prop}(h0:ρ.ev x0=u0:=by (conv=> lhs;whnf);first|done|exact rfl) (h1:ρ.ev x1=u1:=by (conv=> lhs;whnf);first|done|exact rfl) (h2:ρ.ev x2=u2:=by (conv=> lhs;whnf);first|done|exact rfl) (c:Fins P f [u0,u1,u2] w S T) (p:∀v w',T v w'→Q (.panic [{v:=v,recovered:=false}]) ρ w') (h:∀v w',S v w'→Q0 P l Q (upd ρ d v) w'):Q0 P (⟨none, .call (some d) f [x0,x1,x2]⟩::l) Q ρ w:=s_ends_3 h0 h1 h2 c p h
theorem zR4 {d:Nat}{f:FuncId}{x0 x1 x2 x3:Operand}{u0 u1 u2 u3:Value}{S:Value→World→Prop}(h0:ρ.ev x0=u0:=by (conv=> lhs;whnf);first|done|exact rfl) (h1:ρ.ev x1=u1:=by (conv=> lhs;whnf);first|done|exact rfl) (h2:ρ.ev x2=u2:=by (conv=> lhs;whnf);first|done|exact rfl) (h3:ρ.ev x3=u3:=by (conv=> lhs;whnf);first|done|exact rfl) (c:Rets P f [u0,u1,u2,u3] w S) (h:∀v w',S v w'→Q0 P l Q (upd ρ d v) w'):Q0 P (⟨none, .call (some d) f [x0,x1,x2,x3]⟩::l) Q ρ w:=s_rets_4 h0 h1 h2 h3 c h
theorem zE4 {d:Nat}{f:FuncId}{x0 x1 x2 x3:Operand}{u0 u1 u2 u3:Value}{S T:Value→World→Prop}(h0:ρ.ev x0=u0:=by (conv=> lhs;whnf);first|done|exact rfl) (h1:ρ.ev x1=u1:=by (conv=> lhs;whnf);first|done|exact rfl) (h2:ρ.ev x2=u2:=by (conv=> lhs;whnf);first|done|exact rfl) (h3:ρ.ev x3=u3:=by (conv=> lhs;whnf);first|done|exact rfl) (c:Fins P f [u0,u1,u2,u3] w S T) (p:∀v w',T v w'→Q (.panic [{v:=v,recovered:=false}]) ρ w') (h:∀v w',S v w'→Q0 P l Q (upd ρ d v) w'):Q0 P (⟨none, .call (some d) f [x0,x1,x2,x3]⟩::l) Q ρ w:=s_ends_4 h0 h1 h2 h3 c p h
variable {α:Type}{r:Rep α}{xs:List α}
theorem zL {d:Nat}{x:Operand}(h:Q0 P l Q (upd ρ d (.int .i64 xs.length)) w) (hx:ρ.ev x=v:=by (conv=> lhs;whnf);first|done|exact rfl) (hK:r.sl c v xs:=by assumption):Q0 P (⟨none, .len d x⟩::l) Q ρ w:=QeZ hx hK h
theorem zi {d m:Nat}{x y:Operand}{k:IntKind}(h:∀b o cs a,AtK c b o cs→xs[m]?=some a→r.at c cs a→Q0 P l Q (upd ρ d (.pointer (some ⟨b,o,none⟩))) w) (hx:ρ.ev x=v:=by (conv=> lhs;whnf);first|done|exact rfl) (hy:ρ.ev y= .int k (m:Int):=by exact rfl) (hK:r.sl c v xs:=by assumption) (hes:r.es=es:=by exact rfl) (hn:m < xs.length:=by first|omega|(simp;omega)):Q0 P (⟨none, .idx d es x y⟩::l) Q ρ w:=Q68 hx hy hK hes hn h
theorem zj {d:Nat}{x y:Operand}{k:IntKind}{n:Int}(h:∀b o cs a,AtK c b o cs→xs[n.toNat]?=some a→r.at c cs a→Q0 P l Q (upd ρ d (.pointer (some ⟨b,o,none⟩))) w) (hx:ρ.ev x=v:=by (conv=> lhs;whnf);first|done|exact rfl) (hy:ρ.ev y= .int k n:=by exact rfl) (hK:r.sl c v xs:=by assumption) (hes:r.es=es:=by exact rfl) (h0:0≤n:=by first|omega|(simp;omega)) (hn:n < xs.length:=by first|omega|(simp;omega)):Q0 P (⟨none, .idx d es x y⟩::l) Q ρ w:=s_idxL hx hy hK hes h0 hn h
theorem za {T T' d Ts Ts2 Ty nb i k b : Nat} {z : List Value} {x y : Operand} {ds : List Value} {css : List (List Value)} {a : α} (hel : Q1H P Ts = some (T, es, nb, z)) (hts : ∃ e2, P.underlying Ts2 = some (.slice e2)) (hS : St c w L) (h : ∀ v' w' css', r.ls c css' (xs ++ [a]) → oneC v' = true → St c w' (L.set i (Go.Lir.sl T es v' css')) → Q0 P l Q (upd ρ d v') w') (hx : ρ.ev x = v := by (conv => lhs; whnf); first | done | exact rfl) (hy : ρ.ev y = .slice (some ⟨b, 0, none⟩) 1 1 := by (conv => lhs; whnf); first | done | exact rfl) (hi : nth L i = some (Go.Lir.sl T es v css) := by exact NthP.nth (by repeat constructor)) (hk : nth L k = some (blk b T' ds) := by exact NthP.nth (by repeat constructor)) (hls : r.ls c css xs := by assumption) (ha : r.at c ds a := by first | assumption | exact rfl) (hes : r.es = es := by exact rfl) (hb : (xs.length + 1) * nb ≤ 140737488355328 := by first | omega | (simp only [List.length_take]; omega) | (simp; omega)) : Q0 P (⟨none, .raw ⟨some d, .call ⟨.builtin .append, #[x, y], #[Ts, Ts2]⟩, Ty, "", #[], none⟩⟩ :: l) Q ρ w := s_appR1 hel hts hS hx hy hi hk hls ha hes hb h
theorem zak {T d Ts Ts2 Ty nb i : Nat} {z : List Value} {x y : Operand} {v2 : Value} {css : List (List Value)} {ys : List α} (hel : Q1H P Ts = some (T, es, nb, z)) (hts : ∃ e2, P.underlying Ts2 = some (.slice e2)) (hS : St c w L) (h : ∀ v' w' css', r.ls c css' (xs ++ ys) → oneC v' = true → St c w' (L.set i (Go.Lir.sl T es v' css')) → Q0 P l Q (upd ρ d v') w') (hx : ρ.ev x = v := by (conv => lhs; whnf); first | done | exact rfl) (hy : ρ.ev y = v2 := by (conv => lhs; whnf); first | done | exact rfl) (hi : nth L i = some (Go.Lir.sl T es v css) := by exact NthP.nth (by repeat constructor)) (hls : r.ls c css xs := by assumption) (hK : r.sl c v2 ys := by assumption) (hes : r.es = es := by exact rfl) (hb : (xs.length + ys.length) * nb ≤ 140737488355328 := by first | omega | (simp only [List.length_take]; omega) | (simp; omega)) : Q0 P (⟨none, .raw ⟨some d, .call ⟨.builtin .append, #[x, y], #[Ts, Ts2]⟩, Ty, "", #[], none⟩⟩ :: l) Q ρ w := s_appRK hel hts hS hx hy hi hls hK hes hb h
def evs (ρ:Env) (ts:List Nat):List (Nat×Value):=ts.map fun t=> (t,ρ t)
theorem Qgn (ρ:Env):evs ρ []=[]:=rfl
theorem Qgo {t:Nat}{ts:List Nat}{u:Value}{A:List (Nat×Value)}(h:ρ t=u) (h2:evs ρ ts=A):evs ρ (t::ts)=(t,u)::A:=by subst h h2;rfl
theorem zh {A:List (Nat×Value)}(h:Has ρ A:=by repeat' (first|exact trivial|refine And.intro rfl ?_)):Has ρ A:=h
theorem env2 {A B:List (Nat×Value)}(h:Has ρ A) (h2:Has ρ B):∃ρ',ρ=updl (updl ρ' B) A:=⟨ρ,by rw [Q7o h2,Q7o h]⟩
theorem zo {a:LC}(ts:List Nat){A:List (Nat×Value)}(I:List (Nat×Value)→Env→World→Prop) (μ:Env→World→Nat) (h0:I A ρ w) (h:∀ρ w,I A ρ w→a.wp P (Qh (fun ρ' w'=> I A ρ' w'∧μ ρ' w' < μ ρ w) Q) ρ w) (hA:evs ρ ts=A:=by (repeat (apply Qgo;· ((conv=> lhs;whnf);first|done|exact rfl)));exact Qgn _):(LC.loop a).wp P Q ρ w:=Q8T (I A) μ h0 h
theorem zM {a b:LC}(ts:List Nat){A:List (Nat×Value)}(I:List (Nat×Value)→Env→World→Prop) (ha:a.wp P (Qh (I A) Q) ρ w) (hb:∀ρ w,I A ρ w→b.wp P Q ρ w) (hA:evs ρ ts=A:=by (repeat (apply Qgo;· ((conv=> lhs;whnf);first|done|exact rfl)));exact Qgn _):(LC.seq a b).wp P Q ρ w:=s_mid (I A) ha hb
theorem zoL {a:LC}(hS:St c w L) (ts:List Nat){A:List (Nat×Value)}(I:List (Nat×Value)→List Res→Env→World→Prop) (μ:Env→World→Nat) (h0:I A L ρ w) (h:∀ρ w,I A L ρ w→a.wp P (Qh (fun ρ' w'=> I A L ρ' w'∧μ ρ' w' < μ ρ w) Q) ρ w) (hA:evs ρ ts=A:=by (repeat (apply Qgo;· ((conv=> lhs;whnf);first|done|exact rfl)));exact Qgn _):(LC.loop a).wp P Q ρ w:=Q8T (I A L) μ h0 h
theorem zML {a b:LC}(hS:St c w L) (ts:List Nat){A:List (Nat×Value)}(I:List (Nat×Value)→List Res→Env→World→Prop) (ha:a.wp P (Qh (I A L) Q) ρ w) (hb:∀ρ w,I A L ρ w→b.wp P Q ρ w) (hA:evs ρ ts=A:=by (repeat (apply Qgo;· ((conv=> lhs;whnf);first|done|exact rfl)));exact Qgn _):(LC.seq a b).wp P Q ρ w:=s_mid (I A L) ha hb
theorem zKL {l:List GO}(hS:St c w L) (n:Nat) (ts:List Nat){A:List (Nat×Value)}(I:List (Nat×Value)→List Res→Env→World→Prop) (ha:Q0 P (l.take n) (Qh (I A L) Q) ρ w) (hb:∀ρ w,I A L ρ w→Q0 P (l.drop n) Q ρ w) (hA:evs ρ ts=A:=by (repeat (apply Qgo;· ((conv=> lhs;whnf);first|done|exact rfl)));exact Qgn _):Q0 P l Q ρ w:=s_cut n (I A L) ha hb
theorem St.sp {L':List Res}(h:St c w L) (e:SubP L' L:=by (repeat constructor);first|done|fail):St c w L':=h.subP e
theorem fd {r':Res}(h:NthP L i r':=by repeat constructor):nth L i=some r':=h.nth
theorem vw {a b:Value}(h:a=b:=by (conv=> lhs;whnf);first|done|exact rfl):a=b:=h
theorem St.p3 {L1 L2 L3:List Res}{r1 r2 r3:Res}(h:St c w L) (p1:Pick L r1 L1:=by repeat constructor) (p2:Pick L1 r2 L2:=by repeat constructor) (p3:Pick L2 r3 L3:=by repeat constructor):St c w (r1::r2::r3::L3):=h.pick3 p1 p2 p3
end
end Go.Lir
namespace Go.Lir
set_option linter.unusedVariables false
def ci (n:Nat) (f:List Nat):List CI:=(List.range n).map fun i=> (i,if f.contains i then some none else none)
section
variable {K G:Prop}
theorem Yaa (k:K) (h:Bx K→G:=by intro K9;(first|refine zgn ?_|(refine zgy ?_;refine zm ?_));exact K9.o):G:=h ⟨k⟩
theorem Yab (k:K) (h:Bx K→G:=by intro K9;(first|refine zgn ?_|(refine zgy ?_;refine zf0 ?_));exact K9.o):G:=h ⟨k⟩
theorem Yac (k:K) (h:Bx K→G:=by intro K9;(first|refine zf0 ?_|refine zfd ?_);exact K9.o):G:=h ⟨k⟩
theorem Yad (k:K) (h:Bx K→G:=by intro K9;(first|refine zgn ?_|(refine zgy ?_;refine zl hS ?_));exact K9.o):G:=h ⟨k⟩
theorem Yae (k:K) (h:Bx K→G:=by intro K9;(first|refine zpt ?_|refine zpf ?_);exact K9.o):G:=h ⟨k⟩
theorem Yaf (k:K) (h:Bx K→G:=by intro K9;(first|refine Q1A hS rfl fd rfl ?_|refine zl hS ?_);exact K9.o):G:=h ⟨k⟩
theorem Yag (k:K) (h:Bx K→G:=by intro K9;(first|refine zgn ?_|(refine zgy ?_;(first|refine zf0 ?_|refine zfd ?_)));exact K9.o):G:=h ⟨k⟩
theorem Yah (k:K) (h:Bx K→G:=by intro K9;(first|refine zgn ?_|(refine zgy ?_;refine znc ?_));exact K9.o):G:=h ⟨k⟩
theorem Yai (k:K) (h:Bx K→G:=by intro K9;(first|refine zv hS ?_|refine zvk hS ?_);exact K9.o):G:=h ⟨k⟩
theorem Yaj (k:K) (h:Bx K→G:=by intro K9;(first|refine zgn ?_|(refine zgy ?_;refine zL ?_));exact K9.o):G:=h ⟨k⟩
theorem Yak (k:K) (h:Bx K→G:=by intro K9;(first|refine zgn ?_|(refine zgy ?_;refine znt ?_));exact K9.o):G:=h ⟨k⟩
theorem Yal (k:K) (h:Bx K→G:=by intro K9;(first|refine zgn ?_|(refine zgy ?_;(first|refine zpt ?_|refine zpf ?_)));exact K9.o):G:=h ⟨k⟩
theorem Yam (k:K) (h:Bx K→G:=by intro K9;(first|refine zi ?_|refine zj ?_);exact K9.o):G:=h ⟨k⟩
theorem Yan (k:K) (h:Bx K→G:=by intro K9;(first|refine zgn ?_|(refine zgy ?_;(first|refine zL ?_|refine zLe hS ?_)));exact K9.o):G:=h ⟨k⟩
theorem Yao (k:K) (h:Bx K→G:=by intro K9;(first|refine Qi ?_|refine Qm ?_);exact K9.o):G:=h ⟨k⟩
theorem Yap (k:K) (h:Bx K→G:=by intro K9;(first|refine zl hS ?_|refine zlk hS ?_);exact K9.o):G:=h ⟨k⟩
theorem Yaq (k:K) (h:Bx K→G:=by intro K9;(first|refine Q11 ?_|refine Q18 ?_);exact K9.o):G:=h ⟨k⟩
theorem Yar (k:K) (h:Bx K→G:=by intro K9;(first|refine zgn ?_|(refine zgy ?_;(first|refine Q11 ?_|refine Q18 ?_)));exact K9.o):G:=h ⟨k⟩
theorem Yas (k:K) (h:Bx K→G:=by intro K9;(first|refine Q1k ?_|refine Q1w ?_);exact K9.o):G:=h ⟨k⟩
theorem Yat (k:K) (h:Bx K→G:=by intro K9;(first|refine zgn ?_|(refine zgy ?_;(first|refine Q1e ?_|refine Q1s ?_)));exact K9.o):G:=h ⟨k⟩
theorem Yau (k:K) (h:Bx K→G:=by intro K9;(first|refine zgn ?_|(refine zgy ?_;(first|refine Q2w ?_|refine Q3k ?_)));exact K9.o):G:=h ⟨k⟩
theorem Yav (k:K) (h:Bx K→G:=by intro K9;(first|refine zgn ?_|(refine zgy ?_;(first|refine zl hS ?_|refine zlk hS ?_|refine zlj hS ?_)));exact K9.o):G:=h ⟨k⟩
theorem Yaw (k:K) (h:Bx K→G:=by intro K9;(first|refine zl hS ?_|refine zlk hS ?_|refine zlj hS ?_);exact K9.o):G:=h ⟨k⟩
theorem Yax (k:K) (h:Bx K→G:=by intro K9;(first|refine zgn ?_|(refine zgy ?_;refine Qi ?_));exact K9.o):G:=h ⟨k⟩
theorem Yay (k:K) (h:Bx K→G:=by intro K9;(first|refine zL ?_|refine zLe hS ?_);exact K9.o):G:=h ⟨k⟩
theorem Yaz (k:K) (h:Bx K→G:=by intro K9;(first|refine Qau rfl rfl ?_|refine QeP rfl rfl ?_|refine s_mulw rfl rfl ?_);exact K9.o):G:=h ⟨k⟩
theorem Yba (k:K) (h:Bx K→G:=by intro K9;(first|refine zgn ?_|(refine zgy ?_;(first|refine zl hS ?_|refine zlk hS ?_)));exact K9.o):G:=h ⟨k⟩
theorem Ybb (k:K) (h:Bx K→G:=by intro K9;(first|refine zgn ?_|(refine zgy ?_;(first|refine Qi ?_|refine Qm ?_)));exact K9.o):G:=h ⟨k⟩
theorem Ybc (k:K) (h:Bx K→G:=by intro K9;(first|refine zgn ?_|(refine zgy ?_;(first|refine Q1k ?_|refine Q1w ?_)));exact K9.o):G:=h ⟨k⟩
theorem Ybd (k:K) (h:Bx K→G:=by intro K9;(first|refine zad ?_|refine Qau rfl rfl ?_);exact K9.o):G:=h ⟨k⟩
theorem Ybe (k:K) (h:Bx K→G:=by intro K9;(first|refine Qau rfl rfl ?_|refine QeP rfl rfl ?_);exact K9.o):G:=h ⟨k⟩
theorem Zaa (k:K) (h:Bx K→G:=by intro K9;refine Qv ?_;refine Q1d ?_;exact K9.o):G:=h ⟨k⟩
theorem Zab (k:K) (h:Bx K→G:=by intro K9;refine Zaa ?_;refine zm ?_;exact K9.o):G:=h ⟨k⟩
theorem Zac (k:K) (h:Bx K→G:=by intro K9;refine zt ?_;refine s_cq ?_;exact K9.o):G:=h ⟨k⟩
theorem Zad (k:K) (h:Bx K→G:=by intro K9;refine zm ?_;refine zn ?_;exact K9.o):G:=h ⟨k⟩
theorem Zae (k:K) (h:Bx K→G:=by intro K9;refine zr ?_;refine zf ?_;exact K9.o):G:=h ⟨k⟩
theorem Zaf (k:K) (h:Bx K→G:=by intro K9;refine Zab ?_;refine zn ?_;exact K9.o):G:=h ⟨k⟩
theorem Zag (k:K) (h:Bx K→G:=by intro K9;refine Q1d ?_;refine zm ?_;exact K9.o):G:=h ⟨k⟩
theorem Zah (k:K) (h:Bx K→G:=by intro K9;refine Qv ?_;refine Zab ?_;exact K9.o):G:=h ⟨k⟩
theorem Zai (k:K) (h:Bx K→G:=by intro K9;refine Zad ?_;refine Zae ?_;exact K9.o):G:=h ⟨k⟩
theorem Zaj (k:K) (h:Bx K→G:=by intro K9;refine zm ?_;refine Zac ?_;exact K9.o):G:=h ⟨k⟩
theorem Zak (k:K) (h:Bx K→G:=by intro K9;refine zm ?_;refine Yaa ?_;exact K9.o):G:=h ⟨k⟩
theorem Zal (k:K) (h:Bx K→G:=by intro K9;refine zt ?_;refine Q3U ?_;exact K9.o):G:=h ⟨k⟩
theorem Zam (k:K) (h:Bx K→G:=by intro K9;refine Q7z rfl rfl ?_;refine zn ?_;exact K9.o):G:=h ⟨k⟩
theorem Zan (k:K) (h:Bx K→G:=by intro K9;refine Qv ?_;refine Q6b ?_;exact K9.o):G:=h ⟨k⟩
theorem Zao (k:K) (h:Bx K→G:=by intro K9;refine Zaf ?_;refine Zae ?_;exact K9.o):G:=h ⟨k⟩
theorem Zap (k:K) (h:Bx K→G:=by intro K9;refine Yab ?_;refine Yad ?_;exact K9.o):G:=h ⟨k⟩
theorem Zaq (k:K) (h:Bx K→G:=by intro K9;refine Zaa ?_;refine zb hS ?_;exact K9.o):G:=h ⟨k⟩
theorem Zar (k:K) (h:Bx K→G:=by intro K9;refine znc ?_;refine Yac ?_;exact K9.o):G:=h ⟨k⟩
theorem Zas (k:K) (h:Bx K→G:=by intro K9;refine Zab ?_;refine zm ?_;exact K9.o):G:=h ⟨k⟩
theorem Zat (k:K) (h:Bx K→G:=by intro K9;refine zt ?_;refine zy ?_;exact K9.o):G:=h ⟨k⟩
theorem Zau (k:K) (h:Bx K→G:=by intro K9;refine Zad ?_;refine zr ?_;exact K9.o):G:=h ⟨k⟩
theorem Zav (k:K) (h:Bx K→G:=by intro K9;refine zt ?_;refine zcn ?_;exact K9.o):G:=h ⟨k⟩
theorem Zaw (k:K) (h:Bx K→G:=by intro K9;refine znc ?_;refine Zac ?_;exact K9.o):G:=h ⟨k⟩
theorem Zax (k:K) (h:Bx K→G:=by intro K9;refine Zac ?_;refine Zaj ?_;exact K9.o):G:=h ⟨k⟩
theorem Zay (k:K) (h:Bx K→G:=by intro K9;refine zt ?_;refine s_cf ?_;exact K9.o):G:=h ⟨k⟩
theorem Zaz (k:K) (h:Bx K→G:=by intro K9;refine Zad ?_;refine Qv ?_;exact K9.o):G:=h ⟨k⟩
theorem ZaA (k:K) (h:Bx K→G:=by intro K9;refine zsk ?_;refine Zan ?_;exact K9.o):G:=h ⟨k⟩
theorem ZaB (k:K) (h:Bx K→G:=by intro K9;refine Zad ?_;refine Q6b ?_;exact K9.o):G:=h ⟨k⟩
theorem ZaC (k:K) (h:Bx K→G:=by intro K9;refine s_cq ?_;refine Zaj ?_;exact K9.o):G:=h ⟨k⟩
theorem ZaD (k:K) (h:Bx K→G:=by intro K9;refine Zau ?_;refine zf2 ?_;exact K9.o):G:=h ⟨k⟩
theorem ZaE (k:K) (h:Bx K→G:=by intro K9;refine zn ?_;refine Zaa ?_;exact K9.o):G:=h ⟨k⟩
theorem ZaF (k:K) (h:Bx K→G:=by intro K9;refine zn ?_;refine Qv ?_;exact K9.o):G:=h ⟨k⟩
theorem ZaG (k:K) (h:Bx K→G:=by intro K9;refine zxt ?_;refine zxt ?_;exact K9.o):G:=h ⟨k⟩
theorem ZaH (k:K) (h:Bx K→G:=by intro K9;refine zn ?_;refine Zab ?_;exact K9.o):G:=h ⟨k⟩
theorem ZaI (k:K) (h:Bx K→G:=by intro K9;refine Zag ?_;refine zm ?_;exact K9.o):G:=h ⟨k⟩
theorem ZaJ (k:K) (h:Bx K→G:=by intro K9;refine Zam ?_;refine Qv ?_;exact K9.o):G:=h ⟨k⟩
theorem ZaK (k:K) (h:Bx K→G:=by intro K9;refine s_nil ?_;refine Q7w ?_;exact K9.o):G:=h ⟨k⟩
theorem ZaL (k:K) (h:Bx K→G:=by intro K9;refine Yae ?_;refine zn ?_;exact K9.o):G:=h ⟨k⟩
theorem ZaM (k:K) (h:Bx K→G:=by intro K9;refine Zad ?_;refine Zah ?_;exact K9.o):G:=h ⟨k⟩
theorem ZaN (k:K) (h:Bx K→G:=by intro K9;refine zm ?_;refine ZaG ?_;exact K9.o):G:=h ⟨k⟩
theorem ZaO (k:K) (h:Bx K→G:=by intro K9;refine zm ?_;refine Zap ?_;exact K9.o):G:=h ⟨k⟩
theorem ZaP (k:K) (h:Bx K→G:=by intro K9;refine Yai ?_;refine Ql hS ?_;exact K9.o):G:=h ⟨k⟩
theorem ZaQ (k:K) (h:Bx K→G:=by intro K9;refine Zaa ?_;refine ZaJ ?_;exact K9.o):G:=h ⟨k⟩
theorem ZaR (k:K) (h:Bx K→G:=by intro K9;refine Yac ?_;refine Zac ?_;exact K9.o):G:=h ⟨k⟩
theorem ZaS (k:K) (h:Bx K→G:=by intro K9;refine Zat ?_;refine s_cq ?_;exact K9.o):G:=h ⟨k⟩
theorem ZaT (k:K) (h:Bx K→G:=by intro K9;refine Zad ?_;refine Zab ?_;exact K9.o):G:=h ⟨k⟩
theorem ZaU (k:K) (h:Bx K→G:=by intro K9;refine znt ?_;refine zn ?_;exact K9.o):G:=h ⟨k⟩
theorem ZaV (k:K) (h:Bx K→G:=by intro K9;refine Zaf ?_;refine Zab ?_;exact K9.o):G:=h ⟨k⟩
theorem ZaW (k:K) (h:Bx K→G:=by intro K9;refine Zaf ?_;refine Q6b ?_;exact K9.o):G:=h ⟨k⟩
theorem ZaX (k:K) (h:Bx K→G:=by intro K9;refine Q1d ?_;refine Zai ?_;exact K9.o):G:=h ⟨k⟩
theorem ZaY (k:K) (h:Bx K→G:=by intro K9;refine Zal ?_;refine Ql hS ?_;exact K9.o):G:=h ⟨k⟩
theorem ZaZ (k:K) (h:Bx K→G:=by intro K9;refine Zat ?_;refine s_cf ?_;exact K9.o):G:=h ⟨k⟩
theorem Zba (k:K) (h:Bx K→G:=by intro K9;refine Zaf ?_;refine Zah ?_;exact K9.o):G:=h ⟨k⟩
theorem Zbb (k:K) (h:Bx K→G:=by intro K9;refine zn ?_;refine zr ?_;exact K9.o):G:=h ⟨k⟩
theorem Zbc (k:K) (h:Bx K→G:=by intro K9;refine ZaN ?_;refine zm ?_;exact K9.o):G:=h ⟨k⟩
theorem Zbd (k:K) (h:Bx K→G:=by intro K9;refine zm ?_;refine Zar ?_;exact K9.o):G:=h ⟨k⟩
theorem Zbe (k:K) (h:Bx K→G:=by intro K9;refine Zat ?_;refine Q3U ?_;exact K9.o):G:=h ⟨k⟩
theorem Zbf (k:K) (h:Bx K→G:=by intro K9;refine ZaC ?_;refine Zaj ?_;exact K9.o):G:=h ⟨k⟩
theorem Zbg (k:K) (h:Bx K→G:=by intro K9;refine zm ?_;refine zm ?_;exact K9.o):G:=h ⟨k⟩
theorem Zbh (k:K) (h:Bx K→G:=by intro K9;refine Yah ?_;refine Yab ?_;exact K9.o):G:=h ⟨k⟩
theorem Zbi (k:K) (h:Bx K→G:=by intro K9;refine zm ?_;refine ZaD ?_;exact K9.o):G:=h ⟨k⟩
theorem Zbj (k:K) (h:Bx K→G:=by intro K9;refine Zac ?_;refine ZaR ?_;exact K9.o):G:=h ⟨k⟩
theorem Zbk (k:K) (h:Bx K→G:=by intro K9;refine ZaA ?_;refine Zaa ?_;exact K9.o):G:=h ⟨k⟩
theorem Zbl (k:K) (h:Bx K→G:=by intro K9;refine Zab ?_;refine Zai ?_;exact K9.o):G:=h ⟨k⟩
theorem Zbm (k:K) (h:Bx K→G:=by intro K9;refine zm ?_;refine znc ?_;exact K9.o):G:=h ⟨k⟩
theorem Zbn (k:K) (h:Bx K→G:=by intro K9;refine Qv ?_;refine Zaa ?_;exact K9.o):G:=h ⟨k⟩
theorem Zbo (k:K) (h:Bx K→G:=by intro K9;refine Qv ?_;refine Qv ?_;exact K9.o):G:=h ⟨k⟩
theorem Zbp (k:K) (h:Bx K→G:=by intro K9;refine Zak ?_;refine Yaa ?_;exact K9.o):G:=h ⟨k⟩
theorem Zbq (k:K) (h:Bx K→G:=by intro K9;refine zn ?_;refine Q1d ?_;exact K9.o):G:=h ⟨k⟩
theorem Zbr (k:K) (h:Bx K→G:=by intro K9;refine Zbc ?_;refine ZaM ?_;exact K9.o):G:=h ⟨k⟩
theorem Zbs (k:K) (h:Bx K→G:=by intro K9;refine zn ?_;refine Zag ?_;exact K9.o):G:=h ⟨k⟩
theorem Zbt (k:K) (h:Bx K→G:=by intro K9;refine Yae ?_;refine Zak ?_;exact K9.o):G:=h ⟨k⟩
theorem Zbu (k:K) (h:Bx K→G:=by intro K9;refine ZaC ?_;refine Zaw ?_;exact K9.o):G:=h ⟨k⟩
theorem Zbv (k:K) (h:Bx K→G:=by intro K9;refine Zaa ?_;refine Ql hS ?_;exact K9.o):G:=h ⟨k⟩
theorem Zbw (k:K) (h:Bx K→G:=by intro K9;refine ZaN ?_;refine Ql hS ?_;exact K9.o):G:=h ⟨k⟩
theorem Zbx (k:K) (h:Bx K→G:=by intro K9;refine Zab ?_;refine ZaD ?_;exact K9.o):G:=h ⟨k⟩
theorem Zby (k:K) (h:Bx K→G:=by intro K9;refine Zag ?_;refine znc ?_;exact K9.o):G:=h ⟨k⟩
theorem Zbz (k:K) (h:Bx K→G:=by intro K9;refine Zac ?_;refine Yaf ?_;exact K9.o):G:=h ⟨k⟩
theorem ZbA (k:K) (h:Bx K→G:=by intro K9;refine Qv ?_;refine ZaW ?_;exact K9.o):G:=h ⟨k⟩
theorem ZbB (k:K) (h:Bx K→G:=by intro K9;refine zn ?_;refine Q19 ?_;exact K9.o):G:=h ⟨k⟩
theorem ZbC (k:K) (h:Bx K→G:=by intro K9;refine ZaA ?_;refine Zab ?_;exact K9.o):G:=h ⟨k⟩
theorem ZbD (k:K) (h:Bx K→G:=by intro K9;refine Zaz ?_;refine Zaa ?_;exact K9.o):G:=h ⟨k⟩
theorem ZbE (k:K) (h:Bx K→G:=by intro K9;refine Zaz ?_;refine Qv ?_;exact K9.o):G:=h ⟨k⟩
theorem ZbF (k:K) (h:Bx K→G:=by intro K9;refine Zbr ?_;refine ZaU ?_;exact K9.o):G:=h ⟨k⟩
theorem ZbG (k:K) (h:Bx K→G:=by intro K9;refine Zab ?_;refine znc ?_;exact K9.o):G:=h ⟨k⟩
theorem ZbH (k:K) (h:Bx K→G:=by intro K9;refine ZaF ?_;refine Zaa ?_;exact K9.o):G:=h ⟨k⟩
theorem ZbI (k:K) (h:Bx K→G:=by intro K9;refine Zaw ?_;refine ZaR ?_;exact K9.o):G:=h ⟨k⟩
theorem ZbJ (k:K) (h:Bx K→G:=by intro K9;refine zn ?_;refine Q6b ?_;exact K9.o):G:=h ⟨k⟩
theorem ZbK (k:K) (h:Bx K→G:=by intro K9;refine zex ?_;refine Zao ?_;exact K9.o):G:=h ⟨k⟩
theorem ZbL (k:K) (h:Bx K→G:=by intro K9;refine Zah ?_;refine zm ?_;exact K9.o):G:=h ⟨k⟩
theorem ZbM (k:K) (h:Bx K→G:=by intro K9;refine Yae ?_;refine zm ?_;exact K9.o):G:=h ⟨k⟩
theorem ZbN (k:K) (h:Bx K→G:=by intro K9;refine zm ?_;refine Zav ?_;exact K9.o):G:=h ⟨k⟩
theorem ZbO (k:K) (h:Bx K→G:=by intro K9;refine Zad ?_;refine Zaa ?_;exact K9.o):G:=h ⟨k⟩
theorem ZbP (k:K) (h:Bx K→G:=by intro K9;refine Yaa ?_;refine Zap ?_;exact K9.o):G:=h ⟨k⟩
theorem ZbQ (k:K) (h:Bx K→G:=by intro K9;refine Yaa ?_;refine Zac ?_;exact K9.o):G:=h ⟨k⟩
theorem ZbR (k:K) (h:Bx K→G:=by intro K9;refine Yah ?_;refine Zac ?_;exact K9.o):G:=h ⟨k⟩
theorem ZbS (k:K) (h:Bx K→G:=by intro K9;refine Yab ?_;refine Zac ?_;exact K9.o):G:=h ⟨k⟩
end
end Go.Lir
namespace Go.Lir
@[reducible] def vi (n:Int):Value:= .int .i64 n
@[reducible] def vn:Value:= .slice none 0 0
end Go.Lir
namespace Go.Lir
set_option linter.unusedVariables false
inductive TyD where
 | p|b|f|i (k:IntKind)|s|l (e:Nat)|a (n e z:Nat)|t (z:Nat) (fs:List (Nat×Nat))|x
abbrev Tr:=Nat→TyD
def TyD.sz:TyD→Nat
 | .a _ _ z=> z
 | .t z _=> z
 | _=> 1
mutual
def zerD (D:Tr):Nat→TyD→List Value
 | 0,_=> []
 | _+1, .p=> [.pointer none]
 | _+1, .b=> [.bool false]
 | _+1, .f=> [.nilFunc]
 | _+1, .i k=> [.int k 0]
 | _+1, .s=> [.string ⟨#[]⟩]
 | _+1, .l _=> [.slice none 0 0]
 | _+1, .x=> [.nilIface]
 | n+1, .t _ fs=> zerF D n fs
 | n+1, .a m e _=> (List.replicate m (zerD D n (D e))).flatten
def zerF (D:Tr):Nat→List (Nat×Nat)→List Value
 | 0,_=> []
 | _+1,[]=> []
 | n+1,f::fs=> zerD D n (D f.2)++zerF D n fs
end
def zerT (D:Tr) (T:Nat):List Value:=zerD D 60 (D T)
def partD (D:Tr):TyD→List (Nat×Operand)→List (Nat×Nat×Operand)
 | .t z fs,(i,x)::r=> (match fs[i]? with|some f=> (f.1,(D f.2).sz,x)|none=> (0,0,x))::partD D (.t z fs) r
 | .a n e z,(i,x)::r=> (i*(D e).sz,(D e).sz,x)::partD D (.a n e z) r
 | _,_=> []
def cutO:Oper→LO
 | ⟨d, o, T, _, _, _⟩ => .raw ⟨d, o, T, "", #[], none⟩
def fldA (D:Tr) (f:Nat):TyD→Nat
 | .t _ fs=> match fs[f]? with|some p=> p.1|none=> 0
 | _=> 0
def fldT (D:Tr) (f:Nat):TyD→TyD
 | .t _ fs=> match fs[f]? with|some p=> D p.2|none=> .p
 | _=> .p
def loadD (d:Nat) (x:Operand):TyD→LO
 | .t z _=> .loadn d z x
 | .a _ _ z=> .loadn d z x
 | _=> .load1 d x
def storeD (x v:Operand):TyD→LO
 | .t z _=> .storen z x v
 | .a _ _ z=> .storen z x v
 | _=> .store1 x v
def fieldD (d:Nat) (x:Operand) (off:Nat):TyD→LO
 | .t z _=> .fldn d x off z
 | .a _ _ z=> .fldn d x off z
 | _=> .fldv d x off
def lowD1 (D:Tr) (o:Oper) (d:Nat):Op→LO
 | .move x=> .mov d x
 | .assign x=> .mov d x
 | .pick c x y=> .pick d c x y
 | .unOp op _ x=> .un d op x
 | .binOp op T x y _=> .bin d op T x y
 | .nilCheck x=> .nilc d x
 | .fieldAddr S x f=> .fld d x (fldA D f (D S))
 | .load T x=> loadD d x (D T)
 | .indexAddr T x i=> match D T with
   | .l e=> .idx d (D e).sz x i
   | .a n e _=> .idxa d n (D e).sz x i
   | _=> cutO o
 | .index T x i=> match D T with
   | .s=> .sidx d x i
   | _=> cutO o
 | .extract x i=> .ext d x i
 | .field S x f=> fieldD d x (fldA D f (D S)) (fldT D f (D S))
 | .alloc T=> .alloc d T (zerT D T)
 | .box T x=> .box d T x
 | .build T ps=> .build d (zerT D T) (partD D (D T) ps.toList)
 | .buildSlice T n ps=> match D T with
   | .l e=> if 0 < n then .buildS d e n ((List.replicate n (zerT D e)).flatten) (partD D (.a n e 0) ps.toList) else cutO o
   | _=> cutO o
 | .makeFunc (.func f) _ caps=> .mkfn d f caps.toList
 | .call ⟨.value (.func f),xs,_⟩=> .call (some d) f xs.toList
 | .call ⟨.value (.tmp f),xs,_⟩=> .callv (some d) (.tmp f) xs.toList
 | .slice T x lo hi mx=> match D T with
   | .l e=> .sub d (D e).sz x lo hi mx
   | .s=> .ssub d x lo hi
   | _=> cutO o
 | .convert S T x=> match D S,D T with
   | .i _, .i k=> .conv d k x
   | _,_=> cutO o
 | .makeInterface T x=> match D T with
   | .x=> cutO o
   | _=> .mki d T x
 | .call ⟨.builtin .min,⟨[x,y]⟩,_⟩=> .mnx d false x y
 | .call ⟨.builtin .max,⟨[x,y]⟩,_⟩=> .mnx d true x y
 | .call ⟨.builtin .len,⟨[x]⟩,⟨[T]⟩⟩=> match D T with
   | .s=> .slen d x
   | .l _=> .len d x
   | _=> cutO o
 | _=> cutO o
def lowD0 (D:Tr) (o:Oper):Op→LO
 | .store T x v=> storeD x v (D T)
 | .call ⟨.value (.func f),xs,_⟩=> .call none f xs.toList
 | .call ⟨.value (.tmp f),xs,_⟩=> .callv none (.tmp f) xs.toList
 | _=> cutO o
def lowO (D:Tr) (o:Oper):Option Nat→LO
 | none=> lowD0 D o o.op
 | some d=> lowD1 D o d o.op
def grdO (ops:Array Oper):Option (Nat×Bool)→Option (Nat×Bool)
 | none=> none
 | some (j,b)=> match ops[j]? with
   | some o=> match o.dst with
     | some s=> some (s,b)
     | none=> none
   | none=> none
def QfM (D:Tr) (ops:Array Oper):List Oper→List GO
 | []=> []
 | o::r=> ⟨grdO ops o.guard,lowO D o o.dst⟩::QfM D ops r
def lowS (D:Tr):Code→LC
 | .skip=> .skip
 | .region _ ops false=> .ops (QfM D ops ops.toList)
 | .region _ ops true=> .draw (QfM D ops ops.toList) (Q3Y ops)
 | .seq a b=> .seq (lowS D a) (lowS D b)
 | .cond c a b=> .cond c (lowS D a) (lowS D b)
 | .block id a=> .block id (lowS D a)
 | .loop a=> .loop (lowS D a)
 | .exit id=> .exit id
 | .ret=> .ret
 | _=> .bad
def lowQ (D:Tr):Option Code→LC
 | some c=> lowS D c
 | none=> .bad
def lowSD (D:Tr):Code→LD
 | .seq a b=> bif QdT a||QdT b then .seq (lowSD D a) (lowSD D b) else .pl (lowS D (.seq a b))
 | .region id ops false=> match Q67 ops.toList with
   | some (l1,_,s,l2)=> .sp (QfM D ops l1) s (QfM D ops l2)
   | none=> .pl (lowS D (.region id ops false))
 | c=> .pl (lowS D c)
def lowQD (D:Tr):Option Code→LD
 | some c=> lowSD D c
 | none=> .pl .bad
section
variable {P:Program}{f:FuncId}{fn:Func}{args:List Value}{w:World}{rs:List ResultVar}(D:Tr)
theorem lgo {R:Ending→World→Prop}{lc:LC}(hf:P.funcs[f]?=some fn) (h:lc.wp P (retQ P rs R) (Q61 args) w) (e:lowQ D fn.body=lc:=by set_option maxRecDepth 100000 in (conv=> lhs;cbv)) (hl:lowF P fn=some lc:=by kernel_rfl) (hrs:fn.results.toList=rs:=by set_option maxRecDepth 100000 in (conv=> lhs;cbv)) (hn:Nat.ble args.length fn.ntmps=true:=by kernel_rfl):Calls P f ⟨args⟩ w R:=Qba hf hl hrs hn h
theorem lgd {R:Ending→World→Prop}{ld:LD}(hf:P.funcs[f]?=some fn) (h:ld.wpD P (retD P rs R) [] (Q61 args) w) (e:lowQD D fn.body=ld:=by set_option maxRecDepth 100000 in (conv=> lhs;cbv)) (hl:QdO P fn=some ld:=by kernel_rfl) (hrs:fn.results.toList=rs:=by set_option maxRecDepth 100000 in (conv=> lhs;cbv)) (hn:Nat.ble args.length fn.ntmps=true:=by kernel_rfl):Calls P f ⟨args⟩ w R:=Qa2 hf hl hrs hn h
theorem lgr {R:Ending→FrameMode→World→Prop}{u:FrameMode}{ld:LD}(hf:P.funcs[f]?=some fn) (h:ld.wpR P (retR P rs R) u (Q61 args) w) (e:lowQD D fn.body=ld:=by set_option maxRecDepth 100000 in (conv=> lhs;cbv)) (hl:QdO P fn=some ld:=by kernel_rfl) (hrs:fn.results.toList=rs:=by set_option maxRecDepth 100000 in (conv=> lhs;cbv)) (hn:Nat.ble args.length fn.ntmps=true:=by kernel_rfl):CallsD P f ⟨args⟩ u w R:=Q8L hf hl hrs hn h
end
end Go.Lir
namespace Go.Proofs.YteflkifmgnpbhaaGreat
open Go.Lir
def tyaa (i:Nat):TyD:=if i < 7 then if i < 2 then if i < 1 then .p else .f else if i < 4 then .i .i64 else if i < 5 then .b else .i .u8 else if i < 12 then if i < 9 then .t 4 [(0,2),(1,3),(2,4),(3,6)] else .s else if i < 13 then .i .u64 else if i < 15 then .t 2 [(0,9),(1,12)] else .p
def tyab (i:Nat):TyD:=if i < 25 then if i < 21 then if i < 20 then .t 1 [(0,17)] else .x else if i < 22 then .i .i32 else if i < 23 then .l 95 else .t 1 [(0,22)] else if i < 28 then if i < 26 then .l 2 else .f else if i < 30 then .t 2 [(0,3),(1,3)] else if i < 32 then .f else .t 4 [(0,3),(1,25),(2,25),(3,3)]
def tyac (i:Nat):TyD:=if i < 43 then if i < 39 then if i < 35 then .p else .f else if i < 41 then .p else if i < 42 then .f else .p else if i < 45 then if i < 44 then .f else .l 131 else if i < 47 then .t 2 [(0,44),(1,3)] else if i < 48 then .l 119 else .t 13 [(0,24),(1,46),(3,47),(4,25),(5,33),(9,3),(10,4),(11,29)]
def tyad (i:Nat):TyD:=if i < 59 then if i < 53 then if i < 52 then .f else .p else if i < 54 then .l 110 else if i < 56 then .t 12 [(0,52),(1,24),(2,53),(3,25),(4,33),(8,3),(9,4),(10,29)] else .f else if i < 63 then if i < 61 then .p else .f else if i < 64 then .p else if i < 65 then .l 138 else .t 10 [(0,63),(1,24),(2,64),(3,25),(4,33),(8,3),(9,4)]
def tyae (i:Nat):TyD:=if i < 74 then if i < 69 then if i < 68 then .p else .l 3 else if i < 71 then .t 3 [(0,4),(1,68),(2,3)] else if i < 72 then .a 16 70 48 else .t 49 [(0,67),(1,71)] else if i < 76 then if i < 75 then .p else .f else if i < 78 then .p else if i < 79 then .f else .t 4 [(0,39),(1,59),(2,29)]
def tyaf (i:Nat):TyD:=if i < 89 then if i < 85 then if i < 83 then .f else .t 8 [(0,3),(1,3),(2,3),(3,3),(4,3),(5,2),(6,68),(7,68)] else if i < 86 then .l 84 else if i < 87 then .l 115 else .t 3 [(0,3),(1,68),(2,68)] else if i < 93 then if i < 91 then .t 9 [(0,3),(1,3),(2,88),(5,88),(8,68)] else .t 12 [(0,3),(1,86),(2,85),(3,90)] else if i < 94 then .l 92 else if i < 96 then .t 4 [(0,3),(1,86),(2,86),(3,93)] else .f
def tyag (i:Nat):TyD:=if i < 114 then if i < 108 then if i < 98 then .p else .f else if i < 109 then .l 224 else if i < 111 then .t 5 [(0,3),(1,3),(2,3),(3,108),(4,68)] else .f else if i < 117 then if i < 116 then .t 3 [(0,3),(1,3),(2,86)] else .f else if i < 118 then .l 182 else if i < 120 then .t 5 [(0,3),(1,3),(2,3),(3,117),(4,68)] else .t 0 []
def tyah (i:Nat):TyD:=if i < 128 then if i < 124 then if i < 123 then .i .i64 else .p else if i < 125 then .f else if i < 126 then .l 267 else .t 3 [(0,125),(1,3),(2,3)] else if i < 130 then if i < 129 then .p else .l 278 else if i < 132 then .t 4 [(0,4),(1,129),(2,3),(3,3)] else if i < 135 then .f else .p
def tyai (i:Nat):TyD:=if i < 142 then if i < 139 then if i < 137 then .f else .t 4 [(0,3),(1,3),(2,3),(3,25)] else if i < 140 then .i .i64 else if i < 141 then .b else .f else if i < 146 then if i < 143 then .p else .f else if i < 147 then .l 4 else if i < 149 then .t 3 [(0,25),(1,68),(2,146)] else .f
def tyaj (i:Nat):TyD:=if i < 161 then if i < 157 then if i < 156 then .p else .f else if i < 159 then .t 7 [(0,24),(1,95),(5,155),(6,86)] else if i < 160 then .f else .p else if i < 164 then if i < 162 then .f else .t 1 [(0,146)] else if i < 171 then .f else if i < 172 then .p else .t 4 [(0,24),(1,29),(3,3)]
def tyak (i:Nat):TyD:=if i < 184 then if i < 179 then if i < 178 then .f else .p else if i < 181 then .f else if i < 183 then .t 4 [(0,3),(1,3),(2,3),(3,2)] else .b else if i < 186 then if i < 185 then .f else .b else if i < 187 then .f else if i < 188 then .b else .f
def tyal (i:Nat):TyD:=if i < 198 then if i < 191 then if i < 190 then .b else .f else if i < 192 then .b else if i < 197 then .f else .p else if i < 209 then if i < 207 then .f else .p else if i < 210 then .f else if i < 212 then .t 7 [(0,4),(1,4),(2,4),(3,4),(4,4),(5,4),(6,4)] else .b
def tyam (i:Nat):TyD:=if i < 226 then if i < 217 then if i < 216 then .f else .b else if i < 224 then .f else if i < 225 then .t 4 [(0,3),(1,3),(2,3),(3,2)] else .f else if i < 232 then if i < 227 then .b else .f else if i < 233 then .p else if i < 238 then .f else .p
def tyan (i:Nat):TyD:=if i < 257 then if i < 244 then if i < 243 then .f else .p else if i < 255 then .f else if i < 256 then .i .u64 else .p else if i < 265 then if i < 259 then .t 7 [(0,256),(1,24),(2,95),(6,86)] else .f else if i < 266 then .l 272 else if i < 268 then .t 4 [(0,4),(1,265),(2,3),(3,3)] else .p
def tyao (i:Nat):TyD:=if i < 279 then if i < 273 then if i < 271 then .f else .t 2 [(0,4),(1,108)] else if i < 274 then .p else if i < 277 then .f else .t 2 [(0,4),(1,117)] else if i < 283 then if i < 280 then .p else .f else if i < 284 then .i .i64 else if i < 285 then .p else .f
def tyap (i:Nat):TyD:=if i < 295 then if i < 292 then if i < 290 then .b else .f else if i < 293 then .i .u32 else if i < 294 then .f else .i .u64 else if i < 298 then if i < 297 then .t 1 [(0,146)] else .i .i64 else if i < 299 then .b else if i < 304 then .f else .a 15 9 15
def tyaq (i:Nat):TyD:=if i < 311 then if i < 307 then if i < 306 then .f else .l 5 else if i < 308 then .f else if i < 310 then .p else .i .u64 else if i < 315 then if i < 314 then .f else .p else if i < 317 then .f else if i < 318 then .p else .f
def tyar (i:Nat):TyD:=if i < 327 then if i < 323 then if i < 322 then .t 4 [(0,17),(1,17),(2,17),(3,9)] else .a 0 16 0 else if i < 325 then .t 0 [(0,322)] else .i .u8 else if i < 329 then if i < 328 then .f else .p else if i < 331 then .i .i32 else if i < 333 then .t 11 [(0,12),(1,12),(2,292),(3,325),(4,5),(5,5),(6,326),(7,327),(8,328),(9,329),(10,330)] else .p
def tyD (i:Nat):TyD:=if i < 155 then if i < 67 then if i < 34 then if i < 18 then tyaa i else tyab i else if i < 50 then tyac i else tyad i else if i < 97 then if i < 81 then tyae i else tyaf i else if i < 122 then tyag i else if i < 136 then tyah i else tyai i else if i < 239 then if i < 189 then if i < 174 then tyaj i else tyak i else if i < 213 then tyal i else tyam i else if i < 289 then if i < 269 then tyan i else tyao i else if i < 305 then tyap i else if i < 320 then tyaq i else tyar i
end Go.Proofs.YteflkifmgnpbhaaGreat
namespace Go.Proofs.YteflkifmgnpbhaaGreat
open Go.Lir

@[reducible] def Q6W:FuncId:=7
@[reducible] def Law_long:FuncId:=14
@[reducible] def Qaa:FuncId:=18
@[reducible] def R_Starts:FuncId:=22
@[reducible] def Q6V:FuncId:=24
@[reducible] def Qa8:FuncId:=28
@[reducible] def Qa9:FuncId:=31
@[reducible] def Qbo:FuncId:=32
@[reducible] def QbO:FuncId:=33
@[reducible] def raw_New:FuncId:=35
@[reducible] def Q72:FuncId:=36
@[reducible] def Q2M:FuncId:=37
@[reducible] def Q5l:FuncId:=38
@[reducible] def Q56:FuncId:=39
@[reducible] def Q5u:FuncId:=40
@[reducible] def Qah:FuncId:=44
@[reducible] def Qdn:FuncId:=50
@[reducible] def QgO:FuncId:=51
@[reducible] def R_F:FuncId:=52
@[reducible] def R_AtIns:FuncId:=55
@[reducible] def R_AtEnd:FuncId:=57
@[reducible] def Qbi:FuncId:=58
@[reducible] def Qe4:FuncId:=62
@[reducible] def code_Own:FuncId:=64
@[reducible] def Q3C:FuncId:=65
@[reducible] def Q6U:FuncId:=72
@[reducible] def Qcr:FuncId:=73
@[reducible] def Qcs:FuncId:=74
@[reducible] def Q8x:FuncId:=75
@[reducible] def Qcp:FuncId:=78
@[reducible] def QdX:FuncId:=79
@[reducible] def Q3m:FuncId:=80
@[reducible] def QcV:FuncId:=81
@[reducible] def Q7G:FuncId:=82
@[reducible] def Q7I:FuncId:=83
@[reducible] def Q1K:FuncId:=84
@[reducible] def Q4X:FuncId:=89
@[reducible] def Qag:FuncId:=91
@[reducible] def Qcq:FuncId:=101
@[reducible] def Q8o:FuncId:=103
@[reducible] def Qcl:FuncId:=104
@[reducible] def Q8n:FuncId:=105
@[reducible] def Q28:FuncId:=106
@[reducible] def Q4D:FuncId:=107
@[reducible] def Q76:FuncId:=108
@[reducible] def Q5S:FuncId:=109
@[reducible] def Qe1:FuncId:=110
@[reducible] def Q4Y:FuncId:=111
@[reducible] def Qe2:FuncId:=115
@[reducible] def Qe3:FuncId:=116
@[reducible] def Q6T:FuncId:=120
@[reducible] def Q3t:FuncId:=121
@[reducible] def R_OpOf:FuncId:=122
@[reducible] def Qa7:FuncId:=123
@[reducible] def Q6S:FuncId:=124
@[reducible] def Q4H:FuncId:=125
@[reducible] def Q8Q:FuncId:=126
@[reducible] def Qeb:FuncId:=127
@[reducible] def Q9A:FuncId:=132
@[reducible] def Q7H:FuncId:=133
@[reducible] def Qdk:FuncId:=134
@[reducible] def Q7F:FuncId:=135
@[reducible] def Q5P:FuncId:=136
@[reducible] def Q5O:FuncId:=137
@[reducible] def Q6g:FuncId:=138
@[reducible] def Q70:FuncId:=139
@[reducible] def Q38:FuncId:=140
@[reducible] def Q6h:FuncId:=141
@[reducible] def Q8E:FuncId:=142
@[reducible] def Q71:FuncId:=143
@[reducible] def Qea:FuncId:=158
@[reducible] def Qbu:FuncId:=159
@[reducible] def Q2k:FuncId:=160
@[reducible] def Qb9:FuncId:=161
@[reducible] def Q1j:FuncId:=162
@[reducible] def Qdq:FuncId:=163
@[reducible] def Q8J:FuncId:=164
@[reducible] def Q8K:FuncId:=165
@[reducible] def Q6P:FuncId:=166
@[reducible] def Qa6:FuncId:=186
@[reducible] def Qct:FuncId:=187
@[reducible] def Q8P:FuncId:=188
@[reducible] def Q6F:FuncId:=189
@[reducible] def Qbn:FuncId:=190
@[reducible] def Qbk:FuncId:=191
@[reducible] def Qab:FuncId:=192
@[reducible] def Qbm:FuncId:=193
@[reducible] def Qbf:FuncId:=194
@[reducible] def Qco:FuncId:=195
@[reducible] def Q6z:FuncId:=196
@[reducible] def Q3z:FuncId:=197
@[reducible] def Q7J:FuncId:=198
@[reducible] def Q3y:FuncId:=199
@[reducible] def Q2F:FuncId:=203
@[reducible] def code_Ins:FuncId:=204
@[reducible] def code_End:FuncId:=208
@[reducible] def Qdp:FuncId:=211
@[reducible] def Qbt:FuncId:=212
@[reducible] def code_has:FuncId:=213
@[reducible] def Qgv:FuncId:=214
@[reducible] def Qa0:FuncId:=215
@[reducible] def Qbj:FuncId:=222
@[reducible] def Qbl:FuncId:=223
@[reducible] def Q8O:FuncId:=224
@[reducible] def Q6A:FuncId:=225
@[reducible] def Q3w:FuncId:=252
@[reducible] def Q3x:FuncId:=254
@[reducible] def Q3R:FuncId:=262
@[reducible] def Qam:FuncId:=263
@[reducible] def Q4c:FuncId:=265
end Go.Proofs.YteflkifmgnpbhaaGreat


namespace Go.Proofs.YteflkifmgnpbhaaGreat
open Go.Lir
theorem Qgs:Q1H Tryz.prog 68=some (3,1,8,[.int .i64 0]):=by kernel_rfl
theorem Qgt:Q1H Tryz.prog 146=some (4,1,1,[.bool false]):=by kernel_rfl
theorem Qch:Q1H Tryz.prog 25=some (2,1,8,[.int .i64 0]):=by kernel_rfl
theorem QeA:∃e2,Tryz.prog.underlying 68=some (.slice e2):=⟨3,by kernel_rfl⟩
end Go.Proofs.YteflkifmgnpbhaaGreat
