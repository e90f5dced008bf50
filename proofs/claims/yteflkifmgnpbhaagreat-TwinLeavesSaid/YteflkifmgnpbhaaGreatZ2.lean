/- Lemmas of the proof, part 2: what the functions of the program do (contracts), and what follows. -/
import Derived.Test.YteflkifmgnpbhaaGreatZ1
import Derived.Test.YteflkifmgnpbhaaGreatProg
import Derived.Laws.IdiomStrings
import Derived.Recover
namespace Go.Lir
inductive Ty where
 | mk:Int→Int→List Ty→Ty
def Ty.kind:Ty→Int| .mk k _ _=> k
def Ty.r:Ty→Int| .mk _ r _=> r
def Ty.l:Ty→List Ty| .mk _ _ l=> l
def tyRd (H:Heap) (F:Nat→Prop):Nat→List Value→Ty→Prop
 | 0,_,_=> False
 | n+1,cs,t=>∃v css,cs=[.int .i64 t.kind, .int .i64 t.r,v]∧SlR H 3 v F css∧css.length=t.l.length∧t.l.length≤140737488355328∧∀(m:Nat) (x:Ty),t.l[m]?=some x→∃d,css[m]?=some d∧tyRd H F n d x
theorem tyRd.len {H:Heap}{F:Nat→Prop}:∀{n:Nat}{cs:List Value}{t:Ty},tyRd H F n cs t→cs.length=3
 | 0,_,_,h=> h.elim
 | _+1,_,_,h=> by obtain ⟨_,_,rfl,_⟩:=h;rfl
theorem tyRd.more {H:Heap}{F:Nat→Prop}:∀{n m:Nat}{cs:List Value}{t:Ty},n≤m→tyRd H F n cs t→tyRd H F m cs t
 | 0,_,_,_,_,h=> h.elim
 | n+1,0,_,_,hm,_=> by omega
 | n+1,m+1,_,_,hm,h=> by
   obtain ⟨v,css,h1,h2,h3,h4,h5⟩:=h
   exact ⟨v,css,h1,h2,h3,h4,fun i x hx=> by obtain ⟨d,h6,h7⟩:=h5 i x hx;exact ⟨d,h6,h7.more (by omega)⟩⟩
theorem tyRd.turn {H H':Heap}{F G:Nat→Prop}(hs:∀v css,SlR H 3 v F css→SlR H' 3 v G css):∀{n:Nat}{cs:List Value}{t:Ty},tyRd H F n cs t→tyRd H' G n cs t
 | 0,_,_,h=> h.elim
 | n+1,_,_,h=> by
   obtain ⟨v,css,h1,h2,h3,h4,h5⟩:=h
   exact ⟨v,css,h1,hs _ _ h2,h3,h4,fun i x hx=> by obtain ⟨d,h6,h7⟩:=h5 i x hx;exact ⟨d,h6,h7.turn hs⟩⟩
def TyK (c:Cx) (cs:List Value) (t:Ty):Prop:=∃n,tyRd c.H0 c.K n cs t
theorem TyK.up {c c':Cx}{cs:List Value}{t:Ty}(h:TyK c cs t) (hle:c.Le c'):TyK c' cs t:=by
 obtain ⟨n,h⟩:=h;exact ⟨n,h.turn fun v css hs=> FzS.up hs hle⟩
theorem Qct {α:Type}{xs:List α}{R:Nat→α→Prop}(hm:∀n m x,n≤m→R n x→R m x) (h:∀x∈xs,∃n,R n x):∃n,∀x∈xs,R n x:=by
 induction xs with
 | nil=> exact ⟨0,by simp⟩
 | cons x xs ih=>
   obtain ⟨n,hn⟩:=ih fun y hy=> h y (List.mem_cons_of_mem _ hy)
   obtain ⟨m,hx⟩:=h x (List.mem_cons_self ..)
   refine ⟨max n m,fun y hy=> ?_⟩
   rcases List.mem_cons.1 hy with rfl|hy
   · exact hm _ _ _ (Nat.le_max_right ..) hx
   · exact hm _ _ _ (Nat.le_max_left ..) (hn y hy)
theorem TyK.mk {c:Cx}{k r:Int}{v:Value}{css:List (List Value)}{l:List Ty}(hs:FzS c 3 v css) (hl:css.length=l.length) (hm:l.length≤140737488355328) (h:∀(m:Nat) (x:Ty),l[m]?=some x→∃d,css[m]?=some d∧TyK c d x):TyK c [.int .i64 k, .int .i64 r,v] (.mk k r l):=by
 obtain ⟨n,hn⟩:=Qct (xs:=List.range l.length) (R:=fun n m=>∀x,l[m]?=some x→∃d,css[m]?=some d∧tyRd c.H0 c.K n d x) (fun n m i hnm hr x hx=> by obtain ⟨d,h1,h2⟩:=hr x hx;exact ⟨d,h1,h2.more hnm⟩) (fun m hm=> by
  have hlt:=List.mem_range.1 hm
  obtain ⟨d,h1,n,h2⟩:=h m _ (List.getElem?_eq_getElem hlt)
  exact ⟨n,fun x hx=> by rw [List.getElem?_eq_getElem hlt] at hx;cases hx;exact ⟨d,h1,h2⟩⟩)
 exact ⟨n+1,v,css,rfl,hs,hl,hm,fun m x hx=> hn m (List.mem_range.2 (List.getElem?_eq_some_iff.1 hx).1) x hx⟩
theorem TyK.out {c:Cx}{cs:List Value}{t:Ty}(h:TyK c cs t):∃v css,cs=[.int .i64 t.kind, .int .i64 t.r,v]∧FzS c 3 v css∧css.length=t.l.length∧t.l.length≤140737488355328∧∀(m:Nat) (x:Ty),t.l[m]?=some x→∃d,css[m]?=some d∧TyK c d x:=by
 obtain ⟨n,h⟩:=h
 cases n with
 | zero=> exact h.elim
 | succ n=>
   obtain ⟨v,css,h1,h2,h3,h4,h5⟩:=h
   exact ⟨v,css,h1,h2,h3,h4,fun m x hx=> by obtain ⟨d,h6,h7⟩:=h5 m x hx;exact ⟨d,h6,n,h7⟩⟩

theorem QdV {P:Program}{T e:TypeId}{α:Type}{Hd:Type}{enc:TypeId×Value→Hd}{w:World}{fuel es:Nat}{cs:List Value}{y:DataW Hd×List MemPlace}{rd:List Value→α→Prop}(hsz:P.cellsOf e=es) (hes:0 < es) (hlen:∀d x,rd d x→d.length=es)
 (ht:P.underlying T=some (.slice e)) (h:DataW.trod enc P w 0 (fun _=> true) true fuel T cs=some y) (hby:0 < P.bytesOf e) (hfit:Fits P T y.1)
 (hel:∀(n:Nat) (d:List Value) (z:DataW Hd×List MemPlace),DataW.trod enc P w 0 (fun _=> true) true n e d=some z→Fits P e z.1→SizeOf.sizeOf z.1 < SizeOf.sizeOf y.1→∃x,rd d x):
 ∃(xs:List α) (v:Value) (css:List (List Value)),cs=[v]∧SlR w.heap es v (fun _=> True) css∧css.length=xs.length∧xs.length≤140737488355328∧∀(m:Nat) (x:α),xs[m]?=some x→∃d,css[m]?=some d∧rd d x:=by
 rcases Go.Deep.open_slice ht h with ⟨rfl,_⟩|⟨a,len,cap,m,n,D,Pl,rfl,_,hl,hm,hmm,hy,hi⟩
 · exact ⟨[], .slice none 0 0,[],rfl,⟨by simp,none,0,rfl,Nat.le_refl _, .inl rfl⟩,rfl,by simp,by simp⟩
 · have hmc:m=cap:=by simpa using hmm
   subst hmc
   have hfit':=hfit
   rw [hy] at hfit'
   obtain ⟨hlen0,hel0⟩:=Q9z ht hfit' hby
   simp only [List.length_map,List.length_range] at hlen0
   have hel2:∀i,i < len→∃(d:List Value) (x:α),w.cells? 0 (a.add (i*es)) es=some d∧rd d x:=by
    intro i hi'
    obtain ⟨d,h1,h2⟩:=hi i (by omega)
    rw [hsz] at h1
    obtain ⟨x,hx⟩:=hel n d _ h2 (hel0 _ (List.mem_map.2 ⟨i,List.mem_range.2 hi',rfl⟩)) (by
     rw [hy]
     have hmem:D i∈(List.range len).map D:=List.mem_map.2 ⟨i,List.mem_range.2 hi',rfl⟩
     have:=List.sizeOf_lt_of_mem hmem
     simp only [DataW.slice.sizeOf_spec]
     omega)
    exact ⟨d,x,h1,hx⟩
   have build:∀n,n≤len→∃(css:List (List Value)) (xs:List α),css.length=n∧xs.length=n∧
    ∀m,m < n→∃d x,css[m]?=some d∧xs[m]?=some x∧w.cells? 0 (a.add (m*es)) es=some d∧rd d x:=by
    intro n
    induction n with
    | zero=> intro _;exact ⟨[],[],rfl,rfl,fun m hm=> absurd hm (by omega)⟩
    | succ n ih=>
      intro hn
      obtain ⟨css,xs,h1,h2,h3⟩:=ih (by omega)
      obtain ⟨d,x,h4,h5⟩:=hel2 n (by omega)
      refine ⟨css++[d],xs++[x],by simp [h1],by simp [h2],fun m hm=> ?_⟩
      by_cases hmn:m=n
      · subst hmn
        exact ⟨d,x,by rw [List.getElem?_append_right (by omega),h1];simp,by rw [List.getElem?_append_right (by omega),h2];simp,h4,h5⟩
      · obtain ⟨d',x',g1,g2,g3,g4⟩:=h3 m (by omega)
        exact ⟨d',x',by rw [List.getElem?_append_left (by omega)];exact g1,by rw [List.getElem?_append_left (by omega)];exact g2,g3,g4⟩
   obtain ⟨css,xs,h1,h2,h3⟩:=build len (Nat.le_refl _)
   refine ⟨xs, .slice (some a) len m,css,rfl,⟨?_,some a,m,by rw [h1],by omega,?_⟩,by omega,by omega,?_⟩
   · intro d hd
     obtain ⟨i,hi'⟩:=List.mem_iff_getElem?.1 hd
     have hlt:=(List.getElem?_eq_some_iff.1 hi').1
     obtain ⟨d',x',g1,g2,g3,g4⟩:=h3 i (by omega)
     rw [hi'] at g1
     simp only [Option.some.injEq] at g1
     subst g1
     exact hlen _ _ g4
   · rcases Nat.eq_zero_or_pos len with h0|h0
     · exact .inl (List.eq_nil_of_length_eq_zero (by omega))
     · obtain ⟨d0,x0,_,_,g3,_⟩:=h3 0 h0
       obtain ⟨hsp,hbl,_⟩:=Q7F g3 hes
       have ha0:a.add (0*es)=a:=by rw [Nat.zero_mul];rfl
       rw [ha0] at hsp hbl
       obtain ⟨b,o,s⟩:=a
       simp only at hsp
       subst hsp
       refine .inr ⟨b,o,rfl,trivial,hbl,fun i d hd=> ?_⟩
       have hlt:=(List.getElem?_eq_some_iff.1 hd).1
       obtain ⟨d',x',g1,g2,g3,g4⟩:=h3 i (by omega)
       rw [hd] at g1
       simp only [Option.some.injEq] at g1
       subst g1
       rw [Q1n] at g3
       exact (Q7F g3 hes).2.2
   · intro i x hx
     have hlt:=(List.getElem?_eq_some_iff.1 hx).1
     obtain ⟨d',x',g1,g2,g3,g4⟩:=h3 i (by omega)
     rw [hx] at g2
     simp only [Option.some.injEq] at g2
     subst g2
     exact ⟨d',g1,g4⟩
theorem Q4l {Hd:Type}{enc:TypeId×Value→Hd}{P:Program}{w:World}{T:TypeId}{fuel:Nat}{cs:List Value}{y:DataW Hd×List MemPlace}(h:DataW.trod enc P w 0 (fun _=> true) true fuel T cs=some y)
 {i o s:Nat}{t:TypeId}(hf:fieldAt P T i=some (o,s,t)) (hfit:Fits P T y.1):cs.length=P.cellsOf T∧∃n z,DataW.trod enc P w 0 (fun _=> true) true n t ((cs.drop o).take s)=some z∧Fits P t z.1∧SizeOf.sizeOf z.1 < SizeOf.sizeOf y.1:=by
 unfold fieldAt at hf
 split at hf
 · rename_i fs hu
   simp only [Option.map_eq_some_iff,Prod.mk.injEq] at hf
   obtain ⟨f,hf,rfl,rfl,rfl⟩:=hf
   obtain ⟨xs,n,_,hy,hl,hx,hall⟩:=DataW.trod_struct hu h
   have:=hall i f hf
   have hlt:=(Array.getElem?_eq_some_iff.1 hf).1
   refine ⟨hl,n,xs[i]'(by omega),?_,?_,?_⟩
   · rw [this,List.getElem?_eq_getElem (by omega)]
   · rw [hy] at hfit
     exact Q8E hu hfit hf (by rw [List.getElem?_map,List.getElem?_eq_getElem (by omega)];rfl)
   · rw [hy]
     have hmem:(xs[i]'(by omega)).1∈xs.map (·.1):=List.mem_map.2 ⟨_,List.getElem_mem _,rfl⟩
     have:=List.sizeOf_lt_of_mem hmem
     simp only [DataW.agg.sizeOf_spec]
     omega
 · cases hf
inductive Ty.InR:Ty→Prop where
 | mk {k r:Int}{l:List Ty}:(Lit.int .i64 k).wf=true→(Lit.int .i64 r).wf=true→(∀x∈l,x.InR)→Ty.InR (.mk k r l)
theorem wf_rng {n:Int}(h:(Lit.int .i64 n).wf=true): -9223372036854775808≤n∧n≤9223372036854775807:=by
 simp [Lit.wf,IntKind.min,IntKind.max,IntKind.bits,IntKind.signed] at h;omega
theorem Ty.InR.parts {k r:Int}{l:List Ty}(h:(Ty.mk k r l).InR):(-9223372036854775808≤k∧k≤9223372036854775807)∧(-9223372036854775808≤r∧r≤9223372036854775807)∧∀x∈l,x.InR:=by
 cases h with|mk h1 h2 h3=> exact ⟨wf_rng h1,wf_rng h2,h3⟩
theorem QeF {P:Program}{T TL t0 t1:TypeId}(h0:fieldAt P T 0=some (0,1,t0)) (h1:fieldAt P T 1=some (1,1,t1)) (h2:fieldAt P T 2=some (2,1,TL)) (hi0:P.underlying t0=some (.int .i64)) (hi1:P.underlying t1=some (.int .i64)) (hT:P.cellsOf T=3) (hTL:P.underlying TL=some (.slice T)) (hby:0 < P.bytesOf T)
 {Hd:Type}{enc:TypeId×Value→Hd}{w:World}:∀(N fuel:Nat) (cs:List Value) (y:DataW Hd×List MemPlace),DataW.trod enc P w 0 (fun _=> true) true fuel T cs=some y→Fits P T y.1→SizeOf.sizeOf y.1 < N→∃t n,tyRd w.heap (fun _=> True) n cs t∧t.InR
 | 0,_,_,_,_,_,hN=> by omega
 | N +1,fuel,cs,y,h,hfit,hN=> by
   obtain ⟨hl,n0,z0,g0,_⟩:=Q4l h h0 hfit
   obtain ⟨_,n1,z1,g1,_⟩:=Q4l h h1 hfit
   obtain ⟨_,n2,z2,g2,u2,hz⟩:=Q4l h h2 hfit
   rw [hT] at hl
   obtain ⟨a,b,v,hc⟩:∃a b v,cs=[a,b,v]:=by
    match cs,hl with
    | [a,b,v],_=> exact ⟨a,b,v,rfl⟩
   subst hc
   obtain ⟨k,hk,_,wk⟩:=DataW.trod_int hi0 g0
   obtain ⟨r,hr,_,wr⟩:=DataW.trod_int hi1 g1
   have hk2:[a]=[Value.int .i64 k]:=hk
   have hr2:[b]=[Value.int .i64 r]:=hr
   clear hk hr
   simp only [List.cons.injEq,and_true] at hk2 hr2
   have g3:DataW.trod enc P w 0 (fun _=> true) true n2 TL [v]=some z2:=g2
   clear g2
   obtain ⟨xs,v',css,hv,s1,s2,s3,s4⟩:=QdV (rd:=fun d (x:Nat×Ty)=> tyRd w.heap (fun _=> True) x.1 d x.2∧x.2.InR) hT (by decide) (fun d x hx=> hx.1.len) hTL g3 hby u2 (fun n d z hz1 hz3 hz2=> by
    obtain ⟨t,n,ht,hr⟩:=QeF h0 h1 h2 hi0 hi1 hT hTL hby N _ d z hz1 hz3 (by omega)
    exact ⟨(n,t),ht,hr⟩)
   simp only [List.cons.injEq,and_true] at hv
   subst hv hk2 hr2
   obtain ⟨n,hn⟩:=Qct (xs:=xs) (R:=fun n x=> x.1≤n) (fun n m x h1 h2=> Nat.le_trans h2 h1) (fun x _=> ⟨x.1,Nat.le_refl _⟩)
   refine ⟨.mk k r (xs.map (·.2)),n+1,⟨v,css,rfl,s1,by simp [Ty.l,s2],by simpa [Ty.l] using s3,fun m x hx=> ?_⟩, .mk wk wr fun x hx=> ?_⟩
   rotate_left
   · obtain ⟨p,hp,rfl⟩:=List.mem_map.1 hx
     obtain ⟨m,hm⟩:=List.mem_iff_getElem?.1 hp
     obtain ⟨d,d1,d2⟩:=s4 m p hm
     exact d2.2
   simp only [Ty.l,List.getElem?_map,Option.map_eq_some_iff] at hx
   obtain ⟨p,hp,rfl⟩:=hx
   obtain ⟨d,d1,d2⟩:=s4 m p hp
   exact ⟨d,d1,d2.1.more (hn p (List.mem_of_getElem? hp))⟩
def Cod.ty {P:Program}{T TL t0 t1:TypeId}(h0:fieldAt P T 0=some (0,1,t0)) (h1:fieldAt P T 1=some (1,1,t1)) (h2:fieldAt P T 2=some (2,1,TL)) (hi0:P.underlying t0=some (.int .i64)) (hi1:P.underlying t1=some (.int .i64)) (hT:P.cellsOf T=3) (hTL:P.underlying TL=some (.slice T)) (hby:decide (0 < P.bytesOf T)=true):Cod P T Ty where
 es:=3
 rd:=fun H cs t=>∃n,tyRd H (fun b=> b < H.size) n cs t
 size:=hT
 len:=by rintro _ _ _ ⟨n,h⟩;exact h.len
 stay:=by
  rintro H H' cs t ⟨n,h⟩ hH
  exact ⟨n,h.turn fun v css hs=> SlR.mono (hs.of_same fun b hb _=> hH b hb) fun b hb _=> hb⟩
 open_:=fun enc w fuel cs y h hfit=> by
  obtain ⟨t,n,ht,_⟩:=QeF h0 h1 h2 hi0 hi1 hT hTL (of_decide_eq_true hby) (SizeOf.sizeOf y.1+1) fuel cs y h hfit (by omega)
  exact ⟨t,n,ht.turn fun v css hs=> SlR.mono hs fun b hb _=> hb⟩
theorem TyK.top {w:World}{cs:List Value}{t:Ty}(h:∃n,tyRd w.heap (fun b=> b < w.heap.size) n cs t):TyK (Cx.top w) cs t:=h
end Go.Lir
namespace Go.Lir
structure Fld (P:Program) (T:TypeId) (α:Type) where
 rd:Heap→List Value→α→Prop
 stay:∀(H H':Heap) cs x,rd H cs x→(∀b,b < H.size→H'[b]?=H[b]?)→rd H' cs x
 open_:∀{Hd:Type}(enc:TypeId×Value→Hd) (w:World) (fuel:Nat) (cs:List Value) (y:DataW Hd×List MemPlace),DataW.trod enc P w 0 (fun _=> true) true fuel T cs=some y→Fits P T y.1→∃x,rd w.heap cs x
def Fld.none {P:Program}{T:TypeId}:Fld P T Unit:=⟨fun _ _ _=> True,fun _ _ _ _ h _=> h,fun _ _ _ _ _ _ _=> ⟨(),trivial⟩⟩
def Fld.more {P:Program}{T t:TypeId}{α β:Type}{i o s:Nat}(c:Cod P t α) (h:fieldAt P T i=some (o,s,t)) (f:Fld P T β):Fld P T (α×β) where
 rd:=fun H cs x=> c.rd H ((cs.drop o).take s) x.1∧f.rd H cs x.2
 stay:=fun H H' cs x h hH=> ⟨c.stay _ _ _ _ h.1 hH,f.stay _ _ _ _ h.2 hH⟩
 open_:=fun enc w fuel cs y hy hfit=> by
  obtain ⟨_,n,z,g,u⟩:=Q7N hy h hfit
  obtain ⟨a,ha⟩:=c.open_ enc w _ _ _ g u
  obtain ⟨b,hb⟩:=f.open_ enc w _ _ _ hy hfit
  exact ⟨(a,b),ha,hb⟩
def Fld.cod {P:Program}{T t:TypeId}{α:Type}{o s:Nat}(f:Fld P T α) (h0:fieldAt P T 0=some (o,s,t)) (n:Nat) (hn:P.cellsOf T=n):Cod P T α where
 es:=n
 rd:=fun H cs x=> cs.length=n∧f.rd H cs x
 size:=hn
 len:=fun _ _ _ h=> h.1
 stay:=fun H H' cs x h hH=> ⟨h.1,f.stay _ _ _ _ h.2 hH⟩
 open_:=fun enc w fuel cs y hy hfit=> by
  obtain ⟨hl,_⟩:=Q7N hy h0 hfit
  obtain ⟨a,ha⟩:=f.open_ enc w _ _ _ hy hfit
  exact ⟨a,by rw [hl,hn],ha⟩
end Go.Lir
namespace Go.Lir

theorem SlR.turn {H H':Heap}{es:Nat}{v:Value}{F G:Nat→Prop}{css:List (List Value)}(h:SlR H es v F css) (hs:∀b,F b→b < H.size→G b∧H'[b]?=H[b]?):SlR H' es v G css:=by
 obtain ⟨h0,a,cap,hv,hlc,hc|⟨b,off,ha,hF,hb,hat⟩⟩:=h
 · exact ⟨h0,a,cap,hv,hlc, .inl hc⟩
 · obtain ⟨h1,h2⟩:=hs b hF hb
   refine ⟨h0,a,cap,hv,hlc, .inr ⟨b,off,ha,h1,?_,fun m c hm=> (hat m c hm).of_same h2⟩⟩
   rcases Nat.lt_or_ge b H'.size with h|h
   · exact h
   · rw [Array.getElem?_eq_none h,Array.getElem?_eq_getElem hb] at h2;cases h2

structure Rep (α:Type) where
 es:Nat
 pos:0 < es
 R:Heap→(Nat→Prop)→List Value→α→Prop
 len:∀{H:Heap}{K:Nat→Prop}{cs:List Value}{x:α},R H K cs x→cs.length=es
 one:∀{H:Heap}{K:Nat→Prop}{cs:List Value}{x:α},R H K cs x→∀u∈cs,oneC u=true
 turn:∀{H H':Heap}{K K':Nat→Prop}{cs:List Value}{x:α},R H K cs x→(∀b,K b→b < H.size→K' b∧H'[b]?=H[b]?)→R H' K' cs x

section
variable {α β:Type}
def Rep.LR (r:Rep α) (H:Heap) (K:Nat→Prop) (css:List (List Value)) (l:List α):Prop:=css.length=l.length∧∀(m:Nat) (x:α),l[m]?=some x→∃d,css[m]?=some d∧r.R H K d x
def Rep.SR (r:Rep α) (H:Heap) (K:Nat→Prop) (v:Value) (l:List α):Prop:=∃css,SlR H r.es v K css∧r.LR H K css l∧l.length≤140737488355328
theorem Rep.LR.turn {r:Rep α}{H H':Heap}{K K':Nat→Prop}{css:List (List Value)}{l:List α}(h:r.LR H K css l) (hs:∀b,K b→b < H.size→K' b∧H'[b]?=H[b]?):r.LR H' K' css l:=
 ⟨h.1,fun m x hx=> by obtain ⟨d,h1,h2⟩:=h.2 m x hx;exact ⟨d,h1,r.turn h2 hs⟩⟩
theorem Rep.SR.turn {r:Rep α}{H H':Heap}{K K':Nat→Prop}{v:Value}{l:List α}(h:r.SR H K v l) (hs:∀b,K b→b < H.size→K' b∧H'[b]?=H[b]?):r.SR H' K' v l:=by
 obtain ⟨css,h1,h2,h3⟩:=h
 exact ⟨css,h1.turn hs,h2.turn hs,h3⟩
theorem Rep.LR.nil (r:Rep α) (H:Heap) (K:Nat→Prop):r.LR H K [] []:=⟨rfl,by simp⟩
theorem Rep.LR.push {r:Rep α}{H:Heap}{K:Nat→Prop}{css:List (List Value)}{l:List α}{d:List Value}{x:α}(h:r.LR H K css l) (hd:r.R H K d x):r.LR H K (css++[d]) (l++[x]):=by
 refine ⟨by simp [h.1],fun m y hy=> ?_⟩
 rcases Nat.lt_or_ge m l.length with hm|hm
 · rw [List.getElem?_append_left hm] at hy
   rw [List.getElem?_append_left (by rw [h.1];exact hm)]
   exact h.2 m y hy
 · rw [List.getElem?_append_right hm] at hy
   rw [List.getElem?_append_right (by rw [h.1];exact hm),h.1]
   obtain ⟨i,hi⟩:∃i,m - l.length=i:=⟨_,rfl⟩
   rw [hi] at hy ⊢
   cases i with
   | zero=> simp only [List.getElem?_cons_zero,Option.some.injEq] at hy;subst hy;exact ⟨d,rfl,hd⟩
   | succ i=> simp at hy
theorem Rep.LR.append {r:Rep α}{H:Heap}{K:Nat→Prop}{css css2:List (List Value)}{l l2:List α}(h:r.LR H K css l) (h2:r.LR H K css2 l2):r.LR H K (css++css2) (l++l2):=by
 refine ⟨by simp [h.1,h2.1],fun m y hy=> ?_⟩
 rcases Nat.lt_or_ge m l.length with hm|hm
 · rw [List.getElem?_append_left hm] at hy
   rw [List.getElem?_append_left (by rw [h.1];exact hm)]
   exact h.2 m y hy
 · rw [List.getElem?_append_right hm] at hy
   rw [List.getElem?_append_right (by rw [h.1];exact hm),h.1]
   exact h2.2 _ y hy
theorem Rep.LR.set {r:Rep α}{H:Heap}{K:Nat→Prop}{css:List (List Value)}{l:List α}{d:List Value}{x:α}{i:Nat}(h:r.LR H K css l) (hd:r.R H K d x):r.LR H K (css.set i d) (l.set i x):=by
 refine ⟨by simp [h.1],fun m y hy=> ?_⟩
 rw [List.getElem?_set] at hy ⊢
 by_cases he:i=m
 · rw [if_pos he] at hy ⊢
   rw [h.1]
   split at hy
   · rename_i hm;rw [if_pos hm];cases hy;exact ⟨d,rfl,hd⟩
   · cases hy
 · rw [if_neg he] at hy ⊢
   exact h.2 m y hy
theorem Rep.LR.sub {r:Rep α}{H:Heap}{K:Nat→Prop}{css:List (List Value)}{l:List α}(h:r.LR H K css l) (i j:Nat):r.LR H K ((css.take j).drop i) ((l.take j).drop i):=by
 refine ⟨by simp [h.1],fun m y hy=> ?_⟩
 rw [List.getElem?_drop] at hy ⊢
 have hlt:=(List.getElem?_eq_some_iff.1 hy).1
 rw [List.length_take] at hlt
 rw [List.getElem?_take_of_lt (by omega)] at hy ⊢
 exact h.2 _ y hy
theorem Rep.LR.one {r:Rep α}{H:Heap}{K:Nat→Prop}{css:List (List Value)}{l:List α}(h:r.LR H K css l):∀c∈css,∀u∈c,oneC u=true:=by
 intro c hc
 obtain ⟨m,hm⟩:=List.mem_iff_getElem?.1 hc
 have hlt:=(List.getElem?_eq_some_iff.1 hm).1
 obtain ⟨d,h1,h2⟩:=h.2 m _ (List.getElem?_eq_getElem (by rw [←h.1];exact hlt))
 rw [hm] at h1;cases h1
 exact r.one h2
theorem Rep.LR.lens {r:Rep α}{H:Heap}{K:Nat→Prop}{css:List (List Value)}{l:List α}(h:r.LR H K css l):∀c∈css,c.length=r.es:=by
 intro c hc
 obtain ⟨m,hm⟩:=List.mem_iff_getElem?.1 hc
 have hlt:=(List.getElem?_eq_some_iff.1 hm).1
 obtain ⟨d,h1,h2⟩:=h.2 m _ (List.getElem?_eq_getElem (by rw [←h.1];exact hlt))
 rw [hm] at h1;cases h1
 exact r.len h2
theorem Rep.SR.oneC {r:Rep α}{H:Heap}{K:Nat→Prop}{v:Value}{l:List α}(h:r.SR H K v l):Go.Lir.oneC v=true:=by
 obtain ⟨css,h1,_⟩:=h;exact SlR.oneC h1
theorem Rep.SR.nil (r:Rep α) (H:Heap) (K:Nat→Prop):r.SR H K (.slice none 0 0) []:=⟨[],⟨by simp,none,0,rfl,Nat.le_refl _, .inl rfl⟩, .nil r H K,by simp⟩
theorem Rep.SR.len {r:Rep α}{H:Heap}{K:Nat→Prop}{v:Value}{l:List α}(h:r.SR H K v l):l.length≤140737488355328:=by obtain ⟨_,_,_,h⟩:=h;exact h
theorem Rep.SR.shape {r:Rep α}{H:Heap}{K:Nat→Prop}{v:Value}{l:List α}(h:r.SR H K v l):∃a c,v= .slice a l.length c:=by
 obtain ⟨css,h1,h2,_⟩:=h
 obtain ⟨a,c,hv⟩:=SlR.shape h1
 exact ⟨a,c,by rw [←h2.1];exact hv⟩

theorem Rep.SR.nil_of {r:Rep α}{H:Heap}{K:Nat→Prop}{v:Value}{l:List α}{n c:Nat}(h:r.SR H K v l) (hv:v= .slice none n c):l=[]:=by
 obtain ⟨css,⟨_,a,cap,hv2,_,hc|⟨b,off,ha,_⟩⟩,h2,_⟩:=h
 · exact List.eq_nil_of_length_eq_zero (by rw [←h2.1,hc];rfl)
 · rw [hv,ha] at hv2;simp at hv2
def Rep.lit (f:α→Value) (hf:∀x,oneC (f x)=true):Rep α where
 es:=1
 pos:=by decide
 R:=fun _ _ cs x=> cs=[f x]
 len:=by rintro _ _ _ _ rfl;rfl
 one:=by rintro _ _ _ x rfl u hu;simp at hu;subst hu;exact hf x
 turn:=fun h _=> h
def intR:Rep Int:=Rep.lit (fun n=> .int .i64 n) (fun _=> rfl)
def Rep.list (r:Rep α):Rep (List α) where
 es:=1
 pos:=by decide
 R:=fun H K cs l=>∃v,cs=[v]∧r.SR H K v l
 len:=by rintro _ _ _ _ ⟨v,rfl,_⟩;rfl
 one:=by rintro _ _ _ _ ⟨v,rfl,h⟩ u hu;simp at hu;subst hu;exact h.oneC
 turn:=by rintro _ _ _ _ _ _ ⟨v,rfl,h⟩ hs;exact ⟨v,rfl,h.turn hs⟩
def Rep.and (r:Rep α) (p:α→Prop):Rep α where
 es:=r.es
 pos:=r.pos
 R:=fun H K cs x=> r.R H K cs x∧p x
 len:=fun h=> r.len h.1
 one:=fun h=> r.one h.1
 turn:=fun h hs=> ⟨r.turn h.1 hs,h.2⟩
def tyR:Rep Ty where
 es:=3
 pos:=by decide
 R:=fun H K cs t=>∃n,tyRd H K n cs t
 len:=by rintro _ _ _ _ ⟨n,h⟩;exact h.len
 one:=by
  rintro _ _ _ _ ⟨n,h⟩
  cases n with
  | zero=> exact h.elim
  | succ n=>
    obtain ⟨v,css,rfl,h2,_⟩:=h
    intro u hu;simp at hu
    rcases hu with rfl|rfl|rfl
    · rfl
    · rfl
    · exact SlR.oneC h2
 turn:=by rintro _ _ _ _ _ _ ⟨n,h⟩ hs;exact ⟨n,h.turn fun v css hv=> hv.turn hs⟩
theorem Qr {H:Heap}{K:Nat→Prop}{cs:List Value}{t:Ty}(h:tyR.R H K cs t):∃v,cs=[.int .i64 t.kind, .int .i64 t.r,v]∧tyR.SR H K v t.l:=by
 obtain ⟨n,h⟩:=h
 cases n with
 | zero=> exact h.elim
 | succ n=>
   obtain ⟨v,css,h1,h2,h3,h4,h5⟩:=h
   exact ⟨v,h1,css,h2,⟨h3,fun m x hx=> by obtain ⟨d,h6,h7⟩:=h5 m x hx;exact ⟨d,h6,n,h7⟩⟩,h4⟩
theorem Q2R {H:Heap}{K:Nat→Prop}{k r:Int}{v:Value}{l:List Ty}(h:tyR.SR H K v l):tyR.R H K [.int .i64 k, .int .i64 r,v] (.mk k r l):=by
 obtain ⟨css,h1,h2,h3⟩:=h
 obtain ⟨n,hn⟩:=Qct (xs:=List.range l.length) (R:=fun n m=>∀x,l[m]?=some x→∃d,css[m]?=some d∧tyRd H K n d x) (fun n m i hnm hr x hx=> by obtain ⟨d,h1,h2⟩:=hr x hx;exact ⟨d,h1,h2.more hnm⟩) (fun m hm=> by
  have hlt:=List.mem_range.1 hm
  obtain ⟨d,h4,n,h5⟩:=h2.2 m _ (List.getElem?_eq_getElem hlt)
  exact ⟨n,fun x hx=> by rw [List.getElem?_eq_getElem hlt] at hx;cases hx;exact ⟨d,h4,h5⟩⟩)
 exact ⟨n+1,v,css,rfl,h1,h2.1,h3,fun m x hx=> hn m (List.mem_range.2 (List.getElem?_eq_some_iff.1 hx).1) x hx⟩

abbrev Rep.at (r:Rep α) (c:Cx) (cs:List Value) (x:α):Prop:=r.R c.H0 c.K cs x
abbrev Rep.sl (r:Rep α) (c:Cx) (v:Value) (l:List α):Prop:=r.SR c.H0 c.K v l
abbrev Rep.ls (r:Rep α) (c:Cx) (css:List (List Value)) (l:List α):Prop:=r.LR c.H0 c.K css l
theorem Cx.Le.turn {c c':Cx}(h:c.Le c'):∀b,c.K b→b < c.H0.size→c'.K b∧c'.H0[b]?=c.H0[b]?:=fun b hb _=> h.K b hb
theorem Rep.R.up {r:Rep α}{c c':Cx}{cs:List Value}{x:α}(h:r.at c cs x) (hle:c.Le c'):r.at c' cs x:=r.turn h hle.turn
theorem Rep.SR.up {r:Rep α}{c c':Cx}{v:Value}{l:List α}(h:r.sl c v l) (hle:c.Le c'):r.sl c' v l:=Rep.SR.turn h hle.turn
theorem Rep.LR.up {r:Rep α}{c c':Cx}{v:List (List Value)}{l:List α}(h:r.ls c v l) (hle:c.Le c'):r.ls c' v l:=Rep.LR.turn h hle.turn
theorem St.freezeL {r:Rep α}{c:Cx}{w:World}{L:List Res}{T:TypeId}{es:Nat}{v:Value}{css:List (List Value)}{l:List α}(h:St c w (sl T es v css::L)) (hl:r.ls c css l) (hes:r.es=es) (hm:l.length≤140737488355328):∃c',c.Le c'∧St c' w L∧r.sl c' v l:=by
 subst hes
 obtain ⟨c',h1,h2,h3⟩:=h.freezeS
 exact ⟨c',h1,h2,css,h3,hl.up h1,hm⟩
theorem Rep.SR.ints {c:Cx}{v:Value}{l:List Int}(h:intR.sl c v l):FzS c 1 v (l.map Qj):=by
 obtain ⟨css,h1,h2,h3⟩:=h
 have:css=l.map Qj:=by
  apply List.ext_getElem?
  intro m
  rw [List.getElem?_map]
  rcases Nat.lt_or_ge m l.length with hm|hm
  · obtain ⟨d,h4,h5⟩:=h2.2 m _ (List.getElem?_eq_getElem hm)
    have h5:d=[_]:=h5
    rw [h4,List.getElem?_eq_getElem hm,h5];rfl
  · rw [List.getElem?_eq_none (by rw [h2.1];exact hm),List.getElem?_eq_none hm];rfl
 rw [this] at h1;exact h1
theorem FzS.ints {c:Cx}{v:Value}{l:List Int}(h:FzS c 1 v (l.map Qj)) (hm:l.length≤140737488355328):intR.sl c v l:=
 ⟨_,h,⟨by simp,fun m x hx=> ⟨Qj x,by rw [List.getElem?_map,hx];rfl,rfl⟩⟩,hm⟩

section
variable {P:Program}{l:List GO}{Q:QT}{ρ:Env}{w:World}{c:Cx}{L:List Res}{r:Rep α}{xs:List α}{v:Value}{es:Nat}
theorem s_idxL {d:Nat}{x y:Operand}{k:IntKind}{n:Int}(hx:ρ.ev x=v) (hy:ρ.ev y= .int k n) (hK:r.sl c v xs) (hes:r.es=es) (h0:0≤n) (hn:n < xs.length)
 (h:∀b o cs a,AtK c b o cs→xs[n.toNat]?=some a→r.at c cs a→Q0 P l Q (upd ρ d (.pointer (some ⟨b,o,none⟩))) w):Q0 P (⟨none, .idx d es x y⟩::l) Q ρ w:=by
 subst hes
 obtain ⟨css,h1,h2,h3⟩:=hK
 have hn':n.toNat < xs.length:=by omega
 obtain ⟨cs,h4,h5⟩:=h2.2 n.toNat _ (List.getElem?_eq_getElem hn')
 exact s_idxK (m:=n.toNat) hx (by rw [hy,Int.toNat_of_nonneg h0]) h1 h4 fun b o hb=> h b o cs _ hb (List.getElem?_eq_getElem hn') h5
theorem Q6u {d m:Nat}{x y:Operand}{k:IntKind}(hx:ρ.ev x=v) (hy:ρ.ev y= .int k (m:Int)) (hK:r.sl c v xs) (hes:r.es=es) (hn:m < xs.length)
 (h:∀b o cs a,AtK c b o cs→xs[m]?=some a→r.at c cs a→Q0 P l Q (upd ρ d (.pointer (some ⟨b,o,none⟩))) w):Q0 P (⟨none, .idx d es x y⟩::l) Q ρ w:=by
 subst hes
 obtain ⟨css,h1,h2,h3⟩:=hK
 obtain ⟨cs,h4,h5⟩:=h2.2 m _ (List.getElem?_eq_getElem hn)
 exact s_idxK (m:=m) hx hy h1 h4 fun b o hb=> h b o cs _ hb (List.getElem?_eq_getElem hn) h5
theorem Qb {l:List α}{m:Nat}{x:α}(h:l[m]?=some x):l.drop m=x::l.drop (m+1):=by
 obtain ⟨hm,rfl⟩:=List.getElem?_eq_some_iff.1 h
 exact List.drop_eq_getElem_cons hm
theorem Q2H {l:List α}{m:Nat}{x:α}(h:l[m]?=some x):l.take (m+1)=l.take m++[x]:=by
 rw [List.take_add_one,h];rfl
theorem QY {cs:List Value}{n:Int}(h:intR.at c cs n):cs=[.int .i64 n]:=h
theorem Qaa:∀{L:List Res}{i:Nat}{a a':Res},nth L i=some a→nth (L.set i a') i=some a'
 | [],_,_,_,h=> by cases h
 | _::_,0,_,_,_=> rfl
 | _::L,i+1,_,_,h=> Qaa (L:=L) (i:=i) h
theorem s_appR1 {T T' d Ts Ts2 Ty nb i k b:Nat}{z:List Value}{x y:Operand}{ds:List Value}{css:List (List Value)}{a:α}(hel:Q1A P Ts=some (T,es,nb,z))
 (hts:∃e2,P.underlying Ts2=some (.slice e2)) (hS:St c w L) (hx:ρ.ev x=v) (hy:ρ.ev y= .slice (some ⟨b,0,none⟩) 1 1) (hi:nth L i=some (Go.Lir.sl T es v css)) (hk:nth L k=some (blk b T' ds)) (hls:r.ls c css xs) (ha:r.at c ds a) (hes:r.es=es) (hb:(xs.length+1)*nb≤140737488355328)
 (h : ∀ v' w' css', r.ls c css' (xs ++ [a]) → oneC v' = true → St c w' (L.set i (Go.Lir.sl T es v' css')) → Q0 P l Q (upd ρ d v') w') : Q0 P (⟨none, .raw ⟨some d, .call ⟨.builtin .append, #[x, y], #[Ts, Ts2]⟩, Ty, "", #[], none⟩⟩ :: l) Q ρ w :=
 Q1T hel (.inl hts) hS hx hy hi (hS.srcB hk ((r.len ha).trans hes) (r.one ha)) (by rw [hls.1];exact hb) fun v' w' hS'=> h v' w' _ (hls.push ha) (hS'.oneC (Qaa hi)) hS'
theorem s_appRK {T d Ts Ts2 Ty nb i:Nat}{z:List Value}{x y:Operand}{v2:Value}{css:List (List Value)}{ys:List α}(hel:Q1A P Ts=some (T,es,nb,z))
 (hts:∃e2,P.underlying Ts2=some (.slice e2)) (hS:St c w L) (hx:ρ.ev x=v) (hy:ρ.ev y=v2) (hi:nth L i=some (Go.Lir.sl T es v css)) (hls:r.ls c css xs) (hK:r.sl c v2 ys) (hes:r.es=es) (hb:(xs.length+ys.length)*nb≤140737488355328)
 (h : ∀ v' w' css', r.ls c css' (xs ++ ys) → oneC v' = true → St c w' (L.set i (Go.Lir.sl T es v' css')) → Q0 P l Q (upd ρ d v') w') : Q0 P (⟨none, .raw ⟨some d, .call ⟨.builtin .append, #[x, y], #[Ts, Ts2]⟩, Ty, "", #[], none⟩⟩ :: l) Q ρ w := by
 subst hes
 obtain ⟨css2,h1,h2,h3⟩:=hK
 exact Q1T hel (.inl hts) hS hx hy hi (FzS.src h1 hS h2.one) (by rw [hls.1,h2.1];exact hb) fun v' w' hS'=> h v' w' _ (hls.append h2) (hS'.oneC (Qaa hi)) hS'
theorem Qf4 {d:Nat}{x:Operand}{os:List Operand}{f:FuncId}{args:List Value}{S:Value→World→Prop}(hx:ρ.ev x= .func (.func f) #[] #[]) (hf:Q3G P f=true) (hxs:os.map ρ.ev=args) (hc:Rets P f args w S)
 (h:∀v w',S v w'→Q0 P l Q (upd ρ d v) w'):Q0 P (⟨none, .callv (some d) x os⟩::l) Q ρ w:=by
 unfold Q3G at hf
 rw [Option.any_eq_true] at hf
 obtain ⟨fn,h1,h2⟩:=hf
 rw [Bool.and_eq_true,Bool.not_eq_true'] at h2
 refine Qfc (cap:=[]) hx h1 h2.1 h2.2 (by rw [hxs,List.append_nil]) hc ?_
 rintro e w' ⟨v,rfl,hv⟩
 exact h v w' hv
theorem Q4H {d:Nat}{x:Operand}{b o:Nat}{cs:List Value}{u:Value}(hS:St c w L) (ha:AtK c b o cs) (hx:ρ.ev x= .pointer (some ⟨b,o,none⟩)) (hu:cs[0]?=some u):gqv P ρ w ⟨none, .load1 d x⟩ u:=Q4W (j:=0) hS ha hx hu
theorem Q2D {d n:Nat}{x:Operand}{b o:Nat}{cs us:List Value}(hS:St c w L) (ha:AtK c b o cs) (hx:ρ.ev x= .pointer (some ⟨b,o,none⟩)) (hu:cs.take n=us) (hl:us.length=n):gqv P ρ w ⟨none, .loadn d n x⟩ (.agg ⟨us⟩):=Q8x (j:=0) hS ha hx hu hl
theorem Qf1 {n i b T:Nat}{x y:Operand}{cs us:List Value}(hS:St c w L) (hx:ρ.ev x= .pointer (some ⟨b,0,none⟩)) (hy:ρ.ev y= .agg ⟨us⟩) (hn:us.length=n) (hi:nth L i=some (blk b T cs)) (hc:cs.length=n) (h1:∀u∈us,oneC u=true)
 (h:∀w',St c w' (L.set i (blk b T us))→Q0 P l Q ρ w'):Q0 P (⟨none, .storen n x y⟩::l) Q ρ w:=
 Q1Q hS hx hy hn hi (by omega) h1 (by simp;omega) h
theorem Q5S:∀{a b:List GO}{Q:QT}{ρ:Env}{w:World},Q0 P a (Qk (Q0 P b Q) Q) ρ w→Q0 P (a++b) Q ρ w
 | [],_,_,_,_,h=> h
 | ⟨none,o⟩::a,b,Q,ρ,w,h=> by
   simp only [List.cons_append,Q0] at h ⊢
   exact Q5H (fun ρ w h=> Q5S h) (fun e ρ w hn h=> by cases e <;> first|exact h|exact absurd rfl hn) h
 | ⟨some (s,b'),o⟩::a,b,Q,ρ,w,h=> by
   simp only [List.cons_append,Q0] at h ⊢
   split
   · rename_i hw
     rw [if_pos hw] at h
     exact Q5H (fun ρ w h=> Q5S h) (fun e ρ w hn h=> by cases e <;> first|exact h|exact absurd rfl hn) h
   · rename_i hw
     rw [if_neg hw] at h
     exact Q5S h
theorem s_cut {l:List GO}(n:Nat) (J:Env→World→Prop) (ha:Q0 P (l.take n) (Qk J Q) ρ w) (hb:∀ρ w,J ρ w→Q0 P (l.drop n) Q ρ w):Q0 P l Q ρ w:=by
 rw [←List.take_append_drop n l]
 exact Q5S (Q6C (Q4Q hb fun _ _ _ h=> h) ha)
theorem Qf6 {d:Nat}{x:Operand}(hx:ρ.ev x=v) (hK:r.sl c v xs) (h:Q0 P l Q (upd ρ d (.int .i64 xs.length)) w):Q0 P (⟨none, .len d x⟩::l) Q ρ w:=by
 obtain ⟨css,h1,h2,h3⟩:=hK
 exact s_lenKn hx h1 h2.1 h
theorem QeY {d:Nat}{x:Operand}{lo hi mx:Option Operand}{l' h':Nat}(hx:ρ.ev x=v) (hK:r.sl c v xs) (hes:r.es=es) (hmx:mx=none) (hh:bnd ρ xs.length hi h') (hl:bnd ρ 0 lo l') (h2:h'≤xs.length) (h3:l'≤h')
 (h:∀v',r.sl c v' ((xs.take h').drop l')→Q0 P l Q (upd ρ d v') w):Q0 P (⟨none, .sub d es x lo hi mx⟩::l) Q ρ w:=by
 subst hes
 obtain ⟨css,h1,g2,g3⟩:=hK
 exact s_subK hx h1 hmx (by rw [g2.1];exact hh) hl (by rw [g2.1];exact h2) h3 fun v' hv=> h v' ⟨_,hv,g2.sub _ _,by simp;omega⟩
end
end

section
variable {P:Program}{T e:TypeId}{α β:Type}
def Cod.rep (c:Cod P T α) (r:Rep β) (hs:c.es=r.es) (h:∀(H:Heap) cs x,c.rd H cs x→∃y,r.R H (· < H.size) cs y):Cod P T β where
 es:=r.es
 rd:=fun H cs y=> r.R H (· < H.size) cs y
 size:=by rw [←hs];exact c.size
 len:=fun _ _ _ h=> r.len h
 stay:=fun H H' cs x hx hH=> r.turn hx fun b hb hlt=> by
  have:=hH b hlt
  refine ⟨?_,this⟩
  rcases Nat.lt_or_ge b H'.size with h|h
  · exact h
  · rw [Array.getElem?_eq_none h,Array.getElem?_eq_getElem hlt] at this;cases this
 open_:=fun enc w fuel cs y hy hfit=> by
  obtain ⟨x,hx⟩:=c.open_ enc w fuel cs y hy hfit
  exact h _ _ _ hx
theorem list_rd {r:Rep α}{n:Nat}{H:Heap}{cs:List Value}{xs:List α}(hn:r.es=n)
 (h:∃v css,cs=[v]∧SlR H n v (fun _=> True) css∧css.length=xs.length∧xs.length≤140737488355328∧∀(m:Nat) (x:α),xs[m]?=some x→∃d,css[m]?=some d∧r.R H (· < H.size) d x):r.list.R H (· < H.size) cs xs:=by
 obtain ⟨v,css,rfl,h1,h2,h3,h4⟩:=h
 subst hn
 exact ⟨v,rfl,css,SlR.mono h1 fun b hb _=> hb,⟨h2,h4⟩,h3⟩
def Cod.listOf (c:Cod P e β) (r:Rep β) (hs:c.es=r.es) (h:∀(H:Heap) cs x,c.rd H cs x→r.R H (· < H.size) cs x) (ht:P.underlying T=some (.slice e)) (h1:P.cellsOf T=1) (hby:decide (0 < P.bytesOf e)=true):Cod P T (List β):=
 Cod.rep (Cod.slice c ht h1 (by rw [hs];exact r.pos) hby) r.list rfl fun H cs x hx=> ⟨x,list_rd hs.symm (by
  obtain ⟨v,css,g1,g2,g3,g4,g5⟩:=hx
  exact ⟨v,css,g1,g2,g3,g4,fun m y hy=> by obtain ⟨d,g6,g7⟩:=g5 m y hy;exact ⟨d,g6,h _ _ _ g7⟩⟩)⟩
structure Cod.Of (P:Program) (T:TypeId){α:Type}(r:Rep α) where
 cod:Cod P T α
 es:cod.es=r.es
 rd:∀(H:Heap) cs x,cod.rd H cs x→r.R H (· < H.size) cs x
def Cod.of (c:Cod P T α) (r:Rep β) (hs:c.es=r.es) (h:∀(H:Heap) cs x,c.rd H cs x→∃y,r.R H (· < H.size) cs y):Cod.Of P T r:=⟨Cod.rep c r hs h,rfl,fun _ _ _ h=> h⟩
def Cod.Of.list {r:Rep α}(c:Cod.Of P e r) (ht:P.underlying T=some (.slice e)) (h1:P.cellsOf T=1) (hby:decide (0 < P.bytesOf e)=true):Cod.Of P T r.list:=⟨Cod.listOf c.cod r c.es c.rd ht h1 hby,rfl,fun _ _ _ h=> h⟩
def Cod.Of.int (ht:P.underlying T=some (.int .i64)) (hs:P.cellsOf T=1):Cod.Of P T intR:=Cod.of (Cod.int .i64 ht hs) intR rfl fun _ _ x h=> ⟨x,h.1⟩
def Cod.Of.ty {TL t0 t1:TypeId}(h0:fieldAt P T 0=some (0,1,t0)) (h1:fieldAt P T 1=some (1,1,t1)) (h2:fieldAt P T 2=some (2,1,TL)) (hi0:P.underlying t0=some (.int .i64)) (hi1:P.underlying t1=some (.int .i64)) (hT:P.cellsOf T=3) (hTL:P.underlying TL=some (.slice T)) (hby:decide (0 < P.bytesOf T)=true):Cod.Of P T tyR:=
 ⟨Cod.ty h0 h1 h2 hi0 hi1 hT hTL hby,rfl,fun _ _ _ h=> h⟩
theorem Cod.Of.top {r:Rep α}(c:Cod.Of P T r){w:World}{cs:List Value}{x:α}(h:c.cod.rd w.heap cs x):r.at (Cx.top w) cs x:=c.rd _ _ _ h
end
end Go.Lir
namespace Go.Lir
set_option linter.unusedVariables false
mutual
def Ty.size:Ty→Int→Int
 | .mk _ _ l,left=> Tys.size l (left - 1)
def Tys.size:List Ty→Int→Int
 | [],left=> left
 | x::l,left=> if 0≤left then Tys.size l (x.size left) else left
end
theorem Tys.size_neg:∀(l:List Ty){left:Int},left < 0→Tys.size l left=left
 | [],_,_=> by simp [Tys.size]
 | x::l,left,h=> by rw [Tys.size,if_neg (by omega)]
mutual
def Ty.deepB:Ty→Int→Bool
 | .mk _ _ l,left=> if left < 0 then false else Tys.deepB l (left - 1)
def Tys.deepB:List Ty→Int→Bool
 | [],_=> true
 | x::l,left=> x.deepB left && Tys.deepB l left
end
mutual
def Ty.depth:Ty→Int→Int
 | .mk _ _ l,most=> Tys.depth l most 0
def Tys.depth:List Ty→Int→Int→Int
 | [],_,n=> n
 | x::l,most,n=> if n≤most then (if most=0 then 1 else Tys.depth l most (if n < 1+x.depth (most - 1) then 1+x.depth (most - 1) else n)) else n
end
mutual
theorem Ty.depth_iff:∀(t:Ty){most:Int},0≤most→(t.depth most≤most↔t.deepB most=true)
 | .mk _ _ l,most,h=> by
   rw [Ty.depth,Ty.deepB,if_neg (by omega),Tys.depth_iff l h]
   exact ⟨fun h=> h.2,fun h2=> ⟨h,h2⟩⟩
theorem Tys.depth_iff:∀(l:List Ty){most n:Int},0≤most→(Tys.depth l most n≤most↔n≤most∧Tys.deepB l (most - 1)=true)
 | [],most,n,h=> by rw [Tys.depth,Tys.deepB];simp
 | x ::l,most,n,h=> by
   rw [Tys.depth,Tys.deepB]
   by_cases hn:n≤most
   · rw [if_pos hn]
     by_cases h0:most=0
     · rw [if_pos h0]
       have:x.deepB (most - 1)=false:=by obtain ⟨k,r,l2⟩:=x;rw [Ty.deepB,if_pos (by omega)]
       rw [this];simp;omega
     · rw [if_neg h0,Tys.depth_iff l h]
       have:=Ty.depth_iff x (most:=most - 1) (by omega)
       rw [Bool.and_eq_true,←this]
       constructor
       · rintro ⟨h1,h2⟩;split at h1 <;> exact ⟨by omega,by omega,h2⟩
       · rintro ⟨h1,h2,h3⟩;refine ⟨?_,h3⟩;split <;> omega
   · rw [if_neg hn]
     exact ⟨fun h=> absurd h hn,fun h=> h.1⟩
end
mutual
def Ty.same:Ty→Ty→Bool
 | .mk k r l, .mk k2 r2 l2=> decide (k=k2) && decide (r=r2) && Tys.same l l2
def Tys.same:List Ty→List Ty→Bool
 | [],[]=> true
 | x::l,y::m=> x.same y && Tys.same l m
 | [],_::_=> false
 | _::_,[]=> false
end
mutual
theorem Ty.same_iff:∀(t u:Ty),t.same u=true↔t=u
 | .mk k r l, .mk k2 r2 l2=> by
   rw [Ty.same,Bool.and_eq_true,Bool.and_eq_true,Tys.same_iff l l2]
   simp only [decide_eq_true_eq,Ty.mk.injEq,and_assoc]
theorem Tys.same_iff:∀(l m:List Ty),Tys.same l m=true↔l=m
 | [],[]=> by simp [Tys.same]
 | x::l,y::m=> by rw [Tys.same,Bool.and_eq_true,Ty.same_iff x y,Tys.same_iff l m];simp
 | [],_::_=> by simp [Tys.same]
 | _::_,[]=> by simp [Tys.same]
end
instance:DecidableEq Ty:=fun t u=> decidable_of_iff _ (Ty.same_iff t u)
mutual
def Ty.wrong (fields:Nat):Ty→Int→Int
 | .mk k r l,regs=>
   if k < 1∨4 < k then 3 else if k=1∧r≠0∨k≠3∧0 < l.length then 4 else if fields < l.length then 2 else if k≠1∧(r < 0∨regs≤r) then 1 else Tys.wrong fields l regs
def Tys.wrong (fields:Nat):List Ty→Int→Int
 | [],_=> 0
 | x::l,regs=> if x.wrong fields regs≠0 then x.wrong fields regs else Tys.wrong fields l regs
end
mutual
def Ty.ren:Ty→List Int→Option Ty
 | .mk k r l,to=> if k≠1∧(r < 0∨(to.length:Int)≤r∨to.getD r.toNat 0 < 0) then none else
   match Tys.ren l to with
   | none=> none
   | some m=> some (.mk k (if k≠1 then to.getD r.toNat 0 else r) m)
def Tys.ren:List Ty→List Int→Option (List Ty)
 | [],_=> some []
 | x ::l,to=> match x.ren to with
   | none=> none
   | some y=> match Tys.ren l to with
     | none=> none
     | some m=> some (y::m)
end
mutual
theorem Ty.ren_ren {f g h:List Int}(hfg:∀i:Nat,i < f.length→0≤f.getD i 0∧f.getD i 0 < g.length∧0≤g.getD (f.getD i 0).toNat 0∧i < h.length∧h.getD i 0=g.getD (f.getD i 0).toNat 0):
 ∀(t u:Ty),t.ren f=some u→∃v,u.ren g=some v∧t.ren h=some v
 | .mk k r l,u,ht=> by
   rw [Ty.ren] at ht
   split at ht
   · cases ht
   · rename_i hc
     cases hl:Tys.ren l f with
     | none=> rw [hl] at ht;cases ht
     | some m=>
       rw [hl] at ht
       simp only [Option.some.injEq] at ht
       obtain ⟨m2,h1,h2⟩:=Tys.ren_ren hfg l m hl
       subst ht
       by_cases hk:k=1
       · refine ⟨.mk k r m2,?_,?_⟩
         · rw [Ty.ren,if_neg (by omega),h1];simp [hk]
         · rw [Ty.ren,if_neg (by omega),h2];simp [hk]
       · have:=hfg r.toNat (by omega)
         refine ⟨.mk k (g.getD (f.getD r.toNat 0).toNat 0) m2,?_,?_⟩
         · rw [Ty.ren,if_pos hk,if_neg (by omega),h1];simp [hk]
         · rw [Ty.ren,if_neg (by omega),h2];simp only [if_pos hk,this.2.2.2.2]
theorem Tys.ren_ren {f g h:List Int}(hfg:∀i:Nat,i < f.length→0≤f.getD i 0∧f.getD i 0 < g.length∧0≤g.getD (f.getD i 0).toNat 0∧i < h.length∧h.getD i 0=g.getD (f.getD i 0).toNat 0):
 ∀(t u:List Ty),Tys.ren t f=some u→∃v,Tys.ren u g=some v∧Tys.ren t h=some v
 | [],u,ht=> by rw [Tys.ren] at ht;cases ht;exact ⟨[],by rw [Tys.ren],by rw [Tys.ren]⟩
 | x ::l,u,ht=> by
   rw [Tys.ren] at ht
   cases hx:x.ren f with
   | none=> rw [hx] at ht;cases ht
   | some y=>
     rw [hx] at ht
     cases hl:Tys.ren l f with
     | none=> rw [hl] at ht;cases ht
     | some m=>
       rw [hl] at ht
       simp only [Option.some.injEq] at ht
       subst ht
       obtain ⟨y2,a1,a2⟩:=Ty.ren_ren hfg x y hx
       obtain ⟨m2,b1,b2⟩:=Tys.ren_ren hfg l m hl
       exact ⟨y2::m2,by rw [Tys.ren,a1,b1],by rw [Tys.ren,a2,b2]⟩
end
mutual
theorem Ty.ren_wrong {fields:Nat}{f:List Int}(hf:∀i:Nat,i < f.length→0≤f.getD i 0∧f.getD i 0 < f.length):∀(t u:Ty),t.ren f=some u→u.wrong fields f.length=t.wrong fields f.length
 | .mk k r l,u,ht=> by
   rw [Ty.ren] at ht
   split at ht
   · cases ht
   · rename_i hc
     cases hl:Tys.ren l f with
     | none=> rw [hl] at ht;cases ht
     | some m=>
       rw [hl] at ht
       simp only [Option.some.injEq] at ht
       subst ht
       obtain ⟨h1,h2⟩:=Tys.ren_wrong (fields:=fields) hf l m hl
       by_cases hk:k=1
       · rw [Ty.wrong,Ty.wrong,h1,h2];simp [hk]
       · have:=hf r.toNat (by omega)
         rw [Ty.wrong,Ty.wrong,h1,h2]
         simp only [if_pos hk]
         rw [if_neg (show¬(k≠1∧(f.getD r.toNat 0 < 0∨(f.length:Int)≤f.getD r.toNat 0)) by omega),if_neg (show¬(k≠1∧(r < 0∨(f.length:Int)≤r)) by omega)]
         simp [hk]
theorem Tys.ren_wrong {fields:Nat}{f:List Int}(hf:∀i:Nat,i < f.length→0≤f.getD i 0∧f.getD i 0 < f.length):∀(t u:List Ty),Tys.ren t f=some u→u.length=t.length∧Tys.wrong fields u f.length=Tys.wrong fields t f.length
 | [],u,ht=> by rw [Tys.ren] at ht;cases ht;exact ⟨rfl,rfl⟩
 | x ::l,u,ht=> by
   rw [Tys.ren] at ht
   cases hx:x.ren f with
   | none=> rw [hx] at ht;cases ht
   | some y=>
     rw [hx] at ht
     cases hl:Tys.ren l f with
     | none=> rw [hl] at ht;cases ht
     | some m=>
       rw [hl] at ht
       simp only [Option.some.injEq] at ht
       subst ht
       obtain ⟨h1,h2⟩:=Tys.ren_wrong (fields:=fields) hf l m hl
       exact ⟨by simp [h1],by rw [Tys.wrong,Tys.wrong,Ty.ren_wrong hf x y hx,h2]⟩
end
mutual
theorem Ty.ren_none {fields:Nat}{f:List Int}(hf:∀i:Nat,i < f.length→0≤f.getD i 0):∀(t:Ty),t.ren f=none→t.wrong fields f.length≠0
 | .mk k r l,ht=> by
   rw [Ty.wrong]
   rw [Ty.ren] at ht
   split
   · decide
   · split
     · decide
     · split
       · decide
       · split
         · decide
         · rename_i h1 h2 h3 h4
           have hc:¬(k≠1∧(r < 0∨(f.length:Int)≤r∨f.getD r.toNat 0 < 0)):=by
            rintro ⟨a,b⟩
            have:=hf r.toNat
            omega
           rw [if_neg hc] at ht
           cases hl:Tys.ren l f with
           | none=> exact Tys.ren_none hf l hl
           | some m=> rw [hl] at ht;cases ht
theorem Tys.ren_none {fields:Nat}{f:List Int}(hf:∀i:Nat,i < f.length→0≤f.getD i 0):∀(t:List Ty),Tys.ren t f=none→Tys.wrong fields t f.length≠0
 | [],ht=> by rw [Tys.ren] at ht;cases ht
 | x ::l,ht=> by
   rw [Tys.ren] at ht
   rw [Tys.wrong]
   split
   · rename_i h;exact h
   · rename_i h
     cases hx:x.ren f with
     | none=> exact absurd hx (fun hx=> h (Ty.ren_none hf x hx))
     | some y=>
       rw [hx] at ht
       cases hl:Tys.ren l f with
       | none=> exact Tys.ren_none hf l hl
       | some m=> rw [hl] at ht;cases ht
end
mutual
theorem Ty.ren_deep {f:List Int}:∀(t u:Ty) (left:Int),t.ren f=some u→u.deepB left=t.deepB left
 | .mk k r l,u,left,ht=> by
   rw [Ty.ren] at ht
   split at ht
   · cases ht
   · cases hl:Tys.ren l f with
     | none=> rw [hl] at ht;cases ht
     | some m=>
       rw [hl] at ht
       simp only [Option.some.injEq] at ht
       subst ht
       rw [Ty.deepB,Ty.deepB,Tys.ren_deep l m (left - 1) hl]
theorem Tys.ren_deep {f:List Int}:∀(t u:List Ty) (left:Int),Tys.ren t f=some u→Tys.deepB u left=Tys.deepB t left
 | [],u,_,ht=> by rw [Tys.ren] at ht;cases ht;rfl
 | x ::l,u,left,ht=> by
   rw [Tys.ren] at ht
   cases hx:x.ren f with
   | none=> rw [hx] at ht;cases ht
   | some y=>
     rw [hx] at ht
     cases hl:Tys.ren l f with
     | none=> rw [hl] at ht;cases ht
     | some m=>
       rw [hl] at ht
       simp only [Option.some.injEq] at ht
       subst ht
       rw [Tys.deepB,Tys.deepB,Ty.ren_deep x y left hx,Tys.ren_deep l m left hl]
end
mutual
theorem Ty.ren_id {f:List Int}(hf:∀i:Nat,i < f.length→f.getD i 0=i):∀(t u:Ty),t.ren f=some u→u=t
 | .mk k r l,u,ht=> by
   rw [Ty.ren] at ht
   split at ht
   · cases ht
   · rename_i hc
     cases hl:Tys.ren l f with
     | none=> rw [hl] at ht;cases ht
     | some m=>
       rw [hl] at ht
       simp only [Option.some.injEq] at ht
       subst ht
       rw [Tys.ren_id hf l m hl]
       by_cases hk:k=1
       · simp [hk]
       · have:=hf r.toNat (by omega)
         rw [if_pos hk,this,Int.toNat_of_nonneg (by omega)]
theorem Tys.ren_id {f:List Int}(hf:∀i:Nat,i < f.length→f.getD i 0=i):∀(t u:List Ty),Tys.ren t f=some u→u=t
 | [],u,ht=> by rw [Tys.ren] at ht;cases ht;rfl
 | x ::l,u,ht=> by
   rw [Tys.ren] at ht
   cases hx:x.ren f with
   | none=> rw [hx] at ht;cases ht
   | some y=>
     rw [hx] at ht
     cases hl:Tys.ren l f with
     | none=> rw [hl] at ht;cases ht
     | some m=>
       rw [hl] at ht
       simp only [Option.some.injEq] at ht
       subst ht
       rw [Ty.ren_id hf x y hx,Tys.ren_id hf l m hl]
end
theorem Ty.ind {p:Ty→Prop}(h:∀k r l,(∀x∈l,p x)→p (.mk k r l)):∀t,p t
 | .mk k r l=> h k r l fun x hx=> Ty.ind h x
termination_by t=> SizeOf.sizeOf t
decreasing_by
 have:=List.sizeOf_lt_of_mem hx
 simp only [Ty.mk.sizeOf_spec]
 omega
mutual
theorem Ty.size_rng:∀(t:Ty){left:Int},0≤left→-1≤t.size left∧t.size left < left
 | .mk _ _ l,left,h=> by
   rw [Ty.size]
   have:=Tys.size_rng l (left:=left - 1) (by omega)
   omega
theorem Tys.size_rng:∀(l:List Ty){left:Int}, -1≤left→-1≤Tys.size l left∧Tys.size l left≤left
 | [],left,h=> by rw [Tys.size];omega
 | x ::l,left,h=> by
   rw [Tys.size]
   split
   · rename_i h0
     have h1:=Ty.size_rng x h0
     have h2:=Tys.size_rng l (left:=x.size left) h1.1
     omega
   · omega
end
mutual
theorem Ty.size_mono:∀(t:Ty){a b:Int},a≤b→-1≤a→t.size a≤t.size b
 | .mk _ _ l,a,b,h,ha=> by
   rw [Ty.size,Ty.size]
   by_cases h0:0≤a
   · exact Tys.size_mono l (by omega) (by omega)
   · rw [Tys.size_neg l (by omega)]
     by_cases hb:0≤b
     · have:=Tys.size_rng l (left:=b - 1) (by omega);omega
     · rw [Tys.size_neg l (by omega)];omega
theorem Tys.size_mono:∀(l:List Ty){a b:Int},a≤b→-1≤a→Tys.size l a≤Tys.size l b
 | [],a,b,h,_=> by rw [Tys.size,Tys.size];exact h
 | x ::l,a,b,h,ha=> by
   by_cases h0:0≤a
   · rw [Tys.size,Tys.size,if_pos h0,if_pos (by omega)]
     exact Tys.size_mono l (Ty.size_mono x h ha) (Ty.size_rng x h0).1
   · rw [Tys.size_neg _ (by omega)]
     have:=Tys.size_rng (x::l) (left:=b) (by omega);omega
end
theorem Tys.size_len:∀(l:List Ty){left:Int},0≤Tys.size l left→-1≤left→(l.length:Int)≤left∧∀x∈l,0≤x.size left
 | [],left,h,_=> by rw [Tys.size] at h;simp;exact h
 | x ::l,left,h,hl=> by
   rw [Tys.size] at h
   split at h
   · rename_i h0
     have h1:=Ty.size_rng x h0
     have h2:=Tys.size_len l h h1.1
     have h3:=Tys.size_rng l (left:=x.size left) h1.1
     refine ⟨by simp only [List.length_cons];omega,fun y hy=> ?_⟩
     rcases List.mem_cons.1 hy with rfl|hy
     · omega
     · exact Int.le_trans (h2.2 y hy) (Ty.size_mono y (by omega) h1.1)
   · omega
def Ty.fault (t:Ty) (regs:Int):Int:=if t.deepB 4=false then 19 else t.wrong 8 regs
mutual
theorem Ty.depth_rng:∀(t:Ty){most:Int},0≤most→0≤t.depth most∧t.depth most≤most+1
 | .mk _ _ l,most,h=> by
   rw [Ty.depth]
   exact Tys.depth_rng l h (by omega) (by omega)
theorem Tys.depth_rng:∀(l:List Ty){most n:Int},0≤most→0≤n→n≤most+1→0≤Tys.depth l most n∧Tys.depth l most n≤most+1
 | [],most,n,_,h1,h2=> by rw [Tys.depth];omega
 | x ::l,most,n,h,h1,h2=> by
   rw [Tys.depth]
   split
   · split
     · omega
     · have:=Ty.depth_rng x (most:=most - 1) (by omega)
       exact Tys.depth_rng l h (by split <;> omega) (by split <;> omega)
   · omega
end
inductive Ty.Short:Ty→Prop where
 | mk {k r:Int}{l:List Ty}:l.length≤100000→(∀x∈l,x.Short)→Ty.Short (.mk k r l)
theorem Ty.Short.parts {k r:Int}{l:List Ty}(h:(Ty.mk k r l).Short):l.length≤100000∧∀x∈l,x.Short:=by
 cases h with|mk h1 h2=> exact ⟨h1,h2⟩
theorem Ty.short_of_size:∀(t:Ty){n:Int},n≤100000→0≤n→0≤t.size n→t.Short:=by
 intro t
 induction t using Ty.ind with
 | h k r l ih=>
   intro n h1 h0 h
   rw [Ty.size] at h
   obtain ⟨h2,h3⟩:=Tys.size_len l h (by omega)
   refine .mk (by omega) fun x hx=> ?_
   have hp:=h3 x hx
   have hl:=List.length_pos_of_mem hx
   exact ih x hx (n:=n - 1) (by omega) (by omega) hp
def Ty.great (t:Ty):Bool:=decide (t.size 2000 < 0)
def Tys.great (l:List Ty):Bool:=decide (200 < l.length)||l.any Ty.great
theorem Ty.short_of_great {t:Ty}(h:t.great=false):t.Short:=Ty.short_of_size t (n:=2000) (by omega) (by omega) (by unfold Ty.great at h;simp at h;exact h)
theorem Tys.short_of_great {l:List Ty}(h:Tys.great l=false):l.length≤200∧∀x∈l,x.Short:=by
 unfold Tys.great at h
 rw [Bool.or_eq_false_iff] at h
 refine ⟨by have:=of_decide_eq_false h.1;omega,fun x hx=> Ty.short_of_great ?_⟩
 cases hg:x.great with
 | false=> rfl
 | true=> have:=List.any_eq_true.2 ⟨x,hx,hg⟩;rw [h.2] at this;cases this
end Go.Lir
namespace Go.Lir
structure Ins where
 op:Int
 a:Int
 b:Int
 c:Int
 k:Int
 n:Int
 regs:List Int
 args:List Int
structure To where
 block:Int
 regs:List Int
 args:List Int
structure Tail where
 op:Int
 a:Int
 yes:To
 no:To
 args:List Int
structure Block where
 regs:Int
 params:List Ty
 code:List Ins
 fin:Tail
deriving instance DecidableEq for Ins
deriving instance DecidableEq for To
deriving instance DecidableEq for Tail
deriving instance DecidableEq for Block
structure Fun where
 regs:Int
 params:List Ty
 results:List Ty
 blocks:List Block
structure Module where
 funcs:List Fun
deriving instance DecidableEq for Fun
deriving instance DecidableEq for Module

def Ins.Short (x:Ins):Prop:=x.regs.length≤100000∧x.args.length≤100000
def To.Short (x:To):Prop:=x.regs.length≤100000∧x.args.length≤100000
def Tail.Short (x:Tail):Prop:=x.yes.Short∧x.no.Short∧x.args.length≤100000
def Tys.Short (l:List Ty):Prop:=l.length≤100000∧∀t∈l,t.Short
def Block.Short (x:Block):Prop:=Tys.Short x.params∧x.code.length≤100000∧(∀i∈x.code,i.Short)∧x.fin.Short
def Fun.Short (x:Fun):Prop:=Tys.Short x.params∧Tys.Short x.results∧x.blocks.length≤100000∧∀b∈x.blocks,b.Short
def Module.Short (x:Module):Prop:=x.funcs.length≤100000∧∀f∈x.funcs,f.Short
theorem Tys.Short.of_great {l:List Ty}(h:Tys.great l=false):Tys.Short l:=by
 have:=Tys.short_of_great h
 exact ⟨by omega,this.2⟩
theorem Q7H {α:Type}{l:List α}{p:α→Prop}{j:Nat}{x:α}(h:∀y∈l.take j,p y) (hx:l[j]?=some x) (hp:p x):∀y∈l.take (j+1),p y:=by
 intro y hy
 rw [List.take_add_one,hx] at hy
 rcases List.mem_append.1 hy with hy|hy
 · exact h y hy
 · simp at hy;subst hy;exact hp
theorem Q7G {α:Type}{l:List α}{p:α→Prop}{j:Nat}(h:∀y∈l.take j,p y) (hj:l.length≤j):∀y∈l,p y:=by
 rw [List.take_of_length_le hj] at h;exact h
def insR:Rep Ins where
 es:=8
 pos:=by decide
 R:=fun H K cs x=>∃vr va,cs=[.int .i64 x.op, .int .i64 x.a, .int .i64 x.b, .int .i64 x.c, .int .i64 x.k, .int .i64 x.n,vr,va]∧intR.SR H K vr x.regs∧intR.SR H K va x.args
 len:=by rintro _ _ _ _ ⟨vr,va,rfl,_⟩;rfl
 one:=by
  rintro _ _ _ _ ⟨vr,va,rfl,h1,h2⟩ u hu
  simp at hu
  rcases hu with rfl|rfl|rfl|rfl|rfl|rfl|rfl|rfl <;> first|rfl|exact h1.oneC|exact h2.oneC
 turn:=by rintro _ _ _ _ _ _ ⟨vr,va,rfl,h1,h2⟩ hs;exact ⟨vr,va,rfl,h1.turn hs,h2.turn hs⟩
def toR:Rep To where
 es:=3
 pos:=by decide
 R:=fun H K cs x=>∃vr va,cs=[.int .i64 x.block,vr,va]∧intR.SR H K vr x.regs∧intR.SR H K va x.args
 len:=by rintro _ _ _ _ ⟨vr,va,rfl,_⟩;rfl
 one:=by
  rintro _ _ _ _ ⟨vr,va,rfl,h1,h2⟩ u hu
  simp at hu
  rcases hu with rfl|rfl|rfl <;> first|rfl|exact h1.oneC|exact h2.oneC
 turn:=by rintro _ _ _ _ _ _ ⟨vr,va,rfl,h1,h2⟩ hs;exact ⟨vr,va,rfl,h1.turn hs,h2.turn hs⟩
def endR:Rep Tail where
 es:=9
 pos:=by decide
 R:=fun H K cs x=>∃v1 v2 v3 v4 v5,cs=[.int .i64 x.op, .int .i64 x.a, .int .i64 x.yes.block,v1,v2, .int .i64 x.no.block,v3,v4,v5]∧intR.SR H K v1 x.yes.regs∧intR.SR H K v2 x.yes.args∧intR.SR H K v3 x.no.regs∧intR.SR H K v4 x.no.args∧intR.SR H K v5 x.args
 len:=by rintro _ _ _ _ ⟨_,_,_,_,_,rfl,_⟩;rfl
 one:=by
  rintro _ _ _ _ ⟨_,_,_,_,_,rfl,h1,h2,h3,h4,h5⟩ u hu
  simp at hu
  rcases hu with rfl|rfl|rfl|rfl|rfl|rfl|rfl|rfl|rfl <;> first|rfl|exact h1.oneC|exact h2.oneC|exact h3.oneC|exact h4.oneC|exact h5.oneC
 turn:=by rintro _ _ _ _ _ _ ⟨_,_,_,_,_,rfl,h1,h2,h3,h4,h5⟩ hs;exact ⟨_,_,_,_,_,rfl,h1.turn hs,h2.turn hs,h3.turn hs,h4.turn hs,h5.turn hs⟩
def blockR:Rep Block where
 es:=12
 pos:=by decide
 R:=fun H K cs x=>∃vp vc ce,cs= .int .i64 x.regs::vp::vc::ce∧tyR.SR H K vp x.params∧insR.SR H K vc x.code∧endR.R H K ce x.fin
 len:=by rintro _ _ _ _ ⟨_,_,ce,rfl,_,_,h⟩;have:=endR.len h;simp [this,endR]
 one:=by
  rintro _ _ _ _ ⟨_,_,ce,rfl,h1,h2,h3⟩ u hu
  simp at hu
  rcases hu with rfl|rfl|rfl|hu
  · rfl
  · exact h1.oneC
  · exact h2.oneC
  · exact endR.one h3 u hu
 turn:=by rintro _ _ _ _ _ _ ⟨_,_,_,rfl,h1,h2,h3⟩ hs;exact ⟨_,_,_,rfl,h1.turn hs,h2.turn hs,endR.turn h3 hs⟩
def funcR:Rep Fun where
 es:=4
 pos:=by decide
 R:=fun H K cs x=>∃vp vr vb,cs=[.int .i64 x.regs,vp,vr,vb]∧tyR.SR H K vp x.params∧tyR.SR H K vr x.results∧blockR.SR H K vb x.blocks
 len:=by rintro _ _ _ _ ⟨_,_,_,rfl,_⟩;rfl
 one:=by
  rintro _ _ _ _ ⟨_,_,_,rfl,h1,h2,h3⟩ u hu
  simp at hu
  rcases hu with rfl|rfl|rfl|rfl <;> first|rfl|exact h1.oneC|exact h2.oneC|exact h3.oneC
 turn:=by rintro _ _ _ _ _ _ ⟨_,_,_,rfl,h1,h2,h3⟩ hs;exact ⟨_,_,_,rfl,h1.turn hs,h2.turn hs,h3.turn hs⟩
def modR:Rep Module where
 es:=1
 pos:=by decide
 R:=fun H K cs x=>∃vf,cs=[vf]∧funcR.SR H K vf x.funcs
 len:=by rintro _ _ _ _ ⟨_,rfl,_⟩;rfl
 one:=by
  rintro _ _ _ _ ⟨_,rfl,h1⟩ u hu
  simp at hu;subst hu;exact h1.oneC
 turn:=by rintro _ _ _ _ _ _ ⟨_,rfl,h1⟩ hs;exact ⟨_,rfl,h1.turn hs⟩

theorem QZ {c:Cx}{cs:List Value}{x:Ins}(h:insR.at c cs x):∃vr va,cs=[.int .i64 x.op, .int .i64 x.a, .int .i64 x.b, .int .i64 x.c, .int .i64 x.k, .int .i64 x.n,vr,va]∧intR.sl c vr x.regs∧intR.sl c va x.args:=h
theorem Q6q {c:Cx}{cs:List Value}{x:To}(h:toR.at c cs x):∃vr va,cs=[.int .i64 x.block,vr,va]∧intR.sl c vr x.regs∧intR.sl c va x.args:=h
theorem Q22 {c:Cx}{cs:List Value}{x:Tail}(h:endR.at c cs x):∃v1 v2 v3 v4 v5,cs=[.int .i64 x.op, .int .i64 x.a, .int .i64 x.yes.block,v1,v2, .int .i64 x.no.block,v3,v4,v5]∧intR.sl c v1 x.yes.regs∧intR.sl c v2 x.yes.args∧intR.sl c v3 x.no.regs∧intR.sl c v4 x.no.args∧intR.sl c v5 x.args:=h
theorem Q1S {c:Cx}{cs:List Value}{x:Block}(h:blockR.at c cs x):∃vp vc v1 v2 v3 v4 v5,cs=[.int .i64 x.regs,vp,vc, .int .i64 x.fin.op, .int .i64 x.fin.a, .int .i64 x.fin.yes.block,v1,v2, .int .i64 x.fin.no.block,v3,v4,v5]∧tyR.sl c vp x.params∧insR.sl c vc x.code∧intR.sl c v1 x.fin.yes.regs∧intR.sl c v2 x.fin.yes.args∧intR.sl c v3 x.fin.no.regs∧intR.sl c v4 x.fin.no.args∧intR.sl c v5 x.fin.args:=by
 obtain ⟨vp,vc,ce,rfl,h1,h2,v1,v2,v3,v4,v5,rfl,h3⟩:=h
 exact ⟨vp,vc,v1,v2,v3,v4,v5,rfl,h1,h2,h3⟩
theorem QbL {c:Cx}{x:Block}{vp vc v1 v2 v3 v4 v5:Value}(h1:tyR.sl c vp x.params) (h2:insR.sl c vc x.code) (h3:intR.sl c v1 x.fin.yes.regs) (h4:intR.sl c v2 x.fin.yes.args) (h5:intR.sl c v3 x.fin.no.regs) (h6:intR.sl c v4 x.fin.no.args) (h7:intR.sl c v5 x.fin.args):
 blockR.at c [.int .i64 x.regs,vp,vc, .int .i64 x.fin.op, .int .i64 x.fin.a, .int .i64 x.fin.yes.block,v1,v2, .int .i64 x.fin.no.block,v3,v4,v5] x:=⟨vp,vc,_,rfl,h1,h2,v1,v2,v3,v4,v5,rfl,h3,h4,h5,h6,h7⟩
theorem QG {c:Cx}{cs:List Value}{x:Fun}(h:funcR.at c cs x):∃vp vr vb,cs=[.int .i64 x.regs,vp,vr,vb]∧tyR.sl c vp x.params∧tyR.sl c vr x.results∧blockR.sl c vb x.blocks:=h
theorem Q1e {c:Cx}{cs:List Value}{x:Module}(h:modR.at c cs x):∃vf,cs=[vf]∧funcR.sl c vf x.funcs:=h

section
variable {P:Program}{T:TypeId}
theorem Cod.Of.part {α:Type}{r:Rep α}(c:Cod.Of P T r){H:Heap}{cs:List Value}{x:α}(h:c.cod.rd H cs x):r.R H (· < H.size) cs x:=c.rd _ _ _ h
def Cod.Of.to {TI TL:TypeId}(ci:Cod.Of P TI intR) (cl:Cod.Of P TL intR.list) (h0:fieldAt P T 0=some (0,1,TI)) (h1:fieldAt P T 1=some (1,1,TL)) (h2:fieldAt P T 2=some (2,1,TL)) (hT:P.cellsOf T=3):Cod.Of P T toR:=
 Cod.of (Fld.cod (Fld.more ci.cod h0 (Fld.more cl.cod h1 (Fld.more cl.cod h2 Fld.none))) h0 3 hT) toR rfl fun H cs x h=> by
  obtain ⟨hl,g0,g1,g2,_⟩:=h
  match cs,hl with
  | [a,b,c],_=>
    have e0:[a]=[_]:=ci.part g0
    obtain ⟨v1,e1,s1⟩:=cl.part g1
    obtain ⟨v2,e2,s2⟩:=cl.part g2
    replace e1:[b]=[v1]:=e1
    replace e2:[c]=[v2]:=e2
    simp only [List.cons.injEq,and_true] at e0 e1 e2
    subst e0 e1 e2
    exact ⟨⟨x.1,x.2.1,x.2.2.1⟩,b,c,rfl,s1,s2⟩
def Cod.Of.ins {TI TL TN:TypeId}(ci:Cod.Of P TI intR) (cn:Cod.Of P TN intR) (cl:Cod.Of P TL intR.list) (h0:fieldAt P T 0=some (0,1,TI)) (h1:fieldAt P T 1=some (1,1,TI)) (h2:fieldAt P T 2=some (2,1,TI)) (h3:fieldAt P T 3=some (3,1,TI)) (h4:fieldAt P T 4=some (4,1,TI)) (h5:fieldAt P T 5=some (5,1,TN)) (h6:fieldAt P T 6=some (6,1,TL)) (h7:fieldAt P T 7=some (7,1,TL)) (hT:P.cellsOf T=8):Cod.Of P T insR:=
 Cod.of (Fld.cod (Fld.more ci.cod h0 (Fld.more ci.cod h1 (Fld.more ci.cod h2 (Fld.more ci.cod h3 (Fld.more ci.cod h4 (Fld.more cn.cod h5 (Fld.more cl.cod h6 (Fld.more cl.cod h7 Fld.none)))))))) h0 8 hT) insR rfl fun H cs x h=> by
  obtain ⟨hl,g0,g1,g2,g3,g4,g5,g6,g7,_⟩:=h
  match cs,hl with
  | [a0,a1,a2,a3,a4,a5,a6,a7],_=>
    have e0:[a0]=[_]:=ci.part g0
    have e1:[a1]=[_]:=ci.part g1
    have e2:[a2]=[_]:=ci.part g2
    have e3:[a3]=[_]:=ci.part g3
    have e4:[a4]=[_]:=ci.part g4
    have e5:[a5]=[_]:=cn.part g5
    obtain ⟨v1,e6,s1⟩:=cl.part g6
    obtain ⟨v2,e7,s2⟩:=cl.part g7
    replace e6:[a6]=[v1]:=e6
    replace e7:[a7]=[v2]:=e7
    simp only [List.cons.injEq,and_true] at e0 e1 e2 e3 e4 e5 e6 e7
    subst e0 e1 e2 e3 e4 e5 e6 e7
    exact ⟨⟨x.1,x.2.1,x.2.2.1,x.2.2.2.1,x.2.2.2.2.1,x.2.2.2.2.2.1,x.2.2.2.2.2.2.1,x.2.2.2.2.2.2.2.1⟩,_,_,rfl,s1,s2⟩
def Cod.Of.endp {TI TL TT:TypeId}(ci:Cod.Of P TI intR) (cl:Cod.Of P TL intR.list) (ct:Cod.Of P TT toR) (h0:fieldAt P T 0=some (0,1,TI)) (h1:fieldAt P T 1=some (1,1,TI)) (h2:fieldAt P T 2=some (2,3,TT)) (h3:fieldAt P T 3=some (5,3,TT)) (h4:fieldAt P T 4=some (8,1,TL)) (hT:P.cellsOf T=9):Cod.Of P T endR:=
 Cod.of (Fld.cod (Fld.more ci.cod h0 (Fld.more ci.cod h1 (Fld.more ct.cod h2 (Fld.more ct.cod h3 (Fld.more cl.cod h4 Fld.none))))) h0 9 hT) endR rfl fun H cs x h=> by
  obtain ⟨hl,g0,g1,g2,g3,g4,_⟩:=h
  match cs,hl with
  | [a0,a1,a2,a3,a4,a5,a6,a7,a8],_=>
    have e0:[a0]=[_]:=ci.part g0
    have e1:[a1]=[_]:=ci.part g1
    obtain ⟨v1,v2,e2,s1,s2⟩:=ct.part g2
    obtain ⟨v3,v4,e3,s3,s4⟩:=ct.part g3
    obtain ⟨v5,e4,s5⟩:=cl.part g4
    replace e2:[a2,a3,a4]=_:=e2
    replace e3:[a5,a6,a7]=_:=e3
    replace e4:[a8]=_:=e4
    simp only [List.cons.injEq,and_true] at e0 e1 e2 e3 e4
    obtain ⟨q2,q3,q4⟩:=e2
    obtain ⟨q5,q6,q7⟩:=e3
    subst e0 e1 q2 q3 q4 q5 q6 q7 e4
    exact ⟨⟨x.1,x.2.1,x.2.2.1,x.2.2.2.1,x.2.2.2.2.1⟩,_,_,_,_,_,rfl,s1,s2,s3,s4,s5⟩
def Cod.Of.block {TI TL TC TE:TypeId}(ci:Cod.Of P TI intR) (cl:Cod.Of P TL tyR.list) (cc:Cod.Of P TC insR.list) (ce:Cod.Of P TE endR) (h0:fieldAt P T 0=some (0,1,TI)) (h1:fieldAt P T 1=some (1,1,TL)) (h2:fieldAt P T 2=some (2,1,TC)) (h3:fieldAt P T 3=some (3,9,TE)) (hT:P.cellsOf T=12):Cod.Of P T blockR:=
 Cod.of (Fld.cod (Fld.more ci.cod h0 (Fld.more cl.cod h1 (Fld.more cc.cod h2 (Fld.more ce.cod h3 Fld.none)))) h0 12 hT) blockR rfl fun H cs x h=> by
  obtain ⟨hl,g0,g1,g2,g3,_⟩:=h
  match cs,hl with
  | [a0,a1,a2,a3,a4,a5,a6,a7,a8,a9,a10,a11],_=>
    have e0:[a0]=[_]:=ci.part g0
    obtain ⟨v1,e1,s1⟩:=cl.part g1
    obtain ⟨v2,e2,s2⟩:=cc.part g2
    have s3:=ce.part g3
    replace e1:[a1]=_:=e1
    replace e2:[a2]=_:=e2
    replace s3:endR.R H (· < H.size) [a3,a4,a5,a6,a7,a8,a9,a10,a11] x.2.2.2.1:=s3
    simp only [List.cons.injEq,and_true] at e0 e1 e2
    subst e0 e1 e2
    exact ⟨⟨x.1,x.2.1,x.2.2.1,x.2.2.2.1⟩,_,_,_,rfl,s1,s2,s3⟩
def Cod.Of.func {TI TL TB:TypeId}(ci:Cod.Of P TI intR) (cl:Cod.Of P TL tyR.list) (cb:Cod.Of P TB blockR.list) (h0:fieldAt P T 0=some (0,1,TI)) (h1:fieldAt P T 1=some (1,1,TL)) (h2:fieldAt P T 2=some (2,1,TL)) (h3:fieldAt P T 3=some (3,1,TB)) (hT:P.cellsOf T=4):Cod.Of P T funcR:=
 Cod.of (Fld.cod (Fld.more ci.cod h0 (Fld.more cl.cod h1 (Fld.more cl.cod h2 (Fld.more cb.cod h3 Fld.none)))) h0 4 hT) funcR rfl fun H cs x h=> by
  obtain ⟨hl,g0,g1,g2,g3,_⟩:=h
  match cs,hl with
  | [a0,a1,a2,a3],_=>
    have e0:[a0]=[_]:=ci.part g0
    obtain ⟨v1,e1,s1⟩:=cl.part g1
    obtain ⟨v2,e2,s2⟩:=cl.part g2
    obtain ⟨v3,e3,s3⟩:=cb.part g3
    replace e1:[a1]=_:=e1
    replace e2:[a2]=_:=e2
    replace e3:[a3]=_:=e3
    simp only [List.cons.injEq,and_true] at e0 e1 e2 e3
    subst e0 e1 e2 e3
    exact ⟨⟨x.1,x.2.1,x.2.2.1,x.2.2.2.1⟩,_,_,_,rfl,s1,s2,s3⟩
def Cod.Of.mod {TF:TypeId}(cf:Cod.Of P TF funcR.list) (h0:fieldAt P T 0=some (0,1,TF)) (hT:P.cellsOf T=1):Cod.Of P T modR:=
 Cod.of (Fld.cod (Fld.more cf.cod h0 Fld.none) h0 1 hT) modR rfl fun H cs x h=> by
  obtain ⟨hl,g0,_⟩:=h
  match cs,hl with
  | [a0],_=>
    obtain ⟨v1,e1,s1⟩:=cf.part g0
    replace e1:[a0]=_:=e1
    simp only [List.cons.injEq,and_true] at e1
    subst e1
    exact ⟨⟨x.1⟩,_,rfl,s1⟩
end
end Go.Lir
namespace Go.Proofs.YteflkifmgnpbhaaGreat
open Go.Lir
def cInt:Cod.Of Tryz.prog 3 intR:=Cod.Of.int (by kernel_rfl) (by kernel_rfl)
def cLong:Cod.Of Tryz.prog 2 intR:=Cod.Of.int (by kernel_rfl) (by kernel_rfl)
def cInts:Cod.Of Tryz.prog 68 intR.list:=Cod.Of.list cInt (by kernel_rfl) (by kernel_rfl) (by kernel_rfl)
def cTy:Cod.Of Tryz.prog 115 tyR:=Cod.Of.ty (TL:=86) (t0:=3) (t1:=3) (by kernel_rfl) (by kernel_rfl) (by kernel_rfl) (by kernel_rfl) (by kernel_rfl) (by kernel_rfl) (by kernel_rfl) (by kernel_rfl)
def cTys:Cod.Of Tryz.prog 86 tyR.list:=Cod.Of.list cTy (by kernel_rfl) (by kernel_rfl) (by kernel_rfl)
def cIns:Cod.Of Tryz.prog 84 insR:=Cod.Of.ins cInt cLong cInts (by kernel_rfl) (by kernel_rfl) (by kernel_rfl) (by kernel_rfl) (by kernel_rfl) (by kernel_rfl) (by kernel_rfl) (by kernel_rfl) (by kernel_rfl)
def cInss:Cod.Of Tryz.prog 85 insR.list:=Cod.Of.list cIns (by kernel_rfl) (by kernel_rfl) (by kernel_rfl)
def cTo:Cod.Of Tryz.prog 88 toR:=Cod.Of.to cInt cInts (by kernel_rfl) (by kernel_rfl) (by kernel_rfl) (by kernel_rfl)
def cEnd:Cod.Of Tryz.prog 90 endR:=Cod.Of.endp cInt cInts cTo (by kernel_rfl) (by kernel_rfl) (by kernel_rfl) (by kernel_rfl) (by kernel_rfl) (by kernel_rfl)
def cBlock:Cod.Of Tryz.prog 92 blockR:=Cod.Of.block cInt cTys cInss cEnd (by kernel_rfl) (by kernel_rfl) (by kernel_rfl) (by kernel_rfl) (by kernel_rfl)
def cBlocks:Cod.Of Tryz.prog 93 blockR.list:=Cod.Of.list cBlock (by kernel_rfl) (by kernel_rfl) (by kernel_rfl)
def cFunc:Cod.Of Tryz.prog 95 funcR:=Cod.Of.func cInt cTys cBlocks (by kernel_rfl) (by kernel_rfl) (by kernel_rfl) (by kernel_rfl) (by kernel_rfl)
def cFuncs:Cod.Of Tryz.prog 22 funcR.list:=Cod.Of.list cFunc (by kernel_rfl) (by kernel_rfl) (by kernel_rfl)
def cMod:Cod.Of Tryz.prog 24 modR:=Cod.Of.mod cFuncs (by kernel_rfl) (by kernel_rfl)
end Go.Proofs.YteflkifmgnpbhaaGreat
namespace Go.Lir
def QaR (b:UInt8):List Value:=[.int .u8 (b.toNat:Int)]
def u8R:Rep UInt8:=Rep.lit (fun b=> .int .u8 (b.toNat:Int)) (fun _=> rfl)
theorem u8R_out {c:Cx}{cs:List Value}{b:UInt8}(h:u8R.at c cs b):cs=[.int .u8 (b.toNat:Int)]:=h
theorem u8R_ls {c:Cx}(l:List UInt8):u8R.ls c (l.map QaR) l:=⟨by simp,fun m x hx=> ⟨QaR x,by rw [List.getElem?_map,hx];rfl,rfl⟩⟩
theorem Rep.LR.u8 {r:Rep UInt8}{H:Heap}{K:Nat→Prop}{css:List (List Value)}{l:List UInt8}(hr:r=u8R) (h:r.LR H K css l):css=l.map QaR:=by
 subst hr
 apply List.ext_getElem?
 intro m
 rw [List.getElem?_map]
 rcases Nat.lt_or_ge m l.length with hm|hm
 · obtain ⟨d,h4,h5⟩:=h.2 m _ (List.getElem?_eq_getElem hm)
   have h5:d=[_]:=h5
   rw [h4,List.getElem?_eq_getElem hm,h5];rfl
 · rw [List.getElem?_eq_none (by rw [h.1];exact hm),List.getElem?_eq_none hm];rfl
section
variable {P:Program}{l:List GO}{Q:QT}{ρ:Env}{w:World}{c:Cx}{L:List Res}{v:Value}
theorem QbT (s:List UInt8):(s.map QaR).flatten=s.map fun b=> Value.int .u8 (b.toNat:Int):=by
 induction s with
 | nil=> rfl
 | cons b s ih=> simp [QaR,ih]
theorem s_bytes {d src dst e Ty:Nat}{x:Operand}{s:ByteArray}(hs:P.underlying src=some .string) (hd:P.underlying dst=some (.slice e)) (he:P.underlying e=some (.int .u8)) (hS:St c w L) (hx:ρ.ev x= .string s)
 (h : ∀ v' w', St c w' (sl e 1 v' (s.data.toList.map QaR) :: L) → Q0 P l Q (upd ρ d v') w') : Q0 P (⟨none, .raw ⟨some d, .convert src dst x, Ty, "", #[], none⟩⟩ :: l) Q ρ w := by
 have hr:=run_bytes_of_string (P:=P) w src dst e s hs hd he
 have hge:=grownCap_ge w s.size 0 e
 generalize hcap:grownCap w s.size 0 e=cap at hr hge
 refine QJ (v:= .slice (some ⟨w.heap.size,0,none⟩) s.size cap) (w':=w.drew.alloc (.cells (bytesRow s cap) e ((bytesRow s cap).size,(bytesRow s cap).size+1))) ?_ ?_
 · simp only [execOp,hx,Sem.run_bind,hr,Result.andThen_ok,Sem.run_pure]
 · have hsz:s.data.size=s.size:=rfl
   have hrow:(bytesRow s cap).size=cap:=by simp [bytesRow];omega
   refine h _ _ (hS.new (F':=(· =w.heap.size)) ?_ (((Fr.refl NF w).drew').then0 (Q48 w.drew _)) fun b hb=> by omega)
   refine ⟨by intro q hq;obtain ⟨b,_,rfl⟩:=List.mem_map.1 hq;rfl, .inr ⟨w.heap.size,0,cap,(bytesRow s cap).toList,?_,?_,?_,?_,?_,fun _=> Iff.rfl⟩⟩
   · have:(List.map QaR s.data.toList).length=s.size:=by rw [List.length_map,Array.length_toList];rfl
     rw [this]
   · have:(List.map QaR s.data.toList).length=s.size:=by rw [List.length_map,Array.length_toList];rfl
     rw [this];exact hge
   · refine ⟨((bytesRow s cap).size,(bytesRow s cap).size+1),?_,?_⟩
     · show (w.heap.push _)[w.heap.size]?=_
       rw [Array.getElem?_push_size]
     · refine ⟨fun i h1 h2=> ?_,by simp⟩
       simp only [Array.length_toList] at*;omega
   · simp [hrow]
   · intro i hi
     rw [QbT]
     simp only [List.length_map,Array.length_toList,Nat.mul_one] at hi
     rw [Nat.zero_add,Array.getElem?_toList,bytesRow_at s cap i hi,List.getElem?_map,Array.getElem?_toList,Array.getElem?_eq_getElem hi];rfl
theorem s_idxv {d T Ty e n:Nat}{x y:Operand}{k:IntKind}{m:Int}{cs:List Value}{u:Value}(hT:P.underlying T=some (.array n e)) (he:Q3R P e=true) (hsz:Q34 P e=some 1) (hx:ρ.ev x= .agg ⟨cs⟩) (hy:ρ.ev y= .int k m) (h0:0≤m) (hm:m < n) (hu:cs[m.toNat]?=some u)
 (h : Q0 P l Q (upd ρ d u) w) : Q0 P (⟨none, .raw ⟨some d, .index T x y, Ty, "", #[], none⟩⟩ :: l) Q ρ w := by
 refine QJ (v:=u) (w':=w) ?_ h
 simp only [execOp,hx,hy,Instr.index,Sem.run_bind,asIntOf,Sem.run_pure,Result.andThen_ok,Q7 P T _ w hT]
 rw [if_pos ⟨h0,hm⟩]
 simp only [Sem.run_bind,QN P e 1 w hsz,Result.andThen_ok,Nat.mul_one,Qdd P e ⟨cs⟩ _ _ w he (by simpa using hu)]
end
end Go.Lir
namespace Go.Lir


def Fins (P:Program) (f:FuncId) (args:List Value) (w:World) (S T:Value→World→Prop):Prop:=
 Calls P f ⟨args⟩ w fun e w'=> (∃v,e= .returned v∧S v w')∨(∃v,e= .panicked [{v:=v,recovered:=false}]∧T v w')

theorem Fins.mono {P:Program}{f:FuncId}{args:List Value}{w:World}{S S' T T':Value→World→Prop}(h:Fins P f args w S T) (hs:∀v w',S v w'→S' v w') (ht:∀v w',T v w'→T' v w'):Fins P f args w S' T':=
 Calls.mono h fun _ _ h=> h.elim (fun ⟨v,he,hv⟩=> .inl ⟨v,he,hs _ _ hv⟩) (fun ⟨v,he,hv⟩=> .inr ⟨v,he,ht _ _ hv⟩)
theorem Rets.ends {P:Program}{f:FuncId}{args:List Value}{w:World}{S T:Value→World→Prop}(h:Rets P f args w S):Fins P f args w S T:=
 Calls.mono h fun _ _ h=> .inl h
section
variable {P:Program}{l:List GO}{Q:QT}{ρ:Env}{w:World}
theorem Qdc {d:Nat}{f:FuncId}{xs:List Operand}{args:List Value}{S T:Value→World→Prop}(hxs:xs.map ρ.ev=args) (hc:Fins P f args w S T)
 (hp:∀v w',T v w'→Q (.panic [{v:=v,recovered:=false}]) ρ w') (h:∀v w',S v w'→Q0 P l Q (upd ρ d v) w'):Q0 P (⟨none, .call (some d) f xs⟩::l) Q ρ w:=by
 subst hxs
 refine Calls.mono hc fun e w' h'=> ?_
 rcases h' with ⟨v,he,hs⟩|⟨v,he,hs⟩
 · subst he;exact h v w' hs
 · subst he;exact hp v w' hs
theorem s_endsv {d:Nat}{x:Operand}{os:List Operand}{f:FuncId}{args cap:List Value}{S T:Value→World→Prop}(hx:ρ.ev x= .func (.func f) #[] ⟨cap⟩) (hf:Q3G P f=true) (hxs:os.map ρ.ev++cap=args) (hc:Fins P f args w S T)
 (hp:∀v w',T v w'→Q (.panic [{v:=v,recovered:=false}]) ρ w') (h:∀v w',S v w'→Q0 P l Q (upd ρ d v) w'):Q0 P (⟨none, .callv (some d) x os⟩::l) Q ρ w:=by
 unfold Q3G at hf
 rw [Option.any_eq_true] at hf
 obtain ⟨fn,h1,h2⟩:=hf
 rw [Bool.and_eq_true,Bool.not_eq_true'] at h2
 refine Qfc hx h1 h2.1 h2.2 hxs hc ?_
 intro e w' h'
 rcases h' with ⟨v,rfl,hs⟩|⟨v,rfl,hs⟩
 · exact h v w' hs
 · exact hp v w' hs
theorem Q2 {K:KT}{ch:List PanicEntry}(h:Q (.panic ch) ρ w):Qk K Q (.panic ch) ρ w:=h
theorem Q3 {id:Nat}{ch:List PanicEntry}(h:Q (.panic ch) ρ w):Qh id Q (.panic ch) ρ w:=h
theorem Qc {rs:List ResultVar}{R:Ending→World→Prop}{ch:List PanicEntry}(h:R (.panicked ch) w):retQ P rs R (.panic ch) ρ w:=h
theorem Q9T {d : Option Nat} {x : Operand} {Ty T : TypeId} {v : Value} (hx : ρ.ev x = .iface T v) (h : Q (.panic [{ v := .iface T v, recovered := false }]) ρ w) : Q0 P (⟨none, .raw ⟨d, .panic x, Ty, "", #[], none⟩⟩ :: l) Q ρ w := by
 refine (?_:Q4q P _ ρ w _ Q)
 unfold Q4q
 have e : (execOp ρ.ev ⟨d, .panic x, Ty, "", #[], none⟩).run P w = .halt (.panic (.iface T v)) w := by
  simp [execOp,Instr.panic,hx,goPanic,Sem.run]
 rw [e];exact h
theorem Q7x {d:Nat}{x:Operand}{Ty T xT:TypeId}{v:Value}{D:TypeDesc}(hd:P.underlying T=some D) (hi:∀m,D≠ .interface m) (hx:ρ.ev x= .iface T v)
 (h : Q0 P l Q (upd ρ d (.tuple #[v, .bool true])) w) : Q0 P (⟨none, .raw ⟨some d, .typeAssert x xT T true, Ty, "", #[], none⟩⟩ :: l) Q ρ w := by
 refine QJ (v:= .tuple #[v, .bool true]) (w':=w) ?_ h
 simp only [execOp,Instr.typeAssert,hx,Sem.run_bind,Q7 P T D w hd,Result.andThen_ok]
 cases D <;> first|(exact absurd rfl (hi _))|simp
theorem Qcb {d:Nat}{x:Operand}{Ty T T' xT:TypeId}{v z:Value}{D:TypeDesc}(hd:P.underlying T=some D) (hi:∀m,D≠ .interface m) (hz:Q9C P T=some z) (hx:ρ.ev x= .iface T' v) (hne:T'≠T)
 (h : Q0 P l Q (upd ρ d (.tuple #[z, .bool false])) w) : Q0 P (⟨none, .raw ⟨some d, .typeAssert x xT T true, Ty, "", #[], none⟩⟩ :: l) Q ρ w := by
 refine QJ (v:= .tuple #[z, .bool false]) (w':=w) ?_ h
 simp only [execOp,Instr.typeAssert,hx,Sem.run_bind,Q7 P T D w hd,Result.andThen_ok]
 cases D <;> first|(exact absurd rfl (hi _))|simp [hne,Q1f P T z w hz]
end


inductive LSp where
 | dfr (d:Option Nat) (x:Operand)
 | rcv (d:Option Nat)

inductive LD where
 | pl (c:LC)
 | seq (a b:LD)
 | sp (l1:List GO) (o:LSp) (l2:List GO)

def spOf (o:Oper):Option LSp:=match o.guard,o.op with
 | none, .defer ⟨.value x,xs,_⟩=> if xs.size=0 then some (.dfr o.dst x) else none
 | none, .call ⟨.builtin .recover,xs,_⟩=> if xs.size=0 then some (.rcv o.dst) else none
 | _,_=> none
def Qeg:Code→Bool
 | .seq a b=> Qeg a||Qeg b
 | .region _ ops _=> ops.toList.any fun o=> (spOf o).isSome
 | _=> false
def Q6t:List Oper→Option (List Oper×Oper×LSp×List Oper)
 | []=> none
 | o::r=> match spOf o with
   | some s=> some ([],o,s,r)
   | none=> (Q6t r).map fun p=> (o::p.1,p.2)
def lowD (P:Program) (n:Nat):Code→LD
 | .seq a b=> if Qeg a||Qeg b then .seq (lowD P n a) (lowD P n b) else .pl (Q2S P n (.seq a b))
 | .region id ops false=> match Q6t ops.toList with
   | some (l1,_,s,l2)=> if ops.toList.all (okG n ops) then .sp (l1.map (Q2s P ops)) s (l2.map (Q2s P ops)) else .pl .bad
   | none=> .pl (Q2S P n (.region id ops false))
 | c=> .pl (Q2S P n c)
def Qea (P:Program) (fn:Func):Option LD:=fn.body.map (lowD P fn.ntmps)

def LD.wpD (P:Program):LD→(List Deferred→QT)→List Deferred→Env→World→Prop
 | .pl c,Q,ds,ρ,w=> c.wp P (Q ds) ρ w
 | .seq a b,Q,ds,ρ,w=> a.wpD P (fun ds'=> Qk (b.wpD P Q ds') (Q ds')) ds ρ w
 | .sp l1 (.dfr d x) l2,Q,ds,ρ,w=> Q0 P l1 (Qk (fun ρ w=>∃f cap,ρ.ev x= .func (.func f) #[] cap∧Q0 P l2 (Q (⟨.fn (.func f) cap,#[]⟩::ds)) (updo ρ d undef) w) (Q ds)) ρ w
 | _,_,_,_,_=> False

theorem Q4m:∀{ops l1 l2:List Oper}{o:Oper}{s:LSp},Q6t ops=some (l1,o,s,l2)→ops=l1++o::l2∧spOf o=some s
 | [],_,_,_,_,h=> by simp [Q6t] at h
 | o'::r,l1,l2,o,s,h=> by
   rw [Q6t] at h
   cases hs:spOf o' with
   | some s'=>
     simp only [hs,Option.some.injEq,Prod.mk.injEq] at h
     obtain ⟨rfl,rfl,rfl,rfl⟩:=h
     exact ⟨rfl,hs⟩
   | none=>
     simp only [hs,Option.map_eq_some_iff] at h
     obtain ⟨⟨a,b,c,d⟩,h1,h2⟩:=h
     simp only [Prod.mk.injEq] at h2
     obtain ⟨rfl,rfl,rfl,rfl⟩:=h2
     obtain ⟨h3,h4⟩:=Q4m h1
     exact ⟨by rw [h3];rfl,h4⟩

theorem Q6p {P:Program}{o:Oper}{a:Act}{K K':Act→World→Prop}{Q Q':Exit→Act→World→Prop}(hk:∀a w,K a w→K' a w) (hp:∀ch a w,Q (.panic ch) a w→Q' (.panic ch) a w) (ho:LetsOut Q→LetsOut Q') (r:Result Next) (h:o.upon P a K Q r):o.upon P a K' Q' r:=by
 cases r with
 | ok n w=>
   cases n <;> first|exact hk _ _ h|exact h|skip
   · refine Calls.mono h fun e w h=> ?_
     cases e <;> first|exact hk _ _ h|exact hp _ _ _ h|exact ho h
   · exact Rows.mono h fun v w h=> hk _ _ h
 | halt x w=> cases x <;> first|exact hp _ _ _ h|exact h

theorem Q3k {P:Program}{ops:Array Oper}{Q:Exit→Act→World→Prop}{l2:List Nat}:∀(l1:List Nat) (a:Act) (w:World),
 wpOps P ops (Exit.then (wpOps P ops Q l2) Q) l1 a w→wpOps P ops Q (l1++l2) a w
 | [],a,w,h=> h
 | i ::l1,a,w,h=> by
   simp only [List.cons_append,wpOps] at h ⊢
   cases ho:ops[i]? with
   | none=> simp only [ho] at h ⊢;exact Q3k l1 a w h
   | some o=>
     simp only [ho] at h ⊢
     split
     · rename_i hw
       rw [if_pos hw] at h
       rcases h with h|⟨h1,h2⟩
       · exact .inl (Q6p (fun a w h=> Q3k l1 a w h) (fun ch a w h=> h) (fun h=> h) _ h)
       · exact .inr ⟨h1,h2⟩
     · rename_i hw
       rw [if_neg hw] at h
       exact Q3k l1 _ w h
theorem Q30 {P:Program}{ops:Array Oper}{Q Q':Exit→Act→World→Prop}(hq:∀e a w,Q e a w→Q' e a w):∀(l:List Nat) (a:Act) (w:World),wpOps P ops Q l a w→wpOps P ops Q' l a w
 | [],a,w,h=> hq _ _ _ h
 | i ::l,a,w,h=> by
   simp only [wpOps] at h ⊢
   have ho':LetsOut Q→LetsOut Q':=fun ⟨a,w,h⟩=> ⟨a,w,hq _ _ _ h⟩
   cases ho:ops[i]? with
   | none=> simp only [ho] at h ⊢;exact Q30 hq l a w h
   | some o=>
     simp only [ho] at h ⊢
     split
     · rename_i hw
       rw [if_pos hw] at h
       rcases h with h|⟨h1,h2⟩
       · exact .inl (Q6p (fun a w h=> Q30 hq l a w h) (fun ch a w h=> hq _ _ _ h) ho' _ h)
       · exact .inr ⟨h1,ho' h2⟩
     · rename_i hw
       rw [if_neg hw] at h
       exact Q30 hq l _ w h

def liftD (n:Nat) (Q:List Deferred→QT):Exit→Act→World→Prop:=fun e a w=>∃ds,Qbm n ds (Q ds) e a w

theorem Qbc {α:Type}{ops l1 l2:List α}{o:α}(h:ops=l1++o::l2):List.range ops.length=List.range l1.length++l1.length::(List.range l2.length).map (l1.length+1+·):=by
 subst h
 apply List.ext_getElem
 · simp
 · intro i h1 h2
   rw [List.getElem_range]
   rcases Nat.lt_trichotomy i l1.length with h|h|h
   · rw [List.getElem_append_left (by simpa using h),List.getElem_range]
   · subst h;rw [List.getElem_append_right (by simp)];simp
   · rw [List.getElem_append_right (by simpa using Nat.le_of_lt h)]
     simp only [List.length_range]
     rw [List.getElem_cons]
     rw [dif_neg (by omega),List.getElem_map,List.getElem_range];omega
theorem QeP {α β:Type}{ops l1 l2:List α}{o:α}(g:α→β) (h:ops=l1++o::l2):((List.range l2.length).map (l1.length+1+·)).filterMap (fun i=> (ops[i]?).map g)=l2.map g:=by
 subst h
 rw [List.filterMap_map]
 have:∀i,((fun i=> ((l1++o::l2)[i]?).map g)∘(l1.length+1+·)) i=(l2[i]?).map g:=by
  intro i
  simp only [Function.comp]
  rw [List.getElem?_append_right (by omega)]
  rw [show l1.length+1+i - l1.length=i+1 by omega,List.getElem?_cons_succ]
 rw [Q2j (fun i _=> this i)]
 have:=Q36 g l2 []
 simpa [List.range_eq_range'] using this
theorem Qd4 {α β:Type}{ops l1 l2:List α}{o:α}(g:α→β) (h:ops=l1++o::l2):(List.range l1.length).filterMap (fun i=> (ops[i]?).map g)=l1.map g:=by
 subst h
 have:∀i∈List.range l1.length,((l1++o::l2)[i]?).map g=(l1[i]?).map g:=by
  intro i hi
  rw [List.getElem?_append_left (by simpa using hi)]
 rw [Q2j this]
 have:=Q36 g l1 []
 simpa [List.range_eq_range'] using this

theorem Qeb {P:Program}{n:Nat}:∀(c:Code) (Q:List Deferred→QT) (ds:List Deferred) (ρ:Env) (a:Act) (w:World),Rel n ρ ds a→(lowD P n c).wpD P Q ds ρ w→c.wp P (liftD n Q) a w:=by
 have hpl:∀(c:Code) (Q:List Deferred→QT) (ds:List Deferred) (ρ:Env) (a:Act) (w:World),Rel n ρ ds a→(Q2S P n c).wp P (Q ds) ρ w→c.wp P (liftD n Q) a w:=fun c Q ds ρ a w hr h=>
  wp_mono (Q4w c _ ρ a w hr h) fun e a w h=> ⟨ds,h⟩
 intro c
 induction c with
 | seq x y ihx ihy=>
   intro Q ds ρ a w hr h
   rw [lowD] at h
   split at h
   · refine wp_seq ?_
     refine wp_mono (ihx _ ds ρ a w hr h) ?_
     rintro e a w ⟨ds',ρ',hr',h'⟩
     cases e with
     | normal=> exact ihy _ ds' ρ' a w hr' h'
     | _=> exact ⟨ds',ρ',hr',h'⟩
   · exact hpl _ Q ds ρ a w hr h
 | region id ops draw=>
   intro Q ds ρ a w hr h
   cases draw with
   | true=> exact hpl _ Q ds ρ a w hr h
   | false =>
     rw [lowD] at h
     split at h
     · rename_i l1 o s l2 hs
       obtain ⟨hops,hsp⟩:=Q4m hs
       split at h
       · rename_i hall
         have hok:∀i o,ops[i]?=some o→okG n ops o=true:=fun i o hi=> List.all_eq_true.1 hall o (by rw [←Array.getElem?_toList] at hi;exact List.mem_of_getElem? hi)
         have hsz:ops.size=ops.toList.length:=by simp
         have hgm:∀(l:List Nat),(l.filterMap fun i=> (ops[i]?).map (Q2s P ops))=l.filterMap fun i=> (ops.toList[i]?).map (Q2s P ops):=fun l=> by simp
         have hlen:ops.toList.length=l1.length+1+l2.length:=by rw [hops];simp;omega
         have hrange:∀(l:List Nat),(∀i∈l,i < ops.size)→∀i∈l,∃o,ops[i]?=some o∧okG n ops o=true:=fun l hl i hi=> ⟨ops[i]'(hl i hi),by simp [hl i hi],hok i _ (by simp [hl i hi])⟩
         refine wp_region ?_
         rw [hsz,Qbc hops]
         refine Q3k _ _ _ ?_
         cases s with
         | rcv d=> exact h.elim
         | dfr d x=>
           have h1:=Q4T (Q:=Qk (fun ρ w=>∃f cap,ρ.ev x= .func (.func f) #[] cap∧Q0 P (l2.map (Q2s P ops)) (Q (⟨.fn (.func f) cap,#[]⟩::ds)) (updo ρ d undef) w) (Q ds)) (ds:=ds) (List.range l1.length) ρ a w hr
            (hrange _ fun i hi=> by rw [hsz,hlen];have:=List.mem_range.1 hi;omega) (by rw [hgm,Qd4 _ hops];exact h)
           refine Q30 ?_ _ _ _ h1
           rintro e a w ⟨ρ',hr',h'⟩
           cases e with
           | normal=>
             obtain ⟨f,cap,hf,h'⟩:=h'
             have hoi:ops[l1.length]?=some o:=by rw [←Array.getElem?_toList,hops];simp
             refine (?_:wpOps P ops _ (l1.length::_) a w)
             simp only [wpOps,hoi]
             have hg:o.guard=none∧∃ts,∃xs:Array Operand,o.op= .defer ⟨.value x,xs,ts⟩∧xs.size=0∧o.dst=d:=by
              unfold spOf at hsp
              split at hsp
              · rename_i x' xs' ts' hg ho
                split at hsp
                · rename_i hx0
                  simp only [Option.some.injEq,LSp.dfr.injEq] at hsp
                  obtain ⟨g1,g2⟩:=hsp
                  subst g2
                  exact ⟨hg,ts',xs',ho,hx0,g1⟩
                · cases hsp
              · split at hsp <;> cases hsp
              · cases hsp
             obtain ⟨hgd,ts,xs,hop,hxs,hd⟩:=hg
             have hxs':xs=#[]:=Array.eq_empty_of_size_eq_zero hxs
             subst hxs'
             rw [if_pos (by simp [Region.wanted,hgd])]
             refine .inl ?_
             unfold Oper.wp
             have e1:(execOp a.eval o).run P w= .ok (.defer ⟨.fn (.func f) cap,#[]⟩) w:=by
              simp [execOp,hop,resolve,hr'.ev,hf,Deferred.ofValue]
             rw [e1,Oper.upon_defer,hd]
             have hdn:=Q6D (hok _ o hoi)
             rw [hd] at hdn
             have hr2:Rel n (updo ρ' d undef) (⟨.fn (.func f) cap,#[]⟩::ds) ({a with defers:=⟨.fn (.func f) cap,#[]⟩::a.defers}.put d undef):=by
              have hr3:Rel n ρ' (⟨.fn (.func f) cap,#[]⟩::ds) {a with defers:=⟨.fn (.func f) cap,#[]⟩::a.defers}:=⟨hr'.1,hr'.2.1,by simp [hr'.2.2]⟩
              exact hr3.put d undef hdn
             have h2:=Q4T (Q:=Q (⟨.fn (.func f) cap,#[]⟩::ds)) (ds:=⟨.fn (.func f) cap,#[]⟩::ds) _ _ _ w hr2
              (hrange ((List.range l2.length).map (l1.length+1+·)) fun i hi=> by rw [hsz,hlen];rw [List.mem_map] at hi;obtain ⟨j,hj,rfl⟩:=hi;have:=List.mem_range.1 hj;omega) (by rw [hgm,QeP _ hops];exact h')
             exact Q30 (fun e a w h=> ⟨_,h⟩) _ _ _ h2
           | _=> exact ⟨ds,ρ',hr',h'⟩
       · exact h.elim
     · exact hpl _ Q ds ρ a w hr h
 | _=> exact hpl _

def Q3b (P:Program) (rs:List ResultVar) (ρ:Env) (R:Ending→World→Prop):List Deferred→FrameMode→World→Prop
 | [], .returning,w=> Qt P w ρ rs [] fun v=> R (.returned v) w
 | [], .panicking chain,w=> R (.panicked chain) w
 | [], .run,_=> False
 | d ::ds,u,w=> u≠ .run∧∃f cap,d=⟨.fn (.func f) cap,#[]⟩∧Q3G P f=true∧CallsD P f cap u w fun
     | .returned _,u',w'=> Q3b P rs ρ R ds (settle u') w'
     | .panicked chain,u',w'=> Q3b P rs ρ R ds (raised u' chain) w'
     | .outgrown,_,w'=> R .outgrown w'
def retD (P:Program) (rs:List ResultVar) (R:Ending→World→Prop) (ds:List Deferred):QT
 | .normal,ρ,w| .ret,ρ,w=> Q3b P rs ρ R ds .returning w
 | .panic chain,ρ,w=> Q3b P rs ρ R ds (.panicking chain) w
 | .outgrown,_,w=> R .outgrown w
 | _,_,_=> False

theorem Q3a {P:Program}{fn:Func}{tmps:Array Value}{ρ:Env}{R:Ending→World→Prop}(ht:∀i,tmps.getD i undef=ρ i):∀(ds:List Deferred) (u:FrameMode) (w:World),
 Q3b P fn.results.toList ρ R ds u w→Leaves P fn tmps R ds u w
 | [], .returning,w,h=> by obtain ⟨v,h1,h2⟩:=Q2o ht h;exact ⟨v,h1,h2⟩
 | [], .panicking _,w,h=> h
 | [], .run,w,h=> h.elim
 | d ::ds,u,w,h=> by
   obtain ⟨hu,f,cap,rfl,hf,hc⟩:=h
   unfold Q3G at hf
   rw [Option.any_eq_true] at hf
   obtain ⟨fn',h1,h2⟩:=hf
   rw [Bool.and_eq_true,Bool.not_eq_true'] at h2
   refine leaves_cons hu (f:=f) (args:=cap) ?_ ?_
   · simp only [invoke]
     rw [Q77 _ h1 h2.1 h2.2];simp
   · refine hc.mono ?_
     intro e u' w' h
     cases e with
     | returned v=> exact Q3a ht ds _ _ h
     | panicked ch=> exact Q3a ht ds _ _ h
     | outgrown=> exact h

theorem QaG {P:Program}{f:FuncId}{fn:Func}{args:List Value}{w:World}{R:Ending→World→Prop}{ld:LD}{rs:List ResultVar}
 (hf:P.funcs[f]?=some fn) (hl:Qea P fn=some ld) (hrs:fn.results.toList=rs) (hn:Nat.ble args.length fn.ntmps=true)
 (h:ld.wpD P (retD P rs R) [] (Q6m args) w):Calls P f ⟨args⟩ w R:=by
 unfold Qea at hl
 cases hb:fn.body with
 | none=> simp [hb] at hl
 | some c=>
   simp only [hb,Option.map_some,Option.some.injEq] at hl
   subst hl hrs
   refine calls_of_wp_defers hf hb ?_
   have hn':args.length≤fn.ntmps:=Nat.le_of_ble_eq_true hn
   refine wp_mono (Qeb c _ [] _ _ _ (Q75 ⟨args⟩ fn.ntmps hn' []) h) ?_
   rintro e a w ⟨ds,ρ,hr,h⟩
   have hd:=hr.2.2
   cases e with
   | normal=> exact (hd ▸ Q3a hr.2.1 ds _ _ h:Leaves P fn a.tmps R a.defers .returning w)
   | ret=> exact (hd ▸ Q3a hr.2.1 ds _ _ h:Leaves P fn a.tmps R a.defers .returning w)
   | panic ch=> exact (hd ▸ Q3a hr.2.1 ds _ _ h:Leaves P fn a.tmps R a.defers (.panicking ch) w)
   | outgrown=> exact h
   | exit=> exact h
   | goto=> exact h


def recM:FrameMode→Value×FrameMode
 | .panicking ({v:=v,recovered:=false,goexit:=false}::older)=> (v, .panicking ({v:=v,recovered:=true}::older))
 | u=> (.nilIface,u)

def LD.wpR (P:Program):LD→(FrameMode→QT)→FrameMode→Env→World→Prop
 | .pl c,Q,u,ρ,w=> c.wp P (Q u) ρ w
 | .seq a b,Q,u,ρ,w=> a.wpR P (fun u'=> Qk (b.wpR P Q u') (Q u')) u ρ w
 | .sp l1 (.rcv d) l2,Q,u,ρ,w=> Q0 P l1 (Qk (fun ρ w=> Q0 P l2 (Q (recM u).2) (updo ρ d (recM u).1) w) (Q u)) ρ w
 | _,_,_,_,_=> False

def liftR (n:Nat) (c₀:Frame) (cs:List Frame) (Q:FrameMode→QT):Exit→Act→List Frame→World→Prop:=
 fun e a cs' w=>∃u,cs'={c₀ with mode:=u}::cs∧Qbm n [] (Q u) e a w

theorem Qcf (c₀:Frame) (cs:List Frame) (u:FrameMode):(match recoverD ({c₀ with mode:=u}::cs) with
 | some (v,cs')=> (v,cs')
 | none=> (.nilIface,{c₀ with mode:=u}::cs))=((recM u).1,{c₀ with mode:=(recM u).2}::cs):=by
 unfold recoverD recM
 dsimp only
 split <;> rename_i h
 · split at h
   · rename_i hm
     simp only [Option.some.injEq,Prod.mk.injEq] at h
     obtain ⟨rfl,rfl⟩:=h
     rfl
   · cases h
 · split at h
   · cases h
   · rename_i hm
     split
     · rename_i hm'
       exact absurd rfl (hm _ _)
     · rfl

theorem Q8a {P:Program}{n:Nat}{ops:Array Oper}{Q:QT}{QS:Exit→Act→List Frame→World→Prop}{cs:List Frame}{rest:List Nat}(hn:∀a w,Qbm n [] Q .normal a w→wpOpsS P ops QS rest a cs w) (hq:∀e a w,e≠ .normal→Qbm n [] Q e a w→QS e a cs w):∀(l:List Nat) (ρ:Env) (a:Act) (w:World),Rel n ρ [] a→
 (∀i∈l,∃o,ops[i]?=some o∧okG n ops o=true)→
 Q0 P (l.filterMap fun i=> (ops[i]?).map (Q2s P ops)) Q ρ w→wpOpsS P ops QS (l++rest) a cs w:=by
 intro l
 induction l with
 | nil=> intro ρ a w hr _ h;exact hn a w ⟨ρ,hr,h⟩
 | cons i l ih=>
   intro ρ a w hr hok h
   obtain ⟨o,ho,hg⟩:=hok i (by simp)
   have hok':∀i∈l,∃o,ops[i]?=some o∧okG n ops o=true:=fun i hi=> hok i (by simp [hi])
   simp only [List.filterMap_cons,ho,Option.map_some] at h
   have h':=Q76 hr hg _ Q w h
   simp only [List.cons_append,wpOpsS,ho]
   split
   · rename_i hw
     rw [if_pos hw] at h'
     have h1:=Qba (ds:=[]) hr (Q6D hg) (Q89 h')
     have h2:=Q6p (Q':=fun e a' w'=> QS e a' cs w') (K':=fun a' w'=> wpOpsS P ops QS (l++rest) a' cs w') (fun a w ⟨ρ,hr,h⟩=> ih ρ a w hr hok' h) (fun ch a w h=> hq _ a w (by simp) h) (fun ⟨a,w,h⟩=> ⟨a,w,hq _ a w (by simp) h⟩) _ h1
     split
     · rename_i w' hrun
       rw [hrun] at h2
       exact h2.elim
     · rename_i r hrun
       exact h2
   · rename_i hw
     rw [if_neg hw] at h'
     exact ih _ _ w (hr.put _ _ (Q6D hg)) hok' h'

theorem Qe9 {P :Program}{n:Nat}{c₀:Frame}{cs:List Frame}:∀(c:Code) (Q:FrameMode→QT) (u:FrameMode) (ρ:Env) (a:Act) (w:World),Rel n ρ [] a→(lowD P n c).wpR P Q u ρ w→c.wpS P (liftR n c₀ cs Q) a ({c₀ with mode:=u}::cs) w:=by
 have hpl:∀(c:Code) (Q:FrameMode→QT) (u:FrameMode) (ρ:Env) (a:Act) (w:World),Rel n ρ [] a→(Q2S P n c).wp P (Q u) ρ w→c.wpS P (liftR n c₀ cs Q) a ({c₀ with mode:=u}::cs) w:=fun c Q u ρ a w hr h=>
  wpS_of_wp (wp_mono (Q4w c _ ρ a w hr h) fun e a w h=> ⟨u,rfl,h⟩)
 intro c
 induction c with
 | seq x y ihx ihy=>
   intro Q u ρ a w hr h
   rw [lowD] at h
   split at h
   · refine wpS_seq ?_
     intro b k hb hro
     obtain ⟨e,a',cs',w',⟨u',rfl,ρ',hr',h'⟩,harr⟩:=ihx _ u ρ a w hr h b k hb hro
     refine ⟨e,a',_,w',?_,harr⟩
     cases e with
     | normal=> exact ihy _ u' ρ' a' w' hr' h'
     | _=> exact ⟨u',rfl,ρ',hr',h'⟩
   · exact hpl _ Q u ρ a w hr h
 | region id ops draw=>
   intro Q u ρ a w hr h
   cases draw with
   | true=> exact hpl _ Q u ρ a w hr h
   | false =>
     rw [lowD] at h
     split at h
     · rename_i l1 o s l2 hs
       obtain ⟨hops,hsp⟩:=Q4m hs
       split at h
       · rename_i hall
         have hok:∀i o,ops[i]?=some o→okG n ops o=true:=fun i o hi=> List.all_eq_true.1 hall o (by rw [←Array.getElem?_toList] at hi;exact List.mem_of_getElem? hi)
         have hsz:ops.size=ops.toList.length:=by simp
         have hgm:∀(l:List Nat),(l.filterMap fun i=> (ops[i]?).map (Q2s P ops))=l.filterMap fun i=> (ops.toList[i]?).map (Q2s P ops):=fun l=> by simp
         have hlen:ops.toList.length=l1.length+1+l2.length:=by rw [hops];simp;omega
         have hrange:∀(l:List Nat),(∀i∈l,i < ops.size)→∀i∈l,∃o,ops[i]?=some o∧okG n ops o=true:=fun l hl i hi=> ⟨ops[i]'(hl i hi),by simp [hl i hi],hok i _ (by simp [hl i hi])⟩
         refine wpS_region ?_
         rw [hsz,Qbc hops]
         cases s with
         | dfr d x=> exact h.elim
         | rcv d=>
           refine Q8a (Q:=Qk (fun ρ w=> Q0 P (l2.map (Q2s P ops)) (Q (recM u).2) (updo ρ d (recM u).1) w) (Q u)) ?_ ?_ (List.range l1.length) ρ a w hr
            (hrange _ fun i hi=> by rw [hsz,hlen];have:=List.mem_range.1 hi;omega) (by rw [hgm,Qd4 _ hops];exact h)
           · rintro a w ⟨ρ',hr',h'⟩
             have hoi:ops[l1.length]?=some o:=by rw [←Array.getElem?_toList,hops];simp
             have hg:o.guard=none∧∃ts,∃xs:Array Operand,o.op= .call ⟨.builtin .recover,xs,ts⟩∧xs.size=0∧o.dst=d:=by
              unfold spOf at hsp
              split at hsp
              · split at hsp <;> cases hsp
              · rename_i xs' ts' hg ho
                split at hsp
                · rename_i hx0
                  simp only [Option.some.injEq,LSp.rcv.injEq] at hsp
                  exact ⟨hg,ts',xs',ho,hx0,hsp⟩
                · cases hsp
              · cases hsp
             obtain ⟨hgd,ts,xs,hop,hxs,hd⟩:=hg
             have hxs':xs=#[]:=Array.eq_empty_of_size_eq_zero hxs
             subst hxs'
             refine (?_:wpOpsS P ops _ (l1.length::_) a _ w)
             simp only [wpOpsS,hoi]
             rw [if_pos (by simp [Region.wanted,hgd])]
             have e1:(execOp a.eval o).run P w= .ok .recover w:=by
              simp [execOp,hop,resolve,invoke,builtin]
             rw [e1]
             have hdn:=Q6D (hok _ o hoi)
             rw [hd] at hdn
             have hr2:Rel n (updo ρ' d (recM u).1) [] (a.put d (recM u).1):=hr'.put d _ hdn
             have hrec:=Qcf c₀ cs u
             have key:wpOpsS P ops (liftR n c₀ cs Q) ((List.range l2.length).map (l1.length+1+·)) (a.put o.dst (recM u).1) ({c₀ with mode:=(recM u).2}::cs) w:=by
              rw [hd]
              have h2:=Q8a (Q:=Q (recM u).2) (QS:=liftR n c₀ cs Q) (cs:={c₀ with mode:=(recM u).2}::cs) (rest:=[]) (fun a w h=> ⟨_,rfl,h⟩) (fun e a w _ h=> ⟨_,rfl,h⟩) ((List.range l2.length).map (l1.length+1+·)) _ _ w hr2
               (hrange _ fun i hi=> by rw [hsz,hlen];rw [List.mem_map] at hi;obtain ⟨j,hj,rfl⟩:=hi;have:=List.mem_range.1 hj;omega) (by rw [hgm,QeP _ hops];exact h')
              rwa [List.append_nil] at h2
             dsimp only
             split
             · rename_i v cs' hrd
               rw [hrd] at hrec
               simp only [Prod.mk.injEq] at hrec
               rw [hrec.1,hrec.2];exact key
             · rename_i hrd
               rw [hrd] at hrec
               simp only [Prod.mk.injEq] at hrec
               have e3:({c₀ with mode:=u}::cs:List Frame)={c₀ with mode:=(recM u).2}::cs:=hrec.2
               rw [hrec.1,e3];exact key
           · rintro e a w he ⟨ρ',hr',h'⟩
             refine ⟨u,rfl,ρ',hr',?_⟩
             cases e <;> first|exact h'|exact absurd rfl he
       · exact h.elim
     · exact hpl _ Q u ρ a w hr h
 | _=> exact hpl _

def retR (P:Program) (rs:List ResultVar) (R:Ending→FrameMode→World→Prop) (u:FrameMode):QT
 | .normal,ρ,w| .ret,ρ,w=> Qt P w ρ rs [] fun v=> R (.returned v) u w
 | .panic chain,_,w=> R (.panicked chain) u w
 | .outgrown,_,w=> R .outgrown u w
 | _,_,_=> False

theorem Q9a {P:Program}{f:FuncId}{fn:Func}{args:List Value}{u:FrameMode}{w:World}{R:Ending→FrameMode→World→Prop}{ld:LD}{rs:List ResultVar}
 (hf:P.funcs[f]?=some fn) (hl:Qea P fn=some ld) (hrs:fn.results.toList=rs) (hn:Nat.ble args.length fn.ntmps=true)
 (h:ld.wpR P (retR P rs R) u (Q6m args) w):CallsD P f ⟨args⟩ u w R:=by
 unfold Qea at hl
 cases hb:fn.body with
 | none=> simp [hb] at hl
 | some c=>
   simp only [hb,Option.map_some,Option.some.injEq] at hl
   subst hl hrs
   refine callsD_of_wpS hf hb ?_
   intro c₀ cs hu
   have hn':args.length≤fn.ntmps:=Nat.le_of_ble_eq_true hn
   have h1:=Qe9 (c₀:=c₀) (cs:=cs) c _ u _ _ w (Q75 ⟨args⟩ fn.ntmps hn' []) h
   have hc:({c₀ with mode:=u}:Frame)=c₀:=by subst hu;rfl
   rw [hc] at h1
   intro b k hb hro
   obtain ⟨e,a,cs',w',⟨u',rfl,ρ,hr,h2⟩,harr⟩:=h1 b k hb hro
   refine ⟨e,a,_,w',?_,harr⟩
   cases e with
   | normal=> obtain ⟨v,h3,h4⟩:=Q2o hr.2.1 h2;exact ⟨hr.2.2,u',rfl,v,h3,h4⟩
   | ret=> obtain ⟨v,h3,h4⟩:=Q2o hr.2.1 h2;exact ⟨hr.2.2,u',rfl,v,h3,h4⟩
   | panic ch=> exact ⟨hr.2.2,u',rfl,h2⟩
   | outgrown=> exact ⟨u',h2⟩
   | exit=> exact h2
   | goto=> exact h2

section
variable {P:Program}{ρ:Env}{w:World}{u:FrameMode}{ds:List Deferred}
theorem d_pl {c:LC}{Q:List Deferred→QT}(h:c.wp P (Q ds) ρ w):(LD.pl c).wpD P Q ds ρ w:=h
theorem QaD {a b:LD}{Q:List Deferred→QT}(h:a.wpD P (fun ds'=> Qk (b.wpD P Q ds') (Q ds')) ds ρ w):(LD.seq a b).wpD P Q ds ρ w:=h
theorem d_sp {l1 l2:List GO}{d:Option Nat}{x:Operand}{Q:List Deferred→QT}(h:Q0 P l1 (Qk (fun ρ w=>∃f cap,ρ.ev x= .func (.func f) #[] cap∧Q0 P l2 (Q (⟨.fn (.func f) cap,#[]⟩::ds)) (updo ρ d undef) w) (Q ds)) ρ w):(LD.sp l1 (.dfr d x) l2).wpD P Q ds ρ w:=h
theorem r_pl {c:LC}{Q:FrameMode→QT}(h:c.wp P (Q u) ρ w):(LD.pl c).wpR P Q u ρ w:=h
theorem Qcg {a b:LD}{Q:FrameMode→QT}(h:a.wpR P (fun u'=> Qk (b.wpR P Q u') (Q u')) u ρ w):(LD.seq a b).wpR P Q u ρ w:=h
theorem r_sp {l1 l2:List GO}{d:Option Nat}{Q:FrameMode→QT}(h:Q0 P l1 (Qk (fun ρ w=> Q0 P l2 (Q (recM u).2) (updo ρ d (recM u).1) w) (Q u)) ρ w):(LD.sp l1 (.rcv d) l2).wpR P Q u ρ w:=h
def Defs (P:Program) (f:FuncId) (args:List Value) (u:FrameMode) (w:World) (S:FrameMode→World→Prop):Prop:=
 CallsD P f ⟨args⟩ u w fun e u' w'=> (∃v,e= .returned v)∧S u' w'
theorem Q2t {rs:List ResultVar}{R:Ending→World→Prop}{f:FuncId}{cap:List Value}{S:FrameMode→World→Prop}(hu:u≠ .run) (hf:Q3G P f=true) (hc:Defs P f cap u w S)
 (h:∀u' w',S u' w'→Q3b P rs ρ R [] (settle u') w'):Q3b P rs ρ R [⟨.fn (.func f) ⟨cap⟩,#[]⟩] u w:=by
 refine ⟨hu,f,⟨cap⟩,rfl,hf,hc.mono ?_⟩
 rintro e u' w' ⟨⟨v,rfl⟩,hs⟩
 exact h u' w' hs
theorem q_retD {rs:List ResultVar}{R:Ending→World→Prop}(h:Q3b P rs ρ R ds .returning w):retD P rs R ds .ret ρ w:=h
theorem q_endD {rs:List ResultVar}{R:Ending→World→Prop}(h:Q3b P rs ρ R ds .returning w):retD P rs R ds .normal ρ w:=h
theorem Qdk {rs:List ResultVar}{R:Ending→World→Prop}{ch:List PanicEntry}(h:Q3b P rs ρ R ds (.panicking ch) w):retD P rs R ds (.panic ch) ρ w:=h
theorem Q1Z {rs:List ResultVar}{R:Ending→World→Prop}(h:retQ P rs R .ret ρ w):Q3b P rs ρ R [] .returning w:=h
theorem q_endR {rs:List ResultVar}{R:Ending→FrameMode→World→Prop}(h:retQ P rs (fun e w=> R e u w) .normal ρ w):retR P rs R u .normal ρ w:=h
end
end Go.Lir
namespace Go.Lir
section
variable {P:Program}{l:List GO}{Q:QT}{ρ:Env}{w:World}{f:FuncId}{S T:Value→World→Prop}

theorem s_ends_1 {d:Nat}{u0:Value}{x0:Operand}(h0:ρ.ev x0=u0) (hc:Fins P f [u0] w S T) (hp:∀v w',T v w'→Q (.panic [{v:=v,recovered:=false}]) ρ w') (h:∀v w',S v w'→Q0 P l Q (upd ρ d v) w'):Q0 P (⟨none, .call (some d) f [x0]⟩::l) Q ρ w:=by
 subst h0;exact Qdc (by rfl) hc hp h
theorem s_ends_2 {d:Nat}{u0 u1:Value}{x0 x1:Operand}(h0:ρ.ev x0=u0) (h1:ρ.ev x1=u1) (hc:Fins P f [u0,u1] w S T) (hp:∀v w',T v w'→Q (.panic [{v:=v,recovered:=false}]) ρ w') (h:∀v w',S v w'→Q0 P l Q (upd ρ d v) w'):Q0 P (⟨none, .call (some d) f [x0,x1]⟩::l) Q ρ w:=by
 subst h0 h1;exact Qdc (by rfl) hc hp h
theorem s_ends_3 {d:Nat}{u0 u1 u2:Value}{x0 x1 x2:Operand}(h0:ρ.ev x0=u0) (h1:ρ.ev x1=u1) (h2:ρ.ev x2=u2) (hc:Fins P f [u0,u1,u2] w S T) (hp:∀v w',T v w'→Q (.panic [{v:=v,recovered:=false}]) ρ w') (h:∀v w',S v w'→Q0 P l Q (upd ρ d v) w'):Q0 P (⟨none, .call (some d) f [x0,x1,x2]⟩::l) Q ρ w:=by
 subst h0 h1 h2;exact Qdc (by rfl) hc hp h
theorem s_ends_4 {d:Nat}{u0 u1 u2 u3:Value}{x0 x1 x2 x3:Operand}(h0:ρ.ev x0=u0) (h1:ρ.ev x1=u1) (h2:ρ.ev x2=u2) (h3:ρ.ev x3=u3) (hc:Fins P f [u0,u1,u2,u3] w S T) (hp:∀v w',T v w'→Q (.panic [{v:=v,recovered:=false}]) ρ w') (h:∀v w',S v w'→Q0 P l Q (upd ρ d v) w'):Q0 P (⟨none, .call (some d) f [x0,x1,x2,x3]⟩::l) Q ρ w:=by
 subst h0 h1 h2 h3;exact Qdc (by rfl) hc hp h
theorem Q9x {b o T:Nat}{T':TypeId}{cs:List Value}{v:Value}(hs:Q3R P T=true) (hb:Blk w.heap b T' cs) (hv:cs[o]?=some v):QaK P w ⟨b,o,none⟩ T v:= .inl ⟨hs,hb.cell hv⟩
theorem Q7h (k:Nat){Ty:TypeId}{ms:Array (String×TypeId)}{w0:World}(ht:P.underlying Ty=some (.interface ms)):(Op.equalIn (k+1) Ty .nilIface .nilIface).run P w0= .ok true w0:=by
 simp only [Op.equalIn,Sem.run_bind,Q7 P Ty _ w0 ht,Result.andThen_ok]
 simp [Sem.run_pure]
theorem Q5d {Ty:TypeId}{ms:Array (String×TypeId)}{w0:World}(ht:P.underlying Ty=some (.interface ms)):(Op.equal Ty .nilIface .nilIface).run P w0= .ok true w0:=Q7h 9999 ht
theorem Q6x (k:Nat){Ty U:TypeId}{v:Value}{ms:Array (String×TypeId)}{w0:World}(ht:P.underlying Ty=some (.interface ms)):(Op.equalIn (k+1) Ty (.iface U v) .nilIface).run P w0= .ok false w0:=by
 simp only [Op.equalIn,Sem.run_bind,Q7 P Ty _ w0 ht,Result.andThen_ok]
 simp [Sem.run_pure]
theorem Q4p {Ty U:TypeId}{v:Value}{ms:Array (String×TypeId)}{w0:World}(ht:P.underlying Ty=some (.interface ms)):(Op.equal Ty (.iface U v) .nilIface).run P w0= .ok false w0:=Q6x 9999 ht
theorem Qdb {d:Nat}{Ty:TypeId}{x:Operand}{ms:Array (String×TypeId)}(ht:P.underlying Ty=some (.interface ms)) (hx:ρ.ev x= .nilIface) (h:Q0 P l Q (upd ρ d (.bool false)) w):Q0 P (⟨none, .bin d .neq Ty x (.const .nilIface)⟩::l) Q ρ w:=
 ⟨_,fun w0=> by rw [hx];simp [Env.ev,eqGuard,binOp,Q5d ht],h⟩
theorem Qda {d:Nat}{Ty U:TypeId}{v:Value}{x:Operand}{ms:Array (String×TypeId)}(ht:P.underlying Ty=some (.interface ms)) (hx:ρ.ev x= .iface U v) (h:Q0 P l Q (upd ρ d (.bool true)) w):Q0 P (⟨none, .bin d .neq Ty x (.const .nilIface)⟩::l) Q ρ w:=
 ⟨_,fun w0=> by rw [hx];simp [Env.ev,eqGuard,binOp,Q4p ht],h⟩
theorem St.pick3 {c:Cx}{L L1 L2 L3:List Res}{r1 r2 r3:Res}(h:St c w L) (p1:Pick L r1 L1) (p2:Pick L1 r2 L2) (p3:Pick L2 r3 L3):St c w (r1::r2::r3::L3):=
 h.perm (p1.perm.trans (List.Perm.cons _ (p2.perm.trans (List.Perm.cons _ p3.perm))))
end
end Go.Lir
namespace Go.Lir
set_option linter.unusedVariables false
structure Bx (K:Prop):Prop where
 o:K
section
variable {K G:Prop}
theorem zn (k:K) (h:Bx K→G:=by
 intro K9
 refine s_nil ?_
 (repeat (first|refine Q7Q ?_|refine Q7w ?_))
 exact K9.o):G:=h ⟨k⟩
theorem zcn (k:K) (h:Bx K→G:=by
 intro K9
 refine s_cnil ?_
 (repeat (first|refine Q7Q ?_|refine Q7w ?_))
 exact K9.o):G:=h ⟨k⟩
theorem zsk (k:K) (h:Bx K→G:=by
 intro K9
 refine s_skip ?_
 (repeat (first|refine Q7Q ?_|refine Q7w ?_))
 exact K9.o):G:=h ⟨k⟩
theorem zex (k:K) (h:Bx K→G:=by
 intro K9
 refine s_exit ?_
 (repeat (first|refine s_exitQ ?_|refine s_exitT ?_|refine s_exitB rfl ?_|refine Q7Q ?_|refine Q7w ?_))
 exact K9.o):G:=h ⟨k⟩
theorem zr (k:K) (h:Bx K→G:=by
 intro K9
 refine s_ret ?_
 (repeat (first|refine s_retT ?_|refine s_retB ?_))
 exact K9.o):G:=h ⟨k⟩
theorem zy {A:Prop}(k:G) (h:A:=by
 repeat (first
  | exact fun _ h=> (List.not_mem_nil h).elim
  | refine List.forall_mem_cons.2 ⟨by first|exact QL hS rfl (NthP.nth (by repeat constructor)) rfl|exact Q1V hS rfl (NthP.nth (by repeat constructor)) rfl rfl|exact Q4H hS (by assumption) rfl rfl|exact Q2D hS (by assumption) rfl rfl rfl|exact Q4W hS (by assumption) rfl rfl|exact Q8x hS (by assumption) rfl rfl rfl|exact gq_skip rfl rfl|exact Q6Y rfl (QL hS rfl (NthP.nth (by repeat constructor)) rfl)|exact Q6Y rfl (Q1V hS rfl (NthP.nth (by repeat constructor)) rfl rfl)|exact Q6Y rfl (Q4H hS (by assumption) rfl rfl)|exact Q6Y rfl (Q2D hS (by assumption) rfl rfl rfl)|exact Q6Y rfl (Q4W hS (by assumption) rfl rfl)|exact Q6Y rfl (Q8x hS (by assumption) rfl rfl rfl),?_⟩)):A∧G:=⟨h,k⟩
end
section
variable {P:Program}{l:List GO}{Q:QT}{ρ:Env}{w:World}{c:Cx}{L:List Res}{i:Nat}{T es:Nat}{v:Value}{css:List (List Value)}
theorem zt {K:KT}(h:K ρ w):Q0 P [] (Qk K Q) ρ w:=s_nil (Q7Q h)
theorem St.ns {L':List Res}(h:St c w L) (e:L=L':=by (conv=> lhs;simp only [List.set_cons_zero,List.set_cons_succ]);first|done|exact rfl):St c w L':=e ▸ h
theorem zgn {s:Nat}{b:Bool}{o:LO}{v:Value}(h:Q0 P l Q (updo ρ o.dst undef) w) (hg:ρ s=v:=by exact rfl) (hw:Q8T v b=false:=by exact rfl):Q0 P (⟨some (s,b),o⟩::l) Q ρ w:=s_gn hg hw h
theorem zgy {s:Nat}{b:Bool}{o:LO}(h:Q0 P (⟨none,o⟩::l) Q ρ w) (hg:ρ s= .bool b:=by exact rfl):Q0 P (⟨some (s,b),o⟩::l) Q ρ w:=s_gy hg h
theorem zct {c:Operand}{a b:LC}(h:a.wp P Q ρ w) (hc:ρ.ev c= .bool true:=by exact rfl):(LC.cond c a b).wp P Q ρ w:=s_cond_t hc h
theorem zcf {c:Operand}{a b:LC}(h:b.wp P Q ρ w) (hc:ρ.ev c= .bool false:=by exact rfl):(LC.cond c a b).wp P Q ρ w:=s_cond_f hc h
theorem zf0 {d:Nat}{x:Operand}{off b:Nat}(h:Q0 P l Q (upd ρ d (.pointer (some ⟨b,off,none⟩))) w) (hx:ρ.ev x= .pointer (some ⟨b,0,none⟩):=by exact rfl):Q0 P (⟨none, .fld d x off⟩::l) Q ρ w:=s_fld0 hx h
theorem zfd {d:Nat}{x:Operand}{off b o:Nat}(h:Q0 P l Q (upd ρ d (.pointer (some ⟨b,o+off,none⟩))) w) (hx:ρ.ev x= .pointer (some ⟨b,o,none⟩):=by exact rfl):Q0 P (⟨none, .fld d x off⟩::l) Q ρ w:=s_fld hx h
theorem znc {d:Nat}{x:Operand}{a:Addr}(h:Q0 P l Q (upd ρ d (.pointer (some a))) w) (hx:ρ.ev x= .pointer (some a):=by exact rfl):Q0 P (⟨none, .nilc d x⟩::l) Q ρ w:=s_nilc hx h
theorem znt {d:Nat}{x:Operand}{b:Bool}(h:Q0 P l Q (upd ρ d (.bool (!b))) w) (hx:ρ.ev x= .bool b:=by exact rfl):Q0 P (⟨none, .un d .not x⟩::l) Q ρ w:=s_not hx h
theorem zxt {d:Nat}{x:Operand}{i:Nat}{vs:List Value}{v:Value}(h:Q0 P l Q (upd ρ d v) w) (hx:ρ.ev x= .tuple ⟨vs⟩:=by exact rfl) (hv:vs[i]?=some v:=by exact rfl):Q0 P (⟨none, .ext d x i⟩::l) Q ρ w:=s_ext hx hv h
theorem zm {d:Nat}{x:Operand}{v:Value}(h:Q0 P l Q (upd ρ d v) w) (hx:ρ.ev x=v:=by (conv=> lhs;whnf);first|done|exact rfl):Q0 P (⟨none, .mov d x⟩::l) Q ρ w:=s_mov hx h
theorem zpt {d:Nat}{c x y:Operand}{v:Value}(h:Q0 P l Q (upd ρ d v) w) (hc:ρ.ev c= .bool true:=by exact rfl) (hx:ρ.ev x=v:=by (conv=> lhs;whnf);first|done|exact rfl):Q0 P (⟨none, .pick d c x y⟩::l) Q ρ w:=Q1m hc hx h
theorem zpf {d:Nat}{c x y:Operand}{v:Value}(h:Q0 P l Q (upd ρ d v) w) (hc:ρ.ev c= .bool false:=by exact rfl) (hx:ρ.ev y=v:=by (conv=> lhs;whnf);first|done|exact rfl):Q0 P (⟨none, .pick d c x y⟩::l) Q ρ w:=Q1C hc hx h
theorem zki {d:Nat}{T:TypeId}{x:Operand}{v:Value}(h:Q0 P l Q (upd ρ d (.iface T v)) w) (hx:ρ.ev x=v:=by (conv=> lhs;whnf);first|done|exact rfl):Q0 P (⟨none, .mki d T x⟩::l) Q ρ w:=s_mki hx h
theorem zl {d:Nat}{x:Operand}{b o:Nat}{cs:List Value}{u:Value}(hS:St c w L) (h:Q0 P l Q (upd ρ d u) w) (hx:ρ.ev x= .pointer (some ⟨b,o,none⟩):=by exact rfl) (hi:nth L i=some (blk b T cs):=by exact NthP.nth (by repeat constructor)) (hu:cs[o]?=some u:=by exact rfl):Q0 P (⟨none, .load1 d x⟩::l) Q ρ w:=QE hS hx hi hu h
theorem zlk {d:Nat}{x:Operand}{b o:Nat}{cs:List Value}{u:Value}(hS:St c w L) (h:Q0 P l Q (upd ρ d u) w) (ha:AtK c b o cs:=by assumption) (hx:ρ.ev x= .pointer (some ⟨b,o,none⟩):=by exact rfl) (hu:cs[0]?=some u:=by exact rfl):Q0 P (⟨none, .load1 d x⟩::l) Q ρ w:=s_loadK hS ha hx hu h
theorem zlj {d:Nat}{x:Operand}{b o j:Nat}{cs:List Value}{u:Value}(hS:St c w L) (h:Q0 P l Q (upd ρ d u) w) (ha:AtK c b o cs:=by assumption) (hx:ρ.ev x= .pointer (some ⟨b,o+j,none⟩):=by exact rfl) (hu:cs[j]?=some u:=by exact rfl):Q0 P (⟨none, .load1 d x⟩::l) Q ρ w:=s_loadKj hS ha hx hu h
theorem zv {d n:Nat}{x:Operand}{b o:Nat}{cs us:List Value}(hS:St c w L) (h:Q0 P l Q (upd ρ d (.agg ⟨us⟩)) w) (hx:ρ.ev x= .pointer (some ⟨b,o,none⟩):=by exact rfl) (hi:nth L i=some (blk b T cs):=by exact NthP.nth (by repeat constructor)) (hu:(cs.drop o).take n=us:=by exact rfl) (hl:us.length=n:=by exact rfl):Q0 P (⟨none, .loadn d n x⟩::l) Q ρ w:=Q9U hS hx hi hu hl h
theorem zvk {d n:Nat}{x:Operand}{b o:Nat}{cs:List Value}(hS:St c w L) (h:Q0 P l Q (upd ρ d (.agg ⟨cs⟩)) w) (ha:AtK c b o cs:=by assumption) (hx:ρ.ev x= .pointer (some ⟨b,o,none⟩):=by exact rfl) (hl:cs.length=n:=by exact rfl):Q0 P (⟨none, .loadn d n x⟩::l) Q ρ w:=s_loadnK hS ha hx hl h
theorem zli {d n:Nat}{x:Operand}{m b o:Nat}{xs:List Int}(hS:St c w L) (h:Q0 P l Q (upd ρ d (.int .i64 (xs.getD m 0))) w) (he:ElP v n 1 m b o:=by assumption) (hx:ρ.ev x= .pointer (some ⟨b,o,none⟩):=by exact rfl) (hi:nth L i=some (sl T 1 v (xs.map Qj)):=by exact NthP.nth (by repeat constructor)) (hn:(xs.map Qj).length=n:=by exact rfl) (hm:m < xs.length:=by first|omega|(simp;omega)):Q0 P (⟨none, .load1 d x⟩::l) Q ρ w:=Qc7 hS he hx hi hn hm h
theorem zlb {d n:Nat}{x:Operand}{m b o:Nat}{xs:List Bool}(hS:St c w L) (h:Q0 P l Q (upd ρ d (.bool (xs.getD m false))) w) (he:ElP v n 1 m b o:=by assumption) (hx:ρ.ev x= .pointer (some ⟨b,o,none⟩):=by exact rfl) (hi:nth L i=some (sl T 1 v (xs.map QD)):=by exact NthP.nth (by repeat constructor)) (hn:(xs.map QD).length=n:=by exact rfl) (hm:m < xs.length:=by first|omega|(simp;omega)):Q0 P (⟨none, .load1 d x⟩::l) Q ρ w:=s_loadBo hS he hx hi hn hm h
theorem zLe {d n:Nat}{x:Operand}(hS:St c w L) (h:Q0 P l Q (upd ρ d (.int .i64 n)) w) (hx:ρ.ev x=v:=by (conv=> lhs;whnf);first|done|exact rfl) (hi:nth L i=some (sl T es v css):=by exact NthP.nth (by repeat constructor)) (hn:css.length=n:=by first|exact List.length_map _|rfl):Q0 P (⟨none, .len d x⟩::l) Q ρ w:=QQ hS hx hi hn h
theorem zad {d:Nat}{T:TypeId}{x y:Operand}{a b:Int}(h:Q0 P l Q (upd ρ d (.int .i64 (a+b))) w) (hx:ρ.ev x= .int .i64 a:=by exact rfl) (hy:ρ.ev y= .int .i64 b:=by exact rfl) (h1: -9223372036854775808≤a+b:=by omega) (h2:a+b≤9223372036854775807:=by omega):Q0 P (⟨none, .bin d .add T x y⟩::l) Q ρ w:=s_add hx hy h1 h2 h
theorem zsu {d:Nat}{T:TypeId}{x y:Operand}{a b:Int}(h:Q0 P l Q (upd ρ d (.int .i64 (a - b))) w) (hx:ρ.ev x= .int .i64 a:=by exact rfl) (hy:ρ.ev y= .int .i64 b:=by exact rfl) (h1: -9223372036854775808≤a - b:=by omega) (h2:a - b≤9223372036854775807:=by omega):Q0 P (⟨none, .bin d .sub T x y⟩::l) Q ρ w:=s_subi hx hy h1 h2 h
theorem zmu {d:Nat}{T:TypeId}{x y:Operand}{a b:Int}(h:Q0 P l Q (upd ρ d (.int .i64 (a*b))) w) (hx:ρ.ev x= .int .i64 a:=by exact rfl) (hy:ρ.ev y= .int .i64 b:=by exact rfl) (h1: -9223372036854775808≤a*b:=by omega) (h2:a*b≤9223372036854775807:=by omega):Q0 P (⟨none, .bin d .mul T x y⟩::l) Q ρ w:=s_mul hx hy h1 h2 h
theorem Q15 {d:Nat}{T:TypeId}{x y:Operand}{k:IntKind}{a b:Int}(h:Q0 P l Q (upd ρ d (.bool true)) w) (hx:ρ.ev x= .int k a:=by exact rfl) (hy:ρ.ev y= .int k b:=by exact rfl) (hp:a < b:=by omega):Q0 P (⟨none, .bin d .lss T x y⟩::l) Q ρ w:=s_lss_t hx hy hp h
theorem Q1c {d:Nat}{T:TypeId}{x y:Operand}{k:IntKind}{a b:Int}(h:Q0 P l Q (upd ρ d (.bool false)) w) (hx:ρ.ev x= .int k a:=by exact rfl) (hy:ρ.ev y= .int k b:=by exact rfl) (hp:¬(a < b):=by omega):Q0 P (⟨none, .bin d .lss T x y⟩::l) Q ρ w:=s_lss_f hx hy hp h
theorem Ql {d:Nat}{T:TypeId}{x y:Operand}{k:IntKind}{a b:Int}(h:Q0 P l Q (upd ρ d (.bool true)) w) (hx:ρ.ev x= .int k a:=by exact rfl) (hy:ρ.ev y= .int k b:=by exact rfl) (hp:a=b:=by omega):Q0 P (⟨none, .bin d .eql T x y⟩::l) Q ρ w:=Qf8 hx hy hp h
theorem Qo {d:Nat}{T:TypeId}{x y:Operand}{k:IntKind}{a b:Int}(h:Q0 P l Q (upd ρ d (.bool false)) w) (hx:ρ.ev x= .int k a:=by exact rfl) (hy:ρ.ev y= .int k b:=by exact rfl) (hp:¬(a=b):=by omega):Q0 P (⟨none, .bin d .eql T x y⟩::l) Q ρ w:=Qf9 hx hy hp h
theorem Q1D {d:Nat}{T:TypeId}{x y:Operand}{k:IntKind}{a b:Int}(h:Q0 P l Q (upd ρ d (.bool true)) w) (hx:ρ.ev x= .int k a:=by exact rfl) (hy:ρ.ev y= .int k b:=by exact rfl) (hp:a≠b:=by omega):Q0 P (⟨none, .bin d .neq T x y⟩::l) Q ρ w:=s_neq_t hx hy hp h
theorem Q1M {d:Nat}{T:TypeId}{x y:Operand}{k:IntKind}{a b:Int}(h:Q0 P l Q (upd ρ d (.bool false)) w) (hx:ρ.ev x= .int k a:=by exact rfl) (hy:ρ.ev y= .int k b:=by exact rfl) (hp:¬(a≠b):=by omega):Q0 P (⟨none, .bin d .neq T x y⟩::l) Q ρ w:=s_neq_f hx hy hp h
theorem Q17 {d:Nat}{T:TypeId}{x y:Operand}{k:IntKind}{a b:Int}(h:Q0 P l Q (upd ρ d (.bool true)) w) (hx:ρ.ev x= .int k a:=by exact rfl) (hy:ρ.ev y= .int k b:=by exact rfl) (hp:b < a:=by omega):Q0 P (⟨none, .bin d .gtr T x y⟩::l) Q ρ w:=s_gtr_t hx hy hp h
theorem Q1a {d:Nat}{T:TypeId}{x y:Operand}{k:IntKind}{a b:Int}(h:Q0 P l Q (upd ρ d (.bool false)) w) (hx:ρ.ev x= .int k a:=by exact rfl) (hy:ρ.ev y= .int k b:=by exact rfl) (hp:¬(b < a):=by omega):Q0 P (⟨none, .bin d .gtr T x y⟩::l) Q ρ w:=s_gtr_f hx hy hp h
theorem Q2n {d:Nat}{T:TypeId}{x y:Operand}{k:IntKind}{a b:Int}(h:Q0 P l Q (upd ρ d (.bool true)) w) (hx:ρ.ev x= .int k a:=by exact rfl) (hy:ρ.ev y= .int k b:=by exact rfl) (hp:b≤a:=by omega):Q0 P (⟨none, .bin d .geq T x y⟩::l) Q ρ w:=s_geq_t hx hy hp h
theorem Q2Z {d:Nat}{T:TypeId}{x y:Operand}{k:IntKind}{a b:Int}(h:Q0 P l Q (upd ρ d (.bool false)) w) (hx:ρ.ev x= .int k a:=by exact rfl) (hy:ρ.ev y= .int k b:=by exact rfl) (hp:¬(b≤a):=by omega):Q0 P (⟨none, .bin d .geq T x y⟩::l) Q ρ w:=s_geq_f hx hy hp h
theorem zst {x y:Operand}{b o:Nat}{cs:List Value}{u:Value}(hS:St c w L) (h:∀w',St c w' (L.set i (blk b T (cs.set o u)))→Q0 P l Q ρ w') (hx:ρ.ev x= .pointer (some ⟨b,o,none⟩):=by exact rfl) (hy:ρ.ev y=u:=by (conv=> lhs;whnf);first|done|exact rfl) (hi:nth L i=some (blk b T cs):=by exact NthP.nth (by repeat constructor)) (ho:o < cs.length:=by simp) (h1:oneC u=true:=by first|rfl|assumption|exact hS.oneC (NthP.nth (by repeat constructor))|exact SlR.oneC (by assumption)):Q0 P (⟨none, .store1 x y⟩::l) Q ρ w:=Qd7 hS hx hy hi ho h1 h
theorem zsi {n:Nat}{x y:Operand}{m b o:Nat}{xs:List Int}{u:Int}(hS:St c w L) (h:∀w',St c w' (L.set i (sl T 1 v ((xs.set m u).map Qj)))→Q0 P l Q ρ w') (he:ElP v n 1 m b o:=by assumption) (hx:ρ.ev x= .pointer (some ⟨b,o,none⟩):=by exact rfl) (hy:ρ.ev y= .int .i64 u:=by (conv=> lhs;whnf);first|done|exact rfl) (hi:nth L i=some (sl T 1 v (xs.map Qj)):=by exact NthP.nth (by repeat constructor)) (hn:(xs.map Qj).length=n:=by exact rfl) (hm:m < xs.length:=by first|omega|(simp;omega)):Q0 P (⟨none, .store1 x y⟩::l) Q ρ w:=s_storeI hS he hx hy hi hn hm h
theorem zsb {n:Nat}{x y:Operand}{m b o:Nat}{xs:List Bool}{u:Bool}(hS:St c w L) (h:∀w',St c w' (L.set i (sl T 1 v ((xs.set m u).map QD)))→Q0 P l Q ρ w') (he:ElP v n 1 m b o:=by assumption) (hx:ρ.ev x= .pointer (some ⟨b,o,none⟩):=by exact rfl) (hy:ρ.ev y= .bool u:=by (conv=> lhs;whnf);first|done|exact rfl) (hi:nth L i=some (sl T 1 v (xs.map QD)):=by exact NthP.nth (by repeat constructor)) (hn:(xs.map QD).length=n:=by exact rfl) (hm:m < xs.length:=by first|omega|(simp;omega)):Q0 P (⟨none, .store1 x y⟩::l) Q ρ w:=Qf2 hS he hx hy hi hn hm h
theorem zb {d:Nat}{x:Operand}{cs:List Value}(hS:St c w L) (h:∀b w',St c w' (blk b T cs::L)→Q0 P l Q (upd ρ d (.pointer (some ⟨b,0,none⟩))) w') (hx:ρ.ev x=v:=by (conv=> lhs;whnf);first|done|exact rfl) (hc:v.cells=⟨cs⟩:=by rfl):Q0 P (⟨none, .box d T x⟩::l) Q ρ w:=Q23 hS hx hc h
theorem zie {d m:Nat}{x y:Operand}{k:IntKind}(hS:St c w L) (h:∀b o,ElP v css.length es m b o→Q0 P l Q (upd ρ d (.pointer (some ⟨b,o,none⟩))) w) (hx:ρ.ev x=v:=by (conv=> lhs;whnf);first|done|exact rfl) (hy:ρ.ev y= .int k (m:Int):=by exact rfl) (hi:nth L i=some (sl T es v css):=by exact NthP.nth (by repeat constructor)) (hm:m < css.length:=by first|omega|(simp;omega)):Q0 P (⟨none, .idx d es x y⟩::l) Q ρ w:=Q4c hS hx hy hi hm h
theorem zij {d:Nat}{x y:Operand}{k:IntKind}{n:Int}(hS:St c w L) (h:∀b o,ElP v css.length es n.toNat b o→Q0 P l Q (upd ρ d (.pointer (some ⟨b,o,none⟩))) w) (hx:ρ.ev x=v:=by (conv=> lhs;whnf);first|done|exact rfl) (hy:ρ.ev y= .int k n:=by exact rfl) (hi:nth L i=some (sl T es v css):=by exact NthP.nth (by repeat constructor)) (h0:0≤n:=by first|omega|(simp;omega)) (hm:n < css.length:=by first|omega|(simp;omega)):Q0 P (⟨none, .idx d es x y⟩::l) Q ρ w:=Q6v hS hx hy hi h0 hm h
theorem zsn {n i b T:Nat}{x y:Operand}{cs us:List Value}(hS:St c w L) (h:∀w',St c w' (L.set i (blk b T us))→Q0 P l Q ρ w') (hx:ρ.ev x= .pointer (some ⟨b,0,none⟩):=by exact rfl) (hy:ρ.ev y= .agg ⟨us⟩:=by exact rfl) (hn:us.length=n:=by rfl) (hi:nth L i=some (blk b T cs):=by exact NthP.nth (by repeat constructor)) (hc:cs.length=n:=by rfl) (h1:∀u∈us,oneC u=true:=by first|(simp [oneC];done)|assumption|exact Rep.one _ (by assumption)|(simp only [List.take_succ_cons,List.take_zero,List.drop_zero,List.mem_cons,List.not_mem_nil,or_false,forall_eq_or_imp,forall_eq];((try refine And.intro ?_ ?_) <;> try refine And.intro ?_ ?_) <;> first|rfl|assumption)):Q0 P (⟨none, .storen n x y⟩::l) Q ρ w:=Qf1 hS hx hy hn hi hc h1 h
theorem zsm {n:Nat}{x y:Operand}{b o:Nat}{cs us cs':List Value}(hS:St c w L) (h:∀w',St c w' (L.set i (blk b T cs'))→Q0 P l Q ρ w') (hx:ρ.ev x= .pointer (some ⟨b,o,none⟩):=by exact rfl) (hy:ρ.ev y= .agg ⟨us⟩:=by exact rfl) (hn:us.length=n:=by rfl) (hi:nth L i=some (blk b T cs):=by exact NthP.nth (by repeat constructor)) (ho:o+n≤cs.length:=by simp) (h1:∀u∈us,oneC u=true:=by first|(simp [oneC];done)|assumption|exact Rep.one _ (by assumption)|(simp only [List.take_succ_cons,List.take_zero,List.drop_zero,List.mem_cons,List.not_mem_nil,or_false,forall_eq_or_imp,forall_eq];((try refine And.intro ?_ ?_) <;> try refine And.intro ?_ ?_) <;> first|rfl|assumption)) (hc:cs.take o++(us++cs.drop (o+n))=cs':=by (conv=> lhs;simp only [List.take_succ_cons,List.take_zero,List.drop_succ_cons,List.drop_zero,List.cons_append,List.nil_append]);first|done|exact rfl):Q0 P (⟨none, .storen n x y⟩::l) Q ρ w:=Q1Q hS hx hy hn hi ho h1 hc h
theorem zf {t:Nat}{R:Ending→World→Prop}{v:Value}(h:R (.returned v) w) (hv:ρ t=v:=by (conv=> lhs;whnf);first|done|exact rfl):retQ P [.tmp t] R .ret ρ w:=q_ret1 hv h
theorem zf2 {t u:Nat}{R:Ending→World→Prop}{v v':Value}(h:R (.returned (.tuple #[v,v'])) w) (hv:ρ t=v:=by (conv=> lhs;whnf);first|done|exact rfl) (hv':ρ u=v':=by (conv=> lhs;whnf);first|done|exact rfl):retQ P [.tmp t, .tmp u] R .ret ρ w:=q_ret2 hv hv' h
theorem zb0 {d:Nat}{z:List Value}(cs:List Value) (h:Q0 P l Q (upd ρ d (.agg ⟨cs⟩)) w) (hf:Q2V z []=some cs:=by rfl):Q0 P (⟨none, .build d z []⟩::l) Q ρ w:=Q7v hf h
theorem zb1 {d:Nat}{z:List Value}{o0 n0:Nat}{x0:Operand}{v0:Value}(cs:List Value) (h:Q0 P l Q (upd ρ d (.agg ⟨cs⟩)) w) (h0:ρ.ev x0=v0:=by (conv=> lhs;whnf);first|done|exact rfl) (hf:Q2V z [(o0,n0,v0)]=some cs:=by rfl):Q0 P (⟨none, .build d z [(o0,n0,x0)]⟩::l) Q ρ w:=Q9W h0 hf h
theorem zB1 {d:Nat}{T:TypeId}{n:Nat}{z:List Value}{o0 n0:Nat}{x0:Operand}{v0:Value}(hS:St c w L) (cs:List Value) (h:∀b w',St c w' (blk b T cs::L)→Q0 P l Q (upd ρ d (.slice (some ⟨b,0,none⟩) n n)) w') (h0:ρ.ev x0=v0:=by (conv=> lhs;whnf);first|done|exact rfl) (hf:Q2V z [(o0,n0,v0)]=some cs:=by rfl):Q0 P (⟨none, .buildS d T n z [(o0,n0,x0)]⟩::l) Q ρ w:=Q2b h0 hf fun b w' hb hf1 _ hk=> h b w' (hS.laid hb hf1 hk)
theorem zb2 {d:Nat}{z:List Value}{o0 n0:Nat}{x0:Operand}{v0:Value}{o1 n1:Nat}{x1:Operand}{v1:Value}(cs:List Value) (h:Q0 P l Q (upd ρ d (.agg ⟨cs⟩)) w) (h0:ρ.ev x0=v0:=by (conv=> lhs;whnf);first|done|exact rfl) (h1:ρ.ev x1=v1:=by (conv=> lhs;whnf);first|done|exact rfl) (hf:Q2V z [(o0,n0,v0),(o1,n1,v1)]=some cs:=by rfl):Q0 P (⟨none, .build d z [(o0,n0,x0),(o1,n1,x1)]⟩::l) Q ρ w:=Q5N h0 h1 hf h
theorem zb3 {d:Nat}{z:List Value}{o0 n0:Nat}{x0:Operand}{v0:Value}{o1 n1:Nat}{x1:Operand}{v1:Value}{o2 n2:Nat}{x2:Operand}{v2:Value}(cs:List Value) (h:Q0 P l Q (upd ρ d (.agg ⟨cs⟩)) w) (h0:ρ.ev x0=v0:=by (conv=> lhs;whnf);first|done|exact rfl) (h1:ρ.ev x1=v1:=by (conv=> lhs;whnf);first|done|exact rfl) (h2:ρ.ev x2=v2:=by (conv=> lhs;whnf);first|done|exact rfl) (hf:Q2V z [(o0,n0,v0),(o1,n1,v1),(o2,n2,v2)]=some cs:=by rfl):Q0 P (⟨none, .build d z [(o0,n0,x0),(o1,n1,x1),(o2,n2,x2)]⟩::l) Q ρ w:=s_build3 h0 h1 h2 hf h
theorem zb4 {d:Nat}{z:List Value}{o0 n0:Nat}{x0:Operand}{v0:Value}{o1 n1:Nat}{x1:Operand}{v1:Value}{o2 n2:Nat}{x2:Operand}{v2:Value}{o3 n3:Nat}{x3:Operand}{v3:Value}(cs:List Value) (h:Q0 P l Q (upd ρ d (.agg ⟨cs⟩)) w) (h0:ρ.ev x0=v0:=by (conv=> lhs;whnf);first|done|exact rfl) (h1:ρ.ev x1=v1:=by (conv=> lhs;whnf);first|done|exact rfl) (h2:ρ.ev x2=v2:=by (conv=> lhs;whnf);first|done|exact rfl) (h3:ρ.ev x3=v3:=by (conv=> lhs;whnf);first|done|exact rfl) (hf:Q2V z [(o0,n0,v0),(o1,n1,v1),(o2,n2,v2),(o3,n3,v3)]=some cs:=by rfl):Q0 P (⟨none, .build d z [(o0,n0,x0),(o1,n1,x1),(o2,n2,x2),(o3,n3,x3)]⟩::l) Q ρ w:=s_build4 h0 h1 h2 h3 hf h
theorem zb5 {d:Nat}{z:List Value}{o0 n0:Nat}{x0:Operand}{v0:Value}{o1 n1:Nat}{x1:Operand}{v1:Value}{o2 n2:Nat}{x2:Operand}{v2:Value}{o3 n3:Nat}{x3:Operand}{v3:Value}{o4 n4:Nat}{x4:Operand}{v4:Value}(cs:List Value) (h:Q0 P l Q (upd ρ d (.agg ⟨cs⟩)) w) (h0:ρ.ev x0=v0:=by (conv=> lhs;whnf);first|done|exact rfl) (h1:ρ.ev x1=v1:=by (conv=> lhs;whnf);first|done|exact rfl) (h2:ρ.ev x2=v2:=by (conv=> lhs;whnf);first|done|exact rfl) (h3:ρ.ev x3=v3:=by (conv=> lhs;whnf);first|done|exact rfl) (h4:ρ.ev x4=v4:=by (conv=> lhs;whnf);first|done|exact rfl) (hf:Q2V z [(o0,n0,v0),(o1,n1,v1),(o2,n2,v2),(o3,n3,v3),(o4,n4,v4)]=some cs:=by rfl):Q0 P (⟨none, .build d z [(o0,n0,x0),(o1,n1,x1),(o2,n2,x2),(o3,n3,x3),(o4,n4,x4)]⟩::l) Q ρ w:=s_build5 h0 h1 h2 h3 h4 hf h
theorem zD {gs:List GO}{es:List (List Nat)}(C:List CI) (h:Q0 P (C.map fun c=> gat gs c.1) Q ρ w.drew) (hok:Q8K gs es C=true:=by kernel_rfl) (hpl:(C.all fun c=> match c.2 with|some (some _)=> false|_=> true)=true:=by kernel_rfl):(LC.draw gs es).wp P Q ρ w:=Qfb C hok hpl h
theorem zC {gs:List GO}{es:List (List Nat)}(C:List CI) (h:Q1J P gs C Q ρ w.drew) (hok:Q8K gs es C=true:=by kernel_rfl):(LC.draw gs es).wp P Q ρ w:=Qca C hok h
theorem zR0 {d:Nat}{f:FuncId}{S:Value→World→Prop}(c:Rets P f [] w S) (h:∀v w',S v w'→Q0 P l Q (upd ρ d v) w'):Q0 P (⟨none, .call (some d) f []⟩::l) Q ρ w:=s_rets_0 c h
theorem zR1 {d:Nat}{f:FuncId}{x0:Operand}{u0:Value}{S:Value→World→Prop}(h0:ρ.ev x0=u0:=by (conv=> lhs;whnf);first|done|exact rfl) (c:Rets P f [u0] w S) (h:∀v w',S v w'→Q0 P l Q (upd ρ d v) w'):Q0 P (⟨none, .call (some d) f [x0]⟩::l) Q ρ w:=Q9Q h0 c h
theorem zE1 {d:Nat}{f:FuncId}{x0:Operand}{u0:Value}{S T:Value→World→Prop}(h0:ρ.ev x0=u0:=by (conv=> lhs;whnf);first|done|exact rfl) (c:Fins P f [u0] w S T) (p:∀v w',T v w'→Q (.panic [{v:=v,recovered:=false}]) ρ w') (h:∀v w',S v w'→Q0 P l Q (upd ρ d v) w'):Q0 P (⟨none, .call (some d) f [x0]⟩::l) Q ρ w:=s_ends_1 h0 c p h
theorem zR2 {d:Nat}{f:FuncId}{x0 x1:Operand}{u0 u1:Value}{S:Value→World→Prop}(h0:ρ.ev x0=u0:=by (conv=> lhs;whnf);first|done|exact rfl) (h1:ρ.ev x1=u1:=by (conv=> lhs;whnf);first|done|exact rfl) (c:Rets P f [u0,u1] w S) (h:∀v w',S v w'→Q0 P l Q (upd ρ d v) w'):Q0 P (⟨none, .call (some d) f [x0,x1]⟩::l) Q ρ w:=Q3S h0 h1 c h
theorem zE2 {d:Nat}{f:FuncId}{x0 x1:Operand}{u0 u1:Value}{S T:Value→World→Prop}(h0:ρ.ev x0=u0:=by (conv=> lhs;whnf);first|done|exact rfl) (h1:ρ.ev x1=u1:=by (conv=> lhs;whnf);first|done|exact rfl) (c:Fins P f [u0,u1] w S T) (p:∀v w',T v w'→Q (.panic [{v:=v,recovered:=false}]) ρ w') (h:∀v w',S v w'→Q0 P l Q (upd ρ d v) w'):Q0 P (⟨none, .call (some d) f [x0,x1]⟩::l) Q ρ w:=s_ends_2 h0 h1 c p h
theorem zR3 {d:Nat}{f:FuncId}{x0 x1 x2:Operand}{u0 u1 u2:Value}{S:Value→World→Prop}(h0:ρ.ev x0=u0:=by (conv=> lhs;whnf);first|done|exact rfl) (h1:ρ.ev x1=u1:=by (conv=> lhs;whnf);first|done|exact rfl) (h2:ρ.ev x2=u2:=by (conv=> lhs;whnf);first|done|exact rfl) (c:Rets P f [u0,u1,u2] w S) (h:∀v w',S v w'→Q0 P l Q (upd ρ d v) w'):Q0 P (⟨none, .call (some d) f [x0,x1,x2]⟩::l) Q ρ w:=s_rets_3 h0 h1 h2 c h
theorem zE3 {d:Nat}{f:FuncId}{x0 x1 x2:Operand}{u0 u1 u2:Value}{S T:Value→World→Prop}(h0:ρ.ev x0=u0:=by (conv=> lhs;whnf);first|done|exact rfl) (h1:ρ.ev x1=u1:=by (conv=> lhs;whnf);first|done|exact rfl) (h2:ρ.ev x2=u2:=by (conv=> lhs;whnf);first|done|exact rfl) (c:Fins P f [u0,u1,u2] w S T) (p:∀v w',T v w'→Q (.panic [{v:=v,recovered:=false}]) ρ w') (h:∀v w',S v w'→Q0 P l Q (upd ρ d v) w'):Q0 P (⟨none, .call (some d) f [x0,x1,x2]⟩::l) Q ρ w:=s_ends_3 h0 h1 h2 c p h
theorem zR4 {d:Nat}{f:FuncId}{x0 x1 x2 x3:Operand}{u0 u1 u2 u3:Value}{S:Value→World→Prop}(h0:ρ.ev x0=u0:=by (conv=> lhs;whnf);first|done|exact rfl) (h1:ρ.ev x1=u1:=by (conv=> lhs;whnf);first|done|exact rfl) (h2:ρ.ev x2=u2:=by (conv=> lhs;whnf);first|done|exact rfl) (h3:ρ.ev x3=u3:=by (conv=> lhs;whnf);first|done|exact rfl) (c:Rets P f [u0,u1,u2,u3] w S) (h:∀v w',S v w'→Q0 P l Q (upd ρ d v) w'):Q0 P (⟨none, .call (some d) f [x0,x1,x2,x3]⟩::l) Q ρ w:=s_rets_4 h0 h1 h2 h3 c h
theorem zE4 {d:Nat}{f:FuncId}{x0 x1 x2 x3:Operand}{u0 u1 u2 u3:Value}{S T:Value→World→Prop}(h0:ρ.ev x0=u0:=by (conv=> lhs;whnf);first|done|exact rfl) (h1:ρ.ev x1=u1:=by (conv=> lhs;whnf);first|done|exact rfl) (h2:ρ.ev x2=u2:=by (conv=> lhs;whnf);first|done|exact rfl) (h3:ρ.ev x3=u3:=by (conv=> lhs;whnf);first|done|exact rfl) (c:Fins P f [u0,u1,u2,u3] w S T) (p:∀v w',T v w'→Q (.panic [{v:=v,recovered:=false}]) ρ w') (h:∀v w',S v w'→Q0 P l Q (upd ρ d v) w'):Q0 P (⟨none, .call (some d) f [x0,x1,x2,x3]⟩::l) Q ρ w:=s_ends_4 h0 h1 h2 h3 c p h
variable {α:Type}{r:Rep α}{xs:List α}
theorem zL {d:Nat}{x:Operand}(h:Q0 P l Q (upd ρ d (.int .i64 xs.length)) w) (hx:ρ.ev x=v:=by (conv=> lhs;whnf);first|done|exact rfl) (hK:r.sl c v xs:=by assumption):Q0 P (⟨none, .len d x⟩::l) Q ρ w:=Qf6 hx hK h
theorem zi {d m:Nat}{x y:Operand}{k:IntKind}(h:∀b o cs a,AtK c b o cs→xs[m]?=some a→r.at c cs a→Q0 P l Q (upd ρ d (.pointer (some ⟨b,o,none⟩))) w) (hx:ρ.ev x=v:=by (conv=> lhs;whnf);first|done|exact rfl) (hy:ρ.ev y= .int k (m:Int):=by exact rfl) (hK:r.sl c v xs:=by assumption) (hes:r.es=es:=by exact rfl) (hn:m < xs.length:=by first|omega|(simp;omega)):Q0 P (⟨none, .idx d es x y⟩::l) Q ρ w:=Q6u hx hy hK hes hn h
theorem zj {d:Nat}{x y:Operand}{k:IntKind}{n:Int}(h:∀b o cs a,AtK c b o cs→xs[n.toNat]?=some a→r.at c cs a→Q0 P l Q (upd ρ d (.pointer (some ⟨b,o,none⟩))) w) (hx:ρ.ev x=v:=by (conv=> lhs;whnf);first|done|exact rfl) (hy:ρ.ev y= .int k n:=by exact rfl) (hK:r.sl c v xs:=by assumption) (hes:r.es=es:=by exact rfl) (h0:0≤n:=by first|omega|(simp;omega)) (hn:n < xs.length:=by first|omega|(simp;omega)):Q0 P (⟨none, .idx d es x y⟩::l) Q ρ w:=s_idxL hx hy hK hes h0 hn h
theorem za {T T' d Ts Ts2 Ty nb i k b : Nat} {z : List Value} {x y : Operand} {ds : List Value} {css : List (List Value)} {a : α} (hel : Q1A P Ts = some (T, es, nb, z)) (hts : ∃ e2, P.underlying Ts2 = some (.slice e2)) (hS : St c w L) (h : ∀ v' w' css', r.ls c css' (xs ++ [a]) → oneC v' = true → St c w' (L.set i (Go.Lir.sl T es v' css')) → Q0 P l Q (upd ρ d v') w') (hx : ρ.ev x = v := by (conv => lhs; whnf); first | done | exact rfl) (hy : ρ.ev y = .slice (some ⟨b, 0, none⟩) 1 1 := by (conv => lhs; whnf); first | done | exact rfl) (hi : nth L i = some (Go.Lir.sl T es v css) := by exact NthP.nth (by repeat constructor)) (hk : nth L k = some (blk b T' ds) := by exact NthP.nth (by repeat constructor)) (hls : r.ls c css xs := by assumption) (ha : r.at c ds a := by first | assumption | exact rfl) (hes : r.es = es := by exact rfl) (hb : (xs.length + 1) * nb ≤ 140737488355328 := by first | omega | (simp only [List.length_take]; omega) | (simp; omega)) : Q0 P (⟨none, .raw ⟨some d, .call ⟨.builtin .append, #[x, y], #[Ts, Ts2]⟩, Ty, "", #[], none⟩⟩ :: l) Q ρ w := s_appR1 hel hts hS hx hy hi hk hls ha hes hb h
theorem zak {T d Ts Ts2 Ty nb i : Nat} {z : List Value} {x y : Operand} {v2 : Value} {css : List (List Value)} {ys : List α} (hel : Q1A P Ts = some (T, es, nb, z)) (hts : ∃ e2, P.underlying Ts2 = some (.slice e2)) (hS : St c w L) (h : ∀ v' w' css', r.ls c css' (xs ++ ys) → oneC v' = true → St c w' (L.set i (Go.Lir.sl T es v' css')) → Q0 P l Q (upd ρ d v') w') (hx : ρ.ev x = v := by (conv => lhs; whnf); first | done | exact rfl) (hy : ρ.ev y = v2 := by (conv => lhs; whnf); first | done | exact rfl) (hi : nth L i = some (Go.Lir.sl T es v css) := by exact NthP.nth (by repeat constructor)) (hls : r.ls c css xs := by assumption) (hK : r.sl c v2 ys := by assumption) (hes : r.es = es := by exact rfl) (hb : (xs.length + ys.length) * nb ≤ 140737488355328 := by first | omega | (simp only [List.length_take]; omega) | (simp; omega)) : Q0 P (⟨none, .raw ⟨some d, .call ⟨.builtin .append, #[x, y], #[Ts, Ts2]⟩, Ty, "", #[], none⟩⟩ :: l) Q ρ w := s_appRK hel hts hS hx hy hi hls hK hes hb h
def evs (ρ:Env) (ts:List Nat):List (Nat×Value):=ts.map fun t=> (t,ρ t)
theorem Qgh (ρ:Env):evs ρ []=[]:=rfl
theorem Qgi {t:Nat}{ts:List Nat}{u:Value}{A:List (Nat×Value)}(h:ρ t=u) (h2:evs ρ ts=A):evs ρ (t::ts)=(t,u)::A:=by subst h h2;rfl
theorem zh {A:List (Nat×Value)}(h:Has ρ A:=by repeat' (first|exact trivial|refine And.intro rfl ?_)):Has ρ A:=h
theorem env2 {A B:List (Nat×Value)}(h:Has ρ A) (h2:Has ρ B):∃ρ',ρ=updl (updl ρ' B) A:=⟨ρ,by rw [Q7K h2,Q7K h]⟩
theorem zo {a:LC}(ts:List Nat){A:List (Nat×Value)}(I:List (Nat×Value)→Env→World→Prop) (μ:Env→World→Nat) (h0:I A ρ w) (h:∀ρ w,I A ρ w→a.wp P (Qk (fun ρ' w'=> I A ρ' w'∧μ ρ' w' < μ ρ w) Q) ρ w) (hA:evs ρ ts=A:=by (repeat (apply Qgi;· ((conv=> lhs;whnf);first|done|exact rfl)));exact Qgh _):(LC.loop a).wp P Q ρ w:=Q9g (I A) μ h0 h
theorem zM {a b:LC}(ts:List Nat){A:List (Nat×Value)}(I:List (Nat×Value)→Env→World→Prop) (ha:a.wp P (Qk (I A) Q) ρ w) (hb:∀ρ w,I A ρ w→b.wp P Q ρ w) (hA:evs ρ ts=A:=by (repeat (apply Qgi;· ((conv=> lhs;whnf);first|done|exact rfl)));exact Qgh _):(LC.seq a b).wp P Q ρ w:=s_mid (I A) ha hb
theorem zoL {a:LC}(hS:St c w L) (ts:List Nat){A:List (Nat×Value)}(I:List (Nat×Value)→List Res→Env→World→Prop) (μ:Env→World→Nat) (h0:I A L ρ w) (h:∀ρ w,I A L ρ w→a.wp P (Qk (fun ρ' w'=> I A L ρ' w'∧μ ρ' w' < μ ρ w) Q) ρ w) (hA:evs ρ ts=A:=by (repeat (apply Qgi;· ((conv=> lhs;whnf);first|done|exact rfl)));exact Qgh _):(LC.loop a).wp P Q ρ w:=Q9g (I A L) μ h0 h
theorem zML {a b:LC}(hS:St c w L) (ts:List Nat){A:List (Nat×Value)}(I:List (Nat×Value)→List Res→Env→World→Prop) (ha:a.wp P (Qk (I A L) Q) ρ w) (hb:∀ρ w,I A L ρ w→b.wp P Q ρ w) (hA:evs ρ ts=A:=by (repeat (apply Qgi;· ((conv=> lhs;whnf);first|done|exact rfl)));exact Qgh _):(LC.seq a b).wp P Q ρ w:=s_mid (I A L) ha hb
theorem zKL {l:List GO}(hS:St c w L) (n:Nat) (ts:List Nat){A:List (Nat×Value)}(I:List (Nat×Value)→List Res→Env→World→Prop) (ha:Q0 P (l.take n) (Qk (I A L) Q) ρ w) (hb:∀ρ w,I A L ρ w→Q0 P (l.drop n) Q ρ w) (hA:evs ρ ts=A:=by (repeat (apply Qgi;· ((conv=> lhs;whnf);first|done|exact rfl)));exact Qgh _):Q0 P l Q ρ w:=s_cut n (I A L) ha hb
theorem St.sp {L':List Res}(h:St c w L) (e:SubP L' L:=by (repeat constructor);first|done|fail):St c w L':=h.subP e
theorem fd {r':Res}(h:NthP L i r':=by repeat constructor):nth L i=some r':=h.nth
theorem vw {a b:Value}(h:a=b:=by (conv=> lhs;whnf);first|done|exact rfl):a=b:=h
theorem St.p3 {L1 L2 L3:List Res}{r1 r2 r3:Res}(h:St c w L) (p1:Pick L r1 L1:=by repeat constructor) (p2:Pick L1 r2 L2:=by repeat constructor) (p3:Pick L2 r3 L3:=by repeat constructor):St c w (r1::r2::r3::L3):=h.pick3 p1 p2 p3
end
end Go.Lir
namespace Go.Lir
set_option linter.unusedVariables false
def ci (n:Nat) (f:List Nat):List CI:=(List.range n).map fun i=> (i,if f.contains i then some none else none)
section
variable {K G:Prop}
theorem Yaa (k:K) (h:Bx K→G:=by intro K9;(first|refine zgn ?_|(refine zgy ?_;refine zm ?_));exact K9.o):G:=h ⟨k⟩
theorem Yab (k:K) (h:Bx K→G:=by intro K9;(first|refine zgn ?_|(refine zgy ?_;refine zf0 ?_));exact K9.o):G:=h ⟨k⟩
theorem Yac (k:K) (h:Bx K→G:=by intro K9;(first|refine zgn ?_|(refine zgy ?_;refine zl hS ?_));exact K9.o):G:=h ⟨k⟩
theorem Yad (k:K) (h:Bx K→G:=by intro K9;(first|refine zf0 ?_|refine zfd ?_);exact K9.o):G:=h ⟨k⟩
theorem Yae (k:K) (h:Bx K→G:=by intro K9;(first|refine zpt ?_|refine zpf ?_);exact K9.o):G:=h ⟨k⟩
theorem Yaf (k:K) (h:Bx K→G:=by intro K9;(first|refine zgn ?_|(refine zgy ?_;refine znc ?_));exact K9.o):G:=h ⟨k⟩
theorem Yag (k:K) (h:Bx K→G:=by intro K9;(first|refine Q1v hS rfl fd rfl ?_|refine zl hS ?_);exact K9.o):G:=h ⟨k⟩
theorem Yah (k:K) (h:Bx K→G:=by intro K9;(first|refine zgn ?_|(refine zgy ?_;(first|refine zf0 ?_|refine zfd ?_)));exact K9.o):G:=h ⟨k⟩
theorem Yai (k:K) (h:Bx K→G:=by intro K9;(first|refine zv hS ?_|refine zvk hS ?_);exact K9.o):G:=h ⟨k⟩
theorem Yaj (k:K) (h:Bx K→G:=by intro K9;(first|refine zgn ?_|(refine zgy ?_;refine zL ?_));exact K9.o):G:=h ⟨k⟩
theorem Yak (k:K) (h:Bx K→G:=by intro K9;(first|refine zgn ?_|(refine zgy ?_;refine znt ?_));exact K9.o):G:=h ⟨k⟩
theorem Yal (k:K) (h:Bx K→G:=by intro K9;(first|refine zgn ?_|(refine zgy ?_;(first|refine zpt ?_|refine zpf ?_)));exact K9.o):G:=h ⟨k⟩
theorem Yam (k:K) (h:Bx K→G:=by intro K9;(first|refine zi ?_|refine zj ?_);exact K9.o):G:=h ⟨k⟩
theorem Yan (k:K) (h:Bx K→G:=by intro K9;(first|refine zgn ?_|(refine zgy ?_;(first|refine zL ?_|refine zLe hS ?_)));exact K9.o):G:=h ⟨k⟩
theorem Yao (k:K) (h:Bx K→G:=by intro K9;(first|refine zgn ?_|(refine zgy ?_;(first|refine Q17 ?_|refine Q1a ?_)));exact K9.o):G:=h ⟨k⟩
theorem Yap (k:K) (h:Bx K→G:=by intro K9;(first|refine Ql ?_|refine Qo ?_);exact K9.o):G:=h ⟨k⟩
theorem Yaq (k:K) (h:Bx K→G:=by intro K9;(first|refine zl hS ?_|refine zlk hS ?_|refine zlj hS ?_);exact K9.o):G:=h ⟨k⟩
theorem Yar (k:K) (h:Bx K→G:=by intro K9;(first|refine Q1D ?_|refine Q1M ?_);exact K9.o):G:=h ⟨k⟩
theorem Yas (k:K) (h:Bx K→G:=by intro K9;(first|refine zL ?_|refine zLe hS ?_);exact K9.o):G:=h ⟨k⟩
theorem Yat (k:K) (h:Bx K→G:=by intro K9;(first|refine zl hS ?_|refine zlk hS ?_);exact K9.o):G:=h ⟨k⟩
theorem Yau (k:K) (h:Bx K→G:=by intro K9;(first|refine Q15 ?_|refine Q1c ?_);exact K9.o):G:=h ⟨k⟩
theorem Yav (k:K) (h:Bx K→G:=by intro K9;(first|refine zgn ?_|(refine zgy ?_;(first|refine Q15 ?_|refine Q1c ?_)));exact K9.o):G:=h ⟨k⟩
theorem Yaw (k:K) (h:Bx K→G:=by intro K9;(first|refine zgn ?_|(refine zgy ?_;(first|refine Q1D ?_|refine Q1M ?_)));exact K9.o):G:=h ⟨k⟩
theorem Yax (k:K) (h:Bx K→G:=by intro K9;(first|refine zgn ?_|(refine zgy ?_;refine Q17 ?_));exact K9.o):G:=h ⟨k⟩
theorem Yay (k:K) (h:Bx K→G:=by intro K9;(first|refine zgn ?_|(refine zgy ?_;(first|refine Q2n ?_|refine Q2Z ?_)));exact K9.o):G:=h ⟨k⟩
theorem Yaz (k:K) (h:Bx K→G:=by intro K9;(first|refine zgn ?_|(refine zgy ?_;refine Ql ?_));exact K9.o):G:=h ⟨k⟩
theorem Yba (k:K) (h:Bx K→G:=by intro K9;(first|refine Q2 ?_|refine Q3 ?_);exact K9.o):G:=h ⟨k⟩
theorem Ybb (k:K) (h:Bx K→G:=by intro K9;(first|refine zgn ?_|(refine zgy ?_;(first|refine Ql ?_|refine Qo ?_)));exact K9.o):G:=h ⟨k⟩
theorem Ybc (k:K) (h:Bx K→G:=by intro K9;(first|refine zad ?_|refine Q9j rfl rfl ?_);exact K9.o):G:=h ⟨k⟩
theorem Zaa (k:K) (h:Bx K→G:=by intro K9;refine QB ?_;refine Q10 ?_;exact K9.o):G:=h ⟨k⟩
theorem Zab (k:K) (h:Bx K→G:=by intro K9;refine zt ?_;refine s_cq ?_;exact K9.o):G:=h ⟨k⟩
theorem Zac (k:K) (h:Bx K→G:=by intro K9;refine Zaa ?_;refine zm ?_;exact K9.o):G:=h ⟨k⟩
theorem Zad (k:K) (h:Bx K→G:=by intro K9;refine zm ?_;refine zn ?_;exact K9.o):G:=h ⟨k⟩
theorem Zae (k:K) (h:Bx K→G:=by intro K9;refine Q10 ?_;refine zm ?_;exact K9.o):G:=h ⟨k⟩
theorem Zaf (k:K) (h:Bx K→G:=by intro K9;refine Zac ?_;refine zn ?_;exact K9.o):G:=h ⟨k⟩
theorem Zag (k:K) (h:Bx K→G:=by intro K9;refine zm ?_;refine Zab ?_;exact K9.o):G:=h ⟨k⟩
theorem Zah (k:K) (h:Bx K→G:=by intro K9;refine zr ?_;refine zf ?_;exact K9.o):G:=h ⟨k⟩
theorem Zai (k:K) (h:Bx K→G:=by intro K9;refine zt ?_;refine zy ?_;exact K9.o):G:=h ⟨k⟩
theorem Zaj (k:K) (h:Bx K→G:=by intro K9;refine zt ?_;refine Q4g ?_;exact K9.o):G:=h ⟨k⟩
theorem Zak (k:K) (h:Bx K→G:=by intro K9;refine QB ?_;refine Zac ?_;exact K9.o):G:=h ⟨k⟩
theorem Zal (k:K) (h:Bx K→G:=by intro K9;refine zn ?_;refine QB ?_;exact K9.o):G:=h ⟨k⟩
theorem Zam (k:K) (h:Bx K→G:=by intro K9;refine zm ?_;refine Yaa ?_;exact K9.o):G:=h ⟨k⟩
theorem Zan (k:K) (h:Bx K→G:=by intro K9;refine Yab ?_;refine Yac ?_;exact K9.o):G:=h ⟨k⟩
theorem Zao (k:K) (h:Bx K→G:=by intro K9;refine zt ?_;refine zcn ?_;exact K9.o):G:=h ⟨k⟩
theorem Zap (k:K) (h:Bx K→G:=by intro K9;refine Zad ?_;refine Zah ?_;exact K9.o):G:=h ⟨k⟩
theorem Zaq (k:K) (h:Bx K→G:=by intro K9;refine Zab ?_;refine Zag ?_;exact K9.o):G:=h ⟨k⟩
theorem Zar (k:K) (h:Bx K→G:=by intro K9;refine QB ?_;refine Q3v ?_;exact K9.o):G:=h ⟨k⟩
theorem Zas (k:K) (h:Bx K→G:=by intro K9;refine Zaf ?_;refine Zah ?_;exact K9.o):G:=h ⟨k⟩
theorem Zat (k:K) (h:Bx K→G:=by intro K9;refine Zaa ?_;refine zb hS ?_;exact K9.o):G:=h ⟨k⟩
theorem Zau (k:K) (h:Bx K→G:=by intro K9;refine zt ?_;refine s_cf ?_;exact K9.o):G:=h ⟨k⟩
theorem Zav (k:K) (h:Bx K→G:=by intro K9;refine Zaa ?_;refine Q3T rfl rfl ?_;exact K9.o):G:=h ⟨k⟩
theorem Zaw (k:K) (h:Bx K→G:=by intro K9;refine znc ?_;refine Zab ?_;exact K9.o):G:=h ⟨k⟩
theorem Zax (k:K) (h:Bx K→G:=by intro K9;refine s_cq ?_;refine Zag ?_;exact K9.o):G:=h ⟨k⟩
theorem Zay (k:K) (h:Bx K→G:=by intro K9;refine Zai ?_;refine Q4g ?_;exact K9.o):G:=h ⟨k⟩
theorem Zaz (k:K) (h:Bx K→G:=by intro K9;refine zn ?_;refine Zac ?_;exact K9.o):G:=h ⟨k⟩
theorem ZaA (k:K) (h:Bx K→G:=by intro K9;refine zm ?_;refine znc ?_;exact K9.o):G:=h ⟨k⟩
theorem ZaB (k:K) (h:Bx K→G:=by intro K9;refine Zad ?_;refine Q3v ?_;exact K9.o):G:=h ⟨k⟩
theorem ZaC (k:K) (h:Bx K→G:=by intro K9;refine Zai ?_;refine s_cf ?_;exact K9.o):G:=h ⟨k⟩
theorem ZaD (k:K) (h:Bx K→G:=by intro K9;refine zn ?_;refine Zaa ?_;exact K9.o):G:=h ⟨k⟩
theorem ZaE (k:K) (h:Bx K→G:=by intro K9;refine zsk ?_;refine Zar ?_;exact K9.o):G:=h ⟨k⟩
theorem ZaF (k:K) (h:Bx K→G:=by intro K9;refine Zad ?_;refine QB ?_;exact K9.o):G:=h ⟨k⟩
theorem ZaG (k:K) (h:Bx K→G:=by intro K9;refine Yad ?_;refine Zab ?_;exact K9.o):G:=h ⟨k⟩
theorem ZaH (k:K) (h:Bx K→G:=by intro K9;refine Zai ?_;refine s_cq ?_;exact K9.o):G:=h ⟨k⟩
theorem ZaI (k:K) (h:Bx K→G:=by intro K9;refine Zav ?_;refine Zal ?_;exact K9.o):G:=h ⟨k⟩
theorem ZaJ (k:K) (h:Bx K→G:=by intro K9;refine zn ?_;refine Zae ?_;exact K9.o):G:=h ⟨k⟩
theorem ZaK (k:K) (h:Bx K→G:=by intro K9;refine Zad ?_;refine zr ?_;exact K9.o):G:=h ⟨k⟩
theorem ZaL (k:K) (h:Bx K→G:=by intro K9;refine Zad ?_;refine Zac ?_;exact K9.o):G:=h ⟨k⟩
theorem ZaM (k:K) (h:Bx K→G:=by intro K9;refine s_nil ?_;refine Q7Q ?_;exact K9.o):G:=h ⟨k⟩
theorem ZaN (k:K) (h:Bx K→G:=by intro K9;refine zm ?_;refine Zan ?_;exact K9.o):G:=h ⟨k⟩
theorem ZaO (k:K) (h:Bx K→G:=by intro K9;refine Yae ?_;refine zn ?_;exact K9.o):G:=h ⟨k⟩
theorem ZaP (k:K) (h:Bx K→G:=by intro K9;refine Yai ?_;refine Qg hS ?_;exact K9.o):G:=h ⟨k⟩
theorem ZaQ (k:K) (h:Bx K→G:=by intro K9;refine Zaf ?_;refine Zak ?_;exact K9.o):G:=h ⟨k⟩
theorem ZaR (k:K) (h:Bx K→G:=by intro K9;refine Zac ?_;refine znc ?_;exact K9.o):G:=h ⟨k⟩
theorem ZaS (k:K) (h:Bx K→G:=by intro K9;refine zn ?_;refine zr ?_;exact K9.o):G:=h ⟨k⟩
theorem ZaT (k:K) (h:Bx K→G:=by intro K9;refine zm ?_;refine zm ?_;exact K9.o):G:=h ⟨k⟩
theorem ZaU (k:K) (h:Bx K→G:=by intro K9;refine znc ?_;refine Yad ?_;exact K9.o):G:=h ⟨k⟩
theorem ZaV (k:K) (h:Bx K→G:=by intro K9;refine Yaf ?_;refine Yab ?_;exact K9.o):G:=h ⟨k⟩
theorem ZaW (k:K) (h:Bx K→G:=by intro K9;refine Zax ?_;refine Zaw ?_;exact K9.o):G:=h ⟨k⟩
theorem ZaX (k:K) (h:Bx K→G:=by intro K9;refine Zac ?_;refine zm ?_;exact K9.o):G:=h ⟨k⟩
theorem ZaY (k:K) (h:Bx K→G:=by intro K9;refine Zaj ?_;refine Qg hS ?_;exact K9.o):G:=h ⟨k⟩
theorem ZaZ (k:K) (h:Bx K→G:=by intro K9;refine ZaK ?_;refine zf2 ?_;exact K9.o):G:=h ⟨k⟩
theorem Zba (k:K) (h:Bx K→G:=by intro K9;refine zxt ?_;refine zxt ?_;exact K9.o):G:=h ⟨k⟩
theorem Zbb (k:K) (h:Bx K→G:=by intro K9;refine Zab ?_;refine ZaG ?_;exact K9.o):G:=h ⟨k⟩
theorem Zbc (k:K) (h:Bx K→G:=by intro K9;refine zn ?_;refine Qz ?_;exact K9.o):G:=h ⟨k⟩
theorem Zbd (k:K) (h:Bx K→G:=by intro K9;refine ZaA ?_;refine Yad ?_;exact K9.o):G:=h ⟨k⟩
theorem Zbe (k:K) (h:Bx K→G:=by intro K9;refine Zaa ?_;refine Qg hS ?_;exact K9.o):G:=h ⟨k⟩
theorem Zbf (k:K) (h:Bx K→G:=by intro K9;refine ZaE ?_;refine Zaa ?_;exact K9.o):G:=h ⟨k⟩
theorem Zbg (k:K) (h:Bx K→G:=by intro K9;refine Zax ?_;refine Zag ?_;exact K9.o):G:=h ⟨k⟩
theorem Zbh (k:K) (h:Bx K→G:=by intro K9;refine zm ?_;refine Zao ?_;exact K9.o):G:=h ⟨k⟩
theorem Zbi (k:K) (h:Bx K→G:=by intro K9;refine zn ?_;refine Q10 ?_;exact K9.o):G:=h ⟨k⟩
theorem Zbj (k:K) (h:Bx K→G:=by intro K9;refine Zad ?_;refine Zak ?_;exact K9.o):G:=h ⟨k⟩
theorem Zbk (k:K) (h:Bx K→G:=by intro K9;refine zxt ?_;refine Zab ?_;exact K9.o):G:=h ⟨k⟩
theorem Zbl (k:K) (h:Bx K→G:=by intro K9;refine Zam ?_;refine Yaa ?_;exact K9.o):G:=h ⟨k⟩
theorem Zbm (k:K) (h:Bx K→G:=by intro K9;refine znt ?_;refine zn ?_;exact K9.o):G:=h ⟨k⟩
theorem Zbn (k:K) (h:Bx K→G:=by intro K9;refine Zba ?_;refine Qg hS ?_;exact K9.o):G:=h ⟨k⟩
theorem Zbo (k:K) (h:Bx K→G:=by intro K9;refine Zbh ?_;refine Zac ?_;exact K9.o):G:=h ⟨k⟩
theorem Zbp (k:K) (h:Bx K→G:=by intro K9;refine ZaE ?_;refine Zac ?_;exact K9.o):G:=h ⟨k⟩
theorem Zbq (k:K) (h:Bx K→G:=by intro K9;refine Zac ?_;refine Zap ?_;exact K9.o):G:=h ⟨k⟩
theorem Zbr (k:K) (h:Bx K→G:=by intro K9;refine Yae ?_;refine Zam ?_;exact K9.o):G:=h ⟨k⟩
theorem Zbs (k:K) (h:Bx K→G:=by intro K9;refine QB ?_;refine Zaa ?_;exact K9.o):G:=h ⟨k⟩
theorem Zbt (k:K) (h:Bx K→G:=by intro K9;refine Zae ?_;refine znc ?_;exact K9.o):G:=h ⟨k⟩
theorem Zbu (k:K) (h:Bx K→G:=by intro K9;refine Zal ?_;refine Zaa ?_;exact K9.o):G:=h ⟨k⟩
theorem Zbv (k:K) (h:Bx K→G:=by intro K9;refine Yaf ?_;refine Zan ?_;exact K9.o):G:=h ⟨k⟩
theorem Zbw (k:K) (h:Bx K→G:=by intro K9;refine Zaw ?_;refine ZaG ?_;exact K9.o):G:=h ⟨k⟩
theorem Zbx (k:K) (h:Bx K→G:=by intro K9;refine Zab ?_;refine Yag ?_;exact K9.o):G:=h ⟨k⟩
theorem Zby (k:K) (h:Bx K→G:=by intro K9;refine Q3v ?_;refine Zaa ?_;exact K9.o):G:=h ⟨k⟩
theorem Zbz (k:K) (h:Bx K→G:=by intro K9;refine zm ?_;refine ZaZ ?_;exact K9.o):G:=h ⟨k⟩
theorem ZbA (k:K) (h:Bx K→G:=by intro K9;refine Zaf ?_;refine Zac ?_;exact K9.o):G:=h ⟨k⟩
theorem ZbB (k:K) (h:Bx K→G:=by intro K9;refine Zbk ?_;refine zxt ?_;exact K9.o):G:=h ⟨k⟩
theorem ZbC (k:K) (h:Bx K→G:=by intro K9;refine ZaF ?_;refine QB ?_;exact K9.o):G:=h ⟨k⟩
theorem ZbD (k:K) (h:Bx K→G:=by intro K9;refine Zaz ?_;refine znc ?_;exact K9.o):G:=h ⟨k⟩
theorem ZbE (k:K) (h:Bx K→G:=by intro K9;refine Zaf ?_;refine ZaR ?_;exact K9.o):G:=h ⟨k⟩
theorem ZbF (k:K) (h:Bx K→G:=by intro K9;refine Zab ?_;refine Yaf ?_;exact K9.o):G:=h ⟨k⟩
theorem ZbG (k:K) (h:Bx K→G:=by intro K9;refine Zab ?_;refine Yab ?_;exact K9.o):G:=h ⟨k⟩
theorem ZbH (k:K) (h:Bx K→G:=by intro K9;refine ZbG ?_;refine Zab ?_;exact K9.o):G:=h ⟨k⟩
theorem ZbI (k:K) (h:Bx K→G:=by intro K9;refine zm ?_;refine Zbn ?_;exact K9.o):G:=h ⟨k⟩
theorem ZbJ (k:K) (h:Bx K→G:=by intro K9;refine Yae ?_;refine zm ?_;exact K9.o):G:=h ⟨k⟩
theorem ZbK (k:K) (h:Bx K→G:=by intro K9;refine Zab ?_;refine zm ?_;exact K9.o):G:=h ⟨k⟩
theorem ZbL (k:K) (h:Bx K→G:=by intro K9;refine zex ?_;refine Zas ?_;exact K9.o):G:=h ⟨k⟩
theorem ZbM (k:K) (h:Bx K→G:=by intro K9;refine Yaa ?_;refine Zan ?_;exact K9.o):G:=h ⟨k⟩
theorem ZbN (k:K) (h:Bx K→G:=by intro K9;refine ZbF ?_;refine ZbH ?_;exact K9.o):G:=h ⟨k⟩
theorem ZbO (k:K) (h:Bx K→G:=by intro K9;refine Zaf ?_;refine Q3v ?_;exact K9.o):G:=h ⟨k⟩
theorem ZbP (k:K) (h:Bx K→G:=by intro K9;refine q_endR ?_;refine Qz ?_;exact K9.o):G:=h ⟨k⟩
end
end Go.Lir
namespace Go.Lir
@[reducible] def vi (n:Int):Value:= .int .i64 n
@[reducible] def vn:Value:= .slice none 0 0
end Go.Lir
namespace Go.Lir
set_option linter.unusedVariables false
inductive TyD where
 | p|b|f|i (k:IntKind)|s|l (e:Nat)|a (n e z:Nat)|t (z:Nat) (fs:List (Nat×Nat))|x
abbrev Tr:=Nat→TyD
def TyD.sz:TyD→Nat
 | .a _ _ z=> z
 | .t z _=> z
 | _=> 1
mutual
def zerD (D:Tr):Nat→TyD→List Value
 | 0,_=> []
 | _+1, .p=> [.pointer none]
 | _+1, .b=> [.bool false]
 | _+1, .f=> [.nilFunc]
 | _+1, .i k=> [.int k 0]
 | _+1, .s=> [.string ⟨#[]⟩]
 | _+1, .l _=> [.slice none 0 0]
 | _+1, .x=> [.nilIface]
 | n+1, .t _ fs=> zerF D n fs
 | n+1, .a m e _=> (List.replicate m (zerD D n (D e))).flatten
def zerF (D:Tr):Nat→List (Nat×Nat)→List Value
 | 0,_=> []
 | _+1,[]=> []
 | n+1,f::fs=> zerD D n (D f.2)++zerF D n fs
end
def zerT (D:Tr) (T:Nat):List Value:=zerD D 60 (D T)
def partD (D:Tr):TyD→List (Nat×Operand)→List (Nat×Nat×Operand)
 | .t z fs,(i,x)::r=> (match fs[i]? with|some f=> (f.1,(D f.2).sz,x)|none=> (0,0,x))::partD D (.t z fs) r
 | .a n e z,(i,x)::r=> (i*(D e).sz,(D e).sz,x)::partD D (.a n e z) r
 | _,_=> []
def cutO:Oper→LO
 | ⟨d, o, T, _, _, _⟩ => .raw ⟨d, o, T, "", #[], none⟩
def fldA (D:Tr) (f:Nat):TyD→Nat
 | .t _ fs=> match fs[f]? with|some p=> p.1|none=> 0
 | _=> 0
def fldT (D:Tr) (f:Nat):TyD→TyD
 | .t _ fs=> match fs[f]? with|some p=> D p.2|none=> .p
 | _=> .p
def loadD (d:Nat) (x:Operand):TyD→LO
 | .t z _=> .loadn d z x
 | .a _ _ z=> .loadn d z x
 | _=> .load1 d x
def storeD (x v:Operand):TyD→LO
 | .t z _=> .storen z x v
 | .a _ _ z=> .storen z x v
 | _=> .store1 x v
def fieldD (d:Nat) (x:Operand) (off:Nat):TyD→LO
 | .t z _=> .fldn d x off z
 | .a _ _ z=> .fldn d x off z
 | _=> .fldv d x off
def lowD1 (D:Tr) (o:Oper) (d:Nat):Op→LO
 | .move x=> .mov d x
 | .assign x=> .mov d x
 | .pick c x y=> .pick d c x y
 | .unOp op _ x=> .un d op x
 | .binOp op T x y _=> .bin d op T x y
 | .nilCheck x=> .nilc d x
 | .fieldAddr S x f=> .fld d x (fldA D f (D S))
 | .load T x=> loadD d x (D T)
 | .indexAddr T x i=> match D T with
   | .l e=> .idx d (D e).sz x i
   | .a n e _=> .idxa d n (D e).sz x i
   | _=> cutO o
 | .index T x i=> match D T with
   | .s=> .sidx d x i
   | _=> cutO o
 | .extract x i=> .ext d x i
 | .field S x f=> fieldD d x (fldA D f (D S)) (fldT D f (D S))
 | .alloc T=> .alloc d T (zerT D T)
 | .box T x=> .box d T x
 | .build T ps=> .build d (zerT D T) (partD D (D T) ps.toList)
 | .buildSlice T n ps=> match D T with
   | .l e=> if 0 < n then .buildS d e n ((List.replicate n (zerT D e)).flatten) (partD D (.a n e 0) ps.toList) else cutO o
   | _=> cutO o
 | .makeFunc (.func f) _ caps=> .mkfn d f caps.toList
 | .call ⟨.value (.func f),xs,_⟩=> .call (some d) f xs.toList
 | .call ⟨.value (.tmp f),xs,_⟩=> .callv (some d) (.tmp f) xs.toList
 | .slice T x lo hi mx=> match D T with
   | .l e=> .sub d (D e).sz x lo hi mx
   | .s=> .ssub d x lo hi
   | _=> cutO o
 | .convert S T x=> match D S,D T with
   | .i _, .i k=> .conv d k x
   | _,_=> cutO o
 | .makeInterface T x=> match D T with
   | .x=> cutO o
   | _=> .mki d T x
 | .call ⟨.builtin .min,⟨[x,y]⟩,_⟩=> .mnx d false x y
 | .call ⟨.builtin .max,⟨[x,y]⟩,_⟩=> .mnx d true x y
 | .call ⟨.builtin .len,⟨[x]⟩,⟨[T]⟩⟩=> match D T with
   | .s=> .slen d x
   | .l _=> .len d x
   | _=> cutO o
 | _=> cutO o
def lowD0 (D:Tr) (o:Oper):Op→LO
 | .store T x v=> storeD x v (D T)
 | .call ⟨.value (.func f),xs,_⟩=> .call none f xs.toList
 | .call ⟨.value (.tmp f),xs,_⟩=> .callv none (.tmp f) xs.toList
 | _=> cutO o
def lowO (D:Tr) (o:Oper):Option Nat→LO
 | none=> lowD0 D o o.op
 | some d=> lowD1 D o d o.op
def grdO (ops:Array Oper):Option (Nat×Bool)→Option (Nat×Bool)
 | none=> none
 | some (j,b)=> match ops[j]? with
   | some o=> match o.dst with
     | some s=> some (s,b)
     | none=> none
   | none=> none
def QfI (D:Tr) (ops:Array Oper):List Oper→List GO
 | []=> []
 | o::r=> ⟨grdO ops o.guard,lowO D o o.dst⟩::QfI D ops r
def lowS (D:Tr):Code→LC
 | .skip=> .skip
 | .region _ ops false=> .ops (QfI D ops ops.toList)
 | .region _ ops true=> .draw (QfI D ops ops.toList) (Q3X ops)
 | .seq a b=> .seq (lowS D a) (lowS D b)
 | .cond c a b=> .cond c (lowS D a) (lowS D b)
 | .block id a=> .block id (lowS D a)
 | .loop a=> .loop (lowS D a)
 | .exit id=> .exit id
 | .ret=> .ret
 | _=> .bad
def lowQ (D:Tr):Option Code→LC
 | some c=> lowS D c
 | none=> .bad
def lowSD (D:Tr):Code→LD
 | .seq a b=> bif Qeg a||Qeg b then .seq (lowSD D a) (lowSD D b) else .pl (lowS D (.seq a b))
 | .region id ops false=> match Q6t ops.toList with
   | some (l1,_,s,l2)=> .sp (QfI D ops l1) s (QfI D ops l2)
   | none=> .pl (lowS D (.region id ops false))
 | c=> .pl (lowS D c)
def lowQD (D:Tr):Option Code→LD
 | some c=> lowSD D c
 | none=> .pl .bad
section
variable {P:Program}{f:FuncId}{fn:Func}{args:List Value}{w:World}{rs:List ResultVar}(D:Tr)
theorem lgo {R:Ending→World→Prop}{lc:LC}(hf:P.funcs[f]?=some fn) (h:lc.wp P (retQ P rs R) (Q6m args) w) (e:lowQ D fn.body=lc:=by set_option maxRecDepth 100000 in (conv=> lhs;cbv)) (hl:lowF P fn=some lc:=by kernel_rfl) (hrs:fn.results.toList=rs:=by set_option maxRecDepth 100000 in (conv=> lhs;cbv)) (hn:Nat.ble args.length fn.ntmps=true:=by kernel_rfl):Calls P f ⟨args⟩ w R:=QbJ hf hl hrs hn h
theorem lgd {R:Ending→World→Prop}{ld:LD}(hf:P.funcs[f]?=some fn) (h:ld.wpD P (retD P rs R) [] (Q6m args) w) (e:lowQD D fn.body=ld:=by set_option maxRecDepth 100000 in (conv=> lhs;cbv)) (hl:Qea P fn=some ld:=by kernel_rfl) (hrs:fn.results.toList=rs:=by set_option maxRecDepth 100000 in (conv=> lhs;cbv)) (hn:Nat.ble args.length fn.ntmps=true:=by kernel_rfl):Calls P f ⟨args⟩ w R:=QaG hf hl hrs hn h
theorem lgr {R:Ending→FrameMode→World→Prop}{u:FrameMode}{ld:LD}(hf:P.funcs[f]?=some fn) (h:ld.wpR P (retR P rs R) u (Q6m args) w) (e:lowQD D fn.body=ld:=by set_option maxRecDepth 100000 in (conv=> lhs;cbv)) (hl:Qea P fn=some ld:=by kernel_rfl) (hrs:fn.results.toList=rs:=by set_option maxRecDepth 100000 in (conv=> lhs;cbv)) (hn:Nat.ble args.length fn.ntmps=true:=by kernel_rfl):CallsD P f ⟨args⟩ u w R:=Q9a hf hl hrs hn h
end
end Go.Lir
namespace Go.Proofs.YteflkifmgnpbhaaGreat
open Go.Lir
def tyaa (i:Nat):TyD:=if i < 7 then if i < 2 then if i < 1 then .p else .f else if i < 4 then .i .i64 else if i < 5 then .b else .i .u8 else if i < 12 then if i < 9 then .t 4 [(0,2),(1,3),(2,4),(3,6)] else .s else if i < 13 then .i .u64 else if i < 15 then .t 2 [(0,9),(1,12)] else .p
def tyab (i:Nat):TyD:=if i < 25 then if i < 21 then if i < 20 then .t 1 [(0,17)] else .x else if i < 22 then .i .i32 else if i < 23 then .l 95 else .t 1 [(0,22)] else if i < 28 then if i < 26 then .l 2 else .f else if i < 30 then .t 2 [(0,3),(1,3)] else if i < 32 then .f else .t 4 [(0,3),(1,25),(2,25),(3,3)]
def tyac (i:Nat):TyD:=if i < 43 then if i < 39 then if i < 35 then .p else .f else if i < 41 then .p else if i < 42 then .f else .p else if i < 45 then if i < 44 then .f else .l 131 else if i < 47 then .t 2 [(0,44),(1,3)] else if i < 48 then .l 119 else .t 13 [(0,24),(1,46),(3,47),(4,25),(5,33),(9,3),(10,4),(11,29)]
def tyad (i:Nat):TyD:=if i < 59 then if i < 53 then if i < 52 then .f else .p else if i < 54 then .l 110 else if i < 56 then .t 12 [(0,52),(1,24),(2,53),(3,25),(4,33),(8,3),(9,4),(10,29)] else .f else if i < 63 then if i < 61 then .p else .f else if i < 64 then .p else if i < 65 then .l 138 else .t 10 [(0,63),(1,24),(2,64),(3,25),(4,33),(8,3),(9,4)]
def tyae (i:Nat):TyD:=if i < 74 then if i < 69 then if i < 68 then .p else .l 3 else if i < 71 then .t 3 [(0,4),(1,68),(2,3)] else if i < 72 then .a 16 70 48 else .t 49 [(0,67),(1,71)] else if i < 76 then if i < 75 then .p else .f else if i < 78 then .p else if i < 79 then .f else .t 4 [(0,39),(1,59),(2,29)]
def tyaf (i:Nat):TyD:=if i < 89 then if i < 85 then if i < 83 then .f else .t 8 [(0,3),(1,3),(2,3),(3,3),(4,3),(5,2),(6,68),(7,68)] else if i < 86 then .l 84 else if i < 87 then .l 115 else .t 3 [(0,3),(1,68),(2,68)] else if i < 93 then if i < 91 then .t 9 [(0,3),(1,3),(2,88),(5,88),(8,68)] else .t 12 [(0,3),(1,86),(2,85),(3,90)] else if i < 94 then .l 92 else if i < 96 then .t 4 [(0,3),(1,86),(2,86),(3,93)] else .f
def tyag (i:Nat):TyD:=if i < 114 then if i < 108 then if i < 98 then .p else .f else if i < 109 then .l 224 else if i < 111 then .t 5 [(0,3),(1,3),(2,3),(3,108),(4,68)] else .f else if i < 117 then if i < 116 then .t 3 [(0,3),(1,3),(2,86)] else .f else if i < 118 then .l 182 else if i < 120 then .t 5 [(0,3),(1,3),(2,3),(3,117),(4,68)] else .t 0 []
def tyah (i:Nat):TyD:=if i < 128 then if i < 124 then if i < 123 then .i .i64 else .p else if i < 125 then .f else if i < 126 then .l 267 else .t 3 [(0,125),(1,3),(2,3)] else if i < 130 then if i < 129 then .p else .l 278 else if i < 132 then .t 4 [(0,4),(1,129),(2,3),(3,3)] else if i < 135 then .f else .p
def tyai (i:Nat):TyD:=if i < 142 then if i < 139 then if i < 137 then .f else .t 4 [(0,3),(1,3),(2,3),(3,25)] else if i < 140 then .i .i64 else if i < 141 then .b else .f else if i < 146 then if i < 143 then .p else .f else if i < 147 then .l 4 else if i < 149 then .t 3 [(0,25),(1,68),(2,146)] else .f
def tyaj (i:Nat):TyD:=if i < 161 then if i < 157 then if i < 156 then .p else .f else if i < 159 then .t 7 [(0,24),(1,95),(5,155),(6,86)] else if i < 160 then .f else .p else if i < 164 then if i < 162 then .f else .t 1 [(0,146)] else if i < 171 then .f else if i < 172 then .p else .t 4 [(0,24),(1,29),(3,3)]
def tyak (i:Nat):TyD:=if i < 184 then if i < 179 then if i < 178 then .f else .p else if i < 181 then .f else if i < 183 then .t 4 [(0,3),(1,3),(2,3),(3,2)] else .b else if i < 186 then if i < 185 then .f else .b else if i < 187 then .f else if i < 188 then .b else .f
def tyal (i:Nat):TyD:=if i < 198 then if i < 191 then if i < 190 then .b else .f else if i < 192 then .b else if i < 197 then .f else .p else if i < 209 then if i < 207 then .f else .p else if i < 210 then .f else if i < 212 then .t 7 [(0,4),(1,4),(2,4),(3,4),(4,4),(5,4),(6,4)] else .b
def tyam (i:Nat):TyD:=if i < 226 then if i < 217 then if i < 216 then .f else .b else if i < 224 then .f else if i < 225 then .t 4 [(0,3),(1,3),(2,3),(3,2)] else .f else if i < 232 then if i < 227 then .b else .f else if i < 233 then .p else if i < 238 then .f else .p
def tyan (i:Nat):TyD:=if i < 257 then if i < 244 then if i < 243 then .f else .p else if i < 255 then .f else if i < 256 then .i .u64 else .p else if i < 265 then if i < 259 then .t 7 [(0,256),(1,24),(2,95),(6,86)] else .f else if i < 266 then .l 272 else if i < 268 then .t 4 [(0,4),(1,265),(2,3),(3,3)] else .p
def tyao (i:Nat):TyD:=if i < 279 then if i < 273 then if i < 271 then .f else .t 2 [(0,4),(1,108)] else if i < 274 then .p else if i < 277 then .f else .t 2 [(0,4),(1,117)] else if i < 283 then if i < 280 then .p else .f else if i < 284 then .i .i64 else if i < 285 then .p else .f
def tyap (i:Nat):TyD:=if i < 295 then if i < 292 then if i < 290 then .b else .f else if i < 293 then .i .u32 else if i < 294 then .f else .i .u64 else if i < 298 then if i < 297 then .t 1 [(0,146)] else .i .i64 else if i < 299 then .b else if i < 304 then .f else .a 15 9 15
def tyaq (i:Nat):TyD:=if i < 311 then if i < 307 then if i < 306 then .f else .l 5 else if i < 308 then .f else if i < 310 then .p else .i .u64 else if i < 315 then if i < 314 then .f else .p else if i < 317 then .f else if i < 318 then .p else .f
def tyar (i:Nat):TyD:=if i < 327 then if i < 323 then if i < 322 then .t 4 [(0,17),(1,17),(2,17),(3,9)] else .a 0 16 0 else if i < 325 then .t 0 [(0,322)] else .i .u8 else if i < 329 then if i < 328 then .f else .p else if i < 331 then .i .i32 else if i < 333 then .t 11 [(0,12),(1,12),(2,292),(3,325),(4,5),(5,5),(6,326),(7,327),(8,328),(9,329),(10,330)] else .p
def tyD (i:Nat):TyD:=if i < 155 then if i < 67 then if i < 34 then if i < 18 then tyaa i else tyab i else if i < 50 then tyac i else tyad i else if i < 97 then if i < 81 then tyae i else tyaf i else if i < 122 then tyag i else if i < 136 then tyah i else tyai i else if i < 239 then if i < 189 then if i < 174 then tyaj i else tyak i else if i < 213 then tyal i else tyam i else if i < 289 then if i < 269 then tyan i else tyao i else if i < 305 then tyap i else if i < 320 then tyaq i else tyar i
end Go.Proofs.YteflkifmgnpbhaaGreat
namespace Go.Proofs.YteflkifmgnpbhaaGreat
open Go.Lir

@[reducible] def Q5p:FuncId:=12
@[reducible] def Law_long:FuncId:=14
@[reducible] def QaI:FuncId:=18
@[reducible] def Qg3:FuncId:=20
@[reducible] def Q3q:FuncId:=23
@[reducible] def Q63:FuncId:=25
@[reducible] def Q8u:FuncId:=26
@[reducible] def Q97:FuncId:=27
@[reducible] def Q4D:FuncId:=29
@[reducible] def raw_New:FuncId:=35
@[reducible] def Q7l:FuncId:=36
@[reducible] def Q4d:FuncId:=37
@[reducible] def Q5v:FuncId:=38
@[reducible] def Q5g:FuncId:=39
@[reducible] def Q5G:FuncId:=40
@[reducible] def QaN:FuncId:=44
@[reducible] def QaJ:FuncId:=45
@[reducible] def twin_New:FuncId:=46
@[reducible] def Q8V:FuncId:=47
@[reducible] def QcY:FuncId:=48
@[reducible] def QeG:FuncId:=49
@[reducible] def QdM:FuncId:=50
@[reducible] def QgF:FuncId:=51
@[reducible] def QbR:FuncId:=58
@[reducible] def Qes:FuncId:=62
@[reducible] def heap_New:FuncId:=63
@[reducible] def code_Own:FuncId:=64
@[reducible] def Q2k:FuncId:=65
@[reducible] def Q5D:FuncId:=69
@[reducible] def Q2a:FuncId:=70
@[reducible] def Q6U:FuncId:=71
@[reducible] def Qek:FuncId:=79
@[reducible] def Q3m:FuncId:=80
@[reducible] def Qdj:FuncId:=81
@[reducible] def Q80:FuncId:=82
@[reducible] def Q82:FuncId:=83
@[reducible] def Q1F:FuncId:=84
@[reducible] def Q55:FuncId:=89
@[reducible] def QaM:FuncId:=91
@[reducible] def Q3B:FuncId:=92
@[reducible] def QcU:FuncId:=101
@[reducible] def Q8M:FuncId:=103
@[reducible] def QcQ:FuncId:=104
@[reducible] def Q8L:FuncId:=105
@[reducible] def Q27:FuncId:=106
@[reducible] def Q4K:FuncId:=107
@[reducible] def Q7q:FuncId:=108
@[reducible] def Q6d:FuncId:=109
@[reducible] def Qep:FuncId:=110
@[reducible] def Q56:FuncId:=111
@[reducible] def Q6S:FuncId:=114
@[reducible] def Qeq:FuncId:=115
@[reducible] def Qer:FuncId:=116
@[reducible] def Q9w:FuncId:=117
@[reducible] def Q6W:FuncId:=118
@[reducible] def Q6X:FuncId:=119
@[reducible] def Qa2:FuncId:=132
@[reducible] def Q81:FuncId:=133
@[reducible] def QdK:FuncId:=134
@[reducible] def Q7Z:FuncId:=135
@[reducible] def Q6b:FuncId:=136
@[reducible] def Q6a:FuncId:=137
@[reducible] def Q6z:FuncId:=138
@[reducible] def Q7j:FuncId:=139
@[reducible] def Q37:FuncId:=140
@[reducible] def Q6A:FuncId:=141
@[reducible] def Q8Z:FuncId:=142
@[reducible] def Q7k:FuncId:=143
@[reducible] def Qew:FuncId:=158
@[reducible] def QbV:FuncId:=159
@[reducible] def Q2l:FuncId:=160
@[reducible] def QbI:FuncId:=161
@[reducible] def Q1h:FuncId:=162
@[reducible] def QdQ:FuncId:=163
@[reducible] def Q98:FuncId:=164
@[reducible] def Q99:FuncId:=165
@[reducible] def Q7d:FuncId:=166
@[reducible] def Q6T:FuncId:=168
@[reducible] def Qbx:FuncId:=169
@[reducible] def Q6V:FuncId:=170
@[reducible] def Q96:FuncId:=171
@[reducible] def Q9v:FuncId:=172
@[reducible] def Q95:FuncId:=173
@[reducible] def Q6R:FuncId:=174
@[reducible] def Q61:FuncId:=175
@[reducible] def Q8t:FuncId:=176
@[reducible] def Q5Y:FuncId:=177
@[reducible] def Qas:FuncId:=178
@[reducible] def Qaq:FuncId:=179
@[reducible] def Q5E:FuncId:=180
@[reducible] def Q60:FuncId:=181
@[reducible] def Qar:FuncId:=182
@[reducible] def Q62:FuncId:=183
@[reducible] def Q7p:FuncId:=184
@[reducible] def Q2C:FuncId:=185
@[reducible] def QbO:FuncId:=194
@[reducible] def QcT:FuncId:=195
@[reducible] def Q70:FuncId:=196
@[reducible] def Q3y:FuncId:=197
@[reducible] def Q83:FuncId:=198
@[reducible] def Q3x:FuncId:=199
@[reducible] def Q2J:FuncId:=203
@[reducible] def code_Ins:FuncId:=204
@[reducible] def code_End:FuncId:=208
@[reducible] def QdP:FuncId:=211
@[reducible] def QbU:FuncId:=212
@[reducible] def code_has:FuncId:=213
@[reducible] def Qgn:FuncId:=214
@[reducible] def QaE:FuncId:=215
@[reducible] def Qap:FuncId:=216
@[reducible] def Qao:FuncId:=217
@[reducible] def Q2I:FuncId:=218
@[reducible] def Qbz:FuncId:=219
@[reducible] def Q8v:FuncId:=220
@[reducible] def Q5Z:FuncId:=221
@[reducible] def Q71:FuncId:=225
@[reducible] def Q3t:FuncId:=252
@[reducible] def Q94:FuncId:=253
@[reducible] def Q3w:FuncId:=254
@[reducible] def Q3Q:FuncId:=262
@[reducible] def QaT:FuncId:=263
@[reducible] def Q4f:FuncId:=265
end Go.Proofs.YteflkifmgnpbhaaGreat


namespace Go.Proofs.YteflkifmgnpbhaaGreat
open Go.Lir
theorem Qgj:Q1A Tryz.prog 68=some (3,1,8,[.int .i64 0]):=by kernel_rfl
theorem Qgl:Q1A Tryz.prog 146=some (4,1,1,[.bool false]):=by kernel_rfl
theorem QcN:Q1A Tryz.prog 25=some (2,1,8,[.int .i64 0]):=by kernel_rfl
theorem QeD:∃e2,Tryz.prog.underlying 68=some (.slice e2):=⟨3,by kernel_rfl⟩
end Go.Proofs.YteflkifmgnpbhaaGreat
namespace Go.Proofs.YteflkifmgnpbhaaGreat
open Go.Lir
set_option maxHeartbeats 1000000
attribute [local irreducible] LC.wp Q0 Qk Qh retQ Qt LO.wp Q4 Calls
set_option linter.unusedSimpArgs false
set_option linter.unusedVariables false


def tkOf (n:Nat) (fr:List Int):List Bool:=(List.range n).map fun (j:Nat)=> !decide ((j:Int)∈fr)
theorem Q1l (n:Nat) (fr:List Int):(tkOf n fr).length=n:=by simp [tkOf]
theorem Q3O {n j:Nat}{fr:List Int}(h:j < n):(tkOf n fr).getD j false= !decide ((j:Int)∈fr):=by
 simp [tkOf,List.getD_eq_getElem?_getD,List.getElem?_map,List.getElem?_range h]
theorem Q9H {n:Nat}{fr:List Int}{l:List Bool}(hl:l.length=n) (h:∀j < n,l.getD j false= !decide ((j:Int)∈fr)):l=tkOf n fr:=
 QdE false (by rw [hl,Q1l]) fun j hj=> by rw [h j (by omega),Q3O (by omega)]
theorem QeL {n:Nat}{fr:List Int}{k:Nat}(hk:k < n):(tkOf n fr).set k false=tkOf n (fr++[(k:Int)]):=by
 refine Q9H (by rw [List.length_set,Q1l]) fun j hj=> ?_
 rw [Q69 (by rw [Q1l];exact hk)]
 by_cases h:k=j
 · subst h;simp
 · rw [if_neg h,Q3O hj]
   have:(j:Int)≠k:=by omega
   simp [this]
theorem QeK {n:Nat}{fr:List Int}{k:Nat}(hk:k < n) (hn:(k:Int)∉fr):(tkOf n (fr++[(k:Int)])).set k true=tkOf n fr:=by
 refine Q9H (by rw [List.length_set,Q1l]) fun j hj=> ?_
 rw [Q69 (by rw [Q1l];exact hk)]
 by_cases h:k=j
 · subst h;simp [hn]
 · rw [if_neg h,Q3O hj]
   have:(j:Int)≠k:=by omega
   simp [this]
def Q2w (n i:Nat):List Int:=(List.range i).map fun j=> ((n - 1 - j:Nat):Int)
theorem QcK {n i:Nat}:Q2w n (i+1)=Q2w n i++[((n - 1 - i:Nat):Int)]:=by
 simp [Q2w,List.range_succ]
theorem Q4X (n i:Nat):(Q2w n i).length=i:=by simp [Q2w]
theorem Q2X {n i:Nat}{x:Int}(hi:i≤n):x∈Q2w n i↔(n:Int) - i≤x∧x < n:=by
 simp only [Q2w,List.mem_map,List.mem_range]
 constructor
 · rintro ⟨j,hj,rfl⟩;omega
 · rintro ⟨h1,h2⟩;exact ⟨n - 1 - x.toNat,by omega,by omega⟩
theorem Q7a {n i:Nat}(hi:i≤n):(Q2w n i).Nodup:=by
 unfold Q2w List.Nodup
 rw [List.pairwise_map]
 refine (List.pairwise_lt_range (n:=i)).imp_of_mem ?_
 intro a b ha hb h e
 simp only [List.mem_range] at ha hb
 omega

def Q2x (ws:List Int) (k:Nat):List Int:=ws.take (k*16)++(List.replicate 16 0++ws.drop (k*16+16))
theorem QcR {ws:List Int}{k:Nat}:(Q2x ws k).map Qj=(ws.map Qj).take (k*16)++(List.replicate ((k+1)*16 - k*16) (Qj 0)++(ws.map Qj).drop ((k+1)*16)):=by
 rw [show (k+1)*16 - k*16=16 by omega,show (k+1)*16=k*16+16 by omega]
 simp [Q2x,List.map_take,List.map_drop]
theorem Q8Q {ws:List Int}{k n:Nat}(h:ws.length=n*16) (hk:k < n):(Q2x ws k).length=n*16:=by
 simp [Q2x];omega

structure PoolOk (n:Nat) (ws fr:List Int):Prop where
 len:ws.length=n*16
 nd:fr.Nodup
 rng:∀x∈fr,0≤x∧x < n
 le:n≤64
theorem PoolOk.frlen {n:Nat}{ws fr:List Int}(h:PoolOk n ws fr):fr.length≤n:=by
 have:=Q3o (b:=Q2w n n) h.nd fun x hx=> (Q2X (Nat.le_refl n)).2 (by have:=h.rng x hx;omega)
 rw [Q4X] at this;exact this
theorem PoolOk.store {n i:Nat}{ws fr:List Int}{x:Int}(h:PoolOk n ws fr):PoolOk n (ws.set i x) fr:=⟨by rw [List.length_set];exact h.len,h.nd,h.rng,h.le⟩
theorem PoolOk.take {n k:Nat}{ws fr:List Int}(h:PoolOk n ws (fr++[(k:Int)])):PoolOk n (Q2x ws k) fr∧k < n∧(k:Int)∉fr:=by
 have hk:=h.rng k (by simp)
 obtain ⟨h1,_,h3⟩:=List.nodup_append.1 h.nd
 exact ⟨⟨Q8Q h.len (by omega),h1,fun x hx=> h.rng x (by simp [hx]),h.le⟩,by omega,fun hm=> h3 _ hm _ (by simp) rfl⟩
theorem PoolOk.give {n k:Nat}{ws fr:List Int}(h:PoolOk n ws fr) (hk:k < n) (hn:(k:Int)∉fr):PoolOk n ws (fr++[(k:Int)]):=
 ⟨h.len,by rw [List.nodup_append];exact ⟨h.nd,by simp,fun a ha b hb e=> by simp at hb;subst hb;subst e;exact hn ha⟩,fun x hx=> by
   rcases List.mem_append.1 hx with hx|hx
   · exact h.rng x hx
   · simp at hx;omega,h.le⟩
theorem Q9k {n:Nat}(h:n≤64):PoolOk n (List.replicate (n*16) 0) (Q2w n n):=
 ⟨by simp,Q7a (Nat.le_refl n),fun x hx=> by have:=(Q2X (Nat.le_refl n)).1 hx;omega,h⟩


structure PoolR (H:Heap) (p:Value) (F:Nat→Prop) (n:Nat) (ws fr:List Int) (b:Nat) (vw vl vt:Value) (Fw Fl Ft:Nat→Prop):Prop where
 hp:p= .pointer (some ⟨b,0,none⟩)
 blk:Blk H b 148 [vw,vl,vt]
 sw:Sl H 2 1 vw Fw (ws.map Qj)
 sl:Sl H 3 1 vl Fl (fr.map Qj)
 st:Sl H 4 1 vt Ft ((tkOf n fr).map QD)
 nw:¬Fw b
 nl:¬Fl b
 nt:¬Ft b
 wl:∀x,Fw x→¬Fl x
 wt:∀x,Fw x→¬Ft x
 lt:∀x,Fl x→¬Ft x
 hF:∀x,F x↔x=b∨Fw x∨Fl x∨Ft x
 ok:PoolOk n ws fr
def PoolH (H:Heap) (p:Value) (F:Nat→Prop) (n:Nat) (ws fr:List Int):Prop:=∃b vw vl vt Fw Fl Ft,PoolR H p F n ws fr b vw vl vt Fw Fl Ft
theorem PoolH.fr {p:Value}{F G:Nat→Prop}{n:Nat}{ws fr:List Int}{w w':World}(h:PoolH w.heap p F n ws fr) (hf:Fr G w w') (hn:∀b,F b→¬G b):PoolH w'.heap p F n ws fr:=by
 obtain ⟨b,vw,vl,vt,Fw,Fl,Ft,h⟩:=h
 exact ⟨b,vw,vl,vt,Fw,Fl,Ft,h.hp,h.blk.fr hf (hn b ((h.hF b).2 (.inl rfl))),h.sw.fr hf (fun x hx=> hn x ((h.hF x).2 (.inr (.inl hx)))),h.sl.fr hf (fun x hx=> hn x ((h.hF x).2 (.inr (.inr (.inl hx))))),
  h.st.fr hf (fun x hx=> hn x ((h.hF x).2 (.inr (.inr (.inr hx))))),h.nw,h.nl,h.nt,h.wl,h.wt,h.lt,h.hF,h.ok⟩
theorem PoolH.lt {p:Value}{F:Nat→Prop}{n:Nat}{ws fr:List Int}{H:Heap}(h:PoolH H p F n ws fr):∀b,F b→b < H.size:=by
 obtain ⟨b,vw,vl,vt,Fw,Fl,Ft,h⟩:=h
 intro x hx
 rcases (h.hF x).1 hx with rfl|hx|hx|hx
 · exact h.blk.lt
 · exact h.sw.lt x hx
 · exact h.sl.lt x hx
 · exact h.st.lt x hx

theorem free_c {p:Value}{F:Nat→Prop}{n:Nat}{ws fr:List Int}{w:World}(h:PoolH w.heap p F n ws fr):Rets Tryz.prog Q5g [p] w fun v w'=> v= .int .i64 fr.length∧w'=w:=by
 obtain ⟨b,vw,vl,vt,Fw,Fl,Ft,rfl,hb,hw,hl,ht,nw,nl,nt,wl,wt,lt,hF,ok⟩:=h
 all_goals refine lgo tyD Tryz.func39 ?_
 all_goals (refine ZbE ?_;refine zf0 ?_;refine Q1u rfl (by assumption) (by rfl) ?_;refine Q5b (by (conv=> lhs;whnf);first|done|exact rfl) hl ?_;refine Zap ?_;exact ⟨_,rfl,by rw [List.length_map],rfl⟩)
theorem Qc1 {p:Value}{F:Nat→Prop}{n:Nat}{ws:List Int}{w:World}(h:PoolH w.heap p F n ws []):Rets Tryz.prog Q3w [p] w fun v w'=> v= .int .i64 (-1)∧w'=w:=by
 obtain ⟨b,vw,vl,vt,Fw,Fl,Ft,rfl,hb,hw,hl,ht,nw,nl,nt,wl,wt,lt,hF,ok⟩:=h
 all_goals refine lgo tyD Tryz.func254 ?_
 all_goals (refine ZbE ?_;refine zf0 ?_;refine Q1u rfl (by assumption) (by rfl) ?_;refine Q5b (by (conv=> lhs;whnf);first|done|exact rfl) hl ?_;rw [List.map_nil,List.length_nil];refine zsu ?_;refine Zbj ?_)
 all_goals (refine Q15 ?_)
 all_goals (refine zn ?_)
 all_goals refine zct ?_
 all_goals (refine Zas ?_;exact ⟨_,rfl,rfl,rfl⟩)
theorem take_c {p:Value}{F:Nat→Prop}{n k:Nat}{ws fr:List Int}{w:World}(h:PoolH w.heap p F n ws (fr++[(k:Int)])):Rets Tryz.prog Q3w [p] w fun v w'=> v= .int .i64 k∧PoolH w'.heap p F n (Q2x ws k) fr∧Fr F w w':=by
 obtain ⟨b,vw,vl,vt,Fw,Fl,Ft,rfl,hb,hw,hl,ht,nw,nl,nt,wl,wt,lt,hF,ok⟩:=h
 obtain ⟨ok',hk,hkn⟩:=ok.take
 have hll:((fr++[(k:Int)]).map Qj).length=fr.length+1:=by simp
 have hlw:(ws.map Qj).length=n*16:=by rw [List.length_map];exact ok.len
 have hfl:=ok.frlen;rw [List.length_append,List.length_singleton] at hfl;have hn:=ok.le
 all_goals refine lgo tyD Tryz.func254 ?_
 all_goals (refine ZbE ?_;refine zf0 ?_;refine Q1u rfl (by assumption) (by rfl) ?_;refine Q5b (by (conv=> lhs;whnf);first|done|exact rfl) hl ?_;rw [hll];refine zsu ?_;rw [show ((fr.length+1:Nat):Int) - 1=(fr.length:Int) by omega];refine Zbj ?_)
 all_goals (refine Yau ?_)
 all_goals (refine zn ?_)
 all_goals refine zcf ?_
 all_goals (refine zsk ?_;refine ZaR ?_;refine zf0 ?_;refine Q1u rfl (by assumption) (by rfl) ?_;refine zm ?_;refine Q5s (by (conv=> lhs;whnf);first|done|exact rfl) rfl hl (by omega) ?_;intro b1 o1 hel1;refine Q2N rfl hel1 (c:=Qj k) (by rw [List.map_append,List.getElem?_append_right (by rw [List.length_map];omega)];simp) rfl ?_;refine ZaL ?_;refine ZaA ?_;refine zf0 ?_;refine Q1u rfl (by assumption) (by rfl) ?_;refine zm ?_;refine s_subS (by (conv=> lhs;whnf);first|done|exact rfl) hl rfl ⟨_,rfl⟩ rfl (by omega) (by omega) ?_;intro vl1 hs1;rw [show ((List.map Qj (fr++[(k:Int)])).take fr.length).drop 0=fr.map Qj by rw [List.drop_zero,List.map_append,List.take_left' (by rw [List.length_map])]] at hs1;refine znc ?_;refine zf0 ?_;refine Q9N rfl (by (conv=> lhs;whnf);first|done|exact rfl) hb (by simp) hs1.oneC (by rfl) ?_;intro w2 hf2 hz2 hb2;have hs2:=hs1.fr hf2 (fun x hx e=> nl (e ▸ hx));have hw2:=hw.fr hf2 (fun x hx e=> nw (e ▸ hx));have ht2:=ht.fr hf2 (fun x hx e=> nt (e ▸ hx)))
 all_goals (refine ZbD ?_;refine zf0 ?_;refine Q1u rfl (by assumption) (by rfl) ?_;refine zm ?_;refine Q5s (by (conv=> lhs;whnf);first|done|exact rfl) rfl ht2 (by rw [List.length_map,Q1l];exact hk) ?_;intro b3 o3 hel3;refine Q9O rfl (by (conv=> lhs;whnf);first|done|exact rfl) hel3 (Q16 QD _ false (by rw [Q1l];exact hk)) (by omega) rfl ?_;intro w3 hf3 hz3 hel3';have ht3:=hel3'.sl;rw [show (QD ((tkOf n (fr++[(k:Int)])).getD k false)).set 0 (Value.bool true)=QD true from rfl,map_set,QeK hk hkn] at ht3;have hb3:=hb2.fr hf3 nt;have hs3:=hs2.fr hf3 lt;have hw3:=hw2.fr hf3 wt;refine ZbD ?_;refine zf0 ?_;refine Q1u rfl (by assumption) (by rfl) ?_;refine zm ?_;refine zmu ?_;refine zm ?_;refine zad ?_;refine zmu ?_)
 all_goals (refine s_subP (T:=2) (l':=k*16) (h':=(k+1)*16) (by (conv=> lhs;whnf);first|done|exact rfl) hw3 rfl ⟨_,rfl⟩ ⟨_,rfl⟩ (by omega) (by omega) ?_;intro v4 hsub4;refine s_clear QcN (by simp [oneC]) rfl hw3 hsub4 (by omega) (by omega) ?_;intro w4 hf4 hz4 hw4;have hb4:=hb3.fr hf4 nw;have hs4:=hs3.fr hf4 (fun x hl hw=> wl x hw hl);have ht4:=ht3.fr hf4 (fun x ht hw=> wt x hw ht);refine Zaz ?_;refine Zap ?_;refine ⟨_,rfl,rfl,⟨b,vw,vl1,vt,Fw,Fl,Ft,rfl,hb4,by rw [QcR];exact hw4,hs4,ht4,nw,nl,nt,wl,wt,lt,hF,ok'⟩,?_⟩;refine ((hf2.mono fun x _ hx=> (hF x).2 (.inl hx)).trans (hf3.mono fun x _ hx=> (hF x).2 (.inr (.inr (.inr hx)))) (fun _ _ h=> h)).trans (hf4.mono fun x _ hx=> (hF x).2 (.inr (.inl hx))) (fun _ _ h=> h))
theorem give_c {p:Value}{F:Nat→Prop}{n k:Nat}{ws fr:List Int}{w:World}(h:PoolH w.heap p F n ws fr) (hk:k < n) (hkn:(k:Int)∉fr):Rets Tryz.prog Q3y [p, .int .i64 k] w fun v w'=> v= .bool true∧∃F',PoolH w'.heap p F' n ws (fr++[(k:Int)])∧Step F F' w w':=by
 obtain ⟨b,vw,vl,vt,Fw,Fl,Ft,rfl,hb,hw,hl,ht,nw,nl,nt,wl,wt,lt,hF,ok⟩:=h
 have hlt:((tkOf n fr).map QD).length=n:=by rw [List.length_map,Q1l]
 have hfl:=ok.frlen;have hn:=ok.le
 have htk:(tkOf n fr).getD k false=true:=by rw [Q3O hk];simp [hkn]
 all_goals refine lgo tyD Tryz.func197 ?_
 all_goals (refine ZaQ ?_)
 all_goals (refine Yau ?_)
 all_goals (refine Zbl ?_;refine ZaV ?_;(first|refine zgn ?_|(refine zgy ?_;(first|(refine Q2N rfl hel1 (Q16 QD _ false (by rw [Q1l];omega)) rfl ?_;rw [htk])|(refine Q1u rfl (by assumption) (by rfl) ?_))));(first|refine zgn ?_|(refine zgy ?_;refine Q5b (by (conv=> lhs;whnf);first|done|exact rfl) ht ?_)))
 all_goals (refine Yay ?_)
 all_goals ((first|refine Q1m rfl (by (conv=> lhs;whnf);first|done|exact rfl) ?_|refine Q1C rfl (by (conv=> lhs;whnf);first|done|exact rfl) ?_);refine Zam ?_;refine ZaV ?_;(first|refine zgn ?_|(refine zgy ?_;(first|(refine Q2N rfl hel1 (Q16 QD _ false (by rw [Q1l];omega)) rfl ?_;rw [htk])|(refine Q1u rfl (by assumption) (by rfl) ?_))));refine Yaa ?_;(first|refine zgn ?_|(refine zgy ?_;refine Q5s (by (conv=> lhs;whnf);first|done|exact rfl) rfl ht (by omega) ?_;intro b1 o1 hel1));(first|refine zgn ?_|(refine zgy ?_;refine Q2N rfl hel1 (Q16 QD _ false (by rw [Q1l];omega)) rfl ?_;rw [htk]));refine Yak ?_;(first|refine Q1m rfl (by (conv=> lhs;whnf);first|done|exact rfl) ?_|refine Q1C rfl (by (conv=> lhs;whnf);first|done|exact rfl) ?_))
 all_goals (refine zn ?_)
 all_goals refine zcf ?_
 all_goals (refine zsk ?_;refine ZaR ?_;refine zf0 ?_;(first|(refine Q2N rfl hel1 (Q16 QD _ false (by rw [Q1l];omega)) rfl ?_;rw [htk])|(refine Q1u rfl (by assumption) (by rfl) ?_));refine zm ?_;refine Q5s (by (conv=> lhs;whnf);first|done|exact rfl) rfl ht (by omega) ?_;intro b1 o1 hel1;refine Q9O rfl (by (conv=> lhs;whnf);first|done|exact rfl) hel1 (Q16 QD _ false (by rw [Q1l];omega)) (by omega) rfl ?_;intro w3 hf3 hz3 hel3;have ht3:=hel3.sl;rw [show (QD ((tkOf n fr).getD k false)).set 0 (Value.bool false)=QD false from rfl,map_set,QeL hk] at ht3;have hb3:=hb.fr hf3 nt;have hl3:=hl.fr hf3 lt;have hw3:=hw.fr hf3 wt;refine Zaz ?_;refine ZaA ?_;refine zf0 ?_)
 all_goals ((first|(refine Q2N rfl hel1 (Q16 QD _ false (by rw [Q1l];omega)) rfl ?_;rw [htk])|(refine Q1u rfl (by assumption) (by rfl) ?_));refine zm ?_;refine Q2b (cs:=[_]) (by (conv=> lhs;whnf);first|done|exact rfl) (by rfl) ?_;intro b4 w4 hb4 hf4 hz4 hk4;have hb4:=hb3.fr0 hf4;have hl4:=hl3.fr0 hf4;have hw4:=hw3.fr0 hf4;have ht4:=ht3.fr0 hf4)
 all_goals (refine s_app Qgj (.inl QeD) (by (conv=> lhs;whnf);first|done|exact rfl) (by (conv=> lhs;whnf);first|done|exact rfl) hl4 (Qc4 hk4 rfl) (by simp;omega) ?_;rintro vl5 w5 ⟨Fl5,hl5,hf5,hsub5⟩;have hout:∀x,x < w.heap.size→¬Fl x→¬Fl5 x:=(fun x hx hn h=> (hsub5 x h).elim hn (fun hz=> absurd hz (by have:=hf3.size;have:=hf4.size;omega)));have hb5:=hb4.fr hf5 nl;have hw5:=hw4.fr hf5 wl;have ht5:=ht4.fr hf5 (fun x ht hl=> lt x hl ht))
 all_goals (refine znc ?_;refine zf0 ?_;refine Q9N rfl (by (conv=> lhs;whnf);first|done|exact rfl) hb5 (by simp) hl5.oneC (by rfl) ?_;intro w6 hf6 hz6 hb6;have nl5:=hout b hb.lt nl;have hl6:=hl5.fr hf6 (fun x hx e=> nl5 (e ▸ hx));have hw6:=hw5.fr hf6 (fun x hx e=> nw (e ▸ hx));have ht6:=ht5.fr hf6 (fun x hx e=> nt (e ▸ hx));refine zn ?_;refine Zas ?_)
 all_goals (refine ⟨_,rfl,rfl,fun x=> x=b∨Fw x∨Fl5 x∨Ft x,⟨b,vw,vl5,vt,Fw,Fl5,Ft,rfl,hb6,hw6,by rw [List.map_append];exact hl6,ht6,nw,nl5,nt,fun x hx=> hout x (hw.lt x hx) (wl x hx),wt,fun x h5 ht'=> hout x (ht.lt x ht') (fun h=> lt x h ht') h5,fun x=> Iff.rfl,ok.give hk hkn⟩,(((hf3.into fun x h=> (hF x).2 (.inr (.inr (.inr h)))).then0 hf4).cat (hf5.into fun x h=> (hF x).2 (.inr (.inr (.inl h))))).cat (hf6.into fun x h=> (hF x).2 (.inl h)),fun x hx=> ?_⟩;rcases hx with h|h|h|h;exact .inl ((hF x).2 (.inl h));exact .inl ((hF x).2 (.inr (.inl h)));(rcases hsub5 x h with h|h;exact .inl ((hF x).2 (.inr (.inr (.inl h))));exact .inr (by have:=hf3.size;have:=hf4.size;omega));exact .inl ((hF x).2 (.inr (.inr (.inr h)))))
theorem Qgb {p:Value}{F:Nat→Prop}{n:Nat}{k:Int}{ws fr:List Int}{w:World}(h:PoolH w.heap p F n ws fr) (hk:k < 0∨(n:Int)≤k∨k∈fr):Rets Tryz.prog Q3y [p, .int .i64 k] w fun v w'=> v= .bool false∧w'=w:=by
 obtain ⟨b,vw,vl,vt,Fw,Fl,Ft,rfl,hb,hw,hl,ht,nw,nl,nt,wl,wt,lt,hF,ok⟩:=h
 have hlt:((tkOf n fr).map QD).length=n:=by rw [List.length_map,Q1l]
 all_goals refine lgo tyD Tryz.func197 ?_
 all_goals (refine ZaQ ?_)
 all_goals (first|(refine Q15 ?_)|(refine Q1c ?_)|(refine Qu rfl rfl (fun hc=> ?_) (fun hc=> ?_)))
 all_goals (refine Zbl ?_;refine ZaV ?_;(first|refine zgn ?_|(refine zgy ?_;(first|(refine Q2N rfl hel1 (Q16 QD _ false (by rw [Q1l];omega)) rfl ?_;rw [Q3O (by omega),show ((k.toNat:Nat):Int)=k by omega,decide_eq_true (show k∈fr from hk.resolve_left (by omega)|>.resolve_left (by omega))])|(refine Q1u rfl (by assumption) (by rfl) ?_))));(first|refine zgn ?_|(refine zgy ?_;refine Q5b (by (conv=> lhs;whnf);first|done|exact rfl) ht ?_)))
 all_goals (first|refine zgn ?_|(refine zgy ?_;(first|(refine Q2n ?_)|(refine Q2Z ?_)|(refine Q1r rfl rfl (fun hc=> ?_) (fun hc=> ?_)))))
 all_goals ((first|refine Q1m rfl (by (conv=> lhs;whnf);first|done|exact rfl) ?_|refine Q1C rfl (by (conv=> lhs;whnf);first|done|exact rfl) ?_);refine Zam ?_;refine ZaV ?_;(first|refine zgn ?_|(refine zgy ?_;(first|(refine Q2N rfl hel1 (Q16 QD _ false (by rw [Q1l];omega)) rfl ?_;rw [Q3O (by omega),show ((k.toNat:Nat):Int)=k by omega,decide_eq_true (show k∈fr from hk.resolve_left (by omega)|>.resolve_left (by omega))])|(refine Q1u rfl (by assumption) (by rfl) ?_))));refine Yaa ?_;(first|refine zgn ?_|(refine zgy ?_;refine Qf7 (by (conv=> lhs;whnf);first|done|exact rfl) rfl ht (by omega) (by omega) ?_;intro b1 o1 hel1));(first|refine zgn ?_|(refine zgy ?_;refine Q2N rfl hel1 (Q16 QD _ false (by rw [Q1l];omega)) rfl ?_;rw [Q3O (by omega),show ((k.toNat:Nat):Int)=k by omega,decide_eq_true (show k∈fr from hk.resolve_left (by omega)|>.resolve_left (by omega))])))
 all_goals (refine Yak ?_;(first|refine Q1m rfl (by (conv=> lhs;whnf);first|done|exact rfl) ?_|refine Q1C rfl (by (conv=> lhs;whnf);first|done|exact rfl) ?_);refine zn ?_)
 all_goals refine zct ?_
 all_goals (refine Zas ?_;exact ⟨_,rfl,rfl,rfl⟩)
theorem store_c {p:Value}{F:Nat→Prop}{n i:Nat}{x:Int}{ws fr:List Int}{w:World}(h:PoolH w.heap p F n ws fr) (hi:i < n*16):Rets Tryz.prog Q37 [p, .int .i64 i, .int .i64 x] w fun v w'=> v= .bool true∧PoolH w'.heap p F n (ws.set i x) fr∧Fr F w w':=by
 obtain ⟨b,vw,vl,vt,Fw,Fl,Ft,rfl,hb,hw,hl,ht,nw,nl,nt,wl,wt,lt,hF,ok⟩:=h
 have hlw:(ws.map Qj).length=n*16:=by rw [List.length_map];exact ok.len
 have hle:=ok.le;have hol:=ok.len
 all_goals refine lgo tyD Tryz.func140 ?_
 all_goals (refine ZaQ ?_)
 all_goals (refine Yau ?_)
 all_goals (refine Zbl ?_;refine ZaV ?_;(first|refine zgn ?_|(refine zgy ?_;refine Q1u rfl (by assumption) (by rfl) ?_));(first|refine zgn ?_|(refine zgy ?_;refine Q5b (by (conv=> lhs;whnf);first|done|exact rfl) hw ?_)))
 all_goals (refine Yay ?_)
 all_goals ((first|refine Q1m rfl (by (conv=> lhs;whnf);first|done|exact rfl) ?_|refine Q1C rfl (by (conv=> lhs;whnf);first|done|exact rfl) ?_);refine zn ?_)
 all_goals refine zcf ?_
 all_goals (refine zsk ?_;refine ZaR ?_;refine zf0 ?_;refine Q1u rfl (by assumption) (by rfl) ?_;refine ZaT ?_;refine Q5s (by (conv=> lhs;whnf);first|done|exact rfl) rfl hw (by omega) ?_;intro b1 o1 hel1;refine Q9O rfl (by (conv=> lhs;whnf);first|done|exact rfl) hel1 (Q16 Qj _ 0 (by omega)) (by omega) rfl ?_;intro w3 hf3 hz3 hel3;have hw3:=hel3.sl;rw [show (Qj (ws.getD i 0)).set 0 (Value.int .i64 x)=Qj x from rfl,map_set] at hw3;refine zn ?_;refine Zas ?_;exact ⟨_,rfl,rfl,⟨b,vw,vl,vt,Fw,Fl,Ft,rfl,hb.fr hf3 nw,hw3,hl.fr hf3 (fun x hl hw=> wl x hw hl),ht.fr hf3 (fun x ht hw=> wt x hw ht),nw,nl,nt,wl,wt,lt,hF,ok.store⟩,hf3.into fun x h=> (hF x).2 (.inr (.inl h))⟩)
theorem QdR {p:Value}{F:Nat→Prop}{n:Nat}{i x:Int}{ws fr:List Int}{w:World}(h:PoolH w.heap p F n ws fr) (hi:i < 0∨((n*16:Nat):Int)≤i):Rets Tryz.prog Q37 [p, .int .i64 i, .int .i64 x] w fun v w'=> v= .bool false∧w'=w:=by
 obtain ⟨b,vw,vl,vt,Fw,Fl,Ft,rfl,hb,hw,hl,ht,nw,nl,nt,wl,wt,lt,hF,ok⟩:=h
 have hlw:(ws.map Qj).length=n*16:=by rw [List.length_map];exact ok.len
 all_goals refine lgo tyD Tryz.func140 ?_
 all_goals (refine ZaQ ?_)
 all_goals (first|(refine Q15 ?_)|(refine Q1c ?_)|(refine Qu rfl rfl (fun hc=> ?_) (fun hc=> ?_)))
 all_goals (refine Zbl ?_;refine ZaV ?_;(first|refine zgn ?_|(refine zgy ?_;refine Q1u rfl (by assumption) (by rfl) ?_));(first|refine zgn ?_|(refine zgy ?_;refine Q5b (by (conv=> lhs;whnf);first|done|exact rfl) hw ?_)))
 all_goals (first|refine zgn ?_|(refine zgy ?_;refine Q2n ?_))
 all_goals ((first|refine Q1m rfl (by (conv=> lhs;whnf);first|done|exact rfl) ?_|refine Q1C rfl (by (conv=> lhs;whnf);first|done|exact rfl) ?_);refine zn ?_)
 all_goals refine zct ?_
 all_goals (refine Zas ?_;exact ⟨_,rfl,rfl,rfl⟩)
theorem load_c {p:Value}{F:Nat→Prop}{n i:Nat}{ws fr:List Int}{w:World}(h:PoolH w.heap p F n ws fr) (hi:i < n*16):Rets Tryz.prog Q3x [p, .int .i64 i] w fun v w'=> v= .tuple #[.int .i64 (ws.getD i 0), .bool true]∧w'=w:=by
 obtain ⟨b,vw,vl,vt,Fw,Fl,Ft,rfl,hb,hw,hl,ht,nw,nl,nt,wl,wt,lt,hF,ok⟩:=h
 have hlw:(ws.map Qj).length=n*16:=by rw [List.length_map];exact ok.len
 have hle:=ok.le;have hol:=ok.len
 all_goals refine lgo tyD Tryz.func199 ?_
 all_goals (refine Zac ?_;refine Zbj ?_)
 all_goals (refine Yau ?_)
 all_goals (refine Zbl ?_;refine ZaV ?_;(first|refine zgn ?_|(refine zgy ?_;(first|(refine Q2N rfl hel1 (Q16 Qj _ 0 (by omega)) rfl ?_)|(refine Q1u rfl (by assumption) (by rfl) ?_))));(first|refine zgn ?_|(refine zgy ?_;refine Q5b (by (conv=> lhs;whnf);first|done|exact rfl) hw ?_)))
 all_goals (refine Yay ?_)
 all_goals ((first|refine Q1m rfl (by (conv=> lhs;whnf);first|done|exact rfl) ?_|refine Q1C rfl (by (conv=> lhs;whnf);first|done|exact rfl) ?_);refine zn ?_)
 all_goals refine zcf ?_
 all_goals (refine zsk ?_;refine ZaR ?_;refine zf0 ?_;(first|(refine Q2N rfl hel1 (Q16 Qj _ 0 (by omega)) rfl ?_)|(refine Q1u rfl (by assumption) (by rfl) ?_));refine zm ?_;refine Q5s (by (conv=> lhs;whnf);first|done|exact rfl) rfl hw (by omega) ?_;intro b1 o1 hel1;refine Q2N rfl hel1 (Q16 Qj _ 0 (by omega)) rfl ?_;refine Zbz ?_;exact ⟨_,rfl,rfl,rfl⟩)
theorem QfJ {p:Value}{F:Nat→Prop}{n:Nat}{i:Int}{ws fr:List Int}{w:World}(h:PoolH w.heap p F n ws fr) (hi:i < 0∨((n*16:Nat):Int)≤i):Rets Tryz.prog Q3x [p, .int .i64 i] w fun v w'=> v= .tuple #[.int .i64 0, .bool false]∧w'=w:=by
 obtain ⟨b,vw,vl,vt,Fw,Fl,Ft,rfl,hb,hw,hl,ht,nw,nl,nt,wl,wt,lt,hF,ok⟩:=h
 have hlw:(ws.map Qj).length=n*16:=by rw [List.length_map];exact ok.len
 all_goals refine lgo tyD Tryz.func199 ?_
 all_goals (refine Zac ?_;refine Zbj ?_)
 all_goals (first|(refine Q15 ?_)|(refine Q1c ?_)|(refine Qu rfl rfl (fun hc=> ?_) (fun hc=> ?_)))
 all_goals (refine Zbl ?_;refine ZaV ?_;(first|refine zgn ?_|(refine zgy ?_;refine Q1u rfl (by assumption) (by rfl) ?_));(first|refine zgn ?_|(refine zgy ?_;refine Q5b (by (conv=> lhs;whnf);first|done|exact rfl) hw ?_)))
 all_goals (first|refine zgn ?_|(refine zgy ?_;refine Q2n ?_))
 all_goals ((first|refine Q1m rfl (by (conv=> lhs;whnf);first|done|exact rfl) ?_|refine Q1C rfl (by (conv=> lhs;whnf);first|done|exact rfl) ?_);refine zn ?_)
 all_goals refine zct ?_
 all_goals (refine Zac ?_;refine ZaZ ?_;exact ⟨_,rfl,rfl,rfl⟩)
theorem tkOf_new (n:Nat):tkOf n (Q2w n n)=List.replicate n false:=by
 symm
 refine Q9H (by simp) fun j hj=> ?_
 have:(j:Int)∈Q2w n n:=(Q2X (Nat.le_refl n)).2 (by omega)
 simp [this,List.getD_eq_getElem?_getD,hj]

theorem QfB {n:Int}(w:World) (hn:n < 0∨64 < n):Rets Tryz.prog Qa2 [.int .i64 n] w fun v w'=> v= .tuple #[.pointer none, .agg ⟨[.int .i64 1, .int .i64 (-1)]⟩]∧Fr NF w w':=by
 all_goals refine lgo tyD Tryz.func132 ?_
 all_goals (refine Zac ?_;refine Qcc ?_;intro b3 w1 hb3e hf1 hz1 hb3;refine zn ?_;refine Zak ?_)
 all_goals (first|(refine Q15 ?_)|(refine Q1c ?_)|(refine Qu rfl rfl (fun hc=> ?_) (fun hc=> ?_)))
 all_goals (refine Zam ?_)
 all_goals (refine Yax ?_)
 all_goals ((first|refine Q1m rfl (by (conv=> lhs;whnf);first|done|exact rfl) ?_|refine Q1C rfl (by (conv=> lhs;whnf);first|done|exact rfl) ?_);refine zn ?_)
 all_goals refine zct ?_
 all_goals (refine Zaa ?_;refine Q5N (cs:=[_,_]) (by (conv=> lhs;whnf);first|done|exact rfl) (by (conv=> lhs;whnf);first|done|exact rfl) (by rfl) ?_;refine zm ?_;refine QaZ rfl rfl (by rfl) hb3 (by simp) (by simp [oneC]) (cs':=[_,_]) (by rfl) ?_;intro w2 hf2 hz2 hb2;refine ZaS ?_;refine Q1G (by (conv=> lhs;whnf);first|done|exact rfl) (by (conv=> lhs;whnf);first|done|exact rfl) (Q9 (n:=2) (by kernel_rfl) (by kernel_rfl) hb2 (by rfl) (by rfl)) ?_;exact ⟨_,rfl,rfl,Q4Z hf1 (fun b hb=> by omega) hf2⟩)

theorem plnew_c {n:Nat}(w:World) (hn:n≤64):Rets Tryz.prog Qa2 [.int .i64 n] w fun v w'=>∃p F,v= .tuple #[p, .agg ⟨[.int .i64 0, .int .i64 0]⟩]∧PoolH w'.heap p F n (List.replicate (n*16) 0) (Q2w n n)∧Fr NF w w'∧∀b,F b→w.heap.size≤b:=by
 all_goals refine lgo tyD Tryz.func132 ?_
 all_goals (refine Zac ?_;refine Qcc ?_;intro b3 w1 hb3e hf hz1 hb3;refine zn ?_;refine Zak ?_)
 all_goals (refine Yau ?_)
 all_goals (refine Zam ?_)
 all_goals (refine Yao ?_)
 all_goals ((first|refine Q1m rfl (by (conv=> lhs;whnf);first|done|exact rfl) ?_|refine Q1C rfl (by (conv=> lhs;whnf);first|done|exact rfl) ?_);refine zn ?_)
 all_goals refine zcf ?_
 all_goals (refine zsk ?_)
 refine s_mid (fun ρ' w'=>∃(b:Nat) (vw vt:Value) (Fw Ft:Nat→Prop),Has ρ' [(0, .int .i64 n),(3, .pointer (some ⟨b3,0,none⟩)),(4, .pointer (some ⟨b,0,none⟩))]∧Blk w'.heap b 148 [vw, .slice none 0 0,vt]∧Sl w'.heap 2 1 vw Fw (List.replicate (n*16) (Qj 0))∧Sl w'.heap 4 1 vt Ft (List.replicate n (QD false))∧Blk w'.heap b3 29 [.int .i64 0, .int .i64 0]∧Fr NF w w'∧¬Fw b∧¬Ft b∧(∀x,Fw x→¬Ft x)∧b≠b3∧¬Fw b3∧¬Ft b3∧w.heap.size≤b∧(∀x,Fw x→w.heap.size≤x)∧∀x,Ft x→w.heap.size≤x) ?_ ?_
 · skip
   refine Q1N 2 4 (by kernel_rfl) ?_ ?_
   · skip
     all_goals (refine Qca [(0,none),(1,none),(3,none),(2,some (some [])),(4,some none),(5,none),(6,some none),(7,some none)] (by kernel_rfl) ?_;have hf:=hf.drew';have hb3:=hb3.fr0 (Fr.drew' (Fr.refl NF _));refine s_cq ?_;refine zm ?_;refine ZaM ?_;refine s_cq ?_;refine zmu ?_;refine ZaM ?_;refine s_cq ?_;refine zm ?_;refine ZaM ?_;refine Q4g ?_;refine Qb3 QcN rfl rfl (by omega) (by omega) ?_;intro vw w2 hfw hw hzw;have hb3:=hb3.fr0 hfw;have hf:=hf.then0 hfw;refine ZaM ?_;refine ⟨fun _ h=> (List.not_mem_nil h).elim,?_⟩;refine s_cf ?_;refine Qb3 Qgl rfl rfl (by omega) (by omega) ?_;intro vt w3 hft ht hzt;have hb3:=hb3.fr0 hft;have hf:=hf.then0 hft;refine ZaM ?_;refine s_cq ?_;obtain ⟨aw,cw,rfl⟩:=hw.shape;obtain ⟨at_,ct,rfl⟩:=ht.shape;refine Q5N (cs:=[_,_,_]) (by (conv=> lhs;whnf);first|done|exact rfl) (by (conv=> lhs;whnf);first|done|exact rfl) (by rfl) ?_;refine ZaM ?_;refine s_cf ?_;have hw:=hw.fr0 hft;(first|have ht:=ht.fr0 hfw|skip);refine Qfe (by (conv=> lhs;whnf);first|done|exact rfl) (by rfl) ?_;intro b w4 hb hf4 hz4 hblk;have hb3:=hb3.fr0 hf4;have hw:=hw.fr0 hf4;have ht:=ht.fr0 hf4;have hf:=hf.then0 hf4)
     all_goals (refine ZaM ?_;refine s_cf ?_;refine zm ?_;refine ZaM ?_;refine zcn ?_;have hd0:w1.drew.heap.size=w1.heap.size:=rfl;exact ⟨b,_,_,_,_,⟨rfl,rfl,rfl,trivial⟩,hblk,hw,ht,hb3,hf,fun (h:b=_)=> by omega,fun (h:b=_)=> by omega,fun x (h:x=_) (h':x=_)=> by omega,by omega,fun (h:b3=_)=> by omega,fun (h:b3=_)=> by omega,by omega,fun x (h:x=_)=> by omega,fun x (h:x=_)=> by omega⟩)
   · skip
     all_goals (refine Qca [(0,none),(1,none),(3,none),(4,some (some [])),(2,some (some [])),(5,none),(6,some none),(7,some none)] (by kernel_rfl) ?_;have hf:=hf.drew';have hb3:=hb3.fr0 (Fr.drew' (Fr.refl NF _));refine s_cq ?_;refine zm ?_;refine ZaM ?_;refine s_cq ?_;refine zmu ?_;refine ZaM ?_;refine s_cq ?_;refine zm ?_;refine ZaM ?_;refine Q4g ?_;refine Qb3 Qgl rfl rfl (by omega) (by omega) ?_;intro vt w3 hft ht hzt;have hb3:=hb3.fr0 hft;have hf:=hf.then0 hft;refine ZaM ?_;refine ⟨fun _ h=> (List.not_mem_nil h).elim,?_⟩;refine Q4g ?_;refine Qb3 QcN rfl rfl (by omega) (by omega) ?_;intro vw w2 hfw hw hzw;have hb3:=hb3.fr0 hfw;have hf:=hf.then0 hfw;refine ZaM ?_;refine ⟨fun _ h=> (List.not_mem_nil h).elim,?_⟩;refine s_cq ?_;obtain ⟨aw,cw,rfl⟩:=hw.shape;obtain ⟨at_,ct,rfl⟩:=ht.shape;refine Q5N (cs:=[_,_,_]) (by (conv=> lhs;whnf);first|done|exact rfl) (by (conv=> lhs;whnf);first|done|exact rfl) (by rfl) ?_;refine ZaM ?_;refine s_cf ?_;(first|have hw:=hw.fr0 hft|skip);have ht:=ht.fr0 hfw;refine Qfe (by (conv=> lhs;whnf);first|done|exact rfl) (by rfl) ?_;intro b w4 hb hf4 hz4 hblk;have hb3:=hb3.fr0 hf4;have hw:=hw.fr0 hf4;have ht:=ht.fr0 hf4;have hf:=hf.then0 hf4)
     all_goals (refine ZaM ?_;refine s_cf ?_;refine zm ?_;refine ZaM ?_;refine zcn ?_;have hd0:w1.drew.heap.size=w1.heap.size:=rfl;exact ⟨b,_,_,_,_,⟨rfl,rfl,rfl,trivial⟩,hblk,hw,ht,hb3,hf,fun (h:b=_)=> by omega,fun (h:b=_)=> by omega,fun x (h:x=_) (h':x=_)=> by omega,by omega,fun (h:b3=_)=> by omega,fun (h:b3=_)=> by omega,by omega,fun x (h:x=_)=> by omega,fun x (h:x=_)=> by omega⟩)
 rintro ρ w5 ⟨b,vw,vt,Fw,Ft,hρ,hb0,hw0,ht0,hb30,hf0,nw,nt,wt,nb,nw3,nt3,low,loww,lowt⟩;obtain ⟨ρ,rfl⟩:=Q3I _ hρ
 all_goals (refine Zak ?_;refine ZaB ?_)
 refine Q9g (fun ρ' w'=>∃(i:Nat) (vl:Value) (Fl:Nat→Prop),Has ρ' [(0, .int .i64 n),(3, .pointer (some ⟨b3,0,none⟩)),(4, .pointer (some ⟨b,0,none⟩)),(20, .int .i64 n),(21, .int .i64 i)]∧i≤n∧Blk w'.heap b 148 [vw,vl,vt]∧Sl w'.heap 2 1 vw Fw (List.replicate (n*16) (Qj 0))∧Sl w'.heap 4 1 vt Ft (List.replicate n (QD false))∧Sl w'.heap 3 1 vl Fl ((Q2w n i).map Qj)∧Blk w'.heap b3 29 [.int .i64 0, .int .i64 0]∧Fr NF w w'∧¬Fl b∧(∀x,Fl x→¬Fw x)∧(∀x,Fl x→¬Ft x)∧¬Fl b3∧∀x,Fl x→w.heap.size≤x) (fun ρ' _=> (n - iv (ρ' 21)).toNat) ?_ ?_
 · exact ⟨0,_,NF,⟨rfl,rfl,rfl,rfl,rfl,trivial⟩,Nat.zero_le _,hb0,hw0,ht0,Sl.nil _ _ _,hb30,hf0,fun h=> h,fun _ h=> h.elim,fun _ h=> h.elim,fun h=> h,fun _ h=> h.elim⟩
 rintro ρ w5 ⟨i,vl,Fl,hρ,hi,hb,hw,ht,hl,hb3,hf,nl,lw,lt,nl3,lowl⟩;obtain ⟨ρ,rfl⟩:=Q3I _ hρ;have hsz:=hf.size;have hfl:((Q2w n i).map Qj).length=i:=(by rw [List.length_map,Q4X])
 all_goals (refine ZaI ?_)
 refine Qq rfl (fun hc=> ?_) (fun hc=> ?_)
 · skip
   all_goals (refine Zbp ?_;refine Zad ?_;refine Zae ?_;refine ZaA ?_;refine zf0 ?_;refine Q1u rfl (by assumption) (by rfl) ?_;refine zm ?_;refine zsu ?_;refine zm ?_;refine zsu ?_;refine Q2b (cs:=[_]) (by (conv=> lhs;whnf);first|done|exact rfl) (by rfl) ?_;intro b6 w6 hb6 hf6 hz6 hk6;have hb:=hb.fr0 hf6;have hw:=hw.fr0 hf6;have ht:=ht.fr0 hf6;have hl:=hl.fr0 hf6;have hb3:=hb3.fr0 hf6;have hf:=hf.then0 hf6)
   all_goals (refine s_app Qgj (.inl QeD) (by (conv=> lhs;whnf);first|done|exact rfl) (by (conv=> lhs;whnf);first|done|exact rfl) hl (Qc4 hk6 rfl) (by rw [hfl];simp;omega) ?_;rintro vl7 w7 ⟨Fl7,hl7,hf7,hsub7⟩;have hout:∀x,x < w6.heap.size→¬Fl x→¬Fl7 x:=(fun x hx hn h=> (hsub7 x h).elim hn (fun hz=> absurd hz (by omega)));have hll:=hw.lt;have hlt:=ht.lt;have hlb:=hb.lt;have hlb3:=hb3.lt;have hb:=hb.fr hf7 nl;have hw:=hw.fr hf7 (fun x h h'=> lw x h' h);have ht:=ht.fr hf7 (fun x h h'=> lt x h' h);have hb3:=hb3.fr hf7 nl3;have hf:=Q4Z hf lowl hf7;have nl7:=hout b hlb nl;have lowl7:∀x,Fl7 x→w.heap.size≤x:=(fun x h=> (hsub7 x h).elim (lowl x) (fun h=> by omega)))
   all_goals (refine znc ?_;refine zf0 ?_;refine Q9N rfl (by (conv=> lhs;whnf);first|done|exact rfl) hb (by simp) hl7.oneC (by rfl) ?_;intro w8 hf8 hz8 hb8;have hl8:=hl7.fr hf8 (fun x hx e=> nl7 (e ▸ hx));have hw8:=hw.fr hf8 (fun x hx e=> nw (e ▸ hx));have ht8:=ht.fr hf8 (fun x hx e=> nt (e ▸ hx));have hb38:=hb3.fr hf8 (fun e=> nb e.symm);have hf8':=Q4Z hf (fun x hx=> by omega) hf8;refine Zbi ?_;refine zad ?_;refine Zad ?_)
   all_goals (refine ⟨⟨i+1,vl7,Fl7,⟨rfl,rfl,rfl,rfl,rfl,trivial⟩,by omega,hb8,hw8,ht8,?_,hb38,hf8',nl7,fun x h h'=> hout x (hll x h') (fun h=> lw x h h') h,fun x h h'=> hout x (hlt x h') (fun h=> lt x h h') h,hout b3 hlb3 nl3,lowl7⟩,Qv (by omega)⟩;rw [QcK,List.map_append];rw [show ((n - 1 - i:Nat):Int)=(n:Int) - 1 - i by omega];exact hl8)
 · skip
   all_goals (refine zex ?_;refine Zac ?_;refine Q7v (cs:=[_,_]) (by rfl) ?_;refine zm ?_;refine QaZ rfl rfl (by rfl) hb3 (by simp) (by simp [oneC]) (cs':=[_,_]) (by rfl) ?_;intro w9 hf9 hz9 hb9;refine ZaS ?_)
   all_goals (refine Q1G (by (conv=> lhs;whnf);first|done|exact rfl) (by (conv=> lhs;whnf);first|done|exact rfl) (Q9 (n:=2) (by kernel_rfl) (by kernel_rfl) hb9 (by rfl) (by rfl)) ?_;obtain rfl:i=n:=(by omega);refine ⟨_,rfl,_,fun x=> x=b∨Fw x∨Fl x∨Ft x,rfl,⟨b,vw,vl,vt,Fw,Fl,Ft,rfl,hb.fr hf9 nb,?_,?_,?_,nw,nl,nt,fun x h h'=> lw x h' h,wt,lt,fun x=> Iff.rfl,Q9k hn⟩,Q4Z hf (fun x hx=> by omega) hf9,?_⟩;rw [List.map_replicate];exact hw.fr hf9 (fun x hx e=> nw3 (e ▸ hx));exact hl.fr hf9 (fun x hx e=> nl3 (e ▸ hx));rw [tkOf_new,List.map_replicate];exact ht.fr hf9 (fun x hx e=> nt3 (e ▸ hx));rintro x (rfl|h|h|h);exact low;exact loww x h;exact lowl x h;exact lowt x h)
end Go.Proofs.YteflkifmgnpbhaaGreat

namespace Go.Proofs.YteflkifmgnpbhaaGreat
open Go.Lir
set_option maxHeartbeats 1000000
attribute [local irreducible] LC.wp Q0 Qk Qh retQ Qt LO.wp Q4 Calls
set_option linter.unusedSimpArgs false
set_option linter.unusedVariables false

end Go.Proofs.YteflkifmgnpbhaaGreat
namespace Go.Proofs.YteflkifmgnpbhaaGreat
open Go.Lir
set_option maxHeartbeats 1000000
attribute [local irreducible] LC.wp Q0 Qk Qh retQ Qt LO.wp Q4 Calls
set_option linter.unusedSimpArgs false
set_option linter.unusedVariables false

structure PoolS where
 n:Nat
 ws:List Int
 fr:List Int
def PoolS.Ok (s:PoolS):Prop:=PoolOk s.n s.ws s.fr
def PoolS.mk0 (n:Nat):PoolS:=⟨n,List.replicate (n*16) 0,Q2w n n⟩
def PoolS.top (s:PoolS):Int:=s.fr.getLastD (-1)
def PoolS.take (s:PoolS):PoolS:=if s.fr=[] then s else ⟨s.n,Q2x s.ws s.top.toNat,s.fr.dropLast⟩
def PoolS.can (s:PoolS) (k:Int):Bool:=decide (0≤k∧k < s.n∧k∉s.fr)
def PoolS.give (s:PoolS) (k:Int):PoolS:=if s.can k then ⟨s.n,s.ws,s.fr++[k]⟩ else s
def PoolS.isIn (s:PoolS) (i:Int):Bool:=decide (0≤i∧i < ((s.n*16:Nat):Int))
def PoolS.store (s:PoolS) (i x:Int):PoolS:=if s.isIn i then ⟨s.n,s.ws.set i.toNat x,s.fr⟩ else s
def PoolS.word (s:PoolS) (i:Int):Int:=if s.isIn i then s.ws.getD i.toNat 0 else 0

theorem PoolS.ok_new {n:Nat}(h:n≤64):(PoolS.mk0 n).Ok:=Q9k h
theorem PoolS.split {s:PoolS}(h:s.Ok):(s.fr=[]∧s.top=-1∧s.take=s)∨∃(k:Nat) (fr:List Int),s=⟨s.n,s.ws,fr++[(k:Int)]⟩∧s.top=k∧s.take=⟨s.n,Q2x s.ws k,fr⟩:=by
 obtain ⟨n,ws,fr⟩:=s
 rcases List.eq_nil_or_concat fr with rfl|⟨fr,k,rfl⟩
 · exact .inl ⟨rfl,rfl,rfl⟩
 · simp only [List.concat_eq_append] at h ⊢
   have hk:=h.rng k (by simp)
   refine .inr ⟨k.toNat,fr,by rw [Int.toNat_of_nonneg hk.1],?_,?_⟩
   · simp [PoolS.top];omega
   · simp [PoolS.take,PoolS.top]
theorem PoolS.ok_take {s:PoolS}(h:s.Ok):s.take.Ok:=by
 rcases PoolS.split h with ⟨_,_,e⟩|⟨k,fr,e,_,e2⟩
 · rw [e];exact h
 · rw [e2];rw [e] at h;exact (PoolOk.take h).1
theorem PoolS.ok_give {s:PoolS}(h:s.Ok) (k:Int):(s.give k).Ok:=by
 unfold PoolS.give PoolS.can
 split
 · rename_i hc
   have hc:=of_decide_eq_true hc
   obtain ⟨k,rfl⟩:=Int.eq_ofNat_of_zero_le hc.1
   exact PoolOk.give (n:=s.n) h (by omega) hc.2.2
 · exact h
theorem PoolS.ok_store {s:PoolS}(h:s.Ok) (i x:Int):(s.store i x).Ok:=by
 unfold PoolS.store
 split
 · exact PoolOk.store h
 · exact h
theorem PoolS.n_take {s:PoolS}:s.take.n=s.n:=by unfold PoolS.take;split <;> rfl
theorem PoolS.n_give {s:PoolS}{k:Int}:(s.give k).n=s.n:=by unfold PoolS.give;split <;> rfl
theorem PoolS.n_store {s:PoolS}{i x:Int}:(s.store i x).n=s.n:=by unfold PoolS.store;split <;> rfl
theorem PoolS.fr_store {s:PoolS}{i x:Int}:(s.store i x).fr=s.fr:=by unfold PoolS.store;split <;> rfl

def Q1B (p:Value) (s:PoolS):Res where
 A H F:=PoolH H p F s.n s.ws s.fr
 loc:=by
  rintro H H' F ⟨b,vw,vl,vt,Fw,Fl,Ft,h⟩ hs
  have hF:=h.hF
  exact ⟨b,vw,vl,vt,Fw,Fl,Ft,h.hp,h.blk.of_same (hs b ((hF b).2 (.inl rfl)) h.blk.lt),h.sw.of_same (fun x hx=> hs x ((hF x).2 (.inr (.inl hx)))),h.sl.of_same (fun x hx=> hs x ((hF x).2 (.inr (.inr (.inl hx))))),
   h.st.of_same (fun x hx=> hs x ((hF x).2 (.inr (.inr (.inr hx))))),h.nw,h.nl,h.nt,h.wl,h.wt,h.lt,h.hF,h.ok⟩
 lt:=PoolH.lt
 ext:=by
  rintro H F G ⟨b,vw,vl,vt,Fw,Fl,Ft,h⟩ hs
  exact ⟨b,vw,vl,vt,Fw,Fl,Ft,h.hp,h.blk,h.sw,h.sl,h.st,h.nw,h.nl,h.nt,h.wl,h.wt,h.lt,fun x=> (hs x).symm.trans (h.hF x),h.ok⟩
theorem poolX_ok {cx:Cx}{w:World}{L:List Res}{i:Nat}{p:Value}{s:PoolS}(hS:St cx w L) (hi:nth L i=some (Q1B p s)):s.Ok:=by
 obtain ⟨F,hr,_⟩:=hS.step hi
 obtain ⟨b,vw,vl,vt,Fw,Fl,Ft,h⟩:=hr
 exact h.ok
theorem Q2U:∀{L:List Res}{i:Nat}{r:Res},nth L i=some r→L.set i r=L
 | [],_,_,h=> by cases h
 | s::L,0,r,h=> by simp only [nth,Option.some.injEq] at h;subst h;rfl
 | s::L,i+1,r,h=> by rw [List.set_cons_succ,Q2U (L:=L) (i:=i) h]

variable {cx:Cx}{w:World}{L:List Res}{i:Nat}{p:Value}{s:PoolS}
theorem free_x (hS:St cx w L) (hi:nth L i=some (Q1B p s)):Rets Tryz.prog Q5g [p] w fun v w'=> v= .int .i64 s.fr.length∧St cx w' L:=by
 obtain ⟨F,hr,_⟩:=hS.step hi
 exact (free_c hr).mono fun v w' ⟨h,h2⟩=> ⟨h,h2 ▸ hS⟩
theorem take_x (hS:St cx w L) (hi:nth L i=some (Q1B p s)):Rets Tryz.prog Q3w [p] w fun v w'=> v= .int .i64 s.top∧St cx w' (L.set i (Q1B p s.take)):=by
 obtain ⟨F,hr,_,hst⟩:=hS.step hi
 rcases PoolS.split (poolX_ok hS hi) with ⟨h1,h2,h3⟩|⟨k,fr,h1,h2,h3⟩
 · rw [h2,h3,Q2U hi]
   have hr':PoolH w.heap p F s.n s.ws []:=h1 ▸ hr
   exact (Qc1 hr').mono fun v w' ⟨h,h2⟩=> ⟨h,h2 ▸ hS⟩
 · rw [h2,h3]
   have hr':PoolH w.heap p F s.n s.ws (fr++[(k:Int)]):=by rw [h1] at hr;exact hr
   exact (take_c hr').mono fun v w' ⟨h,h4,h5⟩=> ⟨h,hst w' F _ h4 (Step.same h5)⟩
theorem give_x (k:Int) (hS:St cx w L) (hi:nth L i=some (Q1B p s)):Rets Tryz.prog Q3y [p, .int .i64 k] w fun v w'=> v= .bool (s.can k)∧St cx w' (L.set i (Q1B p (s.give k))):=by
 obtain ⟨F,hr,_,hst⟩:=hS.step hi
 unfold PoolS.give
 by_cases hc:0≤k∧k < s.n∧k∉s.fr
 · have e:s.can k=true:=decide_eq_true hc
   rw [e,if_pos rfl]
   obtain ⟨k,rfl⟩:=Int.eq_ofNat_of_zero_le hc.1
   exact (give_c hr (by omega) hc.2.2).mono fun v w' ⟨h,F',h4,h5⟩=> ⟨h,hst w' F' _ h4 h5⟩
 · have e:s.can k=false:=decide_eq_false hc
   rw [e,if_neg (by simp),Q2U hi]
   refine (Qgb hr ?_).mono fun v w' ⟨h,h2⟩=> ⟨h,h2 ▸ hS⟩
   by_cases h1:k < 0
   · exact .inl h1
   · by_cases h2:(s.n:Int)≤k
     · exact .inr (.inl h2)
     · exact .inr (.inr (Classical.not_not.1 fun h3=> hc ⟨by omega,by omega,h3⟩))
theorem Q9J (j x:Int) (hS:St cx w L) (hi:nth L i=some (Q1B p s)):Rets Tryz.prog Q37 [p, .int .i64 j, .int .i64 x] w fun v w'=> v= .bool (s.isIn j)∧St cx w' (L.set i (Q1B p (s.store j x))):=by
 obtain ⟨F,hr,_,hst⟩:=hS.step hi
 unfold PoolS.store
 by_cases hc:0≤j∧j < ((s.n*16:Nat):Int)
 · have e:s.isIn j=true:=decide_eq_true hc
   rw [e,if_pos rfl]
   obtain ⟨j,rfl⟩:=Int.eq_ofNat_of_zero_le hc.1
   exact (store_c hr (by omega)).mono fun v w' ⟨h,h4,h5⟩=> ⟨h,hst w' F _ h4 (Step.same h5)⟩
 · have e:s.isIn j=false:=decide_eq_false hc
   rw [e,if_neg (by simp),Q2U hi]
   exact (QdR hr (by omega)).mono fun v w' ⟨h,h2⟩=> ⟨h,h2 ▸ hS⟩
theorem load_x (j:Int) (hS:St cx w L) (hi:nth L i=some (Q1B p s)):Rets Tryz.prog Q3x [p, .int .i64 j] w fun v w'=> v= .tuple #[.int .i64 (s.word j), .bool (s.isIn j)]∧St cx w' L:=by
 obtain ⟨F,hr,_⟩:=hS.step hi
 unfold PoolS.word
 by_cases hc:0≤j∧j < ((s.n*16:Nat):Int)
 · have e:s.isIn j=true:=decide_eq_true hc
   rw [e,if_pos rfl]
   obtain ⟨j,rfl⟩:=Int.eq_ofNat_of_zero_le hc.1
   exact (load_c hr (by omega)).mono fun v w' ⟨h,h2⟩=> ⟨h,h2 ▸ hS⟩
 · have e:s.isIn j=false:=decide_eq_false hc
   rw [e,if_neg (by simp)]
   exact (QfJ hr (by omega)).mono fun v w' ⟨h,h2⟩=> ⟨h,h2 ▸ hS⟩
theorem new_x (n:Int) (hS:St cx w L):Rets Tryz.prog Qa2 [.int .i64 n] w fun v w'=>
 (n < 0∨64 < n)∧v= .tuple #[.pointer none, .agg ⟨[.int .i64 1, .int .i64 (-1)]⟩]∧St cx w' L∨
 ∃(m:Nat) (b:Nat),n=m∧m≤64∧v= .tuple #[.pointer (some ⟨b,0,none⟩), .agg ⟨[.int .i64 0, .int .i64 0]⟩]∧St cx w' (Q1B (.pointer (some ⟨b,0,none⟩)) (PoolS.mk0 m)::L):=by
 by_cases hc:n < 0∨64 < n
 · exact (QfB w hc).mono fun v w' ⟨h,h2⟩=> .inl ⟨hc,h,hS.fr0 h2⟩
 · obtain ⟨m,rfl⟩:=Int.eq_ofNat_of_zero_le (show 0≤n by omega)
   refine (plnew_c w (show m≤64 by omega)).mono ?_
   rintro v w' ⟨p,F,h,h2,h3,h4⟩
   have h2':=h2
   obtain ⟨b,_,_,_,_,_,_,h5⟩:=h2'
   have hp:=h5.hp
   subst hp
   exact .inr ⟨m,b,rfl,by omega,h,hS.new (r:=Q1B _ (PoolS.mk0 m)) h2 h3 h4⟩
end Go.Proofs.YteflkifmgnpbhaaGreat
namespace Go.Proofs.YteflkifmgnpbhaaGreat
open Go.Lir
def Qet (ws:List Int) (k:Nat):Nat→List Int
 | 0=> ws
 | i+1=> (Qet ws k i).set (k*16+i) 0
theorem Q6f (ws:List Int) (k:Nat):∀i,(Qet ws k i).length=ws.length
 | 0=> rfl
 | i+1=> by rw [Qet,List.length_set,Q6f ws k i]
theorem Q8O (ws:List Int) (k:Nat):∀(i j:Nat),k*16+i≤ws.length→(Qet ws k i).getD j 0=if k*16≤j∧j < k*16+i then 0 else ws.getD j 0
 | 0,j,_=> by rw [if_neg (by omega)];rfl
 | i +1,j,h=> by
   rw [Qet,Q69 (by rw [Q6f];omega),Q8O ws k i j (by omega)]
   by_cases h1:k*16+i=j
   · rw [if_pos h1,if_pos (by omega)]
   · rw [if_neg h1]
     by_cases h2:k*16≤j∧j < k*16+i
     · rw [if_pos h2,if_pos (by omega)]
     · rw [if_neg h2,if_neg (by omega)]
theorem Qgr {ws:List Int}{k n:Nat}(h:ws.length=n*16) (hk:k < n):Qet ws k 16=Q2x ws k:=by
 refine QdE 0 (by rw [Q6f,Q8Q h hk,h]) fun j hj=> ?_
 rw [Q6f] at hj
 rw [Q8O ws k 16 j (by omega)]
 simp only [Q2x,List.getD_eq_getElem?_getD]
 have hl:(ws.take (k*16)).length=k*16:=by rw [List.length_take];omega
 by_cases h1:j < k*16
 · rw [if_neg (by omega),List.getElem?_append_left (by omega),List.getElem?_take_of_lt h1]
 · rw [List.getElem?_append_right (by omega),hl]
   by_cases h2:j < k*16+16
   · rw [if_pos (by omega),List.getElem?_append_left (by simp;omega),List.getElem?_replicate,if_pos (by omega)];rfl
   · rw [if_neg (by omega),List.getElem?_append_right (by simp;omega),List.getElem?_drop]
     congr 2
     simp;omega

end Go.Proofs.YteflkifmgnpbhaaGreat
namespace Go.Proofs.YteflkifmgnpbhaaGreat
open Go.Lir
set_option maxHeartbeats 1000000
attribute [local irreducible] LC.wp Q0 Qk Qh retQ Qt LO.wp Q4 Calls
set_option linter.unusedSimpArgs false
set_option linter.unusedVariables false

def TkOk (s:PoolS) (tk:List Int):Prop:=tk.Nodup∧∀k,k∈tk↔s.can k=true
theorem can_iff {s:PoolS}{k:Int}:s.can k=true↔0≤k∧k < s.n∧k∉s.fr:=decide_eq_true_iff
theorem TkOk.len {s:PoolS}{tk:List Int}(h:TkOk s tk) (ok:s.Ok):tk.length+s.fr.length=s.n:=by
 have hnd:(tk++s.fr).Nodup:=List.nodup_append.2 ⟨h.1,ok.nd,fun a ha b hb e=> by subst e;exact (can_iff.1 ((h.2 a).1 ha)).2.2 hb⟩
 have h1:=Q3o (b:=Q2w s.n s.n) hnd fun x hx=> (Q2X (Nat.le_refl _)).2 (by
  rcases List.mem_append.1 hx with hx|hx
  · have:=can_iff.1 ((h.2 x).1 hx);omega
  · have:=ok.rng x hx;omega)
 have h2:=Q3o (b:=tk++s.fr) (Q7a (Nat.le_refl s.n)) fun x hx=> by
  have:=(Q2X (Nat.le_refl _)).1 hx
  by_cases hm:x∈s.fr
  · exact List.mem_append_right _ hm
  · exact List.mem_append_left _ ((h.2 x).2 (can_iff.2 ⟨by omega,by omega,hm⟩))
 rw [Q4X,List.length_append] at*;omega
theorem TkOk.new {n:Nat}:TkOk (PoolS.mk0 n) []:=⟨List.nodup_nil,fun k=> ⟨fun h=> absurd h (by simp),fun h=> by
 obtain ⟨h1,h2,h3⟩:=can_iff.1 h
 exact absurd ((Q2X (Nat.le_refl n)).2 (by simp only [PoolS.mk0] at h2;omega)) h3⟩⟩
theorem TkOk.take {s:PoolS}{tk:List Int}(h:TkOk s tk) (ok:s.Ok){k:Nat}{fr:List Int}(h1:s=⟨s.n,s.ws,fr++[(k:Int)]⟩) (h2:s.top=k) (h3:s.take=⟨s.n,Q2x s.ws k,fr⟩):s.top∉tk∧k < s.n∧TkOk s.take (tk++[s.top]):=by
 have ok':PoolOk s.n s.ws (fr++[(k:Int)]):=by rw [h1] at ok;exact ok
 obtain ⟨_,hk,hkn⟩:=ok'.take
 have hfr:s.fr=fr++[(k:Int)]:=by rw [h1]
 have hnot:(k:Int)∉tk:=fun hm=> (can_iff.1 ((h.2 k).1 hm)).2.2 (by rw [hfr];simp)
 refine ⟨by rw [h2];exact hnot,hk,?_,fun x=> ?_⟩
 · rw [h2];exact List.nodup_append.2 ⟨h.1,by simp,fun a ha b hb e=> by simp at hb;subst hb;subst e;exact hnot ha⟩
 · rw [h2,List.mem_append,List.mem_singleton,h.2 x,can_iff,can_iff,h3,hfr,List.mem_append,List.mem_singleton]
   constructor
   · rintro (⟨h1,h2,h3⟩|rfl)
     · exact ⟨h1,h2,fun h=> h3 (.inl h)⟩
     · exact ⟨by omega,by simpa using hk,hkn⟩
   · rintro ⟨h1,h2,h3⟩
     by_cases hx:x=k
     · exact .inr hx
     · exact .inl ⟨h1,h2,fun h=> h.elim h3 hx⟩
theorem TkOk.give {s:PoolS}{tk:List Int}(h:TkOk s tk) (k:Int):TkOk (s.give k) (tk.filter fun y=> decide (y≠k)):=by
 refine ⟨h.1.filter _,fun x=> ?_⟩
 rw [List.mem_filter,h.2 x,can_iff,can_iff,decide_eq_true_iff,PoolS.n_give]
 unfold PoolS.give
 split
 · simp only [List.mem_append,List.mem_singleton,not_or]
   constructor
   · rintro ⟨⟨h1,h2,h3⟩,h4⟩;exact ⟨h1,h2,h3,h4⟩
   · rintro ⟨h1,h2,h3,h4⟩;exact ⟨⟨h1,h2,h3⟩,h4⟩
 · rename_i hc
   constructor
   · rintro ⟨h1,_⟩;exact h1
   · intro h1;exact ⟨h1,fun e=> hc (by subst e;exact can_iff.2 h1)⟩
theorem TkOk.store {s:PoolS}{tk:List Int}(h:TkOk s tk) (k x:Int):TkOk (s.store k x) tk:=⟨h.1,fun y=> by rw [h.2 y,can_iff,can_iff,PoolS.n_store,PoolS.fr_store]⟩
theorem TkOk.perm {s:PoolS}{l l':List Int}(h:TkOk s l) (hp:l.Perm l'):TkOk s l':=⟨hp.nodup_iff.1 h.1,fun k=> by rw [←h.2 k];exact hp.mem_iff.symm⟩
def PoolS.gives (s:PoolS) (l:List Int):PoolS:=l.foldl PoolS.give s
theorem PoolS.n_gives {l:List Int}:∀{s:PoolS},(s.gives l).n=s.n:=by
 induction l with
 | nil=> intro s;rfl
 | cons k l ih=> intro s;exact (ih (s:=s.give k)).trans PoolS.n_give
theorem PoolS.ok_gives {l:List Int}:∀{s:PoolS},s.Ok→(s.gives l).Ok:=by
 induction l with
 | nil=> intro s h;exact h
 | cons k l ih=> intro s h;exact ih (s:=s.give k) (PoolS.ok_give h k)
theorem Qei {s:PoolS}{l:List Int}{j:Nat}(h:j < l.length):s.gives (l.take (j+1))=(s.gives (l.take j)).give (l.getD j 0):=by
 rw [Q5a 0 h];simp [PoolS.gives,List.foldl_append]
theorem TkOk.gives {l rest:List Int}:∀{s:PoolS},TkOk s (l++rest)→TkOk (s.gives l) rest:=by
 induction l with
 | nil=> intro s h;exact h
 | cons k l ih=>
   intro s h
   have h1:=h.give k
   have hnd:=h.1
   rw [List.cons_append,List.nodup_cons] at hnd
   have e:((k::l++rest).filter fun y=> decide (y≠k))=l++rest:=by
    rw [List.cons_append,List.filter_cons_of_neg (by simp)]
    exact List.filter_eq_self.2 fun y hy=> decide_eq_true fun e=> hnd.1 (e ▸ hy)
   rw [e] at h1
   exact ih h1
theorem QdA {α:Type}:∀{l:List α}{k:Nat}{x:α},l[k]?=some x→l.Perm (x::l.eraseIdx k)
 | [],_,_,h=> by simp at h
 | y::l,0,x,h=> by simp at h;subst h;exact .refl _
 | y::l,k+1,x,h=> ((QdA (l:=l) (by simpa using h)).cons y).trans (.swap _ _ _)
theorem Qd3 {α:Type}:∀{l:List α}{k:Nat}{x:α},k < l.length→(l.set k x).Perm (x::l.eraseIdx k)
 | [],_,_,h=> by simp at h
 | y::l,0,x,h=> .refl _
 | y::l,k+1,x,h=> ((Qd3 (l:=l) (by simpa using h)).cons y).trans (.swap _ _ _)
end Go.Proofs.YteflkifmgnpbhaaGreat
namespace Go.Proofs.YteflkifmgnpbhaaGreat
open Go.Lir
set_option maxHeartbeats 1000000
attribute [local irreducible] LC.wp Q0 Qk Qh retQ Qt LO.wp Q4 Calls
set_option linter.unusedSimpArgs false
set_option linter.unusedVariables false

structure Reg where
 there:Bool
 pages:List Int
 used:Int
def Reg.none:Reg:=⟨false,[],0⟩
structure EstS where
 p:PoolS
 rs:List Reg
def EstS.reg (s:EstS) (k:Int):Reg:=if 0≤k then s.rs.getD k.toNat Reg.none else Reg.none
def EstS.has (s:EstS) (k:Int):Bool:=(s.reg k).there
def EstS.all (s:EstS):List Int:=s.rs.flatMap Reg.pages
structure EstS.Ok (s:EstS):Prop where
 len:s.rs.length=16
 off:∀r∈s.rs,r.there=false→r=Reg.none
 used:∀r∈s.rs,0≤r.used∧r.used≤16
 tk:TkOk s.p s.all
 pok:s.p.Ok
 n64:s.p.n≤64
def EstS.low (s:EstS):Nat:=s.rs.findIdx fun r=> !r.there
def EstS.open (s:EstS):EstS:=if s.low < 16 then ⟨s.p,s.rs.set s.low ⟨true,[],0⟩⟩ else s
def EstS.openV (s:EstS):Int:=if s.low < 16 then s.low else -1
def EstS.shut (s:EstS) (k:Int):EstS:=if s.has k then ⟨s.p.gives (s.reg k).pages,s.rs.set k.toNat Reg.none⟩ else s
def Reg.more (r:Reg) (n:Int):Bool:=decide (r.pages=[]∨16 < r.used+n)
def Reg.last (r:Reg):Int:=r.pages.getLastD 0
def EstS.code (s:EstS) (k n:Int):Int:=if !s.has k then 15 else if n < 1∨16 < n then 1 else if (s.reg k).more n∧s.p.fr=[] then 14 else 0
def Reg.grow (r:Reg) (p:Int):Reg:=⟨r.there,r.pages++[p],0⟩
def Reg.use (r:Reg) (n:Int):Reg:=⟨r.there,r.pages,r.used+n⟩
def EstS.regTo (s:EstS) (k n:Int):Reg:=if (s.reg k).more n then (s.reg k).grow s.p.top else s.reg k
def EstS.get (s:EstS) (k n:Int):EstS:=if s.code k n=0 then ⟨if (s.reg k).more n then s.p.take else s.p,s.rs.set k.toNat ((s.regTo k n).use n)⟩ else s
def EstS.getV (s:EstS) (k n:Int):Int:=if s.code k n=0 then (s.regTo k n).last*16+(s.regTo k n).used else 0
def EstS.count (s:EstS):Int:=(s.rs.countP fun r=> r.there:Nat)
def EstS.mk0 (n:Nat):EstS:=⟨PoolS.mk0 n,List.replicate 16 Reg.none⟩

theorem EstS.reg_at {s:EstS}(h:s.Ok){k:Nat}(hk:k < 16):s.rs[k]?=some (s.reg k):=by
 have:=h.len
 unfold EstS.reg
 rw [if_pos (by omega),show (k:Int).toNat=k by omega]
 exact getD_get (by omega)
theorem EstS.reg_out {s:EstS}(h:s.Ok){k:Int}(hk:k < 0∨16≤k):s.reg k=Reg.none:=by
 have:=h.len
 unfold EstS.reg
 split
 · rw [List.getD_eq_getElem?_getD,List.getElem?_eq_none (by omega)];rfl
 · rfl
theorem EstS.has_in {s:EstS}(h:s.Ok){k:Int}(hk:s.has k=true):∃m:Nat,k=m∧m < 16:=by
 by_cases hc:k < 0∨16≤k
 · unfold EstS.has at hk;rw [EstS.reg_out h hc] at hk;cases hk
 · exact ⟨k.toNat,by omega,by omega⟩
theorem QdL {s:EstS}{k:Nat}{r:Reg}(hr:s.rs[k]?=some r):s.all.Perm (r.pages++(s.rs.eraseIdx k).flatMap Reg.pages):=by
 have:=(QdA hr).flatMap_right Reg.pages
 rw [List.flatMap_cons] at this;exact this
theorem Q7f {rs:List Reg}{k:Nat}{r':Reg}(hk:k < rs.length):((rs.set k r').flatMap Reg.pages).Perm (r'.pages++(rs.eraseIdx k).flatMap Reg.pages):=by
 have:=(Qd3 (x:=r') hk).flatMap_right Reg.pages
 simpa [List.flatMap_cons] using this
theorem mem_set_of {α:Type}{l:List α}{k:Nat}{x y:α}(h:y∈l.set k x):y=x∨y∈l:=(List.mem_or_eq_of_mem_set h).symm
theorem EstS.ok_set {s:EstS}(h:s.Ok){p:PoolS}{k:Nat}(hk:k < 16){r':Reg}(h1:r'.there=false→r'=Reg.none) (h2:0≤r'.used∧r'.used≤16) (h3:TkOk p (r'.pages++(s.rs.eraseIdx k).flatMap Reg.pages)) (h4:p.Ok) (h5:p.n=s.p.n):(⟨p,s.rs.set k r'⟩:EstS).Ok:=by
 have hl:=h.len
 refine ⟨by simpa using hl,fun r hr=> ?_,fun r hr=> ?_,h3.perm (Q7f (by omega)).symm,h4,by rw [h5];exact h.n64⟩
 · rcases mem_set_of hr with rfl|hr
   · exact h1
   · exact h.off r hr
 · rcases mem_set_of hr with rfl|hr
   · exact h2
   · exact h.used r hr
theorem EstS.tk_at {s:EstS}(h:s.Ok){k:Nat}(hk:k < 16):TkOk s.p ((s.reg k).pages++(s.rs.eraseIdx k).flatMap Reg.pages):=h.tk.perm (QdL (EstS.reg_at h hk))
theorem EstS.ok_new {n:Nat}(hn:n≤64):(EstS.mk0 n).Ok:=
 ⟨by simp [EstS.mk0],fun r hr _=> List.eq_of_mem_replicate hr,fun r hr=> by rw [List.eq_of_mem_replicate hr];simp [Reg.none],by
   have:(EstS.mk0 n).all=[]:=by simp [EstS.all,EstS.mk0,Reg.none,List.flatMap_replicate]
   rw [this];exact TkOk.new,PoolS.ok_new hn,hn⟩

theorem EstS.low_le {s:EstS}(h:s.Ok):s.low≤16:=by have:=List.findIdx_le_length (xs:=s.rs) (p:=fun r=> !r.there);rw [h.len] at this;exact this
theorem EstS.low_eq {s:EstS}(h:s.Ok){i:Nat}(hi:i < 16) (h1:(s.reg i).there=false) (h2:∀j,j < i→(s.reg (j:Nat)).there=true):s.low=i:=by
 have hl:=h.len
 refine (List.findIdx_eq (by omega)).2 ⟨?_,fun j hj=> ?_⟩
 · have:=EstS.reg_at h hi
   rw [List.getElem?_eq_getElem (by omega)] at this
   simp only [Option.some.injEq] at this
   rw [this,h1];rfl
 · have:=EstS.reg_at h (show j < 16 by omega)
   rw [List.getElem?_eq_getElem (by omega)] at this
   simp only [Option.some.injEq] at this
   rw [this,h2 j hj];rfl
theorem EstS.low_full {s:EstS}(h:s.Ok) (h2:∀j,j < 16→(s.reg (j:Nat)).there=true):s.low=16:=by
 have hl:=h.len
 rw [←hl]
 refine List.findIdx_eq_length.2 fun r hr=> ?_
 obtain ⟨j,hj⟩:=List.mem_iff_getElem?.1 hr
 have hj16:j < 16:=by have:=(List.getElem?_eq_some_iff.1 hj).1;omega
 have:=EstS.reg_at h hj16
 rw [hj] at this
 simp only [Option.some.injEq] at this
 rw [this,h2 j hj16];rfl
theorem EstS.low_off {s:EstS}(h:s.Ok) (hl:s.low < 16):s.reg s.low=Reg.none:=by
 have h1:=EstS.reg_at h hl
 have h2:s.low < s.rs.length:=by rw [h.len];exact hl
 have h3:=List.findIdx_getElem (xs:=s.rs) (p:=fun r:Reg=> !r.there) (w:=h2)
 rw [List.getElem?_eq_getElem h2] at h1
 simp only [Option.some.injEq] at h1
 have h4:(s.rs[s.low]'h2).there=false:=by have h5:(!(s.rs[s.low]'h2).there)=true:=h3;simpa using h5
 rw [←h1]
 exact h.off _ (List.getElem_mem h2) h4
theorem EstS.ok_open {s:EstS}(h:s.Ok):s.open.Ok:=by
 unfold EstS.open
 split
 · rename_i hl
   have:=EstS.tk_at h hl
   rw [EstS.low_off h hl] at this
   exact EstS.ok_set h hl (fun hf=> by cases hf) ⟨Int.le_refl _,by simp⟩ this h.pok rfl
 · exact h
theorem EstS.ok_shut {s:EstS}(h:s.Ok) (k:Int):(s.shut k).Ok:=by
 unfold EstS.shut
 split
 · rename_i hk
   obtain ⟨m,rfl,hm⟩:=EstS.has_in h hk
   exact EstS.ok_set h (show (m:Int).toNat < 16 by omega) (fun _=> rfl) ⟨Int.le_refl _,by simp [Reg.none]⟩ (by rw [show (m:Int).toNat=m by omega];exact (EstS.tk_at h hm).gives) (PoolS.ok_gives h.pok) PoolS.n_gives
 · exact h
theorem EstS.code_0 {s:EstS}{k n:Int}(hc:s.code k n=0):s.has k=true∧1≤n∧n≤16∧¬((s.reg k).more n=true∧s.p.fr=[]):=by
 unfold EstS.code at hc
 split at hc
 · cases hc
 · rename_i h1
   split at hc
   · cases hc
   · split at hc
     · cases hc
     · rename_i h2 h3
       exact ⟨by simpa using h1,by omega,by omega,h3⟩
theorem EstS.regTo_len {s:EstS}(h:s.Ok){k:Nat}(hk:k < 16):(s.reg k).pages.length≤64:=by
 have:=(EstS.tk_at h hk).len h.pok
 rw [List.length_append] at this
 have:=h.n64
 omega
theorem Reg.more_f {r:Reg}{n:Int}(h:¬r.more n=true):r.pages≠[]∧r.used+n≤16:=by
 unfold Reg.more at h
 rw [decide_eq_true_iff] at h
 exact ⟨fun e=> h (.inl e),by omega⟩
theorem EstS.ok_get {s:EstS}(h:s.Ok) (k n:Int):(s.get k n).Ok:=by
 unfold EstS.get
 split
 · rename_i hc
   obtain ⟨h1,h2,h3,h4⟩:=EstS.code_0 hc
   obtain ⟨m,rfl,hm⟩:=EstS.has_in h h1
   rw [show (m:Int).toNat=m by omega]
   have hth:(s.reg m).there=true:=h1
   have hu:=h.used _ (List.mem_of_getElem? (EstS.reg_at h hm))
   unfold EstS.regTo
   by_cases hmo:(s.reg m).more n=true
   · rw [if_pos hmo,if_pos hmo]
     rcases PoolS.split h.pok with ⟨e,_⟩|⟨kk,fr,e1,e2,e3⟩
     · exact absurd ⟨hmo,e⟩ h4
     · obtain ⟨_,_,h5⟩:=(EstS.tk_at h hm).take h.pok e1 e2 e3
       refine EstS.ok_set h hm (fun hf=> by simp [Reg.use,Reg.grow,hth] at hf) ⟨by simp [Reg.use,Reg.grow];omega,by simp [Reg.use,Reg.grow];omega⟩ ?_ (PoolS.ok_take h.pok) PoolS.n_take
       simp only [Reg.use,Reg.grow]
       refine h5.perm ?_
       rw [List.append_assoc,List.append_assoc]
       exact (List.perm_append_comm).append_left _
   · rw [if_neg hmo,if_neg hmo]
     obtain ⟨_,h6⟩:=Reg.more_f hmo
     exact EstS.ok_set h hm (fun hf=> by simp [Reg.use,hth] at hf) ⟨by simp [Reg.use];omega,by simp [Reg.use];omega⟩ (EstS.tk_at h hm) h.pok rfl
 · exact h

structure RegV where
 there:Bool
 pv:Value
 pages:List Int
 used:Int
def RegV.reg (r:RegV):Reg:=⟨r.there,r.pages,r.used⟩
def RegV.cells (r:RegV):List Value:=[.bool r.there,r.pv, .int .i64 r.used]
def RegV.res (r:RegV):Res:=sl 3 1 r.pv (r.pages.map Qj)
def RegV.nil:RegV:=⟨false, .slice none 0 0,[],0⟩
def Q1o (rv:List RegV):List Value:=(rv.map RegV.cells).flatten
theorem Q3H (rv:List RegV):(Q1o rv).length=rv.length*3:=by
 have:=QV (es:=3) (css:=rv.map RegV.cells) (by intro c hc;obtain ⟨r,_,rfl⟩:=List.mem_map.1 hc;rfl)
 rw [List.length_map] at this;exact this
theorem Q2m {rv:List RegV}{pp u:Value}{m j:Nat}{r:RegV}(hr:rv[m]?=some r) (hu:r.cells[j]?=some u):(pp::Q1o rv)[1+m*3+j]?=some u:=by
 have hj:j < 3:=(List.getElem?_eq_some_iff.1 hu).1
 have:=Q3i (es:=3) (css:=rv.map RegV.cells) (by intro c hc;obtain ⟨r,_,rfl⟩:=List.mem_map.1 hc;rfl) (m:=m) (j:=j) (c:=r.cells) (by rw [List.getElem?_map,hr];rfl) hj
 rw [show 1+m*3+j=(m*3+j)+1 by omega,List.getElem?_cons_succ]
 exact this.trans hu
theorem e_set {rv:List RegV}{pp u:Value}{m j:Nat}{r r':RegV}(hr:rv[m]?=some r) (hj:j < 3) (hu:r.cells.set j u=r'.cells):(pp::Q1o rv).set (1+m*3+j) u=pp::Q1o (rv.set m r'):=by
 have:=Q8D (es:=3) (css:=rv.map RegV.cells) (by intro c hc;obtain ⟨r,_,rfl⟩:=List.mem_map.1 hc;rfl) (m:=m) (j:=j) (c:=r.cells) (u:=u) (by rw [List.getElem?_map,hr];rfl) hj
 rw [show 1+m*3+j=(m*3+j)+1 by omega,List.set_cons_succ]
 unfold Q1o
 rw [List.map_set,←hu,this]
theorem e_setn {rv:List RegV}{pp:Value}{m:Nat}{r':RegV}(hm:m < rv.length):(pp::Q1o rv).take (1+m*3)++(r'.cells++(pp::Q1o rv).drop (1+m*3+3))=pp::Q1o (rv.set m r'):=by
 have hl:∀l:List RegV,(∀c∈l.map RegV.cells,c.length=3):=by intro l c hc;obtain ⟨r,_,rfl⟩:=List.mem_map.1 hc;rfl
 rw [show 1+m*3=m*3+1 by omega,show m*3+1+3=(m+1)*3+1 by omega,List.take_succ_cons,List.drop_succ_cons,List.cons_append]
 congr 1
 have e:rv=rv.take m++(rv[m]'hm::rv.drop (m+1)):=by rw [←List.drop_eq_getElem_cons hm,List.take_append_drop]
 have e2:rv.set m r'=rv.take m++(r'::rv.drop (m+1)):=by rw [List.set_eq_take_append_cons_drop,if_pos hm]
 have f1:Q1o rv=Q1o (rv.take m)++((rv[m]'hm).cells++Q1o (rv.drop (m+1))):=by
  refine (congrArg Q1o e).trans ?_
  simp only [Q1o,List.map_append,List.map_cons,List.flatten_append,List.flatten_cons]
 have l1:(Q1o (rv.take m)).length=m*3:=by rw [Q3H,List.length_take];omega
 rw [e2,f1]
 have t1:(Q1o (rv.take m)++((rv[m]'hm).cells++Q1o (rv.drop (m+1)))).take (m*3)=Q1o (rv.take m):=by rw [←l1,List.take_left'];rfl
 have t2:(Q1o (rv.take m)++((rv[m]'hm).cells++Q1o (rv.drop (m+1)))).drop ((m+1)*3)=Q1o (rv.drop (m+1)):=by
  rw [←List.append_assoc,List.drop_left'];rw [List.length_append,l1];show m*3+3=_;omega
 rw [t1,t2]
 simp [Q1o]

structure EstO (e:Value) (s:EstS) (b:Nat) (rv:List RegV):Prop where
 he:e= .pointer (some ⟨b,0,none⟩)
 hr:rv.map RegV.reg=s.rs
 ok:s.Ok
def estX (e:Value) (s:EstS):Res:=Res.ex fun x:Nat×Value×List RegV=> Res.pure (EstO e s x.1 x.2.2) (Q5q [blk x.1 73 (x.2.1::Q1o x.2.2),Q1B x.2.1 s.p,big RegV.res x.2.2])
variable {cx:Cx}{w:World}{L:List Res}{i:Nat}{e:Value}{s:EstS}
theorem Q21 (hS:St cx w (estX e s::L)):∃b pp rv,EstO e s b rv∧St cx w (blk b 73 (pp::Q1o rv)::Q1B pp s.p::big RegV.res rv::L):=by
 obtain ⟨⟨b,pp,rv⟩,h⟩:=hS.ex
 obtain ⟨h1,h2⟩:=h.pure
 exact ⟨b,pp,rv,h1,h2.list⟩
theorem QW {b:Nat}{pp:Value}{rv:List RegV}(h:EstO e s b rv) (hS:St cx w (blk b 73 (pp::Q1o rv)::Q1B pp s.p::big RegV.res rv::L)):St cx w (estX e s::L):=
 St.ex' (b,pp,rv) (St.pure' h (St.list' hS))
theorem EstO.len {b:Nat}{rv:List RegV}(h:EstO e s b rv):rv.length=16:=by have:=congrArg List.length h.hr;rw [List.length_map,h.ok.len] at this;exact this
theorem EstO.at_ {b:Nat}{rv:List RegV}(h:EstO e s b rv){k:Nat}(hk:k < 16):∃r,rv[k]?=some r∧s.reg k=r.reg:=by
 have hl:=h.len
 refine ⟨rv[k]'(by omega),List.getElem?_eq_getElem (by omega),?_⟩
 have:=EstS.reg_at h.ok hk
 rw [←h.hr,List.getElem?_map,List.getElem?_eq_getElem (by omega)] at this
 simpa using this.symm
theorem EstO.set {b:Nat}{rv:List RegV}(h:EstO e s b rv){s':EstS}{k:Nat}{r':RegV}(hs:s'.rs=s.rs.set k r'.reg) (ok:s'.Ok):EstO e s' b (rv.set k r'):=⟨h.he,by rw [List.map_set,h.hr,hs],ok⟩
theorem Q8G (hS:St cx w L) (hi:nth L i=some (estX e s)):s.Ok∧∃b,e= .pointer (some ⟨b,0,none⟩):=by
 obtain ⟨b,pp,rv,ho,_⟩:=Q21 (hS.out hi);exact ⟨ho.ok,b,ho.he⟩
theorem est_at (hS:St cx w L){b:Nat}(hi:nth L i=some (estX (.pointer (some ⟨b,0,none⟩)) s)):∃pp rv,EstO (.pointer (some ⟨b,0,none⟩)) s b rv∧St cx w (blk b 73 (pp::Q1o rv)::Q1B pp s.p::big RegV.res rv::L.eraseIdx i):=by
 obtain ⟨b',pp,rv,ho,h⟩:=Q21 (hS.out hi)
 have he:=ho.he
 cases he
 exact ⟨pp,rv,ho,h⟩
theorem EstS.pages_rng {s:EstS}(h:s.Ok){k:Nat}(hk:k < 16):∀x∈(s.reg k).pages,0≤x∧x < 64:=by
 intro x hx
 have:=can_iff.1 (((EstS.tk_at h hk).2 x).1 (List.mem_append_left _ hx))
 have:=h.n64
 omega
theorem QbB {l:List Int}(h:l≠[]):l.getD (((l.length:Nat):Int) - 1).toNat 0=l.getLastD 0:=by
 rcases List.eq_nil_or_concat l with rfl|⟨l',x,rfl⟩
 · exact absurd rfl h
 · rw [List.concat_eq_append]
   have e2:(l'++[x]).getLastD 0=x:=by simp
   rw [e2,List.length_append,List.length_singleton,show (((l'.length+1:Nat):Int) - 1).toNat=l'.length by omega,List.getD_eq_getElem?_getD,List.getElem?_append_right (Nat.le_refl _)]
   simp
theorem EstS.used_rng {s:EstS}(h:s.Ok){k:Nat}(hk:k < 16):0≤(s.reg k).used∧(s.reg k).used≤16:=h.used _ (List.mem_of_getElem? (EstS.reg_at h hk))
end Go.Proofs.YteflkifmgnpbhaaGreat
