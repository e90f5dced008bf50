
/- Lemmas of the proof, part 2: what the functions of the program do (contracts), and what follows. -/
import Derived.Test.YteflkifmgnpbhaaGreatZ1
import Derived.Laws.IdiomStrings
import Derived.Lib.Strings
import Derived.Test.YteflkifmgnpbhaaGreatProg
import Derived.Recover
open Go Go.Lir
variable {α β:Type}{H H':Kk}{F G K K':Nat→Prop}{c':Cx}{cs ds args cap us:List Value}{xs:List Bool}{R:Ending→World→Prop}{v v2 v1 v3 v4 v' u0 u1 u2 u3 v0:Value}{css:List (List Value)}{P:Program}{T U:TypeId}{w w0:World}{fuel s m T' Ts Ts2 nb j q off o0 n0 o1 n1 o2 n2 o3 n3:Nat}{es:List (List Nat)}{l2 ops l1:List α}{L L':List Res}{a at' kd:Int}{ys:List Int}{os:List Operand}{S:Value→World→Prop}{ch:List PanicEntry}{rs:List ResultVar}{Q:List Deferred→QT}{fn:Func}{x0 x1 x2 x3:Operand}{ms:Array (String×TypeId)}{A:List (Nat×Value)}{gs:List GO}
set_option linter.unusedVariables false
set_option linter.unusedSimpArgs false
set_option maxHeartbeats 1000000
namespace Go.Lir
section
variable {p:Prop}
theorem DI (h:p:=by rw [h.1];exact hm):p:=h
theorem ED (h:p:=by rw [EK,FZ];rfl):p:=h
end
end Go.Lir
namespace Go.Lir
section
variable {p:Prop}
theorem A2 (h:p:=by exact absurd rfl h):p:=h
theorem A4 (h:p:=by exact hg.put r8 h):p:=h
theorem Cj (h:p:=by exact ⟨_,_,_,rfl,h1.turn hs,h2.turn hs,h3.turn hs⟩):p:=h
theorem Ck (h:p:=by exact (hd ▸ kx hr.2.1 ds _ _ h:Leaves P fn a.tmps R a.defers .returning w)):p:=h
theorem C6 (h:p:=by exact ⟨⟨x.1,x.2.1,x.2.2.1,x.2.2.2.1⟩,_,_,_,rfl,s1,s2,s3⟩):p:=h
theorem Db (h:p:=by exact me (fun ρ w h=>mZ h) (fun e ρ w hn h=>by cases e<;>first|exact h|exact absurd rfl hn) h):p:=h
end
end Go.Lir
namespace Go.Lir
section
inductive Ty where
 | mk:Int→Int→List Ty→Ty
def Ty.kind:Ty→Int| .mk k _ _=>k
def Ty.r:Ty→Int| .mk _ r _=>r
def Ty.l:Ty→List Ty| .mk _ _ l=>l
def Mf (H:Kk)(F:Nat→Prop):Nat→List Value→Ty→Prop
 | 0,_,_=>False
 | n+1,cs,t=>∃v css,cs=[.int .i64 t.kind, .int .i64 t.r,v]∧Me H 3 v F css∧css.length=t.l.length∧t.l.length≤140737488355328∧∀(m:Nat) (x:Ty),t.l[m]?=some x→∃d,css[m]?=some d∧Mf H F n d x
theorem Mf.len:∀{n:Nat}{cs:List Value}{t:Ty},Mf H F n cs t→cs.length=3
 | 0,_,_,h=>h.elim
 | _+1,_,_,h=>by obtain ⟨_,_,rfl,_⟩:=h;rfl
theorem Mf.more:∀{n m:Nat}{cs:List Value}{t:Ty},n≤m→Mf H F n cs t→Mf H F m cs t
 | 0,_,_,_,_,h=>h.elim
 | n+1,0,_,_,hm,_=>by omega
 | n+1,m+1,_,_,hm,h=>by
   obtain ⟨v,css,h1,h2,h3,h4,h5⟩:=h;exact ⟨v,css,h1,h2,h3,h4,fun i x hx=>by obtain ⟨d,h6,h7⟩:=h5 i x hx;exact ⟨d,h6,h7.more Jo⟩⟩
theorem Mf.turn (hs:∀v css,Me H 3 v F css→Me H' 3 v G css):∀{n:Nat}{cs:List Value}{t:Ty},Mf H F n cs t→Mf H' G n cs t
 | 0,_,_,h=>h.elim
 | n+1,_,_,h=>by
   obtain ⟨v,css,h1,h2,h3,h4,h5⟩:=h;exact ⟨v,css,h1,hs _ _ h2,h3,h4,fun i x hx=>by obtain ⟨d,h6,h7⟩:=h5 i x hx;exact ⟨d,h6,h7.turn hs⟩⟩
def TQ (c:Cx)(cs:List Value)(t:Ty):Prop:=∃n,Mf c.H0 c.K n cs t
theorem TQ.up {c:Cx}{t:Ty}(h:TQ c cs t)(hle:c.Le c'):TQ c' cs t:=by
 obtain ⟨n,h⟩:=h;exact ⟨n,h.turn fun v css hs=>Nu.up hs hle⟩
theorem m6 {xs:List α}{R:Nat→α→Prop}(hm:∀n m x,n≤m→R n x→R m x)(h:∀x∈xs,∃n,R n x):∃n,∀x∈xs,R n x:=by
 induction xs with
 | nil=>exact ⟨0,by simp⟩
 | cons x xs ih=>
   obtain ⟨n,hn⟩:=ih fun y hy=>h y (E9 _ hy);obtain ⟨m,hx⟩:=h x (Fh ..);refine ⟨max n m,fun y hy=>?_⟩;rcases ES.1 hy with rfl|hy
   · exact hm _ _ _ (Nat.le_max_right ..) hx
   · exact hm _ _ _ (Nat.le_max_left ..) (hn y hy)
theorem TQ.mk {c:Cx}{k r:Int}{l:List Ty}(hs:Nu c 3 v css)(hl:css.length=l.length)(hm:l.length≤140737488355328)(h:∀(m:Nat) (x:Ty),l[m]?=some x→∃d,css[m]?=some d∧TQ c d x):TQ c [.int .i64 k, .int .i64 r,v] (.mk k r l):=by
 obtain ⟨n,hn⟩:=m6 (xs:=List.range l.length) (R:=fun n m=>∀x,l[m]?=some x→∃d,css[m]?=some d∧Mf c.H0 c.K n d x) (fun n m i hnm hr x hx=>by obtain ⟨d,h1,h2⟩:=hr x hx;exact ⟨d,h1,h2.more hnm⟩) (fun m hm=>by
  have hlt:=Fz.1 hm;obtain ⟨d,h1,n,h2⟩:=h m _ (EH hlt);exact ⟨n,fun x hx=>by rw [EH hlt] at hx;cases hx;exact ⟨d,h1,h2⟩⟩)
 exact ⟨n+1,v,css,rfl,hs,hl,hm,fun m x hx=>hn m (Fz.2 (EJ.1 hx).1) x hx⟩
theorem TQ.out {c:Cx}{t:Ty}(h:TQ c cs t):∃v css,cs=[.int .i64 t.kind, .int .i64 t.r,v]∧Nu c 3 v css∧css.length=t.l.length∧t.l.length≤140737488355328∧∀(m:Nat) (x:Ty),t.l[m]?=some x→∃d,css[m]?=some d∧TQ c d x:=by
 obtain ⟨n,h⟩:=h
 cases n with
 | zero=>exact h.elim
 | succ n=>
   obtain ⟨v,css,h1,h2,h3,h4,h5⟩:=h;exact ⟨v,css,h1,h2,h3,h4,fun m x hx=>by obtain ⟨d,h6,h7⟩:=h5 m x hx;exact ⟨d,h6,n,h7⟩⟩

theorem yv {e:TypeId}{Hd:Type}{enc:TypeId×Value→Hd}{es:Nat}{y:DataW Hd×List MemPlace}{rd:List Value→α→Prop}(hsz:P.cellsOf e=es)(hes:0<es)(hlen:∀d x,rd d x→d.length=es)
 (ht:P.underlying T=some (.slice e))(h:DataW.trod enc P w 0 (fun _=>true) true fuel T cs=some y)(hby:0<P.bytesOf e)(hfit:Fits P T y.1)
 (hel:∀(n:Nat) (d:List Value) (z:DataW Hd×List MemPlace),DataW.trod enc P w 0 (fun _=>true) true n e d=some z→Fits P e z.1→SizeOf.sizeOf z.1<SizeOf.sizeOf y.1→∃x,rd d x):
 ∃(xs:List α) (v:Value) (css:List (List Value)),cs=[v]∧Me w.heap es v (fun _=>True) css∧css.length=xs.length∧xs.length≤140737488355328∧∀(m:Nat) (x:α),xs[m]?=some x→∃d,css[m]?=some d∧rd d x:=by
 rcases JF ht h with ⟨rfl,_⟩|⟨a,len,cap,m,n,D,Pl,rfl,_,hl,hm,hmm,hy,hi⟩
 · exact Ch
 · have hmc:m=cap:=by simpa using hmm
   subst hmc;have hfit':=hfit;rw [hy] at hfit';obtain ⟨hlen0,hel0⟩:=rP ht hfit' hby;simp only [EK,Ha] at hlen0
   have hel2:∀i,i<len→∃(d:List Value) (x:α),w.cells? 0 (a.add (i*es)) es=some d∧rd d x:=by
    intro i hi';obtain ⟨d,h1,h2⟩:=hi i Jo;rw [hsz] at h1
    obtain ⟨x,hx⟩:=hel n d _ h2 (hel0 _ (Fc.2 ⟨i,Fz.2 hi',rfl⟩)) (by
     rw [hy];have hmem:D i∈(List.range len).map D:=Fc.2 ⟨i,Fz.2 hi',rfl⟩;have:=H3 hmem;simp only [DataW.slice.sizeOf_spec];omega)
    exact ⟨d,x,h1,hx⟩
   have build:∀n,n≤len→∃(css:List (List Value)) (xs:List α),css.length=n∧xs.length=n∧
    ∀m,m<n→∃d x,css[m]?=some d∧xs[m]?=some x∧w.cells? 0 (a.add (m*es)) es=some d∧rd d x:=by
    intro n
    induction n with
    | zero=>intro _;exact ⟨[],[],rfl,rfl,fun m hm=>absurd hm Jo⟩
    | succ n ih=>
      intro hn;obtain ⟨css,xs,h1,h2,h3⟩:=ih Jo;obtain ⟨d,x,h4,h5⟩:=hel2 n Jo;refine ⟨css++[d],xs++[x],by simp [h1],by simp [h2],fun m hm=>?_⟩;by_cases hmn:m=n
      · subst hmn;exact ⟨d,x,by rw [EV Jo,h1];simp,by rw [EV Jo,h2];simp,h4,h5⟩
      · obtain ⟨d',x',g1,g2,g3,g4⟩:=h3 m Jo;exact ⟨d',x',by rw [ER Jo];exact g1,by rw [ER Jo];exact g2,g3,g4⟩
   obtain ⟨css,xs,h1,h2,h3⟩:=build len (E7 _);refine ⟨xs, .slice (some a) len m,css,rfl,⟨?_,some a,m,by rw [h1],Jo,?_⟩,Jo,Jo,?_⟩
   · intro d hd;obtain ⟨i,hi'⟩:=Fj.1 hd;have hlt:=(EJ.1 hi').1;obtain ⟨d',x',g1,g2,g3,g4⟩:=h3 i Jo;rw [hi'] at g1;simp only [E0] at g1;subst g1;exact hlen _ _ g4
   · rcases GL len with h0|h0
     · exact .inl (Ga Jo)
     · obtain ⟨d0,x0,_,_,g3,_⟩:=h3 0 h0;obtain ⟨hsp,hbl,_⟩:=kl g3 hes;have ha0:a.add (0*es)=a:=(by rw [HU];rfl);rw [ha0] at hsp hbl;obtain ⟨b,o,s⟩:=a;simp only at hsp;subst hsp;refine .inr ⟨b,o,rfl,trivial,hbl,fun i d hd=>?_⟩;have hlt:=(EJ.1 hd).1;obtain ⟨d',x',g1,g2,g3,g4⟩:=h3 i Jo;rw [hd] at g1;simp only [E0] at g1;subst g1;rw [PH] at g3;exact (kl g3 hes).2.2
   · intro i x hx;have hlt:=(EJ.1 hx).1;obtain ⟨d',x',g1,g2,g3,g4⟩:=h3 i Jo;rw [hx] at g2;simp only [E0] at g2;subst g2;exact ⟨d',g1,g4⟩
theorem m7 {Hd:Type}{enc:TypeId×Value→Hd}{y:DataW Hd×List MemPlace}(h:DataW.trod enc P w 0 (fun _=>true) true fuel T cs=some y)
 {i o:Nat}{t:TypeId}(hf:fieldAt P T i=some (o,s,t))(hfit:Fits P T y.1):cs.length=P.cellsOf T∧∃n z,DataW.trod enc P w 0 (fun _=>true) true n t ((cs.drop o).take s)=some z∧Fits P t z.1∧SizeOf.sizeOf z.1<SizeOf.sizeOf y.1:=by
 unfold fieldAt at hf;split at hf
 · rename_i fs hu
   simp only [Gv,GJ] at hf;obtain ⟨f,hf,rfl,rfl,rfl⟩:=hf;obtain ⟨xs,n,_,hy,hl,hx,hall⟩:=DataW.trod_struct hu h;have:=hall i f hf;have hlt:=(Hz.1 hf).1;refine ⟨hl,n,xs[i]' Dc,?_,?_,?_⟩
   · rw [this,EH Jo]
   · rw [hy] at hfit;exact rQ hu hfit hf Ew
   · rw [hy];have hmem:(xs[i]' Dc).1∈xs.map (·.1):=Fc.2 ⟨_,Gk _,rfl⟩;have:=H3 hmem;simp only [DataW.agg.sizeOf_spec];omega
 · cases hf
inductive Ty.InR:Ty→Prop where
 | mk {k r:Int}{l:List Ty}:(Lit.int .i64 k).wf=true→(Lit.int .i64 r).wf=true→(∀x∈l,x.InR)→Ty.InR (.mk k r l)
theorem m8 {n:Int}(h:(Lit.int .i64 n).wf=true): -9223372036854775808≤n∧n≤9223372036854775807:=by
 simp [Lit.wf,IntKind.min,IntKind.max,IntKind.bits,IntKind.signed] at h;omega
theorem Ty.InR.parts {k r:Int}{l:List Ty}(h:(Ty.mk k r l).InR):(-9223372036854775808≤k∧k≤9223372036854775807)∧(-9223372036854775808≤r∧r≤9223372036854775807)∧∀x∈l,x.InR:=by
 cases h with|mk h1 h2 h3=>exact ⟨m8 h1,m8 h2,h3⟩
theorem m9 {P:Program}{T TL t0 t1:TypeId}(h0:fieldAt P T 0=some (0,1,t0))(h1:fieldAt P T 1=some (1,1,t1))(h2:fieldAt P T 2=some (2,1,TL))(hi0:P.underlying t0=some (.int .i64))(hi1:P.underlying t1=some (.int .i64))(hT:P.cellsOf T=3)(hTL:P.underlying TL=some (.slice T))(hby:0<P.bytesOf T)
 {Hd:Type}{enc:TypeId×Value→Hd}{w:World}:∀(N fuel:Nat) (cs:List Value) (y:DataW Hd×List MemPlace),DataW.trod enc P w 0 (fun _=>true) true fuel T cs=some y→Fits P T y.1→SizeOf.sizeOf y.1<N→∃t n,Mf w.heap (fun _=>True) n cs t∧t.InR
 | 0,_,_,_,_,_,hN=>by omega
 | N +1,fuel,cs,y,h,hfit,hN=>by
   obtain ⟨hl,n0,z0,g0,_⟩:=m7 h h0 hfit;obtain ⟨_,n1,z1,g1,_⟩:=m7 h h1 hfit;obtain ⟨_,n2,z2,g2,u2,hz⟩:=m7 h h2 hfit;rw [hT] at hl
   obtain ⟨a,b,v,hc⟩:∃a b v,cs=[a,b,v]:=by
    match cs,hl with
    | [a,b,v],_=>exact ⟨a,b,v,rfl⟩
   subst hc;obtain ⟨k,hk,_,wk⟩:=DataW.trod_int hi0 g0;obtain ⟨r,hr,_,wr⟩:=DataW.trod_int hi1 g1;have hk2:[a]=[Value.int .i64 k]:=hk;have hr2:[b]=[Value.int .i64 r]:=hr;clear hk hr;simp only [FG,and_true] at hk2 hr2;have g3:DataW.trod enc P w 0 (fun _=>true) true n2 TL [v]=some z2:=g2;clear g2
   obtain ⟨xs,v',css,hv,s1,s2,s3,s4⟩:=yv (rd:=fun d (x:Nat×Ty)=>Mf w.heap (fun _=>True) x.1 d x.2∧x.2.InR) hT Jd (fun d x hx=>hx.1.len) hTL g3 hby u2 (fun n d z hz1 hz3 hz2=>by
    obtain ⟨t,n,ht,hr⟩:=m9 h0 h1 h2 hi0 hi1 hT hTL hby N _ d z hz1 hz3 Jo;exact ⟨(n,t),ht,hr⟩)
   simp only [FG,and_true] at hv;subst hv hk2 hr2;obtain ⟨n,hn⟩:=m6 (xs:=xs) (R:=fun n x=>x.1≤n) (fun n m x h1 h2=>F3 h2 h1) (fun x _=>⟨x.1,E7 _⟩);refine ⟨.mk k r (xs.map (·.2)),n+1,⟨v,css,rfl,s1,by simp [Ty.l,s2],by simpa [Ty.l] using s3,fun m x hx=>?_⟩, .mk wk wr fun x hx=>?_⟩
   rotate_left
   · obtain ⟨p,hp,rfl⟩:=Fc.1 hx;obtain ⟨m,hm⟩:=Fj.1 hp;obtain ⟨d,d1,d2⟩:=s4 m p hm;exact d2.2
   simp only [Ty.l,EN,Gv] at hx;obtain ⟨p,hp,rfl⟩:=hx;obtain ⟨d,d1,d2⟩:=s4 m p hp;exact ⟨d,d1,d2.1.more (hn p (EI hp))⟩
def Cod.ty {P:Program}{T TL t0 t1:TypeId}(h0:fieldAt P T 0=some (0,1,t0))(h1:fieldAt P T 1=some (1,1,t1))(h2:fieldAt P T 2=some (2,1,TL))(hi0:P.underlying t0=some (.int .i64))(hi1:P.underlying t1=some (.int .i64))(hT:P.cellsOf T=3)(hTL:P.underlying TL=some (.slice T))(hby:decide (0<P.bytesOf T)=true):Cod P T Ty where
 es:=3
 rd:=fun H cs t=>∃n,Mf H (fun b=>b<H.size) n cs t
 size:=hT
 len:=by rintro _ _ _ ⟨n,h⟩;exact h.len
 stay:=by
  rintro H H' cs t ⟨n,h⟩ hH;exact ⟨n,h.turn fun v css hs=>Hn (hs.of_same fun b hb _=>hH b hb) fun b hb _=>hb⟩
 open_:=fun enc w fuel cs y h hfit=>by
  obtain ⟨t,n,ht,_⟩:=m9 h0 h1 h2 hi0 hi1 hT hTL (of_decide_eq_true hby) (SizeOf.sizeOf y.1+1) fuel cs y h hfit Jo;exact ⟨t,n,ht.turn fun v css hs=>Hn hs fun b hb _=>hb⟩
def Cod.tyInt {P:Program}{T TL t0 t1:TypeId}(h0:fieldAt P T 0=some (0,1,t0))(h1:fieldAt P T 1=some (1,1,t1))(h2:fieldAt P T 2=some (2,1,TL))(hi0:P.underlying t0=some (.int .i64))(hi1:P.underlying t1=some (.int .i64))(hT:P.cellsOf T=3)(hTL:P.underlying TL=some (.slice T))(hby:decide (0<P.bytesOf T)=true):Cod P T Ty where
 es:=3
 rd:=fun H cs t=>(∃n,Mf H (fun b=>b<H.size) n cs t)∧t.InR
 size:=hT
 len:=by rintro _ _ _ ⟨⟨n,h⟩,_⟩;exact h.len
 stay:=by
  rintro H H' cs t ⟨⟨n,h⟩,hr⟩ hH;exact ⟨⟨n,h.turn fun v css hs=>Hn (hs.of_same fun b hb _=>hH b hb) fun b hb _=>hb⟩,hr⟩
 open_:=fun enc w fuel cs y h hfit=>by
  obtain ⟨t,n,ht,hr⟩:=m9 h0 h1 h2 hi0 hi1 hT hTL (of_decide_eq_true hby) (SizeOf.sizeOf y.1+1) fuel cs y h hfit Jo;exact ⟨t,⟨n,ht.turn fun v css hs=>Hn hs fun b hb _=>hb⟩,hr⟩
theorem TQ.top {t:Ty}(h:∃n,Mf w.heap (fun b=>b<w.heap.size) n cs t):TQ (Cx.top w) cs t:=h
end
section
structure Fld (P:Program) (T:TypeId) (α:Type) where
 rd:Kk→List Value→α→Prop
 stay:∀(H H':Kk) cs x,rd H cs x→(∀b,b<H.size→H'[b]?=H[b]?)→rd H' cs x
 open_:∀{Hd:Type}(enc:TypeId×Value→Hd) (w:World) (fuel:Nat) (cs:List Value) (y:DataW Hd×List MemPlace),DataW.trod enc P w 0 (fun _=>true) true fuel T cs=some y→Fits P T y.1→∃x,rd w.heap cs x
def Fld.none {P:Program}{T:TypeId}:Fld P T Unit:=⟨fun _ _ _=>True,fun _ _ _ _ h _=>h,fun _ _ _ _ _ _ _=>⟨(),trivial⟩⟩
def Fld.more {P:Program}{T t:TypeId}{α β:Type}{i o s:Nat}(c:Cod P t α)(h:fieldAt P T i=some (o,s,t))(f:Fld P T β):Fld P T (α×β) where
 rd:=fun H cs x=>c.rd H ((cs.drop o).take s) x.1∧f.rd H cs x.2
 stay:=fun H H' cs x h hH=>⟨c.stay _ _ _ _ h.1 hH,f.stay _ _ _ _ h.2 hH⟩
 open_:=fun enc w fuel cs y hy hfit=>by
  obtain ⟨_,n,z,g,u⟩:=rR hy h hfit;obtain ⟨a,ha⟩:=c.open_ enc w _ _ _ g u;obtain ⟨b,hb⟩:=f.open_ enc w _ _ _ hy hfit;exact ⟨(a,b),ha,hb⟩
def Fld.cod {P:Program}{T t:TypeId}{α:Type}{o s:Nat}(f:Fld P T α)(h0:fieldAt P T 0=some (o,s,t))(n:Nat)(hn:P.cellsOf T=n):Cod P T α where
 es:=n
 rd:=fun H cs x=>cs.length=n∧f.rd H cs x
 size:=hn
 len:=fun _ _ _ h=>h.1
 stay:=fun H H' cs x h hH=>⟨h.1,f.stay _ _ _ _ h.2 hH⟩
 open_:=fun enc w fuel cs y hy hfit=>by
  obtain ⟨hl,_⟩:=rR hy h0 hfit;obtain ⟨a,ha⟩:=f.open_ enc w _ _ _ hy hfit;exact ⟨a,by rw [hl,hn],ha⟩
end
section

theorem Me.turn {es:Nat}(h:Me H es v F css)(hs:∀b,F b→b<H.size→G b∧H'[b]?=H[b]?):Me H' es v G css:=by
 obtain ⟨h0,a,cap,hv,hlc,hc|⟨b,off,ha,hF,hb,hat⟩⟩:=h
 · exact Bj
 · obtain ⟨h1,h2⟩:=hs b hF hb
   refine ⟨h0,a,cap,hv,hlc, .inr ⟨b,off,ha,h1,?_,fun m c hm=>(hat m c hm).of_same h2⟩⟩;rcases Gc b H'.size with h|h
   · exact h
   · rw [Gw h,GF hb] at h2;cases h2

structure Rep (α:Type) where
 es:Nat
 pos:0<es
 R:Kk→(Nat→Prop)→List Value→α→Prop
 len:∀{H:Kk}{K:Nat→Prop}{cs:List Value}{x:α},R H K cs x→cs.length=es
 one:∀{H:Kk}{K:Nat→Prop}{cs:List Value}{x:α},R H K cs x→∀u∈cs,oneC u=true
 turn:∀{H H':Kk}{K K':Nat→Prop}{cs:List Value}{x:α},R H K cs x→(∀b,K b→b<H.size→K' b∧H'[b]?=H[b]?)→R H' K' cs x

section
variable {α β:Type}
def Rep.LR (r:Rep α)(H:Kk)(K:Nat→Prop)(css:List (List Value))(l:List α):Prop:=css.length=l.length∧∀(m:Nat) (x:α),l[m]?=some x→∃d,css[m]?=some d∧r.R H K d x
def Rep.SR (r:Rep α)(H:Kk)(K:Nat→Prop)(v:Value)(l:List α):Prop:=∃css,Me H r.es v K css∧r.LR H K css l∧l.length≤140737488355328
theorem Rep.LR.turn {r:Rep α}{l:List α}(h:r.LR H K css l)(hs:∀b,K b→b<H.size→K' b∧H'[b]?=H[b]?):r.LR H' K' css l:=
 ⟨h.1,fun m x hx=>by obtain ⟨d,h1,h2⟩:=h.2 m x hx;exact ⟨d,h1,r.turn h2 hs⟩⟩
theorem Rep.SR.turn {r:Rep α}{l:List α}(h:r.SR H K v l)(hs:∀b,K b→b<H.size→K' b∧H'[b]?=H[b]?):r.SR H' K' v l:=by
 obtain ⟨css,h1,h2,h3⟩:=h;exact ⟨css,h1.turn hs,h2.turn hs,h3⟩
theorem Rep.LR.nil (r:Rep α)(H:Kk)(K:Nat→Prop):r.LR H K [] []:=⟨rfl,by simp⟩
abbrev FY:=@Rep.LR.nil
theorem Rep.LR.push {r:Rep α}{l:List α}{d:List Value}{x:α}(h:r.LR H K css l)(hd:r.R H K d x):r.LR H K (css++[d]) (l++[x]):=by
 refine ⟨by simp [h.1],fun m y hy=>?_⟩;rcases Gc m l.length with hm|hm
 · rw [ER hm] at hy;rw [ER DI];exact h.2 m y hy
 · rw [EV hm] at hy
   rw [EV DI,h.1];obtain ⟨i,hi⟩:∃i,m - l.length=i:=⟨_,rfl⟩;rw [hi] at hy ⊢
   cases i with
   | zero=>simp only [FJ,E0] at hy;subst hy;exact ⟨d,rfl,hd⟩
   | succ i=>simp at hy
theorem Rep.LR.append {r:Rep α}{css2:List (List Value)}{l l2:List α}(h:r.LR H K css l)(h2:r.LR H K css2 l2):r.LR H K (css++css2) (l++l2):=by
 refine ⟨by simp [h.1,h2.1],fun m y hy=>?_⟩;rcases Gc m l.length with hm|hm
 · rw [ER hm] at hy;rw [ER DI];exact h.2 m y hy
 · rw [EV hm] at hy;rw [EV DI,h.1];exact h2.2 _ y hy
theorem Rep.LR.set {r:Rep α}{l:List α}{d:List Value}{x:α}{i:Nat}(h:r.LR H K css l)(hd:r.R H K d x):r.LR H K (css.set i d) (l.set i x):=by
 refine ⟨by simp [h.1],fun m y hy=>?_⟩;rw [FD] at hy ⊢;by_cases he:i=m
 · rw [if_pos he] at hy ⊢
   rw [h.1];split at hy
   · rename_i hm;rw [if_pos hm];cases hy;exact ⟨d,rfl,hd⟩
   · cases hy
 · rw [if_neg he] at hy ⊢;exact h.2 m y hy
abbrev JH:=@Rep.LR.set
theorem Rep.LR.sub {r:Rep α}{l:List α}(h:r.LR H K css l)(i j:Nat):r.LR H K ((css.take j).drop i) ((l.take j).drop i):=by
 refine ⟨by simp [h.1],fun m y hy=>?_⟩;rw [GN] at hy ⊢;have hlt:=(EJ.1 hy).1;rw [F8] at hlt;rw [FH Jo] at hy ⊢;exact h.2 _ y hy
theorem Rep.LR.one {r:Rep α}{l:List α}(h:r.LR H K css l):∀c∈css,∀u∈c,oneC u=true:=by
 intro c hc;obtain ⟨m,hm⟩:=Fj.1 hc;have hlt:=(EJ.1 hm).1;obtain ⟨d,h1,h2⟩:=h.2 m _ (EH (by rw [←h.1];exact hlt));rw [hm] at h1;cases h1;exact r.one h2
theorem Rep.LR.lens {r:Rep α}{l:List α}(h:r.LR H K css l):∀c∈css,c.length=r.es:=by
 intro c hc;obtain ⟨m,hm⟩:=Fj.1 hc;have hlt:=(EJ.1 hm).1;obtain ⟨d,h1,h2⟩:=h.2 m _ (EH (by rw [←h.1];exact hlt));rw [hm] at h1;cases h1;exact r.len h2
theorem Rep.SR.oneC {r:Rep α}{l:List α}(h:r.SR H K v l):Go.Lir.oneC v=true:=by
 obtain ⟨css,h1,_⟩:=h;exact Jp h1
theorem Rep.SR.nil (r:Rep α)(H:Kk)(K:Nat→Prop):r.SR H K (.slice none 0 0) []:=⟨[],⟨by simp,none,0,rfl,E7 _, .inl rfl⟩, .nil r H K,by simp⟩
abbrev FL:=@Rep.SR.nil
theorem Rep.SR.len {r:Rep α}{l:List α}(h:r.SR H K v l):l.length≤140737488355328:=by obtain ⟨_,_,_,h⟩:=h;exact h
theorem Rep.SR.shape {r:Rep α}{l:List α}(h:r.SR H K v l):∃a c,v= .slice a l.length c:=by
 obtain ⟨css,h1,h2,_⟩:=h;obtain ⟨a,c,hv⟩:=Me.shape h1;exact ⟨a,c,by rw [←h2.1];exact hv⟩

abbrev EU:=@Rep.SR.shape
theorem Rep.SR.nil_of {r:Rep α}{l:List α}{n c:Nat}(h:r.SR H K v l)(hv:v= .slice none n c):l=[]:=by
 obtain ⟨css,⟨_,a,cap,hv2,_,hc|⟨b,off,ha,_⟩⟩,h2,_⟩:=h
 · exact Ga (by rw [←h2.1,hc];rfl)
 · rw [hv,ha] at hv2;simp at hv2
abbrev IX:=@Rep.SR.nil_of
def Rep.lit (f:α→Value)(hf:∀x,oneC (f x)=true):Rep α where
 es:=1
 pos:=by decide
 R:=fun _ _ cs x=>cs=[f x]
 len:=by rintro _ _ _ _ rfl;rfl
 one:=by rintro _ _ _ x rfl u hu;simp at hu;subst hu;exact hf x
 turn:=fun h _=>h
def JY:Rep Int:=Rep.lit (fun n=> .int .i64 n) (fun _=>rfl)
def Rep.list (r:Rep α):Rep (List α) where
 es:=1
 pos:=by decide
 R:=fun H K cs l=>∃v,cs=[v]∧r.SR H K v l
 len:=by rintro _ _ _ _ ⟨v,rfl,_⟩;rfl
 one:=by rintro _ _ _ _ ⟨v,rfl,h⟩ u hu;simp at hu;subst hu;exact h.oneC
 turn:=by rintro _ _ _ _ _ _ ⟨v,rfl,h⟩ hs;exact ⟨v,rfl,h.turn hs⟩
def Rep.and (r:Rep α)(p:α→Prop):Rep α where
 es:=r.es
 pos:=r.pos
 R:=fun H K cs x=>r.R H K cs x∧p x
 len:=fun h=>r.len h.1
 one:=fun h=>r.one h.1
 turn:=fun h hs=>⟨r.turn h.1 hs,h.2⟩
def J7:Rep Ty where
 es:=3
 pos:=by decide
 R:=fun H K cs t=>∃n,Mf H K n cs t
 len:=by rintro _ _ _ _ ⟨n,h⟩;exact h.len
 one:=by
  rintro _ _ _ _ ⟨n,h⟩
  cases n with
  | zero=>exact h.elim
  | succ n=>
    obtain ⟨v,css,rfl,h2,_⟩:=h;intro u hu;simp at hu;rcases hu with rfl|rfl|rfl
    · rfl
    · rfl
    · exact Jp h2
 turn:=by rintro _ _ _ _ _ _ ⟨n,h⟩ hs;exact ⟨n,h.turn fun v css hv=>hv.turn hs⟩
theorem Qc {t:Ty}(h:J7.R H K cs t):∃v,cs=[.int .i64 t.kind, .int .i64 t.r,v]∧J7.SR H K v t.l:=by
 obtain ⟨n,h⟩:=h
 cases n with
 | zero=>exact h.elim
 | succ n=>
   obtain ⟨v,css,h1,h2,h3,h4,h5⟩:=h;exact ⟨v,h1,css,h2,⟨h3,fun m x hx=>by obtain ⟨d,h6,h7⟩:=h5 m x hx;exact ⟨d,h6,n,h7⟩⟩,h4⟩
theorem O3 {k r:Int}{l:List Ty}(h:J7.SR H K v l):J7.R H K [.int .i64 k, .int .i64 r,v] (.mk k r l):=by
 obtain ⟨css,h1,h2,h3⟩:=h
 obtain ⟨n,hn⟩:=m6 (xs:=List.range l.length) (R:=fun n m=>∀x,l[m]?=some x→∃d,css[m]?=some d∧Mf H K n d x) (fun n m i hnm hr x hx=>by obtain ⟨d,h1,h2⟩:=hr x hx;exact ⟨d,h1,h2.more hnm⟩) (fun m hm=>by
  have hlt:=Fz.1 hm;obtain ⟨d,h4,n,h5⟩:=h2.2 m _ (EH hlt);exact ⟨n,fun x hx=>by rw [EH hlt] at hx;cases hx;exact ⟨d,h4,h5⟩⟩)
 exact ⟨n+1,v,css,rfl,h1,h2.1,h3,fun m x hx=>hn m (Fz.2 (EJ.1 hx).1) x hx⟩

abbrev Rep.at (r:Rep α)(c:Cx)(cs:List Value)(x:α):Prop:=r.R c.H0 c.K cs x
abbrev Rep.sl (r:Rep α)(c:Cx)(v:Value)(l:List α):Prop:=r.SR c.H0 c.K v l
abbrev Rep.ls (r:Rep α)(c:Cx)(css:List (List Value))(l:List α):Prop:=r.LR c.H0 c.K css l
theorem Cx.Le.turn {c:Cx}(h:c.Le c'):∀b,c.K b→b<c.H0.size→c'.K b∧c'.H0[b]?=c.H0[b]?:=fun b hb _=>h.K b hb
theorem Rep.R.up {r:Rep α}{c:Cx}{x:α}(h:r.at c cs x)(hle:c.Le c'):r.at c' cs x:=r.turn h hle.turn
theorem Rep.SR.up {r:Rep α}{c:Cx}{l:List α}(h:r.sl c v l)(hle:c.Le c'):r.sl c' v l:=Rep.SR.turn h hle.turn
abbrev Hi:=@Rep.SR.up
theorem Rep.LR.up {r:Rep α}{c:Cx}{v:List (List Value)}{l:List α}(h:r.ls c v l)(hle:c.Le c'):r.ls c' v l:=Rep.LR.turn h hle.turn
abbrev I1:=@Rep.LR.up
theorem St.freezeL {r:Rep α}{c:Cx}{T:TypeId}{es:Nat}{v:Value}{css:List (List Value)}{l:List α}(h:St c w (sl T es v css::L))(hl:r.ls c css l)(hes:r.es=es)(hm:l.length≤140737488355328):∃c',c.Le c'∧St c' w L∧r.sl c' v l:=by
 subst hes;obtain ⟨c',h1,h2,h3⟩:=h.freezeS;exact ⟨c',h1,h2,css,h3,hl.up h1,hm⟩
abbrev FI:=@St.freezeL
theorem Rep.SR.ints {c:Cx}{l:List Int}(h:JY.sl c v l):Nu c 1 v (l.map KQ):=by
 obtain ⟨css,h1,h2,h3⟩:=h
 have:css=l.map KQ:=by
  apply Gg;intro m;rw [EN];rcases Gc m l.length with hm|hm
  · obtain ⟨d,h4,h5⟩:=h2.2 m _ (EH hm);have h5:d=[_]:=h5;rw [h4,EH hm,h5];rfl
  · rw [Fk (by rw [h2.1];exact hm),Fk hm];rfl
 rw [this] at h1;exact h1
theorem Nu.ints {c:Cx}{l:List Int}(h:Nu c 1 v (l.map KQ))(hm:l.length≤140737488355328):JY.sl c v l:=
 ⟨_,h,⟨by simp,fun m x hx=>⟨KQ x,by rw [EN,hx];rfl,rfl⟩⟩,hm⟩

section
variable {P:Program}{l:List GO}{Q:QT}{ρ:Km}{w:World}{c:Cx}{L:List Res}{r:Rep α}{xs:List α}{v:Value}{es:Nat}
theorem eX {d:Nat}{x y:Operand}{k:IntKind}{n:Int}(hx:ρ.ev x=v)(hy:ρ.ev y= .int k n)(hK:r.sl c v xs)(hes:r.es=es)(h0:0≤n)(hn:n<xs.length)
 (h:∀b o cs a,Ox c b o cs→xs[n.toNat]?=some a→r.at c cs a→Q0 P l Q (upd ρ d (.pointer (some ⟨b,o,none⟩))) w):Q0 P (⟨none, .idx d es x y⟩::l) Q ρ w:=by
 subst hes;obtain ⟨css,h1,h2,h3⟩:=hK;have hn':n.toNat<xs.length:=Dc;obtain ⟨cs,h4,h5⟩:=h2.2 n.toNat _ (EH hn');exact Tz (m:=n.toNat) hx (by rw [hy,Fb h0]) h1 h4 fun b o hb=>h b o cs _ hb (EH hn') h5
theorem RD {d m:Nat}{x y:Operand}{k:IntKind}(hx:ρ.ev x=v)(hy:ρ.ev y= .int k (m:Int))(hK:r.sl c v xs)(hes:r.es=es)(hn:m<xs.length)
 (h:∀b o cs a,Ox c b o cs→xs[m]?=some a→r.at c cs a→Q0 P l Q (upd ρ d (.pointer (some ⟨b,o,none⟩))) w):Q0 P (⟨none, .idx d es x y⟩::l) Q ρ w:=by
 subst hes;obtain ⟨css,h1,h2,h3⟩:=hK;obtain ⟨cs,h4,h5⟩:=h2.2 m _ (EH hn);exact Tz (m:=m) hx hy h1 h4 fun b o hb=>h b o cs _ hb (EH hn) h5
theorem Q1 {l:List α}{x:α}(h:l[m]?=some x):l.drop m=x::l.drop (m+1):=by
 obtain ⟨hm,rfl⟩:=EJ.1 h;exact List.drop_eq_getElem_cons hm
theorem OI {l:List α}{x:α}(h:l[m]?=some x):l.take (m+1)=l.take m++[x]:=by
 rw [GS,h];rfl
theorem Qs {n:Int}(h:JY.at c cs n):cs=[.int .i64 n]:=h
theorem ng:∀{L:List Res}{i:Nat}{a a':Res},nth L i=some a→nth (L.set i a') i=some a'
 | [],_,_,_,h=>by cases h
 | _::_,0,_,_,_=>rfl
 | _::L,i+1,_,_,h=>ng (L:=L) (i:=i) h
theorem XT {T d Ty i k b:Nat}{z:List Value}{x y:Operand}{a:α}(hel:NH P Ts=some (T,es,nb,z))
 (hts:∃e2,P.underlying Ts2=some (.slice e2))(hS:St c w L)(hx:ρ.ev x=v)(hy:ρ.ev y= .slice (some ⟨b,0,none⟩) 1 1)(hi:nth L i=some (Go.Lir.sl T es v css))(hk:nth L k=some (blk b T' ds))(hls:r.ls c css xs)(ha:r.at c ds a)(hes:r.es=es)(hb:(xs.length+1)*nb≤140737488355328)
 (h : ∀ v' w' css', r.ls c css' (xs ++ [a]) → oneC v' = true → St c w' (L.set i (Go.Lir.sl T es v' css')) → Q0 P l Q (upd ρ d v') w'): Q0 P (⟨none, .raw ⟨some d, .call ⟨.builtin .append, #[x, y], #[Ts, Ts2]⟩, Ty, "", #[], none⟩⟩ :: l) Q ρ w :=
 Nv hel (.inl hts) hS hx hy hi (hS.srcB hk ((r.len ha).trans hes) (r.one ha)) (by rw [hls.1];exact hb) fun v' w' hS'=>h v' w' _ (hls.push ha) (hS'.oneC (ng hi)) hS'
theorem XU {T d Ty i:Nat}{z:List Value}{x y:Operand}{ys:List α}(hel:NH P Ts=some (T,es,nb,z))
 (hts:∃e2,P.underlying Ts2=some (.slice e2))(hS:St c w L)(hx:ρ.ev x=v)(hy:ρ.ev y=v2)(hi:nth L i=some (Go.Lir.sl T es v css))(hls:r.ls c css xs)(hK:r.sl c v2 ys)(hes:r.es=es)(hb:(xs.length+ys.length)*nb≤140737488355328)
 (h : ∀ v' w' css', r.ls c css' (xs ++ ys) → oneC v' = true → St c w' (L.set i (Go.Lir.sl T es v' css')) → Q0 P l Q (upd ρ d v') w'): Q0 P (⟨none, .raw ⟨some d, .call ⟨.builtin .append, #[x, y], #[Ts, Ts2]⟩, Ty, "", #[], none⟩⟩ :: l) Q ρ w := by
 subst hes;obtain ⟨css2,h1,h2,h3⟩:=hK;exact Nv hel (.inl hts) hS hx hy hi (Nu.src h1 hS h2.one) (by rw [hls.1,h2.1];exact hb) fun v' w' hS'=>h v' w' _ (hls.append h2) (hS'.oneC (ng hi)) hS'
theorem r9 {d:Nat}{x:Operand}{f:FuncId}(hx:ρ.ev x= .func (.func f) #[] #[])(hf:PF P f=true)(hxs:os.map ρ.ev=args)(hc:JW P f args w S)
 (h:∀v w',S v w'→Q0 P l Q (upd ρ d v) w'):Q0 P (⟨none, .callv (some d) x os⟩::l) Q ρ w:=by
 unfold PF at hf;rw [HA] at hf;obtain ⟨fn,h1,h2⟩:=hf;rw [EW,Ge] at h2;refine mG (cap:=[]) hx h1 h2.1 h2.2 (by rw [hxs,FA]) hc ?_;rintro e w' ⟨v,rfl,hv⟩;exact h v w' hv
theorem TS {d:Nat}{x:Operand}{f:FuncId}(hx:ρ.ev x= .func (.func f) #[] ⟨cap⟩)(hf:PF P f=true)(hxs:os.map ρ.ev++cap=args)(hc:JW P f args w S)
 (h:∀v w',S v w'→Q0 P l Q (upd ρ d v) w'):Q0 P (⟨none, .callv (some d) x os⟩::l) Q ρ w:=by
 unfold PF at hf;rw [HA] at hf;obtain ⟨fn,h1,h2⟩:=hf;rw [EW,Ge] at h2;refine mG hx h1 h2.1 h2.2 hxs hc ?_;rintro e w' ⟨v,rfl,hv⟩;exact h v w' hv
theorem ky {d:Nat}{x:Operand}{b o:Nat}{u:Value}(hS:St c w L)(ha:Ox c b o cs)(hx:ρ.ev x= .pointer (some ⟨b,o,none⟩))(hu:cs[0]?=some u):MX P ρ w ⟨none, .load1 d x⟩ u:=gN (j:=0) hS ha hx hu
theorem nh {d n:Nat}{x:Operand}{b o:Nat}(hS:St c w L)(ha:Ox c b o cs)(hx:ρ.ev x= .pointer (some ⟨b,o,none⟩))(hu:cs.take n=us)(hl:us.length=n):MX P ρ w ⟨none, .loadn d n x⟩ (.agg ⟨us⟩):=mW (j:=0) hS ha hx hu hl
theorem yw {n i b T:Nat}{x y:Operand}(hS:St c w L)(hx:ρ.ev x= .pointer (some ⟨b,0,none⟩))(hy:ρ.ev y= .agg ⟨us⟩)(hn:us.length=n)(hi:nth L i=some (blk b T cs))(hc:cs.length=n)(h1:∀u∈us,oneC u=true)
 (h:∀w',St c w' (L.set i (blk b T us))→Q0 P l Q ρ w'):Q0 P (⟨none, .storen n x y⟩::l) Q ρ w:=
 SF hS hx hy hn hi Jo h1 De h
theorem mZ:∀{a b:List GO}{Q:QT}{ρ:Km}{w:World},Q0 P a (Qh (Q0 P b Q) Q) ρ w→Q0 P (a++b) Q ρ w
 | [],_,_,_,_,h=>h
 | ⟨none,o⟩::a,b,Q,ρ,w,h=>by
   simp only [Gz,Q0] at h ⊢;exact Db
 | ⟨some (s,b'),o⟩::a,b,Q,ρ,w,h=>by
   simp only [Gz,Q0] at h ⊢;split
   · rename_i hw;rw [if_pos hw] at h;exact Db
   · rename_i hw;rw [if_neg hw] at h;exact mZ h
theorem gO {l:List GO}(n:Nat)(J:Km→World→Prop)(ha:Q0 P (l.take n) (Qh J Q) ρ w)(hb:∀ρ w,J ρ w→Q0 P (l.drop n) Q ρ w):Q0 P l Q ρ w:=by
 rw [←GC n l];exact mZ (mQ (km hb fun _ _ _ h=>h) ha)
theorem kz {d:Nat}{x:Operand}(hx:ρ.ev x=v)(hK:r.sl c v xs)(h:Q0 P l Q (upd ρ d (.int .i64 xs.length)) w):Q0 P (⟨none, .len d x⟩::l) Q ρ w:=by
 obtain ⟨css,h1,h2,h3⟩:=hK;exact XQ hx h1 h2.1 h
theorem kA {d:Nat}{x:Operand}{lo hi mx:Option Operand}{l' h':Nat}(hx:ρ.ev x=v)(hK:r.sl c v xs)(hes:r.es=es)(hmx:mx=none)(hh:ME ρ xs.length hi h')(hl:ME ρ 0 lo l')(h2:h'≤xs.length)(h3:l'≤h')
 (h:∀v',r.sl c v' ((xs.take h').drop l')→Q0 P l Q (upd ρ d v') w):Q0 P (⟨none, .sub d es x lo hi mx⟩::l) Q ρ w:=by
 subst hes;obtain ⟨css,h1,g2,g3⟩:=hK;exact bE hx h1 hmx (by rw [g2.1];exact hh) hl (by rw [g2.1];exact h2) h3 fun v' hv=>h v' ⟨_,hv,g2.sub _ _,by simp;omega⟩
end
end

section
variable {P:Program}{T e:TypeId}{α β:Type}
def Cod.rep (c:Cod P T α)(r:Rep β)(hs:c.es=r.es)(h:∀(H:Kk) cs x,c.rd H cs x→∃y,r.R H (· < H.size) cs y):Cod P T β where
 es:=r.es
 rd:=fun H cs y=>r.R H (· < H.size) cs y
 size:=by rw [←hs];exact c.size
 len:=fun _ _ _ h=>r.len h
 stay:=fun H H' cs x hx hH=>r.turn hx fun b hb hlt=>by
  have:=hH b hlt;refine ⟨?_,this⟩;rcases Gc b H'.size with h|h
  · exact h
  · rw [Gw h,GF hlt] at this;cases this
 open_:=fun enc w fuel cs y hy hfit=>by
  obtain ⟨x,hx⟩:=c.open_ enc w fuel cs y hy hfit;exact h _ _ _ hx
theorem XV {r:Rep α}{n:Nat}{xs:List α}(hn:r.es=n)
 (h:∃v css,cs=[v]∧Me H n v (fun _=>True) css∧css.length=xs.length∧xs.length≤140737488355328∧∀(m:Nat) (x:α),xs[m]?=some x→∃d,css[m]?=some d∧r.R H (· < H.size) d x):r.list.R H (· < H.size) cs xs:=by
 obtain ⟨v,css,rfl,h1,h2,h3,h4⟩:=h;subst hn;exact ⟨v,rfl,css,Hn h1 fun b hb _=>hb,⟨h2,h4⟩,h3⟩
def Cod.listOf (c:Cod P e β)(r:Rep β)(hs:c.es=r.es)(h:∀(H:Kk) cs x,c.rd H cs x→r.R H (· < H.size) cs x)(ht:P.underlying T=some (.slice e))(h1:P.cellsOf T=1)(hby:decide (0<P.bytesOf e)=true):Cod P T (List β):=
 Cod.rep (Cod.slice c ht h1 (by rw [hs];exact r.pos) hby) r.list rfl fun H cs x hx=>⟨x,XV hs.symm (by
  obtain ⟨v,css,g1,g2,g3,g4,g5⟩:=hx;exact ⟨v,css,g1,g2,g3,g4,fun m y hy=>by obtain ⟨d,g6,g7⟩:=g5 m y hy;exact ⟨d,g6,h _ _ _ g7⟩⟩)⟩
structure Cod.Of (P:Program) (T:TypeId){α:Type}(r:Rep α) where
 cod:Cod P T α
 es:cod.es=r.es
 rd:∀(H:Kk) cs x,cod.rd H cs x→r.R H (· < H.size) cs x
def Cod.of (c:Cod P T α)(r:Rep β)(hs:c.es=r.es)(h:∀(H:Kk) cs x,c.rd H cs x→∃y,r.R H (· < H.size) cs y):Cod.Of P T r:=⟨Cod.rep c r hs h,rfl,fun _ _ _ h=>h⟩
def Cod.Of.list {r:Rep α}(c:Cod.Of P e r)(ht:P.underlying T=some (.slice e))(h1:P.cellsOf T=1)(hby:decide (0<P.bytesOf e)=true):Cod.Of P T r.list:=⟨Cod.listOf c.cod r c.es c.rd ht h1 hby,rfl,fun _ _ _ h=>h⟩
def Cod.Of.int (ht:P.underlying T=some (.int .i64))(hs:P.cellsOf T=1):Cod.Of P T JY:=Cod.of (Cod.int .i64 ht hs) JY rfl fun _ _ x h=>⟨x,h.1⟩
def Cod.Of.ty {TL t0 t1:TypeId}(h0:fieldAt P T 0=some (0,1,t0))(h1:fieldAt P T 1=some (1,1,t1))(h2:fieldAt P T 2=some (2,1,TL))(hi0:P.underlying t0=some (.int .i64))(hi1:P.underlying t1=some (.int .i64))(hT:P.cellsOf T=3)(hTL:P.underlying TL=some (.slice T))(hby:decide (0<P.bytesOf T)=true):Cod.Of P T J7:=
 ⟨Cod.ty h0 h1 h2 hi0 hi1 hT hTL hby,rfl,fun _ _ _ h=>h⟩
theorem Cod.Of.top {r:Rep α}(c:Cod.Of P T r){x:α}(h:c.cod.rd w.heap cs x):r.at (Cx.top w) cs x:=c.rd _ _ _ h
end
end
section
def ZU (b:UInt8):List Value:=[.int .u8 (b.toNat:Int)]
def eY:Rep UInt8:=Rep.lit (fun b=> .int .u8 (b.toNat:Int)) (fun _=>rfl)
theorem XW {c:Cx}{b:UInt8}(h:eY.at c cs b):cs=[.int .u8 (b.toNat:Int)]:=h
theorem bF {c:Cx}(l:List UInt8):eY.ls c (l.map ZU) l:=⟨by simp,fun m x hx=>⟨ZU x,by rw [EN,hx];rfl,rfl⟩⟩
theorem Rep.LR.u8 {r:Rep UInt8}{l:List UInt8}(hr:r=eY)(h:r.LR H K css l):css=l.map ZU:=by
 subst hr;apply Gg;intro m;rw [EN];rcases Gc m l.length with hm|hm
 · obtain ⟨d,h4,h5⟩:=h.2 m _ (EH hm);have h5:d=[_]:=h5;rw [h4,EH hm,h5];rfl
 · rw [Fk DI,Fk hm];rfl
section
variable {P:Program}{l:List GO}{Q:QT}{ρ:Km}{w:World}{c:Cx}{L:List Res}{v:Value}
theorem yx (s:List UInt8):(s.map ZU).flatten=s.map fun b=>Value.int .u8 (b.toNat:Int):=by
 induction s with
 | nil=>rfl
 | cons b s ih=>simp [ZU,ih]
theorem XX {d src dst e Ty:Nat}{x:Operand}{s:ByteArray}(hs:P.underlying src=some .string)(hd:P.underlying dst=some (.slice e))(he:P.underlying e=some (.int .u8))(hS:St c w L)(hx:ρ.ev x= .string s)
 (h : ∀ v' w', St c w' (sl e 1 v' (s.data.toList.map ZU) :: L) → Q0 P l Q (upd ρ d v') w'): Q0 P (⟨none, .raw ⟨some d, .convert src dst x, Ty, "", #[], none⟩⟩ :: l) Q ρ w := by
 have hr:=run_bytes_of_string (P:=P) w src dst e s hs hd he;have hge:=grownCap_ge w s.size 0 e;generalize hcap:grownCap w s.size 0 e=cap at hr hge;refine MJ (v:= .slice (some ⟨w.heap.size,0,none⟩) s.size cap) (w':=w.drew.alloc (.cells (bytesRow s cap) e ((bytesRow s cap).size,(bytesRow s cap).size+1))) ?_ ?_
 · simp only [execOp,hx,Fo,hr,EZ,FC]
 · have hsz:s.data.size=s.size:=rfl
   have hrow:(bytesRow s cap).size=cap:=(by simp [bytesRow];omega);refine h _ _ (hS.new (F':=(· =w.heap.size)) ?_ (((Ig NF w).drew').then0 (aZ w.drew _)) fun b hb=>by omega);refine ⟨by intro q hq;obtain ⟨b,_,rfl⟩:=Fc.1 hq;rfl, .inr ⟨w.heap.size,0,cap,(bytesRow s cap).toList,?_,?_,?_,?_,?_,fun _=>GV⟩⟩
   · have:(List.map ZU s.data.toList).length=s.size:=ED;rw [this]
   · have:(List.map ZU s.data.toList).length=s.size:=ED;rw [this];exact hge
   · refine ⟨((bytesRow s cap).size,(bytesRow s cap).size+1),?_,?_⟩
     · show (w.heap.push _)[w.heap.size]?=_;rw [Array.getElem?_push_size]
     · refine ⟨fun i h1 h2=>?_,by simp⟩;simp only [FZ] at*;omega
   · simp [hrow]
   · intro i hi;rw [yx];simp only [EK,FZ,Nat.mul_one] at hi;rw [F7,Gb,bytesRow_at s cap i hi,EN,Gb,GF hi];rfl
theorem bG {d T Ty e n:Nat}{x y:Operand}{k:IntKind}{m:Int}{u:Value}(hT:P.underlying T=some (.array n e))(he:Xg P e=true)(hsz:NG P e=some 1)(hx:ρ.ev x= .agg ⟨cs⟩)(hy:ρ.ev y= .int k m)(h0:0≤m)(hm:m<n)(hu:cs[m.toNat]?=some u)
 (h : Q0 P l Q (upd ρ d u) w): Q0 P (⟨none, .raw ⟨some d, .index T x y, Ty, "", #[], none⟩⟩ :: l) Q ρ w := by
 refine MJ (v:=u) (w':=w) ?_ h;simp only [execOp,hx,hy,Instr.index,Fo,asIntOf,FC,EZ,Q9 P T _ w hT];rw [if_pos ⟨h0,hm⟩];simp only [Fo,P3 P e 1 w hsz,EZ,Nat.mul_one,rf P e ⟨cs⟩ _ _ w he (by simpa using hu)]
end
end
section
mutual
def Ty.size:Ty→Int→Int
 | .mk _ _ l,left=>Tys.size l (left - 1)
def Tys.size:List Ty→Int→Int
 | [],left=>left
 | x::l,left=>if 0≤left then Tys.size l (x.size left) else left
end
theorem Tys.size_neg:∀(l:List Ty){left:Int},left<0→Tys.size l left=left
 | [],_,_=>by simp [Tys.size]
 | x::l,left,h=>by rw [Tys.size,if_neg Jo]
abbrev Hx:=@Tys.size_neg
mutual
def Ty.deepB:Ty→Int→Bool
 | .mk _ _ l,left=>if left<0 then false else Tys.deepB l (left - 1)
def Tys.deepB:List Ty→Int→Bool
 | [],_=>true
 | x::l,left=>x.deepB left && Tys.deepB l left
end
mutual
def Ty.depth:Ty→Int→Int
 | .mk _ _ l,most=>Tys.depth l most 0
def Tys.depth:List Ty→Int→Int→Int
 | [],_,n=>n
 | x::l,most,n=>if n≤most then (if most=0 then 1 else Tys.depth l most (if n<1+x.depth (most - 1) then 1+x.depth (most - 1) else n)) else n
end
mutual
theorem Ty.depth_iff:∀(t:Ty){most:Int},0≤most→(t.depth most≤most↔t.deepB most=true)
 | .mk _ _ l,most,h=>by
   rw [Ty.depth,Ty.deepB,if_neg Jo,Tys.depth_iff l h];exact ⟨fun h=>h.2,fun h2=>⟨h,h2⟩⟩
theorem Tys.depth_iff:∀(l:List Ty){most n:Int},0≤most→(Tys.depth l most n≤most↔n≤most∧Tys.deepB l (most - 1)=true)
 | [],most,n,h=>by rw [Tys.depth,Tys.deepB];simp
 | x ::l,most,n,h=>by
   rw [Tys.depth,Tys.deepB];by_cases hn:n≤most
   · rw [if_pos hn]
     by_cases h0:most=0
     · rw [if_pos h0];have:x.deepB (most - 1)=false:=(by obtain ⟨k,r,l2⟩:=x;rw [Ty.deepB,if_pos Jo]);rw [this];simp;omega
     · rw [if_neg h0,Tys.depth_iff l h]
       have:=Ty.depth_iff x (most:=most - 1) Jo;rw [EW,←this];constructor
       · rintro ⟨h1,h2⟩;split at h1<;>exact ⟨Jo,Jo,h2⟩
       · rintro ⟨h1,h2,h3⟩;refine ⟨?_,h3⟩;split<;>omega
   · rw [if_neg hn];exact ⟨fun h=>absurd h hn,fun h=>h.1⟩
end
mutual
def Ty.same:Ty→Ty→Bool
 | .mk k r l, .mk k2 r2 l2=>decide (k=k2) && decide (r=r2) && Tys.same l l2
def Tys.same:List Ty→List Ty→Bool
 | [],[]=>true
 | x::l,y::m=>x.same y && Tys.same l m
 | [],_::_=>false
 | _::_,[]=>false
end
mutual
theorem Ty.same_iff:∀(t u:Ty),t.same u=true↔t=u
 | .mk k r l, .mk k2 r2 l2=>by
   rw [Ty.same,EW,EW,Tys.same_iff l l2];simp only [decide_eq_true_eq,Ty.mk.injEq,and_assoc]
theorem Tys.same_iff:∀(l m:List Ty),Tys.same l m=true↔l=m
 | [],[]=>by simp [Tys.same]
 | x::l,y::m=>by rw [Tys.same,EW,Ty.same_iff x y,Tys.same_iff l m];simp
 | [],_::_=>by simp [Tys.same]
 | _::_,[]=>by simp [Tys.same]
end
instance:DecidableEq Ty:=fun t u=>decidable_of_iff _ (Ty.same_iff t u)
mutual
def Ty.wrong (fields:Nat):Ty→Int→Int
 | .mk k r l,regs=>
   if k<1∨4<k then 3 else if k=1∧r≠0∨k≠3∧0<l.length then 4 else if fields<l.length then 2 else if k≠1∧(r<0∨regs≤r) then 1 else Tys.wrong fields l regs
def Tys.wrong (fields:Nat):List Ty→Int→Int
 | [],_=>0
 | x::l,regs=>if x.wrong fields regs≠0 then x.wrong fields regs else Tys.wrong fields l regs
end
mutual
def Ty.ren:Ty→List Int→Option Ty
 | .mk k r l,to=>if k≠1∧(r<0∨(to.length:Int)≤r∨to.getD r.toNat 0<0) then none else
   match Tys.ren l to with
   | none=>none
   | some m=>some (.mk k (if k≠1 then to.getD r.toNat 0 else r) m)
def Tys.ren:List Ty→List Int→Option (List Ty)
 | [],_=>some []
 | x ::l,to=>match x.ren to with
   | none=>none
   | some y=>match Tys.ren l to with
     | none=>none
     | some m=>some (y::m)
end
mutual
theorem Ty.ren_ren {f g h:List Int}(hfg:∀i:Nat,i<f.length→0≤f.getD i 0∧f.getD i 0<g.length∧0≤g.getD (f.getD i 0).toNat 0∧i<h.length∧h.getD i 0=g.getD (f.getD i 0).toNat 0):
 ∀(t u:Ty),t.ren f=some u→∃v,u.ren g=some v∧t.ren h=some v
 | .mk k r l,u,ht=>by
   rw [Ty.ren] at ht;split at ht
   · cases ht
   · rename_i hc
     cases hl:Tys.ren l f with
     | none=>rw [hl] at ht;cases ht
     | some m=>
       rw [hl] at ht;simp only [E0] at ht;obtain ⟨m2,h1,h2⟩:=Tys.ren_ren hfg l m hl;subst ht;by_cases hk:k=1
       · refine ⟨.mk k r m2,?_,?_⟩
         · rw [Ty.ren,if_neg Jo,h1];simp [hk]
         · rw [Ty.ren,if_neg Jo,h2];simp [hk]
       · have:=hfg r.toNat Jo
         refine ⟨.mk k (g.getD (f.getD r.toNat 0).toNat 0) m2,?_,?_⟩
         · rw [Ty.ren,if_pos hk,if_neg Jo,h1];simp [hk]
         · rw [Ty.ren,if_neg Jo,h2];simp only [if_pos hk,this.2.2.2.2]
theorem Tys.ren_ren {f g h:List Int}(hfg:∀i:Nat,i<f.length→0≤f.getD i 0∧f.getD i 0<g.length∧0≤g.getD (f.getD i 0).toNat 0∧i<h.length∧h.getD i 0=g.getD (f.getD i 0).toNat 0):
 ∀(t u:List Ty),Tys.ren t f=some u→∃v,Tys.ren u g=some v∧Tys.ren t h=some v
 | [],u,ht=>by rw [Tys.ren] at ht;cases ht;exact ⟨[],by rw [Tys.ren],by rw [Tys.ren]⟩
 | x ::l,u,ht=>by
   rw [Tys.ren] at ht
   cases hx:x.ren f with
   | none=>rw [hx] at ht;cases ht
   | some y=>
     rw [hx] at ht
     cases hl:Tys.ren l f with
     | none=>rw [hl] at ht;cases ht
     | some m=>
       rw [hl] at ht;simp only [E0] at ht;subst ht;obtain ⟨y2,a1,a2⟩:=Ty.ren_ren hfg x y hx;obtain ⟨m2,b1,b2⟩:=Tys.ren_ren hfg l m hl;exact ⟨y2::m2,by rw [Tys.ren,a1,b1],by rw [Tys.ren,a2,b2]⟩
end
mutual
theorem Ty.ren_wrong {fields:Nat}{f:List Int}(hf:∀i:Nat,i<f.length→0≤f.getD i 0∧f.getD i 0<f.length):∀(t u:Ty),t.ren f=some u→u.wrong fields f.length=t.wrong fields f.length
 | .mk k r l,u,ht=>by
   rw [Ty.ren] at ht;split at ht
   · cases ht
   · rename_i hc
     cases hl:Tys.ren l f with
     | none=>rw [hl] at ht;cases ht
     | some m=>
       rw [hl] at ht;simp only [E0] at ht;subst ht;obtain ⟨h1,h2⟩:=Tys.ren_wrong (fields:=fields) hf l m hl;by_cases hk:k=1
       · rw [Ty.wrong,Ty.wrong,h1,h2];simp [hk]
       · have:=hf r.toNat Jo;rw [Ty.wrong,Ty.wrong,h1,h2];simp only [if_pos hk];rw [if_neg (show¬(k≠1∧(f.getD r.toNat 0<0∨(f.length:Int)≤f.getD r.toNat 0)) by omega),if_neg (show¬(k≠1∧(r<0∨(f.length:Int)≤r)) by omega)];simp [hk]
theorem Tys.ren_wrong {fields:Nat}{f:List Int}(hf:∀i:Nat,i<f.length→0≤f.getD i 0∧f.getD i 0<f.length):∀(t u:List Ty),Tys.ren t f=some u→u.length=t.length∧Tys.wrong fields u f.length=Tys.wrong fields t f.length
 | [],u,ht=>by rw [Tys.ren] at ht;cases ht;exact ⟨rfl,rfl⟩
 | x ::l,u,ht=>by
   rw [Tys.ren] at ht
   cases hx:x.ren f with
   | none=>rw [hx] at ht;cases ht
   | some y=>
     rw [hx] at ht
     cases hl:Tys.ren l f with
     | none=>rw [hl] at ht;cases ht
     | some m=>
       rw [hl] at ht;simp only [E0] at ht;subst ht;obtain ⟨h1,h2⟩:=Tys.ren_wrong (fields:=fields) hf l m hl;exact ⟨by simp [h1],by rw [Tys.wrong,Tys.wrong,Ty.ren_wrong hf x y hx,h2]⟩
end
mutual
theorem Ty.ren_none {fields:Nat}{f:List Int}(hf:∀i:Nat,i<f.length→0≤f.getD i 0):∀(t:Ty),t.ren f=none→t.wrong fields f.length≠0
 | .mk k r l,ht=>by
   rw [Ty.wrong];rw [Ty.ren] at ht;split
   · decide
   · split
     · decide
     · split
       · decide
       · split
         · decide
         · rename_i h1 h2 h3 h4
           have hc:¬(k≠1∧(r<0∨(f.length:Int)≤r∨f.getD r.toNat 0<0)):=by
            rintro ⟨a,b⟩;have:=hf r.toNat;omega
           rw [if_neg hc] at ht
           cases hl:Tys.ren l f with
           | none=>exact Tys.ren_none hf l hl
           | some m=>rw [hl] at ht;cases ht
theorem Tys.ren_none {fields:Nat}{f:List Int}(hf:∀i:Nat,i<f.length→0≤f.getD i 0):∀(t:List Ty),Tys.ren t f=none→Tys.wrong fields t f.length≠0
 | [],ht=>by rw [Tys.ren] at ht;cases ht
 | x ::l,ht=>by
   rw [Tys.ren] at ht;rw [Tys.wrong];split
   · rename_i h;exact h
   · rename_i h
     cases hx:x.ren f with
     | none=>exact absurd hx (fun hx=>h (Ty.ren_none hf x hx))
     | some y=>
       rw [hx] at ht
       cases hl:Tys.ren l f with
       | none=>exact Tys.ren_none hf l hl
       | some m=>rw [hl] at ht;cases ht
end
mutual
theorem Ty.ren_deep {f:List Int}:∀(t u:Ty) (left:Int),t.ren f=some u→u.deepB left=t.deepB left
 | .mk k r l,u,left,ht=>by
   rw [Ty.ren] at ht;split at ht
   · cases ht
   · cases hl:Tys.ren l f with
     | none=>rw [hl] at ht;cases ht
     | some m=>
       rw [hl] at ht;simp only [E0] at ht;subst ht;rw [Ty.deepB,Ty.deepB,Tys.ren_deep l m (left - 1) hl]
theorem Tys.ren_deep {f:List Int}:∀(t u:List Ty) (left:Int),Tys.ren t f=some u→Tys.deepB u left=Tys.deepB t left
 | [],u,_,ht=>by rw [Tys.ren] at ht;cases ht;rfl
 | x ::l,u,left,ht=>by
   rw [Tys.ren] at ht
   cases hx:x.ren f with
   | none=>rw [hx] at ht;cases ht
   | some y=>
     rw [hx] at ht
     cases hl:Tys.ren l f with
     | none=>rw [hl] at ht;cases ht
     | some m=>
       rw [hl] at ht;simp only [E0] at ht;subst ht;rw [Tys.deepB,Tys.deepB,Ty.ren_deep x y left hx,Tys.ren_deep l m left hl]
end
mutual
theorem Ty.ren_id {f:List Int}(hf:∀i:Nat,i<f.length→f.getD i 0=i):∀(t u:Ty),t.ren f=some u→u=t
 | .mk k r l,u,ht=>by
   rw [Ty.ren] at ht;split at ht
   · cases ht
   · rename_i hc
     cases hl:Tys.ren l f with
     | none=>rw [hl] at ht;cases ht
     | some m=>
       rw [hl] at ht;simp only [E0] at ht;subst ht;rw [Tys.ren_id hf l m hl];by_cases hk:k=1
       · simp [hk]
       · have:=hf r.toNat Jo;rw [if_pos hk,this,Fb Jo]
theorem Tys.ren_id {f:List Int}(hf:∀i:Nat,i<f.length→f.getD i 0=i):∀(t u:List Ty),Tys.ren t f=some u→u=t
 | [],u,ht=>by rw [Tys.ren] at ht;cases ht;rfl
 | x ::l,u,ht=>by
   rw [Tys.ren] at ht
   cases hx:x.ren f with
   | none=>rw [hx] at ht;cases ht
   | some y=>
     rw [hx] at ht
     cases hl:Tys.ren l f with
     | none=>rw [hl] at ht;cases ht
     | some m=>
       rw [hl] at ht;simp only [E0] at ht;subst ht;rw [Ty.ren_id hf x y hx,Tys.ren_id hf l m hl]
end
theorem Ty.ind {p:Ty→Prop}(h:∀k r l,(∀x∈l,p x)→p (.mk k r l)):∀t,p t
 | .mk k r l=>h k r l fun x hx=>Ty.ind h x
termination_by t=>SizeOf.sizeOf t
decreasing_by
 have:=H3 hx;simp only [Ty.mk.sizeOf_spec];omega
abbrev GX:=@Ty.ind
mutual
theorem Ty.size_rng:∀(t:Ty){left:Int},0≤left→-1≤t.size left∧t.size left<left
 | .mk _ _ l,left,h=>by
   rw [Ty.size];have:=Tys.size_rng l (left:=left - 1) Jo;omega
theorem Tys.size_rng:∀(l:List Ty){left:Int}, -1≤left→-1≤Tys.size l left∧Tys.size l left≤left
 | [],left,h=>by rw [Tys.size];omega
 | x ::l,left,h=>by
   rw [Tys.size];split
   · rename_i h0;have h1:=Ty.size_rng x h0;have h2:=Tys.size_rng l (left:=x.size left) h1.1;omega
   · omega
end
mutual
theorem Ty.size_mono:∀(t:Ty){a b:Int},a≤b→-1≤a→t.size a≤t.size b
 | .mk _ _ l,a,b,h,ha=>by
   rw [Ty.size,Ty.size];by_cases h0:0≤a
   · exact Tys.size_mono l Jo Jo
   · rw [Hx l Jo]
     by_cases hb:0≤b
     · have:=Tys.size_rng l (left:=b - 1) Jo;omega
     · rw [Hx l Jo];omega
theorem Tys.size_mono:∀(l:List Ty){a b:Int},a≤b→-1≤a→Tys.size l a≤Tys.size l b
 | [],a,b,h,_=>by rw [Tys.size,Tys.size];exact h
 | x ::l,a,b,h,ha=>by
   by_cases h0:0≤a
   · rw [Tys.size,Tys.size,if_pos h0,if_pos Jo];exact Tys.size_mono l (Ty.size_mono x h ha) (Ty.size_rng x h0).1
   · rw [Hx _ Jo];have:=Tys.size_rng (x::l) (left:=b) Jo;omega
end
theorem Tys.size_len:∀(l:List Ty){left:Int},0≤Tys.size l left→-1≤left→(l.length:Int)≤left∧∀x∈l,0≤x.size left
 | [],left,h,_=>by rw [Tys.size] at h;simp;exact h
 | x ::l,left,h,hl=>by
   rw [Tys.size] at h;split at h
   · rename_i h0
     have h1:=Ty.size_rng x h0;have h2:=Tys.size_len l h h1.1;have h3:=Tys.size_rng l (left:=x.size left) h1.1;refine ⟨by simp only [ET];omega,fun y hy=>?_⟩;rcases ES.1 hy with rfl|hy
     · omega
     · exact Int.le_trans (h2.2 y hy) (Ty.size_mono y Jo h1.1)
   · omega
abbrev I9:=@Tys.size_len
def Ty.fault (t:Ty)(regs:Int):Int:=if t.deepB 4=false then 19 else t.wrong 8 regs
mutual
theorem Ty.depth_rng:∀(t:Ty){most:Int},0≤most→0≤t.depth most∧t.depth most≤most+1
 | .mk _ _ l,most,h=>by
   rw [Ty.depth];exact Tys.depth_rng l h Jo Jo
theorem Tys.depth_rng:∀(l:List Ty){most n:Int},0≤most→0≤n→n≤most+1→0≤Tys.depth l most n∧Tys.depth l most n≤most+1
 | [],most,n,_,h1,h2=>by rw [Tys.depth];omega
 | x ::l,most,n,h,h1,h2=>by
   rw [Tys.depth];split
   · split
     · omega
     · have:=Ty.depth_rng x (most:=most - 1) Jo;exact Tys.depth_rng l h (by split<;>omega) (by split<;>omega)
   · omega
end
inductive Ty.Short:Ty→Prop where
 | mk {k r:Int}{l:List Ty}:l.length≤100000→(∀x∈l,x.Short)→Ty.Short (.mk k r l)
theorem Ty.Short.parts {k r:Int}{l:List Ty}(h:(Ty.mk k r l).Short):l.length≤100000∧∀x∈l,x.Short:=by
 cases h with|mk h1 h2=>exact ⟨h1,h2⟩
theorem Ty.short_of_size:∀(t:Ty){n:Int},n≤100000→0≤n→0≤t.size n→t.Short:=by
 intro t
 induction t using GX with
 | h k r l ih=>
   intro n h1 h0 h;rw [Ty.size] at h;obtain ⟨h2,h3⟩:=I9 l h Jo;refine .mk Jo fun x hx=>?_;have hp:=h3 x hx;have hl:=Hb hx;exact ih x hx (n:=n - 1) Jo Jo hp
def Ty.great (t:Ty):Bool:=decide (t.size 2000<0)
def Tys.great (l:List Ty):Bool:=decide (200<l.length)||l.any Ty.great
theorem Ty.short_of_great {t:Ty}(h:t.great=false):t.Short:=Ty.short_of_size t (n:=2000) Jo Jo (by unfold Ty.great at h;simp at h;exact h)
abbrev JO:=@Ty.short_of_great
theorem Tys.short_of_great {l:List Ty}(h:Tys.great l=false):l.length≤200∧∀x∈l,x.Short:=by
 unfold Tys.great at h;rw [Hk] at h;refine ⟨by have:=of_decide_eq_false h.1;omega,fun x hx=>JO ?_⟩
 cases hg:x.great with
 | false=>rfl
 | true=>have:=List.any_eq_true.2 ⟨x,hx,hg⟩;rw [h.2] at this;cases this
abbrev JI:=@Tys.short_of_great
end
section
structure Ins where
 op:Int
 a:Int
 b:Int
 c:Int
 k:Int
 n:Int
 regs:List Int
 args:List Int
structure To where
 block:Int
 regs:List Int
 args:List Int
structure Tail where
 op:Int
 a:Int
 yes:To
 no:To
 args:List Int
structure Block where
 regs:Int
 params:List Ty
 code:List Ins
 fin:Tail
deriving instance DecidableEq for Ins
deriving instance DecidableEq for To
deriving instance DecidableEq for Tail
deriving instance DecidableEq for Block
structure Fun where
 regs:Int
 params:List Ty
 results:List Ty
 blocks:List Block
structure Module where
 funcs:List Fun
deriving instance DecidableEq for Fun
deriving instance DecidableEq for Module

theorem Fun.eq_of {x y:Fun}(h1:x.regs=y.regs)(h2:x.params=y.params)(h3:x.results=y.results)(h4:x.blocks=y.blocks):x=y:=by
 cases x;cases y;simp_all
def Ins.Short (x:Ins):Prop:=x.regs.length≤100000∧x.args.length≤100000
def To.Short (x:To):Prop:=x.regs.length≤100000∧x.args.length≤100000
def Tail.Short (x:Tail):Prop:=x.yes.Short∧x.no.Short∧x.args.length≤100000
def Tys.Short (l:List Ty):Prop:=l.length≤100000∧∀t∈l,t.Short
def Block.Short (x:Block):Prop:=Tys.Short x.params∧x.code.length≤100000∧(∀i∈x.code,i.Short)∧x.fin.Short
def Fun.Short (x:Fun):Prop:=Tys.Short x.params∧Tys.Short x.results∧x.blocks.length≤100000∧∀b∈x.blocks,b.Short
def Module.Short (x:Module):Prop:=x.funcs.length≤100000∧∀f∈x.funcs,f.Short
theorem Tys.Short.of_great {l:List Ty}(h:Tys.great l=false):Tys.Short l:=by
 have:=JI h;exact ⟨Jo,this.2⟩
abbrev HD:=@Tys.Short.of_great
theorem bH {l:List α}{p:α→Prop}{x:α}(h:∀y∈l.take j,p y)(hx:l[j]?=some x)(hp:p x):∀y∈l.take (j+1),p y:=by
 intro y hy;rw [GS,hx] at hy;rcases E3.1 hy with hy|hy
 · exact h y hy
 · simp at hy;subst hy;exact hp
theorem gP {l:List α}{p:α→Prop}(h:∀y∈l.take j,p y)(hj:l.length≤j):∀y∈l,p y:=by
 rw [E1 hj] at h;exact h
def Ky:Rep Ins where
 es:=8
 pos:=by decide
 R:=fun H K cs x=>∃vr va,cs=[.int .i64 x.op, .int .i64 x.a, .int .i64 x.b, .int .i64 x.c, .int .i64 x.k, .int .i64 x.n,vr,va]∧JY.SR H K vr x.regs∧JY.SR H K va x.args
 len:=by rintro _ _ _ _ ⟨vr,va,rfl,_⟩;rfl
 one:=by
  rintro _ _ _ _ ⟨vr,va,rfl,h1,h2⟩ u hu;simp at hu;rcases hu with rfl|rfl|rfl|rfl|rfl|rfl|rfl|rfl<;>first|rfl|exact h1.oneC|exact h2.oneC
 turn:=by rintro _ _ _ _ _ _ ⟨vr,va,rfl,h1,h2⟩ hs;exact ⟨vr,va,rfl,h1.turn hs,h2.turn hs⟩
def toR:Rep To where
 es:=3
 pos:=by decide
 R:=fun H K cs x=>∃vr va,cs=[.int .i64 x.block,vr,va]∧JY.SR H K vr x.regs∧JY.SR H K va x.args
 len:=by rintro _ _ _ _ ⟨vr,va,rfl,_⟩;rfl
 one:=by
  rintro _ _ _ _ ⟨vr,va,rfl,h1,h2⟩ u hu;simp at hu;rcases hu with rfl|rfl|rfl<;>first|rfl|exact h1.oneC|exact h2.oneC
 turn:=by rintro _ _ _ _ _ _ ⟨vr,va,rfl,h1,h2⟩ hs;exact ⟨vr,va,rfl,h1.turn hs,h2.turn hs⟩
def K3:Rep Tail where
 es:=9
 pos:=by decide
 R:=fun H K cs x=>∃v1 v2 v3 v4 v5,cs=[.int .i64 x.op, .int .i64 x.a, .int .i64 x.yes.block,v1,v2, .int .i64 x.no.block,v3,v4,v5]∧JY.SR H K v1 x.yes.regs∧JY.SR H K v2 x.yes.args∧JY.SR H K v3 x.no.regs∧JY.SR H K v4 x.no.args∧JY.SR H K v5 x.args
 len:=by rintro _ _ _ _ ⟨_,_,_,_,_,rfl,_⟩;rfl
 one:=by
  rintro _ _ _ _ ⟨_,_,_,_,_,rfl,h1,h2,h3,h4,h5⟩ u hu;simp at hu;rcases hu with rfl|rfl|rfl|rfl|rfl|rfl|rfl|rfl|rfl<;>first|rfl|exact h1.oneC|exact h2.oneC|exact h3.oneC|exact h4.oneC|exact h5.oneC
 turn:=by rintro _ _ _ _ _ _ ⟨_,_,_,_,_,rfl,h1,h2,h3,h4,h5⟩ hs;exact ⟨_,_,_,_,_,rfl,h1.turn hs,h2.turn hs,h3.turn hs,h4.turn hs,h5.turn hs⟩
def Kx:Rep Block where
 es:=12
 pos:=by decide
 R:=fun H K cs x=>∃vp vc ce,cs= .int .i64 x.regs::vp::vc::ce∧J7.SR H K vp x.params∧Ky.SR H K vc x.code∧K3.R H K ce x.fin
 len:=by rintro _ _ _ _ ⟨_,_,ce,rfl,_,_,h⟩;have:=K3.len h;simp [this,K3]
 one:=by
  rintro _ _ _ _ ⟨_,_,ce,rfl,h1,h2,h3⟩ u hu;simp at hu;rcases hu with rfl|rfl|rfl|hu
  · rfl
  · exact h1.oneC
  · exact h2.oneC
  · exact K3.one h3 u hu
 turn:=by rintro _ _ _ _ _ _ ⟨_,_,_,rfl,h1,h2,h3⟩ hs;exact ⟨_,_,_,rfl,h1.turn hs,h2.turn hs,K3.turn h3 hs⟩
def Kj:Rep Fun where
 es:=4
 pos:=by decide
 R:=fun H K cs x=>∃vp vr vb,cs=[.int .i64 x.regs,vp,vr,vb]∧J7.SR H K vp x.params∧J7.SR H K vr x.results∧Kx.SR H K vb x.blocks
 len:=by rintro _ _ _ _ ⟨_,_,_,rfl,_⟩;rfl
 one:=by
  rintro _ _ _ _ ⟨_,_,_,rfl,h1,h2,h3⟩ u hu;simp at hu;rcases hu with rfl|rfl|rfl|rfl<;>first|rfl|exact h1.oneC|exact h2.oneC|exact h3.oneC
 turn:=by rintro _ _ _ _ _ _ ⟨_,_,_,rfl,h1,h2,h3⟩ hs;exact Cj
def K6:Rep Module where
 es:=1
 pos:=by decide
 R:=fun H K cs x=>∃vf,cs=[vf]∧Kj.SR H K vf x.funcs
 len:=by rintro _ _ _ _ ⟨_,rfl,_⟩;rfl
 one:=by
  rintro _ _ _ _ ⟨_,rfl,h1⟩ u hu;simp at hu;subst hu;exact h1.oneC
 turn:=by rintro _ _ _ _ _ _ ⟨_,rfl,h1⟩ hs;exact ⟨_,rfl,h1.turn hs⟩

theorem Nh {c:Cx}{x:Ins}(h:Ky.at c cs x):∃vr va,cs=[.int .i64 x.op, .int .i64 x.a, .int .i64 x.b, .int .i64 x.c, .int .i64 x.k, .int .i64 x.n,vr,va]∧JY.sl c vr x.regs∧JY.sl c va x.args:=h
theorem SG {c:Cx}{x:To}(h:toR.at c cs x):∃vr va,cs=[.int .i64 x.block,vr,va]∧JY.sl c vr x.regs∧JY.sl c va x.args:=h
theorem WR {c:Cx}{x:Tail}(h:K3.at c cs x):∃v1 v2 v3 v4 v5,cs=[.int .i64 x.op, .int .i64 x.a, .int .i64 x.yes.block,v1,v2, .int .i64 x.no.block,v3,v4,v5]∧JY.sl c v1 x.yes.regs∧JY.sl c v2 x.yes.args∧JY.sl c v3 x.no.regs∧JY.sl c v4 x.no.args∧JY.sl c v5 x.args:=h
theorem QZ {c:Cx}{x:Block}(h:Kx.at c cs x):∃vp vc v1 v2 v3 v4 v5,cs=[.int .i64 x.regs,vp,vc, .int .i64 x.fin.op, .int .i64 x.fin.a, .int .i64 x.fin.yes.block,v1,v2, .int .i64 x.fin.no.block,v3,v4,v5]∧J7.sl c vp x.params∧Ky.sl c vc x.code∧JY.sl c v1 x.fin.yes.regs∧JY.sl c v2 x.fin.yes.args∧JY.sl c v3 x.fin.no.regs∧JY.sl c v4 x.fin.no.args∧JY.sl c v5 x.fin.args:=by
 obtain ⟨vp,vc,ce,rfl,h1,h2,v1,v2,v3,v4,v5,rfl,h3⟩:=h;exact ⟨vp,vc,v1,v2,v3,v4,v5,rfl,h1,h2,h3⟩
theorem gQ {c:Cx}{x:Block}{vp vc v5:Value}(h1:J7.sl c vp x.params)(h2:Ky.sl c vc x.code)(h3:JY.sl c v1 x.fin.yes.regs)(h4:JY.sl c v2 x.fin.yes.args)(h5:JY.sl c v3 x.fin.no.regs)(h6:JY.sl c v4 x.fin.no.args)(h7:JY.sl c v5 x.fin.args):
 Kx.at c [.int .i64 x.regs,vp,vc, .int .i64 x.fin.op, .int .i64 x.fin.a, .int .i64 x.fin.yes.block,v1,v2, .int .i64 x.fin.no.block,v3,v4,v5] x:=⟨vp,vc,_,rfl,h1,h2,v1,v2,v3,v4,v5,rfl,h3,h4,h5,h6,h7⟩
theorem Qw {c:Cx}{x:Fun}(h:Kj.at c cs x):∃vp vr vb,cs=[.int .i64 x.regs,vp,vr,vb]∧J7.sl c vp x.params∧J7.sl c vr x.results∧Kx.sl c vb x.blocks:=h
theorem NV {c:Cx}{x:Module}(h:K6.at c cs x):∃vf,cs=[vf]∧Kj.sl c vf x.funcs:=h

section
variable {P:Program}{T:TypeId}
theorem Cod.Of.part {r:Rep α}(c:Cod.Of P T r){x:α}(h:c.cod.rd H cs x):r.R H (· < H.size) cs x:=c.rd _ _ _ h
def Cod.Of.to {TI TL:TypeId}(ci:Cod.Of P TI JY)(cl:Cod.Of P TL JY.list)(h0:fieldAt P T 0=some (0,1,TI))(h1:fieldAt P T 1=some (1,1,TL))(h2:fieldAt P T 2=some (2,1,TL))(hT:P.cellsOf T=3):Cod.Of P T toR:=
 Cod.of (Fld.cod (Fld.more ci.cod h0 (Fld.more cl.cod h1 (Fld.more cl.cod h2 Fld.none))) h0 3 hT) toR rfl fun H cs x h=>by
  obtain ⟨hl,g0,g1,g2,_⟩:=h
  match cs,hl with
  | [a,b,c],_=>
    have e0:[a]=[_]:=ci.part g0;obtain ⟨v1,e1,s1⟩:=cl.part g1;obtain ⟨v2,e2,s2⟩:=cl.part g2;replace e1:[b]=[v1]:=e1;replace e2:[c]=[v2]:=e2;simp only [FG,and_true] at e0 e1 e2;subst e0 e1 e2;exact ⟨⟨x.1,x.2.1,x.2.2.1⟩,b,c,rfl,s1,s2⟩
def Cod.Of.ins {TI TL TN:TypeId}(ci:Cod.Of P TI JY)(cn:Cod.Of P TN JY)(cl:Cod.Of P TL JY.list)(h0:fieldAt P T 0=some (0,1,TI))(h1:fieldAt P T 1=some (1,1,TI))(h2:fieldAt P T 2=some (2,1,TI))(h3:fieldAt P T 3=some (3,1,TI))(h4:fieldAt P T 4=some (4,1,TI))(h5:fieldAt P T 5=some (5,1,TN))(h6:fieldAt P T 6=some (6,1,TL))(h7:fieldAt P T 7=some (7,1,TL))(hT:P.cellsOf T=8):Cod.Of P T Ky:=
 Cod.of (Fld.cod (Fld.more ci.cod h0 (Fld.more ci.cod h1 (Fld.more ci.cod h2 (Fld.more ci.cod h3 (Fld.more ci.cod h4 (Fld.more cn.cod h5 (Fld.more cl.cod h6 (Fld.more cl.cod h7 Fld.none)))))))) h0 8 hT) Ky rfl fun H cs x h=>by
  obtain ⟨hl,g0,g1,g2,g3,g4,g5,g6,g7,_⟩:=h
  match cs,hl with
  | [a0,a1,a2,a3,a4,a5,a6,a7],_=>
    have e0:[a0]=[_]:=ci.part g0;have e1:[a1]=[_]:=ci.part g1;have e2:[a2]=[_]:=ci.part g2;have e3:[a3]=[_]:=ci.part g3;have e4:[a4]=[_]:=ci.part g4;have e5:[a5]=[_]:=cn.part g5;obtain ⟨v1,e6,s1⟩:=cl.part g6;obtain ⟨v2,e7,s2⟩:=cl.part g7;replace e6:[a6]=[v1]:=e6;replace e7:[a7]=[v2]:=e7;simp only [FG,and_true] at e0 e1 e2 e3 e4 e5 e6 e7;subst e0 e1 e2 e3 e4 e5 e6 e7;exact ⟨⟨x.1,x.2.1,x.2.2.1,x.2.2.2.1,x.2.2.2.2.1,x.2.2.2.2.2.1,x.2.2.2.2.2.2.1,x.2.2.2.2.2.2.2.1⟩,_,_,rfl,s1,s2⟩
def Cod.Of.block {TI TL TC TE:TypeId}(ci:Cod.Of P TI JY)(cl:Cod.Of P TL J7.list)(cc:Cod.Of P TC Ky.list)(ce:Cod.Of P TE K3)(h0:fieldAt P T 0=some (0,1,TI))(h1:fieldAt P T 1=some (1,1,TL))(h2:fieldAt P T 2=some (2,1,TC))(h3:fieldAt P T 3=some (3,9,TE))(hT:P.cellsOf T=12):Cod.Of P T Kx:=
 Cod.of (Fld.cod (Fld.more ci.cod h0 (Fld.more cl.cod h1 (Fld.more cc.cod h2 (Fld.more ce.cod h3 Fld.none)))) h0 12 hT) Kx rfl fun H cs x h=>by
  obtain ⟨hl,g0,g1,g2,g3,_⟩:=h
  match cs,hl with
  | [a0,a1,a2,a3,a4,a5,a6,a7,a8,a9,a10,a11],_=>
    have e0:[a0]=[_]:=ci.part g0;obtain ⟨v1,e1,s1⟩:=cl.part g1;obtain ⟨v2,e2,s2⟩:=cc.part g2;have s3:=ce.part g3;replace e1:[a1]=_:=e1;replace e2:[a2]=_:=e2;replace s3:K3.R H (· < H.size) [a3,a4,a5,a6,a7,a8,a9,a10,a11] x.2.2.2.1:=s3;simp only [FG,and_true] at e0 e1 e2;subst e0 e1 e2;exact C6
def Cod.Of.func {TI TL TB:TypeId}(ci:Cod.Of P TI JY)(cl:Cod.Of P TL J7.list)(cb:Cod.Of P TB Kx.list)(h0:fieldAt P T 0=some (0,1,TI))(h1:fieldAt P T 1=some (1,1,TL))(h2:fieldAt P T 2=some (2,1,TL))(h3:fieldAt P T 3=some (3,1,TB))(hT:P.cellsOf T=4):Cod.Of P T Kj:=
 Cod.of (Fld.cod (Fld.more ci.cod h0 (Fld.more cl.cod h1 (Fld.more cl.cod h2 (Fld.more cb.cod h3 Fld.none)))) h0 4 hT) Kj rfl fun H cs x h=>by
  obtain ⟨hl,g0,g1,g2,g3,_⟩:=h
  match cs,hl with
  | [a0,a1,a2,a3],_=>
    have e0:[a0]=[_]:=ci.part g0;obtain ⟨v1,e1,s1⟩:=cl.part g1;obtain ⟨v2,e2,s2⟩:=cl.part g2;obtain ⟨v3,e3,s3⟩:=cb.part g3;replace e1:[a1]=_:=e1;replace e2:[a2]=_:=e2;replace e3:[a3]=_:=e3;simp only [FG,and_true] at e0 e1 e2 e3;subst e0 e1 e2 e3;exact C6
end
end
section
def ni (n:Int):Int:=MY .xor .u64 (IntKind.u64.wrap (IntKind.u64.wrap n*2 ^ (min (1:Int).toNat IntKind.u64.bits))) (IntKind.u64.wrap (n.fdiv (2 ^ (min (63:Int).toNat IntKind.i64.bits))))
def yz (n:Int):Nat:=(ni n).toNat
def gR:Nat→Nat→List UInt8
 | 0,_=>[]
 | k+1,u=>if u<128 then [UInt8.ofNat u] else UInt8.ofNat (u % 128+128)::gR k (u / 128)
theorem sa:∀(k u:Nat),(gR k u).length≤k
 | 0,_=>by simp [gR]
 | k +1,u=>by
   rw [gR];split
   · simp
   · have:=sa k (u / 128);simp only [ET];omega
def O4 (n:Int):List UInt8:=gR 10 (yz n)
def kB (l:List Int):List UInt8:=l.flatMap O4
theorem OJ (n:Int):(O4 n).length≤10:=sa 10 _
theorem sb:∀(l:List Int),(kB l).length≤10*l.length
 | []=>by simp [kB]
 | n::l=>by
   have h1:=OJ n;have h2:=sb l;simp only [kB,FR,EM,ET] at h2 ⊢;omega
theorem bI (u:Nat):IntKind.u8.wrap (u:Int)=((u % 256:Nat):Int):=by
 unfold IntKind.wrap;simp [IntKind.bits,IntKind.signed]
def bJ (l:List Int):List UInt8:=O4 l.length++kB l
mutual
def Ty.bts:Ty→List UInt8
 | .mk k r l=>O4 k++(if k≠1 then O4 r else [])++(if k=3 then O4 l.length++Tys.bts l else [])
def Tys.bts:List Ty→List UInt8
 | []=>[]
 | x::l=>x.bts++Tys.bts l
end
def TU (l:List Ty):List UInt8:=O4 l.length++Tys.bts l
def To.bts (t:To):List UInt8:=O4 t.block++bJ t.regs++bJ t.args
def Tail.bts (e:Tail):List UInt8:=O4 e.op++(if e.op=1 then e.yes.bts else if e.op=2 then O4 e.a++e.yes.bts++e.no.bts else if e.op=3 then bJ e.args else [])
def SH (op:Int):Nat:=if op<0∨14<op then 0 else [0,64,11,0,1,33,9,11,3,3,7,1,0,1,56].getD op.toNat 0
def RE (h:Nat):Nat→List Int→List UInt8
 | _,[]=>[]
 | k,n::l=>(if h / 2 ^ k % 2=1 then O4 n else [])++RE h (k+1) l
def Ins.bts (x:Ins):List UInt8:=O4 x.op++RE (SH x.op) 0 [x.a,x.b,x.c,x.k]++(if SH x.op / 64 % 2=1 then O4 x.n else [])++(if SH x.op / 16 % 2=1 then bJ x.regs else [])++(if SH x.op / 32 % 2=1 then bJ x.args else [])
end
section
mutual
def Ty.nodes:Ty→Nat
 | .mk _ _ l=>1+Tys.nodes l
def Tys.nodes:List Ty→Nat
 | []=>0
 | x::l=>x.nodes+Tys.nodes l
end
mutual
theorem Ty.size_nodes:∀(t:Ty){n:Int},0≤t.size n→t.size n=n - t.nodes
 | .mk k r l,n,h=>by
   rw [Ty.size] at h ⊢;rw [Tys.size_nodes l h,Ty.nodes];omega
theorem Tys.size_nodes:∀(l:List Ty){n:Int},0≤Tys.size l n→Tys.size l n=n - Tys.nodes l
 | [],n,h=>by rw [Tys.size,Tys.nodes];omega
 | x ::l,n,h=>by
   rw [Tys.size] at h ⊢;by_cases hn:0≤n
   · rw [if_pos hn] at h ⊢
     have hx:0≤x.size n:=by
      rcases Int.lt_or_le (x.size n) 0 with h1|h1
      · rw [Hx l h1] at h;omega
      · exact h1
     rw [Tys.size_nodes l h,Ty.size_nodes x hx,Tys.nodes];omega
   · rw [if_neg hn] at h;omega
end
theorem Ty.nodes_of_great {t:Ty}(h:t.great=false):t.nodes≤2000:=by
 unfold Ty.great at h;simp at h;have:=Ty.size_nodes t h;omega
abbrev JQ:=@Ty.nodes_of_great
end
section
def XY (c:BitVec 32):BitVec 32:=(c >>> 1) ^^^ (3988292384#32 &&& -(c &&& 1#32))
def gS:Nat→BitVec 32→BitVec 32
 | 0,c=>c
 | k+1,c=>gS k (XY c)
def XZ (c:BitVec 32)(x:UInt8):BitVec 32:=gS 8 (c ^^^ BitVec.ofNat 32 x.toNat)
def gT (bs:List UInt8):BitVec 32:=4294967295#32 ^^^ bs.foldl XZ 4294967295#32
section
variable {P:Program}{l:List GO}{Q:QT}{ρ:Km}{w:World}
end
end
section
def Block.bts (b:Block):List UInt8:=O4 b.regs++TU b.params++O4 b.code.length++b.code.flatMap Ins.bts++b.fin.bts
def Fun.bts (f:Fun):List UInt8:=O4 f.regs++TU f.params++TU f.results++O4 f.blocks.length++f.blocks.flatMap Block.bts
def Module.body (m:Module):List UInt8:=[67,72,1]++O4 m.funcs.length++m.funcs.flatMap Fun.bts
def Ins.Few (x:Ins):Prop:=x.regs.length≤300∧x.args.length≤300
def To.Few (x:To):Prop:=x.regs.length≤300∧x.args.length≤300
def Tail.Few (x:Tail):Prop:=x.yes.Few∧x.no.Few∧x.args.length≤300
def Block.Few (b:Block):Prop:=Tys.great b.params=false∧b.code.length≤200∧(∀i∈b.code,i.Few)∧b.fin.Few
def Fun.Few (f:Fun):Prop:=Tys.great f.params=false∧Tys.great f.results=false∧f.blocks.length≤30∧∀b∈f.blocks,b.Few
def Module.Few (m:Module):Prop:=m.funcs.length≤20∧∀f∈m.funcs,f.Few
theorem sc {α:Type}{f:α→List UInt8}{c:Nat}:∀{l:List α},(∀x∈l,(f x).length≤c)→(l.flatMap f).length≤l.length*c
 | [],_=>by simp
 | x::l,h=>by
   have h1:=h x (Fh ..);have h2:=sc (l:=l) fun y hy=>h y (E9 _ hy);rw [FR,EM,ET,G3];omega
theorem sd {f:α→List UInt8}{c n:Nat}{l:List α}(h:∀x∈l,(f x).length≤c)(hn:l.length≤n):(l.flatMap f).length≤n*c:=
 F3 (sc h) (FQ c hn)
mutual
theorem Ty.bts_len:∀(t:Ty),t.bts.length≤30*t.nodes
 | .mk k r l=>by
   have h1:=Tys.bts_len l;have h2:=OJ k;have h3:=OJ r;have h4:=OJ l.length;rw [Ty.bts,Ty.nodes];simp only [EM];split<;>split<;>simp only [EM,Ff]<;>omega
theorem Tys.bts_len:∀(l:List Ty),(Tys.bts l).length≤30*Tys.nodes l
 | []=>by simp [Tys.bts]
 | x::l=>by
   have h1:=Ty.bts_len x;have h2:=Tys.bts_len l;rw [Tys.bts,Tys.nodes,EM];omega
end
theorem Tys.nodes_few:∀{l:List Ty},(∀x∈l,x.nodes≤2000)→Tys.nodes l≤2000*l.length
 | [],_=>by simp [Tys.nodes]
 | x::l,h=>by
   have h1:=h x (Fh ..);have h2:=Tys.nodes_few (l:=l) fun y hy=>h y (E9 _ hy);rw [Tys.nodes,ET];omega
abbrev IY:=@Tys.nodes_few
theorem nj {l:List Ty}(h:Tys.great l=false):(TU l).length≤12000010:=by
 unfold Tys.great at h;rw [Hk] at h;have hl:l.length≤200:=(by have:=of_decide_eq_false h.1;omega);have h1:=Tys.bts_len l;have h2:=IY (l:=l) fun x hx=>JQ (by have:=List.any_eq_false.1 h.2 x hx;simpa using this);have h3:=OJ l.length;unfold TU;rw [EM];omega
theorem gU {l:List Int}(h:l.length≤300):(bJ l).length≤3010:=by
 have h1:=sb l;have h2:=OJ l.length;unfold bJ;rw [EM];omega
theorem To.bts_few {x:To}(h:x.Few):x.bts.length≤6030:=by
 have h1:=gU h.1;have h2:=gU h.2;have h3:=OJ x.block;unfold To.bts;simp only [EM];omega
abbrev JJ:=@To.bts_few
theorem Tail.bts_few {x:Tail}(h:x.Few):x.bts.length≤13000:=by
 have h1:=JJ h.1;have h2:=JJ h.2.1;have h3:=gU h.2.2;have h4:=OJ x.op;have h5:=OJ x.a;unfold Tail.bts;rw [EM];split
 · omega
 · split
   · simp only [EM];omega
   · split
     · omega
     · simp only [Ff];omega
theorem Ins.bts_few {x:Ins}(h:x.Few):x.bts.length≤6110:=by
 have h1:=gU h.1;have h2:=gU h.2;have h3:=OJ x.op;have h4:=OJ x.n;have ha:=OJ x.a;have hb:=OJ x.b;have hc:=OJ x.c;have hk:=OJ x.k
 have h5:(RE (SH x.op) 0 [x.a,x.b,x.c,x.k]).length≤40:=by
  simp only [RE,EM,Ff];split<;>split<;>split<;>split<;>(try simp only [Ff])<;>omega
 unfold Ins.bts;simp only [EM];split<;>split<;>split<;>(try simp only [Ff])<;>omega
theorem Block.bts_few {b:Block}(h:b.Few):b.bts.length≤14000000:=by
 have h1:=nj h.1;have h2:=sd (f:=Ins.bts) (c:=6110) (fun x hx=>Ins.bts_few (h.2.2.1 x hx)) h.2.1;have h3:=Tail.bts_few h.2.2.2;have h4:=OJ b.regs;have h5:=OJ b.code.length;unfold Block.bts;simp only [EM];omega
theorem Fun.bts_few {f:Fun}(h:f.Few):f.bts.length≤450000000:=by
 have h1:=nj h.1;have h2:=nj h.2.1;have h3:=sd (f:=Block.bts) (c:=14000000) (fun x hx=>Block.bts_few (h.2.2.2 x hx)) h.2.2.1;have h4:=OJ f.regs;have h5:=OJ f.blocks.length;unfold Fun.bts;simp only [EM];omega
end
section
abbrev LV:=Int×Int
def Kz (a b:LV):LV:=if a.1=0∧b.1≠0 then b else a
def KJ (c at':Int):LV:=if c=0 then (0,0) else (c,at')
theorem bK (a b c:LV):Kz (Kz a b) c=Kz a (Kz b c):=by
 unfold Kz;by_cases h1:a.1=0<;>by_cases h2:b.1=0<;>by_cases h3:c.1=0<;>simp [h1,h2,h3]
theorem Oa {a b:LV}(h:a.1≠0):Kz a b=a:=by unfold Kz;rw [if_neg (fun h'=>h h'.1)]
theorem eZ {a b:LV}(h:b.1=0):Kz a b=a:=by unfold Kz;rw [if_neg (fun h'=>h'.2 h)]
theorem LW {b:LV}(h:b.1=0→b=(0,0)):Kz (0,0) b=b:=by
 unfold Kz;by_cases hb:b.1=0
 · rw [h hb];rfl
 · rw [if_pos ⟨rfl,hb⟩]
theorem Mg (at':Int):KJ 0 at'=(0,0):=rfl
theorem PI {c:Int}(h:c≠0):KJ c at'=(c,at'):=if_neg h
theorem PJ (c at':Int):(KJ c at').1=c:=by unfold KJ;split<;>simp_all
theorem Sc (c at':Int):(KJ c at').1=0→KJ c at'=(0,0):=by rw [PJ];rintro rfl;rfl
theorem WS {a b:LV}(ha:a.1=0→a=(0,0))(hb:b.1=0→b=(0,0)):(Kz a b).1=0→Kz a b=(0,0):=by
 unfold Kz;split
 · exact hb
 · exact ha
def RF (a b:Int):Int:=if a≠0 then a else b
theorem OK {g:LV}{b:Int}:Kz (Kz g (KJ a at')) (KJ b at')=Kz g (KJ (RF a b) at'):=by
 rw [bK];congr 1;unfold RF Kz;by_cases h:a=0
 · subst h
   by_cases hb:b=0
   · subst hb;rfl
   · simp [KJ,hb]
 · simp [KJ,h]

def fA (op:Int):Bool:=decide (op=2∨op=4∨op=5∨op=6∨op=7∨op=8∨op=9∨op=10∨op=11∨op=13)
def fB (op:Int):Bool:=decide (op=2∨op=7∨op=8∨op=9∨op=10)
def fC (op:Int):Bool:=decide (op=10)
def fK (op:Int):Bool:=decide (op=2∨op=6∨op=7∨op=14)
def fN (op:Int):Bool:=decide (op=1)
def fG (op:Int):Bool:=decide (op=14)
def fR (op:Int):Bool:=decide (op=5∨op=14)
def Ins.odd (x:Ins):Prop:=(fA x.op=false∧x.a≠0)∨(fB x.op=false∧x.b≠0)∨(fC x.op=false∧x.c≠0)∨(fK x.op=false∧x.k≠0)∨(fN x.op=false∧x.n≠0)∨(fG x.op=false∧0<x.regs.length)∨(fR x.op=false∧0<x.args.length)
instance (x:Ins):Decidable x.odd:=by unfold Ins.odd;infer_instance
def Nw (n:Nat)(x:Ins):Int:=
 if x.op=2 then (if x.k<1∨9<x.k then 1 else 0)
 else if x.op=5 then (if 8<x.args.length then 2 else 0)
 else if x.op=6∨x.op=7 then (if x.k<0∨8≤x.k then 1 else 0)
 else if x.op=14 then (if x.k<0∨(n:Int)≤x.k then 1 else if 6<x.regs.length∨8<x.args.length then 2 else 0)
 else 0
def Qj (n:Nat)(x:Ins):Int:=if x.op<1∨14<x.op then 3 else if x.odd then 4 else Nw n x
def LK (n:Nat)(t:To)(is:Bool):Int:=
 if is=false then (if t.block≠0∨0<t.regs.length∨0<t.args.length then 4 else 0)
 else if t.block<0∨(n:Int)≤t.block then 1 else if 16<t.regs.length∨8<t.args.length then 2 else 0
def QU (n:Nat)(e:Tail):Int:=
 if e.op<1∨3<e.op then 3
 else if e.op≠2∧e.a≠0∨e.op≠3∧0<e.args.length then 4
 else if 8<e.args.length then 2
 else RF (LK n e.yes (decide (e.op≠3))) (LK n e.no (decide (e.op=2)))
def P7 (regs:Int):List Ty→Int
 | []=>0
 | t::l=>RF (t.fault regs) (P7 regs l)
def Qm (l:List Ty)(regs:Int):Int:=if 8<l.length then 2 else P7 regs l
def O5 (f:Nat):Int:=f*10000+9999
def Sd (f b:Nat):Int:=f*10000+b*100+90
def Po (f b:Nat):Int:=f*10000+b*100+91
def OL (f b i:Nat):Int:=f*10000+b*100+i
def NW (n f b:Nat):Nat→List Ins→LV
 | _,[]=>(0,0)
 | i,x::l=>Kz (KJ (Qj n x) (OL f b i)) (NW n f b (i+1) l)
def Qt (x:Fun)(b:Nat)(y:Block):Int:=
 if y.regs<x.regs∨16<y.regs then 1
 else if Qm y.params y.regs≠0 then Qm y.params y.regs
 else if b=0∧(y.regs≠x.regs∨y.params≠x.params) then 9
 else if 40<y.code.length then 2 else 0
def QH (n f:Nat)(x:Fun)(b:Nat)(y:Block):LV:=Kz (KJ (Qt x b y) (Sd f b)) (Kz (NW n f b 0 y.code) (KJ (QU x.blocks.length y.fin) (Po f b)))
def QP (n f:Nat)(x:Fun):Nat→List Block→LV
 | _,[]=>(0,0)
 | b,y::l=>Kz (QH n f x b y) (QP n f x (b+1) l)
def QF (f:Nat)(x:Fun):Int:=
 if x.regs<0∨6<x.regs then 1
 else if Qm x.params x.regs≠0 then Qm x.params x.regs
 else if Qm x.results x.regs≠0 then Qm x.results x.regs
 else if x.blocks.length<1∨12<x.blocks.length then 2
 else if f=0∧(0<x.regs∨0<x.params.length∨∃t∈x.results,t.kind≠1) then 18 else 0
def OM (n f:Nat)(x:Fun):LV:=Kz (KJ (QF f x) (O5 f)) (QP n f x 0 x.blocks)
def ON (n:Nat):Nat→List Fun→LV
 | _,[]=>(0,0)
 | f,x::l=>Kz (OM n f x) (ON n (f+1) l)
def Module.fault (m:Module):LV:=Kz (KJ (if m.funcs.length<1∨8<m.funcs.length then 2 else 0) (-1)) (ON m.funcs.length 0 m.funcs)
theorem nk {n f b:Nat}:∀{l:List Ins}{i:Nat},(NW n f b i l).1=0→NW n f b i l=(0,0)
 | [],_=>fun _=>rfl
 | _::_,_=>WS (Sc _ _) nk
theorem se {n f:Nat}{x:Fun}{b:Nat}{y:Block}:(QH n f x b y).1=0→QH n f x b y=(0,0):=WS (Sc _ _) (WS nk (Sc _ _))
theorem gV {n f:Nat}{x:Fun}:∀{l:List Block}{b:Nat},(QP n f x b l).1=0→QP n f x b l=(0,0)
 | [],_=>fun _=>rfl
 | _::_,_=>WS se gV
theorem Qo {n:Nat}:∀{l:List Fun}{f:Nat},(ON n f l).1=0→ON n f l=(0,0)
 | [],_=>fun _=>rfl
 | _::_,_=>WS (WS (Sc _ _) gV) Qo
theorem Module.fault_z {m:Module}:m.fault.1=0→m.fault=(0,0):=WS (Sc _ _) Qo

theorem NX {n f b:Nat}{x:Fun}{y:Block}{c:Int}(h:Qt x b y=c)(hc:c≠0):QH n f x b y=(c,Sd f b):=by
 unfold QH;rw [h,Oa (by rw [PJ];exact hc),PI hc]
theorem nm {n f b:Nat}{x:Fun}{y:Block}{F:LV}(h:Qt x b y=0)(hc:NW n f b 0 y.code=F)(hF:F.1≠0):QH n f x b y=F:=by
 unfold QH;rw [h,Mg,hc,Oa hF,LW (fun h=>absurd h hF)]
theorem TV {n f b:Nat}{x:Fun}{y:Block}(h:Qt x b y=0)(hc:NW n f b 0 y.code=(0,0)):QH n f x b y=KJ (QU x.blocks.length y.fin) (Po f b):=by
 unfold QH;rw [h,Mg,hc,LW (Sc _ _),LW (Sc _ _)]
theorem yA {n f b i:Nat}{x:Ins}{l:List Ins}(h:Qj n x=0):NW n f b i (x::l)=NW n f b (i+1) l:=by
 rw [NW,h,Mg,LW nk]
theorem yB {n f b i:Nat}{x:Ins}{l:List Ins}(h:Qj n x≠0):NW n f b i (x::l)=(Qj n x,OL f b i):=by
 rw [NW,Oa (by rw [PJ];exact h),PI h]
theorem No {n f:Nat}{x:Fun}{c:Int}(h:QF f x=c)(hc:c≠0):OM n f x=(c,O5 f):=by
 unfold OM;rw [h,Oa (by rw [PJ];exact hc),PI hc]
theorem np {n f:Nat}{x:Fun}(h:QF f x=0):OM n f x=QP n f x 0 x.blocks:=by
 unfold OM;rw [h,Mg,LW gV]
theorem yC {n f b:Nat}{x:Fun}{y:Block}{l:List Block}(h:(QH n f x b y).1=0):QP n f x b (y::l)=QP n f x (b+1) l:=by
 rw [QP,se h,LW gV]
theorem sf {n f b:Nat}{x:Fun}{y:Block}{l:List Block}(h:(QH n f x b y).1≠0):QP n f x b (y::l)=QH n f x b y:=by
 rw [QP,Oa h]
theorem yD {n f:Nat}{x:Fun}:(OM n f x).1=0→OM n f x=(0,0):=WS (Sc _ _) gV
theorem yE {n f:Nat}{x:Fun}{l:List Fun}(h:(OM n f x).1=0):ON n f (x::l)=ON n (f+1) l:=by
 rw [ON,yD h,LW Qo]
theorem Qf {n f:Nat}{x:Fun}{l:List Fun}(h:(OM n f x).1≠0):ON n f (x::l)=OM n f x:=by
 rw [ON,Oa h]

def TW:List ByteArray:=[⟨#[]⟩,⟨#[110]⟩,⟨#[97,98,107]⟩,⟨#[]⟩,⟨#[97]⟩,⟨#[97,114]⟩,⟨#[97,107]⟩,⟨#[97,98,107]⟩,⟨#[97,98]⟩,⟨#[97,98]⟩,⟨#[97,98,99]⟩,⟨#[97]⟩,⟨#[]⟩,⟨#[97]⟩,⟨#[107,103,114]⟩]
def Ly (op:Int):ByteArray:=if op<1∨14<op then ⟨#[]⟩ else TW.getD op.toNat ⟨#[]⟩
def Lk (s:ByteArray)(c:Nat):Bool:=s.data.toList.any fun b=>decide (b.toNat=c)
theorem Ld {op:Int}(h1:¬op<1)(h2:¬14<op):op=1∨op=2∨op=3∨op=4∨op=5∨op=6∨op=7∨op=8∨op=9∨op=10∨op=11∨op=12∨op=13∨op=14:=by omega
theorem TX (op:Int)(h:¬(op<1∨14<op)):Lk (Ly op) 97=fA op∧Lk (Ly op) 98=fB op∧Lk (Ly op) 99=fC op∧Lk (Ly op) 107=fK op∧Lk (Ly op) 110=fN op∧Lk (Ly op) 103=fG op∧Lk (Ly op) 114=fR op:=by
 rcases Ld (op:=op) Jo Jo with rfl|rfl|rfl|rfl|rfl|rfl|rfl|rfl|rfl|rfl|rfl|rfl|rfl|rfl<;>decide
end
section
abbrev fa (α:Type):=Except LV (α×List UInt8)
end
section
section
variable {P:Program}{l:List GO}{Q:QT}{ρ:Km}{w:World}
theorem kC {a b T:Nat}{p o p' o':Nat}(ha:ρ a= .pointer (some ⟨p,o,none⟩))(hv:Xm P w ⟨p,o,none⟩ T v)(ha':ρ b= .pointer (some ⟨p',o',none⟩))(hv':Xm P w ⟨p',o',none⟩ T' v')(h:R (.returned (.tuple #[v,v'])) w):Kq P [.cell a T, .cell b T'] R .ret ρ w:=
 ⟨_,v,ha,hv,_,v',ha',hv',h⟩
end
end
section
def nq (c:BitVec 32):List UInt8:=[UInt8.ofNat c.toNat,UInt8.ofNat (c >>> 8).toNat,UInt8.ofNat (c >>> 16).toNat,UInt8.ofNat (c >>> 24).toNat]
def Module.enc (m:Module):List UInt8:=m.body++nq (gT m.body)
end
section
section
variable {bs:List UInt8}{at0 i u:Nat}{x:UInt8}{X:fa Nat}
end
end
section
section
variable {α:Type}
variable {f:List UInt8→fa α}{N k n0:Nat}{n:Int}{xs:List α}{r r1 r2 r3:List UInt8}{a:α}{e:LV}{X:fa (List α)}
end
end
section
section
variable {bs r:List UInt8}{N:Nat}{e:LV}{l:List Fun}
end
end
section
section
variable {α β:Type}{M n:Nat}
def TY (M:Nat)(f:List UInt8→fa α)(p:α→Prop):Prop:=∀r x r',r.length≤M→f r= .ok (x,r')→p x∧r'.length≤r.length
theorem TY.weak {f:List UInt8→fa α}{p q:α→Prop}(h:TY M f p)(hq:∀x,p x→q x):TY M f q:=fun r x r' h1 h2=>⟨hq x (h r x r' h1 h2).1,(h r x r' h1 h2).2⟩
end
end
section
section
variable {n:Nat}{r r1 r2 r3 r4:List UInt8}{e:LV}{op a:Int}{yes no:To}{l:List Int}
variable {h j:Nat}{x:Int×Int×Int×Int}{y:Int}{X:fa (Int×Int×Int×Int)}
end
end
section
section
variable {α:Type}{n:Nat}
def Lh (x:Int):Prop:=-9223372036854775808≤x∧x≤9223372036854775807
def kD (l:List Int):Prop:=l.length≤9000000000000000000∧∀x∈l,Lh x
def ToOK (t:To):Prop:=Lh t.block∧kD t.regs∧kD t.args
def InsOK (x:Ins):Prop:=(Lh x.op∧Lh x.a∧Lh x.b∧Lh x.c∧Lh x.k∧Lh x.n)∧((¬SH x.op / 2 ^ 0 % 2=1→x.a=0)∧(¬SH x.op / 2 ^ 1 % 2=1→x.b=0)∧(¬SH x.op / 2 ^ 2 % 2=1→x.c=0)∧(¬SH x.op / 2 ^ 3 % 2=1→x.k=0))∧
 (¬SH x.op / 64 % 2=1→x.n=0)∧(¬SH x.op / 16 % 2=1→x.regs=[])∧(¬SH x.op / 32 % 2=1→x.args=[])∧kD x.regs∧kD x.args
end
end
section
def Ke (l:List Bool)(r:Int):Bool:=decide (0≤r) && decide (r<l.length) && l.getD r.toNat false

def MM (l:List Bool)(n:Nat):List Int:=((List.range n).filter fun j=>l.getD j false).map Int.ofNat
def Ls (l:List Bool):List Int:=MM l l.length
theorem kE (l:List Bool)(n:Nat):MM l (n+1)=MM l n++if l.getD n false then [(n:Int)] else []:=by
 unfold MM;rw [Hq,JC,Fa];congr 1;by_cases h:l.getD n false=true
 · rw [if_pos h,List.filter_cons_of_pos Dh];rfl
 · rw [if_neg h,I0 Dh];rfl
theorem nr (l:List Bool)(n:Nat):(MM l n).length≤n:=by
 unfold MM;rw [EK];exact F3 (Jh _ _) Js

def Ma (l:List Bool)(seen:List Int):List Int→Int
 | []=>if seen.length<(Ls l).length then 12 else 0
 | x::xs=>if Ke l x then if x∈seen then 13 else Ma l (seen++[x]) xs else 10
def P8 (l:List Bool)(ys:List Int):List Bool:=(List.range l.length).map fun (j:Nat)=>decide ((j:Int)∈ys)
theorem yF (l:List Bool)(ys:List Int):(P8 l ys).length=l.length:=by simp [P8]
theorem yG (l:List Bool):P8 l []=List.replicate l.length false:=by
 apply IA<;>simp [P8]
theorem yH {l:List Bool}{r:Int}(h0:0≤r)(h1:r<l.length):(P8 l ys).getD r.toNat false=decide (r∈ys):=by
 have:r.toNat<l.length:=Dc;simp [P8,EL,EN,Ht this,Fb h0]
theorem yI {l:List Bool}{r:Int}(h0:0≤r):(P8 l ys).set r.toNat true=P8 l (ys++[r]):=by
 apply Gg;intro j;simp only [P8,FD,EN,EK,Ha];by_cases hj:j<l.length
 · simp only [Ht hj,FP]
   by_cases he:r.toNat=j
   · subst he;simp [hj,Fb h0]
   · have:(j:Int)≠r:=Dc;simp [he,this]
 · have h2:(List.range l.length)[j]?=none:=by simp;omega
   simp only [h2,IJ];by_cases he:r.toNat=j
   · subst he;simp [hj]
   · simp [he]
theorem bL {l:List Bool}{r:Int}(h:Ke l r=true):0≤r∧r<l.length∧l.getD r.toNat false=true:=by
 simp only [Ke,EW,decide_eq_true_eq] at h;exact ⟨h.1.1,h.1.2,h.2⟩

def WT (l:List Bool)(xs0 seen:List Int):List Int→Int
 | []=>if∀y∈Ls l,y∈xs0 then 0 else 12
 | x::xs=>if Ke l x then if x∈seen then 13 else WT l xs0 (seen++[x]) xs else 10


theorem LX {l:List Bool}{x:Int}:x∈Ls l↔Ke l x=true:=by
 simp only [Ls,MM,Fc,GH,Fz,Ke,EW,decide_eq_true_eq];constructor
 · rintro ⟨j,⟨h1,h2⟩,rfl⟩;exact ⟨⟨by simp,by simpa using h1⟩,by simpa using h2⟩
 · rintro ⟨⟨h0,h1⟩,h2⟩;exact ⟨x.toNat,⟨Jo,h2⟩,by simp;omega⟩
theorem yJ (l:List Bool):(Ls l).Nodup:=by
 unfold Ls MM;unfold List.Nodup;rw [Ip];refine List.Pairwise.imp ?_ (List.Pairwise.filter _ (List.nodup_range (n:=l.length)));intro a b h e;exact h (Int.ofNat.inj e)
theorem yK (l:List Bool)(xs:List Int):∀(rest seen:List Int),seen++rest=xs→seen.Nodup→(∀y∈seen,Ke l y=true)→Ma l seen rest=WT l xs seen rest:=by
 intro rest
 induction rest with
 | nil=>
   intro seen he hn hs;rw [FA] at he;subst he;simp only [Ma,WT];have h1:seen.length≤(Ls l).length:=eU hn fun y hy=>LX.2 (hs y hy);by_cases h:∀y∈Ls l,y∈seen
   · have:=eU (yJ l) h;rw [if_pos h,if_neg Jo]
   · rw [if_neg h,if_pos]
     simp only [Jl] at h;obtain ⟨y,hy,hn'⟩:=h
     have:=eU (a:=y::seen) (b:=Ls l) (GG.2 ⟨hn',hn⟩) (by
      intro z hz;rcases ES.1 hz with rfl|hz
      · exact hy
      · exact LX.2 (hs z hz))
     simp only [ET] at this;omega
 | cons x rest ih=>
   intro seen he hn hs;simp only [Ma,WT];by_cases h1:Ke l x=true
   · rw [if_pos h1,if_pos h1]
     by_cases h2:x∈seen
     · rw [if_pos h2,if_pos h2]
     · rw [if_neg h2,if_neg h2]
       refine ih (seen++[x]) (by rw [FX];exact he) ?_ ?_
       · rw [GI];exact ⟨hn,by simp,fun a ha b hb e=>by simp at hb;subst hb;subst e;exact h2 ha⟩
       · intro y hy
         rcases E3.1 hy with hy|hy
         · exact hs y hy
         · simp at hy;subst hy;exact h1
   · rw [if_neg h1,if_neg h1]
theorem yL (l:List Bool)(xs:List Int):Ma l [] xs=WT l xs [] xs:=yK l xs xs [] rfl IL Js
end
section
structure JS where
 h:List Bool
 l:List Ty
deriving instance DecidableEq for JS
def K7 (s:JS)(k:Int):Except Int Ty:=if k<0 then .error 1 else match s.l[k.toNat]? with
 | none=> .error 1
 | some t=> .ok t
def JX {α β:Type}(x:Except Int α)(f:α→Except Int β):Except Int β:=match x with
 | .error e=> .error e
 | .ok a=>f a
theorem Qr {x:Except Int α}{f:α→Except Int β}{e:Int}(h:x= .error e):JX x f= .error e:=by rw [h];rfl
theorem Q3 {x:Except Int α}{f:α→Except Int β}{a:α}(h:x= .ok a):JX x f=f a:=by rw [h];rfl
theorem Q7 {x:Except Int α}{f:α→Except Int β}{b:β}(h:JX x f= .ok b):∃a,x= .ok a∧f a= .ok b:=by
 cases x with
 | error e=>cases h
 | ok a=>exact ⟨a,rfl,h⟩
def Kf (s:JS)(k kind:Int):Except Int Ty:=JX (K7 s k) fun t=>if t.kind≠kind then .error 9 else .ok t
def K4 (s:JS)(k kind:Int):Except Int Ty:=JX (Kf s k kind) fun t=>if Ke s.h t.r=false then .error 10 else .ok t
def Li (s:JS)(t:Ty):Except Int JS:=if s.l.length=80 then .error 2 else .ok ⟨s.h,s.l++[t]⟩
def Nx (s:JS)(regs:List Int):List Int→List Ty→Except Int Unit
 | k::l,u::want=>JX (K7 s k) fun t=>match u.ren regs with
   | none=> .error 9
   | some u'=>if t≠u' then .error 9 else Nx s regs l want
 | _,_=> .ok ()
def Ob (s:JS)(l:List Int)(want:List Ty)(regs:List Int):Except Int Unit:=if l.length≠want.length then .error 2 else Nx s regs l want
def OO (t:Ty)(k:Int):Except Int Ty:=match t.l[k.toNat]? with
 | none=> .error 9
 | some u=> .ok u
def MF (h:List Bool)(p:List Int):List Int→Except Int Unit
 | []=> .ok ()
 | r::l=>if Ke h r=false then .error 10 else if r∈p then .error 13 else MF h (p++[r]) l
def Mp (to:List Int)(t:Ty):Ty:=(t.ren to).getD (.mk 0 0 [])
def O6 (m:Module)(s:JS)(x:Ins):Except Int JS:=match m.funcs[x.k.toNat]? with
 | none=> .error 1
 | some g=>if (x.regs.length:Int)≠g.regs then .error 2 else JX (MF s.h [] x.regs) fun _=>JX (Ob s x.args g.params x.regs) fun _=>
   if 80<s.l.length+g.results.length then .error 2 else .ok ⟨s.h,s.l++g.results.map (Mp x.regs)⟩
def Kb (s:JS):List Int→Except Int (List Ty)
 | []=> .ok []
 | k::l=>JX (K7 s k) fun t=>JX (Kb s l) fun ts=> .ok (t::ts)
def J8:Ty:= .mk 1 0 []
def TZ (s:JS)(x:Ins):Except Int JS:=JX (K4 s x.a 2) fun t=>JX (Kb s x.args) fun ts=>
 if (Ty.mk 3 t.r ts).fault s.h.length≠0 then .error 19 else Li s (.mk 3 t.r ts)
def Kl (m:Module)(f:Fun)(s:JS)(x:Ins):Except Int JS:=
 if x.op=1∨x.op=12 then Li s J8
 else if x.op=2 then JX (Kf s x.a 1) fun _=>JX (Kf s x.b 1) fun _=>Li s J8
 else if x.op=3 then (if s.h.length=16∨s.l.length=80 then .error 2 else .ok ⟨s.h++[true],s.l++[.mk 2 s.h.length []]⟩)
 else if x.op=4 then JX (K4 s x.a 2) fun t=>if t.r<f.regs then .error 11 else .ok ⟨s.h.set t.r.toNat false,s.l⟩
 else if x.op=5 then TZ s x
 else if x.op=6 then JX (K4 s x.a 3) fun t=>JX (OO t x.k) fun u=>Li s u
 else if x.op=7 then JX (K4 s x.a 3) fun t=>JX (OO t x.k) fun u=>JX (K7 s x.b) fun v=>if u≠v then .error 9 else .ok s
 else if x.op=8 then JX (K4 s x.a 2) fun t=>JX (Kf s x.b 1) fun _=>Li s (.mk 4 t.r [])
 else if x.op=9 then JX (K4 s x.a 4) fun _=>JX (Kf s x.b 1) fun _=>Li s J8
 else if x.op=10 then JX (K4 s x.a 4) fun _=>JX (Kf s x.b 1) fun _=>JX (Kf s x.c 1) fun _=> .ok s
 else if x.op=11 then JX (K4 s x.a 4) fun _=>Li s J8
 else if x.op=13 then JX (Kf s x.a 1) fun _=> .ok s
 else O6 m s x
def Ko (m:Module)(f:Fun)(s:JS)(x:Ins):Int×JS:=if Qj m.funcs.length x≠0 then (Qj m.funcs.length x,s) else match Kl m f s x with
 | .error c=>(c,s)
 | .ok s'=>(0,s')
def Np (l:List Int)(n:Nat):Bool:=(List.range n).all fun i=>decide (l[i]?=some (i:Int))
def MG (f:Fun)(s:JS)(t:To):Except Int Unit:=match f.blocks[t.block.toNat]? with
 | none=> .error 1
 | some b=>if (t.regs.length:Int)≠b.regs then .error 2 else if Np t.regs f.regs.toNat=false then .error 11 else
   if Ma s.h [] t.regs≠0 then .error (Ma s.h [] t.regs) else Ob s t.args b.params t.regs
def KR (n:Nat):List Int:=(List.range n).map Int.ofNat
def Lo (f:Fun)(s:JS)(e:Tail):Except Int Unit:=
 if e.op=1 then MG f s e.yes
 else if e.op=2 then JX (Kf s e.a 1) fun _=>JX (MG f s e.yes) fun _=>MG f s e.no
 else JX (Ob s e.args f.results (KR f.regs.toNat)) fun _=>if f.regs<(Ls s.h).length then .error 12 else .ok ()
def Lz (f:Fun)(s:JS)(e:Tail):Int:=if QU f.blocks.length e≠0 then QU f.blocks.length e else match Lo f s e with
 | .error c=>c
 | .ok _=>0
def Mh (y:Block):JS:=⟨List.replicate (min y.regs 16).toNat true,y.params⟩

theorem kF {s:JS}{k:Int}{t:Ty}(h:K7 s k= .ok t):0≤k∧s.l[k.toNat]?=some t:=by
 unfold K7 at h;split at h
 · cases h
 · rename_i h0
   split at h
   · cases h
   · rename_i u hu;cases h;exact ⟨Jo,hu⟩
theorem ZV {s:JS}{k:Int}(h:k<0∨(s.l.length:Int)≤k):K7 s k= .error 1:=by
 unfold K7;by_cases h0:k<0
 · rw [if_pos h0]
 · rw [if_neg h0,Fk Jo]
theorem X0 {s:JS}{k:Int}{t:Ty}(h0:0≤k)(h:s.l[k.toNat]?=some t):K7 s k= .ok t:=by
 unfold K7;rw [if_neg Jo,h]
theorem nu {s:JS}{k kind:Int}{t:Ty}(h:Kf s k kind= .ok t):0≤k∧s.l[k.toNat]?=some t∧t.kind=kind:=by
 obtain ⟨u,h1,h2⟩:=Q7 h;split at h2
 · cases h2
 · rename_i hk;cases h2;have:=kF h1;exact ⟨this.1,this.2,Fy.1 hk⟩
theorem WU {s:JS}{k kind:Int}{t:Ty}(h:K4 s k kind= .ok t):0≤k∧s.l[k.toNat]?=some t∧t.kind=kind∧Ke s.h t.r=true:=by
 obtain ⟨u,h1,h2⟩:=Q7 h;split at h2
 · cases h2
 · rename_i hk;cases h2;have:=nu h1;exact ⟨this.1,this.2.1,this.2.2,by simpa using hk⟩
theorem kG {s s':JS}{t:Ty}(h:Li s t= .ok s'):s.l.length≠80∧s'.h=s.h∧s'.l=s.l++[t]:=by
 unfold Li at h;split at h
 · cases h
 · rename_i hk;cases h;exact ⟨hk,rfl,rfl⟩
structure JStep (x:Ins) (s s':JS):Prop where
 len:s.l.length≤80→s'.l.length≤80
 pre:∃more,s'.l=s.l++more∧(x.op≠14→more.length≤1)∧(x.op=3→more.length=1)∧(x.op=4→more=[])
 new:x.op=3→s'.h=s.h++[true]∧s.h.length≠16
 free:x.op=4→∃t,0≤x.a∧s.l[x.a.toNat]?=some t∧t.kind=2∧Ke s.h t.r=true∧s'.h=s.h.set t.r.toNat false
 else_:x.op≠3→x.op≠4→s'.h=s.h
theorem bM {x:Ins}{s s':JS}{t:Ty}(h:Li s t= .ok s')(h3:x.op≠3)(h4:x.op≠4):JStep x s s':=by
 obtain ⟨h1,h2,h5⟩:=kG h;refine ⟨fun hl=>by rw [h5,EM];simp only [ET,Ff];omega,⟨[t],h5,fun _=>by simp,fun h=>absurd h h3,fun h=>absurd h h4⟩,fun h=>absurd h h3,fun h=>absurd h h4,fun _ _=>h2⟩
theorem nz {x:Ins}{s:JS}(h3:x.op≠3)(h4:x.op≠4):JStep x s s:=
 ⟨fun hl=>hl,⟨[],by simp,fun _=>by simp,fun h=>absurd h h3,fun h=>absurd h h4⟩,fun h=>absurd h h3,fun h=>absurd h h4,fun _ _=>rfl⟩
theorem yM {m:Module}{f:Fun}{s s':JS}{x:Ins}(hop:1≤x.op∧x.op≤14)(h:Kl m f s x= .ok s'):JStep x s s':=by
 unfold Kl at h;by_cases h1:x.op=1∨x.op=12
 · rw [if_pos h1] at h;exact bM h Jo Jo
 rw [if_neg h1] at h;by_cases h2:x.op=2
 · rw [if_pos h2] at h;obtain ⟨_,_,h⟩:=Q7 h;obtain ⟨_,_,h⟩:=Q7 h;exact bM h Jo Jo
 rw [if_neg h2] at h;by_cases hc:x.op=3
 · rw [if_pos hc] at h
   by_cases hn:s.h.length=16∨s.l.length=80
   · rw [if_pos hn] at h;cases h
   · rw [if_neg hn] at h;cases h;exact ⟨fun hl=>by simp only [EM,ET,Ff];omega,⟨[_],rfl,fun _=>by simp,fun _=>rfl,fun h=>by omega⟩,fun _=>⟨rfl,Jo⟩,fun h=>by omega,fun h=>absurd hc h⟩
 rw [if_neg hc] at h;by_cases hc4:x.op=4
 · rw [if_pos hc4] at h
   obtain ⟨t,h1,h⟩:=Q7 h;by_cases hk:t.r<f.regs
   · rw [if_pos hk] at h;cases h
   · rw [if_neg hk] at h;cases h;obtain ⟨a1,a2,a3,a4⟩:=WU h1;exact ⟨fun hl=>hl,⟨[],by simp,fun _=>by simp,fun h=>by omega,fun _=>rfl⟩,fun h=>by omega,fun _=>⟨t,a1,a2,a3,a4,rfl⟩,fun _ h=>absurd hc4 h⟩
 rw [if_neg hc4] at h;by_cases h5:x.op=5
 · rw [if_pos h5] at h
   unfold TZ at h;obtain ⟨t,_,h⟩:=Q7 h;obtain ⟨ts,_,h⟩:=Q7 h;by_cases hk:(Ty.mk 3 t.r ts).fault s.h.length≠0
   · rw [if_pos hk] at h;cases h
   · rw [if_neg hk] at h;exact bM h Jo Jo
 rw [if_neg h5] at h;by_cases h6:x.op=6
 · rw [if_pos h6] at h;obtain ⟨_,_,h⟩:=Q7 h;obtain ⟨_,_,h⟩:=Q7 h;exact bM h Jo Jo
 rw [if_neg h6] at h;by_cases h7:x.op=7
 · rw [if_pos h7] at h
   obtain ⟨_,_,h⟩:=Q7 h;obtain ⟨u,_,h⟩:=Q7 h;obtain ⟨v,_,h⟩:=Q7 h;by_cases hk:u≠v
   · rw [if_pos hk] at h;cases h
   · rw [if_neg hk] at h;cases h;exact nz Jo Jo
 rw [if_neg h7] at h;by_cases h8:x.op=8
 · rw [if_pos h8] at h;obtain ⟨_,_,h⟩:=Q7 h;obtain ⟨_,_,h⟩:=Q7 h;exact bM h Jo Jo
 rw [if_neg h8] at h;by_cases h9:x.op=9
 · rw [if_pos h9] at h;obtain ⟨_,_,h⟩:=Q7 h;obtain ⟨_,_,h⟩:=Q7 h;exact bM h Jo Jo
 rw [if_neg h9] at h;by_cases h10:x.op=10
 · rw [if_pos h10] at h;obtain ⟨_,_,h⟩:=Q7 h;obtain ⟨_,_,h⟩:=Q7 h;obtain ⟨_,_,h⟩:=Q7 h;cases h;exact nz Jo Jo
 rw [if_neg h10] at h;by_cases h11:x.op=11
 · rw [if_pos h11] at h;obtain ⟨_,_,h⟩:=Q7 h;exact bM h Jo Jo
 rw [if_neg h11] at h;by_cases h13:x.op=13
 · rw [if_pos h13] at h;obtain ⟨_,_,h⟩:=Q7 h;cases h;exact nz Jo Jo
 rw [if_neg h13] at h;unfold O6 at h;split at h
 · cases h
 · rename_i g hg
   by_cases hr:(x.regs.length:Int)≠g.regs
   · rw [if_pos hr] at h;cases h
   · rw [if_neg hr] at h
     obtain ⟨_,_,h⟩:=Q7 h;obtain ⟨_,_,h⟩:=Q7 h;by_cases hn:80<s.l.length+g.results.length
     · rw [if_pos hn] at h;cases h
     · rw [if_neg hn] at h;cases h;exact ⟨fun hl=>by rw [EM,EK];omega,⟨_,rfl,fun h=>by omega,fun h=>by omega,fun h=>by omega⟩,fun h=>by omega,fun h=>by omega,fun _ _=>rfl⟩
theorem T0 {n:Nat}{x:Ins}(h:Qj n x=0):1≤x.op∧x.op≤14:=by
 unfold Qj at h;split at h
 · cases h
 · omega
section
variable {s:JS}{regs l:List Int}{want:List Ty}{k:Nat}{x c:Int}{u u' t:Ty}
theorem kH (hx:l[k]?=some x)(hu:want[k]?=some u)(h:K7 s x= .error c):Nx s regs (l.drop k) (want.drop k)= .error c:=by
 rw [Q1 hx,Q1 hu,Nx,Qr h]
theorem sg (hx:l[k]?=some x)(hu:want[k]?=some u)(h:K7 s x= .ok t)(hn:u.ren regs=none):Nx s regs (l.drop k) (want.drop k)= .error 9:=by
 rw [Q1 hx,Q1 hu,Nx,Q3 h,hn]
theorem sh (hx:l[k]?=some x)(hu:want[k]?=some u)(h:K7 s x= .ok t)(hn:u.ren regs=some u')(hd:t≠u'):Nx s regs (l.drop k) (want.drop k)= .error 9:=by
 rw [Q1 hx,Q1 hu,Nx,Q3 h,hn];exact if_pos hd
theorem si (hx:l[k]?=some x)(hu:want[k]?=some u)(h:K7 s x= .ok t)(hn:u.ren regs=some u')(hd:t=u'):Nx s regs (l.drop k) (want.drop k)=Nx s regs (l.drop (k+1)) (want.drop (k+1)):=by
 rw [Q1 hx,Q1 hu,Nx,Q3 h,hn];exact if_neg (fun h=>h hd)
theorem sj (h:l.length≤k):Nx s regs (l.drop k) (want.drop k)= .ok ():=by
 rw [EP h,Nx];intro k l u w h;cases h
end
section
variable {m:Module}{f:Fun}{s:JS}{x:Ins}
theorem WV (h:x.op=1∨x.op=12):Kl m f s x=(Li s J8):=by
 unfold Kl;rw [if_pos Jo]
theorem ZW (h:x.op=2):Kl m f s x=(JX (Kf s x.a 1) fun _=>JX (Kf s x.b 1) fun _=>Li s J8):=by
 unfold Kl;rw [if_neg Jo,if_pos Jo]
theorem fe (h:x.op=3):Kl m f s x=(if s.h.length=16∨s.l.length=80 then .error 2 else .ok ⟨s.h++[true],s.l++[.mk 2 s.h.length []]⟩):=by
 unfold Kl;rw [if_neg Jo,if_neg Jo,if_pos Jo]
theorem bN (h:x.op=4):Kl m f s x=(JX (K4 s x.a 2) fun t=>if t.r<f.regs then .error 11 else .ok ⟨s.h.set t.r.toNat false,s.l⟩):=by
 unfold Kl;rw [if_neg Jo,if_neg Jo,if_neg Jo,if_pos Jo]
theorem ff (h:x.op=5):Kl m f s x=(TZ s x):=by
 unfold Kl;(repeat rw [if_neg Jo]);rw [if_pos Jo]
theorem ZX (h:x.op=6):Kl m f s x=(JX (K4 s x.a 3) fun t=>JX (OO t x.k) fun u=>Li s u):=by
 unfold Kl;(repeat rw [if_neg Jo]);rw [if_pos Jo]
theorem T1 (h:x.op=7):Kl m f s x=(JX (K4 s x.a 3) fun t=>JX (OO t x.k) fun u=>JX (K7 s x.b) fun v=>if u≠v then .error 9 else .ok s):=by
 unfold Kl;(repeat rw [if_neg Jo]);rw [if_pos Jo]
theorem ZY (h:x.op=8):Kl m f s x=(JX (K4 s x.a 2) fun t=>JX (Kf s x.b 1) fun _=>Li s (.mk 4 t.r [])):=by
 unfold Kl;(repeat rw [if_neg Jo]);rw [if_pos Jo]
theorem ZZ (h:x.op=9):Kl m f s x=(JX (K4 s x.a 4) fun _=>JX (Kf s x.b 1) fun _=>Li s J8):=by
 unfold Kl;(repeat rw [if_neg Jo]);rw [if_pos Jo]
theorem Z0 (h:x.op=10):Kl m f s x=(JX (K4 s x.a 4) fun _=>JX (Kf s x.b 1) fun _=>JX (Kf s x.c 1) fun _=> .ok s):=by
 unfold Kl;(repeat rw [if_neg Jo]);rw [if_pos Jo]
theorem bO (h:x.op=11):Kl m f s x=(JX (K4 s x.a 4) fun _=>Li s J8):=by
 unfold Kl;(repeat rw [if_neg Jo]);rw [if_pos Jo]
theorem fg (h:x.op=13):Kl m f s x=(JX (Kf s x.a 1) fun _=> .ok s):=by
 unfold Kl;(repeat rw [if_neg Jo]);rw [if_pos Jo]
theorem bP (h:x.op=14):Kl m f s x=(O6 m s x):=by
 unfold Kl;(repeat rw [if_neg Jo])
theorem bQ {t:Ty}(h:s.l.length≠80):Li s t= .ok ⟨s.h,s.l++[t]⟩:=if_neg h
theorem bR {t:Ty}(h:s.l.length=80):Li s t= .error 2:=if_pos h
theorem sk {k c:Int}{ts:List Ty}(hx:x.args[q]?=some k)(hd:Kb s x.args=JX (Kb s (x.args.drop q)) fun l=> .ok (ts++l))(h:K7 s k= .error c):Kb s x.args= .error c:=by
 rw [hd,Q1 hx,Kb,Qr h];rfl
theorem sm {k:Int}{t:Ty}{ts:List Ty}(hx:x.args[q]?=some k)(hd:Kb s x.args=JX (Kb s (x.args.drop q)) fun l=> .ok (ts++l))(h:K7 s k= .ok t):Kb s x.args=JX (Kb s (x.args.drop (q+1))) fun l=> .ok ((ts++[t])++l):=by
 rw [hd,Q1 hx,Kb,Q3 h]
 cases Kb s (x.args.drop (q+1)) with
 | error c=>rfl
 | ok l=>simp [JX]
theorem so {ts:List Ty}(hd:Kb s x.args=JX (Kb s (x.args.drop q)) fun l=> .ok (ts++l))(h:x.args.length≤q):Kb s x.args= .ok ts:=by
 rw [hd,EP h,Kb];simp [JX]
end
theorem bS (l:List Int)(n:Nat):Np l (n+1)=(Np l n && decide (l[n]?=some (n:Int))):=by
 unfold Np;rw [Hq,List.all_append];simp
theorem kI {l:List Int}{n q:Nat}(hq:q<n)(h:l[q]?≠some (q:Int)):Np l n=false:=by
 unfold Np;rw [List.all_eq_false];exact ⟨q,Fz.2 hq,by simpa using h⟩
theorem sq (n:Nat):KR (n+1)=KR n++[(n:Int)]:=by unfold KR;rw [Hq,Fa];rfl
section
variable {f:Fun}{s:JS}{t:To}{b:Block}{e:Tail}
theorem gW (hb:f.blocks[t.block.toNat]?=some b)(h:(t.regs.length:Int)≠b.regs):MG f s t= .error 2:=by unfold MG;rw [hb];exact if_pos h
theorem kJ (hb:f.blocks[t.block.toNat]?=some b)(h:¬(t.regs.length:Int)≠b.regs)(h2:Np t.regs f.regs.toNat=false):MG f s t= .error 11:=by unfold MG;rw [hb];simp only;rw [if_neg h,if_pos h2]
theorem T2 (hb:f.blocks[t.block.toNat]?=some b)(h:¬(t.regs.length:Int)≠b.regs)(h2:Np t.regs f.regs.toNat=true)(h3:Ma s.h [] t.regs≠0):MG f s t= .error (Ma s.h [] t.regs):=by unfold MG;rw [hb];simp only;rw [if_neg h,if_neg (by rw [h2];decide),if_pos h3]
theorem T3 (hb:f.blocks[t.block.toNat]?=some b)(h:¬(t.regs.length:Int)≠b.regs)(h2:Np t.regs f.regs.toNat=true)(h3:Ma s.h [] t.regs=0):MG f s t=Ob s t.args b.params t.regs:=by unfold MG;rw [hb];simp only;rw [if_neg h,if_neg (by rw [h2];decide),if_neg (fun h=>h h3)]
theorem kK (h:e.op=1):Lo f s e=MG f s e.yes:=by unfold Lo;rw [if_pos h]
theorem Z1 (h:e.op=2):Lo f s e=JX (Kf s e.a 1) fun _=>JX (MG f s e.yes) fun _=>MG f s e.no:=by unfold Lo;rw [if_neg Jo,if_pos h]
theorem bT (h:e.op=3):Lo f s e=JX (Ob s e.args f.results (KR f.regs.toNat)) fun _=>if f.regs<(Ls s.h).length then .error 12 else .ok ():=by unfold Lo;rw [if_neg Jo,if_neg Jo]
theorem WW {n:Nat}(h:LK n t true=0):0≤t.block∧t.block<n:=by
 unfold LK at h;simp at h;omega
theorem SI {n:Nat}(h:QU n e=0):1≤e.op∧e.op≤3∧LK n e.yes (decide (e.op≠3))=0∧LK n e.no (decide (e.op=2))=0:=by
 unfold QU at h;split at h
 · cases h
 · split at h
   · cases h
   · split at h
     · cases h
     · unfold RF at h
       split at h
       · rename_i h1;exact absurd h h1
       · rename_i h1;exact ⟨Jo,Jo,Fy.1 h1,h⟩
end
def NZ {α:Type}(x:Except Int α):Prop:=∀c,x= .error c→c≠0
theorem NZ.e {c:Int}(h:c≠0):NZ (.error c:Except Int α):=fun _ h'=>by cases h';exact h
theorem NZ.o (a:α):NZ (.ok a:Except Int α):=fun _ h'=>by cases h'
theorem NZ.bind {x:Except Int α}{f:α→Except Int β}(h1:NZ x)(h2:∀a,x= .ok a→NZ (f a)):NZ (JX x f):=by
 cases x with
 | error e=>exact fun c h=>by cases h;exact h1 _ rfl
 | ok a=>exact h2 a rfl
theorem NZ.ite {p:Prop}[Decidable p]{a b:Except Int α}(h1:NZ a)(h2:NZ b):NZ (if p then a else b):=by
 split
 · exact h1
 · exact h2
theorem gY (s:JS)(k:Int):NZ (K7 s k):=by
 unfold K7;split
 · exact .e Jd
 · split
   · exact .e Jd
   · exact .o _
theorem T4 (s:JS)(k kind:Int):NZ (Kf s k kind):=by
 refine .bind (gY s k) fun t _=>?_;split
 · exact .e Jd
 · exact .o _
theorem bU (s:JS)(k kind:Int):NZ (K4 s k kind):=by
 refine .bind (T4 s k kind) fun t _=>?_;split
 · exact .e Jd
 · exact .o _
theorem X1 (s:JS)(t:Ty):NZ (Li s t):=by
 unfold Li;split
 · exact .e Jd
 · exact .o _
theorem ss (s:JS)(regs:List Int):∀(l:List Int) (want:List Ty),NZ (Nx s regs l want)
 | [],[]=>by unfold Nx;exact .o _
 | [],_::_=>by unfold Nx;exact .o _
 | _::_,[]=>by unfold Nx;exact .o _
 | k ::l,u::want=>by
   unfold Nx;refine .bind (gY s k) fun t _=>?_;split
   · exact .e Jd
   · split
     · exact .e Jd
     · exact ss s regs l want
theorem bV (s:JS)(l:List Int)(want:List Ty)(regs:List Int):NZ (Ob s l want regs):=by
 unfold Ob;split
 · exact .e Jd
 · exact ss s regs l want
theorem su (t:Ty)(k:Int):NZ (OO t k):=by
 unfold OO;split
 · exact .e Jd
 · exact .o _
theorem nA (h:List Bool):∀(l p:List Int),NZ (MF h p l)
 | [],_=>by unfold MF;exact .o _
 | r ::l,p=>by
   unfold MF;split
   · exact .e Jd
   · split
     · exact .e Jd
     · exact nA h l _
theorem nB (s:JS):∀(l:List Int),NZ (Kb s l)
 | []=>by unfold Kb;exact .o _
 | k::l=>by
   unfold Kb;exact .bind (gY s k) fun _ _=> .bind (nB s l) fun _ _=> .o _
theorem T5 (m:Module)(s:JS)(x:Ins):NZ (O6 m s x):=by
 unfold O6;split
 · exact .e Jd
 · split
   · exact .e Jd
   · refine .bind (nA _ _ _) fun _ _=> .bind (bV _ _ _ _) fun _ _=>?_
     split
     · exact .e Jd
     · exact .o _
theorem X2 (m:Module)(f:Fun)(s:JS)(x:Ins):NZ (Kl m f s x):=by
 unfold Kl TZ
 repeat' (first|exact X1 _ _|exact T5 _ _ _|exact .o _|exact .e Jd|refine .bind (T4 _ _ _) fun _ _=>?_|refine .bind (bU _ _ _) fun _ _=>?_|refine .bind (su _ _) fun _ _=>?_|refine .bind (gY _ _) fun _ _=>?_|refine .bind (nB _ _) fun _ _=>?_|refine .ite ?_ ?_)
theorem nC {m:Module}{f:Fun}{s:JS}{x:Ins}(h:(Ko m f s x).1=0):Qj m.funcs.length x=0∧Kl m f s x= .ok (Ko m f s x).2:=by
 unfold Ko at h ⊢;split at h
 · rename_i hf;exact absurd h hf
 · rename_i hf
   rw [if_neg hf];refine ⟨Fy.1 hf,?_⟩
   cases hj:Kl m f s x with
   | error c=>rw [hj] at h;exact absurd h (X2 m f s x c hj)
   | ok s'=>rfl
theorem sx {m:Module}{f:Fun}{s:JS}{x:Ins}(h:(Ko m f s x).1≠0):(Ko m f s x).2=s:=by
 unfold Ko at h ⊢;split
 · rfl
 · rename_i hf
   rw [if_neg hf] at h
   cases hj:Kl m f s x with
   | error c=>rfl
   | ok s'=>rw [hj] at h;exact A2
end
section
theorem RG {a b:LV}(h:(Kz a b).1=0):a.1=0∧b.1=0:=by
 unfold Kz at h;split at h
 · rename_i hc;exact absurd h hc.2
 · rename_i hc;refine ⟨h,?_⟩;exact Fv fun hb=>hc ⟨h,hb⟩
theorem sy {n f b:Nat}:∀{l:List Ins}{i:Nat},(NW n f b i l).1=0→∀x∈l,Qj n x=0
 | [],_,_,x,hx=>by cases hx
 | y::l,i,h,x,hx=>by
   rw [NW] at h;obtain ⟨h1,h2⟩:=RG h;rw [PJ] at h1;rcases ES.1 hx with rfl|hx
   · exact h1
   · exact sy h2 x hx
theorem sA {n f:Nat}{x:Fun}:∀{l:List Block}{b0:Nat},(QP n f x b0 l).1=0→∀(b:Nat) (y:Block),l[b]?=some y→(QH n f x (b0+b) y).1=0
 | [],_,_,b,y,hy=>by cases hy
 | z::l,b0,h,b,y,hy=>by
   rw [QP] at h;obtain ⟨h1,h2⟩:=RG h
   cases b with
   | zero=>rw [FJ] at hy;cases hy;exact h1
   | succ b=>rw [FV] at hy;rw [show b0+(b+1)=b0+1+b by omega];exact sA h2 b y hy
theorem nD {n:Nat}:∀{l:List Fun}{f0:Nat},(ON n f0 l).1=0→∀(f:Nat) (x:Fun),l[f]?=some x→(OM n (f0+f) x).1=0
 | [],_,_,b,y,hy=>by cases hy
 | z::l,b0,h,b,y,hy=>by
   rw [ON] at h;obtain ⟨h1,h2⟩:=RG h
   cases b with
   | zero=>rw [FJ] at hy;cases hy;exact h1
   | succ b=>rw [FV] at hy;rw [show b0+(b+1)=b0+1+b by omega];exact nD h2 b y hy
theorem kL {m:Module}(h:m.fault.1=0):1≤m.funcs.length∧m.funcs.length≤8:=by
 have h1:=(RG h).1;rw [PJ] at h1;split at h1
 · cases h1
 · omega
theorem P9 {m:Module}(h:m.fault.1=0){f:Nat}{x:Fun}(hx:m.funcs[f]?=some x):QF f x=0:=by
 have h1:=nD (RG h).2 f x hx;rw [F7] at h1;have h2:=(RG h1).1
 rwa [PJ] at h2
theorem Pp {m:Module}(h:m.fault.1=0){f b:Nat}{x:Fun}{y:Block}(hx:m.funcs[f]?=some x)(hy:x.blocks[b]?=some y):Qt x b y=0∧(∀i∈y.code,Qj m.funcs.length i=0)∧QU x.blocks.length y.fin=0:=by
 have h1:=nD (RG h).2 f x hx;have h2:=sA (RG h1).2 b y hy;obtain ⟨h3,h4⟩:=RG h2;obtain ⟨h5,h6⟩:=RG h4;rw [PJ] at h3 h6;rw [F7] at h3;exact ⟨h3,sy h5,h6⟩
theorem Z2 {x:Fun}{b:Nat}{y:Block}(h:Qt x b y=0):x.regs≤y.regs∧y.regs≤16∧Qm y.params y.regs=0∧(b=0→y.regs=x.regs∧y.params=x.params)∧y.code.length≤40:=by
 unfold Qt at h;split at h
 · cases h
 · rename_i h1
   split at h
   · rename_i h2;exact absurd h h2
   · rename_i h2
     split at h
     · cases h
     · rename_i h3
       split at h
       · cases h
       · refine ⟨Jo,Jo,Fy.1 h2,fun hb=>?_,Jo⟩;refine ⟨Fv fun hr=>h3 ⟨hb, .inl hr⟩,Fv fun hr=>h3 ⟨hb, .inr hr⟩⟩
theorem SJ {f:Nat}{x:Fun}(h:QF f x=0):0≤x.regs∧x.regs≤6∧Qm x.params x.regs=0∧Qm x.results x.regs=0∧1≤x.blocks.length∧x.blocks.length≤12:=by
 unfold QF at h;split at h
 · cases h
 · rename_i h1
   split at h
   · rename_i h2;exact absurd h h2
   · rename_i h2
     split at h
     · rename_i h3;exact absurd h h3
     · rename_i h3
       split at h
       · cases h
       · exact ⟨Jo,Jo,Fy.1 h2,Fy.1 h3,Jo,Jo⟩
theorem yN {l:List Ty}{r:Int}(h:Qm l r=0):l.length≤8:=by
 unfold Qm at h;split at h
 · cases h
 · omega
theorem gZ {b:Int}(h:RF a b=0):a=0∧b=0:=by
 unfold RF at h;split at h
 · rename_i h1;exact absurd h h1
 · rename_i h1;exact ⟨Fy.1 h1,h⟩
theorem sB {r:Int}:∀{l:List Ty},P7 r l=0→∀t∈l,t.fault r=0
 | [],_,t,ht=>by cases ht
 | x::l,h,t,ht=>by
   rw [P7] at h;obtain ⟨h1,h2⟩:=gZ h;rcases ES.1 ht with rfl|ht
   · exact h1
   · exact sB h2 t ht
theorem hU {l:List Ty}{r:Int}(h:Qm l r=0):∀t∈l,t.fault r=0:=by
 unfold Qm at h;split at h
 · cases h
 · exact sB h
theorem Ty.ren_short:∀(t:Ty){to:List Int}{u:Ty},t.Short→t.ren to=some u→u.Short:=by
 intro t
 induction t using GX with
 | h k r l ih =>
   intro to u hs h;obtain ⟨hl,hp⟩:=hs.parts;rw [Ty.ren] at h;split at h
   · cases h
   · split at h
     · cases h
     · rename_i m hm
       cases h
       have key:∀(l:List Ty) (m:List Ty),(∀x∈l,x.Short∧∀{u:Ty},x.Short→x.ren to=some u→u.Short)→Tys.ren l to=some m→m.length=l.length∧∀y∈m,y.Short:=by
        intro l
        induction l with
        | nil=>intro m _ h;rw [Tys.ren] at h;cases h;exact ⟨rfl,by simp⟩
        | cons x l ihl=>
          intro m hx h;rw [Tys.ren] at h
          cases h1:x.ren to with
          | none=>rw [h1] at h;cases h
          | some y=>
            rw [h1] at h
            cases h2:Tys.ren l to with
            | none=>rw [h2] at h;cases h
            | some m2=>
              rw [h2] at h;simp only [E0] at h;subst h;obtain ⟨h3,h4⟩:=ihl m2 (fun z hz=>hx z (E9 _ hz)) h2;refine ⟨by simp [h3],fun z hz=>?_⟩;rcases ES.1 hz with rfl|hz
              · obtain ⟨h5,h6⟩:=hx x (Fh ..);exact h6 h5 h1
              · exact h4 z hz
       obtain ⟨h3,h4⟩:=key l m (fun x hx=>⟨hp x hx,fun hs h=>ih x hx hs h⟩) hm;exact .mk Jo h4
theorem Ty.Short.part {t:Ty}(h:t.Short):∀u∈t.l,u.Short:=by
 obtain ⟨k,r,l⟩:=t;exact h.parts.2
theorem yO {t:Ty}{to:List Int}(h:t.Short):(Mp to t).Short:=by
 unfold Mp
 cases hn:t.ren to with
 | none=>exact .mk Jd Js
 | some u=>exact Ty.ren_short t h hn
structure JGood (s:JS):Prop where
 n:s.l.length≤80
 h:s.h.length≤16
 s:∀t∈s.l,t.Short
theorem JGood.get {s:JS}(hg:JGood s){k:Int}{t:Ty}(h:K7 s k= .ok t):t.Short:=hg.s t (EI (kF h).2)
theorem JGood.put {s s':JS}{t:Ty}(hg:JGood s)(ht:t.Short)(h:Li s t= .ok s'):JGood s':=by
 obtain ⟨h1,h2,h3⟩:=kG h;refine ⟨by rw [h3,EM];have:=hg.n;simp only [ET,Ff];omega,by rw [h2];exact hg.h,fun u hu=>?_⟩;rw [h3] at hu;rcases E3.1 hu with hu|hu
 · exact hg.s u hu
 · simp at hu;subst hu;exact ht
theorem r8 {k r:Int}:(Ty.mk k r []).Short:= .mk Jd Js
theorem nE {s:JS}(hg:JGood s):∀{l:List Int}{ts:List Ty},Kb s l= .ok ts→ts.length=l.length∧∀t∈ts,t.Short
 | [],ts,h=>by rw [Kb] at h;cases h;exact ⟨rfl,by simp⟩
 | k::l,ts,h=>by
   rw [Kb] at h;obtain ⟨t,h1,h⟩:=Q7 h;obtain ⟨us,h2,h⟩:=Q7 h;cases h;obtain ⟨h3,h4⟩:=nE hg h2;refine ⟨by simp [h3],fun u hu=>?_⟩;rcases ES.1 hu with rfl|hu
   · exact hg.get h1
   · exact h4 u hu
theorem yP {s:JS}{k:Int}{t:Ty}(h:Kf s k kd= .ok t):K7 s k= .ok t:=by have:=nu h;exact X0 this.1 this.2.1
theorem sC {s:JS}{k:Int}{t:Ty}(h:K4 s k kd= .ok t):K7 s k= .ok t:=by have:=WU h;exact X0 this.1 this.2.1
theorem nF {t u:Ty}{k:Int}(h:OO t k= .ok u):t.l[k.toNat]?=some u:=by
 unfold OO at h;split at h
 · cases h
 · rename_i v hv;cases h;exact hv
theorem sD {m:Module}{f:Fun}{s s':JS}{x:Ins}(hm:m.Short)(hg:JGood s)(hF:Qj m.funcs.length x=0)(h:Kl m f s x= .ok s'):JGood s':=by
 have hop:=T0 hF;have hst:=yM hop h;have hn:s'.l.length≤80:=hst.len hg.n;by_cases h3:x.op=3
 · rw [fe h3] at h
   split at h
   · cases h
   · rename_i hc
     cases h;refine ⟨hn,by have:=hg.h;simp only [EM,ET,Ff];omega,fun u hu=>?_⟩;rcases E3.1 hu with hu|hu
     · exact hg.s u hu
     · simp at hu;subst hu;exact r8
 by_cases h4:x.op=4
 · rw [bN h4] at h
   obtain ⟨t,h1,h⟩:=Q7 h;split at h
   · cases h
   · cases h;exact ⟨hn,by rw [Fe];exact hg.h,hg.s⟩
 rcases Ld (op:=x.op) Jo Jo with e|e|e|e|e|e|e|e|e|e|e|e|e|e
 · rw [WV Jo] at h;exact A4
 · rw [ZW Jo] at h;obtain ⟨_,_,h⟩:=Q7 h;obtain ⟨_,_,h⟩:=Q7 h;exact A4
 · exact absurd e h3
 · exact absurd e h4
 · rw [ff Jo] at h
   unfold TZ at h;obtain ⟨t,_,h⟩:=Q7 h;obtain ⟨ts,h2,h⟩:=Q7 h;split at h
   · cases h
   · obtain ⟨h5,h6⟩:=nE hg h2
     have hal:x.args.length≤8:=by
      unfold Qj Nw at hF;simp [e] at hF;omega
     exact hg.put (.mk Jo h6) h
 · rw [ZX Jo] at h;obtain ⟨t,h1,h⟩:=Q7 h;obtain ⟨u,h2,h⟩:=Q7 h;exact hg.put (Ty.Short.part (hg.get (sC h1)) u (EI (nF h2))) h
 · rw [T1 Jo] at h;obtain ⟨_,_,h⟩:=Q7 h;obtain ⟨_,_,h⟩:=Q7 h;obtain ⟨_,_,h⟩:=Q7 h
   split at h
   · cases h
   · cases h;exact hg
 · rw [ZY Jo] at h;obtain ⟨_,_,h⟩:=Q7 h;obtain ⟨_,_,h⟩:=Q7 h;exact A4
 · rw [ZZ Jo] at h;obtain ⟨_,_,h⟩:=Q7 h;obtain ⟨_,_,h⟩:=Q7 h;exact A4
 · rw [Z0 Jo] at h;obtain ⟨_,_,h⟩:=Q7 h;obtain ⟨_,_,h⟩:=Q7 h;obtain ⟨_,_,h⟩:=Q7 h;cases h;exact hg
 · rw [bO Jo] at h;obtain ⟨_,_,h⟩:=Q7 h;exact A4
 · rw [WV Jo] at h;exact A4
 · rw [fg Jo] at h;obtain ⟨_,_,h⟩:=Q7 h;cases h;exact hg
 · rw [bP Jo] at h
   unfold O6 at h;split at h
   · cases h
   · rename_i g hgf
     split at h
     · cases h
     · obtain ⟨_,_,h⟩:=Q7 h;obtain ⟨_,_,h⟩:=Q7 h
       split at h
       · cases h
       · cases h
         refine ⟨hn,hg.h,fun u hu=>?_⟩;rcases E3.1 hu with hu|hu
         · exact hg.s u hu
         · obtain ⟨t,ht,rfl⟩:=Fc.1 hu;exact yO ((hm.2 g (EI hgf)).2.1.2 t ht)
theorem yQ {m:Module}{f:Fun}{s:JS}{x:Ins}(hm:m.Short)(hg:JGood s):JGood (Ko m f s x).2:=by
 by_cases h:(Ko m f s x).1=0
 · obtain ⟨h1,h2⟩:=nC h;exact sD hm hg h1 h2
 · rw [sx h];exact hg
theorem sE {m:Module}(hm:m.Short)(hF:m.fault.1=0){f b:Nat}{x:Fun}{y:Block}(hx:m.funcs[f]?=some x)(hy:x.blocks[b]?=some y):JGood (Mh y):=by
 have h1:=Z2 (Pp hF hx hy).1;have h2:=yN h1.2.2.1;refine ⟨by unfold Mh;simp only;omega,by unfold Mh;simp only [FO];omega,?_⟩;exact ((hm.2 x (EI hx)).2.2.2 y (EI hy)).1.2
theorem ia {h:List Bool}:∀{l p:List Int},MF h p l= .ok ()→∀r∈l,Ke h r=true
 | [],_,_,r,hr=>by cases hr
 | x ::l,p,hd,r,hr=>by
   rw [MF] at hd;split at hd
   · cases hd
   · rename_i h1
     split at hd
     · cases hd
     · rcases ES.1 hr with rfl|hr
       · simpa using h1
       · exact ia hd r hr
theorem T6 {s:JS}{k:Int}{t:Ty}(h0:0≤k)(h:s.l[k.toNat]?=some t)(hk:t.kind=kd)(hh:Ke s.h t.r=false):K4 s k kd= .error 10:=by
 unfold K4 Kf;rw [Q3 (X0 h0 h),if_neg (fun h=>h hk),Q3 rfl,if_pos hh]
end
section
variable {α:Type}
def Rep.an (r:Rep α)(p:α→Prop):Rep α where
 es:=r.es
 pos:=r.pos
 R:=fun H K cs x=>r.R H K cs x∧p x
 len:=fun h=>r.len h.1
 one:=fun h=>r.one h.1
 turn:=fun h hs=>⟨r.turn h.1 hs,h.2⟩
theorem Rep.an_SR {r:Rep α}{p:α→Prop}{l:List α}(h:(r.an p).SR H K v l):r.SR H K v l∧∀x∈l,p x:=by
 obtain ⟨css,h1,⟨h2,h3⟩,h4⟩:=h;refine ⟨⟨css,h1,⟨h2,fun m x hx=>?_⟩,h4⟩,fun x hx=>?_⟩
 · obtain ⟨d,e1,e2⟩:=h3 m x hx;exact ⟨d,e1,e2.1⟩
 · obtain ⟨m,hm⟩:=Fj.1 hx;obtain ⟨d,e1,e2⟩:=h3 m x hm;exact e2.2
abbrev GK:=@Rep.an_SR
def To.InR (t:To):Prop:=Lh t.block∧(∀n∈t.regs,Lh n)∧∀n∈t.args,Lh n
def Ins.InR (x:Ins):Prop:=(Lh x.op∧Lh x.a∧Lh x.b∧Lh x.c∧Lh x.k∧Lh x.n)∧(∀n∈x.regs,Lh n)∧∀n∈x.args,Lh n
def Tail.InR (x:Tail):Prop:=Lh x.op∧Lh x.a∧x.yes.InR∧x.no.InR∧∀n∈x.args,Lh n
def Block.InR (x:Block):Prop:=Lh x.regs∧(∀t∈x.params,t.InR)∧(∀i∈x.code,i.InR)∧x.fin.InR
def Fun.InR (x:Fun):Prop:=Lh x.regs∧(∀t∈x.params,t.InR)∧(∀t∈x.results,t.InR)∧∀b∈x.blocks,b.InR
def Module.InR (m:Module):Prop:=∀f∈m.funcs,f.InR
section
variable {P:Program}{T e:TypeId}
def Cod.Of.intI (ht:P.underlying T=some (.int .i64))(hs:P.cellsOf T=1):Cod.Of P T (JY.an Lh):=Cod.of (Cod.int .i64 ht hs) (JY.an Lh) rfl fun _ _ x h=>⟨x,h.1,m8 h.2⟩
def Cod.Of.tyI {TL t0 t1:TypeId}(h0:fieldAt P T 0=some (0,1,t0))(h1:fieldAt P T 1=some (1,1,t1))(h2:fieldAt P T 2=some (2,1,TL))(hi0:P.underlying t0=some (.int .i64))(hi1:P.underlying t1=some (.int .i64))(hT:P.cellsOf T=3)(hTL:P.underlying TL=some (.slice T))(hby:decide (0<P.bytesOf T)=true):Cod.Of P T (J7.an Ty.InR):=
 ⟨Cod.tyInt h0 h1 h2 hi0 hi1 hT hTL hby,rfl,fun _ _ _ h=>h⟩
def Cod.Of.toI {TI TL:TypeId}(ci:Cod.Of P TI (JY.an Lh))(cl:Cod.Of P TL (JY.an Lh).list)(h0:fieldAt P T 0=some (0,1,TI))(h1:fieldAt P T 1=some (1,1,TL))(h2:fieldAt P T 2=some (2,1,TL))(hT:P.cellsOf T=3):Cod.Of P T (toR.an To.InR):=
 Cod.of (Fld.cod (Fld.more ci.cod h0 (Fld.more cl.cod h1 (Fld.more cl.cod h2 Fld.none))) h0 3 hT) (toR.an To.InR) rfl fun H cs x h=>by
  obtain ⟨hl,g0,g1,g2,_⟩:=h
  match cs,hl with
  | [a,b,c],_=>
    obtain ⟨e0,n0⟩:[a]=[_]∧Lh _:=ci.part g0;obtain ⟨v1,e1,s1⟩:=cl.part g1;obtain ⟨s1,q1⟩:=GK s1;obtain ⟨v2,e2,s2⟩:=cl.part g2;obtain ⟨s2,q2⟩:=GK s2;replace e1:[b]=[v1]:=e1;replace e2:[c]=[v2]:=e2;simp only [FG,and_true] at e0 e1 e2;subst e0 e1 e2;exact ⟨⟨x.1,x.2.1,x.2.2.1⟩,⟨b,c,rfl,s1,s2⟩,n0,q1,q2⟩
def Cod.Of.insI {TI TL TN:TypeId}(ci:Cod.Of P TI (JY.an Lh))(cn:Cod.Of P TN (JY.an Lh))(cl:Cod.Of P TL (JY.an Lh).list)(h0:fieldAt P T 0=some (0,1,TI))(h1:fieldAt P T 1=some (1,1,TI))(h2:fieldAt P T 2=some (2,1,TI))(h3:fieldAt P T 3=some (3,1,TI))(h4:fieldAt P T 4=some (4,1,TI))(h5:fieldAt P T 5=some (5,1,TN))(h6:fieldAt P T 6=some (6,1,TL))(h7:fieldAt P T 7=some (7,1,TL))(hT:P.cellsOf T=8):Cod.Of P T (Ky.an Ins.InR):=
 Cod.of (Fld.cod (Fld.more ci.cod h0 (Fld.more ci.cod h1 (Fld.more ci.cod h2 (Fld.more ci.cod h3 (Fld.more ci.cod h4 (Fld.more cn.cod h5 (Fld.more cl.cod h6 (Fld.more cl.cod h7 Fld.none)))))))) h0 8 hT) (Ky.an Ins.InR) rfl fun H cs x h=>by
  obtain ⟨hl,g0,g1,g2,g3,g4,g5,g6,g7,_⟩:=h
  match cs,hl with
  | [a0,a1,a2,a3,a4,a5,a6,a7],_=>
    obtain ⟨e0,n0⟩:[a0]=[_]∧Lh _:=ci.part g0;obtain ⟨e1,n1⟩:[a1]=[_]∧Lh _:=ci.part g1;obtain ⟨e2,n2⟩:[a2]=[_]∧Lh _:=ci.part g2;obtain ⟨e3,n3⟩:[a3]=[_]∧Lh _:=ci.part g3;obtain ⟨e4,n4⟩:[a4]=[_]∧Lh _:=ci.part g4;obtain ⟨e5,n5⟩:[a5]=[_]∧Lh _:=cn.part g5;obtain ⟨v1,e6,s1⟩:=cl.part g6;obtain ⟨s1,q1⟩:=GK s1;obtain ⟨v2,e7,s2⟩:=cl.part g7;obtain ⟨s2,q2⟩:=GK s2;replace e6:[a6]=[v1]:=e6;replace e7:[a7]=[v2]:=e7;simp only [FG,and_true] at e0 e1 e2 e3 e4 e5 e6 e7;subst e0 e1 e2 e3 e4 e5 e6 e7;exact ⟨⟨x.1,x.2.1,x.2.2.1,x.2.2.2.1,x.2.2.2.2.1,x.2.2.2.2.2.1,x.2.2.2.2.2.2.1,x.2.2.2.2.2.2.2.1⟩,⟨_,_,rfl,s1,s2⟩,⟨n0,n1,n2,n3,n4,n5⟩,q1,q2⟩
def Cod.Of.endpI {TI TL TT:TypeId}(ci:Cod.Of P TI (JY.an Lh))(cl:Cod.Of P TL (JY.an Lh).list)(ct:Cod.Of P TT (toR.an To.InR))(h0:fieldAt P T 0=some (0,1,TI))(h1:fieldAt P T 1=some (1,1,TI))(h2:fieldAt P T 2=some (2,3,TT))(h3:fieldAt P T 3=some (5,3,TT))(h4:fieldAt P T 4=some (8,1,TL))(hT:P.cellsOf T=9):Cod.Of P T (K3.an Tail.InR):=
 Cod.of (Fld.cod (Fld.more ci.cod h0 (Fld.more ci.cod h1 (Fld.more ct.cod h2 (Fld.more ct.cod h3 (Fld.more cl.cod h4 Fld.none))))) h0 9 hT) (K3.an Tail.InR) rfl fun H cs x h=>by
  obtain ⟨hl,g0,g1,g2,g3,g4,_⟩:=h
  match cs,hl with
  | [a0,a1,a2,a3,a4,a5,a6,a7,a8],_=>
    obtain ⟨e0,n0⟩:[a0]=[_]∧Lh _:=ci.part g0;obtain ⟨e1,n1⟩:[a1]=[_]∧Lh _:=ci.part g1;obtain ⟨⟨v1,v2,e2,s1,s2⟩,n2⟩:=ct.part g2;obtain ⟨⟨v3,v4,e3,s3,s4⟩,n3⟩:=ct.part g3;obtain ⟨v5,e4,s5⟩:=cl.part g4;obtain ⟨s5,q5⟩:=GK s5;replace e2:[a2,a3,a4]=_:=e2;replace e3:[a5,a6,a7]=_:=e3;replace e4:[a8]=_:=e4;simp only [FG,and_true] at e0 e1 e2 e3 e4;obtain ⟨q2,q3,q4⟩:=e2;obtain ⟨q5,q6,q7⟩:=e3;subst e0 e1 q2 q3 q4 q5 q6 q7 e4;exact ⟨⟨x.1,x.2.1,x.2.2.1,x.2.2.2.1,x.2.2.2.2.1⟩,⟨_,_,_,_,_,rfl,s1,s2,s3,s4,s5⟩,n0,n1,n2,n3,q5⟩
def Cod.Of.blockI {TI TL TC TE:TypeId}(ci:Cod.Of P TI (JY.an Lh))(cl:Cod.Of P TL (J7.an Ty.InR).list)(cc:Cod.Of P TC (Ky.an Ins.InR).list)(ce:Cod.Of P TE (K3.an Tail.InR))(h0:fieldAt P T 0=some (0,1,TI))(h1:fieldAt P T 1=some (1,1,TL))(h2:fieldAt P T 2=some (2,1,TC))(h3:fieldAt P T 3=some (3,9,TE))(hT:P.cellsOf T=12):Cod.Of P T (Kx.an Block.InR):=
 Cod.of (Fld.cod (Fld.more ci.cod h0 (Fld.more cl.cod h1 (Fld.more cc.cod h2 (Fld.more ce.cod h3 Fld.none)))) h0 12 hT) (Kx.an Block.InR) rfl fun H cs x h=>by
  obtain ⟨hl,g0,g1,g2,g3,_⟩:=h
  match cs,hl with
  | [a0,a1,a2,a3,a4,a5,a6,a7,a8,a9,a10,a11],_=>
    obtain ⟨e0,n0⟩:[a0]=[_]∧Lh _:=ci.part g0;obtain ⟨v1,e1,s1⟩:=cl.part g1;obtain ⟨s1,q1⟩:=GK s1;obtain ⟨v2,e2,s2⟩:=cc.part g2;obtain ⟨s2,q2⟩:=GK s2;obtain ⟨s3,n3⟩:=ce.part g3;replace e1:[a1]=_:=e1;replace e2:[a2]=_:=e2;replace s3:K3.R H (· < H.size) [a3,a4,a5,a6,a7,a8,a9,a10,a11] x.2.2.2.1:=s3;simp only [FG,and_true] at e0 e1 e2;subst e0 e1 e2;exact ⟨⟨x.1,x.2.1,x.2.2.1,x.2.2.2.1⟩,⟨_,_,_,rfl,s1,s2,s3⟩,n0,q1,q2,n3⟩
def Cod.Of.funcI {TI TL TB:TypeId}(ci:Cod.Of P TI (JY.an Lh))(cl:Cod.Of P TL (J7.an Ty.InR).list)(cb:Cod.Of P TB (Kx.an Block.InR).list)(h0:fieldAt P T 0=some (0,1,TI))(h1:fieldAt P T 1=some (1,1,TL))(h2:fieldAt P T 2=some (2,1,TL))(h3:fieldAt P T 3=some (3,1,TB))(hT:P.cellsOf T=4):Cod.Of P T (Kj.an Fun.InR):=
 Cod.of (Fld.cod (Fld.more ci.cod h0 (Fld.more cl.cod h1 (Fld.more cl.cod h2 (Fld.more cb.cod h3 Fld.none)))) h0 4 hT) (Kj.an Fun.InR) rfl fun H cs x h=>by
  obtain ⟨hl,g0,g1,g2,g3,_⟩:=h
  match cs,hl with
  | [a0,a1,a2,a3],_=>
    obtain ⟨e0,n0⟩:[a0]=[_]∧Lh _:=ci.part g0;obtain ⟨v1,e1,s1⟩:=cl.part g1;obtain ⟨s1,q1⟩:=GK s1;obtain ⟨v2,e2,s2⟩:=cl.part g2;obtain ⟨s2,q2⟩:=GK s2;obtain ⟨v3,e3,s3⟩:=cb.part g3;obtain ⟨s3,q3⟩:=GK s3;replace e1:[a1]=_:=e1;replace e2:[a2]=_:=e2;replace e3:[a3]=_:=e3;simp only [FG,and_true] at e0 e1 e2 e3;subst e0 e1 e2 e3;exact ⟨⟨x.1,x.2.1,x.2.2.1,x.2.2.2.1⟩,⟨_,_,_,rfl,s1,s2,s3⟩,n0,q1,q2,q3⟩
def Cod.Of.modI {TF:TypeId}(cf:Cod.Of P TF (Kj.an Fun.InR).list)(h0:fieldAt P T 0=some (0,1,TF))(hT:P.cellsOf T=1):Cod.Of P T (K6.an Module.InR):=
 Cod.of (Fld.cod (Fld.more cf.cod h0 Fld.none) h0 1 hT) (K6.an Module.InR) rfl fun H cs x h=>by
  obtain ⟨hl,g0,_⟩:=h
  match cs,hl with
  | [a0],_=>
    obtain ⟨v1,e1,s1⟩:=cf.part g0;obtain ⟨s1,q1⟩:=GK s1;replace e1:[a0]=_:=e1;simp only [FG,and_true] at e1;subst e1;exact ⟨⟨x.1⟩,⟨_,rfl,s1⟩,q1⟩
end
theorem yR {m:Module}(h:m.Few):m.Short:=by
 refine ⟨by have:=h.1;omega,fun f hf=>?_⟩;obtain ⟨h1,h2,h3,h4⟩:=h.2 f hf;refine ⟨HD h1,HD h2,Jo,fun b hb=>?_⟩;obtain ⟨g1,g2,g3,⟨⟨g4,g5⟩,⟨g6,g7⟩,g8⟩⟩:=h4 b hb;exact ⟨HD g1,Jo,fun x hx=>⟨by have:=(g3 x hx).1;omega,by have:=(g3 x hx).2;omega⟩,⟨Jo,Jo⟩,⟨Jo,Jo⟩,Jo⟩
end
end Go.Lir
namespace Go.Proofs.YteflkifmgnpbhaaGreat
open Go.Lir
def fh:Cod.Of Tryz.prog 3 (JY.an Lh):=Cod.Of.intI Jk Jk
def T7:Cod.Of Tryz.prog 2 (JY.an Lh):=Cod.Of.intI Jk Jk
def nG:Cod.Of Tryz.prog 68 (JY.an Lh).list:=Cod.Of.list fh Jk Jk Jk
def nH:Cod.Of Tryz.prog 115 (J7.an Ty.InR):=Cod.Of.tyI (TL:=86) (t0:=3) (t1:=3) Jk Jk Jk Jk Jk Jk Jk Jk
def Z3:Cod.Of Tryz.prog 86 (J7.an Ty.InR).list:=Cod.Of.list nH Jk Jk Jk
def ib:Cod.Of Tryz.prog 84 (Ky.an Ins.InR):=Cod.Of.insI fh T7 nG Jk Jk Jk Jk Jk Jk Jk Jk Jk
def bW:Cod.Of Tryz.prog 85 (Ky.an Ins.InR).list:=Cod.Of.list ib Jk Jk Jk
def nI:Cod.Of Tryz.prog 88 (toR.an To.InR):=Cod.Of.toI fh nG Jk Jk Jk Jk
def ic:Cod.Of Tryz.prog 90 (K3.an Tail.InR):=Cod.Of.endpI fh nG nI Jk Jk Jk Jk Jk Jk
def X3:Cod.Of Tryz.prog 92 (Kx.an Block.InR):=Cod.Of.blockI fh Z3 bW ic Jk Jk Jk Jk Jk
def T8:Cod.Of Tryz.prog 93 (Kx.an Block.InR).list:=Cod.Of.list X3 Jk Jk Jk
def bX:Cod.Of Tryz.prog 95 (Kj.an Fun.InR):=Cod.Of.funcI fh Z3 T8 Jk Jk Jk Jk Jk
def X4:Cod.Of Tryz.prog 22 (Kj.an Fun.InR).list:=Cod.Of.list bX Jk Jk Jk
def RH:Cod.Of Tryz.prog 24 (K6.an Module.InR):=Cod.Of.modI X4 Jk Jk
end Go.Proofs.YteflkifmgnpbhaaGreat
namespace Go.Lir
section


def KD (P:Program)(f:FuncId)(args:List Value)(w:World)(S T:Value→World→Prop):Prop:=
 Calls P f ⟨args⟩ w fun e w'=>(∃v,e= .returned v∧S v w')∨(∃v,e= .panicked [{v:=v,recovered:=false}]∧T v w')

theorem KD.mono {f:FuncId}{S' T T':Value→World→Prop}(h:KD P f args w S T)(hs:∀v w',S v w'→S' v w')(ht:∀v w',T v w'→T' v w'):KD P f args w S' T':=
 Calls.mono h fun _ _ h=>h.elim (fun ⟨v,he,hv⟩=> .inl ⟨v,he,hs _ _ hv⟩) (fun ⟨v,he,hv⟩=> .inr ⟨v,he,ht _ _ hv⟩)
theorem JW.ends {f:FuncId}{T:Value→World→Prop}(h:JW P f args w S):KD P f args w S T:=
 Calls.mono h fun _ _ h=> .inl h
section
variable {P:Program}{l:List GO}{Q:QT}{ρ:Km}{w:World}
theorem nJ {d:Nat}{f:FuncId}{xs:List Operand}{T:Value→World→Prop}(hxs:xs.map ρ.ev=args)(hc:KD P f args w S T)
 (hp:∀v w',T v w'→Q (.panic [{v:=v,recovered:=false}]) ρ w')(h:∀v w',S v w'→Q0 P l Q (upd ρ d v) w'):Q0 P (⟨none, .call (some d) f xs⟩::l) Q ρ w:=by
 subst hxs;refine Calls.mono hc fun e w' h'=>?_;rcases h' with ⟨v,he,hs⟩|⟨v,he,hs⟩
 · subst he;exact h v w' hs
 · subst he;exact hp v w' hs
theorem X5 {d:Nat}{x:Operand}{f:FuncId}{T:Value→World→Prop}(hx:ρ.ev x= .func (.func f) #[] ⟨cap⟩)(hf:PF P f=true)(hxs:os.map ρ.ev++cap=args)(hc:KD P f args w S T)
 (hp:∀v w',T v w'→Q (.panic [{v:=v,recovered:=false}]) ρ w')(h:∀v w',S v w'→Q0 P l Q (upd ρ d v) w'):Q0 P (⟨none, .callv (some d) x os⟩::l) Q ρ w:=by
 unfold PF at hf;rw [HA] at hf;obtain ⟨fn,h1,h2⟩:=hf;rw [EW,Ge] at h2;refine mG hx h1 h2.1 h2.2 hxs hc ?_;intro e w' h';rcases h' with ⟨v,rfl,hs⟩|⟨v,rfl,hs⟩
 · exact h v w' hs
 · exact hp v w' hs
theorem Qv {K:KT}{h:Q (.panic ch) ρ w}:Qh K Q (.panic ch) ρ w:=h
theorem QA {id:Nat}{h:Q (.panic ch) ρ w}:Qd id Q (.panic ch) ρ w:=h
theorem QW {h:R (.panicked ch) w}:Kq P rs R (.panic ch) ρ w:=h
theorem X6 {d : Option Nat}{x : Operand}{Ty:TypeId}(hx : ρ.ev x = .iface T v)(h : Q (.panic [{ v := .iface T v, recovered := false }]) ρ w): Q0 P (⟨none, .raw ⟨d, .panic x, Ty, "", #[], none⟩⟩ :: l) Q ρ w := by
 refine (?_:Ph P _ ρ w _ Q);unfold Ph
 have e : (execOp ρ.ev ⟨d, .panic x, Ty, "", #[], none⟩).run P w = .halt (.panic (.iface T v)) w := by
  simp [execOp,Instr.panic,hx,goPanic,Sem.run]
 rw [e];exact h
theorem T9 {d:Nat}{x:Operand}{Ty xT:TypeId}{D:TypeDesc}(hd:P.underlying T=some D)(hi:∀m,D≠ .interface m)(hx:ρ.ev x= .iface T v)
 (h : Q0 P l Q (upd ρ d (.tuple #[v, .bool true])) w): Q0 P (⟨none, .raw ⟨some d, .typeAssert x xT T true, Ty, "", #[], none⟩⟩ :: l) Q ρ w := by
 refine MJ (v:= .tuple #[v, .bool true]) (w':=w) ?_ h;simp only [execOp,Instr.typeAssert,hx,Fo,Q9 P T D w hd,EZ];cases D<;>first|(exact absurd rfl (hi _))|simp
end


inductive LSp where
 | dfr (d:Option Nat) (x:Operand)
 | rcv (d:Option Nat)

inductive LD where
 | pl (c:LC)
 | seq (a b:LD)
 | sp (l1:List GO) (o:LSp) (l2:List GO)

def Se (o:Oper):Option LSp:=match o.guard,o.op with
 | none, .defer ⟨.value x,xs,_⟩=>if xs.size=0 then some (.dfr o.dst x) else none
 | none, .call ⟨.builtin .recover,xs,_⟩=>if xs.size=0 then some (.rcv o.dst) else none
 | _,_=>none
def fj:Code→Bool
 | .seq a b=>fj a||fj b
 | .region _ ops _=>ops.toList.any fun o=>(Se o).isSome
 | _=>false
def fk:List Oper→Option (List Oper×Oper×LSp×List Oper)
 | []=>none
 | o::r=>match Se o with
   | some s=>some ([],o,s,r)
   | none=>(fk r).map fun p=>(o::p.1,p.2)
def OP (P:Program)(n:Nat):Code→LD
 | .seq a b=>if fj a||fj b then .seq (OP P n a) (OP P n b) else .pl (PG P n (.seq a b))
 | .region id ops false=>match fk ops.toList with
   | some (l1,_,s,l2)=>if ops.toList.all (Pk n ops) then .sp (l1.map (OF P ops)) s (l2.map (OF P ops)) else .pl .bad
   | none=> .pl (PG P n (.region id ops false))
 | c=> .pl (PG P n c)
def fm (P:Program)(fn:Func):Option LD:=fn.body.map (OP P fn.ntmps)

def LD.wpD (P:Program):LD→(List Deferred→QT)→List Deferred→Km→World→Prop
 | .pl c,Q,ds,ρ,w=>c.wp P (Q ds) ρ w
 | .seq a b,Q,ds,ρ,w=>a.wpD P (fun ds'=>Qh (b.wpD P Q ds') (Q ds')) ds ρ w
 | .sp l1 (.dfr d x) l2,Q,ds,ρ,w=>Q0 P l1 (Qh (fun ρ w=>∃f cap,ρ.ev x= .func (.func f) #[] cap∧Q0 P l2 (Q (⟨.fn (.func f) cap,#[]⟩::ds)) (KC ρ d undef) w) (Q ds)) ρ w
 | _,_,_,_,_=>False

theorem nK:∀{ops l1 l2:List Oper}{o:Oper}{s:LSp},fk ops=some (l1,o,s,l2)→ops=l1++o::l2∧Se o=some s
 | [],_,_,_,_,h=>by simp [fk] at h
 | o'::r,l1,l2,o,s,h=>by
   rw [fk] at h
   cases hs:Se o' with
   | some s'=>
     simp only [hs,E0,GJ] at h;obtain ⟨rfl,rfl,rfl,rfl⟩:=h;exact ⟨rfl,hs⟩
   | none=>
     simp only [hs,Gv] at h;obtain ⟨⟨a,b,c,d⟩,h1,h2⟩:=h;simp only [GJ] at h2;obtain ⟨rfl,rfl,rfl,rfl⟩:=h2;obtain ⟨h3,h4⟩:=nK h1;exact ⟨by rw [h3];rfl,h4⟩

theorem nL {o:Oper}{a:Act}{K K':Act→World→Prop}{Q Q':Exit→Act→World→Prop}(hk:∀a w,K a w→K' a w)(hp:∀ch a w,Q (.panic ch) a w→Q' (.panic ch) a w)(ho:LetsOut Q→LetsOut Q')(r:Result Next)(h:o.upon P a K Q r):o.upon P a K' Q' r:=by
 cases r with
 | ok n w=>
   cases n<;>first|exact hk _ _ h|exact h|skip
   · refine Calls.mono h fun e w h=>?_;cases e<;>first|exact hk _ _ h|exact hp _ _ _ h|exact ho h
   · exact Rows.mono h fun v w h=>hk _ _ h
 | halt x w=>cases x<;>first|exact hp _ _ _ h|exact h

theorem kM {P:Program}{ops:Array Oper}{Q:Exit→Act→World→Prop}{l2:List Nat}:∀(l1:List Nat) (a:Act) (w:World),
 wpOps P ops (Exit.then (wpOps P ops Q l2) Q) l1 a w→wpOps P ops Q (l1++l2) a w
 | [],a,w,h=>h
 | i ::l1,a,w,h=>by
   simp only [Gz,wpOps] at h ⊢
   cases ho:ops[i]? with
   | none=>simp only [ho] at h ⊢;exact kM l1 a w h
   | some o=>
     simp only [ho] at h ⊢;split
     · rename_i hw
       rw [if_pos hw] at h;rcases h with h|⟨h1,h2⟩
       · exact .inl (nL (fun a w h=>kM l1 a w h) (fun ch a w h=>h) (fun h=>h) _ h)
       · exact .inr ⟨h1,h2⟩
     · rename_i hw;rw [if_neg hw] at h;exact kM l1 _ w h
theorem ie {P:Program}{ops:Array Oper}{Q Q':Exit→Act→World→Prop}(hq:∀e a w,Q e a w→Q' e a w):∀(l:List Nat) (a:Act) (w:World),wpOps P ops Q l a w→wpOps P ops Q' l a w
 | [],a,w,h=>hq _ _ _ h
 | i ::l,a,w,h=>by
   simp only [wpOps] at h ⊢;have ho':LetsOut Q→LetsOut Q':=fun ⟨a,w,h⟩=>⟨a,w,hq _ _ _ h⟩
   cases ho:ops[i]? with
   | none=>simp only [ho] at h ⊢;exact ie hq l a w h
   | some o=>
     simp only [ho] at h ⊢;split
     · rename_i hw
       rw [if_pos hw] at h;rcases h with h|⟨h1,h2⟩
       · exact .inl (nL (fun a w h=>ie hq l a w h) (fun ch a w h=>hq _ _ _ h) ho' _ h)
       · exact .inr ⟨h1,ho' h2⟩
     · rename_i hw;rw [if_neg hw] at h;exact ie hq l _ w h

def Z4 (n:Nat)(Q:List Deferred→QT):Exit→Act→World→Prop:=fun e a w=>∃ds,ZK n ds (Q ds) e a w

theorem sF {o:α}(h:ops=l1++o::l2):List.range ops.length=List.range l1.length++l1.length::(List.range l2.length).map (l1.length+1+·):=by
 subst h;apply IA
 · simp
 · intro i h1 h2
   rw [HB];rcases JM i l1.length with h|h|h
   · rw [List.getElem_append_left Dh,HB]
   · subst h;rw [IS Js];simp
   · rw [IS (by simpa using Nat.le_of_lt h)];simp only [Ha];rw [List.getElem_cons];rw [dif_neg Jo,List.getElem_map,HB];omega
theorem sG {o:α}(g:α→β)(h:ops=l1++o::l2):((List.range l2.length).map (l1.length+1+·)).filterMap (fun i=>(ops[i]?).map g)=l2.map g:=by
 subst h;rw [List.filterMap_map]
 have:∀i,((fun i=>((l1++o::l2)[i]?).map g)∘(l1.length+1+·)) i=(l2[i]?).map g:=by
  intro i;simp only [Function.comp];rw [EV Jo];rw [show l1.length+1+i - l1.length=i+1 by omega,FV]
 rw [mm (fun i _=>this i)];have:=mq g l2 []
 simpa [Gr] using this
theorem sH {o:α}(g:α→β)(h:ops=l1++o::l2):(List.range l1.length).filterMap (fun i=>(ops[i]?).map g)=l1.map g:=by
 subst h
 have:∀i∈List.range l1.length,((l1++o::l2)[i]?).map g=(l1[i]?).map g:=by
  intro i hi;rw [ER DO]
 rw [mm this];have:=mq g l1 []
 simpa [Gr] using this

theorem yS {n:Nat}:∀(c:Code) (Q:List Deferred→QT) (ds:List Deferred) (ρ:Km) (a:Act) (w:World),N8 n ρ ds a→(OP P n c).wpD P Q ds ρ w→c.wp P (Z4 n Q) a w:=by
 have hpl:∀(c:Code) (Q:List Deferred→QT) (ds:List Deferred) (ρ:Km) (a:Act) (w:World),N8 n ρ ds a→(PG P n c).wp P (Q ds) ρ w→c.wp P (Z4 n Q) a w:=fun c Q ds ρ a w hr h=>
  wp_mono (mr c _ ρ a w hr h) fun e a w h=>⟨ds,h⟩
 intro c
 induction c with
 | seq x y ihx ihy=>
   intro Q ds ρ a w hr h;rw [OP] at h;split at h
   · refine wp_seq ?_
     refine wp_mono (ihx _ ds ρ a w hr h) ?_;rintro e a w ⟨ds',ρ',hr',h'⟩
     cases e with
     | normal=>exact ihy _ ds' ρ' a w hr' h'
     | _=>exact ⟨ds',ρ',hr',h'⟩
   · exact hpl _ Q ds ρ a w hr h
 | region id ops draw=>
   intro Q ds ρ a w hr h
   cases draw with
   | true=>exact hpl _ Q ds ρ a w hr h
   | false =>
     rw [OP] at h;split at h
     · rename_i l1 o s l2 hs
       obtain ⟨hops,hsp⟩:=nK hs;split at h
       · rename_i hall
         (have hok:∀i o,ops[i]?=some o→Pk n ops o=true:=fun i o hi=>FN.1 hall o D8;have hsz:ops.size=ops.toList.length:=(by simp);have hgm:∀(l:List Nat),(l.filterMap fun i=>(ops[i]?).map (OF P ops))=l.filterMap fun i=>(ops.toList[i]?).map (OF P ops):=fun l=>by simp);have hlen:ops.toList.length=l1.length+1+l2.length:=(by rw [hops];simp;omega);have hrange:∀(l:List Nat),(∀i∈l,i<ops.size)→∀i∈l,∃o,ops[i]?=some o∧Pk n ops o=true:=fun l hl i hi=>⟨ops[i]'(hl i hi),by simp [hl i hi],hok i _ (by simp [hl i hi])⟩;refine wp_region ?_;rw [hsz,sF hops];refine kM _ _ _ ?_
         cases s with
         | rcv d=>exact h.elim
         | dfr d x=>
           have h1:=j1 (Q:=Qh (fun ρ w=>∃f cap,ρ.ev x= .func (.func f) #[] cap∧Q0 P (l2.map (OF P ops)) (Q (⟨.fn (.func f) cap,#[]⟩::ds)) (KC ρ d undef) w) (Q ds)) (ds:=ds) (List.range l1.length) ρ a w hr
            (hrange _ fun i hi=>by rw [hsz,hlen];have:=Fz.1 hi;omega) (by rw [hgm,sH _ hops];exact h)
           refine ie ?_ _ _ _ h1;rintro e a w ⟨ρ',hr',h'⟩
           cases e with
           | normal=>
             obtain ⟨f,cap,hf,h'⟩:=h';have hoi:ops[l1.length]?=some o:=(by rw [←Gb,hops];simp);refine (?_:wpOps P ops _ (l1.length::_) a w);simp only [wpOps,hoi]
             have hg:o.guard=none∧∃ts,∃xs:Array Operand,o.op= .defer ⟨.value x,xs,ts⟩∧xs.size=0∧o.dst=d:=by
              unfold Se at hsp;split at hsp
              · rename_i x' xs' ts' hg ho
                split at hsp
                · rename_i hx0;simp only [E0,LSp.dfr.injEq] at hsp;obtain ⟨g1,g2⟩:=hsp;subst g2;exact ⟨hg,ts',xs',ho,hx0,g1⟩
                · cases hsp
              · split at hsp<;>cases hsp
              · cases hsp
             obtain ⟨hgd,ts,xs,hop,hxs,hd⟩:=hg;have hxs':xs=#[]:=IC hxs;subst hxs';rw [if_pos (by simp [Region.wanted,hgd])];refine .inl ?_;unfold Oper.wp
             have e1:(execOp a.eval o).run P w= .ok (.defer ⟨.fn (.func f) cap,#[]⟩) w:=by
              simp [execOp,hop,resolve,hr'.ev,hf,Deferred.ofValue]
             rw [e1,Oper.upon_defer,hd];have hdn:=eM (hok _ o hoi);rw [hd] at hdn
             have hr2:N8 n (KC ρ' d undef) (⟨.fn (.func f) cap,#[]⟩::ds) ({a with defers:=⟨.fn (.func f) cap,#[]⟩::a.defers}.put d undef):=by
              have hr3:N8 n ρ' (⟨.fn (.func f) cap,#[]⟩::ds) {a with defers:=⟨.fn (.func f) cap,#[]⟩::a.defers}:=⟨hr'.1,hr'.2.1,by simp [hr'.2.2]⟩;exact hr3.put d undef hdn
             have h2:=j1 (Q:=Q (⟨.fn (.func f) cap,#[]⟩::ds)) (ds:=⟨.fn (.func f) cap,#[]⟩::ds) _ _ _ w hr2
              (hrange ((List.range l2.length).map (l1.length+1+·)) fun i hi=>by rw [hsz,hlen];rw [Fc] at hi;obtain ⟨j,hj,rfl⟩:=hi;have:=Fz.1 hj;omega) (by rw [hgm,sG _ hops];exact h')
             exact ie (fun e a w h=>⟨_,h⟩) _ _ _ h2
           | _=>exact ⟨ds,ρ',hr',h'⟩
       · exact h.elim
     · exact hpl _ Q ds ρ a w hr h
 | _=>exact hpl _

def WX (P:Program)(rs:List ResultVar)(ρ:Km)(R:Ending→World→Prop):List Deferred→FrameMode→World→Prop
 | [], .returning,w=>Qz P w ρ rs [] fun v=>R (.returned v) w
 | [], .panicking chain,w=>R (.panicked chain) w
 | [], .run,_=>False
 | d ::ds,u,w=>u≠ .run∧∃f cap,d=⟨.fn (.func f) cap,#[]⟩∧PF P f=true∧CallsD P f cap u w fun
     | .returned _,u',w'=>WX P rs ρ R ds (settle u') w'
     | .panicked chain,u',w'=>WX P rs ρ R ds (raised u' chain) w'
     | .outgrown,_,w'=>R .outgrown w'
def X7 (P:Program)(rs:List ResultVar)(R:Ending→World→Prop)(ds:List Deferred):QT
 | .normal,ρ,w| .ret,ρ,w=>WX P rs ρ R ds .returning w
 | .panic chain,ρ,w=>WX P rs ρ R ds (.panicking chain) w
 | .outgrown,_,w=>R .outgrown w
 | _,_,_=>False

theorem kx {P:Program}{fn:Func}{tmps:Array Value}{ρ:Km}{R:Ending→World→Prop}(ht:∀i,tmps.getD i undef=ρ i):∀(ds:List Deferred) (u:FrameMode) (w:World),
 WX P fn.results.toList ρ R ds u w→Leaves P fn tmps R ds u w
 | [], .returning,w,h=>by obtain ⟨v,h1,h2⟩:=gj ht h;exact ⟨v,h1,h2⟩
 | [], .panicking _,w,h=>h
 | [], .run,w,h=>h.elim
 | d ::ds,u,w,h=>by
   obtain ⟨hu,f,cap,rfl,hf,hc⟩:=h;unfold PF at hf;rw [HA] at hf;obtain ⟨fn',h1,h2⟩:=hf;rw [EW,Ge] at h2;refine leaves_cons hu (f:=f) (args:=cap) ?_ ?_
   · simp only [invoke];rw [rh _ h1 h2.1 h2.2];simp
   · refine hc.mono ?_
     intro e u' w' h
     cases e with
     | returned v=>exact kx ht ds _ _ h
     | panicked ch=>exact kx ht ds _ _ h
     | outgrown=>exact h

theorem yT {f:FuncId}{ld:LD}
 (hf:P.funcs[f]?=some fn)(hl:fm P fn=some ld)(hrs:fn.results.toList=rs)(hn:Nat.ble args.length fn.ntmps=true)
 (h:ld.wpD P (X7 P rs R) [] (Xl args) w):Calls P f ⟨args⟩ w R:=by
 unfold fm at hl
 cases hb:fn.body with
 | none=>simp [hb] at hl
 | some c=>
   simp only [hb,FP,E0] at hl;subst hl hrs;refine calls_of_wp_defers hf hb ?_;have hn':args.length≤fn.ntmps:=Fx hn;refine wp_mono (yS c _ [] _ _ _ (mu ⟨args⟩ fn.ntmps hn' []) h) ?_;rintro e a w ⟨ds,ρ,hr,h⟩;have hd:=hr.2.2
   cases e with
   | normal=>exact Ck
   | ret=>exact Ck
   | panic ch=>exact (hd ▸ kx hr.2.1 ds _ _ h:Leaves P fn a.tmps R a.defers (.panicking ch) w)
   | outgrown=>exact h
   | exit=>exact h
   | goto=>exact h


def My:FrameMode→Value×FrameMode
 | .panicking ({v:=v,recovered:=false,goexit:=false}::older)=>(v, .panicking ({v:=v,recovered:=true}::older))
 | u=>(.nilIface,u)

def LD.wpR (P:Program):LD→(FrameMode→QT)→FrameMode→Km→World→Prop
 | .pl c,Q,u,ρ,w=>c.wp P (Q u) ρ w
 | .seq a b,Q,u,ρ,w=>a.wpR P (fun u'=>Qh (b.wpR P Q u') (Q u')) u ρ w
 | .sp l1 (.rcv d) l2,Q,u,ρ,w=>Q0 P l1 (Qh (fun ρ w=>Q0 P l2 (Q (My u).2) (KC ρ d (My u).1) w) (Q u)) ρ w
 | _,_,_,_,_=>False

def RI (n:Nat)(c₀:Frame)(cs:List Frame)(Q:FrameMode→QT):Exit→Act→List Frame→World→Prop:=
 fun e a cs' w=>∃u,cs'={c₀ with mode:=u}::cs∧ZK n [] (Q u) e a w

theorem yU (c₀:Frame)(cs:List Frame)(u:FrameMode):(match recoverD ({c₀ with mode:=u}::cs) with
 | some (v,cs')=>(v,cs')
 | none=>(.nilIface,{c₀ with mode:=u}::cs))=((My u).1,{c₀ with mode:=(My u).2}::cs):=by
 unfold recoverD My;dsimp only;split<;>rename_i h
 · split at h
   · rename_i hm;simp only [E0,GJ] at h;obtain ⟨rfl,rfl⟩:=h;rfl
   · cases h
 · split at h
   · cases h
   · rename_i hm
     split
     · rename_i hm';exact absurd rfl (hm _ _)
     · rfl

theorem sI {n:Nat}{ops:Array Oper}{Q:QT}{QS:Exit→Act→List Frame→World→Prop}{cs:List Frame}{rest:List Nat}(hn:∀a w,ZK n [] Q .normal a w→wpOpsS P ops QS rest a cs w)(hq:∀e a w,e≠ .normal→ZK n [] Q e a w→QS e a cs w):∀(l:List Nat) (ρ:Km) (a:Act) (w:World),N8 n ρ [] a→
 (∀i∈l,∃o,ops[i]?=some o∧Pk n ops o=true)→
 Q0 P (l.filterMap fun i=>(ops[i]?).map (OF P ops)) Q ρ w→wpOpsS P ops QS (l++rest) a cs w:=by
 intro l
 induction l with
 | nil=>intro ρ a w hr _ h;exact hn a w ⟨ρ,hr,h⟩
 | cons i l ih=>
   intro ρ a w hr hok h;obtain ⟨o,ho,hg⟩:=hok i Js;have hok':∀i∈l,∃o,ops[i]?=some o∧Pk n ops o=true:=fun i hi=>hok i (by simp [hi]);simp only [Hr,ho,FP] at h;have h':=rp hr hg _ Q w h;simp only [Gz,wpOpsS,ho];split
   · rename_i hw
     rw [if_pos hw] at h';have h1:=ra (ds:=[]) hr (eM hg) (rm h');have h2:=nL (Q':=fun e a' w'=>QS e a' cs w') (K':=fun a' w'=>wpOpsS P ops QS (l++rest) a' cs w') (fun a w ⟨ρ,hr,h⟩=>ih ρ a w hr hok' h) (fun ch a w h=>hq _ a w Js h) (fun ⟨a,w,h⟩=>⟨a,w,hq _ a w Js h⟩) _ h1;split
     · rename_i w' hrun;rw [hrun] at h2;exact h2.elim
     · rename_i r hrun;exact h2
   · rename_i hw;rw [if_neg hw] at h';exact ih _ _ w (hr.put _ _ (eM hg)) hok' h'

theorem yV {n:Nat}{c₀:Frame}{cs:List Frame}:∀(c:Code) (Q:FrameMode→QT) (u:FrameMode) (ρ:Km) (a:Act) (w:World),N8 n ρ [] a→(OP P n c).wpR P Q u ρ w→c.wpS P (RI n c₀ cs Q) a ({c₀ with mode:=u}::cs) w:=by
 have hpl:∀(c:Code) (Q:FrameMode→QT) (u:FrameMode) (ρ:Km) (a:Act) (w:World),N8 n ρ [] a→(PG P n c).wp P (Q u) ρ w→c.wpS P (RI n c₀ cs Q) a ({c₀ with mode:=u}::cs) w:=fun c Q u ρ a w hr h=>
  wpS_of_wp (wp_mono (mr c _ ρ a w hr h) fun e a w h=>⟨u,rfl,h⟩)
 intro c
 induction c with
 | seq x y ihx ihy=>
   intro Q u ρ a w hr h;rw [OP] at h;split at h
   · refine wpS_seq ?_
     intro b k hb hro;obtain ⟨e,a',cs',w',⟨u',rfl,ρ',hr',h'⟩,harr⟩:=ihx _ u ρ a w hr h b k hb hro;refine ⟨e,a',_,w',?_,harr⟩
     cases e with
     | normal=>exact ihy _ u' ρ' a' w' hr' h'
     | _=>exact ⟨u',rfl,ρ',hr',h'⟩
   · exact hpl _ Q u ρ a w hr h
 | region id ops draw=>
   intro Q u ρ a w hr h
   cases draw with
   | true=>exact hpl _ Q u ρ a w hr h
   | false =>
     rw [OP] at h;split at h
     · rename_i l1 o s l2 hs
       obtain ⟨hops,hsp⟩:=nK hs;split at h
       · rename_i hall
         (have hok:∀i o,ops[i]?=some o→Pk n ops o=true:=fun i o hi=>FN.1 hall o D8;have hsz:ops.size=ops.toList.length:=(by simp);have hgm:∀(l:List Nat),(l.filterMap fun i=>(ops[i]?).map (OF P ops))=l.filterMap fun i=>(ops.toList[i]?).map (OF P ops):=fun l=>by simp);have hlen:ops.toList.length=l1.length+1+l2.length:=(by rw [hops];simp;omega);have hrange:∀(l:List Nat),(∀i∈l,i<ops.size)→∀i∈l,∃o,ops[i]?=some o∧Pk n ops o=true:=fun l hl i hi=>⟨ops[i]'(hl i hi),by simp [hl i hi],hok i _ (by simp [hl i hi])⟩;refine wpS_region ?_;rw [hsz,sF hops]
         cases s with
         | dfr d x=>exact h.elim
         | rcv d=>
           refine sI (Q:=Qh (fun ρ w=>Q0 P (l2.map (OF P ops)) (Q (My u).2) (KC ρ d (My u).1) w) (Q u)) ?_ ?_ (List.range l1.length) ρ a w hr
            (hrange _ fun i hi=>by rw [hsz,hlen];have:=Fz.1 hi;omega) (by rw [hgm,sH _ hops];exact h)
           · rintro a w ⟨ρ',hr',h'⟩
             have hoi:ops[l1.length]?=some o:=by rw [←Gb,hops];simp
             have hg:o.guard=none∧∃ts,∃xs:Array Operand,o.op= .call ⟨.builtin .recover,xs,ts⟩∧xs.size=0∧o.dst=d:=by
              unfold Se at hsp;split at hsp
              · split at hsp<;>cases hsp
              · rename_i xs' ts' hg ho
                split at hsp
                · rename_i hx0;simp only [E0,LSp.rcv.injEq] at hsp;exact ⟨hg,ts',xs',ho,hx0,hsp⟩
                · cases hsp
              · cases hsp
             obtain ⟨hgd,ts,xs,hop,hxs,hd⟩:=hg;have hxs':xs=#[]:=IC hxs;subst hxs';refine (?_:wpOpsS P ops _ (l1.length::_) a _ w);simp only [wpOpsS,hoi];rw [if_pos (by simp [Region.wanted,hgd])]
             have e1:(execOp a.eval o).run P w= .ok .recover w:=by
              simp [execOp,hop,resolve,invoke,builtin]
             rw [e1];have hdn:=eM (hok _ o hoi);rw [hd] at hdn;have hr2:N8 n (KC ρ' d (My u).1) [] (a.put d (My u).1):=hr'.put d _ hdn;have hrec:=yU c₀ cs u
             have key:wpOpsS P ops (RI n c₀ cs Q) ((List.range l2.length).map (l1.length+1+·)) (a.put o.dst (My u).1) ({c₀ with mode:=(My u).2}::cs) w:=by
              rw [hd]
              have h2:=sI (Q:=Q (My u).2) (QS:=RI n c₀ cs Q) (cs:={c₀ with mode:=(My u).2}::cs) (rest:=[]) (fun a w h=>⟨_,rfl,h⟩) (fun e a w _ h=>⟨_,rfl,h⟩) ((List.range l2.length).map (l1.length+1+·)) _ _ w hr2
               (hrange _ fun i hi=>by rw [hsz,hlen];rw [Fc] at hi;obtain ⟨j,hj,rfl⟩:=hi;have:=Fz.1 hj;omega) (by rw [hgm,sG _ hops];exact h')
              rwa [FA] at h2
             dsimp only;split
             · rename_i v cs' hrd;rw [hrd] at hrec;simp only [GJ] at hrec;rw [hrec.1,hrec.2];exact key
             · rename_i hrd;rw [hrd] at hrec;simp only [GJ] at hrec;have e3:({c₀ with mode:=u}::cs:List Frame)={c₀ with mode:=(My u).2}::cs:=hrec.2;rw [hrec.1,e3];exact key
           · rintro e a w he ⟨ρ',hr',h'⟩;refine ⟨u,rfl,ρ',hr',?_⟩;cases e<;>first|exact h'|exact absurd rfl he
       · exact h.elim
     · exact hpl _ Q u ρ a w hr h
 | _=>exact hpl _

def bY (P:Program)(rs:List ResultVar)(R:Ending→FrameMode→World→Prop)(u:FrameMode):QT
 | .normal,ρ,w| .ret,ρ,w=>Qz P w ρ rs [] fun v=>R (.returned v) u w
 | .panic chain,_,w=>R (.panicked chain) u w
 | .outgrown,_,w=>R .outgrown u w
 | _,_,_=>False

theorem yW {f:FuncId}{u:FrameMode}{R:Ending→FrameMode→World→Prop}{ld:LD}
 (hf:P.funcs[f]?=some fn)(hl:fm P fn=some ld)(hrs:fn.results.toList=rs)(hn:Nat.ble args.length fn.ntmps=true)
 (h:ld.wpR P (bY P rs R) u (Xl args) w):CallsD P f ⟨args⟩ u w R:=by
 unfold fm at hl
 cases hb:fn.body with
 | none=>simp [hb] at hl
 | some c=>
   simp only [hb,FP,E0] at hl;subst hl hrs;refine callsD_of_wpS hf hb ?_;intro c₀ cs hu;have hn':args.length≤fn.ntmps:=Fx hn;have h1:=yV (c₀:=c₀) (cs:=cs) c _ u _ _ w (mu ⟨args⟩ fn.ntmps hn' []) h;have hc:({c₀ with mode:=u}:Frame)=c₀:=(by subst hu;rfl);rw [hc] at h1;intro b k hb hro;obtain ⟨e,a,cs',w',⟨u',rfl,ρ,hr,h2⟩,harr⟩:=h1 b k hb hro;refine ⟨e,a,_,w',?_,harr⟩
   cases e with
   | normal=>obtain ⟨v,h3,h4⟩:=gj hr.2.1 h2;exact ⟨hr.2.2,u',rfl,v,h3,h4⟩
   | ret=>obtain ⟨v,h3,h4⟩:=gj hr.2.1 h2;exact ⟨hr.2.2,u',rfl,v,h3,h4⟩
   | panic ch=>exact ⟨hr.2.2,u',rfl,h2⟩
   | outgrown=>exact ⟨u',h2⟩
   | exit=>exact h2
   | goto=>exact h2

section
variable {P:Program}{ρ:Km}{w:World}{u:FrameMode}{ds:List Deferred}
theorem ig {c:LC}{h:c.wp P (Q ds) ρ w}:(LD.pl c).wpD P Q ds ρ w:=h
theorem Z5 {a b:LD}{h:a.wpD P (fun ds'=>Qh (b.wpD P Q ds') (Q ds')) ds ρ w}:(LD.seq a b).wpD P Q ds ρ w:=h
theorem nM {l1 l2:List GO}{d:Option Nat}{x:Operand}{h:Q0 P l1 (Qh (fun ρ w=>∃f cap,ρ.ev x= .func (.func f) #[] cap∧Q0 P l2 (Q (⟨.fn (.func f) cap,#[]⟩::ds)) (KC ρ d undef) w) (Q ds)) ρ w}:(LD.sp l1 (.dfr d x) l2).wpD P Q ds ρ w:=h
theorem ij {c:LC}{Q:FrameMode→QT}{h:c.wp P (Q u) ρ w}:(LD.pl c).wpR P Q u ρ w:=h
theorem Z6 {a b:LD}{Q:FrameMode→QT}{h:a.wpR P (fun u'=>Qh (b.wpR P Q u') (Q u')) u ρ w}:(LD.seq a b).wpR P Q u ρ w:=h
theorem ik {l1 l2:List GO}{d:Option Nat}{Q:FrameMode→QT}{h:Q0 P l1 (Qh (fun ρ w=>Q0 P l2 (Q (My u).2) (KC ρ d (My u).1) w) (Q u)) ρ w}:(LD.sp l1 (.rcv d) l2).wpR P Q u ρ w:=h
def Ua (P:Program)(f:FuncId)(args:List Value)(u:FrameMode)(w:World)(S:FrameMode→World→Prop):Prop:=
 CallsD P f ⟨args⟩ u w fun e u' w'=>(∃v,e= .returned v)∧S u' w'
theorem sJ {f:FuncId}{S:FrameMode→World→Prop}(hu:u≠ .run)(hf:PF P f=true)(hc:Ua P f cap u w S)
 (h:∀u' w',S u' w'→WX P rs ρ R [] (settle u') w'):WX P rs ρ R [⟨.fn (.func f) ⟨cap⟩,#[]⟩] u w:=by
 refine ⟨hu,f,⟨cap⟩,rfl,hf,hc.mono ?_⟩;rintro e u' w' ⟨⟨v,rfl⟩,hs⟩;exact h u' w' hs
theorem bZ {h:WX P rs ρ R ds .returning w}:X7 P rs R ds .ret ρ w:=h
theorem ca {h:WX P rs ρ R ds (.panicking ch) w}:X7 P rs R ds (.panic ch) ρ w:=h
theorem sK {h:Kq P rs R .ret ρ w}:WX P rs ρ R [] .returning w:=h
theorem Ub {R:Ending→FrameMode→World→Prop}{h:Kq P rs (fun e w=>R e u w) .normal ρ w}:bY P rs R u .normal ρ w:=h
end
end
section
section
variable {P:Program}{l:List GO}{Q:QT}{ρ:Km}{w:World}{f:FuncId}{S T:Value→World→Prop}

theorem Uc {d:Nat}(h0:ρ.ev x0=u0)(h1:ρ.ev x1=u1)(hc:KD P f [u0,u1] w S T)(hp:∀v w',T v w'→Q (.panic [{v:=v,recovered:=false}]) ρ w')(h:∀v w',S v w'→Q0 P l Q (upd ρ d v) w'):Q0 P (⟨none, .call (some d) f [x0,x1]⟩::l) Q ρ w:=by
 subst h0 h1;exact nJ Jr hc hp h
theorem Ud {d:Nat}(h0:ρ.ev x0=u0)(h1:ρ.ev x1=u1)(h2:ρ.ev x2=u2)(hc:KD P f [u0,u1,u2] w S T)(hp:∀v w',T v w'→Q (.panic [{v:=v,recovered:=false}]) ρ w')(h:∀v w',S v w'→Q0 P l Q (upd ρ d v) w'):Q0 P (⟨none, .call (some d) f [x0,x1,x2]⟩::l) Q ρ w:=by
 subst h0 h1 h2;exact nJ Jr hc hp h
theorem Ue {d:Nat}(h0:ρ.ev x0=u0)(h1:ρ.ev x1=u1)(h2:ρ.ev x2=u2)(h3:ρ.ev x3=u3)(hc:KD P f [u0,u1,u2,u3] w S T)(hp:∀v w',T v w'→Q (.panic [{v:=v,recovered:=false}]) ρ w')(h:∀v w',S v w'→Q0 P l Q (upd ρ d v) w'):Q0 P (⟨none, .call (some d) f [x0,x1,x2,x3]⟩::l) Q ρ w:=by
 subst h0 h1 h2 h3;exact nJ Jr hc hp h
theorem sL {b o T:Nat}{T':TypeId}(hs:Xg P T=true)(hb:Lg w.heap b T' cs)(hv:cs[o]?=some v):Xm P w ⟨b,o,none⟩ T v:= .inl ⟨hs,hb.cell hv⟩
theorem yX (k:Nat){Ty:TypeId}(ht:P.underlying Ty=some (.interface ms)):(Op.equalIn (k+1) Ty .nilIface .nilIface).run P w0= .ok true w0:=by
 simp only [Op.equalIn,Fo,Q9 P Ty _ w0 ht,EZ];simp [FC]
theorem yY {Ty:TypeId}(ht:P.underlying Ty=some (.interface ms)):(Op.equal Ty .nilIface .nilIface).run P w0= .ok true w0:=yX 9999 ht
theorem yZ (k:Nat){Ty:TypeId}(ht:P.underlying Ty=some (.interface ms)):(Op.equalIn (k+1) Ty (.iface U v) .nilIface).run P w0= .ok false w0:=by
 simp only [Op.equalIn,Fo,Q9 P Ty _ w0 ht,EZ];simp [FC]
theorem y5 {Ty:TypeId}(ht:P.underlying Ty=some (.interface ms)):(Op.equal Ty (.iface U v) .nilIface).run P w0= .ok false w0:=yZ 9999 ht
theorem Uf {d:Nat}{Ty:TypeId}{x:Operand}(ht:P.underlying Ty=some (.interface ms))(hx:ρ.ev x= .nilIface)(h:Q0 P l Q (upd ρ d (.bool false)) w):Q0 P (⟨none, .bin d .neq Ty x (.const .nilIface)⟩::l) Q ρ w:=
 ⟨_,fun w0=>by rw [hx];simp [Km.ev,eqGuard,binOp,yY ht],h⟩
theorem Ug {d:Nat}{Ty:TypeId}{x:Operand}(ht:P.underlying Ty=some (.interface ms))(hx:ρ.ev x= .iface U v)(h:Q0 P l Q (upd ρ d (.bool true)) w):Q0 P (⟨none, .bin d .neq Ty x (.const .nilIface)⟩::l) Q ρ w:=
 ⟨_,fun w0=>by rw [hx];simp [Km.ev,eqGuard,binOp,y5 ht],h⟩
theorem St.pick3 {c:Cx}{L1 L2 L3:List Res}{r1 r2 r3:Res}(h:St c w L)(p1:Pick L r1 L1)(p2:Pick L1 r2 L2)(p3:Pick L2 r3 L3):St c w (r1::r2::r3::L3):=
 h.perm (p1.perm.trans (List.Perm.cons _ (p2.perm.trans (List.Perm.cons _ p3.perm))))
end
end
section
structure Bx (K:Prop):Prop where
 o:K
section
variable {K G:Prop}
theorem zn {k:K}(h:Bx K→G:=by
 intro K9;refine S3 ?_;(repeat (first|refine eR ?_|refine' kh));exact K9.o):G:=h ⟨k⟩
theorem nN {k:K}(h:Bx K→G:=by
 intro K9;refine' bw;(repeat (first|refine eR ?_|refine' kh));exact K9.o):G:=h ⟨k⟩
theorem J5 {k:K}(h:Bx K→G:=by
 intro K9;refine' ba;(repeat (first|refine eR ?_|refine' kh));exact K9.o):G:=h ⟨k⟩
theorem K2 {k:K}(h:Bx K→G:=by
 intro K9;refine' bd;(repeat (first|refine' Xp|refine' Xq|refine Xr rfl ?_|refine eR ?_|refine' kh));exact K9.o):G:=h ⟨k⟩
theorem zr {k:K}(h:Bx K→G:=by
 intro K9;refine' gq;(repeat (first|refine' bj|refine' bl));exact K9.o):G:=h ⟨k⟩
theorem zy {A:Prop}{k:G}(h:A:=by
 repeat (first
  | exact fun _ h=>(EY h).elim
  | refine EO.2 ⟨by first|exact kv hS rfl (Gh (by repeat constructor)) rfl|exact mV hS rfl (Gh (by repeat constructor)) rfl rfl|exact ky hS Ja rfl rfl|exact nh hS Ja rfl rfl rfl|exact gN hS Ja rfl rfl|exact mW hS Ja rfl rfl rfl|exact XN rfl rfl|exact eV rfl (kv hS rfl (Gh (by repeat constructor)) rfl)|exact eV rfl (mV hS rfl (Gh (by repeat constructor)) rfl rfl)|exact eV rfl (ky hS Ja rfl rfl)|exact eV rfl (nh hS Ja rfl rfl rfl)|exact eV rfl (gN hS Ja rfl rfl)|exact eV rfl (mW hS Ja rfl rfl rfl),?_⟩)):A∧G:=⟨h,k⟩
end
section
variable {P:Program}{l:List GO}{Q:QT}{ρ:Km}{w:World}{c:Cx}{L:List Res}{i:Nat}{T es:Nat}{v:Value}{css:List (List Value)}
theorem zt {K:KT}{h:K ρ w}:Q0 P [] (Qh K Q) ρ w:=S3 (eR h)
theorem St.ns (h:St c w L)(e:L=L':=by (conv=>lhs;simp only [E8,Fg]);first|done|exact rfl):St c w L':=e ▸ h
theorem J1 {b:Bool}{o:LO}{v:Value}{h:Q0 P l Q (KC ρ o.dst undef) w}(hg:ρ s=v:=by exact rfl)(hw:WN v b=false:=by exact rfl):Q0 P (⟨some (s,b),o⟩::l) Q ρ w:=mC hg hw h
theorem J4 {b:Bool}{o:LO}{h:Q0 P (⟨none,o⟩::l) Q ρ w}(hg:ρ s= .bool b:=by exact rfl):Q0 P (⟨some (s,b),o⟩::l) Q ρ w:=mB hg h
theorem JZ {c:Operand}{a b:LC}{h:a.wp P Q ρ w}(hc:ρ.ev c= .bool true:=by exact rfl):(LC.cond c a b).wp P Q ρ w:=S4 hc h
theorem J0 {c:Operand}{a b:LC}{h:b.wp P Q ρ w}(hc:ρ.ev c= .bool false:=by exact rfl):(LC.cond c a b).wp P Q ρ w:=S5 hc h
theorem L7 {d:Nat}{x:Operand}{b:Nat}{h:Q0 P l Q (upd ρ d (.pointer (some ⟨b,off,none⟩))) w}(hx:ρ.ev x= .pointer (some ⟨b,0,none⟩):=by exact rfl):Q0 P (⟨none, .fld d x off⟩::l) Q ρ w:=bB hx h
theorem sM {d:Nat}{x:Operand}{b o:Nat}{h:Q0 P l Q (upd ρ d (.pointer (some ⟨b,o+off,none⟩))) w}(hx:ρ.ev x= .pointer (some ⟨b,o,none⟩):=by exact rfl):Q0 P (⟨none, .fld d x off⟩::l) Q ρ w:=ZO hx h
theorem Pq {d:Nat}{x:Operand}{a:Addr}{h:Q0 P l Q (upd ρ d (.pointer (some a))) w}(hx:ρ.ev x= .pointer (some a):=by exact rfl):Q0 P (⟨none, .nilc d x⟩::l) Q ρ w:=bm hx h
theorem PK {d:Nat}{x:Operand}{b:Bool}{h:Q0 P l Q (upd ρ d (.bool (!b))) w}(hx:ρ.ev x= .bool b:=by exact rfl):Q0 P (⟨none, .un d .not x⟩::l) Q ρ w:=gu hx h
theorem Uh {d:Nat}{x:Operand}{i:Nat}{vs:List Value}{v:Value}{h:Q0 P l Q (upd ρ d v) w}(hx:ρ.ev x= .tuple ⟨vs⟩:=by exact rfl)(hv:vs[i]?=some v:=by exact rfl):Q0 P (⟨none, .ext d x i⟩::l) Q ρ w:=gv hx hv h
theorem zm {d:Nat}{x:Operand}{v:Value}{h:Q0 P l Q (upd ρ d v) w}(hx:ρ.ev x=v:=by (conv=>lhs;whnf);first|done|exact rfl):Q0 P (⟨none, .mov d x⟩::l) Q ρ w:=gr hx h
theorem Pr {d:Nat}{c x y:Operand}{v:Value}{h:Q0 P l Q (upd ρ d v) w}(hc:ρ.ev c= .bool true:=by exact rfl)(hx:ρ.ev x=v:=by (conv=>lhs;whnf);first|done|exact rfl):Q0 P (⟨none, .pick d c x y⟩::l) Q ρ w:=rH hc hx h
theorem sN {d:Nat}{c x y:Operand}{v:Value}{h:Q0 P l Q (upd ρ d v) w}(hc:ρ.ev c= .bool false:=by exact rfl)(hx:ρ.ev y=v:=by (conv=>lhs;whnf);first|done|exact rfl):Q0 P (⟨none, .pick d c x y⟩::l) Q ρ w:=rI hc hx h
theorem y6 {d:Nat}{T:TypeId}{x:Operand}{v:Value}{h:Q0 P l Q (upd ρ d (.iface T v)) w}(hx:ρ.ev x=v:=by (conv=>lhs;whnf);first|done|exact rfl):Q0 P (⟨none, .mki d T x⟩::l) Q ρ w:=gz hx h
theorem zl {d:Nat}{x:Operand}{b o:Nat}{u:Value}(hS:St c w L)(h:Q0 P l Q (upd ρ d u) w)(hx:ρ.ev x= .pointer (some ⟨b,o,none⟩):=by exact rfl)(hi:nth L i=some (blk b T cs):=by exact Gh (by repeat constructor))(hu:cs[o]?=some u:=by exact rfl):Q0 P (⟨none, .load1 d x⟩::l) Q ρ w:=eW hS hx hi hu h
theorem Sf {d:Nat}{x:Operand}{b o:Nat}{u:Value}(hS:St c w L)(h:Q0 P l Q (upd ρ d u) w)(ha:Ox c b o cs:=by assumption)(hx:ρ.ev x= .pointer (some ⟨b,o,none⟩):=by exact rfl)(hu:cs[0]?=some u:=by exact rfl):Q0 P (⟨none, .load1 d x⟩::l) Q ρ w:=XP hS ha hx hu h
theorem cg {d:Nat}{x:Operand}{b o:Nat}{u:Value}(hS:St c w L)(h:Q0 P l Q (upd ρ d u) w)(ha:Ox c b o cs:=by assumption)(hx:ρ.ev x= .pointer (some ⟨b,o+j,none⟩):=by exact rfl)(hu:cs[j]?=some u:=by exact rfl):Q0 P (⟨none, .load1 d x⟩::l) Q ρ w:=TA hS ha hx hu h
theorem zv {d n:Nat}{x:Operand}{b o:Nat}(hS:St c w L)(h:Q0 P l Q (upd ρ d (.agg ⟨us⟩)) w)(hx:ρ.ev x= .pointer (some ⟨b,o,none⟩):=by exact rfl)(hi:nth L i=some (blk b T cs):=by exact Gh (by repeat constructor))(hu:(cs.drop o).take n=us:=by exact rfl)(hl:us.length=n:=by exact rfl):Q0 P (⟨none, .loadn d n x⟩::l) Q ρ w:=rX hS hx hi hu hl h
theorem y7 {d n:Nat}{x:Operand}{b o:Nat}(hS:St c w L)(h:Q0 P l Q (upd ρ d (.agg ⟨cs⟩)) w)(ha:Ox c b o cs:=by assumption)(hx:ρ.ev x= .pointer (some ⟨b,o,none⟩):=by exact rfl)(hl:cs.length=n:=by exact rfl):Q0 P (⟨none, .loadn d n x⟩::l) Q ρ w:=TD hS ha hx hl h
theorem il {d n:Nat}{x:Operand}{b o:Nat}{xs:List Int}(hS:St c w L)(h:Q0 P l Q (upd ρ d (.int .i64 (xs.getD m 0))) w)(he:Nn v n 1 m b o:=by assumption)(hx:ρ.ev x= .pointer (some ⟨b,o,none⟩):=by exact rfl)(hi:nth L i=some (sl T 1 v (xs.map KQ)):=by exact Gh (by repeat constructor))(hn:(xs.map KQ).length=n:=by exact rfl)(hm:m<xs.length:=by first|omega|(simp;omega)):Q0 P (⟨none, .load1 d x⟩::l) Q ρ w:=XR hS he hx hi hn hm h
theorem im {d n:Nat}{x:Operand}{b o:Nat}(hS:St c w L)(h:Q0 P l Q (upd ρ d (.bool (xs.getD m false))) w)(he:Nn v n 1 m b o:=by assumption)(hx:ρ.ev x= .pointer (some ⟨b,o,none⟩):=by exact rfl)(hi:nth L i=some (sl T 1 v (xs.map QG)):=by exact Gh (by repeat constructor))(hn:(xs.map QG).length=n:=by exact rfl)(hm:m<xs.length:=by first|omega|(simp;omega)):Q0 P (⟨none, .load1 d x⟩::l) Q ρ w:=TG hS he hx hi hn hm h
theorem sO {d n:Nat}{x:Operand}(hS:St c w L)(h:Q0 P l Q (upd ρ d (.int .i64 n)) w)(hx:ρ.ev x=v:=by (conv=>lhs;whnf);first|done|exact rfl)(hi:nth L i=some (sl T es v css):=by exact Gh (by repeat constructor))(hn:css.length=n:=by first|exact EK _|rfl):Q0 P (⟨none, .len d x⟩::l) Q ρ w:=QO hS hx hi hn h
theorem Nq {d:Nat}{T:TypeId}{x y:Operand}{b:Int}{h:Q0 P l Q (upd ρ d (.int .i64 (a+b))) w}(hx:ρ.ev x= .int .i64 a:=by exact rfl)(hy:ρ.ev y= .int .i64 b:=by exact rfl)(h1: -9223372036854775808≤a+b:=by omega)(h2:a+b≤9223372036854775807:=by omega):Q0 P (⟨none, .bin d .add T x y⟩::l) Q ρ w:=gA hx hy h1 h2 h
theorem PL {d:Nat}{T:TypeId}{x y:Operand}{b:Int}{h:Q0 P l Q (upd ρ d (.int .i64 (a - b))) w}(hx:ρ.ev x= .int .i64 a:=by exact rfl)(hy:ρ.ev y= .int .i64 b:=by exact rfl)(h1: -9223372036854775808≤a - b:=by omega)(h2:a - b≤9223372036854775807:=by omega):Q0 P (⟨none, .bin d .sub T x y⟩::l) Q ρ w:=br hx hy h1 h2 h
theorem RJ {d:Nat}{T:TypeId}{x y:Operand}{b:Int}{h:Q0 P l Q (upd ρ d (.int .i64 (a*b))) w}(hx:ρ.ev x= .int .i64 a:=by exact rfl)(hy:ρ.ev y= .int .i64 b:=by exact rfl)(h1: -9223372036854775808≤a*b:=by omega)(h2:a*b≤9223372036854775807:=by omega):Q0 P (⟨none, .bin d .mul T x y⟩::l) Q ρ w:=gB hx hy h1 h2 h
theorem K0 {d:Nat}{T:TypeId}{x y:Operand}{k:IntKind}{b:Int}{h:Q0 P l Q (upd ρ d (.bool true)) w}(hx:ρ.ev x= .int k a:=by exact rfl)(hy:ρ.ev y= .int k b:=by exact rfl)(hp:a<b:=by omega):Q0 P (⟨none, .bin d .lss T x y⟩::l) Q ρ w:=Xz hx hy hp h
theorem K1 {d:Nat}{T:TypeId}{x y:Operand}{k:IntKind}{b:Int}{h:Q0 P l Q (upd ρ d (.bool false)) w}(hx:ρ.ev x= .int k a:=by exact rfl)(hy:ρ.ev y= .int k b:=by exact rfl)(hp:¬(a<b):=by omega):Q0 P (⟨none, .bin d .lss T x y⟩::l) Q ρ w:=XA hx hy hp h
theorem Ql {d:Nat}{T:TypeId}{x y:Operand}{k:IntKind}{b:Int}{h:Q0 P l Q (upd ρ d (.bool true)) w}(hx:ρ.ev x= .int k a:=by exact rfl)(hy:ρ.ev y= .int k b:=by exact rfl)(hp:a=b:=by omega):Q0 P (⟨none, .bin d .eql T x y⟩::l) Q ρ w:=rK hx hy hp h
theorem Qn {d:Nat}{T:TypeId}{x y:Operand}{k:IntKind}{b:Int}{h:Q0 P l Q (upd ρ d (.bool false)) w}(hx:ρ.ev x= .int k a:=by exact rfl)(hy:ρ.ev y= .int k b:=by exact rfl)(hp:¬(a=b):=by omega):Q0 P (⟨none, .bin d .eql T x y⟩::l) Q ρ w:=rM hx hy hp h
theorem Qy {d:Nat}{T:TypeId}{x y:Operand}{k:IntKind}{b:Int}{h:Q0 P l Q (upd ρ d (.bool true)) w}(hx:ρ.ev x= .int k a:=by exact rfl)(hy:ρ.ev y= .int k b:=by exact rfl)(hp:a≠b:=by omega):Q0 P (⟨none, .bin d .neq T x y⟩::l) Q ρ w:=Xx hx hy hp h
theorem QD {d:Nat}{T:TypeId}{x y:Operand}{k:IntKind}{b:Int}{h:Q0 P l Q (upd ρ d (.bool false)) w}(hx:ρ.ev x= .int k a:=by exact rfl)(hy:ρ.ev y= .int k b:=by exact rfl)(hp:¬(a≠b):=by omega):Q0 P (⟨none, .bin d .neq T x y⟩::l) Q ρ w:=Xy hx hy hp h
theorem QV {d:Nat}{T:TypeId}{x y:Operand}{k:IntKind}{b:Int}{h:Q0 P l Q (upd ρ d (.bool true)) w}(hx:ρ.ev x= .int k a:=by exact rfl)(hy:ρ.ev y= .int k b:=by exact rfl)(hp:b<a:=by omega):Q0 P (⟨none, .bin d .gtr T x y⟩::l) Q ρ w:=XE hx hy hp h
theorem KM {d:Nat}{T:TypeId}{x y:Operand}{k:IntKind}{b:Int}{h:Q0 P l Q (upd ρ d (.bool false)) w}(hx:ρ.ev x= .int k a:=by exact rfl)(hy:ρ.ev y= .int k b:=by exact rfl)(hp:¬(b<a):=by omega):Q0 P (⟨none, .bin d .gtr T x y⟩::l) Q ρ w:=XF hx hy hp h
theorem Ml {d:Nat}{T:TypeId}{x y:Operand}{k:IntKind}{b:Int}{h:Q0 P l Q (upd ρ d (.bool true)) w}(hx:ρ.ev x= .int k a:=by exact rfl)(hy:ρ.ev y= .int k b:=by exact rfl)(hp:b≤a:=by omega):Q0 P (⟨none, .bin d .geq T x y⟩::l) Q ρ w:=XG hx hy hp h
theorem Mz {d:Nat}{T:TypeId}{x y:Operand}{k:IntKind}{b:Int}{h:Q0 P l Q (upd ρ d (.bool false)) w}(hx:ρ.ev x= .int k a:=by exact rfl)(hy:ρ.ev y= .int k b:=by exact rfl)(hp:¬(b≤a):=by omega):Q0 P (⟨none, .bin d .geq T x y⟩::l) Q ρ w:=XH hx hy hp h
theorem Z7 {d:Nat}{T:TypeId}{x y:Operand}{k:IntKind}{b:Int}{h:Q0 P l Q (upd ρ d (.bool true)) w}(hx:ρ.ev x= .int k a:=by exact rfl)(hy:ρ.ev y= .int k b:=by exact rfl)(hp:a≤b:=by omega):Q0 P (⟨none, .bin d .leq T x y⟩::l) Q ρ w:=XB hx hy hp h
theorem iq {d:Nat}{T:TypeId}{x y:Operand}{k:IntKind}{b:Int}{h:Q0 P l Q (upd ρ d (.bool false)) w}(hx:ρ.ev x= .int k a:=by exact rfl)(hy:ρ.ev y= .int k b:=by exact rfl)(hp:¬(a≤b):=by omega):Q0 P (⟨none, .bin d .leq T x y⟩::l) Q ρ w:=XC hx hy hp h
theorem LP {x y:Operand}{b o:Nat}{u:Value}(hS:St c w L)(h:∀w',St c w' (L.set i (blk b T (cs.set o u)))→Q0 P l Q ρ w')(hx:ρ.ev x= .pointer (some ⟨b,o,none⟩):=by exact rfl)(hy:ρ.ev y=u:=by (conv=>lhs;whnf);first|done|exact rfl)(hi:nth L i=some (blk b T cs):=by exact Gh (by repeat constructor))(ho:o<cs.length:=by simp)(h1:oneC u=true:=by first|rfl|assumption|exact hS.oneC (Gh (by repeat constructor))|exact Jp (by assumption)):Q0 P (⟨none, .store1 x y⟩::l) Q ρ w:=Tw hS hx hy hi ho h1 h
theorem sP {n:Nat}{x y:Operand}{b o:Nat}{xs:List Int}{u:Int}(hS:St c w L)(h:∀w',St c w' (L.set i (sl T 1 v ((xs.set m u).map KQ)))→Q0 P l Q ρ w')(he:Nn v n 1 m b o:=by assumption)(hx:ρ.ev x= .pointer (some ⟨b,o,none⟩):=by exact rfl)(hy:ρ.ev y= .int .i64 u:=by (conv=>lhs;whnf);first|done|exact rfl)(hi:nth L i=some (sl T 1 v (xs.map KQ)):=by exact Gh (by repeat constructor))(hn:(xs.map KQ).length=n:=by exact rfl)(hm:m<xs.length:=by first|omega|(simp;omega)):Q0 P (⟨none, .store1 x y⟩::l) Q ρ w:=TH hS he hx hy hi hn hm h
theorem sQ {n:Nat}{x y:Operand}{b o:Nat}{u:Bool}(hS:St c w L)(h:∀w',St c w' (L.set i (sl T 1 v ((xs.set m u).map QG)))→Q0 P l Q ρ w')(he:Nn v n 1 m b o:=by assumption)(hx:ρ.ev x= .pointer (some ⟨b,o,none⟩):=by exact rfl)(hy:ρ.ev y= .bool u:=by (conv=>lhs;whnf);first|done|exact rfl)(hi:nth L i=some (sl T 1 v (xs.map QG)):=by exact Gh (by repeat constructor))(hn:(xs.map QG).length=n:=by exact rfl)(hm:m<xs.length:=by first|omega|(simp;omega)):Q0 P (⟨none, .store1 x y⟩::l) Q ρ w:=yt hS he hx hy hi hn hm h
theorem zb {d:Nat}{x:Operand}{cs:List Value}(hS:St c w L)(h:∀b w',St c w' (blk b T cs::L)→Q0 P l Q (upd ρ d (.pointer (some ⟨b,0,none⟩))) w')(hx:ρ.ev x=v:=by (conv=>lhs;whnf);first|done|exact rfl)(hc:v.cells=⟨cs⟩:=by rfl):Q0 P (⟨none, .box d T x⟩::l) Q ρ w:=NJ hS hx hc h
theorem Ps {d m:Nat}{x y:Operand}{k:IntKind}(hS:St c w L)(h:∀b o,Nn v css.length es m b o→Q0 P l Q (upd ρ d (.pointer (some ⟨b,o,none⟩))) w)(hx:ρ.ev x=v:=by (conv=>lhs;whnf);first|done|exact rfl)(hy:ρ.ev y= .int k (m:Int):=by exact rfl)(hi:nth L i=some (sl T es v css):=by exact Gh (by repeat constructor))(hm:m<css.length:=by first|omega|(simp;omega)):Q0 P (⟨none, .idx d es x y⟩::l) Q ρ w:=ML hS hx hy hi hm h
theorem Z8 {d:Nat}{x y:Operand}{k:IntKind}{n:Int}(hS:St c w L)(h:∀b o,Nn v css.length es n.toNat b o→Q0 P l Q (upd ρ d (.pointer (some ⟨b,o,none⟩))) w)(hx:ρ.ev x=v:=by (conv=>lhs;whnf);first|done|exact rfl)(hy:ρ.ev y= .int k n:=by exact rfl)(hi:nth L i=some (sl T es v css):=by exact Gh (by repeat constructor))(h0:0≤n:=by first|omega|(simp;omega))(hm:n<css.length:=by first|omega|(simp;omega)):Q0 P (⟨none, .idx d es x y⟩::l) Q ρ w:=QJ hS hx hy hi h0 hm h
theorem Ka {n i b T:Nat}{x y:Operand}(hS:St c w L)(h:∀w',St c w' (L.set i (blk b T us))→Q0 P l Q ρ w')(hx:ρ.ev x= .pointer (some ⟨b,0,none⟩):=by exact rfl)(hy:ρ.ev y= .agg ⟨us⟩:=by exact rfl)(hn:us.length=n:=by rfl)(hi:nth L i=some (blk b T cs):=by exact Gh (by repeat constructor))(hc:cs.length=n:=by rfl)(h1:∀u∈us,oneC u=true:=by first|(simp [oneC];done)|assumption|exact Rep.one _ (by assumption)|(simp only [Il,GB,FU,ES,EY,or_false,forall_eq_or_imp,forall_eq];((try refine And.intro ?_ ?_)<;>try refine And.intro ?_ ?_)<;>first|rfl|assumption)):Q0 P (⟨none, .storen n x y⟩::l) Q ρ w:=yw hS hx hy hn hi hc h1 h
theorem cj {n:Nat}{x y:Operand}{b o:Nat}{cs':List Value}(hS:St c w L)(h:∀w',St c w' (L.set i (blk b T cs'))→Q0 P l Q ρ w')(hx:ρ.ev x= .pointer (some ⟨b,o,none⟩):=by exact rfl)(hy:ρ.ev y= .agg ⟨us⟩:=by exact rfl)(hn:us.length=n:=by rfl)(hi:nth L i=some (blk b T cs):=by exact Gh (by repeat constructor))(ho:o+n≤cs.length:=by simp)(h1:∀u∈us,oneC u=true:=by first|(simp [oneC];done)|assumption|exact Rep.one _ (by assumption)|(simp only [Il,GB,FU,ES,EY,or_false,forall_eq_or_imp,forall_eq];((try refine And.intro ?_ ?_)<;>try refine And.intro ?_ ?_)<;>first|rfl|assumption))(hc:cs.take o++(us++cs.drop (o+n))=cs':=by (conv=>lhs;simp only [Il,GB,List.drop_succ_cons,FU,Gz,HY]);first|done|exact rfl):Q0 P (⟨none, .storen n x y⟩::l) Q ρ w:=SF hS hx hy hn hi ho h1 hc h
theorem zf {t:Nat}{v:Value}{h:R (.returned v) w}(hv:ρ t=v:=by (conv=>lhs;whnf);first|done|exact rfl):Kq P [.tmp t] R .ret ρ w:=bg hv h
theorem kN {t u:Nat}{v:Value}{h:R (.returned (.tuple #[v,v'])) w}(hv:ρ t=v:=by (conv=>lhs;whnf);first|done|exact rfl)(hv':ρ u=v':=by (conv=>lhs;whnf);first|done|exact rfl):Kq P [.tmp t, .tmp u] R .ret ρ w:=bh hv hv' h
theorem MA {d:Nat}{z:List Value}(cs:List Value)(h:Q0 P l Q (upd ρ d (.agg ⟨cs⟩)) w)(hf:Ng z []=some cs:=by rfl):Q0 P (⟨none, .build d z []⟩::l) Q ρ w:=Tl hf h
theorem Oy {d:Nat}{z:List Value}(cs:List Value)(h:Q0 P l Q (upd ρ d (.agg ⟨cs⟩)) w)(h0:ρ.ev x0=v0:=by (conv=>lhs;whnf);first|done|exact rfl)(hf:Ng z [(o0,n0,v0)]=some cs:=by rfl):Q0 P (⟨none, .build d z [(o0,n0,x0)]⟩::l) Q ρ w:=Tm h0 hf h
theorem KY {d:Nat}{T:TypeId}{n:Nat}{z:List Value}(hS:St c w L)(cs:List Value)(h:∀b w',St c w' (blk b T cs::L)→Q0 P l Q (upd ρ d (.slice (some ⟨b,0,none⟩) n n)) w')(h0:ρ.ev x0=v0:=by (conv=>lhs;whnf);first|done|exact rfl)(hf:Ng z [(o0,n0,v0)]=some cs:=by rfl):Q0 P (⟨none, .buildS d T n z [(o0,n0,x0)]⟩::l) Q ρ w:=Tn h0 hf fun b w' hb hf1 _ hk=>h b w' (hS.laid hb hf1 hk)
theorem Na {d:Nat}{z:List Value}(cs:List Value)(h:Q0 P l Q (upd ρ d (.agg ⟨cs⟩)) w)(h0:ρ.ev x0=v0:=by (conv=>lhs;whnf);first|done|exact rfl)(h1:ρ.ev x1=v1:=by (conv=>lhs;whnf);first|done|exact rfl)(hf:Ng z [(o0,n0,v0),(o1,n1,v1)]=some cs:=by rfl):Q0 P (⟨none, .build d z [(o0,n0,x0),(o1,n1,x1)]⟩::l) Q ρ w:=rW h0 h1 hf h
theorem nO {d:Nat}{T:TypeId}{n:Nat}{z:List Value}(hS:St c w L)(cs:List Value)(h:∀b w',St c w' (blk b T cs::L)→Q0 P l Q (upd ρ d (.slice (some ⟨b,0,none⟩) n n)) w')(h0:ρ.ev x0=v0:=by (conv=>lhs;whnf);first|done|exact rfl)(h1:ρ.ev x1=v1:=by (conv=>lhs;whnf);first|done|exact rfl)(hf:Ng z [(o0,n0,v0),(o1,n1,v1)]=some cs:=by rfl):Q0 P (⟨none, .buildS d T n z [(o0,n0,x0),(o1,n1,x1)]⟩::l) Q ρ w:=ko h0 h1 hf fun b w' hb hf1 _ hk=>h b w' (hS.laid hb hf1 hk)
theorem Od {d:Nat}{z:List Value}(cs:List Value)(h:Q0 P l Q (upd ρ d (.agg ⟨cs⟩)) w)(h0:ρ.ev x0=v0:=by (conv=>lhs;whnf);first|done|exact rfl)(h1:ρ.ev x1=v1:=by (conv=>lhs;whnf);first|done|exact rfl)(h2:ρ.ev x2=v2:=by (conv=>lhs;whnf);first|done|exact rfl)(hf:Ng z [(o0,n0,v0),(o1,n1,v1),(o2,n2,v2)]=some cs:=by rfl):Q0 P (⟨none, .build d z [(o0,n0,x0),(o1,n1,x1),(o2,n2,x2)]⟩::l) Q ρ w:=Tp h0 h1 h2 hf h
theorem y8 {d:Nat}{z:List Value}(cs:List Value)(h:Q0 P l Q (upd ρ d (.agg ⟨cs⟩)) w)(h0:ρ.ev x0=v0:=by (conv=>lhs;whnf);first|done|exact rfl)(h1:ρ.ev x1=v1:=by (conv=>lhs;whnf);first|done|exact rfl)(h2:ρ.ev x2=v2:=by (conv=>lhs;whnf);first|done|exact rfl)(h3:ρ.ev x3=v3:=by (conv=>lhs;whnf);first|done|exact rfl)(hf:Ng z [(o0,n0,v0),(o1,n1,v1),(o2,n2,v2),(o3,n3,v3)]=some cs:=by rfl):Q0 P (⟨none, .build d z [(o0,n0,x0),(o1,n1,x1),(o2,n2,x2),(o3,n3,x3)]⟩::l) Q ρ w:=Tq h0 h1 h2 h3 hf h
theorem y9 {d:Nat}{z:List Value}{o4 n4:Nat}{x4:Operand}(cs:List Value)(h:Q0 P l Q (upd ρ d (.agg ⟨cs⟩)) w)(h0:ρ.ev x0=v0:=by (conv=>lhs;whnf);first|done|exact rfl)(h1:ρ.ev x1=v1:=by (conv=>lhs;whnf);first|done|exact rfl)(h2:ρ.ev x2=v2:=by (conv=>lhs;whnf);first|done|exact rfl)(h3:ρ.ev x3=v3:=by (conv=>lhs;whnf);first|done|exact rfl)(h4:ρ.ev x4=v4:=by (conv=>lhs;whnf);first|done|exact rfl)(hf:Ng z [(o0,n0,v0),(o1,n1,v1),(o2,n2,v2),(o3,n3,v3),(o4,n4,v4)]=some cs:=by rfl):Q0 P (⟨none, .build d z [(o0,n0,x0),(o1,n1,x1),(o2,n2,x2),(o3,n3,x3),(o4,n4,x4)]⟩::l) Q ρ w:=Tu h0 h1 h2 h3 h4 hf h
theorem zD {es:List (List Nat)}(C:List CI)(h:Q0 P (C.map fun c=>KP gs c.1) Q ρ w.drew)(hok:aY gs es C=true:=by kernel_rfl)(hpl:(C.all fun c=>match c.2 with|some (some _)=>false|_=>true)=true:=by kernel_rfl):(LC.draw gs es).wp P Q ρ w:=bu C hok hpl h
theorem zC {es:List (List Nat)}(C:List CI)(h:Ow P gs C Q ρ w.drew)(hok:aY gs es C=true:=by kernel_rfl):(LC.draw gs es).wp P Q ρ w:=XI C hok h
theorem ir {d:Nat}{f:FuncId}(c:JW P f [] w S){h:∀v w',S v w'→Q0 P l Q (upd ρ d v) w'}:Q0 P (⟨none, .call (some d) f []⟩::l) Q ρ w:=TJ c h
theorem Kv {d:Nat}{f:FuncId}(h0:ρ.ev x0=u0:=by (conv=>lhs;whnf);first|done|exact rfl)(c:JW P f [u0] w S){h:∀v w',S v w'→Q0 P l Q (upd ρ d v) w'}:Q0 P (⟨none, .call (some d) f [x0]⟩::l) Q ρ w:=TK h0 c h
theorem J9 {d:Nat}{f:FuncId}(h0:ρ.ev x0=u0:=by (conv=>lhs;whnf);first|done|exact rfl)(h1:ρ.ev x1=u1:=by (conv=>lhs;whnf);first|done|exact rfl)(c:JW P f [u0,u1] w S){h:∀v w',S v w'→Q0 P l Q (upd ρ d v) w'}:Q0 P (⟨none, .call (some d) f [x0,x1]⟩::l) Q ρ w:=TM h0 h1 c h
theorem Lp {d:Nat}{f:FuncId}{T:Value→World→Prop}(h0:ρ.ev x0=u0:=by (conv=>lhs;whnf);first|done|exact rfl)(h1:ρ.ev x1=u1:=by (conv=>lhs;whnf);first|done|exact rfl)(c:KD P f [u0,u1] w S T)(p:∀v w',T v w'→Q (.panic [{v:=v,recovered:=false}]) ρ w'){h:∀v w',S v w'→Q0 P l Q (upd ρ d v) w'}:Q0 P (⟨none, .call (some d) f [x0,x1]⟩::l) Q ρ w:=Uc h0 h1 c p h
theorem K5 {d:Nat}{f:FuncId}(h0:ρ.ev x0=u0:=by (conv=>lhs;whnf);first|done|exact rfl)(h1:ρ.ev x1=u1:=by (conv=>lhs;whnf);first|done|exact rfl)(h2:ρ.ev x2=u2:=by (conv=>lhs;whnf);first|done|exact rfl)(c:JW P f [u0,u1,u2] w S){h:∀v w',S v w'→Q0 P l Q (upd ρ d v) w'}:Q0 P (⟨none, .call (some d) f [x0,x1,x2]⟩::l) Q ρ w:=TO h0 h1 h2 c h
theorem NL {d:Nat}{f:FuncId}{T:Value→World→Prop}(h0:ρ.ev x0=u0:=by (conv=>lhs;whnf);first|done|exact rfl)(h1:ρ.ev x1=u1:=by (conv=>lhs;whnf);first|done|exact rfl)(h2:ρ.ev x2=u2:=by (conv=>lhs;whnf);first|done|exact rfl)(c:KD P f [u0,u1,u2] w S T)(p:∀v w',T v w'→Q (.panic [{v:=v,recovered:=false}]) ρ w'){h:∀v w',S v w'→Q0 P l Q (upd ρ d v) w'}:Q0 P (⟨none, .call (some d) f [x0,x1,x2]⟩::l) Q ρ w:=Ud h0 h1 h2 c p h
theorem Nb {d:Nat}{f:FuncId}(h0:ρ.ev x0=u0:=by (conv=>lhs;whnf);first|done|exact rfl)(h1:ρ.ev x1=u1:=by (conv=>lhs;whnf);first|done|exact rfl)(h2:ρ.ev x2=u2:=by (conv=>lhs;whnf);first|done|exact rfl)(h3:ρ.ev x3=u3:=by (conv=>lhs;whnf);first|done|exact rfl)(c:JW P f [u0,u1,u2,u3] w S){h:∀v w',S v w'→Q0 P l Q (upd ρ d v) w'}:Q0 P (⟨none, .call (some d) f [x0,x1,x2,x3]⟩::l) Q ρ w:=TP h0 h1 h2 h3 c h
theorem nP {d:Nat}{f:FuncId}{T:Value→World→Prop}(h0:ρ.ev x0=u0:=by (conv=>lhs;whnf);first|done|exact rfl)(h1:ρ.ev x1=u1:=by (conv=>lhs;whnf);first|done|exact rfl)(h2:ρ.ev x2=u2:=by (conv=>lhs;whnf);first|done|exact rfl)(h3:ρ.ev x3=u3:=by (conv=>lhs;whnf);first|done|exact rfl)(c:KD P f [u0,u1,u2,u3] w S T)(p:∀v w',T v w'→Q (.panic [{v:=v,recovered:=false}]) ρ w'){h:∀v w',S v w'→Q0 P l Q (upd ρ d v) w'}:Q0 P (⟨none, .call (some d) f [x0,x1,x2,x3]⟩::l) Q ρ w:=Ue h0 h1 h2 h3 c p h
variable {α:Type}{r:Rep α}{xs:List α}
theorem zL {d:Nat}{x:Operand}{h:Q0 P l Q (upd ρ d (.int .i64 xs.length)) w}(hx:ρ.ev x=v:=by (conv=>lhs;whnf);first|done|exact rfl)(hK:r.sl c v xs:=by assumption):Q0 P (⟨none, .len d x⟩::l) Q ρ w:=kz hx hK h
theorem zi {d m:Nat}{x y:Operand}{k:IntKind}{h:∀b o cs a,Ox c b o cs→xs[m]?=some a→r.at c cs a→Q0 P l Q (upd ρ d (.pointer (some ⟨b,o,none⟩))) w}(hx:ρ.ev x=v:=by (conv=>lhs;whnf);first|done|exact rfl)(hy:ρ.ev y= .int k (m:Int):=by exact rfl)(hK:r.sl c v xs:=by assumption)(hes:r.es=es:=by exact rfl)(hn:m<xs.length:=by first|omega|(simp;omega)):Q0 P (⟨none, .idx d es x y⟩::l) Q ρ w:=RD hx hy hK hes hn h
theorem zj {d:Nat}{x y:Operand}{k:IntKind}{n:Int}{h:∀b o cs a,Ox c b o cs→xs[n.toNat]?=some a→r.at c cs a→Q0 P l Q (upd ρ d (.pointer (some ⟨b,o,none⟩))) w}(hx:ρ.ev x=v:=by (conv=>lhs;whnf);first|done|exact rfl)(hy:ρ.ev y= .int k n:=by exact rfl)(hK:r.sl c v xs:=by assumption)(hes:r.es=es:=by exact rfl)(h0:0≤n:=by first|omega|(simp;omega))(hn:n<xs.length:=by first|omega|(simp;omega)):Q0 P (⟨none, .idx d es x y⟩::l) Q ρ w:=eX hx hy hK hes h0 hn h
theorem za {T d Ty i k b:Nat}{z : List Value}{x y : Operand}{css : List (List Value)}{a : α}(hel : NH P Ts = some (T, es, nb, z))(hts : ∃ e2, P.underlying Ts2 = some (.slice e2))(hS : St c w L)(h : ∀ v' w' css', r.ls c css' (xs ++ [a]) → oneC v' = true → St c w' (L.set i (Go.Lir.sl T es v' css')) → Q0 P l Q (upd ρ d v') w')(hx : ρ.ev x = v := by (conv => lhs; whnf); first | done | exact rfl)(hy : ρ.ev y = .slice (some ⟨b, 0, none⟩) 1 1 := by (conv => lhs; whnf); first | done | exact rfl)(hi : nth L i = some (Go.Lir.sl T es v css) := by exact Gh (by repeat constructor))(hk : nth L k = some (blk b T' ds) := by exact Gh (by repeat constructor))(hls : r.ls c css xs := by assumption)(ha : r.at c ds a := by first | assumption | exact rfl)(hes : r.es = es := by exact rfl)(hb : (xs.length + 1) * nb ≤ 140737488355328 := by first | omega | (simp only [F8]; omega) | (simp; omega)): Q0 P (⟨none, .raw ⟨some d, .call ⟨.builtin .append, #[x, y], #[Ts, Ts2]⟩, Ty, "", #[], none⟩⟩ :: l) Q ρ w := XT hel hts hS hx hy hi hk hls ha hes hb h
theorem nQ {T d Ty i:Nat}{z : List Value}{x y : Operand}{css : List (List Value)}{ys : List α}(hel : NH P Ts = some (T, es, nb, z))(hts : ∃ e2, P.underlying Ts2 = some (.slice e2))(hS : St c w L)(h : ∀ v' w' css', r.ls c css' (xs ++ ys) → oneC v' = true → St c w' (L.set i (Go.Lir.sl T es v' css')) → Q0 P l Q (upd ρ d v') w')(hx : ρ.ev x = v := by (conv => lhs; whnf); first | done | exact rfl)(hy : ρ.ev y = v2 := by (conv => lhs; whnf); first | done | exact rfl)(hi : nth L i = some (Go.Lir.sl T es v css) := by exact Gh (by repeat constructor))(hls : r.ls c css xs := by assumption)(hK : r.sl c v2 ys := by assumption)(hes : r.es = es := by exact rfl)(hb : (xs.length + ys.length) * nb ≤ 140737488355328 := by first | omega | (simp only [F8]; omega) | (simp; omega)): Q0 P (⟨none, .raw ⟨some d, .call ⟨.builtin .append, #[x, y], #[Ts, Ts2]⟩, Ty, "", #[], none⟩⟩ :: l) Q ρ w := XU hel hts hS hx hy hi hls hK hes hb h
def Z9 (ρ:Km)(ts:List Nat):List (Nat×Value):=ts.map fun t=>(t,ρ t)
theorem iu (ρ:Km):Z9 ρ []=[]:=rfl
theorem iw {t:Nat}{ts:List Nat}{u:Value}(h:ρ t=u)(h2:Z9 ρ ts=A):Z9 ρ (t::ts)=(t,u)::A:=by subst h h2;rfl
theorem zh (h:J2 ρ A:=by repeat' (first|exact trivial|refine And.intro rfl ?_)):J2 ρ A:=h
theorem J3 {B:List (Nat×Value)}(h:J2 ρ A)(h2:J2 ρ B):∃ρ',ρ=S1 (S1 ρ' B) A:=⟨ρ,by rw [rF h2,rF h]⟩
theorem zo {a:LC}(ts:List Nat)(I:List (Nat×Value)→Km→World→Prop)(μ:Km→World→Nat)(h0:I A ρ w)(h:∀ρ w,I A ρ w→a.wp P (Qh (fun ρ' w'=>I A ρ' w'∧μ ρ' w'<μ ρ w) Q) ρ w)(hA:Z9 ρ ts=A:=by (repeat (apply iw;· ((conv=>lhs;whnf);first|done|exact rfl)));exact iu _):(LC.loop a).wp P Q ρ w:=S6 (I A) μ h0 h
theorem zM {a b:LC}(ts:List Nat)(I:List (Nat×Value)→Km→World→Prop)(ha:a.wp P (Qh (I A) Q) ρ w)(hb:∀ρ w,I A ρ w→b.wp P Q ρ w)(hA:Z9 ρ ts=A:=by (repeat (apply iw;· ((conv=>lhs;whnf);first|done|exact rfl)));exact iu _):(LC.seq a b).wp P Q ρ w:=ZT (I A) ha hb
theorem LQ {a:LC}(hS:St c w L)(ts:List Nat)(I:List (Nat×Value)→List Res→Km→World→Prop)(μ:Km→World→Nat)(h0:I A L ρ w)(h:∀ρ w,I A L ρ w→a.wp P (Qh (fun ρ' w'=>I A L ρ' w'∧μ ρ' w'<μ ρ w) Q) ρ w)(hA:Z9 ρ ts=A:=by (repeat (apply iw;· ((conv=>lhs;whnf);first|done|exact rfl)));exact iu _):(LC.loop a).wp P Q ρ w:=S6 (I A L) μ h0 h
theorem PM {a b:LC}(hS:St c w L)(ts:List Nat)(I:List (Nat×Value)→List Res→Km→World→Prop)(ha:a.wp P (Qh (I A L) Q) ρ w)(hb:∀ρ w,I A L ρ w→b.wp P Q ρ w)(hA:Z9 ρ ts=A:=by (repeat (apply iw;· ((conv=>lhs;whnf);first|done|exact rfl)));exact iu _):(LC.seq a b).wp P Q ρ w:=ZT (I A L) ha hb
theorem Pt {l:List GO}(hS:St c w L)(n:Nat)(ts:List Nat)(I:List (Nat×Value)→List Res→Km→World→Prop)(ha:Q0 P (l.take n) (Qh (I A L) Q) ρ w)(hb:∀ρ w,I A L ρ w→Q0 P (l.drop n) Q ρ w)(hA:Z9 ρ ts=A:=by (repeat (apply iw;· ((conv=>lhs;whnf);first|done|exact rfl)));exact iu _):Q0 P l Q ρ w:=gO n (I A L) ha hb
theorem St.sp (h:St c w L)(e:SubP L' L:=by (repeat constructor);first|done|fail):St c w L':=h.subP e
theorem fd {r':Res}(h:NthP L i r':=by repeat constructor):nth L i=some r':=h.nth
theorem vw {a b:Value}(h:a=b:=by (conv=>lhs;whnf);first|done|exact rfl):a=b:=h
theorem St.p3 {L1 L2 L3:List Res}{r1 r2 r3:Res}(h:St c w L)(p1:Pick L r1 L1:=by repeat constructor)(p2:Pick L1 r2 L2:=by repeat constructor)(p3:Pick L2 r3 L3:=by repeat constructor):St c w (r1::r2::r3::L3):=h.pick3 p1 p2 p3
end
end
section
def ci (n:Nat)(f:List Nat):List CI:=(List.range n).map fun i=>(i,if f.contains i then some none else none)
section
variable {K G:Prop}
theorem Ny {k:K}(h:Bx K→G:=by intro K9;(first|refine' J1|(refine' J4;refine' L7));exact K9.o):G:=h ⟨k⟩
theorem aa {k:K}(h:Bx K→G:=by intro K9;(first|refine' J1|(refine' J4;refine zl hS ?_));exact K9.o):G:=h ⟨k⟩
theorem Mi {k:K}(h:Bx K→G:=by intro K9;(first|refine' J1|(refine' J4;refine' zm));exact K9.o):G:=h ⟨k⟩
theorem Ms {k:K}(h:Bx K→G:=by intro K9;(first|refine' Pr|refine' sN);exact K9.o):G:=h ⟨k⟩
theorem MH {k:K}(h:Bx K→G:=by intro K9;(first|refine' L7|refine' sM);exact K9.o):G:=h ⟨k⟩
theorem Nt {k:K}(h:Bx K→G:=by intro K9;(first|refine' J1|(refine' J4;(first|refine' L7|refine' sM)));exact K9.o):G:=h ⟨k⟩
theorem MZ {k:K}(h:Bx K→G:=by intro K9;(first|refine zv hS ?_|refine y7 hS ?_);exact K9.o):G:=h ⟨k⟩
theorem ix {k:K}(h:Bx K→G:=by intro K9;(first|refine Ra hS rfl fd rfl ?_|refine zl hS ?_);exact K9.o):G:=h ⟨k⟩
theorem M0 {k:K}(h:Bx K→G:=by intro K9;(first|refine' J1|(refine' J4;refine' zL));exact K9.o):G:=h ⟨k⟩
theorem Oe {k:K}(h:Bx K→G:=by intro K9;(first|refine' J1|(refine' J4;refine' PK));exact K9.o):G:=h ⟨k⟩
theorem Rb {k:K}(h:Bx K→G:=by intro K9;(first|refine' J1|(refine' J4;refine' Pq));exact K9.o):G:=h ⟨k⟩
theorem ab {k:K}(h:Bx K→G:=by intro K9;(first|refine' J1|(refine' J4;(first|refine' Pr|refine' sN)));exact K9.o):G:=h ⟨k⟩
theorem Rc {k:K}(h:Bx K→G:=by intro K9;(first|refine' Ql|refine' Qn);exact K9.o):G:=h ⟨k⟩
theorem M1 {k:K}(h:Bx K→G:=by intro K9;(first|refine zl hS ?_|refine Sf hS ?_);exact K9.o):G:=h ⟨k⟩
theorem Nc {k:K}(h:Bx K→G:=by intro K9;(first|refine' zi|refine' zj);exact K9.o):G:=h ⟨k⟩
theorem X8 {k:K}(h:Bx K→G:=by intro K9;(first|refine' J1|(refine' J4;(first|refine' zL|refine sO hS ?_)));exact K9.o):G:=h ⟨k⟩
theorem Sg {k:K}(h:Bx K→G:=by intro K9;(first|refine' J1|(refine' J4;refine zv hS ?_));exact K9.o):G:=h ⟨k⟩
theorem ck {k:K}(h:Bx K→G:=by intro K9;(first|refine' J1|(refine' J4;(first|refine zl hS ?_|refine Sf hS ?_)));exact K9.o):G:=h ⟨k⟩
theorem fo {k:K}(h:Bx K→G:=by intro K9;(first|refine' J1|(refine' J4;(first|refine' Qy|refine' QD)));exact K9.o):G:=h ⟨k⟩
theorem cm {k:K}(h:Bx K→G:=by intro K9;(first|refine zl hS ?_|refine Sf hS ?_|refine cg hS ?_);exact K9.o):G:=h ⟨k⟩
theorem WY {k:K}(h:Bx K→G:=by intro K9;(first|refine' Qy|refine' QD);exact K9.o):G:=h ⟨k⟩
theorem nR {k:K}(h:Bx K→G:=by intro K9;(first|refine' J1|(refine' J4;(first|refine zl hS ?_|refine Sf hS ?_|refine cg hS ?_)));exact K9.o):G:=h ⟨k⟩
theorem cp {k:K}(h:Bx K→G:=by intro K9;(first|refine' zL|refine sO hS ?_);exact K9.o):G:=h ⟨k⟩
theorem Ki {k:K}(h:Bx K→G:=by intro K9;refine Qu ?_;refine' Lm;exact K9.o):G:=h ⟨k⟩
theorem Kg {k:K}(h:Bx K→G:=by intro K9;refine' zm;refine' zn;exact K9.o):G:=h ⟨k⟩
theorem KA {k:K}(h:Bx K→G:=by intro K9;refine' zt;refine' L6;exact K9.o):G:=h ⟨k⟩
theorem KH {k:K}(h:Bx K→G:=by intro K9;refine' Ki;refine' zm;exact K9.o):G:=h ⟨k⟩
theorem KK {k:K}(h:Bx K→G:=by intro K9;refine' L7;refine zl hS ?_;exact K9.o):G:=h ⟨k⟩
theorem LY {k:K}(h:Bx K→G:=by intro K9;refine' Kg;refine' zr;exact K9.o):G:=h ⟨k⟩
theorem KN {k:K}(h:Bx K→G:=by intro K9;refine' LY;refine' zf;exact K9.o):G:=h ⟨k⟩
theorem LF {k:K}(h:Bx K→G:=by intro K9;refine' Lm;refine' zm;exact K9.o):G:=h ⟨k⟩
theorem MN {k:K}(h:Bx K→G:=by intro K9;refine Qu ?_;refine' KH;exact K9.o):G:=h ⟨k⟩
theorem MO {k:K}(h:Bx K→G:=by intro K9;refine' Ny;refine' aa;exact K9.o):G:=h ⟨k⟩
theorem M3 {k:K}(h:Bx K→G:=by intro K9;refine Qu ?_;refine' Ki;exact K9.o):G:=h ⟨k⟩
theorem cq {k:K}(h:Bx K→G:=by intro K9;refine' L7;refine' KA;exact K9.o):G:=h ⟨k⟩
theorem PN {k:K}(h:Bx K→G:=by intro K9;refine gF rfl rfl ?_;refine' zn;exact K9.o):G:=h ⟨k⟩
theorem nS {k:K}(h:Bx K→G:=by intro K9;refine Qu ?_;refine' bf;exact K9.o):G:=h ⟨k⟩
theorem Kw {k:K}(h:Bx K→G:=by intro K9;refine' Ki;refine' KN;exact K9.o):G:=h ⟨k⟩
theorem NY {k:K}(h:Bx K→G:=by intro K9;refine' Kg;refine' bf;exact K9.o):G:=h ⟨k⟩
theorem Rd {k:K}(h:Bx K→G:=by intro K9;refine' KA;refine' cq;exact K9.o):G:=h ⟨k⟩
theorem nT {k:K}(h:Bx K→G:=by intro K9;refine' Nq;refine' Kg;exact K9.o):G:=h ⟨k⟩
theorem Lu {k:K}(h:Bx K→G:=by intro K9;refine' zt;refine' Sa;exact K9.o):G:=h ⟨k⟩
theorem NM {k:K}(h:Bx K→G:=by intro K9;refine' zm;refine' KA;exact K9.o):G:=h ⟨k⟩
theorem LG {k:K}(h:Bx K→G:=by intro K9;refine' Ki;refine' Kg;exact K9.o):G:=h ⟨k⟩
theorem kO {k:K}(h:Bx K→G:=by intro K9;refine' zt;refine' zy;exact K9.o):G:=h ⟨k⟩
theorem Lj {k:K}(h:Bx K→G:=by intro K9;refine' J5;refine' nS;exact K9.o):G:=h ⟨k⟩
theorem KO {k:K}(h:Bx K→G:=by intro K9;refine' Ki;refine zb hS ?_;exact K9.o):G:=h ⟨k⟩
theorem LS {k:K}(h:Bx K→G:=by intro K9;refine' zm;refine' MO;exact K9.o):G:=h ⟨k⟩
theorem N0 {k:K}(h:Bx K→G:=by intro K9;refine' Rd;refine zl hS ?_;exact K9.o):G:=h ⟨k⟩
theorem KL {k:K}(h:Bx K→G:=by intro K9;refine' KH;refine' zm;exact K9.o):G:=h ⟨k⟩
theorem Lc {k:K}(h:Bx K→G:=by intro K9;refine' zt;refine' nN;exact K9.o):G:=h ⟨k⟩
theorem Ni {k:K}(h:Bx K→G:=by intro K9;refine' Ki;refine' KK;exact K9.o):G:=h ⟨k⟩
theorem KU {k:K}(h:Bx K→G:=by intro K9;refine' Ms;refine' zn;exact K9.o):G:=h ⟨k⟩
theorem LM {k:K}(h:Bx K→G:=by intro K9;refine' zt;refine' Lx;exact K9.o):G:=h ⟨k⟩
theorem Ll {k:K}(h:Bx K→G:=by intro K9;refine' zm;refine' Mi;exact K9.o):G:=h ⟨k⟩
theorem Mm {k:K}(h:Bx K→G:=by intro K9;refine' Pq;refine' L7;exact K9.o):G:=h ⟨k⟩
theorem Mt {k:K}(h:Bx K→G:=by intro K9;refine Qu ?_;refine Qu ?_;exact K9.o):G:=h ⟨k⟩
theorem MP {k:K}(h:Bx K→G:=by intro K9;refine' M3;refine' KK;exact K9.o):G:=h ⟨k⟩
theorem LH {k:K}(h:Bx K→G:=by intro K9;refine' LF;refine' nT;exact K9.o):G:=h ⟨k⟩
theorem MI {k:K}(h:Bx K→G:=by intro K9;refine' MZ;refine Qe hS ?_;exact K9.o):G:=h ⟨k⟩
theorem MU {k:K}(h:Bx K→G:=by intro K9;refine' Pq;refine' MH;exact K9.o):G:=h ⟨k⟩
theorem Nr {k:K}(h:Bx K→G:=by intro K9;refine' Ki;refine zv hS ?_;exact K9.o):G:=h ⟨k⟩
theorem LU {k:K}(h:Bx K→G:=by intro K9;refine' M3;refine' NY;exact K9.o):G:=h ⟨k⟩
theorem LZ {k:K}(h:Bx K→G:=by intro K9;refine' Kg;refine' KH;exact K9.o):G:=h ⟨k⟩
theorem Og {k:K}(h:Bx K→G:=by intro K9;refine' Lm;refine' nT;exact K9.o):G:=h ⟨k⟩
theorem zd {k:K}(h:Bx K→G:=by intro K9;refine' PN;refine Qu ?_;exact K9.o):G:=h ⟨k⟩
theorem Pu {k:K}(h:Bx K→G:=by intro K9;refine' Lu;refine Qe hS ?_;exact K9.o):G:=h ⟨k⟩
theorem Mu {k:K}(h:Bx K→G:=by intro K9;refine' kO;refine' Sa;exact K9.o):G:=h ⟨k⟩
theorem Mb {k:K}(h:Bx K→G:=by intro K9;refine' KA;refine' NM;exact K9.o):G:=h ⟨k⟩
theorem Nz {k:K}(h:Bx K→G:=by intro K9;refine' L6;refine' NM;exact K9.o):G:=h ⟨k⟩
theorem O7 {k:K}(h:Bx K→G:=by intro K9;refine' Pq;refine' KK;exact K9.o):G:=h ⟨k⟩
theorem MQ {k:K}(h:Bx K→G:=by intro K9;refine' zm;refine' zm;exact K9.o):G:=h ⟨k⟩
theorem Mn {k:K}(h:Bx K→G:=by intro K9;refine' L7;refine' ix;exact K9.o):G:=h ⟨k⟩
theorem MB {k:K}(h:Bx K→G:=by intro K9;refine' kO;refine' L6;exact K9.o):G:=h ⟨k⟩
theorem Mq {k:K}(h:Bx K→G:=by intro K9;refine' Ki;refine' zd;exact K9.o):G:=h ⟨k⟩
theorem sR {k:K}(h:Bx K→G:=by intro K9;refine' Uh;refine' Uh;exact K9.o):G:=h ⟨k⟩
theorem L8 {k:K}(h:Bx K→G:=by intro K9;refine' zn;refine' zr;exact K9.o):G:=h ⟨k⟩
theorem Oh {k:K}(h:Bx K→G:=by intro K9;refine' PK;refine' zn;exact K9.o):G:=h ⟨k⟩
theorem fp {k:K}(h:Bx K→G:=by intro K9;refine' J1;refine' J1;exact K9.o):G:=h ⟨k⟩
theorem iy {k:K}(h:Bx K→G:=by intro K9;refine' cq;refine zl hS ?_;exact K9.o):G:=h ⟨k⟩
theorem sS {k:K}(h:Bx K→G:=by intro K9;refine' zm;refine' sR;exact K9.o):G:=h ⟨k⟩
theorem M4 {k:K}(h:Bx K→G:=by intro K9;refine' kO;refine' Lx;exact K9.o):G:=h ⟨k⟩
theorem PO {k:K}(h:Bx K→G:=by intro K9;refine' Kg;refine' MN;exact K9.o):G:=h ⟨k⟩
theorem Re {k:K}(h:Bx K→G:=by intro K9;refine' MN;refine' KK;exact K9.o):G:=h ⟨k⟩
theorem O8 {k:K}(h:Bx K→G:=by intro K9;refine' MN;refine' zm;exact K9.o):G:=h ⟨k⟩
theorem O9 {k:K}(h:Bx K→G:=by intro K9;refine' KH;refine' KN;exact K9.o):G:=h ⟨k⟩
theorem Nd {k:K}(h:Bx K→G:=by intro K9;refine' KH;refine' Kg;exact K9.o):G:=h ⟨k⟩
theorem N1 {k:K}(h:Bx K→G:=by intro K9;refine' zm;refine' zi;exact K9.o):G:=h ⟨k⟩
theorem nU {k:K}(h:Bx K→G:=by intro K9;refine' zL;refine' PN;exact K9.o):G:=h ⟨k⟩
theorem RK {k:K}(h:Bx K→G:=by intro K9;refine' LS;refine' MO;exact K9.o):G:=h ⟨k⟩
theorem WZ {k:K}(h:Bx K→G:=by intro K9;refine' L6;refine' iy;exact K9.o):G:=h ⟨k⟩
theorem PQ {k:K}(h:Bx K→G:=by intro K9;refine' zL;refine' NY;exact K9.o):G:=h ⟨k⟩
theorem NA {k:K}(h:Bx K→G:=by intro K9;refine' KH;refine' KK;exact K9.o):G:=h ⟨k⟩
theorem NB {k:K}(h:Bx K→G:=by intro K9;refine' MH;refine' KA;exact K9.o):G:=h ⟨k⟩
theorem Oz {k:K}(h:Bx K→G:=by intro K9;refine' Lm;refine' KN;exact K9.o):G:=h ⟨k⟩
theorem Rf {k:K}(h:Bx K→G:=by intro K9;refine' Ki;refine Qe hS ?_;exact K9.o):G:=h ⟨k⟩
theorem ze {k:K}(h:Bx K→G:=by intro K9;refine S3 ?_;refine eR ?_;exact K9.o):G:=h ⟨k⟩
theorem Ui {k:K}(h:Bx K→G:=by intro K9;refine' Rc;refine' Kg;exact K9.o):G:=h ⟨k⟩
theorem N4 {k:K}(h:Bx K→G:=by intro K9;refine' LY;refine' kN;exact K9.o):G:=h ⟨k⟩
theorem NN {k:K}(h:Bx K→G:=by intro K9;refine' LG;refine' MN;exact K9.o):G:=h ⟨k⟩
theorem Oi {k:K}(h:Bx K→G:=by intro K9;refine' LG;refine' KH;exact K9.o):G:=h ⟨k⟩
theorem N5 {k:K}(h:Bx K→G:=by intro K9;refine' zr;refine' kN;exact K9.o):G:=h ⟨k⟩
theorem Pa {k:K}(h:Bx K→G:=by intro K9;refine' L7;refine zv hS ?_;exact K9.o):G:=h ⟨k⟩
theorem OQ {k:K}(h:Bx K→G:=by intro K9;refine' zn;refine Qu ?_;exact K9.o):G:=h ⟨k⟩
theorem X9 {k:K}(h:Bx K→G:=by intro K9;refine' Mi;refine' MO;exact K9.o):G:=h ⟨k⟩
theorem OA {k:K}(h:Bx K→G:=by intro K9;refine' K2;refine' Kw;exact K9.o):G:=h ⟨k⟩
theorem Ya {k:K}(h:Bx K→G:=by intro K9;refine' Ny;refine' Nt;exact K9.o):G:=h ⟨k⟩
theorem Oj {k:K}(h:Bx K→G:=by intro K9;refine' LF;refine' zm;exact K9.o):G:=h ⟨k⟩
theorem Sh {k:K}(h:Bx K→G:=by intro K9;refine' sS;refine Qe hS ?_;exact K9.o):G:=h ⟨k⟩
theorem ae {k:K}(h:Bx K→G:=by intro K9;refine' Lm;refine' KK;exact K9.o):G:=h ⟨k⟩
theorem iz {k:K}(h:Bx K→G:=by intro K9;refine' Lj;refine' Ki;exact K9.o):G:=h ⟨k⟩
theorem PS {k:K}(h:Bx K→G:=by intro K9;refine' L7;refine LP hS ?_;exact K9.o):G:=h ⟨k⟩
theorem ag {k:K}(h:Bx K→G:=by intro K9;refine' Pq;refine' Rd;exact K9.o):G:=h ⟨k⟩
theorem Uj {k:K}(h:Bx K→G:=by intro K9;refine' sS;refine' zm;exact K9.o):G:=h ⟨k⟩
theorem ah {k:K}(h:Bx K→G:=by intro K9;refine' Mm;refine' MH;exact K9.o):G:=h ⟨k⟩
theorem PT {k:K}(h:Bx K→G:=by intro K9;refine' Lj;refine Qu ?_;exact K9.o):G:=h ⟨k⟩
theorem Pb {k:K}(h:Bx K→G:=by intro K9;refine' LF;refine' KK;exact K9.o):G:=h ⟨k⟩
theorem PU {k:K}(h:Bx K→G:=by intro K9;refine' LF;refine zv hS ?_;exact K9.o):G:=h ⟨k⟩
theorem Pc {k:K}(h:Bx K→G:=by intro K9;refine' Mi;refine' Rb;exact K9.o):G:=h ⟨k⟩
theorem OR {k:K}(h:Bx K→G:=by intro K9;refine' zn;refine' Ni;exact K9.o):G:=h ⟨k⟩
theorem Pv {k:K}(h:Bx K→G:=by intro K9;refine' LS;refine' M0;exact K9.o):G:=h ⟨k⟩
theorem kP {k:K}(h:Bx K→G:=by intro K9;refine' Ms;refine' ze;exact K9.o):G:=h ⟨k⟩
theorem Pw {k:K}(h:Bx K→G:=by intro K9;refine' Ms;refine' Ll;exact K9.o):G:=h ⟨k⟩
theorem PV {k:K}(h:Bx K→G:=by intro K9;refine' J0;refine' J5;exact K9.o):G:=h ⟨k⟩
theorem Si {k:K}(h:Bx K→G:=by intro K9;refine' zn;refine' bf;exact K9.o):G:=h ⟨k⟩
theorem fq {k:K}(h:Bx K→G:=by intro K9;refine' PO;refine' Oh;exact K9.o):G:=h ⟨k⟩
theorem PW {k:K}(h:Bx K→G:=by intro K9;refine' zn;refine' KH;exact K9.o):G:=h ⟨k⟩
theorem PX {k:K}(h:Bx K→G:=by intro K9;refine' zn;refine' Og;exact K9.o):G:=h ⟨k⟩
theorem Rh {k:K}(h:Bx K→G:=by intro K9;refine' Re;refine' nU;exact K9.o):G:=h ⟨k⟩
theorem cr {k:K}(h:Bx K→G:=by intro K9;refine' zm;refine' Lc;exact K9.o):G:=h ⟨k⟩
theorem Ri {k:K}(h:Bx K→G:=by intro K9;refine' Pq;refine' KA;exact K9.o):G:=h ⟨k⟩
theorem fw {k:K}(h:Bx K→G:=by intro K9;refine' KA;refine' MZ;exact K9.o):G:=h ⟨k⟩
theorem Rj {k:K}(h:Bx K→G:=by intro K9;refine' WZ;refine' N0;exact K9.o):G:=h ⟨k⟩
theorem cu {k:K}(h:Bx K→G:=by intro K9;refine' Mm;refine Ra hS rfl fd rfl ?_;exact K9.o):G:=h ⟨k⟩
theorem Rk {k:K}(h:Bx K→G:=by intro K9;refine' iz;refine' zi;exact K9.o):G:=h ⟨k⟩
theorem Rl {k:K}(h:Bx K→G:=by intro K9;refine' Ms;refine' zm;exact K9.o):G:=h ⟨k⟩
theorem RL {k:K}(h:Bx K→G:=by intro K9;refine' ab;refine' kP;exact K9.o):G:=h ⟨k⟩
theorem RM {k:K}(h:Bx K→G:=by intro K9;refine' fp;refine' fp;exact K9.o):G:=h ⟨k⟩
theorem PY {k:K}(h:Bx K→G:=by intro K9;refine' zr;refine' zf;exact K9.o):G:=h ⟨k⟩
theorem Rm {k:K}(h:Bx K→G:=by intro K9;refine' N0;refine' Lu;exact K9.o):G:=h ⟨k⟩
theorem RN {k:K}(h:Bx K→G:=by intro K9;refine' zm;refine' MU;exact K9.o):G:=h ⟨k⟩
theorem Sj {k:K}(h:Bx K→G:=by intro K9;refine' Kg;refine' MP;exact K9.o):G:=h ⟨k⟩
theorem Sk {k:K}(h:Bx K→G:=by intro K9;refine' O8;refine' nU;exact K9.o):G:=h ⟨k⟩
theorem Sm {k:K}(h:Bx K→G:=by intro K9;refine' L7;refine' MH;exact K9.o):G:=h ⟨k⟩
theorem Rn {k:K}(h:Bx K→G:=by intro K9;refine' N0;refine' KA;exact K9.o):G:=h ⟨k⟩
theorem Sn {k:K}(h:Bx K→G:=by intro K9;refine' Ms;refine' RK;exact K9.o):G:=h ⟨k⟩
theorem So {k:K}(h:Bx K→G:=by intro K9;refine' Rd;refine' ix;exact K9.o):G:=h ⟨k⟩
theorem Uk {k:K}(h:Bx K→G:=by intro K9;refine' ah;refine zl hS ?_;exact K9.o):G:=h ⟨k⟩
theorem Sp {k:K}(h:Bx K→G:=by intro K9;refine' zn;refine' Nr;exact K9.o):G:=h ⟨k⟩
theorem SK {k:K}(h:Bx K→G:=by intro K9;refine' LF;refine' MQ;exact K9.o):G:=h ⟨k⟩
theorem SL {k:K}(h:Bx K→G:=by intro K9;refine' Ya;refine' aa;exact K9.o):G:=h ⟨k⟩
theorem SM {k:K}(h:Bx K→G:=by intro K9;refine' Ki;refine' Ui;exact K9.o):G:=h ⟨k⟩
theorem SN {k:K}(h:Bx K→G:=by intro K9;refine' Oe;refine' X9;exact K9.o):G:=h ⟨k⟩
theorem SO {k:K}(h:Bx K→G:=by intro K9;refine' Kg;refine' Mt;exact K9.o):G:=h ⟨k⟩
theorem SP {k:K}(h:Bx K→G:=by intro K9;refine' Nz;refine' ag;exact K9.o):G:=h ⟨k⟩
theorem SQ {k:K}(h:Bx K→G:=by intro K9;refine' MP;refine' PQ;exact K9.o):G:=h ⟨k⟩
theorem W0 {k:K}(h:Bx K→G:=by intro K9;refine' M3;refine zv hS ?_;exact K9.o):G:=h ⟨k⟩
theorem W1 {k:K}(h:Bx K→G:=by intro K9;refine' ae;refine zv hS ?_;exact K9.o):G:=h ⟨k⟩
theorem Ul {k:K}(h:Bx K→G:=by intro K9;refine' Ni;refine' N1;exact K9.o):G:=h ⟨k⟩
theorem Um {k:K}(h:Bx K→G:=by intro K9;refine' Kg;refine' LH;exact K9.o):G:=h ⟨k⟩
theorem Un {k:K}(h:Bx K→G:=by intro K9;refine' Ms;refine' KN;exact K9.o):G:=h ⟨k⟩
theorem Uo {k:K}(h:Bx K→G:=by intro K9;refine' MH;refine' LM;exact K9.o):G:=h ⟨k⟩
theorem Up {k:K}(h:Bx K→G:=by intro K9;refine' K2;refine' O9;exact K9.o):G:=h ⟨k⟩
theorem Uq {k:K}(h:Bx K→G:=by intro K9;refine' zm;refine' O7;exact K9.o):G:=h ⟨k⟩
theorem Yb {k:K}(h:Bx K→G:=by intro K9;refine' KH;refine zv hS ?_;exact K9.o):G:=h ⟨k⟩
theorem W2 {k:K}(h:Bx K→G:=by intro K9;refine' Kg;refine' Ni;exact K9.o):G:=h ⟨k⟩
theorem W3 {k:K}(h:Bx K→G:=by intro K9;refine' Uj;refine' fq;exact K9.o):G:=h ⟨k⟩
theorem W4 {k:K}(h:Bx K→G:=by intro K9;refine' KA;refine' Uh;exact K9.o):G:=h ⟨k⟩
theorem W5 {k:K}(h:Bx K→G:=by intro K9;refine' LM;refine' cr;exact K9.o):G:=h ⟨k⟩
theorem W6 {k:K}(h:Bx K→G:=by intro K9;refine' LF;refine' O7;exact K9.o):G:=h ⟨k⟩
theorem W7 {k:K}(h:Bx K→G:=by intro K9;refine' fw;refine' Pu;exact K9.o):G:=h ⟨k⟩
theorem W8 {k:K}(h:Bx K→G:=by intro K9;refine' zn;refine' Ki;exact K9.o):G:=h ⟨k⟩
end
end
section
@[reducible] def qs (x y:Nat):GO:=⟨none, .store1 (.tmp x) (.tmp y)⟩
@[reducible] def vn:Value:= .slice none 0 0
end
section
inductive TyD where
 | p|b|f|i (k:IntKind)|s|l (e:Nat)|a (n e z:Nat)|t (z:Nat) (fs:List (Nat×Nat))|x
abbrev Tr:=Nat→TyD
def TyD.sz:TyD→Nat
 | .a _ _ z=>z
 | .t z _=>z
 | _=>1
mutual
def cv (D:Tr):Nat→TyD→List Value
 | 0,_=>[]
 | _+1, .p=>[.pointer none]
 | _+1, .b=>[.bool false]
 | _+1, .f=>[.nilFunc]
 | _+1, .i k=>[.int k 0]
 | _+1, .s=>[.string ⟨#[]⟩]
 | _+1, .l _=>[.slice none 0 0]
 | _+1, .x=>[.nilIface]
 | n+1, .t _ fs=>iA D n fs
 | n+1, .a m e _=>(List.replicate m (cv D n (D e))).flatten
def iA (D:Tr):Nat→List (Nat×Nat)→List Value
 | 0,_=>[]
 | _+1,[]=>[]
 | n+1,f::fs=>cv D n (D f.2)++iA D n fs
end
def cw (D:Tr)(T:Nat):List Value:=cv D 60 (D T)
def RO (D:Tr):TyD→List (Nat×Operand)→List (Nat×Nat×Operand)
 | .t z fs,(i,x)::r=>(match fs[i]? with|some f=>(f.1,(D f.2).sz,x)|none=>(0,0,x))::RO D (.t z fs) r
 | .a n e z,(i,x)::r=>(i*(D e).sz,(D e).sz,x)::RO D (.a n e z) r
 | _,_=>[]
def Ol:Oper→LO
 | ⟨d, o, T, _, _, _⟩ => .raw ⟨d, o, T, "", #[], none⟩
def iB (D:Tr)(f:Nat):TyD→Nat
 | .t _ fs=>match fs[f]? with|some p=>p.1|none=>0
 | _=>0
def nV (D:Tr)(f:Nat):TyD→TyD
 | .t _ fs=>match fs[f]? with|some p=>D p.2|none=> .p
 | _=> .p
def iC (d:Nat)(x:Operand):TyD→LO
 | .t z _=> .loadn d z x
 | .a _ _ z=> .loadn d z x
 | _=> .load1 d x
def cy (x v:Operand):TyD→LO
 | .t z _=> .storen z x v
 | .a _ _ z=> .storen z x v
 | _=> .store1 x v
def cz (d:Nat)(x:Operand)(off:Nat):TyD→LO
 | .t z _=> .fldn d x off z
 | .a _ _ z=> .fldn d x off z
 | _=> .fldv d x off
def iD (D:Tr)(o:Oper)(d:Nat):Op→LO
 | .move x=> .mov d x
 | .assign x=> .mov d x
 | .pick c x y=> .pick d c x y
 | .unOp op _ x=> .un d op x
 | .binOp op T x y _=> .bin d op T x y
 | .nilCheck x=> .nilc d x
 | .fieldAddr S x f=> .fld d x (iB D f (D S))
 | .load T x=>iC d x (D T)
 | .indexAddr T x i=>match D T with
   | .l e=> .idx d (D e).sz x i
   | .a n e _=> .idxa d n (D e).sz x i
   | _=>Ol o
 | .index T x i=>match D T with
   | .s=> .sidx d x i
   | _=>Ol o
 | .extract x i=> .ext d x i
 | .field S x f=>cz d x (iB D f (D S)) (nV D f (D S))
 | .alloc T=> .alloc d T (cw D T)
 | .box T x=> .box d T x
 | .build T ps=> .build d (cw D T) (RO D (D T) ps.toList)
 | .buildSlice T n ps=>match D T with
   | .l e=>if 0<n then .buildS d e n ((List.replicate n (cw D e)).flatten) (RO D (.a n e 0) ps.toList) else Ol o
   | _=>Ol o
 | .makeFunc (.func f) _ caps=> .mkfn d f caps.toList
 | .call ⟨.value (.func f),xs,_⟩=> .call (some d) f xs.toList
 | .call ⟨.value (.tmp f),xs,_⟩=> .callv (some d) (.tmp f) xs.toList
 | .slice T x lo hi mx=>match D T with
   | .l e=> .sub d (D e).sz x lo hi mx
   | .s=> .ssub d x lo hi
   | _=>Ol o
 | .convert S T x=>match D S,D T with
   | .i _, .i k=> .conv d k x
   | _,_=>Ol o
 | .makeInterface T x=>match D T with
   | .x=>Ol o
   | _=> .mki d T x
 | .call ⟨.builtin .min,⟨[x,y]⟩,_⟩=> .mnx d false x y
 | .call ⟨.builtin .max,⟨[x,y]⟩,_⟩=> .mnx d true x y
 | .call ⟨.builtin .len,⟨[x]⟩,⟨[T]⟩⟩=>match D T with
   | .s=> .slen d x
   | .l _=> .len d x
   | _=>Ol o
 | _=>Ol o
def iE (D:Tr)(o:Oper):Op→LO
 | .store T x v=>cy x v (D T)
 | .call ⟨.value (.func f),xs,_⟩=> .call none f xs.toList
 | .call ⟨.value (.tmp f),xs,_⟩=> .callv none (.tmp f) xs.toList
 | _=>Ol o
def nW (D:Tr)(o:Oper):Option Nat→LO
 | none=>iE D o o.op
 | some d=>iD D o d o.op
def nX (ops:Array Oper):Option (Nat×Bool)→Option (Nat×Bool)
 | none=>none
 | some (j,b)=>match ops[j]? with
   | some o=>match o.dst with
     | some s=>some (s,b)
     | none=>none
   | none=>none
def iF (D:Tr)(ops:Array Oper):List Oper→List GO
 | []=>[]
 | o::r=>⟨nX ops o.guard,nW D o o.dst⟩::iF D ops r
def Om (D:Tr):Code→LC
 | .skip=> .skip
 | .region _ ops false=> .ops (iF D ops ops.toList)
 | .region _ ops true=> .draw (iF D ops ops.toList) (Xk ops)
 | .seq a b=> .seq (Om D a) (Om D b)
 | .cond c a b=> .cond c (Om D a) (Om D b)
 | .block id a=> .block id (Om D a)
 | .loop a=> .loop (Om D a)
 | .exit id=> .exit id
 | .ret=> .ret
 | _=> .bad
def nY (D:Tr):Option Code→LC
 | some c=>Om D c
 | none=> .bad
def Ur (D:Tr):Code→LD
 | .seq a b=>bif fj a||fj b then .seq (Ur D a) (Ur D b) else .pl (Om D (.seq a b))
 | .region id ops false=>match fk ops.toList with
   | some (l1,_,s,l2)=> .sp (iF D ops l1) s (iF D ops l2)
   | none=> .pl (Om D (.region id ops false))
 | c=> .pl (Om D c)
def ai (D:Tr):Option Code→LD
 | some c=>Ur D c
 | none=> .pl .bad
section
variable {P:Program}{f:FuncId}{fn:Func}{args:List Value}{w:World}{rs:List ResultVar}(D:Tr)
theorem Kd {lc:LC}(hf:P.funcs[f]?=some fn)(h:lc.wp P (Kq P rs R) (Xl args) w)(e:nY D fn.body=lc:=by set_option maxRecDepth 100000 in (conv=>lhs;cbv))(hl:aX P fn=some lc:=by kernel_rfl)(hrs:fn.results.toList=rs:=by set_option maxRecDepth 100000 in (conv=>lhs;cbv))(hn:Nat.ble args.length fn.ntmps=true:=by kernel_rfl):Calls P f ⟨args⟩ w R:=xJ hf hl hrs hn h
theorem zg {ld:LD}(hf:P.funcs[f]?=some fn)(h:ld.wpD P (X7 P rs R) [] (Xl args) w)(e:ai D fn.body=ld:=by set_option maxRecDepth 100000 in (conv=>lhs;cbv))(hl:fm P fn=some ld:=by kernel_rfl)(hrs:fn.results.toList=rs:=by set_option maxRecDepth 100000 in (conv=>lhs;cbv))(hn:Nat.ble args.length fn.ntmps=true:=by kernel_rfl):Calls P f ⟨args⟩ w R:=yT hf hl hrs hn h
theorem sT {R:Ending→FrameMode→World→Prop}{u:FrameMode}{ld:LD}(hf:P.funcs[f]?=some fn)(h:ld.wpR P (bY P rs R) u (Xl args) w)(e:ai D fn.body=ld:=by set_option maxRecDepth 100000 in (conv=>lhs;cbv))(hl:fm P fn=some ld:=by kernel_rfl)(hrs:fn.results.toList=rs:=by set_option maxRecDepth 100000 in (conv=>lhs;cbv))(hn:Nat.ble args.length fn.ntmps=true:=by kernel_rfl):CallsD P f ⟨args⟩ u w R:=yW hf hl hrs hn h
end
end
end Go.Lir
namespace Go.Proofs.YteflkifmgnpbhaaGreat
open Go.Lir
section
def nZ (i:Nat):TyD:=if i<7 then if i<2 then if i<1 then .p else .f else if i<4 then .i .i64 else if i<5 then .b else .i .u8 else if i<12 then if i<9 then .t 4 [(0,2),(1,3),(2,4),(3,6)] else .s else if i<13 then .i .u64 else if i<15 then .t 2 [(0,9),(1,12)] else .p
def od (i:Nat):TyD:=if i<25 then if i<21 then if i<20 then .t 1 [(0,17)] else .x else if i<22 then .i .i32 else if i<23 then .l 95 else .t 1 [(0,22)] else if i<28 then if i<26 then .l 2 else .f else if i<30 then .t 2 [(0,3),(1,3)] else if i<32 then .f else .t 4 [(0,3),(1,25),(2,25),(3,3)]
def oe (i:Nat):TyD:=if i<43 then if i<39 then if i<35 then .p else .f else if i<41 then .p else if i<42 then .f else .p else if i<45 then if i<44 then .f else .l 131 else if i<47 then .t 2 [(0,44),(1,3)] else if i<48 then .l 119 else .t 13 [(0,24),(1,46),(3,47),(4,25),(5,33),(9,3),(10,4),(11,29)]
def og (i:Nat):TyD:=if i<59 then if i<53 then if i<52 then .f else .p else if i<54 then .l 110 else if i<56 then .t 12 [(0,52),(1,24),(2,53),(3,25),(4,33),(8,3),(9,4),(10,29)] else .f else if i<63 then if i<61 then .p else .f else if i<64 then .p else if i<65 then .l 138 else .t 10 [(0,63),(1,24),(2,64),(3,25),(4,33),(8,3),(9,4)]
def oh (i:Nat):TyD:=if i<74 then if i<69 then if i<68 then .p else .l 3 else if i<71 then .t 3 [(0,4),(1,68),(2,3)] else if i<72 then .a 16 70 48 else .t 49 [(0,67),(1,71)] else if i<76 then if i<75 then .p else .f else if i<78 then .p else if i<79 then .f else .t 4 [(0,39),(1,59),(2,29)]
def oi (i:Nat):TyD:=if i<89 then if i<85 then if i<83 then .f else .t 8 [(0,3),(1,3),(2,3),(3,3),(4,3),(5,2),(6,68),(7,68)] else if i<86 then .l 84 else if i<87 then .l 115 else .t 3 [(0,3),(1,68),(2,68)] else if i<93 then if i<91 then .t 9 [(0,3),(1,3),(2,88),(5,88),(8,68)] else .t 12 [(0,3),(1,86),(2,85),(3,90)] else if i<94 then .l 92 else if i<96 then .t 4 [(0,3),(1,86),(2,86),(3,93)] else .f
def oj (i:Nat):TyD:=if i<114 then if i<108 then if i<98 then .p else .f else if i<109 then .l 224 else if i<111 then .t 5 [(0,3),(1,3),(2,3),(3,108),(4,68)] else .f else if i<117 then if i<116 then .t 3 [(0,3),(1,3),(2,86)] else .f else if i<118 then .l 182 else if i<120 then .t 5 [(0,3),(1,3),(2,3),(3,117),(4,68)] else .t 0 []
def om (i:Nat):TyD:=if i<128 then if i<124 then if i<123 then .i .i64 else .p else if i<125 then .f else if i<126 then .l 267 else .t 3 [(0,125),(1,3),(2,3)] else if i<130 then if i<129 then .p else .l 278 else if i<132 then .t 4 [(0,4),(1,129),(2,3),(3,3)] else if i<135 then .f else .p
def oo (i:Nat):TyD:=if i<142 then if i<139 then if i<137 then .f else .t 4 [(0,3),(1,3),(2,3),(3,25)] else if i<140 then .i .i64 else if i<141 then .b else .f else if i<146 then if i<143 then .p else .f else if i<147 then .l 4 else if i<149 then .t 3 [(0,25),(1,68),(2,146)] else .f
def oq (i:Nat):TyD:=if i<161 then if i<157 then if i<156 then .p else .f else if i<159 then .t 7 [(0,24),(1,95),(5,155),(6,86)] else if i<160 then .f else .p else if i<164 then if i<162 then .f else .t 1 [(0,146)] else if i<171 then .f else if i<172 then .p else .t 4 [(0,24),(1,29),(3,3)]
def ot (i:Nat):TyD:=if i<184 then if i<179 then if i<178 then .f else .p else if i<181 then .f else if i<183 then .t 4 [(0,3),(1,3),(2,3),(3,2)] else .b else if i<186 then if i<185 then .f else .b else if i<187 then .f else if i<188 then .b else .f
def ou (i:Nat):TyD:=if i<198 then if i<191 then if i<190 then .b else .f else if i<192 then .b else if i<197 then .f else .p else if i<209 then if i<207 then .f else .p else if i<210 then .f else if i<212 then .t 7 [(0,4),(1,4),(2,4),(3,4),(4,4),(5,4),(6,4)] else .b
def ow (i:Nat):TyD:=if i<226 then if i<217 then if i<216 then .f else .b else if i<224 then .f else if i<225 then .t 4 [(0,3),(1,3),(2,3),(3,2)] else .f else if i<232 then if i<227 then .b else .f else if i<233 then .p else if i<238 then .f else .p
def ox (i:Nat):TyD:=if i<257 then if i<244 then if i<243 then .f else .p else if i<255 then .f else if i<256 then .i .u64 else .p else if i<265 then if i<259 then .t 7 [(0,256),(1,24),(2,95),(6,86)] else .f else if i<266 then .l 272 else if i<268 then .t 4 [(0,4),(1,265),(2,3),(3,3)] else .p
def oy (i:Nat):TyD:=if i<279 then if i<273 then if i<271 then .f else .t 2 [(0,4),(1,108)] else if i<274 then .p else if i<277 then .f else .t 2 [(0,4),(1,117)] else if i<283 then if i<280 then .p else .f else if i<284 then .i .i64 else if i<285 then .p else .f
def oz (i:Nat):TyD:=if i<295 then if i<292 then if i<290 then .b else .f else if i<293 then .i .u32 else if i<294 then .f else .i .u64 else if i<298 then if i<297 then .t 1 [(0,146)] else .i .i64 else if i<299 then .b else if i<304 then .f else .a 15 9 15
def oA (i:Nat):TyD:=if i<311 then if i<307 then if i<306 then .f else .l 5 else if i<308 then .f else if i<310 then .p else .i .u64 else if i<315 then if i<314 then .f else .p else if i<317 then .f else if i<318 then .p else .f
def oB (i:Nat):TyD:=if i<327 then if i<323 then if i<322 then .t 4 [(0,17),(1,17),(2,17),(3,9)] else .a 0 16 0 else if i<325 then .t 0 [(0,322)] else .i .u8 else if i<329 then if i<328 then .f else .p else if i<331 then .i .i32 else if i<333 then .t 11 [(0,12),(1,12),(2,292),(3,325),(4,5),(5,5),(6,326),(7,327),(8,328),(9,329),(10,330)] else .p
def Kc (i:Nat):TyD:=if i<155 then if i<67 then if i<34 then if i<18 then nZ i else od i else if i<50 then oe i else og i else if i<97 then if i<81 then oh i else oi i else if i<122 then oj i else if i<136 then om i else oo i else if i<239 then if i<189 then if i<174 then oq i else ot i else if i<213 then ou i else ow i else if i<289 then if i<269 then ox i else oy i else if i<305 then oz i else if i<320 then oA i else oB i
end
section

@[reducible] def sU:FuncId:=9
@[reducible] def Us:FuncId:=14
@[reducible] def zk:FuncId:=15
@[reducible] def zp:FuncId:=16
@[reducible] def zq:FuncId:=18
@[reducible] def zs:FuncId:=21
@[reducible] def Ut:FuncId:=22
@[reducible] def sV:FuncId:=24
@[reducible] def zu:FuncId:=28
@[reducible] def zw:FuncId:=30
@[reducible] def zx:FuncId:=31
@[reducible] def cA:FuncId:=34
@[reducible] def zz:FuncId:=41
@[reducible] def zA:FuncId:=42
@[reducible] def zB:FuncId:=44
@[reducible] def sW:FuncId:=50
@[reducible] def zE:FuncId:=51
@[reducible] def zF:FuncId:=52
@[reducible] def zG:FuncId:=53
@[reducible] def zH:FuncId:=54
@[reducible] def Yc:FuncId:=55
@[reducible] def zI:FuncId:=56
@[reducible] def Yd:FuncId:=57
@[reducible] def zJ:FuncId:=58
@[reducible] def sX:FuncId:=59
@[reducible] def zK:FuncId:=62
@[reducible] def sY:FuncId:=64
@[reducible] def Uu:FuncId:=66
@[reducible] def zN:FuncId:=67
@[reducible] def zO:FuncId:=68
@[reducible] def sZ:FuncId:=72
@[reducible] def zP:FuncId:=73
@[reducible] def zQ:FuncId:=74
@[reducible] def s6:FuncId:=75
@[reducible] def s7:FuncId:=76
@[reducible] def zR:FuncId:=77
@[reducible] def zS:FuncId:=78
@[reducible] def zT:FuncId:=85
@[reducible] def zU:FuncId:=86
@[reducible] def s8:FuncId:=87
@[reducible] def zV:FuncId:=88
@[reducible] def s9:FuncId:=89
@[reducible] def zW:FuncId:=91
@[reducible] def zX:FuncId:=93
@[reducible] def zY:FuncId:=94
@[reducible] def zZ:FuncId:=95
@[reducible] def z6:FuncId:=96
@[reducible] def z7:FuncId:=97
@[reducible] def z9:FuncId:=98
@[reducible] def QcL:FuncId:=99
@[reducible] def ta:FuncId:=100
@[reducible] def QdW:FuncId:=101
@[reducible] def tc:FuncId:=102
@[reducible] def Q9a:FuncId:=103
@[reducible] def QdN:FuncId:=104
@[reducible] def Q99:FuncId:=105
@[reducible] def Q2j:FuncId:=106
@[reducible] def oC:FuncId:=107
@[reducible] def Q7L:FuncId:=108
@[reducible] def td:FuncId:=109
@[reducible] def Qg1:FuncId:=110
@[reducible] def Q5m:FuncId:=111
@[reducible] def QdS:FuncId:=112
@[reducible] def Qj5:FuncId:=113
@[reducible] def Qg2:FuncId:=115
@[reducible] def Qg3:FuncId:=116
@[reducible] def te:FuncId:=120
@[reducible] def kQ:FuncId:=121
@[reducible] def Uv:FuncId:=122
@[reducible] def Qbh:FuncId:=123
@[reducible] def tf:FuncId:=124
@[reducible] def oD:FuncId:=125
@[reducible] def Q9H:FuncId:=126
@[reducible] def Qgh:FuncId:=127
@[reducible] def tg:FuncId:=128
@[reducible] def Qj0:FuncId:=129
@[reducible] def Uw:FuncId:=130
@[reducible] def Qgd:FuncId:=131
@[reducible] def ti:FuncId:=144
@[reducible] def Qfl:FuncId:=145
@[reducible] def Q5G:FuncId:=146
@[reducible] def Qgi:FuncId:=150
@[reducible] def Ye:FuncId:=151
@[reducible] def Ux:FuncId:=152
@[reducible] def tj:FuncId:=153
@[reducible] def oE:FuncId:=154
@[reducible] def Qj1:FuncId:=155
@[reducible] def Uy:FuncId:=156
@[reducible] def tm:FuncId:=157
@[reducible] def Qgb:FuncId:=158
@[reducible] def QcU:FuncId:=159
@[reducible] def Q2z:FuncId:=160
@[reducible] def Qcs:FuncId:=161
@[reducible] def Q1F:FuncId:=162
@[reducible] def Qfk:FuncId:=163
@[reducible] def Q9z:FuncId:=164
@[reducible] def Q9A:FuncId:=165
@[reducible] def tn:FuncId:=166
@[reducible] def QdQ:FuncId:=167
@[reducible] def Qbg:FuncId:=186
@[reducible] def QdZ:FuncId:=187
@[reducible] def Q9G:FuncId:=188
@[reducible] def Q7b:FuncId:=189
@[reducible] def QcG:FuncId:=190
@[reducible] def QcD:FuncId:=191
@[reducible] def Qbm:FuncId:=192
@[reducible] def QcF:FuncId:=193
@[reducible] def Q3M:FuncId:=200
@[reducible] def QaF:FuncId:=201
@[reducible] def Q2Z:FuncId:=203
@[reducible] def Uz:FuncId:=204
@[reducible] def UA:FuncId:=208
@[reducible] def Qfj:FuncId:=211
@[reducible] def QcT:FuncId:=212
@[reducible] def UB:FuncId:=213
@[reducible] def QiK:FuncId:=214
@[reducible] def Qb7:FuncId:=215
@[reducible] def QcC:FuncId:=222
@[reducible] def QcE:FuncId:=223
@[reducible] def Q9F:FuncId:=224
@[reducible] def Q2R:FuncId:=226
@[reducible] def Qct:FuncId:=232
@[reducible] def Q8A:FuncId:=235
@[reducible] def Q8z:FuncId:=236
@[reducible] def Q3N:FuncId:=252
@[reducible] def Qb9:FuncId:=260
@[reducible] def Q42:FuncId:=262
@[reducible] def Qbx:FuncId:=263
@[reducible] def Q4p:FuncId:=265
end
end Go.Proofs.YteflkifmgnpbhaaGreat
