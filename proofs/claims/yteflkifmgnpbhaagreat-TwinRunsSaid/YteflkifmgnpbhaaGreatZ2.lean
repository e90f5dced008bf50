
/- Lemmas of the proof, part 2: contracts. -/
import Derived.Test.YteflkifmgnpbhaaGreatZ1
import Derived.Laws.IdiomStrings
import Derived.Lib.Strings
import Derived.Test.YteflkifmgnpbhaaGreatProg
import Derived.Recover
open Go Go.Lir
variable {α Hd β:Type}{H H':KI}{T T' U0q:TypeId}{es m j l' h' Ts Ts2 nb fuel q off o0 n0 o1 n1 o2 n2 o3 n3:Nat}{v v2 u0 u1 u2 u3 v1 v3 v4 v' v0:Value}{F G K K':Nat→Prop}{css css' css2:List (List Value)}{w w0 B:World}{p:α→Prop}{cs us cs' ds args cap:List Value}{lo mx:Option Operand}{xs:List Bool}{S:Value→World→Prop}{x0 x1 x2 x3 x4:Operand}{a at' kd:Int}{R:Ending→World→Prop}{P:Program}{l2 ops l1:List α}{ys:List Int}{os:List Operand}{ch:List PanicEntry}{rs:List ResultVar}{D:TypeDesc}{Q:List Deferred→QT}{fn:Func}{ms:Array (String×TypeId)}{A:List (Nat×Value)}{gs:List GO}
set_option linter.unusedVariables false
set_option linter.unusedSimpArgs false
set_option maxHeartbeats 1000000
namespace Go.Lir
section
variable {p:Prop}
theorem C5 (h:p:=by simpa using h):p:=h
theorem Dl (h:p:=by rw [h.1];exact hm):p:=h
theorem Eb (h:p:=by rw [EM,FZ];rfl):p:=h
end
end Go.Lir
namespace Go.Lir
section
variable {p:Prop}
theorem AA (h:p:=by exact absurd rfl h):p:=h
theorem AG (h:p:=by exact hg.put uG h):p:=h
theorem BX (h:p:=by exact oQ (fun U w h=>pP h) (fun e U w hn h=>by cases e<;>first|exact h|exact absurd rfl hn) h):p:=h
theorem Cu (h:p:=by exact ⟨⟨x.1,x.2.1,x.2.2.1,x.2.2.2.1⟩,_,_,_,rfl,s1,s2,s3⟩):p:=h
theorem Cv (h:p:=by exact (hd ▸ m7 hr.2.1 ds _ _ h:Leaves P fn a.tmps R a.defers .returning w)):p:=h
end
end Go.Lir
namespace Go.Lir
section

structure Res where
 A:KI→(Nat→Prop)→Prop
 loc:∀{H H':KI}{F:Nat→Prop},A H F→(∀b,F b→b<H.size→H'[b]?=H[b]?)→A H' F
 lt:∀{H:KI}{F:Nat→Prop},A H F→∀b,F b→b<H.size
 ext:∀{H:KI}{F G:Nat→Prop},A H F→(∀b,F b↔G b)→A H G

def emp:Res:=⟨fun _ F=>∀b,¬F b,fun h _=>h,fun h b hb=>absurd hb (h b),fun h e b hb=>h b ((e b).2 hb)⟩
def star (r s:Res):Res where
 A H F:=∃F1 F2,r.A H F1∧s.A H F2∧(∀b,F1 b→¬F2 b)∧∀b,F b↔F1 b∨F2 b
 loc:=by
  rintro H H' F ⟨F1,F2,I,M,h3,h4⟩ h;exact ⟨F1,F2,r.loc I fun b hb=>h b ((h4 b).2 (.inl hb)),s.loc M fun b hb=>h b ((h4 b).2 (.inr hb)),h3,h4⟩
 lt:=by
  rintro H F ⟨F1,F2,I,M,h3,h4⟩ b hb;exact ((h4 b).1 hb).elim (r.lt I b) (s.lt M b)
 ext:=by
  rintro H F G ⟨F1,F2,I,M,h3,h4⟩ h;exact ⟨F1,F2,I,M,h3,fun b=>(h b).symm.trans (h4 b)⟩
def Res.ex {α:Type}(f:α→Res):Res where
 A H F:=∃x,(f x).A H F
 loc:=by rintro H H' F ⟨x,h⟩ h';exact ⟨x,(f x).loc h h'⟩
 lt:=by rintro H F ⟨x,h⟩ b hb;exact (f x).lt h b hb
 ext:=by rintro H F G ⟨x,h⟩ h';exact ⟨x,(f x).ext h h'⟩
def Res.pure (p:Prop)(r:Res):Res where
 A H F:=p∧r.A H F
 loc:=by rintro H H' F ⟨x,h⟩ h';exact ⟨x,r.loc h h'⟩
 lt:=by rintro H F ⟨x,h⟩ b hb;exact r.lt h b hb
 ext:=by rintro H F G ⟨x,h⟩ h';exact ⟨x,r.ext h h'⟩
def blk (b:Nat)(T:TypeId)(cs:List Value):Res where
 A H F:=Ll H b T cs∧∀x,F x↔x=b
 loc:=by rintro H H' F ⟨h,hf⟩ h';exact ⟨h.of_same (h' b ((hf b).2 rfl) h.lt),hf⟩
 lt:=by rintro H F ⟨h,hf⟩ x hx;rw [(hf x).1 hx];exact h.lt
 ext:=by rintro H F G ⟨h,hf⟩ h';exact ⟨h,fun x=>(h' x).symm.trans (hf x)⟩
theorem Sl.ext (h:Sl H T es v F css)(he:∀b,F b↔G b):Sl H T es v G css:=by
 obtain ⟨h0,⟨I,M,h3⟩|⟨b,off,cap,arr,I,M,hb,h3,h4,hf⟩⟩:=h
 · exact ⟨h0, .inl ⟨I,M,fun b hb=>h3 b ((he b).2 hb)⟩⟩
 · exact ⟨h0, .inr ⟨b,off,cap,arr,I,M,hb,h3,h4,fun x=>(he x).symm.trans (hf x)⟩⟩
def sl (T:TypeId)(es:Nat)(v:Value)(css:List (List Value)):Res where
 A H F:=Sl H T es v F css
 loc h h':=h.of_same h'
 lt h:=h.lt
 ext h h':=h.ext h'

def Rx:List Res→Res
 | []=>emp
 | r::L=>star r (Rx L)

theorem QgM {r s t:Res}(h:(star r (star s t)).A H F):(star s (star r t)).A H F:=by
 obtain ⟨F1,F2,I,⟨G1,G2,g1,g2,g3,g4⟩,h3,h4⟩:=h;refine ⟨G1,fun b=>F1 b∨G2 b,g1,⟨F1,G2,I,g2,fun b hb hg=>h3 b hb ((g4 b).2 (.inr hg)),fun b=>GY⟩,?_,?_⟩
 · rintro b hb (h|h)
   · exact h3 b h ((g4 b).2 (.inl hb))
   · exact g3 b hb h
 · intro b;rw [h4 b,g4 b]
   constructor
   · rintro (h|h|h);exact .inr (.inl h);exact .inl h;exact .inr (.inr h)
   · rintro (h|h|h);exact .inr (.inl h);exact .inl h;exact .inr (.inr h)
theorem QgO {L L':List Res}(hp:L.Perm L'):∀{H:KI}{F:Nat→Prop},(Rx L).A H F→(Rx L').A H F:=by
 induction hp with
 | nil=>intro H F h;exact h
 | cons r _ ih=>rintro H F ⟨F1,F2,I,M,h3,h4⟩;exact ⟨F1,F2,I,ih M,h3,h4⟩
 | swap r s t=>intro H F h;exact QgM h
 | trans _ _ ih1 ih2=>intro H F h;exact ih2 (ih1 h)

structure Cx where
 base:World
 K:Nat→Prop
 H0:KI

structure Cx.Ok (c:Cx) (w:World):Prop where
 os:w.os=c.base.os
 tape:w.tape=c.base.tape
 output:w.output=c.base.output
 size:c.H0.size≤w.heap.size
 lt:∀b,c.K b→b<c.H0.size
 same:∀b,c.K b→w.heap[b]?=c.H0[b]?

def St (c:Cx)(w:World)(L:List Res):Prop:=c.Ok w∧∃F,(Rx L).A w.heap F∧∀b,F b→¬c.K b

structure Cx.Le (c c':Cx):Prop where
 base:c'.base=c.base
 K:∀b,c.K b→c'.K b∧c'.H0[b]?=c.H0[b]?
 size:c.H0.size≤c'.H0.size
 lt:∀b,c.K b→b<c.H0.size
theorem Cx.Ok.refl {c:Cx}(h:c.Ok w):c.Le c:=⟨rfl,fun _ hb=>⟨hb,rfl⟩,E6 _,h.lt⟩
theorem St.refl {c:Cx}{L:List Res}(h:St c w L):c.Le c:=h.1.refl
abbrev Fs:=@St.refl
theorem Cx.Le.trans {c c' c'':Cx}(h:c.Le c')(k:c'.Le c''):c.Le c'':=
 ⟨k.base.trans h.base,fun b hb=>⟨(k.K b (h.K b hb).1).1,(k.K b (h.K b hb).1).2.trans (h.K b hb).2⟩,Gs h.size k.size,h.lt⟩
theorem St.weak {c c':Cx}{L:List Res}(h:St c' w L)(hle:c.Le c'):St c w L:=by
 obtain ⟨ok,F,hF,hd⟩:=h;exact ⟨⟨by rw [ok.os,hle.base],by rw [ok.tape,hle.base],by rw [ok.output,hle.base],Gs hle.size ok.size,hle.lt,fun b hb=>(ok.same b (hle.K b hb).1).trans (hle.K b hb).2⟩,F,hF,fun b hb hk=>hd b hb (hle.K b hk).1⟩

abbrev Ge:=@St.weak
theorem St.perm {c:Cx}{L L':List Res}(h:St c w L)(hp:L.Perm L'):St c w L':=by
 obtain ⟨ok,F,hF,hd⟩:=h;exact ⟨ok,F,QgO hp hF,hd⟩
theorem St.drop {c:Cx}{r:Res}{L:List Res}(h:St c w (r::L)):St c w L:=by
 obtain ⟨ok,F,⟨F1,F2,I,M,h3,h4⟩,hd⟩:=h;exact ⟨ok,F2,M,fun b hb=>hd b ((h4 b).2 (.inr hb))⟩
theorem St.dropL {c:Cx}{M0q L:List Res}(h:St c w (M0q++L)):St c w L:=by
 induction M0q with
 | nil=>exact h
 | cons r M0q ih=>exact ih h.drop

def nth:List Res→Nat→Option Res
 | [],_=>none
 | r::_,0=>some r
 | _::L,i+1=>nth L i
theorem Tw:∀{L:List Res}{i:Nat}{r:Res},nth L i=some r→L.Perm (r::L.eraseIdx i)
 | [],_,_,h=>by cases h
 | s::L,0,r,h=>by simp only [nth,E3] at h;subst h;exact .refl _
 | s::L,i+1,r,h=>by
   have:=Tw (L:=L) (i:=i) h;exact (this.cons s).trans (.swap _ _ _)
theorem j7:∀{L:List Res}{i:Nat}{r r':Res},nth L i=some r→(r'::L.eraseIdx i).Perm (L.set i r')
 | [],_,_,_,h=>by cases h
 | s::L,0,r,r',h=> .refl _
 | s::L,i+1,r,r',h=>(List.Perm.swap _ _ _).trans ((j7 (L:=L) (i:=i) h).cons s)
section
variable {a b c d e f g h i j k m:Res}{L:List Res}
theorem KL:nth (a::L) 0=some a:=rfl
theorem Yx:nth (a::b::L) 1=some b:=rfl
theorem PU:nth (a::b::c::L) 2=some c:=rfl
end
inductive NthP:List Res→Nat→Res→Prop where
 | z {r:Res}{L:List Res}:NthP (r::L) 0 r
 | s {a r:Res}{L:List Res}{i:Nat}:NthP L i r→NthP (a::L) (i+1) r
theorem NthP.nth {L:List Res}{i:Nat}{r:Res}(h:NthP L i r):nth L i=some r:=by
 induction h with
 | z=>rfl
 | s _ ih=>exact ih
abbrev Fj:=@NthP.nth
inductive Pick:List Res→Res→List Res→Prop where
 | z {r:Res}{L:List Res}:Pick (r::L) r L
 | s {a r:Res}{L L':List Res}:Pick L r L'→Pick (a::L) r (a::L')
theorem Pick.perm {L L':List Res}{r:Res}(h:Pick L r L'):L.Perm (r::L'):=by
 induction h with
 | z=>exact .refl _
 | s _ ih=>exact (ih.cons _).trans (.swap _ _ _)
inductive SubP:List Res→List Res→Prop where
 | same {L:List Res}:SubP L L
 | nil {L:List Res}:SubP [] L
 | take {r:Res}{M0q L L':List Res}:Pick L r L'→SubP M0q L'→SubP (r::M0q) L
 | cut {a:Res}{M0q L:List Res}:SubP M0q L→SubP M0q (a::L)
section
variable {a b c d e f g h i j k m:Res}{L:List Res}{C:Cx}{w:World}
theorem St.mv1 (h:St C w (a::b::L)):St C w (b::a::L):=h.perm (Tw (i:=1) rfl)
theorem St.mv2 (h:St C w (a::b::c::L)):St C w (c::a::b::L):=h.perm (Tw (i:=2) rfl)
theorem St.mv3 (h:St C w (a::b::c::d::L)):St C w (d::a::b::c::L):=h.perm (Tw (i:=3) rfl)
theorem St.mv4 (h:St C w (a::b::c::d::e::L)):St C w (e::a::b::c::d::L):=h.perm (Tw (i:=4) rfl)
theorem St.mv5 (h:St C w (a::b::c::d::e::f::L)):St C w (f::a::b::c::d::e::L):=h.perm (Tw (i:=5) rfl)
end
def Ny (L' L:List Res):Prop:=∃M0q,L.Perm (L'++M0q)
theorem St.sub {c:Cx}{L L':List Res}(h:St c w L)(hs:Ny L' L):St c w L':=by
 obtain ⟨M0q,hp⟩:=hs;exact ((h.perm hp).perm HZ).dropL
theorem SubP.sub {L L':List Res}(h:SubP L' L):∃M0q,L.Perm (L'++M0q):=by
 induction h with
 | same=>exact ⟨[],by rw [FX]⟩
 | nil=>exact ⟨_, .refl _⟩
 | take hp _ ih=>obtain ⟨M0q,hm⟩:=ih;exact ⟨M0q,hp.perm.trans (hm.cons _)⟩
 | cut _ ih=>obtain ⟨M0q,hm⟩:=ih;exact ⟨_::M0q,(hm.cons _).trans GV.symm⟩
theorem St.subP {c:Cx}{L L':List Res}(h:St c w L)(hs:SubP L' L):St c w L':=h.sub hs.sub
theorem Ny.same (L:List Res):Ny L L:=⟨[],by rw [FX]⟩
theorem Ny.nil (L:List Res):Ny [] L:=⟨L, .refl _⟩
theorem Ny.cut {r:Res}{L' L:List Res}(h:Ny L' L):Ny L' (r::L):=by
 obtain ⟨M0q,hp⟩:=h;exact ⟨r::M0q,(hp.cons r).trans GV.symm⟩
theorem Ny.take {L' L:List Res}(i:Nat){r:Res}(hi:nth L i=some r)(h:Ny L' (L.eraseIdx i)):Ny (r::L') L:=by
 obtain ⟨M0q,hp⟩:=h;exact ⟨M0q,(Tw hi).trans (hp.cons r)⟩
section
variable {a b c d e f g h i j k m r:Res}{L L':List Res}
theorem Ny.t0 (H:Ny L' L):Ny (r::L') (r::L):= .take 0 rfl H
theorem Ny.t1 (H:Ny L' (a::L)):Ny (r::L') (a::r::L):= .take 1 rfl H
theorem Ny.t2 {H:Ny L' (a::b::L)}:Ny (r::L') (a::b::r::L):= .take 2 rfl H
theorem Ny.t3 (H:Ny L' (a::b::c::L)):Ny (r::L') (a::b::c::r::L):= .take 3 rfl H
theorem Ny.t4 (H:Ny L' (a::b::c::d::L)):Ny (r::L') (a::b::c::d::r::L):= .take 4 rfl H
end

section
variable {c c':Cx}{w B:World}{L:List Res}
theorem St.ok (h:St c w L):c.Ok w:=h.1
theorem St.step {i:Nat}{r:Res}(h:St c w L)(hi:nth L i=some r):∃F,r.A w.heap F∧(∀b,F b→¬c.K b)∧∀B F' r',r'.A B.heap F'→Step F F' w B→St c B (L.set i r'):=by
 obtain ⟨ok,F,⟨F1,F2,I,M,h3,h4⟩,hd⟩:=h.perm (Tw hi);refine ⟨F1,I,fun b hb=>hd b ((h4 b).2 (.inl hb)),fun B F' r' hr hs=>St.perm ?_ (j7 hi)⟩;have hf:=hs.fr;refine ⟨⟨hf.os.trans ok.os,hf.tape.trans ok.tape,hf.output.trans ok.output,Gs ok.size hf.size,ok.lt,fun b hb=>?_⟩,fun b=>F' b∨F2 b,⟨F',F2,hr,?_,?_,fun b=>GY⟩,?_⟩
 · exact (hf.same b (GL (ok.lt b hb) ok.size) fun hF=>hd b ((h4 b).2 (.inl hF)) hb).trans (ok.same b hb)
 · exact (Rx _).loc M fun b hb hlt=>hf.same b hlt fun hF=>h3 b hF hb
 · intro b hb hb2;exact (hs.sub b hb).elim (fun h=>h3 b h hb2) (fun h=>absurd ((Rx _).lt M b hb2) V)
 · rintro b (hb|hb) hk
   · exact (hs.sub b hb).elim (fun h=>hd b ((h4 b).2 (.inl h)) hk) (fun h=>absurd (ok.lt b hk) (by have:=ok.size;omega))
   · exact hd b ((h4 b).2 (.inr hb)) hk
theorem St.fr0 (h:St c w L)(hf:Fr NF w B):St c B L:=by
 obtain ⟨ok,F,hF,hd⟩:=h;exact ⟨⟨hf.os.trans ok.os,hf.tape.trans ok.tape,hf.output.trans ok.output,Gs ok.size hf.size,ok.lt,fun b hb=>(hf.same b (GL (ok.lt b hb) ok.size) fun h=>h).trans (ok.same b hb)⟩,F,(Rx _).loc hF fun b _ hlt=>hf.same b hlt fun h=>h,hd⟩
theorem St.new {r:Res}{F':Nat→Prop}(h:St c w L)(hr:r.A B.heap F')(hf:Fr NF w B)(hn:∀b,F' b→w.heap.size≤b):St c B (r::L):=by
 obtain ⟨ok,F,hF,hd⟩:=h;refine ⟨(St.fr0 ⟨ok,F,hF,hd⟩ hf).1,fun b=>F' b∨F b,⟨F',F,hr,(Rx _).loc hF fun b _ hlt=>hf.same b hlt fun h=>h,fun b hb hb2=>absurd ((Rx _).lt hF b hb2) (by have:=hn b hb;omega),fun b=>GY⟩,?_⟩;rintro b (hb|hb) hk
 · exact absurd (ok.lt b hk) (by have:=ok.size;have:=hn b hb;omega)
 · exact hd b hb hk
theorem St.emp {r:Res}(h:St c w L)(hr:r.A w.heap NF):St c w (r::L):=h.new hr (Hw _ _) fun _ h=>h.elim
theorem St.nil (h:St c w L):St c w (sl T es (.slice none 0 0) []::L):=h.emp (Sl.nil _ _ _)
abbrev Gg:=@St.nil
theorem St.drew (h:St c w L):St c w.drew L:=h.fr0 (JC (Hw _ _))
theorem St.res {i:Nat}{r:Res}(h:St c w L)(hi:nth L i=some r):∃F,r.A w.heap F:=by
 obtain ⟨F,I,_⟩:=h.step hi;exact ⟨F,I⟩
theorem St.freeze {r:Res}(h:St c w (r::L)):∃c' F,c.Le c'∧St c' w L∧r.A c'.H0 F∧∀b,F b→c'.K b:=by
 obtain ⟨ok,F,⟨F1,F2,I,M,h3,h4⟩,hd⟩:=h;refine ⟨⟨c.base,fun b=>c.K b∨F1 b,w.heap⟩,F1,⟨rfl,fun b hb=>⟨.inl hb,ok.same b hb⟩,ok.size,ok.lt⟩,⟨⟨ok.os,ok.tape,ok.output,E6 _,fun b hb=>hb.elim (fun hb=>GL (ok.lt b hb) ok.size) (r.lt I b),fun b _=>rfl⟩,F2,M,?_⟩,I,fun b hb=> .inr hb⟩;rintro b hb (hk|hk)
 · exact hd b ((h4 b).2 (.inr hb)) hk
 · exact h3 b hk hb
theorem St.ex {f:α→Res}(h:St c w (Res.ex f::L)):∃x,St c w (f x::L):=by
 obtain ⟨ok,F,⟨F1,F2,⟨x,I⟩,M,h3,h4⟩,hd⟩:=h;exact ⟨x,ok,F,⟨F1,F2,I,M,h3,h4⟩,hd⟩
theorem St.ex' {f:α→Res}(x:α)(h:St c w (f x::L)):St c w (Res.ex f::L):=by
 obtain ⟨ok,F,⟨F1,F2,I,M,h3,h4⟩,hd⟩:=h;exact ⟨ok,F,⟨F1,F2,⟨x,I⟩,M,h3,h4⟩,hd⟩
abbrev Jh:=@St.ex'
theorem St.pure {p:Prop}{r:Res}(h:St c w (Res.pure p r::L)):p∧St c w (r::L):=by
 obtain ⟨ok,F,⟨F1,F2,⟨x,I⟩,M,h3,h4⟩,hd⟩:=h;exact ⟨x,ok,F,⟨F1,F2,I,M,h3,h4⟩,hd⟩
theorem St.pure' {p:Prop}{r:Res}(x:p)(h:St c w (r::L)):St c w (Res.pure p r::L):=by
 obtain ⟨ok,F,⟨F1,F2,I,M,h3,h4⟩,hd⟩:=h;exact ⟨ok,F,⟨F1,F2,⟨x,I⟩,M,h3,h4⟩,hd⟩
abbrev JE:=@St.pure'
theorem QgN {r s t:Res}(h:(star (star r s) t).A H F):(star r (star s t)).A H F:=by
 obtain ⟨F1,F2,⟨G1,G2,g1,g2,g3,g4⟩,M,h3,h4⟩:=h;refine ⟨G1,fun b=>G2 b∨F2 b,g1,⟨G2,F2,g2,M,fun b hb=>h3 b ((g4 b).2 (.inr hb)),fun b=>GY⟩,?_,fun b=>?_⟩
 · rintro b hb (h|h)
   · exact g3 b hb h
   · exact h3 b ((g4 b).2 (.inl hb)) h
 · rw [h4 b,g4 b,or_assoc]
theorem Qel {r s t:Res}(h:(star r (star s t)).A H F):(star (star r s) t).A H F:=by
 obtain ⟨F1,F2,I,⟨G1,G2,g1,g2,g3,g4⟩,h3,h4⟩:=h;refine ⟨fun b=>F1 b∨G1 b,G2,⟨F1,G1,I,g1,fun b hb hg=>h3 b hb ((g4 b).2 (.inl hg)),fun b=>GY⟩,g2,?_,fun b=>?_⟩
 · rintro b (hb|hb) hg
   · exact h3 b hb ((g4 b).2 (.inr hg))
   · exact g3 b hb hg
 · rw [h4 b,g4 b,or_assoc]
theorem St.star {r s:Res}(h:St c w (star r s::L)):St c w (r::s::L):=by
 obtain ⟨ok,F,h,hd⟩:=h;exact ⟨ok,F,QgN h,hd⟩
abbrev IJ:=@St.star
theorem St.star' {r s:Res}(h:St c w (r::s::L)):St c w (Go.Lir.star r s::L):=by
 obtain ⟨ok,F,h,hd⟩:=h;exact ⟨ok,F,Qel h,hd⟩
abbrev G8:=@St.star'
theorem St.imp {r r':Res}(h:St c w (r::L))(hi:∀H F,r.A H F→r'.A H F):St c w (r'::L):=by
 obtain ⟨ok,F,⟨F1,F2,I,M,h3,h4⟩,hd⟩:=h;exact ⟨ok,F,⟨F1,F2,hi _ _ I,M,h3,h4⟩,hd⟩
theorem St.out {i:Nat}{r:Res}(h:St c w L)(hi:nth L i=some r):St c w (r::L.eraseIdx i):=h.perm (Tw hi)
theorem St.back {i:Nat}{r r':Res}(h:St c w (r'::L.eraseIdx i))(hi:nth L i=some r):St c w (L.set i r'):=h.perm (j7 hi)
abbrev F4:=@St.back
theorem St.back0 {i:Nat}{r:Res}(h:St c w (r::L.eraseIdx i))(hi:nth L i=some r):St c w L:=h.perm (Tw hi).symm
abbrev Ff:=@St.back0
theorem St.list:∀{M0q L:List Res},St c w (Rx M0q::L)→St c w (M0q++L)
 | [],L,h=>h.drop
 | r::M0q,L,h=>by
   have I:=St.list (M0q:=M0q) (L:=r::L) (St.mv1 (IJ h));exact I.perm (GV)
theorem St.list':∀{M0q L:List Res},St c w (M0q++L)→St c w (Rx M0q::L)
 | [],L,h=>h.emp (r:=Go.Lir.emp) fun _ h=>h
 | r::M0q,L,h=>by
   have I:St c w (M0q++r::L):=h.perm (GV.symm);exact (St.mv1 (St.list' I)).star'
abbrev It:=@St.list'
def KV {α:Type}(f:α→Res)(l:List α):Res:=Rx (l.map f)
theorem pQ {α β:Type}(f:α→β):∀(l:List α) (k:Nat),(l.eraseIdx k).map f=(l.map f).eraseIdx k
 | [],_=>rfl
 | _::_,0=>rfl
 | x::l,k+1=>by simp only [Gn,Ga,pQ f l k]
theorem pR {α:Type}(f:α→Res):∀{l:List α}{k:Nat}{x:α},l[k]?=some x→nth (l.map f) k=some (f x)
 | [],_,_,h=>by simp at h
 | y::l,0,x,h=>by simp at h;subst h;rfl
 | y::l,k+1,x,h=>pR f (l:=l) C5
theorem St.bigOut {f:α→Res}{l:List α}{i k:Nat}{x:α}(h:St c w L)(hi:nth L i=some (KV f l))(hk:l[k]?=some x):St c w (f x::L.set i (KV f (l.eraseIdx k))):=by
 have I:St c w (l.map f++L.eraseIdx i):=(h.out hi).list;have M:St c w ((f x::(l.map f).eraseIdx k)++L.eraseIdx i):=I.perm ((Tw (pR f hk)).append_right _);rw [←pQ] at M;have h3:St c w ((l.eraseIdx k).map f++f x::L.eraseIdx i):=M.perm GV.symm;have h4:St c w (KV f (l.eraseIdx k)::f x::L.eraseIdx i):=h3.list';exact h4.mv1.perm ((j7 hi).cons _)
theorem St.bigIn {f:α→Res}{l:List α}{i k:Nat}{x':α}(h:St c w (f x'::L))(hi:nth L i=some (KV f (l.eraseIdx k)))(hk:k<l.length):St c w (L.set i (KV f (l.set k x'))):=by
 have I:St c w (KV f (l.eraseIdx k)::f x'::L.eraseIdx i):=((h.perm ((Tw hi).cons _)):St c w (f x'::KV f (l.eraseIdx k)::L.eraseIdx i)).mv1;have M:St c w ((l.eraseIdx k).map f++f x'::L.eraseIdx i):=I.list;rw [pQ] at M;have h3:St c w (f x'::(l.map f).eraseIdx k++L.eraseIdx i):=M.perm GV;have hx:nth (l.map f) k=some (f (l[k]'hk)):=pR f (EI hk);have h4:St c w ((l.map f).set k (f x')++L.eraseIdx i):=h3.perm ((j7 hx).append_right _);rw [←F3] at h4;exact (It h4:St c w (KV f (l.set k x')::L.eraseIdx i)).back hi
abbrev H7:=@St.bigIn
theorem iC {l:List α}{k:Nat}{x:α}(h:l[k]?=some x):l.set k x=l:=by
 apply GC;intro j;rw [Gb];split
 · rename_i e;subst e;rw [Qip (EJ.1 h).1,h]
 · rfl

def Cx.top (w:World):Cx:=⟨w,(· < w.heap.size),w.heap⟩
theorem St.top (w:World):St (Cx.top w) w []:=⟨⟨rfl,rfl,rfl,E6 _,fun _ h=>h,fun _ _=>rfl⟩,NF,fun _ h=>h,fun _ h=>h.elim⟩
theorem St.fr (h:St (Cx.top w0) w L):Fr NF w0 w:=⟨h.1.os,h.1.tape,h.1.output,h.1.size,fun b hb _=>h.1.same b hb⟩
end

abbrev NV (c:Cx)(es:Nat)(v:Value)(css:List (List Value)):Prop:=MA c.H0 es v c.K css
def OV (c:Cx)(b o:Nat)(cs:List Value):Prop:=c.K b∧At c.H0 b o cs
theorem OV.up {c c':Cx}{b o:Nat}(h:OV c b o cs)(hle:c.Le c'):OV c' b o cs:=⟨(hle.K b h.1).1,h.2.of_same (hle.K b h.1).2⟩
theorem NV.up {c c':Cx}(h:NV c es v css)(hle:c.Le c'):NV c' es v css:=by
 obtain ⟨h0,a,cap,hv,hlc,O|⟨b,off,ha,hF,hb,hat⟩⟩:=h
 · exact AZ
 · exact ⟨h0,a,cap,hv,hlc, .inr ⟨b,off,ha,(hle.K b hF).1,GL hb hle.size,fun m c hm=>(hat m c hm).of_same (hle.K b hF).2⟩⟩
theorem NV.now {c:Cx}{L:List Res}(h:NV c es v css)(Z:St c w L):MA w.heap es v c.K css:=
 MA.of_same h fun b hb _=>Z.1.same b hb
theorem OV.now {c:Cx}{L:List Res}{b o:Nat}(h:OV c b o cs)(Z:St c w L):At w.heap b o cs:=h.2.of_same (Z.1.same b h.1)
theorem NV.top (h:MA w.heap es v (fun _=>True) css):NV (Cx.top w) es v css:=HC h fun _ hb _=>hb
theorem NV.nil (c:Cx)(es:Nat):NV c es (.slice none 0 0) []:=⟨by simp,none,0,rfl,E6 _, .inl rfl⟩
theorem St.freezeS {c:Cx}{L:List Res}{T:TypeId}{es:Nat}{v:Value}{css:List (List Value)}(h:St c w (sl T es v css::L)):∃c',c.Le c'∧St c' w L∧NV c' es v css:=by
 obtain ⟨c',F,I,M,h3,h4⟩:=h.freeze;exact ⟨c',I,M,HC (Sl.toR h3) fun b _ hb=>h4 b hb⟩
def NJ (v:Value)(n es m b o:Nat):Prop:=m<n∧∃off cap,v= .slice (some ⟨b,off,none⟩) n cap∧o=off+m*es
theorem NJ.el {n b o:Nat}(h:NJ v n es m b o)(hn:css.length=n)(hs:Sl H T es v F css):El H T es v F css m b o:=by
 subst hn;exact ⟨hs,h.1,h.2⟩

section
variable {P:Program}{l:List GO}{Q:QT}{U:KD}{w:World}{c:Cx}{L:List Res}{i:Nat}{T es:Nat}{v:Value}{css:List (List Value)}

theorem Pz {d:Nat}{x:Operand}{b o:Nat}{u:Value}(Z:St c w L)(hx:U.ev x= .pointer (some ⟨b,o,none⟩))(hi:nth L i=some (blk b T cs))(hu:cs[o]?=some u)
 (h:Q0 P l Q (upd U d u) w):Q0 P (⟨none, .load1 d x⟩::l) Q U w:=by
 obtain ⟨F,I,_⟩:=Z.step hi;exact OD hx I.1 hu h
theorem pS {d n:Nat}{x:Operand}{b o:Nat}(Z:St c w L)(hx:U.ev x= .pointer (some ⟨b,o,none⟩))(hi:nth L i=some (blk b T cs))(hu:(cs.drop o).take n=us)(hl:us.length=n)
 (h:Q0 P l Q (upd U d (.agg ⟨us⟩)) w):Q0 P (⟨none, .loadn d n x⟩::l) Q U w:=by
 obtain ⟨F,I,_⟩:=Z.step hi;exact Yg hx I.1 hu hl h
theorem uH {b:Nat}(h:∀x,F x↔x=b)(hf:Fr (· =b) w B):Step F F w B:=HQ (hf.into fun x hx=>(h x).2 hx)
theorem uI {x y:Operand}{b o:Nat}{u:Value}(Z:St c w L)(hx:U.ev x= .pointer (some ⟨b,o,none⟩))(hy:U.ev y=u)(hi:nth L i=some (blk b T cs))(ho:o<cs.length)(I:oneC u=true)
 (h:∀B,St c B (L.set i (blk b T (cs.set o u)))→Q0 P l Q U B):Q0 P (⟨none, .store1 x y⟩::l) Q U w:=by
 obtain ⟨F,hr,_,hst⟩:=Z.step hi;exact uk hx hy hr.1 ho I fun B hf _ hb=>h B (hst B F _ ⟨hb,hr.2⟩ (uH hr.2 hf))
theorem pT {x y:Operand}{b o:Nat}{u:Value}(Z:St c w L)(hx:U.ev x= .pointer (some ⟨b,o,none⟩))(hy:U.ev y=u)(hi:nth L i=some (blk b T cs))(ho:o<cs.length)(I:oneC u=true)(O:cs.set o u=cs')
 (h:∀B,St c B (L.set i (blk b T cs'))→Q0 P l Q U B):Q0 P (⟨none, .store1 x y⟩::l) Q U w:=by subst O;exact uI Z hx hy hi ho I h
theorem On {n:Nat}{x y:Operand}{b o:Nat}(Z:St c w L)(hx:U.ev x= .pointer (some ⟨b,o,none⟩))(hy:U.ev y= .agg ⟨us⟩)(hn:us.length=n)(hi:nth L i=some (blk b T cs))(ho:o+n≤cs.length)(I:∀u∈us,oneC u=true)
 (O:cs.take o++(us++cs.drop (o+n))=cs')(h:∀B,St c B (L.set i (blk b T cs'))→Q0 P l Q U B):Q0 P (⟨none, .storen n x y⟩::l) Q U w:=by
 subst O;obtain ⟨F,hr,_,hst⟩:=Z.step hi;exact um hx hy hn hr.1 ho I fun B hf _ hb=>h B (hst B F _ ⟨hb,hr.2⟩ (uH hr.2 hf))
theorem St.blkAt {b:Nat}(Z:St c w L)(hi:nth L i=some (blk b T cs)):Ll w.heap b T cs:=by
 obtain ⟨F,hr,_⟩:=Z.step hi;exact hr.1
theorem Qb {d:Nat}{z:List Value}(Z:St c w L)(h:∀b B,St c B (blk b T z::L)→Q0 P l Q (upd U d (.pointer (some ⟨b,0,none⟩))) B):Q0 P (⟨none, .alloc d T z⟩::l) Q U w:=
 pt fun b B hb hf _ hk=>h b B (Z.new (F':=(· =b)) ⟨hk,fun _=>GY⟩ hf fun x hx=>by omega)
theorem Ma {d:Nat}{x:Operand}{cs:List Value}(Z:St c w L)(hx:U.ev x=v)(O:v.cells=⟨cs⟩)(h:∀b B,St c B (blk b T cs::L)→Q0 P l Q (upd U d (.pointer (some ⟨b,0,none⟩))) B):Q0 P (⟨none, .box d T x⟩::l) Q U w:=
 pM hx O fun b B hb hf _ hk=>h b B (Z.new (F':=(· =b)) ⟨hk,fun _=>GY⟩ hf fun x hx=>by omega)
theorem St.laid {b:Nat}(Z:St c w L)(hb:b=w.heap.size)(hf:Fr NF w B)(hk:Ll B.heap b T cs):St c B (blk b T cs::L):=Z.new (F':=(· =b)) ⟨hk,fun _=>GY⟩ hf fun x hx=>by omega
theorem St.slOf {b n:Nat}{cs:List Value}(Z:St c w (blk b T cs::L))(hf:css.flatten=cs)(hl:∀c∈css,c.length=es)(hn:css.length=n):St c w (sl T es (.slice (some ⟨b,0,none⟩) n n) css::L):=
 Z.imp fun _ _ h=>Sl.ext (Is h.1 hf hl hn) fun x=>(h.2 x).symm

abbrev Fz:=@St.slOf
theorem OW {d m:Nat}{x y:Operand}{k:IntKind}(Z:St c w L)(hx:U.ev x=v)(hy:U.ev y= .int k (m:Int))(hi:nth L i=some (sl T es v css))(hm:m<css.length)
 (h:∀b o,NJ v css.length es m b o→Q0 P l Q (upd U d (.pointer (some ⟨b,o,none⟩))) w):Q0 P (⟨none, .idx d es x y⟩::l) Q U w:=by
 obtain ⟨F,hr,_⟩:=Z.step hi;exact di hx hy hr hm fun b o he=>h b o ⟨he.2,he.3⟩
theorem QA {d:Nat}{x y:Operand}{k:IntKind}{n:Int}(Z:St c w L)(hx:U.ev x=v)(hy:U.ev y= .int k n)(hi:nth L i=some (sl T es v css))(h0:0≤n)(hm:n<css.length)
 (h:∀b o,NJ v css.length es n.toNat b o→Q0 P l Q (upd U d (.pointer (some ⟨b,o,none⟩))) w):Q0 P (⟨none, .idx d es x y⟩::l) Q U w:=by
 obtain ⟨F,hr,_⟩:=Z.step hi;exact pF hx hy hr h0 hm fun b o he=>h b o ⟨he.2,he.3⟩
theorem dj {d:Nat}{x:Operand}(Z:St c w L)(hx:U.ev x=v)(hi:nth L i=some (sl T es v css))(h:Q0 P l Q (upd U d (.int .i64 css.length)) w):Q0 P (⟨none, .len d x⟩::l) Q U w:=by
 obtain ⟨F,hr,_⟩:=Z.step hi;exact XE hx hr h
theorem Q9 {d n:Nat}{x:Operand}{b o:Nat}{u:Value}(Z:St c w L)(he:NJ v n es m b o)(hx:U.ev x= .pointer (some ⟨b,o+j,none⟩))(hi:nth L i=some (sl T es v css))(hn:css.length=n)(O:css[m]?=some cs)(hu:cs[j]?=some u)
 (h:Q0 P l Q (upd U d u) w):Q0 P (⟨none, .load1 d x⟩::l) Q U w:=by
 obtain ⟨F,hr,_⟩:=Z.step hi;exact T7 hx (he.el hn hr) O hu h
theorem QV {d n:Nat}{x:Operand}{b o:Nat}{u:Value}(Z:St c w L)(he:NJ v n es m b o)(hx:U.ev x= .pointer (some ⟨b,o,none⟩))(hi:nth L i=some (sl T es v css))(hn:css.length=n)(O:css[m]?=some cs)(hu:cs[0]?=some u)
 (h:Q0 P l Q (upd U d u) w):Q0 P (⟨none, .load1 d x⟩::l) Q U w:=Q9 (j:=0) Z he hx hi hn O hu h
theorem NW {d n:Nat}{x:Operand}{b o:Nat}(Z:St c w L)(he:NJ v n es m b o)(hx:U.ev x= .pointer (some ⟨b,o,none⟩))(hi:nth L i=some (sl T es v css))(hn:css.length=n)(O:css[m]?=some cs)
 (h:Q0 P l Q (upd U d (.agg ⟨cs⟩)) w):Q0 P (⟨none, .loadn d es x⟩::l) Q U w:=by
 obtain ⟨F,hr,_⟩:=Z.step hi;exact T8 hx (he.el hn hr) O h
theorem uJ {n:Nat}{x y:Operand}{b o:Nat}{u:Value}(Z:St c w L)(he:NJ v n es m b o)(hx:U.ev x= .pointer (some ⟨b,o+j,none⟩))(hy:U.ev y=u)(hi:nth L i=some (sl T es v css))(hn:css.length=n)(O:css[m]?=some cs)(hj:j<es)(ho:oneC u=true)
 (h:∀B,St c B (L.set i (sl T es v (css.set m (cs.set j u))))→Q0 P l Q U B):Q0 P (⟨none, .store1 x y⟩::l) Q U w:=by
 obtain ⟨F,hr,_,hst⟩:=Z.step hi;exact uv hx hy (he.el hn hr) O hj ho fun B hf _ hk=>h B (hst B F _ hk.sl (HQ hf))
theorem uK {n:Nat}{x y:Operand}{b o:Nat}{u:Value}(Z:St c w L)(he:NJ v n es m b o)(hx:U.ev x= .pointer (some ⟨b,o,none⟩))(hy:U.ev y=u)(hi:nth L i=some (sl T es v css))(hn:css.length=n)(O:css[m]?=some cs)(hj:0<es)(ho:oneC u=true)
 (h:∀B,St c B (L.set i (sl T es v (css.set m (cs.set 0 u))))→Q0 P l Q U B):Q0 P (⟨none, .store1 x y⟩::l) Q U w:=uJ (j:=0) Z he hx hy hi hn O hj ho h
theorem pU {n:Nat}{x y:Operand}{b o:Nat}{k:Nat}(Z:St c w L)(he:NJ v n es m b o)(hx:U.ev x= .pointer (some ⟨b,o,none⟩))(hy:U.ev y= .agg ⟨us⟩)(hk:us.length=k)(hi:nth L i=some (sl T es v css))(hn:css.length=n)(O:css[m]?=some cs)(hl:us.length=es)(ho:∀u∈us,oneC u=true)
 (h:∀B,St c B (L.set i (sl T es v (css.set m us)))→Q0 P l Q U B):Q0 P (⟨none, .storen k x y⟩::l) Q U w:=by
 obtain ⟨F,hr,_,hst⟩:=Z.step hi;exact Qie hx hy hk (he.el hn hr) O hl ho fun B hf _ hk=>h B (hst B F _ hk.sl (HQ hf))
theorem QC {n:Nat}{x y:Operand}{b o:Nat}{u:Value}(Z:St c w L)(he:NJ v n es m b o)(hx:U.ev x= .pointer (some ⟨b,o+j,none⟩))(hy:U.ev y=u)(hi:nth L i=some (sl T es v css))(hn:css.length=n)(O:css[m]?=some cs)(hj:j<es)(ho:oneC u=true)
 (hc':css.set m (cs.set j u)=css')(h:∀B,St c B (L.set i (sl T es v css'))→Q0 P l Q U B):Q0 P (⟨none, .store1 x y⟩::l) Q U w:=by subst hc';exact uJ Z he hx hy hi hn O hj ho h
theorem br {n:Nat}{x y:Operand}{b o:Nat}{k:Nat}(Z:St c w L)(he:NJ v n es m b o)(hx:U.ev x= .pointer (some ⟨b,o,none⟩))(hy:U.ev y= .agg ⟨us⟩)(hk:us.length=k)(hi:nth L i=some (sl T es v css))(hn:css.length=n)(O:css[m]?=some cs)(hl:us.length=es)(ho:∀u∈us,oneC u=true)
 (hc':css.set m us=css')(h:∀B,St c B (L.set i (sl T es v css'))→Q0 P l Q U B):Q0 P (⟨none, .storen k x y⟩::l) Q U w:=by subst hc';exact pU Z he hx hy hk hi hn O hl ho h
theorem pV {d:Nat}{x:Operand}{hi':Option Operand}(Z:St c w L)(hx:U.ev x=v)(hi:nth L i=some (sl T es v css))(hmx:mx=none)(hh:MQ U css.length hi' h')(hl:MQ U 0 lo l')(M:h'≤css.length)(h3:l'≤h')
 (h:∀v',St c w (L.set i (sl T es v' ((css.take h').drop l')))→Q0 P l Q (upd U d v') w):Q0 P (⟨none, .sub d es x lo hi' mx⟩::l) Q U w:=by
 obtain ⟨F,hr,_,hst⟩:=Z.step hi;exact T9 hx hr hmx hh hl M h3 fun v' hk=>h v' (hst w F _ hk (HQ (Hw _ _)))
theorem Mx {d:Nat}{Ty:Nat}{z:List Value}{x y:Operand}(hel:M6 P Ts=some (T,es,nb,z))
 (hts:(∃e2,P.underlying Ts2=some (.slice e2))∨P.underlying Ts2=some .string)(Z:St c w L)(hx:U.ev x=v)(hy:U.ev y=v2)(hi:nth L i=some (sl T es v css))(hsrc:Ua P w es v2 css2)(hb:(css.length+css2.length)*nb≤140737488355328)
 (h : ∀ v' B, St c B (L.set i (sl T es v' (css ++ css2))) → Q0 P l Q (upd U d v') B): Q0 P (⟨none, .raw ⟨some d, .call ⟨.builtin .append, #[x, y], #[Ts, Ts2]⟩, Ty, "", #[], none⟩⟩ :: l) Q U w := by
 obtain ⟨F,hr,_,hst⟩:=Z.step hi;exact Ub hel hts hx hy hr hsrc hb fun v' B ⟨F',I,M,h3⟩=>h v' B (hst B F' _ I ⟨M,h3⟩)
theorem Yy {d:Nat}{Ty:Nat}{z:List Value}{x y:Operand}{k k':IntKind}{n:Int}(hel:M6 P Ts=some (T,es,nb,z))(Z:St c w L)(hx:U.ev x= .int k n)(hy:U.ev y= .int k' n)(h0:0≤n)(hn:n*nb≤281474976710656)
 (h:∀v' B,St c B (sl T es v' (List.replicate n.toNat z)::L)→Q0 P l Q (upd U d v') B):
 Q0 P (⟨none, .raw ⟨some d, .makeSlice Ts x y, Ty, "", #[], none⟩⟩ :: l) Q U w :=
 j0 hel hx hy h0 hn fun v' B hf hs _=>h v' B (Z.new hs hf fun b hb=>by omega)

theorem St.srcS {css:List (List Value)}(Z:St c w L)(hi:nth L i=some (sl T es v css))(ho:∀c∈css,∀u∈c,oneC u=true):Ua P w es v css:=by
 obtain ⟨F,hr,_⟩:=Z.step hi;exact Sl.src hr ho
theorem St.srcB1 {b:Nat}{u:Value}(Z:St c w L)(hi:nth L i=some (blk b T [u]))(ho:oneC u=true):Ua P w 1 (.slice (some ⟨b,0,none⟩) 1 1) [[u]]:=by
 obtain ⟨F,hr,_⟩:=Z.step hi;exact pK hr.1 ho
theorem St.srcB {b n:Nat}(Z:St c w L)(hi:nth L i=some (blk b T cs))(hn:cs.length=n)(ho:∀u∈cs,oneC u=true):Ua P w n (.slice (some ⟨b,0,none⟩) 1 1) [cs]:=by
 obtain ⟨F,hr,_⟩:=Z.step hi;exact Yu hr.1 hn ho
theorem NV.src {css:List (List Value)}(h:NV c es v css)(Z:St c w L)(ho:∀c∈css,∀u∈c,oneC u=true):Ua P w es v css:=(h.now Z).src ho

theorem dk {d:Nat}{x:Operand}(hx:U.ev x=v)(hs:NV c es v css)(h:Q0 P l Q (upd U d (.int .i64 css.length)) w):Q0 P (⟨none, .len d x⟩::l) Q U w:=by
 obtain ⟨a,c,hv⟩:=MA.shape hs;exact bm (hx.trans hv) h
theorem Uk {d m:Nat}{x y:Operand}{k:IntKind}(hx:U.ev x=v)(hy:U.ev y= .int k (m:Int))(hs:NV c es v css)(O:css[m]?=some cs)
 (h:∀b o,OV c b o cs→Q0 P l Q (upd U d (.pointer (some ⟨b,o,none⟩))) w):Q0 P (⟨none, .idx d es x y⟩::l) Q U w:=by
 obtain ⟨_,a,cap,hv,hlc,hn|⟨b,off,ha,hF,hb,hat⟩⟩:=hs
 · subst hn;simp at O
 · subst hv ha;have hlt:=(EJ.1 O).1;exact da hx hy V V (h b _ ⟨hF,hat _ _ O⟩)
theorem Ul {d:Nat}{x:Operand}{b o:Nat}{u:Value}(Z:St c w L)(ha:OV c b o cs)(hx:U.ev x= .pointer (some ⟨b,o+j,none⟩))(hu:cs[j]?=some u)
 (h:Q0 P l Q (upd U d u) w):Q0 P (⟨none, .load1 d x⟩::l) Q U w:=Uc hx (ha.now Z) hu h
theorem Yz {d:Nat}{x:Operand}{b o:Nat}{u:Value}(Z:St c w L)(ha:OV c b o cs)(hx:U.ev x= .pointer (some ⟨b,o,none⟩))(hu:cs[0]?=some u)
 (h:Q0 P l Q (upd U d u) w):Q0 P (⟨none, .load1 d x⟩::l) Q U w:=Yt hx (ha.now Z) hu h
theorem Um {d n:Nat}{x:Operand}{b o:Nat}(Z:St c w L)(ha:OV c b o cs)(hx:U.ev x= .pointer (some ⟨b,o,none⟩))(hl:cs.length=n)
 (h:Q0 P l Q (upd U d (.agg ⟨cs⟩)) w):Q0 P (⟨none, .loadn d n x⟩::l) Q U w:=Ud hx (ha.now Z) hl h
theorem dm {d:Nat}{x:Operand}{hi:Option Operand}(hx:U.ev x=v)(hs:NV c es v css)(hmx:mx=none)(hh:MQ U css.length hi h')(hl:MQ U 0 lo l')(M:h'≤css.length)(h3:l'≤h')
 (h:∀v',NV c es v' ((css.take h').drop l')→Q0 P l Q (upd U d v') w):Q0 P (⟨none, .sub d es x lo hi mx⟩::l) Q U w:=by
 subst hmx;obtain ⟨h0,a,cap,hv,hlc,O⟩:=hs;subst hv;have hl1:((css.take h').drop l').length=h' - l':=CT;refine jQ (m:=cap) hx rfl hh hl (E6 _) V h3 (h _ ⟨fun c O=>h0 c (F8 (Hq O)),_,cap - l',by rw [hl1],V,?_⟩);rcases O with O|⟨b,off,ha,hF,hb,hat⟩
 · subst O;exact .inl Js
 · by_cases he:h'=l'
   · exact .inl (Gl V)
   · refine .inr ⟨b,off+l'*es,?_,hF,hb,fun m c hm=>?_⟩
     · rw [Qin V,ha];simp only [FJ,Pw]
     · have hm':css[l'+m]?=some c:=by
        have:=(EJ.1 hm).1;rw [GK,FE V] at hm;exact hm
       have:=hat _ _ hm';rw [Hm,←Gv] at this;exact this

theorem QJ {d b o:Nat}{x:Operand}{u:Value}(Z:St c w L)(hx:U.ev x= .pointer (some ⟨b,o,none⟩))(hi:nth L i=some (blk b T cs))(hu:cs[o]?=some u):Nn P U w ⟨none, .load1 d x⟩ u:=by
 obtain ⟨F,hr,_⟩:=Z.step hi;exact Yv hx hr.1 hu
theorem pW {d n b o:Nat}{x:Operand}(Z:St c w L)(hx:U.ev x= .pointer (some ⟨b,o,none⟩))(hi:nth L i=some (blk b T cs))(hu:(cs.drop o).take n=us)(hl:us.length=n):Nn P U w ⟨none, .loadn d n x⟩ (.agg ⟨us⟩):=by
 obtain ⟨F,hr,_⟩:=Z.step hi;exact Ug hx hr.1 hu hl
theorem YA {d n:Nat}{x:Operand}{b o:Nat}{u:Value}(Z:St c w L)(he:NJ v n es m b o)(hx:U.ev x= .pointer (some ⟨b,o+j,none⟩))(hi:nth L i=some (sl T es v css))(hn:css.length=n)(O:css[m]?=some cs)(hu:cs[j]?=some u):Nn P U w ⟨none, .load1 d x⟩ u:=by
 obtain ⟨F,hr,_⟩:=Z.step hi;exact ⟨_,hx,(he.el hn hr).cell O hu⟩
theorem m8 {d:Nat}{x:Operand}{b o:Nat}{u:Value}(Z:St c w L)(ha:OV c b o cs)(hx:U.ev x= .pointer (some ⟨b,o+j,none⟩))(hu:cs[j]?=some u):Nn P U w ⟨none, .load1 d x⟩ u:=⟨_,hx,(ha.now Z).cell hu⟩
theorem pX {d n:Nat}{x:Operand}{b o:Nat}(Z:St c w L)(ha:OV c b o cs)(hx:U.ev x= .pointer (some ⟨b,o+j,none⟩))(hu:(cs.drop j).take n=us)(hl:us.length=n):Nn P U w ⟨none, .loadn d n x⟩ (.agg ⟨us⟩):=⟨_,us,hx,(ha.now Z).cells hu hl,rfl⟩

theorem St.shape (Z:St c w L)(hi:nth L i=some (sl T es v css)):∃a c,v= .slice a css.length c:=by
 obtain ⟨F,hr,_⟩:=Z.step hi;exact Sl.shape hr
theorem St.oneC (Z:St c w L)(hi:nth L i=some (sl T es v css)):Go.Lir.oneC v=true:=by
 obtain ⟨F,hr,_⟩:=Z.step hi;exact Sl.oneC hr
theorem Qt {d n:Nat}{x:Operand}(Z:St c w L)(hx:U.ev x=v)(hi:nth L i=some (sl T es v css))(hn:css.length=n)(h:Q0 P l Q (upd U d (.int .i64 n)) w):Q0 P (⟨none, .len d x⟩::l) Q U w:=by
 subst hn;exact dj Z hx hi h
theorem YB {d n:Nat}{x:Operand}(hx:U.ev x=v)(hs:NV c es v css)(hn:css.length=n)(h:Q0 P l Q (upd U d (.int .i64 n)) w):Q0 P (⟨none, .len d x⟩::l) Q U w:=by
 subst hn;exact dk hx hs h
theorem uL {d n:Nat}{x:Operand}{b o:Nat}{xs:List Int}(Z:St c w L)(he:NJ v n 1 m b o)(hx:U.ev x= .pointer (some ⟨b,o,none⟩))(hi:nth L i=some (sl T 1 v (xs.map Qq)))(hn:(xs.map Qq).length=n)(hm:m<xs.length)
 (h:Q0 P l Q (upd U d (.int .i64 (xs.getD m 0))) w):Q0 P (⟨none, .load1 d x⟩::l) Q U w:=QV Z he hx hi hn (Tu Qq xs 0 hm) rfl h
theorem Un {d n:Nat}{x:Operand}{b o:Nat}(Z:St c w L)(he:NJ v n 1 m b o)(hx:U.ev x= .pointer (some ⟨b,o,none⟩))(hi:nth L i=some (sl T 1 v (xs.map QH)))(hn:(xs.map QH).length=n)(hm:m<xs.length)
 (h:Q0 P l Q (upd U d (.bool (xs.getD m false))) w):Q0 P (⟨none, .load1 d x⟩::l) Q U w:=QV Z he hx hi hn (Tu QH xs false hm) rfl h
theorem Qig {n:Nat}{x y:Operand}{b o:Nat}{u:Bool}(Z:St c w L)(he:NJ v n 1 m b o)(hx:U.ev x= .pointer (some ⟨b,o,none⟩))(hy:U.ev y= .bool u)(hi:nth L i=some (sl T 1 v (xs.map QH)))(hn:(xs.map QH).length=n)(hm:m<xs.length)
 (h:∀B,St c B (L.set i (sl T 1 v ((xs.set m u).map QH)))→Q0 P l Q U B):Q0 P (⟨none, .store1 x y⟩::l) Q U w:=
 uK Z he hx hy hi hn (Tu QH xs false hm) V rfl fun B Z=>h B (by rw [←map_set];exact Z)

theorem Uo {d:Nat}{f:FuncId}(O:Ka P f [] w S)(h:∀v B,S v B→Q0 P l Q (upd U d v) B):Q0 P (⟨none, .call (some d) f []⟩::l) Q U w:=SN Jr O h
theorem pY {d:Nat}{f:FuncId}(h0:U.ev x0=u0)(O:Ka P f [u0] w S)(h:∀v B,S v B→Q0 P l Q (upd U d v) B):Q0 P (⟨none, .call (some d) f [x0]⟩::l) Q U w:=SN (by subst h0;rfl) O h
theorem dp {d:Nat}{f:FuncId}(h0:U.ev x0=u0)(I:U.ev x1=u1)(O:Ka P f [u0,u1] w S)(h:∀v B,S v B→Q0 P l Q (upd U d v) B):Q0 P (⟨none, .call (some d) f [x0,x1]⟩::l) Q U w:=SN (by subst h0 I;rfl) O h
theorem Up {d:Nat}{f:FuncId}(h0:U.ev x0=u0)(I:U.ev x1=u1)(M:U.ev x2=u2)(O:Ka P f [u0,u1,u2] w S)(h:∀v B,S v B→Q0 P l Q (upd U d v) B):Q0 P (⟨none, .call (some d) f [x0,x1,x2]⟩::l) Q U w:=SN (by subst h0 I M;rfl) O h
theorem Uq {d:Nat}{f:FuncId}(h0:U.ev x0=u0)(I:U.ev x1=u1)(M:U.ev x2=u2)(h3:U.ev x3=u3)(O:Ka P f [u0,u1,u2,u3] w S)(h:∀v B,S v B→Q0 P l Q (upd U d v) B):Q0 P (⟨none, .call (some d) f [x0,x1,x2,x3]⟩::l) Q U w:=SN (by subst h0 I M h3;rfl) O h
theorem uM {d:Nat}{f:FuncId}{u4:Value}(h0:U.ev x0=u0)(I:U.ev x1=u1)(M:U.ev x2=u2)(h3:U.ev x3=u3)(h4:U.ev x4=u4)(O:Ka P f [u0,u1,u2,u3,u4] w S)(h:∀v B,S v B→Q0 P l Q (upd U d v) B):Q0 P (⟨none, .call (some d) f [x0,x1,x2,x3,x4]⟩::l) Q U w:=SN (by subst h0 I M h3 h4;rfl) O h
theorem pZ {d:Nat}{T:TypeId}{x y:Operand}{a b:Bool}(ht:P.underlying T=some .bool)(hx:U.ev x= .bool a)(hy:U.ev y= .bool b)(he:a=b)
 (h:Q0 P l Q (upd U d (.bool false)) w):Q0 P (⟨none, .bin d .neq T x y⟩::l) Q U w:=T6 ht hx hy (by subst he;rw [bne_self_eq_false];exact h)
theorem YC {d:Nat}{T:TypeId}{x y:Operand}{a b:Bool}(ht:P.underlying T=some .bool)(hx:U.ev x= .bool a)(hy:U.ev y= .bool b)(he:a=b)
 (h:Q0 P l Q (upd U d (.bool true)) w):Q0 P (⟨none, .bin d .eql T x y⟩::l) Q U w:=jX ht hx hy (by subst he;rw [beq_self_eq_true];exact h)
theorem Q8w (k:Nat){T e:TypeId}{a:Option Addr}(ht:P.underlying T=some (.pointer e)):(Op.equalIn (k+1) T (.pointer a) (.pointer none)).run P w0= .ok a.isNone w0:=by
 simp only [Op.equalIn,Fb,Qa P T _ w0 ht,EX];cases a<;>simp [Fp]
theorem uN {T e:TypeId}{a:Option Addr}(ht:P.underlying T=some (.pointer e)):(Op.equal T (.pointer a) (.pointer none)).run P w0= .ok a.isNone w0:=Q8w 9999 ht
theorem iD {d:Nat}{T e:TypeId}{x y:Operand}(ht:P.underlying T=some (.pointer e))(hx:U.ev x= .pointer none)(hy:U.ev y= .pointer none)
 (h:Q0 P l Q (upd U d (.bool true)) w):Q0 P (⟨none, .bin d .eql T x y⟩::l) Q U w:=
 ⟨_,fun w0=>by rw [hx,hy];simp [eqGuard,binOp,uN ht],h⟩
theorem iE {d:Nat}{T e:TypeId}{x y:Operand}{a:Addr}(ht:P.underlying T=some (.pointer e))(hx:U.ev x= .pointer (some a))(hy:U.ev y= .pointer none)
 (h:Q0 P l Q (upd U d (.bool false)) w):Q0 P (⟨none, .bin d .eql T x y⟩::l) Q U w:=
 ⟨_,fun w0=>by rw [hx,hy];simp [eqGuard,binOp,uN ht],h⟩
end
end
section
inductive Ty where
 | mk:Int→Int→List Ty→Ty
def Ty.kind:Ty→Int| .mk k _ _=>k
def Ty.r:Ty→Int| .mk _ r _=>r
def Ty.l:Ty→List Ty| .mk _ _ l=>l
def MB (H:KI)(F:Nat→Prop):Nat→List Value→Ty→Prop
 | 0,_,_=>False
 | n+1,cs,t=>∃v css,cs=[.int .i64 t.kind, .int .i64 t.r,v]∧MA H 3 v F css∧css.length=t.l.length∧t.l.length≤140737488355328∧∀(m:Nat) (x:Ty),t.l[m]?=some x→∃d,css[m]?=some d∧MB H F n d x
theorem MB.len:∀{n:Nat}{cs:List Value}{t:Ty},MB H F n cs t→cs.length=3
 | 0,_,_,h=>h.elim
 | _+1,_,_,h=>by obtain ⟨_,_,rfl,_⟩:=h;rfl
theorem MB.more:∀{n m:Nat}{cs:List Value}{t:Ty},n≤m→MB H F n cs t→MB H F m cs t
 | 0,_,_,_,_,h=>h.elim
 | n+1,0,_,_,hm,_=>by omega
 | n+1,m+1,_,_,hm,h=>by
   obtain ⟨v,css,I,M,h3,h4,h5⟩:=h;exact ⟨v,css,I,M,h3,h4,fun i x hx=>by obtain ⟨d,h6,h7⟩:=h5 i x hx;exact ⟨d,h6,h7.more V⟩⟩
theorem MB.turn (hs:∀v css,MA H 3 v F css→MA H' 3 v G css):∀{n:Nat}{cs:List Value}{t:Ty},MB H F n cs t→MB H' G n cs t
 | 0,_,_,h=>h.elim
 | n+1,_,_,h=>by
   obtain ⟨v,css,I,M,h3,h4,h5⟩:=h;exact ⟨v,css,I,hs _ _ M,h3,h4,fun i x hx=>by obtain ⟨d,h6,h7⟩:=h5 i x hx;exact ⟨d,h6,h7.turn hs⟩⟩
def Ur (c:Cx)(cs:List Value)(t:Ty):Prop:=∃n,MB c.H0 c.K n cs t
theorem Ur.up {c c':Cx}{t:Ty}(h:Ur c cs t)(hle:c.Le c'):Ur c' cs t:=by
 obtain ⟨n,h⟩:=h;exact ⟨n,h.turn fun v css hs=>NV.up hs hle⟩
theorem qa {xs:List α}{R:Nat→α→Prop}(hm:∀n m x,n≤m→R n x→R m x)(h:∀x∈xs,∃n,R n x):∃n,∀x∈xs,R n x:=by
 induction xs with
 | nil=>exact ⟨0,by simp⟩
 | cons x xs ih=>
   obtain ⟨n,hn⟩:=ih fun y hy=>h y (FA _ hy);obtain ⟨m,hx⟩:=h x (FR ..);refine ⟨max n m,fun y hy=>?_⟩;rcases E4.1 hy with rfl|hy
   · exact hm _ _ _ (Nat.le_max_right ..) hx
   · exact hm _ _ _ (Nat.le_max_left ..) (hn y hy)
theorem Ur.mk {c:Cx}{k r:Int}{l:List Ty}(hs:NV c 3 v css)(hl:css.length=l.length)(hm:l.length≤140737488355328)(h:∀(m:Nat) (x:Ty),l[m]?=some x→∃d,css[m]?=some d∧Ur c d x):Ur c [.int .i64 k, .int .i64 r,v] (.mk k r l):=by
 obtain ⟨n,hn⟩:=qa (xs:=List.range l.length) (R:=fun n m=>∀x,l[m]?=some x→∃d,css[m]?=some d∧MB c.H0 c.K n d x) (fun n m i hnm hr x hx=>by obtain ⟨d,I,M⟩:=hr x hx;exact ⟨d,I,M.more hnm⟩) (fun m hm=>by
  have hlt:=Fx.1 hm;obtain ⟨d,I,n,M⟩:=h m _ (EI hlt);exact ⟨n,fun x hx=>by rw [EI hlt] at hx;cases hx;exact ⟨d,I,M⟩⟩)
 exact ⟨n+1,v,css,rfl,hs,hl,hm,fun m x hx=>hn m (Fx.2 (EJ.1 hx).1) x hx⟩
theorem Ur.out {c:Cx}{t:Ty}(h:Ur c cs t):∃v css,cs=[.int .i64 t.kind, .int .i64 t.r,v]∧NV c 3 v css∧css.length=t.l.length∧t.l.length≤140737488355328∧∀(m:Nat) (x:Ty),t.l[m]?=some x→∃d,css[m]?=some d∧Ur c d x:=by
 obtain ⟨n,h⟩:=h
 cases n with
 | zero=>exact h.elim
 | succ n=>
   obtain ⟨v,css,I,M,h3,h4,h5⟩:=h;exact ⟨v,css,I,M,h3,h4,fun m x hx=>by obtain ⟨d,h6,h7⟩:=h5 m x hx;exact ⟨d,h6,n,h7⟩⟩

theorem QgP {e:TypeId}{enc:TypeId×Value→Hd}{y:DataW Hd×List MemPlace}{rd:List Value→α→Prop}(hsz:P.cellsOf e=es)(hes:0<es)(hlen:∀d x,rd d x→d.length=es)
 (ht:P.underlying T=some (.slice e))(h:DataW.trod enc P w 0 (fun _=>true) true fuel T cs=some y)(hby:0<P.bytesOf e)(hfit:Fits P T y.1)
 (hel:∀(n:Nat) (d:List Value) (z:DataW Hd×List MemPlace),DataW.trod enc P w 0 (fun _=>true) true n e d=some z→Fits P e z.1→SizeOf.sizeOf z.1<SizeOf.sizeOf y.1→∃x,rd d x):
 ∃(xs:List α) (v:Value) (css:List (List Value)),cs=[v]∧MA w.heap es v (fun _=>True) css∧css.length=xs.length∧xs.length≤140737488355328∧∀(m:Nat) (x:α),xs[m]?=some x→∃d,css[m]?=some d∧rd d x:=by
 rcases JW ht h with ⟨rfl,_⟩|⟨a,len,cap,m,n,D,Pl,rfl,_,hl,hm,hmm,hy,hi⟩
 · exact BK
 · have hmc:m=cap:=by simpa using hmm
   subst hmc;have hfit':=hfit;rw [hy] at hfit';obtain ⟨hlen0,hel0⟩:=uA ht hfit' hby;simp only [EM,HI] at hlen0
   have hel2:∀i,i<len→∃(d:List Value) (x:α),w.cells? 0 (a.add (i*es)) es=some d∧rd d x:=by
    intro i hi';obtain ⟨d,I,M⟩:=hi i V;rw [hsz] at I
    obtain ⟨x,hx⟩:=hel n d _ M (hel0 _ (Fq.2 ⟨i,Fx.2 hi',rfl⟩)) (by
     rw [hy];have hmem:D i∈(List.range len).map D:=Fq.2 ⟨i,Fx.2 hi',rfl⟩;have:=H3 hmem;simp only [DataW.slice.sizeOf_spec];omega)
    exact ⟨d,x,I,hx⟩
   have build:∀n,n≤len→∃(css:List (List Value)) (xs:List α),css.length=n∧xs.length=n∧
    ∀m,m<n→∃d x,css[m]?=some d∧xs[m]?=some x∧w.cells? 0 (a.add (m*es)) es=some d∧rd d x:=by
    intro n
    induction n with
    | zero=>intro _;exact ⟨[],[],rfl,rfl,fun m hm=>absurd hm V⟩
    | succ n ih=>
      intro hn;obtain ⟨css,xs,I,M,h3⟩:=ih V;obtain ⟨d,x,h4,h5⟩:=hel2 n V;refine ⟨css++[d],xs++[x],by simp [I],by simp [M],fun m hm=>?_⟩;by_cases hmn:m=n
      · subst hmn;exact ⟨d,x,by rw [ER V,I];simp,by rw [ER V,M];simp,h4,h5⟩
      · obtain ⟨d',x',g1,g2,g3,g4⟩:=h3 m V;exact ⟨d',x',by rw [EU V];exact g1,by rw [EU V];exact g2,g3,g4⟩
   obtain ⟨css,xs,I,M,h3⟩:=build len (E6 _);refine ⟨xs, .slice (some a) len m,css,rfl,⟨?_,some a,m,by rw [I],V,?_⟩,V,V,?_⟩
   · intro d hd;obtain ⟨i,hi'⟩:=FL.1 hd;have hlt:=(EJ.1 hi').1;obtain ⟨d',x',g1,g2,g3,g4⟩:=h3 i V;rw [hi'] at g1;simp only [E3] at g1;subst g1;exact hlen _ _ g4
   · rcases Im len with h0|h0
     · exact .inl (Gl V)
     · obtain ⟨d0,x0,_,_,g3,_⟩:=h3 0 h0;obtain ⟨hsp,hbl,_⟩:=mX g3 hes;have ha0:a.add (0*es)=a:=(by rw [HU];rfl);rw [ha0] at hsp hbl;obtain ⟨b,o,s⟩:=a;simp only at hsp;subst hsp;refine .inr ⟨b,o,rfl,trivial,hbl,fun i d hd=>?_⟩;have hlt:=(EJ.1 hd).1;obtain ⟨d',x',g1,g2,g3,g4⟩:=h3 i V;rw [hd] at g1;simp only [E3] at g1;subst g1;rw [Pw] at g3;exact (mX g3 hes).2.2
   · intro i x hx;have hlt:=(EJ.1 hx).1;obtain ⟨d',x',g1,g2,g3,g4⟩:=h3 i V;rw [hx] at g2;simp only [E3] at g2;subst g2;exact ⟨d',g1,g4⟩
theorem qb {enc:TypeId×Value→Hd}{y:DataW Hd×List MemPlace}(h:DataW.trod enc P w 0 (fun _=>true) true fuel T cs=some y)
 {i o s:Nat}{t:TypeId}(hf:fieldAt P T i=some (o,s,t))(hfit:Fits P T y.1):cs.length=P.cellsOf T∧∃n z,DataW.trod enc P w 0 (fun _=>true) true n t ((cs.drop o).take s)=some z∧Fits P t z.1∧SizeOf.sizeOf z.1<SizeOf.sizeOf y.1:=by
 unfold fieldAt at hf;split at hf
 · rename_i fs hu
   simp only [Gq,GF] at hf;obtain ⟨f,hf,rfl,rfl,rfl⟩:=hf;obtain ⟨xs,n,_,hy,hl,hx,hall⟩:=DataW.trod_struct hu h;have:=hall i f hf;have hlt:=(Hz.1 hf).1;refine ⟨hl,n,xs[i]' CP,?_,?_,?_⟩
   · rw [this,EI V]
   · rw [hy] at hfit;exact uB hu hfit hf Ei
   · rw [hy];have hmem:(xs[i]' CP).1∈xs.map (·.1):=Fq.2 ⟨_,GW _,rfl⟩;have:=H3 hmem;simp only [DataW.agg.sizeOf_spec];omega
 · cases hf
inductive Ty.InR:Ty→Prop where
 | mk {k r:Int}{l:List Ty}:(Lit.int .i64 k).wf=true→(Lit.int .i64 r).wf=true→(∀x∈l,x.InR)→Ty.InR (.mk k r l)
theorem qd {n:Int}(h:(Lit.int .i64 n).wf=true): -9223372036854775808≤n∧n≤9223372036854775807:=by
 simp [Lit.wf,IntKind.min,IntKind.max,IntKind.bits,IntKind.signed] at h;omega
theorem Ty.InR.parts {k r:Int}{l:List Ty}(h:(Ty.mk k r l).InR):(-9223372036854775808≤k∧k≤9223372036854775807)∧(-9223372036854775808≤r∧r≤9223372036854775807)∧∀x∈l,x.InR:=by
 cases h with|mk I M h3=>exact ⟨qd I,qd M,h3⟩
theorem qe {P:Program}{T TL t0 t1:TypeId}(h0:fieldAt P T 0=some (0,1,t0))(I:fieldAt P T 1=some (1,1,t1))(M:fieldAt P T 2=some (2,1,TL))(hi0:P.underlying t0=some (.int .i64))(hi1:P.underlying t1=some (.int .i64))(hT:P.cellsOf T=3)(hTL:P.underlying TL=some (.slice T))(hby:0<P.bytesOf T)
 {Hd:Type}{enc:TypeId×Value→Hd}{w:World}:∀(N fuel:Nat) (cs:List Value) (y:DataW Hd×List MemPlace),DataW.trod enc P w 0 (fun _=>true) true fuel T cs=some y→Fits P T y.1→SizeOf.sizeOf y.1<N→∃t n,MB w.heap (fun _=>True) n cs t∧t.InR
 | 0,_,_,_,_,_,hN=>by omega
 | N +1,fuel,cs,y,h,hfit,hN=>by
   obtain ⟨hl,n0,z0,g0,_⟩:=qb h h0 hfit;obtain ⟨_,n1,z1,g1,_⟩:=qb h I hfit;obtain ⟨_,n2,z2,g2,u2,hz⟩:=qb h M hfit;rw [hT] at hl
   obtain ⟨a,b,v,O⟩:∃a b v,cs=[a,b,v]:=by
    match cs,hl with
    | [a,b,v],_=>exact ⟨a,b,v,rfl⟩
   subst O;obtain ⟨k,hk,_,wk⟩:=DataW.trod_int hi0 g0;obtain ⟨r,hr,_,wr⟩:=DataW.trod_int hi1 g1;have hk2:[a]=[Value.int .i64 k]:=hk;have hr2:[b]=[Value.int .i64 r]:=hr;clear hk hr;simp only [FW,and_true] at hk2 hr2;have g3:DataW.trod enc P w 0 (fun _=>true) true n2 TL [v]=some z2:=g2;clear g2
   obtain ⟨xs,v',css,hv,s1,s2,s3,s4⟩:=QgP (rd:=fun d (x:Nat×Ty)=>MB w.heap (fun _=>True) x.1 d x.2∧x.2.InR) hT Jd (fun d x hx=>hx.1.len) hTL g3 hby u2 (fun n d z hz1 hz3 hz2=>by
    obtain ⟨t,n,ht,hr⟩:=qe h0 I M hi0 hi1 hT hTL hby N _ d z hz1 hz3 V;exact ⟨(n,t),ht,hr⟩)
   simp only [FW,and_true] at hv;subst hv hk2 hr2;obtain ⟨n,hn⟩:=qa (xs:=xs) (R:=fun n x=>x.1≤n) (fun n m x I M=>Gs M I) (fun x _=>⟨x.1,E6 _⟩);refine ⟨.mk k r (xs.map (·.2)),n+1,⟨v,css,rfl,s1,by simp [Ty.l,s2],by simpa [Ty.l] using s3,fun m x hx=>?_⟩, .mk wk wr fun x hx=>?_⟩
   rotate_left
   · obtain ⟨p,hp,rfl⟩:=Fq.1 hx;obtain ⟨m,hm⟩:=FL.1 hp;obtain ⟨d,d1,d2⟩:=s4 m p hm;exact d2.2
   simp only [Ty.l,EZ,Gq] at hx;obtain ⟨p,hp,rfl⟩:=hx;obtain ⟨d,d1,d2⟩:=s4 m p hp;exact ⟨d,d1,d2.1.more (hn p (EK hp))⟩
def Cod.ty {P:Program}{T TL t0 t1:TypeId}(h0:fieldAt P T 0=some (0,1,t0))(I:fieldAt P T 1=some (1,1,t1))(M:fieldAt P T 2=some (2,1,TL))(hi0:P.underlying t0=some (.int .i64))(hi1:P.underlying t1=some (.int .i64))(hT:P.cellsOf T=3)(hTL:P.underlying TL=some (.slice T))(hby:decide (0<P.bytesOf T)=true):Cod P T Ty where
 es:=3
 rd:=fun H cs t=>∃n,MB H (fun b=>b<H.size) n cs t
 size:=hT
 len:=by rintro _ _ _ ⟨n,h⟩;exact h.len
 stay:=by
  rintro H H' cs t ⟨n,h⟩ hH;exact ⟨n,h.turn fun v css hs=>HC (hs.of_same fun b hb _=>hH b hb) fun b hb _=>hb⟩
 open_:=fun enc w fuel cs y h hfit=>by
  obtain ⟨t,n,ht,_⟩:=qe h0 I M hi0 hi1 hT hTL (of_decide_eq_true hby) (SizeOf.sizeOf y.1+1) fuel cs y h hfit V;exact ⟨t,n,ht.turn fun v css hs=>HC hs fun b hb _=>hb⟩
def Cod.tyInt {P:Program}{T TL t0 t1:TypeId}(h0:fieldAt P T 0=some (0,1,t0))(I:fieldAt P T 1=some (1,1,t1))(M:fieldAt P T 2=some (2,1,TL))(hi0:P.underlying t0=some (.int .i64))(hi1:P.underlying t1=some (.int .i64))(hT:P.cellsOf T=3)(hTL:P.underlying TL=some (.slice T))(hby:decide (0<P.bytesOf T)=true):Cod P T Ty where
 es:=3
 rd:=fun H cs t=>(∃n,MB H (fun b=>b<H.size) n cs t)∧t.InR
 size:=hT
 len:=by rintro _ _ _ ⟨⟨n,h⟩,_⟩;exact h.len
 stay:=by
  rintro H H' cs t ⟨⟨n,h⟩,hr⟩ hH;exact ⟨⟨n,h.turn fun v css hs=>HC (hs.of_same fun b hb _=>hH b hb) fun b hb _=>hb⟩,hr⟩
 open_:=fun enc w fuel cs y h hfit=>by
  obtain ⟨t,n,ht,hr⟩:=qe h0 I M hi0 hi1 hT hTL (of_decide_eq_true hby) (SizeOf.sizeOf y.1+1) fuel cs y h hfit V;exact ⟨t,⟨n,ht.turn fun v css hs=>HC hs fun b hb _=>hb⟩,hr⟩
theorem Ur.top {t:Ty}(h:∃n,MB w.heap (fun b=>b<w.heap.size) n cs t):Ur (Cx.top w) cs t:=h
end
section
structure Fld (P:Program) (T:TypeId) (α:Type) where
 rd:KI→List Value→α→Prop
 stay:∀(H H':KI) cs x,rd H cs x→(∀b,b<H.size→H'[b]?=H[b]?)→rd H' cs x
 open_:∀{Hd:Type}(enc:TypeId×Value→Hd) (w:World) (fuel:Nat) (cs:List Value) (y:DataW Hd×List MemPlace),DataW.trod enc P w 0 (fun _=>true) true fuel T cs=some y→Fits P T y.1→∃x,rd w.heap cs x
def Fld.none {P:Program}{T:TypeId}:Fld P T Unit:=⟨fun _ _ _=>True,fun _ _ _ _ h _=>h,fun _ _ _ _ _ _ _=>⟨(),trivial⟩⟩
def Fld.more {P:Program}{T t:TypeId}{α β:Type}{i o s:Nat}(c:Cod P t α)(h:fieldAt P T i=some (o,s,t))(f:Fld P T β):Fld P T (α×β) where
 rd:=fun H cs x=>c.rd H ((cs.drop o).take s) x.1∧f.rd H cs x.2
 stay:=fun H H' cs x h hH=>⟨c.stay _ _ _ _ h.1 hH,f.stay _ _ _ _ h.2 hH⟩
 open_:=fun enc w fuel cs y hy hfit=>by
  obtain ⟨_,n,z,g,u⟩:=uC hy h hfit;obtain ⟨a,ha⟩:=c.open_ enc w _ _ _ g u;obtain ⟨b,hb⟩:=f.open_ enc w _ _ _ hy hfit;exact ⟨(a,b),ha,hb⟩
def Fld.cod {P:Program}{T t:TypeId}{α:Type}{o s:Nat}(f:Fld P T α)(h0:fieldAt P T 0=some (o,s,t))(n:Nat)(hn:P.cellsOf T=n):Cod P T α where
 es:=n
 rd:=fun H cs x=>cs.length=n∧f.rd H cs x
 size:=hn
 len:=fun _ _ _ h=>h.1
 stay:=fun H H' cs x h hH=>⟨h.1,f.stay _ _ _ _ h.2 hH⟩
 open_:=fun enc w fuel cs y hy hfit=>by
  obtain ⟨hl,_⟩:=uC hy h0 hfit;obtain ⟨a,ha⟩:=f.open_ enc w _ _ _ hy hfit;exact ⟨a,by rw [hl,hn],ha⟩
end
section

theorem MA.turn (h:MA H es v F css)(hs:∀b,F b→b<H.size→G b∧H'[b]?=H[b]?):MA H' es v G css:=by
 obtain ⟨h0,a,cap,hv,hlc,O|⟨b,off,ha,hF,hb,hat⟩⟩:=h
 · exact AZ
 · obtain ⟨I,M⟩:=hs b hF hb
   refine ⟨h0,a,cap,hv,hlc, .inr ⟨b,off,ha,I,?_,fun m c hm=>(hat m c hm).of_same M⟩⟩;rcases Gj b H'.size with h|h
   · exact h
   · rw [Gt h,GB hb] at M;cases M

structure Rep (α:Type) where
 es:Nat
 pos:0<es
 R:KI→(Nat→Prop)→List Value→α→Prop
 len:∀{H:KI}{K:Nat→Prop}{cs:List Value}{x:α},R H K cs x→cs.length=es
 one:∀{H:KI}{K:Nat→Prop}{cs:List Value}{x:α},R H K cs x→∀u∈cs,oneC u=true
 turn:∀{H H':KI}{K K':Nat→Prop}{cs:List Value}{x:α},R H K cs x→(∀b,K b→b<H.size→K' b∧H'[b]?=H[b]?)→R H' K' cs x

section
variable {α β:Type}
def Rep.LR (r:Rep α)(H:KI)(K:Nat→Prop)(css:List (List Value))(l:List α):Prop:=css.length=l.length∧∀(m:Nat) (x:α),l[m]?=some x→∃d,css[m]?=some d∧r.R H K d x
def Rep.SR (r:Rep α)(H:KI)(K:Nat→Prop)(v:Value)(l:List α):Prop:=∃css,MA H r.es v K css∧r.LR H K css l∧l.length≤140737488355328
theorem Rep.LR.turn {r:Rep α}{l:List α}(h:r.LR H K css l)(hs:∀b,K b→b<H.size→K' b∧H'[b]?=H[b]?):r.LR H' K' css l:=
 ⟨h.1,fun m x hx=>by obtain ⟨d,I,M⟩:=h.2 m x hx;exact ⟨d,I,r.turn M hs⟩⟩
theorem Rep.SR.turn {r:Rep α}{l:List α}(h:r.SR H K v l)(hs:∀b,K b→b<H.size→K' b∧H'[b]?=H[b]?):r.SR H' K' v l:=by
 obtain ⟨css,I,M,h3⟩:=h;exact ⟨css,I.turn hs,M.turn hs,h3⟩
theorem Rep.LR.nil (r:Rep α)(H:KI)(K:Nat→Prop):r.LR H K [] []:=⟨rfl,by simp⟩
abbrev Gd:=@Rep.LR.nil
theorem Rep.LR.push {r:Rep α}{l:List α}{d:List Value}{x:α}(h:r.LR H K css l)(hd:r.R H K d x):r.LR H K (css++[d]) (l++[x]):=by
 refine ⟨by simp [h.1],fun m y hy=>?_⟩;rcases Gj m l.length with hm|hm
 · rw [EU hm] at hy;rw [EU Dl];exact h.2 m y hy
 · rw [ER hm] at hy
   rw [ER Dl,h.1];obtain ⟨i,hi⟩:∃i,m - l.length=i:=⟨_,rfl⟩;rw [hi] at hy ⊢
   cases i with
   | zero=>simp only [Fm,E3] at hy;subst hy;exact ⟨d,rfl,hd⟩
   | succ i=>simp at hy
theorem Rep.LR.append {r:Rep α}{l l2:List α}(h:r.LR H K css l)(M:r.LR H K css2 l2):r.LR H K (css++css2) (l++l2):=by
 refine ⟨by simp [h.1,M.1],fun m y hy=>?_⟩;rcases Gj m l.length with hm|hm
 · rw [EU hm] at hy;rw [EU Dl];exact h.2 m y hy
 · rw [ER hm] at hy;rw [ER Dl,h.1];exact M.2 _ y hy
theorem Rep.LR.set {r:Rep α}{l:List α}{d:List Value}{x:α}{i:Nat}(h:r.LR H K css l)(hd:r.R H K d x):r.LR H K (css.set i d) (l.set i x):=by
 refine ⟨by simp [h.1],fun m y hy=>?_⟩;rw [Gb] at hy ⊢;by_cases he:i=m
 · rw [Qip he] at hy ⊢
   rw [h.1];split at hy
   · rename_i hm;rw [Qip hm];cases hy;exact ⟨d,rfl,hd⟩
   · cases hy
 · rw [Qin he] at hy ⊢;exact h.2 m y hy
abbrev JX:=@Rep.LR.set
theorem Rep.LR.sub {r:Rep α}{l:List α}(h:r.LR H K css l)(i j:Nat):r.LR H K ((css.take j).drop i) ((l.take j).drop i):=by
 refine ⟨by simp [h.1],fun m y hy=>?_⟩;rw [GK] at hy ⊢;have hlt:=(EJ.1 hy).1;rw [FY] at hlt;rw [FE V] at hy ⊢;exact h.2 _ y hy
theorem Rep.LR.one {r:Rep α}{l:List α}(h:r.LR H K css l):∀c∈css,∀u∈c,oneC u=true:=by
 intro c O;obtain ⟨m,hm⟩:=FL.1 O;have hlt:=(EJ.1 hm).1;obtain ⟨d,I,M⟩:=h.2 m _ (EI (by rw [←h.1];exact hlt));rw [hm] at I;cases I;exact r.one M
theorem Rep.LR.lens {r:Rep α}{l:List α}(h:r.LR H K css l):∀c∈css,c.length=r.es:=by
 intro c O;obtain ⟨m,hm⟩:=FL.1 O;have hlt:=(EJ.1 hm).1;obtain ⟨d,I,M⟩:=h.2 m _ (EI (by rw [←h.1];exact hlt));rw [hm] at I;cases I;exact r.len M
theorem Rep.SR.oneC {r:Rep α}{l:List α}(h:r.SR H K v l):Go.Lir.oneC v=true:=by
 obtain ⟨css,I,_⟩:=h;exact JD I
theorem Rep.SR.nil (r:Rep α)(H:KI)(K:Nat→Prop):r.SR H K (.slice none 0 0) []:=⟨[],⟨by simp,none,0,rfl,E6 _, .inl rfl⟩, .nil r H K,by simp⟩
abbrev FU:=@Rep.SR.nil
theorem Rep.SR.len {r:Rep α}{l:List α}(h:r.SR H K v l):l.length≤140737488355328:=by obtain ⟨_,_,_,h⟩:=h;exact h
theorem Rep.SR.shape {r:Rep α}{l:List α}(h:r.SR H K v l):∃a c,v= .slice a l.length c:=by
 obtain ⟨css,I,M,_⟩:=h;obtain ⟨a,c,hv⟩:=MA.shape I;exact ⟨a,c,by rw [←M.1];exact hv⟩

abbrev E0:=@Rep.SR.shape
theorem Rep.SR.nil_of {r:Rep α}{l:List α}{n c:Nat}(h:r.SR H K v l)(hv:v= .slice none n c):l=[]:=by
 obtain ⟨css,⟨_,a,cap,hv2,_,O|⟨b,off,ha,_⟩⟩,M,_⟩:=h
 · exact Gl (by rw [←M.1,O];rfl)
 · rw [hv,ha] at hv2;simp at hv2
abbrev Ii:=@Rep.SR.nil_of
def Rep.lit (f:α→Value)(hf:∀x,oneC (f x)=true):Rep α where
 es:=1
 pos:=by decide
 R:=fun _ _ cs x=>cs=[f x]
 len:=by rintro _ _ _ _ rfl;rfl
 one:=by rintro _ _ _ x rfl u hu;simp at hu;subst hu;exact hf x
 turn:=fun h _=>h
def Kb:Rep Int:=Rep.lit (fun n=> .int .i64 n) (fun _=>rfl)
def Rep.list (r:Rep α):Rep (List α) where
 es:=1
 pos:=by decide
 R:=fun H K cs l=>∃v,cs=[v]∧r.SR H K v l
 len:=by rintro _ _ _ _ ⟨v,rfl,_⟩;rfl
 one:=by rintro _ _ _ _ ⟨v,rfl,h⟩ u hu;simp at hu;subst hu;exact h.oneC
 turn:=by rintro _ _ _ _ _ _ ⟨v,rfl,h⟩ hs;exact ⟨v,rfl,h.turn hs⟩
def Rep.and (r:Rep α)(p:α→Prop):Rep α where
 es:=r.es
 pos:=r.pos
 R:=fun H K cs x=>r.R H K cs x∧p x
 len:=fun h=>r.len h.1
 one:=fun h=>r.one h.1
 turn:=fun h hs=>⟨r.turn h.1 hs,h.2⟩
def KA:Rep Ty where
 es:=3
 pos:=by decide
 R:=fun H K cs t=>∃n,MB H K n cs t
 len:=by rintro _ _ _ _ ⟨n,h⟩;exact h.len
 one:=by
  rintro _ _ _ _ ⟨n,h⟩
  cases n with
  | zero=>exact h.elim
  | succ n=>
    obtain ⟨v,css,rfl,M,_⟩:=h;intro u hu;simp at hu;rcases hu with rfl|rfl|rfl
    · rfl
    · rfl
    · exact JD M
 turn:=by rintro _ _ _ _ _ _ ⟨n,h⟩ hs;exact ⟨n,h.turn fun v css hv=>hv.turn hs⟩
theorem Ql {t:Ty}(h:KA.R H K cs t):∃v,cs=[.int .i64 t.kind, .int .i64 t.r,v]∧KA.SR H K v t.l:=by
 obtain ⟨n,h⟩:=h
 cases n with
 | zero=>exact h.elim
 | succ n=>
   obtain ⟨v,css,I,M,h3,h4,h5⟩:=h;exact ⟨v,I,css,M,⟨h3,fun m x hx=>by obtain ⟨d,h6,h7⟩:=h5 m x hx;exact ⟨d,h6,n,h7⟩⟩,h4⟩
theorem Ry {k r:Int}{l:List Ty}(h:KA.SR H K v l):KA.R H K [.int .i64 k, .int .i64 r,v] (.mk k r l):=by
 obtain ⟨css,I,M,h3⟩:=h
 obtain ⟨n,hn⟩:=qa (xs:=List.range l.length) (R:=fun n m=>∀x,l[m]?=some x→∃d,css[m]?=some d∧MB H K n d x) (fun n m i hnm hr x hx=>by obtain ⟨d,I,M⟩:=hr x hx;exact ⟨d,I,M.more hnm⟩) (fun m hm=>by
  have hlt:=Fx.1 hm;obtain ⟨d,h4,n,h5⟩:=M.2 m _ (EI hlt);exact ⟨n,fun x hx=>by rw [EI hlt] at hx;cases hx;exact ⟨d,h4,h5⟩⟩)
 exact ⟨n+1,v,css,rfl,I,M.1,h3,fun m x hx=>hn m (Fx.2 (EJ.1 hx).1) x hx⟩

abbrev Rep.at (r:Rep α)(c:Cx)(cs:List Value)(x:α):Prop:=r.R c.H0 c.K cs x
abbrev Rep.sl (r:Rep α)(c:Cx)(v:Value)(l:List α):Prop:=r.SR c.H0 c.K v l
abbrev Rep.ls (r:Rep α)(c:Cx)(css:List (List Value))(l:List α):Prop:=r.LR c.H0 c.K css l
theorem Cx.Le.turn {c c':Cx}(h:c.Le c'):∀b,c.K b→b<c.H0.size→c'.K b∧c'.H0[b]?=c.H0[b]?:=fun b hb _=>h.K b hb
theorem Rep.R.up {r:Rep α}{c c':Cx}{x:α}(h:r.at c cs x)(hle:c.Le c'):r.at c' cs x:=r.turn h hle.turn
abbrev IS:=@Rep.R.up
theorem Rep.SR.up {r:Rep α}{c c':Cx}{l:List α}(h:r.sl c v l)(hle:c.Le c'):r.sl c' v l:=Rep.SR.turn h hle.turn
abbrev Fo:=@Rep.SR.up
theorem Rep.LR.up {r:Rep α}{c c':Cx}{v:List (List Value)}{l:List α}(h:r.ls c v l)(hle:c.Le c'):r.ls c' v l:=Rep.LR.turn h hle.turn
abbrev I8:=@Rep.LR.up
theorem St.freezeL {r:Rep α}{c:Cx}{L:List Res}{T:TypeId}{es:Nat}{v:Value}{css:List (List Value)}{l:List α}(h:St c w (sl T es v css::L))(hl:r.ls c css l)(hes:r.es=es)(hm:l.length≤140737488355328):∃c',c.Le c'∧St c' w L∧r.sl c' v l:=by
 subst hes;obtain ⟨c',I,M,h3⟩:=h.freezeS;exact ⟨c',I,M,css,h3,hl.up I,hm⟩
abbrev FV:=@St.freezeL
theorem Rep.SR.ints {c:Cx}{l:List Int}(h:Kb.sl c v l):NV c 1 v (l.map Qq):=by
 obtain ⟨css,I,M,h3⟩:=h
 have:css=l.map Qq:=by
  apply GC;intro m;rw [EZ];rcases Gj m l.length with hm|hm
  · obtain ⟨d,h4,h5⟩:=M.2 m _ (EI hm);have h5:d=[_]:=h5;rw [h4,EI hm,h5];rfl
  · rw [Fe (by rw [M.1];exact hm),Fe hm];rfl
 rw [this] at I;exact I
theorem NV.ints {c:Cx}{l:List Int}(h:NV c 1 v (l.map Qq))(hm:l.length≤140737488355328):Kb.sl c v l:=
 ⟨_,h,⟨by simp,fun m x hx=>⟨Qq x,by rw [EZ,hx];rfl,rfl⟩⟩,hm⟩

section
variable {P:Program}{l:List GO}{Q:QT}{U:KD}{w:World}{c:Cx}{L:List Res}{r:Rep α}{xs:List α}{v:Value}{es:Nat}
theorem iF {d:Nat}{x y:Operand}{k:IntKind}{n:Int}(hx:U.ev x=v)(hy:U.ev y= .int k n)(hK:r.sl c v xs)(hes:r.es=es)(h0:0≤n)(hn:n<xs.length)
 (h:∀b o cs a,OV c b o cs→xs[n.toNat]?=some a→r.at c cs a→Q0 P l Q (upd U d (.pointer (some ⟨b,o,none⟩))) w):Q0 P (⟨none, .idx d es x y⟩::l) Q U w:=by
 subst hes;obtain ⟨css,I,M,h3⟩:=hK;have hn':n.toNat<xs.length:=CP;obtain ⟨cs,h4,h5⟩:=M.2 n.toNat _ (EI hn');exact Uk (m:=n.toNat) hx (by rw [hy,Fi h0]) I h4 fun b o hb=>h b o cs _ hb (EI hn') h5
theorem Tx {d m:Nat}{x y:Operand}{k:IntKind}(hx:U.ev x=v)(hy:U.ev y= .int k (m:Int))(hK:r.sl c v xs)(hes:r.es=es)(hn:m<xs.length)
 (h:∀b o cs a,OV c b o cs→xs[m]?=some a→r.at c cs a→Q0 P l Q (upd U d (.pointer (some ⟨b,o,none⟩))) w):Q0 P (⟨none, .idx d es x y⟩::l) Q U w:=by
 subst hes;obtain ⟨css,I,M,h3⟩:=hK;obtain ⟨cs,h4,h5⟩:=M.2 m _ (EI hn);exact Uk (m:=m) hx hy I h4 fun b o hb=>h b o cs _ hb (EI hn) h5
theorem Q7 {l:List α}{x:α}(h:l[m]?=some x):l.drop m=x::l.drop (m+1):=by
 obtain ⟨hm,rfl⟩:=EJ.1 h;exact IZ hm
theorem Us {l:List α}{x:α}(h:l[m]?=some x):l.take (m+1)=l.take m++[x]:=by
 rw [HK,h];rfl
theorem Qy {n:Int}(h:Kb.at c cs n):cs=[.int .i64 n]:=h
theorem qf:∀{L:List Res}{i:Nat}{a a':Res},nth L i=some a→nth (L.set i a') i=some a'
 | [],_,_,_,h=>by cases h
 | _::_,0,_,_,_=>rfl
 | _::L,i+1,_,_,h=>qf (L:=L) (i:=i) h
theorem YD {T T' d Ty i k b:Nat}{z:List Value}{x y:Operand}{a:α}(hel:M6 P Ts=some (T,es,nb,z))
 (hts:∃e2,P.underlying Ts2=some (.slice e2))(Z:St c w L)(hx:U.ev x=v)(hy:U.ev y= .slice (some ⟨b,0,none⟩) 1 1)(hi:nth L i=some (Go.Lir.sl T es v css))(hk:nth L k=some (blk b T' ds))(hls:r.ls c css xs)(ha:r.at c ds a)(hes:r.es=es)(hb:(xs.length+1)*nb≤140737488355328)
 (h : ∀ v' B css', r.ls c css' (xs ++ [a]) → oneC v' = true → St c B (L.set i (Go.Lir.sl T es v' css')) → Q0 P l Q (upd U d v') B): Q0 P (⟨none, .raw ⟨some d, .call ⟨.builtin .append, #[x, y], #[Ts, Ts2]⟩, Ty, "", #[], none⟩⟩ :: l) Q U w :=
 Mx hel (.inl hts) Z hx hy hi (Z.srcB hk ((r.len ha).trans hes) (r.one ha)) (by rw [hls.1];exact hb) fun v' B hS'=>h v' B _ (hls.push ha) (hS'.oneC (qf hi)) hS'
theorem YE {T d Ty i:Nat}{z:List Value}{x y:Operand}{ys:List α}(hel:M6 P Ts=some (T,es,nb,z))
 (hts:∃e2,P.underlying Ts2=some (.slice e2))(Z:St c w L)(hx:U.ev x=v)(hy:U.ev y=v2)(hi:nth L i=some (Go.Lir.sl T es v css))(hls:r.ls c css xs)(hK:r.sl c v2 ys)(hes:r.es=es)(hb:(xs.length+ys.length)*nb≤140737488355328)
 (h : ∀ v' B css', r.ls c css' (xs ++ ys) → oneC v' = true → St c B (L.set i (Go.Lir.sl T es v' css')) → Q0 P l Q (upd U d v') B): Q0 P (⟨none, .raw ⟨some d, .call ⟨.builtin .append, #[x, y], #[Ts, Ts2]⟩, Ty, "", #[], none⟩⟩ :: l) Q U w := by
 subst hes;obtain ⟨css2,I,M,h3⟩:=hK;exact Mx hel (.inl hts) Z hx hy hi (NV.src I Z M.one) (by rw [hls.1,M.1];exact hb) fun v' B hS'=>h v' B _ (hls.append M) (hS'.oneC (qf hi)) hS'
theorem uO {d:Nat}{x:Operand}{f:FuncId}(hx:U.ev x= .func (.func f) #[] #[])(hf:SI P f=true)(hxs:os.map U.ev=args)(O:Ka P f args w S)
 (h:∀v B,S v B→Q0 P l Q (upd U d v) B):Q0 P (⟨none, .callv (some d) x os⟩::l) Q U w:=by
 unfold SI at hf;rw [Ik] at hf;obtain ⟨fn,I,M⟩:=hf;rw [EW,Gc] at M;refine uo (cap:=[]) hx I M.1 M.2 (by rw [hxs,FX]) O ?_;rintro e B ⟨v,rfl,hv⟩;exact h v B hv
theorem uP {d:Nat}{x:Operand}{b o:Nat}{u:Value}(Z:St c w L)(ha:OV c b o cs)(hx:U.ev x= .pointer (some ⟨b,o,none⟩))(hu:cs[0]?=some u):Nn P U w ⟨none, .load1 d x⟩ u:=m8 (j:=0) Z ha hx hu
theorem qg {d n:Nat}{x:Operand}{b o:Nat}(Z:St c w L)(ha:OV c b o cs)(hx:U.ev x= .pointer (some ⟨b,o,none⟩))(hu:cs.take n=us)(hl:us.length=n):Nn P U w ⟨none, .loadn d n x⟩ (.agg ⟨us⟩):=pX (j:=0) Z ha hx hu hl
theorem Qif {n i b T:Nat}{x y:Operand}(Z:St c w L)(hx:U.ev x= .pointer (some ⟨b,0,none⟩))(hy:U.ev y= .agg ⟨us⟩)(hn:us.length=n)(hi:nth L i=some (blk b T cs))(O:cs.length=n)(I:∀u∈us,oneC u=true)
 (h:∀B,St c B (L.set i (blk b T us))→Q0 P l Q U B):Q0 P (⟨none, .storen n x y⟩::l) Q U w:=
 On Z hx hy hn hi V I CT h
theorem pP:∀{a b:List GO}{Q:QT}{U:KD}{w:World},Q0 P a (Qp (Q0 P b Q) Q) U w→Q0 P (a++b) Q U w
 | [],_,_,_,_,h=>h
 | ⟨none,o⟩::a,b,Q,U,w,h=>by
   simp only [F7,Q0] at h ⊢;exact BX
 | ⟨some (s,b'),o⟩::a,b,Q,U,w,h=>by
   simp only [F7,Q0] at h ⊢;split
   · rename_i hw;rw [Qip hw] at h;exact BX
   · rename_i hw;rw [Qin hw] at h;exact pP h
theorem j8 {l:List GO}(n:Nat)(J:KD→World→Prop)(ha:Q0 P (l.take n) (Qp J Q) U w)(hb:∀U w,J U w→Q0 P (l.drop n) Q U w):Q0 P l Q U w:=by
 rw [←Gz n l];exact pP (pL (mY hb fun _ _ _ h=>h) ha)
theorem iG {d:Nat}{x:Operand}(hx:U.ev x=v)(hK:r.sl c v xs)(h:Q0 P l Q (upd U d (.int .i64 xs.length)) w):Q0 P (⟨none, .len d x⟩::l) Q U w:=by
 obtain ⟨css,I,M,h3⟩:=hK;exact YB hx I M.1 h
theorem iH {d:Nat}{x:Operand}{hi:Option Operand}(hx:U.ev x=v)(hK:r.sl c v xs)(hes:r.es=es)(hmx:mx=none)(hh:MQ U xs.length hi h')(hl:MQ U 0 lo l')(M:h'≤xs.length)(h3:l'≤h')
 (h:∀v',r.sl c v' ((xs.take h').drop l')→Q0 P l Q (upd U d v') w):Q0 P (⟨none, .sub d es x lo hi mx⟩::l) Q U w:=by
 subst hes;obtain ⟨css,I,g2,g3⟩:=hK;exact dm hx I hmx (by rw [g2.1];exact hh) hl (by rw [g2.1];exact M) h3 fun v' hv=>h v' ⟨_,hv,g2.sub _ _,by simp;omega⟩
end
end

section
variable {P:Program}{T e:TypeId}{α β:Type}
def Cod.rep (c:Cod P T α)(r:Rep β)(hs:c.es=r.es)(h:∀(H:KI) cs x,c.rd H cs x→∃y,r.R H (· < H.size) cs y):Cod P T β where
 es:=r.es
 rd:=fun H cs y=>r.R H (· < H.size) cs y
 size:=by rw [←hs];exact c.size
 len:=fun _ _ _ h=>r.len h
 stay:=fun H H' cs x hx hH=>r.turn hx fun b hb hlt=>by
  have:=hH b hlt;refine ⟨?_,this⟩;rcases Gj b H'.size with h|h
  · exact h
  · rw [Gt h,GB hlt] at this;cases this
 open_:=fun enc w fuel cs y hy hfit=>by
  obtain ⟨x,hx⟩:=c.open_ enc w fuel cs y hy hfit;exact h _ _ _ hx
theorem YF {r:Rep α}{n:Nat}{xs:List α}(hn:r.es=n)
 (h:∃v css,cs=[v]∧MA H n v (fun _=>True) css∧css.length=xs.length∧xs.length≤140737488355328∧∀(m:Nat) (x:α),xs[m]?=some x→∃d,css[m]?=some d∧r.R H (· < H.size) d x):r.list.R H (· < H.size) cs xs:=by
 obtain ⟨v,css,rfl,I,M,h3,h4⟩:=h;subst hn;exact ⟨v,rfl,css,HC I fun b hb _=>hb,⟨M,h4⟩,h3⟩
def Cod.listOf (c:Cod P e β)(r:Rep β)(hs:c.es=r.es)(h:∀(H:KI) cs x,c.rd H cs x→r.R H (· < H.size) cs x)(ht:P.underlying T=some (.slice e))(I:P.cellsOf T=1)(hby:decide (0<P.bytesOf e)=true):Cod P T (List β):=
 Cod.rep (Cod.slice c ht I (by rw [hs];exact r.pos) hby) r.list rfl fun H cs x hx=>⟨x,YF hs.symm (by
  obtain ⟨v,css,g1,g2,g3,g4,g5⟩:=hx;exact ⟨v,css,g1,g2,g3,g4,fun m y hy=>by obtain ⟨d,g6,g7⟩:=g5 m y hy;exact ⟨d,g6,h _ _ _ g7⟩⟩)⟩
structure Cod.Of (P:Program) (T:TypeId){α:Type}(r:Rep α) where
 cod:Cod P T α
 es:cod.es=r.es
 rd:∀(H:KI) cs x,cod.rd H cs x→r.R H (· < H.size) cs x
def Cod.of (c:Cod P T α)(r:Rep β)(hs:c.es=r.es)(h:∀(H:KI) cs x,c.rd H cs x→∃y,r.R H (· < H.size) cs y):Cod.Of P T r:=⟨Cod.rep c r hs h,rfl,fun _ _ _ h=>h⟩
def Cod.Of.list {r:Rep α}(c:Cod.Of P e r)(ht:P.underlying T=some (.slice e))(I:P.cellsOf T=1)(hby:decide (0<P.bytesOf e)=true):Cod.Of P T r.list:=⟨Cod.listOf c.cod r c.es c.rd ht I hby,rfl,fun _ _ _ h=>h⟩
def Cod.Of.int (ht:P.underlying T=some (.int .i64))(hs:P.cellsOf T=1):Cod.Of P T Kb:=Cod.of (Cod.int .i64 ht hs) Kb rfl fun _ _ x h=>⟨x,h.1⟩
def Cod.Of.ty {TL t0 t1:TypeId}(h0:fieldAt P T 0=some (0,1,t0))(I:fieldAt P T 1=some (1,1,t1))(M:fieldAt P T 2=some (2,1,TL))(hi0:P.underlying t0=some (.int .i64))(hi1:P.underlying t1=some (.int .i64))(hT:P.cellsOf T=3)(hTL:P.underlying TL=some (.slice T))(hby:decide (0<P.bytesOf T)=true):Cod.Of P T KA:=
 ⟨Cod.ty h0 I M hi0 hi1 hT hTL hby,rfl,fun _ _ _ h=>h⟩
theorem Cod.Of.top {r:Rep α}(c:Cod.Of P T r){x:α}(h:c.cod.rd w.heap cs x):r.at (Cx.top w) cs x:=c.rd _ _ _ h
end
end
section
def bt (b:UInt8):List Value:=[.int .u8 (b.toNat:Int)]
def iI:Rep UInt8:=Rep.lit (fun b=> .int .u8 (b.toNat:Int)) (fun _=>rfl)
theorem YG {c:Cx}{b:UInt8}(h:iI.at c cs b):cs=[.int .u8 (b.toNat:Int)]:=h
theorem dq {c:Cx}(l:List UInt8):iI.ls c (l.map bt) l:=⟨by simp,fun m x hx=>⟨bt x,by rw [EZ,hx];rfl,rfl⟩⟩
theorem Rep.LR.u8 {r:Rep UInt8}{l:List UInt8}(hr:r=iI)(h:r.LR H K css l):css=l.map bt:=by
 subst hr;apply GC;intro m;rw [EZ];rcases Gj m l.length with hm|hm
 · obtain ⟨d,h4,h5⟩:=h.2 m _ (EI hm);have h5:d=[_]:=h5;rw [h4,EI hm,h5];rfl
 · rw [Fe Dl,Fe hm];rfl
section
variable {P:Program}{l:List GO}{Q:QT}{U:KD}{w:World}{c:Cx}{L:List Res}{v:Value}
theorem Qed (s:List UInt8):(s.map bt).flatten=s.map fun b=>Value.int .u8 (b.toNat:Int):=by
 induction s with
 | nil=>rfl
 | cons b s ih=>simp [bt,ih]
theorem YH {d src dst e Ty:Nat}{x:Operand}{s:ByteArray}(hs:P.underlying src=some .string)(hd:P.underlying dst=some (.slice e))(he:P.underlying e=some (.int .u8))(Z:St c w L)(hx:U.ev x= .string s)
 (h : ∀ v' B, St c B (sl e 1 v' (s.data.toList.map bt) :: L) → Q0 P l Q (upd U d v') B): Q0 P (⟨none, .raw ⟨some d, .convert src dst x, Ty, "", #[], none⟩⟩ :: l) Q U w := by
 have hr:=run_bytes_of_string (P:=P) w src dst e s hs hd he;have hge:=grownCap_ge w s.size 0 e;generalize hcap:grownCap w s.size 0 e=cap at hr hge;refine MR (v:= .slice (some ⟨w.heap.size,0,none⟩) s.size cap) (B:=w.drew.alloc (.cells (bytesRow s cap) e ((bytesRow s cap).size,(bytesRow s cap).size+1))) ?_ ?_
 · simp only [execOp,hx,Fb,hr,EX,Fp]
 · have hsz:s.data.size=s.size:=rfl
   have hrow:(bytesRow s cap).size=cap:=(by simp [bytesRow];omega);refine h _ _ (Z.new (F':=(· =w.heap.size)) ?_ (((Hw NF w).drew').then0 (cU w.drew _)) fun b hb=>by omega);refine ⟨by intro q hq;obtain ⟨b,_,rfl⟩:=Fq.1 hq;rfl, .inr ⟨w.heap.size,0,cap,(bytesRow s cap).toList,?_,?_,?_,?_,?_,fun _=>GY⟩⟩
   · have:(List.map bt s.data.toList).length=s.size:=Eb;rw [this]
   · have:(List.map bt s.data.toList).length=s.size:=Eb;rw [this];exact hge
   · refine ⟨((bytesRow s cap).size,(bytesRow s cap).size+1),?_,?_⟩
     · show (w.heap.push _)[w.heap.size]?=_;rw [Array.getElem?_push_size]
     · refine ⟨fun i I M=>?_,by simp⟩;simp only [FZ] at*;omega
   · simp [hrow]
   · intro i hi;rw [Qed];simp only [EM,FZ,Nat.mul_one] at hi;rw [Gi,F5,bytesRow_at s cap i hi,EZ,F5,GB hi];rfl
theorem dr {d T Ty e n:Nat}{x y:Operand}{k:IntKind}{m:Int}{u:Value}(hT:P.underlying T=some (.array n e))(he:Tp P e=true)(hsz:N6 P e=some 1)(hx:U.ev x= .agg ⟨cs⟩)(hy:U.ev y= .int k m)(h0:0≤m)(hm:m<n)(hu:cs[m.toNat]?=some u)
 (h : Q0 P l Q (upd U d u) w): Q0 P (⟨none, .raw ⟨some d, .index T x y, Ty, "", #[], none⟩⟩ :: l) Q U w := by
 refine MR (v:=u) (B:=w) ?_ h;simp only [execOp,hx,hy,Instr.index,Fb,asIntOf,Fp,EX,Qa P T _ w hT];rw [Qip ⟨h0,hm⟩];simp only [Fb,Ru P e 1 w hsz,EX,Nat.mul_one,oV P e ⟨cs⟩ _ _ w he (by simpa using hu)]
end
end
section
mutual
def Ty.size:Ty→Int→Int
 | .mk _ _ l,left=>Tys.size l (left - 1)
def Tys.size:List Ty→Int→Int
 | [],left=>left
 | x::l,left=>if 0≤left then Tys.size l (x.size left) else left
end
theorem Tys.size_neg:∀(l:List Ty){left:Int},left<0→Tys.size l left=left
 | [],_,_=>by simp [Tys.size]
 | x::l,left,h=>by rw [Tys.size,Qin V]
abbrev Hx:=@Tys.size_neg
mutual
def Ty.deepB:Ty→Int→Bool
 | .mk _ _ l,left=>if left<0 then false else Tys.deepB l (left - 1)
def Tys.deepB:List Ty→Int→Bool
 | [],_=>true
 | x::l,left=>x.deepB left && Tys.deepB l left
end
mutual
def Ty.depth:Ty→Int→Int
 | .mk _ _ l,most=>Tys.depth l most 0
def Tys.depth:List Ty→Int→Int→Int
 | [],_,n=>n
 | x::l,most,n=>if n≤most then (if most=0 then 1 else Tys.depth l most (if n<1+x.depth (most - 1) then 1+x.depth (most - 1) else n)) else n
end
mutual
theorem Ty.depth_iff:∀(t:Ty){most:Int},0≤most→(t.depth most≤most↔t.deepB most=true)
 | .mk _ _ l,most,h=>by
   rw [Ty.depth,Ty.deepB,Qin V,Tys.depth_iff l h];exact ⟨fun h=>h.2,fun M=>⟨h,M⟩⟩
theorem Tys.depth_iff:∀(l:List Ty){most n:Int},0≤most→(Tys.depth l most n≤most↔n≤most∧Tys.deepB l (most - 1)=true)
 | [],most,n,h=>by rw [Tys.depth,Tys.deepB];simp
 | x ::l,most,n,h=>by
   rw [Tys.depth,Tys.deepB];by_cases hn:n≤most
   · rw [Qip hn]
     by_cases h0:most=0
     · rw [Qip h0];have:x.deepB (most - 1)=false:=(by obtain ⟨k,r,l2⟩:=x;rw [Ty.deepB,Qip V]);rw [this];simp;omega
     · rw [Qin h0,Tys.depth_iff l h]
       have:=Ty.depth_iff x (most:=most - 1) V;rw [EW,←this];constructor
       · rintro ⟨I,M⟩;split at I<;>exact ⟨V,V,M⟩
       · rintro ⟨I,M,h3⟩;refine ⟨?_,h3⟩;split<;>omega
   · rw [Qin hn];exact ⟨fun h=>absurd h hn,fun h=>h.1⟩
end
mutual
def Ty.same:Ty→Ty→Bool
 | .mk k r l, .mk k2 r2 l2=>decide (k=k2) && decide (r=r2) && Tys.same l l2
def Tys.same:List Ty→List Ty→Bool
 | [],[]=>true
 | x::l,y::m=>x.same y && Tys.same l m
 | [],_::_=>false
 | _::_,[]=>false
end
mutual
theorem Ty.same_iff:∀(t u:Ty),t.same u=true↔t=u
 | .mk k r l, .mk k2 r2 l2=>by
   rw [Ty.same,EW,EW,Tys.same_iff l l2];simp only [decide_eq_true_eq,Ty.mk.injEq,and_assoc]
theorem Tys.same_iff:∀(l m:List Ty),Tys.same l m=true↔l=m
 | [],[]=>by simp [Tys.same]
 | x::l,y::m=>by rw [Tys.same,EW,Ty.same_iff x y,Tys.same_iff l m];simp
 | [],_::_=>by simp [Tys.same]
 | _::_,[]=>by simp [Tys.same]
end
instance:DecidableEq Ty:=fun t u=>decidable_of_iff _ (Ty.same_iff t u)
mutual
def Ty.wrong (fields:Nat):Ty→Int→Int
 | .mk k r l,regs=>
   if k<1∨4<k then 3 else if k=1∧r≠0∨k≠3∧0<l.length then 4 else if fields<l.length then 2 else if k≠1∧(r<0∨regs≤r) then 1 else Tys.wrong fields l regs
def Tys.wrong (fields:Nat):List Ty→Int→Int
 | [],_=>0
 | x::l,regs=>if x.wrong fields regs≠0 then x.wrong fields regs else Tys.wrong fields l regs
end
mutual
def Ty.ren:Ty→List Int→Option Ty
 | .mk k r l,to=>if k≠1∧(r<0∨(to.length:Int)≤r∨to.getD r.toNat 0<0) then none else
   match Tys.ren l to with
   | none=>none
   | some m=>some (.mk k (if k≠1 then to.getD r.toNat 0 else r) m)
def Tys.ren:List Ty→List Int→Option (List Ty)
 | [],_=>some []
 | x ::l,to=>match x.ren to with
   | none=>none
   | some y=>match Tys.ren l to with
     | none=>none
     | some m=>some (y::m)
end
mutual
theorem Ty.ren_ren {f g h:List Int}(hfg:∀i:Nat,i<f.length→0≤f.getD i 0∧f.getD i 0<g.length∧0≤g.getD (f.getD i 0).toNat 0∧i<h.length∧h.getD i 0=g.getD (f.getD i 0).toNat 0):
 ∀(t u:Ty),t.ren f=some u→∃v,u.ren g=some v∧t.ren h=some v
 | .mk k r l,u,ht=>by
   rw [Ty.ren] at ht;split at ht
   · cases ht
   · rename_i O
     cases hl:Tys.ren l f with
     | none=>rw [hl] at ht;cases ht
     | some m=>
       rw [hl] at ht;simp only [E3] at ht;obtain ⟨m2,I,M⟩:=Tys.ren_ren hfg l m hl;subst ht;by_cases hk:k=1
       · refine ⟨.mk k r m2,?_,?_⟩
         · rw [Ty.ren,Qin V,I];simp [hk]
         · rw [Ty.ren,Qin V,M];simp [hk]
       · have:=hfg r.toNat V
         refine ⟨.mk k (g.getD (f.getD r.toNat 0).toNat 0) m2,?_,?_⟩
         · rw [Ty.ren,Qip hk,Qin V,I];simp [hk]
         · rw [Ty.ren,Qin V,M];simp only [Qip hk,this.2.2.2.2]
theorem Tys.ren_ren {f g h:List Int}(hfg:∀i:Nat,i<f.length→0≤f.getD i 0∧f.getD i 0<g.length∧0≤g.getD (f.getD i 0).toNat 0∧i<h.length∧h.getD i 0=g.getD (f.getD i 0).toNat 0):
 ∀(t u:List Ty),Tys.ren t f=some u→∃v,Tys.ren u g=some v∧Tys.ren t h=some v
 | [],u,ht=>by rw [Tys.ren] at ht;cases ht;exact ⟨[],by rw [Tys.ren],by rw [Tys.ren]⟩
 | x ::l,u,ht=>by
   rw [Tys.ren] at ht
   cases hx:x.ren f with
   | none=>rw [hx] at ht;cases ht
   | some y=>
     rw [hx] at ht
     cases hl:Tys.ren l f with
     | none=>rw [hl] at ht;cases ht
     | some m=>
       rw [hl] at ht;simp only [E3] at ht;subst ht;obtain ⟨y2,a1,a2⟩:=Ty.ren_ren hfg x y hx;obtain ⟨m2,b1,b2⟩:=Tys.ren_ren hfg l m hl;exact ⟨y2::m2,by rw [Tys.ren,a1,b1],by rw [Tys.ren,a2,b2]⟩
end
mutual
theorem Ty.ren_wrong {fields:Nat}{f:List Int}(hf:∀i:Nat,i<f.length→0≤f.getD i 0∧f.getD i 0<f.length):∀(t u:Ty),t.ren f=some u→u.wrong fields f.length=t.wrong fields f.length
 | .mk k r l,u,ht=>by
   rw [Ty.ren] at ht;split at ht
   · cases ht
   · rename_i O
     cases hl:Tys.ren l f with
     | none=>rw [hl] at ht;cases ht
     | some m=>
       rw [hl] at ht;simp only [E3] at ht;subst ht;obtain ⟨I,M⟩:=Tys.ren_wrong (fields:=fields) hf l m hl;by_cases hk:k=1
       · rw [Ty.wrong,Ty.wrong,I,M];simp [hk]
       · have:=hf r.toNat V;rw [Ty.wrong,Ty.wrong,I,M];simp only [Qip hk];rw [Qin (show¬(k≠1∧(f.getD r.toNat 0<0∨(f.length:Int)≤f.getD r.toNat 0)) by omega),Qin (show¬(k≠1∧(r<0∨(f.length:Int)≤r)) by omega)];simp [hk]
theorem Tys.ren_wrong {fields:Nat}{f:List Int}(hf:∀i:Nat,i<f.length→0≤f.getD i 0∧f.getD i 0<f.length):∀(t u:List Ty),Tys.ren t f=some u→u.length=t.length∧Tys.wrong fields u f.length=Tys.wrong fields t f.length
 | [],u,ht=>by rw [Tys.ren] at ht;cases ht;exact ⟨rfl,rfl⟩
 | x ::l,u,ht=>by
   rw [Tys.ren] at ht
   cases hx:x.ren f with
   | none=>rw [hx] at ht;cases ht
   | some y=>
     rw [hx] at ht
     cases hl:Tys.ren l f with
     | none=>rw [hl] at ht;cases ht
     | some m=>
       rw [hl] at ht;simp only [E3] at ht;subst ht;obtain ⟨I,M⟩:=Tys.ren_wrong (fields:=fields) hf l m hl;exact ⟨by simp [I],by rw [Tys.wrong,Tys.wrong,Ty.ren_wrong hf x y hx,M]⟩
end
mutual
theorem Ty.ren_none {fields:Nat}{f:List Int}(hf:∀i:Nat,i<f.length→0≤f.getD i 0):∀(t:Ty),t.ren f=none→t.wrong fields f.length≠0
 | .mk k r l,ht=>by
   rw [Ty.wrong];rw [Ty.ren] at ht;split
   · decide
   · split
     · decide
     · split
       · decide
       · split
         · decide
         · rename_i I M h3 h4
           have O:¬(k≠1∧(r<0∨(f.length:Int)≤r∨f.getD r.toNat 0<0)):=by
            rintro ⟨a,b⟩;have:=hf r.toNat;omega
           rw [Qin O] at ht
           cases hl:Tys.ren l f with
           | none=>exact Tys.ren_none hf l hl
           | some m=>rw [hl] at ht;cases ht
theorem Tys.ren_none {fields:Nat}{f:List Int}(hf:∀i:Nat,i<f.length→0≤f.getD i 0):∀(t:List Ty),Tys.ren t f=none→Tys.wrong fields t f.length≠0
 | [],ht=>by rw [Tys.ren] at ht;cases ht
 | x ::l,ht=>by
   rw [Tys.ren] at ht;rw [Tys.wrong];split
   · rename_i h;exact h
   · rename_i h
     cases hx:x.ren f with
     | none=>exact absurd hx (fun hx=>h (Ty.ren_none hf x hx))
     | some y=>
       rw [hx] at ht
       cases hl:Tys.ren l f with
       | none=>exact Tys.ren_none hf l hl
       | some m=>rw [hl] at ht;cases ht
end
mutual
theorem Ty.ren_deep {f:List Int}:∀(t u:Ty) (left:Int),t.ren f=some u→u.deepB left=t.deepB left
 | .mk k r l,u,left,ht=>by
   rw [Ty.ren] at ht;split at ht
   · cases ht
   · cases hl:Tys.ren l f with
     | none=>rw [hl] at ht;cases ht
     | some m=>
       rw [hl] at ht;simp only [E3] at ht;subst ht;rw [Ty.deepB,Ty.deepB,Tys.ren_deep l m (left - 1) hl]
theorem Tys.ren_deep {f:List Int}:∀(t u:List Ty) (left:Int),Tys.ren t f=some u→Tys.deepB u left=Tys.deepB t left
 | [],u,_,ht=>by rw [Tys.ren] at ht;cases ht;rfl
 | x ::l,u,left,ht=>by
   rw [Tys.ren] at ht
   cases hx:x.ren f with
   | none=>rw [hx] at ht;cases ht
   | some y=>
     rw [hx] at ht
     cases hl:Tys.ren l f with
     | none=>rw [hl] at ht;cases ht
     | some m=>
       rw [hl] at ht;simp only [E3] at ht;subst ht;rw [Tys.deepB,Tys.deepB,Ty.ren_deep x y left hx,Tys.ren_deep l m left hl]
end
mutual
theorem Ty.ren_id {f:List Int}(hf:∀i:Nat,i<f.length→f.getD i 0=i):∀(t u:Ty),t.ren f=some u→u=t
 | .mk k r l,u,ht=>by
   rw [Ty.ren] at ht;split at ht
   · cases ht
   · rename_i O
     cases hl:Tys.ren l f with
     | none=>rw [hl] at ht;cases ht
     | some m=>
       rw [hl] at ht;simp only [E3] at ht;subst ht;rw [Tys.ren_id hf l m hl];by_cases hk:k=1
       · simp [hk]
       · have:=hf r.toNat V;rw [Qip hk,this,Fi V]
theorem Tys.ren_id {f:List Int}(hf:∀i:Nat,i<f.length→f.getD i 0=i):∀(t u:List Ty),Tys.ren t f=some u→u=t
 | [],u,ht=>by rw [Tys.ren] at ht;cases ht;rfl
 | x ::l,u,ht=>by
   rw [Tys.ren] at ht
   cases hx:x.ren f with
   | none=>rw [hx] at ht;cases ht
   | some y=>
     rw [hx] at ht
     cases hl:Tys.ren l f with
     | none=>rw [hl] at ht;cases ht
     | some m=>
       rw [hl] at ht;simp only [E3] at ht;subst ht;rw [Ty.ren_id hf x y hx,Tys.ren_id hf l m hl]
end
theorem Ty.ind {p:Ty→Prop}(h:∀k r l,(∀x∈l,p x)→p (.mk k r l)):∀t,p t
 | .mk k r l=>h k r l fun x hx=>Ty.ind h x
termination_by t=>SizeOf.sizeOf t
decreasing_by
 have:=H3 hx;simp only [Ty.mk.sizeOf_spec];omega
abbrev GS:=@Ty.ind
mutual
theorem Ty.size_rng:∀(t:Ty){left:Int},0≤left→-1≤t.size left∧t.size left<left
 | .mk _ _ l,left,h=>by
   rw [Ty.size];have:=Tys.size_rng l (left:=left - 1) V;omega
theorem Tys.size_rng:∀(l:List Ty){left:Int}, -1≤left→-1≤Tys.size l left∧Tys.size l left≤left
 | [],left,h=>by rw [Tys.size];omega
 | x ::l,left,h=>by
   rw [Tys.size];split
   · rename_i h0;have I:=Ty.size_rng x h0;have M:=Tys.size_rng l (left:=x.size left) I.1;omega
   · omega
end
mutual
theorem Ty.size_mono:∀(t:Ty){a b:Int},a≤b→-1≤a→t.size a≤t.size b
 | .mk _ _ l,a,b,h,ha=>by
   rw [Ty.size,Ty.size];by_cases h0:0≤a
   · exact Tys.size_mono l V V
   · rw [Hx l V]
     by_cases hb:0≤b
     · have:=Tys.size_rng l (left:=b - 1) V;omega
     · rw [Hx l V];omega
theorem Tys.size_mono:∀(l:List Ty){a b:Int},a≤b→-1≤a→Tys.size l a≤Tys.size l b
 | [],a,b,h,_=>by rw [Tys.size,Tys.size];exact h
 | x ::l,a,b,h,ha=>by
   by_cases h0:0≤a
   · rw [Tys.size,Tys.size,Qip h0,Qip V];exact Tys.size_mono l (Ty.size_mono x h ha) (Ty.size_rng x h0).1
   · rw [Hx _ V];have:=Tys.size_rng (x::l) (left:=b) V;omega
end
theorem Tys.size_len:∀(l:List Ty){left:Int},0≤Tys.size l left→-1≤left→(l.length:Int)≤left∧∀x∈l,0≤x.size left
 | [],left,h,_=>by rw [Tys.size] at h;simp;exact h
 | x ::l,left,h,hl=>by
   rw [Tys.size] at h;split at h
   · rename_i h0
     have I:=Ty.size_rng x h0;have M:=Tys.size_len l h I.1;have h3:=Tys.size_rng l (left:=x.size left) I.1;refine ⟨by simp only [EY];omega,fun y hy=>?_⟩;rcases E4.1 hy with rfl|hy
     · omega
     · exact Int.le_trans (M.2 y hy) (Ty.size_mono y V I.1)
   · omega
abbrev Ji:=@Tys.size_len
def Ty.fault (t:Ty)(regs:Int):Int:=if t.deepB 4=false then 19 else t.wrong 8 regs
mutual
theorem Ty.depth_rng:∀(t:Ty){most:Int},0≤most→0≤t.depth most∧t.depth most≤most+1
 | .mk _ _ l,most,h=>by
   rw [Ty.depth];exact Tys.depth_rng l h V V
theorem Tys.depth_rng:∀(l:List Ty){most n:Int},0≤most→0≤n→n≤most+1→0≤Tys.depth l most n∧Tys.depth l most n≤most+1
 | [],most,n,_,I,M=>by rw [Tys.depth];omega
 | x ::l,most,n,h,I,M=>by
   rw [Tys.depth];split
   · split
     · omega
     · have:=Ty.depth_rng x (most:=most - 1) V;exact Tys.depth_rng l h (by split<;>omega) (by split<;>omega)
   · omega
end
inductive Ty.Short:Ty→Prop where
 | mk {k r:Int}{l:List Ty}:l.length≤100000→(∀x∈l,x.Short)→Ty.Short (.mk k r l)
theorem Ty.Short.parts {k r:Int}{l:List Ty}(h:(Ty.mk k r l).Short):l.length≤100000∧∀x∈l,x.Short:=by
 cases h with|mk I M=>exact ⟨I,M⟩
theorem Ty.short_of_size:∀(t:Ty){n:Int},n≤100000→0≤n→0≤t.size n→t.Short:=by
 intro t
 induction t using GS with
 | h k r l ih=>
   intro n I h0 h;rw [Ty.size] at h;obtain ⟨M,h3⟩:=Ji l h V;refine .mk V fun x hx=>?_;have hp:=h3 x hx;have hl:=Hf hx;exact ih x hx (n:=n - 1) V V hp
def Ty.great (t:Ty):Bool:=decide (t.size 2000<0)
def Tys.great (l:List Ty):Bool:=decide (200<l.length)||l.any Ty.great
theorem Ty.short_of_great {t:Ty}(h:t.great=false):t.Short:=Ty.short_of_size t (n:=2000) V V (by unfold Ty.great at h;simp at h;exact h)
abbrev J5:=@Ty.short_of_great
theorem Tys.short_of_great {l:List Ty}(h:Tys.great l=false):l.length≤200∧∀x∈l,x.Short:=by
 unfold Tys.great at h;rw [Hl] at h;refine ⟨by have:=of_decide_eq_false h.1;omega,fun x hx=>J5 ?_⟩
 cases hg:x.great with
 | false=>rfl
 | true=>have:=List.any_eq_true.2 ⟨x,hx,hg⟩;rw [h.2] at this;cases this
abbrev JY:=@Tys.short_of_great
end
section
structure Ins where
 op:Int
 a:Int
 b:Int
 c:Int
 k:Int
 n:Int
 regs:List Int
 args:List Int
structure To where
 block:Int
 regs:List Int
 args:List Int
structure Tail where
 op:Int
 a:Int
 yes:To
 no:To
 args:List Int
structure Block where
 regs:Int
 params:List Ty
 code:List Ins
 fin:Tail
deriving instance DecidableEq for Ins
deriving instance DecidableEq for To
deriving instance DecidableEq for Tail
deriving instance DecidableEq for Block
structure Fun where
 regs:Int
 params:List Ty
 results:List Ty
 blocks:List Block
structure Module where
 funcs:List Fun
deriving instance DecidableEq for Fun
deriving instance DecidableEq for Module

def Ins.Short (x:Ins):Prop:=x.regs.length≤100000∧x.args.length≤100000
def To.Short (x:To):Prop:=x.regs.length≤100000∧x.args.length≤100000
def Tail.Short (x:Tail):Prop:=x.yes.Short∧x.no.Short∧x.args.length≤100000
def Tys.Short (l:List Ty):Prop:=l.length≤100000∧∀t∈l,t.Short
def Block.Short (x:Block):Prop:=Tys.Short x.params∧x.code.length≤100000∧(∀i∈x.code,i.Short)∧x.fin.Short
def Fun.Short (x:Fun):Prop:=Tys.Short x.params∧Tys.Short x.results∧x.blocks.length≤100000∧∀b∈x.blocks,b.Short
def Module.Short (x:Module):Prop:=x.funcs.length≤100000∧∀f∈x.funcs,f.Short
theorem Tys.Short.of_great {l:List Ty}(h:Tys.great l=false):Tys.Short l:=by
 have:=JY h;exact ⟨V,this.2⟩
abbrev HD:=@Tys.Short.of_great
theorem YI {l:List α}{x:α}(h:∀y∈l.take j,p y)(hx:l[j]?=some x)(hp:p x):∀y∈l.take (j+1),p y:=by
 intro y hy;rw [HK,hx] at hy;rcases E8.1 hy with hy|hy
 · exact h y hy
 · simp at hy;subst hy;exact hp
theorem dt {l:List α}(h:∀y∈l.take j,p y)(hj:l.length≤j):∀y∈l,p y:=by
 rw [Fg hj] at h;exact h
def K1:Rep Ins where
 es:=8
 pos:=by decide
 R:=fun H K cs x=>∃vr va,cs=[.int .i64 x.op, .int .i64 x.a, .int .i64 x.b, .int .i64 x.c, .int .i64 x.k, .int .i64 x.n,vr,va]∧Kb.SR H K vr x.regs∧Kb.SR H K va x.args
 len:=by rintro _ _ _ _ ⟨vr,va,rfl,_⟩;rfl
 one:=by
  rintro _ _ _ _ ⟨vr,va,rfl,I,M⟩ u hu;simp at hu;rcases hu with rfl|rfl|rfl|rfl|rfl|rfl|rfl|rfl<;>first|rfl|exact I.oneC|exact M.oneC
 turn:=by rintro _ _ _ _ _ _ ⟨vr,va,rfl,I,M⟩ hs;exact ⟨vr,va,rfl,I.turn hs,M.turn hs⟩
def toR:Rep To where
 es:=3
 pos:=by decide
 R:=fun H K cs x=>∃vr va,cs=[.int .i64 x.block,vr,va]∧Kb.SR H K vr x.regs∧Kb.SR H K va x.args
 len:=by rintro _ _ _ _ ⟨vr,va,rfl,_⟩;rfl
 one:=by
  rintro _ _ _ _ ⟨vr,va,rfl,I,M⟩ u hu;simp at hu;rcases hu with rfl|rfl|rfl<;>first|rfl|exact I.oneC|exact M.oneC
 turn:=by rintro _ _ _ _ _ _ ⟨vr,va,rfl,I,M⟩ hs;exact ⟨vr,va,rfl,I.turn hs,M.turn hs⟩
def La:Rep Tail where
 es:=9
 pos:=by decide
 R:=fun H K cs x=>∃v1 v2 v3 v4 v5,cs=[.int .i64 x.op, .int .i64 x.a, .int .i64 x.yes.block,v1,v2, .int .i64 x.no.block,v3,v4,v5]∧Kb.SR H K v1 x.yes.regs∧Kb.SR H K v2 x.yes.args∧Kb.SR H K v3 x.no.regs∧Kb.SR H K v4 x.no.args∧Kb.SR H K v5 x.args
 len:=by rintro _ _ _ _ ⟨_,_,_,_,_,rfl,_⟩;rfl
 one:=by
  rintro _ _ _ _ ⟨_,_,_,_,_,rfl,I,M,h3,h4,h5⟩ u hu;simp at hu;rcases hu with rfl|rfl|rfl|rfl|rfl|rfl|rfl|rfl|rfl<;>first|rfl|exact I.oneC|exact M.oneC|exact h3.oneC|exact h4.oneC|exact h5.oneC
 turn:=by rintro _ _ _ _ _ _ ⟨_,_,_,_,_,rfl,I,M,h3,h4,h5⟩ hs;exact ⟨_,_,_,_,_,rfl,I.turn hs,M.turn hs,h3.turn hs,h4.turn hs,h5.turn hs⟩
def K3:Rep Block where
 es:=12
 pos:=by decide
 R:=fun H K cs x=>∃vp vc ce,cs= .int .i64 x.regs::vp::vc::ce∧KA.SR H K vp x.params∧K1.SR H K vc x.code∧La.R H K ce x.fin
 len:=by rintro _ _ _ _ ⟨_,_,ce,rfl,_,_,h⟩;have:=La.len h;simp [this,La]
 one:=by
  rintro _ _ _ _ ⟨_,_,ce,rfl,I,M,h3⟩ u hu;simp at hu;rcases hu with rfl|rfl|rfl|hu
  · rfl
  · exact I.oneC
  · exact M.oneC
  · exact La.one h3 u hu
 turn:=by rintro _ _ _ _ _ _ ⟨_,_,_,rfl,I,M,h3⟩ hs;exact ⟨_,_,_,rfl,I.turn hs,M.turn hs,La.turn h3 hs⟩
def Ks:Rep Fun where
 es:=4
 pos:=by decide
 R:=fun H K cs x=>∃vp vr vb,cs=[.int .i64 x.regs,vp,vr,vb]∧KA.SR H K vp x.params∧KA.SR H K vr x.results∧K3.SR H K vb x.blocks
 len:=by rintro _ _ _ _ ⟨_,_,_,rfl,_⟩;rfl
 one:=by
  rintro _ _ _ _ ⟨_,_,_,rfl,I,M,h3⟩ u hu;simp at hu;rcases hu with rfl|rfl|rfl|rfl<;>first|rfl|exact I.oneC|exact M.oneC|exact h3.oneC
 turn:=by rintro _ _ _ _ _ _ ⟨_,_,_,rfl,I,M,h3⟩ hs;exact ⟨_,_,_,rfl,I.turn hs,M.turn hs,h3.turn hs⟩
def Lr:Rep Module where
 es:=1
 pos:=by decide
 R:=fun H K cs x=>∃vf,cs=[vf]∧Ks.SR H K vf x.funcs
 len:=by rintro _ _ _ _ ⟨_,rfl,_⟩;rfl
 one:=by
  rintro _ _ _ _ ⟨_,rfl,I⟩ u hu;simp at hu;subst hu;exact I.oneC
 turn:=by rintro _ _ _ _ _ _ ⟨_,rfl,I⟩ hs;exact ⟨_,rfl,I.turn hs⟩

theorem QN {c:Cx}{x:Ins}(h:K1.at c cs x):∃vr va,cs=[.int .i64 x.op, .int .i64 x.a, .int .i64 x.b, .int .i64 x.c, .int .i64 x.k, .int .i64 x.n,vr,va]∧Kb.sl c vr x.regs∧Kb.sl c va x.args:=h
theorem YJ {c:Cx}{x:To}(h:toR.at c cs x):∃vr va,cs=[.int .i64 x.block,vr,va]∧Kb.sl c vr x.regs∧Kb.sl c va x.args:=h
theorem PA {c:Cx}{x:Tail}(h:La.at c cs x):∃v1 v2 v3 v4 v5,cs=[.int .i64 x.op, .int .i64 x.a, .int .i64 x.yes.block,v1,v2, .int .i64 x.no.block,v3,v4,v5]∧Kb.sl c v1 x.yes.regs∧Kb.sl c v2 x.yes.args∧Kb.sl c v3 x.no.regs∧Kb.sl c v4 x.no.args∧Kb.sl c v5 x.args:=h
theorem PV {c:Cx}{x:Block}(h:K3.at c cs x):∃vp vc v1 v2 v3 v4 v5,cs=[.int .i64 x.regs,vp,vc, .int .i64 x.fin.op, .int .i64 x.fin.a, .int .i64 x.fin.yes.block,v1,v2, .int .i64 x.fin.no.block,v3,v4,v5]∧KA.sl c vp x.params∧K1.sl c vc x.code∧Kb.sl c v1 x.fin.yes.regs∧Kb.sl c v2 x.fin.yes.args∧Kb.sl c v3 x.fin.no.regs∧Kb.sl c v4 x.fin.no.args∧Kb.sl c v5 x.fin.args:=by
 obtain ⟨vp,vc,ce,rfl,I,M,v1,v2,v3,v4,v5,rfl,h3⟩:=h;exact ⟨vp,vc,v1,v2,v3,v4,v5,rfl,I,M,h3⟩
theorem uQ {c:Cx}{x:Block}{vp vc v5:Value}(I:KA.sl c vp x.params)(M:K1.sl c vc x.code)(h3:Kb.sl c v1 x.fin.yes.regs)(h4:Kb.sl c v2 x.fin.yes.args)(h5:Kb.sl c v3 x.fin.no.regs)(h6:Kb.sl c v4 x.fin.no.args)(h7:Kb.sl c v5 x.fin.args):
 K3.at c [.int .i64 x.regs,vp,vc, .int .i64 x.fin.op, .int .i64 x.fin.a, .int .i64 x.fin.yes.block,v1,v2, .int .i64 x.fin.no.block,v3,v4,v5] x:=⟨vp,vc,_,rfl,I,M,v1,v2,v3,v4,v5,rfl,h3,h4,h5,h6,h7⟩
theorem Qx {c:Cx}{x:Fun}(h:Ks.at c cs x):∃vp vr vb,cs=[.int .i64 x.regs,vp,vr,vb]∧KA.sl c vp x.params∧KA.sl c vr x.results∧K3.sl c vb x.blocks:=h
theorem NR {c:Cx}{x:Module}(h:Lr.at c cs x):∃vf,cs=[vf]∧Ks.sl c vf x.funcs:=h

section
variable {P:Program}{T:TypeId}
theorem Cod.Of.part {r:Rep α}(c:Cod.Of P T r){x:α}(h:c.cod.rd H cs x):r.R H (· < H.size) cs x:=c.rd _ _ _ h
def Cod.Of.to {TI TL:TypeId}(ci:Cod.Of P TI Kb)(cl:Cod.Of P TL Kb.list)(h0:fieldAt P T 0=some (0,1,TI))(I:fieldAt P T 1=some (1,1,TL))(M:fieldAt P T 2=some (2,1,TL))(hT:P.cellsOf T=3):Cod.Of P T toR:=
 Cod.of (Fld.cod (Fld.more ci.cod h0 (Fld.more cl.cod I (Fld.more cl.cod M Fld.none))) h0 3 hT) toR rfl fun H cs x h=>by
  obtain ⟨hl,g0,g1,g2,_⟩:=h
  match cs,hl with
  | [a,b,c],_=>
    have e0:[a]=[_]:=ci.part g0;obtain ⟨v1,e1,s1⟩:=cl.part g1;obtain ⟨v2,e2,s2⟩:=cl.part g2;replace e1:[b]=[v1]:=e1;replace e2:[c]=[v2]:=e2;simp only [FW,and_true] at e0 e1 e2;subst e0 e1 e2;exact ⟨⟨x.1,x.2.1,x.2.2.1⟩,b,c,rfl,s1,s2⟩
def Cod.Of.ins {TI TL TN:TypeId}(ci:Cod.Of P TI Kb)(cn:Cod.Of P TN Kb)(cl:Cod.Of P TL Kb.list)(h0:fieldAt P T 0=some (0,1,TI))(I:fieldAt P T 1=some (1,1,TI))(M:fieldAt P T 2=some (2,1,TI))(h3:fieldAt P T 3=some (3,1,TI))(h4:fieldAt P T 4=some (4,1,TI))(h5:fieldAt P T 5=some (5,1,TN))(h6:fieldAt P T 6=some (6,1,TL))(h7:fieldAt P T 7=some (7,1,TL))(hT:P.cellsOf T=8):Cod.Of P T K1:=
 Cod.of (Fld.cod (Fld.more ci.cod h0 (Fld.more ci.cod I (Fld.more ci.cod M (Fld.more ci.cod h3 (Fld.more ci.cod h4 (Fld.more cn.cod h5 (Fld.more cl.cod h6 (Fld.more cl.cod h7 Fld.none)))))))) h0 8 hT) K1 rfl fun H cs x h=>by
  obtain ⟨hl,g0,g1,g2,g3,g4,g5,g6,g7,_⟩:=h
  match cs,hl with
  | [a0,a1,a2,a3,a4,a5,a6,a7],_=>
    have e0:[a0]=[_]:=ci.part g0;have e1:[a1]=[_]:=ci.part g1;have e2:[a2]=[_]:=ci.part g2;have e3:[a3]=[_]:=ci.part g3;have e4:[a4]=[_]:=ci.part g4;have e5:[a5]=[_]:=cn.part g5;obtain ⟨v1,e6,s1⟩:=cl.part g6;obtain ⟨v2,e7,s2⟩:=cl.part g7;replace e6:[a6]=[v1]:=e6;replace e7:[a7]=[v2]:=e7;simp only [FW,and_true] at e0 e1 e2 e3 e4 e5 e6 e7;subst e0 e1 e2 e3 e4 e5 e6 e7;exact ⟨⟨x.1,x.2.1,x.2.2.1,x.2.2.2.1,x.2.2.2.2.1,x.2.2.2.2.2.1,x.2.2.2.2.2.2.1,x.2.2.2.2.2.2.2.1⟩,_,_,rfl,s1,s2⟩
def Cod.Of.block {TI TL TC TE:TypeId}(ci:Cod.Of P TI Kb)(cl:Cod.Of P TL KA.list)(cc:Cod.Of P TC K1.list)(ce:Cod.Of P TE La)(h0:fieldAt P T 0=some (0,1,TI))(I:fieldAt P T 1=some (1,1,TL))(M:fieldAt P T 2=some (2,1,TC))(h3:fieldAt P T 3=some (3,9,TE))(hT:P.cellsOf T=12):Cod.Of P T K3:=
 Cod.of (Fld.cod (Fld.more ci.cod h0 (Fld.more cl.cod I (Fld.more cc.cod M (Fld.more ce.cod h3 Fld.none)))) h0 12 hT) K3 rfl fun H cs x h=>by
  obtain ⟨hl,g0,g1,g2,g3,_⟩:=h
  match cs,hl with
  | [a0,a1,a2,a3,a4,a5,a6,a7,a8,a9,a10,a11],_=>
    have e0:[a0]=[_]:=ci.part g0;obtain ⟨v1,e1,s1⟩:=cl.part g1;obtain ⟨v2,e2,s2⟩:=cc.part g2;have s3:=ce.part g3;replace e1:[a1]=_:=e1;replace e2:[a2]=_:=e2;replace s3:La.R H (· < H.size) [a3,a4,a5,a6,a7,a8,a9,a10,a11] x.2.2.2.1:=s3;simp only [FW,and_true] at e0 e1 e2;subst e0 e1 e2;exact Cu
def Cod.Of.func {TI TL TB:TypeId}(ci:Cod.Of P TI Kb)(cl:Cod.Of P TL KA.list)(cb:Cod.Of P TB K3.list)(h0:fieldAt P T 0=some (0,1,TI))(I:fieldAt P T 1=some (1,1,TL))(M:fieldAt P T 2=some (2,1,TL))(h3:fieldAt P T 3=some (3,1,TB))(hT:P.cellsOf T=4):Cod.Of P T Ks:=
 Cod.of (Fld.cod (Fld.more ci.cod h0 (Fld.more cl.cod I (Fld.more cl.cod M (Fld.more cb.cod h3 Fld.none)))) h0 4 hT) Ks rfl fun H cs x h=>by
  obtain ⟨hl,g0,g1,g2,g3,_⟩:=h
  match cs,hl with
  | [a0,a1,a2,a3],_=>
    have e0:[a0]=[_]:=ci.part g0;obtain ⟨v1,e1,s1⟩:=cl.part g1;obtain ⟨v2,e2,s2⟩:=cl.part g2;obtain ⟨v3,e3,s3⟩:=cb.part g3;replace e1:[a1]=_:=e1;replace e2:[a2]=_:=e2;replace e3:[a3]=_:=e3;simp only [FW,and_true] at e0 e1 e2 e3;subst e0 e1 e2 e3;exact Cu
end
end
section
def qh (n:Int):Int:=M0 .xor .u64 (IntKind.u64.wrap (IntKind.u64.wrap n*2 ^ (min (1:Int).toNat IntKind.u64.bits))) (IntKind.u64.wrap (n.fdiv (2 ^ (min (63:Int).toNat IntKind.i64.bits))))
def zig (n:Int):Nat:=(qh n).toNat
def j9:Nat→Nat→List UInt8
 | 0,_=>[]
 | k+1,u=>if u<128 then [UInt8.ofNat u] else UInt8.ofNat (u % 128+128)::j9 k (u / 128)
theorem uR:∀(k u:Nat),(j9 k u).length≤k
 | 0,_=>by simp [j9]
 | k +1,u=>by
   rw [j9];split
   · simp
   · have:=uR k (u / 128);simp only [EY];omega
def PB (n:Int):List UInt8:=j9 10 (zig n)
def m9 (l:List Int):List UInt8:=l.flatMap PB
theorem O8 (n:Int):(PB n).length≤10:=uR 10 _
theorem uS:∀(l:List Int),(m9 l).length≤10*l.length
 | []=>by simp [m9]
 | n::l=>by
   have I:=O8 n;have M:=uS l;simp only [m9,HJ,EO,EY] at M ⊢;omega
def du (l:List Int):List UInt8:=PB l.length++m9 l
mutual
def Ty.bts:Ty→List UInt8
 | .mk k r l=>PB k++(if k≠1 then PB r else [])++(if k=3 then PB l.length++Tys.bts l else [])
def Tys.bts:List Ty→List UInt8
 | []=>[]
 | x::l=>x.bts++Tys.bts l
end
def Ut (l:List Ty):List UInt8:=PB l.length++Tys.bts l
def To.bts (t:To):List UInt8:=PB t.block++du t.regs++du t.args
def Tail.bts (e:Tail):List UInt8:=PB e.op++(if e.op=1 then e.yes.bts else if e.op=2 then PB e.a++e.yes.bts++e.no.bts else if e.op=3 then du e.args else [])
def Tz (op:Int):Nat:=if op<0∨14<op then 0 else [0,64,11,0,1,33,9,11,3,3,7,1,0,1,56].getD op.toNat 0
def R3 (h:Nat):Nat→List Int→List UInt8
 | _,[]=>[]
 | k,n::l=>(if h / 2 ^ k % 2=1 then PB n else [])++R3 h (k+1) l
def Ins.bts (x:Ins):List UInt8:=PB x.op++R3 (Tz x.op) 0 [x.a,x.b,x.c,x.k]++(if Tz x.op / 64 % 2=1 then PB x.n else [])++(if Tz x.op / 16 % 2=1 then du x.regs else [])++(if Tz x.op / 32 % 2=1 then du x.args else [])
end
section
mutual
def Ty.nodes:Ty→Nat
 | .mk _ _ l=>1+Tys.nodes l
def Tys.nodes:List Ty→Nat
 | []=>0
 | x::l=>x.nodes+Tys.nodes l
end
mutual
theorem Ty.size_nodes:∀(t:Ty){n:Int},0≤t.size n→t.size n=n - t.nodes
 | .mk k r l,n,h=>by
   rw [Ty.size] at h ⊢;rw [Tys.size_nodes l h,Ty.nodes];omega
theorem Tys.size_nodes:∀(l:List Ty){n:Int},0≤Tys.size l n→Tys.size l n=n - Tys.nodes l
 | [],n,h=>by rw [Tys.size,Tys.nodes];omega
 | x ::l,n,h=>by
   rw [Tys.size] at h ⊢;by_cases hn:0≤n
   · rw [Qip hn] at h ⊢
     have hx:0≤x.size n:=by
      rcases Int.lt_or_le (x.size n) 0 with I|I
      · rw [Hx l I] at h;omega
      · exact I
     rw [Tys.size_nodes l h,Ty.size_nodes x hx,Tys.nodes];omega
   · rw [Qin hn] at h;omega
end
theorem Ty.nodes_of_great {t:Ty}(h:t.great=false):t.nodes≤2000:=by
 unfold Ty.great at h;simp at h;have:=Ty.size_nodes t h;omega
abbrev J6:=@Ty.nodes_of_great
end
section
def YK (c:BitVec 32):BitVec 32:=(c >>> 1) ^^^ (3988292384#32 &&& -(c &&& 1#32))
def ka:Nat→BitVec 32→BitVec 32
 | 0,c=>c
 | k+1,c=>ka k (YK c)
def YL (c:BitVec 32)(x:UInt8):BitVec 32:=ka 8 (c ^^^ BitVec.ofNat 32 x.toNat)
def kc (bs:List UInt8):BitVec 32:=4294967295#32 ^^^ bs.foldl YL 4294967295#32
section
variable {P:Program}{l:List GO}{Q:QT}{U:KD}{w:World}
end
end
section
def Block.bts (b:Block):List UInt8:=PB b.regs++Ut b.params++PB b.code.length++b.code.flatMap Ins.bts++b.fin.bts
def Fun.bts (f:Fun):List UInt8:=PB f.regs++Ut f.params++Ut f.results++PB f.blocks.length++f.blocks.flatMap Block.bts
def Module.body (m:Module):List UInt8:=[67,72,1]++PB m.funcs.length++m.funcs.flatMap Fun.bts
def Ins.Few (x:Ins):Prop:=x.regs.length≤300∧x.args.length≤300
def To.Few (x:To):Prop:=x.regs.length≤300∧x.args.length≤300
def Tail.Few (x:Tail):Prop:=x.yes.Few∧x.no.Few∧x.args.length≤300
def Block.Few (b:Block):Prop:=Tys.great b.params=false∧b.code.length≤200∧(∀i∈b.code,i.Few)∧b.fin.Few
def Fun.Few (f:Fun):Prop:=Tys.great f.params=false∧Tys.great f.results=false∧f.blocks.length≤30∧∀b∈f.blocks,b.Few
def Module.Few (m:Module):Prop:=m.funcs.length≤20∧∀f∈m.funcs,f.Few
theorem uT {α:Type}{f:α→List UInt8}{c:Nat}:∀{l:List α},(∀x∈l,(f x).length≤c)→(l.flatMap f).length≤l.length*c
 | [],_=>by simp
 | x::l,h=>by
   have I:=h x (FR ..);have M:=uT (l:=l) fun y hy=>h y (FA _ hy);rw [HJ,EO,EY,He];omega
theorem uU {f:α→List UInt8}{c n:Nat}{l:List α}(h:∀x∈l,(f x).length≤c)(hn:l.length≤n):(l.flatMap f).length≤n*c:=
 Gs (uT h) (FH c hn)
mutual
theorem Ty.bts_len:∀(t:Ty),t.bts.length≤30*t.nodes
 | .mk k r l=>by
   have I:=Tys.bts_len l;have M:=O8 k;have h3:=O8 r;have h4:=O8 l.length;rw [Ty.bts,Ty.nodes];simp only [EO];split<;>split<;>simp only [EO,Fc]<;>omega
theorem Tys.bts_len:∀(l:List Ty),(Tys.bts l).length≤30*Tys.nodes l
 | []=>by simp [Tys.bts]
 | x::l=>by
   have I:=Ty.bts_len x;have M:=Tys.bts_len l;rw [Tys.bts,Tys.nodes,EO];omega
end
theorem Tys.nodes_few:∀{l:List Ty},(∀x∈l,x.nodes≤2000)→Tys.nodes l≤2000*l.length
 | [],_=>by simp [Tys.nodes]
 | x::l,h=>by
   have I:=h x (FR ..);have M:=Tys.nodes_few (l:=l) fun y hy=>h y (FA _ hy);rw [Tys.nodes,EY];omega
abbrev I3:=@Tys.nodes_few
theorem qi {l:List Ty}(h:Tys.great l=false):(Ut l).length≤12000010:=by
 unfold Tys.great at h;rw [Hl] at h;have hl:l.length≤200:=(by have:=of_decide_eq_false h.1;omega);have I:=Tys.bts_len l;have M:=I3 (l:=l) fun x hx=>J6 (by have:=List.any_eq_false.1 h.2 x hx;simpa using this);have h3:=O8 l.length;unfold Ut;rw [EO];omega
theorem ke {l:List Int}(h:l.length≤300):(du l).length≤3010:=by
 have I:=uS l;have M:=O8 l.length;unfold du;rw [EO];omega
theorem To.bts_few {x:To}(h:x.Few):x.bts.length≤6030:=by
 have I:=ke h.1;have M:=ke h.2;have h3:=O8 x.block;unfold To.bts;simp only [EO];omega
abbrev JZ:=@To.bts_few
theorem Tail.bts_few {x:Tail}(h:x.Few):x.bts.length≤13000:=by
 have I:=JZ h.1;have M:=JZ h.2.1;have h3:=ke h.2.2;have h4:=O8 x.op;have h5:=O8 x.a;unfold Tail.bts;rw [EO];split
 · omega
 · split
   · simp only [EO];omega
   · split
     · omega
     · simp only [Fc];omega
theorem Ins.bts_few {x:Ins}(h:x.Few):x.bts.length≤6110:=by
 have I:=ke h.1;have M:=ke h.2;have h3:=O8 x.op;have h4:=O8 x.n;have ha:=O8 x.a;have hb:=O8 x.b;have O:=O8 x.c;have hk:=O8 x.k
 have h5:(R3 (Tz x.op) 0 [x.a,x.b,x.c,x.k]).length≤40:=by
  simp only [R3,EO,Fc];split<;>split<;>split<;>split<;>(try simp only [Fc])<;>omega
 unfold Ins.bts;simp only [EO];split<;>split<;>split<;>(try simp only [Fc])<;>omega
theorem Block.bts_few {b:Block}(h:b.Few):b.bts.length≤14000000:=by
 have I:=qi h.1;have M:=uU (f:=Ins.bts) (c:=6110) (fun x hx=>Ins.bts_few (h.2.2.1 x hx)) h.2.1;have h3:=Tail.bts_few h.2.2.2;have h4:=O8 b.regs;have h5:=O8 b.code.length;unfold Block.bts;simp only [EO];omega
theorem Fun.bts_few {f:Fun}(h:f.Few):f.bts.length≤450000000:=by
 have I:=qi h.1;have M:=qi h.2.1;have h3:=uU (f:=Block.bts) (c:=14000000) (fun x hx=>Block.bts_few (h.2.2.2 x hx)) h.2.2.1;have h4:=O8 f.regs;have h5:=O8 f.blocks.length;unfold Fun.bts;simp only [EO];omega
end
section
abbrev Mj:=Int×Int
def KP (a b:Mj):Mj:=if a.1=0∧b.1≠0 then b else a
def K2 (c at':Int):Mj:=if c=0 then (0,0) else (c,at')
theorem dv (a b c:Mj):KP (KP a b) c=KP a (KP b c):=by
 unfold KP;by_cases I:a.1=0<;>by_cases M:b.1=0<;>by_cases h3:c.1=0<;>simp [I,M,h3]
theorem R4 {a b:Mj}(h:a.1≠0):KP a b=a:=by unfold KP;rw [Qin (fun h'=>h h'.1)]
theorem iJ {a b:Mj}(h:b.1=0):KP a b=a:=by unfold KP;rw [Qin (fun h'=>h'.2 h)]
theorem OX {b:Mj}(h:b.1=0→b=(0,0)):KP (0,0) b=b:=by
 unfold KP;by_cases hb:b.1=0
 · rw [h hb];rfl
 · rw [Qip ⟨rfl,hb⟩]
theorem Rz (at':Int):K2 0 at'=(0,0):=rfl
theorem YM {c:Int}(h:c≠0):K2 c at'=(c,at'):=Qin h
theorem R5 (c at':Int):(K2 c at').1=c:=by unfold K2;split<;>simp_all
theorem SP (c at':Int):(K2 c at').1=0→K2 c at'=(0,0):=by rw [R5];rintro rfl;rfl
theorem XG {a b:Mj}(ha:a.1=0→a=(0,0))(hb:b.1=0→b=(0,0)):(KP a b).1=0→KP a b=(0,0):=by
 unfold KP;split
 · exact hb
 · exact ha
def SQ (a b:Int):Int:=if a≠0 then a else b
theorem O9 {g:Mj}{b:Int}:KP (KP g (K2 a at')) (K2 b at')=KP g (K2 (SQ a b) at'):=by
 rw [dv];congr 1;unfold SQ KP;by_cases h:a=0
 · subst h
   by_cases hb:b=0
   · subst hb;rfl
   · simp [K2,hb]
 · simp [K2,h]

def fA (op:Int):Bool:=decide (op=2∨op=4∨op=5∨op=6∨op=7∨op=8∨op=9∨op=10∨op=11∨op=13)
def fB (op:Int):Bool:=decide (op=2∨op=7∨op=8∨op=9∨op=10)
def fC (op:Int):Bool:=decide (op=10)
def fK (op:Int):Bool:=decide (op=2∨op=6∨op=7∨op=14)
def fN (op:Int):Bool:=decide (op=1)
def fG (op:Int):Bool:=decide (op=14)
def fR (op:Int):Bool:=decide (op=5∨op=14)
def Ins.odd (x:Ins):Prop:=(fA x.op=false∧x.a≠0)∨(fB x.op=false∧x.b≠0)∨(fC x.op=false∧x.c≠0)∨(fK x.op=false∧x.k≠0)∨(fN x.op=false∧x.n≠0)∨(fG x.op=false∧0<x.regs.length)∨(fR x.op=false∧0<x.args.length)
instance (x:Ins):Decidable x.odd:=by unfold Ins.odd;infer_instance
def NK (n:Nat)(x:Ins):Int:=
 if x.op=2 then (if x.k<1∨9<x.k then 1 else 0)
 else if x.op=5 then (if 8<x.args.length then 2 else 0)
 else if x.op=6∨x.op=7 then (if x.k<0∨8≤x.k then 1 else 0)
 else if x.op=14 then (if x.k<0∨(n:Int)≤x.k then 1 else if 6<x.regs.length∨8<x.args.length then 2 else 0)
 else 0
def Qs (n:Nat)(x:Ins):Int:=if x.op<1∨14<x.op then 3 else if x.odd then 4 else NK n x
def Nh (n:Nat)(t:To)(is:Bool):Int:=
 if is=false then (if t.block≠0∨0<t.regs.length∨0<t.args.length then 4 else 0)
 else if t.block<0∨(n:Int)≤t.block then 1 else if 16<t.regs.length∨8<t.args.length then 2 else 0
def Np (n:Nat)(e:Tail):Int:=
 if e.op<1∨3<e.op then 3
 else if e.op≠2∧e.a≠0∨e.op≠3∧0<e.args.length then 4
 else if 8<e.args.length then 2
 else SQ (Nh n e.yes (decide (e.op≠3))) (Nh n e.no (decide (e.op=2)))
def R6 (regs:Int):List Ty→Int
 | []=>0
 | t::l=>SQ (t.fault regs) (R6 regs l)
def QM (l:List Ty)(regs:Int):Int:=if 8<l.length then 2 else R6 regs l
def PC (f:Nat):Int:=f*10000+9999
def SS (f b:Nat):Int:=f*10000+b*100+90
def PW (f b:Nat):Int:=f*10000+b*100+91
def PX (f b i:Nat):Int:=f*10000+b*100+i
def OY (n f b:Nat):Nat→List Ins→Mj
 | _,[]=>(0,0)
 | i,x::l=>KP (K2 (Qs n x) (PX f b i)) (OY n f b (i+1) l)
def PD (x:Fun)(b:Nat)(y:Block):Int:=
 if y.regs<x.regs∨16<y.regs then 1
 else if QM y.params y.regs≠0 then QM y.params y.regs
 else if b=0∧(y.regs≠x.regs∨y.params≠x.params) then 9
 else if 40<y.code.length then 2 else 0
def Pa (n f:Nat)(x:Fun)(b:Nat)(y:Block):Mj:=KP (K2 (PD x b y) (SS f b)) (KP (OY n f b 0 y.code) (K2 (Np x.blocks.length y.fin) (PW f b)))
def QW (n f:Nat)(x:Fun):Nat→List Block→Mj
 | _,[]=>(0,0)
 | b,y::l=>KP (Pa n f x b y) (QW n f x (b+1) l)
def Oo (f:Nat)(x:Fun):Int:=
 if x.regs<0∨6<x.regs then 1
 else if QM x.params x.regs≠0 then QM x.params x.regs
 else if QM x.results x.regs≠0 then QM x.results x.regs
 else if x.blocks.length<1∨12<x.blocks.length then 2
 else if f=0∧(0<x.regs∨0<x.params.length∨∃t∈x.results,t.kind≠1) then 18 else 0
def R7 (n f:Nat)(x:Fun):Mj:=KP (K2 (Oo f x) (PC f)) (QW n f x 0 x.blocks)
def PY (n:Nat):Nat→List Fun→Mj
 | _,[]=>(0,0)
 | f,x::l=>KP (R7 n f x) (PY n (f+1) l)
def Module.fault (m:Module):Mj:=KP (K2 (if m.funcs.length<1∨8<m.funcs.length then 2 else 0) (-1)) (PY m.funcs.length 0 m.funcs)
theorem qj {n f b:Nat}:∀{l:List Ins}{i:Nat},(OY n f b i l).1=0→OY n f b i l=(0,0)
 | [],_=>fun _=>rfl
 | _::_,_=>XG (SP _ _) qj
theorem uV {n f:Nat}{x:Fun}{b:Nat}{y:Block}:(Pa n f x b y).1=0→Pa n f x b y=(0,0):=XG (SP _ _) (XG qj (SP _ _))
theorem kg {n f:Nat}{x:Fun}:∀{l:List Block}{b:Nat},(QW n f x b l).1=0→QW n f x b l=(0,0)
 | [],_=>fun _=>rfl
 | _::_,_=>XG uV kg
theorem XH {n:Nat}:∀{l:List Fun}{f:Nat},(PY n f l).1=0→PY n f l=(0,0)
 | [],_=>fun _=>rfl
 | _::_,_=>XG (XG (SP _ _) kg) XH
theorem Module.fault_z {m:Module}:m.fault.1=0→m.fault=(0,0):=XG (SP _ _) XH

theorem ng {n f b:Nat}{x:Fun}{y:Block}{c:Int}(h:PD x b y=c)(O:c≠0):Pa n f x b y=(c,SS f b):=by
 unfold Pa;rw [h,R4 (by rw [R5];exact O),YM O]
theorem YN {n f b:Nat}{x:Fun}{y:Block}{F:Mj}(h:PD x b y=0)(O:OY n f b 0 y.code=F)(hF:F.1≠0):Pa n f x b y=F:=by
 unfold Pa;rw [h,Rz,O,R4 hF,OX (fun h=>absurd h hF)]
theorem Uu {n f b:Nat}{x:Fun}{y:Block}(h:PD x b y=0)(O:OY n f b 0 y.code=(0,0)):Pa n f x b y=K2 (Np x.blocks.length y.fin) (PW f b):=by
 unfold Pa;rw [h,Rz,O,OX (SP _ _),OX (SP _ _)]
theorem Qay {n f b i:Nat}{x:Ins}{l:List Ins}(h:Qs n x=0):OY n f b i (x::l)=OY n f b (i+1) l:=by
 rw [OY,h,Rz,OX qj]
theorem Qax {n f b i:Nat}{x:Ins}{l:List Ins}(h:Qs n x≠0):OY n f b i (x::l)=(Qs n x,PX f b i):=by
 rw [OY,R4 (by rw [R5];exact h),YM h]
theorem iK {n f:Nat}{x:Fun}{c:Int}(h:Oo f x=c)(O:c≠0):R7 n f x=(c,PC f):=by
 unfold R7;rw [h,R4 (by rw [R5];exact O),YM O]
theorem uW {n f:Nat}{x:Fun}(h:Oo f x=0):R7 n f x=QW n f x 0 x.blocks:=by
 unfold R7;rw [h,Rz,OX kg]
theorem Q8I {n f b:Nat}{x:Fun}{y:Block}{l:List Block}(h:(Pa n f x b y).1=0):QW n f x b (y::l)=QW n f x (b+1) l:=by
 rw [QW,uV h,OX kg]
theorem Q8H {n f b:Nat}{x:Fun}{y:Block}{l:List Block}(h:(Pa n f x b y).1≠0):QW n f x b (y::l)=Pa n f x b y:=by
 rw [QW,R4 h]
theorem Qhi {n f:Nat}{x:Fun}:(R7 n f x).1=0→R7 n f x=(0,0):=XG (SP _ _) kg
theorem Qau {n f:Nat}{x:Fun}{l:List Fun}(h:(R7 n f x).1=0):PY n f (x::l)=PY n (f+1) l:=by
 rw [PY,Qhi h,OX XH]
theorem iL {n f:Nat}{x:Fun}{l:List Fun}(h:(R7 n f x).1≠0):PY n f (x::l)=R7 n f x:=by
 rw [PY,R4 h]

def Uv:List ByteArray:=[⟨#[]⟩,⟨#[110]⟩,⟨#[97,98,107]⟩,⟨#[]⟩,⟨#[97]⟩,⟨#[97,114]⟩,⟨#[97,107]⟩,⟨#[97,98,107]⟩,⟨#[97,98]⟩,⟨#[97,98]⟩,⟨#[97,98,99]⟩,⟨#[97]⟩,⟨#[]⟩,⟨#[97]⟩,⟨#[107,103,114]⟩]
def L7 (op:Int):ByteArray:=if op<1∨14<op then ⟨#[]⟩ else Uv.getD op.toNat ⟨#[]⟩
def LP (s:ByteArray)(c:Nat):Bool:=s.data.toList.any fun b=>decide (b.toNat=c)
theorem LB {op:Int}(I:¬op<1)(M:¬14<op):op=1∨op=2∨op=3∨op=4∨op=5∨op=6∨op=7∨op=8∨op=9∨op=10∨op=11∨op=12∨op=13∨op=14:=by omega
theorem Uw (op:Int)(h:¬(op<1∨14<op)):LP (L7 op) 97=fA op∧LP (L7 op) 98=fB op∧LP (L7 op) 99=fC op∧LP (L7 op) 107=fK op∧LP (L7 op) 110=fN op∧LP (L7 op) 103=fG op∧LP (L7 op) 114=fR op:=by
 rcases LB (op:=op) V V with rfl|rfl|rfl|rfl|rfl|rfl|rfl|rfl|rfl|rfl|rfl|rfl|rfl|rfl<;>decide
end
section
abbrev iM (α:Type):=Except Mj (α×List UInt8)
end
section
section
variable {P:Program}{l:List GO}{Q:QT}{U:KD}{w:World}
theorem nh {a b T T':Nat}{p o p' o':Nat}(ha:U a= .pointer (some ⟨p,o,none⟩))(hv:Yc P w ⟨p,o,none⟩ T v)(ha':U b= .pointer (some ⟨p',o',none⟩))(hv':Yc P w ⟨p',o',none⟩ T' v')(h:R (.returned (.tuple #[v,v'])) w):KN P [.cell a T, .cell b T'] R .ret U w:=
 ⟨_,v,ha,hv,_,v',ha',hv',h⟩
end
end
section
def qk (c:BitVec 32):List UInt8:=[UInt8.ofNat c.toNat,UInt8.ofNat (c >>> 8).toNat,UInt8.ofNat (c >>> 16).toNat,UInt8.ofNat (c >>> 24).toNat]
def Module.enc (m:Module):List UInt8:=m.body++qk (kc m.body)
end
section
section
variable {bs:List UInt8}{at0 i u:Nat}{x:UInt8}{X:iM Nat}
end
end
section
section
variable {α:Type}
variable {f:List UInt8→iM α}{N k n0:Nat}{n:Int}{xs:List α}{r r1 r2 r3:List UInt8}{a:α}{e:Mj}{X:iM (List α)}
end
end
section
section
variable {bs r:List UInt8}{N:Nat}{e:Mj}{l:List Fun}
end
end
section
section
variable {α β:Type}{M0q n:Nat}
def Ux (M0q:Nat)(f:List UInt8→iM α)(p:α→Prop):Prop:=∀r x r',r.length≤M0q→f r= .ok (x,r')→p x∧r'.length≤r.length
theorem Ux.weak {f:List UInt8→iM α}{p q:α→Prop}(h:Ux M0q f p)(hq:∀x,p x→q x):Ux M0q f q:=fun r x r' I M=>⟨hq x (h r x r' I M).1,(h r x r' I M).2⟩
end
end
section
section
variable {n:Nat}{r r1 r2 r3 r4:List UInt8}{e:Mj}{op a:Int}{yes no:To}{l:List Int}
variable {h j:Nat}{x:Int×Int×Int×Int}{y:Int}{X:iM (Int×Int×Int×Int)}
end
end
section
section
variable {α:Type}{n:Nat}
def LQ (x:Int):Prop:=-9223372036854775808≤x∧x≤9223372036854775807
def nj (l:List Int):Prop:=l.length≤9000000000000000000∧∀x∈l,LQ x
def ToOK (t:To):Prop:=LQ t.block∧nj t.regs∧nj t.args
def Qe5 (x:Ins):Prop:=(LQ x.op∧LQ x.a∧LQ x.b∧LQ x.c∧LQ x.k∧LQ x.n)∧((¬Tz x.op / 2 ^ 0 % 2=1→x.a=0)∧(¬Tz x.op / 2 ^ 1 % 2=1→x.b=0)∧(¬Tz x.op / 2 ^ 2 % 2=1→x.c=0)∧(¬Tz x.op / 2 ^ 3 % 2=1→x.k=0))∧
 (¬Tz x.op / 64 % 2=1→x.n=0)∧(¬Tz x.op / 16 % 2=1→x.regs=[])∧(¬Tz x.op / 32 % 2=1→x.args=[])∧nj x.regs∧nj x.args
end
end
section
def Kt (l:List Bool)(r:Int):Bool:=decide (0≤r) && decide (r<l.length) && l.getD r.toNat false

def Na (l:List Bool)(n:Nat):List Int:=((List.range n).filter fun j=>l.getD j false).map Int.ofNat
def L4 (l:List Bool):List Int:=Na l l.length
theorem nk (l:List Bool)(n:Nat):Na l (n+1)=Na l n++if l.getD n false then [(n:Int)] else []:=by
 unfold Na;rw [Hs,List.filter_append,E7];congr 1;by_cases h:l.getD n false=true
 · rw [Qip h,List.filter_cons_of_pos C5];rfl
 · rw [Qin h,I7 C5];rfl
theorem ql (l:List Bool)(n:Nat):(Na l n).length≤n:=by
 unfold Na;rw [EM];exact Gs (List.length_filter_le _ _) Js

def My (l:List Bool)(seen:List Int):List Int→Int
 | []=>if seen.length<(L4 l).length then 12 else 0
 | x::xs=>if Kt l x then if x∈seen then 13 else My l (seen++[x]) xs else 10
def RB (l:List Bool)(ys:List Int):List Bool:=(List.range l.length).map fun (j:Nat)=>decide ((j:Int)∈ys)
theorem Qi7 (l:List Bool)(ys:List Int):(RB l ys).length=l.length:=by simp [RB]
theorem Qi6 (l:List Bool):RB l []=List.replicate l.length false:=by
 apply ID<;>simp [RB]
theorem Qi8 {l:List Bool}{r:Int}(h0:0≤r)(I:r<l.length):(RB l ys).getD r.toNat false=decide (r∈ys):=by
 have:r.toNat<l.length:=CP;simp [RB,EL,EZ,G5 this,Fi h0]
theorem Qi5 {l:List Bool}{r:Int}(h0:0≤r):(RB l ys).set r.toNat true=RB l (ys++[r]):=by
 apply GC;intro j;simp only [RB,Gb,EZ,EM,HI];by_cases hj:j<l.length
 · simp only [G5 hj,FJ]
   by_cases he:r.toNat=j
   · subst he;simp [hj,Fi h0]
   · have:(j:Int)≠r:=CP;simp [he,this]
 · have M:(List.range l.length)[j]?=none:=by simp;omega
   simp only [M,II];by_cases he:r.toNat=j
   · subst he;simp [hj]
   · simp [he]
theorem dw {l:List Bool}{r:Int}(h:Kt l r=true):0≤r∧r<l.length∧l.getD r.toNat false=true:=by
 simp only [Kt,EW,decide_eq_true_eq] at h;exact ⟨h.1.1,h.1.2,h.2⟩

def XI (l:List Bool)(xs0 seen:List Int):List Int→Int
 | []=>if∀y∈L4 l,y∈xs0 then 0 else 12
 | x::xs=>if Kt l x then if x∈seen then 13 else XI l xs0 (seen++[x]) xs else 10


theorem Mk {l:List Bool}{x:Int}:x∈L4 l↔Kt l x=true:=by
 simp only [L4,Na,Fq,G9,Fx,Kt,EW,decide_eq_true_eq];constructor
 · rintro ⟨j,⟨I,M⟩,rfl⟩;exact ⟨⟨by simp,by simpa using I⟩,by simpa using M⟩
 · rintro ⟨⟨h0,I⟩,M⟩;exact ⟨x.toNat,⟨V,M⟩,by simp;omega⟩
theorem QeM (l:List Bool):(L4 l).Nodup:=by
 unfold L4 Na;unfold List.Nodup;rw [J3];refine List.Pairwise.imp ?_ (List.Pairwise.filter _ (List.nodup_range (n:=l.length)));intro a b h e;exact h (Int.ofNat.inj e)
theorem Qd6 (l:List Bool)(xs:List Int):∀(rest seen:List Int),seen++rest=xs→seen.Nodup→(∀y∈seen,Kt l y=true)→My l seen rest=XI l xs seen rest:=by
 intro rest
 induction rest with
 | nil=>
   intro seen he hn hs;rw [FX] at he;subst he;simp only [My,XI];have I:seen.length≤(L4 l).length:=dg hn fun y hy=>Mk.2 (hs y hy);by_cases h:∀y∈L4 l,y∈seen
   · have:=dg (QeM l) h;rw [Qip h,Qin V]
   · rw [Qin h,Qip]
     simp only [JA] at h;obtain ⟨y,hy,hn'⟩:=h
     have:=dg (a:=y::seen) (b:=L4 l) (GM.2 ⟨hn',hn⟩) (by
      intro z hz;rcases E4.1 hz with rfl|hz
      · exact hy
      · exact Mk.2 (hs z hz))
     simp only [EY] at this;omega
 | cons x rest ih=>
   intro seen he hn hs;simp only [My,XI];by_cases I:Kt l x=true
   · rw [Qip I,Qip I]
     by_cases M:x∈seen
     · rw [Qip M,Qip M]
     · rw [Qin M,Qin M]
       refine ih (seen++[x]) (by rw [Gm];exact he) ?_ ?_
       · rw [GP];exact ⟨hn,by simp,fun a ha b hb e=>by simp at hb;subst hb;subst e;exact M ha⟩
       · intro y hy
         rcases E8.1 hy with hy|hy
         · exact hs y hy
         · simp at hy;subst hy;exact I
   · rw [Qin I,Qin I]
theorem Qj6 (l:List Bool)(xs:List Int):My l [] xs=XI l xs [] xs:=Qd6 l xs xs [] rfl IN Js
end
section
structure JS where
 h:List Bool
 l:List Ty
deriving instance DecidableEq for JS
def Lx (s:JS)(k:Int):Except Int Ty:=if k<0 then .error 1 else match s.l[k.toNat]? with
 | none=> .error 1
 | some t=> .ok t
def Ke {α β:Type}(x:Except Int α)(f:α→Except Int β):Except Int β:=match x with
 | .error e=> .error e
 | .ok a=>f a
theorem Qr {x:Except Int α}{f:α→Except Int β}{e:Int}(h:x= .error e):Ke x f= .error e:=by rw [h];rfl
theorem Q5 {x:Except Int α}{f:α→Except Int β}{a:α}(h:x= .ok a):Ke x f=f a:=by rw [h];rfl
theorem Q8 {x:Except Int α}{f:α→Except Int β}{b:β}(h:Ke x f= .ok b):∃a,x= .ok a∧f a= .ok b:=by
 cases x with
 | error e=>cases h
 | ok a=>exact ⟨a,rfl,h⟩
def Kx (s:JS)(k kind:Int):Except Int Ty:=Ke (Lx s k) fun t=>if t.kind≠kind then .error 9 else .ok t
def Lu (s:JS)(k kind:Int):Except Int Ty:=Ke (Kx s k kind) fun t=>if Kt s.h t.r=false then .error 10 else .ok t
def LJ (s:JS)(t:Ty):Except Int JS:=if s.l.length=80 then .error 2 else .ok ⟨s.h,s.l++[t]⟩
def NX (s:JS)(regs:List Int):List Int→List Ty→Except Int Unit
 | k::l,u::want=>Ke (Lx s k) fun t=>match u.ren regs with
   | none=> .error 9
   | some u'=>if t≠u' then .error 9 else NX s regs l want
 | _,_=> .ok ()
def OE (s:JS)(l:List Int)(want:List Ty)(regs:List Int):Except Int Unit:=if l.length≠want.length then .error 2 else NX s regs l want
def Pb (t:Ty)(k:Int):Except Int Ty:=match t.l[k.toNat]? with
 | none=> .error 9
 | some u=> .ok u
def M7 (h:List Bool)(p:List Int):List Int→Except Int Unit
 | []=> .ok ()
 | r::l=>if Kt h r=false then .error 10 else if r∈p then .error 13 else M7 h (p++[r]) l
def MH (to:List Int)(t:Ty):Ty:=(t.ren to).getD (.mk 0 0 [])
def Rh (m:Module)(s:JS)(x:Ins):Except Int JS:=match m.funcs[x.k.toNat]? with
 | none=> .error 1
 | some g=>if (x.regs.length:Int)≠g.regs then .error 2 else Ke (M7 s.h [] x.regs) fun _=>Ke (OE s x.args g.params x.regs) fun _=>
   if 80<s.l.length+g.results.length then .error 2 else .ok ⟨s.h,s.l++g.results.map (MH x.regs)⟩
def Kq (s:JS):List Int→Except Int (List Ty)
 | []=> .ok []
 | k::l=>Ke (Lx s k) fun t=>Ke (Kq s l) fun ts=> .ok (t::ts)
def KC:Ty:= .mk 1 0 []
def Uy (s:JS)(x:Ins):Except Int JS:=Ke (Lu s x.a 2) fun t=>Ke (Kq s x.args) fun ts=>
 if (Ty.mk 3 t.r ts).fault s.h.length≠0 then .error 19 else LJ s (.mk 3 t.r ts)
def KG (m:Module)(f:Fun)(s:JS)(x:Ins):Except Int JS:=
 if x.op=1∨x.op=12 then LJ s KC
 else if x.op=2 then Ke (Kx s x.a 1) fun _=>Ke (Kx s x.b 1) fun _=>LJ s KC
 else if x.op=3 then (if s.h.length=16∨s.l.length=80 then .error 2 else .ok ⟨s.h++[true],s.l++[.mk 2 s.h.length []]⟩)
 else if x.op=4 then Ke (Lu s x.a 2) fun t=>if t.r<f.regs then .error 11 else .ok ⟨s.h.set t.r.toNat false,s.l⟩
 else if x.op=5 then Uy s x
 else if x.op=6 then Ke (Lu s x.a 3) fun t=>Ke (Pb t x.k) fun u=>LJ s u
 else if x.op=7 then Ke (Lu s x.a 3) fun t=>Ke (Pb t x.k) fun u=>Ke (Lx s x.b) fun v=>if u≠v then .error 9 else .ok s
 else if x.op=8 then Ke (Lu s x.a 2) fun t=>Ke (Kx s x.b 1) fun _=>LJ s (.mk 4 t.r [])
 else if x.op=9 then Ke (Lu s x.a 4) fun _=>Ke (Kx s x.b 1) fun _=>LJ s KC
 else if x.op=10 then Ke (Lu s x.a 4) fun _=>Ke (Kx s x.b 1) fun _=>Ke (Kx s x.c 1) fun _=> .ok s
 else if x.op=11 then Ke (Lu s x.a 4) fun _=>LJ s KC
 else if x.op=13 then Ke (Kx s x.a 1) fun _=> .ok s
 else Rh m s x
def KK (m:Module)(f:Fun)(s:JS)(x:Ins):Int×JS:=if Qs m.funcs.length x≠0 then (Qs m.funcs.length x,s) else match KG m f s x with
 | .error c=>(c,s)
 | .ok s'=>(0,s')
def NL (l:List Int)(n:Nat):Bool:=(List.range n).all fun i=>decide (l[i]?=some (i:Int))
def NM (f:Fun)(s:JS)(t:To):Except Int Unit:=match f.blocks[t.block.toNat]? with
 | none=> .error 1
 | some b=>if (t.regs.length:Int)≠b.regs then .error 2 else if NL t.regs f.regs.toNat=false then .error 11 else
   if My s.h [] t.regs≠0 then .error (My s.h [] t.regs) else OE s t.args b.params t.regs
def K5 (n:Nat):List Int:=(List.range n).map Int.ofNat
def Ml (f:Fun)(s:JS)(e:Tail):Except Int Unit:=
 if e.op=1 then NM f s e.yes
 else if e.op=2 then Ke (Kx s e.a 1) fun _=>Ke (NM f s e.yes) fun _=>NM f s e.no
 else Ke (OE s e.args f.results (K5 f.regs.toNat)) fun _=>if f.regs<(L4 s.h).length then .error 12 else .ok ()
def Mc (f:Fun)(s:JS)(e:Tail):Int:=if Np f.blocks.length e≠0 then Np f.blocks.length e else match Ml f s e with
 | .error c=>c
 | .ok _=>0
def MI (y:Block):JS:=⟨List.replicate (min y.regs 16).toNat true,y.params⟩

theorem nm {s:JS}{k:Int}{t:Ty}(h:Lx s k= .ok t):0≤k∧s.l[k.toNat]?=some t:=by
 unfold Lx at h;split at h
 · cases h
 · rename_i h0
   split at h
   · cases h
   · rename_i u hu;cases h;exact ⟨V,hu⟩
theorem iN {s:JS}{k:Int}(h:k<0∨(s.l.length:Int)≤k):Lx s k= .error 1:=by
 unfold Lx;by_cases h0:k<0
 · rw [Qip h0]
 · rw [Qin h0,Fe V]
theorem YO {s:JS}{k:Int}{t:Ty}(h0:0≤k)(h:s.l[k.toNat]?=some t):Lx s k= .ok t:=by
 unfold Lx;rw [Qin V,h]
theorem qm {s:JS}{k kind:Int}{t:Ty}(h:Kx s k kind= .ok t):0≤k∧s.l[k.toNat]?=some t∧t.kind=kind:=by
 obtain ⟨u,I,M⟩:=Q8 h;split at M
 · cases M
 · rename_i hk;cases M;have:=nm I;exact ⟨this.1,this.2,Fk.1 hk⟩
theorem XJ {s:JS}{k kind:Int}{t:Ty}(h:Lu s k kind= .ok t):0≤k∧s.l[k.toNat]?=some t∧t.kind=kind∧Kt s.h t.r=true:=by
 obtain ⟨u,I,M⟩:=Q8 h;split at M
 · cases M
 · rename_i hk;cases M;have:=qm I;exact ⟨this.1,this.2.1,this.2.2,by simpa using hk⟩
theorem nn {s s':JS}{t:Ty}(h:LJ s t= .ok s'):s.l.length≠80∧s'.h=s.h∧s'.l=s.l++[t]:=by
 unfold LJ at h;split at h
 · cases h
 · rename_i hk;cases h;exact ⟨hk,rfl,rfl⟩
structure JStep (x:Ins) (s s':JS):Prop where
 len:s.l.length≤80→s'.l.length≤80
 pre:∃more,s'.l=s.l++more∧(x.op≠14→more.length≤1)∧(x.op=3→more.length=1)∧(x.op=4→more=[])
 new:x.op=3→s'.h=s.h++[true]∧s.h.length≠16
 free:x.op=4→∃t,0≤x.a∧s.l[x.a.toNat]?=some t∧t.kind=2∧Kt s.h t.r=true∧s'.h=s.h.set t.r.toNat false
 else_:x.op≠3→x.op≠4→s'.h=s.h
theorem dx {x:Ins}{s s':JS}{t:Ty}(h:LJ s t= .ok s')(h3:x.op≠3)(h4:x.op≠4):JStep x s s':=by
 obtain ⟨I,M,h5⟩:=nn h;refine ⟨fun hl=>by rw [h5,EO];simp only [EY,Fc];omega,⟨[t],h5,fun _=>by simp,fun h=>absurd h h3,fun h=>absurd h h4⟩,fun h=>absurd h h3,fun h=>absurd h h4,fun _ _=>M⟩
theorem qn {x:Ins}{s:JS}(h3:x.op≠3)(h4:x.op≠4):JStep x s s:=
 ⟨fun hl=>hl,⟨[],by simp,fun _=>by simp,fun h=>absurd h h3,fun h=>absurd h h4⟩,fun h=>absurd h h3,fun h=>absurd h h4,fun _ _=>rfl⟩
theorem Qjr {m:Module}{f:Fun}{s s':JS}{x:Ins}(hop:1≤x.op∧x.op≤14)(h:KG m f s x= .ok s'):JStep x s s':=by
 unfold KG at h;by_cases I:x.op=1∨x.op=12
 · rw [Qip I] at h;exact dx h V V
 rw [Qin I] at h;by_cases M:x.op=2
 · rw [Qip M] at h;obtain ⟨_,_,h⟩:=Q8 h;obtain ⟨_,_,h⟩:=Q8 h;exact dx h V V
 rw [Qin M] at h;by_cases O:x.op=3
 · rw [Qip O] at h
   by_cases hn:s.h.length=16∨s.l.length=80
   · rw [Qip hn] at h;cases h
   · rw [Qin hn] at h;cases h;exact ⟨fun hl=>by simp only [EO,EY,Fc];omega,⟨[_],rfl,fun _=>by simp,fun _=>rfl,fun h=>by omega⟩,fun _=>⟨rfl,V⟩,fun h=>by omega,fun h=>absurd O h⟩
 rw [Qin O] at h;by_cases hc4:x.op=4
 · rw [Qip hc4] at h
   obtain ⟨t,I,h⟩:=Q8 h;by_cases hk:t.r<f.regs
   · rw [Qip hk] at h;cases h
   · rw [Qin hk] at h;cases h;obtain ⟨a1,a2,a3,a4⟩:=XJ I;exact ⟨fun hl=>hl,⟨[],by simp,fun _=>by simp,fun h=>by omega,fun _=>rfl⟩,fun h=>by omega,fun _=>⟨t,a1,a2,a3,a4,rfl⟩,fun _ h=>absurd hc4 h⟩
 rw [Qin hc4] at h;by_cases h5:x.op=5
 · rw [Qip h5] at h
   unfold Uy at h;obtain ⟨t,_,h⟩:=Q8 h;obtain ⟨ts,_,h⟩:=Q8 h;by_cases hk:(Ty.mk 3 t.r ts).fault s.h.length≠0
   · rw [Qip hk] at h;cases h
   · rw [Qin hk] at h;exact dx h V V
 rw [Qin h5] at h;by_cases h6:x.op=6
 · rw [Qip h6] at h;obtain ⟨_,_,h⟩:=Q8 h;obtain ⟨_,_,h⟩:=Q8 h;exact dx h V V
 rw [Qin h6] at h;by_cases h7:x.op=7
 · rw [Qip h7] at h
   obtain ⟨_,_,h⟩:=Q8 h;obtain ⟨u,_,h⟩:=Q8 h;obtain ⟨v,_,h⟩:=Q8 h;by_cases hk:u≠v
   · rw [Qip hk] at h;cases h
   · rw [Qin hk] at h;cases h;exact qn V V
 rw [Qin h7] at h;by_cases h8:x.op=8
 · rw [Qip h8] at h;obtain ⟨_,_,h⟩:=Q8 h;obtain ⟨_,_,h⟩:=Q8 h;exact dx h V V
 rw [Qin h8] at h;by_cases h9:x.op=9
 · rw [Qip h9] at h;obtain ⟨_,_,h⟩:=Q8 h;obtain ⟨_,_,h⟩:=Q8 h;exact dx h V V
 rw [Qin h9] at h;by_cases h10:x.op=10
 · rw [Qip h10] at h;obtain ⟨_,_,h⟩:=Q8 h;obtain ⟨_,_,h⟩:=Q8 h;obtain ⟨_,_,h⟩:=Q8 h;cases h;exact qn V V
 rw [Qin h10] at h;by_cases h11:x.op=11
 · rw [Qip h11] at h;obtain ⟨_,_,h⟩:=Q8 h;exact dx h V V
 rw [Qin h11] at h;by_cases h13:x.op=13
 · rw [Qip h13] at h;obtain ⟨_,_,h⟩:=Q8 h;cases h;exact qn V V
 rw [Qin h13] at h;unfold Rh at h;split at h
 · cases h
 · rename_i g hg
   by_cases hr:(x.regs.length:Int)≠g.regs
   · rw [Qip hr] at h;cases h
   · rw [Qin hr] at h
     obtain ⟨_,_,h⟩:=Q8 h;obtain ⟨_,_,h⟩:=Q8 h;by_cases hn:80<s.l.length+g.results.length
     · rw [Qip hn] at h;cases h
     · rw [Qin hn] at h;cases h;exact ⟨fun hl=>by rw [EO,EM];omega,⟨_,rfl,fun h=>by omega,fun h=>by omega,fun h=>by omega⟩,fun h=>by omega,fun h=>by omega,fun _ _=>rfl⟩
theorem bu {n:Nat}{x:Ins}(h:Qs n x=0):1≤x.op∧x.op≤14:=by
 unfold Qs at h;split at h
 · cases h
 · omega
section
variable {s:JS}{regs l:List Int}{want:List Ty}{k:Nat}{x c:Int}{u u' t:Ty}
theorem uX (hx:l[k]?=some x)(hu:want[k]?=some u)(h:Lx s x= .error c):NX s regs (l.drop k) (want.drop k)= .error c:=by
 rw [Q7 hx,Q7 hu,NX,Qr h]
theorem uY (hx:l[k]?=some x)(hu:want[k]?=some u)(h:Lx s x= .ok t)(hn:u.ren regs=none):NX s regs (l.drop k) (want.drop k)= .error 9:=by
 rw [Q7 hx,Q7 hu,NX,Q5 h,hn]
theorem uZ (hx:l[k]?=some x)(hu:want[k]?=some u)(h:Lx s x= .ok t)(hn:u.ren regs=some u')(hd:t≠u'):NX s regs (l.drop k) (want.drop k)= .error 9:=by
 rw [Q7 hx,Q7 hu,NX,Q5 h,hn];exact Qip hd
theorem u6 (hx:l[k]?=some x)(hu:want[k]?=some u)(h:Lx s x= .ok t)(hn:u.ren regs=some u')(hd:t=u'):NX s regs (l.drop k) (want.drop k)=NX s regs (l.drop (k+1)) (want.drop (k+1)):=by
 rw [Q7 hx,Q7 hu,NX,Q5 h,hn];exact Qin (fun h=>h hd)
theorem ve (h:l.length≤k):NX s regs (l.drop k) (want.drop k)= .ok ():=by
 rw [ES h,NX];intro k l u w h;cases h
end
section
variable {m:Module}{f:Fun}{s:JS}{x:Ins}
theorem XK (h:x.op=1∨x.op=12):KG m f s x=(LJ s KC):=by
 unfold KG;rw [Qip V]
theorem bw (h:x.op=2):KG m f s x=(Ke (Kx s x.a 1) fun _=>Ke (Kx s x.b 1) fun _=>LJ s KC):=by
 unfold KG;rw [Qin V,Qip V]
theorem iO (h:x.op=3):KG m f s x=(if s.h.length=16∨s.l.length=80 then .error 2 else .ok ⟨s.h++[true],s.l++[.mk 2 s.h.length []]⟩):=by
 unfold KG;rw [Qin V,Qin V,Qip V]
theorem dy (h:x.op=4):KG m f s x=(Ke (Lu s x.a 2) fun t=>if t.r<f.regs then .error 11 else .ok ⟨s.h.set t.r.toNat false,s.l⟩):=by
 unfold KG;rw [Qin V,Qin V,Qin V,Qip V]
theorem iP (h:x.op=5):KG m f s x=(Uy s x):=by
 unfold KG;(repeat rw [Qin V]);rw [Qip V]
theorem bx (h:x.op=6):KG m f s x=(Ke (Lu s x.a 3) fun t=>Ke (Pb t x.k) fun u=>LJ s u):=by
 unfold KG;(repeat rw [Qin V]);rw [Qip V]
theorem Uz (h:x.op=7):KG m f s x=(Ke (Lu s x.a 3) fun t=>Ke (Pb t x.k) fun u=>Ke (Lx s x.b) fun v=>if u≠v then .error 9 else .ok s):=by
 unfold KG;(repeat rw [Qin V]);rw [Qip V]
theorem bz (h:x.op=8):KG m f s x=(Ke (Lu s x.a 2) fun t=>Ke (Kx s x.b 1) fun _=>LJ s (.mk 4 t.r [])):=by
 unfold KG;(repeat rw [Qin V]);rw [Qip V]
theorem bA (h:x.op=9):KG m f s x=(Ke (Lu s x.a 4) fun _=>Ke (Kx s x.b 1) fun _=>LJ s KC):=by
 unfold KG;(repeat rw [Qin V]);rw [Qip V]
theorem bB (h:x.op=10):KG m f s x=(Ke (Lu s x.a 4) fun _=>Ke (Kx s x.b 1) fun _=>Ke (Kx s x.c 1) fun _=> .ok s):=by
 unfold KG;(repeat rw [Qin V]);rw [Qip V]
theorem dz (h:x.op=11):KG m f s x=(Ke (Lu s x.a 4) fun _=>LJ s KC):=by
 unfold KG;(repeat rw [Qin V]);rw [Qip V]
theorem iQ (h:x.op=13):KG m f s x=(Ke (Kx s x.a 1) fun _=> .ok s):=by
 unfold KG;(repeat rw [Qin V]);rw [Qip V]
theorem dA (h:x.op=14):KG m f s x=(Rh m s x):=by
 unfold KG;(repeat rw [Qin V])
theorem dB {t:Ty}(h:s.l.length≠80):LJ s t= .ok ⟨s.h,s.l++[t]⟩:=Qin h
theorem dC {t:Ty}(h:s.l.length=80):LJ s t= .error 2:=Qip h
theorem vg {k c:Int}{ts:List Ty}(hx:x.args[q]?=some k)(hd:Kq s x.args=Ke (Kq s (x.args.drop q)) fun l=> .ok (ts++l))(h:Lx s k= .error c):Kq s x.args= .error c:=by
 rw [hd,Q7 hx,Kq,Qr h];rfl
theorem vj {k:Int}{t:Ty}{ts:List Ty}(hx:x.args[q]?=some k)(hd:Kq s x.args=Ke (Kq s (x.args.drop q)) fun l=> .ok (ts++l))(h:Lx s k= .ok t):Kq s x.args=Ke (Kq s (x.args.drop (q+1))) fun l=> .ok ((ts++[t])++l):=by
 rw [hd,Q7 hx,Kq,Q5 h]
 cases Kq s (x.args.drop (q+1)) with
 | error c=>rfl
 | ok l=>simp [Ke]
theorem vq {ts:List Ty}(hd:Kq s x.args=Ke (Kq s (x.args.drop q)) fun l=> .ok (ts++l))(h:x.args.length≤q):Kq s x.args= .ok ts:=by
 rw [hd,ES h,Kq];simp [Ke]
end
theorem dD (l:List Int)(n:Nat):NL l (n+1)=(NL l n && decide (l[n]?=some (n:Int))):=by
 unfold NL;rw [Hs,List.all_append];simp
theorem vx {l:List Int}{n q:Nat}(hq:q<n)(h:l[q]?≠some (q:Int)):NL l n=false:=by
 unfold NL;rw [List.all_eq_false];exact ⟨q,Fx.2 hq,by simpa using h⟩
theorem vy (n:Nat):K5 (n+1)=K5 n++[(n:Int)]:=by unfold K5;rw [Hs,E7];rfl
section
variable {f:Fun}{s:JS}{t:To}{b:Block}{e:Tail}
theorem bC (hb:f.blocks[t.block.toNat]?=some b)(h:(t.regs.length:Int)≠b.regs):NM f s t= .error 2:=by unfold NM;rw [hb];exact Qip h
theorem UA (hb:f.blocks[t.block.toNat]?=some b)(h:¬(t.regs.length:Int)≠b.regs)(M:NL t.regs f.regs.toNat=false):NM f s t= .error 11:=by unfold NM;rw [hb];simp only;rw [Qin h,Qip M]
theorem bD (hb:f.blocks[t.block.toNat]?=some b)(h:¬(t.regs.length:Int)≠b.regs)(M:NL t.regs f.regs.toNat=true)(h3:My s.h [] t.regs≠0):NM f s t= .error (My s.h [] t.regs):=by unfold NM;rw [hb];simp only;rw [Qin h,Qin (by rw [M];decide),Qip h3]
theorem UB (hb:f.blocks[t.block.toNat]?=some b)(h:¬(t.regs.length:Int)≠b.regs)(M:NL t.regs f.regs.toNat=true)(h3:My s.h [] t.regs=0):NM f s t=OE s t.args b.params t.regs:=by unfold NM;rw [hb];simp only;rw [Qin h,Qin (by rw [M];decide),Qin (fun h=>h h3)]
theorem np (h:e.op=1):Ml f s e=NM f s e.yes:=by unfold Ml;rw [Qip h]
theorem bE (h:e.op=2):Ml f s e=Ke (Kx s e.a 1) fun _=>Ke (NM f s e.yes) fun _=>NM f s e.no:=by unfold Ml;rw [Qin V,Qip h]
theorem dE (h:e.op=3):Ml f s e=Ke (OE s e.args f.results (K5 f.regs.toNat)) fun _=>if f.regs<(L4 s.h).length then .error 12 else .ok ():=by unfold Ml;rw [Qin V,Qin V]
theorem YP {n:Nat}(h:Nh n t true=0):0≤t.block∧t.block<n:=by
 unfold Nh at h;simp at h;omega
theorem iR {n:Nat}(h:Np n e=0):1≤e.op∧e.op≤3∧Nh n e.yes (decide (e.op≠3))=0∧Nh n e.no (decide (e.op=2))=0:=by
 unfold Np at h;split at h
 · cases h
 · split at h
   · cases h
   · split at h
     · cases h
     · unfold SQ at h
       split at h
       · rename_i I;exact absurd h I
       · rename_i I;exact ⟨V,V,Fk.1 I,h⟩
end
def NZ {α:Type}(x:Except Int α):Prop:=∀c,x= .error c→c≠0
theorem NZ.e {c:Int}(h:c≠0):NZ (.error c:Except Int α):=fun _ h'=>by cases h';exact h
theorem NZ.o (a:α):NZ (.ok a:Except Int α):=fun _ h'=>by cases h'
theorem NZ.bind {x:Except Int α}{f:α→Except Int β}(I:NZ x)(M:∀a,x= .ok a→NZ (f a)):NZ (Ke x f):=by
 cases x with
 | error e=>exact fun c h=>by cases h;exact I _ rfl
 | ok a=>exact M a rfl
theorem NZ.ite {p:Prop}[Decidable p]{a b:Except Int α}(I:NZ a)(M:NZ b):NZ (if p then a else b):=by
 split
 · exact I
 · exact M
theorem kh (s:JS)(k:Int):NZ (Lx s k):=by
 unfold Lx;split
 · exact .e Jd
 · split
   · exact .e Jd
   · exact .o _
theorem UC (s:JS)(k kind:Int):NZ (Kx s k kind):=by
 refine .bind (kh s k) fun t _=>?_;split
 · exact .e Jd
 · exact .o _
theorem dF (s:JS)(k kind:Int):NZ (Lu s k kind):=by
 refine .bind (UC s k kind) fun t _=>?_;split
 · exact .e Jd
 · exact .o _
theorem YQ (s:JS)(t:Ty):NZ (LJ s t):=by
 unfold LJ;split
 · exact .e Jd
 · exact .o _
theorem vz (s:JS)(regs:List Int):∀(l:List Int) (want:List Ty),NZ (NX s regs l want)
 | [],[]=>by unfold NX;exact .o _
 | [],_::_=>by unfold NX;exact .o _
 | _::_,[]=>by unfold NX;exact .o _
 | k ::l,u::want=>by
   unfold NX;refine .bind (kh s k) fun t _=>?_;split
   · exact .e Jd
   · split
     · exact .e Jd
     · exact vz s regs l want
theorem dG (s:JS)(l:List Int)(want:List Ty)(regs:List Int):NZ (OE s l want regs):=by
 unfold OE;split
 · exact .e Jd
 · exact vz s regs l want
theorem vA (t:Ty)(k:Int):NZ (Pb t k):=by
 unfold Pb;split
 · exact .e Jd
 · exact .o _
theorem qo (h:List Bool):∀(l p:List Int),NZ (M7 h p l)
 | [],_=>by unfold M7;exact .o _
 | r ::l,p=>by
   unfold M7;split
   · exact .e Jd
   · split
     · exact .e Jd
     · exact qo h l _
theorem qp (s:JS):∀(l:List Int),NZ (Kq s l)
 | []=>by unfold Kq;exact .o _
 | k::l=>by
   unfold Kq;exact .bind (kh s k) fun _ _=> .bind (qp s l) fun _ _=> .o _
theorem UD (m:Module)(s:JS)(x:Ins):NZ (Rh m s x):=by
 unfold Rh;split
 · exact .e Jd
 · split
   · exact .e Jd
   · refine .bind (qo _ _ _) fun _ _=> .bind (dG _ _ _ _) fun _ _=>?_
     split
     · exact .e Jd
     · exact .o _
theorem YR (m:Module)(f:Fun)(s:JS)(x:Ins):NZ (KG m f s x):=by
 unfold KG Uy
 repeat' (first|exact YQ _ _|exact UD _ _ _|exact .o _|exact .e Jd|refine .bind (UC _ _ _) fun _ _=>?_|refine .bind (dF _ _ _) fun _ _=>?_|refine .bind (vA _ _) fun _ _=>?_|refine .bind (kh _ _) fun _ _=>?_|refine .bind (qp _ _) fun _ _=>?_|refine .ite ?_ ?_)
theorem qq {m:Module}{f:Fun}{s:JS}{x:Ins}(h:(KK m f s x).1=0):Qs m.funcs.length x=0∧KG m f s x= .ok (KK m f s x).2:=by
 unfold KK at h ⊢;split at h
 · rename_i hf;exact absurd h hf
 · rename_i hf
   rw [Qin hf];refine ⟨Fk.1 hf,?_⟩
   cases hj:KG m f s x with
   | error c=>rw [hj] at h;exact absurd h (YR m f s x c hj)
   | ok s'=>rfl
theorem vB {m:Module}{f:Fun}{s:JS}{x:Ins}(h:(KK m f s x).1≠0):(KK m f s x).2=s:=by
 unfold KK at h ⊢;split
 · rfl
 · rename_i hf
   rw [Qin hf] at h
   cases hj:KG m f s x with
   | error c=>rfl
   | ok s'=>rw [hj] at h;exact AA
end
section
theorem R8 {a b:Mj}(h:(KP a b).1=0):a.1=0∧b.1=0:=by
 unfold KP at h;split at h
 · rename_i O;exact absurd h O.2
 · rename_i O;refine ⟨h,?_⟩;exact Fv fun hb=>O ⟨h,hb⟩
theorem vC {n f b:Nat}:∀{l:List Ins}{i:Nat},(OY n f b i l).1=0→∀x∈l,Qs n x=0
 | [],_,_,x,hx=>by cases hx
 | y::l,i,h,x,hx=>by
   rw [OY] at h;obtain ⟨I,M⟩:=R8 h;rw [R5] at I;rcases E4.1 hx with rfl|hx
   · exact I
   · exact vC M x hx
theorem vD {n f:Nat}{x:Fun}:∀{l:List Block}{b0:Nat},(QW n f x b0 l).1=0→∀(b:Nat) (y:Block),l[b]?=some y→(Pa n f x (b0+b) y).1=0
 | [],_,_,b,y,hy=>by cases hy
 | z::l,b0,h,b,y,hy=>by
   rw [QW] at h;obtain ⟨I,M⟩:=R8 h
   cases b with
   | zero=>rw [Fm] at hy;cases hy;exact I
   | succ b=>rw [FP] at hy;rw [show b0+(b+1)=b0+1+b by omega];exact vD M b y hy
theorem qs {n:Nat}:∀{l:List Fun}{f0:Nat},(PY n f0 l).1=0→∀(f:Nat) (x:Fun),l[f]?=some x→(R7 n (f0+f) x).1=0
 | [],_,_,b,y,hy=>by cases hy
 | z::l,b0,h,b,y,hy=>by
   rw [PY] at h;obtain ⟨I,M⟩:=R8 h
   cases b with
   | zero=>rw [Fm] at hy;cases hy;exact I
   | succ b=>rw [FP] at hy;rw [show b0+(b+1)=b0+1+b by omega];exact qs M b y hy
theorem qt {m:Module}(h:m.fault.1=0):1≤m.funcs.length∧m.funcs.length≤8:=by
 have I:=(R8 h).1;rw [R5] at I;split at I
 · cases I
 · omega
theorem SU {m:Module}(h:m.fault.1=0){f:Nat}{x:Fun}(hx:m.funcs[f]?=some x):Oo f x=0:=by
 have I:=qs (R8 h).2 f x hx;rw [Gi] at I;have M:=(R8 I).1
 rwa [R5] at M
theorem XL {m:Module}(h:m.fault.1=0){f b:Nat}{x:Fun}{y:Block}(hx:m.funcs[f]?=some x)(hy:x.blocks[b]?=some y):PD x b y=0∧(∀i∈y.code,Qs m.funcs.length i=0)∧Np x.blocks.length y.fin=0:=by
 have I:=qs (R8 h).2 f x hx;have M:=vD (R8 I).2 b y hy;obtain ⟨h3,h4⟩:=R8 M;obtain ⟨h5,h6⟩:=R8 h4;rw [R5] at h3 h6;rw [Gi] at h3;exact ⟨h3,vC h5,h6⟩
theorem bF {x:Fun}{b:Nat}{y:Block}(h:PD x b y=0):x.regs≤y.regs∧y.regs≤16∧QM y.params y.regs=0∧(b=0→y.regs=x.regs∧y.params=x.params)∧y.code.length≤40:=by
 unfold PD at h;split at h
 · cases h
 · rename_i I
   split at h
   · rename_i M;exact absurd h M
   · rename_i M
     split at h
     · cases h
     · rename_i h3
       split at h
       · cases h
       · refine ⟨V,V,Fk.1 M,fun hb=>?_,V⟩;refine ⟨Fv fun hr=>h3 ⟨hb, .inl hr⟩,Fv fun hr=>h3 ⟨hb, .inr hr⟩⟩
theorem UE {f:Nat}{x:Fun}(h:Oo f x=0):0≤x.regs∧x.regs≤6∧QM x.params x.regs=0∧QM x.results x.regs=0∧1≤x.blocks.length∧x.blocks.length≤12:=by
 unfold Oo at h;split at h
 · cases h
 · rename_i I
   split at h
   · rename_i M;exact absurd h M
   · rename_i M
     split at h
     · rename_i h3;exact absurd h h3
     · rename_i h3
       split at h
       · cases h
       · exact ⟨V,V,Fk.1 M,Fk.1 h3,V,V⟩
theorem Qdg {l:List Ty}{r:Int}(h:QM l r=0):l.length≤8:=by
 unfold QM at h;split at h
 · cases h
 · omega
theorem ki {b:Int}(h:SQ a b=0):a=0∧b=0:=by
 unfold SQ at h;split at h
 · rename_i I;exact absurd h I
 · rename_i I;exact ⟨Fk.1 I,h⟩
theorem vE {r:Int}:∀{l:List Ty},R6 r l=0→∀t∈l,t.fault r=0
 | [],_,t,ht=>by cases ht
 | x::l,h,t,ht=>by
   rw [R6] at h;obtain ⟨I,M⟩:=ki h;rcases E4.1 ht with rfl|ht
   · exact I
   · exact vE M t ht
theorem kj {l:List Ty}{r:Int}(h:QM l r=0):∀t∈l,t.fault r=0:=by
 unfold QM at h;split at h
 · cases h
 · exact vE h
theorem Ty.ren_short:∀(t:Ty){to:List Int}{u:Ty},t.Short→t.ren to=some u→u.Short:=by
 intro t
 induction t using GS with
 | h k r l ih =>
   intro to u hs h;obtain ⟨hl,hp⟩:=hs.parts;rw [Ty.ren] at h;split at h
   · cases h
   · split at h
     · cases h
     · rename_i m hm
       cases h
       have key:∀(l:List Ty) (m:List Ty),(∀x∈l,x.Short∧∀{u:Ty},x.Short→x.ren to=some u→u.Short)→Tys.ren l to=some m→m.length=l.length∧∀y∈m,y.Short:=by
        intro l
        induction l with
        | nil=>intro m _ h;rw [Tys.ren] at h;cases h;exact ⟨rfl,by simp⟩
        | cons x l ihl=>
          intro m hx h;rw [Tys.ren] at h
          cases I:x.ren to with
          | none=>rw [I] at h;cases h
          | some y=>
            rw [I] at h
            cases M:Tys.ren l to with
            | none=>rw [M] at h;cases h
            | some m2=>
              rw [M] at h;simp only [E3] at h;subst h;obtain ⟨h3,h4⟩:=ihl m2 (fun z hz=>hx z (FA _ hz)) M;refine ⟨by simp [h3],fun z hz=>?_⟩;rcases E4.1 hz with rfl|hz
              · obtain ⟨h5,h6⟩:=hx x (FR ..);exact h6 h5 I
              · exact h4 z hz
       obtain ⟨h3,h4⟩:=key l m (fun x hx=>⟨hp x hx,fun hs h=>ih x hx hs h⟩) hm;exact .mk V h4
theorem Ty.Short.part {t:Ty}(h:t.Short):∀u∈t.l,u.Short:=by
 obtain ⟨k,r,l⟩:=t;exact h.parts.2
theorem QgV {t:Ty}{to:List Int}(h:t.Short):(MH to t).Short:=by
 unfold MH
 cases hn:t.ren to with
 | none=>exact .mk Jd Js
 | some u=>exact Ty.ren_short t h hn
structure JGood (s:JS):Prop where
 n:s.l.length≤80
 h:s.h.length≤16
 s:∀t∈s.l,t.Short
theorem JGood.get {s:JS}(hg:JGood s){k:Int}{t:Ty}(h:Lx s k= .ok t):t.Short:=hg.s t (EK (nm h).2)
theorem JGood.put {s s':JS}{t:Ty}(hg:JGood s)(ht:t.Short)(h:LJ s t= .ok s'):JGood s':=by
 obtain ⟨I,M,h3⟩:=nn h;refine ⟨by rw [h3,EO];have:=hg.n;simp only [EY,Fc];omega,by rw [M];exact hg.h,fun u hu=>?_⟩;rw [h3] at hu;rcases E8.1 hu with hu|hu
 · exact hg.s u hu
 · simp at hu;subst hu;exact ht
theorem uG {k r:Int}:(Ty.mk k r []).Short:= .mk Jd Js
theorem qu {s:JS}(hg:JGood s):∀{l:List Int}{ts:List Ty},Kq s l= .ok ts→ts.length=l.length∧∀t∈ts,t.Short
 | [],ts,h=>by rw [Kq] at h;cases h;exact ⟨rfl,by simp⟩
 | k::l,ts,h=>by
   rw [Kq] at h;obtain ⟨t,I,h⟩:=Q8 h;obtain ⟨us,M,h⟩:=Q8 h;cases h;obtain ⟨h3,h4⟩:=qu hg M;refine ⟨by simp [h3],fun u hu=>?_⟩;rcases E4.1 hu with rfl|hu
   · exact hg.get I
   · exact h4 u hu
theorem Qjq {s:JS}{k:Int}{t:Ty}(h:Kx s k kd= .ok t):Lx s k= .ok t:=by have:=qm h;exact YO this.1 this.2.1
theorem vF {s:JS}{k:Int}{t:Ty}(h:Lu s k kd= .ok t):Lx s k= .ok t:=by have:=XJ h;exact YO this.1 this.2.1
theorem qw {t u:Ty}{k:Int}(h:Pb t k= .ok u):t.l[k.toNat]?=some u:=by
 unfold Pb at h;split at h
 · cases h
 · rename_i v hv;cases h;exact hv
theorem vG {m:Module}{f:Fun}{s s':JS}{x:Ins}(hm:m.Short)(hg:JGood s)(hF:Qs m.funcs.length x=0)(h:KG m f s x= .ok s'):JGood s':=by
 have hop:=bu hF;have hst:=Qjr hop h;have hn:s'.l.length≤80:=hst.len hg.n;by_cases h3:x.op=3
 · rw [iO h3] at h
   split at h
   · cases h
   · rename_i O
     cases h;refine ⟨hn,by have:=hg.h;simp only [EO,EY,Fc];omega,fun u hu=>?_⟩;rcases E8.1 hu with hu|hu
     · exact hg.s u hu
     · simp at hu;subst hu;exact uG
 by_cases h4:x.op=4
 · rw [dy h4] at h
   obtain ⟨t,I,h⟩:=Q8 h;split at h
   · cases h
   · cases h;exact ⟨hn,by rw [Fh];exact hg.h,hg.s⟩
 rcases LB (op:=x.op) V V with e|e|e|e|e|e|e|e|e|e|e|e|e|e
 · rw [XK V] at h;exact AG
 · rw [bw V] at h;obtain ⟨_,_,h⟩:=Q8 h;obtain ⟨_,_,h⟩:=Q8 h;exact AG
 · exact absurd e h3
 · exact absurd e h4
 · rw [iP V] at h
   unfold Uy at h;obtain ⟨t,_,h⟩:=Q8 h;obtain ⟨ts,M,h⟩:=Q8 h;split at h
   · cases h
   · obtain ⟨h5,h6⟩:=qu hg M
     have hal:x.args.length≤8:=by
      unfold Qs NK at hF;simp [e] at hF;omega
     exact hg.put (.mk V h6) h
 · rw [bx V] at h;obtain ⟨t,I,h⟩:=Q8 h;obtain ⟨u,M,h⟩:=Q8 h;exact hg.put (Ty.Short.part (hg.get (vF I)) u (EK (qw M))) h
 · rw [Uz V] at h;obtain ⟨_,_,h⟩:=Q8 h;obtain ⟨_,_,h⟩:=Q8 h;obtain ⟨_,_,h⟩:=Q8 h
   split at h
   · cases h
   · cases h;exact hg
 · rw [bz V] at h;obtain ⟨_,_,h⟩:=Q8 h;obtain ⟨_,_,h⟩:=Q8 h;exact AG
 · rw [bA V] at h;obtain ⟨_,_,h⟩:=Q8 h;obtain ⟨_,_,h⟩:=Q8 h;exact AG
 · rw [bB V] at h;obtain ⟨_,_,h⟩:=Q8 h;obtain ⟨_,_,h⟩:=Q8 h;obtain ⟨_,_,h⟩:=Q8 h;cases h;exact hg
 · rw [dz V] at h;obtain ⟨_,_,h⟩:=Q8 h;exact AG
 · rw [XK V] at h;exact AG
 · rw [iQ V] at h;obtain ⟨_,_,h⟩:=Q8 h;cases h;exact hg
 · rw [dA V] at h
   unfold Rh at h;split at h
   · cases h
   · rename_i g hgf
     split at h
     · cases h
     · obtain ⟨_,_,h⟩:=Q8 h;obtain ⟨_,_,h⟩:=Q8 h
       split at h
       · cases h
       · cases h
         refine ⟨hn,hg.h,fun u hu=>?_⟩;rcases E8.1 hu with hu|hu
         · exact hg.s u hu
         · obtain ⟨t,ht,rfl⟩:=Fq.1 hu;exact QgV ((hm.2 g (EK hgf)).2.1.2 t ht)
theorem Qjx {m:Module}{f:Fun}{s:JS}{x:Ins}(hm:m.Short)(hg:JGood s):JGood (KK m f s x).2:=by
 by_cases h:(KK m f s x).1=0
 · obtain ⟨I,M⟩:=qq h;exact vG hm hg I M
 · rw [vB h];exact hg
theorem vH {m:Module}(hm:m.Short)(hF:m.fault.1=0){f b:Nat}{x:Fun}{y:Block}(hx:m.funcs[f]?=some x)(hy:x.blocks[b]?=some y):JGood (MI y):=by
 have I:=bF (XL hF hx hy).1;have M:=Qdg I.2.2.1;refine ⟨by unfold MI;simp only;omega,by unfold MI;simp only [FK];omega,?_⟩;exact ((hm.2 x (EK hx)).2.2.2 y (EK hy)).1.2
theorem kl {h:List Bool}:∀{l p:List Int},M7 h p l= .ok ()→∀r∈l,Kt h r=true
 | [],_,_,r,hr=>by cases hr
 | x ::l,p,hd,r,hr=>by
   rw [M7] at hd;split at hd
   · cases hd
   · rename_i I
     split at hd
     · cases hd
     · rcases E4.1 hr with rfl|hr
       · simpa using I
       · exact kl hd r hr
theorem UF {s:JS}{k:Int}{t:Ty}(h0:0≤k)(h:s.l[k.toNat]?=some t)(hk:t.kind=kd)(hh:Kt s.h t.r=false):Lu s k kd= .error 10:=by
 unfold Lu Kx;rw [Q5 (YO h0 h),Qin (fun h=>h hk),Q5 rfl,Qip hh]
end
section
variable {α:Type}
def Rep.an (r:Rep α)(p:α→Prop):Rep α where
 es:=r.es
 pos:=r.pos
 R:=fun H K cs x=>r.R H K cs x∧p x
 len:=fun h=>r.len h.1
 one:=fun h=>r.one h.1
 turn:=fun h hs=>⟨r.turn h.1 hs,h.2⟩
theorem Rep.an_SR {r:Rep α}{p:α→Prop}{l:List α}(h:(r.an p).SR H K v l):r.SR H K v l∧∀x∈l,p x:=by
 obtain ⟨css,I,⟨M,h3⟩,h4⟩:=h;refine ⟨⟨css,I,⟨M,fun m x hx=>?_⟩,h4⟩,fun x hx=>?_⟩
 · obtain ⟨d,e1,e2⟩:=h3 m x hx;exact ⟨d,e1,e2.1⟩
 · obtain ⟨m,hm⟩:=FL.1 hx;obtain ⟨d,e1,e2⟩:=h3 m x hm;exact e2.2
abbrev GJ:=@Rep.an_SR
def To.InR (t:To):Prop:=LQ t.block∧(∀n∈t.regs,LQ n)∧∀n∈t.args,LQ n
def Ins.InR (x:Ins):Prop:=(LQ x.op∧LQ x.a∧LQ x.b∧LQ x.c∧LQ x.k∧LQ x.n)∧(∀n∈x.regs,LQ n)∧∀n∈x.args,LQ n
def Tail.InR (x:Tail):Prop:=LQ x.op∧LQ x.a∧x.yes.InR∧x.no.InR∧∀n∈x.args,LQ n
def Block.InR (x:Block):Prop:=LQ x.regs∧(∀t∈x.params,t.InR)∧(∀i∈x.code,i.InR)∧x.fin.InR
def Fun.InR (x:Fun):Prop:=LQ x.regs∧(∀t∈x.params,t.InR)∧(∀t∈x.results,t.InR)∧∀b∈x.blocks,b.InR
def Module.InR (m:Module):Prop:=∀f∈m.funcs,f.InR
section
variable {P:Program}{T e:TypeId}
def Cod.Of.intI (ht:P.underlying T=some (.int .i64))(hs:P.cellsOf T=1):Cod.Of P T (Kb.an LQ):=Cod.of (Cod.int .i64 ht hs) (Kb.an LQ) rfl fun _ _ x h=>⟨x,h.1,qd h.2⟩
def Cod.Of.tyI {TL t0 t1:TypeId}(h0:fieldAt P T 0=some (0,1,t0))(I:fieldAt P T 1=some (1,1,t1))(M:fieldAt P T 2=some (2,1,TL))(hi0:P.underlying t0=some (.int .i64))(hi1:P.underlying t1=some (.int .i64))(hT:P.cellsOf T=3)(hTL:P.underlying TL=some (.slice T))(hby:decide (0<P.bytesOf T)=true):Cod.Of P T (KA.an Ty.InR):=
 ⟨Cod.tyInt h0 I M hi0 hi1 hT hTL hby,rfl,fun _ _ _ h=>h⟩
def Cod.Of.toI {TI TL:TypeId}(ci:Cod.Of P TI (Kb.an LQ))(cl:Cod.Of P TL (Kb.an LQ).list)(h0:fieldAt P T 0=some (0,1,TI))(I:fieldAt P T 1=some (1,1,TL))(M:fieldAt P T 2=some (2,1,TL))(hT:P.cellsOf T=3):Cod.Of P T (toR.an To.InR):=
 Cod.of (Fld.cod (Fld.more ci.cod h0 (Fld.more cl.cod I (Fld.more cl.cod M Fld.none))) h0 3 hT) (toR.an To.InR) rfl fun H cs x h=>by
  obtain ⟨hl,g0,g1,g2,_⟩:=h
  match cs,hl with
  | [a,b,c],_=>
    obtain ⟨e0,n0⟩:[a]=[_]∧LQ _:=ci.part g0;obtain ⟨v1,e1,s1⟩:=cl.part g1;obtain ⟨s1,q1⟩:=GJ s1;obtain ⟨v2,e2,s2⟩:=cl.part g2;obtain ⟨s2,q2⟩:=GJ s2;replace e1:[b]=[v1]:=e1;replace e2:[c]=[v2]:=e2;simp only [FW,and_true] at e0 e1 e2;subst e0 e1 e2;exact ⟨⟨x.1,x.2.1,x.2.2.1⟩,⟨b,c,rfl,s1,s2⟩,n0,q1,q2⟩
def Cod.Of.insI {TI TL TN:TypeId}(ci:Cod.Of P TI (Kb.an LQ))(cn:Cod.Of P TN (Kb.an LQ))(cl:Cod.Of P TL (Kb.an LQ).list)(h0:fieldAt P T 0=some (0,1,TI))(I:fieldAt P T 1=some (1,1,TI))(M:fieldAt P T 2=some (2,1,TI))(h3:fieldAt P T 3=some (3,1,TI))(h4:fieldAt P T 4=some (4,1,TI))(h5:fieldAt P T 5=some (5,1,TN))(h6:fieldAt P T 6=some (6,1,TL))(h7:fieldAt P T 7=some (7,1,TL))(hT:P.cellsOf T=8):Cod.Of P T (K1.an Ins.InR):=
 Cod.of (Fld.cod (Fld.more ci.cod h0 (Fld.more ci.cod I (Fld.more ci.cod M (Fld.more ci.cod h3 (Fld.more ci.cod h4 (Fld.more cn.cod h5 (Fld.more cl.cod h6 (Fld.more cl.cod h7 Fld.none)))))))) h0 8 hT) (K1.an Ins.InR) rfl fun H cs x h=>by
  obtain ⟨hl,g0,g1,g2,g3,g4,g5,g6,g7,_⟩:=h
  match cs,hl with
  | [a0,a1,a2,a3,a4,a5,a6,a7],_=>
    obtain ⟨e0,n0⟩:[a0]=[_]∧LQ _:=ci.part g0;obtain ⟨e1,n1⟩:[a1]=[_]∧LQ _:=ci.part g1;obtain ⟨e2,n2⟩:[a2]=[_]∧LQ _:=ci.part g2;obtain ⟨e3,n3⟩:[a3]=[_]∧LQ _:=ci.part g3;obtain ⟨e4,n4⟩:[a4]=[_]∧LQ _:=ci.part g4;obtain ⟨e5,n5⟩:[a5]=[_]∧LQ _:=cn.part g5;obtain ⟨v1,e6,s1⟩:=cl.part g6;obtain ⟨s1,q1⟩:=GJ s1;obtain ⟨v2,e7,s2⟩:=cl.part g7;obtain ⟨s2,q2⟩:=GJ s2;replace e6:[a6]=[v1]:=e6;replace e7:[a7]=[v2]:=e7;simp only [FW,and_true] at e0 e1 e2 e3 e4 e5 e6 e7;subst e0 e1 e2 e3 e4 e5 e6 e7;exact ⟨⟨x.1,x.2.1,x.2.2.1,x.2.2.2.1,x.2.2.2.2.1,x.2.2.2.2.2.1,x.2.2.2.2.2.2.1,x.2.2.2.2.2.2.2.1⟩,⟨_,_,rfl,s1,s2⟩,⟨n0,n1,n2,n3,n4,n5⟩,q1,q2⟩
def Cod.Of.endpI {TI TL TT:TypeId}(ci:Cod.Of P TI (Kb.an LQ))(cl:Cod.Of P TL (Kb.an LQ).list)(ct:Cod.Of P TT (toR.an To.InR))(h0:fieldAt P T 0=some (0,1,TI))(I:fieldAt P T 1=some (1,1,TI))(M:fieldAt P T 2=some (2,3,TT))(h3:fieldAt P T 3=some (5,3,TT))(h4:fieldAt P T 4=some (8,1,TL))(hT:P.cellsOf T=9):Cod.Of P T (La.an Tail.InR):=
 Cod.of (Fld.cod (Fld.more ci.cod h0 (Fld.more ci.cod I (Fld.more ct.cod M (Fld.more ct.cod h3 (Fld.more cl.cod h4 Fld.none))))) h0 9 hT) (La.an Tail.InR) rfl fun H cs x h=>by
  obtain ⟨hl,g0,g1,g2,g3,g4,_⟩:=h
  match cs,hl with
  | [a0,a1,a2,a3,a4,a5,a6,a7,a8],_=>
    obtain ⟨e0,n0⟩:[a0]=[_]∧LQ _:=ci.part g0;obtain ⟨e1,n1⟩:[a1]=[_]∧LQ _:=ci.part g1;obtain ⟨⟨v1,v2,e2,s1,s2⟩,n2⟩:=ct.part g2;obtain ⟨⟨v3,v4,e3,s3,s4⟩,n3⟩:=ct.part g3;obtain ⟨v5,e4,s5⟩:=cl.part g4;obtain ⟨s5,q5⟩:=GJ s5;replace e2:[a2,a3,a4]=_:=e2;replace e3:[a5,a6,a7]=_:=e3;replace e4:[a8]=_:=e4;simp only [FW,and_true] at e0 e1 e2 e3 e4;obtain ⟨q2,q3,q4⟩:=e2;obtain ⟨q5,q6,q7⟩:=e3;subst e0 e1 q2 q3 q4 q5 q6 q7 e4;exact ⟨⟨x.1,x.2.1,x.2.2.1,x.2.2.2.1,x.2.2.2.2.1⟩,⟨_,_,_,_,_,rfl,s1,s2,s3,s4,s5⟩,n0,n1,n2,n3,q5⟩
def Cod.Of.blockI {TI TL TC TE:TypeId}(ci:Cod.Of P TI (Kb.an LQ))(cl:Cod.Of P TL (KA.an Ty.InR).list)(cc:Cod.Of P TC (K1.an Ins.InR).list)(ce:Cod.Of P TE (La.an Tail.InR))(h0:fieldAt P T 0=some (0,1,TI))(I:fieldAt P T 1=some (1,1,TL))(M:fieldAt P T 2=some (2,1,TC))(h3:fieldAt P T 3=some (3,9,TE))(hT:P.cellsOf T=12):Cod.Of P T (K3.an Block.InR):=
 Cod.of (Fld.cod (Fld.more ci.cod h0 (Fld.more cl.cod I (Fld.more cc.cod M (Fld.more ce.cod h3 Fld.none)))) h0 12 hT) (K3.an Block.InR) rfl fun H cs x h=>by
  obtain ⟨hl,g0,g1,g2,g3,_⟩:=h
  match cs,hl with
  | [a0,a1,a2,a3,a4,a5,a6,a7,a8,a9,a10,a11],_=>
    obtain ⟨e0,n0⟩:[a0]=[_]∧LQ _:=ci.part g0;obtain ⟨v1,e1,s1⟩:=cl.part g1;obtain ⟨s1,q1⟩:=GJ s1;obtain ⟨v2,e2,s2⟩:=cc.part g2;obtain ⟨s2,q2⟩:=GJ s2;obtain ⟨s3,n3⟩:=ce.part g3;replace e1:[a1]=_:=e1;replace e2:[a2]=_:=e2;replace s3:La.R H (· < H.size) [a3,a4,a5,a6,a7,a8,a9,a10,a11] x.2.2.2.1:=s3;simp only [FW,and_true] at e0 e1 e2;subst e0 e1 e2;exact ⟨⟨x.1,x.2.1,x.2.2.1,x.2.2.2.1⟩,⟨_,_,_,rfl,s1,s2,s3⟩,n0,q1,q2,n3⟩
def Cod.Of.funcI {TI TL TB:TypeId}(ci:Cod.Of P TI (Kb.an LQ))(cl:Cod.Of P TL (KA.an Ty.InR).list)(cb:Cod.Of P TB (K3.an Block.InR).list)(h0:fieldAt P T 0=some (0,1,TI))(I:fieldAt P T 1=some (1,1,TL))(M:fieldAt P T 2=some (2,1,TL))(h3:fieldAt P T 3=some (3,1,TB))(hT:P.cellsOf T=4):Cod.Of P T (Ks.an Fun.InR):=
 Cod.of (Fld.cod (Fld.more ci.cod h0 (Fld.more cl.cod I (Fld.more cl.cod M (Fld.more cb.cod h3 Fld.none)))) h0 4 hT) (Ks.an Fun.InR) rfl fun H cs x h=>by
  obtain ⟨hl,g0,g1,g2,g3,_⟩:=h
  match cs,hl with
  | [a0,a1,a2,a3],_=>
    obtain ⟨e0,n0⟩:[a0]=[_]∧LQ _:=ci.part g0;obtain ⟨v1,e1,s1⟩:=cl.part g1;obtain ⟨s1,q1⟩:=GJ s1;obtain ⟨v2,e2,s2⟩:=cl.part g2;obtain ⟨s2,q2⟩:=GJ s2;obtain ⟨v3,e3,s3⟩:=cb.part g3;obtain ⟨s3,q3⟩:=GJ s3;replace e1:[a1]=_:=e1;replace e2:[a2]=_:=e2;replace e3:[a3]=_:=e3;simp only [FW,and_true] at e0 e1 e2 e3;subst e0 e1 e2 e3;exact ⟨⟨x.1,x.2.1,x.2.2.1,x.2.2.2.1⟩,⟨_,_,_,rfl,s1,s2,s3⟩,n0,q1,q2,q3⟩
def Cod.Of.modI {TF:TypeId}(cf:Cod.Of P TF (Ks.an Fun.InR).list)(h0:fieldAt P T 0=some (0,1,TF))(hT:P.cellsOf T=1):Cod.Of P T (Lr.an Module.InR):=
 Cod.of (Fld.cod (Fld.more cf.cod h0 Fld.none) h0 1 hT) (Lr.an Module.InR) rfl fun H cs x h=>by
  obtain ⟨hl,g0,_⟩:=h
  match cs,hl with
  | [a0],_=>
    obtain ⟨v1,e1,s1⟩:=cf.part g0;obtain ⟨s1,q1⟩:=GJ s1;replace e1:[a0]=_:=e1;simp only [FW,and_true] at e1;subst e1;exact ⟨⟨x.1⟩,⟨_,rfl,s1⟩,q1⟩
end
end
end Go.Lir
namespace Go.Proofs.YteflkifmgnpbhaaGreat
open Go.Lir
def iS:Cod.Of Tryz.prog 3 (Kb.an LQ):=Cod.Of.intI Jk Jk
def UG:Cod.Of Tryz.prog 2 (Kb.an LQ):=Cod.Of.intI Jk Jk
def qx:Cod.Of Tryz.prog 68 (Kb.an LQ).list:=Cod.Of.list iS Jk Jk Jk
def qy:Cod.Of Tryz.prog 115 (KA.an Ty.InR):=Cod.Of.tyI (TL:=86) (t0:=3) (t1:=3) Jk Jk Jk Jk Jk Jk Jk Jk
def bG:Cod.Of Tryz.prog 86 (KA.an Ty.InR).list:=Cod.Of.list qy Jk Jk Jk
def km:Cod.Of Tryz.prog 84 (K1.an Ins.InR):=Cod.Of.insI iS UG qx Jk Jk Jk Jk Jk Jk Jk Jk Jk
def dH:Cod.Of Tryz.prog 85 (K1.an Ins.InR).list:=Cod.Of.list km Jk Jk Jk
def qz:Cod.Of Tryz.prog 88 (toR.an To.InR):=Cod.Of.toI iS qx Jk Jk Jk Jk
def kn:Cod.Of Tryz.prog 90 (La.an Tail.InR):=Cod.Of.endpI iS qx qz Jk Jk Jk Jk Jk Jk
def YS:Cod.Of Tryz.prog 92 (K3.an Block.InR):=Cod.Of.blockI iS bG dH kn Jk Jk Jk Jk Jk
def UH:Cod.Of Tryz.prog 93 (K3.an Block.InR).list:=Cod.Of.list YS Jk Jk Jk
def dI:Cod.Of Tryz.prog 95 (Ks.an Fun.InR):=Cod.Of.funcI iS bG UH Jk Jk Jk Jk Jk
def YT:Cod.Of Tryz.prog 22 (Ks.an Fun.InR).list:=Cod.Of.list dI Jk Jk Jk
def R9:Cod.Of Tryz.prog 24 (Lr.an Module.InR):=Cod.Of.modI YT Jk Jk
end Go.Proofs.YteflkifmgnpbhaaGreat
namespace Go.Lir
section


def Kr (P:Program)(f:FuncId)(args:List Value)(w:World)(S T:Value→World→Prop):Prop:=
 Calls P f ⟨args⟩ w fun e B=>(∃v,e= .returned v∧S v B)∨(∃v,e= .panicked [{v:=v,recovered:=false}]∧T v B)

theorem Kr.mono {f:FuncId}{S' T T':Value→World→Prop}(h:Kr P f args w S T)(hs:∀v B,S v B→S' v B)(ht:∀v B,T v B→T' v B):Kr P f args w S' T':=
 Calls.mono h fun _ _ h=>h.elim (fun ⟨v,he,hv⟩=> .inl ⟨v,he,hs _ _ hv⟩) (fun ⟨v,he,hv⟩=> .inr ⟨v,he,ht _ _ hv⟩)
theorem Ka.ends {f:FuncId}{T:Value→World→Prop}(h:Ka P f args w S):Kr P f args w S T:=
 Calls.mono h fun _ _ h=> .inl h
section
variable {P:Program}{l:List GO}{Q:QT}{U:KD}{w:World}
theorem nq {d:Nat}{f:FuncId}{xs:List Operand}{T:Value→World→Prop}(hxs:xs.map U.ev=args)(O:Kr P f args w S T)
 (hp:∀v B,T v B→Q (.panic [{v:=v,recovered:=false}]) U B)(h:∀v B,S v B→Q0 P l Q (upd U d v) B):Q0 P (⟨none, .call (some d) f xs⟩::l) Q U w:=by
 subst hxs;refine Calls.mono O fun e B h'=>?_;rcases h' with ⟨v,he,hs⟩|⟨v,he,hs⟩
 · subst he;exact h v B hs
 · subst he;exact hp v B hs
theorem YU {d:Nat}{x:Operand}{f:FuncId}{T:Value→World→Prop}(hx:U.ev x= .func (.func f) #[] ⟨cap⟩)(hf:SI P f=true)(hxs:os.map U.ev++cap=args)(O:Kr P f args w S T)
 (hp:∀v B,T v B→Q (.panic [{v:=v,recovered:=false}]) U B)(h:∀v B,S v B→Q0 P l Q (upd U d v) B):Q0 P (⟨none, .callv (some d) x os⟩::l) Q U w:=by
 unfold SI at hf;rw [Ik] at hf;obtain ⟨fn,I,M⟩:=hf;rw [EW,Gc] at M;refine uo hx I M.1 M.2 hxs O ?_;intro e B h';rcases h' with ⟨v,rfl,hs⟩|⟨v,rfl,hs⟩
 · exact h v B hs
 · exact hp v B hs
theorem Qo {K:KT}{h:Q (.panic ch) U w}:Qp K Q (.panic ch) U w:=h
theorem QL {id:Nat}{h:Q (.panic ch) U w}:Qk id Q (.panic ch) U w:=h
theorem Qi {h:R (.panicked ch) w}:KN P rs R (.panic ch) U w:=h
theorem nr {d : Option Nat}{x : Operand}{Ty:TypeId}(hx : U.ev x = .iface T v)(h : Q (.panic [{ v := .iface T v, recovered := false }]) U w): Q0 P (⟨none, .raw ⟨d, .panic x, Ty, "", #[], none⟩⟩ :: l) Q U w := by
 refine (?_:PN P _ U w _ Q);unfold PN
 have e : (execOp U.ev ⟨d, .panic x, Ty, "", #[], none⟩).run P w = .halt (.panic (.iface T v)) w := by
  simp [execOp,Instr.panic,hx,goPanic,Sem.run]
 rw [e];exact h
theorem nu {d:Nat}{x:Operand}{Ty xT:TypeId}(hd:P.underlying T=some D)(hi:∀m,D≠ .interface m)(hx:U.ev x= .iface T v)
 (h : Q0 P l Q (upd U d (.tuple #[v, .bool true])) w): Q0 P (⟨none, .raw ⟨some d, .typeAssert x xT T true, Ty, "", #[], none⟩⟩ :: l) Q U w := by
 refine MR (v:= .tuple #[v, .bool true]) (B:=w) ?_ h;simp only [execOp,Instr.typeAssert,hx,Fb,Qa P T D w hd,EX];cases D<;>first|(exact absurd rfl (hi _))|simp
theorem Qew {d:Nat}{x:Operand}{Ty xT:TypeId}{z:Value}(hd:P.underlying T=some D)(hi:∀m,D≠ .interface m)(hz:cO P T=some z)(hx:U.ev x= .iface T' v)(hne:T'≠T)
 (h : Q0 P l Q (upd U d (.tuple #[z, .bool false])) w): Q0 P (⟨none, .raw ⟨some d, .typeAssert x xT T true, Ty, "", #[], none⟩⟩ :: l) Q U w := by
 refine MR (v:= .tuple #[z, .bool false]) (B:=w) ?_ h;simp only [execOp,Instr.typeAssert,hx,Fb,Qa P T D w hd,EX];cases D<;>first|(exact absurd rfl (hi _))|simp [hne,bj P T z w hz]
end


inductive LSp where
 | dfr (d:Option Nat) (x:Operand)
 | rcv (d:Option Nat)

inductive LD where
 | pl (c:LC)
 | seq (a b:LD)
 | sp (l1:List GO) (o:LSp) (l2:List GO)

def SV (o:Oper):Option LSp:=match o.guard,o.op with
 | none, .defer ⟨.value x,xs,_⟩=>if xs.size=0 then some (.dfr o.dst x) else none
 | none, .call ⟨.builtin .recover,xs,_⟩=>if xs.size=0 then some (.rcv o.dst) else none
 | _,_=>none
def iT:Code→Bool
 | .seq a b=>iT a||iT b
 | .region _ ops _=>ops.toList.any fun o=>(SV o).isSome
 | _=>false
def iU:List Oper→Option (List Oper×Oper×LSp×List Oper)
 | []=>none
 | o::r=>match SV o with
   | some s=>some ([],o,s,r)
   | none=>(iU r).map fun p=>(o::p.1,p.2)
def Pc (P:Program)(n:Nat):Code→LD
 | .seq a b=>if iT a||iT b then .seq (Pc P n a) (Pc P n b) else .pl (Rf P n (.seq a b))
 | .region id ops false=>match iU ops.toList with
   | some (l1,_,s,l2)=>if ops.toList.all (PO n ops) then .sp (l1.map (O7 P ops)) s (l2.map (O7 P ops)) else .pl .bad
   | none=> .pl (Rf P n (.region id ops false))
 | c=> .pl (Rf P n c)
def iV (P:Program)(fn:Func):Option LD:=fn.body.map (Pc P fn.ntmps)

def LD.wpD (P:Program):LD→(List Deferred→QT)→List Deferred→KD→World→Prop
 | .pl c,Q,ds,U,w=>c.wp P (Q ds) U w
 | .seq a b,Q,ds,U,w=>a.wpD P (fun ds'=>Qp (b.wpD P Q ds') (Q ds')) ds U w
 | .sp l1 (.dfr d x) l2,Q,ds,U,w=>Q0 P l1 (Qp (fun U w=>∃f cap,U.ev x= .func (.func f) #[] cap∧Q0 P l2 (Q (⟨.fn (.func f) cap,#[]⟩::ds)) (KR U d undef) w) (Q ds)) U w
 | _,_,_,_,_=>False

theorem qA:∀{ops l1 l2:List Oper}{o:Oper}{s:LSp},iU ops=some (l1,o,s,l2)→ops=l1++o::l2∧SV o=some s
 | [],_,_,_,_,h=>by simp [iU] at h
 | o'::r,l1,l2,o,s,h=>by
   rw [iU] at h
   cases hs:SV o' with
   | some s'=>
     simp only [hs,E3,GF] at h;obtain ⟨rfl,rfl,rfl,rfl⟩:=h;exact ⟨rfl,hs⟩
   | none=>
     simp only [hs,Gq] at h;obtain ⟨⟨a,b,c,d⟩,I,M⟩:=h;simp only [GF] at M;obtain ⟨rfl,rfl,rfl,rfl⟩:=M;obtain ⟨h3,h4⟩:=qA I;exact ⟨by rw [h3];rfl,h4⟩

theorem qB {o:Oper}{a:Act}{K K':Act→World→Prop}{Q Q':Exit→Act→World→Prop}(hk:∀a w,K a w→K' a w)(hp:∀ch a w,Q (.panic ch) a w→Q' (.panic ch) a w)(ho:LetsOut Q→LetsOut Q')(r:Result Next)(h:o.upon P a K Q r):o.upon P a K' Q' r:=by
 cases r with
 | ok n w=>
   cases n<;>first|exact hk _ _ h|exact h|skip
   · refine Calls.mono h fun e w h=>?_;cases e<;>first|exact hk _ _ h|exact hp _ _ _ h|exact ho h
   · exact Rows.mono h fun v w h=>hk _ _ h
 | halt x w=>cases x<;>first|exact hp _ _ _ h|exact h

theorem nz {P:Program}{ops:Array Oper}{Q:Exit→Act→World→Prop}{l2:List Nat}:∀(l1:List Nat) (a:Act) (w:World),
 wpOps P ops (Exit.then (wpOps P ops Q l2) Q) l1 a w→wpOps P ops Q (l1++l2) a w
 | [],a,w,h=>h
 | i ::l1,a,w,h=>by
   simp only [F7,wpOps] at h ⊢
   cases ho:ops[i]? with
   | none=>simp only [ho] at h ⊢;exact nz l1 a w h
   | some o=>
     simp only [ho] at h ⊢;split
     · rename_i hw
       rw [Qip hw] at h;rcases h with h|⟨I,M⟩
       · exact .inl (qB (fun a w h=>nz l1 a w h) (fun ch a w h=>h) (fun h=>h) _ h)
       · exact .inr ⟨I,M⟩
     · rename_i hw;rw [Qin hw] at h;exact nz l1 _ w h
theorem ko {P:Program}{ops:Array Oper}{Q Q':Exit→Act→World→Prop}(hq:∀e a w,Q e a w→Q' e a w):∀(l:List Nat) (a:Act) (w:World),wpOps P ops Q l a w→wpOps P ops Q' l a w
 | [],a,w,h=>hq _ _ _ h
 | i ::l,a,w,h=>by
   simp only [wpOps] at h ⊢;have ho':LetsOut Q→LetsOut Q':=fun ⟨a,w,h⟩=>⟨a,w,hq _ _ _ h⟩
   cases ho:ops[i]? with
   | none=>simp only [ho] at h ⊢;exact ko hq l a w h
   | some o=>
     simp only [ho] at h ⊢;split
     · rename_i hw
       rw [Qip hw] at h;rcases h with h|⟨I,M⟩
       · exact .inl (qB (fun a w h=>ko hq l a w h) (fun ch a w h=>hq _ _ _ h) ho' _ h)
       · exact .inr ⟨I,ho' M⟩
     · rename_i hw;rw [Qin hw] at h;exact ko hq l _ w h

def bH (n:Nat)(Q:List Deferred→QT):Exit→Act→World→Prop:=fun e a w=>∃ds,bd n ds (Q ds) e a w

theorem vI {o:α}(h:ops=l1++o::l2):List.range ops.length=List.range l1.length++l1.length::(List.range l2.length).map (l1.length+1+·):=by
 subst h;apply ID
 · simp
 · intro i I M
   rw [Il];rcases Nat.lt_trichotomy i l1.length with h|h|h
   · rw [List.getElem_append_left C5,Il]
   · subst h;rw [I0 Js];simp
   · rw [I0 (by simpa using Nat.le_of_lt h)];simp only [HI];rw [List.getElem_cons];rw [dif_neg V,List.getElem_map,Il];omega
theorem vJ {o:α}(g:α→β)(h:ops=l1++o::l2):((List.range l2.length).map (l1.length+1+·)).filterMap (fun i=>(ops[i]?).map g)=l2.map g:=by
 subst h;rw [List.filterMap_map]
 have:∀i,((fun i=>((l1++o::l2)[i]?).map g)∘(l1.length+1+·)) i=(l2[i]?).map g:=by
  intro i;simp only [Function.comp];rw [ER V];rw [show l1.length+1+i - l1.length=i+1 by omega,FP]
 rw [oZ (fun i _=>this i)];have:=pd g l2 []
 simpa [H6] using this
theorem vK {o:α}(g:α→β)(h:ops=l1++o::l2):(List.range l1.length).filterMap (fun i=>(ops[i]?).map g)=l1.map g:=by
 subst h
 have:∀i∈List.range l1.length,((l1++o::l2)[i]?).map g=(l1[i]?).map g:=by
  intro i hi;rw [EU Du]
 rw [oZ this];have:=pd g l1 []
 simpa [H6] using this

theorem Qh9 {n:Nat}:∀(c:Code) (Q:List Deferred→QT) (ds:List Deferred) (U:KD) (a:Act) (w:World),OA n U ds a→(Pc P n c).wpD P Q ds U w→c.wp P (bH n Q) a w:=by
 have hpl:∀(c:Code) (Q:List Deferred→QT) (ds:List Deferred) (U:KD) (a:Act) (w:World),OA n U ds a→(Rf P n c).wp P (Q ds) U w→c.wp P (bH n Q) a w:=fun c Q ds U a w hr h=>
  wp_mono (pe c _ U a w hr h) fun e a w h=>⟨ds,h⟩
 intro c
 induction c with
 | seq x y ihx ihy=>
   intro Q ds U a w hr h;rw [Pc] at h;split at h
   · refine wp_seq ?_
     refine wp_mono (ihx _ ds U a w hr h) ?_;rintro e a w ⟨ds',ρ',hr',h'⟩
     cases e with
     | normal=>exact ihy _ ds' ρ' a w hr' h'
     | _=>exact ⟨ds',ρ',hr',h'⟩
   · exact hpl _ Q ds U a w hr h
 | region id ops draw=>
   intro Q ds U a w hr h
   cases draw with
   | true=>exact hpl _ Q ds U a w hr h
   | false =>
     rw [Pc] at h;split at h
     · rename_i l1 o s l2 hs
       obtain ⟨hops,hsp⟩:=qA hs;split at h
       · rename_i hall
         (have hok:∀i o,ops[i]?=some o→PO n ops o=true:=fun i o hi=>FI.1 hall o Dx;have hsz:ops.size=ops.toList.length:=C3;have hgm:∀(l:List Nat),(l.filterMap fun i=>(ops[i]?).map (O7 P ops))=l.filterMap fun i=>(ops.toList[i]?).map (O7 P ops):=fun l=>by simp);have hlen:ops.toList.length=l1.length+1+l2.length:=(by rw [hops];simp;omega);have hrange:∀(l:List Nat),(∀i∈l,i<ops.size)→∀i∈l,∃o,ops[i]?=some o∧PO n ops o=true:=fun l hl i hi=>⟨ops[i]'(hl i hi),by simp [hl i hi],hok i _ (by simp [hl i hi])⟩;refine wp_region ?_;rw [hsz,vI hops];refine nz _ _ _ ?_
         cases s with
         | rcv d=>exact h.elim
         | dfr d x=>
           have I:=mG (Q:=Qp (fun U w=>∃f cap,U.ev x= .func (.func f) #[] cap∧Q0 P (l2.map (O7 P ops)) (Q (⟨.fn (.func f) cap,#[]⟩::ds)) (KR U d undef) w) (Q ds)) (ds:=ds) (List.range l1.length) U a w hr
            (hrange _ fun i hi=>by rw [hsz,hlen];have:=Fx.1 hi;omega) (by rw [hgm,vK _ hops];exact h)
           refine ko ?_ _ _ _ I;rintro e a w ⟨ρ',hr',h'⟩
           cases e with
           | normal=>
             obtain ⟨f,cap,hf,h'⟩:=h';have hoi:ops[l1.length]?=some o:=(by rw [←F5,hops];simp);refine (?_:wpOps P ops _ (l1.length::_) a w);simp only [wpOps,hoi]
             have hg:o.guard=none∧∃ts,∃xs:Array Operand,o.op= .defer ⟨.value x,xs,ts⟩∧xs.size=0∧o.dst=d:=by
              unfold SV at hsp;split at hsp
              · rename_i x' xs' ts' hg ho
                split at hsp
                · rename_i hx0;simp only [E3,LSp.dfr.injEq] at hsp;obtain ⟨g1,g2⟩:=hsp;subst g2;exact ⟨hg,ts',xs',ho,hx0,g1⟩
                · cases hsp
              · split at hsp<;>cases hsp
              · cases hsp
             obtain ⟨hgd,ts,xs,hop,hxs,hd⟩:=hg;have hxs':xs=#[]:=IA hxs;subst hxs';rw [Qip (by simp [Region.wanted,hgd])];refine .inl ?_;unfold Oper.wp
             have e1:(execOp a.eval o).run P w= .ok (.defer ⟨.fn (.func f) cap,#[]⟩) w:=by
              simp [execOp,hop,resolve,hr'.ev,hf,Deferred.ofValue]
             rw [e1,Oper.upon_defer,hd];have hdn:=im (hok _ o hoi);rw [hd] at hdn
             have hr2:OA n (KR ρ' d undef) (⟨.fn (.func f) cap,#[]⟩::ds) ({a with defers:=⟨.fn (.func f) cap,#[]⟩::a.defers}.put d undef):=by
              have hr3:OA n ρ' (⟨.fn (.func f) cap,#[]⟩::ds) {a with defers:=⟨.fn (.func f) cap,#[]⟩::a.defers}:=⟨hr'.1,hr'.2.1,by simp [hr'.2.2]⟩;exact hr3.put d undef hdn
             have M:=mG (Q:=Q (⟨.fn (.func f) cap,#[]⟩::ds)) (ds:=⟨.fn (.func f) cap,#[]⟩::ds) _ _ _ w hr2
              (hrange ((List.range l2.length).map (l1.length+1+·)) fun i hi=>by rw [hsz,hlen];rw [Fq] at hi;obtain ⟨j,hj,rfl⟩:=hi;have:=Fx.1 hj;omega) (by rw [hgm,vJ _ hops];exact h')
             exact ko (fun e a w h=>⟨_,h⟩) _ _ _ M
           | _=>exact ⟨ds,ρ',hr',h'⟩
       · exact h.elim
     · exact hpl _ Q ds U a w hr h
 | _=>exact hpl _

def UI (P:Program)(rs:List ResultVar)(U:KD)(R:Ending→World→Prop):List Deferred→FrameMode→World→Prop
 | [], .returning,w=>Qw P w U rs [] fun v=>R (.returned v) w
 | [], .panicking chain,w=>R (.panicked chain) w
 | [], .run,_=>False
 | d ::ds,u,w=>u≠ .run∧∃f cap,d=⟨.fn (.func f) cap,#[]⟩∧SI P f=true∧CallsD P f cap u w fun
     | .returned _,u',B=>UI P rs U R ds (settle u') B
     | .panicked chain,u',B=>UI P rs U R ds (raised u' chain) B
     | .outgrown,_,B=>R .outgrown B
def UJ (P:Program)(rs:List ResultVar)(R:Ending→World→Prop)(ds:List Deferred):QT
 | .normal,U,w| .ret,U,w=>UI P rs U R ds .returning w
 | .panic chain,U,w=>UI P rs U R ds (.panicking chain) w
 | .outgrown,_,w=>R .outgrown w
 | _,_,_=>False

theorem m7 {P:Program}{fn:Func}{tmps:Array Value}{U:KD}{R:Ending→World→Prop}(ht:∀i,tmps.getD i undef=U i):∀(ds:List Deferred) (u:FrameMode) (w:World),
 UI P fn.results.toList U R ds u w→Leaves P fn tmps R ds u w
 | [], .returning,w,h=>by obtain ⟨v,I,M⟩:=jB ht h;exact ⟨v,I,M⟩
 | [], .panicking _,w,h=>h
 | [], .run,w,h=>h.elim
 | d ::ds,u,w,h=>by
   obtain ⟨hu,f,cap,rfl,hf,O⟩:=h;unfold SI at hf;rw [Ik] at hf;obtain ⟨fn',I,M⟩:=hf;rw [EW,Gc] at M;refine leaves_cons hu (f:=f) (args:=cap) ?_ ?_
   · simp only [invoke];rw [tN _ I M.1 M.2];simp
   · refine O.mono ?_
     intro e u' B h
     cases e with
     | returned v=>exact m7 ht ds _ _ h
     | panicked ch=>exact m7 ht ds _ _ h
     | outgrown=>exact h

theorem Qck {f:FuncId}{ld:LD}
 (hf:P.funcs[f]?=some fn)(hl:iV P fn=some ld)(hrs:fn.results.toList=rs)(hn:Nat.ble args.length fn.ntmps=true)
 (h:ld.wpD P (UJ P rs R) [] (Yb args) w):Calls P f ⟨args⟩ w R:=by
 unfold iV at hl
 cases hb:fn.body with
 | none=>simp [hb] at hl
 | some c=>
   simp only [hb,FJ,E3] at hl;subst hl hrs;refine calls_of_wp_defers hf hb ?_;have hn':args.length≤fn.ntmps:=FC hn;refine wp_mono (Qh9 c _ [] _ _ _ (pf ⟨args⟩ fn.ntmps hn' []) h) ?_;rintro e a w ⟨ds,U,hr,h⟩;have hd:=hr.2.2
   cases e with
   | normal=>exact Cv
   | ret=>exact Cv
   | panic ch=>exact (hd ▸ m7 hr.2.1 ds _ _ h:Leaves P fn a.tmps R a.defers (.panicking ch) w)
   | outgrown=>exact h
   | exit=>exact h
   | goto=>exact h


def M1:FrameMode→Value×FrameMode
 | .panicking ({v:=v,recovered:=false,goexit:=false}::older)=>(v, .panicking ({v:=v,recovered:=true}::older))
 | u=>(.nilIface,u)

def LD.wpR (P:Program):LD→(FrameMode→QT)→FrameMode→KD→World→Prop
 | .pl c,Q,u,U,w=>c.wp P (Q u) U w
 | .seq a b,Q,u,U,w=>a.wpR P (fun u'=>Qp (b.wpR P Q u') (Q u')) u U w
 | .sp l1 (.rcv d) l2,Q,u,U,w=>Q0 P l1 (Qp (fun U w=>Q0 P l2 (Q (M1 u).2) (KR U d (M1 u).1) w) (Q u)) U w
 | _,_,_,_,_=>False

def Sa (n:Nat)(c₀:Frame)(cs:List Frame)(Q:FrameMode→QT):Exit→Act→List Frame→World→Prop:=
 fun e a cs' w=>∃u,cs'={c₀ with mode:=u}::cs∧bd n [] (Q u) e a w

theorem QeC (c₀:Frame)(cs:List Frame)(u:FrameMode):(match recoverD ({c₀ with mode:=u}::cs) with
 | some (v,cs')=>(v,cs')
 | none=>(.nilIface,{c₀ with mode:=u}::cs))=((M1 u).1,{c₀ with mode:=(M1 u).2}::cs):=by
 unfold recoverD M1;dsimp only;split<;>rename_i h
 · split at h
   · rename_i hm;simp only [E3,GF] at h;obtain ⟨rfl,rfl⟩:=h;rfl
   · cases h
 · split at h
   · cases h
   · rename_i hm
     split
     · rename_i hm';exact absurd rfl (hm _ _)
     · rfl

theorem vL {n:Nat}{ops:Array Oper}{Q:QT}{QS:Exit→Act→List Frame→World→Prop}{cs:List Frame}{rest:List Nat}(hn:∀a w,bd n [] Q .normal a w→wpOpsS P ops QS rest a cs w)(hq:∀e a w,e≠ .normal→bd n [] Q e a w→QS e a cs w):∀(l:List Nat) (U:KD) (a:Act) (w:World),OA n U [] a→
 (∀i∈l,∃o,ops[i]?=some o∧PO n ops o=true)→
 Q0 P (l.filterMap fun i=>(ops[i]?).map (O7 P ops)) Q U w→wpOpsS P ops QS (l++rest) a cs w:=by
 intro l
 induction l with
 | nil=>intro U a w hr _ h;exact hn a w ⟨U,hr,h⟩
 | cons i l ih=>
   intro U a w hr hok h;obtain ⟨o,ho,hg⟩:=hok i Js;have hok':∀i∈l,∃o,ops[i]?=some o∧PO n ops o=true:=fun i hi=>hok i (by simp [hi]);simp only [Ht,ho,FJ] at h;have h':=tT hr hg _ Q w h;simp only [F7,wpOpsS,ho];split
   · rename_i hw
     rw [Qip hw] at h';have I:=tK (ds:=[]) hr (im hg) (tS h');have M:=qB (Q':=fun e a' B=>QS e a' cs B) (K':=fun a' B=>wpOpsS P ops QS (l++rest) a' cs B) (fun a w ⟨U,hr,h⟩=>ih U a w hr hok' h) (fun ch a w h=>hq _ a w Js h) (fun ⟨a,w,h⟩=>⟨a,w,hq _ a w Js h⟩) _ I;split
     · rename_i B hrun;rw [hrun] at M;exact M.elim
     · rename_i r hrun;exact M
   · rename_i hw;rw [Qin hw] at h';exact ih _ _ w (hr.put _ _ (im hg)) hok' h'

theorem Qh7 {n:Nat}{c₀:Frame}{cs:List Frame}:∀(c:Code) (Q:FrameMode→QT) (u:FrameMode) (U:KD) (a:Act) (w:World),OA n U [] a→(Pc P n c).wpR P Q u U w→c.wpS P (Sa n c₀ cs Q) a ({c₀ with mode:=u}::cs) w:=by
 have hpl:∀(c:Code) (Q:FrameMode→QT) (u:FrameMode) (U:KD) (a:Act) (w:World),OA n U [] a→(Rf P n c).wp P (Q u) U w→c.wpS P (Sa n c₀ cs Q) a ({c₀ with mode:=u}::cs) w:=fun c Q u U a w hr h=>
  wpS_of_wp (wp_mono (pe c _ U a w hr h) fun e a w h=>⟨u,rfl,h⟩)
 intro c
 induction c with
 | seq x y ihx ihy=>
   intro Q u U a w hr h;rw [Pc] at h;split at h
   · refine wpS_seq ?_
     intro b k hb hro;obtain ⟨e,a',cs',B,⟨u',rfl,ρ',hr',h'⟩,harr⟩:=ihx _ u U a w hr h b k hb hro;refine ⟨e,a',_,B,?_,harr⟩
     cases e with
     | normal=>exact ihy _ u' ρ' a' B hr' h'
     | _=>exact ⟨u',rfl,ρ',hr',h'⟩
   · exact hpl _ Q u U a w hr h
 | region id ops draw=>
   intro Q u U a w hr h
   cases draw with
   | true=>exact hpl _ Q u U a w hr h
   | false =>
     rw [Pc] at h;split at h
     · rename_i l1 o s l2 hs
       obtain ⟨hops,hsp⟩:=qA hs;split at h
       · rename_i hall
         (have hok:∀i o,ops[i]?=some o→PO n ops o=true:=fun i o hi=>FI.1 hall o Dx;have hsz:ops.size=ops.toList.length:=C3;have hgm:∀(l:List Nat),(l.filterMap fun i=>(ops[i]?).map (O7 P ops))=l.filterMap fun i=>(ops.toList[i]?).map (O7 P ops):=fun l=>by simp);have hlen:ops.toList.length=l1.length+1+l2.length:=(by rw [hops];simp;omega);have hrange:∀(l:List Nat),(∀i∈l,i<ops.size)→∀i∈l,∃o,ops[i]?=some o∧PO n ops o=true:=fun l hl i hi=>⟨ops[i]'(hl i hi),by simp [hl i hi],hok i _ (by simp [hl i hi])⟩;refine wpS_region ?_;rw [hsz,vI hops]
         cases s with
         | dfr d x=>exact h.elim
         | rcv d=>
           refine vL (Q:=Qp (fun U w=>Q0 P (l2.map (O7 P ops)) (Q (M1 u).2) (KR U d (M1 u).1) w) (Q u)) ?_ ?_ (List.range l1.length) U a w hr
            (hrange _ fun i hi=>by rw [hsz,hlen];have:=Fx.1 hi;omega) (by rw [hgm,vK _ hops];exact h)
           · rintro a w ⟨ρ',hr',h'⟩
             have hoi:ops[l1.length]?=some o:=by rw [←F5,hops];simp
             have hg:o.guard=none∧∃ts,∃xs:Array Operand,o.op= .call ⟨.builtin .recover,xs,ts⟩∧xs.size=0∧o.dst=d:=by
              unfold SV at hsp;split at hsp
              · split at hsp<;>cases hsp
              · rename_i xs' ts' hg ho
                split at hsp
                · rename_i hx0;simp only [E3,LSp.rcv.injEq] at hsp;exact ⟨hg,ts',xs',ho,hx0,hsp⟩
                · cases hsp
              · cases hsp
             obtain ⟨hgd,ts,xs,hop,hxs,hd⟩:=hg;have hxs':xs=#[]:=IA hxs;subst hxs';refine (?_:wpOpsS P ops _ (l1.length::_) a _ w);simp only [wpOpsS,hoi];rw [Qip (by simp [Region.wanted,hgd])]
             have e1:(execOp a.eval o).run P w= .ok .recover w:=by
              simp [execOp,hop,resolve,invoke,builtin]
             rw [e1];have hdn:=im (hok _ o hoi);rw [hd] at hdn;have hr2:OA n (KR ρ' d (M1 u).1) [] (a.put d (M1 u).1):=hr'.put d _ hdn;have hrec:=QeC c₀ cs u
             have key:wpOpsS P ops (Sa n c₀ cs Q) ((List.range l2.length).map (l1.length+1+·)) (a.put o.dst (M1 u).1) ({c₀ with mode:=(M1 u).2}::cs) w:=by
              rw [hd]
              have M:=vL (Q:=Q (M1 u).2) (QS:=Sa n c₀ cs Q) (cs:={c₀ with mode:=(M1 u).2}::cs) (rest:=[]) (fun a w h=>⟨_,rfl,h⟩) (fun e a w _ h=>⟨_,rfl,h⟩) ((List.range l2.length).map (l1.length+1+·)) _ _ w hr2
               (hrange _ fun i hi=>by rw [hsz,hlen];rw [Fq] at hi;obtain ⟨j,hj,rfl⟩:=hi;have:=Fx.1 hj;omega) (by rw [hgm,vJ _ hops];exact h')
              rwa [FX] at M
             dsimp only;split
             · rename_i v cs' hrd;rw [hrd] at hrec;simp only [GF] at hrec;rw [hrec.1,hrec.2];exact key
             · rename_i hrd;rw [hrd] at hrec;simp only [GF] at hrec;have e3:({c₀ with mode:=u}::cs:List Frame)={c₀ with mode:=(M1 u).2}::cs:=hrec.2;rw [hrec.1,e3];exact key
           · rintro e a w he ⟨ρ',hr',h'⟩;refine ⟨u,rfl,ρ',hr',?_⟩;cases e<;>first|exact h'|exact absurd rfl he
       · exact h.elim
     · exact hpl _ Q u U a w hr h
 | _=>exact hpl _

def dJ (P:Program)(rs:List ResultVar)(R:Ending→FrameMode→World→Prop)(u:FrameMode):QT
 | .normal,U,w| .ret,U,w=>Qw P w U rs [] fun v=>R (.returned v) u w
 | .panic chain,_,w=>R (.panicked chain) u w
 | .outgrown,_,w=>R .outgrown u w
 | _,_,_=>False

theorem Qaz {f:FuncId}{u:FrameMode}{R:Ending→FrameMode→World→Prop}{ld:LD}
 (hf:P.funcs[f]?=some fn)(hl:iV P fn=some ld)(hrs:fn.results.toList=rs)(hn:Nat.ble args.length fn.ntmps=true)
 (h:ld.wpR P (dJ P rs R) u (Yb args) w):CallsD P f ⟨args⟩ u w R:=by
 unfold iV at hl
 cases hb:fn.body with
 | none=>simp [hb] at hl
 | some c=>
   simp only [hb,FJ,E3] at hl;subst hl hrs;refine callsD_of_wpS hf hb ?_;intro c₀ cs hu;have hn':args.length≤fn.ntmps:=FC hn;have I:=Qh7 (c₀:=c₀) (cs:=cs) c _ u _ _ w (pf ⟨args⟩ fn.ntmps hn' []) h;have O:({c₀ with mode:=u}:Frame)=c₀:=(by subst hu;rfl);rw [O] at I;intro b k hb hro;obtain ⟨e,a,cs',B,⟨u',rfl,U,hr,M⟩,harr⟩:=I b k hb hro;refine ⟨e,a,_,B,?_,harr⟩
   cases e with
   | normal=>obtain ⟨v,h3,h4⟩:=jB hr.2.1 M;exact ⟨hr.2.2,u',rfl,v,h3,h4⟩
   | ret=>obtain ⟨v,h3,h4⟩:=jB hr.2.1 M;exact ⟨hr.2.2,u',rfl,v,h3,h4⟩
   | panic ch=>exact ⟨hr.2.2,u',rfl,M⟩
   | outgrown=>exact ⟨u',M⟩
   | exit=>exact M
   | goto=>exact M

section
variable {P:Program}{U:KD}{w:World}{u:FrameMode}{ds:List Deferred}
theorem Pd {c:LC}{h:c.wp P (Q ds) U w}:(LD.pl c).wpD P Q ds U w:=h
theorem YV {a b:LD}{h:a.wpD P (fun ds'=>Qp (b.wpD P Q ds') (Q ds')) ds U w}:(LD.seq a b).wpD P Q ds U w:=h
theorem dK {l1 l2:List GO}{d:Option Nat}{x:Operand}{h:Q0 P l1 (Qp (fun U w=>∃f cap,U.ev x= .func (.func f) #[] cap∧Q0 P l2 (Q (⟨.fn (.func f) cap,#[]⟩::ds)) (KR U d undef) w) (Q ds)) U w}:(LD.sp l1 (.dfr d x) l2).wpD P Q ds U w:=h
theorem RD {c:LC}{Q:FrameMode→QT}{h:c.wp P (Q u) U w}:(LD.pl c).wpR P Q u U w:=h
theorem dL {a b:LD}{Q:FrameMode→QT}{h:a.wpR P (fun u'=>Qp (b.wpR P Q u') (Q u')) u U w}:(LD.seq a b).wpR P Q u U w:=h
theorem RE {l1 l2:List GO}{d:Option Nat}{Q:FrameMode→QT}{h:Q0 P l1 (Qp (fun U w=>Q0 P l2 (Q (M1 u).2) (KR U d (M1 u).1) w) (Q u)) U w}:(LD.sp l1 (.rcv d) l2).wpR P Q u U w:=h
def Nb (P:Program)(f:FuncId)(args:List Value)(u:FrameMode)(w:World)(S:FrameMode→World→Prop):Prop:=
 CallsD P f ⟨args⟩ u w fun e u' B=>(∃v,e= .returned v)∧S u' B
theorem YW {f:FuncId}{S:FrameMode→World→Prop}(hu:u≠ .run)(hf:SI P f=true)(O:Nb P f cap u w S)
 (h:∀u' B,S u' B→UI P rs U R [] (settle u') B):UI P rs U R [⟨.fn (.func f) ⟨cap⟩,#[]⟩] u w:=by
 refine ⟨hu,f,⟨cap⟩,rfl,hf,O.mono ?_⟩;rintro e u' B ⟨⟨v,rfl⟩,hs⟩;exact h u' B hs
theorem UK {h:UI P rs U R ds .returning w}:UJ P rs R ds .ret U w:=h
theorem dM {h:UI P rs U R ds .returning w}:UJ P rs R ds .normal U w:=h
theorem nA {h:UI P rs U R ds (.panicking ch) w}:UJ P rs R ds (.panic ch) U w:=h
theorem YX {h:KN P rs R .ret U w}:UI P rs U R [] .returning w:=h
theorem dN {R:Ending→FrameMode→World→Prop}{h:KN P rs (fun e w=>R e u w) .normal U w}:dJ P rs R u .normal U w:=h
end
end
section
section
variable {P:Program}{l:List GO}{Q:QT}{U:KD}{w:World}{f:FuncId}{S T:Value→World→Prop}

theorem UL {d:Nat}(h0:U.ev x0=u0)(O:Kr P f [u0] w S T)(hp:∀v B,T v B→Q (.panic [{v:=v,recovered:=false}]) U B)(h:∀v B,S v B→Q0 P l Q (upd U d v) B):Q0 P (⟨none, .call (some d) f [x0]⟩::l) Q U w:=by
 subst h0;exact nq Jr O hp h
theorem UM {d:Nat}(h0:U.ev x0=u0)(I:U.ev x1=u1)(O:Kr P f [u0,u1] w S T)(hp:∀v B,T v B→Q (.panic [{v:=v,recovered:=false}]) U B)(h:∀v B,S v B→Q0 P l Q (upd U d v) B):Q0 P (⟨none, .call (some d) f [x0,x1]⟩::l) Q U w:=by
 subst h0 I;exact nq Jr O hp h
theorem UN {d:Nat}(h0:U.ev x0=u0)(I:U.ev x1=u1)(M:U.ev x2=u2)(O:Kr P f [u0,u1,u2] w S T)(hp:∀v B,T v B→Q (.panic [{v:=v,recovered:=false}]) U B)(h:∀v B,S v B→Q0 P l Q (upd U d v) B):Q0 P (⟨none, .call (some d) f [x0,x1,x2]⟩::l) Q U w:=by
 subst h0 I M;exact nq Jr O hp h
theorem UO {d:Nat}(h0:U.ev x0=u0)(I:U.ev x1=u1)(M:U.ev x2=u2)(h3:U.ev x3=u3)(O:Kr P f [u0,u1,u2,u3] w S T)(hp:∀v B,T v B→Q (.panic [{v:=v,recovered:=false}]) U B)(h:∀v B,S v B→Q0 P l Q (upd U d v) B):Q0 P (⟨none, .call (some d) f [x0,x1,x2,x3]⟩::l) Q U w:=by
 subst h0 I M h3;exact nq Jr O hp h
theorem vM {b o T:Nat}(hs:Tp P T=true)(hb:Ll w.heap b T' cs)(hv:cs[o]?=some v):Yc P w ⟨b,o,none⟩ T v:= .inl ⟨hs,hb.cell hv⟩
theorem Q8x (k:Nat){Ty:TypeId}(ht:P.underlying Ty=some (.interface ms)):(Op.equalIn (k+1) Ty .nilIface .nilIface).run P w0= .ok true w0:=by
 simp only [Op.equalIn,Fb,Qa P Ty _ w0 ht,EX];simp [Fp]
theorem vN {Ty:TypeId}(ht:P.underlying Ty=some (.interface ms)):(Op.equal Ty .nilIface .nilIface).run P w0= .ok true w0:=Q8x 9999 ht
theorem Q7t (k:Nat){Ty:TypeId}(ht:P.underlying Ty=some (.interface ms)):(Op.equalIn (k+1) Ty (.iface U0q v) .nilIface).run P w0= .ok false w0:=by
 simp only [Op.equalIn,Fb,Qa P Ty _ w0 ht,EX];simp [Fp]
theorem vO {Ty:TypeId}(ht:P.underlying Ty=some (.interface ms)):(Op.equal Ty (.iface U0q v) .nilIface).run P w0= .ok false w0:=Q7t 9999 ht
theorem vP {d:Nat}{Ty:TypeId}{x:Operand}(ht:P.underlying Ty=some (.interface ms))(hx:U.ev x= .nilIface)(h:Q0 P l Q (upd U d (.bool false)) w):Q0 P (⟨none, .bin d .neq Ty x (.const .nilIface)⟩::l) Q U w:=
 ⟨_,fun w0=>by rw [hx];simp [KD.ev,eqGuard,binOp,vN ht],h⟩
theorem vQ {d:Nat}{Ty:TypeId}{x:Operand}(ht:P.underlying Ty=some (.interface ms))(hx:U.ev x= .iface U0q v)(h:Q0 P l Q (upd U d (.bool true)) w):Q0 P (⟨none, .bin d .neq Ty x (.const .nilIface)⟩::l) Q U w:=
 ⟨_,fun w0=>by rw [hx];simp [KD.ev,eqGuard,binOp,vO ht],h⟩
theorem St.pick3 {c:Cx}{L L1 L2 L3:List Res}{r1 r2 r3:Res}(h:St c w L)(p1:Pick L r1 L1)(p2:Pick L1 r2 L2)(p3:Pick L2 r3 L3):St c w (r1::r2::r3::L3):=
 h.perm (p1.perm.trans (List.Perm.cons _ (p2.perm.trans (List.Perm.cons _ p3.perm))))
end
end
section
structure Bx (K:Prop):Prop where
 o:K
section
variable {K G:Prop}
theorem zn {k:K}(h:Bx K→G:=by
 intro K9;refine Lf ?_;(repeat (first|refine Q4 ?_|refine' mR));exact K9.o):G:=h ⟨k⟩
theorem vR {k:K}(h:Bx K→G:=by
 intro K9;refine' pE;(repeat (first|refine Q4 ?_|refine' mR));exact K9.o):G:=h ⟨k⟩
theorem Ko {k:K}(h:Bx K→G:=by
 intro K9;refine' N7;(repeat (first|refine Q4 ?_|refine' mR));exact K9.o):G:=h ⟨k⟩
theorem LV {k:K}(h:Bx K→G:=by
 intro K9;refine' jG;(repeat (first|refine' uh|refine' ui|refine Yf rfl ?_|refine Q4 ?_|refine' mR));exact K9.o):G:=h ⟨k⟩
theorem zr {k:K}(h:Bx K→G:=by
 intro K9;refine' NB;(repeat (first|refine' NC|refine' cY));exact K9.o):G:=h ⟨k⟩
theorem zy {A:Prop}{k:G}(h:A:=by
 repeat (first
  | exact fun _ h=>(ET h).elim
  | refine EN.2 ⟨by first|exact QJ Z rfl (Fj (by repeat constructor)) rfl|exact pW Z rfl (Fj (by repeat constructor)) rfl rfl|exact uP Z Ja rfl rfl|exact qg Z Ja rfl rfl rfl|exact m8 Z Ja rfl rfl|exact pX Z Ja rfl rfl rfl|exact Yw rfl rfl|exact iB rfl (QJ Z rfl (Fj (by repeat constructor)) rfl)|exact iB rfl (pW Z rfl (Fj (by repeat constructor)) rfl rfl)|exact iB rfl (uP Z Ja rfl rfl)|exact iB rfl (qg Z Ja rfl rfl rfl)|exact iB rfl (m8 Z Ja rfl rfl)|exact iB rfl (pX Z Ja rfl rfl rfl),?_⟩)):A∧G:=⟨h,k⟩
end
section
variable {P:Program}{l:List GO}{Q:QT}{U:KD}{w:World}{c:Cx}{L:List Res}{i:Nat}{T es:Nat}{v:Value}{css:List (List Value)}
theorem zt {K:KT}{h:K U w}:Q0 P [] (Qp K Q) U w:=Lf (Q4 h)
theorem St.ns {L':List Res}(h:St c w L)(e:L=L':=by (conv=>lhs;simp only [EV,E1]);first|done|exact rfl):St c w L':=e ▸ h
theorem Kj {s:Nat}{b:Bool}{o:LO}{v:Value}{h:Q0 P l Q (KR U o.dst undef) w}(hg:U s=v:=by exact rfl)(hw:XC v b=false:=by exact rfl):Q0 P (⟨some (s,b),o⟩::l) Q U w:=pr hg hw h
theorem Kg {s:Nat}{b:Bool}{o:LO}{h:Q0 P (⟨none,o⟩::l) Q U w}(hg:U s= .bool b:=by exact rfl):Q0 P (⟨some (s,b),o⟩::l) Q U w:=pq hg h
theorem Kf {c:Operand}{a b:LC}{h:a.wp P Q U w}(O:U.ev c= .bool true:=by exact rfl):(LC.cond c a b).wp P Q U w:=T3 O h
theorem Kd {c:Operand}{a b:LC}{h:b.wp P Q U w}(O:U.ev c= .bool false:=by exact rfl):(LC.cond c a b).wp P Q U w:=T4 O h
theorem MT {d:Nat}{x:Operand}{b:Nat}{h:Q0 P l Q (upd U d (.pointer (some ⟨b,off,none⟩))) w}(hx:U.ev x= .pointer (some ⟨b,0,none⟩):=by exact rfl):Q0 P (⟨none, .fld d x off⟩::l) Q U w:=dh hx h
theorem NN {d:Nat}{x:Operand}{b o:Nat}{h:Q0 P l Q (upd U d (.pointer (some ⟨b,o+off,none⟩))) w}(hx:U.ev x= .pointer (some ⟨b,o,none⟩):=by exact rfl):Q0 P (⟨none, .fld d x off⟩::l) Q U w:=bl hx h
theorem RF {d:Nat}{x:Operand}{a:Addr}{h:Q0 P l Q (upd U d (.pointer (some a))) w}(hx:U.ev x= .pointer (some a):=by exact rfl):Q0 P (⟨none, .nilc d x⟩::l) Q U w:=cZ hx h
theorem ND {d:Nat}{x:Operand}{b:Bool}{h:Q0 P l Q (upd U d (.bool (!b))) w}(hx:U.ev x= .bool b:=by exact rfl):Q0 P (⟨none, .un d .not x⟩::l) Q U w:=jJ hx h
theorem nB {d:Nat}{x:Operand}{i:Nat}{vs:List Value}{v:Value}{h:Q0 P l Q (upd U d v) w}(hx:U.ev x= .tuple ⟨vs⟩:=by exact rfl)(hv:vs[i]?=some v:=by exact rfl):Q0 P (⟨none, .ext d x i⟩::l) Q U w:=jL hx hv h
theorem zm {d:Nat}{x:Operand}{v:Value}{h:Q0 P l Q (upd U d v) w}(hx:U.ev x=v:=by (conv=>lhs;whnf);first|done|exact rfl):Q0 P (⟨none, .mov d x⟩::l) Q U w:=jI hx h
theorem OZ {d:Nat}{c x y:Operand}{v:Value}{h:Q0 P l Q (upd U d v) w}(O:U.ev c= .bool true:=by exact rfl)(hx:U.ev x=v:=by (conv=>lhs;whnf);first|done|exact rfl):Q0 P (⟨none, .pick d c x y⟩::l) Q U w:=Tq O hx h
theorem Ni {d:Nat}{c x y:Operand}{v:Value}{h:Q0 P l Q (upd U d v) w}(O:U.ev c= .bool false:=by exact rfl)(hx:U.ev y=v:=by (conv=>lhs;whnf);first|done|exact rfl):Q0 P (⟨none, .pick d c x y⟩::l) Q U w:=PT O hx h
theorem nC {d:Nat}{T:TypeId}{x:Operand}{v:Value}{h:Q0 P l Q (upd U d (.iface T v)) w}(hx:U.ev x=v:=by (conv=>lhs;whnf);first|done|exact rfl):Q0 P (⟨none, .mki d T x⟩::l) Q U w:=jP hx h
theorem zl {d:Nat}{x:Operand}{b o:Nat}{u:Value}(Z:St c w L)(h:Q0 P l Q (upd U d u) w)(hx:U.ev x= .pointer (some ⟨b,o,none⟩):=by exact rfl)(hi:nth L i=some (blk b T cs):=by exact Fj (by repeat constructor))(hu:cs[o]?=some u:=by exact rfl):Q0 P (⟨none, .load1 d x⟩::l) Q U w:=Pz Z hx hi hu h
theorem MG {d:Nat}{x:Operand}{b o:Nat}{u:Value}(Z:St c w L)(h:Q0 P l Q (upd U d u) w)(ha:OV c b o cs:=by assumption)(hx:U.ev x= .pointer (some ⟨b,o,none⟩):=by exact rfl)(hu:cs[0]?=some u:=by exact rfl):Q0 P (⟨none, .load1 d x⟩::l) Q U w:=Yz Z ha hx hu h
theorem YY {d:Nat}{x:Operand}{b o:Nat}{u:Value}(Z:St c w L)(h:Q0 P l Q (upd U d u) w)(ha:OV c b o cs:=by assumption)(hx:U.ev x= .pointer (some ⟨b,o+j,none⟩):=by exact rfl)(hu:cs[j]?=some u:=by exact rfl):Q0 P (⟨none, .load1 d x⟩::l) Q U w:=Ul Z ha hx hu h
theorem zv {d n:Nat}{x:Operand}{b o:Nat}(Z:St c w L)(h:Q0 P l Q (upd U d (.agg ⟨us⟩)) w)(hx:U.ev x= .pointer (some ⟨b,o,none⟩):=by exact rfl)(hi:nth L i=some (blk b T cs):=by exact Fj (by repeat constructor))(hu:(cs.drop o).take n=us:=by exact rfl)(hl:us.length=n:=by exact rfl):Q0 P (⟨none, .loadn d n x⟩::l) Q U w:=pS Z hx hi hu hl h
theorem N8 {d n:Nat}{x:Operand}{b o:Nat}(Z:St c w L)(h:Q0 P l Q (upd U d (.agg ⟨cs⟩)) w)(ha:OV c b o cs:=by assumption)(hx:U.ev x= .pointer (some ⟨b,o,none⟩):=by exact rfl)(hl:cs.length=n:=by exact rfl):Q0 P (⟨none, .loadn d n x⟩::l) Q U w:=Um Z ha hx hl h
theorem kq {d n:Nat}{x:Operand}{b o:Nat}(Z:St c w L)(h:Q0 P l Q (upd U d (.bool (xs.getD m false))) w)(he:NJ v n 1 m b o:=by assumption)(hx:U.ev x= .pointer (some ⟨b,o,none⟩):=by exact rfl)(hi:nth L i=some (sl T 1 v (xs.map QH)):=by exact Fj (by repeat constructor))(hn:(xs.map QH).length=n:=by exact rfl)(hm:m<xs.length:=by first|omega|(simp;omega)):Q0 P (⟨none, .load1 d x⟩::l) Q U w:=Un Z he hx hi hn hm h
theorem PZ {d n:Nat}{x:Operand}(Z:St c w L)(h:Q0 P l Q (upd U d (.int .i64 n)) w)(hx:U.ev x=v:=by (conv=>lhs;whnf);first|done|exact rfl)(hi:nth L i=some (sl T es v css):=by exact Fj (by repeat constructor))(hn:css.length=n:=by first|exact EM _|rfl):Q0 P (⟨none, .len d x⟩::l) Q U w:=Qt Z hx hi hn h
theorem MJ {d:Nat}{T:TypeId}{x y:Operand}{b:Int}{h:Q0 P l Q (upd U d (.int .i64 (a+b))) w}(hx:U.ev x= .int .i64 a:=by exact rfl)(hy:U.ev y= .int .i64 b:=by exact rfl)(I: -9223372036854775808≤a+b:=by omega)(M:a+b≤9223372036854775807:=by omega):Q0 P (⟨none, .bin d .add T x y⟩::l) Q U w:=jR hx hy I M h
theorem NY {d:Nat}{T:TypeId}{x y:Operand}{b:Int}{h:Q0 P l Q (upd U d (.int .i64 (a - b))) w}(hx:U.ev x= .int .i64 a:=by exact rfl)(hy:U.ev y= .int .i64 b:=by exact rfl)(I: -9223372036854775808≤a - b:=by omega)(M:a - b≤9223372036854775807:=by omega):Q0 P (⟨none, .bin d .sub T x y⟩::l) Q U w:=de hx hy I M h
theorem Pe {d:Nat}{T:TypeId}{x y:Operand}{b:Int}{h:Q0 P l Q (upd U d (.int .i64 (a*b))) w}(hx:U.ev x= .int .i64 a:=by exact rfl)(hy:U.ev y= .int .i64 b:=by exact rfl)(I: -9223372036854775808≤a*b:=by omega)(M:a*b≤9223372036854775807:=by omega):Q0 P (⟨none, .bin d .mul T x y⟩::l) Q U w:=jS hx hy I M h
theorem iW {d:Nat}{T:TypeId}{x y:Operand}{k:IntKind}{b:Int}{h:Q0 P l Q (upd U d (.bool true)) w}(hx:U.ev x= .int k a:=by exact rfl)(hy:U.ev y= .int k b:=by exact rfl)(hp:a<b:=by omega):Q0 P (⟨none, .bin d .lss T x y⟩::l) Q U w:=Yl hx hy hp h
theorem Ri {d:Nat}{T:TypeId}{x y:Operand}{k:IntKind}{b:Int}{h:Q0 P l Q (upd U d (.bool false)) w}(hx:U.ev x= .int k a:=by exact rfl)(hy:U.ev y= .int k b:=by exact rfl)(hp:¬(a<b):=by omega):Q0 P (⟨none, .bin d .lss T x y⟩::l) Q U w:=Ym hx hy hp h
theorem SW {d:Nat}{T:TypeId}{x y:Operand}{k:IntKind}{b:Int}{h:Q0 P l Q (upd U d (.bool true)) w}(hx:U.ev x= .int k a:=by exact rfl)(hy:U.ev y= .int k b:=by exact rfl)(hp:a=b:=by omega):Q0 P (⟨none, .bin d .eql T x y⟩::l) Q U w:=pz hx hy hp h
theorem PE {d:Nat}{T:TypeId}{x y:Operand}{k:IntKind}{b:Int}{h:Q0 P l Q (upd U d (.bool false)) w}(hx:U.ev x= .int k a:=by exact rfl)(hy:U.ev y= .int k b:=by exact rfl)(hp:¬(a=b):=by omega):Q0 P (⟨none, .bin d .eql T x y⟩::l) Q U w:=pA hx hy hp h
theorem Sb {d:Nat}{T:TypeId}{x y:Operand}{k:IntKind}{b:Int}{h:Q0 P l Q (upd U d (.bool true)) w}(hx:U.ev x= .int k a:=by exact rfl)(hy:U.ev y= .int k b:=by exact rfl)(hp:a≠b:=by omega):Q0 P (⟨none, .bin d .neq T x y⟩::l) Q U w:=Yi hx hy hp h
theorem TA {d:Nat}{T:TypeId}{x y:Operand}{k:IntKind}{b:Int}{h:Q0 P l Q (upd U d (.bool false)) w}(hx:U.ev x= .int k a:=by exact rfl)(hy:U.ev y= .int k b:=by exact rfl)(hp:¬(a≠b):=by omega):Q0 P (⟨none, .bin d .neq T x y⟩::l) Q U w:=Yj hx hy hp h
theorem bI {d:Nat}{T:TypeId}{x y:Operand}{k:IntKind}{b:Int}{h:Q0 P l Q (upd U d (.bool true)) w}(hx:U.ev x= .int k a:=by exact rfl)(hy:U.ev y= .int k b:=by exact rfl)(hp:b<a:=by omega):Q0 P (⟨none, .bin d .gtr T x y⟩::l) Q U w:=Yo hx hy hp h
theorem dO {d:Nat}{T:TypeId}{x y:Operand}{k:IntKind}{b:Int}{h:Q0 P l Q (upd U d (.bool false)) w}(hx:U.ev x= .int k a:=by exact rfl)(hy:U.ev y= .int k b:=by exact rfl)(hp:¬(b<a):=by omega):Q0 P (⟨none, .bin d .gtr T x y⟩::l) Q U w:=Yp hx hy hp h
theorem YZ {d:Nat}{T:TypeId}{x y:Operand}{k:IntKind}{b:Int}{h:Q0 P l Q (upd U d (.bool true)) w}(hx:U.ev x= .int k a:=by exact rfl)(hy:U.ev y= .int k b:=by exact rfl)(hp:b≤a:=by omega):Q0 P (⟨none, .bin d .geq T x y⟩::l) Q U w:=Yq hx hy hp h
theorem iX {d:Nat}{T:TypeId}{x y:Operand}{k:IntKind}{b:Int}{h:Q0 P l Q (upd U d (.bool false)) w}(hx:U.ev x= .int k a:=by exact rfl)(hy:U.ev y= .int k b:=by exact rfl)(hp:¬(b≤a):=by omega):Q0 P (⟨none, .bin d .geq T x y⟩::l) Q U w:=Yr hx hy hp h
theorem Lv {x y:Operand}{b o:Nat}{u:Value}(Z:St c w L)(h:∀B,St c B (L.set i (blk b T (cs.set o u)))→Q0 P l Q U B)(hx:U.ev x= .pointer (some ⟨b,o,none⟩):=by exact rfl)(hy:U.ev y=u:=by (conv=>lhs;whnf);first|done|exact rfl)(hi:nth L i=some (blk b T cs):=by exact Fj (by repeat constructor))(ho:o<cs.length:=by simp)(I:oneC u=true:=by first|rfl|assumption|exact Z.oneC (Fj (by repeat constructor))|exact JD (by assumption)):Q0 P (⟨none, .store1 x y⟩::l) Q U w:=uI Z hx hy hi ho I h
theorem vS {n:Nat}{x y:Operand}{b o:Nat}{u:Bool}(Z:St c w L)(h:∀B,St c B (L.set i (sl T 1 v ((xs.set m u).map QH)))→Q0 P l Q U B)(he:NJ v n 1 m b o:=by assumption)(hx:U.ev x= .pointer (some ⟨b,o,none⟩):=by exact rfl)(hy:U.ev y= .bool u:=by (conv=>lhs;whnf);first|done|exact rfl)(hi:nth L i=some (sl T 1 v (xs.map QH)):=by exact Fj (by repeat constructor))(hn:(xs.map QH).length=n:=by exact rfl)(hm:m<xs.length:=by first|omega|(simp;omega)):Q0 P (⟨none, .store1 x y⟩::l) Q U w:=Qig Z he hx hy hi hn hm h
theorem zb {d:Nat}{x:Operand}{cs:List Value}(Z:St c w L)(h:∀b B,St c B (blk b T cs::L)→Q0 P l Q (upd U d (.pointer (some ⟨b,0,none⟩))) B)(hx:U.ev x=v:=by (conv=>lhs;whnf);first|done|exact rfl)(O:v.cells=⟨cs⟩:=by rfl):Q0 P (⟨none, .box d T x⟩::l) Q U w:=Ma Z hx O h
theorem SX {d m:Nat}{x y:Operand}{k:IntKind}(Z:St c w L)(h:∀b o,NJ v css.length es m b o→Q0 P l Q (upd U d (.pointer (some ⟨b,o,none⟩))) w)(hx:U.ev x=v:=by (conv=>lhs;whnf);first|done|exact rfl)(hy:U.ev y= .int k (m:Int):=by exact rfl)(hi:nth L i=some (sl T es v css):=by exact Fj (by repeat constructor))(hm:m<css.length:=by first|omega|(simp;omega)):Q0 P (⟨none, .idx d es x y⟩::l) Q U w:=OW Z hx hy hi hm h
theorem Y0 {d:Nat}{x y:Operand}{k:IntKind}{n:Int}(Z:St c w L)(h:∀b o,NJ v css.length es n.toNat b o→Q0 P l Q (upd U d (.pointer (some ⟨b,o,none⟩))) w)(hx:U.ev x=v:=by (conv=>lhs;whnf);first|done|exact rfl)(hy:U.ev y= .int k n:=by exact rfl)(hi:nth L i=some (sl T es v css):=by exact Fj (by repeat constructor))(h0:0≤n:=by first|omega|(simp;omega))(hm:n<css.length:=by first|omega|(simp;omega)):Q0 P (⟨none, .idx d es x y⟩::l) Q U w:=QA Z hx hy hi h0 hm h
theorem Kp {n i b T:Nat}{x y:Operand}(Z:St c w L)(h:∀B,St c B (L.set i (blk b T us))→Q0 P l Q U B)(hx:U.ev x= .pointer (some ⟨b,0,none⟩):=by exact rfl)(hy:U.ev y= .agg ⟨us⟩:=by exact rfl)(hn:us.length=n:=by rfl)(hi:nth L i=some (blk b T cs):=by exact Fj (by repeat constructor))(O:cs.length=n:=by rfl)(I:∀u∈us,oneC u=true:=by first|(simp [oneC];done)|assumption|exact Rep.one _ (by assumption)|(simp only [Hu,IQ,FG,E4,ET,or_false,forall_eq_or_imp,forall_eq];((try refine And.intro ?_ ?_)<;>try refine And.intro ?_ ?_)<;>first|rfl|assumption)):Q0 P (⟨none, .storen n x y⟩::l) Q U w:=Qif Z hx hy hn hi O I h
theorem iY {n:Nat}{x y:Operand}{b o:Nat}(Z:St c w L)(h:∀B,St c B (L.set i (blk b T cs'))→Q0 P l Q U B)(hx:U.ev x= .pointer (some ⟨b,o,none⟩):=by exact rfl)(hy:U.ev y= .agg ⟨us⟩:=by exact rfl)(hn:us.length=n:=by rfl)(hi:nth L i=some (blk b T cs):=by exact Fj (by repeat constructor))(ho:o+n≤cs.length:=by simp)(I:∀u∈us,oneC u=true:=by first|(simp [oneC];done)|assumption|exact Rep.one _ (by assumption)|(simp only [Hu,IQ,FG,E4,ET,or_false,forall_eq_or_imp,forall_eq];((try refine And.intro ?_ ?_)<;>try refine And.intro ?_ ?_)<;>first|rfl|assumption))(O:cs.take o++(us++cs.drop (o+n))=cs':=by (conv=>lhs;simp only [Hu,IQ,JU,FG,F7,HX]);first|done|exact rfl):Q0 P (⟨none, .storen n x y⟩::l) Q U w:=On Z hx hy hn hi ho I O h
theorem zf {t:Nat}{v:Value}{h:R (.returned v) w}(hv:U t=v:=by (conv=>lhs;whnf);first|done|exact rfl):KN P [.tmp t] R .ret U w:=cW hv h
theorem XM {t u:Nat}{v:Value}{h:R (.returned (.tuple #[v,v'])) w}(hv:U t=v:=by (conv=>lhs;whnf);first|done|exact rfl)(hv':U u=v':=by (conv=>lhs;whnf);first|done|exact rfl):KN P [.tmp t, .tmp u] R .ret U w:=cX hv hv' h
theorem Ly {d:Nat}{z:List Value}(cs:List Value)(h:Q0 P l Q (upd U d (.agg ⟨cs⟩)) w)(hf:NA z []=some cs:=by rfl):Q0 P (⟨none, .build d z []⟩::l) Q U w:=mZ hf h
theorem OF {d:Nat}{z:List Value}(cs:List Value)(h:Q0 P l Q (upd U d (.agg ⟨cs⟩)) w)(h0:U.ev x0=v0:=by (conv=>lhs;whnf);first|done|exact rfl)(hf:NA z [(o0,n0,v0)]=some cs:=by rfl):Q0 P (⟨none, .build d z [(o0,n0,x0)]⟩::l) Q U w:=pO h0 hf h
theorem KO {d:Nat}{T:TypeId}{n:Nat}{z:List Value}(Z:St c w L)(cs:List Value)(h:∀b B,St c B (blk b T cs::L)→Q0 P l Q (upd U d (.slice (some ⟨b,0,none⟩) n n)) B)(h0:U.ev x0=v0:=by (conv=>lhs;whnf);first|done|exact rfl)(hf:NA z [(o0,n0,v0)]=some cs:=by rfl):Q0 P (⟨none, .buildS d T n z [(o0,n0,x0)]⟩::l) Q U w:=Rw h0 hf fun b B hb hf1 _ hk=>h b B (Z.laid hb hf1 hk)
theorem M8 {d:Nat}{z:List Value}(cs:List Value)(h:Q0 P l Q (upd U d (.agg ⟨cs⟩)) w)(h0:U.ev x0=v0:=by (conv=>lhs;whnf);first|done|exact rfl)(I:U.ev x1=v1:=by (conv=>lhs;whnf);first|done|exact rfl)(hf:NA z [(o0,n0,v0),(o1,n1,v1)]=some cs:=by rfl):Q0 P (⟨none, .build d z [(o0,n0,x0),(o1,n1,x1)]⟩::l) Q U w:=j5 h0 I hf h
theorem vT {d:Nat}{T:TypeId}{n:Nat}{z:List Value}(Z:St c w L)(cs:List Value)(h:∀b B,St c B (blk b T cs::L)→Q0 P l Q (upd U d (.slice (some ⟨b,0,none⟩) n n)) B)(h0:U.ev x0=v0:=by (conv=>lhs;whnf);first|done|exact rfl)(I:U.ev x1=v1:=by (conv=>lhs;whnf);first|done|exact rfl)(hf:NA z [(o0,n0,v0),(o1,n1,v1)]=some cs:=by rfl):Q0 P (⟨none, .buildS d T n z [(o0,n0,x0),(o1,n1,x1)]⟩::l) Q U w:=m6 h0 I hf fun b B hb hf1 _ hk=>h b B (Z.laid hb hf1 hk)
theorem PF {d:Nat}{z:List Value}(cs:List Value)(h:Q0 P l Q (upd U d (.agg ⟨cs⟩)) w)(h0:U.ev x0=v0:=by (conv=>lhs;whnf);first|done|exact rfl)(I:U.ev x1=v1:=by (conv=>lhs;whnf);first|done|exact rfl)(M:U.ev x2=v2:=by (conv=>lhs;whnf);first|done|exact rfl)(hf:NA z [(o0,n0,v0),(o1,n1,v1),(o2,n2,v2)]=some cs:=by rfl):Q0 P (⟨none, .build d z [(o0,n0,x0),(o1,n1,x1),(o2,n2,x2)]⟩::l) Q U w:=Uh h0 I M hf h
theorem vU {d:Nat}{z:List Value}(cs:List Value)(h:Q0 P l Q (upd U d (.agg ⟨cs⟩)) w)(h0:U.ev x0=v0:=by (conv=>lhs;whnf);first|done|exact rfl)(I:U.ev x1=v1:=by (conv=>lhs;whnf);first|done|exact rfl)(M:U.ev x2=v2:=by (conv=>lhs;whnf);first|done|exact rfl)(h3:U.ev x3=v3:=by (conv=>lhs;whnf);first|done|exact rfl)(hf:NA z [(o0,n0,v0),(o1,n1,v1),(o2,n2,v2),(o3,n3,v3)]=some cs:=by rfl):Q0 P (⟨none, .build d z [(o0,n0,x0),(o1,n1,x1),(o2,n2,x2),(o3,n3,x3)]⟩::l) Q U w:=Ui h0 I M h3 hf h
theorem iZ {d:Nat}{z:List Value}{o4 n4:Nat}(cs:List Value)(h:Q0 P l Q (upd U d (.agg ⟨cs⟩)) w)(h0:U.ev x0=v0:=by (conv=>lhs;whnf);first|done|exact rfl)(I:U.ev x1=v1:=by (conv=>lhs;whnf);first|done|exact rfl)(M:U.ev x2=v2:=by (conv=>lhs;whnf);first|done|exact rfl)(h3:U.ev x3=v3:=by (conv=>lhs;whnf);first|done|exact rfl)(h4:U.ev x4=v4:=by (conv=>lhs;whnf);first|done|exact rfl)(hf:NA z [(o0,n0,v0),(o1,n1,v1),(o2,n2,v2),(o3,n3,v3),(o4,n4,v4)]=some cs:=by rfl):Q0 P (⟨none, .build d z [(o0,n0,x0),(o1,n1,x1),(o2,n2,x2),(o3,n3,x3),(o4,n4,x4)]⟩::l) Q U w:=Uj h0 I M h3 h4 hf h
theorem zD {es:List (List Nat)}(C:List CI)(h:Q0 P (C.map fun c=>K4 gs c.1) Q U w.drew)(hok:cT gs es C=true:=by kernel_rfl)(hpl:(C.all fun c=>match c.2 with|some (some _)=>false|_=>true)=true:=by kernel_rfl):(LC.draw gs es).wp P Q U w:=pC C hok hpl h
theorem zC {es:List (List Nat)}(C:List CI)(h:OU P gs C Q U w.drew)(hok:cT gs es C=true:=by kernel_rfl):(LC.draw gs es).wp P Q U w:=pD C hok h
theorem qC {d:Nat}{f:FuncId}(c:Ka P f [] w S){h:∀v B,S v B→Q0 P l Q (upd U d v) B}:Q0 P (⟨none, .call (some d) f []⟩::l) Q U w:=Uo c h
theorem Kw {d:Nat}{f:FuncId}(h0:U.ev x0=u0:=by (conv=>lhs;whnf);first|done|exact rfl)(c:Ka P f [u0] w S){h:∀v B,S v B→Q0 P l Q (upd U d v) B}:Q0 P (⟨none, .call (some d) f [x0]⟩::l) Q U w:=pY h0 c h
theorem Pf {d:Nat}{f:FuncId}{T:Value→World→Prop}(h0:U.ev x0=u0:=by (conv=>lhs;whnf);first|done|exact rfl)(c:Kr P f [u0] w S T)(p:∀v B,T v B→Q (.panic [{v:=v,recovered:=false}]) U B)(h:∀v B,S v B→Q0 P l Q (upd U d v) B):Q0 P (⟨none, .call (some d) f [x0]⟩::l) Q U w:=UL h0 c p h
theorem Kk {d:Nat}{f:FuncId}(h0:U.ev x0=u0:=by (conv=>lhs;whnf);first|done|exact rfl)(I:U.ev x1=u1:=by (conv=>lhs;whnf);first|done|exact rfl)(c:Ka P f [u0,u1] w S){h:∀v B,S v B→Q0 P l Q (upd U d v) B}:Q0 P (⟨none, .call (some d) f [x0,x1]⟩::l) Q U w:=dp h0 I c h
theorem KF {d:Nat}{f:FuncId}{T:Value→World→Prop}(h0:U.ev x0=u0:=by (conv=>lhs;whnf);first|done|exact rfl)(I:U.ev x1=u1:=by (conv=>lhs;whnf);first|done|exact rfl)(c:Kr P f [u0,u1] w S T)(p:∀v B,T v B→Q (.panic [{v:=v,recovered:=false}]) U B){h:∀v B,S v B→Q0 P l Q (upd U d v) B}:Q0 P (⟨none, .call (some d) f [x0,x1]⟩::l) Q U w:=UM h0 I c p h
theorem KZ {d:Nat}{f:FuncId}(h0:U.ev x0=u0:=by (conv=>lhs;whnf);first|done|exact rfl)(I:U.ev x1=u1:=by (conv=>lhs;whnf);first|done|exact rfl)(M:U.ev x2=u2:=by (conv=>lhs;whnf);first|done|exact rfl)(c:Ka P f [u0,u1,u2] w S){h:∀v B,S v B→Q0 P l Q (upd U d v) B}:Q0 P (⟨none, .call (some d) f [x0,x1,x2]⟩::l) Q U w:=Up h0 I M c h
theorem MK {d:Nat}{f:FuncId}{T:Value→World→Prop}(h0:U.ev x0=u0:=by (conv=>lhs;whnf);first|done|exact rfl)(I:U.ev x1=u1:=by (conv=>lhs;whnf);first|done|exact rfl)(M:U.ev x2=u2:=by (conv=>lhs;whnf);first|done|exact rfl)(c:Kr P f [u0,u1,u2] w S T)(p:∀v B,T v B→Q (.panic [{v:=v,recovered:=false}]) U B){h:∀v B,S v B→Q0 P l Q (upd U d v) B}:Q0 P (⟨none, .call (some d) f [x0,x1,x2]⟩::l) Q U w:=UN h0 I M c p h
theorem M3 {d:Nat}{f:FuncId}(h0:U.ev x0=u0:=by (conv=>lhs;whnf);first|done|exact rfl)(I:U.ev x1=u1:=by (conv=>lhs;whnf);first|done|exact rfl)(M:U.ev x2=u2:=by (conv=>lhs;whnf);first|done|exact rfl)(h3:U.ev x3=u3:=by (conv=>lhs;whnf);first|done|exact rfl)(c:Ka P f [u0,u1,u2,u3] w S){h:∀v B,S v B→Q0 P l Q (upd U d v) B}:Q0 P (⟨none, .call (some d) f [x0,x1,x2,x3]⟩::l) Q U w:=Uq h0 I M h3 c h
theorem qD {d:Nat}{f:FuncId}{T:Value→World→Prop}(h0:U.ev x0=u0:=by (conv=>lhs;whnf);first|done|exact rfl)(I:U.ev x1=u1:=by (conv=>lhs;whnf);first|done|exact rfl)(M:U.ev x2=u2:=by (conv=>lhs;whnf);first|done|exact rfl)(h3:U.ev x3=u3:=by (conv=>lhs;whnf);first|done|exact rfl)(c:Kr P f [u0,u1,u2,u3] w S T)(p:∀v B,T v B→Q (.panic [{v:=v,recovered:=false}]) U B){h:∀v B,S v B→Q0 P l Q (upd U d v) B}:Q0 P (⟨none, .call (some d) f [x0,x1,x2,x3]⟩::l) Q U w:=UO h0 I M h3 c p h
variable {α:Type}{r:Rep α}{xs:List α}
theorem zL {d:Nat}{x:Operand}{h:Q0 P l Q (upd U d (.int .i64 xs.length)) w}(hx:U.ev x=v:=by (conv=>lhs;whnf);first|done|exact rfl)(hK:r.sl c v xs:=by assumption):Q0 P (⟨none, .len d x⟩::l) Q U w:=iG hx hK h
theorem zi {d m:Nat}{x y:Operand}{k:IntKind}{h:∀b o cs a,OV c b o cs→xs[m]?=some a→r.at c cs a→Q0 P l Q (upd U d (.pointer (some ⟨b,o,none⟩))) w}(hx:U.ev x=v:=by (conv=>lhs;whnf);first|done|exact rfl)(hy:U.ev y= .int k (m:Int):=by exact rfl)(hK:r.sl c v xs:=by assumption)(hes:r.es=es:=by exact rfl)(hn:m<xs.length:=by first|omega|(simp;omega)):Q0 P (⟨none, .idx d es x y⟩::l) Q U w:=Tx hx hy hK hes hn h
theorem zj {d:Nat}{x y:Operand}{k:IntKind}{n:Int}{h:∀b o cs a,OV c b o cs→xs[n.toNat]?=some a→r.at c cs a→Q0 P l Q (upd U d (.pointer (some ⟨b,o,none⟩))) w}(hx:U.ev x=v:=by (conv=>lhs;whnf);first|done|exact rfl)(hy:U.ev y= .int k n:=by exact rfl)(hK:r.sl c v xs:=by assumption)(hes:r.es=es:=by exact rfl)(h0:0≤n:=by first|omega|(simp;omega))(hn:n<xs.length:=by first|omega|(simp;omega)):Q0 P (⟨none, .idx d es x y⟩::l) Q U w:=iF hx hy hK hes h0 hn h
theorem za {T T' d Ty i k b:Nat}{z : List Value}{x y : Operand}{css : List (List Value)}{a : α}(hel : M6 P Ts = some (T, es, nb, z))(hts : ∃ e2, P.underlying Ts2 = some (.slice e2))(Z : St c w L)(h : ∀ v' B css', r.ls c css' (xs ++ [a]) → oneC v' = true → St c B (L.set i (Go.Lir.sl T es v' css')) → Q0 P l Q (upd U d v') B)(hx : U.ev x = v := by (conv => lhs; whnf); first | done | exact rfl)(hy : U.ev y = .slice (some ⟨b, 0, none⟩) 1 1 := by (conv => lhs; whnf); first | done | exact rfl)(hi : nth L i = some (Go.Lir.sl T es v css) := by exact Fj (by repeat constructor))(hk : nth L k = some (blk b T' ds) := by exact Fj (by repeat constructor))(hls : r.ls c css xs := by assumption)(ha : r.at c ds a := by first | assumption | exact rfl)(hes : r.es = es := by exact rfl)(hb : (xs.length + 1) * nb ≤ 140737488355328 := by first | omega | (simp only [FY]; omega) | (simp; omega)): Q0 P (⟨none, .raw ⟨some d, .call ⟨.builtin .append, #[x, y], #[Ts, Ts2]⟩, Ty, "", #[], none⟩⟩ :: l) Q U w := YD hel hts Z hx hy hi hk hls ha hes hb h
theorem nD {T d Ty i:Nat}{z : List Value}{x y : Operand}{css : List (List Value)}{ys : List α}(hel : M6 P Ts = some (T, es, nb, z))(hts : ∃ e2, P.underlying Ts2 = some (.slice e2))(Z : St c w L)(h : ∀ v' B css', r.ls c css' (xs ++ ys) → oneC v' = true → St c B (L.set i (Go.Lir.sl T es v' css')) → Q0 P l Q (upd U d v') B)(hx : U.ev x = v := by (conv => lhs; whnf); first | done | exact rfl)(hy : U.ev y = v2 := by (conv => lhs; whnf); first | done | exact rfl)(hi : nth L i = some (Go.Lir.sl T es v css) := by exact Fj (by repeat constructor))(hls : r.ls c css xs := by assumption)(hK : r.sl c v2 ys := by assumption)(hes : r.es = es := by exact rfl)(hb : (xs.length + ys.length) * nb ≤ 140737488355328 := by first | omega | (simp only [FY]; omega) | (simp; omega)): Q0 P (⟨none, .raw ⟨some d, .call ⟨.builtin .append, #[x, y], #[Ts, Ts2]⟩, Ty, "", #[], none⟩⟩ :: l) Q U w := YE hel hts Z hx hy hi hls hK hes hb h
def bJ (U:KD)(ts:List Nat):List (Nat×Value):=ts.map fun t=>(t,U t)
theorem ks (U:KD):bJ U []=[]:=rfl
theorem kt {t:Nat}{ts:List Nat}{u:Value}(h:U t=u)(M:bJ U ts=A):bJ U (t::ts)=(t,u)::A:=by subst h M;rfl
theorem zh (h:Ki U A:=by repeat' (first|exact trivial|refine And.intro rfl ?_)):Ki U A:=h
theorem Km {B0q:List (Nat×Value)}(h:Ki U A)(M:Ki U B0q):∃ρ',U=SM (SM ρ' B0q) A:=⟨U,by rw [po M,po h]⟩
theorem zo {a:LC}(ts:List Nat)(I0q:List (Nat×Value)→KD→World→Prop)(μ:KD→World→Nat)(h0:I0q A U w)(h:∀U w,I0q A U w→a.wp P (Qp (fun ρ' B=>I0q A ρ' B∧μ ρ' B<μ U w) Q) U w)(hA:bJ U ts=A:=by (repeat (apply kt;· ((conv=>lhs;whnf);first|done|exact rfl)));exact ks _):(LC.loop a).wp P Q U w:=iy (I0q A) μ h0 h
theorem zM {a b:LC}(ts:List Nat)(I0q:List (Nat×Value)→KD→World→Prop)(ha:a.wp P (Qp (I0q A) Q) U w)(hb:∀U w,I0q A U w→b.wp P Q U w)(hA:bJ U ts=A:=by (repeat (apply kt;· ((conv=>lhs;whnf);first|done|exact rfl)));exact ks _):(LC.seq a b).wp P Q U w:=R2 (I0q A) ha hb
theorem Mt {a:LC}(Z:St c w L)(ts:List Nat)(I0q:List (Nat×Value)→List Res→KD→World→Prop)(μ:KD→World→Nat)(h0:I0q A L U w)(h:∀U w,I0q A L U w→a.wp P (Qp (fun ρ' B=>I0q A L ρ' B∧μ ρ' B<μ U w) Q) U w)(hA:bJ U ts=A:=by (repeat (apply kt;· ((conv=>lhs;whnf);first|done|exact rfl)));exact ks _):(LC.loop a).wp P Q U w:=iy (I0q A L) μ h0 h
theorem SY {a b:LC}(Z:St c w L)(ts:List Nat)(I0q:List (Nat×Value)→List Res→KD→World→Prop)(ha:a.wp P (Qp (I0q A L) Q) U w)(hb:∀U w,I0q A L U w→b.wp P Q U w)(hA:bJ U ts=A:=by (repeat (apply kt;· ((conv=>lhs;whnf);first|done|exact rfl)));exact ks _):(LC.seq a b).wp P Q U w:=R2 (I0q A L) ha hb
theorem P0 {l:List GO}(Z:St c w L)(n:Nat)(ts:List Nat)(I0q:List (Nat×Value)→List Res→KD→World→Prop)(ha:Q0 P (l.take n) (Qp (I0q A L) Q) U w)(hb:∀U w,I0q A L U w→Q0 P (l.drop n) Q U w)(hA:bJ U ts=A:=by (repeat (apply kt;· ((conv=>lhs;whnf);first|done|exact rfl)));exact ks _):Q0 P l Q U w:=j8 n (I0q A L) ha hb
theorem St.sp {L':List Res}(h:St c w L)(e:SubP L' L:=by (repeat constructor);first|done|fail):St c w L':=h.subP e
theorem fd {r':Res}(h:NthP L i r':=by repeat constructor):nth L i=some r':=h.nth
theorem vw {a b:Value}(h:a=b:=by (conv=>lhs;whnf);first|done|exact rfl):a=b:=h
theorem St.p3 {L1 L2 L3:List Res}{r1 r2 r3:Res}(h:St c w L)(p1:Pick L r1 L1:=by repeat constructor)(p2:Pick L1 r2 L2:=by repeat constructor)(p3:Pick L2 r3 L3:=by repeat constructor):St c w (r1::r2::r3::L3):=h.pick3 p1 p2 p3
end
end
end Go.Lir
