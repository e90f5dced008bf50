
/- Lemmas of the proof, part 2: what the functions of the program do (contracts), and what follows. -/
import Derived.Test.YteflkifmgnpbhaaGreatZ1
import Derived.Laws.IdiomStrings
import Derived.Lib.Strings
import Derived.Test.YteflkifmgnpbhaaGreatProg
import Derived.Recover
open Go Go.Lir
variable {α Hd β:Type}{H H':Ld}{T U:TypeId}{es m j l' h' Ts Ts2 nb fuel T' q off o0 n0 o1 n1 o2 n2 o3 n3:Nat}{v v2 u0 u1 u2 u3 v1 v3 v4 v' v0:Value}{F G K K':Nat→Prop}{css css' css2:List (List Value)}{w w0 w':World}{p:α→Prop}{cs us cs' ds args cap:List Value}{lo mx:Option Operand}{xs:List Bool}{S:Value→World→Prop}{x0 x1 x2 x3:Operand}{a at' kd:Int}{R:Ending→World→Prop}{P:Program}{l2 ops l1:List α}{ys:List Int}{os:List Operand}{ch:List PanicEntry}{rs:List ResultVar}{Q:List Deferred→QT}{fn:Func}{ms:Array (String×TypeId)}{A:List (Nat×Value)}{gs:List GO}
set_option linter.unusedVariables false
set_option linter.unusedSimpArgs false
set_option maxHeartbeats 1000000
namespace Go.Lir
section
variable {p:Prop}
theorem DO (h:p:=by simpa using h):p:=h
theorem D9 (h:p:=by rw [h.1];exact hm):p:=h
theorem Fs (h:p:=by rw [FF,GN];rfl):p:=h
end
end Go.Lir
namespace Go.Lir
section
variable {p:Prop}
theorem A1 (h:p:=by exact absurd rfl h):p:=h
theorem A8 (h:p:=by exact hg.put ti h):p:=h
theorem Cn (h:p:=by exact ⟨⟨x.1,x.2.1,x.2.2.1,x.2.2.2.1⟩,_,_,_,rfl,s1,s2,s3⟩):p:=h
theorem CP (h:p:=by exact m8 (fun ρ w h=>og h) (fun e ρ w hn h=>by cases e<;>first|exact h|exact absurd rfl hn) h):p:=h
theorem Ds (h:p:=by exact (hd ▸ lK hr.2.1 ds _ _ h:Leaves P fn a.tmps R a.defers .returning w)):p:=h
end
end Go.Lir
namespace Go.Lir
section

structure Res where
 A:Ld→(Nat→Prop)→Prop
 loc:∀{H H':Ld}{F:Nat→Prop},A H F→(∀b,F b→b<H.size→H'[b]?=H[b]?)→A H' F
 lt:∀{H:Ld}{F:Nat→Prop},A H F→∀b,F b→b<H.size
 ext:∀{H:Ld}{F G:Nat→Prop},A H F→(∀b,F b↔G b)→A H G

def emp:Res:=⟨fun _ F=>∀b,¬F b,fun h _=>h,fun h b hb=>absurd hb (h b),fun h e b hb=>h b ((e b).2 hb)⟩
def star (r s:Res):Res where
 A H F:=∃F1 F2,r.A H F1∧s.A H F2∧(∀b,F1 b→¬F2 b)∧∀b,F b↔F1 b∨F2 b
 loc:=by
  rintro H H' F ⟨F1,F2,h1,h2,h3,h4⟩ h;exact ⟨F1,F2,r.loc h1 fun b hb=>h b ((h4 b).2 (.inl hb)),s.loc h2 fun b hb=>h b ((h4 b).2 (.inr hb)),h3,h4⟩
 lt:=by
  rintro H F ⟨F1,F2,h1,h2,h3,h4⟩ b hb;exact ((h4 b).1 hb).elim (r.lt h1 b) (s.lt h2 b)
 ext:=by
  rintro H F G ⟨F1,F2,h1,h2,h3,h4⟩ h;exact ⟨F1,F2,h1,h2,h3,fun b=>(h b).symm.trans (h4 b)⟩
def Res.ex {α:Type}(f:α→Res):Res where
 A H F:=∃x,(f x).A H F
 loc:=by rintro H H' F ⟨x,h⟩ h';exact ⟨x,(f x).loc h h'⟩
 lt:=by rintro H F ⟨x,h⟩ b hb;exact (f x).lt h b hb
 ext:=by rintro H F G ⟨x,h⟩ h';exact ⟨x,(f x).ext h h'⟩
def Res.pure (p:Prop)(r:Res):Res where
 A H F:=p∧r.A H F
 loc:=by rintro H H' F ⟨x,h⟩ h';exact ⟨x,r.loc h h'⟩
 lt:=by rintro H F ⟨x,h⟩ b hb;exact r.lt h b hb
 ext:=by rintro H F G ⟨x,h⟩ h';exact ⟨x,r.ext h h'⟩
def blk (b:Nat)(T:TypeId)(cs:List Value):Res where
 A H F:=LY H b T cs∧∀x,F x↔x=b
 loc:=by rintro H H' F ⟨h,hf⟩ h';exact ⟨h.of_same (h' b ((hf b).2 rfl) h.lt),hf⟩
 lt:=by rintro H F ⟨h,hf⟩ x hx;rw [(hf x).1 hx];exact h.lt
 ext:=by rintro H F G ⟨h,hf⟩ h';exact ⟨h,fun x=>(h' x).symm.trans (hf x)⟩
theorem Sl.ext (h:Sl H T es v F css)(he:∀b,F b↔G b):Sl H T es v G css:=by
 obtain ⟨h0,⟨h1,h2,h3⟩|⟨b,off,cap,arr,h1,h2,hb,h3,h4,hf⟩⟩:=h
 · exact ⟨h0, .inl ⟨h1,h2,fun b hb=>h3 b ((he b).2 hb)⟩⟩
 · exact ⟨h0, .inr ⟨b,off,cap,arr,h1,h2,hb,h3,h4,fun x=>(he x).symm.trans (hf x)⟩⟩
def sl (T:TypeId)(es:Nat)(v:Value)(css:List (List Value)):Res where
 A H F:=Sl H T es v F css
 loc h h':=h.of_same h'
 lt h:=h.lt
 ext h h':=h.ext h'

def RK:List Res→Res
 | []=>emp
 | r::L=>star r (RK L)

theorem yY {r s t:Res}(h:(star r (star s t)).A H F):(star s (star r t)).A H F:=by
 obtain ⟨F1,F2,h1,⟨G1,G2,g1,g2,g3,g4⟩,h3,h4⟩:=h;refine ⟨G1,fun b=>F1 b∨G2 b,g1,⟨F1,G2,h1,g2,fun b hb hg=>h3 b hb ((g4 b).2 (.inr hg)),fun b=>HL⟩,?_,?_⟩
 · rintro b hb (h|h)
   · exact h3 b h ((g4 b).2 (.inl hb))
   · exact g3 b hb h
 · intro b;rw [h4 b,g4 b]
   constructor
   · rintro (h|h|h);exact .inr (.inl h);exact .inl h;exact .inr (.inr h)
   · rintro (h|h|h);exact .inr (.inl h);exact .inl h;exact .inr (.inr h)
theorem yZ {L L':List Res}(hp:L.Perm L'):∀{H:Ld}{F:Nat→Prop},(RK L).A H F→(RK L').A H F:=by
 induction hp with
 | nil=>intro H F h;exact h
 | cons r _ ih=>rintro H F ⟨F1,F2,h1,h2,h3,h4⟩;exact ⟨F1,F2,h1,ih h2,h3,h4⟩
 | swap r s t=>intro H F h;exact yY h
 | trans _ _ ih1 ih2=>intro H F h;exact ih2 (ih1 h)

structure Cx where
 base:World
 K:Nat→Prop
 H0:Ld

structure Cx.Ok (c:Cx) (w:World):Prop where
 os:w.os=c.base.os
 tape:w.tape=c.base.tape
 output:w.output=c.base.output
 size:c.H0.size≤w.heap.size
 lt:∀b,c.K b→b<c.H0.size
 same:∀b,c.K b→w.heap[b]?=c.H0[b]?

def St (c:Cx)(w:World)(L:List Res):Prop:=c.Ok w∧∃F,(RK L).A w.heap F∧∀b,F b→¬c.K b

structure Cx.Le (c c':Cx):Prop where
 base:c'.base=c.base
 K:∀b,c.K b→c'.K b∧c'.H0[b]?=c.H0[b]?
 size:c.H0.size≤c'.H0.size
 lt:∀b,c.K b→b<c.H0.size
theorem Cx.Ok.refl {c:Cx}(h:c.Ok w):c.Le c:=⟨rfl,fun _ hb=>⟨hb,rfl⟩,F6 _,h.lt⟩
theorem St.refl {c:Cx}{L:List Res}(h:St c w L):c.Le c:=h.1.refl
abbrev Gj:=@St.refl
theorem Cx.Le.trans {c c' c'':Cx}(h:c.Le c')(k:c'.Le c''):c.Le c'':=
 ⟨k.base.trans h.base,fun b hb=>⟨(k.K b (h.K b hb).1).1,(k.K b (h.K b hb).1).2.trans (h.K b hb).2⟩,Hj h.size k.size,h.lt⟩
theorem St.weak {c c':Cx}{L:List Res}(h:St c' w L)(hle:c.Le c'):St c w L:=by
 obtain ⟨ok,F,hF,hd⟩:=h;exact ⟨⟨by rw [ok.os,hle.base],by rw [ok.tape,hle.base],by rw [ok.output,hle.base],Hj hle.size ok.size,hle.lt,fun b hb=>(ok.same b (hle.K b hb).1).trans (hle.K b hb).2⟩,F,hF,fun b hb hk=>hd b hb (hle.K b hk).1⟩

abbrev GY:=@St.weak
theorem St.perm {c:Cx}{L L':List Res}(h:St c w L)(hp:L.Perm L'):St c w L':=by
 obtain ⟨ok,F,hF,hd⟩:=h;exact ⟨ok,F,yZ hp hF,hd⟩
theorem St.drop {c:Cx}{r:Res}{L:List Res}(h:St c w (r::L)):St c w L:=by
 obtain ⟨ok,F,⟨F1,F2,h1,h2,h3,h4⟩,hd⟩:=h;exact ⟨ok,F2,h2,fun b hb=>hd b ((h4 b).2 (.inr hb))⟩
theorem St.dropL {c:Cx}{M L:List Res}(h:St c w (M++L)):St c w L:=by
 induction M with
 | nil=>exact h
 | cons r M ih=>exact ih h.drop

def nth:List Res→Nat→Option Res
 | [],_=>none
 | r::_,0=>some r
 | _::L,i+1=>nth L i
theorem Tz:∀{L:List Res}{i:Nat}{r:Res},nth L i=some r→L.Perm (r::L.eraseIdx i)
 | [],_,_,h=>by cases h
 | s::L,0,r,h=>by simp only [nth,FU] at h;subst h;exact .refl _
 | s::L,i+1,r,h=>by
   have:=Tz (L:=L) (i:=i) h;exact (this.cons s).trans (.swap _ _ _)
theorem iQ:∀{L:List Res}{i:Nat}{r r':Res},nth L i=some r→(r'::L.eraseIdx i).Perm (L.set i r')
 | [],_,_,_,h=>by cases h
 | s::L,0,r,r',h=> .refl _
 | s::L,i+1,r,r',h=>(List.Perm.swap _ _ _).trans ((iQ (L:=L) (i:=i) h).cons s)
section
variable {a b c d e f g h i j k m:Res}{L:List Res}
theorem Lr:nth (a::L) 0=some a:=rfl
theorem OD:nth (a::b::L) 1=some b:=rfl
theorem NT:nth (a::b::c::L) 2=some c:=rfl
end
inductive NthP:List Res→Nat→Res→Prop where
 | z {r:Res}{L:List Res}:NthP (r::L) 0 r
 | s {a r:Res}{L:List Res}{i:Nat}:NthP L i r→NthP (a::L) (i+1) r
theorem NthP.nth {L:List Res}{i:Nat}{r:Res}(h:NthP L i r):nth L i=some r:=by
 induction h with
 | z=>rfl
 | s _ ih=>exact ih
abbrev F3:=@NthP.nth
inductive Pick:List Res→Res→List Res→Prop where
 | z {r:Res}{L:List Res}:Pick (r::L) r L
 | s {a r:Res}{L L':List Res}:Pick L r L'→Pick (a::L) r (a::L')
theorem Pick.perm {L L':List Res}{r:Res}(h:Pick L r L'):L.Perm (r::L'):=by
 induction h with
 | z=>exact .refl _
 | s _ ih=>exact (ih.cons _).trans (.swap _ _ _)
inductive SubP:List Res→List Res→Prop where
 | same {L:List Res}:SubP L L
 | nil {L:List Res}:SubP [] L
 | take {r:Res}{M L L':List Res}:Pick L r L'→SubP M L'→SubP (r::M) L
 | cut {a:Res}{M L:List Res}:SubP M L→SubP M (a::L)
section
variable {a b c d e f g h i j k m:Res}{L:List Res}{C:Cx}{w:World}
theorem St.mv1 (h:St C w (a::b::L)):St C w (b::a::L):=h.perm (Tz (i:=1) rfl)
theorem St.mv2 (h:St C w (a::b::c::L)):St C w (c::a::b::L):=h.perm (Tz (i:=2) rfl)
theorem St.mv3 (h:St C w (a::b::c::d::L)):St C w (d::a::b::c::L):=h.perm (Tz (i:=3) rfl)
theorem St.mv4 (h:St C w (a::b::c::d::e::L)):St C w (e::a::b::c::d::L):=h.perm (Tz (i:=4) rfl)
theorem St.mv5 (h:St C w (a::b::c::d::e::f::L)):St C w (f::a::b::c::d::e::L):=h.perm (Tz (i:=5) rfl)
end
def Oj (L' L:List Res):Prop:=∃M,L.Perm (L'++M)
theorem St.sub {c:Cx}{L L':List Res}(h:St c w L)(hs:Oj L' L):St c w L':=by
 obtain ⟨M,hp⟩:=hs;exact ((h.perm hp).perm IP).dropL
theorem SubP.sub {L L':List Res}(h:SubP L' L):∃M,L.Perm (L'++M):=by
 induction h with
 | same=>exact ⟨[],by rw [GL]⟩
 | nil=>exact ⟨_, .refl _⟩
 | take hp _ ih=>obtain ⟨M,hm⟩:=ih;exact ⟨M,hp.perm.trans (hm.cons _)⟩
 | cut _ ih=>obtain ⟨M,hm⟩:=ih;exact ⟨_::M,(hm.cons _).trans HK.symm⟩
theorem St.subP {c:Cx}{L L':List Res}(h:St c w L)(hs:SubP L' L):St c w L':=h.sub hs.sub
theorem Oj.same (L:List Res):Oj L L:=⟨[],by rw [GL]⟩
theorem Oj.nil (L:List Res):Oj [] L:=⟨L, .refl _⟩
theorem Oj.cut {r:Res}{L' L:List Res}(h:Oj L' L):Oj L' (r::L):=by
 obtain ⟨M,hp⟩:=h;exact ⟨r::M,(hp.cons r).trans HK.symm⟩
theorem Oj.take {L' L:List Res}(i:Nat){r:Res}(hi:nth L i=some r)(h:Oj L' (L.eraseIdx i)):Oj (r::L') L:=by
 obtain ⟨M,hp⟩:=h;exact ⟨M,(Tz hi).trans (hp.cons r)⟩
section
variable {a b c d e f g h i j k m r:Res}{L L':List Res}
theorem Oj.t0 (H:Oj L' L):Oj (r::L') (r::L):= .take 0 rfl H
theorem Oj.t1 (H:Oj L' (a::L)):Oj (r::L') (a::r::L):= .take 1 rfl H
theorem Oj.t2 (H:Oj L' (a::b::L)):Oj (r::L') (a::b::r::L):= .take 2 rfl H
theorem Oj.t3 (H:Oj L' (a::b::c::L)):Oj (r::L') (a::b::c::r::L):= .take 3 rfl H
theorem Oj.t4 (H:Oj L' (a::b::c::d::L)):Oj (r::L') (a::b::c::d::r::L):= .take 4 rfl H
end

section
variable {c c':Cx}{w w':World}{L:List Res}
theorem St.ok (h:St c w L):c.Ok w:=h.1
theorem St.step {i:Nat}{r:Res}(h:St c w L)(hi:nth L i=some r):∃F,r.A w.heap F∧(∀b,F b→¬c.K b)∧∀w' F' r',r'.A w'.heap F'→Step F F' w w'→St c w' (L.set i r'):=by
 obtain ⟨ok,F,⟨F1,F2,h1,h2,h3,h4⟩,hd⟩:=h.perm (Tz hi);refine ⟨F1,h1,fun b hb=>hd b ((h4 b).2 (.inl hb)),fun w' F' r' hr hs=>St.perm ?_ (iQ hi)⟩;have hf:=hs.fr;refine ⟨⟨hf.os.trans ok.os,hf.tape.trans ok.tape,hf.output.trans ok.output,Hj ok.size hf.size,ok.lt,fun b hb=>?_⟩,fun b=>F' b∨F2 b,⟨F',F2,hr,?_,?_,fun b=>HL⟩,?_⟩
 · exact (hf.same b (HB (ok.lt b hb) ok.size) fun hF=>hd b ((h4 b).2 (.inl hF)) hb).trans (ok.same b hb)
 · exact (RK _).loc h2 fun b hb hlt=>hf.same b hlt fun hF=>h3 b hF hb
 · intro b hb hb2;exact (hs.sub b hb).elim (fun h=>h3 b h hb2) (fun h=>absurd ((RK _).lt h2 b hb2) Jo)
 · rintro b (hb|hb) hk
   · exact (hs.sub b hb).elim (fun h=>hd b ((h4 b).2 (.inl h)) hk) (fun h=>absurd (ok.lt b hk) (by have:=ok.size;omega))
   · exact hd b ((h4 b).2 (.inr hb)) hk
theorem St.fr0 (h:St c w L)(hf:Fr NF w w'):St c w' L:=by
 obtain ⟨ok,F,hF,hd⟩:=h;exact ⟨⟨hf.os.trans ok.os,hf.tape.trans ok.tape,hf.output.trans ok.output,Hj ok.size hf.size,ok.lt,fun b hb=>(hf.same b (HB (ok.lt b hb) ok.size) fun h=>h).trans (ok.same b hb)⟩,F,(RK _).loc hF fun b _ hlt=>hf.same b hlt fun h=>h,hd⟩
theorem St.new {r:Res}{F':Nat→Prop}(h:St c w L)(hr:r.A w'.heap F')(hf:Fr NF w w')(hn:∀b,F' b→w.heap.size≤b):St c w' (r::L):=by
 obtain ⟨ok,F,hF,hd⟩:=h;refine ⟨(St.fr0 ⟨ok,F,hF,hd⟩ hf).1,fun b=>F' b∨F b,⟨F',F,hr,(RK _).loc hF fun b _ hlt=>hf.same b hlt fun h=>h,fun b hb hb2=>absurd ((RK _).lt hF b hb2) (by have:=hn b hb;omega),fun b=>HL⟩,?_⟩;rintro b (hb|hb) hk
 · exact absurd (ok.lt b hk) (by have:=ok.size;have:=hn b hb;omega)
 · exact hd b hb hk
theorem St.emp {r:Res}(h:St c w L)(hr:r.A w.heap NF):St c w (r::L):=h.new hr (Ik _ _) fun _ h=>h.elim
theorem St.nil (h:St c w L):St c w (sl T es (.slice none 0 0) []::L):=h.emp (Sl.nil _ _ _)
abbrev Ic:=@St.nil
theorem St.drew (h:St c w L):St c w.drew L:=h.fr0 (Ki (Ik _ _))
theorem St.res {i:Nat}{r:Res}(h:St c w L)(hi:nth L i=some r):∃F,r.A w.heap F:=by
 obtain ⟨F,h1,_⟩:=h.step hi;exact ⟨F,h1⟩
theorem St.freeze {r:Res}(h:St c w (r::L)):∃c' F,c.Le c'∧St c' w L∧r.A c'.H0 F∧∀b,F b→c'.K b:=by
 obtain ⟨ok,F,⟨F1,F2,h1,h2,h3,h4⟩,hd⟩:=h;refine ⟨⟨c.base,fun b=>c.K b∨F1 b,w.heap⟩,F1,⟨rfl,fun b hb=>⟨.inl hb,ok.same b hb⟩,ok.size,ok.lt⟩,⟨⟨ok.os,ok.tape,ok.output,F6 _,fun b hb=>hb.elim (fun hb=>HB (ok.lt b hb) ok.size) (r.lt h1 b),fun b _=>rfl⟩,F2,h2,?_⟩,h1,fun b hb=> .inr hb⟩;rintro b hb (hk|hk)
 · exact hd b ((h4 b).2 (.inr hb)) hk
 · exact h3 b hk hb
theorem St.ex {f:α→Res}(h:St c w (Res.ex f::L)):∃x,St c w (f x::L):=by
 obtain ⟨ok,F,⟨F1,F2,⟨x,h1⟩,h2,h3,h4⟩,hd⟩:=h;exact ⟨x,ok,F,⟨F1,F2,h1,h2,h3,h4⟩,hd⟩
theorem St.ex' {f:α→Res}(x:α)(h:St c w (f x::L)):St c w (Res.ex f::L):=by
 obtain ⟨ok,F,⟨F1,F2,h1,h2,h3,h4⟩,hd⟩:=h;exact ⟨ok,F,⟨F1,F2,⟨x,h1⟩,h2,h3,h4⟩,hd⟩
abbrev Kw:=@St.ex'
theorem St.pure {p:Prop}{r:Res}(h:St c w (Res.pure p r::L)):p∧St c w (r::L):=by
 obtain ⟨ok,F,⟨F1,F2,⟨x,h1⟩,h2,h3,h4⟩,hd⟩:=h;exact ⟨x,ok,F,⟨F1,F2,h1,h2,h3,h4⟩,hd⟩
theorem St.pure' {p:Prop}{r:Res}(x:p)(h:St c w (r::L)):St c w (Res.pure p r::L):=by
 obtain ⟨ok,F,⟨F1,F2,h1,h2,h3,h4⟩,hd⟩:=h;exact ⟨ok,F,⟨F1,F2,⟨x,h1⟩,h2,h3,h4⟩,hd⟩
theorem y5 {r s t:Res}(h:(star (star r s) t).A H F):(star r (star s t)).A H F:=by
 obtain ⟨F1,F2,⟨G1,G2,g1,g2,g3,g4⟩,h2,h3,h4⟩:=h;refine ⟨G1,fun b=>G2 b∨F2 b,g1,⟨G2,F2,g2,h2,fun b hb=>h3 b ((g4 b).2 (.inr hb)),fun b=>HL⟩,?_,fun b=>?_⟩
 · rintro b hb (h|h)
   · exact g3 b hb h
   · exact h3 b ((g4 b).2 (.inl hb)) h
 · rw [h4 b,g4 b,or_assoc]
theorem y6 {r s t:Res}(h:(star r (star s t)).A H F):(star (star r s) t).A H F:=by
 obtain ⟨F1,F2,h1,⟨G1,G2,g1,g2,g3,g4⟩,h3,h4⟩:=h;refine ⟨fun b=>F1 b∨G1 b,G2,⟨F1,G1,h1,g1,fun b hb hg=>h3 b hb ((g4 b).2 (.inl hg)),fun b=>HL⟩,g2,?_,fun b=>?_⟩
 · rintro b (hb|hb) hg
   · exact h3 b hb ((g4 b).2 (.inr hg))
   · exact g3 b hb hg
 · rw [h4 b,g4 b,or_assoc]
theorem St.star {r s:Res}(h:St c w (star r s::L)):St c w (r::s::L):=by
 obtain ⟨ok,F,h,hd⟩:=h;exact ⟨ok,F,y5 h,hd⟩
abbrev J4:=@St.star
theorem St.star' {r s:Res}(h:St c w (r::s::L)):St c w (Go.Lir.star r s::L):=by
 obtain ⟨ok,F,h,hd⟩:=h;exact ⟨ok,F,y6 h,hd⟩
abbrev H9:=@St.star'
theorem St.imp {r r':Res}(h:St c w (r::L))(hi:∀H F,r.A H F→r'.A H F):St c w (r'::L):=by
 obtain ⟨ok,F,⟨F1,F2,h1,h2,h3,h4⟩,hd⟩:=h;exact ⟨ok,F,⟨F1,F2,hi _ _ h1,h2,h3,h4⟩,hd⟩
theorem St.out {i:Nat}{r:Res}(h:St c w L)(hi:nth L i=some r):St c w (r::L.eraseIdx i):=h.perm (Tz hi)
theorem St.back {i:Nat}{r r':Res}(h:St c w (r'::L.eraseIdx i))(hi:nth L i=some r):St c w (L.set i r'):=h.perm (iQ hi)
abbrev GR:=@St.back
theorem St.back0 {i:Nat}{r:Res}(h:St c w (r::L.eraseIdx i))(hi:nth L i=some r):St c w L:=h.perm (Tz hi).symm
abbrev Gc:=@St.back0
theorem St.list:∀{M L:List Res},St c w (RK M::L)→St c w (M++L)
 | [],L,h=>h.drop
 | r::M,L,h=>by
   have h1:=St.list (M:=M) (L:=r::L) (St.mv1 (J4 h));exact h1.perm (HK)
theorem St.list':∀{M L:List Res},St c w (M++L)→St c w (RK M::L)
 | [],L,h=>h.emp (r:=Go.Lir.emp) fun _ h=>h
 | r::M,L,h=>by
   have h1:St c w (M++r::L):=h.perm (HK.symm);exact (St.mv1 (St.list' h1)).star'
abbrev JH:=@St.list'
def LF {α:Type}(f:α→Res)(l:List α):Res:=RK (l.map f)
theorem oh {α β:Type}(f:α→β):∀(l:List α) (k:Nat),(l.eraseIdx k).map f=(l.map f).eraseIdx k
 | [],_=>rfl
 | _::_,0=>rfl
 | x::l,k+1=>by simp only [Hx,He,oh f l k]
theorem oi {α:Type}(f:α→Res):∀{l:List α}{k:Nat}{x:α},l[k]?=some x→nth (l.map f) k=some (f x)
 | [],_,_,h=>by simp at h
 | y::l,0,x,h=>by simp at h;subst h;rfl
 | y::l,k+1,x,h=>oi f (l:=l) DO
theorem St.bigOut {f:α→Res}{l:List α}{i k:Nat}{x:α}(h:St c w L)(hi:nth L i=some (LF f l))(hk:l[k]?=some x):St c w (f x::L.set i (LF f (l.eraseIdx k))):=by
 have h1:St c w (l.map f++L.eraseIdx i):=(h.out hi).list;have h2:St c w ((f x::(l.map f).eraseIdx k)++L.eraseIdx i):=h1.perm ((Tz (oi f hk)).append_right _);rw [←oh] at h2;have h3:St c w ((l.eraseIdx k).map f++f x::L.eraseIdx i):=h2.perm HK.symm;have h4:St c w (LF f (l.eraseIdx k)::f x::L.eraseIdx i):=h3.list';exact h4.mv1.perm ((iQ hi).cons _)
theorem St.bigIn {f:α→Res}{l:List α}{i k:Nat}{x':α}(h:St c w (f x'::L))(hi:nth L i=some (LF f (l.eraseIdx k)))(hk:k<l.length):St c w (L.set i (LF f (l.set k x'))):=by
 have h1:St c w (LF f (l.eraseIdx k)::f x'::L.eraseIdx i):=((h.perm ((Tz hi).cons _)):St c w (f x'::LF f (l.eraseIdx k)::L.eraseIdx i)).mv1;have h2:St c w ((l.eraseIdx k).map f++f x'::L.eraseIdx i):=h1.list;rw [oh] at h2;have h3:St c w (f x'::(l.map f).eraseIdx k++L.eraseIdx i):=h2.perm HK;have hx:nth (l.map f) k=some (f (l[k]'hk)):=oi f (FB hk);have h4:St c w ((l.map f).set k (f x')++L.eraseIdx i):=h3.perm ((iQ hx).append_right _);rw [←G8] at h4;exact (JH h4:St c w (LF f (l.set k x')::L.eraseIdx i)).back hi
abbrev IG:=@St.bigIn
theorem cq {l:List α}{k:Nat}{x:α}(h:l[k]?=some x):l.set k x=l:=by
 apply Hu;intro j;rw [G9];split
 · rename_i e;subst e;rw [if_pos (FD.1 h).1,h]
 · rfl

def Cx.top (w:World):Cx:=⟨w,(· < w.heap.size),w.heap⟩
theorem St.top (w:World):St (Cx.top w) w []:=⟨⟨rfl,rfl,rfl,F6 _,fun _ h=>h,fun _ _=>rfl⟩,NF,fun _ h=>h,fun _ h=>h.elim⟩
theorem St.fr (h:St (Cx.top w0) w L):Fr NF w0 w:=⟨h.1.os,h.1.tape,h.1.output,h.1.size,fun b hb _=>h.1.same b hb⟩
end

abbrev Ou (c:Cx)(es:Nat)(v:Value)(css:List (List Value)):Prop:=M0 c.H0 es v c.K css
def Pj (c:Cx)(b o:Nat)(cs:List Value):Prop:=c.K b∧At c.H0 b o cs
theorem Pj.up {c c':Cx}{b o:Nat}(h:Pj c b o cs)(hle:c.Le c'):Pj c' b o cs:=⟨(hle.K b h.1).1,h.2.of_same (hle.K b h.1).2⟩
theorem Ou.up {c c':Cx}(h:Ou c es v css)(hle:c.Le c'):Ou c' es v css:=by
 obtain ⟨h0,a,cap,hv,hlc,hc|⟨b,off,ha,hF,hb,hat⟩⟩:=h
 · exact BB
 · exact ⟨h0,a,cap,hv,hlc, .inr ⟨b,off,ha,(hle.K b hF).1,HB hb hle.size,fun m c hm=>(hat m c hm).of_same (hle.K b hF).2⟩⟩
theorem Ou.now {c:Cx}{L:List Res}(h:Ou c es v css)(hS:St c w L):M0 w.heap es v c.K css:=
 M0.of_same h fun b hb _=>hS.1.same b hb
theorem Pj.now {c:Cx}{L:List Res}{b o:Nat}(h:Pj c b o cs)(hS:St c w L):At w.heap b o cs:=h.2.of_same (hS.1.same b h.1)
theorem Ou.top (h:M0 w.heap es v (fun _=>True) css):Ou (Cx.top w) es v css:=Ir h fun _ hb _=>hb
theorem Ou.nil (c:Cx)(es:Nat):Ou c es (.slice none 0 0) []:=⟨by simp,none,0,rfl,F6 _, .inl rfl⟩
theorem St.freezeS {c:Cx}{L:List Res}{T:TypeId}{es:Nat}{v:Value}{css:List (List Value)}(h:St c w (sl T es v css::L)):∃c',c.Le c'∧St c' w L∧Ou c' es v css:=by
 obtain ⟨c',F,h1,h2,h3,h4⟩:=h.freeze;exact ⟨c',h1,h2,Ir (Sl.toR h3) fun b _ hb=>h4 b hb⟩
def Oe (v:Value)(n es m b o:Nat):Prop:=m<n∧∃off cap,v= .slice (some ⟨b,off,none⟩) n cap∧o=off+m*es
theorem Oe.el {n b o:Nat}(h:Oe v n es m b o)(hn:css.length=n)(hs:Sl H T es v F css):El H T es v F css m b o:=by
 subst hn;exact ⟨hs,h.1,h.2⟩

section
variable {P:Program}{l:List GO}{Q:QT}{ρ:La}{w:World}{c:Cx}{L:List Res}{i:Nat}{T es:Nat}{v:Value}{css:List (List Value)}

theorem MX {d:Nat}{x:Operand}{b o:Nat}{u:Value}(hS:St c w L)(hx:ρ.ev x= .pointer (some ⟨b,o,none⟩))(hi:nth L i=some (blk b T cs))(hu:cs[o]?=some u)
 (h:Q0 P l Q (upd ρ d u) w):Q0 P (⟨none, .load1 d x⟩::l) Q ρ w:=by
 obtain ⟨F,h1,_⟩:=hS.step hi;exact Ph hx h1.1 hu h
theorem oj {d n:Nat}{x:Operand}{b o:Nat}(hS:St c w L)(hx:ρ.ev x= .pointer (some ⟨b,o,none⟩))(hi:nth L i=some (blk b T cs))(hu:(cs.drop o).take n=us)(hl:us.length=n)
 (h:Q0 P l Q (upd ρ d (.agg ⟨us⟩)) w):Q0 P (⟨none, .loadn d n x⟩::l) Q ρ w:=by
 obtain ⟨F,h1,_⟩:=hS.step hi;exact XS hx h1.1 hu hl h
theorem tj {b:Nat}(h:∀x,F x↔x=b)(hf:Fr (· =b) w w'):Step F F w w':=IF (hf.into fun x hx=>(h x).2 hx)
theorem tm {x y:Operand}{b o:Nat}{u:Value}(hS:St c w L)(hx:ρ.ev x= .pointer (some ⟨b,o,none⟩))(hy:ρ.ev y=u)(hi:nth L i=some (blk b T cs))(ho:o<cs.length)(h1:oneC u=true)
 (h:∀w',St c w' (L.set i (blk b T (cs.set o u)))→Q0 P l Q ρ w'):Q0 P (⟨none, .store1 x y⟩::l) Q ρ w:=by
 obtain ⟨F,hr,_,hst⟩:=hS.step hi;exact sR hx hy hr.1 ho h1 fun w' hf _ hb=>h w' (hst w' F _ ⟨hb,hr.2⟩ (tj hr.2 hf))
theorem om {x y:Operand}{b o:Nat}{u:Value}(hS:St c w L)(hx:ρ.ev x= .pointer (some ⟨b,o,none⟩))(hy:ρ.ev y=u)(hi:nth L i=some (blk b T cs))(ho:o<cs.length)(h1:oneC u=true)(hc:cs.set o u=cs')
 (h:∀w',St c w' (L.set i (blk b T cs'))→Q0 P l Q ρ w'):Q0 P (⟨none, .store1 x y⟩::l) Q ρ w:=by subst hc;exact tm hS hx hy hi ho h1 h
theorem Rb {n:Nat}{x y:Operand}{b o:Nat}(hS:St c w L)(hx:ρ.ev x= .pointer (some ⟨b,o,none⟩))(hy:ρ.ev y= .agg ⟨us⟩)(hn:us.length=n)(hi:nth L i=some (blk b T cs))(ho:o+n≤cs.length)(h1:∀u∈us,oneC u=true)
 (hc:cs.take o++(us++cs.drop (o+n))=cs')(h:∀w',St c w' (L.set i (blk b T cs'))→Q0 P l Q ρ w'):Q0 P (⟨none, .storen n x y⟩::l) Q ρ w:=by
 subst hc;obtain ⟨F,hr,_,hst⟩:=hS.step hi;exact sS hx hy hn hr.1 ho h1 fun w' hf _ hb=>h w' (hst w' F _ ⟨hb,hr.2⟩ (tj hr.2 hf))
theorem St.blkAt {b:Nat}(hS:St c w L)(hi:nth L i=some (blk b T cs)):LY w.heap b T cs:=by
 obtain ⟨F,hr,_⟩:=hS.step hi;exact hr.1
theorem Qh {d:Nat}{z:List Value}(hS:St c w L)(h:∀b w',St c w' (blk b T z::L)→Q0 P l Q (upd ρ d (.pointer (some ⟨b,0,none⟩))) w'):Q0 P (⟨none, .alloc d T z⟩::l) Q ρ w:=
 nL fun b w' hb hf _ hk=>h b w' (hS.new (F':=(· =b)) ⟨hk,fun _=>HL⟩ hf fun x hx=>by omega)
theorem Ov {d:Nat}{x:Operand}{cs:List Value}(hS:St c w L)(hx:ρ.ev x=v)(hc:v.cells=⟨cs⟩)(h:∀b w',St c w' (blk b T cs::L)→Q0 P l Q (upd ρ d (.pointer (some ⟨b,0,none⟩))) w'):Q0 P (⟨none, .box d T x⟩::l) Q ρ w:=
 nZ hx hc fun b w' hb hf _ hk=>h b w' (hS.new (F':=(· =b)) ⟨hk,fun _=>HL⟩ hf fun x hx=>by omega)
theorem St.laid {b:Nat}(hS:St c w L)(hb:b=w.heap.size)(hf:Fr NF w w')(hk:LY w'.heap b T cs):St c w' (blk b T cs::L):=hS.new (F':=(· =b)) ⟨hk,fun _=>HL⟩ hf fun x hx=>by omega
theorem St.slOf {b n:Nat}{cs:List Value}(hS:St c w (blk b T cs::L))(hf:css.flatten=cs)(hl:∀c∈css,c.length=es)(hn:css.length=n):St c w (sl T es (.slice (some ⟨b,0,none⟩) n n) css::L):=
 hS.imp fun _ _ h=>Sl.ext (Jf h.1 hf hl hn) fun x=>(h.2 x).symm

abbrev GS:=@St.slOf
theorem PQ {d m:Nat}{x y:Operand}{k:IntKind}(hS:St c w L)(hx:ρ.ev x=v)(hy:ρ.ev y= .int k (m:Int))(hi:nth L i=some (sl T es v css))(hm:m<css.length)
 (h:∀b o,Oe v css.length es m b o→Q0 P l Q (upd ρ d (.pointer (some ⟨b,o,none⟩))) w):Q0 P (⟨none, .idx d es x y⟩::l) Q ρ w:=by
 obtain ⟨F,hr,_⟩:=hS.step hi;exact cp hx hy hr hm fun b o he=>h b o ⟨he.2,he.3⟩
theorem QN {d:Nat}{x y:Operand}{k:IntKind}{n:Int}(hS:St c w L)(hx:ρ.ev x=v)(hy:ρ.ev y= .int k n)(hi:nth L i=some (sl T es v css))(h0:0≤n)(hm:n<css.length)
 (h:∀b o,Oe v css.length es n.toNat b o→Q0 P l Q (upd ρ d (.pointer (some ⟨b,o,none⟩))) w):Q0 P (⟨none, .idx d es x y⟩::l) Q ρ w:=by
 obtain ⟨F,hr,_⟩:=hS.step hi;exact nS hx hy hr h0 hm fun b o he=>h b o ⟨he.2,he.3⟩
theorem cr {d:Nat}{x:Operand}(hS:St c w L)(hx:ρ.ev x=v)(hi:nth L i=some (sl T es v css))(h:Q0 P l Q (upd ρ d (.int .i64 css.length)) w):Q0 P (⟨none, .len d x⟩::l) Q ρ w:=by
 obtain ⟨F,hr,_⟩:=hS.step hi;exact X5 hx hr h
theorem Q5 {d n:Nat}{x:Operand}{b o:Nat}{u:Value}(hS:St c w L)(he:Oe v n es m b o)(hx:ρ.ev x= .pointer (some ⟨b,o+j,none⟩))(hi:nth L i=some (sl T es v css))(hn:css.length=n)(hc:css[m]?=some cs)(hu:cs[j]?=some u)
 (h:Q0 P l Q (upd ρ d u) w):Q0 P (⟨none, .load1 d x⟩::l) Q ρ w:=by
 obtain ⟨F,hr,_⟩:=hS.step hi;exact Ua hx (he.el hn hr) hc hu h
theorem Qx {d n:Nat}{x:Operand}{b o:Nat}{u:Value}(hS:St c w L)(he:Oe v n es m b o)(hx:ρ.ev x= .pointer (some ⟨b,o,none⟩))(hi:nth L i=some (sl T es v css))(hn:css.length=n)(hc:css[m]?=some cs)(hu:cs[0]?=some u)
 (h:Q0 P l Q (upd ρ d u) w):Q0 P (⟨none, .load1 d x⟩::l) Q ρ w:=Q5 (j:=0) hS he hx hi hn hc hu h
theorem OY {d n:Nat}{x:Operand}{b o:Nat}(hS:St c w L)(he:Oe v n es m b o)(hx:ρ.ev x= .pointer (some ⟨b,o,none⟩))(hi:nth L i=some (sl T es v css))(hn:css.length=n)(hc:css[m]?=some cs)
 (h:Q0 P l Q (upd ρ d (.agg ⟨cs⟩)) w):Q0 P (⟨none, .loadn d es x⟩::l) Q ρ w:=by
 obtain ⟨F,hr,_⟩:=hS.step hi;exact Ub hx (he.el hn hr) hc h
theorem tn {n:Nat}{x y:Operand}{b o:Nat}{u:Value}(hS:St c w L)(he:Oe v n es m b o)(hx:ρ.ev x= .pointer (some ⟨b,o+j,none⟩))(hy:ρ.ev y=u)(hi:nth L i=some (sl T es v css))(hn:css.length=n)(hc:css[m]?=some cs)(hj:j<es)(ho:oneC u=true)
 (h:∀w',St c w' (L.set i (sl T es v (css.set m (cs.set j u))))→Q0 P l Q ρ w'):Q0 P (⟨none, .store1 x y⟩::l) Q ρ w:=by
 obtain ⟨F,hr,_,hst⟩:=hS.step hi;exact sZ hx hy (he.el hn hr) hc hj ho fun w' hf _ hk=>h w' (hst w' F _ hk.sl (IF hf))
theorem lL {n:Nat}{x y:Operand}{b o:Nat}{u:Value}(hS:St c w L)(he:Oe v n es m b o)(hx:ρ.ev x= .pointer (some ⟨b,o,none⟩))(hy:ρ.ev y=u)(hi:nth L i=some (sl T es v css))(hn:css.length=n)(hc:css[m]?=some cs)(hj:0<es)(ho:oneC u=true)
 (h:∀w',St c w' (L.set i (sl T es v (css.set m (cs.set 0 u))))→Q0 P l Q ρ w'):Q0 P (⟨none, .store1 x y⟩::l) Q ρ w:=tn (j:=0) hS he hx hy hi hn hc hj ho h
theorem oo {n:Nat}{x y:Operand}{b o:Nat}{k:Nat}(hS:St c w L)(he:Oe v n es m b o)(hx:ρ.ev x= .pointer (some ⟨b,o,none⟩))(hy:ρ.ev y= .agg ⟨us⟩)(hk:us.length=k)(hi:nth L i=some (sl T es v css))(hn:css.length=n)(hc:css[m]?=some cs)(hl:us.length=es)(ho:∀u∈us,oneC u=true)
 (h:∀w',St c w' (L.set i (sl T es v (css.set m us)))→Q0 P l Q ρ w'):Q0 P (⟨none, .storen k x y⟩::l) Q ρ w:=by
 obtain ⟨F,hr,_,hst⟩:=hS.step hi;exact yQ hx hy hk (he.el hn hr) hc hl ho fun w' hf _ hk=>h w' (hst w' F _ hk.sl (IF hf))
theorem RL {n:Nat}{x y:Operand}{b o:Nat}{u:Value}(hS:St c w L)(he:Oe v n es m b o)(hx:ρ.ev x= .pointer (some ⟨b,o+j,none⟩))(hy:ρ.ev y=u)(hi:nth L i=some (sl T es v css))(hn:css.length=n)(hc:css[m]?=some cs)(hj:j<es)(ho:oneC u=true)
 (hc':css.set m (cs.set j u)=css')(h:∀w',St c w' (L.set i (sl T es v css'))→Q0 P l Q ρ w'):Q0 P (⟨none, .store1 x y⟩::l) Q ρ w:=by subst hc';exact tn hS he hx hy hi hn hc hj ho h
theorem iR {n:Nat}{x y:Operand}{b o:Nat}{k:Nat}(hS:St c w L)(he:Oe v n es m b o)(hx:ρ.ev x= .pointer (some ⟨b,o,none⟩))(hy:ρ.ev y= .agg ⟨us⟩)(hk:us.length=k)(hi:nth L i=some (sl T es v css))(hn:css.length=n)(hc:css[m]?=some cs)(hl:us.length=es)(ho:∀u∈us,oneC u=true)
 (hc':css.set m us=css')(h:∀w',St c w' (L.set i (sl T es v css'))→Q0 P l Q ρ w'):Q0 P (⟨none, .storen k x y⟩::l) Q ρ w:=by subst hc';exact oo hS he hx hy hk hi hn hc hl ho h
theorem Un {d:Nat}{x:Operand}{hi':Option Operand}(hS:St c w L)(hx:ρ.ev x=v)(hi:nth L i=some (sl T es v css))(hmx:mx=none)(hh:Nl ρ css.length hi' h')(hl:Nl ρ 0 lo l')(h2:h'≤css.length)(h3:l'≤h')
 (h:∀v',St c w (L.set i (sl T es v' ((css.take h').drop l')))→Q0 P l Q (upd ρ d v') w):Q0 P (⟨none, .sub d es x lo hi' mx⟩::l) Q ρ w:=by
 obtain ⟨F,hr,_,hst⟩:=hS.step hi;exact Uc hx hr hmx hh hl h2 h3 fun v' hk=>h v' (hst w F _ hk (IF (Ik _ _)))
theorem Ow {d:Nat}{Ty:Nat}{z:List Value}{x y:Operand}(hel:N6 P Ts=some (T,es,nb,z))
 (hts:(∃e2,P.underlying Ts2=some (.slice e2))∨P.underlying Ts2=some .string)(hS:St c w L)(hx:ρ.ev x=v)(hy:ρ.ev y=v2)(hi:nth L i=some (sl T es v css))(hsrc:Ud P w es v2 css2)(hb:(css.length+css2.length)*nb≤140737488355328)
 (h : ∀ v' w', St c w' (L.set i (sl T es v' (css ++ css2))) → Q0 P l Q (upd ρ d v') w'): Q0 P (⟨none, .raw ⟨some d, .call ⟨.builtin .append, #[x, y], #[Ts, Ts2]⟩, Ty, "", #[], none⟩⟩ :: l) Q ρ w := by
 obtain ⟨F,hr,_,hst⟩:=hS.step hi;exact Ue hel hts hx hy hr hsrc hb fun v' w' ⟨F',h1,h2,h3⟩=>h v' w' (hst w' F' _ h1 ⟨h2,h3⟩)
theorem Yb {d:Nat}{Ty:Nat}{z:List Value}{x y:Operand}{k k':IntKind}{n:Int}(hel:N6 P Ts=some (T,es,nb,z))(hS:St c w L)(hx:ρ.ev x= .int k n)(hy:ρ.ev y= .int k' n)(h0:0≤n)(hn:n*nb≤281474976710656)
 (h:∀v' w',St c w' (sl T es v' (List.replicate n.toNat z)::L)→Q0 P l Q (upd ρ d v') w'):
 Q0 P (⟨none, .raw ⟨some d, .makeSlice Ts x y, Ty, "", #[], none⟩⟩ :: l) Q ρ w :=
 iK hel hx hy h0 hn fun v' w' hf hs _=>h v' w' (hS.new hs hf fun b hb=>by omega)

theorem St.srcS {css:List (List Value)}(hS:St c w L)(hi:nth L i=some (sl T es v css))(ho:∀c∈css,∀u∈c,oneC u=true):Ud P w es v css:=by
 obtain ⟨F,hr,_⟩:=hS.step hi;exact Sl.src hr ho
theorem St.srcB1 {b:Nat}{u:Value}(hS:St c w L)(hi:nth L i=some (blk b T [u]))(ho:oneC u=true):Ud P w 1 (.slice (some ⟨b,0,none⟩) 1 1) [[u]]:=by
 obtain ⟨F,hr,_⟩:=hS.step hi;exact nW hr.1 ho
theorem St.srcB {b n:Nat}(hS:St c w L)(hi:nth L i=some (blk b T cs))(hn:cs.length=n)(ho:∀u∈cs,oneC u=true):Ud P w n (.slice (some ⟨b,0,none⟩) 1 1) [cs]:=by
 obtain ⟨F,hr,_⟩:=hS.step hi;exact X8 hr.1 hn ho
theorem Ou.src {css:List (List Value)}(h:Ou c es v css)(hS:St c w L)(ho:∀c∈css,∀u∈c,oneC u=true):Ud P w es v css:=(h.now hS).src ho

theorem cu {d:Nat}{x:Operand}(hx:ρ.ev x=v)(hs:Ou c es v css)(h:Q0 P l Q (upd ρ d (.int .i64 css.length)) w):Q0 P (⟨none, .len d x⟩::l) Q ρ w:=by
 obtain ⟨a,c,hv⟩:=M0.shape hs;exact ar (hx.trans hv) h
theorem Uo {d m:Nat}{x y:Operand}{k:IntKind}(hx:ρ.ev x=v)(hy:ρ.ev y= .int k (m:Int))(hs:Ou c es v css)(hc:css[m]?=some cs)
 (h:∀b o,Pj c b o cs→Q0 P l Q (upd ρ d (.pointer (some ⟨b,o,none⟩))) w):Q0 P (⟨none, .idx d es x y⟩::l) Q ρ w:=by
 obtain ⟨_,a,cap,hv,hlc,hn|⟨b,off,ha,hF,hb,hat⟩⟩:=hs
 · subst hn;simp at hc
 · subst hv ha;have hlt:=(FD.1 hc).1;exact XT hx hy Jo Jo (h b _ ⟨hF,hat _ _ hc⟩)
theorem Up {d:Nat}{x:Operand}{b o:Nat}{u:Value}(hS:St c w L)(ha:Pj c b o cs)(hx:ρ.ev x= .pointer (some ⟨b,o+j,none⟩))(hu:cs[j]?=some u)
 (h:Q0 P l Q (upd ρ d u) w):Q0 P (⟨none, .load1 d x⟩::l) Q ρ w:=Uf hx (ha.now hS) hu h
theorem Yc {d:Nat}{x:Operand}{b o:Nat}{u:Value}(hS:St c w L)(ha:Pj c b o cs)(hx:ρ.ev x= .pointer (some ⟨b,o,none⟩))(hu:cs[0]?=some u)
 (h:Q0 P l Q (upd ρ d u) w):Q0 P (⟨none, .load1 d x⟩::l) Q ρ w:=X7 hx (ha.now hS) hu h
theorem Uq {d n:Nat}{x:Operand}{b o:Nat}(hS:St c w L)(ha:Pj c b o cs)(hx:ρ.ev x= .pointer (some ⟨b,o,none⟩))(hl:cs.length=n)
 (h:Q0 P l Q (upd ρ d (.agg ⟨cs⟩)) w):Q0 P (⟨none, .loadn d n x⟩::l) Q ρ w:=Ug hx (ha.now hS) hl h
theorem cv {d:Nat}{x:Operand}{hi:Option Operand}(hx:ρ.ev x=v)(hs:Ou c es v css)(hmx:mx=none)(hh:Nl ρ css.length hi h')(hl:Nl ρ 0 lo l')(h2:h'≤css.length)(h3:l'≤h')
 (h:∀v',Ou c es v' ((css.take h').drop l')→Q0 P l Q (upd ρ d v') w):Q0 P (⟨none, .sub d es x lo hi mx⟩::l) Q ρ w:=by
 subst hmx;obtain ⟨h0,a,cap,hv,hlc,hc⟩:=hs;subst hv;have hl1:((css.take h').drop l').length=h' - l':=DE;refine iz (m:=cap) hx rfl hh hl (F6 _) Jo h3 (h _ ⟨fun c hc=>h0 c (G5 (H6 hc)),_,cap - l',by rw [hl1],Jo,?_⟩);rcases hc with hc|⟨b,off,ha,hF,hb,hat⟩
 · subst hc;exact .inl Js
 · by_cases he:h'=l'
   · exact .inl (GV Jo)
   · refine .inr ⟨b,off+l'*es,?_,hF,hb,fun m c hm=>?_⟩
     · rw [if_neg Jo,ha];simp only [GC,PO]
     · have hm':css[l'+m]?=some c:=by
        have:=(FD.1 hm).1;rw [HA,Gv Jo] at hm;exact hm
       have:=hat _ _ hm';rw [H8,←Hm] at this;exact this

theorem QZ {d b o:Nat}{x:Operand}{u:Value}(hS:St c w L)(hx:ρ.ev x= .pointer (some ⟨b,o,none⟩))(hi:nth L i=some (blk b T cs))(hu:cs[o]?=some u):NS P ρ w ⟨none, .load1 d x⟩ u:=by
 obtain ⟨F,hr,_⟩:=hS.step hi;exact X9 hx hr.1 hu
theorem oq {d n b o:Nat}{x:Operand}(hS:St c w L)(hx:ρ.ev x= .pointer (some ⟨b,o,none⟩))(hi:nth L i=some (blk b T cs))(hu:(cs.drop o).take n=us)(hl:us.length=n):NS P ρ w ⟨none, .loadn d n x⟩ (.agg ⟨us⟩):=by
 obtain ⟨F,hr,_⟩:=hS.step hi;exact Uj hx hr.1 hu hl
theorem Qw {d n:Nat}{x:Operand}{b o:Nat}{u:Value}(hS:St c w L)(he:Oe v n es m b o)(hx:ρ.ev x= .pointer (some ⟨b,o+j,none⟩))(hi:nth L i=some (sl T es v css))(hn:css.length=n)(hc:css[m]?=some cs)(hu:cs[j]?=some u):NS P ρ w ⟨none, .load1 d x⟩ u:=by
 obtain ⟨F,hr,_⟩:=hS.step hi;exact ⟨_,hx,(he.el hn hr).cell hc hu⟩
theorem ga {d:Nat}{x:Operand}{b o:Nat}{u:Value}(hS:St c w L)(ha:Pj c b o cs)(hx:ρ.ev x= .pointer (some ⟨b,o+j,none⟩))(hu:cs[j]?=some u):NS P ρ w ⟨none, .load1 d x⟩ u:=⟨_,hx,(ha.now hS).cell hu⟩
theorem ot {d n:Nat}{x:Operand}{b o:Nat}(hS:St c w L)(ha:Pj c b o cs)(hx:ρ.ev x= .pointer (some ⟨b,o+j,none⟩))(hu:(cs.drop j).take n=us)(hl:us.length=n):NS P ρ w ⟨none, .loadn d n x⟩ (.agg ⟨us⟩):=⟨_,us,hx,(ha.now hS).cells hu hl,rfl⟩

theorem St.shape (hS:St c w L)(hi:nth L i=some (sl T es v css)):∃a c,v= .slice a css.length c:=by
 obtain ⟨F,hr,_⟩:=hS.step hi;exact Sl.shape hr
theorem St.oneC (hS:St c w L)(hi:nth L i=some (sl T es v css)):Go.Lir.oneC v=true:=by
 obtain ⟨F,hr,_⟩:=hS.step hi;exact Sl.oneC hr
theorem QL {d n:Nat}{x:Operand}(hS:St c w L)(hx:ρ.ev x=v)(hi:nth L i=some (sl T es v css))(hn:css.length=n)(h:Q0 P l Q (upd ρ d (.int .i64 n)) w):Q0 P (⟨none, .len d x⟩::l) Q ρ w:=by
 subst hn;exact cr hS hx hi h
theorem Yd {d n:Nat}{x:Operand}(hx:ρ.ev x=v)(hs:Ou c es v css)(hn:css.length=n)(h:Q0 P l Q (upd ρ d (.int .i64 n)) w):Q0 P (⟨none, .len d x⟩::l) Q ρ w:=by
 subst hn;exact cu hx hs h
theorem ou {d n:Nat}{x:Operand}{b o:Nat}{xs:List Int}(hS:St c w L)(he:Oe v n 1 m b o)(hx:ρ.ev x= .pointer (some ⟨b,o,none⟩))(hi:nth L i=some (sl T 1 v (xs.map Qs)))(hn:(xs.map Qs).length=n)(hm:m<xs.length)
 (h:Q0 P l Q (upd ρ d (.int .i64 (xs.getD m 0))) w):Q0 P (⟨none, .load1 d x⟩::l) Q ρ w:=Qx hS he hx hi hn (Ns Qs xs 0 hm) rfl h
theorem Ur {d n:Nat}{x:Operand}{b o:Nat}(hS:St c w L)(he:Oe v n 1 m b o)(hx:ρ.ev x= .pointer (some ⟨b,o,none⟩))(hi:nth L i=some (sl T 1 v (xs.map QH)))(hn:(xs.map QH).length=n)(hm:m<xs.length)
 (h:Q0 P l Q (upd ρ d (.bool (xs.getD m false))) w):Q0 P (⟨none, .load1 d x⟩::l) Q ρ w:=Qx hS he hx hi hn (Ns QH xs false hm) rfl h
theorem Us {n:Nat}{x y:Operand}{b o:Nat}{xs:List Int}{u:Int}(hS:St c w L)(he:Oe v n 1 m b o)(hx:ρ.ev x= .pointer (some ⟨b,o,none⟩))(hy:ρ.ev y= .int .i64 u)(hi:nth L i=some (sl T 1 v (xs.map Qs)))(hn:(xs.map Qs).length=n)(hm:m<xs.length)
 (h:∀w',St c w' (L.set i (sl T 1 v ((xs.set m u).map Qs)))→Q0 P l Q ρ w'):Q0 P (⟨none, .store1 x y⟩::l) Q ρ w:=
 lL hS he hx hy hi hn (Ns Qs xs 0 hm) Jo rfl fun w' hS=>h w' (by rw [←map_set];exact hS)
theorem y7 {n:Nat}{x y:Operand}{b o:Nat}{u:Bool}(hS:St c w L)(he:Oe v n 1 m b o)(hx:ρ.ev x= .pointer (some ⟨b,o,none⟩))(hy:ρ.ev y= .bool u)(hi:nth L i=some (sl T 1 v (xs.map QH)))(hn:(xs.map QH).length=n)(hm:m<xs.length)
 (h:∀w',St c w' (L.set i (sl T 1 v ((xs.set m u).map QH)))→Q0 P l Q ρ w'):Q0 P (⟨none, .store1 x y⟩::l) Q ρ w:=
 lL hS he hx hy hi hn (Ns QH xs false hm) Jo rfl fun w' hS=>h w' (by rw [←map_set];exact hS)

theorem Ut {d:Nat}{f:FuncId}(hc:KK P f [] w S)(h:∀v w',S v w'→Q0 P l Q (upd ρ d v) w'):Q0 P (⟨none, .call (some d) f []⟩::l) Q ρ w:=Tw Jr hc h
theorem ow {d:Nat}{f:FuncId}(h0:ρ.ev x0=u0)(hc:KK P f [u0] w S)(h:∀v w',S v w'→Q0 P l Q (upd ρ d v) w'):Q0 P (⟨none, .call (some d) f [x0]⟩::l) Q ρ w:=Tw (by subst h0;rfl) hc h
theorem cy {d:Nat}{f:FuncId}(h0:ρ.ev x0=u0)(h1:ρ.ev x1=u1)(hc:KK P f [u0,u1] w S)(h:∀v w',S v w'→Q0 P l Q (upd ρ d v) w'):Q0 P (⟨none, .call (some d) f [x0,x1]⟩::l) Q ρ w:=Tw (by subst h0 h1;rfl) hc h
theorem Uu {d:Nat}{f:FuncId}(h0:ρ.ev x0=u0)(h1:ρ.ev x1=u1)(h2:ρ.ev x2=u2)(hc:KK P f [u0,u1,u2] w S)(h:∀v w',S v w'→Q0 P l Q (upd ρ d v) w'):Q0 P (⟨none, .call (some d) f [x0,x1,x2]⟩::l) Q ρ w:=Tw (by subst h0 h1 h2;rfl) hc h
theorem Uv {d:Nat}{f:FuncId}(h0:ρ.ev x0=u0)(h1:ρ.ev x1=u1)(h2:ρ.ev x2=u2)(h3:ρ.ev x3=u3)(hc:KK P f [u0,u1,u2,u3] w S)(h:∀v w',S v w'→Q0 P l Q (upd ρ d v) w'):Q0 P (⟨none, .call (some d) f [x0,x1,x2,x3]⟩::l) Q ρ w:=Tw (by subst h0 h1 h2 h3;rfl) hc h
theorem Ye {d:Nat}{T:TypeId}{x y:Operand}{a b:Bool}(ht:P.underlying T=some .bool)(hx:ρ.ev x= .bool a)(hy:ρ.ev y= .bool b)(he:a=b)
 (h:Q0 P l Q (upd ρ d (.bool false)) w):Q0 P (⟨none, .bin d .neq T x y⟩::l) Q ρ w:=ax ht hx hy (by subst he;rw [bne_self_eq_false];exact h)
theorem y8 (k:Nat){T e:TypeId}{a:Option Addr}(ht:P.underlying T=some (.pointer e)):(Op.equalIn (k+1) T (.pointer a) (.pointer none)).run P w0= .ok a.isNone w0:=by
 simp only [Op.equalIn,F7,Q8 P T _ w0 ht,FO];cases a<;>simp [Gk]
theorem tp {T e:TypeId}{a:Option Addr}(ht:P.underlying T=some (.pointer e)):(Op.equal T (.pointer a) (.pointer none)).run P w0= .ok a.isNone w0:=y8 9999 ht
theorem ox {d:Nat}{T e:TypeId}{x y:Operand}(ht:P.underlying T=some (.pointer e))(hx:ρ.ev x= .pointer none)(hy:ρ.ev y= .pointer none)
 (h:Q0 P l Q (upd ρ d (.bool true)) w):Q0 P (⟨none, .bin d .eql T x y⟩::l) Q ρ w:=
 ⟨_,fun w0=>by rw [hx,hy];simp [eqGuard,binOp,tp ht],h⟩
theorem oy {d:Nat}{T e:TypeId}{x y:Operand}{a:Addr}(ht:P.underlying T=some (.pointer e))(hx:ρ.ev x= .pointer (some a))(hy:ρ.ev y= .pointer none)
 (h:Q0 P l Q (upd ρ d (.bool false)) w):Q0 P (⟨none, .bin d .eql T x y⟩::l) Q ρ w:=
 ⟨_,fun w0=>by rw [hx,hy];simp [eqGuard,binOp,tp ht],h⟩
end
end
section
inductive Ty where
 | mk:Int→Int→List Ty→Ty
def Ty.kind:Ty→Int| .mk k _ _=>k
def Ty.r:Ty→Int| .mk _ r _=>r
def Ty.l:Ty→List Ty| .mk _ _ l=>l
def M1 (H:Ld)(F:Nat→Prop):Nat→List Value→Ty→Prop
 | 0,_,_=>False
 | n+1,cs,t=>∃v css,cs=[.int .i64 t.kind, .int .i64 t.r,v]∧M0 H 3 v F css∧css.length=t.l.length∧t.l.length≤140737488355328∧∀(m:Nat) (x:Ty),t.l[m]?=some x→∃d,css[m]?=some d∧M1 H F n d x
theorem M1.len:∀{n:Nat}{cs:List Value}{t:Ty},M1 H F n cs t→cs.length=3
 | 0,_,_,h=>h.elim
 | _+1,_,_,h=>by obtain ⟨_,_,rfl,_⟩:=h;rfl
theorem M1.more:∀{n m:Nat}{cs:List Value}{t:Ty},n≤m→M1 H F n cs t→M1 H F m cs t
 | 0,_,_,_,_,h=>h.elim
 | n+1,0,_,_,hm,_=>by omega
 | n+1,m+1,_,_,hm,h=>by
   obtain ⟨v,css,h1,h2,h3,h4,h5⟩:=h;exact ⟨v,css,h1,h2,h3,h4,fun i x hx=>by obtain ⟨d,h6,h7⟩:=h5 i x hx;exact ⟨d,h6,h7.more Jo⟩⟩
theorem M1.turn (hs:∀v css,M0 H 3 v F css→M0 H' 3 v G css):∀{n:Nat}{cs:List Value}{t:Ty},M1 H F n cs t→M1 H' G n cs t
 | 0,_,_,h=>h.elim
 | n+1,_,_,h=>by
   obtain ⟨v,css,h1,h2,h3,h4,h5⟩:=h;exact ⟨v,css,h1,hs _ _ h2,h3,h4,fun i x hx=>by obtain ⟨d,h6,h7⟩:=h5 i x hx;exact ⟨d,h6,h7.turn hs⟩⟩
def Uw (c:Cx)(cs:List Value)(t:Ty):Prop:=∃n,M1 c.H0 c.K n cs t
theorem Uw.up {c c':Cx}{t:Ty}(h:Uw c cs t)(hle:c.Le c'):Uw c' cs t:=by
 obtain ⟨n,h⟩:=h;exact ⟨n,h.turn fun v css hs=>Ou.up hs hle⟩
theorem oz {xs:List α}{R:Nat→α→Prop}(hm:∀n m x,n≤m→R n x→R m x)(h:∀x∈xs,∃n,R n x):∃n,∀x∈xs,R n x:=by
 induction xs with
 | nil=>exact ⟨0,by simp⟩
 | cons x xs ih=>
   obtain ⟨n,hn⟩:=ih fun y hy=>h y (Gr _ hy);obtain ⟨m,hx⟩:=h x (GK ..);refine ⟨max n m,fun y hy=>?_⟩;rcases FX.1 hy with rfl|hy
   · exact hm _ _ _ (Nat.le_max_right ..) hx
   · exact hm _ _ _ (Nat.le_max_left ..) (hn y hy)
theorem Uw.mk {c:Cx}{k r:Int}{l:List Ty}(hs:Ou c 3 v css)(hl:css.length=l.length)(hm:l.length≤140737488355328)(h:∀(m:Nat) (x:Ty),l[m]?=some x→∃d,css[m]?=some d∧Uw c d x):Uw c [.int .i64 k, .int .i64 r,v] (.mk k r l):=by
 obtain ⟨n,hn⟩:=oz (xs:=List.range l.length) (R:=fun n m=>∀x,l[m]?=some x→∃d,css[m]?=some d∧M1 c.H0 c.K n d x) (fun n m i hnm hr x hx=>by obtain ⟨d,h1,h2⟩:=hr x hx;exact ⟨d,h1,h2.more hnm⟩) (fun m hm=>by
  have hlt:=Gp.1 hm;obtain ⟨d,h1,n,h2⟩:=h m _ (FB hlt);exact ⟨n,fun x hx=>by rw [FB hlt] at hx;cases hx;exact ⟨d,h1,h2⟩⟩)
 exact ⟨n+1,v,css,rfl,hs,hl,hm,fun m x hx=>hn m (Gp.2 (FD.1 hx).1) x hx⟩
theorem Uw.out {c:Cx}{t:Ty}(h:Uw c cs t):∃v css,cs=[.int .i64 t.kind, .int .i64 t.r,v]∧Ou c 3 v css∧css.length=t.l.length∧t.l.length≤140737488355328∧∀(m:Nat) (x:Ty),t.l[m]?=some x→∃d,css[m]?=some d∧Uw c d x:=by
 obtain ⟨n,h⟩:=h
 cases n with
 | zero=>exact h.elim
 | succ n=>
   obtain ⟨v,css,h1,h2,h3,h4,h5⟩:=h;exact ⟨v,css,h1,h2,h3,h4,fun m x hx=>by obtain ⟨d,h6,h7⟩:=h5 m x hx;exact ⟨d,h6,n,h7⟩⟩

theorem y9 {e:TypeId}{enc:TypeId×Value→Hd}{y:DataW Hd×List MemPlace}{rd:List Value→α→Prop}(hsz:P.cellsOf e=es)(hes:0<es)(hlen:∀d x,rd d x→d.length=es)
 (ht:P.underlying T=some (.slice e))(h:DataW.trod enc P w 0 (fun _=>true) true fuel T cs=some y)(hby:0<P.bytesOf e)(hfit:Fits P T y.1)
 (hel:∀(n:Nat) (d:List Value) (z:DataW Hd×List MemPlace),DataW.trod enc P w 0 (fun _=>true) true n e d=some z→Fits P e z.1→SizeOf.sizeOf z.1<SizeOf.sizeOf y.1→∃x,rd d x):
 ∃(xs:List α) (v:Value) (css:List (List Value)),cs=[v]∧M0 w.heap es v (fun _=>True) css∧css.length=xs.length∧xs.length≤140737488355328∧∀(m:Nat) (x:α),xs[m]?=some x→∃d,css[m]?=some d∧rd d x:=by
 rcases Ku ht h with ⟨rfl,_⟩|⟨a,len,cap,m,n,D,Pl,rfl,_,hl,hm,hmm,hy,hi⟩
 · exact Cf
 · have hmc:m=cap:=by simpa using hmm
   subst hmc;have hfit':=hfit;rw [hy] at hfit';obtain ⟨hlen0,hel0⟩:=s9 ht hfit' hby;simp only [FF,Ix] at hlen0
   have hel2:∀i,i<len→∃(d:List Value) (x:α),w.cells? 0 (a.add (i*es)) es=some d∧rd d x:=by
    intro i hi';obtain ⟨d,h1,h2⟩:=hi i Jo;rw [hsz] at h1
    obtain ⟨x,hx⟩:=hel n d _ h2 (hel0 _ (Gm.2 ⟨i,Gp.2 hi',rfl⟩)) (by
     rw [hy];have hmem:D i∈(List.range len).map D:=Gm.2 ⟨i,Gp.2 hi',rfl⟩;have:=IQ hmem;simp only [DataW.slice.sizeOf_spec];omega)
    exact ⟨d,x,h1,hx⟩
   have build:∀n,n≤len→∃(css:List (List Value)) (xs:List α),css.length=n∧xs.length=n∧
    ∀m,m<n→∃d x,css[m]?=some d∧xs[m]?=some x∧w.cells? 0 (a.add (m*es)) es=some d∧rd d x:=by
    intro n
    induction n with
    | zero=>intro _;exact ⟨[],[],rfl,rfl,fun m hm=>absurd hm Jo⟩
    | succ n ih=>
      intro hn;obtain ⟨css,xs,h1,h2,h3⟩:=ih Jo;obtain ⟨d,x,h4,h5⟩:=hel2 n Jo;refine ⟨css++[d],xs++[x],by simp [h1],by simp [h2],fun m hm=>?_⟩;by_cases hmn:m=n
      · subst hmn;exact ⟨d,x,by rw [FI Jo,h1];simp,by rw [FI Jo,h2];simp,h4,h5⟩
      · obtain ⟨d',x',g1,g2,g3,g4⟩:=h3 m Jo;exact ⟨d',x',by rw [FL Jo];exact g1,by rw [FL Jo];exact g2,g3,g4⟩
   obtain ⟨css,xs,h1,h2,h3⟩:=build len (F6 _);refine ⟨xs, .slice (some a) len m,css,rfl,⟨?_,some a,m,by rw [h1],Jo,?_⟩,Jo,Jo,?_⟩
   · intro d hd;obtain ⟨i,hi'⟩:=GH.1 hd;have hlt:=(FD.1 hi').1;obtain ⟨d',x',g1,g2,g3,g4⟩:=h3 i Jo;rw [hi'] at g1;simp only [FU] at g1;subst g1;exact hlen _ _ g4
   · rcases I5 len with h0|h0
     · exact .inl (GV Jo)
     · obtain ⟨d0,x0,_,_,g3,_⟩:=h3 0 h0;obtain ⟨hsp,hbl,_⟩:=lG g3 hes;have ha0:a.add (0*es)=a:=(by rw [II];rfl);rw [ha0] at hsp hbl;obtain ⟨b,o,s⟩:=a;simp only at hsp;subst hsp;refine .inr ⟨b,o,rfl,trivial,hbl,fun i d hd=>?_⟩;have hlt:=(FD.1 hd).1;obtain ⟨d',x',g1,g2,g3,g4⟩:=h3 i Jo;rw [hd] at g1;simp only [FU] at g1;subst g1;rw [PO] at g3;exact (lG g3 hes).2.2
   · intro i x hx;have hlt:=(FD.1 hx).1;obtain ⟨d',x',g1,g2,g3,g4⟩:=h3 i Jo;rw [hx] at g2;simp only [FU] at g2;subst g2;exact ⟨d',g1,g4⟩
theorem oA {enc:TypeId×Value→Hd}{y:DataW Hd×List MemPlace}(h:DataW.trod enc P w 0 (fun _=>true) true fuel T cs=some y)
 {i o s:Nat}{t:TypeId}(hf:fieldAt P T i=some (o,s,t))(hfit:Fits P T y.1):cs.length=P.cellsOf T∧∃n z,DataW.trod enc P w 0 (fun _=>true) true n t ((cs.drop o).take s)=some z∧Fits P t z.1∧SizeOf.sizeOf z.1<SizeOf.sizeOf y.1:=by
 unfold fieldAt at hf;split at hf
 · rename_i fs hu
   simp only [Hi,Hv] at hf;obtain ⟨f,hf,rfl,rfl,rfl⟩:=hf;obtain ⟨xs,n,_,hy,hl,hx,hall⟩:=DataW.trod_struct hu h;have:=hall i f hf;have hlt:=(Ip.1 hf).1;refine ⟨hl,n,xs[i]' DB,?_,?_,?_⟩
   · rw [this,FB Jo]
   · rw [hy] at hfit;exact ta hu hfit hf Fk
   · rw [hy];have hmem:(xs[i]' DB).1∈xs.map (·.1):=Gm.2 ⟨_,HM _,rfl⟩;have:=IQ hmem;simp only [DataW.agg.sizeOf_spec];omega
 · cases hf
inductive Ty.InR:Ty→Prop where
 | mk {k r:Int}{l:List Ty}:(Lit.int .i64 k).wf=true→(Lit.int .i64 r).wf=true→(∀x∈l,x.InR)→Ty.InR (.mk k r l)
theorem oB {n:Int}(h:(Lit.int .i64 n).wf=true): -9223372036854775808≤n∧n≤9223372036854775807:=by
 simp [Lit.wf,IntKind.min,IntKind.max,IntKind.bits,IntKind.signed] at h;omega
theorem Ty.InR.parts {k r:Int}{l:List Ty}(h:(Ty.mk k r l).InR):(-9223372036854775808≤k∧k≤9223372036854775807)∧(-9223372036854775808≤r∧r≤9223372036854775807)∧∀x∈l,x.InR:=by
 cases h with|mk h1 h2 h3=>exact ⟨oB h1,oB h2,h3⟩
theorem oC {P:Program}{T TL t0 t1:TypeId}(h0:fieldAt P T 0=some (0,1,t0))(h1:fieldAt P T 1=some (1,1,t1))(h2:fieldAt P T 2=some (2,1,TL))(hi0:P.underlying t0=some (.int .i64))(hi1:P.underlying t1=some (.int .i64))(hT:P.cellsOf T=3)(hTL:P.underlying TL=some (.slice T))(hby:0<P.bytesOf T)
 {Hd:Type}{enc:TypeId×Value→Hd}{w:World}:∀(N fuel:Nat) (cs:List Value) (y:DataW Hd×List MemPlace),DataW.trod enc P w 0 (fun _=>true) true fuel T cs=some y→Fits P T y.1→SizeOf.sizeOf y.1<N→∃t n,M1 w.heap (fun _=>True) n cs t∧t.InR
 | 0,_,_,_,_,_,hN=>by omega
 | N +1,fuel,cs,y,h,hfit,hN=>by
   obtain ⟨hl,n0,z0,g0,_⟩:=oA h h0 hfit;obtain ⟨_,n1,z1,g1,_⟩:=oA h h1 hfit;obtain ⟨_,n2,z2,g2,u2,hz⟩:=oA h h2 hfit;rw [hT] at hl
   obtain ⟨a,b,v,hc⟩:∃a b v,cs=[a,b,v]:=by
    match cs,hl with
    | [a,b,v],_=>exact ⟨a,b,v,rfl⟩
   subst hc;obtain ⟨k,hk,_,wk⟩:=DataW.trod_int hi0 g0;obtain ⟨r,hr,_,wr⟩:=DataW.trod_int hi1 g1;have hk2:[a]=[Value.int .i64 k]:=hk;have hr2:[b]=[Value.int .i64 r]:=hr;clear hk hr;simp only [Gu,and_true] at hk2 hr2;have g3:DataW.trod enc P w 0 (fun _=>true) true n2 TL [v]=some z2:=g2;clear g2
   obtain ⟨xs,v',css,hv,s1,s2,s3,s4⟩:=y9 (rd:=fun d (x:Nat×Ty)=>M1 w.heap (fun _=>True) x.1 d x.2∧x.2.InR) hT Jd (fun d x hx=>hx.1.len) hTL g3 hby u2 (fun n d z hz1 hz3 hz2=>by
    obtain ⟨t,n,ht,hr⟩:=oC h0 h1 h2 hi0 hi1 hT hTL hby N _ d z hz1 hz3 Jo;exact ⟨(n,t),ht,hr⟩)
   simp only [Gu,and_true] at hv;subst hv hk2 hr2;obtain ⟨n,hn⟩:=oz (xs:=xs) (R:=fun n x=>x.1≤n) (fun n m x h1 h2=>Hj h2 h1) (fun x _=>⟨x.1,F6 _⟩);refine ⟨.mk k r (xs.map (·.2)),n+1,⟨v,css,rfl,s1,by simp [Ty.l,s2],by simpa [Ty.l] using s3,fun m x hx=>?_⟩, .mk wk wr fun x hx=>?_⟩
   rotate_left
   · obtain ⟨p,hp,rfl⟩:=Gm.1 hx;obtain ⟨m,hm⟩:=GH.1 hp;obtain ⟨d,d1,d2⟩:=s4 m p hm;exact d2.2
   simp only [Ty.l,FW,Hi] at hx;obtain ⟨p,hp,rfl⟩:=hx;obtain ⟨d,d1,d2⟩:=s4 m p hp;exact ⟨d,d1,d2.1.more (hn p (FC hp))⟩
def Cod.ty {P:Program}{T TL t0 t1:TypeId}(h0:fieldAt P T 0=some (0,1,t0))(h1:fieldAt P T 1=some (1,1,t1))(h2:fieldAt P T 2=some (2,1,TL))(hi0:P.underlying t0=some (.int .i64))(hi1:P.underlying t1=some (.int .i64))(hT:P.cellsOf T=3)(hTL:P.underlying TL=some (.slice T))(hby:decide (0<P.bytesOf T)=true):Cod P T Ty where
 es:=3
 rd:=fun H cs t=>∃n,M1 H (fun b=>b<H.size) n cs t
 size:=hT
 len:=by rintro _ _ _ ⟨n,h⟩;exact h.len
 stay:=by
  rintro H H' cs t ⟨n,h⟩ hH;exact ⟨n,h.turn fun v css hs=>Ir (hs.of_same fun b hb _=>hH b hb) fun b hb _=>hb⟩
 open_:=fun enc w fuel cs y h hfit=>by
  obtain ⟨t,n,ht,_⟩:=oC h0 h1 h2 hi0 hi1 hT hTL (of_decide_eq_true hby) (SizeOf.sizeOf y.1+1) fuel cs y h hfit Jo;exact ⟨t,n,ht.turn fun v css hs=>Ir hs fun b hb _=>hb⟩
def Cod.tyInt {P:Program}{T TL t0 t1:TypeId}(h0:fieldAt P T 0=some (0,1,t0))(h1:fieldAt P T 1=some (1,1,t1))(h2:fieldAt P T 2=some (2,1,TL))(hi0:P.underlying t0=some (.int .i64))(hi1:P.underlying t1=some (.int .i64))(hT:P.cellsOf T=3)(hTL:P.underlying TL=some (.slice T))(hby:decide (0<P.bytesOf T)=true):Cod P T Ty where
 es:=3
 rd:=fun H cs t=>(∃n,M1 H (fun b=>b<H.size) n cs t)∧t.InR
 size:=hT
 len:=by rintro _ _ _ ⟨⟨n,h⟩,_⟩;exact h.len
 stay:=by
  rintro H H' cs t ⟨⟨n,h⟩,hr⟩ hH;exact ⟨⟨n,h.turn fun v css hs=>Ir (hs.of_same fun b hb _=>hH b hb) fun b hb _=>hb⟩,hr⟩
 open_:=fun enc w fuel cs y h hfit=>by
  obtain ⟨t,n,ht,hr⟩:=oC h0 h1 h2 hi0 hi1 hT hTL (of_decide_eq_true hby) (SizeOf.sizeOf y.1+1) fuel cs y h hfit Jo;exact ⟨t,⟨n,ht.turn fun v css hs=>Ir hs fun b hb _=>hb⟩,hr⟩
theorem Uw.top {t:Ty}(h:∃n,M1 w.heap (fun b=>b<w.heap.size) n cs t):Uw (Cx.top w) cs t:=h
end
section
structure Fld (P:Program) (T:TypeId) (α:Type) where
 rd:Ld→List Value→α→Prop
 stay:∀(H H':Ld) cs x,rd H cs x→(∀b,b<H.size→H'[b]?=H[b]?)→rd H' cs x
 open_:∀{Hd:Type}(enc:TypeId×Value→Hd) (w:World) (fuel:Nat) (cs:List Value) (y:DataW Hd×List MemPlace),DataW.trod enc P w 0 (fun _=>true) true fuel T cs=some y→Fits P T y.1→∃x,rd w.heap cs x
def Fld.none {P:Program}{T:TypeId}:Fld P T Unit:=⟨fun _ _ _=>True,fun _ _ _ _ h _=>h,fun _ _ _ _ _ _ _=>⟨(),trivial⟩⟩
def Fld.more {P:Program}{T t:TypeId}{α β:Type}{i o s:Nat}(c:Cod P t α)(h:fieldAt P T i=some (o,s,t))(f:Fld P T β):Fld P T (α×β) where
 rd:=fun H cs x=>c.rd H ((cs.drop o).take s) x.1∧f.rd H cs x.2
 stay:=fun H H' cs x h hH=>⟨c.stay _ _ _ _ h.1 hH,f.stay _ _ _ _ h.2 hH⟩
 open_:=fun enc w fuel cs y hy hfit=>by
  obtain ⟨_,n,z,g,u⟩:=tc hy h hfit;obtain ⟨a,ha⟩:=c.open_ enc w _ _ _ g u;obtain ⟨b,hb⟩:=f.open_ enc w _ _ _ hy hfit;exact ⟨(a,b),ha,hb⟩
def Fld.cod {P:Program}{T t:TypeId}{α:Type}{o s:Nat}(f:Fld P T α)(h0:fieldAt P T 0=some (o,s,t))(n:Nat)(hn:P.cellsOf T=n):Cod P T α where
 es:=n
 rd:=fun H cs x=>cs.length=n∧f.rd H cs x
 size:=hn
 len:=fun _ _ _ h=>h.1
 stay:=fun H H' cs x h hH=>⟨h.1,f.stay _ _ _ _ h.2 hH⟩
 open_:=fun enc w fuel cs y hy hfit=>by
  obtain ⟨hl,_⟩:=tc hy h0 hfit;obtain ⟨a,ha⟩:=f.open_ enc w _ _ _ hy hfit;exact ⟨a,by rw [hl,hn],ha⟩
end
section

theorem M0.turn (h:M0 H es v F css)(hs:∀b,F b→b<H.size→G b∧H'[b]?=H[b]?):M0 H' es v G css:=by
 obtain ⟨h0,a,cap,hv,hlc,hc|⟨b,off,ha,hF,hb,hat⟩⟩:=h
 · exact BB
 · obtain ⟨h1,h2⟩:=hs b hF hb
   refine ⟨h0,a,cap,hv,hlc, .inr ⟨b,off,ha,h1,?_,fun m c hm=>(hat m c hm).of_same h2⟩⟩;rcases Hc b H'.size with h|h
   · exact h
   · rw [Hl h,Hs hb] at h2;cases h2

structure Rep (α:Type) where
 es:Nat
 pos:0<es
 R:Ld→(Nat→Prop)→List Value→α→Prop
 len:∀{H:Ld}{K:Nat→Prop}{cs:List Value}{x:α},R H K cs x→cs.length=es
 one:∀{H:Ld}{K:Nat→Prop}{cs:List Value}{x:α},R H K cs x→∀u∈cs,oneC u=true
 turn:∀{H H':Ld}{K K':Nat→Prop}{cs:List Value}{x:α},R H K cs x→(∀b,K b→b<H.size→K' b∧H'[b]?=H[b]?)→R H' K' cs x

section
variable {α β:Type}
def Rep.LR (r:Rep α)(H:Ld)(K:Nat→Prop)(css:List (List Value))(l:List α):Prop:=css.length=l.length∧∀(m:Nat) (x:α),l[m]?=some x→∃d,css[m]?=some d∧r.R H K d x
def Rep.SR (r:Rep α)(H:Ld)(K:Nat→Prop)(v:Value)(l:List α):Prop:=∃css,M0 H r.es v K css∧r.LR H K css l∧l.length≤140737488355328
theorem Rep.LR.turn {r:Rep α}{l:List α}(h:r.LR H K css l)(hs:∀b,K b→b<H.size→K' b∧H'[b]?=H[b]?):r.LR H' K' css l:=
 ⟨h.1,fun m x hx=>by obtain ⟨d,h1,h2⟩:=h.2 m x hx;exact ⟨d,h1,r.turn h2 hs⟩⟩
theorem Rep.SR.turn {r:Rep α}{l:List α}(h:r.SR H K v l)(hs:∀b,K b→b<H.size→K' b∧H'[b]?=H[b]?):r.SR H' K' v l:=by
 obtain ⟨css,h1,h2,h3⟩:=h;exact ⟨css,h1.turn hs,h2.turn hs,h3⟩
theorem Rep.LR.nil (r:Rep α)(H:Ld)(K:Nat→Prop):r.LR H K [] []:=⟨rfl,by simp⟩
abbrev GU:=@Rep.LR.nil
theorem Rep.LR.push {r:Rep α}{l:List α}{d:List Value}{x:α}(h:r.LR H K css l)(hd:r.R H K d x):r.LR H K (css++[d]) (l++[x]):=by
 refine ⟨by simp [h.1],fun m y hy=>?_⟩;rcases Hc m l.length with hm|hm
 · rw [FL hm] at hy;rw [FL D9];exact h.2 m y hy
 · rw [FI hm] at hy
   rw [FI D9,h.1];obtain ⟨i,hi⟩:∃i,m - l.length=i:=⟨_,rfl⟩;rw [hi] at hy ⊢
   cases i with
   | zero=>simp only [Gl,FU] at hy;subst hy;exact ⟨d,rfl,hd⟩
   | succ i=>simp at hy
theorem Rep.LR.append {r:Rep α}{l l2:List α}(h:r.LR H K css l)(h2:r.LR H K css2 l2):r.LR H K (css++css2) (l++l2):=by
 refine ⟨by simp [h.1,h2.1],fun m y hy=>?_⟩;rcases Hc m l.length with hm|hm
 · rw [FL hm] at hy;rw [FL D9];exact h.2 m y hy
 · rw [FI hm] at hy;rw [FI D9,h.1];exact h2.2 _ y hy
theorem Rep.LR.set {r:Rep α}{l:List α}{d:List Value}{x:α}{i:Nat}(h:r.LR H K css l)(hd:r.R H K d x):r.LR H K (css.set i d) (l.set i x):=by
 refine ⟨by simp [h.1],fun m y hy=>?_⟩;rw [G9] at hy ⊢;by_cases he:i=m
 · rw [if_pos he] at hy ⊢
   rw [h.1];split at hy
   · rename_i hm;rw [if_pos hm];cases hy;exact ⟨d,rfl,hd⟩
   · cases hy
 · rw [if_neg he] at hy ⊢;exact h.2 m y hy
abbrev Kx:=@Rep.LR.set
theorem Rep.LR.sub {r:Rep α}{l:List α}(h:r.LR H K css l)(i j:Nat):r.LR H K ((css.take j).drop i) ((l.take j).drop i):=by
 refine ⟨by simp [h.1],fun m y hy=>?_⟩;rw [HA] at hy ⊢;have hlt:=(FD.1 hy).1;rw [GM] at hlt;rw [Gv Jo] at hy ⊢;exact h.2 _ y hy
theorem Rep.LR.one {r:Rep α}{l:List α}(h:r.LR H K css l):∀c∈css,∀u∈c,oneC u=true:=by
 intro c hc;obtain ⟨m,hm⟩:=GH.1 hc;have hlt:=(FD.1 hm).1;obtain ⟨d,h1,h2⟩:=h.2 m _ (FB (by rw [←h.1];exact hlt));rw [hm] at h1;cases h1;exact r.one h2
theorem Rep.LR.lens {r:Rep α}{l:List α}(h:r.LR H K css l):∀c∈css,c.length=r.es:=by
 intro c hc;obtain ⟨m,hm⟩:=GH.1 hc;have hlt:=(FD.1 hm).1;obtain ⟨d,h1,h2⟩:=h.2 m _ (FB (by rw [←h.1];exact hlt));rw [hm] at h1;cases h1;exact r.len h2
theorem Rep.SR.oneC {r:Rep α}{l:List α}(h:r.SR H K v l):Go.Lir.oneC v=true:=by
 obtain ⟨css,h1,_⟩:=h;exact Kj h1
theorem Rep.SR.nil (r:Rep α)(H:Ld)(K:Nat→Prop):r.SR H K (.slice none 0 0) []:=⟨[],⟨by simp,none,0,rfl,F6 _, .inl rfl⟩, .nil r H K,by simp⟩
abbrev Gz:=@Rep.SR.nil
theorem Rep.SR.len {r:Rep α}{l:List α}(h:r.SR H K v l):l.length≤140737488355328:=by obtain ⟨_,_,_,h⟩:=h;exact h
theorem Rep.SR.shape {r:Rep α}{l:List α}(h:r.SR H K v l):∃a c,v= .slice a l.length c:=by
 obtain ⟨css,h1,h2,_⟩:=h;obtain ⟨a,c,hv⟩:=M0.shape h1;exact ⟨a,c,by rw [←h2.1];exact hv⟩

abbrev FK:=@Rep.SR.shape
theorem Rep.SR.nil_of {r:Rep α}{l:List α}{n c:Nat}(h:r.SR H K v l)(hv:v= .slice none n c):l=[]:=by
 obtain ⟨css,⟨_,a,cap,hv2,_,hc|⟨b,off,ha,_⟩⟩,h2,_⟩:=h
 · exact GV (by rw [←h2.1,hc];rfl)
 · rw [hv,ha] at hv2;simp at hv2
abbrev I3:=@Rep.SR.nil_of
def Rep.lit (f:α→Value)(hf:∀x,oneC (f x)=true):Rep α where
 es:=1
 pos:=by decide
 R:=fun _ _ cs x=>cs=[f x]
 len:=by rintro _ _ _ _ rfl;rfl
 one:=by rintro _ _ _ x rfl u hu;simp at hu;subst hu;exact hf x
 turn:=fun h _=>h
def KM:Rep Int:=Rep.lit (fun n=> .int .i64 n) (fun _=>rfl)
def Rep.list (r:Rep α):Rep (List α) where
 es:=1
 pos:=by decide
 R:=fun H K cs l=>∃v,cs=[v]∧r.SR H K v l
 len:=by rintro _ _ _ _ ⟨v,rfl,_⟩;rfl
 one:=by rintro _ _ _ _ ⟨v,rfl,h⟩ u hu;simp at hu;subst hu;exact h.oneC
 turn:=by rintro _ _ _ _ _ _ ⟨v,rfl,h⟩ hs;exact ⟨v,rfl,h.turn hs⟩
def Rep.and (r:Rep α)(p:α→Prop):Rep α where
 es:=r.es
 pos:=r.pos
 R:=fun H K cs x=>r.R H K cs x∧p x
 len:=fun h=>r.len h.1
 one:=fun h=>r.one h.1
 turn:=fun h hs=>⟨r.turn h.1 hs,h.2⟩
def K0:Rep Ty where
 es:=3
 pos:=by decide
 R:=fun H K cs t=>∃n,M1 H K n cs t
 len:=by rintro _ _ _ _ ⟨n,h⟩;exact h.len
 one:=by
  rintro _ _ _ _ ⟨n,h⟩
  cases n with
  | zero=>exact h.elim
  | succ n=>
    obtain ⟨v,css,rfl,h2,_⟩:=h;intro u hu;simp at hu;rcases hu with rfl|rfl|rfl
    · rfl
    · rfl
    · exact Kj h2
 turn:=by rintro _ _ _ _ _ _ ⟨n,h⟩ hs;exact ⟨n,h.turn fun v css hv=>hv.turn hs⟩
theorem Qe {t:Ty}(h:K0.R H K cs t):∃v,cs=[.int .i64 t.kind, .int .i64 t.r,v]∧K0.SR H K v t.l:=by
 obtain ⟨n,h⟩:=h
 cases n with
 | zero=>exact h.elim
 | succ n=>
   obtain ⟨v,css,h1,h2,h3,h4,h5⟩:=h;exact ⟨v,h1,css,h2,⟨h3,fun m x hx=>by obtain ⟨d,h6,h7⟩:=h5 m x hx;exact ⟨d,h6,n,h7⟩⟩,h4⟩
theorem Rc {k r:Int}{l:List Ty}(h:K0.SR H K v l):K0.R H K [.int .i64 k, .int .i64 r,v] (.mk k r l):=by
 obtain ⟨css,h1,h2,h3⟩:=h
 obtain ⟨n,hn⟩:=oz (xs:=List.range l.length) (R:=fun n m=>∀x,l[m]?=some x→∃d,css[m]?=some d∧M1 H K n d x) (fun n m i hnm hr x hx=>by obtain ⟨d,h1,h2⟩:=hr x hx;exact ⟨d,h1,h2.more hnm⟩) (fun m hm=>by
  have hlt:=Gp.1 hm;obtain ⟨d,h4,n,h5⟩:=h2.2 m _ (FB hlt);exact ⟨n,fun x hx=>by rw [FB hlt] at hx;cases hx;exact ⟨d,h4,h5⟩⟩)
 exact ⟨n+1,v,css,rfl,h1,h2.1,h3,fun m x hx=>hn m (Gp.2 (FD.1 hx).1) x hx⟩

abbrev Rep.at (r:Rep α)(c:Cx)(cs:List Value)(x:α):Prop:=r.R c.H0 c.K cs x
abbrev Rep.sl (r:Rep α)(c:Cx)(v:Value)(l:List α):Prop:=r.SR c.H0 c.K v l
abbrev Rep.ls (r:Rep α)(c:Cx)(css:List (List Value))(l:List α):Prop:=r.LR c.H0 c.K css l
theorem Cx.Le.turn {c c':Cx}(h:c.Le c'):∀b,c.K b→b<c.H0.size→c'.K b∧c'.H0[b]?=c.H0[b]?:=fun b hb _=>h.K b hb
theorem Rep.R.up {r:Rep α}{c c':Cx}{x:α}(h:r.at c cs x)(hle:c.Le c'):r.at c' cs x:=r.turn h hle.turn
abbrev IW:=@Rep.R.up
theorem Rep.SR.up {r:Rep α}{c c':Cx}{l:List α}(h:r.sl c v l)(hle:c.Le c'):r.sl c' v l:=Rep.SR.turn h hle.turn
abbrev GJ:=@Rep.SR.up
theorem Rep.LR.up {r:Rep α}{c c':Cx}{v:List (List Value)}{l:List α}(h:r.ls c v l)(hle:c.Le c'):r.ls c' v l:=Rep.LR.turn h hle.turn
abbrev JZ:=@Rep.LR.up
theorem St.freezeL {r:Rep α}{c:Cx}{L:List Res}{T:TypeId}{es:Nat}{v:Value}{css:List (List Value)}{l:List α}(h:St c w (sl T es v css::L))(hl:r.ls c css l)(hes:r.es=es)(hm:l.length≤140737488355328):∃c',c.Le c'∧St c' w L∧r.sl c' v l:=by
 subst hes;obtain ⟨c',h1,h2,h3⟩:=h.freezeS;exact ⟨c',h1,h2,css,h3,hl.up h1,hm⟩
abbrev GF:=@St.freezeL
theorem Rep.SR.ints {c:Cx}{l:List Int}(h:KM.sl c v l):Ou c 1 v (l.map Qs):=by
 obtain ⟨css,h1,h2,h3⟩:=h
 have:css=l.map Qs:=by
  apply Hu;intro m;rw [FW];rcases Hc m l.length with hm|hm
  · obtain ⟨d,h4,h5⟩:=h2.2 m _ (FB hm);have h5:d=[_]:=h5;rw [h4,FB hm,h5];rfl
  · rw [Gb (by rw [h2.1];exact hm),Gb hm];rfl
 rw [this] at h1;exact h1
theorem Ou.ints {c:Cx}{l:List Int}(h:Ou c 1 v (l.map Qs))(hm:l.length≤140737488355328):KM.sl c v l:=
 ⟨_,h,⟨by simp,fun m x hx=>⟨Qs x,by rw [FW,hx];rfl,rfl⟩⟩,hm⟩

section
variable {P:Program}{l:List GO}{Q:QT}{ρ:La}{w:World}{c:Cx}{L:List Res}{r:Rep α}{xs:List α}{v:Value}{es:Nat}
theorem gd {d:Nat}{x y:Operand}{k:IntKind}{n:Int}(hx:ρ.ev x=v)(hy:ρ.ev y= .int k n)(hK:r.sl c v xs)(hes:r.es=es)(h0:0≤n)(hn:n<xs.length)
 (h:∀b o cs a,Pj c b o cs→xs[n.toNat]?=some a→r.at c cs a→Q0 P l Q (upd ρ d (.pointer (some ⟨b,o,none⟩))) w):Q0 P (⟨none, .idx d es x y⟩::l) Q ρ w:=by
 subst hes;obtain ⟨css,h1,h2,h3⟩:=hK;have hn':n.toNat<xs.length:=DB;obtain ⟨cs,h4,h5⟩:=h2.2 n.toNat _ (FB hn');exact Uo (m:=n.toNat) hx (by rw [hy,Gh h0]) h1 h4 fun b o hb=>h b o cs _ hb (FB hn') h5
theorem TA {d m:Nat}{x y:Operand}{k:IntKind}(hx:ρ.ev x=v)(hy:ρ.ev y= .int k (m:Int))(hK:r.sl c v xs)(hes:r.es=es)(hn:m<xs.length)
 (h:∀b o cs a,Pj c b o cs→xs[m]?=some a→r.at c cs a→Q0 P l Q (upd ρ d (.pointer (some ⟨b,o,none⟩))) w):Q0 P (⟨none, .idx d es x y⟩::l) Q ρ w:=by
 subst hes;obtain ⟨css,h1,h2,h3⟩:=hK;obtain ⟨cs,h4,h5⟩:=h2.2 m _ (FB hn);exact Uo (m:=m) hx hy h1 h4 fun b o hb=>h b o cs _ hb (FB hn) h5
theorem Q1 {l:List α}{x:α}(h:l[m]?=some x):l.drop m=x::l.drop (m+1):=by
 obtain ⟨hm,rfl⟩:=FD.1 h;exact JL hm
theorem Ux {l:List α}{x:α}(h:l[m]?=some x):l.take (m+1)=l.take m++[x]:=by
 rw [Iy,h];rfl
theorem QB {n:Int}(h:KM.at c cs n):cs=[.int .i64 n]:=h
theorem oD:∀{L:List Res}{i:Nat}{a a':Res},nth L i=some a→nth (L.set i a') i=some a'
 | [],_,_,_,h=>by cases h
 | _::_,0,_,_,_=>rfl
 | _::L,i+1,_,_,h=>oD (L:=L) (i:=i) h
theorem Yf {T d Ty i k b:Nat}{z:List Value}{x y:Operand}{a:α}(hel:N6 P Ts=some (T,es,nb,z))
 (hts:∃e2,P.underlying Ts2=some (.slice e2))(hS:St c w L)(hx:ρ.ev x=v)(hy:ρ.ev y= .slice (some ⟨b,0,none⟩) 1 1)(hi:nth L i=some (Go.Lir.sl T es v css))(hk:nth L k=some (blk b T' ds))(hls:r.ls c css xs)(ha:r.at c ds a)(hes:r.es=es)(hb:(xs.length+1)*nb≤140737488355328)
 (h : ∀ v' w' css', r.ls c css' (xs ++ [a]) → oneC v' = true → St c w' (L.set i (Go.Lir.sl T es v' css')) → Q0 P l Q (upd ρ d v') w'): Q0 P (⟨none, .raw ⟨some d, .call ⟨.builtin .append, #[x, y], #[Ts, Ts2]⟩, Ty, "", #[], none⟩⟩ :: l) Q ρ w :=
 Ow hel (.inl hts) hS hx hy hi (hS.srcB hk ((r.len ha).trans hes) (r.one ha)) (by rw [hls.1];exact hb) fun v' w' hS'=>h v' w' _ (hls.push ha) (hS'.oneC (oD hi)) hS'
theorem Yg {T d Ty i:Nat}{z:List Value}{x y:Operand}{ys:List α}(hel:N6 P Ts=some (T,es,nb,z))
 (hts:∃e2,P.underlying Ts2=some (.slice e2))(hS:St c w L)(hx:ρ.ev x=v)(hy:ρ.ev y=v2)(hi:nth L i=some (Go.Lir.sl T es v css))(hls:r.ls c css xs)(hK:r.sl c v2 ys)(hes:r.es=es)(hb:(xs.length+ys.length)*nb≤140737488355328)
 (h : ∀ v' w' css', r.ls c css' (xs ++ ys) → oneC v' = true → St c w' (L.set i (Go.Lir.sl T es v' css')) → Q0 P l Q (upd ρ d v') w'): Q0 P (⟨none, .raw ⟨some d, .call ⟨.builtin .append, #[x, y], #[Ts, Ts2]⟩, Ty, "", #[], none⟩⟩ :: l) Q ρ w := by
 subst hes;obtain ⟨css2,h1,h2,h3⟩:=hK;exact Ow hel (.inl hts) hS hx hy hi (Ou.src h1 hS h2.one) (by rw [hls.1,h2.1];exact hb) fun v' w' hS'=>h v' w' _ (hls.append h2) (hS'.oneC (oD hi)) hS'
theorem tq {d:Nat}{x:Operand}{f:FuncId}(hx:ρ.ev x= .func (.func f) #[] #[])(hf:SP P f=true)(hxs:os.map ρ.ev=args)(hc:KK P f args w S)
 (h:∀v w',S v w'→Q0 P l Q (upd ρ d v) w'):Q0 P (⟨none, .callv (some d) x os⟩::l) Q ρ w:=by
 unfold SP at hf;rw [I7] at hf;obtain ⟨fn,h1,h2⟩:=hf;rw [FN,G7] at h2;refine sT (cap:=[]) hx h1 h2.1 h2.2 (by rw [hxs,GL]) hc ?_;rintro e w' ⟨v,rfl,hv⟩;exact h v w' hv
theorem iS {d:Nat}{x:Operand}{b o:Nat}{u:Value}(hS:St c w L)(ha:Pj c b o cs)(hx:ρ.ev x= .pointer (some ⟨b,o,none⟩))(hu:cs[0]?=some u):NS P ρ w ⟨none, .load1 d x⟩ u:=ga (j:=0) hS ha hx hu
theorem oE {d n:Nat}{x:Operand}{b o:Nat}(hS:St c w L)(ha:Pj c b o cs)(hx:ρ.ev x= .pointer (some ⟨b,o,none⟩))(hu:cs.take n=us)(hl:us.length=n):NS P ρ w ⟨none, .loadn d n x⟩ (.agg ⟨us⟩):=ot (j:=0) hS ha hx hu hl
theorem zd {n i b T:Nat}{x y:Operand}(hS:St c w L)(hx:ρ.ev x= .pointer (some ⟨b,0,none⟩))(hy:ρ.ev y= .agg ⟨us⟩)(hn:us.length=n)(hi:nth L i=some (blk b T cs))(hc:cs.length=n)(h1:∀u∈us,oneC u=true)
 (h:∀w',St c w' (L.set i (blk b T us))→Q0 P l Q ρ w'):Q0 P (⟨none, .storen n x y⟩::l) Q ρ w:=
 Rb hS hx hy hn hi Jo h1 DE h
theorem og:∀{a b:List GO}{Q:QT}{ρ:La}{w:World},Q0 P a (Qr (Q0 P b Q) Q) ρ w→Q0 P (a++b) Q ρ w
 | [],_,_,_,_,h=>h
 | ⟨none,o⟩::a,b,Q,ρ,w,h=>by
   simp only [G3,Q0] at h ⊢;exact CP
 | ⟨some (s,b'),o⟩::a,b,Q,ρ,w,h=>by
   simp only [G3,Q0] at h ⊢;split
   · rename_i hw;rw [if_pos hw] at h;exact CP
   · rename_i hw;rw [if_neg hw] at h;exact og h
theorem iT {l:List GO}(n:Nat)(J:La→World→Prop)(ha:Q0 P (l.take n) (Qr J Q) ρ w)(hb:∀ρ w,J ρ w→Q0 P (l.drop n) Q ρ w):Q0 P l Q ρ w:=by
 rw [←Ho n l];exact og (nX (lH hb fun _ _ _ h=>h) ha)
theorem iU {d:Nat}{x:Operand}(hx:ρ.ev x=v)(hK:r.sl c v xs)(h:Q0 P l Q (upd ρ d (.int .i64 xs.length)) w):Q0 P (⟨none, .len d x⟩::l) Q ρ w:=by
 obtain ⟨css,h1,h2,h3⟩:=hK;exact Yd hx h1 h2.1 h
theorem iV {d:Nat}{x:Operand}{hi:Option Operand}(hx:ρ.ev x=v)(hK:r.sl c v xs)(hes:r.es=es)(hmx:mx=none)(hh:Nl ρ xs.length hi h')(hl:Nl ρ 0 lo l')(h2:h'≤xs.length)(h3:l'≤h')
 (h:∀v',r.sl c v' ((xs.take h').drop l')→Q0 P l Q (upd ρ d v') w):Q0 P (⟨none, .sub d es x lo hi mx⟩::l) Q ρ w:=by
 subst hes;obtain ⟨css,h1,g2,g3⟩:=hK;exact cv hx h1 hmx (by rw [g2.1];exact hh) hl (by rw [g2.1];exact h2) h3 fun v' hv=>h v' ⟨_,hv,g2.sub _ _,by simp;omega⟩
end
end

section
variable {P:Program}{T e:TypeId}{α β:Type}
def Cod.rep (c:Cod P T α)(r:Rep β)(hs:c.es=r.es)(h:∀(H:Ld) cs x,c.rd H cs x→∃y,r.R H (· < H.size) cs y):Cod P T β where
 es:=r.es
 rd:=fun H cs y=>r.R H (· < H.size) cs y
 size:=by rw [←hs];exact c.size
 len:=fun _ _ _ h=>r.len h
 stay:=fun H H' cs x hx hH=>r.turn hx fun b hb hlt=>by
  have:=hH b hlt;refine ⟨?_,this⟩;rcases Hc b H'.size with h|h
  · exact h
  · rw [Hl h,Hs hlt] at this;cases this
 open_:=fun enc w fuel cs y hy hfit=>by
  obtain ⟨x,hx⟩:=c.open_ enc w fuel cs y hy hfit;exact h _ _ _ hx
theorem Yh {r:Rep α}{n:Nat}{xs:List α}(hn:r.es=n)
 (h:∃v css,cs=[v]∧M0 H n v (fun _=>True) css∧css.length=xs.length∧xs.length≤140737488355328∧∀(m:Nat) (x:α),xs[m]?=some x→∃d,css[m]?=some d∧r.R H (· < H.size) d x):r.list.R H (· < H.size) cs xs:=by
 obtain ⟨v,css,rfl,h1,h2,h3,h4⟩:=h;subst hn;exact ⟨v,rfl,css,Ir h1 fun b hb _=>hb,⟨h2,h4⟩,h3⟩
def Cod.listOf (c:Cod P e β)(r:Rep β)(hs:c.es=r.es)(h:∀(H:Ld) cs x,c.rd H cs x→r.R H (· < H.size) cs x)(ht:P.underlying T=some (.slice e))(h1:P.cellsOf T=1)(hby:decide (0<P.bytesOf e)=true):Cod P T (List β):=
 Cod.rep (Cod.slice c ht h1 (by rw [hs];exact r.pos) hby) r.list rfl fun H cs x hx=>⟨x,Yh hs.symm (by
  obtain ⟨v,css,g1,g2,g3,g4,g5⟩:=hx;exact ⟨v,css,g1,g2,g3,g4,fun m y hy=>by obtain ⟨d,g6,g7⟩:=g5 m y hy;exact ⟨d,g6,h _ _ _ g7⟩⟩)⟩
structure Cod.Of (P:Program) (T:TypeId){α:Type}(r:Rep α) where
 cod:Cod P T α
 es:cod.es=r.es
 rd:∀(H:Ld) cs x,cod.rd H cs x→r.R H (· < H.size) cs x
def Cod.of (c:Cod P T α)(r:Rep β)(hs:c.es=r.es)(h:∀(H:Ld) cs x,c.rd H cs x→∃y,r.R H (· < H.size) cs y):Cod.Of P T r:=⟨Cod.rep c r hs h,rfl,fun _ _ _ h=>h⟩
def Cod.Of.list {r:Rep α}(c:Cod.Of P e r)(ht:P.underlying T=some (.slice e))(h1:P.cellsOf T=1)(hby:decide (0<P.bytesOf e)=true):Cod.Of P T r.list:=⟨Cod.listOf c.cod r c.es c.rd ht h1 hby,rfl,fun _ _ _ h=>h⟩
def Cod.Of.int (ht:P.underlying T=some (.int .i64))(hs:P.cellsOf T=1):Cod.Of P T KM:=Cod.of (Cod.int .i64 ht hs) KM rfl fun _ _ x h=>⟨x,h.1⟩
def Cod.Of.ty {TL t0 t1:TypeId}(h0:fieldAt P T 0=some (0,1,t0))(h1:fieldAt P T 1=some (1,1,t1))(h2:fieldAt P T 2=some (2,1,TL))(hi0:P.underlying t0=some (.int .i64))(hi1:P.underlying t1=some (.int .i64))(hT:P.cellsOf T=3)(hTL:P.underlying TL=some (.slice T))(hby:decide (0<P.bytesOf T)=true):Cod.Of P T K0:=
 ⟨Cod.ty h0 h1 h2 hi0 hi1 hT hTL hby,rfl,fun _ _ _ h=>h⟩
theorem Cod.Of.top {r:Rep α}(c:Cod.Of P T r){x:α}(h:c.cod.rd w.heap cs x):r.at (Cx.top w) cs x:=c.rd _ _ _ h
end
end
section
def aA (b:UInt8):List Value:=[.int .u8 (b.toNat:Int)]
def gg:Rep UInt8:=Rep.lit (fun b=> .int .u8 (b.toNat:Int)) (fun _=>rfl)
theorem Yi {c:Cx}{b:UInt8}(h:gg.at c cs b):cs=[.int .u8 (b.toNat:Int)]:=h
theorem cz {c:Cx}(l:List UInt8):gg.ls c (l.map aA) l:=⟨by simp,fun m x hx=>⟨aA x,by rw [FW,hx];rfl,rfl⟩⟩
theorem Rep.LR.u8 {r:Rep UInt8}{l:List UInt8}(hr:r=gg)(h:r.LR H K css l):css=l.map aA:=by
 subst hr;apply Hu;intro m;rw [FW];rcases Hc m l.length with hm|hm
 · obtain ⟨d,h4,h5⟩:=h.2 m _ (FB hm);have h5:d=[_]:=h5;rw [h4,FB hm,h5];rfl
 · rw [Gb D9,Gb hm];rfl
section
variable {P:Program}{l:List GO}{Q:QT}{ρ:La}{w:World}{c:Cx}{L:List Res}{v:Value}
theorem ze (s:List UInt8):(s.map aA).flatten=s.map fun b=>Value.int .u8 (b.toNat:Int):=by
 induction s with
 | nil=>rfl
 | cons b s ih=>simp [aA,ih]
theorem Yj {d src dst e Ty:Nat}{x:Operand}{s:ByteArray}(hs:P.underlying src=some .string)(hd:P.underlying dst=some (.slice e))(he:P.underlying e=some (.int .u8))(hS:St c w L)(hx:ρ.ev x= .string s)
 (h : ∀ v' w', St c w' (sl e 1 v' (s.data.toList.map aA) :: L) → Q0 P l Q (upd ρ d v') w'): Q0 P (⟨none, .raw ⟨some d, .convert src dst x, Ty, "", #[], none⟩⟩ :: l) Q ρ w := by
 have hr:=run_bytes_of_string (P:=P) w src dst e s hs hd he;have hge:=grownCap_ge w s.size 0 e;generalize hcap:grownCap w s.size 0 e=cap at hr hge;refine Nq (v:= .slice (some ⟨w.heap.size,0,none⟩) s.size cap) (w':=w.drew.alloc (.cells (bytesRow s cap) e ((bytesRow s cap).size,(bytesRow s cap).size+1))) ?_ ?_
 · simp only [execOp,hx,F7,hr,FO,Gk]
 · have hsz:s.data.size=s.size:=rfl
   have hrow:(bytesRow s cap).size=cap:=(by simp [bytesRow];omega);refine h _ _ (hS.new (F':=(· =w.heap.size)) ?_ (((Ik NF w).drew').then0 (bP w.drew _)) fun b hb=>by omega);refine ⟨by intro q hq;obtain ⟨b,_,rfl⟩:=Gm.1 hq;rfl, .inr ⟨w.heap.size,0,cap,(bytesRow s cap).toList,?_,?_,?_,?_,?_,fun _=>HL⟩⟩
   · have:(List.map aA s.data.toList).length=s.size:=Fs;rw [this]
   · have:(List.map aA s.data.toList).length=s.size:=Fs;rw [this];exact hge
   · refine ⟨((bytesRow s cap).size,(bytesRow s cap).size+1),?_,?_⟩
     · show (w.heap.push _)[w.heap.size]?=_;rw [Array.getElem?_push_size]
     · refine ⟨fun i h1 h2=>?_,by simp⟩;simp only [GN] at*;omega
   · simp [hrow]
   · intro i hi;rw [ze];simp only [FF,GN,Nat.mul_one] at hi;rw [Hb,GW,bytesRow_at s cap i hi,FW,GW,Hs hi];rfl
theorem cA {d T Ty e n:Nat}{x y:Operand}{k:IntKind}{m:Int}{u:Value}(hT:P.underlying T=some (.array n e))(he:Tu P e=true)(hsz:OB P e=some 1)(hx:ρ.ev x= .agg ⟨cs⟩)(hy:ρ.ev y= .int k m)(h0:0≤m)(hm:m<n)(hu:cs[m.toNat]?=some u)
 (h : Q0 P l Q (upd ρ d u) w): Q0 P (⟨none, .raw ⟨some d, .index T x y, Ty, "", #[], none⟩⟩ :: l) Q ρ w := by
 refine Nq (v:=u) (w':=w) ?_ h;simp only [execOp,hx,hy,Instr.index,F7,asIntOf,Gk,FO,Q8 P T _ w hT];rw [if_pos ⟨h0,hm⟩];simp only [F7,RG P e 1 w hsz,FO,Nat.mul_one,nk P e ⟨cs⟩ _ _ w he (by simpa using hu)]
end
end
section
mutual
def Ty.size:Ty→Int→Int
 | .mk _ _ l,left=>Tys.size l (left - 1)
def Tys.size:List Ty→Int→Int
 | [],left=>left
 | x::l,left=>if 0≤left then Tys.size l (x.size left) else left
end
theorem Tys.size_neg:∀(l:List Ty){left:Int},left<0→Tys.size l left=left
 | [],_,_=>by simp [Tys.size]
 | x::l,left,h=>by rw [Tys.size,if_neg Jo]
abbrev Il:=@Tys.size_neg
mutual
def Ty.deepB:Ty→Int→Bool
 | .mk _ _ l,left=>if left<0 then false else Tys.deepB l (left - 1)
def Tys.deepB:List Ty→Int→Bool
 | [],_=>true
 | x::l,left=>x.deepB left && Tys.deepB l left
end
mutual
def Ty.depth:Ty→Int→Int
 | .mk _ _ l,most=>Tys.depth l most 0
def Tys.depth:List Ty→Int→Int→Int
 | [],_,n=>n
 | x::l,most,n=>if n≤most then (if most=0 then 1 else Tys.depth l most (if n<1+x.depth (most - 1) then 1+x.depth (most - 1) else n)) else n
end
mutual
theorem Ty.depth_iff:∀(t:Ty){most:Int},0≤most→(t.depth most≤most↔t.deepB most=true)
 | .mk _ _ l,most,h=>by
   rw [Ty.depth,Ty.deepB,if_neg Jo,Tys.depth_iff l h];exact ⟨fun h=>h.2,fun h2=>⟨h,h2⟩⟩
theorem Tys.depth_iff:∀(l:List Ty){most n:Int},0≤most→(Tys.depth l most n≤most↔n≤most∧Tys.deepB l (most - 1)=true)
 | [],most,n,h=>by rw [Tys.depth,Tys.deepB];simp
 | x ::l,most,n,h=>by
   rw [Tys.depth,Tys.deepB];by_cases hn:n≤most
   · rw [if_pos hn]
     by_cases h0:most=0
     · rw [if_pos h0];have:x.deepB (most - 1)=false:=(by obtain ⟨k,r,l2⟩:=x;rw [Ty.deepB,if_pos Jo]);rw [this];simp;omega
     · rw [if_neg h0,Tys.depth_iff l h]
       have:=Ty.depth_iff x (most:=most - 1) Jo;rw [FN,←this];constructor
       · rintro ⟨h1,h2⟩;split at h1<;>exact ⟨Jo,Jo,h2⟩
       · rintro ⟨h1,h2,h3⟩;refine ⟨?_,h3⟩;split<;>omega
   · rw [if_neg hn];exact ⟨fun h=>absurd h hn,fun h=>h.1⟩
end
mutual
def Ty.same:Ty→Ty→Bool
 | .mk k r l, .mk k2 r2 l2=>decide (k=k2) && decide (r=r2) && Tys.same l l2
def Tys.same:List Ty→List Ty→Bool
 | [],[]=>true
 | x::l,y::m=>x.same y && Tys.same l m
 | [],_::_=>false
 | _::_,[]=>false
end
mutual
theorem Ty.same_iff:∀(t u:Ty),t.same u=true↔t=u
 | .mk k r l, .mk k2 r2 l2=>by
   rw [Ty.same,FN,FN,Tys.same_iff l l2];simp only [decide_eq_true_eq,Ty.mk.injEq,and_assoc]
theorem Tys.same_iff:∀(l m:List Ty),Tys.same l m=true↔l=m
 | [],[]=>by simp [Tys.same]
 | x::l,y::m=>by rw [Tys.same,FN,Ty.same_iff x y,Tys.same_iff l m];simp
 | [],_::_=>by simp [Tys.same]
 | _::_,[]=>by simp [Tys.same]
end
instance:DecidableEq Ty:=fun t u=>decidable_of_iff _ (Ty.same_iff t u)
mutual
def Ty.wrong (fields:Nat):Ty→Int→Int
 | .mk k r l,regs=>
   if k<1∨4<k then 3 else if k=1∧r≠0∨k≠3∧0<l.length then 4 else if fields<l.length then 2 else if k≠1∧(r<0∨regs≤r) then 1 else Tys.wrong fields l regs
def Tys.wrong (fields:Nat):List Ty→Int→Int
 | [],_=>0
 | x::l,regs=>if x.wrong fields regs≠0 then x.wrong fields regs else Tys.wrong fields l regs
end
mutual
def Ty.ren:Ty→List Int→Option Ty
 | .mk k r l,to=>if k≠1∧(r<0∨(to.length:Int)≤r∨to.getD r.toNat 0<0) then none else
   match Tys.ren l to with
   | none=>none
   | some m=>some (.mk k (if k≠1 then to.getD r.toNat 0 else r) m)
def Tys.ren:List Ty→List Int→Option (List Ty)
 | [],_=>some []
 | x ::l,to=>match x.ren to with
   | none=>none
   | some y=>match Tys.ren l to with
     | none=>none
     | some m=>some (y::m)
end
mutual
theorem Ty.ren_ren {f g h:List Int}(hfg:∀i:Nat,i<f.length→0≤f.getD i 0∧f.getD i 0<g.length∧0≤g.getD (f.getD i 0).toNat 0∧i<h.length∧h.getD i 0=g.getD (f.getD i 0).toNat 0):
 ∀(t u:Ty),t.ren f=some u→∃v,u.ren g=some v∧t.ren h=some v
 | .mk k r l,u,ht=>by
   rw [Ty.ren] at ht;split at ht
   · cases ht
   · rename_i hc
     cases hl:Tys.ren l f with
     | none=>rw [hl] at ht;cases ht
     | some m=>
       rw [hl] at ht;simp only [FU] at ht;obtain ⟨m2,h1,h2⟩:=Tys.ren_ren hfg l m hl;subst ht;by_cases hk:k=1
       · refine ⟨.mk k r m2,?_,?_⟩
         · rw [Ty.ren,if_neg Jo,h1];simp [hk]
         · rw [Ty.ren,if_neg Jo,h2];simp [hk]
       · have:=hfg r.toNat Jo
         refine ⟨.mk k (g.getD (f.getD r.toNat 0).toNat 0) m2,?_,?_⟩
         · rw [Ty.ren,if_pos hk,if_neg Jo,h1];simp [hk]
         · rw [Ty.ren,if_neg Jo,h2];simp only [if_pos hk,this.2.2.2.2]
theorem Tys.ren_ren {f g h:List Int}(hfg:∀i:Nat,i<f.length→0≤f.getD i 0∧f.getD i 0<g.length∧0≤g.getD (f.getD i 0).toNat 0∧i<h.length∧h.getD i 0=g.getD (f.getD i 0).toNat 0):
 ∀(t u:List Ty),Tys.ren t f=some u→∃v,Tys.ren u g=some v∧Tys.ren t h=some v
 | [],u,ht=>by rw [Tys.ren] at ht;cases ht;exact ⟨[],by rw [Tys.ren],by rw [Tys.ren]⟩
 | x ::l,u,ht=>by
   rw [Tys.ren] at ht
   cases hx:x.ren f with
   | none=>rw [hx] at ht;cases ht
   | some y=>
     rw [hx] at ht
     cases hl:Tys.ren l f with
     | none=>rw [hl] at ht;cases ht
     | some m=>
       rw [hl] at ht;simp only [FU] at ht;subst ht;obtain ⟨y2,a1,a2⟩:=Ty.ren_ren hfg x y hx;obtain ⟨m2,b1,b2⟩:=Tys.ren_ren hfg l m hl;exact ⟨y2::m2,by rw [Tys.ren,a1,b1],by rw [Tys.ren,a2,b2]⟩
end
mutual
theorem Ty.ren_wrong {fields:Nat}{f:List Int}(hf:∀i:Nat,i<f.length→0≤f.getD i 0∧f.getD i 0<f.length):∀(t u:Ty),t.ren f=some u→u.wrong fields f.length=t.wrong fields f.length
 | .mk k r l,u,ht=>by
   rw [Ty.ren] at ht;split at ht
   · cases ht
   · rename_i hc
     cases hl:Tys.ren l f with
     | none=>rw [hl] at ht;cases ht
     | some m=>
       rw [hl] at ht;simp only [FU] at ht;subst ht;obtain ⟨h1,h2⟩:=Tys.ren_wrong (fields:=fields) hf l m hl;by_cases hk:k=1
       · rw [Ty.wrong,Ty.wrong,h1,h2];simp [hk]
       · have:=hf r.toNat Jo;rw [Ty.wrong,Ty.wrong,h1,h2];simp only [if_pos hk];rw [if_neg (show¬(k≠1∧(f.getD r.toNat 0<0∨(f.length:Int)≤f.getD r.toNat 0)) by omega),if_neg (show¬(k≠1∧(r<0∨(f.length:Int)≤r)) by omega)];simp [hk]
theorem Tys.ren_wrong {fields:Nat}{f:List Int}(hf:∀i:Nat,i<f.length→0≤f.getD i 0∧f.getD i 0<f.length):∀(t u:List Ty),Tys.ren t f=some u→u.length=t.length∧Tys.wrong fields u f.length=Tys.wrong fields t f.length
 | [],u,ht=>by rw [Tys.ren] at ht;cases ht;exact ⟨rfl,rfl⟩
 | x ::l,u,ht=>by
   rw [Tys.ren] at ht
   cases hx:x.ren f with
   | none=>rw [hx] at ht;cases ht
   | some y=>
     rw [hx] at ht
     cases hl:Tys.ren l f with
     | none=>rw [hl] at ht;cases ht
     | some m=>
       rw [hl] at ht;simp only [FU] at ht;subst ht;obtain ⟨h1,h2⟩:=Tys.ren_wrong (fields:=fields) hf l m hl;exact ⟨by simp [h1],by rw [Tys.wrong,Tys.wrong,Ty.ren_wrong hf x y hx,h2]⟩
end
mutual
theorem Ty.ren_none {fields:Nat}{f:List Int}(hf:∀i:Nat,i<f.length→0≤f.getD i 0):∀(t:Ty),t.ren f=none→t.wrong fields f.length≠0
 | .mk k r l,ht=>by
   rw [Ty.wrong];rw [Ty.ren] at ht;split
   · decide
   · split
     · decide
     · split
       · decide
       · split
         · decide
         · rename_i h1 h2 h3 h4
           have hc:¬(k≠1∧(r<0∨(f.length:Int)≤r∨f.getD r.toNat 0<0)):=by
            rintro ⟨a,b⟩;have:=hf r.toNat;omega
           rw [if_neg hc] at ht
           cases hl:Tys.ren l f with
           | none=>exact Tys.ren_none hf l hl
           | some m=>rw [hl] at ht;cases ht
theorem Tys.ren_none {fields:Nat}{f:List Int}(hf:∀i:Nat,i<f.length→0≤f.getD i 0):∀(t:List Ty),Tys.ren t f=none→Tys.wrong fields t f.length≠0
 | [],ht=>by rw [Tys.ren] at ht;cases ht
 | x ::l,ht=>by
   rw [Tys.ren] at ht;rw [Tys.wrong];split
   · rename_i h;exact h
   · rename_i h
     cases hx:x.ren f with
     | none=>exact absurd hx (fun hx=>h (Ty.ren_none hf x hx))
     | some y=>
       rw [hx] at ht
       cases hl:Tys.ren l f with
       | none=>exact Tys.ren_none hf l hl
       | some m=>rw [hl] at ht;cases ht
end
mutual
theorem Ty.ren_deep {f:List Int}:∀(t u:Ty) (left:Int),t.ren f=some u→u.deepB left=t.deepB left
 | .mk k r l,u,left,ht=>by
   rw [Ty.ren] at ht;split at ht
   · cases ht
   · cases hl:Tys.ren l f with
     | none=>rw [hl] at ht;cases ht
     | some m=>
       rw [hl] at ht;simp only [FU] at ht;subst ht;rw [Ty.deepB,Ty.deepB,Tys.ren_deep l m (left - 1) hl]
theorem Tys.ren_deep {f:List Int}:∀(t u:List Ty) (left:Int),Tys.ren t f=some u→Tys.deepB u left=Tys.deepB t left
 | [],u,_,ht=>by rw [Tys.ren] at ht;cases ht;rfl
 | x ::l,u,left,ht=>by
   rw [Tys.ren] at ht
   cases hx:x.ren f with
   | none=>rw [hx] at ht;cases ht
   | some y=>
     rw [hx] at ht
     cases hl:Tys.ren l f with
     | none=>rw [hl] at ht;cases ht
     | some m=>
       rw [hl] at ht;simp only [FU] at ht;subst ht;rw [Tys.deepB,Tys.deepB,Ty.ren_deep x y left hx,Tys.ren_deep l m left hl]
end
mutual
theorem Ty.ren_id {f:List Int}(hf:∀i:Nat,i<f.length→f.getD i 0=i):∀(t u:Ty),t.ren f=some u→u=t
 | .mk k r l,u,ht=>by
   rw [Ty.ren] at ht;split at ht
   · cases ht
   · rename_i hc
     cases hl:Tys.ren l f with
     | none=>rw [hl] at ht;cases ht
     | some m=>
       rw [hl] at ht;simp only [FU] at ht;subst ht;rw [Tys.ren_id hf l m hl];by_cases hk:k=1
       · simp [hk]
       · have:=hf r.toNat Jo;rw [if_pos hk,this,Gh Jo]
theorem Tys.ren_id {f:List Int}(hf:∀i:Nat,i<f.length→f.getD i 0=i):∀(t u:List Ty),Tys.ren t f=some u→u=t
 | [],u,ht=>by rw [Tys.ren] at ht;cases ht;rfl
 | x ::l,u,ht=>by
   rw [Tys.ren] at ht
   cases hx:x.ren f with
   | none=>rw [hx] at ht;cases ht
   | some y=>
     rw [hx] at ht
     cases hl:Tys.ren l f with
     | none=>rw [hl] at ht;cases ht
     | some m=>
       rw [hl] at ht;simp only [FU] at ht;subst ht;rw [Ty.ren_id hf x y hx,Tys.ren_id hf l m hl]
end
theorem Ty.ind {p:Ty→Prop}(h:∀k r l,(∀x∈l,p x)→p (.mk k r l)):∀t,p t
 | .mk k r l=>h k r l fun x hx=>Ty.ind h x
termination_by t=>SizeOf.sizeOf t
decreasing_by
 have:=IQ hx;simp only [Ty.mk.sizeOf_spec];omega
abbrev HI:=@Ty.ind
mutual
theorem Ty.size_rng:∀(t:Ty){left:Int},0≤left→-1≤t.size left∧t.size left<left
 | .mk _ _ l,left,h=>by
   rw [Ty.size];have:=Tys.size_rng l (left:=left - 1) Jo;omega
theorem Tys.size_rng:∀(l:List Ty){left:Int}, -1≤left→-1≤Tys.size l left∧Tys.size l left≤left
 | [],left,h=>by rw [Tys.size];omega
 | x ::l,left,h=>by
   rw [Tys.size];split
   · rename_i h0;have h1:=Ty.size_rng x h0;have h2:=Tys.size_rng l (left:=x.size left) h1.1;omega
   · omega
end
mutual
theorem Ty.size_mono:∀(t:Ty){a b:Int},a≤b→-1≤a→t.size a≤t.size b
 | .mk _ _ l,a,b,h,ha=>by
   rw [Ty.size,Ty.size];by_cases h0:0≤a
   · exact Tys.size_mono l Jo Jo
   · rw [Il l Jo]
     by_cases hb:0≤b
     · have:=Tys.size_rng l (left:=b - 1) Jo;omega
     · rw [Il l Jo];omega
theorem Tys.size_mono:∀(l:List Ty){a b:Int},a≤b→-1≤a→Tys.size l a≤Tys.size l b
 | [],a,b,h,_=>by rw [Tys.size,Tys.size];exact h
 | x ::l,a,b,h,ha=>by
   by_cases h0:0≤a
   · rw [Tys.size,Tys.size,if_pos h0,if_pos Jo];exact Tys.size_mono l (Ty.size_mono x h ha) (Ty.size_rng x h0).1
   · rw [Il _ Jo];have:=Tys.size_rng (x::l) (left:=b) Jo;omega
end
theorem Tys.size_len:∀(l:List Ty){left:Int},0≤Tys.size l left→-1≤left→(l.length:Int)≤left∧∀x∈l,0≤x.size left
 | [],left,h,_=>by rw [Tys.size] at h;simp;exact h
 | x ::l,left,h,hl=>by
   rw [Tys.size] at h;split at h
   · rename_i h0
     have h1:=Ty.size_rng x h0;have h2:=Tys.size_len l h h1.1;have h3:=Tys.size_rng l (left:=x.size left) h1.1;refine ⟨by simp only [FP];omega,fun y hy=>?_⟩;rcases FX.1 hy with rfl|hy
     · omega
     · exact Int.le_trans (h2.2 y hy) (Ty.size_mono y Jo h1.1)
   · omega
abbrev J5:=@Tys.size_len
def Ty.fault (t:Ty)(regs:Int):Int:=if t.deepB 4=false then 19 else t.wrong 8 regs
mutual
theorem Ty.depth_rng:∀(t:Ty){most:Int},0≤most→0≤t.depth most∧t.depth most≤most+1
 | .mk _ _ l,most,h=>by
   rw [Ty.depth];exact Tys.depth_rng l h Jo Jo
theorem Tys.depth_rng:∀(l:List Ty){most n:Int},0≤most→0≤n→n≤most+1→0≤Tys.depth l most n∧Tys.depth l most n≤most+1
 | [],most,n,_,h1,h2=>by rw [Tys.depth];omega
 | x ::l,most,n,h,h1,h2=>by
   rw [Tys.depth];split
   · split
     · omega
     · have:=Ty.depth_rng x (most:=most - 1) Jo;exact Tys.depth_rng l h (by split<;>omega) (by split<;>omega)
   · omega
end
inductive Ty.Short:Ty→Prop where
 | mk {k r:Int}{l:List Ty}:l.length≤100000→(∀x∈l,x.Short)→Ty.Short (.mk k r l)
theorem Ty.Short.parts {k r:Int}{l:List Ty}(h:(Ty.mk k r l).Short):l.length≤100000∧∀x∈l,x.Short:=by
 cases h with|mk h1 h2=>exact ⟨h1,h2⟩
theorem Ty.short_of_size:∀(t:Ty){n:Int},n≤100000→0≤n→0≤t.size n→t.Short:=by
 intro t
 induction t using HI with
 | h k r l ih=>
   intro n h1 h0 h;rw [Ty.size] at h;obtain ⟨h2,h3⟩:=J5 l h Jo;refine .mk Jo fun x hx=>?_;have hp:=h3 x hx;have hl:=HV hx;exact ih x hx (n:=n - 1) Jo Jo hp
def Ty.great (t:Ty):Bool:=decide (t.size 2000<0)
def Tys.great (l:List Ty):Bool:=decide (200<l.length)||l.any Ty.great
theorem Ty.short_of_great {t:Ty}(h:t.great=false):t.Short:=Ty.short_of_size t (n:=2000) Jo Jo (by unfold Ty.great at h;simp at h;exact h)
abbrev KE:=@Ty.short_of_great
theorem Tys.short_of_great {l:List Ty}(h:Tys.great l=false):l.length≤200∧∀x∈l,x.Short:=by
 unfold Tys.great at h;rw [H5] at h;refine ⟨by have:=of_decide_eq_false h.1;omega,fun x hx=>KE ?_⟩
 cases hg:x.great with
 | false=>rfl
 | true=>have:=List.any_eq_true.2 ⟨x,hx,hg⟩;rw [h.2] at this;cases this
abbrev Ky:=@Tys.short_of_great
end
section
structure Ins where
 op:Int
 a:Int
 b:Int
 c:Int
 k:Int
 n:Int
 regs:List Int
 args:List Int
structure To where
 block:Int
 regs:List Int
 args:List Int
structure Tail where
 op:Int
 a:Int
 yes:To
 no:To
 args:List Int
structure Block where
 regs:Int
 params:List Ty
 code:List Ins
 fin:Tail
deriving instance DecidableEq for Ins
deriving instance DecidableEq for To
deriving instance DecidableEq for Tail
deriving instance DecidableEq for Block
structure Fun where
 regs:Int
 params:List Ty
 results:List Ty
 blocks:List Block
structure Module where
 funcs:List Fun
deriving instance DecidableEq for Fun
deriving instance DecidableEq for Module

theorem Fun.eq_of {x y:Fun}(h1:x.regs=y.regs)(h2:x.params=y.params)(h3:x.results=y.results)(h4:x.blocks=y.blocks):x=y:=by
 cases x;cases y;simp_all
def Ins.Short (x:Ins):Prop:=x.regs.length≤100000∧x.args.length≤100000
def To.Short (x:To):Prop:=x.regs.length≤100000∧x.args.length≤100000
def Tail.Short (x:Tail):Prop:=x.yes.Short∧x.no.Short∧x.args.length≤100000
def Tys.Short (l:List Ty):Prop:=l.length≤100000∧∀t∈l,t.Short
def Block.Short (x:Block):Prop:=Tys.Short x.params∧x.code.length≤100000∧(∀i∈x.code,i.Short)∧x.fin.Short
def Fun.Short (x:Fun):Prop:=Tys.Short x.params∧Tys.Short x.results∧x.blocks.length≤100000∧∀b∈x.blocks,b.Short
def Module.Short (x:Module):Prop:=x.funcs.length≤100000∧∀f∈x.funcs,f.Short
theorem Tys.Short.of_great {l:List Ty}(h:Tys.great l=false):Tys.Short l:=by
 have:=Ky h;exact ⟨Jo,this.2⟩
abbrev Is:=@Tys.Short.of_great
theorem Yk {l:List α}{x:α}(h:∀y∈l.take j,p y)(hx:l[j]?=some x)(hp:p x):∀y∈l.take (j+1),p y:=by
 intro y hy;rw [Iy,hx] at hy;rcases F5.1 hy with hy|hy
 · exact h y hy
 · simp at hy;subst hy;exact hp
theorem cB {l:List α}(h:∀y∈l.take j,p y)(hj:l.length≤j):∀y∈l,p y:=by
 rw [Gd hj] at h;exact h
def Lz:Rep Ins where
 es:=8
 pos:=by decide
 R:=fun H K cs x=>∃vr va,cs=[.int .i64 x.op, .int .i64 x.a, .int .i64 x.b, .int .i64 x.c, .int .i64 x.k, .int .i64 x.n,vr,va]∧KM.SR H K vr x.regs∧KM.SR H K va x.args
 len:=by rintro _ _ _ _ ⟨vr,va,rfl,_⟩;rfl
 one:=by
  rintro _ _ _ _ ⟨vr,va,rfl,h1,h2⟩ u hu;simp at hu;rcases hu with rfl|rfl|rfl|rfl|rfl|rfl|rfl|rfl<;>first|rfl|exact h1.oneC|exact h2.oneC
 turn:=by rintro _ _ _ _ _ _ ⟨vr,va,rfl,h1,h2⟩ hs;exact ⟨vr,va,rfl,h1.turn hs,h2.turn hs⟩
def toR:Rep To where
 es:=3
 pos:=by decide
 R:=fun H K cs x=>∃vr va,cs=[.int .i64 x.block,vr,va]∧KM.SR H K vr x.regs∧KM.SR H K va x.args
 len:=by rintro _ _ _ _ ⟨vr,va,rfl,_⟩;rfl
 one:=by
  rintro _ _ _ _ ⟨vr,va,rfl,h1,h2⟩ u hu;simp at hu;rcases hu with rfl|rfl|rfl<;>first|rfl|exact h1.oneC|exact h2.oneC
 turn:=by rintro _ _ _ _ _ _ ⟨vr,va,rfl,h1,h2⟩ hs;exact ⟨vr,va,rfl,h1.turn hs,h2.turn hs⟩
def LZ:Rep Tail where
 es:=9
 pos:=by decide
 R:=fun H K cs x=>∃v1 v2 v3 v4 v5,cs=[.int .i64 x.op, .int .i64 x.a, .int .i64 x.yes.block,v1,v2, .int .i64 x.no.block,v3,v4,v5]∧KM.SR H K v1 x.yes.regs∧KM.SR H K v2 x.yes.args∧KM.SR H K v3 x.no.regs∧KM.SR H K v4 x.no.args∧KM.SR H K v5 x.args
 len:=by rintro _ _ _ _ ⟨_,_,_,_,_,rfl,_⟩;rfl
 one:=by
  rintro _ _ _ _ ⟨_,_,_,_,_,rfl,h1,h2,h3,h4,h5⟩ u hu;simp at hu;rcases hu with rfl|rfl|rfl|rfl|rfl|rfl|rfl|rfl|rfl<;>first|rfl|exact h1.oneC|exact h2.oneC|exact h3.oneC|exact h4.oneC|exact h5.oneC
 turn:=by rintro _ _ _ _ _ _ ⟨_,_,_,_,_,rfl,h1,h2,h3,h4,h5⟩ hs;exact ⟨_,_,_,_,_,rfl,h1.turn hs,h2.turn hs,h3.turn hs,h4.turn hs,h5.turn hs⟩
def Lp:Rep Block where
 es:=12
 pos:=by decide
 R:=fun H K cs x=>∃vp vc ce,cs= .int .i64 x.regs::vp::vc::ce∧K0.SR H K vp x.params∧Lz.SR H K vc x.code∧LZ.R H K ce x.fin
 len:=by rintro _ _ _ _ ⟨_,_,ce,rfl,_,_,h⟩;have:=LZ.len h;simp [this,LZ]
 one:=by
  rintro _ _ _ _ ⟨_,_,ce,rfl,h1,h2,h3⟩ u hu;simp at hu;rcases hu with rfl|rfl|rfl|hu
  · rfl
  · exact h1.oneC
  · exact h2.oneC
  · exact LZ.one h3 u hu
 turn:=by rintro _ _ _ _ _ _ ⟨_,_,_,rfl,h1,h2,h3⟩ hs;exact ⟨_,_,_,rfl,h1.turn hs,h2.turn hs,LZ.turn h3 hs⟩
def K8:Rep Fun where
 es:=4
 pos:=by decide
 R:=fun H K cs x=>∃vp vr vb,cs=[.int .i64 x.regs,vp,vr,vb]∧K0.SR H K vp x.params∧K0.SR H K vr x.results∧Lp.SR H K vb x.blocks
 len:=by rintro _ _ _ _ ⟨_,_,_,rfl,_⟩;rfl
 one:=by
  rintro _ _ _ _ ⟨_,_,_,rfl,h1,h2,h3⟩ u hu;simp at hu;rcases hu with rfl|rfl|rfl|rfl<;>first|rfl|exact h1.oneC|exact h2.oneC|exact h3.oneC
 turn:=by rintro _ _ _ _ _ _ ⟨_,_,_,rfl,h1,h2,h3⟩ hs;exact ⟨_,_,_,rfl,h1.turn hs,h2.turn hs,h3.turn hs⟩
def LS:Rep Module where
 es:=1
 pos:=by decide
 R:=fun H K cs x=>∃vf,cs=[vf]∧K8.SR H K vf x.funcs
 len:=by rintro _ _ _ _ ⟨_,rfl,_⟩;rfl
 one:=by
  rintro _ _ _ _ ⟨_,rfl,h1⟩ u hu;simp at hu;subst hu;exact h1.oneC
 turn:=by rintro _ _ _ _ _ _ ⟨_,rfl,h1⟩ hs;exact ⟨_,rfl,h1.turn hs⟩

theorem QY {c:Cx}{x:Ins}(h:Lz.at c cs x):∃vr va,cs=[.int .i64 x.op, .int .i64 x.a, .int .i64 x.b, .int .i64 x.c, .int .i64 x.k, .int .i64 x.n,vr,va]∧KM.sl c vr x.regs∧KM.sl c va x.args:=h
theorem SX {c:Cx}{x:To}(h:toR.at c cs x):∃vr va,cs=[.int .i64 x.block,vr,va]∧KM.sl c vr x.regs∧KM.sl c va x.args:=h
theorem RM {c:Cx}{x:Tail}(h:LZ.at c cs x):∃v1 v2 v3 v4 v5,cs=[.int .i64 x.op, .int .i64 x.a, .int .i64 x.yes.block,v1,v2, .int .i64 x.no.block,v3,v4,v5]∧KM.sl c v1 x.yes.regs∧KM.sl c v2 x.yes.args∧KM.sl c v3 x.no.regs∧KM.sl c v4 x.no.args∧KM.sl c v5 x.args:=h
theorem OZ {c:Cx}{x:Block}(h:Lp.at c cs x):∃vp vc v1 v2 v3 v4 v5,cs=[.int .i64 x.regs,vp,vc, .int .i64 x.fin.op, .int .i64 x.fin.a, .int .i64 x.fin.yes.block,v1,v2, .int .i64 x.fin.no.block,v3,v4,v5]∧K0.sl c vp x.params∧Lz.sl c vc x.code∧KM.sl c v1 x.fin.yes.regs∧KM.sl c v2 x.fin.yes.args∧KM.sl c v3 x.fin.no.regs∧KM.sl c v4 x.fin.no.args∧KM.sl c v5 x.fin.args:=by
 obtain ⟨vp,vc,ce,rfl,h1,h2,v1,v2,v3,v4,v5,rfl,h3⟩:=h;exact ⟨vp,vc,v1,v2,v3,v4,v5,rfl,h1,h2,h3⟩
theorem oF {c:Cx}{x:Block}{vp vc v5:Value}(h1:K0.sl c vp x.params)(h2:Lz.sl c vc x.code)(h3:KM.sl c v1 x.fin.yes.regs)(h4:KM.sl c v2 x.fin.yes.args)(h5:KM.sl c v3 x.fin.no.regs)(h6:KM.sl c v4 x.fin.no.args)(h7:KM.sl c v5 x.fin.args):
 Lp.at c [.int .i64 x.regs,vp,vc, .int .i64 x.fin.op, .int .i64 x.fin.a, .int .i64 x.fin.yes.block,v1,v2, .int .i64 x.fin.no.block,v3,v4,v5] x:=⟨vp,vc,_,rfl,h1,h2,v1,v2,v3,v4,v5,rfl,h3,h4,h5,h6,h7⟩
theorem QC {c:Cx}{x:Fun}(h:K8.at c cs x):∃vp vr vb,cs=[.int .i64 x.regs,vp,vr,vb]∧K0.sl c vp x.params∧K0.sl c vr x.results∧Lp.sl c vb x.blocks:=h
theorem OE {c:Cx}{x:Module}(h:LS.at c cs x):∃vf,cs=[vf]∧K8.sl c vf x.funcs:=h

section
variable {P:Program}{T:TypeId}
theorem Cod.Of.part {r:Rep α}(c:Cod.Of P T r){x:α}(h:c.cod.rd H cs x):r.R H (· < H.size) cs x:=c.rd _ _ _ h
def Cod.Of.to {TI TL:TypeId}(ci:Cod.Of P TI KM)(cl:Cod.Of P TL KM.list)(h0:fieldAt P T 0=some (0,1,TI))(h1:fieldAt P T 1=some (1,1,TL))(h2:fieldAt P T 2=some (2,1,TL))(hT:P.cellsOf T=3):Cod.Of P T toR:=
 Cod.of (Fld.cod (Fld.more ci.cod h0 (Fld.more cl.cod h1 (Fld.more cl.cod h2 Fld.none))) h0 3 hT) toR rfl fun H cs x h=>by
  obtain ⟨hl,g0,g1,g2,_⟩:=h
  match cs,hl with
  | [a,b,c],_=>
    have e0:[a]=[_]:=ci.part g0;obtain ⟨v1,e1,s1⟩:=cl.part g1;obtain ⟨v2,e2,s2⟩:=cl.part g2;replace e1:[b]=[v1]:=e1;replace e2:[c]=[v2]:=e2;simp only [Gu,and_true] at e0 e1 e2;subst e0 e1 e2;exact ⟨⟨x.1,x.2.1,x.2.2.1⟩,b,c,rfl,s1,s2⟩
def Cod.Of.ins {TI TL TN:TypeId}(ci:Cod.Of P TI KM)(cn:Cod.Of P TN KM)(cl:Cod.Of P TL KM.list)(h0:fieldAt P T 0=some (0,1,TI))(h1:fieldAt P T 1=some (1,1,TI))(h2:fieldAt P T 2=some (2,1,TI))(h3:fieldAt P T 3=some (3,1,TI))(h4:fieldAt P T 4=some (4,1,TI))(h5:fieldAt P T 5=some (5,1,TN))(h6:fieldAt P T 6=some (6,1,TL))(h7:fieldAt P T 7=some (7,1,TL))(hT:P.cellsOf T=8):Cod.Of P T Lz:=
 Cod.of (Fld.cod (Fld.more ci.cod h0 (Fld.more ci.cod h1 (Fld.more ci.cod h2 (Fld.more ci.cod h3 (Fld.more ci.cod h4 (Fld.more cn.cod h5 (Fld.more cl.cod h6 (Fld.more cl.cod h7 Fld.none)))))))) h0 8 hT) Lz rfl fun H cs x h=>by
  obtain ⟨hl,g0,g1,g2,g3,g4,g5,g6,g7,_⟩:=h
  match cs,hl with
  | [a0,a1,a2,a3,a4,a5,a6,a7],_=>
    have e0:[a0]=[_]:=ci.part g0;have e1:[a1]=[_]:=ci.part g1;have e2:[a2]=[_]:=ci.part g2;have e3:[a3]=[_]:=ci.part g3;have e4:[a4]=[_]:=ci.part g4;have e5:[a5]=[_]:=cn.part g5;obtain ⟨v1,e6,s1⟩:=cl.part g6;obtain ⟨v2,e7,s2⟩:=cl.part g7;replace e6:[a6]=[v1]:=e6;replace e7:[a7]=[v2]:=e7;simp only [Gu,and_true] at e0 e1 e2 e3 e4 e5 e6 e7;subst e0 e1 e2 e3 e4 e5 e6 e7;exact ⟨⟨x.1,x.2.1,x.2.2.1,x.2.2.2.1,x.2.2.2.2.1,x.2.2.2.2.2.1,x.2.2.2.2.2.2.1,x.2.2.2.2.2.2.2.1⟩,_,_,rfl,s1,s2⟩
def Cod.Of.block {TI TL TC TE:TypeId}(ci:Cod.Of P TI KM)(cl:Cod.Of P TL K0.list)(cc:Cod.Of P TC Lz.list)(ce:Cod.Of P TE LZ)(h0:fieldAt P T 0=some (0,1,TI))(h1:fieldAt P T 1=some (1,1,TL))(h2:fieldAt P T 2=some (2,1,TC))(h3:fieldAt P T 3=some (3,9,TE))(hT:P.cellsOf T=12):Cod.Of P T Lp:=
 Cod.of (Fld.cod (Fld.more ci.cod h0 (Fld.more cl.cod h1 (Fld.more cc.cod h2 (Fld.more ce.cod h3 Fld.none)))) h0 12 hT) Lp rfl fun H cs x h=>by
  obtain ⟨hl,g0,g1,g2,g3,_⟩:=h
  match cs,hl with
  | [a0,a1,a2,a3,a4,a5,a6,a7,a8,a9,a10,a11],_=>
    have e0:[a0]=[_]:=ci.part g0;obtain ⟨v1,e1,s1⟩:=cl.part g1;obtain ⟨v2,e2,s2⟩:=cc.part g2;have s3:=ce.part g3;replace e1:[a1]=_:=e1;replace e2:[a2]=_:=e2;replace s3:LZ.R H (· < H.size) [a3,a4,a5,a6,a7,a8,a9,a10,a11] x.2.2.2.1:=s3;simp only [Gu,and_true] at e0 e1 e2;subst e0 e1 e2;exact Cn
def Cod.Of.func {TI TL TB:TypeId}(ci:Cod.Of P TI KM)(cl:Cod.Of P TL K0.list)(cb:Cod.Of P TB Lp.list)(h0:fieldAt P T 0=some (0,1,TI))(h1:fieldAt P T 1=some (1,1,TL))(h2:fieldAt P T 2=some (2,1,TL))(h3:fieldAt P T 3=some (3,1,TB))(hT:P.cellsOf T=4):Cod.Of P T K8:=
 Cod.of (Fld.cod (Fld.more ci.cod h0 (Fld.more cl.cod h1 (Fld.more cl.cod h2 (Fld.more cb.cod h3 Fld.none)))) h0 4 hT) K8 rfl fun H cs x h=>by
  obtain ⟨hl,g0,g1,g2,g3,_⟩:=h
  match cs,hl with
  | [a0,a1,a2,a3],_=>
    have e0:[a0]=[_]:=ci.part g0;obtain ⟨v1,e1,s1⟩:=cl.part g1;obtain ⟨v2,e2,s2⟩:=cl.part g2;obtain ⟨v3,e3,s3⟩:=cb.part g3;replace e1:[a1]=_:=e1;replace e2:[a2]=_:=e2;replace e3:[a3]=_:=e3;simp only [Gu,and_true] at e0 e1 e2 e3;subst e0 e1 e2 e3;exact Cn
end
end
section
def oG (n:Int):Int:=Nr .xor .u64 (IntKind.u64.wrap (IntKind.u64.wrap n*2 ^ (min (1:Int).toNat IntKind.u64.bits))) (IntKind.u64.wrap (n.fdiv (2 ^ (min (63:Int).toNat IntKind.i64.bits))))
def zg (n:Int):Nat:=(oG n).toNat
def iW:Nat→Nat→List UInt8
 | 0,_=>[]
 | k+1,u=>if u<128 then [UInt8.ofNat u] else UInt8.ofNat (u % 128+128)::iW k (u / 128)
theorem tr:∀(k u:Nat),(iW k u).length≤k
 | 0,_=>by simp [iW]
 | k +1,u=>by
   rw [iW];split
   · simp
   · have:=tr k (u / 128);simp only [FP];omega
def PS (n:Int):List UInt8:=iW 10 (zg n)
def lM (l:List Int):List UInt8:=l.flatMap PS
theorem Ps (n:Int):(PS n).length≤10:=tr 10 _
theorem tt:∀(l:List Int),(lM l).length≤10*l.length
 | []=>by simp [lM]
 | n::l=>by
   have h1:=Ps n;have h2:=tt l;simp only [lM,Iz,FH,FP] at h2 ⊢;omega
def cC (l:List Int):List UInt8:=PS l.length++lM l
mutual
def Ty.bts:Ty→List UInt8
 | .mk k r l=>PS k++(if k≠1 then PS r else [])++(if k=3 then PS l.length++Tys.bts l else [])
def Tys.bts:List Ty→List UInt8
 | []=>[]
 | x::l=>x.bts++Tys.bts l
end
def Uy (l:List Ty):List UInt8:=PS l.length++Tys.bts l
def To.bts (t:To):List UInt8:=PS t.block++cC t.regs++cC t.args
def Tail.bts (e:Tail):List UInt8:=PS e.op++(if e.op=1 then e.yes.bts else if e.op=2 then PS e.a++e.yes.bts++e.no.bts else if e.op=3 then cC e.args else [])
def TD (op:Int):Nat:=if op<0∨14<op then 0 else [0,64,11,0,1,33,9,11,3,3,7,1,0,1,56].getD op.toNat 0
def Sb (h:Nat):Nat→List Int→List UInt8
 | _,[]=>[]
 | k,n::l=>(if h / 2 ^ k % 2=1 then PS n else [])++Sb h (k+1) l
def Ins.bts (x:Ins):List UInt8:=PS x.op++Sb (TD x.op) 0 [x.a,x.b,x.c,x.k]++(if TD x.op / 64 % 2=1 then PS x.n else [])++(if TD x.op / 16 % 2=1 then cC x.regs else [])++(if TD x.op / 32 % 2=1 then cC x.args else [])
end
section
mutual
def Ty.nodes:Ty→Nat
 | .mk _ _ l=>1+Tys.nodes l
def Tys.nodes:List Ty→Nat
 | []=>0
 | x::l=>x.nodes+Tys.nodes l
end
mutual
theorem Ty.size_nodes:∀(t:Ty){n:Int},0≤t.size n→t.size n=n - t.nodes
 | .mk k r l,n,h=>by
   rw [Ty.size] at h ⊢;rw [Tys.size_nodes l h,Ty.nodes];omega
theorem Tys.size_nodes:∀(l:List Ty){n:Int},0≤Tys.size l n→Tys.size l n=n - Tys.nodes l
 | [],n,h=>by rw [Tys.size,Tys.nodes];omega
 | x ::l,n,h=>by
   rw [Tys.size] at h ⊢;by_cases hn:0≤n
   · rw [if_pos hn] at h ⊢
     have hx:0≤x.size n:=by
      rcases Int.lt_or_le (x.size n) 0 with h1|h1
      · rw [Il l h1] at h;omega
      · exact h1
     rw [Tys.size_nodes l h,Ty.size_nodes x hx,Tys.nodes];omega
   · rw [if_neg hn] at h;omega
end
theorem Ty.nodes_of_great {t:Ty}(h:t.great=false):t.nodes≤2000:=by
 unfold Ty.great at h;simp at h;have:=Ty.size_nodes t h;omega
abbrev KF:=@Ty.nodes_of_great
end
section
def Yl (c:BitVec 32):BitVec 32:=(c >>> 1) ^^^ (3988292384#32 &&& -(c &&& 1#32))
def iX:Nat→BitVec 32→BitVec 32
 | 0,c=>c
 | k+1,c=>iX k (Yl c)
def Ym (c:BitVec 32)(x:UInt8):BitVec 32:=iX 8 (c ^^^ BitVec.ofNat 32 x.toNat)
def iY (bs:List UInt8):BitVec 32:=4294967295#32 ^^^ bs.foldl Ym 4294967295#32
section
variable {P:Program}{l:List GO}{Q:QT}{ρ:La}{w:World}
end
end
section
def Block.bts (b:Block):List UInt8:=PS b.regs++Uy b.params++PS b.code.length++b.code.flatMap Ins.bts++b.fin.bts
def Fun.bts (f:Fun):List UInt8:=PS f.regs++Uy f.params++Uy f.results++PS f.blocks.length++f.blocks.flatMap Block.bts
def Module.body (m:Module):List UInt8:=[67,72,1]++PS m.funcs.length++m.funcs.flatMap Fun.bts
def Ins.Few (x:Ins):Prop:=x.regs.length≤300∧x.args.length≤300
def To.Few (x:To):Prop:=x.regs.length≤300∧x.args.length≤300
def Tail.Few (x:Tail):Prop:=x.yes.Few∧x.no.Few∧x.args.length≤300
def Block.Few (b:Block):Prop:=Tys.great b.params=false∧b.code.length≤200∧(∀i∈b.code,i.Few)∧b.fin.Few
def Fun.Few (f:Fun):Prop:=Tys.great f.params=false∧Tys.great f.results=false∧f.blocks.length≤30∧∀b∈f.blocks,b.Few
def Module.Few (m:Module):Prop:=m.funcs.length≤20∧∀f∈m.funcs,f.Few
theorem tu {α:Type}{f:α→List UInt8}{c:Nat}:∀{l:List α},(∀x∈l,(f x).length≤c)→(l.flatMap f).length≤l.length*c
 | [],_=>by simp
 | x::l,h=>by
   have h1:=h x (GK ..);have h2:=tu (l:=l) fun y hy=>h y (Gr _ hy);rw [Iz,FH,FP,HU];omega
theorem tw {f:α→List UInt8}{c n:Nat}{l:List α}(h:∀x∈l,(f x).length≤c)(hn:l.length≤n):(l.flatMap f).length≤n*c:=
 Hj (tu h) (GA c hn)
mutual
theorem Ty.bts_len:∀(t:Ty),t.bts.length≤30*t.nodes
 | .mk k r l=>by
   have h1:=Tys.bts_len l;have h2:=Ps k;have h3:=Ps r;have h4:=Ps l.length;rw [Ty.bts,Ty.nodes];simp only [FH];split<;>split<;>simp only [FH,F8]<;>omega
theorem Tys.bts_len:∀(l:List Ty),(Tys.bts l).length≤30*Tys.nodes l
 | []=>by simp [Tys.bts]
 | x::l=>by
   have h1:=Ty.bts_len x;have h2:=Tys.bts_len l;rw [Tys.bts,Tys.nodes,FH];omega
end
theorem Tys.nodes_few:∀{l:List Ty},(∀x∈l,x.nodes≤2000)→Tys.nodes l≤2000*l.length
 | [],_=>by simp [Tys.nodes]
 | x::l,h=>by
   have h1:=h x (GK ..);have h2:=Tys.nodes_few (l:=l) fun y hy=>h y (Gr _ hy);rw [Tys.nodes,FP];omega
abbrev JU:=@Tys.nodes_few
theorem oH {l:List Ty}(h:Tys.great l=false):(Uy l).length≤12000010:=by
 unfold Tys.great at h;rw [H5] at h;have hl:l.length≤200:=(by have:=of_decide_eq_false h.1;omega);have h1:=Tys.bts_len l;have h2:=JU (l:=l) fun x hx=>KF (by have:=List.any_eq_false.1 h.2 x hx;simpa using this);have h3:=Ps l.length;unfold Uy;rw [FH];omega
theorem iZ {l:List Int}(h:l.length≤300):(cC l).length≤3010:=by
 have h1:=tt l;have h2:=Ps l.length;unfold cC;rw [FH];omega
theorem To.bts_few {x:To}(h:x.Few):x.bts.length≤6030:=by
 have h1:=iZ h.1;have h2:=iZ h.2;have h3:=Ps x.block;unfold To.bts;simp only [FH];omega
abbrev Kz:=@To.bts_few
theorem Tail.bts_few {x:Tail}(h:x.Few):x.bts.length≤13000:=by
 have h1:=Kz h.1;have h2:=Kz h.2.1;have h3:=iZ h.2.2;have h4:=Ps x.op;have h5:=Ps x.a;unfold Tail.bts;rw [FH];split
 · omega
 · split
   · simp only [FH];omega
   · split
     · omega
     · simp only [F8];omega
theorem Ins.bts_few {x:Ins}(h:x.Few):x.bts.length≤6110:=by
 have h1:=iZ h.1;have h2:=iZ h.2;have h3:=Ps x.op;have h4:=Ps x.n;have ha:=Ps x.a;have hb:=Ps x.b;have hc:=Ps x.c;have hk:=Ps x.k
 have h5:(Sb (TD x.op) 0 [x.a,x.b,x.c,x.k]).length≤40:=by
  simp only [Sb,FH,F8];split<;>split<;>split<;>split<;>(try simp only [F8])<;>omega
 unfold Ins.bts;simp only [FH];split<;>split<;>split<;>(try simp only [F8])<;>omega
theorem Block.bts_few {b:Block}(h:b.Few):b.bts.length≤14000000:=by
 have h1:=oH h.1;have h2:=tw (f:=Ins.bts) (c:=6110) (fun x hx=>Ins.bts_few (h.2.2.1 x hx)) h.2.1;have h3:=Tail.bts_few h.2.2.2;have h4:=Ps b.regs;have h5:=Ps b.code.length;unfold Block.bts;simp only [FH];omega
theorem Fun.bts_few {f:Fun}(h:f.Few):f.bts.length≤450000000:=by
 have h1:=oH h.1;have h2:=oH h.2.1;have h3:=tw (f:=Block.bts) (c:=14000000) (fun x hx=>Block.bts_few (h.2.2.2 x hx)) h.2.2.1;have h4:=Ps f.regs;have h5:=Ps f.blocks.length;unfold Fun.bts;simp only [FH];omega
end
section
abbrev Mw:=Int×Int
def Ln (a b:Mw):Mw:=if a.1=0∧b.1≠0 then b else a
def LB (c at':Int):Mw:=if c=0 then (0,0) else (c,at')
theorem cD (a b c:Mw):Ln (Ln a b) c=Ln a (Ln b c):=by
 unfold Ln;by_cases h1:a.1=0<;>by_cases h2:b.1=0<;>by_cases h3:c.1=0<;>simp [h1,h2,h3]
theorem O0 {a b:Mw}(h:a.1≠0):Ln a b=a:=by unfold Ln;rw [if_neg (fun h'=>h h'.1)]
theorem gh {a b:Mw}(h:b.1=0):Ln a b=a:=by unfold Ln;rw [if_neg (fun h'=>h'.2 h)]
theorem MH {b:Mw}(h:b.1=0→b=(0,0)):Ln (0,0) b=b:=by
 unfold Ln;by_cases hb:b.1=0
 · rw [h hb];rfl
 · rw [if_pos ⟨rfl,hb⟩]
theorem M4 (at':Int):LB 0 at'=(0,0):=rfl
theorem Rv {c:Int}(h:c≠0):LB c at'=(c,at'):=if_neg h
theorem Sc (c at':Int):(LB c at').1=c:=by unfold LB;split<;>simp_all
theorem SY (c at':Int):(LB c at').1=0→LB c at'=(0,0):=by rw [Sc];rintro rfl;rfl
theorem Xn {a b:Mw}(ha:a.1=0→a=(0,0))(hb:b.1=0→b=(0,0)):(Ln a b).1=0→Ln a b=(0,0):=by
 unfold Ln;split
 · exact hb
 · exact ha
def SZ (a b:Int):Int:=if a≠0 then a else b
theorem Pt {g:Mw}{b:Int}:Ln (Ln g (LB a at')) (LB b at')=Ln g (LB (SZ a b) at'):=by
 rw [cD];congr 1;unfold SZ Ln;by_cases h:a=0
 · subst h
   by_cases hb:b=0
   · subst hb;rfl
   · simp [LB,hb]
 · simp [LB,h]

def fA (op:Int):Bool:=decide (op=2∨op=4∨op=5∨op=6∨op=7∨op=8∨op=9∨op=10∨op=11∨op=13)
def fB (op:Int):Bool:=decide (op=2∨op=7∨op=8∨op=9∨op=10)
def fC (op:Int):Bool:=decide (op=10)
def fK (op:Int):Bool:=decide (op=2∨op=6∨op=7∨op=14)
def fN (op:Int):Bool:=decide (op=1)
def fG (op:Int):Bool:=decide (op=14)
def fR (op:Int):Bool:=decide (op=5∨op=14)
def Ins.odd (x:Ins):Prop:=(fA x.op=false∧x.a≠0)∨(fB x.op=false∧x.b≠0)∨(fC x.op=false∧x.c≠0)∨(fK x.op=false∧x.k≠0)∨(fN x.op=false∧x.n≠0)∨(fG x.op=false∧0<x.regs.length)∨(fR x.op=false∧0<x.args.length)
instance (x:Ins):Decidable x.odd:=by unfold Ins.odd;infer_instance
def OP (n:Nat)(x:Ins):Int:=
 if x.op=2 then (if x.k<1∨9<x.k then 1 else 0)
 else if x.op=5 then (if 8<x.args.length then 2 else 0)
 else if x.op=6∨x.op=7 then (if x.k<0∨8≤x.k then 1 else 0)
 else if x.op=14 then (if x.k<0∨(n:Int)≤x.k then 1 else if 6<x.regs.length∨8<x.args.length then 2 else 0)
 else 0
def Qz (n:Nat)(x:Ins):Int:=if x.op<1∨14<x.op then 3 else if x.odd then 4 else OP n x
def NM (n:Nat)(t:To)(is:Bool):Int:=
 if is=false then (if t.block≠0∨0<t.regs.length∨0<t.args.length then 4 else 0)
 else if t.block<0∨(n:Int)≤t.block then 1 else if 16<t.regs.length∨8<t.args.length then 2 else 0
def NU (n:Nat)(e:Tail):Int:=
 if e.op<1∨3<e.op then 3
 else if e.op≠2∧e.a≠0∨e.op≠3∧0<e.args.length then 4
 else if 8<e.args.length then 2
 else SZ (NM n e.yes (decide (e.op≠3))) (NM n e.no (decide (e.op=2)))
def RN (regs:Int):List Ty→Int
 | []=>0
 | t::l=>SZ (t.fault regs) (RN regs l)
def QA (l:List Ty)(regs:Int):Int:=if 8<l.length then 2 else RN regs l
def PT (f:Nat):Int:=f*10000+9999
def S0 (f b:Nat):Int:=f*10000+b*100+90
def Rd (f b:Nat):Int:=f*10000+b*100+91
def Pu (f b i:Nat):Int:=f*10000+b*100+i
def Pk (n f b:Nat):Nat→List Ins→Mw
 | _,[]=>(0,0)
 | i,x::l=>Ln (LB (Qz n x) (Pu f b i)) (Pk n f b (i+1) l)
def QD (x:Fun)(b:Nat)(y:Block):Int:=
 if y.regs<x.regs∨16<y.regs then 1
 else if QA y.params y.regs≠0 then QA y.params y.regs
 else if b=0∧(y.regs≠x.regs∨y.params≠x.params) then 9
 else if 40<y.code.length then 2 else 0
def O1 (n f:Nat)(x:Fun)(b:Nat)(y:Block):Mw:=Ln (LB (QD x b y) (S0 f b)) (Ln (Pk n f b 0 y.code) (LB (NU x.blocks.length y.fin) (Rd f b)))
def PU (n f:Nat)(x:Fun):Nat→List Block→Mw
 | _,[]=>(0,0)
 | b,y::l=>Ln (O1 n f x b y) (PU n f x (b+1) l)
def QK (f:Nat)(x:Fun):Int:=
 if x.regs<0∨6<x.regs then 1
 else if QA x.params x.regs≠0 then QA x.params x.regs
 else if QA x.results x.regs≠0 then QA x.results x.regs
 else if x.blocks.length<1∨12<x.blocks.length then 2
 else if f=0∧(0<x.regs∨0<x.params.length∨∃t∈x.results,t.kind≠1) then 18 else 0
def RO (n f:Nat)(x:Fun):Mw:=Ln (LB (QK f x) (PT f)) (PU n f x 0 x.blocks)
def Re (n:Nat):Nat→List Fun→Mw
 | _,[]=>(0,0)
 | f,x::l=>Ln (RO n f x) (Re n (f+1) l)
def Module.fault (m:Module):Mw:=Ln (LB (if m.funcs.length<1∨8<m.funcs.length then 2 else 0) (-1)) (Re m.funcs.length 0 m.funcs)
theorem oI {n f b:Nat}:∀{l:List Ins}{i:Nat},(Pk n f b i l).1=0→Pk n f b i l=(0,0)
 | [],_=>fun _=>rfl
 | _::_,_=>Xn (SY _ _) oI
theorem tx {n f:Nat}{x:Fun}{b:Nat}{y:Block}:(O1 n f x b y).1=0→O1 n f x b y=(0,0):=Xn (SY _ _) (Xn oI (SY _ _))
theorem i0 {n f:Nat}{x:Fun}:∀{l:List Block}{b:Nat},(PU n f x b l).1=0→PU n f x b l=(0,0)
 | [],_=>fun _=>rfl
 | _::_,_=>Xn tx i0
theorem Qt {n:Nat}:∀{l:List Fun}{f:Nat},(Re n f l).1=0→Re n f l=(0,0)
 | [],_=>fun _=>rfl
 | _::_,_=>Xn (Xn (SY _ _) i0) Qt
theorem Module.fault_z {m:Module}:m.fault.1=0→m.fault=(0,0):=Xn (SY _ _) Qt

theorem OQ {n f b:Nat}{x:Fun}{y:Block}{c:Int}(h:QD x b y=c)(hc:c≠0):O1 n f x b y=(c,S0 f b):=by
 unfold O1;rw [h,O0 (by rw [Sc];exact hc),Rv hc]
theorem oJ {n f b:Nat}{x:Fun}{y:Block}{F:Mw}(h:QD x b y=0)(hc:Pk n f b 0 y.code=F)(hF:F.1≠0):O1 n f x b y=F:=by
 unfold O1;rw [h,M4,hc,O0 hF,MH (fun h=>absurd h hF)]
theorem Uz {n f b:Nat}{x:Fun}{y:Block}(h:QD x b y=0)(hc:Pk n f b 0 y.code=(0,0)):O1 n f x b y=LB (NU x.blocks.length y.fin) (Rd f b):=by
 unfold O1;rw [h,M4,hc,MH (SY _ _),MH (SY _ _)]
theorem zk {n f b i:Nat}{x:Ins}{l:List Ins}(h:Qz n x=0):Pk n f b i (x::l)=Pk n f b (i+1) l:=by
 rw [Pk,h,M4,MH oI]
theorem zp {n f b i:Nat}{x:Ins}{l:List Ins}(h:Qz n x≠0):Pk n f b i (x::l)=(Qz n x,Pu f b i):=by
 rw [Pk,O0 (by rw [Sc];exact h),Rv h]
theorem Ol {n f:Nat}{x:Fun}{c:Int}(h:QK f x=c)(hc:c≠0):RO n f x=(c,PT f):=by
 unfold RO;rw [h,O0 (by rw [Sc];exact hc),Rv hc]
theorem oK {n f:Nat}{x:Fun}(h:QK f x=0):RO n f x=PU n f x 0 x.blocks:=by
 unfold RO;rw [h,M4,MH i0]
theorem zq {n f b:Nat}{x:Fun}{y:Block}{l:List Block}(h:(O1 n f x b y).1=0):PU n f x b (y::l)=PU n f x (b+1) l:=by
 rw [PU,tx h,MH i0]
theorem tz {n f b:Nat}{x:Fun}{y:Block}{l:List Block}(h:(O1 n f x b y).1≠0):PU n f x b (y::l)=O1 n f x b y:=by
 rw [PU,O0 h]
theorem zs {n f:Nat}{x:Fun}:(RO n f x).1=0→RO n f x=(0,0):=Xn (SY _ _) i0
theorem zu {n f:Nat}{x:Fun}{l:List Fun}(h:(RO n f x).1=0):Re n f (x::l)=Re n (f+1) l:=by
 rw [Re,zs h,MH Qt]
theorem Qk {n f:Nat}{x:Fun}{l:List Fun}(h:(RO n f x).1≠0):Re n f (x::l)=RO n f x:=by
 rw [Re,O0 h]

def UA:List ByteArray:=[⟨#[]⟩,⟨#[110]⟩,⟨#[97,98,107]⟩,⟨#[]⟩,⟨#[97]⟩,⟨#[97,114]⟩,⟨#[97,107]⟩,⟨#[97,98,107]⟩,⟨#[97,98]⟩,⟨#[97,98]⟩,⟨#[97,98,99]⟩,⟨#[97]⟩,⟨#[]⟩,⟨#[97]⟩,⟨#[107,103,114]⟩]
def Mt (op:Int):ByteArray:=if op<1∨14<op then ⟨#[]⟩ else UA.getD op.toNat ⟨#[]⟩
def Mg (s:ByteArray)(c:Nat):Bool:=s.data.toList.any fun b=>decide (b.toNat=c)
theorem Mc {op:Int}(h1:¬op<1)(h2:¬14<op):op=1∨op=2∨op=3∨op=4∨op=5∨op=6∨op=7∨op=8∨op=9∨op=10∨op=11∨op=12∨op=13∨op=14:=by omega
theorem UB (op:Int)(h:¬(op<1∨14<op)):Mg (Mt op) 97=fA op∧Mg (Mt op) 98=fB op∧Mg (Mt op) 99=fC op∧Mg (Mt op) 107=fK op∧Mg (Mt op) 110=fN op∧Mg (Mt op) 103=fG op∧Mg (Mt op) 114=fR op:=by
 rcases Mc (op:=op) Jo Jo with rfl|rfl|rfl|rfl|rfl|rfl|rfl|rfl|rfl|rfl|rfl|rfl|rfl|rfl<;>decide
end
section
abbrev gi (α:Type):=Except Mw (α×List UInt8)
end
section
section
variable {P:Program}{l:List GO}{Q:QT}{ρ:La}{w:World}
theorem lN {a b T:Nat}{p o p' o':Nat}(ha:ρ a= .pointer (some ⟨p,o,none⟩))(hv:XM P w ⟨p,o,none⟩ T v)(ha':ρ b= .pointer (some ⟨p',o',none⟩))(hv':XM P w ⟨p',o',none⟩ T' v')(h:R (.returned (.tuple #[v,v'])) w):Lo P [.cell a T, .cell b T'] R .ret ρ w:=
 ⟨_,v,ha,hv,_,v',ha',hv',h⟩
end
end
section
def oL (c:BitVec 32):List UInt8:=[UInt8.ofNat c.toNat,UInt8.ofNat (c >>> 8).toNat,UInt8.ofNat (c >>> 16).toNat,UInt8.ofNat (c >>> 24).toNat]
def Module.enc (m:Module):List UInt8:=m.body++oL (iY m.body)
end
section
section
variable {bs:List UInt8}{at0 i u:Nat}{x:UInt8}{X:gi Nat}
end
end
section
section
variable {α:Type}
variable {f:List UInt8→gi α}{N k n0:Nat}{n:Int}{xs:List α}{r r1 r2 r3:List UInt8}{a:α}{e:Mw}{X:gi (List α)}
end
end
section
section
variable {bs r:List UInt8}{N:Nat}{e:Mw}{l:List Fun}
end
end
section
section
variable {α β:Type}{M n:Nat}
def UC (M:Nat)(f:List UInt8→gi α)(p:α→Prop):Prop:=∀r x r',r.length≤M→f r= .ok (x,r')→p x∧r'.length≤r.length
theorem UC.weak {f:List UInt8→gi α}{p q:α→Prop}(h:UC M f p)(hq:∀x,p x→q x):UC M f q:=fun r x r' h1 h2=>⟨hq x (h r x r' h1 h2).1,(h r x r' h1 h2).2⟩
end
end
section
section
variable {n:Nat}{r r1 r2 r3 r4:List UInt8}{e:Mw}{op a:Int}{yes no:To}{l:List Int}
variable {h j:Nat}{x:Int×Int×Int×Int}{y:Int}{X:gi (Int×Int×Int×Int)}
end
end
section
section
variable {α:Type}{n:Nat}
def Mh (x:Int):Prop:=-9223372036854775808≤x∧x≤9223372036854775807
def lO (l:List Int):Prop:=l.length≤9000000000000000000∧∀x∈l,Mh x
def ToOK (t:To):Prop:=Mh t.block∧lO t.regs∧lO t.args
def Qgb (x:Ins):Prop:=(Mh x.op∧Mh x.a∧Mh x.b∧Mh x.c∧Mh x.k∧Mh x.n)∧((¬TD x.op / 2 ^ 0 % 2=1→x.a=0)∧(¬TD x.op / 2 ^ 1 % 2=1→x.b=0)∧(¬TD x.op / 2 ^ 2 % 2=1→x.c=0)∧(¬TD x.op / 2 ^ 3 % 2=1→x.k=0))∧
 (¬TD x.op / 64 % 2=1→x.n=0)∧(¬TD x.op / 16 % 2=1→x.regs=[])∧(¬TD x.op / 32 % 2=1→x.args=[])∧lO x.regs∧lO x.args
end
end
section
def K4 (l:List Bool)(r:Int):Bool:=decide (0≤r) && decide (r<l.length) && l.getD r.toNat false

def NG (l:List Bool)(n:Nat):List Int:=((List.range n).filter fun j=>l.getD j false).map Int.ofNat
def Mq (l:List Bool):List Int:=NG l l.length
theorem lP (l:List Bool)(n:Nat):NG l (n+1)=NG l n++if l.getD n false then [(n:Int)] else []:=by
 unfold NG;rw [Ib,List.filter_append,Ga];congr 1;by_cases h:l.getD n false=true
 · rw [if_pos h,List.filter_cons_of_pos DO];rfl
 · rw [if_neg h,JY DO];rfl
theorem oM (l:List Bool)(n:Nat):(NG l n).length≤n:=by
 unfold NG;rw [FF];exact Hj (List.length_filter_le _ _) Js

def MY (l:List Bool)(seen:List Int):List Int→Int
 | []=>if seen.length<(Mq l).length then 12 else 0
 | x::xs=>if K4 l x then if x∈seen then 13 else MY l (seen++[x]) xs else 10
def RP (l:List Bool)(ys:List Int):List Bool:=(List.range l.length).map fun (j:Nat)=>decide ((j:Int)∈ys)
theorem zw (l:List Bool)(ys:List Int):(RP l ys).length=l.length:=by simp [RP]
theorem zx (l:List Bool):RP l []=List.replicate l.length false:=by
 apply Ju<;>simp [RP]
theorem zz {l:List Bool}{r:Int}(h0:0≤r)(h1:r<l.length):(RP l ys).getD r.toNat false=decide (r∈ys):=by
 have:r.toNat<l.length:=DB;simp [RP,FE,FW,HP this,Gh h0]
theorem zA {l:List Bool}{r:Int}(h0:0≤r):(RP l ys).set r.toNat true=RP l (ys++[r]):=by
 apply Hu;intro j;simp only [RP,G9,FW,FF,Ix];by_cases hj:j<l.length
 · simp only [HP hj,GC]
   by_cases he:r.toNat=j
   · subst he;simp [hj,Gh h0]
   · have:(j:Int)≠r:=DB;simp [he,this]
 · have h2:(List.range l.length)[j]?=none:=by simp;omega
   simp only [h2,JA];by_cases he:r.toNat=j
   · subst he;simp [hj]
   · simp [he]
theorem cE {l:List Bool}{r:Int}(h:K4 l r=true):0≤r∧r<l.length∧l.getD r.toNat false=true:=by
 simp only [K4,FN,decide_eq_true_eq] at h;exact ⟨h.1.1,h.1.2,h.2⟩

def Xo (l:List Bool)(xs0 seen:List Int):List Int→Int
 | []=>if∀y∈Mq l,y∈xs0 then 0 else 12
 | x::xs=>if K4 l x then if x∈seen then 13 else Xo l xs0 (seen++[x]) xs else 10


theorem MI {l:List Bool}{x:Int}:x∈Mq l↔K4 l x=true:=by
 simp only [Mq,NG,Gm,HS,Gp,K4,FN,decide_eq_true_eq];constructor
 · rintro ⟨j,⟨h1,h2⟩,rfl⟩;exact ⟨⟨by simp,by simpa using h1⟩,by simpa using h2⟩
 · rintro ⟨⟨h0,h1⟩,h2⟩;exact ⟨x.toNat,⟨Jo,h2⟩,by simp;omega⟩
theorem zB (l:List Bool):(Mq l).Nodup:=by
 unfold Mq NG;unfold List.Nodup;rw [KD];refine List.Pairwise.imp ?_ (List.Pairwise.filter _ (List.nodup_range (n:=l.length)));intro a b h e;exact h (Int.ofNat.inj e)
theorem zE (l:List Bool)(xs:List Int):∀(rest seen:List Int),seen++rest=xs→seen.Nodup→(∀y∈seen,K4 l y=true)→MY l seen rest=Xo l xs seen rest:=by
 intro rest
 induction rest with
 | nil=>
   intro seen he hn hs;rw [GL] at he;subst he;simp only [MY,Xo];have h1:seen.length≤(Mq l).length:=ck hn fun y hy=>MI.2 (hs y hy);by_cases h:∀y∈Mq l,y∈seen
   · have:=ck (zB l) h;rw [if_pos h,if_neg Jo]
   · rw [if_neg h,if_pos]
     simp only [Kg] at h;obtain ⟨y,hy,hn'⟩:=h
     have:=ck (a:=y::seen) (b:=Mq l) (HC.2 ⟨hn',hn⟩) (by
      intro z hz;rcases FX.1 hz with rfl|hz
      · exact hy
      · exact MI.2 (hs z hz))
     simp only [FP] at this;omega
 | cons x rest ih=>
   intro seen he hn hs;simp only [MY,Xo];by_cases h1:K4 l x=true
   · rw [if_pos h1,if_pos h1]
     by_cases h2:x∈seen
     · rw [if_pos h2,if_pos h2]
     · rw [if_neg h2,if_neg h2]
       refine ih (seen++[x]) (by rw [Hg];exact he) ?_ ?_
       · rw [HG];exact ⟨hn,by simp,fun a ha b hb e=>by simp at hb;subst hb;subst e;exact h2 ha⟩
       · intro y hy
         rcases F5.1 hy with hy|hy
         · exact hs y hy
         · simp at hy;subst hy;exact h1
   · rw [if_neg h1,if_neg h1]
theorem zF (l:List Bool)(xs:List Int):MY l [] xs=Xo l xs [] xs:=zE l xs xs [] rfl JG Js
end
section
structure JS where
 h:List Bool
 l:List Ty
deriving instance DecidableEq for JS
def L6 (s:JS)(k:Int):Except Int Ty:=if k<0 then .error 1 else match s.l[k.toNat]? with
 | none=> .error 1
 | some t=> .ok t
def KL {α β:Type}(x:Except Int α)(f:α→Except Int β):Except Int β:=match x with
 | .error e=> .error e
 | .ok a=>f a
theorem Qy {x:Except Int α}{f:α→Except Int β}{e:Int}(h:x= .error e):KL x f= .error e:=by rw [h];rfl
theorem Q4 {x:Except Int α}{f:α→Except Int β}{a:α}(h:x= .ok a):KL x f=f a:=by rw [h];rfl
theorem Q7 {x:Except Int α}{f:α→Except Int β}{b:β}(h:KL x f= .ok b):∃a,x= .ok a∧f a= .ok b:=by
 cases x with
 | error e=>cases h
 | ok a=>exact ⟨a,rfl,h⟩
def K6 (s:JS)(k kind:Int):Except Int Ty:=KL (L6 s k) fun t=>if t.kind≠kind then .error 9 else .ok t
def L4 (s:JS)(k kind:Int):Except Int Ty:=KL (K6 s k kind) fun t=>if K4 s.h t.r=false then .error 10 else .ok t
def Me (s:JS)(t:Ty):Except Int JS:=if s.l.length=80 then .error 2 else .ok ⟨s.h,s.l++[t]⟩
def Ox (s:JS)(regs:List Int):List Int→List Ty→Except Int Unit
 | k::l,u::want=>KL (L6 s k) fun t=>match u.ren regs with
   | none=> .error 9
   | some u'=>if t≠u' then .error 9 else Ox s regs l want
 | _,_=> .ok ()
def O2 (s:JS)(l:List Int)(want:List Ty)(regs:List Int):Except Int Unit:=if l.length≠want.length then .error 2 else Ox s regs l want
def Pv (t:Ty)(k:Int):Except Int Ty:=match t.l[k.toNat]? with
 | none=> .error 9
 | some u=> .ok u
def NB (h:List Bool)(p:List Int):List Int→Except Int Unit
 | []=> .ok ()
 | r::l=>if K4 h r=false then .error 10 else if r∈p then .error 13 else NB h (p++[r]) l
def Nc (to:List Int)(t:Ty):Ty:=(t.ren to).getD (.mk 0 0 [])
def Rw (m:Module)(s:JS)(x:Ins):Except Int JS:=match m.funcs[x.k.toNat]? with
 | none=> .error 1
 | some g=>if (x.regs.length:Int)≠g.regs then .error 2 else KL (NB s.h [] x.regs) fun _=>KL (O2 s x.args g.params x.regs) fun _=>
   if 80<s.l.length+g.results.length then .error 2 else .ok ⟨s.h,s.l++g.results.map (Nc x.regs)⟩
def K2 (s:JS):List Int→Except Int (List Ty)
 | []=> .ok []
 | k::l=>KL (L6 s k) fun t=>KL (K2 s l) fun ts=> .ok (t::ts)
def KZ:Ty:= .mk 1 0 []
def UD (s:JS)(x:Ins):Except Int JS:=KL (L4 s x.a 2) fun t=>KL (K2 s x.args) fun ts=>
 if (Ty.mk 3 t.r ts).fault s.h.length≠0 then .error 19 else Me s (.mk 3 t.r ts)
def Lb (m:Module)(f:Fun)(s:JS)(x:Ins):Except Int JS:=
 if x.op=1∨x.op=12 then Me s KZ
 else if x.op=2 then KL (K6 s x.a 1) fun _=>KL (K6 s x.b 1) fun _=>Me s KZ
 else if x.op=3 then (if s.h.length=16∨s.l.length=80 then .error 2 else .ok ⟨s.h++[true],s.l++[.mk 2 s.h.length []]⟩)
 else if x.op=4 then KL (L4 s x.a 2) fun t=>if t.r<f.regs then .error 11 else .ok ⟨s.h.set t.r.toNat false,s.l⟩
 else if x.op=5 then UD s x
 else if x.op=6 then KL (L4 s x.a 3) fun t=>KL (Pv t x.k) fun u=>Me s u
 else if x.op=7 then KL (L4 s x.a 3) fun t=>KL (Pv t x.k) fun u=>KL (L6 s x.b) fun v=>if u≠v then .error 9 else .ok s
 else if x.op=8 then KL (L4 s x.a 2) fun t=>KL (K6 s x.b 1) fun _=>Me s (.mk 4 t.r [])
 else if x.op=9 then KL (L4 s x.a 4) fun _=>KL (K6 s x.b 1) fun _=>Me s KZ
 else if x.op=10 then KL (L4 s x.a 4) fun _=>KL (K6 s x.b 1) fun _=>KL (K6 s x.c 1) fun _=> .ok s
 else if x.op=11 then KL (L4 s x.a 4) fun _=>Me s KZ
 else if x.op=13 then KL (K6 s x.a 1) fun _=> .ok s
 else Rw m s x
def Lj (m:Module)(f:Fun)(s:JS)(x:Ins):Int×JS:=if Qz m.funcs.length x≠0 then (Qz m.funcs.length x,s) else match Lb m f s x with
 | .error c=>(c,s)
 | .ok s'=>(0,s')
def Om (l:List Int)(n:Nat):Bool:=(List.range n).all fun i=>decide (l[i]?=some (i:Int))
def On (f:Fun)(s:JS)(t:To):Except Int Unit:=match f.blocks[t.block.toNat]? with
 | none=> .error 1
 | some b=>if (t.regs.length:Int)≠b.regs then .error 2 else if Om t.regs f.regs.toNat=false then .error 11 else
   if MY s.h [] t.regs≠0 then .error (MY s.h [] t.regs) else O2 s t.args b.params t.regs
def LJ (n:Nat):List Int:=(List.range n).map Int.ofNat
def MJ (f:Fun)(s:JS)(e:Tail):Except Int Unit:=
 if e.op=1 then On f s e.yes
 else if e.op=2 then KL (K6 s e.a 1) fun _=>KL (On f s e.yes) fun _=>On f s e.no
 else KL (O2 s e.args f.results (LJ f.regs.toNat)) fun _=>if f.regs<(Mq s.h).length then .error 12 else .ok ()
def MD (f:Fun)(s:JS)(e:Tail):Int:=if NU f.blocks.length e≠0 then NU f.blocks.length e else match MJ f s e with
 | .error c=>c
 | .ok _=>0
def Nd (y:Block):JS:=⟨List.replicate (min y.regs 16).toNat true,y.params⟩

theorem lQ {s:JS}{k:Int}{t:Ty}(h:L6 s k= .ok t):0≤k∧s.l[k.toNat]?=some t:=by
 unfold L6 at h;split at h
 · cases h
 · rename_i h0
   split at h
   · cases h
   · rename_i u hu;cases h;exact ⟨Jo,hu⟩
theorem aB {s:JS}{k:Int}(h:k<0∨(s.l.length:Int)≤k):L6 s k= .error 1:=by
 unfold L6;by_cases h0:k<0
 · rw [if_pos h0]
 · rw [if_neg h0,Gb Jo]
theorem Yn {s:JS}{k:Int}{t:Ty}(h0:0≤k)(h:s.l[k.toNat]?=some t):L6 s k= .ok t:=by
 unfold L6;rw [if_neg Jo,h]
theorem oN {s:JS}{k kind:Int}{t:Ty}(h:K6 s k kind= .ok t):0≤k∧s.l[k.toNat]?=some t∧t.kind=kind:=by
 obtain ⟨u,h1,h2⟩:=Q7 h;split at h2
 · cases h2
 · rename_i hk;cases h2;have:=lQ h1;exact ⟨this.1,this.2,Gi.1 hk⟩
theorem Xp {s:JS}{k kind:Int}{t:Ty}(h:L4 s k kind= .ok t):0≤k∧s.l[k.toNat]?=some t∧t.kind=kind∧K4 s.h t.r=true:=by
 obtain ⟨u,h1,h2⟩:=Q7 h;split at h2
 · cases h2
 · rename_i hk;cases h2;have:=oN h1;exact ⟨this.1,this.2.1,this.2.2,by simpa using hk⟩
theorem lR {s s':JS}{t:Ty}(h:Me s t= .ok s'):s.l.length≠80∧s'.h=s.h∧s'.l=s.l++[t]:=by
 unfold Me at h;split at h
 · cases h
 · rename_i hk;cases h;exact ⟨hk,rfl,rfl⟩
structure JStep (x:Ins) (s s':JS):Prop where
 len:s.l.length≤80→s'.l.length≤80
 pre:∃more,s'.l=s.l++more∧(x.op≠14→more.length≤1)∧(x.op=3→more.length=1)∧(x.op=4→more=[])
 new:x.op=3→s'.h=s.h++[true]∧s.h.length≠16
 free:x.op=4→∃t,0≤x.a∧s.l[x.a.toNat]?=some t∧t.kind=2∧K4 s.h t.r=true∧s'.h=s.h.set t.r.toNat false
 else_:x.op≠3→x.op≠4→s'.h=s.h
theorem cF {x:Ins}{s s':JS}{t:Ty}(h:Me s t= .ok s')(h3:x.op≠3)(h4:x.op≠4):JStep x s s':=by
 obtain ⟨h1,h2,h5⟩:=lR h;refine ⟨fun hl=>by rw [h5,FH];simp only [FP,F8];omega,⟨[t],h5,fun _=>by simp,fun h=>absurd h h3,fun h=>absurd h h4⟩,fun h=>absurd h h3,fun h=>absurd h h4,fun _ _=>h2⟩
theorem oO {x:Ins}{s:JS}(h3:x.op≠3)(h4:x.op≠4):JStep x s s:=
 ⟨fun hl=>hl,⟨[],by simp,fun _=>by simp,fun h=>absurd h h3,fun h=>absurd h h4⟩,fun h=>absurd h h3,fun h=>absurd h h4,fun _ _=>rfl⟩
theorem zG {m:Module}{f:Fun}{s s':JS}{x:Ins}(hop:1≤x.op∧x.op≤14)(h:Lb m f s x= .ok s'):JStep x s s':=by
 unfold Lb at h;by_cases h1:x.op=1∨x.op=12
 · rw [if_pos h1] at h;exact cF h Jo Jo
 rw [if_neg h1] at h;by_cases h2:x.op=2
 · rw [if_pos h2] at h;obtain ⟨_,_,h⟩:=Q7 h;obtain ⟨_,_,h⟩:=Q7 h;exact cF h Jo Jo
 rw [if_neg h2] at h;by_cases hc:x.op=3
 · rw [if_pos hc] at h
   by_cases hn:s.h.length=16∨s.l.length=80
   · rw [if_pos hn] at h;cases h
   · rw [if_neg hn] at h;cases h;exact ⟨fun hl=>by simp only [FH,FP,F8];omega,⟨[_],rfl,fun _=>by simp,fun _=>rfl,fun h=>by omega⟩,fun _=>⟨rfl,Jo⟩,fun h=>by omega,fun h=>absurd hc h⟩
 rw [if_neg hc] at h;by_cases hc4:x.op=4
 · rw [if_pos hc4] at h
   obtain ⟨t,h1,h⟩:=Q7 h;by_cases hk:t.r<f.regs
   · rw [if_pos hk] at h;cases h
   · rw [if_neg hk] at h;cases h;obtain ⟨a1,a2,a3,a4⟩:=Xp h1;exact ⟨fun hl=>hl,⟨[],by simp,fun _=>by simp,fun h=>by omega,fun _=>rfl⟩,fun h=>by omega,fun _=>⟨t,a1,a2,a3,a4,rfl⟩,fun _ h=>absurd hc4 h⟩
 rw [if_neg hc4] at h;by_cases h5:x.op=5
 · rw [if_pos h5] at h
   unfold UD at h;obtain ⟨t,_,h⟩:=Q7 h;obtain ⟨ts,_,h⟩:=Q7 h;by_cases hk:(Ty.mk 3 t.r ts).fault s.h.length≠0
   · rw [if_pos hk] at h;cases h
   · rw [if_neg hk] at h;exact cF h Jo Jo
 rw [if_neg h5] at h;by_cases h6:x.op=6
 · rw [if_pos h6] at h;obtain ⟨_,_,h⟩:=Q7 h;obtain ⟨_,_,h⟩:=Q7 h;exact cF h Jo Jo
 rw [if_neg h6] at h;by_cases h7:x.op=7
 · rw [if_pos h7] at h
   obtain ⟨_,_,h⟩:=Q7 h;obtain ⟨u,_,h⟩:=Q7 h;obtain ⟨v,_,h⟩:=Q7 h;by_cases hk:u≠v
   · rw [if_pos hk] at h;cases h
   · rw [if_neg hk] at h;cases h;exact oO Jo Jo
 rw [if_neg h7] at h;by_cases h8:x.op=8
 · rw [if_pos h8] at h;obtain ⟨_,_,h⟩:=Q7 h;obtain ⟨_,_,h⟩:=Q7 h;exact cF h Jo Jo
 rw [if_neg h8] at h;by_cases h9:x.op=9
 · rw [if_pos h9] at h;obtain ⟨_,_,h⟩:=Q7 h;obtain ⟨_,_,h⟩:=Q7 h;exact cF h Jo Jo
 rw [if_neg h9] at h;by_cases h10:x.op=10
 · rw [if_pos h10] at h;obtain ⟨_,_,h⟩:=Q7 h;obtain ⟨_,_,h⟩:=Q7 h;obtain ⟨_,_,h⟩:=Q7 h;cases h;exact oO Jo Jo
 rw [if_neg h10] at h;by_cases h11:x.op=11
 · rw [if_pos h11] at h;obtain ⟨_,_,h⟩:=Q7 h;exact cF h Jo Jo
 rw [if_neg h11] at h;by_cases h13:x.op=13
 · rw [if_pos h13] at h;obtain ⟨_,_,h⟩:=Q7 h;cases h;exact oO Jo Jo
 rw [if_neg h13] at h;unfold Rw at h;split at h
 · cases h
 · rename_i g hg
   by_cases hr:(x.regs.length:Int)≠g.regs
   · rw [if_pos hr] at h;cases h
   · rw [if_neg hr] at h
     obtain ⟨_,_,h⟩:=Q7 h;obtain ⟨_,_,h⟩:=Q7 h;by_cases hn:80<s.l.length+g.results.length
     · rw [if_pos hn] at h;cases h
     · rw [if_neg hn] at h;cases h;exact ⟨fun hl=>by rw [FH,FF];omega,⟨_,rfl,fun h=>by omega,fun h=>by omega,fun h=>by omega⟩,fun h=>by omega,fun h=>by omega,fun _ _=>rfl⟩
theorem aC {n:Nat}{x:Ins}(h:Qz n x=0):1≤x.op∧x.op≤14:=by
 unfold Qz at h;split at h
 · cases h
 · omega
section
variable {s:JS}{regs l:List Int}{want:List Ty}{k:Nat}{x c:Int}{u u' t:Ty}
theorem lS (hx:l[k]?=some x)(hu:want[k]?=some u)(h:L6 s x= .error c):Ox s regs (l.drop k) (want.drop k)= .error c:=by
 rw [Q1 hx,Q1 hu,Ox,Qy h]
theorem tA (hx:l[k]?=some x)(hu:want[k]?=some u)(h:L6 s x= .ok t)(hn:u.ren regs=none):Ox s regs (l.drop k) (want.drop k)= .error 9:=by
 rw [Q1 hx,Q1 hu,Ox,Q4 h,hn]
theorem tB (hx:l[k]?=some x)(hu:want[k]?=some u)(h:L6 s x= .ok t)(hn:u.ren regs=some u')(hd:t≠u'):Ox s regs (l.drop k) (want.drop k)= .error 9:=by
 rw [Q1 hx,Q1 hu,Ox,Q4 h,hn];exact if_pos hd
theorem tC (hx:l[k]?=some x)(hu:want[k]?=some u)(h:L6 s x= .ok t)(hn:u.ren regs=some u')(hd:t=u'):Ox s regs (l.drop k) (want.drop k)=Ox s regs (l.drop (k+1)) (want.drop (k+1)):=by
 rw [Q1 hx,Q1 hu,Ox,Q4 h,hn];exact if_neg (fun h=>h hd)
theorem tD (h:l.length≤k):Ox s regs (l.drop k) (want.drop k)= .ok ():=by
 rw [FJ h,Ox];intro k l u w h;cases h
end
section
variable {m:Module}{f:Fun}{s:JS}{x:Ins}
theorem Xq (h:x.op=1∨x.op=12):Lb m f s x=(Me s KZ):=by
 unfold Lb;rw [if_pos Jo]
theorem aD (h:x.op=2):Lb m f s x=(KL (K6 s x.a 1) fun _=>KL (K6 s x.b 1) fun _=>Me s KZ):=by
 unfold Lb;rw [if_neg Jo,if_pos Jo]
theorem gj (h:x.op=3):Lb m f s x=(if s.h.length=16∨s.l.length=80 then .error 2 else .ok ⟨s.h++[true],s.l++[.mk 2 s.h.length []]⟩):=by
 unfold Lb;rw [if_neg Jo,if_neg Jo,if_pos Jo]
theorem cG (h:x.op=4):Lb m f s x=(KL (L4 s x.a 2) fun t=>if t.r<f.regs then .error 11 else .ok ⟨s.h.set t.r.toNat false,s.l⟩):=by
 unfold Lb;rw [if_neg Jo,if_neg Jo,if_neg Jo,if_pos Jo]
theorem gk (h:x.op=5):Lb m f s x=(UD s x):=by
 unfold Lb;(repeat rw [if_neg Jo]);rw [if_pos Jo]
theorem aE (h:x.op=6):Lb m f s x=(KL (L4 s x.a 3) fun t=>KL (Pv t x.k) fun u=>Me s u):=by
 unfold Lb;(repeat rw [if_neg Jo]);rw [if_pos Jo]
theorem UE (h:x.op=7):Lb m f s x=(KL (L4 s x.a 3) fun t=>KL (Pv t x.k) fun u=>KL (L6 s x.b) fun v=>if u≠v then .error 9 else .ok s):=by
 unfold Lb;(repeat rw [if_neg Jo]);rw [if_pos Jo]
theorem aF (h:x.op=8):Lb m f s x=(KL (L4 s x.a 2) fun t=>KL (K6 s x.b 1) fun _=>Me s (.mk 4 t.r [])):=by
 unfold Lb;(repeat rw [if_neg Jo]);rw [if_pos Jo]
theorem aG (h:x.op=9):Lb m f s x=(KL (L4 s x.a 4) fun _=>KL (K6 s x.b 1) fun _=>Me s KZ):=by
 unfold Lb;(repeat rw [if_neg Jo]);rw [if_pos Jo]
theorem aH (h:x.op=10):Lb m f s x=(KL (L4 s x.a 4) fun _=>KL (K6 s x.b 1) fun _=>KL (K6 s x.c 1) fun _=> .ok s):=by
 unfold Lb;(repeat rw [if_neg Jo]);rw [if_pos Jo]
theorem cH (h:x.op=11):Lb m f s x=(KL (L4 s x.a 4) fun _=>Me s KZ):=by
 unfold Lb;(repeat rw [if_neg Jo]);rw [if_pos Jo]
theorem gl (h:x.op=13):Lb m f s x=(KL (K6 s x.a 1) fun _=> .ok s):=by
 unfold Lb;(repeat rw [if_neg Jo]);rw [if_pos Jo]
theorem cI (h:x.op=14):Lb m f s x=(Rw m s x):=by
 unfold Lb;(repeat rw [if_neg Jo])
theorem cJ {t:Ty}(h:s.l.length≠80):Me s t= .ok ⟨s.h,s.l++[t]⟩:=if_neg h
theorem cK {t:Ty}(h:s.l.length=80):Me s t= .error 2:=if_pos h
theorem tE {k c:Int}{ts:List Ty}(hx:x.args[q]?=some k)(hd:K2 s x.args=KL (K2 s (x.args.drop q)) fun l=> .ok (ts++l))(h:L6 s k= .error c):K2 s x.args= .error c:=by
 rw [hd,Q1 hx,K2,Qy h];rfl
theorem tF {k:Int}{t:Ty}{ts:List Ty}(hx:x.args[q]?=some k)(hd:K2 s x.args=KL (K2 s (x.args.drop q)) fun l=> .ok (ts++l))(h:L6 s k= .ok t):K2 s x.args=KL (K2 s (x.args.drop (q+1))) fun l=> .ok ((ts++[t])++l):=by
 rw [hd,Q1 hx,K2,Q4 h]
 cases K2 s (x.args.drop (q+1)) with
 | error c=>rfl
 | ok l=>simp [KL]
theorem tG {ts:List Ty}(hd:K2 s x.args=KL (K2 s (x.args.drop q)) fun l=> .ok (ts++l))(h:x.args.length≤q):K2 s x.args= .ok ts:=by
 rw [hd,FJ h,K2];simp [KL]
end
theorem cL (l:List Int)(n:Nat):Om l (n+1)=(Om l n && decide (l[n]?=some (n:Int))):=by
 unfold Om;rw [Ib,List.all_append];simp
theorem lT {l:List Int}{n q:Nat}(hq:q<n)(h:l[q]?≠some (q:Int)):Om l n=false:=by
 unfold Om;rw [List.all_eq_false];exact ⟨q,Gp.2 hq,by simpa using h⟩
theorem tH (n:Nat):LJ (n+1)=LJ n++[(n:Int)]:=by unfold LJ;rw [Ib,Ga];rfl
section
variable {f:Fun}{s:JS}{t:To}{b:Block}{e:Tail}
theorem i5 (hb:f.blocks[t.block.toNat]?=some b)(h:(t.regs.length:Int)≠b.regs):On f s t= .error 2:=by unfold On;rw [hb];exact if_pos h
theorem lU (hb:f.blocks[t.block.toNat]?=some b)(h:¬(t.regs.length:Int)≠b.regs)(h2:Om t.regs f.regs.toNat=false):On f s t= .error 11:=by unfold On;rw [hb];simp only;rw [if_neg h,if_pos h2]
theorem UF (hb:f.blocks[t.block.toNat]?=some b)(h:¬(t.regs.length:Int)≠b.regs)(h2:Om t.regs f.regs.toNat=true)(h3:MY s.h [] t.regs≠0):On f s t= .error (MY s.h [] t.regs):=by unfold On;rw [hb];simp only;rw [if_neg h,if_neg (by rw [h2];decide),if_pos h3]
theorem UG (hb:f.blocks[t.block.toNat]?=some b)(h:¬(t.regs.length:Int)≠b.regs)(h2:Om t.regs f.regs.toNat=true)(h3:MY s.h [] t.regs=0):On f s t=O2 s t.args b.params t.regs:=by unfold On;rw [hb];simp only;rw [if_neg h,if_neg (by rw [h2];decide),if_neg (fun h=>h h3)]
theorem lV (h:e.op=1):MJ f s e=On f s e.yes:=by unfold MJ;rw [if_pos h]
theorem aI (h:e.op=2):MJ f s e=KL (K6 s e.a 1) fun _=>KL (On f s e.yes) fun _=>On f s e.no:=by unfold MJ;rw [if_neg Jo,if_pos h]
theorem cM (h:e.op=3):MJ f s e=KL (O2 s e.args f.results (LJ f.regs.toNat)) fun _=>if f.regs<(Mq s.h).length then .error 12 else .ok ():=by unfold MJ;rw [if_neg Jo,if_neg Jo]
theorem Yo {n:Nat}(h:NM n t true=0):0≤t.block∧t.block<n:=by
 unfold NM at h;simp at h;omega
theorem gm {n:Nat}(h:NU n e=0):1≤e.op∧e.op≤3∧NM n e.yes (decide (e.op≠3))=0∧NM n e.no (decide (e.op=2))=0:=by
 unfold NU at h;split at h
 · cases h
 · split at h
   · cases h
   · split at h
     · cases h
     · unfold SZ at h
       split at h
       · rename_i h1;exact absurd h h1
       · rename_i h1;exact ⟨Jo,Jo,Gi.1 h1,h⟩
end
def NZ {α:Type}(x:Except Int α):Prop:=∀c,x= .error c→c≠0
theorem NZ.e {c:Int}(h:c≠0):NZ (.error c:Except Int α):=fun _ h'=>by cases h';exact h
theorem NZ.o (a:α):NZ (.ok a:Except Int α):=fun _ h'=>by cases h'
theorem NZ.bind {x:Except Int α}{f:α→Except Int β}(h1:NZ x)(h2:∀a,x= .ok a→NZ (f a)):NZ (KL x f):=by
 cases x with
 | error e=>exact fun c h=>by cases h;exact h1 _ rfl
 | ok a=>exact h2 a rfl
theorem NZ.ite {p:Prop}[Decidable p]{a b:Except Int α}(h1:NZ a)(h2:NZ b):NZ (if p then a else b):=by
 split
 · exact h1
 · exact h2
theorem i6 (s:JS)(k:Int):NZ (L6 s k):=by
 unfold L6;split
 · exact .e Jd
 · split
   · exact .e Jd
   · exact .o _
theorem UH (s:JS)(k kind:Int):NZ (K6 s k kind):=by
 refine .bind (i6 s k) fun t _=>?_;split
 · exact .e Jd
 · exact .o _
theorem cN (s:JS)(k kind:Int):NZ (L4 s k kind):=by
 refine .bind (UH s k kind) fun t _=>?_;split
 · exact .e Jd
 · exact .o _
theorem Yp (s:JS)(t:Ty):NZ (Me s t):=by
 unfold Me;split
 · exact .e Jd
 · exact .o _
theorem tI (s:JS)(regs:List Int):∀(l:List Int) (want:List Ty),NZ (Ox s regs l want)
 | [],[]=>by unfold Ox;exact .o _
 | [],_::_=>by unfold Ox;exact .o _
 | _::_,[]=>by unfold Ox;exact .o _
 | k ::l,u::want=>by
   unfold Ox;refine .bind (i6 s k) fun t _=>?_;split
   · exact .e Jd
   · split
     · exact .e Jd
     · exact tI s regs l want
theorem cO (s:JS)(l:List Int)(want:List Ty)(regs:List Int):NZ (O2 s l want regs):=by
 unfold O2;split
 · exact .e Jd
 · exact tI s regs l want
theorem tJ (t:Ty)(k:Int):NZ (Pv t k):=by
 unfold Pv;split
 · exact .e Jd
 · exact .o _
theorem oP (h:List Bool):∀(l p:List Int),NZ (NB h p l)
 | [],_=>by unfold NB;exact .o _
 | r ::l,p=>by
   unfold NB;split
   · exact .e Jd
   · split
     · exact .e Jd
     · exact oP h l _
theorem oQ (s:JS):∀(l:List Int),NZ (K2 s l)
 | []=>by unfold K2;exact .o _
 | k::l=>by
   unfold K2;exact .bind (i6 s k) fun _ _=> .bind (oQ s l) fun _ _=> .o _
theorem UI (m:Module)(s:JS)(x:Ins):NZ (Rw m s x):=by
 unfold Rw;split
 · exact .e Jd
 · split
   · exact .e Jd
   · refine .bind (oP _ _ _) fun _ _=> .bind (cO _ _ _ _) fun _ _=>?_
     split
     · exact .e Jd
     · exact .o _
theorem Yq (m:Module)(f:Fun)(s:JS)(x:Ins):NZ (Lb m f s x):=by
 unfold Lb UD
 repeat' (first|exact Yp _ _|exact UI _ _ _|exact .o _|exact .e Jd|refine .bind (UH _ _ _) fun _ _=>?_|refine .bind (cN _ _ _) fun _ _=>?_|refine .bind (tJ _ _) fun _ _=>?_|refine .bind (i6 _ _) fun _ _=>?_|refine .bind (oQ _ _) fun _ _=>?_|refine .ite ?_ ?_)
theorem oR {m:Module}{f:Fun}{s:JS}{x:Ins}(h:(Lj m f s x).1=0):Qz m.funcs.length x=0∧Lb m f s x= .ok (Lj m f s x).2:=by
 unfold Lj at h ⊢;split at h
 · rename_i hf;exact absurd h hf
 · rename_i hf
   rw [if_neg hf];refine ⟨Gi.1 hf,?_⟩
   cases hj:Lb m f s x with
   | error c=>rw [hj] at h;exact absurd h (Yq m f s x c hj)
   | ok s'=>rfl
theorem tK {m:Module}{f:Fun}{s:JS}{x:Ins}(h:(Lj m f s x).1≠0):(Lj m f s x).2=s:=by
 unfold Lj at h ⊢;split
 · rfl
 · rename_i hf
   rw [if_neg hf] at h
   cases hj:Lb m f s x with
   | error c=>rfl
   | ok s'=>rw [hj] at h;exact A1
end
section
theorem Sd {a b:Mw}(h:(Ln a b).1=0):a.1=0∧b.1=0:=by
 unfold Ln at h;split at h
 · rename_i hc;exact absurd h hc.2
 · rename_i hc;refine ⟨h,?_⟩;exact Gn fun hb=>hc ⟨h,hb⟩
theorem tL {n f b:Nat}:∀{l:List Ins}{i:Nat},(Pk n f b i l).1=0→∀x∈l,Qz n x=0
 | [],_,_,x,hx=>by cases hx
 | y::l,i,h,x,hx=>by
   rw [Pk] at h;obtain ⟨h1,h2⟩:=Sd h;rw [Sc] at h1;rcases FX.1 hx with rfl|hx
   · exact h1
   · exact tL h2 x hx
theorem tM {n f:Nat}{x:Fun}:∀{l:List Block}{b0:Nat},(PU n f x b0 l).1=0→∀(b:Nat) (y:Block),l[b]?=some y→(O1 n f x (b0+b) y).1=0
 | [],_,_,b,y,hy=>by cases hy
 | z::l,b0,h,b,y,hy=>by
   rw [PU] at h;obtain ⟨h1,h2⟩:=Sd h
   cases b with
   | zero=>rw [Gl] at hy;cases hy;exact h1
   | succ b=>rw [GI] at hy;rw [show b0+(b+1)=b0+1+b by omega];exact tM h2 b y hy
theorem oS {n:Nat}:∀{l:List Fun}{f0:Nat},(Re n f0 l).1=0→∀(f:Nat) (x:Fun),l[f]?=some x→(RO n (f0+f) x).1=0
 | [],_,_,b,y,hy=>by cases hy
 | z::l,b0,h,b,y,hy=>by
   rw [Re] at h;obtain ⟨h1,h2⟩:=Sd h
   cases b with
   | zero=>rw [Gl] at hy;cases hy;exact h1
   | succ b=>rw [GI] at hy;rw [show b0+(b+1)=b0+1+b by omega];exact oS h2 b y hy
theorem oT {m:Module}(h:m.fault.1=0):1≤m.funcs.length∧m.funcs.length≤8:=by
 have h1:=(Sd h).1;rw [Sc] at h1;split at h1
 · cases h1
 · omega
theorem S1 {m:Module}(h:m.fault.1=0){f:Nat}{x:Fun}(hx:m.funcs[f]?=some x):QK f x=0:=by
 have h1:=oS (Sd h).2 f x hx;rw [Hb] at h1;have h2:=(Sd h1).1
 rwa [Sc] at h2
theorem Xr {m:Module}(h:m.fault.1=0){f b:Nat}{x:Fun}{y:Block}(hx:m.funcs[f]?=some x)(hy:x.blocks[b]?=some y):QD x b y=0∧(∀i∈y.code,Qz m.funcs.length i=0)∧NU x.blocks.length y.fin=0:=by
 have h1:=oS (Sd h).2 f x hx;have h2:=tM (Sd h1).2 b y hy;obtain ⟨h3,h4⟩:=Sd h2;obtain ⟨h5,h6⟩:=Sd h4;rw [Sc] at h3 h6;rw [Hb] at h3;exact ⟨h3,tL h5,h6⟩
theorem aJ {x:Fun}{b:Nat}{y:Block}(h:QD x b y=0):x.regs≤y.regs∧y.regs≤16∧QA y.params y.regs=0∧(b=0→y.regs=x.regs∧y.params=x.params)∧y.code.length≤40:=by
 unfold QD at h;split at h
 · cases h
 · rename_i h1
   split at h
   · rename_i h2;exact absurd h h2
   · rename_i h2
     split at h
     · cases h
     · rename_i h3
       split at h
       · cases h
       · refine ⟨Jo,Jo,Gi.1 h2,fun hb=>?_,Jo⟩;refine ⟨Gn fun hr=>h3 ⟨hb, .inl hr⟩,Gn fun hr=>h3 ⟨hb, .inr hr⟩⟩
theorem UJ {f:Nat}{x:Fun}(h:QK f x=0):0≤x.regs∧x.regs≤6∧QA x.params x.regs=0∧QA x.results x.regs=0∧1≤x.blocks.length∧x.blocks.length≤12:=by
 unfold QK at h;split at h
 · cases h
 · rename_i h1
   split at h
   · rename_i h2;exact absurd h h2
   · rename_i h2
     split at h
     · rename_i h3;exact absurd h h3
     · rename_i h3
       split at h
       · cases h
       · exact ⟨Jo,Jo,Gi.1 h2,Gi.1 h3,Jo,Jo⟩
theorem zH {l:List Ty}{r:Int}(h:QA l r=0):l.length≤8:=by
 unfold QA at h;split at h
 · cases h
 · omega
theorem i7 {b:Int}(h:SZ a b=0):a=0∧b=0:=by
 unfold SZ at h;split at h
 · rename_i h1;exact absurd h h1
 · rename_i h1;exact ⟨Gi.1 h1,h⟩
theorem tN {r:Int}:∀{l:List Ty},RN r l=0→∀t∈l,t.fault r=0
 | [],_,t,ht=>by cases ht
 | x::l,h,t,ht=>by
   rw [RN] at h;obtain ⟨h1,h2⟩:=i7 h;rcases FX.1 ht with rfl|ht
   · exact h1
   · exact tN h2 t ht
theorem i9 {l:List Ty}{r:Int}(h:QA l r=0):∀t∈l,t.fault r=0:=by
 unfold QA at h;split at h
 · cases h
 · exact tN h
theorem Ty.ren_short:∀(t:Ty){to:List Int}{u:Ty},t.Short→t.ren to=some u→u.Short:=by
 intro t
 induction t using HI with
 | h k r l ih =>
   intro to u hs h;obtain ⟨hl,hp⟩:=hs.parts;rw [Ty.ren] at h;split at h
   · cases h
   · split at h
     · cases h
     · rename_i m hm
       cases h
       have key:∀(l:List Ty) (m:List Ty),(∀x∈l,x.Short∧∀{u:Ty},x.Short→x.ren to=some u→u.Short)→Tys.ren l to=some m→m.length=l.length∧∀y∈m,y.Short:=by
        intro l
        induction l with
        | nil=>intro m _ h;rw [Tys.ren] at h;cases h;exact ⟨rfl,by simp⟩
        | cons x l ihl=>
          intro m hx h;rw [Tys.ren] at h
          cases h1:x.ren to with
          | none=>rw [h1] at h;cases h
          | some y=>
            rw [h1] at h
            cases h2:Tys.ren l to with
            | none=>rw [h2] at h;cases h
            | some m2=>
              rw [h2] at h;simp only [FU] at h;subst h;obtain ⟨h3,h4⟩:=ihl m2 (fun z hz=>hx z (Gr _ hz)) h2;refine ⟨by simp [h3],fun z hz=>?_⟩;rcases FX.1 hz with rfl|hz
              · obtain ⟨h5,h6⟩:=hx x (GK ..);exact h6 h5 h1
              · exact h4 z hz
       obtain ⟨h3,h4⟩:=key l m (fun x hx=>⟨hp x hx,fun hs h=>ih x hx hs h⟩) hm;exact .mk Jo h4
theorem Ty.Short.part {t:Ty}(h:t.Short):∀u∈t.l,u.Short:=by
 obtain ⟨k,r,l⟩:=t;exact h.parts.2
theorem zI {t:Ty}{to:List Int}(h:t.Short):(Nc to t).Short:=by
 unfold Nc
 cases hn:t.ren to with
 | none=>exact .mk Jd Js
 | some u=>exact Ty.ren_short t h hn
structure JGood (s:JS):Prop where
 n:s.l.length≤80
 h:s.h.length≤16
 s:∀t∈s.l,t.Short
theorem JGood.get {s:JS}(hg:JGood s){k:Int}{t:Ty}(h:L6 s k= .ok t):t.Short:=hg.s t (FC (lQ h).2)
theorem JGood.put {s s':JS}{t:Ty}(hg:JGood s)(ht:t.Short)(h:Me s t= .ok s'):JGood s':=by
 obtain ⟨h1,h2,h3⟩:=lR h;refine ⟨by rw [h3,FH];have:=hg.n;simp only [FP,F8];omega,by rw [h2];exact hg.h,fun u hu=>?_⟩;rw [h3] at hu;rcases F5.1 hu with hu|hu
 · exact hg.s u hu
 · simp at hu;subst hu;exact ht
theorem ti {k r:Int}:(Ty.mk k r []).Short:= .mk Jd Js
theorem oU {s:JS}(hg:JGood s):∀{l:List Int}{ts:List Ty},K2 s l= .ok ts→ts.length=l.length∧∀t∈ts,t.Short
 | [],ts,h=>by rw [K2] at h;cases h;exact ⟨rfl,by simp⟩
 | k::l,ts,h=>by
   rw [K2] at h;obtain ⟨t,h1,h⟩:=Q7 h;obtain ⟨us,h2,h⟩:=Q7 h;cases h;obtain ⟨h3,h4⟩:=oU hg h2;refine ⟨by simp [h3],fun u hu=>?_⟩;rcases FX.1 hu with rfl|hu
   · exact hg.get h1
   · exact h4 u hu
theorem zJ {s:JS}{k:Int}{t:Ty}(h:K6 s k kd= .ok t):L6 s k= .ok t:=by have:=oN h;exact Yn this.1 this.2.1
theorem tO {s:JS}{k:Int}{t:Ty}(h:L4 s k kd= .ok t):L6 s k= .ok t:=by have:=Xp h;exact Yn this.1 this.2.1
theorem oV {t u:Ty}{k:Int}(h:Pv t k= .ok u):t.l[k.toNat]?=some u:=by
 unfold Pv at h;split at h
 · cases h
 · rename_i v hv;cases h;exact hv
theorem tP {m:Module}{f:Fun}{s s':JS}{x:Ins}(hm:m.Short)(hg:JGood s)(hF:Qz m.funcs.length x=0)(h:Lb m f s x= .ok s'):JGood s':=by
 have hop:=aC hF;have hst:=zG hop h;have hn:s'.l.length≤80:=hst.len hg.n;by_cases h3:x.op=3
 · rw [gj h3] at h
   split at h
   · cases h
   · rename_i hc
     cases h;refine ⟨hn,by have:=hg.h;simp only [FH,FP,F8];omega,fun u hu=>?_⟩;rcases F5.1 hu with hu|hu
     · exact hg.s u hu
     · simp at hu;subst hu;exact ti
 by_cases h4:x.op=4
 · rw [cG h4] at h
   obtain ⟨t,h1,h⟩:=Q7 h;split at h
   · cases h
   · cases h;exact ⟨hn,by rw [Gf];exact hg.h,hg.s⟩
 rcases Mc (op:=x.op) Jo Jo with e|e|e|e|e|e|e|e|e|e|e|e|e|e
 · rw [Xq Jo] at h;exact A8
 · rw [aD Jo] at h;obtain ⟨_,_,h⟩:=Q7 h;obtain ⟨_,_,h⟩:=Q7 h;exact A8
 · exact absurd e h3
 · exact absurd e h4
 · rw [gk Jo] at h
   unfold UD at h;obtain ⟨t,_,h⟩:=Q7 h;obtain ⟨ts,h2,h⟩:=Q7 h;split at h
   · cases h
   · obtain ⟨h5,h6⟩:=oU hg h2
     have hal:x.args.length≤8:=by
      unfold Qz OP at hF;simp [e] at hF;omega
     exact hg.put (.mk Jo h6) h
 · rw [aE Jo] at h;obtain ⟨t,h1,h⟩:=Q7 h;obtain ⟨u,h2,h⟩:=Q7 h;exact hg.put (Ty.Short.part (hg.get (tO h1)) u (FC (oV h2))) h
 · rw [UE Jo] at h;obtain ⟨_,_,h⟩:=Q7 h;obtain ⟨_,_,h⟩:=Q7 h;obtain ⟨_,_,h⟩:=Q7 h
   split at h
   · cases h
   · cases h;exact hg
 · rw [aF Jo] at h;obtain ⟨_,_,h⟩:=Q7 h;obtain ⟨_,_,h⟩:=Q7 h;exact A8
 · rw [aG Jo] at h;obtain ⟨_,_,h⟩:=Q7 h;obtain ⟨_,_,h⟩:=Q7 h;exact A8
 · rw [aH Jo] at h;obtain ⟨_,_,h⟩:=Q7 h;obtain ⟨_,_,h⟩:=Q7 h;obtain ⟨_,_,h⟩:=Q7 h;cases h;exact hg
 · rw [cH Jo] at h;obtain ⟨_,_,h⟩:=Q7 h;exact A8
 · rw [Xq Jo] at h;exact A8
 · rw [gl Jo] at h;obtain ⟨_,_,h⟩:=Q7 h;cases h;exact hg
 · rw [cI Jo] at h
   unfold Rw at h;split at h
   · cases h
   · rename_i g hgf
     split at h
     · cases h
     · obtain ⟨_,_,h⟩:=Q7 h;obtain ⟨_,_,h⟩:=Q7 h
       split at h
       · cases h
       · cases h
         refine ⟨hn,hg.h,fun u hu=>?_⟩;rcases F5.1 hu with hu|hu
         · exact hg.s u hu
         · obtain ⟨t,ht,rfl⟩:=Gm.1 hu;exact zI ((hm.2 g (FC hgf)).2.1.2 t ht)
theorem zK {m:Module}{f:Fun}{s:JS}{x:Ins}(hm:m.Short)(hg:JGood s):JGood (Lj m f s x).2:=by
 by_cases h:(Lj m f s x).1=0
 · obtain ⟨h1,h2⟩:=oR h;exact tP hm hg h1 h2
 · rw [tK h];exact hg
theorem tQ {m:Module}(hm:m.Short)(hF:m.fault.1=0){f b:Nat}{x:Fun}{y:Block}(hx:m.funcs[f]?=some x)(hy:x.blocks[b]?=some y):JGood (Nd y):=by
 have h1:=aJ (Xr hF hx hy).1;have h2:=zH h1.2.2.1;refine ⟨by unfold Nd;simp only;omega,by unfold Nd;simp only [Gw];omega,?_⟩;exact ((hm.2 x (FC hx)).2.2.2 y (FC hy)).1.2
theorem ja {h:List Bool}:∀{l p:List Int},NB h p l= .ok ()→∀r∈l,K4 h r=true
 | [],_,_,r,hr=>by cases hr
 | x ::l,p,hd,r,hr=>by
   rw [NB] at hd;split at hd
   · cases hd
   · rename_i h1
     split at hd
     · cases hd
     · rcases FX.1 hr with rfl|hr
       · simpa using h1
       · exact ja hd r hr
theorem UK {s:JS}{k:Int}{t:Ty}(h0:0≤k)(h:s.l[k.toNat]?=some t)(hk:t.kind=kd)(hh:K4 s.h t.r=false):L4 s k kd= .error 10:=by
 unfold L4 K6;rw [Q4 (Yn h0 h),if_neg (fun h=>h hk),Q4 rfl,if_pos hh]
end
section
variable {α:Type}
def Rep.an (r:Rep α)(p:α→Prop):Rep α where
 es:=r.es
 pos:=r.pos
 R:=fun H K cs x=>r.R H K cs x∧p x
 len:=fun h=>r.len h.1
 one:=fun h=>r.one h.1
 turn:=fun h hs=>⟨r.turn h.1 hs,h.2⟩
theorem Rep.an_SR {r:Rep α}{p:α→Prop}{l:List α}(h:(r.an p).SR H K v l):r.SR H K v l∧∀x∈l,p x:=by
 obtain ⟨css,h1,⟨h2,h3⟩,h4⟩:=h;refine ⟨⟨css,h1,⟨h2,fun m x hx=>?_⟩,h4⟩,fun x hx=>?_⟩
 · obtain ⟨d,e1,e2⟩:=h3 m x hx;exact ⟨d,e1,e2.1⟩
 · obtain ⟨m,hm⟩:=GH.1 hx;obtain ⟨d,e1,e2⟩:=h3 m x hm;exact e2.2
abbrev Hz:=@Rep.an_SR
def To.InR (t:To):Prop:=Mh t.block∧(∀n∈t.regs,Mh n)∧∀n∈t.args,Mh n
def Ins.InR (x:Ins):Prop:=(Mh x.op∧Mh x.a∧Mh x.b∧Mh x.c∧Mh x.k∧Mh x.n)∧(∀n∈x.regs,Mh n)∧∀n∈x.args,Mh n
def Tail.InR (x:Tail):Prop:=Mh x.op∧Mh x.a∧x.yes.InR∧x.no.InR∧∀n∈x.args,Mh n
def Block.InR (x:Block):Prop:=Mh x.regs∧(∀t∈x.params,t.InR)∧(∀i∈x.code,i.InR)∧x.fin.InR
def Fun.InR (x:Fun):Prop:=Mh x.regs∧(∀t∈x.params,t.InR)∧(∀t∈x.results,t.InR)∧∀b∈x.blocks,b.InR
def Module.InR (m:Module):Prop:=∀f∈m.funcs,f.InR
section
variable {P:Program}{T e:TypeId}
def Cod.Of.intI (ht:P.underlying T=some (.int .i64))(hs:P.cellsOf T=1):Cod.Of P T (KM.an Mh):=Cod.of (Cod.int .i64 ht hs) (KM.an Mh) rfl fun _ _ x h=>⟨x,h.1,oB h.2⟩
def Cod.Of.tyI {TL t0 t1:TypeId}(h0:fieldAt P T 0=some (0,1,t0))(h1:fieldAt P T 1=some (1,1,t1))(h2:fieldAt P T 2=some (2,1,TL))(hi0:P.underlying t0=some (.int .i64))(hi1:P.underlying t1=some (.int .i64))(hT:P.cellsOf T=3)(hTL:P.underlying TL=some (.slice T))(hby:decide (0<P.bytesOf T)=true):Cod.Of P T (K0.an Ty.InR):=
 ⟨Cod.tyInt h0 h1 h2 hi0 hi1 hT hTL hby,rfl,fun _ _ _ h=>h⟩
def Cod.Of.toI {TI TL:TypeId}(ci:Cod.Of P TI (KM.an Mh))(cl:Cod.Of P TL (KM.an Mh).list)(h0:fieldAt P T 0=some (0,1,TI))(h1:fieldAt P T 1=some (1,1,TL))(h2:fieldAt P T 2=some (2,1,TL))(hT:P.cellsOf T=3):Cod.Of P T (toR.an To.InR):=
 Cod.of (Fld.cod (Fld.more ci.cod h0 (Fld.more cl.cod h1 (Fld.more cl.cod h2 Fld.none))) h0 3 hT) (toR.an To.InR) rfl fun H cs x h=>by
  obtain ⟨hl,g0,g1,g2,_⟩:=h
  match cs,hl with
  | [a,b,c],_=>
    obtain ⟨e0,n0⟩:[a]=[_]∧Mh _:=ci.part g0;obtain ⟨v1,e1,s1⟩:=cl.part g1;obtain ⟨s1,q1⟩:=Hz s1;obtain ⟨v2,e2,s2⟩:=cl.part g2;obtain ⟨s2,q2⟩:=Hz s2;replace e1:[b]=[v1]:=e1;replace e2:[c]=[v2]:=e2;simp only [Gu,and_true] at e0 e1 e2;subst e0 e1 e2;exact ⟨⟨x.1,x.2.1,x.2.2.1⟩,⟨b,c,rfl,s1,s2⟩,n0,q1,q2⟩
def Cod.Of.insI {TI TL TN:TypeId}(ci:Cod.Of P TI (KM.an Mh))(cn:Cod.Of P TN (KM.an Mh))(cl:Cod.Of P TL (KM.an Mh).list)(h0:fieldAt P T 0=some (0,1,TI))(h1:fieldAt P T 1=some (1,1,TI))(h2:fieldAt P T 2=some (2,1,TI))(h3:fieldAt P T 3=some (3,1,TI))(h4:fieldAt P T 4=some (4,1,TI))(h5:fieldAt P T 5=some (5,1,TN))(h6:fieldAt P T 6=some (6,1,TL))(h7:fieldAt P T 7=some (7,1,TL))(hT:P.cellsOf T=8):Cod.Of P T (Lz.an Ins.InR):=
 Cod.of (Fld.cod (Fld.more ci.cod h0 (Fld.more ci.cod h1 (Fld.more ci.cod h2 (Fld.more ci.cod h3 (Fld.more ci.cod h4 (Fld.more cn.cod h5 (Fld.more cl.cod h6 (Fld.more cl.cod h7 Fld.none)))))))) h0 8 hT) (Lz.an Ins.InR) rfl fun H cs x h=>by
  obtain ⟨hl,g0,g1,g2,g3,g4,g5,g6,g7,_⟩:=h
  match cs,hl with
  | [a0,a1,a2,a3,a4,a5,a6,a7],_=>
    obtain ⟨e0,n0⟩:[a0]=[_]∧Mh _:=ci.part g0;obtain ⟨e1,n1⟩:[a1]=[_]∧Mh _:=ci.part g1;obtain ⟨e2,n2⟩:[a2]=[_]∧Mh _:=ci.part g2;obtain ⟨e3,n3⟩:[a3]=[_]∧Mh _:=ci.part g3;obtain ⟨e4,n4⟩:[a4]=[_]∧Mh _:=ci.part g4;obtain ⟨e5,n5⟩:[a5]=[_]∧Mh _:=cn.part g5;obtain ⟨v1,e6,s1⟩:=cl.part g6;obtain ⟨s1,q1⟩:=Hz s1;obtain ⟨v2,e7,s2⟩:=cl.part g7;obtain ⟨s2,q2⟩:=Hz s2;replace e6:[a6]=[v1]:=e6;replace e7:[a7]=[v2]:=e7;simp only [Gu,and_true] at e0 e1 e2 e3 e4 e5 e6 e7;subst e0 e1 e2 e3 e4 e5 e6 e7;exact ⟨⟨x.1,x.2.1,x.2.2.1,x.2.2.2.1,x.2.2.2.2.1,x.2.2.2.2.2.1,x.2.2.2.2.2.2.1,x.2.2.2.2.2.2.2.1⟩,⟨_,_,rfl,s1,s2⟩,⟨n0,n1,n2,n3,n4,n5⟩,q1,q2⟩
def Cod.Of.endpI {TI TL TT:TypeId}(ci:Cod.Of P TI (KM.an Mh))(cl:Cod.Of P TL (KM.an Mh).list)(ct:Cod.Of P TT (toR.an To.InR))(h0:fieldAt P T 0=some (0,1,TI))(h1:fieldAt P T 1=some (1,1,TI))(h2:fieldAt P T 2=some (2,3,TT))(h3:fieldAt P T 3=some (5,3,TT))(h4:fieldAt P T 4=some (8,1,TL))(hT:P.cellsOf T=9):Cod.Of P T (LZ.an Tail.InR):=
 Cod.of (Fld.cod (Fld.more ci.cod h0 (Fld.more ci.cod h1 (Fld.more ct.cod h2 (Fld.more ct.cod h3 (Fld.more cl.cod h4 Fld.none))))) h0 9 hT) (LZ.an Tail.InR) rfl fun H cs x h=>by
  obtain ⟨hl,g0,g1,g2,g3,g4,_⟩:=h
  match cs,hl with
  | [a0,a1,a2,a3,a4,a5,a6,a7,a8],_=>
    obtain ⟨e0,n0⟩:[a0]=[_]∧Mh _:=ci.part g0;obtain ⟨e1,n1⟩:[a1]=[_]∧Mh _:=ci.part g1;obtain ⟨⟨v1,v2,e2,s1,s2⟩,n2⟩:=ct.part g2;obtain ⟨⟨v3,v4,e3,s3,s4⟩,n3⟩:=ct.part g3;obtain ⟨v5,e4,s5⟩:=cl.part g4;obtain ⟨s5,q5⟩:=Hz s5;replace e2:[a2,a3,a4]=_:=e2;replace e3:[a5,a6,a7]=_:=e3;replace e4:[a8]=_:=e4;simp only [Gu,and_true] at e0 e1 e2 e3 e4;obtain ⟨q2,q3,q4⟩:=e2;obtain ⟨q5,q6,q7⟩:=e3;subst e0 e1 q2 q3 q4 q5 q6 q7 e4;exact ⟨⟨x.1,x.2.1,x.2.2.1,x.2.2.2.1,x.2.2.2.2.1⟩,⟨_,_,_,_,_,rfl,s1,s2,s3,s4,s5⟩,n0,n1,n2,n3,q5⟩
def Cod.Of.blockI {TI TL TC TE:TypeId}(ci:Cod.Of P TI (KM.an Mh))(cl:Cod.Of P TL (K0.an Ty.InR).list)(cc:Cod.Of P TC (Lz.an Ins.InR).list)(ce:Cod.Of P TE (LZ.an Tail.InR))(h0:fieldAt P T 0=some (0,1,TI))(h1:fieldAt P T 1=some (1,1,TL))(h2:fieldAt P T 2=some (2,1,TC))(h3:fieldAt P T 3=some (3,9,TE))(hT:P.cellsOf T=12):Cod.Of P T (Lp.an Block.InR):=
 Cod.of (Fld.cod (Fld.more ci.cod h0 (Fld.more cl.cod h1 (Fld.more cc.cod h2 (Fld.more ce.cod h3 Fld.none)))) h0 12 hT) (Lp.an Block.InR) rfl fun H cs x h=>by
  obtain ⟨hl,g0,g1,g2,g3,_⟩:=h
  match cs,hl with
  | [a0,a1,a2,a3,a4,a5,a6,a7,a8,a9,a10,a11],_=>
    obtain ⟨e0,n0⟩:[a0]=[_]∧Mh _:=ci.part g0;obtain ⟨v1,e1,s1⟩:=cl.part g1;obtain ⟨s1,q1⟩:=Hz s1;obtain ⟨v2,e2,s2⟩:=cc.part g2;obtain ⟨s2,q2⟩:=Hz s2;obtain ⟨s3,n3⟩:=ce.part g3;replace e1:[a1]=_:=e1;replace e2:[a2]=_:=e2;replace s3:LZ.R H (· < H.size) [a3,a4,a5,a6,a7,a8,a9,a10,a11] x.2.2.2.1:=s3;simp only [Gu,and_true] at e0 e1 e2;subst e0 e1 e2;exact ⟨⟨x.1,x.2.1,x.2.2.1,x.2.2.2.1⟩,⟨_,_,_,rfl,s1,s2,s3⟩,n0,q1,q2,n3⟩
def Cod.Of.funcI {TI TL TB:TypeId}(ci:Cod.Of P TI (KM.an Mh))(cl:Cod.Of P TL (K0.an Ty.InR).list)(cb:Cod.Of P TB (Lp.an Block.InR).list)(h0:fieldAt P T 0=some (0,1,TI))(h1:fieldAt P T 1=some (1,1,TL))(h2:fieldAt P T 2=some (2,1,TL))(h3:fieldAt P T 3=some (3,1,TB))(hT:P.cellsOf T=4):Cod.Of P T (K8.an Fun.InR):=
 Cod.of (Fld.cod (Fld.more ci.cod h0 (Fld.more cl.cod h1 (Fld.more cl.cod h2 (Fld.more cb.cod h3 Fld.none)))) h0 4 hT) (K8.an Fun.InR) rfl fun H cs x h=>by
  obtain ⟨hl,g0,g1,g2,g3,_⟩:=h
  match cs,hl with
  | [a0,a1,a2,a3],_=>
    obtain ⟨e0,n0⟩:[a0]=[_]∧Mh _:=ci.part g0;obtain ⟨v1,e1,s1⟩:=cl.part g1;obtain ⟨s1,q1⟩:=Hz s1;obtain ⟨v2,e2,s2⟩:=cl.part g2;obtain ⟨s2,q2⟩:=Hz s2;obtain ⟨v3,e3,s3⟩:=cb.part g3;obtain ⟨s3,q3⟩:=Hz s3;replace e1:[a1]=_:=e1;replace e2:[a2]=_:=e2;replace e3:[a3]=_:=e3;simp only [Gu,and_true] at e0 e1 e2 e3;subst e0 e1 e2 e3;exact ⟨⟨x.1,x.2.1,x.2.2.1,x.2.2.2.1⟩,⟨_,_,_,rfl,s1,s2,s3⟩,n0,q1,q2,q3⟩
def Cod.Of.modI {TF:TypeId}(cf:Cod.Of P TF (K8.an Fun.InR).list)(h0:fieldAt P T 0=some (0,1,TF))(hT:P.cellsOf T=1):Cod.Of P T (LS.an Module.InR):=
 Cod.of (Fld.cod (Fld.more cf.cod h0 Fld.none) h0 1 hT) (LS.an Module.InR) rfl fun H cs x h=>by
  obtain ⟨hl,g0,_⟩:=h
  match cs,hl with
  | [a0],_=>
    obtain ⟨v1,e1,s1⟩:=cf.part g0;obtain ⟨s1,q1⟩:=Hz s1;replace e1:[a0]=_:=e1;simp only [Gu,and_true] at e1;subst e1;exact ⟨⟨x.1⟩,⟨_,rfl,s1⟩,q1⟩
end
end
end Go.Lir
namespace Go.Proofs.YteflkifmgnpbhaaGreat
open Go.Lir
def gn:Cod.Of Tryz.prog 3 (KM.an Mh):=Cod.Of.intI Jk Jk
def UL:Cod.Of Tryz.prog 2 (KM.an Mh):=Cod.Of.intI Jk Jk
def oW:Cod.Of Tryz.prog 68 (KM.an Mh).list:=Cod.Of.list gn Jk Jk Jk
def oX:Cod.Of Tryz.prog 115 (K0.an Ty.InR):=Cod.Of.tyI (TL:=86) (t0:=3) (t1:=3) Jk Jk Jk Jk Jk Jk Jk Jk
def aK:Cod.Of Tryz.prog 86 (K0.an Ty.InR).list:=Cod.Of.list oX Jk Jk Jk
def jb:Cod.Of Tryz.prog 84 (Lz.an Ins.InR):=Cod.Of.insI gn UL oW Jk Jk Jk Jk Jk Jk Jk Jk Jk
def cP:Cod.Of Tryz.prog 85 (Lz.an Ins.InR).list:=Cod.Of.list jb Jk Jk Jk
def oY:Cod.Of Tryz.prog 88 (toR.an To.InR):=Cod.Of.toI gn oW Jk Jk Jk Jk
def jc:Cod.Of Tryz.prog 90 (LZ.an Tail.InR):=Cod.Of.endpI gn oW oY Jk Jk Jk Jk Jk Jk
def Yr:Cod.Of Tryz.prog 92 (Lp.an Block.InR):=Cod.Of.blockI gn aK cP jc Jk Jk Jk Jk Jk
def UM:Cod.Of Tryz.prog 93 (Lp.an Block.InR).list:=Cod.Of.list Yr Jk Jk Jk
def cQ:Cod.Of Tryz.prog 95 (K8.an Fun.InR):=Cod.Of.funcI gn aK UM Jk Jk Jk Jk Jk
def Ys:Cod.Of Tryz.prog 22 (K8.an Fun.InR).list:=Cod.Of.list cQ Jk Jk Jk
def Se:Cod.Of Tryz.prog 24 (LS.an Module.InR):=Cod.Of.modI Ys Jk Jk
end Go.Proofs.YteflkifmgnpbhaaGreat
namespace Go.Lir
section


def Li (P:Program)(f:FuncId)(args:List Value)(w:World)(S T:Value→World→Prop):Prop:=
 Calls P f ⟨args⟩ w fun e w'=>(∃v,e= .returned v∧S v w')∨(∃v,e= .panicked [{v:=v,recovered:=false}]∧T v w')

theorem Li.mono {f:FuncId}{S' T T':Value→World→Prop}(h:Li P f args w S T)(hs:∀v w',S v w'→S' v w')(ht:∀v w',T v w'→T' v w'):Li P f args w S' T':=
 Calls.mono h fun _ _ h=>h.elim (fun ⟨v,he,hv⟩=> .inl ⟨v,he,hs _ _ hv⟩) (fun ⟨v,he,hv⟩=> .inr ⟨v,he,ht _ _ hv⟩)
theorem KK.ends {f:FuncId}{T:Value→World→Prop}(h:KK P f args w S):Li P f args w S T:=
 Calls.mono h fun _ _ h=> .inl h
section
variable {P:Program}{l:List GO}{Q:QT}{ρ:La}{w:World}
theorem oZ {d:Nat}{f:FuncId}{xs:List Operand}{T:Value→World→Prop}(hxs:xs.map ρ.ev=args)(hc:Li P f args w S T)
 (hp:∀v w',T v w'→Q (.panic [{v:=v,recovered:=false}]) ρ w')(h:∀v w',S v w'→Q0 P l Q (upd ρ d v) w'):Q0 P (⟨none, .call (some d) f xs⟩::l) Q ρ w:=by
 subst hxs;refine Calls.mono hc fun e w' h'=>?_;rcases h' with ⟨v,he,hs⟩|⟨v,he,hs⟩
 · subst he;exact h v w' hs
 · subst he;exact hp v w' hs
theorem Yt {d:Nat}{x:Operand}{f:FuncId}{T:Value→World→Prop}(hx:ρ.ev x= .func (.func f) #[] ⟨cap⟩)(hf:SP P f=true)(hxs:os.map ρ.ev++cap=args)(hc:Li P f args w S T)
 (hp:∀v w',T v w'→Q (.panic [{v:=v,recovered:=false}]) ρ w')(h:∀v w',S v w'→Q0 P l Q (upd ρ d v) w'):Q0 P (⟨none, .callv (some d) x os⟩::l) Q ρ w:=by
 unfold SP at hf;rw [I7] at hf;obtain ⟨fn,h1,h2⟩:=hf;rw [FN,G7] at h2;refine sT hx h1 h2.1 h2.2 hxs hc ?_;intro e w' h';rcases h' with ⟨v,rfl,hs⟩|⟨v,rfl,hs⟩
 · exact h v w' hs
 · exact hp v w' hs
theorem Qn {K:KT}{h:Q (.panic ch) ρ w}:Qr K Q (.panic ch) ρ w:=h
theorem Qp {id:Nat}{h:Q (.panic ch) ρ w}:Qj id Q (.panic ch) ρ w:=h
theorem QP {h:R (.panicked ch) w}:Lo P rs R (.panic ch) ρ w:=h
theorem tR {d : Option Nat}{x : Operand}{Ty:TypeId}(hx : ρ.ev x = .iface T v)(h : Q (.panic [{ v := .iface T v, recovered := false }]) ρ w): Q0 P (⟨none, .raw ⟨d, .panic x, Ty, "", #[], none⟩⟩ :: l) Q ρ w := by
 refine (?_:P6 P _ ρ w _ Q);unfold P6
 have e : (execOp ρ.ev ⟨d, .panic x, Ty, "", #[], none⟩).run P w = .halt (.panic (.iface T v)) w := by
  simp [execOp,Instr.panic,hx,goPanic,Sem.run]
 rw [e];exact h
theorem tS {d:Nat}{x:Operand}{Ty xT:TypeId}{D:TypeDesc}(hd:P.underlying T=some D)(hi:∀m,D≠ .interface m)(hx:ρ.ev x= .iface T v)
 (h : Q0 P l Q (upd ρ d (.tuple #[v, .bool true])) w): Q0 P (⟨none, .raw ⟨some d, .typeAssert x xT T true, Ty, "", #[], none⟩⟩ :: l) Q ρ w := by
 refine Nq (v:= .tuple #[v, .bool true]) (w':=w) ?_ h;simp only [execOp,Instr.typeAssert,hx,F7,Q8 P T D w hd,FO];cases D<;>first|(exact absurd rfl (hi _))|simp
end


inductive LSp where
 | dfr (d:Option Nat) (x:Operand)
 | rcv (d:Option Nat)

inductive LD where
 | pl (c:LC)
 | seq (a b:LD)
 | sp (l1:List GO) (o:LSp) (l2:List GO)

def S2 (o:Oper):Option LSp:=match o.guard,o.op with
 | none, .defer ⟨.value x,xs,_⟩=>if xs.size=0 then some (.dfr o.dst x) else none
 | none, .call ⟨.builtin .recover,xs,_⟩=>if xs.size=0 then some (.rcv o.dst) else none
 | _,_=>none
def gq:Code→Bool
 | .seq a b=>gq a||gq b
 | .region _ ops _=>ops.toList.any fun o=>(S2 o).isSome
 | _=>false
def gr:List Oper→Option (List Oper×Oper×LSp×List Oper)
 | []=>none
 | o::r=>match S2 o with
   | some s=>some ([],o,s,r)
   | none=>(gr r).map fun p=>(o::p.1,p.2)
def Pw (P:Program)(n:Nat):Code→LD
 | .seq a b=>if gq a||gq b then .seq (Pw P n a) (Pw P n b) else .pl (Rt P n (.seq a b))
 | .region id ops false=>match gr ops.toList with
   | some (l1,_,s,l2)=>if ops.toList.all (P8 n ops) then .sp (l1.map (Pq P ops)) s (l2.map (Pq P ops)) else .pl .bad
   | none=> .pl (Rt P n (.region id ops false))
 | c=> .pl (Rt P n c)
def gu (P:Program)(fn:Func):Option LD:=fn.body.map (Pw P fn.ntmps)

def LD.wpD (P:Program):LD→(List Deferred→QT)→List Deferred→La→World→Prop
 | .pl c,Q,ds,ρ,w=>c.wp P (Q ds) ρ w
 | .seq a b,Q,ds,ρ,w=>a.wpD P (fun ds'=>Qr (b.wpD P Q ds') (Q ds')) ds ρ w
 | .sp l1 (.dfr d x) l2,Q,ds,ρ,w=>Q0 P l1 (Qr (fun ρ w=>∃f cap,ρ.ev x= .func (.func f) #[] cap∧Q0 P l2 (Q (⟨.fn (.func f) cap,#[]⟩::ds)) (Lq ρ d undef) w) (Q ds)) ρ w
 | _,_,_,_,_=>False

theorem pc:∀{ops l1 l2:List Oper}{o:Oper}{s:LSp},gr ops=some (l1,o,s,l2)→ops=l1++o::l2∧S2 o=some s
 | [],_,_,_,_,h=>by simp [gr] at h
 | o'::r,l1,l2,o,s,h=>by
   rw [gr] at h
   cases hs:S2 o' with
   | some s'=>
     simp only [hs,FU,Hv] at h;obtain ⟨rfl,rfl,rfl,rfl⟩:=h;exact ⟨rfl,hs⟩
   | none=>
     simp only [hs,Hi] at h;obtain ⟨⟨a,b,c,d⟩,h1,h2⟩:=h;simp only [Hv] at h2;obtain ⟨rfl,rfl,rfl,rfl⟩:=h2;obtain ⟨h3,h4⟩:=pc h1;exact ⟨by rw [h3];rfl,h4⟩

theorem pd {o:Oper}{a:Act}{K K':Act→World→Prop}{Q Q':Exit→Act→World→Prop}(hk:∀a w,K a w→K' a w)(hp:∀ch a w,Q (.panic ch) a w→Q' (.panic ch) a w)(ho:LetsOut Q→LetsOut Q')(r:Result Next)(h:o.upon P a K Q r):o.upon P a K' Q' r:=by
 cases r with
 | ok n w=>
   cases n<;>first|exact hk _ _ h|exact h|skip
   · refine Calls.mono h fun e w h=>?_;cases e<;>first|exact hk _ _ h|exact hp _ _ _ h|exact ho h
   · exact Rows.mono h fun v w h=>hk _ _ h
 | halt x w=>cases x<;>first|exact hp _ _ _ h|exact h

theorem lW {P:Program}{ops:Array Oper}{Q:Exit→Act→World→Prop}{l2:List Nat}:∀(l1:List Nat) (a:Act) (w:World),
 wpOps P ops (Exit.then (wpOps P ops Q l2) Q) l1 a w→wpOps P ops Q (l1++l2) a w
 | [],a,w,h=>h
 | i ::l1,a,w,h=>by
   simp only [G3,wpOps] at h ⊢
   cases ho:ops[i]? with
   | none=>simp only [ho] at h ⊢;exact lW l1 a w h
   | some o=>
     simp only [ho] at h ⊢;split
     · rename_i hw
       rw [if_pos hw] at h;rcases h with h|⟨h1,h2⟩
       · exact .inl (pd (fun a w h=>lW l1 a w h) (fun ch a w h=>h) (fun h=>h) _ h)
       · exact .inr ⟨h1,h2⟩
     · rename_i hw;rw [if_neg hw] at h;exact lW l1 _ w h
theorem jd {P:Program}{ops:Array Oper}{Q Q':Exit→Act→World→Prop}(hq:∀e a w,Q e a w→Q' e a w):∀(l:List Nat) (a:Act) (w:World),wpOps P ops Q l a w→wpOps P ops Q' l a w
 | [],a,w,h=>hq _ _ _ h
 | i ::l,a,w,h=>by
   simp only [wpOps] at h ⊢;have ho':LetsOut Q→LetsOut Q':=fun ⟨a,w,h⟩=>⟨a,w,hq _ _ _ h⟩
   cases ho:ops[i]? with
   | none=>simp only [ho] at h ⊢;exact jd hq l a w h
   | some o=>
     simp only [ho] at h ⊢;split
     · rename_i hw
       rw [if_pos hw] at h;rcases h with h|⟨h1,h2⟩
       · exact .inl (pd (fun a w h=>jd hq l a w h) (fun ch a w h=>hq _ _ _ h) ho' _ h)
       · exact .inr ⟨h1,ho' h2⟩
     · rename_i hw;rw [if_neg hw] at h;exact jd hq l _ w h

def aL (n:Nat)(Q:List Deferred→QT):Exit→Act→World→Prop:=fun e a w=>∃ds,ah n ds (Q ds) e a w

theorem tT {o:α}(h:ops=l1++o::l2):List.range ops.length=List.range l1.length++l1.length::(List.range l2.length).map (l1.length+1+·):=by
 subst h;apply Ju
 · simp
 · intro i h1 h2
   rw [I4];rcases Nat.lt_trichotomy i l1.length with h|h|h
   · rw [List.getElem_append_left DO,I4]
   · subst h;rw [JM Js];simp
   · rw [JM (by simpa using Nat.le_of_lt h)];simp only [Ix];rw [List.getElem_cons];rw [dif_neg Jo,List.getElem_map,I4];omega
theorem tU {o:α}(g:α→β)(h:ops=l1++o::l2):((List.range l2.length).map (l1.length+1+·)).filterMap (fun i=>(ops[i]?).map g)=l2.map g:=by
 subst h;rw [List.filterMap_map]
 have:∀i,((fun i=>((l1++o::l2)[i]?).map g)∘(l1.length+1+·)) i=(l2[i]?).map g:=by
  intro i;simp only [Function.comp];rw [FI Jo];rw [show l1.length+1+i - l1.length=i+1 by omega,GI]
 rw [nr (fun i _=>this i)];have:=nz g l2 []
 simpa [IT] using this
theorem tV {o:α}(g:α→β)(h:ops=l1++o::l2):(List.range l1.length).filterMap (fun i=>(ops[i]?).map g)=l1.map g:=by
 subst h
 have:∀i∈List.range l1.length,((l1++o::l2)[i]?).map g=(l1[i]?).map g:=by
  intro i hi;rw [FL Ee]
 rw [nr this];have:=nz g l1 []
 simpa [IT] using this

theorem zN {n:Nat}:∀(c:Code) (Q:List Deferred→QT) (ds:List Deferred) (ρ:La) (a:Act) (w:World),OW n ρ ds a→(Pw P n c).wpD P Q ds ρ w→c.wp P (aL n Q) a w:=by
 have hpl:∀(c:Code) (Q:List Deferred→QT) (ds:List Deferred) (ρ:La) (a:Act) (w:World),OW n ρ ds a→(Rt P n c).wp P (Q ds) ρ w→c.wp P (aL n Q) a w:=fun c Q ds ρ a w hr h=>
  wp_mono (nA c _ ρ a w hr h) fun e a w h=>⟨ds,h⟩
 intro c
 induction c with
 | seq x y ihx ihy=>
   intro Q ds ρ a w hr h;rw [Pw] at h;split at h
   · refine wp_seq ?_
     refine wp_mono (ihx _ ds ρ a w hr h) ?_;rintro e a w ⟨ds',ρ',hr',h'⟩
     cases e with
     | normal=>exact ihy _ ds' ρ' a w hr' h'
     | _=>exact ⟨ds',ρ',hr',h'⟩
   · exact hpl _ Q ds ρ a w hr h
 | region id ops draw=>
   intro Q ds ρ a w hr h
   cases draw with
   | true=>exact hpl _ Q ds ρ a w hr h
   | false =>
     rw [Pw] at h;split at h
     · rename_i l1 o s l2 hs
       obtain ⟨hops,hsp⟩:=pc hs;split at h
       · rename_i hall
         (have hok:∀i o,ops[i]?=some o→P8 n ops o=true:=fun i o hi=>GB.1 hall o EE;have hsz:ops.size=ops.toList.length:=DN;have hgm:∀(l:List Nat),(l.filterMap fun i=>(ops[i]?).map (Pq P ops))=l.filterMap fun i=>(ops.toList[i]?).map (Pq P ops):=fun l=>by simp);have hlen:ops.toList.length=l1.length+1+l2.length:=(by rw [hops];simp;omega);have hrange:∀(l:List Nat),(∀i∈l,i<ops.size)→∀i∈l,∃o,ops[i]?=some o∧P8 n ops o=true:=fun l hl i hi=>⟨ops[i]'(hl i hi),by simp [hl i hi],hok i _ (by simp [hl i hi])⟩;refine wp_region ?_;rw [hsz,tT hops];refine lW _ _ _ ?_
         cases s with
         | rcv d=>exact h.elim
         | dfr d x=>
           have h1:=ll (Q:=Qr (fun ρ w=>∃f cap,ρ.ev x= .func (.func f) #[] cap∧Q0 P (l2.map (Pq P ops)) (Q (⟨.fn (.func f) cap,#[]⟩::ds)) (Lq ρ d undef) w) (Q ds)) (ds:=ds) (List.range l1.length) ρ a w hr
            (hrange _ fun i hi=>by rw [hsz,hlen];have:=Gp.1 hi;omega) (by rw [hgm,tV _ hops];exact h)
           refine jd ?_ _ _ _ h1;rintro e a w ⟨ρ',hr',h'⟩
           cases e with
           | normal=>
             obtain ⟨f,cap,hf,h'⟩:=h';have hoi:ops[l1.length]?=some o:=(by rw [←GW,hops];simp);refine (?_:wpOps P ops _ (l1.length::_) a w);simp only [wpOps,hoi]
             have hg:o.guard=none∧∃ts,∃xs:Array Operand,o.op= .defer ⟨.value x,xs,ts⟩∧xs.size=0∧o.dst=d:=by
              unfold S2 at hsp;split at hsp
              · rename_i x' xs' ts' hg ho
                split at hsp
                · rename_i hx0;simp only [FU,LSp.dfr.injEq] at hsp;obtain ⟨g1,g2⟩:=hsp;subst g2;exact ⟨hg,ts',xs',ho,hx0,g1⟩
                · cases hsp
              · split at hsp<;>cases hsp
              · cases hsp
             obtain ⟨hgd,ts,xs,hop,hxs,hd⟩:=hg;have hxs':xs=#[]:=Jp hxs;subst hxs';rw [if_pos (by simp [Region.wanted,hgd])];refine .inl ?_;unfold Oper.wp
             have e1:(execOp a.eval o).run P w= .ok (.defer ⟨.fn (.func f) cap,#[]⟩) w:=by
              simp [execOp,hop,resolve,hr'.ev,hf,Deferred.ofValue]
             rw [e1,Oper.upon_defer,hd];have hdn:=fQ (hok _ o hoi);rw [hd] at hdn
             have hr2:OW n (Lq ρ' d undef) (⟨.fn (.func f) cap,#[]⟩::ds) ({a with defers:=⟨.fn (.func f) cap,#[]⟩::a.defers}.put d undef):=by
              have hr3:OW n ρ' (⟨.fn (.func f) cap,#[]⟩::ds) {a with defers:=⟨.fn (.func f) cap,#[]⟩::a.defers}:=⟨hr'.1,hr'.2.1,by simp [hr'.2.2]⟩;exact hr3.put d undef hdn
             have h2:=ll (Q:=Q (⟨.fn (.func f) cap,#[]⟩::ds)) (ds:=⟨.fn (.func f) cap,#[]⟩::ds) _ _ _ w hr2
              (hrange ((List.range l2.length).map (l1.length+1+·)) fun i hi=>by rw [hsz,hlen];rw [Gm] at hi;obtain ⟨j,hj,rfl⟩:=hi;have:=Gp.1 hj;omega) (by rw [hgm,tU _ hops];exact h')
             exact jd (fun e a w h=>⟨_,h⟩) _ _ _ h2
           | _=>exact ⟨ds,ρ',hr',h'⟩
       · exact h.elim
     · exact hpl _ Q ds ρ a w hr h
 | _=>exact hpl _

def UN (P:Program)(rs:List ResultVar)(ρ:La)(R:Ending→World→Prop):List Deferred→FrameMode→World→Prop
 | [], .returning,w=>QJ P w ρ rs [] fun v=>R (.returned v) w
 | [], .panicking chain,w=>R (.panicked chain) w
 | [], .run,_=>False
 | d ::ds,u,w=>u≠ .run∧∃f cap,d=⟨.fn (.func f) cap,#[]⟩∧SP P f=true∧CallsD P f cap u w fun
     | .returned _,u',w'=>UN P rs ρ R ds (settle u') w'
     | .panicked chain,u',w'=>UN P rs ρ R ds (raised u' chain) w'
     | .outgrown,_,w'=>R .outgrown w'
def UO (P:Program)(rs:List ResultVar)(R:Ending→World→Prop)(ds:List Deferred):QT
 | .normal,ρ,w| .ret,ρ,w=>UN P rs ρ R ds .returning w
 | .panic chain,ρ,w=>UN P rs ρ R ds (.panicking chain) w
 | .outgrown,_,w=>R .outgrown w
 | _,_,_=>False

theorem lK {P:Program}{fn:Func}{tmps:Array Value}{ρ:La}{R:Ending→World→Prop}(ht:∀i,tmps.getD i undef=ρ i):∀(ds:List Deferred) (u:FrameMode) (w:World),
 UN P fn.results.toList ρ R ds u w→Leaves P fn tmps R ds u w
 | [], .returning,w,h=>by obtain ⟨v,h1,h2⟩:=ia ht h;exact ⟨v,h1,h2⟩
 | [], .panicking _,w,h=>h
 | [], .run,w,h=>h.elim
 | d ::ds,u,w,h=>by
   obtain ⟨hu,f,cap,rfl,hf,hc⟩:=h;unfold SP at hf;rw [I7] at hf;obtain ⟨fn',h1,h2⟩:=hf;rw [FN,G7] at h2;refine leaves_cons hu (f:=f) (args:=cap) ?_ ?_
   · simp only [invoke];rw [sy _ h1 h2.1 h2.2];simp
   · refine hc.mono ?_
     intro e u' w' h
     cases e with
     | returned v=>exact lK ht ds _ _ h
     | panicked ch=>exact lK ht ds _ _ h
     | outgrown=>exact h

theorem zO {f:FuncId}{ld:LD}
 (hf:P.funcs[f]?=some fn)(hl:gu P fn=some ld)(hrs:fn.results.toList=rs)(hn:Nat.ble args.length fn.ntmps=true)
 (h:ld.wpD P (UO P rs R) [] (XL args) w):Calls P f ⟨args⟩ w R:=by
 unfold gu at hl
 cases hb:fn.body with
 | none=>simp [hb] at hl
 | some c=>
   simp only [hb,GC,FU] at hl;subst hl hrs;refine calls_of_wp_defers hf hb ?_;have hn':args.length≤fn.ntmps:=Gs hn;refine wp_mono (zN c _ [] _ _ _ (nB ⟨args⟩ fn.ntmps hn' []) h) ?_;rintro e a w ⟨ds,ρ,hr,h⟩;have hd:=hr.2.2
   cases e with
   | normal=>exact Ds
   | ret=>exact Ds
   | panic ch=>exact (hd ▸ lK hr.2.1 ds _ _ h:Leaves P fn a.tmps R a.defers (.panicking ch) w)
   | outgrown=>exact h
   | exit=>exact h
   | goto=>exact h


def Nt:FrameMode→Value×FrameMode
 | .panicking ({v:=v,recovered:=false,goexit:=false}::older)=>(v, .panicking ({v:=v,recovered:=true}::older))
 | u=>(.nilIface,u)

def LD.wpR (P:Program):LD→(FrameMode→QT)→FrameMode→La→World→Prop
 | .pl c,Q,u,ρ,w=>c.wp P (Q u) ρ w
 | .seq a b,Q,u,ρ,w=>a.wpR P (fun u'=>Qr (b.wpR P Q u') (Q u')) u ρ w
 | .sp l1 (.rcv d) l2,Q,u,ρ,w=>Q0 P l1 (Qr (fun ρ w=>Q0 P l2 (Q (Nt u).2) (Lq ρ d (Nt u).1) w) (Q u)) ρ w
 | _,_,_,_,_=>False

def Sf (n:Nat)(c₀:Frame)(cs:List Frame)(Q:FrameMode→QT):Exit→Act→List Frame→World→Prop:=
 fun e a cs' w=>∃u,cs'={c₀ with mode:=u}::cs∧ah n [] (Q u) e a w

theorem zP (c₀:Frame)(cs:List Frame)(u:FrameMode):(match recoverD ({c₀ with mode:=u}::cs) with
 | some (v,cs')=>(v,cs')
 | none=>(.nilIface,{c₀ with mode:=u}::cs))=((Nt u).1,{c₀ with mode:=(Nt u).2}::cs):=by
 unfold recoverD Nt;dsimp only;split<;>rename_i h
 · split at h
   · rename_i hm;simp only [FU,Hv] at h;obtain ⟨rfl,rfl⟩:=h;rfl
   · cases h
 · split at h
   · cases h
   · rename_i hm
     split
     · rename_i hm';exact absurd rfl (hm _ _)
     · rfl

theorem tW {n:Nat}{ops:Array Oper}{Q:QT}{QS:Exit→Act→List Frame→World→Prop}{cs:List Frame}{rest:List Nat}(hn:∀a w,ah n [] Q .normal a w→wpOpsS P ops QS rest a cs w)(hq:∀e a w,e≠ .normal→ah n [] Q e a w→QS e a cs w):∀(l:List Nat) (ρ:La) (a:Act) (w:World),OW n ρ [] a→
 (∀i∈l,∃o,ops[i]?=some o∧P8 n ops o=true)→
 Q0 P (l.filterMap fun i=>(ops[i]?).map (Pq P ops)) Q ρ w→wpOpsS P ops QS (l++rest) a cs w:=by
 intro l
 induction l with
 | nil=>intro ρ a w hr _ h;exact hn a w ⟨ρ,hr,h⟩
 | cons i l ih=>
   intro ρ a w hr hok h;obtain ⟨o,ho,hg⟩:=hok i Js;have hok':∀i∈l,∃o,ops[i]?=some o∧P8 n ops o=true:=fun i hi=>hok i (by simp [hi]);simp only [Ie,ho,GC] at h;have h':=sF hr hg _ Q w h;simp only [G3,wpOpsS,ho];split
   · rename_i hw
     rw [if_pos hw] at h';have h1:=ss (ds:=[]) hr (fQ hg) (sE h');have h2:=pd (Q':=fun e a' w'=>QS e a' cs w') (K':=fun a' w'=>wpOpsS P ops QS (l++rest) a' cs w') (fun a w ⟨ρ,hr,h⟩=>ih ρ a w hr hok' h) (fun ch a w h=>hq _ a w Js h) (fun ⟨a,w,h⟩=>⟨a,w,hq _ a w Js h⟩) _ h1;split
     · rename_i w' hrun;rw [hrun] at h2;exact h2.elim
     · rename_i r hrun;exact h2
   · rename_i hw;rw [if_neg hw] at h';exact ih _ _ w (hr.put _ _ (fQ hg)) hok' h'

theorem zQ {n:Nat}{c₀:Frame}{cs:List Frame}:∀(c:Code) (Q:FrameMode→QT) (u:FrameMode) (ρ:La) (a:Act) (w:World),OW n ρ [] a→(Pw P n c).wpR P Q u ρ w→c.wpS P (Sf n c₀ cs Q) a ({c₀ with mode:=u}::cs) w:=by
 have hpl:∀(c:Code) (Q:FrameMode→QT) (u:FrameMode) (ρ:La) (a:Act) (w:World),OW n ρ [] a→(Rt P n c).wp P (Q u) ρ w→c.wpS P (Sf n c₀ cs Q) a ({c₀ with mode:=u}::cs) w:=fun c Q u ρ a w hr h=>
  wpS_of_wp (wp_mono (nA c _ ρ a w hr h) fun e a w h=>⟨u,rfl,h⟩)
 intro c
 induction c with
 | seq x y ihx ihy=>
   intro Q u ρ a w hr h;rw [Pw] at h;split at h
   · refine wpS_seq ?_
     intro b k hb hro;obtain ⟨e,a',cs',w',⟨u',rfl,ρ',hr',h'⟩,harr⟩:=ihx _ u ρ a w hr h b k hb hro;refine ⟨e,a',_,w',?_,harr⟩
     cases e with
     | normal=>exact ihy _ u' ρ' a' w' hr' h'
     | _=>exact ⟨u',rfl,ρ',hr',h'⟩
   · exact hpl _ Q u ρ a w hr h
 | region id ops draw=>
   intro Q u ρ a w hr h
   cases draw with
   | true=>exact hpl _ Q u ρ a w hr h
   | false =>
     rw [Pw] at h;split at h
     · rename_i l1 o s l2 hs
       obtain ⟨hops,hsp⟩:=pc hs;split at h
       · rename_i hall
         (have hok:∀i o,ops[i]?=some o→P8 n ops o=true:=fun i o hi=>GB.1 hall o EE;have hsz:ops.size=ops.toList.length:=DN;have hgm:∀(l:List Nat),(l.filterMap fun i=>(ops[i]?).map (Pq P ops))=l.filterMap fun i=>(ops.toList[i]?).map (Pq P ops):=fun l=>by simp);have hlen:ops.toList.length=l1.length+1+l2.length:=(by rw [hops];simp;omega);have hrange:∀(l:List Nat),(∀i∈l,i<ops.size)→∀i∈l,∃o,ops[i]?=some o∧P8 n ops o=true:=fun l hl i hi=>⟨ops[i]'(hl i hi),by simp [hl i hi],hok i _ (by simp [hl i hi])⟩;refine wpS_region ?_;rw [hsz,tT hops]
         cases s with
         | dfr d x=>exact h.elim
         | rcv d=>
           refine tW (Q:=Qr (fun ρ w=>Q0 P (l2.map (Pq P ops)) (Q (Nt u).2) (Lq ρ d (Nt u).1) w) (Q u)) ?_ ?_ (List.range l1.length) ρ a w hr
            (hrange _ fun i hi=>by rw [hsz,hlen];have:=Gp.1 hi;omega) (by rw [hgm,tV _ hops];exact h)
           · rintro a w ⟨ρ',hr',h'⟩
             have hoi:ops[l1.length]?=some o:=by rw [←GW,hops];simp
             have hg:o.guard=none∧∃ts,∃xs:Array Operand,o.op= .call ⟨.builtin .recover,xs,ts⟩∧xs.size=0∧o.dst=d:=by
              unfold S2 at hsp;split at hsp
              · split at hsp<;>cases hsp
              · rename_i xs' ts' hg ho
                split at hsp
                · rename_i hx0;simp only [FU,LSp.rcv.injEq] at hsp;exact ⟨hg,ts',xs',ho,hx0,hsp⟩
                · cases hsp
              · cases hsp
             obtain ⟨hgd,ts,xs,hop,hxs,hd⟩:=hg;have hxs':xs=#[]:=Jp hxs;subst hxs';refine (?_:wpOpsS P ops _ (l1.length::_) a _ w);simp only [wpOpsS,hoi];rw [if_pos (by simp [Region.wanted,hgd])]
             have e1:(execOp a.eval o).run P w= .ok .recover w:=by
              simp [execOp,hop,resolve,invoke,builtin]
             rw [e1];have hdn:=fQ (hok _ o hoi);rw [hd] at hdn;have hr2:OW n (Lq ρ' d (Nt u).1) [] (a.put d (Nt u).1):=hr'.put d _ hdn;have hrec:=zP c₀ cs u
             have key:wpOpsS P ops (Sf n c₀ cs Q) ((List.range l2.length).map (l1.length+1+·)) (a.put o.dst (Nt u).1) ({c₀ with mode:=(Nt u).2}::cs) w:=by
              rw [hd]
              have h2:=tW (Q:=Q (Nt u).2) (QS:=Sf n c₀ cs Q) (cs:={c₀ with mode:=(Nt u).2}::cs) (rest:=[]) (fun a w h=>⟨_,rfl,h⟩) (fun e a w _ h=>⟨_,rfl,h⟩) ((List.range l2.length).map (l1.length+1+·)) _ _ w hr2
               (hrange _ fun i hi=>by rw [hsz,hlen];rw [Gm] at hi;obtain ⟨j,hj,rfl⟩:=hi;have:=Gp.1 hj;omega) (by rw [hgm,tU _ hops];exact h')
              rwa [GL] at h2
             dsimp only;split
             · rename_i v cs' hrd;rw [hrd] at hrec;simp only [Hv] at hrec;rw [hrec.1,hrec.2];exact key
             · rename_i hrd;rw [hrd] at hrec;simp only [Hv] at hrec;have e3:({c₀ with mode:=u}::cs:List Frame)={c₀ with mode:=(Nt u).2}::cs:=hrec.2;rw [hrec.1,e3];exact key
           · rintro e a w he ⟨ρ',hr',h'⟩;refine ⟨u,rfl,ρ',hr',?_⟩;cases e<;>first|exact h'|exact absurd rfl he
       · exact h.elim
     · exact hpl _ Q u ρ a w hr h
 | _=>exact hpl _

def cR (P:Program)(rs:List ResultVar)(R:Ending→FrameMode→World→Prop)(u:FrameMode):QT
 | .normal,ρ,w| .ret,ρ,w=>QJ P w ρ rs [] fun v=>R (.returned v) u w
 | .panic chain,_,w=>R (.panicked chain) u w
 | .outgrown,_,w=>R .outgrown u w
 | _,_,_=>False

theorem zR {f:FuncId}{u:FrameMode}{R:Ending→FrameMode→World→Prop}{ld:LD}
 (hf:P.funcs[f]?=some fn)(hl:gu P fn=some ld)(hrs:fn.results.toList=rs)(hn:Nat.ble args.length fn.ntmps=true)
 (h:ld.wpR P (cR P rs R) u (XL args) w):CallsD P f ⟨args⟩ u w R:=by
 unfold gu at hl
 cases hb:fn.body with
 | none=>simp [hb] at hl
 | some c=>
   simp only [hb,GC,FU] at hl;subst hl hrs;refine callsD_of_wpS hf hb ?_;intro c₀ cs hu;have hn':args.length≤fn.ntmps:=Gs hn;have h1:=zQ (c₀:=c₀) (cs:=cs) c _ u _ _ w (nB ⟨args⟩ fn.ntmps hn' []) h;have hc:({c₀ with mode:=u}:Frame)=c₀:=(by subst hu;rfl);rw [hc] at h1;intro b k hb hro;obtain ⟨e,a,cs',w',⟨u',rfl,ρ,hr,h2⟩,harr⟩:=h1 b k hb hro;refine ⟨e,a,_,w',?_,harr⟩
   cases e with
   | normal=>obtain ⟨v,h3,h4⟩:=ia hr.2.1 h2;exact ⟨hr.2.2,u',rfl,v,h3,h4⟩
   | ret=>obtain ⟨v,h3,h4⟩:=ia hr.2.1 h2;exact ⟨hr.2.2,u',rfl,v,h3,h4⟩
   | panic ch=>exact ⟨hr.2.2,u',rfl,h2⟩
   | outgrown=>exact ⟨u',h2⟩
   | exit=>exact h2
   | goto=>exact h2

section
variable {P:Program}{ρ:La}{w:World}{u:FrameMode}{ds:List Deferred}
theorem UP {c:LC}{h:c.wp P (Q ds) ρ w}:(LD.pl c).wpD P Q ds ρ w:=h
theorem je {a b:LD}{h:a.wpD P (fun ds'=>Qr (b.wpD P Q ds') (Q ds')) ds ρ w}:(LD.seq a b).wpD P Q ds ρ w:=h
theorem jg {l1 l2:List GO}{d:Option Nat}{x:Operand}{h:Q0 P l1 (Qr (fun ρ w=>∃f cap,ρ.ev x= .func (.func f) #[] cap∧Q0 P l2 (Q (⟨.fn (.func f) cap,#[]⟩::ds)) (Lq ρ d undef) w) (Q ds)) ρ w}:(LD.sp l1 (.dfr d x) l2).wpD P Q ds ρ w:=h
theorem Yu {c:LC}{Q:FrameMode→QT}{h:c.wp P (Q u) ρ w}:(LD.pl c).wpR P Q u ρ w:=h
theorem Sg {a b:LD}{Q:FrameMode→QT}{h:a.wpR P (fun u'=>Qr (b.wpR P Q u') (Q u')) u ρ w}:(LD.seq a b).wpR P Q u ρ w:=h
theorem Yv {l1 l2:List GO}{d:Option Nat}{Q:FrameMode→QT}{h:Q0 P l1 (Qr (fun ρ w=>Q0 P l2 (Q (Nt u).2) (Lq ρ d (Nt u).1) w) (Q u)) ρ w}:(LD.sp l1 (.rcv d) l2).wpR P Q u ρ w:=h
def Px (P:Program)(f:FuncId)(args:List Value)(u:FrameMode)(w:World)(S:FrameMode→World→Prop):Prop:=
 CallsD P f ⟨args⟩ u w fun e u' w'=>(∃v,e= .returned v)∧S u' w'
theorem jh {f:FuncId}{S:FrameMode→World→Prop}(hu:u≠ .run)(hf:SP P f=true)(hc:Px P f cap u w S)
 (h:∀u' w',S u' w'→UN P rs ρ R [] (settle u') w'):UN P rs ρ R [⟨.fn (.func f) ⟨cap⟩,#[]⟩] u w:=by
 refine ⟨hu,f,⟨cap⟩,rfl,hf,hc.mono ?_⟩;rintro e u' w' ⟨⟨v,rfl⟩,hs⟩;exact h u' w' hs
theorem cS {h:UN P rs ρ R ds .returning w}:UO P rs R ds .ret ρ w:=h
theorem cT {h:UN P rs ρ R ds .returning w}:UO P rs R ds .normal ρ w:=h
theorem pe {h:UN P rs ρ R ds (.panicking ch) w}:UO P rs R ds (.panic ch) ρ w:=h
theorem ji {h:Lo P rs R .ret ρ w}:UN P rs ρ R [] .returning w:=h
theorem lX {R:Ending→FrameMode→World→Prop}{h:Lo P rs (fun e w=>R e u w) .normal ρ w}:cR P rs R u .normal ρ w:=h
end
end
section
section
variable {P:Program}{l:List GO}{Q:QT}{ρ:La}{w:World}{f:FuncId}{S T:Value→World→Prop}

theorem UQ {d:Nat}(h0:ρ.ev x0=u0)(h1:ρ.ev x1=u1)(hc:Li P f [u0,u1] w S T)(hp:∀v w',T v w'→Q (.panic [{v:=v,recovered:=false}]) ρ w')(h:∀v w',S v w'→Q0 P l Q (upd ρ d v) w'):Q0 P (⟨none, .call (some d) f [x0,x1]⟩::l) Q ρ w:=by
 subst h0 h1;exact oZ Jr hc hp h
theorem UR {d:Nat}(h0:ρ.ev x0=u0)(h1:ρ.ev x1=u1)(h2:ρ.ev x2=u2)(hc:Li P f [u0,u1,u2] w S T)(hp:∀v w',T v w'→Q (.panic [{v:=v,recovered:=false}]) ρ w')(h:∀v w',S v w'→Q0 P l Q (upd ρ d v) w'):Q0 P (⟨none, .call (some d) f [x0,x1,x2]⟩::l) Q ρ w:=by
 subst h0 h1 h2;exact oZ Jr hc hp h
theorem US {d:Nat}(h0:ρ.ev x0=u0)(h1:ρ.ev x1=u1)(h2:ρ.ev x2=u2)(h3:ρ.ev x3=u3)(hc:Li P f [u0,u1,u2,u3] w S T)(hp:∀v w',T v w'→Q (.panic [{v:=v,recovered:=false}]) ρ w')(h:∀v w',S v w'→Q0 P l Q (upd ρ d v) w'):Q0 P (⟨none, .call (some d) f [x0,x1,x2,x3]⟩::l) Q ρ w:=by
 subst h0 h1 h2 h3;exact oZ Jr hc hp h
theorem tX {b o T:Nat}{T':TypeId}(hs:Tu P T=true)(hb:LY w.heap b T' cs)(hv:cs[o]?=some v):XM P w ⟨b,o,none⟩ T v:= .inl ⟨hs,hb.cell hv⟩
theorem zS (k:Nat){Ty:TypeId}(ht:P.underlying Ty=some (.interface ms)):(Op.equalIn (k+1) Ty .nilIface .nilIface).run P w0= .ok true w0:=by
 simp only [Op.equalIn,F7,Q8 P Ty _ w0 ht,FO];simp [Gk]
theorem zT {Ty:TypeId}(ht:P.underlying Ty=some (.interface ms)):(Op.equal Ty .nilIface .nilIface).run P w0= .ok true w0:=zS 9999 ht
theorem zU (k:Nat){Ty:TypeId}(ht:P.underlying Ty=some (.interface ms)):(Op.equalIn (k+1) Ty (.iface U v) .nilIface).run P w0= .ok false w0:=by
 simp only [Op.equalIn,F7,Q8 P Ty _ w0 ht,FO];simp [Gk]
theorem zV {Ty:TypeId}(ht:P.underlying Ty=some (.interface ms)):(Op.equal Ty (.iface U v) .nilIface).run P w0= .ok false w0:=zU 9999 ht
theorem tY {d:Nat}{Ty:TypeId}{x:Operand}(ht:P.underlying Ty=some (.interface ms))(hx:ρ.ev x= .nilIface)(h:Q0 P l Q (upd ρ d (.bool false)) w):Q0 P (⟨none, .bin d .neq Ty x (.const .nilIface)⟩::l) Q ρ w:=
 ⟨_,fun w0=>by rw [hx];simp [La.ev,eqGuard,binOp,zT ht],h⟩
theorem tZ {d:Nat}{Ty:TypeId}{x:Operand}(ht:P.underlying Ty=some (.interface ms))(hx:ρ.ev x= .iface U v)(h:Q0 P l Q (upd ρ d (.bool true)) w):Q0 P (⟨none, .bin d .neq Ty x (.const .nilIface)⟩::l) Q ρ w:=
 ⟨_,fun w0=>by rw [hx];simp [La.ev,eqGuard,binOp,zV ht],h⟩
theorem St.pick3 {c:Cx}{L L1 L2 L3:List Res}{r1 r2 r3:Res}(h:St c w L)(p1:Pick L r1 L1)(p2:Pick L1 r2 L2)(p3:Pick L2 r3 L3):St c w (r1::r2::r3::L3):=
 h.perm (p1.perm.trans (List.Perm.cons _ (p2.perm.trans (List.Perm.cons _ p3.perm))))
end
end
section
structure Bx (K:Prop):Prop where
 o:K
section
variable {K G:Prop}
theorem zn {k:K}(h:Bx K→G:=by
 intro K9;refine R8 ?_;(repeat (first|refine bW ?_|refine' lC));exact K9.o):G:=h ⟨k⟩
theorem lY {k:K}(h:Bx K→G:=by
 intro K9;refine' cg;(repeat (first|refine bW ?_|refine' lC));exact K9.o):G:=h ⟨k⟩
theorem KV {k:K}(h:Bx K→G:=by
 intro K9;refine' bR;(repeat (first|refine bW ?_|refine' lC));exact K9.o):G:=h ⟨k⟩
theorem L7 {k:K}(h:Bx K→G:=by
 intro K9;refine' bS;(repeat (first|refine' XP|refine' XQ|refine XR rfl ?_|refine bW ?_|refine' lC));exact K9.o):G:=h ⟨k⟩
theorem zr {k:K}(h:Bx K→G:=by
 intro K9;refine' al;(repeat (first|refine' T8|refine' bX));exact K9.o):G:=h ⟨k⟩
theorem zy {A:Prop}{k:G}(h:A:=by
 repeat (first
  | exact fun _ h=>(FQ h).elim
  | refine FG.2 ⟨by first|exact QZ hS rfl (F3 (by repeat constructor)) rfl|exact oq hS rfl (F3 (by repeat constructor)) rfl rfl|exact iS hS Ja rfl rfl|exact oE hS Ja rfl rfl rfl|exact ga hS Ja rfl rfl|exact ot hS Ja rfl rfl rfl|exact Ya rfl rfl|exact fY rfl (QZ hS rfl (F3 (by repeat constructor)) rfl)|exact fY rfl (oq hS rfl (F3 (by repeat constructor)) rfl rfl)|exact fY rfl (iS hS Ja rfl rfl)|exact fY rfl (oE hS Ja rfl rfl rfl)|exact fY rfl (ga hS Ja rfl rfl)|exact fY rfl (ot hS Ja rfl rfl rfl),?_⟩)):A∧G:=⟨h,k⟩
end
section
variable {P:Program}{l:List GO}{Q:QT}{ρ:La}{w:World}{c:Cx}{L:List Res}{i:Nat}{T es:Nat}{v:Value}{css:List (List Value)}
theorem zt {K:KT}{h:K ρ w}:Q0 P [] (Qr K Q) ρ w:=R8 (bW h)
theorem St.ns {L':List Res}(h:St c w L)(e:L=L':=by (conv=>lhs;simp only [FM,FR]);first|done|exact rfl):St c w L':=e ▸ h
theorem KP {s:Nat}{b:Bool}{o:LO}{v:Value}{h:Q0 P l Q (Lq ρ o.dst undef) w}(hg:ρ s=v:=by exact rfl)(hw:Xl v b=false:=by exact rfl):Q0 P (⟨some (s,b),o⟩::l) Q ρ w:=nJ hg hw h
theorem KQ {s:Nat}{b:Bool}{o:LO}{h:Q0 P (⟨none,o⟩::l) Q ρ w}(hg:ρ s= .bool b:=by exact rfl):Q0 P (⟨some (s,b),o⟩::l) Q ρ w:=nI hg h
theorem KN {c:Operand}{a b:LC}{h:a.wp P Q ρ w}(hc:ρ.ev c= .bool true:=by exact rfl):(LC.cond c a b).wp P Q ρ w:=T5 hc h
theorem KO {c:Operand}{a b:LC}{h:b.wp P Q ρ w}(hc:ρ.ev c= .bool false:=by exact rfl):(LC.cond c a b).wp P Q ρ w:=T6 hc h
theorem MR {d:Nat}{x:Operand}{b:Nat}{h:Q0 P l Q (upd ρ d (.pointer (some ⟨b,off,none⟩))) w}(hx:ρ.ev x= .pointer (some ⟨b,0,none⟩):=by exact rfl):Q0 P (⟨none, .fld d x off⟩::l) Q ρ w:=cm hx h
theorem ua {d:Nat}{x:Operand}{b o:Nat}{h:Q0 P l Q (upd ρ d (.pointer (some ⟨b,o+off,none⟩))) w}(hx:ρ.ev x= .pointer (some ⟨b,o,none⟩):=by exact rfl):Q0 P (⟨none, .fld d x off⟩::l) Q ρ w:=aq hx h
theorem S3 {d:Nat}{x:Operand}{a:Addr}{h:Q0 P l Q (upd ρ d (.pointer (some a))) w}(hx:ρ.ev x= .pointer (some a):=by exact rfl):Q0 P (⟨none, .nilc d x⟩::l) Q ρ w:=bY hx h
theorem Pm {d:Nat}{x:Operand}{b:Bool}{h:Q0 P l Q (upd ρ d (.bool (!b))) w}(hx:ρ.ev x= .bool b:=by exact rfl):Q0 P (⟨none, .un d .not x⟩::l) Q ρ w:=im hx h
theorem TG {d:Nat}{x:Operand}{i:Nat}{vs:List Value}{v:Value}{h:Q0 P l Q (upd ρ d v) w}(hx:ρ.ev x= .tuple ⟨vs⟩:=by exact rfl)(hv:vs[i]?=some v:=by exact rfl):Q0 P (⟨none, .ext d x i⟩::l) Q ρ w:=ir hx hv h
theorem zm {d:Nat}{x:Operand}{v:Value}{h:Q0 P l Q (upd ρ d v) w}(hx:ρ.ev x=v:=by (conv=>lhs;whnf);first|done|exact rfl):Q0 P (⟨none, .mov d x⟩::l) Q ρ w:=il hx h
theorem OR {d:Nat}{c x y:Operand}{v:Value}{h:Q0 P l Q (upd ρ d v) w}(hc:ρ.ev c= .bool true:=by exact rfl)(hx:ρ.ev x=v:=by (conv=>lhs;whnf);first|done|exact rfl):Q0 P (⟨none, .pick d c x y⟩::l) Q ρ w:=Pr hc hx h
theorem ud {d:Nat}{c x y:Operand}{v:Value}{h:Q0 P l Q (upd ρ d v) w}(hc:ρ.ev c= .bool false:=by exact rfl)(hx:ρ.ev y=v:=by (conv=>lhs;whnf);first|done|exact rfl):Q0 P (⟨none, .pick d c x y⟩::l) Q ρ w:=Ra hc hx h
theorem ue {d:Nat}{T:TypeId}{x:Operand}{v:Value}{h:Q0 P l Q (upd ρ d (.iface T v)) w}(hx:ρ.ev x=v:=by (conv=>lhs;whnf);first|done|exact rfl):Q0 P (⟨none, .mki d T x⟩::l) Q ρ w:=iy hx h
theorem zl {d:Nat}{x:Operand}{b o:Nat}{u:Value}(hS:St c w L)(h:Q0 P l Q (upd ρ d u) w)(hx:ρ.ev x= .pointer (some ⟨b,o,none⟩):=by exact rfl)(hi:nth L i=some (blk b T cs):=by exact F3 (by repeat constructor))(hu:cs[o]?=some u:=by exact rfl):Q0 P (⟨none, .load1 d x⟩::l) Q ρ w:=MX hS hx hi hu h
theorem S4 {d:Nat}{x:Operand}{b o:Nat}{u:Value}(hS:St c w L)(h:Q0 P l Q (upd ρ d u) w)(ha:Pj c b o cs:=by assumption)(hx:ρ.ev x= .pointer (some ⟨b,o,none⟩):=by exact rfl)(hu:cs[0]?=some u:=by exact rfl):Q0 P (⟨none, .load1 d x⟩::l) Q ρ w:=Yc hS ha hx hu h
theorem cU {d:Nat}{x:Operand}{b o:Nat}{u:Value}(hS:St c w L)(h:Q0 P l Q (upd ρ d u) w)(ha:Pj c b o cs:=by assumption)(hx:ρ.ev x= .pointer (some ⟨b,o+j,none⟩):=by exact rfl)(hu:cs[j]?=some u:=by exact rfl):Q0 P (⟨none, .load1 d x⟩::l) Q ρ w:=Up hS ha hx hu h
theorem zv {d n:Nat}{x:Operand}{b o:Nat}(hS:St c w L)(h:Q0 P l Q (upd ρ d (.agg ⟨us⟩)) w)(hx:ρ.ev x= .pointer (some ⟨b,o,none⟩):=by exact rfl)(hi:nth L i=some (blk b T cs):=by exact F3 (by repeat constructor))(hu:(cs.drop o).take n=us:=by exact rfl)(hl:us.length=n:=by exact rfl):Q0 P (⟨none, .loadn d n x⟩::l) Q ρ w:=oj hS hx hi hu hl h
theorem zW {d n:Nat}{x:Operand}{b o:Nat}(hS:St c w L)(h:Q0 P l Q (upd ρ d (.agg ⟨cs⟩)) w)(ha:Pj c b o cs:=by assumption)(hx:ρ.ev x= .pointer (some ⟨b,o,none⟩):=by exact rfl)(hl:cs.length=n:=by exact rfl):Q0 P (⟨none, .loadn d n x⟩::l) Q ρ w:=Uq hS ha hx hl h
theorem jj {d n:Nat}{x:Operand}{b o:Nat}{xs:List Int}(hS:St c w L)(h:Q0 P l Q (upd ρ d (.int .i64 (xs.getD m 0))) w)(he:Oe v n 1 m b o:=by assumption)(hx:ρ.ev x= .pointer (some ⟨b,o,none⟩):=by exact rfl)(hi:nth L i=some (sl T 1 v (xs.map Qs)):=by exact F3 (by repeat constructor))(hn:(xs.map Qs).length=n:=by exact rfl)(hm:m<xs.length:=by first|omega|(simp;omega)):Q0 P (⟨none, .load1 d x⟩::l) Q ρ w:=ou hS he hx hi hn hm h
theorem jk {d n:Nat}{x:Operand}{b o:Nat}(hS:St c w L)(h:Q0 P l Q (upd ρ d (.bool (xs.getD m false))) w)(he:Oe v n 1 m b o:=by assumption)(hx:ρ.ev x= .pointer (some ⟨b,o,none⟩):=by exact rfl)(hi:nth L i=some (sl T 1 v (xs.map QH)):=by exact F3 (by repeat constructor))(hn:(xs.map QH).length=n:=by exact rfl)(hm:m<xs.length:=by first|omega|(simp;omega)):Q0 P (⟨none, .load1 d x⟩::l) Q ρ w:=Ur hS he hx hi hn hm h
theorem ug {d n:Nat}{x:Operand}(hS:St c w L)(h:Q0 P l Q (upd ρ d (.int .i64 n)) w)(hx:ρ.ev x=v:=by (conv=>lhs;whnf);first|done|exact rfl)(hi:nth L i=some (sl T es v css):=by exact F3 (by repeat constructor))(hn:css.length=n:=by first|exact FF _|rfl):Q0 P (⟨none, .len d x⟩::l) Q ρ w:=QL hS hx hi hn h
theorem NH {d:Nat}{T:TypeId}{x y:Operand}{b:Int}{h:Q0 P l Q (upd ρ d (.int .i64 (a+b))) w}(hx:ρ.ev x= .int .i64 a:=by exact rfl)(hy:ρ.ev y= .int .i64 b:=by exact rfl)(h1: -9223372036854775808≤a+b:=by omega)(h2:a+b≤9223372036854775807:=by omega):Q0 P (⟨none, .bin d .add T x y⟩::l) Q ρ w:=iA hx hy h1 h2 h
theorem PV {d:Nat}{T:TypeId}{x y:Operand}{b:Int}{h:Q0 P l Q (upd ρ d (.int .i64 (a - b))) w}(hx:ρ.ev x= .int .i64 a:=by exact rfl)(hy:ρ.ev y= .int .i64 b:=by exact rfl)(h1: -9223372036854775808≤a - b:=by omega)(h2:a - b≤9223372036854775807:=by omega):Q0 P (⟨none, .bin d .sub T x y⟩::l) Q ρ w:=ca hx hy h1 h2 h
theorem Py {d:Nat}{T:TypeId}{x y:Operand}{b:Int}{h:Q0 P l Q (upd ρ d (.int .i64 (a*b))) w}(hx:ρ.ev x= .int .i64 a:=by exact rfl)(hy:ρ.ev y= .int .i64 b:=by exact rfl)(h1: -9223372036854775808≤a*b:=by omega)(h2:a*b≤9223372036854775807:=by omega):Q0 P (⟨none, .bin d .mul T x y⟩::l) Q ρ w:=iC hx hy h1 h2 h
theorem LG {d:Nat}{T:TypeId}{x y:Operand}{k:IntKind}{b:Int}{h:Q0 P l Q (upd ρ d (.bool true)) w}(hx:ρ.ev x= .int k a:=by exact rfl)(hy:ρ.ev y= .int k b:=by exact rfl)(hp:a<b:=by omega):Q0 P (⟨none, .bin d .lss T x y⟩::l) Q ρ w:=XX hx hy hp h
theorem LM {d:Nat}{T:TypeId}{x y:Operand}{k:IntKind}{b:Int}{h:Q0 P l Q (upd ρ d (.bool false)) w}(hx:ρ.ev x= .int k a:=by exact rfl)(hy:ρ.ev y= .int k b:=by exact rfl)(hp:¬(a<b):=by omega):Q0 P (⟨none, .bin d .lss T x y⟩::l) Q ρ w:=XY hx hy hp h
theorem Qd {d:Nat}{T:TypeId}{x y:Operand}{k:IntKind}{b:Int}{h:Q0 P l Q (upd ρ d (.bool true)) w}(hx:ρ.ev x= .int k a:=by exact rfl)(hy:ρ.ev y= .int k b:=by exact rfl)(hp:a=b:=by omega):Q0 P (⟨none, .bin d .eql T x y⟩::l) Q ρ w:=sV hx hy hp h
theorem Qi {d:Nat}{T:TypeId}{x y:Operand}{k:IntKind}{b:Int}{h:Q0 P l Q (upd ρ d (.bool false)) w}(hx:ρ.ev x= .int k a:=by exact rfl)(hy:ρ.ev y= .int k b:=by exact rfl)(hp:¬(a=b):=by omega):Q0 P (⟨none, .bin d .eql T x y⟩::l) Q ρ w:=sW hx hy hp h
theorem QG {d:Nat}{T:TypeId}{x y:Operand}{k:IntKind}{b:Int}{h:Q0 P l Q (upd ρ d (.bool true)) w}(hx:ρ.ev x= .int k a:=by exact rfl)(hy:ρ.ev y= .int k b:=by exact rfl)(hp:a≠b:=by omega):Q0 P (⟨none, .bin d .neq T x y⟩::l) Q ρ w:=XV hx hy hp h
theorem QI {d:Nat}{T:TypeId}{x y:Operand}{k:IntKind}{b:Int}{h:Q0 P l Q (upd ρ d (.bool false)) w}(hx:ρ.ev x= .int k a:=by exact rfl)(hy:ρ.ev y= .int k b:=by exact rfl)(hp:¬(a≠b):=by omega):Q0 P (⟨none, .bin d .neq T x y⟩::l) Q ρ w:=XW hx hy hp h
theorem QO {d:Nat}{T:TypeId}{x y:Operand}{k:IntKind}{b:Int}{h:Q0 P l Q (upd ρ d (.bool true)) w}(hx:ρ.ev x= .int k a:=by exact rfl)(hy:ρ.ev y= .int k b:=by exact rfl)(hp:b<a:=by omega):Q0 P (⟨none, .bin d .gtr T x y⟩::l) Q ρ w:=X1 hx hy hp h
theorem QV {d:Nat}{T:TypeId}{x y:Operand}{k:IntKind}{b:Int}{h:Q0 P l Q (upd ρ d (.bool false)) w}(hx:ρ.ev x= .int k a:=by exact rfl)(hy:ρ.ev y= .int k b:=by exact rfl)(hp:¬(b<a):=by omega):Q0 P (⟨none, .bin d .gtr T x y⟩::l) Q ρ w:=X2 hx hy hp h
theorem MV {d:Nat}{T:TypeId}{x y:Operand}{k:IntKind}{b:Int}{h:Q0 P l Q (upd ρ d (.bool true)) w}(hx:ρ.ev x= .int k a:=by exact rfl)(hy:ρ.ev y= .int k b:=by exact rfl)(hp:b≤a:=by omega):Q0 P (⟨none, .bin d .geq T x y⟩::l) Q ρ w:=X3 hx hy hp h
theorem Nu {d:Nat}{T:TypeId}{x y:Operand}{k:IntKind}{b:Int}{h:Q0 P l Q (upd ρ d (.bool false)) w}(hx:ρ.ev x= .int k a:=by exact rfl)(hy:ρ.ev y= .int k b:=by exact rfl)(hp:¬(b≤a):=by omega):Q0 P (⟨none, .bin d .geq T x y⟩::l) Q ρ w:=X4 hx hy hp h
theorem aM {d:Nat}{T:TypeId}{x y:Operand}{k:IntKind}{b:Int}{h:Q0 P l Q (upd ρ d (.bool true)) w}(hx:ρ.ev x= .int k a:=by exact rfl)(hy:ρ.ev y= .int k b:=by exact rfl)(hp:a≤b:=by omega):Q0 P (⟨none, .bin d .leq T x y⟩::l) Q ρ w:=XZ hx hy hp h
theorem aN {d:Nat}{T:TypeId}{x y:Operand}{k:IntKind}{b:Int}{h:Q0 P l Q (upd ρ d (.bool false)) w}(hx:ρ.ev x= .int k a:=by exact rfl)(hy:ρ.ev y= .int k b:=by exact rfl)(hp:¬(a≤b):=by omega):Q0 P (⟨none, .bin d .leq T x y⟩::l) Q ρ w:=X0 hx hy hp h
theorem Mi {x y:Operand}{b o:Nat}{u:Value}(hS:St c w L)(h:∀w',St c w' (L.set i (blk b T (cs.set o u)))→Q0 P l Q ρ w')(hx:ρ.ev x= .pointer (some ⟨b,o,none⟩):=by exact rfl)(hy:ρ.ev y=u:=by (conv=>lhs;whnf);first|done|exact rfl)(hi:nth L i=some (blk b T cs):=by exact F3 (by repeat constructor))(ho:o<cs.length:=by simp)(h1:oneC u=true:=by first|rfl|assumption|exact hS.oneC (F3 (by repeat constructor))|exact Kj (by assumption)):Q0 P (⟨none, .store1 x y⟩::l) Q ρ w:=tm hS hx hy hi ho h1 h
theorem uh {n:Nat}{x y:Operand}{b o:Nat}{xs:List Int}{u:Int}(hS:St c w L)(h:∀w',St c w' (L.set i (sl T 1 v ((xs.set m u).map Qs)))→Q0 P l Q ρ w')(he:Oe v n 1 m b o:=by assumption)(hx:ρ.ev x= .pointer (some ⟨b,o,none⟩):=by exact rfl)(hy:ρ.ev y= .int .i64 u:=by (conv=>lhs;whnf);first|done|exact rfl)(hi:nth L i=some (sl T 1 v (xs.map Qs)):=by exact F3 (by repeat constructor))(hn:(xs.map Qs).length=n:=by exact rfl)(hm:m<xs.length:=by first|omega|(simp;omega)):Q0 P (⟨none, .store1 x y⟩::l) Q ρ w:=Us hS he hx hy hi hn hm h
theorem ui {n:Nat}{x y:Operand}{b o:Nat}{u:Bool}(hS:St c w L)(h:∀w',St c w' (L.set i (sl T 1 v ((xs.set m u).map QH)))→Q0 P l Q ρ w')(he:Oe v n 1 m b o:=by assumption)(hx:ρ.ev x= .pointer (some ⟨b,o,none⟩):=by exact rfl)(hy:ρ.ev y= .bool u:=by (conv=>lhs;whnf);first|done|exact rfl)(hi:nth L i=some (sl T 1 v (xs.map QH)):=by exact F3 (by repeat constructor))(hn:(xs.map QH).length=n:=by exact rfl)(hm:m<xs.length:=by first|omega|(simp;omega)):Q0 P (⟨none, .store1 x y⟩::l) Q ρ w:=y7 hS he hx hy hi hn hm h
theorem zb {d:Nat}{x:Operand}{cs:List Value}(hS:St c w L)(h:∀b w',St c w' (blk b T cs::L)→Q0 P l Q (upd ρ d (.pointer (some ⟨b,0,none⟩))) w')(hx:ρ.ev x=v:=by (conv=>lhs;whnf);first|done|exact rfl)(hc:v.cells=⟨cs⟩:=by rfl):Q0 P (⟨none, .box d T x⟩::l) Q ρ w:=Ov hS hx hc h
theorem Rf {d m:Nat}{x y:Operand}{k:IntKind}(hS:St c w L)(h:∀b o,Oe v css.length es m b o→Q0 P l Q (upd ρ d (.pointer (some ⟨b,o,none⟩))) w)(hx:ρ.ev x=v:=by (conv=>lhs;whnf);first|done|exact rfl)(hy:ρ.ev y= .int k (m:Int):=by exact rfl)(hi:nth L i=some (sl T es v css):=by exact F3 (by repeat constructor))(hm:m<css.length:=by first|omega|(simp;omega)):Q0 P (⟨none, .idx d es x y⟩::l) Q ρ w:=PQ hS hx hy hi hm h
theorem aO {d:Nat}{x y:Operand}{k:IntKind}{n:Int}(hS:St c w L)(h:∀b o,Oe v css.length es n.toNat b o→Q0 P l Q (upd ρ d (.pointer (some ⟨b,o,none⟩))) w)(hx:ρ.ev x=v:=by (conv=>lhs;whnf);first|done|exact rfl)(hy:ρ.ev y= .int k n:=by exact rfl)(hi:nth L i=some (sl T es v css):=by exact F3 (by repeat constructor))(h0:0≤n:=by first|omega|(simp;omega))(hm:n<css.length:=by first|omega|(simp;omega)):Q0 P (⟨none, .idx d es x y⟩::l) Q ρ w:=QN hS hx hy hi h0 hm h
theorem K1 {n i b T:Nat}{x y:Operand}(hS:St c w L)(h:∀w',St c w' (L.set i (blk b T us))→Q0 P l Q ρ w')(hx:ρ.ev x= .pointer (some ⟨b,0,none⟩):=by exact rfl)(hy:ρ.ev y= .agg ⟨us⟩:=by exact rfl)(hn:us.length=n:=by rfl)(hi:nth L i=some (blk b T cs):=by exact F3 (by repeat constructor))(hc:cs.length=n:=by rfl)(h1:∀u∈us,oneC u=true:=by first|(simp [oneC];done)|assumption|exact Rep.one _ (by assumption)|(simp only [Ih,JE,GD,FX,FQ,or_false,forall_eq_or_imp,forall_eq];((try refine And.intro ?_ ?_)<;>try refine And.intro ?_ ?_)<;>first|rfl|assumption)):Q0 P (⟨none, .storen n x y⟩::l) Q ρ w:=zd hS hx hy hn hi hc h1 h
theorem gv {n:Nat}{x y:Operand}{b o:Nat}(hS:St c w L)(h:∀w',St c w' (L.set i (blk b T cs'))→Q0 P l Q ρ w')(hx:ρ.ev x= .pointer (some ⟨b,o,none⟩):=by exact rfl)(hy:ρ.ev y= .agg ⟨us⟩:=by exact rfl)(hn:us.length=n:=by rfl)(hi:nth L i=some (blk b T cs):=by exact F3 (by repeat constructor))(ho:o+n≤cs.length:=by simp)(h1:∀u∈us,oneC u=true:=by first|(simp [oneC];done)|assumption|exact Rep.one _ (by assumption)|(simp only [Ih,JE,GD,FX,FQ,or_false,forall_eq_or_imp,forall_eq];((try refine And.intro ?_ ?_)<;>try refine And.intro ?_ ?_)<;>first|rfl|assumption))(hc:cs.take o++(us++cs.drop (o+n))=cs':=by (conv=>lhs;simp only [Ih,JE,Ks,GD,G3,IM]);first|done|exact rfl):Q0 P (⟨none, .storen n x y⟩::l) Q ρ w:=Rb hS hx hy hn hi ho h1 hc h
theorem zf {t:Nat}{v:Value}{h:R (.returned v) w}(hv:ρ t=v:=by (conv=>lhs;whnf);first|done|exact rfl):Lo P [.tmp t] R .ret ρ w:=bU hv h
theorem lZ {t u:Nat}{v:Value}{h:R (.returned (.tuple #[v,v'])) w}(hv:ρ t=v:=by (conv=>lhs;whnf);first|done|exact rfl)(hv':ρ u=v':=by (conv=>lhs;whnf);first|done|exact rfl):Lo P [.tmp t, .tmp u] R .ret ρ w:=bV hv hv' h
theorem M5 {d:Nat}{z:List Value}(cs:List Value)(h:Q0 P l Q (upd ρ d (.agg ⟨cs⟩)) w)(hf:Od z []=some cs:=by rfl):Q0 P (⟨none, .build d z []⟩::l) Q ρ w:=lI hf h
theorem PW {d:Nat}{z:List Value}(cs:List Value)(h:Q0 P l Q (upd ρ d (.agg ⟨cs⟩)) w)(h0:ρ.ev x0=v0:=by (conv=>lhs;whnf);first|done|exact rfl)(hf:Od z [(o0,n0,v0)]=some cs:=by rfl):Q0 P (⟨none, .build d z [(o0,n0,x0)]⟩::l) Q ρ w:=oe h0 hf h
theorem LK {d:Nat}{T:TypeId}{n:Nat}{z:List Value}(hS:St c w L)(cs:List Value)(h:∀b w',St c w' (blk b T cs::L)→Q0 P l Q (upd ρ d (.slice (some ⟨b,0,none⟩) n n)) w')(h0:ρ.ev x0=v0:=by (conv=>lhs;whnf);first|done|exact rfl)(hf:Od z [(o0,n0,v0)]=some cs:=by rfl):Q0 P (⟨none, .buildS d T n z [(o0,n0,x0)]⟩::l) Q ρ w:=RJ h0 hf fun b w' hb hf1 _ hk=>h b w' (hS.laid hb hf1 hk)
theorem Nn {d:Nat}{z:List Value}(cs:List Value)(h:Q0 P l Q (upd ρ d (.agg ⟨cs⟩)) w)(h0:ρ.ev x0=v0:=by (conv=>lhs;whnf);first|done|exact rfl)(h1:ρ.ev x1=v1:=by (conv=>lhs;whnf);first|done|exact rfl)(hf:Od z [(o0,n0,v0),(o1,n1,v1)]=some cs:=by rfl):Q0 P (⟨none, .build d z [(o0,n0,x0),(o1,n1,x1)]⟩::l) Q ρ w:=iO h0 h1 hf h
theorem uj {d:Nat}{T:TypeId}{n:Nat}{z:List Value}(hS:St c w L)(cs:List Value)(h:∀b w',St c w' (blk b T cs::L)→Q0 P l Q (upd ρ d (.slice (some ⟨b,0,none⟩) n n)) w')(h0:ρ.ev x0=v0:=by (conv=>lhs;whnf);first|done|exact rfl)(h1:ρ.ev x1=v1:=by (conv=>lhs;whnf);first|done|exact rfl)(hf:Od z [(o0,n0,v0),(o1,n1,v1)]=some cs:=by rfl):Q0 P (⟨none, .buildS d T n z [(o0,n0,x0),(o1,n1,x1)]⟩::l) Q ρ w:=lJ h0 h1 hf fun b w' hb hf1 _ hk=>h b w' (hS.laid hb hf1 hk)
theorem OF {d:Nat}{z:List Value}(cs:List Value)(h:Q0 P l Q (upd ρ d (.agg ⟨cs⟩)) w)(h0:ρ.ev x0=v0:=by (conv=>lhs;whnf);first|done|exact rfl)(h1:ρ.ev x1=v1:=by (conv=>lhs;whnf);first|done|exact rfl)(h2:ρ.ev x2=v2:=by (conv=>lhs;whnf);first|done|exact rfl)(hf:Od z [(o0,n0,v0),(o1,n1,v1),(o2,n2,v2)]=some cs:=by rfl):Q0 P (⟨none, .build d z [(o0,n0,x0),(o1,n1,x1),(o2,n2,x2)]⟩::l) Q ρ w:=Uk h0 h1 h2 hf h
theorem zX {d:Nat}{z:List Value}(cs:List Value)(h:Q0 P l Q (upd ρ d (.agg ⟨cs⟩)) w)(h0:ρ.ev x0=v0:=by (conv=>lhs;whnf);first|done|exact rfl)(h1:ρ.ev x1=v1:=by (conv=>lhs;whnf);first|done|exact rfl)(h2:ρ.ev x2=v2:=by (conv=>lhs;whnf);first|done|exact rfl)(h3:ρ.ev x3=v3:=by (conv=>lhs;whnf);first|done|exact rfl)(hf:Od z [(o0,n0,v0),(o1,n1,v1),(o2,n2,v2),(o3,n3,v3)]=some cs:=by rfl):Q0 P (⟨none, .build d z [(o0,n0,x0),(o1,n1,x1),(o2,n2,x2),(o3,n3,x3)]⟩::l) Q ρ w:=Ul h0 h1 h2 h3 hf h
theorem pf {d:Nat}{z:List Value}{o4 n4:Nat}{x4:Operand}(cs:List Value)(h:Q0 P l Q (upd ρ d (.agg ⟨cs⟩)) w)(h0:ρ.ev x0=v0:=by (conv=>lhs;whnf);first|done|exact rfl)(h1:ρ.ev x1=v1:=by (conv=>lhs;whnf);first|done|exact rfl)(h2:ρ.ev x2=v2:=by (conv=>lhs;whnf);first|done|exact rfl)(h3:ρ.ev x3=v3:=by (conv=>lhs;whnf);first|done|exact rfl)(h4:ρ.ev x4=v4:=by (conv=>lhs;whnf);first|done|exact rfl)(hf:Od z [(o0,n0,v0),(o1,n1,v1),(o2,n2,v2),(o3,n3,v3),(o4,n4,v4)]=some cs:=by rfl):Q0 P (⟨none, .build d z [(o0,n0,x0),(o1,n1,x1),(o2,n2,x2),(o3,n3,x3),(o4,n4,x4)]⟩::l) Q ρ w:=Um h0 h1 h2 h3 h4 hf h
theorem zD {es:List (List Nat)}(C:List CI)(h:Q0 P (C.map fun c=>LI gs c.1) Q ρ w.drew)(hok:bO gs es C=true:=by kernel_rfl)(hpl:(C.all fun c=>match c.2 with|some (some _)=>false|_=>true)=true:=by kernel_rfl):(LC.draw gs es).wp P Q ρ w:=nQ C hok hpl h
theorem zC {es:List (List Nat)}(C:List CI)(h:Pg P gs C Q ρ w.drew)(hok:bO gs es C=true:=by kernel_rfl):(LC.draw gs es).wp P Q ρ w:=nR C hok h
theorem l0 {d:Nat}{f:FuncId}(c:KK P f [] w S){h:∀v w',S v w'→Q0 P l Q (upd ρ d v) w'}:Q0 P (⟨none, .call (some d) f []⟩::l) Q ρ w:=Ut c h
theorem Lf {d:Nat}{f:FuncId}(h0:ρ.ev x0=u0:=by (conv=>lhs;whnf);first|done|exact rfl)(c:KK P f [u0] w S){h:∀v w',S v w'→Q0 P l Q (upd ρ d v) w'}:Q0 P (⟨none, .call (some d) f [x0]⟩::l) Q ρ w:=ow h0 c h
theorem KU {d:Nat}{f:FuncId}(h0:ρ.ev x0=u0:=by (conv=>lhs;whnf);first|done|exact rfl)(h1:ρ.ev x1=u1:=by (conv=>lhs;whnf);first|done|exact rfl)(c:KK P f [u0,u1] w S){h:∀v w',S v w'→Q0 P l Q (upd ρ d v) w'}:Q0 P (⟨none, .call (some d) f [x0,x1]⟩::l) Q ρ w:=cy h0 h1 c h
theorem LX {d:Nat}{f:FuncId}{T:Value→World→Prop}(h0:ρ.ev x0=u0:=by (conv=>lhs;whnf);first|done|exact rfl)(h1:ρ.ev x1=u1:=by (conv=>lhs;whnf);first|done|exact rfl)(c:Li P f [u0,u1] w S T)(p:∀v w',T v w'→Q (.panic [{v:=v,recovered:=false}]) ρ w'){h:∀v w',S v w'→Q0 P l Q (upd ρ d v) w'}:Q0 P (⟨none, .call (some d) f [x0,x1]⟩::l) Q ρ w:=UQ h0 h1 c p h
theorem LU {d:Nat}{f:FuncId}(h0:ρ.ev x0=u0:=by (conv=>lhs;whnf);first|done|exact rfl)(h1:ρ.ev x1=u1:=by (conv=>lhs;whnf);first|done|exact rfl)(h2:ρ.ev x2=u2:=by (conv=>lhs;whnf);first|done|exact rfl)(c:KK P f [u0,u1,u2] w S){h:∀v w',S v w'→Q0 P l Q (upd ρ d v) w'}:Q0 P (⟨none, .call (some d) f [x0,x1,x2]⟩::l) Q ρ w:=Uu h0 h1 h2 c h
theorem Oq {d:Nat}{f:FuncId}{T:Value→World→Prop}(h0:ρ.ev x0=u0:=by (conv=>lhs;whnf);first|done|exact rfl)(h1:ρ.ev x1=u1:=by (conv=>lhs;whnf);first|done|exact rfl)(h2:ρ.ev x2=u2:=by (conv=>lhs;whnf);first|done|exact rfl)(c:Li P f [u0,u1,u2] w S T)(p:∀v w',T v w'→Q (.panic [{v:=v,recovered:=false}]) ρ w'){h:∀v w',S v w'→Q0 P l Q (upd ρ d v) w'}:Q0 P (⟨none, .call (some d) f [x0,x1,x2]⟩::l) Q ρ w:=UR h0 h1 h2 c p h
theorem NN {d:Nat}{f:FuncId}(h0:ρ.ev x0=u0:=by (conv=>lhs;whnf);first|done|exact rfl)(h1:ρ.ev x1=u1:=by (conv=>lhs;whnf);first|done|exact rfl)(h2:ρ.ev x2=u2:=by (conv=>lhs;whnf);first|done|exact rfl)(h3:ρ.ev x3=u3:=by (conv=>lhs;whnf);first|done|exact rfl)(c:KK P f [u0,u1,u2,u3] w S){h:∀v w',S v w'→Q0 P l Q (upd ρ d v) w'}:Q0 P (⟨none, .call (some d) f [x0,x1,x2,x3]⟩::l) Q ρ w:=Uv h0 h1 h2 h3 c h
theorem pg {d:Nat}{f:FuncId}{T:Value→World→Prop}(h0:ρ.ev x0=u0:=by (conv=>lhs;whnf);first|done|exact rfl)(h1:ρ.ev x1=u1:=by (conv=>lhs;whnf);first|done|exact rfl)(h2:ρ.ev x2=u2:=by (conv=>lhs;whnf);first|done|exact rfl)(h3:ρ.ev x3=u3:=by (conv=>lhs;whnf);first|done|exact rfl)(c:Li P f [u0,u1,u2,u3] w S T)(p:∀v w',T v w'→Q (.panic [{v:=v,recovered:=false}]) ρ w'){h:∀v w',S v w'→Q0 P l Q (upd ρ d v) w'}:Q0 P (⟨none, .call (some d) f [x0,x1,x2,x3]⟩::l) Q ρ w:=US h0 h1 h2 h3 c p h
variable {α:Type}{r:Rep α}{xs:List α}
theorem zL {d:Nat}{x:Operand}{h:Q0 P l Q (upd ρ d (.int .i64 xs.length)) w}(hx:ρ.ev x=v:=by (conv=>lhs;whnf);first|done|exact rfl)(hK:r.sl c v xs:=by assumption):Q0 P (⟨none, .len d x⟩::l) Q ρ w:=iU hx hK h
theorem zi {d m:Nat}{x y:Operand}{k:IntKind}{h:∀b o cs a,Pj c b o cs→xs[m]?=some a→r.at c cs a→Q0 P l Q (upd ρ d (.pointer (some ⟨b,o,none⟩))) w}(hx:ρ.ev x=v:=by (conv=>lhs;whnf);first|done|exact rfl)(hy:ρ.ev y= .int k (m:Int):=by exact rfl)(hK:r.sl c v xs:=by assumption)(hes:r.es=es:=by exact rfl)(hn:m<xs.length:=by first|omega|(simp;omega)):Q0 P (⟨none, .idx d es x y⟩::l) Q ρ w:=TA hx hy hK hes hn h
theorem zj {d:Nat}{x y:Operand}{k:IntKind}{n:Int}{h:∀b o cs a,Pj c b o cs→xs[n.toNat]?=some a→r.at c cs a→Q0 P l Q (upd ρ d (.pointer (some ⟨b,o,none⟩))) w}(hx:ρ.ev x=v:=by (conv=>lhs;whnf);first|done|exact rfl)(hy:ρ.ev y= .int k n:=by exact rfl)(hK:r.sl c v xs:=by assumption)(hes:r.es=es:=by exact rfl)(h0:0≤n:=by first|omega|(simp;omega))(hn:n<xs.length:=by first|omega|(simp;omega)):Q0 P (⟨none, .idx d es x y⟩::l) Q ρ w:=gd hx hy hK hes h0 hn h
theorem za {T d Ty i k b:Nat}{z : List Value}{x y : Operand}{css : List (List Value)}{a : α}(hel : N6 P Ts = some (T, es, nb, z))(hts : ∃ e2, P.underlying Ts2 = some (.slice e2))(hS : St c w L)(h : ∀ v' w' css', r.ls c css' (xs ++ [a]) → oneC v' = true → St c w' (L.set i (Go.Lir.sl T es v' css')) → Q0 P l Q (upd ρ d v') w')(hx : ρ.ev x = v := by (conv => lhs; whnf); first | done | exact rfl)(hy : ρ.ev y = .slice (some ⟨b, 0, none⟩) 1 1 := by (conv => lhs; whnf); first | done | exact rfl)(hi : nth L i = some (Go.Lir.sl T es v css) := by exact F3 (by repeat constructor))(hk : nth L k = some (blk b T' ds) := by exact F3 (by repeat constructor))(hls : r.ls c css xs := by assumption)(ha : r.at c ds a := by first | assumption | exact rfl)(hes : r.es = es := by exact rfl)(hb : (xs.length + 1) * nb ≤ 140737488355328 := by first | omega | (simp only [GM]; omega) | (simp; omega)): Q0 P (⟨none, .raw ⟨some d, .call ⟨.builtin .append, #[x, y], #[Ts, Ts2]⟩, Ty, "", #[], none⟩⟩ :: l) Q ρ w := Yf hel hts hS hx hy hi hk hls ha hes hb h
theorem jl {T d Ty i:Nat}{z : List Value}{x y : Operand}{css : List (List Value)}{ys : List α}(hel : N6 P Ts = some (T, es, nb, z))(hts : ∃ e2, P.underlying Ts2 = some (.slice e2))(hS : St c w L)(h : ∀ v' w' css', r.ls c css' (xs ++ ys) → oneC v' = true → St c w' (L.set i (Go.Lir.sl T es v' css')) → Q0 P l Q (upd ρ d v') w')(hx : ρ.ev x = v := by (conv => lhs; whnf); first | done | exact rfl)(hy : ρ.ev y = v2 := by (conv => lhs; whnf); first | done | exact rfl)(hi : nth L i = some (Go.Lir.sl T es v css) := by exact F3 (by repeat constructor))(hls : r.ls c css xs := by assumption)(hK : r.sl c v2 ys := by assumption)(hes : r.es = es := by exact rfl)(hb : (xs.length + ys.length) * nb ≤ 140737488355328 := by first | omega | (simp only [GM]; omega) | (simp; omega)): Q0 P (⟨none, .raw ⟨some d, .call ⟨.builtin .append, #[x, y], #[Ts, Ts2]⟩, Ty, "", #[], none⟩⟩ :: l) Q ρ w := Yg hel hts hS hx hy hi hls hK hes hb h
def aP (ρ:La)(ts:List Nat):List (Nat×Value):=ts.map fun t=>(t,ρ t)
theorem jm (ρ:La):aP ρ []=[]:=rfl
theorem jn {t:Nat}{ts:List Nat}{u:Value}(h:ρ t=u)(h2:aP ρ ts=A):aP ρ (t::ts)=(t,u)::A:=by subst h h2;rfl
theorem zh (h:KR ρ A:=by repeat' (first|exact trivial|refine And.intro rfl ?_)):KR ρ A:=h
theorem KS {B:List (Nat×Value)}(h:KR ρ A)(h2:KR ρ B):∃ρ',ρ=SV (SV ρ' B) A:=⟨ρ,by rw [nH h2,nH h]⟩
theorem zo {a:LC}(ts:List Nat)(I:List (Nat×Value)→La→World→Prop)(μ:La→World→Nat)(h0:I A ρ w)(h:∀ρ w,I A ρ w→a.wp P (Qr (fun ρ' w'=>I A ρ' w'∧μ ρ' w'<μ ρ w) Q) ρ w)(hA:aP ρ ts=A:=by (repeat (apply jn;· ((conv=>lhs;whnf);first|done|exact rfl)));exact jm _):(LC.loop a).wp P Q ρ w:=ik (I A) μ h0 h
theorem zM {a b:LC}(ts:List Nat)(I:List (Nat×Value)→La→World→Prop)(ha:a.wp P (Qr (I A) Q) ρ w)(hb:∀ρ w,I A ρ w→b.wp P Q ρ w)(hA:aP ρ ts=A:=by (repeat (apply jn;· ((conv=>lhs;whnf);first|done|exact rfl)));exact jm _):(LC.seq a b).wp P Q ρ w:=Sa (I A) ha hb
theorem Mx {a:LC}(hS:St c w L)(ts:List Nat)(I:List (Nat×Value)→List Res→La→World→Prop)(μ:La→World→Nat)(h0:I A L ρ w)(h:∀ρ w,I A L ρ w→a.wp P (Qr (fun ρ' w'=>I A L ρ' w'∧μ ρ' w'<μ ρ w) Q) ρ w)(hA:aP ρ ts=A:=by (repeat (apply jn;· ((conv=>lhs;whnf);first|done|exact rfl)));exact jm _):(LC.loop a).wp P Q ρ w:=ik (I A L) μ h0 h
theorem Rx {a b:LC}(hS:St c w L)(ts:List Nat)(I:List (Nat×Value)→List Res→La→World→Prop)(ha:a.wp P (Qr (I A L) Q) ρ w)(hb:∀ρ w,I A L ρ w→b.wp P Q ρ w)(hA:aP ρ ts=A:=by (repeat (apply jn;· ((conv=>lhs;whnf);first|done|exact rfl)));exact jm _):(LC.seq a b).wp P Q ρ w:=Sa (I A L) ha hb
theorem Rh {l:List GO}(hS:St c w L)(n:Nat)(ts:List Nat)(I:List (Nat×Value)→List Res→La→World→Prop)(ha:Q0 P (l.take n) (Qr (I A L) Q) ρ w)(hb:∀ρ w,I A L ρ w→Q0 P (l.drop n) Q ρ w)(hA:aP ρ ts=A:=by (repeat (apply jn;· ((conv=>lhs;whnf);first|done|exact rfl)));exact jm _):Q0 P l Q ρ w:=iT n (I A L) ha hb
theorem St.sp {L':List Res}(h:St c w L)(e:SubP L' L:=by (repeat constructor);first|done|fail):St c w L':=h.subP e
theorem fd {r':Res}(h:NthP L i r':=by repeat constructor):nth L i=some r':=h.nth
theorem vw {a b:Value}(h:a=b:=by (conv=>lhs;whnf);first|done|exact rfl):a=b:=h
theorem St.p3 {L1 L2 L3:List Res}{r1 r2 r3:Res}(h:St c w L)(p1:Pick L r1 L1:=by repeat constructor)(p2:Pick L1 r2 L2:=by repeat constructor)(p3:Pick L2 r3 L3:=by repeat constructor):St c w (r1::r2::r3::L3):=h.pick3 p1 p2 p3
end
end
end Go.Lir
