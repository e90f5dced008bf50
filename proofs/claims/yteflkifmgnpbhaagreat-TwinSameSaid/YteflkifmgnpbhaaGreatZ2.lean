
/- Lemmas of the proof, part 2: what the functions of the program do (contracts), and what follows. -/
import Derived.Test.YteflkifmgnpbhaaGreatZ1
import Derived.Test.YteflkifmgnpbhaaGreatProg
import Derived.Laws.IdiomStrings
import Derived.Recover
open Go Go.Lir
variable {α Hd β:Type}{H H':KL}{T e T' U:TypeId}{es t b m j l' h' Ts Ts2 nb fuel off o0 n0 o1 n1 o2 n2 o3 n3:Nat}{v v2 u0 u1 u2 u3 v1 v3 v4 v0:Value}{F G K K':Nat→Prop}{css css' css2:List (List Value)}{w w0 w':World}{f:FuncId}{k:IntKind}{cs us cs' ds args cap:List Value}{lo mx:Option Operand}{xs:List Bool}{S:Value→World→Prop}{x0 x1 x2 x3 x4:Operand}{a:Int}{R:Ending→World→Prop}{P:Program}{l2 ys ops l1:List α}{os:List Operand}{ch:List PanicEntry}{rs:List ResultVar}{D:TypeDesc}{Q:List Deferred→QT}{fn:Func}{ms:Array (String×TypeId)}{A:List (Nat×Value)}{gs:List GO}{ws:List Int}
set_option linter.unusedVariables false
set_option linter.unusedSimpArgs false
set_option maxHeartbeats 1000000
namespace Go.Lir
section
variable {p:Prop}
theorem De (h:p:=by (conv=>lhs;whnf);first|done|exact rfl):p:=h
theorem Dl (h:p:=by simp [oneC]):p:=h
theorem Dv (h:p:=by rw [ZT];omega):p:=h
theorem Dz (h:p:=by simpa using h):p:=h
theorem DN (h:p:=by rw [h.1];exact hm):p:=h
theorem DT (h:p:=by rw [Fb];exact ok.len):p:=h
theorem Eu (h:p:=by rw [ZT];exact hk):p:=h
theorem EJ (h:p:=by rw [Fb,Gl];rfl):p:=h
theorem EL (h:p:=by have:=hf3.size;have:=hf4.size;omega):p:=h
end
end Go.Lir
namespace Go.Lir
section
variable {p:Prop}
theorem AS (h:p:=by exact ⟨_,rfl,rfl,rfl⟩):p:=h
theorem B4 (h:p:=by exact ⟨b,_,_,_,_,⟨rfl,rfl,rfl,trivial⟩,hblk,hw,ht,hb3,hf,fun (h:b=_)=>by omega,fun (h:b=_)=>by omega,fun x (h:x=_) (h':x=_)=>by omega,Jo,fun (h:b3=_)=>by omega,fun (h:b3=_)=>by omega,Jo,fun x (h:x=_)=>by omega,fun x (h:x=_)=>by omega⟩):p:=h
theorem Co (h:p:=by exact ⟨⟨x.1,x.2.1,x.2.2.1,x.2.2.2.1⟩,_,_,_,rfl,s1,s2,s3⟩):p:=h
theorem Cq (h:p:=by exact mB (fun ρ w h=>nz h) (fun e ρ w hn h=>by cases e<;>first|exact h|exact absurd rfl hn) h):p:=h
theorem Cw (h:p:=by exact (hd ▸ ll hr.2.1 ds _ _ h:Leaves P fn a.tmps R a.defers .returning w)):p:=h
end
end Go.Lir
namespace Go.Lir
section

structure Res where
 A:KL→(Nat→Prop)→Prop
 loc:∀{H H':KL}{F:Nat→Prop},A H F→(∀b,F b→b<H.size→H'[b]?=H[b]?)→A H' F
 lt:∀{H:KL}{F:Nat→Prop},A H F→∀b,F b→b<H.size
 ext:∀{H:KL}{F G:Nat→Prop},A H F→(∀b,F b↔G b)→A H G

def emp:Res:=⟨fun _ F=>∀b,¬F b,fun h _=>h,fun h b hb=>absurd hb (h b),fun h e b hb=>h b ((e b).2 hb)⟩
def star (r s:Res):Res where
 A H F:=∃F1 F2,r.A H F1∧s.A H F2∧(∀b,F1 b→¬F2 b)∧∀b,F b↔F1 b∨F2 b
 loc:=by
  rintro H H' F ⟨F1,F2,h1,h2,h3,h4⟩ h;exact ⟨F1,F2,r.loc h1 fun b hb=>h b ((h4 b).2 (.inl hb)),s.loc h2 fun b hb=>h b ((h4 b).2 (.inr hb)),h3,h4⟩
 lt:=by
  rintro H F ⟨F1,F2,h1,h2,h3,h4⟩ b hb;exact ((h4 b).1 hb).elim (r.lt h1 b) (s.lt h2 b)
 ext:=by
  rintro H F G ⟨F1,F2,h1,h2,h3,h4⟩ h;exact ⟨F1,F2,h1,h2,h3,fun b=>(h b).symm.trans (h4 b)⟩
def Res.ex {α:Type}(f:α→Res):Res where
 A H F:=∃x,(f x).A H F
 loc:=by rintro H H' F ⟨x,h⟩ h';exact ⟨x,(f x).loc h h'⟩
 lt:=by rintro H F ⟨x,h⟩ b hb;exact (f x).lt h b hb
 ext:=by rintro H F G ⟨x,h⟩ h';exact ⟨x,(f x).ext h h'⟩
def Res.pure (p:Prop)(r:Res):Res where
 A H F:=p∧r.A H F
 loc:=by rintro H H' F ⟨x,h⟩ h';exact ⟨x,r.loc h h'⟩
 lt:=by rintro H F ⟨x,h⟩ b hb;exact r.lt h b hb
 ext:=by rintro H F G ⟨x,h⟩ h';exact ⟨x,r.ext h h'⟩
def blk (b:Nat)(T:TypeId)(cs:List Value):Res where
 A H F:=Lj H b T cs∧∀x,F x↔x=b
 loc:=by rintro H H' F ⟨h,hf⟩ h';exact ⟨h.of_same (h' b ((hf b).2 rfl) h.lt),hf⟩
 lt:=by rintro H F ⟨h,hf⟩ x hx;rw [(hf x).1 hx];exact h.lt
 ext:=by rintro H F G ⟨h,hf⟩ h';exact ⟨h,fun x=>(h' x).symm.trans (hf x)⟩
theorem Sl.ext (h:Sl H T es v F css)(he:∀b,F b↔G b):Sl H T es v G css:=by
 obtain ⟨h0,⟨h1,h2,h3⟩|⟨b,off,cap,arr,h1,h2,hb,h3,h4,hf⟩⟩:=h
 · exact ⟨h0, .inl ⟨h1,h2,fun b hb=>h3 b ((he b).2 hb)⟩⟩
 · exact ⟨h0, .inr ⟨b,off,cap,arr,h1,h2,hb,h3,h4,fun x=>(he x).symm.trans (hf x)⟩⟩
def sl (T:TypeId)(es:Nat)(v:Value)(css:List (List Value)):Res where
 A H F:=Sl H T es v F css
 loc h h':=h.of_same h'
 lt h:=h.lt
 ext h h':=h.ext h'

def Ri:List Res→Res
 | []=>emp
 | r::L=>star r (Ri L)

theorem xd {r s t:Res}(h:(star r (star s t)).A H F):(star s (star r t)).A H F:=by
 obtain ⟨F1,F2,h1,⟨G1,G2,g1,g2,g3,g4⟩,h3,h4⟩:=h;refine ⟨G1,fun b=>F1 b∨G2 b,g1,⟨F1,G2,h1,g2,fun b hb hg=>h3 b hb ((g4 b).2 (.inr hg)),fun b=>Hl⟩,?_,?_⟩
 · rintro b hb (h|h)
   · exact h3 b h ((g4 b).2 (.inl hb))
   · exact g3 b hb h
 · intro b;rw [h4 b,g4 b]
   constructor
   · rintro (h|h|h);exact .inr (.inl h);exact .inl h;exact .inr (.inr h)
   · rintro (h|h|h);exact .inr (.inl h);exact .inl h;exact .inr (.inr h)
theorem xe {L L':List Res}(hp:L.Perm L'):∀{H:KL}{F:Nat→Prop},(Ri L).A H F→(Ri L').A H F:=by
 induction hp with
 | nil=>intro H F h;exact h
 | cons r _ ih=>rintro H F ⟨F1,F2,h1,h2,h3,h4⟩;exact ⟨F1,F2,h1,ih h2,h3,h4⟩
 | swap r s t=>intro H F h;exact xd h
 | trans _ _ ih1 ih2=>intro H F h;exact ih2 (ih1 h)

structure Cx where
 base:World
 K:Nat→Prop
 H0:KL

structure Cx.Ok (c:Cx) (w:World):Prop where
 os:w.os=c.base.os
 tape:w.tape=c.base.tape
 output:w.output=c.base.output
 size:c.H0.size≤w.heap.size
 lt:∀b,c.K b→b<c.H0.size
 same:∀b,c.K b→w.heap[b]?=c.H0[b]?

def St (c:Cx)(w:World)(L:List Res):Prop:=c.Ok w∧∃F,(Ri L).A w.heap F∧∀b,F b→¬c.K b

structure Cx.Le (c c':Cx):Prop where
 base:c'.base=c.base
 K:∀b,c.K b→c'.K b∧c'.H0[b]?=c.H0[b]?
 size:c.H0.size≤c'.H0.size
 lt:∀b,c.K b→b<c.H0.size
theorem Cx.Ok.refl {c:Cx}(h:c.Ok w):c.Le c:=⟨rfl,fun _ hb=>⟨hb,rfl⟩,FE _,h.lt⟩
theorem St.refl {c:Cx}{L:List Res}(h:St c w L):c.Le c:=h.1.refl
abbrev FV:=@St.refl
theorem Cx.Le.trans {c c' c'':Cx}(h:c.Le c')(k:c'.Le c''):c.Le c'':=
 ⟨k.base.trans h.base,fun b hb=>⟨(k.K b (h.K b hb).1).1,(k.K b (h.K b hb).1).2.trans (h.K b hb).2⟩,GL h.size k.size,h.lt⟩
theorem St.weak {c c':Cx}{L:List Res}(h:St c' w L)(hle:c.Le c'):St c w L:=by
 obtain ⟨ok,F,hF,hd⟩:=h;exact ⟨⟨by rw [ok.os,hle.base],by rw [ok.tape,hle.base],by rw [ok.output,hle.base],GL hle.size ok.size,hle.lt,fun b hb=>(ok.same b (hle.K b hb).1).trans (hle.K b hb).2⟩,F,hF,fun b hb hk=>hd b hb (hle.K b hk).1⟩

abbrev Gx:=@St.weak
theorem St.perm {c:Cx}{L L':List Res}(h:St c w L)(hp:L.Perm L'):St c w L':=by
 obtain ⟨ok,F,hF,hd⟩:=h;exact ⟨ok,F,xe hp hF,hd⟩
theorem St.drop {c:Cx}{r:Res}{L:List Res}(h:St c w (r::L)):St c w L:=by
 obtain ⟨ok,F,⟨F1,F2,h1,h2,h3,h4⟩,hd⟩:=h;exact ⟨ok,F2,h2,fun b hb=>hd b ((h4 b).2 (.inr hb))⟩
theorem St.dropL {c:Cx}{M L:List Res}(h:St c w (M++L)):St c w L:=by
 induction M with
 | nil=>exact h
 | cons r M ih=>exact ih h.drop

def nth:List Res→Nat→Option Res
 | [],_=>none
 | r::_,0=>some r
 | _::L,i+1=>nth L i
theorem SL:∀{L:List Res}{i:Nat}{r:Res},nth L i=some r→L.Perm (r::L.eraseIdx i)
 | [],_,_,h=>by cases h
 | s::L,0,r,h=>by simp only [nth,Fq] at h;subst h;exact .refl _
 | s::L,i+1,r,h=>by
   have:=SL (L:=L) (i:=i) h;exact (this.cons s).trans (.swap _ _ _)
theorem iu:∀{L:List Res}{i:Nat}{r r':Res},nth L i=some r→(r'::L.eraseIdx i).Perm (L.set i r')
 | [],_,_,_,h=>by cases h
 | s::L,0,r,r',h=> .refl _
 | s::L,i+1,r,r',h=>(List.Perm.swap _ _ _).trans ((iu (L:=L) (i:=i) h).cons s)
section
variable {a b c d e f g h i j k m:Res}{L:List Res}
theorem KU:nth (a::L) 0=some a:=rfl
theorem NX:nth (a::b::L) 1=some b:=rfl
theorem Ni:nth (a::b::c::L) 2=some c:=rfl
end
inductive NthP:List Res→Nat→Res→Prop where
 | z {r:Res}{L:List Res}:NthP (r::L) 0 r
 | s {a r:Res}{L:List Res}{i:Nat}:NthP L i r→NthP (a::L) (i+1) r
theorem NthP.nth {L:List Res}{i:Nat}{r:Res}(h:NthP L i r):nth L i=some r:=by
 induction h with
 | z=>rfl
 | s _ ih=>exact ih
abbrev FB:=@NthP.nth
inductive Pick:List Res→Res→List Res→Prop where
 | z {r:Res}{L:List Res}:Pick (r::L) r L
 | s {a r:Res}{L L':List Res}:Pick L r L'→Pick (a::L) r (a::L')
theorem Pick.perm {L L':List Res}{r:Res}(h:Pick L r L'):L.Perm (r::L'):=by
 induction h with
 | z=>exact .refl _
 | s _ ih=>exact (ih.cons _).trans (.swap _ _ _)
inductive SubP:List Res→List Res→Prop where
 | same {L:List Res}:SubP L L
 | nil {L:List Res}:SubP [] L
 | take {r:Res}{M L L':List Res}:Pick L r L'→SubP M L'→SubP (r::M) L
 | cut {a:Res}{M L:List Res}:SubP M L→SubP M (a::L)
section
variable {a b c d e f g h i j k m:Res}{L:List Res}{C:Cx}{w:World}
theorem St.mv1 (h:St C w (a::b::L)):St C w (b::a::L):=h.perm (SL (i:=1) rfl)
theorem St.mv2 (h:St C w (a::b::c::L)):St C w (c::a::b::L):=h.perm (SL (i:=2) rfl)
theorem St.mv3 (h:St C w (a::b::c::d::L)):St C w (d::a::b::c::L):=h.perm (SL (i:=3) rfl)
theorem St.mv4 (h:St C w (a::b::c::d::e::L)):St C w (e::a::b::c::d::L):=h.perm (SL (i:=4) rfl)
theorem St.mv5 (h:St C w (a::b::c::d::e::f::L)):St C w (f::a::b::c::d::e::L):=h.perm (SL (i:=5) rfl)
end
def M8 (L' L:List Res):Prop:=∃M,L.Perm (L'++M)
theorem St.sub {c:Cx}{L L':List Res}(h:St c w L)(hs:M8 L' L):St c w L':=by
 obtain ⟨M,hp⟩:=hs;exact ((h.perm hp).perm Ii).dropL
theorem SubP.sub {L L':List Res}(h:SubP L' L):∃M,L.Perm (L'++M):=by
 induction h with
 | same=>exact ⟨[],by rw [Gk]⟩
 | nil=>exact ⟨_, .refl _⟩
 | take hp _ ih=>obtain ⟨M,hm⟩:=ih;exact ⟨M,hp.perm.trans (hm.cons _)⟩
 | cut _ ih=>obtain ⟨M,hm⟩:=ih;exact ⟨_::M,(hm.cons _).trans Hj.symm⟩
theorem St.subP {c:Cx}{L L':List Res}(h:St c w L)(hs:SubP L' L):St c w L':=h.sub hs.sub
theorem M8.same (L:List Res):M8 L L:=⟨[],by rw [Gk]⟩
theorem M8.nil (L:List Res):M8 [] L:=⟨L, .refl _⟩
theorem M8.cut {r:Res}{L' L:List Res}(h:M8 L' L):M8 L' (r::L):=by
 obtain ⟨M,hp⟩:=h;exact ⟨r::M,(hp.cons r).trans Hj.symm⟩
theorem M8.take {L' L:List Res}(i:Nat){r:Res}(hi:nth L i=some r)(h:M8 L' (L.eraseIdx i)):M8 (r::L') L:=by
 obtain ⟨M,hp⟩:=h;exact ⟨M,(SL hi).trans (hp.cons r)⟩
section
variable {a b c d e f g h i j k m r:Res}{L L':List Res}
theorem M8.t0 {H:M8 L' L}:M8 (r::L') (r::L):= .take 0 rfl H
theorem M8.t1 {H:M8 L' (a::L)}:M8 (r::L') (a::r::L):= .take 1 rfl H
theorem M8.t2 {H:M8 L' (a::b::L)}:M8 (r::L') (a::b::r::L):= .take 2 rfl H
theorem M8.t3 (H:M8 L' (a::b::c::L)):M8 (r::L') (a::b::c::r::L):= .take 3 rfl H
theorem M8.t4 (H:M8 L' (a::b::c::d::L)):M8 (r::L') (a::b::c::d::r::L):= .take 4 rfl H
end

section
variable {c c':Cx}{w w':World}{L:List Res}
theorem St.ok (h:St c w L):c.Ok w:=h.1
theorem St.step {i:Nat}{r:Res}(h:St c w L)(hi:nth L i=some r):∃F,r.A w.heap F∧(∀b,F b→¬c.K b)∧∀w' F' r',r'.A w'.heap F'→Step F F' w w'→St c w' (L.set i r'):=by
 obtain ⟨ok,F,⟨F1,F2,h1,h2,h3,h4⟩,hd⟩:=h.perm (SL hi);refine ⟨F1,h1,fun b hb=>hd b ((h4 b).2 (.inl hb)),fun w' F' r' hr hs=>St.perm ?_ (iu hi)⟩;have hf:=hs.fr;refine ⟨⟨hf.os.trans ok.os,hf.tape.trans ok.tape,hf.output.trans ok.output,GL ok.size hf.size,ok.lt,fun b hb=>?_⟩,fun b=>F' b∨F2 b,⟨F',F2,hr,?_,?_,fun b=>Hl⟩,?_⟩
 · exact (hf.same b (G7 (ok.lt b hb) ok.size) fun hF=>hd b ((h4 b).2 (.inl hF)) hb).trans (ok.same b hb)
 · exact (Ri _).loc h2 fun b hb hlt=>hf.same b hlt fun hF=>h3 b hF hb
 · intro b hb hb2;exact (hs.sub b hb).elim (fun h=>h3 b h hb2) (fun h=>absurd ((Ri _).lt h2 b hb2) Jo)
 · rintro b (hb|hb) hk
   · exact (hs.sub b hb).elim (fun h=>hd b ((h4 b).2 (.inl h)) hk) (fun h=>absurd (ok.lt b hk) (by have:=ok.size;omega))
   · exact hd b ((h4 b).2 (.inr hb)) hk
theorem St.fr0 (h:St c w L)(hf:Fr NF w w'):St c w' L:=by
 obtain ⟨ok,F,hF,hd⟩:=h;exact ⟨⟨hf.os.trans ok.os,hf.tape.trans ok.tape,hf.output.trans ok.output,GL ok.size hf.size,ok.lt,fun b hb=>(hf.same b (G7 (ok.lt b hb) ok.size) fun h=>h).trans (ok.same b hb)⟩,F,(Ri _).loc hF fun b _ hlt=>hf.same b hlt fun h=>h,hd⟩
theorem St.new {r:Res}{F':Nat→Prop}(h:St c w L)(hr:r.A w'.heap F')(hf:Fr NF w w')(hn:∀b,F' b→w.heap.size≤b):St c w' (r::L):=by
 obtain ⟨ok,F,hF,hd⟩:=h;refine ⟨(St.fr0 ⟨ok,F,hF,hd⟩ hf).1,fun b=>F' b∨F b,⟨F',F,hr,(Ri _).loc hF fun b _ hlt=>hf.same b hlt fun h=>h,fun b hb hb2=>absurd ((Ri _).lt hF b hb2) (by have:=hn b hb;omega),fun b=>Hl⟩,?_⟩;rintro b (hb|hb) hk
 · exact absurd (ok.lt b hk) (by have:=ok.size;have:=hn b hb;omega)
 · exact hd b hb hk
theorem St.emp {r:Res}(h:St c w L)(hr:r.A w.heap NF):St c w (r::L):=h.new hr (HN _ _) fun _ h=>h.elim
theorem St.nil (h:St c w L):St c w (sl T es (.slice none 0 0) []::L):=h.emp (Sl.nil _ _ _)
abbrev Hp:=@St.nil
theorem St.drew (h:St c w L):St c w.drew L:=h.fr0 (JM (HN _ _))
theorem St.res {i:Nat}{r:Res}(h:St c w L)(hi:nth L i=some r):∃F,r.A w.heap F:=by
 obtain ⟨F,h1,_⟩:=h.step hi;exact ⟨F,h1⟩
theorem St.freeze {r:Res}(h:St c w (r::L)):∃c' F,c.Le c'∧St c' w L∧r.A c'.H0 F∧∀b,F b→c'.K b:=by
 obtain ⟨ok,F,⟨F1,F2,h1,h2,h3,h4⟩,hd⟩:=h;refine ⟨⟨c.base,fun b=>c.K b∨F1 b,w.heap⟩,F1,⟨rfl,fun b hb=>⟨.inl hb,ok.same b hb⟩,ok.size,ok.lt⟩,⟨⟨ok.os,ok.tape,ok.output,FE _,fun b hb=>hb.elim (fun hb=>G7 (ok.lt b hb) ok.size) (r.lt h1 b),fun b _=>rfl⟩,F2,h2,?_⟩,h1,fun b hb=> .inr hb⟩;rintro b hb (hk|hk)
 · exact hd b ((h4 b).2 (.inr hb)) hk
 · exact h3 b hk hb
theorem St.ex {f:α→Res}(h:St c w (Res.ex f::L)):∃x,St c w (f x::L):=by
 obtain ⟨ok,F,⟨F1,F2,⟨x,h1⟩,h2,h3,h4⟩,hd⟩:=h;exact ⟨x,ok,F,⟨F1,F2,h1,h2,h3,h4⟩,hd⟩
theorem St.ex' {f:α→Res}(x:α)(h:St c w (f x::L)):St c w (Res.ex f::L):=by
 obtain ⟨ok,F,⟨F1,F2,h1,h2,h3,h4⟩,hd⟩:=h;exact ⟨ok,F,⟨F1,F2,⟨x,h1⟩,h2,h3,h4⟩,hd⟩
abbrev J3:=@St.ex'
theorem St.pure {p:Prop}{r:Res}(h:St c w (Res.pure p r::L)):p∧St c w (r::L):=by
 obtain ⟨ok,F,⟨F1,F2,⟨x,h1⟩,h2,h3,h4⟩,hd⟩:=h;exact ⟨x,ok,F,⟨F1,F2,h1,h2,h3,h4⟩,hd⟩
theorem St.pure' {p:Prop}{r:Res}(x:p)(h:St c w (r::L)):St c w (Res.pure p r::L):=by
 obtain ⟨ok,F,⟨F1,F2,h1,h2,h3,h4⟩,hd⟩:=h;exact ⟨ok,F,⟨F1,F2,⟨x,h1⟩,h2,h3,h4⟩,hd⟩
theorem xf {r s t:Res}(h:(star (star r s) t).A H F):(star r (star s t)).A H F:=by
 obtain ⟨F1,F2,⟨G1,G2,g1,g2,g3,g4⟩,h2,h3,h4⟩:=h;refine ⟨G1,fun b=>G2 b∨F2 b,g1,⟨G2,F2,g2,h2,fun b hb=>h3 b ((g4 b).2 (.inr hb)),fun b=>Hl⟩,?_,fun b=>?_⟩
 · rintro b hb (h|h)
   · exact g3 b hb h
   · exact h3 b ((g4 b).2 (.inl hb)) h
 · rw [h4 b,g4 b,or_assoc]
theorem xg {r s t:Res}(h:(star r (star s t)).A H F):(star (star r s) t).A H F:=by
 obtain ⟨F1,F2,h1,⟨G1,G2,g1,g2,g3,g4⟩,h3,h4⟩:=h;refine ⟨fun b=>F1 b∨G1 b,G2,⟨F1,G1,h1,g1,fun b hb hg=>h3 b hb ((g4 b).2 (.inl hg)),fun b=>Hl⟩,g2,?_,fun b=>?_⟩
 · rintro b (hb|hb) hg
   · exact h3 b hb ((g4 b).2 (.inr hg))
   · exact g3 b hb hg
 · rw [h4 b,g4 b,or_assoc]
theorem St.star {r s:Res}(h:St c w (star r s::L)):St c w (r::s::L):=by
 obtain ⟨ok,F,h,hd⟩:=h;exact ⟨ok,F,xf h,hd⟩
abbrev Jx:=@St.star
theorem St.star' {r s:Res}(h:St c w (r::s::L)):St c w (Go.Lir.star r s::L):=by
 obtain ⟨ok,F,h,hd⟩:=h;exact ⟨ok,F,xg h,hd⟩
abbrev HF:=@St.star'
theorem St.imp {r r':Res}(h:St c w (r::L))(hi:∀H F,r.A H F→r'.A H F):St c w (r'::L):=by
 obtain ⟨ok,F,⟨F1,F2,h1,h2,h3,h4⟩,hd⟩:=h;exact ⟨ok,F,⟨F1,F2,hi _ _ h1,h2,h3,h4⟩,hd⟩
theorem St.out {i:Nat}{r:Res}(h:St c w L)(hi:nth L i=some r):St c w (r::L.eraseIdx i):=h.perm (SL hi)
theorem St.back {i:Nat}{r r':Res}(h:St c w (r'::L.eraseIdx i))(hi:nth L i=some r):St c w (L.set i r'):=h.perm (iu hi)
abbrev Gn:=@St.back
theorem St.back0 {i:Nat}{r:Res}(h:St c w (r::L.eraseIdx i))(hi:nth L i=some r):St c w L:=h.perm (SL hi).symm
abbrev FK:=@St.back0
theorem St.list:∀{M L:List Res},St c w (Ri M::L)→St c w (M++L)
 | [],L,h=>h.drop
 | r::M,L,h=>by
   have h1:=St.list (M:=M) (L:=r::L) (St.mv1 (Jx h));exact h1.perm (Hj)
theorem St.list':∀{M L:List Res},St c w (M++L)→St c w (Ri M::L)
 | [],L,h=>h.emp (r:=Go.Lir.emp) fun _ h=>h
 | r::M,L,h=>by
   have h1:St c w (M++r::L):=h.perm (Hj.symm);exact (St.mv1 (St.list' h1)).star'
abbrev I3:=@St.list'
def K3 {α:Type}(f:α→Res)(l:List α):Res:=Ri (l.map f)
theorem nA {α β:Type}(f:α→β):∀(l:List α) (k:Nat),(l.eraseIdx k).map f=(l.map f).eraseIdx k
 | [],_=>rfl
 | _::_,0=>rfl
 | x::l,k+1=>by simp only [Jn,Gy,nA f l k]
theorem nB {α:Type}(f:α→Res):∀{l:List α}{k:Nat}{x:α},l[k]?=some x→nth (l.map f) k=some (f x)
 | [],_,_,h=>by simp at h
 | y::l,0,x,h=>by simp at h;subst h;rfl
 | y::l,k+1,x,h=>nB f (l:=l) Dz
theorem St.bigOut {f:α→Res}{l:List α}{i k:Nat}{x:α}(h:St c w L)(hi:nth L i=some (K3 f l))(hk:l[k]?=some x):St c w (f x::L.set i (K3 f (l.eraseIdx k))):=by
 have h1:St c w (l.map f++L.eraseIdx i):=(h.out hi).list;have h2:St c w ((f x::(l.map f).eraseIdx k)++L.eraseIdx i):=h1.perm ((SL (nB f hk)).append_right _);rw [←nA] at h2;have h3:St c w ((l.eraseIdx k).map f++f x::L.eraseIdx i):=h2.perm Hj.symm;have h4:St c w (K3 f (l.eraseIdx k)::f x::L.eraseIdx i):=h3.list';exact h4.mv1.perm ((iu hi).cons _)
theorem St.bigIn {f:α→Res}{l:List α}{i k:Nat}{x':α}(h:St c w (f x'::L))(hi:nth L i=some (K3 f (l.eraseIdx k)))(hk:k<l.length):St c w (L.set i (K3 f (l.set k x'))):=by
 have h1:St c w (K3 f (l.eraseIdx k)::f x'::L.eraseIdx i):=((h.perm ((SL hi).cons _)):St c w (f x'::K3 f (l.eraseIdx k)::L.eraseIdx i)).mv1;have h2:St c w ((l.eraseIdx k).map f++f x'::L.eraseIdx i):=h1.list;rw [nA] at h2;have h3:St c w (f x'::(l.map f).eraseIdx k++L.eraseIdx i):=h2.perm Hj;have hx:nth (l.map f) k=some (f (l[k]'hk)):=nB f (E7 hk);have h4:St c w ((l.map f).set k (f x')++L.eraseIdx i):=h3.perm ((iu hx).append_right _);rw [←GA] at h4;exact (I3 h4:St c w (K3 f (l.set k x')::L.eraseIdx i)).back hi
abbrev H8:=@St.bigIn
theorem fF {l:List α}{k:Nat}{x:α}(h:l[k]?=some x):l.set k x=l:=by
 apply GY;intro j;rw [Gz];split
 · rename_i e;subst e;rw [if_pos (E8.1 h).1,h]
 · rfl

def Cx.top (w:World):Cx:=⟨w,(· < w.heap.size),w.heap⟩
theorem St.top (w:World):St (Cx.top w) w []:=⟨⟨rfl,rfl,rfl,FE _,fun _ h=>h,fun _ _=>rfl⟩,NF,fun _ h=>h,fun _ h=>h.elim⟩
theorem St.fr (h:St (Cx.top w0) w L):Fr NF w0 w:=⟨h.1.os,h.1.tape,h.1.output,h.1.size,fun b hb _=>h.1.same b hb⟩
end

abbrev NQ (c:Cx)(es:Nat)(v:Value)(css:List (List Value)):Prop:=Mx c.H0 es v c.K css
def OL (c:Cx)(b o:Nat)(cs:List Value):Prop:=c.K b∧At c.H0 b o cs
theorem OL.up {c c':Cx}{o:Nat}(h:OL c b o cs)(hle:c.Le c'):OL c' b o cs:=⟨(hle.K b h.1).1,h.2.of_same (hle.K b h.1).2⟩
theorem NQ.up {c c':Cx}(h:NQ c es v css)(hle:c.Le c'):NQ c' es v css:=by
 obtain ⟨h0,a,cap,hv,hlc,hc|⟨b,off,ha,hF,hb,hat⟩⟩:=h
 · exact Bi
 · exact ⟨h0,a,cap,hv,hlc, .inr ⟨b,off,ha,(hle.K b hF).1,G7 hb hle.size,fun m c hm=>(hat m c hm).of_same (hle.K b hF).2⟩⟩
theorem NQ.now {c:Cx}{L:List Res}(h:NQ c es v css)(hS:St c w L):Mx w.heap es v c.K css:=
 Mx.of_same h fun b hb _=>hS.1.same b hb
theorem OL.now {c:Cx}{L:List Res}{o:Nat}(h:OL c b o cs)(hS:St c w L):At w.heap b o cs:=h.2.of_same (hS.1.same b h.1)
theorem NQ.top (h:Mx w.heap es v (fun _=>True) css):NQ (Cx.top w) es v css:=IC h fun _ hb _=>hb
theorem NQ.nil (c:Cx)(es:Nat):NQ c es (.slice none 0 0) []:=⟨by simp,none,0,rfl,FE _, .inl rfl⟩
theorem St.freezeS {c:Cx}{L:List Res}{T:TypeId}{es:Nat}{v:Value}{css:List (List Value)}(h:St c w (sl T es v css::L)):∃c',c.Le c'∧St c' w L∧NQ c' es v css:=by
 obtain ⟨c',F,h1,h2,h3,h4⟩:=h.freeze;exact ⟨c',h1,h2,IC (Sl.toR h3) fun b _ hb=>h4 b hb⟩
def Nw (v:Value)(n es m b o:Nat):Prop:=m<n∧∃off cap,v= .slice (some ⟨b,off,none⟩) n cap∧o=off+m*es
theorem Nw.el {n o:Nat}(h:Nw v n es m b o)(hn:css.length=n)(hs:Sl H T es v F css):El H T es v F css m b o:=by
 subst hn;exact ⟨hs,h.1,h.2⟩

section
variable {P:Program}{l:List GO}{Q:QT}{ρ:KI}{w:World}{c:Cx}{L:List Res}{i:Nat}{T es:Nat}{v:Value}{css:List (List Value)}

theorem QX {d:Nat}{x:Operand}{o:Nat}{u:Value}(hS:St c w L)(hx:ρ.ev x= .pointer (some ⟨b,o,none⟩))(hi:nth L i=some (blk b T cs))(hu:cs[o]?=some u)
 (h:Q0 P l Q (upd ρ d u) w):Q0 P (⟨none, .load1 d x⟩::l) Q ρ w:=by
 obtain ⟨F,h1,_⟩:=hS.step hi;exact Ox hx h1.1 hu h
theorem nC {d n:Nat}{x:Operand}{o:Nat}(hS:St c w L)(hx:ρ.ev x= .pointer (some ⟨b,o,none⟩))(hi:nth L i=some (blk b T cs))(hu:(cs.drop o).take n=us)(hl:us.length=n)
 (h:Q0 P l Q (upd ρ d (.agg ⟨us⟩)) w):Q0 P (⟨none, .loadn d n x⟩::l) Q ρ w:=by
 obtain ⟨F,h1,_⟩:=hS.step hi;exact Xm hx h1.1 hu hl h
theorem r6 (h:∀x,F x↔x=b)(hf:Fr (· =b) w w'):Step F F w w':=H7 (hf.into fun x hx=>(h x).2 hx)
theorem r7 {x y:Operand}{o:Nat}{u:Value}(hS:St c w L)(hx:ρ.ev x= .pointer (some ⟨b,o,none⟩))(hy:ρ.ev y=u)(hi:nth L i=some (blk b T cs))(ho:o<cs.length)(h1:oneC u=true)
 (h:∀w',St c w' (L.set i (blk b T (cs.set o u)))→Q0 P l Q ρ w'):Q0 P (⟨none, .store1 x y⟩::l) Q ρ w:=by
 obtain ⟨F,hr,_,hst⟩:=hS.step hi;exact rI hx hy hr.1 ho h1 fun w' hf _ hb=>h w' (hst w' F _ ⟨hb,hr.2⟩ (r6 hr.2 hf))
theorem nD {x y:Operand}{o:Nat}{u:Value}(hS:St c w L)(hx:ρ.ev x= .pointer (some ⟨b,o,none⟩))(hy:ρ.ev y=u)(hi:nth L i=some (blk b T cs))(ho:o<cs.length)(h1:oneC u=true)(hc:cs.set o u=cs')
 (h:∀w',St c w' (L.set i (blk b T cs'))→Q0 P l Q ρ w'):Q0 P (⟨none, .store1 x y⟩::l) Q ρ w:=by subst hc;exact r7 hS hx hy hi ho h1 h
theorem SM {n:Nat}{x y:Operand}{o:Nat}(hS:St c w L)(hx:ρ.ev x= .pointer (some ⟨b,o,none⟩))(hy:ρ.ev y= .agg ⟨us⟩)(hn:us.length=n)(hi:nth L i=some (blk b T cs))(ho:o+n≤cs.length)(h1:∀u∈us,oneC u=true)
 (hc:cs.take o++(us++cs.drop (o+n))=cs')(h:∀w',St c w' (L.set i (blk b T cs'))→Q0 P l Q ρ w'):Q0 P (⟨none, .storen n x y⟩::l) Q ρ w:=by
 subst hc;obtain ⟨F,hr,_,hst⟩:=hS.step hi;exact rJ hx hy hn hr.1 ho h1 fun w' hf _ hb=>h w' (hst w' F _ ⟨hb,hr.2⟩ (r6 hr.2 hf))
theorem St.blkAt (hS:St c w L)(hi:nth L i=some (blk b T cs)):Lj w.heap b T cs:=by
 obtain ⟨F,hr,_⟩:=hS.step hi;exact hr.1
theorem Qd {d:Nat}{z:List Value}(hS:St c w L)(h:∀b w',St c w' (blk b T z::L)→Q0 P l Q (upd ρ d (.pointer (some ⟨b,0,none⟩))) w'):Q0 P (⟨none, .alloc d T z⟩::l) Q ρ w:=
 mY fun b w' hb hf _ hk=>h b w' (hS.new (F':=(· =b)) ⟨hk,fun _=>Hl⟩ hf fun x hx=>by omega)
theorem N9 {d:Nat}{x:Operand}{cs:List Value}(hS:St c w L)(hx:ρ.ev x=v)(hc:v.cells=⟨cs⟩)(h:∀b w',St c w' (blk b T cs::L)→Q0 P l Q (upd ρ d (.pointer (some ⟨b,0,none⟩))) w'):Q0 P (⟨none, .box d T x⟩::l) Q ρ w:=
 np hx hc fun b w' hb hf _ hk=>h b w' (hS.new (F':=(· =b)) ⟨hk,fun _=>Hl⟩ hf fun x hx=>by omega)
theorem St.laid (hS:St c w L)(hb:b=w.heap.size)(hf:Fr NF w w')(hk:Lj w'.heap b T cs):St c w' (blk b T cs::L):=hS.new (F':=(· =b)) ⟨hk,fun _=>Hl⟩ hf fun x hx=>by omega
theorem St.slOf {b n:Nat}{cs:List Value}(hS:St c w (blk b T cs::L))(hf:css.flatten=cs)(hl:∀c∈css,c.length=es)(hn:css.length=n):St c w (sl T es (.slice (some ⟨b,0,none⟩) n n) css::L):=
 hS.imp fun _ _ h=>Sl.ext (IB h.1 hf hl hn) fun x=>(h.2 x).symm

abbrev Gh:=@St.slOf
theorem RI {d m:Nat}{x y:Operand}(hS:St c w L)(hx:ρ.ev x=v)(hy:ρ.ev y= .int k (m:Int))(hi:nth L i=some (sl T es v css))(hm:m<css.length)
 (h:∀b o,Nw v css.length es m b o→Q0 P l Q (upd ρ d (.pointer (some ⟨b,o,none⟩))) w):Q0 P (⟨none, .idx d es x y⟩::l) Q ρ w:=by
 obtain ⟨F,hr,_⟩:=hS.step hi;exact br hx hy hr hm fun b o he=>h b o ⟨he.2,he.3⟩
theorem P5 {d:Nat}{x y:Operand}{n:Int}(hS:St c w L)(hx:ρ.ev x=v)(hy:ρ.ev y= .int k n)(hi:nth L i=some (sl T es v css))(h0:0≤n)(hm:n<css.length)
 (h:∀b o,Nw v css.length es n.toNat b o→Q0 P l Q (upd ρ d (.pointer (some ⟨b,o,none⟩))) w):Q0 P (⟨none, .idx d es x y⟩::l) Q ρ w:=by
 obtain ⟨F,hr,_⟩:=hS.step hi;exact ng hx hy hr h0 hm fun b o he=>h b o ⟨he.2,he.3⟩
theorem bt {d:Nat}{x:Operand}(hS:St c w L)(hx:ρ.ev x=v)(hi:nth L i=some (sl T es v css))(h:Q0 P l Q (upd ρ d (.int .i64 css.length)) w):Q0 P (⟨none, .len d x⟩::l) Q ρ w:=by
 obtain ⟨F,hr,_⟩:=hS.step hi;exact WM hx hr h
theorem Q9 {d n:Nat}{x:Operand}{o:Nat}{u:Value}(hS:St c w L)(he:Nw v n es m b o)(hx:ρ.ev x= .pointer (some ⟨b,o+j,none⟩))(hi:nth L i=some (sl T es v css))(hn:css.length=n)(hc:css[m]?=some cs)(hu:cs[j]?=some u)
 (h:Q0 P l Q (upd ρ d u) w):Q0 P (⟨none, .load1 d x⟩::l) Q ρ w:=by
 obtain ⟨F,hr,_⟩:=hS.step hi;exact Tl hx (he.el hn hr) hc hu h
theorem QF {d n:Nat}{x:Operand}{o:Nat}{u:Value}(hS:St c w L)(he:Nw v n es m b o)(hx:ρ.ev x= .pointer (some ⟨b,o,none⟩))(hi:nth L i=some (sl T es v css))(hn:css.length=n)(hc:css[m]?=some cs)(hu:cs[0]?=some u)
 (h:Q0 P l Q (upd ρ d u) w):Q0 P (⟨none, .load1 d x⟩::l) Q ρ w:=Q9 (j:=0) hS he hx hi hn hc hu h
theorem bu {d n:Nat}{x:Operand}{o:Nat}(hS:St c w L)(he:Nw v n es m b o)(hx:ρ.ev x= .pointer (some ⟨b,o,none⟩))(hi:nth L i=some (sl T es v css))(hn:css.length=n)(hc:css[m]?=some cs)
 (h:Q0 P l Q (upd ρ d (.agg ⟨cs⟩)) w):Q0 P (⟨none, .loadn d es x⟩::l) Q ρ w:=by
 obtain ⟨F,hr,_⟩:=hS.step hi;exact Tm hx (he.el hn hr) hc h
theorem r8 {n:Nat}{x y:Operand}{o:Nat}{u:Value}(hS:St c w L)(he:Nw v n es m b o)(hx:ρ.ev x= .pointer (some ⟨b,o+j,none⟩))(hy:ρ.ev y=u)(hi:nth L i=some (sl T es v css))(hn:css.length=n)(hc:css[m]?=some cs)(hj:j<es)(ho:oneC u=true)
 (h:∀w',St c w' (L.set i (sl T es v (css.set m (cs.set j u))))→Q0 P l Q ρ w'):Q0 P (⟨none, .store1 x y⟩::l) Q ρ w:=by
 obtain ⟨F,hr,_,hst⟩:=hS.step hi;exact rP hx hy (he.el hn hr) hc hj ho fun w' hf _ hk=>h w' (hst w' F _ hk.sl (H7 hf))
theorem ln {n:Nat}{x y:Operand}{o:Nat}{u:Value}(hS:St c w L)(he:Nw v n es m b o)(hx:ρ.ev x= .pointer (some ⟨b,o,none⟩))(hy:ρ.ev y=u)(hi:nth L i=some (sl T es v css))(hn:css.length=n)(hc:css[m]?=some cs)(hj:0<es)(ho:oneC u=true)
 (h:∀w',St c w' (L.set i (sl T es v (css.set m (cs.set 0 u))))→Q0 P l Q ρ w'):Q0 P (⟨none, .store1 x y⟩::l) Q ρ w:=r8 (j:=0) hS he hx hy hi hn hc hj ho h
theorem nE {n:Nat}{x y:Operand}{o:Nat}{k:Nat}(hS:St c w L)(he:Nw v n es m b o)(hx:ρ.ev x= .pointer (some ⟨b,o,none⟩))(hy:ρ.ev y= .agg ⟨us⟩)(hk:us.length=k)(hi:nth L i=some (sl T es v css))(hn:css.length=n)(hc:css[m]?=some cs)(hl:us.length=es)(ho:∀u∈us,oneC u=true)
 (h:∀w',St c w' (L.set i (sl T es v (css.set m us)))→Q0 P l Q ρ w'):Q0 P (⟨none, .storen k x y⟩::l) Q ρ w:=by
 obtain ⟨F,hr,_,hst⟩:=hS.step hi;exact wV hx hy hk (he.el hn hr) hc hl ho fun w' hf _ hk=>h w' (hst w' F _ hk.sl (H7 hf))
theorem SN {n:Nat}{x y:Operand}{o:Nat}{u:Value}(hS:St c w L)(he:Nw v n es m b o)(hx:ρ.ev x= .pointer (some ⟨b,o+j,none⟩))(hy:ρ.ev y=u)(hi:nth L i=some (sl T es v css))(hn:css.length=n)(hc:css[m]?=some cs)(hj:j<es)(ho:oneC u=true)
 (hc':css.set m (cs.set j u)=css')(h:∀w',St c w' (L.set i (sl T es v css'))→Q0 P l Q ρ w'):Q0 P (⟨none, .store1 x y⟩::l) Q ρ w:=by subst hc';exact r8 hS he hx hy hi hn hc hj ho h
theorem fH {n:Nat}{x y:Operand}{o:Nat}{k:Nat}(hS:St c w L)(he:Nw v n es m b o)(hx:ρ.ev x= .pointer (some ⟨b,o,none⟩))(hy:ρ.ev y= .agg ⟨us⟩)(hk:us.length=k)(hi:nth L i=some (sl T es v css))(hn:css.length=n)(hc:css[m]?=some cs)(hl:us.length=es)(ho:∀u∈us,oneC u=true)
 (hc':css.set m us=css')(h:∀w',St c w' (L.set i (sl T es v css'))→Q0 P l Q ρ w'):Q0 P (⟨none, .storen k x y⟩::l) Q ρ w:=by subst hc';exact nE hS he hx hy hk hi hn hc hl ho h
theorem TJ {d:Nat}{x:Operand}{hi':Option Operand}(hS:St c w L)(hx:ρ.ev x=v)(hi:nth L i=some (sl T es v css))(hmx:mx=none)(hh:ML ρ css.length hi' h')(hl:ML ρ 0 lo l')(h2:h'≤css.length)(h3:l'≤h')
 (h:∀v',St c w (L.set i (sl T es v' ((css.take h').drop l')))→Q0 P l Q (upd ρ d v') w):Q0 P (⟨none, .sub d es x lo hi' mx⟩::l) Q ρ w:=by
 obtain ⟨F,hr,_,hst⟩:=hS.step hi;exact Tn hx hr hmx hh hl h2 h3 fun v' hk=>h v' (hst w F _ hk (H7 (HN _ _)))
theorem NL {d:Nat}{Ty:Nat}{z:List Value}{x y:Operand}(hel:Ns P Ts=some (T,es,nb,z))
 (hts:(∃e2,P.underlying Ts2=some (.slice e2))∨P.underlying Ts2=some .string)(hS:St c w L)(hx:ρ.ev x=v)(hy:ρ.ev y=v2)(hi:nth L i=some (sl T es v css))(hsrc:Tp P w es v2 css2)(hb:(css.length+css2.length)*nb≤140737488355328)
 (h : ∀ v' w', St c w' (L.set i (sl T es v' (css ++ css2))) → Q0 P l Q (upd ρ d v') w'): Q0 P (⟨none, .raw ⟨some d, .call ⟨.builtin .append, #[x, y], #[Ts, Ts2]⟩, Ty, "", #[], none⟩⟩ :: l) Q ρ w := by
 obtain ⟨F,hr,_,hst⟩:=hS.step hi;exact Tq hel hts hx hy hr hsrc hb fun v' w' ⟨F',h1,h2,h3⟩=>h v' w' (hst w' F' _ h1 ⟨h2,h3⟩)
theorem XE {d:Nat}{Ty:Nat}{z:List Value}{x y:Operand}{k':IntKind}{n:Int}(hel:Ns P Ts=some (T,es,nb,z))(hS:St c w L)(hx:ρ.ev x= .int k n)(hy:ρ.ev y= .int k' n)(h0:0≤n)(hn:n*nb≤281474976710656)
 (h:∀v' w',St c w' (sl T es v' (List.replicate n.toNat z)::L)→Q0 P l Q (upd ρ d v') w'):
 Q0 P (⟨none, .raw ⟨some d, .makeSlice Ts x y, Ty, "", #[], none⟩⟩ :: l) Q ρ w :=
 ig hel hx hy h0 hn fun v' w' hf hs _=>h v' w' (hS.new hs hf fun b hb=>by omega)

theorem St.srcS {css:List (List Value)}(hS:St c w L)(hi:nth L i=some (sl T es v css))(ho:∀c∈css,∀u∈c,oneC u=true):Tp P w es v css:=by
 obtain ⟨F,hr,_⟩:=hS.step hi;exact Sl.src hr ho
theorem St.srcB1 {u:Value}(hS:St c w L)(hi:nth L i=some (blk b T [u]))(ho:oneC u=true):Tp P w 1 (.slice (some ⟨b,0,none⟩) 1 1) [[u]]:=by
 obtain ⟨F,hr,_⟩:=hS.step hi;exact nm hr.1 ho
theorem St.srcB {n:Nat}(hS:St c w L)(hi:nth L i=some (blk b T cs))(hn:cs.length=n)(ho:∀u∈cs,oneC u=true):Tp P w n (.slice (some ⟨b,0,none⟩) 1 1) [cs]:=by
 obtain ⟨F,hr,_⟩:=hS.step hi;exact XB hr.1 hn ho
theorem NQ.src {css:List (List Value)}(h:NQ c es v css)(hS:St c w L)(ho:∀c∈css,∀u∈c,oneC u=true):Tp P w es v css:=(h.now hS).src ho

theorem bw {d:Nat}{x:Operand}(hx:ρ.ev x=v)(hs:NQ c es v css)(h:Q0 P l Q (upd ρ d (.int .i64 css.length)) w):Q0 P (⟨none, .len d x⟩::l) Q ρ w:=by
 obtain ⟨a,c,hv⟩:=Mx.shape hs;exact ZO (hx.trans hv) h
theorem TK {d m:Nat}{x y:Operand}(hx:ρ.ev x=v)(hy:ρ.ev y= .int k (m:Int))(hs:NQ c es v css)(hc:css[m]?=some cs)
 (h:∀b o,OL c b o cs→Q0 P l Q (upd ρ d (.pointer (some ⟨b,o,none⟩))) w):Q0 P (⟨none, .idx d es x y⟩::l) Q ρ w:=by
 obtain ⟨_,a,cap,hv,hlc,hn|⟨b,off,ha,hF,hb,hat⟩⟩:=hs
 · subst hn;simp at hc
 · subst hv ha;have hlt:=(E8.1 hc).1;exact bf hx hy Jo Jo (h b _ ⟨hF,hat _ _ hc⟩)
theorem TM {d:Nat}{x:Operand}{o:Nat}{u:Value}(hS:St c w L)(ha:OL c b o cs)(hx:ρ.ev x= .pointer (some ⟨b,o+j,none⟩))(hu:cs[j]?=some u)
 (h:Q0 P l Q (upd ρ d u) w):Q0 P (⟨none, .load1 d x⟩::l) Q ρ w:=Tu hx (ha.now hS) hu h
theorem XF {d:Nat}{x:Operand}{o:Nat}{u:Value}(hS:St c w L)(ha:OL c b o cs)(hx:ρ.ev x= .pointer (some ⟨b,o,none⟩))(hu:cs[0]?=some u)
 (h:Q0 P l Q (upd ρ d u) w):Q0 P (⟨none, .load1 d x⟩::l) Q ρ w:=XA hx (ha.now hS) hu h
theorem TO {d n:Nat}{x:Operand}{o:Nat}(hS:St c w L)(ha:OL c b o cs)(hx:ρ.ev x= .pointer (some ⟨b,o,none⟩))(hl:cs.length=n)
 (h:Q0 P l Q (upd ρ d (.agg ⟨cs⟩)) w):Q0 P (⟨none, .loadn d n x⟩::l) Q ρ w:=Tw hx (ha.now hS) hl h
theorem bx {d:Nat}{x:Operand}{hi:Option Operand}(hx:ρ.ev x=v)(hs:NQ c es v css)(hmx:mx=none)(hh:ML ρ css.length hi h')(hl:ML ρ 0 lo l')(h2:h'≤css.length)(h3:l'≤h')
 (h:∀v',NQ c es v' ((css.take h').drop l')→Q0 P l Q (upd ρ d v') w):Q0 P (⟨none, .sub d es x lo hi mx⟩::l) Q ρ w:=by
 subst hmx;obtain ⟨h0,a,cap,hv,hlc,hc⟩:=hs;subst hv;have hl1:((css.take h').drop l').length=h' - l':=Di;refine gU (m:=cap) hx rfl hh hl (FE _) Jo h3 (h _ ⟨fun c hc=>h0 c (Gv (HC hc)),_,cap - l',by rw [hl1],Jo,?_⟩);rcases hc with hc|⟨b,off,ha,hF,hb,hat⟩
 · subst hc;exact .inl Js
 · by_cases he:h'=l'
   · exact .inl (Gq Jo)
   · refine .inr ⟨b,off+l'*es,?_,hF,hb,fun m c hm=>?_⟩
     · rw [if_neg Jo,ha];simp only [Gd,Pe]
     · have hm':css[l'+m]?=some c:=by
        have:=(E8.1 hm).1;rw [G8,F5 Jo] at hm;exact hm
       have:=hat _ _ hm';rw [HA,←GR] at this;exact this

theorem QZ {d o:Nat}{x:Operand}{u:Value}(hS:St c w L)(hx:ρ.ev x= .pointer (some ⟨b,o,none⟩))(hi:nth L i=some (blk b T cs))(hu:cs[o]?=some u):Nr P ρ w ⟨none, .load1 d x⟩ u:=by
 obtain ⟨F,hr,_⟩:=hS.step hi;exact XC hx hr.1 hu
theorem nF {d n o:Nat}{x:Operand}(hS:St c w L)(hx:ρ.ev x= .pointer (some ⟨b,o,none⟩))(hi:nth L i=some (blk b T cs))(hu:(cs.drop o).take n=us)(hl:us.length=n):Nr P ρ w ⟨none, .loadn d n x⟩ (.agg ⟨us⟩):=by
 obtain ⟨F,hr,_⟩:=hS.step hi;exact TA hx hr.1 hu hl
theorem Qt {d n:Nat}{x:Operand}{o:Nat}{u:Value}(hS:St c w L)(he:Nw v n es m b o)(hx:ρ.ev x= .pointer (some ⟨b,o+j,none⟩))(hi:nth L i=some (sl T es v css))(hn:css.length=n)(hc:css[m]?=some cs)(hu:cs[j]?=some u):Nr P ρ w ⟨none, .load1 d x⟩ u:=by
 obtain ⟨F,hr,_⟩:=hS.step hi;exact ⟨_,hx,(he.el hn hr).cell hc hu⟩
theorem fI {d:Nat}{x:Operand}{o:Nat}{u:Value}(hS:St c w L)(ha:OL c b o cs)(hx:ρ.ev x= .pointer (some ⟨b,o+j,none⟩))(hu:cs[j]?=some u):Nr P ρ w ⟨none, .load1 d x⟩ u:=⟨_,hx,(ha.now hS).cell hu⟩
theorem nG {d n:Nat}{x:Operand}{o:Nat}(hS:St c w L)(ha:OL c b o cs)(hx:ρ.ev x= .pointer (some ⟨b,o+j,none⟩))(hu:(cs.drop j).take n=us)(hl:us.length=n):Nr P ρ w ⟨none, .loadn d n x⟩ (.agg ⟨us⟩):=⟨_,us,hx,(ha.now hS).cells hu hl,rfl⟩

theorem St.shape (hS:St c w L)(hi:nth L i=some (sl T es v css)):∃a c,v= .slice a css.length c:=by
 obtain ⟨F,hr,_⟩:=hS.step hi;exact Sl.shape hr
theorem St.oneC (hS:St c w L)(hi:nth L i=some (sl T es v css)):Go.Lir.oneC v=true:=by
 obtain ⟨F,hr,_⟩:=hS.step hi;exact Sl.oneC hr
theorem QL {d n:Nat}{x:Operand}(hS:St c w L)(hx:ρ.ev x=v)(hi:nth L i=some (sl T es v css))(hn:css.length=n)(h:Q0 P l Q (upd ρ d (.int .i64 n)) w):Q0 P (⟨none, .len d x⟩::l) Q ρ w:=by
 subst hn;exact bt hS hx hi h
theorem XG {d n:Nat}{x:Operand}(hx:ρ.ev x=v)(hs:NQ c es v css)(hn:css.length=n)(h:Q0 P l Q (upd ρ d (.int .i64 n)) w):Q0 P (⟨none, .len d x⟩::l) Q ρ w:=by
 subst hn;exact bw hx hs h
theorem nH {d n:Nat}{x:Operand}{o:Nat}{xs:List Int}(hS:St c w L)(he:Nw v n 1 m b o)(hx:ρ.ev x= .pointer (some ⟨b,o,none⟩))(hi:nth L i=some (sl T 1 v (xs.map Qr)))(hn:(xs.map Qr).length=n)(hm:m<xs.length)
 (h:Q0 P l Q (upd ρ d (.int .i64 (xs.getD m 0))) w):Q0 P (⟨none, .load1 d x⟩::l) Q ρ w:=QF hS he hx hi hn (MQ Qr xs 0 hm) rfl h
theorem TP {d n:Nat}{x:Operand}{o:Nat}(hS:St c w L)(he:Nw v n 1 m b o)(hx:ρ.ev x= .pointer (some ⟨b,o,none⟩))(hi:nth L i=some (sl T 1 v (xs.map QE)))(hn:(xs.map QE).length=n)(hm:m<xs.length)
 (h:Q0 P l Q (upd ρ d (.bool (xs.getD m false))) w):Q0 P (⟨none, .load1 d x⟩::l) Q ρ w:=QF hS he hx hi hn (MQ QE xs false hm) rfl h
theorem TQ {n:Nat}{x y:Operand}{o:Nat}{xs:List Int}{u:Int}(hS:St c w L)(he:Nw v n 1 m b o)(hx:ρ.ev x= .pointer (some ⟨b,o,none⟩))(hy:ρ.ev y= .int .i64 u)(hi:nth L i=some (sl T 1 v (xs.map Qr)))(hn:(xs.map Qr).length=n)(hm:m<xs.length)
 (h:∀w',St c w' (L.set i (sl T 1 v ((xs.set m u).map Qr)))→Q0 P l Q ρ w'):Q0 P (⟨none, .store1 x y⟩::l) Q ρ w:=
 ln hS he hx hy hi hn (MQ Qr xs 0 hm) Jo rfl fun w' hS=>h w' (by rw [←map_set];exact hS)
theorem xh {n:Nat}{x y:Operand}{o:Nat}{u:Bool}(hS:St c w L)(he:Nw v n 1 m b o)(hx:ρ.ev x= .pointer (some ⟨b,o,none⟩))(hy:ρ.ev y= .bool u)(hi:nth L i=some (sl T 1 v (xs.map QE)))(hn:(xs.map QE).length=n)(hm:m<xs.length)
 (h:∀w',St c w' (L.set i (sl T 1 v ((xs.set m u).map QE)))→Q0 P l Q ρ w'):Q0 P (⟨none, .store1 x y⟩::l) Q ρ w:=
 ln hS he hx hy hi hn (MQ QE xs false hm) Jo rfl fun w' hS=>h w' (by rw [←map_set];exact hS)

theorem TS {d:Nat}(hc:Kf P f [] w S)(h:∀v w',S v w'→Q0 P l Q (upd ρ d v) w'):Q0 P (⟨none, .call (some d) f []⟩::l) Q ρ w:=Sf Jr hc h
theorem nI {d:Nat}(h0:ρ.ev x0=u0)(hc:Kf P f [u0] w S)(h:∀v w',S v w'→Q0 P l Q (upd ρ d v) w'):Q0 P (⟨none, .call (some d) f [x0]⟩::l) Q ρ w:=Sf (by subst h0;rfl) hc h
theorem bz {d:Nat}(h0:ρ.ev x0=u0)(h1:ρ.ev x1=u1)(hc:Kf P f [u0,u1] w S)(h:∀v w',S v w'→Q0 P l Q (upd ρ d v) w'):Q0 P (⟨none, .call (some d) f [x0,x1]⟩::l) Q ρ w:=Sf (by subst h0 h1;rfl) hc h
theorem TU {d:Nat}(h0:ρ.ev x0=u0)(h1:ρ.ev x1=u1)(h2:ρ.ev x2=u2)(hc:Kf P f [u0,u1,u2] w S)(h:∀v w',S v w'→Q0 P l Q (upd ρ d v) w'):Q0 P (⟨none, .call (some d) f [x0,x1,x2]⟩::l) Q ρ w:=Sf (by subst h0 h1 h2;rfl) hc h
theorem TV {d:Nat}(h0:ρ.ev x0=u0)(h1:ρ.ev x1=u1)(h2:ρ.ev x2=u2)(h3:ρ.ev x3=u3)(hc:Kf P f [u0,u1,u2,u3] w S)(h:∀v w',S v w'→Q0 P l Q (upd ρ d v) w'):Q0 P (⟨none, .call (some d) f [x0,x1,x2,x3]⟩::l) Q ρ w:=Sf (by subst h0 h1 h2 h3;rfl) hc h
theorem sa {d:Nat}{u4:Value}(h0:ρ.ev x0=u0)(h1:ρ.ev x1=u1)(h2:ρ.ev x2=u2)(h3:ρ.ev x3=u3)(h4:ρ.ev x4=u4)(hc:Kf P f [u0,u1,u2,u3,u4] w S)(h:∀v w',S v w'→Q0 P l Q (upd ρ d v) w'):Q0 P (⟨none, .call (some d) f [x0,x1,x2,x3,x4]⟩::l) Q ρ w:=Sf (by subst h0 h1 h2 h3 h4;rfl) hc h
theorem sb {d:Nat}{T:TypeId}{x y:Operand}{a b:Bool}(ht:P.underlying T=some .bool)(hx:ρ.ev x= .bool a)(hy:ρ.ev y= .bool b)(he:a=b)
 (h:Q0 P l Q (upd ρ d (.bool false)) w):Q0 P (⟨none, .bin d .neq T x y⟩::l) Q ρ w:=ZR ht hx hy (by subst he;rw [bne_self_eq_false];exact h)
theorem xi (k:Nat){T:TypeId}{a:Option Addr}(ht:P.underlying T=some (.pointer e)):(Op.equalIn (k+1) T (.pointer a) (.pointer none)).run P w0= .ok a.isNone w0:=by
 simp only [Op.equalIn,FH,Qb P T _ w0 ht,Fp];cases a<;>simp [FR]
theorem sc {T:TypeId}{a:Option Addr}(ht:P.underlying T=some (.pointer e)):(Op.equal T (.pointer a) (.pointer none)).run P w0= .ok a.isNone w0:=xi 9999 ht
theorem nJ {d:Nat}{T:TypeId}{x y:Operand}(ht:P.underlying T=some (.pointer e))(hx:ρ.ev x= .pointer none)(hy:ρ.ev y= .pointer none)
 (h:Q0 P l Q (upd ρ d (.bool true)) w):Q0 P (⟨none, .bin d .eql T x y⟩::l) Q ρ w:=
 ⟨_,fun w0=>by rw [hx,hy];simp [eqGuard,binOp,sc ht],h⟩
theorem nK {d:Nat}{T:TypeId}{x y:Operand}{a:Addr}(ht:P.underlying T=some (.pointer e))(hx:ρ.ev x= .pointer (some a))(hy:ρ.ev y= .pointer none)
 (h:Q0 P l Q (upd ρ d (.bool false)) w):Q0 P (⟨none, .bin d .eql T x y⟩::l) Q ρ w:=
 ⟨_,fun w0=>by rw [hx,hy];simp [eqGuard,binOp,sc ht],h⟩
end
end
section
inductive Ty where
 | mk:Int→Int→List Ty→Ty
def Ty.kind:Ty→Int| .mk k _ _=>k
def Ty.r:Ty→Int| .mk _ r _=>r
def Ty.l:Ty→List Ty| .mk _ _ l=>l
def MF (H:KL)(F:Nat→Prop):Nat→List Value→Ty→Prop
 | 0,_,_=>False
 | n+1,cs,t=>∃v css,cs=[.int .i64 t.kind, .int .i64 t.r,v]∧Mx H 3 v F css∧css.length=t.l.length∧t.l.length≤140737488355328∧∀(m:Nat) (x:Ty),t.l[m]?=some x→∃d,css[m]?=some d∧MF H F n d x
theorem MF.len:∀{n:Nat}{cs:List Value}{t:Ty},MF H F n cs t→cs.length=3
 | 0,_,_,h=>h.elim
 | _+1,_,_,h=>by obtain ⟨_,_,rfl,_⟩:=h;rfl
theorem MF.more:∀{n m:Nat}{cs:List Value}{t:Ty},n≤m→MF H F n cs t→MF H F m cs t
 | 0,_,_,_,_,h=>h.elim
 | n+1,0,_,_,hm,_=>by omega
 | n+1,m+1,_,_,hm,h=>by
   obtain ⟨v,css,h1,h2,h3,h4,h5⟩:=h;exact ⟨v,css,h1,h2,h3,h4,fun i x hx=>by obtain ⟨d,h6,h7⟩:=h5 i x hx;exact ⟨d,h6,h7.more Jo⟩⟩
theorem MF.turn (hs:∀v css,Mx H 3 v F css→Mx H' 3 v G css):∀{n:Nat}{cs:List Value}{t:Ty},MF H F n cs t→MF H' G n cs t
 | 0,_,_,h=>h.elim
 | n+1,_,_,h=>by
   obtain ⟨v,css,h1,h2,h3,h4,h5⟩:=h;exact ⟨v,css,h1,hs _ _ h2,h3,h4,fun i x hx=>by obtain ⟨d,h6,h7⟩:=h5 i x hx;exact ⟨d,h6,h7.turn hs⟩⟩
def TW (c:Cx)(cs:List Value)(t:Ty):Prop:=∃n,MF c.H0 c.K n cs t
theorem TW.up {c c':Cx}{t:Ty}(h:TW c cs t)(hle:c.Le c'):TW c' cs t:=by
 obtain ⟨n,h⟩:=h;exact ⟨n,h.turn fun v css hs=>NQ.up hs hle⟩
theorem nL {xs:List α}{R:Nat→α→Prop}(hm:∀n m x,n≤m→R n x→R m x)(h:∀x∈xs,∃n,R n x):∃n,∀x∈xs,R n x:=by
 induction xs with
 | nil=>exact ⟨0,by simp⟩
 | cons x xs ih=>
   obtain ⟨n,hn⟩:=ih fun y hy=>h y (F3 _ hy);obtain ⟨m,hx⟩:=h x (Gi ..);refine ⟨max n m,fun y hy=>?_⟩;rcases FA.1 hy with rfl|hy
   · exact hm _ _ _ (Nat.le_max_right ..) hx
   · exact hm _ _ _ (Nat.le_max_left ..) (hn y hy)
theorem TW.mk {c:Cx}{k r:Int}{l:List Ty}(hs:NQ c 3 v css)(hl:css.length=l.length)(hm:l.length≤140737488355328)(h:∀(m:Nat) (x:Ty),l[m]?=some x→∃d,css[m]?=some d∧TW c d x):TW c [.int .i64 k, .int .i64 r,v] (.mk k r l):=by
 obtain ⟨n,hn⟩:=nL (xs:=List.range l.length) (R:=fun n m=>∀x,l[m]?=some x→∃d,css[m]?=some d∧MF c.H0 c.K n d x) (fun n m i hnm hr x hx=>by obtain ⟨d,h1,h2⟩:=hr x hx;exact ⟨d,h1,h2.more hnm⟩) (fun m hm=>by
  have hlt:=FX.1 hm;obtain ⟨d,h1,n,h2⟩:=h m _ (E7 hlt);exact ⟨n,fun x hx=>by rw [E7 hlt] at hx;cases hx;exact ⟨d,h1,h2⟩⟩)
 exact ⟨n+1,v,css,rfl,hs,hl,hm,fun m x hx=>hn m (FX.2 (E8.1 hx).1) x hx⟩
theorem TW.out {c:Cx}{t:Ty}(h:TW c cs t):∃v css,cs=[.int .i64 t.kind, .int .i64 t.r,v]∧NQ c 3 v css∧css.length=t.l.length∧t.l.length≤140737488355328∧∀(m:Nat) (x:Ty),t.l[m]?=some x→∃d,css[m]?=some d∧TW c d x:=by
 obtain ⟨n,h⟩:=h
 cases n with
 | zero=>exact h.elim
 | succ n=>
   obtain ⟨v,css,h1,h2,h3,h4,h5⟩:=h;exact ⟨v,css,h1,h2,h3,h4,fun m x hx=>by obtain ⟨d,h6,h7⟩:=h5 m x hx;exact ⟨d,h6,n,h7⟩⟩

theorem xj {enc:TypeId×Value→Hd}{y:DataW Hd×List MemPlace}{rd:List Value→α→Prop}(hsz:P.cellsOf e=es)(hes:0<es)(hlen:∀d x,rd d x→d.length=es)
 (ht:P.underlying T=some (.slice e))(h:DataW.trod enc P w 0 (fun _=>true) true fuel T cs=some y)(hby:0<P.bytesOf e)(hfit:Fits P T y.1)
 (hel:∀(n:Nat) (d:List Value) (z:DataW Hd×List MemPlace),DataW.trod enc P w 0 (fun _=>true) true n e d=some z→Fits P e z.1→SizeOf.sizeOf z.1<SizeOf.sizeOf y.1→∃x,rd d x):
 ∃(xs:List α) (v:Value) (css:List (List Value)),cs=[v]∧Mx w.heap es v (fun _=>True) css∧css.length=xs.length∧xs.length≤140737488355328∧∀(m:Nat) (x:α),xs[m]?=some x→∃d,css[m]?=some d∧rd d x:=by
 rcases J1 ht h with ⟨rfl,_⟩|⟨a,len,cap,m,n,D,Pl,rfl,_,hl,hm,hmm,hy,hi⟩
 · exact Cp
 · have hmc:m=cap:=by simpa using hmm
   subst hmc;have hfit':=hfit;rw [hy] at hfit';obtain ⟨hlen0,hel0⟩:=rU ht hfit' hby;simp only [Fb,HZ] at hlen0
   have hel2:∀i,i<len→∃(d:List Value) (x:α),w.cells? 0 (a.add (i*es)) es=some d∧rd d x:=by
    intro i hi';obtain ⟨d,h1,h2⟩:=hi i Jo;rw [hsz] at h1
    obtain ⟨x,hx⟩:=hel n d _ h2 (hel0 _ (FU.2 ⟨i,FX.2 hi',rfl⟩)) (by
     rw [hy];have hmem:D i∈(List.range len).map D:=FU.2 ⟨i,FX.2 hi',rfl⟩;have:=Ig hmem;simp only [DataW.slice.sizeOf_spec];omega)
    exact ⟨d,x,h1,hx⟩
   have build:∀n,n≤len→∃(css:List (List Value)) (xs:List α),css.length=n∧xs.length=n∧
    ∀m,m<n→∃d x,css[m]?=some d∧xs[m]?=some x∧w.cells? 0 (a.add (m*es)) es=some d∧rd d x:=by
    intro n
    induction n with
    | zero=>intro _;exact ⟨[],[],rfl,rfl,fun m hm=>absurd hm Jo⟩
    | succ n ih=>
      intro hn;obtain ⟨css,xs,h1,h2,h3⟩:=ih Jo;obtain ⟨d,x,h4,h5⟩:=hel2 n Jo;refine ⟨css++[d],xs++[x],by simp [h1],by simp [h2],fun m hm=>?_⟩;by_cases hmn:m=n
      · subst hmn;exact ⟨d,x,by rw [Ff Jo,h1];simp,by rw [Ff Jo,h2];simp,h4,h5⟩
      · obtain ⟨d',x',g1,g2,g3,g4⟩:=h3 m Jo;exact ⟨d',x',by rw [Fg Jo];exact g1,by rw [Fg Jo];exact g2,g3,g4⟩
   obtain ⟨css,xs,h1,h2,h3⟩:=build len (FE _);refine ⟨xs, .slice (some a) len m,css,rfl,⟨?_,some a,m,by rw [h1],Jo,?_⟩,Jo,Jo,?_⟩
   · intro d hd;obtain ⟨i,hi'⟩:=Gf.1 hd;have hlt:=(E8.1 hi').1;obtain ⟨d',x',g1,g2,g3,g4⟩:=h3 i Jo;rw [hi'] at g1;simp only [Fq] at g1;subst g1;exact hlen _ _ g4
   · rcases Iw len with h0|h0
     · exact .inl (Gq Jo)
     · obtain ⟨d0,x0,_,_,g3,_⟩:=h3 0 h0;obtain ⟨hsp,hbl,_⟩:=lh g3 hes;have ha0:a.add (0*es)=a:=(by rw [Ib];rfl);rw [ha0] at hsp hbl;obtain ⟨b,o,s⟩:=a;simp only at hsp;subst hsp;refine .inr ⟨b,o,rfl,trivial,hbl,fun i d hd=>?_⟩;have hlt:=(E8.1 hd).1;obtain ⟨d',x',g1,g2,g3,g4⟩:=h3 i Jo;rw [hd] at g1;simp only [Fq] at g1;subst g1;rw [Pe] at g3;exact (lh g3 hes).2.2
   · intro i x hx;have hlt:=(E8.1 hx).1;obtain ⟨d',x',g1,g2,g3,g4⟩:=h3 i Jo;rw [hx] at g2;simp only [Fq] at g2;subst g2;exact ⟨d',g1,g4⟩
theorem nM {enc:TypeId×Value→Hd}{y:DataW Hd×List MemPlace}(h:DataW.trod enc P w 0 (fun _=>true) true fuel T cs=some y)
 {i o s:Nat}{t:TypeId}(hf:fieldAt P T i=some (o,s,t))(hfit:Fits P T y.1):cs.length=P.cellsOf T∧∃n z,DataW.trod enc P w 0 (fun _=>true) true n t ((cs.drop o).take s)=some z∧Fits P t z.1∧SizeOf.sizeOf z.1<SizeOf.sizeOf y.1:=by
 unfold fieldAt at hf;split at hf
 · rename_i fs hu
   simp only [GM,G4] at hf;obtain ⟨f,hf,rfl,rfl,rfl⟩:=hf;obtain ⟨xs,n,_,hy,hl,hx,hall⟩:=DataW.trod_struct hu h;have:=hall i f hf;have hlt:=(HQ.1 hf).1;refine ⟨hl,n,xs[i]' Df,?_,?_,?_⟩
   · rw [this,E7 Jo]
   · rw [hy] at hfit;exact rV hu hfit hf E1
   · rw [hy];have hmem:(xs[i]' Df).1∈xs.map (·.1):=FU.2 ⟨_,Hi _,rfl⟩;have:=Ig hmem;simp only [DataW.agg.sizeOf_spec];omega
 · cases hf
inductive Ty.InR:Ty→Prop where
 | mk {k r:Int}{l:List Ty}:(Lit.int .i64 k).wf=true→(Lit.int .i64 r).wf=true→(∀x∈l,x.InR)→Ty.InR (.mk k r l)
theorem TX {n:Int}(h:(Lit.int .i64 n).wf=true): -9223372036854775808≤n∧n≤9223372036854775807:=by
 simp [Lit.wf,IntKind.min,IntKind.max,IntKind.bits,IntKind.signed] at h;omega
theorem Ty.InR.parts {k r:Int}{l:List Ty}(h:(Ty.mk k r l).InR):(-9223372036854775808≤k∧k≤9223372036854775807)∧(-9223372036854775808≤r∧r≤9223372036854775807)∧∀x∈l,x.InR:=by
 cases h with|mk h1 h2 h3=>exact ⟨TX h1,TX h2,h3⟩
theorem sd {P:Program}{T TL t0 t1:TypeId}(h0:fieldAt P T 0=some (0,1,t0))(h1:fieldAt P T 1=some (1,1,t1))(h2:fieldAt P T 2=some (2,1,TL))(hi0:P.underlying t0=some (.int .i64))(hi1:P.underlying t1=some (.int .i64))(hT:P.cellsOf T=3)(hTL:P.underlying TL=some (.slice T))(hby:0<P.bytesOf T)
 {Hd:Type}{enc:TypeId×Value→Hd}{w:World}:∀(N fuel:Nat) (cs:List Value) (y:DataW Hd×List MemPlace),DataW.trod enc P w 0 (fun _=>true) true fuel T cs=some y→Fits P T y.1→SizeOf.sizeOf y.1<N→∃t n,MF w.heap (fun _=>True) n cs t∧t.InR
 | 0,_,_,_,_,_,hN=>by omega
 | N +1,fuel,cs,y,h,hfit,hN=>by
   obtain ⟨hl,n0,z0,g0,_⟩:=nM h h0 hfit;obtain ⟨_,n1,z1,g1,_⟩:=nM h h1 hfit;obtain ⟨_,n2,z2,g2,u2,hz⟩:=nM h h2 hfit;rw [hT] at hl
   obtain ⟨a,b,v,hc⟩:∃a b v,cs=[a,b,v]:=by
    match cs,hl with
    | [a,b,v],_=>exact ⟨a,b,v,rfl⟩
   subst hc;obtain ⟨k,hk,_,wk⟩:=DataW.trod_int hi0 g0;obtain ⟨r,hr,_,wr⟩:=DataW.trod_int hi1 g1;have hk2:[a]=[Value.int .i64 k]:=hk;have hr2:[b]=[Value.int .i64 r]:=hr;clear hk hr;simp only [GX,and_true] at hk2 hr2;have g3:DataW.trod enc P w 0 (fun _=>true) true n2 TL [v]=some z2:=g2;clear g2
   obtain ⟨xs,v',css,hv,s1,s2,s3,s4⟩:=xj (rd:=fun d (x:Nat×Ty)=>MF w.heap (fun _=>True) x.1 d x.2∧x.2.InR) hT Jd (fun d x hx=>hx.1.len) hTL g3 hby u2 (fun n d z hz1 hz3 hz2=>by
    obtain ⟨t,n,ht,hr⟩:=sd h0 h1 h2 hi0 hi1 hT hTL hby N _ d z hz1 hz3 Jo;exact ⟨(n,t),ht,hr⟩)
   simp only [GX,and_true] at hv;subst hv hk2 hr2;obtain ⟨n,hn⟩:=nL (xs:=xs) (R:=fun n x=>x.1≤n) (fun n m x h1 h2=>GL h2 h1) (fun x _=>⟨x.1,FE _⟩);refine ⟨.mk k r (xs.map (·.2)),n+1,⟨v,css,rfl,s1,by simp [Ty.l,s2],by simpa [Ty.l] using s3,fun m x hx=>?_⟩, .mk wk wr fun x hx=>?_⟩
   rotate_left
   · obtain ⟨p,hp,rfl⟩:=FU.1 hx;obtain ⟨m,hm⟩:=Gf.1 hp;obtain ⟨d,d1,d2⟩:=s4 m p hm;exact d2.2
   simp only [Ty.l,Fy,GM] at hx;obtain ⟨p,hp,rfl⟩:=hx;obtain ⟨d,d1,d2⟩:=s4 m p hp;exact ⟨d,d1,d2.1.more (hn p (Fa hp))⟩
def Cod.ty {P:Program}{T TL t0 t1:TypeId}(h0:fieldAt P T 0=some (0,1,t0))(h1:fieldAt P T 1=some (1,1,t1))(h2:fieldAt P T 2=some (2,1,TL))(hi0:P.underlying t0=some (.int .i64))(hi1:P.underlying t1=some (.int .i64))(hT:P.cellsOf T=3)(hTL:P.underlying TL=some (.slice T))(hby:decide (0<P.bytesOf T)=true):Cod P T Ty where
 es:=3
 rd:=fun H cs t=>∃n,MF H (fun b=>b<H.size) n cs t
 size:=hT
 len:=by rintro _ _ _ ⟨n,h⟩;exact h.len
 stay:=by
  rintro H H' cs t ⟨n,h⟩ hH;exact ⟨n,h.turn fun v css hs=>IC (hs.of_same fun b hb _=>hH b hb) fun b hb _=>hb⟩
 open_:=fun enc w fuel cs y h hfit=>by
  obtain ⟨t,n,ht,_⟩:=sd h0 h1 h2 hi0 hi1 hT hTL (of_decide_eq_true hby) (SizeOf.sizeOf y.1+1) fuel cs y h hfit Jo;exact ⟨t,n,ht.turn fun v css hs=>IC hs fun b hb _=>hb⟩
theorem TW.top {t:Ty}(h:∃n,MF w.heap (fun b=>b<w.heap.size) n cs t):TW (Cx.top w) cs t:=h
end
section
structure Fld (P:Program) (T:TypeId) (α:Type) where
 rd:KL→List Value→α→Prop
 stay:∀(H H':KL) cs x,rd H cs x→(∀b,b<H.size→H'[b]?=H[b]?)→rd H' cs x
 open_:∀{Hd:Type}(enc:TypeId×Value→Hd) (w:World) (fuel:Nat) (cs:List Value) (y:DataW Hd×List MemPlace),DataW.trod enc P w 0 (fun _=>true) true fuel T cs=some y→Fits P T y.1→∃x,rd w.heap cs x
def Fld.none {P:Program}{T:TypeId}:Fld P T Unit:=⟨fun _ _ _=>True,fun _ _ _ _ h _=>h,fun _ _ _ _ _ _ _=>⟨(),trivial⟩⟩
def Fld.more {P:Program}{T t:TypeId}{α β:Type}{i o s:Nat}(c:Cod P t α)(h:fieldAt P T i=some (o,s,t))(f:Fld P T β):Fld P T (α×β) where
 rd:=fun H cs x=>c.rd H ((cs.drop o).take s) x.1∧f.rd H cs x.2
 stay:=fun H H' cs x h hH=>⟨c.stay _ _ _ _ h.1 hH,f.stay _ _ _ _ h.2 hH⟩
 open_:=fun enc w fuel cs y hy hfit=>by
  obtain ⟨_,n,z,g,u⟩:=rW hy h hfit;obtain ⟨a,ha⟩:=c.open_ enc w _ _ _ g u;obtain ⟨b,hb⟩:=f.open_ enc w _ _ _ hy hfit;exact ⟨(a,b),ha,hb⟩
def Fld.cod {P:Program}{T t:TypeId}{α:Type}{o s:Nat}(f:Fld P T α)(h0:fieldAt P T 0=some (o,s,t))(n:Nat)(hn:P.cellsOf T=n):Cod P T α where
 es:=n
 rd:=fun H cs x=>cs.length=n∧f.rd H cs x
 size:=hn
 len:=fun _ _ _ h=>h.1
 stay:=fun H H' cs x h hH=>⟨h.1,f.stay _ _ _ _ h.2 hH⟩
 open_:=fun enc w fuel cs y hy hfit=>by
  obtain ⟨hl,_⟩:=rW hy h0 hfit;obtain ⟨a,ha⟩:=f.open_ enc w _ _ _ hy hfit;exact ⟨a,by rw [hl,hn],ha⟩
end
section

theorem Mx.turn (h:Mx H es v F css)(hs:∀b,F b→b<H.size→G b∧H'[b]?=H[b]?):Mx H' es v G css:=by
 obtain ⟨h0,a,cap,hv,hlc,hc|⟨b,off,ha,hF,hb,hat⟩⟩:=h
 · exact Bi
 · obtain ⟨h1,h2⟩:=hs b hF hb
   refine ⟨h0,a,cap,hv,hlc, .inr ⟨b,off,ha,h1,?_,fun m c hm=>(hat m c hm).of_same h2⟩⟩;rcases GD b H'.size with h|h
   · exact h
   · rw [GP h,GW hb] at h2;cases h2

structure Rep (α:Type) where
 es:Nat
 pos:0<es
 R:KL→(Nat→Prop)→List Value→α→Prop
 len:∀{H:KL}{K:Nat→Prop}{cs:List Value}{x:α},R H K cs x→cs.length=es
 one:∀{H:KL}{K:Nat→Prop}{cs:List Value}{x:α},R H K cs x→∀u∈cs,oneC u=true
 turn:∀{H H':KL}{K K':Nat→Prop}{cs:List Value}{x:α},R H K cs x→(∀b,K b→b<H.size→K' b∧H'[b]?=H[b]?)→R H' K' cs x

section
variable {α β:Type}
def Rep.LR (r:Rep α)(H:KL)(K:Nat→Prop)(css:List (List Value))(l:List α):Prop:=css.length=l.length∧∀(m:Nat) (x:α),l[m]?=some x→∃d,css[m]?=some d∧r.R H K d x
def Rep.SR (r:Rep α)(H:KL)(K:Nat→Prop)(v:Value)(l:List α):Prop:=∃css,Mx H r.es v K css∧r.LR H K css l∧l.length≤140737488355328
theorem Rep.LR.turn {r:Rep α}{l:List α}(h:r.LR H K css l)(hs:∀b,K b→b<H.size→K' b∧H'[b]?=H[b]?):r.LR H' K' css l:=
 ⟨h.1,fun m x hx=>by obtain ⟨d,h1,h2⟩:=h.2 m x hx;exact ⟨d,h1,r.turn h2 hs⟩⟩
theorem Rep.SR.turn {r:Rep α}{l:List α}(h:r.SR H K v l)(hs:∀b,K b→b<H.size→K' b∧H'[b]?=H[b]?):r.SR H' K' v l:=by
 obtain ⟨css,h1,h2,h3⟩:=h;exact ⟨css,h1.turn hs,h2.turn hs,h3⟩
theorem Rep.LR.nil (r:Rep α)(H:KL)(K:Nat→Prop):r.LR H K [] []:=⟨rfl,by simp⟩
abbrev GB:=@Rep.LR.nil
theorem Rep.LR.push {r:Rep α}{l:List α}{d:List Value}{x:α}(h:r.LR H K css l)(hd:r.R H K d x):r.LR H K (css++[d]) (l++[x]):=by
 refine ⟨by simp [h.1],fun m y hy=>?_⟩;rcases GD m l.length with hm|hm
 · rw [Fg hm] at hy;rw [Fg DN];exact h.2 m y hy
 · rw [Ff hm] at hy
   rw [Ff DN,h.1];obtain ⟨i,hi⟩:∃i,m - l.length=i:=⟨_,rfl⟩;rw [hi] at hy ⊢
   cases i with
   | zero=>simp only [FQ,Fq] at hy;subst hy;exact ⟨d,rfl,hd⟩
   | succ i=>simp at hy
theorem Rep.LR.append {r:Rep α}{l l2:List α}(h:r.LR H K css l)(h2:r.LR H K css2 l2):r.LR H K (css++css2) (l++l2):=by
 refine ⟨by simp [h.1,h2.1],fun m y hy=>?_⟩;rcases GD m l.length with hm|hm
 · rw [Fg hm] at hy;rw [Fg DN];exact h.2 m y hy
 · rw [Ff hm] at hy;rw [Ff DN,h.1];exact h2.2 _ y hy
theorem Rep.LR.set {r:Rep α}{l:List α}{d:List Value}{x:α}{i:Nat}(h:r.LR H K css l)(hd:r.R H K d x):r.LR H K (css.set i d) (l.set i x):=by
 refine ⟨by simp [h.1],fun m y hy=>?_⟩;rw [Gz] at hy ⊢;by_cases he:i=m
 · rw [if_pos he] at hy ⊢
   rw [h.1];split at hy
   · rename_i hm;rw [if_pos hm];cases hy;exact ⟨d,rfl,hd⟩
   · cases hy
 · rw [if_neg he] at hy ⊢;exact h.2 m y hy
abbrev J4:=@Rep.LR.set
theorem Rep.LR.sub {r:Rep α}{l:List α}(h:r.LR H K css l)(i j:Nat):r.LR H K ((css.take j).drop i) ((l.take j).drop i):=by
 refine ⟨by simp [h.1],fun m y hy=>?_⟩;rw [G8] at hy ⊢;have hlt:=(E8.1 hy).1;rw [Gm] at hlt;rw [F5 Jo] at hy ⊢;exact h.2 _ y hy
theorem Rep.LR.one {r:Rep α}{l:List α}(h:r.LR H K css l):∀c∈css,∀u∈c,oneC u=true:=by
 intro c hc;obtain ⟨m,hm⟩:=Gf.1 hc;have hlt:=(E8.1 hm).1;obtain ⟨d,h1,h2⟩:=h.2 m _ (E7 (by rw [←h.1];exact hlt));rw [hm] at h1;cases h1;exact r.one h2
theorem Rep.LR.lens {r:Rep α}{l:List α}(h:r.LR H K css l):∀c∈css,c.length=r.es:=by
 intro c hc;obtain ⟨m,hm⟩:=Gf.1 hc;have hlt:=(E8.1 hm).1;obtain ⟨d,h1,h2⟩:=h.2 m _ (E7 (by rw [←h.1];exact hlt));rw [hm] at h1;cases h1;exact r.len h2
theorem Rep.SR.oneC {r:Rep α}{l:List α}(h:r.SR H K v l):Go.Lir.oneC v=true:=by
 obtain ⟨css,h1,_⟩:=h;exact JN h1
theorem Rep.SR.nil (r:Rep α)(H:KL)(K:Nat→Prop):r.SR H K (.slice none 0 0) []:=⟨[],⟨by simp,none,0,rfl,FE _, .inl rfl⟩, .nil r H K,by simp⟩
abbrev Gj:=@Rep.SR.nil
theorem Rep.SR.len {r:Rep α}{l:List α}(h:r.SR H K v l):l.length≤140737488355328:=by obtain ⟨_,_,_,h⟩:=h;exact h
theorem Rep.SR.shape {r:Rep α}{l:List α}(h:r.SR H K v l):∃a c,v= .slice a l.length c:=by
 obtain ⟨css,h1,h2,_⟩:=h;obtain ⟨a,c,hv⟩:=Mx.shape h1;exact ⟨a,c,by rw [←h2.1];exact hv⟩

abbrev Fx:=@Rep.SR.shape
theorem Rep.SR.nil_of {r:Rep α}{l:List α}{n c:Nat}(h:r.SR H K v l)(hv:v= .slice none n c):l=[]:=by
 obtain ⟨css,⟨_,a,cap,hv2,_,hc|⟨b,off,ha,_⟩⟩,h2,_⟩:=h
 · exact Gq (by rw [←h2.1,hc];rfl)
 · rw [hv,ha] at hv2;simp at hv2
abbrev Iu:=@Rep.SR.nil_of
def Rep.lit (f:α→Value)(hf:∀x,oneC (f x)=true):Rep α where
 es:=1
 pos:=by decide
 R:=fun _ _ cs x=>cs=[f x]
 len:=by rintro _ _ _ _ rfl;rfl
 one:=by rintro _ _ _ x rfl u hu;simp at hu;subst hu;exact hf x
 turn:=fun h _=>h
def Kh:Rep Int:=Rep.lit (fun n=> .int .i64 n) (fun _=>rfl)
def Rep.list (r:Rep α):Rep (List α) where
 es:=1
 pos:=by decide
 R:=fun H K cs l=>∃v,cs=[v]∧r.SR H K v l
 len:=by rintro _ _ _ _ ⟨v,rfl,_⟩;rfl
 one:=by rintro _ _ _ _ ⟨v,rfl,h⟩ u hu;simp at hu;subst hu;exact h.oneC
 turn:=by rintro _ _ _ _ _ _ ⟨v,rfl,h⟩ hs;exact ⟨v,rfl,h.turn hs⟩
def Rep.and (r:Rep α)(p:α→Prop):Rep α where
 es:=r.es
 pos:=r.pos
 R:=fun H K cs x=>r.R H K cs x∧p x
 len:=fun h=>r.len h.1
 one:=fun h=>r.one h.1
 turn:=fun h hs=>⟨r.turn h.1 hs,h.2⟩
def Ku:Rep Ty where
 es:=3
 pos:=by decide
 R:=fun H K cs t=>∃n,MF H K n cs t
 len:=by rintro _ _ _ _ ⟨n,h⟩;exact h.len
 one:=by
  rintro _ _ _ _ ⟨n,h⟩
  cases n with
  | zero=>exact h.elim
  | succ n=>
    obtain ⟨v,css,rfl,h2,_⟩:=h;intro u hu;simp at hu;rcases hu with rfl|rfl|rfl
    · rfl
    · rfl
    · exact JN h2
 turn:=by rintro _ _ _ _ _ _ ⟨n,h⟩ hs;exact ⟨n,h.turn fun v css hv=>hv.turn hs⟩
theorem Qf {t:Ty}(h:Ku.R H K cs t):∃v,cs=[.int .i64 t.kind, .int .i64 t.r,v]∧Ku.SR H K v t.l:=by
 obtain ⟨n,h⟩:=h
 cases n with
 | zero=>exact h.elim
 | succ n=>
   obtain ⟨v,css,h1,h2,h3,h4,h5⟩:=h;exact ⟨v,h1,css,h2,⟨h3,fun m x hx=>by obtain ⟨d,h6,h7⟩:=h5 m x hx;exact ⟨d,h6,n,h7⟩⟩,h4⟩
theorem PB {k r:Int}{l:List Ty}(h:Ku.SR H K v l):Ku.R H K [.int .i64 k, .int .i64 r,v] (.mk k r l):=by
 obtain ⟨css,h1,h2,h3⟩:=h
 obtain ⟨n,hn⟩:=nL (xs:=List.range l.length) (R:=fun n m=>∀x,l[m]?=some x→∃d,css[m]?=some d∧MF H K n d x) (fun n m i hnm hr x hx=>by obtain ⟨d,h1,h2⟩:=hr x hx;exact ⟨d,h1,h2.more hnm⟩) (fun m hm=>by
  have hlt:=FX.1 hm;obtain ⟨d,h4,n,h5⟩:=h2.2 m _ (E7 hlt);exact ⟨n,fun x hx=>by rw [E7 hlt] at hx;cases hx;exact ⟨d,h4,h5⟩⟩)
 exact ⟨n+1,v,css,rfl,h1,h2.1,h3,fun m x hx=>hn m (FX.2 (E8.1 hx).1) x hx⟩

abbrev Rep.at (r:Rep α)(c:Cx)(cs:List Value)(x:α):Prop:=r.R c.H0 c.K cs x
abbrev Rep.sl (r:Rep α)(c:Cx)(v:Value)(l:List α):Prop:=r.SR c.H0 c.K v l
abbrev Rep.ls (r:Rep α)(c:Cx)(css:List (List Value))(l:List α):Prop:=r.LR c.H0 c.K css l
theorem Cx.Le.turn {c c':Cx}(h:c.Le c'):∀b,c.K b→b<c.H0.size→c'.K b∧c'.H0[b]?=c.H0[b]?:=fun b hb _=>h.K b hb
theorem Rep.R.up {r:Rep α}{c c':Cx}{x:α}(h:r.at c cs x)(hle:c.Le c'):r.at c' cs x:=r.turn h hle.turn
abbrev JO:=@Rep.R.up
theorem Rep.SR.up {r:Rep α}{c c':Cx}{l:List α}(h:r.sl c v l)(hle:c.Le c'):r.sl c' v l:=Rep.SR.turn h hle.turn
abbrev Gc:=@Rep.SR.up
theorem Rep.LR.up {r:Rep α}{c c':Cx}{v:List (List Value)}{l:List α}(h:r.ls c v l)(hle:c.Le c'):r.ls c' v l:=Rep.LR.turn h hle.turn
abbrev Jp:=@Rep.LR.up
theorem St.freezeL {r:Rep α}{c:Cx}{L:List Res}{T:TypeId}{es:Nat}{v:Value}{css:List (List Value)}{l:List α}(h:St c w (sl T es v css::L))(hl:r.ls c css l)(hes:r.es=es)(hm:l.length≤140737488355328):∃c',c.Le c'∧St c' w L∧r.sl c' v l:=by
 subst hes;obtain ⟨c',h1,h2,h3⟩:=h.freezeS;exact ⟨c',h1,h2,css,h3,hl.up h1,hm⟩
abbrev Gp:=@St.freezeL
theorem Rep.SR.ints {c:Cx}{l:List Int}(h:Kh.sl c v l):NQ c 1 v (l.map Qr):=by
 obtain ⟨css,h1,h2,h3⟩:=h
 have:css=l.map Qr:=by
  apply GY;intro m;rw [Fy];rcases GD m l.length with hm|hm
  · obtain ⟨d,h4,h5⟩:=h2.2 m _ (E7 hm);have h5:d=[_]:=h5;rw [h4,E7 hm,h5];rfl
  · rw [FI (by rw [h2.1];exact hm),FI hm];rfl
 rw [this] at h1;exact h1
theorem NQ.ints {c:Cx}{l:List Int}(h:NQ c 1 v (l.map Qr))(hm:l.length≤140737488355328):Kh.sl c v l:=
 ⟨_,h,⟨by simp,fun m x hx=>⟨Qr x,by rw [Fy,hx];rfl,rfl⟩⟩,hm⟩

section
variable {P:Program}{l:List GO}{Q:QT}{ρ:KI}{w:World}{c:Cx}{L:List Res}{r:Rep α}{xs:List α}{v:Value}{es:Nat}
theorem fJ {d:Nat}{x y:Operand}{n:Int}(hx:ρ.ev x=v)(hy:ρ.ev y= .int k n)(hK:r.sl c v xs)(hes:r.es=es)(h0:0≤n)(hn:n<xs.length)
 (h:∀b o cs a,OL c b o cs→xs[n.toNat]?=some a→r.at c cs a→Q0 P l Q (upd ρ d (.pointer (some ⟨b,o,none⟩))) w):Q0 P (⟨none, .idx d es x y⟩::l) Q ρ w:=by
 subst hes;obtain ⟨css,h1,h2,h3⟩:=hK;have hn':n.toNat<xs.length:=Df;obtain ⟨cs,h4,h5⟩:=h2.2 n.toNat _ (E7 hn');exact TK (m:=n.toNat) hx (by rw [hy,FO h0]) h1 h4 fun b o hb=>h b o cs _ hb (E7 hn') h5
theorem TY {d m:Nat}{x y:Operand}(hx:ρ.ev x=v)(hy:ρ.ev y= .int k (m:Int))(hK:r.sl c v xs)(hes:r.es=es)(hn:m<xs.length)
 (h:∀b o cs a,OL c b o cs→xs[m]?=some a→r.at c cs a→Q0 P l Q (upd ρ d (.pointer (some ⟨b,o,none⟩))) w):Q0 P (⟨none, .idx d es x y⟩::l) Q ρ w:=by
 subst hes;obtain ⟨css,h1,h2,h3⟩:=hK;obtain ⟨cs,h4,h5⟩:=h2.2 m _ (E7 hn);exact TK (m:=m) hx hy h1 h4 fun b o hb=>h b o cs _ hb (E7 hn) h5
theorem Q1 {l:List α}{x:α}(h:l[m]?=some x):l.drop m=x::l.drop (m+1):=by
 obtain ⟨hm,rfl⟩:=E8.1 h;exact I8 hm
theorem TZ {l:List α}{x:α}(h:l[m]?=some x):l.take (m+1)=l.take m++[x]:=by
 rw [H3,h];rfl
theorem QG {n:Int}(h:Kh.at c cs n):cs=[.int .i64 n]:=h
theorem nN:∀{L:List Res}{i:Nat}{a a':Res},nth L i=some a→nth (L.set i a') i=some a'
 | [],_,_,_,h=>by cases h
 | _::_,0,_,_,_=>rfl
 | _::L,i+1,_,_,h=>nN (L:=L) (i:=i) h
theorem XH {T T' d Ty i k:Nat}{z:List Value}{x y:Operand}{a:α}(hel:Ns P Ts=some (T,es,nb,z))
 (hts:∃e2,P.underlying Ts2=some (.slice e2))(hS:St c w L)(hx:ρ.ev x=v)(hy:ρ.ev y= .slice (some ⟨b,0,none⟩) 1 1)(hi:nth L i=some (Go.Lir.sl T es v css))(hk:nth L k=some (blk b T' ds))(hls:r.ls c css xs)(ha:r.at c ds a)(hes:r.es=es)(hb:(xs.length+1)*nb≤140737488355328)
 (h : ∀ v' w' css', r.ls c css' (xs ++ [a]) → oneC v' = true → St c w' (L.set i (Go.Lir.sl T es v' css')) → Q0 P l Q (upd ρ d v') w'): Q0 P (⟨none, .raw ⟨some d, .call ⟨.builtin .append, #[x, y], #[Ts, Ts2]⟩, Ty, "", #[], none⟩⟩ :: l) Q ρ w :=
 NL hel (.inl hts) hS hx hy hi (hS.srcB hk ((r.len ha).trans hes) (r.one ha)) (by rw [hls.1];exact hb) fun v' w' hS'=>h v' w' _ (hls.push ha) (hS'.oneC (nN hi)) hS'
theorem XI {T d Ty i:Nat}{z:List Value}{x y:Operand}{ys:List α}(hel:Ns P Ts=some (T,es,nb,z))
 (hts:∃e2,P.underlying Ts2=some (.slice e2))(hS:St c w L)(hx:ρ.ev x=v)(hy:ρ.ev y=v2)(hi:nth L i=some (Go.Lir.sl T es v css))(hls:r.ls c css xs)(hK:r.sl c v2 ys)(hes:r.es=es)(hb:(xs.length+ys.length)*nb≤140737488355328)
 (h : ∀ v' w' css', r.ls c css' (xs ++ ys) → oneC v' = true → St c w' (L.set i (Go.Lir.sl T es v' css')) → Q0 P l Q (upd ρ d v') w'): Q0 P (⟨none, .raw ⟨some d, .call ⟨.builtin .append, #[x, y], #[Ts, Ts2]⟩, Ty, "", #[], none⟩⟩ :: l) Q ρ w := by
 subst hes;obtain ⟨css2,h1,h2,h3⟩:=hK;exact NL hel (.inl hts) hS hx hy hi (NQ.src h1 hS h2.one) (by rw [hls.1,h2.1];exact hb) fun v' w' hS'=>h v' w' _ (hls.append h2) (hS'.oneC (nN hi)) hS'
theorem se {d:Nat}{x:Operand}(hx:ρ.ev x= .func (.func f) #[] #[])(hf:Sa P f=true)(hxs:os.map ρ.ev=args)(hc:Kf P f args w S)
 (h:∀v w',S v w'→Q0 P l Q (upd ρ d v) w'):Q0 P (⟨none, .callv (some d) x os⟩::l) Q ρ w:=by
 unfold Sa at hf;rw [Ix] at hf;obtain ⟨fn,h1,h2⟩:=hf;rw [Fj,GH] at h2;refine rK (cap:=[]) hx h1 h2.1 h2.2 (by rw [hxs,Gk]) hc ?_;rintro e w' ⟨v,rfl,hv⟩;exact h v w' hv
theorem iw {d:Nat}{x:Operand}{o:Nat}{u:Value}(hS:St c w L)(ha:OL c b o cs)(hx:ρ.ev x= .pointer (some ⟨b,o,none⟩))(hu:cs[0]?=some u):Nr P ρ w ⟨none, .load1 d x⟩ u:=fI (j:=0) hS ha hx hu
theorem nO {d n:Nat}{x:Operand}{o:Nat}(hS:St c w L)(ha:OL c b o cs)(hx:ρ.ev x= .pointer (some ⟨b,o,none⟩))(hu:cs.take n=us)(hl:us.length=n):Nr P ρ w ⟨none, .loadn d n x⟩ (.agg ⟨us⟩):=nG (j:=0) hS ha hx hu hl
theorem xk {n i T:Nat}{x y:Operand}(hS:St c w L)(hx:ρ.ev x= .pointer (some ⟨b,0,none⟩))(hy:ρ.ev y= .agg ⟨us⟩)(hn:us.length=n)(hi:nth L i=some (blk b T cs))(hc:cs.length=n)(h1:∀u∈us,oneC u=true)
 (h:∀w',St c w' (L.set i (blk b T us))→Q0 P l Q ρ w'):Q0 P (⟨none, .storen n x y⟩::l) Q ρ w:=
 SM hS hx hy hn hi Jo h1 Di h
theorem nz:∀{a b:List GO}{Q:QT}{ρ:KI}{w:World},Q0 P a (Qs (Q0 P b Q) Q) ρ w→Q0 P (a++b) Q ρ w
 | [],_,_,_,_,h=>h
 | ⟨none,o⟩::a,b,Q,ρ,w,h=>by
   simp only [Gu,Q0] at h ⊢;exact Cq
 | ⟨some (s,b'),o⟩::a,b,Q,ρ,w,h=>by
   simp only [Gu,Q0] at h ⊢;split
   · rename_i hw;rw [if_pos hw] at h;exact Cq
   · rename_i hw;rw [if_neg hw] at h;exact nz h
theorem ix {l:List GO}(n:Nat)(J:KI→World→Prop)(ha:Q0 P (l.take n) (Qs J Q) ρ w)(hb:∀ρ w,J ρ w→Q0 P (l.drop n) Q ρ w):Q0 P l Q ρ w:=by
 rw [←GU n l];exact nz (nn (lj hb fun _ _ _ h=>h) ha)
theorem iy {d:Nat}{x:Operand}(hx:ρ.ev x=v)(hK:r.sl c v xs)(h:Q0 P l Q (upd ρ d (.int .i64 xs.length)) w):Q0 P (⟨none, .len d x⟩::l) Q ρ w:=by
 obtain ⟨css,h1,h2,h3⟩:=hK;exact XG hx h1 h2.1 h
theorem iz {d:Nat}{x:Operand}{hi:Option Operand}(hx:ρ.ev x=v)(hK:r.sl c v xs)(hes:r.es=es)(hmx:mx=none)(hh:ML ρ xs.length hi h')(hl:ML ρ 0 lo l')(h2:h'≤xs.length)(h3:l'≤h')
 (h:∀v',r.sl c v' ((xs.take h').drop l')→Q0 P l Q (upd ρ d v') w):Q0 P (⟨none, .sub d es x lo hi mx⟩::l) Q ρ w:=by
 subst hes;obtain ⟨css,h1,g2,g3⟩:=hK;exact bx hx h1 hmx (by rw [g2.1];exact hh) hl (by rw [g2.1];exact h2) h3 fun v' hv=>h v' ⟨_,hv,g2.sub _ _,by simp;omega⟩
end
end

section
variable {P:Program}{T e:TypeId}{α β:Type}
def Cod.rep (c:Cod P T α)(r:Rep β)(hs:c.es=r.es)(h:∀(H:KL) cs x,c.rd H cs x→∃y,r.R H (· < H.size) cs y):Cod P T β where
 es:=r.es
 rd:=fun H cs y=>r.R H (· < H.size) cs y
 size:=by rw [←hs];exact c.size
 len:=fun _ _ _ h=>r.len h
 stay:=fun H H' cs x hx hH=>r.turn hx fun b hb hlt=>by
  have:=hH b hlt;refine ⟨?_,this⟩;rcases GD b H'.size with h|h
  · exact h
  · rw [GP h,GW hlt] at this;cases this
 open_:=fun enc w fuel cs y hy hfit=>by
  obtain ⟨x,hx⟩:=c.open_ enc w fuel cs y hy hfit;exact h _ _ _ hx
theorem XJ {r:Rep α}{n:Nat}{xs:List α}(hn:r.es=n)
 (h:∃v css,cs=[v]∧Mx H n v (fun _=>True) css∧css.length=xs.length∧xs.length≤140737488355328∧∀(m:Nat) (x:α),xs[m]?=some x→∃d,css[m]?=some d∧r.R H (· < H.size) d x):r.list.R H (· < H.size) cs xs:=by
 obtain ⟨v,css,rfl,h1,h2,h3,h4⟩:=h;subst hn;exact ⟨v,rfl,css,IC h1 fun b hb _=>hb,⟨h2,h4⟩,h3⟩
def Cod.listOf (c:Cod P e β)(r:Rep β)(hs:c.es=r.es)(h:∀(H:KL) cs x,c.rd H cs x→r.R H (· < H.size) cs x)(ht:P.underlying T=some (.slice e))(h1:P.cellsOf T=1)(hby:decide (0<P.bytesOf e)=true):Cod P T (List β):=
 Cod.rep (Cod.slice c ht h1 (by rw [hs];exact r.pos) hby) r.list rfl fun H cs x hx=>⟨x,XJ hs.symm (by
  obtain ⟨v,css,g1,g2,g3,g4,g5⟩:=hx;exact ⟨v,css,g1,g2,g3,g4,fun m y hy=>by obtain ⟨d,g6,g7⟩:=g5 m y hy;exact ⟨d,g6,h _ _ _ g7⟩⟩)⟩
structure Cod.Of (P:Program) (T:TypeId){α:Type}(r:Rep α) where
 cod:Cod P T α
 es:cod.es=r.es
 rd:∀(H:KL) cs x,cod.rd H cs x→r.R H (· < H.size) cs x
def Cod.of (c:Cod P T α)(r:Rep β)(hs:c.es=r.es)(h:∀(H:KL) cs x,c.rd H cs x→∃y,r.R H (· < H.size) cs y):Cod.Of P T r:=⟨Cod.rep c r hs h,rfl,fun _ _ _ h=>h⟩
def Cod.Of.list {r:Rep α}(c:Cod.Of P e r)(ht:P.underlying T=some (.slice e))(h1:P.cellsOf T=1)(hby:decide (0<P.bytesOf e)=true):Cod.Of P T r.list:=⟨Cod.listOf c.cod r c.es c.rd ht h1 hby,rfl,fun _ _ _ h=>h⟩
def Cod.Of.int (ht:P.underlying T=some (.int .i64))(hs:P.cellsOf T=1):Cod.Of P T Kh:=Cod.of (Cod.int .i64 ht hs) Kh rfl fun _ _ x h=>⟨x,h.1⟩
def Cod.Of.ty {TL t0 t1:TypeId}(h0:fieldAt P T 0=some (0,1,t0))(h1:fieldAt P T 1=some (1,1,t1))(h2:fieldAt P T 2=some (2,1,TL))(hi0:P.underlying t0=some (.int .i64))(hi1:P.underlying t1=some (.int .i64))(hT:P.cellsOf T=3)(hTL:P.underlying TL=some (.slice T))(hby:decide (0<P.bytesOf T)=true):Cod.Of P T Ku:=
 ⟨Cod.ty h0 h1 h2 hi0 hi1 hT hTL hby,rfl,fun _ _ _ h=>h⟩
theorem Cod.Of.top {r:Rep α}(c:Cod.Of P T r){x:α}(h:c.cod.rd w.heap cs x):r.at (Cx.top w) cs x:=c.rd _ _ _ h
end
end
section
mutual
def Ty.size:Ty→Int→Int
 | .mk _ _ l,left=>Tys.size l (left - 1)
def Tys.size:List Ty→Int→Int
 | [],left=>left
 | x::l,left=>if 0≤left then Tys.size l (x.size left) else left
end
theorem Tys.size_neg:∀(l:List Ty){left:Int},left<0→Tys.size l left=left
 | [],_,_=>by simp [Tys.size]
 | x::l,left,h=>by rw [Tys.size,if_neg Jo]
abbrev HO:=@Tys.size_neg
mutual
def Ty.deepB:Ty→Int→Bool
 | .mk _ _ l,left=>if left<0 then false else Tys.deepB l (left - 1)
def Tys.deepB:List Ty→Int→Bool
 | [],_=>true
 | x::l,left=>x.deepB left && Tys.deepB l left
end
mutual
def Ty.depth:Ty→Int→Int
 | .mk _ _ l,most=>Tys.depth l most 0
def Tys.depth:List Ty→Int→Int→Int
 | [],_,n=>n
 | x::l,most,n=>if n≤most then (if most=0 then 1 else Tys.depth l most (if n<1+x.depth (most - 1) then 1+x.depth (most - 1) else n)) else n
end
mutual
theorem Ty.depth_iff:∀(t:Ty){most:Int},0≤most→(t.depth most≤most↔t.deepB most=true)
 | .mk _ _ l,most,h=>by
   rw [Ty.depth,Ty.deepB,if_neg Jo,Tys.depth_iff l h];exact ⟨fun h=>h.2,fun h2=>⟨h,h2⟩⟩
theorem Tys.depth_iff:∀(l:List Ty){most n:Int},0≤most→(Tys.depth l most n≤most↔n≤most∧Tys.deepB l (most - 1)=true)
 | [],most,n,h=>by rw [Tys.depth,Tys.deepB];simp
 | x ::l,most,n,h=>by
   rw [Tys.depth,Tys.deepB];by_cases hn:n≤most
   · rw [if_pos hn]
     by_cases h0:most=0
     · rw [if_pos h0];have:x.deepB (most - 1)=false:=(by obtain ⟨k,r,l2⟩:=x;rw [Ty.deepB,if_pos Jo]);rw [this];simp;omega
     · rw [if_neg h0,Tys.depth_iff l h]
       have:=Ty.depth_iff x (most:=most - 1) Jo;rw [Fj,←this];constructor
       · rintro ⟨h1,h2⟩;split at h1<;>exact ⟨Jo,Jo,h2⟩
       · rintro ⟨h1,h2,h3⟩;refine ⟨?_,h3⟩;split<;>omega
   · rw [if_neg hn];exact ⟨fun h=>absurd h hn,fun h=>h.1⟩
end
mutual
def Ty.same:Ty→Ty→Bool
 | .mk k r l, .mk k2 r2 l2=>decide (k=k2) && decide (r=r2) && Tys.same l l2
def Tys.same:List Ty→List Ty→Bool
 | [],[]=>true
 | x::l,y::m=>x.same y && Tys.same l m
 | [],_::_=>false
 | _::_,[]=>false
end
mutual
theorem Ty.same_iff:∀(t u:Ty),t.same u=true↔t=u
 | .mk k r l, .mk k2 r2 l2=>by
   rw [Ty.same,Fj,Fj,Tys.same_iff l l2];simp only [decide_eq_true_eq,Ty.mk.injEq,and_assoc]
theorem Tys.same_iff:∀(l m:List Ty),Tys.same l m=true↔l=m
 | [],[]=>by simp [Tys.same]
 | x::l,y::m=>by rw [Tys.same,Fj,Ty.same_iff x y,Tys.same_iff l m];simp
 | [],_::_=>by simp [Tys.same]
 | _::_,[]=>by simp [Tys.same]
end
instance:DecidableEq Ty:=fun t u=>decidable_of_iff _ (Ty.same_iff t u)
mutual
def Ty.wrong (fields:Nat):Ty→Int→Int
 | .mk k r l,regs=>
   if k<1∨4<k then 3 else if k=1∧r≠0∨k≠3∧0<l.length then 4 else if fields<l.length then 2 else if k≠1∧(r<0∨regs≤r) then 1 else Tys.wrong fields l regs
def Tys.wrong (fields:Nat):List Ty→Int→Int
 | [],_=>0
 | x::l,regs=>if x.wrong fields regs≠0 then x.wrong fields regs else Tys.wrong fields l regs
end
mutual
def Ty.ren:Ty→List Int→Option Ty
 | .mk k r l,to=>if k≠1∧(r<0∨(to.length:Int)≤r∨to.getD r.toNat 0<0) then none else
   match Tys.ren l to with
   | none=>none
   | some m=>some (.mk k (if k≠1 then to.getD r.toNat 0 else r) m)
def Tys.ren:List Ty→List Int→Option (List Ty)
 | [],_=>some []
 | x ::l,to=>match x.ren to with
   | none=>none
   | some y=>match Tys.ren l to with
     | none=>none
     | some m=>some (y::m)
end
mutual
theorem Ty.ren_ren {f g h:List Int}(hfg:∀i:Nat,i<f.length→0≤f.getD i 0∧f.getD i 0<g.length∧0≤g.getD (f.getD i 0).toNat 0∧i<h.length∧h.getD i 0=g.getD (f.getD i 0).toNat 0):
 ∀(t u:Ty),t.ren f=some u→∃v,u.ren g=some v∧t.ren h=some v
 | .mk k r l,u,ht=>by
   rw [Ty.ren] at ht;split at ht
   · cases ht
   · rename_i hc
     cases hl:Tys.ren l f with
     | none=>rw [hl] at ht;cases ht
     | some m=>
       rw [hl] at ht;simp only [Fq] at ht;obtain ⟨m2,h1,h2⟩:=Tys.ren_ren hfg l m hl;subst ht;by_cases hk:k=1
       · refine ⟨.mk k r m2,?_,?_⟩
         · rw [Ty.ren,if_neg Jo,h1];simp [hk]
         · rw [Ty.ren,if_neg Jo,h2];simp [hk]
       · have:=hfg r.toNat Jo
         refine ⟨.mk k (g.getD (f.getD r.toNat 0).toNat 0) m2,?_,?_⟩
         · rw [Ty.ren,if_pos hk,if_neg Jo,h1];simp [hk]
         · rw [Ty.ren,if_neg Jo,h2];simp only [if_pos hk,this.2.2.2.2]
theorem Tys.ren_ren {f g h:List Int}(hfg:∀i:Nat,i<f.length→0≤f.getD i 0∧f.getD i 0<g.length∧0≤g.getD (f.getD i 0).toNat 0∧i<h.length∧h.getD i 0=g.getD (f.getD i 0).toNat 0):
 ∀(t u:List Ty),Tys.ren t f=some u→∃v,Tys.ren u g=some v∧Tys.ren t h=some v
 | [],u,ht=>by rw [Tys.ren] at ht;cases ht;exact ⟨[],by rw [Tys.ren],by rw [Tys.ren]⟩
 | x ::l,u,ht=>by
   rw [Tys.ren] at ht
   cases hx:x.ren f with
   | none=>rw [hx] at ht;cases ht
   | some y=>
     rw [hx] at ht
     cases hl:Tys.ren l f with
     | none=>rw [hl] at ht;cases ht
     | some m=>
       rw [hl] at ht;simp only [Fq] at ht;subst ht;obtain ⟨y2,a1,a2⟩:=Ty.ren_ren hfg x y hx;obtain ⟨m2,b1,b2⟩:=Tys.ren_ren hfg l m hl;exact ⟨y2::m2,by rw [Tys.ren,a1,b1],by rw [Tys.ren,a2,b2]⟩
end
mutual
theorem Ty.ren_wrong {fields:Nat}{f:List Int}(hf:∀i:Nat,i<f.length→0≤f.getD i 0∧f.getD i 0<f.length):∀(t u:Ty),t.ren f=some u→u.wrong fields f.length=t.wrong fields f.length
 | .mk k r l,u,ht=>by
   rw [Ty.ren] at ht;split at ht
   · cases ht
   · rename_i hc
     cases hl:Tys.ren l f with
     | none=>rw [hl] at ht;cases ht
     | some m=>
       rw [hl] at ht;simp only [Fq] at ht;subst ht;obtain ⟨h1,h2⟩:=Tys.ren_wrong (fields:=fields) hf l m hl;by_cases hk:k=1
       · rw [Ty.wrong,Ty.wrong,h1,h2];simp [hk]
       · have:=hf r.toNat Jo;rw [Ty.wrong,Ty.wrong,h1,h2];simp only [if_pos hk];rw [if_neg (show¬(k≠1∧(f.getD r.toNat 0<0∨(f.length:Int)≤f.getD r.toNat 0)) by omega),if_neg (show¬(k≠1∧(r<0∨(f.length:Int)≤r)) by omega)];simp [hk]
theorem Tys.ren_wrong {fields:Nat}{f:List Int}(hf:∀i:Nat,i<f.length→0≤f.getD i 0∧f.getD i 0<f.length):∀(t u:List Ty),Tys.ren t f=some u→u.length=t.length∧Tys.wrong fields u f.length=Tys.wrong fields t f.length
 | [],u,ht=>by rw [Tys.ren] at ht;cases ht;exact ⟨rfl,rfl⟩
 | x ::l,u,ht=>by
   rw [Tys.ren] at ht
   cases hx:x.ren f with
   | none=>rw [hx] at ht;cases ht
   | some y=>
     rw [hx] at ht
     cases hl:Tys.ren l f with
     | none=>rw [hl] at ht;cases ht
     | some m=>
       rw [hl] at ht;simp only [Fq] at ht;subst ht;obtain ⟨h1,h2⟩:=Tys.ren_wrong (fields:=fields) hf l m hl;exact ⟨by simp [h1],by rw [Tys.wrong,Tys.wrong,Ty.ren_wrong hf x y hx,h2]⟩
end
mutual
theorem Ty.ren_none {fields:Nat}{f:List Int}(hf:∀i:Nat,i<f.length→0≤f.getD i 0):∀(t:Ty),t.ren f=none→t.wrong fields f.length≠0
 | .mk k r l,ht=>by
   rw [Ty.wrong];rw [Ty.ren] at ht;split
   · decide
   · split
     · decide
     · split
       · decide
       · split
         · decide
         · rename_i h1 h2 h3 h4
           have hc:¬(k≠1∧(r<0∨(f.length:Int)≤r∨f.getD r.toNat 0<0)):=by
            rintro ⟨a,b⟩;have:=hf r.toNat;omega
           rw [if_neg hc] at ht
           cases hl:Tys.ren l f with
           | none=>exact Tys.ren_none hf l hl
           | some m=>rw [hl] at ht;cases ht
theorem Tys.ren_none {fields:Nat}{f:List Int}(hf:∀i:Nat,i<f.length→0≤f.getD i 0):∀(t:List Ty),Tys.ren t f=none→Tys.wrong fields t f.length≠0
 | [],ht=>by rw [Tys.ren] at ht;cases ht
 | x ::l,ht=>by
   rw [Tys.ren] at ht;rw [Tys.wrong];split
   · rename_i h;exact h
   · rename_i h
     cases hx:x.ren f with
     | none=>exact absurd hx (fun hx=>h (Ty.ren_none hf x hx))
     | some y=>
       rw [hx] at ht
       cases hl:Tys.ren l f with
       | none=>exact Tys.ren_none hf l hl
       | some m=>rw [hl] at ht;cases ht
end
mutual
theorem Ty.ren_deep {f:List Int}:∀(t u:Ty) (left:Int),t.ren f=some u→u.deepB left=t.deepB left
 | .mk k r l,u,left,ht=>by
   rw [Ty.ren] at ht;split at ht
   · cases ht
   · cases hl:Tys.ren l f with
     | none=>rw [hl] at ht;cases ht
     | some m=>
       rw [hl] at ht;simp only [Fq] at ht;subst ht;rw [Ty.deepB,Ty.deepB,Tys.ren_deep l m (left - 1) hl]
theorem Tys.ren_deep {f:List Int}:∀(t u:List Ty) (left:Int),Tys.ren t f=some u→Tys.deepB u left=Tys.deepB t left
 | [],u,_,ht=>by rw [Tys.ren] at ht;cases ht;rfl
 | x ::l,u,left,ht=>by
   rw [Tys.ren] at ht
   cases hx:x.ren f with
   | none=>rw [hx] at ht;cases ht
   | some y=>
     rw [hx] at ht
     cases hl:Tys.ren l f with
     | none=>rw [hl] at ht;cases ht
     | some m=>
       rw [hl] at ht;simp only [Fq] at ht;subst ht;rw [Tys.deepB,Tys.deepB,Ty.ren_deep x y left hx,Tys.ren_deep l m left hl]
end
mutual
theorem Ty.ren_id {f:List Int}(hf:∀i:Nat,i<f.length→f.getD i 0=i):∀(t u:Ty),t.ren f=some u→u=t
 | .mk k r l,u,ht=>by
   rw [Ty.ren] at ht;split at ht
   · cases ht
   · rename_i hc
     cases hl:Tys.ren l f with
     | none=>rw [hl] at ht;cases ht
     | some m=>
       rw [hl] at ht;simp only [Fq] at ht;subst ht;rw [Tys.ren_id hf l m hl];by_cases hk:k=1
       · simp [hk]
       · have:=hf r.toNat Jo;rw [if_pos hk,this,FO Jo]
theorem Tys.ren_id {f:List Int}(hf:∀i:Nat,i<f.length→f.getD i 0=i):∀(t u:List Ty),Tys.ren t f=some u→u=t
 | [],u,ht=>by rw [Tys.ren] at ht;cases ht;rfl
 | x ::l,u,ht=>by
   rw [Tys.ren] at ht
   cases hx:x.ren f with
   | none=>rw [hx] at ht;cases ht
   | some y=>
     rw [hx] at ht
     cases hl:Tys.ren l f with
     | none=>rw [hl] at ht;cases ht
     | some m=>
       rw [hl] at ht;simp only [Fq] at ht;subst ht;rw [Ty.ren_id hf x y hx,Tys.ren_id hf l m hl]
end
theorem Ty.ind {p:Ty→Prop}(h:∀k r l,(∀x∈l,p x)→p (.mk k r l)):∀t,p t
 | .mk k r l=>h k r l fun x hx=>Ty.ind h x
termination_by t=>SizeOf.sizeOf t
decreasing_by
 have:=Ig hx;simp only [Ty.mk.sizeOf_spec];omega
abbrev Hg:=@Ty.ind
mutual
theorem Ty.size_rng:∀(t:Ty){left:Int},0≤left→-1≤t.size left∧t.size left<left
 | .mk _ _ l,left,h=>by
   rw [Ty.size];have:=Tys.size_rng l (left:=left - 1) Jo;omega
theorem Tys.size_rng:∀(l:List Ty){left:Int}, -1≤left→-1≤Tys.size l left∧Tys.size l left≤left
 | [],left,h=>by rw [Tys.size];omega
 | x ::l,left,h=>by
   rw [Tys.size];split
   · rename_i h0;have h1:=Ty.size_rng x h0;have h2:=Tys.size_rng l (left:=x.size left) h1.1;omega
   · omega
end
mutual
theorem Ty.size_mono:∀(t:Ty){a b:Int},a≤b→-1≤a→t.size a≤t.size b
 | .mk _ _ l,a,b,h,ha=>by
   rw [Ty.size,Ty.size];by_cases h0:0≤a
   · exact Tys.size_mono l Jo Jo
   · rw [HO l Jo]
     by_cases hb:0≤b
     · have:=Tys.size_rng l (left:=b - 1) Jo;omega
     · rw [HO l Jo];omega
theorem Tys.size_mono:∀(l:List Ty){a b:Int},a≤b→-1≤a→Tys.size l a≤Tys.size l b
 | [],a,b,h,_=>by rw [Tys.size,Tys.size];exact h
 | x ::l,a,b,h,ha=>by
   by_cases h0:0≤a
   · rw [Tys.size,Tys.size,if_pos h0,if_pos Jo];exact Tys.size_mono l (Ty.size_mono x h ha) (Ty.size_rng x h0).1
   · rw [HO _ Jo];have:=Tys.size_rng (x::l) (left:=b) Jo;omega
end
theorem Tys.size_len:∀(l:List Ty){left:Int},0≤Tys.size l left→-1≤left→(l.length:Int)≤left∧∀x∈l,0≤x.size left
 | [],left,h,_=>by rw [Tys.size] at h;simp;exact h
 | x ::l,left,h,hl=>by
   rw [Tys.size] at h;split at h
   · rename_i h0
     have h1:=Ty.size_rng x h0;have h2:=Tys.size_len l h h1.1;have h3:=Tys.size_rng l (left:=x.size left) h1.1;refine ⟨by simp only [Fk];omega,fun y hy=>?_⟩;rcases FA.1 hy with rfl|hy
     · omega
     · exact Int.le_trans (h2.2 y hy) (Ty.size_mono y Jo h1.1)
   · omega
abbrev Jy:=@Tys.size_len
def Ty.fault (t:Ty)(regs:Int):Int:=if t.deepB 4=false then 19 else t.wrong 8 regs
mutual
theorem Ty.depth_rng:∀(t:Ty){most:Int},0≤most→0≤t.depth most∧t.depth most≤most+1
 | .mk _ _ l,most,h=>by
   rw [Ty.depth];exact Tys.depth_rng l h Jo Jo
theorem Tys.depth_rng:∀(l:List Ty){most n:Int},0≤most→0≤n→n≤most+1→0≤Tys.depth l most n∧Tys.depth l most n≤most+1
 | [],most,n,_,h1,h2=>by rw [Tys.depth];omega
 | x ::l,most,n,h,h1,h2=>by
   rw [Tys.depth];split
   · split
     · omega
     · have:=Ty.depth_rng x (most:=most - 1) Jo;exact Tys.depth_rng l h (by split<;>omega) (by split<;>omega)
   · omega
end
inductive Ty.Short:Ty→Prop where
 | mk {k r:Int}{l:List Ty}:l.length≤100000→(∀x∈l,x.Short)→Ty.Short (.mk k r l)
theorem Ty.Short.parts {k r:Int}{l:List Ty}(h:(Ty.mk k r l).Short):l.length≤100000∧∀x∈l,x.Short:=by
 cases h with|mk h1 h2=>exact ⟨h1,h2⟩
theorem Ty.short_of_size:∀(t:Ty){n:Int},n≤100000→0≤n→0≤t.size n→t.Short:=by
 intro t
 induction t using Hg with
 | h k r l ih=>
   intro n h1 h0 h;rw [Ty.size] at h;obtain ⟨h2,h3⟩:=Jy l h Jo;refine .mk Jo fun x hx=>?_;have hp:=h3 x hx;have hl:=Hu hx;exact ih x hx (n:=n - 1) Jo Jo hp
def Ty.great (t:Ty):Bool:=decide (t.size 2000<0)
def Tys.great (l:List Ty):Bool:=decide (200<l.length)||l.any Ty.great
theorem Ty.short_of_great {t:Ty}(h:t.great=false):t.Short:=Ty.short_of_size t (n:=2000) Jo Jo (by unfold Ty.great at h;simp at h;exact h)
abbrev Kb:=@Ty.short_of_great
theorem Tys.short_of_great {l:List Ty}(h:Tys.great l=false):l.length≤200∧∀x∈l,x.Short:=by
 unfold Tys.great at h;rw [HD] at h;refine ⟨by have:=of_decide_eq_false h.1;omega,fun x hx=>Kb ?_⟩
 cases hg:x.great with
 | false=>rfl
 | true=>have:=List.any_eq_true.2 ⟨x,hx,hg⟩;rw [h.2] at this;cases this
abbrev J5:=@Tys.short_of_great
end
section
structure Ins where
 op:Int
 a:Int
 b:Int
 c:Int
 k:Int
 n:Int
 regs:List Int
 args:List Int
structure To where
 block:Int
 regs:List Int
 args:List Int
structure Tail where
 op:Int
 a:Int
 yes:To
 no:To
 args:List Int
structure Block where
 regs:Int
 params:List Ty
 code:List Ins
 fin:Tail
deriving instance DecidableEq for Ins
deriving instance DecidableEq for To
deriving instance DecidableEq for Tail
deriving instance DecidableEq for Block
structure Fun where
 regs:Int
 params:List Ty
 results:List Ty
 blocks:List Block
structure Module where
 funcs:List Fun
deriving instance DecidableEq for Fun
deriving instance DecidableEq for Module

def Ins.Short (x:Ins):Prop:=x.regs.length≤100000∧x.args.length≤100000
def To.Short (x:To):Prop:=x.regs.length≤100000∧x.args.length≤100000
def Tail.Short (x:Tail):Prop:=x.yes.Short∧x.no.Short∧x.args.length≤100000
def Tys.Short (l:List Ty):Prop:=l.length≤100000∧∀t∈l,t.Short
def Block.Short (x:Block):Prop:=Tys.Short x.params∧x.code.length≤100000∧(∀i∈x.code,i.Short)∧x.fin.Short
def Fun.Short (x:Fun):Prop:=Tys.Short x.params∧Tys.Short x.results∧x.blocks.length≤100000∧∀b∈x.blocks,b.Short
def Module.Short (x:Module):Prop:=x.funcs.length≤100000∧∀f∈x.funcs,f.Short
theorem Tys.Short.of_great {l:List Ty}(h:Tys.great l=false):Tys.Short l:=by
 have:=J5 h;exact ⟨Jo,this.2⟩
abbrev HU:=@Tys.Short.of_great
theorem bA {l:List α}{p:α→Prop}{x:α}(h:∀y∈l.take j,p y)(hx:l[j]?=some x)(hp:p x):∀y∈l.take (j+1),p y:=by
 intro y hy;rw [H3,hx] at hy;rcases FC.1 hy with hy|hy
 · exact h y hy
 · simp at hy;subst hy;exact hp
theorem iA {l:List α}{p:α→Prop}(h:∀y∈l.take j,p y)(hj:l.length≤j):∀y∈l,p y:=by
 rw [FM hj] at h;exact h
def Lb:Rep Ins where
 es:=8
 pos:=by decide
 R:=fun H K cs x=>∃vr va,cs=[.int .i64 x.op, .int .i64 x.a, .int .i64 x.b, .int .i64 x.c, .int .i64 x.k, .int .i64 x.n,vr,va]∧Kh.SR H K vr x.regs∧Kh.SR H K va x.args
 len:=by rintro _ _ _ _ ⟨vr,va,rfl,_⟩;rfl
 one:=by
  rintro _ _ _ _ ⟨vr,va,rfl,h1,h2⟩ u hu;simp at hu;rcases hu with rfl|rfl|rfl|rfl|rfl|rfl|rfl|rfl<;>first|rfl|exact h1.oneC|exact h2.oneC
 turn:=by rintro _ _ _ _ _ _ ⟨vr,va,rfl,h1,h2⟩ hs;exact ⟨vr,va,rfl,h1.turn hs,h2.turn hs⟩
def toR:Rep To where
 es:=3
 pos:=by decide
 R:=fun H K cs x=>∃vr va,cs=[.int .i64 x.block,vr,va]∧Kh.SR H K vr x.regs∧Kh.SR H K va x.args
 len:=by rintro _ _ _ _ ⟨vr,va,rfl,_⟩;rfl
 one:=by
  rintro _ _ _ _ ⟨vr,va,rfl,h1,h2⟩ u hu;simp at hu;rcases hu with rfl|rfl|rfl<;>first|rfl|exact h1.oneC|exact h2.oneC
 turn:=by rintro _ _ _ _ _ _ ⟨vr,va,rfl,h1,h2⟩ hs;exact ⟨vr,va,rfl,h1.turn hs,h2.turn hs⟩
def Lo:Rep Tail where
 es:=9
 pos:=by decide
 R:=fun H K cs x=>∃v1 v2 v3 v4 v5,cs=[.int .i64 x.op, .int .i64 x.a, .int .i64 x.yes.block,v1,v2, .int .i64 x.no.block,v3,v4,v5]∧Kh.SR H K v1 x.yes.regs∧Kh.SR H K v2 x.yes.args∧Kh.SR H K v3 x.no.regs∧Kh.SR H K v4 x.no.args∧Kh.SR H K v5 x.args
 len:=by rintro _ _ _ _ ⟨_,_,_,_,_,rfl,_⟩;rfl
 one:=by
  rintro _ _ _ _ ⟨_,_,_,_,_,rfl,h1,h2,h3,h4,h5⟩ u hu;simp at hu;rcases hu with rfl|rfl|rfl|rfl|rfl|rfl|rfl|rfl|rfl<;>first|rfl|exact h1.oneC|exact h2.oneC|exact h3.oneC|exact h4.oneC|exact h5.oneC
 turn:=by rintro _ _ _ _ _ _ ⟨_,_,_,_,_,rfl,h1,h2,h3,h4,h5⟩ hs;exact ⟨_,_,_,_,_,rfl,h1.turn hs,h2.turn hs,h3.turn hs,h4.turn hs,h5.turn hs⟩
def Lm:Rep Block where
 es:=12
 pos:=by decide
 R:=fun H K cs x=>∃vp vc ce,cs= .int .i64 x.regs::vp::vc::ce∧Ku.SR H K vp x.params∧Lb.SR H K vc x.code∧Lo.R H K ce x.fin
 len:=by rintro _ _ _ _ ⟨_,_,ce,rfl,_,_,h⟩;have:=Lo.len h;simp [this,Lo]
 one:=by
  rintro _ _ _ _ ⟨_,_,ce,rfl,h1,h2,h3⟩ u hu;simp at hu;rcases hu with rfl|rfl|rfl|hu
  · rfl
  · exact h1.oneC
  · exact h2.oneC
  · exact Lo.one h3 u hu
 turn:=by rintro _ _ _ _ _ _ ⟨_,_,_,rfl,h1,h2,h3⟩ hs;exact ⟨_,_,_,rfl,h1.turn hs,h2.turn hs,Lo.turn h3 hs⟩
def KD:Rep Fun where
 es:=4
 pos:=by decide
 R:=fun H K cs x=>∃vp vr vb,cs=[.int .i64 x.regs,vp,vr,vb]∧Ku.SR H K vp x.params∧Ku.SR H K vr x.results∧Lm.SR H K vb x.blocks
 len:=by rintro _ _ _ _ ⟨_,_,_,rfl,_⟩;rfl
 one:=by
  rintro _ _ _ _ ⟨_,_,_,rfl,h1,h2,h3⟩ u hu;simp at hu;rcases hu with rfl|rfl|rfl|rfl<;>first|rfl|exact h1.oneC|exact h2.oneC|exact h3.oneC
 turn:=by rintro _ _ _ _ _ _ ⟨_,_,_,rfl,h1,h2,h3⟩ hs;exact ⟨_,_,_,rfl,h1.turn hs,h2.turn hs,h3.turn hs⟩
def Ls:Rep Module where
 es:=1
 pos:=by decide
 R:=fun H K cs x=>∃vf,cs=[vf]∧KD.SR H K vf x.funcs
 len:=by rintro _ _ _ _ ⟨_,rfl,_⟩;rfl
 one:=by
  rintro _ _ _ _ ⟨_,rfl,h1⟩ u hu;simp at hu;subst hu;exact h1.oneC
 turn:=by rintro _ _ _ _ _ _ ⟨_,rfl,h1⟩ hs;exact ⟨_,rfl,h1.turn hs⟩

theorem Nx {c:Cx}{x:Ins}(h:Lb.at c cs x):∃vr va,cs=[.int .i64 x.op, .int .i64 x.a, .int .i64 x.b, .int .i64 x.c, .int .i64 x.k, .int .i64 x.n,vr,va]∧Kh.sl c vr x.regs∧Kh.sl c va x.args:=h
theorem ZU {c:Cx}{x:To}(h:toR.at c cs x):∃vr va,cs=[.int .i64 x.block,vr,va]∧Kh.sl c vr x.regs∧Kh.sl c va x.args:=h
theorem Rj {c:Cx}{x:Tail}(h:Lo.at c cs x):∃v1 v2 v3 v4 v5,cs=[.int .i64 x.op, .int .i64 x.a, .int .i64 x.yes.block,v1,v2, .int .i64 x.no.block,v3,v4,v5]∧Kh.sl c v1 x.yes.regs∧Kh.sl c v2 x.yes.args∧Kh.sl c v3 x.no.regs∧Kh.sl c v4 x.no.args∧Kh.sl c v5 x.args:=h
theorem RJ {c:Cx}{x:Block}(h:Lm.at c cs x):∃vp vc v1 v2 v3 v4 v5,cs=[.int .i64 x.regs,vp,vc, .int .i64 x.fin.op, .int .i64 x.fin.a, .int .i64 x.fin.yes.block,v1,v2, .int .i64 x.fin.no.block,v3,v4,v5]∧Ku.sl c vp x.params∧Lb.sl c vc x.code∧Kh.sl c v1 x.fin.yes.regs∧Kh.sl c v2 x.fin.yes.args∧Kh.sl c v3 x.fin.no.regs∧Kh.sl c v4 x.fin.no.args∧Kh.sl c v5 x.fin.args:=by
 obtain ⟨vp,vc,ce,rfl,h1,h2,v1,v2,v3,v4,v5,rfl,h3⟩:=h;exact ⟨vp,vc,v1,v2,v3,v4,v5,rfl,h1,h2,h3⟩
theorem sf {c:Cx}{x:Block}{vp vc v5:Value}(h1:Ku.sl c vp x.params)(h2:Lb.sl c vc x.code)(h3:Kh.sl c v1 x.fin.yes.regs)(h4:Kh.sl c v2 x.fin.yes.args)(h5:Kh.sl c v3 x.fin.no.regs)(h6:Kh.sl c v4 x.fin.no.args)(h7:Kh.sl c v5 x.fin.args):
 Lm.at c [.int .i64 x.regs,vp,vc, .int .i64 x.fin.op, .int .i64 x.fin.a, .int .i64 x.fin.yes.block,v1,v2, .int .i64 x.fin.no.block,v3,v4,v5] x:=⟨vp,vc,_,rfl,h1,h2,v1,v2,v3,v4,v5,rfl,h3,h4,h5,h6,h7⟩
theorem QH {c:Cx}{x:Fun}(h:KD.at c cs x):∃vp vr vb,cs=[.int .i64 x.regs,vp,vr,vb]∧Ku.sl c vp x.params∧Ku.sl c vr x.results∧Lm.sl c vb x.blocks:=h
theorem NR {c:Cx}{x:Module}(h:Ls.at c cs x):∃vf,cs=[vf]∧KD.sl c vf x.funcs:=h

section
variable {P:Program}{T:TypeId}
theorem Cod.Of.part {r:Rep α}(c:Cod.Of P T r){x:α}(h:c.cod.rd H cs x):r.R H (· < H.size) cs x:=c.rd _ _ _ h
def Cod.Of.to {TI TL:TypeId}(ci:Cod.Of P TI Kh)(cl:Cod.Of P TL Kh.list)(h0:fieldAt P T 0=some (0,1,TI))(h1:fieldAt P T 1=some (1,1,TL))(h2:fieldAt P T 2=some (2,1,TL))(hT:P.cellsOf T=3):Cod.Of P T toR:=
 Cod.of (Fld.cod (Fld.more ci.cod h0 (Fld.more cl.cod h1 (Fld.more cl.cod h2 Fld.none))) h0 3 hT) toR rfl fun H cs x h=>by
  obtain ⟨hl,g0,g1,g2,_⟩:=h
  match cs,hl with
  | [a,b,c],_=>
    have e0:[a]=[_]:=ci.part g0;obtain ⟨v1,e1,s1⟩:=cl.part g1;obtain ⟨v2,e2,s2⟩:=cl.part g2;replace e1:[b]=[v1]:=e1;replace e2:[c]=[v2]:=e2;simp only [GX,and_true] at e0 e1 e2;subst e0 e1 e2;exact ⟨⟨x.1,x.2.1,x.2.2.1⟩,b,c,rfl,s1,s2⟩
def Cod.Of.ins {TI TL TN:TypeId}(ci:Cod.Of P TI Kh)(cn:Cod.Of P TN Kh)(cl:Cod.Of P TL Kh.list)(h0:fieldAt P T 0=some (0,1,TI))(h1:fieldAt P T 1=some (1,1,TI))(h2:fieldAt P T 2=some (2,1,TI))(h3:fieldAt P T 3=some (3,1,TI))(h4:fieldAt P T 4=some (4,1,TI))(h5:fieldAt P T 5=some (5,1,TN))(h6:fieldAt P T 6=some (6,1,TL))(h7:fieldAt P T 7=some (7,1,TL))(hT:P.cellsOf T=8):Cod.Of P T Lb:=
 Cod.of (Fld.cod (Fld.more ci.cod h0 (Fld.more ci.cod h1 (Fld.more ci.cod h2 (Fld.more ci.cod h3 (Fld.more ci.cod h4 (Fld.more cn.cod h5 (Fld.more cl.cod h6 (Fld.more cl.cod h7 Fld.none)))))))) h0 8 hT) Lb rfl fun H cs x h=>by
  obtain ⟨hl,g0,g1,g2,g3,g4,g5,g6,g7,_⟩:=h
  match cs,hl with
  | [a0,a1,a2,a3,a4,a5,a6,a7],_=>
    have e0:[a0]=[_]:=ci.part g0;have e1:[a1]=[_]:=ci.part g1;have e2:[a2]=[_]:=ci.part g2;have e3:[a3]=[_]:=ci.part g3;have e4:[a4]=[_]:=ci.part g4;have e5:[a5]=[_]:=cn.part g5;obtain ⟨v1,e6,s1⟩:=cl.part g6;obtain ⟨v2,e7,s2⟩:=cl.part g7;replace e6:[a6]=[v1]:=e6;replace e7:[a7]=[v2]:=e7;simp only [GX,and_true] at e0 e1 e2 e3 e4 e5 e6 e7;subst e0 e1 e2 e3 e4 e5 e6 e7;exact ⟨⟨x.1,x.2.1,x.2.2.1,x.2.2.2.1,x.2.2.2.2.1,x.2.2.2.2.2.1,x.2.2.2.2.2.2.1,x.2.2.2.2.2.2.2.1⟩,_,_,rfl,s1,s2⟩
def Cod.Of.endp {TI TL TT:TypeId}(ci:Cod.Of P TI Kh)(cl:Cod.Of P TL Kh.list)(ct:Cod.Of P TT toR)(h0:fieldAt P T 0=some (0,1,TI))(h1:fieldAt P T 1=some (1,1,TI))(h2:fieldAt P T 2=some (2,3,TT))(h3:fieldAt P T 3=some (5,3,TT))(h4:fieldAt P T 4=some (8,1,TL))(hT:P.cellsOf T=9):Cod.Of P T Lo:=
 Cod.of (Fld.cod (Fld.more ci.cod h0 (Fld.more ci.cod h1 (Fld.more ct.cod h2 (Fld.more ct.cod h3 (Fld.more cl.cod h4 Fld.none))))) h0 9 hT) Lo rfl fun H cs x h=>by
  obtain ⟨hl,g0,g1,g2,g3,g4,_⟩:=h
  match cs,hl with
  | [a0,a1,a2,a3,a4,a5,a6,a7,a8],_=>
    have e0:[a0]=[_]:=ci.part g0;have e1:[a1]=[_]:=ci.part g1;obtain ⟨v1,v2,e2,s1,s2⟩:=ct.part g2;obtain ⟨v3,v4,e3,s3,s4⟩:=ct.part g3;obtain ⟨v5,e4,s5⟩:=cl.part g4;replace e2:[a2,a3,a4]=_:=e2;replace e3:[a5,a6,a7]=_:=e3;replace e4:[a8]=_:=e4;simp only [GX,and_true] at e0 e1 e2 e3 e4;obtain ⟨q2,q3,q4⟩:=e2;obtain ⟨q5,q6,q7⟩:=e3;subst e0 e1 q2 q3 q4 q5 q6 q7 e4;exact ⟨⟨x.1,x.2.1,x.2.2.1,x.2.2.2.1,x.2.2.2.2.1⟩,_,_,_,_,_,rfl,s1,s2,s3,s4,s5⟩
def Cod.Of.block {TI TL TC TE:TypeId}(ci:Cod.Of P TI Kh)(cl:Cod.Of P TL Ku.list)(cc:Cod.Of P TC Lb.list)(ce:Cod.Of P TE Lo)(h0:fieldAt P T 0=some (0,1,TI))(h1:fieldAt P T 1=some (1,1,TL))(h2:fieldAt P T 2=some (2,1,TC))(h3:fieldAt P T 3=some (3,9,TE))(hT:P.cellsOf T=12):Cod.Of P T Lm:=
 Cod.of (Fld.cod (Fld.more ci.cod h0 (Fld.more cl.cod h1 (Fld.more cc.cod h2 (Fld.more ce.cod h3 Fld.none)))) h0 12 hT) Lm rfl fun H cs x h=>by
  obtain ⟨hl,g0,g1,g2,g3,_⟩:=h
  match cs,hl with
  | [a0,a1,a2,a3,a4,a5,a6,a7,a8,a9,a10,a11],_=>
    have e0:[a0]=[_]:=ci.part g0;obtain ⟨v1,e1,s1⟩:=cl.part g1;obtain ⟨v2,e2,s2⟩:=cc.part g2;have s3:=ce.part g3;replace e1:[a1]=_:=e1;replace e2:[a2]=_:=e2;replace s3:Lo.R H (· < H.size) [a3,a4,a5,a6,a7,a8,a9,a10,a11] x.2.2.2.1:=s3;simp only [GX,and_true] at e0 e1 e2;subst e0 e1 e2;exact Co
def Cod.Of.func {TI TL TB:TypeId}(ci:Cod.Of P TI Kh)(cl:Cod.Of P TL Ku.list)(cb:Cod.Of P TB Lm.list)(h0:fieldAt P T 0=some (0,1,TI))(h1:fieldAt P T 1=some (1,1,TL))(h2:fieldAt P T 2=some (2,1,TL))(h3:fieldAt P T 3=some (3,1,TB))(hT:P.cellsOf T=4):Cod.Of P T KD:=
 Cod.of (Fld.cod (Fld.more ci.cod h0 (Fld.more cl.cod h1 (Fld.more cl.cod h2 (Fld.more cb.cod h3 Fld.none)))) h0 4 hT) KD rfl fun H cs x h=>by
  obtain ⟨hl,g0,g1,g2,g3,_⟩:=h
  match cs,hl with
  | [a0,a1,a2,a3],_=>
    have e0:[a0]=[_]:=ci.part g0;obtain ⟨v1,e1,s1⟩:=cl.part g1;obtain ⟨v2,e2,s2⟩:=cl.part g2;obtain ⟨v3,e3,s3⟩:=cb.part g3;replace e1:[a1]=_:=e1;replace e2:[a2]=_:=e2;replace e3:[a3]=_:=e3;simp only [GX,and_true] at e0 e1 e2 e3;subst e0 e1 e2 e3;exact Co
def Cod.Of.mod {TF:TypeId}(cf:Cod.Of P TF KD.list)(h0:fieldAt P T 0=some (0,1,TF))(hT:P.cellsOf T=1):Cod.Of P T Ls:=
 Cod.of (Fld.cod (Fld.more cf.cod h0 Fld.none) h0 1 hT) Ls rfl fun H cs x h=>by
  obtain ⟨hl,g0,_⟩:=h
  match cs,hl with
  | [a0],_=>
    obtain ⟨v1,e1,s1⟩:=cf.part g0;replace e1:[a0]=_:=e1;simp only [GX,and_true] at e1;subst e1;exact ⟨⟨x.1⟩,_,rfl,s1⟩
end
end
end Go.Lir
namespace Go.Proofs.YteflkifmgnpbhaaGreat
open Go.Lir
def Sh:Cod.Of Tryz.prog 3 Kh:=Cod.Of.int Jk Jk
def ZV:Cod.Of Tryz.prog 2 Kh:=Cod.Of.int Jk Jk
def T0:Cod.Of Tryz.prog 68 Kh.list:=Cod.Of.list Sh Jk Jk Jk
def xl:Cod.Of Tryz.prog 115 Ku:=Cod.Of.ty (TL:=86) (t0:=3) (t1:=3) Jk Jk Jk Jk Jk Jk Jk Jk
def iB:Cod.Of Tryz.prog 86 Ku.list:=Cod.Of.list xl Jk Jk Jk
def nP:Cod.Of Tryz.prog 84 Lb:=Cod.Of.ins Sh ZV T0 Jk Jk Jk Jk Jk Jk Jk Jk Jk
def iC:Cod.Of Tryz.prog 85 Lb.list:=Cod.Of.list nP Jk Jk Jk
def xm:Cod.Of Tryz.prog 88 toR:=Cod.Of.to Sh T0 Jk Jk Jk Jk
def nQ:Cod.Of Tryz.prog 90 Lo:=Cod.Of.endp Sh T0 xm Jk Jk Jk Jk Jk Jk
def bB:Cod.Of Tryz.prog 92 Lm:=Cod.Of.block Sh iB iC nQ Jk Jk Jk Jk Jk
def XK:Cod.Of Tryz.prog 93 Lm.list:=Cod.Of.list bB Jk Jk Jk
def iD:Cod.Of Tryz.prog 95 KD:=Cod.Of.func Sh iB XK Jk Jk Jk Jk Jk
def bC:Cod.Of Tryz.prog 22 KD.list:=Cod.Of.list iD Jk Jk Jk
def XL:Cod.Of Tryz.prog 24 Ls:=Cod.Of.mod bC Jk Jk
end Go.Proofs.YteflkifmgnpbhaaGreat
namespace Go.Lir
section
def ZW (b:UInt8):List Value:=[.int .u8 (b.toNat:Int)]
def fL:Rep UInt8:=Rep.lit (fun b=> .int .u8 (b.toNat:Int)) (fun _=>rfl)
theorem XM {c:Cx}{b:UInt8}(h:fL.at c cs b):cs=[.int .u8 (b.toNat:Int)]:=h
theorem bD {c:Cx}(l:List UInt8):fL.ls c (l.map ZW) l:=⟨by simp,fun m x hx=>⟨ZW x,by rw [Fy,hx];rfl,rfl⟩⟩
theorem Rep.LR.u8 {r:Rep UInt8}{l:List UInt8}(hr:r=fL)(h:r.LR H K css l):css=l.map ZW:=by
 subst hr;apply GY;intro m;rw [Fy];rcases GD m l.length with hm|hm
 · obtain ⟨d,h4,h5⟩:=h.2 m _ (E7 hm);have h5:d=[_]:=h5;rw [h4,E7 hm,h5];rfl
 · rw [FI DN,FI hm];rfl
section
variable {P:Program}{l:List GO}{Q:QT}{ρ:KI}{w:World}{c:Cx}{L:List Res}{v:Value}
theorem xn (s:List UInt8):(s.map ZW).flatten=s.map fun b=>Value.int .u8 (b.toNat:Int):=by
 induction s with
 | nil=>rfl
 | cons b s ih=>simp [ZW,ih]
theorem XN {d src dst e Ty:Nat}{x:Operand}{s:ByteArray}(hs:P.underlying src=some .string)(hd:P.underlying dst=some (.slice e))(he:P.underlying e=some (.int .u8))(hS:St c w L)(hx:ρ.ev x= .string s)
 (h : ∀ v' w', St c w' (sl e 1 v' (s.data.toList.map ZW) :: L) → Q0 P l Q (upd ρ d v') w'): Q0 P (⟨none, .raw ⟨some d, .convert src dst x, Ty, "", #[], none⟩⟩ :: l) Q ρ w := by
 have hr:=run_bytes_of_string (P:=P) w src dst e s hs hd he;have hge:=grownCap_ge w s.size 0 e;generalize hcap:grownCap w s.size 0 e=cap at hr hge;refine MM (v:= .slice (some ⟨w.heap.size,0,none⟩) s.size cap) (w':=w.drew.alloc (.cells (bytesRow s cap) e ((bytesRow s cap).size,(bytesRow s cap).size+1))) ?_ ?_
 · simp only [execOp,hx,FH,hr,Fp,FR]
 · have hsz:s.data.size=s.size:=rfl
   have hrow:(bytesRow s cap).size=cap:=(by simp [bytesRow];omega);refine h _ _ (hS.new (F':=(· =w.heap.size)) ?_ (((HN NF w).drew').then0 (aU w.drew _)) fun b hb=>by omega);refine ⟨by intro q hq;obtain ⟨b,_,rfl⟩:=FU.1 hq;rfl, .inr ⟨w.heap.size,0,cap,(bytesRow s cap).toList,?_,?_,?_,?_,?_,fun _=>Hl⟩⟩
   · have:(List.map ZW s.data.toList).length=s.size:=EJ;rw [this]
   · have:(List.map ZW s.data.toList).length=s.size:=EJ;rw [this];exact hge
   · refine ⟨((bytesRow s cap).size,(bytesRow s cap).size+1),?_,?_⟩
     · show (w.heap.push _)[w.heap.size]?=_;rw [Array.getElem?_push_size]
     · refine ⟨fun i h1 h2=>?_,by simp⟩;simp only [Gl] at*;omega
   · simp [hrow]
   · intro i hi;rw [xn];simp only [Fb,Gl,Nat.mul_one] at hi;rw [GF,Gr,bytesRow_at s cap i hi,Fy,Gr,GW hi];rfl
theorem bE {d T Ty e n:Nat}{x y:Operand}{m:Int}{u:Value}(hT:P.underlying T=some (.array n e))(he:Xa P e=true)(hsz:NV P e=some 1)(hx:ρ.ev x= .agg ⟨cs⟩)(hy:ρ.ev y= .int k m)(h0:0≤m)(hm:m<n)(hu:cs[m.toNat]?=some u)
 (h : Q0 P l Q (upd ρ d u) w): Q0 P (⟨none, .raw ⟨some d, .index T x y, Ty, "", #[], none⟩⟩ :: l) Q ρ w := by
 refine MM (v:=u) (w':=w) ?_ h;simp only [execOp,hx,hy,Instr.index,FH,asIntOf,FR,Fp,Qb P T _ w hT];rw [if_pos ⟨h0,hm⟩];simp only [FH,Re P e 1 w hsz,Fp,Nat.mul_one,ri P e ⟨cs⟩ _ _ w he (by simpa using hu)]
end
end
section


def Ky (P:Program)(f:FuncId)(args:List Value)(w:World)(S T:Value→World→Prop):Prop:=
 Calls P f ⟨args⟩ w fun e w'=>(∃v,e= .returned v∧S v w')∨(∃v,e= .panicked [{v:=v,recovered:=false}]∧T v w')

theorem Ky.mono {S' T T':Value→World→Prop}(h:Ky P f args w S T)(hs:∀v w',S v w'→S' v w')(ht:∀v w',T v w'→T' v w'):Ky P f args w S' T':=
 Calls.mono h fun _ _ h=>h.elim (fun ⟨v,he,hv⟩=> .inl ⟨v,he,hs _ _ hv⟩) (fun ⟨v,he,hv⟩=> .inr ⟨v,he,ht _ _ hv⟩)
theorem Kf.ends {T:Value→World→Prop}(h:Kf P f args w S):Ky P f args w S T:=
 Calls.mono h fun _ _ h=> .inl h
section
variable {P:Program}{l:List GO}{Q:QT}{ρ:KI}{w:World}
theorem lp {d:Nat}{xs:List Operand}{T:Value→World→Prop}(hxs:xs.map ρ.ev=args)(hc:Ky P f args w S T)
 (hp:∀v w',T v w'→Q (.panic [{v:=v,recovered:=false}]) ρ w')(h:∀v w',S v w'→Q0 P l Q (upd ρ d v) w'):Q0 P (⟨none, .call (some d) f xs⟩::l) Q ρ w:=by
 subst hxs;refine Calls.mono hc fun e w' h'=>?_;rcases h' with ⟨v,he,hs⟩|⟨v,he,hs⟩
 · subst he;exact h v w' hs
 · subst he;exact hp v w' hs
theorem XO {d:Nat}{x:Operand}{T:Value→World→Prop}(hx:ρ.ev x= .func (.func f) #[] ⟨cap⟩)(hf:Sa P f=true)(hxs:os.map ρ.ev++cap=args)(hc:Ky P f args w S T)
 (hp:∀v w',T v w'→Q (.panic [{v:=v,recovered:=false}]) ρ w')(h:∀v w',S v w'→Q0 P l Q (upd ρ d v) w'):Q0 P (⟨none, .callv (some d) x os⟩::l) Q ρ w:=by
 unfold Sa at hf;rw [Ix] at hf;obtain ⟨fn,h1,h2⟩:=hf;rw [Fj,GH] at h2;refine rK hx h1 h2.1 h2.2 hxs hc ?_;intro e w' h';rcases h' with ⟨v,rfl,hs⟩|⟨v,rfl,hs⟩
 · exact h v w' hs
 · exact hp v w' hs
theorem Q6 {K:KT}{h:Q (.panic ch) ρ w}:Qs K Q (.panic ch) ρ w:=h
theorem Q8 {id:Nat}{h:Q (.panic ch) ρ w}:Qi id Q (.panic ch) ρ w:=h
theorem Qe {h:R (.panicked ch) w}:KN P rs R (.panic ch) ρ w:=h
theorem lq {d : Option Nat}{x : Operand}{Ty:TypeId}(hx : ρ.ev x = .iface T v)(h : Q (.panic [{ v := .iface T v, recovered := false }]) ρ w): Q0 P (⟨none, .raw ⟨d, .panic x, Ty, "", #[], none⟩⟩ :: l) Q ρ w := by
 refine (?_:Px P _ ρ w _ Q);unfold Px
 have e : (execOp ρ.ev ⟨d, .panic x, Ty, "", #[], none⟩).run P w = .halt (.panic (.iface T v)) w := by
  simp [execOp,Instr.panic,hx,goPanic,Sem.run]
 rw [e];exact h
theorem lr {d:Nat}{x:Operand}{Ty xT:TypeId}(hd:P.underlying T=some D)(hi:∀m,D≠ .interface m)(hx:ρ.ev x= .iface T v)
 (h : Q0 P l Q (upd ρ d (.tuple #[v, .bool true])) w): Q0 P (⟨none, .raw ⟨some d, .typeAssert x xT T true, Ty, "", #[], none⟩⟩ :: l) Q ρ w := by
 refine MM (v:= .tuple #[v, .bool true]) (w':=w) ?_ h;simp only [execOp,Instr.typeAssert,hx,FH,Qb P T D w hd,Fp];cases D<;>first|(exact absurd rfl (hi _))|simp
theorem xo {d:Nat}{x:Operand}{Ty xT:TypeId}{z:Value}(hd:P.underlying T=some D)(hi:∀m,D≠ .interface m)(hz:aO P T=some z)(hx:ρ.ev x= .iface T' v)(hne:T'≠T)
 (h : Q0 P l Q (upd ρ d (.tuple #[z, .bool false])) w): Q0 P (⟨none, .raw ⟨some d, .typeAssert x xT T true, Ty, "", #[], none⟩⟩ :: l) Q ρ w := by
 refine MM (v:= .tuple #[z, .bool false]) (w':=w) ?_ h;simp only [execOp,Instr.typeAssert,hx,FH,Qb P T D w hd,Fp];cases D<;>first|(exact absurd rfl (hi _))|simp [hne,ZL P T z w hz]
end


inductive LSp where
 | dfr (d:Option Nat) (x:Operand)
 | rcv (d:Option Nat)

inductive LD where
 | pl (c:LC)
 | seq (a b:LD)
 | sp (l1:List GO) (o:LSp) (l2:List GO)

def Si (o:Oper):Option LSp:=match o.guard,o.op with
 | none, .defer ⟨.value x,xs,_⟩=>if xs.size=0 then some (.dfr o.dst x) else none
 | none, .call ⟨.builtin .recover,xs,_⟩=>if xs.size=0 then some (.rcv o.dst) else none
 | _,_=>none
def fM:Code→Bool
 | .seq a b=>fM a||fM b
 | .region _ ops _=>ops.toList.any fun o=>(Si o).isSome
 | _=>false
def fO:List Oper→Option (List Oper×Oper×LSp×List Oper)
 | []=>none
 | o::r=>match Si o with
   | some s=>some ([],o,s,r)
   | none=>(fO r).map fun p=>(o::p.1,p.2)
def OP (P:Program)(n:Nat):Code→LD
 | .seq a b=>if fM a||fM b then .seq (OP P n a) (OP P n b) else .pl (P3 P n (.seq a b))
 | .region id ops false=>match fO ops.toList with
   | some (l1,_,s,l2)=>if ops.toList.all (Py n ops) then .sp (l1.map (OO P ops)) s (l2.map (OO P ops)) else .pl .bad
   | none=> .pl (P3 P n (.region id ops false))
 | c=> .pl (P3 P n c)
def fP (P:Program)(fn:Func):Option LD:=fn.body.map (OP P fn.ntmps)

def LD.wpD (P:Program):LD→(List Deferred→QT)→List Deferred→KI→World→Prop
 | .pl c,Q,ds,ρ,w=>c.wp P (Q ds) ρ w
 | .seq a b,Q,ds,ρ,w=>a.wpD P (fun ds'=>Qs (b.wpD P Q ds') (Q ds')) ds ρ w
 | .sp l1 (.dfr d x) l2,Q,ds,ρ,w=>Q0 P l1 (Qs (fun ρ w=>∃f cap,ρ.ev x= .func (.func f) #[] cap∧Q0 P l2 (Q (⟨.fn (.func f) cap,#[]⟩::ds)) (KS ρ d undef) w) (Q ds)) ρ w
 | _,_,_,_,_=>False

theorem nR:∀{ops l1 l2:List Oper}{o:Oper}{s:LSp},fO ops=some (l1,o,s,l2)→ops=l1++o::l2∧Si o=some s
 | [],_,_,_,_,h=>by simp [fO] at h
 | o'::r,l1,l2,o,s,h=>by
   rw [fO] at h
   cases hs:Si o' with
   | some s'=>
     simp only [hs,Fq,G4] at h;obtain ⟨rfl,rfl,rfl,rfl⟩:=h;exact ⟨rfl,hs⟩
   | none=>
     simp only [hs,GM] at h;obtain ⟨⟨a,b,c,d⟩,h1,h2⟩:=h;simp only [G4] at h2;obtain ⟨rfl,rfl,rfl,rfl⟩:=h2;obtain ⟨h3,h4⟩:=nR h1;exact ⟨by rw [h3];rfl,h4⟩

theorem nS {o:Oper}{a:Act}{K K':Act→World→Prop}{Q Q':Exit→Act→World→Prop}(hk:∀a w,K a w→K' a w)(hp:∀ch a w,Q (.panic ch) a w→Q' (.panic ch) a w)(ho:LetsOut Q→LetsOut Q')(r:Result Next)(h:o.upon P a K Q r):o.upon P a K' Q' r:=by
 cases r with
 | ok n w=>
   cases n<;>first|exact hk _ _ h|exact h|skip
   · refine Calls.mono h fun e w h=>?_;cases e<;>first|exact hk _ _ h|exact hp _ _ _ h|exact ho h
   · exact Rows.mono h fun v w h=>hk _ _ h
 | halt x w=>cases x<;>first|exact hp _ _ _ h|exact h

theorem lu {P:Program}{ops:Array Oper}{Q:Exit→Act→World→Prop}{l2:List Nat}:∀(l1:List Nat) (a:Act) (w:World),
 wpOps P ops (Exit.then (wpOps P ops Q l2) Q) l1 a w→wpOps P ops Q (l1++l2) a w
 | [],a,w,h=>h
 | i ::l1,a,w,h=>by
   simp only [Gu,wpOps] at h ⊢
   cases ho:ops[i]? with
   | none=>simp only [ho] at h ⊢;exact lu l1 a w h
   | some o=>
     simp only [ho] at h ⊢;split
     · rename_i hw
       rw [if_pos hw] at h;rcases h with h|⟨h1,h2⟩
       · exact .inl (nS (fun a w h=>lu l1 a w h) (fun ch a w h=>h) (fun h=>h) _ h)
       · exact .inr ⟨h1,h2⟩
     · rename_i hw;rw [if_neg hw] at h;exact lu l1 _ w h
theorem iE {P:Program}{ops:Array Oper}{Q Q':Exit→Act→World→Prop}(hq:∀e a w,Q e a w→Q' e a w):∀(l:List Nat) (a:Act) (w:World),wpOps P ops Q l a w→wpOps P ops Q' l a w
 | [],a,w,h=>hq _ _ _ h
 | i ::l,a,w,h=>by
   simp only [wpOps] at h ⊢;have ho':LetsOut Q→LetsOut Q':=fun ⟨a,w,h⟩=>⟨a,w,hq _ _ _ h⟩
   cases ho:ops[i]? with
   | none=>simp only [ho] at h ⊢;exact iE hq l a w h
   | some o=>
     simp only [ho] at h ⊢;split
     · rename_i hw
       rw [if_pos hw] at h;rcases h with h|⟨h1,h2⟩
       · exact .inl (nS (fun a w h=>iE hq l a w h) (fun ch a w h=>hq _ _ _ h) ho' _ h)
       · exact .inr ⟨h1,ho' h2⟩
     · rename_i hw;rw [if_neg hw] at h;exact iE hq l _ w h

def ZX (n:Nat)(Q:List Deferred→QT):Exit→Act→World→Prop:=fun e a w=>∃ds,ZI n ds (Q ds) e a w

theorem sg {o:α}(h:ops=l1++o::l2):List.range ops.length=List.range l1.length++l1.length::(List.range l2.length).map (l1.length+1+·):=by
 subst h;apply IP
 · simp
 · intro i h1 h2
   rw [Iv];rcases Nat.lt_trichotomy i l1.length with h|h|h
   · rw [List.getElem_append_left Dz,Iv]
   · subst h;rw [I9 Js];simp
   · rw [I9 (by simpa using Nat.le_of_lt h)];simp only [HZ];rw [List.getElem_cons];rw [dif_neg Jo,List.getElem_map,Iv];omega
theorem sh {o:α}(g:α→β)(h:ops=l1++o::l2):((List.range l2.length).map (l1.length+1+·)).filterMap (fun i=>(ops[i]?).map g)=l2.map g:=by
 subst h;rw [List.filterMap_map]
 have:∀i,((fun i=>((l1++o::l2)[i]?).map g)∘(l1.length+1+·)) i=(l2[i]?).map g:=by
  intro i;simp only [Function.comp];rw [Ff Jo];rw [show l1.length+1+i - l1.length=i+1 by omega,Gg]
 rw [mJ (fun i _=>this i)];have:=mM g l2 []
 simpa [Im] using this
theorem si {o:α}(g:α→β)(h:ops=l1++o::l2):(List.range l1.length).filterMap (fun i=>(ops[i]?).map g)=l1.map g:=by
 subst h
 have:∀i∈List.range l1.length,((l1++o::l2)[i]?).map g=(l1[i]?).map g:=by
  intro i hi;rw [Fg DW]
 rw [mJ this];have:=mM g l1 []
 simpa [Im] using this

theorem xp {n:Nat}:∀(c:Code) (Q:List Deferred→QT) (ds:List Deferred) (ρ:KI) (a:Act) (w:World),Ou n ρ ds a→(OP P n c).wpD P Q ds ρ w→c.wp P (ZX n Q) a w:=by
 have hpl:∀(c:Code) (Q:List Deferred→QT) (ds:List Deferred) (ρ:KI) (a:Act) (w:World),Ou n ρ ds a→(P3 P n c).wp P (Q ds) ρ w→c.wp P (ZX n Q) a w:=fun c Q ds ρ a w hr h=>
  wp_mono (mN c _ ρ a w hr h) fun e a w h=>⟨ds,h⟩
 intro c
 induction c with
 | seq x y ihx ihy=>
   intro Q ds ρ a w hr h;rw [OP] at h;split at h
   · refine wp_seq ?_
     refine wp_mono (ihx _ ds ρ a w hr h) ?_;rintro e a w ⟨ds',ρ',hr',h'⟩
     cases e with
     | normal=>exact ihy _ ds' ρ' a w hr' h'
     | _=>exact ⟨ds',ρ',hr',h'⟩
   · exact hpl _ Q ds ρ a w hr h
 | region id ops draw=>
   intro Q ds ρ a w hr h
   cases draw with
   | true=>exact hpl _ Q ds ρ a w hr h
   | false =>
     rw [OP] at h;split at h
     · rename_i l1 o s l2 hs
       obtain ⟨hops,hsp⟩:=nR hs;split at h
       · rename_i hall
         (have hok:∀i o,ops[i]?=some o→Py n ops o=true:=fun i o hi=>Gb.1 hall o Ep;have hsz:ops.size=ops.toList.length:=Dq;have hgm:∀(l:List Nat),(l.filterMap fun i=>(ops[i]?).map (OO P ops))=l.filterMap fun i=>(ops.toList[i]?).map (OO P ops):=fun l=>by simp);have hlen:ops.toList.length=l1.length+1+l2.length:=(by rw [hops];simp;omega);have hrange:∀(l:List Nat),(∀i∈l,i<ops.size)→∀i∈l,∃o,ops[i]?=some o∧Py n ops o=true:=fun l hl i hi=>⟨ops[i]'(hl i hi),by simp [hl i hi],hok i _ (by simp [hl i hi])⟩;refine wp_region ?_;rw [hsz,sg hops];refine lu _ _ _ ?_
         cases s with
         | rcv d=>exact h.elim
         | dfr d x=>
           have h1:=kO (Q:=Qs (fun ρ w=>∃f cap,ρ.ev x= .func (.func f) #[] cap∧Q0 P (l2.map (OO P ops)) (Q (⟨.fn (.func f) cap,#[]⟩::ds)) (KS ρ d undef) w) (Q ds)) (ds:=ds) (List.range l1.length) ρ a w hr
            (hrange _ fun i hi=>by rw [hsz,hlen];have:=FX.1 hi;omega) (by rw [hgm,si _ hops];exact h)
           refine iE ?_ _ _ _ h1;rintro e a w ⟨ρ',hr',h'⟩
           cases e with
           | normal=>
             obtain ⟨f,cap,hf,h'⟩:=h';have hoi:ops[l1.length]?=some o:=(by rw [←Gr,hops];simp);refine (?_:wpOps P ops _ (l1.length::_) a w);simp only [wpOps,hoi]
             have hg:o.guard=none∧∃ts,∃xs:Array Operand,o.op= .defer ⟨.value x,xs,ts⟩∧xs.size=0∧o.dst=d:=by
              unfold Si at hsp;split at hsp
              · rename_i x' xs' ts' hg ho
                split at hsp
                · rename_i hx0;simp only [Fq,LSp.dfr.injEq] at hsp;obtain ⟨g1,g2⟩:=hsp;subst g2;exact ⟨hg,ts',xs',ho,hx0,g1⟩
                · cases hsp
              · split at hsp<;>cases hsp
              · cases hsp
             obtain ⟨hgd,ts,xs,hop,hxs,hd⟩:=hg;have hxs':xs=#[]:=IK hxs;subst hxs';rw [if_pos (by simp [Region.wanted,hgd])];refine .inl ?_;unfold Oper.wp
             have e1:(execOp a.eval o).run P w= .ok (.defer ⟨.fn (.func f) cap,#[]⟩) w:=by
              simp [execOp,hop,resolve,hr'.ev,hf,Deferred.ofValue]
             rw [e1,Oper.upon_defer,hd];have hdn:=fj (hok _ o hoi);rw [hd] at hdn
             have hr2:Ou n (KS ρ' d undef) (⟨.fn (.func f) cap,#[]⟩::ds) ({a with defers:=⟨.fn (.func f) cap,#[]⟩::a.defers}.put d undef):=by
              have hr3:Ou n ρ' (⟨.fn (.func f) cap,#[]⟩::ds) {a with defers:=⟨.fn (.func f) cap,#[]⟩::a.defers}:=⟨hr'.1,hr'.2.1,by simp [hr'.2.2]⟩;exact hr3.put d undef hdn
             have h2:=kO (Q:=Q (⟨.fn (.func f) cap,#[]⟩::ds)) (ds:=⟨.fn (.func f) cap,#[]⟩::ds) _ _ _ w hr2
              (hrange ((List.range l2.length).map (l1.length+1+·)) fun i hi=>by rw [hsz,hlen];rw [FU] at hi;obtain ⟨j,hj,rfl⟩:=hi;have:=FX.1 hj;omega) (by rw [hgm,sh _ hops];exact h')
             exact iE (fun e a w h=>⟨_,h⟩) _ _ _ h2
           | _=>exact ⟨ds,ρ',hr',h'⟩
       · exact h.elim
     · exact hpl _ Q ds ρ a w hr h
 | _=>exact hpl _

def T1 (P:Program)(rs:List ResultVar)(ρ:KI)(R:Ending→World→Prop):List Deferred→FrameMode→World→Prop
 | [], .returning,w=>QD P w ρ rs [] fun v=>R (.returned v) w
 | [], .panicking chain,w=>R (.panicked chain) w
 | [], .run,_=>False
 | d ::ds,u,w=>u≠ .run∧∃f cap,d=⟨.fn (.func f) cap,#[]⟩∧Sa P f=true∧CallsD P f cap u w fun
     | .returned _,u',w'=>T1 P rs ρ R ds (settle u') w'
     | .panicked chain,u',w'=>T1 P rs ρ R ds (raised u' chain) w'
     | .outgrown,_,w'=>R .outgrown w'
def T2 (P:Program)(rs:List ResultVar)(R:Ending→World→Prop)(ds:List Deferred):QT
 | .normal,ρ,w| .ret,ρ,w=>T1 P rs ρ R ds .returning w
 | .panic chain,ρ,w=>T1 P rs ρ R ds (.panicking chain) w
 | .outgrown,_,w=>R .outgrown w
 | _,_,_=>False

theorem ll {P:Program}{fn:Func}{tmps:Array Value}{ρ:KI}{R:Ending→World→Prop}(ht:∀i,tmps.getD i undef=ρ i):∀(ds:List Deferred) (u:FrameMode) (w:World),
 T1 P fn.results.toList ρ R ds u w→Leaves P fn tmps R ds u w
 | [], .returning,w,h=>by obtain ⟨v,h1,h2⟩:=gF ht h;exact ⟨v,h1,h2⟩
 | [], .panicking _,w,h=>h
 | [], .run,w,h=>h.elim
 | d ::ds,u,w,h=>by
   obtain ⟨hu,f,cap,rfl,hf,hc⟩:=h;unfold Sa at hf;rw [Ix] at hf;obtain ⟨fn',h1,h2⟩:=hf;rw [Fj,GH] at h2;refine leaves_cons hu (f:=f) (args:=cap) ?_ ?_
   · simp only [invoke];rw [rj _ h1 h2.1 h2.2];simp
   · refine hc.mono ?_
     intro e u' w' h
     cases e with
     | returned v=>exact ll ht ds _ _ h
     | panicked ch=>exact ll ht ds _ _ h
     | outgrown=>exact h

theorem xq {ld:LD}
 (hf:P.funcs[f]?=some fn)(hl:fP P fn=some ld)(hrs:fn.results.toList=rs)(hn:Nat.ble args.length fn.ntmps=true)
 (h:ld.wpD P (T2 P rs R) [] (Xf args) w):Calls P f ⟨args⟩ w R:=by
 unfold fP at hl
 cases hb:fn.body with
 | none=>simp [hb] at hl
 | some c=>
   simp only [hb,Gd,Fq] at hl;subst hl hrs;refine calls_of_wp_defers hf hb ?_;have hn':args.length≤fn.ntmps:=F4 hn;refine wp_mono (xp c _ [] _ _ _ (mO ⟨args⟩ fn.ntmps hn' []) h) ?_;rintro e a w ⟨ds,ρ,hr,h⟩;have hd:=hr.2.2
   cases e with
   | normal=>exact Cw
   | ret=>exact Cw
   | panic ch=>exact (hd ▸ ll hr.2.1 ds _ _ h:Leaves P fn a.tmps R a.defers (.panicking ch) w)
   | outgrown=>exact h
   | exit=>exact h
   | goto=>exact h


def MR:FrameMode→Value×FrameMode
 | .panicking ({v:=v,recovered:=false,goexit:=false}::older)=>(v, .panicking ({v:=v,recovered:=true}::older))
 | u=>(.nilIface,u)

def LD.wpR (P:Program):LD→(FrameMode→QT)→FrameMode→KI→World→Prop
 | .pl c,Q,u,ρ,w=>c.wp P (Q u) ρ w
 | .seq a b,Q,u,ρ,w=>a.wpR P (fun u'=>Qs (b.wpR P Q u') (Q u')) u ρ w
 | .sp l1 (.rcv d) l2,Q,u,ρ,w=>Q0 P l1 (Qs (fun ρ w=>Q0 P l2 (Q (MR u).2) (KS ρ d (MR u).1) w) (Q u)) ρ w
 | _,_,_,_,_=>False

def RK (n:Nat)(c₀:Frame)(cs:List Frame)(Q:FrameMode→QT):Exit→Act→List Frame→World→Prop:=
 fun e a cs' w=>∃u,cs'={c₀ with mode:=u}::cs∧ZI n [] (Q u) e a w

theorem xr (c₀:Frame)(cs:List Frame)(u:FrameMode):(match recoverD ({c₀ with mode:=u}::cs) with
 | some (v,cs')=>(v,cs')
 | none=>(.nilIface,{c₀ with mode:=u}::cs))=((MR u).1,{c₀ with mode:=(MR u).2}::cs):=by
 unfold recoverD MR;dsimp only;split<;>rename_i h
 · split at h
   · rename_i hm;simp only [Fq,G4] at h;obtain ⟨rfl,rfl⟩:=h;rfl
   · cases h
 · split at h
   · cases h
   · rename_i hm
     split
     · rename_i hm';exact absurd rfl (hm _ _)
     · rfl

theorem sj {n:Nat}{ops:Array Oper}{Q:QT}{QS:Exit→Act→List Frame→World→Prop}{cs:List Frame}{rest:List Nat}(hn:∀a w,ZI n [] Q .normal a w→wpOpsS P ops QS rest a cs w)(hq:∀e a w,e≠ .normal→ZI n [] Q e a w→QS e a cs w):∀(l:List Nat) (ρ:KI) (a:Act) (w:World),Ou n ρ [] a→
 (∀i∈l,∃o,ops[i]?=some o∧Py n ops o=true)→
 Q0 P (l.filterMap fun i=>(ops[i]?).map (OO P ops)) Q ρ w→wpOpsS P ops QS (l++rest) a cs w:=by
 intro l
 induction l with
 | nil=>intro ρ a w hr _ h;exact hn a w ⟨ρ,hr,h⟩
 | cons i l ih=>
   intro ρ a w hr hok h;obtain ⟨o,ho,hg⟩:=hok i Js;have hok':∀i∈l,∃o,ops[i]?=some o∧Py n ops o=true:=fun i hi=>hok i (by simp [hi]);simp only [HI,ho,Gd] at h;have h':=rr hr hg _ Q w h;simp only [Gu,wpOpsS,ho];split
   · rename_i hw
     rw [if_pos hw] at h';have h1:=re (ds:=[]) hr (fj hg) (rq h');have h2:=nS (Q':=fun e a' w'=>QS e a' cs w') (K':=fun a' w'=>wpOpsS P ops QS (l++rest) a' cs w') (fun a w ⟨ρ,hr,h⟩=>ih ρ a w hr hok' h) (fun ch a w h=>hq _ a w Js h) (fun ⟨a,w,h⟩=>⟨a,w,hq _ a w Js h⟩) _ h1;split
     · rename_i w' hrun;rw [hrun] at h2;exact h2.elim
     · rename_i r hrun;exact h2
   · rename_i hw;rw [if_neg hw] at h';exact ih _ _ w (hr.put _ _ (fj hg)) hok' h'

theorem xt {n:Nat}{c₀:Frame}{cs:List Frame}:∀(c:Code) (Q:FrameMode→QT) (u:FrameMode) (ρ:KI) (a:Act) (w:World),Ou n ρ [] a→(OP P n c).wpR P Q u ρ w→c.wpS P (RK n c₀ cs Q) a ({c₀ with mode:=u}::cs) w:=by
 have hpl:∀(c:Code) (Q:FrameMode→QT) (u:FrameMode) (ρ:KI) (a:Act) (w:World),Ou n ρ [] a→(P3 P n c).wp P (Q u) ρ w→c.wpS P (RK n c₀ cs Q) a ({c₀ with mode:=u}::cs) w:=fun c Q u ρ a w hr h=>
  wpS_of_wp (wp_mono (mN c _ ρ a w hr h) fun e a w h=>⟨u,rfl,h⟩)
 intro c
 induction c with
 | seq x y ihx ihy=>
   intro Q u ρ a w hr h;rw [OP] at h;split at h
   · refine wpS_seq ?_
     intro b k hb hro;obtain ⟨e,a',cs',w',⟨u',rfl,ρ',hr',h'⟩,harr⟩:=ihx _ u ρ a w hr h b k hb hro;refine ⟨e,a',_,w',?_,harr⟩
     cases e with
     | normal=>exact ihy _ u' ρ' a' w' hr' h'
     | _=>exact ⟨u',rfl,ρ',hr',h'⟩
   · exact hpl _ Q u ρ a w hr h
 | region id ops draw=>
   intro Q u ρ a w hr h
   cases draw with
   | true=>exact hpl _ Q u ρ a w hr h
   | false =>
     rw [OP] at h;split at h
     · rename_i l1 o s l2 hs
       obtain ⟨hops,hsp⟩:=nR hs;split at h
       · rename_i hall
         (have hok:∀i o,ops[i]?=some o→Py n ops o=true:=fun i o hi=>Gb.1 hall o Ep;have hsz:ops.size=ops.toList.length:=Dq;have hgm:∀(l:List Nat),(l.filterMap fun i=>(ops[i]?).map (OO P ops))=l.filterMap fun i=>(ops.toList[i]?).map (OO P ops):=fun l=>by simp);have hlen:ops.toList.length=l1.length+1+l2.length:=(by rw [hops];simp;omega);have hrange:∀(l:List Nat),(∀i∈l,i<ops.size)→∀i∈l,∃o,ops[i]?=some o∧Py n ops o=true:=fun l hl i hi=>⟨ops[i]'(hl i hi),by simp [hl i hi],hok i _ (by simp [hl i hi])⟩;refine wpS_region ?_;rw [hsz,sg hops]
         cases s with
         | dfr d x=>exact h.elim
         | rcv d=>
           refine sj (Q:=Qs (fun ρ w=>Q0 P (l2.map (OO P ops)) (Q (MR u).2) (KS ρ d (MR u).1) w) (Q u)) ?_ ?_ (List.range l1.length) ρ a w hr
            (hrange _ fun i hi=>by rw [hsz,hlen];have:=FX.1 hi;omega) (by rw [hgm,si _ hops];exact h)
           · rintro a w ⟨ρ',hr',h'⟩
             have hoi:ops[l1.length]?=some o:=by rw [←Gr,hops];simp
             have hg:o.guard=none∧∃ts,∃xs:Array Operand,o.op= .call ⟨.builtin .recover,xs,ts⟩∧xs.size=0∧o.dst=d:=by
              unfold Si at hsp;split at hsp
              · split at hsp<;>cases hsp
              · rename_i xs' ts' hg ho
                split at hsp
                · rename_i hx0;simp only [Fq,LSp.rcv.injEq] at hsp;exact ⟨hg,ts',xs',ho,hx0,hsp⟩
                · cases hsp
              · cases hsp
             obtain ⟨hgd,ts,xs,hop,hxs,hd⟩:=hg;have hxs':xs=#[]:=IK hxs;subst hxs';refine (?_:wpOpsS P ops _ (l1.length::_) a _ w);simp only [wpOpsS,hoi];rw [if_pos (by simp [Region.wanted,hgd])]
             have e1:(execOp a.eval o).run P w= .ok .recover w:=by
              simp [execOp,hop,resolve,invoke,builtin]
             rw [e1];have hdn:=fj (hok _ o hoi);rw [hd] at hdn;have hr2:Ou n (KS ρ' d (MR u).1) [] (a.put d (MR u).1):=hr'.put d _ hdn;have hrec:=xr c₀ cs u
             have key:wpOpsS P ops (RK n c₀ cs Q) ((List.range l2.length).map (l1.length+1+·)) (a.put o.dst (MR u).1) ({c₀ with mode:=(MR u).2}::cs) w:=by
              rw [hd]
              have h2:=sj (Q:=Q (MR u).2) (QS:=RK n c₀ cs Q) (cs:={c₀ with mode:=(MR u).2}::cs) (rest:=[]) (fun a w h=>⟨_,rfl,h⟩) (fun e a w _ h=>⟨_,rfl,h⟩) ((List.range l2.length).map (l1.length+1+·)) _ _ w hr2
               (hrange _ fun i hi=>by rw [hsz,hlen];rw [FU] at hi;obtain ⟨j,hj,rfl⟩:=hi;have:=FX.1 hj;omega) (by rw [hgm,sh _ hops];exact h')
              rwa [Gk] at h2
             dsimp only;split
             · rename_i v cs' hrd;rw [hrd] at hrec;simp only [G4] at hrec;rw [hrec.1,hrec.2];exact key
             · rename_i hrd;rw [hrd] at hrec;simp only [G4] at hrec;have e3:({c₀ with mode:=u}::cs:List Frame)={c₀ with mode:=(MR u).2}::cs:=hrec.2;rw [hrec.1,e3];exact key
           · rintro e a w he ⟨ρ',hr',h'⟩;refine ⟨u,rfl,ρ',hr',?_⟩;cases e<;>first|exact h'|exact absurd rfl he
       · exact h.elim
     · exact hpl _ Q u ρ a w hr h
 | _=>exact hpl _

def bF (P:Program)(rs:List ResultVar)(R:Ending→FrameMode→World→Prop)(u:FrameMode):QT
 | .normal,ρ,w| .ret,ρ,w=>QD P w ρ rs [] fun v=>R (.returned v) u w
 | .panic chain,_,w=>R (.panicked chain) u w
 | .outgrown,_,w=>R .outgrown u w
 | _,_,_=>False

theorem xu {u:FrameMode}{R:Ending→FrameMode→World→Prop}{ld:LD}
 (hf:P.funcs[f]?=some fn)(hl:fP P fn=some ld)(hrs:fn.results.toList=rs)(hn:Nat.ble args.length fn.ntmps=true)
 (h:ld.wpR P (bF P rs R) u (Xf args) w):CallsD P f ⟨args⟩ u w R:=by
 unfold fP at hl
 cases hb:fn.body with
 | none=>simp [hb] at hl
 | some c=>
   simp only [hb,Gd,Fq] at hl;subst hl hrs;refine callsD_of_wpS hf hb ?_;intro c₀ cs hu;have hn':args.length≤fn.ntmps:=F4 hn;have h1:=xt (c₀:=c₀) (cs:=cs) c _ u _ _ w (mO ⟨args⟩ fn.ntmps hn' []) h;have hc:({c₀ with mode:=u}:Frame)=c₀:=(by subst hu;rfl);rw [hc] at h1;intro b k hb hro;obtain ⟨e,a,cs',w',⟨u',rfl,ρ,hr,h2⟩,harr⟩:=h1 b k hb hro;refine ⟨e,a,_,w',?_,harr⟩
   cases e with
   | normal=>obtain ⟨v,h3,h4⟩:=gF hr.2.1 h2;exact ⟨hr.2.2,u',rfl,v,h3,h4⟩
   | ret=>obtain ⟨v,h3,h4⟩:=gF hr.2.1 h2;exact ⟨hr.2.2,u',rfl,v,h3,h4⟩
   | panic ch=>exact ⟨hr.2.2,u',rfl,h2⟩
   | outgrown=>exact ⟨u',h2⟩
   | exit=>exact h2
   | goto=>exact h2

section
variable {P:Program}{ρ:KI}{w:World}{u:FrameMode}{ds:List Deferred}
theorem OQ {c:LC}{h:c.wp P (Q ds) ρ w}:(LD.pl c).wpD P Q ds ρ w:=h
theorem XP {a b:LD}{h:a.wpD P (fun ds'=>Qs (b.wpD P Q ds') (Q ds')) ds ρ w}:(LD.seq a b).wpD P Q ds ρ w:=h
theorem bG {l1 l2:List GO}{d:Option Nat}{x:Operand}{h:Q0 P l1 (Qs (fun ρ w=>∃f cap,ρ.ev x= .func (.func f) #[] cap∧Q0 P l2 (Q (⟨.fn (.func f) cap,#[]⟩::ds)) (KS ρ d undef) w) (Q ds)) ρ w}:(LD.sp l1 (.dfr d x) l2).wpD P Q ds ρ w:=h
theorem Rk {c:LC}{Q:FrameMode→QT}{h:c.wp P (Q u) ρ w}:(LD.pl c).wpR P Q u ρ w:=h
theorem bH {a b:LD}{Q:FrameMode→QT}{h:a.wpR P (fun u'=>Qs (b.wpR P Q u') (Q u')) u ρ w}:(LD.seq a b).wpR P Q u ρ w:=h
theorem Rl {l1 l2:List GO}{d:Option Nat}{Q:FrameMode→QT}{h:Q0 P l1 (Qs (fun ρ w=>Q0 P l2 (Q (MR u).2) (KS ρ d (MR u).1) w) (Q u)) ρ w}:(LD.sp l1 (.rcv d) l2).wpR P Q u ρ w:=h
def M3 (P:Program)(f:FuncId)(args:List Value)(u:FrameMode)(w:World)(S:FrameMode→World→Prop):Prop:=
 CallsD P f ⟨args⟩ u w fun e u' w'=>(∃v,e= .returned v)∧S u' w'
theorem XQ {S:FrameMode→World→Prop}(hu:u≠ .run)(hf:Sa P f=true)(hc:M3 P f cap u w S)
 (h:∀u' w',S u' w'→T1 P rs ρ R [] (settle u') w'):T1 P rs ρ R [⟨.fn (.func f) ⟨cap⟩,#[]⟩] u w:=by
 refine ⟨hu,f,⟨cap⟩,rfl,hf,hc.mono ?_⟩;rintro e u' w' ⟨⟨v,rfl⟩,hs⟩;exact h u' w' hs
theorem T3 {h:T1 P rs ρ R ds .returning w}:T2 P rs R ds .ret ρ w:=h
theorem bI {h:T1 P rs ρ R ds .returning w}:T2 P rs R ds .normal ρ w:=h
theorem lx {h:T1 P rs ρ R ds (.panicking ch) w}:T2 P rs R ds (.panic ch) ρ w:=h
theorem XR {h:KN P rs R .ret ρ w}:T1 P rs ρ R [] .returning w:=h
theorem bJ {R:Ending→FrameMode→World→Prop}{h:KN P rs (fun e w=>R e u w) .normal ρ w}:bF P rs R u .normal ρ w:=h
end
end
section
section
variable {P:Program}{l:List GO}{Q:QT}{ρ:KI}{w:World}{f:FuncId}{S T:Value→World→Prop}

theorem T4 {d:Nat}(h0:ρ.ev x0=u0)(hc:Ky P f [u0] w S T)(hp:∀v w',T v w'→Q (.panic [{v:=v,recovered:=false}]) ρ w')(h:∀v w',S v w'→Q0 P l Q (upd ρ d v) w'):Q0 P (⟨none, .call (some d) f [x0]⟩::l) Q ρ w:=by
 subst h0;exact lp Jr hc hp h
theorem T5 {d:Nat}(h0:ρ.ev x0=u0)(h1:ρ.ev x1=u1)(hc:Ky P f [u0,u1] w S T)(hp:∀v w',T v w'→Q (.panic [{v:=v,recovered:=false}]) ρ w')(h:∀v w',S v w'→Q0 P l Q (upd ρ d v) w'):Q0 P (⟨none, .call (some d) f [x0,x1]⟩::l) Q ρ w:=by
 subst h0 h1;exact lp Jr hc hp h
theorem T6 {d:Nat}(h0:ρ.ev x0=u0)(h1:ρ.ev x1=u1)(h2:ρ.ev x2=u2)(hc:Ky P f [u0,u1,u2] w S T)(hp:∀v w',T v w'→Q (.panic [{v:=v,recovered:=false}]) ρ w')(h:∀v w',S v w'→Q0 P l Q (upd ρ d v) w'):Q0 P (⟨none, .call (some d) f [x0,x1,x2]⟩::l) Q ρ w:=by
 subst h0 h1 h2;exact lp Jr hc hp h
theorem T7 {d:Nat}(h0:ρ.ev x0=u0)(h1:ρ.ev x1=u1)(h2:ρ.ev x2=u2)(h3:ρ.ev x3=u3)(hc:Ky P f [u0,u1,u2,u3] w S T)(hp:∀v w',T v w'→Q (.panic [{v:=v,recovered:=false}]) ρ w')(h:∀v w',S v w'→Q0 P l Q (upd ρ d v) w'):Q0 P (⟨none, .call (some d) f [x0,x1,x2,x3]⟩::l) Q ρ w:=by
 subst h0 h1 h2 h3;exact lp Jr hc hp h
theorem sk {o T:Nat}(hs:Xa P T=true)(hb:Lj w.heap b T' cs)(hv:cs[o]?=some v):Xg P w ⟨b,o,none⟩ T v:= .inl ⟨hs,hb.cell hv⟩
theorem xv (k:Nat){Ty:TypeId}(ht:P.underlying Ty=some (.interface ms)):(Op.equalIn (k+1) Ty .nilIface .nilIface).run P w0= .ok true w0:=by
 simp only [Op.equalIn,FH,Qb P Ty _ w0 ht,Fp];simp [FR]
theorem sm {Ty:TypeId}(ht:P.underlying Ty=some (.interface ms)):(Op.equal Ty .nilIface .nilIface).run P w0= .ok true w0:=xv 9999 ht
theorem xw (k:Nat){Ty:TypeId}(ht:P.underlying Ty=some (.interface ms)):(Op.equalIn (k+1) Ty (.iface U v) .nilIface).run P w0= .ok false w0:=by
 simp only [Op.equalIn,FH,Qb P Ty _ w0 ht,Fp];simp [FR]
theorem sn {Ty:TypeId}(ht:P.underlying Ty=some (.interface ms)):(Op.equal Ty (.iface U v) .nilIface).run P w0= .ok false w0:=xw 9999 ht
theorem so {d:Nat}{Ty:TypeId}{x:Operand}(ht:P.underlying Ty=some (.interface ms))(hx:ρ.ev x= .nilIface)(h:Q0 P l Q (upd ρ d (.bool false)) w):Q0 P (⟨none, .bin d .neq Ty x (.const .nilIface)⟩::l) Q ρ w:=
 ⟨_,fun w0=>by rw [hx];simp [KI.ev,eqGuard,binOp,sm ht],h⟩
theorem sq {d:Nat}{Ty:TypeId}{x:Operand}(ht:P.underlying Ty=some (.interface ms))(hx:ρ.ev x= .iface U v)(h:Q0 P l Q (upd ρ d (.bool true)) w):Q0 P (⟨none, .bin d .neq Ty x (.const .nilIface)⟩::l) Q ρ w:=
 ⟨_,fun w0=>by rw [hx];simp [KI.ev,eqGuard,binOp,sn ht],h⟩
theorem St.pick3 {c:Cx}{L L1 L2 L3:List Res}{r1 r2 r3:Res}(h:St c w L)(p1:Pick L r1 L1)(p2:Pick L1 r2 L2)(p3:Pick L2 r3 L3):St c w (r1::r2::r3::L3):=
 h.perm (p1.perm.trans (List.Perm.cons _ (p2.perm.trans (List.Perm.cons _ p3.perm))))
end
end
section
structure Bx (K:Prop):Prop where
 o:K
section
variable {K G:Prop}
theorem zn {k:K}(h:Bx K→G:=by
 intro K9;refine RF ?_;(repeat (first|refine aZ ?_|refine' kY));exact K9.o):G:=h ⟨k⟩
theorem ly {k:K}(h:Bx K→G:=by
 intro K9;refine' bm;(repeat (first|refine aZ ?_|refine' kY));exact K9.o):G:=h ⟨k⟩
theorem Kx {k:K}(h:Bx K→G:=by
 intro K9;refine' aV;(repeat (first|refine aZ ?_|refine' kY));exact K9.o):G:=h ⟨k⟩
theorem L8 {k:K}(h:Bx K→G:=by
 intro K9;refine' aW;(repeat (first|refine' Xj|refine' Xk|refine Xl rfl ?_|refine aZ ?_|refine' kY));exact K9.o):G:=h ⟨k⟩
theorem zr {k:K}(h:Bx K→G:=by
 intro K9;refine' ZM;(repeat (first|refine' Tj|refine' ba));exact K9.o):G:=h ⟨k⟩
theorem zy {A:Prop}{k:G}(h:A:=by
 repeat (first
  | exact fun _ h=>(Fv h).elim
  | refine Fe.2 ⟨by first|exact QZ hS rfl (FB (by repeat constructor)) rfl|exact nF hS rfl (FB (by repeat constructor)) rfl rfl|exact iw hS Ja rfl rfl|exact nO hS Ja rfl rfl rfl|exact fI hS Ja rfl rfl|exact nG hS Ja rfl rfl rfl|exact XD rfl rfl|exact fE rfl (QZ hS rfl (FB (by repeat constructor)) rfl)|exact fE rfl (nF hS rfl (FB (by repeat constructor)) rfl rfl)|exact fE rfl (iw hS Ja rfl rfl)|exact fE rfl (nO hS Ja rfl rfl rfl)|exact fE rfl (fI hS Ja rfl rfl)|exact fE rfl (nG hS Ja rfl rfl rfl),?_⟩)):A∧G:=⟨h,k⟩
end
section
variable {P:Program}{l:List GO}{Q:QT}{ρ:KI}{w:World}{c:Cx}{L:List Res}{i:Nat}{T es:Nat}{v:Value}{css:List (List Value)}
theorem zt {K:KT}{h:K ρ w}:Q0 P [] (Qs K Q) ρ w:=RF (aZ h)
theorem St.ns {L':List Res}(h:St c w L)(e:L=L':=by (conv=>lhs;simp only [Fi,Fo]);first|done|exact rfl):St c w L':=e ▸ h
theorem Kj {s:Nat}{b:Bool}{o:LO}{v:Value}{h:Q0 P l Q (KS ρ o.dst undef) w}(hg:ρ s=v:=by exact rfl)(hw:WJ v b=false:=by exact rfl):Q0 P (⟨some (s,b),o⟩::l) Q ρ w:=mX hg hw h
theorem Kl {s:Nat}{b:Bool}{o:LO}{h:Q0 P (⟨none,o⟩::l) Q ρ w}(hg:ρ s= .bool b:=by exact rfl):Q0 P (⟨some (s,b),o⟩::l) Q ρ w:=mW hg h
theorem Ki {c:Operand}{a b:LC}{h:a.wp P Q ρ w}(hc:ρ.ev c= .bool true:=by exact rfl):(LC.cond c a b).wp P Q ρ w:=Tg hc h
theorem Kk {c:Operand}{a b:LC}{h:b.wp P Q ρ w}(hc:ρ.ev c= .bool false:=by exact rfl):(LC.cond c a b).wp P Q ρ w:=Ti hc h
theorem MA {d:Nat}{x:Operand}{h:Q0 P l Q (upd ρ d (.pointer (some ⟨b,off,none⟩))) w}(hx:ρ.ev x= .pointer (some ⟨b,0,none⟩):=by exact rfl):Q0 P (⟨none, .fld d x off⟩::l) Q ρ w:=bp hx h
theorem sr {d:Nat}{x:Operand}{o:Nat}{h:Q0 P l Q (upd ρ d (.pointer (some ⟨b,o+off,none⟩))) w}(hx:ρ.ev x= .pointer (some ⟨b,o,none⟩):=by exact rfl):Q0 P (⟨none, .fld d x off⟩::l) Q ρ w:=ZN hx h
theorem SO {d:Nat}{x:Operand}{a:Addr}{h:Q0 P l Q (upd ρ d (.pointer (some a))) w}(hx:ρ.ev x= .pointer (some a):=by exact rfl):Q0 P (⟨none, .nilc d x⟩::l) Q ρ w:=bd hx h
theorem PC {d:Nat}{x:Operand}{b:Bool}{h:Q0 P l Q (upd ρ d (.bool (!b))) w}(hx:ρ.ev x= .bool b:=by exact rfl):Q0 P (⟨none, .un d .not x⟩::l) Q ρ w:=gN hx h
theorem lz {d:Nat}{x:Operand}{i:Nat}{vs:List Value}{v:Value}{h:Q0 P l Q (upd ρ d v) w}(hx:ρ.ev x= .tuple ⟨vs⟩:=by exact rfl)(hv:vs[i]?=some v:=by exact rfl):Q0 P (⟨none, .ext d x i⟩::l) Q ρ w:=gP hx hv h
theorem zm {d:Nat}{x:Operand}{v:Value}{h:Q0 P l Q (upd ρ d v) w}(hx:ρ.ev x=v:=by (conv=>lhs;whnf);first|done|exact rfl):Q0 P (⟨none, .mov d x⟩::l) Q ρ w:=gM hx h
theorem Oy {d:Nat}{c x y:Operand}{v:Value}{h:Q0 P l Q (upd ρ d v) w}(hc:ρ.ev c= .bool true:=by exact rfl)(hx:ρ.ev x=v:=by (conv=>lhs;whnf);first|done|exact rfl):Q0 P (⟨none, .pick d c x y⟩::l) Q ρ w:=Pf hc hx h
theorem ss {d:Nat}{c x y:Operand}{v:Value}{h:Q0 P l Q (upd ρ d v) w}(hc:ρ.ev c= .bool false:=by exact rfl)(hx:ρ.ev y=v:=by (conv=>lhs;whnf);first|done|exact rfl):Q0 P (⟨none, .pick d c x y⟩::l) Q ρ w:=P4 hc hx h
theorem lA {d:Nat}{T:TypeId}{x:Operand}{v:Value}{h:Q0 P l Q (upd ρ d (.iface T v)) w}(hx:ρ.ev x=v:=by (conv=>lhs;whnf);first|done|exact rfl):Q0 P (⟨none, .mki d T x⟩::l) Q ρ w:=gT hx h
theorem zl {d:Nat}{x:Operand}{o:Nat}{u:Value}(hS:St c w L)(h:Q0 P l Q (upd ρ d u) w)(hx:ρ.ev x= .pointer (some ⟨b,o,none⟩):=by exact rfl)(hi:nth L i=some (blk b T cs):=by exact FB (by repeat constructor))(hu:cs[o]?=some u:=by exact rfl):Q0 P (⟨none, .load1 d x⟩::l) Q ρ w:=QX hS hx hi hu h
theorem Rm {d:Nat}{x:Operand}{o:Nat}{u:Value}(hS:St c w L)(h:Q0 P l Q (upd ρ d u) w)(ha:OL c b o cs:=by assumption)(hx:ρ.ev x= .pointer (some ⟨b,o,none⟩):=by exact rfl)(hu:cs[0]?=some u:=by exact rfl):Q0 P (⟨none, .load1 d x⟩::l) Q ρ w:=XF hS ha hx hu h
theorem ZY {d:Nat}{x:Operand}{o:Nat}{u:Value}(hS:St c w L)(h:Q0 P l Q (upd ρ d u) w)(ha:OL c b o cs:=by assumption)(hx:ρ.ev x= .pointer (some ⟨b,o+j,none⟩):=by exact rfl)(hu:cs[j]?=some u:=by exact rfl):Q0 P (⟨none, .load1 d x⟩::l) Q ρ w:=TM hS ha hx hu h
theorem zv {d n:Nat}{x:Operand}{o:Nat}(hS:St c w L)(h:Q0 P l Q (upd ρ d (.agg ⟨us⟩)) w)(hx:ρ.ev x= .pointer (some ⟨b,o,none⟩):=by exact rfl)(hi:nth L i=some (blk b T cs):=by exact FB (by repeat constructor))(hu:(cs.drop o).take n=us:=by exact rfl)(hl:us.length=n:=by exact rfl):Q0 P (⟨none, .loadn d n x⟩::l) Q ρ w:=nC hS hx hi hu hl h
theorem xx {d n:Nat}{x:Operand}{o:Nat}(hS:St c w L)(h:Q0 P l Q (upd ρ d (.agg ⟨cs⟩)) w)(ha:OL c b o cs:=by assumption)(hx:ρ.ev x= .pointer (some ⟨b,o,none⟩):=by exact rfl)(hl:cs.length=n:=by exact rfl):Q0 P (⟨none, .loadn d n x⟩::l) Q ρ w:=TO hS ha hx hl h
theorem iF {d n:Nat}{x:Operand}{o:Nat}{xs:List Int}(hS:St c w L)(h:Q0 P l Q (upd ρ d (.int .i64 (xs.getD m 0))) w)(he:Nw v n 1 m b o:=by assumption)(hx:ρ.ev x= .pointer (some ⟨b,o,none⟩):=by exact rfl)(hi:nth L i=some (sl T 1 v (xs.map Qr)):=by exact FB (by repeat constructor))(hn:(xs.map Qr).length=n:=by exact rfl)(hm:m<xs.length:=by first|omega|(simp;omega)):Q0 P (⟨none, .load1 d x⟩::l) Q ρ w:=nH hS he hx hi hn hm h
theorem iG {d n:Nat}{x:Operand}{o:Nat}(hS:St c w L)(h:Q0 P l Q (upd ρ d (.bool (xs.getD m false))) w)(he:Nw v n 1 m b o:=by assumption)(hx:ρ.ev x= .pointer (some ⟨b,o,none⟩):=by exact rfl)(hi:nth L i=some (sl T 1 v (xs.map QE)):=by exact FB (by repeat constructor))(hn:(xs.map QE).length=n:=by exact rfl)(hm:m<xs.length:=by first|omega|(simp;omega)):Q0 P (⟨none, .load1 d x⟩::l) Q ρ w:=TP hS he hx hi hn hm h
theorem su {d n:Nat}{x:Operand}(hS:St c w L)(h:Q0 P l Q (upd ρ d (.int .i64 n)) w)(hx:ρ.ev x=v:=by (conv=>lhs;whnf);first|done|exact rfl)(hi:nth L i=some (sl T es v css):=by exact FB (by repeat constructor))(hn:css.length=n:=by first|exact Fb _|rfl):Q0 P (⟨none, .len d x⟩::l) Q ρ w:=QL hS hx hi hn h
theorem MX {d:Nat}{T:TypeId}{x y:Operand}{b:Int}{h:Q0 P l Q (upd ρ d (.int .i64 (a+b))) w}(hx:ρ.ev x= .int .i64 a:=by exact rfl)(hy:ρ.ev y= .int .i64 b:=by exact rfl)(h1: -9223372036854775808≤a+b:=by omega)(h2:a+b≤9223372036854775807:=by omega):Q0 P (⟨none, .bin d .add T x y⟩::l) Q ρ w:=gV hx hy h1 h2 h
theorem PD {d:Nat}{T:TypeId}{x y:Operand}{b:Int}{h:Q0 P l Q (upd ρ d (.int .i64 (a - b))) w}(hx:ρ.ev x= .int .i64 a:=by exact rfl)(hy:ρ.ev y= .int .i64 b:=by exact rfl)(h1: -9223372036854775808≤a - b:=by omega)(h2:a - b≤9223372036854775807:=by omega):Q0 P (⟨none, .bin d .sub T x y⟩::l) Q ρ w:=bl hx hy h1 h2 h
theorem OR {d:Nat}{T:TypeId}{x y:Operand}{b:Int}{h:Q0 P l Q (upd ρ d (.int .i64 (a*b))) w}(hx:ρ.ev x= .int .i64 a:=by exact rfl)(hy:ρ.ev y= .int .i64 b:=by exact rfl)(h1: -9223372036854775808≤a*b:=by omega)(h2:a*b≤9223372036854775807:=by omega):Q0 P (⟨none, .bin d .mul T x y⟩::l) Q ρ w:=gW hx hy h1 h2 h
theorem KX {d:Nat}{T:TypeId}{x y:Operand}{b:Int}{h:Q0 P l Q (upd ρ d (.bool true)) w}(hx:ρ.ev x= .int k a:=by exact rfl)(hy:ρ.ev y= .int k b:=by exact rfl)(hp:a<b:=by omega):Q0 P (⟨none, .bin d .lss T x y⟩::l) Q ρ w:=Xq hx hy hp h
theorem K1 {d:Nat}{T:TypeId}{x y:Operand}{b:Int}{h:Q0 P l Q (upd ρ d (.bool false)) w}(hx:ρ.ev x= .int k a:=by exact rfl)(hy:ρ.ev y= .int k b:=by exact rfl)(hp:¬(a<b):=by omega):Q0 P (⟨none, .bin d .lss T x y⟩::l) Q ρ w:=Xr hx hy hp h
theorem Ql {d:Nat}{T:TypeId}{x y:Operand}{b:Int}{h:Q0 P l Q (upd ρ d (.bool true)) w}(hx:ρ.ev x= .int k a:=by exact rfl)(hy:ρ.ev y= .int k b:=by exact rfl)(hp:a=b:=by omega):Q0 P (⟨none, .bin d .eql T x y⟩::l) Q ρ w:=rM hx hy hp h
theorem Qp {d:Nat}{T:TypeId}{x y:Operand}{b:Int}{h:Q0 P l Q (upd ρ d (.bool false)) w}(hx:ρ.ev x= .int k a:=by exact rfl)(hy:ρ.ev y= .int k b:=by exact rfl)(hp:¬(a=b):=by omega):Q0 P (⟨none, .bin d .eql T x y⟩::l) Q ρ w:=rN hx hy hp h
theorem QO {d:Nat}{T:TypeId}{x y:Operand}{b:Int}{h:Q0 P l Q (upd ρ d (.bool true)) w}(hx:ρ.ev x= .int k a:=by exact rfl)(hy:ρ.ev y= .int k b:=by exact rfl)(hp:a≠b:=by omega):Q0 P (⟨none, .bin d .neq T x y⟩::l) Q ρ w:=Xo hx hy hp h
theorem QU {d:Nat}{T:TypeId}{x y:Operand}{b:Int}{h:Q0 P l Q (upd ρ d (.bool false)) w}(hx:ρ.ev x= .int k a:=by exact rfl)(hy:ρ.ev y= .int k b:=by exact rfl)(hp:¬(a≠b):=by omega):Q0 P (⟨none, .bin d .neq T x y⟩::l) Q ρ w:=Xp hx hy hp h
theorem QV {d:Nat}{T:TypeId}{x y:Operand}{b:Int}{h:Q0 P l Q (upd ρ d (.bool true)) w}(hx:ρ.ev x= .int k a:=by exact rfl)(hy:ρ.ev y= .int k b:=by exact rfl)(hp:b<a:=by omega):Q0 P (⟨none, .bin d .gtr T x y⟩::l) Q ρ w:=Xv hx hy hp h
theorem QW {d:Nat}{T:TypeId}{x y:Operand}{b:Int}{h:Q0 P l Q (upd ρ d (.bool false)) w}(hx:ρ.ev x= .int k a:=by exact rfl)(hy:ρ.ev y= .int k b:=by exact rfl)(hp:¬(b<a):=by omega):Q0 P (⟨none, .bin d .gtr T x y⟩::l) Q ρ w:=Xw hx hy hp h
theorem Ml {d:Nat}{T:TypeId}{x y:Operand}{b:Int}{h:Q0 P l Q (upd ρ d (.bool true)) w}(hx:ρ.ev x= .int k a:=by exact rfl)(hy:ρ.ev y= .int k b:=by exact rfl)(hp:b≤a:=by omega):Q0 P (⟨none, .bin d .geq T x y⟩::l) Q ρ w:=Xx hx hy hp h
theorem MN {d:Nat}{T:TypeId}{x y:Operand}{b:Int}{h:Q0 P l Q (upd ρ d (.bool false)) w}(hx:ρ.ev x= .int k a:=by exact rfl)(hy:ρ.ev y= .int k b:=by exact rfl)(hp:¬(b≤a):=by omega):Q0 P (⟨none, .bin d .geq T x y⟩::l) Q ρ w:=Xy hx hy hp h
theorem iH {d:Nat}{T:TypeId}{x y:Operand}{b:Int}{h:Q0 P l Q (upd ρ d (.bool true)) w}(hx:ρ.ev x= .int k a:=by exact rfl)(hy:ρ.ev y= .int k b:=by exact rfl)(hp:a≤b:=by omega):Q0 P (⟨none, .bin d .leq T x y⟩::l) Q ρ w:=Xs hx hy hp h
theorem iI {d:Nat}{T:TypeId}{x y:Operand}{b:Int}{h:Q0 P l Q (upd ρ d (.bool false)) w}(hx:ρ.ev x= .int k a:=by exact rfl)(hy:ρ.ev y= .int k b:=by exact rfl)(hp:¬(a≤b):=by omega):Q0 P (⟨none, .bin d .leq T x y⟩::l) Q ρ w:=Xt hx hy hp h
theorem LU {x y:Operand}{o:Nat}{u:Value}(hS:St c w L)(h:∀w',St c w' (L.set i (blk b T (cs.set o u)))→Q0 P l Q ρ w')(hx:ρ.ev x= .pointer (some ⟨b,o,none⟩):=by exact rfl)(hy:ρ.ev y=u:=by (conv=>lhs;whnf);first|done|exact rfl)(hi:nth L i=some (blk b T cs):=by exact FB (by repeat constructor))(ho:o<cs.length:=by simp)(h1:oneC u=true:=by first|rfl|assumption|exact hS.oneC (FB (by repeat constructor))|exact JN (by assumption)):Q0 P (⟨none, .store1 x y⟩::l) Q ρ w:=r7 hS hx hy hi ho h1 h
theorem sv {n:Nat}{x y:Operand}{o:Nat}{xs:List Int}{u:Int}(hS:St c w L)(h:∀w',St c w' (L.set i (sl T 1 v ((xs.set m u).map Qr)))→Q0 P l Q ρ w')(he:Nw v n 1 m b o:=by assumption)(hx:ρ.ev x= .pointer (some ⟨b,o,none⟩):=by exact rfl)(hy:ρ.ev y= .int .i64 u:=by (conv=>lhs;whnf);first|done|exact rfl)(hi:nth L i=some (sl T 1 v (xs.map Qr)):=by exact FB (by repeat constructor))(hn:(xs.map Qr).length=n:=by exact rfl)(hm:m<xs.length:=by first|omega|(simp;omega)):Q0 P (⟨none, .store1 x y⟩::l) Q ρ w:=TQ hS he hx hy hi hn hm h
theorem sx {n:Nat}{x y:Operand}{o:Nat}{u:Bool}(hS:St c w L)(h:∀w',St c w' (L.set i (sl T 1 v ((xs.set m u).map QE)))→Q0 P l Q ρ w')(he:Nw v n 1 m b o:=by assumption)(hx:ρ.ev x= .pointer (some ⟨b,o,none⟩):=by exact rfl)(hy:ρ.ev y= .bool u:=by (conv=>lhs;whnf);first|done|exact rfl)(hi:nth L i=some (sl T 1 v (xs.map QE)):=by exact FB (by repeat constructor))(hn:(xs.map QE).length=n:=by exact rfl)(hm:m<xs.length:=by first|omega|(simp;omega)):Q0 P (⟨none, .store1 x y⟩::l) Q ρ w:=xh hS he hx hy hi hn hm h
theorem zb {d:Nat}{x:Operand}{cs:List Value}(hS:St c w L)(h:∀b w',St c w' (blk b T cs::L)→Q0 P l Q (upd ρ d (.pointer (some ⟨b,0,none⟩))) w')(hx:ρ.ev x=v:=by (conv=>lhs;whnf);first|done|exact rfl)(hc:v.cells=⟨cs⟩:=by rfl):Q0 P (⟨none, .box d T x⟩::l) Q ρ w:=N9 hS hx hc h
theorem PE {d m:Nat}{x y:Operand}(hS:St c w L)(h:∀b o,Nw v css.length es m b o→Q0 P l Q (upd ρ d (.pointer (some ⟨b,o,none⟩))) w)(hx:ρ.ev x=v:=by (conv=>lhs;whnf);first|done|exact rfl)(hy:ρ.ev y= .int k (m:Int):=by exact rfl)(hi:nth L i=some (sl T es v css):=by exact FB (by repeat constructor))(hm:m<css.length:=by first|omega|(simp;omega)):Q0 P (⟨none, .idx d es x y⟩::l) Q ρ w:=RI hS hx hy hi hm h
theorem XS {d:Nat}{x y:Operand}{n:Int}(hS:St c w L)(h:∀b o,Nw v css.length es n.toNat b o→Q0 P l Q (upd ρ d (.pointer (some ⟨b,o,none⟩))) w)(hx:ρ.ev x=v:=by (conv=>lhs;whnf);first|done|exact rfl)(hy:ρ.ev y= .int k n:=by exact rfl)(hi:nth L i=some (sl T es v css):=by exact FB (by repeat constructor))(h0:0≤n:=by first|omega|(simp;omega))(hm:n<css.length:=by first|omega|(simp;omega)):Q0 P (⟨none, .idx d es x y⟩::l) Q ρ w:=P5 hS hx hy hi h0 hm h
theorem Kt {n i T:Nat}{x y:Operand}(hS:St c w L)(h:∀w',St c w' (L.set i (blk b T us))→Q0 P l Q ρ w')(hx:ρ.ev x= .pointer (some ⟨b,0,none⟩):=by exact rfl)(hy:ρ.ev y= .agg ⟨us⟩:=by exact rfl)(hn:us.length=n:=by rfl)(hi:nth L i=some (blk b T cs):=by exact FB (by repeat constructor))(hc:cs.length=n:=by rfl)(h1:∀u∈us,oneC u=true:=by first|(simp [oneC];done)|assumption|exact Rep.one _ (by assumption)|(simp only [HJ,IZ,F9,FA,Fv,or_false,forall_eq_or_imp,forall_eq];((try refine And.intro ?_ ?_)<;>try refine And.intro ?_ ?_)<;>first|rfl|assumption)):Q0 P (⟨none, .storen n x y⟩::l) Q ρ w:=xk hS hx hy hn hi hc h1 h
theorem iJ {n:Nat}{x y:Operand}{o:Nat}(hS:St c w L)(h:∀w',St c w' (L.set i (blk b T cs'))→Q0 P l Q ρ w')(hx:ρ.ev x= .pointer (some ⟨b,o,none⟩):=by exact rfl)(hy:ρ.ev y= .agg ⟨us⟩:=by exact rfl)(hn:us.length=n:=by rfl)(hi:nth L i=some (blk b T cs):=by exact FB (by repeat constructor))(ho:o+n≤cs.length:=by simp)(h1:∀u∈us,oneC u=true:=by first|(simp [oneC];done)|assumption|exact Rep.one _ (by assumption)|(simp only [HJ,IZ,F9,FA,Fv,or_false,forall_eq_or_imp,forall_eq];((try refine And.intro ?_ ?_)<;>try refine And.intro ?_ ?_)<;>first|rfl|assumption))(hc:cs.take o++(us++cs.drop (o+n))=cs':=by (conv=>lhs;simp only [HJ,IZ,JZ,F9,Gu,IW]);first|done|exact rfl):Q0 P (⟨none, .storen n x y⟩::l) Q ρ w:=SM hS hx hy hn hi ho h1 hc h
theorem zf {v:Value}{h:R (.returned v) w}(hv:ρ t=v:=by (conv=>lhs;whnf);first|done|exact rfl):KN P [.tmp t] R .ret ρ w:=aX hv h
theorem lB {u:Nat}{v v':Value}{h:R (.returned (.tuple #[v,v'])) w}(hv:ρ t=v:=by (conv=>lhs;whnf);first|done|exact rfl)(hv':ρ u=v':=by (conv=>lhs;whnf);first|done|exact rfl):KN P [.tmp t, .tmp u] R .ret ρ w:=aY hv hv' h
theorem L0 {d:Nat}{z:List Value}(cs:List Value)(h:Q0 P l Q (upd ρ d (.agg ⟨cs⟩)) w)(hf:NG z []=some cs:=by rfl):Q0 P (⟨none, .build d z []⟩::l) Q ρ w:=lk hf h
theorem Pg {d:Nat}{z:List Value}(cs:List Value)(h:Q0 P l Q (upd ρ d (.agg ⟨cs⟩)) w)(h0:ρ.ev x0=v0:=by (conv=>lhs;whnf);first|done|exact rfl)(hf:NG z [(o0,n0,v0)]=some cs:=by rfl):Q0 P (⟨none, .build d z [(o0,n0,x0)]⟩::l) Q ρ w:=nr h0 hf h
theorem K8 {d:Nat}{T:TypeId}{n:Nat}{z:List Value}(hS:St c w L)(cs:List Value)(h:∀b w',St c w' (blk b T cs::L)→Q0 P l Q (upd ρ d (.slice (some ⟨b,0,none⟩) n n)) w')(h0:ρ.ev x0=v0:=by (conv=>lhs;whnf);first|done|exact rfl)(hf:NG z [(o0,n0,v0)]=some cs:=by rfl):Q0 P (⟨none, .buildS d T n z [(o0,n0,x0)]⟩::l) Q ρ w:=Rh h0 hf fun b w' hb hf1 _ hk=>h b w' (hS.laid hb hf1 hk)
theorem M9 {d:Nat}{z:List Value}(cs:List Value)(h:Q0 P l Q (upd ρ d (.agg ⟨cs⟩)) w)(h0:ρ.ev x0=v0:=by (conv=>lhs;whnf);first|done|exact rfl)(h1:ρ.ev x1=v1:=by (conv=>lhs;whnf);first|done|exact rfl)(hf:NG z [(o0,n0,v0),(o1,n1,v1)]=some cs:=by rfl):Q0 P (⟨none, .build d z [(o0,n0,x0),(o1,n1,x1)]⟩::l) Q ρ w:=iq h0 h1 hf h
theorem Ph {d:Nat}{z:List Value}(cs:List Value)(h:Q0 P l Q (upd ρ d (.agg ⟨cs⟩)) w)(h0:ρ.ev x0=v0:=by (conv=>lhs;whnf);first|done|exact rfl)(h1:ρ.ev x1=v1:=by (conv=>lhs;whnf);first|done|exact rfl)(h2:ρ.ev x2=v2:=by (conv=>lhs;whnf);first|done|exact rfl)(hf:NG z [(o0,n0,v0),(o1,n1,v1),(o2,n2,v2)]=some cs:=by rfl):Q0 P (⟨none, .build d z [(o0,n0,x0),(o1,n1,x1),(o2,n2,x2)]⟩::l) Q ρ w:=TD h0 h1 h2 hf h
theorem sy {d:Nat}{z:List Value}(cs:List Value)(h:Q0 P l Q (upd ρ d (.agg ⟨cs⟩)) w)(h0:ρ.ev x0=v0:=by (conv=>lhs;whnf);first|done|exact rfl)(h1:ρ.ev x1=v1:=by (conv=>lhs;whnf);first|done|exact rfl)(h2:ρ.ev x2=v2:=by (conv=>lhs;whnf);first|done|exact rfl)(h3:ρ.ev x3=v3:=by (conv=>lhs;whnf);first|done|exact rfl)(hf:NG z [(o0,n0,v0),(o1,n1,v1),(o2,n2,v2),(o3,n3,v3)]=some cs:=by rfl):Q0 P (⟨none, .build d z [(o0,n0,x0),(o1,n1,x1),(o2,n2,x2),(o3,n3,x3)]⟩::l) Q ρ w:=TG h0 h1 h2 h3 hf h
theorem iK {d:Nat}{z:List Value}{o4 n4:Nat}(cs:List Value)(h:Q0 P l Q (upd ρ d (.agg ⟨cs⟩)) w)(h0:ρ.ev x0=v0:=by (conv=>lhs;whnf);first|done|exact rfl)(h1:ρ.ev x1=v1:=by (conv=>lhs;whnf);first|done|exact rfl)(h2:ρ.ev x2=v2:=by (conv=>lhs;whnf);first|done|exact rfl)(h3:ρ.ev x3=v3:=by (conv=>lhs;whnf);first|done|exact rfl)(h4:ρ.ev x4=v4:=by (conv=>lhs;whnf);first|done|exact rfl)(hf:NG z [(o0,n0,v0),(o1,n1,v1),(o2,n2,v2),(o3,n3,v3),(o4,n4,v4)]=some cs:=by rfl):Q0 P (⟨none, .build d z [(o0,n0,x0),(o1,n1,x1),(o2,n2,x2),(o3,n3,x3),(o4,n4,x4)]⟩::l) Q ρ w:=TH h0 h1 h2 h3 h4 hf h
theorem zD {es:List (List Nat)}(C:List CI)(h:Q0 P (C.map fun c=>K5 gs c.1) Q ρ w.drew)(hok:aT gs es C=true:=by kernel_rfl)(hpl:(C.all fun c=>match c.2 with|some (some _)=>false|_=>true)=true:=by kernel_rfl):(LC.draw gs es).wp P Q ρ w:=m8 C hok hpl h
theorem zC {es:List (List Nat)}(C:List CI)(h:OI P gs C Q ρ w.drew)(hok:aT gs es C=true:=by kernel_rfl):(LC.draw gs es).wp P Q ρ w:=m9 C hok h
theorem nT {d:Nat}(c:Kf P f [] w S){h:∀v w',S v w'→Q0 P l Q (upd ρ d v) w'}:Q0 P (⟨none, .call (some d) f []⟩::l) Q ρ w:=TS c h
theorem KE {d:Nat}(h0:ρ.ev x0=u0:=by (conv=>lhs;whnf);first|done|exact rfl)(c:Kf P f [u0] w S){h:∀v w',S v w'→Q0 P l Q (upd ρ d v) w'}:Q0 P (⟨none, .call (some d) f [x0]⟩::l) Q ρ w:=nI h0 c h
theorem OS {d:Nat}{T:Value→World→Prop}(h0:ρ.ev x0=u0:=by (conv=>lhs;whnf);first|done|exact rfl)(c:Ky P f [u0] w S T)(p:∀v w',T v w'→Q (.panic [{v:=v,recovered:=false}]) ρ w')(h:∀v w',S v w'→Q0 P l Q (upd ρ d v) w'):Q0 P (⟨none, .call (some d) f [x0]⟩::l) Q ρ w:=T4 h0 c p h
theorem Kr {d:Nat}(h0:ρ.ev x0=u0:=by (conv=>lhs;whnf);first|done|exact rfl)(h1:ρ.ev x1=u1:=by (conv=>lhs;whnf);first|done|exact rfl)(c:Kf P f [u0,u1] w S){h:∀v w',S v w'→Q0 P l Q (upd ρ d v) w'}:Q0 P (⟨none, .call (some d) f [x0,x1]⟩::l) Q ρ w:=bz h0 h1 c h
theorem KH {d:Nat}{T:Value→World→Prop}(h0:ρ.ev x0=u0:=by (conv=>lhs;whnf);first|done|exact rfl)(h1:ρ.ev x1=u1:=by (conv=>lhs;whnf);first|done|exact rfl)(c:Ky P f [u0,u1] w S T)(p:∀v w',T v w'→Q (.panic [{v:=v,recovered:=false}]) ρ w'){h:∀v w',S v w'→Q0 P l Q (upd ρ d v) w'}:Q0 P (⟨none, .call (some d) f [x0,x1]⟩::l) Q ρ w:=T5 h0 h1 c p h
theorem Lg {d:Nat}(h0:ρ.ev x0=u0:=by (conv=>lhs;whnf);first|done|exact rfl)(h1:ρ.ev x1=u1:=by (conv=>lhs;whnf);first|done|exact rfl)(h2:ρ.ev x2=u2:=by (conv=>lhs;whnf);first|done|exact rfl)(c:Kf P f [u0,u1,u2] w S){h:∀v w',S v w'→Q0 P l Q (upd ρ d v) w'}:Q0 P (⟨none, .call (some d) f [x0,x1,x2]⟩::l) Q ρ w:=TU h0 h1 h2 c h
theorem MG {d:Nat}{T:Value→World→Prop}(h0:ρ.ev x0=u0:=by (conv=>lhs;whnf);first|done|exact rfl)(h1:ρ.ev x1=u1:=by (conv=>lhs;whnf);first|done|exact rfl)(h2:ρ.ev x2=u2:=by (conv=>lhs;whnf);first|done|exact rfl)(c:Ky P f [u0,u1,u2] w S T)(p:∀v w',T v w'→Q (.panic [{v:=v,recovered:=false}]) ρ w'){h:∀v w',S v w'→Q0 P l Q (upd ρ d v) w'}:Q0 P (⟨none, .call (some d) f [x0,x1,x2]⟩::l) Q ρ w:=T6 h0 h1 h2 c p h
theorem Ny {d:Nat}(h0:ρ.ev x0=u0:=by (conv=>lhs;whnf);first|done|exact rfl)(h1:ρ.ev x1=u1:=by (conv=>lhs;whnf);first|done|exact rfl)(h2:ρ.ev x2=u2:=by (conv=>lhs;whnf);first|done|exact rfl)(h3:ρ.ev x3=u3:=by (conv=>lhs;whnf);first|done|exact rfl)(c:Kf P f [u0,u1,u2,u3] w S){h:∀v w',S v w'→Q0 P l Q (upd ρ d v) w'}:Q0 P (⟨none, .call (some d) f [x0,x1,x2,x3]⟩::l) Q ρ w:=TV h0 h1 h2 h3 c h
theorem nU {d:Nat}{T:Value→World→Prop}(h0:ρ.ev x0=u0:=by (conv=>lhs;whnf);first|done|exact rfl)(h1:ρ.ev x1=u1:=by (conv=>lhs;whnf);first|done|exact rfl)(h2:ρ.ev x2=u2:=by (conv=>lhs;whnf);first|done|exact rfl)(h3:ρ.ev x3=u3:=by (conv=>lhs;whnf);first|done|exact rfl)(c:Ky P f [u0,u1,u2,u3] w S T)(p:∀v w',T v w'→Q (.panic [{v:=v,recovered:=false}]) ρ w'){h:∀v w',S v w'→Q0 P l Q (upd ρ d v) w'}:Q0 P (⟨none, .call (some d) f [x0,x1,x2,x3]⟩::l) Q ρ w:=T7 h0 h1 h2 h3 c p h
variable {α:Type}{r:Rep α}{xs:List α}
theorem zL {d:Nat}{x:Operand}{h:Q0 P l Q (upd ρ d (.int .i64 xs.length)) w}(hx:ρ.ev x=v:=by (conv=>lhs;whnf);first|done|exact rfl)(hK:r.sl c v xs:=by assumption):Q0 P (⟨none, .len d x⟩::l) Q ρ w:=iy hx hK h
theorem zi {d m:Nat}{x y:Operand}{h:∀b o cs a,OL c b o cs→xs[m]?=some a→r.at c cs a→Q0 P l Q (upd ρ d (.pointer (some ⟨b,o,none⟩))) w}(hx:ρ.ev x=v:=by (conv=>lhs;whnf);first|done|exact rfl)(hy:ρ.ev y= .int k (m:Int):=by exact rfl)(hK:r.sl c v xs:=by assumption)(hes:r.es=es:=by exact rfl)(hn:m<xs.length:=by first|omega|(simp;omega)):Q0 P (⟨none, .idx d es x y⟩::l) Q ρ w:=TY hx hy hK hes hn h
theorem zj {d:Nat}{x y:Operand}{n:Int}{h:∀b o cs a,OL c b o cs→xs[n.toNat]?=some a→r.at c cs a→Q0 P l Q (upd ρ d (.pointer (some ⟨b,o,none⟩))) w}(hx:ρ.ev x=v:=by (conv=>lhs;whnf);first|done|exact rfl)(hy:ρ.ev y= .int k n:=by exact rfl)(hK:r.sl c v xs:=by assumption)(hes:r.es=es:=by exact rfl)(h0:0≤n:=by first|omega|(simp;omega))(hn:n<xs.length:=by first|omega|(simp;omega)):Q0 P (⟨none, .idx d es x y⟩::l) Q ρ w:=fJ hx hy hK hes h0 hn h
theorem za {T T' d Ty i k:Nat}{z : List Value}{x y : Operand}{css : List (List Value)}{a : α}(hel : Ns P Ts = some (T, es, nb, z))(hts : ∃ e2, P.underlying Ts2 = some (.slice e2))(hS : St c w L)(h : ∀ v' w' css', r.ls c css' (xs ++ [a]) → oneC v' = true → St c w' (L.set i (Go.Lir.sl T es v' css')) → Q0 P l Q (upd ρ d v') w')(hx : ρ.ev x = v := by (conv => lhs; whnf); first | done | exact rfl)(hy : ρ.ev y = .slice (some ⟨b, 0, none⟩) 1 1 := by (conv => lhs; whnf); first | done | exact rfl)(hi : nth L i = some (Go.Lir.sl T es v css) := by exact FB (by repeat constructor))(hk : nth L k = some (blk b T' ds) := by exact FB (by repeat constructor))(hls : r.ls c css xs := by assumption)(ha : r.at c ds a := by first | assumption | exact rfl)(hes : r.es = es := by exact rfl)(hb : (xs.length + 1) * nb ≤ 140737488355328 := by first | omega | (simp only [Gm]; omega) | (simp; omega)): Q0 P (⟨none, .raw ⟨some d, .call ⟨.builtin .append, #[x, y], #[Ts, Ts2]⟩, Ty, "", #[], none⟩⟩ :: l) Q ρ w := XH hel hts hS hx hy hi hk hls ha hes hb h
theorem lC {T d Ty i:Nat}{z : List Value}{x y : Operand}{css : List (List Value)}{ys : List α}(hel : Ns P Ts = some (T, es, nb, z))(hts : ∃ e2, P.underlying Ts2 = some (.slice e2))(hS : St c w L)(h : ∀ v' w' css', r.ls c css' (xs ++ ys) → oneC v' = true → St c w' (L.set i (Go.Lir.sl T es v' css')) → Q0 P l Q (upd ρ d v') w')(hx : ρ.ev x = v := by (conv => lhs; whnf); first | done | exact rfl)(hy : ρ.ev y = v2 := by (conv => lhs; whnf); first | done | exact rfl)(hi : nth L i = some (Go.Lir.sl T es v css) := by exact FB (by repeat constructor))(hls : r.ls c css xs := by assumption)(hK : r.sl c v2 ys := by assumption)(hes : r.es = es := by exact rfl)(hb : (xs.length + ys.length) * nb ≤ 140737488355328 := by first | omega | (simp only [Gm]; omega) | (simp; omega)): Q0 P (⟨none, .raw ⟨some d, .call ⟨.builtin .append, #[x, y], #[Ts, Ts2]⟩, Ty, "", #[], none⟩⟩ :: l) Q ρ w := XI hel hts hS hx hy hi hls hK hes hb h
def ZZ (ρ:KI)(ts:List Nat):List (Nat×Value):=ts.map fun t=>(t,ρ t)
theorem iL (ρ:KI):ZZ ρ []=[]:=rfl
theorem iM {ts:List Nat}{u:Value}(h:ρ t=u)(h2:ZZ ρ ts=A):ZZ ρ (t::ts)=(t,u)::A:=by subst h h2;rfl
theorem zh (h:Kn ρ A:=by repeat' (first|exact trivial|refine And.intro rfl ?_)):Kn ρ A:=h
theorem Kp {B:List (Nat×Value)}(h:Kn ρ A)(h2:Kn ρ B):∃ρ',ρ=Se (Se ρ' B) A:=⟨ρ,by rw [mV h2,mV h]⟩
theorem zo {a:LC}(ts:List Nat)(I:List (Nat×Value)→KI→World→Prop)(μ:KI→World→Nat)(h0:I A ρ w)(h:∀ρ w,I A ρ w→a.wp P (Qs (fun ρ' w'=>I A ρ' w'∧μ ρ' w'<μ ρ w) Q) ρ w)(hA:ZZ ρ ts=A:=by (repeat (apply iM;· ((conv=>lhs;whnf);first|done|exact rfl)));exact iL _):(LC.loop a).wp P Q ρ w:=fx (I A) μ h0 h
theorem zM {a b:LC}(ts:List Nat)(I:List (Nat×Value)→KI→World→Prop)(ha:a.wp P (Qs (I A) Q) ρ w)(hb:∀ρ w,I A ρ w→b.wp P Q ρ w)(hA:ZZ ρ ts=A:=by (repeat (apply iM;· ((conv=>lhs;whnf);first|done|exact rfl)));exact iL _):(LC.seq a b).wp P Q ρ w:=RH (I A) ha hb
theorem MB {a:LC}(hS:St c w L)(ts:List Nat)(I:List (Nat×Value)→List Res→KI→World→Prop)(μ:KI→World→Nat)(h0:I A L ρ w)(h:∀ρ w,I A L ρ w→a.wp P (Qs (fun ρ' w'=>I A L ρ' w'∧μ ρ' w'<μ ρ w) Q) ρ w)(hA:ZZ ρ ts=A:=by (repeat (apply iM;· ((conv=>lhs;whnf);first|done|exact rfl)));exact iL _):(LC.loop a).wp P Q ρ w:=fx (I A L) μ h0 h
theorem Sj {a b:LC}(hS:St c w L)(ts:List Nat)(I:List (Nat×Value)→List Res→KI→World→Prop)(ha:a.wp P (Qs (I A L) Q) ρ w)(hb:∀ρ w,I A L ρ w→b.wp P Q ρ w)(hA:ZZ ρ ts=A:=by (repeat (apply iM;· ((conv=>lhs;whnf);first|done|exact rfl)));exact iL _):(LC.seq a b).wp P Q ρ w:=RH (I A L) ha hb
theorem PF {l:List GO}(hS:St c w L)(n:Nat)(ts:List Nat)(I:List (Nat×Value)→List Res→KI→World→Prop)(ha:Q0 P (l.take n) (Qs (I A L) Q) ρ w)(hb:∀ρ w,I A L ρ w→Q0 P (l.drop n) Q ρ w)(hA:ZZ ρ ts=A:=by (repeat (apply iM;· ((conv=>lhs;whnf);first|done|exact rfl)));exact iL _):Q0 P l Q ρ w:=ix n (I A L) ha hb
theorem St.sp {L':List Res}(h:St c w L)(e:SubP L' L:=by (repeat constructor);first|done|fail):St c w L':=h.subP e
theorem fd {r':Res}(h:NthP L i r':=by repeat constructor):nth L i=some r':=h.nth
theorem vw {a b:Value}(h:a=b:=by (conv=>lhs;whnf);first|done|exact rfl):a=b:=h
theorem St.p3 {L1 L2 L3:List Res}{r1 r2 r3:Res}(h:St c w L)(p1:Pick L r1 L1:=by repeat constructor)(p2:Pick L1 r2 L2:=by repeat constructor)(p3:Pick L2 r3 L3:=by repeat constructor):St c w (r1::r2::r3::L3):=h.pick3 p1 p2 p3
end
end
section
def ci (n:Nat)(f:List Nat):List CI:=(List.range n).map fun i=>(i,if f.contains i then some none else none)
section
variable {K G:Prop}
theorem NY {k:K}(h:Bx K→G:=by intro K9;(first|refine' Kj|(refine' Kl;refine' MA));exact K9.o):G:=h ⟨k⟩
theorem Mc {k:K}(h:Bx K→G:=by intro K9;(first|refine' Kj|(refine' Kl;refine' zm));exact K9.o):G:=h ⟨k⟩
theorem Rn {k:K}(h:Bx K→G:=by intro K9;(first|refine' Kj|(refine' Kl;refine zl hS ?_));exact K9.o):G:=h ⟨k⟩
theorem Lu {k:K}(h:Bx K→G:=by intro K9;(first|refine' Oy|refine' ss);exact K9.o):G:=h ⟨k⟩
theorem Nt {k:K}(h:Bx K→G:=by intro K9;(first|refine' MA|refine' sr);exact K9.o):G:=h ⟨k⟩
theorem T8 {k:K}(h:Bx K→G:=by intro K9;(first|refine' Kj|(refine' Kl;refine' SO));exact K9.o):G:=h ⟨k⟩
theorem lD {k:K}(h:Bx K→G:=by intro K9;(first|refine Ro hS rfl fd rfl ?_|refine zl hS ?_);exact K9.o):G:=h ⟨k⟩
theorem MT {k:K}(h:Bx K→G:=by intro K9;(first|refine' Kj|(refine' Kl;(first|refine' MA|refine' sr)));exact K9.o):G:=h ⟨k⟩
theorem Oa {k:K}(h:Bx K→G:=by intro K9;(first|refine zv hS ?_|refine xx hS ?_);exact K9.o):G:=h ⟨k⟩
theorem NM {k:K}(h:Bx K→G:=by intro K9;(first|refine' Kj|(refine' Kl;refine' zL));exact K9.o):G:=h ⟨k⟩
theorem Z0 {k:K}(h:Bx K→G:=by intro K9;(first|refine' Ql|refine' Qp);exact K9.o):G:=h ⟨k⟩
theorem Z1 {k:K}(h:Bx K→G:=by intro K9;(first|refine' Kj|(refine' Kl;(first|refine' Oy|refine' ss)));exact K9.o):G:=h ⟨k⟩
theorem PG {k:K}(h:Bx K→G:=by intro K9;(first|refine' Kj|(refine' Kl;refine' PC));exact K9.o):G:=h ⟨k⟩
theorem Nj {k:K}(h:Bx K→G:=by intro K9;(first|refine' zi|refine' zj);exact K9.o):G:=h ⟨k⟩
theorem N0 {k:K}(h:Bx K→G:=by intro K9;(first|refine zl hS ?_|refine Rm hS ?_);exact K9.o):G:=h ⟨k⟩
theorem SP {k:K}(h:Bx K→G:=by intro K9;(first|refine zl hS ?_|refine Rm hS ?_|refine ZY hS ?_);exact K9.o):G:=h ⟨k⟩
theorem XT {k:K}(h:Bx K→G:=by intro K9;(first|refine' Kj|(refine' Kl;(first|refine' zL|refine su hS ?_)));exact K9.o):G:=h ⟨k⟩
theorem Rp {k:K}(h:Bx K→G:=by intro K9;(first|refine' QO|refine' QU);exact K9.o):G:=h ⟨k⟩
theorem SQ {k:K}(h:Bx K→G:=by intro K9;(first|refine' zL|refine su hS ?_);exact K9.o):G:=h ⟨k⟩
theorem iN {k:K}(h:Bx K→G:=by intro K9;(first|refine' Kj|(refine' Kl;(first|refine zl hS ?_|refine Rm hS ?_)));exact K9.o):G:=h ⟨k⟩
theorem iO {k:K}(h:Bx K→G:=by intro K9;(first|refine' Kj|(refine' Kl;(first|refine' QV|refine' QW)));exact K9.o):G:=h ⟨k⟩
theorem iP {k:K}(h:Bx K→G:=by intro K9;(first|refine' Kj|(refine' Kl;(first|refine' QO|refine' QU)));exact K9.o):G:=h ⟨k⟩
theorem XU {k:K}(h:Bx K→G:=by intro K9;(first|refine' KX|refine' K1);exact K9.o):G:=h ⟨k⟩
theorem fQ {k:K}(h:Bx K→G:=by intro K9;(first|refine' Kj|(refine' Kl;refine' QV));exact K9.o):G:=h ⟨k⟩
theorem lE {k:K}(h:Bx K→G:=by intro K9;(first|refine' Kj|(refine' Kl;(first|refine' KX|refine' K1)));exact K9.o):G:=h ⟨k⟩
theorem lF {k:K}(h:Bx K→G:=by intro K9;(first|refine' Kj|(refine' Kl;(first|refine' Ml|refine' MN)));exact K9.o):G:=h ⟨k⟩
theorem iQ {k:K}(h:Bx K→G:=by intro K9;(first|refine' Kj|(refine' Kl;refine zv hS ?_));exact K9.o):G:=h ⟨k⟩
theorem iR {k:K}(h:Bx K→G:=by intro K9;(first|refine' Kj|(refine' Kl;refine' MX));exact K9.o):G:=h ⟨k⟩
theorem fS {k:K}(h:Bx K→G:=by intro K9;(first|refine' Q6|refine' Q8);exact K9.o):G:=h ⟨k⟩
theorem nV {k:K}(h:Bx K→G:=by intro K9;(first|refine' Kj|(refine' Kl;(first|refine' Ql|refine' Qp)));exact K9.o):G:=h ⟨k⟩
theorem iS {k:K}(h:Bx K→G:=by intro K9;(first|refine' MX|refine fy rfl rfl ?_);exact K9.o):G:=h ⟨k⟩
theorem Kv {k:K}(h:Bx K→G:=by intro K9;refine QA ?_;refine' LS;exact K9.o):G:=h ⟨k⟩
theorem KO {k:K}(h:Bx K→G:=by intro K9;refine' zt;refine' KW;exact K9.o):G:=h ⟨k⟩
theorem KP {k:K}(h:Bx K→G:=by intro K9;refine' Kv;refine' zm;exact K9.o):G:=h ⟨k⟩
theorem KA {k:K}(h:Bx K→G:=by intro K9;refine' zm;refine' zn;exact K9.o):G:=h ⟨k⟩
theorem KZ {k:K}(h:Bx K→G:=by intro K9;refine' MA;refine zl hS ?_;exact K9.o):G:=h ⟨k⟩
theorem LM {k:K}(h:Bx K→G:=by intro K9;refine' KP;refine' zn;exact K9.o):G:=h ⟨k⟩
theorem LV {k:K}(h:Bx K→G:=by intro K9;refine' LS;refine' zm;exact K9.o):G:=h ⟨k⟩
theorem SS {k:K}(h:Bx K→G:=by intro K9;refine' MA;refine' KO;exact K9.o):G:=h ⟨k⟩
theorem RL {k:K}(h:Bx K→G:=by intro K9;refine' zr;refine' zf;exact K9.o):G:=h ⟨k⟩
theorem T9 {k:K}(h:Bx K→G:=by intro K9;refine' zm;refine' KO;exact K9.o):G:=h ⟨k⟩
theorem nW {k:K}(h:Bx K→G:=by intro K9;refine' SS;refine zl hS ?_;exact K9.o):G:=h ⟨k⟩
theorem Na {k:K}(h:Bx K→G:=by intro K9;refine QA ?_;refine' KP;exact K9.o):G:=h ⟨k⟩
theorem lG {k:K}(h:Bx K→G:=by intro K9;refine' zt;refine' zy;exact K9.o):G:=h ⟨k⟩
theorem Lp {k:K}(h:Bx K→G:=by intro K9;refine' zt;refine' SJ;exact K9.o):G:=h ⟨k⟩
theorem PH {k:K}(h:Bx K→G:=by intro K9;refine' NY;refine' Rn;exact K9.o):G:=h ⟨k⟩
theorem KQ {k:K}(h:Bx K→G:=by intro K9;refine' LM;refine' RL;exact K9.o):G:=h ⟨k⟩
theorem WO {k:K}(h:Bx K→G:=by intro K9;refine ia rfl rfl ?_;refine' zn;exact K9.o):G:=h ⟨k⟩
theorem Lh {k:K}(h:Bx K→G:=by intro K9;refine' SO;refine' MA;exact K9.o):G:=h ⟨k⟩
theorem Mn {k:K}(h:Bx K→G:=by intro K9;refine' Kv;refine' KZ;exact K9.o):G:=h ⟨k⟩
theorem bK {k:K}(h:Bx K→G:=by intro K9;refine QA ?_;refine' WL;exact K9.o):G:=h ⟨k⟩
theorem Nu {k:K}(h:Bx K→G:=by intro K9;refine' nW;refine' KO;exact K9.o):G:=h ⟨k⟩
theorem La {k:K}(h:Bx K→G:=by intro K9;refine' KA;refine' RL;exact K9.o):G:=h ⟨k⟩
theorem KY {k:K}(h:Bx K→G:=by intro K9;refine' Kv;refine zb hS ?_;exact K9.o):G:=h ⟨k⟩
theorem Lv {k:K}(h:Bx K→G:=by intro K9;refine' zm;refine' Mc;exact K9.o):G:=h ⟨k⟩
theorem Lq {k:K}(h:Bx K→G:=by intro K9;refine' zt;refine' ly;exact K9.o):G:=h ⟨k⟩
theorem lH {k:K}(h:Bx K→G:=by intro K9;refine' MX;refine' KA;exact K9.o):G:=h ⟨k⟩
theorem Lk {k:K}(h:Bx K→G:=by intro K9;refine' zt;refine' LG;exact K9.o):G:=h ⟨k⟩
theorem Nb {k:K}(h:Bx K→G:=by intro K9;refine' SO;refine' KO;exact K9.o):G:=h ⟨k⟩
theorem PI {k:K}(h:Bx K→G:=by intro K9;refine' KW;refine' T9;exact K9.o):G:=h ⟨k⟩
theorem L4 {k:K}(h:Bx K→G:=by intro K9;refine' Kx;refine' bK;exact K9.o):G:=h ⟨k⟩
theorem Li {k:K}(h:Bx K→G:=by intro K9;refine' lG;refine' SJ;exact K9.o):G:=h ⟨k⟩
theorem Lc {k:K}(h:Bx K→G:=by intro K9;refine' KP;refine' zm;exact K9.o):G:=h ⟨k⟩
theorem Mf {k:K}(h:Bx K→G:=by intro K9;refine' SO;refine' KZ;exact K9.o):G:=h ⟨k⟩
theorem Md {k:K}(h:Bx K→G:=by intro K9;refine' zm;refine' PH;exact K9.o):G:=h ⟨k⟩
theorem Mo {k:K}(h:Bx K→G:=by intro K9;refine' KA;refine' zr;exact K9.o):G:=h ⟨k⟩
theorem Ly {k:K}(h:Bx K→G:=by intro K9;refine' lG;refine' LG;exact K9.o):G:=h ⟨k⟩
theorem Ll {k:K}(h:Bx K→G:=by intro K9;refine' Lu;refine' zn;exact K9.o):G:=h ⟨k⟩
theorem Ms {k:K}(h:Bx K→G:=by intro K9;refine' KA;refine QA ?_;exact K9.o):G:=h ⟨k⟩
theorem Ob {k:K}(h:Bx K→G:=by intro K9;refine' KA;refine' WL;exact K9.o):G:=h ⟨k⟩
theorem MU {k:K}(h:Bx K→G:=by intro K9;refine' Kv;refine zv hS ?_;exact K9.o):G:=h ⟨k⟩
theorem MY {k:K}(h:Bx K→G:=by intro K9;refine' SO;refine' Nt;exact K9.o):G:=h ⟨k⟩
theorem L5 {k:K}(h:Bx K→G:=by intro K9;refine' zn;refine QA ?_;exact K9.o):G:=h ⟨k⟩
theorem Lz {k:K}(h:Bx K→G:=by intro K9;refine' zn;refine' zr;exact K9.o):G:=h ⟨k⟩
theorem SU {k:K}(h:Bx K→G:=by intro K9;refine' LM;refine' WL;exact K9.o):G:=h ⟨k⟩
theorem Od {k:K}(h:Bx K→G:=by intro K9;refine' nW;refine' Lp;exact K9.o):G:=h ⟨k⟩
theorem L6 {k:K}(h:Bx K→G:=by intro K9;refine' KA;refine' KP;exact K9.o):G:=h ⟨k⟩
theorem LN {k:K}(h:Bx K→G:=by intro K9;refine' zn;refine' KP;exact K9.o):G:=h ⟨k⟩
theorem PJ {k:K}(h:Bx K→G:=by intro K9;refine RF ?_;refine aZ ?_;exact K9.o):G:=h ⟨k⟩
theorem Rq {k:K}(h:Bx K→G:=by intro K9;refine' Nu;refine' T9;exact K9.o):G:=h ⟨k⟩
theorem N1 {k:K}(h:Bx K→G:=by intro K9;refine' LS;refine' lH;exact K9.o):G:=h ⟨k⟩
theorem Mp {k:K}(h:Bx K→G:=by intro K9;refine' lG;refine' KW;exact K9.o):G:=h ⟨k⟩
theorem XV {k:K}(h:Bx K→G:=by intro K9;refine' Kj;refine' Kj;exact K9.o):G:=h ⟨k⟩
theorem XW {k:K}(h:Bx K→G:=by intro K9;refine' Nt;refine' KO;exact K9.o):G:=h ⟨k⟩
theorem xy {k:K}(h:Bx K→G:=by intro K9;refine' WO;refine QA ?_;exact K9.o):G:=h ⟨k⟩
theorem MZ {k:K}(h:Bx K→G:=by intro K9;refine' LV;refine' zm;exact K9.o):G:=h ⟨k⟩
theorem Mt {k:K}(h:Bx K→G:=by intro K9;refine' LV;refine' lH;exact K9.o):G:=h ⟨k⟩
theorem Mu {k:K}(h:Bx K→G:=by intro K9;refine' KO;refine' T9;exact K9.o):G:=h ⟨k⟩
theorem NN {k:K}(h:Bx K→G:=by intro K9;refine' Oa;refine Qd hS ?_;exact K9.o):G:=h ⟨k⟩
theorem MD {k:K}(h:Bx K→G:=by intro K9;refine' MA;refine' lD;exact K9.o):G:=h ⟨k⟩
theorem Pj {k:K}(h:Bx K→G:=by intro K9;refine' Kk;refine' Kx;exact K9.o):G:=h ⟨k⟩
theorem MH {k:K}(h:Bx K→G:=by intro K9;refine' Kv;refine' xy;exact K9.o):G:=h ⟨k⟩
theorem OT {k:K}(h:Bx K→G:=by intro K9;refine' LV;refine zv hS ?_;exact K9.o):G:=h ⟨k⟩
theorem Mq {k:K}(h:Bx K→G:=by intro K9;refine' LM;refine' Na;exact K9.o):G:=h ⟨k⟩
theorem NH {k:K}(h:Bx K→G:=by intro K9;refine QA ?_;refine' Mn;exact K9.o):G:=h ⟨k⟩
theorem Nk {k:K}(h:Bx K→G:=by intro K9;refine' LM;refine' KP;exact K9.o):G:=h ⟨k⟩
theorem MV {k:K}(h:Bx K→G:=by intro K9;refine' zm;refine' zm;exact K9.o):G:=h ⟨k⟩
theorem OU {k:K}(h:Bx K→G:=by intro K9;refine' Kv;refine Qd hS ?_;exact K9.o):G:=h ⟨k⟩
theorem NO {k:K}(h:Bx K→G:=by intro K9;refine QA ?_;refine' SU;exact K9.o):G:=h ⟨k⟩
theorem SV {k:K}(h:Bx K→G:=by intro K9;refine' Lh;refine' Nt;exact K9.o):G:=h ⟨k⟩
theorem Pk {k:K}(h:Bx K→G:=by intro K9;refine' PI;refine' Nb;exact K9.o):G:=h ⟨k⟩
theorem Oe {k:K}(h:Bx K→G:=by intro K9;refine QA ?_;refine QA ?_;exact K9.o):G:=h ⟨k⟩
theorem Nz {k:K}(h:Bx K→G:=by intro K9;refine' KP;refine' KA;exact K9.o):G:=h ⟨k⟩
theorem Nv {k:K}(h:Bx K→G:=by intro K9;refine' PC;refine' zn;exact K9.o):G:=h ⟨k⟩
theorem Sk {k:K}(h:Bx K→G:=by intro K9;refine' lz;refine' lz;exact K9.o):G:=h ⟨k⟩
theorem P6 {k:K}(h:Bx K→G:=by intro K9;refine' Na;refine' KZ;exact K9.o):G:=h ⟨k⟩
theorem PK {k:K}(h:Bx K→G:=by intro K9;refine' T8;refine' NY;exact K9.o):G:=h ⟨k⟩
theorem PL {k:K}(h:Bx K→G:=by intro K9;refine' Lp;refine Qd hS ?_;exact K9.o):G:=h ⟨k⟩
theorem NA {k:K}(h:Bx K→G:=by intro K9;refine' zn;refine' Mn;exact K9.o):G:=h ⟨k⟩
theorem WQ {k:K}(h:Bx K→G:=by intro K9;refine' zm;refine' Lq;exact K9.o):G:=h ⟨k⟩
theorem NP {k:K}(h:Bx K→G:=by intro K9;refine' LV;refine' KZ;exact K9.o):G:=h ⟨k⟩
theorem fT {k:K}(h:Bx K→G:=by intro K9;refine' Z0;refine' KA;exact K9.o):G:=h ⟨k⟩
theorem SW {k:K}(h:Bx K→G:=by intro K9;refine' Mo;refine' lB;exact K9.o):G:=h ⟨k⟩
theorem SX {k:K}(h:Bx K→G:=by intro K9;refine' KP;refine' La;exact K9.o):G:=h ⟨k⟩
theorem PM {k:K}(h:Bx K→G:=by intro K9;refine' zm;refine' zi;exact K9.o):G:=h ⟨k⟩
theorem Sm {k:K}(h:Bx K→G:=by intro K9;refine' Lv;refine' Mc;exact K9.o):G:=h ⟨k⟩
theorem Og {k:K}(h:Bx K→G:=by intro K9;refine' PI;refine' T9;exact K9.o):G:=h ⟨k⟩
theorem OV {k:K}(h:Bx K→G:=by intro K9;refine' MA;refine zv hS ?_;exact K9.o):G:=h ⟨k⟩
theorem OW {k:K}(h:Bx K→G:=by intro K9;refine' zn;refine' LJ;exact K9.o):G:=h ⟨k⟩
theorem xz {k:K}(h:Bx K→G:=by intro K9;refine' Sk;refine Qd hS ?_;exact K9.o):G:=h ⟨k⟩
theorem Oh {k:K}(h:Bx K→G:=by intro K9;refine' zL;refine' Ob;exact K9.o):G:=h ⟨k⟩
theorem Oi {k:K}(h:Bx K→G:=by intro K9;refine' zr;refine' lB;exact K9.o):G:=h ⟨k⟩
theorem XX {k:K}(h:Bx K→G:=by intro K9;refine' Mc;refine' PH;exact K9.o):G:=h ⟨k⟩
theorem OM {k:K}(h:Bx K→G:=by intro K9;refine' Kv;refine' fT;exact K9.o):G:=h ⟨k⟩
theorem bL {k:K}(h:Bx K→G:=by intro K9;refine' lz;refine' KO;exact K9.o):G:=h ⟨k⟩
theorem SY {k:K}(h:Bx K→G:=by intro K9;refine' SS;refine' XW;exact K9.o):G:=h ⟨k⟩
theorem Ua {k:K}(h:Bx K→G:=by intro K9;refine' zL;refine' WO;exact K9.o):G:=h ⟨k⟩
theorem PN {k:K}(h:Bx K→G:=by intro K9;refine' SV;refine zl hS ?_;exact K9.o):G:=h ⟨k⟩
theorem OX {k:K}(h:Bx K→G:=by intro K9;refine' KA;refine' Na;exact K9.o):G:=h ⟨k⟩
theorem Pm {k:K}(h:Bx K→G:=by intro K9;refine' L8;refine' KQ;exact K9.o):G:=h ⟨k⟩
theorem XY {k:K}(h:Bx K→G:=by intro K9;refine' Lk;refine' WQ;exact K9.o):G:=h ⟨k⟩
theorem OY {k:K}(h:Bx K→G:=by intro K9;refine' zn;refine' Ki;exact K9.o):G:=h ⟨k⟩
theorem lI {k:K}(h:Bx K→G:=by intro K9;refine' Lu;refine' PJ;exact K9.o):G:=h ⟨k⟩
theorem PO {k:K}(h:Bx K→G:=by intro K9;refine' XV;refine' XV;exact K9.o):G:=h ⟨k⟩
theorem PQ {k:K}(h:Bx K→G:=by intro K9;refine' Lu;refine' Lv;exact K9.o):G:=h ⟨k⟩
theorem Pn {k:K}(h:Bx K→G:=by intro K9;refine' zn;refine' Pj;exact K9.o):G:=h ⟨k⟩
theorem Po {k:K}(h:Bx K→G:=by intro K9;refine' zm;refine' MY;exact K9.o):G:=h ⟨k⟩
theorem bM {k:K}(h:Bx K→G:=by intro K9;refine' L4;refine' Kv;exact K9.o):G:=h ⟨k⟩
theorem NS {k:K}(h:Bx K→G:=by intro K9;refine' Rq;refine' Od;exact K9.o):G:=h ⟨k⟩
theorem P7 {k:K}(h:Bx K→G:=by intro K9;refine' Na;refine' zm;exact K9.o):G:=h ⟨k⟩
theorem P8 {k:K}(h:Bx K→G:=by intro K9;refine' zm;refine' Mf;exact K9.o):G:=h ⟨k⟩
theorem SZ {k:K}(h:Bx K→G:=by intro K9;refine' zn;refine' WL;exact K9.o):G:=h ⟨k⟩
theorem bN {k:K}(h:Bx K→G:=by intro K9;refine' Lh;refine Ro hS rfl fd rfl ?_;exact K9.o):G:=h ⟨k⟩
theorem Rr {k:K}(h:Bx K→G:=by intro K9;refine' zn;refine' N1;exact K9.o):G:=h ⟨k⟩
theorem RM {k:K}(h:Bx K→G:=by intro K9;refine' Md;refine' NM;exact K9.o):G:=h ⟨k⟩
theorem RN {k:K}(h:Bx K→G:=by intro K9;refine' Z1;refine' lI;exact K9.o):G:=h ⟨k⟩
theorem RO {k:K}(h:Bx K→G:=by intro K9;refine' Nb;refine' XW;exact K9.o):G:=h ⟨k⟩
theorem RP {k:K}(h:Bx K→G:=by intro K9;refine' bL;refine' lz;exact K9.o):G:=h ⟨k⟩
theorem RQ {k:K}(h:Bx K→G:=by intro K9;refine' SS;refine' lD;exact K9.o):G:=h ⟨k⟩
theorem S0 {k:K}(h:Bx K→G:=by intro K9;refine' Ms;refine QA ?_;exact K9.o):G:=h ⟨k⟩
theorem S1 {k:K}(h:Bx K→G:=by intro K9;refine zv hS ?_;refine' KO;exact K9.o):G:=h ⟨k⟩
theorem RT {k:K}(h:Bx K→G:=by intro K9;refine' zm;refine' xz;exact K9.o):G:=h ⟨k⟩
theorem Sn {k:K}(h:Bx K→G:=by intro K9;refine' L8;refine' SX;exact K9.o):G:=h ⟨k⟩
theorem So {k:K}(h:Bx K→G:=by intro K9;refine' LV;refine' Mf;exact K9.o):G:=h ⟨k⟩
theorem Sp {k:K}(h:Bx K→G:=by intro K9;refine' T8;refine' PH;exact K9.o):G:=h ⟨k⟩
theorem Ub {k:K}(h:Bx K→G:=by intro K9;refine' L4;refine QA ?_;exact K9.o):G:=h ⟨k⟩
theorem Uc {k:K}(h:Bx K→G:=by intro K9;refine' LS;refine' KZ;exact K9.o):G:=h ⟨k⟩
theorem Sq {k:K}(h:Bx K→G:=by intro K9;refine' zm;refine' SW;exact K9.o):G:=h ⟨k⟩
theorem Sr {k:K}(h:Bx K→G:=by intro K9;refine' zn;refine' MU;exact K9.o):G:=h ⟨k⟩
theorem Ss {k:K}(h:Bx K→G:=by intro K9;refine' zn;refine' OT;exact K9.o):G:=h ⟨k⟩
theorem S2 {k:K}(h:Bx K→G:=by intro K9;refine' Md;refine' PH;exact K9.o):G:=h ⟨k⟩
theorem S3 {k:K}(h:Bx K→G:=by intro K9;refine' PG;refine' XX;exact K9.o):G:=h ⟨k⟩
theorem S4 {k:K}(h:Bx K→G:=by intro K9;refine' Kv;refine' MA;exact K9.o):G:=h ⟨k⟩
theorem S5 {k:K}(h:Bx K→G:=by intro K9;refine' KO;refine' Oa;exact K9.o):G:=h ⟨k⟩
theorem WR {k:K}(h:Bx K→G:=by intro K9;refine' MA;refine LU hS ?_;exact K9.o):G:=h ⟨k⟩
theorem Ud {k:K}(h:Bx K→G:=by intro K9;refine zv hS ?_;refine' zm;exact K9.o):G:=h ⟨k⟩
theorem S6 {k:K}(h:Bx K→G:=by intro K9;refine' Z0;refine' zm;exact K9.o):G:=h ⟨k⟩
theorem Ue {k:K}(h:Bx K→G:=by intro K9;refine' Mn;refine' PM;exact K9.o):G:=h ⟨k⟩
theorem Uf {k:K}(h:Bx K→G:=by intro K9;refine' P6;refine' Ua;exact K9.o):G:=h ⟨k⟩
theorem Ug {k:K}(h:Bx K→G:=by intro K9;refine' Nu;refine' Nu;exact K9.o):G:=h ⟨k⟩
theorem Uh {k:K}(h:Bx K→G:=by intro K9;refine' Pk;refine' Rq;exact K9.o):G:=h ⟨k⟩
theorem xA {k:K}(h:Bx K→G:=by intro K9;refine' KO;refine' T8;exact K9.o):G:=h ⟨k⟩
theorem xB {k:K}(h:Bx K→G:=by intro K9;refine' xA;refine' KO;exact K9.o):G:=h ⟨k⟩
theorem xC {k:K}(h:Bx K→G:=by intro K9;refine' xB;refine' NY;exact K9.o):G:=h ⟨k⟩
theorem sA {k:K}(h:Bx K→G:=by intro K9;refine' xC;refine' KO;exact K9.o):G:=h ⟨k⟩
theorem Ui {k:K}(h:Bx K→G:=by intro K9;refine' zn;refine' Kv;exact K9.o):G:=h ⟨k⟩
theorem Uj {k:K}(h:Bx K→G:=by intro K9;refine' zn;refine' Lc;exact K9.o):G:=h ⟨k⟩
theorem Uk {k:K}(h:Bx K→G:=by intro K9;refine' Lu;refine' zm;exact K9.o):G:=h ⟨k⟩
theorem Ul {k:K}(h:Bx K→G:=by intro K9;refine' zn;refine' MZ;exact K9.o):G:=h ⟨k⟩
theorem XZ {k:K}(h:Bx K→G:=by intro K9;refine' Ql;refine' KA;exact K9.o):G:=h ⟨k⟩
theorem X0 {k:K}(h:Bx K→G:=by intro K9;refine' SY;refine zl hS ?_;exact K9.o):G:=h ⟨k⟩
theorem WS {k:K}(h:Bx K→G:=by intro K9;refine' KP;refine' Lh;exact K9.o):G:=h ⟨k⟩
theorem WT {k:K}(h:Bx K→G:=by intro K9;refine' Sm;refine' PK;exact K9.o):G:=h ⟨k⟩
theorem WU {k:K}(h:Bx K→G:=by intro K9;refine' XY;refine' KP;exact K9.o):G:=h ⟨k⟩
theorem WV {k:K}(h:Bx K→G:=by intro K9;refine' sA;refine' Rn;exact K9.o):G:=h ⟨k⟩
theorem Z2 {k:K}(h:Bx K→G:=by intro K9;refine' LS;refine zl hS ?_;exact K9.o):G:=h ⟨k⟩
theorem WW {k:K}(h:Bx K→G:=by intro K9;refine' bM;refine' zi;exact K9.o):G:=h ⟨k⟩
theorem WX {k:K}(h:Bx K→G:=by intro K9;refine' Mn;refine' zL;exact K9.o):G:=h ⟨k⟩
theorem Z3 {k:K}(h:Bx K→G:=by intro K9;refine' Lh;refine LU hS ?_;exact K9.o):G:=h ⟨k⟩
theorem bO {k:K}(h:Bx K→G:=by intro K9;refine' bJ;refine' LJ;exact K9.o):G:=h ⟨k⟩
theorem Z4 {k:K}(h:Bx K→G:=by intro K9;refine' Lq;refine' LJ;exact K9.o):G:=h ⟨k⟩
end
end
section
@[reducible] def vi (n:Int):Value:= .int .i64 n
@[reducible] def vn:Value:= .slice none 0 0
end
section
inductive TyD where
 | p|b|f|i (k:IntKind)|s|l (e:Nat)|a (n e z:Nat)|t (z:Nat) (fs:List (Nat×Nat))|x
abbrev Tr:=Nat→TyD
def TyD.sz:TyD→Nat
 | .a _ _ z=>z
 | .t z _=>z
 | _=>1
mutual
def bP (D:Tr):Nat→TyD→List Value
 | 0,_=>[]
 | _+1, .p=>[.pointer none]
 | _+1, .b=>[.bool false]
 | _+1, .f=>[.nilFunc]
 | _+1, .i k=>[.int k 0]
 | _+1, .s=>[.string ⟨#[]⟩]
 | _+1, .l _=>[.slice none 0 0]
 | _+1, .x=>[.nilIface]
 | n+1, .t _ fs=>iT D n fs
 | n+1, .a m e _=>(List.replicate m (bP D n (D e))).flatten
def iT (D:Tr):Nat→List (Nat×Nat)→List Value
 | 0,_=>[]
 | _+1,[]=>[]
 | n+1,f::fs=>bP D n (D f.2)++iT D n fs
end
def bQ (D:Tr)(T:Nat):List Value:=bP D 60 (D T)
def RU (D:Tr):TyD→List (Nat×Operand)→List (Nat×Nat×Operand)
 | .t z fs,(i,x)::r=>(match fs[i]? with|some f=>(f.1,(D f.2).sz,x)|none=>(0,0,x))::RU D (.t z fs) r
 | .a n e z,(i,x)::r=>(i*(D e).sz,(D e).sz,x)::RU D (.a n e z) r
 | _,_=>[]
def Oz:Oper→LO
 | ⟨d, o, T, _, _, _⟩ => .raw ⟨d, o, T, "", #[], none⟩
def iU (D:Tr)(f:Nat):TyD→Nat
 | .t _ fs=>match fs[f]? with|some p=>p.1|none=>0
 | _=>0
def nX (D:Tr)(f:Nat):TyD→TyD
 | .t _ fs=>match fs[f]? with|some p=>D p.2|none=> .p
 | _=> .p
def iV (d:Nat)(x:Operand):TyD→LO
 | .t z _=> .loadn d z x
 | .a _ _ z=> .loadn d z x
 | _=> .load1 d x
def bR (x v:Operand):TyD→LO
 | .t z _=> .storen z x v
 | .a _ _ z=> .storen z x v
 | _=> .store1 x v
def bS (d:Nat)(x:Operand)(off:Nat):TyD→LO
 | .t z _=> .fldn d x off z
 | .a _ _ z=> .fldn d x off z
 | _=> .fldv d x off
def iW (D:Tr)(o:Oper)(d:Nat):Op→LO
 | .move x=> .mov d x
 | .assign x=> .mov d x
 | .pick c x y=> .pick d c x y
 | .unOp op _ x=> .un d op x
 | .binOp op T x y _=> .bin d op T x y
 | .nilCheck x=> .nilc d x
 | .fieldAddr S x f=> .fld d x (iU D f (D S))
 | .load T x=>iV d x (D T)
 | .indexAddr T x i=>match D T with
   | .l e=> .idx d (D e).sz x i
   | .a n e _=> .idxa d n (D e).sz x i
   | _=>Oz o
 | .index T x i=>match D T with
   | .s=> .sidx d x i
   | _=>Oz o
 | .extract x i=> .ext d x i
 | .field S x f=>bS d x (iU D f (D S)) (nX D f (D S))
 | .alloc T=> .alloc d T (bQ D T)
 | .box T x=> .box d T x
 | .build T ps=> .build d (bQ D T) (RU D (D T) ps.toList)
 | .buildSlice T n ps=>match D T with
   | .l e=>if 0<n then .buildS d e n ((List.replicate n (bQ D e)).flatten) (RU D (.a n e 0) ps.toList) else Oz o
   | _=>Oz o
 | .makeFunc (.func f) _ caps=> .mkfn d f caps.toList
 | .call ⟨.value (.func f),xs,_⟩=> .call (some d) f xs.toList
 | .call ⟨.value (.tmp f),xs,_⟩=> .callv (some d) (.tmp f) xs.toList
 | .slice T x lo hi mx=>match D T with
   | .l e=> .sub d (D e).sz x lo hi mx
   | .s=> .ssub d x lo hi
   | _=>Oz o
 | .convert S T x=>match D S,D T with
   | .i _, .i k=> .conv d k x
   | _,_=>Oz o
 | .makeInterface T x=>match D T with
   | .x=>Oz o
   | _=> .mki d T x
 | .call ⟨.builtin .min,⟨[x,y]⟩,_⟩=> .mnx d false x y
 | .call ⟨.builtin .max,⟨[x,y]⟩,_⟩=> .mnx d true x y
 | .call ⟨.builtin .len,⟨[x]⟩,⟨[T]⟩⟩=>match D T with
   | .s=> .slen d x
   | .l _=> .len d x
   | _=>Oz o
 | _=>Oz o
def iX (D:Tr)(o:Oper):Op→LO
 | .store T x v=>bR x v (D T)
 | .call ⟨.value (.func f),xs,_⟩=> .call none f xs.toList
 | .call ⟨.value (.tmp f),xs,_⟩=> .callv none (.tmp f) xs.toList
 | _=>Oz o
def nY (D:Tr)(o:Oper):Option Nat→LO
 | none=>iX D o o.op
 | some d=>iW D o d o.op
def nZ (ops:Array Oper):Option (Nat×Bool)→Option (Nat×Bool)
 | none=>none
 | some (j,b)=>match ops[j]? with
   | some o=>match o.dst with
     | some s=>some (s,b)
     | none=>none
   | none=>none
def iY (D:Tr)(ops:Array Oper):List Oper→List GO
 | []=>[]
 | o::r=>⟨nZ ops o.guard,nY D o o.dst⟩::iY D ops r
def OA (D:Tr):Code→LC
 | .skip=> .skip
 | .region _ ops false=> .ops (iY D ops ops.toList)
 | .region _ ops true=> .draw (iY D ops ops.toList) (Xe ops)
 | .seq a b=> .seq (OA D a) (OA D b)
 | .cond c a b=> .cond c (OA D a) (OA D b)
 | .block id a=> .block id (OA D a)
 | .loop a=> .loop (OA D a)
 | .exit id=> .exit id
 | .ret=> .ret
 | _=> .bad
def od (D:Tr):Option Code→LC
 | some c=>OA D c
 | none=> .bad
def Um (D:Tr):Code→LD
 | .seq a b=>bif fM a||fM b then .seq (Um D a) (Um D b) else .pl (OA D (.seq a b))
 | .region id ops false=>match fO ops.toList with
   | some (l1,_,s,l2)=> .sp (iY D ops l1) s (iY D ops l2)
   | none=> .pl (OA D (.region id ops false))
 | c=> .pl (OA D c)
def Z5 (D:Tr):Option Code→LD
 | some c=>Um D c
 | none=> .pl .bad
section
variable {P:Program}{f:FuncId}{fn:Func}{args:List Value}{w:World}{rs:List ResultVar}(D:Tr)
theorem Kq {lc:LC}(hf:P.funcs[f]?=some fn)(h:lc.wp P (KN P rs R) (Xf args) w)(e:od D fn.body=lc:=by set_option maxRecDepth 100000 in (conv=>lhs;cbv))(hl:aS P fn=some lc:=by kernel_rfl)(hrs:fn.results.toList=rs:=by set_option maxRecDepth 100000 in (conv=>lhs;cbv))(hn:Nat.ble args.length fn.ntmps=true:=by kernel_rfl):Calls P f ⟨args⟩ w R:=wK hf hl hrs hn h
theorem oe {ld:LD}(hf:P.funcs[f]?=some fn)(h:ld.wpD P (T2 P rs R) [] (Xf args) w)(e:Z5 D fn.body=ld:=by set_option maxRecDepth 100000 in (conv=>lhs;cbv))(hl:fP P fn=some ld:=by kernel_rfl)(hrs:fn.results.toList=rs:=by set_option maxRecDepth 100000 in (conv=>lhs;cbv))(hn:Nat.ble args.length fn.ntmps=true:=by kernel_rfl):Calls P f ⟨args⟩ w R:=xq hf hl hrs hn h
theorem bT {R:Ending→FrameMode→World→Prop}{u:FrameMode}{ld:LD}(hf:P.funcs[f]?=some fn)(h:ld.wpR P (bF P rs R) u (Xf args) w)(e:Z5 D fn.body=ld:=by set_option maxRecDepth 100000 in (conv=>lhs;cbv))(hl:fP P fn=some ld:=by kernel_rfl)(hrs:fn.results.toList=rs:=by set_option maxRecDepth 100000 in (conv=>lhs;cbv))(hn:Nat.ble args.length fn.ntmps=true:=by kernel_rfl):CallsD P f ⟨args⟩ u w R:=xu hf hl hrs hn h
end
end
end Go.Lir
namespace Go.Proofs.YteflkifmgnpbhaaGreat
open Go.Lir
section
def og (i:Nat):TyD:=if i<7 then if i<2 then if i<1 then .p else .f else if i<4 then .i .i64 else if i<5 then .b else .i .u8 else if i<12 then if i<9 then .t 4 [(0,2),(1,3),(2,4),(3,6)] else .s else if i<13 then .i .u64 else if i<15 then .t 2 [(0,9),(1,12)] else .p
def oh (i:Nat):TyD:=if i<25 then if i<21 then if i<20 then .t 1 [(0,17)] else .x else if i<22 then .i .i32 else if i<23 then .l 95 else .t 1 [(0,22)] else if i<28 then if i<26 then .l 2 else .f else if i<30 then .t 2 [(0,3),(1,3)] else if i<32 then .f else .t 4 [(0,3),(1,25),(2,25),(3,3)]
def oi (i:Nat):TyD:=if i<43 then if i<39 then if i<35 then .p else .f else if i<41 then .p else if i<42 then .f else .p else if i<45 then if i<44 then .f else .l 131 else if i<47 then .t 2 [(0,44),(1,3)] else if i<48 then .l 119 else .t 13 [(0,24),(1,46),(3,47),(4,25),(5,33),(9,3),(10,4),(11,29)]
def oj (i:Nat):TyD:=if i<59 then if i<53 then if i<52 then .f else .p else if i<54 then .l 110 else if i<56 then .t 12 [(0,52),(1,24),(2,53),(3,25),(4,33),(8,3),(9,4),(10,29)] else .f else if i<63 then if i<61 then .p else .f else if i<64 then .p else if i<65 then .l 138 else .t 10 [(0,63),(1,24),(2,64),(3,25),(4,33),(8,3),(9,4)]
def om (i:Nat):TyD:=if i<74 then if i<69 then if i<68 then .p else .l 3 else if i<71 then .t 3 [(0,4),(1,68),(2,3)] else if i<72 then .a 16 70 48 else .t 49 [(0,67),(1,71)] else if i<76 then if i<75 then .p else .f else if i<78 then .p else if i<79 then .f else .t 4 [(0,39),(1,59),(2,29)]
def oo (i:Nat):TyD:=if i<89 then if i<85 then if i<83 then .f else .t 8 [(0,3),(1,3),(2,3),(3,3),(4,3),(5,2),(6,68),(7,68)] else if i<86 then .l 84 else if i<87 then .l 115 else .t 3 [(0,3),(1,68),(2,68)] else if i<93 then if i<91 then .t 9 [(0,3),(1,3),(2,88),(5,88),(8,68)] else .t 12 [(0,3),(1,86),(2,85),(3,90)] else if i<94 then .l 92 else if i<96 then .t 4 [(0,3),(1,86),(2,86),(3,93)] else .f
def oq (i:Nat):TyD:=if i<114 then if i<108 then if i<98 then .p else .f else if i<109 then .l 224 else if i<111 then .t 5 [(0,3),(1,3),(2,3),(3,108),(4,68)] else .f else if i<117 then if i<116 then .t 3 [(0,3),(1,3),(2,86)] else .f else if i<118 then .l 182 else if i<120 then .t 5 [(0,3),(1,3),(2,3),(3,117),(4,68)] else .t 0 []
def ot (i:Nat):TyD:=if i<128 then if i<124 then if i<123 then .i .i64 else .p else if i<125 then .f else if i<126 then .l 267 else .t 3 [(0,125),(1,3),(2,3)] else if i<130 then if i<129 then .p else .l 278 else if i<132 then .t 4 [(0,4),(1,129),(2,3),(3,3)] else if i<135 then .f else .p
def ou (i:Nat):TyD:=if i<142 then if i<139 then if i<137 then .f else .t 4 [(0,3),(1,3),(2,3),(3,25)] else if i<140 then .i .i64 else if i<141 then .b else .f else if i<146 then if i<143 then .p else .f else if i<147 then .l 4 else if i<149 then .t 3 [(0,25),(1,68),(2,146)] else .f
def ow (i:Nat):TyD:=if i<161 then if i<157 then if i<156 then .p else .f else if i<159 then .t 7 [(0,24),(1,95),(5,155),(6,86)] else if i<160 then .f else .p else if i<164 then if i<162 then .f else .t 1 [(0,146)] else if i<171 then .f else if i<172 then .p else .t 4 [(0,24),(1,29),(3,3)]
def ox (i:Nat):TyD:=if i<184 then if i<179 then if i<178 then .f else .p else if i<181 then .f else if i<183 then .t 4 [(0,3),(1,3),(2,3),(3,2)] else .b else if i<186 then if i<185 then .f else .b else if i<187 then .f else if i<188 then .b else .f
def oy (i:Nat):TyD:=if i<198 then if i<191 then if i<190 then .b else .f else if i<192 then .b else if i<197 then .f else .p else if i<209 then if i<207 then .f else .p else if i<210 then .f else if i<212 then .t 7 [(0,4),(1,4),(2,4),(3,4),(4,4),(5,4),(6,4)] else .b
def oz (i:Nat):TyD:=if i<226 then if i<217 then if i<216 then .f else .b else if i<224 then .f else if i<225 then .t 4 [(0,3),(1,3),(2,3),(3,2)] else .f else if i<232 then if i<227 then .b else .f else if i<233 then .p else if i<238 then .f else .p
def oA (i:Nat):TyD:=if i<257 then if i<244 then if i<243 then .f else .p else if i<255 then .f else if i<256 then .i .u64 else .p else if i<265 then if i<259 then .t 7 [(0,256),(1,24),(2,95),(6,86)] else .f else if i<266 then .l 272 else if i<268 then .t 4 [(0,4),(1,265),(2,3),(3,3)] else .p
def oB (i:Nat):TyD:=if i<279 then if i<273 then if i<271 then .f else .t 2 [(0,4),(1,108)] else if i<274 then .p else if i<277 then .f else .t 2 [(0,4),(1,117)] else if i<283 then if i<280 then .p else .f else if i<284 then .i .i64 else if i<285 then .p else .f
def oC (i:Nat):TyD:=if i<295 then if i<292 then if i<290 then .b else .f else if i<293 then .i .u32 else if i<294 then .f else .i .u64 else if i<298 then if i<297 then .t 1 [(0,146)] else .i .i64 else if i<299 then .b else if i<304 then .f else .a 15 9 15
def oD (i:Nat):TyD:=if i<311 then if i<307 then if i<306 then .f else .l 5 else if i<308 then .f else if i<310 then .p else .i .u64 else if i<315 then if i<314 then .f else .p else if i<317 then .f else if i<318 then .p else .f
def oE (i:Nat):TyD:=if i<327 then if i<323 then if i<322 then .t 4 [(0,17),(1,17),(2,17),(3,9)] else .a 0 16 0 else if i<325 then .t 0 [(0,322)] else .i .u8 else if i<329 then if i<328 then .f else .p else if i<331 then .i .i32 else if i<333 then .t 11 [(0,12),(1,12),(2,292),(3,325),(4,5),(5,5),(6,326),(7,327),(8,328),(9,329),(10,330)] else .p
def Ko (i:Nat):TyD:=if i<155 then if i<67 then if i<34 then if i<18 then og i else oh i else if i<50 then oi i else oj i else if i<97 then if i<81 then om i else oo i else if i<122 then oq i else if i<136 then ot i else ou i else if i<239 then if i<189 then if i<174 then ow i else ox i else if i<213 then oy i else oz i else if i<289 then if i<269 then oA i else oB i else if i<305 then oC i else if i<320 then oD i else oE i
end
section

@[reducible] def sB:FuncId:=10
@[reducible] def Un:FuncId:=14
@[reducible] def xD:FuncId:=15
@[reducible] def xE:FuncId:=16
@[reducible] def xF:FuncId:=18
@[reducible] def xG:FuncId:=20
@[reducible] def xH:FuncId:=21
@[reducible] def sC:FuncId:=23
@[reducible] def xI:FuncId:=25
@[reducible] def xJ:FuncId:=26
@[reducible] def xK:FuncId:=27
@[reducible] def xL:FuncId:=29
@[reducible] def X1:FuncId:=35
@[reducible] def xM:FuncId:=36
@[reducible] def sD:FuncId:=37
@[reducible] def xN:FuncId:=38
@[reducible] def sE:FuncId:=39
@[reducible] def xO:FuncId:=40
@[reducible] def xP:FuncId:=44
@[reducible] def xQ:FuncId:=45
@[reducible] def Uo:FuncId:=46
@[reducible] def xR:FuncId:=47
@[reducible] def sF:FuncId:=48
@[reducible] def xS:FuncId:=49
@[reducible] def sG:FuncId:=50
@[reducible] def xU:FuncId:=51
@[reducible] def xV:FuncId:=52
@[reducible] def xW:FuncId:=53
@[reducible] def xX:FuncId:=54
@[reducible] def X2:FuncId:=55
@[reducible] def xY:FuncId:=56
@[reducible] def X3:FuncId:=57
@[reducible] def xZ:FuncId:=58
@[reducible] def sH:FuncId:=59
@[reducible] def ya:FuncId:=62
@[reducible] def Up:FuncId:=63
@[reducible] def Uq:FuncId:=64
@[reducible] def sI:FuncId:=65
@[reducible] def Ur:FuncId:=66
@[reducible] def yb:FuncId:=67
@[reducible] def yc:FuncId:=68
@[reducible] def yd:FuncId:=69
@[reducible] def oF:FuncId:=70
@[reducible] def ye:FuncId:=71
@[reducible] def sJ:FuncId:=76
@[reducible] def yf:FuncId:=79
@[reducible] def sK:FuncId:=80
@[reducible] def sL:FuncId:=81
@[reducible] def yg:FuncId:=82
@[reducible] def yh:FuncId:=83
@[reducible] def fU:FuncId:=84
@[reducible] def yi:FuncId:=89
@[reducible] def yj:FuncId:=91
@[reducible] def yk:FuncId:=92
@[reducible] def yl:FuncId:=93
@[reducible] def ym:FuncId:=94
@[reducible] def yn:FuncId:=95
@[reducible] def yo:FuncId:=96
@[reducible] def yp:FuncId:=97
@[reducible] def yq:FuncId:=98
@[reducible] def yr:FuncId:=99
@[reducible] def sM:FuncId:=100
@[reducible] def yt:FuncId:=101
@[reducible] def sN:FuncId:=102
@[reducible] def yu:FuncId:=103
@[reducible] def yv:FuncId:=104
@[reducible] def yw:FuncId:=105
@[reducible] def yx:FuncId:=106
@[reducible] def oG:FuncId:=107
@[reducible] def yy:FuncId:=108
@[reducible] def sO:FuncId:=109
@[reducible] def yz:FuncId:=110
@[reducible] def yA:FuncId:=111
@[reducible] def yB:FuncId:=112
@[reducible] def yC:FuncId:=113
@[reducible] def yD:FuncId:=114
@[reducible] def yE:FuncId:=115
@[reducible] def yF:FuncId:=116
@[reducible] def sP:FuncId:=117
@[reducible] def yG:FuncId:=118
@[reducible] def yH:FuncId:=119
@[reducible] def sQ:FuncId:=128
@[reducible] def oH:FuncId:=132
@[reducible] def yI:FuncId:=133
@[reducible] def sR:FuncId:=134
@[reducible] def yJ:FuncId:=135
@[reducible] def yK:FuncId:=136
@[reducible] def yL:FuncId:=137
@[reducible] def yM:FuncId:=138
@[reducible] def yN:FuncId:=139
@[reducible] def oI:FuncId:=140
@[reducible] def yO:FuncId:=141
@[reducible] def yP:FuncId:=142
@[reducible] def yQ:FuncId:=143
@[reducible] def yR:FuncId:=150
@[reducible] def X4:FuncId:=151
@[reducible] def Us:FuncId:=152
@[reducible] def sS:FuncId:=153
@[reducible] def oJ:FuncId:=154
@[reducible] def yS:FuncId:=155
@[reducible] def Ut:FuncId:=156
@[reducible] def sT:FuncId:=157
@[reducible] def yT:FuncId:=158
@[reducible] def yU:FuncId:=159
@[reducible] def yV:FuncId:=160
@[reducible] def yW:FuncId:=161
@[reducible] def yX:FuncId:=162
@[reducible] def yY:FuncId:=163
@[reducible] def yZ:FuncId:=164
@[reducible] def zd:FuncId:=165
@[reducible] def sU:FuncId:=166
@[reducible] def ze:FuncId:=167
@[reducible] def zg:FuncId:=168
@[reducible] def zk:FuncId:=169
@[reducible] def zp:FuncId:=170
@[reducible] def zq:FuncId:=171
@[reducible] def sV:FuncId:=172
@[reducible] def zs:FuncId:=173
@[reducible] def zu:FuncId:=174
@[reducible] def zw:FuncId:=175
@[reducible] def zx:FuncId:=176
@[reducible] def zz:FuncId:=177
@[reducible] def zA:FuncId:=178
@[reducible] def zB:FuncId:=179
@[reducible] def zE:FuncId:=180
@[reducible] def zF:FuncId:=181
@[reducible] def zG:FuncId:=182
@[reducible] def zH:FuncId:=183
@[reducible] def zI:FuncId:=184
@[reducible] def oK:FuncId:=185
@[reducible] def zJ:FuncId:=194
@[reducible] def zK:FuncId:=195
@[reducible] def zN:FuncId:=196
@[reducible] def oL:FuncId:=197
@[reducible] def zO:FuncId:=198
@[reducible] def oM:FuncId:=199
@[reducible] def zP:FuncId:=203
@[reducible] def Uu:FuncId:=204
@[reducible] def Uv:FuncId:=208
@[reducible] def zQ:FuncId:=211
@[reducible] def zR:FuncId:=212
@[reducible] def Uw:FuncId:=213
@[reducible] def zS:FuncId:=214
@[reducible] def zT:FuncId:=215
@[reducible] def zU:FuncId:=216
@[reducible] def zV:FuncId:=217
@[reducible] def zW:FuncId:=218
@[reducible] def zX:FuncId:=219
@[reducible] def zY:FuncId:=220
@[reducible] def zZ:FuncId:=221
@[reducible] def z5:FuncId:=225
@[reducible] def z6:FuncId:=252
@[reducible] def z7:FuncId:=253
@[reducible] def oN:FuncId:=254
@[reducible] def z8:FuncId:=262
@[reducible] def z9:FuncId:=263
@[reducible] def Q4Q:FuncId:=265
end
end Go.Proofs.YteflkifmgnpbhaaGreat


namespace Go.Proofs.YteflkifmgnpbhaaGreat
open Go.Lir
theorem oO:Ns Tryz.prog 68=some (3,1,8,[.int .i64 0]):=by kernel_rfl
theorem sW:Ns Tryz.prog 146=some (4,1,1,[.bool false]):=by kernel_rfl
theorem oP:Ns Tryz.prog 25=some (2,1,8,[.int .i64 0]):=by kernel_rfl
theorem oQ:∃e2,Tryz.prog.underlying 68=some (.slice e2):=⟨3,by kernel_rfl⟩
end Go.Proofs.YteflkifmgnpbhaaGreat
namespace Go.Proofs.YteflkifmgnpbhaaGreat
open Go.Lir
attribute [local irreducible] LC.wp Q0 Qs Qi KN QD LO.wp Q7 Calls


def MW (n:Nat)(fr:List Int):List Bool:=(List.range n).map fun (j:Nat)=> !decide ((j:Int)∈fr)
theorem ZT (n:Nat)(fr:List Int):(MW n fr).length=n:=by simp [MW]
theorem bU {n:Nat}{fr:List Int}(h:j<n):(MW n fr).getD j false= !decide ((j:Int)∈fr):=by
 simp [MW,E9,Fy,Ho h]
theorem oR {n:Nat}{fr:List Int}{l:List Bool}(hl:l.length=n)(h:∀j<n,l.getD j false= !decide ((j:Int)∈fr)):l=MW n fr:=
 rY false (by rw [hl,ZT]) fun j hj=>by rw [h j Jo,bU Jo]
theorem Qgt {n:Nat}{fr:List Int}{k:Nat}(hk:k<n):(MW n fr).set k false=MW n (fr++[(k:Int)]):=by
 refine oR (by rw [FL,ZT]) fun j hj=>?_;rw [ik Eu];by_cases h:k=j
 · subst h;simp
 · rw [if_neg h,bU hj];have:(j:Int)≠k:=Df;simp [this]
theorem Qgs {n:Nat}{fr:List Int}{k:Nat}(hk:k<n)(hn:(k:Int)∉fr):(MW n (fr++[(k:Int)])).set k true=MW n fr:=by
 refine oR (by rw [FL,ZT]) fun j hj=>?_;rw [ik Eu];by_cases h:k=j
 · subst h;simp [hn]
 · rw [if_neg h,bU hj];have:(j:Int)≠k:=Df;simp [this]
def OZ (n i:Nat):List Int:=(List.range i).map fun j=>((n - 1 - j:Nat):Int)
theorem Qe5 {n i:Nat}:OZ n (i+1)=OZ n i++[((n - 1 - i:Nat):Int)]:=by
 simp [OZ,HH]
theorem lJ (n i:Nat):(OZ n i).length=i:=by simp [OZ]
theorem fV {n i:Nat}{x:Int}(hi:i≤n):x∈OZ n i↔(n:Int) - i≤x∧x<n:=by
 simp only [OZ,FU,FX];constructor
 · rintro ⟨j,hj,rfl⟩;omega
 · rintro ⟨h1,h2⟩;exact ⟨n - 1 - x.toNat,Jo,Jo⟩
theorem sX {n i:Nat}(hi:i≤n):(OZ n i).Nodup:=by
 unfold OZ List.Nodup;rw [J9];refine (List.pairwise_lt_range (n:=i)).imp_of_mem ?_;intro a b ha hb h e;simp only [FX] at ha hb;omega

def RV (ws:List Int)(k:Nat):List Int:=ws.take (k*16)++(List.replicate 16 0++ws.drop (k*16+16))
theorem Qeb {k:Nat}:(RV ws k).map Qr=(ws.map Qr).take (k*16)++(List.replicate ((k+1)*16 - k*16) (Qr 0)++(ws.map Qr).drop ((k+1)*16)):=by
 rw [show (k+1)*16 - k*16=16 by omega,show (k+1)*16=k*16+16 by omega];simp [RV,List.map_take,List.map_drop]
theorem sY {k n:Nat}(h:ws.length=n*16)(hk:k<n):(RV ws k).length=n*16:=by
 simp [RV];omega

structure PoolOk (n:Nat) (ws fr:List Int):Prop where
 len:ws.length=n*16
 nd:fr.Nodup
 rng:∀x∈fr,0≤x∧x<n
 le:n≤64
theorem PoolOk.frlen {n:Nat}{fr:List Int}(h:PoolOk n ws fr):fr.length≤n:=by
 have:=bo (b:=OZ n n) h.nd fun x hx=>(fV (FE n)).2 (by have:=h.rng x hx;omega);rw [lJ] at this;exact this
theorem PoolOk.store {n i:Nat}{fr:List Int}{x:Int}(h:PoolOk n ws fr):PoolOk n (ws.set i x) fr:=⟨by rw [FL];exact h.len,h.nd,h.rng,h.le⟩
theorem PoolOk.take {n k:Nat}{fr:List Int}(h:PoolOk n ws (fr++[(k:Int)])):PoolOk n (RV ws k) fr∧k<n∧(k:Int)∉fr:=by
 have hk:=h.rng k Js;obtain ⟨h1,_,h3⟩:=He.1 h.nd;exact ⟨⟨sY h.len Jo,h1,fun x hx=>h.rng x DO,h.le⟩,Jo,fun hm=>h3 _ hm _ Js rfl⟩
theorem PoolOk.give {n k:Nat}{fr:List Int}(h:PoolOk n ws fr)(hk:k<n)(hn:(k:Int)∉fr):PoolOk n ws (fr++[(k:Int)]):=
 ⟨h.len,by rw [He];exact ⟨h.nd,by simp,fun a ha b hb e=>by simp at hb;subst hb;subst e;exact hn ha⟩,fun x hx=>by
   rcases FC.1 hx with hx|hx
   · exact h.rng x hx
   · simp at hx;omega,h.le⟩
theorem sZ {n:Nat}(h:n≤64):PoolOk n (List.replicate (n*16) 0) (OZ n n):=
 ⟨by simp,sX (FE n),fun x hx=>by have:=(fV (FE n)).1 hx;omega,h⟩


structure PoolR (H:KL) (p:Value) (F:Nat→Prop) (n:Nat) (ws fr:List Int) (b:Nat) (vw vl vt:Value) (Fw Fl Ft:Nat→Prop):Prop where
 hp:p= .pointer (some ⟨b,0,none⟩)
 blk:Lj H b 148 [vw,vl,vt]
 sw:Sl H 2 1 vw Fw (ws.map Qr)
 sl:Sl H 3 1 vl Fl (fr.map Qr)
 st:Sl H 4 1 vt Ft ((MW n fr).map QE)
 nw:¬Fw b
 nl:¬Fl b
 nt:¬Ft b
 wl:∀x,Fw x→¬Fl x
 wt:∀x,Fw x→¬Ft x
 lt:∀x,Fl x→¬Ft x
 hF:∀x,F x↔x=b∨Fw x∨Fl x∨Ft x
 ok:PoolOk n ws fr
def K7 (H:KL)(p:Value)(F:Nat→Prop)(n:Nat)(ws fr:List Int):Prop:=∃b vw vl vt Fw Fl Ft,PoolR H p F n ws fr b vw vl vt Fw Fl Ft
theorem K7.fr {p:Value}{F G:Nat→Prop}{n:Nat}{ws fr:List Int}{w w':World}(h:K7 w.heap p F n ws fr)(hf:Fr G w w')(hn:∀b,F b→¬G b):K7 w'.heap p F n ws fr:=by
 obtain ⟨b,vw,vl,vt,Fw,Fl,Ft,h⟩:=h
 exact ⟨b,vw,vl,vt,Fw,Fl,Ft,h.hp,h.blk.fr hf (hn b ((h.hF b).2 (.inl rfl))),h.sw.fr hf (fun x hx=>hn x ((h.hF x).2 (.inr (.inl hx)))),h.sl.fr hf (fun x hx=>hn x ((h.hF x).2 (.inr (.inr (.inl hx))))),
  h.st.fr hf (fun x hx=>hn x ((h.hF x).2 (.inr (.inr (.inr hx))))),h.nw,h.nl,h.nt,h.wl,h.wt,h.lt,h.hF,h.ok⟩
theorem K7.lt {p:Value}{n:Nat}{fr:List Int}(h:K7 H p F n ws fr):∀b,F b→b<H.size:=by
 obtain ⟨b,vw,vl,vt,Fw,Fl,Ft,h⟩:=h;intro x hx;rcases (h.hF x).1 hx with rfl|hx|hx|hx
 · exact h.blk.lt
 · exact h.sw.lt x hx
 · exact h.sl.lt x hx
 · exact h.st.lt x hx

theorem bV {p:Value}{n:Nat}{fr:List Int}(h:K7 w.heap p F n ws fr):Kf Tryz.prog sE [p] w fun v w'=>v= .int .i64 fr.length∧w'=w:=by
 obtain ⟨b,vw,vl,vt,Fw,Fl,Ft,rfl,hb,hw,hl,ht,nw,nl,nt,wl,wt,lt,hF,ok⟩:=h;refine Kq Ko Tryz.func39 ?_;refine' Nk;refine' Lh;refine Ox rfl Ja Jr ?_;((refine WM De hl ?_));refine' La;((exact ⟨_,rfl,by rw [Fb],rfl⟩))
theorem Qdi {p:Value}{n:Nat}(h:K7 w.heap p F n ws []):Kf Tryz.prog oN [p] w fun v w'=>v= .int .i64 (-1)∧w'=w:=by
 obtain ⟨b,vw,vl,vt,Fw,Fl,Ft,rfl,hb,hw,hl,ht,nw,nl,nt,wl,wt,lt,hF,ok⟩:=h;refine Kq Ko Tryz.func254 ?_;refine' Nk;refine' Lh;refine Ox rfl Ja Jr ?_;((refine WM De hl ?_;rw [List.map_nil,FF]));refine' PD;refine' OX;refine' KX;refine' OY;refine' KQ;((exact AS))
theorem bW {p:Value}{n k:Nat}{fr:List Int}(h:K7 w.heap p F n ws (fr++[(k:Int)])):Kf Tryz.prog oN [p] w fun v w'=>v= .int .i64 k∧K7 w'.heap p F n (RV ws k) fr∧Fr F w w':=by
 obtain ⟨b,vw,vl,vt,Fw,Fl,Ft,rfl,hb,hw,hl,ht,nw,nl,nt,wl,wt,lt,hF,ok⟩:=h;obtain ⟨ok',hk,hkn⟩:=ok.take;have hll:((fr++[(k:Int)]).map Qr).length=fr.length+1:=Dq;have hlw:(ws.map Qr).length=n*16:=DT;have hfl:=ok.frlen;rw [Fc,Ih] at hfl;have hn:=ok.le;refine Kq Ko Tryz.func254 ?_;refine' Nk;refine' Lh;refine Ox rfl Ja Jr ?_;refine WM De hl ?_;rw [hll];refine' PD;rw [show ((fr.length+1:Nat):Int) - 1=(fr.length:Int) by omega];refine' OX;refine' XU;refine' Pn;refine' WS;refine Ox rfl Ja Jr ?_;refine' zm;refine br De rfl hl Jo ?_;intro b1 o1 hel1;refine SK rfl hel1 (c:=Qr k) (by rw [FG,Ff (by rw [Fb];omega)];simp) rfl ?_;refine' KA;refine' Lc;refine' Lh;refine Ox rfl Ja Jr ?_;refine' zm;refine Tn De hl rfl ⟨_,rfl⟩ rfl Jo Jo ?_;intro vl1 hs1;rw [show ((List.map Qr (fr++[(k:Int)])).take fr.length).drop 0=fr.map Qr by rw [F9,FG,List.take_left' (by rw [Fb])]] at hs1;refine' Lh;refine nq rfl De hb Js hs1.oneC Jr ?_;intro w2 hf2 hz2 hb2;have hs2:=hs1.fr hf2 (fun x hx e=>nl (e ▸ hx));have hw2:=hw.fr hf2 (fun x hx e=>nw (e ▸ hx));have ht2:=ht.fr hf2 (fun x hx e=>nt (e ▸ hx));refine' LN;refine' Lh;refine Ox rfl Ja Jr ?_;refine' zm;refine br De rfl ht2 (by rw [Fb,ZT];exact hk) ?_;intro b3 o3 hel3;refine nh rfl De hel3 (MQ QE _ false Eu) Jo rfl ?_;intro w3 hf3 hz3 hel3';have ht3:=hel3'.sl;rw [show (QE ((MW n (fr++[(k:Int)])).getD k false)).set 0 (Value.bool true)=QE true from rfl,map_set,Qgs hk hkn] at ht3;have hb3:=hb2.fr hf3 nt;have hs3:=hs2.fr hf3 lt;have hw3:=hw2.fr hf3 wt;refine' LN;refine' Lh;refine Ox rfl Ja Jr ?_;refine' zm;refine' OR;refine' zm;refine' MX;refine' OR;refine bn (T:=2) (l':=k*16) (h':=(k+1)*16) De hw3 rfl ⟨_,rfl⟩ ⟨_,rfl⟩ Jo Jo ?_;intro v4 hsub4;refine Xz oP Dl rfl hw3 hsub4 Jo Jo ?_;intro w4 hf4 hz4 hw4;have hb4:=hb3.fr hf4 nw;have hs4:=hs3.fr hf4 (fun x hl hw=>wl x hw hl);have ht4:=ht3.fr hf4 (fun x ht hw=>wt x hw ht);refine' LN;refine' La;((refine ⟨_,rfl,rfl,⟨b,vw,vl1,vt,Fw,Fl,Ft,rfl,hb4,by rw [Qeb];exact hw4,hs4,ht4,nw,nl,nt,wl,wt,lt,hF,ok'⟩,?_⟩;refine ((hf2.mono fun x _ hx=>(hF x).2 (.inl hx)).trans (hf3.mono fun x _ hx=>(hF x).2 (.inr (.inr (.inr hx)))) (fun _ _ h=>h)).trans (hf4.mono fun x _ hx=>(hF x).2 (.inr (.inl hx))) (fun _ _ h=>h)))
theorem bX {p:Value}{n k:Nat}{fr:List Int}(h:K7 w.heap p F n ws fr)(hk:k<n)(hkn:(k:Int)∉fr):Kf Tryz.prog oL [p, .int .i64 k] w fun v w'=>v= .bool true∧∃F',K7 w'.heap p F' n ws (fr++[(k:Int)])∧Step F F' w w':=by
 obtain ⟨b,vw,vl,vt,Fw,Fl,Ft,rfl,hb,hw,hl,ht,nw,nl,nt,wl,wt,lt,hF,ok⟩:=h;have hlt:((MW n fr).map QE).length=n:=(by rw [Fb,ZT]);have hfl:=ok.frlen;have hn:=ok.le;have htk:(MW n fr).getD k false=true:=(by rw [bU hk];simp [hkn]);refine Kq Ko Tryz.func197 ?_;refine' Mq;refine' XU;refine' WT;(first|refine' Kj|(refine' Kl;(first|(refine SK rfl hel1 (MQ QE _ false Dv) rfl ?_;rw [htk])|(refine Ox rfl Ja Jr ?_))));(first|refine' Kj|(refine' Kl;refine WM De ht ?_));refine' lF;(first|refine Pf rfl De ?_|refine P4 rfl De ?_);refine' Lv;refine' PK;(first|refine' Kj|(refine' Kl;(first|(refine SK rfl hel1 (MQ QE _ false Dv) rfl ?_;rw [htk])|(refine Ox rfl Ja Jr ?_))));refine' Mc;(first|refine' Kj|(refine' Kl;refine br De rfl ht Jo ?_;intro b1 o1 hel1));(first|refine' Kj|(refine' Kl;refine SK rfl hel1 (MQ QE _ false Dv) rfl ?_;rw [htk]));refine' PG;(first|refine Pf rfl De ?_|refine P4 rfl De ?_);refine' Pn;refine' WS;(first|(refine SK rfl hel1 (MQ QE _ false Dv) rfl ?_;rw [htk])|(refine Ox rfl Ja Jr ?_));refine' zm;refine br De rfl ht Jo ?_;intro b1 o1 hel1;refine nh rfl De hel1 (MQ QE _ false Dv) Jo rfl ?_;intro w3 hf3 hz3 hel3;have ht3:=hel3.sl;rw [show (QE ((MW n fr).getD k false)).set 0 (Value.bool false)=QE false from rfl,map_set,Qgt hk] at ht3;have hb3:=hb.fr hf3 nt;have hl3:=hl.fr hf3 lt;have hw3:=hw.fr hf3 wt;refine' Uj;refine' Lh;(first|(refine SK rfl hel1 (MQ QE _ false Dv) rfl ?_;rw [htk])|(refine Ox rfl Ja Jr ?_));refine' zm;refine Rh (cs:=[_]) De Jr ?_;intro b4 w4 hb4 hf4 hz4 hk4;have hb4:=hb3.fr0 hf4;have hl4:=hl3.fr0 hf4;have hw4:=hw3.fr0 hf4;have ht4:=ht3.fr0 hf4;refine Tq oO (.inl oQ) De De hl4 (nm hk4 rfl) Di ?_;rintro vl5 w5 ⟨Fl5,hl5,hf5,hsub5⟩;have hout:∀x,x<w.heap.size→¬Fl x→¬Fl5 x:=(fun x hx hn h=>(hsub5 x h).elim hn (fun hz=>absurd hz EL));have hb5:=hb4.fr hf5 nl;have hw5:=hw4.fr hf5 wl;have ht5:=ht4.fr hf5 (fun x ht hl=>lt x hl ht);refine' Lh;refine nq rfl De hb5 Js hl5.oneC Jr ?_;intro w6 hf6 hz6 hb6;have nl5:=hout b hb.lt nl;have hl6:=hl5.fr hf6 (fun x hx e=>nl5 (e ▸ hx));have hw6:=hw5.fr hf6 (fun x hx e=>nw (e ▸ hx));have ht6:=ht5.fr hf6 (fun x hx e=>nt (e ▸ hx));refine' zn;refine' KQ;(refine ⟨_,rfl,rfl,fun x=>x=b∨Fw x∨Fl5 x∨Ft x,⟨b,vw,vl5,vt,Fw,Fl5,Ft,rfl,hb6,hw6,by rw [FG];exact hl6,ht6,nw,nl5,nt,fun x hx=>hout x (hw.lt x hx) (wl x hx),wt,fun x h5 ht'=>hout x (ht.lt x ht') (fun h=>lt x h ht') h5,fun x=>Hl,ok.give hk hkn⟩,(((hf3.into fun x h=>(hF x).2 (.inr (.inr (.inr h)))).then0 hf4).cat (hf5.into fun x h=>(hF x).2 (.inr (.inr (.inl h))))).cat (hf6.into fun x h=>(hF x).2 (.inl h)),fun x hx=>?_⟩;rcases hx with h|h|h|h;exact .inl ((hF x).2 (.inl h));exact .inl ((hF x).2 (.inr (.inl h)));(rcases hsub5 x h with h|h;exact .inl ((hF x).2 (.inr (.inr (.inl h))));exact .inr EL);exact .inl ((hF x).2 (.inr (.inr (.inr h)))))
theorem Qi1 {p:Value}{n:Nat}{k:Int}{fr:List Int}(h:K7 w.heap p F n ws fr)(hk:k<0∨(n:Int)≤k∨k∈fr):Kf Tryz.prog oL [p, .int .i64 k] w fun v w'=>v= .bool false∧w'=w:=by
 ((obtain ⟨b,vw,vl,vt,Fw,Fl,Ft,rfl,hb,hw,hl,ht,nw,nl,nt,wl,wt,lt,hF,ok⟩:=h;have hlt:((MW n fr).map QE).length=n:=(by rw [Fb,ZT]);refine Kq Ko Tryz.func197 ?_;refine' Mq;first|(refine' KX)|(refine' K1)|(refine' Ae<;>intro hc));all_goals (refine' WT;(first|refine' Kj|(refine' Kl;(first|(refine SK rfl hel1 (MQ QE _ false Dv) rfl ?_;rw [bU Jo,show ((k.toNat:Nat):Int)=k by omega,decide_eq_true (show k∈fr from hk.resolve_left Jo|>.resolve_left Jo)])|(refine Ox rfl Ja Jr ?_))));(first|refine' Kj|(refine' Kl;refine WM De ht ?_));first|refine' Kj|(refine' Kl;(first|(refine' Ml)|(refine' MN)|(refine' Ag<;>intro hc)))));all_goals ((first|refine Pf rfl De ?_|refine P4 rfl De ?_);refine' Lv;refine' PK;(first|refine' Kj|(refine' Kl;(first|(refine SK rfl hel1 (MQ QE _ false Dv) rfl ?_;rw [bU Jo,show ((k.toNat:Nat):Int)=k by omega,decide_eq_true (show k∈fr from hk.resolve_left Jo|>.resolve_left Jo)])|(refine Ox rfl Ja Jr ?_))));refine' Mc;(first|refine' Kj|(refine' Kl;refine ng De rfl ht Jo Jo ?_;intro b1 o1 hel1));(first|refine' Kj|(refine' Kl;refine SK rfl hel1 (MQ QE _ false Dv) rfl ?_;rw [bU Jo,show ((k.toNat:Nat):Int)=k by omega,decide_eq_true (show k∈fr from hk.resolve_left Jo|>.resolve_left Jo)]));refine' PG;(first|refine Pf rfl De ?_|refine P4 rfl De ?_);refine' OY;refine' KQ;exact AS)
theorem X5 {p:Value}{n i:Nat}{x:Int}{fr:List Int}(h:K7 w.heap p F n ws fr)(hi:i<n*16):Kf Tryz.prog oI [p, .int .i64 i, .int .i64 x] w fun v w'=>v= .bool true∧K7 w'.heap p F n (ws.set i x) fr∧Fr F w w':=by
 obtain ⟨b,vw,vl,vt,Fw,Fl,Ft,rfl,hb,hw,hl,ht,nw,nl,nt,wl,wt,lt,hF,ok⟩:=h;have hlw:(ws.map Qr).length=n*16:=DT;have hle:=ok.le;have hol:=ok.len;refine Kq Ko Tryz.func140 ?_;refine' Mq;refine' XU;refine' WT;(first|refine' Kj|(refine' Kl;refine Ox rfl Ja Jr ?_));(first|refine' Kj|(refine' Kl;refine WM De hw ?_));refine' lF;(first|refine Pf rfl De ?_|refine P4 rfl De ?_);refine' Pn;refine' WS;refine Ox rfl Ja Jr ?_;refine' MV;refine br De rfl hw Jo ?_;intro b1 o1 hel1;refine nh rfl De hel1 (MQ Qr _ 0 Jo) Jo rfl ?_;intro w3 hf3 hz3 hel3;have hw3:=hel3.sl;rw [show (Qr (ws.getD i 0)).set 0 (Value.int .i64 x)=Qr x from rfl,map_set] at hw3;refine' zn;refine' KQ;(exact ⟨_,rfl,rfl,⟨b,vw,vl,vt,Fw,Fl,Ft,rfl,hb.fr hf3 nw,hw3,hl.fr hf3 (fun x hl hw=>wl x hw hl),ht.fr hf3 (fun x ht hw=>wt x hw ht),nw,nl,nt,wl,wt,lt,hF,ok.store⟩,hf3.into fun x h=>(hF x).2 (.inr (.inl h))⟩)
theorem Qfr {p:Value}{n:Nat}{i x:Int}{fr:List Int}(h:K7 w.heap p F n ws fr)(hi:i<0∨((n*16:Nat):Int)≤i):Kf Tryz.prog oI [p, .int .i64 i, .int .i64 x] w fun v w'=>v= .bool false∧w'=w:=by
 (obtain ⟨b,vw,vl,vt,Fw,Fl,Ft,rfl,hb,hw,hl,ht,nw,nl,nt,wl,wt,lt,hF,ok⟩:=h;have hlw:(ws.map Qr).length=n*16:=DT;refine Kq Ko Tryz.func140 ?_;refine' Mq;first|(refine' KX)|(refine' K1)|(refine' Ae<;>intro hc));all_goals (refine' WT;(first|refine' Kj|(refine' Kl;refine Ox rfl Ja Jr ?_));(first|refine' Kj|(refine' Kl;refine WM De hw ?_));(first|refine' Kj|(refine' Kl;refine' Ml));(first|refine Pf rfl De ?_|refine P4 rfl De ?_);refine' OY;refine' KQ;exact AS)
theorem bY {p:Value}{n i:Nat}{fr:List Int}(h:K7 w.heap p F n ws fr)(hi:i<n*16):Kf Tryz.prog oM [p, .int .i64 i] w fun v w'=>v= .tuple #[.int .i64 (ws.getD i 0), .bool true]∧w'=w:=by
 obtain ⟨b,vw,vl,vt,Fw,Fl,Ft,rfl,hb,hw,hl,ht,nw,nl,nt,wl,wt,lt,hF,ok⟩:=h;have hlw:(ws.map Qr).length=n*16:=DT;have hle:=ok.le;have hol:=ok.len;refine Kq Ko Tryz.func199 ?_;refine' Nz;refine' Na;refine' XU;refine' WT;(first|refine' Kj|(refine' Kl;(first|(refine SK rfl hel1 (MQ Qr _ 0 Jo) rfl ?_)|(refine Ox rfl Ja Jr ?_))));(first|refine' Kj|(refine' Kl;refine WM De hw ?_));refine' lF;(first|refine Pf rfl De ?_|refine P4 rfl De ?_);refine' Pn;refine' WS;(first|(refine SK rfl hel1 (MQ Qr _ 0 Jo) rfl ?_)|(refine Ox rfl Ja Jr ?_));refine' zm;refine br De rfl hw Jo ?_;intro b1 o1 hel1;refine SK rfl hel1 (MQ Qr _ 0 Jo) rfl ?_;refine' Sq;(exact AS)
theorem QhC {p:Value}{n:Nat}{i:Int}{fr:List Int}(h:K7 w.heap p F n ws fr)(hi:i<0∨((n*16:Nat):Int)≤i):Kf Tryz.prog oM [p, .int .i64 i] w fun v w'=>v= .tuple #[.int .i64 0, .bool false]∧w'=w:=by
 (obtain ⟨b,vw,vl,vt,Fw,Fl,Ft,rfl,hb,hw,hl,ht,nw,nl,nt,wl,wt,lt,hF,ok⟩:=h;have hlw:(ws.map Qr).length=n*16:=DT;refine Kq Ko Tryz.func199 ?_;refine' Nz;refine' Na;first|(refine' KX)|(refine' K1)|(refine' Ae<;>intro hc));all_goals (refine' WT;(first|refine' Kj|(refine' Kl;refine Ox rfl Ja Jr ?_));(first|refine' Kj|(refine' Kl;refine WM De hw ?_));(first|refine' Kj|(refine' Kl;refine' Ml));(first|refine Pf rfl De ?_|refine P4 rfl De ?_);refine' OY;refine' KP;refine' SW;exact AS)
theorem Ux (n:Nat):MW n (OZ n n)=List.replicate n false:=by
 symm
 refine oR Js fun j hj=>?_;have:(j:Int)∈OZ n n:=(fV (FE n)).2 Jo;simp [this,E9,hj]

theorem Qhu {n:Int}(w:World)(hn:n<0∨64<n):Kf Tryz.prog oH [.int .i64 n] w fun v w'=>v= .tuple #[.pointer none, .agg ⟨[.int .i64 1, .int .i64 (-1)]⟩]∧Fr NF w w':=by
 (refine Kq Ko Tryz.func132 ?_;refine' KP;refine mY ?_;intro b3 w1 hb3e hf1 hz1 hb3;refine' zn;refine' Na;first|(refine' KX)|(refine' K1)|(refine' Ae<;>intro hc));all_goals (refine' Lv;refine' fQ;(first|refine Pf rfl De ?_|refine P4 rfl De ?_);refine' OY;refine' Kv;refine iq (cs:=[_,_]) De De Jr ?_;refine' zm;refine r5 rfl rfl Jr hb3 Js Dl (cs':=[_,_]) Jr ?_;intro w2 hf2 hz2 hb2;refine' Lz;refine OJ De De (Q2 (n:=2) Jk Jk hb2 Jr Jr) ?_;exact ⟨_,rfl,rfl,fD hf1 (fun b hb=>by omega) hf2⟩)

theorem X6 {n:Nat}(w:World)(hn:n≤64):Kf Tryz.prog oH [.int .i64 n] w fun v w'=>∃p F,v= .tuple #[p, .agg ⟨[.int .i64 0, .int .i64 0]⟩]∧K7 w'.heap p F n (List.replicate (n*16) 0) (OZ n n)∧Fr NF w w'∧∀b,F b→w.heap.size≤b:=by
 refine Kq Ko Tryz.func132 ?_;refine' KP;refine mY ?_;((intro b3 w1 hb3e hf hz1 hb3));refine' zn;refine' Na;refine' XU;refine' Lv;refine' iO;(first|refine Pf rfl De ?_|refine P4 rfl De ?_);refine' Pn;refine RH (fun ρ' w'=>∃(b:Nat) (vw vt:Value) (Fw Ft:Nat→Prop),Kn ρ' [(0, .int .i64 n),(3, .pointer (some ⟨b3,0,none⟩)),(4, .pointer (some ⟨b,0,none⟩))]∧Lj w'.heap b 148 [vw, .slice none 0 0,vt]∧Sl w'.heap 2 1 vw Fw (List.replicate (n*16) (Qr 0))∧Sl w'.heap 4 1 vt Ft (List.replicate n (QE false))∧Lj w'.heap b3 29 [.int .i64 0, .int .i64 0]∧Fr NF w w'∧¬Fw b∧¬Ft b∧(∀x,Fw x→¬Ft x)∧b≠b3∧¬Fw b3∧¬Ft b3∧w.heap.size≤b∧(∀x,Fw x→w.heap.size≤x)∧∀x,Ft x→w.heap.size≤x) ?_ ?_
 · skip
   refine OK 2 4 Jk ?_ ?_
   · skip;refine m9 [(0,none),(1,none),(3,none),(2,some (some [])),(4,some none),(5,none),(6,some none),(7,some none)] Jk ?_;have hf:=hf.drew';have hb3:=hb3.fr0 (JM (HN NF _));refine' KW;refine' zm;refine' PJ;refine' KW;refine' OR;refine' PJ;refine' KW;refine' zm;refine' PJ;refine' SJ;refine ig oP rfl rfl Jo Jo ?_;intro vw w2 hfw hw hzw;have hb3:=hb3.fr0 hfw;have hf:=hf.then0 hfw;refine' PJ;refine ⟨fun _ h=>(Fv h).elim,?_⟩;refine' LG;refine ig sW rfl rfl Jo Jo ?_;intro vt w3 hft ht hzt;have hb3:=hb3.fr0 hft;have hf:=hf.then0 hft;refine' PJ;refine' KW;obtain ⟨aw,cw,rfl⟩:=hw.shape;obtain ⟨at_,ct,rfl⟩:=ht.shape;refine iq (cs:=[_,_,_]) De De Jr ?_;refine' PJ;refine' LG;(have hw:=hw.fr0 hft);(first|have ht:=ht.fr0 hfw|skip);refine np De Jr ?_;((intro b w4 hb hf4 hz4 hblk;have hb3:=hb3.fr0 hf4;have hw:=hw.fr0 hf4;have ht:=ht.fr0 hf4;have hf:=hf.then0 hf4));refine' PJ;refine' LG;refine' zm;refine' PJ;refine' ly;((have hd0:w1.drew.heap.size=w1.heap.size:=rfl;exact B4))
   · skip;refine m9 [(0,none),(1,none),(3,none),(4,some (some [])),(2,some (some [])),(5,none),(6,some none),(7,some none)] Jk ?_;have hf:=hf.drew';have hb3:=hb3.fr0 (JM (HN NF _));refine' KW;refine' zm;refine' PJ;refine' KW;refine' OR;refine' PJ;refine' KW;refine' zm;refine' PJ;refine' SJ;refine ig sW rfl rfl Jo Jo ?_;intro vt w3 hft ht hzt;have hb3:=hb3.fr0 hft;have hf:=hf.then0 hft;refine' PJ;refine ⟨fun _ h=>(Fv h).elim,?_⟩;refine' SJ;refine ig oP rfl rfl Jo Jo ?_;intro vw w2 hfw hw hzw;have hb3:=hb3.fr0 hfw;have hf:=hf.then0 hfw;refine' PJ;refine ⟨fun _ h=>(Fv h).elim,?_⟩;refine' KW;obtain ⟨aw,cw,rfl⟩:=hw.shape;obtain ⟨at_,ct,rfl⟩:=ht.shape;refine iq (cs:=[_,_,_]) De De Jr ?_;refine' PJ;refine' LG;(first|have hw:=hw.fr0 hft|skip);(have ht:=ht.fr0 hfw);refine np De Jr ?_;((intro b w4 hb hf4 hz4 hblk;have hb3:=hb3.fr0 hf4;have hw:=hw.fr0 hf4;have ht:=ht.fr0 hf4;have hf:=hf.then0 hf4));refine' PJ;refine' LG;refine' zm;refine' PJ;refine' ly;((have hd0:w1.drew.heap.size=w1.heap.size:=rfl;exact B4))
 rintro ρ w5 ⟨b,vw,vt,Fw,Ft,hρ,hb0,hw0,ht0,hb30,hf0,nw,nt,wt,nb,nw3,nt3,low,loww,lowt⟩;obtain ⟨ρ,rfl⟩:=fq _ hρ;refine' Na;refine' Ob;refine fx (fun ρ' w'=>∃(i:Nat) (vl:Value) (Fl:Nat→Prop),Kn ρ' [(0, .int .i64 n),(3, .pointer (some ⟨b3,0,none⟩)),(4, .pointer (some ⟨b,0,none⟩)),(20, .int .i64 n),(21, .int .i64 i)]∧i≤n∧Lj w'.heap b 148 [vw,vl,vt]∧Sl w'.heap 2 1 vw Fw (List.replicate (n*16) (Qr 0))∧Sl w'.heap 4 1 vt Ft (List.replicate n (QE false))∧Sl w'.heap 3 1 vl Fl ((OZ n i).map Qr)∧Lj w'.heap b3 29 [.int .i64 0, .int .i64 0]∧Fr NF w w'∧¬Fl b∧(∀x,Fl x→¬Fw x)∧(∀x,Fl x→¬Ft x)∧¬Fl b3∧∀x,Fl x→w.heap.size≤x) (fun ρ' _=>(n - iv (ρ' 21)).toNat) ?_ ?_
 · exact ⟨0,_,NF,⟨rfl,rfl,rfl,rfl,rfl,trivial⟩,FZ _,hb0,hw0,ht0,Sl.nil _ _ _,hb30,hf0,fun h=>h,fun _ h=>h.elim,fun _ h=>h.elim,fun h=>h,fun _ h=>h.elim⟩
 rintro ρ w5 ⟨i,vl,Fl,hρ,hi,hb,hw,ht,hl,hb3,hf,nl,lw,lt,nl3,lowl⟩;obtain ⟨ρ,rfl⟩:=fq _ hρ;have hsz:=hf.size;have hfl:((OZ n i).map Qr).length=i:=(by rw [Fb,lJ]);refine' MH;refine' Ab<;>intro hc
 · skip;refine' L4;refine' Nz;refine' MZ;refine' Lh;refine Ox rfl Ja Jr ?_;refine' zm;refine' PD;refine' zm;refine' PD;refine Rh (cs:=[_]) De Jr ?_;intro b6 w6 hb6 hf6 hz6 hk6;have hb:=hb.fr0 hf6;have hw:=hw.fr0 hf6;have ht:=ht.fr0 hf6;have hl:=hl.fr0 hf6;have hb3:=hb3.fr0 hf6;have hf:=hf.then0 hf6;refine Tq oO (.inl oQ) De De hl (nm hk6 rfl) (by rw [hfl];simp;omega) ?_;rintro vl7 w7 ⟨Fl7,hl7,hf7,hsub7⟩;have hout:∀x,x<w6.heap.size→¬Fl x→¬Fl7 x:=(fun x hx hn h=>(hsub7 x h).elim hn (fun hz=>absurd hz Jo));have hll:=hw.lt;have hlt:=ht.lt;have hlb:=hb.lt;have hlb3:=hb3.lt;have hb:=hb.fr hf7 nl;have hw:=hw.fr hf7 (fun x h h'=>lw x h' h);have ht:=ht.fr hf7 (fun x h h'=>lt x h' h);have hb3:=hb3.fr hf7 nl3;have hf:=fD hf lowl hf7;have nl7:=hout b hlb nl;have lowl7:∀x,Fl7 x→w.heap.size≤x:=(fun x h=>(hsub7 x h).elim (lowl x) (fun h=>by omega));refine' Lh;refine nq rfl De hb Js hl7.oneC Jr ?_;intro w8 hf8 hz8 hb8;have hl8:=hl7.fr hf8 (fun x hx e=>nl7 (e ▸ hx));have hw8:=hw.fr hf8 (fun x hx e=>nw (e ▸ hx));have ht8:=ht.fr hf8 (fun x hx e=>nt (e ▸ hx));have hb38:=hb3.fr hf8 (fun e=>nb e.symm);have hf8':=fD hf (fun x hx=>by omega) hf8;refine' Rr;(refine ⟨⟨i+1,vl7,Fl7,⟨rfl,rfl,rfl,rfl,rfl,trivial⟩,Jo,hb8,hw8,ht8,?_,hb38,hf8',nl7,fun x h h'=>hout x (hll x h') (fun h=>lw x h h') h,fun x h h'=>hout x (hlt x h') (fun h=>lt x h h') h,hout b3 hlb3 nl3,lowl7⟩,Qj Jo⟩;rw [Qe5,FG];rw [show ((n - 1 - i:Nat):Int)=(n:Int) - 1 - i by omega];exact hl8)
 · skip;refine' L8;refine' KP;refine lk (cs:=[_,_]) Jr ?_;refine' zm;refine r5 rfl rfl Jr hb3 Js Dl (cs':=[_,_]) Jr ?_;intro w9 hf9 hz9 hb9;refine' Lz;(refine OJ De De (Q2 (n:=2) Jk Jk hb9 Jr Jr) ?_;obtain rfl:i=n:=Df;refine ⟨_,rfl,_,fun x=>x=b∨Fw x∨Fl x∨Ft x,rfl,⟨b,vw,vl,vt,Fw,Fl,Ft,rfl,hb.fr hf9 nb,?_,?_,?_,nw,nl,nt,fun x h h'=>lw x h' h,wt,lt,fun x=>Hl,sZ hn⟩,fD hf (fun x hx=>by omega) hf9,?_⟩;rw [HS];exact hw.fr hf9 (fun x hx e=>nw3 (e ▸ hx));exact hl.fr hf9 (fun x hx e=>nl3 (e ▸ hx));rw [Ux,HS];exact ht.fr hf9 (fun x hx e=>nt3 (e ▸ hx));rintro x (rfl|h|h|h);exact low;exact loww x h;exact lowl x h;exact lowt x h)
end Go.Proofs.YteflkifmgnpbhaaGreat

namespace Go.Proofs.YteflkifmgnpbhaaGreat
open Go.Lir
attribute [local irreducible] LC.wp Q0 Qs Qi KN QD LO.wp Q7 Calls

end Go.Proofs.YteflkifmgnpbhaaGreat
