/- Lemmas of the proof, part 2: what the functions of the program do (contracts), and what follows. -/
import Derived.Test.YteflkifmgnpbhaaGreatZ1
import Derived.Test.YteflkifmgnpbhaaGreatProg
import Derived.Laws.IdiomStrings
import Derived.Recover
import Derived.Lib.Strings
namespace Go.Lir

theorem SlR.turn {H H':Heap}{es:Nat}{v:Value}{F G:Nat→Prop}{css:List (List Value)}(h:SlR H es v F css) (hs:∀b,F b→b<H.size→G b∧H'[b]?=H[b]?):SlR H' es v G css:=by
 obtain ⟨h0,a,cap,hv,hlc,hc|⟨b,off,ha,hF,hb,hat⟩⟩:=h
 · exact ⟨h0,a,cap,hv,hlc, .inl hc⟩
 · obtain ⟨h1,h2⟩:=hs b hF hb
   refine ⟨h0,a,cap,hv,hlc, .inr ⟨b,off,ha,h1,?_,fun m c hm=>(hat m c hm).of_same h2⟩⟩
   rcases Nat.lt_or_ge b H'.size with h|h
   · exact h
   · rw [Array.getElem?_eq_none h,Array.getElem?_eq_getElem hb] at h2;cases h2

structure Rep (α:Type) where
 es:Nat
 pos:0<es
 R:Heap→(Nat→Prop)→List Value→α→Prop
 len:∀{H:Heap}{K:Nat→Prop}{cs:List Value}{x:α},R H K cs x→cs.length=es
 one:∀{H:Heap}{K:Nat→Prop}{cs:List Value}{x:α},R H K cs x→∀u∈cs,oneC u=true
 turn:∀{H H':Heap}{K K':Nat→Prop}{cs:List Value}{x:α},R H K cs x→(∀b,K b→b<H.size→K' b∧H'[b]?=H[b]?)→R H' K' cs x

section
variable {α β:Type}
def Rep.LR (r:Rep α) (H:Heap) (K:Nat→Prop) (css:List (List Value)) (l:List α):Prop:=css.length=l.length∧∀(m:Nat) (x:α),l[m]?=some x→∃d,css[m]?=some d∧r.R H K d x
def Rep.SR (r:Rep α) (H:Heap) (K:Nat→Prop) (v:Value) (l:List α):Prop:=∃css,SlR H r.es v K css∧r.LR H K css l∧l.length≤140737488355328
theorem Rep.LR.turn {r:Rep α}{H H':Heap}{K K':Nat→Prop}{css:List (List Value)}{l:List α}(h:r.LR H K css l) (hs:∀b,K b→b<H.size→K' b∧H'[b]?=H[b]?):r.LR H' K' css l:=
 ⟨h.1,fun m x hx=>by obtain ⟨d,h1,h2⟩:=h.2 m x hx;exact ⟨d,h1,r.turn h2 hs⟩⟩
theorem Rep.SR.turn {r:Rep α}{H H':Heap}{K K':Nat→Prop}{v:Value}{l:List α}(h:r.SR H K v l) (hs:∀b,K b→b<H.size→K' b∧H'[b]?=H[b]?):r.SR H' K' v l:=by
 obtain ⟨css,h1,h2,h3⟩:=h
 exact ⟨css,h1.turn hs,h2.turn hs,h3⟩
theorem Rep.LR.nil (r:Rep α) (H:Heap) (K:Nat→Prop):r.LR H K [] []:=⟨rfl,by simp⟩
theorem Rep.LR.push {r:Rep α}{H:Heap}{K:Nat→Prop}{css:List (List Value)}{l:List α}{d:List Value}{x:α}(h:r.LR H K css l) (hd:r.R H K d x):r.LR H K (css++[d]) (l++[x]):=by
 refine ⟨by simp [h.1],fun m y hy=>?_⟩
 rcases Nat.lt_or_ge m l.length with hm|hm
 · rw [List.getElem?_append_left hm] at hy
   rw [List.getElem?_append_left (by rw [h.1];exact hm)]
   exact h.2 m y hy
 · rw [List.getElem?_append_right hm] at hy
   rw [List.getElem?_append_right (by rw [h.1];exact hm),h.1]
   obtain ⟨i,hi⟩:∃i,m - l.length=i:=⟨_,rfl⟩
   rw [hi] at hy ⊢
   cases i with
   | zero=>simp only [List.getElem?_cons_zero,Option.some.injEq] at hy;subst hy;exact ⟨d,rfl,hd⟩
   | succ i=>simp at hy
theorem Rep.LR.append {r:Rep α}{H:Heap}{K:Nat→Prop}{css css2:List (List Value)}{l l2:List α}(h:r.LR H K css l) (h2:r.LR H K css2 l2):r.LR H K (css++css2) (l++l2):=by
 refine ⟨by simp [h.1,h2.1],fun m y hy=>?_⟩
 rcases Nat.lt_or_ge m l.length with hm|hm
 · rw [List.getElem?_append_left hm] at hy
   rw [List.getElem?_append_left (by rw [h.1];exact hm)]
   exact h.2 m y hy
 · rw [List.getElem?_append_right hm] at hy
   rw [List.getElem?_append_right (by rw [h.1];exact hm),h.1]
   exact h2.2 _ y hy
theorem Rep.LR.set {r:Rep α}{H:Heap}{K:Nat→Prop}{css:List (List Value)}{l:List α}{d:List Value}{x:α}{i:Nat}(h:r.LR H K css l) (hd:r.R H K d x):r.LR H K (css.set i d) (l.set i x):=by
 refine ⟨by simp [h.1],fun m y hy=>?_⟩
 rw [List.getElem?_set] at hy ⊢
 by_cases he:i=m
 · rw [if_pos he] at hy ⊢
   rw [h.1]
   split at hy
   · rename_i hm;rw [if_pos hm];cases hy;exact ⟨d,rfl,hd⟩
   · cases hy
 · rw [if_neg he] at hy ⊢
   exact h.2 m y hy
theorem Rep.LR.sub {r:Rep α}{H:Heap}{K:Nat→Prop}{css:List (List Value)}{l:List α}(h:r.LR H K css l) (i j:Nat):r.LR H K ((css.take j).drop i) ((l.take j).drop i):=by
 refine ⟨by simp [h.1],fun m y hy=>?_⟩
 rw [List.getElem?_drop] at hy ⊢
 have hlt:=(List.getElem?_eq_some_iff.1 hy).1
 rw [List.length_take] at hlt
 rw [List.getElem?_take_of_lt (by omega)] at hy ⊢
 exact h.2 _ y hy
theorem Rep.LR.one {r:Rep α}{H:Heap}{K:Nat→Prop}{css:List (List Value)}{l:List α}(h:r.LR H K css l):∀c∈css,∀u∈c,oneC u=true:=by
 intro c hc
 obtain ⟨m,hm⟩:=List.mem_iff_getElem?.1 hc
 have hlt:=(List.getElem?_eq_some_iff.1 hm).1
 obtain ⟨d,h1,h2⟩:=h.2 m _ (List.getElem?_eq_getElem (by rw [←h.1];exact hlt))
 rw [hm] at h1;cases h1
 exact r.one h2
theorem Rep.SR.oneC {r:Rep α}{H:Heap}{K:Nat→Prop}{v:Value}{l:List α}(h:r.SR H K v l):Go.Lir.oneC v=true:=by
 obtain ⟨css,h1,_⟩:=h;exact SlR.oneC h1
theorem Rep.SR.nil (r:Rep α) (H:Heap) (K:Nat→Prop):r.SR H K (.slice none 0 0) []:=⟨[],⟨by simp,none,0,rfl,Nat.le_refl _, .inl rfl⟩, .nil r H K,by simp⟩
theorem Rep.SR.len {r:Rep α}{H:Heap}{K:Nat→Prop}{v:Value}{l:List α}(h:r.SR H K v l):l.length≤140737488355328:=by obtain ⟨_,_,_,h⟩:=h;exact h
theorem Rep.SR.shape {r:Rep α}{H:Heap}{K:Nat→Prop}{v:Value}{l:List α}(h:r.SR H K v l):∃a c,v= .slice a l.length c:=by
 obtain ⟨css,h1,h2,_⟩:=h
 obtain ⟨a,c,hv⟩:=SlR.shape h1
 exact ⟨a,c,by rw [←h2.1];exact hv⟩

theorem Rep.SR.nil_of {r:Rep α}{H:Heap}{K:Nat→Prop}{v:Value}{l:List α}{n c:Nat}(h:r.SR H K v l) (hv:v= .slice none n c):l=[]:=by
 obtain ⟨css,⟨_,a,cap,hv2,_,hc|⟨b,off,ha,_⟩⟩,h2,_⟩:=h
 · exact List.eq_nil_of_length_eq_zero (by rw [←h2.1,hc];rfl)
 · rw [hv,ha] at hv2;simp at hv2
def Rep.lit (f:α→Value) (hf:∀x,oneC (f x)=true):Rep α where
 es:=1
 pos:=by decide
 R:=fun _ _ cs x=>cs=[f x]
 len:=by rintro _ _ _ _ rfl;rfl
 one:=by rintro _ _ _ x rfl u hu;simp at hu;subst hu;exact hf x
 turn:=fun h _=>h
def intR:Rep Int:=Rep.lit (fun n=> .int .i64 n) (fun _=>rfl)
def Rep.list (r:Rep α):Rep (List α) where
 es:=1
 pos:=by decide
 R:=fun H K cs l=>∃v,cs=[v]∧r.SR H K v l
 len:=by rintro _ _ _ _ ⟨v,rfl,_⟩;rfl
 one:=by rintro _ _ _ _ ⟨v,rfl,h⟩ u hu;simp at hu;subst hu;exact h.oneC
 turn:=by rintro _ _ _ _ _ _ ⟨v,rfl,h⟩ hs;exact ⟨v,rfl,h.turn hs⟩
def Rep.and (r:Rep α) (p:α→Prop):Rep α where
 es:=r.es
 pos:=r.pos
 R:=fun H K cs x=>r.R H K cs x∧p x
 len:=fun h=>r.len h.1
 one:=fun h=>r.one h.1
 turn:=fun h hs=>⟨r.turn h.1 hs,h.2⟩
def tyR:Rep Ty where
 es:=3
 pos:=by decide
 R:=fun H K cs t=>∃n,tyRd H K n cs t
 len:=by rintro _ _ _ _ ⟨n,h⟩;exact h.len
 one:=by
  rintro _ _ _ _ ⟨n,h⟩
  cases n with
  | zero=>exact h.elim
  | succ n=>
    obtain ⟨v,css,rfl,h2,_⟩:=h
    intro u hu;simp at hu
    rcases hu with rfl|rfl|rfl
    · rfl
    · rfl
    · exact SlR.oneC h2
 turn:=by rintro _ _ _ _ _ _ ⟨n,h⟩ hs;exact ⟨n,h.turn fun v css hv=>hv.turn hs⟩
theorem Q9 {H:Heap}{K:Nat→Prop}{cs:List Value}{t:Ty}(h:tyR.R H K cs t):∃v,cs=[.int .i64 t.kind, .int .i64 t.r,v]∧tyR.SR H K v t.l:=by
 obtain ⟨n,h⟩:=h
 cases n with
 | zero=>exact h.elim
 | succ n=>
   obtain ⟨v,css,h1,h2,h3,h4,h5⟩:=h
   exact ⟨v,h1,css,h2,⟨h3,fun m x hx=>by obtain ⟨d,h6,h7⟩:=h5 m x hx;exact ⟨d,h6,n,h7⟩⟩,h4⟩
theorem Q1d {H:Heap}{K:Nat→Prop}{k r:Int}{v:Value}{l:List Ty}(h:tyR.SR H K v l):tyR.R H K [.int .i64 k, .int .i64 r,v] (.mk k r l):=by
 obtain ⟨css,h1,h2,h3⟩:=h
 obtain ⟨n,hn⟩:=Qap (xs:=List.range l.length) (R:=fun n m=>∀x,l[m]?=some x→∃d,css[m]?=some d∧tyRd H K n d x) (fun n m i hnm hr x hx=>by obtain ⟨d,h1,h2⟩:=hr x hx;exact ⟨d,h1,h2.more hnm⟩) (fun m hm=>by
  have hlt:=List.mem_range.1 hm
  obtain ⟨d,h4,n,h5⟩:=h2.2 m _ (List.getElem?_eq_getElem hlt)
  exact ⟨n,fun x hx=>by rw [List.getElem?_eq_getElem hlt] at hx;cases hx;exact ⟨d,h4,h5⟩⟩)
 exact ⟨n+1,v,css,rfl,h1,h2.1,h3,fun m x hx=>hn m (List.mem_range.2 (List.getElem?_eq_some_iff.1 hx).1) x hx⟩

abbrev Rep.at (r:Rep α) (c:Cx) (cs:List Value) (x:α):Prop:=r.R c.H0 c.K cs x
abbrev Rep.sl (r:Rep α) (c:Cx) (v:Value) (l:List α):Prop:=r.SR c.H0 c.K v l
abbrev Rep.ls (r:Rep α) (c:Cx) (css:List (List Value)) (l:List α):Prop:=r.LR c.H0 c.K css l
theorem Cx.Le.turn {c c':Cx}(h:c.Le c'):∀b,c.K b→b<c.H0.size→c'.K b∧c'.H0[b]?=c.H0[b]?:=fun b hb _=>h.K b hb
theorem Rep.R.up {r:Rep α}{c c':Cx}{cs:List Value}{x:α}(h:r.at c cs x) (hle:c.Le c'):r.at c' cs x:=r.turn h hle.turn
theorem Rep.SR.up {r:Rep α}{c c':Cx}{v:Value}{l:List α}(h:r.sl c v l) (hle:c.Le c'):r.sl c' v l:=Rep.SR.turn h hle.turn
theorem Rep.LR.up {r:Rep α}{c c':Cx}{v:List (List Value)}{l:List α}(h:r.ls c v l) (hle:c.Le c'):r.ls c' v l:=Rep.LR.turn h hle.turn
theorem St.freezeL {r:Rep α}{c:Cx}{w:World}{L:List Res}{T:TypeId}{es:Nat}{v:Value}{css:List (List Value)}{l:List α}(h:St c w (sl T es v css::L)) (hl:r.ls c css l) (hes:r.es=es) (hm:l.length≤140737488355328):∃c',c.Le c'∧St c' w L∧r.sl c' v l:=by
 subst hes
 obtain ⟨c',h1,h2,h3⟩:=h.freezeS
 exact ⟨c',h1,h2,css,h3,hl.up h1,hm⟩
theorem Rep.SR.ints {c:Cx}{v:Value}{l:List Int}(h:intR.sl c v l):FzS c 1 v (l.map QX):=by
 obtain ⟨css,h1,h2,h3⟩:=h
 have:css=l.map QX:=by
  apply List.ext_getElem?
  intro m
  rw [List.getElem?_map]
  rcases Nat.lt_or_ge m l.length with hm|hm
  · obtain ⟨d,h4,h5⟩:=h2.2 m _ (List.getElem?_eq_getElem hm)
    have h5:d=[_]:=h5
    rw [h4,List.getElem?_eq_getElem hm,h5];rfl
  · rw [List.getElem?_eq_none (by rw [h2.1];exact hm),List.getElem?_eq_none hm];rfl
 rw [this] at h1;exact h1
theorem FzS.ints {c:Cx}{v:Value}{l:List Int}(h:FzS c 1 v (l.map QX)) (hm:l.length≤140737488355328):intR.sl c v l:=
 ⟨_,h,⟨by simp,fun m x hx=>⟨QX x,by rw [List.getElem?_map,hx];rfl,rfl⟩⟩,hm⟩

section
variable {P:Program}{l:List GO}{Q:QT}{ρ:Env}{w:World}{c:Cx}{L:List Res}{r:Rep α}{xs:List α}{v:Value}{es:Nat}
theorem Q7L {d:Nat}{x y:Operand}{k:IntKind}{n:Int}(hx:ρ.ev x=v) (hy:ρ.ev y= .int k n) (hK:r.sl c v xs) (hes:r.es=es) (h0:0≤n) (hn:n<xs.length)
 (h:∀b o cs a,AtK c b o cs→xs[n.toNat]?=some a→r.at c cs a→Q0 P l Q (upd ρ d (.pointer (some ⟨b,o,none⟩))) w):Q0 P (⟨none, .idx d es x y⟩::l) Q ρ w:=by
 subst hes
 obtain ⟨css,h1,h2,h3⟩:=hK
 have hn':n.toNat<xs.length:=by omega
 obtain ⟨cs,h4,h5⟩:=h2.2 n.toNat _ (List.getElem?_eq_getElem hn')
 exact s_idxK (m:=n.toNat) hx (by rw [hy,Int.toNat_of_nonneg h0]) h1 h4 fun b o hb=>h b o cs _ hb (List.getElem?_eq_getElem hn') h5
theorem Q11 {d m:Nat}{x y:Operand}{k:IntKind}(hx:ρ.ev x=v) (hy:ρ.ev y= .int k (m:Int)) (hK:r.sl c v xs) (hes:r.es=es) (hn:m<xs.length)
 (h:∀b o cs a,AtK c b o cs→xs[m]?=some a→r.at c cs a→Q0 P l Q (upd ρ d (.pointer (some ⟨b,o,none⟩))) w):Q0 P (⟨none, .idx d es x y⟩::l) Q ρ w:=by
 subst hes
 obtain ⟨css,h1,h2,h3⟩:=hK
 obtain ⟨cs,h4,h5⟩:=h2.2 m _ (List.getElem?_eq_getElem hn)
 exact s_idxK (m:=m) hx hy h1 h4 fun b o hb=>h b o cs _ hb (List.getElem?_eq_getElem hn) h5
theorem Q1 {l:List α}{m:Nat}{x:α}(h:l[m]?=some x):l.drop m=x::l.drop (m+1):=by
 obtain ⟨hm,rfl⟩:=List.getElem?_eq_some_iff.1 h
 exact List.drop_eq_getElem_cons hm
theorem Qq {l:List α}{m:Nat}{x:α}(h:l[m]?=some x):l.take (m+1)=l.take m++[x]:=by
 rw [List.take_add_one,h];rfl
theorem Qt {cs:List Value}{n:Int}(h:intR.at c cs n):cs=[.int .i64 n]:=h
theorem Q8j:∀{L:List Res}{i:Nat}{a a':Res},nth L i=some a→nth (L.set i a') i=some a'
 | [],_,_,_,h=>by cases h
 | _::_,0,_,_,_=>rfl
 | _::L,i+1,_,_,h=>Q8j (L:=L) (i:=i) h
theorem s_appR1 {T T' d Ts Ts2 Ty nb i k b:Nat}{z:List Value}{x y:Operand}{ds:List Value}{css:List (List Value)}{a:α}(hel:Q2f P Ts=some (T,es,nb,z))
 (hts:∃e2,P.underlying Ts2=some (.slice e2)) (hS:St c w L) (hx:ρ.ev x=v) (hy:ρ.ev y= .slice (some ⟨b,0,none⟩) 1 1) (hi:nth L i=some (Go.Lir.sl T es v css)) (hk:nth L k=some (blk b T' ds)) (hls:r.ls c css xs) (ha:r.at c ds a) (hes:r.es=es) (hb:(xs.length+1)*nb≤140737488355328)
 (h : ∀ v' w' css', r.ls c css' (xs ++ [a]) → oneC v' = true → St c w' (L.set i (Go.Lir.sl T es v' css')) → Q0 P l Q (upd ρ d v') w') : Q0 P (⟨none, .raw ⟨some d, .call ⟨.builtin .append, #[x, y], #[Ts, Ts2]⟩, Ty, "", #[], none⟩⟩ :: l) Q ρ w :=
 Q3G hel (.inl hts) hS hx hy hi (hS.srcB hk ((r.len ha).trans hes) (r.one ha)) (by rw [hls.1];exact hb) fun v' w' hS'=>h v' w' _ (hls.push ha) (hS'.oneC (Q8j hi)) hS'
theorem s_appRK {T d Ts Ts2 Ty nb i:Nat}{z:List Value}{x y:Operand}{v2:Value}{css:List (List Value)}{ys:List α}(hel:Q2f P Ts=some (T,es,nb,z))
 (hts:∃e2,P.underlying Ts2=some (.slice e2)) (hS:St c w L) (hx:ρ.ev x=v) (hy:ρ.ev y=v2) (hi:nth L i=some (Go.Lir.sl T es v css)) (hls:r.ls c css xs) (hK:r.sl c v2 ys) (hes:r.es=es) (hb:(xs.length+ys.length)*nb≤140737488355328)
 (h : ∀ v' w' css', r.ls c css' (xs ++ ys) → oneC v' = true → St c w' (L.set i (Go.Lir.sl T es v' css')) → Q0 P l Q (upd ρ d v') w') : Q0 P (⟨none, .raw ⟨some d, .call ⟨.builtin .append, #[x, y], #[Ts, Ts2]⟩, Ty, "", #[], none⟩⟩ :: l) Q ρ w := by
 subst hes
 obtain ⟨css2,h1,h2,h3⟩:=hK
 exact Q3G hel (.inl hts) hS hx hy hi (FzS.src h1 hS h2.one) (by rw [hls.1,h2.1];exact hb) fun v' w' hS'=>h v' w' _ (hls.append h2) (hS'.oneC (Q8j hi)) hS'
theorem QcH {d:Nat}{x:Operand}{os:List Operand}{f:FuncId}{args:List Value}{S:Value→World→Prop}(hx:ρ.ev x= .func (.func f) #[] #[]) (hf:Q2z P f=true) (hxs:os.map ρ.ev=args) (hc:Rets P f args w S)
 (h:∀v w',S v w'→Q0 P l Q (upd ρ d v) w'):Q0 P (⟨none, .callv (some d) x os⟩::l) Q ρ w:=by
 unfold Q2z at hf
 rw [Option.any_eq_true] at hf
 obtain ⟨fn,h1,h2⟩:=hf
 rw [Bool.and_eq_true,Bool.not_eq_true'] at h2
 refine Qa9 (cap:=[]) hx h1 h2.1 h2.2 (by rw [hxs,List.append_nil]) hc ?_
 rintro e w' ⟨v,rfl,hv⟩
 exact h v w' hv
theorem s_retsvc {d:Nat}{x:Operand}{os:List Operand}{f:FuncId}{args cap:List Value}{S:Value→World→Prop}(hx:ρ.ev x= .func (.func f) #[] ⟨cap⟩) (hf:Q2z P f=true) (hxs:os.map ρ.ev++cap=args) (hc:Rets P f args w S)
 (h:∀v w',S v w'→Q0 P l Q (upd ρ d v) w'):Q0 P (⟨none, .callv (some d) x os⟩::l) Q ρ w:=by
 unfold Q2z at hf
 rw [Option.any_eq_true] at hf
 obtain ⟨fn,h1,h2⟩:=hf
 rw [Bool.and_eq_true,Bool.not_eq_true'] at h2
 refine Qa9 hx h1 h2.1 h2.2 hxs hc ?_
 rintro e w' ⟨v,rfl,hv⟩
 exact h v w' hv
theorem Q9u {d:Nat}{x:Operand}{b o:Nat}{cs:List Value}{u:Value}(hS:St c w L) (ha:AtK c b o cs) (hx:ρ.ev x= .pointer (some ⟨b,o,none⟩)) (hu:cs[0]?=some u):gqv P ρ w ⟨none, .load1 d x⟩ u:=Q8u (j:=0) hS ha hx hu
theorem Q38 {d n:Nat}{x:Operand}{b o:Nat}{cs us:List Value}(hS:St c w L) (ha:AtK c b o cs) (hx:ρ.ev x= .pointer (some ⟨b,o,none⟩)) (hu:cs.take n=us) (hl:us.length=n):gqv P ρ w ⟨none, .loadn d n x⟩ (.agg ⟨us⟩):=Q78 (j:=0) hS ha hx hu hl
theorem QcE {n i b T:Nat}{x y:Operand}{cs us:List Value}(hS:St c w L) (hx:ρ.ev x= .pointer (some ⟨b,0,none⟩)) (hy:ρ.ev y= .agg ⟨us⟩) (hn:us.length=n) (hi:nth L i=some (blk b T cs)) (hc:cs.length=n) (h1:∀u∈us,oneC u=true)
 (h:∀w',St c w' (L.set i (blk b T us))→Q0 P l Q ρ w'):Q0 P (⟨none, .storen n x y⟩::l) Q ρ w:=
 Q8T hS hx hy hn hi (by omega) h1 (by simp;omega) h
theorem Q4U:∀{a b:List GO}{Q:QT}{ρ:Env}{w:World},Q0 P a (QB (Q0 P b Q) Q) ρ w→Q0 P (a++b) Q ρ w
 | [],_,_,_,_,h=>h
 | ⟨none,o⟩::a,b,Q,ρ,w,h=>by
   simp only [List.cons_append,Q0] at h ⊢
   exact Q4L (fun ρ w h=>Q4U h) (fun e ρ w hn h=>by cases e<;>first|exact h|exact absurd rfl hn) h
 | ⟨some (s,b'),o⟩::a,b,Q,ρ,w,h=>by
   simp only [List.cons_append,Q0] at h ⊢
   split
   · rename_i hw
     rw [if_pos hw] at h
     exact Q4L (fun ρ w h=>Q4U h) (fun e ρ w hn h=>by cases e<;>first|exact h|exact absurd rfl hn) h
   · rename_i hw
     rw [if_neg hw] at h
     exact Q4U h
theorem s_cut {l:List GO}(n:Nat) (J:Env→World→Prop) (ha:Q0 P (l.take n) (QB J Q) ρ w) (hb:∀ρ w,J ρ w→Q0 P (l.drop n) Q ρ w):Q0 P l Q ρ w:=by
 rw [←List.take_append_drop n l]
 exact Q4U (Q5o (Q47 hb fun _ _ _ h=>h) ha)
theorem QcL {d:Nat}{x:Operand}(hx:ρ.ev x=v) (hK:r.sl c v xs) (h:Q0 P l Q (upd ρ d (.int .i64 xs.length)) w):Q0 P (⟨none, .len d x⟩::l) Q ρ w:=by
 obtain ⟨css,h1,h2,h3⟩:=hK
 exact s_lenKn hx h1 h2.1 h
theorem QcC {d:Nat}{x:Operand}{lo hi mx:Option Operand}{l' h':Nat}(hx:ρ.ev x=v) (hK:r.sl c v xs) (hes:r.es=es) (hmx:mx=none) (hh:bnd ρ xs.length hi h') (hl:bnd ρ 0 lo l') (h2:h'≤xs.length) (h3:l'≤h')
 (h:∀v',r.sl c v' ((xs.take h').drop l')→Q0 P l Q (upd ρ d v') w):Q0 P (⟨none, .sub d es x lo hi mx⟩::l) Q ρ w:=by
 subst hes
 obtain ⟨css,h1,g2,g3⟩:=hK
 exact s_subK hx h1 hmx (by rw [g2.1];exact hh) hl (by rw [g2.1];exact h2) h3 fun v' hv=>h v' ⟨_,hv,g2.sub _ _,by simp;omega⟩
end
end

section
variable {P:Program}{T e:TypeId}{α β:Type}
def Cod.rep (c:Cod P T α) (r:Rep β) (hs:c.es=r.es) (h:∀(H:Heap) cs x,c.rd H cs x→∃y,r.R H (· < H.size) cs y):Cod P T β where
 es:=r.es
 rd:=fun H cs y=>r.R H (· < H.size) cs y
 size:=by rw [←hs];exact c.size
 len:=fun _ _ _ h=>r.len h
 stay:=fun H H' cs x hx hH=>r.turn hx fun b hb hlt=>by
  have:=hH b hlt
  refine ⟨?_,this⟩
  rcases Nat.lt_or_ge b H'.size with h|h
  · exact h
  · rw [Array.getElem?_eq_none h,Array.getElem?_eq_getElem hlt] at this;cases this
 open_:=fun enc w fuel cs y hy hfit=>by
  obtain ⟨x,hx⟩:=c.open_ enc w fuel cs y hy hfit
  exact h _ _ _ hx
theorem list_rd {r:Rep α}{n:Nat}{H:Heap}{cs:List Value}{xs:List α}(hn:r.es=n)
 (h:∃v css,cs=[v]∧SlR H n v (fun _=>True) css∧css.length=xs.length∧xs.length≤140737488355328∧∀(m:Nat) (x:α),xs[m]?=some x→∃d,css[m]?=some d∧r.R H (· < H.size) d x):r.list.R H (· < H.size) cs xs:=by
 obtain ⟨v,css,rfl,h1,h2,h3,h4⟩:=h
 subst hn
 exact ⟨v,rfl,css,SlR.mono h1 fun b hb _=>hb,⟨h2,h4⟩,h3⟩
def Cod.listOf (c:Cod P e β) (r:Rep β) (hs:c.es=r.es) (h:∀(H:Heap) cs x,c.rd H cs x→r.R H (· < H.size) cs x) (ht:P.underlying T=some (.slice e)) (h1:P.cellsOf T=1) (hby:decide (0<P.bytesOf e)=true):Cod P T (List β):=
 Cod.rep (Cod.slice c ht h1 (by rw [hs];exact r.pos) hby) r.list rfl fun H cs x hx=>⟨x,list_rd hs.symm (by
  obtain ⟨v,css,g1,g2,g3,g4,g5⟩:=hx
  exact ⟨v,css,g1,g2,g3,g4,fun m y hy=>by obtain ⟨d,g6,g7⟩:=g5 m y hy;exact ⟨d,g6,h _ _ _ g7⟩⟩)⟩
structure Cod.Of (P:Program) (T:TypeId){α:Type}(r:Rep α) where
 cod:Cod P T α
 es:cod.es=r.es
 rd:∀(H:Heap) cs x,cod.rd H cs x→r.R H (· < H.size) cs x
def Cod.of (c:Cod P T α) (r:Rep β) (hs:c.es=r.es) (h:∀(H:Heap) cs x,c.rd H cs x→∃y,r.R H (· < H.size) cs y):Cod.Of P T r:=⟨Cod.rep c r hs h,rfl,fun _ _ _ h=>h⟩
def Cod.Of.list {r:Rep α}(c:Cod.Of P e r) (ht:P.underlying T=some (.slice e)) (h1:P.cellsOf T=1) (hby:decide (0<P.bytesOf e)=true):Cod.Of P T r.list:=⟨Cod.listOf c.cod r c.es c.rd ht h1 hby,rfl,fun _ _ _ h=>h⟩
def Cod.Of.int (ht:P.underlying T=some (.int .i64)) (hs:P.cellsOf T=1):Cod.Of P T intR:=Cod.of (Cod.int .i64 ht hs) intR rfl fun _ _ x h=>⟨x,h.1⟩
def Cod.Of.ty {TL t0 t1:TypeId}(h0:fieldAt P T 0=some (0,1,t0)) (h1:fieldAt P T 1=some (1,1,t1)) (h2:fieldAt P T 2=some (2,1,TL)) (hi0:P.underlying t0=some (.int .i64)) (hi1:P.underlying t1=some (.int .i64)) (hT:P.cellsOf T=3) (hTL:P.underlying TL=some (.slice T)) (hby:decide (0<P.bytesOf T)=true):Cod.Of P T tyR:=
 ⟨Cod.ty h0 h1 h2 hi0 hi1 hT hTL hby,rfl,fun _ _ _ h=>h⟩
theorem Cod.Of.top {r:Rep α}(c:Cod.Of P T r){w:World}{cs:List Value}{x:α}(h:c.cod.rd w.heap cs x):r.at (Cx.top w) cs x:=c.rd _ _ _ h
end
end Go.Lir
namespace Go.Lir
set_option linter.unusedVariables false
mutual
def Ty.size:Ty→Int→Int
 | .mk _ _ l,left=>Tys.size l (left - 1)
def Tys.size:List Ty→Int→Int
 | [],left=>left
 | x::l,left=>if 0≤left then Tys.size l (x.size left) else left
end
theorem Tys.size_neg:∀(l:List Ty){left:Int},left<0→Tys.size l left=left
 | [],_,_=>by simp [Tys.size]
 | x::l,left,h=>by rw [Tys.size,if_neg (by omega)]
mutual
def Ty.deepB:Ty→Int→Bool
 | .mk _ _ l,left=>if left<0 then false else Tys.deepB l (left - 1)
def Tys.deepB:List Ty→Int→Bool
 | [],_=>true
 | x::l,left=>x.deepB left && Tys.deepB l left
end
mutual
def Ty.depth:Ty→Int→Int
 | .mk _ _ l,most=>Tys.depth l most 0
def Tys.depth:List Ty→Int→Int→Int
 | [],_,n=>n
 | x::l,most,n=>if n≤most then (if most=0 then 1 else Tys.depth l most (if n<1+x.depth (most - 1) then 1+x.depth (most - 1) else n)) else n
end
mutual
theorem Ty.depth_iff:∀(t:Ty){most:Int},0≤most→(t.depth most≤most↔t.deepB most=true)
 | .mk _ _ l,most,h=>by
   rw [Ty.depth,Ty.deepB,if_neg (by omega),Tys.depth_iff l h]
   exact ⟨fun h=>h.2,fun h2=>⟨h,h2⟩⟩
theorem Tys.depth_iff:∀(l:List Ty){most n:Int},0≤most→(Tys.depth l most n≤most↔n≤most∧Tys.deepB l (most - 1)=true)
 | [],most,n,h=>by rw [Tys.depth,Tys.deepB];simp
 | x ::l,most,n,h=>by
   rw [Tys.depth,Tys.deepB]
   by_cases hn:n≤most
   · rw [if_pos hn]
     by_cases h0:most=0
     · rw [if_pos h0]
       have:x.deepB (most - 1)=false:=by obtain ⟨k,r,l2⟩:=x;rw [Ty.deepB,if_pos (by omega)]
       rw [this];simp;omega
     · rw [if_neg h0,Tys.depth_iff l h]
       have:=Ty.depth_iff x (most:=most - 1) (by omega)
       rw [Bool.and_eq_true,←this]
       constructor
       · rintro ⟨h1,h2⟩;split at h1<;>exact ⟨by omega,by omega,h2⟩
       · rintro ⟨h1,h2,h3⟩;refine ⟨?_,h3⟩;split<;>omega
   · rw [if_neg hn]
     exact ⟨fun h=>absurd h hn,fun h=>h.1⟩
end
mutual
def Ty.same:Ty→Ty→Bool
 | .mk k r l, .mk k2 r2 l2=>decide (k=k2) && decide (r=r2) && Tys.same l l2
def Tys.same:List Ty→List Ty→Bool
 | [],[]=>true
 | x::l,y::m=>x.same y && Tys.same l m
 | [],_::_=>false
 | _::_,[]=>false
end
mutual
theorem Ty.same_iff:∀(t u:Ty),t.same u=true↔t=u
 | .mk k r l, .mk k2 r2 l2=>by
   rw [Ty.same,Bool.and_eq_true,Bool.and_eq_true,Tys.same_iff l l2]
   simp only [decide_eq_true_eq,Ty.mk.injEq,and_assoc]
theorem Tys.same_iff:∀(l m:List Ty),Tys.same l m=true↔l=m
 | [],[]=>by simp [Tys.same]
 | x::l,y::m=>by rw [Tys.same,Bool.and_eq_true,Ty.same_iff x y,Tys.same_iff l m];simp
 | [],_::_=>by simp [Tys.same]
 | _::_,[]=>by simp [Tys.same]
end
instance:DecidableEq Ty:=fun t u=>decidable_of_iff _ (Ty.same_iff t u)
mutual
def Ty.wrong (fields:Nat):Ty→Int→Int
 | .mk k r l,regs=>
   if k<1∨4<k then 3 else if k=1∧r≠0∨k≠3∧0<l.length then 4 else if fields<l.length then 2 else if k≠1∧(r<0∨regs≤r) then 1 else Tys.wrong fields l regs
def Tys.wrong (fields:Nat):List Ty→Int→Int
 | [],_=>0
 | x::l,regs=>if x.wrong fields regs≠0 then x.wrong fields regs else Tys.wrong fields l regs
end
mutual
def Ty.ren:Ty→List Int→Option Ty
 | .mk k r l,to=>if k≠1∧(r<0∨(to.length:Int)≤r∨to.getD r.toNat 0<0) then none else
   match Tys.ren l to with
   | none=>none
   | some m=>some (.mk k (if k≠1 then to.getD r.toNat 0 else r) m)
def Tys.ren:List Ty→List Int→Option (List Ty)
 | [],_=>some []
 | x ::l,to=>match x.ren to with
   | none=>none
   | some y=>match Tys.ren l to with
     | none=>none
     | some m=>some (y::m)
end
mutual
theorem Ty.ren_ren {f g h:List Int}(hfg:∀i:Nat,i<f.length→0≤f.getD i 0∧f.getD i 0<g.length∧0≤g.getD (f.getD i 0).toNat 0∧i<h.length∧h.getD i 0=g.getD (f.getD i 0).toNat 0):
 ∀(t u:Ty),t.ren f=some u→∃v,u.ren g=some v∧t.ren h=some v
 | .mk k r l,u,ht=>by
   rw [Ty.ren] at ht
   split at ht
   · cases ht
   · rename_i hc
     cases hl:Tys.ren l f with
     | none=>rw [hl] at ht;cases ht
     | some m=>
       rw [hl] at ht
       simp only [Option.some.injEq] at ht
       obtain ⟨m2,h1,h2⟩:=Tys.ren_ren hfg l m hl
       subst ht
       by_cases hk:k=1
       · refine ⟨.mk k r m2,?_,?_⟩
         · rw [Ty.ren,if_neg (by omega),h1];simp [hk]
         · rw [Ty.ren,if_neg (by omega),h2];simp [hk]
       · have:=hfg r.toNat (by omega)
         refine ⟨.mk k (g.getD (f.getD r.toNat 0).toNat 0) m2,?_,?_⟩
         · rw [Ty.ren,if_pos hk,if_neg (by omega),h1];simp [hk]
         · rw [Ty.ren,if_neg (by omega),h2];simp only [if_pos hk,this.2.2.2.2]
theorem Tys.ren_ren {f g h:List Int}(hfg:∀i:Nat,i<f.length→0≤f.getD i 0∧f.getD i 0<g.length∧0≤g.getD (f.getD i 0).toNat 0∧i<h.length∧h.getD i 0=g.getD (f.getD i 0).toNat 0):
 ∀(t u:List Ty),Tys.ren t f=some u→∃v,Tys.ren u g=some v∧Tys.ren t h=some v
 | [],u,ht=>by rw [Tys.ren] at ht;cases ht;exact ⟨[],by rw [Tys.ren],by rw [Tys.ren]⟩
 | x ::l,u,ht=>by
   rw [Tys.ren] at ht
   cases hx:x.ren f with
   | none=>rw [hx] at ht;cases ht
   | some y=>
     rw [hx] at ht
     cases hl:Tys.ren l f with
     | none=>rw [hl] at ht;cases ht
     | some m=>
       rw [hl] at ht
       simp only [Option.some.injEq] at ht
       subst ht
       obtain ⟨y2,a1,a2⟩:=Ty.ren_ren hfg x y hx
       obtain ⟨m2,b1,b2⟩:=Tys.ren_ren hfg l m hl
       exact ⟨y2::m2,by rw [Tys.ren,a1,b1],by rw [Tys.ren,a2,b2]⟩
end
mutual
theorem Ty.ren_wrong {fields:Nat}{f:List Int}(hf:∀i:Nat,i<f.length→0≤f.getD i 0∧f.getD i 0<f.length):∀(t u:Ty),t.ren f=some u→u.wrong fields f.length=t.wrong fields f.length
 | .mk k r l,u,ht=>by
   rw [Ty.ren] at ht
   split at ht
   · cases ht
   · rename_i hc
     cases hl:Tys.ren l f with
     | none=>rw [hl] at ht;cases ht
     | some m=>
       rw [hl] at ht
       simp only [Option.some.injEq] at ht
       subst ht
       obtain ⟨h1,h2⟩:=Tys.ren_wrong (fields:=fields) hf l m hl
       by_cases hk:k=1
       · rw [Ty.wrong,Ty.wrong,h1,h2];simp [hk]
       · have:=hf r.toNat (by omega)
         rw [Ty.wrong,Ty.wrong,h1,h2]
         simp only [if_pos hk]
         rw [if_neg (show¬(k≠1∧(f.getD r.toNat 0<0∨(f.length:Int)≤f.getD r.toNat 0)) by omega),if_neg (show¬(k≠1∧(r<0∨(f.length:Int)≤r)) by omega)]
         simp [hk]
theorem Tys.ren_wrong {fields:Nat}{f:List Int}(hf:∀i:Nat,i<f.length→0≤f.getD i 0∧f.getD i 0<f.length):∀(t u:List Ty),Tys.ren t f=some u→u.length=t.length∧Tys.wrong fields u f.length=Tys.wrong fields t f.length
 | [],u,ht=>by rw [Tys.ren] at ht;cases ht;exact ⟨rfl,rfl⟩
 | x ::l,u,ht=>by
   rw [Tys.ren] at ht
   cases hx:x.ren f with
   | none=>rw [hx] at ht;cases ht
   | some y=>
     rw [hx] at ht
     cases hl:Tys.ren l f with
     | none=>rw [hl] at ht;cases ht
     | some m=>
       rw [hl] at ht
       simp only [Option.some.injEq] at ht
       subst ht
       obtain ⟨h1,h2⟩:=Tys.ren_wrong (fields:=fields) hf l m hl
       exact ⟨by simp [h1],by rw [Tys.wrong,Tys.wrong,Ty.ren_wrong hf x y hx,h2]⟩
end
mutual
theorem Ty.ren_none {fields:Nat}{f:List Int}(hf:∀i:Nat,i<f.length→0≤f.getD i 0):∀(t:Ty),t.ren f=none→t.wrong fields f.length≠0
 | .mk k r l,ht=>by
   rw [Ty.wrong]
   rw [Ty.ren] at ht
   split
   · decide
   · split
     · decide
     · split
       · decide
       · split
         · decide
         · rename_i h1 h2 h3 h4
           have hc:¬(k≠1∧(r<0∨(f.length:Int)≤r∨f.getD r.toNat 0<0)):=by
            rintro ⟨a,b⟩
            have:=hf r.toNat
            omega
           rw [if_neg hc] at ht
           cases hl:Tys.ren l f with
           | none=>exact Tys.ren_none hf l hl
           | some m=>rw [hl] at ht;cases ht
theorem Tys.ren_none {fields:Nat}{f:List Int}(hf:∀i:Nat,i<f.length→0≤f.getD i 0):∀(t:List Ty),Tys.ren t f=none→Tys.wrong fields t f.length≠0
 | [],ht=>by rw [Tys.ren] at ht;cases ht
 | x ::l,ht=>by
   rw [Tys.ren] at ht
   rw [Tys.wrong]
   split
   · rename_i h;exact h
   · rename_i h
     cases hx:x.ren f with
     | none=>exact absurd hx (fun hx=>h (Ty.ren_none hf x hx))
     | some y=>
       rw [hx] at ht
       cases hl:Tys.ren l f with
       | none=>exact Tys.ren_none hf l hl
       | some m=>rw [hl] at ht;cases ht
end
mutual
theorem Ty.ren_deep {f:List Int}:∀(t u:Ty) (left:Int),t.ren f=some u→u.deepB left=t.deepB left
 | .mk k r l,u,left,ht=>by
   rw [Ty.ren] at ht
   split at ht
   · cases ht
   · cases hl:Tys.ren l f with
     | none=>rw [hl] at ht;cases ht
     | some m=>
       rw [hl] at ht
       simp only [Option.some.injEq] at ht
       subst ht
       rw [Ty.deepB,Ty.deepB,Tys.ren_deep l m (left - 1) hl]
theorem Tys.ren_deep {f:List Int}:∀(t u:List Ty) (left:Int),Tys.ren t f=some u→Tys.deepB u left=Tys.deepB t left
 | [],u,_,ht=>by rw [Tys.ren] at ht;cases ht;rfl
 | x ::l,u,left,ht=>by
   rw [Tys.ren] at ht
   cases hx:x.ren f with
   | none=>rw [hx] at ht;cases ht
   | some y=>
     rw [hx] at ht
     cases hl:Tys.ren l f with
     | none=>rw [hl] at ht;cases ht
     | some m=>
       rw [hl] at ht
       simp only [Option.some.injEq] at ht
       subst ht
       rw [Tys.deepB,Tys.deepB,Ty.ren_deep x y left hx,Tys.ren_deep l m left hl]
end
mutual
theorem Ty.ren_id {f:List Int}(hf:∀i:Nat,i<f.length→f.getD i 0=i):∀(t u:Ty),t.ren f=some u→u=t
 | .mk k r l,u,ht=>by
   rw [Ty.ren] at ht
   split at ht
   · cases ht
   · rename_i hc
     cases hl:Tys.ren l f with
     | none=>rw [hl] at ht;cases ht
     | some m=>
       rw [hl] at ht
       simp only [Option.some.injEq] at ht
       subst ht
       rw [Tys.ren_id hf l m hl]
       by_cases hk:k=1
       · simp [hk]
       · have:=hf r.toNat (by omega)
         rw [if_pos hk,this,Int.toNat_of_nonneg (by omega)]
theorem Tys.ren_id {f:List Int}(hf:∀i:Nat,i<f.length→f.getD i 0=i):∀(t u:List Ty),Tys.ren t f=some u→u=t
 | [],u,ht=>by rw [Tys.ren] at ht;cases ht;rfl
 | x ::l,u,ht=>by
   rw [Tys.ren] at ht
   cases hx:x.ren f with
   | none=>rw [hx] at ht;cases ht
   | some y=>
     rw [hx] at ht
     cases hl:Tys.ren l f with
     | none=>rw [hl] at ht;cases ht
     | some m=>
       rw [hl] at ht
       simp only [Option.some.injEq] at ht
       subst ht
       rw [Ty.ren_id hf x y hx,Tys.ren_id hf l m hl]
end
theorem Ty.ind {p:Ty→Prop}(h:∀k r l,(∀x∈l,p x)→p (.mk k r l)):∀t,p t
 | .mk k r l=>h k r l fun x hx=>Ty.ind h x
termination_by t=>SizeOf.sizeOf t
decreasing_by
 have:=List.sizeOf_lt_of_mem hx
 simp only [Ty.mk.sizeOf_spec]
 omega
mutual
theorem Ty.size_rng:∀(t:Ty){left:Int},0≤left→-1≤t.size left∧t.size left<left
 | .mk _ _ l,left,h=>by
   rw [Ty.size]
   have:=Tys.size_rng l (left:=left - 1) (by omega)
   omega
theorem Tys.size_rng:∀(l:List Ty){left:Int}, -1≤left→-1≤Tys.size l left∧Tys.size l left≤left
 | [],left,h=>by rw [Tys.size];omega
 | x ::l,left,h=>by
   rw [Tys.size]
   split
   · rename_i h0
     have h1:=Ty.size_rng x h0
     have h2:=Tys.size_rng l (left:=x.size left) h1.1
     omega
   · omega
end
mutual
theorem Ty.size_mono:∀(t:Ty){a b:Int},a≤b→-1≤a→t.size a≤t.size b
 | .mk _ _ l,a,b,h,ha=>by
   rw [Ty.size,Ty.size]
   by_cases h0:0≤a
   · exact Tys.size_mono l (by omega) (by omega)
   · rw [Tys.size_neg l (by omega)]
     by_cases hb:0≤b
     · have:=Tys.size_rng l (left:=b - 1) (by omega);omega
     · rw [Tys.size_neg l (by omega)];omega
theorem Tys.size_mono:∀(l:List Ty){a b:Int},a≤b→-1≤a→Tys.size l a≤Tys.size l b
 | [],a,b,h,_=>by rw [Tys.size,Tys.size];exact h
 | x ::l,a,b,h,ha=>by
   by_cases h0:0≤a
   · rw [Tys.size,Tys.size,if_pos h0,if_pos (by omega)]
     exact Tys.size_mono l (Ty.size_mono x h ha) (Ty.size_rng x h0).1
   · rw [Tys.size_neg _ (by omega)]
     have:=Tys.size_rng (x::l) (left:=b) (by omega);omega
end
theorem Tys.size_len:∀(l:List Ty){left:Int},0≤Tys.size l left→-1≤left→(l.length:Int)≤left∧∀x∈l,0≤x.size left
 | [],left,h,_=>by rw [Tys.size] at h;simp;exact h
 | x ::l,left,h,hl=>by
   rw [Tys.size] at h
   split at h
   · rename_i h0
     have h1:=Ty.size_rng x h0
     have h2:=Tys.size_len l h h1.1
     have h3:=Tys.size_rng l (left:=x.size left) h1.1
     refine ⟨by simp only [List.length_cons];omega,fun y hy=>?_⟩
     rcases List.mem_cons.1 hy with rfl|hy
     · omega
     · exact Int.le_trans (h2.2 y hy) (Ty.size_mono y (by omega) h1.1)
   · omega
def Ty.fault (t:Ty) (regs:Int):Int:=if t.deepB 4=false then 19 else t.wrong 8 regs
mutual
theorem Ty.depth_rng:∀(t:Ty){most:Int},0≤most→0≤t.depth most∧t.depth most≤most+1
 | .mk _ _ l,most,h=>by
   rw [Ty.depth]
   exact Tys.depth_rng l h (by omega) (by omega)
theorem Tys.depth_rng:∀(l:List Ty){most n:Int},0≤most→0≤n→n≤most+1→0≤Tys.depth l most n∧Tys.depth l most n≤most+1
 | [],most,n,_,h1,h2=>by rw [Tys.depth];omega
 | x ::l,most,n,h,h1,h2=>by
   rw [Tys.depth]
   split
   · split
     · omega
     · have:=Ty.depth_rng x (most:=most - 1) (by omega)
       exact Tys.depth_rng l h (by split<;>omega) (by split<;>omega)
   · omega
end
inductive Ty.Short:Ty→Prop where
 | mk {k r:Int}{l:List Ty}:l.length≤100000→(∀x∈l,x.Short)→Ty.Short (.mk k r l)
theorem Ty.Short.parts {k r:Int}{l:List Ty}(h:(Ty.mk k r l).Short):l.length≤100000∧∀x∈l,x.Short:=by
 cases h with|mk h1 h2=>exact ⟨h1,h2⟩
theorem Ty.short_of_size:∀(t:Ty){n:Int},n≤100000→0≤n→0≤t.size n→t.Short:=by
 intro t
 induction t using Ty.ind with
 | h k r l ih=>
   intro n h1 h0 h
   rw [Ty.size] at h
   obtain ⟨h2,h3⟩:=Tys.size_len l h (by omega)
   refine .mk (by omega) fun x hx=>?_
   have hp:=h3 x hx
   have hl:=List.length_pos_of_mem hx
   exact ih x hx (n:=n - 1) (by omega) (by omega) hp
def Ty.great (t:Ty):Bool:=decide (t.size 2000<0)
def Tys.great (l:List Ty):Bool:=decide (200<l.length)||l.any Ty.great
theorem Ty.short_of_great {t:Ty}(h:t.great=false):t.Short:=Ty.short_of_size t (n:=2000) (by omega) (by omega) (by unfold Ty.great at h;simp at h;exact h)
theorem Tys.short_of_great {l:List Ty}(h:Tys.great l=false):l.length≤200∧∀x∈l,x.Short:=by
 unfold Tys.great at h
 rw [Bool.or_eq_false_iff] at h
 refine ⟨by have:=of_decide_eq_false h.1;omega,fun x hx=>Ty.short_of_great ?_⟩
 cases hg:x.great with
 | false=>rfl
 | true=>have:=List.any_eq_true.2 ⟨x,hx,hg⟩;rw [h.2] at this;cases this
end Go.Lir
namespace Go.Lir
structure Ins where
 op:Int
 a:Int
 b:Int
 c:Int
 k:Int
 n:Int
 regs:List Int
 args:List Int
structure To where
 block:Int
 regs:List Int
 args:List Int
structure Tail where
 op:Int
 a:Int
 yes:To
 no:To
 args:List Int
structure Block where
 regs:Int
 params:List Ty
 code:List Ins
 fin:Tail
deriving instance DecidableEq for Ins
deriving instance DecidableEq for To
deriving instance DecidableEq for Tail
deriving instance DecidableEq for Block
structure Fun where
 regs:Int
 params:List Ty
 results:List Ty
 blocks:List Block
structure Module where
 funcs:List Fun
deriving instance DecidableEq for Fun
deriving instance DecidableEq for Module

theorem Fun.eq_of {x y:Fun}(h1:x.regs=y.regs) (h2:x.params=y.params) (h3:x.results=y.results) (h4:x.blocks=y.blocks):x=y:=by
 cases x;cases y;simp_all
def Ins.Short (x:Ins):Prop:=x.regs.length≤100000∧x.args.length≤100000
def To.Short (x:To):Prop:=x.regs.length≤100000∧x.args.length≤100000
def Tail.Short (x:Tail):Prop:=x.yes.Short∧x.no.Short∧x.args.length≤100000
def Tys.Short (l:List Ty):Prop:=l.length≤100000∧∀t∈l,t.Short
def Block.Short (x:Block):Prop:=Tys.Short x.params∧x.code.length≤100000∧(∀i∈x.code,i.Short)∧x.fin.Short
def Fun.Short (x:Fun):Prop:=Tys.Short x.params∧Tys.Short x.results∧x.blocks.length≤100000∧∀b∈x.blocks,b.Short
def Module.Short (x:Module):Prop:=x.funcs.length≤100000∧∀f∈x.funcs,f.Short
theorem Tys.Short.of_great {l:List Ty}(h:Tys.great l=false):Tys.Short l:=by
 have:=Tys.short_of_great h
 exact ⟨by omega,this.2⟩
theorem Q3x {α:Type}{l:List α}{p:α→Prop}{j:Nat}{x:α}(h:∀y∈l.take j,p y) (hx:l[j]?=some x) (hp:p x):∀y∈l.take (j+1),p y:=by
 intro y hy
 rw [List.take_add_one,hx] at hy
 rcases List.mem_append.1 hy with hy|hy
 · exact h y hy
 · simp at hy;subst hy;exact hp
theorem Q5b {α:Type}{l:List α}{p:α→Prop}{j:Nat}(h:∀y∈l.take j,p y) (hj:l.length≤j):∀y∈l,p y:=by
 rw [List.take_of_length_le hj] at h;exact h
def insR:Rep Ins where
 es:=8
 pos:=by decide
 R:=fun H K cs x=>∃vr va,cs=[.int .i64 x.op, .int .i64 x.a, .int .i64 x.b, .int .i64 x.c, .int .i64 x.k, .int .i64 x.n,vr,va]∧intR.SR H K vr x.regs∧intR.SR H K va x.args
 len:=by rintro _ _ _ _ ⟨vr,va,rfl,_⟩;rfl
 one:=by
  rintro _ _ _ _ ⟨vr,va,rfl,h1,h2⟩ u hu
  simp at hu
  rcases hu with rfl|rfl|rfl|rfl|rfl|rfl|rfl|rfl<;>first|rfl|exact h1.oneC|exact h2.oneC
 turn:=by rintro _ _ _ _ _ _ ⟨vr,va,rfl,h1,h2⟩ hs;exact ⟨vr,va,rfl,h1.turn hs,h2.turn hs⟩
def toR:Rep To where
 es:=3
 pos:=by decide
 R:=fun H K cs x=>∃vr va,cs=[.int .i64 x.block,vr,va]∧intR.SR H K vr x.regs∧intR.SR H K va x.args
 len:=by rintro _ _ _ _ ⟨vr,va,rfl,_⟩;rfl
 one:=by
  rintro _ _ _ _ ⟨vr,va,rfl,h1,h2⟩ u hu
  simp at hu
  rcases hu with rfl|rfl|rfl<;>first|rfl|exact h1.oneC|exact h2.oneC
 turn:=by rintro _ _ _ _ _ _ ⟨vr,va,rfl,h1,h2⟩ hs;exact ⟨vr,va,rfl,h1.turn hs,h2.turn hs⟩
def endR:Rep Tail where
 es:=9
 pos:=by decide
 R:=fun H K cs x=>∃v1 v2 v3 v4 v5,cs=[.int .i64 x.op, .int .i64 x.a, .int .i64 x.yes.block,v1,v2, .int .i64 x.no.block,v3,v4,v5]∧intR.SR H K v1 x.yes.regs∧intR.SR H K v2 x.yes.args∧intR.SR H K v3 x.no.regs∧intR.SR H K v4 x.no.args∧intR.SR H K v5 x.args
 len:=by rintro _ _ _ _ ⟨_,_,_,_,_,rfl,_⟩;rfl
 one:=by
  rintro _ _ _ _ ⟨_,_,_,_,_,rfl,h1,h2,h3,h4,h5⟩ u hu
  simp at hu
  rcases hu with rfl|rfl|rfl|rfl|rfl|rfl|rfl|rfl|rfl<;>first|rfl|exact h1.oneC|exact h2.oneC|exact h3.oneC|exact h4.oneC|exact h5.oneC
 turn:=by rintro _ _ _ _ _ _ ⟨_,_,_,_,_,rfl,h1,h2,h3,h4,h5⟩ hs;exact ⟨_,_,_,_,_,rfl,h1.turn hs,h2.turn hs,h3.turn hs,h4.turn hs,h5.turn hs⟩
def blockR:Rep Block where
 es:=12
 pos:=by decide
 R:=fun H K cs x=>∃vp vc ce,cs= .int .i64 x.regs::vp::vc::ce∧tyR.SR H K vp x.params∧insR.SR H K vc x.code∧endR.R H K ce x.fin
 len:=by rintro _ _ _ _ ⟨_,_,ce,rfl,_,_,h⟩;have:=endR.len h;simp [this,endR]
 one:=by
  rintro _ _ _ _ ⟨_,_,ce,rfl,h1,h2,h3⟩ u hu
  simp at hu
  rcases hu with rfl|rfl|rfl|hu
  · rfl
  · exact h1.oneC
  · exact h2.oneC
  · exact endR.one h3 u hu
 turn:=by rintro _ _ _ _ _ _ ⟨_,_,_,rfl,h1,h2,h3⟩ hs;exact ⟨_,_,_,rfl,h1.turn hs,h2.turn hs,endR.turn h3 hs⟩
def funcR:Rep Fun where
 es:=4
 pos:=by decide
 R:=fun H K cs x=>∃vp vr vb,cs=[.int .i64 x.regs,vp,vr,vb]∧tyR.SR H K vp x.params∧tyR.SR H K vr x.results∧blockR.SR H K vb x.blocks
 len:=by rintro _ _ _ _ ⟨_,_,_,rfl,_⟩;rfl
 one:=by
  rintro _ _ _ _ ⟨_,_,_,rfl,h1,h2,h3⟩ u hu
  simp at hu
  rcases hu with rfl|rfl|rfl|rfl<;>first|rfl|exact h1.oneC|exact h2.oneC|exact h3.oneC
 turn:=by rintro _ _ _ _ _ _ ⟨_,_,_,rfl,h1,h2,h3⟩ hs;exact ⟨_,_,_,rfl,h1.turn hs,h2.turn hs,h3.turn hs⟩
def modR:Rep Module where
 es:=1
 pos:=by decide
 R:=fun H K cs x=>∃vf,cs=[vf]∧funcR.SR H K vf x.funcs
 len:=by rintro _ _ _ _ ⟨_,rfl,_⟩;rfl
 one:=by
  rintro _ _ _ _ ⟨_,rfl,h1⟩ u hu
  simp at hu;subst hu;exact h1.oneC
 turn:=by rintro _ _ _ _ _ _ ⟨_,rfl,h1⟩ hs;exact ⟨_,rfl,h1.turn hs⟩

theorem QG {c:Cx}{cs:List Value}{x:Ins}(h:insR.at c cs x):∃vr va,cs=[.int .i64 x.op, .int .i64 x.a, .int .i64 x.b, .int .i64 x.c, .int .i64 x.k, .int .i64 x.n,vr,va]∧intR.sl c vr x.regs∧intR.sl c va x.args:=h
theorem Q1N {c:Cx}{cs:List Value}{x:To}(h:toR.at c cs x):∃vr va,cs=[.int .i64 x.block,vr,va]∧intR.sl c vr x.regs∧intR.sl c va x.args:=h
theorem Q3u {c:Cx}{cs:List Value}{x:Tail}(h:endR.at c cs x):∃v1 v2 v3 v4 v5,cs=[.int .i64 x.op, .int .i64 x.a, .int .i64 x.yes.block,v1,v2, .int .i64 x.no.block,v3,v4,v5]∧intR.sl c v1 x.yes.regs∧intR.sl c v2 x.yes.args∧intR.sl c v3 x.no.regs∧intR.sl c v4 x.no.args∧intR.sl c v5 x.args:=h
theorem QC {c:Cx}{cs:List Value}{x:Block}(h:blockR.at c cs x):∃vp vc v1 v2 v3 v4 v5,cs=[.int .i64 x.regs,vp,vc, .int .i64 x.fin.op, .int .i64 x.fin.a, .int .i64 x.fin.yes.block,v1,v2, .int .i64 x.fin.no.block,v3,v4,v5]∧tyR.sl c vp x.params∧insR.sl c vc x.code∧intR.sl c v1 x.fin.yes.regs∧intR.sl c v2 x.fin.yes.args∧intR.sl c v3 x.fin.no.regs∧intR.sl c v4 x.fin.no.args∧intR.sl c v5 x.fin.args:=by
 obtain ⟨vp,vc,ce,rfl,h1,h2,v1,v2,v3,v4,v5,rfl,h3⟩:=h
 exact ⟨vp,vc,v1,v2,v3,v4,v5,rfl,h1,h2,h3⟩
theorem Q3b {c:Cx}{x:Block}{vp vc v1 v2 v3 v4 v5:Value}(h1:tyR.sl c vp x.params) (h2:insR.sl c vc x.code) (h3:intR.sl c v1 x.fin.yes.regs) (h4:intR.sl c v2 x.fin.yes.args) (h5:intR.sl c v3 x.fin.no.regs) (h6:intR.sl c v4 x.fin.no.args) (h7:intR.sl c v5 x.fin.args):
 blockR.at c [.int .i64 x.regs,vp,vc, .int .i64 x.fin.op, .int .i64 x.fin.a, .int .i64 x.fin.yes.block,v1,v2, .int .i64 x.fin.no.block,v3,v4,v5] x:=⟨vp,vc,_,rfl,h1,h2,v1,v2,v3,v4,v5,rfl,h3,h4,h5,h6,h7⟩
theorem Qo {c:Cx}{cs:List Value}{x:Fun}(h:funcR.at c cs x):∃vp vr vb,cs=[.int .i64 x.regs,vp,vr,vb]∧tyR.sl c vp x.params∧tyR.sl c vr x.results∧blockR.sl c vb x.blocks:=h
theorem QP {c:Cx}{cs:List Value}{x:Module}(h:modR.at c cs x):∃vf,cs=[vf]∧funcR.sl c vf x.funcs:=h

section
variable {P:Program}{T:TypeId}
theorem Cod.Of.part {α:Type}{r:Rep α}(c:Cod.Of P T r){H:Heap}{cs:List Value}{x:α}(h:c.cod.rd H cs x):r.R H (· < H.size) cs x:=c.rd _ _ _ h
def Cod.Of.to {TI TL:TypeId}(ci:Cod.Of P TI intR) (cl:Cod.Of P TL intR.list) (h0:fieldAt P T 0=some (0,1,TI)) (h1:fieldAt P T 1=some (1,1,TL)) (h2:fieldAt P T 2=some (2,1,TL)) (hT:P.cellsOf T=3):Cod.Of P T toR:=
 Cod.of (Fld.cod (Fld.more ci.cod h0 (Fld.more cl.cod h1 (Fld.more cl.cod h2 Fld.none))) h0 3 hT) toR rfl fun H cs x h=>by
  obtain ⟨hl,g0,g1,g2,_⟩:=h
  match cs,hl with
  | [a,b,c],_=>
    have e0:[a]=[_]:=ci.part g0
    obtain ⟨v1,e1,s1⟩:=cl.part g1
    obtain ⟨v2,e2,s2⟩:=cl.part g2
    replace e1:[b]=[v1]:=e1
    replace e2:[c]=[v2]:=e2
    simp only [List.cons.injEq,and_true] at e0 e1 e2
    subst e0 e1 e2
    exact ⟨⟨x.1,x.2.1,x.2.2.1⟩,b,c,rfl,s1,s2⟩
def Cod.Of.ins {TI TL TN:TypeId}(ci:Cod.Of P TI intR) (cn:Cod.Of P TN intR) (cl:Cod.Of P TL intR.list) (h0:fieldAt P T 0=some (0,1,TI)) (h1:fieldAt P T 1=some (1,1,TI)) (h2:fieldAt P T 2=some (2,1,TI)) (h3:fieldAt P T 3=some (3,1,TI)) (h4:fieldAt P T 4=some (4,1,TI)) (h5:fieldAt P T 5=some (5,1,TN)) (h6:fieldAt P T 6=some (6,1,TL)) (h7:fieldAt P T 7=some (7,1,TL)) (hT:P.cellsOf T=8):Cod.Of P T insR:=
 Cod.of (Fld.cod (Fld.more ci.cod h0 (Fld.more ci.cod h1 (Fld.more ci.cod h2 (Fld.more ci.cod h3 (Fld.more ci.cod h4 (Fld.more cn.cod h5 (Fld.more cl.cod h6 (Fld.more cl.cod h7 Fld.none)))))))) h0 8 hT) insR rfl fun H cs x h=>by
  obtain ⟨hl,g0,g1,g2,g3,g4,g5,g6,g7,_⟩:=h
  match cs,hl with
  | [a0,a1,a2,a3,a4,a5,a6,a7],_=>
    have e0:[a0]=[_]:=ci.part g0
    have e1:[a1]=[_]:=ci.part g1
    have e2:[a2]=[_]:=ci.part g2
    have e3:[a3]=[_]:=ci.part g3
    have e4:[a4]=[_]:=ci.part g4
    have e5:[a5]=[_]:=cn.part g5
    obtain ⟨v1,e6,s1⟩:=cl.part g6
    obtain ⟨v2,e7,s2⟩:=cl.part g7
    replace e6:[a6]=[v1]:=e6
    replace e7:[a7]=[v2]:=e7
    simp only [List.cons.injEq,and_true] at e0 e1 e2 e3 e4 e5 e6 e7
    subst e0 e1 e2 e3 e4 e5 e6 e7
    exact ⟨⟨x.1,x.2.1,x.2.2.1,x.2.2.2.1,x.2.2.2.2.1,x.2.2.2.2.2.1,x.2.2.2.2.2.2.1,x.2.2.2.2.2.2.2.1⟩,_,_,rfl,s1,s2⟩
def Cod.Of.endp {TI TL TT:TypeId}(ci:Cod.Of P TI intR) (cl:Cod.Of P TL intR.list) (ct:Cod.Of P TT toR) (h0:fieldAt P T 0=some (0,1,TI)) (h1:fieldAt P T 1=some (1,1,TI)) (h2:fieldAt P T 2=some (2,3,TT)) (h3:fieldAt P T 3=some (5,3,TT)) (h4:fieldAt P T 4=some (8,1,TL)) (hT:P.cellsOf T=9):Cod.Of P T endR:=
 Cod.of (Fld.cod (Fld.more ci.cod h0 (Fld.more ci.cod h1 (Fld.more ct.cod h2 (Fld.more ct.cod h3 (Fld.more cl.cod h4 Fld.none))))) h0 9 hT) endR rfl fun H cs x h=>by
  obtain ⟨hl,g0,g1,g2,g3,g4,_⟩:=h
  match cs,hl with
  | [a0,a1,a2,a3,a4,a5,a6,a7,a8],_=>
    have e0:[a0]=[_]:=ci.part g0
    have e1:[a1]=[_]:=ci.part g1
    obtain ⟨v1,v2,e2,s1,s2⟩:=ct.part g2
    obtain ⟨v3,v4,e3,s3,s4⟩:=ct.part g3
    obtain ⟨v5,e4,s5⟩:=cl.part g4
    replace e2:[a2,a3,a4]=_:=e2
    replace e3:[a5,a6,a7]=_:=e3
    replace e4:[a8]=_:=e4
    simp only [List.cons.injEq,and_true] at e0 e1 e2 e3 e4
    obtain ⟨q2,q3,q4⟩:=e2
    obtain ⟨q5,q6,q7⟩:=e3
    subst e0 e1 q2 q3 q4 q5 q6 q7 e4
    exact ⟨⟨x.1,x.2.1,x.2.2.1,x.2.2.2.1,x.2.2.2.2.1⟩,_,_,_,_,_,rfl,s1,s2,s3,s4,s5⟩
def Cod.Of.block {TI TL TC TE:TypeId}(ci:Cod.Of P TI intR) (cl:Cod.Of P TL tyR.list) (cc:Cod.Of P TC insR.list) (ce:Cod.Of P TE endR) (h0:fieldAt P T 0=some (0,1,TI)) (h1:fieldAt P T 1=some (1,1,TL)) (h2:fieldAt P T 2=some (2,1,TC)) (h3:fieldAt P T 3=some (3,9,TE)) (hT:P.cellsOf T=12):Cod.Of P T blockR:=
 Cod.of (Fld.cod (Fld.more ci.cod h0 (Fld.more cl.cod h1 (Fld.more cc.cod h2 (Fld.more ce.cod h3 Fld.none)))) h0 12 hT) blockR rfl fun H cs x h=>by
  obtain ⟨hl,g0,g1,g2,g3,_⟩:=h
  match cs,hl with
  | [a0,a1,a2,a3,a4,a5,a6,a7,a8,a9,a10,a11],_=>
    have e0:[a0]=[_]:=ci.part g0
    obtain ⟨v1,e1,s1⟩:=cl.part g1
    obtain ⟨v2,e2,s2⟩:=cc.part g2
    have s3:=ce.part g3
    replace e1:[a1]=_:=e1
    replace e2:[a2]=_:=e2
    replace s3:endR.R H (· < H.size) [a3,a4,a5,a6,a7,a8,a9,a10,a11] x.2.2.2.1:=s3
    simp only [List.cons.injEq,and_true] at e0 e1 e2
    subst e0 e1 e2
    exact ⟨⟨x.1,x.2.1,x.2.2.1,x.2.2.2.1⟩,_,_,_,rfl,s1,s2,s3⟩
def Cod.Of.func {TI TL TB:TypeId}(ci:Cod.Of P TI intR) (cl:Cod.Of P TL tyR.list) (cb:Cod.Of P TB blockR.list) (h0:fieldAt P T 0=some (0,1,TI)) (h1:fieldAt P T 1=some (1,1,TL)) (h2:fieldAt P T 2=some (2,1,TL)) (h3:fieldAt P T 3=some (3,1,TB)) (hT:P.cellsOf T=4):Cod.Of P T funcR:=
 Cod.of (Fld.cod (Fld.more ci.cod h0 (Fld.more cl.cod h1 (Fld.more cl.cod h2 (Fld.more cb.cod h3 Fld.none)))) h0 4 hT) funcR rfl fun H cs x h=>by
  obtain ⟨hl,g0,g1,g2,g3,_⟩:=h
  match cs,hl with
  | [a0,a1,a2,a3],_=>
    have e0:[a0]=[_]:=ci.part g0
    obtain ⟨v1,e1,s1⟩:=cl.part g1
    obtain ⟨v2,e2,s2⟩:=cl.part g2
    obtain ⟨v3,e3,s3⟩:=cb.part g3
    replace e1:[a1]=_:=e1
    replace e2:[a2]=_:=e2
    replace e3:[a3]=_:=e3
    simp only [List.cons.injEq,and_true] at e0 e1 e2 e3
    subst e0 e1 e2 e3
    exact ⟨⟨x.1,x.2.1,x.2.2.1,x.2.2.2.1⟩,_,_,_,rfl,s1,s2,s3⟩
def Cod.Of.mod {TF:TypeId}(cf:Cod.Of P TF funcR.list) (h0:fieldAt P T 0=some (0,1,TF)) (hT:P.cellsOf T=1):Cod.Of P T modR:=
 Cod.of (Fld.cod (Fld.more cf.cod h0 Fld.none) h0 1 hT) modR rfl fun H cs x h=>by
  obtain ⟨hl,g0,_⟩:=h
  match cs,hl with
  | [a0],_=>
    obtain ⟨v1,e1,s1⟩:=cf.part g0
    replace e1:[a0]=_:=e1
    simp only [List.cons.injEq,and_true] at e1
    subst e1
    exact ⟨⟨x.1⟩,_,rfl,s1⟩
end
end Go.Lir
namespace Go.Proofs.YteflkifmgnpbhaaGreat
open Go.Lir
def cInt:Cod.Of Tryz.prog 3 intR:=Cod.Of.int (by kernel_rfl) (by kernel_rfl)
def cLong:Cod.Of Tryz.prog 2 intR:=Cod.Of.int (by kernel_rfl) (by kernel_rfl)
def cInts:Cod.Of Tryz.prog 68 intR.list:=Cod.Of.list cInt (by kernel_rfl) (by kernel_rfl) (by kernel_rfl)
def cTy:Cod.Of Tryz.prog 115 tyR:=Cod.Of.ty (TL:=86) (t0:=3) (t1:=3) (by kernel_rfl) (by kernel_rfl) (by kernel_rfl) (by kernel_rfl) (by kernel_rfl) (by kernel_rfl) (by kernel_rfl) (by kernel_rfl)
def cTys:Cod.Of Tryz.prog 86 tyR.list:=Cod.Of.list cTy (by kernel_rfl) (by kernel_rfl) (by kernel_rfl)
def cIns:Cod.Of Tryz.prog 84 insR:=Cod.Of.ins cInt cLong cInts (by kernel_rfl) (by kernel_rfl) (by kernel_rfl) (by kernel_rfl) (by kernel_rfl) (by kernel_rfl) (by kernel_rfl) (by kernel_rfl) (by kernel_rfl)
def cInss:Cod.Of Tryz.prog 85 insR.list:=Cod.Of.list cIns (by kernel_rfl) (by kernel_rfl) (by kernel_rfl)
def cTo:Cod.Of Tryz.prog 88 toR:=Cod.Of.to cInt cInts (by kernel_rfl) (by kernel_rfl) (by kernel_rfl) (by kernel_rfl)
def cEnd:Cod.Of Tryz.prog 90 endR:=Cod.Of.endp cInt cInts cTo (by kernel_rfl) (by kernel_rfl) (by kernel_rfl) (by kernel_rfl) (by kernel_rfl) (by kernel_rfl)
def cBlock:Cod.Of Tryz.prog 92 blockR:=Cod.Of.block cInt cTys cInss cEnd (by kernel_rfl) (by kernel_rfl) (by kernel_rfl) (by kernel_rfl) (by kernel_rfl)
def cBlocks:Cod.Of Tryz.prog 93 blockR.list:=Cod.Of.list cBlock (by kernel_rfl) (by kernel_rfl) (by kernel_rfl)
def cFunc:Cod.Of Tryz.prog 95 funcR:=Cod.Of.func cInt cTys cBlocks (by kernel_rfl) (by kernel_rfl) (by kernel_rfl) (by kernel_rfl) (by kernel_rfl)
def cFuncs:Cod.Of Tryz.prog 22 funcR.list:=Cod.Of.list cFunc (by kernel_rfl) (by kernel_rfl) (by kernel_rfl)
def cMod:Cod.Of Tryz.prog 24 modR:=Cod.Of.mod cFuncs (by kernel_rfl) (by kernel_rfl)
end Go.Proofs.YteflkifmgnpbhaaGreat
namespace Go.Lir
def Q8P (b:UInt8):List Value:=[.int .u8 (b.toNat:Int)]
def u8R:Rep UInt8:=Rep.lit (fun b=> .int .u8 (b.toNat:Int)) (fun _=>rfl)
theorem u8R_out {c:Cx}{cs:List Value}{b:UInt8}(h:u8R.at c cs b):cs=[.int .u8 (b.toNat:Int)]:=h
theorem u8R_ls {c:Cx}(l:List UInt8):u8R.ls c (l.map Q8P) l:=⟨by simp,fun m x hx=>⟨Q8P x,by rw [List.getElem?_map,hx];rfl,rfl⟩⟩
theorem Rep.LR.u8 {r:Rep UInt8}{H:Heap}{K:Nat→Prop}{css:List (List Value)}{l:List UInt8}(hr:r=u8R) (h:r.LR H K css l):css=l.map Q8P:=by
 subst hr
 apply List.ext_getElem?
 intro m
 rw [List.getElem?_map]
 rcases Nat.lt_or_ge m l.length with hm|hm
 · obtain ⟨d,h4,h5⟩:=h.2 m _ (List.getElem?_eq_getElem hm)
   have h5:d=[_]:=h5
   rw [h4,List.getElem?_eq_getElem hm,h5];rfl
 · rw [List.getElem?_eq_none (by rw [h.1];exact hm),List.getElem?_eq_none hm];rfl
section
variable {P:Program}{l:List GO}{Q:QT}{ρ:Env}{w:World}{c:Cx}{L:List Res}{v:Value}
theorem Q9S (s:List UInt8):(s.map Q8P).flatten=s.map fun b=>Value.int .u8 (b.toNat:Int):=by
 induction s with
 | nil=>rfl
 | cons b s ih=>simp [Q8P,ih]
theorem s_bytes {d src dst e Ty:Nat}{x:Operand}{s:ByteArray}(hs:P.underlying src=some .string) (hd:P.underlying dst=some (.slice e)) (he:P.underlying e=some (.int .u8)) (hS:St c w L) (hx:ρ.ev x= .string s)
 (h : ∀ v' w', St c w' (sl e 1 v' (s.data.toList.map Q8P) :: L) → Q0 P l Q (upd ρ d v') w') : Q0 P (⟨none, .raw ⟨some d, .convert src dst x, Ty, "", #[], none⟩⟩ :: l) Q ρ w := by
 have hr:=run_bytes_of_string (P:=P) w src dst e s hs hd he
 have hge:=grownCap_ge w s.size 0 e
 generalize hcap:grownCap w s.size 0 e=cap at hr hge
 refine QR (v:= .slice (some ⟨w.heap.size,0,none⟩) s.size cap) (w':=w.drew.alloc (.cells (bytesRow s cap) e ((bytesRow s cap).size,(bytesRow s cap).size+1))) ?_ ?_
 · simp only [execOp,hx,Sem.run_bind,hr,Result.andThen_ok,Sem.run_pure]
 · have hsz:s.data.size=s.size:=rfl
   have hrow:(bytesRow s cap).size=cap:=by simp [bytesRow];omega
   refine h _ _ (hS.new (F':=(· =w.heap.size)) ?_ (((Fr.refl NF w).drew').then0 (Q3s w.drew _)) fun b hb=>by omega)
   refine ⟨by intro q hq;obtain ⟨b,_,rfl⟩:=List.mem_map.1 hq;rfl, .inr ⟨w.heap.size,0,cap,(bytesRow s cap).toList,?_,?_,?_,?_,?_,fun _=>Iff.rfl⟩⟩
   · have:(List.map Q8P s.data.toList).length=s.size:=by rw [List.length_map,Array.length_toList];rfl
     rw [this]
   · have:(List.map Q8P s.data.toList).length=s.size:=by rw [List.length_map,Array.length_toList];rfl
     rw [this];exact hge
   · refine ⟨((bytesRow s cap).size,(bytesRow s cap).size+1),?_,?_⟩
     · show (w.heap.push _)[w.heap.size]?=_
       rw [Array.getElem?_push_size]
     · refine ⟨fun i h1 h2=>?_,by simp⟩
       simp only [Array.length_toList] at*;omega
   · simp [hrow]
   · intro i hi
     rw [Q9S]
     simp only [List.length_map,Array.length_toList,Nat.mul_one] at hi
     rw [Nat.zero_add,Array.getElem?_toList,bytesRow_at s cap i hi,List.getElem?_map,Array.getElem?_toList,Array.getElem?_eq_getElem hi];rfl
theorem s_idxv {d T Ty e n:Nat}{x y:Operand}{k:IntKind}{m:Int}{cs:List Value}{u:Value}(hT:P.underlying T=some (.array n e)) (he:Q2v P e=true) (hsz:Q2F P e=some 1) (hx:ρ.ev x= .agg ⟨cs⟩) (hy:ρ.ev y= .int k m) (h0:0≤m) (hm:m<n) (hu:cs[m.toNat]?=some u)
 (h : Q0 P l Q (upd ρ d u) w) : Q0 P (⟨none, .raw ⟨some d, .index T x y, Ty, "", #[], none⟩⟩ :: l) Q ρ w := by
 refine QR (v:=u) (w':=w) ?_ h
 simp only [execOp,hx,hy,Instr.index,Sem.run_bind,asIntOf,Sem.run_pure,Result.andThen_ok,Q6 P T _ w hT]
 rw [if_pos ⟨h0,hm⟩]
 simp only [Sem.run_bind,QQ P e 1 w hsz,Result.andThen_ok,Nat.mul_one,Q8c P e ⟨cs⟩ _ _ w he (by simpa using hu)]
end
end Go.Lir
namespace Go.Lir


def Fins (P:Program) (f:FuncId) (args:List Value) (w:World) (S T:Value→World→Prop):Prop:=
 Calls P f ⟨args⟩ w fun e w'=>(∃v,e= .returned v∧S v w')∨(∃v,e= .panicked [{v:=v,recovered:=false}]∧T v w')

theorem Fins.mono {P:Program}{f:FuncId}{args:List Value}{w:World}{S S' T T':Value→World→Prop}(h:Fins P f args w S T) (hs:∀v w',S v w'→S' v w') (ht:∀v w',T v w'→T' v w'):Fins P f args w S' T':=
 Calls.mono h fun _ _ h=>h.elim (fun ⟨v,he,hv⟩=> .inl ⟨v,he,hs _ _ hv⟩) (fun ⟨v,he,hv⟩=> .inr ⟨v,he,ht _ _ hv⟩)
theorem Rets.ends {P:Program}{f:FuncId}{args:List Value}{w:World}{S T:Value→World→Prop}(h:Rets P f args w S):Fins P f args w S T:=
 Calls.mono h fun _ _ h=> .inl h
section
variable {P:Program}{l:List GO}{Q:QT}{ρ:Env}{w:World}
theorem QcN {d:Nat}{f:FuncId}{xs:List Operand}{args:List Value}{S T:Value→World→Prop}(hxs:xs.map ρ.ev=args) (hc:Fins P f args w S T)
 (hp:∀v w',T v w'→Q (.panic [{v:=v,recovered:=false}]) ρ w') (h:∀v w',S v w'→Q0 P l Q (upd ρ d v) w'):Q0 P (⟨none, .call (some d) f xs⟩::l) Q ρ w:=by
 subst hxs
 refine Calls.mono hc fun e w' h'=>?_
 rcases h' with ⟨v,he,hs⟩|⟨v,he,hs⟩
 · subst he;exact h v w' hs
 · subst he;exact hp v w' hs
theorem s_endsv {d:Nat}{x:Operand}{os:List Operand}{f:FuncId}{args cap:List Value}{S T:Value→World→Prop}(hx:ρ.ev x= .func (.func f) #[] ⟨cap⟩) (hf:Q2z P f=true) (hxs:os.map ρ.ev++cap=args) (hc:Fins P f args w S T)
 (hp:∀v w',T v w'→Q (.panic [{v:=v,recovered:=false}]) ρ w') (h:∀v w',S v w'→Q0 P l Q (upd ρ d v) w'):Q0 P (⟨none, .callv (some d) x os⟩::l) Q ρ w:=by
 unfold Q2z at hf
 rw [Option.any_eq_true] at hf
 obtain ⟨fn,h1,h2⟩:=hf
 rw [Bool.and_eq_true,Bool.not_eq_true'] at h2
 refine Qa9 hx h1 h2.1 h2.2 hxs hc ?_
 intro e w' h'
 rcases h' with ⟨v,rfl,hs⟩|⟨v,rfl,hs⟩
 · exact h v w' hs
 · exact hp v w' hs
theorem Qj {K:KT}{ch:List PanicEntry}(h:Q (.panic ch) ρ w):QB K Q (.panic ch) ρ w:=h
theorem Ql {id:Nat}{ch:List PanicEntry}(h:Q (.panic ch) ρ w):QH id Q (.panic ch) ρ w:=h
theorem QF {rs:List ResultVar}{R:Ending→World→Prop}{ch:List PanicEntry}(h:R (.panicked ch) w):retQ P rs R (.panic ch) ρ w:=h
theorem s_panic {d : Option Nat} {x : Operand} {Ty T : TypeId} {v : Value} (hx : ρ.ev x = .iface T v) (h : Q (.panic [{ v := .iface T v, recovered := false }]) ρ w) : Q0 P (⟨none, .raw ⟨d, .panic x, Ty, "", #[], none⟩⟩ :: l) Q ρ w := by
 refine (?_:Q3J P _ ρ w _ Q)
 unfold Q3J
 have e : (execOp ρ.ev ⟨d, .panic x, Ty, "", #[], none⟩).run P w = .halt (.panic (.iface T v)) w := by
  simp [execOp,Instr.panic,hx,goPanic,Sem.run]
 rw [e];exact h
theorem s_assert {d:Nat}{x:Operand}{Ty T xT:TypeId}{v:Value}{D:TypeDesc}(hd:P.underlying T=some D) (hi:∀m,D≠ .interface m) (hx:ρ.ev x= .iface T v)
 (h : Q0 P l Q (upd ρ d (.tuple #[v, .bool true])) w) : Q0 P (⟨none, .raw ⟨some d, .typeAssert x xT T true, Ty, "", #[], none⟩⟩ :: l) Q ρ w := by
 refine QR (v:= .tuple #[v, .bool true]) (w':=w) ?_ h
 simp only [execOp,Instr.typeAssert,hx,Sem.run_bind,Q6 P T D w hd,Result.andThen_ok]
 cases D<;>first|(exact absurd rfl (hi _))|simp
end


inductive LSp where
 | dfr (d:Option Nat) (x:Operand)
 | rcv (d:Option Nat)

inductive LD where
 | pl (c:LC)
 | seq (a b:LD)
 | sp (l1:List GO) (o:LSp) (l2:List GO)

def spOf (o:Oper):Option LSp:=match o.guard,o.op with
 | none, .defer ⟨.value x,xs,_⟩=>if xs.size=0 then some (.dfr o.dst x) else none
 | none, .call ⟨.builtin .recover,xs,_⟩=>if xs.size=0 then some (.rcv o.dst) else none
 | _,_=>none
def Qc5:Code→Bool
 | .seq a b=>Qc5 a||Qc5 b
 | .region _ ops _=>ops.toList.any fun o=>(spOf o).isSome
 | _=>false
def Q5g:List Oper→Option (List Oper×Oper×LSp×List Oper)
 | []=>none
 | o::r=>match spOf o with
   | some s=>some ([],o,s,r)
   | none=>(Q5g r).map fun p=>(o::p.1,p.2)
def lowD (P:Program) (n:Nat):Code→LD
 | .seq a b=>if Qc5 a||Qc5 b then .seq (lowD P n a) (lowD P n b) else .pl (Q2y P n (.seq a b))
 | .region id ops false=>match Q5g ops.toList with
   | some (l1,_,s,l2)=>if ops.toList.all (okG n ops) then .sp (l1.map (Q26 P ops)) s (l2.map (Q26 P ops)) else .pl .bad
   | none=> .pl (Q2y P n (.region id ops false))
 | c=> .pl (Q2y P n c)
def Qc0 (P:Program) (fn:Func):Option LD:=fn.body.map (lowD P fn.ntmps)

def LD.wpD (P:Program):LD→(List Deferred→QT)→List Deferred→Env→World→Prop
 | .pl c,Q,ds,ρ,w=>c.wp P (Q ds) ρ w
 | .seq a b,Q,ds,ρ,w=>a.wpD P (fun ds'=>QB (b.wpD P Q ds') (Q ds')) ds ρ w
 | .sp l1 (.dfr d x) l2,Q,ds,ρ,w=>Q0 P l1 (QB (fun ρ w=>∃f cap,ρ.ev x= .func (.func f) #[] cap∧Q0 P l2 (Q (⟨.fn (.func f) cap,#[]⟩::ds)) (updo ρ d undef) w) (Q ds)) ρ w
 | _,_,_,_,_=>False

theorem Q3E:∀{ops l1 l2:List Oper}{o:Oper}{s:LSp},Q5g ops=some (l1,o,s,l2)→ops=l1++o::l2∧spOf o=some s
 | [],_,_,_,_,h=>by simp [Q5g] at h
 | o'::r,l1,l2,o,s,h=>by
   rw [Q5g] at h
   cases hs:spOf o' with
   | some s'=>
     simp only [hs,Option.some.injEq,Prod.mk.injEq] at h
     obtain ⟨rfl,rfl,rfl,rfl⟩:=h
     exact ⟨rfl,hs⟩
   | none=>
     simp only [hs,Option.map_eq_some_iff] at h
     obtain ⟨⟨a,b,c,d⟩,h1,h2⟩:=h
     simp only [Prod.mk.injEq] at h2
     obtain ⟨rfl,rfl,rfl,rfl⟩:=h2
     obtain ⟨h3,h4⟩:=Q3E h1
     exact ⟨by rw [h3];rfl,h4⟩

theorem Q5f {P:Program}{o:Oper}{a:Act}{K K':Act→World→Prop}{Q Q':Exit→Act→World→Prop}(hk:∀a w,K a w→K' a w) (hp:∀ch a w,Q (.panic ch) a w→Q' (.panic ch) a w) (ho:LetsOut Q→LetsOut Q') (r:Result Next) (h:o.upon P a K Q r):o.upon P a K' Q' r:=by
 cases r with
 | ok n w=>
   cases n<;>first|exact hk _ _ h|exact h|skip
   · refine Calls.mono h fun e w h=>?_
     cases e<;>first|exact hk _ _ h|exact hp _ _ _ h|exact ho h
   · exact Rows.mono h fun v w h=>hk _ _ h
 | halt x w=>cases x<;>first|exact hp _ _ _ h|exact h

theorem Q2S {P:Program}{ops:Array Oper}{Q:Exit→Act→World→Prop}{l2:List Nat}:∀(l1:List Nat) (a:Act) (w:World),
 wpOps P ops (Exit.then (wpOps P ops Q l2) Q) l1 a w→wpOps P ops Q (l1++l2) a w
 | [],a,w,h=>h
 | i ::l1,a,w,h=>by
   simp only [List.cons_append,wpOps] at h ⊢
   cases ho:ops[i]? with
   | none=>simp only [ho] at h ⊢;exact Q2S l1 a w h
   | some o=>
     simp only [ho] at h ⊢
     split
     · rename_i hw
       rw [if_pos hw] at h
       rcases h with h|⟨h1,h2⟩
       · exact .inl (Q5f (fun a w h=>Q2S l1 a w h) (fun ch a w h=>h) (fun h=>h) _ h)
       · exact .inr ⟨h1,h2⟩
     · rename_i hw
       rw [if_neg hw] at h
       exact Q2S l1 _ w h
theorem Q2D {P:Program}{ops:Array Oper}{Q Q':Exit→Act→World→Prop}(hq:∀e a w,Q e a w→Q' e a w):∀(l:List Nat) (a:Act) (w:World),wpOps P ops Q l a w→wpOps P ops Q' l a w
 | [],a,w,h=>hq _ _ _ h
 | i ::l,a,w,h=>by
   simp only [wpOps] at h ⊢
   have ho':LetsOut Q→LetsOut Q':=fun ⟨a,w,h⟩=>⟨a,w,hq _ _ _ h⟩
   cases ho:ops[i]? with
   | none=>simp only [ho] at h ⊢;exact Q2D hq l a w h
   | some o=>
     simp only [ho] at h ⊢
     split
     · rename_i hw
       rw [if_pos hw] at h
       rcases h with h|⟨h1,h2⟩
       · exact .inl (Q5f (fun a w h=>Q2D hq l a w h) (fun ch a w h=>hq _ _ _ h) ho' _ h)
       · exact .inr ⟨h1,ho' h2⟩
     · rename_i hw
       rw [if_neg hw] at h
       exact Q2D hq l _ w h

def liftD (n:Nat) (Q:List Deferred→QT):Exit→Act→World→Prop:=fun e a w=>∃ds,Q98 n ds (Q ds) e a w

theorem Q91 {α:Type}{ops l1 l2:List α}{o:α}(h:ops=l1++o::l2):List.range ops.length=List.range l1.length++l1.length::(List.range l2.length).map (l1.length+1+·):=by
 subst h
 apply List.ext_getElem
 · simp
 · intro i h1 h2
   rw [List.getElem_range]
   rcases Nat.lt_trichotomy i l1.length with h|h|h
   · rw [List.getElem_append_left (by simpa using h),List.getElem_range]
   · subst h;rw [List.getElem_append_right (by simp)];simp
   · rw [List.getElem_append_right (by simpa using Nat.le_of_lt h)]
     simp only [List.length_range]
     rw [List.getElem_cons]
     rw [dif_neg (by omega),List.getElem_map,List.getElem_range];omega
theorem Qcw {α β:Type}{ops l1 l2:List α}{o:α}(g:α→β) (h:ops=l1++o::l2):((List.range l2.length).map (l1.length+1+·)).filterMap (fun i=>(ops[i]?).map g)=l2.map g:=by
 subst h
 rw [List.filterMap_map]
 have:∀i,((fun i=>((l1++o::l2)[i]?).map g)∘(l1.length+1+·)) i=(l2[i]?).map g:=by
  intro i
  simp only [Function.comp]
  rw [List.getElem?_append_right (by omega)]
  rw [show l1.length+1+i - l1.length=i+1 by omega,List.getElem?_cons_succ]
 rw [Q1Y (fun i _=>this i)]
 have:=Q2H g l2 []
 simpa [List.range_eq_range'] using this
theorem QaW {α β:Type}{ops l1 l2:List α}{o:α}(g:α→β) (h:ops=l1++o::l2):(List.range l1.length).filterMap (fun i=>(ops[i]?).map g)=l1.map g:=by
 subst h
 have:∀i∈List.range l1.length,((l1++o::l2)[i]?).map g=(l1[i]?).map g:=by
  intro i hi
  rw [List.getElem?_append_left (by simpa using hi)]
 rw [Q1Y this]
 have:=Q2H g l1 []
 simpa [List.range_eq_range'] using this

theorem Qc1 {P:Program}{n:Nat}:∀(c:Code) (Q:List Deferred→QT) (ds:List Deferred) (ρ:Env) (a:Act) (w:World),Rel n ρ ds a→(lowD P n c).wpD P Q ds ρ w→c.wp P (liftD n Q) a w:=by
 have hpl:∀(c:Code) (Q:List Deferred→QT) (ds:List Deferred) (ρ:Env) (a:Act) (w:World),Rel n ρ ds a→(Q2y P n c).wp P (Q ds) ρ w→c.wp P (liftD n Q) a w:=fun c Q ds ρ a w hr h=>
  wp_mono (Q3Q c _ ρ a w hr h) fun e a w h=>⟨ds,h⟩
 intro c
 induction c with
 | seq x y ihx ihy=>
   intro Q ds ρ a w hr h
   rw [lowD] at h
   split at h
   · refine wp_seq ?_
     refine wp_mono (ihx _ ds ρ a w hr h) ?_
     rintro e a w ⟨ds',ρ',hr',h'⟩
     cases e with
     | normal=>exact ihy _ ds' ρ' a w hr' h'
     | _=>exact ⟨ds',ρ',hr',h'⟩
   · exact hpl _ Q ds ρ a w hr h
 | region id ops draw=>
   intro Q ds ρ a w hr h
   cases draw with
   | true=>exact hpl _ Q ds ρ a w hr h
   | false =>
     rw [lowD] at h
     split at h
     · rename_i l1 o s l2 hs
       obtain ⟨hops,hsp⟩:=Q3E hs
       split at h
       · rename_i hall
         have hok:∀i o,ops[i]?=some o→okG n ops o=true:=fun i o hi=>List.all_eq_true.1 hall o (by rw [←Array.getElem?_toList] at hi;exact List.mem_of_getElem? hi)
         have hsz:ops.size=ops.toList.length:=by simp
         have hgm:∀(l:List Nat),(l.filterMap fun i=>(ops[i]?).map (Q26 P ops))=l.filterMap fun i=>(ops.toList[i]?).map (Q26 P ops):=fun l=>by simp
         have hlen:ops.toList.length=l1.length+1+l2.length:=by rw [hops];simp;omega
         have hrange:∀(l:List Nat),(∀i∈l,i<ops.size)→∀i∈l,∃o,ops[i]?=some o∧okG n ops o=true:=fun l hl i hi=>⟨ops[i]'(hl i hi),by simp [hl i hi],hok i _ (by simp [hl i hi])⟩
         refine wp_region ?_
         rw [hsz,Q91 hops]
         refine Q2S _ _ _ ?_
         cases s with
         | rcv d=>exact h.elim
         | dfr d x=>
           have h1:=Q4d (Q:=QB (fun ρ w=>∃f cap,ρ.ev x= .func (.func f) #[] cap∧Q0 P (l2.map (Q26 P ops)) (Q (⟨.fn (.func f) cap,#[]⟩::ds)) (updo ρ d undef) w) (Q ds)) (ds:=ds) (List.range l1.length) ρ a w hr
            (hrange _ fun i hi=>by rw [hsz,hlen];have:=List.mem_range.1 hi;omega) (by rw [hgm,QaW _ hops];exact h)
           refine Q2D ?_ _ _ _ h1
           rintro e a w ⟨ρ',hr',h'⟩
           cases e with
           | normal=>
             obtain ⟨f,cap,hf,h'⟩:=h'
             have hoi:ops[l1.length]?=some o:=by rw [←Array.getElem?_toList,hops];simp
             refine (?_:wpOps P ops _ (l1.length::_) a w)
             simp only [wpOps,hoi]
             have hg:o.guard=none∧∃ts,∃xs:Array Operand,o.op= .defer ⟨.value x,xs,ts⟩∧xs.size=0∧o.dst=d:=by
              unfold spOf at hsp
              split at hsp
              · rename_i x' xs' ts' hg ho
                split at hsp
                · rename_i hx0
                  simp only [Option.some.injEq,LSp.dfr.injEq] at hsp
                  obtain ⟨g1,g2⟩:=hsp
                  subst g2
                  exact ⟨hg,ts',xs',ho,hx0,g1⟩
                · cases hsp
              · split at hsp<;>cases hsp
              · cases hsp
             obtain ⟨hgd,ts,xs,hop,hxs,hd⟩:=hg
             have hxs':xs=#[]:=Array.eq_empty_of_size_eq_zero hxs
             subst hxs'
             rw [if_pos (by simp [Region.wanted,hgd])]
             refine .inl ?_
             unfold Oper.wp
             have e1:(execOp a.eval o).run P w= .ok (.defer ⟨.fn (.func f) cap,#[]⟩) w:=by
              simp [execOp,hop,resolve,hr'.ev,hf,Deferred.ofValue]
             rw [e1,Oper.upon_defer,hd]
             have hdn:=Q5p (hok _ o hoi)
             rw [hd] at hdn
             have hr2:Rel n (updo ρ' d undef) (⟨.fn (.func f) cap,#[]⟩::ds) ({a with defers:=⟨.fn (.func f) cap,#[]⟩::a.defers}.put d undef):=by
              have hr3:Rel n ρ' (⟨.fn (.func f) cap,#[]⟩::ds) {a with defers:=⟨.fn (.func f) cap,#[]⟩::a.defers}:=⟨hr'.1,hr'.2.1,by simp [hr'.2.2]⟩
              exact hr3.put d undef hdn
             have h2:=Q4d (Q:=Q (⟨.fn (.func f) cap,#[]⟩::ds)) (ds:=⟨.fn (.func f) cap,#[]⟩::ds) _ _ _ w hr2
              (hrange ((List.range l2.length).map (l1.length+1+·)) fun i hi=>by rw [hsz,hlen];rw [List.mem_map] at hi;obtain ⟨j,hj,rfl⟩:=hi;have:=List.mem_range.1 hj;omega) (by rw [hgm,Qcw _ hops];exact h')
             exact Q2D (fun e a w h=>⟨_,h⟩) _ _ _ h2
           | _=>exact ⟨ds,ρ',hr',h'⟩
       · exact h.elim
     · exact hpl _ Q ds ρ a w hr h
 | _=>exact hpl _

def Q32 (P:Program) (rs:List ResultVar) (ρ:Env) (R:Ending→World→Prop):List Deferred→FrameMode→World→Prop
 | [], .returning,w=>Q1k P w ρ rs [] fun v=>R (.returned v) w
 | [], .panicking chain,w=>R (.panicked chain) w
 | [], .run,_=>False
 | d ::ds,u,w=>u≠ .run∧∃f cap,d=⟨.fn (.func f) cap,#[]⟩∧Q2z P f=true∧CallsD P f cap u w fun
     | .returned _,u',w'=>Q32 P rs ρ R ds (settle u') w'
     | .panicked chain,u',w'=>Q32 P rs ρ R ds (raised u' chain) w'
     | .outgrown,_,w'=>R .outgrown w'
def retD (P:Program) (rs:List ResultVar) (R:Ending→World→Prop) (ds:List Deferred):QT
 | .normal,ρ,w| .ret,ρ,w=>Q32 P rs ρ R ds .returning w
 | .panic chain,ρ,w=>Q32 P rs ρ R ds (.panicking chain) w
 | .outgrown,_,w=>R .outgrown w
 | _,_,_=>False

theorem Q2J {P:Program}{fn:Func}{tmps:Array Value}{ρ:Env}{R:Ending→World→Prop}(ht:∀i,tmps.getD i undef=ρ i):∀(ds:List Deferred) (u:FrameMode) (w:World),
 Q32 P fn.results.toList ρ R ds u w→Leaves P fn tmps R ds u w
 | [], .returning,w,h=>by obtain ⟨v,h1,h2⟩:=Q23 ht h;exact ⟨v,h1,h2⟩
 | [], .panicking _,w,h=>h
 | [], .run,w,h=>h.elim
 | d ::ds,u,w,h=>by
   obtain ⟨hu,f,cap,rfl,hf,hc⟩:=h
   unfold Q2z at hf
   rw [Option.any_eq_true] at hf
   obtain ⟨fn',h1,h2⟩:=hf
   rw [Bool.and_eq_true,Bool.not_eq_true'] at h2
   refine leaves_cons hu (f:=f) (args:=cap) ?_ ?_
   · simp only [invoke]
     rw [Q5P _ h1 h2.1 h2.2];simp
   · refine hc.mono ?_
     intro e u' w' h
     cases e with
     | returned v=>exact Q2J ht ds _ _ h
     | panicked ch=>exact Q2J ht ds _ _ h
     | outgrown=>exact h

theorem Q8E {P:Program}{f:FuncId}{fn:Func}{args:List Value}{w:World}{R:Ending→World→Prop}{ld:LD}{rs:List ResultVar}
 (hf:P.funcs[f]?=some fn) (hl:Qc0 P fn=some ld) (hrs:fn.results.toList=rs) (hn:Nat.ble args.length fn.ntmps=true)
 (h:ld.wpD P (retD P rs R) [] (Q5a args) w):Calls P f ⟨args⟩ w R:=by
 unfold Qc0 at hl
 cases hb:fn.body with
 | none=>simp [hb] at hl
 | some c=>
   simp only [hb,Option.map_some,Option.some.injEq] at hl
   subst hl hrs
   refine calls_of_wp_defers hf hb ?_
   have hn':args.length≤fn.ntmps:=Nat.le_of_ble_eq_true hn
   refine wp_mono (Qc1 c _ [] _ _ _ (Q5K ⟨args⟩ fn.ntmps hn' []) h) ?_
   rintro e a w ⟨ds,ρ,hr,h⟩
   have hd:=hr.2.2
   cases e with
   | normal=>exact (hd ▸ Q2J hr.2.1 ds _ _ h:Leaves P fn a.tmps R a.defers .returning w)
   | ret=>exact (hd ▸ Q2J hr.2.1 ds _ _ h:Leaves P fn a.tmps R a.defers .returning w)
   | panic ch=>exact (hd ▸ Q2J hr.2.1 ds _ _ h:Leaves P fn a.tmps R a.defers (.panicking ch) w)
   | outgrown=>exact h
   | exit=>exact h
   | goto=>exact h


def recM:FrameMode→Value×FrameMode
 | .panicking ({v:=v,recovered:=false,goexit:=false}::older)=>(v, .panicking ({v:=v,recovered:=true}::older))
 | u=>(.nilIface,u)

def LD.wpR (P:Program):LD→(FrameMode→QT)→FrameMode→Env→World→Prop
 | .pl c,Q,u,ρ,w=>c.wp P (Q u) ρ w
 | .seq a b,Q,u,ρ,w=>a.wpR P (fun u'=>QB (b.wpR P Q u') (Q u')) u ρ w
 | .sp l1 (.rcv d) l2,Q,u,ρ,w=>Q0 P l1 (QB (fun ρ w=>Q0 P l2 (Q (recM u).2) (updo ρ d (recM u).1) w) (Q u)) ρ w
 | _,_,_,_,_=>False

def liftR (n:Nat) (c₀:Frame) (cs:List Frame) (Q:FrameMode→QT):Exit→Act→List Frame→World→Prop:=
 fun e a cs' w=>∃u,cs'={c₀ with mode:=u}::cs∧Q98 n [] (Q u) e a w

theorem Qag (c₀:Frame) (cs:List Frame) (u:FrameMode):(match recoverD ({c₀ with mode:=u}::cs) with
 | some (v,cs')=>(v,cs')
 | none=>(.nilIface,{c₀ with mode:=u}::cs))=((recM u).1,{c₀ with mode:=(recM u).2}::cs):=by
 unfold recoverD recM
 dsimp only
 split<;>rename_i h
 · split at h
   · rename_i hm
     simp only [Option.some.injEq,Prod.mk.injEq] at h
     obtain ⟨rfl,rfl⟩:=h
     rfl
   · cases h
 · split at h
   · cases h
   · rename_i hm
     split
     · rename_i hm'
       exact absurd rfl (hm _ _)
     · rfl

theorem Q6M {P:Program}{n:Nat}{ops:Array Oper}{Q:QT}{QS:Exit→Act→List Frame→World→Prop}{cs:List Frame}{rest:List Nat}(hn:∀a w,Q98 n [] Q .normal a w→wpOpsS P ops QS rest a cs w) (hq:∀e a w,e≠ .normal→Q98 n [] Q e a w→QS e a cs w):∀(l:List Nat) (ρ:Env) (a:Act) (w:World),Rel n ρ [] a→
 (∀i∈l,∃o,ops[i]?=some o∧okG n ops o=true)→
 Q0 P (l.filterMap fun i=>(ops[i]?).map (Q26 P ops)) Q ρ w→wpOpsS P ops QS (l++rest) a cs w:=by
 intro l
 induction l with
 | nil=>intro ρ a w hr _ h;exact hn a w ⟨ρ,hr,h⟩
 | cons i l ih=>
   intro ρ a w hr hok h
   obtain ⟨o,ho,hg⟩:=hok i (by simp)
   have hok':∀i∈l,∃o,ops[i]?=some o∧okG n ops o=true:=fun i hi=>hok i (by simp [hi])
   simp only [List.filterMap_cons,ho,Option.map_some] at h
   have h':=Q5M hr hg _ Q w h
   simp only [List.cons_append,wpOpsS,ho]
   split
   · rename_i hw
     rw [if_pos hw] at h'
     have h1:=Q90 (ds:=[]) hr (Q5p hg) (Q6L h')
     have h2:=Q5f (Q':=fun e a' w'=>QS e a' cs w') (K':=fun a' w'=>wpOpsS P ops QS (l++rest) a' cs w') (fun a w ⟨ρ,hr,h⟩=>ih ρ a w hr hok' h) (fun ch a w h=>hq _ a w (by simp) h) (fun ⟨a,w,h⟩=>⟨a,w,hq _ a w (by simp) h⟩) _ h1
     split
     · rename_i w' hrun
       rw [hrun] at h2
       exact h2.elim
     · rename_i r hrun
       exact h2
   · rename_i hw
     rw [if_neg hw] at h'
     exact ih _ _ w (hr.put _ _ (Q5p hg)) hok' h'

theorem QbZ {P :Program}{n:Nat}{c₀:Frame}{cs:List Frame}:∀(c:Code) (Q:FrameMode→QT) (u:FrameMode) (ρ:Env) (a:Act) (w:World),Rel n ρ [] a→(lowD P n c).wpR P Q u ρ w→c.wpS P (liftR n c₀ cs Q) a ({c₀ with mode:=u}::cs) w:=by
 have hpl:∀(c:Code) (Q:FrameMode→QT) (u:FrameMode) (ρ:Env) (a:Act) (w:World),Rel n ρ [] a→(Q2y P n c).wp P (Q u) ρ w→c.wpS P (liftR n c₀ cs Q) a ({c₀ with mode:=u}::cs) w:=fun c Q u ρ a w hr h=>
  wpS_of_wp (wp_mono (Q3Q c _ ρ a w hr h) fun e a w h=>⟨u,rfl,h⟩)
 intro c
 induction c with
 | seq x y ihx ihy=>
   intro Q u ρ a w hr h
   rw [lowD] at h
   split at h
   · refine wpS_seq ?_
     intro b k hb hro
     obtain ⟨e,a',cs',w',⟨u',rfl,ρ',hr',h'⟩,harr⟩:=ihx _ u ρ a w hr h b k hb hro
     refine ⟨e,a',_,w',?_,harr⟩
     cases e with
     | normal=>exact ihy _ u' ρ' a' w' hr' h'
     | _=>exact ⟨u',rfl,ρ',hr',h'⟩
   · exact hpl _ Q u ρ a w hr h
 | region id ops draw=>
   intro Q u ρ a w hr h
   cases draw with
   | true=>exact hpl _ Q u ρ a w hr h
   | false =>
     rw [lowD] at h
     split at h
     · rename_i l1 o s l2 hs
       obtain ⟨hops,hsp⟩:=Q3E hs
       split at h
       · rename_i hall
         have hok:∀i o,ops[i]?=some o→okG n ops o=true:=fun i o hi=>List.all_eq_true.1 hall o (by rw [←Array.getElem?_toList] at hi;exact List.mem_of_getElem? hi)
         have hsz:ops.size=ops.toList.length:=by simp
         have hgm:∀(l:List Nat),(l.filterMap fun i=>(ops[i]?).map (Q26 P ops))=l.filterMap fun i=>(ops.toList[i]?).map (Q26 P ops):=fun l=>by simp
         have hlen:ops.toList.length=l1.length+1+l2.length:=by rw [hops];simp;omega
         have hrange:∀(l:List Nat),(∀i∈l,i<ops.size)→∀i∈l,∃o,ops[i]?=some o∧okG n ops o=true:=fun l hl i hi=>⟨ops[i]'(hl i hi),by simp [hl i hi],hok i _ (by simp [hl i hi])⟩
         refine wpS_region ?_
         rw [hsz,Q91 hops]
         cases s with
         | dfr d x=>exact h.elim
         | rcv d=>
           refine Q6M (Q:=QB (fun ρ w=>Q0 P (l2.map (Q26 P ops)) (Q (recM u).2) (updo ρ d (recM u).1) w) (Q u)) ?_ ?_ (List.range l1.length) ρ a w hr
            (hrange _ fun i hi=>by rw [hsz,hlen];have:=List.mem_range.1 hi;omega) (by rw [hgm,QaW _ hops];exact h)
           · rintro a w ⟨ρ',hr',h'⟩
             have hoi:ops[l1.length]?=some o:=by rw [←Array.getElem?_toList,hops];simp
             have hg:o.guard=none∧∃ts,∃xs:Array Operand,o.op= .call ⟨.builtin .recover,xs,ts⟩∧xs.size=0∧o.dst=d:=by
              unfold spOf at hsp
              split at hsp
              · split at hsp<;>cases hsp
              · rename_i xs' ts' hg ho
                split at hsp
                · rename_i hx0
                  simp only [Option.some.injEq,LSp.rcv.injEq] at hsp
                  exact ⟨hg,ts',xs',ho,hx0,hsp⟩
                · cases hsp
              · cases hsp
             obtain ⟨hgd,ts,xs,hop,hxs,hd⟩:=hg
             have hxs':xs=#[]:=Array.eq_empty_of_size_eq_zero hxs
             subst hxs'
             refine (?_:wpOpsS P ops _ (l1.length::_) a _ w)
             simp only [wpOpsS,hoi]
             rw [if_pos (by simp [Region.wanted,hgd])]
             have e1:(execOp a.eval o).run P w= .ok .recover w:=by
              simp [execOp,hop,resolve,invoke,builtin]
             rw [e1]
             have hdn:=Q5p (hok _ o hoi)
             rw [hd] at hdn
             have hr2:Rel n (updo ρ' d (recM u).1) [] (a.put d (recM u).1):=hr'.put d _ hdn
             have hrec:=Qag c₀ cs u
             have key:wpOpsS P ops (liftR n c₀ cs Q) ((List.range l2.length).map (l1.length+1+·)) (a.put o.dst (recM u).1) ({c₀ with mode:=(recM u).2}::cs) w:=by
              rw [hd]
              have h2:=Q6M (Q:=Q (recM u).2) (QS:=liftR n c₀ cs Q) (cs:={c₀ with mode:=(recM u).2}::cs) (rest:=[]) (fun a w h=>⟨_,rfl,h⟩) (fun e a w _ h=>⟨_,rfl,h⟩) ((List.range l2.length).map (l1.length+1+·)) _ _ w hr2
               (hrange _ fun i hi=>by rw [hsz,hlen];rw [List.mem_map] at hi;obtain ⟨j,hj,rfl⟩:=hi;have:=List.mem_range.1 hj;omega) (by rw [hgm,Qcw _ hops];exact h')
              rwa [List.append_nil] at h2
             dsimp only
             split
             · rename_i v cs' hrd
               rw [hrd] at hrec
               simp only [Prod.mk.injEq] at hrec
               rw [hrec.1,hrec.2];exact key
             · rename_i hrd
               rw [hrd] at hrec
               simp only [Prod.mk.injEq] at hrec
               have e3:({c₀ with mode:=u}::cs:List Frame)={c₀ with mode:=(recM u).2}::cs:=hrec.2
               rw [hrec.1,e3];exact key
           · rintro e a w he ⟨ρ',hr',h'⟩
             refine ⟨u,rfl,ρ',hr',?_⟩
             cases e<;>first|exact h'|exact absurd rfl he
       · exact h.elim
     · exact hpl _ Q u ρ a w hr h
 | _=>exact hpl _

def retR (P:Program) (rs:List ResultVar) (R:Ending→FrameMode→World→Prop) (u:FrameMode):QT
 | .normal,ρ,w| .ret,ρ,w=>Q1k P w ρ rs [] fun v=>R (.returned v) u w
 | .panic chain,_,w=>R (.panicked chain) u w
 | .outgrown,_,w=>R .outgrown u w
 | _,_,_=>False

theorem Q7E {P:Program}{f:FuncId}{fn:Func}{args:List Value}{u:FrameMode}{w:World}{R:Ending→FrameMode→World→Prop}{ld:LD}{rs:List ResultVar}
 (hf:P.funcs[f]?=some fn) (hl:Qc0 P fn=some ld) (hrs:fn.results.toList=rs) (hn:Nat.ble args.length fn.ntmps=true)
 (h:ld.wpR P (retR P rs R) u (Q5a args) w):CallsD P f ⟨args⟩ u w R:=by
 unfold Qc0 at hl
 cases hb:fn.body with
 | none=>simp [hb] at hl
 | some c=>
   simp only [hb,Option.map_some,Option.some.injEq] at hl
   subst hl hrs
   refine callsD_of_wpS hf hb ?_
   intro c₀ cs hu
   have hn':args.length≤fn.ntmps:=Nat.le_of_ble_eq_true hn
   have h1:=QbZ (c₀:=c₀) (cs:=cs) c _ u _ _ w (Q5K ⟨args⟩ fn.ntmps hn' []) h
   have hc:({c₀ with mode:=u}:Frame)=c₀:=by subst hu;rfl
   rw [hc] at h1
   intro b k hb hro
   obtain ⟨e,a,cs',w',⟨u',rfl,ρ,hr,h2⟩,harr⟩:=h1 b k hb hro
   refine ⟨e,a,_,w',?_,harr⟩
   cases e with
   | normal=>obtain ⟨v,h3,h4⟩:=Q23 hr.2.1 h2;exact ⟨hr.2.2,u',rfl,v,h3,h4⟩
   | ret=>obtain ⟨v,h3,h4⟩:=Q23 hr.2.1 h2;exact ⟨hr.2.2,u',rfl,v,h3,h4⟩
   | panic ch=>exact ⟨hr.2.2,u',rfl,h2⟩
   | outgrown=>exact ⟨u',h2⟩
   | exit=>exact h2
   | goto=>exact h2

section
variable {P:Program}{ρ:Env}{w:World}{u:FrameMode}{ds:List Deferred}
theorem d_pl {c:LC}{Q:List Deferred→QT}(h:c.wp P (Q ds) ρ w):(LD.pl c).wpD P Q ds ρ w:=h
theorem d_seq {a b:LD}{Q:List Deferred→QT}(h:a.wpD P (fun ds'=>QB (b.wpD P Q ds') (Q ds')) ds ρ w):(LD.seq a b).wpD P Q ds ρ w:=h
theorem d_sp {l1 l2:List GO}{d:Option Nat}{x:Operand}{Q:List Deferred→QT}(h:Q0 P l1 (QB (fun ρ w=>∃f cap,ρ.ev x= .func (.func f) #[] cap∧Q0 P l2 (Q (⟨.fn (.func f) cap,#[]⟩::ds)) (updo ρ d undef) w) (Q ds)) ρ w):(LD.sp l1 (.dfr d x) l2).wpD P Q ds ρ w:=h
theorem r_pl {c:LC}{Q:FrameMode→QT}(h:c.wp P (Q u) ρ w):(LD.pl c).wpR P Q u ρ w:=h
theorem r_seq {a b:LD}{Q:FrameMode→QT}(h:a.wpR P (fun u'=>QB (b.wpR P Q u') (Q u')) u ρ w):(LD.seq a b).wpR P Q u ρ w:=h
theorem r_sp {l1 l2:List GO}{d:Option Nat}{Q:FrameMode→QT}(h:Q0 P l1 (QB (fun ρ w=>Q0 P l2 (Q (recM u).2) (updo ρ d (recM u).1) w) (Q u)) ρ w):(LD.sp l1 (.rcv d) l2).wpR P Q u ρ w:=h
def Defs (P:Program) (f:FuncId) (args:List Value) (u:FrameMode) (w:World) (S:FrameMode→World→Prop):Prop:=
 CallsD P f ⟨args⟩ u w fun e u' w'=>(∃v,e= .returned v)∧S u' w'
theorem Q99 {rs:List ResultVar}{R:Ending→World→Prop}{f:FuncId}{cap:List Value}{S:FrameMode→World→Prop}(hu:u≠ .run) (hf:Q2z P f=true) (hc:Defs P f cap u w S)
 (h:∀u' w',S u' w'→Q32 P rs ρ R [] (settle u') w'):Q32 P rs ρ R [⟨.fn (.func f) ⟨cap⟩,#[]⟩] u w:=by
 refine ⟨hu,f,⟨cap⟩,rfl,hf,hc.mono ?_⟩
 rintro e u' w' ⟨⟨v,rfl⟩,hs⟩
 exact h u' w' hs
theorem q_retD {rs:List ResultVar}{R:Ending→World→Prop}(h:Q32 P rs ρ R ds .returning w):retD P rs R ds .ret ρ w:=h
theorem q_panD {rs:List ResultVar}{R:Ending→World→Prop}{ch:List PanicEntry}(h:Q32 P rs ρ R ds (.panicking ch) w):retD P rs R ds (.panic ch) ρ w:=h
theorem Q7P {rs:List ResultVar}{R:Ending→World→Prop}(h:retQ P rs R .ret ρ w):Q32 P rs ρ R [] .returning w:=h
theorem q_endR {rs:List ResultVar}{R:Ending→FrameMode→World→Prop}(h:retQ P rs (fun e w=>R e u w) .normal ρ w):retR P rs R u .normal ρ w:=h
end
end Go.Lir
namespace Go.Lir
section
variable {P:Program}{l:List GO}{Q:QT}{ρ:Env}{w:World}{f:FuncId}{S T:Value→World→Prop}

theorem s_ends_2 {d:Nat}{u0 u1:Value}{x0 x1:Operand}(h0:ρ.ev x0=u0) (h1:ρ.ev x1=u1) (hc:Fins P f [u0,u1] w S T) (hp:∀v w',T v w'→Q (.panic [{v:=v,recovered:=false}]) ρ w') (h:∀v w',S v w'→Q0 P l Q (upd ρ d v) w'):Q0 P (⟨none, .call (some d) f [x0,x1]⟩::l) Q ρ w:=by
 subst h0 h1;exact QcN (by rfl) hc hp h
theorem s_ends_3 {d:Nat}{u0 u1 u2:Value}{x0 x1 x2:Operand}(h0:ρ.ev x0=u0) (h1:ρ.ev x1=u1) (h2:ρ.ev x2=u2) (hc:Fins P f [u0,u1,u2] w S T) (hp:∀v w',T v w'→Q (.panic [{v:=v,recovered:=false}]) ρ w') (h:∀v w',S v w'→Q0 P l Q (upd ρ d v) w'):Q0 P (⟨none, .call (some d) f [x0,x1,x2]⟩::l) Q ρ w:=by
 subst h0 h1 h2;exact QcN (by rfl) hc hp h
theorem s_ends_4 {d:Nat}{u0 u1 u2 u3:Value}{x0 x1 x2 x3:Operand}(h0:ρ.ev x0=u0) (h1:ρ.ev x1=u1) (h2:ρ.ev x2=u2) (h3:ρ.ev x3=u3) (hc:Fins P f [u0,u1,u2,u3] w S T) (hp:∀v w',T v w'→Q (.panic [{v:=v,recovered:=false}]) ρ w') (h:∀v w',S v w'→Q0 P l Q (upd ρ d v) w'):Q0 P (⟨none, .call (some d) f [x0,x1,x2,x3]⟩::l) Q ρ w:=by
 subst h0 h1 h2 h3;exact QcN (by rfl) hc hp h
theorem Q7U {b o T:Nat}{T':TypeId}{cs:List Value}{v:Value}(hs:Q2v P T=true) (hb:Blk w.heap b T' cs) (hv:cs[o]?=some v):Q8L P w ⟨b,o,none⟩ T v:= .inl ⟨hs,hb.cell hv⟩
theorem Q63 (k:Nat){Ty:TypeId}{ms:Array (String×TypeId)}{w0:World}(ht:P.underlying Ty=some (.interface ms)):(Op.equalIn (k+1) Ty .nilIface .nilIface).run P w0= .ok true w0:=by
 simp only [Op.equalIn,Sem.run_bind,Q6 P Ty _ w0 ht,Result.andThen_ok]
 simp [Sem.run_pure]
theorem Q7u {Ty:TypeId}{ms:Array (String×TypeId)}{w0:World}(ht:P.underlying Ty=some (.interface ms)):(Op.equal Ty .nilIface .nilIface).run P w0= .ok true w0:=Q63 9999 ht
theorem Q5l (k:Nat){Ty U:TypeId}{v:Value}{ms:Array (String×TypeId)}{w0:World}(ht:P.underlying Ty=some (.interface ms)):(Op.equalIn (k+1) Ty (.iface U v) .nilIface).run P w0= .ok false w0:=by
 simp only [Op.equalIn,Sem.run_bind,Q6 P Ty _ w0 ht,Result.andThen_ok]
 simp [Sem.run_pure]
theorem Q6z {Ty U:TypeId}{v:Value}{ms:Array (String×TypeId)}{w0:World}(ht:P.underlying Ty=some (.interface ms)):(Op.equal Ty (.iface U v) .nilIface).run P w0= .ok false w0:=Q5l 9999 ht
theorem s_inil_f {d:Nat}{Ty:TypeId}{x:Operand}{ms:Array (String×TypeId)}(ht:P.underlying Ty=some (.interface ms)) (hx:ρ.ev x= .nilIface) (h:Q0 P l Q (upd ρ d (.bool false)) w):Q0 P (⟨none, .bin d .neq Ty x (.const .nilIface)⟩::l) Q ρ w:=
 ⟨_,fun w0=>by rw [hx];simp [Env.ev,eqGuard,binOp,Q7u ht],h⟩
theorem s_inil_t {d:Nat}{Ty U:TypeId}{v:Value}{x:Operand}{ms:Array (String×TypeId)}(ht:P.underlying Ty=some (.interface ms)) (hx:ρ.ev x= .iface U v) (h:Q0 P l Q (upd ρ d (.bool true)) w):Q0 P (⟨none, .bin d .neq Ty x (.const .nilIface)⟩::l) Q ρ w:=
 ⟨_,fun w0=>by rw [hx];simp [Env.ev,eqGuard,binOp,Q6z ht],h⟩
theorem St.pick3 {c:Cx}{L L1 L2 L3:List Res}{r1 r2 r3:Res}(h:St c w L) (p1:Pick L r1 L1) (p2:Pick L1 r2 L2) (p3:Pick L2 r3 L3):St c w (r1::r2::r3::L3):=
 h.perm (p1.perm.trans (List.Perm.cons _ (p2.perm.trans (List.Perm.cons _ p3.perm))))
end
end Go.Lir
namespace Go.Lir
set_option linter.unusedVariables false
structure Bx (K:Prop):Prop where
 o:K
section
variable {K G:Prop}
theorem zn (k:K) (h:Bx K→G:=by
 intro K9
 refine s_nil ?_
 (repeat (first|refine Q7J ?_|refine Q6d ?_))
 exact K9.o):G:=h ⟨k⟩
theorem zcn (k:K) (h:Bx K→G:=by
 intro K9
 refine s_cnil ?_
 (repeat (first|refine Q7J ?_|refine Q6d ?_))
 exact K9.o):G:=h ⟨k⟩
theorem zsk (k:K) (h:Bx K→G:=by
 intro K9
 refine s_skip ?_
 (repeat (first|refine Q7J ?_|refine Q6d ?_))
 exact K9.o):G:=h ⟨k⟩
theorem zex (k:K) (h:Bx K→G:=by
 intro K9
 refine s_exit ?_
 (repeat (first|refine s_exitQ ?_|refine s_exitT ?_|refine s_exitB rfl ?_|refine Q7J ?_|refine Q6d ?_))
 exact K9.o):G:=h ⟨k⟩
theorem zr (k:K) (h:Bx K→G:=by
 intro K9
 refine s_ret ?_
 (repeat (first|refine s_retT ?_|refine s_retB ?_))
 exact K9.o):G:=h ⟨k⟩
theorem zy {A:Prop}(k:G) (h:A:=by
 repeat (first
  | exact fun _ h=>(List.not_mem_nil h).elim
  | refine List.forall_mem_cons.2 ⟨by first|exact Q16 hS rfl (NthP.nth (by repeat constructor)) rfl|exact Q28 hS rfl (NthP.nth (by repeat constructor)) rfl rfl|exact Q9u hS (by assumption) rfl rfl|exact Q38 hS (by assumption) rfl rfl rfl|exact Q8u hS (by assumption) rfl rfl|exact Q78 hS (by assumption) rfl rfl rfl|exact gq_skip rfl rfl|exact Q5F rfl (Q16 hS rfl (NthP.nth (by repeat constructor)) rfl)|exact Q5F rfl (Q28 hS rfl (NthP.nth (by repeat constructor)) rfl rfl)|exact Q5F rfl (Q9u hS (by assumption) rfl rfl)|exact Q5F rfl (Q38 hS (by assumption) rfl rfl rfl)|exact Q5F rfl (Q8u hS (by assumption) rfl rfl)|exact Q5F rfl (Q78 hS (by assumption) rfl rfl rfl),?_⟩)):A∧G:=⟨h,k⟩
end
section
variable {P:Program}{l:List GO}{Q:QT}{ρ:Env}{w:World}{c:Cx}{L:List Res}{i:Nat}{T es:Nat}{v:Value}{css:List (List Value)}
theorem zt {K:KT}(h:K ρ w):Q0 P [] (QB K Q) ρ w:=s_nil (Q7J h)
theorem St.ns {L':List Res}(h:St c w L) (e:L=L':=by (conv=>lhs;simp only [List.set_cons_zero,List.set_cons_succ]);first|done|exact rfl):St c w L':=e ▸ h
theorem zgn {s:Nat}{b:Bool}{o:LO}{v:Value}(h:Q0 P l Q (updo ρ o.dst undef) w) (hg:ρ s=v:=by exact rfl) (hw:Q7s v b=false:=by exact rfl):Q0 P (⟨some (s,b),o⟩::l) Q ρ w:=s_gn hg hw h
theorem zgy {s:Nat}{b:Bool}{o:LO}(h:Q0 P (⟨none,o⟩::l) Q ρ w) (hg:ρ s= .bool b:=by exact rfl):Q0 P (⟨some (s,b),o⟩::l) Q ρ w:=s_gy hg h
theorem zct {c:Operand}{a b:LC}(h:a.wp P Q ρ w) (hc:ρ.ev c= .bool true:=by exact rfl):(LC.cond c a b).wp P Q ρ w:=s_cond_t hc h
theorem zcf {c:Operand}{a b:LC}(h:b.wp P Q ρ w) (hc:ρ.ev c= .bool false:=by exact rfl):(LC.cond c a b).wp P Q ρ w:=s_cond_f hc h
theorem zf0 {d:Nat}{x:Operand}{off b:Nat}(h:Q0 P l Q (upd ρ d (.pointer (some ⟨b,off,none⟩))) w) (hx:ρ.ev x= .pointer (some ⟨b,0,none⟩):=by exact rfl):Q0 P (⟨none, .fld d x off⟩::l) Q ρ w:=s_fld0 hx h
theorem zfd {d:Nat}{x:Operand}{off b o:Nat}(h:Q0 P l Q (upd ρ d (.pointer (some ⟨b,o+off,none⟩))) w) (hx:ρ.ev x= .pointer (some ⟨b,o,none⟩):=by exact rfl):Q0 P (⟨none, .fld d x off⟩::l) Q ρ w:=s_fld hx h
theorem znc {d:Nat}{x:Operand}{a:Addr}(h:Q0 P l Q (upd ρ d (.pointer (some a))) w) (hx:ρ.ev x= .pointer (some a):=by exact rfl):Q0 P (⟨none, .nilc d x⟩::l) Q ρ w:=s_nilc hx h
theorem znt {d:Nat}{x:Operand}{b:Bool}(h:Q0 P l Q (upd ρ d (.bool (!b))) w) (hx:ρ.ev x= .bool b:=by exact rfl):Q0 P (⟨none, .un d .not x⟩::l) Q ρ w:=s_not hx h
theorem zxt {d:Nat}{x:Operand}{i:Nat}{vs:List Value}{v:Value}(h:Q0 P l Q (upd ρ d v) w) (hx:ρ.ev x= .tuple ⟨vs⟩:=by exact rfl) (hv:vs[i]?=some v:=by exact rfl):Q0 P (⟨none, .ext d x i⟩::l) Q ρ w:=s_ext hx hv h
theorem zm {d:Nat}{x:Operand}{v:Value}(h:Q0 P l Q (upd ρ d v) w) (hx:ρ.ev x=v:=by (conv=>lhs;whnf);first|done|exact rfl):Q0 P (⟨none, .mov d x⟩::l) Q ρ w:=s_mov hx h
theorem zpt {d:Nat}{c x y:Operand}{v:Value}(h:Q0 P l Q (upd ρ d v) w) (hc:ρ.ev c= .bool true:=by exact rfl) (hx:ρ.ev x=v:=by (conv=>lhs;whnf);first|done|exact rfl):Q0 P (⟨none, .pick d c x y⟩::l) Q ρ w:=s_pick_t hc hx h
theorem zpf {d:Nat}{c x y:Operand}{v:Value}(h:Q0 P l Q (upd ρ d v) w) (hc:ρ.ev c= .bool false:=by exact rfl) (hx:ρ.ev y=v:=by (conv=>lhs;whnf);first|done|exact rfl):Q0 P (⟨none, .pick d c x y⟩::l) Q ρ w:=s_pick_f hc hx h
theorem zki {d:Nat}{T:TypeId}{x:Operand}{v:Value}(h:Q0 P l Q (upd ρ d (.iface T v)) w) (hx:ρ.ev x=v:=by (conv=>lhs;whnf);first|done|exact rfl):Q0 P (⟨none, .mki d T x⟩::l) Q ρ w:=s_mki hx h
theorem zl {d:Nat}{x:Operand}{b o:Nat}{cs:List Value}{u:Value}(hS:St c w L) (h:Q0 P l Q (upd ρ d u) w) (hx:ρ.ev x= .pointer (some ⟨b,o,none⟩):=by exact rfl) (hi:nth L i=some (blk b T cs):=by exact NthP.nth (by repeat constructor)) (hu:cs[o]?=some u:=by exact rfl):Q0 P (⟨none, .load1 d x⟩::l) Q ρ w:=Q5i hS hx hi hu h
theorem zlk {d:Nat}{x:Operand}{b o:Nat}{cs:List Value}{u:Value}(hS:St c w L) (h:Q0 P l Q (upd ρ d u) w) (ha:AtK c b o cs:=by assumption) (hx:ρ.ev x= .pointer (some ⟨b,o,none⟩):=by exact rfl) (hu:cs[0]?=some u:=by exact rfl):Q0 P (⟨none, .load1 d x⟩::l) Q ρ w:=s_loadK hS ha hx hu h
theorem zlj {d:Nat}{x:Operand}{b o j:Nat}{cs:List Value}{u:Value}(hS:St c w L) (h:Q0 P l Q (upd ρ d u) w) (ha:AtK c b o cs:=by assumption) (hx:ρ.ev x= .pointer (some ⟨b,o+j,none⟩):=by exact rfl) (hu:cs[j]?=some u:=by exact rfl):Q0 P (⟨none, .load1 d x⟩::l) Q ρ w:=Q88 hS ha hx hu h
theorem zv {d n:Nat}{x:Operand}{b o:Nat}{cs us:List Value}(hS:St c w L) (h:Q0 P l Q (upd ρ d (.agg ⟨us⟩)) w) (hx:ρ.ev x= .pointer (some ⟨b,o,none⟩):=by exact rfl) (hi:nth L i=some (blk b T cs):=by exact NthP.nth (by repeat constructor)) (hu:(cs.drop o).take n=us:=by exact rfl) (hl:us.length=n:=by exact rfl):Q0 P (⟨none, .loadn d n x⟩::l) Q ρ w:=QaX hS hx hi hu hl h
theorem zvk {d n:Nat}{x:Operand}{b o:Nat}{cs:List Value}(hS:St c w L) (h:Q0 P l Q (upd ρ d (.agg ⟨cs⟩)) w) (ha:AtK c b o cs:=by assumption) (hx:ρ.ev x= .pointer (some ⟨b,o,none⟩):=by exact rfl) (hl:cs.length=n:=by exact rfl):Q0 P (⟨none, .loadn d n x⟩::l) Q ρ w:=s_loadnK hS ha hx hl h
theorem zli {d n:Nat}{x:Operand}{m b o:Nat}{xs:List Int}(hS:St c w L) (h:Q0 P l Q (upd ρ d (.int .i64 (xs.getD m 0))) w) (he:ElP v n 1 m b o:=by assumption) (hx:ρ.ev x= .pointer (some ⟨b,o,none⟩):=by exact rfl) (hi:nth L i=some (sl T 1 v (xs.map QX)):=by exact NthP.nth (by repeat constructor)) (hn:(xs.map QX).length=n:=by exact rfl) (hm:m<xs.length:=by first|omega|(simp;omega)):Q0 P (⟨none, .load1 d x⟩::l) Q ρ w:=s_loadI hS he hx hi hn hm h
theorem zlb {d n:Nat}{x:Operand}{m b o:Nat}{xs:List Bool}(hS:St c w L) (h:Q0 P l Q (upd ρ d (.bool (xs.getD m false))) w) (he:ElP v n 1 m b o:=by assumption) (hx:ρ.ev x= .pointer (some ⟨b,o,none⟩):=by exact rfl) (hi:nth L i=some (sl T 1 v (xs.map Qi)):=by exact NthP.nth (by repeat constructor)) (hn:(xs.map Qi).length=n:=by exact rfl) (hm:m<xs.length:=by first|omega|(simp;omega)):Q0 P (⟨none, .load1 d x⟩::l) Q ρ w:=s_loadBo hS he hx hi hn hm h
theorem zLe {d n:Nat}{x:Operand}(hS:St c w L) (h:Q0 P l Q (upd ρ d (.int .i64 n)) w) (hx:ρ.ev x=v:=by (conv=>lhs;whnf);first|done|exact rfl) (hi:nth L i=some (sl T es v css):=by exact NthP.nth (by repeat constructor)) (hn:css.length=n:=by first|exact List.length_map _|rfl):Q0 P (⟨none, .len d x⟩::l) Q ρ w:=QZ hS hx hi hn h
theorem zad {d:Nat}{T:TypeId}{x y:Operand}{a b:Int}(h:Q0 P l Q (upd ρ d (.int .i64 (a+b))) w) (hx:ρ.ev x= .int .i64 a:=by exact rfl) (hy:ρ.ev y= .int .i64 b:=by exact rfl) (h1: -9223372036854775808≤a+b:=by omega) (h2:a+b≤9223372036854775807:=by omega):Q0 P (⟨none, .bin d .add T x y⟩::l) Q ρ w:=s_add hx hy h1 h2 h
theorem zsu {d:Nat}{T:TypeId}{x y:Operand}{a b:Int}(h:Q0 P l Q (upd ρ d (.int .i64 (a - b))) w) (hx:ρ.ev x= .int .i64 a:=by exact rfl) (hy:ρ.ev y= .int .i64 b:=by exact rfl) (h1: -9223372036854775808≤a - b:=by omega) (h2:a - b≤9223372036854775807:=by omega):Q0 P (⟨none, .bin d .sub T x y⟩::l) Q ρ w:=s_subi hx hy h1 h2 h
theorem zmu {d:Nat}{T:TypeId}{x y:Operand}{a b:Int}(h:Q0 P l Q (upd ρ d (.int .i64 (a*b))) w) (hx:ρ.ev x= .int .i64 a:=by exact rfl) (hy:ρ.ev y= .int .i64 b:=by exact rfl) (h1: -9223372036854775808≤a*b:=by omega) (h2:a*b≤9223372036854775807:=by omega):Q0 P (⟨none, .bin d .mul T x y⟩::l) Q ρ w:=s_mul hx hy h1 h2 h
theorem Q1f {d:Nat}{T:TypeId}{x y:Operand}{k:IntKind}{a b:Int}(h:Q0 P l Q (upd ρ d (.bool true)) w) (hx:ρ.ev x= .int k a:=by exact rfl) (hy:ρ.ev y= .int k b:=by exact rfl) (hp:a<b:=by omega):Q0 P (⟨none, .bin d .lss T x y⟩::l) Q ρ w:=s_lss_t hx hy hp h
theorem Q1g {d:Nat}{T:TypeId}{x y:Operand}{k:IntKind}{a b:Int}(h:Q0 P l Q (upd ρ d (.bool false)) w) (hx:ρ.ev x= .int k a:=by exact rfl) (hy:ρ.ev y= .int k b:=by exact rfl) (hp:¬(a<b):=by omega):Q0 P (⟨none, .bin d .lss T x y⟩::l) Q ρ w:=s_lss_f hx hy hp h
theorem Qp {d:Nat}{T:TypeId}{x y:Operand}{k:IntKind}{a b:Int}(h:Q0 P l Q (upd ρ d (.bool true)) w) (hx:ρ.ev x= .int k a:=by exact rfl) (hy:ρ.ev y= .int k b:=by exact rfl) (hp:a=b:=by omega):Q0 P (⟨none, .bin d .eql T x y⟩::l) Q ρ w:=s_eql_t hx hy hp h
theorem Qu {d:Nat}{T:TypeId}{x y:Operand}{k:IntKind}{a b:Int}(h:Q0 P l Q (upd ρ d (.bool false)) w) (hx:ρ.ev x= .int k a:=by exact rfl) (hy:ρ.ev y= .int k b:=by exact rfl) (hp:¬(a=b):=by omega):Q0 P (⟨none, .bin d .eql T x y⟩::l) Q ρ w:=s_eql_f hx hy hp h
theorem Qy {d:Nat}{T:TypeId}{x y:Operand}{k:IntKind}{a b:Int}(h:Q0 P l Q (upd ρ d (.bool true)) w) (hx:ρ.ev x= .int k a:=by exact rfl) (hy:ρ.ev y= .int k b:=by exact rfl) (hp:a≠b:=by omega):Q0 P (⟨none, .bin d .neq T x y⟩::l) Q ρ w:=s_neq_t hx hy hp h
theorem Qz {d:Nat}{T:TypeId}{x y:Operand}{k:IntKind}{a b:Int}(h:Q0 P l Q (upd ρ d (.bool false)) w) (hx:ρ.ev x= .int k a:=by exact rfl) (hy:ρ.ev y= .int k b:=by exact rfl) (hp:¬(a≠b):=by omega):Q0 P (⟨none, .bin d .neq T x y⟩::l) Q ρ w:=s_neq_f hx hy hp h
theorem QL {d:Nat}{T:TypeId}{x y:Operand}{k:IntKind}{a b:Int}(h:Q0 P l Q (upd ρ d (.bool true)) w) (hx:ρ.ev x= .int k a:=by exact rfl) (hy:ρ.ev y= .int k b:=by exact rfl) (hp:b<a:=by omega):Q0 P (⟨none, .bin d .gtr T x y⟩::l) Q ρ w:=s_gtr_t hx hy hp h
theorem QO {d:Nat}{T:TypeId}{x y:Operand}{k:IntKind}{a b:Int}(h:Q0 P l Q (upd ρ d (.bool false)) w) (hx:ρ.ev x= .int k a:=by exact rfl) (hy:ρ.ev y= .int k b:=by exact rfl) (hp:¬(b<a):=by omega):Q0 P (⟨none, .bin d .gtr T x y⟩::l) Q ρ w:=s_gtr_f hx hy hp h
theorem Q2b {d:Nat}{T:TypeId}{x y:Operand}{k:IntKind}{a b:Int}(h:Q0 P l Q (upd ρ d (.bool true)) w) (hx:ρ.ev x= .int k a:=by exact rfl) (hy:ρ.ev y= .int k b:=by exact rfl) (hp:b≤a:=by omega):Q0 P (⟨none, .bin d .geq T x y⟩::l) Q ρ w:=s_geq_t hx hy hp h
theorem Q2c {d:Nat}{T:TypeId}{x y:Operand}{k:IntKind}{a b:Int}(h:Q0 P l Q (upd ρ d (.bool false)) w) (hx:ρ.ev x= .int k a:=by exact rfl) (hy:ρ.ev y= .int k b:=by exact rfl) (hp:¬(b≤a):=by omega):Q0 P (⟨none, .bin d .geq T x y⟩::l) Q ρ w:=s_geq_f hx hy hp h
theorem zleqt {d:Nat}{T:TypeId}{x y:Operand}{k:IntKind}{a b:Int}(h:Q0 P l Q (upd ρ d (.bool true)) w) (hx:ρ.ev x= .int k a:=by exact rfl) (hy:ρ.ev y= .int k b:=by exact rfl) (hp:a≤b:=by omega):Q0 P (⟨none, .bin d .leq T x y⟩::l) Q ρ w:=s_leq_t hx hy hp h
theorem zleqf {d:Nat}{T:TypeId}{x y:Operand}{k:IntKind}{a b:Int}(h:Q0 P l Q (upd ρ d (.bool false)) w) (hx:ρ.ev x= .int k a:=by exact rfl) (hy:ρ.ev y= .int k b:=by exact rfl) (hp:¬(a≤b):=by omega):Q0 P (⟨none, .bin d .leq T x y⟩::l) Q ρ w:=s_leq_f hx hy hp h
theorem zst {x y:Operand}{b o:Nat}{cs:List Value}{u:Value}(hS:St c w L) (h:∀w',St c w' (L.set i (blk b T (cs.set o u)))→Q0 P l Q ρ w') (hx:ρ.ev x= .pointer (some ⟨b,o,none⟩):=by exact rfl) (hy:ρ.ev y=u:=by (conv=>lhs;whnf);first|done|exact rfl) (hi:nth L i=some (blk b T cs):=by exact NthP.nth (by repeat constructor)) (ho:o<cs.length:=by simp) (h1:oneC u=true:=by first|rfl|assumption|exact hS.oneC (NthP.nth (by repeat constructor))|exact SlR.oneC (by assumption)):Q0 P (⟨none, .store1 x y⟩::l) Q ρ w:=s_storeB hS hx hy hi ho h1 h
theorem zsi {n:Nat}{x y:Operand}{m b o:Nat}{xs:List Int}{u:Int}(hS:St c w L) (h:∀w',St c w' (L.set i (sl T 1 v ((xs.set m u).map QX)))→Q0 P l Q ρ w') (he:ElP v n 1 m b o:=by assumption) (hx:ρ.ev x= .pointer (some ⟨b,o,none⟩):=by exact rfl) (hy:ρ.ev y= .int .i64 u:=by (conv=>lhs;whnf);first|done|exact rfl) (hi:nth L i=some (sl T 1 v (xs.map QX)):=by exact NthP.nth (by repeat constructor)) (hn:(xs.map QX).length=n:=by exact rfl) (hm:m<xs.length:=by first|omega|(simp;omega)):Q0 P (⟨none, .store1 x y⟩::l) Q ρ w:=s_storeI hS he hx hy hi hn hm h
theorem zsb {n:Nat}{x y:Operand}{m b o:Nat}{xs:List Bool}{u:Bool}(hS:St c w L) (h:∀w',St c w' (L.set i (sl T 1 v ((xs.set m u).map Qi)))→Q0 P l Q ρ w') (he:ElP v n 1 m b o:=by assumption) (hx:ρ.ev x= .pointer (some ⟨b,o,none⟩):=by exact rfl) (hy:ρ.ev y= .bool u:=by (conv=>lhs;whnf);first|done|exact rfl) (hi:nth L i=some (sl T 1 v (xs.map Qi)):=by exact NthP.nth (by repeat constructor)) (hn:(xs.map Qi).length=n:=by exact rfl) (hm:m<xs.length:=by first|omega|(simp;omega)):Q0 P (⟨none, .store1 x y⟩::l) Q ρ w:=QcG hS he hx hy hi hn hm h
theorem zb {d:Nat}{x:Operand}{cs:List Value}(hS:St c w L) (h:∀b w',St c w' (blk b T cs::L)→Q0 P l Q (upd ρ d (.pointer (some ⟨b,0,none⟩))) w') (hx:ρ.ev x=v:=by (conv=>lhs;whnf);first|done|exact rfl) (hc:v.cells=⟨cs⟩:=by rfl):Q0 P (⟨none, .box d T x⟩::l) Q ρ w:=s_boxB hS hx hc h
theorem zie {d m:Nat}{x y:Operand}{k:IntKind}(hS:St c w L) (h:∀b o,ElP v css.length es m b o→Q0 P l Q (upd ρ d (.pointer (some ⟨b,o,none⟩))) w) (hx:ρ.ev x=v:=by (conv=>lhs;whnf);first|done|exact rfl) (hy:ρ.ev y= .int k (m:Int):=by exact rfl) (hi:nth L i=some (sl T es v css):=by exact NthP.nth (by repeat constructor)) (hm:m<css.length:=by first|omega|(simp;omega)):Q0 P (⟨none, .idx d es x y⟩::l) Q ρ w:=QY hS hx hy hi hm h
theorem zij {d:Nat}{x y:Operand}{k:IntKind}{n:Int}(hS:St c w L) (h:∀b o,ElP v css.length es n.toNat b o→Q0 P l Q (upd ρ d (.pointer (some ⟨b,o,none⟩))) w) (hx:ρ.ev x=v:=by (conv=>lhs;whnf);first|done|exact rfl) (hy:ρ.ev y= .int k n:=by exact rfl) (hi:nth L i=some (sl T es v css):=by exact NthP.nth (by repeat constructor)) (h0:0≤n:=by first|omega|(simp;omega)) (hm:n<css.length:=by first|omega|(simp;omega)):Q0 P (⟨none, .idx d es x y⟩::l) Q ρ w:=Q2G hS hx hy hi h0 hm h
theorem zsn {n i b T:Nat}{x y:Operand}{cs us:List Value}(hS:St c w L) (h:∀w',St c w' (L.set i (blk b T us))→Q0 P l Q ρ w') (hx:ρ.ev x= .pointer (some ⟨b,0,none⟩):=by exact rfl) (hy:ρ.ev y= .agg ⟨us⟩:=by exact rfl) (hn:us.length=n:=by rfl) (hi:nth L i=some (blk b T cs):=by exact NthP.nth (by repeat constructor)) (hc:cs.length=n:=by rfl) (h1:∀u∈us,oneC u=true:=by first|(simp [oneC];done)|assumption|exact Rep.one _ (by assumption)|(simp only [List.take_succ_cons,List.take_zero,List.drop_zero,List.mem_cons,List.not_mem_nil,or_false,forall_eq_or_imp,forall_eq];((try refine And.intro ?_ ?_)<;>try refine And.intro ?_ ?_)<;>first|rfl|assumption)):Q0 P (⟨none, .storen n x y⟩::l) Q ρ w:=QcE hS hx hy hn hi hc h1 h
theorem zsm {n:Nat}{x y:Operand}{b o:Nat}{cs us cs':List Value}(hS:St c w L) (h:∀w',St c w' (L.set i (blk b T cs'))→Q0 P l Q ρ w') (hx:ρ.ev x= .pointer (some ⟨b,o,none⟩):=by exact rfl) (hy:ρ.ev y= .agg ⟨us⟩:=by exact rfl) (hn:us.length=n:=by rfl) (hi:nth L i=some (blk b T cs):=by exact NthP.nth (by repeat constructor)) (ho:o+n≤cs.length:=by simp) (h1:∀u∈us,oneC u=true:=by first|(simp [oneC];done)|assumption|exact Rep.one _ (by assumption)|(simp only [List.take_succ_cons,List.take_zero,List.drop_zero,List.mem_cons,List.not_mem_nil,or_false,forall_eq_or_imp,forall_eq];((try refine And.intro ?_ ?_)<;>try refine And.intro ?_ ?_)<;>first|rfl|assumption)) (hc:cs.take o++(us++cs.drop (o+n))=cs':=by (conv=>lhs;simp only [List.take_succ_cons,List.take_zero,List.drop_succ_cons,List.drop_zero,List.cons_append,List.nil_append]);first|done|exact rfl):Q0 P (⟨none, .storen n x y⟩::l) Q ρ w:=Q8T hS hx hy hn hi ho h1 hc h
theorem zf {t:Nat}{R:Ending→World→Prop}{v:Value}(h:R (.returned v) w) (hv:ρ t=v:=by (conv=>lhs;whnf);first|done|exact rfl):retQ P [.tmp t] R .ret ρ w:=q_ret1 hv h
theorem zf2 {t u:Nat}{R:Ending→World→Prop}{v v':Value}(h:R (.returned (.tuple #[v,v'])) w) (hv:ρ t=v:=by (conv=>lhs;whnf);first|done|exact rfl) (hv':ρ u=v':=by (conv=>lhs;whnf);first|done|exact rfl):retQ P [.tmp t, .tmp u] R .ret ρ w:=q_ret2 hv hv' h
theorem zb0 {d:Nat}{z:List Value}(cs:List Value) (h:Q0 P l Q (upd ρ d (.agg ⟨cs⟩)) w) (hf:Q2j z []=some cs:=by rfl):Q0 P (⟨none, .build d z []⟩::l) Q ρ w:=s_build0 hf h
theorem zb1 {d:Nat}{z:List Value}{o0 n0:Nat}{x0:Operand}{v0:Value}(cs:List Value) (h:Q0 P l Q (upd ρ d (.agg ⟨cs⟩)) w) (h0:ρ.ev x0=v0:=by (conv=>lhs;whnf);first|done|exact rfl) (hf:Q2j z [(o0,n0,v0)]=some cs:=by rfl):Q0 P (⟨none, .build d z [(o0,n0,x0)]⟩::l) Q ρ w:=s_build1 h0 hf h
theorem zB1 {d:Nat}{T:TypeId}{n:Nat}{z:List Value}{o0 n0:Nat}{x0:Operand}{v0:Value}(hS:St c w L) (cs:List Value) (h:∀b w',St c w' (blk b T cs::L)→Q0 P l Q (upd ρ d (.slice (some ⟨b,0,none⟩) n n)) w') (h0:ρ.ev x0=v0:=by (conv=>lhs;whnf);first|done|exact rfl) (hf:Q2j z [(o0,n0,v0)]=some cs:=by rfl):Q0 P (⟨none, .buildS d T n z [(o0,n0,x0)]⟩::l) Q ρ w:=Q1G h0 hf fun b w' hb hf1 _ hk=>h b w' (hS.laid hb hf1 hk)
theorem zb2 {d:Nat}{z:List Value}{o0 n0:Nat}{x0:Operand}{v0:Value}{o1 n1:Nat}{x1:Operand}{v1:Value}(cs:List Value) (h:Q0 P l Q (upd ρ d (.agg ⟨cs⟩)) w) (h0:ρ.ev x0=v0:=by (conv=>lhs;whnf);first|done|exact rfl) (h1:ρ.ev x1=v1:=by (conv=>lhs;whnf);first|done|exact rfl) (hf:Q2j z [(o0,n0,v0),(o1,n1,v1)]=some cs:=by rfl):Q0 P (⟨none, .build d z [(o0,n0,x0),(o1,n1,x1)]⟩::l) Q ρ w:=QaZ h0 h1 hf h
theorem zB2 {d:Nat}{T:TypeId}{n:Nat}{z:List Value}{o0 n0:Nat}{x0:Operand}{v0:Value}{o1 n1:Nat}{x1:Operand}{v1:Value}(hS:St c w L) (cs:List Value) (h:∀b w',St c w' (blk b T cs::L)→Q0 P l Q (upd ρ d (.slice (some ⟨b,0,none⟩) n n)) w') (h0:ρ.ev x0=v0:=by (conv=>lhs;whnf);first|done|exact rfl) (h1:ρ.ev x1=v1:=by (conv=>lhs;whnf);first|done|exact rfl) (hf:Q2j z [(o0,n0,v0),(o1,n1,v1)]=some cs:=by rfl):Q0 P (⟨none, .buildS d T n z [(o0,n0,x0),(o1,n1,x1)]⟩::l) Q ρ w:=Q4Q h0 h1 hf fun b w' hb hf1 _ hk=>h b w' (hS.laid hb hf1 hk)
theorem zb3 {d:Nat}{z:List Value}{o0 n0:Nat}{x0:Operand}{v0:Value}{o1 n1:Nat}{x1:Operand}{v1:Value}{o2 n2:Nat}{x2:Operand}{v2:Value}(cs:List Value) (h:Q0 P l Q (upd ρ d (.agg ⟨cs⟩)) w) (h0:ρ.ev x0=v0:=by (conv=>lhs;whnf);first|done|exact rfl) (h1:ρ.ev x1=v1:=by (conv=>lhs;whnf);first|done|exact rfl) (h2:ρ.ev x2=v2:=by (conv=>lhs;whnf);first|done|exact rfl) (hf:Q2j z [(o0,n0,v0),(o1,n1,v1),(o2,n2,v2)]=some cs:=by rfl):Q0 P (⟨none, .build d z [(o0,n0,x0),(o1,n1,x1),(o2,n2,x2)]⟩::l) Q ρ w:=s_build3 h0 h1 h2 hf h
theorem zb4 {d:Nat}{z:List Value}{o0 n0:Nat}{x0:Operand}{v0:Value}{o1 n1:Nat}{x1:Operand}{v1:Value}{o2 n2:Nat}{x2:Operand}{v2:Value}{o3 n3:Nat}{x3:Operand}{v3:Value}(cs:List Value) (h:Q0 P l Q (upd ρ d (.agg ⟨cs⟩)) w) (h0:ρ.ev x0=v0:=by (conv=>lhs;whnf);first|done|exact rfl) (h1:ρ.ev x1=v1:=by (conv=>lhs;whnf);first|done|exact rfl) (h2:ρ.ev x2=v2:=by (conv=>lhs;whnf);first|done|exact rfl) (h3:ρ.ev x3=v3:=by (conv=>lhs;whnf);first|done|exact rfl) (hf:Q2j z [(o0,n0,v0),(o1,n1,v1),(o2,n2,v2),(o3,n3,v3)]=some cs:=by rfl):Q0 P (⟨none, .build d z [(o0,n0,x0),(o1,n1,x1),(o2,n2,x2),(o3,n3,x3)]⟩::l) Q ρ w:=s_build4 h0 h1 h2 h3 hf h
theorem zb5 {d:Nat}{z:List Value}{o0 n0:Nat}{x0:Operand}{v0:Value}{o1 n1:Nat}{x1:Operand}{v1:Value}{o2 n2:Nat}{x2:Operand}{v2:Value}{o3 n3:Nat}{x3:Operand}{v3:Value}{o4 n4:Nat}{x4:Operand}{v4:Value}(cs:List Value) (h:Q0 P l Q (upd ρ d (.agg ⟨cs⟩)) w) (h0:ρ.ev x0=v0:=by (conv=>lhs;whnf);first|done|exact rfl) (h1:ρ.ev x1=v1:=by (conv=>lhs;whnf);first|done|exact rfl) (h2:ρ.ev x2=v2:=by (conv=>lhs;whnf);first|done|exact rfl) (h3:ρ.ev x3=v3:=by (conv=>lhs;whnf);first|done|exact rfl) (h4:ρ.ev x4=v4:=by (conv=>lhs;whnf);first|done|exact rfl) (hf:Q2j z [(o0,n0,v0),(o1,n1,v1),(o2,n2,v2),(o3,n3,v3),(o4,n4,v4)]=some cs:=by rfl):Q0 P (⟨none, .build d z [(o0,n0,x0),(o1,n1,x1),(o2,n2,x2),(o3,n3,x3),(o4,n4,x4)]⟩::l) Q ρ w:=s_build5 h0 h1 h2 h3 h4 hf h
theorem zD {gs:List GO}{es:List (List Nat)}(C:List CI) (h:Q0 P (C.map fun c=>gat gs c.1) Q ρ w.drew) (hok:Q7k gs es C=true:=by kernel_rfl) (hpl:(C.all fun c=>match c.2 with|some (some _)=>false|_=>true)=true:=by kernel_rfl):(LC.draw gs es).wp P Q ρ w:=s_draw C hok hpl h
theorem zC {gs:List GO}{es:List (List Nat)}(C:List CI) (h:Q1w P gs C Q ρ w.drew) (hok:Q7k gs es C=true:=by kernel_rfl):(LC.draw gs es).wp P Q ρ w:=s_canon C hok h
theorem zR0 {d:Nat}{f:FuncId}{S:Value→World→Prop}(c:Rets P f [] w S) (h:∀v w',S v w'→Q0 P l Q (upd ρ d v) w'):Q0 P (⟨none, .call (some d) f []⟩::l) Q ρ w:=s_rets_0 c h
theorem zR1 {d:Nat}{f:FuncId}{x0:Operand}{u0:Value}{S:Value→World→Prop}(h0:ρ.ev x0=u0:=by (conv=>lhs;whnf);first|done|exact rfl) (c:Rets P f [u0] w S) (h:∀v w',S v w'→Q0 P l Q (upd ρ d v) w'):Q0 P (⟨none, .call (some d) f [x0]⟩::l) Q ρ w:=s_rets_1 h0 c h
theorem zR2 {d:Nat}{f:FuncId}{x0 x1:Operand}{u0 u1:Value}{S:Value→World→Prop}(h0:ρ.ev x0=u0:=by (conv=>lhs;whnf);first|done|exact rfl) (h1:ρ.ev x1=u1:=by (conv=>lhs;whnf);first|done|exact rfl) (c:Rets P f [u0,u1] w S) (h:∀v w',S v w'→Q0 P l Q (upd ρ d v) w'):Q0 P (⟨none, .call (some d) f [x0,x1]⟩::l) Q ρ w:=s_rets_2 h0 h1 c h
theorem zE2 {d:Nat}{f:FuncId}{x0 x1:Operand}{u0 u1:Value}{S T:Value→World→Prop}(h0:ρ.ev x0=u0:=by (conv=>lhs;whnf);first|done|exact rfl) (h1:ρ.ev x1=u1:=by (conv=>lhs;whnf);first|done|exact rfl) (c:Fins P f [u0,u1] w S T) (p:∀v w',T v w'→Q (.panic [{v:=v,recovered:=false}]) ρ w') (h:∀v w',S v w'→Q0 P l Q (upd ρ d v) w'):Q0 P (⟨none, .call (some d) f [x0,x1]⟩::l) Q ρ w:=s_ends_2 h0 h1 c p h
theorem zR3 {d:Nat}{f:FuncId}{x0 x1 x2:Operand}{u0 u1 u2:Value}{S:Value→World→Prop}(h0:ρ.ev x0=u0:=by (conv=>lhs;whnf);first|done|exact rfl) (h1:ρ.ev x1=u1:=by (conv=>lhs;whnf);first|done|exact rfl) (h2:ρ.ev x2=u2:=by (conv=>lhs;whnf);first|done|exact rfl) (c:Rets P f [u0,u1,u2] w S) (h:∀v w',S v w'→Q0 P l Q (upd ρ d v) w'):Q0 P (⟨none, .call (some d) f [x0,x1,x2]⟩::l) Q ρ w:=s_rets_3 h0 h1 h2 c h
theorem zE3 {d:Nat}{f:FuncId}{x0 x1 x2:Operand}{u0 u1 u2:Value}{S T:Value→World→Prop}(h0:ρ.ev x0=u0:=by (conv=>lhs;whnf);first|done|exact rfl) (h1:ρ.ev x1=u1:=by (conv=>lhs;whnf);first|done|exact rfl) (h2:ρ.ev x2=u2:=by (conv=>lhs;whnf);first|done|exact rfl) (c:Fins P f [u0,u1,u2] w S T) (p:∀v w',T v w'→Q (.panic [{v:=v,recovered:=false}]) ρ w') (h:∀v w',S v w'→Q0 P l Q (upd ρ d v) w'):Q0 P (⟨none, .call (some d) f [x0,x1,x2]⟩::l) Q ρ w:=s_ends_3 h0 h1 h2 c p h
theorem zR4 {d:Nat}{f:FuncId}{x0 x1 x2 x3:Operand}{u0 u1 u2 u3:Value}{S:Value→World→Prop}(h0:ρ.ev x0=u0:=by (conv=>lhs;whnf);first|done|exact rfl) (h1:ρ.ev x1=u1:=by (conv=>lhs;whnf);first|done|exact rfl) (h2:ρ.ev x2=u2:=by (conv=>lhs;whnf);first|done|exact rfl) (h3:ρ.ev x3=u3:=by (conv=>lhs;whnf);first|done|exact rfl) (c:Rets P f [u0,u1,u2,u3] w S) (h:∀v w',S v w'→Q0 P l Q (upd ρ d v) w'):Q0 P (⟨none, .call (some d) f [x0,x1,x2,x3]⟩::l) Q ρ w:=s_rets_4 h0 h1 h2 h3 c h
theorem zE4 {d:Nat}{f:FuncId}{x0 x1 x2 x3:Operand}{u0 u1 u2 u3:Value}{S T:Value→World→Prop}(h0:ρ.ev x0=u0:=by (conv=>lhs;whnf);first|done|exact rfl) (h1:ρ.ev x1=u1:=by (conv=>lhs;whnf);first|done|exact rfl) (h2:ρ.ev x2=u2:=by (conv=>lhs;whnf);first|done|exact rfl) (h3:ρ.ev x3=u3:=by (conv=>lhs;whnf);first|done|exact rfl) (c:Fins P f [u0,u1,u2,u3] w S T) (p:∀v w',T v w'→Q (.panic [{v:=v,recovered:=false}]) ρ w') (h:∀v w',S v w'→Q0 P l Q (upd ρ d v) w'):Q0 P (⟨none, .call (some d) f [x0,x1,x2,x3]⟩::l) Q ρ w:=s_ends_4 h0 h1 h2 h3 c p h
variable {α:Type}{r:Rep α}{xs:List α}
theorem zL {d:Nat}{x:Operand}(h:Q0 P l Q (upd ρ d (.int .i64 xs.length)) w) (hx:ρ.ev x=v:=by (conv=>lhs;whnf);first|done|exact rfl) (hK:r.sl c v xs:=by assumption):Q0 P (⟨none, .len d x⟩::l) Q ρ w:=QcL hx hK h
theorem zi {d m:Nat}{x y:Operand}{k:IntKind}(h:∀b o cs a,AtK c b o cs→xs[m]?=some a→r.at c cs a→Q0 P l Q (upd ρ d (.pointer (some ⟨b,o,none⟩))) w) (hx:ρ.ev x=v:=by (conv=>lhs;whnf);first|done|exact rfl) (hy:ρ.ev y= .int k (m:Int):=by exact rfl) (hK:r.sl c v xs:=by assumption) (hes:r.es=es:=by exact rfl) (hn:m<xs.length:=by first|omega|(simp;omega)):Q0 P (⟨none, .idx d es x y⟩::l) Q ρ w:=Q11 hx hy hK hes hn h
theorem zj {d:Nat}{x y:Operand}{k:IntKind}{n:Int}(h:∀b o cs a,AtK c b o cs→xs[n.toNat]?=some a→r.at c cs a→Q0 P l Q (upd ρ d (.pointer (some ⟨b,o,none⟩))) w) (hx:ρ.ev x=v:=by (conv=>lhs;whnf);first|done|exact rfl) (hy:ρ.ev y= .int k n:=by exact rfl) (hK:r.sl c v xs:=by assumption) (hes:r.es=es:=by exact rfl) (h0:0≤n:=by first|omega|(simp;omega)) (hn:n<xs.length:=by first|omega|(simp;omega)):Q0 P (⟨none, .idx d es x y⟩::l) Q ρ w:=Q7L hx hy hK hes h0 hn h
theorem za {T T' d Ts Ts2 Ty nb i k b : Nat} {z : List Value} {x y : Operand} {ds : List Value} {css : List (List Value)} {a : α} (hel : Q2f P Ts = some (T, es, nb, z)) (hts : ∃ e2, P.underlying Ts2 = some (.slice e2)) (hS : St c w L) (h : ∀ v' w' css', r.ls c css' (xs ++ [a]) → oneC v' = true → St c w' (L.set i (Go.Lir.sl T es v' css')) → Q0 P l Q (upd ρ d v') w') (hx : ρ.ev x = v := by (conv => lhs; whnf); first | done | exact rfl) (hy : ρ.ev y = .slice (some ⟨b, 0, none⟩) 1 1 := by (conv => lhs; whnf); first | done | exact rfl) (hi : nth L i = some (Go.Lir.sl T es v css) := by exact NthP.nth (by repeat constructor)) (hk : nth L k = some (blk b T' ds) := by exact NthP.nth (by repeat constructor)) (hls : r.ls c css xs := by assumption) (ha : r.at c ds a := by first | assumption | exact rfl) (hes : r.es = es := by exact rfl) (hb : (xs.length + 1) * nb ≤ 140737488355328 := by first | omega | (simp only [List.length_take]; omega) | (simp; omega)) : Q0 P (⟨none, .raw ⟨some d, .call ⟨.builtin .append, #[x, y], #[Ts, Ts2]⟩, Ty, "", #[], none⟩⟩ :: l) Q ρ w := s_appR1 hel hts hS hx hy hi hk hls ha hes hb h
theorem zak {T d Ts Ts2 Ty nb i : Nat} {z : List Value} {x y : Operand} {v2 : Value} {css : List (List Value)} {ys : List α} (hel : Q2f P Ts = some (T, es, nb, z)) (hts : ∃ e2, P.underlying Ts2 = some (.slice e2)) (hS : St c w L) (h : ∀ v' w' css', r.ls c css' (xs ++ ys) → oneC v' = true → St c w' (L.set i (Go.Lir.sl T es v' css')) → Q0 P l Q (upd ρ d v') w') (hx : ρ.ev x = v := by (conv => lhs; whnf); first | done | exact rfl) (hy : ρ.ev y = v2 := by (conv => lhs; whnf); first | done | exact rfl) (hi : nth L i = some (Go.Lir.sl T es v css) := by exact NthP.nth (by repeat constructor)) (hls : r.ls c css xs := by assumption) (hK : r.sl c v2 ys := by assumption) (hes : r.es = es := by exact rfl) (hb : (xs.length + ys.length) * nb ≤ 140737488355328 := by first | omega | (simp only [List.length_take]; omega) | (simp; omega)) : Q0 P (⟨none, .raw ⟨some d, .call ⟨.builtin .append, #[x, y], #[Ts, Ts2]⟩, Ty, "", #[], none⟩⟩ :: l) Q ρ w := s_appRK hel hts hS hx hy hi hls hK hes hb h
def evs (ρ:Env) (ts:List Nat):List (Nat×Value):=ts.map fun t=>(t,ρ t)
theorem QdD (ρ:Env):evs ρ []=[]:=rfl
theorem QdE {t:Nat}{ts:List Nat}{u:Value}{A:List (Nat×Value)}(h:ρ t=u) (h2:evs ρ ts=A):evs ρ (t::ts)=(t,u)::A:=by subst h h2;rfl
theorem zh {A:List (Nat×Value)}(h:Has ρ A:=by repeat' (first|exact trivial|refine And.intro rfl ?_)):Has ρ A:=h
theorem env2 {A B:List (Nat×Value)}(h:Has ρ A) (h2:Has ρ B):∃ρ',ρ=updl (updl ρ' B) A:=⟨ρ,by rw [Q8O h2,Q8O h]⟩
theorem zo {a:LC}(ts:List Nat){A:List (Nat×Value)}(I:List (Nat×Value)→Env→World→Prop) (μ:Env→World→Nat) (h0:I A ρ w) (h:∀ρ w,I A ρ w→a.wp P (QB (fun ρ' w'=>I A ρ' w'∧μ ρ' w'<μ ρ w) Q) ρ w) (hA:evs ρ ts=A:=by (repeat (apply QdE;· ((conv=>lhs;whnf);first|done|exact rfl)));exact QdD _):(LC.loop a).wp P Q ρ w:=s_loop (I A) μ h0 h
theorem zM {a b:LC}(ts:List Nat){A:List (Nat×Value)}(I:List (Nat×Value)→Env→World→Prop) (ha:a.wp P (QB (I A) Q) ρ w) (hb:∀ρ w,I A ρ w→b.wp P Q ρ w) (hA:evs ρ ts=A:=by (repeat (apply QdE;· ((conv=>lhs;whnf);first|done|exact rfl)));exact QdD _):(LC.seq a b).wp P Q ρ w:=s_mid (I A) ha hb
theorem zoL {a:LC}(hS:St c w L) (ts:List Nat){A:List (Nat×Value)}(I:List (Nat×Value)→List Res→Env→World→Prop) (μ:Env→World→Nat) (h0:I A L ρ w) (h:∀ρ w,I A L ρ w→a.wp P (QB (fun ρ' w'=>I A L ρ' w'∧μ ρ' w'<μ ρ w) Q) ρ w) (hA:evs ρ ts=A:=by (repeat (apply QdE;· ((conv=>lhs;whnf);first|done|exact rfl)));exact QdD _):(LC.loop a).wp P Q ρ w:=s_loop (I A L) μ h0 h
theorem zML {a b:LC}(hS:St c w L) (ts:List Nat){A:List (Nat×Value)}(I:List (Nat×Value)→List Res→Env→World→Prop) (ha:a.wp P (QB (I A L) Q) ρ w) (hb:∀ρ w,I A L ρ w→b.wp P Q ρ w) (hA:evs ρ ts=A:=by (repeat (apply QdE;· ((conv=>lhs;whnf);first|done|exact rfl)));exact QdD _):(LC.seq a b).wp P Q ρ w:=s_mid (I A L) ha hb
theorem zKL {l:List GO}(hS:St c w L) (n:Nat) (ts:List Nat){A:List (Nat×Value)}(I:List (Nat×Value)→List Res→Env→World→Prop) (ha:Q0 P (l.take n) (QB (I A L) Q) ρ w) (hb:∀ρ w,I A L ρ w→Q0 P (l.drop n) Q ρ w) (hA:evs ρ ts=A:=by (repeat (apply QdE;· ((conv=>lhs;whnf);first|done|exact rfl)));exact QdD _):Q0 P l Q ρ w:=s_cut n (I A L) ha hb
theorem St.sp {L':List Res}(h:St c w L) (e:SubP L' L:=by (repeat constructor);first|done|fail):St c w L':=h.subP e
theorem fd {r':Res}(h:NthP L i r':=by repeat constructor):nth L i=some r':=h.nth
theorem vw {a b:Value}(h:a=b:=by (conv=>lhs;whnf);first|done|exact rfl):a=b:=h
theorem St.p3 {L1 L2 L3:List Res}{r1 r2 r3:Res}(h:St c w L) (p1:Pick L r1 L1:=by repeat constructor) (p2:Pick L1 r2 L2:=by repeat constructor) (p3:Pick L2 r3 L3:=by repeat constructor):St c w (r1::r2::r3::L3):=h.pick3 p1 p2 p3
end
end Go.Lir
namespace Go.Lir
set_option linter.unusedVariables false
def ci (n:Nat) (f:List Nat):List CI:=(List.range n).map fun i=>(i,if f.contains i then some none else none)
section
variable {K G:Prop}
theorem Yaa (k:K) (h:Bx K→G:=by intro K9;(first|refine zgn ?_|(refine zgy ?_;refine zf0 ?_));exact K9.o):G:=h ⟨k⟩
theorem Yab (k:K) (h:Bx K→G:=by intro K9;(first|refine zgn ?_|(refine zgy ?_;refine zl hS ?_));exact K9.o):G:=h ⟨k⟩
theorem Yac (k:K) (h:Bx K→G:=by intro K9;(first|refine zgn ?_|(refine zgy ?_;refine zm ?_));exact K9.o):G:=h ⟨k⟩
theorem Yad (k:K) (h:Bx K→G:=by intro K9;(first|refine zpt ?_|refine zpf ?_);exact K9.o):G:=h ⟨k⟩
theorem Yae (k:K) (h:Bx K→G:=by intro K9;(first|refine zf0 ?_|refine zfd ?_);exact K9.o):G:=h ⟨k⟩
theorem Yaf (k:K) (h:Bx K→G:=by intro K9;(first|refine zv hS ?_|refine zvk hS ?_);exact K9.o):G:=h ⟨k⟩
theorem Yag (k:K) (h:Bx K→G:=by intro K9;(first|refine Q1T hS rfl fd rfl ?_|refine zl hS ?_);exact K9.o):G:=h ⟨k⟩
theorem Yah (k:K) (h:Bx K→G:=by intro K9;(first|refine zgn ?_|(refine zgy ?_;(first|refine zf0 ?_|refine zfd ?_)));exact K9.o):G:=h ⟨k⟩
theorem Yai (k:K) (h:Bx K→G:=by intro K9;(first|refine zgn ?_|(refine zgy ?_;refine zL ?_));exact K9.o):G:=h ⟨k⟩
theorem Yaj (k:K) (h:Bx K→G:=by intro K9;(first|refine zgn ?_|(refine zgy ?_;(first|refine zpt ?_|refine zpf ?_)));exact K9.o):G:=h ⟨k⟩
theorem Yak (k:K) (h:Bx K→G:=by intro K9;(first|refine Qp ?_|refine Qu ?_);exact K9.o):G:=h ⟨k⟩
theorem Yal (k:K) (h:Bx K→G:=by intro K9;(first|refine zgn ?_|(refine zgy ?_;refine znt ?_));exact K9.o):G:=h ⟨k⟩
theorem Yam (k:K) (h:Bx K→G:=by intro K9;(first|refine zgn ?_|(refine zgy ?_;refine znc ?_));exact K9.o):G:=h ⟨k⟩
theorem Yan (k:K) (h:Bx K→G:=by intro K9;(first|refine zl hS ?_|refine zlk hS ?_);exact K9.o):G:=h ⟨k⟩
theorem Yao (k:K) (h:Bx K→G:=by intro K9;(first|refine zi ?_|refine zj ?_);exact K9.o):G:=h ⟨k⟩
theorem Yap (k:K) (h:Bx K→G:=by intro K9;(first|refine zl hS ?_|refine zlk hS ?_|refine zlj hS ?_);exact K9.o):G:=h ⟨k⟩
theorem Yaq (k:K) (h:Bx K→G:=by intro K9;(first|refine zgn ?_|(refine zgy ?_;refine zv hS ?_));exact K9.o):G:=h ⟨k⟩
theorem Yar (k:K) (h:Bx K→G:=by intro K9;(first|refine zgn ?_|(refine zgy ?_;(first|refine zl hS ?_|refine zlk hS ?_)));exact K9.o):G:=h ⟨k⟩
theorem Yas (k:K) (h:Bx K→G:=by intro K9;(first|refine zgn ?_|(refine zgy ?_;(first|refine zl hS ?_|refine zlk hS ?_|refine zlj hS ?_)));exact K9.o):G:=h ⟨k⟩
theorem Zaa (k:K) (h:Bx K→G:=by intro K9;refine QJ ?_;refine Q1z ?_;exact K9.o):G:=h ⟨k⟩
theorem Zab (k:K) (h:Bx K→G:=by intro K9;refine zm ?_;refine zn ?_;exact K9.o):G:=h ⟨k⟩
theorem Zac (k:K) (h:Bx K→G:=by intro K9;refine zt ?_;refine s_cq ?_;exact K9.o):G:=h ⟨k⟩
theorem Zad (k:K) (h:Bx K→G:=by intro K9;refine zf0 ?_;refine zl hS ?_;exact K9.o):G:=h ⟨k⟩
theorem Zae (k:K) (h:Bx K→G:=by intro K9;refine Zaa ?_;refine zm ?_;exact K9.o):G:=h ⟨k⟩
theorem Zaf (k:K) (h:Bx K→G:=by intro K9;refine Zaa ?_;refine Zab ?_;exact K9.o):G:=h ⟨k⟩
theorem Zag (k:K) (h:Bx K→G:=by intro K9;refine Q1z ?_;refine zm ?_;exact K9.o):G:=h ⟨k⟩
theorem Zah (k:K) (h:Bx K→G:=by intro K9;refine zf0 ?_;refine Zac ?_;exact K9.o):G:=h ⟨k⟩
theorem Zai (k:K) (h:Bx K→G:=by intro K9;refine zr ?_;refine zf ?_;exact K9.o):G:=h ⟨k⟩
theorem Zaj (k:K) (h:Bx K→G:=by intro K9;refine Q6x rfl rfl ?_;refine zn ?_;exact K9.o):G:=h ⟨k⟩
theorem Zak (k:K) (h:Bx K→G:=by intro K9;refine Yaa ?_;refine Yab ?_;exact K9.o):G:=h ⟨k⟩
theorem Zal (k:K) (h:Bx K→G:=by intro K9;refine QJ ?_;refine Q3F ?_;exact K9.o):G:=h ⟨k⟩
theorem Zam (k:K) (h:Bx K→G:=by intro K9;refine Zah ?_;refine zl hS ?_;exact K9.o):G:=h ⟨k⟩
theorem Zan (k:K) (h:Bx K→G:=by intro K9;refine QJ ?_;refine Zae ?_;exact K9.o):G:=h ⟨k⟩
theorem Zao (k:K) (h:Bx K→G:=by intro K9;refine Zaa ?_;refine Zad ?_;exact K9.o):G:=h ⟨k⟩
theorem Zap (k:K) (h:Bx K→G:=by intro K9;refine zad ?_;refine Zab ?_;exact K9.o):G:=h ⟨k⟩
theorem Zaq (k:K) (h:Bx K→G:=by intro K9;refine zt ?_;refine zy ?_;exact K9.o):G:=h ⟨k⟩
theorem Zar (k:K) (h:Bx K→G:=by intro K9;refine zsk ?_;refine Zal ?_;exact K9.o):G:=h ⟨k⟩
theorem Zas (k:K) (h:Bx K→G:=by intro K9;refine Zaf ?_;refine Zai ?_;exact K9.o):G:=h ⟨k⟩
theorem Zat (k:K) (h:Bx K→G:=by intro K9;refine zt ?_;refine Qa8 ?_;exact K9.o):G:=h ⟨k⟩
theorem Zau (k:K) (h:Bx K→G:=by intro K9;refine Zam ?_;refine Zac ?_;exact K9.o):G:=h ⟨k⟩
theorem Zav (k:K) (h:Bx K→G:=by intro K9;refine zm ?_;refine Zak ?_;exact K9.o):G:=h ⟨k⟩
theorem Zaw (k:K) (h:Bx K→G:=by intro K9;refine Zaa ?_;refine zb hS ?_;exact K9.o):G:=h ⟨k⟩
theorem Zax (k:K) (h:Bx K→G:=by intro K9;refine Zag ?_;refine Zap ?_;exact K9.o):G:=h ⟨k⟩
theorem Zay (k:K) (h:Bx K→G:=by intro K9;refine Zaf ?_;refine Q3F ?_;exact K9.o):G:=h ⟨k⟩
theorem Zaz (k:K) (h:Bx K→G:=by intro K9;refine zm ?_;refine Zac ?_;exact K9.o):G:=h ⟨k⟩
theorem ZaA (k:K) (h:Bx K→G:=by intro K9;refine zt ?_;refine zcn ?_;exact K9.o):G:=h ⟨k⟩
theorem ZaB (k:K) (h:Bx K→G:=by intro K9;refine Zab ?_;refine Zai ?_;exact K9.o):G:=h ⟨k⟩
theorem ZaC (k:K) (h:Bx K→G:=by intro K9;refine Yaf ?_;refine Qb hS ?_;exact K9.o):G:=h ⟨k⟩
theorem ZaD (k:K) (h:Bx K→G:=by intro K9;refine Zab ?_;refine Q3F ?_;exact K9.o):G:=h ⟨k⟩
theorem ZaE (k:K) (h:Bx K→G:=by intro K9;refine zt ?_;refine s_cf ?_;exact K9.o):G:=h ⟨k⟩
theorem ZaF (k:K) (h:Bx K→G:=by intro K9;refine Zaa ?_;refine zv hS ?_;exact K9.o):G:=h ⟨k⟩
theorem ZaG (k:K) (h:Bx K→G:=by intro K9;refine Zae ?_;refine zm ?_;exact K9.o):G:=h ⟨k⟩
theorem ZaH (k:K) (h:Bx K→G:=by intro K9;refine Zaq ?_;refine Qa8 ?_;exact K9.o):G:=h ⟨k⟩
theorem ZaI (k:K) (h:Bx K→G:=by intro K9;refine QJ ?_;refine Zay ?_;exact K9.o):G:=h ⟨k⟩
theorem ZaJ (k:K) (h:Bx K→G:=by intro K9;refine QJ ?_;refine Zao ?_;exact K9.o):G:=h ⟨k⟩
theorem ZaK (k:K) (h:Bx K→G:=by intro K9;refine Yad ?_;refine zn ?_;exact K9.o):G:=h ⟨k⟩
theorem ZaL (k:K) (h:Bx K→G:=by intro K9;refine znc ?_;refine zf0 ?_;exact K9.o):G:=h ⟨k⟩
theorem ZaM (k:K) (h:Bx K→G:=by intro K9;refine Zaq ?_;refine s_cq ?_;exact K9.o):G:=h ⟨k⟩
theorem ZaN (k:K) (h:Bx K→G:=by intro K9;refine Zan ?_;refine Zad ?_;exact K9.o):G:=h ⟨k⟩
theorem ZaO (k:K) (h:Bx K→G:=by intro K9;refine Zat ?_;refine Qb hS ?_;exact K9.o):G:=h ⟨k⟩
theorem ZaP (k:K) (h:Bx K→G:=by intro K9;refine Q1z ?_;refine Zap ?_;exact K9.o):G:=h ⟨k⟩
theorem ZaQ (k:K) (h:Bx K→G:=by intro K9;refine Zaj ?_;refine QJ ?_;exact K9.o):G:=h ⟨k⟩
theorem ZaR (k:K) (h:Bx K→G:=by intro K9;refine s_cq ?_;refine Zau ?_;exact K9.o):G:=h ⟨k⟩
theorem ZaS (k:K) (h:Bx K→G:=by intro K9;refine QJ ?_;refine QJ ?_;exact K9.o):G:=h ⟨k⟩
theorem ZaT (k:K) (h:Bx K→G:=by intro K9;refine zL ?_;refine Zaj ?_;exact K9.o):G:=h ⟨k⟩
theorem ZaU (k:K) (h:Bx K→G:=by intro K9;refine zf0 ?_;refine Yag ?_;exact K9.o):G:=h ⟨k⟩
theorem ZaV (k:K) (h:Bx K→G:=by intro K9;refine Zaa ?_;refine ZaQ ?_;exact K9.o):G:=h ⟨k⟩
theorem ZaW (k:K) (h:Bx K→G:=by intro K9;refine Zab ?_;refine Zae ?_;exact K9.o):G:=h ⟨k⟩
theorem ZaX (k:K) (h:Bx K→G:=by intro K9;refine zm ?_;refine zi ?_;exact K9.o):G:=h ⟨k⟩
theorem ZaY (k:K) (h:Bx K→G:=by intro K9;refine zn ?_;refine zr ?_;exact K9.o):G:=h ⟨k⟩
theorem ZaZ (k:K) (h:Bx K→G:=by intro K9;refine Zaq ?_;refine s_cf ?_;exact K9.o):G:=h ⟨k⟩
theorem Zba (k:K) (h:Bx K→G:=by intro K9;refine Q1z ?_;refine Zad ?_;exact K9.o):G:=h ⟨k⟩
theorem Zbb (k:K) (h:Bx K→G:=by intro K9;refine zm ?_;refine Yac ?_;exact K9.o):G:=h ⟨k⟩
theorem Zbc (k:K) (h:Bx K→G:=by intro K9;refine Zag ?_;refine zm ?_;exact K9.o):G:=h ⟨k⟩
theorem Zbd (k:K) (h:Bx K→G:=by intro K9;refine Zac ?_;refine Zah ?_;exact K9.o):G:=h ⟨k⟩
theorem Zbe (k:K) (h:Bx K→G:=by intro K9;refine zn ?_;refine QJ ?_;exact K9.o):G:=h ⟨k⟩
theorem Zbf (k:K) (h:Bx K→G:=by intro K9;refine zf0 ?_;refine zst hS ?_;exact K9.o):G:=h ⟨k⟩
theorem Zbg (k:K) (h:Bx K→G:=by intro K9;refine Zab ?_;refine zr ?_;exact K9.o):G:=h ⟨k⟩
theorem Zbh (k:K) (h:Bx K→G:=by intro K9;refine Yae ?_;refine Zac ?_;exact K9.o):G:=h ⟨k⟩
theorem Zbi (k:K) (h:Bx K→G:=by intro K9;refine zL ?_;refine ZaD ?_;exact K9.o):G:=h ⟨k⟩
theorem Zbj (k:K) (h:Bx K→G:=by intro K9;refine znc ?_;refine Zad ?_;exact K9.o):G:=h ⟨k⟩
theorem Zbk (k:K) (h:Bx K→G:=by intro K9;refine Zae ?_;refine ZaB ?_;exact K9.o):G:=h ⟨k⟩
theorem Zbl (k:K) (h:Bx K→G:=by intro K9;refine ZaN ?_;refine ZaT ?_;exact K9.o):G:=h ⟨k⟩
theorem Zbm (k:K) (h:Bx K→G:=by intro K9;refine Zae ?_;refine Zab ?_;exact K9.o):G:=h ⟨k⟩
theorem Zbn (k:K) (h:Bx K→G:=by intro K9;refine Zam ?_;refine Zat ?_;exact K9.o):G:=h ⟨k⟩
theorem Zbo (k:K) (h:Bx K→G:=by intro K9;refine znt ?_;refine zn ?_;exact K9.o):G:=h ⟨k⟩
theorem Zbp (k:K) (h:Bx K→G:=by intro K9;refine Zav ?_;refine Zak ?_;exact K9.o):G:=h ⟨k⟩
theorem Zbq (k:K) (h:Bx K→G:=by intro K9;refine Zar ?_;refine QJ ?_;exact K9.o):G:=h ⟨k⟩
theorem Zbr (k:K) (h:Bx K→G:=by intro K9;refine Zan ?_;refine zm ?_;exact K9.o):G:=h ⟨k⟩
theorem Zbs (k:K) (h:Bx K→G:=by intro K9;refine s_nil ?_;refine Q7J ?_;exact K9.o):G:=h ⟨k⟩
theorem Zbt (k:K) (h:Bx K→G:=by intro K9;refine QJ ?_;refine Zaa ?_;exact K9.o):G:=h ⟨k⟩
theorem Zbu (k:K) (h:Bx K→G:=by intro K9;refine zr ?_;refine zf2 ?_;exact K9.o):G:=h ⟨k⟩
theorem Zbv (k:K) (h:Bx K→G:=by intro K9;refine s_cq ?_;refine Zaz ?_;exact K9.o):G:=h ⟨k⟩
theorem Zbw (k:K) (h:Bx K→G:=by intro K9;refine Yac ?_;refine Zak ?_;exact K9.o):G:=h ⟨k⟩
theorem Zbx (k:K) (h:Bx K→G:=by intro K9;refine Zaf ?_;refine Zan ?_;exact K9.o):G:=h ⟨k⟩
theorem Zby (k:K) (h:Bx K→G:=by intro K9;refine ZaR ?_;refine Zau ?_;exact K9.o):G:=h ⟨k⟩
theorem Zbz (k:K) (h:Bx K→G:=by intro K9;refine Zaa ?_;refine Qb hS ?_;exact K9.o):G:=h ⟨k⟩
theorem ZbA (k:K) (h:Bx K→G:=by intro K9;refine Zba ?_;refine zv hS ?_;exact K9.o):G:=h ⟨k⟩
theorem ZbB (k:K) (h:Bx K→G:=by intro K9;refine Zar ?_;refine Zaa ?_;exact K9.o):G:=h ⟨k⟩
theorem ZbC (k:K) (h:Bx K→G:=by intro K9;refine Zao ?_;refine ZaX ?_;exact K9.o):G:=h ⟨k⟩
theorem ZbD (k:K) (h:Bx K→G:=by intro K9;refine Yaa ?_;refine Yah ?_;exact K9.o):G:=h ⟨k⟩
theorem ZbE (k:K) (h:Bx K→G:=by intro K9;refine Yak ?_;refine Zab ?_;exact K9.o):G:=h ⟨k⟩
theorem ZbF (k:K) (h:Bx K→G:=by intro K9;refine zf0 ?_;refine Yae ?_;exact K9.o):G:=h ⟨k⟩
theorem ZbG (k:K) (h:Bx K→G:=by intro K9;refine zex ?_;refine Zas ?_;exact K9.o):G:=h ⟨k⟩
theorem ZbH (k:K) (h:Bx K→G:=by intro K9;refine Zag ?_;refine Zad ?_;exact K9.o):G:=h ⟨k⟩
theorem ZbI (k:K) (h:Bx K→G:=by intro K9;refine Zav ?_;refine Yai ?_;exact K9.o):G:=h ⟨k⟩
theorem ZbJ (k:K) (h:Bx K→G:=by intro K9;refine Yad ?_;refine Zbs ?_;exact K9.o):G:=h ⟨k⟩
theorem ZbK (k:K) (h:Bx K→G:=by intro K9;refine Yae ?_;refine zl hS ?_;exact K9.o):G:=h ⟨k⟩
theorem ZbL (k:K) (h:Bx K→G:=by intro K9;refine Zag ?_;refine zv hS ?_;exact K9.o):G:=h ⟨k⟩
theorem ZbM (k:K) (h:Bx K→G:=by intro K9;refine zn ?_;refine Zae ?_;exact K9.o):G:=h ⟨k⟩
theorem ZbN (k:K) (h:Bx K→G:=by intro K9;refine zf0 ?_;refine zv hS ?_;exact K9.o):G:=h ⟨k⟩
theorem ZbO (k:K) (h:Bx K→G:=by intro K9;refine zn ?_;refine ZaP ?_;exact K9.o):G:=h ⟨k⟩
theorem ZbP (k:K) (h:Bx K→G:=by intro K9;refine zn ?_;refine Zao ?_;exact K9.o):G:=h ⟨k⟩
theorem ZbQ (k:K) (h:Bx K→G:=by intro K9;refine Zaf ?_;refine Zae ?_;exact K9.o):G:=h ⟨k⟩
theorem ZbR (k:K) (h:Bx K→G:=by intro K9;refine Zbd ?_;refine Zbh ?_;exact K9.o):G:=h ⟨k⟩
theorem ZbS (k:K) (h:Bx K→G:=by intro K9;refine ZaL ?_;refine Q1T hS rfl fd rfl ?_;exact K9.o):G:=h ⟨k⟩
theorem ZbT (k:K) (h:Bx K→G:=by intro K9;refine ZbB ?_;refine zi ?_;exact K9.o):G:=h ⟨k⟩
theorem ZbU (k:K) (h:Bx K→G:=by intro K9;refine Yaj ?_;refine ZbJ ?_;exact K9.o):G:=h ⟨k⟩
theorem ZbV (k:K) (h:Bx K→G:=by intro K9;refine zm ?_;refine zm ?_;exact K9.o):G:=h ⟨k⟩
theorem ZbW (k:K) (h:Bx K→G:=by intro K9;refine Zbr ?_;refine ZaT ?_;exact K9.o):G:=h ⟨k⟩
theorem ZbX (k:K) (h:Bx K→G:=by intro K9;refine Zac ?_;refine Zaz ?_;exact K9.o):G:=h ⟨k⟩
theorem ZbY (k:K) (h:Bx K→G:=by intro K9;refine zn ?_;refine ZaF ?_;exact K9.o):G:=h ⟨k⟩
theorem ZbZ (k:K) (h:Bx K→G:=by intro K9;refine Zar ?_;refine ZbC ?_;exact K9.o):G:=h ⟨k⟩
theorem Zca (k:K) (h:Bx K→G:=by intro K9;refine zex ?_;refine Zax ?_;exact K9.o):G:=h ⟨k⟩
theorem Zcb (k:K) (h:Bx K→G:=by intro K9;refine Yac ?_;refine Yam ?_;exact K9.o):G:=h ⟨k⟩
theorem Zcc (k:K) (h:Bx K→G:=by intro K9;refine Zac ?_;refine Zau ?_;exact K9.o):G:=h ⟨k⟩
theorem Zcd (k:K) (h:Bx K→G:=by intro K9;refine zxt ?_;refine zxt ?_;exact K9.o):G:=h ⟨k⟩
theorem Zce (k:K) (h:Bx K→G:=by intro K9;refine Zcd ?_;refine Qb hS ?_;exact K9.o):G:=h ⟨k⟩
theorem Zcf (k:K) (h:Bx K→G:=by intro K9;refine Yal ?_;refine Zbw ?_;exact K9.o):G:=h ⟨k⟩
theorem Zcg (k:K) (h:Bx K→G:=by intro K9;refine Zac ?_;refine Yaf ?_;exact K9.o):G:=h ⟨k⟩
theorem Zch (k:K) (h:Bx K→G:=by intro K9;refine Zac ?_;refine zf0 ?_;exact K9.o):G:=h ⟨k⟩
theorem Zci (k:K) (h:Bx K→G:=by intro K9;refine ZaJ ?_;refine Zbi ?_;exact K9.o):G:=h ⟨k⟩
theorem Zcj (k:K) (h:Bx K→G:=by intro K9;refine zn ?_;refine Zax ?_;exact K9.o):G:=h ⟨k⟩
theorem Zck (k:K) (h:Bx K→G:=by intro K9;refine Q1z ?_;refine ZaD ?_;exact K9.o):G:=h ⟨k⟩
theorem Zcl (k:K) (h:Bx K→G:=by intro K9;refine ZbD ?_;refine Yab ?_;exact K9.o):G:=h ⟨k⟩
theorem Zcm (k:K) (h:Bx K→G:=by intro K9;refine Zaa ?_;refine ZbE ?_;exact K9.o):G:=h ⟨k⟩
theorem Zcn (k:K) (h:Bx K→G:=by intro K9;refine Yae ?_;refine Yap ?_;exact K9.o):G:=h ⟨k⟩
theorem Zco (k:K) (h:Bx K→G:=by intro K9;refine zex ?_;refine Zbk ?_;exact K9.o):G:=h ⟨k⟩
theorem Zcp (k:K) (h:Bx K→G:=by intro K9;refine Yad ?_;refine Zbp ?_;exact K9.o):G:=h ⟨k⟩
theorem Zcq (k:K) (h:Bx K→G:=by intro K9;refine Zby ?_;refine Zbn ?_;exact K9.o):G:=h ⟨k⟩
theorem Zcr (k:K) (h:Bx K→G:=by intro K9;refine zcf ?_;refine zsk ?_;exact K9.o):G:=h ⟨k⟩
theorem Zcs (k:K) (h:Bx K→G:=by intro K9;refine Zbv ?_;refine znc ?_;exact K9.o):G:=h ⟨k⟩
theorem Zct (k:K) (h:Bx K→G:=by intro K9;refine zm ?_;refine Zce ?_;exact K9.o):G:=h ⟨k⟩
theorem Zcu (k:K) (h:Bx K→G:=by intro K9;refine zn ?_;refine Q3F ?_;exact K9.o):G:=h ⟨k⟩
end
end Go.Lir
namespace Go.Lir
@[reducible] def qs (x y:Nat):GO:=⟨none, .store1 (.tmp x) (.tmp y)⟩
end Go.Lir
namespace Go.Lir
set_option linter.unusedVariables false
inductive TyD where
 | p|b|f|i (k:IntKind)|s|l (e:Nat)|a (n e z:Nat)|t (z:Nat) (fs:List (Nat×Nat))|x
abbrev Tr:=Nat→TyD
def TyD.sz:TyD→Nat
 | .a _ _ z=>z
 | .t z _=>z
 | _=>1
mutual
def zerD (D:Tr):Nat→TyD→List Value
 | 0,_=>[]
 | _+1, .p=>[.pointer none]
 | _+1, .b=>[.bool false]
 | _+1, .f=>[.nilFunc]
 | _+1, .i k=>[.int k 0]
 | _+1, .s=>[.string ⟨#[]⟩]
 | _+1, .l _=>[.slice none 0 0]
 | _+1, .x=>[.nilIface]
 | n+1, .t _ fs=>zerF D n fs
 | n+1, .a m e _=>(List.replicate m (zerD D n (D e))).flatten
def zerF (D:Tr):Nat→List (Nat×Nat)→List Value
 | 0,_=>[]
 | _+1,[]=>[]
 | n+1,f::fs=>zerD D n (D f.2)++zerF D n fs
end
def zerT (D:Tr) (T:Nat):List Value:=zerD D 60 (D T)
def partD (D:Tr):TyD→List (Nat×Operand)→List (Nat×Nat×Operand)
 | .t z fs,(i,x)::r=>(match fs[i]? with|some f=>(f.1,(D f.2).sz,x)|none=>(0,0,x))::partD D (.t z fs) r
 | .a n e z,(i,x)::r=>(i*(D e).sz,(D e).sz,x)::partD D (.a n e z) r
 | _,_=>[]
def cutO:Oper→LO
 | ⟨d, o, T, _, _, _⟩ => .raw ⟨d, o, T, "", #[], none⟩
def fldA (D:Tr) (f:Nat):TyD→Nat
 | .t _ fs=>match fs[f]? with|some p=>p.1|none=>0
 | _=>0
def fldT (D:Tr) (f:Nat):TyD→TyD
 | .t _ fs=>match fs[f]? with|some p=>D p.2|none=> .p
 | _=> .p
def loadD (d:Nat) (x:Operand):TyD→LO
 | .t z _=> .loadn d z x
 | .a _ _ z=> .loadn d z x
 | _=> .load1 d x
def storeD (x v:Operand):TyD→LO
 | .t z _=> .storen z x v
 | .a _ _ z=> .storen z x v
 | _=> .store1 x v
def fieldD (d:Nat) (x:Operand) (off:Nat):TyD→LO
 | .t z _=> .fldn d x off z
 | .a _ _ z=> .fldn d x off z
 | _=> .fldv d x off
def lowD1 (D:Tr) (o:Oper) (d:Nat):Op→LO
 | .move x=> .mov d x
 | .assign x=> .mov d x
 | .pick c x y=> .pick d c x y
 | .unOp op _ x=> .un d op x
 | .binOp op T x y _=> .bin d op T x y
 | .nilCheck x=> .nilc d x
 | .fieldAddr S x f=> .fld d x (fldA D f (D S))
 | .load T x=>loadD d x (D T)
 | .indexAddr T x i=>match D T with
   | .l e=> .idx d (D e).sz x i
   | .a n e _=> .idxa d n (D e).sz x i
   | _=>cutO o
 | .index T x i=>match D T with
   | .s=> .sidx d x i
   | _=>cutO o
 | .extract x i=> .ext d x i
 | .field S x f=>fieldD d x (fldA D f (D S)) (fldT D f (D S))
 | .alloc T=> .alloc d T (zerT D T)
 | .box T x=> .box d T x
 | .build T ps=> .build d (zerT D T) (partD D (D T) ps.toList)
 | .buildSlice T n ps=>match D T with
   | .l e=>if 0<n then .buildS d e n ((List.replicate n (zerT D e)).flatten) (partD D (.a n e 0) ps.toList) else cutO o
   | _=>cutO o
 | .makeFunc (.func f) _ caps=> .mkfn d f caps.toList
 | .call ⟨.value (.func f),xs,_⟩=> .call (some d) f xs.toList
 | .call ⟨.value (.tmp f),xs,_⟩=> .callv (some d) (.tmp f) xs.toList
 | .slice T x lo hi mx=>match D T with
   | .l e=> .sub d (D e).sz x lo hi mx
   | .s=> .ssub d x lo hi
   | _=>cutO o
 | .convert S T x=>match D S,D T with
   | .i _, .i k=> .conv d k x
   | _,_=>cutO o
 | .makeInterface T x=>match D T with
   | .x=>cutO o
   | _=> .mki d T x
 | .call ⟨.builtin .min,⟨[x,y]⟩,_⟩=> .mnx d false x y
 | .call ⟨.builtin .max,⟨[x,y]⟩,_⟩=> .mnx d true x y
 | .call ⟨.builtin .len,⟨[x]⟩,⟨[T]⟩⟩=>match D T with
   | .s=> .slen d x
   | .l _=> .len d x
   | _=>cutO o
 | _=>cutO o
def lowD0 (D:Tr) (o:Oper):Op→LO
 | .store T x v=>storeD x v (D T)
 | .call ⟨.value (.func f),xs,_⟩=> .call none f xs.toList
 | .call ⟨.value (.tmp f),xs,_⟩=> .callv none (.tmp f) xs.toList
 | _=>cutO o
def lowO (D:Tr) (o:Oper):Option Nat→LO
 | none=>lowD0 D o o.op
 | some d=>lowD1 D o d o.op
def grdO (ops:Array Oper):Option (Nat×Bool)→Option (Nat×Bool)
 | none=>none
 | some (j,b)=>match ops[j]? with
   | some o=>match o.dst with
     | some s=>some (s,b)
     | none=>none
   | none=>none
def Qdg (D:Tr) (ops:Array Oper):List Oper→List GO
 | []=>[]
 | o::r=>⟨grdO ops o.guard,lowO D o o.dst⟩::Qdg D ops r
def lowS (D:Tr):Code→LC
 | .skip=> .skip
 | .region _ ops false=> .ops (Qdg D ops ops.toList)
 | .region _ ops true=> .draw (Qdg D ops ops.toList) (Q3k ops)
 | .seq a b=> .seq (lowS D a) (lowS D b)
 | .cond c a b=> .cond c (lowS D a) (lowS D b)
 | .block id a=> .block id (lowS D a)
 | .loop a=> .loop (lowS D a)
 | .exit id=> .exit id
 | .ret=> .ret
 | _=> .bad
def lowQ (D:Tr):Option Code→LC
 | some c=>lowS D c
 | none=> .bad
def lowSD (D:Tr):Code→LD
 | .seq a b=>bif Qc5 a||Qc5 b then .seq (lowSD D a) (lowSD D b) else .pl (lowS D (.seq a b))
 | .region id ops false=>match Q5g ops.toList with
   | some (l1,_,s,l2)=> .sp (Qdg D ops l1) s (Qdg D ops l2)
   | none=> .pl (lowS D (.region id ops false))
 | c=> .pl (lowS D c)
def lowQD (D:Tr):Option Code→LD
 | some c=>lowSD D c
 | none=> .pl .bad
section
variable {P:Program}{f:FuncId}{fn:Func}{args:List Value}{w:World}{rs:List ResultVar}(D:Tr)
theorem lgo {R:Ending→World→Prop}{lc:LC}(hf:P.funcs[f]?=some fn) (h:lc.wp P (retQ P rs R) (Q5a args) w) (e:lowQ D fn.body=lc:=by set_option maxRecDepth 100000 in (conv=>lhs;cbv)) (hl:lowF P fn=some lc:=by kernel_rfl) (hrs:fn.results.toList=rs:=by set_option maxRecDepth 100000 in (conv=>lhs;cbv)) (hn:Nat.ble args.length fn.ntmps=true:=by kernel_rfl):Calls P f ⟨args⟩ w R:=Q9F hf hl hrs hn h
theorem lgd {R:Ending→World→Prop}{ld:LD}(hf:P.funcs[f]?=some fn) (h:ld.wpD P (retD P rs R) [] (Q5a args) w) (e:lowQD D fn.body=ld:=by set_option maxRecDepth 100000 in (conv=>lhs;cbv)) (hl:Qc0 P fn=some ld:=by kernel_rfl) (hrs:fn.results.toList=rs:=by set_option maxRecDepth 100000 in (conv=>lhs;cbv)) (hn:Nat.ble args.length fn.ntmps=true:=by kernel_rfl):Calls P f ⟨args⟩ w R:=Q8E hf hl hrs hn h
theorem lgr {R:Ending→FrameMode→World→Prop}{u:FrameMode}{ld:LD}(hf:P.funcs[f]?=some fn) (h:ld.wpR P (retR P rs R) u (Q5a args) w) (e:lowQD D fn.body=ld:=by set_option maxRecDepth 100000 in (conv=>lhs;cbv)) (hl:Qc0 P fn=some ld:=by kernel_rfl) (hrs:fn.results.toList=rs:=by set_option maxRecDepth 100000 in (conv=>lhs;cbv)) (hn:Nat.ble args.length fn.ntmps=true:=by kernel_rfl):CallsD P f ⟨args⟩ u w R:=Q7E hf hl hrs hn h
end
end Go.Lir
namespace Go.Proofs.YteflkifmgnpbhaaGreat
open Go.Lir
def tyaa (i:Nat):TyD:=if i<7 then if i<2 then if i<1 then .p else .f else if i<4 then .i .i64 else if i<5 then .b else .i .u8 else if i<12 then if i<9 then .t 4 [(0,2),(1,3),(2,4),(3,6)] else .s else if i<13 then .i .u64 else if i<15 then .t 2 [(0,9),(1,12)] else .p
def tyab (i:Nat):TyD:=if i<25 then if i<21 then if i<20 then .t 1 [(0,17)] else .x else if i<22 then .i .i32 else if i<23 then .l 95 else .t 1 [(0,22)] else if i<28 then if i<26 then .l 2 else .f else if i<30 then .t 2 [(0,3),(1,3)] else if i<32 then .f else .t 4 [(0,3),(1,25),(2,25),(3,3)]
def tyac (i:Nat):TyD:=if i<43 then if i<39 then if i<35 then .p else .f else if i<41 then .p else if i<42 then .f else .p else if i<45 then if i<44 then .f else .l 131 else if i<47 then .t 2 [(0,44),(1,3)] else if i<48 then .l 119 else .t 13 [(0,24),(1,46),(3,47),(4,25),(5,33),(9,3),(10,4),(11,29)]
def tyad (i:Nat):TyD:=if i<59 then if i<53 then if i<52 then .f else .p else if i<54 then .l 110 else if i<56 then .t 12 [(0,52),(1,24),(2,53),(3,25),(4,33),(8,3),(9,4),(10,29)] else .f else if i<63 then if i<61 then .p else .f else if i<64 then .p else if i<65 then .l 138 else .t 10 [(0,63),(1,24),(2,64),(3,25),(4,33),(8,3),(9,4)]
def tyae (i:Nat):TyD:=if i<74 then if i<69 then if i<68 then .p else .l 3 else if i<71 then .t 3 [(0,4),(1,68),(2,3)] else if i<72 then .a 16 70 48 else .t 49 [(0,67),(1,71)] else if i<76 then if i<75 then .p else .f else if i<78 then .p else if i<79 then .f else .t 4 [(0,39),(1,59),(2,29)]
def tyaf (i:Nat):TyD:=if i<89 then if i<85 then if i<83 then .f else .t 8 [(0,3),(1,3),(2,3),(3,3),(4,3),(5,2),(6,68),(7,68)] else if i<86 then .l 84 else if i<87 then .l 115 else .t 3 [(0,3),(1,68),(2,68)] else if i<93 then if i<91 then .t 9 [(0,3),(1,3),(2,88),(5,88),(8,68)] else .t 12 [(0,3),(1,86),(2,85),(3,90)] else if i<94 then .l 92 else if i<96 then .t 4 [(0,3),(1,86),(2,86),(3,93)] else .f
def tyag (i:Nat):TyD:=if i<114 then if i<108 then if i<98 then .p else .f else if i<109 then .l 224 else if i<111 then .t 5 [(0,3),(1,3),(2,3),(3,108),(4,68)] else .f else if i<117 then if i<116 then .t 3 [(0,3),(1,3),(2,86)] else .f else if i<118 then .l 182 else if i<120 then .t 5 [(0,3),(1,3),(2,3),(3,117),(4,68)] else .t 0 []
def tyah (i:Nat):TyD:=if i<128 then if i<124 then if i<123 then .i .i64 else .p else if i<125 then .f else if i<126 then .l 267 else .t 3 [(0,125),(1,3),(2,3)] else if i<130 then if i<129 then .p else .l 278 else if i<132 then .t 4 [(0,4),(1,129),(2,3),(3,3)] else if i<135 then .f else .p
def tyai (i:Nat):TyD:=if i<142 then if i<139 then if i<137 then .f else .t 4 [(0,3),(1,3),(2,3),(3,25)] else if i<140 then .i .i64 else if i<141 then .b else .f else if i<146 then if i<143 then .p else .f else if i<147 then .l 4 else if i<149 then .t 3 [(0,25),(1,68),(2,146)] else .f
def tyaj (i:Nat):TyD:=if i<161 then if i<157 then if i<156 then .p else .f else if i<159 then .t 7 [(0,24),(1,95),(5,155),(6,86)] else if i<160 then .f else .p else if i<164 then if i<162 then .f else .t 1 [(0,146)] else if i<171 then .f else if i<172 then .p else .t 4 [(0,24),(1,29),(3,3)]
def tyak (i:Nat):TyD:=if i<184 then if i<179 then if i<178 then .f else .p else if i<181 then .f else if i<183 then .t 4 [(0,3),(1,3),(2,3),(3,2)] else .b else if i<186 then if i<185 then .f else .b else if i<187 then .f else if i<188 then .b else .f
def tyal (i:Nat):TyD:=if i<198 then if i<191 then if i<190 then .b else .f else if i<192 then .b else if i<197 then .f else .p else if i<209 then if i<207 then .f else .p else if i<210 then .f else if i<212 then .t 7 [(0,4),(1,4),(2,4),(3,4),(4,4),(5,4),(6,4)] else .b
def tyam (i:Nat):TyD:=if i<226 then if i<217 then if i<216 then .f else .b else if i<224 then .f else if i<225 then .t 4 [(0,3),(1,3),(2,3),(3,2)] else .f else if i<232 then if i<227 then .b else .f else if i<233 then .p else if i<238 then .f else .p
def tyan (i:Nat):TyD:=if i<257 then if i<244 then if i<243 then .f else .p else if i<255 then .f else if i<256 then .i .u64 else .p else if i<265 then if i<259 then .t 7 [(0,256),(1,24),(2,95),(6,86)] else .f else if i<266 then .l 272 else if i<268 then .t 4 [(0,4),(1,265),(2,3),(3,3)] else .p
def tyao (i:Nat):TyD:=if i<279 then if i<273 then if i<271 then .f else .t 2 [(0,4),(1,108)] else if i<274 then .p else if i<277 then .f else .t 2 [(0,4),(1,117)] else if i<283 then if i<280 then .p else .f else if i<284 then .i .i64 else if i<285 then .p else .f
def tyap (i:Nat):TyD:=if i<295 then if i<292 then if i<290 then .b else .f else if i<293 then .i .u32 else if i<294 then .f else .i .u64 else if i<298 then if i<297 then .t 1 [(0,146)] else .i .i64 else if i<299 then .b else if i<304 then .f else .a 15 9 15
def tyaq (i:Nat):TyD:=if i<311 then if i<307 then if i<306 then .f else .l 5 else if i<308 then .f else if i<310 then .p else .i .u64 else if i<315 then if i<314 then .f else .p else if i<317 then .f else if i<318 then .p else .f
def tyar (i:Nat):TyD:=if i<327 then if i<323 then if i<322 then .t 4 [(0,17),(1,17),(2,17),(3,9)] else .a 0 16 0 else if i<325 then .t 0 [(0,322)] else .i .u8 else if i<329 then if i<328 then .f else .p else if i<331 then .i .i32 else if i<333 then .t 11 [(0,12),(1,12),(2,292),(3,325),(4,5),(5,5),(6,326),(7,327),(8,328),(9,329),(10,330)] else .p
def tyD (i:Nat):TyD:=if i<155 then if i<67 then if i<34 then if i<18 then tyaa i else tyab i else if i<50 then tyac i else tyad i else if i<97 then if i<81 then tyae i else tyaf i else if i<122 then tyag i else if i<136 then tyah i else tyai i else if i<239 then if i<189 then if i<174 then tyaj i else tyak i else if i<213 then tyal i else tyam i else if i<289 then if i<269 then tyan i else tyao i else if i<305 then tyap i else if i<320 then tyaq i else tyar i
end Go.Proofs.YteflkifmgnpbhaaGreat
namespace Go.Proofs.YteflkifmgnpbhaaGreat
open Go.Lir

@[reducible] def Q5d:FuncId:=8
@[reducible] def Qcl:FuncId:=16
@[reducible] def Q8J:FuncId:=18
@[reducible] def Q7p:FuncId:=19
@[reducible] def QaL:FuncId:=21
@[reducible] def Q9K:FuncId:=30
@[reducible] def Q8K:FuncId:=41
@[reducible] def Qcv:FuncId:=42
@[reducible] def QdT:FuncId:=43
@[reducible] def Q8N:FuncId:=44
@[reducible] def Qbx:FuncId:=50
@[reducible] def QdZ:FuncId:=51
@[reducible] def R_F:FuncId:=52
@[reducible] def QdV:FuncId:=53
@[reducible] def QaI:FuncId:=54
@[reducible] def R_AtIns:FuncId:=55
@[reducible] def QaJ:FuncId:=56
@[reducible] def R_AtEnd:FuncId:=57
@[reducible] def Q9I:FuncId:=58
@[reducible] def Q5L:FuncId:=59
@[reducible] def QdS:FuncId:=60
@[reducible] def R_ownTo:FuncId:=61
@[reducible] def Qcf:FuncId:=62
@[reducible] def Qbr:FuncId:=64
@[reducible] def R_AtFunc:FuncId:=66
@[reducible] def Qcj:FuncId:=67
@[reducible] def Q9J:FuncId:=68
@[reducible] def Q7o:FuncId:=76
@[reducible] def QaG:FuncId:=77
@[reducible] def Q9X:FuncId:=85
@[reducible] def Qcu:FuncId:=86
@[reducible] def Q6t:FuncId:=87
@[reducible] def QbC:FuncId:=88
@[reducible] def Q2x:FuncId:=89
@[reducible] def Q80:FuncId:=90
@[reducible] def Q8M:FuncId:=91
@[reducible] def Qcm:FuncId:=93
@[reducible] def QdW:FuncId:=94
@[reducible] def Q8I:FuncId:=95
@[reducible] def QdX:FuncId:=96
@[reducible] def Qcn:FuncId:=97
@[reducible] def Q9M:FuncId:=98
@[reducible] def Q9N:FuncId:=99
@[reducible] def Q60:FuncId:=100
@[reducible] def QaK:FuncId:=101
@[reducible] def Q9L:FuncId:=102
@[reducible] def Q7m:FuncId:=103
@[reducible] def QaC:FuncId:=104
@[reducible] def Q7l:FuncId:=105
@[reducible] def Q1O:FuncId:=106
@[reducible] def Q41:FuncId:=107
@[reducible] def Q68:FuncId:=108
@[reducible] def Q54:FuncId:=109
@[reducible] def Qcc:FuncId:=110
@[reducible] def Q4l:FuncId:=111
@[reducible] def QaH:FuncId:=112
@[reducible] def QdY:FuncId:=113
@[reducible] def Qcd:FuncId:=115
@[reducible] def Qce:FuncId:=116
@[reducible] def Q81:FuncId:=128
@[reducible] def QdR:FuncId:=129
@[reducible] def R_sameTo:FuncId:=130
@[reducible] def Qck:FuncId:=131
@[reducible] def Q4N:FuncId:=144
@[reducible] def QbB:FuncId:=145
@[reducible] def Q4y:FuncId:=146
@[reducible] def Qco:FuncId:=150
@[reducible] def R_first:FuncId:=151
@[reducible] def R_DeepOf:FuncId:=152
@[reducible] def Q7q:FuncId:=153
@[reducible] def R_In:FuncId:=154
@[reducible] def QdU:FuncId:=155
@[reducible] def R_toForm:FuncId:=156
@[reducible] def Q5Z:FuncId:=157
@[reducible] def Qci:FuncId:=158
@[reducible] def Q9W:FuncId:=159
@[reducible] def Q21:FuncId:=160
@[reducible] def Q9D:FuncId:=161
@[reducible] def Q1h:FuncId:=162
@[reducible] def QbA:FuncId:=163
@[reducible] def Q7B:FuncId:=164
@[reducible] def Q7C:FuncId:=165
@[reducible] def Q5V:FuncId:=166
@[reducible] def QaF:FuncId:=167
@[reducible] def Q2X:FuncId:=200
@[reducible] def Q8l:FuncId:=201
@[reducible] def Q2p:FuncId:=203
@[reducible] def code_Ins:FuncId:=204
@[reducible] def code_End:FuncId:=208
@[reducible] def Qbz:FuncId:=211
@[reducible] def Q9V:FuncId:=212
@[reducible] def code_has:FuncId:=213
@[reducible] def QdI:FuncId:=214
@[reducible] def Q8B:FuncId:=215
@[reducible] def Q2h:FuncId:=226
@[reducible] def Q9E:FuncId:=232
@[reducible] def Q6K:FuncId:=235
@[reducible] def Q6J:FuncId:=236
@[reducible] def Q2Y:FuncId:=252
@[reducible] def Q8D:FuncId:=260
@[reducible] def Q3f:FuncId:=262
@[reducible] def Q8Q:FuncId:=263
@[reducible] def Q3A:FuncId:=265
end Go.Proofs.YteflkifmgnpbhaaGreat
namespace Go.Proofs.YteflkifmgnpbhaaGreat
open Go.Lir
set_option maxHeartbeats 1000000
attribute [local irreducible] LC.wp Q0 QB QH retQ Q1k LO.wp Qh Calls
set_option linter.unusedSimpArgs false
set_option linter.unusedVariables false
theorem size_c:∀(t:Ty){cx:Cx}{w:World}{L:List Res}{cs:List Value}{left:Int},tyR.at cx cs t→-1≤left→left≤1000000→St cx w L→
 Rets Tryz.prog Qci [.agg ⟨cs⟩, .int .i64 left] w fun v w'=>v= .int .i64 (t.size left)∧St cx w' L:=by
 intro t
 induction t using Ty.ind with
 | h k r l ih=>
   intro cx w L cs left ht h1 h2 hS
   obtain ⟨v,rfl,hl⟩:=Q9 ht
   simp only [Ty.kind,Ty.r,Ty.l] at hl ht ⊢
   have hlen:=hl.len
   rw [Ty.size]
   refine lgo tyD Tryz.func158 ?_;refine Zaw ?_;intro p2 w1 hS;refine ZaW ?_;refine zsu ?_;refine Zab ?_;refine ZaI ?_
   refine zoL hS [2] (fun A LL ρ' w'=>∃(j:Nat) (n:Int),Has ρ' A∧Has ρ' [(1, .int .i64 n),(5, .int .i64 j)]∧(j≤l.length)∧(n≤1000000)∧(-2≤n)∧(Tys.size l (left - 1)=Tys.size (l.drop j) n)∧St cx w' (LL)) (fun ρ' _=>(l.length - iv (ρ' 5)).toNat) ?_ ?_
   · exact ⟨0,left - 1,zh,zh,(by omega),(by omega),(by omega),by simp,hS.sp⟩
   rintro ρ w1 ⟨j,n,hA,hρ,hj,hn,hn1,hd,hS⟩;obtain ⟨ρ,rfl⟩:=env2 hA hρ
   refine ZaN ?_;refine zL ?_;first|(refine Q1f ?_)|(refine Q1g ?_)|(refine Qr rfl rfl (fun hc=>?_) (fun hc=>?_))
   all_goals (refine Zbb ?_;first|refine zgn ?_|(refine zgy ?_;(first|(refine Q2b ?_)|(refine Q2c ?_)|(refine Q1a rfl rfl (fun hc=>?_) (fun hc=>?_)))))
   all_goals (refine ZaK ?_)
   all_goals
    first
    | (refine zcf ?_
       all_goals (refine Zco ?_)
       all_goals (refine ⟨_,rfl,?_,hS.sp⟩;(rw [hd];congr 1;first|(rw [Tys.size_neg _ (by omega)];done)|(rw [List.drop_of_length_le (by omega),Tys.size];done));done))
    | (refine zct ?_
       refine Zar ?_;refine Zba ?_;refine ZaX ?_;intro b1 o1 cs1 x1 hat1 hx1 he1;obtain ⟨vl1,rfl,hl1⟩:=Q9 he1;refine Yaf ?_;refine zm ?_;refine zR2 (c:=ih _ (List.mem_of_getElem? (by assumption)) (by assumption) (by omega) (by omega) hS) (h:=?_);rintro v1 w1 ⟨rfl,hS⟩;refine Zab ?_;refine Zax ?_
       (exact ⟨⟨j+1,_,zh,zh,(by omega),by have:=Ty.size_rng x1 (left:=n) (by omega);omega,by have:=Ty.size_rng x1 (left:=n) (by omega);omega,by rw [hd,Q1 hx1,Tys.size,if_pos (by omega)],hS.sp⟩,Q4 (by omega)⟩))
theorem great_c {t:Ty}{cx:Cx}{w:World}{L:List Res}{cs:List Value}(ht:tyR.at cx cs t) (hS:St cx w L):
 Rets Tryz.prog QaK [.agg ⟨cs⟩] w fun v w'=>v= .bool t.great∧St cx w' L:=by
 obtain ⟨v,rfl,hl⟩:=Q9 ht
 refine lgo tyD Tryz.func101 ?_;refine Zaw ?_;intro p1 w1 hS;refine Zab ?_;refine ZaF ?_;refine zR2 (c:=size_c t ht (by omega) (by omega) hS) (h:=?_);rintro v1 w1 ⟨rfl,hS⟩;refine Q6x rfl rfl ?_;refine ZaB ?_;(((refine ⟨_,rfl,?_,hS.sp⟩;(rfl);done)))
theorem Q8t {l:List Ty}{cx:Cx}{w:World}{L:List Res}{v:Value}(hl:tyR.sl cx v l) (hS:St cx w L):
 Rets Tryz.prog Q9I [v] w fun u w'=>u= .bool (Tys.great l)∧St cx w' L:=by
 have hlen:=hl.len
 unfold Tys.great
 refine lgo tyD Tryz.func58 ?_;refine Zbx ?_;refine zL ?_;first|(refine QL ?_)|(refine QO ?_)|(refine Qd rfl rfl (fun hc=>?_) (fun hc=>?_))
 all_goals (refine zn ?_)
 all_goals
  first
  | (refine zct ?_
     refine Zas ?_
     ((refine ⟨_,rfl,?_,hS.sp⟩;(rw [decide_eq_true (by omega),Bool.true_or]);done)))
  | (refine zcf ?_
     refine zsk ?_)
 refine ZaI ?_
 refine zoL hS [0] (fun A LL ρ' w'=>∃(j:Nat),Has ρ' A∧Has ρ' [(3, .int .i64 j)]∧(j≤l.length)∧(l.any Ty.great=(l.drop j).any Ty.great)∧St cx w' (LL)) (fun ρ' _=>(l.length - iv (ρ' 3)).toNat) ?_ ?_
 · exact ⟨0,zh,zh,(by omega),by simp,hS.sp⟩
 rintro ρ w1 ⟨j,hA,hρ,hj,hd,hS⟩;obtain ⟨ρ,rfl⟩:=env2 hA hρ
 refine ZbW ?_
 refine Q5 rfl (fun hc=>?_) (fun hc=>?_)
 · skip
   refine Zar ?_;refine ZaG ?_;refine zi ?_;intro b1 o1 cs1 x1 hat1 hx1 he1;obtain ⟨vl1,rfl,hl1⟩:=Q9 he1;refine Yaf ?_;refine zR1 (c:=great_c (by assumption) hS) (h:=?_);rintro v1 w1 ⟨rfl,hS⟩;cases hg:x1.great
   all_goals (refine zn ?_)
   all_goals
    first
    | (refine zct ?_
       refine Zas ?_
       first|(refine ⟨_,rfl,?_,hS.sp⟩;rw [decide_eq_true (by omega),Bool.true_or];done)|(refine ⟨_,rfl,?_,hS.sp⟩;rw [decide_eq_false (by omega),hd,Bool.false_or,Q1 hx1,List.any_cons,hg,Bool.true_or];done))
    | (refine zcf ?_
       refine zsk ?_)
   refine Zax ?_;(exact ⟨⟨j+1,zh,zh,(by omega),by rw [hd,Q1 hx1,List.any_cons,hg,Bool.false_or],hS.sp⟩,Q4 (by omega)⟩)
 · skip
   refine ZbG ?_;(first|(refine ⟨_,rfl,?_,hS.sp⟩;rw [decide_eq_true (by omega),Bool.true_or];done)|(refine ⟨_,rfl,?_,hS.sp⟩;rw [decide_eq_false (by omega),hd,Bool.false_or,Q1 hx1,List.any_cons,hg,Bool.true_or];done)|(refine ⟨_,rfl,?_,hS.sp⟩;rw [decide_eq_false (by omega),hd,Bool.false_or,List.drop_of_length_le (by omega)];rfl;done))
theorem deep_c:∀(t:Ty){cx:Cx}{w:World}{L:List Res}{cs:List Value}{left:Int},tyR.at cx cs t→left≤1000000→St cx w L→
 Rets Tryz.prog Qbz [.agg ⟨cs⟩, .int .i64 left] w fun v w'=>v= .bool (t.deepB left)∧St cx w' L:=by
 intro t
 induction t using Ty.ind with
 | h k r l ih=>
   intro cx w L cs left ht h1 hS
   obtain ⟨v,rfl,hl⟩:=Q9 ht
   simp only [Ty.kind,Ty.r,Ty.l] at hl ht ⊢
   have hlen:=hl.len
   rw [Ty.deepB]
   refine lgo tyD Tryz.func211 ?_;refine Zaw ?_;intro p2 w1 hS;refine Zab ?_;refine Zan ?_;first|(refine Q1f ?_)|(refine Q1g ?_)|(refine Qr rfl rfl (fun hc=>?_) (fun hc=>?_))
   all_goals (refine zn ?_)
   all_goals
    first
    | (refine zct ?_
       refine Zas ?_
       ((refine ⟨_,rfl,?_,hS.sp⟩;(rw [if_pos (by omega)]);done)))
    | (refine zcf ?_
       refine zsk ?_)
   refine Zci ?_
   refine zoL hS [1,10,11] (fun A LL ρ' w'=>∃(j:Nat),Has ρ' A∧Has ρ' [(12, .int .i64 j)]∧(j≤l.length)∧(Tys.deepB l (left - 1)=Tys.deepB (l.drop j) (left - 1))∧St cx w' (LL)) (fun ρ' _=>(l.length - iv (ρ' 12)).toNat) ?_ ?_
   · exact ⟨0,zh,zh,(by omega),by simp,hS.sp⟩
   rintro ρ w1 ⟨j,hA,hρ,hj,hd,hS⟩;obtain ⟨ρ,rfl⟩:=env2 hA hρ
   refine ZaV ?_
   refine Q5 rfl (fun hc=>?_) (fun hc=>?_)
   · skip
     refine ZbT ?_;intro b1 o1 cs1 x1 hat1 hx1 he1;obtain ⟨vl1,rfl,hl1⟩:=Q9 he1;refine ZaC ?_;intro p6 w1 hS;refine zsn hS ?_;intro w1 hS;have hS:=hS.ns;refine ZbY ?_;refine zm ?_;refine zsu ?_;refine zR2 (c:=ih _ (List.mem_of_getElem? (by assumption)) (by assumption) (by omega) hS) (h:=?_);rintro v1 w1 ⟨rfl,hS⟩;cases hg:x1.deepB (left - 1)
     all_goals (refine Zbo ?_)
     all_goals
      first
      | (refine zcf ?_
         refine zsk ?_)
      | (refine zct ?_
         refine Zas ?_
         first|(refine ⟨_,rfl,?_,hS.sp⟩;rw [if_pos (by omega)];done)|(refine ⟨_,rfl,?_,hS.sp⟩;rw [if_neg (by omega),hd,Q1 hx1,Tys.deepB,hg,Bool.false_and];done))
     refine ZaP ?_;(exact ⟨⟨j+1,zh,zh,(by omega),by rw [hd,Q1 hx1,Tys.deepB,hg,Bool.true_and],hS.sp⟩,Q4 (by omega)⟩)
   · skip
     refine ZbG ?_;(first|(refine ⟨_,rfl,?_,hS.sp⟩;rw [if_pos (by omega)];done)|(refine ⟨_,rfl,?_,hS.sp⟩;rw [if_neg (by omega),hd,Q1 hx1,Tys.deepB,hg,Bool.false_and];done)|(refine ⟨_,rfl,?_,hS.sp⟩;rw [if_neg (by omega),hd,List.drop_of_length_le (by omega),Tys.deepB];done))
theorem wrong_c : ∀ (t:Ty){cx:Cx}{w:World}{L:List Res}{cs:List Value}{regs:Int},tyR.at cx cs t→St cx w L→
 Rets Tryz.prog Q9V [.agg ⟨cs⟩, .int .i64 regs] w fun v w'=>v= .int .i64 (t.wrong 8 regs)∧St cx w' L:=by
 intro t
 induction t using Ty.ind with
 | h k r l ih =>
   intro cx w L cs regs ht hS
   obtain ⟨v,rfl,hl⟩:=Q9 ht
   simp only [Ty.kind,Ty.r,Ty.l] at hl ht ⊢
   have hlen:=hl.len
   rw [Ty.wrong]
   refine lgo tyD Tryz.func212 ?_;refine Zaw ?_;intro p2 w1 hS;refine Zab ?_
   refine zML hS [1,2] (fun A LL ρ' w'=>Has ρ' A∧Has ρ' []∧(1≤k∧k≤4∧k≠1∧(k≠3→l.length=0)∧l.length≤8)∧St cx w' (LL)) ?_ ?_
   · skip
     refine Zao ?_;refine Zcu ?_;refine Zaa ?_;first|(refine Qp ?_)|(refine Qu ?_)|(refine Q7 rfl rfl (fun hc=>?_) (fun hc=>?_))
     all_goals (refine Zab ?_)
     all_goals
      first
      | (refine zct ?_
         refine ZaJ ?_;first|(refine Qy ?_)|(refine Qz ?_)|(refine Qa rfl rfl (fun hc=>?_) (fun hc=>?_))
         all_goals (refine ZbI ?_;first|refine zgn ?_|(refine zgy ?_;(first|(refine QL ?_)|(refine QO ?_)|(refine Qd rfl rfl (fun hc=>?_) (fun hc=>?_)))))
         all_goals (refine ZaK ?_)
         all_goals
          first
          | (refine zct ?_
             all_goals (refine Zas ?_)
             all_goals (refine ⟨_,rfl,?_,hS.sp⟩;(repeat (first|rw [if_pos (by omega)]|rw [if_neg (by omega)]));done))
          | (refine zcf ?_
             refine zsk ?_)
         refine Zas ?_
         first|(refine ⟨_,rfl,?_,hS.sp⟩;(repeat (first|rw [if_pos (by omega)]|rw [if_neg (by omega)]));done)|(refine ⟨_,rfl,?_,hS.sp⟩;((repeat (first|rw [if_pos (by omega)]|rw [if_neg (by omega)]));rw [hd,Q1 hx1,Tys.wrong,if_pos (by assumption)]);done)|(refine ⟨_,rfl,?_,hS.sp⟩;((repeat (first|rw [if_pos (by omega)]|rw [if_neg (by omega)]));rw [List.eq_nil_of_length_eq_zero (l:=l) (by omega),Tys.wrong]);done))
      | (refine zcf ?_
         refine Zbt ?_;first|(refine Qp ?_)|(refine Qu ?_)|(refine Q7 rfl rfl (fun hc=>?_) (fun hc=>?_))
         all_goals (refine Zab ?_)
         all_goals
          first
          | (refine zct ?_
             refine zsk ?_)
          | (refine zcf ?_
             refine Q1z ?_;first|(refine Qp ?_)|(refine Qu ?_)|(refine Q7 rfl rfl (fun hc=>?_) (fun hc=>?_))
             all_goals (refine zm ?_)
             all_goals refine zn ?_)
         all_goals
          first
          | (refine zct ?_
             all_goals (refine Zao ?_;refine zL ?_;first|(refine QL ?_)|(refine QO ?_)|(refine Qd rfl rfl (fun hc=>?_) (fun hc=>?_)))
             all_goals (refine zn ?_)
             all_goals
              first
              | (refine zct ?_
                 all_goals (refine Zas ?_)
                 all_goals (refine ⟨_,rfl,?_,hS.sp⟩;(repeat (first|rw [if_pos (by omega)]|rw [if_neg (by omega)]));done))
              | (refine zcf ?_
                 all_goals refine zsk ?_))
          | (refine zcf ?_
             refine Zaa ?_;first|(refine Qp ?_)|(refine Qu ?_)|(refine Q7 rfl rfl (fun hc=>?_) (fun hc=>?_))
             all_goals (refine Zab ?_)
             all_goals
              first
              | (refine zct ?_
                 refine Zao ?_;refine zL ?_;first|(refine QL ?_)|(refine QO ?_)|(refine Qd rfl rfl (fun hc=>?_) (fun hc=>?_))
                 all_goals (refine zn ?_)
                 all_goals
                  first
                  | (refine zct ?_
                     refine Zas ?_
                     ((refine ⟨_,rfl,?_,hS.sp⟩;((repeat (first|rw [if_pos (by omega)]|rw [if_neg (by omega)])));done)))
                  | (refine zcf ?_
                     refine zsk ?_))
              | (refine zcf ?_
                 refine Zas ?_
                 ((refine ⟨_,rfl,?_,hS.sp⟩;((repeat (first|rw [if_pos (by omega)]|rw [if_neg (by omega)])));done)))))
     all_goals (exact ⟨zh,zh,by omega,hS.sp⟩)
   rintro ρ w1 ⟨hA,hρ,hk,hS⟩;obtain ⟨ρ,rfl⟩:=env2 hA hρ
   refine ZaJ ?_;first|(refine Q1f ?_)|(refine Q1g ?_)|(refine Qr rfl rfl (fun hc=>?_) (fun hc=>?_))
   all_goals (refine Zav ?_;refine Yac ?_;first|refine zgn ?_|(refine zgy ?_;(first|(refine Q2b ?_)|(refine Q2c ?_)|(refine Q1a rfl rfl (fun hc=>?_) (fun hc=>?_)))))
   all_goals (refine ZaK ?_)
   all_goals
    first
    | (refine zct ?_
       all_goals (refine Zas ?_)
       all_goals (refine ⟨_,rfl,?_,hS.sp⟩;(repeat (first|rw [if_pos (by omega)]|rw [if_neg (by omega)]));done))
    | (refine zcf ?_
       refine zsk ?_)
   refine Zci ?_
   refine zoL hS [1,44,45] (fun A LL ρ' w'=>∃(j:Nat),Has ρ' A∧Has ρ' [(46, .int .i64 j)]∧(j≤l.length)∧(Tys.wrong 8 l regs=Tys.wrong 8 (l.drop j) regs)∧St cx w' (LL)) (fun ρ' _=>(l.length - iv (ρ' 46)).toNat) ?_ ?_
   · exact ⟨0,zh,zh,(by omega),by simp,hS.sp⟩
   rintro ρ w1 ⟨j,hA,hρ,hj,hd,hS⟩;obtain ⟨ρ,rfl⟩:=env2 hA hρ
   refine ZaV ?_
   refine Q5 rfl (fun hc=>?_) (fun hc=>?_)
   · skip
     refine ZbT ?_;intro b1 o1 cs1 x1 hat1 hx1 he1;obtain ⟨vl1,rfl,hl1⟩:=Q9 he1;refine ZaC ?_;intro p6 w1 hS;refine zsn hS ?_;intro w1 hS;have hS:=hS.ns;refine ZbY ?_;refine zm ?_;refine zR2 (c:=ih _ (List.mem_of_getElem? (by assumption)) (by assumption) hS) (h:=?_);rintro v1 w1 ⟨rfl,hS⟩;refine ZaW ?_;first|(refine Qy ?_)|(refine Qz ?_)|(refine Qa rfl rfl (fun hc=>?_) (fun hc=>?_))
     all_goals (refine zn ?_)
     all_goals
      first
      | (refine zct ?_
         refine Zbk ?_
         first|(refine ⟨_,rfl,?_,hS.sp⟩;(repeat (first|rw [if_pos (by omega)]|rw [if_neg (by omega)]));done)|(refine ⟨_,rfl,?_,hS.sp⟩;((repeat (first|rw [if_pos (by omega)]|rw [if_neg (by omega)]));rw [hd,Q1 hx1,Tys.wrong,if_pos (by assumption)]);done))
      | (refine zcf ?_
         refine zsk ?_)
     refine ZaP ?_;(exact ⟨⟨j+1,zh,zh,(by omega),by rw [hd,Q1 hx1,Tys.wrong,if_neg (by omega)],hS.sp⟩,Q4 (by omega)⟩)
   · skip
     refine ZbG ?_;(first|(refine ⟨_,rfl,?_,hS.sp⟩;(repeat (first|rw [if_pos (by omega)]|rw [if_neg (by omega)]));done)|(refine ⟨_,rfl,?_,hS.sp⟩;((repeat (first|rw [if_pos (by omega)]|rw [if_neg (by omega)]));rw [hd,Q1 hx1,Tys.wrong,if_pos (by assumption)]);done)|(refine ⟨_,rfl,?_,hS.sp⟩;((repeat (first|rw [if_pos (by omega)]|rw [if_neg (by omega)]));rw [List.eq_nil_of_length_eq_zero (l:=l) (by omega),Tys.wrong]);done)|(refine ⟨_,rfl,?_,hS.sp⟩;((repeat (first|rw [if_pos (by omega)]|rw [if_neg (by omega)]));rw [hd,List.drop_of_length_le (by omega),Tys.wrong]);done))
theorem QaT {t:Ty}{cx:Cx}{w:World}{L:List Res}{cs:List Value}{regs:Int}(ht:tyR.at cx cs t) (hS:St cx w L):
 Rets Tryz.prog Q9W [.agg ⟨cs⟩, .int .i64 regs] w fun v w'=>v= .int .i64 (t.fault regs)∧St cx w' L:=by
 obtain ⟨v,rfl,hl⟩:=Q9 ht
 unfold Ty.fault
 refine lgo tyD Tryz.func159 ?_;refine Zaw ?_;intro p2 w1 hS;refine Zab ?_;refine QJ ?_;refine ZaF ?_;refine zR2 (c:=deep_c t ht (by omega) hS) (h:=?_);rintro v1 w1 ⟨rfl,hS⟩;cases hg:t.deepB 4
 all_goals (refine Zbo ?_)
 all_goals
  first
  | (refine zct ?_
     refine Zas ?_
     ((refine ⟨_,rfl,?_,hS.sp⟩;(rfl);done)))
  | (refine zcf ?_
     refine zsk ?_)
 refine ZaF ?_;refine zm ?_;refine zR2 (c:=wrong_c t ht hS) (h:=?_);rintro v1 w1 ⟨rfl,hS⟩;refine ZaB ?_;(refine ⟨_,rfl,?_,hS.sp⟩;(rfl);done)
theorem QdG:∀(t:Ty){cx:Cx}{w:World}{L:List Res}{cs:List Value}{most:Int},tyR.at cx cs t→0≤most→most≤1000→St cx w L→
 Rets Tryz.prog R_DeepOf [.agg ⟨cs⟩, .int .i64 most] w fun v w'=>v= .int .i64 (t.depth most)∧St cx w' L:=by
 intro t
 induction t using Ty.ind with
 | h k r l ih=>
   intro cx w L cs most ht h0 h1 hS
   obtain ⟨v,rfl,hl⟩:=Q9 ht
   simp only [Ty.kind,Ty.r,Ty.l] at hl ht ⊢
   have hlen:=hl.len
   rw [Ty.depth]
   refine lgo tyD Tryz.func152 ?_;refine Zaw ?_;intro p2 w1 hS;refine Zab ?_;refine Zaf ?_;refine ZaI ?_
   refine zoL hS [1,2] (fun A LL ρ' w'=>∃(j:Nat) (n:Int),Has ρ' A∧Has ρ' [(5, .int .i64 n),(6, .int .i64 j)]∧(j≤l.length)∧(0≤n)∧(n≤1002)∧(Tys.depth l most 0=Tys.depth (l.drop j) most n)∧St cx w' (LL)) (fun ρ' _=>(l.length - iv (ρ' 6)).toNat) ?_ ?_
   · exact ⟨0,0,zh,zh,(by omega),(by omega),(by omega),by simp,hS.sp⟩
   rintro ρ w1 ⟨j,n,hA,hρ,hj,hn0,hn,hd,hS⟩;obtain ⟨ρ,rfl⟩:=env2 hA hρ
   refine ZaN ?_;refine zL ?_;first|(refine Q1f ?_)|(refine Q1g ?_)|(refine Qr rfl rfl (fun hc=>?_) (fun hc=>?_))
   all_goals (refine Zbb ?_;refine Yac ?_;first|refine zgn ?_|(refine zgy ?_;(first|(refine zleqt ?_)|(refine zleqf ?_)|(refine s_leq_s rfl rfl (fun hc=>?_) (fun hc=>?_)))))
   all_goals (refine ZaK ?_)
   all_goals
    first
    | (refine zcf ?_
       all_goals (refine Zco ?_)
       all_goals (first|(refine ⟨_,rfl,?_,hS.sp⟩;rw [hd];cases hx:l.drop j with|nil=>exact absurd (List.drop_eq_nil_iff.1 hx) (by omega)|cons y m=>rw [Tys.depth,if_pos (by omega),if_pos (by omega)];done)|(refine ⟨_,rfl,?_,hS.sp⟩;rw [hd,List.drop_of_length_le (by omega),Tys.depth];done)|(refine ⟨_,rfl,?_,hS.sp⟩;rw [hd];cases hx:l.drop j with|nil=>rw [Tys.depth]|cons y m=>rw [Tys.depth,if_neg (by omega)];done)))
    | (refine zct ?_
       refine Zar ?_;refine Zan ?_;first|(refine Qp ?_)|(refine Qu ?_)|(refine Q7 rfl rfl (fun hc=>?_) (fun hc=>?_))
       all_goals (refine zn ?_)
       all_goals
        first
        | (refine zct ?_
           refine Zas ?_
           ((refine ⟨_,rfl,?_,hS.sp⟩;(rw [hd];cases hx:l.drop j with|nil=>exact absurd (List.drop_eq_nil_iff.1 hx) (by omega)|cons y m=>rw [Tys.depth,if_pos (by omega),if_pos (by omega)]);done)))
        | (refine zcf ?_
           refine zsk ?_)
       refine ZbC ?_;intro b1 o1 cs1 x1 hat1 hx1 he1;obtain ⟨vl1,rfl,hl1⟩:=Q9 he1;refine Yaf ?_;refine zm ?_;refine zsu ?_;have hb:=Ty.depth_rng x1 (most:=most - 1) (by omega);refine zR2 (c:=ih _ (List.mem_of_getElem? (by assumption)) (by assumption) (by omega) (by omega) hS) (h:=?_);rintro v1 w1 ⟨rfl,hS⟩;refine Zap ?_;refine ZaG ?_;first|(refine QL ?_)|(refine QO ?_)|(refine Qd rfl rfl (fun hc=>?_) (fun hc=>?_))
       all_goals (refine zn ?_)
       all_goals
        first
        | (refine zct ?_
           refine Zbc ?_
           refine zn ?_)
        | (refine zcf ?_
           refine zsk ?_)
       all_goals (refine Zax ?_)
       all_goals (first|(exact ⟨⟨j+1,_,zh,zh,(by omega),(by omega),(by omega),by rw [hd,Q1 hx1,Tys.depth,if_pos (by omega),if_neg (by omega),if_pos (by omega)],hS.sp⟩,Q4 (by omega)⟩)|(exact ⟨⟨j+1,_,zh,zh,(by omega),(by omega),(by omega),by rw [hd,Q1 hx1,Tys.depth,if_pos (by omega),if_neg (by omega),if_neg (by omega)],hS.sp⟩,Q4 (by omega)⟩)))
theorem rwrong_c:∀(t:Ty){cx:Cx}{w:World}{L:List Res}{cs:List Value}{regs:Int},tyR.at cx cs t→St cx w L→
 Rets Tryz.prog QaF [.agg ⟨cs⟩, .int .i64 regs] w fun v w'=>v= .int .i64 (t.wrong 8 regs)∧St cx w' L:=by
 intro t
 induction t using Ty.ind with
 | h k r l ih=>
   intro cx w L cs regs ht hS
   obtain ⟨v,rfl,hl⟩:=Q9 ht
   simp only [Ty.kind,Ty.r,Ty.l] at hl ht ⊢
   have hlen:=hl.len
   rw [Ty.wrong]
   refine lgo tyD Tryz.func167 ?_;refine Zaw ?_;intro p2 w1 hS;refine Zab ?_;refine ZaJ ?_;first|(refine Q1f ?_)|(refine Q1g ?_)|(refine Qr rfl rfl (fun hc=>?_) (fun hc=>?_))
   all_goals (refine Zav ?_;first|refine zgn ?_|(refine zgy ?_;(first|(refine QL ?_)|(refine QO ?_)|(refine Qd rfl rfl (fun hc=>?_) (fun hc=>?_)))))
   all_goals (refine ZaK ?_)
   all_goals
    first
    | (refine zct ?_
       all_goals (refine Zas ?_)
       all_goals (refine ⟨_,rfl,?_,hS.sp⟩;(repeat (first|rw [if_pos (by omega)]|rw [if_neg (by omega)]));done))
    | (refine zcf ?_
       refine zsk ?_)
   refine zML hS [1,2] (fun A LL ρ' w'=>Has ρ' A∧Has ρ' []∧(1≤k∧k≤4∧(k=1→r=0)∧(k≠3→l.length=0))∧St cx w' (LL)) ?_ ?_
   · skip
     refine Zao ?_;first|(refine Qp ?_)|(refine Qu ?_)|(refine Q7 rfl rfl (fun hc=>?_) (fun hc=>?_))
     all_goals (refine Zav ?_;first|refine zgn ?_|(refine zgy ?_;(first|(refine Qy ?_)|(refine Qz ?_)|(refine Qa rfl rfl (fun hc=>?_) (fun hc=>?_)))))
     all_goals (refine Yad ?_;refine Zav ?_;first|refine zgn ?_|(refine zgy ?_;(first|(refine Qy ?_)|(refine Qz ?_)|(refine Qa rfl rfl (fun hc=>?_) (fun hc=>?_)))))
     all_goals (refine Zbw ?_;refine Yai ?_;first|refine zgn ?_|(refine zgy ?_;(first|(refine QL ?_)|(refine QO ?_)|(refine Qd rfl rfl (fun hc=>?_) (fun hc=>?_)))))
     all_goals (refine Yaj ?_;refine ZaK ?_)
     all_goals
      first
      | (refine zct ?_
         all_goals (refine Zas ?_)
         all_goals (refine ⟨_,rfl,?_,hS.sp⟩;(repeat (first|rw [if_pos (by omega)]|rw [if_neg (by omega)]));done))
      | (refine zcf ?_
         all_goals refine zsk ?_)
     all_goals (exact ⟨zh,zh,by omega,hS.sp⟩)
   rintro ρ w1 ⟨hA,hρ,hk,hS⟩;obtain ⟨ρ,rfl⟩:=env2 hA hρ
   refine ZaJ ?_;refine zL ?_;first|(refine QL ?_)|(refine QO ?_)|(refine Qd rfl rfl (fun hc=>?_) (fun hc=>?_))
   all_goals (refine zn ?_)
   all_goals
    first
    | (refine zct ?_
       refine Zas ?_
       ((refine ⟨_,rfl,?_,hS.sp⟩;((repeat (first|rw [if_pos (by omega)]|rw [if_neg (by omega)])));done)))
    | (refine zcf ?_
       refine zsk ?_)
   refine zML hS [1,2] (fun A LL ρ' w'=>Has ρ' A∧Has ρ' []∧(l.length≤8)∧(k≠1→0≤r∧r<regs)∧St cx w' (LL)) ?_ ?_
   · skip
     refine Zao ?_;first|(refine Qy ?_)|(refine Qz ?_)|(refine Qa rfl rfl (fun hc=>?_) (fun hc=>?_))
     all_goals (refine Zav ?_;first|refine zgn ?_|(refine zgy ?_;(first|(refine Q1f ?_)|(refine Q1g ?_)|(refine Qr rfl rfl (fun hc=>?_) (fun hc=>?_)))))
     all_goals (refine Zbw ?_;refine Yac ?_;first|refine zgn ?_|(refine zgy ?_;(first|(refine Q2b ?_)|(refine Q2c ?_)|(refine Q1a rfl rfl (fun hc=>?_) (fun hc=>?_)))))
     all_goals (refine Yaj ?_;refine ZaK ?_)
     all_goals
      first
      | (refine zct ?_
         all_goals (refine Zas ?_)
         all_goals (refine ⟨_,rfl,?_,hS.sp⟩;(repeat (first|rw [if_pos (by omega)]|rw [if_neg (by omega)]));done))
      | (refine zcf ?_
         all_goals refine zsk ?_)
     all_goals (exact ⟨zh,zh,by omega,by omega,hS.sp⟩)
   rintro ρ w1 ⟨hA,hρ,hk2,hk3,hS⟩;obtain ⟨ρ,rfl⟩:=env2 hA hρ
   refine ZaI ?_
   refine zoL hS [1,2] (fun A LL ρ' w'=>∃(j:Nat),Has ρ' A∧Has ρ' [(5, .int .i64 j)]∧(j≤l.length)∧(Tys.wrong 8 l regs=Tys.wrong 8 (l.drop j) regs)∧St cx w' (LL)) (fun ρ' _=>(l.length - iv (ρ' 5)).toNat) ?_ ?_
   · exact ⟨0,zh,zh,(by omega),by simp,hS.sp⟩
   rintro ρ w1 ⟨j,hA,hρ,hj,hd,hS⟩;obtain ⟨ρ,rfl⟩:=env2 hA hρ
   refine Zbl ?_
   refine Q5 rfl (fun hc=>?_) (fun hc=>?_)
   · skip
     refine ZbZ ?_;intro b1 o1 cs1 x1 hat1 hx1 he1;obtain ⟨vl1,rfl,hl1⟩:=Q9 he1;refine Yaf ?_;refine zm ?_;refine zR2 (c:=ih _ (List.mem_of_getElem? (by assumption)) (by assumption) hS) (h:=?_);rintro v1 w1 ⟨rfl,hS⟩;refine ZaW ?_;first|(refine Qy ?_)|(refine Qz ?_)|(refine Qa rfl rfl (fun hc=>?_) (fun hc=>?_))
     all_goals (refine zn ?_)
     all_goals
      first
      | (refine zct ?_
         refine Zbk ?_
         first|(refine ⟨_,rfl,?_,hS.sp⟩;(repeat (first|rw [if_pos (by omega)]|rw [if_neg (by omega)]));done)|(refine ⟨_,rfl,?_,hS.sp⟩;((repeat (first|rw [if_pos (by omega)]|rw [if_neg (by omega)]));rw [hd,Q1 hx1,Tys.wrong,if_pos (by assumption)]);done))
      | (refine zcf ?_
         refine zsk ?_)
     refine Zax ?_;(exact ⟨⟨j+1,zh,zh,(by omega),by rw [hd,Q1 hx1,Tys.wrong,if_neg (by omega)],hS.sp⟩,Q4 (by omega)⟩)
   · skip
     refine ZbG ?_;(first|(refine ⟨_,rfl,?_,hS.sp⟩;(repeat (first|rw [if_pos (by omega)]|rw [if_neg (by omega)]));done)|(refine ⟨_,rfl,?_,hS.sp⟩;((repeat (first|rw [if_pos (by omega)]|rw [if_neg (by omega)]));rw [hd,Q1 hx1,Tys.wrong,if_pos (by assumption)]);done)|(refine ⟨_,rfl,?_,hS.sp⟩;((repeat (first|rw [if_pos (by omega)]|rw [if_neg (by omega)]));rw [hd,List.drop_of_length_le (by omega),Tys.wrong]);done))
theorem QcS {t:Ty}{cx:Cx}{w:World}{L:List Res}{cs:List Value}{regs:Int}(ht:tyR.at cx cs t) (hS:St cx w L):
 Rets Tryz.prog QaH [.agg ⟨cs⟩, .int .i64 regs] w fun v w'=>v= .int .i64 (t.fault regs)∧St cx w' L:=by
 obtain ⟨v,rfl,hl⟩:=Q9 ht
 have hdp:=Ty.depth_iff t (most:=4) (by omega)
 unfold Ty.fault
 refine lgo tyD Tryz.func112 ?_;refine Zaw ?_;intro p2 w1 hS;refine Zab ?_;refine QJ ?_;refine ZaF ?_;refine zR2 (c:=QdG t ht (by omega) (by omega) hS) (h:=?_);rintro v1 w1 ⟨rfl,hS⟩;first|(refine QL ?_)|(refine QO ?_)|(refine Qd rfl rfl (fun hc=>?_) (fun hc=>?_))
 all_goals (refine zn ?_)
 all_goals
  first
  | (refine zct ?_
     refine Zas ?_
     ((refine ⟨_,rfl,?_,hS.sp⟩;(rw [if_pos];cases hg:t.deepB 4<;>simp_all<;>omega);done)))
  | (refine zcf ?_
     refine zsk ?_)
 refine QJ ?_;refine Q1z ?_;refine zv hS ?_;refine zm ?_;refine zR2 (c:=rwrong_c t ht hS) (h:=?_);rintro v1 w1 ⟨rfl,hS⟩;refine zm ?_;refine zn ?_;refine zr ?_;refine zf ?_;first|(refine ⟨_,rfl,?_,hS.sp⟩;(rw [if_pos];cases hg:t.deepB 4<;>simp_all<;>omega);done)|(refine ⟨_,rfl,?_,hS.sp⟩;(rw [if_neg];cases hg:t.deepB 4<;>simp_all<;>omega);done)
end Go.Proofs.YteflkifmgnpbhaaGreat
namespace Go.Proofs.YteflkifmgnpbhaaGreat
open Go.Lir
set_option maxRecDepth 100000
theorem Q7i:Q2f Tryz.prog 22=some (95,4,80,[(.int .i64 0),(.slice none 0 0),(.slice none 0 0),(.slice none 0 0)]):=by kernel_rfl
theorem Q9U:∃e2,Tryz.prog.underlying 22=some (.slice e2):=⟨95,by kernel_rfl⟩
theorem Q3a:Q2f Tryz.prog 68=some (3,1,8,[(.int .i64 0)]):=by kernel_rfl
theorem Q61:∃e2,Tryz.prog.underlying 68=some (.slice e2):=⟨3,by kernel_rfl⟩
theorem Qbq:Q2f Tryz.prog 85=some (84,8,96,[(.int .i64 0),(.int .i64 0),(.int .i64 0),(.int .i64 0),(.int .i64 0),(.int .i64 0),(.slice none 0 0),(.slice none 0 0)]):=by kernel_rfl
theorem u_T85:∃e2,Tryz.prog.underlying 85=some (.slice e2):=⟨84,by kernel_rfl⟩
theorem Q2u:Q2f Tryz.prog 86=some (115,3,40,[(.int .i64 0),(.int .i64 0),(.slice none 0 0)]):=by kernel_rfl
theorem Q4k:∃e2,Tryz.prog.underlying 86=some (.slice e2):=⟨115,by kernel_rfl⟩
theorem Q7h:Q2f Tryz.prog 93=some (92,12,208,[(.int .i64 0),(.slice none 0 0),(.slice none 0 0),(.int .i64 0),(.int .i64 0),(.int .i64 0),(.slice none 0 0),(.slice none 0 0),(.int .i64 0),(.slice none 0 0),(.slice none 0 0),(.slice none 0 0)]):=by kernel_rfl
theorem Q9T:∃e2,Tryz.prog.underlying 93=some (.slice e2):=⟨92,by kernel_rfl⟩
theorem Q3Z:Q2f Tryz.prog 146=some (4,1,1,[(.bool false)]):=by kernel_rfl
theorem QaQ:∃e2,Tryz.prog.underlying 146=some (.slice e2):=⟨4,by kernel_rfl⟩
end Go.Proofs.YteflkifmgnpbhaaGreat
namespace Go.Proofs.YteflkifmgnpbhaaGreat
open Go.Lir
set_option maxHeartbeats 1000000
attribute [local irreducible] LC.wp Q0 QB QH retQ Q1k LO.wp Qh Calls
set_option linter.unusedSimpArgs false
set_option linter.unusedVariables false
theorem Qb0 {l:List Ty}(hlen:l.length≤100000) (ih:∀x∈l,∀{cx:Cx}{w:World}{L:List Res}{cs:List Value},tyR.at cx cs x→St cx w L→Rets Tryz.prog Q9L [.agg ⟨cs⟩] w fun u w'=>∃c' ds,u= .agg ⟨ds⟩∧cx.Le c'∧tyR.at c' ds x∧St c' w' L)
 {cx:Cx}{w:World}{L:List Res}{v:Value}(hl:tyR.sl cx v l) (hS:St cx w L):Rets Tryz.prog Q5L [v] w fun u w'=>∃c',cx.Le c'∧tyR.sl c' u l∧St c' w' L:=by
 refine lgo tyD Tryz.func59 ?_;refine Zaf ?_;refine Zaf ?_;refine ZaI ?_
 refine zoL hS [0] (fun A LL ρ' w'=>∃(c1:Cx) (j:Nat) (u:Value) (css:List (List Value)),Has ρ' A∧Has ρ' [(3,u),(4, .int .i64 j)]∧(cx.Le c1)∧(j≤l.length)∧(tyR.ls c1 css (l.take j))∧(oneC u=true)∧St c1 w' (sl 115 3 u css::LL)) (fun ρ' _=>(l.length - iv (ρ' 4)).toNat) ?_ ?_
 · exact ⟨cx,0, .slice none 0 0,[],zh,zh,St.refl hS,(by omega),Rep.LR.nil _ _ _,rfl,by have hS:=hS.nil (T:=115) (es:=3);exact hS⟩
 rintro ρ w1 ⟨c1,j,u,css,hA,hρ,hle,hj,hls,hu,hS⟩;obtain ⟨ρ,rfl⟩:=env2 hA hρ;have hl:=Rep.SR.up hl hle
 refine ZbW ?_
 refine Q5 rfl (fun hc=>?_) (fun hc=>?_)
 · skip
   refine Zar ?_;refine Zbc ?_;refine ZaX ?_;intro b1 o1 cs1 x1 hat1 hx1 he1;obtain ⟨vl1,rfl,hl1⟩:=Q9 he1;refine Yaf ?_;refine zR1 (c:=ih _ (List.mem_of_getElem? hx1) he1 hS) (h:=?_);rintro v1 w1 ⟨c2,ds,rfl,hle2,hd,hS⟩;obtain ⟨v2,rfl,hv2⟩:=Q9 hd;have hls:=Rep.LR.up hls hle2;refine zB1 hS [_,_,_] ?_;intro b1 w1 hS;refine za Q2u Q4k hS ?_;intro vp1 w1 css1 hls1 hv1 hS;have hS:=hS.ns;refine Zab ?_;refine Zax ?_;(exact ⟨⟨c2,j+1,_,_,zh,zh,hle.trans hle2,(by omega),by rw [Qq hx1];assumption,by assumption,hS.sp⟩,Q4 (by omega)⟩)
 · skip
   refine Zco ?_;(obtain ⟨c3,hle3,hS,hl3⟩:=St.freezeL (r:=tyR) (l:=l) (T:=115) (es:=3) (v:=u) (css:=css) (L:=L) hS.sp (by rw [List.take_of_length_le (by omega)] at hls;exact hls) rfl (by omega);exact ⟨_,rfl,c3,hle.trans hle3,hl3,hS⟩)
theorem rown_c:∀(t:Ty),t.Short→∀{cx:Cx}{w:World}{L:List Res}{cs:List Value},tyR.at cx cs t→St cx w L→
 Rets Tryz.prog Q9L [.agg ⟨cs⟩] w fun u w'=>∃c' ds,u= .agg ⟨ds⟩∧cx.Le c'∧tyR.at c' ds t∧St c' w' L:=by
 intro t
 induction t using Ty.ind with
 | h k r l ih=>
   intro hs cx w L cs ht hS
   obtain ⟨v,rfl,hl⟩:=Q9 ht
   simp only [Ty.kind,Ty.r,Ty.l] at hl ht ⊢
   obtain ⟨hlen,hsub⟩:=hs.parts
   refine lgo tyD Tryz.func102 ?_;refine Zaw ?_;intro p1 w1 hS;refine Qb hS ?_;(intro p2 w1 hS);refine Zbe ?_;refine zC [(0,none),(1,none),(2,none),(3,none),(4,none),(5,none),(6,some (some [1,3])),(7,none),(8,some none)] ?_;have hS:=hS.drew;refine Zcq ?_;refine zR1 (c:=Qb0 hlen (fun x hx=>ih x hx (hsub x hx)) hl hS) (h:=?_);rintro v1 w1 ⟨c1,hle,hl1,hS⟩;obtain ⟨a1,n1,rfl⟩:=Rep.SR.shape hl1;refine ZaM ?_;refine zb3 [_,_,_] ?_;refine ZaE ?_;((refine zsn hS ?_;intro w1 hS;have hS:=hS.ns));refine ZaA ?_;refine zr ?_;refine QK vw (Q3 (n:=3) (by kernel_rfl) (by kernel_rfl) (hS.blkAt fd) (by rfl) (by rfl)) ?_;((exact ⟨_,rfl,c1,_,rfl,hle,Q1d hl1,hS.sp⟩))
theorem Q1P {l:List Ty}(hlen:l.length≤100000) (hs:∀x∈l,x.Short){cx:Cx}{w:World}{L:List Res}{v:Value}(hl:tyR.sl cx v l) (hS:St cx w L):Rets Tryz.prog Q5L [v] w fun u w'=>∃c',cx.Le c'∧tyR.sl c' u l∧St c' w' L:=
 Qb0 hlen (fun x hx=>rown_c x (hs x hx)) hl hS
theorem Qb6 {l:List Ty}(hlen:l.length≤100000) (ih:∀x∈l,∀{cx:Cx}{w:World}{L:List Res}{cs:List Value},tyR.at cx cs x→St cx w L→Rets Tryz.prog Q5V [.agg ⟨cs⟩] w fun u w'=>∃c' ds,u= .agg ⟨ds⟩∧cx.Le c'∧tyR.at c' ds x∧St c' w' L)
 {cx:Cx}{w:World}{L:List Res}{v:Value}(hl:tyR.sl cx v l) (hS:St cx w L):Rets Tryz.prog Q54 [v] w fun u w'=>∃c',cx.Le c'∧tyR.sl c' u l∧St c' w' L:=by
 refine lgo tyD Tryz.func109 ?_;refine Zaf ?_;refine Zbx ?_;refine Zbi ?_
 refine zoL hS [6,7] (fun A LL ρ' w'=>∃(c1:Cx) (j:Nat) (u:Value) (css:List (List Value)),Has ρ' A∧Has ρ' [(3,u),(8, .int .i64 j)]∧(cx.Le c1)∧(j≤l.length)∧(tyR.ls c1 css (l.take j))∧(oneC u=true)∧St c1 w' (sl 115 3 u css::LL)) (fun ρ' _=>(l.length - iv (ρ' 8)).toNat) ?_ ?_
 · exact ⟨cx,0, .slice none 0 0,[],zh,zh,St.refl hS,(by omega),Rep.LR.nil _ _ _,rfl,by have hS:=hS.nil (T:=115) (es:=3);exact hS⟩
 rintro ρ w1 ⟨c1,j,u,css,hA,hρ,hle,hj,hls,hu,hS⟩;obtain ⟨ρ,rfl⟩:=env2 hA hρ;have hl:=Rep.SR.up hl hle
 refine ZaV ?_
 refine Q5 rfl (fun hc=>?_) (fun hc=>?_)
 · skip
   refine ZbT ?_;intro b1 o1 cs1 x1 hat1 hx1 he1;obtain ⟨vl1,rfl,hl1⟩:=Q9 he1;refine ZaC ?_;intro p5 w1 hS;refine zsn hS ?_;intro w1 hS;have hS:=hS.ns;refine zn ?_;refine ZbL ?_;refine zR1 (c:=ih _ (List.mem_of_getElem? hx1) he1 hS) (h:=?_);rintro v1 w1 ⟨c2,ds,rfl,hle2,hd,hS⟩;obtain ⟨v2,rfl,hv2⟩:=Q9 hd;have hls:=Rep.LR.up hls hle2;refine zB1 hS [_,_,_] ?_;intro b1 w1 hS;refine za Q2u Q4k hS ?_;intro vp1 w1 css1 hls1 hv1 hS;have hS:=hS.ns;refine Zab ?_;refine ZaP ?_;(exact ⟨⟨c2,j+1,_,_,zh,zh,hle.trans hle2,(by omega),by rw [Qq hx1];assumption,by assumption,hS.sp⟩,Q4 (by omega)⟩)
 · skip
   refine Zco ?_;(obtain ⟨c3,hle3,hS,hl3⟩:=St.freezeL (r:=tyR) (l:=l) (T:=115) (es:=3) (v:=u) (css:=css) (L:=L) hS.sp (by rw [List.take_of_length_le (by omega)] at hls;exact hls) rfl (by omega);exact ⟨_,rfl,c3,hle.trans hle3,hl3,hS⟩)
theorem pown_c:∀(t:Ty),t.Short→∀{cx:Cx}{w:World}{L:List Res}{cs:List Value},tyR.at cx cs t→St cx w L→
 Rets Tryz.prog Q5V [.agg ⟨cs⟩] w fun u w'=>∃c' ds,u= .agg ⟨ds⟩∧cx.Le c'∧tyR.at c' ds t∧St c' w' L:=by
 intro t
 induction t using Ty.ind with
 | h k r l ih=>
   intro hs cx w L cs ht hS
   obtain ⟨v,rfl,hl⟩:=Q9 ht
   simp only [Ty.kind,Ty.r,Ty.l] at hl ht ⊢
   obtain ⟨hlen,hsub⟩:=hs.parts
   refine lgo tyD Tryz.func166 ?_;refine Zaw ?_;intro p1 w1 hS;refine Qb hS ?_;(intro p2 w1 hS);refine ZbP ?_;refine Zad ?_;refine zb2 [_,_,_] ?_;refine Qb hS ?_;(intro p3 w1 hS);((refine zsn hS ?_;intro w1 hS;have hS:=hS.ns));refine ZbP ?_;refine zR1 (c:=Qb6 hlen (fun x hx=>ih x hx (hsub x hx)) hl hS) (h:=?_);rintro v1 w1 ⟨c1,hle,hl1,hS⟩;obtain ⟨a1,n1,rfl⟩:=Rep.SR.shape hl1;refine Zbf ?_;intro w1 hS;have hS:=hS.ns;refine ZbY ?_;((refine zsn hS ?_;intro w1 hS;have hS:=hS.ns));refine ZaY ?_;refine QK vw (Q3 (n:=3) (by kernel_rfl) (by kernel_rfl) (hS.blkAt fd) (by rfl) (by rfl)) ?_;((exact ⟨_,rfl,c1,_,rfl,hle,Q1d hl1,hS.sp⟩))
theorem Q1Q {l:List Ty}(hlen:l.length≤100000) (hs:∀x∈l,x.Short){cx:Cx}{w:World}{L:List Res}{v:Value}(hl:tyR.sl cx v l) (hS:St cx w L):Rets Tryz.prog Q54 [v] w fun u w'=>∃c',cx.Le c'∧tyR.sl c' u l∧St c' w' L:=
 Qb6 hlen (fun x hx=>pown_c x (hs x hx)) hl hS
end Go.Proofs.YteflkifmgnpbhaaGreat
namespace Go.Proofs.YteflkifmgnpbhaaGreat
open Go.Lir
set_option maxHeartbeats 1000000
attribute [local irreducible] LC.wp Q0 QB QH retQ Q1k LO.wp Qh Calls
set_option linter.unusedSimpArgs false
set_option linter.unusedVariables false
theorem Q8X {l:List Ty}(ih:∀x∈l,∀(y:Ty){cx:Cx}{w:World}{L:List Res}{cs ds:List Value},tyR.at cx cs x→tyR.at cx ds y→St cx w L→Rets Tryz.prog Q81 [.agg ⟨cs⟩, .agg ⟨ds⟩] w fun u w'=>u= .bool (decide (x=y))∧St cx w' L)
 {m:List Ty}{cx:Cx}{w:World}{L:List Res}{v v2:Value}(hl:tyR.sl cx v l) (hm:tyR.sl cx v2 m) (hS:St cx w L):Rets Tryz.prog Q7o [v,v2] w fun u w'=>u= .bool (decide (l=m))∧St cx w' L:=by
 have hlen:=hl.len
 refine lgo tyD Tryz.func76 ?_;refine Zbx ?_;refine zL ?_;refine zm ?_;refine zL ?_;first|(refine Qy ?_)|(refine Qz ?_)|(refine Qa rfl rfl (fun hc=>?_) (fun hc=>?_))
 all_goals (refine zn ?_)
 all_goals
  first
  | (refine zct ?_
     refine Zas ?_
     ((refine ⟨_,rfl,?_,hS.sp⟩;(rw [decide_eq_false];exact fun e=>absurd (congrArg List.length e) (by omega));done)))
  | (refine zcf ?_
     refine zsk ?_)
 refine ZaI ?_
 refine zoL hS [0,1] (fun A LL ρ' w'=>∃(j:Nat),Has ρ' A∧Has ρ' [(5, .int .i64 j)]∧(j≤l.length)∧(l.length=m.length)∧(l=m↔l.drop j=m.drop j)∧St cx w' (LL)) (fun ρ' _=>(l.length - iv (ρ' 5)).toNat) ?_ ?_
 · exact ⟨0,zh,zh,(by omega),(by omega),by simp,hS.sp⟩
 rintro ρ w1 ⟨j,hA,hρ,hj,hlm,hd,hS⟩;obtain ⟨ρ,rfl⟩:=env2 hA hρ
 refine ZbW ?_
 refine Q5 rfl (fun hc=>?_) (fun hc=>?_)
 · skip
   refine Zbq ?_;refine zD (ci 10 [8,9]) ?_;have hS:=hS.drew;refine zm ?_;refine ZaX ?_;intro b1 o1 cs1 x1 hat1 hx1 he1;obtain ⟨vl1,rfl,hl1⟩:=Q9 he1;refine Yaf ?_;refine zm ?_;refine ZaX ?_;intro b2 o2 cs2 x2 hat2 hx2 he2;obtain ⟨vl2,rfl,hl2⟩:=Q9 he2;refine Yaf ?_;refine zR2 (c:=ih _ (List.mem_of_getElem? hx1) _ he1 he2 hS) (h:=?_);rintro v1 w1 ⟨rfl,hS⟩;(cases hdec:decide (x1=x2));have hg:=of_decide_eq_false hdec;rotate_left;have hg:=of_decide_eq_true hdec;all_goals skip
   all_goals (refine Zbo ?_)
   all_goals
    first
    | (refine zct ?_
       refine Zas ?_
       first|(refine ⟨_,rfl,?_,hS.sp⟩;rw [decide_eq_false];exact fun e=>absurd (congrArg List.length e) (by omega);done)|(refine ⟨_,rfl,?_,hS.sp⟩;rw [decide_eq_false];rw [hd,Q1 hx1,Q1 hx2];simp [hg];done))
    | (refine zcf ?_
       refine zsk ?_)
   refine Zax ?_;(exact ⟨⟨j+1,zh,zh,(by omega),(by omega),by rw [hd,Q1 hx1,Q1 hx2,hg];simp,hS.sp⟩,Q4 (by omega)⟩)
 · skip
   refine ZbG ?_;(first|(refine ⟨_,rfl,?_,hS.sp⟩;rw [decide_eq_false];exact fun e=>absurd (congrArg List.length e) (by omega);done)|(refine ⟨_,rfl,?_,hS.sp⟩;rw [decide_eq_false];rw [hd,Q1 hx1,Q1 hx2];simp [hg];done)|(refine ⟨_,rfl,?_,hS.sp⟩;rw [decide_eq_true];rw [hd,List.drop_of_length_le (by omega),List.drop_of_length_le (by omega)];done))
theorem Qab:∀(t u:Ty){cx:Cx}{w:World}{L:List Res}{cs ds:List Value},tyR.at cx cs t→tyR.at cx ds u→St cx w L→
 Rets Tryz.prog Q81 [.agg ⟨cs⟩, .agg ⟨ds⟩] w fun v w'=>v= .bool (decide (t=u))∧St cx w' L:=by
 intro t
 induction t using Ty.ind with
 | h k r l ih=>
   rintro ⟨k2,r2,m⟩ cx w L cs ds ht hu hS
   obtain ⟨v,rfl,hl⟩:=Q9 ht
   obtain ⟨v2,rfl,hm⟩:=Q9 hu
   simp only [Ty.kind,Ty.r,Ty.l,Ty.mk.injEq] at hl hm ht hu ⊢
   refine lgo tyD Tryz.func128 ?_;refine Zaw ?_;intro p2 w1 hS;refine zb hS ?_;intro p3 w1 hS;refine Zab ?_;refine Zao ?_;refine Zad ?_;first|(refine Qp ?_)|(refine Qu ?_)|(refine Q7 rfl rfl (fun hc=>?_) (fun hc=>?_))
   all_goals (refine Zbp ?_;first|refine zgn ?_|(refine zgy ?_;(first|(refine Qp ?_)|(refine Qu ?_)|(refine Q7 rfl rfl (fun hc=>?_) (fun hc=>?_)))))
   all_goals (refine Zcp ?_;(first|refine zgn ?_|(refine zgy ?_;refine zR2 (c:=Q8X ih hl hm hS) (h:=?_);rintro v1 w1 ⟨rfl,hS⟩));refine Yad ?_;refine ZaB ?_;refine ⟨_,rfl,?_,hS.sp⟩;(simp [*]);done)
theorem Q4a {l m:List Ty}{cx:Cx}{w:World}{L:List Res}{v v2:Value}(hl:tyR.sl cx v l) (hm:tyR.sl cx v2 m) (hS:St cx w L):Rets Tryz.prog Q7o [v,v2] w fun u w'=>u= .bool (decide (l=m))∧St cx w' L:=
 Q8X (fun x _=>Qab x) hl hm hS
theorem eqfT_c {l:List Ty}{f:FuncId}(hf:Q2z Tryz.prog f=true){m:List Ty}{cx:Cx}{w:World}{L:List Res}{v v2:Value}
 (hcall:∀x∈l,∀y∈m,∀{w:World}{L:List Res}{cs ds:List Value},tyR.at cx cs x→tyR.at cx ds y→St cx w L→Rets Tryz.prog f [.agg ⟨cs⟩, .agg ⟨ds⟩] w fun u w'=>u= .bool (decide (x=y))∧St cx w' L)
 (hl:tyR.sl cx v l) (hm:tyR.sl cx v2 m) (hS:St cx w L):Rets Tryz.prog Q1h [v,v2, .func (.func f) #[] #[]] w fun u w'=>u= .bool (decide (l=m))∧St cx w' L:=by
 have hlen:=hl.len
 refine lgo tyD Tryz.func162 ?_;refine Zbx ?_;refine zL ?_;refine zm ?_;refine zL ?_;first|(refine Qy ?_)|(refine Qz ?_)|(refine Qa rfl rfl (fun hc=>?_) (fun hc=>?_))
 all_goals (refine zn ?_)
 all_goals
  first
  | (refine zct ?_
     refine Zas ?_
     ((refine ⟨_,rfl,?_,hS.sp⟩;(rw [decide_eq_false];exact fun e=>absurd (congrArg List.length e) (by omega));done)))
  | (refine zcf ?_
     refine zsk ?_)
 refine Zan ?_;refine Zbi ?_
 refine zoL hS [1,2,15,16] (fun A LL ρ' w'=>∃(j:Nat),Has ρ' A∧Has ρ' [(17, .int .i64 j)]∧(j≤l.length)∧(l.length=m.length)∧(l=m↔l.drop j=m.drop j)∧St cx w' (LL)) (fun ρ' _=>(l.length - iv (ρ' 17)).toNat) ?_ ?_
 · exact ⟨0,zh,zh,(by omega),(by omega),by simp,hS.sp⟩
 rintro ρ w1 ⟨j,hA,hρ,hj,hlm,hd,hS⟩;obtain ⟨ρ,rfl⟩:=env2 hA hρ
 refine ZaV ?_
 refine Q5 rfl (fun hc=>?_) (fun hc=>?_)
 · skip
   refine Zar ?_;refine Zae ?_;refine zi ?_;intro b1 o1 cs1 x1 hat1 hx1 he1;obtain ⟨vl1,rfl,hl1⟩:=Q9 he1;refine ZaC ?_;intro p8 w1 hS;refine zm ?_;refine zsn hS ?_;intro w1 hS;have hS:=hS.ns;refine zn ?_;refine ZaG ?_;refine zi ?_;intro b2 o2 cs2 x2 hat2 hx2 he2;obtain ⟨vl2,rfl,hl2⟩:=Q9 he2;refine ZaC ?_;intro p9 w1 hS;refine zsn hS ?_;intro w1 hS;have hS:=hS.ns;refine ZbM ?_;refine zv hS ?_;refine zv hS ?_;refine QcH rfl hf (by rfl) (hcall _ (List.mem_of_getElem? hx1) _ (List.mem_of_getElem? hx2) he1 he2 hS) ?_;rintro v1 w1 ⟨rfl,hS⟩;(cases hdec:decide (x1=x2));have hg:=of_decide_eq_false hdec;rotate_left;have hg:=of_decide_eq_true hdec;all_goals skip
   all_goals (refine Zbo ?_)
   all_goals
    first
    | (refine zct ?_
       refine Zas ?_
       first|(refine ⟨_,rfl,?_,hS.sp⟩;rw [decide_eq_false];exact fun e=>absurd (congrArg List.length e) (by omega);done)|(refine ⟨_,rfl,?_,hS.sp⟩;rw [decide_eq_false];rw [hd,Q1 hx1,Q1 hx2];simp [hg];done))
    | (refine zcf ?_
       refine zsk ?_)
   refine ZaP ?_;(exact ⟨⟨j+1,zh,zh,(by omega),(by omega),by rw [hd,Q1 hx1,Q1 hx2,hg];simp,hS.sp⟩,Q4 (by omega)⟩)
 · skip
   refine ZbG ?_;(first|(refine ⟨_,rfl,?_,hS.sp⟩;rw [decide_eq_false];exact fun e=>absurd (congrArg List.length e) (by omega);done)|(refine ⟨_,rfl,?_,hS.sp⟩;rw [decide_eq_false];rw [hd,Q1 hx1,Q1 hx2];simp [hg];done)|(refine ⟨_,rfl,?_,hS.sp⟩;rw [decide_eq_true];rw [hd,List.drop_of_length_le (by omega),List.drop_of_length_le (by omega)];done))
theorem Q6F:∀(t u:Ty){cx:Cx}{w:World}{L:List Res}{cs ds:List Value},tyR.at cx cs t→tyR.at cx ds u→St cx w L→
 Rets Tryz.prog QbA [.agg ⟨cs⟩, .agg ⟨ds⟩] w fun v w'=>v= .bool (decide (t=u))∧St cx w' L:=by
 intro t
 induction t using Ty.ind with
 | h k r l ih=>
   rintro ⟨k2,r2,m⟩ cx w L cs ds ht hu hS
   obtain ⟨v,rfl,hl⟩:=Q9 ht
   obtain ⟨v2,rfl,hm⟩:=Q9 hu
   simp only [Ty.kind,Ty.r,Ty.l,Ty.mk.injEq] at hl hm ht hu ⊢
   refine lgo tyD Tryz.func163 ?_;refine Zaw ?_;intro p2 w1 hS;refine zb hS ?_;intro p3 w1 hS;refine Zab ?_;refine Zao ?_;refine Zad ?_;first|(refine Qp ?_)|(refine Qu ?_)|(refine Q7 rfl rfl (fun hc=>?_) (fun hc=>?_))
   all_goals (refine Zbp ?_;first|refine zgn ?_|(refine zgy ?_;(first|(refine Qp ?_)|(refine Qu ?_)|(refine Q7 rfl rfl (fun hc=>?_) (fun hc=>?_)))))
   all_goals (refine Zcp ?_;(first|refine zgn ?_|(refine zgy ?_;refine zR3 (c:=eqfT_c (by kernel_rfl) (fun x hx y _ {_ _ _ _} h1 h2 h3=>ih x hx y h1 h2 h3) hl hm hS) (h:=?_);rintro v1 w1 ⟨rfl,hS⟩));refine Yad ?_;refine ZaB ?_;refine ⟨_,rfl,?_,hS.sp⟩;(simp [*]);done)
end Go.Proofs.YteflkifmgnpbhaaGreat
namespace Go.Proofs.YteflkifmgnpbhaaGreat
open Go.Lir
set_option maxHeartbeats 1000000
attribute [local irreducible] LC.wp Q0 QB QH retQ Q1k LO.wp Qh Calls
set_option linter.unusedSimpArgs false
set_option linter.unusedVariables false
theorem Q6C {l m:List Int}{cx:Cx}{w:World}{L:List Res}{v v2:Value}(hl:intR.sl cx v l) (hm:intR.sl cx v2 m) (hS:St cx w L):Rets Tryz.prog Qck [v,v2] w fun u w'=>u= .bool (decide (l=m))∧St cx w' L:=by
 have hlen:=hl.len
 refine lgo tyD Tryz.func131 ?_;refine Zbx ?_;refine zL ?_;refine zm ?_;refine zL ?_;first|(refine Qy ?_)|(refine Qz ?_)|(refine Qa rfl rfl (fun hc=>?_) (fun hc=>?_))
 all_goals (refine zn ?_)
 all_goals
  first
  | (refine zct ?_
     refine Zas ?_
     ((refine ⟨_,rfl,?_,hS.sp⟩;(rw [decide_eq_false];exact fun e=>absurd (congrArg List.length e) (by omega));done)))
  | (refine zcf ?_
     refine zsk ?_)
 refine ZaI ?_
 refine zoL hS [0,1] (fun A LL ρ' w'=>∃(j:Nat),Has ρ' A∧Has ρ' [(5, .int .i64 j)]∧(j≤l.length)∧(l.length=m.length)∧(l=m↔l.drop j=m.drop j)∧St cx w' (LL)) (fun ρ' _=>(l.length - iv (ρ' 5)).toNat) ?_ ?_
 · exact ⟨0,zh,zh,(by omega),(by omega),by simp,hS.sp⟩
 rintro ρ w1 ⟨j,hA,hρ,hj,hlm,hd,hS⟩;obtain ⟨ρ,rfl⟩:=env2 hA hρ
 refine ZbW ?_
 refine Q5 rfl (fun hc=>?_) (fun hc=>?_)
 · skip
   refine Zbq ?_;refine zD (ci 9 [8]) ?_;have hS:=hS.drew;refine zm ?_;refine ZaX ?_;intro b1 o1 cs1 x1 hat1 hx1 he1;obtain rfl:=Qt he1;refine Yan ?_;refine zm ?_;refine ZaX ?_;intro b2 o2 cs2 x2 hat2 hx2 he2;obtain rfl:=Qt he2;refine Yan ?_;first|(refine Qy ?_)|(refine Qz ?_)|(refine Qa rfl rfl (fun hc=>?_) (fun hc=>?_))
   all_goals (refine zn ?_)
   all_goals
    first
    | (refine zct ?_
       refine Zas ?_
       first|(refine ⟨_,rfl,?_,hS.sp⟩;rw [decide_eq_false];exact fun e=>absurd (congrArg List.length e) (by omega);done)|(refine ⟨_,rfl,?_,hS.sp⟩;rw [decide_eq_false];rw [hd,Q1 hx1,Q1 hx2];simp [*];done))
    | (refine zcf ?_
       refine zsk ?_)
   refine Zax ?_;(exact ⟨⟨j+1,zh,zh,(by omega),(by omega),by rw [hd,Q1 hx1,Q1 hx2,show x1=x2 by omega];simp,hS.sp⟩,Q4 (by omega)⟩)
 · skip
   refine ZbG ?_;(first|(refine ⟨_,rfl,?_,hS.sp⟩;rw [decide_eq_false];exact fun e=>absurd (congrArg List.length e) (by omega);done)|(refine ⟨_,rfl,?_,hS.sp⟩;rw [decide_eq_false];rw [hd,Q1 hx1,Q1 hx2];simp [*];done)|(refine ⟨_,rfl,?_,hS.sp⟩;rw [decide_eq_true];rw [hd,List.drop_of_length_le (by omega),List.drop_of_length_le (by omega)];done))
theorem Q8W {x y:To}{cx:Cx}{w:World}{L:List Res}{cs ds:List Value}(hx:toR.at cx cs x) (hy:toR.at cx ds y) (hS:St cx w L):Rets Tryz.prog R_sameTo [.agg ⟨cs⟩, .agg ⟨ds⟩] w fun u w'=>u= .bool (decide (x=y))∧St cx w' L:=by
 obtain ⟨n,xr,xa⟩:=x
 obtain ⟨n2,yr,ya⟩:=y
 obtain ⟨v1,v2,rfl,h1,h2⟩:=Q1N hx
 obtain ⟨v3,v4,rfl,h3,h4⟩:=Q1N hy
 simp only [To.mk.injEq] at*
 refine lgo tyD Tryz.func130 ?_;refine Zaw ?_;intro p2 w1 hS;refine zb hS ?_;intro p3 w1 hS;refine Zab ?_;refine Zao ?_;refine Zad ?_;first|(refine Qp ?_)|(refine Qu ?_)|(refine Q7 rfl rfl (fun hc=>?_) (fun hc=>?_))
 all_goals (refine Zbp ?_;(first|(refine zgn ?_)|(refine zgy ?_;refine zR2 (c:=Q6C h1 h3 hS) (h:=?_);rintro v1 w1 ⟨rfl,hS⟩;(cases hdec:decide (xr=yr));have hg:=of_decide_eq_false hdec;rotate_left;have hg:=of_decide_eq_true hdec;all_goals skip)))
 all_goals (refine Zcp ?_;(first|(refine zgn ?_)|(refine zgy ?_;refine zR2 (c:=Q6C h2 h4 hS) (h:=?_);rintro v1 w1 ⟨rfl,hS⟩));refine Yad ?_;refine ZaB ?_;refine ⟨_,rfl,?_,hS.sp⟩;(simp [*]);done)
theorem QbL {x y:Ins}{cx:Cx}{w:World}{L:List Res}{cs ds:List Value}(hx:insR.at cx cs x) (hy:insR.at cx ds y) (hS:St cx w L):Rets Tryz.prog QdR [.agg ⟨cs⟩, .agg ⟨ds⟩] w fun u w'=>u= .bool (decide (x=y))∧St cx w' L:=by
 obtain ⟨n,a,b,c,k,nn,xr,xa⟩:=x
 obtain ⟨n2,a2,b2,c2,k2,nn2,yr,ya⟩:=y
 obtain ⟨v1,v2,rfl,h1,h2⟩:=QG hx
 obtain ⟨v3,v4,rfl,h3,h4⟩:=QG hy
 simp only [Ins.mk.injEq] at*
 refine lgo tyD Tryz.func129 ?_;refine Zaw ?_;intro p2 w1 hS;refine zb hS ?_;intro p3 w1 hS;refine Zab ?_;refine Zao ?_;refine Zad ?_;first|(refine Qp ?_)|(refine Qu ?_)|(refine Q7 rfl rfl (fun hc=>?_) (fun hc=>?_))
 all_goals (refine Zbp ?_;first|refine zgn ?_|(refine zgy ?_;(first|(refine Qp ?_)|(refine Qu ?_)|(refine Q7 rfl rfl (fun hc=>?_) (fun hc=>?_)))))
 all_goals (refine Zcp ?_;first|refine zgn ?_|(refine zgy ?_;(first|(refine Qp ?_)|(refine Qu ?_)|(refine Q7 rfl rfl (fun hc=>?_) (fun hc=>?_)))))
 all_goals (refine Zcp ?_;first|refine zgn ?_|(refine zgy ?_;(first|(refine Qp ?_)|(refine Qu ?_)|(refine Q7 rfl rfl (fun hc=>?_) (fun hc=>?_)))))
 all_goals (refine Zcp ?_;first|refine zgn ?_|(refine zgy ?_;(first|(refine Qp ?_)|(refine Qu ?_)|(refine Q7 rfl rfl (fun hc=>?_) (fun hc=>?_)))))
 all_goals (refine Zcp ?_;first|refine zgn ?_|(refine zgy ?_;(first|(refine Qp ?_)|(refine Qu ?_)|(refine Q7 rfl rfl (fun hc=>?_) (fun hc=>?_)))))
 all_goals (refine Zcp ?_;(first|(refine zgn ?_)|(refine zgy ?_;refine zR2 (c:=Q6C h1 h3 hS) (h:=?_);rintro v1 w1 ⟨rfl,hS⟩;(cases hdec:decide (xr=yr));have hg:=of_decide_eq_false hdec;rotate_left;have hg:=of_decide_eq_true hdec;all_goals skip)))
 all_goals (refine Zcp ?_;(first|(refine zgn ?_)|(refine zgy ?_;refine zR2 (c:=Q6C h2 h4 hS) (h:=?_);rintro v1 w1 ⟨rfl,hS⟩));refine Yad ?_;refine ZaB ?_;refine ⟨_,rfl,?_,hS.sp⟩;(simp [*]);done)
theorem Q20 {l:List Int}(hb:l.length≤1000000){cx:Cx}{w:World}{L:List Res}{v:Value}(hl:intR.sl cx v l) (hS:St cx w L):Rets Tryz.prog QdS [v] w fun u w'=>∃c',cx.Le c'∧intR.sl c' u l∧St c' w' L:=by
 have hS:=hS.nil (T:=3) (es:=1)
 have hn:intR.ls cx [] []:=Rep.LR.nil _ _ _
 refine lgo tyD Tryz.func60 ?_;refine Zaf ?_;refine Zaf ?_;refine ZaG ?_;(first|(refine za Q3a Q61 hS ?_;intro vp1 w1 css1 hls1 hv1 hS;have hS:=hS.ns)|(refine zak Q3a Q61 hS ?_;intro vp1 w1 css1 hls1 hv1 hS;have hS:=hS.ns));refine ZaB ?_;(obtain ⟨c3,hle3,hS,hl3⟩:=St.freezeL (r:=intR) (l:=l) (T:=3) (es:=1) (L:=L) hS.sp hls1 rfl (by omega);exact ⟨_,rfl,c3,hle3,hl3,hS⟩)
theorem Q2U {l:List Int}(hb:l.length≤1000000){cx:Cx}{w:World}{L:List Res}{v:Value}(hl:intR.sl cx v l) (hS:St cx w L):Rets Tryz.prog Q4l [v] w fun u w'=>∃c',cx.Le c'∧intR.sl c' u l∧St c' w' L:=by
 obtain ⟨a,c,hv⟩:=Rep.SR.shape hl
 cases a with
 | none=>
   have hl0:=Rep.SR.nil_of hl hv
   subst hl0
   subst hv
   refine lgo tyD Tryz.func111 ?_;refine Zbx ?_;refine Q89 (e:=3) (by kernel_rfl) rfl rfl ?_;refine zn ?_
   all_goals
    first
    | (refine zct ?_
       refine Zas ?_
       (exact ⟨_,rfl,cx,St.refl hS,Rep.SR.nil _ _ _,hS⟩))
   all_goals (refine Zaa ?_; fail "no law for buildSlice"; refine zm ?_; refine za Q3a Q61 hS ?_; intro vp1 w1 css1 hls1 hv1 hS; have hS := hS.ns; refine ZaB ?_; exact ⟨_, rfl, cx, St.refl hS, Rep.SR.nil _ _ _, hS⟩)
 | some a=>
   have hn:intR.ls cx [] []:=Rep.LR.nil _ _ _
   refine lgo tyD Tryz.func111 ?_;refine Zbx ?_;refine Q89 (e:=3) (by kernel_rfl) hv rfl ?_;refine zn ?_;refine Zcr ?_;refine Zaa ?_;refine QcI Q3a ?_;intro v1 w1 hf1 hs1 hz1;have hS:=hS.new (r:=sl 3 1 v1 []) hs1 hf1 (fun b hb=>Nat.le_of_eq hb.symm);refine zm ?_;(first|(refine za Q3a Q61 hS ?_;intro vp1 w1 css1 hls1 hv1 hS;have hS:=hS.ns)|(refine zak Q3a Q61 hS ?_;intro vp1 w1 css1 hls1 hv1 hS;have hS:=hS.ns));refine ZaB ?_;(obtain ⟨c3,hle3,hS,hl3⟩:=St.freezeL (r:=intR) (l:=l) (T:=3) (es:=1) (L:=L) hS.sp hls1 rfl (by omega);exact ⟨_,rfl,c3,hle3,hl3,hS⟩)
theorem Q6e {x:To}(hb1:x.regs.length≤1000000) (hb2:x.args.length≤1000000){cx:Cx}{w:World}{L:List Res}{cs:List Value}(hx:toR.at cx cs x) (hS:St cx w L):Rets Tryz.prog R_ownTo [.agg ⟨cs⟩] w fun u w'=>∃c' ds,u= .agg ⟨ds⟩∧cx.Le c'∧toR.at c' ds x∧St c' w' L:=by
 obtain ⟨v1,v2,rfl,h1,h2⟩:=Q1N hx
 refine lgo tyD Tryz.func61 ?_;refine Zaw ?_;intro p1 w1 hS;refine Qb hS ?_;(intro p2 w1 hS);refine Zbe ?_;refine zC [(0,none),(1,none),(2,none),(3,none),(5,none),(6,none),(4,some (some [1,6])),(7,some (some [1])),(8,none),(9,some none)] ?_;have hS:=hS.drew;refine Zcq ?_;refine zR1 (c:=Q20 hb1 h1 hS) (h:=?_);rintro v1 w1 ⟨c1,hle,hl1,hS⟩;obtain ⟨a1,n1,rfl⟩:=Rep.SR.shape hl1;have h2:=Rep.SR.up h2 hle;refine ZaH ?_;refine zR1 (c:=Q20 hb2 h2 hS) (h:=?_);rintro v1 w1 ⟨c2,hle2,hl2,hS⟩;obtain ⟨a2,n2,rfl⟩:=Rep.SR.shape hl2;have hl1:=Rep.SR.up hl1 hle2;refine ZaM ?_;refine zb3 [_,_,_] ?_;refine ZaE ?_;((refine zsn hS ?_;intro w1 hS;have hS:=hS.ns));refine ZaA ?_;refine zr ?_;refine QK vw (Q3 (n:=3) (by kernel_rfl) (by kernel_rfl) (hS.blkAt fd) (by rfl) (by rfl)) ?_;((exact ⟨_,rfl,c2,_,rfl,hle.trans hle2,⟨_,_,rfl,hl1,hl2⟩,hS.sp⟩))
theorem Q6h {x:To}(hb1:x.regs.length≤1000000) (hb2:x.args.length≤1000000){cx:Cx}{w:World}{L:List Res}{cs:List Value}(hx:toR.at cx cs x) (hS:St cx w L):Rets Tryz.prog Qcc [.agg ⟨cs⟩] w fun u w'=>∃c' ds,u= .agg ⟨ds⟩∧cx.Le c'∧toR.at c' ds x∧St c' w' L:=by
 obtain ⟨v1,v2,rfl,h1,h2⟩:=Q1N hx
 refine lgo tyD Tryz.func110 ?_;refine Zaw ?_;intro p1 w1 hS;refine Qb hS ?_;(intro p2 w1 hS);refine Zbe ?_;refine zC [(0,none),(1,none),(2,none),(3,none),(5,none),(6,none),(4,some (some [1,6])),(7,some (some [1])),(8,none),(9,some none)] ?_;have hS:=hS.drew;refine Zcq ?_;refine zR1 (c:=Q2U hb1 h1 hS) (h:=?_);rintro v1 w1 ⟨c1,hle,hl1,hS⟩;obtain ⟨a1,n1,rfl⟩:=Rep.SR.shape hl1;have h2:=Rep.SR.up h2 hle;refine ZaH ?_;refine zR1 (c:=Q2U hb2 h2 hS) (h:=?_);rintro v1 w1 ⟨c2,hle2,hl2,hS⟩;obtain ⟨a2,n2,rfl⟩:=Rep.SR.shape hl2;have hl1:=Rep.SR.up hl1 hle2;refine ZaM ?_;refine zb3 [_,_,_] ?_;refine ZaE ?_;((refine zsn hS ?_;intro w1 hS;have hS:=hS.ns));refine ZaA ?_;refine zr ?_;refine QK vw (Q3 (n:=3) (by kernel_rfl) (by kernel_rfl) (hS.blkAt fd) (by rfl) (by rfl)) ?_;((exact ⟨_,rfl,c2,_,rfl,hle.trans hle2,⟨_,_,rfl,hl1,hl2⟩,hS.sp⟩))
end Go.Proofs.YteflkifmgnpbhaaGreat
namespace Go.Lir
section
variable {P:Program}{l:List GO}{Q:QT}{ρ:Env}{w:World}{a:List UInt8}
end
end Go.Lir
namespace Go.Lir
set_option linter.unusedVariables false
abbrev Flt:=Int×Int
def orF (a b:Flt):Flt:=if a.1=0∧b.1≠0 then b else a
def mkF (c at':Int):Flt:=if c=0 then (0,0) else (c,at')
theorem Q2I (a b c:Flt):orF (orF a b) c=orF a (orF b c):=by
 unfold orF
 by_cases h1:a.1=0<;>by_cases h2:b.1=0<;>by_cases h3:c.1=0<;>simp [h1,h2,h3]
theorem Q31 {a b:Flt}(h:a.1≠0):orF a b=a:=by unfold orF;rw [if_neg (fun h'=>h h'.1)]
theorem QbV {a b:Flt}(h:b.1=0):orF a b=a:=by unfold orF;rw [if_neg (fun h'=>h'.2 h)]
theorem Q1t {b:Flt}(h:b.1=0→b=(0,0)):orF (0,0) b=b:=by
 unfold orF
 by_cases hb:b.1=0
 · rw [h hb];rfl
 · rw [if_pos ⟨rfl,hb⟩]
theorem Q1E (at':Int):mkF 0 at'=(0,0):=rfl
theorem Q4m {c at':Int}(h:c≠0):mkF c at'=(c,at'):=if_neg h
theorem Q1u (c at':Int):(mkF c at').1=c:=by unfold mkF;split<;>simp_all
theorem Q5r (c at':Int):(mkF c at').1=0→mkF c at'=(0,0):=by rw [Q1u];rintro rfl;rfl
theorem Q7v {a b:Flt}(ha:a.1=0→a=(0,0)) (hb:b.1=0→b=(0,0)):(orF a b).1=0→orF a b=(0,0):=by
 unfold orF
 split
 · exact hb
 · exact ha
def orC (a b:Int):Int:=if a≠0 then a else b
theorem Q25 {g:Flt}{a b at':Int}:orF (orF g (mkF a at')) (mkF b at')=orF g (mkF (orC a b) at'):=by
 rw [Q2I]
 congr 1
 unfold orC orF
 by_cases h:a=0
 · subst h
   by_cases hb:b=0
   · subst hb;rfl
   · simp [mkF,hb]
 · simp [mkF,h]

def fA (op:Int):Bool:=decide (op=2∨op=4∨op=5∨op=6∨op=7∨op=8∨op=9∨op=10∨op=11∨op=13)
def fB (op:Int):Bool:=decide (op=2∨op=7∨op=8∨op=9∨op=10)
def fC (op:Int):Bool:=decide (op=10)
def fK (op:Int):Bool:=decide (op=2∨op=6∨op=7∨op=14)
def fN (op:Int):Bool:=decide (op=1)
def fG (op:Int):Bool:=decide (op=14)
def fR (op:Int):Bool:=decide (op=5∨op=14)
def Ins.odd (x:Ins):Prop:=(fA x.op=false∧x.a≠0)∨(fB x.op=false∧x.b≠0)∨(fC x.op=false∧x.c≠0)∨(fK x.op=false∧x.k≠0)∨(fN x.op=false∧x.n≠0)∨(fG x.op=false∧0<x.regs.length)∨(fR x.op=false∧0<x.args.length)
instance (x:Ins):Decidable x.odd:=by unfold Ins.odd;infer_instance
def Q14 (n:Nat) (x:Ins):Int:=
 if x.op=2 then (if x.k<1∨9<x.k then 1 else 0)
 else if x.op=5 then (if 8<x.args.length then 2 else 0)
 else if x.op=6∨x.op=7 then (if x.k<0∨8≤x.k then 1 else 0)
 else if x.op=14 then (if x.k<0∨(n:Int)≤x.k then 1 else if 6<x.regs.length∨8<x.args.length then 2 else 0)
 else 0
def Qm (n:Nat) (x:Ins):Int:=if x.op<1∨14<x.op then 3 else if x.odd then 4 else Q14 n x
def Q1n (n:Nat) (t:To) (is:Bool):Int:=
 if is=false then (if t.block≠0∨0<t.regs.length∨0<t.args.length then 4 else 0)
 else if t.block<0∨(n:Int)≤t.block then 1 else if 16<t.regs.length∨8<t.args.length then 2 else 0
def Q10 (n:Nat) (e:Tail):Int:=
 if e.op<1∨3<e.op then 3
 else if e.op≠2∧e.a≠0∨e.op≠3∧0<e.args.length then 4
 else if 8<e.args.length then 2
 else orC (Q1n n e.yes (decide (e.op≠3))) (Q1n n e.no (decide (e.op=2)))
def Q1S (regs:Int):List Ty→Int
 | []=>0
 | t::l=>orC (t.fault regs) (Q1S regs l)
def Qg (l:List Ty) (regs:Int):Int:=if 8<l.length then 2 else Q1S regs l
def Q2g (f:Nat):Int:=f*10000+9999
def Q2l (f b:Nat):Int:=f*10000+b*100+90
def Q4J (f b:Nat):Int:=f*10000+b*100+91
def Q45 (f b i:Nat):Int:=f*10000+b*100+i
def QN (n f b:Nat):Nat→List Ins→Flt
 | _,[]=>(0,0)
 | i,x::l=>orF (mkF (Qm n x) (Q45 f b i)) (QN n f b (i+1) l)
def Qk (x:Fun) (b:Nat) (y:Block):Int:=
 if y.regs<x.regs∨16<y.regs then 1
 else if Qg y.params y.regs≠0 then Qg y.params y.regs
 else if b=0∧(y.regs≠x.regs∨y.params≠x.params) then 9
 else if 40<y.code.length then 2 else 0
def QD (n f:Nat) (x:Fun) (b:Nat) (y:Block):Flt:=orF (mkF (Qk x b y) (Q2l f b)) (orF (QN n f b 0 y.code) (mkF (Q10 x.blocks.length y.fin) (Q4J f b)))
def QE (n f:Nat) (x:Fun):Nat→List Block→Flt
 | _,[]=>(0,0)
 | b,y::l=>orF (QD n f x b y) (QE n f x (b+1) l)
def Qs (f:Nat) (x:Fun):Int:=
 if x.regs<0∨6<x.regs then 1
 else if Qg x.params x.regs≠0 then Qg x.params x.regs
 else if Qg x.results x.regs≠0 then Qg x.results x.regs
 else if x.blocks.length<1∨12<x.blocks.length then 2
 else if f=0∧(0<x.regs∨0<x.params.length∨∃t∈x.results,t.kind≠1) then 18 else 0
def Q1B (n f:Nat) (x:Fun):Flt:=orF (mkF (Qs f x) (Q2g f)) (QE n f x 0 x.blocks)
def Q18 (n:Nat):Nat→List Fun→Flt
 | _,[]=>(0,0)
 | f,x::l=>orF (Q1B n f x) (Q18 n (f+1) l)
def Module.fault (m:Module):Flt:=orF (mkF (if m.funcs.length<1∨8<m.funcs.length then 2 else 0) (-1)) (Q18 m.funcs.length 0 m.funcs)
theorem Q4F {n f b:Nat}:∀{l:List Ins}{i:Nat},(QN n f b i l).1=0→QN n f b i l=(0,0)
 | [],_=>fun _=>rfl
 | _::_,_=>Q7v (Q5r _ _) Q4F
theorem Q5Y {n f:Nat}{x:Fun}{b:Nat}{y:Block}:(QD n f x b y).1=0→QD n f x b y=(0,0):=Q7v (Q5r _ _) (Q7v Q4F (Q5r _ _))
theorem Q2a {n f:Nat}{x:Fun}:∀{l:List Block}{b:Nat},(QE n f x b l).1=0→QE n f x b l=(0,0)
 | [],_=>fun _=>rfl
 | _::_,_=>Q7v Q5Y Q2a
theorem Qe {n:Nat}:∀{l:List Fun}{f:Nat},(Q18 n f l).1=0→Q18 n f l=(0,0)
 | [],_=>fun _=>rfl
 | _::_,_=>Q7v (Q7v (Q5r _ _) Q2a) Qe
theorem Module.fault_z {m:Module}:m.fault.1=0→m.fault=(0,0):=Q7v (Q5r _ _) Qe

theorem Q1l {n f b:Nat}{x:Fun}{y:Block}{c:Int}(h:Qk x b y=c) (hc:c≠0):QD n f x b y=(c,Q2l f b):=by
 unfold QD;rw [h,Q31 (by rw [Q1u];exact hc),Q4m hc]
theorem QaE {n f b:Nat}{x:Fun}{y:Block}{F:Flt}(h:Qk x b y=0) (hc:QN n f b 0 y.code=F) (hF:F.1≠0):QD n f x b y=F:=by
 unfold QD;rw [h,Q1E,hc,Q31 hF,Q1t (fun h=>absurd h hF)]
theorem bf_end {n f b:Nat}{x:Fun}{y:Block}(h:Qk x b y=0) (hc:QN n f b 0 y.code=(0,0)):QD n f x b y=mkF (Q10 x.blocks.length y.fin) (Q4J f b):=by
 unfold QD;rw [h,Q1E,hc,Q1t (Q5r _ _),Q1t (Q5r _ _)]
theorem Q7D {n f b i:Nat}{x:Ins}{l:List Ins}(h:Qm n x=0):QN n f b i (x::l)=QN n f b (i+1) l:=by
 rw [QN,h,Q1E,Q1t Q4F]
theorem Q33 {n f b i:Nat}{x:Ins}{l:List Ins}(h:Qm n x≠0):QN n f b i (x::l)=(Qm n x,Q45 f b i):=by
 rw [QN,Q31 (by rw [Q1u];exact h),Q4m h]
theorem QM {n f:Nat}{x:Fun}{c:Int}(h:Qs f x=c) (hc:c≠0):Q1B n f x=(c,Q2g f):=by
 unfold Q1B;rw [h,Q31 (by rw [Q1u];exact hc),Q4m hc]
theorem Q7f {n f:Nat}{x:Fun}(h:Qs f x=0):Q1B n f x=QE n f x 0 x.blocks:=by
 unfold Q1B;rw [h,Q1E,Q1t Q2a]
theorem Q69 {n f b:Nat}{x:Fun}{y:Block}{l:List Block}(h:(QD n f x b y).1=0):QE n f x b (y::l)=QE n f x (b+1) l:=by
 rw [QE,Q5Y h,Q1t Q2a]
theorem Q3y {n f b:Nat}{x:Fun}{y:Block}{l:List Block}(h:(QD n f x b y).1≠0):QE n f x b (y::l)=QD n f x b y:=by
 rw [QE,Q31 h]
theorem Qc7 {n f:Nat}{x:Fun}:(Q1B n f x).1=0→Q1B n f x=(0,0):=Q7v (Q5r _ _) Q2a
theorem Q7z {n f:Nat}{x:Fun}{l:List Fun}(h:(Q1B n f x).1=0):Q18 n f (x::l)=Q18 n (f+1) l:=by
 rw [Q18,Qc7 h,Q1t Qe]
theorem Qc {n f:Nat}{x:Fun}{l:List Fun}(h:(Q1B n f x).1≠0):Q18 n f (x::l)=Q1B n f x:=by
 rw [Q18,Q31 h]

def hasTab:List ByteArray:=[⟨#[]⟩,⟨#[110]⟩,⟨#[97,98,107]⟩,⟨#[]⟩,⟨#[97]⟩,⟨#[97,114]⟩,⟨#[97,107]⟩,⟨#[97,98,107]⟩,⟨#[97,98]⟩,⟨#[97,98]⟩,⟨#[97,98,99]⟩,⟨#[97]⟩,⟨#[]⟩,⟨#[97]⟩,⟨#[107,103,114]⟩]
def hasF (op:Int):ByteArray:=if op<1∨14<op then ⟨#[]⟩ else hasTab.getD op.toNat ⟨#[]⟩
def Q1b (s:ByteArray) (c:Nat):Bool:=s.data.toList.any fun b=>decide (b.toNat=c)
theorem op_cases {op:Int}(h1:¬op<1) (h2:¬14<op):op=1∨op=2∨op=3∨op=4∨op=5∨op=6∨op=7∨op=8∨op=9∨op=10∨op=11∨op=12∨op=13∨op=14:=by omega
theorem with_all (op:Int) (h:¬(op<1∨14<op)):Q1b (hasF op) 97=fA op∧Q1b (hasF op) 98=fB op∧Q1b (hasF op) 99=fC op∧Q1b (hasF op) 107=fK op∧Q1b (hasF op) 110=fN op∧Q1b (hasF op) 103=fG op∧Q1b (hasF op) 114=fR op:=by
 rcases op_cases (op:=op) (by omega) (by omega) with rfl|rfl|rfl|rfl|rfl|rfl|rfl|rfl|rfl|rfl|rfl|rfl|rfl|rfl<;>decide
end Go.Lir
namespace Go.Lir
section
variable {α β:Type}
def pick:List Bool→List α→List α
 | k::ks,x::xs=>if k=true then x::pick ks xs else pick ks xs
 | _,_=>[]
theorem Q8g (ks:List Bool):pick ks ([]:List α)=[]:=by cases ks<;>rfl
theorem Q6G:∀(ks:List Bool) (xs:List α) (b:Nat){k:Bool}{x:α},ks[b]?=some k→xs[b]?=some x→pick (ks.take (b+1)) (xs.take (b+1))=pick (ks.take b) (xs.take b)++(if k=true then [x] else [])
 | [],_,_,_,_,h,_=>by simp at h
 | _::_,[],_,_,_,_,h=>by simp at h
 | k::ks,x::xs,0,k',x',h,h2=>by
   simp at h h2;subst h h2
   simp [pick]
 | k::ks,x::xs,b+1,k',x',h,h2=>by
   have ih:=Q6G ks xs b (by simpa using h) (by simpa using h2)
   simp only [List.take_succ_cons,pick]
   rw [ih]
   split<;>rfl
theorem Q8h (f:α→β):∀(ks:List Bool) (xs:List α),pick ks (xs.map f)=(pick ks xs).map f
 | [],_=>rfl
 | _::_,[]=>rfl
 | k::ks,x::xs=>by
   simp only [List.map_cons,pick]
   rw [Q8h f ks xs]
   split<;>rfl
theorem Q2n:∀(ks:List Bool) (xs:List α),(pick ks xs).length≤xs.length
 | [],_=>Nat.zero_le _
 | _::_,[]=>Nat.zero_le _
 | k::ks,x::xs=>by
   have:=Q2n ks xs
   simp only [pick];split<;>simp<;>omega
theorem Q3l:∀(ks:List Bool) (xs:List α){x:α},x∈pick ks xs→x∈xs
 | [],_,_,h=>by cases h
 | _::_,[],_,h=>by cases h
 | k ::ks,y::xs,x,h=>by
   simp only [pick] at h
   split at h
   · rcases List.mem_cons.1 h with rfl|h
     · exact List.mem_cons_self ..
     · exact List.mem_cons_of_mem _ (Q3l ks xs h)
   · exact List.mem_cons_of_mem _ (Q3l ks xs h)
end
def num (ks:List Bool) (k:Nat):Nat:=(ks.take k).countP id
def idxs (ks:List Bool):List Nat:=pick ks (List.range ks.length)
section
variable (adj:Nat→List Nat)
def Q2d (ks:List Bool) (l:List Nat):List Bool:=l.foldl (fun ks j=>ks.set j true) ks
def Q3z (ks:List Bool) (b:Nat):List Bool:=if ks.getD b false=true then Q2d ks (adj b) else ks
def Q1p (n:Nat) (ks:List Bool):List Bool:=(List.range n).foldl (Q3z adj) ks
def Q1j (n:Nat):Nat→List Bool→List Bool
 | 0,ks=>ks
 | k+1,ks=>Q1p adj n (Q1j n k ks)
def kbeg (n:Nat):List Bool:=(List.replicate n false).set 0 true
def Q2s (n:Nat):List Bool:=Q1j adj n n (kbeg n)
inductive Come:Nat→Prop where
 | zero:Come 0
 | next {k j:Nat}:Come k→j∈adj k→Come j
end
section
variable {adj:Nat→List Nat}{n:Nat}{ks ks':List Bool}{b j:Nat}
theorem Q49:∀(l:List Nat) (ks:List Bool),(Q2d ks l).length=ks.length
 | [],_=>rfl
 | j::l,ks=>by
   show (Q2d (ks.set j true) l).length=_
   rw [Q49 l];simp
theorem Q86 (l l':List Nat) (ks:List Bool):Q2d ks (l++l')=Q2d (Q2d ks l) l':=by
 unfold Q2d;rw [List.foldl_append]
theorem Q5h:∀(l:List Nat) (ks:List Bool) (k:Nat),(Q2d ks l)[k]?=some true↔ks[k]?=some true∨(k∈l∧k<ks.length)
 | [],ks,k=>by simp [Q2d]
 | j ::l,ks,k=>by
   have h:=Q5h l (ks.set j true) k
   have e:Q2d ks (j::l)=Q2d (ks.set j true) l:=rfl
   rw [e,h,List.getElem?_set,List.length_set]
   by_cases hjk:j=k
   · subst hjk
     by_cases hl:j<ks.length
     · rw [if_pos rfl,if_pos hl];simp [hl]
     · rw [if_pos rfl,if_neg hl]
       simp [hl]
   · rw [if_neg hjk]
     simp [Ne.symm hjk]
theorem getD_iff:ks.getD b false=true↔ks[b]?=some true:=by
 rw [List.getD_eq_getElem?_getD]
 cases h:ks[b]? with
 | none=>simp
 | some x=>simp
theorem visit_len:(Q3z adj ks b).length=ks.length:=by
 unfold Q3z;split
 · exact Q49 _ _
 · rfl
theorem Q34 (k:Nat):(Q3z adj ks b)[k]?=some true↔ks[k]?=some true∨(ks[b]?=some true∧k∈adj b∧k<ks.length):=by
 unfold Q3z
 split
 · next h=>
   rw [Q5h]
   rw [getD_iff] at h
   simp [h]
 · next h=>
   rw [getD_iff] at h
   simp [h]
theorem Q8v:∀(l:List Nat) (ks:List Bool),(l.foldl (Q3z adj) ks).length=ks.length
 | [],_=>rfl
 | b::l,ks=>by rw [List.foldl_cons,Q8v l,visit_len]
theorem round_len:(Q1p adj n ks).length=ks.length:=Q8v _ _
theorem Q2i (k:Nat):(Q1j adj n k ks).length=ks.length:=by
 induction k with
 | zero=>rfl
 | succ k ih=>rw [Q1j,round_len,ih]
theorem Q4V:(kbeg n).length=n:=by simp [kbeg]
theorem Q7Q:(Q2s adj n).length=n:=by rw [Q2s,Q2i,Q4V]
theorem Q52:∀(l:List Nat) (ks:List Bool){k:Nat},ks[k]?=some true→(l.foldl (Q3z adj) ks)[k]?=some true
 | [],_,_,h=>h
 | b::l,ks,k,h=>by rw [List.foldl_cons];exact Q52 l _ ((Q34 k).2 (.inl h))
theorem Q9y:∀(l:List Nat) (ks:List Bool){b k:Nat},b∈l→ks[b]?=some true→k∈adj b→k<ks.length→(l.foldl (Q3z adj) ks)[k]?=some true
 | [],_,_,_,h,_,_,_=>by cases h
 | c::l,ks,b,k,hb,h,hk,hl=>by
   rw [List.foldl_cons]
   rcases List.mem_cons.1 hb with rfl|hb
   · exact Q52 l _ ((Q34 k).2 (.inr ⟨h,hk,hl⟩))
   · exact Q9y l _ hb ((Q34 b).2 (.inl h)) hk (by rw [visit_len];exact hl)
theorem Q9z:∀(l:List Nat) (ks:List Bool),(∀k,ks[k]?=some true→Come adj k)→∀k,(l.foldl (Q3z adj) ks)[k]?=some true→Come adj k
 | [],_,h=>h
 | b::l,ks,h=>by
   rw [List.foldl_cons]
   refine Q9z l _ fun k hk=>?_
   rcases (Q34 k).1 hk with hk|⟨h1,h2,_⟩
   · exact h k hk
   · exact .next (h b h1) h2
def Qby (adj:Nat→List Nat) (n:Nat) (ks:List Bool):Prop:=∀b<n,ks[b]?=some true→∀k∈adj b,ks[k]?=some true
def cnt (ks:List Bool):Nat:=ks.countP id
theorem Qbs:∀(ks ks':List Bool),ks.length=ks'.length→(∀k:Nat,ks[k]?=some true→ks'[k]?=some true)→cnt ks≤cnt ks'∧(cnt ks=cnt ks'→ks=ks')
 | [],[],_,_=>⟨Nat.le_refl _,fun _=>rfl⟩
 | [],_::_,h,_=>by simp at h
 | _::_,[],h,_=>by simp at h
 | x::ks,y::ks',h,hm=>by
   have ih:=Qbs ks ks' (by simpa using h) (fun k hk=>by have:=hm (k+1);simpa using this (by simpa using hk))
   have h0:=hm 0
   simp at h0
   unfold cnt at ih ⊢
   rw [List.countP_cons,List.countP_cons]
   cases x<;>cases y<;>simp at h0 ⊢
   · exact ih
   · refine ⟨by omega,fun h=>?_⟩;omega
   · exact ih
theorem round_or (ha:∀b<n,∀k∈adj b,k<n) (hl:ks.length=n):Qby adj n ks∨cnt ks+1≤cnt (Q1p adj n ks):=by
 have h1:=Qbs ks (Q1p adj n ks) round_len.symm (fun k hk=>Q52 _ _ hk)
 rcases Nat.lt_or_ge (cnt ks) (cnt (Q1p adj n ks)) with h|h
 · exact .inr h
 · refine .inl fun b hb hk k hka=>?_
   have e:=h1.2 (by omega)
   rw [e]
   exact Q9y (List.range n) ks (List.mem_range.2 hb) hk hka (by rw [hl];exact ha b hb k hka)
theorem Q5W (_hl:ks.length=n) (h:Qby adj n ks):Q1p adj n ks=ks:=by
 unfold Q1p
 have :∀l:List Nat,(∀b∈l,b<n)→l.foldl (Q3z adj) ks=ks:=by
  intro l
  induction l with
  | nil=>intro _;rfl
  | cons b l ih=>
    intro hb
    have e:Q3z adj ks b=ks:=by
     have h2:=Qbs ks (Q3z adj ks b) visit_len.symm (fun k hk=>(Q34 k).2 (.inl hk))
     have h3:=Qbs (Q3z adj ks b) ks visit_len (fun k hk=>by
      rcases (Q34 k).1 hk with hk|⟨h4,h5,_⟩
      · exact hk
      · exact h b (hb b (List.mem_cons_self ..)) h4 k h5)
     exact (h2.2 (by omega)).symm
    rw [List.foldl_cons,e]
    exact ih fun b hb'=>hb b (List.mem_cons_of_mem _ hb')
 exact this _ fun b hb=>List.mem_range.1 hb
theorem rounds_or (ha:∀b<n,∀k∈adj b,k<n) (hl:ks.length=n) (h0:1≤cnt ks):∀m,Qby adj n (Q1j adj n m ks)∨m+1≤cnt (Q1j adj n m ks)
 | 0=> .inr h0
 | m + 1=>by
   rcases rounds_or ha hl h0 m with h|h
   · refine .inl ?_
     rw [Q1j,Q5W (by rw [Q2i,hl]) h];exact h
   · rcases round_or ha (ks:=Q1j adj n m ks) (by rw [Q2i,hl]) with h2|h2
     · refine .inl ?_
       rw [Q1j,Q5W (by rw [Q2i,hl]) h2];exact h2
     · exact .inr (by rw [Q1j];omega)
theorem Q6B (h:∀k:Nat,ks[k]?=some true→Come adj k):∀m k,(Q1j adj n m ks)[k]?=some true→Come adj k
 | 0=>h
 | m+1=>Q9z _ _ (Q6B h m)
theorem Qac (m:Nat){k:Nat}(h:ks[k]?=some true):(Q1j adj n m ks)[k]?=some true:=by
 induction m with
 | zero=>exact h
 | succ m ih=>exact Q52 _ _ ih
theorem Qbg (k:Nat):(kbeg n)[k]?=some true↔k=0∧0<n:=by
 unfold kbeg
 rw [List.getElem?_set]
 by_cases hk:0=k
 · subst hk
   by_cases hn:0<n<;>simp [hn]
 · rw [if_neg hk]
   simp [List.getElem?_replicate,Ne.symm hk]
theorem QdH (ha:∀b<n,∀k∈adj b,k<n) (h0:0<n){k:Nat}(h:Come adj k):k<n:=by
 induction h with
 | zero=>exact h0
 | next _ hj ih=>exact ha _ ih _ hj
theorem Q4e (ha:∀b<n,∀k∈adj b,k<n) (h0:0<n) (k:Nat):(Q2s adj n)[k]?=some true↔Come adj k:=by
 have hf:(kbeg n)[0]?=some true:=(Qbg 0).2 ⟨rfl,h0⟩
 constructor
 · exact Q6B (fun k hk=>by obtain ⟨rfl,_⟩:=(Qbg k).1 hk;exact .zero) n k
 · have hc:Qby adj n (Q2s adj n):=by
    rcases rounds_or ha (Q4V (n:=n)) (by
     unfold cnt;exact List.countP_pos_iff.2 ⟨true,List.mem_of_getElem? hf,rfl⟩) n with h|h
    · exact h
    · exfalso
      have:cnt (Q1j adj n n (kbeg n))≤n:=by
       have:=List.countP_le_length (p:=id) (l:=Q1j adj n n (kbeg n))
       rw [Q2i,Q4V] at this;exact this
      omega
   intro h
   induction h with
   | zero=>exact Qac n hf
   | next hk hj ih=>exact hc _ (QdH ha h0 hk) ih _ hj
end
section
variable {adj:Nat→List Nat}{n:Nat}{ks:List Bool}{b j j2:Nat}
theorem Q1I:Q1p adj (b+1) ks=Q3z adj (Q1p adj b ks) b:=by
 unfold Q1p
 rw [List.range_succ,List.foldl_append];rfl
theorem Qdk {r:Nat}:Q1j adj n (r+1) ks=Q1p adj n (Q1j adj n r ks):=rfl
theorem QaV:Q2d ks []=ks:=rfl
theorem QaU:Q2d ks [j]=ks.set j true:=rfl
theorem setAll_2:Q2d ks [j,j2]=(ks.set j true).set j2 true:=rfl
theorem Q79:(Q1p adj b ks).length=ks.length:=Q8v _ _
theorem Q84 (h:ks[b]?=some false):Q3z adj ks b=ks:=by
 unfold Q3z
 rw [if_neg]
 intro h2;rw [getD_iff,h] at h2;cases h2
theorem Q6a (h:ks[b]?=some true):Q3z adj ks b=Q2d ks (adj b):=by
 unfold Q3z
 rw [if_pos (getD_iff.2 h)]
theorem set_true (h:ks[b]?=some true):(ks.set j true)[b]?=some true:=by
 have hl:=(List.getElem?_eq_some_iff.1 h).1
 rw [List.getElem?_set]
 split
 · next e=>subst e;rw [if_pos hl]
 · exact h
end
theorem Q8r (ks:List Bool) (k:Nat):k∈idxs ks↔ks[k]?=some true:=by
 have : ∀(ks:List Bool) (s:Nat),k∈pick ks (List.range' s ks.length)↔s≤k∧ks[k - s]?=some true:=by
  intro ks
  induction ks with
  | nil=>intro s;simp [pick]
  | cons b ks ih=>
    intro s
    have ih:=ih (s+1)
    rw [List.length_cons,List.range'_succ]
    simp only [pick]
    by_cases hs:s=k
    · subst hs
      have:¬s+1≤s:=by omega
      cases b<;>simp [ih,this]
    · by_cases hlt:s≤k
      · obtain ⟨d,rfl⟩:∃d,k=s+(d+1):=⟨k - s - 1,by omega⟩
        have e1:s+(d+1) - s=d+1:=by omega
        have e2:s+(d+1) - (s+1)=d:=by omega
        rw [e1];rw [e2] at ih
        have h3:s+1≤s+(d+1):=by omega
        have h4:¬(s+(d+1)=s):=by omega
        cases b<;>simp [ih]
      · have h3:¬s+1≤k:=by omega
        cases b<;>simp [ih,hlt,h3,Ne.symm hs]
 have h:=this ks 0
 rw [idxs,List.range_eq_range']
 simpa using h
theorem Q76 (ks:List Bool):(idxs ks).Pairwise (· < ·):=by
 have :∀(ks:List Bool) (s:Nat),(pick ks (List.range' s ks.length)).Pairwise (· < ·):=by
  intro ks
  induction ks with
  | nil=>intro s;simp [pick]
  | cons b ks ih=>
    intro s
    rw [List.length_cons,List.range'_succ]
    simp only [pick]
    split
    · refine List.Pairwise.cons (fun k hk=>?_) (ih (s+1))
      have:=Q3l _ _ hk
      rw [List.mem_range'] at this
      omega
    · exact ih (s+1)
 rw [idxs,List.range_eq_range'];exact this ks 0
theorem Q4P:∀{l l':List Nat},l.Pairwise (· < ·)→l'.Pairwise (· < ·)→(∀k,k∈l↔k∈l')→l=l'
 | [],[],_,_,_=>rfl
 | [],a::l',_,_,h=>by have:=(h a).2 (List.mem_cons_self ..);cases this
 | a::l,[],_,_,h=>by have:=(h a).1 (List.mem_cons_self ..);cases this
 | a ::l,b::l',h1,h2,h=>by
   obtain ⟨h1a,g1⟩:=List.pairwise_cons.1 h1
   obtain ⟨h2a,g2⟩:=List.pairwise_cons.1 h2
   have e:a=b:=by
    rcases List.mem_cons.1 ((h a).1 (List.mem_cons_self ..)) with e|e
    · exact e
    · rcases List.mem_cons.1 ((h b).2 (List.mem_cons_self ..)) with e2|e2
      · exact e2.symm
      · have:=h1a b e2;have:=h2a a e;omega
   subst e
   refine congrArg (a::·) (Q4P g1 g2 fun k=>?_)
   have:=h k
   constructor
   · intro hk
     rcases List.mem_cons.1 (this.1 (List.mem_cons_of_mem _ hk)) with e|e
     · subst e;have:=h1a _ hk;omega
     · exact e
   · intro hk
     rcases List.mem_cons.1 (this.2 (List.mem_cons_of_mem _ hk)) with e|e
     · subst e;have:=h2a _ hk;omega
     · exact e
theorem idxs_num (ks:List Bool){k:Nat}(h:ks[k]?=some true):(idxs ks)[num ks k]?=some k:=by
 have :∀(ks:List Bool) (s k:Nat),ks[k]?=some true→(pick ks (List.range' s ks.length))[(ks.take k).countP id]?=some (s+k):=by
  intro ks
  induction ks with
  | nil=>intro s k h;simp at h
  | cons b ks ih=>
    intro s k h
    rw [List.length_cons,List.range'_succ]
    cases k with
    | zero=>simp at h;subst h;simp [pick]
    | succ k=>
      have ih:=ih (s+1) k (by simpa using h)
      rw [show s+1+k=s+(k+1) by omega] at ih
      cases b<;>simp [pick,ih]
 have h2:=this ks 0 k h
 rw [idxs,List.range_eq_range',num];simpa using h2
def Q7A:Nat→List Int→Int→Int
 | _,[],_=> -1
 | j,y::l,x=>if x=y then (j:Int) else Q7A (j+1) l x
theorem Qbp:∀{l:List Int}{j p:Nat}{x:Int},l[p]?=some x→(∀q<p,l[q]?≠some x)→Q7A j l x=((j+p:Nat):Int)
 | [],_,_,_,h,_=>by simp at h
 | y::l,j,0,x,h,_=>by simp at h;subst h;rw [Q7A,if_pos rfl];rfl
 | y::l,j,p+1,x,h,hn=>by
   have h0:¬x=y:=fun e=>hn 0 (by omega) (by rw [e];rfl)
   rw [Q7A,if_neg h0,Qbp (l:=l) (p:=p) (by simpa using h) fun q hq=>by have:=hn (q+1) (by omega);simpa using this]
   omega
theorem Q7d {ks:List Bool}{k:Nat}(h:ks[k]?=some true):Q7A 0 ((idxs ks).map fun k:Nat=>(k:Int)) k=(num ks k:Int):=by
 have h1:=idxs_num ks h
 rw [Qbp (p:=num ks k) (by rw [List.getElem?_map,h1];rfl) fun q hq e=>?_]
 · omega
 · rw [List.getElem?_map] at e
   have hlt:=(List.getElem?_eq_some_iff.1 h1).1
   have hs:=List.pairwise_iff_getElem.1 (Q76 ks) q (num ks k) (by omega) hlt hq
   rw [List.getElem?_eq_getElem (by omega)] at e
   have h2:=(List.getElem?_eq_some_iff.1 h1).2
   have e:((idxs ks)[q]:Int)=(k:Int):=by simpa using e
   omega
theorem num_snoc {ks:List Bool}{i:Nat}{b:Bool}(h:ks[i]?=some b):num ks (i+1)=num ks i+(if b=true then 1 else 0):=by
 unfold num
 rw [List.take_add_one,h,List.countP_append]
 cases b<;>rfl
theorem num_le {ks:List Bool}{i:Nat}:num ks i≤i:=by
 unfold num
 exact Nat.le_trans List.countP_le_length (by rw [List.length_take];omega)
theorem Qb7 {α:Type}:∀(ks:List Bool) (l:List α) (s j k:Nat),ks.length=l.length→(pick ks (List.range' s ks.length))[j]?=some k→s≤k∧(pick ks l)[j]?=l[k - s]?
 | [],_,_,_,_,_,h=>by simp [pick] at h
 | _::_,[],_,_,_,hl,_=>by simp at hl
 | b ::ks,x::l,s,j,k,hl,h=>by
   have ih:=fun j=>Qb7 ks l (s+1) j k (by simpa using hl)
   rw [List.length_cons,List.range'_succ] at h
   cases b with
   | false=>
     simp only [pick,Bool.false_eq_true,if_false] at h ⊢
     obtain ⟨h1,h2⟩:=ih j h
     refine ⟨by omega,?_⟩
     rw [h2,show k - s=(k - (s+1))+1 by omega];rfl
   | true=>
     simp only [pick,if_true] at h ⊢
     cases j with
     | zero=>simp at h;subst h;simp
     | succ j=>
       obtain ⟨h1,h2⟩:=ih j (by simpa using h)
       refine ⟨by omega,?_⟩
       rw [List.getElem?_cons_succ,h2,show k - s=(k - (s+1))+1 by omega];rfl
theorem Qd9 {α:Type}{ks:List Bool}{l:List α}{j k:Nat}(hl:ks.length=l.length) (h:(idxs ks)[j]?=some k):(pick ks l)[j]?=l[k]?:=by
 rw [idxs,List.range_eq_range'] at h
 have:=(Qb7 ks l 0 j k hl h).2
 simpa using this
theorem Q6H {α β:Type}:∀(ks:List Bool) (l:List α) (m:List β),l.length=m.length→(pick ks l).length=(pick ks m).length
 | [],_,_,_=>rfl
 | _::_,[],[],_=>rfl
 | _::_,[],_::_,h=>by simp at h
 | _::_,_::_,[],h=>by simp at h
 | k::ks,x::l,y::m,h=>by
   have ih:=Q6H ks l m (by simpa using h)
   simp only [pick];split<;>simp [ih]
theorem Qbi {α:Type}{ks:List Bool}{l:List α}(hl:ks.length=l.length):(idxs ks).length=(pick ks l).length:=Q6H _ _ _ (by rw [List.length_range,hl])
end Go.Lir
namespace Go.Lir
def Ord (l:List Int) (n j:Nat):Prop:=∀(p q:Nat) (x y:Int),p<q→q<n→q≠j→l[p]?=some x→l[q]?=some y→x≤y
section
variable {l:List Int}{i j n:Nat}{x y:Int}
theorem Ord.one:Ord l 1 1:=fun p q _ _ h1 h2=>by omega
theorem Ord.nil:Ord l 0 0:=fun p q _ _ h1 h2=>by omega
theorem Ord.begin (h:Ord l i i):Ord l (i+1) i:=fun p q x y h1 h2 h3 h4 h5=>h p q x y h1 (by omega) h3 h4 h5
theorem Ord.top (h:Ord l (i+1) 0):Ord l (i+1) (i+1):=fun p q x y h1 h2 _ h4 h5=>h p q x y h1 h2 (by omega) h4 h5
theorem Ord.stop (h:Ord l (i+1) j) (h0:0<j) (hx:l[j - 1]?=some x) (hy:l[j]?=some y) (hle:x≤y):Ord l (i+1) (i+1):=by
 intro p q a b h1 h2 _ h4 h5
 by_cases hq:q=j
 · subst hq
   rw [hy] at h5;cases h5
   by_cases hp:p=q - 1
   · subst hp;rw [hx] at h4;cases h4;exact hle
   · have:=h p (q - 1) a x (by omega) (by omega) (by omega) h4 hx
     omega
 · exact h p q a b h1 h2 hq h4 h5
theorem Q48 (hx:l[j - 1]?=some x) (hy:l[j]?=some y) (h0:0<j) (p:Nat):((l.set j x).set (j - 1) y)[p]?=if p=j - 1 then some y else if p=j then some x else l[p]?:=by
 have h1:=(List.getElem?_eq_some_iff.1 hx).1
 have h2:=(List.getElem?_eq_some_iff.1 hy).1
 rw [List.getElem?_set,List.getElem?_set,List.length_set]
 by_cases hp:p=j - 1
 · subst hp;rw [if_pos rfl,if_pos h1,if_pos rfl]
 · rw [if_neg (Ne.symm hp),if_neg hp]
   by_cases hp2:p=j
   · subst hp2;rw [if_pos rfl,if_pos h2,if_pos rfl]
   · rw [if_neg (Ne.symm hp2),if_neg hp2]
theorem Ord.swap (h:Ord l (i+1) j) (h0:0<j) (hj:j≤i) (hx:l[j - 1]?=some x) (hy:l[j]?=some y) (hlt:y<x):Ord ((l.set j x).set (j - 1) y) (i+1) (j - 1):=by
 intro p q a b h1 h2 h3 h4 h5
 rw [Q48 hx hy h0] at h4 h5
 rw [if_neg h3] at h5
 by_cases hq:q=j
 · rw [if_pos hq] at h5;cases h5
   by_cases hp:p=j - 1
   · rw [if_pos hp] at h4;cases h4;omega
   · rw [if_neg hp,if_neg (by omega)] at h4
     exact h p (j - 1) a x (by omega) (by omega) (by omega) h4 hx
 · rw [if_neg hq] at h5
   by_cases hp:p=j - 1
   · rw [if_pos hp] at h4;cases h4
     exact h j q y b (by omega) h2 hq hy h5
   · rw [if_neg hp] at h4
     by_cases hp2:p=j
     · rw [if_pos hp2] at h4;cases h4
       exact h (j - 1) q x b (by omega) h2 hq hx h5
     · rw [if_neg hp2] at h4
       exact h p q a b h1 h2 hq h4 h5
theorem swap_mem (hx:l[j - 1]?=some x) (hy:l[j]?=some y) (h0:0<j) (z:Int):z∈(l.set j x).set (j - 1) y↔z∈l:=by
 rw [List.mem_iff_getElem?,List.mem_iff_getElem?]
 constructor
 · rintro ⟨p,hp⟩
   rw [Q48 hx hy h0] at hp
   split at hp
   · exact ⟨j,by rw [hy];exact hp⟩
   · split at hp
     · exact ⟨j - 1,by rw [hx];exact hp⟩
     · exact ⟨p,hp⟩
 · rintro ⟨p,hp⟩
   by_cases h1:p=j
   · subst h1;exact ⟨p - 1,by rw [Q48 hx hy h0,if_pos rfl,←hy];exact hp⟩
   · by_cases h2:p=j - 1
     · subst h2;exact ⟨j,by rw [Q48 hx hy h0,if_neg (by omega),if_pos rfl,←hx];exact hp⟩
     · exact ⟨p,by rw [Q48 hx hy h0,if_neg h2,if_neg h1];exact hp⟩
def Dif (l:List Int):Prop:=∀(p q:Nat) (x:Int),l[p]?=some x→l[q]?=some x→p=q
theorem Dif.swap (h:Dif l) (h0:0<j) (hx:l[j - 1]?=some x) (hy:l[j]?=some y):Dif ((l.set j x).set (j - 1) y):=by
 have key:∀(p:Nat) (a:Int),((l.set j x).set (j - 1) y)[p]?=some a→l[if p=j - 1 then j else if p=j then j - 1 else p]?=some a:=by
  intro p a ha
  rw [Q48 hx hy h0] at ha
  split at ha
  · next e=>rw [if_pos e,hy];exact ha
  · next e=>
    rw [if_neg e]
    split at ha
    · next e2=>rw [if_pos e2,hx];exact ha
    · next e2=>rw [if_neg e2];exact ha
 intro p q a hp hq
 have:=h _ _ a (key p a hp) (key q a hq)
 split at this<;>split at this<;>(try split at this)<;>(try split at this)<;>omega
theorem Dif.push (h:Dif l) (hx:x∉l):Dif (l++[x]):=by
 intro p q a hp hq
 have key:∀(p:Nat),(l++[x])[p]?=some a→l[p]?=some a∨(p=l.length∧a=x):=by
  intro p hp
  rcases Nat.lt_or_ge p l.length with h|h
  · rw [List.getElem?_append_left h] at hp;exact .inl hp
  · rw [List.getElem?_append_right h] at hp
    have:=(List.getElem?_eq_some_iff.1 hp).1
    simp at this
    obtain rfl:p=l.length:=by omega
    rw [Nat.sub_self] at hp
    simp at hp
    exact .inr ⟨rfl,hp.symm⟩
 rcases key p hp with h1|⟨rfl,rfl⟩<;>rcases key q hq with h2|⟨rfl,h2⟩
 · exact h p q a h1 h2
 · subst h2;exact absurd (List.mem_of_getElem? h1) hx
 · exact absurd (List.mem_of_getElem? h2) hx
 · rfl
theorem Qa4 {ks:List Bool}(h:Ord l l.length l.length) (hd:Dif l) (hm:∀z:Int,z∈l↔∃k:Nat,z=(k:Int)∧ks[k]?=some true):l=(idxs ks).map fun k:Nat=>(k:Int):=by
 have h1:(l.map Int.toNat).Pairwise (· < ·):=by
  rw [List.pairwise_map,List.pairwise_iff_getElem]
  intro p q hp hq hpq
  have e1:=List.getElem?_eq_getElem hp
  have e2:=List.getElem?_eq_getElem hq
  have h3:=h p q _ _ hpq hq (by omega) e1 e2
  obtain ⟨k1,h4,_⟩:=(hm l[p]).1 (List.getElem_mem hp)
  obtain ⟨k2,h5,_⟩:=(hm l[q]).1 (List.getElem_mem hq)
  have:l[p]≠l[q]:=fun e=>by rw [e] at e1;have:=hd _ _ _ e1 e2;omega
  omega
 have h2:=Q4P h1 (Q76 ks) fun k=>by
  rw [Q8r,List.mem_map]
  constructor
  · rintro ⟨z,hz,rfl⟩
    obtain ⟨k,rfl,hk⟩:=(hm z).1 hz
    exact hk
  · intro hk
    exact ⟨k,(hm k).2 ⟨k,rfl,hk⟩,rfl⟩
 rw [←h2,List.map_map]
 apply List.ext_getElem?
 intro p
 rw [List.getElem?_map]
 cases e:l[p]? with
 | none=>rfl
 | some z=>
   obtain ⟨k,rfl,_⟩:=(hm z).1 (List.mem_of_getElem? e)
   rfl
end
structure WI (adj:Nat→List Nat) (n:Nat) (seen:List Bool) (todo out:List Int):Prop where
 len:seen.length=n
 outs:∀z:Int,z∈out↔∃k:Nat,z=(k:Int)∧seen[k]?=some true
 dif:Dif out
 few:out.length=cnt seen
 todos:∀z∈todo,∃k:Nat,z=(k:Int)∧Come adj k
 come:∀k,seen[k]?=some true→Come adj k
 zero:seen[0]?=some true∨(0:Int)∈todo
 next:∀k,seen[k]?=some true→∀j∈adj k,seen[j]?=some true∨(j:Int)∈todo
section
variable {adj:Nat→List Nat}{n k:Nat}{seen:List Bool}{t out:List Int}{z:Int}
theorem Q3g {k j:Nat}(hk:k<seen.length):(seen.set k true)[j]?=some true↔seen[j]?=some true∨j=k:=by
 rw [List.getElem?_set]
 by_cases h:k=j
 · subst h;rw [if_pos rfl,if_pos hk];simp
 · rw [if_neg h];simp [Ne.symm h]
theorem QdJ:∀{l:List Bool}{k:Nat},l[k]?=some false→cnt (l.set k true)=cnt l+1
 | [],_,h=>by simp at h
 | b::l,0,h=>by simp at h;subst h;simp [cnt]
 | b::l,k+1,h=>by
   have:=QdJ (l:=l) (k:=k) (by simpa using h)
   unfold cnt at this ⊢
   rw [List.set_cons_succ,List.countP_cons,List.countP_cons,this];omega
theorem WI.begin (_h0:0<n):WI adj n (List.replicate n false) [0] []:=by
 refine ⟨by simp,fun z=>?_,fun p q x hp=>by simp at hp,?_,fun z hz=>?_,fun k hk=>?_, .inr (List.mem_singleton.2 rfl),fun k hk=>?_⟩
 · simp [List.getElem?_replicate]
 · unfold cnt;simp [List.countP_replicate]
 · rw [List.mem_singleton] at hz;exact ⟨0,hz, .zero⟩
 · simp [List.getElem?_replicate] at hk
 · simp [List.getElem?_replicate] at hk
theorem WI.skip (h:WI adj n seen ((k:Int)::t) out) (hk:seen[k]?=some true):WI adj n seen t out:=by
 refine ⟨h.len,h.outs,h.dif,h.few,fun z hz=>h.todos z (List.mem_cons_of_mem _ hz),h.come,?_,fun j hj i hi=>?_⟩
 · rcases h.zero with h0|h0
   · exact .inl h0
   · rcases List.mem_cons.1 h0 with h0|h0
     · obtain rfl:k=0:=by omega
       exact .inl hk
     · exact .inr h0
 · rcases h.next j hj i hi with h0|h0
   · exact .inl h0
   · rcases List.mem_cons.1 h0 with h0|h0
     · obtain rfl:i=k:=by omega
       exact .inl hk
     · exact .inr h0
theorem WI.take (h:WI adj n seen ((k:Int)::t) out) (hk:seen[k]?=some false):WI adj n (seen.set k true) (t++(adj k).map fun j:Nat=>(j:Int)) (out++[(k:Int)]):=by
 have hlt:=(List.getElem?_eq_some_iff.1 hk).1
 obtain ⟨k',hk',hc⟩:=h.todos k (List.mem_cons_self ..)
 obtain rfl:k=k':=by omega
 refine ⟨by rw [List.length_set,h.len],fun z=>?_,h.dif.push fun hm=>?_,?_,fun z hz=>?_,fun j hj=>?_,?_,fun j hj i hi=>?_⟩
 · rw [List.mem_append,List.mem_singleton,h.outs]
   constructor
   · rintro (⟨j,rfl,hj⟩|rfl)
     · exact ⟨j,rfl,(Q3g hlt).2 (.inl hj)⟩
     · exact ⟨k,rfl,(Q3g hlt).2 (.inr rfl)⟩
   · rintro ⟨j,rfl,hj⟩
     rcases (Q3g hlt).1 hj with hj|rfl
     · exact .inl ⟨j,rfl,hj⟩
     · exact .inr rfl
 · obtain ⟨j,e,hj⟩:=(h.outs _).1 hm
   obtain rfl:k=j:=by omega
   rw [hk] at hj;cases hj
 · rw [List.length_append,h.few,QdJ hk];rfl
 · rcases List.mem_append.1 hz with hz|hz
   · exact h.todos z (List.mem_cons_of_mem _ hz)
   · obtain ⟨j,hj,rfl⟩:=List.mem_map.1 hz
     exact ⟨j,rfl, .next hc hj⟩
 · rcases (Q3g hlt).1 hj with hj|rfl
   · exact h.come j hj
   · exact hc
 · rcases h.zero with h0|h0
   · exact .inl ((Q3g hlt).2 (.inl h0))
   · rcases List.mem_cons.1 h0 with h0|h0
     · exact .inl ((Q3g hlt).2 (.inr (by omega)))
     · exact .inr (List.mem_append.2 (.inl h0))
 · rcases (Q3g hlt).1 hj with hj|rfl
   · rcases h.next j hj i hi with h0|h0
     · exact .inl ((Q3g hlt).2 (.inl h0))
     · rcases List.mem_cons.1 h0 with h0|h0
       · exact .inl ((Q3g hlt).2 (.inr (by omega)))
       · exact .inr (List.mem_append.2 (.inl h0))
   · exact .inr (List.mem_append.2 (.inr (List.mem_map.2 ⟨i,hi,rfl⟩)))
theorem WI.le (h:WI adj n seen t out):out.length≤n:=by
 rw [h.few,←h.len];exact List.countP_le_length
theorem WI.head (h:WI adj n seen (z::t) out) (ha:∀b<n,∀k∈adj b,k<n) (h0:0<n):∃k:Nat,z=(k:Int)∧k<n∧k<seen.length:=by
 obtain ⟨k,hk,hc⟩:=h.todos z (List.mem_cons_self ..)
 have:=QdH ha h0 hc
 exact ⟨k,hk,this,by rw [h.len];exact this⟩
theorem WI.done (h:WI adj n seen [] out) (ha:∀b<n,∀k∈adj b,k<n) (h0:0<n) (z:Int):z∈out↔∃k:Nat,z=(k:Int)∧(Q2s adj n)[k]?=some true:=by
 rw [h.outs]
 have key : ∀k,seen[k]?=some true↔Come adj k:=fun k=>by
  refine ⟨h.come k,fun hc=>?_⟩
  induction hc with
  | zero => rcases h.zero with h|h
            · exact h
            · cases h
  | next _ hj ih => rcases h.next _ ih _ hj with h|h
                    · exact h
                    · cases h
 constructor
 · rintro ⟨k,rfl,hk⟩;exact ⟨k,rfl,(Q4e ha h0 k).2 ((key k).1 hk)⟩
 · rintro ⟨k,rfl,hk⟩;exact ⟨k,rfl,(key k).2 ((Q4e ha h0 k).1 hk)⟩
theorem WI.sorted {l:List Int}(h:WI adj n seen [] out) (ha:∀b<n,∀k∈adj b,k<n) (h0:0<n) (ho:Ord l l.length l.length) (hd:Dif l) (hm:∀z,z∈l↔z∈out):l=(idxs (Q2s adj n)).map fun k:Nat=>(k:Int):=
 Qa4 ho hd fun z=>(hm z).trans (h.done ha h0 z)
end
end Go.Lir
namespace Go.Lir
set_option linter.unusedVariables false
def zigI (n:Int):Int:=bitI .xor .u64 (IntKind.u64.wrap (IntKind.u64.wrap n*2 ^ (min (1:Int).toNat IntKind.u64.bits))) (IntKind.u64.wrap (n.fdiv (2 ^ (min (63:Int).toNat IntKind.i64.bits))))
def zig (n:Int):Nat:=(zigI n).toNat
def leb:Nat→Nat→List UInt8
 | 0,_=>[]
 | k+1,u=>if u<128 then [UInt8.ofNat u] else UInt8.ofNat (u % 128+128)::leb k (u / 128)
theorem Qdh:∀(k u:Nat),(leb k u).length≤k
 | 0,_=>by simp [leb]
 | k +1,u=>by
   rw [leb]
   split
   · simp
   · have:=Qdh k (u / 128)
     simp only [List.length_cons];omega
def Q3C (n:Int):List UInt8:=leb 10 (zig n)
def Qbd (l:List Int):List UInt8:=l.flatMap Q3C
theorem QW (n:Int):(Q3C n).length≤10:=Qdh 10 _
theorem Q7O:∀(l:List Int),(Qbd l).length≤10*l.length
 | []=>by simp [Qbd]
 | n::l=>by
   have h1:=QW n
   have h2:=Q7O l
   simp only [Qbd,List.flatMap_cons,List.length_append,List.length_cons] at h2 ⊢
   omega
theorem u8_nat (u:Nat):IntKind.u8.wrap (u:Int)=((u % 256:Nat):Int):=by
 unfold IntKind.wrap
 simp [IntKind.bits,IntKind.signed]
def Qaw (l:List Int):List UInt8:=Q3C l.length++Qbd l
mutual
def Ty.bts:Ty→List UInt8
 | .mk k r l=>Q3C k++(if k≠1 then Q3C r else [])++(if k=3 then Q3C l.length++Tys.bts l else [])
def Tys.bts:List Ty→List UInt8
 | []=>[]
 | x::l=>x.bts++Tys.bts l
end
def tysB (l:List Ty):List UInt8:=Q3C l.length++Tys.bts l
def To.bts (t:To):List UInt8:=Q3C t.block++Qaw t.regs++Qaw t.args
def Tail.bts (e:Tail):List UInt8:=Q3C e.op++(if e.op=1 then e.yes.bts else if e.op=2 then Q3C e.a++e.yes.bts++e.no.bts else if e.op=3 then Qaw e.args else [])
def Q7e (op:Int):Nat:=if op<0∨14<op then 0 else [0,64,11,0,1,33,9,11,3,3,7,1,0,1,56].getD op.toNat 0
def regsB (h:Nat):Nat→List Int→List UInt8
 | _,[]=>[]
 | k,n::l=>(if h / 2 ^ k % 2=1 then Q3C n else [])++regsB h (k+1) l
def Ins.bts (x:Ins):List UInt8:=Q3C x.op++regsB (Q7e x.op) 0 [x.a,x.b,x.c,x.k]++(if Q7e x.op / 64 % 2=1 then Q3C x.n else [])++(if Q7e x.op / 16 % 2=1 then Qaw x.regs else [])++(if Q7e x.op / 32 % 2=1 then Qaw x.args else [])
end Go.Lir
