/- Lemmas of the proof, part 1: what the functions of the program do (contracts), and what follows. -/
import Derived.WalkKit
import Derived.Below
import Derived.ProofKit
import Derived.Deep.Slices
import Derived.DeepKeys
import Derived.Laws.StructEq
namespace Go.Lir

abbrev Env:=Nat→Value

def upd (ρ:Env) (d:Nat) (v:Value):Env:=fun i=>bif Nat.beq i d then v else ρ i

def Env.ev (ρ:Env):Operand→Value
 | .tmp t=>ρ t
 | .const v=>v
 | .global g=> .pointer (some ⟨g,0,none⟩)
 | .func f=> .func (.func f) #[] #[]

def updo (ρ:Env) (d:Option Nat) (v:Value):Env:=match d with|some d=>upd ρ d v|none=>ρ

def Rel (n:Nat) (ρ:Env) (ds:List Deferred) (a:Act):Prop:=a.tmps.size=n∧(∀i,a.tmps.getD i undef=ρ i)∧a.defers=ds

theorem Rel.ev {n ρ ds a}(h:Rel n ρ ds a):a.eval=ρ.ev:=by
 funext x;cases x<;>simp [Act.eval,Env.ev,h.2.1]

theorem Rel.put {n ρ ds a}(h:Rel n ρ ds a) (d:Option Nat) (v:Value) (hd:∀x,d=some x→x<n):Rel n (updo ρ d v) ds (a.put d v):=by
 cases d with
 | none=>exact h
 | some d=>
   have hdn:=hd d rfl
   obtain ⟨h1,h2,h3⟩:=h
   refine ⟨by simp [Act.put,h1],fun i=>?_,h3⟩
   have:=h2 i
   simp only [Act.put,updo,upd]
   by_cases hi:i=d
   · subst hi
     simp [Array.getD,h1,hdn]
   · have hb:Nat.beq i d=false:=by
      cases hbb:Nat.beq i d
      · rfl
      · exact absurd (Nat.eq_of_beq_eq_true hbb) hi
     rw [hb]
     simp only [cond_false]
     rw [←this]
     simp only [Array.getD_eq_getD_getElem?]
     rw [Array.getElem?_setIfInBounds_ne (by omega)]

abbrev QT:=Exit→Env→World→Prop
abbrev KT:=Env→World→Prop

def liftK (n:Nat) (ds:List Deferred) (K:KT):Act→World→Prop:=fun a w=>∃ρ,Rel n ρ ds a∧K ρ w
def Q98 (n:Nat) (ds:List Deferred) (Q:QT):Exit→Act→World→Prop:=fun e a w=>∃ρ,Rel n ρ ds a∧Q e ρ w

def Q3J (P:Program) (o:Oper) (ρ:Env) (w:World) (K:KT) (Q:QT):Prop:=
 match (execOp ρ.ev o).run P w with
 | .ok (.value v) w'=>K (updo ρ o.dst v) w'
 | .ok .skip w'=>K (updo ρ o.dst undef) w'
 | .ok (.enter f args) w'=>Calls P f args w' fun
    | .returned v,w''=>K (updo ρ o.dst v) w''
    | .panicked chain,w''=>Q (.panic chain) ρ w''
    | .outgrown,_=>Q .outgrown ρ w'
 | .ok (.row row args) w'=>Rows P row args w' fun v w''=>K (updo ρ o.dst v) w''
 | .halt (.panic v) w'=>Q (.panic [{v,recovered:=false}]) ρ w'
 | _=>False

theorem Q90 {P:Program}{o:Oper}{ρ:Env}{w:World}{K:KT}{Q:QT}{n:Nat}{ds:List Deferred}{a:Act}
 (hr:Rel n ρ ds a) (hd:∀x,o.dst=some x→x<n) (h:Q3J P o ρ w K Q):o.wp P a w (liftK n ds K) (Q98 n ds Q):=by
 unfold Oper.wp
 rw [hr.ev]
 unfold Q3J at h
 generalize (execOp ρ.ev o).run P w=r at h
 unfold Oper.upon
 split at h
 · exact ⟨_,hr.put _ _ hd,h⟩
 · exact ⟨_,hr.put _ _ hd,h⟩
 · refine h.mono fun e w'' h=>?_
   cases e with
   | returned v=>exact ⟨_,hr.put _ _ hd,h⟩
   | panicked ch=>exact ⟨_,hr,h⟩
   | outgrown=>exact ⟨a,_,_,hr,h⟩
 · exact h.mono fun v w' h=>⟨_,hr.put _ _ hd,h⟩
 · exact ⟨_,hr,h⟩
 · exact h.elim

def oneC:Value→Bool
 | .agg _| .tuple _=>false
 | _=>true

def Q2j (cells:List Value):List (Nat×Nat×Value)→Option (List Value)
 | []=>some cells
 | (off,size,v)::rest=>
   if v.cells.size=size∧off+size≤cells.length then Q2j (cells.take off++(v.cells.toList++cells.drop (off+size))) rest
   else none


inductive LO where
 | mov (d:Nat) (x:Operand)
 | pick (d:Nat) (c x y:Operand)
 | un (d:Nat) (op:UnOp) (x:Operand)
 | bin (d:Nat) (op:BinOp) (T:TypeId) (x y:Operand)
 | nilc (d:Nat) (x:Operand)
 | fld (d:Nat) (x:Operand) (off:Nat)
 | load1 (d:Nat) (x:Operand)
 | loadn (d:Nat) (n:Nat) (x:Operand)
 | store1 (x v:Operand)
 | storen (n:Nat) (x v:Operand)
 | idx (d:Nat) (es:Nat) (x i:Operand)
 | idxa (d:Nat) (n es:Nat) (x i:Operand)
 | len (d:Nat) (x:Operand)
 | slen (d:Nat) (x:Operand)
 | sidx (d:Nat) (x i:Operand)
 | ext (d:Nat) (x:Operand) (i:Nat)
 | fldv (d:Nat) (x:Operand) (off:Nat)
 | fldn (d:Nat) (x:Operand) (off n:Nat)
 | alloc (d:Nat) (T:TypeId) (zero:List Value)
 | box (d:Nat) (T:TypeId) (x:Operand)
 | call (d:Option Nat) (f:FuncId) (xs:List Operand)
 | callv (d:Option Nat) (x:Operand) (xs:List Operand)
 | build (d:Nat) (zero:List Value) (parts:List (Nat×Nat×Operand))
 | buildS (d:Nat) (T:TypeId) (n:Nat) (zero:List Value) (parts:List (Nat×Nat×Operand))
 | mkfn (d:Nat) (f:FuncId) (caps:List Operand)
 | sub (d:Nat) (es:Nat) (x:Operand) (lo hi mx:Option Operand)
 | ssub (d:Nat) (x:Operand) (lo hi:Option Operand)
 | mnx (d:Nat) (isMax:Bool) (x y:Operand)
 | conv (d:Nat) (k:IntKind) (x:Operand)
 | mki (d:Nat) (T:TypeId) (x:Operand)
 | raw (o:Oper)

def LO.dst:LO→Option Nat
 | .mov d _| .pick d ..| .un d ..| .bin d ..| .nilc d _| .fld d ..| .load1 d _| .loadn d ..| .idx d ..| .idxa d ..| .len d _| .slen d _| .sidx d ..| .ext d ..
 | .fldv d ..| .fldn d ..| .alloc d ..| .box d ..| .build d ..| .buildS d ..| .mkfn d ..| .sub d ..| .ssub d ..| .mnx d ..| .conv d ..| .mki d ..=>some d
 | .store1 ..| .storen ..=>none
 | .call d ..| .callv d ..=>d
 | .raw o=>o.dst

def Q42 (w:World) (a:Addr) (n:Nat) (cs:List Value):Prop:=cs.length=n∧∀j,j<n→w.cell? (a.add j)=cs[j]?

def bnd (ρ:Env) (dflt:Nat):Option Operand→Nat→Prop
 | none,n=>n=dflt
 | some x,n=>∃k,ρ.ev x= .int k n

def Qh (K:KT) (Q:QT) (d:Option Nat) (ρ:Env) (w:World):Ending→World→Prop
 | .returned v,w''=>K (updo ρ d v) w''
 | .panicked chain,w''=>Q (.panic chain) ρ w''
 | .outgrown,_=>Q .outgrown ρ w

def LO.wp (P:Program) (ρ:Env) (w:World) (K:KT) (Q:QT):LO→Prop
 | .mov d x=>K (upd ρ d (ρ.ev x)) w
 | .pick d c x y=>∃b,ρ.ev c= .bool b∧K (upd ρ d (if b then ρ.ev x else ρ.ev y)) w
 | .un d op x=>∃v,(∀w0,(Op.unary op (ρ.ev x)).run P w0= .ok v w0)∧K (upd ρ d v) w
 | .bin d op T x y=>∃v,(∀w0,(do eqGuard op T x y (ρ.ev x) (ρ.ev y);binOp op T (ρ.ev x) (ρ.ev y)).run P w0= .ok v w0)∧K (upd ρ d v) w
 | .nilc d x=>∃a,ρ.ev x= .pointer (some a)∧K (upd ρ d (.pointer (some a))) w
 | .fld d x off=>∃a,ρ.ev x= .pointer (some a)∧K (upd ρ d (.pointer (some (a.add off)))) w
 | .load1 d x=>∃a v,ρ.ev x= .pointer (some a)∧w.cell? a=some v∧K (upd ρ d v) w
 | .loadn d n x=>∃a cs,ρ.ev x= .pointer (some a)∧Q42 w a n cs∧K (upd ρ d (.agg ⟨cs⟩)) w
 | .store1 x v=>∃a c,ρ.ev x= .pointer (some a)∧w.cell? a=some c∧w.frozen? a=false∧oneC (ρ.ev v)=true∧K ρ (w.setCell a (ρ.ev v))
 | .storen n x v=>∃a cs w',ρ.ev x= .pointer (some a)∧ρ.ev v= .agg cs∧cs.size=n∧(storeCells a cs.toList).run P w= .ok () w'∧K ρ w'
 | .idx d es x i=>∃a len cap k n,ρ.ev x= .slice (some a) len cap∧ρ.ev i= .int k n∧0≤n∧n<len∧K (upd ρ d (.pointer (some (a.add (n.toNat*es))))) w
 | .idxa d m es x i=>∃a k n,ρ.ev x= .pointer (some a)∧ρ.ev i= .int k n∧0≤n∧n<(m:Int)∧K (upd ρ d (.pointer (some (a.add (n.toNat*es))))) w
 | .len d x=>∃a n c,ρ.ev x= .slice a n c∧K (upd ρ d (.int .i64 n)) w
 | .slen d x=>∃s,ρ.ev x= .string s∧K (upd ρ d (.int .i64 s.size)) w
 | .sidx d x i=>∃s k n b,ρ.ev x= .string s∧ρ.ev i= .int k n∧0≤n∧s[n.toNat]?=some b∧K (upd ρ d (.int .u8 b.toNat)) w
 | .ext d x i=>∃vs v,ρ.ev x= .tuple vs∧vs[i]?=some v∧K (upd ρ d v) w
 | .fldv d x off=>∃cs v,ρ.ev x= .agg cs∧cs[off]?=some v∧K (upd ρ d v) w
 | .fldn d x off n=>∃cs,ρ.ev x= .agg cs∧K (upd ρ d (.agg (cs.extract off (off+n)))) w
 | .alloc d T z=>K (upd ρ d (.pointer (some ⟨w.heap.size,0,none⟩))) (w.alloc (.cells ⟨z⟩ T))
 | .box d T x=>K (upd ρ d (.pointer (some ⟨w.heap.size,0,none⟩))) (w.alloc (.cells (ρ.ev x).cells T))
 | .call d f xs=>Calls P f ⟨xs.map ρ.ev⟩ w (Qh K Q d ρ w)
 | .callv d x xs => ∃ f fst cap fn, ρ.ev x = .func (.func f) fst cap ∧ P.funcs[f]? = some fn ∧ fn.body.isSome = true ∧ (fn.name == "runtime.NumGoroutine") = false ∧ Calls P f (fst ++ ⟨xs.map ρ.ev⟩ ++ cap) w (Qh K Q d ρ w)
 | .build d z ps=>∃cs,Q2j z (ps.map fun p=>(p.1,p.2.1,ρ.ev p.2.2))=some cs∧K (upd ρ d (.agg ⟨cs⟩)) w
 | .buildS d T n z ps=>∃cs,Q2j z (ps.map fun p=>(p.1,p.2.1,ρ.ev p.2.2))=some cs∧K (upd ρ d (.slice (some ⟨w.heap.size,0,none⟩) n n)) (w.alloc (.cells ⟨cs⟩ T))
 | .mkfn d f caps=>K (upd ρ d (.func (.func f) #[] ⟨caps.map ρ.ev⟩)) w
 | .sub d es x lo hi mx=>∃a len cap l h m,ρ.ev x= .slice a len cap∧bnd ρ cap mx m∧bnd ρ len hi h∧bnd ρ 0 lo l∧m≤cap∧h≤m∧l≤h∧
    K (upd ρ d (.slice (if m=l then a else a.map (·.add (l*es))) (h - l) (m - l))) w
 | .ssub d x lo hi=>∃s l h,ρ.ev x= .string s∧bnd ρ s.size hi h∧bnd ρ 0 lo l∧h≤s.size∧l≤h∧K (upd ρ d (.string (s.extract l h))) w
 | .mnx d isMax x y=>∃k k' a b,ρ.ev x= .int k a∧ρ.ev y= .int k' b∧K (upd ρ d (.int k (if isMax then (if a<b then b else a) else (if b<a then b else a)))) w
 | .conv d k x=>∃k' n,ρ.ev x= .int k' n∧K (upd ρ d (.int k (k.wrap n))) w
 | .mki d T x=>K (upd ρ d (.iface T (ρ.ev x))) w
 | .raw o=>Q3J P o ρ w K Q


def Q2v (P:Program) (T:TypeId):Bool:=match P.underlying T with
 | some (.struct _)|some (.array _ _)=>false
 | some _=>true
 | none=>false
def aggT (P:Program) (T:TypeId):Bool:=match P.underlying T with
 | some (.struct _)|some (.array _ _)=>true
 | _=>false
def Q2F (P:Program) (T:TypeId):Option Nat:=(P.info? T).map (·.size)
def Q9O (P:Program) (T:TypeId):Option Value:=(P.info? T).bind (·.zero)

def Q8x (P:Program) (S:TypeId) (f:Nat):Option (Nat×TypeId):=match P.underlying S with
 | some (.struct fs)=>(fs[f]?).map fun x=>(x.offset,x.type)
 | _=>none

def Qc9 (P:Program) (T:TypeId):Option TypeId:=match P.underlying T with
 | some (.slice e)=>some e
 | _=>none
def arrT (P:Program) (T:TypeId):Option (Nat×TypeId):=match P.underlying T with
 | some (.array n e)=>some (n,e)
 | _=>none
def Q9q (P:Program) (T:TypeId):Bool:=match P.underlying T with
 | some .string=>true
 | _=>false

def Qd8 (P:Program) (T:TypeId):Option (Nat→Option (Nat×Nat)):=match P.underlying T with
 | some (.struct fs)=>if fs.toList.all (fun f=>(Q2F P f.type).isSome) then some (fun i=>(fs[i]?).bind fun f=>(Q2F P f.type).map fun s=>(f.offset,s)) else none
 | some (.array _ e)=>(Q2F P e).map fun s=>fun i=>some (i*s,s)
 | _=>none

def Q4T (pl:Nat→Option (Nat×Nat)):List (Nat×Operand)→Option (List (Nat×Nat×Operand))
 | []=>some []
 | (i,x)::rest=>match pl i,Q4T pl rest with
   | some (o,s),some r=>some ((o,s,x)::r)
   | _,_=>none

def intT (P:Program) (T:TypeId):Option IntKind:=match P.underlying T with
 | some (.int k)=>some k
 | _=>none
def Qdx (P:Program) (T:TypeId):Bool:=match P.underlying T with
 | some (.interface _)=>true
 | some _=>false
 | none=>true

def Q2z (P : Program) (f : FuncId) : Bool := (P.funcs[f]?).any fun fn => fn.body.isSome && !(fn.name == "runtime.NumGoroutine")

def lowerOp0 (P:Program) (o:Oper):LO:=
 match o.dst with
 | none=>match o.op with
   | .store T x v=>match Q2v P T,Q2F P T with
     | true,some 1=> .store1 x v
     | false,some n=>if aggT P T then .storen n x v else .raw o
     | _,_=> .raw o
   | .call ⟨.value (.func f),xs,_⟩=>if Q2z P f then .call none f xs.toList else .raw o
   | .call ⟨.value (.tmp f),xs,_⟩=> .callv none (.tmp f) xs.toList
   | _=> .raw o
 | some d=>match o.op with
   | .move x| .assign x=> .mov d x
   | .pick c x y=> .pick d c x y
   | .unOp op _ x=> .un d op x
   | .binOp op T x y _=> .bin d op T x y
   | .nilCheck x=> .nilc d x
   | .fieldAddr S x f=>match Q8x P S f with
     | some (off,t)=>match Q2F P t with
       | some (_+1)=> .fld d x off
       | _=> .raw o
     | none=> .raw o
   | .load T x=>match Q2v P T with
     | true=> .load1 d x
     | false=>match Q2F P T with
       | some n=>if aggT P T then .loadn d n x else .raw o
       | none=> .raw o
   | .indexAddr T x i=>match Qc9 P T with
     | some e=>match Q2F P e with
       | some s=> .idx d s x i
       | none=> .raw o
     | none=>match arrT P T with
       | some (n,e)=>match Q2F P e with
         | some s=> .idxa d n s x i
         | none=> .raw o
       | none=> .raw o
   | .index T x i=>if Q9q P T then .sidx d x i else .raw o
   | .extract x i=> .ext d x i
   | .field S x f=>match Q8x P S f with
     | some (off,t)=>match Q2v P t with
       | true=> .fldv d x off
       | false=>match Q2F P t with
         | some n=>if aggT P t then .fldn d x off n else .raw o
         | none=> .raw o
     | none=> .raw o
   | .alloc T=>match Q9O P T with
     | some z=> .alloc d T z.cells.toList
     | none=> .raw o
   | .box T x=> .box d T x
   | .build T ps=>match Q9O P T,Qd8 P T with
     | some z,some pl=>match Q4T pl ps.toList with
       | some l=> .build d z.cells.toList l
       | none=> .raw o
     | _,_=> .raw o
   | .buildSlice T n ps=>match Qc9 P T with
     | some e=>match Q9O P e,Q2F P e with
       | some z,some s=>match Q4T (fun i=>some (i*s,s)) ps.toList with
         | some l=>if 0<s∧0<n∧n*s≤1000∧z.cells.size=s then .buildS d e n ((List.range (n*s)).map fun i=>z.cells.toList.getD (i % s) default) l else .raw o
         | none=> .raw o
       | _,_=> .raw o
     | none=> .raw o
   | .makeFunc (.func f) fst caps=>if fst.size=0 then .mkfn d f caps.toList else .raw o
   | .call ⟨.value (.func f),xs,_⟩=>if Q2z P f then .call (some d) f xs.toList else .raw o
   | .call ⟨.value (.tmp f),xs,_⟩=> .callv (some d) (.tmp f) xs.toList
   | .slice T x lo hi mx=>match Qc9 P T with
     | some e=>match Q2F P e with
       | some s=>if mx.isSome && hi.isNone then .raw o else .sub d s x lo hi mx
       | none=> .raw o
     | none=>if Q9q P T && mx.isNone then .ssub d x lo hi else .raw o
   | .convert S T x=>match intT P S,intT P T with
     | some _,some k=> .conv d k x
     | _,_=> .raw o
   | .makeInterface T x=>if Qdx P T then .raw o else .mki d T x
   | .call ⟨.builtin .min,xs,_⟩=>match xs.toList with
     | [x,y]=> .mnx d false x y
     | _=> .raw o
   | .call ⟨.builtin .max,xs,_⟩=>match xs.toList with
     | [x,y]=> .mnx d true x y
     | _=> .raw o
   | .call ⟨.builtin .len,xs,ts⟩=>match xs.toList,ts.toList with
     | [x],[T]=>if Q9q P T then .slen d x else if (Qc9 P T).isSome then .len d x else .raw o
     | _,_=> .raw o
   | _=> .raw o

def strip (o : Oper) : Oper := ⟨o.dst, o.op, o.type, "", #[], none⟩
def Q5s (P:Program) (o:Oper):LO:=match lowerOp0 P o with
 | .raw o=> .raw (strip o)
 | x=>x

end Go.Lir
namespace Go.Lir

section
variable {P:Program}{o:Oper}{ρ:Env}{w w':World}{K:KT}{Q:QT}{v:Value}

theorem QR (h:(execOp ρ.ev o).run P w= .ok (.value v) w') (hk:K (updo ρ o.dst v) w'):Q3J P o ρ w K Q:=by
 unfold Q3J;rw [h];exact hk
theorem Qb2 (h:(execOp ρ.ev o).run P w= .ok .skip w') (hk:K (updo ρ o.dst undef) w'):Q3J P o ρ w K Q:=by
 unfold Q3J;rw [h];exact hk
end

theorem Q2q (P:Program) (T:TypeId) (i:TypeInfo) (w:World) (h:P.info? T=some i):(typeInfo T).run P w= .ok i w:=by
 simp [typeInfo,h]
theorem QQ (P:Program) (T:TypeId) (n:Nat) (w:World) (h:Q2F P T=some n):(sizeOf T).run P w= .ok n w:=by
 unfold Q2F at h
 cases hi:P.info? T with
 | none=>simp [hi] at h
 | some i=>simp [hi] at h;simp [sizeOf,Q2q P T i w hi,h]
theorem Q1C (P:Program) (T:TypeId) (z:Value) (w:World) (h:Q9O P T=some z):(zeroValue T).run P w= .ok z w:=by
 unfold Q9O at h
 cases hi:P.info? T with
 | none=>simp [hi] at h
 | some i=>simp [hi] at h;simp [zeroValue,Q2q P T i w hi,h]
theorem Q6 (P:Program) (T:TypeId) (d:TypeDesc) (w:World) (h:P.underlying T=some d):(underlying T).run P w= .ok d w:=by
 simp [underlying,h]
theorem Q2w (P:Program) (T:TypeId) (w:World) (h:Q2v P T=true):(isAgg T).run P w= .ok false w:=by
 unfold Q2v at h
 cases hu:P.underlying T with
 | none=>simp [hu] at h
 | some d=>simp [isAgg,Q6 P T d w hu];cases d<;>simp [hu] at h ⊢
theorem Q3j (P:Program) (T:TypeId) (w:World) (h:aggT P T=true):(isAgg T).run P w= .ok true w:=by
 unfold aggT at h
 cases hu:P.underlying T with
 | none=>simp [hu] at h
 | some d=>simp [isAgg,Q6 P T d w hu];cases d<;>simp [hu] at h ⊢

theorem Q8H (a:Addr):a.add 0=a:=rfl

theorem Q8c (P:Program) (T:TypeId) (cs:Array Value) (off:Nat) (v:Value) (w:World) (h:Q2v P T=true) (hv:cs[off]?=some v):
 (part T cs off).run P w= .ok v w:=by
 simp [part,Q2w P T w h,hv]
theorem QcR (P:Program) (T:TypeId) (cs:Array Value) (off n:Nat) (w:World) (h:aggT P T=true) (hn:Q2F P T=some n):
 (part T cs off).run P w= .ok (.agg (cs.extract off (off+n))) w:=by
 simp [part,Q3j P T w h,QQ P T n w hn]

theorem Qa3 (v:List Value):∀(k off:Nat) (cs:Array Value),off+k+v.length≤cs.size→
 ((v.zipIdx k).foldl (fun cs (c,j)=>cs.setIfInBounds (off+j) c) cs).toList=cs.toList.take (off+k)++(v++cs.toList.drop (off+k+v.length)):=by
 induction v with
 | nil=>intro k off cs h;simp
 | cons c v ih=>
   intro k off cs h
   simp only [List.zipIdx_cons,List.foldl_cons]
   simp only [List.length_cons] at h
   rw [show off+k+(c::v).length=off+(k+1)+v.length by simp;omega,ih (k+1) off _ (by simp;omega)]
   have hsz:cs.toList.length=cs.size:=Array.length_toList
   have hl:off+k<cs.toList.length:=by omega
   simp only [Array.toList_setIfInBounds]
   generalize cs.toList=l at hsz hl ⊢
   rw [←Nat.add_assoc,List.set_eq_take_append_cons_drop,if_pos hl]
   have hm:(l.take (off+k)).length=off+k:=by simp;omega
   have e1:List.take (off+k+1) (l.take (off+k)++c::l.drop (off+k+1))=l.take (off+k)++[c]:=by
    rw [List.take_append,hm,List.take_of_length_le (by omega),show off+k+1 - (off+k)=1 by omega];rfl
   have e2:List.drop (off+k+1+v.length) (l.take (off+k)++c::l.drop (off+k+1))=l.drop (off+k+1+v.length):=by
    rw [List.drop_append,hm,List.drop_of_length_le (by omega),show off+k+1+v.length - (off+k)=v.length+1 by omega]
    simp [Nat.add_comm,Nat.add_left_comm,Nat.add_assoc]
   rw [e1,e2]
   simp

theorem Q5G (place:Nat→Option (Nat×Nat)) (ρ:Env):∀(ps:List (Nat×Operand)) (l:List (Nat×Nat×Operand)) (cells:Array Value) (cs:List Value),
 Q4T place ps=some l→Q2j cells.toList (l.map fun p=>(p.1,p.2.1,ρ.ev p.2.2))=some cs→
 Instr.fill place cells (ps.map fun p=>(p.1,ρ.ev p.2))=some ⟨cs⟩:=by
 intro ps
 induction ps with
 | nil=>intro l cells cs h1 h2;simp [Q4T] at h1;subst h1;simp [Q2j] at h2;subst h2;simp [Instr.fill]
 | cons p ps ih=>
   obtain ⟨i,x⟩:=p
   intro l cells cs h1 h2
   simp only [Q4T] at h1
   split at h1
   · rename_i off s r hpl hr
     simp only [Option.some.injEq] at h1
     subst h1
     simp only [List.map_cons,Q2j] at h2
     split at h2
     · rename_i hc
       have hlen:(ρ.ev x).cells.toList.length=s:=by simpa using hc.1
       have hsz:cells.toList.length=cells.size:=Array.length_toList
       simp only [List.map_cons,Instr.fill,hpl]
       rw [if_neg (by have h4:=hc.2;have h3:(ρ.ev x).cells.size=s:=hc.1;simp only [Bool.or_eq_true,decide_eq_true_eq];rintro (h|h);exact h h3;omega)]
       refine ih r _ cs hr ?_
       have:=Qa3 (ρ.ev x).cells.toList 0 off cells (by have:=hc.2;omega)
       rw [←Array.foldl_toList,Array.toList_zipIdx,this,Nat.add_zero,hlen]
       exact h2
     · cases h2
   · cases h1

section
variable {P:Program}{ρ:Env}{w:World}{K:KT}{Q:QT}

theorem Q1i (a:Addr) (n:Nat) (cs:List Value) (h:Q42 w a n cs):(loadCells a n).run P w= .ok ⟨cs⟩ w:=by
 obtain ⟨hl,hc⟩:=h
 subst hl
 exact run_loadCells_list (P:=P) (w:=w) a cs (fun j v hj=>by
  have:j<cs.length:=by
   rcases Nat.lt_or_ge j cs.length with h|h
   · exact h
   · simp [List.getElem?_eq_none h] at hj
  rw [hc j this,hj])

theorem Qcg {f:FuncId}{args:Array Value}{d:Option Nat}(h:Calls P f args w (Qh K Q d ρ w)):
 Calls P f args w fun
  | .returned v,w''=>K (updo ρ d v) w''
  | .panicked chain,w''=>Q (.panic chain) ρ w''
  | .outgrown,_=>Q .outgrown ρ w:=
 h.mono fun e w' h=>by cases e<;>exact h

theorem Q5P {f : FuncId} {fn : Func} (args : Array Value) (hf : P.funcs[f]? = some fn) (hb : fn.body.isSome = true) (hn : (fn.name == "runtime.NumGoroutine") = false) :
 (callFunc f args).run P w= .ok (.enter f args) w:=by
 have hb':fn.body.isNone=false:=by cases h:fn.body<;>simp_all
 simp only [callFunc,Sem.run_bind,run_program,Result.andThen_ok,hf,hn,hb']
 rfl

theorem Q2m {d:Option Nat}{T:TypeId}{pos:String}{af:Array Edge}{g:Option (Nat×Bool)}{x:Operand}{xs:Array Operand}{ts:Array TypeId}{f:FuncId}{fst cap:Array Value}{fn:Func}
 (hx : ρ.ev x = .func (.func f) fst cap) (hf : P.funcs[f]? = some fn) (hb : fn.body.isSome = true) (hn : (fn.name == "runtime.NumGoroutine") = false)
 (h:Calls P f (fst++⟨xs.toList.map ρ.ev⟩++cap) w (Qh K Q d ρ w)):
 Q3J P ⟨d, .call ⟨.value x,xs,ts⟩,T,pos,af,g⟩ ρ w K Q:=by
 have e:(execOp ρ.ev ⟨d, .call ⟨.value x,xs,ts⟩,T,pos,af,g⟩).run P w= .ok (.enter f (fst++xs.map ρ.ev++cap)) w:=by
  simp only [execOp,resolve,hx,Deferred.ofValue,Sem.run_bind,Sem.run_pure,Result.andThen_ok,invoke]
  rw [Q5P _ hf hb hn]
 unfold Q3J
 rw [e]
 have he:(⟨xs.toList.map ρ.ev⟩:Array Value)=xs.map ρ.ev:=by
  apply Array.ext';simp
 rw [he] at h
 exact Qcg h

theorem Q7a {f : FuncId} (h : Q2z P f = true) : ∃ fn, P.funcs[f]? = some fn ∧ fn.body.isSome = true ∧ (fn.name == "runtime.NumGoroutine") = false := by
 unfold Q2z at h
 cases hf:P.funcs[f]? with
 | none=>simp [hf] at h
 | some fn=>exact ⟨fn,rfl,by simpa [hf] using h⟩

theorem Q5U {S f off t}(h:Q8x P S f=some (off,t)):∃fs fl,P.underlying S=some (.struct fs)∧fs[f]?=some fl∧fl.offset=off∧fl.type=t:=by
 unfold Q8x at h
 split at h
 · rename_i fs hu
   cases hf:fs[f]? with
   | none=>simp [hf] at h
   | some fl=>simp [hf] at h;exact ⟨fs,fl,hu,hf,h.1,h.2⟩
 · cases h
theorem Q4i {T e}(h:Qc9 P T=some e):P.underlying T=some (.slice e):=by
 unfold Qc9 at h;split at h<;>simp_all
theorem QdP {T n e}(h:arrT P T=some (n,e)):P.underlying T=some (.array n e):=by
 unfold arrT at h;split at h<;>simp_all
theorem Q4D {T}(h:Q9q P T=true):P.underlying T=some .string:=by
 unfold Q9q at h;split at h<;>simp_all

theorem Qar (fs:List Field) (w:World) (h:∀f∈fs,(Q2F P f.type).isSome=true):
 (fs.mapM (fun f=>do pure (f.offset,←sizeOf f.type):Field→Sem (Nat×Nat))).run P w= .ok (fs.map fun f=>(f.offset,(Q2F P f.type).getD 0)) w:=by
 induction fs with
 | nil=>simp
 | cons f fs ih=>
   have hf:=h f (by simp)
   obtain ⟨n,hn⟩:=Option.isSome_iff_exists.1 hf
   simp only [List.mapM_cons,Sem.run_bind,QQ P f.type n w hn,Result.andThen_ok,Sem.run_pure,ih (fun x hx=>h x (by simp [hx])),List.map_cons,hn,Option.getD_some]
end

theorem Qal {pl pl':Nat→Option (Nat×Nat)}(hp:∀i x,pl i=some x→pl' i=some x):∀(ps:List (Nat×Operand)) l,Q4T pl ps=some l→Q4T pl' ps=some l:=by
 intro ps
 induction ps with
 | nil=>intro l h;exact h
 | cons p ps ih=>
   obtain ⟨i,x⟩:=p
   intro l h
   simp only [Q4T] at h ⊢
   split at h
   · rename_i o s r h1 h2
     rw [hp _ _ h1,ih _ h2];exact h
   · cases h

theorem Q9s {P:Program} {T k}(h:intT P T=some k):P.underlying T=some (.int k):=by
 unfold intT at h;split at h<;>simp_all
theorem Qay {P:Program} {T}(h:¬Qdx P T=true):∃d,P.underlying T=some d∧∀ms,d≠ .interface ms:=by
 unfold Qdx at h
 split at h
 · simp at h
 · rename_i d hd hu;exact ⟨d,hu,fun ms hm=>hd ms (by rw [←hm])⟩
 · simp at h

theorem Q15 {P:Program}{w:World}{k:IntKind}{n y:Nat}{c:BoundsCode}(h:n≤y):(Instr.sliceBound (.int k n) y c).run P w= .ok n w:=by
 have:(n:Int)≤y:=by omega
 simp [Instr.sliceBound,asIntOf,this]

theorem Q3H {P:Program}{w:World}{ρ:Env}{isS:Bool}{len cap:Nat}{lo hi mx:Option Operand}{l h m:Nat}(hm:bnd ρ cap mx m) (hh:bnd ρ len hi h) (hl:bnd ρ 0 lo l)
 (h1:m≤cap) (h2:h≤m) (h3:l≤h) (hmx:mx.isSome=true→hi.isSome=true):
 (Instr.sliceBounds isS len cap (lo.map ρ.ev) (hi.map ρ.ev) (mx.map ρ.ev)).run P w= .ok (l,h,m) w:=by
 cases mx with
 | none=>
   simp only [bnd] at hm;subst hm
   cases hi with
   | none=>
     simp only [bnd] at hh;subst hh
     cases lo with
     | none=>simp only [bnd] at hl;subst hl;simp [Instr.sliceBounds]
     | some x=>obtain ⟨k,hx⟩:=hl;simp [Instr.sliceBounds,hx,Q15 h3]
   | some y=>
     obtain ⟨k,hy⟩:=hh
     cases lo with
     | none=>simp only [bnd] at hl;subst hl;simp [Instr.sliceBounds,hy,Q15 h2]
     | some x=>obtain ⟨k,hx⟩:=hl;simp [Instr.sliceBounds,hy,hx,Q15 h2,Q15 h3]
 | some z=>
   obtain ⟨k,hz⟩:=hm
   cases hi with
   | none=>simp at hmx
   | some y=>
     obtain ⟨k,hy⟩:=hh
     cases lo with
     | none=>simp only [bnd] at hl;subst hl;simp [Instr.sliceBounds,hz,hy,Q15 h1,Q15 h2]
     | some x=>obtain ⟨k,hx⟩:=hl;simp [Instr.sliceBounds,hz,hy,hx,Q15 h1,Q15 h2,Q15 h3]

theorem Q96 {P:Program}{o:Oper}{ρ:Env}{w:World}{K:KT}{Q:QT}(h:(lowerOp0 P o).wp P ρ w K Q):Q3J P o ρ w K Q:=by
 obtain ⟨dst,op,T,pos,af,g⟩:=o
 cases dst with
 | none =>
   cases op
   all_goals try exact h
   case store T x v=>
    simp only [lowerOp0] at h
    split at h
    · rename_i hs hz
      obtain ⟨a,c,hx,hc,hf,ho,hk⟩:=h
      refine Qb2 (w':=w.setCell a (ρ.ev v)) ?_ hk
      have hcs:(ρ.ev v).cells=#[ρ.ev v]:=by cases hv:ρ.ev v<;>simp_all [Value.cells,oneC]
      have ho':(ρ.ev v).oneCell'=true:=by cases hv:ρ.ev v<;>simp_all [Value.oneCell',oneC]
      simp [execOp,Instr.storeAt,Instr.sureAddr,hx,storeVar,QQ P T 1 w hz,hcs,storeCells,Q8H,run_store P w a _ .plain ho',hc,hf]
    · rename_i n hs hz
      split at h
      · rename_i ha
        obtain ⟨a,cs,w',hx,hv,hn,hst,hk⟩:=h
        refine Qb2 (w':=w') ?_ hk
        simp [execOp,Instr.storeAt,Instr.sureAddr,hx,hv,storeVar,QQ P T n w hz,Value.cells,hn,hst]
      · exact h
    · exact h
   case call c=>
    obtain ⟨callee,xs,ts⟩:=c
    cases callee with
    | invoke=>exact h
    | builtin=>exact h
    | value f=>
      cases f with
      | const=>exact h
      | global=>exact h
      | func f=>
        simp only [lowerOp0] at h
        split at h
        · rename_i hg
          obtain ⟨fn,h1,h2,h3⟩:=Q7a hg
          exact Q2m (fst:=#[]) (cap:=#[]) rfl h1 h2 h3 (by simpa [LO.wp] using h)
        · exact h
      | tmp f=>
        obtain ⟨f,fst,cap,fn,hx,h1,h2,h3,h4⟩:=h
        exact Q2m hx h1 h2 h3 h4
 | some d =>
   cases op
   all_goals try exact h
   case pick c x y=>
    obtain ⟨b,hb,hk⟩:=h
    refine QR (w':=w) ?_ hk
    simp [execOp,hb,asBool]
   case unOp op T x=>
    obtain ⟨v,hb,hk⟩:=h
    have hb:=hb w
    exact QR (w':=w) (by simp [execOp,hb]) hk
   case binOp op T x y T'=>
    obtain ⟨v,hb,hk⟩:=h
    have hb:=hb w
    refine QR (w':=w) ?_ hk
    simp only [execOp,Sem.run_bind] at hb ⊢
    rw [hb];rfl
   case nilCheck x=>
    obtain ⟨a,hx,hk⟩:=h
    refine QR (w':=w) ?_ hk
    simp [execOp,hx]
   case extract x i=>
    obtain ⟨vs,v,hx,hv,hk⟩:=h
    refine QR (w':=w) ?_ hk
    simp [execOp,Instr.extract,hx,hv]
   case load T x=>
    simp only [lowerOp0] at h
    split at h
    · rename_i hs
      obtain ⟨a,v,hx,hv,hk⟩:=h
      refine QR (w':=w) (v:=v) ?_ hk
      simp [execOp,Instr.loadAt,Instr.sureAddr,hx,loadVar,Q2w P T w hs,hv]
    · split at h
      · rename_i hs n hn
        split at h
        · rename_i ha
          obtain ⟨a,cs,hx,hv,hk⟩:=h
          refine QR (w':=w) ?_ hk
          simp [execOp,Instr.loadAt,Instr.sureAddr,hx,loadVar,Q3j P T w ha,QQ P T n w hn,Q1i (P:=P) a n cs hv]
        · exact h
      · exact h
   case fieldAddr S x f=>
    simp only [lowerOp0] at h
    split at h
    · rename_i off t hf
      split at h
      · rename_i n hn
        obtain ⟨a,hx,hk⟩:=h
        obtain ⟨fs,fl,hu,hfl,rfl,rfl⟩:=Q5U hf
        refine QR (w':=w) ?_ hk
        simp [execOp,Instr.fieldAt,Q6 P S _ w hu,hfl,Instr.sureAddr,hx,fieldPlace,QQ P fl.type _ w hn]
      · exact h
    · exact h
   case field S x f=>
    simp only [lowerOp0] at h
    split at h
    · rename_i off t hf
      obtain ⟨fs,fl,hu,hfl,rfl,rfl⟩:=Q5U hf
      split at h
      · rename_i hs
        obtain ⟨cs,v,hx,hv,hk⟩:=h
        refine QR (w':=w) (v:=v) ?_ hk
        simp [execOp,Instr.field,Q6 P S _ w hu,hfl,asAgg,hx,Q8c P fl.type cs fl.offset v w hs hv]
      · split at h
        · rename_i n hn
          split at h
          · rename_i ha
            obtain ⟨cs,hx,hk⟩:=h
            refine QR (w':=w) ?_ hk
            simp [execOp,Instr.field,Q6 P S _ w hu,hfl,asAgg,hx,QcR P fl.type cs fl.offset n w ha hn]
          · exact h
        · exact h
    · exact h
   case indexAddr T x i=>
    simp only [lowerOp0] at h
    split at h
    · rename_i e he
      have hu:=Q4i he
      split at h
      · rename_i s hs
        obtain ⟨a,len,cap,k,n,hx,hi,h0,hl,hk⟩:=h
        refine QR (w':=w) ?_ hk
        simp [execOp,Instr.indexAt,asIntOf,hi,hx,Q6 P T _ w hu,h0,hl,QQ P e s w hs]
      · exact h
    · split at h
      · rename_i hn m e he
        have hu:=QdP he
        split at h
        · rename_i s hs
          obtain ⟨a,k,n,hx,hi,h0,hl,hk⟩:=h
          refine QR (w':=w) ?_ hk
          simp [execOp,Instr.indexAt,asIntOf,hi,hx,Q6 P T _ w hu,h0,hl,QQ P e s w hs,Instr.sureAddr]
        · exact h
      · exact h
   case index T x i=>
    simp only [lowerOp0] at h
    split at h
    · rename_i hs
      have hu:=Q4D hs
      obtain ⟨s,k,n,b,hx,hi,h0,hl,hk⟩:=h
      refine QR (w':=w) ?_ hk
      simp [execOp,Instr.index,asIntOf,hi,hx,Q6 P T _ w hu,h0,hl]
    · exact h
   case alloc T=>
    simp only [lowerOp0] at h
    split at h
    · rename_i z hz
      refine QR (v:= .pointer (some ⟨w.heap.size,0,none⟩)) (w':=w.alloc (.cells z.cells T)) ?_ h
      simp [execOp,Instr.alloc,Q1C P T z w hz,newVar,newRow]
    · exact h
   case makeFunc fn fst caps=>
    cases fn with
    | func f=>
      simp only [lowerOp0] at h
      split at h
      · rename_i hz
        have:fst=#[]:=Array.size_eq_zero_iff.1 hz
        subst this
        refine QR (v:= .func (.func f) #[] ⟨caps.toList.map ρ.ev⟩) (w':=w) ?_ h
        have he:(⟨caps.toList.map ρ.ev⟩:Array Value)=caps.map ρ.ev:=by apply Array.ext';simp
        simp [execOp,Instr.makeFunc,he]
      · exact h
    | _=>exact h
   case slice T x lo hi mx=>
    simp only [lowerOp0] at h
    split at h
    · rename_i e he
      have hu:=Q4i he
      split at h
      · rename_i s hs
        split at h
        · exact h
        · rename_i hmx
          obtain ⟨a,len,cap,l,hh,m,hx,hm,hhi,hlo,h1,h2,h3,hk⟩:=h
          refine QR (w':=w) ?_ hk
          simp only [execOp,Instr.sliceAt,Sem.run_bind,Q6 P T _ w hu,Result.andThen_ok,Instr.slice,hx,Q3H (P:=P) (w:=w) (isS:=true) hm hhi hlo h1 h2 h3 (by cases mx<;>cases hi<;>simp_all),QQ P e s w hs,Sem.run_pure]
      · exact h
    · split at h
      · rename_i hc
        simp only [Bool.and_eq_true] at hc
        have hu:=Q4D hc.1
        have hmx:mx=none:=by simpa using hc.2
        subst hmx
        obtain ⟨s,l,hh,hx,hhi,hlo,h2,h3,hk⟩:=h
        refine QR (w':=w) ?_ hk
        have hb:=Q3H (P:=P) (w:=w) (isS:=false) (mx:=none) (m:=s.size) (cap:=s.size) rfl hhi hlo (Nat.le_refl _) h2 h3 (by simp)
        simp only [Option.map_none] at hb
        simp only [execOp,Instr.sliceAt,Sem.run_bind,Q6 P T _ w hu,Result.andThen_ok,Instr.slice,hx,Option.map_none,Option.isSome_none,Bool.false_eq_true,if_false,hb,Sem.run_pure]
      · exact h
   case convert S T x=>
    simp only [lowerOp0] at h
    split at h
    · rename_i k k' hs ht
      obtain ⟨k2,n,hx,hk⟩:=h
      refine QR (w':=w) ?_ hk
      simp [execOp,convert,Q6 P S _ w (Q9s hs),Q6 P T _ w (Q9s ht),hx,Conv.intToInt]
    · exact h
   case makeInterface T x=>
    simp only [lowerOp0] at h
    split at h
    · exact h
    · rename_i hi
      refine QR (w':=w) (v:= .iface T (ρ.ev x)) ?_ h
      obtain ⟨d',hd,hd'⟩:=Qay hi
      simp only [execOp,Instr.makeInterface,Sem.run_bind,Q6 P T _ w hd,Result.andThen_ok]
      cases d' <;>first|rfl|exact (hd' _ rfl).elim
   case build T ps=>
    simp only [lowerOp0] at h
    split at h
    · rename_i z pl hz hpl
      split at h
      · rename_i l hl
        obtain ⟨cs,hf,hk⟩:=h
        have hfill:=Q5G pl ρ ps.toList l z.cells cs hl hf
        refine QR (w':=w) ?_ hk
        have hm:(ps.map fun p=>(p.1,ρ.ev p.2)).toList=ps.toList.map fun p=>(p.1,ρ.ev p.2):=by simp
        unfold Qd8 at hpl
        split at hpl
        · rename_i fs hu
          split at hpl
          · rename_i hall
            simp only [Option.some.injEq] at hpl
            have hall':∀f∈fs.toList,(Q2F P f.type).isSome=true:=List.all_eq_true.1 hall
            have hpl2:∀i x,pl i=some x→((fs.toList.map fun f=>(f.offset,(Q2F P f.type).getD 0)).toArray)[i]?=some x:=by
             intro i x hx
             subst hpl
             simp only [Option.bind_eq_some_iff,Option.map_eq_some_iff] at hx
             obtain ⟨f,hf,s,hs,rfl⟩:=hx
             simp [hf,hs]
            have hfill:=Q5G _ ρ ps.toList l z.cells cs (Qal hpl2 _ _ hl) hf
            simp only [execOp,Instr.build,Sem.run_bind,Q1C P T z w hz,Q6 P T _ w hu,Result.andThen_ok,Array.mapM_eq_mapM_toList,Sem.run_map,Qar fs.toList w hall',hm,hfill,Sem.run_pure]
          · cases hpl
        · rename_i n e hu
          simp only [Option.map_eq_some_iff] at hpl
          obtain ⟨s,hs,rfl⟩:=hpl
          simp only [execOp,Instr.build,Sem.run_bind,Q1C P T z w hz,Q6 P T _ w hu,Result.andThen_ok,QQ P e s w hs,hm,hfill,Sem.run_pure]
        · cases hpl
      · exact h
    · exact h
   case buildSlice T n ps=>
    simp only [lowerOp0] at h
    split at h
    · rename_i e he
      have hu:=Q4i he
      split at h
      · rename_i z s hz hs
        split at h
        · rename_i l hl
          split at h
          · rename_i hc
            obtain ⟨hs0,hn0,hns,hzs⟩:=hc
            obtain ⟨cs,hf,hk⟩:=h
            have hm:(ps.map fun p=>(p.1,ρ.ev p.2)).toList=ps.toList.map fun p=>(p.1,ρ.ev p.2):=by simp
            have hz0:(((Array.range (n*s)).map (z.cells[· % z.cells.size]!)):Array Value).toList=(List.range (n*s)).map fun i=>z.cells.toList.getD (i % s) default:=by
             simp [hzs]
             intro a _
             rw [Array.getElem!_eq_getD,Array.getD_eq_getD_getElem?]
            have hfill:=Q5G _ ρ ps.toList l ((Array.range (n*s)).map (z.cells[· % z.cells.size]!)) cs hl (by rw [hz0];exact hf)
            refine QR (w':=w.alloc (.cells ⟨cs⟩ e)) (v:= .slice (some ⟨w.heap.size,0,none⟩) n n) ?_ hk
            have hne:¬(n*s=0):=by have:=Nat.mul_pos hn0 hs0;omega
            have hle:¬(n*s>2 ^ 24):=by omega
            simp only [execOp,Instr.buildSlice,Sem.run_bind,Q6 P T _ w hu,Result.andThen_ok,QQ P e s w hs,if_neg hle,if_neg hne,Q1C P e z w hz,hm,hfill,Sem.run_pure,newRow,run_newObj]
            rfl
          · exact h
        · exact h
      · exact h
    · exact h
   case call c=>
    obtain ⟨callee,xs,ts⟩:=c
    cases callee with
    | invoke=>exact h
    | builtin b=> 
      cases b
      all_goals try exact h
      case min=>
       simp only [lowerOp0] at h
       split at h
       · rename_i x y hxs
         have hxs':xs=#[x,y]:=by apply Array.ext';simpa using hxs
         subst hxs'
         obtain ⟨k,k',a,b,hx,hy,hk⟩:=h
         refine QR (w':=w) ?_ hk
         simp [execOp,resolve,invoke,builtin,Builtin.min_,Builtin.min2,hx,hy]
       · exact h
      case max=>
       simp only [lowerOp0] at h
       split at h
       · rename_i x y hxs
         have hxs':xs=#[x,y]:=by apply Array.ext';simpa using hxs
         subst hxs'
         obtain ⟨k,k',a,b,hx,hy,hk⟩:=h
         refine QR (w':=w) ?_ hk
         simp [execOp,resolve,invoke,builtin,Builtin.max_,Builtin.max2,hx,hy]
       · exact h
      case len=>
       simp only [lowerOp0] at h
       split at h
       · rename_i x T hxs hts
         have hxs':xs=#[x]:=by apply Array.ext';simpa using hxs
         have hts':ts=#[T]:=by apply Array.ext';simpa using hts
         subst hxs' hts'
         split at h
         · rename_i hs
           have hu:=Q4D hs
           obtain ⟨s,hx,hk⟩:=h
           refine QR (w':=w) ?_ hk
           simp [execOp,resolve,invoke,builtin,Builtin.len_,hx,Q6 P T _ w hu,goInt]
         · split at h
           · rename_i he
             obtain ⟨e,he⟩:=Option.isSome_iff_exists.1 he
             have hu:=Q4i he
             obtain ⟨a,n,c,hx,hk⟩:=h
             refine QR (w':=w) ?_ hk
             simp [execOp,resolve,invoke,builtin,Builtin.len_,hx,Q6 P T _ w hu,goInt]
           · exact h
       · exact h
    | value f=>
      cases f with
      | const=>exact h
      | global=>exact h
      | func f=>
        simp only [lowerOp0] at h
        split at h
        · rename_i hg
          obtain ⟨fn,h1,h2,h3⟩:=Q7a hg
          exact Q2m (fst:=#[]) (cap:=#[]) rfl h1 h2 h3 (by simpa [LO.wp] using h)
        · exact h
      | tmp f=>
        obtain ⟨f,fst,cap,fn,hx,h1,h2,h3,h4⟩:=h
        exact Q2m hx h1 h2 h3 h4

theorem Qd5 {P:Program}{o:Oper}{ρ:Env}{w:World}{K:KT}{Q:QT}(h:Q3J P (strip o) ρ w K Q):Q3J P o ρ w K Q:=h

theorem Q6L {P:Program}{o:Oper}{ρ:Env}{w:World}{K:KT}{Q:QT}(h:(Q5s P o).wp P ρ w K Q):Q3J P o ρ w K Q:=by
 refine Q96 ?_
 unfold Q5s at h
 cases hl:lowerOp0 P o<;>rw [hl] at h<;>first|exact h|exact Qd5 h


structure GO where
 g:Option (Nat×Bool)
 o:LO

def Q7s (v:Value) (b:Bool):Bool:=match v with
 | .bool b'=>b'==b
 | _=>false

def Q0 (P:Program):List GO→QT→Env→World→Prop
 | [],Q,ρ,w=>Q .normal ρ w
 | ⟨none,o⟩::l,Q,ρ,w=>o.wp P ρ w (Q0 P l Q) Q
 | ⟨some (s,b),o⟩::l,Q,ρ,w=>if Q7s (ρ s) b then o.wp P ρ w (Q0 P l Q) Q else Q0 P l Q (updo ρ o.dst undef) w

def Q26 (P:Program) (ops:Array Oper) (o:Oper):GO:=
 ⟨o.guard.bind fun p=>((ops[p.1]?).bind (·.dst)).map fun s=>(s,p.2),Q5s P o⟩

def okG (n:Nat) (ops:Array Oper) (o:Oper):Bool:=
 (match o.dst with|some d=>decide (d<n)|none=>true) &&
 (match o.guard with
  | some (j,_)=>(match (ops[j]?).bind (·.dst) with|some s=>decide (s<n)|none=>false)
  | none=>true)

theorem QbY (P:Program) (o:Oper):(lowerOp0 P o).dst=o.dst:=by
 obtain ⟨dst,op,T,pos,af,g⟩:=o
 cases dst with
 | none=>
   unfold lowerOp0
   dsimp only
   repeat' split
   all_goals rfl
 | some d=>
   unfold lowerOp0
   dsimp only
   repeat' split
   all_goals rfl

theorem Qdf (P:Program) (o:Oper):(Q5s P o).dst=o.dst:=by
 rw [←QbY P o]
 unfold Q5s
 cases lowerOp0 P o<;>rfl

theorem Q82 {n:Nat}{ρ:Env}{ds:List Deferred}{a:Act}{ops:Array Oper}{j s:Nat}{b:Bool}(hr:Rel n ρ ds a)
 (hj:(ops[j]?).bind (·.dst)=some s) (hs:s<n):(yielded ops a.tmps j==some b)=Q7s (ρ s) b:=by
 have h1:a.tmps[s]?=some (ρ s):=by
  have:=hr.2.1 s
  rw [Array.getD_eq_getD_getElem?] at this
  have hlt:s<a.tmps.size:=by rw [hr.1];exact hs
  rw [Array.getElem?_eq_getElem hlt] at this ⊢
  simpa using this
 simp only [yielded,hj,Option.bind_some,h1]
 cases hv:ρ s<;>simp [Q7s]

theorem Q5M {P:Program}{n:Nat}{ρ:Env}{ds:List Deferred}{a:Act}{ops:Array Oper}{o:Oper}(hr:Rel n ρ ds a) (ho:okG n ops o=true):
 (∀(l:List GO) (Q:QT) (w:World),Q0 P (Q26 P ops o::l) Q ρ w→if Region.wanted o (yielded ops a.tmps) then (Q5s P o).wp P ρ w (Q0 P l Q) Q else Q0 P l Q (updo ρ o.dst undef) w):=by
 intro l Q w h
 unfold Q26 at h
 unfold okG at ho
 cases hg:o.guard with
 | none=>
   rw [hg] at h
   simp only [Option.bind_none,Q0] at h
   simp only [Region.wanted,hg,if_true]
   exact h
 | some p=>
   obtain ⟨j,b⟩:=p
   rw [hg] at h ho
   simp only [Bool.and_eq_true] at ho
   obtain ⟨_,ho⟩:=ho
   cases hs:(ops[j]?).bind (·.dst) with
   | none=>simp [hs] at ho
   | some s=>
     simp only [hs,decide_eq_true_eq] at ho
     simp only [Option.bind_some,hs,Option.map_some,Q0,Qdf] at h
     simp only [Region.wanted,hg,Q82 hr hs ho]
     exact h

theorem Q5p {n:Nat}{ops:Array Oper}{o:Oper}(h:okG n ops o=true):∀x,o.dst=some x→x<n:=by
 intro x hx
 unfold okG at h
 simp only [hx,Bool.and_eq_true,decide_eq_true_eq] at h
 exact h.1

theorem Qcs {P:Program}{o:Oper}{a:Act}{K K':Act→World→Prop}{Q:Exit→Act→World→Prop}(hk:∀a w,K a w→K' a w) (r:Result Next) (h:o.upon P a K Q r):o.upon P a K' Q r:=by
 cases r with
 | ok n w=>
   cases n<;>first|exact hk _ _ h|exact h|skip
   · refine Calls.mono h fun e w h=>?_
     cases e<;>first|exact hk _ _ h|exact h
   · exact Rows.mono h fun v w h=>hk _ _ h
 | halt x w=>cases x<;>exact h

theorem Q4d {P:Program}{n:Nat}{ds:List Deferred}{ops:Array Oper}{Q:QT}:∀(l:List Nat) (ρ:Env) (a:Act) (w:World),Rel n ρ ds a→
 (∀i∈l,∃o,ops[i]?=some o∧okG n ops o=true)→
 Q0 P (l.filterMap fun i=>(ops[i]?).map (Q26 P ops)) Q ρ w→wpOps P ops (Q98 n ds Q) l a w:=by
 intro l
 induction l with
 | nil=>intro ρ a w hr _ h;exact ⟨ρ,hr,h⟩
 | cons i l ih=>
   intro ρ a w hr hok h
   obtain ⟨o,ho,hg⟩:=hok i (by simp)
   have hok':∀i∈l,∃o,ops[i]?=some o∧okG n ops o=true:=fun i hi=>hok i (by simp [hi])
   simp only [List.filterMap_cons,ho,Option.map_some] at h
   have h':=Q5M hr hg _ Q w h
   simp only [wpOps,ho]
   split
   · rename_i hw
     rw [if_pos hw] at h'
     have h1:=Q90 (ds:=ds) hr (Q5p hg) (Q6L h')
     exact .inl (Qcs (fun a w ⟨ρ,hr,h⟩=>ih ρ a w hr hok' h) _ h1)
   · rename_i hw
     rw [if_neg hw] at h'
     exact ih _ _ w (hr.put _ _ (Q5p hg)) hok' h'

inductive LC where
 | skip
 | ops (l:List GO)
 | draw (gs:List GO) (es:List (List Nat))
 | seq (a b:LC)
 | cond (c:Operand) (a b:LC)
 | block (id:Nat) (a:LC)
 | loop (a:LC)
 | exit (id:Nat)
 | ret
 | bad

def Lin (es:List (List Nat)):List Nat→List Nat→Prop
 | X,[]=>∀i,i<es.length→i∈X
 | X,i::l=>i<es.length∧i∉X∧(∀e∈es.getD i [],e∈X)∧Lin es (i::X) l

def Q3L (i:Nat) (e:Edge):Bool:=decide (e.on<i) && (match e.ground with| .textOnly _=>false| .gcOnly _=>false|_=>true)
def Q8z (os:List Oper):Bool:=(os.zipIdx).all fun p=>p.1.after.toList.all (Q3L p.2)

def topo (m:Region.Mode) (os:Array Oper):List Nat→List Nat→Bool
 | seen,[]=>(List.range os.size).all fun i=>seen.contains i
 | seen,i::r=>(match os[i]? with
   | some o=>o.after.toList.all (fun e=> !Region.binds m e||seen.contains e.on && decide (e.on<os.size))
   | none=>false) && topo m os (i::seen) r
def Qbw (i:Nat) (e:Edge):Bool:= !Region.binds .any e||decide (e.on<i)
def Q7j (os:Array Oper):Bool:=(os.toList.zipIdx.all fun p=>p.1.after.toList.all (Qbw p.2)) && topo .text os [] (Region.linearise .text os 0) && topo .gc os [] (Region.linearise .gc os 0) && topo .any os [] (Region.linearise .any os 0)
def Q4j (os:Array Oper):Bool:=Q8z os.toList||Q7j os
def Q3k (os:Array Oper):List (List Nat):=os.toList.map fun o=>(o.after.toList.filter (Region.binds .any)).map (·.on)
def GO.nop:GO:=⟨none, .mov 0 (.const undef)⟩

def Q2y (P:Program) (n:Nat):Code→LC
 | .skip=> .skip
 | .region _ ops false=>if ops.toList.all (okG n ops) then .ops (ops.toList.map (Q26 P ops)) else .bad
 | .region _ ops true=>if ops.toList.all (okG n ops) && Q4j ops then .draw (ops.toList.map (Q26 P ops)) (Q3k ops) else .bad
 | .seq a b=> .seq (Q2y P n a) (Q2y P n b)
 | .cond c a b=> .cond c (Q2y P n a) (Q2y P n b)
 | .block id a=> .block id (Q2y P n a)
 | .loop a=> .loop (Q2y P n a)
 | .exit id=> .exit id
 | .ret=> .ret
 | _=> .bad

def QB (K:KT) (Q:QT):QT
 | .normal,ρ,w=>K ρ w
 | e,ρ,w=>Q e ρ w
def QH (id:Nat) (Q:QT):QT
 | .exit id',ρ,w=>if id'=id then Q .normal ρ w else Q (.exit id') ρ w
 | e,ρ,w=>Q e ρ w

def LC.wp (P:Program):LC→QT→Env→World→Prop
 | .skip,Q,ρ,w=>Q .normal ρ w
 | .ops l,Q,ρ,w=>Q0 P l Q ρ w
 | .draw gs es,Q,ρ,w=>∀l,Lin es [] l→Q0 P (l.map fun i=>gs.getD i GO.nop) Q ρ w.drew
 | .seq a b,Q,ρ,w=>a.wp P (QB (b.wp P Q) Q) ρ w
 | .cond c a b,Q,ρ,w=>∃t,ρ.ev c= .bool t∧(if t then a.wp P Q ρ w else b.wp P Q ρ w)
 | .block id a,Q,ρ,w=>a.wp P (QH id Q) ρ w
 | .loop a,Q,ρ,w=>∃(I:Env→World→Prop) (μ:Env→World→Nat),I ρ w∧∀ρ w,I ρ w→a.wp P (QB (fun ρ' w'=>I ρ' w'∧μ ρ' w'<μ ρ w) Q) ρ w
 | .exit id,Q,ρ,w=>Q (.exit id) ρ w
 | .ret,Q,ρ,w=>Q .ret ρ w
 | .bad,_,_,_=>False

theorem Q1Y {α β:Type}{f g:α→Option β}:∀{l:List α},(∀x∈l,f x=g x)→l.filterMap f=l.filterMap g:=by
 intro l
 induction l with
 | nil=>intro _;rfl
 | cons a l ih=>intro h;simp only [List.filterMap_cons,h a (by simp),ih (fun x hx=>h x (by simp [hx]))]

theorem Q8S {ops:Array Oper}{mixed:Bool}{t:Nat}:∀i∈Region.schedule mixed ops t,∃o,ops[i]?=some o:=by
 have key:∀(m:Region.Mode) fuel t listed acc,(∀i∈acc,∃o,ops[i]?=some o)→∀i∈Region.linearise.go m ops fuel t listed acc,∃o,ops[i]?=some o:=by
  intro m fuel
  induction fuel with
  | zero=>intro t listed acc h i hi;simp [Region.linearise.go] at hi;exact h i hi
  | succ fuel ih=>
    intro t listed acc h i hi
    simp only [Region.linearise.go] at hi
    split at hi
    · rename_i j hj
      refine ih _ _ (j::acc) ?_ i hi
      intro k hk
      rcases List.mem_cons.1 hk with rfl|hk
      · have:=List.mem_of_getElem? hj
        simp only [List.mem_filter,List.mem_range] at this
        exact ⟨ops[k],by simp [this.1]⟩
      · exact h k hk
    · exact h i (by simpa using hi)
 intro i hi
 unfold Region.schedule at hi
 split at hi
 · exact key _ _ _ _ [] (by simp) i hi
 · exact key _ _ _ _ [] (by simp) i hi

theorem Qao:∀(n:Nat) (X:List Nat),X.Nodup→(∀x∈X,x<n)→X.length≤n:=by
 intro n
 induction n with
 | zero=>
   intro X _ h
   cases X with
   | nil=>simp
   | cons x X=>exact absurd (h x (by simp)) (by omega)
 | succ n ih=>
   intro X hnd h
   have h1:=ih (X.erase n) (hnd.erase n) (fun x hx=>by
    have:=(List.Nodup.mem_erase_iff hnd).1 hx
    have:=h x this.2
    omega)
   by_cases hm:n∈X
   · rw [List.length_erase_of_mem hm] at h1;omega
   · rw [List.erase_of_not_mem hm] at h1;omega

theorem Q40 {os:Array Oper}(h:Q8z os.toList=true){i:Nat}{o:Oper}(ho:os[i]?=some o){e:Edge}(he:e∈o.after):Q3L i e=true:=by
 unfold Q8z at h
 have:=List.all_eq_true.1 h (o,i) (by rw [List.mem_zipIdx_iff_getElem?];simpa using ho)
 exact List.all_eq_true.1 this e (by simpa using he)

def Prog (m:Region.Mode) (os:Array Oper):Prop:=∀X:List Nat,(∃i,i<os.size∧i∉X)→∃i o,os[i]?=some o∧i∉X∧∀e∈o.after,Region.binds m e=true→e.on∈X∧e.on<os.size

theorem QbS {os:Array Oper}(h:Q8z os.toList=true):Prog .any os:=by
 rintro X ⟨i,hi,hX⟩
 induction i using Nat.strongRecOn with
 | _ i ih=>
   by_cases hall:∀j,j<i→j∈X
   · refine ⟨i,os[i],by simp [hi],hX,fun e he _=>?_⟩
     have hp:=Q40 h (i:=i) (o:=os[i]) (by simp [hi]) he
     unfold Q3L at hp
     simp only [Bool.and_eq_true,decide_eq_true_eq] at hp
     exact ⟨hall _ hp.1,by omega⟩
   · have ⟨j,hj⟩:=Classical.not_forall.1 hall
     have ⟨hj1,hj2⟩:=Classical.not_imp.1 hj
     exact ih j hj1 (by omega) hj2

theorem Q4S {m:Region.Mode}{os:Array Oper}:∀{r seen:List Nat},topo m os seen r=true→∀X:List Nat,(∀i∈seen,i∈X)→(∃i,i<os.size∧i∉X)→∃i o,os[i]?=some o∧i∉X∧∀e∈o.after,Region.binds m e=true→e.on∈X∧e.on<os.size
 | [],seen,h,X,hs,⟨i,hi,hX⟩=>by
   have:=List.all_eq_true.1 h i (List.mem_range.2 hi)
   exact absurd (hs i (by simpa using this)) hX
 | i ::r,seen,h,X,hs,hx=>by
   simp only [topo,Bool.and_eq_true] at h
   obtain ⟨h1,h2⟩:=h
   by_cases hi:i∈X
   · exact Q4S h2 X (fun j hj=>(List.mem_cons.1 hj).elim (fun e=>e ▸ hi) (hs j)) hx
   · split at h1
     · rename_i o ho
       refine ⟨i,o,ho,hi,fun e he hb=>?_⟩
       have:=List.all_eq_true.1 h1 e (by simpa using he)
       rw [hb] at this
       simp only [Bool.not_true,Bool.false_or,Bool.and_eq_true,decide_eq_true_eq] at this
       exact ⟨hs _ (by simpa using this.1),this.2⟩
     · cases h1
theorem QdN {m:Region.Mode}{e:Edge}(h:Region.binds .any e=true):Region.binds m e=true:=by
 unfold Region.binds at h ⊢
 split at h<;>simp_all
theorem Q8A {os:Array Oper}(h:Q4j os=true){i:Nat}{o:Oper}(ho:os[i]?=some o){e:Edge}(he:e∈o.after) (hb:Region.binds .any e=true):e.on<i:=by
 unfold Q4j at h
 rw [Bool.or_eq_true] at h
 rcases h with h|h
 · have hp:=Q40 h ho he
   unfold Q3L at hp
   simp only [Bool.and_eq_true,decide_eq_true_eq] at hp
   exact hp.1
 · unfold Q7j at h
   simp only [Bool.and_eq_true] at h
   have:=List.all_eq_true.1 h.1.1.1 (o,i) (by rw [List.mem_zipIdx_iff_getElem?];simpa using ho)
   have:=List.all_eq_true.1 this e (by simpa using he)
   unfold Qbw at this
   rw [hb] at this
   simpa using this

theorem lin_go {os:Array Oper}(m:Region.Mode) (hback:∀(i:Nat) (o:Oper),os[i]?=some o→∀e∈o.after,Region.binds .any e=true→e.on<i) (hprog:Prog m os):∀(fuel t:Nat) (listed:Array Bool) (acc X:List Nat),listed.size=os.size→(∀i,i<os.size→(listed.getD i false=true↔i∈X))→
 (∀i∈X,i<os.size)→X.Nodup→os.size≤fuel+X.length→
 ∃l,Region.linearise.go m os fuel t listed acc=acc.reverse++l∧Lin (Q3k os) X l:=by
 intro fuel
 induction fuel with
 | zero=>
   intro t listed acc X hsz hX hlt hnd hf
   refine ⟨[],by simp [Region.linearise.go],?_⟩
   intro i hi
   simp only [Q3k,List.length_map,Array.length_toList] at hi
   rcases Decidable.em (i∈X) with hc|hc
   · exact hc
   · have:=Qao os.size (i::X) (List.nodup_cons.2 ⟨hc,hnd⟩) (by intro j hj;rcases List.mem_cons.1 hj with rfl|hj;exact hi;exact hlt j hj)
     simp at this;omega
 | succ fuel ih=>
   intro t listed acc X hsz hX hlt hnd hf
   simp only [Region.linearise.go]
   split
   · rename_i i hi
     have hm:=List.mem_of_getElem? hi
     simp only [List.mem_filter,List.mem_range,Bool.and_eq_true] at hm
     obtain ⟨hilt,hnl,hr⟩:=hm
     have hget:os[i]?=some os[i]:=by simp [hilt]
     rw [hget] at hr
     simp only [Option.map_some,Option.getD_some] at hr
     have hiX:i∉X:=by
      intro hc
      have:=(hX i hilt).2 hc
      simp [Array.getD,hsz,hilt] at hnl this
      simp [this] at hnl
     obtain ⟨l,h1,h2⟩:=ih (t / _) (listed.setIfInBounds i true) (i::acc) (i::X) (by simp [hsz]) (by
      intro j hj
      have:=hX j hj
      by_cases hij:i=j
      · subst hij;simp [Array.getD,hsz,hj]
      · rw [Array.getD_eq_getD_getElem?,Array.getElem?_setIfInBounds_ne hij,←Array.getD_eq_getD_getElem?,this]
        simp [Ne.symm hij]) (by intro j hj;rcases List.mem_cons.1 hj with rfl|hj;exact hilt;exact hlt j hj) (List.nodup_cons.2 ⟨hiX,hnd⟩) (by simp;omega)
     refine ⟨i::l,by rw [h1];simp,by simpa [Q3k] using hilt,hiX,?_,h2⟩
     intro e he
     simp only [Q3k,List.getD_eq_getElem?_getD,List.getElem?_map,Array.getElem?_toList,hget,Option.map_some,Option.getD_some,List.mem_map,List.mem_filter] at he
     obtain ⟨ed,⟨hed,hb⟩,rfl⟩:=he
     have hed':ed∈os[i].after:=by simpa using hed
     have hp:=hback i _ hget ed hed' hb
     have:=Array.all_eq_true_iff_forall_mem.1 hr ed hed'
     simp only [QdN hb,Bool.not_true,Bool.false_or] at this
     exact (hX ed.on (by omega)).1 this
   · rename_i hi
     refine ⟨[],by simp,?_⟩
     intro i hi'
     simp only [Q3k,List.length_map,Array.length_toList] at hi'
     rcases Decidable.em (i∈X) with hc|hc
     · exact hc
     exfalso
     obtain ⟨j,o,hj,hjX,hjr⟩:=hprog X ⟨i,hi',hc⟩
     have hjlt:j<os.size:=(Array.getElem?_eq_some_iff.1 hj).1
     have hmem:j∈(List.range os.size).filter fun i=> !listed.getD i true && ((os[i]?).map (·.after.all fun e=> !Region.binds m e||listed.getD e.on false)).getD false:=by
      simp only [List.mem_filter,List.mem_range,Bool.and_eq_true]
      refine ⟨hjlt,?_,?_⟩
      · have:=mt (hX j hjlt).1 hjX
        simp [Array.getD,hsz,hjlt] at this ⊢
        simpa using this
      · rw [hj]
        simp only [Option.map_some,Option.getD_some]
        rw [Array.all_eq_true_iff_forall_mem]
        intro e he
        cases hb:Region.binds m e with
        | false=>rfl
        | true=>
          obtain ⟨h1,h2⟩:=hjr e he hb
          have:=(hX e.on h2).2 h1
          simp [this]
     have hlen:0<((List.range os.size).filter fun i=> !listed.getD i true && ((os[i]?).map (·.after.all fun e=> !Region.binds m e||listed.getD e.on false)).getD false).length:=
      List.length_pos_of_mem hmem
     rw [List.getElem?_eq_none_iff] at hi
     have:=Nat.mod_lt t hlen
     omega

theorem Q6i {os:Array Oper}{m:Region.Mode}{t:Nat}(h:Q4j os=true) (hp:Prog m os):Lin (Q3k os) [] (Region.linearise m os t):=by
 obtain ⟨l,h1,h2⟩:=lin_go m (fun i o ho e he hb=>Q8A h ho he hb) hp os.size t (Array.replicate os.size false) [] [] (by simp) (by intro i hi;simp [Array.getD,hi]) (by simp) (by simp) (by simp)
 unfold Region.linearise
 rw [h1]
 simpa using h2
theorem QcB {os:Array Oper}{mixed:Bool}{t:Nat}(h:Q4j os=true):Lin (Q3k os) [] (Region.schedule mixed os t):=by
 have h':=h
 unfold Q4j at h'
 rw [Bool.or_eq_true] at h'
 rcases h' with h'|h'
 · have hdep:Region.departs os=false:=by
    cases hd:Region.departs os with
    | false=>rfl
    | true=>
      unfold Region.departs at hd
      rw [Array.any_eq_true] at hd
      obtain ⟨i,hi,hd⟩:=hd
      rw [Array.any_eq_true] at hd
      obtain ⟨j,hj,hd⟩:=hd
      have hp:=Q40 h' (i:=i) (o:=os[i]) (by simp [hi]) (e:=os[i].after[j]) (by simp)
      unfold Q3L at hp
      unfold Region.binds at hd
      cases hg:os[i].after[j].ground<;>simp [hg] at hp hd
   unfold Region.schedule
   rw [hdep]
   simp only [Bool.not_false,Bool.or_true,if_true]
   exact Q6i h (QbS h')
 · unfold Q7j at h'
   simp only [Bool.and_eq_true] at h'
   have hany:=fun X hX=>Q4S h'.2 X (fun _ h=>(List.not_mem_nil h).elim) hX
   have htext:=fun X hX=>Q4S h'.1.1.2 X (fun _ h=>(List.not_mem_nil h).elim) hX
   have hgc:=fun X hX=>Q4S h'.1.2 X (fun _ h=>(List.not_mem_nil h).elim) hX
   unfold Region.schedule
   split
   · exact Q6i h hany
   · split
     · exact Q6i h htext
     · exact Q6i h hgc

theorem Q2H {α β:Type}(g:α→β):∀(l pre:List α),(List.range' pre.length l.length).filterMap (fun i=>((pre++l)[i]?).map g)=l.map g:=by
 intro l
 induction l with
 | nil=>intro pre;simp
 | cons x l ih=>
   intro pre
   have:=ih (pre++[x])
   simp only [List.length_append,List.length_singleton,List.append_assoc,List.singleton_append] at this
   simp only [List.length_cons,List.range'_succ,List.filterMap_cons,List.map_cons]
   simp [this]

theorem Q3Q {P:Program}{n:Nat}{ds:List Deferred}:∀(c:Code) (Q:QT) (ρ:Env) (a:Act) (w:World),Rel n ρ ds a→(Q2y P n c).wp P Q ρ w→c.wp P (Q98 n ds Q) a w:=by
 have hokall:∀ops:Array Oper,ops.toList.all (okG n ops)=true→∀(i:Nat) (o:Oper),ops[i]?=some o→okG n ops o=true:=by
  intro ops h i o hi
  exact List.all_eq_true.1 h o (by rw [←Array.getElem?_toList] at hi;exact List.mem_of_getElem? hi)
 intro c
 induction c with
 | skip=>intro Q ρ a w hr h;exact wp_skip ⟨ρ,hr,h⟩
 | region id ops draw=>
   intro Q ρ a w hr h
   cases draw with
   | false=>
     simp only [Q2y] at h
     split at h
     · rename_i hall
       refine wp_region ?_
       refine Q4d _ ρ a w hr ?_ ?_
       · intro i hi
         have hi':i<ops.size:=by simpa using hi
         exact ⟨ops[i],by simp [hi'],hokall ops hall i _ (by simp [hi'])⟩
       · have e:((List.range ops.size).filterMap fun i=>(ops[i]?).map (Q26 P ops))=ops.toList.map (Q26 P ops):=by
          have:=Q2H (Q26 P ops) ops.toList []
          simpa [List.range_eq_range'] using this
         rw [e];exact h
     · exact h.elim
   | true =>
     simp only [Q2y] at h
     split at h
     · rename_i hall
       simp only [Bool.and_eq_true] at hall
       refine wp_region_draw fun t=>?_
       have h':=h _ (QcB (mixed:=P.follows .mixedOrders) (t:=t) hall.2)
       refine Q4d _ ρ a _ hr ?_ ?_
       · intro i hi
         obtain ⟨o,ho⟩:=Q8S i hi
         exact ⟨o,ho,hokall ops hall.1 i o ho⟩
       · have e:((Region.schedule (P.follows .mixedOrders) ops t).filterMap fun i=>(ops[i]?).map (Q26 P ops))=
          (Region.schedule (P.follows .mixedOrders) ops t).map fun i=>(ops.toList.map (Q26 P ops)).getD i GO.nop:=by
          rw [←List.filterMap_eq_map]
          refine Q1Y ?_
          intro i hi
          obtain ⟨o,ho⟩:=Q8S i hi
          have ho':ops.toList[i]?=some o:=by simpa using ho
          simp [ho,List.getD_eq_getElem?_getD]
         rw [e]
         exact h'
     · exact h.elim
 | seq x y ihx ihy=>
   intro Q ρ a w hr h
   refine wp_seq ?_
   refine wp_mono (ihx _ ρ a w hr h) ?_
   rintro e a w ⟨ρ,hr,h⟩
   cases e with
   | normal=>exact ihy _ ρ a w hr h
   | _=>exact ⟨ρ,hr,h⟩
 | cond c x y ihx ihy=>
   intro Q ρ a w hr h
   obtain ⟨t,hc,h⟩:=h
   refine wp_cond (t:=t) (by rw [hr.ev];exact hc) ?_
   cases t
   · exact ihy _ ρ a w hr h
   · exact ihx _ ρ a w hr h
 | block id x ih=>
   intro Q ρ a w hr h
   refine wp_block ?_
   refine wp_mono (ih _ ρ a w hr h) ?_
   rintro e a w ⟨ρ,hr,h⟩
   cases e with
   | exit id'=>
     simp only [QH] at h
     simp only [Exit.inBlock]
     split
     · rename_i he;rw [if_pos he] at h;exact ⟨ρ,hr,h⟩
     · rename_i he;rw [if_neg he] at h;exact ⟨ρ,hr,h⟩
   | _=>exact ⟨ρ,hr,h⟩
 | loop x ih=>
   intro Q ρ a w hr h
   obtain ⟨I,μ,h0,hround⟩:=h
   refine wp_loop (liftK n ds I) (fun a w=>μ (fun i=>a.tmps.getD i undef) w) ⟨ρ,hr,h0⟩ ?_
   rintro a w ⟨ρ,hr,hI⟩
   have he:(fun i=>a.tmps.getD i undef)=ρ:=funext hr.2.1
   refine wp_mono (ih _ ρ a w hr (hround ρ w hI)) ?_
   rintro e a' w' ⟨ρ',hr',h⟩
   cases e with
   | normal=>
     have he':(fun i=>a'.tmps.getD i undef)=ρ':=funext hr'.2.1
     refine ⟨⟨ρ',hr',h.1⟩,?_⟩
     simp only [he,he']
     exact h.2
   | _=>exact ⟨ρ',hr',h⟩
 | exit id=>intro Q ρ a w hr h;exact wp_exit ⟨ρ,hr,h⟩
 | ret=>intro Q ρ a w hr h;exact wp_ret ⟨ρ,hr,h⟩
 | rangeFunc=>intro Q ρ a w hr h;exact h.elim
 | scope=>intro Q ρ a w hr h;exact h.elim
 | label=>intro Q ρ a w hr h;exact h.elim
 | goto=>intro Q ρ a w hr h;exact h.elim
 | refuse=>intro Q ρ a w hr h;exact h.elim


def Q5a (l:List Value):Env:=fun i=>l.getD i undef

def packV:List Value→Value
 | [v]=>v
 | l=> .tuple ⟨l⟩

def Q8L (P:Program) (w:World) (a:Addr) (T:TypeId) (v:Value):Prop:=
 (Q2v P T=true∧w.cell? a=some v)∨(aggT P T=true∧∃n cs,Q2F P T=some n∧Q42 w a n cs∧v= .agg ⟨cs⟩)

def Q1k (P:Program) (w:World) (ρ:Env):List ResultVar→List Value→(Value→Prop)→Prop
 | [],acc,R=>R (packV acc.reverse)
 | .tmp t::rs,acc,R=>Q1k P w ρ rs (ρ t::acc) R
 | .cell a T::rs,acc,R=>∃ad v,ρ a= .pointer (some ad)∧Q8L P w ad T v∧Q1k P w ρ rs (v::acc) R

def retQ (P:Program) (rs:List ResultVar) (R:Ending→World→Prop):QT
 | .normal,ρ,w=>Q1k P w ρ rs [] fun v=>R (.returned v) w
 | .ret,ρ,w=>Q1k P w ρ rs [] fun v=>R (.returned v) w
 | .panic chain,_,w=>R (.panicked chain) w
 | .outgrown,_,w=>R .outgrown w
 | _,_,_=>False

theorem Qdz {P:Program}{w:World}{a:Addr}{T:TypeId}{v:Value}(h:Q8L P w a T v):(loadVar T a).run P w= .ok v w:=by
 rcases h with ⟨hs,hc⟩|⟨ha,n,cs,hn,hc,rfl⟩
 · simp [loadVar,Q2w P T w hs,hc]
 · simp [loadVar,Q3j P T w ha,QQ P T n w hn,Q1i (P:=P) a n cs hc]

theorem Qd2 {P:Program}{w:World}{ρ:Env}(f:ResultVar→Sem Value) (h1:∀t,f (.tmp t)=pure (ρ t)) (h2:∀a t,f (.cell a t)=(do loadVar t (←asAddr (ρ a)))):
 ∀(rs:List ResultVar) (acc:List Value) (R:Value→Prop),Q1k P w ρ rs acc R→∃vs,(rs.mapM f).run P w= .ok vs w∧R (packV (acc.reverse++vs)):=by
 intro rs
 induction rs with
 | nil=>intro acc R h;exact ⟨[],by simp,by simpa [Q1k] using h⟩
 | cons r rs ih=>
   intro acc R h
   cases r with
   | tmp t=>
     obtain ⟨vs,h3,h4⟩:=ih _ R h
     refine ⟨ρ t::vs,?_,by simpa using h4⟩
     simp only [List.mapM_cons,Sem.run_bind,Sem.run_pure,Result.andThen_ok,h1,h3]
   | cell a T=>
     obtain ⟨ad,v,ha,hv,h⟩:=h
     obtain ⟨vs,h3,h4⟩:=ih _ R h
     refine ⟨v::vs,?_,by simpa using h4⟩
     simp only [List.mapM_cons,Sem.run_bind,Sem.run_pure,Result.andThen_ok,h2,ha,asAddr,Qdz hv,h3]

theorem Q23 {P:Program}{w:World}{ρ:Env}{fn:Func}{tmps:Array Value}{R:Value→Prop}(ht:∀i,tmps.getD i undef=ρ i)
 (h:Q1k P w ρ fn.results.toList [] R):∃v,(results fn tmps).run P w= .ok v w∧R v:=by
 unfold results
 obtain ⟨vs,h1,h2⟩:=Qd2 (ρ:=ρ) (fun
  | .tmp t=>pure (tmps.getD t undef)
  | .cell a t=>do loadVar t (←asAddr (tmps.getD a undef))) (fun t=>by simp only [ht]) (fun a t=>by simp only [ht]) _ _ _ h
 simp only [List.reverse_nil,List.nil_append] at h2
 refine ⟨packV vs,?_,h2⟩
 simp only [Array.mapM_eq_mapM_toList,Sem.run_bind,Sem.run_map]
 refine Eq.trans (congrArg (fun r=>((Result.andThen r _).andThen _)) h1) ?_
 simp only [Result.andThen_ok,Sem.run_pure]
 match vs with
 | []=>rfl
 | [v]=>rfl
 | v::u::vs=>simp [packV]

theorem Qd1 {P:Program}{fn:Func}{n:Nat}{R:Ending→World→Prop}{e:Exit}{a:Act}{w:World}
 (h:Q98 n [] (retQ P fn.results.toList R) e a w):bodyPost P fn R e a w:=by
 obtain ⟨ρ,hr,h⟩:=h
 cases e with
 | normal=>obtain ⟨v,h1,h2⟩:=Q23 hr.2.1 h;exact ⟨hr.2.2,v,h1,h2⟩
 | ret=>obtain ⟨v,h1,h2⟩:=Q23 hr.2.1 h;exact ⟨hr.2.2,v,h1,h2⟩
 | panic ch=>exact ⟨hr.2.2,h⟩
 | outgrown=>exact h
 | exit=>exact h
 | goto=>exact h

theorem Q5K (args:Array Value) (n:Nat) (h:args.size≤n) (ds:List Deferred):Rel n (Q5a args.toList) ds {tmps:=args++Array.replicate (n - args.size) undef,defers:=ds}:=by
 refine ⟨by simp;omega,fun i=>?_,rfl⟩
 simp only [Q5a,Array.getD_eq_getD_getElem?,List.getD_eq_getElem?_getD,Array.getElem?_append,Array.getElem?_replicate,Array.getElem?_toList]
 split
 · rfl
 · rename_i hi
   rw [Array.getElem?_eq_none (by omega)]
   split<;>simp

theorem Q9G {P:Program}{f:FuncId}{fn:Func}{c:Code}{args:List Value}{w:World}{R:Ending→World→Prop}{lc:LC}{rs:List ResultVar}
 (hf:P.funcs[f]?=some fn) (hb:fn.body=some c) (hl:Q2y P fn.ntmps c=lc) (hrs:fn.results.toList=rs) (hn:Nat.ble args.length fn.ntmps=true)
 (h:lc.wp P (retQ P rs R) (Q5a args) w):Calls P f ⟨args⟩ w R:=by
 refine calls_of_wp hf hb ?_
 subst hl hrs
 have hn':args.length≤fn.ntmps:=Nat.le_of_ble_eq_true hn
 exact wp_mono (Q3Q (ds:=[]) c _ _ _ _ (Q5K ⟨args⟩ fn.ntmps hn' []) h) fun e a w h=>Qd1 h

def lowF (P:Program) (fn:Func):Option LC:=fn.body.map (Q2y P fn.ntmps)

theorem Q9F {P:Program}{f:FuncId}{fn:Func}{args:List Value}{w:World}{R:Ending→World→Prop}{lc:LC}{rs:List ResultVar}
 (hf:P.funcs[f]?=some fn) (hl:lowF P fn=some lc) (hrs:fn.results.toList=rs) (hn:Nat.ble args.length fn.ntmps=true)
 (h:lc.wp P (retQ P rs R) (Q5a args) w):Calls P f ⟨args⟩ w R:=by
 unfold lowF at hl
 cases hb:fn.body with
 | none=>simp [hb] at hl
 | some c=>simp only [hb,Option.map_some,Option.some.injEq] at hl;exact Q9G hf hb hl hrs hn h

end Go.Lir
namespace Go.Lir

def opT:Operand→List Nat
 | .tmp t=>[t]
 | _=>[]
def opoT:Option Operand→List Nat
 | some x=>opT x
 | none=>[]

def LO.uses:LO→List Nat
 | .mov _ x| .un _ _ x| .nilc _ x| .fld _ x _| .load1 _ x| .loadn _ _ x| .len _ x| .slen _ x| .ext _ x _| .fldv _ x _| .fldn _ x _ _| .box _ _ x| .conv _ _ x| .mki _ _ x=>opT x
 | .pick _ c x y=>opT c++opT x++opT y
 | .bin _ _ _ x y| .idx _ _ x y| .idxa _ _ _ x y| .sidx _ x y| .mnx _ _ x y| .store1 x y| .storen _ x y=>opT x++opT y
 | .alloc ..=>[]
 | .call _ _ xs=>xs.flatMap opT
 | .callv _ x xs=>opT x++xs.flatMap opT
 | .build _ _ ps| .buildS _ _ _ _ ps=>ps.flatMap fun p=>opT p.2.2
 | .mkfn _ _ xs=>xs.flatMap opT
 | .sub _ _ x a b c=>opT x++opoT a++opoT b++opoT c
 | .ssub _ x a b=>opT x++opoT a++opoT b
 | .raw o=>o.op.operands.toList.flatMap opT

def LO.quiet:LO→Bool
 | .mov ..| .pick ..| .un ..| .bin ..| .nilc ..| .fld ..| .load1 ..| .loadn ..| .idx ..| .idxa ..| .len ..| .slen ..| .sidx ..| .ext ..| .fldv ..| .fldn ..| .build ..| .mkfn ..
 | .sub ..| .ssub ..| .mnx ..| .conv ..| .mki ..=>true
 | _=>false

def qv (P:Program) (ρ:Env) (w:World):LO→Value→Prop
 | .mov _ x,v=>v=ρ.ev x
 | .pick _ c x y,v=>∃b,ρ.ev c= .bool b∧v=(if b then ρ.ev x else ρ.ev y)
 | .un _ op x,v=>∀w0,(Op.unary op (ρ.ev x)).run P w0= .ok v w0
 | .bin _ op T x y,v=>∀w0,(do eqGuard op T x y (ρ.ev x) (ρ.ev y);binOp op T (ρ.ev x) (ρ.ev y)).run P w0= .ok v w0
 | .nilc _ x,v=>∃a,ρ.ev x= .pointer (some a)∧v= .pointer (some a)
 | .fld _ x off,v=>∃a,ρ.ev x= .pointer (some a)∧v= .pointer (some (a.add off))
 | .load1 _ x,v=>∃a,ρ.ev x= .pointer (some a)∧w.cell? a=some v
 | .loadn _ n x,v=>∃a cs,ρ.ev x= .pointer (some a)∧Q42 w a n cs∧v= .agg ⟨cs⟩
 | .idx _ es x i,v=>∃a len cap k n,ρ.ev x= .slice (some a) len cap∧ρ.ev i= .int k n∧0≤n∧n<len∧v= .pointer (some (a.add (n.toNat*es)))
 | .idxa _ m es x i,v=>∃a k n,ρ.ev x= .pointer (some a)∧ρ.ev i= .int k n∧0≤n∧n<(m:Int)∧v= .pointer (some (a.add (n.toNat*es)))
 | .len _ x,v=>∃a n c,ρ.ev x= .slice a n c∧v= .int .i64 n
 | .slen _ x,v=>∃s,ρ.ev x= .string s∧v= .int .i64 s.size
 | .sidx _ x i,v=>∃s k n b,ρ.ev x= .string s∧ρ.ev i= .int k n∧0≤n∧s[n.toNat]?=some b∧v= .int .u8 b.toNat
 | .ext _ x i,v=>∃vs,ρ.ev x= .tuple vs∧vs[i]?=some v
 | .fldv _ x off,v=>∃cs,ρ.ev x= .agg cs∧cs[off]?=some v
 | .fldn _ x off n,v=>∃cs,ρ.ev x= .agg cs∧v= .agg (cs.extract off (off+n))
 | .build _ z ps,v=>∃cs,Q2j z (ps.map fun p=>(p.1,p.2.1,ρ.ev p.2.2))=some cs∧v= .agg ⟨cs⟩
 | .mkfn _ f caps,v=>v= .func (.func f) #[] ⟨caps.map ρ.ev⟩
 | .sub _ es x lo hi mx,v=>∃a len cap l h m,ρ.ev x= .slice a len cap∧bnd ρ cap mx m∧bnd ρ len hi h∧bnd ρ 0 lo l∧m≤cap∧h≤m∧l≤h∧
    v= .slice (if m=l then a else a.map (·.add (l*es))) (h - l) (m - l)
 | .ssub _ x lo hi,v=>∃s l h,ρ.ev x= .string s∧bnd ρ s.size hi h∧bnd ρ 0 lo l∧h≤s.size∧l≤h∧v= .string (s.extract l h)
 | .mnx _ isMax x y,v=>∃k k' a b,ρ.ev x= .int k a∧ρ.ev y= .int k' b∧v= .int k (if isMax then (if a<b then b else a) else (if b<a then b else a))
 | .conv _ k x,v=>∃k' n,ρ.ev x= .int k' n∧v= .int k (k.wrap n)
 | .mki _ T x,v=>v= .iface T (ρ.ev x)
 | _,_=>False

theorem Q6g {P:Program}{ρ:Env}{w:World}{K:KT}{Q:QT}{o:LO}(h:o.quiet=true):o.wp P ρ w K Q↔∃v,qv P ρ w o v∧K (updo ρ o.dst v) w:=by
 cases o<;>simp only [LO.quiet,Bool.false_eq_true] at h<;>simp only [LO.wp,qv,LO.dst,updo]
 all_goals (constructor<;>intro h)
 case mov.mp=>exact ⟨_,rfl,h⟩
 case mov.mpr=>obtain ⟨v,rfl,h⟩:=h;exact h
 case pick.mp=>obtain ⟨b,h1,h2⟩:=h;exact ⟨_,⟨b,h1,rfl⟩,h2⟩
 case pick.mpr=>obtain ⟨v,⟨b,h1,rfl⟩,h2⟩:=h;exact ⟨b,h1,h2⟩
 case nilc.mp=>obtain ⟨a,h1,h2⟩:=h;exact ⟨_,⟨a,h1,rfl⟩,h2⟩
 case nilc.mpr=>obtain ⟨v,⟨a,h1,rfl⟩,h2⟩:=h;exact ⟨a,h1,h2⟩
 case fld.mp=>obtain ⟨a,h1,h2⟩:=h;exact ⟨_,⟨a,h1,rfl⟩,h2⟩
 case fld.mpr=>obtain ⟨v,⟨a,h1,rfl⟩,h2⟩:=h;exact ⟨a,h1,h2⟩
 case load1.mp=>obtain ⟨a,v,h1,h2,h3⟩:=h;exact ⟨v,⟨a,h1,h2⟩,h3⟩
 case load1.mpr=>obtain ⟨v,⟨a,h1,h2⟩,h3⟩:=h;exact ⟨a,v,h1,h2,h3⟩
 case loadn.mp=>obtain ⟨a,cs,h1,h2,h3⟩:=h;exact ⟨_,⟨a,cs,h1,h2,rfl⟩,h3⟩
 case loadn.mpr=>obtain ⟨v,⟨a,cs,h1,h2,rfl⟩,h3⟩:=h;exact ⟨a,cs,h1,h2,h3⟩
 case idx.mp=>obtain ⟨a,l,c,k,n,h1,h2,h3,h4,h5⟩:=h;exact ⟨_,⟨a,l,c,k,n,h1,h2,h3,h4,rfl⟩,h5⟩
 case idx.mpr=>obtain ⟨v,⟨a,l,c,k,n,h1,h2,h3,h4,rfl⟩,h5⟩:=h;exact ⟨a,l,c,k,n,h1,h2,h3,h4,h5⟩
 case idxa.mp=>obtain ⟨a,k,n,h1,h2,h3,h4,h5⟩:=h;exact ⟨_,⟨a,k,n,h1,h2,h3,h4,rfl⟩,h5⟩
 case idxa.mpr=>obtain ⟨v,⟨a,k,n,h1,h2,h3,h4,rfl⟩,h5⟩:=h;exact ⟨a,k,n,h1,h2,h3,h4,h5⟩
 case len.mp=>obtain ⟨a,n,c,h1,h2⟩:=h;exact ⟨_,⟨a,n,c,h1,rfl⟩,h2⟩
 case len.mpr=>obtain ⟨v,⟨a,n,c,h1,rfl⟩,h2⟩:=h;exact ⟨a,n,c,h1,h2⟩
 case slen.mp=>obtain ⟨s,h1,h2⟩:=h;exact ⟨_,⟨s,h1,rfl⟩,h2⟩
 case slen.mpr=>obtain ⟨v,⟨s,h1,rfl⟩,h2⟩:=h;exact ⟨s,h1,h2⟩
 case sidx.mp=>obtain ⟨s,k,n,b,h1,h2,h3,h4,h5⟩:=h;exact ⟨_,⟨s,k,n,b,h1,h2,h3,h4,rfl⟩,h5⟩
 case sidx.mpr=>obtain ⟨v,⟨s,k,n,b,h1,h2,h3,h4,rfl⟩,h5⟩:=h;exact ⟨s,k,n,b,h1,h2,h3,h4,h5⟩
 case ext.mp=>obtain ⟨vs,v,h1,h2,h3⟩:=h;exact ⟨v,⟨vs,h1,h2⟩,h3⟩
 case ext.mpr=>obtain ⟨v,⟨vs,h1,h2⟩,h3⟩:=h;exact ⟨vs,v,h1,h2,h3⟩
 case fldv.mp=>obtain ⟨cs,v,h1,h2,h3⟩:=h;exact ⟨v,⟨cs,h1,h2⟩,h3⟩
 case fldv.mpr=>obtain ⟨v,⟨cs,h1,h2⟩,h3⟩:=h;exact ⟨cs,v,h1,h2,h3⟩
 case fldn.mp=>obtain ⟨cs,h1,h2⟩:=h;exact ⟨_,⟨cs,h1,rfl⟩,h2⟩
 case fldn.mpr=>obtain ⟨v,⟨cs,h1,rfl⟩,h2⟩:=h;exact ⟨cs,h1,h2⟩
 case build.mp=>obtain ⟨cs,h1,h2⟩:=h;exact ⟨_,⟨cs,h1,rfl⟩,h2⟩
 case build.mpr=>obtain ⟨v,⟨cs,h1,rfl⟩,h2⟩:=h;exact ⟨cs,h1,h2⟩
 case mkfn.mp=>exact ⟨_,rfl,h⟩
 case mkfn.mpr=>obtain ⟨v,rfl,h⟩:=h;exact h
 case sub.mp=>obtain ⟨a,n,c,l,hh,m,h1,h2,h3,h4,h5,h6,h7,h8⟩:=h;exact ⟨_,⟨a,n,c,l,hh,m,h1,h2,h3,h4,h5,h6,h7,rfl⟩,h8⟩
 case sub.mpr=>obtain ⟨v,⟨a,n,c,l,hh,m,h1,h2,h3,h4,h5,h6,h7,rfl⟩,h8⟩:=h;exact ⟨a,n,c,l,hh,m,h1,h2,h3,h4,h5,h6,h7,h8⟩
 case ssub.mp=>obtain ⟨s,l,hh,h1,h2,h3,h4,h5,h6⟩:=h;exact ⟨_,⟨s,l,hh,h1,h2,h3,h4,h5,rfl⟩,h6⟩
 case ssub.mpr=>obtain ⟨v,⟨s,l,hh,h1,h2,h3,h4,h5,rfl⟩,h6⟩:=h;exact ⟨s,l,hh,h1,h2,h3,h4,h5,h6⟩
 case mnx.mp=>obtain ⟨k,k',a,b,h1,h2,h3⟩:=h;exact ⟨_,⟨k,k',a,b,h1,h2,rfl⟩,h3⟩
 case mnx.mpr=>obtain ⟨v,⟨k,k',a,b,h1,h2,rfl⟩,h3⟩:=h;exact ⟨k,k',a,b,h1,h2,h3⟩
 case conv.mp=>obtain ⟨k',n,h1,h2⟩:=h;exact ⟨_,⟨k',n,h1,rfl⟩,h2⟩
 case conv.mpr=>obtain ⟨v,⟨k',n,h1,rfl⟩,h2⟩:=h;exact ⟨k',n,h1,h2⟩
 case mki.mp=>exact ⟨_,rfl,h⟩
 case mki.mpr=>obtain ⟨v,rfl,h⟩:=h;exact h

theorem Qn {ρ ρ':Env}{x:Operand}(h:∀s∈opT x,ρ s=ρ' s):ρ.ev x=ρ'.ev x:=by
 cases x<;>first|rfl|exact h _ (by simp [opT])
theorem Q43 {ρ ρ':Env}{x:Option Operand}{d n:Nat}(h:∀s∈opoT x,ρ s=ρ' s) (hb:bnd ρ d x n):bnd ρ' d x n:=by
 cases x with
 | none=>exact hb
 | some x=>simp only [bnd] at hb ⊢;rw [←Qn (ρ:=ρ) (ρ':=ρ') h];exact hb
theorem Q2V {ρ ρ':Env}{xs:List Operand}(h:∀s∈xs.flatMap opT,ρ s=ρ' s):xs.map ρ.ev=xs.map ρ'.ev:=by
 refine List.map_congr_left fun x hx=>Qn fun s hs=>h s ?_
 exact List.mem_flatMap.2 ⟨x,hx,hs⟩
theorem Q4r {ρ ρ':Env}{xs:List (Nat×Nat×Operand)}(h:∀s∈xs.flatMap (fun p=>opT p.2.2),ρ s=ρ' s):
 (xs.map fun p=>(p.1,p.2.1,ρ.ev p.2.2))=xs.map fun p=>(p.1,p.2.1,ρ'.ev p.2.2):=by
 refine List.map_congr_left fun x hx=>?_
 rw [Qn (ρ:=ρ) (ρ':=ρ') fun s hs=>h s (List.mem_flatMap.2 ⟨x,hx,hs⟩)]

theorem Q8e {P:Program}{ρ ρ':Env}{w:World}{o:LO}{v:Value}(h:∀s∈o.uses,ρ s=ρ' s) (hv:qv P ρ w o v):qv P ρ' w o v:=by
 cases o<;>simp only [qv] at hv ⊢ <;>simp only [LO.uses,List.mem_append] at h
 case mov=>rw [←Qn h];exact hv
 case pick=>rw [←Qn fun s hs=>h s (.inl (.inl hs)),←Qn fun s hs=>h s (.inl (.inr hs)),←Qn fun s hs=>h s (.inr hs)];exact hv
 case un=>rw [←Qn h];exact hv
 case bin=>rw [←Qn fun s hs=>h s (.inl hs),←Qn fun s hs=>h s (.inr hs)];exact hv
 case nilc=>rw [←Qn h];exact hv
 case fld=>rw [←Qn h];exact hv
 case load1=>rw [←Qn h];exact hv
 case loadn=>rw [←Qn h];exact hv
 case idx=>rw [←Qn fun s hs=>h s (.inl hs),←Qn fun s hs=>h s (.inr hs)];exact hv
 case idxa=>rw [←Qn fun s hs=>h s (.inl hs),←Qn fun s hs=>h s (.inr hs)];exact hv
 case len=>rw [←Qn h];exact hv
 case slen=>rw [←Qn h];exact hv
 case sidx=>rw [←Qn fun s hs=>h s (.inl hs),←Qn fun s hs=>h s (.inr hs)];exact hv
 case ext=>rw [←Qn h];exact hv
 case fldv=>rw [←Qn h];exact hv
 case fldn=>rw [←Qn h];exact hv
 case build=>rw [←Q4r h];exact hv
 case mkfn=>rw [←Q2V h];exact hv
 case sub=>
  rw [←Qn fun s hs=>h s (.inl (.inl (.inl hs)))]
  obtain ⟨a,n,c,l,hh,m,h1,h2,h3,h4,h5⟩:=hv
  exact ⟨a,n,c,l,hh,m,h1,Q43 (fun s hs=>h s (.inr hs)) h2,Q43 (fun s hs=>h s (.inl (.inr hs))) h3,Q43 (fun s hs=>h s (.inl (.inl (.inr hs)))) h4,h5⟩
 case ssub=>
  rw [←Qn fun s hs=>h s (.inl (.inl hs))]
  obtain ⟨s,l,hh,h1,h2,h3,h4⟩:=hv
  exact ⟨s,l,hh,h1,Q43 (fun s hs=>h s (.inr hs)) h2,Q43 (fun s hs=>h s (.inl (.inr hs))) h3,h4⟩
 case mnx=>rw [←Qn fun s hs=>h s (.inl hs),←Qn fun s hs=>h s (.inr hs)];exact hv
 case conv=>rw [←Qn h];exact hv
 case mki=>rw [←Qn h];exact hv
 all_goals exact hv.elim

theorem Q9H {ρ ρ':Env}{xs:Array Operand}(h:∀s∈xs.toList.flatMap opT,ρ s=ρ' s):xs.map ρ.ev=xs.map ρ'.ev:=by
 apply Array.ext';simpa using Q2V h
def rawOk:Op→Bool
 | .call ⟨.builtin _,_,_⟩| .makeSlice ..| .convert ..| .box ..| .load ..=>true
 | _=>false

theorem Qc8 {ρ ρ':Env}{o:Oper}(hr:rawOk o.op=true) (h:∀s∈o.op.operands.toList.flatMap opT,ρ s=ρ' s):execOp ρ.ev o=execOp ρ'.ev o:=by
 obtain ⟨dst,op,T,pos,af,g⟩:=o
 cases op<;>simp only [rawOk,Bool.false_eq_true] at hr<;>simp only [Op.operands] at h
 case call c=>
  obtain ⟨ce,xs,ts⟩:=c
  cases ce<;>simp only [Bool.false_eq_true] at hr
  simp only [execOp,resolve]
  rw [Q9H (by simpa [Call.operands] using h)]
 case makeSlice T l c=>
  simp only [execOp]
  rw [Qn (x:=l) (ρ:=ρ) (ρ':=ρ') (fun s hs=>h s (by simp [hs])),Qn (x:=c) (ρ:=ρ) (ρ':=ρ') (fun s hs=>h s (by simp [hs]))]
 case convert=>simp only [execOp];rw [Qn (ρ:=ρ) (ρ':=ρ') (fun s hs=>h s (by simpa using hs))]
 case box=>simp only [execOp];rw [Qn (ρ:=ρ) (ρ':=ρ') (fun s hs=>h s (by simpa using hs))]
 case load=>simp only [execOp];rw [Qn (ρ:=ρ) (ρ':=ρ') (fun s hs=>h s (by simpa using hs))]

def LO.takes:LO→Bool
 | .raw o=>rawOk o.op
 | _=>true

theorem QaN {P:Program}{ρ ρ':Env}{w:World}{o:LO}{K K':KT}{Q Q':QT}(ht:o.takes=true) (h:∀s∈o.uses,ρ s=ρ' s)
 (hk:∀v w',K (updo ρ o.dst v) w'→K' (updo ρ' o.dst v) w') (hq:∀e w',e≠ .normal→Q e ρ w'→Q' e ρ' w') (hw:o.wp P ρ w K Q):o.wp P ρ' w K' Q':=by
 by_cases hqt:o.quiet=true
 · rw [Q6g hqt] at hw ⊢
   obtain ⟨v,h1,h2⟩:=hw
   exact ⟨v,Q8e h h1,hk _ _ h2⟩
 · have hp:∀d e w',Qh K Q d ρ w e w'→(∀v w',K (updo ρ d v) w'→K' (updo ρ' d v) w')→Qh K' Q' d ρ' w e w':=by
    intro d e w' hc hk
    cases e with
    | returned v=>exact hk _ _ hc
    | panicked ch=>exact hq _ _ (by simp) hc
    | outgrown=>exact hq _ _ (by simp) hc
   cases o<;>simp only [LO.quiet,not_true_eq_false] at hqt<;>simp only [LO.wp] at hw ⊢ <;>simp only [LO.uses,List.mem_append] at h<;>simp only [LO.dst,updo] at hk
   case store1=>
    obtain ⟨a,c,h1,h2,h3,h4,h5⟩:=hw
    have e1:=Qn (ρ:=ρ) (ρ':=ρ') fun s hs=>h s (.inl hs)
    have e2:=Qn (ρ:=ρ) (ρ':=ρ') fun s hs=>h s (.inr hs)
    rw [←e1,←e2]
    exact ⟨a,c,h1,h2,h3,h4,hk undef _ h5⟩
   case storen=>
    obtain ⟨a,cs,w',h1,h2,h3,h4,h5⟩:=hw
    have e1:=Qn (ρ:=ρ) (ρ':=ρ') fun s hs=>h s (.inl hs)
    have e2:=Qn (ρ:=ρ) (ρ':=ρ') fun s hs=>h s (.inr hs)
    rw [←e1,←e2]
    exact ⟨a,cs,w',h1,h2,h3,h4,hk undef _ h5⟩
   case alloc=>exact hk _ _ hw
   case box=>rw [←Qn h];exact hk _ _ hw
   case call=>rw [←Q2V h];exact hw.mono fun e w' hc=>hp _ e w' hc hk
   case callv=>
    obtain ⟨f,fst,cap,fn,h1,h2,h3,h4,h5⟩:=hw
    rw [←Qn (ρ:=ρ) (ρ':=ρ') fun s hs=>h s (.inl hs),←Q2V (ρ:=ρ) (ρ':=ρ') fun s hs=>h s (.inr hs)]
    exact ⟨f,fst,cap,fn,h1,h2,h3,h4,h5.mono fun e w' hc=>hp _ e w' hc hk⟩
   case buildS=>
    rw [←Q4r h]
    obtain ⟨cs,h1,h2⟩:=hw
    exact ⟨cs,h1,hk _ _ h2⟩
   case raw o=>
    unfold Q3J at hw ⊢
    rw [←Qc8 ht h]
    split at hw
    · exact hk _ _ hw
    · exact hk _ _ hw
    · exact hw.mono fun e w' hc=>by
       cases e with
       | returned v=>exact hk _ _ hc
       | panicked ch=>exact hq _ _ (by simp) hc
       | outgrown=>exact hq _ _ (by simp) hc
    · exact hw.mono fun v w' hc=>hk _ _ hc
    · exact hq _ _ (by simp) hw
    · exact hw.elim

theorem Q56 {K K':KT}{Q Q':QT}{d:Option Nat}{ρ:Env}{w:World}(hk:∀ρ w,K ρ w→K' ρ w) (hq:∀e ρ w,e≠ .normal→Q e ρ w→Q' e ρ w):∀e w',Qh K Q d ρ w e w'→Qh K' Q' d ρ w e w':=by
 intro e w' h
 cases e with
 | returned v=>exact hk _ _ h
 | panicked ch=>exact hq _ _ _ (by simp) h
 | outgrown=>exact hq _ _ _ (by simp) h

theorem Q4L {P:Program}{ρ:Env}{w:World}{o:LO}{K K':KT}{Q Q':QT}(hk:∀ρ w,K ρ w→K' ρ w) (hq:∀e ρ w,e≠ .normal→Q e ρ w→Q' e ρ w) (h:o.wp P ρ w K Q):o.wp P ρ w K' Q':=by
 by_cases hqt:o.quiet=true
 · rw [Q6g hqt] at h ⊢
   obtain ⟨v,h1,h2⟩:=h
   exact ⟨v,h1,hk _ _ h2⟩
 · cases o<;>simp only [LO.quiet,not_true_eq_false] at hqt<;>simp only [LO.wp] at h ⊢
   case store1=>obtain ⟨a,c,h1,h2,h3,h4,h5⟩:=h;exact ⟨a,c,h1,h2,h3,h4,hk _ _ h5⟩
   case storen=>obtain ⟨a,c,w',h1,h2,h3,h4,h5⟩:=h;exact ⟨a,c,w',h1,h2,h3,h4,hk _ _ h5⟩
   case alloc=>exact hk _ _ h
   case box=>exact hk _ _ h
   case call=>exact h.mono (Q56 hk hq)
   case callv=>obtain ⟨f,fst,cap,fn,h1,h2,h3,h4,h5⟩:=h;exact ⟨f,fst,cap,fn,h1,h2,h3,h4,h5.mono (Q56 hk hq)⟩
   case buildS=>obtain ⟨cs,h1,h2⟩:=h;exact ⟨cs,h1,hk _ _ h2⟩
   case raw o=>
    unfold Q3J at h ⊢
    split at h
    · exact hk _ _ h
    · exact hk _ _ h
    · exact h.mono fun e w' hc=>by
       cases e with
       | returned v=>exact hk _ _ hc
       | panicked ch=>exact hq _ _ _ (by simp) hc
       | outgrown=>exact hq _ _ _ (by simp) hc
    · exact h.mono fun v w' hc=>hk _ _ hc
    · exact hq _ _ _ (by simp) h
    · exact h.elim


def GO.uses (g:GO):List Nat:=(match g.g with|some (s,_)=>[s]|none=>[])++g.o.uses
def GO.dst (g:GO):Option Nat:=g.o.dst

def gqv (P:Program) (ρ:Env) (w:World) (g:GO) (v:Value):Prop:=match g.g with
 | none=>qv P ρ w g.o v
 | some (s,b)=>if Q7s (ρ s) b then qv P ρ w g.o v else v=undef

theorem Q50 {P:Program}{ρ ρ':Env}{w:World}{g:GO}{v:Value}(h:∀s∈g.uses,ρ s=ρ' s) (hv:gqv P ρ w g v):gqv P ρ' w g v:=by
 obtain ⟨g,o⟩:=g
 cases g with
 | none=>exact Q8e (fun s hs=>h s (by simp [GO.uses,hs])) hv
 | some p=>
   obtain ⟨s,b⟩:=p
   simp only [gqv] at hv ⊢
   rw [←h s (by simp [GO.uses])]
   split
   · rename_i hw;rw [if_pos hw] at hv;exact Q8e (fun s hs=>h s (by simp [GO.uses,hs])) hv
   · rename_i hw;rw [if_neg hw] at hv;exact hv

theorem Q6E {P:Program}{ρ:Env}{w:World}{Q:QT}{g:GO}{l:List GO}(h:g.o.quiet=true):
 Q0 P (g::l) Q ρ w↔∃v,gqv P ρ w g v∧Q0 P l Q (updo ρ g.dst v) w:=by
 obtain ⟨g,o⟩:=g
 cases g with
 | none=>simp only [Q0,gqv];exact Q6g h
 | some p=>
   obtain ⟨s,b⟩:=p
   simp only [Q0,gqv]
   split
   · exact Q6g h
   · constructor
     · intro h;exact ⟨_,rfl,h⟩
     · rintro ⟨v,rfl,h⟩;exact h

theorem Q6I {P:Program}{ρ ρ':Env}{w:World}{g:GO}{l l':List GO}{Q Q':QT}(ht:g.o.takes=true) (h:∀s∈g.uses,ρ s=ρ' s)
 (hk:∀v w',Q0 P l Q (updo ρ g.dst v) w'→Q0 P l' Q' (updo ρ' g.dst v) w') (hq:∀e w',e≠ .normal→Q e ρ w'→Q' e ρ' w') (hw:Q0 P (g::l) Q ρ w):Q0 P (g::l') Q' ρ' w:=by
 obtain ⟨g,o⟩:=g
 cases g with
 | none=>exact QaN ht (fun s hs=>h s (by simp [GO.uses,hs])) hk hq hw
 | some p=>
   obtain ⟨s,b⟩:=p
   simp only [Q0] at hw ⊢
   rw [←h s (by simp [GO.uses])]
   split
   · rename_i hg;rw [if_pos hg] at hw;exact QaN ht (fun s hs=>h s (by simp [GO.uses,hs])) hk hq hw
   · rename_i hg;rw [if_neg hg] at hw;exact hk _ _ hw


abbrev CI:=Nat×Option (Option (List Nat))

def LO.pureQ:LO→Bool
 | .load1 ..| .loadn ..=>false
 | o=>o.quiet

theorem Qd6 {P:Program}{ρ:Env}{w w':World}{o:LO}{v:Value}(h:o.pureQ=true) (hv:qv P ρ w o v):qv P ρ w' o v:=by
 cases o<;>first|exact hv|(simp [LO.pureQ] at h;done)
theorem gqv_pure {P:Program}{ρ:Env}{w w':World}{g:GO}{v:Value}(h:g.o.pureQ=true) (hv:gqv P ρ w g v):gqv P ρ w' g v:=by
 obtain ⟨g,o⟩:=g
 cases g with
 | none=>exact Qd6 h hv
 | some p=>
   simp only [gqv] at hv ⊢
   split
   · rename_i hw;rw [if_pos hw] at hv;exact Qd6 h hv
   · rename_i hw;rw [if_neg hw] at hv;exact hv

def maskOf (acc:List Nat) (e:List Nat):Nat:=e.foldl (fun m j=>m|||2 ^ j|||acc.getD j 0) 0
def Qaq:List (List Nat)→List Nat→List Nat
 | [],acc=>acc
 | e::es,acc=>Qaq es (acc++[maskOf acc e])
def Qde (es:List (List Nat)):List Nat:=Qaq es []

def Q7n (es:List (List Nat)) (X:List Nat):Prop:=∀k∈X,∀e∈es.getD k [],e∈X

theorem maskOf_bit (acc:List Nat) (k:Nat):∀(e:List Nat) (m0:Nat),(e.foldl (fun m j=>m|||2 ^ j|||acc.getD j 0) m0).testBit k=true→m0.testBit k=true∨∃j∈e,k=j∨(acc.getD j 0).testBit k=true:=by
 intro e
 induction e with
 | nil=>intro m0 h;exact .inl h
 | cons j e ih=>
   intro m0 h
   rcases ih _ h with h|⟨j',hj',h⟩
   · simp only [Nat.testBit_or,Bool.or_eq_true] at h
     rcases h with (h|h)|h
     · exact .inl h
     · rw [Nat.testBit_two_pow] at h
       exact .inr ⟨j,by simp, .inl (by simpa using (of_decide_eq_true h).symm)⟩
     · exact .inr ⟨j,by simp, .inr h⟩
   · exact .inr ⟨j',by simp [hj'],h⟩

theorem Q95 (all:List (List Nat)):∀(es pre:List (List Nat)) (acc:List Nat),all=pre++es→acc.length=pre.length→
 (∀i,∀j,(acc.getD i 0).testBit j=true→∀X,Q7n all X→(∀e∈all.getD i [],e∈X)→j∈X)→
 ∀i j,((Qaq es acc).getD i 0).testBit j=true→∀X,Q7n all X→(∀e∈all.getD i [],e∈X)→j∈X:=by
 intro es
 induction es with
 | nil=>intro pre acc _ _ h;exact h
 | cons e es ih=>
   intro pre acc hall hlen h
   refine ih (pre++[e]) (acc++[maskOf acc e]) (by simp [hall]) (by simp [hlen]) ?_
   intro i j hb X hX he
   simp only [List.getD_eq_getElem?_getD,List.getElem?_append] at hb
   split at hb
   · exact h i j (by simpa [List.getD_eq_getElem?_getD] using hb) X hX he
   · rename_i hi
     by_cases hi':i=acc.length
     · subst hi'
       simp only [Nat.sub_self,List.getElem?_cons_zero,Option.getD_some] at hb
       have hei:all.getD acc.length []=e:=by rw [hlen,hall];simp [List.getD_eq_getElem?_getD]
       rw [hei] at he
       rcases maskOf_bit acc j e 0 hb with hb|⟨j',hj',rfl|hb⟩
       · simp at hb
       · exact he _ hj'
       · exact h j' j hb X hX (hX j' (he j' hj'))
     · rw [List.getElem?_eq_none (by simp;omega)] at hb
       simp at hb

theorem QbX {es:List (List Nat)}{i j:Nat}(h:((Qde es).getD i 0).testBit j=true){X:List Nat}(hX:Q7n es X) (he:∀e∈es.getD i [],e∈X):j∈X:=
 Q95 es es [] [] rfl rfl (by intro i j h;simp at h) i j h X hX he

section
variable (P:Program) (gs:List GO)

def gat (i:Nat):GO:=gs.getD i GO.nop

def Qdc (Q:QT):QT:=fun e _ w'=>∀ρ'',Q e ρ'' w'

def Q1w:List CI→QT→Env→World→Prop
 | [],Q,ρ,w=>Q .normal ρ w
 | (i,none)::rest,Q,ρ,w=>Q0 P [gat gs i] (QB (Q1w rest Q) Q) ρ w
 | (i,some none)::rest,Q,ρ,w=>Q0 P [gat gs i] (QB (Q1w rest Q) Q) ρ w
 | (i,some (some fl))::rest,Q,ρ,w=>
   Q0 P [gat gs i] (QB (fun ρ' w'=>(∀q∈fl,gqv P ρ w' (gat gs q) (ρ ((gat gs q).dst.getD 0)))∧Q1w rest Q ρ' w') (Qdc Q)) ρ w
end

def Qc4 (a b:GO):Bool:=(match b.dst with|some d=> !a.uses.contains d && !(a.dst==some d)|none=>true)
def Q7H (a b:GO):Bool:=(match a.dst with|some d=> !b.uses.contains d|none=>true)

def Q3M (gs:List GO) (ms:List Nat) (a b:CI):Bool:=
 let r:=(ms.getD b.1 0).testBit a.1
 match a.2,b.2 with
 | none,some none=>r
 | none,some (some fl)=>r||((fl.contains a.1||(gat gs a.1).o.pureQ) && Qc4 (gat gs a.1) (gat gs b.1) && Q7H (gat gs a.1) (gat gs b.1))
 | some _,_=>r
 | none,none=>Qc4 (gat gs a.1) (gat gs b.1) && (r||Q7H (gat gs a.1) (gat gs b.1))

def Q8i (gs:List GO) (a:CI):Bool:=decide (a.1<gs.length) && (match a.2 with
 | none=>(gat gs a.1).o.quiet && (match (gat gs a.1).dst with|some d=> !(gat gs a.1).uses.contains d|none=>false)
 | some _=>(gat gs a.1).o.takes)

def Q30 (gs:List GO) (ms:List Nat):List CI→Bool
 | []=>true
 | a::l=>Q8i gs a && l.all (fun b=>Q3M gs ms a b && !(a.1==b.1)) && Q30 gs ms l

def Q7k (gs:List GO) (es:List (List Nat)) (C:List CI):Bool:=
 decide (es.length=gs.length) && Q30 gs (Qde es) C && (List.range gs.length).all fun i=>(C.map (·.1)).contains i

structure J (P:Program) (gs:List GO) (es:List (List Nat)) (C:List CI) (Q:QT) (X:List Nat) (ρS:Env) (w:World) (D rest:List CI) (ρC:Env):Prop where
 hC:C=D++rest
 hX1:∀i∈X,∃k,(i,k)∈D
 hX2:∀c∈D,c.2.isSome=true→c.1∈X
 hcl:Q7n es X
 hslot:∀s,(∀c∈D,c.1∉X→(gat gs c.1).dst≠some s)→ρS s=ρC s
 hpend:∀c∈D,c.1∉X→gqv P ρC w (gat gs c.1) (ρC ((gat gs c.1).dst.getD 0))
 hcan:Q1w P gs rest Q ρC w

theorem Q24 {gs:List GO}{ms:List Nat}:∀{D rest:List CI},Q30 gs ms (D++rest)=true→∀a∈D,∀b∈rest,Q3M gs ms a b=true∧a.1≠b.1:=by
 intro D
 induction D with
 | nil=>intro rest _ a ha;cases ha
 | cons c D ih=>
   intro rest h a ha b hb
   simp only [List.cons_append,Q30,Bool.and_eq_true] at h
   rcases List.mem_cons.1 ha with rfl|ha
   · have:=List.all_eq_true.1 h.1.2 b (by simp [hb])
     simp only [Bool.and_eq_true,Bool.not_eq_true',beq_eq_false_iff_ne] at this
     exact this
   · exact ih h.2 a ha b hb

theorem Q3m {gs:List GO}{ms:List Nat}:∀{C:List CI},Q30 gs ms C=true→∀a∈C,Q8i gs a=true:=by
 intro C
 induction C with
 | nil=>intro _ a ha;cases ha
 | cons c C ih=>
   intro h a ha
   simp only [Q30,Bool.and_eq_true] at h
   rcases List.mem_cons.1 ha with rfl|ha
   · exact h.1.1
   · exact ih h.2 a ha

theorem pairsOk_two {gs:List GO}{ms:List Nat}:∀{C:List CI},Q30 gs ms C=true→∀a∈C,∀b∈C,a=b∨(Q3M gs ms a b=true∧a.1≠b.1)∨(Q3M gs ms b a=true∧b.1≠a.1):=by
 intro C
 induction C with
 | nil=>intro _ a ha;cases ha
 | cons c C ih=>
   intro h a ha b hb
   simp only [Q30,Bool.and_eq_true] at h
   have hall:∀x∈C,Q3M gs ms c x=true∧c.1≠x.1:=by
    intro x hx
    have:=List.all_eq_true.1 h.1.2 x hx
    simpa [Bool.and_eq_true] using this
   rcases List.mem_cons.1 ha with hac|ha
   · rcases List.mem_cons.1 hb with hbc|hb
     · exact .inl (hac.trans hbc.symm)
     · rw [hac];exact .inr (.inl (hall b hb))
   · rcases List.mem_cons.1 hb with hbc|hb
     · rw [hbc];exact .inr (.inr (hall a ha))
     · exact ih h.2 a ha b hb

theorem Q5D {a b:GO}(h:Qc4 a b=true){d:Nat}(hd:b.dst=some d):d∉a.uses∧a.dst≠some d:=by
 unfold Qc4 at h
 rw [hd] at h
 simp only [Bool.and_eq_true,Bool.not_eq_true',List.contains_eq_mem,decide_eq_false_iff_not,beq_eq_false_iff_ne] at h
 exact h
theorem Q6q {a b:GO}(h:Q7H a b=true){d:Nat}(hd:a.dst=some d):d∉b.uses:=by
 unfold Q7H at h
 rw [hd] at h
 simpa using h

theorem Q1J {ρ:Env}{d:Option Nat}{v:Value}{s:Nat}(h:d≠some s):updo ρ d v s=ρ s:=by
 cases d with
 | none=>rfl
 | some d=>
   have:s≠d:=fun e=>h (by rw [e])
   simp only [updo,upd]
   cases hb:Nat.beq s d
   · rfl
   · exact absurd (Nat.eq_of_beq_eq_true hb) this
theorem Q4M {ρ:Env}{v:Value}{s:Nat}:updo ρ (some s) v s=v:=by
 simp [updo,upd,Nat.beq_refl]

theorem J.advance {P:Program}{gs:List GO}{es:List (List Nat)}{C:List CI}{Q:QT}{X:List Nat}{ρS:Env}{w:World}(hok:Q30 gs (Qde es) C=true):
 ∀(rest D:List CI) (ρC:Env),J P gs es C Q X ρS w D rest ρC→∃D' rest' ρC',J P gs es C Q X ρS w D' rest' ρC'∧(rest'=[]∨∃f fl r,rest'=(f,some fl)::r):=by
 intro rest
 induction rest with
 | nil=>intro D ρC h;exact ⟨D,[],ρC,h, .inl rfl⟩
 | cons c rest ih=>
   intro D ρC h
   obtain ⟨i,k⟩:=c
   cases k with
   | some fl=>exact ⟨D,_,ρC,h, .inr ⟨i,fl,rest,rfl⟩⟩
   | none=>
     have hiC:(i,none)∈C:=by rw [h.hC];simp
     have h1:=Q3m hok _ hiC
     simp only [Q8i,Bool.and_eq_true] at h1
     obtain ⟨_,hq,hd⟩:=h1
     cases hdst:(gat gs i).dst with
     | none=>simp [hdst] at hd
     | some d=>
       simp only [hdst,Bool.not_eq_true',List.contains_eq_mem,decide_eq_false_iff_not] at hd
       have hcan:=h.hcan
       simp only [Q1w] at hcan
       obtain ⟨v,hv,hcan⟩:=(Q6E hq).1 hcan
       simp only [Q0,QB] at hcan
       have hsplit:=Q24 (D:=D) (rest:=(i,none)::rest) (by rw [←h.hC];exact hok)
       have hiX:i∉X:=by
        intro hx
        obtain ⟨k,hk⟩:=h.hX1 i hx
        exact (hsplit _ hk (i,none) (by simp)).2 rfl
       -- what is pending ahead of i
       have hind:∀c∈D,c.1∉X→d∉(gat gs c.1).uses∧(gat gs c.1).dst≠some d:=by
        intro c hc hcX
        have hp:=(hsplit c hc (i,none) (by simp)).1
        have hcn:c.2=none:=by
         cases hk:c.2 with
         | none=>rfl
         | some fl=>exact absurd (h.hX2 c hc (by simp [hk])) hcX
        simp only [Q3M,hcn,Bool.and_eq_true] at hp
        exact Q5D hp.1 hdst
       refine ih (D++[(i,none)]) (updo ρC (gat gs i).dst v) ?_
       refine ⟨by rw [h.hC];simp,?_,?_,h.hcl,?_,?_,hcan⟩
       · intro j hj;obtain ⟨k,hk⟩:=h.hX1 j hj;exact ⟨k,by simp [hk]⟩
       · intro c hc hs
         rcases List.mem_append.1 hc with hc|hc
         · exact h.hX2 c hc hs
         · simp only [List.mem_singleton] at hc;subst hc;simp at hs
       · intro s hs
         have hds:(gat gs i).dst≠some s:=hs (i,none) (by simp) hiX
         rw [Q1J hds]
         exact h.hslot s fun c hc=>hs c (by simp [hc])
       · intro c hc hcX
         rcases List.mem_append.1 hc with hc|hc
         · obtain ⟨h2,h3⟩:=hind c hc hcX
           have he:∀s∈(gat gs c.1).uses,ρC s=updo ρC (gat gs i).dst v s:=by
            intro s hs
            rw [Q1J]
            rw [hdst]
            intro e
            simp only [Option.some.injEq] at e
            subst e;exact h2 hs
           have hdc:updo ρC (gat gs i).dst v ((gat gs c.1).dst.getD 0)=ρC ((gat gs c.1).dst.getD 0):=by
            rw [Q1J]
            rw [hdst]
            intro e
            simp only [Option.some.injEq] at e
            have hcC:=Q3m hok c (by rw [h.hC];simp [hc])
            have hcn:c.2=none:=by
             cases hk:c.2 with
             | none=>rfl
             | some fl=>exact absurd (h.hX2 c hc (by simp [hk])) hcX
            simp only [Q8i,hcn,Bool.and_eq_true] at hcC
            cases hdc:(gat gs c.1).dst with
            | none=>simp [hdc] at hcC
            | some d'=>rw [hdc] at e h3;simp at e;subst e;exact h3 rfl
           rw [hdc]
           exact Q50 he (h.hpend c hc hcX)
         · simp only [List.mem_singleton] at hc
           subst hc
           have he:∀s∈(gat gs i).uses,ρC s=updo ρC (gat gs i).dst v s:=by
            intro s hs
            rw [Q1J]
            rw [hdst]
            intro e
            simp only [Option.some.injEq] at e
            subst e;exact hd hs
           have hval:updo ρC (gat gs i).dst v ((gat gs i).dst.getD 0)=v:=by rw [hdst];exact Q4M
           simp only [hval]
           exact Q50 he hv

theorem QdF {P:Program}{gs:List GO}{es:List (List Nat)}{C:List CI}{Q:QT}(hlen:es.length=gs.length) (hok:Q30 gs (Qde es) C=true) (hall:∀i,i<gs.length→∃k,(i,k)∈C):
 ∀(l X:List Nat) (ρS:Env) (w:World) (D rest:List CI) (ρC:Env),Lin es X l→J P gs es C Q X ρS w D rest ρC→Q0 P (l.map (gat gs)) Q ρS w:=by
 intro l
 induction l with
 | nil=>
   intro X ρS w D rest ρC hl hJ
   obtain ⟨D,rest,ρC,hJ,hr⟩:=J.advance hok rest D ρC hJ
   simp only [Lin] at hl
   have hX:∀i,i<gs.length→i∈X:=fun i hi=>hl i (by omega)
   have hone:=Q3m hok
   have hrest:rest=[]:=by
    rcases hr with hr|⟨f,fl,r,hr⟩
    · exact hr
    · exfalso
      have hf:=hone (f,some fl) (by rw [hJ.hC,hr];simp)
      simp only [Q8i,Bool.and_eq_true,decide_eq_true_eq] at hf
      obtain ⟨k,hk⟩:=hJ.hX1 f (hX f hf.1)
      exact (Q24 (D:=D) (rest:=rest) (by rw [←hJ.hC];exact hok) _ hk (f,some fl) (by rw [hr];simp)).2 rfl
   have hpe:ρS=ρC:=funext fun s=>hJ.hslot s fun c hc hcX=>by
    have hf:=hone c (by rw [hJ.hC];simp [hc])
    simp only [Q8i,Bool.and_eq_true,decide_eq_true_eq] at hf
    exact absurd (hX c.1 hf.1) hcX
   have hcan:=hJ.hcan
   rw [hrest] at hcan
   simp only [Q1w] at hcan
   rw [hpe]
   exact hcan
 | cons i l ih=>
   intro X ρS w D rest ρC hl hJ
   obtain ⟨D,rest,ρC,hJ,hr⟩:=J.advance hok rest D ρC hJ
   simp only [Lin] at hl
   obtain ⟨hil,hiX,hie,hl⟩:=hl
   obtain ⟨k,hiC⟩:=hall i (by omega)
   have hone:=Q3m hok
   have hcl':Q7n es (i::X):=by
    intro j hj e he
    rcases List.mem_cons.1 hj with rfl|hj
    · exact List.mem_cons.2 (.inr (hie e he))
    · exact List.mem_cons.2 (.inr (hJ.hcl j hj e he))
   have hanc:∀j,((Qde es).getD i 0).testBit j=true→j∈X:=fun j hj=>QbX hj hJ.hcl hie
   have hpq:∀c∈D,c.1∉X→c.2=none:=by
    intro c hc hcX
    cases hk:c.2 with
    | none=>rfl
    | some fl=>exact absurd (hJ.hX2 c hc (by simp [hk])) hcX
   rw [hJ.hC] at hiC
   simp only [List.map_cons]
   rcases List.mem_append.1 hiC with hiD|hiR
   · -- it was done in the canonical run
     have hkn:k=none:=hpq (i,k) hiD hiX
     subst hkn
     have ho:=hone (i,none) (by rw [hJ.hC];simp [hiD])
     simp only [Q8i,Bool.and_eq_true] at ho
     obtain ⟨_,hq,hd⟩:=ho
     have hp:=hJ.hpend (i,none) hiD hiX
     simp only at hp
     cases hdst:(gat gs i).dst with
     | none=>simp [hdst] at hd
     | some d=>
       simp only [hdst,Bool.not_eq_true',List.contains_eq_mem,decide_eq_false_iff_not] at hd
       rw [hdst,Option.getD_some] at hp
       have huse:∀s∈(gat gs i).uses,ρC s=ρS s:=by
        intro s hs
        refine (hJ.hslot s fun c hc hcX hcd=>?_).symm
        have hcn:=hpq c hc hcX
        have hcC:c∈C:=by rw [hJ.hC];simp [hc]
        have hiC':(i,none)∈C:=by rw [hJ.hC];simp [hiD]
        rcases pairsOk_two hok c hcC (i,none) hiC' with rfl|⟨h1,_⟩|⟨h1,_⟩
        · rw [hdst] at hcd;simp only [Option.some.injEq] at hcd;subst hcd;exact hd hs
        · simp only [Q3M,hcn,Bool.and_eq_true,Bool.or_eq_true] at h1
          rcases h1.2 with h2|h2
          · exact hcX (hanc _ h2)
          · exact Q6q h2 hcd hs
        · simp only [Q3M,hcn,Bool.and_eq_true] at h1
          exact (Q5D h1.1 hcd).1 hs
       refine (Q6E hq).2 ⟨ρC d,Q50 huse hp,?_⟩
       refine ih (i::X) _ w D rest ρC hl ⟨hJ.hC,?_,?_,hcl',?_,?_,hJ.hcan⟩
       · intro j hj
         rcases List.mem_cons.1 hj with rfl|hj
         · exact ⟨none,hiD⟩
         · exact hJ.hX1 j hj
       · intro c hc hs;exact List.mem_cons.2 (.inr (hJ.hX2 c hc hs))
       · intro s hs
         by_cases hsd:s=d
         · subst hsd;rw [hdst,Q4M]
         · rw [Q1J (by rw [hdst];intro e;simp only [Option.some.injEq] at e;exact hsd e.symm)]
           refine hJ.hslot s fun c hc hcX=>?_
           by_cases hci:c.1=i
           · rw [hci,hdst];intro e;simp only [Option.some.injEq] at e;exact hsd e.symm
           · exact hs c hc (by simp [hci,hcX])
       · intro c hc hcX
         exact hJ.hpend c hc fun h=>hcX (List.mem_cons.2 (.inr h))
   · -- it stands ahead:it is the next one
     rcases hr with hr|⟨f,fl,r,hr⟩
     · rw [hr] at hiR;cases hiR
     · subst hr
       have hfX:f∉X:=by
        intro hx
        obtain ⟨k',hk'⟩:=hJ.hX1 f hx
        exact (Q24 (D:=D) (rest:=(f,some fl)::r) (by rw [←hJ.hC];exact hok) _ hk' (f,some fl) (by simp)).2 rfl
       have hif:(i,k)=(f,some fl):=by
        rcases List.mem_cons.1 hiR with h|h
        · exact h
        · exfalso
          have hsp:=Q24 (D:=D++[(f,some fl)]) (rest:=r) (by rw [hJ.hC] at hok;simpa using hok)
          have hp:=(hsp (f,some fl) (by simp) (i,k) h).1
          simp only [Q3M] at hp
          exact hfX (hanc f hp)
       simp only [Prod.mk.injEq] at hif
       obtain ⟨rfl,rfl⟩:=hif
       have ho:=hone (i,some fl) (by rw [hJ.hC];simp)
       simp only [Q8i,Bool.and_eq_true] at ho
       have hsp:=Q24 (D:=D) (rest:=(i,some fl)::r) (by rw [←hJ.hC];exact hok)
       -- behind the fenced operation
       have done:∀(v:Value) (w':World),(∀c∈D,c.1∉X→(Qc4 (gat gs c.1) (gat gs i)=true∧Q7H (gat gs c.1) (gat gs i)=true)∧gqv P ρC w' (gat gs c.1) (ρC ((gat gs c.1).dst.getD 0)))→
        Q1w P gs r Q (updo ρC (gat gs i).dst v) w'→Q0 P (l.map (gat gs)) Q (updo ρS (gat gs i).dst v) w':=by
        intro v w' hst hk
        refine ih (i::X) _ w' (D++[(i,some fl)]) r _ hl ⟨by rw [hJ.hC];simp,?_,?_,hcl',?_,?_,hk⟩
        · intro j hj
          rcases List.mem_cons.1 hj with rfl|hj
          · exact ⟨some fl,by simp⟩
          · obtain ⟨k,hk⟩:=hJ.hX1 j hj;exact ⟨k,by simp [hk]⟩
        · intro c hc hs
          rcases List.mem_append.1 hc with hc|hc
          · exact List.mem_cons.2 (.inr (hJ.hX2 c hc hs))
          · simp only [List.mem_singleton] at hc;subst hc;simp
        · intro s hs
          by_cases hsd:(gat gs i).dst=some s
          · rw [hsd,Q4M,Q4M]
          · rw [Q1J hsd,Q1J hsd]
            refine hJ.hslot s fun c hc hcX=>hs c (by simp [hc]) ?_
            intro hm
            rcases List.mem_cons.1 hm with h|h
            · exact (hsp c hc (i,some fl) (by simp)).2 h
            · exact hcX h
        · intro c hc hcX
          rcases List.mem_append.1 hc with hc|hc
          · have hcX':c.1∉X:=fun h=>hcX (List.mem_cons.2 (.inr h))
            obtain ⟨⟨h2,h3⟩,hs⟩:=hst c hc hcX'
            have hcC:=hone c (by rw [hJ.hC];simp [hc])
            simp only [Q8i,hpq c hc hcX',Bool.and_eq_true] at hcC
            have hind:∀s,((s∈(gat gs c.1).uses)∨(gat gs c.1).dst=some s)→(gat gs i).dst≠some s:=by
             intro s hs hd
             have:=Q5D h2 hd
             rcases hs with hs|hs
             · exact this.1 hs
             · exact this.2 hs
            have hdc:updo ρC (gat gs i).dst v ((gat gs c.1).dst.getD 0)=ρC ((gat gs c.1).dst.getD 0):=by
             cases hd:(gat gs c.1).dst with
             | none=>simp [hd] at hcC
             | some d'=>rw [Q1J (hind _ (.inr (by rw [hd];rfl)))]
            rw [hdc]
            exact Q50 (fun s hs=>(Q1J (hind s (.inl hs))).symm) hs
          · simp only [List.mem_singleton] at hc
            subst hc
            exact absurd (List.mem_cons.2 (.inl rfl)) hcX
       have hcan:=hJ.hcan
       cases fl with
       | none=>
         have hnone:∀c∈D,¬(c.1∉X):=by
          intro c hc hcX
          have hp:=(hsp c hc (i,some none) (by simp)).1
          simp only [Q3M,hpq c hc hcX] at hp
          exact hcX (hanc _ hp)
         have hpe:ρS=ρC:=funext fun s=>hJ.hslot s fun c hc hcX=>absurd hcX (hnone c hc)
         simp only [Q1w] at hcan
         refine Q6I ho.2 (fun s hs=>by rw [hpe]) ?_ ?_ hcan
         · intro v w' hk
           simp only [Q0,QB] at hk
           exact done v w' (fun c hc hcX=>absurd hcX (hnone c hc)) hk
         · intro e w' hne hq
           rw [hpe]
           cases e<;>first|exact hq|exact absurd rfl hne
       | some fl=>
         simp only [Q1w] at hcan
         have hfloat:∀c∈D,c.1∉X→(c.1∈fl∨(gat gs c.1).o.pureQ=true)∧Qc4 (gat gs c.1) (gat gs i)=true∧Q7H (gat gs c.1) (gat gs i)=true:=by
          intro c hc hcX
          have hp:=(hsp c hc (i,some (some fl)) (by simp)).1
          simp only [Q3M,hpq c hc hcX,Bool.or_eq_true,Bool.and_eq_true] at hp
          rcases hp with hp|⟨⟨h1,h2⟩,h3⟩
          · exact absurd (hanc _ hp) hcX
          · exact ⟨h1.imp (by simp) id,h2,h3⟩
         refine Q6I ho.2 (fun s hs=>(hJ.hslot s fun c hc hcX hcd=>Q6q (hfloat c hc hcX).2.2 hcd hs).symm) ?_ ?_ hcan
         · intro v w' hk
           simp only [Q0,QB] at hk
           obtain ⟨hst,hk⟩:=hk
           refine done v w' (fun c hc hcX=>?_) hk
           obtain ⟨h1,h2,h3⟩:=hfloat c hc hcX
           refine ⟨⟨h2,h3⟩,?_⟩
           rcases h1 with h1|h1
           · exact hst c.1 h1
           · exact gqv_pure h1 (hJ.hpend c hc hcX)
         · intro e w' hne hq
           have hq':Qdc Q e ρC w':=by cases e<;>first|exact hq|exact absurd rfl hne
           exact hq' ρS

theorem Q7X {P:Program}{gs:List GO}{es:List (List Nat)}{Q:QT}{ρ:Env}{w:World}(C:List CI) (hok:Q7k gs es C=true) (h:Q1w P gs C Q ρ w.drew):(LC.draw gs es).wp P Q ρ w:=by
 simp only [Q7k,Bool.and_eq_true,decide_eq_true_eq] at hok
 obtain ⟨⟨hlen,hp⟩,hall⟩:=hok
 intro l hl
 refine QdF hlen hp ?_ l [] ρ w.drew [] C ρ hl ⟨by simp,(by simp),(by simp),(fun k hk=>absurd hk (by simp)),(fun s _=>rfl),(by simp),h⟩
 intro i hi
 have:=List.all_eq_true.1 hall i (by simpa using hi)
 simp only [List.contains_eq_mem,decide_eq_true_eq,List.mem_map] at this
 obtain ⟨⟨j,k⟩,hc,rfl⟩:=this
 exact ⟨k,hc⟩

theorem QaD {P:Program}{gs:List GO}{Q:QT}:∀(C:List CI),(C.all fun c=>match c.2 with|some (some _)=>false|_=>true)=true→∀ρ w,Q0 P (C.map fun c=>gat gs c.1) Q ρ w→Q1w P gs C Q ρ w:=by
 intro C
 induction C with
 | nil=>intro _ ρ w h;exact h
 | cons c C ih=>
   intro hc ρ w h
   simp only [List.all_cons,Bool.and_eq_true] at hc
   obtain ⟨i,k⟩:=c
   have key:∀{g:GO}{l:List GO}{K:KT} {ρ w},(∀ρ w,Q0 P l Q ρ w→K ρ w)→Q0 P (g::l) Q ρ w→Q0 P [g] (QB K Q) ρ w:=by
    intro g l K ρ w hk h
    have hwp:∀{o:LO} {ρ w},o.wp P ρ w (Q0 P l Q) Q→o.wp P ρ w (Q0 P [] (QB K Q)) (QB K Q):=by
     intro o ρ w h
     exact Q4L (fun ρ w h=>hk ρ w h) (fun e ρ w hne h=>by cases e<;>first|exact h|exact absurd rfl hne) h
    obtain ⟨g,o⟩:=g
    cases g with
    | none=>exact hwp h
    | some p=>
      obtain ⟨s,b⟩:=p
      simp only [Q0] at h ⊢
      split
      · rename_i hg;rw [if_pos hg] at h;exact hwp h
      · rename_i hg;rw [if_neg hg] at h;exact hk _ _ h
   simp only [List.map_cons] at h
   cases k with
   | none=>exact key (fun ρ w h=>ih hc.2 ρ w h) h
   | some fl=>
     cases fl with
     | some fl=>simp at hc
     | none=>exact key (fun ρ w h=>ih hc.2 ρ w h) h

theorem Qca {P:Program}{gs:List GO}{es:List (List Nat)}{Q:QT}{ρ:Env}{w:World}(C:List CI) (hok:Q7k gs es C=true)
 (hpl:(C.all fun c=>match c.2 with|some (some _)=>false|_=>true)=true) (h:Q0 P (C.map fun c=>gat gs c.1) Q ρ w.drew):(LC.draw gs es).wp P Q ρ w:=
 Q7X C hok (QaD C hpl _ _ h)

end Go.Lir
namespace Go.Lir
open Go.RowKit (Below)

abbrev Heap:=Array Obj

def Blk (H:Heap) (b:Nat) (T:TypeId) (cs:List Value):Prop:=∃fz,H[b]?=some (.cells ⟨cs⟩ T fz)∧(∀i,fz.1≤i→i<fz.2→cs.length≤i)∧fz.1≤fz.2

structure Fr (F:Nat→Prop) (w w':World):Prop where
 os:w'.os=w.os
 tape:w'.tape=w.tape
 output:w'.output=w.output
 size:w.heap.size≤w'.heap.size
 same:∀b,b<w.heap.size→¬F b→w'.heap[b]?=w.heap[b]?

abbrev NF:Nat→Prop:=fun _=>False

theorem Fr.refl (F:Nat→Prop) (w:World):Fr F w w:=⟨rfl,rfl,rfl,Nat.le_refl _,fun _ _ _=>rfl⟩
theorem Fr.drew {F:Nat→Prop}{w w':World}(h:Fr F w.drew w'):Fr F w w':=⟨h.os,h.tape,h.output,h.size,h.same⟩
theorem Fr.drew' {F:Nat→Prop}{w w':World}(h:Fr F w w'):Fr F w w'.drew:=⟨h.os,h.tape,h.output,h.size,h.same⟩
theorem Fr.mono {F G:Nat→Prop}{w w':World}(h:Fr F w w') (hs:∀b,b<w.heap.size→F b→G b):Fr G w w':=
 ⟨h.os,h.tape,h.output,h.size,fun b hb hg=>h.same b hb fun hf=>hg (hs b hb hf)⟩
theorem Fr.trans {F G:Nat→Prop}{w w' w'':World}(h:Fr F w w') (k:Fr G w' w'') (hs:∀b,b<w.heap.size→G b→F b):Fr F w w'':=
 ⟨k.os.trans h.os,k.tape.trans h.tape,k.output.trans h.output,Nat.le_trans h.size k.size,fun b hb hf=>
   (k.same b (Nat.lt_of_lt_of_le hb h.size) fun hg=>hf (hs b hb hg)).trans (h.same b hb hf)⟩
theorem Fr.below {w w':World}(h:Fr NF w w'):Below w.heap.size w w':=⟨h.os,h.tape,h.output,h.size,fun k hk=>h.same k hk (fun h=>h)⟩
theorem Fr.any {F:Nat→Prop}{w w':World}(h:Fr NF w w'):Fr F w w':=h.mono fun _ _ h=>h.elim

theorem Blk.lt {H:Heap}{b:Nat}{T:TypeId}{cs:List Value}(h:Blk H b T cs):b<H.size:=by
 obtain ⟨fz,h,_⟩:=h
 rcases Nat.lt_or_ge b H.size with h'|h'
 · exact h'
 · simp [Array.getElem?_eq_none h'] at h
theorem Blk.of_same {H H':Heap}{b:Nat}{T:TypeId}{cs:List Value}(h:Blk H b T cs) (he:H'[b]?=H[b]?):Blk H' b T cs:=by
 obtain ⟨fz,h,h2⟩:=h;exact ⟨fz,he.trans h,h2⟩
theorem Blk.fr {F:Nat→Prop}{w w':World}{b:Nat}{T:TypeId}{cs:List Value}(h:Blk w.heap b T cs) (hf:Fr F w w') (hn:¬F b):Blk w'.heap b T cs:=
 h.of_same (hf.same b h.lt hn)
theorem Blk.inj {H:Heap}{b:Nat}{T T':TypeId}{cs cs':List Value}(h:Blk H b T cs) (h':Blk H b T' cs'):T=T'∧cs=cs':=by
 obtain ⟨fz,h,_⟩:=h
 obtain ⟨fz',h',_⟩:=h'
 rw [h] at h'
 simp only [Option.some.injEq,Obj.cells.injEq,Array.mk.injEq] at h'
 exact ⟨h'.2.1,h'.1⟩
theorem Blk.cell {w:World}{b:Nat}{T:TypeId}{cs:List Value}{i:Nat}{v:Value}(h:Blk w.heap b T cs) (hv:cs[i]?=some v):w.cell? ⟨b,i,none⟩=some v:=by
 obtain ⟨fz,h,_⟩:=h
 simp [World.cell?,h,hv]
theorem Blk.free {w:World}{b:Nat}{T:TypeId}{cs:List Value}{i:Nat}(h:Blk w.heap b T cs) (hi:i<cs.length):w.frozen? ⟨b,i,none⟩=false:=by
 obtain ⟨⟨lo,hi'⟩,h,h2⟩:=h
 simp only [World.frozen?,h]
 have:=h2.1 i
 simp only at this
 simp only [Bool.and_eq_false_iff,decide_eq_false_iff_not]
 omega

theorem Q1s (b o n:Nat):(Addr.mk b o none).add n=⟨b,o+n,none⟩:=by
 unfold Addr.add;split
 · rename_i h;subst h;rfl
 · rfl

theorem Blk.cells {w:World}{b:Nat}{T:TypeId}{cs vs:List Value}{o n:Nat}(h:Blk w.heap b T cs) (hv:(cs.drop o).take n=vs) (hl:vs.length=n):Q42 w ⟨b,o,none⟩ n vs:=by
 refine ⟨hl,fun j hj=>?_⟩
 rw [Q1s]
 have:vs[j]?=cs[o+j]?:=by rw [←hv,List.getElem?_take_of_lt hj,List.getElem?_drop]
 rw [this]
 have hlt:o+j<cs.length:=by
  have h1:vs.length=min n (cs.length - o):=by rw [←hv];simp
  omega
 rw [List.getElem?_eq_getElem hlt]
 exact h.cell (List.getElem?_eq_getElem hlt)

theorem Q4h (w:World) (b i:Nat) (v:Value):Fr (· =b) w (w.setCell ⟨b,i,none⟩ v):=by
 refine ⟨rfl,rfl,rfl,by simp,fun k _ hk=>?_⟩
 simp only [World.setCell,Array.getElem?_modify]
 rw [if_neg (fun e=>hk e.symm)]
theorem Blk.set {w:World}{b:Nat}{T:TypeId}{cs:List Value}{i:Nat}{v:Value}(h:Blk w.heap b T cs):Blk (w.setCell ⟨b,i,none⟩ v).heap b T (cs.set i v):=by
 obtain ⟨fz,h,h2⟩:=h
 refine ⟨fz,?_,by simpa using h2.1,h2.2⟩
 simp only [World.setCell,Array.getElem?_modify,h,if_true,Option.map_some,Option.isSome_none]
 simp

theorem Q3s (w:World) (o:Obj):Fr NF w (w.alloc o):=by
 refine ⟨rfl,rfl,rfl,by simp,fun k hk _=>?_⟩
 simp only [World.alloc,Array.getElem?_push]
 rw [if_neg (by omega)]
theorem Q3c (w:World) (cs:List Value) (T:TypeId):Blk (w.alloc (.cells ⟨cs⟩ T)).heap w.heap.size T cs:=by
 refine ⟨(0,0),?_,⟨fun i h1 h2=>by simp at h2,by simp⟩⟩
 show (w.heap.push _)[w.heap.size]?=_
 simp

theorem Q4p (P:Program) (b:Nat) (T:TypeId):∀(vs:List Value) (w:World) (cs:List Value) (o i:Nat),Blk w.heap b T cs→o+i+vs.length≤cs.length→(∀v∈vs,oneC v=true)→
 ∃w',(storeCells ⟨b,o,none⟩ vs i).run P w= .ok () w'∧Fr (· =b) w w'∧w'.heap.size=w.heap.size∧Blk w'.heap b T (cs.take (o+i)++(vs++cs.drop (o+i+vs.length))):=by
 intro vs
 induction vs with
 | nil=>intro w cs o i h _ _;exact ⟨w,by simp [storeCells],Fr.refl _ _,rfl,by simpa using h⟩
 | cons v vs ih=>
   intro w cs o i h hl ho
   simp only [List.length_cons] at hl
   have h1:=ho v (by simp)
   have h1':v.oneCell'=true:=by cases v<;>simp_all [Value.oneCell',oneC]
   have hc:w.cell? ⟨b,o+i,none⟩=some (cs[o+i]'(by omega)):=h.cell (List.getElem?_eq_getElem (by omega))
   have hf:=h.free (w:=w) (i:=o+i) (by omega)
   obtain ⟨w',h2,h3,h4,h5⟩:=ih (w.setCell ⟨b,o+i,none⟩ v) (cs.set (o+i) v) o (i+1) h.set (by simp;omega) (fun x hx=>ho x (by simp [hx]))
   refine ⟨w',?_,(Q4h w b (o+i) v).trans h3 (fun _ _ h=>h),h4.trans (by simp),?_⟩
   · simp only [storeCells,Sem.run_bind,Q1s,run_store P w _ _ .plain h1',hc,hf,Bool.false_eq_true,if_false,Result.andThen_ok]
     exact h2
   · have e:cs.take (o+i)++(v::vs++cs.drop (o+i+(v::vs).length))=(cs.set (o+i) v).take (o+(i+1))++(vs++(cs.set (o+i) v).drop (o+(i+1)+vs.length)):=by
      have hlt:o+i<cs.length:=by omega
      rw [List.set_eq_take_append_cons_drop,if_pos hlt]
      have hm:(cs.take (o+i)).length=o+i:=by simp;omega
      have e1:List.take (o+(i+1)) (cs.take (o+i)++v::cs.drop (o+i+1))=cs.take (o+i)++[v]:=by
       rw [List.take_append,hm,List.take_of_length_le (by omega),show o+(i+1) - (o+i)=1 by omega];rfl
      have e2:List.drop (o+(i+1)+vs.length) (cs.take (o+i)++v::cs.drop (o+i+1))=cs.drop (o+i+(v::vs).length):=by
       rw [List.drop_append,hm,List.drop_of_length_le (by omega),show o+(i+1)+vs.length - (o+i)=vs.length+1 by omega]
       simp [Nat.add_comm,Nat.add_left_comm,Nat.add_assoc]
      rw [e1,e2];simp
     rw [e];exact h5

end Go.Lir
namespace Go.Lir

def updl (ρ:Env):List (Nat×Value)→Env
 | []=>ρ
 | (i,v)::l=>upd (updl ρ l) i v
def Has (ρ:Env):List (Nat×Value)→Prop
 | []=>True
 | (i,v)::l=>ρ i=v∧Has ρ l

theorem upd_self {ρ:Env}{i:Nat}{v:Value}(h:ρ i=v):upd ρ i v=ρ:=by
 funext j
 unfold upd
 cases hb:Nat.beq j i
 · rfl
 · have:=Nat.eq_of_beq_eq_true hb;subst this;exact h.symm
theorem Q8O {ρ:Env}:∀{l:List (Nat×Value)},Has ρ l→updl ρ l=ρ:=by
 intro l
 induction l with
 | nil=>intro _;rfl
 | cons p l ih=>obtain ⟨i,v⟩:=p;rintro ⟨h1,h2⟩;simp only [updl,ih h2,upd_self h1]
theorem Q4K {n:Int}(h1: -9223372036854775808≤n) (h2:n≤9223372036854775807):IntKind.i64.wrap n=n:=by
 have e:IntKind.i64.wrap n=if n % 18446744073709551616≥9223372036854775808 then n % 18446744073709551616 - 18446744073709551616 else n % 18446744073709551616:=by
  unfold IntKind.wrap
  simp [IntKind.bits,IntKind.signed]
 rw [e]
 split<;>omega

section
variable {P:Program}{l:List GO}{Q:QT}{K:KT}{ρ:Env}{w:World}

theorem s_nil (h:Q .normal ρ w):Q0 P [] Q ρ w:=h
theorem Q1z {l:List GO}(h:Q0 P l Q ρ w):(LC.ops l).wp P Q ρ w:=h
theorem QJ {a b:LC}(h:a.wp P (QB (b.wp P Q) Q) ρ w):(LC.seq a b).wp P Q ρ w:=h
theorem s_skip (h:Q .normal ρ w):LC.skip.wp P Q ρ w:=h
theorem s_ret (h:Q .ret ρ w):LC.ret.wp P Q ρ w:=h
theorem s_exit {id:Nat}(h:Q (.exit id) ρ w):(LC.exit id).wp P Q ρ w:=h
theorem Q3F {id:Nat}{a:LC}(h:a.wp P (QH id Q) ρ w):(LC.block id a).wp P Q ρ w:=h
theorem Q5O {c:Operand}{a b:LC}{t:Bool}(hc:ρ.ev c= .bool t) (h1:t=true→a.wp P Q ρ w) (h2:t=false→b.wp P Q ρ w):(LC.cond c a b).wp P Q ρ w:=by
 refine ⟨t,hc,?_⟩
 cases t
 · exact h2 rfl
 · exact h1 rfl
theorem s_cond_t {c:Operand}{a b:LC}(hc:ρ.ev c= .bool true) (h:a.wp P Q ρ w):(LC.cond c a b).wp P Q ρ w:=⟨true,hc,h⟩
theorem s_cond_f {c:Operand}{a b:LC}(hc:ρ.ev c= .bool false) (h:b.wp P Q ρ w):(LC.cond c a b).wp P Q ρ w:=⟨false,hc,h⟩
theorem Q5 {c:Operand}{a b:LC}{p:Prop} [Decidable p] (hc:ρ.ev c= .bool (decide p)) (h1:p→a.wp P Q ρ w) (h2:¬p→b.wp P Q ρ w):(LC.cond c a b).wp P Q ρ w:=
 Q5O hc (fun h=>h1 (of_decide_eq_true h)) (fun h=>h2 (of_decide_eq_false h))
theorem s_loop {a:LC}(I:Env→World→Prop) (μ:Env→World→Nat) (h0:I ρ w) (h:∀ρ w,I ρ w→a.wp P (QB (fun ρ' w'=>I ρ' w'∧μ ρ' w'<μ ρ w) Q) ρ w):(LC.loop a).wp P Q ρ w:=
 ⟨I,μ,h0,h⟩

theorem q_ret0 {R:Ending→World→Prop}(h:R (.returned (.tuple #[])) w):retQ P [] R .ret ρ w:=h
theorem q_ret1 {t:Nat}{R:Ending→World→Prop}{v:Value}(hv:ρ t=v) (h:R (.returned v) w):retQ P [.tmp t] R .ret ρ w:=by subst hv;exact h
theorem q_ret2 {t u:Nat}{R:Ending→World→Prop}{v v':Value}(hv:ρ t=v) (hv':ρ u=v') (h:R (.returned (.tuple #[v,v'])) w):retQ P [.tmp t, .tmp u] R .ret ρ w:=by subst hv hv';exact h
theorem Q17 {R:Ending→World→Prop}(h:R (.returned (.tuple #[])) w):retQ P [] R .normal ρ w:=h
theorem QK {a T:Nat}{R:Ending→World→Prop}{b o:Nat}{v:Value}(ha:ρ a= .pointer (some ⟨b,o,none⟩)) (hv:Q8L P w ⟨b,o,none⟩ T v) (h:R (.returned v) w):retQ P [.cell a T] R .ret ρ w:=⟨_,v,ha,hv,h⟩
theorem Qai {t a T:Nat}{R:Ending→World→Prop}{b o:Nat}{u v:Value}(hu:ρ t=u) (ha:ρ a= .pointer (some ⟨b,o,none⟩)) (hv:Q8L P w ⟨b,o,none⟩ T v) (h:R (.returned (.tuple #[u,v])) w):retQ P [.tmp t, .cell a T] R .ret ρ w:=by
 subst hu;exact ⟨_,v,ha,hv,h⟩
theorem Q12 {t a T:Nat}{R:Ending→World→Prop}{b o:Nat}{u v:Value}(ha:ρ a= .pointer (some ⟨b,o,none⟩)) (hv:Q8L P w ⟨b,o,none⟩ T v) (hu:ρ t=u) (h:R (.returned (.tuple #[v,u])) w):retQ P [.cell a T, .tmp t] R .ret ρ w:=by
 subst hu;exact ⟨_,v,ha,hv,h⟩
theorem Q3 {b o T n:Nat}{T':TypeId}{cs vs:List Value}(ha:aggT P T=true) (hn:Q2F P T=some n) (hb:Blk w.heap b T' cs) (hv:(cs.drop o).take n=vs) (hl:vs.length=n):Q8L P w ⟨b,o,none⟩ T (.agg ⟨vs⟩):=
 .inr ⟨ha,n,vs,hn,hb.cells hv hl,rfl⟩

theorem Q7J {K:KT}(h:K ρ w):QB K Q .normal ρ w:=h
theorem Q6d {id:Nat}(h:Q .normal ρ w):QH id Q .normal ρ w:=h
theorem s_exitQ {id:Nat}(h:Q .normal ρ w):QH id Q (.exit id) ρ w:=by simp only [QH,if_true];exact h
theorem s_exitT {id:Nat}{K:KT}(h:Q (.exit id) ρ w):QB K Q (.exit id) ρ w:=h
theorem s_retT {K:KT}(h:Q .ret ρ w):QB K Q .ret ρ w:=h
theorem s_retB {id:Nat}(h:Q .ret ρ w):QH id Q .ret ρ w:=h
theorem s_exitB {id id':Nat}(hne:Nat.beq id' id=false) (h:Q (.exit id') ρ w):QH id Q (.exit id') ρ w:=by
 have:id'≠id:=by rintro rfl;simp at hne
 simp only [QH,if_neg this];exact h

theorem s_gy {s:Nat}{b:Bool}{o:LO}(hg:ρ s= .bool b) (h:Q0 P (⟨none,o⟩::l) Q ρ w):Q0 P (⟨some (s,b),o⟩::l) Q ρ w:=by
 simp only [Q0,hg,Q7s,beq_self_eq_true,if_true];exact h
theorem s_gn {s:Nat}{b:Bool}{o:LO}{v:Value}(hg:ρ s=v) (hw:Q7s v b=false) (h:Q0 P l Q (updo ρ o.dst undef) w):Q0 P (⟨some (s,b),o⟩::l) Q ρ w:=by
 simp only [Q0,hg,hw];exact h

theorem s_mov {d:Nat}{x:Operand}{v:Value}(hx:ρ.ev x=v) (h:Q0 P l Q (upd ρ d v) w):Q0 P (⟨none, .mov d x⟩::l) Q ρ w:=by
 subst hx;exact h
theorem s_pick_t {d:Nat}{c x y:Operand}{v:Value}(hc:ρ.ev c= .bool true) (hx:ρ.ev x=v) (h:Q0 P l Q (upd ρ d v) w):Q0 P (⟨none, .pick d c x y⟩::l) Q ρ w:=by
 subst hx;exact ⟨true,hc,h⟩
theorem s_pick_f {d:Nat}{c x y:Operand}{v:Value}(hc:ρ.ev c= .bool false) (hx:ρ.ev y=v) (h:Q0 P l Q (upd ρ d v) w):Q0 P (⟨none, .pick d c x y⟩::l) Q ρ w:=by
 subst hx;exact ⟨false,hc,h⟩
theorem s_not {d:Nat}{x:Operand}{b:Bool}(hx:ρ.ev x= .bool b) (h:Q0 P l Q (upd ρ d (.bool (!b))) w):Q0 P (⟨none, .un d .not x⟩::l) Q ρ w:=
 ⟨_,fun w0=>by rw [hx];rfl,h⟩
theorem s_nilc {d:Nat}{x:Operand}{a:Addr}(hx:ρ.ev x= .pointer (some a)) (h:Q0 P l Q (upd ρ d (.pointer (some a))) w):Q0 P (⟨none, .nilc d x⟩::l) Q ρ w:=⟨a,hx,h⟩
theorem s_fld {d:Nat}{x:Operand}{off b o:Nat}(hx:ρ.ev x= .pointer (some ⟨b,o,none⟩)) (h:Q0 P l Q (upd ρ d (.pointer (some ⟨b,o+off,none⟩))) w):Q0 P (⟨none, .fld d x off⟩::l) Q ρ w:=
 ⟨_,hx,by rw [Q1s];exact h⟩
theorem QcK {d:Nat}{x:Operand}{b o:Nat}{v:Value}(hx:ρ.ev x= .pointer (some ⟨b,o,none⟩)) (hv:w.cell? ⟨b,o,none⟩=some v) (h:Q0 P l Q (upd ρ d v) w):Q0 P (⟨none, .load1 d x⟩::l) Q ρ w:=⟨_,v,hx,hv,h⟩
theorem s_loadb {d:Nat}{x:Operand}{b o:Nat}{v:Value}{T:TypeId}{cs:List Value}(hx:ρ.ev x= .pointer (some ⟨b,o,none⟩)) (hb:Blk w.heap b T cs) (hv:cs[o]?=some v) (h:Q0 P l Q (upd ρ d v) w):
 Q0 P (⟨none, .load1 d x⟩::l) Q ρ w:=⟨_,v,hx,hb.cell hv,h⟩
theorem s_loadn {d n:Nat}{x:Operand}{b o:Nat}{T:TypeId}{cs vs:List Value}(hx:ρ.ev x= .pointer (some ⟨b,o,none⟩)) (hb:Blk w.heap b T cs) (hv:(cs.drop o).take n=vs) (hl:vs.length=n)
 (h:Q0 P l Q (upd ρ d (.agg ⟨vs⟩)) w):Q0 P (⟨none, .loadn d n x⟩::l) Q ρ w:=⟨_,vs,hx,hb.cells hv hl,h⟩
theorem QcJ {d n:Nat}{x:Operand}{a:Addr}{vs:List Value}(hx:ρ.ev x= .pointer (some a)) (hc:Q42 w a n vs)
 (h:Q0 P l Q (upd ρ d (.agg ⟨vs⟩)) w):Q0 P (⟨none, .loadn d n x⟩::l) Q ρ w:=⟨_,vs,hx,hc,h⟩
theorem s_store {x y:Operand}{b o:Nat}{T:TypeId}{cs:List Value}{v:Value}(hx:ρ.ev x= .pointer (some ⟨b,o,none⟩)) (hy:ρ.ev y=v) (hb:Blk w.heap b T cs) (hi:o<cs.length) (ho:oneC v=true)
 (h:∀w',Fr (· =b) w w'→w'.heap.size=w.heap.size→Blk w'.heap b T (cs.set o v)→Q0 P l Q ρ w'):Q0 P (⟨none, .store1 x y⟩::l) Q ρ w:=by
 subst hy
 exact ⟨_,_,hx,hb.cell (List.getElem?_eq_getElem hi),hb.free hi,ho,h _ (Q4h w b o _) (by simp) hb.set⟩
theorem s_storen {n:Nat}{x y:Operand}{b o:Nat}{T:TypeId}{cs vs:List Value}(hx:ρ.ev x= .pointer (some ⟨b,o,none⟩)) (hy:ρ.ev y= .agg ⟨vs⟩) (hn:vs.length=n) (hb:Blk w.heap b T cs) (hi:o+n≤cs.length)
 (ho:∀v∈vs,oneC v=true) (h:∀w',Fr (· =b) w w'→w'.heap.size=w.heap.size→Blk w'.heap b T (cs.take o++(vs++cs.drop (o+n)))→Q0 P l Q ρ w'):Q0 P (⟨none, .storen n x y⟩::l) Q ρ w:=by
 subst hn
 obtain ⟨w',h1,h2,h3,h4⟩:=Q4p P b T vs w cs o 0 hb (by omega) ho
 exact ⟨_,_,w',hx,hy,rfl,h1,h _ h2 h3 h4⟩
theorem Qa6 {d es:Nat}{x i:Operand}{b o len cap:Nat}{k:IntKind}{n:Int}(hx:ρ.ev x= .slice (some ⟨b,o,none⟩) len cap) (hi:ρ.ev i= .int k n) (h0:0≤n) (h1:n<len)
 (h:Q0 P l Q (upd ρ d (.pointer (some ⟨b,o+n.toNat*es,none⟩))) w):Q0 P (⟨none, .idx d es x i⟩::l) Q ρ w:=
 ⟨_,len,cap,k,n,hx,hi,h0,h1,by rw [Q1s];exact h⟩
theorem s_len {d:Nat}{x:Operand}{a:Option Addr}{n c:Nat}(hx:ρ.ev x= .slice a n c) (h:Q0 P l Q (upd ρ d (.int .i64 n)) w):Q0 P (⟨none, .len d x⟩::l) Q ρ w:=⟨a,n,c,hx,h⟩
theorem s_sidx {d:Nat}{x i:Operand}{s:ByteArray}{k:IntKind}{n:Int}{b:UInt8}(hx:ρ.ev x= .string s) (hi:ρ.ev i= .int k n) (h0:0≤n) (hb:s[n.toNat]?=some b)
 (h:Q0 P l Q (upd ρ d (.int .u8 b.toNat)) w):Q0 P (⟨none, .sidx d x i⟩::l) Q ρ w:=⟨s,k,n,b,hx,hi,h0,hb,h⟩
theorem s_ext {d:Nat}{x:Operand}{i:Nat}{vs:List Value}{v:Value}(hx:ρ.ev x= .tuple ⟨vs⟩) (hv:vs[i]?=some v) (h:Q0 P l Q (upd ρ d v) w):Q0 P (⟨none, .ext d x i⟩::l) Q ρ w:=⟨_,v,hx,by simpa using hv,h⟩
theorem QaY {d:Nat}{x:Operand}{o:Nat}{vs:List Value}{v:Value}(hx:ρ.ev x= .agg ⟨vs⟩) (hv:vs[o]?=some v) (h:Q0 P l Q (upd ρ d v) w):Q0 P (⟨none, .fldv d x o⟩::l) Q ρ w:=⟨_,v,hx,by simpa using hv,h⟩
theorem Q4A {d:Nat}{z:List Value}{ps:List (Nat×Nat×Operand)}{cs:List Value}(hf:Q2j z (ps.map fun p=>(p.1,p.2.1,ρ.ev p.2.2))=some cs) (h:Q0 P l Q (upd ρ d (.agg ⟨cs⟩)) w):
 Q0 P (⟨none, .build d z ps⟩::l) Q ρ w:=⟨cs,hf,h⟩
theorem s_alloc {d:Nat}{T:TypeId}{z:List Value}(h:∀b w',b=w.heap.size→Fr NF w w'→w'.heap.size=w.heap.size+1→Blk w'.heap b T z→Q0 P l Q (upd ρ d (.pointer (some ⟨b,0,none⟩))) w'):
 Q0 P (⟨none, .alloc d T z⟩::l) Q ρ w:=h _ _ rfl (Q3s w _) (by simp) (Q3c w z T)
theorem s_box {d:Nat}{T:TypeId}{x:Operand}{cs:List Value}(hx:(ρ.ev x).cells=⟨cs⟩) (h:∀b w',b=w.heap.size→Fr NF w w'→w'.heap.size=w.heap.size+1→Blk w'.heap b T cs→Q0 P l Q (upd ρ d (.pointer (some ⟨b,0,none⟩))) w'):
 Q0 P (⟨none, .box d T x⟩::l) Q ρ w:=by
 refine (?_:LO.wp P ρ w (Q0 P l Q) Q (.box d T x))
 simp only [LO.wp,hx]
 exact h _ _ rfl (Q3s w _) (by simp) (Q3c w cs T)
theorem Q8a {d:Nat}{T:TypeId}{n:Nat}{z:List Value}{ps:List (Nat×Nat×Operand)}{cs:List Value}(hf:Q2j z (ps.map fun p=>(p.1,p.2.1,ρ.ev p.2.2))=some cs)
 (h:∀b w',b=w.heap.size→Fr NF w w'→w'.heap.size=w.heap.size+1→Blk w'.heap b T cs→Q0 P l Q (upd ρ d (.slice (some ⟨b,0,none⟩) n n)) w'):
 Q0 P (⟨none, .buildS d T n z ps⟩::l) Q ρ w:=⟨cs,hf,h _ _ rfl (Q3s w _) (by simp) (Q3c w cs T)⟩
theorem Q8V {d f:Nat}{caps:List Operand}(h:Q0 P l Q (upd ρ d (.func (.func f) #[] ⟨caps.map ρ.ev⟩)) w):Q0 P (⟨none, .mkfn d f caps⟩::l) Q ρ w:=h
theorem s_min {d:Nat}{x y:Operand}{k k':IntKind}{a b:Int}(hx:ρ.ev x= .int k a) (hy:ρ.ev y= .int k' b) (h:Q0 P l Q (upd ρ d (.int k (min a b))) w):Q0 P (⟨none, .mnx d false x y⟩::l) Q ρ w:=
 ⟨k,k',a,b,hx,hy,by
   have:(if b<a then b else a)=min a b:=by omega
   simp only [Bool.false_eq_true,if_false,this];exact h⟩
theorem QcO {d:Nat}{k k':IntKind}{x:Operand}{n:Int}(hx:ρ.ev x= .int k' n) (h:Q0 P l Q (upd ρ d (.int k (k.wrap n))) w):Q0 P (⟨none, .conv d k x⟩::l) Q ρ w:=⟨k',n,hx,h⟩
theorem s_conv64 {d:Nat}{k':IntKind}{x:Operand}{n:Int}(hx:ρ.ev x= .int k' n) (h1: -9223372036854775808≤n) (h2:n≤9223372036854775807) (h:Q0 P l Q (upd ρ d (.int .i64 n)) w):Q0 P (⟨none, .conv d .i64 x⟩::l) Q ρ w:=
 ⟨k',n,hx,by rw [Q4K h1 h2];exact h⟩
theorem s_mki {d:Nat}{T:TypeId}{x:Operand}{v:Value}(hx:ρ.ev x=v) (h:Q0 P l Q (upd ρ d (.iface T v)) w):Q0 P (⟨none, .mki d T x⟩::l) Q ρ w:=by subst hx;exact h
theorem s_sub {d es:Nat}{x:Operand}{lo hi mx:Option Operand}{a:Option Addr}{len cap l' h' m:Nat}(hx:ρ.ev x= .slice a len cap) (hm:bnd ρ cap mx m) (hh:bnd ρ len hi h') (hl:bnd ρ 0 lo l') (h1:m≤cap) (h2:h'≤m) (h3:l'≤h')
 (h:Q0 P l Q (upd ρ d (.slice (if m=l' then a else a.map (·.add (l'*es))) (h' - l') (m - l'))) w):Q0 P (⟨none, .sub d es x lo hi mx⟩::l) Q ρ w:=⟨a,len,cap,l',h',m,hx,hm,hh,hl,h1,h2,h3,h⟩
def Rets (P:Program) (f:FuncId) (args:List Value) (w:World) (S:Value→World→Prop):Prop:=Calls P f ⟨args⟩ w fun e w'=>∃v,e= .returned v∧S v w'
theorem Q5N {d:Nat}{f:FuncId}{xs:List Operand}{args:List Value}{S:Value→World→Prop}(hxs:xs.map ρ.ev=args) (hc:Rets P f args w S)
 (h:∀v w',S v w'→Q0 P l Q (upd ρ d v) w'):Q0 P (⟨none, .call (some d) f xs⟩::l) Q ρ w:=by
 subst hxs;exact hc.mono fun e w' ⟨v,he,hs⟩=>by subst he;exact h v w' hs
theorem Rets.mono {f:FuncId}{args:List Value}{S S':Value→World→Prop}(h:Rets P f args w S) (hs:∀v w',S v w'→S' v w'):Rets P f args w S':=
 Calls.mono h fun _ _ ⟨v,he,hv⟩=>⟨v,he,hs _ _ hv⟩
theorem Qa9 {d:Option Nat}{x:Operand}{xs:List Operand}{f:FuncId}{cap args:List Value}{R:Ending→World→Prop}{fn:Func}(hx:ρ.ev x= .func (.func f) #[] ⟨cap⟩) (hf:P.funcs[f]?=some fn)
 (hb : fn.body.isSome = true) (hn : (fn.name == "runtime.NumGoroutine") = false) (hxs : xs.map ρ.ev ++ cap = args) (hc : Calls P f ⟨args⟩ w R)
 (h:∀e w',R e w'→Qh (Q0 P l Q) Q d ρ w e w'):Q0 P (⟨none, .callv d x xs⟩::l) Q ρ w:=by
 subst hxs
 refine ⟨f,#[],⟨cap⟩,fn,hx,hf,hb,hn,?_⟩
 have:(#[]++Array.mk (xs.map ρ.ev)++Array.mk cap:Array Value)=⟨xs.map ρ.ev++cap⟩:=by simp
 rw [this];exact hc.mono h
theorem s_add {d:Nat}{T:TypeId}{x y:Operand}{a b:Int}(hx:ρ.ev x= .int .i64 a) (hy:ρ.ev y= .int .i64 b) (h1: -9223372036854775808≤a+b) (h2:a+b≤9223372036854775807)
 (h:Q0 P l Q (upd ρ d (.int .i64 (a+b))) w):Q0 P (⟨none, .bin d .add T x y⟩::l) Q ρ w:=
 ⟨.int .i64 (a+b),fun w0=>by rw [hx,hy];simp [eqGuard,binOp,Op.intArith,Q4K h1 h2],h⟩
theorem s_subi {d:Nat}{T:TypeId}{x y:Operand}{a b:Int}(hx:ρ.ev x= .int .i64 a) (hy:ρ.ev y= .int .i64 b) (h1: -9223372036854775808≤a - b) (h2:a - b≤9223372036854775807)
 (h:Q0 P l Q (upd ρ d (.int .i64 (a - b))) w):Q0 P (⟨none, .bin d .sub T x y⟩::l) Q ρ w:=
 ⟨.int .i64 (a - b),fun w0=>by rw [hx,hy];simp [eqGuard,binOp,Op.intArith,Q4K h1 h2],h⟩
theorem s_mul {d:Nat}{T:TypeId}{x y:Operand}{a b:Int}(hx:ρ.ev x= .int .i64 a) (hy:ρ.ev y= .int .i64 b) (h1: -9223372036854775808≤a*b) (h2:a*b≤9223372036854775807)
 (h:Q0 P l Q (upd ρ d (.int .i64 (a*b))) w):Q0 P (⟨none, .bin d .mul T x y⟩::l) Q ρ w:=
 ⟨.int .i64 (a*b),fun w0=>by rw [hx,hy];simp [eqGuard,binOp,Op.intArith,Q4K h1 h2],h⟩
def bitI (op:BinOp) (k:IntKind) (a b:Int):Int:=
 let x:=BitVec.ofInt k.bits a
 let y:=BitVec.ofInt k.bits b
 k.wrap (match op with| .and=>x &&& y| .or=>x|||y| .xor=>x ^^^ y|_=>x &&& ~~~y).toNat

theorem Q6y {d:Nat}{T:TypeId}{x y:Operand}{k:IntKind}{a b:Int}(hx:ρ.ev x= .int k a) (hy:ρ.ev y= .int k b)
 (h:Q0 P l Q (upd ρ d (.bool (decide (a=b)))) w):Q0 P (⟨none, .bin d .eql T x y⟩::l) Q ρ w:=
 ⟨_,fun w0=>by
   rw [hx,hy]
   first
    | (simp [eqGuard,binOp,Op.intCmp];done)
    | (by_cases hp:a=b<;>simp [eqGuard,binOp,Op.intCmp,hp]),h⟩
theorem s_eql_t {d:Nat}{T:TypeId}{x y:Operand}{k:IntKind}{a b:Int}(hx:ρ.ev x= .int k a) (hy:ρ.ev y= .int k b) (hp:a=b)
 (h:Q0 P l Q (upd ρ d (.bool true)) w):Q0 P (⟨none, .bin d .eql T x y⟩::l) Q ρ w:=
 Q6y hx hy (by rw [decide_eq_true hp];exact h)
theorem s_eql_f {d:Nat}{T:TypeId}{x y:Operand}{k:IntKind}{a b:Int}(hx:ρ.ev x= .int k a) (hy:ρ.ev y= .int k b) (hp:¬(a=b))
 (h:Q0 P l Q (upd ρ d (.bool false)) w):Q0 P (⟨none, .bin d .eql T x y⟩::l) Q ρ w:=
 Q6y hx hy (by rw [decide_eq_false hp];exact h)
theorem Q7 {d:Nat}{T:TypeId}{x y:Operand}{k:IntKind}{a b:Int}(hx:ρ.ev x= .int k a) (hy:ρ.ev y= .int k b)
 (h1:a=b→Q0 P l Q (upd ρ d (.bool true)) w) (h2:¬(a=b)→Q0 P l Q (upd ρ d (.bool false)) w):Q0 P (⟨none, .bin d .eql T x y⟩::l) Q ρ w:=
 Q6y hx hy (by
  by_cases hp:a=b
  · rw [decide_eq_true hp];exact h1 hp
  · rw [decide_eq_false hp];exact h2 hp)

theorem Q3h {d:Nat}{T:TypeId}{x y:Operand}{k:IntKind}{a b:Int}(hx:ρ.ev x= .int k a) (hy:ρ.ev y= .int k b)
 (h:Q0 P l Q (upd ρ d (.bool (decide (a≠b)))) w):Q0 P (⟨none, .bin d .neq T x y⟩::l) Q ρ w:=
 ⟨_,fun w0=>by
   rw [hx,hy]
   first
    | (simp [eqGuard,binOp,Op.intCmp];done)
    | (by_cases hp:a=b<;>simp [eqGuard,binOp,Op.intCmp,hp]),h⟩
theorem s_neq_t {d:Nat}{T:TypeId}{x y:Operand}{k:IntKind}{a b:Int}(hx:ρ.ev x= .int k a) (hy:ρ.ev y= .int k b) (hp:a≠b)
 (h:Q0 P l Q (upd ρ d (.bool true)) w):Q0 P (⟨none, .bin d .neq T x y⟩::l) Q ρ w:=
 Q3h hx hy (by rw [decide_eq_true hp];exact h)
theorem s_neq_f {d:Nat}{T:TypeId}{x y:Operand}{k:IntKind}{a b:Int}(hx:ρ.ev x= .int k a) (hy:ρ.ev y= .int k b) (hp:¬(a≠b))
 (h:Q0 P l Q (upd ρ d (.bool false)) w):Q0 P (⟨none, .bin d .neq T x y⟩::l) Q ρ w:=
 Q3h hx hy (by rw [decide_eq_false hp];exact h)
theorem Qa {d:Nat}{T:TypeId}{x y:Operand}{k:IntKind}{a b:Int}(hx:ρ.ev x= .int k a) (hy:ρ.ev y= .int k b)
 (h1:a≠b→Q0 P l Q (upd ρ d (.bool true)) w) (h2:¬(a≠b)→Q0 P l Q (upd ρ d (.bool false)) w):Q0 P (⟨none, .bin d .neq T x y⟩::l) Q ρ w:=
 Q3h hx hy (by
  by_cases hp:a≠b
  · rw [decide_eq_true hp];exact h1 hp
  · rw [decide_eq_false hp];exact h2 hp)

theorem Q6x {d:Nat}{T:TypeId}{x y:Operand}{k:IntKind}{a b:Int}(hx:ρ.ev x= .int k a) (hy:ρ.ev y= .int k b)
 (h:Q0 P l Q (upd ρ d (.bool (decide (a<b)))) w):Q0 P (⟨none, .bin d .lss T x y⟩::l) Q ρ w:=
 ⟨_,fun w0=>by
   rw [hx,hy]
   first
    | (simp [eqGuard,binOp,Op.intCmp];done)
    | (by_cases hp:a=b<;>simp [eqGuard,binOp,Op.intCmp,hp]),h⟩
theorem s_lss_t {d:Nat}{T:TypeId}{x y:Operand}{k:IntKind}{a b:Int}(hx:ρ.ev x= .int k a) (hy:ρ.ev y= .int k b) (hp:a<b)
 (h:Q0 P l Q (upd ρ d (.bool true)) w):Q0 P (⟨none, .bin d .lss T x y⟩::l) Q ρ w:=
 Q6x hx hy (by rw [decide_eq_true hp];exact h)
theorem s_lss_f {d:Nat}{T:TypeId}{x y:Operand}{k:IntKind}{a b:Int}(hx:ρ.ev x= .int k a) (hy:ρ.ev y= .int k b) (hp:¬(a<b))
 (h:Q0 P l Q (upd ρ d (.bool false)) w):Q0 P (⟨none, .bin d .lss T x y⟩::l) Q ρ w:=
 Q6x hx hy (by rw [decide_eq_false hp];exact h)
theorem Qr {d:Nat}{T:TypeId}{x y:Operand}{k:IntKind}{a b:Int}(hx:ρ.ev x= .int k a) (hy:ρ.ev y= .int k b)
 (h1:a<b→Q0 P l Q (upd ρ d (.bool true)) w) (h2:¬(a<b)→Q0 P l Q (upd ρ d (.bool false)) w):Q0 P (⟨none, .bin d .lss T x y⟩::l) Q ρ w:=
 Q6x hx hy (by
  by_cases hp:a<b
  · rw [decide_eq_true hp];exact h1 hp
  · rw [decide_eq_false hp];exact h2 hp)

theorem Qa5 {d:Nat}{T:TypeId}{x y:Operand}{k:IntKind}{a b:Int}(hx:ρ.ev x= .int k a) (hy:ρ.ev y= .int k b)
 (h:Q0 P l Q (upd ρ d (.bool (decide (a≤b)))) w):Q0 P (⟨none, .bin d .leq T x y⟩::l) Q ρ w:=
 ⟨_,fun w0=>by
   rw [hx,hy]
   first
    | (simp [eqGuard,binOp,Op.intCmp];done)
    | (by_cases hp:a=b<;>simp [eqGuard,binOp,Op.intCmp,hp]),h⟩
theorem s_leq_t {d:Nat}{T:TypeId}{x y:Operand}{k:IntKind}{a b:Int}(hx:ρ.ev x= .int k a) (hy:ρ.ev y= .int k b) (hp:a≤b)
 (h:Q0 P l Q (upd ρ d (.bool true)) w):Q0 P (⟨none, .bin d .leq T x y⟩::l) Q ρ w:=
 Qa5 hx hy (by rw [decide_eq_true hp];exact h)
theorem s_leq_f {d:Nat}{T:TypeId}{x y:Operand}{k:IntKind}{a b:Int}(hx:ρ.ev x= .int k a) (hy:ρ.ev y= .int k b) (hp:¬(a≤b))
 (h:Q0 P l Q (upd ρ d (.bool false)) w):Q0 P (⟨none, .bin d .leq T x y⟩::l) Q ρ w:=
 Qa5 hx hy (by rw [decide_eq_false hp];exact h)
theorem s_leq_s {d:Nat}{T:TypeId}{x y:Operand}{k:IntKind}{a b:Int}(hx:ρ.ev x= .int k a) (hy:ρ.ev y= .int k b)
 (h1:a≤b→Q0 P l Q (upd ρ d (.bool true)) w) (h2:¬(a≤b)→Q0 P l Q (upd ρ d (.bool false)) w):Q0 P (⟨none, .bin d .leq T x y⟩::l) Q ρ w:=
 Qa5 hx hy (by
  by_cases hp:a≤b
  · rw [decide_eq_true hp];exact h1 hp
  · rw [decide_eq_false hp];exact h2 hp)

theorem Q5j {d:Nat}{T:TypeId}{x y:Operand}{k:IntKind}{a b:Int}(hx:ρ.ev x= .int k a) (hy:ρ.ev y= .int k b)
 (h:Q0 P l Q (upd ρ d (.bool (decide (b<a)))) w):Q0 P (⟨none, .bin d .gtr T x y⟩::l) Q ρ w:=
 ⟨_,fun w0=>by
   rw [hx,hy]
   first
    | (simp [eqGuard,binOp,Op.intCmp];done)
    | (by_cases hp:a=b<;>simp [eqGuard,binOp,Op.intCmp,hp]),h⟩
theorem s_gtr_t {d:Nat}{T:TypeId}{x y:Operand}{k:IntKind}{a b:Int}(hx:ρ.ev x= .int k a) (hy:ρ.ev y= .int k b) (hp:b<a)
 (h:Q0 P l Q (upd ρ d (.bool true)) w):Q0 P (⟨none, .bin d .gtr T x y⟩::l) Q ρ w:=
 Q5j hx hy (by rw [decide_eq_true hp];exact h)
theorem s_gtr_f {d:Nat}{T:TypeId}{x y:Operand}{k:IntKind}{a b:Int}(hx:ρ.ev x= .int k a) (hy:ρ.ev y= .int k b) (hp:¬(b<a))
 (h:Q0 P l Q (upd ρ d (.bool false)) w):Q0 P (⟨none, .bin d .gtr T x y⟩::l) Q ρ w:=
 Q5j hx hy (by rw [decide_eq_false hp];exact h)
theorem Qd {d:Nat}{T:TypeId}{x y:Operand}{k:IntKind}{a b:Int}(hx:ρ.ev x= .int k a) (hy:ρ.ev y= .int k b)
 (h1:b<a→Q0 P l Q (upd ρ d (.bool true)) w) (h2:¬(b<a)→Q0 P l Q (upd ρ d (.bool false)) w):Q0 P (⟨none, .bin d .gtr T x y⟩::l) Q ρ w:=
 Q5j hx hy (by
  by_cases hp:b<a
  · rw [decide_eq_true hp];exact h1 hp
  · rw [decide_eq_false hp];exact h2 hp)

theorem Qa7 {d:Nat}{T:TypeId}{x y:Operand}{k:IntKind}{a b:Int}(hx:ρ.ev x= .int k a) (hy:ρ.ev y= .int k b)
 (h:Q0 P l Q (upd ρ d (.bool (decide (b≤a)))) w):Q0 P (⟨none, .bin d .geq T x y⟩::l) Q ρ w:=
 ⟨_,fun w0=>by
   rw [hx,hy]
   first
    | (simp [eqGuard,binOp,Op.intCmp];done)
    | (by_cases hp:a=b<;>simp [eqGuard,binOp,Op.intCmp,hp]),h⟩
theorem s_geq_t {d:Nat}{T:TypeId}{x y:Operand}{k:IntKind}{a b:Int}(hx:ρ.ev x= .int k a) (hy:ρ.ev y= .int k b) (hp:b≤a)
 (h:Q0 P l Q (upd ρ d (.bool true)) w):Q0 P (⟨none, .bin d .geq T x y⟩::l) Q ρ w:=
 Qa7 hx hy (by rw [decide_eq_true hp];exact h)
theorem s_geq_f {d:Nat}{T:TypeId}{x y:Operand}{k:IntKind}{a b:Int}(hx:ρ.ev x= .int k a) (hy:ρ.ev y= .int k b) (hp:¬(b≤a))
 (h:Q0 P l Q (upd ρ d (.bool false)) w):Q0 P (⟨none, .bin d .geq T x y⟩::l) Q ρ w:=
 Qa7 hx hy (by rw [decide_eq_false hp];exact h)
theorem Q1a {d:Nat}{T:TypeId}{x y:Operand}{k:IntKind}{a b:Int}(hx:ρ.ev x= .int k a) (hy:ρ.ev y= .int k b)
 (h1:b≤a→Q0 P l Q (upd ρ d (.bool true)) w) (h2:¬(b≤a)→Q0 P l Q (upd ρ d (.bool false)) w):Q0 P (⟨none, .bin d .geq T x y⟩::l) Q ρ w:=
 Qa7 hx hy (by
  by_cases hp:b≤a
  · rw [decide_eq_true hp];exact h1 hp
  · rw [decide_eq_false hp];exact h2 hp)

theorem s_draw {gs:List GO}{es:List (List Nat)}(C:List CI) (hok:Q7k gs es C=true)
 (hpl:(C.all fun c=>match c.2 with|some (some _)=>false|_=>true)=true) (h:Q0 P (C.map fun c=>gat gs c.1) Q ρ w.drew):(LC.draw gs es).wp P Q ρ w:=
 Qca C hok hpl h
theorem s_canon {gs:List GO}{es:List (List Nat)}(C:List CI) (hok:Q7k gs es C=true) (h:Q1w P gs C Q ρ w.drew):(LC.draw gs es).wp P Q ρ w:=Q7X C hok h
theorem s_cnil {gs:List GO}(h:Q .normal ρ w):Q1w P gs [] Q ρ w:=h
theorem s_cq {gs:List GO}{i:Nat}{rest:List CI}(h:Q0 P [gat gs i] (QB (Q1w P gs rest Q) Q) ρ w):Q1w P gs ((i,none)::rest) Q ρ w:=h
theorem s_cf {gs:List GO}{i:Nat}{rest:List CI}(h:Q0 P [gat gs i] (QB (Q1w P gs rest Q) Q) ρ w):Q1w P gs ((i,some none)::rest) Q ρ w:=h
theorem Qa8 {gs:List GO}{i:Nat}{fl:List Nat}{rest:List CI}(h:Q0 P [gat gs i] (QB (fun ρ' w'=>(∀q∈fl,gqv P ρ w' (gat gs q) (ρ ((gat gs q).dst.getD 0)))∧Q1w P gs rest Q ρ' w') (Qdc Q)) ρ w):
 Q1w P gs ((i,some (some fl))::rest) Q ρ w:=h
end
end Go.Lir
namespace Go.Lir

def Sl (H:Heap) (T:TypeId) (es:Nat) (v:Value) (F:Nat→Prop) (css:List (List Value)):Prop:=
 (∀c∈css,c.length=es)∧
 ((v= .slice none 0 0∧css=[]∧∀b,¬F b)∨
  ∃ b off cap arr,v= .slice (some ⟨b,off,none⟩) css.length cap∧css.length≤cap∧Blk H b T arr∧off+cap*es≤arr.length∧
    (∀i,i<css.length*es→arr[off+i]?=css.flatten[i]?)∧∀x,F x↔x=b)

theorem Q3t {es:Nat}:∀{css:List (List Value)},(∀c∈css,c.length=es)→∀{m j:Nat}{c:List Value},css[m]?=some c→j<es→css.flatten[m*es+j]?=c[j]?:=by
 intro css
 induction css with
 | nil=>intro _ m j c h;simp at h
 | cons a css ih=>
   intro hl m j c h hj
   have ha:=hl a (by simp)
   cases m with
   | zero=>
     simp at h;subst h
     simp only [List.flatten_cons,Nat.zero_mul,Nat.zero_add]
     rw [List.getElem?_append_left (by omega)]
   | succ m=>
     simp at h
     have:=ih (fun c hc=>hl c (by simp [hc])) h hj
     simp only [List.flatten_cons]
     rw [List.getElem?_append_right (by rw [ha,Nat.succ_mul];omega),ha,←this]
     congr 1
     rw [Nat.succ_mul];omega

theorem Q1r {es:Nat}:∀{css:List (List Value)},(∀c∈css,c.length=es)→css.flatten.length=css.length*es:=by
 intro css
 induction css with
 | nil=>intro _;simp
 | cons a css ih=>
   intro hl
   simp only [List.flatten_cons,List.length_append,List.length_cons,ih (fun c hc=>hl c (by simp [hc])),hl a (by simp),Nat.succ_mul]
   omega

theorem Sl.nil (H:Heap) (T:TypeId) (es:Nat):Sl H T es (.slice none 0 0) NF []:=⟨by simp, .inl ⟨rfl,rfl,fun _ h=>h⟩⟩

theorem Sl.shape {H:Heap}{T:TypeId}{es:Nat}{v:Value}{F:Nat→Prop}{css:List (List Value)}(h:Sl H T es v F css):∃a c,v= .slice a css.length c:=by
 obtain ⟨_,⟨h,h2,_⟩|⟨b,off,cap,arr,h,_⟩⟩:=h
 · subst h2;exact ⟨_,_,h⟩
 · exact ⟨_,_,h⟩

theorem Sl.lt {H:Heap}{T:TypeId}{es:Nat}{v:Value}{F:Nat→Prop}{css:List (List Value)}(h:Sl H T es v F css):∀b,F b→b<H.size:=by
 obtain ⟨_,⟨_,_,h⟩|⟨b,off,cap,arr,_,_,hb,_,_,hf⟩⟩:=h
 · intro b hb;exact absurd hb (h b)
 · intro x hx;rw [(hf x).1 hx];exact hb.lt

theorem Sl.of_same {H H':Heap}{T:TypeId}{es:Nat}{v:Value}{F:Nat→Prop}{css:List (List Value)}(h:Sl H T es v F css) (hs:∀b,F b→b<H.size→H'[b]?=H[b]?):Sl H' T es v F css:=by
 obtain ⟨h0,h1|⟨b,off,cap,arr,h1,h2,hb,h3,h4,hf⟩⟩:=h
 · exact ⟨h0, .inl h1⟩
 · exact ⟨h0, .inr ⟨b,off,cap,arr,h1,h2,hb.of_same (hs b ((hf b).2 rfl) hb.lt),h3,h4,hf⟩⟩

theorem Sl.fr {F G:Nat→Prop}{w w':World}{T:TypeId}{es:Nat}{v:Value}{css:List (List Value)}(h:Sl w.heap T es v F css) (hf:Fr G w w') (hn:∀b,F b→¬G b):Sl w'.heap T es v F css:=
 h.of_same fun b hb hlt=>hf.same b hlt (hn b hb)

theorem Sl.fr0 {F:Nat→Prop}{w w':World}{T:TypeId}{es:Nat}{v:Value}{css:List (List Value)}(h:Sl w.heap T es v F css) (hf:Fr NF w w'):Sl w'.heap T es v F css:=
 h.fr hf fun _ _ h=>h
theorem Blk.fr0 {w w':World}{b:Nat}{T:TypeId}{cs:List Value}(h:Blk w.heap b T cs) (hf:Fr NF w w'):Blk w'.heap b T cs:=h.fr hf fun h=>h

structure El (H:Heap) (T:TypeId) (es:Nat) (v:Value) (F:Nat→Prop) (css:List (List Value)) (m b o:Nat):Prop where
 sl:Sl H T es v F css
 lt:m<css.length
 at_:∃off cap,v= .slice (some ⟨b,off,none⟩) css.length cap∧o=off+m*es

theorem El.out {H:Heap}{T:TypeId}{es:Nat}{v:Value}{F:Nat→Prop}{css:List (List Value)}{m b o:Nat}(h:El H T es v F css m b o):
 ∃off cap arr,v= .slice (some ⟨b,off,none⟩) css.length cap∧css.length≤cap∧Blk H b T arr∧off+cap*es≤arr.length∧(∀i,i<css.length*es→arr[off+i]?=css.flatten[i]?)∧(∀x,F x↔x=b)∧o=off+m*es:=by
 obtain ⟨⟨_,hs⟩,hm,off,cap,hv,ho⟩:=h
 rcases hs with ⟨hv',hc,_⟩|⟨b',off',cap',arr,hv',h1,h2,h3,h4,h5⟩
 · subst hc;simp at hm
 · rw [hv] at hv'
   simp only [Value.slice.injEq,Option.some.injEq,Addr.mk.injEq,and_true,true_and] at hv'
   obtain ⟨⟨rfl,rfl⟩,rfl⟩:=hv'
   exact ⟨off,cap,arr,hv,h1,h2,h3,h4,h5,ho⟩

theorem El.F {H:Heap}{T:TypeId}{es:Nat}{v:Value}{F:Nat→Prop}{css:List (List Value)}{m b o:Nat}(h:El H T es v F css m b o):∀x,F x↔x=b:=by
 obtain ⟨_,_,_,_,_,_,_,_,h,_⟩:=h.out;exact h

theorem Q3P {m n es:Nat}(h:m<n):m*es+es≤n*es:=by
 have:(m+1)*es≤n*es:=Nat.mul_le_mul_right es h
 rw [Nat.succ_mul] at this;exact this

theorem El.cell {w:World}{T:TypeId}{es:Nat}{v:Value}{F:Nat→Prop}{css:List (List Value)}{m b o j:Nat}{c:List Value}{u:Value}(h:El w.heap T es v F css m b o) (hc:css[m]?=some c) (hu:c[j]?=some u):
 w.cell? ⟨b,o+j,none⟩=some u:=by
 have hlen:=h.sl.1
 obtain ⟨off,cap,arr,hv,h1,h2,h3,h4,h5,ho⟩:=h.out
 have hcl:c.length=es:=hlen c (List.mem_of_getElem? hc)
 have hj:j<es:=by
  rcases Nat.lt_or_ge j c.length with h|h
  · omega
  · simp [List.getElem?_eq_none h] at hu
 have hb:=Q3P (es:=es) h.lt
 have:=h4 (m*es+j) (by omega)
 rw [Q3t hlen hc hj,hu] at this
 rw [ho,Nat.add_assoc]
 exact h2.cell this

theorem El.cells {w:World}{T:TypeId}{es:Nat}{v:Value}{F:Nat→Prop}{css:List (List Value)}{m b o:Nat}{c:List Value}(h:El w.heap T es v F css m b o) (hc:css[m]?=some c):Q42 w ⟨b,o,none⟩ es c:=by
 have hcl:c.length=es:=h.sl.1 c (List.mem_of_getElem? hc)
 refine ⟨hcl,fun j hj=>?_⟩
 rw [Q1s,List.getElem?_eq_getElem (by omega)]
 exact h.cell hc (List.getElem?_eq_getElem (by omega))

theorem QaB {es:Nat}:∀{css:List (List Value)},(∀c∈css,c.length=es)→∀{m j:Nat}{c:List Value}{u:Value},css[m]?=some c→j<es→(css.set m (c.set j u)).flatten=css.flatten.set (m*es+j) u:=by
 intro css
 induction css with
 | nil=>intro _ m j c u h;simp at h
 | cons a css ih=>
   intro hl m j c u h hj
   have ha:=hl a (by simp)
   cases m with
   | zero=>
     simp at h;subst h
     simp only [List.set_cons_zero,List.flatten_cons,Nat.zero_mul,Nat.zero_add]
     rw [List.set_append_left _ _ (by omega)]
   | succ m=>
     simp at h
     have:=ih (fun c hc=>hl c (by simp [hc])) (u:=u) h hj
     simp only [List.set_cons_succ,List.flatten_cons,this]
     rw [List.set_append_right _ _ (by rw [ha,Nat.succ_mul];omega),ha]
     congr 2
     rw [Nat.succ_mul];omega

theorem El.set {w:World}{T:TypeId}{es:Nat}{v:Value}{F:Nat→Prop}{css:List (List Value)}{m b o j:Nat}{c:List Value}{u:Value}(h:El w.heap T es v F css m b o) (hc:css[m]?=some c) (hj:j<es):
 El (w.setCell ⟨b,o+j,none⟩ u).heap T es v F (css.set m (c.set j u)) m b o:=by
 have hlen:=h.sl.1
 obtain ⟨off,cap,arr,hv,h1,h2,h3,h4,h5,ho⟩:=h.out
 refine ⟨⟨?_, .inr ⟨b,off,cap,arr.set (o+j) u,by simpa using hv,by simpa using h1,h2.set,by simpa using h3,?_,h5⟩⟩,by simpa using h.lt,off,cap,by simpa using hv,ho⟩
 · intro x hx
   rcases List.mem_or_eq_of_mem_set hx with hx|rfl
   · exact hlen x hx
   · simpa using hlen c (List.mem_of_getElem? hc)
 · intro i hi
   simp only [List.length_set] at hi
   rw [QaB hlen hc hj]
   have e:=h4 i hi
   have hb:=Q3P (es:=es) h.lt
   have hfl:=Q1r hlen
   have hmul:css.length*es≤cap*es:=Nat.mul_le_mul_right es h1
   by_cases hii:i=m*es+j
   · subst hii
     rw [ho,←Nat.add_assoc,List.getElem?_set_self (by omega),List.getElem?_set_self (by omega)]
   · rw [List.getElem?_set_ne (by omega),List.getElem?_set_ne (by omega),e]

theorem El.fr {F G:Nat→Prop}{w w':World}{T:TypeId}{es:Nat}{v:Value}{css:List (List Value)}{m b o:Nat}(h:El w.heap T es v F css m b o) (hf:Fr G w w') (hn:∀b,F b→¬G b):El w'.heap T es v F css m b o:=
 ⟨h.sl.fr hf hn,h.lt,h.at_⟩

theorem El.setn {P:Program}{T:TypeId}{es:Nat}{v:Value}{F:Nat→Prop}{b o m:Nat}:∀(vs:List Value) (w:World) (css:List (List Value)) (c:List Value) (j:Nat),El w.heap T es v F css m b o→css[m]?=some c→j+vs.length≤es→(∀v∈vs,oneC v=true)→
 ∃w',(storeCells ⟨b,o,none⟩ vs j).run P w= .ok () w'∧Fr F w w'∧w'.heap.size=w.heap.size∧El w'.heap T es v F (css.set m (c.take j++(vs++c.drop (j+vs.length)))) m b o:=by
 intro vs
 induction vs with
 | nil=>
   intro w css c j h hc hj _
   refine ⟨w,by simp [storeCells],Fr.refl _ _,rfl,?_⟩
   have:css.set m (c.take j++([]++c.drop (j+0)))=css:=by
    simp only [List.nil_append,Nat.add_zero,List.take_append_drop]
    apply List.ext_getElem?
    intro i
    by_cases him:m=i
    · subst him;rw [List.getElem?_set_self h.lt,hc]
    · rw [List.getElem?_set_ne him]
   simp only [List.length_nil]
   rw [this];exact h
 | cons u vs ih=>
   intro w css c j h hc hj ho
   simp only [List.length_cons] at hj
   have h1:=ho u (by simp)
   have h1':u.oneCell'=true:=by cases u<;>simp_all [Value.oneCell',oneC]
   have hcl:c.length=es:=h.sl.1 c (List.mem_of_getElem? hc)
   have hcell:=h.cell hc (List.getElem?_eq_getElem (show j<c.length by omega))
   have hset:=h.set (u:=u) hc (show j<es by omega)
   obtain ⟨off,cap,arr,hv,g1,g2,g3,g4,g5,go⟩:=h.out
   have hb:=Q3P (es:=es) h.lt
   have hmul:css.length*es≤cap*es:=Nat.mul_le_mul_right es g1
   have hfree:=g2.free (w:=w) (i:=o+j) (by omega)
   have hc':(css.set m (c.set j u))[m]?=some (c.set j u):=List.getElem?_set_self h.lt
   obtain ⟨w',h2,h3,h4,h5⟩:=ih (w.setCell ⟨b,o+j,none⟩ u) _ _ (j+1) hset hc' (by omega) (fun x hx=>ho x (by simp [hx]))
   refine ⟨w',?_,((Q4h w b (o+j) u).mono fun x _ hx=>(g5 x).2 hx).trans h3 (fun _ _ h=>h),h4.trans (by simp),?_⟩
   · simp only [storeCells,Sem.run_bind,Q1s,run_store P w _ _ .plain h1',hcell,hfree,Bool.false_eq_true,if_false,Result.andThen_ok]
     exact h2
   · have e:(css.set m (c.set j u)).set m ((c.set j u).take (j+1)++(vs++(c.set j u).drop (j+1+vs.length)))=css.set m (c.take j++(u::vs++c.drop (j+(u::vs).length))):=by
      rw [List.set_set]
      congr 1
      have hlt:j<c.length:=by omega
      rw [List.set_eq_take_append_cons_drop,if_pos hlt]
      have hm:(c.take j).length=j:=by simp;omega
      have e1:List.take (j+1) (c.take j++u::c.drop (j+1))=c.take j++[u]:=by
       rw [List.take_append,hm,List.take_of_length_le (by omega),show j+1 - j=1 by omega];rfl
      have e2:List.drop (j+1+vs.length) (c.take j++u::c.drop (j+1))=c.drop (j+(u::vs).length):=by
       rw [List.drop_append,hm,List.drop_of_length_le (by omega),show j+1+vs.length - j=vs.length+1 by omega]
       simp [Nat.add_comm,Nat.add_left_comm]
      rw [e1,e2];simp
     rw [←e];exact h5

section
variable {P:Program}{l:List GO}{Q:QT}{ρ:Env}{w:World}{T:TypeId}{es:Nat}{v:Value}{F:Nat→Prop}{css:List (List Value)}

theorem s_idxS {d:Nat}{x i:Operand}{k:IntKind}{n:Int}(hx:ρ.ev x=v) (hi:ρ.ev i= .int k n) (hs:Sl w.heap T es v F css) (h0:0≤n) (h1:n<css.length)
 (h:∀b o,El w.heap T es v F css n.toNat b o→Q0 P l Q (upd ρ d (.pointer (some ⟨b,o,none⟩))) w):Q0 P (⟨none, .idx d es x i⟩::l) Q ρ w:=by
 obtain ⟨hlen,⟨hv,hc,_⟩|⟨b,off,cap,arr,hv,g1,g2,g3,g4,g5⟩⟩:=hs
 · subst hc;simp at h1;omega
 · subst hv
   exact Qa6 hx hi h0 h1 (h b _ ⟨⟨hlen, .inr ⟨b,off,cap,arr,rfl,g1,g2,g3,g4,g5⟩⟩,by omega,off,cap,rfl,rfl⟩)

theorem s_lenS {d:Nat}{x:Operand}(hx:ρ.ev x=v) (hs:Sl w.heap T es v F css) (h:Q0 P l Q (upd ρ d (.int .i64 css.length)) w):Q0 P (⟨none, .len d x⟩::l) Q ρ w:=by
 obtain ⟨a,c,hv⟩:=hs.shape
 exact s_len (hx.trans hv) h

theorem s_loadSj {d:Nat}{x:Operand}{m b o j:Nat}{c:List Value}{u:Value}(hx:ρ.ev x= .pointer (some ⟨b,o+j,none⟩)) (he:El w.heap T es v F css m b o) (hc:css[m]?=some c) (hu:c[j]?=some u)
 (h:Q0 P l Q (upd ρ d u) w):Q0 P (⟨none, .load1 d x⟩::l) Q ρ w:=QcK hx (he.cell hc hu) h
theorem s_loadnS {d:Nat}{x:Operand}{m b o:Nat}{c:List Value}(hx:ρ.ev x= .pointer (some ⟨b,o,none⟩)) (he:El w.heap T es v F css m b o) (hc:css[m]?=some c)
 (h:Q0 P l Q (upd ρ d (.agg ⟨c⟩)) w):Q0 P (⟨none, .loadn d es x⟩::l) Q ρ w:=QcJ hx (he.cells hc) h
theorem QcF {x y:Operand}{m b o j:Nat}{c:List Value}{u:Value}(hx:ρ.ev x= .pointer (some ⟨b,o+j,none⟩)) (hy:ρ.ev y=u) (he:El w.heap T es v F css m b o) (hc:css[m]?=some c) (hj:j<es) (ho:oneC u=true)
 (h:∀w',Fr F w w'→w'.heap.size=w.heap.size→El w'.heap T es v F (css.set m (c.set j u)) m b o→Q0 P l Q ρ w'):Q0 P (⟨none, .store1 x y⟩::l) Q ρ w:=by
 subst hy
 have hcl:c.length=es:=he.sl.1 c (List.mem_of_getElem? hc)
 obtain ⟨off,cap,arr,hv,g1,g2,g3,g4,g5,go⟩:=he.out
 have hb:=Q3P (es:=es) he.lt
 have hmul:css.length*es≤cap*es:=Nat.mul_le_mul_right es g1
 exact ⟨_,_,hx,he.cell hc (List.getElem?_eq_getElem (show j<c.length by omega)),g2.free (by omega),ho,h _ ((Q4h w b _ _).mono fun x _ hx=>(g5 x).2 hx) (by simp) (he.set hc hj)⟩
theorem QcD {n:Nat}{x y:Operand}{m b o:Nat}{c vs:List Value}(hx:ρ.ev x= .pointer (some ⟨b,o,none⟩)) (hy:ρ.ev y= .agg ⟨vs⟩) (hn:vs.length=n) (he:El w.heap T es v F css m b o) (hc:css[m]?=some c) (hl:vs.length=es) (ho:∀v∈vs,oneC v=true)
 (h:∀w',Fr F w w'→w'.heap.size=w.heap.size→El w'.heap T es v F (css.set m vs) m b o→Q0 P l Q ρ w'):Q0 P (⟨none, .storen n x y⟩::l) Q ρ w:=by
 subst hn
 have hcl:c.length=es:=he.sl.1 c (List.mem_of_getElem? hc)
 obtain ⟨w',h1,h2,h3,h4⟩:=El.setn (P:=P) vs w css c 0 he hc (by omega) ho
 refine ⟨_,_,w',hx,hy,rfl,h1,h w' h2 h3 ?_⟩
 have:c.take 0++(vs++c.drop (0+vs.length))=vs:=by simp;omega
 rw [this] at h4;exact h4

theorem s_subS {d:Nat}{x:Operand}{lo hi mx:Option Operand}{l' h':Nat}(hx:ρ.ev x=v) (hs:Sl w.heap T es v F css) (hmx:mx=none) (hh:bnd ρ css.length hi h') (hl:bnd ρ 0 lo l') (h2:h'≤css.length) (h3:l'≤h')
 (h:∀v',Sl w.heap T es v' F ((css.take h').drop l')→Q0 P l Q (upd ρ d v') w):Q0 P (⟨none, .sub d es x lo hi mx⟩::l) Q ρ w:=by
 subst hmx
 obtain ⟨hlen,⟨hv,hc,hF⟩|⟨b,off,cap,arr,hv,g1,g2,g3,g4,g5⟩⟩:=hs
 · subst hc hv
   simp only [List.length_nil,Nat.le_zero_eq] at h2
   subst h2
   have:l'=0:=by omega
   subst this
   refine s_sub (m:=0) hx rfl hh hl (Nat.le_refl _) (Nat.le_refl _) (Nat.le_refl _) ?_
   simp only [if_true,Nat.sub_self]
   exact h _ (by simpa using ⟨by simp, .inl ⟨rfl,rfl,hF⟩⟩)
 · subst hv
   refine s_sub (m:=cap) hx rfl hh hl (Nat.le_refl _) (by omega) h3 ?_
   refine h _ ⟨fun c hc=>hlen c (List.mem_of_mem_take (List.mem_of_mem_drop hc)), .inr ?_⟩
   have hl1:((css.take h').drop l').length=h' - l':=by simp;omega
   have hfl:∀i,i<(h' - l')*es→((css.take h').drop l').flatten[i]?=css.flatten[l'*es+i]?:=by
    intro i hi
    have e1:css=css.take l'++((css.take h').drop l'++css.drop h'):=by
     have:css.take l'=(css.take h').take l':=by rw [List.take_take,Nat.min_eq_left h3]
     rw [this,←List.append_assoc,List.take_append_drop,List.take_append_drop]
    have hlen':∀c∈css.take l',c.length=es:=fun c hc=>hlen c (List.mem_of_mem_take hc)
    have hlen2:∀c∈(css.take h').drop l',c.length=es:=fun c hc=>hlen c (List.mem_of_mem_take (List.mem_of_mem_drop hc))
    have f1:=Q1r hlen'
    have f2:=Q1r hlen2
    rw [hl1] at f2
    have ht:(css.take l').length=l':=by simp;omega
    rw [ht] at f1
    conv=>rhs;rw [e1]
    simp only [List.flatten_append]
    rw [List.getElem?_append_right (by omega),f1,Nat.add_sub_cancel_left,List.getElem?_append_left (by omega)]
   have hm1:l'*es≤cap*es:=Nat.mul_le_mul_right es (by omega)
   have hm2:(cap - l')*es=cap*es - l'*es:=Nat.sub_mul _ _ _
   have hm3:(h' - l')*es+l'*es=h'*es:=by rw [←Nat.add_mul];congr 1;omega
   have hm4:h'*es≤css.length*es:=Nat.mul_le_mul_right es h2
   by_cases hcl:cap=l'
   · rw [if_pos hcl]
     refine ⟨b,off,cap - l',arr,?_,by omega,g2,by omega,?_,g5⟩
     · rw [hl1]
     · intro i hi
       rw [hl1] at hi
       have:h' - l'=0:=by omega
       rw [this] at hi;omega
   · rw [if_neg hcl]
     refine ⟨b,off+l'*es,cap - l',arr,?_,by omega,g2,by omega,?_,g5⟩
     · rw [hl1];simp only [Option.map_some,Q1s]
     · intro i hi
       rw [hl1] at hi
       rw [hfl i hi,Nat.add_assoc,g4 (l'*es+i) (by omega)]
end
end Go.Lir
namespace Go.Lir

def Q2f (P:Program) (Ts:TypeId):Option (TypeId×Nat×Nat×List Value):=match P.underlying Ts with
 | some (.slice e)=>match P.info? e with
   | some i=>match i.zero with
     | some z=>if i.size=0∨i.bytes=0∨z.cells.size≠i.size then none else some (e,i.size,i.bytes,z.cells.toList)
     | none=>none
   | none=>none
 | _=>none

theorem Q4E {P:Program}{Ts e es nb:Nat}{z:List Value}(h:Q2f P Ts=some (e,es,nb,z)):
 ∃i zv,P.underlying Ts=some (.slice e)∧P.info? e=some i∧i.zero=some zv∧i.size=es∧i.bytes=nb∧zv.cells.toList=z∧0<es∧0<nb∧z.length=es:=by
 unfold Q2f at h
 split at h
 · rename_i e' hu
   split at h
   · rename_i i hi
     split at h
     · rename_i zv hz
       split at h
       · cases h
       · rename_i hc
         simp only [Option.some.injEq,Prod.mk.injEq] at h
         obtain ⟨rfl,rfl,rfl,rfl⟩:=h
         refine ⟨i,zv,hu,hi,hz,rfl,rfl,rfl,by omega,by omega,?_⟩
         have:zv.cells.size=i.size:=by omega
         simpa using this
     · cases h
   · cases h
 · cases h

def Src (P:Program) (w:World) (es:Nat) (v:Value) (css:List (List Value)):Prop:=
 (Builtin.lenOf v).run P w= .ok css.length w∧(∀c∈css,c.length=es)∧(∀c∈css,∀u∈c,oneC u=true)∧
 ∀w',(∀b,b<w.heap.size→w'.heap[b]?=w.heap[b]?)→(Builtin.firstCells es css.length v).run P w'= .ok ⟨css.flatten⟩ w'

theorem Sl.src {P:Program}{w:World}{T:TypeId}{es:Nat}{v:Value}{F:Nat→Prop}{css:List (List Value)}(h:Sl w.heap T es v F css) (ho:∀c∈css,∀u∈c,oneC u=true):Src P w es v css:=by
 have hlen:=h.1
 refine ⟨?_,hlen,ho,?_⟩
 · obtain ⟨a,c,hv⟩:=h.shape;rw [hv];rfl
 · intro w' hw'
   obtain ⟨_,⟨hv,hc,_⟩|⟨b,off,cap,arr,hv,g1,g2,g3,g4,g5⟩⟩:=h
   · subst hv hc;rfl
   · subst hv
     have g2':=g2.of_same (hw' b g2.lt)
     simp only [Builtin.firstCells]
     refine Q1i _ _ _ ⟨Q1r hlen,fun j hj=>?_⟩
     rw [Q1s]
     have hfl:=Q1r hlen
     have hm:=Nat.mul_le_mul_right es g1
     have:=g4 j (by omega)
     rw [List.getElem?_eq_getElem (show j<css.flatten.length from hfl ▸ hfl ▸ hj)] at this ⊢
     exact g2'.cell this

theorem Sl.fresh {H:Heap}{b:Nat}{T:TypeId}{es:Nat}{css:List (List Value)}{cs:List Value}(hb:Blk H b T cs) (hf:css.flatten=cs) (hl:∀c∈css,c.length=es){n:Nat}(hn:css.length=n):
 Sl H T es (.slice (some ⟨b,0,none⟩) n n) (· =b) css:=by
 subst hn hf
 refine ⟨hl, .inr ⟨b,0,css.length,css.flatten,rfl,Nat.le_refl _,hb,?_,?_,fun x=>Iff.rfl⟩⟩
 · rw [Q1r hl];omega
 · intro i _;rw [Nat.zero_add]

theorem Q7r {zero:Array Value}{n:Nat}:(Builtin.zeroCells zero n).toList.length=n*zero.size:=by simp [Builtin.zeroCells]

def QaM (w:World) (T:TypeId) (es:Nat) (F:Nat→Prop) (css css2:List (List Value)) (v':Value) (w':World):Prop:=
 ∃F',Sl w'.heap T es v' F' (css++css2)∧Fr F w w'∧∀b,F' b→F b∨w.heap.size≤b

theorem QbK {P:Program}{w:World}{Ts Ts2 Ty e es nb:Nat}{z:List Value}(hel:Q2f P Ts=some (e,es,nb,z)) (hts:(∃e2,P.underlying Ts2=some (.slice e2))∨P.underlying Ts2=some .string)
 {v v2:Value}{F:Nat→Prop}{css css2:List (List Value)}(hs:Sl w.heap e es v F css) (hsrc:Src P w es v2 css2) (hb:(css.length+css2.length)*nb≤140737488355328):
 ∃v' w',(Builtin.append_ #[Ts,Ts2] Ty #[v,v2]).run P w= .ok v' w'∧QaM w e es F css css2 v' w':=by
 obtain ⟨i,zv,hu,hi,hz,rfl,rfl,hzc,hes,hnb,hzl⟩:=Q4E hel
 obtain ⟨hl2,hlen2,hone2,hfc2⟩:=hsrc
 have hsz:(sizeOf e).run P w= .ok i.size w:=by simp [sizeOf,Q2q P e i w hi]
 have hlen:=hs.1
 have hzs:zv.cells.size=i.size:=by rw [←Array.length_toList,hzc];exact hzl
 have hsmall:css.length+css2.length≤140737488355328:=Nat.le_trans (Nat.le_mul_of_pos_right _ hnb) hb
 have hf1:=Q1r hlen
 have hf2:=Q1r hlen2
 -- the growing way
 have grow:∀(base:Option Addr) (cap:Nat),v= .slice base css.length cap→cap<css.length+css2.length→
  (∀w',(∀b,b<w.heap.size→w'.heap[b]?=w.heap[b]?)→(Builtin.firstCells i.size css.length v).run P w'= .ok ⟨css.flatten⟩ w')→
  ∃v' w',(Builtin.append_ #[Ts,Ts2] Ty #[v,v2]).run P w= .ok v' w'∧QaM w e i.size F css css2 v' w':=by
  intro base cap hv hcap hold
  have hq:Question.forced (.appendCap (css.length+css2.length) cap e)=false:=rfl
  let nc:=Question.cut (.appendCap (css.length+css2.length) cap e) (w.tape w.drawn (.appendCap (css.length+css2.length) cap e))
  have hnc:css.length+css2.length≤nc:=by simp only [nc,Question.cut];omega
  have h1:=hold w.drew (fun _ _=>rfl)
  have h2:=hfc2 w.drew (fun _ _=>rfl)
  have hgs:=growslice_fits hcap hb
  refine ⟨.slice (some ⟨w.heap.size,0,none⟩) (css.length+css2.length) nc,w.drew.alloc (.cells (⟨css.flatten⟩++⟨css2.flatten⟩++Builtin.zeroCells zv.cells (nc - (css.length+css2.length))) e),?_,?_⟩
  · subst hv
    have hw:({w with drawn:=w.drawn+1}:World)=w.drew:=rfl
    simp only [Builtin.append_,List.getElem?_toArray,List.getElem?_cons_zero,List.getElem?_cons_succ,Sem.run_bind,Q6 P Ts _ w hu,Result.andThen_ok,hsz]
    have hnr:¬(css.length+css2.length≤cap):=by omega
    have hnx:¬(Builtin.nextslicecap (css.length+css2.length) cap*i.bytes>2 ^ 48):=by omega
    rcases hts with ⟨e2,hd⟩|hd
    all_goals
     simp only [Q6 P Ts2 _ w hd,Result.andThen_ok,Sem.run_pure,Bool.false_eq_true,if_false,hl2,Sem.run_ite,if_neg hnr,Sem.run_bind,Q2q P e i _ hi,if_neg hnx]
    all_goals
     simp only [run_choose,hq,Bool.false_eq_true,if_false,Result.andThen_ok,run_askRoom,hw]
     rw [h1]
     simp only [Result.andThen_ok,Bool.not_false,if_true]
     rw [h2]
     simp only [Result.andThen_ok,Q1C P e zv _ (by simp [Q9O,hi,hz]),newRow,Sem.run_bind,run_newObj,Sem.run_pure]
     rw [if_neg (by rintro ⟨_,h|h⟩;exact h;omega)]
     rfl
  · have hblk:=Q3c w.drew ((⟨css.flatten⟩++⟨css2.flatten⟩++Builtin.zeroCells zv.cells (nc - (css.length+css2.length)):Array Value).toList) e
    refine ⟨(· =w.heap.size),⟨?_, .inr ⟨w.heap.size,0,nc,_,by simp,by simpa using hnc,hblk,?_,?_,fun x=>Iff.rfl⟩⟩,((Q3s w.drew _).drew).any,fun b hb=> .inr (Nat.le_of_eq hb.symm)⟩
    · intro c hc
      rcases List.mem_append.1 hc with hc|hc
      · exact hlen c hc
      · exact hlen2 c hc
    · simp only [Array.toList_append,List.length_append,Q7r,hf1,hf2,hzs,←Nat.add_mul,Nat.zero_add]
      exact Nat.mul_le_mul_right _ (by omega)
    · intro j hj
      simp only [List.length_append] at hj
      rw [Nat.zero_add,Array.toList_append,Array.toList_append,List.flatten_append]
      rw [List.getElem?_append_left (by simp only [List.length_append,hf1,hf2,←Nat.add_mul];exact hj)]
 obtain ⟨_,⟨hv,hc,hF⟩|⟨b,off,cap,arr,hv,g1,g2,g3,g4,g5⟩⟩:=hs
 · by_cases hc2:css2=[]
   · subst hc hc2 hv
     refine ⟨.slice none 0 0,w,?_,F,⟨by simp, .inl ⟨rfl,rfl,hF⟩⟩,Fr.refl _ _,fun b hb=> .inl hb⟩
     have h2:=hfc2 w (fun _ _=>rfl)
     simp only [List.length_nil] at h2
     simp only [Builtin.append_,List.getElem?_toArray,List.getElem?_cons_zero,List.getElem?_cons_succ,Sem.run_bind,Q6 P Ts _ w hu,Result.andThen_ok,hsz]
     rcases hts with ⟨e2,hd⟩|hd
     all_goals
      simp only [Q6 P Ts2 _ w hd,Sem.run_pure,Result.andThen_ok,Bool.false_eq_true,if_false,hl2,List.length_nil,Nat.add_zero,Nat.le_refl,if_true,Bool.not_false,Sem.run_bind]
      rw [h2]
      rfl
   · refine grow none 0 (by rw [hv,hc];rfl) ?_ ?_
     · have:0<css2.length:=List.length_pos_iff.2 hc2
       omega
     · intro w' _;subst hv hc;rfl
 · by_cases hroom:css.length+css2.length≤cap
   · have hm:=Nat.mul_le_mul_right i.size hroom
     rw [Nat.add_mul] at hm
     have h2:=hfc2 w (fun _ _=>rfl)
     have hone:∀u∈css2.flatten,oneC u=true:=by
      intro u hu
      obtain ⟨c,hc,hu⟩:=List.mem_flatten.1 hu
      exact hone2 c hc u hu
     obtain ⟨w',h3,h4,h5,h6⟩:=Q4p P b e css2.flatten w arr (off+css.length*i.size) 0 g2 (by omega) hone
     refine ⟨.slice (some ⟨b,off,none⟩) (css.length+css2.length) cap,w',?_,F,⟨?_, .inr ⟨b,off,cap,_,by simp,by simpa using hroom,h6,?_,?_,g5⟩⟩,h4.mono (fun x _ hx=>(g5 x).2 hx),fun x hx=> .inl hx⟩
     · subst hv
       simp only [Builtin.append_,List.getElem?_toArray,List.getElem?_cons_zero,List.getElem?_cons_succ,Sem.run_bind,Q6 P Ts _ w hu,Result.andThen_ok,hsz]
       rcases hts with ⟨e2,hd⟩|hd
       all_goals
        simp only [Q6 P Ts2 _ w hd,Sem.run_pure,Result.andThen_ok,Bool.false_eq_true,if_false,hl2,hroom,if_true,Bool.not_false,Sem.run_bind]
        rw [h2]
        simp only [Result.andThen_ok,Q1s,h3]
     · intro c hc
       rcases List.mem_append.1 hc with hc|hc
       · exact hlen c hc
       · exact hlen2 c hc
     · simp only [List.length_append,List.length_take,List.length_drop];omega
     · intro j hj
       simp only [List.length_append,Nat.add_mul] at hj
       rw [List.flatten_append]
       simp only [Nat.add_zero]
       have hlt:(arr.take (off+css.length*i.size)).length=off+css.length*i.size:=by simp;omega
       by_cases hj1:j<css.length*i.size
       · rw [List.getElem?_append_left (by omega),List.getElem?_take_of_lt (by omega),List.getElem?_append_left (by omega)]
         exact g4 j hj1
       · rw [List.getElem?_append_right (by omega),hlt,List.getElem?_append_left (by omega),List.getElem?_append_right (by omega),hf1]
         congr 1;omega
   · refine grow (some ⟨b,off,none⟩) cap hv (by omega) ?_
     intro w' hw'
     subst hv
     have g2':=g2.of_same (hw' b g2.lt)
     simp only [Builtin.firstCells]
     refine Q1i _ _ _ ⟨hf1,fun j hj=>?_⟩
     rw [Q1s]
     have:=g4 j hj
     rw [List.getElem?_eq_getElem (show j<css.flatten.length by omega)] at this ⊢
     exact g2'.cell this

section
variable {P:Program}{l:List GO}{Q:QT}{ρ:Env}{w:World}

theorem s_app {d:Nat}{Ts Ts2 Ty e es nb:Nat}{z:List Value}{x y:Operand}{v v2:Value}{F:Nat→Prop}{css css2:List (List Value)}(hel:Q2f P Ts=some (e,es,nb,z))
 (hts:(∃e2,P.underlying Ts2=some (.slice e2))∨P.underlying Ts2=some .string) (hx:ρ.ev x=v) (hy:ρ.ev y=v2) (hs:Sl w.heap e es v F css) (hsrc:Src P w es v2 css2) (hb:(css.length+css2.length)*nb≤140737488355328)
 (h : ∀ v' w', QaM w e es F css css2 v' w' → Q0 P l Q (upd ρ d v') w') : Q0 P (⟨none, .raw ⟨some d, .call ⟨.builtin .append, #[x, y], #[Ts, Ts2]⟩, Ty, "", #[], none⟩⟩ :: l) Q ρ w := by
 obtain ⟨v',w',hr,hp⟩:=QbK (Ty:=Ty) hel hts hs hsrc hb
 refine QR (v:=v') (w':=w') ?_ (h v' w' hp)
 simp only [execOp,resolve,Sem.run_bind,Sem.run_pure,Result.andThen_ok,invoke,builtin]
 have e1:(#[x,y].map ρ.ev)=#[v,v2]:=by simp [hx,hy]
 rw [e1,hr];rfl
theorem Q8Y {z:List Value}{es:Nat}(hz:z.length=es) (hes:0<es) (n:Nat):(List.range (n*es)).map (fun i=>z.getD (i % es) default)=(List.replicate n z).flatten:=by
 apply List.ext_getElem?
 intro i
 have hl:∀c∈List.replicate n z,c.length=es:=by intro c hc;rw [List.eq_of_mem_replicate hc];exact hz
 have hfl:=Q1r hl
 simp only [List.length_replicate] at hfl
 by_cases hi:i<n*es
 · have hq:i / es<n:=Nat.div_lt_of_lt_mul (by rw [Nat.mul_comm];exact hi)
   have hm:i % es<es:=Nat.mod_lt _ hes
   have e:=Q3t hl (m:=i / es) (j:=i % es) (c:=z) (by simp [hq]) hm
   have hdm:i / es*es+i % es=i:=by rw [Nat.mul_comm];exact Nat.div_add_mod i es
   rw [hdm] at e
   rw [e]
   simp only [List.getElem?_map,List.getElem?_range hi,Option.map_some]
   rw [List.getD_eq_getElem?_getD,List.getElem?_eq_getElem (show i % es<z.length by omega)]
   rfl
 · rw [List.getElem?_eq_none (by simp;omega),List.getElem?_eq_none (by omega)]

theorem s_make {d:Nat}{Ts Ty e es nb:Nat}{z:List Value}{x y:Operand}{k k':IntKind}{n:Int}(hel:Q2f P Ts=some (e,es,nb,z)) (hx:ρ.ev x= .int k n) (hy:ρ.ev y= .int k' n) (h0:0≤n) (hn:n*nb≤281474976710656)
 (h:∀v' w',Fr NF w w'→Sl w'.heap e es v' (· =w.heap.size) (List.replicate n.toNat z)→w'.heap.size=w.heap.size+1→Q0 P l Q (upd ρ d v') w'):
 Q0 P (⟨none, .raw ⟨some d, .makeSlice Ts x y, Ty, "", #[], none⟩⟩ :: l) Q ρ w := by
 obtain ⟨i,zv,hu,hi,hz,rfl,rfl,hzc,hes,hnb,hzl⟩:=Q4E hel
 have hzs:zv.cells.size=i.size:=by rw [←Array.length_toList,hzc];exact hzl
 have hle:n≤281474976710656:=by
  have:n*1≤n*i.bytes:=Int.mul_le_mul_of_nonneg_left (by omega) h0
  omega
 have hwr:IntKind.i64.wrap n=n:=Q4K (by omega) (by omega)
 have hfl:=Q8Y hzl hes n.toNat
 have hl:∀c∈List.replicate n.toNat z,c.length=i.size:=by intro c hc;rw [List.eq_of_mem_replicate hc];exact hzl
 have hb:(i.bytes:Int)*n≤281474976710656:=by rw [Int.mul_comm];exact hn
 have hlarge:(n<0||decide ((i.bytes:Int)*n>2 ^ 48))=false:=by
  simp only [Bool.or_eq_false_iff,decide_eq_false_iff_not];omega
 refine QR (v:= .slice (some ⟨w.heap.size,0,none⟩) n.toNat n.toNat) (w':=w.alloc (.cells ⟨(List.replicate n.toNat z).flatten⟩ e)) ?_ ?_
 · simp only [execOp,Instr.makeSlice,Sem.run_bind,Q6 P Ts _ w hu,Result.andThen_ok,hx,hy,asInt,asIntOf,Sem.run_pure,Q2q P e i _ hi,hwr,hlarge,Bool.false_or]
   have hc2:(decide (n<0)||decide (n>n))=false:=by simp only [Bool.or_eq_false_iff,decide_eq_false_iff_not];omega
   rw [hc2]
   simp only [Bool.false_eq_true,if_false,Sem.run_bind,run_askRoom,Result.andThen_ok,QQ P e i.size w (by simp [Q2F,hi])]
   by_cases hnz:n.toNat*i.size=0
   · rw [if_pos hnz]
     have hn0:n.toNat=0:=by
      rcases Nat.mul_eq_zero.1 hnz with h|h
      · exact h
      · omega
     simp only [Sem.run_pure,Result.andThen_ok,newRow,Sem.run_bind,run_newObj,hn0,Nat.zero_mul]
     have hr0:Array.range 0=#[]:=rfl
     rw [hr0,Array.map_empty]
     rfl
   · rw [if_neg hnz]
     simp only [Sem.run_bind,Q1C P e zv _ (by simp [Q9O,hi,hz]),Sem.run_pure,Result.andThen_ok,newRow,run_newObj]
     have harr:((Array.range (n.toNat*i.size)).map (zv.cells[· % zv.cells.size]!):Array Value)=⟨(List.replicate n.toNat z).flatten⟩:=by
      apply Array.ext'
      rw [←hfl]
      simp [hzs,←hzc]
      intro a _
      rw [Array.getElem!_eq_getD,Array.getD_eq_getD_getElem?]
     rw [harr]
     rfl
 · exact h _ _ (Q3s w _) (Sl.fresh (Q3c w _ e) rfl hl (by simp)) (by simp)

end
end Go.Lir
namespace Go.Lir

def QdK (H:Heap) (b i:Nat):Option Value:=match H[b]? with
 | some (.cells c _ _)=>c[i]?
 | _=>none
theorem Q7Y (w:World) (b i:Nat):w.cell? ⟨b,i,none⟩=QdK w.heap b i:=by
 unfold World.cell? QdK
 cases w.heap[b]? with
 | none=>rfl
 | some o=>cases o<;>rfl

def At (H:Heap) (b o:Nat) (c:List Value):Prop:=∀(j:Nat) (u:Value),c[j]?=some u→QdK H b (o+j)=some u

def SlR (H:Heap) (es:Nat) (v:Value) (F:Nat→Prop) (css:List (List Value)):Prop:=
 (∀c∈css,c.length=es)∧∃a cap,v= .slice a css.length cap∧css.length≤cap∧
   (css=[]∨∃b off,a=some ⟨b,off,none⟩∧F b∧b<H.size∧∀(m:Nat) (c:List Value),css[m]?=some c→At H b (off+m*es) c)

theorem At.of_same {H H':Heap}{b o:Nat}{c:List Value}(h:At H b o c) (he:H'[b]?=H[b]?):At H' b o c:=fun j u hj=>by
 have:=h j u hj
 unfold QdK at this ⊢
 rw [he];exact this
theorem At.cell {w:World}{b o j:Nat}{c:List Value}{u:Value}(h:At w.heap b o c) (hj:c[j]?=some u):w.cell? ⟨b,o+j,none⟩=some u:=by rw [Q7Y];exact h j u hj
theorem At.cells {w:World}{b o:Nat}{c:List Value}(h:At w.heap b o c){j n:Nat}{vs:List Value}(hv:(c.drop j).take n=vs) (hl:vs.length=n):Q42 w ⟨b,o+j,none⟩ n vs:=by
 refine ⟨hl,fun i hi=>?_⟩
 rw [Q1s,Nat.add_assoc]
 have e:vs[i]?=c[j+i]?:=by rw [←hv,List.getElem?_take_of_lt hi,List.getElem?_drop]
 have h1:vs.length=min n (c.length - j):=by rw [←hv];simp
 rw [e,List.getElem?_eq_getElem (by omega)]
 exact h.cell (List.getElem?_eq_getElem (by omega))

theorem SlR.of_same {H H':Heap}{es:Nat}{v:Value}{F:Nat→Prop}{css:List (List Value)}(h:SlR H es v F css) (hs:∀b,F b→b<H.size→H'[b]?=H[b]?):SlR H' es v F css:=by
 obtain ⟨h0,a,cap,hv,hlc,hc|⟨b,off,ha,hF,hb,hat⟩⟩:=h
 · exact ⟨h0,a,cap,hv,hlc, .inl hc⟩
 · refine ⟨h0,a,cap,hv,hlc, .inr ⟨b,off,ha,hF,?_,fun m c hm=>(hat m c hm).of_same (hs b hF hb)⟩⟩
   have:=hs b hF hb
   rcases Nat.lt_or_ge b H'.size with h|h
   · exact h
   · rw [Array.getElem?_eq_none h,Array.getElem?_eq_getElem hb] at this;cases this
theorem SlR.fr {F G:Nat→Prop}{w w':World}{es:Nat}{v:Value}{css:List (List Value)}(h:SlR w.heap es v F css) (hf:Fr G w w') (hn:∀b,F b→¬G b):SlR w'.heap es v F css:=
 h.of_same fun b hb hlt=>hf.same b hlt (hn b hb)
theorem SlR.fr0 {F:Nat→Prop}{w w':World}{es:Nat}{v:Value}{css:List (List Value)}(h:SlR w.heap es v F css) (hf:Fr NF w w'):SlR w'.heap es v F css:=h.fr hf fun _ _ h=>h
theorem SlR.mono {H:Heap}{F G:Nat→Prop}{es:Nat}{v:Value}{css:List (List Value)}(h:SlR H es v F css) (hs:∀b,b<H.size→F b→G b):SlR H es v G css:=by
 obtain ⟨h0,a,cap,hv,hlc,hc|⟨b,off,ha,hF,hb,hat⟩⟩:=h
 · exact ⟨h0,a,cap,hv,hlc, .inl hc⟩
 · exact ⟨h0,a,cap,hv,hlc, .inr ⟨b,off,ha,hs b hb hF,hb,hat⟩⟩
theorem SlR.shape {H:Heap}{es:Nat}{v:Value}{F:Nat→Prop}{css:List (List Value)}(h:SlR H es v F css):∃a c,v= .slice a css.length c:=by
 obtain ⟨_,a,cap,hv,_⟩:=h;exact ⟨a,cap,hv⟩

theorem Sl.toR {H:Heap}{T:TypeId}{es:Nat}{v:Value}{F:Nat→Prop}{css:List (List Value)}(h:Sl H T es v F css):SlR H es v F css:=by
 obtain ⟨h0,⟨hv,hc,_⟩|⟨b,off,cap,arr,hv,g1,g2,g3,g4,g5⟩⟩:=h
 · subst hc;exact ⟨h0,none,0,hv,Nat.le_refl _, .inl rfl⟩
 · refine ⟨h0,_,cap,hv,g1, .inr ⟨b,off,rfl,(g5 b).2 rfl,g2.lt,fun m c hm j u hu=>?_⟩⟩
   have hm':m<css.length:=(List.getElem?_eq_some_iff.1 hm).1
   have hcl:c.length=es:=h0 c (List.mem_of_getElem? hm)
   have hj:j<es:=by have:=(List.getElem?_eq_some_iff.1 hu).1;omega
   have hb:=Q3P (es:=es) hm'
   have:=g4 (m*es+j) (by omega)
   rw [Q3t h0 hm hj,hu] at this
   obtain ⟨fz,g2,_⟩:=g2
   unfold QdK
   rw [g2,Nat.add_assoc]
   simpa using this

theorem SlR.src {P:Program}{w:World}{es:Nat}{v:Value}{F:Nat→Prop}{css:List (List Value)}(h:SlR w.heap es v F css) (ho:∀c∈css,∀u∈c,oneC u=true):Src P w es v css:=by
 obtain ⟨h0,a,cap,hv,hlc,hc⟩:=h
 subst hv
 refine ⟨rfl,h0,ho,?_⟩
 intro w' hw'
 rcases hc with hc|⟨b,off,ha,hF,hb,hat⟩
 · subst hc
   cases a<;>simp [Builtin.firstCells,loadCells,loadCellsFrom]
 · subst ha
   simp only [Builtin.firstCells]
   have hfl:=Q1r h0
   refine Q1i _ _ _ ⟨hfl,fun j hj=>?_⟩
   rw [Q1s]
   have hes:0<es:=by
    rcases Nat.eq_zero_or_pos es with h|h
    · subst h;simp at hj
    · exact h
   have hq:j / es<css.length:=Nat.div_lt_of_lt_mul (by rw [Nat.mul_comm];exact hj)
   have hm:j % es<es:=Nat.mod_lt _ hes
   have hdm:j / es*es+j % es=j:=by rw [Nat.mul_comm];exact Nat.div_add_mod j es
   have hcm:css[j / es]?=some css[j / es]:=List.getElem?_eq_getElem hq
   have e:=Q3t h0 hcm hm
   rw [hdm] at e
   have hcl:css[j / es].length=es:=h0 _ (List.getElem_mem hq)
   rw [e,List.getElem?_eq_getElem (by omega)]
   have:=((hat _ _ hcm).of_same (hw' b hb)).cell (j:=j % es) (List.getElem?_eq_getElem (by omega))
   rw [Nat.add_assoc,hdm] at this
   exact this

section
variable {P:Program}{l:List GO}{Q:QT}{ρ:Env}{w:World}{es:Nat}{v:Value}{F:Nat→Prop}{css:List (List Value)}

theorem s_loadA {d:Nat}{x:Operand}{b o:Nat}{c:List Value}{u:Value}(hx:ρ.ev x= .pointer (some ⟨b,o,none⟩)) (ha:At w.heap b o c) (hu:c[0]?=some u)
 (h:Q0 P l Q (upd ρ d u) w):Q0 P (⟨none, .load1 d x⟩::l) Q ρ w:=QcK hx (by have:=ha.cell hu;simpa using this) h
theorem s_loadAj {d:Nat}{x:Operand}{b o j:Nat}{c:List Value}{u:Value}(hx:ρ.ev x= .pointer (some ⟨b,o+j,none⟩)) (ha:At w.heap b o c) (hu:c[j]?=some u)
 (h:Q0 P l Q (upd ρ d u) w):Q0 P (⟨none, .load1 d x⟩::l) Q ρ w:=QcK hx (ha.cell hu) h
theorem s_loadnA {d n:Nat}{x:Operand}{b o:Nat}{c:List Value}(hx:ρ.ev x= .pointer (some ⟨b,o,none⟩)) (ha:At w.heap b o c) (hl:c.length=n)
 (h:Q0 P l Q (upd ρ d (.agg ⟨c⟩)) w):Q0 P (⟨none, .loadn d n x⟩::l) Q ρ w:=
 QcJ hx (by have:=ha.cells (j:=0) (n:=n) (vs:=c) (by rw [List.drop_zero,List.take_of_length_le (by omega)]) hl;simpa using this) h
end


def Fits (P:Program) (T:TypeId){Hd:Type}(y:DataW Hd):Prop:=∀n∈y.weights P T,n≤reachBytes
theorem Q4o {P:Program}{e:TypeId}{Hd:Type}:∀{l:List (DataW Hd)}{d:DataW Hd},d∈l→∀n∈d.weights P e,n∈DataW.weightsAll P e l
 | [],_,h=>by cases h
 | x::l,d,h=>fun n hn=>by
   rw [DataW.weightsAll,List.mem_append]
   rcases List.mem_cons.1 h with rfl|h
   · exact .inl hn
   · exact .inr (Q4o h n hn)
theorem Q2E {P:Program}{Hd:Type}:∀{ts:List TypeId}{l:List (DataW Hd)}{i:Nat}{t:TypeId}{d:DataW Hd},ts[i]?=some t→l[i]?=some d→∀n∈d.weights P t,n∈DataW.weightsEach P ts l
 | [],_,_,_,_,h,_=>by simp at h
 | _::_,[],_,_,_,_,h=>by simp at h
 | t::ts,x::l,0,_,_,h1,h2=>fun n hn=>by
   simp only [List.getElem?_cons_zero,Option.some.injEq] at h1 h2
   subst h1 h2
   rw [DataW.weightsEach,List.mem_append];exact .inl hn
 | t::ts,x::l,i+1,_,_,h1,h2=>fun n hn=>by
   rw [DataW.weightsEach,List.mem_append]
   exact .inr (Q2E (i:=i) (by simpa using h1) (by simpa using h2) n hn)
theorem fits_arg {P:Program}{Hd:Type}{ts us:List TypeId}{l m:List (DataW Hd)}{i:Nat}{t:TypeId}{d:DataW Hd}(h:(DataW.weightsEach P (ts++us) (l++m)).all (· ≤reachBytes)=true) (h1:ts[i]?=some t) (h2:l[i]?=some d):Fits P t d:=by
 intro n hn
 have h3:(ts++us)[i]?=some t:=by rw [List.getElem?_append_left (List.getElem?_eq_some_iff.1 h1).1];exact h1
 have h4:(l++m)[i]?=some d:=by rw [List.getElem?_append_left (List.getElem?_eq_some_iff.1 h2).1];exact h2
 have:=List.all_eq_true.1 h n (Q2E h3 h4 n hn)
 exact of_decide_eq_true this
theorem Q7W {P:Program}{T e:TypeId}{Hd:Type}{elems spare:List (DataW Hd)}(ht:P.underlying T=some (.slice e)) (h:Fits P T (.slice elems spare)) (hb:0<P.bytesOf e):elems.length≤140737488355328∧∀d∈elems,Fits P e d:=by
 unfold Fits at h
 rw [DataW.weights,ht] at h
 refine ⟨?_,fun d hd n hn=>h n (List.mem_cons_of_mem _ (List.mem_append_left _ (Q4o hd n hn)))⟩
 have h1:=h _ (List.mem_cons_self ..)
 have h2:elems.length*1≤(elems.length+spare.length)*P.bytesOf e:=Nat.mul_le_mul (by omega) hb
 unfold reachBytes at h1
 omega
theorem Q7c {P:Program}{T:TypeId}{Hd:Type}{fs:Array Field}{parts:List (DataW Hd)}(ht:P.underlying T=some (.struct fs)) (h:Fits P T (.agg parts)){i:Nat}{f:Field}{d:DataW Hd}(hf:fs[i]?=some f) (hd:parts[i]?=some d):Fits P f.type d:=by
 unfold Fits at h
 rw [DataW.weights,ht] at h
 exact fun n hn=>h n (Q2E (i:=i) (by rw [List.getElem?_map,Array.getElem?_toList,hf];rfl) hd n hn)
structure Cod (P:Program) (T:TypeId) (α:Type) where
 es:Nat
 rd:Heap→List Value→α→Prop
 size:P.cellsOf T=es
 len:∀H cs x,rd H cs x→cs.length=es
 stay:∀(H H':Heap) cs x,rd H cs x→(∀b,b<H.size→H'[b]?=H[b]?)→rd H' cs x
 open_:∀{Hd:Type}(enc:TypeId×Value→Hd) (w:World) (fuel:Nat) (cs:List Value) (y:DataW Hd×List MemPlace),DataW.trod enc P w 0 (fun _=>true) true fuel T cs=some y→Fits P T y.1→∃x,rd w.heap cs x

def Cod.int {P:Program}{T:TypeId}(k:IntKind) (ht:P.underlying T=some (.int k)) (hs:P.cellsOf T=1):Cod P T Int where
 es:=1
 rd:=fun _ cs n=>cs=[.int k n]∧(Lit.int k n).wf=true
 size:=hs
 len:=by rintro _ _ _ ⟨rfl,_⟩;rfl
 stay:=fun _ _ _ _ h _=>h
 open_:=fun enc w fuel cs y h _=>by
  obtain ⟨n,h1,_,h2⟩:=DataW.trod_int ht h
  exact ⟨n,h1,h2⟩

def Cod.bool {P:Program}{T:TypeId}(ht:P.underlying T=some .bool) (hs:P.cellsOf T=1):Cod P T Bool where
 es:=1
 rd:=fun _ cs n=>cs=[.bool n]
 size:=hs
 len:=by rintro _ _ _ rfl;rfl
 stay:=fun _ _ _ _ h _=>h
 open_:=fun enc w fuel cs y h _=>by
  obtain ⟨n,h1,_⟩:=DataW.trod_bool ht h
  exact ⟨n,h1⟩

theorem Q6n {w:World}{a:Addr}{n:Nat}{cs:List Value}(h:w.cells? 0 a n=some cs) (hn:0<n):a.spot=none∧a.block<w.heap.size∧At w.heap a.block a.off cs:=by
 obtain ⟨_,hl,hc⟩:=World.cells?_some h
 have h0:=hc 0 hn
 have hs:cs[0]?=some (cs[0]'(by omega)):=List.getElem?_eq_getElem (by omega)
 rw [hs] at h0
 have hadd0:a.add 0=a:=rfl
 rw [hadd0] at h0
 obtain ⟨b,o,s⟩:=a
 have hsp:s=none:=by
  cases s with
  | none=>rfl
  | some x=>
    unfold World.cell? at h0
    split at h0<;>simp at h0
 subst hsp
 refine ⟨rfl,?_,fun j u hj=>?_⟩
 · rcases Nat.lt_or_ge b w.heap.size with h|h
   · exact h
   · unfold World.cell? at h0;simp [Array.getElem?_eq_none h] at h0
 · have hlt:=(List.getElem?_eq_some_iff.1 hj).1
   have:=hc j (by omega)
   rw [Q1s,hj,Q7Y] at this
   exact this

def Cod.slice {P:Program}{T e:TypeId}{α:Type}(c:Cod P e α) (ht:P.underlying T=some (.slice e)) (hs:P.cellsOf T=1) (hes:0<c.es) (hby:decide (0<P.bytesOf e)=true):Cod P T (List α) where
 es:=1
 rd:=fun H cs xs=>∃v css,cs=[v]∧SlR H c.es v (fun _=>True) css∧css.length=xs.length∧xs.length≤140737488355328∧∀(m:Nat) (x:α),xs[m]?=some x→∃d,css[m]?=some d∧c.rd H d x
 size:=hs
 len:=by rintro _ _ _ ⟨v,css,rfl,_⟩;rfl
 stay:=by
  rintro H H' _ xs ⟨v,css,rfl,h1,h2,h3,h4⟩ hH
  exact ⟨v,css,rfl,h1.of_same fun b _ hb=>hH b hb,h2,h3,fun m x hm=>by obtain ⟨d,h5,h6⟩:=h4 m x hm;exact ⟨d,h5,c.stay _ _ _ _ h6 hH⟩⟩
 open_ :=by
  intro Hd enc w fuel cs y h hfit
  rcases Go.Deep.open_slice ht h with ⟨rfl,_⟩|⟨a,len,cap,m,n,D,Pl,rfl,_,hl,hm,hmm,hy,hi⟩
  · exact ⟨[], .slice none 0 0,[],rfl,⟨by simp,none,0,rfl,Nat.le_refl _, .inl rfl⟩,rfl,by simp,by simp⟩
  · have hmc:m=cap:=by simpa using hmm
    subst hmc
    rw [hy] at hfit
    obtain ⟨hlen,hel0⟩:=Q7W ht hfit (of_decide_eq_true hby)
    simp only [List.length_map,List.length_range] at hlen
    -- each element
    have hel:∀i,i<len→∃(d:List Value) (x:α),w.cells? 0 (a.add (i*c.es)) c.es=some d∧c.rd w.heap d x:=by
     intro i hi'
     obtain ⟨d,h1,h2⟩:=hi i (by omega)
     rw [c.size] at h1
     obtain ⟨x,hx⟩:=c.open_ enc w n d _ h2 (hel0 _ (List.mem_map.2 ⟨i,List.mem_range.2 hi',rfl⟩))
     exact ⟨d,x,h1,hx⟩
    have build:∀n,n≤len→∃(css:List (List Value)) (xs:List α),css.length=n∧xs.length=n∧
     ∀m,m<n→∃d x,css[m]?=some d∧xs[m]?=some x∧w.cells? 0 (a.add (m*c.es)) c.es=some d∧c.rd w.heap d x:=by
     intro n
     induction n with
     | zero=>intro _;exact ⟨[],[],rfl,rfl,fun m hm=>absurd hm (by omega)⟩
     | succ n ih=>
       intro hn
       obtain ⟨css,xs,h1,h2,h3⟩:=ih (by omega)
       obtain ⟨d,x,h4,h5⟩:=hel n (by omega)
       refine ⟨css++[d],xs++[x],by simp [h1],by simp [h2],fun m hm=>?_⟩
       by_cases hmn:m=n
       · subst hmn
         exact ⟨d,x,by rw [List.getElem?_append_right (by omega),h1];simp,by rw [List.getElem?_append_right (by omega),h2];simp,h4,h5⟩
       · obtain ⟨d',x',g1,g2,g3,g4⟩:=h3 m (by omega)
         exact ⟨d',x',by rw [List.getElem?_append_left (by omega)];exact g1,by rw [List.getElem?_append_left (by omega)];exact g2,g3,g4⟩
    obtain ⟨css,xs,h1,h2,h3⟩:=build len (Nat.le_refl _)
    refine ⟨xs, .slice (some a) len m,css,rfl,⟨?_,some a,m,by rw [h1],by omega,?_⟩,by omega,by omega,?_⟩
    · intro d hd
      obtain ⟨i,hi'⟩:=List.mem_iff_getElem?.1 hd
      have hlt:=(List.getElem?_eq_some_iff.1 hi').1
      obtain ⟨d',x',g1,g2,g3,g4⟩:=h3 i (by omega)
      rw [hi'] at g1
      simp only [Option.some.injEq] at g1
      subst g1
      exact c.len _ _ _ g4
    · rcases Nat.eq_zero_or_pos len with h0|h0
      · exact .inl (List.eq_nil_of_length_eq_zero (by omega))
      · obtain ⟨d0,x0,_,_,g3,_⟩:=h3 0 h0
        obtain ⟨hsp,hbl,_⟩:=Q6n g3 hes
        have ha0:a.add (0*c.es)=a:=by rw [Nat.zero_mul];rfl
        rw [ha0] at hsp hbl
        obtain ⟨b,o,s⟩:=a
        simp only at hsp
        subst hsp
        refine .inr ⟨b,o,rfl,trivial,hbl,fun i d hd=>?_⟩
        have hlt:=(List.getElem?_eq_some_iff.1 hd).1
        obtain ⟨d',x',g1,g2,g3,g4⟩:=h3 i (by omega)
        rw [hd] at g1
        simp only [Option.some.injEq] at g1
        subst g1
        rw [Q1s] at g3
        exact (Q6n g3 hes).2.2
    · intro i x hx
      have hlt:=(List.getElem?_eq_some_iff.1 hx).1
      obtain ⟨d',x',g1,g2,g3,g4⟩:=h3 i (by omega)
      rw [hx] at g2
      simp only [Option.some.injEq] at g2
      subst g2
      exact ⟨d',g1,g4⟩

def fieldAt (P:Program) (T:TypeId) (i:Nat):Option (Nat×Nat×TypeId):=match P.underlying T with
 | some (.struct fs)=>(fs[i]?).map fun f=>(f.offset,P.cellsOf f.type,f.type)
 | _=>none

theorem Q6u {Hd:Type}{enc:TypeId×Value→Hd}{P:Program}{w:World}{T:TypeId}{fuel:Nat}{cs:List Value}{y:DataW Hd×List MemPlace}(h:DataW.trod enc P w 0 (fun _=>true) true fuel T cs=some y)
 {i o s:Nat}{t:TypeId}(hf:fieldAt P T i=some (o,s,t)) (hfit:Fits P T y.1):cs.length=P.cellsOf T∧∃n z,DataW.trod enc P w 0 (fun _=>true) true n t ((cs.drop o).take s)=some z∧Fits P t z.1:=by
 unfold fieldAt at hf
 split at hf
 · rename_i fs hu
   simp only [Option.map_eq_some_iff,Prod.mk.injEq] at hf
   obtain ⟨f,hf,rfl,rfl,rfl⟩:=hf
   obtain ⟨xs,n,_,hy,hl,hx,hall⟩:=DataW.trod_struct hu h
   have:=hall i f hf
   have hlt:=(Array.getElem?_eq_some_iff.1 hf).1
   refine ⟨hl,n,xs[i]'(by omega),?_,?_⟩
   · rw [this,List.getElem?_eq_getElem (by omega)]
   · rw [hy] at hfit
     exact Q7c hu hfit hf (by rw [List.getElem?_map,List.getElem?_eq_getElem (by omega)];rfl)
 · cases hf

end Go.Lir
namespace Go.Lir

theorem Sl.oneC {H:Heap}{T:TypeId}{es:Nat}{v:Value}{F:Nat→Prop}{css:List (List Value)}(h:Sl H T es v F css):Go.Lir.oneC v=true:=by
 obtain ⟨a,c,rfl⟩:=h.shape;rfl
theorem SlR.oneC {H:Heap}{es:Nat}{v:Value}{F:Nat→Prop}{css:List (List Value)}(h:SlR H es v F css):Go.Lir.oneC v=true:=by
 obtain ⟨a,c,rfl⟩:=h.shape;rfl
theorem Q1D {α β:Type}(f:α→β) (l:List α) (d:α){m:Nat}(h:m<l.length):(l.map f)[m]?=some (f (l.getD m d)):=by
 simp [List.getElem?_map,List.getD_eq_getElem?_getD,List.getElem?_eq_getElem h]
theorem Q4 {n i:Int}(h:i<n):(n - (i+1)).toNat<(n - i).toNat:=by omega
theorem Q3O {α:Type} [DecidableEq α]:∀{a b:List α},a.Nodup→(∀x∈a,x∈b)→a.length≤b.length:=by
 intro a
 induction a with
 | nil=>intro b _ _;simp
 | cons x a ih=>
   intro b hn hs
   obtain ⟨h1,h2⟩:=List.nodup_cons.1 hn
   have hx:=hs x (by simp)
   have:=ih (b:=b.erase x) h2 fun y hy=>(List.mem_erase_of_ne (fun e=>by subst e;exact h1 hy)).2 (hs y (by simp [hy]))
   rw [List.length_erase_of_mem hx] at this
   have hp:=List.length_pos_of_mem hx
   simp only [List.length_cons];omega
theorem map_set {α β:Type}(f:α→β) (l:List α) (m:Nat) (x:α):(l.map f).set m (f x)=(l.set m x).map f:=by
 simp [List.map_set]
theorem src_one {P:Program}{w:World}{T:TypeId}{u:Value}{b:Nat}(h:Blk w.heap b T [u]) (ho:oneC u=true):Src P w 1 (.slice (some ⟨b,0,none⟩) 1 1) [[u]]:=
 (Sl.fresh (css:=[[u]]) h rfl (by simp) rfl).src (by simpa using ho)
theorem src_agg {P:Program}{w:World}{T:TypeId}{c:List Value}{b n:Nat}(h:Blk w.heap b T c) (hn:c.length=n) (ho:∀u∈c,oneC u=true):Src P w n (.slice (some ⟨b,0,none⟩) 1 1) [c]:=
 (Sl.fresh (css:=[c]) h (by simp) (by simpa using hn) rfl).src (by simpa using ho)
def iv:Value→Int
 | .int _ n=>n
 | _=>0
def Qi (b:Bool):List Value:=[.bool b]
def QX (n:Int):List Value:=[.int .i64 n]
theorem Qdy {l:List Int}:∀c∈l.map QX,∀u∈c,oneC u=true:=by
 intro c hc u hu;obtain ⟨n,_,rfl⟩:=List.mem_map.1 hc;simp [QX] at hu;subst hu;rfl
theorem Qbj {w0 w w':World}{F:Nat→Prop}(hfr:Fr NF w0 w) (hlow:∀b,F b→w0.heap.size≤b) (hf:Fr F w w'):Fr NF w0 w':=hfr.trans hf (fun b hb hF=>absurd (hlow b hF) (by omega))
theorem gq_load {P:Program}{ρ:Env}{w:World}{d b o:Nat}{x:Operand}{v:Value}{T:TypeId}{cs:List Value}(hx:ρ.ev x= .pointer (some ⟨b,o,none⟩)) (hb:Blk w.heap b T cs) (hv:cs[o]?=some v):gqv P ρ w ⟨none, .load1 d x⟩ v:=⟨_,hx,hb.cell hv⟩
theorem gq_loadn {P:Program}{ρ:Env}{w:World}{d n b o:Nat}{x:Operand}{vs:List Value}{T:TypeId}{cs:List Value}(hx:ρ.ev x= .pointer (some ⟨b,o,none⟩)) (hb:Blk w.heap b T cs) (hv:(cs.drop o).take n=vs) (hl:vs.length=n):gqv P ρ w ⟨none, .loadn d n x⟩ (.agg ⟨vs⟩):=⟨_,vs,hx,hb.cells hv hl,rfl⟩
theorem gq_skip {P:Program}{ρ:Env}{w:World}{s:Nat}{b:Bool}{o:LO}{v:Value}(hw:Q7s (ρ s) b=false) (hv:v=undef):gqv P ρ w ⟨some (s,b),o⟩ v:=by simp [gqv,hw,hv]
theorem Q5F {P:Program}{ρ:Env}{w:World}{s:Nat}{b:Bool}{o:LO}{v:Value}(hw:ρ s= .bool b) (h:gqv P ρ w ⟨none,o⟩ v):gqv P ρ w ⟨some (s,b),o⟩ v:=by simp only [gqv,hw,Q7s,beq_self_eq_true,if_true];exact h
theorem Fr.after {F G:Nat→Prop}{w w' w'':World}(h:Fr F w w') (k:Fr G w' w'') (hs:∀b,b<w.heap.size→G b→F b):Fr F w w'':=h.trans k hs
theorem Fr.then0 {F:Nat→Prop}{w w' w'':World}(h:Fr F w w') (k:Fr NF w' w''):Fr F w w'':=h.trans k fun _ _ h=>h.elim
theorem Fr.into {F G:Nat→Prop}{w w':World}(h:Fr G w w') (hs:∀x,G x→F x):Fr F w w':=h.mono fun x _ hx=>hs x hx
structure Step (F F':Nat→Prop) (w w':World):Prop where
 fr:Fr F w w'
 sub:∀b,F' b→F b∨w.heap.size≤b
theorem Step.same {F:Nat→Prop}{w w':World}(h:Fr F w w'):Step F F w w':=⟨h,fun _ h=> .inl h⟩
theorem Step.out {F F':Nat→Prop}{w w':World}{b:Nat}(h:Step F F' w w') (hb:b<w.heap.size) (hn:¬F b):¬F' b:=fun hF=>(h.sub b hF).elim hn (fun hz=>absurd hz (by omega))
theorem Step.trans {F F' F'':Nat→Prop}{w w' w'':World}(h:Step F F' w w') (k:Step F' F'' w' w''):Step F F'' w w'':=
 ⟨h.fr.trans k.fr fun b hb hF=>(h.sub b hF).elim id (fun hz=>absurd hz (by omega)),fun b hb=>(k.sub b hb).elim (h.sub b) (fun hz=> .inr (Nat.le_trans h.fr.size hz))⟩
theorem Step.low {F F':Nat→Prop}{w w':World}{z:Nat}(h:Step F F' w w') (hl:∀b,F b→z≤b) (hz:z≤w.heap.size):∀b,F' b→z≤b:=fun b hb=>(h.sub b hb).elim (hl b) (fun h=>Nat.le_trans hz h)
theorem Step.apart {F F' G:Nat→Prop}{w w':World}(h:Step F F' w w') (hd:∀b,F b→¬G b) (hG:∀b,G b→b<w.heap.size):∀b,F' b→¬G b:=fun b hb hg=>(h.sub b hb).elim (fun hF=>hd b hF hg) (fun hz=>absurd (hG b hg) (by omega))
structure Objs (A:Heap→(Nat→Prop)→Prop):Prop where
 fr:∀{w w':World}{F G:Nat→Prop},A w.heap F→Fr G w w'→(∀b,F b→¬G b)→A w'.heap F
 lt:∀{H:Heap}{F:Nat→Prop},A H F→∀b,F b→b<H.size
structure Two (w0 w:World) (A B:Heap→(Nat→Prop)→Prop) (F G:Nat→Prop):Prop where
 oa:Objs A
 ob:Objs B
 p:A w.heap F
 q:B w.heap G
 d:∀b,F b→¬G b
 F0:∀b,F b→w0.heap.size≤b
 G0:∀b,G b→w0.heap.size≤b
 fr:Fr NF w0 w
theorem Two.fr0 {w0 w w':World}{A B:Heap→(Nat→Prop)→Prop}{F G:Nat→Prop}(h:Two w0 w A B F G) (hf:Fr NF w w'):Two w0 w' A B F G:=
 ⟨h.oa,h.ob,h.oa.fr h.p hf (fun _ _ h=>h),h.ob.fr h.q hf (fun _ _ h=>h),h.d,h.F0,h.G0,h.fr.then0 hf⟩
theorem Two.own {w0 w w':World}{A B:Heap→(Nat→Prop)→Prop}{F G:Nat→Prop}{x:Nat}(h:Two w0 w A B F G) (hf:Fr (· =x) w w') (h0:w0.heap.size≤x) (hF:¬F x) (hG:¬G x):Two w0 w' A B F G:=
 ⟨h.oa,h.ob,h.oa.fr h.p hf (fun b hb e=>hF (e ▸ hb)),h.ob.fr h.q hf (fun b hb e=>hG (e ▸ hb)),h.d,h.F0,h.G0,Qbj h.fr (fun b hb=>by rw [hb];exact h0) hf⟩
theorem Two.sp {w0 w w':World}{A A' B:Heap→(Nat→Prop)→Prop}{F F' G:Nat→Prop}(h:Two w0 w A B F G) (oa:Objs A') (hp:A' w'.heap F') (hs:Step F F' w w'):Two w0 w' A' B F' G:=
 ⟨oa,h.ob,hp,h.ob.fr h.q hs.fr (fun b hb hF=>h.d b hF hb),hs.apart h.d (h.ob.lt h.q),hs.low h.F0 h.fr.size,h.G0,Qbj h.fr h.F0 hs.fr⟩
theorem Q5o {P:Program}:∀{l:List GO}{Q Q':QT}{ρ:Env}{w:World},(∀e ρ w,Q e ρ w→Q' e ρ w)→Q0 P l Q ρ w→Q0 P l Q' ρ w:=by
 intro l
 induction l with
 | nil=>intro Q Q' ρ w h hw;exact h _ _ _ hw
 | cons g l ih=>
   intro Q Q' ρ w h hw
   obtain ⟨g,o⟩:=g
   cases g with
   | none=>exact Q4L (fun ρ w hk=>ih h hk) (fun e ρ w _ hq=>h _ _ _ hq) hw
   | some p=>
     obtain ⟨s,b⟩:=p
     simp only [Q0] at hw ⊢
     by_cases hs:Q7s (ρ s) b=true
     · rw [if_pos hs] at hw ⊢;exact Q4L (fun ρ w hk=>ih h hk) (fun e ρ w _ hq=>h _ _ _ hq) hw
     · rw [if_neg hs] at hw ⊢;exact ih h hw
theorem Q47 {K K':KT}{Q Q':QT}(hk:∀ρ w,K ρ w→K' ρ w) (h:∀e ρ w,Q e ρ w→Q' e ρ w):∀e ρ w,QB K Q e ρ w→QB K' Q' e ρ w:=by
 intro e ρ w hq
 cases e with
 | normal=>exact hk _ _ hq
 | _=>exact h _ _ _ hq
theorem LC.wp_mono {P:Program}:∀{c:LC}{Q Q':QT}{ρ:Env}{w:World},(∀e ρ w,Q e ρ w→Q' e ρ w)→c.wp P Q ρ w→c.wp P Q' ρ w:=by
 intro c
 induction c with
 | skip=>intro Q Q' ρ w h hw;exact h _ _ _ hw
 | ops l=>intro Q Q' ρ w h hw;exact Q5o h hw
 | draw gs es=>intro Q Q' ρ w h hw;exact fun l hl=>Q5o h (hw l hl)
 | seq a b iha ihb=>intro Q Q' ρ w h hw;exact iha (Q47 (fun ρ w hb=>ihb h hb) h) hw
 | cond c a b iha ihb=>
   intro Q Q' ρ w h hw
   obtain ⟨t,hc,hw⟩:=hw
   refine ⟨t,hc,?_⟩
   cases t
   · exact ihb h hw
   · exact iha h hw
 | block id a ih=>
   intro Q Q' ρ w h hw
   refine ih ?_ hw
   intro e ρ w hq
   cases e with
   | exit id'=>
     simp only [QH] at hq ⊢
     by_cases hs:id'=id
     · rw [if_pos hs] at hq ⊢;exact h _ _ _ hq
     · rw [if_neg hs] at hq ⊢;exact h _ _ _ hq
   | _=>exact h _ _ _ hq
 | loop a ih=>
   intro Q Q' ρ w h hw
   obtain ⟨I,μ,h0,hr⟩:=hw
   exact ⟨I,μ,h0,fun ρ w hI=>ih (Q47 (fun _ _ hk=>hk) h) (hr ρ w hI)⟩
 | exit id=>intro Q Q' ρ w h hw;exact h _ _ _ hw
 | ret=>intro Q Q' ρ w h hw;exact h _ _ _ hw
 | bad=>intro Q Q' ρ w h hw;exact hw.elim

def addE (es:List (List Nat)) (a b:Nat):List (List Nat):=es.set b (a::es.getD b [])
theorem Q3d {es:List (List Nat)}{a b i:Nat}(h:i≠b):(addE es a b).getD i []=es.getD i []:=by
 simp [addE,List.getD_eq_getElem?_getD,Ne.symm h]
theorem QdQ {es:List (List Nat)}{a b:Nat}(h:b<es.length):(addE es a b).getD b []=a::es.getD b []:=by
 simp [addE,List.getD_eq_getElem?_getD,h]
theorem Qbe {es:List (List Nat)}{a b:Nat}(hb:b<es.length):∀{l X:List Nat},a∈X→Lin es X l→Lin (addE es a b) X l:=by
 intro l
 induction l with
 | nil=>intro X _ h i hi;exact h i (by simpa [addE] using hi)
 | cons i l ih=>
   intro X ha h
   obtain ⟨h1,h2,h3,h4⟩:=h
   refine ⟨by simpa [addE] using h1,h2,?_,ih (List.mem_cons_of_mem _ ha) h4⟩
   by_cases he:i=b
   · subst he;rw [QdQ hb];intro e hm
     rcases List.mem_cons.1 hm with rfl|hm
     · exact ha
     · exact h3 e hm
   · rw [Q3d he];exact h3
theorem lin_split {es:List (List Nat)}{a b:Nat}(ha:a<es.length) (hb:b<es.length) (hab:a≠b):∀{l X:List Nat},a∉X→b∉X→Lin es X l→Lin (addE es a b) X l∨Lin (addE es b a) X l:=by
 intro l
 induction l with
 | nil=>intro X h1 _ h;exact absurd (h a ha) h1
 | cons i l ih=>
   intro X hA hB h
   obtain ⟨h1,h2,h3,h4⟩:=h
   by_cases hia:i=a
   · subst hia
     exact .inl ⟨by simpa [addE] using h1,h2,by rw [Q3d hab];exact h3,Qbe hb (by simp) h4⟩
   · by_cases hib:i=b
     · subst hib
       exact .inr ⟨by simpa [addE] using h1,h2,by rw [Q3d (Ne.symm hab)];exact h3,Qbe ha (by simp) h4⟩
     · rcases ih (X:=i::X) (by simp [Ne.symm hia,hA]) (by simp [Ne.symm hib,hB]) h4 with h|h
       · exact .inl ⟨by simpa [addE] using h1,h2,by rw [Q3d hib];exact h3,h⟩
       · exact .inr ⟨by simpa [addE] using h1,h2,by rw [Q3d hia];exact h3,h⟩

section
variable {P:Program}{l:List GO}{Q:QT}{ρ:Env}{w:World}
theorem Q1F {gs:List GO}{es:List (List Nat)}(a b:Nat) (hab:(decide (a<es.length) && decide (b<es.length) && !(a==b))=true) (h1:(LC.draw gs (addE es a b)).wp P Q ρ w) (h2:(LC.draw gs (addE es b a)).wp P Q ρ w):(LC.draw gs es).wp P Q ρ w:=by
 simp only [Bool.and_eq_true,decide_eq_true_eq,Bool.not_eq_true',beq_eq_false_iff_ne,ne_eq] at hab
 intro l hl
 rcases lin_split hab.1.1 hab.1.2 hab.2 (by simp) (by simp) hl with h|h
 · exact h1 l h
 · exact h2 l h
theorem Q6A (k:Nat){T e:TypeId}{a:Option Addr}{n c:Nat}{w0:World}(ht:P.underlying T=some (.slice e)):(Op.equalIn (k+1) T (.slice a n c) (.slice none 0 0)).run P w0= .ok a.isNone w0:=by
 simp only [Op.equalIn,Sem.run_bind,Q6 P T _ w0 ht,Result.andThen_ok]
 cases a<;>simp [Sem.run_pure]
theorem Q8d {T e:TypeId}{a:Option Addr}{n c:Nat}{w0:World}(ht:P.underlying T=some (.slice e)):(Op.equal T (.slice a n c) (.slice none 0 0)).run P w0= .ok a.isNone w0:=Q6A 9999 ht
theorem Q89 {d:Nat}{T e:TypeId}{x y:Operand}{a:Option Addr}{n c:Nat}(ht:P.underlying T=some (.slice e)) (hx:ρ.ev x= .slice a n c) (hy:ρ.ev y= .slice none 0 0)
 (h:Q0 P l Q (upd ρ d (.bool a.isNone)) w):Q0 P (⟨none, .bin d .eql T x y⟩::l) Q ρ w:=
 ⟨_,fun w0=>by
   rw [hx,hy];simp [eqGuard,binOp,Q8d ht],h⟩
theorem QcI {d:Nat}{Ts Ty e es nb:Nat}{z:List Value}(hel:Q2f P Ts=some (e,es,nb,z))
 (h:∀v' w',Fr NF w w'→Sl w'.heap e es v' (· =w.heap.size) []→w'.heap.size=w.heap.size+1→Q0 P l Q (upd ρ d v') w'):
 Q0 P (⟨none, .raw ⟨some d, .buildSlice Ts 0 #[], Ty, "", #[], none⟩⟩ :: l) Q ρ w := by
 obtain ⟨i,zv,hu,hi,hz,rfl,rfl,hzc,hes,hnb,hzl⟩:=Q4E hel
 refine QR (v:= .slice (some ⟨w.heap.size,0,none⟩) 0 0) (w':=w.alloc (.cells ⟨[]⟩ e)) ?_ ?_
 · simp only [execOp,Instr.buildSlice,Sem.run_bind,Q6 P Ts _ w hu,Result.andThen_ok,QQ P e i.size w (by simp [Q2F,hi])]
   simp [Instr.fill,newRow]
   have hr0:Array.range 0=#[]:=rfl
   rw [hr0,Array.map_empty]
 · exact h _ _ (Q3s w _) (Sl.fresh (css:=[]) (Q3c w [] e) rfl (by simp) rfl) (by simp)
theorem s_mid {a b:LC}(J:Env→World→Prop) (ha:a.wp P (QB J Q) ρ w) (hb:∀ρ w,J ρ w→b.wp P Q ρ w):(LC.seq a b).wp P Q ρ w:=
 QJ (LC.wp_mono (Q47 hb fun _ _ _ h=>h) ha)
theorem s_fld0 {d:Nat}{x:Operand}{off b:Nat}(hx:ρ.ev x= .pointer (some ⟨b,0,none⟩)) (h:Q0 P l Q (upd ρ d (.pointer (some ⟨b,off,none⟩))) w):Q0 P (⟨none, .fld d x off⟩::l) Q ρ w:=
 s_fld hx (by rw [Nat.zero_add];exact h)
theorem s_boxV {d:Nat}{T:TypeId}{x:Operand}{v:Value}{cs:List Value}(hx:ρ.ev x=v) (hc:v.cells=⟨cs⟩) (h:∀b w',b=w.heap.size→Fr NF w w'→w'.heap.size=w.heap.size+1→Blk w'.heap b T cs→Q0 P l Q (upd ρ d (.pointer (some ⟨b,0,none⟩))) w'):
 Q0 P (⟨none, .box d T x⟩::l) Q ρ w:=s_box (by rw [hx];exact hc) h
theorem s_idxSn {d es m:Nat}{x i:Operand}{v:Value}{T:TypeId}{F:Nat→Prop}{css:List (List Value)}{k:IntKind}(hx:ρ.ev x=v) (hi:ρ.ev i= .int k (m:Int)) (hs:Sl w.heap T es v F css) (h1:m<css.length)
 (h:∀b o,El w.heap T es v F css m b o→Q0 P l Q (upd ρ d (.pointer (some ⟨b,o,none⟩))) w):Q0 P (⟨none, .idx d es x i⟩::l) Q ρ w:=s_idxS hx hi hs (by omega) (by omega) h
theorem s_build0 {d:Nat}{z:List Value}{cs:List Value}(hf:Q2j z []=some cs) (h:Q0 P l Q (upd ρ d (.agg ⟨cs⟩)) w):
 Q0 P (⟨none, .build d z []⟩::l) Q ρ w:=by
 exact Q4A hf h
theorem s_build1 {d:Nat}{z:List Value}{o0 n0:Nat}{x0:Operand}{v0:Value}{cs:List Value}(h0:ρ.ev x0=v0) (hf:Q2j z [(o0,n0,v0)]=some cs) (h:Q0 P l Q (upd ρ d (.agg ⟨cs⟩)) w):
 Q0 P (⟨none, .build d z [(o0,n0,x0)]⟩::l) Q ρ w:=by
 subst h0;exact Q4A hf h
theorem Q1G {d:Nat}{T:TypeId}{n:Nat}{z:List Value}{o0 n0:Nat}{x0:Operand}{v0:Value}{cs:List Value}(h0:ρ.ev x0=v0) (hf:Q2j z [(o0,n0,v0)]=some cs)
 (h:∀b w',b=w.heap.size→Fr NF w w'→w'.heap.size=w.heap.size+1→Blk w'.heap b T cs→Q0 P l Q (upd ρ d (.slice (some ⟨b,0,none⟩) n n)) w'):
 Q0 P (⟨none, .buildS d T n z [(o0,n0,x0)]⟩::l) Q ρ w:=by
 subst h0;exact Q8a hf h
theorem QaZ {d:Nat}{z:List Value}{o0 n0 o1 n1:Nat}{x0 x1:Operand}{v0 v1:Value}{cs:List Value}(h0:ρ.ev x0=v0) (h1:ρ.ev x1=v1) (hf:Q2j z [(o0,n0,v0),(o1,n1,v1)]=some cs) (h:Q0 P l Q (upd ρ d (.agg ⟨cs⟩)) w):
 Q0 P (⟨none, .build d z [(o0,n0,x0),(o1,n1,x1)]⟩::l) Q ρ w:=by
 subst h0 h1;exact Q4A hf h
theorem Q4Q {d:Nat}{T:TypeId}{n:Nat}{z:List Value}{o0 n0 o1 n1:Nat}{x0 x1:Operand}{v0 v1:Value}{cs:List Value}(h0:ρ.ev x0=v0) (h1:ρ.ev x1=v1) (hf:Q2j z [(o0,n0,v0),(o1,n1,v1)]=some cs)
 (h:∀b w',b=w.heap.size→Fr NF w w'→w'.heap.size=w.heap.size+1→Blk w'.heap b T cs→Q0 P l Q (upd ρ d (.slice (some ⟨b,0,none⟩) n n)) w'):
 Q0 P (⟨none, .buildS d T n z [(o0,n0,x0),(o1,n1,x1)]⟩::l) Q ρ w:=by
 subst h0 h1;exact Q8a hf h
theorem s_build3 {d:Nat}{z:List Value}{o0 n0 o1 n1 o2 n2:Nat}{x0 x1 x2:Operand}{v0 v1 v2:Value}{cs:List Value}(h0:ρ.ev x0=v0) (h1:ρ.ev x1=v1) (h2:ρ.ev x2=v2) (hf:Q2j z [(o0,n0,v0),(o1,n1,v1),(o2,n2,v2)]=some cs) (h:Q0 P l Q (upd ρ d (.agg ⟨cs⟩)) w):
 Q0 P (⟨none, .build d z [(o0,n0,x0),(o1,n1,x1),(o2,n2,x2)]⟩::l) Q ρ w:=by
 subst h0 h1 h2;exact Q4A hf h
theorem QcP {d:Nat}{T:TypeId}{n:Nat}{z:List Value}{o0 n0 o1 n1 o2 n2:Nat}{x0 x1 x2:Operand}{v0 v1 v2:Value}{cs:List Value}(h0:ρ.ev x0=v0) (h1:ρ.ev x1=v1) (h2:ρ.ev x2=v2) (hf:Q2j z [(o0,n0,v0),(o1,n1,v1),(o2,n2,v2)]=some cs)
 (h:∀b w',b=w.heap.size→Fr NF w w'→w'.heap.size=w.heap.size+1→Blk w'.heap b T cs→Q0 P l Q (upd ρ d (.slice (some ⟨b,0,none⟩) n n)) w'):
 Q0 P (⟨none, .buildS d T n z [(o0,n0,x0),(o1,n1,x1),(o2,n2,x2)]⟩::l) Q ρ w:=by
 subst h0 h1 h2;exact Q8a hf h
theorem s_build4 {d:Nat}{z:List Value}{o0 n0 o1 n1 o2 n2 o3 n3:Nat}{x0 x1 x2 x3:Operand}{v0 v1 v2 v3:Value}{cs:List Value}(h0:ρ.ev x0=v0) (h1:ρ.ev x1=v1) (h2:ρ.ev x2=v2) (h3:ρ.ev x3=v3) (hf:Q2j z [(o0,n0,v0),(o1,n1,v1),(o2,n2,v2),(o3,n3,v3)]=some cs) (h:Q0 P l Q (upd ρ d (.agg ⟨cs⟩)) w):
 Q0 P (⟨none, .build d z [(o0,n0,x0),(o1,n1,x1),(o2,n2,x2),(o3,n3,x3)]⟩::l) Q ρ w:=by
 subst h0 h1 h2 h3;exact Q4A hf h
theorem s_build5 {d:Nat}{z:List Value}{o0 n0 o1 n1 o2 n2 o3 n3 o4 n4:Nat}{x0 x1 x2 x3 x4:Operand}{v0 v1 v2 v3 v4:Value}{cs:List Value}(h0:ρ.ev x0=v0) (h1:ρ.ev x1=v1) (h2:ρ.ev x2=v2) (h3:ρ.ev x3=v3) (h4:ρ.ev x4=v4) (hf:Q2j z [(o0,n0,v0),(o1,n1,v1),(o2,n2,v2),(o3,n3,v3),(o4,n4,v4)]=some cs) (h:Q0 P l Q (upd ρ d (.agg ⟨cs⟩)) w):
 Q0 P (⟨none, .build d z [(o0,n0,x0),(o1,n1,x1),(o2,n2,x2),(o3,n3,x3),(o4,n4,x4)]⟩::l) Q ρ w:=by
 subst h0 h1 h2 h3 h4;exact Q4A hf h
theorem QcQ {d:Nat}{z:List Value}{o0 n0 o1 n1 o2 n2 o3 n3 o4 n4 o5 n5 o6 n6 o7 n7 o8 n8 o9 n9 o10 n10 o11 n11 o12 n12 o13 n13 o14 n14:Nat}{x0 x1 x2 x3 x4 x5 x6 x7 x8 x9 x10 x11 x12 x13 x14:Operand}{v0 v1 v2 v3 v4 v5 v6 v7 v8 v9 v10 v11 v12 v13 v14:Value}{cs:List Value}(h0:ρ.ev x0=v0) (h1:ρ.ev x1=v1) (h2:ρ.ev x2=v2) (h3:ρ.ev x3=v3) (h4:ρ.ev x4=v4) (h5:ρ.ev x5=v5) (h6:ρ.ev x6=v6) (h7:ρ.ev x7=v7) (h8:ρ.ev x8=v8) (h9:ρ.ev x9=v9) (h10:ρ.ev x10=v10) (h11:ρ.ev x11=v11) (h12:ρ.ev x12=v12) (h13:ρ.ev x13=v13) (h14:ρ.ev x14=v14) (hf:Q2j z [(o0,n0,v0),(o1,n1,v1),(o2,n2,v2),(o3,n3,v3),(o4,n4,v4),(o5,n5,v5),(o6,n6,v6),(o7,n7,v7),(o8,n8,v8),(o9,n9,v9),(o10,n10,v10),(o11,n11,v11),(o12,n12,v12),(o13,n13,v13),(o14,n14,v14)]=some cs) (h:Q0 P l Q (upd ρ d (.agg ⟨cs⟩)) w):
 Q0 P (⟨none, .build d z [(o0,n0,x0),(o1,n1,x1),(o2,n2,x2),(o3,n3,x3),(o4,n4,x4),(o5,n5,x5),(o6,n6,x6),(o7,n7,x7),(o8,n8,x8),(o9,n9,x9),(o10,n10,x10),(o11,n11,x11),(o12,n12,x12),(o13,n13,x13),(o14,n14,x14)]⟩::l) Q ρ w:=by
 subst h0 h1 h2 h3 h4 h5 h6 h7 h8 h9 h10 h11 h12 h13 h14;exact Q4A hf h
end


end Go.Lir
namespace Go.Lir
section
variable {P:Program}{T t0 t1 t2 t3 t4:TypeId}{α β γ δ ε:Type}{o0 s0 o1 s1 o2 s2 o3 s3 o4 s4:Nat}
end
end Go.Lir
namespace Go.Lir

structure Res where
 A:Heap→(Nat→Prop)→Prop
 loc:∀{H H':Heap}{F:Nat→Prop},A H F→(∀b,F b→b<H.size→H'[b]?=H[b]?)→A H' F
 lt:∀{H:Heap}{F:Nat→Prop},A H F→∀b,F b→b<H.size
 ext:∀{H:Heap}{F G:Nat→Prop},A H F→(∀b,F b↔G b)→A H G

def emp:Res:=⟨fun _ F=>∀b,¬F b,fun h _=>h,fun h b hb=>absurd hb (h b),fun h e b hb=>h b ((e b).2 hb)⟩
def star (r s:Res):Res where
 A H F:=∃F1 F2,r.A H F1∧s.A H F2∧(∀b,F1 b→¬F2 b)∧∀b,F b↔F1 b∨F2 b
 loc:=by
  rintro H H' F ⟨F1,F2,h1,h2,h3,h4⟩ h
  exact ⟨F1,F2,r.loc h1 fun b hb=>h b ((h4 b).2 (.inl hb)),s.loc h2 fun b hb=>h b ((h4 b).2 (.inr hb)),h3,h4⟩
 lt:=by
  rintro H F ⟨F1,F2,h1,h2,h3,h4⟩ b hb
  exact ((h4 b).1 hb).elim (r.lt h1 b) (s.lt h2 b)
 ext:=by
  rintro H F G ⟨F1,F2,h1,h2,h3,h4⟩ h
  exact ⟨F1,F2,h1,h2,h3,fun b=>(h b).symm.trans (h4 b)⟩
def Res.ex {α:Type}(f:α→Res):Res where
 A H F:=∃x,(f x).A H F
 loc:=by rintro H H' F ⟨x,h⟩ h';exact ⟨x,(f x).loc h h'⟩
 lt:=by rintro H F ⟨x,h⟩ b hb;exact (f x).lt h b hb
 ext:=by rintro H F G ⟨x,h⟩ h';exact ⟨x,(f x).ext h h'⟩
def Res.pure (p:Prop) (r:Res):Res where
 A H F:=p∧r.A H F
 loc:=by rintro H H' F ⟨x,h⟩ h';exact ⟨x,r.loc h h'⟩
 lt:=by rintro H F ⟨x,h⟩ b hb;exact r.lt h b hb
 ext:=by rintro H F G ⟨x,h⟩ h';exact ⟨x,r.ext h h'⟩
def blk (b:Nat) (T:TypeId) (cs:List Value):Res where
 A H F:=Blk H b T cs∧∀x,F x↔x=b
 loc:=by rintro H H' F ⟨h,hf⟩ h';exact ⟨h.of_same (h' b ((hf b).2 rfl) h.lt),hf⟩
 lt:=by rintro H F ⟨h,hf⟩ x hx;rw [(hf x).1 hx];exact h.lt
 ext:=by rintro H F G ⟨h,hf⟩ h';exact ⟨h,fun x=>(h' x).symm.trans (hf x)⟩
theorem Sl.ext {H:Heap}{T:TypeId}{es:Nat}{v:Value}{F G:Nat→Prop}{css:List (List Value)}(h:Sl H T es v F css) (he:∀b,F b↔G b):Sl H T es v G css:=by
 obtain ⟨h0,⟨h1,h2,h3⟩|⟨b,off,cap,arr,h1,h2,hb,h3,h4,hf⟩⟩:=h
 · exact ⟨h0, .inl ⟨h1,h2,fun b hb=>h3 b ((he b).2 hb)⟩⟩
 · exact ⟨h0, .inr ⟨b,off,cap,arr,h1,h2,hb,h3,h4,fun x=>(he x).symm.trans (hf x)⟩⟩
def sl (T:TypeId) (es:Nat) (v:Value) (css:List (List Value)):Res where
 A H F:=Sl H T es v F css
 loc h h':=h.of_same h'
 lt h:=h.lt
 ext h h':=h.ext h'

def Q62:List Res→Res
 | []=>emp
 | r::L=>star r (Q62 L)

theorem QbG {r s t:Res}{H:Heap}{F:Nat→Prop}(h:(star r (star s t)).A H F):(star s (star r t)).A H F:=by
 obtain ⟨F1,F2,h1,⟨G1,G2,g1,g2,g3,g4⟩,h3,h4⟩:=h
 refine ⟨G1,fun b=>F1 b∨G2 b,g1,⟨F1,G2,h1,g2,fun b hb hg=>h3 b hb ((g4 b).2 (.inr hg)),fun b=>Iff.rfl⟩,?_,?_⟩
 · rintro b hb (h|h)
   · exact h3 b h ((g4 b).2 (.inl hb))
   · exact g3 b hb h
 · intro b;rw [h4 b,g4 b]
   constructor
   · rintro (h|h|h);exact .inr (.inl h);exact .inl h;exact .inr (.inr h)
   · rintro (h|h|h);exact .inr (.inl h);exact .inl h;exact .inr (.inr h)
theorem QbI {L L':List Res}(hp:L.Perm L'):∀{H:Heap}{F:Nat→Prop},(Q62 L).A H F→(Q62 L').A H F:=by
 induction hp with
 | nil=>intro H F h;exact h
 | cons r _ ih=>rintro H F ⟨F1,F2,h1,h2,h3,h4⟩;exact ⟨F1,F2,h1,ih h2,h3,h4⟩
 | swap r s t=>intro H F h;exact QbG h
 | trans _ _ ih1 ih2=>intro H F h;exact ih2 (ih1 h)

structure Cx where
 base:World
 K:Nat→Prop
 H0:Heap

structure Cx.Ok (c:Cx) (w:World):Prop where
 os:w.os=c.base.os
 tape:w.tape=c.base.tape
 output:w.output=c.base.output
 size:c.H0.size≤w.heap.size
 lt:∀b,c.K b→b<c.H0.size
 same:∀b,c.K b→w.heap[b]?=c.H0[b]?

def St (c:Cx) (w:World) (L:List Res):Prop:=c.Ok w∧∃F,(Q62 L).A w.heap F∧∀b,F b→¬c.K b

structure Cx.Le (c c':Cx):Prop where
 base:c'.base=c.base
 K:∀b,c.K b→c'.K b∧c'.H0[b]?=c.H0[b]?
 size:c.H0.size≤c'.H0.size
 lt:∀b,c.K b→b<c.H0.size
theorem Cx.Ok.refl {c:Cx}{w:World}(h:c.Ok w):c.Le c:=⟨rfl,fun _ hb=>⟨hb,rfl⟩,Nat.le_refl _,h.lt⟩
theorem St.refl {c:Cx}{w:World}{L:List Res}(h:St c w L):c.Le c:=h.1.refl
theorem Cx.Le.trans {c c' c'':Cx}(h:c.Le c') (k:c'.Le c''):c.Le c'':=
 ⟨k.base.trans h.base,fun b hb=>⟨(k.K b (h.K b hb).1).1,(k.K b (h.K b hb).1).2.trans (h.K b hb).2⟩,Nat.le_trans h.size k.size,h.lt⟩
theorem St.weak {c c':Cx}{w:World}{L:List Res}(h:St c' w L) (hle:c.Le c'):St c w L:=by
 obtain ⟨ok,F,hF,hd⟩:=h
 exact ⟨⟨by rw [ok.os,hle.base],by rw [ok.tape,hle.base],by rw [ok.output,hle.base],Nat.le_trans hle.size ok.size,hle.lt,fun b hb=>(ok.same b (hle.K b hb).1).trans (hle.K b hb).2⟩,F,hF,fun b hb hk=>hd b hb (hle.K b hk).1⟩

theorem St.perm {c:Cx}{w:World}{L L':List Res}(h:St c w L) (hp:L.Perm L'):St c w L':=by
 obtain ⟨ok,F,hF,hd⟩:=h;exact ⟨ok,F,QbI hp hF,hd⟩
theorem St.drop {c:Cx}{w:World}{r:Res}{L:List Res}(h:St c w (r::L)):St c w L:=by
 obtain ⟨ok,F,⟨F1,F2,h1,h2,h3,h4⟩,hd⟩:=h
 exact ⟨ok,F2,h2,fun b hb=>hd b ((h4 b).2 (.inr hb))⟩
theorem St.dropL {c:Cx}{w:World}{M L:List Res}(h:St c w (M++L)):St c w L:=by
 induction M with
 | nil=>exact h
 | cons r M ih=>exact ih h.drop

def nth:List Res→Nat→Option Res
 | [],_=>none
 | r::_,0=>some r
 | _::L,i+1=>nth L i
theorem Q2B:∀{L:List Res}{i:Nat}{r:Res},nth L i=some r→L.Perm (r::L.eraseIdx i)
 | [],_,_,h=>by cases h
 | s::L,0,r,h=>by simp only [nth,Option.some.injEq] at h;subst h;exact .refl _
 | s::L,i+1,r,h=>by
   have:=Q2B (L:=L) (i:=i) h
   exact (this.cons s).trans (.swap _ _ _)
theorem Q2r:∀{L:List Res}{i:Nat}{r r':Res},nth L i=some r→(r'::L.eraseIdx i).Perm (L.set i r')
 | [],_,_,_,h=>by cases h
 | s::L,0,r,r',h=> .refl _
 | s::L,i+1,r,r',h=>(List.Perm.swap _ _ _).trans ((Q2r (L:=L) (i:=i) h).cons s)
section
variable {a b c d e f g h i j k m:Res}{L:List Res}
theorem nth0:nth (a::L) 0=some a:=rfl
theorem nth1:nth (a::b::L) 1=some b:=rfl
theorem nth2:nth (a::b::c::L) 2=some c:=rfl
end
inductive NthP:List Res→Nat→Res→Prop where
 | z {r:Res}{L:List Res}:NthP (r::L) 0 r
 | s {a r:Res}{L:List Res}{i:Nat}:NthP L i r→NthP (a::L) (i+1) r
theorem NthP.nth {L:List Res}{i:Nat}{r:Res}(h:NthP L i r):nth L i=some r:=by
 induction h with
 | z=>rfl
 | s _ ih=>exact ih
inductive Pick:List Res→Res→List Res→Prop where
 | z {r:Res}{L:List Res}:Pick (r::L) r L
 | s {a r:Res}{L L':List Res}:Pick L r L'→Pick (a::L) r (a::L')
theorem Pick.perm {L L':List Res}{r:Res}(h:Pick L r L'):L.Perm (r::L'):=by
 induction h with
 | z=>exact .refl _
 | s _ ih=>exact (ih.cons _).trans (.swap _ _ _)
inductive SubP:List Res→List Res→Prop where
 | same {L:List Res}:SubP L L
 | nil {L:List Res}:SubP [] L
 | take {r:Res}{M L L':List Res}:Pick L r L'→SubP M L'→SubP (r::M) L
 | cut {a:Res}{M L:List Res}:SubP M L→SubP M (a::L)
section
variable {a b c d e f g h i j k m:Res}{L:List Res}{C:Cx}{w:World}
theorem St.mv1 (h:St C w (a::b::L)):St C w (b::a::L):=h.perm (Q2B (i:=1) rfl)
theorem St.mv2 (h:St C w (a::b::c::L)):St C w (c::a::b::L):=h.perm (Q2B (i:=2) rfl)
end
def Sub (L' L:List Res):Prop:=∃M,L.Perm (L'++M)
theorem St.sub {c:Cx}{w:World}{L L':List Res}(h:St c w L) (hs:Sub L' L):St c w L':=by
 obtain ⟨M,hp⟩:=hs
 exact ((h.perm hp).perm List.perm_append_comm).dropL
theorem SubP.sub {L L':List Res}(h:SubP L' L):∃M,L.Perm (L'++M):=by
 induction h with
 | same=>exact ⟨[],by rw [List.append_nil]⟩
 | nil=>exact ⟨_, .refl _⟩
 | take hp _ ih=>obtain ⟨M,hm⟩:=ih;exact ⟨M,hp.perm.trans (hm.cons _)⟩
 | cut _ ih=>obtain ⟨M,hm⟩:=ih;exact ⟨_::M,(hm.cons _).trans List.perm_middle.symm⟩
theorem St.subP {c:Cx}{w:World}{L L':List Res}(h:St c w L) (hs:SubP L' L):St c w L':=h.sub hs.sub
theorem Sub.same (L:List Res):Sub L L:=⟨[],by rw [List.append_nil]⟩
theorem Sub.nil (L:List Res):Sub [] L:=⟨L, .refl _⟩
theorem Sub.cut {r:Res}{L' L:List Res}(h:Sub L' L):Sub L' (r::L):=by
 obtain ⟨M,hp⟩:=h
 exact ⟨r::M,(hp.cons r).trans List.perm_middle.symm⟩
theorem Sub.take {L' L:List Res}(i:Nat){r:Res}(hi:nth L i=some r) (h:Sub L' (L.eraseIdx i)):Sub (r::L') L:=by
 obtain ⟨M,hp⟩:=h
 exact ⟨M,(Q2B hi).trans (hp.cons r)⟩
section
variable {a b c d e f g h i j k m r:Res}{L L':List Res}
theorem Sub.t0 (H:Sub L' L):Sub (r::L') (r::L):= .take 0 rfl H
theorem Sub.t1 (H:Sub L' (a::L)):Sub (r::L') (a::r::L):= .take 1 rfl H
theorem Sub.t2 (H:Sub L' (a::b::L)):Sub (r::L') (a::b::r::L):= .take 2 rfl H
theorem Sub.t3 (H:Sub L' (a::b::c::L)):Sub (r::L') (a::b::c::r::L):= .take 3 rfl H
theorem Sub.t4 (H:Sub L' (a::b::c::d::L)):Sub (r::L') (a::b::c::d::r::L):= .take 4 rfl H
end

section
variable {c c':Cx}{w w':World}{L:List Res}
theorem St.ok (h:St c w L):c.Ok w:=h.1
theorem St.step {i:Nat}{r:Res}(h:St c w L) (hi:nth L i=some r):∃F,r.A w.heap F∧(∀b,F b→¬c.K b)∧∀w' F' r',r'.A w'.heap F'→Step F F' w w'→St c w' (L.set i r'):=by
 obtain ⟨ok,F,⟨F1,F2,h1,h2,h3,h4⟩,hd⟩:=h.perm (Q2B hi)
 refine ⟨F1,h1,fun b hb=>hd b ((h4 b).2 (.inl hb)),fun w' F' r' hr hs=>St.perm ?_ (Q2r hi)⟩
 have hf:=hs.fr
 refine ⟨⟨hf.os.trans ok.os,hf.tape.trans ok.tape,hf.output.trans ok.output,Nat.le_trans ok.size hf.size,ok.lt,fun b hb=>?_⟩,fun b=>F' b∨F2 b,⟨F',F2,hr,?_,?_,fun b=>Iff.rfl⟩,?_⟩
 · exact (hf.same b (Nat.lt_of_lt_of_le (ok.lt b hb) ok.size) fun hF=>hd b ((h4 b).2 (.inl hF)) hb).trans (ok.same b hb)
 · exact (Q62 _).loc h2 fun b hb hlt=>hf.same b hlt fun hF=>h3 b hF hb
 · intro b hb hb2
   exact (hs.sub b hb).elim (fun h=>h3 b h hb2) (fun h=>absurd ((Q62 _).lt h2 b hb2) (by omega))
 · rintro b (hb|hb) hk
   · exact (hs.sub b hb).elim (fun h=>hd b ((h4 b).2 (.inl h)) hk) (fun h=>absurd (ok.lt b hk) (by have:=ok.size;omega))
   · exact hd b ((h4 b).2 (.inr hb)) hk
theorem St.fr0 (h:St c w L) (hf:Fr NF w w'):St c w' L:=by
 obtain ⟨ok,F,hF,hd⟩:=h
 exact ⟨⟨hf.os.trans ok.os,hf.tape.trans ok.tape,hf.output.trans ok.output,Nat.le_trans ok.size hf.size,ok.lt,fun b hb=>(hf.same b (Nat.lt_of_lt_of_le (ok.lt b hb) ok.size) fun h=>h).trans (ok.same b hb)⟩,F,(Q62 _).loc hF fun b _ hlt=>hf.same b hlt fun h=>h,hd⟩
theorem St.new {r:Res}{F':Nat→Prop}(h:St c w L) (hr:r.A w'.heap F') (hf:Fr NF w w') (hn:∀b,F' b→w.heap.size≤b):St c w' (r::L):=by
 obtain ⟨ok,F,hF,hd⟩:=h
 refine ⟨(St.fr0 ⟨ok,F,hF,hd⟩ hf).1,fun b=>F' b∨F b,⟨F',F,hr,(Q62 _).loc hF fun b _ hlt=>hf.same b hlt fun h=>h,fun b hb hb2=>absurd ((Q62 _).lt hF b hb2) (by have:=hn b hb;omega),fun b=>Iff.rfl⟩,?_⟩
 rintro b (hb|hb) hk
 · exact absurd (ok.lt b hk) (by have:=ok.size;have:=hn b hb;omega)
 · exact hd b hb hk
theorem St.emp {r:Res}(h:St c w L) (hr:r.A w.heap NF):St c w (r::L):=h.new hr (Fr.refl _ _) fun _ h=>h.elim
theorem St.nil {T:TypeId}{es:Nat}(h:St c w L):St c w (sl T es (.slice none 0 0) []::L):=h.emp (Sl.nil _ _ _)
theorem St.drew (h:St c w L):St c w.drew L:=h.fr0 (Fr.drew' (Fr.refl _ _))
theorem St.res {i:Nat}{r:Res}(h:St c w L) (hi:nth L i=some r):∃F,r.A w.heap F:=by
 obtain ⟨F,h1,_⟩:=h.step hi;exact ⟨F,h1⟩
theorem St.freeze {r:Res}(h:St c w (r::L)):∃c' F,c.Le c'∧St c' w L∧r.A c'.H0 F∧∀b,F b→c'.K b:=by
 obtain ⟨ok,F,⟨F1,F2,h1,h2,h3,h4⟩,hd⟩:=h
 refine ⟨⟨c.base,fun b=>c.K b∨F1 b,w.heap⟩,F1,⟨rfl,fun b hb=>⟨.inl hb,ok.same b hb⟩,ok.size,ok.lt⟩,⟨⟨ok.os,ok.tape,ok.output,Nat.le_refl _,fun b hb=>hb.elim (fun hb=>Nat.lt_of_lt_of_le (ok.lt b hb) ok.size) (r.lt h1 b),fun b _=>rfl⟩,F2,h2,?_⟩,h1,fun b hb=> .inr hb⟩
 rintro b hb (hk|hk)
 · exact hd b ((h4 b).2 (.inr hb)) hk
 · exact h3 b hk hb
theorem St.ex {α:Type}{f:α→Res}(h:St c w (Res.ex f::L)):∃x,St c w (f x::L):=by
 obtain ⟨ok,F,⟨F1,F2,⟨x,h1⟩,h2,h3,h4⟩,hd⟩:=h
 exact ⟨x,ok,F,⟨F1,F2,h1,h2,h3,h4⟩,hd⟩
theorem St.ex' {α:Type}{f:α→Res}(x:α) (h:St c w (f x::L)):St c w (Res.ex f::L):=by
 obtain ⟨ok,F,⟨F1,F2,h1,h2,h3,h4⟩,hd⟩:=h
 exact ⟨ok,F,⟨F1,F2,⟨x,h1⟩,h2,h3,h4⟩,hd⟩
theorem St.pure {p:Prop}{r:Res}(h:St c w (Res.pure p r::L)):p∧St c w (r::L):=by
 obtain ⟨ok,F,⟨F1,F2,⟨x,h1⟩,h2,h3,h4⟩,hd⟩:=h
 exact ⟨x,ok,F,⟨F1,F2,h1,h2,h3,h4⟩,hd⟩
theorem QbH {r s t:Res}{H:Heap}{F:Nat→Prop}(h:(star (star r s) t).A H F):(star r (star s t)).A H F:=by
 obtain ⟨F1,F2,⟨G1,G2,g1,g2,g3,g4⟩,h2,h3,h4⟩:=h
 refine ⟨G1,fun b=>G2 b∨F2 b,g1,⟨G2,F2,g2,h2,fun b hb=>h3 b ((g4 b).2 (.inr hb)),fun b=>Iff.rfl⟩,?_,fun b=>?_⟩
 · rintro b hb (h|h)
   · exact g3 b hb h
   · exact h3 b ((g4 b).2 (.inl hb)) h
 · rw [h4 b,g4 b,or_assoc]
theorem Qa2 {r s t:Res}{H:Heap}{F:Nat→Prop}(h:(star r (star s t)).A H F):(star (star r s) t).A H F:=by
 obtain ⟨F1,F2,h1,⟨G1,G2,g1,g2,g3,g4⟩,h3,h4⟩:=h
 refine ⟨fun b=>F1 b∨G1 b,G2,⟨F1,G1,h1,g1,fun b hb hg=>h3 b hb ((g4 b).2 (.inl hg)),fun b=>Iff.rfl⟩,g2,?_,fun b=>?_⟩
 · rintro b (hb|hb) hg
   · exact h3 b hb ((g4 b).2 (.inr hg))
   · exact g3 b hb hg
 · rw [h4 b,g4 b,or_assoc]
theorem St.star {r s:Res}(h:St c w (star r s::L)):St c w (r::s::L):=by
 obtain ⟨ok,F,h,hd⟩:=h;exact ⟨ok,F,QbH h,hd⟩
theorem St.star' {r s:Res}(h:St c w (r::s::L)):St c w (Go.Lir.star r s::L):=by
 obtain ⟨ok,F,h,hd⟩:=h;exact ⟨ok,F,Qa2 h,hd⟩
theorem St.imp {r r':Res}(h:St c w (r::L)) (hi:∀H F,r.A H F→r'.A H F):St c w (r'::L):=by
 obtain ⟨ok,F,⟨F1,F2,h1,h2,h3,h4⟩,hd⟩:=h
 exact ⟨ok,F,⟨F1,F2,hi _ _ h1,h2,h3,h4⟩,hd⟩
theorem St.out {i:Nat}{r:Res}(h:St c w L) (hi:nth L i=some r):St c w (r::L.eraseIdx i):=h.perm (Q2B hi)
theorem St.back {i:Nat}{r r':Res}(h:St c w (r'::L.eraseIdx i)) (hi:nth L i=some r):St c w (L.set i r'):=h.perm (Q2r hi)
theorem St.back0 {i:Nat}{r:Res}(h:St c w (r::L.eraseIdx i)) (hi:nth L i=some r):St c w L:=h.perm (Q2B hi).symm
theorem St.list:∀{M L:List Res},St c w (Q62 M::L)→St c w (M++L)
 | [],L,h=>h.drop
 | r::M,L,h=>by
   have h1:=St.list (M:=M) (L:=r::L) (St.mv1 (St.star h))
   exact h1.perm (List.perm_middle)
theorem St.list':∀{M L:List Res},St c w (M++L)→St c w (Q62 M::L)
 | [],L,h=>h.emp (r:=Go.Lir.emp) fun _ h=>h
 | r::M,L,h=>by
   have h1:St c w (M++r::L):=h.perm (List.perm_middle.symm)
   exact (St.mv1 (St.list' h1)).star'
def big {α:Type}(f:α→Res) (l:List α):Res:=Q62 (l.map f)
theorem Q7g {α β:Type}(f:α→β):∀(l:List α) (k:Nat),(l.eraseIdx k).map f=(l.map f).eraseIdx k
 | [],_=>rfl
 | _::_,0=>rfl
 | x::l,k+1=>by simp only [List.eraseIdx_cons_succ,List.map_cons,Q7g f l k]
theorem Qam {α:Type}(f:α→Res):∀{l:List α}{k:Nat}{x:α},l[k]?=some x→nth (l.map f) k=some (f x)
 | [],_,_,h=>by simp at h
 | y::l,0,x,h=>by simp at h;subst h;rfl
 | y::l,k+1,x,h=>Qam f (l:=l) (by simpa using h)
theorem St.bigOut {α:Type}{f:α→Res}{l:List α}{i k:Nat}{x:α}(h:St c w L) (hi:nth L i=some (big f l)) (hk:l[k]?=some x):St c w (f x::L.set i (big f (l.eraseIdx k))):=by
 have h1:St c w (l.map f++L.eraseIdx i):=(h.out hi).list
 have h2:St c w ((f x::(l.map f).eraseIdx k)++L.eraseIdx i):=h1.perm ((Q2B (Qam f hk)).append_right _)
 rw [←Q7g] at h2
 have h3:St c w ((l.eraseIdx k).map f++f x::L.eraseIdx i):=h2.perm List.perm_middle.symm
 have h4:St c w (big f (l.eraseIdx k)::f x::L.eraseIdx i):=h3.list'
 exact h4.mv1.perm ((Q2r hi).cons _)
theorem St.bigIn {α:Type}{f:α→Res}{l:List α}{i k:Nat}{x':α}(h:St c w (f x'::L)) (hi:nth L i=some (big f (l.eraseIdx k))) (hk:k<l.length):St c w (L.set i (big f (l.set k x'))):=by
 have h1:St c w (big f (l.eraseIdx k)::f x'::L.eraseIdx i):=((h.perm ((Q2B hi).cons _)):St c w (f x'::big f (l.eraseIdx k)::L.eraseIdx i)).mv1
 have h2:St c w ((l.eraseIdx k).map f++f x'::L.eraseIdx i):=h1.list
 rw [Q7g] at h2
 have h3:St c w (f x'::(l.map f).eraseIdx k++L.eraseIdx i):=h2.perm List.perm_middle
 have hx:nth (l.map f) k=some (f (l[k]'hk)):=Qam f (List.getElem?_eq_getElem hk)
 have h4:St c w ((l.map f).set k (f x')++L.eraseIdx i):=h3.perm ((Q2r hx).append_right _)
 rw [←List.map_set] at h4
 exact (St.list' h4:St c w (big f (l.set k x')::L.eraseIdx i)).back hi
def Cx.top (w:World):Cx:=⟨w,(· < w.heap.size),w.heap⟩
theorem St.top (w:World):St (Cx.top w) w []:=⟨⟨rfl,rfl,rfl,Nat.le_refl _,fun _ h=>h,fun _ _=>rfl⟩,NF,fun _ h=>h,fun _ h=>h.elim⟩
theorem St.fr {w0:World}(h:St (Cx.top w0) w L):Fr NF w0 w:=⟨h.1.os,h.1.tape,h.1.output,h.1.size,fun b hb _=>h.1.same b hb⟩
end

abbrev FzS (c:Cx) (es:Nat) (v:Value) (css:List (List Value)):Prop:=SlR c.H0 es v c.K css
def AtK (c:Cx) (b o:Nat) (cs:List Value):Prop:=c.K b∧At c.H0 b o cs
theorem AtK.up {c c':Cx}{b o:Nat}{cs:List Value}(h:AtK c b o cs) (hle:c.Le c'):AtK c' b o cs:=⟨(hle.K b h.1).1,h.2.of_same (hle.K b h.1).2⟩
theorem FzS.up {c c':Cx}{es:Nat}{v:Value}{css:List (List Value)}(h:FzS c es v css) (hle:c.Le c'):FzS c' es v css:=by
 obtain ⟨h0,a,cap,hv,hlc,hc|⟨b,off,ha,hF,hb,hat⟩⟩:=h
 · exact ⟨h0,a,cap,hv,hlc, .inl hc⟩
 · exact ⟨h0,a,cap,hv,hlc, .inr ⟨b,off,ha,(hle.K b hF).1,Nat.lt_of_lt_of_le hb hle.size,fun m c hm=>(hat m c hm).of_same (hle.K b hF).2⟩⟩
theorem FzS.now {c:Cx}{w:World}{L:List Res}{es:Nat}{v:Value}{css:List (List Value)}(h:FzS c es v css) (hS:St c w L):SlR w.heap es v c.K css:=
 SlR.of_same h fun b hb _=>hS.1.same b hb
theorem AtK.now {c:Cx}{w:World}{L:List Res}{b o:Nat}{cs:List Value}(h:AtK c b o cs) (hS:St c w L):At w.heap b o cs:=h.2.of_same (hS.1.same b h.1)
theorem FzS.top {w:World}{es:Nat}{v:Value}{css:List (List Value)}(h:SlR w.heap es v (fun _=>True) css):FzS (Cx.top w) es v css:=SlR.mono h fun _ hb _=>hb
theorem FzS.nil (c:Cx) (es:Nat):FzS c es (.slice none 0 0) []:=⟨by simp,none,0,rfl,Nat.le_refl _, .inl rfl⟩
theorem St.freezeS {c:Cx}{w:World}{L:List Res}{T:TypeId}{es:Nat}{v:Value}{css:List (List Value)}(h:St c w (sl T es v css::L)):∃c',c.Le c'∧St c' w L∧FzS c' es v css:=by
 obtain ⟨c',F,h1,h2,h3,h4⟩:=h.freeze
 exact ⟨c',h1,h2,SlR.mono (Sl.toR h3) fun b _ hb=>h4 b hb⟩
def ElP (v:Value) (n es m b o:Nat):Prop:=m<n∧∃off cap,v= .slice (some ⟨b,off,none⟩) n cap∧o=off+m*es
theorem ElP.el {v:Value}{n es m b o:Nat}{H:Heap}{T:TypeId}{F:Nat→Prop}{css:List (List Value)}(h:ElP v n es m b o) (hn:css.length=n) (hs:Sl H T es v F css):El H T es v F css m b o:=by
 subst hn;exact ⟨hs,h.1,h.2⟩

section
variable {P:Program}{l:List GO}{Q:QT}{ρ:Env}{w:World}{c:Cx}{L:List Res}{i:Nat}{T es:Nat}{v:Value}{css:List (List Value)}

theorem Q5i {d:Nat}{x:Operand}{b o:Nat}{cs:List Value}{u:Value}(hS:St c w L) (hx:ρ.ev x= .pointer (some ⟨b,o,none⟩)) (hi:nth L i=some (blk b T cs)) (hu:cs[o]?=some u)
 (h:Q0 P l Q (upd ρ d u) w):Q0 P (⟨none, .load1 d x⟩::l) Q ρ w:=by
 obtain ⟨F,h1,_⟩:=hS.step hi;exact s_loadb hx h1.1 hu h
theorem QaX {d n:Nat}{x:Operand}{b o:Nat}{cs us:List Value}(hS:St c w L) (hx:ρ.ev x= .pointer (some ⟨b,o,none⟩)) (hi:nth L i=some (blk b T cs)) (hu:(cs.drop o).take n=us) (hl:us.length=n)
 (h:Q0 P l Q (upd ρ d (.agg ⟨us⟩)) w):Q0 P (⟨none, .loadn d n x⟩::l) Q ρ w:=by
 obtain ⟨F,h1,_⟩:=hS.step hi;exact s_loadn hx h1.1 hu hl h
theorem Qbu {b:Nat}{F:Nat→Prop}{w':World}(h:∀x,F x↔x=b) (hf:Fr (· =b) w w'):Step F F w w':=Step.same (hf.into fun x hx=>(h x).2 hx)
theorem s_storeB {x y:Operand}{b o:Nat}{cs:List Value}{u:Value}(hS:St c w L) (hx:ρ.ev x= .pointer (some ⟨b,o,none⟩)) (hy:ρ.ev y=u) (hi:nth L i=some (blk b T cs)) (ho:o<cs.length) (h1:oneC u=true)
 (h:∀w',St c w' (L.set i (blk b T (cs.set o u)))→Q0 P l Q ρ w'):Q0 P (⟨none, .store1 x y⟩::l) Q ρ w:=by
 obtain ⟨F,hr,_,hst⟩:=hS.step hi
 exact s_store hx hy hr.1 ho h1 fun w' hf _ hb=>h w' (hst w' F _ ⟨hb,hr.2⟩ (Qbu hr.2 hf))
theorem Q8T {n:Nat}{x y:Operand}{b o:Nat}{cs us cs':List Value}(hS:St c w L) (hx:ρ.ev x= .pointer (some ⟨b,o,none⟩)) (hy:ρ.ev y= .agg ⟨us⟩) (hn:us.length=n) (hi:nth L i=some (blk b T cs)) (ho:o+n≤cs.length) (h1:∀u∈us,oneC u=true)
 (hc:cs.take o++(us++cs.drop (o+n))=cs') (h:∀w',St c w' (L.set i (blk b T cs'))→Q0 P l Q ρ w'):Q0 P (⟨none, .storen n x y⟩::l) Q ρ w:=by
 subst hc
 obtain ⟨F,hr,_,hst⟩:=hS.step hi
 exact s_storen hx hy hn hr.1 ho h1 fun w' hf _ hb=>h w' (hst w' F _ ⟨hb,hr.2⟩ (Qbu hr.2 hf))
theorem St.blkAt {b:Nat}{cs:List Value}(hS:St c w L) (hi:nth L i=some (blk b T cs)):Blk w.heap b T cs:=by
 obtain ⟨F,hr,_⟩:=hS.step hi;exact hr.1
theorem Qb {d:Nat}{z:List Value}(hS:St c w L) (h:∀b w',St c w' (blk b T z::L)→Q0 P l Q (upd ρ d (.pointer (some ⟨b,0,none⟩))) w'):Q0 P (⟨none, .alloc d T z⟩::l) Q ρ w:=
 s_alloc fun b w' hb hf _ hk=>h b w' (hS.new (F':=(· =b)) ⟨hk,fun _=>Iff.rfl⟩ hf fun x hx=>by omega)
theorem s_boxB {d:Nat}{x:Operand}{cs:List Value}(hS:St c w L) (hx:ρ.ev x=v) (hc:v.cells=⟨cs⟩) (h:∀b w',St c w' (blk b T cs::L)→Q0 P l Q (upd ρ d (.pointer (some ⟨b,0,none⟩))) w'):Q0 P (⟨none, .box d T x⟩::l) Q ρ w:=
 s_boxV hx hc fun b w' hb hf _ hk=>h b w' (hS.new (F':=(· =b)) ⟨hk,fun _=>Iff.rfl⟩ hf fun x hx=>by omega)
theorem St.laid {b:Nat}{w':World}{cs:List Value}(hS:St c w L) (hb:b=w.heap.size) (hf:Fr NF w w') (hk:Blk w'.heap b T cs):St c w' (blk b T cs::L):=hS.new (F':=(· =b)) ⟨hk,fun _=>Iff.rfl⟩ hf fun x hx=>by omega
theorem St.slOf {b n:Nat}{cs:List Value}(hS:St c w (blk b T cs::L)) (hf:css.flatten=cs) (hl:∀c∈css,c.length=es) (hn:css.length=n):St c w (sl T es (.slice (some ⟨b,0,none⟩) n n) css::L):=
 hS.imp fun _ _ h=>Sl.ext (Sl.fresh h.1 hf hl hn) fun x=>(h.2 x).symm

theorem QY {d m:Nat}{x y:Operand}{k:IntKind}(hS:St c w L) (hx:ρ.ev x=v) (hy:ρ.ev y= .int k (m:Int)) (hi:nth L i=some (sl T es v css)) (hm:m<css.length)
 (h:∀b o,ElP v css.length es m b o→Q0 P l Q (upd ρ d (.pointer (some ⟨b,o,none⟩))) w):Q0 P (⟨none, .idx d es x y⟩::l) Q ρ w:=by
 obtain ⟨F,hr,_⟩:=hS.step hi
 exact s_idxSn hx hy hr hm fun b o he=>h b o ⟨he.2,he.3⟩
theorem Q2G {d:Nat}{x y:Operand}{k:IntKind}{n:Int}(hS:St c w L) (hx:ρ.ev x=v) (hy:ρ.ev y= .int k n) (hi:nth L i=some (sl T es v css)) (h0:0≤n) (hm:n<css.length)
 (h:∀b o,ElP v css.length es n.toNat b o→Q0 P l Q (upd ρ d (.pointer (some ⟨b,o,none⟩))) w):Q0 P (⟨none, .idx d es x y⟩::l) Q ρ w:=by
 obtain ⟨F,hr,_⟩:=hS.step hi
 exact s_idxS hx hy hr h0 hm fun b o he=>h b o ⟨he.2,he.3⟩
theorem QcM {d:Nat}{x:Operand}(hS:St c w L) (hx:ρ.ev x=v) (hi:nth L i=some (sl T es v css)) (h:Q0 P l Q (upd ρ d (.int .i64 css.length)) w):Q0 P (⟨none, .len d x⟩::l) Q ρ w:=by
 obtain ⟨F,hr,_⟩:=hS.step hi;exact s_lenS hx hr h
theorem QI {d n:Nat}{x:Operand}{m b o j:Nat}{cs:List Value}{u:Value}(hS:St c w L) (he:ElP v n es m b o) (hx:ρ.ev x= .pointer (some ⟨b,o+j,none⟩)) (hi:nth L i=some (sl T es v css)) (hn:css.length=n) (hc:css[m]?=some cs) (hu:cs[j]?=some u)
 (h:Q0 P l Q (upd ρ d u) w):Q0 P (⟨none, .load1 d x⟩::l) Q ρ w:=by
 obtain ⟨F,hr,_⟩:=hS.step hi;exact s_loadSj hx (he.el hn hr) hc hu h
theorem Q1A {d n:Nat}{x:Operand}{m b o:Nat}{cs:List Value}{u:Value}(hS:St c w L) (he:ElP v n es m b o) (hx:ρ.ev x= .pointer (some ⟨b,o,none⟩)) (hi:nth L i=some (sl T es v css)) (hn:css.length=n) (hc:css[m]?=some cs) (hu:cs[0]?=some u)
 (h:Q0 P l Q (upd ρ d u) w):Q0 P (⟨none, .load1 d x⟩::l) Q ρ w:=QI (j:=0) hS he hx hi hn hc hu h
theorem Q3i {d n:Nat}{x:Operand}{m b o:Nat}{cs:List Value}(hS:St c w L) (he:ElP v n es m b o) (hx:ρ.ev x= .pointer (some ⟨b,o,none⟩)) (hi:nth L i=some (sl T es v css)) (hn:css.length=n) (hc:css[m]?=some cs)
 (h:Q0 P l Q (upd ρ d (.agg ⟨cs⟩)) w):Q0 P (⟨none, .loadn d es x⟩::l) Q ρ w:=by
 obtain ⟨F,hr,_⟩:=hS.step hi;exact s_loadnS hx (he.el hn hr) hc h
theorem Q8U {n:Nat}{x y:Operand}{m b o j:Nat}{cs:List Value}{u:Value}(hS:St c w L) (he:ElP v n es m b o) (hx:ρ.ev x= .pointer (some ⟨b,o+j,none⟩)) (hy:ρ.ev y=u) (hi:nth L i=some (sl T es v css)) (hn:css.length=n) (hc:css[m]?=some cs) (hj:j<es) (ho:oneC u=true)
 (h:∀w',St c w' (L.set i (sl T es v (css.set m (cs.set j u))))→Q0 P l Q ρ w'):Q0 P (⟨none, .store1 x y⟩::l) Q ρ w:=by
 obtain ⟨F,hr,_,hst⟩:=hS.step hi
 exact QcF hx hy (he.el hn hr) hc hj ho fun w' hf _ hk=>h w' (hst w' F _ hk.sl (Step.same hf))
theorem Q6b {n:Nat}{x y:Operand}{m b o:Nat}{cs:List Value}{u:Value}(hS:St c w L) (he:ElP v n es m b o) (hx:ρ.ev x= .pointer (some ⟨b,o,none⟩)) (hy:ρ.ev y=u) (hi:nth L i=some (sl T es v css)) (hn:css.length=n) (hc:css[m]?=some cs) (hj:0<es) (ho:oneC u=true)
 (h:∀w',St c w' (L.set i (sl T es v (css.set m (cs.set 0 u))))→Q0 P l Q ρ w'):Q0 P (⟨none, .store1 x y⟩::l) Q ρ w:=Q8U (j:=0) hS he hx hy hi hn hc hj ho h
theorem Q6w {n:Nat}{x y:Operand}{m b o:Nat}{cs us:List Value}{k:Nat}(hS:St c w L) (he:ElP v n es m b o) (hx:ρ.ev x= .pointer (some ⟨b,o,none⟩)) (hy:ρ.ev y= .agg ⟨us⟩) (hk:us.length=k) (hi:nth L i=some (sl T es v css)) (hn:css.length=n) (hc:css[m]?=some cs) (hl:us.length=es) (ho:∀u∈us,oneC u=true)
 (h:∀w',St c w' (L.set i (sl T es v (css.set m us)))→Q0 P l Q ρ w'):Q0 P (⟨none, .storen k x y⟩::l) Q ρ w:=by
 obtain ⟨F,hr,_,hst⟩:=hS.step hi
 exact QcD hx hy hk (he.el hn hr) hc hl ho fun w' hf _ hk=>h w' (hst w' F _ hk.sl (Step.same hf))
theorem Q1m {n:Nat}{x y:Operand}{m b o j:Nat}{cs:List Value}{u:Value}{css':List (List Value)}(hS:St c w L) (he:ElP v n es m b o) (hx:ρ.ev x= .pointer (some ⟨b,o+j,none⟩)) (hy:ρ.ev y=u) (hi:nth L i=some (sl T es v css)) (hn:css.length=n) (hc:css[m]?=some cs) (hj:j<es) (ho:oneC u=true)
 (hc':css.set m (cs.set j u)=css') (h:∀w',St c w' (L.set i (sl T es v css'))→Q0 P l Q ρ w'):Q0 P (⟨none, .store1 x y⟩::l) Q ρ w:=by subst hc';exact Q8U hS he hx hy hi hn hc hj ho h
theorem s_subE {d:Nat}{x:Operand}{lo hi' mx:Option Operand}{l' h':Nat}(hS:St c w L) (hx:ρ.ev x=v) (hi:nth L i=some (sl T es v css)) (hmx:mx=none) (hh:bnd ρ css.length hi' h') (hl:bnd ρ 0 lo l') (h2:h'≤css.length) (h3:l'≤h')
 (h:∀v',St c w (L.set i (sl T es v' ((css.take h').drop l')))→Q0 P l Q (upd ρ d v') w):Q0 P (⟨none, .sub d es x lo hi' mx⟩::l) Q ρ w:=by
 obtain ⟨F,hr,_,hst⟩:=hS.step hi
 exact s_subS hx hr hmx hh hl h2 h3 fun v' hk=>h v' (hst w F _ hk (Step.same (Fr.refl _ _)))
theorem Q3G {d:Nat}{Ts Ts2 Ty nb:Nat}{z:List Value}{x y:Operand}{v2:Value}{css2:List (List Value)}(hel:Q2f P Ts=some (T,es,nb,z))
 (hts:(∃e2,P.underlying Ts2=some (.slice e2))∨P.underlying Ts2=some .string) (hS:St c w L) (hx:ρ.ev x=v) (hy:ρ.ev y=v2) (hi:nth L i=some (sl T es v css)) (hsrc:Src P w es v2 css2) (hb:(css.length+css2.length)*nb≤140737488355328)
 (h : ∀ v' w', St c w' (L.set i (sl T es v' (css ++ css2))) → Q0 P l Q (upd ρ d v') w') : Q0 P (⟨none, .raw ⟨some d, .call ⟨.builtin .append, #[x, y], #[Ts, Ts2]⟩, Ty, "", #[], none⟩⟩ :: l) Q ρ w := by
 obtain ⟨F,hr,_,hst⟩:=hS.step hi
 exact s_app hel hts hx hy hr hsrc hb fun v' w' ⟨F',h1,h2,h3⟩=>h v' w' (hst w' F' _ h1 ⟨h2,h3⟩)
theorem Q87 {d:Nat}{Ts Ty nb:Nat}{z:List Value}{x y:Operand}{k k':IntKind}{n:Int}(hel:Q2f P Ts=some (T,es,nb,z)) (hS:St c w L) (hx:ρ.ev x= .int k n) (hy:ρ.ev y= .int k' n) (h0:0≤n) (hn:n*nb≤281474976710656)
 (h:∀v' w',St c w' (sl T es v' (List.replicate n.toNat z)::L)→Q0 P l Q (upd ρ d v') w'):
 Q0 P (⟨none, .raw ⟨some d, .makeSlice Ts x y, Ty, "", #[], none⟩⟩ :: l) Q ρ w :=
 s_make hel hx hy h0 hn fun v' w' hf hs _=>h v' w' (hS.new hs hf fun b hb=>by omega)

theorem St.srcB1 {b:Nat}{u:Value}(hS:St c w L) (hi:nth L i=some (blk b T [u])) (ho:oneC u=true):Src P w 1 (.slice (some ⟨b,0,none⟩) 1 1) [[u]]:=by
 obtain ⟨F,hr,_⟩:=hS.step hi;exact src_one hr.1 ho
theorem St.srcB {b n:Nat}{cs:List Value}(hS:St c w L) (hi:nth L i=some (blk b T cs)) (hn:cs.length=n) (ho:∀u∈cs,oneC u=true):Src P w n (.slice (some ⟨b,0,none⟩) 1 1) [cs]:=by
 obtain ⟨F,hr,_⟩:=hS.step hi;exact src_agg hr.1 hn ho
theorem FzS.src {css:List (List Value)}(h:FzS c es v css) (hS:St c w L) (ho:∀c∈css,∀u∈c,oneC u=true):Src P w es v css:=(h.now hS).src ho

theorem s_lenK {d:Nat}{x:Operand}(hx:ρ.ev x=v) (hs:FzS c es v css) (h:Q0 P l Q (upd ρ d (.int .i64 css.length)) w):Q0 P (⟨none, .len d x⟩::l) Q ρ w:=by
 obtain ⟨a,c,hv⟩:=SlR.shape hs
 exact s_len (hx.trans hv) h
theorem s_idxK {d m:Nat}{x y:Operand}{k:IntKind}{cs:List Value}(hx:ρ.ev x=v) (hy:ρ.ev y= .int k (m:Int)) (hs:FzS c es v css) (hc:css[m]?=some cs)
 (h:∀b o,AtK c b o cs→Q0 P l Q (upd ρ d (.pointer (some ⟨b,o,none⟩))) w):Q0 P (⟨none, .idx d es x y⟩::l) Q ρ w:=by
 obtain ⟨_,a,cap,hv,hlc,hn|⟨b,off,ha,hF,hb,hat⟩⟩:=hs
 · subst hn;simp at hc
 · subst hv ha
   have hlt:=(List.getElem?_eq_some_iff.1 hc).1
   exact Qa6 hx hy (by omega) (by omega) (h b _ ⟨hF,hat _ _ hc⟩)
theorem Q88 {d:Nat}{x:Operand}{b o j:Nat}{cs:List Value}{u:Value}(hS:St c w L) (ha:AtK c b o cs) (hx:ρ.ev x= .pointer (some ⟨b,o+j,none⟩)) (hu:cs[j]?=some u)
 (h:Q0 P l Q (upd ρ d u) w):Q0 P (⟨none, .load1 d x⟩::l) Q ρ w:=s_loadAj hx (ha.now hS) hu h
theorem s_loadK {d:Nat}{x:Operand}{b o:Nat}{cs:List Value}{u:Value}(hS:St c w L) (ha:AtK c b o cs) (hx:ρ.ev x= .pointer (some ⟨b,o,none⟩)) (hu:cs[0]?=some u)
 (h:Q0 P l Q (upd ρ d u) w):Q0 P (⟨none, .load1 d x⟩::l) Q ρ w:=s_loadA hx (ha.now hS) hu h
theorem s_loadnK {d n:Nat}{x:Operand}{b o:Nat}{cs:List Value}(hS:St c w L) (ha:AtK c b o cs) (hx:ρ.ev x= .pointer (some ⟨b,o,none⟩)) (hl:cs.length=n)
 (h:Q0 P l Q (upd ρ d (.agg ⟨cs⟩)) w):Q0 P (⟨none, .loadn d n x⟩::l) Q ρ w:=s_loadnA hx (ha.now hS) hl h
theorem s_subK {d:Nat}{x:Operand}{lo hi mx:Option Operand}{l' h':Nat}(hx:ρ.ev x=v) (hs:FzS c es v css) (hmx:mx=none) (hh:bnd ρ css.length hi h') (hl:bnd ρ 0 lo l') (h2:h'≤css.length) (h3:l'≤h')
 (h:∀v',FzS c es v' ((css.take h').drop l')→Q0 P l Q (upd ρ d v') w):Q0 P (⟨none, .sub d es x lo hi mx⟩::l) Q ρ w:=by
 subst hmx
 obtain ⟨h0,a,cap,hv,hlc,hc⟩:=hs
 subst hv
 have hl1:((css.take h').drop l').length=h' - l':=by simp;omega
 refine s_sub (m:=cap) hx rfl hh hl (Nat.le_refl _) (by omega) h3 (h _ ⟨fun c hc=>h0 c (List.mem_of_mem_take (List.mem_of_mem_drop hc)),_,cap - l',by rw [hl1],by omega,?_⟩)
 rcases hc with hc|⟨b,off,ha,hF,hb,hat⟩
 · subst hc;exact .inl (by simp)
 · by_cases he:h'=l'
   · exact .inl (List.eq_nil_of_length_eq_zero (by omega))
   · refine .inr ⟨b,off+l'*es,?_,hF,hb,fun m c hm=>?_⟩
     · rw [if_neg (by omega),ha];simp only [Option.map_some,Q1s]
     · have hm':css[l'+m]?=some c:=by
        have:=(List.getElem?_eq_some_iff.1 hm).1
        rw [List.getElem?_drop,List.getElem?_take_of_lt (by omega)] at hm;exact hm
       have:=hat _ _ hm'
       rw [Nat.add_mul,←Nat.add_assoc] at this
       exact this

theorem Q16 {d b o:Nat}{x:Operand}{u:Value}{cs:List Value}(hS:St c w L) (hx:ρ.ev x= .pointer (some ⟨b,o,none⟩)) (hi:nth L i=some (blk b T cs)) (hu:cs[o]?=some u):gqv P ρ w ⟨none, .load1 d x⟩ u:=by
 obtain ⟨F,hr,_⟩:=hS.step hi;exact gq_load hx hr.1 hu
theorem Q28 {d n b o:Nat}{x:Operand}{us cs:List Value}(hS:St c w L) (hx:ρ.ev x= .pointer (some ⟨b,o,none⟩)) (hi:nth L i=some (blk b T cs)) (hu:(cs.drop o).take n=us) (hl:us.length=n):gqv P ρ w ⟨none, .loadn d n x⟩ (.agg ⟨us⟩):=by
 obtain ⟨F,hr,_⟩:=hS.step hi;exact gq_loadn hx hr.1 hu hl
theorem Q29 {d n:Nat}{x:Operand}{m b o j:Nat}{cs:List Value}{u:Value}(hS:St c w L) (he:ElP v n es m b o) (hx:ρ.ev x= .pointer (some ⟨b,o+j,none⟩)) (hi:nth L i=some (sl T es v css)) (hn:css.length=n) (hc:css[m]?=some cs) (hu:cs[j]?=some u):gqv P ρ w ⟨none, .load1 d x⟩ u:=by
 obtain ⟨F,hr,_⟩:=hS.step hi;exact ⟨_,hx,(he.el hn hr).cell hc hu⟩
theorem Q8u {d:Nat}{x:Operand}{b o j:Nat}{cs:List Value}{u:Value}(hS:St c w L) (ha:AtK c b o cs) (hx:ρ.ev x= .pointer (some ⟨b,o+j,none⟩)) (hu:cs[j]?=some u):gqv P ρ w ⟨none, .load1 d x⟩ u:=⟨_,hx,(ha.now hS).cell hu⟩
theorem Q78 {d n:Nat}{x:Operand}{b o j:Nat}{cs us:List Value}(hS:St c w L) (ha:AtK c b o cs) (hx:ρ.ev x= .pointer (some ⟨b,o+j,none⟩)) (hu:(cs.drop j).take n=us) (hl:us.length=n):gqv P ρ w ⟨none, .loadn d n x⟩ (.agg ⟨us⟩):=⟨_,us,hx,(ha.now hS).cells hu hl,rfl⟩

theorem St.shape (hS:St c w L) (hi:nth L i=some (sl T es v css)):∃a c,v= .slice a css.length c:=by
 obtain ⟨F,hr,_⟩:=hS.step hi;exact Sl.shape hr
theorem St.oneC (hS:St c w L) (hi:nth L i=some (sl T es v css)):Go.Lir.oneC v=true:=by
 obtain ⟨F,hr,_⟩:=hS.step hi;exact Sl.oneC hr
theorem QZ {d n:Nat}{x:Operand}(hS:St c w L) (hx:ρ.ev x=v) (hi:nth L i=some (sl T es v css)) (hn:css.length=n) (h:Q0 P l Q (upd ρ d (.int .i64 n)) w):Q0 P (⟨none, .len d x⟩::l) Q ρ w:=by
 subst hn;exact QcM hS hx hi h
theorem s_lenKn {d n:Nat}{x:Operand}(hx:ρ.ev x=v) (hs:FzS c es v css) (hn:css.length=n) (h:Q0 P l Q (upd ρ d (.int .i64 n)) w):Q0 P (⟨none, .len d x⟩::l) Q ρ w:=by
 subst hn;exact s_lenK hx hs h
theorem s_loadI {d n:Nat}{x:Operand}{m b o:Nat}{xs:List Int}(hS:St c w L) (he:ElP v n 1 m b o) (hx:ρ.ev x= .pointer (some ⟨b,o,none⟩)) (hi:nth L i=some (sl T 1 v (xs.map QX))) (hn:(xs.map QX).length=n) (hm:m<xs.length)
 (h:Q0 P l Q (upd ρ d (.int .i64 (xs.getD m 0))) w):Q0 P (⟨none, .load1 d x⟩::l) Q ρ w:=Q1A hS he hx hi hn (Q1D QX xs 0 hm) rfl h
theorem s_loadBo {d n:Nat}{x:Operand}{m b o:Nat}{xs:List Bool}(hS:St c w L) (he:ElP v n 1 m b o) (hx:ρ.ev x= .pointer (some ⟨b,o,none⟩)) (hi:nth L i=some (sl T 1 v (xs.map Qi))) (hn:(xs.map Qi).length=n) (hm:m<xs.length)
 (h:Q0 P l Q (upd ρ d (.bool (xs.getD m false))) w):Q0 P (⟨none, .load1 d x⟩::l) Q ρ w:=Q1A hS he hx hi hn (Q1D Qi xs false hm) rfl h
theorem s_storeI {n:Nat}{x y:Operand}{m b o:Nat}{xs:List Int}{u:Int}(hS:St c w L) (he:ElP v n 1 m b o) (hx:ρ.ev x= .pointer (some ⟨b,o,none⟩)) (hy:ρ.ev y= .int .i64 u) (hi:nth L i=some (sl T 1 v (xs.map QX))) (hn:(xs.map QX).length=n) (hm:m<xs.length)
 (h:∀w',St c w' (L.set i (sl T 1 v ((xs.set m u).map QX)))→Q0 P l Q ρ w'):Q0 P (⟨none, .store1 x y⟩::l) Q ρ w:=
 Q6b hS he hx hy hi hn (Q1D QX xs 0 hm) (by omega) rfl fun w' hS=>h w' (by rw [←map_set];exact hS)
theorem QcG {n:Nat}{x y:Operand}{m b o:Nat}{xs:List Bool}{u:Bool}(hS:St c w L) (he:ElP v n 1 m b o) (hx:ρ.ev x= .pointer (some ⟨b,o,none⟩)) (hy:ρ.ev y= .bool u) (hi:nth L i=some (sl T 1 v (xs.map Qi))) (hn:(xs.map Qi).length=n) (hm:m<xs.length)
 (h:∀w',St c w' (L.set i (sl T 1 v ((xs.set m u).map Qi)))→Q0 P l Q ρ w'):Q0 P (⟨none, .store1 x y⟩::l) Q ρ w:=
 Q6b hS he hx hy hi hn (Q1D Qi xs false hm) (by omega) rfl fun w' hS=>h w' (by rw [←map_set];exact hS)

theorem s_rets_0 {d:Nat}{f:FuncId}{S:Value→World→Prop}(hc:Rets P f [] w S) (h:∀v w',S v w'→Q0 P l Q (upd ρ d v) w'):Q0 P (⟨none, .call (some d) f []⟩::l) Q ρ w:=Q5N (by rfl) hc h
theorem s_rets_1 {d:Nat}{f:FuncId}{x0:Operand}{u0:Value}{S:Value→World→Prop}(h0:ρ.ev x0=u0) (hc:Rets P f [u0] w S) (h:∀v w',S v w'→Q0 P l Q (upd ρ d v) w'):Q0 P (⟨none, .call (some d) f [x0]⟩::l) Q ρ w:=Q5N (by subst h0;rfl) hc h
theorem s_rets_2 {d:Nat}{f:FuncId}{x0 x1:Operand}{u0 u1:Value}{S:Value→World→Prop}(h0:ρ.ev x0=u0) (h1:ρ.ev x1=u1) (hc:Rets P f [u0,u1] w S) (h:∀v w',S v w'→Q0 P l Q (upd ρ d v) w'):Q0 P (⟨none, .call (some d) f [x0,x1]⟩::l) Q ρ w:=Q5N (by subst h0 h1;rfl) hc h
theorem s_rets_3 {d:Nat}{f:FuncId}{x0 x1 x2:Operand}{u0 u1 u2:Value}{S:Value→World→Prop}(h0:ρ.ev x0=u0) (h1:ρ.ev x1=u1) (h2:ρ.ev x2=u2) (hc:Rets P f [u0,u1,u2] w S) (h:∀v w',S v w'→Q0 P l Q (upd ρ d v) w'):Q0 P (⟨none, .call (some d) f [x0,x1,x2]⟩::l) Q ρ w:=Q5N (by subst h0 h1 h2;rfl) hc h
theorem s_rets_4 {d:Nat}{f:FuncId}{x0 x1 x2 x3:Operand}{u0 u1 u2 u3:Value}{S:Value→World→Prop}(h0:ρ.ev x0=u0) (h1:ρ.ev x1=u1) (h2:ρ.ev x2=u2) (h3:ρ.ev x3=u3) (hc:Rets P f [u0,u1,u2,u3] w S) (h:∀v w',S v w'→Q0 P l Q (upd ρ d v) w'):Q0 P (⟨none, .call (some d) f [x0,x1,x2,x3]⟩::l) Q ρ w:=Q5N (by subst h0 h1 h2 h3;rfl) hc h
end
end Go.Lir
namespace Go.Lir
inductive Ty where
 | mk:Int→Int→List Ty→Ty
def Ty.kind:Ty→Int| .mk k _ _=>k
def Ty.r:Ty→Int| .mk _ r _=>r
def Ty.l:Ty→List Ty| .mk _ _ l=>l
def tyRd (H:Heap) (F:Nat→Prop):Nat→List Value→Ty→Prop
 | 0,_,_=>False
 | n+1,cs,t=>∃v css,cs=[.int .i64 t.kind, .int .i64 t.r,v]∧SlR H 3 v F css∧css.length=t.l.length∧t.l.length≤140737488355328∧∀(m:Nat) (x:Ty),t.l[m]?=some x→∃d,css[m]?=some d∧tyRd H F n d x
theorem tyRd.len {H:Heap}{F:Nat→Prop}:∀{n:Nat}{cs:List Value}{t:Ty},tyRd H F n cs t→cs.length=3
 | 0,_,_,h=>h.elim
 | _+1,_,_,h=>by obtain ⟨_,_,rfl,_⟩:=h;rfl
theorem tyRd.more {H:Heap}{F:Nat→Prop}:∀{n m:Nat}{cs:List Value}{t:Ty},n≤m→tyRd H F n cs t→tyRd H F m cs t
 | 0,_,_,_,_,h=>h.elim
 | n+1,0,_,_,hm,_=>by omega
 | n+1,m+1,_,_,hm,h=>by
   obtain ⟨v,css,h1,h2,h3,h4,h5⟩:=h
   exact ⟨v,css,h1,h2,h3,h4,fun i x hx=>by obtain ⟨d,h6,h7⟩:=h5 i x hx;exact ⟨d,h6,h7.more (by omega)⟩⟩
theorem tyRd.turn {H H':Heap}{F G:Nat→Prop}(hs:∀v css,SlR H 3 v F css→SlR H' 3 v G css):∀{n:Nat}{cs:List Value}{t:Ty},tyRd H F n cs t→tyRd H' G n cs t
 | 0,_,_,h=>h.elim
 | n+1,_,_,h=>by
   obtain ⟨v,css,h1,h2,h3,h4,h5⟩:=h
   exact ⟨v,css,h1,hs _ _ h2,h3,h4,fun i x hx=>by obtain ⟨d,h6,h7⟩:=h5 i x hx;exact ⟨d,h6,h7.turn hs⟩⟩
def TyK (c:Cx) (cs:List Value) (t:Ty):Prop:=∃n,tyRd c.H0 c.K n cs t
theorem TyK.up {c c':Cx}{cs:List Value}{t:Ty}(h:TyK c cs t) (hle:c.Le c'):TyK c' cs t:=by
 obtain ⟨n,h⟩:=h;exact ⟨n,h.turn fun v css hs=>FzS.up hs hle⟩
theorem Qap {α:Type}{xs:List α}{R:Nat→α→Prop}(hm:∀n m x,n≤m→R n x→R m x) (h:∀x∈xs,∃n,R n x):∃n,∀x∈xs,R n x:=by
 induction xs with
 | nil=>exact ⟨0,by simp⟩
 | cons x xs ih=>
   obtain ⟨n,hn⟩:=ih fun y hy=>h y (List.mem_cons_of_mem _ hy)
   obtain ⟨m,hx⟩:=h x (List.mem_cons_self ..)
   refine ⟨max n m,fun y hy=>?_⟩
   rcases List.mem_cons.1 hy with rfl|hy
   · exact hm _ _ _ (Nat.le_max_right ..) hx
   · exact hm _ _ _ (Nat.le_max_left ..) (hn y hy)
theorem TyK.mk {c:Cx}{k r:Int}{v:Value}{css:List (List Value)}{l:List Ty}(hs:FzS c 3 v css) (hl:css.length=l.length) (hm:l.length≤140737488355328) (h:∀(m:Nat) (x:Ty),l[m]?=some x→∃d,css[m]?=some d∧TyK c d x):TyK c [.int .i64 k, .int .i64 r,v] (.mk k r l):=by
 obtain ⟨n,hn⟩:=Qap (xs:=List.range l.length) (R:=fun n m=>∀x,l[m]?=some x→∃d,css[m]?=some d∧tyRd c.H0 c.K n d x) (fun n m i hnm hr x hx=>by obtain ⟨d,h1,h2⟩:=hr x hx;exact ⟨d,h1,h2.more hnm⟩) (fun m hm=>by
  have hlt:=List.mem_range.1 hm
  obtain ⟨d,h1,n,h2⟩:=h m _ (List.getElem?_eq_getElem hlt)
  exact ⟨n,fun x hx=>by rw [List.getElem?_eq_getElem hlt] at hx;cases hx;exact ⟨d,h1,h2⟩⟩)
 exact ⟨n+1,v,css,rfl,hs,hl,hm,fun m x hx=>hn m (List.mem_range.2 (List.getElem?_eq_some_iff.1 hx).1) x hx⟩
theorem TyK.out {c:Cx}{cs:List Value}{t:Ty}(h:TyK c cs t):∃v css,cs=[.int .i64 t.kind, .int .i64 t.r,v]∧FzS c 3 v css∧css.length=t.l.length∧t.l.length≤140737488355328∧∀(m:Nat) (x:Ty),t.l[m]?=some x→∃d,css[m]?=some d∧TyK c d x:=by
 obtain ⟨n,h⟩:=h
 cases n with
 | zero=>exact h.elim
 | succ n=>
   obtain ⟨v,css,h1,h2,h3,h4,h5⟩:=h
   exact ⟨v,css,h1,h2,h3,h4,fun m x hx=>by obtain ⟨d,h6,h7⟩:=h5 m x hx;exact ⟨d,h6,n,h7⟩⟩

theorem QbJ {P:Program}{T e:TypeId}{α:Type}{Hd:Type}{enc:TypeId×Value→Hd}{w:World}{fuel es:Nat}{cs:List Value}{y:DataW Hd×List MemPlace}{rd:List Value→α→Prop}(hsz:P.cellsOf e=es) (hes:0<es) (hlen:∀d x,rd d x→d.length=es)
 (ht:P.underlying T=some (.slice e)) (h:DataW.trod enc P w 0 (fun _=>true) true fuel T cs=some y) (hby:0<P.bytesOf e) (hfit:Fits P T y.1)
 (hel:∀(n:Nat) (d:List Value) (z:DataW Hd×List MemPlace),DataW.trod enc P w 0 (fun _=>true) true n e d=some z→Fits P e z.1→SizeOf.sizeOf z.1<SizeOf.sizeOf y.1→∃x,rd d x):
 ∃(xs:List α) (v:Value) (css:List (List Value)),cs=[v]∧SlR w.heap es v (fun _=>True) css∧css.length=xs.length∧xs.length≤140737488355328∧∀(m:Nat) (x:α),xs[m]?=some x→∃d,css[m]?=some d∧rd d x:=by
 rcases Go.Deep.open_slice ht h with ⟨rfl,_⟩|⟨a,len,cap,m,n,D,Pl,rfl,_,hl,hm,hmm,hy,hi⟩
 · exact ⟨[], .slice none 0 0,[],rfl,⟨by simp,none,0,rfl,Nat.le_refl _, .inl rfl⟩,rfl,by simp,by simp⟩
 · have hmc:m=cap:=by simpa using hmm
   subst hmc
   have hfit':=hfit
   rw [hy] at hfit'
   obtain ⟨hlen0,hel0⟩:=Q7W ht hfit' hby
   simp only [List.length_map,List.length_range] at hlen0
   have hel2:∀i,i<len→∃(d:List Value) (x:α),w.cells? 0 (a.add (i*es)) es=some d∧rd d x:=by
    intro i hi'
    obtain ⟨d,h1,h2⟩:=hi i (by omega)
    rw [hsz] at h1
    obtain ⟨x,hx⟩:=hel n d _ h2 (hel0 _ (List.mem_map.2 ⟨i,List.mem_range.2 hi',rfl⟩)) (by
     rw [hy]
     have hmem:D i∈(List.range len).map D:=List.mem_map.2 ⟨i,List.mem_range.2 hi',rfl⟩
     have:=List.sizeOf_lt_of_mem hmem
     simp only [DataW.slice.sizeOf_spec]
     omega)
    exact ⟨d,x,h1,hx⟩
   have build:∀n,n≤len→∃(css:List (List Value)) (xs:List α),css.length=n∧xs.length=n∧
    ∀m,m<n→∃d x,css[m]?=some d∧xs[m]?=some x∧w.cells? 0 (a.add (m*es)) es=some d∧rd d x:=by
    intro n
    induction n with
    | zero=>intro _;exact ⟨[],[],rfl,rfl,fun m hm=>absurd hm (by omega)⟩
    | succ n ih=>
      intro hn
      obtain ⟨css,xs,h1,h2,h3⟩:=ih (by omega)
      obtain ⟨d,x,h4,h5⟩:=hel2 n (by omega)
      refine ⟨css++[d],xs++[x],by simp [h1],by simp [h2],fun m hm=>?_⟩
      by_cases hmn:m=n
      · subst hmn
        exact ⟨d,x,by rw [List.getElem?_append_right (by omega),h1];simp,by rw [List.getElem?_append_right (by omega),h2];simp,h4,h5⟩
      · obtain ⟨d',x',g1,g2,g3,g4⟩:=h3 m (by omega)
        exact ⟨d',x',by rw [List.getElem?_append_left (by omega)];exact g1,by rw [List.getElem?_append_left (by omega)];exact g2,g3,g4⟩
   obtain ⟨css,xs,h1,h2,h3⟩:=build len (Nat.le_refl _)
   refine ⟨xs, .slice (some a) len m,css,rfl,⟨?_,some a,m,by rw [h1],by omega,?_⟩,by omega,by omega,?_⟩
   · intro d hd
     obtain ⟨i,hi'⟩:=List.mem_iff_getElem?.1 hd
     have hlt:=(List.getElem?_eq_some_iff.1 hi').1
     obtain ⟨d',x',g1,g2,g3,g4⟩:=h3 i (by omega)
     rw [hi'] at g1
     simp only [Option.some.injEq] at g1
     subst g1
     exact hlen _ _ g4
   · rcases Nat.eq_zero_or_pos len with h0|h0
     · exact .inl (List.eq_nil_of_length_eq_zero (by omega))
     · obtain ⟨d0,x0,_,_,g3,_⟩:=h3 0 h0
       obtain ⟨hsp,hbl,_⟩:=Q6n g3 hes
       have ha0:a.add (0*es)=a:=by rw [Nat.zero_mul];rfl
       rw [ha0] at hsp hbl
       obtain ⟨b,o,s⟩:=a
       simp only at hsp
       subst hsp
       refine .inr ⟨b,o,rfl,trivial,hbl,fun i d hd=>?_⟩
       have hlt:=(List.getElem?_eq_some_iff.1 hd).1
       obtain ⟨d',x',g1,g2,g3,g4⟩:=h3 i (by omega)
       rw [hd] at g1
       simp only [Option.some.injEq] at g1
       subst g1
       rw [Q1s] at g3
       exact (Q6n g3 hes).2.2
   · intro i x hx
     have hlt:=(List.getElem?_eq_some_iff.1 hx).1
     obtain ⟨d',x',g1,g2,g3,g4⟩:=h3 i (by omega)
     rw [hx] at g2
     simp only [Option.some.injEq] at g2
     subst g2
     exact ⟨d',g1,g4⟩
theorem Q3D {Hd:Type}{enc:TypeId×Value→Hd}{P:Program}{w:World}{T:TypeId}{fuel:Nat}{cs:List Value}{y:DataW Hd×List MemPlace}(h:DataW.trod enc P w 0 (fun _=>true) true fuel T cs=some y)
 {i o s:Nat}{t:TypeId}(hf:fieldAt P T i=some (o,s,t)) (hfit:Fits P T y.1):cs.length=P.cellsOf T∧∃n z,DataW.trod enc P w 0 (fun _=>true) true n t ((cs.drop o).take s)=some z∧Fits P t z.1∧SizeOf.sizeOf z.1<SizeOf.sizeOf y.1:=by
 unfold fieldAt at hf
 split at hf
 · rename_i fs hu
   simp only [Option.map_eq_some_iff,Prod.mk.injEq] at hf
   obtain ⟨f,hf,rfl,rfl,rfl⟩:=hf
   obtain ⟨xs,n,_,hy,hl,hx,hall⟩:=DataW.trod_struct hu h
   have:=hall i f hf
   have hlt:=(Array.getElem?_eq_some_iff.1 hf).1
   refine ⟨hl,n,xs[i]'(by omega),?_,?_,?_⟩
   · rw [this,List.getElem?_eq_getElem (by omega)]
   · rw [hy] at hfit
     exact Q7c hu hfit hf (by rw [List.getElem?_map,List.getElem?_eq_getElem (by omega)];rfl)
   · rw [hy]
     have hmem:(xs[i]'(by omega)).1∈xs.map (·.1):=List.mem_map.2 ⟨_,List.getElem_mem _,rfl⟩
     have:=List.sizeOf_lt_of_mem hmem
     simp only [DataW.agg.sizeOf_spec]
     omega
 · cases hf
inductive Ty.InR:Ty→Prop where
 | mk {k r:Int}{l:List Ty}:(Lit.int .i64 k).wf=true→(Lit.int .i64 r).wf=true→(∀x∈l,x.InR)→Ty.InR (.mk k r l)
theorem wf_rng {n:Int}(h:(Lit.int .i64 n).wf=true): -9223372036854775808≤n∧n≤9223372036854775807:=by
 simp [Lit.wf,IntKind.min,IntKind.max,IntKind.bits,IntKind.signed] at h;omega
theorem Ty.InR.parts {k r:Int}{l:List Ty}(h:(Ty.mk k r l).InR):(-9223372036854775808≤k∧k≤9223372036854775807)∧(-9223372036854775808≤r∧r≤9223372036854775807)∧∀x∈l,x.InR:=by
 cases h with|mk h1 h2 h3=>exact ⟨wf_rng h1,wf_rng h2,h3⟩
theorem Qct {P:Program}{T TL t0 t1:TypeId}(h0:fieldAt P T 0=some (0,1,t0)) (h1:fieldAt P T 1=some (1,1,t1)) (h2:fieldAt P T 2=some (2,1,TL)) (hi0:P.underlying t0=some (.int .i64)) (hi1:P.underlying t1=some (.int .i64)) (hT:P.cellsOf T=3) (hTL:P.underlying TL=some (.slice T)) (hby:0<P.bytesOf T)
 {Hd:Type}{enc:TypeId×Value→Hd}{w:World}:∀(N fuel:Nat) (cs:List Value) (y:DataW Hd×List MemPlace),DataW.trod enc P w 0 (fun _=>true) true fuel T cs=some y→Fits P T y.1→SizeOf.sizeOf y.1<N→∃t n,tyRd w.heap (fun _=>True) n cs t∧t.InR
 | 0,_,_,_,_,_,hN=>by omega
 | N +1,fuel,cs,y,h,hfit,hN=>by
   obtain ⟨hl,n0,z0,g0,_⟩:=Q3D h h0 hfit
   obtain ⟨_,n1,z1,g1,_⟩:=Q3D h h1 hfit
   obtain ⟨_,n2,z2,g2,u2,hz⟩:=Q3D h h2 hfit
   rw [hT] at hl
   obtain ⟨a,b,v,hc⟩:∃a b v,cs=[a,b,v]:=by
    match cs,hl with
    | [a,b,v],_=>exact ⟨a,b,v,rfl⟩
   subst hc
   obtain ⟨k,hk,_,wk⟩:=DataW.trod_int hi0 g0
   obtain ⟨r,hr,_,wr⟩:=DataW.trod_int hi1 g1
   have hk2:[a]=[Value.int .i64 k]:=hk
   have hr2:[b]=[Value.int .i64 r]:=hr
   clear hk hr
   simp only [List.cons.injEq,and_true] at hk2 hr2
   have g3:DataW.trod enc P w 0 (fun _=>true) true n2 TL [v]=some z2:=g2
   clear g2
   obtain ⟨xs,v',css,hv,s1,s2,s3,s4⟩:=QbJ (rd:=fun d (x:Nat×Ty)=>tyRd w.heap (fun _=>True) x.1 d x.2∧x.2.InR) hT (by decide) (fun d x hx=>hx.1.len) hTL g3 hby u2 (fun n d z hz1 hz3 hz2=>by
    obtain ⟨t,n,ht,hr⟩:=Qct h0 h1 h2 hi0 hi1 hT hTL hby N _ d z hz1 hz3 (by omega)
    exact ⟨(n,t),ht,hr⟩)
   simp only [List.cons.injEq,and_true] at hv
   subst hv hk2 hr2
   obtain ⟨n,hn⟩:=Qap (xs:=xs) (R:=fun n x=>x.1≤n) (fun n m x h1 h2=>Nat.le_trans h2 h1) (fun x _=>⟨x.1,Nat.le_refl _⟩)
   refine ⟨.mk k r (xs.map (·.2)),n+1,⟨v,css,rfl,s1,by simp [Ty.l,s2],by simpa [Ty.l] using s3,fun m x hx=>?_⟩, .mk wk wr fun x hx=>?_⟩
   rotate_left
   · obtain ⟨p,hp,rfl⟩:=List.mem_map.1 hx
     obtain ⟨m,hm⟩:=List.mem_iff_getElem?.1 hp
     obtain ⟨d,d1,d2⟩:=s4 m p hm
     exact d2.2
   simp only [Ty.l,List.getElem?_map,Option.map_eq_some_iff] at hx
   obtain ⟨p,hp,rfl⟩:=hx
   obtain ⟨d,d1,d2⟩:=s4 m p hp
   exact ⟨d,d1,d2.1.more (hn p (List.mem_of_getElem? hp))⟩
def Cod.ty {P:Program}{T TL t0 t1:TypeId}(h0:fieldAt P T 0=some (0,1,t0)) (h1:fieldAt P T 1=some (1,1,t1)) (h2:fieldAt P T 2=some (2,1,TL)) (hi0:P.underlying t0=some (.int .i64)) (hi1:P.underlying t1=some (.int .i64)) (hT:P.cellsOf T=3) (hTL:P.underlying TL=some (.slice T)) (hby:decide (0<P.bytesOf T)=true):Cod P T Ty where
 es:=3
 rd:=fun H cs t=>∃n,tyRd H (fun b=>b<H.size) n cs t
 size:=hT
 len:=by rintro _ _ _ ⟨n,h⟩;exact h.len
 stay:=by
  rintro H H' cs t ⟨n,h⟩ hH
  exact ⟨n,h.turn fun v css hs=>SlR.mono (hs.of_same fun b hb _=>hH b hb) fun b hb _=>hb⟩
 open_:=fun enc w fuel cs y h hfit=>by
  obtain ⟨t,n,ht,_⟩:=Qct h0 h1 h2 hi0 hi1 hT hTL (of_decide_eq_true hby) (SizeOf.sizeOf y.1+1) fuel cs y h hfit (by omega)
  exact ⟨t,n,ht.turn fun v css hs=>SlR.mono hs fun b hb _=>hb⟩
theorem TyK.top {w:World}{cs:List Value}{t:Ty}(h:∃n,tyRd w.heap (fun b=>b<w.heap.size) n cs t):TyK (Cx.top w) cs t:=h
end Go.Lir
namespace Go.Lir
structure Fld (P:Program) (T:TypeId) (α:Type) where
 rd:Heap→List Value→α→Prop
 stay:∀(H H':Heap) cs x,rd H cs x→(∀b,b<H.size→H'[b]?=H[b]?)→rd H' cs x
 open_:∀{Hd:Type}(enc:TypeId×Value→Hd) (w:World) (fuel:Nat) (cs:List Value) (y:DataW Hd×List MemPlace),DataW.trod enc P w 0 (fun _=>true) true fuel T cs=some y→Fits P T y.1→∃x,rd w.heap cs x
def Fld.none {P:Program}{T:TypeId}:Fld P T Unit:=⟨fun _ _ _=>True,fun _ _ _ _ h _=>h,fun _ _ _ _ _ _ _=>⟨(),trivial⟩⟩
def Fld.more {P:Program}{T t:TypeId}{α β:Type}{i o s:Nat}(c:Cod P t α) (h:fieldAt P T i=some (o,s,t)) (f:Fld P T β):Fld P T (α×β) where
 rd:=fun H cs x=>c.rd H ((cs.drop o).take s) x.1∧f.rd H cs x.2
 stay:=fun H H' cs x h hH=>⟨c.stay _ _ _ _ h.1 hH,f.stay _ _ _ _ h.2 hH⟩
 open_:=fun enc w fuel cs y hy hfit=>by
  obtain ⟨_,n,z,g,u⟩:=Q6u hy h hfit
  obtain ⟨a,ha⟩:=c.open_ enc w _ _ _ g u
  obtain ⟨b,hb⟩:=f.open_ enc w _ _ _ hy hfit
  exact ⟨(a,b),ha,hb⟩
def Fld.cod {P:Program}{T t:TypeId}{α:Type}{o s:Nat}(f:Fld P T α) (h0:fieldAt P T 0=some (o,s,t)) (n:Nat) (hn:P.cellsOf T=n):Cod P T α where
 es:=n
 rd:=fun H cs x=>cs.length=n∧f.rd H cs x
 size:=hn
 len:=fun _ _ _ h=>h.1
 stay:=fun H H' cs x h hH=>⟨h.1,f.stay _ _ _ _ h.2 hH⟩
 open_:=fun enc w fuel cs y hy hfit=>by
  obtain ⟨hl,_⟩:=Q6u hy h0 hfit
  obtain ⟨a,ha⟩:=f.open_ enc w _ _ _ hy hfit
  exact ⟨a,by rw [hl,hn],ha⟩
end Go.Lir
