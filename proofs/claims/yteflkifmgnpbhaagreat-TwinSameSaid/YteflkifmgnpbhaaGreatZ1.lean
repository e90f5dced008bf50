
/- Lemmas of the proof, part 1: what the functions of the program do (contracts), and what follows. -/
import Derived.WalkKit
import Derived.Below
import Derived.ProofKit
import Derived.Deep.Slices
import Derived.DeepKeys
import Derived.Laws.StructEq
namespace Go.Lir
abbrev E7:=@List.getElem?_eq_getElem
abbrev E8:=@List.getElem?_eq_some_iff
abbrev E9:=@List.getD_eq_getElem?_getD
abbrev Fa:=@List.mem_of_getElem?
abbrev Fb:=@List.length_map
abbrev Fc:=@List.length_append
abbrev Fe:=@List.forall_mem_cons
abbrev Ff:=@List.getElem?_append_right
abbrev Fg:=@List.getElem?_append_left
abbrev Fh:=@List.drop_of_length_le
abbrev Fi:=@List.set_cons_zero
abbrev Fj:=@Bool.and_eq_true
abbrev Fk:=@List.length_cons
abbrev Fm:=@Option.some.inj
abbrev Fo:=@List.set_cons_succ
abbrev Fp:=@Result.andThen_ok
abbrev Fq:=@Option.some.injEq
abbrev Fs:=@Bool.false_eq_true
abbrev Fv:=@List.not_mem_nil
abbrev Fy:=@List.getElem?_map
abbrev FA:=@List.mem_cons
abbrev FC:=@List.mem_append
abbrev FE:=@Nat.le_refl
abbrev FF:=@List.length_nil
abbrev FG:=@List.map_append
abbrev FH:=@Sem.run_bind
abbrev FI:=@List.getElem?_eq_none
abbrev FJ:=@Int.toNat_natCast
abbrev FL:=@List.length_set
abbrev FM:=@List.take_of_length_le
abbrev FO:=@Int.toNat_of_nonneg
abbrev FP:=@Classical.not_not
abbrev FQ:=@List.getElem?_cons_zero
abbrev FR:=@Sem.run_pure
abbrev FU:=@List.mem_map
abbrev FW:=@Classical.byContradiction
abbrev FX:=@List.mem_range
abbrev FZ:=@Nat.zero_le
abbrev F3:=@List.mem_cons_of_mem
abbrev F4:=@Nat.le_of_ble_eq_true
abbrev F5:=@List.getElem?_take_of_lt
abbrev F6:=@List.length_replicate
abbrev F7:=@List.mem_singleton
abbrev F9:=@List.drop_zero
abbrev Ga:=@Nat.mul_le_mul_right
abbrev Gb:=@List.all_eq_true
abbrev Gd:=@Option.map_some
abbrev Ge:=@Array.getD_eq_getD_getElem?
abbrev Gf:=@List.mem_iff_getElem?
abbrev Gg:=@List.getElem?_cons_succ
abbrev Gi:=@List.mem_cons_self
abbrev Gk:=@List.append_nil
abbrev Gl:=@Array.length_toList
abbrev Gm:=@List.length_take
abbrev Gq:=@List.eq_nil_of_length_eq_zero
abbrev Gr:=@Array.getElem?_toList
abbrev Gs:=@List.eq_of_mem_replicate
abbrev Gt:=@Int.eq_ofNat_of_zero_le
abbrev Gu:=@List.cons_append
abbrev Gv:=@List.mem_of_mem_take
abbrev Gy:=@List.map_cons
abbrev Gz:=@List.getElem?_set
abbrev GA:=@List.map_set
abbrev GC:=@List.set_append_right
abbrev GD:=@Nat.lt_or_ge
abbrev GF:=@Nat.zero_add
abbrev GH:=@Bool.not_eq_true'
abbrev GI:=@List.length_eq_zero_iff
abbrev GJ:=@List.append_assoc
abbrev GK:=@List.map_congr_left
abbrev GL:=@Nat.le_trans
abbrev GM:=@Option.map_eq_some_iff
abbrev GN:=@List.getElem?_set_self
abbrev GP:=@Array.getElem?_eq_none
abbrev GR:=@Nat.add_assoc
abbrev GS:=@Option.getD_some
abbrev GU:=@List.take_append_drop
abbrev GV:=@List.set_eq_take_append_cons_drop
abbrev GW:=@Array.getElem?_eq_getElem
abbrev GX:=@List.cons.injEq
abbrev GY:=@List.ext_getElem?
abbrev G3:=@List.getElem?_set_ne
abbrev G4:=@Prod.mk.injEq
abbrev G5:=@List.flatten_append
abbrev G6:=@List.getElem?_replicate
abbrev G7:=@Nat.lt_of_lt_of_le
abbrev G8:=@List.getElem?_drop
abbrev G9:=@List.nodup_cons
abbrev Ha:=@Bool.false_or
abbrev Hb:=@List.getElem?_toArray
abbrev Hc:=@List.eq_nil_or_concat
abbrev He:=@List.nodup_append
abbrev Hf:=@List.flatten_cons
abbrev Hi:=@List.getElem_mem
abbrev Hj:=@List.perm_middle
abbrev Hk:=@Nat.sub_self
abbrev Hl:=@Iff.rfl
abbrev Hm:=@List.length_reverse
abbrev Hn:=@List.length_pos_iff
abbrev Ho:=@List.getElem?_range
abbrev Hq:=@List.sum_cons
abbrev Hr:=@List.mem_filter
abbrev Hs:=@Bool.or_eq_true
abbrev Ht:=@Nat.succ_mul
abbrev Hu:=@List.length_pos_of_mem
abbrev Hz:=@List.contains_eq_mem
abbrev HA:=@Nat.add_mul
abbrev HB:=@List.take_append_of_le_length
abbrev HC:=@List.mem_of_mem_drop
abbrev HD:=@Bool.or_eq_false_iff
abbrev HE:=@List.mem_append_left
abbrev HH:=@List.range_succ
abbrev HI:=@List.filterMap_cons
abbrev HJ:=@List.take_succ_cons
abbrev HK:=@Nat.le_of_eq
abbrev HL:=@Bool.true_or
abbrev HM:=@List.set_set
abbrev HP:=@List.countP_append
abbrev HQ:=@Array.getElem?_eq_some_iff
abbrev HS:=@List.map_replicate
abbrev HY:=@List.mem_or_eq_of_mem_set
abbrev HZ:=@List.length_range
abbrev H2:=@List.flatMap_cons
abbrev H3:=@List.take_add_one
abbrev H5:=@List.any_cons
abbrev H9:=@Nat.add_zero
abbrev Ia:=@Array.getElem!_eq_getD
abbrev Ib:=@Nat.zero_mul
abbrev Ic:=@Array.ext'
abbrev Ig:=@List.sizeOf_lt_of_mem
abbrev Ih:=@List.length_singleton
abbrev Ii:=@List.perm_append_comm
abbrev Ij:=@Nat.eq_of_beq_eq_true
abbrev Ik:=@Bool.not_false
abbrev Il:=@List.replicate_succ'
abbrev Im:=@List.range_eq_range'
abbrev Ir:=@Ne.symm
abbrev It:=@Array.toList_append
abbrev Iv:=@List.getElem_range
abbrev Iw:=@Nat.eq_zero_or_pos
abbrev Ix:=@Option.any_eq_true
abbrev Iy:=@Nat.add_left_comm
abbrev Iz:=@Array.all_eq_true_iff_forall_mem
abbrev IA:=@Nat.mul_comm
abbrev II:=@Array.getElem?_setIfInBounds_ne
abbrev IJ:=@List.drop_append
abbrev IK:=@Array.eq_empty_of_size_eq_zero
abbrev IL:=@List.exists_cons_of_length_pos
abbrev IM:=@List.mem_flatMap
abbrev IN:=@List.take_append
abbrev IP:=@List.ext_getElem
abbrev IQ:=@List.take_length
abbrev IU:=@Int.le_refl
abbrev IW:=@List.nil_append
abbrev IX:=@Nat.min_eq_left
abbrev IY:=@Option.map_none
abbrev IZ:=@List.take_zero
abbrev I0:=@List.nodup_nil
abbrev I1:=@List.mapM_cons
abbrev I2:=@Bool.false_and
abbrev I7:=@Array.mapM_eq_mapM_toList
abbrev I8:=@List.drop_eq_getElem_cons
abbrev I9:=@List.getElem_append_right
abbrev Jb:=@List.getElem?_eq_none_iff
abbrev Jc:=@Option.isSome_iff_exists
abbrev Je:=@List.length_erase_of_mem
abbrev Jf:=@Bool.not_true
abbrev Jm:=@List.filter_cons_of_neg
abbrev Jn:=@List.eraseIdx_cons_succ
abbrev Jq:=@Int.add_zero
abbrev Jt:=@Nat.add_comm
abbrev Ju:=@List.findIdx_eq_length
abbrev Jv:=@Decidable.em
abbrev Jw:=@Int.add_comm
abbrev JG:=@List.countP_eq_length
abbrev JH:=@Array.getElem?_modify
abbrev JI:=@List.concat_eq_append
abbrev JJ:=@List.drop_eq_nil_iff
abbrev JK:=@Classical.not_forall
abbrev JL:=@Nat.div_lt_of_lt_mul
abbrev JY:=@List.mem_map_of_mem
abbrev JZ:=@List.drop_succ_cons
abbrev J0:=@Nat.mod_lt
abbrev J1:=@Go.Deep.open_slice
abbrev J2:=@Option.isSome_none
abbrev J9:=@List.pairwise_map
abbrev Ka:=@Array.any_eq_true
end Go.Lir
open Go
variable {α β Hd:Type}{P:Program}{w w' w'' w0:World}{n d cap m j s b l' es id off h' Ts nb o0 n0 o1 n1 o2 n2 o3 n3:Nat}{ds:List Deferred}{f:FuncId}{args c cs cs' vs z:List Value}{fn:Func}{T T':TypeId}{xs:List Operand}{k k':IntKind}{y x0 x1 x2 x3:Operand}{lo hi mx:Option Operand}{mixed:Bool}{os:Array Oper}{R:Ending→World→Prop}{rs:List ResultVar}{ms:List Nat}{G F':Nat→Prop}{u v' v2 v0 v1 v3:Value}{ps:List (Nat×Nat×Operand)}{S:Value→World→Prop}{css:List (List Value)}
set_option linter.unusedVariables false
set_option linter.unusedSimpArgs false
set_option maxHeartbeats 1000000
namespace Go.Lir
section
variable {p:Prop}
theorem Df (h:p:=by omega):p:=h
theorem Di (h:p:=by simp;omega):p:=h
theorem Dq (h:p:=by simp):p:=h
theorem DI (h:p:=by rw [decide_eq_true hp];exact h):p:=h
theorem DK (h:p:=by rw [decide_eq_false hp];exact h):p:=h
theorem DM (h:p:=by simp [hc]):p:=h
theorem DO (h:p:=by simp [hx]):p:=h
theorem DW (h:p:=by simpa using hi):p:=h
theorem D3 (h:p:=by simpa using h1):p:=h
theorem D9 (h:p:=by apply Ic;simpa using hxs):p:=h
theorem Ep (h:p:=by rw [←Gr] at hi;exact Fa hi):p:=h
theorem Er (h:p:=by rw [hJ.hC];simp [hc]):p:=h
theorem Et (h:p:=by simp [aO,hi,hz]):p:=h
theorem Ew (h:p:=by rw [←hJ.hC];exact hok):p:=h
theorem ED (h:p:=by rw [←Gl,hzc];exact hzl):p:=h
theorem EN (h:p:=by intro c hc;rw [Gs hc];exact hzl):p:=h
theorem E1 (h:p:=by rw [Fy,E7 Jo];rfl):p:=h
theorem E5 (h:p:=by rw [List.mem_zipIdx_iff_getElem?];simpa using ho):p:=h
theorem E6 (h:p:=by rw [←G5,GU]):p:=h
end
end Go.Lir
namespace Go.Lir
section
variable {p:Prop}
theorem Bi (h:p:=by exact ⟨h0,a,cap,hv,hlc, .inl hc⟩):p:=h
theorem B9 (h:p:=by exact mB (fun ρ w hk=>ih h hk) (fun e ρ w _ hq=>h _ _ _ hq) hw):p:=h
theorem Cc (h:p:=by exact wa ht (fun s hs=>h s (by simp [GO.uses,hs])) hk hq hw):p:=h
theorem Cp (h:p:=by exact ⟨[], .slice none 0 0,[],rfl,⟨by simp,none,0,rfl,FE _, .inl rfl⟩,rfl,by simp,by simp⟩):p:=h
theorem CW (h:p:=by exact mC (fst:=#[]) (cap:=#[]) rfl h1 h2 h3 (by simpa [LO.wp] using h)):p:=h
end
end Go.Lir
namespace Go.Lir
section
variable {p:Prop}
theorem Jo (h:p:=by omega):p:=h
theorem Jd (h:p:=by decide):p:=h
theorem Js (h:p:=by simp):p:=h
theorem Jk (h:p:=by kernel_rfl):p:=h
theorem Jr (h:p:=by rfl):p:=h
theorem Ja (h:p:=by assumption):p:=h
end
end Go.Lir
namespace Go.Lir
section

abbrev KI:=Nat→Value

def upd (ρ:KI)(d:Nat)(v:Value):KI:=fun i=>bif Nat.beq i d then v else ρ i

def KI.ev (ρ:KI):Operand→Value
 | .tmp t=>ρ t
 | .const v=>v
 | .global g=> .pointer (some ⟨g,0,none⟩)
 | .func f=> .func (.func f) #[] #[]

def KS (ρ:KI)(d:Option Nat)(v:Value):KI:=match d with|some d=>upd ρ d v|none=>ρ

def Ou (n:Nat)(ρ:KI)(ds:List Deferred)(a:Act):Prop:=a.tmps.size=n∧(∀i,a.tmps.getD i undef=ρ i)∧a.defers=ds

theorem Ou.ev {n ρ ds a}(h:Ou n ρ ds a):a.eval=ρ.ev:=by
 funext x;cases x<;>simp [Act.eval,KI.ev,h.2.1]

theorem Ou.put {n ρ ds a}(h:Ou n ρ ds a)(d:Option Nat)(v:Value)(hd:∀x,d=some x→x<n):Ou n (KS ρ d v) ds (a.put d v):=by
 cases d with
 | none=>exact h
 | some d=>
   have hdn:=hd d rfl;obtain ⟨h1,h2,h3⟩:=h;refine ⟨by simp [Act.put,h1],fun i=>?_,h3⟩;have:=h2 i;simp only [Act.put,KS,upd];by_cases hi:i=d
   · subst hi;simp [Array.getD,h1,hdn]
   · have hb:Nat.beq i d=false:=by
      cases hbb:Nat.beq i d
      · rfl
      · exact absurd (Ij hbb) hi
     rw [hb];simp only [cond_false];rw [←this];simp only [Ge];rw [II Jo]

abbrev QT:=Exit→KI→World→Prop
abbrev KT:=KI→World→Prop

def ZH (n:Nat)(ds:List Deferred)(K:KT):Act→World→Prop:=fun a w=>∃ρ,Ou n ρ ds a∧K ρ w
def ZI (n:Nat)(ds:List Deferred)(Q:QT):Exit→Act→World→Prop:=fun e a w=>∃ρ,Ou n ρ ds a∧Q e ρ w

def Px (P:Program)(o:Oper)(ρ:KI)(w:World)(K:KT)(Q:QT):Prop:=
 match (execOp ρ.ev o).run P w with
 | .ok (.value v) w'=>K (KS ρ o.dst v) w'
 | .ok .skip w'=>K (KS ρ o.dst undef) w'
 | .ok (.enter f args) w'=>Calls P f args w' fun
    | .returned v,w''=>K (KS ρ o.dst v) w''
    | .panicked chain,w''=>Q (.panic chain) ρ w''
    | .outgrown,_=>Q .outgrown ρ w'
 | .ok (.row row args) w'=>Rows P row args w' fun v w''=>K (KS ρ o.dst v) w''
 | .halt (.panic v) w'=>Q (.panic [{v,recovered:=false}]) ρ w'
 | _=>False

theorem re {o:Oper}{ρ:KI}{K:KT}{Q:QT}{a:Act}
 (hr:Ou n ρ ds a)(hd:∀x,o.dst=some x→x<n)(h:Px P o ρ w K Q):o.wp P a w (ZH n ds K) (ZI n ds Q):=by
 unfold Oper.wp;rw [hr.ev];unfold Px at h;generalize (execOp ρ.ev o).run P w=r at h;unfold Oper.upon;split at h
 · exact ⟨_,hr.put _ _ hd,h⟩
 · exact ⟨_,hr.put _ _ hd,h⟩
 · refine h.mono fun e w'' h=>?_
   cases e with
   | returned v=>exact ⟨_,hr.put _ _ hd,h⟩
   | panicked ch=>exact ⟨_,hr,h⟩
   | outgrown=>exact ⟨a,_,_,hr,h⟩
 · exact h.mono fun v w' h=>⟨_,hr.put _ _ hd,h⟩
 · exact ⟨_,hr,h⟩
 · exact h.elim

def oneC:Value→Bool
 | .agg _| .tuple _=>false
 | _=>true

def NG (cells:List Value):List (Nat×Nat×Value)→Option (List Value)
 | []=>some cells
 | (off,size,v)::rest=>
   if v.cells.size=size∧off+size≤cells.length then NG (cells.take off++(v.cells.toList++cells.drop (off+size))) rest
   else none


inductive LO where
 | mov (d:Nat) (x:Operand)
 | pick (d:Nat) (c x y:Operand)
 | un (d:Nat) (op:UnOp) (x:Operand)
 | bin (d:Nat) (op:BinOp) (T:TypeId) (x y:Operand)
 | nilc (d:Nat) (x:Operand)
 | fld (d:Nat) (x:Operand) (off:Nat)
 | load1 (d:Nat) (x:Operand)
 | loadn (d:Nat) (n:Nat) (x:Operand)
 | store1 (x v:Operand)
 | storen (n:Nat) (x v:Operand)
 | idx (d:Nat) (es:Nat) (x i:Operand)
 | idxa (d:Nat) (n es:Nat) (x i:Operand)
 | len (d:Nat) (x:Operand)
 | slen (d:Nat) (x:Operand)
 | sidx (d:Nat) (x i:Operand)
 | ext (d:Nat) (x:Operand) (i:Nat)
 | fldv (d:Nat) (x:Operand) (off:Nat)
 | fldn (d:Nat) (x:Operand) (off n:Nat)
 | alloc (d:Nat) (T:TypeId) (zero:List Value)
 | box (d:Nat) (T:TypeId) (x:Operand)
 | call (d:Option Nat) (f:FuncId) (xs:List Operand)
 | callv (d:Option Nat) (x:Operand) (xs:List Operand)
 | build (d:Nat) (zero:List Value) (parts:List (Nat×Nat×Operand))
 | buildS (d:Nat) (T:TypeId) (n:Nat) (zero:List Value) (parts:List (Nat×Nat×Operand))
 | mkfn (d:Nat) (f:FuncId) (caps:List Operand)
 | sub (d:Nat) (es:Nat) (x:Operand) (lo hi mx:Option Operand)
 | ssub (d:Nat) (x:Operand) (lo hi:Option Operand)
 | mnx (d:Nat) (isMax:Bool) (x y:Operand)
 | conv (d:Nat) (k:IntKind) (x:Operand)
 | mki (d:Nat) (T:TypeId) (x:Operand)
 | raw (o:Oper)

def LO.dst:LO→Option Nat
 | .mov d _| .pick d ..| .un d ..| .bin d ..| .nilc d _| .fld d ..| .load1 d _| .loadn d ..| .idx d ..| .idxa d ..| .len d _| .slen d _| .sidx d ..| .ext d ..
 | .fldv d ..| .fldn d ..| .alloc d ..| .box d ..| .build d ..| .buildS d ..| .mkfn d ..| .sub d ..| .ssub d ..| .mnx d ..| .conv d ..| .mki d ..=>some d
 | .store1 ..| .storen ..=>none
 | .call d ..| .callv d ..=>d
 | .raw o=>o.dst

def ZJ (w:World)(a:Addr)(n:Nat)(cs:List Value):Prop:=cs.length=n∧∀j,j<n→w.cell? (a.add j)=cs[j]?

def ML (ρ:KI)(dflt:Nat):Option Operand→Nat→Prop
 | none,n=>n=dflt
 | some x,n=>∃k,ρ.ev x= .int k n

def Q7 (K:KT)(Q:QT)(d:Option Nat)(ρ:KI)(w:World):Ending→World→Prop
 | .returned v,w''=>K (KS ρ d v) w''
 | .panicked chain,w''=>Q (.panic chain) ρ w''
 | .outgrown,_=>Q .outgrown ρ w

def LO.wp (P:Program)(ρ:KI)(w:World)(K:KT)(Q:QT):LO→Prop
 | .mov d x=>K (upd ρ d (ρ.ev x)) w
 | .pick d c x y=>∃b,ρ.ev c= .bool b∧K (upd ρ d (if b then ρ.ev x else ρ.ev y)) w
 | .un d op x=>∃v,(∀w0,(Op.unary op (ρ.ev x)).run P w0= .ok v w0)∧K (upd ρ d v) w
 | .bin d op T x y=>∃v,(∀w0,(do eqGuard op T x y (ρ.ev x) (ρ.ev y);binOp op T (ρ.ev x) (ρ.ev y)).run P w0= .ok v w0)∧K (upd ρ d v) w
 | .nilc d x=>∃a,ρ.ev x= .pointer (some a)∧K (upd ρ d (.pointer (some a))) w
 | .fld d x off=>∃a,ρ.ev x= .pointer (some a)∧K (upd ρ d (.pointer (some (a.add off)))) w
 | .load1 d x=>∃a v,ρ.ev x= .pointer (some a)∧w.cell? a=some v∧K (upd ρ d v) w
 | .loadn d n x=>∃a cs,ρ.ev x= .pointer (some a)∧ZJ w a n cs∧K (upd ρ d (.agg ⟨cs⟩)) w
 | .store1 x v=>∃a c,ρ.ev x= .pointer (some a)∧w.cell? a=some c∧w.frozen? a=false∧oneC (ρ.ev v)=true∧K ρ (w.setCell a (ρ.ev v))
 | .storen n x v=>∃a cs w',ρ.ev x= .pointer (some a)∧ρ.ev v= .agg cs∧cs.size=n∧(storeCells a cs.toList).run P w= .ok () w'∧K ρ w'
 | .idx d es x i=>∃a len cap k n,ρ.ev x= .slice (some a) len cap∧ρ.ev i= .int k n∧0≤n∧n<len∧K (upd ρ d (.pointer (some (a.add (n.toNat*es))))) w
 | .idxa d m es x i=>∃a k n,ρ.ev x= .pointer (some a)∧ρ.ev i= .int k n∧0≤n∧n<(m:Int)∧K (upd ρ d (.pointer (some (a.add (n.toNat*es))))) w
 | .len d x=>∃a n c,ρ.ev x= .slice a n c∧K (upd ρ d (.int .i64 n)) w
 | .slen d x=>∃s,ρ.ev x= .string s∧K (upd ρ d (.int .i64 s.size)) w
 | .sidx d x i=>∃s k n b,ρ.ev x= .string s∧ρ.ev i= .int k n∧0≤n∧s[n.toNat]?=some b∧K (upd ρ d (.int .u8 b.toNat)) w
 | .ext d x i=>∃vs v,ρ.ev x= .tuple vs∧vs[i]?=some v∧K (upd ρ d v) w
 | .fldv d x off=>∃cs v,ρ.ev x= .agg cs∧cs[off]?=some v∧K (upd ρ d v) w
 | .fldn d x off n=>∃cs,ρ.ev x= .agg cs∧K (upd ρ d (.agg (cs.extract off (off+n)))) w
 | .alloc d T z=>K (upd ρ d (.pointer (some ⟨w.heap.size,0,none⟩))) (w.alloc (.cells ⟨z⟩ T))
 | .box d T x=>K (upd ρ d (.pointer (some ⟨w.heap.size,0,none⟩))) (w.alloc (.cells (ρ.ev x).cells T))
 | .call d f xs=>Calls P f ⟨xs.map ρ.ev⟩ w (Q7 K Q d ρ w)
 | .callv d x xs => ∃ f fst cap fn, ρ.ev x = .func (.func f) fst cap ∧ P.funcs[f]? = some fn ∧ fn.body.isSome = true ∧ (fn.name == "runtime.NumGoroutine") = false ∧ Calls P f (fst ++ ⟨xs.map ρ.ev⟩ ++ cap) w (Q7 K Q d ρ w)
 | .build d z ps=>∃cs,NG z (ps.map fun p=>(p.1,p.2.1,ρ.ev p.2.2))=some cs∧K (upd ρ d (.agg ⟨cs⟩)) w
 | .buildS d T n z ps=>∃cs,NG z (ps.map fun p=>(p.1,p.2.1,ρ.ev p.2.2))=some cs∧K (upd ρ d (.slice (some ⟨w.heap.size,0,none⟩) n n)) (w.alloc (.cells ⟨cs⟩ T))
 | .mkfn d f caps=>K (upd ρ d (.func (.func f) #[] ⟨caps.map ρ.ev⟩)) w
 | .sub d es x lo hi mx=>∃a len cap l h m,ρ.ev x= .slice a len cap∧ML ρ cap mx m∧ML ρ len hi h∧ML ρ 0 lo l∧m≤cap∧h≤m∧l≤h∧
    K (upd ρ d (.slice (if m=l then a else a.map (·.add (l*es))) (h - l) (m - l))) w
 | .ssub d x lo hi=>∃s l h,ρ.ev x= .string s∧ML ρ s.size hi h∧ML ρ 0 lo l∧h≤s.size∧l≤h∧K (upd ρ d (.string (s.extract l h))) w
 | .mnx d isMax x y=>∃k k' a b,ρ.ev x= .int k a∧ρ.ev y= .int k' b∧K (upd ρ d (.int k (if isMax then (if a<b then b else a) else (if b<a then b else a)))) w
 | .conv d k x=>∃k' n,ρ.ev x= .int k' n∧K (upd ρ d (.int k (k.wrap n))) w
 | .mki d T x=>K (upd ρ d (.iface T (ρ.ev x))) w
 | .raw o=>Px P o ρ w K Q


def Xa (P:Program)(T:TypeId):Bool:=match P.underlying T with
 | some (.struct _)|some (.array _ _)=>false
 | some _=>true
 | none=>false
def Ov (P:Program)(T:TypeId):Bool:=match P.underlying T with
 | some (.struct _)|some (.array _ _)=>true
 | _=>false
def NV (P:Program)(T:TypeId):Option Nat:=(P.info? T).map (·.size)
def aO (P:Program)(T:TypeId):Option Value:=(P.info? T).bind (·.zero)

def kM (P:Program)(S:TypeId)(f:Nat):Option (Nat×TypeId):=match P.underlying S with
 | some (.struct fs)=>(fs[f]?).map fun x=>(x.offset,x.type)
 | _=>none

def fg (P:Program)(T:TypeId):Option TypeId:=match P.underlying T with
 | some (.slice e)=>some e
 | _=>none
def aP (P:Program)(T:TypeId):Option (Nat×TypeId):=match P.underlying T with
 | some (.array n e)=>some (n,e)
 | _=>none
def gB (P:Program)(T:TypeId):Bool:=match P.underlying T with
 | some .string=>true
 | _=>false

def rf (P:Program)(T:TypeId):Option (Nat→Option (Nat×Nat)):=match P.underlying T with
 | some (.struct fs)=>if fs.toList.all (fun f=>(NV P f.type).isSome) then some (fun i=>(fs[i]?).bind fun f=>(NV P f.type).map fun s=>(f.offset,s)) else none
 | some (.array _ e)=>(NV P e).map fun s=>fun i=>some (i*s,s)
 | _=>none

def Xb (pl:Nat→Option (Nat×Nat)):List (Nat×Operand)→Option (List (Nat×Nat×Operand))
 | []=>some []
 | (i,x)::rest=>match pl i,Xb pl rest with
   | some (o,s),some r=>some ((o,s,x)::r)
   | _,_=>none

def Xc (P:Program)(T:TypeId):Option IntKind:=match P.underlying T with
 | some (.int k)=>some k
 | _=>none
def mD (P:Program)(T:TypeId):Bool:=match P.underlying T with
 | some (.interface _)=>true
 | some _=>false
 | none=>true

def Sa (P : Program)(f : FuncId): Bool := (P.funcs[f]?).any fun fn => fn.body.isSome && !(fn.name == "runtime.NumGoroutine")

def KC (P:Program)(o:Oper):LO:=
 match o.dst with
 | none=>match o.op with
   | .store T x v=>match Xa P T,NV P T with
     | true,some 1=> .store1 x v
     | false,some n=>if Ov P T then .storen n x v else .raw o
     | _,_=> .raw o
   | .call ⟨.value (.func f),xs,_⟩=>if Sa P f then .call none f xs.toList else .raw o
   | .call ⟨.value (.tmp f),xs,_⟩=> .callv none (.tmp f) xs.toList
   | _=> .raw o
 | some d=>match o.op with
   | .move x| .assign x=> .mov d x
   | .pick c x y=> .pick d c x y
   | .unOp op _ x=> .un d op x
   | .binOp op T x y _=> .bin d op T x y
   | .nilCheck x=> .nilc d x
   | .fieldAddr S x f=>match kM P S f with
     | some (off,t)=>match NV P t with
       | some (_+1)=> .fld d x off
       | _=> .raw o
     | none=> .raw o
   | .load T x=>match Xa P T with
     | true=> .load1 d x
     | false=>match NV P T with
       | some n=>if Ov P T then .loadn d n x else .raw o
       | none=> .raw o
   | .indexAddr T x i=>match fg P T with
     | some e=>match NV P e with
       | some s=> .idx d s x i
       | none=> .raw o
     | none=>match aP P T with
       | some (n,e)=>match NV P e with
         | some s=> .idxa d n s x i
         | none=> .raw o
       | none=> .raw o
   | .index T x i=>if gB P T then .sidx d x i else .raw o
   | .extract x i=> .ext d x i
   | .field S x f=>match kM P S f with
     | some (off,t)=>match Xa P t with
       | true=> .fldv d x off
       | false=>match NV P t with
         | some n=>if Ov P t then .fldn d x off n else .raw o
         | none=> .raw o
     | none=> .raw o
   | .alloc T=>match aO P T with
     | some z=> .alloc d T z.cells.toList
     | none=> .raw o
   | .box T x=> .box d T x
   | .build T ps=>match aO P T,rf P T with
     | some z,some pl=>match Xb pl ps.toList with
       | some l=> .build d z.cells.toList l
       | none=> .raw o
     | _,_=> .raw o
   | .buildSlice T n ps=>match fg P T with
     | some e=>match aO P e,NV P e with
       | some z,some s=>match Xb (fun i=>some (i*s,s)) ps.toList with
         | some l=>if 0<s∧0<n∧n*s≤1000∧z.cells.size=s then .buildS d e n ((List.range (n*s)).map fun i=>z.cells.toList.getD (i % s) default) l else .raw o
         | none=> .raw o
       | _,_=> .raw o
     | none=> .raw o
   | .makeFunc (.func f) fst caps=>if fst.size=0 then .mkfn d f caps.toList else .raw o
   | .call ⟨.value (.func f),xs,_⟩=>if Sa P f then .call (some d) f xs.toList else .raw o
   | .call ⟨.value (.tmp f),xs,_⟩=> .callv (some d) (.tmp f) xs.toList
   | .slice T x lo hi mx=>match fg P T with
     | some e=>match NV P e with
       | some s=>if mx.isSome && hi.isNone then .raw o else .sub d s x lo hi mx
       | none=> .raw o
     | none=>if gB P T && mx.isNone then .ssub d x lo hi else .raw o
   | .convert S T x=>match Xc P S,Xc P T with
     | some _,some k=> .conv d k x
     | _,_=> .raw o
   | .makeInterface T x=>if mD P T then .raw o else .mki d T x
   | .call ⟨.builtin .min,xs,_⟩=>match xs.toList with
     | [x,y]=> .mnx d false x y
     | _=> .raw o
   | .call ⟨.builtin .max,xs,_⟩=>match xs.toList with
     | [x,y]=> .mnx d true x y
     | _=> .raw o
   | .call ⟨.builtin .len,xs,ts⟩=>match xs.toList,ts.toList with
     | [x],[T]=>if gB P T then .slen d x else if (fg P T).isSome then .len d x else .raw o
     | _,_=> .raw o
   | _=> .raw o

def ZK (o : Oper): Oper := ⟨o.dst, o.op, o.type, "", #[], none⟩
def fh (P:Program)(o:Oper):LO:=match KC P o with
 | .raw o=> .raw (ZK o)
 | x=>x

end
section

section
variable {P:Program}{o:Oper}{ρ:KI}{w w':World}{K:KT}{Q:QT}{v:Value}

theorem MM (h:(execOp ρ.ev o).run P w= .ok (.value v) w')(hk:K (KS ρ o.dst v) w'):Px P o ρ w K Q:=by
 unfold Px;rw [h];exact hk
theorem rh (h:(execOp ρ.ev o).run P w= .ok .skip w')(hk:K (KS ρ o.dst undef) w'):Px P o ρ w K Q:=by
 unfold Px;rw [h];exact hk
end

theorem gC (P:Program)(T:TypeId)(i:TypeInfo)(w:World)(h:P.info? T=some i):(typeInfo T).run P w= .ok i w:=by
 simp [typeInfo,h]
theorem Re (P:Program)(T:TypeId)(n:Nat)(w:World)(h:NV P T=some n):(sizeOf T).run P w= .ok n w:=by
 unfold NV at h
 cases hi:P.info? T with
 | none=>simp [hi] at h
 | some i=>simp [hi] at h;simp [sizeOf,gC P T i w hi,h]
theorem ZL (P:Program)(T:TypeId)(z:Value)(w:World)(h:aO P T=some z):(zeroValue T).run P w= .ok z w:=by
 unfold aO at h
 cases hi:P.info? T with
 | none=>simp [hi] at h
 | some i=>simp [hi] at h;simp [zeroValue,gC P T i w hi,h]
theorem Qb (P:Program)(T:TypeId)(d:TypeDesc)(w:World)(h:P.underlying T=some d):(underlying T).run P w= .ok d w:=by
 simp [underlying,h]
theorem mE (P:Program)(T:TypeId)(w:World)(h:Xa P T=true):(isAgg T).run P w= .ok false w:=by
 unfold Xa at h
 cases hu:P.underlying T with
 | none=>simp [hu] at h
 | some d=>simp [isAgg,Qb P T d w hu];cases d<;>simp [hu] at h ⊢
theorem mF (P:Program)(T:TypeId)(w:World)(h:Ov P T=true):(isAgg T).run P w= .ok true w:=by
 unfold Ov at h
 cases hu:P.underlying T with
 | none=>simp [hu] at h
 | some d=>simp [isAgg,Qb P T d w hu];cases d<;>simp [hu] at h ⊢

theorem wb (a:Addr):a.add 0=a:=rfl

theorem ri (P:Program)(T:TypeId)(cs:Array Value)(off:Nat)(v:Value)(w:World)(h:Xa P T=true)(hv:cs[off]?=some v):
 (part T cs off).run P w= .ok v w:=by
 simp [part,mE P T w h,hv]
theorem wc (P:Program)(T:TypeId)(cs:Array Value)(off n:Nat)(w:World)(h:Ov P T=true)(hn:NV P T=some n):
 (part T cs off).run P w= .ok (.agg (cs.extract off (off+n))) w:=by
 simp [part,mF P T w h,Re P T n w hn]

theorem we (v:List Value):∀(k off:Nat) (cs:Array Value),off+k+v.length≤cs.size→
 ((v.zipIdx k).foldl (fun cs (c,j)=>cs.setIfInBounds (off+j) c) cs).toList=cs.toList.take (off+k)++(v++cs.toList.drop (off+k+v.length)):=by
 induction v with
 | nil=>intro k off cs h;simp
 | cons c v ih=>
   intro k off cs h;simp only [List.zipIdx_cons,List.foldl_cons];simp only [Fk] at h;rw [show off+k+(c::v).length=off+(k+1)+v.length by simp;omega,ih (k+1) off _ Di];have hsz:cs.toList.length=cs.size:=Gl;have hl:off+k<cs.toList.length:=Df;simp only [Array.toList_setIfInBounds];generalize cs.toList=l at hsz hl ⊢;rw [←GR,GV,if_pos hl];have hm:(l.take (off+k)).length=off+k:=by simp;omega
   have e1:List.take (off+k+1) (l.take (off+k)++c::l.drop (off+k+1))=l.take (off+k)++[c]:=by
    rw [IN,hm,FM Jo,show off+k+1 - (off+k)=1 by omega];rfl
   have e2:List.drop (off+k+1+v.length) (l.take (off+k)++c::l.drop (off+k+1))=l.drop (off+k+1+v.length):=by
    rw [IJ,hm,Fh Jo,show off+k+1+v.length - (off+k)=v.length+1 by omega];simp [Jt,Iy,GR]
   rw [e1,e2];simp

theorem mG (place:Nat→Option (Nat×Nat))(ρ:KI):∀(ps:List (Nat×Operand)) (l:List (Nat×Nat×Operand)) (cells:Array Value) (cs:List Value),
 Xb place ps=some l→NG cells.toList (l.map fun p=>(p.1,p.2.1,ρ.ev p.2.2))=some cs→
 Instr.fill place cells (ps.map fun p=>(p.1,ρ.ev p.2))=some ⟨cs⟩:=by
 intro ps
 induction ps with
 | nil=>intro l cells cs h1 h2;simp [Xb] at h1;subst h1;simp [NG] at h2;subst h2;simp [Instr.fill]
 | cons p ps ih=>
   obtain ⟨i,x⟩:=p;intro l cells cs h1 h2;simp only [Xb] at h1;split at h1
   · rename_i off s r hpl hr
     simp only [Fq] at h1;subst h1;simp only [Gy,NG] at h2;split at h2
     · rename_i hc;have hlen:(ρ.ev x).cells.toList.length=s:=(by simpa using hc.1);have hsz:cells.toList.length=cells.size:=Gl;simp only [Gy,Instr.fill,hpl];rw [if_neg (by have h4:=hc.2;have h3:(ρ.ev x).cells.size=s:=hc.1;simp only [Hs,decide_eq_true_eq];rintro (h|h);exact h h3;omega)];refine ih r _ cs hr ?_;have:=we (ρ.ev x).cells.toList 0 off cells (by have:=hc.2;omega);rw [←Array.foldl_toList,Array.toList_zipIdx,this,H9,hlen];exact h2
     · cases h2
   · cases h1

section
variable {P:Program}{ρ:KI}{w:World}{K:KT}{Q:QT}

theorem gD (a:Addr)(n:Nat)(cs:List Value)(h:ZJ w a n cs):(loadCells a n).run P w= .ok ⟨cs⟩ w:=by
 obtain ⟨hl,hc⟩:=h;subst hl
 exact run_loadCells_list (P:=P) (w:=w) a cs (fun j v hj=>by
  have:j<cs.length:=by
   rcases GD j cs.length with h|h
   · exact h
   · simp [FI h] at hj
  rw [hc j this,hj])

theorem wg {args:Array Value}{d:Option Nat}(h:Calls P f args w (Q7 K Q d ρ w)):
 Calls P f args w fun
  | .returned v,w''=>K (KS ρ d v) w''
  | .panicked chain,w''=>Q (.panic chain) ρ w''
  | .outgrown,_=>Q .outgrown ρ w:=
 h.mono fun e w' h=>by cases e<;>exact h

theorem rj (args : Array Value)(hf : P.funcs[f]? = some fn)(hb : fn.body.isSome = true)(hn : (fn.name == "runtime.NumGoroutine") = false):
 (callFunc f args).run P w= .ok (.enter f args) w:=by
 have hb':fn.body.isNone=false:=(by cases h:fn.body<;>simp_all);simp only [callFunc,FH,run_program,Fp,hf,hn,hb'];rfl

theorem mC {d:Option Nat}{pos:String}{af:Array Edge}{g:Option (Nat×Bool)}{x:Operand}{xs:Array Operand}{ts:Array TypeId}{fst cap:Array Value}
 (hx : ρ.ev x = .func (.func f) fst cap)(hf : P.funcs[f]? = some fn)(hb : fn.body.isSome = true)(hn : (fn.name == "runtime.NumGoroutine") = false)
 (h:Calls P f (fst++⟨xs.toList.map ρ.ev⟩++cap) w (Q7 K Q d ρ w)):
 Px P ⟨d, .call ⟨.value x,xs,ts⟩,T,pos,af,g⟩ ρ w K Q:=by
 have e:(execOp ρ.ev ⟨d, .call ⟨.value x,xs,ts⟩,T,pos,af,g⟩).run P w= .ok (.enter f (fst++xs.map ρ.ev++cap)) w:=by
  simp only [execOp,resolve,hx,Deferred.ofValue,FH,FR,Fp,invoke];rw [rj _ hf hb hn]
 unfold Px;rw [e]
 have he:(⟨xs.toList.map ρ.ev⟩:Array Value)=xs.map ρ.ev:=by
  apply Ic;simp
 rw [he] at h;exact wg h

theorem rk (h : Sa P f = true): ∃ fn, P.funcs[f]? = some fn ∧ fn.body.isSome = true ∧ (fn.name == "runtime.NumGoroutine") = false := by
 unfold Sa at h
 cases hf:P.funcs[f]? with
 | none=>simp [hf] at h
 | some fn=>exact ⟨fn,rfl,by simpa [hf] using h⟩

theorem rl {S f off t}(h:kM P S f=some (off,t)):∃fs fl,P.underlying S=some (.struct fs)∧fs[f]?=some fl∧fl.offset=off∧fl.type=t:=by
 unfold kM at h;split at h
 · rename_i fs hu
   cases hf:fs[f]? with
   | none=>simp [hf] at h
   | some fl=>simp [hf] at h;exact ⟨fs,fl,hu,hf,h.1,h.2⟩
 · cases h
theorem kN {T e}(h:fg P T=some e):P.underlying T=some (.slice e):=by
 unfold fg at h;split at h<;>simp_all
theorem wh {T n e}(h:aP P T=some (n,e)):P.underlying T=some (.array n e):=by
 unfold aP at h;split at h<;>simp_all
theorem mH {T}(h:gB P T=true):P.underlying T=some .string:=by
 unfold gB at h;split at h<;>simp_all

theorem wi (fs:List Field)(w:World)(h:∀f∈fs,(NV P f.type).isSome=true):
 (fs.mapM (fun f=>do pure (f.offset,←sizeOf f.type):Field→Sem (Nat×Nat))).run P w= .ok (fs.map fun f=>(f.offset,(NV P f.type).getD 0)) w:=by
 induction fs with
 | nil=>simp
 | cons f fs ih=>
   have hf:=h f Js;obtain ⟨n,hn⟩:=Jc.1 hf;simp only [I1,FH,Re P f.type n w hn,Fp,FR,ih (fun x hx=>h x DO),Gy,hn,GS]
end

theorem wj {pl pl':Nat→Option (Nat×Nat)}(hp:∀i x,pl i=some x→pl' i=some x):∀(ps:List (Nat×Operand)) l,Xb pl ps=some l→Xb pl' ps=some l:=by
 intro ps
 induction ps with
 | nil=>intro l h;exact h
 | cons p ps ih=>
   obtain ⟨i,x⟩:=p;intro l h;simp only [Xb] at h ⊢;split at h
   · rename_i o s r h1 h2;rw [hp _ _ h1,ih _ h2];exact h
   · cases h

theorem rm {T k}(h:Xc P T=some k):P.underlying T=some (.int k):=by
 unfold Xc at h;split at h<;>simp_all
theorem wm {T}(h:¬mD P T=true):∃d,P.underlying T=some d∧∀ms,d≠ .interface ms:=by
 unfold mD at h;split at h
 · simp at h
 · rename_i d hd hu;exact ⟨d,hu,fun ms hm=>hd ms (by rw [←hm])⟩
 · simp at h

theorem Xd {y:Nat}{c:BoundsCode}(h:n≤y):(Instr.sliceBound (.int k n) y c).run P w= .ok n w:=by
 have:(n:Int)≤y:=Df;simp [Instr.sliceBound,asIntOf,this]

theorem rp {ρ:KI}{isS:Bool}{len:Nat}{l h:Nat}(hm:ML ρ cap mx m)(hh:ML ρ len hi h)(hl:ML ρ 0 lo l)
 (h1:m≤cap)(h2:h≤m)(h3:l≤h)(hmx:mx.isSome=true→hi.isSome=true):
 (Instr.sliceBounds isS len cap (lo.map ρ.ev) (hi.map ρ.ev) (mx.map ρ.ev)).run P w= .ok (l,h,m) w:=by
 cases mx with
 | none=>
   simp only [ML] at hm;subst hm
   cases hi with
   | none=>
     simp only [ML] at hh;subst hh
     cases lo with
     | none=>simp only [ML] at hl;subst hl;simp [Instr.sliceBounds]
     | some x=>obtain ⟨k,hx⟩:=hl;simp [Instr.sliceBounds,hx,Xd h3]
   | some y=>
     obtain ⟨k,hy⟩:=hh
     cases lo with
     | none=>simp only [ML] at hl;subst hl;simp [Instr.sliceBounds,hy,Xd h2]
     | some x=>obtain ⟨k,hx⟩:=hl;simp [Instr.sliceBounds,hy,hx,Xd h2,Xd h3]
 | some z=>
   obtain ⟨k,hz⟩:=hm
   cases hi with
   | none=>simp at hmx
   | some y=>
     obtain ⟨k,hy⟩:=hh
     cases lo with
     | none=>simp only [ML] at hl;subst hl;simp [Instr.sliceBounds,hz,hy,Xd h1,Xd h2]
     | some x=>obtain ⟨k,hx⟩:=hl;simp [Instr.sliceBounds,hz,hy,hx,Xd h1,Xd h2,Xd h3]

theorem wq {o:Oper}{ρ:KI}{K:KT}{Q:QT}{h:(KC P o).wp P ρ w K Q}:Px P o ρ w K Q:=by
 obtain ⟨dst,op,T,pos,af,g⟩:=o
 cases dst with
 | none =>
   cases op;all_goals try exact h
   case store T x v=>
    simp only [KC] at h;split at h
    · rename_i hs hz;obtain ⟨a,c,hx,hc,hf,ho,hk⟩:=h;refine rh (w':=w.setCell a (ρ.ev v)) ?_ hk;have hcs:(ρ.ev v).cells=#[ρ.ev v]:=(by cases hv:ρ.ev v<;>simp_all [Value.cells,oneC]);have ho':(ρ.ev v).oneCell'=true:=(by cases hv:ρ.ev v<;>simp_all [Value.oneCell',oneC]);simp [execOp,Instr.storeAt,Instr.sureAddr,hx,storeVar,Re P T 1 w hz,hcs,storeCells,wb,run_store P w a _ .plain ho',hc,hf]
    · rename_i n hs hz
      split at h
      · rename_i ha;obtain ⟨a,cs,w',hx,hv,hn,hst,hk⟩:=h;refine rh (w':=w') ?_ hk;simp [execOp,Instr.storeAt,Instr.sureAddr,hx,hv,storeVar,Re P T n w hz,Value.cells,hn,hst]
      · exact h
    · exact h
   case call c=>
    obtain ⟨callee,xs,ts⟩:=c
    cases callee with
    | invoke=>exact h
    | builtin=>exact h
    | value f=>
      cases f with
      | const=>exact h
      | global=>exact h
      | func f=>
        simp only [KC] at h;split at h
        · rename_i hg;obtain ⟨fn,h1,h2,h3⟩:=rk hg;exact CW
        · exact h
      | tmp f=>
        obtain ⟨f,fst,cap,fn,hx,h1,h2,h3,h4⟩:=h;exact mC hx h1 h2 h3 h4
 | some d =>
   cases op;all_goals try exact h
   case pick c x y=>
    obtain ⟨b,hb,hk⟩:=h;refine MM (w':=w) ?_ hk;simp [execOp,hb,asBool]
   case unOp op T x=>
    obtain ⟨v,hb,hk⟩:=h;have hb:=hb w;exact MM (w':=w) (by simp [execOp,hb]) hk
   case binOp op T x y T'=>
    obtain ⟨v,hb,hk⟩:=h;have hb:=hb w;refine MM (w':=w) ?_ hk;simp only [execOp,FH] at hb ⊢;rw [hb];rfl
   case nilCheck x=>
    obtain ⟨a,hx,hk⟩:=h;refine MM (w':=w) ?_ hk;simp [execOp,hx]
   case extract x i=>
    obtain ⟨vs,v,hx,hv,hk⟩:=h;refine MM (w':=w) ?_ hk;simp [execOp,Instr.extract,hx,hv]
   case load T x=>
    simp only [KC] at h;split at h
    · rename_i hs;obtain ⟨a,v,hx,hv,hk⟩:=h;refine MM (w':=w) (v:=v) ?_ hk;simp [execOp,Instr.loadAt,Instr.sureAddr,hx,loadVar,mE P T w hs,hv]
    · split at h
      · rename_i hs n hn
        split at h
        · rename_i ha;obtain ⟨a,cs,hx,hv,hk⟩:=h;refine MM (w':=w) ?_ hk;simp [execOp,Instr.loadAt,Instr.sureAddr,hx,loadVar,mF P T w ha,Re P T n w hn,gD (P:=P) a n cs hv]
        · exact h
      · exact h
   case fieldAddr S x f=>
    simp only [KC] at h;split at h
    · rename_i off t hf
      split at h
      · rename_i n hn;obtain ⟨a,hx,hk⟩:=h;obtain ⟨fs,fl,hu,hfl,rfl,rfl⟩:=rl hf;refine MM (w':=w) ?_ hk;simp [execOp,Instr.fieldAt,Qb P S _ w hu,hfl,Instr.sureAddr,hx,fieldPlace,Re P fl.type _ w hn]
      · exact h
    · exact h
   case field S x f=>
    simp only [KC] at h;split at h
    · rename_i off t hf
      obtain ⟨fs,fl,hu,hfl,rfl,rfl⟩:=rl hf;split at h
      · rename_i hs;obtain ⟨cs,v,hx,hv,hk⟩:=h;refine MM (w':=w) (v:=v) ?_ hk;simp [execOp,Instr.field,Qb P S _ w hu,hfl,asAgg,hx,ri P fl.type cs fl.offset v w hs hv]
      · split at h
        · rename_i n hn
          split at h
          · rename_i ha;obtain ⟨cs,hx,hk⟩:=h;refine MM (w':=w) ?_ hk;simp [execOp,Instr.field,Qb P S _ w hu,hfl,asAgg,hx,wc P fl.type cs fl.offset n w ha hn]
          · exact h
        · exact h
    · exact h
   case indexAddr T x i=>
    simp only [KC] at h;split at h
    · rename_i e he
      have hu:=kN he;split at h
      · rename_i s hs;obtain ⟨a,len,cap,k,n,hx,hi,h0,hl,hk⟩:=h;refine MM (w':=w) ?_ hk;simp [execOp,Instr.indexAt,asIntOf,hi,hx,Qb P T _ w hu,h0,hl,Re P e s w hs]
      · exact h
    · split at h
      · rename_i hn m e he
        have hu:=wh he;split at h
        · rename_i s hs;obtain ⟨a,k,n,hx,hi,h0,hl,hk⟩:=h;refine MM (w':=w) ?_ hk;simp [execOp,Instr.indexAt,asIntOf,hi,hx,Qb P T _ w hu,h0,hl,Re P e s w hs,Instr.sureAddr]
        · exact h
      · exact h
   case index T x i=>
    simp only [KC] at h;split at h
    · rename_i hs;have hu:=mH hs;obtain ⟨s,k,n,b,hx,hi,h0,hl,hk⟩:=h;refine MM (w':=w) ?_ hk;simp [execOp,Instr.index,asIntOf,hi,hx,Qb P T _ w hu,h0,hl]
    · exact h
   case alloc T=>
    simp only [KC] at h;split at h
    · rename_i z hz;refine MM (v:= .pointer (some ⟨w.heap.size,0,none⟩)) (w':=w.alloc (.cells z.cells T)) ?_ h;simp [execOp,Instr.alloc,ZL P T z w hz,newVar,newRow]
    · exact h
   case makeFunc fn fst caps=>
    cases fn with
    | func f=>
      simp only [KC] at h;split at h
      · rename_i hz;have:fst=#[]:=Array.size_eq_zero_iff.1 hz;subst this;refine MM (v:= .func (.func f) #[] ⟨caps.toList.map ρ.ev⟩) (w':=w) ?_ h;have he:(⟨caps.toList.map ρ.ev⟩:Array Value)=caps.map ρ.ev:=(by apply Ic;simp);simp [execOp,Instr.makeFunc,he]
      · exact h
    | _=>exact h
   case slice T x lo hi mx=>
    simp only [KC] at h;split at h
    · rename_i e he
      have hu:=kN he;split at h
      · rename_i s hs
        split at h
        · exact h
        · rename_i hmx;obtain ⟨a,len,cap,l,hh,m,hx,hm,hhi,hlo,h1,h2,h3,hk⟩:=h;refine MM (w':=w) ?_ hk;simp only [execOp,Instr.sliceAt,FH,Qb P T _ w hu,Fp,Instr.slice,hx,rp (P:=P) (w:=w) (isS:=true) hm hhi hlo h1 h2 h3 (by cases mx<;>cases hi<;>simp_all),Re P e s w hs,FR]
      · exact h
    · split at h
      · rename_i hc;simp only [Fj] at hc;have hu:=mH hc.1;have hmx:mx=none:=(by simpa using hc.2);subst hmx;obtain ⟨s,l,hh,hx,hhi,hlo,h2,h3,hk⟩:=h;refine MM (w':=w) ?_ hk;have hb:=rp (P:=P) (w:=w) (isS:=false) (mx:=none) (m:=s.size) (cap:=s.size) rfl hhi hlo (FE _) h2 h3 Js;simp only [IY] at hb;simp only [execOp,Instr.sliceAt,FH,Qb P T _ w hu,Fp,Instr.slice,hx,IY,J2,Fs,if_false,hb,FR]
      · exact h
   case convert S T x=>
    simp only [KC] at h;split at h
    · rename_i k k' hs ht;obtain ⟨k2,n,hx,hk⟩:=h;refine MM (w':=w) ?_ hk;simp [execOp,convert,Qb P S _ w (rm hs),Qb P T _ w (rm ht),hx,Conv.intToInt]
    · exact h
   case makeInterface T x=>
    simp only [KC] at h;split at h
    · exact h
    · rename_i hi;refine MM (w':=w) (v:= .iface T (ρ.ev x)) ?_ h;obtain ⟨d',hd,hd'⟩:=wm hi;simp only [execOp,Instr.makeInterface,FH,Qb P T _ w hd,Fp];cases d' <;>first|rfl|exact (hd' _ rfl).elim
   case build T ps=>
    simp only [KC] at h;split at h
    · rename_i z pl hz hpl
      split at h
      · rename_i l hl
        obtain ⟨cs,hf,hk⟩:=h;have hfill:=mG pl ρ ps.toList l z.cells cs hl hf;refine MM (w':=w) ?_ hk;have hm:(ps.map fun p=>(p.1,ρ.ev p.2)).toList=ps.toList.map fun p=>(p.1,ρ.ev p.2):=Dq;unfold rf at hpl;split at hpl
        · rename_i fs hu
          split at hpl
          · rename_i hall
            simp only [Fq] at hpl;have hall':∀f∈fs.toList,(NV P f.type).isSome=true:=Gb.1 hall
            have hpl2:∀i x,pl i=some x→((fs.toList.map fun f=>(f.offset,(NV P f.type).getD 0)).toArray)[i]?=some x:=by
             intro i x hx;subst hpl;simp only [Option.bind_eq_some_iff,GM] at hx;obtain ⟨f,hf,s,hs,rfl⟩:=hx;simp [hf,hs]
            have hfill:=mG _ ρ ps.toList l z.cells cs (wj hpl2 _ _ hl) hf;simp only [execOp,Instr.build,FH,ZL P T z w hz,Qb P T _ w hu,Fp,I7,Sem.run_map,wi fs.toList w hall',hm,hfill,FR]
          · cases hpl
        · rename_i n e hu;simp only [GM] at hpl;obtain ⟨s,hs,rfl⟩:=hpl;simp only [execOp,Instr.build,FH,ZL P T z w hz,Qb P T _ w hu,Fp,Re P e s w hs,hm,hfill,FR]
        · cases hpl
      · exact h
    · exact h
   case buildSlice T n ps=>
    simp only [KC] at h;split at h
    · rename_i e he
      have hu:=kN he;split at h
      · rename_i z s hz hs
        split at h
        · rename_i l hl
          split at h
          · rename_i hc
            obtain ⟨hs0,hn0,hns,hzs⟩:=hc;obtain ⟨cs,hf,hk⟩:=h;have hm:(ps.map fun p=>(p.1,ρ.ev p.2)).toList=ps.toList.map fun p=>(p.1,ρ.ev p.2):=by simp
            have hz0:(((Array.range (n*s)).map (z.cells[· % z.cells.size]!)):Array Value).toList=(List.range (n*s)).map fun i=>z.cells.toList.getD (i % s) default:=by
             simp [hzs];intro a _;rw [Ia,Ge]
            have hfill:=mG _ ρ ps.toList l ((Array.range (n*s)).map (z.cells[· % z.cells.size]!)) cs hl (by rw [hz0];exact hf);refine MM (w':=w.alloc (.cells ⟨cs⟩ e)) (v:= .slice (some ⟨w.heap.size,0,none⟩) n n) ?_ hk;have hne:¬(n*s=0):=(by have:=Nat.mul_pos hn0 hs0;omega);have hle:¬(n*s>2 ^ 24):=Df;simp only [execOp,Instr.buildSlice,FH,Qb P T _ w hu,Fp,Re P e s w hs,if_neg hle,if_neg hne,ZL P e z w hz,hm,hfill,FR,newRow,run_newObj];rfl
          · exact h
        · exact h
      · exact h
    · exact h
   case call c=>
    obtain ⟨callee,xs,ts⟩:=c
    cases callee with
    | invoke=>exact h
    | builtin b=> 
      cases b;all_goals try exact h
      case min=>
       simp only [KC] at h;split at h
       · rename_i x y hxs;have hxs':xs=#[x,y]:=D9;subst hxs';obtain ⟨k,k',a,b,hx,hy,hk⟩:=h;refine MM (w':=w) ?_ hk;simp [execOp,resolve,invoke,builtin,Builtin.min_,Builtin.min2,hx,hy]
       · exact h
      case max=>
       simp only [KC] at h;split at h
       · rename_i x y hxs;have hxs':xs=#[x,y]:=D9;subst hxs';obtain ⟨k,k',a,b,hx,hy,hk⟩:=h;refine MM (w':=w) ?_ hk;simp [execOp,resolve,invoke,builtin,Builtin.max_,Builtin.max2,hx,hy]
       · exact h
      case len=>
       simp only [KC] at h;split at h
       · rename_i x T hxs hts
         have hxs':xs=#[x]:=D9;have hts':ts=#[T]:=(by apply Ic;simpa using hts);subst hxs' hts';split at h
         · rename_i hs;have hu:=mH hs;obtain ⟨s,hx,hk⟩:=h;refine MM (w':=w) ?_ hk;simp [execOp,resolve,invoke,builtin,Builtin.len_,hx,Qb P T _ w hu,goInt]
         · split at h
           · rename_i he;obtain ⟨e,he⟩:=Jc.1 he;have hu:=kN he;obtain ⟨a,n,c,hx,hk⟩:=h;refine MM (w':=w) ?_ hk;simp [execOp,resolve,invoke,builtin,Builtin.len_,hx,Qb P T _ w hu,goInt]
           · exact h
       · exact h
    | value f=>
      cases f with
      | const=>exact h
      | global=>exact h
      | func f=>
        simp only [KC] at h;split at h
        · rename_i hg;obtain ⟨fn,h1,h2,h3⟩:=rk hg;exact CW
        · exact h
      | tmp f=>
        obtain ⟨f,fst,cap,fn,hx,h1,h2,h3,h4⟩:=h;exact mC hx h1 h2 h3 h4

theorem wu {o:Oper}{ρ:KI}{K:KT}{Q:QT}(h:Px P (ZK o) ρ w K Q):Px P o ρ w K Q:=h

theorem rq {o:Oper}{ρ:KI}{K:KT}{Q:QT}(h:(fh P o).wp P ρ w K Q):Px P o ρ w K Q:=by
 refine' wq;unfold fh at h;cases hl:KC P o<;>rw [hl] at h<;>first|exact h|exact wu h


structure GO where
 g:Option (Nat×Bool)
 o:LO

def WJ (v:Value)(b:Bool):Bool:=match v with
 | .bool b'=>b'==b
 | _=>false

def Q0 (P:Program):List GO→QT→KI→World→Prop
 | [],Q,ρ,w=>Q .normal ρ w
 | ⟨none,o⟩::l,Q,ρ,w=>o.wp P ρ w (Q0 P l Q) Q
 | ⟨some (s,b),o⟩::l,Q,ρ,w=>if WJ (ρ s) b then o.wp P ρ w (Q0 P l Q) Q else Q0 P l Q (KS ρ o.dst undef) w

def OO (P:Program)(ops:Array Oper)(o:Oper):GO:=
 ⟨o.guard.bind fun p=>((ops[p.1]?).bind (·.dst)).map fun s=>(s,p.2),fh P o⟩

def Py (n:Nat)(ops:Array Oper)(o:Oper):Bool:=
 (match o.dst with|some d=>decide (d<n)|none=>true) &&
 (match o.guard with
  | some (j,_)=>(match (ops[j]?).bind (·.dst) with|some s=>decide (s<n)|none=>false)
  | none=>true)

theorem wv (P:Program)(o:Oper):(KC P o).dst=o.dst:=by
 obtain ⟨dst,op,T,pos,af,g⟩:=o
 cases dst with
 | none=>
   unfold KC;dsimp only
   repeat' split
   all_goals rfl
 | some d=>
   unfold KC;dsimp only
   repeat' split
   all_goals rfl

theorem wx (P:Program)(o:Oper):(fh P o).dst=o.dst:=by
 rw [←wv P o];unfold fh;cases KC P o<;>rfl

theorem wy {ρ:KI}{a:Act}{ops:Array Oper}{b:Bool}(hr:Ou n ρ ds a)
 (hj:(ops[j]?).bind (·.dst)=some s)(hs:s<n):(yielded ops a.tmps j==some b)=WJ (ρ s) b:=by
 have h1:a.tmps[s]?=some (ρ s):=by
  have:=hr.2.1 s;rw [Ge] at this;have hlt:s<a.tmps.size:=(by rw [hr.1];exact hs);rw [GW hlt] at this ⊢
  simpa using this
 simp only [yielded,hj,Option.bind_some,h1];cases hv:ρ s<;>simp [WJ]

theorem rr {ρ:KI}{a:Act}{ops:Array Oper}{o:Oper}(hr:Ou n ρ ds a)(ho:Py n ops o=true):
 (∀(l:List GO) (Q:QT) (w:World),Q0 P (OO P ops o::l) Q ρ w→if Region.wanted o (yielded ops a.tmps) then (fh P o).wp P ρ w (Q0 P l Q) Q else Q0 P l Q (KS ρ o.dst undef) w):=by
 intro l Q w h;unfold OO at h;unfold Py at ho
 cases hg:o.guard with
 | none=>
   rw [hg] at h;simp only [Option.bind_none,Q0] at h;simp only [Region.wanted,hg,if_true];exact h
 | some p=>
   obtain ⟨j,b⟩:=p;rw [hg] at h ho;simp only [Fj] at ho;obtain ⟨_,ho⟩:=ho
   cases hs:(ops[j]?).bind (·.dst) with
   | none=>simp [hs] at ho
   | some s=>
     simp only [hs,decide_eq_true_eq] at ho;simp only [Option.bind_some,hs,Gd,Q0,wx] at h;simp only [Region.wanted,hg,wy hr hs ho];exact h

theorem fj {ops:Array Oper}{o:Oper}(h:Py n ops o=true):∀x,o.dst=some x→x<n:=by
 intro x hx;unfold Py at h;simp only [hx,Fj,decide_eq_true_eq] at h;exact h.1

theorem wA {o:Oper}{a:Act}{K K':Act→World→Prop}{Q:Exit→Act→World→Prop}(hk:∀a w,K a w→K' a w)(r:Result Next)(h:o.upon P a K Q r):o.upon P a K' Q r:=by
 cases r with
 | ok n w=>
   cases n<;>first|exact hk _ _ h|exact h|skip
   · refine Calls.mono h fun e w h=>?_;cases e<;>first|exact hk _ _ h|exact h
   · exact Rows.mono h fun v w h=>hk _ _ h
 | halt x w=>cases x<;>exact h

theorem kO {ops:Array Oper}{Q:QT}:∀(l:List Nat) (ρ:KI) (a:Act) (w:World),Ou n ρ ds a→
 (∀i∈l,∃o,ops[i]?=some o∧Py n ops o=true)→
 Q0 P (l.filterMap fun i=>(ops[i]?).map (OO P ops)) Q ρ w→wpOps P ops (ZI n ds Q) l a w:=by
 intro l
 induction l with
 | nil=>intro ρ a w hr _ h;exact ⟨ρ,hr,h⟩
 | cons i l ih=>
   intro ρ a w hr hok h;obtain ⟨o,ho,hg⟩:=hok i Js;have hok':∀i∈l,∃o,ops[i]?=some o∧Py n ops o=true:=fun i hi=>hok i (by simp [hi]);simp only [HI,ho,Gd] at h;have h':=rr hr hg _ Q w h;simp only [wpOps,ho];split
   · rename_i hw;rw [if_pos hw] at h';have h1:=re (ds:=ds) hr (fj hg) (rq h');exact .inl (wA (fun a w ⟨ρ,hr,h⟩=>ih ρ a w hr hok' h) _ h1)
   · rename_i hw;rw [if_neg hw] at h';exact ih _ _ w (hr.put _ _ (fj hg)) hok' h'

inductive LC where
 | skip
 | ops (l:List GO)
 | draw (gs:List GO) (es:List (List Nat))
 | seq (a b:LC)
 | cond (c:Operand) (a b:LC)
 | block (id:Nat) (a:LC)
 | loop (a:LC)
 | exit (id:Nat)
 | ret
 | bad

def Sb (es:List (List Nat)):List Nat→List Nat→Prop
 | X,[]=>∀i,i<es.length→i∈X
 | X,i::l=>i<es.length∧i∉X∧(∀e∈es.getD i [],e∈X)∧Sb es (i::X) l

def gE (i:Nat)(e:Edge):Bool:=decide (e.on<i) && (match e.ground with| .textOnly _=>false| .gcOnly _=>false|_=>true)
def kP (os:List Oper):Bool:=(os.zipIdx).all fun p=>p.1.after.toList.all (gE p.2)

def Sc (m:Region.Mode)(os:Array Oper):List Nat→List Nat→Bool
 | seen,[]=>(List.range os.size).all fun i=>seen.contains i
 | seen,i::r=>(match os[i]? with
   | some o=>o.after.toList.all (fun e=> !Region.binds m e||seen.contains e.on && decide (e.on<os.size))
   | none=>false) && Sc m os (i::seen) r
def ru (i:Nat)(e:Edge):Bool:= !Region.binds .any e||decide (e.on<i)
def mI (os:Array Oper):Bool:=(os.toList.zipIdx.all fun p=>p.1.after.toList.all (ru p.2)) && Sc .text os [] (Region.linearise .text os 0) && Sc .gc os [] (Region.linearise .gc os 0) && Sc .any os [] (Region.linearise .any os 0)
def fk (os:Array Oper):Bool:=kP os.toList||mI os
def Xe (os:Array Oper):List (List Nat):=os.toList.map fun o=>(o.after.toList.filter (Region.binds .any)).map (·.on)
def GO.nop:GO:=⟨none, .mov 0 (.const undef)⟩

def P3 (P:Program)(n:Nat):Code→LC
 | .skip=> .skip
 | .region _ ops false=>if ops.toList.all (Py n ops) then .ops (ops.toList.map (OO P ops)) else .bad
 | .region _ ops true=>if ops.toList.all (Py n ops) && fk ops then .draw (ops.toList.map (OO P ops)) (Xe ops) else .bad
 | .seq a b=> .seq (P3 P n a) (P3 P n b)
 | .cond c a b=> .cond c (P3 P n a) (P3 P n b)
 | .block id a=> .block id (P3 P n a)
 | .loop a=> .loop (P3 P n a)
 | .exit id=> .exit id
 | .ret=> .ret
 | _=> .bad

def Qs (K:KT)(Q:QT):QT
 | .normal,ρ,w=>K ρ w
 | e,ρ,w=>Q e ρ w
def Qi (id:Nat)(Q:QT):QT
 | .exit id',ρ,w=>if id'=id then Q .normal ρ w else Q (.exit id') ρ w
 | e,ρ,w=>Q e ρ w

def LC.wp (P:Program):LC→QT→KI→World→Prop
 | .skip,Q,ρ,w=>Q .normal ρ w
 | .ops l,Q,ρ,w=>Q0 P l Q ρ w
 | .draw gs es,Q,ρ,w=>∀l,Sb es [] l→Q0 P (l.map fun i=>gs.getD i GO.nop) Q ρ w.drew
 | .seq a b,Q,ρ,w=>a.wp P (Qs (b.wp P Q) Q) ρ w
 | .cond c a b,Q,ρ,w=>∃t,ρ.ev c= .bool t∧(if t then a.wp P Q ρ w else b.wp P Q ρ w)
 | .block id a,Q,ρ,w=>a.wp P (Qi id Q) ρ w
 | .loop a,Q,ρ,w=>∃(I:KI→World→Prop) (μ:KI→World→Nat),I ρ w∧∀ρ w,I ρ w→a.wp P (Qs (fun ρ' w'=>I ρ' w'∧μ ρ' w'<μ ρ w) Q) ρ w
 | .exit id,Q,ρ,w=>Q (.exit id) ρ w
 | .ret,Q,ρ,w=>Q .ret ρ w
 | .bad,_,_,_=>False

theorem mJ {f g:α→Option β}:∀{l:List α},(∀x∈l,f x=g x)→l.filterMap f=l.filterMap g:=by
 intro l
 induction l with
 | nil=>intro _;rfl
 | cons a l ih=>intro h;simp only [HI,h a Js,ih (fun x hx=>h x DO)]

theorem ry {ops:Array Oper}{t:Nat}:∀i∈Region.schedule mixed ops t,∃o,ops[i]?=some o:=by
 have key:∀(m:Region.Mode) fuel t listed acc,(∀i∈acc,∃o,ops[i]?=some o)→∀i∈Region.linearise.go m ops fuel t listed acc,∃o,ops[i]?=some o:=by
  intro m fuel
  induction fuel with
  | zero=>intro t listed acc h i hi;simp [Region.linearise.go] at hi;exact h i hi
  | succ fuel ih=>
    intro t listed acc h i hi;simp only [Region.linearise.go] at hi;split at hi
    · rename_i j hj
      refine ih _ _ (j::acc) ?_ i hi;intro k hk;rcases FA.1 hk with rfl|hk
      · have:=Fa hj;simp only [Hr,FX] at this;exact ⟨ops[k],by simp [this.1]⟩
      · exact h k hk
    · exact h i DW
 intro i hi;unfold Region.schedule at hi;split at hi
 · exact key _ _ _ _ [] Js i hi
 · exact key _ _ _ _ [] Js i hi

theorem wB:∀(n:Nat) (X:List Nat),X.Nodup→(∀x∈X,x<n)→X.length≤n:=by
 intro n
 induction n with
 | zero=>
   intro X _ h
   cases X with
   | nil=>simp
   | cons x X=>exact absurd (h x Js) Jo
 | succ n ih=>
   intro X hnd h
   have h1:=ih (X.erase n) (hnd.erase n) (fun x hx=>by
    have:=(List.Nodup.mem_erase_iff hnd).1 hx;have:=h x this.2;omega)
   by_cases hm:n∈X
   · rw [Je hm] at h1;omega
   · rw [List.erase_of_not_mem hm] at h1;omega

theorem mK (h:kP os.toList=true){i:Nat}{o:Oper}(ho:os[i]?=some o){e:Edge}(he:e∈o.after):gE i e=true:=by
 unfold kP at h;have:=Gb.1 h (o,i) E5;exact Gb.1 this e (by simpa using he)

def aQ (m:Region.Mode)(os:Array Oper):Prop:=∀X:List Nat,(∃i,i<os.size∧i∉X)→∃i o,os[i]?=some o∧i∉X∧∀e∈o.after,Region.binds m e=true→e.on∈X∧e.on<os.size

theorem wC (h:kP os.toList=true):aQ .any os:=by
 rintro X ⟨i,hi,hX⟩
 induction i using Nat.strongRecOn with
 | _ i ih=>
   by_cases hall:∀j,j<i→j∈X
   · refine ⟨i,os[i],by simp [hi],hX,fun e he _=>?_⟩;have hp:=mK h (i:=i) (o:=os[i]) (by simp [hi]) he;unfold gE at hp;simp only [Fj,decide_eq_true_eq] at hp;exact ⟨hall _ hp.1,Jo⟩
   · have ⟨j,hj⟩:=JK.1 hall;have ⟨hj1,hj2⟩:=Classical.not_imp.1 hj;exact ih j hj1 Jo hj2

theorem kQ {m:Region.Mode}{os:Array Oper}:∀{r seen:List Nat},Sc m os seen r=true→∀X:List Nat,(∀i∈seen,i∈X)→(∃i,i<os.size∧i∉X)→∃i o,os[i]?=some o∧i∉X∧∀e∈o.after,Region.binds m e=true→e.on∈X∧e.on<os.size
 | [],seen,h,X,hs,⟨i,hi,hX⟩=>by
   have:=Gb.1 h i (FX.2 hi);exact absurd (hs i (by simpa using this)) hX
 | i ::r,seen,h,X,hs,hx=>by
   simp only [Sc,Fj] at h;obtain ⟨h1,h2⟩:=h;by_cases hi:i∈X
   · exact kQ h2 X (fun j hj=>(FA.1 hj).elim (fun e=>e ▸ hi) (hs j)) hx
   · split at h1
     · rename_i o ho;refine ⟨i,o,ho,hi,fun e he hb=>?_⟩;have:=Gb.1 h1 e (by simpa using he);rw [hb] at this;simp only [Jf,Ha,Fj,decide_eq_true_eq] at this;exact ⟨hs _ (by simpa using this.1),this.2⟩
     · cases h1
theorem wD {m:Region.Mode}{e:Edge}(h:Region.binds .any e=true):Region.binds m e=true:=by
 unfold Region.binds at h ⊢;split at h<;>simp_all
theorem wE (h:fk os=true){i:Nat}{o:Oper}(ho:os[i]?=some o){e:Edge}(he:e∈o.after)(hb:Region.binds .any e=true):e.on<i:=by
 unfold fk at h;rw [Hs] at h;rcases h with h|h
 · have hp:=mK h ho he;unfold gE at hp;simp only [Fj,decide_eq_true_eq] at hp;exact hp.1
 · unfold mI at h
   simp only [Fj] at h;have:=Gb.1 h.1.1.1 (o,i) E5;have:=Gb.1 this e (by simpa using he);unfold ru at this;rw [hb] at this
   simpa using this

theorem aR (m:Region.Mode)(hback:∀(i:Nat) (o:Oper),os[i]?=some o→∀e∈o.after,Region.binds .any e=true→e.on<i)(hprog:aQ m os):∀(fuel t:Nat) (listed:Array Bool) (acc X:List Nat),listed.size=os.size→(∀i,i<os.size→(listed.getD i false=true↔i∈X))→
 (∀i∈X,i<os.size)→X.Nodup→os.size≤fuel+X.length→
 ∃l,Region.linearise.go m os fuel t listed acc=acc.reverse++l∧Sb (Xe os) X l:=by
 intro fuel
 induction fuel with
 | zero=>
   intro t listed acc X hsz hX hlt hnd hf;refine ⟨[],by simp [Region.linearise.go],?_⟩;intro i hi;simp only [Xe,Fb,Gl] at hi;rcases Jv (i∈X) with hc|hc
   · exact hc
   · have:=wB os.size (i::X) (G9.2 ⟨hc,hnd⟩) (by intro j hj;rcases FA.1 hj with rfl|hj;exact hi;exact hlt j hj);simp at this;omega
 | succ fuel ih=>
   intro t listed acc X hsz hX hlt hnd hf;simp only [Region.linearise.go];split
   · rename_i i hi
     have hm:=Fa hi;simp only [Hr,FX,Fj] at hm;obtain ⟨hilt,hnl,hr⟩:=hm;have hget:os[i]?=some os[i]:=(by simp [hilt]);rw [hget] at hr;simp only [Gd,GS] at hr
     have hiX:i∉X:=by
      intro hc;have:=(hX i hilt).2 hc;simp [Array.getD,hsz,hilt] at hnl this;simp [this] at hnl
     obtain ⟨l,h1,h2⟩:=ih (t / _) (listed.setIfInBounds i true) (i::acc) (i::X) (by simp [hsz]) (by
      intro j hj;have:=hX j hj;by_cases hij:i=j
      · subst hij;simp [Array.getD,hsz,hj]
      · rw [Ge,II hij,←Ge,this]
        simp [Ir hij]) (by intro j hj;rcases FA.1 hj with rfl|hj;exact hilt;exact hlt j hj) (G9.2 ⟨hiX,hnd⟩) Di
     refine ⟨i::l,by rw [h1];simp,by simpa [Xe] using hilt,hiX,?_,h2⟩;intro e he;simp only [Xe,E9,Fy,Gr,hget,Gd,GS,FU,Hr] at he;obtain ⟨ed,⟨hed,hb⟩,rfl⟩:=he;have hed':ed∈os[i].after:=(by simpa using hed);have hp:=hback i _ hget ed hed' hb;have:=Iz.1 hr ed hed';simp only [wD hb,Jf,Ha] at this;exact (hX ed.on Jo).1 this
   · rename_i hi
     refine ⟨[],by simp,?_⟩;intro i hi';simp only [Xe,Fb,Gl] at hi';rcases Jv (i∈X) with hc|hc
     · exact hc
     exfalso;obtain ⟨j,o,hj,hjX,hjr⟩:=hprog X ⟨i,hi',hc⟩;have hjlt:j<os.size:=(HQ.1 hj).1
     have hmem:j∈(List.range os.size).filter fun i=> !listed.getD i true && ((os[i]?).map (·.after.all fun e=> !Region.binds m e||listed.getD e.on false)).getD false:=by
      simp only [Hr,FX,Fj];refine ⟨hjlt,?_,?_⟩
      · have:=mt (hX j hjlt).1 hjX
        simp [Array.getD,hsz,hjlt] at this ⊢
        simpa using this
      · rw [hj]
        simp only [Gd,GS];rw [Iz];intro e he
        cases hb:Region.binds m e with
        | false=>rfl
        | true=>
          obtain ⟨h1,h2⟩:=hjr e he hb;have:=(hX e.on h2).2 h1;simp [this]
     have hlen:0<((List.range os.size).filter fun i=> !listed.getD i true && ((os[i]?).map (·.after.all fun e=> !Region.binds m e||listed.getD e.on false)).getD false).length:=
      Hu hmem
     rw [Jb] at hi;have:=J0 t hlen;omega

theorem kR {m:Region.Mode}{t:Nat}(h:fk os=true)(hp:aQ m os):Sb (Xe os) [] (Region.linearise m os t):=by
 obtain ⟨l,h1,h2⟩:=aR m (fun i o ho e he hb=>wE h ho he hb) hp os.size t (Array.replicate os.size false) [] [] Js (by intro i hi;simp [Array.getD,hi]) Js Js Js;unfold Region.linearise;rw [h1]
 simpa using h2
theorem wF {t:Nat}(h:fk os=true):Sb (Xe os) [] (Region.schedule mixed os t):=by
 have h':=h;unfold fk at h';rw [Hs] at h';rcases h' with h'|h'
 · have hdep:Region.departs os=false:=by
    cases hd:Region.departs os with
    | false=>rfl
    | true=>
      unfold Region.departs at hd;rw [Ka] at hd;obtain ⟨i,hi,hd⟩:=hd;rw [Ka] at hd;obtain ⟨j,hj,hd⟩:=hd;have hp:=mK h' (i:=i) (o:=os[i]) (by simp [hi]) (e:=os[i].after[j]) Js;unfold gE at hp;unfold Region.binds at hd;cases hg:os[i].after[j].ground<;>simp [hg] at hp hd
   unfold Region.schedule;rw [hdep];simp only [Ik,Bool.or_true,if_true];exact kR h (wC h')
 · unfold mI at h'
   simp only [Fj] at h';have hany:=fun X hX=>kQ h'.2 X (fun _ h=>(Fv h).elim) hX;have htext:=fun X hX=>kQ h'.1.1.2 X (fun _ h=>(Fv h).elim) hX;have hgc:=fun X hX=>kQ h'.1.2 X (fun _ h=>(Fv h).elim) hX;unfold Region.schedule;split
   · exact kR h hany
   · split
     · exact kR h htext
     · exact kR h hgc

theorem mM (g:α→β):∀(l pre:List α),(List.range' pre.length l.length).filterMap (fun i=>((pre++l)[i]?).map g)=l.map g:=by
 intro l
 induction l with
 | nil=>intro pre;simp
 | cons x l ih=>
   intro pre;have:=ih (pre++[x]);simp only [Fc,Ih,GJ,List.singleton_append] at this;simp only [Fk,List.range'_succ,HI,Gy];simp [this]

theorem mN:∀(c:Code) (Q:QT) (ρ:KI) (a:Act) (w:World),Ou n ρ ds a→(P3 P n c).wp P Q ρ w→c.wp P (ZI n ds Q) a w:=by
 have hokall:∀ops:Array Oper,ops.toList.all (Py n ops)=true→∀(i:Nat) (o:Oper),ops[i]?=some o→Py n ops o=true:=by
  intro ops h i o hi;exact Gb.1 h o Ep
 intro c
 induction c with
 | skip=>intro Q ρ a w hr h;exact wp_skip ⟨ρ,hr,h⟩
 | region id ops draw=>
   intro Q ρ a w hr h
   cases draw with
   | false=>
     simp only [P3] at h;split at h
     · rename_i hall
       refine wp_region ?_;refine kO _ ρ a w hr ?_ ?_
       · intro i hi;have hi':i<ops.size:=DW;exact ⟨ops[i],by simp [hi'],hokall ops hall i _ (by simp [hi'])⟩
       · have e:((List.range ops.size).filterMap fun i=>(ops[i]?).map (OO P ops))=ops.toList.map (OO P ops):=by
          have:=mM (OO P ops) ops.toList []
          simpa [Im] using this
         rw [e];exact h
     · exact h.elim
   | true =>
     simp only [P3] at h;split at h
     · rename_i hall
       simp only [Fj] at hall;refine wp_region_draw fun t=>?_;have h':=h _ (wF (mixed:=P.follows .mixedOrders) (t:=t) hall.2);refine kO _ ρ a _ hr ?_ ?_
       · intro i hi;obtain ⟨o,ho⟩:=ry i hi;exact ⟨o,ho,hokall ops hall.1 i o ho⟩
       · have e:((Region.schedule (P.follows .mixedOrders) ops t).filterMap fun i=>(ops[i]?).map (OO P ops))=
          (Region.schedule (P.follows .mixedOrders) ops t).map fun i=>(ops.toList.map (OO P ops)).getD i GO.nop:=by
          rw [←List.filterMap_eq_map];refine mJ ?_;intro i hi;obtain ⟨o,ho⟩:=ry i hi;have ho':ops.toList[i]?=some o:=(by simpa using ho);simp [ho,E9]
         rw [e];exact h'
     · exact h.elim
 | seq x y ihx ihy=>
   intro Q ρ a w hr h;refine wp_seq ?_;refine wp_mono (ihx _ ρ a w hr h) ?_;rintro e a w ⟨ρ,hr,h⟩
   cases e with
   | normal=>exact ihy _ ρ a w hr h
   | _=>exact ⟨ρ,hr,h⟩
 | cond c x y ihx ihy=>
   intro Q ρ a w hr h;obtain ⟨t,hc,h⟩:=h;refine wp_cond (t:=t) (by rw [hr.ev];exact hc) ?_;cases t
   · exact ihy _ ρ a w hr h
   · exact ihx _ ρ a w hr h
 | block id x ih=>
   intro Q ρ a w hr h;refine wp_block ?_;refine wp_mono (ih _ ρ a w hr h) ?_;rintro e a w ⟨ρ,hr,h⟩
   cases e with
   | exit id'=>
     simp only [Qi] at h;simp only [Exit.inBlock];split
     · rename_i he;rw [if_pos he] at h;exact ⟨ρ,hr,h⟩
     · rename_i he;rw [if_neg he] at h;exact ⟨ρ,hr,h⟩
   | _=>exact ⟨ρ,hr,h⟩
 | loop x ih=>
   intro Q ρ a w hr h;obtain ⟨I,μ,h0,hround⟩:=h;refine wp_loop (ZH n ds I) (fun a w=>μ (fun i=>a.tmps.getD i undef) w) ⟨ρ,hr,h0⟩ ?_;rintro a w ⟨ρ,hr,hI⟩;have he:(fun i=>a.tmps.getD i undef)=ρ:=funext hr.2.1;refine wp_mono (ih _ ρ a w hr (hround ρ w hI)) ?_;rintro e a' w' ⟨ρ',hr',h⟩
   cases e with
   | normal=>
     have he':(fun i=>a'.tmps.getD i undef)=ρ':=funext hr'.2.1;refine ⟨⟨ρ',hr',h.1⟩,?_⟩;simp only [he,he'];exact h.2
   | _=>exact ⟨ρ',hr',h⟩
 | exit id=>intro Q ρ a w hr h;exact wp_exit ⟨ρ,hr,h⟩
 | ret=>intro Q ρ a w hr h;exact wp_ret ⟨ρ,hr,h⟩
 | rangeFunc=>intro Q ρ a w hr h;exact h.elim
 | scope=>intro Q ρ a w hr h;exact h.elim
 | label=>intro Q ρ a w hr h;exact h.elim
 | goto=>intro Q ρ a w hr h;exact h.elim
 | refuse=>intro Q ρ a w hr h;exact h.elim


def Xf (l:List Value):KI:=fun i=>l.getD i undef

def RE:List Value→Value
 | [v]=>v
 | l=> .tuple ⟨l⟩

def Xg (P:Program)(w:World)(a:Addr)(T:TypeId)(v:Value):Prop:=
 (Xa P T=true∧w.cell? a=some v)∨(Ov P T=true∧∃n cs,NV P T=some n∧ZJ w a n cs∧v= .agg ⟨cs⟩)

def QD (P:Program)(w:World)(ρ:KI):List ResultVar→List Value→(Value→Prop)→Prop
 | [],acc,R=>R (RE acc.reverse)
 | .tmp t::rs,acc,R=>QD P w ρ rs (ρ t::acc) R
 | .cell a T::rs,acc,R=>∃ad v,ρ a= .pointer (some ad)∧Xg P w ad T v∧QD P w ρ rs (v::acc) R

def KN (P:Program)(rs:List ResultVar)(R:Ending→World→Prop):QT
 | .normal,ρ,w=>QD P w ρ rs [] fun v=>R (.returned v) w
 | .ret,ρ,w=>QD P w ρ rs [] fun v=>R (.returned v) w
 | .panic chain,_,w=>R (.panicked chain) w
 | .outgrown,_,w=>R .outgrown w
 | _,_,_=>False

theorem wG {a:Addr}{v:Value}(h:Xg P w a T v):(loadVar T a).run P w= .ok v w:=by
 rcases h with ⟨hs,hc⟩|⟨ha,n,cs,hn,hc,rfl⟩
 · simp [loadVar,mE P T w hs,hc]
 · simp [loadVar,mF P T w ha,Re P T n w hn,gD (P:=P) a n cs hc]

theorem wH {ρ:KI}(f:ResultVar→Sem Value)(h1:∀t,f (.tmp t)=pure (ρ t))(h2:∀a t,f (.cell a t)=(do loadVar t (←asAddr (ρ a)))):
 ∀(rs:List ResultVar) (acc:List Value) (R:Value→Prop),QD P w ρ rs acc R→∃vs,(rs.mapM f).run P w= .ok vs w∧R (RE (acc.reverse++vs)):=by
 intro rs
 induction rs with
 | nil=>intro acc R h;exact ⟨[],by simp,by simpa [QD] using h⟩
 | cons r rs ih=>
   intro acc R h
   cases r with
   | tmp t=>
     obtain ⟨vs,h3,h4⟩:=ih _ R h;refine ⟨ρ t::vs,?_,by simpa using h4⟩;simp only [I1,FH,FR,Fp,h1,h3]
   | cell a T=>
     obtain ⟨ad,v,ha,hv,h⟩:=h;obtain ⟨vs,h3,h4⟩:=ih _ R h;refine ⟨v::vs,?_,by simpa using h4⟩;simp only [I1,FH,FR,Fp,h2,ha,asAddr,wG hv,h3]

theorem gF {ρ:KI}{tmps:Array Value}{R:Value→Prop}(ht:∀i,tmps.getD i undef=ρ i)
 (h:QD P w ρ fn.results.toList [] R):∃v,(results fn tmps).run P w= .ok v w∧R v:=by
 unfold results
 obtain ⟨vs,h1,h2⟩:=wH (ρ:=ρ) (fun
  | .tmp t=>pure (tmps.getD t undef)
  | .cell a t=>do loadVar t (←asAddr (tmps.getD a undef))) (fun t=>by simp only [ht]) (fun a t=>by simp only [ht]) _ _ _ h
 simp only [List.reverse_nil,IW] at h2;refine ⟨RE vs,?_,h2⟩;simp only [I7,FH,Sem.run_map];refine Eq.trans (congrArg (fun r=>((Result.andThen r _).andThen _)) h1) ?_;simp only [Fp,FR]
 match vs with
 | []=>rfl
 | [v]=>rfl
 | v::u::vs=>simp [RE]

theorem wI {e:Exit}{a:Act}
 (h:ZI n [] (KN P fn.results.toList R) e a w):bodyPost P fn R e a w:=by
 obtain ⟨ρ,hr,h⟩:=h
 cases e with
 | normal=>obtain ⟨v,h1,h2⟩:=gF hr.2.1 h;exact ⟨hr.2.2,v,h1,h2⟩
 | ret=>obtain ⟨v,h1,h2⟩:=gF hr.2.1 h;exact ⟨hr.2.2,v,h1,h2⟩
 | panic ch=>exact ⟨hr.2.2,h⟩
 | outgrown=>exact h
 | exit=>exact h
 | goto=>exact h

theorem mO (args:Array Value)(n:Nat)(h:args.size≤n)(ds:List Deferred):Ou n (Xf args.toList) ds {tmps:=args++Array.replicate (n - args.size) undef,defers:=ds}:=by
 refine ⟨by simp;omega,fun i=>?_,rfl⟩;simp only [Xf,Ge,E9,Array.getElem?_append,Array.getElem?_replicate,Gr];split
 · rfl
 · rename_i hi;rw [GP Jo];split<;>simp

theorem wJ {c:Code}{lc:LC}
 (hf:P.funcs[f]?=some fn)(hb:fn.body=some c)(hl:P3 P fn.ntmps c=lc)(hrs:fn.results.toList=rs)(hn:Nat.ble args.length fn.ntmps=true)
 (h:lc.wp P (KN P rs R) (Xf args) w):Calls P f ⟨args⟩ w R:=by
 refine calls_of_wp hf hb ?_;subst hl hrs;have hn':args.length≤fn.ntmps:=F4 hn;exact wp_mono (mN (ds:=[]) c _ _ _ _ (mO ⟨args⟩ fn.ntmps hn' []) h) fun e a w h=>wI h

def aS (P:Program)(fn:Func):Option LC:=fn.body.map (P3 P fn.ntmps)

theorem wK {lc:LC}
 (hf:P.funcs[f]?=some fn)(hl:aS P fn=some lc)(hrs:fn.results.toList=rs)(hn:Nat.ble args.length fn.ntmps=true)
 (h:lc.wp P (KN P rs R) (Xf args) w):Calls P f ⟨args⟩ w R:=by
 unfold aS at hl
 cases hb:fn.body with
 | none=>simp [hb] at hl
 | some c=>simp only [hb,Gd,Fq] at hl;exact wJ hf hb hl hrs hn h

end
section

def Ow:Operand→List Nat
 | .tmp t=>[t]
 | _=>[]
def Sd:Option Operand→List Nat
 | some x=>Ow x
 | none=>[]

def LO.uses:LO→List Nat
 | .mov _ x| .un _ _ x| .nilc _ x| .fld _ x _| .load1 _ x| .loadn _ _ x| .len _ x| .slen _ x| .ext _ x _| .fldv _ x _| .fldn _ x _ _| .box _ _ x| .conv _ _ x| .mki _ _ x=>Ow x
 | .pick _ c x y=>Ow c++Ow x++Ow y
 | .bin _ _ _ x y| .idx _ _ x y| .idxa _ _ _ x y| .sidx _ x y| .mnx _ _ x y| .store1 x y| .storen _ x y=>Ow x++Ow y
 | .alloc ..=>[]
 | .call _ _ xs=>xs.flatMap Ow
 | .callv _ x xs=>Ow x++xs.flatMap Ow
 | .build _ _ ps| .buildS _ _ _ _ ps=>ps.flatMap fun p=>Ow p.2.2
 | .mkfn _ _ xs=>xs.flatMap Ow
 | .sub _ _ x a b c=>Ow x++Sd a++Sd b++Sd c
 | .ssub _ x a b=>Ow x++Sd a++Sd b
 | .raw o=>o.op.operands.toList.flatMap Ow

def LO.quiet:LO→Bool
 | .mov ..| .pick ..| .un ..| .bin ..| .nilc ..| .fld ..| .load1 ..| .loadn ..| .idx ..| .idxa ..| .len ..| .slen ..| .sidx ..| .ext ..| .fldv ..| .fldn ..| .build ..| .mkfn ..
 | .sub ..| .ssub ..| .mnx ..| .conv ..| .mki ..=>true
 | _=>false

def qv (P:Program)(ρ:KI)(w:World):LO→Value→Prop
 | .mov _ x,v=>v=ρ.ev x
 | .pick _ c x y,v=>∃b,ρ.ev c= .bool b∧v=(if b then ρ.ev x else ρ.ev y)
 | .un _ op x,v=>∀w0,(Op.unary op (ρ.ev x)).run P w0= .ok v w0
 | .bin _ op T x y,v=>∀w0,(do eqGuard op T x y (ρ.ev x) (ρ.ev y);binOp op T (ρ.ev x) (ρ.ev y)).run P w0= .ok v w0
 | .nilc _ x,v=>∃a,ρ.ev x= .pointer (some a)∧v= .pointer (some a)
 | .fld _ x off,v=>∃a,ρ.ev x= .pointer (some a)∧v= .pointer (some (a.add off))
 | .load1 _ x,v=>∃a,ρ.ev x= .pointer (some a)∧w.cell? a=some v
 | .loadn _ n x,v=>∃a cs,ρ.ev x= .pointer (some a)∧ZJ w a n cs∧v= .agg ⟨cs⟩
 | .idx _ es x i,v=>∃a len cap k n,ρ.ev x= .slice (some a) len cap∧ρ.ev i= .int k n∧0≤n∧n<len∧v= .pointer (some (a.add (n.toNat*es)))
 | .idxa _ m es x i,v=>∃a k n,ρ.ev x= .pointer (some a)∧ρ.ev i= .int k n∧0≤n∧n<(m:Int)∧v= .pointer (some (a.add (n.toNat*es)))
 | .len _ x,v=>∃a n c,ρ.ev x= .slice a n c∧v= .int .i64 n
 | .slen _ x,v=>∃s,ρ.ev x= .string s∧v= .int .i64 s.size
 | .sidx _ x i,v=>∃s k n b,ρ.ev x= .string s∧ρ.ev i= .int k n∧0≤n∧s[n.toNat]?=some b∧v= .int .u8 b.toNat
 | .ext _ x i,v=>∃vs,ρ.ev x= .tuple vs∧vs[i]?=some v
 | .fldv _ x off,v=>∃cs,ρ.ev x= .agg cs∧cs[off]?=some v
 | .fldn _ x off n,v=>∃cs,ρ.ev x= .agg cs∧v= .agg (cs.extract off (off+n))
 | .build _ z ps,v=>∃cs,NG z (ps.map fun p=>(p.1,p.2.1,ρ.ev p.2.2))=some cs∧v= .agg ⟨cs⟩
 | .mkfn _ f caps,v=>v= .func (.func f) #[] ⟨caps.map ρ.ev⟩
 | .sub _ es x lo hi mx,v=>∃a len cap l h m,ρ.ev x= .slice a len cap∧ML ρ cap mx m∧ML ρ len hi h∧ML ρ 0 lo l∧m≤cap∧h≤m∧l≤h∧
    v= .slice (if m=l then a else a.map (·.add (l*es))) (h - l) (m - l)
 | .ssub _ x lo hi,v=>∃s l h,ρ.ev x= .string s∧ML ρ s.size hi h∧ML ρ 0 lo l∧h≤s.size∧l≤h∧v= .string (s.extract l h)
 | .mnx _ isMax x y,v=>∃k k' a b,ρ.ev x= .int k a∧ρ.ev y= .int k' b∧v= .int k (if isMax then (if a<b then b else a) else (if b<a then b else a))
 | .conv _ k x,v=>∃k' n,ρ.ev x= .int k' n∧v= .int k (k.wrap n)
 | .mki _ T x,v=>v= .iface T (ρ.ev x)
 | _,_=>False

theorem kS {ρ:KI}{K:KT}{Q:QT}{o:LO}(h:o.quiet=true):o.wp P ρ w K Q↔∃v,qv P ρ w o v∧K (KS ρ o.dst v) w:=by
 cases o<;>simp only [LO.quiet,Fs] at h<;>simp only [LO.wp,qv,LO.dst,KS];all_goals (constructor<;>intro h)
 case mov.mp=>exact ⟨_,rfl,h⟩
 case mov.mpr=>obtain ⟨v,rfl,h⟩:=h;exact h
 case pick.mp=>obtain ⟨b,h1,h2⟩:=h;exact ⟨_,⟨b,h1,rfl⟩,h2⟩
 case pick.mpr=>obtain ⟨v,⟨b,h1,rfl⟩,h2⟩:=h;exact ⟨b,h1,h2⟩
 case nilc.mp=>obtain ⟨a,h1,h2⟩:=h;exact ⟨_,⟨a,h1,rfl⟩,h2⟩
 case nilc.mpr=>obtain ⟨v,⟨a,h1,rfl⟩,h2⟩:=h;exact ⟨a,h1,h2⟩
 case fld.mp=>obtain ⟨a,h1,h2⟩:=h;exact ⟨_,⟨a,h1,rfl⟩,h2⟩
 case fld.mpr=>obtain ⟨v,⟨a,h1,rfl⟩,h2⟩:=h;exact ⟨a,h1,h2⟩
 case load1.mp=>obtain ⟨a,v,h1,h2,h3⟩:=h;exact ⟨v,⟨a,h1,h2⟩,h3⟩
 case load1.mpr=>obtain ⟨v,⟨a,h1,h2⟩,h3⟩:=h;exact ⟨a,v,h1,h2,h3⟩
 case loadn.mp=>obtain ⟨a,cs,h1,h2,h3⟩:=h;exact ⟨_,⟨a,cs,h1,h2,rfl⟩,h3⟩
 case loadn.mpr=>obtain ⟨v,⟨a,cs,h1,h2,rfl⟩,h3⟩:=h;exact ⟨a,cs,h1,h2,h3⟩
 case idx.mp=>obtain ⟨a,l,c,k,n,h1,h2,h3,h4,h5⟩:=h;exact ⟨_,⟨a,l,c,k,n,h1,h2,h3,h4,rfl⟩,h5⟩
 case idx.mpr=>obtain ⟨v,⟨a,l,c,k,n,h1,h2,h3,h4,rfl⟩,h5⟩:=h;exact ⟨a,l,c,k,n,h1,h2,h3,h4,h5⟩
 case idxa.mp=>obtain ⟨a,k,n,h1,h2,h3,h4,h5⟩:=h;exact ⟨_,⟨a,k,n,h1,h2,h3,h4,rfl⟩,h5⟩
 case idxa.mpr=>obtain ⟨v,⟨a,k,n,h1,h2,h3,h4,rfl⟩,h5⟩:=h;exact ⟨a,k,n,h1,h2,h3,h4,h5⟩
 case len.mp=>obtain ⟨a,n,c,h1,h2⟩:=h;exact ⟨_,⟨a,n,c,h1,rfl⟩,h2⟩
 case len.mpr=>obtain ⟨v,⟨a,n,c,h1,rfl⟩,h2⟩:=h;exact ⟨a,n,c,h1,h2⟩
 case slen.mp=>obtain ⟨s,h1,h2⟩:=h;exact ⟨_,⟨s,h1,rfl⟩,h2⟩
 case slen.mpr=>obtain ⟨v,⟨s,h1,rfl⟩,h2⟩:=h;exact ⟨s,h1,h2⟩
 case sidx.mp=>obtain ⟨s,k,n,b,h1,h2,h3,h4,h5⟩:=h;exact ⟨_,⟨s,k,n,b,h1,h2,h3,h4,rfl⟩,h5⟩
 case sidx.mpr=>obtain ⟨v,⟨s,k,n,b,h1,h2,h3,h4,rfl⟩,h5⟩:=h;exact ⟨s,k,n,b,h1,h2,h3,h4,h5⟩
 case ext.mp=>obtain ⟨vs,v,h1,h2,h3⟩:=h;exact ⟨v,⟨vs,h1,h2⟩,h3⟩
 case ext.mpr=>obtain ⟨v,⟨vs,h1,h2⟩,h3⟩:=h;exact ⟨vs,v,h1,h2,h3⟩
 case fldv.mp=>obtain ⟨cs,v,h1,h2,h3⟩:=h;exact ⟨v,⟨cs,h1,h2⟩,h3⟩
 case fldv.mpr=>obtain ⟨v,⟨cs,h1,h2⟩,h3⟩:=h;exact ⟨cs,v,h1,h2,h3⟩
 case fldn.mp=>obtain ⟨cs,h1,h2⟩:=h;exact ⟨_,⟨cs,h1,rfl⟩,h2⟩
 case fldn.mpr=>obtain ⟨v,⟨cs,h1,rfl⟩,h2⟩:=h;exact ⟨cs,h1,h2⟩
 case build.mp=>obtain ⟨cs,h1,h2⟩:=h;exact ⟨_,⟨cs,h1,rfl⟩,h2⟩
 case build.mpr=>obtain ⟨v,⟨cs,h1,rfl⟩,h2⟩:=h;exact ⟨cs,h1,h2⟩
 case mkfn.mp=>exact ⟨_,rfl,h⟩
 case mkfn.mpr=>obtain ⟨v,rfl,h⟩:=h;exact h
 case sub.mp=>obtain ⟨a,n,c,l,hh,m,h1,h2,h3,h4,h5,h6,h7,h8⟩:=h;exact ⟨_,⟨a,n,c,l,hh,m,h1,h2,h3,h4,h5,h6,h7,rfl⟩,h8⟩
 case sub.mpr=>obtain ⟨v,⟨a,n,c,l,hh,m,h1,h2,h3,h4,h5,h6,h7,rfl⟩,h8⟩:=h;exact ⟨a,n,c,l,hh,m,h1,h2,h3,h4,h5,h6,h7,h8⟩
 case ssub.mp=>obtain ⟨s,l,hh,h1,h2,h3,h4,h5,h6⟩:=h;exact ⟨_,⟨s,l,hh,h1,h2,h3,h4,h5,rfl⟩,h6⟩
 case ssub.mpr=>obtain ⟨v,⟨s,l,hh,h1,h2,h3,h4,h5,rfl⟩,h6⟩:=h;exact ⟨s,l,hh,h1,h2,h3,h4,h5,h6⟩
 case mnx.mp=>obtain ⟨k,k',a,b,h1,h2,h3⟩:=h;exact ⟨_,⟨k,k',a,b,h1,h2,rfl⟩,h3⟩
 case mnx.mpr=>obtain ⟨v,⟨k,k',a,b,h1,h2,rfl⟩,h3⟩:=h;exact ⟨k,k',a,b,h1,h2,h3⟩
 case conv.mp=>obtain ⟨k',n,h1,h2⟩:=h;exact ⟨_,⟨k',n,h1,rfl⟩,h2⟩
 case conv.mpr=>obtain ⟨v,⟨k',n,h1,rfl⟩,h2⟩:=h;exact ⟨k',n,h1,h2⟩
 case mki.mp=>exact ⟨_,rfl,h⟩
 case mki.mpr=>obtain ⟨v,rfl,h⟩:=h;exact h

theorem QC {ρ ρ':KI}{x:Operand}(h:∀s∈Ow x,ρ s=ρ' s):ρ.ev x=ρ'.ev x:=by
 cases x<;>first|rfl|exact h _ (by simp [Ow])
theorem gG {ρ ρ':KI}{x:Option Operand}(h:∀s∈Sd x,ρ s=ρ' s)(hb:ML ρ d x n):ML ρ' d x n:=by
 cases x with
 | none=>exact hb
 | some x=>simp only [ML] at hb ⊢;rw [←QC (ρ:=ρ) (ρ':=ρ') h];exact hb
theorem kT {ρ ρ':KI}(h:∀s∈xs.flatMap Ow,ρ s=ρ' s):xs.map ρ.ev=xs.map ρ'.ev:=by
 refine GK fun x hx=>QC fun s hs=>h s ?_;exact IM.2 ⟨x,hx,hs⟩
theorem rz {ρ ρ':KI}{xs:List (Nat×Nat×Operand)}(h:∀s∈xs.flatMap (fun p=>Ow p.2.2),ρ s=ρ' s):
 (xs.map fun p=>(p.1,p.2.1,ρ.ev p.2.2))=xs.map fun p=>(p.1,p.2.1,ρ'.ev p.2.2):=by
 refine GK fun x hx=>?_;rw [QC (ρ:=ρ) (ρ':=ρ') fun s hs=>h s (IM.2 ⟨x,hx,hs⟩)]

theorem mP {ρ ρ':KI}{o:LO}{v:Value}(h:∀s∈o.uses,ρ s=ρ' s)(hv:qv P ρ w o v):qv P ρ' w o v:=by
 cases o<;>simp only [qv] at hv ⊢ <;>simp only [LO.uses,FC] at h
 case mov=>rw [←QC h];exact hv
 case pick=>rw [←QC fun s hs=>h s (.inl (.inl hs)),←QC fun s hs=>h s (.inl (.inr hs)),←QC fun s hs=>h s (.inr hs)];exact hv
 case un=>rw [←QC h];exact hv
 case bin=>rw [←QC fun s hs=>h s (.inl hs),←QC fun s hs=>h s (.inr hs)];exact hv
 case nilc=>rw [←QC h];exact hv
 case fld=>rw [←QC h];exact hv
 case load1=>rw [←QC h];exact hv
 case loadn=>rw [←QC h];exact hv
 case idx=>rw [←QC fun s hs=>h s (.inl hs),←QC fun s hs=>h s (.inr hs)];exact hv
 case idxa=>rw [←QC fun s hs=>h s (.inl hs),←QC fun s hs=>h s (.inr hs)];exact hv
 case len=>rw [←QC h];exact hv
 case slen=>rw [←QC h];exact hv
 case sidx=>rw [←QC fun s hs=>h s (.inl hs),←QC fun s hs=>h s (.inr hs)];exact hv
 case ext=>rw [←QC h];exact hv
 case fldv=>rw [←QC h];exact hv
 case fldn=>rw [←QC h];exact hv
 case build=>rw [←rz h];exact hv
 case mkfn=>rw [←kT h];exact hv
 case sub=>
  rw [←QC fun s hs=>h s (.inl (.inl (.inl hs)))];obtain ⟨a,n,c,l,hh,m,h1,h2,h3,h4,h5⟩:=hv;exact ⟨a,n,c,l,hh,m,h1,gG (fun s hs=>h s (.inr hs)) h2,gG (fun s hs=>h s (.inl (.inr hs))) h3,gG (fun s hs=>h s (.inl (.inl (.inr hs)))) h4,h5⟩
 case ssub=>
  rw [←QC fun s hs=>h s (.inl (.inl hs))];obtain ⟨s,l,hh,h1,h2,h3,h4⟩:=hv;exact ⟨s,l,hh,h1,gG (fun s hs=>h s (.inr hs)) h2,gG (fun s hs=>h s (.inl (.inr hs))) h3,h4⟩
 case mnx=>rw [←QC fun s hs=>h s (.inl hs),←QC fun s hs=>h s (.inr hs)];exact hv
 case conv=>rw [←QC h];exact hv
 case mki=>rw [←QC h];exact hv
 all_goals exact hv.elim

theorem wL {ρ ρ':KI}{xs:Array Operand}(h:∀s∈xs.toList.flatMap Ow,ρ s=ρ' s):xs.map ρ.ev=xs.map ρ'.ev:=by
 apply Ic;simpa using kT h
def Tb:Op→Bool
 | .call ⟨.builtin _,_,_⟩| .makeSlice ..| .convert ..| .box ..| .load ..=>true
 | _=>false

theorem wM {ρ ρ':KI}{o:Oper}(hr:Tb o.op=true)(h:∀s∈o.op.operands.toList.flatMap Ow,ρ s=ρ' s):execOp ρ.ev o=execOp ρ'.ev o:=by
 obtain ⟨dst,op,T,pos,af,g⟩:=o;cases op<;>simp only [Tb,Fs] at hr<;>simp only [Op.operands] at h
 case call c=>
  obtain ⟨ce,xs,ts⟩:=c;cases ce<;>simp only [Fs] at hr;simp only [execOp,resolve];rw [wL (by simpa [Call.operands] using h)]
 case makeSlice T l c=>
  simp only [execOp];rw [QC (x:=l) (ρ:=ρ) (ρ':=ρ') (fun s hs=>h s (by simp [hs])),QC (x:=c) (ρ:=ρ) (ρ':=ρ') (fun s hs=>h s (by simp [hs]))]
 case convert=>simp only [execOp];rw [QC (ρ:=ρ) (ρ':=ρ') (fun s hs=>h s (by simpa using hs))]
 case box=>simp only [execOp];rw [QC (ρ:=ρ) (ρ':=ρ') (fun s hs=>h s (by simpa using hs))]
 case load=>simp only [execOp];rw [QC (ρ:=ρ) (ρ':=ρ') (fun s hs=>h s (by simpa using hs))]

def LO.takes:LO→Bool
 | .raw o=>Tb o.op
 | _=>true

theorem wa {ρ ρ':KI}{o:LO}{K K':KT}{Q Q':QT}(ht:o.takes=true)(h:∀s∈o.uses,ρ s=ρ' s)
 (hk:∀v w',K (KS ρ o.dst v) w'→K' (KS ρ' o.dst v) w')(hq:∀e w',e≠ .normal→Q e ρ w'→Q' e ρ' w')(hw:o.wp P ρ w K Q):o.wp P ρ' w K' Q':=by
 by_cases hqt:o.quiet=true
 · rw [kS hqt] at hw ⊢;obtain ⟨v,h1,h2⟩:=hw;exact ⟨v,mP h h1,hk _ _ h2⟩
 · have hp:∀d e w',Q7 K Q d ρ w e w'→(∀v w',K (KS ρ d v) w'→K' (KS ρ' d v) w')→Q7 K' Q' d ρ' w e w':=by
    intro d e w' hc hk
    cases e with
    | returned v=>exact hk _ _ hc
    | panicked ch=>exact hq _ _ Js hc
    | outgrown=>exact hq _ _ Js hc
   cases o<;>simp only [LO.quiet,not_true_eq_false] at hqt<;>simp only [LO.wp] at hw ⊢ <;>simp only [LO.uses,FC] at h<;>simp only [LO.dst,KS] at hk
   case store1=>
    obtain ⟨a,c,h1,h2,h3,h4,h5⟩:=hw;have e1:=QC (ρ:=ρ) (ρ':=ρ') fun s hs=>h s (.inl hs);have e2:=QC (ρ:=ρ) (ρ':=ρ') fun s hs=>h s (.inr hs);rw [←e1,←e2];exact ⟨a,c,h1,h2,h3,h4,hk undef _ h5⟩
   case storen=>
    obtain ⟨a,cs,w',h1,h2,h3,h4,h5⟩:=hw;have e1:=QC (ρ:=ρ) (ρ':=ρ') fun s hs=>h s (.inl hs);have e2:=QC (ρ:=ρ) (ρ':=ρ') fun s hs=>h s (.inr hs);rw [←e1,←e2];exact ⟨a,cs,w',h1,h2,h3,h4,hk undef _ h5⟩
   case alloc=>exact hk _ _ hw
   case box=>rw [←QC h];exact hk _ _ hw
   case call=>rw [←kT h];exact hw.mono fun e w' hc=>hp _ e w' hc hk
   case callv=>
    obtain ⟨f,fst,cap,fn,h1,h2,h3,h4,h5⟩:=hw;rw [←QC (ρ:=ρ) (ρ':=ρ') fun s hs=>h s (.inl hs),←kT (ρ:=ρ) (ρ':=ρ') fun s hs=>h s (.inr hs)];exact ⟨f,fst,cap,fn,h1,h2,h3,h4,h5.mono fun e w' hc=>hp _ e w' hc hk⟩
   case buildS=>
    rw [←rz h];obtain ⟨cs,h1,h2⟩:=hw;exact ⟨cs,h1,hk _ _ h2⟩
   case raw o=>
    unfold Px at hw ⊢;rw [←wM ht h];split at hw
    · exact hk _ _ hw
    · exact hk _ _ hw
    · exact hw.mono fun e w' hc=>by
       cases e with
       | returned v=>exact hk _ _ hc
       | panicked ch=>exact hq _ _ Js hc
       | outgrown=>exact hq _ _ Js hc
    · exact hw.mono fun v w' hc=>hk _ _ hc
    · exact hq _ _ Js hw
    · exact hw.elim

theorem rA {K K':KT}{Q Q':QT}{d:Option Nat}{ρ:KI}(hk:∀ρ w,K ρ w→K' ρ w)(hq:∀e ρ w,e≠ .normal→Q e ρ w→Q' e ρ w):∀e w',Q7 K Q d ρ w e w'→Q7 K' Q' d ρ w e w':=by
 intro e w' h
 cases e with
 | returned v=>exact hk _ _ h
 | panicked ch=>exact hq _ _ _ Js h
 | outgrown=>exact hq _ _ _ Js h

theorem mB {ρ:KI}{o:LO}{K K':KT}{Q Q':QT}(hk:∀ρ w,K ρ w→K' ρ w)(hq:∀e ρ w,e≠ .normal→Q e ρ w→Q' e ρ w)(h:o.wp P ρ w K Q):o.wp P ρ w K' Q':=by
 by_cases hqt:o.quiet=true
 · rw [kS hqt] at h ⊢;obtain ⟨v,h1,h2⟩:=h;exact ⟨v,h1,hk _ _ h2⟩
 · cases o<;>simp only [LO.quiet,not_true_eq_false] at hqt<;>simp only [LO.wp] at h ⊢
   case store1=>obtain ⟨a,c,h1,h2,h3,h4,h5⟩:=h;exact ⟨a,c,h1,h2,h3,h4,hk _ _ h5⟩
   case storen=>obtain ⟨a,c,w',h1,h2,h3,h4,h5⟩:=h;exact ⟨a,c,w',h1,h2,h3,h4,hk _ _ h5⟩
   case alloc=>exact hk _ _ h
   case box=>exact hk _ _ h
   case call=>exact h.mono (rA hk hq)
   case callv=>obtain ⟨f,fst,cap,fn,h1,h2,h3,h4,h5⟩:=h;exact ⟨f,fst,cap,fn,h1,h2,h3,h4,h5.mono (rA hk hq)⟩
   case buildS=>obtain ⟨cs,h1,h2⟩:=h;exact ⟨cs,h1,hk _ _ h2⟩
   case raw o=>
    unfold Px at h ⊢;split at h
    · exact hk _ _ h
    · exact hk _ _ h
    · exact h.mono fun e w' hc=>by
       cases e with
       | returned v=>exact hk _ _ hc
       | panicked ch=>exact hq _ _ _ Js hc
       | outgrown=>exact hq _ _ _ Js hc
    · exact h.mono fun v w' hc=>hk _ _ hc
    · exact hq _ _ _ Js h
    · exact h.elim


def GO.uses (g:GO):List Nat:=(match g.g with|some (s,_)=>[s]|none=>[])++g.o.uses
def GO.dst (g:GO):Option Nat:=g.o.dst

def Nr (P:Program)(ρ:KI)(w:World)(g:GO)(v:Value):Prop:=match g.g with
 | none=>qv P ρ w g.o v
 | some (s,b)=>if WJ (ρ s) b then qv P ρ w g.o v else v=undef

theorem kU {ρ ρ':KI}{g:GO}{v:Value}(h:∀s∈g.uses,ρ s=ρ' s)(hv:Nr P ρ w g v):Nr P ρ' w g v:=by
 obtain ⟨g,o⟩:=g
 cases g with
 | none=>exact mP (fun s hs=>h s (by simp [GO.uses,hs])) hv
 | some p=>
   obtain ⟨s,b⟩:=p;simp only [Nr] at hv ⊢;rw [←h s (by simp [GO.uses])];split
   · rename_i hw;rw [if_pos hw] at hv;exact mP (fun s hs=>h s (by simp [GO.uses,hs])) hv
   · rename_i hw;rw [if_neg hw] at hv;exact hv

theorem rB {ρ:KI}{Q:QT}{g:GO}{l:List GO}(h:g.o.quiet=true):
 Q0 P (g::l) Q ρ w↔∃v,Nr P ρ w g v∧Q0 P l Q (KS ρ g.dst v) w:=by
 obtain ⟨g,o⟩:=g
 cases g with
 | none=>simp only [Q0,Nr];exact kS h
 | some p=>
   obtain ⟨s,b⟩:=p;simp only [Q0,Nr];split
   · exact kS h
   · constructor
     · intro h;exact ⟨_,rfl,h⟩
     · rintro ⟨v,rfl,h⟩;exact h

theorem rC {ρ ρ':KI}{g:GO}{l l':List GO}{Q Q':QT}(ht:g.o.takes=true)(h:∀s∈g.uses,ρ s=ρ' s)
 (hk:∀v w',Q0 P l Q (KS ρ g.dst v) w'→Q0 P l' Q' (KS ρ' g.dst v) w')(hq:∀e w',e≠ .normal→Q e ρ w'→Q' e ρ' w')(hw:Q0 P (g::l) Q ρ w):Q0 P (g::l') Q' ρ' w:=by
 obtain ⟨g,o⟩:=g
 cases g with
 | none=>exact Cc
 | some p=>
   obtain ⟨s,b⟩:=p;simp only [Q0] at hw ⊢;rw [←h s (by simp [GO.uses])];split
   · rename_i hg;rw [if_pos hg] at hw;exact Cc
   · rename_i hg;rw [if_neg hg] at hw;exact hk _ _ hw


abbrev CI:=Nat×Option (Option (List Nat))

def LO.pureQ:LO→Bool
 | .load1 ..| .loadn ..=>false
 | o=>o.quiet

theorem rD {ρ:KI}{o:LO}{v:Value}(h:o.pureQ=true)(hv:qv P ρ w o v):qv P ρ w' o v:=by
 cases o<;>first|exact hv|(simp [LO.pureQ] at h;done)
theorem Tc {ρ:KI}{g:GO}{v:Value}(h:g.o.pureQ=true)(hv:Nr P ρ w g v):Nr P ρ w' g v:=by
 obtain ⟨g,o⟩:=g
 cases g with
 | none=>exact rD h hv
 | some p=>
   simp only [Nr] at hv ⊢;split
   · rename_i hw;rw [if_pos hw] at hv;exact rD h hv
   · rename_i hw;rw [if_neg hw] at hv;exact hv

def Td (acc:List Nat)(e:List Nat):Nat:=e.foldl (fun m j=>m|||2 ^ j|||acc.getD j 0) 0
def mQ:List (List Nat)→List Nat→List Nat
 | [],acc=>acc
 | e::es,acc=>mQ es (acc++[Td acc e])
def gH (es:List (List Nat)):List Nat:=mQ es []

def gI (es:List (List Nat))(X:List Nat):Prop:=∀k∈X,∀e∈es.getD k [],e∈X

theorem Rf (acc:List Nat)(k:Nat):∀(e:List Nat) (m0:Nat),(e.foldl (fun m j=>m|||2 ^ j|||acc.getD j 0) m0).testBit k=true→m0.testBit k=true∨∃j∈e,k=j∨(acc.getD j 0).testBit k=true:=by
 intro e
 induction e with
 | nil=>intro m0 h;exact .inl h
 | cons j e ih=>
   intro m0 h;rcases ih _ h with h|⟨j',hj',h⟩
   · simp only [Nat.testBit_or,Hs] at h
     rcases h with (h|h)|h
     · exact .inl h
     · rw [Nat.testBit_two_pow] at h;exact .inr ⟨j,by simp, .inl (by simpa using (of_decide_eq_true h).symm)⟩
     · exact .inr ⟨j,by simp, .inr h⟩
   · exact .inr ⟨j',by simp [hj'],h⟩

theorem wN (all:List (List Nat)):∀(es pre:List (List Nat)) (acc:List Nat),all=pre++es→acc.length=pre.length→
 (∀i,∀j,(acc.getD i 0).testBit j=true→∀X,gI all X→(∀e∈all.getD i [],e∈X)→j∈X)→
 ∀i j,((mQ es acc).getD i 0).testBit j=true→∀X,gI all X→(∀e∈all.getD i [],e∈X)→j∈X:=by
 intro es
 induction es with
 | nil=>intro pre acc _ _ h;exact h
 | cons e es ih=>
   intro pre acc hall hlen h;refine ih (pre++[e]) (acc++[Td acc e]) (by simp [hall]) (by simp [hlen]) ?_;intro i j hb X hX he;simp only [E9,List.getElem?_append] at hb;split at hb
   · exact h i j (by simpa [E9] using hb) X hX he
   · rename_i hi
     by_cases hi':i=acc.length
     · subst hi'
       simp only [Hk,FQ,GS] at hb;have hei:all.getD acc.length []=e:=(by rw [hlen,hall];simp [E9]);rw [hei] at he;rcases Rf acc j e 0 hb with hb|⟨j',hj',rfl|hb⟩
       · simp at hb
       · exact he _ hj'
       · exact h j' j hb X hX (hX j' (he j' hj'))
     · rw [FI Di] at hb;simp at hb

theorem wO {es:List (List Nat)}{i:Nat}(h:((gH es).getD i 0).testBit j=true){X:List Nat}(hX:gI es X)(he:∀e∈es.getD i [],e∈X):j∈X:=
 wN es es [] [] rfl rfl (by intro i j h;simp at h) i j h X hX he

section
variable (P:Program) (gs:List GO)

def K5 (i:Nat):GO:=gs.getD i GO.nop

def mR (Q:QT):QT:=fun e _ w'=>∀ρ'',Q e ρ'' w'

def OI:List CI→QT→KI→World→Prop
 | [],Q,ρ,w=>Q .normal ρ w
 | (i,none)::rest,Q,ρ,w=>Q0 P [K5 gs i] (Qs (OI rest Q) Q) ρ w
 | (i,some none)::rest,Q,ρ,w=>Q0 P [K5 gs i] (Qs (OI rest Q) Q) ρ w
 | (i,some (some fl))::rest,Q,ρ,w=>
   Q0 P [K5 gs i] (Qs (fun ρ' w'=>(∀q∈fl,Nr P ρ w' (K5 gs q) (ρ ((K5 gs q).dst.getD 0)))∧OI rest Q ρ' w') (mR Q)) ρ w
end

def fm (a b:GO):Bool:=(match b.dst with|some d=> !a.uses.contains d && !(a.dst==some d)|none=>true)
def fo (a b:GO):Bool:=(match a.dst with|some d=> !b.uses.contains d|none=>true)

def Te (gs:List GO)(ms:List Nat)(a b:CI):Bool:=
 let r:=(ms.getD b.1 0).testBit a.1
 match a.2,b.2 with
 | none,some none=>r
 | none,some (some fl)=>r||((fl.contains a.1||(K5 gs a.1).o.pureQ) && fm (K5 gs a.1) (K5 gs b.1) && fo (K5 gs a.1) (K5 gs b.1))
 | some _,_=>r
 | none,none=>fm (K5 gs a.1) (K5 gs b.1) && (r||fo (K5 gs a.1) (K5 gs b.1))

def Xh (gs:List GO)(a:CI):Bool:=decide (a.1<gs.length) && (match a.2 with
 | none=>(K5 gs a.1).o.quiet && (match (K5 gs a.1).dst with|some d=> !(K5 gs a.1).uses.contains d|none=>false)
 | some _=>(K5 gs a.1).o.takes)

def WK (gs:List GO)(ms:List Nat):List CI→Bool
 | []=>true
 | a::l=>Xh gs a && l.all (fun b=>Te gs ms a b && !(a.1==b.1)) && WK gs ms l

def aT (gs:List GO)(es:List (List Nat))(C:List CI):Bool:=
 decide (es.length=gs.length) && WK gs (gH es) C && (List.range gs.length).all fun i=>(C.map (·.1)).contains i

structure J (P:Program) (gs:List GO) (es:List (List Nat)) (C:List CI) (Q:QT) (X:List Nat) (ρS:KI) (w:World) (D rest:List CI) (ρC:KI):Prop where
 hC:C=D++rest
 hX1:∀i∈X,∃k,(i,k)∈D
 hX2:∀c∈D,c.2.isSome=true→c.1∈X
 hcl:gI es X
 hslot:∀s,(∀c∈D,c.1∉X→(K5 gs c.1).dst≠some s)→ρS s=ρC s
 hpend:∀c∈D,c.1∉X→Nr P ρC w (K5 gs c.1) (ρC ((K5 gs c.1).dst.getD 0))
 hcan:OI P gs rest Q ρC w

theorem gJ {gs:List GO}:∀{D rest:List CI},WK gs ms (D++rest)=true→∀a∈D,∀b∈rest,Te gs ms a b=true∧a.1≠b.1:=by
 intro D
 induction D with
 | nil=>intro rest _ a ha;cases ha
 | cons c D ih=>
   intro rest h a ha b hb;simp only [Gu,WK,Fj] at h;rcases FA.1 ha with rfl|ha
   · have:=Gb.1 h.1.2 b (by simp [hb]);simp only [Fj,GH,beq_eq_false_iff_ne] at this;exact this
   · exact ih h.2 a ha b hb

theorem kV {gs:List GO}:∀{C:List CI},WK gs ms C=true→∀a∈C,Xh gs a=true:=by
 intro C
 induction C with
 | nil=>intro _ a ha;cases ha
 | cons c C ih=>
   intro h a ha;simp only [WK,Fj] at h;rcases FA.1 ha with rfl|ha
   · exact h.1.1
   · exact ih h.2 a ha

theorem Pz {gs:List GO}:∀{C:List CI},WK gs ms C=true→∀a∈C,∀b∈C,a=b∨(Te gs ms a b=true∧a.1≠b.1)∨(Te gs ms b a=true∧b.1≠a.1):=by
 intro C
 induction C with
 | nil=>intro _ a ha;cases ha
 | cons c C ih=>
   intro h a ha b hb;simp only [WK,Fj] at h
   have hall:∀x∈C,Te gs ms c x=true∧c.1≠x.1:=by
    intro x hx;have:=Gb.1 h.1.2 x hx
    simpa [Fj] using this
   rcases FA.1 ha with hac|ha
   · rcases FA.1 hb with hbc|hb
     · exact .inl (hac.trans hbc.symm)
     · rw [hac];exact .inr (.inl (hall b hb))
   · rcases FA.1 hb with hbc|hb
     · rw [hbc];exact .inr (.inr (hall a ha))
     · exact ih h.2 a ha b hb

theorem mT {a b:GO}(h:fm a b=true)(hd:b.dst=some d):d∉a.uses∧a.dst≠some d:=by
 unfold fm at h;rw [hd] at h;simp only [Fj,GH,Hz,decide_eq_false_iff_not,beq_eq_false_iff_ne] at h;exact h
theorem rE {a b:GO}(h:fo a b=true)(hd:a.dst=some d):d∉b.uses:=by
 unfold fo at h;rw [hd] at h
 simpa using h

theorem Xi {ρ:KI}{d:Option Nat}{v:Value}(h:d≠some s):KS ρ d v s=ρ s:=by
 cases d with
 | none=>rfl
 | some d=>
   have:s≠d:=fun e=>h (by rw [e]);simp only [KS,upd];cases hb:Nat.beq s d
   · rfl
   · exact absurd (Ij hb) this
theorem kW {ρ:KI}{v:Value}:KS ρ (some s) v s=v:=by
 simp [KS,upd,Nat.beq_refl]

theorem J.advance {gs:List GO}{es:List (List Nat)}{C:List CI}{Q:QT}{X:List Nat}{ρS:KI}(hok:WK gs (gH es) C=true):
 ∀(rest D:List CI) (ρC:KI),J P gs es C Q X ρS w D rest ρC→∃D' rest' ρC',J P gs es C Q X ρS w D' rest' ρC'∧(rest'=[]∨∃f fl r,rest'=(f,some fl)::r):=by
 intro rest
 induction rest with
 | nil=>intro D ρC h;exact ⟨D,[],ρC,h, .inl rfl⟩
 | cons c rest ih=>
   intro D ρC h;obtain ⟨i,k⟩:=c
   cases k with
   | some fl=>exact ⟨D,_,ρC,h, .inr ⟨i,fl,rest,rfl⟩⟩
   | none=>
     have hiC:(i,none)∈C:=(by rw [h.hC];simp);have h1:=kV hok _ hiC;simp only [Xh,Fj] at h1;obtain ⟨_,hq,hd⟩:=h1
     cases hdst:(K5 gs i).dst with
     | none=>simp [hdst] at hd
     | some d=>
       simp only [hdst,GH,Hz,decide_eq_false_iff_not] at hd;have hcan:=h.hcan;simp only [OI] at hcan;obtain ⟨v,hv,hcan⟩:=(rB hq).1 hcan;simp only [Q0,Qs] at hcan;have hsplit:=gJ (D:=D) (rest:=(i,none)::rest) (by rw [←h.hC];exact hok)
       have hiX:i∉X:=by
        intro hx;obtain ⟨k,hk⟩:=h.hX1 i hx;exact (hsplit _ hk (i,none) Js).2 rfl
       -- what is pending ahead of i
       have hind:∀c∈D,c.1∉X→d∉(K5 gs c.1).uses∧(K5 gs c.1).dst≠some d:=by
        intro c hc hcX;have hp:=(hsplit c hc (i,none) Js).1
        have hcn:c.2=none:=by
         cases hk:c.2 with
         | none=>rfl
         | some fl=>exact absurd (h.hX2 c hc (by simp [hk])) hcX
        simp only [Te,hcn,Fj] at hp;exact mT hp.1 hdst
       refine ih (D++[(i,none)]) (KS ρC (K5 gs i).dst v) ?_;refine ⟨by rw [h.hC];simp,?_,?_,h.hcl,?_,?_,hcan⟩
       · intro j hj;obtain ⟨k,hk⟩:=h.hX1 j hj;exact ⟨k,by simp [hk]⟩
       · intro c hc hs
         rcases FC.1 hc with hc|hc
         · exact h.hX2 c hc hs
         · simp only [F7] at hc;subst hc;simp at hs
       · intro s hs;have hds:(K5 gs i).dst≠some s:=hs (i,none) Js hiX;rw [Xi hds];exact h.hslot s fun c hc=>hs c DM
       · intro c hc hcX
         rcases FC.1 hc with hc|hc
         · obtain ⟨h2,h3⟩:=hind c hc hcX
           have he:∀s∈(K5 gs c.1).uses,ρC s=KS ρC (K5 gs i).dst v s:=by
            intro s hs;rw [Xi];rw [hdst];intro e;simp only [Fq] at e;subst e;exact h2 hs
           have hdc:KS ρC (K5 gs i).dst v ((K5 gs c.1).dst.getD 0)=ρC ((K5 gs c.1).dst.getD 0):=by
            rw [Xi];rw [hdst];intro e;simp only [Fq] at e;have hcC:=kV hok c (by rw [h.hC];simp [hc])
            have hcn:c.2=none:=by
             cases hk:c.2 with
             | none=>rfl
             | some fl=>exact absurd (h.hX2 c hc (by simp [hk])) hcX
            simp only [Xh,hcn,Fj] at hcC
            cases hdc:(K5 gs c.1).dst with
            | none=>simp [hdc] at hcC
            | some d'=>rw [hdc] at e h3;simp at e;subst e;exact h3 rfl
           rw [hdc];exact kU he (h.hpend c hc hcX)
         · simp only [F7] at hc
           subst hc
           have he:∀s∈(K5 gs i).uses,ρC s=KS ρC (K5 gs i).dst v s:=by
            intro s hs;rw [Xi];rw [hdst];intro e;simp only [Fq] at e;subst e;exact hd hs
           have hval:KS ρC (K5 gs i).dst v ((K5 gs i).dst.getD 0)=v:=(by rw [hdst];exact kW);simp only [hval];exact kU he hv

theorem wP {gs:List GO}{es:List (List Nat)}{C:List CI}{Q:QT}(hlen:es.length=gs.length)(hok:WK gs (gH es) C=true)(hall:∀i,i<gs.length→∃k,(i,k)∈C):
 ∀(l X:List Nat) (ρS:KI) (w:World) (D rest:List CI) (ρC:KI),Sb es X l→J P gs es C Q X ρS w D rest ρC→Q0 P (l.map (K5 gs)) Q ρS w:=by
 intro l
 induction l with
 | nil=>
   intro X ρS w D rest ρC hl hJ;obtain ⟨D,rest,ρC,hJ,hr⟩:=J.advance hok rest D ρC hJ;simp only [Sb] at hl;have hX:∀i,i<gs.length→i∈X:=fun i hi=>hl i Jo;have hone:=kV hok
   have hrest:rest=[]:=by
    rcases hr with hr|⟨f,fl,r,hr⟩
    · exact hr
    · exfalso;have hf:=hone (f,some fl) (by rw [hJ.hC,hr];simp);simp only [Xh,Fj,decide_eq_true_eq] at hf;obtain ⟨k,hk⟩:=hJ.hX1 f (hX f hf.1);exact (gJ (D:=D) (rest:=rest) Ew _ hk (f,some fl) (by rw [hr];simp)).2 rfl
   have hpe:ρS=ρC:=funext fun s=>hJ.hslot s fun c hc hcX=>by
    have hf:=hone c Er;simp only [Xh,Fj,decide_eq_true_eq] at hf;exact absurd (hX c.1 hf.1) hcX
   have hcan:=hJ.hcan;rw [hrest] at hcan;simp only [OI] at hcan;rw [hpe];exact hcan
 | cons i l ih=>
   intro X ρS w D rest ρC hl hJ;obtain ⟨D,rest,ρC,hJ,hr⟩:=J.advance hok rest D ρC hJ;simp only [Sb] at hl;obtain ⟨hil,hiX,hie,hl⟩:=hl;obtain ⟨k,hiC⟩:=hall i Jo;have hone:=kV hok
   have hcl':gI es (i::X):=by
    intro j hj e he;rcases FA.1 hj with rfl|hj
    · exact FA.2 (.inr (hie e he))
    · exact FA.2 (.inr (hJ.hcl j hj e he))
   have hanc:∀j,((gH es).getD i 0).testBit j=true→j∈X:=fun j hj=>wO hj hJ.hcl hie
   have hpq:∀c∈D,c.1∉X→c.2=none:=by
    intro c hc hcX
    cases hk:c.2 with
    | none=>rfl
    | some fl=>exact absurd (hJ.hX2 c hc (by simp [hk])) hcX
   rw [hJ.hC] at hiC;simp only [Gy];rcases FC.1 hiC with hiD|hiR
   · -- it was done in the canonical run
     have hkn:k=none:=hpq (i,k) hiD hiX;subst hkn;have ho:=hone (i,none) (by rw [hJ.hC];simp [hiD]);simp only [Xh,Fj] at ho;obtain ⟨_,hq,hd⟩:=ho;have hp:=hJ.hpend (i,none) hiD hiX;simp only at hp
     cases hdst:(K5 gs i).dst with
     | none=>simp [hdst] at hd
     | some d=>
       simp only [hdst,GH,Hz,decide_eq_false_iff_not] at hd;rw [hdst,GS] at hp
       have huse:∀s∈(K5 gs i).uses,ρC s=ρS s:=by
        intro s hs;refine (hJ.hslot s fun c hc hcX hcd=>?_).symm;have hcn:=hpq c hc hcX;have hcC:c∈C:=Er;have hiC':(i,none)∈C:=(by rw [hJ.hC];simp [hiD]);rcases Pz hok c hcC (i,none) hiC' with rfl|⟨h1,_⟩|⟨h1,_⟩
        · rw [hdst] at hcd;simp only [Fq] at hcd;subst hcd;exact hd hs
        · simp only [Te,hcn,Fj,Hs] at h1
          rcases h1.2 with h2|h2
          · exact hcX (hanc _ h2)
          · exact rE h2 hcd hs
        · simp only [Te,hcn,Fj] at h1;exact (mT h1.1 hcd).1 hs
       refine (rB hq).2 ⟨ρC d,kU huse hp,?_⟩;refine ih (i::X) _ w D rest ρC hl ⟨hJ.hC,?_,?_,hcl',?_,?_,hJ.hcan⟩
       · intro j hj
         rcases FA.1 hj with rfl|hj
         · exact ⟨none,hiD⟩
         · exact hJ.hX1 j hj
       · intro c hc hs;exact FA.2 (.inr (hJ.hX2 c hc hs))
       · intro s hs
         by_cases hsd:s=d
         · subst hsd;rw [hdst,kW]
         · rw [Xi (by rw [hdst];intro e;simp only [Fq] at e;exact hsd e.symm)]
           refine hJ.hslot s fun c hc hcX=>?_;by_cases hci:c.1=i
           · rw [hci,hdst];intro e;simp only [Fq] at e;exact hsd e.symm
           · exact hs c hc (by simp [hci,hcX])
       · intro c hc hcX;exact hJ.hpend c hc fun h=>hcX (FA.2 (.inr h))
   · -- it stands ahead:it is the next one
     rcases hr with hr|⟨f,fl,r,hr⟩
     · rw [hr] at hiR;cases hiR
     · subst hr
       have hfX:f∉X:=by
        intro hx;obtain ⟨k',hk'⟩:=hJ.hX1 f hx;exact (gJ (D:=D) (rest:=(f,some fl)::r) Ew _ hk' (f,some fl) Js).2 rfl
       have hif:(i,k)=(f,some fl):=by
        rcases FA.1 hiR with h|h
        · exact h
        · exfalso;have hsp:=gJ (D:=D++[(f,some fl)]) (rest:=r) (by rw [hJ.hC] at hok;simpa using hok);have hp:=(hsp (f,some fl) Js (i,k) h).1;simp only [Te] at hp;exact hfX (hanc f hp)
       simp only [G4] at hif;obtain ⟨rfl,rfl⟩:=hif;have ho:=hone (i,some fl) (by rw [hJ.hC];simp);simp only [Xh,Fj] at ho;have hsp:=gJ (D:=D) (rest:=(i,some fl)::r) Ew
       -- behind the fenced operation
       have done:∀(v:Value) (w':World),(∀c∈D,c.1∉X→(fm (K5 gs c.1) (K5 gs i)=true∧fo (K5 gs c.1) (K5 gs i)=true)∧Nr P ρC w' (K5 gs c.1) (ρC ((K5 gs c.1).dst.getD 0)))→
        OI P gs r Q (KS ρC (K5 gs i).dst v) w'→Q0 P (l.map (K5 gs)) Q (KS ρS (K5 gs i).dst v) w':=by
        intro v w' hst hk;refine ih (i::X) _ w' (D++[(i,some fl)]) r _ hl ⟨by rw [hJ.hC];simp,?_,?_,hcl',?_,?_,hk⟩
        · intro j hj
          rcases FA.1 hj with rfl|hj
          · exact ⟨some fl,by simp⟩
          · obtain ⟨k,hk⟩:=hJ.hX1 j hj;exact ⟨k,by simp [hk]⟩
        · intro c hc hs
          rcases FC.1 hc with hc|hc
          · exact FA.2 (.inr (hJ.hX2 c hc hs))
          · simp only [F7] at hc;subst hc;simp
        · intro s hs
          by_cases hsd:(K5 gs i).dst=some s
          · rw [hsd,kW,kW]
          · rw [Xi hsd,Xi hsd]
            refine hJ.hslot s fun c hc hcX=>hs c DM ?_;intro hm;rcases FA.1 hm with h|h
            · exact (hsp c hc (i,some fl) Js).2 h
            · exact hcX h
        · intro c hc hcX
          rcases FC.1 hc with hc|hc
          · have hcX':c.1∉X:=fun h=>hcX (FA.2 (.inr h))
            obtain ⟨⟨h2,h3⟩,hs⟩:=hst c hc hcX';have hcC:=hone c Er;simp only [Xh,hpq c hc hcX',Fj] at hcC
            have hind:∀s,((s∈(K5 gs c.1).uses)∨(K5 gs c.1).dst=some s)→(K5 gs i).dst≠some s:=by
             intro s hs hd;have:=mT h2 hd;rcases hs with hs|hs
             · exact this.1 hs
             · exact this.2 hs
            have hdc:KS ρC (K5 gs i).dst v ((K5 gs c.1).dst.getD 0)=ρC ((K5 gs c.1).dst.getD 0):=by
             cases hd:(K5 gs c.1).dst with
             | none=>simp [hd] at hcC
             | some d'=>rw [Xi (hind _ (.inr (by rw [hd];rfl)))]
            rw [hdc];exact kU (fun s hs=>(Xi (hind s (.inl hs))).symm) hs
          · simp only [F7] at hc;subst hc;exact absurd (FA.2 (.inl rfl)) hcX
       have hcan:=hJ.hcan
       cases fl with
       | none=>
         have hnone:∀c∈D,¬(c.1∉X):=by
          intro c hc hcX;have hp:=(hsp c hc (i,some none) Js).1;simp only [Te,hpq c hc hcX] at hp;exact hcX (hanc _ hp)
         have hpe:ρS=ρC:=funext fun s=>hJ.hslot s fun c hc hcX=>absurd hcX (hnone c hc);simp only [OI] at hcan;refine rC ho.2 (fun s hs=>by rw [hpe]) ?_ ?_ hcan
         · intro v w' hk;simp only [Q0,Qs] at hk;exact done v w' (fun c hc hcX=>absurd hcX (hnone c hc)) hk
         · intro e w' hne hq;rw [hpe];cases e<;>first|exact hq|exact absurd rfl hne
       | some fl=>
         simp only [OI] at hcan
         have hfloat:∀c∈D,c.1∉X→(c.1∈fl∨(K5 gs c.1).o.pureQ=true)∧fm (K5 gs c.1) (K5 gs i)=true∧fo (K5 gs c.1) (K5 gs i)=true:=by
          intro c hc hcX;have hp:=(hsp c hc (i,some (some fl)) Js).1;simp only [Te,hpq c hc hcX,Hs,Fj] at hp;rcases hp with hp|⟨⟨h1,h2⟩,h3⟩
          · exact absurd (hanc _ hp) hcX
          · exact ⟨h1.imp Js id,h2,h3⟩
         refine rC ho.2 (fun s hs=>(hJ.hslot s fun c hc hcX hcd=>rE (hfloat c hc hcX).2.2 hcd hs).symm) ?_ ?_ hcan
         · intro v w' hk
           simp only [Q0,Qs] at hk;obtain ⟨hst,hk⟩:=hk;refine done v w' (fun c hc hcX=>?_) hk;obtain ⟨h1,h2,h3⟩:=hfloat c hc hcX;refine ⟨⟨h2,h3⟩,?_⟩;rcases h1 with h1|h1
           · exact hst c.1 h1
           · exact Tc h1 (hJ.hpend c hc hcX)
         · intro e w' hne hq;(have hq':mR Q e ρC w':=by cases e<;>first|exact hq|exact absurd rfl hne);exact hq' ρS

theorem rF {gs:List GO}{es:List (List Nat)}{Q:QT}{ρ:KI}(C:List CI)(hok:aT gs es C=true)(h:OI P gs C Q ρ w.drew):(LC.draw gs es).wp P Q ρ w:=by
 simp only [aT,Fj,decide_eq_true_eq] at hok;obtain ⟨⟨hlen,hp⟩,hall⟩:=hok;intro l hl;refine wP hlen hp ?_ l [] ρ w.drew [] C ρ hl ⟨by simp,Js,Js,(fun k hk=>absurd hk Js),(fun s _=>rfl),Js,h⟩;intro i hi;have:=Gb.1 hall i DW;simp only [Hz,decide_eq_true_eq,FU] at this;obtain ⟨⟨j,k⟩,hc,rfl⟩:=this;exact ⟨k,hc⟩

theorem wQ {gs:List GO}{Q:QT}:∀(C:List CI),(C.all fun c=>match c.2 with|some (some _)=>false|_=>true)=true→∀ρ w,Q0 P (C.map fun c=>K5 gs c.1) Q ρ w→OI P gs C Q ρ w:=by
 intro C
 induction C with
 | nil=>intro _ ρ w h;exact h
 | cons c C ih=>
   intro hc ρ w h;simp only [List.all_cons,Fj] at hc;obtain ⟨i,k⟩:=c
   have key:∀{g:GO}{l:List GO}{K:KT} {ρ w},(∀ρ w,Q0 P l Q ρ w→K ρ w)→Q0 P (g::l) Q ρ w→Q0 P [g] (Qs K Q) ρ w:=by
    intro g l K ρ w hk h
    have hwp:∀{o:LO} {ρ w},o.wp P ρ w (Q0 P l Q) Q→o.wp P ρ w (Q0 P [] (Qs K Q)) (Qs K Q):=by
     intro o ρ w h;exact mB (fun ρ w h=>hk ρ w h) (fun e ρ w hne h=>by cases e<;>first|exact h|exact absurd rfl hne) h
    obtain ⟨g,o⟩:=g
    cases g with
    | none=>exact hwp h
    | some p=>
      obtain ⟨s,b⟩:=p;simp only [Q0] at h ⊢;split
      · rename_i hg;rw [if_pos hg] at h;exact hwp h
      · rename_i hg;rw [if_neg hg] at h;exact hk _ _ h
   simp only [Gy] at h
   cases k with
   | none=>exact key (fun ρ w h=>ih hc.2 ρ w h) h
   | some fl=>
     cases fl with
     | some fl=>simp at hc
     | none=>exact key (fun ρ w h=>ih hc.2 ρ w h) h

theorem wR {gs:List GO}{es:List (List Nat)}{Q:QT}{ρ:KI}(C:List CI)(hok:aT gs es C=true)
 (hpl:(C.all fun c=>match c.2 with|some (some _)=>false|_=>true)=true)(h:Q0 P (C.map fun c=>K5 gs c.1) Q ρ w.drew):(LC.draw gs es).wp P Q ρ w:=
 rF C hok (wQ C hpl _ _ h)

end
end Go.Lir
namespace Go.Lir
open Go.RowKit (Below)

abbrev KL:=Array Obj

def Lj (H:KL)(b:Nat)(T:TypeId)(cs:List Value):Prop:=∃fz,H[b]?=some (.cells ⟨cs⟩ T fz)∧(∀i,fz.1≤i→i<fz.2→cs.length≤i)∧fz.1≤fz.2

structure Fr (F:Nat→Prop) (w w':World):Prop where
 os:w'.os=w.os
 tape:w'.tape=w.tape
 output:w'.output=w.output
 size:w.heap.size≤w'.heap.size
 same:∀b,b<w.heap.size→¬F b→w'.heap[b]?=w.heap[b]?

abbrev NF:Nat→Prop:=fun _=>False

theorem Fr.refl (F:Nat→Prop)(w:World):Fr F w w:=⟨rfl,rfl,rfl,FE _,fun _ _ _=>rfl⟩
abbrev HN:=@Fr.refl
theorem Fr.drew {F:Nat→Prop}(h:Fr F w.drew w'):Fr F w w':=⟨h.os,h.tape,h.output,h.size,h.same⟩
theorem Fr.drew' {F:Nat→Prop}(h:Fr F w w'):Fr F w w'.drew:=⟨h.os,h.tape,h.output,h.size,h.same⟩
abbrev JM:=@Fr.drew'
theorem Fr.mono {F:Nat→Prop}(h:Fr F w w')(hs:∀b,b<w.heap.size→F b→G b):Fr G w w':=
 ⟨h.os,h.tape,h.output,h.size,fun b hb hg=>h.same b hb fun hf=>hg (hs b hb hf)⟩
theorem Fr.trans {F:Nat→Prop}(h:Fr F w w')(k:Fr G w' w'')(hs:∀b,b<w.heap.size→G b→F b):Fr F w w'':=
 ⟨k.os.trans h.os,k.tape.trans h.tape,k.output.trans h.output,GL h.size k.size,fun b hb hf=>
   (k.same b (G7 hb h.size) fun hg=>hf (hs b hb hg)).trans (h.same b hb hf)⟩
theorem Fr.below (h:Fr NF w w'):Below w.heap.size w w':=⟨h.os,h.tape,h.output,h.size,fun k hk=>h.same k hk (fun h=>h)⟩
theorem Fr.any {F:Nat→Prop}(h:Fr NF w w'):Fr F w w':=h.mono fun _ _ h=>h.elim

theorem Lj.lt {H:KL}(h:Lj H b T cs):b<H.size:=by
 obtain ⟨fz,h,_⟩:=h;rcases GD b H.size with h'|h'
 · exact h'
 · simp [GP h'] at h
theorem Lj.of_same {H H':KL}(h:Lj H b T cs)(he:H'[b]?=H[b]?):Lj H' b T cs:=by
 obtain ⟨fz,h,h2⟩:=h;exact ⟨fz,he.trans h,h2⟩
theorem Lj.fr {F:Nat→Prop}(h:Lj w.heap b T cs)(hf:Fr F w w')(hn:¬F b):Lj w'.heap b T cs:=
 h.of_same (hf.same b h.lt hn)
theorem Lj.inj {H:KL}(h:Lj H b T cs)(h':Lj H b T' cs'):T=T'∧cs=cs':=by
 obtain ⟨fz,h,_⟩:=h;obtain ⟨fz',h',_⟩:=h';rw [h] at h';simp only [Fq,Obj.cells.injEq,Array.mk.injEq] at h';exact ⟨h'.2.1,h'.1⟩
theorem Lj.cell {i:Nat}{v:Value}(h:Lj w.heap b T cs)(hv:cs[i]?=some v):w.cell? ⟨b,i,none⟩=some v:=by
 obtain ⟨fz,h,_⟩:=h;simp [World.cell?,h,hv]
theorem Lj.free {i:Nat}(h:Lj w.heap b T cs)(hi:i<cs.length):w.frozen? ⟨b,i,none⟩=false:=by
 obtain ⟨⟨lo,hi'⟩,h,h2⟩:=h;simp only [World.frozen?,h];have:=h2.1 i;simp only at this;simp only [Bool.and_eq_false_iff,decide_eq_false_iff_not];omega

theorem Pe (b o n:Nat):(Addr.mk b o none).add n=⟨b,o+n,none⟩:=by
 unfold Addr.add;split
 · rename_i h;subst h;rfl
 · rfl

theorem Lj.cells {o:Nat}(h:Lj w.heap b T cs)(hv:(cs.drop o).take n=vs)(hl:vs.length=n):ZJ w ⟨b,o,none⟩ n vs:=by
 refine ⟨hl,fun j hj=>?_⟩;rw [Pe];have:vs[j]?=cs[o+j]?:=(by rw [←hv,F5 hj,G8]);rw [this]
 have hlt:o+j<cs.length:=by
  have h1:vs.length=min n (cs.length - o):=(by rw [←hv];simp);omega
 rw [E7 hlt];exact h.cell (E7 hlt)

theorem kX (w:World)(b i:Nat)(v:Value):Fr (· =b) w (w.setCell ⟨b,i,none⟩ v):=by
 refine ⟨rfl,rfl,rfl,by simp,fun k _ hk=>?_⟩;simp only [World.setCell,JH];rw [if_neg (fun e=>hk e.symm)]
theorem Lj.set {i:Nat}{v:Value}(h:Lj w.heap b T cs):Lj (w.setCell ⟨b,i,none⟩ v).heap b T (cs.set i v):=by
 obtain ⟨fz,h,h2⟩:=h;refine ⟨fz,?_,by simpa using h2.1,h2.2⟩;simp only [World.setCell,JH,h,if_true,Gd,J2];simp

theorem aU (w:World)(o:Obj):Fr NF w (w.alloc o):=by
 refine ⟨rfl,rfl,rfl,by simp,fun k hk _=>?_⟩;simp only [World.alloc,Array.getElem?_push];rw [if_neg Jo]
theorem fp (w:World)(cs:List Value)(T:TypeId):Lj (w.alloc (.cells ⟨cs⟩ T)).heap w.heap.size T cs:=by
 refine ⟨(0,0),?_,⟨fun i h1 h2=>by simp at h2,by simp⟩⟩;show (w.heap.push _)[w.heap.size]?=_;simp

theorem mU (P:Program)(b:Nat)(T:TypeId):∀(vs:List Value) (w:World) (cs:List Value) (o i:Nat),Lj w.heap b T cs→o+i+vs.length≤cs.length→(∀v∈vs,oneC v=true)→
 ∃w',(storeCells ⟨b,o,none⟩ vs i).run P w= .ok () w'∧Fr (· =b) w w'∧w'.heap.size=w.heap.size∧Lj w'.heap b T (cs.take (o+i)++(vs++cs.drop (o+i+vs.length))):=by
 intro vs
 induction vs with
 | nil=>intro w cs o i h _ _;exact ⟨w,by simp [storeCells],HN _ _,rfl,by simpa using h⟩
 | cons v vs ih=>
   intro w cs o i h hl ho;simp only [Fk] at hl;have h1:=ho v Js;have h1':v.oneCell'=true:=(by cases v<;>simp_all [Value.oneCell',oneC]);have hc:w.cell? ⟨b,o+i,none⟩=some (cs[o+i]' Df):=h.cell (E7 Jo);have hf:=h.free (w:=w) (i:=o+i) Jo;obtain ⟨w',h2,h3,h4,h5⟩:=ih (w.setCell ⟨b,o+i,none⟩ v) (cs.set (o+i) v) o (i+1) h.set Di (fun x hx=>ho x DO);refine ⟨w',?_,(kX w b (o+i) v).trans h3 (fun _ _ h=>h),h4.trans Js,?_⟩
   · simp only [storeCells,FH,Pe,run_store P w _ _ .plain h1',hc,hf,Fs,if_false,Fp];exact h2
   · have e:cs.take (o+i)++(v::vs++cs.drop (o+i+(v::vs).length))=(cs.set (o+i) v).take (o+(i+1))++(vs++(cs.set (o+i) v).drop (o+(i+1)+vs.length)):=by
      have hlt:o+i<cs.length:=Df;rw [GV,if_pos hlt];have hm:(cs.take (o+i)).length=o+i:=by simp;omega
      have e1:List.take (o+(i+1)) (cs.take (o+i)++v::cs.drop (o+i+1))=cs.take (o+i)++[v]:=by
       rw [IN,hm,FM Jo,show o+(i+1) - (o+i)=1 by omega];rfl
      have e2:List.drop (o+(i+1)+vs.length) (cs.take (o+i)++v::cs.drop (o+i+1))=cs.drop (o+i+(v::vs).length):=by
       rw [IJ,hm,Fh Jo,show o+(i+1)+vs.length - (o+i)=vs.length+1 by omega];simp [Jt,Iy,GR]
      rw [e1,e2];simp
     rw [e];exact h5

end Go.Lir
namespace Go.Lir
section

def Se (ρ:KI):List (Nat×Value)→KI
 | []=>ρ
 | (i,v)::l=>upd (Se ρ l) i v
def Kn (ρ:KI):List (Nat×Value)→Prop
 | []=>True
 | (i,v)::l=>ρ i=v∧Kn ρ l

theorem Tf {ρ:KI}{i:Nat}{v:Value}(h:ρ i=v):upd ρ i v=ρ:=by
 funext j;unfold upd;cases hb:Nat.beq j i
 · rfl
 · have:=Ij hb;subst this;exact h.symm
theorem mV {ρ:KI}:∀{l:List (Nat×Value)},Kn ρ l→Se ρ l=ρ:=by
 intro l
 induction l with
 | nil=>intro _;rfl
 | cons p l ih=>obtain ⟨i,v⟩:=p;rintro ⟨h1,h2⟩;simp only [Se,ih h2,Tf h1]
theorem fq {ρ:KI}(l:List (Nat×Value))(h:Kn ρ l):∃ρ',ρ=Se ρ' l:=⟨ρ,(mV h).symm⟩

theorem fw {n:Int}(h1: -9223372036854775808≤n)(h2:n≤9223372036854775807):IntKind.i64.wrap n=n:=by
 have e:IntKind.i64.wrap n=if n % 18446744073709551616≥9223372036854775808 then n % 18446744073709551616 - 18446744073709551616 else n % 18446744073709551616:=by
  unfold IntKind.wrap;simp [IntKind.bits,IntKind.signed]
 rw [e];split<;>omega

section
variable {P:Program}{l:List GO}{Q:QT}{K:KT}{ρ:KI}{w:World}

theorem RF (h:Q .normal ρ w):Q0 P [] Q ρ w:=h
theorem LS {l:List GO}{h:Q0 P l Q ρ w}:(LC.ops l).wp P Q ρ w:=h
theorem QA {a b:LC}(h:a.wp P (Qs (b.wp P Q) Q) ρ w):(LC.seq a b).wp P Q ρ w:=h
theorem aV {h:Q .normal ρ w}:LC.skip.wp P Q ρ w:=h
theorem ZM {h:Q .ret ρ w}:LC.ret.wp P Q ρ w:=h
theorem aW {h:Q (.exit id) ρ w}:(LC.exit id).wp P Q ρ w:=h
theorem WL {a:LC}{h:a.wp P (Qi id Q) ρ w}:(LC.block id a).wp P Q ρ w:=h
theorem rG {c:Operand}{a b:LC}{t:Bool}(hc:ρ.ev c= .bool t)(h1:t=true→a.wp P Q ρ w)(h2:t=false→b.wp P Q ρ w):(LC.cond c a b).wp P Q ρ w:=by
 refine ⟨t,hc,?_⟩;cases t
 · exact h2 rfl
 · exact h1 rfl
theorem Aa {c:Operand}{a b:LC}{t:Bool}(hc:ρ.ev c= .bool t:=by rfl){h1:t=true→a.wp P Q ρ w}{h2:t=false→b.wp P Q ρ w}:(LC.cond c a b).wp P Q ρ w:=rG hc h1 h2
theorem Tg {c:Operand}{a b:LC}(hc:ρ.ev c= .bool true)(h:a.wp P Q ρ w):(LC.cond c a b).wp P Q ρ w:=⟨true,hc,h⟩
theorem Ti {c:Operand}{a b:LC}(hc:ρ.ev c= .bool false)(h:b.wp P Q ρ w):(LC.cond c a b).wp P Q ρ w:=⟨false,hc,h⟩
theorem Qh {c:Operand}{a b:LC}{p:Prop}[Decidable p](hc:ρ.ev c= .bool (decide p))(h1:p→a.wp P Q ρ w)(h2:¬p→b.wp P Q ρ w):(LC.cond c a b).wp P Q ρ w:=
 rG hc (fun h=>h1 (of_decide_eq_true h)) (fun h=>h2 (of_decide_eq_false h))
theorem Ab {c:Operand}{a b:LC}{p:Prop}[Decidable p](hc:ρ.ev c= .bool (decide p):=by rfl){h1:p→a.wp P Q ρ w}{h2:¬p→b.wp P Q ρ w}:(LC.cond c a b).wp P Q ρ w:=Qh hc h1 h2
theorem fx {a:LC}(I:KI→World→Prop)(μ:KI→World→Nat)(h0:I ρ w)(h:∀ρ w,I ρ w→a.wp P (Qs (fun ρ' w'=>I ρ' w'∧μ ρ' w'<μ ρ w) Q) ρ w):(LC.loop a).wp P Q ρ w:=
 ⟨I,μ,h0,h⟩

theorem gK {h:R (.returned (.tuple #[])) w}:KN P [] R .ret ρ w:=h
theorem aX {t:Nat}{v:Value}(hv:ρ t=v)(h:R (.returned v) w):KN P [.tmp t] R .ret ρ w:=by subst hv;exact h
theorem aY {t u:Nat}{v:Value}(hv:ρ t=v)(hv':ρ u=v')(h:R (.returned (.tuple #[v,v'])) w):KN P [.tmp t, .tmp u] R .ret ρ w:=by subst hv hv';exact h
theorem LJ {h:R (.returned (.tuple #[])) w}:KN P [] R .normal ρ w:=h
theorem LF {a T:Nat}{o:Nat}{v:Value}(ha:ρ a= .pointer (some ⟨b,o,none⟩))(hv:Xg P w ⟨b,o,none⟩ T v)(h:R (.returned v) w):KN P [.cell a T] R .ret ρ w:=⟨_,v,ha,hv,h⟩
theorem OJ {t a T:Nat}{o:Nat}{v:Value}(hu:ρ t=u)(ha:ρ a= .pointer (some ⟨b,o,none⟩))(hv:Xg P w ⟨b,o,none⟩ T v)(h:R (.returned (.tuple #[u,v])) w):KN P [.tmp t, .cell a T] R .ret ρ w:=by
 subst hu;exact ⟨_,v,ha,hv,h⟩
theorem QY {t a T:Nat}{o:Nat}{v:Value}(ha:ρ a= .pointer (some ⟨b,o,none⟩))(hv:Xg P w ⟨b,o,none⟩ T v)(hu:ρ t=u)(h:R (.returned (.tuple #[v,u])) w):KN P [.cell a T, .tmp t] R .ret ρ w:=by
 subst hu;exact ⟨_,v,ha,hv,h⟩
theorem Q2 {o T:Nat}(ha:Ov P T=true)(hn:NV P T=some n)(hb:Lj w.heap b T' cs)(hv:(cs.drop o).take n=vs)(hl:vs.length=n):Xg P w ⟨b,o,none⟩ T (.agg ⟨vs⟩):=
 .inr ⟨ha,n,vs,hn,hb.cells hv hl,rfl⟩

theorem aZ {K:KT}(h:K ρ w):Qs K Q .normal ρ w:=h
theorem kY {h:Q .normal ρ w}:Qi id Q .normal ρ w:=h
theorem Xj {h:Q .normal ρ w}:Qi id Q (.exit id) ρ w:=by simp only [Qi,if_true];exact h
theorem Xk {K:KT}{h:Q (.exit id) ρ w}:Qs K Q (.exit id) ρ w:=h
theorem Tj {K:KT}{h:Q .ret ρ w}:Qs K Q .ret ρ w:=h
theorem ba {h:Q .ret ρ w}:Qi id Q .ret ρ w:=h
theorem Xl {id':Nat}(hne:Nat.beq id' id=false)(h:Q (.exit id') ρ w):Qi id Q (.exit id') ρ w:=by
 have:id'≠id:=(by rintro rfl;simp at hne);simp only [Qi,if_neg this];exact h

theorem mW {b:Bool}{o:LO}(hg:ρ s= .bool b)(h:Q0 P (⟨none,o⟩::l) Q ρ w):Q0 P (⟨some (s,b),o⟩::l) Q ρ w:=by
 simp only [Q0,hg,WJ,beq_self_eq_true,if_true];exact h
theorem mX {b:Bool}{o:LO}{v:Value}(hg:ρ s=v)(hw:WJ v b=false)(h:Q0 P l Q (KS ρ o.dst undef) w):Q0 P (⟨some (s,b),o⟩::l) Q ρ w:=by
 simp only [Q0,hg,hw];exact h

theorem gM {x:Operand}{v:Value}(hx:ρ.ev x=v)(h:Q0 P l Q (upd ρ d v) w):Q0 P (⟨none, .mov d x⟩::l) Q ρ w:=by
 subst hx;exact h
theorem Pf {c x:Operand}{v:Value}(hc:ρ.ev c= .bool true)(hx:ρ.ev x=v)(h:Q0 P l Q (upd ρ d v) w):Q0 P (⟨none, .pick d c x y⟩::l) Q ρ w:=by
 subst hx;exact ⟨true,hc,h⟩
theorem P4 {c x:Operand}{v:Value}(hc:ρ.ev c= .bool false)(hx:ρ.ev y=v)(h:Q0 P l Q (upd ρ d v) w):Q0 P (⟨none, .pick d c x y⟩::l) Q ρ w:=by
 subst hx;exact ⟨false,hc,h⟩
theorem gN {x:Operand}{b:Bool}(hx:ρ.ev x= .bool b)(h:Q0 P l Q (upd ρ d (.bool (!b))) w):Q0 P (⟨none, .un d .not x⟩::l) Q ρ w:=
 ⟨_,fun w0=>by rw [hx];rfl,h⟩
theorem gO {x:Operand}{n:Int}(hx:ρ.ev x= .int k n)(h:Q0 P l Q (upd ρ d (.int k (k.wrap (0 - n)))) w):Q0 P (⟨none, .un d .neg x⟩::l) Q ρ w:=
 ⟨_,fun w0=>by rw [hx];rfl,h⟩
theorem bd {x:Operand}{a:Addr}(hx:ρ.ev x= .pointer (some a))(h:Q0 P l Q (upd ρ d (.pointer (some a))) w):Q0 P (⟨none, .nilc d x⟩::l) Q ρ w:=⟨a,hx,h⟩
theorem ZN {x:Operand}{o:Nat}(hx:ρ.ev x= .pointer (some ⟨b,o,none⟩))(h:Q0 P l Q (upd ρ d (.pointer (some ⟨b,o+off,none⟩))) w):Q0 P (⟨none, .fld d x off⟩::l) Q ρ w:=
 ⟨_,hx,by rw [Pe];exact h⟩
theorem kZ {x:Operand}{o:Nat}{v:Value}(hx:ρ.ev x= .pointer (some ⟨b,o,none⟩))(hv:w.cell? ⟨b,o,none⟩=some v)(h:Q0 P l Q (upd ρ d v) w):Q0 P (⟨none, .load1 d x⟩::l) Q ρ w:=⟨_,v,hx,hv,h⟩
theorem Ox {x:Operand}{o:Nat}{v:Value}(hx:ρ.ev x= .pointer (some ⟨b,o,none⟩))(hb:Lj w.heap b T cs)(hv:cs[o]?=some v)(h:Q0 P l Q (upd ρ d v) w):
 Q0 P (⟨none, .load1 d x⟩::l) Q ρ w:=⟨_,v,hx,hb.cell hv,h⟩
theorem Xm {x:Operand}{o:Nat}(hx:ρ.ev x= .pointer (some ⟨b,o,none⟩))(hb:Lj w.heap b T cs)(hv:(cs.drop o).take n=vs)(hl:vs.length=n)
 (h:Q0 P l Q (upd ρ d (.agg ⟨vs⟩)) w):Q0 P (⟨none, .loadn d n x⟩::l) Q ρ w:=⟨_,vs,hx,hb.cells hv hl,h⟩
theorem rH {x:Operand}{a:Addr}(hx:ρ.ev x= .pointer (some a))(hc:ZJ w a n vs)
 (h:Q0 P l Q (upd ρ d (.agg ⟨vs⟩)) w):Q0 P (⟨none, .loadn d n x⟩::l) Q ρ w:=⟨_,vs,hx,hc,h⟩
theorem rI {x:Operand}{o:Nat}{v:Value}(hx:ρ.ev x= .pointer (some ⟨b,o,none⟩))(hy:ρ.ev y=v)(hb:Lj w.heap b T cs)(hi:o<cs.length)(ho:oneC v=true)
 (h:∀w',Fr (· =b) w w'→w'.heap.size=w.heap.size→Lj w'.heap b T (cs.set o v)→Q0 P l Q ρ w'):Q0 P (⟨none, .store1 x y⟩::l) Q ρ w:=by
 subst hy;exact ⟨_,_,hx,hb.cell (E7 hi),hb.free hi,ho,h _ (kX w b o _) Js hb.set⟩
theorem rJ {x:Operand}{o:Nat}(hx:ρ.ev x= .pointer (some ⟨b,o,none⟩))(hy:ρ.ev y= .agg ⟨vs⟩)(hn:vs.length=n)(hb:Lj w.heap b T cs)(hi:o+n≤cs.length)
 (ho:∀v∈vs,oneC v=true)(h:∀w',Fr (· =b) w w'→w'.heap.size=w.heap.size→Lj w'.heap b T (cs.take o++(vs++cs.drop (o+n)))→Q0 P l Q ρ w'):Q0 P (⟨none, .storen n x y⟩::l) Q ρ w:=by
 subst hn;obtain ⟨w',h1,h2,h3,h4⟩:=mU P b T vs w cs o 0 hb Jo ho;exact ⟨_,_,w',hx,hy,rfl,h1,h _ h2 h3 h4⟩
theorem bf {x i:Operand}{o len:Nat}{n:Int}(hx:ρ.ev x= .slice (some ⟨b,o,none⟩) len cap)(hi:ρ.ev i= .int k n)(h0:0≤n)(h1:n<len)
 (h:Q0 P l Q (upd ρ d (.pointer (some ⟨b,o+n.toNat*es,none⟩))) w):Q0 P (⟨none, .idx d es x i⟩::l) Q ρ w:=
 ⟨_,len,cap,k,n,hx,hi,h0,h1,by rw [Pe];exact h⟩
theorem bg {m:Nat}{x i:Operand}{o:Nat}{n:Int}(hx:ρ.ev x= .pointer (some ⟨b,o,none⟩))(hi:ρ.ev i= .int k n)(h0:0≤n)(h1:n<(m:Int))
 (h:Q0 P l Q (upd ρ d (.pointer (some ⟨b,o+n.toNat*es,none⟩))) w):Q0 P (⟨none, .idxa d m es x i⟩::l) Q ρ w:=
 ⟨_,k,n,hx,hi,h0,h1,by rw [Pe];exact h⟩
theorem ZO {x:Operand}{a:Option Addr}{c:Nat}(hx:ρ.ev x= .slice a n c)(h:Q0 P l Q (upd ρ d (.int .i64 n)) w):Q0 P (⟨none, .len d x⟩::l) Q ρ w:=⟨a,n,c,hx,h⟩
theorem gP {x:Operand}{i:Nat}{v:Value}(hx:ρ.ev x= .tuple ⟨vs⟩)(hv:vs[i]?=some v)(h:Q0 P l Q (upd ρ d v) w):Q0 P (⟨none, .ext d x i⟩::l) Q ρ w:=⟨_,v,hx,by simpa using hv,h⟩
theorem ZP {x:Operand}{o:Nat}{v:Value}(hx:ρ.ev x= .agg ⟨vs⟩)(hv:vs[o]?=some v)(h:Q0 P l Q (upd ρ d v) w):Q0 P (⟨none, .fldv d x o⟩::l) Q ρ w:=⟨_,v,hx,by simpa using hv,h⟩
theorem bj (hf:NG z (ps.map fun p=>(p.1,p.2.1,ρ.ev p.2.2))=some cs)(h:Q0 P l Q (upd ρ d (.agg ⟨cs⟩)) w):
 Q0 P (⟨none, .build d z ps⟩::l) Q ρ w:=⟨cs,hf,h⟩
theorem mY (h:∀b w',b=w.heap.size→Fr NF w w'→w'.heap.size=w.heap.size+1→Lj w'.heap b T z→Q0 P l Q (upd ρ d (.pointer (some ⟨b,0,none⟩))) w'):
 Q0 P (⟨none, .alloc d T z⟩::l) Q ρ w:=h _ _ rfl (aU w _) Js (fp w z T)
theorem gQ {x:Operand}(hx:(ρ.ev x).cells=⟨cs⟩)(h:∀b w',b=w.heap.size→Fr NF w w'→w'.heap.size=w.heap.size+1→Lj w'.heap b T cs→Q0 P l Q (upd ρ d (.pointer (some ⟨b,0,none⟩))) w'):
 Q0 P (⟨none, .box d T x⟩::l) Q ρ w:=by
 refine (?_:LO.wp P ρ w (Q0 P l Q) Q (.box d T x));simp only [LO.wp,hx];exact h _ _ rfl (aU w _) Js (fp w cs T)
theorem mZ (hf:NG z (ps.map fun p=>(p.1,p.2.1,ρ.ev p.2.2))=some cs)
 (h:∀b w',b=w.heap.size→Fr NF w w'→w'.heap.size=w.heap.size+1→Lj w'.heap b T cs→Q0 P l Q (upd ρ d (.slice (some ⟨b,0,none⟩) n n)) w'):
 Q0 P (⟨none, .buildS d T n z ps⟩::l) Q ρ w:=⟨cs,hf,h _ _ rfl (aU w _) Js (fp w cs T)⟩
theorem gR {f:Nat}{caps:List Operand}{h:Q0 P l Q (upd ρ d (.func (.func f) #[] ⟨caps.map ρ.ev⟩)) w}:Q0 P (⟨none, .mkfn d f caps⟩::l) Q ρ w:=h
theorem gS {x:Operand}{a b:Int}(hx:ρ.ev x= .int k a)(hy:ρ.ev y= .int k' b)(h:Q0 P l Q (upd ρ d (.int k (min a b))) w):Q0 P (⟨none, .mnx d false x y⟩::l) Q ρ w:=
 ⟨k,k',a,b,hx,hy,by
   have:(if b<a then b else a)=min a b:=Df;simp only [Fs,if_false,this];exact h⟩
theorem ZQ {x:Operand}{a b:Int}(hx:ρ.ev x= .int k a)(hy:ρ.ev y= .int k' b)(h:Q0 P l Q (upd ρ d (.int k (max a b))) w):Q0 P (⟨none, .mnx d true x y⟩::l) Q ρ w:=
 ⟨k,k',a,b,hx,hy,by
   have:(if a<b then b else a)=max a b:=Df;simp only [if_true,this];exact h⟩
theorem gT {x:Operand}{v:Value}(hx:ρ.ev x=v)(h:Q0 P l Q (upd ρ d (.iface T v)) w):Q0 P (⟨none, .mki d T x⟩::l) Q ρ w:=by subst hx;exact h
theorem gU {x:Operand}{a:Option Addr}{len:Nat}(hx:ρ.ev x= .slice a len cap)(hm:ML ρ cap mx m)(hh:ML ρ len hi h')(hl:ML ρ 0 lo l')(h1:m≤cap)(h2:h'≤m)(h3:l'≤h')
 (h:Q0 P l Q (upd ρ d (.slice (if m=l' then a else a.map (·.add (l'*es))) (h' - l') (m - l'))) w):Q0 P (⟨none, .sub d es x lo hi mx⟩::l) Q ρ w:=⟨a,len,cap,l',h',m,hx,hm,hh,hl,h1,h2,h3,h⟩
def Kf (P:Program)(f:FuncId)(args:List Value)(w:World)(S:Value→World→Prop):Prop:=Calls P f ⟨args⟩ w fun e w'=>∃v,e= .returned v∧S v w'
theorem Sf (hxs:xs.map ρ.ev=args)(hc:Kf P f args w S)
 (h:∀v w',S v w'→Q0 P l Q (upd ρ d v) w'):Q0 P (⟨none, .call (some d) f xs⟩::l) Q ρ w:=by
 subst hxs;exact hc.mono fun e w' ⟨v,he,hs⟩=>by subst he;exact h v w' hs
theorem Kf.mono {S':Value→World→Prop}(h:Kf P f args w S)(hs:∀v w',S v w'→S' v w'):Kf P f args w S':=
 Calls.mono h fun _ _ ⟨v,he,hv⟩=>⟨v,he,hs _ _ hv⟩
theorem rK {d:Option Nat}{x:Operand}{cap:List Value}(hx:ρ.ev x= .func (.func f) #[] ⟨cap⟩)(hf:P.funcs[f]?=some fn)
 (hb : fn.body.isSome = true)(hn : (fn.name == "runtime.NumGoroutine") = false)(hxs : xs.map ρ.ev ++ cap = args)(hc : Calls P f ⟨args⟩ w R)
 (h:∀e w',R e w'→Q7 (Q0 P l Q) Q d ρ w e w'):Q0 P (⟨none, .callv d x xs⟩::l) Q ρ w:=by
 subst hxs;refine ⟨f,#[],⟨cap⟩,fn,hx,hf,hb,hn,?_⟩;have:(#[]++Array.mk (xs.map ρ.ev)++Array.mk cap:Array Value)=⟨xs.map ρ.ev++cap⟩:=Dq;rw [this];exact hc.mono h
theorem gV {x:Operand}{a b:Int}(hx:ρ.ev x= .int .i64 a)(hy:ρ.ev y= .int .i64 b)(h1: -9223372036854775808≤a+b)(h2:a+b≤9223372036854775807)
 (h:Q0 P l Q (upd ρ d (.int .i64 (a+b))) w):Q0 P (⟨none, .bin d .add T x y⟩::l) Q ρ w:=
 ⟨.int .i64 (a+b),fun w0=>by rw [hx,hy];simp [eqGuard,binOp,Op.intArith,fw h1 h2],h⟩
theorem fy {x:Operand}{a b:Int}(hx:ρ.ev x= .int k a)(hy:ρ.ev y= .int k b)
 (h:Q0 P l Q (upd ρ d (.int k (k.wrap (a+b)))) w):Q0 P (⟨none, .bin d .add T x y⟩::l) Q ρ w:=
 ⟨_,fun w0=>by rw [hx,hy];simp [eqGuard,binOp,Op.intArith],h⟩

theorem bl {x:Operand}{a b:Int}(hx:ρ.ev x= .int .i64 a)(hy:ρ.ev y= .int .i64 b)(h1: -9223372036854775808≤a - b)(h2:a - b≤9223372036854775807)
 (h:Q0 P l Q (upd ρ d (.int .i64 (a - b))) w):Q0 P (⟨none, .bin d .sub T x y⟩::l) Q ρ w:=
 ⟨.int .i64 (a - b),fun w0=>by rw [hx,hy];simp [eqGuard,binOp,Op.intArith,fw h1 h2],h⟩
theorem lf {x:Operand}{a b:Int}(hx:ρ.ev x= .int k a)(hy:ρ.ev y= .int k b)
 (h:Q0 P l Q (upd ρ d (.int k (k.wrap (a - b)))) w):Q0 P (⟨none, .bin d .sub T x y⟩::l) Q ρ w:=
 ⟨_,fun w0=>by rw [hx,hy];simp [eqGuard,binOp,Op.intArith],h⟩

theorem gW {x:Operand}{a b:Int}(hx:ρ.ev x= .int .i64 a)(hy:ρ.ev y= .int .i64 b)(h1: -9223372036854775808≤a*b)(h2:a*b≤9223372036854775807)
 (h:Q0 P l Q (upd ρ d (.int .i64 (a*b))) w):Q0 P (⟨none, .bin d .mul T x y⟩::l) Q ρ w:=
 ⟨.int .i64 (a*b),fun w0=>by rw [hx,hy];simp [eqGuard,binOp,Op.intArith,fw h1 h2],h⟩
theorem Tk {x:Operand}{a b:Int}(hx:ρ.ev x= .int k a)(hy:ρ.ev y= .int k b)
 (h:Q0 P l Q (upd ρ d (.int k (k.wrap (a*b)))) w):Q0 P (⟨none, .bin d .mul T x y⟩::l) Q ρ w:=
 ⟨_,fun w0=>by rw [hx,hy];simp [eqGuard,binOp,Op.intArith],h⟩

theorem gY {x:Operand}{a b:Int}(hx:ρ.ev x= .int k a)(hy:ρ.ev y= .int k b)(hb:b≠0)
 (h:Q0 P l Q (upd ρ d (.int k (k.wrap (a.tdiv b)))) w):Q0 P (⟨none, .bin d .quo T x y⟩::l) Q ρ w:=
 ⟨_,fun w0=>by rw [hx,hy];simp [eqGuard,binOp,Op.intDiv,hb],h⟩
def PA (op:BinOp)(k:IntKind)(a b:Int):Int:=
 let x:=BitVec.ofInt k.bits a
 let y:=BitVec.ofInt k.bits b
 k.wrap (match op with| .and=>x &&& y| .or=>x|||y| .xor=>x ^^^ y|_=>x &&& ~~~y).toNat

theorem gZ {x:Operand}{a b:Int}(hx:ρ.ev x= .int k a)(hy:ρ.ev y= .int k b)
 (h:Q0 P l Q (upd ρ d (.int k (PA .and k a b))) w):Q0 P (⟨none, .bin d .and T x y⟩::l) Q ρ w:=
 ⟨_,fun w0=>by rw [hx,hy];simp [eqGuard,binOp,Op.intBits,PA],h⟩

theorem g9 {x:Operand}{a b:Int}(hx:ρ.ev x= .int k a)(hy:ρ.ev y= .int k b)
 (h:Q0 P l Q (upd ρ d (.int k (PA .xor k a b))) w):Q0 P (⟨none, .bin d .xor T x y⟩::l) Q ρ w:=
 ⟨_,fun w0=>by rw [hx,hy];simp [eqGuard,binOp,Op.intBits,PA],h⟩

theorem hZ {x:Operand}{a b:Int}(hx:ρ.ev x= .int k a)(hy:ρ.ev y= .int k b)
 (h:Q0 P l Q (upd ρ d (.bool (decide (a=b)))) w):Q0 P (⟨none, .bin d .eql T x y⟩::l) Q ρ w:=
 ⟨_,fun w0=>by
   rw [hx,hy]
   first
    | (simp [eqGuard,binOp,Op.intCmp];done)
    | (by_cases hp:a=b<;>simp [eqGuard,binOp,Op.intCmp,hp]),h⟩
theorem rM {x:Operand}{a b:Int}(hx:ρ.ev x= .int k a)(hy:ρ.ev y= .int k b)(hp:a=b)
 (h:Q0 P l Q (upd ρ d (.bool true)) w):Q0 P (⟨none, .bin d .eql T x y⟩::l) Q ρ w:=
 hZ hx hy DI
theorem rN {x:Operand}{a b:Int}(hx:ρ.ev x= .int k a)(hy:ρ.ev y= .int k b)(hp:¬(a=b))
 (h:Q0 P l Q (upd ρ d (.bool false)) w):Q0 P (⟨none, .bin d .eql T x y⟩::l) Q ρ w:=
 hZ hx hy DK
theorem Q4 {x:Operand}{a b:Int}(hx:ρ.ev x= .int k a)(hy:ρ.ev y= .int k b)
 (h1:a=b→Q0 P l Q (upd ρ d (.bool true)) w)(h2:¬(a=b)→Q0 P l Q (upd ρ d (.bool false)) w):Q0 P (⟨none, .bin d .eql T x y⟩::l) Q ρ w:=
 hZ hx hy (by
  by_cases hp:a=b
  · rw [decide_eq_true hp];exact h1 hp
  · rw [decide_eq_false hp];exact h2 hp)

theorem Ac {x:Operand}{a b:Int}(hx:ρ.ev x= .int k a:=by rfl)(hy:ρ.ev y= .int k b:=by rfl)
 {h1:a=b→Q0 P l Q (upd ρ d (.bool true)) w}{h2:¬(a=b)→Q0 P l Q (upd ρ d (.bool false)) w}:Q0 P (⟨none, .bin d .eql T x y⟩::l) Q ρ w:=Q4 hx hy h1 h2
theorem Xn {x:Operand}{a b:Int}(hx:ρ.ev x= .int k a)(hy:ρ.ev y= .int k b)
 (h:Q0 P l Q (upd ρ d (.bool (decide (a≠b)))) w):Q0 P (⟨none, .bin d .neq T x y⟩::l) Q ρ w:=
 ⟨_,fun w0=>by
   rw [hx,hy]
   first
    | (simp [eqGuard,binOp,Op.intCmp];done)
    | (by_cases hp:a=b<;>simp [eqGuard,binOp,Op.intCmp,hp]),h⟩
theorem Xo {x:Operand}{a b:Int}(hx:ρ.ev x= .int k a)(hy:ρ.ev y= .int k b)(hp:a≠b)
 (h:Q0 P l Q (upd ρ d (.bool true)) w):Q0 P (⟨none, .bin d .neq T x y⟩::l) Q ρ w:=
 Xn hx hy DI
theorem Xp {x:Operand}{a b:Int}(hx:ρ.ev x= .int k a)(hy:ρ.ev y= .int k b)(hp:¬(a≠b))
 (h:Q0 P l Q (upd ρ d (.bool false)) w):Q0 P (⟨none, .bin d .neq T x y⟩::l) Q ρ w:=
 Xn hx hy DK
theorem Qk {x:Operand}{a b:Int}(hx:ρ.ev x= .int k a)(hy:ρ.ev y= .int k b)
 (h1:a≠b→Q0 P l Q (upd ρ d (.bool true)) w)(h2:¬(a≠b)→Q0 P l Q (upd ρ d (.bool false)) w):Q0 P (⟨none, .bin d .neq T x y⟩::l) Q ρ w:=
 Xn hx hy (by
  by_cases hp:a≠b
  · rw [decide_eq_true hp];exact h1 hp
  · rw [decide_eq_false hp];exact h2 hp)

theorem Ad {x:Operand}{a b:Int}(hx:ρ.ev x= .int k a:=by rfl)(hy:ρ.ev y= .int k b:=by rfl)
 {h1:a≠b→Q0 P l Q (upd ρ d (.bool true)) w}{h2:¬(a≠b)→Q0 P l Q (upd ρ d (.bool false)) w}:Q0 P (⟨none, .bin d .neq T x y⟩::l) Q ρ w:=Qk hx hy h1 h2
theorem ia {x:Operand}{a b:Int}(hx:ρ.ev x= .int k a)(hy:ρ.ev y= .int k b)
 (h:Q0 P l Q (upd ρ d (.bool (decide (a<b)))) w):Q0 P (⟨none, .bin d .lss T x y⟩::l) Q ρ w:=
 ⟨_,fun w0=>by
   rw [hx,hy]
   first
    | (simp [eqGuard,binOp,Op.intCmp];done)
    | (by_cases hp:a=b<;>simp [eqGuard,binOp,Op.intCmp,hp]),h⟩
theorem Xq {x:Operand}{a b:Int}(hx:ρ.ev x= .int k a)(hy:ρ.ev y= .int k b)(hp:a<b)
 (h:Q0 P l Q (upd ρ d (.bool true)) w):Q0 P (⟨none, .bin d .lss T x y⟩::l) Q ρ w:=
 ia hx hy DI
theorem Xr {x:Operand}{a b:Int}(hx:ρ.ev x= .int k a)(hy:ρ.ev y= .int k b)(hp:¬(a<b))
 (h:Q0 P l Q (upd ρ d (.bool false)) w):Q0 P (⟨none, .bin d .lss T x y⟩::l) Q ρ w:=
 ia hx hy DK
theorem Qq {x:Operand}{a b:Int}(hx:ρ.ev x= .int k a)(hy:ρ.ev y= .int k b)
 (h1:a<b→Q0 P l Q (upd ρ d (.bool true)) w)(h2:¬(a<b)→Q0 P l Q (upd ρ d (.bool false)) w):Q0 P (⟨none, .bin d .lss T x y⟩::l) Q ρ w:=
 ia hx hy (by
  by_cases hp:a<b
  · rw [decide_eq_true hp];exact h1 hp
  · rw [decide_eq_false hp];exact h2 hp)

theorem Ae {x:Operand}{a b:Int}(hx:ρ.ev x= .int k a:=by rfl)(hy:ρ.ev y= .int k b:=by rfl)
 {h1:a<b→Q0 P l Q (upd ρ d (.bool true)) w}{h2:¬(a<b)→Q0 P l Q (upd ρ d (.bool false)) w}:Q0 P (⟨none, .bin d .lss T x y⟩::l) Q ρ w:=Qq hx hy h1 h2
theorem m6 {x:Operand}{a b:Int}(hx:ρ.ev x= .int k a)(hy:ρ.ev y= .int k b)
 (h:Q0 P l Q (upd ρ d (.bool (decide (a≤b)))) w):Q0 P (⟨none, .bin d .leq T x y⟩::l) Q ρ w:=
 ⟨_,fun w0=>by
   rw [hx,hy]
   first
    | (simp [eqGuard,binOp,Op.intCmp];done)
    | (by_cases hp:a=b<;>simp [eqGuard,binOp,Op.intCmp,hp]),h⟩
theorem Xs {x:Operand}{a b:Int}(hx:ρ.ev x= .int k a)(hy:ρ.ev y= .int k b)(hp:a≤b)
 (h:Q0 P l Q (upd ρ d (.bool true)) w):Q0 P (⟨none, .bin d .leq T x y⟩::l) Q ρ w:=
 m6 hx hy DI
theorem Xt {x:Operand}{a b:Int}(hx:ρ.ev x= .int k a)(hy:ρ.ev y= .int k b)(hp:¬(a≤b))
 (h:Q0 P l Q (upd ρ d (.bool false)) w):Q0 P (⟨none, .bin d .leq T x y⟩::l) Q ρ w:=
 m6 hx hy DK
theorem Xu {x:Operand}{a b:Int}(hx:ρ.ev x= .int k a)(hy:ρ.ev y= .int k b)
 (h1:a≤b→Q0 P l Q (upd ρ d (.bool true)) w)(h2:¬(a≤b)→Q0 P l Q (upd ρ d (.bool false)) w):Q0 P (⟨none, .bin d .leq T x y⟩::l) Q ρ w:=
 m6 hx hy (by
  by_cases hp:a≤b
  · rw [decide_eq_true hp];exact h1 hp
  · rw [decide_eq_false hp];exact h2 hp)

theorem ib {x:Operand}{a b:Int}(hx:ρ.ev x= .int k a)(hy:ρ.ev y= .int k b)
 (h:Q0 P l Q (upd ρ d (.bool (decide (b<a)))) w):Q0 P (⟨none, .bin d .gtr T x y⟩::l) Q ρ w:=
 ⟨_,fun w0=>by
   rw [hx,hy]
   first
    | (simp [eqGuard,binOp,Op.intCmp];done)
    | (by_cases hp:a=b<;>simp [eqGuard,binOp,Op.intCmp,hp]),h⟩
theorem Xv {x:Operand}{a b:Int}(hx:ρ.ev x= .int k a)(hy:ρ.ev y= .int k b)(hp:b<a)
 (h:Q0 P l Q (upd ρ d (.bool true)) w):Q0 P (⟨none, .bin d .gtr T x y⟩::l) Q ρ w:=
 ib hx hy DI
theorem Xw {x:Operand}{a b:Int}(hx:ρ.ev x= .int k a)(hy:ρ.ev y= .int k b)(hp:¬(b<a))
 (h:Q0 P l Q (upd ρ d (.bool false)) w):Q0 P (⟨none, .bin d .gtr T x y⟩::l) Q ρ w:=
 ib hx hy DK
theorem Qm {x:Operand}{a b:Int}(hx:ρ.ev x= .int k a)(hy:ρ.ev y= .int k b)
 (h1:b<a→Q0 P l Q (upd ρ d (.bool true)) w)(h2:¬(b<a)→Q0 P l Q (upd ρ d (.bool false)) w):Q0 P (⟨none, .bin d .gtr T x y⟩::l) Q ρ w:=
 ib hx hy (by
  by_cases hp:b<a
  · rw [decide_eq_true hp];exact h1 hp
  · rw [decide_eq_false hp];exact h2 hp)

theorem Af {x:Operand}{a b:Int}(hx:ρ.ev x= .int k a:=by rfl)(hy:ρ.ev y= .int k b:=by rfl)
 {h1:b<a→Q0 P l Q (upd ρ d (.bool true)) w}{h2:¬(b<a)→Q0 P l Q (upd ρ d (.bool false)) w}:Q0 P (⟨none, .bin d .gtr T x y⟩::l) Q ρ w:=Qm hx hy h1 h2
theorem m7 {x:Operand}{a b:Int}(hx:ρ.ev x= .int k a)(hy:ρ.ev y= .int k b)
 (h:Q0 P l Q (upd ρ d (.bool (decide (b≤a)))) w):Q0 P (⟨none, .bin d .geq T x y⟩::l) Q ρ w:=
 ⟨_,fun w0=>by
   rw [hx,hy]
   first
    | (simp [eqGuard,binOp,Op.intCmp];done)
    | (by_cases hp:a=b<;>simp [eqGuard,binOp,Op.intCmp,hp]),h⟩
theorem Xx {x:Operand}{a b:Int}(hx:ρ.ev x= .int k a)(hy:ρ.ev y= .int k b)(hp:b≤a)
 (h:Q0 P l Q (upd ρ d (.bool true)) w):Q0 P (⟨none, .bin d .geq T x y⟩::l) Q ρ w:=
 m7 hx hy DI
theorem Xy {x:Operand}{a b:Int}(hx:ρ.ev x= .int k a)(hy:ρ.ev y= .int k b)(hp:¬(b≤a))
 (h:Q0 P l Q (upd ρ d (.bool false)) w):Q0 P (⟨none, .bin d .geq T x y⟩::l) Q ρ w:=
 m7 hx hy DK
theorem wS {x:Operand}{a b:Int}(hx:ρ.ev x= .int k a)(hy:ρ.ev y= .int k b)
 (h1:b≤a→Q0 P l Q (upd ρ d (.bool true)) w)(h2:¬(b≤a)→Q0 P l Q (upd ρ d (.bool false)) w):Q0 P (⟨none, .bin d .geq T x y⟩::l) Q ρ w:=
 m7 hx hy (by
  by_cases hp:b≤a
  · rw [decide_eq_true hp];exact h1 hp
  · rw [decide_eq_false hp];exact h2 hp)

theorem Ag {x:Operand}{a b:Int}(hx:ρ.ev x= .int k a:=by rfl)(hy:ρ.ev y= .int k b:=by rfl)
 {h1:b≤a→Q0 P l Q (upd ρ d (.bool true)) w}{h2:¬(b≤a)→Q0 P l Q (upd ρ d (.bool false)) w}:Q0 P (⟨none, .bin d .geq T x y⟩::l) Q ρ w:=wS hx hy h1 h2
theorem wT (n:Nat){a b:Bool}(ht:P.underlying T=some .bool):(Op.equalIn (n+1) T (.bool a) (.bool b)).run P w0= .ok (a==b) w0:=by
 simp only [Op.equalIn,FH,Qb P T _ w0 ht,Fp,FR]
theorem wU {a b:Bool}(ht:P.underlying T=some .bool):(Op.equal T (.bool a) (.bool b)).run P w0= .ok (a==b) w0:=
 wT 9999 ht
theorem ZR {x:Operand}{a b:Bool}(ht:P.underlying T=some .bool)(hx:ρ.ev x= .bool a)(hy:ρ.ev y= .bool b)
 (h:Q0 P l Q (upd ρ d (.bool (a !=b))) w):Q0 P (⟨none, .bin d .neq T x y⟩::l) Q ρ w:=
 ⟨_,fun w0=>by rw [hx,hy];simp [eqGuard,binOp,wU ht];cases a<;>cases b<;>rfl,h⟩

theorem m8 {gs:List GO}{es:List (List Nat)}(C:List CI)(hok:aT gs es C=true)
 (hpl:(C.all fun c=>match c.2 with|some (some _)=>false|_=>true)=true)(h:Q0 P (C.map fun c=>K5 gs c.1) Q ρ w.drew):(LC.draw gs es).wp P Q ρ w:=
 wR C hok hpl h
theorem m9 {gs:List GO}{es:List (List Nat)}(C:List CI)(hok:aT gs es C=true)(h:OI P gs C Q ρ w.drew):(LC.draw gs es).wp P Q ρ w:=rF C hok h
theorem bm {gs:List GO}{h:Q .normal ρ w}:OI P gs [] Q ρ w:=h
theorem KW {gs:List GO}{i:Nat}{rest:List CI}{h:Q0 P [K5 gs i] (Qs (OI P gs rest Q) Q) ρ w}:OI P gs ((i,none)::rest) Q ρ w:=h
theorem LG {gs:List GO}{i:Nat}{rest:List CI}{h:Q0 P [K5 gs i] (Qs (OI P gs rest Q) Q) ρ w}:OI P gs ((i,some none)::rest) Q ρ w:=h
theorem SJ {gs:List GO}{i:Nat}{fl:List Nat}{rest:List CI}{h:Q0 P [K5 gs i] (Qs (fun ρ' w'=>(∀q∈fl,Nr P ρ w' (K5 gs q) (ρ ((K5 gs q).dst.getD 0)))∧OI P gs rest Q ρ' w') (mR Q)) ρ w}:
 OI P gs ((i,some (some fl))::rest) Q ρ w:=h
end
end
section

def Sl (H:KL)(T:TypeId)(es:Nat)(v:Value)(F:Nat→Prop)(css:List (List Value)):Prop:=
 (∀c∈css,c.length=es)∧
 ((v= .slice none 0 0∧css=[]∧∀b,¬F b)∨
  ∃ b off cap arr,v= .slice (some ⟨b,off,none⟩) css.length cap∧css.length≤cap∧Lj H b T arr∧off+cap*es≤arr.length∧
    (∀i,i<css.length*es→arr[off+i]?=css.flatten[i]?)∧∀x,F x↔x=b)

theorem ic:∀{css:List (List Value)},(∀c∈css,c.length=es)→∀{m j:Nat}{c:List Value},css[m]?=some c→j<es→css.flatten[m*es+j]?=c[j]?:=by
 intro css
 induction css with
 | nil=>intro _ m j c h;simp at h
 | cons a css ih=>
   intro hl m j c h hj;have ha:=hl a Js
   cases m with
   | zero=>
     simp at h;subst h;simp only [Hf,Ib,GF];rw [Fg Jo]
   | succ m=>
     simp at h;have:=ih (fun c hc=>hl c DM) h hj;simp only [Hf];rw [Ff (by rw [ha,Ht];omega),ha,←this];congr 1;rw [Ht];omega

theorem RG:∀{css:List (List Value)},(∀c∈css,c.length=es)→css.flatten.length=css.length*es:=by
 intro css
 induction css with
 | nil=>intro _;simp
 | cons a css ih=>
   intro hl;simp only [Hf,Fc,Fk,ih (fun c hc=>hl c DM),hl a Js,Ht];omega

theorem Sl.nil (H:KL)(T:TypeId)(es:Nat):Sl H T es (.slice none 0 0) NF []:=⟨by simp, .inl ⟨rfl,rfl,fun _ h=>h⟩⟩

theorem Sl.shape {H:KL}{v:Value}{F:Nat→Prop}(h:Sl H T es v F css):∃a c,v= .slice a css.length c:=by
 obtain ⟨_,⟨h,h2,_⟩|⟨b,off,cap,arr,h,_⟩⟩:=h
 · subst h2;exact ⟨_,_,h⟩
 · exact ⟨_,_,h⟩

theorem Sl.lt {H:KL}{v:Value}{F:Nat→Prop}(h:Sl H T es v F css):∀b,F b→b<H.size:=by
 obtain ⟨_,⟨_,_,h⟩|⟨b,off,cap,arr,_,_,hb,_,_,hf⟩⟩:=h
 · intro b hb;exact absurd hb (h b)
 · intro x hx;rw [(hf x).1 hx];exact hb.lt

theorem Sl.of_same {H H':KL}{v:Value}{F:Nat→Prop}(h:Sl H T es v F css)(hs:∀b,F b→b<H.size→H'[b]?=H[b]?):Sl H' T es v F css:=by
 obtain ⟨h0,h1|⟨b,off,cap,arr,h1,h2,hb,h3,h4,hf⟩⟩:=h
 · exact ⟨h0, .inl h1⟩
 · exact ⟨h0, .inr ⟨b,off,cap,arr,h1,h2,hb.of_same (hs b ((hf b).2 rfl) hb.lt),h3,h4,hf⟩⟩

theorem Sl.fr {F:Nat→Prop}{v:Value}(h:Sl w.heap T es v F css)(hf:Fr G w w')(hn:∀b,F b→¬G b):Sl w'.heap T es v F css:=
 h.of_same fun b hb hlt=>hf.same b hlt (hn b hb)

theorem Sl.fr0 {F:Nat→Prop}{v:Value}(h:Sl w.heap T es v F css)(hf:Fr NF w w'):Sl w'.heap T es v F css:=
 h.fr hf fun _ _ h=>h
theorem Lj.fr0 (h:Lj w.heap b T cs)(hf:Fr NF w w'):Lj w'.heap b T cs:=h.fr hf fun h=>h

structure El (H:KL) (T:TypeId) (es:Nat) (v:Value) (F:Nat→Prop) (css:List (List Value)) (m b o:Nat):Prop where
 sl:Sl H T es v F css
 lt:m<css.length
 at_:∃off cap,v= .slice (some ⟨b,off,none⟩) css.length cap∧o=off+m*es

theorem El.out {H:KL}{v:Value}{F:Nat→Prop}{o:Nat}(h:El H T es v F css m b o):
 ∃off cap arr,v= .slice (some ⟨b,off,none⟩) css.length cap∧css.length≤cap∧Lj H b T arr∧off+cap*es≤arr.length∧(∀i,i<css.length*es→arr[off+i]?=css.flatten[i]?)∧(∀x,F x↔x=b)∧o=off+m*es:=by
 obtain ⟨⟨_,hs⟩,hm,off,cap,hv,ho⟩:=h;rcases hs with ⟨hv',hc,_⟩|⟨b',off',cap',arr,hv',h1,h2,h3,h4,h5⟩
 · subst hc;simp at hm
 · rw [hv] at hv';simp only [Value.slice.injEq,Fq,Addr.mk.injEq,and_true,true_and] at hv';obtain ⟨⟨rfl,rfl⟩,rfl⟩:=hv';exact ⟨off,cap,arr,hv,h1,h2,h3,h4,h5,ho⟩

theorem El.F {H:KL}{T:TypeId}{es:Nat}{v:Value}{F:Nat→Prop}{css:List (List Value)}{m b o:Nat}(h:El H T es v F css m b o):∀x,F x↔x=b:=by
 obtain ⟨_,_,_,_,_,_,_,_,h,_⟩:=h.out;exact h

theorem ie (h:m<n):m*es+es≤n*es:=by
 have:(m+1)*es≤n*es:=Ga es h;rw [Ht] at this;exact this

theorem El.cell {v:Value}{F:Nat→Prop}{o:Nat}(h:El w.heap T es v F css m b o)(hc:css[m]?=some c)(hu:c[j]?=some u):
 w.cell? ⟨b,o+j,none⟩=some u:=by
 have hlen:=h.sl.1;obtain ⟨off,cap,arr,hv,h1,h2,h3,h4,h5,ho⟩:=h.out;have hcl:c.length=es:=hlen c (Fa hc)
 have hj:j<es:=by
  rcases GD j c.length with h|h
  · omega
  · simp [FI h] at hu
 have hb:=ie (es:=es) h.lt;have:=h4 (m*es+j) Jo;rw [ic hlen hc hj,hu] at this;rw [ho,GR];exact h2.cell this

theorem El.cells {v:Value}{F:Nat→Prop}{o:Nat}(h:El w.heap T es v F css m b o)(hc:css[m]?=some c):ZJ w ⟨b,o,none⟩ es c:=by
 have hcl:c.length=es:=h.sl.1 c (Fa hc);refine ⟨hcl,fun j hj=>?_⟩;rw [Pe,E7 Jo];exact h.cell hc (E7 Jo)

theorem rO:∀{css:List (List Value)},(∀c∈css,c.length=es)→∀{m j:Nat}{c:List Value}{u:Value},css[m]?=some c→j<es→(css.set m (c.set j u)).flatten=css.flatten.set (m*es+j) u:=by
 intro css
 induction css with
 | nil=>intro _ m j c u h;simp at h
 | cons a css ih=>
   intro hl m j c u h hj;have ha:=hl a Js
   cases m with
   | zero=>
     simp at h;subst h;simp only [Fi,Hf,Ib,GF];rw [List.set_append_left _ _ Jo]
   | succ m=>
     simp at h;have:=ih (fun c hc=>hl c DM) (u:=u) h hj;simp only [Fo,Hf,this];rw [GC _ _ (by rw [ha,Ht];omega),ha];congr 2;rw [Ht];omega

theorem El.set {v:Value}{F:Nat→Prop}{o:Nat}(h:El w.heap T es v F css m b o)(hc:css[m]?=some c)(hj:j<es):
 El (w.setCell ⟨b,o+j,none⟩ u).heap T es v F (css.set m (c.set j u)) m b o:=by
 have hlen:=h.sl.1;obtain ⟨off,cap,arr,hv,h1,h2,h3,h4,h5,ho⟩:=h.out;refine ⟨⟨?_, .inr ⟨b,off,cap,arr.set (o+j) u,by simpa using hv,by simpa using h1,h2.set,by simpa using h3,?_,h5⟩⟩,by simpa using h.lt,off,cap,by simpa using hv,ho⟩
 · intro x hx
   rcases HY hx with hx|rfl
   · exact hlen x hx
   · simpa using hlen c (Fa hc)
 · intro i hi
   simp only [FL] at hi;rw [rO hlen hc hj];have e:=h4 i hi;have hb:=ie (es:=es) h.lt;have hfl:=RG hlen;have hmul:css.length*es≤cap*es:=Ga es h1;by_cases hii:i=m*es+j
   · subst hii;rw [ho,←GR,GN Jo,GN Jo]
   · rw [G3 Jo,G3 Jo,e]

theorem El.fr {F:Nat→Prop}{v:Value}{o:Nat}(h:El w.heap T es v F css m b o)(hf:Fr G w w')(hn:∀b,F b→¬G b):El w'.heap T es v F css m b o:=
 ⟨h.sl.fr hf hn,h.lt,h.at_⟩

theorem El.setn {v:Value}{F:Nat→Prop}{o:Nat}:∀(vs:List Value) (w:World) (css:List (List Value)) (c:List Value) (j:Nat),El w.heap T es v F css m b o→css[m]?=some c→j+vs.length≤es→(∀v∈vs,oneC v=true)→
 ∃w',(storeCells ⟨b,o,none⟩ vs j).run P w= .ok () w'∧Fr F w w'∧w'.heap.size=w.heap.size∧El w'.heap T es v F (css.set m (c.take j++(vs++c.drop (j+vs.length)))) m b o:=by
 intro vs
 induction vs with
 | nil=>
   intro w css c j h hc hj _;refine ⟨w,by simp [storeCells],HN _ _,rfl,?_⟩
   have:css.set m (c.take j++([]++c.drop (j+0)))=css:=by
    simp only [IW,H9,GU];apply GY;intro i;by_cases him:m=i
    · subst him;rw [GN h.lt,hc]
    · rw [G3 him]
   simp only [FF];rw [this];exact h
 | cons u vs ih=>
   intro w css c j h hc hj ho;simp only [Fk] at hj;have h1:=ho u Js;have h1':u.oneCell'=true:=(by cases u<;>simp_all [Value.oneCell',oneC]);have hcl:c.length=es:=h.sl.1 c (Fa hc);have hcell:=h.cell hc (E7 (show j<c.length by omega));have hset:=h.set (u:=u) hc (show j<es by omega);obtain ⟨off,cap,arr,hv,g1,g2,g3,g4,g5,go⟩:=h.out;have hb:=ie (es:=es) h.lt;have hmul:css.length*es≤cap*es:=Ga es g1;have hfree:=g2.free (w:=w) (i:=o+j) Jo;have hc':(css.set m (c.set j u))[m]?=some (c.set j u):=GN h.lt;obtain ⟨w',h2,h3,h4,h5⟩:=ih (w.setCell ⟨b,o+j,none⟩ u) _ _ (j+1) hset hc' Jo (fun x hx=>ho x DO);refine ⟨w',?_,((kX w b (o+j) u).mono fun x _ hx=>(g5 x).2 hx).trans h3 (fun _ _ h=>h),h4.trans Js,?_⟩
   · simp only [storeCells,FH,Pe,run_store P w _ _ .plain h1',hcell,hfree,Fs,if_false,Fp];exact h2
   · have e:(css.set m (c.set j u)).set m ((c.set j u).take (j+1)++(vs++(c.set j u).drop (j+1+vs.length)))=css.set m (c.take j++(u::vs++c.drop (j+(u::vs).length))):=by
      rw [HM];congr 1;have hlt:j<c.length:=Df;rw [GV,if_pos hlt];have hm:(c.take j).length=j:=by simp;omega
      have e1:List.take (j+1) (c.take j++u::c.drop (j+1))=c.take j++[u]:=by
       rw [IN,hm,FM Jo,show j+1 - j=1 by omega];rfl
      have e2:List.drop (j+1+vs.length) (c.take j++u::c.drop (j+1))=c.drop (j+(u::vs).length):=by
       rw [IJ,hm,Fh Jo,show j+1+vs.length - j=vs.length+1 by omega];simp [Jt,Iy]
      rw [e1,e2];simp
     rw [←e];exact h5

section
variable {P:Program}{l:List GO}{Q:QT}{ρ:KI}{w:World}{T:TypeId}{es:Nat}{v:Value}{F:Nat→Prop}{css:List (List Value)}

theorem ng {x i:Operand}{n:Int}(hx:ρ.ev x=v)(hi:ρ.ev i= .int k n)(hs:Sl w.heap T es v F css)(h0:0≤n)(h1:n<css.length)
 (h:∀b o,El w.heap T es v F css n.toNat b o→Q0 P l Q (upd ρ d (.pointer (some ⟨b,o,none⟩))) w):Q0 P (⟨none, .idx d es x i⟩::l) Q ρ w:=by
 obtain ⟨hlen,⟨hv,hc,_⟩|⟨b,off,cap,arr,hv,g1,g2,g3,g4,g5⟩⟩:=hs
 · subst hc;simp at h1;omega
 · subst hv;exact bf hx hi h0 h1 (h b _ ⟨⟨hlen, .inr ⟨b,off,cap,arr,rfl,g1,g2,g3,g4,g5⟩⟩,Jo,off,cap,rfl,rfl⟩)

theorem WM {x:Operand}(hx:ρ.ev x=v)(hs:Sl w.heap T es v F css)(h:Q0 P l Q (upd ρ d (.int .i64 css.length)) w):Q0 P (⟨none, .len d x⟩::l) Q ρ w:=by
 obtain ⟨a,c,hv⟩:=hs.shape;exact ZO (hx.trans hv) h

theorem SK {x:Operand}{o:Nat}(hx:ρ.ev x= .pointer (some ⟨b,o,none⟩))(he:El w.heap T es v F css m b o)(hc:css[m]?=some c)(hu:c[0]?=some u)
 (h:Q0 P l Q (upd ρ d u) w):Q0 P (⟨none, .load1 d x⟩::l) Q ρ w:=kZ hx (by have:=he.cell hc hu;simpa using this) h
theorem Tl {x:Operand}{o:Nat}(hx:ρ.ev x= .pointer (some ⟨b,o+j,none⟩))(he:El w.heap T es v F css m b o)(hc:css[m]?=some c)(hu:c[j]?=some u)
 (h:Q0 P l Q (upd ρ d u) w):Q0 P (⟨none, .load1 d x⟩::l) Q ρ w:=kZ hx (he.cell hc hu) h
theorem Tm {x:Operand}{o:Nat}(hx:ρ.ev x= .pointer (some ⟨b,o,none⟩))(he:El w.heap T es v F css m b o)(hc:css[m]?=some c)
 (h:Q0 P l Q (upd ρ d (.agg ⟨c⟩)) w):Q0 P (⟨none, .loadn d es x⟩::l) Q ρ w:=rH hx (he.cells hc) h
theorem rP {x:Operand}{o:Nat}(hx:ρ.ev x= .pointer (some ⟨b,o+j,none⟩))(hy:ρ.ev y=u)(he:El w.heap T es v F css m b o)(hc:css[m]?=some c)(hj:j<es)(ho:oneC u=true)
 (h:∀w',Fr F w w'→w'.heap.size=w.heap.size→El w'.heap T es v F (css.set m (c.set j u)) m b o→Q0 P l Q ρ w'):Q0 P (⟨none, .store1 x y⟩::l) Q ρ w:=by
 subst hy;have hcl:c.length=es:=he.sl.1 c (Fa hc);obtain ⟨off,cap,arr,hv,g1,g2,g3,g4,g5,go⟩:=he.out;have hb:=ie (es:=es) he.lt;have hmul:css.length*es≤cap*es:=Ga es g1;exact ⟨_,_,hx,he.cell hc (E7 (show j<c.length by omega)),g2.free Jo,ho,h _ ((kX w b _ _).mono fun x _ hx=>(g5 x).2 hx) Js (he.set hc hj)⟩
theorem nh {x:Operand}{o:Nat}(hx:ρ.ev x= .pointer (some ⟨b,o,none⟩))(hy:ρ.ev y=u)(he:El w.heap T es v F css m b o)(hc:css[m]?=some c)(hj:0<es)(ho:oneC u=true)
 (h:∀w',Fr F w w'→w'.heap.size=w.heap.size→El w'.heap T es v F (css.set m (c.set 0 u)) m b o→Q0 P l Q ρ w'):Q0 P (⟨none, .store1 x y⟩::l) Q ρ w:=
 rP (j:=0) hx hy he hc hj ho h
theorem wV {x:Operand}{o:Nat}(hx:ρ.ev x= .pointer (some ⟨b,o,none⟩))(hy:ρ.ev y= .agg ⟨vs⟩)(hn:vs.length=n)(he:El w.heap T es v F css m b o)(hc:css[m]?=some c)(hl:vs.length=es)(ho:∀v∈vs,oneC v=true)
 (h:∀w',Fr F w w'→w'.heap.size=w.heap.size→El w'.heap T es v F (css.set m vs) m b o→Q0 P l Q ρ w'):Q0 P (⟨none, .storen n x y⟩::l) Q ρ w:=by
 subst hn;have hcl:c.length=es:=he.sl.1 c (Fa hc);obtain ⟨w',h1,h2,h3,h4⟩:=El.setn (P:=P) vs w css c 0 he hc Jo ho;refine ⟨_,_,w',hx,hy,rfl,h1,h w' h2 h3 ?_⟩;have:c.take 0++(vs++c.drop (0+vs.length))=vs:=Di;rw [this] at h4;exact h4

theorem Tn {x:Operand}(hx:ρ.ev x=v)(hs:Sl w.heap T es v F css)(hmx:mx=none)(hh:ML ρ css.length hi h')(hl:ML ρ 0 lo l')(h2:h'≤css.length)(h3:l'≤h')
 (h:∀v',Sl w.heap T es v' F ((css.take h').drop l')→Q0 P l Q (upd ρ d v') w):Q0 P (⟨none, .sub d es x lo hi mx⟩::l) Q ρ w:=by
 subst hmx;obtain ⟨hlen,⟨hv,hc,hF⟩|⟨b,off,cap,arr,hv,g1,g2,g3,g4,g5⟩⟩:=hs
 · subst hc hv;simp only [FF,Nat.le_zero_eq] at h2;subst h2;have:l'=0:=Df;subst this;refine gU (m:=0) hx rfl hh hl (FE _) (FE _) (FE _) ?_;simp only [if_true,Hk];exact h _ (by simpa using ⟨by simp, .inl ⟨rfl,rfl,hF⟩⟩)
 · subst hv
   refine gU (m:=cap) hx rfl hh hl (FE _) Jo h3 ?_;refine h _ ⟨fun c hc=>hlen c (Gv (HC hc)), .inr ?_⟩;have hl1:((css.take h').drop l').length=h' - l':=by simp;omega
   have hfl:∀i,i<(h' - l')*es→((css.take h').drop l').flatten[i]?=css.flatten[l'*es+i]?:=by
    intro i hi
    have e1:css=css.take l'++((css.take h').drop l'++css.drop h'):=by
     have:css.take l'=(css.take h').take l':=(by rw [List.take_take,IX h3]);rw [this,←GJ,GU,GU]
    have hlen':∀c∈css.take l',c.length=es:=fun c hc=>hlen c (Gv hc);have hlen2:∀c∈(css.take h').drop l',c.length=es:=fun c hc=>hlen c (Gv (HC hc));have f1:=RG hlen';have f2:=RG hlen2;rw [hl1] at f2;have ht:(css.take l').length=l':=Di;rw [ht] at f1
    conv=>rhs;rw [e1]
    simp only [G5];rw [Ff Jo,f1,Nat.add_sub_cancel_left,Fg Jo]
   have hm1:l'*es≤cap*es:=Ga es Jo;have hm2:(cap - l')*es=cap*es - l'*es:=Nat.sub_mul _ _ _;have hm3:(h' - l')*es+l'*es=h'*es:=(by rw [←HA];congr 1;omega);have hm4:h'*es≤css.length*es:=Ga es h2;by_cases hcl:cap=l'
   · rw [if_pos hcl]
     refine ⟨b,off,cap - l',arr,?_,Jo,g2,Jo,?_,g5⟩
     · rw [hl1]
     · intro i hi;rw [hl1] at hi;have:h' - l'=0:=Df;rw [this] at hi;omega
   · rw [if_neg hcl]
     refine ⟨b,off+l'*es,cap - l',arr,?_,Jo,g2,Jo,?_,g5⟩
     · rw [hl1];simp only [Gd,Pe]
     · intro i hi;rw [hl1] at hi;rw [hfl i hi,GR,g4 (l'*es+i) Jo]
end
end
section

def Ns (P:Program)(Ts:TypeId):Option (TypeId×Nat×Nat×List Value):=match P.underlying Ts with
 | some (.slice e)=>match P.info? e with
   | some i=>match i.zero with
     | some z=>if i.size=0∨i.bytes=0∨z.cells.size≠i.size then none else some (e,i.size,i.bytes,z.cells.toList)
     | none=>none
   | none=>none
 | _=>none

theorem lg {e:Nat}(h:Ns P Ts=some (e,es,nb,z)):
 ∃i zv,P.underlying Ts=some (.slice e)∧P.info? e=some i∧i.zero=some zv∧i.size=es∧i.bytes=nb∧zv.cells.toList=z∧0<es∧0<nb∧z.length=es:=by
 unfold Ns at h;split at h
 · rename_i e' hu
   split at h
   · rename_i i hi
     split at h
     · rename_i zv hz
       split at h
       · cases h
       · rename_i hc
         simp only [Fq,G4] at h;obtain ⟨rfl,rfl,rfl,rfl⟩:=h;refine ⟨i,zv,hu,hi,hz,rfl,rfl,rfl,Jo,Jo,?_⟩;have:zv.cells.size=i.size:=by omega
         simpa using this
     · cases h
   · cases h
 · cases h

def Tp (P:Program)(w:World)(es:Nat)(v:Value)(css:List (List Value)):Prop:=
 (Builtin.lenOf v).run P w= .ok css.length w∧(∀c∈css,c.length=es)∧(∀c∈css,∀u∈c,oneC u=true)∧
 ∀w',(∀b,b<w.heap.size→w'.heap[b]?=w.heap[b]?)→(Builtin.firstCells es css.length v).run P w'= .ok ⟨css.flatten⟩ w'

theorem Sl.src {v:Value}{F:Nat→Prop}(h:Sl w.heap T es v F css)(ho:∀c∈css,∀u∈c,oneC u=true):Tp P w es v css:=by
 have hlen:=h.1;refine ⟨?_,hlen,ho,?_⟩
 · obtain ⟨a,c,hv⟩:=h.shape;rw [hv];rfl
 · intro w' hw'
   obtain ⟨_,⟨hv,hc,_⟩|⟨b,off,cap,arr,hv,g1,g2,g3,g4,g5⟩⟩:=h
   · subst hv hc;rfl
   · subst hv;have g2':=g2.of_same (hw' b g2.lt);simp only [Builtin.firstCells];refine gD _ _ _ ⟨RG hlen,fun j hj=>?_⟩;rw [Pe];have hfl:=RG hlen;have hm:=Ga es g1;have:=g4 j Jo;rw [E7 (show j<css.flatten.length from hfl ▸ hfl ▸ hj)] at this ⊢;exact g2'.cell this

theorem Sl.fresh {H:KL}(hb:Lj H b T cs)(hf:css.flatten=cs)(hl:∀c∈css,c.length=es)(hn:css.length=n):
 Sl H T es (.slice (some ⟨b,0,none⟩) n n) (· =b) css:=by
 subst hn hf;refine ⟨hl, .inr ⟨b,0,css.length,css.flatten,rfl,FE _,hb,?_,?_,fun x=>Hl⟩⟩
 · rw [RG hl];omega
 · intro i _;rw [GF]

abbrev IB:=@Sl.fresh
theorem wW {zero:Array Value}:(Builtin.zeroCells zero n).toList.length=n*zero.size:=by simp [Builtin.zeroCells]

def nj (w:World)(T:TypeId)(es:Nat)(F:Nat→Prop)(css css2:List (List Value))(v':Value)(w':World):Prop:=
 ∃F',Sl w'.heap T es v' F' (css++css2)∧Fr F w w'∧∀b,F' b→F b∨w.heap.size≤b

theorem wX {Ts2 Ty e:Nat}(hel:Ns P Ts=some (e,es,nb,z))(hts:(∃e2,P.underlying Ts2=some (.slice e2))∨P.underlying Ts2=some .string)
 {v:Value}{F:Nat→Prop}{css2:List (List Value)}(hs:Sl w.heap e es v F css)(hsrc:Tp P w es v2 css2)(hb:(css.length+css2.length)*nb≤140737488355328):
 ∃v' w',(Builtin.append_ #[Ts,Ts2] Ty #[v,v2]).run P w= .ok v' w'∧nj w e es F css css2 v' w':=by
 obtain ⟨i,zv,hu,hi,hz,rfl,rfl,hzc,hes,hnb,hzl⟩:=lg hel;obtain ⟨hl2,hlen2,hone2,hfc2⟩:=hsrc;have hsz:(sizeOf e).run P w= .ok i.size w:=(by simp [sizeOf,gC P e i w hi]);have hlen:=hs.1;have hzs:zv.cells.size=i.size:=ED;have hsmall:css.length+css2.length≤140737488355328:=GL (Nat.le_mul_of_pos_right _ hnb) hb;have hf1:=RG hlen;have hf2:=RG hlen2
 -- the growing way
 have grow:∀(base:Option Addr) (cap:Nat),v= .slice base css.length cap→cap<css.length+css2.length→
  (∀w',(∀b,b<w.heap.size→w'.heap[b]?=w.heap[b]?)→(Builtin.firstCells i.size css.length v).run P w'= .ok ⟨css.flatten⟩ w')→
  ∃v' w',(Builtin.append_ #[Ts,Ts2] Ty #[v,v2]).run P w= .ok v' w'∧nj w e i.size F css css2 v' w':=by
  intro base cap hv hcap hold;have hq:Question.forced (.appendCap (css.length+css2.length) cap e)=false:=rfl
  let nc:=Question.cut (.appendCap (css.length+css2.length) cap e) (w.tape w.drawn (.appendCap (css.length+css2.length) cap e))
  have hnc:css.length+css2.length≤nc:=(by simp only [nc,Question.cut];omega);have h1:=hold w.drew (fun _ _=>rfl);have h2:=hfc2 w.drew (fun _ _=>rfl);have hgs:=growslice_fits hcap hb;refine ⟨.slice (some ⟨w.heap.size,0,none⟩) (css.length+css2.length) nc,w.drew.alloc (.cells (⟨css.flatten⟩++⟨css2.flatten⟩++Builtin.zeroCells zv.cells (nc - (css.length+css2.length))) e),?_,?_⟩
  · subst hv
    have hw:({w with drawn:=w.drawn+1}:World)=w.drew:=rfl;simp only [Builtin.append_,Hb,FQ,Gg,FH,Qb P Ts _ w hu,Fp,hsz];have hnr:¬(css.length+css2.length≤cap):=Df;have hnx:¬(Builtin.nextslicecap (css.length+css2.length) cap*i.bytes>2 ^ 48):=Df;rcases hts with ⟨e2,hd⟩|hd
    all_goals
     simp only [Qb P Ts2 _ w hd,Fp,FR,Fs,if_false,hl2,Sem.run_ite,if_neg hnr,FH,gC P e i _ hi,if_neg hnx]
    all_goals
     simp only [run_choose,hq,Fs,if_false,Fp,run_askRoom,hw];rw [h1];simp only [Fp,Ik,if_true];rw [h2];simp only [Fp,ZL P e zv _ Et,newRow,FH,run_newObj,FR];rw [if_neg (by rintro ⟨_,h|h⟩;exact h;omega)];rfl
  · have hblk:=fp w.drew ((⟨css.flatten⟩++⟨css2.flatten⟩++Builtin.zeroCells zv.cells (nc - (css.length+css2.length)):Array Value).toList) e
    refine ⟨(· =w.heap.size),⟨?_, .inr ⟨w.heap.size,0,nc,_,by simp,by simpa using hnc,hblk,?_,?_,fun x=>Hl⟩⟩,((aU w.drew _).drew).any,fun b hb=> .inr (HK hb.symm)⟩
    · intro c hc
      rcases FC.1 hc with hc|hc
      · exact hlen c hc
      · exact hlen2 c hc
    · simp only [It,Fc,wW,hf1,hf2,hzs,←HA,GF];exact Ga _ Jo
    · intro j hj;simp only [Fc] at hj;rw [GF,It,It,G5];rw [Fg (by simp only [Fc,hf1,hf2,←HA];exact hj)]
 obtain ⟨_,⟨hv,hc,hF⟩|⟨b,off,cap,arr,hv,g1,g2,g3,g4,g5⟩⟩:=hs
 · by_cases hc2:css2=[]
   · subst hc hc2 hv
     refine ⟨.slice none 0 0,w,?_,F,⟨by simp, .inl ⟨rfl,rfl,hF⟩⟩,HN _ _,fun b hb=> .inl hb⟩;have h2:=hfc2 w (fun _ _=>rfl);simp only [FF] at h2;simp only [Builtin.append_,Hb,FQ,Gg,FH,Qb P Ts _ w hu,Fp,hsz];rcases hts with ⟨e2,hd⟩|hd
     all_goals
      simp only [Qb P Ts2 _ w hd,FR,Fp,Fs,if_false,hl2,FF,H9,FE,if_true,Ik,FH];rw [h2];rfl
   · refine grow none 0 (by rw [hv,hc];rfl) ?_ ?_
     · have:0<css2.length:=Hn.2 hc2;omega
     · intro w' _;subst hv hc;rfl
 · by_cases hroom:css.length+css2.length≤cap
   · have hm:=Ga i.size hroom
     rw [HA] at hm;have h2:=hfc2 w (fun _ _=>rfl)
     have hone:∀u∈css2.flatten,oneC u=true:=by
      intro u hu;obtain ⟨c,hc,hu⟩:=List.mem_flatten.1 hu;exact hone2 c hc u hu
     obtain ⟨w',h3,h4,h5,h6⟩:=mU P b e css2.flatten w arr (off+css.length*i.size) 0 g2 Jo hone;refine ⟨.slice (some ⟨b,off,none⟩) (css.length+css2.length) cap,w',?_,F,⟨?_, .inr ⟨b,off,cap,_,by simp,by simpa using hroom,h6,?_,?_,g5⟩⟩,h4.mono (fun x _ hx=>(g5 x).2 hx),fun x hx=> .inl hx⟩
     · subst hv
       simp only [Builtin.append_,Hb,FQ,Gg,FH,Qb P Ts _ w hu,Fp,hsz];rcases hts with ⟨e2,hd⟩|hd
       all_goals
        simp only [Qb P Ts2 _ w hd,FR,Fp,Fs,if_false,hl2,hroom,if_true,Ik,FH];rw [h2];simp only [Fp,Pe,h3]
     · intro c hc
       rcases FC.1 hc with hc|hc
       · exact hlen c hc
       · exact hlen2 c hc
     · simp only [Fc,Gm,List.length_drop];omega
     · intro j hj
       simp only [Fc,HA] at hj;rw [G5];simp only [H9];have hlt:(arr.take (off+css.length*i.size)).length=off+css.length*i.size:=Di;by_cases hj1:j<css.length*i.size
       · rw [Fg Jo,F5 Jo,Fg Jo];exact g4 j hj1
       · rw [Ff Jo,hlt,Fg Jo,Ff Jo,hf1];congr 1;omega
   · refine grow (some ⟨b,off,none⟩) cap hv Jo ?_;intro w' hw';subst hv;have g2':=g2.of_same (hw' b g2.lt);simp only [Builtin.firstCells];refine gD _ _ _ ⟨hf1,fun j hj=>?_⟩;rw [Pe];have:=g4 j hj;rw [E7 (show j<css.flatten.length by omega)] at this ⊢;exact g2'.cell this

section
variable {P:Program}{l:List GO}{Q:QT}{ρ:KI}{w:World}

theorem Tq {Ts2 Ty e:Nat}{x:Operand}{v:Value}{F:Nat→Prop}{css2:List (List Value)}(hel:Ns P Ts=some (e,es,nb,z))
 (hts:(∃e2,P.underlying Ts2=some (.slice e2))∨P.underlying Ts2=some .string)(hx:ρ.ev x=v)(hy:ρ.ev y=v2)(hs:Sl w.heap e es v F css)(hsrc:Tp P w es v2 css2)(hb:(css.length+css2.length)*nb≤140737488355328)
 (h : ∀ v' w', nj w e es F css css2 v' w' → Q0 P l Q (upd ρ d v') w'): Q0 P (⟨none, .raw ⟨some d, .call ⟨.builtin .append, #[x, y], #[Ts, Ts2]⟩, Ty, "", #[], none⟩⟩ :: l) Q ρ w := by
 obtain ⟨v',w',hr,hp⟩:=wX (Ty:=Ty) hel hts hs hsrc hb;refine MM (v:=v') (w':=w') ?_ (h v' w' hp);simp only [execOp,resolve,FH,FR,Fp,invoke,builtin];have e1:(#[x,y].map ρ.ev)=#[v,v2]:=(by simp [hx,hy]);rw [e1,hr];rfl
theorem rQ (hz:z.length=es)(hes:0<es)(n:Nat):(List.range (n*es)).map (fun i=>z.getD (i % es) default)=(List.replicate n z).flatten:=by
 apply GY;intro i;have hl:∀c∈List.replicate n z,c.length=es:=(by intro c hc;rw [Gs hc];exact hz);have hfl:=RG hl;simp only [F6] at hfl;by_cases hi:i<n*es
 · have hq:i / es<n:=JL (by rw [IA];exact hi);have hm:i % es<es:=J0 _ hes;have e:=ic hl (m:=i / es) (j:=i % es) (c:=z) (by simp [hq]) hm;have hdm:i / es*es+i % es=i:=(by rw [IA];exact Nat.div_add_mod i es);rw [hdm] at e;rw [e];simp only [Fy,Ho hi,Gd];rw [E9,E7 (show i % es<z.length by omega)];rfl
 · rw [FI Di,FI Jo]

theorem ig {Ty e:Nat}{x:Operand}{n:Int}(hel:Ns P Ts=some (e,es,nb,z))(hx:ρ.ev x= .int k n)(hy:ρ.ev y= .int k' n)(h0:0≤n)(hn:n*nb≤281474976710656)
 (h:∀v' w',Fr NF w w'→Sl w'.heap e es v' (· =w.heap.size) (List.replicate n.toNat z)→w'.heap.size=w.heap.size+1→Q0 P l Q (upd ρ d v') w'):
 Q0 P (⟨none, .raw ⟨some d, .makeSlice Ts x y, Ty, "", #[], none⟩⟩ :: l) Q ρ w := by
 obtain ⟨i,zv,hu,hi,hz,rfl,rfl,hzc,hes,hnb,hzl⟩:=lg hel;have hzs:zv.cells.size=i.size:=by rw [←Gl,hzc];exact hzl
 have hle:n≤281474976710656:=by
  have:n*1≤n*i.bytes:=Int.mul_le_mul_of_nonneg_left Jo h0;omega
 have hwr:IntKind.i64.wrap n=n:=fw Jo Jo;have hfl:=rQ hzl hes n.toNat;have hl:∀c∈List.replicate n.toNat z,c.length=i.size:=EN;have hb:(i.bytes:Int)*n≤281474976710656:=by rw [Int.mul_comm];exact hn
 have hlarge:(n<0||decide ((i.bytes:Int)*n>2 ^ 48))=false:=by
  simp only [HD,decide_eq_false_iff_not];omega
 refine MM (v:= .slice (some ⟨w.heap.size,0,none⟩) n.toNat n.toNat) (w':=w.alloc (.cells ⟨(List.replicate n.toNat z).flatten⟩ e)) ?_ ?_
 · simp only [execOp,Instr.makeSlice,FH,Qb P Ts _ w hu,Fp,hx,hy,asInt,asIntOf,FR,gC P e i _ hi,hwr,hlarge,Ha]
   have hc2:(decide (n<0)||decide (n>n))=false:=(by simp only [HD,decide_eq_false_iff_not];omega);rw [hc2];simp only [Fs,if_false,FH,run_askRoom,Fp,Re P e i.size w (by simp [NV,hi])];by_cases hnz:n.toNat*i.size=0
   · rw [if_pos hnz]
     have hn0:n.toNat=0:=by
      rcases Nat.mul_eq_zero.1 hnz with h|h
      · exact h
      · omega
     simp only [FR,Fp,newRow,FH,run_newObj,hn0,Ib];have hr0:Array.range 0=#[]:=rfl;rw [hr0,Array.map_empty];rfl
   · rw [if_neg hnz]
     simp only [FH,ZL P e zv _ Et,FR,Fp,newRow,run_newObj]
     have harr:((Array.range (n.toNat*i.size)).map (zv.cells[· % zv.cells.size]!):Array Value)=⟨(List.replicate n.toNat z).flatten⟩:=by
      apply Ic;rw [←hfl];simp [hzs,←hzc];intro a _;rw [Ia,Ge]
     rw [harr];rfl
 · exact h _ _ (aU w _) (IB (fp w _ e) rfl hl Js) Js

def ZS (es:Nat)(v v':Value)(len l' h':Nat):Prop:=
 (v= .slice none 0 0∧v'= .slice none 0 0∧l'=0∧h'=0)∨
 ∃b off cap,v= .slice (some ⟨b,off,none⟩) len cap∧((l'=h'∧∃o c,v'= .slice (some ⟨b,o,none⟩) 0 c)∨v'= .slice (some ⟨b,off+l'*es,none⟩) (h' - l') (cap - l'))

theorem bn {T:Nat}{v:Value}{F:Nat→Prop}{x:Operand}(hx:ρ.ev x=v)(hs:Sl w.heap T es v F css)(hmx:mx=none)(hh:ML ρ css.length hi h')(hl:ML ρ 0 lo l')(h2:h'≤css.length)(h3:l'≤h')
 (h:∀v',ZS es v v' css.length l' h'→Q0 P l Q (upd ρ d v') w):Q0 P (⟨none, .sub d es x lo hi mx⟩::l) Q ρ w:=by
 subst hmx;obtain ⟨hlen,⟨hv,hc,hF⟩|⟨b,off,cap,arr,hv,g1,g2,g3,g4,g5⟩⟩:=hs
 · subst hc hv;simp only [FF,Nat.le_zero_eq] at h2;subst h2;have:l'=0:=Df;subst this;exact gU (m:=0) hx rfl hh hl (FE _) (FE _) (FE _) (h _ (.inl ⟨rfl,by simp,rfl,rfl⟩))
 · subst hv
   refine gU (m:=cap) hx rfl hh hl (FE _) Jo h3 (h _ (.inr ⟨b,off,cap,rfl,?_⟩));by_cases hcl:cap=l'
   · rw [if_pos hcl];exact .inl ⟨Jo,off,cap - l',by rw [show h' - l'=0 by omega]⟩
   · rw [if_neg hcl];exact .inr (by simp only [Gd,Pe])

theorem Xz {Ty e:Nat}{x:Operand}{v:Value}{F:Nat→Prop}(hel:Ns P Ts=some (e,es,nb,z))(hzo:∀u∈z,oneC u=true)(hx:ρ.ev x=v')(hs:Sl w.heap e es v F css)
 (hsub:ZS es v v' css.length l' h')(h1:l'≤h')(h2:h'≤css.length)
 (h:∀w',Fr F w w'→w'.heap.size=w.heap.size→Sl w'.heap e es v F (css.take l'++(List.replicate (h' - l') z++css.drop h'))→Q0 P l Q ρ w'):
 Q0 P (⟨none, .raw ⟨none, .call ⟨.builtin .clear, #[x], #[Ts]⟩, Ty, "", #[], none⟩⟩ :: l) Q ρ w := by
 obtain ⟨i,zv,hu,hi,hz,rfl,rfl,hzc,hes,hnb,hzl⟩:=lg hel;have hzs:zv.cells.size=i.size:=ED;have hl:∀c∈List.replicate (h' - l') z,c.length=i.size:=EN;have hfl:=rQ hzl hes (h' - l');have hfn:=RG hl;simp only [F6] at hfn;have e1:(#[x].map ρ.ev)=#[v']:=by simp [hx]
 have same:l'=h'→css.take l'++(List.replicate (h' - l') z++css.drop h')=css:=by
  intro e;subst e;simp
 have triv : ∀ (a : Option Addr) (c : Nat), v' = .slice a 0 c → l' = h' → Q0 P (⟨none, .raw ⟨none, .call ⟨.builtin .clear, #[x], #[Ts]⟩, Ty, "", #[], none⟩⟩ :: l) Q ρ w := by
  intro a c hv' hlh;refine MM (v:= .tuple #[]) (w':=w) ?_ (h w (HN _ _) rfl (by rw [same hlh];exact hs));subst hv';simp only [execOp,resolve,FH,FR,Fp,invoke,builtin,e1,Builtin.clear_,Hb,FQ,Qb P Ts _ w hu];cases a<;>rfl
 rcases hsub with ⟨_,hv',rfl,rfl⟩|⟨b0,off0,cap0,hv0,⟨hlh,o,c,hv'⟩|hv'⟩
 · exact triv _ _ hv' rfl
 · exact triv _ _ hv' hlh
 · by_cases hlh:l'=h'
   · exact triv _ _ (by rw [hv',hlh,Hk]) hlh
   · obtain ⟨hlen,⟨hv,_,_⟩|⟨b,off,cap,arr,hv,g1,g2,g3,g4,g5⟩⟩:=hs
     · rw [hv] at hv0;cases hv0
     · rw [hv] at hv0
       simp only [Value.slice.injEq,Fq,Addr.mk.injEq,and_true,true_and] at hv0;obtain ⟨⟨rfl,rfl⟩,rfl⟩:=hv0;subst hv';have hm:=Ga i.size g1;have hm2:=Ga i.size h2;have hm3:(h' - l')*i.size+l'*i.size=h'*i.size:=by rw [←HA];congr 1;omega
       obtain ⟨w',h3,h4,h5,h6⟩:=mU P b e (List.replicate (h' - l') z).flatten w arr (off+l'*i.size) 0 g2 Jo (by
        intro u hu;obtain ⟨c,hc,hu⟩:=List.mem_flatten.1 hu;rw [Gs hc] at hu;exact hzo u hu)
       simp only [H9] at h6
       have harr:(Builtin.zeroCells zv.cells (h' - l')).toList=(List.replicate (h' - l') z).flatten:=by
        rw [←hfl];simp [Builtin.zeroCells,hzs,←hzc];intro a _;rw [Ia,Ge]
       refine MM (v:= .tuple #[]) (w':=w') ?_ (h w' (h4.mono (fun x _ hx=>(g5 x).2 hx)) h5 ?_)
       · simp only [execOp,resolve,FH,FR,Fp,invoke,builtin,e1,Builtin.clear_,Hb,FQ,Qb P Ts _ w hu]
         cases hn:h' - l' with
         | zero=>omega
         | succ n=>
           rw [hn] at harr h3;simp only [FH,ZL P e zv _ Et,Fp,harr,h3,FR]
       · have hcl:(css.take l'++(List.replicate (h' - l') z++css.drop h')).length=css.length:=by simp;omega
         have hall:∀c∈css.take l'++(List.replicate (h' - l') z++css.drop h'),c.length=i.size:=by
          intro c hc;rcases FC.1 hc with hc|hc
          · exact hlen c (Gv hc)
          · rcases FC.1 hc with hc|hc
            · exact hl c hc
            · exact hlen c (HC hc)
         refine ⟨hall, .inr ⟨b,off,cap,_,by rw [hcl];exact hv,by rw [hcl];exact g1,h6,?_,?_,g5⟩⟩
         · simp only [Fc,Gm,List.length_drop,hfn];omega
         · intro j hj
           rw [hcl] at hj;have hlt:(arr.take (off+l'*i.size)).length=off+l'*i.size:=Di;have f1:=RG (css:=css.take l') (es:=i.size) (fun c hc=>hlen c (Gv hc));have ht:(css.take l').length=l':=Di;rw [ht] at f1;have e2:css.flatten=(css.take l').flatten++(css.drop l').flatten:=E6;have e3:css.flatten=(css.take h').flatten++(css.drop h').flatten:=E6;have f3:=RG (css:=css.take h') (es:=i.size) (fun c hc=>hlen c (Gv hc));have ht3:(css.take h').length=h':=Di;rw [ht3] at f3;simp only [G5];by_cases hj1:j<l'*i.size
           · rw [Fg Jo,F5 Jo,Fg Jo,g4 j hj,e2,Fg Jo]
           · by_cases hj2:j<h'*i.size
             · rw [Ff Jo,hlt,Fg Jo,Ff Jo,f1,Fg Jo];congr 1;omega
             · rw [Ff Jo,hlt,Ff Jo,G8,Ff Jo,f1,Ff Jo];have:=g4 j hj;rw [e3,Ff Jo,f3] at this;rw [show off+l'*i.size+(List.replicate (h' - l') z).flatten.length+(off+j - (off+l'*i.size) - (List.replicate (h' - l') z).flatten.length)=off+j by omega,this];congr 1;omega
end
end
section

def ij (H:KL)(b i:Nat):Option Value:=match H[b]? with
 | some (.cells c _ _)=>c[i]?
 | _=>none
theorem rR (w:World)(b i:Nat):w.cell? ⟨b,i,none⟩=ij w.heap b i:=by
 unfold World.cell? ij
 cases w.heap[b]? with
 | none=>rfl
 | some o=>cases o<;>rfl

def At (H:KL)(b o:Nat)(c:List Value):Prop:=∀(j:Nat) (u:Value),c[j]?=some u→ij H b (o+j)=some u

def Mx (H:KL)(es:Nat)(v:Value)(F:Nat→Prop)(css:List (List Value)):Prop:=
 (∀c∈css,c.length=es)∧∃a cap,v= .slice a css.length cap∧css.length≤cap∧
   (css=[]∨∃b off,a=some ⟨b,off,none⟩∧F b∧b<H.size∧∀(m:Nat) (c:List Value),css[m]?=some c→At H b (off+m*es) c)

theorem At.of_same {H H':KL}{o:Nat}(h:At H b o c)(he:H'[b]?=H[b]?):At H' b o c:=fun j u hj=>by
 have:=h j u hj;unfold ij at this ⊢;rw [he];exact this
theorem At.cell {o:Nat}(h:At w.heap b o c)(hj:c[j]?=some u):w.cell? ⟨b,o+j,none⟩=some u:=by rw [rR];exact h j u hj
theorem At.cells {o:Nat}(h:At w.heap b o c)(hv:(c.drop j).take n=vs)(hl:vs.length=n):ZJ w ⟨b,o+j,none⟩ n vs:=by
 refine ⟨hl,fun i hi=>?_⟩;rw [Pe,GR];have e:vs[i]?=c[j+i]?:=(by rw [←hv,F5 hi,G8]);have h1:vs.length=min n (c.length - j):=(by rw [←hv];simp);rw [e,E7 Jo];exact h.cell (E7 Jo)

theorem Mx.of_same {H H':KL}{v:Value}{F:Nat→Prop}(h:Mx H es v F css)(hs:∀b,F b→b<H.size→H'[b]?=H[b]?):Mx H' es v F css:=by
 obtain ⟨h0,a,cap,hv,hlc,hc|⟨b,off,ha,hF,hb,hat⟩⟩:=h
 · exact Bi
 · refine ⟨h0,a,cap,hv,hlc, .inr ⟨b,off,ha,hF,?_,fun m c hm=>(hat m c hm).of_same (hs b hF hb)⟩⟩
   have:=hs b hF hb;rcases GD b H'.size with h|h
   · exact h
   · rw [GP h,GW hb] at this;cases this
theorem Mx.fr {F:Nat→Prop}{v:Value}(h:Mx w.heap es v F css)(hf:Fr G w w')(hn:∀b,F b→¬G b):Mx w'.heap es v F css:=
 h.of_same fun b hb hlt=>hf.same b hlt (hn b hb)
theorem Mx.fr0 {F:Nat→Prop}{v:Value}(h:Mx w.heap es v F css)(hf:Fr NF w w'):Mx w'.heap es v F css:=h.fr hf fun _ _ h=>h
theorem Mx.mono {H:KL}{F:Nat→Prop}{v:Value}(h:Mx H es v F css)(hs:∀b,b<H.size→F b→G b):Mx H es v G css:=by
 obtain ⟨h0,a,cap,hv,hlc,hc|⟨b,off,ha,hF,hb,hat⟩⟩:=h
 · exact Bi
 · exact ⟨h0,a,cap,hv,hlc, .inr ⟨b,off,ha,hs b hb hF,hb,hat⟩⟩
abbrev IC:=@Mx.mono
theorem Mx.shape {H:KL}{v:Value}{F:Nat→Prop}(h:Mx H es v F css):∃a c,v= .slice a css.length c:=by
 obtain ⟨_,a,cap,hv,_⟩:=h;exact ⟨a,cap,hv⟩

theorem Sl.toR {H:KL}{v:Value}{F:Nat→Prop}(h:Sl H T es v F css):Mx H es v F css:=by
 obtain ⟨h0,⟨hv,hc,_⟩|⟨b,off,cap,arr,hv,g1,g2,g3,g4,g5⟩⟩:=h
 · subst hc;exact ⟨h0,none,0,hv,FE _, .inl rfl⟩
 · refine ⟨h0,_,cap,hv,g1, .inr ⟨b,off,rfl,(g5 b).2 rfl,g2.lt,fun m c hm j u hu=>?_⟩⟩
   have hm':m<css.length:=(E8.1 hm).1;have hcl:c.length=es:=h0 c (Fa hm);have hj:j<es:=(by have:=(E8.1 hu).1;omega);have hb:=ie (es:=es) hm';have:=g4 (m*es+j) Jo;rw [ic h0 hm hj,hu] at this;obtain ⟨fz,g2,_⟩:=g2;unfold ij;rw [g2,GR]
   simpa using this

theorem Mx.src {v:Value}{F:Nat→Prop}(h:Mx w.heap es v F css)(ho:∀c∈css,∀u∈c,oneC u=true):Tp P w es v css:=by
 obtain ⟨h0,a,cap,hv,hlc,hc⟩:=h;subst hv;refine ⟨rfl,h0,ho,?_⟩;intro w' hw';rcases hc with hc|⟨b,off,ha,hF,hb,hat⟩
 · subst hc;cases a<;>simp [Builtin.firstCells,loadCells,loadCellsFrom]
 · subst ha
   simp only [Builtin.firstCells];have hfl:=RG h0;refine gD _ _ _ ⟨hfl,fun j hj=>?_⟩;rw [Pe]
   have hes:0<es:=by
    rcases Iw es with h|h
    · subst h;simp at hj
    · exact h
   have hq:j / es<css.length:=JL (by rw [IA];exact hj);have hm:j % es<es:=J0 _ hes;have hdm:j / es*es+j % es=j:=(by rw [IA];exact Nat.div_add_mod j es);have hcm:css[j / es]?=some css[j / es]:=E7 hq;have e:=ic h0 hcm hm;rw [hdm] at e;have hcl:css[j / es].length=es:=h0 _ (Hi hq);rw [e,E7 Jo];have:=((hat _ _ hcm).of_same (hw' b hb)).cell (j:=j % es) (E7 Jo);rw [GR,hdm] at this;exact this

section
variable {P:Program}{l:List GO}{Q:QT}{ρ:KI}{w:World}{es:Nat}{v:Value}{F:Nat→Prop}{css:List (List Value)}

theorem XA {x:Operand}{o:Nat}(hx:ρ.ev x= .pointer (some ⟨b,o,none⟩))(ha:At w.heap b o c)(hu:c[0]?=some u)
 (h:Q0 P l Q (upd ρ d u) w):Q0 P (⟨none, .load1 d x⟩::l) Q ρ w:=kZ hx (by have:=ha.cell hu;simpa using this) h
theorem Tu {x:Operand}{o:Nat}(hx:ρ.ev x= .pointer (some ⟨b,o+j,none⟩))(ha:At w.heap b o c)(hu:c[j]?=some u)
 (h:Q0 P l Q (upd ρ d u) w):Q0 P (⟨none, .load1 d x⟩::l) Q ρ w:=kZ hx (ha.cell hu) h
theorem Tw {x:Operand}{o:Nat}(hx:ρ.ev x= .pointer (some ⟨b,o,none⟩))(ha:At w.heap b o c)(hl:c.length=n)
 (h:Q0 P l Q (upd ρ d (.agg ⟨c⟩)) w):Q0 P (⟨none, .loadn d n x⟩::l) Q ρ w:=
 rH hx (by have:=ha.cells (j:=0) (n:=n) (vs:=c) (by rw [F9,FM Jo]) hl;simpa using this) h
end


def Fits (P:Program)(T:TypeId){Hd:Type}(y:DataW Hd):Prop:=∀n∈y.weights P T,n≤reachBytes
theorem rT {P:Program}{e:TypeId}{Hd:Type}:∀{l:List (DataW Hd)}{d:DataW Hd},d∈l→∀n∈d.weights P e,n∈DataW.weightsAll P e l
 | [],_,h=>by cases h
 | x::l,d,h=>fun n hn=>by
   rw [DataW.weightsAll,FC];rcases FA.1 h with rfl|h
   · exact .inl hn
   · exact .inr (rT h n hn)
theorem nk {P:Program}{Hd:Type}:∀{ts:List TypeId}{l:List (DataW Hd)}{i:Nat}{t:TypeId}{d:DataW Hd},ts[i]?=some t→l[i]?=some d→∀n∈d.weights P t,n∈DataW.weightsEach P ts l
 | [],_,_,_,_,h,_=>by simp at h
 | _::_,[],_,_,_,_,h=>by simp at h
 | t::ts,x::l,0,_,_,h1,h2=>fun n hn=>by
   simp only [FQ,Fq] at h1 h2;subst h1 h2;rw [DataW.weightsEach,FC];exact .inl hn
 | t::ts,x::l,i+1,_,_,h1,h2=>fun n hn=>by
   rw [DataW.weightsEach,FC];exact .inr (nk (i:=i) D3 (by simpa using h2) n hn)
theorem NW {ts us:List TypeId}{l m:List (DataW Hd)}{i:Nat}{t:TypeId}{d:DataW Hd}(h:(DataW.weightsEach P (ts++us) (l++m)).all (· ≤reachBytes)=true)(h1:ts[i]?=some t)(h2:l[i]?=some d):Fits P t d:=by
 intro n hn;have h3:(ts++us)[i]?=some t:=(by rw [Fg (E8.1 h1).1];exact h1);have h4:(l++m)[i]?=some d:=(by rw [Fg (E8.1 h2).1];exact h2);have:=Gb.1 h n (nk h3 h4 n hn);exact of_decide_eq_true this
theorem rU {e:TypeId}{elems spare:List (DataW Hd)}(ht:P.underlying T=some (.slice e))(h:Fits P T (.slice elems spare))(hb:0<P.bytesOf e):elems.length≤140737488355328∧∀d∈elems,Fits P e d:=by
 unfold Fits at h;rw [DataW.weights,ht] at h;refine ⟨?_,fun d hd n hn=>h n (F3 _ (HE _ (rT hd n hn)))⟩;have h1:=h _ (Gi ..);have h2:elems.length*1≤(elems.length+spare.length)*P.bytesOf e:=Nat.mul_le_mul Jo hb;unfold reachBytes at h1;omega
theorem rV {fs:Array Field}{parts:List (DataW Hd)}(ht:P.underlying T=some (.struct fs))(h:Fits P T (.agg parts)){i:Nat}{f:Field}{d:DataW Hd}(hf:fs[i]?=some f)(hd:parts[i]?=some d):Fits P f.type d:=by
 unfold Fits at h;rw [DataW.weights,ht] at h;exact fun n hn=>h n (nk (i:=i) (by rw [Fy,Gr,hf];rfl) hd n hn)
structure Cod (P:Program) (T:TypeId) (α:Type) where
 es:Nat
 rd:KL→List Value→α→Prop
 size:P.cellsOf T=es
 len:∀H cs x,rd H cs x→cs.length=es
 stay:∀(H H':KL) cs x,rd H cs x→(∀b,b<H.size→H'[b]?=H[b]?)→rd H' cs x
 open_:∀{Hd:Type}(enc:TypeId×Value→Hd) (w:World) (fuel:Nat) (cs:List Value) (y:DataW Hd×List MemPlace),DataW.trod enc P w 0 (fun _=>true) true fuel T cs=some y→Fits P T y.1→∃x,rd w.heap cs x

def Cod.int {P:Program}{T:TypeId}(k:IntKind)(ht:P.underlying T=some (.int k))(hs:P.cellsOf T=1):Cod P T Int where
 es:=1
 rd:=fun _ cs n=>cs=[.int k n]∧(Lit.int k n).wf=true
 size:=hs
 len:=by rintro _ _ _ ⟨rfl,_⟩;rfl
 stay:=fun _ _ _ _ h _=>h
 open_:=fun enc w fuel cs y h _=>by
  obtain ⟨n,h1,_,h2⟩:=DataW.trod_int ht h;exact ⟨n,h1,h2⟩

def Cod.bool {P:Program}{T:TypeId}(ht:P.underlying T=some .bool)(hs:P.cellsOf T=1):Cod P T Bool where
 es:=1
 rd:=fun _ cs n=>cs=[.bool n]
 size:=hs
 len:=by rintro _ _ _ rfl;rfl
 stay:=fun _ _ _ _ h _=>h
 open_:=fun enc w fuel cs y h _=>by
  obtain ⟨n,h1,_⟩:=DataW.trod_bool ht h;exact ⟨n,h1⟩

theorem lh {a:Addr}(h:w.cells? 0 a n=some cs)(hn:0<n):a.spot=none∧a.block<w.heap.size∧At w.heap a.block a.off cs:=by
 obtain ⟨_,hl,hc⟩:=World.cells?_some h;have h0:=hc 0 hn;have hs:cs[0]?=some (cs[0]' Df):=E7 Jo;rw [hs] at h0;have hadd0:a.add 0=a:=rfl;rw [hadd0] at h0;obtain ⟨b,o,s⟩:=a
 have hsp:s=none:=by
  cases s with
  | none=>rfl
  | some x=>
    unfold World.cell? at h0;split at h0<;>simp at h0
 subst hsp;refine ⟨rfl,?_,fun j u hj=>?_⟩
 · rcases GD b w.heap.size with h|h
   · exact h
   · unfold World.cell? at h0;simp [GP h] at h0
 · have hlt:=(E8.1 hj).1;have:=hc j Jo;rw [Pe,hj,rR] at this;exact this

def Cod.slice {P:Program}{T e:TypeId}{α:Type}(c:Cod P e α)(ht:P.underlying T=some (.slice e))(hs:P.cellsOf T=1)(hes:0<c.es)(hby:decide (0<P.bytesOf e)=true):Cod P T (List α) where
 es:=1
 rd:=fun H cs xs=>∃v css,cs=[v]∧Mx H c.es v (fun _=>True) css∧css.length=xs.length∧xs.length≤140737488355328∧∀(m:Nat) (x:α),xs[m]?=some x→∃d,css[m]?=some d∧c.rd H d x
 size:=hs
 len:=by rintro _ _ _ ⟨v,css,rfl,_⟩;rfl
 stay:=by
  rintro H H' _ xs ⟨v,css,rfl,h1,h2,h3,h4⟩ hH;exact ⟨v,css,rfl,h1.of_same fun b _ hb=>hH b hb,h2,h3,fun m x hm=>by obtain ⟨d,h5,h6⟩:=h4 m x hm;exact ⟨d,h5,c.stay _ _ _ _ h6 hH⟩⟩
 open_ :=by
  intro Hd enc w fuel cs y h hfit;rcases J1 ht h with ⟨rfl,_⟩|⟨a,len,cap,m,n,D,Pl,rfl,_,hl,hm,hmm,hy,hi⟩
  · exact Cp
  · have hmc:m=cap:=by simpa using hmm
    subst hmc;rw [hy] at hfit;obtain ⟨hlen,hel0⟩:=rU ht hfit (of_decide_eq_true hby);simp only [Fb,HZ] at hlen
    -- each element
    have hel:∀i,i<len→∃(d:List Value) (x:α),w.cells? 0 (a.add (i*c.es)) c.es=some d∧c.rd w.heap d x:=by
     intro i hi';obtain ⟨d,h1,h2⟩:=hi i Jo;rw [c.size] at h1;obtain ⟨x,hx⟩:=c.open_ enc w n d _ h2 (hel0 _ (FU.2 ⟨i,FX.2 hi',rfl⟩));exact ⟨d,x,h1,hx⟩
    have build:∀n,n≤len→∃(css:List (List Value)) (xs:List α),css.length=n∧xs.length=n∧
     ∀m,m<n→∃d x,css[m]?=some d∧xs[m]?=some x∧w.cells? 0 (a.add (m*c.es)) c.es=some d∧c.rd w.heap d x:=by
     intro n
     induction n with
     | zero=>intro _;exact ⟨[],[],rfl,rfl,fun m hm=>absurd hm Jo⟩
     | succ n ih=>
       intro hn;obtain ⟨css,xs,h1,h2,h3⟩:=ih Jo;obtain ⟨d,x,h4,h5⟩:=hel n Jo;refine ⟨css++[d],xs++[x],by simp [h1],by simp [h2],fun m hm=>?_⟩;by_cases hmn:m=n
       · subst hmn;exact ⟨d,x,by rw [Ff Jo,h1];simp,by rw [Ff Jo,h2];simp,h4,h5⟩
       · obtain ⟨d',x',g1,g2,g3,g4⟩:=h3 m Jo;exact ⟨d',x',by rw [Fg Jo];exact g1,by rw [Fg Jo];exact g2,g3,g4⟩
    obtain ⟨css,xs,h1,h2,h3⟩:=build len (FE _);refine ⟨xs, .slice (some a) len m,css,rfl,⟨?_,some a,m,by rw [h1],Jo,?_⟩,Jo,Jo,?_⟩
    · intro d hd;obtain ⟨i,hi'⟩:=Gf.1 hd;have hlt:=(E8.1 hi').1;obtain ⟨d',x',g1,g2,g3,g4⟩:=h3 i Jo;rw [hi'] at g1;simp only [Fq] at g1;subst g1;exact c.len _ _ _ g4
    · rcases Iw len with h0|h0
      · exact .inl (Gq Jo)
      · obtain ⟨d0,x0,_,_,g3,_⟩:=h3 0 h0;obtain ⟨hsp,hbl,_⟩:=lh g3 hes;have ha0:a.add (0*c.es)=a:=(by rw [Ib];rfl);rw [ha0] at hsp hbl;obtain ⟨b,o,s⟩:=a;simp only at hsp;subst hsp;refine .inr ⟨b,o,rfl,trivial,hbl,fun i d hd=>?_⟩;have hlt:=(E8.1 hd).1;obtain ⟨d',x',g1,g2,g3,g4⟩:=h3 i Jo;rw [hd] at g1;simp only [Fq] at g1;subst g1;rw [Pe] at g3;exact (lh g3 hes).2.2
    · intro i x hx;have hlt:=(E8.1 hx).1;obtain ⟨d',x',g1,g2,g3,g4⟩:=h3 i Jo;rw [hx] at g2;simp only [Fq] at g2;subst g2;exact ⟨d',g1,g4⟩

def fieldAt (P:Program)(T:TypeId)(i:Nat):Option (Nat×Nat×TypeId):=match P.underlying T with
 | some (.struct fs)=>(fs[i]?).map fun f=>(f.offset,P.cellsOf f.type,f.type)
 | _=>none

theorem rW {enc:TypeId×Value→Hd}{fuel:Nat}{y:DataW Hd×List MemPlace}(h:DataW.trod enc P w 0 (fun _=>true) true fuel T cs=some y)
 {i o:Nat}{t:TypeId}(hf:fieldAt P T i=some (o,s,t))(hfit:Fits P T y.1):cs.length=P.cellsOf T∧∃n z,DataW.trod enc P w 0 (fun _=>true) true n t ((cs.drop o).take s)=some z∧Fits P t z.1:=by
 unfold fieldAt at hf;split at hf
 · rename_i fs hu
   simp only [GM,G4] at hf;obtain ⟨f,hf,rfl,rfl,rfl⟩:=hf;obtain ⟨xs,n,_,hy,hl,hx,hall⟩:=DataW.trod_struct hu h;have:=hall i f hf;have hlt:=(HQ.1 hf).1;refine ⟨hl,n,xs[i]' Df,?_,?_⟩
   · rw [this,E7 Jo]
   · rw [hy] at hfit;exact rV hu hfit hf E1
 · cases hf

end
section

theorem Sl.oneC {H:KL}{v:Value}{F:Nat→Prop}(h:Sl H T es v F css):Go.Lir.oneC v=true:=by
 obtain ⟨a,c,rfl⟩:=h.shape;rfl
theorem Mx.oneC {H:KL}{v:Value}{F:Nat→Prop}(h:Mx H es v F css):Go.Lir.oneC v=true:=by
 obtain ⟨a,c,rfl⟩:=h.shape;rfl
abbrev JN:=@Mx.oneC
theorem MQ (f:α→β)(l:List α)(d:α)(h:m<l.length):(l.map f)[m]?=some (f (l.getD m d)):=by
 simp [Fy,E9,E7 h]
theorem Tx {l:List α}{d:α}(h:m<l.length):l[m]?=some (l.getD m d):=by
 simp [E9,E7 h]
theorem rX {l:List α}(d:α){i:Nat}(h:i<l.length):l.take (i+1)=l.take i++[l.getD i d]:=by
 rw [H3,E7 h,E9,E7 h];rfl
theorem Tz {l:List α}{d:α}{i:Nat}(h:i<l.length):l.getD i d∈l:=by
 rw [E9,E7 h];exact Hi h
theorem Qj {n i:Int}(h:i<n):(n - (i+1)).toNat<(n - i).toNat:=by omega
theorem rY {l m:List α}(d:α)(h:l.length=m.length)(h2:∀j<l.length,l.getD j d=m.getD j d):l=m:=by
 apply IP h;intro j h3 h4;have:=h2 j h3
 simpa [E9,E7 h3,E7 h4] using this
theorem bo [DecidableEq α]:∀{a b:List α},a.Nodup→(∀x∈a,x∈b)→a.length≤b.length:=by
 intro a
 induction a with
 | nil=>intro b _ _;simp
 | cons x a ih=>
   intro b hn hs;obtain ⟨h1,h2⟩:=G9.1 hn;have hx:=hs x Js;have:=ih (b:=b.erase x) h2 fun y hy=>(List.mem_erase_of_ne (fun e=>by subst e;exact h1 hy)).2 (hs y (by simp [hy]));rw [Je hx] at this;have hp:=Hu hx;simp only [Fk];omega
theorem map_set (f:α→β)(l:List α)(m:Nat)(x:α):(l.map f).set m (f x)=(l.set m x).map f:=by
 simp [GA]
theorem nm (h:Lj w.heap b T [u])(ho:oneC u=true):Tp P w 1 (.slice (some ⟨b,0,none⟩) 1 1) [[u]]:=
 (IB (css:=[[u]]) h rfl Js rfl).src (by simpa using ho)
theorem XB (h:Lj w.heap b T c)(hn:c.length=n)(ho:∀u∈c,oneC u=true):Tp P w n (.slice (some ⟨b,0,none⟩) 1 1) [c]:=
 (IB (css:=[c]) h Js (by simpa using hn) rfl).src (by simpa using ho)
def iv:Value→Int
 | .int _ n=>n
 | _=>0
def QE (b:Bool):List Value:=[.bool b]
def Qr (n:Int):List Value:=[.int .i64 n]
theorem Q9p {l:List Int}:∀c∈l.map Qr,∀u∈c,oneC u=true:=by
 intro c hc u hu;obtain ⟨n,_,rfl⟩:=FU.1 hc;simp [Qr] at hu;subst hu;rfl
theorem fD {F:Nat→Prop}(hfr:Fr NF w0 w)(hlow:∀b,F b→w0.heap.size≤b)(hf:Fr F w w'):Fr NF w0 w':=hfr.trans hf (fun b hb hF=>absurd (hlow b hF) Jo)
theorem XC {ρ:KI}{o:Nat}{x:Operand}{v:Value}(hx:ρ.ev x= .pointer (some ⟨b,o,none⟩))(hb:Lj w.heap b T cs)(hv:cs[o]?=some v):Nr P ρ w ⟨none, .load1 d x⟩ v:=⟨_,hx,hb.cell hv⟩
theorem TA {ρ:KI}{o:Nat}{x:Operand}(hx:ρ.ev x= .pointer (some ⟨b,o,none⟩))(hb:Lj w.heap b T cs)(hv:(cs.drop o).take n=vs)(hl:vs.length=n):Nr P ρ w ⟨none, .loadn d n x⟩ (.agg ⟨vs⟩):=⟨_,vs,hx,hb.cells hv hl,rfl⟩
theorem XD {ρ:KI}{b:Bool}{o:LO}{v:Value}(hw:WJ (ρ s) b=false)(hv:v=undef):Nr P ρ w ⟨some (s,b),o⟩ v:=by simp [Nr,hw,hv]
theorem fE {ρ:KI}{b:Bool}{o:LO}{v:Value}(hw:ρ s= .bool b)(h:Nr P ρ w ⟨none,o⟩ v):Nr P ρ w ⟨some (s,b),o⟩ v:=by simp only [Nr,hw,WJ,beq_self_eq_true,if_true];exact h
theorem Fr.after {F:Nat→Prop}(h:Fr F w w')(k:Fr G w' w'')(hs:∀b,b<w.heap.size→G b→F b):Fr F w w'':=h.trans k hs
theorem Fr.then0 {F:Nat→Prop}(h:Fr F w w')(k:Fr NF w' w''):Fr F w w'':=h.trans k fun _ _ h=>h.elim
theorem Fr.into {F:Nat→Prop}(h:Fr G w w')(hs:∀x,G x→F x):Fr F w w':=h.mono fun x _ hx=>hs x hx
theorem Fr.cat {F:Nat→Prop}(h:Fr F w w')(k:Fr F w' w''):Fr F w w'':=h.trans k fun _ _ h=>h
structure Step (F F':Nat→Prop) (w w':World):Prop where
 fr:Fr F w w'
 sub:∀b,F' b→F b∨w.heap.size≤b
theorem Step.same {F:Nat→Prop}(h:Fr F w w'):Step F F w w':=⟨h,fun _ h=> .inl h⟩
abbrev H7:=@Step.same
theorem Step.out {F:Nat→Prop}(h:Step F F' w w')(hb:b<w.heap.size)(hn:¬F b):¬F' b:=fun hF=>(h.sub b hF).elim hn (fun hz=>absurd hz Jo)
theorem Step.trans {F F'':Nat→Prop}(h:Step F F' w w')(k:Step F' F'' w' w''):Step F F'' w w'':=
 ⟨h.fr.trans k.fr fun b hb hF=>(h.sub b hF).elim id (fun hz=>absurd hz Jo),fun b hb=>(k.sub b hb).elim (h.sub b) (fun hz=> .inr (GL h.fr.size hz))⟩
theorem Step.low {F:Nat→Prop}{z:Nat}(h:Step F F' w w')(hl:∀b,F b→z≤b)(hz:z≤w.heap.size):∀b,F' b→z≤b:=fun b hb=>(h.sub b hb).elim (hl b) (fun h=>GL hz h)
theorem Step.apart {F:Nat→Prop}(h:Step F F' w w')(hd:∀b,F b→¬G b)(hG:∀b,G b→b<w.heap.size):∀b,F' b→¬G b:=fun b hb hg=>(h.sub b hb).elim (fun hF=>hd b hF hg) (fun hz=>absurd (hG b hg) Jo)
structure Objs (A:KL→(Nat→Prop)→Prop):Prop where
 fr:∀{w w':World}{F G:Nat→Prop},A w.heap F→Fr G w w'→(∀b,F b→¬G b)→A w'.heap F
 lt:∀{H:KL}{F:Nat→Prop},A H F→∀b,F b→b<H.size
structure Two (w0 w:World) (A B:KL→(Nat→Prop)→Prop) (F G:Nat→Prop):Prop where
 oa:Objs A
 ob:Objs B
 p:A w.heap F
 q:B w.heap G
 d:∀b,F b→¬G b
 F0:∀b,F b→w0.heap.size≤b
 G0:∀b,G b→w0.heap.size≤b
 fr:Fr NF w0 w
theorem Two.fr0 {A B:KL→(Nat→Prop)→Prop}{F:Nat→Prop}(h:Two w0 w A B F G)(hf:Fr NF w w'):Two w0 w' A B F G:=
 ⟨h.oa,h.ob,h.oa.fr h.p hf (fun _ _ h=>h),h.ob.fr h.q hf (fun _ _ h=>h),h.d,h.F0,h.G0,h.fr.then0 hf⟩
theorem Two.own {A B:KL→(Nat→Prop)→Prop}{F:Nat→Prop}{x:Nat}(h:Two w0 w A B F G)(hf:Fr (· =x) w w')(h0:w0.heap.size≤x)(hF:¬F x)(hG:¬G x):Two w0 w' A B F G:=
 ⟨h.oa,h.ob,h.oa.fr h.p hf (fun b hb e=>hF (e ▸ hb)),h.ob.fr h.q hf (fun b hb e=>hG (e ▸ hb)),h.d,h.F0,h.G0,fD h.fr (fun b hb=>by rw [hb];exact h0) hf⟩
theorem Two.sp {A A' B:KL→(Nat→Prop)→Prop}{F:Nat→Prop}(h:Two w0 w A B F G)(oa:Objs A')(hp:A' w'.heap F')(hs:Step F F' w w'):Two w0 w' A' B F' G:=
 ⟨oa,h.ob,hp,h.ob.fr h.q hs.fr (fun b hb hF=>h.d b hF hb),hs.apart h.d (h.ob.lt h.q),hs.low h.F0 h.fr.size,h.G0,fD h.fr h.F0 hs.fr⟩
theorem ik {l:List α}{i:Nat}{x d:α}(hi:i<l.length):(l.set i x).getD j d=if i=j then x else l.getD j d:=by
 simp only [E9,Gz];by_cases h:i=j
 · subst h;simp [hi]
 · simp [h]
theorem nn:∀{l:List GO}{Q Q':QT}{ρ:KI}{w:World},(∀e ρ w,Q e ρ w→Q' e ρ w)→Q0 P l Q ρ w→Q0 P l Q' ρ w:=by
 intro l
 induction l with
 | nil=>intro Q Q' ρ w h hw;exact h _ _ _ hw
 | cons g l ih=>
   intro Q Q' ρ w h hw;obtain ⟨g,o⟩:=g
   cases g with
   | none=>exact B9
   | some p=>
     obtain ⟨s,b⟩:=p;simp only [Q0] at hw ⊢;by_cases hs:WJ (ρ s) b=true
     · rw [if_pos hs] at hw ⊢;exact B9
     · rw [if_neg hs] at hw ⊢;exact ih h hw
theorem lj {K K':KT}{Q Q':QT}(hk:∀ρ w,K ρ w→K' ρ w)(h:∀e ρ w,Q e ρ w→Q' e ρ w):∀e ρ w,Qs K Q e ρ w→Qs K' Q' e ρ w:=by
 intro e ρ w hq
 cases e with
 | normal=>exact hk _ _ hq
 | _=>exact h _ _ _ hq
theorem LC.wp_mono:∀{c:LC}{Q Q':QT}{ρ:KI}{w:World},(∀e ρ w,Q e ρ w→Q' e ρ w)→c.wp P Q ρ w→c.wp P Q' ρ w:=by
 intro c
 induction c with
 | skip=>intro Q Q' ρ w h hw;exact h _ _ _ hw
 | ops l=>intro Q Q' ρ w h hw;exact nn h hw
 | draw gs es=>intro Q Q' ρ w h hw;exact fun l hl=>nn h (hw l hl)
 | seq a b iha ihb=>intro Q Q' ρ w h hw;exact iha (lj (fun ρ w hb=>ihb h hb) h) hw
 | cond c a b iha ihb=>
   intro Q Q' ρ w h hw;obtain ⟨t,hc,hw⟩:=hw;refine ⟨t,hc,?_⟩;cases t
   · exact ihb h hw
   · exact iha h hw
 | block id a ih=>
   intro Q Q' ρ w h hw;refine ih ?_ hw;intro e ρ w hq
   cases e with
   | exit id'=>
     simp only [Qi] at hq ⊢;by_cases hs:id'=id
     · rw [if_pos hs] at hq ⊢;exact h _ _ _ hq
     · rw [if_neg hs] at hq ⊢;exact h _ _ _ hq
   | _=>exact h _ _ _ hq
 | loop a ih=>
   intro Q Q' ρ w h hw;obtain ⟨I,μ,h0,hr⟩:=hw;exact ⟨I,μ,h0,fun ρ w hI=>ih (lj (fun _ _ hk=>hk) h) (hr ρ w hI)⟩
 | exit id=>intro Q Q' ρ w h hw;exact h _ _ _ hw
 | ret=>intro Q Q' ρ w h hw;exact h _ _ _ hw
 | bad=>intro Q Q' ρ w h hw;exact hw.elim

def M1 (es:List (List Nat))(a b:Nat):List (List Nat):=es.set b (a::es.getD b [])
theorem il {es:List (List Nat)}{a i:Nat}(h:i≠b):(M1 es a b).getD i []=es.getD i []:=by
 simp [M1,E9,Ir h]
theorem wY {es:List (List Nat)}{a:Nat}(h:b<es.length):(M1 es a b).getD b []=a::es.getD b []:=by
 simp [M1,E9,h]
theorem rZ {es:List (List Nat)}{a:Nat}(hb:b<es.length):∀{l X:List Nat},a∈X→Sb es X l→Sb (M1 es a b) X l:=by
 intro l
 induction l with
 | nil=>intro X _ h i hi;exact h i (by simpa [M1] using hi)
 | cons i l ih=>
   intro X ha h;obtain ⟨h1,h2,h3,h4⟩:=h;refine ⟨by simpa [M1] using h1,h2,?_,ih (F3 _ ha) h4⟩;by_cases he:i=b
   · subst he;rw [wY hb];intro e hm
     rcases FA.1 hm with rfl|hm
     · exact ha
     · exact h3 e hm
   · rw [il he];exact h3
theorem Sg {es:List (List Nat)}{a:Nat}(ha:a<es.length)(hb:b<es.length)(hab:a≠b):∀{l X:List Nat},a∉X→b∉X→Sb es X l→Sb (M1 es a b) X l∨Sb (M1 es b a) X l:=by
 intro l
 induction l with
 | nil=>intro X h1 _ h;exact absurd (h a ha) h1
 | cons i l ih=>
   intro X hA hB h;obtain ⟨h1,h2,h3,h4⟩:=h;by_cases hia:i=a
   · subst hia;exact .inl ⟨by simpa [M1] using h1,h2,by rw [il hab];exact h3,rZ hb Js h4⟩
   · by_cases hib:i=b
     · subst hib;exact .inr ⟨by simpa [M1] using h1,h2,by rw [il (Ir hab)];exact h3,rZ ha Js h4⟩
     · rcases ih (X:=i::X) (by simp [Ir hia,hA]) (by simp [Ir hib,hB]) h4 with h|h
       · exact .inl ⟨by simpa [M1] using h1,h2,by rw [il hib];exact h3,h⟩
       · exact .inr ⟨by simpa [M1] using h1,h2,by rw [il hia];exact h3,h⟩

section
variable {P:Program}{l:List GO}{Q:QT}{ρ:KI}{w:World}
theorem OK {gs:List GO}{es:List (List Nat)}(a b:Nat)(hab:(decide (a<es.length) && decide (b<es.length) && !(a==b))=true)(h1:(LC.draw gs (M1 es a b)).wp P Q ρ w)(h2:(LC.draw gs (M1 es b a)).wp P Q ρ w):(LC.draw gs es).wp P Q ρ w:=by
 simp only [Fj,decide_eq_true_eq,GH,beq_eq_false_iff_ne,ne_eq] at hab;intro l hl;rcases Sg hab.1.1 hab.1.2 hab.2 Js Js hl with h|h
 · exact h1 l h
 · exact h2 l h
theorem wZ (k:Nat){e:TypeId}{a:Option Addr}{c:Nat}(ht:P.underlying T=some (.slice e)):(Op.equalIn (k+1) T (.slice a n c) (.slice none 0 0)).run P w0= .ok a.isNone w0:=by
 simp only [Op.equalIn,FH,Qb P T _ w0 ht,Fp];cases a<;>simp [FR]
theorem xa {e:TypeId}{a:Option Addr}{c:Nat}(ht:P.underlying T=some (.slice e)):(Op.equal T (.slice a n c) (.slice none 0 0)).run P w0= .ok a.isNone w0:=wZ 9999 ht
theorem WN {e:TypeId}{x:Operand}{a:Option Addr}{c:Nat}(ht:P.underlying T=some (.slice e))(hx:ρ.ev x= .slice a n c)(hy:ρ.ev y= .slice none 0 0)
 (h:Q0 P l Q (upd ρ d (.bool a.isNone)) w):Q0 P (⟨none, .bin d .eql T x y⟩::l) Q ρ w:=
 ⟨_,fun w0=>by
   rw [hx,hy];simp [eqGuard,binOp,xa ht],h⟩
theorem im {Ty e:Nat}(hel:Ns P Ts=some (e,es,nb,z))
 (h:∀v' w',Fr NF w w'→Sl w'.heap e es v' (· =w.heap.size) []→w'.heap.size=w.heap.size+1→Q0 P l Q (upd ρ d v') w'):
 Q0 P (⟨none, .raw ⟨some d, .buildSlice Ts 0 #[], Ty, "", #[], none⟩⟩ :: l) Q ρ w := by
 obtain ⟨i,zv,hu,hi,hz,rfl,rfl,hzc,hes,hnb,hzl⟩:=lg hel;refine MM (v:= .slice (some ⟨w.heap.size,0,none⟩) 0 0) (w':=w.alloc (.cells ⟨[]⟩ e)) ?_ ?_
 · simp only [execOp,Instr.buildSlice,FH,Qb P Ts _ w hu,Fp,Re P e i.size w (by simp [NV,hi])];simp [Instr.fill,newRow];have hr0:Array.range 0=#[]:=rfl;rw [hr0,Array.map_empty]
 · exact h _ _ (aU w _) (IB (css:=[]) (fp w [] e) rfl Js rfl) Js
theorem RH {a b:LC}(J:KI→World→Prop)(ha:a.wp P (Qs J Q) ρ w)(hb:∀ρ w,J ρ w→b.wp P Q ρ w):(LC.seq a b).wp P Q ρ w:=
 QA (LC.wp_mono (lj hb fun _ _ _ h=>h) ha)
theorem bp {x:Operand}(hx:ρ.ev x= .pointer (some ⟨b,0,none⟩))(h:Q0 P l Q (upd ρ d (.pointer (some ⟨b,off,none⟩))) w):Q0 P (⟨none, .fld d x off⟩::l) Q ρ w:=
 ZN hx (by rw [GF];exact h)
theorem np {x:Operand}{v:Value}(hx:ρ.ev x=v)(hc:v.cells=⟨cs⟩)(h:∀b w',b=w.heap.size→Fr NF w w'→w'.heap.size=w.heap.size+1→Lj w'.heap b T cs→Q0 P l Q (upd ρ d (.pointer (some ⟨b,0,none⟩))) w'):
 Q0 P (⟨none, .box d T x⟩::l) Q ρ w:=gQ (by rw [hx];exact hc) h
theorem nq {x:Operand}{o:Nat}{v:Value}(hx:ρ.ev x= .pointer (some ⟨b,o,none⟩))(hy:ρ.ev y=v)(hb:Lj w.heap b T cs)(hi:o<cs.length)(ho:oneC v=true)
 (hc:cs.set o v=cs')(h:∀w',Fr (· =b) w w'→w'.heap.size=w.heap.size→Lj w'.heap b T cs'→Q0 P l Q ρ w'):Q0 P (⟨none, .store1 x y⟩::l) Q ρ w:=by
 subst hc;exact rI hx hy hb hi ho h
theorem r5 {x:Operand}{o:Nat}(hx:ρ.ev x= .pointer (some ⟨b,o,none⟩))(hy:ρ.ev y= .agg ⟨vs⟩)(hn:vs.length=n)(hb:Lj w.heap b T cs)(hi:o+n≤cs.length)
 (ho:∀v∈vs,oneC v=true)(hc:cs.take o++(vs++cs.drop (o+n))=cs')(h:∀w',Fr (· =b) w w'→w'.heap.size=w.heap.size→Lj w'.heap b T cs'→Q0 P l Q ρ w'):Q0 P (⟨none, .storen n x y⟩::l) Q ρ w:=by
 subst hc;exact rJ hx hy hn hb hi ho h
theorem br {m:Nat}{x i:Operand}{v:Value}{F:Nat→Prop}(hx:ρ.ev x=v)(hi:ρ.ev i= .int k (m:Int))(hs:Sl w.heap T es v F css)(h1:m<css.length)
 (h:∀b o,El w.heap T es v F css m b o→Q0 P l Q (upd ρ d (.pointer (some ⟨b,o,none⟩))) w):Q0 P (⟨none, .idx d es x i⟩::l) Q ρ w:=ng hx hi hs Jo Jo h
theorem lk (hf:NG z []=some cs)(h:Q0 P l Q (upd ρ d (.agg ⟨cs⟩)) w):
 Q0 P (⟨none, .build d z []⟩::l) Q ρ w:=by
 exact bj hf h
theorem nr (h0:ρ.ev x0=v0)(hf:NG z [(o0,n0,v0)]=some cs)(h:Q0 P l Q (upd ρ d (.agg ⟨cs⟩)) w):
 Q0 P (⟨none, .build d z [(o0,n0,x0)]⟩::l) Q ρ w:=by
 subst h0;exact bj hf h
theorem Rh (h0:ρ.ev x0=v0)(hf:NG z [(o0,n0,v0)]=some cs)
 (h:∀b w',b=w.heap.size→Fr NF w w'→w'.heap.size=w.heap.size+1→Lj w'.heap b T cs→Q0 P l Q (upd ρ d (.slice (some ⟨b,0,none⟩) n n)) w'):
 Q0 P (⟨none, .buildS d T n z [(o0,n0,x0)]⟩::l) Q ρ w:=by
 subst h0;exact mZ hf h
theorem iq (h0:ρ.ev x0=v0)(h1:ρ.ev x1=v1)(hf:NG z [(o0,n0,v0),(o1,n1,v1)]=some cs)(h:Q0 P l Q (upd ρ d (.agg ⟨cs⟩)) w):
 Q0 P (⟨none, .build d z [(o0,n0,x0),(o1,n1,x1)]⟩::l) Q ρ w:=by
 subst h0 h1;exact bj hf h
theorem nu (h0:ρ.ev x0=v0)(h1:ρ.ev x1=v1)(hf:NG z [(o0,n0,v0),(o1,n1,v1)]=some cs)
 (h:∀b w',b=w.heap.size→Fr NF w w'→w'.heap.size=w.heap.size+1→Lj w'.heap b T cs→Q0 P l Q (upd ρ d (.slice (some ⟨b,0,none⟩) n n)) w'):
 Q0 P (⟨none, .buildS d T n z [(o0,n0,x0),(o1,n1,x1)]⟩::l) Q ρ w:=by
 subst h0 h1;exact mZ hf h
theorem TD (h0:ρ.ev x0=v0)(h1:ρ.ev x1=v1)(h2:ρ.ev x2=v2)(hf:NG z [(o0,n0,v0),(o1,n1,v1),(o2,n2,v2)]=some cs)(h:Q0 P l Q (upd ρ d (.agg ⟨cs⟩)) w):
 Q0 P (⟨none, .build d z [(o0,n0,x0),(o1,n1,x1),(o2,n2,x2)]⟩::l) Q ρ w:=by
 subst h0 h1 h2;exact bj hf h
theorem xb (h0:ρ.ev x0=v0)(h1:ρ.ev x1=v1)(h2:ρ.ev x2=v2)(hf:NG z [(o0,n0,v0),(o1,n1,v1),(o2,n2,v2)]=some cs)
 (h:∀b w',b=w.heap.size→Fr NF w w'→w'.heap.size=w.heap.size+1→Lj w'.heap b T cs→Q0 P l Q (upd ρ d (.slice (some ⟨b,0,none⟩) n n)) w'):
 Q0 P (⟨none, .buildS d T n z [(o0,n0,x0),(o1,n1,x1),(o2,n2,x2)]⟩::l) Q ρ w:=by
 subst h0 h1 h2;exact mZ hf h
theorem TG (h0:ρ.ev x0=v0)(h1:ρ.ev x1=v1)(h2:ρ.ev x2=v2)(h3:ρ.ev x3=v3)(hf:NG z [(o0,n0,v0),(o1,n1,v1),(o2,n2,v2),(o3,n3,v3)]=some cs)(h:Q0 P l Q (upd ρ d (.agg ⟨cs⟩)) w):
 Q0 P (⟨none, .build d z [(o0,n0,x0),(o1,n1,x1),(o2,n2,x2),(o3,n3,x3)]⟩::l) Q ρ w:=by
 subst h0 h1 h2 h3;exact bj hf h
theorem TH {o4 n4:Nat}{x4:Operand}{v4:Value}(h0:ρ.ev x0=v0)(h1:ρ.ev x1=v1)(h2:ρ.ev x2=v2)(h3:ρ.ev x3=v3)(h4:ρ.ev x4=v4)(hf:NG z [(o0,n0,v0),(o1,n1,v1),(o2,n2,v2),(o3,n3,v3),(o4,n4,v4)]=some cs)(h:Q0 P l Q (upd ρ d (.agg ⟨cs⟩)) w):
 Q0 P (⟨none, .build d z [(o0,n0,x0),(o1,n1,x1),(o2,n2,x2),(o3,n3,x3),(o4,n4,x4)]⟩::l) Q ρ w:=by
 subst h0 h1 h2 h3 h4;exact bj hf h
theorem xc {o4 n4 o5 n5 o6 n6 o7 n7 o8 n8 o9 n9 o10 n10 o11 n11 o12 n12 o13 n13 o14 n14:Nat}{x4 x5 x6 x7 x8 x9 x10 x11 x12 x13 x14:Operand}{v4 v5 v6 v7 v8 v9 v10 v11 v12 v13 v14:Value}(h0:ρ.ev x0=v0)(h1:ρ.ev x1=v1)(h2:ρ.ev x2=v2)(h3:ρ.ev x3=v3)(h4:ρ.ev x4=v4)(h5:ρ.ev x5=v5)(h6:ρ.ev x6=v6)(h7:ρ.ev x7=v7)(h8:ρ.ev x8=v8)(h9:ρ.ev x9=v9)(h10:ρ.ev x10=v10)(h11:ρ.ev x11=v11)(h12:ρ.ev x12=v12)(h13:ρ.ev x13=v13)(h14:ρ.ev x14=v14)(hf:NG z [(o0,n0,v0),(o1,n1,v1),(o2,n2,v2),(o3,n3,v3),(o4,n4,v4),(o5,n5,v5),(o6,n6,v6),(o7,n7,v7),(o8,n8,v8),(o9,n9,v9),(o10,n10,v10),(o11,n11,v11),(o12,n12,v12),(o13,n13,v13),(o14,n14,v14)]=some cs)(h:Q0 P l Q (upd ρ d (.agg ⟨cs⟩)) w):
 Q0 P (⟨none, .build d z [(o0,n0,x0),(o1,n1,x1),(o2,n2,x2),(o3,n3,x3),(o4,n4,x4),(o5,n5,x5),(o6,n6,x6),(o7,n7,x7),(o8,n8,x8),(o9,n9,x9),(o10,n10,x10),(o11,n11,x11),(o12,n12,x12),(o13,n13,x13),(o14,n14,x14)]⟩::l) Q ρ w:=by
 subst h0 h1 h2 h3 h4 h5 h6 h7 h8 h9 h10 h11 h12 h13 h14;exact bj hf h
end


theorem ir {l:List α}(h:l.length=1):∃a,l=[a]:=by
 match l,h with
 | [a],_=>exact ⟨a,rfl⟩
end
section
section
variable {P:Program}{T t0 t1 t2 t3 t4:TypeId}{α β γ δ ε:Type}{o0 s0 o1 s1 o2 s2 o3 s3 o4 s4:Nat}
end
end
end Go.Lir
