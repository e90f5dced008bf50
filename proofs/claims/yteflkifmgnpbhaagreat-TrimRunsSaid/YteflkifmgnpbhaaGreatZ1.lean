
/- Lemmas of the proof, part 1: what the functions of the program do (contracts), and what follows. -/
import Derived.WalkKit
import Derived.Below
import Derived.ProofKit
import Derived.Deep.Slices
import Derived.DeepKeys
import Derived.Laws.StructEq
namespace Go.Lir
abbrev EH:=@List.getElem?_eq_getElem
abbrev EI:=@List.mem_of_getElem?
abbrev EJ:=@List.getElem?_eq_some_iff
abbrev EK:=@List.length_map
abbrev EL:=@List.getD_eq_getElem?_getD
abbrev EM:=@List.length_append
abbrev EN:=@List.getElem?_map
abbrev EO:=@List.forall_mem_cons
abbrev EP:=@List.drop_of_length_le
abbrev ER:=@List.getElem?_append_left
abbrev ES:=@List.mem_cons
abbrev ET:=@List.length_cons
abbrev EV:=@List.getElem?_append_right
abbrev EW:=@Bool.and_eq_true
abbrev EX:=@Bool.false_eq_true
abbrev EY:=@List.not_mem_nil
abbrev EZ:=@Result.andThen_ok
abbrev E0:=@Option.some.injEq
abbrev E1:=@List.take_of_length_le
abbrev E3:=@List.mem_append
abbrev E4:=@Option.some.inj
abbrev E5:=@Int.toNat_natCast
abbrev E7:=@Nat.le_refl
abbrev E8:=@List.set_cons_zero
abbrev E9:=@List.mem_cons_of_mem
abbrev Fa:=@List.map_append
abbrev Fb:=@Int.toNat_of_nonneg
abbrev Fc:=@List.mem_map
abbrev Fe:=@List.length_set
abbrev Ff:=@List.length_nil
abbrev Fg:=@List.set_cons_succ
abbrev Fh:=@List.mem_cons_self
abbrev Fj:=@List.mem_iff_getElem?
abbrev Fk:=@List.getElem?_eq_none
abbrev Fo:=@Sem.run_bind
abbrev Fp:=@List.mem_singleton
abbrev Fs:=@Nat.le_succ
abbrev Fv:=@Classical.byContradiction
abbrev Fx:=@Nat.le_of_ble_eq_true
abbrev Fy:=@Classical.not_not
abbrev Fz:=@List.mem_range
abbrev FA:=@List.append_nil
abbrev FB:=@Nat.zero_le
abbrev FC:=@Sem.run_pure
abbrev FD:=@List.getElem?_set
abbrev FE:=@List.map_congr_left
abbrev FG:=@List.cons.injEq
abbrev FH:=@List.getElem?_take_of_lt
abbrev FJ:=@List.getElem?_cons_zero
abbrev FM:=@List.map_cons
abbrev FN:=@List.all_eq_true
abbrev FO:=@List.length_replicate
abbrev FP:=@Option.map_some
abbrev FQ:=@Nat.mul_le_mul_right
abbrev FR:=@List.flatMap_cons
abbrev FU:=@List.drop_zero
abbrev FV:=@List.getElem?_cons_succ
abbrev FW:=@List.getElem?_replicate
abbrev FX:=@List.append_assoc
abbrev FZ:=@Array.length_toList
abbrev F3:=@Nat.le_trans
abbrev F4:=@List.map_set
abbrev F5:=@Array.getD_eq_getD_getElem?
abbrev F6:=@List.eraseIdx_cons_succ
abbrev F7:=@Nat.zero_add
abbrev F8:=@List.length_take
abbrev Ga:=@List.eq_nil_of_length_eq_zero
abbrev Gb:=@Array.getElem?_toList
abbrev Gc:=@Nat.lt_or_ge
abbrev Gd:=@List.getElem?_set_ne
abbrev Ge:=@Bool.not_eq_true'
abbrev Gf:=@List.getElem?_set_self
abbrev Gg:=@List.ext_getElem?
abbrev Gk:=@List.getElem_mem
abbrev Gl:=@Nat.sub_self
abbrev Gm:=@List.eq_of_mem_replicate
abbrev Gn:=@List.map_map
abbrev Gr:=@List.range_eq_range'
abbrev Gs:=@List.eraseIdx_cons_zero
abbrev Gt:=@List.length_eq_zero_iff
abbrev Gu:=@List.mem_map_of_mem
abbrev Gv:=@Option.map_eq_some_iff
abbrev Gw:=@Array.getElem?_eq_none
abbrev Gx:=@Nat.add_assoc
abbrev Gz:=@List.cons_append
abbrev GA:=@Option.getD_some
abbrev GB:=@List.take_zero
abbrev GC:=@List.take_append_drop
abbrev GF:=@Array.getElem?_eq_getElem
abbrev GG:=@List.nodup_cons
abbrev GH:=@List.mem_filter
abbrev GI:=@List.nodup_append
abbrev GJ:=@Prod.mk.injEq
abbrev GL:=@Nat.eq_zero_or_pos
abbrev GM:=@Nat.lt_of_lt_of_le
abbrev GN:=@List.getElem?_drop
abbrev GP:=@Bool.false_or
abbrev GR:=@List.set_append_right
abbrev GS:=@List.take_add_one
abbrev GU:=@List.flatten_cons
abbrev GV:=@Iff.rfl
abbrev GW:=@List.mem_of_mem_take
abbrev GY:=@List.countP_cons
abbrev G3:=@Nat.succ_mul
abbrev G4:=@Ne.symm
abbrev G5:=@List.perm_middle
abbrev G6:=@List.mem_flatMap
abbrev G7:=@Bool.or_eq_true
abbrev G8:=@List.foldl_cons
abbrev G9:=@List.set_eq_take_append_cons_drop
abbrev Ha:=@List.length_range
abbrev Hb:=@List.length_pos_of_mem
abbrev Hf:=@List.length_singleton
abbrev Hg:=@List.countP_le_length
abbrev Hh:=@List.range'_succ
abbrev Hj:=@List.sum_cons
abbrev Hk:=@Bool.or_eq_false_iff
abbrev Hl:=@Eq.trans
abbrev Hm:=@List.contains_eq_mem
abbrev Hq:=@List.range_succ
abbrev Hr:=@List.filterMap_cons
abbrev Hs:=@List.flatMap_append
abbrev Ht:=@List.getElem?_range
abbrev Hu:=@Bool.true_or
abbrev Hv:=@List.set_set
abbrev Hw:=@Nat.add_zero
abbrev Hz:=@Array.getElem?_eq_some_iff
abbrev HA:=@Option.any_eq_true
abbrev HB:=@List.getElem_range
abbrev HC:=@List.countP_append
abbrev HI:=@List.pairwise_iff_getElem
abbrev HJ:=@List.mem_or_eq_of_mem_set
abbrev HK:=@Nat.add_mul
abbrev HL:=@List.any_cons
abbrev HQ:=@Int.eq_ofNat_of_zero_le
abbrev HS:=@List.take_length
abbrev HU:=@Nat.zero_mul
abbrev HV:=@Array.ext'
abbrev HY:=@List.nil_append
abbrev HZ:=@List.getElem?_toArray
abbrev H2:=@Nat.eq_of_beq_eq_true
abbrev H3:=@List.sizeOf_lt_of_mem
abbrev H4:=@List.eq_nil_or_concat
abbrev H5:=@List.perm_append_comm
abbrev H6:=@List.replicate_succ'
abbrev H7:=@List.map_id
abbrev H8:=@Bool.not_false
abbrev H9:=@List.mem_append_left
abbrev Ia:=@List.mem_of_mem_drop
abbrev Ii:=@Array.toList_append
abbrev Ij:=@List.length_pos_iff
abbrev Ik:=@List.flatten_append
abbrev Il:=@List.take_succ_cons
abbrev Im:=@Nat.add_left_comm
abbrev Io:=@List.map_nil
abbrev Ip:=@List.pairwise_map
abbrev Iq:=@Nat.mul_comm
abbrev Ir:=@Array.all_eq_true_iff_forall_mem
abbrev Is:=@List.take_succ_eq_append_getElem
abbrev Iz:=@Array.getElem?_setIfInBounds_ne
abbrev IA:=@List.ext_getElem
abbrev IB:=@List.take_append
abbrev IC:=@Array.eq_empty_of_size_eq_zero
abbrev ID:=@List.drop_append
abbrev IG:=@List.take_append_of_le_length
abbrev IH:=@Int.le_refl
abbrev IJ:=@Option.map_none
abbrev IK:=@List.mapM_cons
abbrev IL:=@List.nodup_nil
abbrev IM:=@Nat.mod_lt
abbrev IN:=@Bool.false_and
abbrev IQ:=@Array.mapM_eq_mapM_toList
abbrev IS:=@List.getElem_append_right
abbrev IT:=@List.getElem?_eq_none_iff
abbrev IU:=@Option.isSome_iff_exists
abbrev IV:=@Bool.not_true
abbrev IW:=@List.length_erase_of_mem
abbrev I0:=@List.filter_cons_of_neg
abbrev I2:=@Nat.le_of_eq
abbrev I3:=@Int.add_zero
abbrev I4:=@Array.getElem!_eq_getD
abbrev I5:=@Nat.add_comm
abbrev I6:=@Decidable.em
abbrev Jh:=@List.length_filter_le
abbrev Ji:=@List.countP_eq_length
abbrev Jj:=@Array.getElem?_modify
abbrev Jl:=@Classical.not_forall
abbrev Jm:=@List.drop_eq_nil_iff
abbrev Jn:=@Nat.div_lt_of_lt_mul
abbrev JB:=@List.countP_pos_iff
abbrev JC:=@List.filter_append
abbrev JD:=@List.map_replicate
abbrev JE:=@List.pairwise_cons
abbrev JF:=@Go.Deep.open_slice
abbrev JG:=@Option.isSome_none
abbrev JM:=@Nat.lt_trichotomy
abbrev JN:=@Array.any_eq_true
end Go.Lir
open Go
variable {α β:Type}{P:Program}{w w' w'' w0:World}{n d cap m j b l' es id off h' Ts nb Ts2 o0 n0 o1 n1 o2 n2 o3 n3:Nat}{ds:List Deferred}{f:FuncId}{args c cs vs us:List Value}{fn:Func}{T T':TypeId}{xs:List Operand}{k k':IntKind}{lo hi mx:Option Operand}{mixed:Bool}{os:Array Oper}{R:Ending→World→Prop}{rs:List ResultVar}{ms:List Nat}{G F':Nat→Prop}{p:Prop}{u v2 v0 v1 v3 u0 u1:Value}{ps:List (Nat×Nat×Operand)}{S:Value→World→Prop}{css css2 css':List (List Value)}{x0 x1 x2 x3:Operand}
set_option linter.unusedVariables false
set_option linter.unusedSimpArgs false
set_option maxHeartbeats 1000000
namespace Go.Lir
section
variable {p:Prop}
theorem Dc (h:p:=by omega):p:=h
theorem De (h:p:=by simp;omega):p:=h
theorem Dh (h:p:=by simpa using h):p:=h
theorem Du (h:p:=by simp [hx]):p:=h
theorem Dy (h:p:=by rw [decide_eq_true hp];exact h):p:=h
theorem Dz (h:p:=by rw [decide_eq_false hp];exact h):p:=h
theorem DE (h:p:=by simp [hc]):p:=h
theorem DO (h:p:=by simpa using hi):p:=h
theorem D3 (h:p:=by apply HV;simpa using hxs):p:=h
theorem D6 (h:p:=by rw [hJ.hC];simp [hc]):p:=h
theorem D7 (h:p:=by rw [←hJ.hC];exact hok):p:=h
theorem D8 (h:p:=by rw [←Gb] at hi;exact EI hi):p:=h
theorem Ew (h:p:=by rw [EN,EH Jo];rfl):p:=h
theorem EC (h:p:=by rw [List.mem_zipIdx_iff_getElem?];simpa using ho):p:=h
end
end Go.Lir
namespace Go.Lir
section
variable {p:Prop}
theorem Bj (h:p:=by exact ⟨h0,a,cap,hv,hlc, .inl hc⟩):p:=h
theorem B6 (h:p:=by exact xe ht (fun s hs=>h s (by simp [GO.uses,hs])) hk hq hw):p:=h
theorem B9 (h:p:=by exact mc (fst:=#[]) (cap:=#[]) rfl h1 h2 h3 (by simpa [LO.wp] using h)):p:=h
theorem Ch (h:p:=by exact ⟨[], .slice none 0 0,[],rfl,⟨by simp,none,0,rfl,E7 _, .inl rfl⟩,rfl,by simp,by simp⟩):p:=h
theorem CQ (h:p:=by exact me (fun ρ w hk=>ih h hk) (fun e ρ w _ hq=>h _ _ _ hq) hw):p:=h
end
end Go.Lir
namespace Go.Lir
section
variable {p:Prop}
theorem Jo (h:p:=by omega):p:=h
theorem Jd (h:p:=by decide):p:=h
theorem Js (h:p:=by simp):p:=h
theorem Jk (h:p:=by kernel_rfl):p:=h
theorem Jr (h:p:=by rfl):p:=h
theorem Ja (h:p:=by assumption):p:=h
end
end Go.Lir
namespace Go.Lir
section

abbrev Km:=Nat→Value

def upd (ρ:Km)(d:Nat)(v:Value):Km:=fun i=>bif Nat.beq i d then v else ρ i

def Km.ev (ρ:Km):Operand→Value
 | .tmp t=>ρ t
 | .const v=>v
 | .global g=> .pointer (some ⟨g,0,none⟩)
 | .func f=> .func (.func f) #[] #[]

def KC (ρ:Km)(d:Option Nat)(v:Value):Km:=match d with|some d=>upd ρ d v|none=>ρ

def N8 (n:Nat)(ρ:Km)(ds:List Deferred)(a:Act):Prop:=a.tmps.size=n∧(∀i,a.tmps.getD i undef=ρ i)∧a.defers=ds

theorem N8.ev {n ρ ds a}(h:N8 n ρ ds a):a.eval=ρ.ev:=by
 funext x;cases x<;>simp [Act.eval,Km.ev,h.2.1]

theorem N8.put {n ρ ds a}(h:N8 n ρ ds a)(d:Option Nat)(v:Value)(hd:∀x,d=some x→x<n):N8 n (KC ρ d v) ds (a.put d v):=by
 cases d with
 | none=>exact h
 | some d=>
   have hdn:=hd d rfl;obtain ⟨h1,h2,h3⟩:=h;refine ⟨by simp [Act.put,h1],fun i=>?_,h3⟩;have:=h2 i;simp only [Act.put,KC,upd];by_cases hi:i=d
   · subst hi;simp [Array.getD,h1,hdn]
   · have hb:Nat.beq i d=false:=by
      cases hbb:Nat.beq i d
      · rfl
      · exact absurd (H2 hbb) hi
     rw [hb];simp only [cond_false];rw [←this];simp only [F5];rw [Iz Jo]

abbrev QT:=Exit→Km→World→Prop
abbrev KT:=Km→World→Prop

def ZJ (n:Nat)(ds:List Deferred)(K:KT):Act→World→Prop:=fun a w=>∃ρ,N8 n ρ ds a∧K ρ w
def ZK (n:Nat)(ds:List Deferred)(Q:QT):Exit→Act→World→Prop:=fun e a w=>∃ρ,N8 n ρ ds a∧Q e ρ w

def Ph (P:Program)(o:Oper)(ρ:Km)(w:World)(K:KT)(Q:QT):Prop:=
 match (execOp ρ.ev o).run P w with
 | .ok (.value v) w'=>K (KC ρ o.dst v) w'
 | .ok .skip w'=>K (KC ρ o.dst undef) w'
 | .ok (.enter f args) w'=>Calls P f args w' fun
    | .returned v,w''=>K (KC ρ o.dst v) w''
    | .panicked chain,w''=>Q (.panic chain) ρ w''
    | .outgrown,_=>Q .outgrown ρ w'
 | .ok (.row row args) w'=>Rows P row args w' fun v w''=>K (KC ρ o.dst v) w''
 | .halt (.panic v) w'=>Q (.panic [{v,recovered:=false}]) ρ w'
 | _=>False

theorem ra {o:Oper}{ρ:Km}{K:KT}{Q:QT}{a:Act}
 (hr:N8 n ρ ds a)(hd:∀x,o.dst=some x→x<n)(h:Ph P o ρ w K Q):o.wp P a w (ZJ n ds K) (ZK n ds Q):=by
 unfold Oper.wp;rw [hr.ev];unfold Ph at h;generalize (execOp ρ.ev o).run P w=r at h;unfold Oper.upon;split at h
 · exact ⟨_,hr.put _ _ hd,h⟩
 · exact ⟨_,hr.put _ _ hd,h⟩
 · refine h.mono fun e w'' h=>?_
   cases e with
   | returned v=>exact ⟨_,hr.put _ _ hd,h⟩
   | panicked ch=>exact ⟨_,hr,h⟩
   | outgrown=>exact ⟨a,_,_,hr,h⟩
 · exact h.mono fun v w' h=>⟨_,hr.put _ _ hd,h⟩
 · exact ⟨_,hr,h⟩
 · exact h.elim

def oneC:Value→Bool
 | .agg _| .tuple _=>false
 | _=>true

def Ng (cells:List Value):List (Nat×Nat×Value)→Option (List Value)
 | []=>some cells
 | (off,size,v)::rest=>
   if v.cells.size=size∧off+size≤cells.length then Ng (cells.take off++(v.cells.toList++cells.drop (off+size))) rest
   else none


inductive LO where
 | mov (d:Nat) (x:Operand)
 | pick (d:Nat) (c x y:Operand)
 | un (d:Nat) (op:UnOp) (x:Operand)
 | bin (d:Nat) (op:BinOp) (T:TypeId) (x y:Operand)
 | nilc (d:Nat) (x:Operand)
 | fld (d:Nat) (x:Operand) (off:Nat)
 | load1 (d:Nat) (x:Operand)
 | loadn (d:Nat) (n:Nat) (x:Operand)
 | store1 (x v:Operand)
 | storen (n:Nat) (x v:Operand)
 | idx (d:Nat) (es:Nat) (x i:Operand)
 | idxa (d:Nat) (n es:Nat) (x i:Operand)
 | len (d:Nat) (x:Operand)
 | slen (d:Nat) (x:Operand)
 | sidx (d:Nat) (x i:Operand)
 | ext (d:Nat) (x:Operand) (i:Nat)
 | fldv (d:Nat) (x:Operand) (off:Nat)
 | fldn (d:Nat) (x:Operand) (off n:Nat)
 | alloc (d:Nat) (T:TypeId) (zero:List Value)
 | box (d:Nat) (T:TypeId) (x:Operand)
 | call (d:Option Nat) (f:FuncId) (xs:List Operand)
 | callv (d:Option Nat) (x:Operand) (xs:List Operand)
 | build (d:Nat) (zero:List Value) (parts:List (Nat×Nat×Operand))
 | buildS (d:Nat) (T:TypeId) (n:Nat) (zero:List Value) (parts:List (Nat×Nat×Operand))
 | mkfn (d:Nat) (f:FuncId) (caps:List Operand)
 | sub (d:Nat) (es:Nat) (x:Operand) (lo hi mx:Option Operand)
 | ssub (d:Nat) (x:Operand) (lo hi:Option Operand)
 | mnx (d:Nat) (isMax:Bool) (x y:Operand)
 | conv (d:Nat) (k:IntKind) (x:Operand)
 | mki (d:Nat) (T:TypeId) (x:Operand)
 | raw (o:Oper)

def LO.dst:LO→Option Nat
 | .mov d _| .pick d ..| .un d ..| .bin d ..| .nilc d _| .fld d ..| .load1 d _| .loadn d ..| .idx d ..| .idxa d ..| .len d _| .slen d _| .sidx d ..| .ext d ..
 | .fldv d ..| .fldn d ..| .alloc d ..| .box d ..| .build d ..| .buildS d ..| .mkfn d ..| .sub d ..| .ssub d ..| .mnx d ..| .conv d ..| .mki d ..=>some d
 | .store1 ..| .storen ..=>none
 | .call d ..| .callv d ..=>d
 | .raw o=>o.dst

def ZL (w:World)(a:Addr)(n:Nat)(cs:List Value):Prop:=cs.length=n∧∀j,j<n→w.cell? (a.add j)=cs[j]?

def ME (ρ:Km)(dflt:Nat):Option Operand→Nat→Prop
 | none,n=>n=dflt
 | some x,n=>∃k,ρ.ev x= .int k n

def Q5 (K:KT)(Q:QT)(d:Option Nat)(ρ:Km)(w:World):Ending→World→Prop
 | .returned v,w''=>K (KC ρ d v) w''
 | .panicked chain,w''=>Q (.panic chain) ρ w''
 | .outgrown,_=>Q .outgrown ρ w

def LO.wp (P:Program)(ρ:Km)(w:World)(K:KT)(Q:QT):LO→Prop
 | .mov d x=>K (upd ρ d (ρ.ev x)) w
 | .pick d c x y=>∃b,ρ.ev c= .bool b∧K (upd ρ d (if b then ρ.ev x else ρ.ev y)) w
 | .un d op x=>∃v,(∀w0,(Op.unary op (ρ.ev x)).run P w0= .ok v w0)∧K (upd ρ d v) w
 | .bin d op T x y=>∃v,(∀w0,(do eqGuard op T x y (ρ.ev x) (ρ.ev y);binOp op T (ρ.ev x) (ρ.ev y)).run P w0= .ok v w0)∧K (upd ρ d v) w
 | .nilc d x=>∃a,ρ.ev x= .pointer (some a)∧K (upd ρ d (.pointer (some a))) w
 | .fld d x off=>∃a,ρ.ev x= .pointer (some a)∧K (upd ρ d (.pointer (some (a.add off)))) w
 | .load1 d x=>∃a v,ρ.ev x= .pointer (some a)∧w.cell? a=some v∧K (upd ρ d v) w
 | .loadn d n x=>∃a cs,ρ.ev x= .pointer (some a)∧ZL w a n cs∧K (upd ρ d (.agg ⟨cs⟩)) w
 | .store1 x v=>∃a c,ρ.ev x= .pointer (some a)∧w.cell? a=some c∧w.frozen? a=false∧oneC (ρ.ev v)=true∧K ρ (w.setCell a (ρ.ev v))
 | .storen n x v=>∃a cs w',ρ.ev x= .pointer (some a)∧ρ.ev v= .agg cs∧cs.size=n∧(storeCells a cs.toList).run P w= .ok () w'∧K ρ w'
 | .idx d es x i=>∃a len cap k n,ρ.ev x= .slice (some a) len cap∧ρ.ev i= .int k n∧0≤n∧n<len∧K (upd ρ d (.pointer (some (a.add (n.toNat*es))))) w
 | .idxa d m es x i=>∃a k n,ρ.ev x= .pointer (some a)∧ρ.ev i= .int k n∧0≤n∧n<(m:Int)∧K (upd ρ d (.pointer (some (a.add (n.toNat*es))))) w
 | .len d x=>∃a n c,ρ.ev x= .slice a n c∧K (upd ρ d (.int .i64 n)) w
 | .slen d x=>∃s,ρ.ev x= .string s∧K (upd ρ d (.int .i64 s.size)) w
 | .sidx d x i=>∃s k n b,ρ.ev x= .string s∧ρ.ev i= .int k n∧0≤n∧s[n.toNat]?=some b∧K (upd ρ d (.int .u8 b.toNat)) w
 | .ext d x i=>∃vs v,ρ.ev x= .tuple vs∧vs[i]?=some v∧K (upd ρ d v) w
 | .fldv d x off=>∃cs v,ρ.ev x= .agg cs∧cs[off]?=some v∧K (upd ρ d v) w
 | .fldn d x off n=>∃cs,ρ.ev x= .agg cs∧K (upd ρ d (.agg (cs.extract off (off+n)))) w
 | .alloc d T z=>K (upd ρ d (.pointer (some ⟨w.heap.size,0,none⟩))) (w.alloc (.cells ⟨z⟩ T))
 | .box d T x=>K (upd ρ d (.pointer (some ⟨w.heap.size,0,none⟩))) (w.alloc (.cells (ρ.ev x).cells T))
 | .call d f xs=>Calls P f ⟨xs.map ρ.ev⟩ w (Q5 K Q d ρ w)
 | .callv d x xs => ∃ f fst cap fn, ρ.ev x = .func (.func f) fst cap ∧ P.funcs[f]? = some fn ∧ fn.body.isSome = true ∧ (fn.name == "runtime.NumGoroutine") = false ∧ Calls P f (fst ++ ⟨xs.map ρ.ev⟩ ++ cap) w (Q5 K Q d ρ w)
 | .build d z ps=>∃cs,Ng z (ps.map fun p=>(p.1,p.2.1,ρ.ev p.2.2))=some cs∧K (upd ρ d (.agg ⟨cs⟩)) w
 | .buildS d T n z ps=>∃cs,Ng z (ps.map fun p=>(p.1,p.2.1,ρ.ev p.2.2))=some cs∧K (upd ρ d (.slice (some ⟨w.heap.size,0,none⟩) n n)) (w.alloc (.cells ⟨cs⟩ T))
 | .mkfn d f caps=>K (upd ρ d (.func (.func f) #[] ⟨caps.map ρ.ev⟩)) w
 | .sub d es x lo hi mx=>∃a len cap l h m,ρ.ev x= .slice a len cap∧ME ρ cap mx m∧ME ρ len hi h∧ME ρ 0 lo l∧m≤cap∧h≤m∧l≤h∧
    K (upd ρ d (.slice (if m=l then a else a.map (·.add (l*es))) (h - l) (m - l))) w
 | .ssub d x lo hi=>∃s l h,ρ.ev x= .string s∧ME ρ s.size hi h∧ME ρ 0 lo l∧h≤s.size∧l≤h∧K (upd ρ d (.string (s.extract l h))) w
 | .mnx d isMax x y=>∃k k' a b,ρ.ev x= .int k a∧ρ.ev y= .int k' b∧K (upd ρ d (.int k (if isMax then (if a<b then b else a) else (if b<a then b else a)))) w
 | .conv d k x=>∃k' n,ρ.ev x= .int k' n∧K (upd ρ d (.int k (k.wrap n))) w
 | .mki d T x=>K (upd ρ d (.iface T (ρ.ev x))) w
 | .raw o=>Ph P o ρ w K Q


def Xg (P:Program)(T:TypeId):Bool:=match P.underlying T with
 | some (.struct _)|some (.array _ _)=>false
 | some _=>true
 | none=>false
def Pj (P:Program)(T:TypeId):Bool:=match P.underlying T with
 | some (.struct _)|some (.array _ _)=>true
 | _=>false
def NG (P:Program)(T:TypeId):Option Nat:=(P.info? T).map (·.size)
def aT (P:Program)(T:TypeId):Option Value:=(P.info? T).bind (·.zero)

def jZ (P:Program)(S:TypeId)(f:Nat):Option (Nat×TypeId):=match P.underlying S with
 | some (.struct fs)=>(fs[f]?).map fun x=>(x.offset,x.type)
 | _=>none

def eJ (P:Program)(T:TypeId):Option TypeId:=match P.underlying T with
 | some (.slice e)=>some e
 | _=>none
def aU (P:Program)(T:TypeId):Option (Nat×TypeId):=match P.underlying T with
 | some (.array n e)=>some (n,e)
 | _=>none
def gd (P:Program)(T:TypeId):Bool:=match P.underlying T with
 | some .string=>true
 | _=>false

def rb (P:Program)(T:TypeId):Option (Nat→Option (Nat×Nat)):=match P.underlying T with
 | some (.struct fs)=>if fs.toList.all (fun f=>(NG P f.type).isSome) then some (fun i=>(fs[i]?).bind fun f=>(NG P f.type).map fun s=>(f.offset,s)) else none
 | some (.array _ e)=>(NG P e).map fun s=>fun i=>some (i*s,s)
 | _=>none

def Xh (pl:Nat→Option (Nat×Nat)):List (Nat×Operand)→Option (List (Nat×Nat×Operand))
 | []=>some []
 | (i,x)::rest=>match pl i,Xh pl rest with
   | some (o,s),some r=>some ((o,s,x)::r)
   | _,_=>none

def Xi (P:Program)(T:TypeId):Option IntKind:=match P.underlying T with
 | some (.int k)=>some k
 | _=>none
def mf (P:Program)(T:TypeId):Bool:=match P.underlying T with
 | some (.interface _)=>true
 | some _=>false
 | none=>true

def PF (P : Program)(f : FuncId): Bool := (P.funcs[f]?).any fun fn => fn.body.isSome && !(fn.name == "runtime.NumGoroutine")

def Kh (P:Program)(o:Oper):LO:=
 match o.dst with
 | none=>match o.op with
   | .store T x v=>match Xg P T,NG P T with
     | true,some 1=> .store1 x v
     | false,some n=>if Pj P T then .storen n x v else .raw o
     | _,_=> .raw o
   | .call ⟨.value (.func f),xs,_⟩=>if PF P f then .call none f xs.toList else .raw o
   | .call ⟨.value (.tmp f),xs,_⟩=> .callv none (.tmp f) xs.toList
   | _=> .raw o
 | some d=>match o.op with
   | .move x| .assign x=> .mov d x
   | .pick c x y=> .pick d c x y
   | .unOp op _ x=> .un d op x
   | .binOp op T x y _=> .bin d op T x y
   | .nilCheck x=> .nilc d x
   | .fieldAddr S x f=>match jZ P S f with
     | some (off,t)=>match NG P t with
       | some (_+1)=> .fld d x off
       | _=> .raw o
     | none=> .raw o
   | .load T x=>match Xg P T with
     | true=> .load1 d x
     | false=>match NG P T with
       | some n=>if Pj P T then .loadn d n x else .raw o
       | none=> .raw o
   | .indexAddr T x i=>match eJ P T with
     | some e=>match NG P e with
       | some s=> .idx d s x i
       | none=> .raw o
     | none=>match aU P T with
       | some (n,e)=>match NG P e with
         | some s=> .idxa d n s x i
         | none=> .raw o
       | none=> .raw o
   | .index T x i=>if gd P T then .sidx d x i else .raw o
   | .extract x i=> .ext d x i
   | .field S x f=>match jZ P S f with
     | some (off,t)=>match Xg P t with
       | true=> .fldv d x off
       | false=>match NG P t with
         | some n=>if Pj P t then .fldn d x off n else .raw o
         | none=> .raw o
     | none=> .raw o
   | .alloc T=>match aT P T with
     | some z=> .alloc d T z.cells.toList
     | none=> .raw o
   | .box T x=> .box d T x
   | .build T ps=>match aT P T,rb P T with
     | some z,some pl=>match Xh pl ps.toList with
       | some l=> .build d z.cells.toList l
       | none=> .raw o
     | _,_=> .raw o
   | .buildSlice T n ps=>match eJ P T with
     | some e=>match aT P e,NG P e with
       | some z,some s=>match Xh (fun i=>some (i*s,s)) ps.toList with
         | some l=>if 0<s∧0<n∧n*s≤1000∧z.cells.size=s then .buildS d e n ((List.range (n*s)).map fun i=>z.cells.toList.getD (i % s) default) l else .raw o
         | none=> .raw o
       | _,_=> .raw o
     | none=> .raw o
   | .makeFunc (.func f) fst caps=>if fst.size=0 then .mkfn d f caps.toList else .raw o
   | .call ⟨.value (.func f),xs,_⟩=>if PF P f then .call (some d) f xs.toList else .raw o
   | .call ⟨.value (.tmp f),xs,_⟩=> .callv (some d) (.tmp f) xs.toList
   | .slice T x lo hi mx=>match eJ P T with
     | some e=>match NG P e with
       | some s=>if mx.isSome && hi.isNone then .raw o else .sub d s x lo hi mx
       | none=> .raw o
     | none=>if gd P T && mx.isNone then .ssub d x lo hi else .raw o
   | .convert S T x=>match Xi P S,Xi P T with
     | some _,some k=> .conv d k x
     | _,_=> .raw o
   | .makeInterface T x=>if mf P T then .raw o else .mki d T x
   | .call ⟨.builtin .min,xs,_⟩=>match xs.toList with
     | [x,y]=> .mnx d false x y
     | _=> .raw o
   | .call ⟨.builtin .max,xs,_⟩=>match xs.toList with
     | [x,y]=> .mnx d true x y
     | _=> .raw o
   | .call ⟨.builtin .len,xs,ts⟩=>match xs.toList,ts.toList with
     | [x],[T]=>if gd P T then .slen d x else if (eJ P T).isSome then .len d x else .raw o
     | _,_=> .raw o
   | _=> .raw o

def ZM (o : Oper): Oper := ⟨o.dst, o.op, o.type, "", #[], none⟩
def eK (P:Program)(o:Oper):LO:=match Kh P o with
 | .raw o=> .raw (ZM o)
 | x=>x

end
section

section
variable {P:Program}{o:Oper}{ρ:Km}{w w':World}{K:KT}{Q:QT}{v:Value}

theorem MJ (h:(execOp ρ.ev o).run P w= .ok (.value v) w')(hk:K (KC ρ o.dst v) w'):Ph P o ρ w K Q:=by
 unfold Ph;rw [h];exact hk
theorem re (h:(execOp ρ.ev o).run P w= .ok .skip w')(hk:K (KC ρ o.dst undef) w'):Ph P o ρ w K Q:=by
 unfold Ph;rw [h];exact hk
end

theorem gg (P:Program)(T:TypeId)(i:TypeInfo)(w:World)(h:P.info? T=some i):(typeInfo T).run P w= .ok i w:=by
 simp [typeInfo,h]
theorem P3 (P:Program)(T:TypeId)(n:Nat)(w:World)(h:NG P T=some n):(sizeOf T).run P w= .ok n w:=by
 unfold NG at h
 cases hi:P.info? T with
 | none=>simp [hi] at h
 | some i=>simp [hi] at h;simp [sizeOf,gg P T i w hi,h]
theorem eL (P:Program)(T:TypeId)(z:Value)(w:World)(h:aT P T=some z):(zeroValue T).run P w= .ok z w:=by
 unfold aT at h
 cases hi:P.info? T with
 | none=>simp [hi] at h
 | some i=>simp [hi] at h;simp [zeroValue,gg P T i w hi,h]
theorem Q9 (P:Program)(T:TypeId)(d:TypeDesc)(w:World)(h:P.underlying T=some d):(underlying T).run P w= .ok d w:=by
 simp [underlying,h]
theorem mg (P:Program)(T:TypeId)(w:World)(h:Xg P T=true):(isAgg T).run P w= .ok false w:=by
 unfold Xg at h
 cases hu:P.underlying T with
 | none=>simp [hu] at h
 | some d=>simp [isAgg,Q9 P T d w hu];cases d<;>simp [hu] at h ⊢
theorem mh (P:Program)(T:TypeId)(w:World)(h:Pj P T=true):(isAgg T).run P w= .ok true w:=by
 unfold Pj at h
 cases hu:P.underlying T with
 | none=>simp [hu] at h
 | some d=>simp [isAgg,Q9 P T d w hu];cases d<;>simp [hu] at h ⊢

theorem xf (a:Addr):a.add 0=a:=rfl

theorem rf (P:Program)(T:TypeId)(cs:Array Value)(off:Nat)(v:Value)(w:World)(h:Xg P T=true)(hv:cs[off]?=some v):
 (part T cs off).run P w= .ok v w:=by
 simp [part,mg P T w h,hv]
theorem xh (P:Program)(T:TypeId)(cs:Array Value)(off n:Nat)(w:World)(h:Pj P T=true)(hn:NG P T=some n):
 (part T cs off).run P w= .ok (.agg (cs.extract off (off+n))) w:=by
 simp [part,mh P T w h,P3 P T n w hn]

theorem xi (v:List Value):∀(k off:Nat) (cs:Array Value),off+k+v.length≤cs.size→
 ((v.zipIdx k).foldl (fun cs (c,j)=>cs.setIfInBounds (off+j) c) cs).toList=cs.toList.take (off+k)++(v++cs.toList.drop (off+k+v.length)):=by
 induction v with
 | nil=>intro k off cs h;simp
 | cons c v ih=>
   intro k off cs h;simp only [List.zipIdx_cons,G8];simp only [ET] at h;rw [show off+k+(c::v).length=off+(k+1)+v.length by simp;omega,ih (k+1) off _ De];have hsz:cs.toList.length=cs.size:=FZ;have hl:off+k<cs.toList.length:=Dc;simp only [Array.toList_setIfInBounds];generalize cs.toList=l at hsz hl ⊢;rw [←Gx,G9,if_pos hl];have hm:(l.take (off+k)).length=off+k:=by simp;omega
   have e1:List.take (off+k+1) (l.take (off+k)++c::l.drop (off+k+1))=l.take (off+k)++[c]:=by
    rw [IB,hm,E1 Jo,show off+k+1 - (off+k)=1 by omega];rfl
   have e2:List.drop (off+k+1+v.length) (l.take (off+k)++c::l.drop (off+k+1))=l.drop (off+k+1+v.length):=by
    rw [ID,hm,EP Jo,show off+k+1+v.length - (off+k)=v.length+1 by omega];simp [I5,Im,Gx]
   rw [e1,e2];simp

theorem mi (place:Nat→Option (Nat×Nat))(ρ:Km):∀(ps:List (Nat×Operand)) (l:List (Nat×Nat×Operand)) (cells:Array Value) (cs:List Value),
 Xh place ps=some l→Ng cells.toList (l.map fun p=>(p.1,p.2.1,ρ.ev p.2.2))=some cs→
 Instr.fill place cells (ps.map fun p=>(p.1,ρ.ev p.2))=some ⟨cs⟩:=by
 intro ps
 induction ps with
 | nil=>intro l cells cs h1 h2;simp [Xh] at h1;subst h1;simp [Ng] at h2;subst h2;simp [Instr.fill]
 | cons p ps ih=>
   obtain ⟨i,x⟩:=p;intro l cells cs h1 h2;simp only [Xh] at h1;split at h1
   · rename_i off s r hpl hr
     simp only [E0] at h1;subst h1;simp only [FM,Ng] at h2;split at h2
     · rename_i hc;have hlen:(ρ.ev x).cells.toList.length=s:=(by simpa using hc.1);have hsz:cells.toList.length=cells.size:=FZ;simp only [FM,Instr.fill,hpl];rw [if_neg (by have h4:=hc.2;have h3:(ρ.ev x).cells.size=s:=hc.1;simp only [G7,decide_eq_true_eq];rintro (h|h);exact h h3;omega)];refine ih r _ cs hr ?_;have:=xi (ρ.ev x).cells.toList 0 off cells (by have:=hc.2;omega);rw [←Array.foldl_toList,Array.toList_zipIdx,this,Hw,hlen];exact h2
     · cases h2
   · cases h1

section
variable {P:Program}{ρ:Km}{w:World}{K:KT}{Q:QT}

theorem gh (a:Addr)(n:Nat)(cs:List Value)(h:ZL w a n cs):(loadCells a n).run P w= .ok ⟨cs⟩ w:=by
 obtain ⟨hl,hc⟩:=h;subst hl
 exact run_loadCells_list (P:=P) (w:=w) a cs (fun j v hj=>by
  have:j<cs.length:=by
   rcases Gc j cs.length with h|h
   · exact h
   · simp [Fk h] at hj
  rw [hc j this,hj])

theorem xj {args:Array Value}{d:Option Nat}(h:Calls P f args w (Q5 K Q d ρ w)):
 Calls P f args w fun
  | .returned v,w''=>K (KC ρ d v) w''
  | .panicked chain,w''=>Q (.panic chain) ρ w''
  | .outgrown,_=>Q .outgrown ρ w:=
 h.mono fun e w' h=>by cases e<;>exact h

theorem rh (args : Array Value)(hf : P.funcs[f]? = some fn)(hb : fn.body.isSome = true)(hn : (fn.name == "runtime.NumGoroutine") = false):
 (callFunc f args).run P w= .ok (.enter f args) w:=by
 have hb':fn.body.isNone=false:=(by cases h:fn.body<;>simp_all);simp only [callFunc,Fo,run_program,EZ,hf,hn,hb'];rfl

theorem mc {d:Option Nat}{pos:String}{af:Array Edge}{g:Option (Nat×Bool)}{x:Operand}{xs:Array Operand}{ts:Array TypeId}{fst cap:Array Value}
 (hx : ρ.ev x = .func (.func f) fst cap)(hf : P.funcs[f]? = some fn)(hb : fn.body.isSome = true)(hn : (fn.name == "runtime.NumGoroutine") = false)
 (h:Calls P f (fst++⟨xs.toList.map ρ.ev⟩++cap) w (Q5 K Q d ρ w)):
 Ph P ⟨d, .call ⟨.value x,xs,ts⟩,T,pos,af,g⟩ ρ w K Q:=by
 have e:(execOp ρ.ev ⟨d, .call ⟨.value x,xs,ts⟩,T,pos,af,g⟩).run P w= .ok (.enter f (fst++xs.map ρ.ev++cap)) w:=by
  simp only [execOp,resolve,hx,Deferred.ofValue,Fo,FC,EZ,invoke];rw [rh _ hf hb hn]
 unfold Ph;rw [e]
 have he:(⟨xs.toList.map ρ.ev⟩:Array Value)=xs.map ρ.ev:=by
  apply HV;simp
 rw [he] at h;exact xj h

theorem ri (h : PF P f = true): ∃ fn, P.funcs[f]? = some fn ∧ fn.body.isSome = true ∧ (fn.name == "runtime.NumGoroutine") = false := by
 unfold PF at h
 cases hf:P.funcs[f]? with
 | none=>simp [hf] at h
 | some fn=>exact ⟨fn,rfl,by simpa [hf] using h⟩

theorem rj {S f off t}(h:jZ P S f=some (off,t)):∃fs fl,P.underlying S=some (.struct fs)∧fs[f]?=some fl∧fl.offset=off∧fl.type=t:=by
 unfold jZ at h;split at h
 · rename_i fs hu
   cases hf:fs[f]? with
   | none=>simp [hf] at h
   | some fl=>simp [hf] at h;exact ⟨fs,fl,hu,hf,h.1,h.2⟩
 · cases h
theorem j0 {T e}(h:eJ P T=some e):P.underlying T=some (.slice e):=by
 unfold eJ at h;split at h<;>simp_all
theorem xk {T n e}(h:aU P T=some (n,e)):P.underlying T=some (.array n e):=by
 unfold aU at h;split at h<;>simp_all
theorem mj {T}(h:gd P T=true):P.underlying T=some .string:=by
 unfold gd at h;split at h<;>simp_all

theorem xl (fs:List Field)(w:World)(h:∀f∈fs,(NG P f.type).isSome=true):
 (fs.mapM (fun f=>do pure (f.offset,←sizeOf f.type):Field→Sem (Nat×Nat))).run P w= .ok (fs.map fun f=>(f.offset,(NG P f.type).getD 0)) w:=by
 induction fs with
 | nil=>simp
 | cons f fs ih=>
   have hf:=h f Js;obtain ⟨n,hn⟩:=IU.1 hf;simp only [IK,Fo,P3 P f.type n w hn,EZ,FC,ih (fun x hx=>h x Du),FM,hn,GA]
end

theorem xm {pl pl':Nat→Option (Nat×Nat)}(hp:∀i x,pl i=some x→pl' i=some x):∀(ps:List (Nat×Operand)) l,Xh pl ps=some l→Xh pl' ps=some l:=by
 intro ps
 induction ps with
 | nil=>intro l h;exact h
 | cons p ps ih=>
   obtain ⟨i,x⟩:=p;intro l h;simp only [Xh] at h ⊢;split at h
   · rename_i o s r h1 h2;rw [hp _ _ h1,ih _ h2];exact h
   · cases h

theorem rk {T k}(h:Xi P T=some k):P.underlying T=some (.int k):=by
 unfold Xi at h;split at h<;>simp_all
theorem xq {T}(h:¬mf P T=true):∃d,P.underlying T=some d∧∀ms,d≠ .interface ms:=by
 unfold mf at h;split at h
 · simp at h
 · rename_i d hd hu;exact ⟨d,hu,fun ms hm=>hd ms (by rw [←hm])⟩
 · simp at h

theorem Xj {y:Nat}{c:BoundsCode}(h:n≤y):(Instr.sliceBound (.int k n) y c).run P w= .ok n w:=by
 have:(n:Int)≤y:=Dc;simp [Instr.sliceBound,asIntOf,this]

theorem rl {ρ:Km}{isS:Bool}{len:Nat}{l h:Nat}(hm:ME ρ cap mx m)(hh:ME ρ len hi h)(hl:ME ρ 0 lo l)
 (h1:m≤cap)(h2:h≤m)(h3:l≤h)(hmx:mx.isSome=true→hi.isSome=true):
 (Instr.sliceBounds isS len cap (lo.map ρ.ev) (hi.map ρ.ev) (mx.map ρ.ev)).run P w= .ok (l,h,m) w:=by
 cases mx with
 | none=>
   simp only [ME] at hm;subst hm
   cases hi with
   | none=>
     simp only [ME] at hh;subst hh
     cases lo with
     | none=>simp only [ME] at hl;subst hl;simp [Instr.sliceBounds]
     | some x=>obtain ⟨k,hx⟩:=hl;simp [Instr.sliceBounds,hx,Xj h3]
   | some y=>
     obtain ⟨k,hy⟩:=hh
     cases lo with
     | none=>simp only [ME] at hl;subst hl;simp [Instr.sliceBounds,hy,Xj h2]
     | some x=>obtain ⟨k,hx⟩:=hl;simp [Instr.sliceBounds,hy,hx,Xj h2,Xj h3]
 | some z=>
   obtain ⟨k,hz⟩:=hm
   cases hi with
   | none=>simp at hmx
   | some y=>
     obtain ⟨k,hy⟩:=hh
     cases lo with
     | none=>simp only [ME] at hl;subst hl;simp [Instr.sliceBounds,hz,hy,Xj h1,Xj h2]
     | some x=>obtain ⟨k,hx⟩:=hl;simp [Instr.sliceBounds,hz,hy,hx,Xj h1,Xj h2,Xj h3]

theorem xt {o:Oper}{ρ:Km}{K:KT}{Q:QT}{h:(Kh P o).wp P ρ w K Q}:Ph P o ρ w K Q:=by
 obtain ⟨dst,op,T,pos,af,g⟩:=o
 cases dst with
 | none =>
   cases op;all_goals try exact h
   case store T x v=>
    simp only [Kh] at h;split at h
    · rename_i hs hz;obtain ⟨a,c,hx,hc,hf,ho,hk⟩:=h;refine re (w':=w.setCell a (ρ.ev v)) ?_ hk;have hcs:(ρ.ev v).cells=#[ρ.ev v]:=(by cases hv:ρ.ev v<;>simp_all [Value.cells,oneC]);have ho':(ρ.ev v).oneCell'=true:=(by cases hv:ρ.ev v<;>simp_all [Value.oneCell',oneC]);simp [execOp,Instr.storeAt,Instr.sureAddr,hx,storeVar,P3 P T 1 w hz,hcs,storeCells,xf,run_store P w a _ .plain ho',hc,hf]
    · rename_i n hs hz
      split at h
      · rename_i ha;obtain ⟨a,cs,w',hx,hv,hn,hst,hk⟩:=h;refine re (w':=w') ?_ hk;simp [execOp,Instr.storeAt,Instr.sureAddr,hx,hv,storeVar,P3 P T n w hz,Value.cells,hn,hst]
      · exact h
    · exact h
   case call c=>
    obtain ⟨callee,xs,ts⟩:=c
    cases callee with
    | invoke=>exact h
    | builtin=>exact h
    | value f=>
      cases f with
      | const=>exact h
      | global=>exact h
      | func f=>
        simp only [Kh] at h;split at h
        · rename_i hg;obtain ⟨fn,h1,h2,h3⟩:=ri hg;exact B9
        · exact h
      | tmp f=>
        obtain ⟨f,fst,cap,fn,hx,h1,h2,h3,h4⟩:=h;exact mc hx h1 h2 h3 h4
 | some d =>
   cases op;all_goals try exact h
   case pick c x y=>
    obtain ⟨b,hb,hk⟩:=h;refine MJ (w':=w) ?_ hk;simp [execOp,hb,asBool]
   case unOp op T x=>
    obtain ⟨v,hb,hk⟩:=h;have hb:=hb w;exact MJ (w':=w) (by simp [execOp,hb]) hk
   case binOp op T x y T'=>
    obtain ⟨v,hb,hk⟩:=h;have hb:=hb w;refine MJ (w':=w) ?_ hk;simp only [execOp,Fo] at hb ⊢;rw [hb];rfl
   case nilCheck x=>
    obtain ⟨a,hx,hk⟩:=h;refine MJ (w':=w) ?_ hk;simp [execOp,hx]
   case extract x i=>
    obtain ⟨vs,v,hx,hv,hk⟩:=h;refine MJ (w':=w) ?_ hk;simp [execOp,Instr.extract,hx,hv]
   case load T x=>
    simp only [Kh] at h;split at h
    · rename_i hs;obtain ⟨a,v,hx,hv,hk⟩:=h;refine MJ (w':=w) (v:=v) ?_ hk;simp [execOp,Instr.loadAt,Instr.sureAddr,hx,loadVar,mg P T w hs,hv]
    · split at h
      · rename_i hs n hn
        split at h
        · rename_i ha;obtain ⟨a,cs,hx,hv,hk⟩:=h;refine MJ (w':=w) ?_ hk;simp [execOp,Instr.loadAt,Instr.sureAddr,hx,loadVar,mh P T w ha,P3 P T n w hn,gh (P:=P) a n cs hv]
        · exact h
      · exact h
   case fieldAddr S x f=>
    simp only [Kh] at h;split at h
    · rename_i off t hf
      split at h
      · rename_i n hn;obtain ⟨a,hx,hk⟩:=h;obtain ⟨fs,fl,hu,hfl,rfl,rfl⟩:=rj hf;refine MJ (w':=w) ?_ hk;simp [execOp,Instr.fieldAt,Q9 P S _ w hu,hfl,Instr.sureAddr,hx,fieldPlace,P3 P fl.type _ w hn]
      · exact h
    · exact h
   case field S x f=>
    simp only [Kh] at h;split at h
    · rename_i off t hf
      obtain ⟨fs,fl,hu,hfl,rfl,rfl⟩:=rj hf;split at h
      · rename_i hs;obtain ⟨cs,v,hx,hv,hk⟩:=h;refine MJ (w':=w) (v:=v) ?_ hk;simp [execOp,Instr.field,Q9 P S _ w hu,hfl,asAgg,hx,rf P fl.type cs fl.offset v w hs hv]
      · split at h
        · rename_i n hn
          split at h
          · rename_i ha;obtain ⟨cs,hx,hk⟩:=h;refine MJ (w':=w) ?_ hk;simp [execOp,Instr.field,Q9 P S _ w hu,hfl,asAgg,hx,xh P fl.type cs fl.offset n w ha hn]
          · exact h
        · exact h
    · exact h
   case indexAddr T x i=>
    simp only [Kh] at h;split at h
    · rename_i e he
      have hu:=j0 he;split at h
      · rename_i s hs;obtain ⟨a,len,cap,k,n,hx,hi,h0,hl,hk⟩:=h;refine MJ (w':=w) ?_ hk;simp [execOp,Instr.indexAt,asIntOf,hi,hx,Q9 P T _ w hu,h0,hl,P3 P e s w hs]
      · exact h
    · split at h
      · rename_i hn m e he
        have hu:=xk he;split at h
        · rename_i s hs;obtain ⟨a,k,n,hx,hi,h0,hl,hk⟩:=h;refine MJ (w':=w) ?_ hk;simp [execOp,Instr.indexAt,asIntOf,hi,hx,Q9 P T _ w hu,h0,hl,P3 P e s w hs,Instr.sureAddr]
        · exact h
      · exact h
   case index T x i=>
    simp only [Kh] at h;split at h
    · rename_i hs;have hu:=mj hs;obtain ⟨s,k,n,b,hx,hi,h0,hl,hk⟩:=h;refine MJ (w':=w) ?_ hk;simp [execOp,Instr.index,asIntOf,hi,hx,Q9 P T _ w hu,h0,hl]
    · exact h
   case alloc T=>
    simp only [Kh] at h;split at h
    · rename_i z hz;refine MJ (v:= .pointer (some ⟨w.heap.size,0,none⟩)) (w':=w.alloc (.cells z.cells T)) ?_ h;simp [execOp,Instr.alloc,eL P T z w hz,newVar,newRow]
    · exact h
   case makeFunc fn fst caps=>
    cases fn with
    | func f=>
      simp only [Kh] at h;split at h
      · rename_i hz;have:fst=#[]:=Array.size_eq_zero_iff.1 hz;subst this;refine MJ (v:= .func (.func f) #[] ⟨caps.toList.map ρ.ev⟩) (w':=w) ?_ h;have he:(⟨caps.toList.map ρ.ev⟩:Array Value)=caps.map ρ.ev:=(by apply HV;simp);simp [execOp,Instr.makeFunc,he]
      · exact h
    | _=>exact h
   case slice T x lo hi mx=>
    simp only [Kh] at h;split at h
    · rename_i e he
      have hu:=j0 he;split at h
      · rename_i s hs
        split at h
        · exact h
        · rename_i hmx;obtain ⟨a,len,cap,l,hh,m,hx,hm,hhi,hlo,h1,h2,h3,hk⟩:=h;refine MJ (w':=w) ?_ hk;simp only [execOp,Instr.sliceAt,Fo,Q9 P T _ w hu,EZ,Instr.slice,hx,rl (P:=P) (w:=w) (isS:=true) hm hhi hlo h1 h2 h3 (by cases mx<;>cases hi<;>simp_all),P3 P e s w hs,FC]
      · exact h
    · split at h
      · rename_i hc;simp only [EW] at hc;have hu:=mj hc.1;have hmx:mx=none:=(by simpa using hc.2);subst hmx;obtain ⟨s,l,hh,hx,hhi,hlo,h2,h3,hk⟩:=h;refine MJ (w':=w) ?_ hk;have hb:=rl (P:=P) (w:=w) (isS:=false) (mx:=none) (m:=s.size) (cap:=s.size) rfl hhi hlo (E7 _) h2 h3 Js;simp only [IJ] at hb;simp only [execOp,Instr.sliceAt,Fo,Q9 P T _ w hu,EZ,Instr.slice,hx,IJ,JG,EX,if_false,hb,FC]
      · exact h
   case convert S T x=>
    simp only [Kh] at h;split at h
    · rename_i k k' hs ht;obtain ⟨k2,n,hx,hk⟩:=h;refine MJ (w':=w) ?_ hk;simp [execOp,convert,Q9 P S _ w (rk hs),Q9 P T _ w (rk ht),hx,Conv.intToInt]
    · exact h
   case makeInterface T x=>
    simp only [Kh] at h;split at h
    · exact h
    · rename_i hi;refine MJ (w':=w) (v:= .iface T (ρ.ev x)) ?_ h;obtain ⟨d',hd,hd'⟩:=xq hi;simp only [execOp,Instr.makeInterface,Fo,Q9 P T _ w hd,EZ];cases d' <;>first|rfl|exact (hd' _ rfl).elim
   case build T ps=>
    simp only [Kh] at h;split at h
    · rename_i z pl hz hpl
      split at h
      · rename_i l hl
        obtain ⟨cs,hf,hk⟩:=h;have hfill:=mi pl ρ ps.toList l z.cells cs hl hf;refine MJ (w':=w) ?_ hk;have hm:(ps.map fun p=>(p.1,ρ.ev p.2)).toList=ps.toList.map fun p=>(p.1,ρ.ev p.2):=(by simp);unfold rb at hpl;split at hpl
        · rename_i fs hu
          split at hpl
          · rename_i hall
            simp only [E0] at hpl;have hall':∀f∈fs.toList,(NG P f.type).isSome=true:=FN.1 hall
            have hpl2:∀i x,pl i=some x→((fs.toList.map fun f=>(f.offset,(NG P f.type).getD 0)).toArray)[i]?=some x:=by
             intro i x hx;subst hpl;simp only [Option.bind_eq_some_iff,Gv] at hx;obtain ⟨f,hf,s,hs,rfl⟩:=hx;simp [hf,hs]
            have hfill:=mi _ ρ ps.toList l z.cells cs (xm hpl2 _ _ hl) hf;simp only [execOp,Instr.build,Fo,eL P T z w hz,Q9 P T _ w hu,EZ,IQ,Sem.run_map,xl fs.toList w hall',hm,hfill,FC]
          · cases hpl
        · rename_i n e hu;simp only [Gv] at hpl;obtain ⟨s,hs,rfl⟩:=hpl;simp only [execOp,Instr.build,Fo,eL P T z w hz,Q9 P T _ w hu,EZ,P3 P e s w hs,hm,hfill,FC]
        · cases hpl
      · exact h
    · exact h
   case buildSlice T n ps=>
    simp only [Kh] at h;split at h
    · rename_i e he
      have hu:=j0 he;split at h
      · rename_i z s hz hs
        split at h
        · rename_i l hl
          split at h
          · rename_i hc
            obtain ⟨hs0,hn0,hns,hzs⟩:=hc;obtain ⟨cs,hf,hk⟩:=h;have hm:(ps.map fun p=>(p.1,ρ.ev p.2)).toList=ps.toList.map fun p=>(p.1,ρ.ev p.2):=by simp
            have hz0:(((Array.range (n*s)).map (z.cells[· % z.cells.size]!)):Array Value).toList=(List.range (n*s)).map fun i=>z.cells.toList.getD (i % s) default:=by
             simp [hzs];intro a _;rw [I4,F5]
            have hfill:=mi _ ρ ps.toList l ((Array.range (n*s)).map (z.cells[· % z.cells.size]!)) cs hl (by rw [hz0];exact hf);refine MJ (w':=w.alloc (.cells ⟨cs⟩ e)) (v:= .slice (some ⟨w.heap.size,0,none⟩) n n) ?_ hk;have hne:¬(n*s=0):=(by have:=Nat.mul_pos hn0 hs0;omega);have hle:¬(n*s>2 ^ 24):=Dc;simp only [execOp,Instr.buildSlice,Fo,Q9 P T _ w hu,EZ,P3 P e s w hs,if_neg hle,if_neg hne,eL P e z w hz,hm,hfill,FC,newRow,run_newObj];rfl
          · exact h
        · exact h
      · exact h
    · exact h
   case call c=>
    obtain ⟨callee,xs,ts⟩:=c
    cases callee with
    | invoke=>exact h
    | builtin b=> 
      cases b;all_goals try exact h
      case min=>
       simp only [Kh] at h;split at h
       · rename_i x y hxs;have hxs':xs=#[x,y]:=D3;subst hxs';obtain ⟨k,k',a,b,hx,hy,hk⟩:=h;refine MJ (w':=w) ?_ hk;simp [execOp,resolve,invoke,builtin,Builtin.min_,Builtin.min2,hx,hy]
       · exact h
      case max=>
       simp only [Kh] at h;split at h
       · rename_i x y hxs;have hxs':xs=#[x,y]:=D3;subst hxs';obtain ⟨k,k',a,b,hx,hy,hk⟩:=h;refine MJ (w':=w) ?_ hk;simp [execOp,resolve,invoke,builtin,Builtin.max_,Builtin.max2,hx,hy]
       · exact h
      case len=>
       simp only [Kh] at h;split at h
       · rename_i x T hxs hts
         have hxs':xs=#[x]:=D3;have hts':ts=#[T]:=(by apply HV;simpa using hts);subst hxs' hts';split at h
         · rename_i hs;have hu:=mj hs;obtain ⟨s,hx,hk⟩:=h;refine MJ (w':=w) ?_ hk;simp [execOp,resolve,invoke,builtin,Builtin.len_,hx,Q9 P T _ w hu,goInt]
         · split at h
           · rename_i he;obtain ⟨e,he⟩:=IU.1 he;have hu:=j0 he;obtain ⟨a,n,c,hx,hk⟩:=h;refine MJ (w':=w) ?_ hk;simp [execOp,resolve,invoke,builtin,Builtin.len_,hx,Q9 P T _ w hu,goInt]
           · exact h
       · exact h
    | value f=>
      cases f with
      | const=>exact h
      | global=>exact h
      | func f=>
        simp only [Kh] at h;split at h
        · rename_i hg;obtain ⟨fn,h1,h2,h3⟩:=ri hg;exact B9
        · exact h
      | tmp f=>
        obtain ⟨f,fst,cap,fn,hx,h1,h2,h3,h4⟩:=h;exact mc hx h1 h2 h3 h4

theorem xu {o:Oper}{ρ:Km}{K:KT}{Q:QT}(h:Ph P (ZM o) ρ w K Q):Ph P o ρ w K Q:=h

theorem rm {o:Oper}{ρ:Km}{K:KT}{Q:QT}(h:(eK P o).wp P ρ w K Q):Ph P o ρ w K Q:=by
 refine' xt;unfold eK at h;cases hl:Kh P o<;>rw [hl] at h<;>first|exact h|exact xu h


structure GO where
 g:Option (Nat×Bool)
 o:LO

def WN (v:Value)(b:Bool):Bool:=match v with
 | .bool b'=>b'==b
 | _=>false

def Q0 (P:Program):List GO→QT→Km→World→Prop
 | [],Q,ρ,w=>Q .normal ρ w
 | ⟨none,o⟩::l,Q,ρ,w=>o.wp P ρ w (Q0 P l Q) Q
 | ⟨some (s,b),o⟩::l,Q,ρ,w=>if WN (ρ s) b then o.wp P ρ w (Q0 P l Q) Q else Q0 P l Q (KC ρ o.dst undef) w

def OF (P:Program)(ops:Array Oper)(o:Oper):GO:=
 ⟨o.guard.bind fun p=>((ops[p.1]?).bind (·.dst)).map fun s=>(s,p.2),eK P o⟩

def Pk (n:Nat)(ops:Array Oper)(o:Oper):Bool:=
 (match o.dst with|some d=>decide (d<n)|none=>true) &&
 (match o.guard with
  | some (j,_)=>(match (ops[j]?).bind (·.dst) with|some s=>decide (s<n)|none=>false)
  | none=>true)

theorem xv (P:Program)(o:Oper):(Kh P o).dst=o.dst:=by
 obtain ⟨dst,op,T,pos,af,g⟩:=o
 cases dst with
 | none=>
   unfold Kh;dsimp only
   repeat' split
   all_goals rfl
 | some d=>
   unfold Kh;dsimp only
   repeat' split
   all_goals rfl

theorem xw (P:Program)(o:Oper):(eK P o).dst=o.dst:=by
 rw [←xv P o];unfold eK;cases Kh P o<;>rfl

theorem xx {ρ:Km}{a:Act}{ops:Array Oper}{s:Nat}{b:Bool}(hr:N8 n ρ ds a)
 (hj:(ops[j]?).bind (·.dst)=some s)(hs:s<n):(yielded ops a.tmps j==some b)=WN (ρ s) b:=by
 have h1:a.tmps[s]?=some (ρ s):=by
  have:=hr.2.1 s;rw [F5] at this;have hlt:s<a.tmps.size:=(by rw [hr.1];exact hs);rw [GF hlt] at this ⊢
  simpa using this
 simp only [yielded,hj,Option.bind_some,h1];cases hv:ρ s<;>simp [WN]

theorem rp {ρ:Km}{a:Act}{ops:Array Oper}{o:Oper}(hr:N8 n ρ ds a)(ho:Pk n ops o=true):
 (∀(l:List GO) (Q:QT) (w:World),Q0 P (OF P ops o::l) Q ρ w→if Region.wanted o (yielded ops a.tmps) then (eK P o).wp P ρ w (Q0 P l Q) Q else Q0 P l Q (KC ρ o.dst undef) w):=by
 intro l Q w h;unfold OF at h;unfold Pk at ho
 cases hg:o.guard with
 | none=>
   rw [hg] at h;simp only [Option.bind_none,Q0] at h;simp only [Region.wanted,hg,if_true];exact h
 | some p=>
   obtain ⟨j,b⟩:=p;rw [hg] at h ho;simp only [EW] at ho;obtain ⟨_,ho⟩:=ho
   cases hs:(ops[j]?).bind (·.dst) with
   | none=>simp [hs] at ho
   | some s=>
     simp only [hs,decide_eq_true_eq] at ho;simp only [Option.bind_some,hs,FP,Q0,xw] at h;simp only [Region.wanted,hg,xx hr hs ho];exact h

theorem eM {ops:Array Oper}{o:Oper}(h:Pk n ops o=true):∀x,o.dst=some x→x<n:=by
 intro x hx;unfold Pk at h;simp only [hx,EW,decide_eq_true_eq] at h;exact h.1

theorem xz {o:Oper}{a:Act}{K K':Act→World→Prop}{Q:Exit→Act→World→Prop}(hk:∀a w,K a w→K' a w)(r:Result Next)(h:o.upon P a K Q r):o.upon P a K' Q r:=by
 cases r with
 | ok n w=>
   cases n<;>first|exact hk _ _ h|exact h|skip
   · refine Calls.mono h fun e w h=>?_;cases e<;>first|exact hk _ _ h|exact h
   · exact Rows.mono h fun v w h=>hk _ _ h
 | halt x w=>cases x<;>exact h

theorem j1 {ops:Array Oper}{Q:QT}:∀(l:List Nat) (ρ:Km) (a:Act) (w:World),N8 n ρ ds a→
 (∀i∈l,∃o,ops[i]?=some o∧Pk n ops o=true)→
 Q0 P (l.filterMap fun i=>(ops[i]?).map (OF P ops)) Q ρ w→wpOps P ops (ZK n ds Q) l a w:=by
 intro l
 induction l with
 | nil=>intro ρ a w hr _ h;exact ⟨ρ,hr,h⟩
 | cons i l ih=>
   intro ρ a w hr hok h;obtain ⟨o,ho,hg⟩:=hok i Js;have hok':∀i∈l,∃o,ops[i]?=some o∧Pk n ops o=true:=fun i hi=>hok i (by simp [hi]);simp only [Hr,ho,FP] at h;have h':=rp hr hg _ Q w h;simp only [wpOps,ho];split
   · rename_i hw;rw [if_pos hw] at h';have h1:=ra (ds:=ds) hr (eM hg) (rm h');exact .inl (xz (fun a w ⟨ρ,hr,h⟩=>ih ρ a w hr hok' h) _ h1)
   · rename_i hw;rw [if_neg hw] at h';exact ih _ _ w (hr.put _ _ (eM hg)) hok' h'

inductive LC where
 | skip
 | ops (l:List GO)
 | draw (gs:List GO) (es:List (List Nat))
 | seq (a b:LC)
 | cond (c:Operand) (a b:LC)
 | block (id:Nat) (a:LC)
 | loop (a:LC)
 | exit (id:Nat)
 | ret
 | bad

def R7 (es:List (List Nat)):List Nat→List Nat→Prop
 | X,[]=>∀i,i<es.length→i∈X
 | X,i::l=>i<es.length∧i∉X∧(∀e∈es.getD i [],e∈X)∧R7 es (i::X) l

def gi (i:Nat)(e:Edge):Bool:=decide (e.on<i) && (match e.ground with| .textOnly _=>false| .gcOnly _=>false|_=>true)
def j3 (os:List Oper):Bool:=(os.zipIdx).all fun p=>p.1.after.toList.all (gi p.2)

def R8 (m:Region.Mode)(os:Array Oper):List Nat→List Nat→Bool
 | seen,[]=>(List.range os.size).all fun i=>seen.contains i
 | seen,i::r=>(match os[i]? with
   | some o=>o.after.toList.all (fun e=> !Region.binds m e||seen.contains e.on && decide (e.on<os.size))
   | none=>false) && R8 m os (i::seen) r
def rq (i:Nat)(e:Edge):Bool:= !Region.binds .any e||decide (e.on<i)
def ml (os:Array Oper):Bool:=(os.toList.zipIdx.all fun p=>p.1.after.toList.all (rq p.2)) && R8 .text os [] (Region.linearise .text os 0) && R8 .gc os [] (Region.linearise .gc os 0) && R8 .any os [] (Region.linearise .any os 0)
def eN (os:Array Oper):Bool:=j3 os.toList||ml os
def Xk (os:Array Oper):List (List Nat):=os.toList.map fun o=>(o.after.toList.filter (Region.binds .any)).map (·.on)
def GO.nop:GO:=⟨none, .mov 0 (.const undef)⟩

def PG (P:Program)(n:Nat):Code→LC
 | .skip=> .skip
 | .region _ ops false=>if ops.toList.all (Pk n ops) then .ops (ops.toList.map (OF P ops)) else .bad
 | .region _ ops true=>if ops.toList.all (Pk n ops) && eN ops then .draw (ops.toList.map (OF P ops)) (Xk ops) else .bad
 | .seq a b=> .seq (PG P n a) (PG P n b)
 | .cond c a b=> .cond c (PG P n a) (PG P n b)
 | .block id a=> .block id (PG P n a)
 | .loop a=> .loop (PG P n a)
 | .exit id=> .exit id
 | .ret=> .ret
 | _=> .bad

def Qh (K:KT)(Q:QT):QT
 | .normal,ρ,w=>K ρ w
 | e,ρ,w=>Q e ρ w
def Qd (id:Nat)(Q:QT):QT
 | .exit id',ρ,w=>if id'=id then Q .normal ρ w else Q (.exit id') ρ w
 | e,ρ,w=>Q e ρ w

def LC.wp (P:Program):LC→QT→Km→World→Prop
 | .skip,Q,ρ,w=>Q .normal ρ w
 | .ops l,Q,ρ,w=>Q0 P l Q ρ w
 | .draw gs es,Q,ρ,w=>∀l,R7 es [] l→Q0 P (l.map fun i=>gs.getD i GO.nop) Q ρ w.drew
 | .seq a b,Q,ρ,w=>a.wp P (Qh (b.wp P Q) Q) ρ w
 | .cond c a b,Q,ρ,w=>∃t,ρ.ev c= .bool t∧(if t then a.wp P Q ρ w else b.wp P Q ρ w)
 | .block id a,Q,ρ,w=>a.wp P (Qd id Q) ρ w
 | .loop a,Q,ρ,w=>∃(I:Km→World→Prop) (μ:Km→World→Nat),I ρ w∧∀ρ w,I ρ w→a.wp P (Qh (fun ρ' w'=>I ρ' w'∧μ ρ' w'<μ ρ w) Q) ρ w
 | .exit id,Q,ρ,w=>Q (.exit id) ρ w
 | .ret,Q,ρ,w=>Q .ret ρ w
 | .bad,_,_,_=>False

theorem mm {f g:α→Option β}:∀{l:List α},(∀x∈l,f x=g x)→l.filterMap f=l.filterMap g:=by
 intro l
 induction l with
 | nil=>intro _;rfl
 | cons a l ih=>intro h;simp only [Hr,h a Js,ih (fun x hx=>h x Du)]

theorem rr {ops:Array Oper}{t:Nat}:∀i∈Region.schedule mixed ops t,∃o,ops[i]?=some o:=by
 have key:∀(m:Region.Mode) fuel t listed acc,(∀i∈acc,∃o,ops[i]?=some o)→∀i∈Region.linearise.go m ops fuel t listed acc,∃o,ops[i]?=some o:=by
  intro m fuel
  induction fuel with
  | zero=>intro t listed acc h i hi;simp [Region.linearise.go] at hi;exact h i hi
  | succ fuel ih=>
    intro t listed acc h i hi;simp only [Region.linearise.go] at hi;split at hi
    · rename_i j hj
      refine ih _ _ (j::acc) ?_ i hi;intro k hk;rcases ES.1 hk with rfl|hk
      · have:=EI hj;simp only [GH,Fz] at this;exact ⟨ops[k],by simp [this.1]⟩
      · exact h k hk
    · exact h i DO
 intro i hi;unfold Region.schedule at hi;split at hi
 · exact key _ _ _ _ [] Js i hi
 · exact key _ _ _ _ [] Js i hi

theorem xA:∀(n:Nat) (X:List Nat),X.Nodup→(∀x∈X,x<n)→X.length≤n:=by
 intro n
 induction n with
 | zero=>
   intro X _ h
   cases X with
   | nil=>simp
   | cons x X=>exact absurd (h x Js) Jo
 | succ n ih=>
   intro X hnd h
   have h1:=ih (X.erase n) (hnd.erase n) (fun x hx=>by
    have:=(List.Nodup.mem_erase_iff hnd).1 hx;have:=h x this.2;omega)
   by_cases hm:n∈X
   · rw [IW hm] at h1;omega
   · rw [List.erase_of_not_mem hm] at h1;omega

theorem mn (h:j3 os.toList=true){i:Nat}{o:Oper}(ho:os[i]?=some o){e:Edge}(he:e∈o.after):gi i e=true:=by
 unfold j3 at h;have:=FN.1 h (o,i) EC;exact FN.1 this e (by simpa using he)

def aV (m:Region.Mode)(os:Array Oper):Prop:=∀X:List Nat,(∃i,i<os.size∧i∉X)→∃i o,os[i]?=some o∧i∉X∧∀e∈o.after,Region.binds m e=true→e.on∈X∧e.on<os.size

theorem xB (h:j3 os.toList=true):aV .any os:=by
 rintro X ⟨i,hi,hX⟩
 induction i using Nat.strongRecOn with
 | _ i ih=>
   by_cases hall:∀j,j<i→j∈X
   · refine ⟨i,os[i],by simp [hi],hX,fun e he _=>?_⟩;have hp:=mn h (i:=i) (o:=os[i]) (by simp [hi]) he;unfold gi at hp;simp only [EW,decide_eq_true_eq] at hp;exact ⟨hall _ hp.1,Jo⟩
   · have ⟨j,hj⟩:=Jl.1 hall;have ⟨hj1,hj2⟩:=Classical.not_imp.1 hj;exact ih j hj1 Jo hj2

theorem j4 {m:Region.Mode}{os:Array Oper}:∀{r seen:List Nat},R8 m os seen r=true→∀X:List Nat,(∀i∈seen,i∈X)→(∃i,i<os.size∧i∉X)→∃i o,os[i]?=some o∧i∉X∧∀e∈o.after,Region.binds m e=true→e.on∈X∧e.on<os.size
 | [],seen,h,X,hs,⟨i,hi,hX⟩=>by
   have:=FN.1 h i (Fz.2 hi);exact absurd (hs i (by simpa using this)) hX
 | i ::r,seen,h,X,hs,hx=>by
   simp only [R8,EW] at h;obtain ⟨h1,h2⟩:=h;by_cases hi:i∈X
   · exact j4 h2 X (fun j hj=>(ES.1 hj).elim (fun e=>e ▸ hi) (hs j)) hx
   · split at h1
     · rename_i o ho;refine ⟨i,o,ho,hi,fun e he hb=>?_⟩;have:=FN.1 h1 e (by simpa using he);rw [hb] at this;simp only [IV,GP,EW,decide_eq_true_eq] at this;exact ⟨hs _ (by simpa using this.1),this.2⟩
     · cases h1
theorem xC {m:Region.Mode}{e:Edge}(h:Region.binds .any e=true):Region.binds m e=true:=by
 unfold Region.binds at h ⊢;split at h<;>simp_all
theorem xD (h:eN os=true){i:Nat}{o:Oper}(ho:os[i]?=some o){e:Edge}(he:e∈o.after)(hb:Region.binds .any e=true):e.on<i:=by
 unfold eN at h;rw [G7] at h;rcases h with h|h
 · have hp:=mn h ho he;unfold gi at hp;simp only [EW,decide_eq_true_eq] at hp;exact hp.1
 · unfold ml at h
   simp only [EW] at h;have:=FN.1 h.1.1.1 (o,i) EC;have:=FN.1 this e (by simpa using he);unfold rq at this;rw [hb] at this
   simpa using this

theorem aW (m:Region.Mode)(hback:∀(i:Nat) (o:Oper),os[i]?=some o→∀e∈o.after,Region.binds .any e=true→e.on<i)(hprog:aV m os):∀(fuel t:Nat) (listed:Array Bool) (acc X:List Nat),listed.size=os.size→(∀i,i<os.size→(listed.getD i false=true↔i∈X))→
 (∀i∈X,i<os.size)→X.Nodup→os.size≤fuel+X.length→
 ∃l,Region.linearise.go m os fuel t listed acc=acc.reverse++l∧R7 (Xk os) X l:=by
 intro fuel
 induction fuel with
 | zero=>
   intro t listed acc X hsz hX hlt hnd hf;refine ⟨[],by simp [Region.linearise.go],?_⟩;intro i hi;simp only [Xk,EK,FZ] at hi;rcases I6 (i∈X) with hc|hc
   · exact hc
   · have:=xA os.size (i::X) (GG.2 ⟨hc,hnd⟩) (by intro j hj;rcases ES.1 hj with rfl|hj;exact hi;exact hlt j hj);simp at this;omega
 | succ fuel ih=>
   intro t listed acc X hsz hX hlt hnd hf;simp only [Region.linearise.go];split
   · rename_i i hi
     have hm:=EI hi;simp only [GH,Fz,EW] at hm;obtain ⟨hilt,hnl,hr⟩:=hm;have hget:os[i]?=some os[i]:=(by simp [hilt]);rw [hget] at hr;simp only [FP,GA] at hr
     have hiX:i∉X:=by
      intro hc;have:=(hX i hilt).2 hc;simp [Array.getD,hsz,hilt] at hnl this;simp [this] at hnl
     obtain ⟨l,h1,h2⟩:=ih (t / _) (listed.setIfInBounds i true) (i::acc) (i::X) (by simp [hsz]) (by
      intro j hj;have:=hX j hj;by_cases hij:i=j
      · subst hij;simp [Array.getD,hsz,hj]
      · rw [F5,Iz hij,←F5,this]
        simp [G4 hij]) (by intro j hj;rcases ES.1 hj with rfl|hj;exact hilt;exact hlt j hj) (GG.2 ⟨hiX,hnd⟩) De
     refine ⟨i::l,by rw [h1];simp,by simpa [Xk] using hilt,hiX,?_,h2⟩;intro e he;simp only [Xk,EL,EN,Gb,hget,FP,GA,Fc,GH] at he;obtain ⟨ed,⟨hed,hb⟩,rfl⟩:=he;have hed':ed∈os[i].after:=(by simpa using hed);have hp:=hback i _ hget ed hed' hb;have:=Ir.1 hr ed hed';simp only [xC hb,IV,GP] at this;exact (hX ed.on Jo).1 this
   · rename_i hi
     refine ⟨[],by simp,?_⟩;intro i hi';simp only [Xk,EK,FZ] at hi';rcases I6 (i∈X) with hc|hc
     · exact hc
     exfalso;obtain ⟨j,o,hj,hjX,hjr⟩:=hprog X ⟨i,hi',hc⟩;have hjlt:j<os.size:=(Hz.1 hj).1
     have hmem:j∈(List.range os.size).filter fun i=> !listed.getD i true && ((os[i]?).map (·.after.all fun e=> !Region.binds m e||listed.getD e.on false)).getD false:=by
      simp only [GH,Fz,EW];refine ⟨hjlt,?_,?_⟩
      · have:=mt (hX j hjlt).1 hjX
        simp [Array.getD,hsz,hjlt] at this ⊢
        simpa using this
      · rw [hj]
        simp only [FP,GA];rw [Ir];intro e he
        cases hb:Region.binds m e with
        | false=>rfl
        | true=>
          obtain ⟨h1,h2⟩:=hjr e he hb;have:=(hX e.on h2).2 h1;simp [this]
     have hlen:0<((List.range os.size).filter fun i=> !listed.getD i true && ((os[i]?).map (·.after.all fun e=> !Region.binds m e||listed.getD e.on false)).getD false).length:=
      Hb hmem
     rw [IT] at hi;have:=IM t hlen;omega

theorem j5 {m:Region.Mode}{t:Nat}(h:eN os=true)(hp:aV m os):R7 (Xk os) [] (Region.linearise m os t):=by
 obtain ⟨l,h1,h2⟩:=aW m (fun i o ho e he hb=>xD h ho he hb) hp os.size t (Array.replicate os.size false) [] [] Js (by intro i hi;simp [Array.getD,hi]) Js Js Js;unfold Region.linearise;rw [h1]
 simpa using h2
theorem xE {t:Nat}(h:eN os=true):R7 (Xk os) [] (Region.schedule mixed os t):=by
 have h':=h;unfold eN at h';rw [G7] at h';rcases h' with h'|h'
 · have hdep:Region.departs os=false:=by
    cases hd:Region.departs os with
    | false=>rfl
    | true=>
      unfold Region.departs at hd;rw [JN] at hd;obtain ⟨i,hi,hd⟩:=hd;rw [JN] at hd;obtain ⟨j,hj,hd⟩:=hd;have hp:=mn h' (i:=i) (o:=os[i]) (by simp [hi]) (e:=os[i].after[j]) Js;unfold gi at hp;unfold Region.binds at hd;cases hg:os[i].after[j].ground<;>simp [hg] at hp hd
   unfold Region.schedule;rw [hdep];simp only [H8,Bool.or_true,if_true];exact j5 h (xB h')
 · unfold ml at h'
   simp only [EW] at h';have hany:=fun X hX=>j4 h'.2 X (fun _ h=>(EY h).elim) hX;have htext:=fun X hX=>j4 h'.1.1.2 X (fun _ h=>(EY h).elim) hX;have hgc:=fun X hX=>j4 h'.1.2 X (fun _ h=>(EY h).elim) hX;unfold Region.schedule;split
   · exact j5 h hany
   · split
     · exact j5 h htext
     · exact j5 h hgc

theorem mq (g:α→β):∀(l pre:List α),(List.range' pre.length l.length).filterMap (fun i=>((pre++l)[i]?).map g)=l.map g:=by
 intro l
 induction l with
 | nil=>intro pre;simp
 | cons x l ih=>
   intro pre;have:=ih (pre++[x]);simp only [EM,Hf,FX,List.singleton_append] at this;simp only [ET,Hh,Hr,FM];simp [this]

theorem mr:∀(c:Code) (Q:QT) (ρ:Km) (a:Act) (w:World),N8 n ρ ds a→(PG P n c).wp P Q ρ w→c.wp P (ZK n ds Q) a w:=by
 have hokall:∀ops:Array Oper,ops.toList.all (Pk n ops)=true→∀(i:Nat) (o:Oper),ops[i]?=some o→Pk n ops o=true:=by
  intro ops h i o hi;exact FN.1 h o D8
 intro c
 induction c with
 | skip=>intro Q ρ a w hr h;exact wp_skip ⟨ρ,hr,h⟩
 | region id ops draw=>
   intro Q ρ a w hr h
   cases draw with
   | false=>
     simp only [PG] at h;split at h
     · rename_i hall
       refine wp_region ?_;refine j1 _ ρ a w hr ?_ ?_
       · intro i hi;have hi':i<ops.size:=DO;exact ⟨ops[i],by simp [hi'],hokall ops hall i _ (by simp [hi'])⟩
       · have e:((List.range ops.size).filterMap fun i=>(ops[i]?).map (OF P ops))=ops.toList.map (OF P ops):=by
          have:=mq (OF P ops) ops.toList []
          simpa [Gr] using this
         rw [e];exact h
     · exact h.elim
   | true =>
     simp only [PG] at h;split at h
     · rename_i hall
       simp only [EW] at hall;refine wp_region_draw fun t=>?_;have h':=h _ (xE (mixed:=P.follows .mixedOrders) (t:=t) hall.2);refine j1 _ ρ a _ hr ?_ ?_
       · intro i hi;obtain ⟨o,ho⟩:=rr i hi;exact ⟨o,ho,hokall ops hall.1 i o ho⟩
       · have e:((Region.schedule (P.follows .mixedOrders) ops t).filterMap fun i=>(ops[i]?).map (OF P ops))=
          (Region.schedule (P.follows .mixedOrders) ops t).map fun i=>(ops.toList.map (OF P ops)).getD i GO.nop:=by
          rw [←List.filterMap_eq_map];refine mm ?_;intro i hi;obtain ⟨o,ho⟩:=rr i hi;have ho':ops.toList[i]?=some o:=(by simpa using ho);simp [ho,EL]
         rw [e];exact h'
     · exact h.elim
 | seq x y ihx ihy=>
   intro Q ρ a w hr h;refine wp_seq ?_;refine wp_mono (ihx _ ρ a w hr h) ?_;rintro e a w ⟨ρ,hr,h⟩
   cases e with
   | normal=>exact ihy _ ρ a w hr h
   | _=>exact ⟨ρ,hr,h⟩
 | cond c x y ihx ihy=>
   intro Q ρ a w hr h;obtain ⟨t,hc,h⟩:=h;refine wp_cond (t:=t) (by rw [hr.ev];exact hc) ?_;cases t
   · exact ihy _ ρ a w hr h
   · exact ihx _ ρ a w hr h
 | block id x ih=>
   intro Q ρ a w hr h;refine wp_block ?_;refine wp_mono (ih _ ρ a w hr h) ?_;rintro e a w ⟨ρ,hr,h⟩
   cases e with
   | exit id'=>
     simp only [Qd] at h;simp only [Exit.inBlock];split
     · rename_i he;rw [if_pos he] at h;exact ⟨ρ,hr,h⟩
     · rename_i he;rw [if_neg he] at h;exact ⟨ρ,hr,h⟩
   | _=>exact ⟨ρ,hr,h⟩
 | loop x ih=>
   intro Q ρ a w hr h;obtain ⟨I,μ,h0,hround⟩:=h;refine wp_loop (ZJ n ds I) (fun a w=>μ (fun i=>a.tmps.getD i undef) w) ⟨ρ,hr,h0⟩ ?_;rintro a w ⟨ρ,hr,hI⟩;have he:(fun i=>a.tmps.getD i undef)=ρ:=funext hr.2.1;refine wp_mono (ih _ ρ a w hr (hround ρ w hI)) ?_;rintro e a' w' ⟨ρ',hr',h⟩
   cases e with
   | normal=>
     have he':(fun i=>a'.tmps.getD i undef)=ρ':=funext hr'.2.1;refine ⟨⟨ρ',hr',h.1⟩,?_⟩;simp only [he,he'];exact h.2
   | _=>exact ⟨ρ',hr',h⟩
 | exit id=>intro Q ρ a w hr h;exact wp_exit ⟨ρ,hr,h⟩
 | ret=>intro Q ρ a w hr h;exact wp_ret ⟨ρ,hr,h⟩
 | rangeFunc=>intro Q ρ a w hr h;exact h.elim
 | scope=>intro Q ρ a w hr h;exact h.elim
 | label=>intro Q ρ a w hr h;exact h.elim
 | goto=>intro Q ρ a w hr h;exact h.elim
 | refuse=>intro Q ρ a w hr h;exact h.elim


def Xl (l:List Value):Km:=fun i=>l.getD i undef

def RB:List Value→Value
 | [v]=>v
 | l=> .tuple ⟨l⟩

def Xm (P:Program)(w:World)(a:Addr)(T:TypeId)(v:Value):Prop:=
 (Xg P T=true∧w.cell? a=some v)∨(Pj P T=true∧∃n cs,NG P T=some n∧ZL w a n cs∧v= .agg ⟨cs⟩)

def Qz (P:Program)(w:World)(ρ:Km):List ResultVar→List Value→(Value→Prop)→Prop
 | [],acc,R=>R (RB acc.reverse)
 | .tmp t::rs,acc,R=>Qz P w ρ rs (ρ t::acc) R
 | .cell a T::rs,acc,R=>∃ad v,ρ a= .pointer (some ad)∧Xm P w ad T v∧Qz P w ρ rs (v::acc) R

def Kq (P:Program)(rs:List ResultVar)(R:Ending→World→Prop):QT
 | .normal,ρ,w=>Qz P w ρ rs [] fun v=>R (.returned v) w
 | .ret,ρ,w=>Qz P w ρ rs [] fun v=>R (.returned v) w
 | .panic chain,_,w=>R (.panicked chain) w
 | .outgrown,_,w=>R .outgrown w
 | _,_,_=>False

theorem xF {a:Addr}{v:Value}(h:Xm P w a T v):(loadVar T a).run P w= .ok v w:=by
 rcases h with ⟨hs,hc⟩|⟨ha,n,cs,hn,hc,rfl⟩
 · simp [loadVar,mg P T w hs,hc]
 · simp [loadVar,mh P T w ha,P3 P T n w hn,gh (P:=P) a n cs hc]

theorem xG {ρ:Km}(f:ResultVar→Sem Value)(h1:∀t,f (.tmp t)=pure (ρ t))(h2:∀a t,f (.cell a t)=(do loadVar t (←asAddr (ρ a)))):
 ∀(rs:List ResultVar) (acc:List Value) (R:Value→Prop),Qz P w ρ rs acc R→∃vs,(rs.mapM f).run P w= .ok vs w∧R (RB (acc.reverse++vs)):=by
 intro rs
 induction rs with
 | nil=>intro acc R h;exact ⟨[],by simp,by simpa [Qz] using h⟩
 | cons r rs ih=>
   intro acc R h
   cases r with
   | tmp t=>
     obtain ⟨vs,h3,h4⟩:=ih _ R h;refine ⟨ρ t::vs,?_,by simpa using h4⟩;simp only [IK,Fo,FC,EZ,h1,h3]
   | cell a T=>
     obtain ⟨ad,v,ha,hv,h⟩:=h;obtain ⟨vs,h3,h4⟩:=ih _ R h;refine ⟨v::vs,?_,by simpa using h4⟩;simp only [IK,Fo,FC,EZ,h2,ha,asAddr,xF hv,h3]

theorem gj {ρ:Km}{tmps:Array Value}{R:Value→Prop}(ht:∀i,tmps.getD i undef=ρ i)
 (h:Qz P w ρ fn.results.toList [] R):∃v,(results fn tmps).run P w= .ok v w∧R v:=by
 unfold results
 obtain ⟨vs,h1,h2⟩:=xG (ρ:=ρ) (fun
  | .tmp t=>pure (tmps.getD t undef)
  | .cell a t=>do loadVar t (←asAddr (tmps.getD a undef))) (fun t=>by simp only [ht]) (fun a t=>by simp only [ht]) _ _ _ h
 simp only [List.reverse_nil,HY] at h2;refine ⟨RB vs,?_,h2⟩;simp only [IQ,Fo,Sem.run_map];refine Hl (congrArg (fun r=>((Result.andThen r _).andThen _)) h1) ?_;simp only [EZ,FC]
 match vs with
 | []=>rfl
 | [v]=>rfl
 | v::u::vs=>simp [RB]

theorem xH {e:Exit}{a:Act}
 (h:ZK n [] (Kq P fn.results.toList R) e a w):bodyPost P fn R e a w:=by
 obtain ⟨ρ,hr,h⟩:=h
 cases e with
 | normal=>obtain ⟨v,h1,h2⟩:=gj hr.2.1 h;exact ⟨hr.2.2,v,h1,h2⟩
 | ret=>obtain ⟨v,h1,h2⟩:=gj hr.2.1 h;exact ⟨hr.2.2,v,h1,h2⟩
 | panic ch=>exact ⟨hr.2.2,h⟩
 | outgrown=>exact h
 | exit=>exact h
 | goto=>exact h

theorem mu (args:Array Value)(n:Nat)(h:args.size≤n)(ds:List Deferred):N8 n (Xl args.toList) ds {tmps:=args++Array.replicate (n - args.size) undef,defers:=ds}:=by
 refine ⟨by simp;omega,fun i=>?_,rfl⟩;simp only [Xl,F5,EL,Array.getElem?_append,Array.getElem?_replicate,Gb];split
 · rfl
 · rename_i hi;rw [Gw Jo];split<;>simp

theorem xI {c:Code}{lc:LC}
 (hf:P.funcs[f]?=some fn)(hb:fn.body=some c)(hl:PG P fn.ntmps c=lc)(hrs:fn.results.toList=rs)(hn:Nat.ble args.length fn.ntmps=true)
 (h:lc.wp P (Kq P rs R) (Xl args) w):Calls P f ⟨args⟩ w R:=by
 refine calls_of_wp hf hb ?_;subst hl hrs;have hn':args.length≤fn.ntmps:=Fx hn;exact wp_mono (mr (ds:=[]) c _ _ _ _ (mu ⟨args⟩ fn.ntmps hn' []) h) fun e a w h=>xH h

def aX (P:Program)(fn:Func):Option LC:=fn.body.map (PG P fn.ntmps)

theorem xJ {lc:LC}
 (hf:P.funcs[f]?=some fn)(hl:aX P fn=some lc)(hrs:fn.results.toList=rs)(hn:Nat.ble args.length fn.ntmps=true)
 (h:lc.wp P (Kq P rs R) (Xl args) w):Calls P f ⟨args⟩ w R:=by
 unfold aX at hl
 cases hb:fn.body with
 | none=>simp [hb] at hl
 | some c=>simp only [hb,FP,E0] at hl;exact xI hf hb hl hrs hn h

end
section

def N9:Operand→List Nat
 | .tmp t=>[t]
 | _=>[]
def R9:Option Operand→List Nat
 | some x=>N9 x
 | none=>[]

def LO.uses:LO→List Nat
 | .mov _ x| .un _ _ x| .nilc _ x| .fld _ x _| .load1 _ x| .loadn _ _ x| .len _ x| .slen _ x| .ext _ x _| .fldv _ x _| .fldn _ x _ _| .box _ _ x| .conv _ _ x| .mki _ _ x=>N9 x
 | .pick _ c x y=>N9 c++N9 x++N9 y
 | .bin _ _ _ x y| .idx _ _ x y| .idxa _ _ _ x y| .sidx _ x y| .mnx _ _ x y| .store1 x y| .storen _ x y=>N9 x++N9 y
 | .alloc ..=>[]
 | .call _ _ xs=>xs.flatMap N9
 | .callv _ x xs=>N9 x++xs.flatMap N9
 | .build _ _ ps| .buildS _ _ _ _ ps=>ps.flatMap fun p=>N9 p.2.2
 | .mkfn _ _ xs=>xs.flatMap N9
 | .sub _ _ x a b c=>N9 x++R9 a++R9 b++R9 c
 | .ssub _ x a b=>N9 x++R9 a++R9 b
 | .raw o=>o.op.operands.toList.flatMap N9

def LO.quiet:LO→Bool
 | .mov ..| .pick ..| .un ..| .bin ..| .nilc ..| .fld ..| .load1 ..| .loadn ..| .idx ..| .idxa ..| .len ..| .slen ..| .sidx ..| .ext ..| .fldv ..| .fldn ..| .build ..| .mkfn ..
 | .sub ..| .ssub ..| .mnx ..| .conv ..| .mki ..=>true
 | _=>false

def qv (P:Program)(ρ:Km)(w:World):LO→Value→Prop
 | .mov _ x,v=>v=ρ.ev x
 | .pick _ c x y,v=>∃b,ρ.ev c= .bool b∧v=(if b then ρ.ev x else ρ.ev y)
 | .un _ op x,v=>∀w0,(Op.unary op (ρ.ev x)).run P w0= .ok v w0
 | .bin _ op T x y,v=>∀w0,(do eqGuard op T x y (ρ.ev x) (ρ.ev y);binOp op T (ρ.ev x) (ρ.ev y)).run P w0= .ok v w0
 | .nilc _ x,v=>∃a,ρ.ev x= .pointer (some a)∧v= .pointer (some a)
 | .fld _ x off,v=>∃a,ρ.ev x= .pointer (some a)∧v= .pointer (some (a.add off))
 | .load1 _ x,v=>∃a,ρ.ev x= .pointer (some a)∧w.cell? a=some v
 | .loadn _ n x,v=>∃a cs,ρ.ev x= .pointer (some a)∧ZL w a n cs∧v= .agg ⟨cs⟩
 | .idx _ es x i,v=>∃a len cap k n,ρ.ev x= .slice (some a) len cap∧ρ.ev i= .int k n∧0≤n∧n<len∧v= .pointer (some (a.add (n.toNat*es)))
 | .idxa _ m es x i,v=>∃a k n,ρ.ev x= .pointer (some a)∧ρ.ev i= .int k n∧0≤n∧n<(m:Int)∧v= .pointer (some (a.add (n.toNat*es)))
 | .len _ x,v=>∃a n c,ρ.ev x= .slice a n c∧v= .int .i64 n
 | .slen _ x,v=>∃s,ρ.ev x= .string s∧v= .int .i64 s.size
 | .sidx _ x i,v=>∃s k n b,ρ.ev x= .string s∧ρ.ev i= .int k n∧0≤n∧s[n.toNat]?=some b∧v= .int .u8 b.toNat
 | .ext _ x i,v=>∃vs,ρ.ev x= .tuple vs∧vs[i]?=some v
 | .fldv _ x off,v=>∃cs,ρ.ev x= .agg cs∧cs[off]?=some v
 | .fldn _ x off n,v=>∃cs,ρ.ev x= .agg cs∧v= .agg (cs.extract off (off+n))
 | .build _ z ps,v=>∃cs,Ng z (ps.map fun p=>(p.1,p.2.1,ρ.ev p.2.2))=some cs∧v= .agg ⟨cs⟩
 | .mkfn _ f caps,v=>v= .func (.func f) #[] ⟨caps.map ρ.ev⟩
 | .sub _ es x lo hi mx,v=>∃a len cap l h m,ρ.ev x= .slice a len cap∧ME ρ cap mx m∧ME ρ len hi h∧ME ρ 0 lo l∧m≤cap∧h≤m∧l≤h∧
    v= .slice (if m=l then a else a.map (·.add (l*es))) (h - l) (m - l)
 | .ssub _ x lo hi,v=>∃s l h,ρ.ev x= .string s∧ME ρ s.size hi h∧ME ρ 0 lo l∧h≤s.size∧l≤h∧v= .string (s.extract l h)
 | .mnx _ isMax x y,v=>∃k k' a b,ρ.ev x= .int k a∧ρ.ev y= .int k' b∧v= .int k (if isMax then (if a<b then b else a) else (if b<a then b else a))
 | .conv _ k x,v=>∃k' n,ρ.ev x= .int k' n∧v= .int k (k.wrap n)
 | .mki _ T x,v=>v= .iface T (ρ.ev x)
 | _,_=>False

theorem j6 {ρ:Km}{K:KT}{Q:QT}{o:LO}(h:o.quiet=true):o.wp P ρ w K Q↔∃v,qv P ρ w o v∧K (KC ρ o.dst v) w:=by
 cases o<;>simp only [LO.quiet,EX] at h<;>simp only [LO.wp,qv,LO.dst,KC];all_goals (constructor<;>intro h)
 case mov.mp=>exact ⟨_,rfl,h⟩
 case mov.mpr=>obtain ⟨v,rfl,h⟩:=h;exact h
 case pick.mp=>obtain ⟨b,h1,h2⟩:=h;exact ⟨_,⟨b,h1,rfl⟩,h2⟩
 case pick.mpr=>obtain ⟨v,⟨b,h1,rfl⟩,h2⟩:=h;exact ⟨b,h1,h2⟩
 case nilc.mp=>obtain ⟨a,h1,h2⟩:=h;exact ⟨_,⟨a,h1,rfl⟩,h2⟩
 case nilc.mpr=>obtain ⟨v,⟨a,h1,rfl⟩,h2⟩:=h;exact ⟨a,h1,h2⟩
 case fld.mp=>obtain ⟨a,h1,h2⟩:=h;exact ⟨_,⟨a,h1,rfl⟩,h2⟩
 case fld.mpr=>obtain ⟨v,⟨a,h1,rfl⟩,h2⟩:=h;exact ⟨a,h1,h2⟩
 case load1.mp=>obtain ⟨a,v,h1,h2,h3⟩:=h;exact ⟨v,⟨a,h1,h2⟩,h3⟩
 case load1.mpr=>obtain ⟨v,⟨a,h1,h2⟩,h3⟩:=h;exact ⟨a,v,h1,h2,h3⟩
 case loadn.mp=>obtain ⟨a,cs,h1,h2,h3⟩:=h;exact ⟨_,⟨a,cs,h1,h2,rfl⟩,h3⟩
 case loadn.mpr=>obtain ⟨v,⟨a,cs,h1,h2,rfl⟩,h3⟩:=h;exact ⟨a,cs,h1,h2,h3⟩
 case idx.mp=>obtain ⟨a,l,c,k,n,h1,h2,h3,h4,h5⟩:=h;exact ⟨_,⟨a,l,c,k,n,h1,h2,h3,h4,rfl⟩,h5⟩
 case idx.mpr=>obtain ⟨v,⟨a,l,c,k,n,h1,h2,h3,h4,rfl⟩,h5⟩:=h;exact ⟨a,l,c,k,n,h1,h2,h3,h4,h5⟩
 case idxa.mp=>obtain ⟨a,k,n,h1,h2,h3,h4,h5⟩:=h;exact ⟨_,⟨a,k,n,h1,h2,h3,h4,rfl⟩,h5⟩
 case idxa.mpr=>obtain ⟨v,⟨a,k,n,h1,h2,h3,h4,rfl⟩,h5⟩:=h;exact ⟨a,k,n,h1,h2,h3,h4,h5⟩
 case len.mp=>obtain ⟨a,n,c,h1,h2⟩:=h;exact ⟨_,⟨a,n,c,h1,rfl⟩,h2⟩
 case len.mpr=>obtain ⟨v,⟨a,n,c,h1,rfl⟩,h2⟩:=h;exact ⟨a,n,c,h1,h2⟩
 case slen.mp=>obtain ⟨s,h1,h2⟩:=h;exact ⟨_,⟨s,h1,rfl⟩,h2⟩
 case slen.mpr=>obtain ⟨v,⟨s,h1,rfl⟩,h2⟩:=h;exact ⟨s,h1,h2⟩
 case sidx.mp=>obtain ⟨s,k,n,b,h1,h2,h3,h4,h5⟩:=h;exact ⟨_,⟨s,k,n,b,h1,h2,h3,h4,rfl⟩,h5⟩
 case sidx.mpr=>obtain ⟨v,⟨s,k,n,b,h1,h2,h3,h4,rfl⟩,h5⟩:=h;exact ⟨s,k,n,b,h1,h2,h3,h4,h5⟩
 case ext.mp=>obtain ⟨vs,v,h1,h2,h3⟩:=h;exact ⟨v,⟨vs,h1,h2⟩,h3⟩
 case ext.mpr=>obtain ⟨v,⟨vs,h1,h2⟩,h3⟩:=h;exact ⟨vs,v,h1,h2,h3⟩
 case fldv.mp=>obtain ⟨cs,v,h1,h2,h3⟩:=h;exact ⟨v,⟨cs,h1,h2⟩,h3⟩
 case fldv.mpr=>obtain ⟨v,⟨cs,h1,h2⟩,h3⟩:=h;exact ⟨cs,v,h1,h2,h3⟩
 case fldn.mp=>obtain ⟨cs,h1,h2⟩:=h;exact ⟨_,⟨cs,h1,rfl⟩,h2⟩
 case fldn.mpr=>obtain ⟨v,⟨cs,h1,rfl⟩,h2⟩:=h;exact ⟨cs,h1,h2⟩
 case build.mp=>obtain ⟨cs,h1,h2⟩:=h;exact ⟨_,⟨cs,h1,rfl⟩,h2⟩
 case build.mpr=>obtain ⟨v,⟨cs,h1,rfl⟩,h2⟩:=h;exact ⟨cs,h1,h2⟩
 case mkfn.mp=>exact ⟨_,rfl,h⟩
 case mkfn.mpr=>obtain ⟨v,rfl,h⟩:=h;exact h
 case sub.mp=>obtain ⟨a,n,c,l,hh,m,h1,h2,h3,h4,h5,h6,h7,h8⟩:=h;exact ⟨_,⟨a,n,c,l,hh,m,h1,h2,h3,h4,h5,h6,h7,rfl⟩,h8⟩
 case sub.mpr=>obtain ⟨v,⟨a,n,c,l,hh,m,h1,h2,h3,h4,h5,h6,h7,rfl⟩,h8⟩:=h;exact ⟨a,n,c,l,hh,m,h1,h2,h3,h4,h5,h6,h7,h8⟩
 case ssub.mp=>obtain ⟨s,l,hh,h1,h2,h3,h4,h5,h6⟩:=h;exact ⟨_,⟨s,l,hh,h1,h2,h3,h4,h5,rfl⟩,h6⟩
 case ssub.mpr=>obtain ⟨v,⟨s,l,hh,h1,h2,h3,h4,h5,rfl⟩,h6⟩:=h;exact ⟨s,l,hh,h1,h2,h3,h4,h5,h6⟩
 case mnx.mp=>obtain ⟨k,k',a,b,h1,h2,h3⟩:=h;exact ⟨_,⟨k,k',a,b,h1,h2,rfl⟩,h3⟩
 case mnx.mpr=>obtain ⟨v,⟨k,k',a,b,h1,h2,rfl⟩,h3⟩:=h;exact ⟨k,k',a,b,h1,h2,h3⟩
 case conv.mp=>obtain ⟨k',n,h1,h2⟩:=h;exact ⟨_,⟨k',n,h1,rfl⟩,h2⟩
 case conv.mpr=>obtain ⟨v,⟨k',n,h1,rfl⟩,h2⟩:=h;exact ⟨k',n,h1,h2⟩
 case mki.mp=>exact ⟨_,rfl,h⟩
 case mki.mpr=>obtain ⟨v,rfl,h⟩:=h;exact h

theorem QC {ρ ρ':Km}{x:Operand}(h:∀s∈N9 x,ρ s=ρ' s):ρ.ev x=ρ'.ev x:=by
 cases x<;>first|rfl|exact h _ (by simp [N9])
theorem gk {ρ ρ':Km}{x:Option Operand}(h:∀s∈R9 x,ρ s=ρ' s)(hb:ME ρ d x n):ME ρ' d x n:=by
 cases x with
 | none=>exact hb
 | some x=>simp only [ME] at hb ⊢;rw [←QC (ρ:=ρ) (ρ':=ρ') h];exact hb
theorem j7 {ρ ρ':Km}(h:∀s∈xs.flatMap N9,ρ s=ρ' s):xs.map ρ.ev=xs.map ρ'.ev:=by
 refine FE fun x hx=>QC fun s hs=>h s ?_;exact G6.2 ⟨x,hx,hs⟩
theorem ru {ρ ρ':Km}{xs:List (Nat×Nat×Operand)}(h:∀s∈xs.flatMap (fun p=>N9 p.2.2),ρ s=ρ' s):
 (xs.map fun p=>(p.1,p.2.1,ρ.ev p.2.2))=xs.map fun p=>(p.1,p.2.1,ρ'.ev p.2.2):=by
 refine FE fun x hx=>?_;rw [QC (ρ:=ρ) (ρ':=ρ') fun s hs=>h s (G6.2 ⟨x,hx,hs⟩)]

theorem mv {ρ ρ':Km}{o:LO}{v:Value}(h:∀s∈o.uses,ρ s=ρ' s)(hv:qv P ρ w o v):qv P ρ' w o v:=by
 cases o<;>simp only [qv] at hv ⊢ <;>simp only [LO.uses,E3] at h
 case mov=>rw [←QC h];exact hv
 case pick=>rw [←QC fun s hs=>h s (.inl (.inl hs)),←QC fun s hs=>h s (.inl (.inr hs)),←QC fun s hs=>h s (.inr hs)];exact hv
 case un=>rw [←QC h];exact hv
 case bin=>rw [←QC fun s hs=>h s (.inl hs),←QC fun s hs=>h s (.inr hs)];exact hv
 case nilc=>rw [←QC h];exact hv
 case fld=>rw [←QC h];exact hv
 case load1=>rw [←QC h];exact hv
 case loadn=>rw [←QC h];exact hv
 case idx=>rw [←QC fun s hs=>h s (.inl hs),←QC fun s hs=>h s (.inr hs)];exact hv
 case idxa=>rw [←QC fun s hs=>h s (.inl hs),←QC fun s hs=>h s (.inr hs)];exact hv
 case len=>rw [←QC h];exact hv
 case slen=>rw [←QC h];exact hv
 case sidx=>rw [←QC fun s hs=>h s (.inl hs),←QC fun s hs=>h s (.inr hs)];exact hv
 case ext=>rw [←QC h];exact hv
 case fldv=>rw [←QC h];exact hv
 case fldn=>rw [←QC h];exact hv
 case build=>rw [←ru h];exact hv
 case mkfn=>rw [←j7 h];exact hv
 case sub=>
  rw [←QC fun s hs=>h s (.inl (.inl (.inl hs)))];obtain ⟨a,n,c,l,hh,m,h1,h2,h3,h4,h5⟩:=hv;exact ⟨a,n,c,l,hh,m,h1,gk (fun s hs=>h s (.inr hs)) h2,gk (fun s hs=>h s (.inl (.inr hs))) h3,gk (fun s hs=>h s (.inl (.inl (.inr hs)))) h4,h5⟩
 case ssub=>
  rw [←QC fun s hs=>h s (.inl (.inl hs))];obtain ⟨s,l,hh,h1,h2,h3,h4⟩:=hv;exact ⟨s,l,hh,h1,gk (fun s hs=>h s (.inr hs)) h2,gk (fun s hs=>h s (.inl (.inr hs))) h3,h4⟩
 case mnx=>rw [←QC fun s hs=>h s (.inl hs),←QC fun s hs=>h s (.inr hs)];exact hv
 case conv=>rw [←QC h];exact hv
 case mki=>rw [←QC h];exact hv
 all_goals exact hv.elim

theorem xK {ρ ρ':Km}{xs:Array Operand}(h:∀s∈xs.toList.flatMap N9,ρ s=ρ' s):xs.map ρ.ev=xs.map ρ'.ev:=by
 apply HV;simpa using j7 h
def SX:Op→Bool
 | .call ⟨.builtin _,_,_⟩| .makeSlice ..| .convert ..| .box ..| .load ..=>true
 | _=>false

theorem xL {ρ ρ':Km}{o:Oper}(hr:SX o.op=true)(h:∀s∈o.op.operands.toList.flatMap N9,ρ s=ρ' s):execOp ρ.ev o=execOp ρ'.ev o:=by
 obtain ⟨dst,op,T,pos,af,g⟩:=o;cases op<;>simp only [SX,EX] at hr<;>simp only [Op.operands] at h
 case call c=>
  obtain ⟨ce,xs,ts⟩:=c;cases ce<;>simp only [EX] at hr;simp only [execOp,resolve];rw [xK (by simpa [Call.operands] using h)]
 case makeSlice T l c=>
  simp only [execOp];rw [QC (x:=l) (ρ:=ρ) (ρ':=ρ') (fun s hs=>h s (by simp [hs])),QC (x:=c) (ρ:=ρ) (ρ':=ρ') (fun s hs=>h s (by simp [hs]))]
 case convert=>simp only [execOp];rw [QC (ρ:=ρ) (ρ':=ρ') (fun s hs=>h s (by simpa using hs))]
 case box=>simp only [execOp];rw [QC (ρ:=ρ) (ρ':=ρ') (fun s hs=>h s (by simpa using hs))]
 case load=>simp only [execOp];rw [QC (ρ:=ρ) (ρ':=ρ') (fun s hs=>h s (by simpa using hs))]

def LO.takes:LO→Bool
 | .raw o=>SX o.op
 | _=>true

theorem xe {ρ ρ':Km}{o:LO}{K K':KT}{Q Q':QT}(ht:o.takes=true)(h:∀s∈o.uses,ρ s=ρ' s)
 (hk:∀v w',K (KC ρ o.dst v) w'→K' (KC ρ' o.dst v) w')(hq:∀e w',e≠ .normal→Q e ρ w'→Q' e ρ' w')(hw:o.wp P ρ w K Q):o.wp P ρ' w K' Q':=by
 by_cases hqt:o.quiet=true
 · rw [j6 hqt] at hw ⊢;obtain ⟨v,h1,h2⟩:=hw;exact ⟨v,mv h h1,hk _ _ h2⟩
 · have hp:∀d e w',Q5 K Q d ρ w e w'→(∀v w',K (KC ρ d v) w'→K' (KC ρ' d v) w')→Q5 K' Q' d ρ' w e w':=by
    intro d e w' hc hk
    cases e with
    | returned v=>exact hk _ _ hc
    | panicked ch=>exact hq _ _ Js hc
    | outgrown=>exact hq _ _ Js hc
   cases o<;>simp only [LO.quiet,not_true_eq_false] at hqt<;>simp only [LO.wp] at hw ⊢ <;>simp only [LO.uses,E3] at h<;>simp only [LO.dst,KC] at hk
   case store1=>
    obtain ⟨a,c,h1,h2,h3,h4,h5⟩:=hw;have e1:=QC (ρ:=ρ) (ρ':=ρ') fun s hs=>h s (.inl hs);have e2:=QC (ρ:=ρ) (ρ':=ρ') fun s hs=>h s (.inr hs);rw [←e1,←e2];exact ⟨a,c,h1,h2,h3,h4,hk undef _ h5⟩
   case storen=>
    obtain ⟨a,cs,w',h1,h2,h3,h4,h5⟩:=hw;have e1:=QC (ρ:=ρ) (ρ':=ρ') fun s hs=>h s (.inl hs);have e2:=QC (ρ:=ρ) (ρ':=ρ') fun s hs=>h s (.inr hs);rw [←e1,←e2];exact ⟨a,cs,w',h1,h2,h3,h4,hk undef _ h5⟩
   case alloc=>exact hk _ _ hw
   case box=>rw [←QC h];exact hk _ _ hw
   case call=>rw [←j7 h];exact hw.mono fun e w' hc=>hp _ e w' hc hk
   case callv=>
    obtain ⟨f,fst,cap,fn,h1,h2,h3,h4,h5⟩:=hw;rw [←QC (ρ:=ρ) (ρ':=ρ') fun s hs=>h s (.inl hs),←j7 (ρ:=ρ) (ρ':=ρ') fun s hs=>h s (.inr hs)];exact ⟨f,fst,cap,fn,h1,h2,h3,h4,h5.mono fun e w' hc=>hp _ e w' hc hk⟩
   case buildS=>
    rw [←ru h];obtain ⟨cs,h1,h2⟩:=hw;exact ⟨cs,h1,hk _ _ h2⟩
   case raw o=>
    unfold Ph at hw ⊢;rw [←xL ht h];split at hw
    · exact hk _ _ hw
    · exact hk _ _ hw
    · exact hw.mono fun e w' hc=>by
       cases e with
       | returned v=>exact hk _ _ hc
       | panicked ch=>exact hq _ _ Js hc
       | outgrown=>exact hq _ _ Js hc
    · exact hw.mono fun v w' hc=>hk _ _ hc
    · exact hq _ _ Js hw
    · exact hw.elim

theorem ry {K K':KT}{Q Q':QT}{d:Option Nat}{ρ:Km}(hk:∀ρ w,K ρ w→K' ρ w)(hq:∀e ρ w,e≠ .normal→Q e ρ w→Q' e ρ w):∀e w',Q5 K Q d ρ w e w'→Q5 K' Q' d ρ w e w':=by
 intro e w' h
 cases e with
 | returned v=>exact hk _ _ h
 | panicked ch=>exact hq _ _ _ Js h
 | outgrown=>exact hq _ _ _ Js h

theorem me {ρ:Km}{o:LO}{K K':KT}{Q Q':QT}(hk:∀ρ w,K ρ w→K' ρ w)(hq:∀e ρ w,e≠ .normal→Q e ρ w→Q' e ρ w)(h:o.wp P ρ w K Q):o.wp P ρ w K' Q':=by
 by_cases hqt:o.quiet=true
 · rw [j6 hqt] at h ⊢;obtain ⟨v,h1,h2⟩:=h;exact ⟨v,h1,hk _ _ h2⟩
 · cases o<;>simp only [LO.quiet,not_true_eq_false] at hqt<;>simp only [LO.wp] at h ⊢
   case store1=>obtain ⟨a,c,h1,h2,h3,h4,h5⟩:=h;exact ⟨a,c,h1,h2,h3,h4,hk _ _ h5⟩
   case storen=>obtain ⟨a,c,w',h1,h2,h3,h4,h5⟩:=h;exact ⟨a,c,w',h1,h2,h3,h4,hk _ _ h5⟩
   case alloc=>exact hk _ _ h
   case box=>exact hk _ _ h
   case call=>exact h.mono (ry hk hq)
   case callv=>obtain ⟨f,fst,cap,fn,h1,h2,h3,h4,h5⟩:=h;exact ⟨f,fst,cap,fn,h1,h2,h3,h4,h5.mono (ry hk hq)⟩
   case buildS=>obtain ⟨cs,h1,h2⟩:=h;exact ⟨cs,h1,hk _ _ h2⟩
   case raw o=>
    unfold Ph at h ⊢;split at h
    · exact hk _ _ h
    · exact hk _ _ h
    · exact h.mono fun e w' hc=>by
       cases e with
       | returned v=>exact hk _ _ hc
       | panicked ch=>exact hq _ _ _ Js hc
       | outgrown=>exact hq _ _ _ Js hc
    · exact h.mono fun v w' hc=>hk _ _ hc
    · exact hq _ _ _ Js h
    · exact h.elim


def GO.uses (g:GO):List Nat:=(match g.g with|some (s,_)=>[s]|none=>[])++g.o.uses
def GO.dst (g:GO):Option Nat:=g.o.dst

def MX (P:Program)(ρ:Km)(w:World)(g:GO)(v:Value):Prop:=match g.g with
 | none=>qv P ρ w g.o v
 | some (s,b)=>if WN (ρ s) b then qv P ρ w g.o v else v=undef

theorem j8 {ρ ρ':Km}{g:GO}{v:Value}(h:∀s∈g.uses,ρ s=ρ' s)(hv:MX P ρ w g v):MX P ρ' w g v:=by
 obtain ⟨g,o⟩:=g
 cases g with
 | none=>exact mv (fun s hs=>h s (by simp [GO.uses,hs])) hv
 | some p=>
   obtain ⟨s,b⟩:=p;simp only [MX] at hv ⊢;rw [←h s (by simp [GO.uses])];split
   · rename_i hw;rw [if_pos hw] at hv;exact mv (fun s hs=>h s (by simp [GO.uses,hs])) hv
   · rename_i hw;rw [if_neg hw] at hv;exact hv

theorem rz {ρ:Km}{Q:QT}{g:GO}{l:List GO}(h:g.o.quiet=true):
 Q0 P (g::l) Q ρ w↔∃v,MX P ρ w g v∧Q0 P l Q (KC ρ g.dst v) w:=by
 obtain ⟨g,o⟩:=g
 cases g with
 | none=>simp only [Q0,MX];exact j6 h
 | some p=>
   obtain ⟨s,b⟩:=p;simp only [Q0,MX];split
   · exact j6 h
   · constructor
     · intro h;exact ⟨_,rfl,h⟩
     · rintro ⟨v,rfl,h⟩;exact h

theorem rA {ρ ρ':Km}{g:GO}{l l':List GO}{Q Q':QT}(ht:g.o.takes=true)(h:∀s∈g.uses,ρ s=ρ' s)
 (hk:∀v w',Q0 P l Q (KC ρ g.dst v) w'→Q0 P l' Q' (KC ρ' g.dst v) w')(hq:∀e w',e≠ .normal→Q e ρ w'→Q' e ρ' w')(hw:Q0 P (g::l) Q ρ w):Q0 P (g::l') Q' ρ' w:=by
 obtain ⟨g,o⟩:=g
 cases g with
 | none=>exact B6
 | some p=>
   obtain ⟨s,b⟩:=p;simp only [Q0] at hw ⊢;rw [←h s (by simp [GO.uses])];split
   · rename_i hg;rw [if_pos hg] at hw;exact B6
   · rename_i hg;rw [if_neg hg] at hw;exact hk _ _ hw


abbrev CI:=Nat×Option (Option (List Nat))

def LO.pureQ:LO→Bool
 | .load1 ..| .loadn ..=>false
 | o=>o.quiet

theorem rB {ρ:Km}{o:LO}{v:Value}(h:o.pureQ=true)(hv:qv P ρ w o v):qv P ρ w' o v:=by
 cases o<;>first|exact hv|(simp [LO.pureQ] at h;done)
theorem SY {ρ:Km}{g:GO}{v:Value}(h:g.o.pureQ=true)(hv:MX P ρ w g v):MX P ρ w' g v:=by
 obtain ⟨g,o⟩:=g
 cases g with
 | none=>exact rB h hv
 | some p=>
   simp only [MX] at hv ⊢;split
   · rename_i hw;rw [if_pos hw] at hv;exact rB h hv
   · rename_i hw;rw [if_neg hw] at hv;exact hv

def SZ (acc:List Nat)(e:List Nat):Nat:=e.foldl (fun m j=>m|||2 ^ j|||acc.getD j 0) 0
def mw:List (List Nat)→List Nat→List Nat
 | [],acc=>acc
 | e::es,acc=>mw es (acc++[SZ acc e])
def gl (es:List (List Nat)):List Nat:=mw es []

def gm (es:List (List Nat))(X:List Nat):Prop:=∀k∈X,∀e∈es.getD k [],e∈X

theorem P4 (acc:List Nat)(k:Nat):∀(e:List Nat) (m0:Nat),(e.foldl (fun m j=>m|||2 ^ j|||acc.getD j 0) m0).testBit k=true→m0.testBit k=true∨∃j∈e,k=j∨(acc.getD j 0).testBit k=true:=by
 intro e
 induction e with
 | nil=>intro m0 h;exact .inl h
 | cons j e ih=>
   intro m0 h;rcases ih _ h with h|⟨j',hj',h⟩
   · simp only [Nat.testBit_or,G7] at h
     rcases h with (h|h)|h
     · exact .inl h
     · rw [Nat.testBit_two_pow] at h;exact .inr ⟨j,by simp, .inl (by simpa using (of_decide_eq_true h).symm)⟩
     · exact .inr ⟨j,by simp, .inr h⟩
   · exact .inr ⟨j',by simp [hj'],h⟩

theorem xM (all:List (List Nat)):∀(es pre:List (List Nat)) (acc:List Nat),all=pre++es→acc.length=pre.length→
 (∀i,∀j,(acc.getD i 0).testBit j=true→∀X,gm all X→(∀e∈all.getD i [],e∈X)→j∈X)→
 ∀i j,((mw es acc).getD i 0).testBit j=true→∀X,gm all X→(∀e∈all.getD i [],e∈X)→j∈X:=by
 intro es
 induction es with
 | nil=>intro pre acc _ _ h;exact h
 | cons e es ih=>
   intro pre acc hall hlen h;refine ih (pre++[e]) (acc++[SZ acc e]) (by simp [hall]) (by simp [hlen]) ?_;intro i j hb X hX he;simp only [EL,List.getElem?_append] at hb;split at hb
   · exact h i j (by simpa [EL] using hb) X hX he
   · rename_i hi
     by_cases hi':i=acc.length
     · subst hi'
       simp only [Gl,FJ,GA] at hb;have hei:all.getD acc.length []=e:=(by rw [hlen,hall];simp [EL]);rw [hei] at he;rcases P4 acc j e 0 hb with hb|⟨j',hj',rfl|hb⟩
       · simp at hb
       · exact he _ hj'
       · exact h j' j hb X hX (hX j' (he j' hj'))
     · rw [Fk De] at hb;simp at hb

theorem xN {es:List (List Nat)}{i:Nat}(h:((gl es).getD i 0).testBit j=true){X:List Nat}(hX:gm es X)(he:∀e∈es.getD i [],e∈X):j∈X:=
 xM es es [] [] rfl rfl (by intro i j h;simp at h) i j h X hX he

section
variable (P:Program) (gs:List GO)

def KP (i:Nat):GO:=gs.getD i GO.nop

def my (Q:QT):QT:=fun e _ w'=>∀ρ'',Q e ρ'' w'

def Ow:List CI→QT→Km→World→Prop
 | [],Q,ρ,w=>Q .normal ρ w
 | (i,none)::rest,Q,ρ,w=>Q0 P [KP gs i] (Qh (Ow rest Q) Q) ρ w
 | (i,some none)::rest,Q,ρ,w=>Q0 P [KP gs i] (Qh (Ow rest Q) Q) ρ w
 | (i,some (some fl))::rest,Q,ρ,w=>
   Q0 P [KP gs i] (Qh (fun ρ' w'=>(∀q∈fl,MX P ρ w' (KP gs q) (ρ ((KP gs q).dst.getD 0)))∧Ow rest Q ρ' w') (my Q)) ρ w
end

def eO (a b:GO):Bool:=(match b.dst with|some d=> !a.uses.contains d && !(a.dst==some d)|none=>true)
def eP (a b:GO):Bool:=(match a.dst with|some d=> !b.uses.contains d|none=>true)

def S0 (gs:List GO)(ms:List Nat)(a b:CI):Bool:=
 let r:=(ms.getD b.1 0).testBit a.1
 match a.2,b.2 with
 | none,some none=>r
 | none,some (some fl)=>r||((fl.contains a.1||(KP gs a.1).o.pureQ) && eO (KP gs a.1) (KP gs b.1) && eP (KP gs a.1) (KP gs b.1))
 | some _,_=>r
 | none,none=>eO (KP gs a.1) (KP gs b.1) && (r||eP (KP gs a.1) (KP gs b.1))

def Xn (gs:List GO)(a:CI):Bool:=decide (a.1<gs.length) && (match a.2 with
 | none=>(KP gs a.1).o.quiet && (match (KP gs a.1).dst with|some d=> !(KP gs a.1).uses.contains d|none=>false)
 | some _=>(KP gs a.1).o.takes)

def WO (gs:List GO)(ms:List Nat):List CI→Bool
 | []=>true
 | a::l=>Xn gs a && l.all (fun b=>S0 gs ms a b && !(a.1==b.1)) && WO gs ms l

def aY (gs:List GO)(es:List (List Nat))(C:List CI):Bool:=
 decide (es.length=gs.length) && WO gs (gl es) C && (List.range gs.length).all fun i=>(C.map (·.1)).contains i

structure J (P:Program) (gs:List GO) (es:List (List Nat)) (C:List CI) (Q:QT) (X:List Nat) (ρS:Km) (w:World) (D rest:List CI) (ρC:Km):Prop where
 hC:C=D++rest
 hX1:∀i∈X,∃k,(i,k)∈D
 hX2:∀c∈D,c.2.isSome=true→c.1∈X
 hcl:gm es X
 hslot:∀s,(∀c∈D,c.1∉X→(KP gs c.1).dst≠some s)→ρS s=ρC s
 hpend:∀c∈D,c.1∉X→MX P ρC w (KP gs c.1) (ρC ((KP gs c.1).dst.getD 0))
 hcan:Ow P gs rest Q ρC w

theorem gn {gs:List GO}:∀{D rest:List CI},WO gs ms (D++rest)=true→∀a∈D,∀b∈rest,S0 gs ms a b=true∧a.1≠b.1:=by
 intro D
 induction D with
 | nil=>intro rest _ a ha;cases ha
 | cons c D ih=>
   intro rest h a ha b hb;simp only [Gz,WO,EW] at h;rcases ES.1 ha with rfl|ha
   · have:=FN.1 h.1.2 b (by simp [hb]);simp only [EW,Ge,beq_eq_false_iff_ne] at this;exact this
   · exact ih h.2 a ha b hb

theorem j9 {gs:List GO}:∀{C:List CI},WO gs ms C=true→∀a∈C,Xn gs a=true:=by
 intro C
 induction C with
 | nil=>intro _ a ha;cases ha
 | cons c C ih=>
   intro h a ha;simp only [WO,EW] at h;rcases ES.1 ha with rfl|ha
   · exact h.1.1
   · exact ih h.2 a ha

theorem Pm {gs:List GO}:∀{C:List CI},WO gs ms C=true→∀a∈C,∀b∈C,a=b∨(S0 gs ms a b=true∧a.1≠b.1)∨(S0 gs ms b a=true∧b.1≠a.1):=by
 intro C
 induction C with
 | nil=>intro _ a ha;cases ha
 | cons c C ih=>
   intro h a ha b hb;simp only [WO,EW] at h
   have hall:∀x∈C,S0 gs ms c x=true∧c.1≠x.1:=by
    intro x hx;have:=FN.1 h.1.2 x hx
    simpa [EW] using this
   rcases ES.1 ha with hac|ha
   · rcases ES.1 hb with hbc|hb
     · exact .inl (hac.trans hbc.symm)
     · rw [hac];exact .inr (.inl (hall b hb))
   · rcases ES.1 hb with hbc|hb
     · rw [hbc];exact .inr (.inr (hall a ha))
     · exact ih h.2 a ha b hb

theorem mz {a b:GO}(h:eO a b=true)(hd:b.dst=some d):d∉a.uses∧a.dst≠some d:=by
 unfold eO at h;rw [hd] at h;simp only [EW,Ge,Hm,decide_eq_false_iff_not,beq_eq_false_iff_ne] at h;exact h
theorem rC {a b:GO}(h:eP a b=true)(hd:a.dst=some d):d∉b.uses:=by
 unfold eP at h;rw [hd] at h
 simpa using h

theorem Xo {ρ:Km}{d:Option Nat}{v:Value}{s:Nat}(h:d≠some s):KC ρ d v s=ρ s:=by
 cases d with
 | none=>rfl
 | some d=>
   have:s≠d:=fun e=>h (by rw [e]);simp only [KC,upd];cases hb:Nat.beq s d
   · rfl
   · exact absurd (H2 hb) this
theorem ke {ρ:Km}{v:Value}{s:Nat}:KC ρ (some s) v s=v:=by
 simp [KC,upd,Nat.beq_refl]

theorem J.advance {gs:List GO}{es:List (List Nat)}{C:List CI}{Q:QT}{X:List Nat}{ρS:Km}(hok:WO gs (gl es) C=true):
 ∀(rest D:List CI) (ρC:Km),J P gs es C Q X ρS w D rest ρC→∃D' rest' ρC',J P gs es C Q X ρS w D' rest' ρC'∧(rest'=[]∨∃f fl r,rest'=(f,some fl)::r):=by
 intro rest
 induction rest with
 | nil=>intro D ρC h;exact ⟨D,[],ρC,h, .inl rfl⟩
 | cons c rest ih=>
   intro D ρC h;obtain ⟨i,k⟩:=c
   cases k with
   | some fl=>exact ⟨D,_,ρC,h, .inr ⟨i,fl,rest,rfl⟩⟩
   | none=>
     have hiC:(i,none)∈C:=(by rw [h.hC];simp);have h1:=j9 hok _ hiC;simp only [Xn,EW] at h1;obtain ⟨_,hq,hd⟩:=h1
     cases hdst:(KP gs i).dst with
     | none=>simp [hdst] at hd
     | some d=>
       simp only [hdst,Ge,Hm,decide_eq_false_iff_not] at hd;have hcan:=h.hcan;simp only [Ow] at hcan;obtain ⟨v,hv,hcan⟩:=(rz hq).1 hcan;simp only [Q0,Qh] at hcan;have hsplit:=gn (D:=D) (rest:=(i,none)::rest) (by rw [←h.hC];exact hok)
       have hiX:i∉X:=by
        intro hx;obtain ⟨k,hk⟩:=h.hX1 i hx;exact (hsplit _ hk (i,none) Js).2 rfl
       -- what is pending ahead of i
       have hind:∀c∈D,c.1∉X→d∉(KP gs c.1).uses∧(KP gs c.1).dst≠some d:=by
        intro c hc hcX;have hp:=(hsplit c hc (i,none) Js).1
        have hcn:c.2=none:=by
         cases hk:c.2 with
         | none=>rfl
         | some fl=>exact absurd (h.hX2 c hc (by simp [hk])) hcX
        simp only [S0,hcn,EW] at hp;exact mz hp.1 hdst
       refine ih (D++[(i,none)]) (KC ρC (KP gs i).dst v) ?_;refine ⟨by rw [h.hC];simp,?_,?_,h.hcl,?_,?_,hcan⟩
       · intro j hj;obtain ⟨k,hk⟩:=h.hX1 j hj;exact ⟨k,by simp [hk]⟩
       · intro c hc hs
         rcases E3.1 hc with hc|hc
         · exact h.hX2 c hc hs
         · simp only [Fp] at hc;subst hc;simp at hs
       · intro s hs;have hds:(KP gs i).dst≠some s:=hs (i,none) Js hiX;rw [Xo hds];exact h.hslot s fun c hc=>hs c DE
       · intro c hc hcX
         rcases E3.1 hc with hc|hc
         · obtain ⟨h2,h3⟩:=hind c hc hcX
           have he:∀s∈(KP gs c.1).uses,ρC s=KC ρC (KP gs i).dst v s:=by
            intro s hs;rw [Xo];rw [hdst];intro e;simp only [E0] at e;subst e;exact h2 hs
           have hdc:KC ρC (KP gs i).dst v ((KP gs c.1).dst.getD 0)=ρC ((KP gs c.1).dst.getD 0):=by
            rw [Xo];rw [hdst];intro e;simp only [E0] at e;have hcC:=j9 hok c (by rw [h.hC];simp [hc])
            have hcn:c.2=none:=by
             cases hk:c.2 with
             | none=>rfl
             | some fl=>exact absurd (h.hX2 c hc (by simp [hk])) hcX
            simp only [Xn,hcn,EW] at hcC
            cases hdc:(KP gs c.1).dst with
            | none=>simp [hdc] at hcC
            | some d'=>rw [hdc] at e h3;simp at e;subst e;exact h3 rfl
           rw [hdc];exact j8 he (h.hpend c hc hcX)
         · simp only [Fp] at hc
           subst hc
           have he:∀s∈(KP gs i).uses,ρC s=KC ρC (KP gs i).dst v s:=by
            intro s hs;rw [Xo];rw [hdst];intro e;simp only [E0] at e;subst e;exact hd hs
           have hval:KC ρC (KP gs i).dst v ((KP gs i).dst.getD 0)=v:=(by rw [hdst];exact ke);simp only [hval];exact j8 he hv

theorem xO {gs:List GO}{es:List (List Nat)}{C:List CI}{Q:QT}(hlen:es.length=gs.length)(hok:WO gs (gl es) C=true)(hall:∀i,i<gs.length→∃k,(i,k)∈C):
 ∀(l X:List Nat) (ρS:Km) (w:World) (D rest:List CI) (ρC:Km),R7 es X l→J P gs es C Q X ρS w D rest ρC→Q0 P (l.map (KP gs)) Q ρS w:=by
 intro l
 induction l with
 | nil=>
   intro X ρS w D rest ρC hl hJ;obtain ⟨D,rest,ρC,hJ,hr⟩:=J.advance hok rest D ρC hJ;simp only [R7] at hl;have hX:∀i,i<gs.length→i∈X:=fun i hi=>hl i Jo;have hone:=j9 hok
   have hrest:rest=[]:=by
    rcases hr with hr|⟨f,fl,r,hr⟩
    · exact hr
    · exfalso;have hf:=hone (f,some fl) (by rw [hJ.hC,hr];simp);simp only [Xn,EW,decide_eq_true_eq] at hf;obtain ⟨k,hk⟩:=hJ.hX1 f (hX f hf.1);exact (gn (D:=D) (rest:=rest) D7 _ hk (f,some fl) (by rw [hr];simp)).2 rfl
   have hpe:ρS=ρC:=funext fun s=>hJ.hslot s fun c hc hcX=>by
    have hf:=hone c D6;simp only [Xn,EW,decide_eq_true_eq] at hf;exact absurd (hX c.1 hf.1) hcX
   have hcan:=hJ.hcan;rw [hrest] at hcan;simp only [Ow] at hcan;rw [hpe];exact hcan
 | cons i l ih=>
   intro X ρS w D rest ρC hl hJ;obtain ⟨D,rest,ρC,hJ,hr⟩:=J.advance hok rest D ρC hJ;simp only [R7] at hl;obtain ⟨hil,hiX,hie,hl⟩:=hl;obtain ⟨k,hiC⟩:=hall i Jo;have hone:=j9 hok
   have hcl':gm es (i::X):=by
    intro j hj e he;rcases ES.1 hj with rfl|hj
    · exact ES.2 (.inr (hie e he))
    · exact ES.2 (.inr (hJ.hcl j hj e he))
   have hanc:∀j,((gl es).getD i 0).testBit j=true→j∈X:=fun j hj=>xN hj hJ.hcl hie
   have hpq:∀c∈D,c.1∉X→c.2=none:=by
    intro c hc hcX
    cases hk:c.2 with
    | none=>rfl
    | some fl=>exact absurd (hJ.hX2 c hc (by simp [hk])) hcX
   rw [hJ.hC] at hiC;simp only [FM];rcases E3.1 hiC with hiD|hiR
   · -- it was done in the canonical run
     have hkn:k=none:=hpq (i,k) hiD hiX;subst hkn;have ho:=hone (i,none) (by rw [hJ.hC];simp [hiD]);simp only [Xn,EW] at ho;obtain ⟨_,hq,hd⟩:=ho;have hp:=hJ.hpend (i,none) hiD hiX;simp only at hp
     cases hdst:(KP gs i).dst with
     | none=>simp [hdst] at hd
     | some d=>
       simp only [hdst,Ge,Hm,decide_eq_false_iff_not] at hd;rw [hdst,GA] at hp
       have huse:∀s∈(KP gs i).uses,ρC s=ρS s:=by
        intro s hs;refine (hJ.hslot s fun c hc hcX hcd=>?_).symm;have hcn:=hpq c hc hcX;have hcC:c∈C:=D6;have hiC':(i,none)∈C:=(by rw [hJ.hC];simp [hiD]);rcases Pm hok c hcC (i,none) hiC' with rfl|⟨h1,_⟩|⟨h1,_⟩
        · rw [hdst] at hcd;simp only [E0] at hcd;subst hcd;exact hd hs
        · simp only [S0,hcn,EW,G7] at h1
          rcases h1.2 with h2|h2
          · exact hcX (hanc _ h2)
          · exact rC h2 hcd hs
        · simp only [S0,hcn,EW] at h1;exact (mz h1.1 hcd).1 hs
       refine (rz hq).2 ⟨ρC d,j8 huse hp,?_⟩;refine ih (i::X) _ w D rest ρC hl ⟨hJ.hC,?_,?_,hcl',?_,?_,hJ.hcan⟩
       · intro j hj
         rcases ES.1 hj with rfl|hj
         · exact ⟨none,hiD⟩
         · exact hJ.hX1 j hj
       · intro c hc hs;exact ES.2 (.inr (hJ.hX2 c hc hs))
       · intro s hs
         by_cases hsd:s=d
         · subst hsd;rw [hdst,ke]
         · rw [Xo (by rw [hdst];intro e;simp only [E0] at e;exact hsd e.symm)]
           refine hJ.hslot s fun c hc hcX=>?_;by_cases hci:c.1=i
           · rw [hci,hdst];intro e;simp only [E0] at e;exact hsd e.symm
           · exact hs c hc (by simp [hci,hcX])
       · intro c hc hcX;exact hJ.hpend c hc fun h=>hcX (ES.2 (.inr h))
   · -- it stands ahead:it is the next one
     rcases hr with hr|⟨f,fl,r,hr⟩
     · rw [hr] at hiR;cases hiR
     · subst hr
       have hfX:f∉X:=by
        intro hx;obtain ⟨k',hk'⟩:=hJ.hX1 f hx;exact (gn (D:=D) (rest:=(f,some fl)::r) D7 _ hk' (f,some fl) Js).2 rfl
       have hif:(i,k)=(f,some fl):=by
        rcases ES.1 hiR with h|h
        · exact h
        · exfalso;have hsp:=gn (D:=D++[(f,some fl)]) (rest:=r) (by rw [hJ.hC] at hok;simpa using hok);have hp:=(hsp (f,some fl) Js (i,k) h).1;simp only [S0] at hp;exact hfX (hanc f hp)
       simp only [GJ] at hif;obtain ⟨rfl,rfl⟩:=hif;have ho:=hone (i,some fl) (by rw [hJ.hC];simp);simp only [Xn,EW] at ho;have hsp:=gn (D:=D) (rest:=(i,some fl)::r) D7
       -- behind the fenced operation
       have done:∀(v:Value) (w':World),(∀c∈D,c.1∉X→(eO (KP gs c.1) (KP gs i)=true∧eP (KP gs c.1) (KP gs i)=true)∧MX P ρC w' (KP gs c.1) (ρC ((KP gs c.1).dst.getD 0)))→
        Ow P gs r Q (KC ρC (KP gs i).dst v) w'→Q0 P (l.map (KP gs)) Q (KC ρS (KP gs i).dst v) w':=by
        intro v w' hst hk;refine ih (i::X) _ w' (D++[(i,some fl)]) r _ hl ⟨by rw [hJ.hC];simp,?_,?_,hcl',?_,?_,hk⟩
        · intro j hj
          rcases ES.1 hj with rfl|hj
          · exact ⟨some fl,by simp⟩
          · obtain ⟨k,hk⟩:=hJ.hX1 j hj;exact ⟨k,by simp [hk]⟩
        · intro c hc hs
          rcases E3.1 hc with hc|hc
          · exact ES.2 (.inr (hJ.hX2 c hc hs))
          · simp only [Fp] at hc;subst hc;simp
        · intro s hs
          by_cases hsd:(KP gs i).dst=some s
          · rw [hsd,ke,ke]
          · rw [Xo hsd,Xo hsd]
            refine hJ.hslot s fun c hc hcX=>hs c DE ?_;intro hm;rcases ES.1 hm with h|h
            · exact (hsp c hc (i,some fl) Js).2 h
            · exact hcX h
        · intro c hc hcX
          rcases E3.1 hc with hc|hc
          · have hcX':c.1∉X:=fun h=>hcX (ES.2 (.inr h))
            obtain ⟨⟨h2,h3⟩,hs⟩:=hst c hc hcX';have hcC:=hone c D6;simp only [Xn,hpq c hc hcX',EW] at hcC
            have hind:∀s,((s∈(KP gs c.1).uses)∨(KP gs c.1).dst=some s)→(KP gs i).dst≠some s:=by
             intro s hs hd;have:=mz h2 hd;rcases hs with hs|hs
             · exact this.1 hs
             · exact this.2 hs
            have hdc:KC ρC (KP gs i).dst v ((KP gs c.1).dst.getD 0)=ρC ((KP gs c.1).dst.getD 0):=by
             cases hd:(KP gs c.1).dst with
             | none=>simp [hd] at hcC
             | some d'=>rw [Xo (hind _ (.inr (by rw [hd];rfl)))]
            rw [hdc];exact j8 (fun s hs=>(Xo (hind s (.inl hs))).symm) hs
          · simp only [Fp] at hc;subst hc;exact absurd (ES.2 (.inl rfl)) hcX
       have hcan:=hJ.hcan
       cases fl with
       | none=>
         have hnone:∀c∈D,¬(c.1∉X):=by
          intro c hc hcX;have hp:=(hsp c hc (i,some none) Js).1;simp only [S0,hpq c hc hcX] at hp;exact hcX (hanc _ hp)
         have hpe:ρS=ρC:=funext fun s=>hJ.hslot s fun c hc hcX=>absurd hcX (hnone c hc);simp only [Ow] at hcan;refine rA ho.2 (fun s hs=>by rw [hpe]) ?_ ?_ hcan
         · intro v w' hk;simp only [Q0,Qh] at hk;exact done v w' (fun c hc hcX=>absurd hcX (hnone c hc)) hk
         · intro e w' hne hq;rw [hpe];cases e<;>first|exact hq|exact absurd rfl hne
       | some fl=>
         simp only [Ow] at hcan
         have hfloat:∀c∈D,c.1∉X→(c.1∈fl∨(KP gs c.1).o.pureQ=true)∧eO (KP gs c.1) (KP gs i)=true∧eP (KP gs c.1) (KP gs i)=true:=by
          intro c hc hcX;have hp:=(hsp c hc (i,some (some fl)) Js).1;simp only [S0,hpq c hc hcX,G7,EW] at hp;rcases hp with hp|⟨⟨h1,h2⟩,h3⟩
          · exact absurd (hanc _ hp) hcX
          · exact ⟨h1.imp Js id,h2,h3⟩
         refine rA ho.2 (fun s hs=>(hJ.hslot s fun c hc hcX hcd=>rC (hfloat c hc hcX).2.2 hcd hs).symm) ?_ ?_ hcan
         · intro v w' hk
           simp only [Q0,Qh] at hk;obtain ⟨hst,hk⟩:=hk;refine done v w' (fun c hc hcX=>?_) hk;obtain ⟨h1,h2,h3⟩:=hfloat c hc hcX;refine ⟨⟨h2,h3⟩,?_⟩;rcases h1 with h1|h1
           · exact hst c.1 h1
           · exact SY h1 (hJ.hpend c hc hcX)
         · intro e w' hne hq;(have hq':my Q e ρC w':=by cases e<;>first|exact hq|exact absurd rfl hne);exact hq' ρS

theorem rD {gs:List GO}{es:List (List Nat)}{Q:QT}{ρ:Km}(C:List CI)(hok:aY gs es C=true)(h:Ow P gs C Q ρ w.drew):(LC.draw gs es).wp P Q ρ w:=by
 simp only [aY,EW,decide_eq_true_eq] at hok;obtain ⟨⟨hlen,hp⟩,hall⟩:=hok;intro l hl;refine xO hlen hp ?_ l [] ρ w.drew [] C ρ hl ⟨by simp,Js,Js,(fun k hk=>absurd hk Js),(fun s _=>rfl),Js,h⟩;intro i hi;have:=FN.1 hall i DO;simp only [Hm,decide_eq_true_eq,Fc] at this;obtain ⟨⟨j,k⟩,hc,rfl⟩:=this;exact ⟨k,hc⟩

theorem xP {gs:List GO}{Q:QT}:∀(C:List CI),(C.all fun c=>match c.2 with|some (some _)=>false|_=>true)=true→∀ρ w,Q0 P (C.map fun c=>KP gs c.1) Q ρ w→Ow P gs C Q ρ w:=by
 intro C
 induction C with
 | nil=>intro _ ρ w h;exact h
 | cons c C ih=>
   intro hc ρ w h;simp only [List.all_cons,EW] at hc;obtain ⟨i,k⟩:=c
   have key:∀{g:GO}{l:List GO}{K:KT} {ρ w},(∀ρ w,Q0 P l Q ρ w→K ρ w)→Q0 P (g::l) Q ρ w→Q0 P [g] (Qh K Q) ρ w:=by
    intro g l K ρ w hk h
    have hwp:∀{o:LO} {ρ w},o.wp P ρ w (Q0 P l Q) Q→o.wp P ρ w (Q0 P [] (Qh K Q)) (Qh K Q):=by
     intro o ρ w h;exact me (fun ρ w h=>hk ρ w h) (fun e ρ w hne h=>by cases e<;>first|exact h|exact absurd rfl hne) h
    obtain ⟨g,o⟩:=g
    cases g with
    | none=>exact hwp h
    | some p=>
      obtain ⟨s,b⟩:=p;simp only [Q0] at h ⊢;split
      · rename_i hg;rw [if_pos hg] at h;exact hwp h
      · rename_i hg;rw [if_neg hg] at h;exact hk _ _ h
   simp only [FM] at h
   cases k with
   | none=>exact key (fun ρ w h=>ih hc.2 ρ w h) h
   | some fl=>
     cases fl with
     | some fl=>simp at hc
     | none=>exact key (fun ρ w h=>ih hc.2 ρ w h) h

theorem xQ {gs:List GO}{es:List (List Nat)}{Q:QT}{ρ:Km}(C:List CI)(hok:aY gs es C=true)
 (hpl:(C.all fun c=>match c.2 with|some (some _)=>false|_=>true)=true)(h:Q0 P (C.map fun c=>KP gs c.1) Q ρ w.drew):(LC.draw gs es).wp P Q ρ w:=
 rD C hok (xP C hpl _ _ h)

end
end Go.Lir
namespace Go.Lir
open Go.RowKit (Below)

abbrev Kk:=Array Obj

def Lg (H:Kk)(b:Nat)(T:TypeId)(cs:List Value):Prop:=∃fz,H[b]?=some (.cells ⟨cs⟩ T fz)∧(∀i,fz.1≤i→i<fz.2→cs.length≤i)∧fz.1≤fz.2

structure Fr (F:Nat→Prop) (w w':World):Prop where
 os:w'.os=w.os
 tape:w'.tape=w.tape
 output:w'.output=w.output
 size:w.heap.size≤w'.heap.size
 same:∀b,b<w.heap.size→¬F b→w'.heap[b]?=w.heap[b]?

abbrev NF:Nat→Prop:=fun _=>False

theorem Fr.refl (F:Nat→Prop)(w:World):Fr F w w:=⟨rfl,rfl,rfl,E7 _,fun _ _ _=>rfl⟩
abbrev Ig:=@Fr.refl
theorem Fr.drew {F:Nat→Prop}(h:Fr F w.drew w'):Fr F w w':=⟨h.os,h.tape,h.output,h.size,h.same⟩
theorem Fr.drew' {F:Nat→Prop}(h:Fr F w w'):Fr F w w'.drew:=⟨h.os,h.tape,h.output,h.size,h.same⟩
theorem Fr.mono {F:Nat→Prop}(h:Fr F w w')(hs:∀b,b<w.heap.size→F b→G b):Fr G w w':=
 ⟨h.os,h.tape,h.output,h.size,fun b hb hg=>h.same b hb fun hf=>hg (hs b hb hf)⟩
theorem Fr.trans {F:Nat→Prop}(h:Fr F w w')(k:Fr G w' w'')(hs:∀b,b<w.heap.size→G b→F b):Fr F w w'':=
 ⟨k.os.trans h.os,k.tape.trans h.tape,k.output.trans h.output,F3 h.size k.size,fun b hb hf=>
   (k.same b (GM hb h.size) fun hg=>hf (hs b hb hg)).trans (h.same b hb hf)⟩
theorem Fr.below (h:Fr NF w w'):Below w.heap.size w w':=⟨h.os,h.tape,h.output,h.size,fun k hk=>h.same k hk (fun h=>h)⟩
theorem Fr.any {F:Nat→Prop}(h:Fr NF w w'):Fr F w w':=h.mono fun _ _ h=>h.elim

theorem Lg.lt {H:Kk}(h:Lg H b T cs):b<H.size:=by
 obtain ⟨fz,h,_⟩:=h;rcases Gc b H.size with h'|h'
 · exact h'
 · simp [Gw h'] at h
theorem Lg.of_same {H H':Kk}(h:Lg H b T cs)(he:H'[b]?=H[b]?):Lg H' b T cs:=by
 obtain ⟨fz,h,h2⟩:=h;exact ⟨fz,he.trans h,h2⟩
theorem Lg.fr {F:Nat→Prop}(h:Lg w.heap b T cs)(hf:Fr F w w')(hn:¬F b):Lg w'.heap b T cs:=
 h.of_same (hf.same b h.lt hn)
theorem Lg.inj {H:Kk}{cs':List Value}(h:Lg H b T cs)(h':Lg H b T' cs'):T=T'∧cs=cs':=by
 obtain ⟨fz,h,_⟩:=h;obtain ⟨fz',h',_⟩:=h';rw [h] at h';simp only [E0,Obj.cells.injEq,Array.mk.injEq] at h';exact ⟨h'.2.1,h'.1⟩
theorem Lg.cell {i:Nat}{v:Value}(h:Lg w.heap b T cs)(hv:cs[i]?=some v):w.cell? ⟨b,i,none⟩=some v:=by
 obtain ⟨fz,h,_⟩:=h;simp [World.cell?,h,hv]
theorem Lg.free {i:Nat}(h:Lg w.heap b T cs)(hi:i<cs.length):w.frozen? ⟨b,i,none⟩=false:=by
 obtain ⟨⟨lo,hi'⟩,h,h2⟩:=h;simp only [World.frozen?,h];have:=h2.1 i;simp only at this;simp only [Bool.and_eq_false_iff,decide_eq_false_iff_not];omega

theorem PH (b o n:Nat):(Addr.mk b o none).add n=⟨b,o+n,none⟩:=by
 unfold Addr.add;split
 · rename_i h;subst h;rfl
 · rfl

theorem Lg.cells {o:Nat}(h:Lg w.heap b T cs)(hv:(cs.drop o).take n=vs)(hl:vs.length=n):ZL w ⟨b,o,none⟩ n vs:=by
 refine ⟨hl,fun j hj=>?_⟩;rw [PH];have:vs[j]?=cs[o+j]?:=(by rw [←hv,FH hj,GN]);rw [this]
 have hlt:o+j<cs.length:=by
  have h1:vs.length=min n (cs.length - o):=(by rw [←hv];simp);omega
 rw [EH hlt];exact h.cell (EH hlt)

theorem kg (w:World)(b i:Nat)(v:Value):Fr (· =b) w (w.setCell ⟨b,i,none⟩ v):=by
 refine ⟨rfl,rfl,rfl,by simp,fun k _ hk=>?_⟩;simp only [World.setCell,Jj];rw [if_neg (fun e=>hk e.symm)]
theorem Lg.set {i:Nat}{v:Value}(h:Lg w.heap b T cs):Lg (w.setCell ⟨b,i,none⟩ v).heap b T (cs.set i v):=by
 obtain ⟨fz,h,h2⟩:=h;refine ⟨fz,?_,by simpa using h2.1,h2.2⟩;simp only [World.setCell,Jj,h,if_true,FP,JG];simp

theorem aZ (w:World)(o:Obj):Fr NF w (w.alloc o):=by
 refine ⟨rfl,rfl,rfl,by simp,fun k hk _=>?_⟩;simp only [World.alloc,Array.getElem?_push];rw [if_neg Jo]
theorem eQ (w:World)(cs:List Value)(T:TypeId):Lg (w.alloc (.cells ⟨cs⟩ T)).heap w.heap.size T cs:=by
 refine ⟨(0,0),?_,⟨fun i h1 h2=>by simp at h2,by simp⟩⟩;show (w.heap.push _)[w.heap.size]?=_;simp

theorem rE (P:Program)(b:Nat)(T:TypeId):∀(vs:List Value) (w:World) (cs:List Value) (o i:Nat),Lg w.heap b T cs→o+i+vs.length≤cs.length→(∀v∈vs,oneC v=true)→
 ∃w',(storeCells ⟨b,o,none⟩ vs i).run P w= .ok () w'∧Fr (· =b) w w'∧w'.heap.size=w.heap.size∧Lg w'.heap b T (cs.take (o+i)++(vs++cs.drop (o+i+vs.length))):=by
 intro vs
 induction vs with
 | nil=>intro w cs o i h _ _;exact ⟨w,by simp [storeCells],Ig _ _,rfl,by simpa using h⟩
 | cons v vs ih=>
   intro w cs o i h hl ho;simp only [ET] at hl;have h1:=ho v Js;have h1':v.oneCell'=true:=(by cases v<;>simp_all [Value.oneCell',oneC]);have hc:w.cell? ⟨b,o+i,none⟩=some (cs[o+i]' Dc):=h.cell (EH Jo);have hf:=h.free (w:=w) (i:=o+i) Jo;obtain ⟨w',h2,h3,h4,h5⟩:=ih (w.setCell ⟨b,o+i,none⟩ v) (cs.set (o+i) v) o (i+1) h.set De (fun x hx=>ho x Du);refine ⟨w',?_,(kg w b (o+i) v).trans h3 (fun _ _ h=>h),h4.trans Js,?_⟩
   · simp only [storeCells,Fo,PH,run_store P w _ _ .plain h1',hc,hf,EX,if_false,EZ];exact h2
   · have e:cs.take (o+i)++(v::vs++cs.drop (o+i+(v::vs).length))=(cs.set (o+i) v).take (o+(i+1))++(vs++(cs.set (o+i) v).drop (o+(i+1)+vs.length)):=by
      have hlt:o+i<cs.length:=Dc;rw [G9,if_pos hlt];have hm:(cs.take (o+i)).length=o+i:=by simp;omega
      have e1:List.take (o+(i+1)) (cs.take (o+i)++v::cs.drop (o+i+1))=cs.take (o+i)++[v]:=by
       rw [IB,hm,E1 Jo,show o+(i+1) - (o+i)=1 by omega];rfl
      have e2:List.drop (o+(i+1)+vs.length) (cs.take (o+i)++v::cs.drop (o+i+1))=cs.drop (o+i+(v::vs).length):=by
       rw [ID,hm,EP Jo,show o+(i+1)+vs.length - (o+i)=vs.length+1 by omega];simp [I5,Im,Gx]
      rw [e1,e2];simp
     rw [e];exact h5

end Go.Lir
namespace Go.Lir
section

def S1 (ρ:Km):List (Nat×Value)→Km
 | []=>ρ
 | (i,v)::l=>upd (S1 ρ l) i v
def J2 (ρ:Km):List (Nat×Value)→Prop
 | []=>True
 | (i,v)::l=>ρ i=v∧J2 ρ l

theorem S2 {ρ:Km}{i:Nat}{v:Value}(h:ρ i=v):upd ρ i v=ρ:=by
 funext j;unfold upd;cases hb:Nat.beq j i
 · rfl
 · have:=H2 hb;subst this;exact h.symm
theorem rF {ρ:Km}:∀{l:List (Nat×Value)},J2 ρ l→S1 ρ l=ρ:=by
 intro l
 induction l with
 | nil=>intro _;rfl
 | cons p l ih=>obtain ⟨i,v⟩:=p;rintro ⟨h1,h2⟩;simp only [S1,ih h2,S2 h1]
theorem ZN {n:Int}(h1: -9223372036854775808≤n)(h2:n≤9223372036854775807):IntKind.i64.wrap n=n:=by
 have e:IntKind.i64.wrap n=if n % 18446744073709551616≥9223372036854775808 then n % 18446744073709551616 - 18446744073709551616 else n % 18446744073709551616:=by
  unfold IntKind.wrap;simp [IntKind.bits,IntKind.signed]
 rw [e];split<;>omega

section
variable {P:Program}{l:List GO}{Q:QT}{K:KT}{ρ:Km}{w:World}

theorem S3 (h:Q .normal ρ w):Q0 P [] Q ρ w:=h
theorem Lm {l:List GO}{h:Q0 P l Q ρ w}:(LC.ops l).wp P Q ρ w:=h
theorem Qu {a b:LC}(h:a.wp P (Qh (b.wp P Q) Q) ρ w):(LC.seq a b).wp P Q ρ w:=h
theorem ba {h:Q .normal ρ w}:LC.skip.wp P Q ρ w:=h
theorem gq {h:Q .ret ρ w}:LC.ret.wp P Q ρ w:=h
theorem bd {h:Q (.exit id) ρ w}:(LC.exit id).wp P Q ρ w:=h
theorem bf {a:LC}{h:a.wp P (Qd id Q) ρ w}:(LC.block id a).wp P Q ρ w:=h
theorem rG {c:Operand}{a b:LC}{t:Bool}(hc:ρ.ev c= .bool t)(h1:t=true→a.wp P Q ρ w)(h2:t=false→b.wp P Q ρ w):(LC.cond c a b).wp P Q ρ w:=by
 refine ⟨t,hc,?_⟩;cases t
 · exact h2 rfl
 · exact h1 rfl
theorem Aa {c:Operand}{a b:LC}{t:Bool}(hc:ρ.ev c= .bool t:=by rfl){h1:t=true→a.wp P Q ρ w}{h2:t=false→b.wp P Q ρ w}:(LC.cond c a b).wp P Q ρ w:=rG hc h1 h2
theorem S4 {c:Operand}{a b:LC}(hc:ρ.ev c= .bool true)(h:a.wp P Q ρ w):(LC.cond c a b).wp P Q ρ w:=⟨true,hc,h⟩
theorem S5 {c:Operand}{a b:LC}(hc:ρ.ev c= .bool false)(h:b.wp P Q ρ w):(LC.cond c a b).wp P Q ρ w:=⟨false,hc,h⟩
theorem Qa {c:Operand}{a b:LC}[Decidable p](hc:ρ.ev c= .bool (decide p))(h1:p→a.wp P Q ρ w)(h2:¬p→b.wp P Q ρ w):(LC.cond c a b).wp P Q ρ w:=
 rG hc (fun h=>h1 (of_decide_eq_true h)) (fun h=>h2 (of_decide_eq_false h))
theorem Ab {c:Operand}{a b:LC}[Decidable p](hc:ρ.ev c= .bool (decide p):=by rfl){h1:p→a.wp P Q ρ w}{h2:¬p→b.wp P Q ρ w}:(LC.cond c a b).wp P Q ρ w:=Qa hc h1 h2
theorem S6 {a:LC}(I:Km→World→Prop)(μ:Km→World→Nat)(h0:I ρ w)(h:∀ρ w,I ρ w→a.wp P (Qh (fun ρ' w'=>I ρ' w'∧μ ρ' w'<μ ρ w) Q) ρ w):(LC.loop a).wp P Q ρ w:=
 ⟨I,μ,h0,h⟩

theorem S7 {h:R (.returned (.tuple #[])) w}:Kq P [] R .ret ρ w:=h
theorem bg {t:Nat}{v:Value}(hv:ρ t=v)(h:R (.returned v) w):Kq P [.tmp t] R .ret ρ w:=by subst hv;exact h
theorem bh {t u:Nat}{v v':Value}(hv:ρ t=v)(hv':ρ u=v')(h:R (.returned (.tuple #[v,v'])) w):Kq P [.tmp t, .tmp u] R .ret ρ w:=by subst hv hv';exact h
theorem Mo {h:R (.returned (.tuple #[])) w}:Kq P [] R .normal ρ w:=h
theorem Lw {a T:Nat}{o:Nat}{v:Value}(ha:ρ a= .pointer (some ⟨b,o,none⟩))(hv:Xm P w ⟨b,o,none⟩ T v)(h:R (.returned v) w):Kq P [.cell a T] R .ret ρ w:=⟨_,v,ha,hv,h⟩
theorem mA {t a T:Nat}{o:Nat}{v:Value}(hu:ρ t=u)(ha:ρ a= .pointer (some ⟨b,o,none⟩))(hv:Xm P w ⟨b,o,none⟩ T v)(h:R (.returned (.tuple #[u,v])) w):Kq P [.tmp t, .cell a T] R .ret ρ w:=by
 subst hu;exact ⟨_,v,ha,hv,h⟩
theorem QQ {t a T:Nat}{o:Nat}{v:Value}(ha:ρ a= .pointer (some ⟨b,o,none⟩))(hv:Xm P w ⟨b,o,none⟩ T v)(hu:ρ t=u)(h:R (.returned (.tuple #[v,u])) w):Kq P [.cell a T, .tmp t] R .ret ρ w:=by
 subst hu;exact ⟨_,v,ha,hv,h⟩
theorem Q4 {o T:Nat}(ha:Pj P T=true)(hn:NG P T=some n)(hb:Lg w.heap b T' cs)(hv:(cs.drop o).take n=vs)(hl:vs.length=n):Xm P w ⟨b,o,none⟩ T (.agg ⟨vs⟩):=
 .inr ⟨ha,n,vs,hn,hb.cells hv hl,rfl⟩

theorem eR {K:KT}(h:K ρ w):Qh K Q .normal ρ w:=h
theorem kh {h:Q .normal ρ w}:Qd id Q .normal ρ w:=h
theorem Xp {h:Q .normal ρ w}:Qd id Q (.exit id) ρ w:=by simp only [Qd,if_true];exact h
theorem Xq {K:KT}{h:Q (.exit id) ρ w}:Qh K Q (.exit id) ρ w:=h
theorem bj {K:KT}{h:Q .ret ρ w}:Qh K Q .ret ρ w:=h
theorem bl {h:Q .ret ρ w}:Qd id Q .ret ρ w:=h
theorem Xr {id':Nat}(hne:Nat.beq id' id=false)(h:Q (.exit id') ρ w):Qd id Q (.exit id') ρ w:=by
 have:id'≠id:=(by rintro rfl;simp at hne);simp only [Qd,if_neg this];exact h

theorem mB {s:Nat}{b:Bool}{o:LO}(hg:ρ s= .bool b)(h:Q0 P (⟨none,o⟩::l) Q ρ w):Q0 P (⟨some (s,b),o⟩::l) Q ρ w:=by
 simp only [Q0,hg,WN,beq_self_eq_true,if_true];exact h
theorem mC {s:Nat}{b:Bool}{o:LO}{v:Value}(hg:ρ s=v)(hw:WN v b=false)(h:Q0 P l Q (KC ρ o.dst undef) w):Q0 P (⟨some (s,b),o⟩::l) Q ρ w:=by
 simp only [Q0,hg,hw];exact h

theorem gr {x:Operand}{v:Value}(hx:ρ.ev x=v)(h:Q0 P l Q (upd ρ d v) w):Q0 P (⟨none, .mov d x⟩::l) Q ρ w:=by
 subst hx;exact h
theorem rH {c x y:Operand}{v:Value}(hc:ρ.ev c= .bool true)(hx:ρ.ev x=v)(h:Q0 P l Q (upd ρ d v) w):Q0 P (⟨none, .pick d c x y⟩::l) Q ρ w:=by
 subst hx;exact ⟨true,hc,h⟩
theorem rI {c x y:Operand}{v:Value}(hc:ρ.ev c= .bool false)(hx:ρ.ev y=v)(h:Q0 P l Q (upd ρ d v) w):Q0 P (⟨none, .pick d c x y⟩::l) Q ρ w:=by
 subst hx;exact ⟨false,hc,h⟩
theorem gu {x:Operand}{b:Bool}(hx:ρ.ev x= .bool b)(h:Q0 P l Q (upd ρ d (.bool (!b))) w):Q0 P (⟨none, .un d .not x⟩::l) Q ρ w:=
 ⟨_,fun w0=>by rw [hx];rfl,h⟩
theorem bm {x:Operand}{a:Addr}(hx:ρ.ev x= .pointer (some a))(h:Q0 P l Q (upd ρ d (.pointer (some a))) w):Q0 P (⟨none, .nilc d x⟩::l) Q ρ w:=⟨a,hx,h⟩
theorem ZO {x:Operand}{o:Nat}(hx:ρ.ev x= .pointer (some ⟨b,o,none⟩))(h:Q0 P l Q (upd ρ d (.pointer (some ⟨b,o+off,none⟩))) w):Q0 P (⟨none, .fld d x off⟩::l) Q ρ w:=
 ⟨_,hx,by rw [PH];exact h⟩
theorem mD {x:Operand}{o:Nat}{v:Value}(hx:ρ.ev x= .pointer (some ⟨b,o,none⟩))(hv:w.cell? ⟨b,o,none⟩=some v)(h:Q0 P l Q (upd ρ d v) w):Q0 P (⟨none, .load1 d x⟩::l) Q ρ w:=⟨_,v,hx,hv,h⟩
theorem Xs {x:Operand}{o:Nat}{v:Value}(hx:ρ.ev x= .pointer (some ⟨b,o,none⟩))(hb:Lg w.heap b T cs)(hv:cs[o]?=some v)(h:Q0 P l Q (upd ρ d v) w):
 Q0 P (⟨none, .load1 d x⟩::l) Q ρ w:=⟨_,v,hx,hb.cell hv,h⟩
theorem Xt {x:Operand}{o:Nat}(hx:ρ.ev x= .pointer (some ⟨b,o,none⟩))(hb:Lg w.heap b T cs)(hv:(cs.drop o).take n=vs)(hl:vs.length=n)
 (h:Q0 P l Q (upd ρ d (.agg ⟨vs⟩)) w):Q0 P (⟨none, .loadn d n x⟩::l) Q ρ w:=⟨_,vs,hx,hb.cells hv hl,h⟩
theorem rJ {x:Operand}{a:Addr}(hx:ρ.ev x= .pointer (some a))(hc:ZL w a n vs)
 (h:Q0 P l Q (upd ρ d (.agg ⟨vs⟩)) w):Q0 P (⟨none, .loadn d n x⟩::l) Q ρ w:=⟨_,vs,hx,hc,h⟩
theorem Xu {x y:Operand}{o:Nat}{v:Value}(hx:ρ.ev x= .pointer (some ⟨b,o,none⟩))(hy:ρ.ev y=v)(hb:Lg w.heap b T cs)(hi:o<cs.length)(ho:oneC v=true)
 (h:∀w',Fr (· =b) w w'→w'.heap.size=w.heap.size→Lg w'.heap b T (cs.set o v)→Q0 P l Q ρ w'):Q0 P (⟨none, .store1 x y⟩::l) Q ρ w:=by
 subst hy;exact ⟨_,_,hx,hb.cell (EH hi),hb.free hi,ho,h _ (kg w b o _) Js hb.set⟩
theorem S8 {x y:Operand}{o:Nat}(hx:ρ.ev x= .pointer (some ⟨b,o,none⟩))(hy:ρ.ev y= .agg ⟨vs⟩)(hn:vs.length=n)(hb:Lg w.heap b T cs)(hi:o+n≤cs.length)
 (ho:∀v∈vs,oneC v=true)(h:∀w',Fr (· =b) w w'→w'.heap.size=w.heap.size→Lg w'.heap b T (cs.take o++(vs++cs.drop (o+n)))→Q0 P l Q ρ w'):Q0 P (⟨none, .storen n x y⟩::l) Q ρ w:=by
 subst hn;obtain ⟨w',h1,h2,h3,h4⟩:=rE P b T vs w cs o 0 hb Jo ho;exact ⟨_,_,w',hx,hy,rfl,h1,h _ h2 h3 h4⟩
theorem bn {x i:Operand}{o len:Nat}{n:Int}(hx:ρ.ev x= .slice (some ⟨b,o,none⟩) len cap)(hi:ρ.ev i= .int k n)(h0:0≤n)(h1:n<len)
 (h:Q0 P l Q (upd ρ d (.pointer (some ⟨b,o+n.toNat*es,none⟩))) w):Q0 P (⟨none, .idx d es x i⟩::l) Q ρ w:=
 ⟨_,len,cap,k,n,hx,hi,h0,h1,by rw [PH];exact h⟩
theorem ZP {x:Operand}{a:Option Addr}{c:Nat}(hx:ρ.ev x= .slice a n c)(h:Q0 P l Q (upd ρ d (.int .i64 n)) w):Q0 P (⟨none, .len d x⟩::l) Q ρ w:=⟨a,n,c,hx,h⟩
theorem bo {x i:Operand}{s:ByteArray}{n:Int}{b:UInt8}(hx:ρ.ev x= .string s)(hi:ρ.ev i= .int k n)(h0:0≤n)(hb:s[n.toNat]?=some b)
 (h:Q0 P l Q (upd ρ d (.int .u8 b.toNat)) w):Q0 P (⟨none, .sidx d x i⟩::l) Q ρ w:=⟨s,k,n,b,hx,hi,h0,hb,h⟩
theorem gv {x:Operand}{i:Nat}{v:Value}(hx:ρ.ev x= .tuple ⟨vs⟩)(hv:vs[i]?=some v)(h:Q0 P l Q (upd ρ d v) w):Q0 P (⟨none, .ext d x i⟩::l) Q ρ w:=⟨_,v,hx,by simpa using hv,h⟩
theorem bp {x:Operand}{o:Nat}{v:Value}(hx:ρ.ev x= .agg ⟨vs⟩)(hv:vs[o]?=some v)(h:Q0 P l Q (upd ρ d v) w):Q0 P (⟨none, .fldv d x o⟩::l) Q ρ w:=⟨_,v,hx,by simpa using hv,h⟩
theorem bq {z:List Value}(hf:Ng z (ps.map fun p=>(p.1,p.2.1,ρ.ev p.2.2))=some cs)(h:Q0 P l Q (upd ρ d (.agg ⟨cs⟩)) w):
 Q0 P (⟨none, .build d z ps⟩::l) Q ρ w:=⟨cs,hf,h⟩
theorem Xv {z:List Value}(h:∀b w',b=w.heap.size→Fr NF w w'→w'.heap.size=w.heap.size+1→Lg w'.heap b T z→Q0 P l Q (upd ρ d (.pointer (some ⟨b,0,none⟩))) w'):
 Q0 P (⟨none, .alloc d T z⟩::l) Q ρ w:=h _ _ rfl (aZ w _) Js (eQ w z T)
theorem gw {x:Operand}(hx:(ρ.ev x).cells=⟨cs⟩)(h:∀b w',b=w.heap.size→Fr NF w w'→w'.heap.size=w.heap.size+1→Lg w'.heap b T cs→Q0 P l Q (upd ρ d (.pointer (some ⟨b,0,none⟩))) w'):
 Q0 P (⟨none, .box d T x⟩::l) Q ρ w:=by
 refine (?_:LO.wp P ρ w (Q0 P l Q) Q (.box d T x));simp only [LO.wp,hx];exact h _ _ rfl (aZ w _) Js (eQ w cs T)
theorem mE {z:List Value}(hf:Ng z (ps.map fun p=>(p.1,p.2.1,ρ.ev p.2.2))=some cs)
 (h:∀b w',b=w.heap.size→Fr NF w w'→w'.heap.size=w.heap.size+1→Lg w'.heap b T cs→Q0 P l Q (upd ρ d (.slice (some ⟨b,0,none⟩) n n)) w'):
 Q0 P (⟨none, .buildS d T n z ps⟩::l) Q ρ w:=⟨cs,hf,h _ _ rfl (aZ w _) Js (eQ w cs T)⟩
theorem gx {f:Nat}{caps:List Operand}{h:Q0 P l Q (upd ρ d (.func (.func f) #[] ⟨caps.map ρ.ev⟩)) w}:Q0 P (⟨none, .mkfn d f caps⟩::l) Q ρ w:=h
theorem gy {x y:Operand}{a b:Int}(hx:ρ.ev x= .int k a)(hy:ρ.ev y= .int k' b)(h:Q0 P l Q (upd ρ d (.int k (min a b))) w):Q0 P (⟨none, .mnx d false x y⟩::l) Q ρ w:=
 ⟨k,k',a,b,hx,hy,by
   have:(if b<a then b else a)=min a b:=Dc;simp only [EX,if_false,this];exact h⟩
theorem mF {x:Operand}{n:Int}(hx:ρ.ev x= .int k' n)(h:Q0 P l Q (upd ρ d (.int k (k.wrap n))) w):Q0 P (⟨none, .conv d k x⟩::l) Q ρ w:=⟨k',n,hx,h⟩
theorem S9 {x:Operand}{n:Int}(hx:ρ.ev x= .int k' n)(h1: -9223372036854775808≤n)(h2:n≤9223372036854775807)(h:Q0 P l Q (upd ρ d (.int .i64 n)) w):Q0 P (⟨none, .conv d .i64 x⟩::l) Q ρ w:=
 ⟨k',n,hx,by rw [ZN h1 h2];exact h⟩
theorem gz {x:Operand}{v:Value}(hx:ρ.ev x=v)(h:Q0 P l Q (upd ρ d (.iface T v)) w):Q0 P (⟨none, .mki d T x⟩::l) Q ρ w:=by subst hx;exact h
theorem Ta {x:Operand}{a:Option Addr}{len:Nat}(hx:ρ.ev x= .slice a len cap)(hm:ME ρ cap mx m)(hh:ME ρ len hi h')(hl:ME ρ 0 lo l')(h1:m≤cap)(h2:h'≤m)(h3:l'≤h')
 (h:Q0 P l Q (upd ρ d (.slice (if m=l' then a else a.map (·.add (l'*es))) (h' - l') (m - l'))) w):Q0 P (⟨none, .sub d es x lo hi mx⟩::l) Q ρ w:=⟨a,len,cap,l',h',m,hx,hm,hh,hl,h1,h2,h3,h⟩
def JW (P:Program)(f:FuncId)(args:List Value)(w:World)(S:Value→World→Prop):Prop:=Calls P f ⟨args⟩ w fun e w'=>∃v,e= .returned v∧S v w'
theorem ZQ (hxs:xs.map ρ.ev=args)(hc:JW P f args w S)
 (h:∀v w',S v w'→Q0 P l Q (upd ρ d v) w'):Q0 P (⟨none, .call (some d) f xs⟩::l) Q ρ w:=by
 subst hxs;exact hc.mono fun e w' ⟨v,he,hs⟩=>by subst he;exact h v w' hs
theorem JW.mono {S':Value→World→Prop}(h:JW P f args w S)(hs:∀v w',S v w'→S' v w'):JW P f args w S':=
 Calls.mono h fun _ _ ⟨v,he,hv⟩=>⟨v,he,hs _ _ hv⟩
theorem mG {d:Option Nat}{x:Operand}{cap:List Value}(hx:ρ.ev x= .func (.func f) #[] ⟨cap⟩)(hf:P.funcs[f]?=some fn)
 (hb : fn.body.isSome = true)(hn : (fn.name == "runtime.NumGoroutine") = false)(hxs : xs.map ρ.ev ++ cap = args)(hc : Calls P f ⟨args⟩ w R)
 (h:∀e w',R e w'→Q5 (Q0 P l Q) Q d ρ w e w'):Q0 P (⟨none, .callv d x xs⟩::l) Q ρ w:=by
 subst hxs;refine ⟨f,#[],⟨cap⟩,fn,hx,hf,hb,hn,?_⟩;have:(#[]++Array.mk (xs.map ρ.ev)++Array.mk cap:Array Value)=⟨xs.map ρ.ev++cap⟩:=(by simp);rw [this];exact hc.mono h
theorem gA {x y:Operand}{a b:Int}(hx:ρ.ev x= .int .i64 a)(hy:ρ.ev y= .int .i64 b)(h1: -9223372036854775808≤a+b)(h2:a+b≤9223372036854775807)
 (h:Q0 P l Q (upd ρ d (.int .i64 (a+b))) w):Q0 P (⟨none, .bin d .add T x y⟩::l) Q ρ w:=
 ⟨.int .i64 (a+b),fun w0=>by rw [hx,hy];simp [eqGuard,binOp,Op.intArith,ZN h1 h2],h⟩
theorem ki {x y:Operand}{a b:Int}(hx:ρ.ev x= .int k a)(hy:ρ.ev y= .int k b)
 (h:Q0 P l Q (upd ρ d (.int k (k.wrap (a+b)))) w):Q0 P (⟨none, .bin d .add T x y⟩::l) Q ρ w:=
 ⟨_,fun w0=>by rw [hx,hy];simp [eqGuard,binOp,Op.intArith],h⟩

theorem br {x y:Operand}{a b:Int}(hx:ρ.ev x= .int .i64 a)(hy:ρ.ev y= .int .i64 b)(h1: -9223372036854775808≤a - b)(h2:a - b≤9223372036854775807)
 (h:Q0 P l Q (upd ρ d (.int .i64 (a - b))) w):Q0 P (⟨none, .bin d .sub T x y⟩::l) Q ρ w:=
 ⟨.int .i64 (a - b),fun w0=>by rw [hx,hy];simp [eqGuard,binOp,Op.intArith,ZN h1 h2],h⟩
theorem mH {x y:Operand}{a b:Int}(hx:ρ.ev x= .int k a)(hy:ρ.ev y= .int k b)
 (h:Q0 P l Q (upd ρ d (.int k (k.wrap (a - b)))) w):Q0 P (⟨none, .bin d .sub T x y⟩::l) Q ρ w:=
 ⟨_,fun w0=>by rw [hx,hy];simp [eqGuard,binOp,Op.intArith],h⟩

theorem gB {x y:Operand}{a b:Int}(hx:ρ.ev x= .int .i64 a)(hy:ρ.ev y= .int .i64 b)(h1: -9223372036854775808≤a*b)(h2:a*b≤9223372036854775807)
 (h:Q0 P l Q (upd ρ d (.int .i64 (a*b))) w):Q0 P (⟨none, .bin d .mul T x y⟩::l) Q ρ w:=
 ⟨.int .i64 (a*b),fun w0=>by rw [hx,hy];simp [eqGuard,binOp,Op.intArith,ZN h1 h2],h⟩
theorem bt {x y:Operand}{a b:Int}(hx:ρ.ev x= .int k a)(hy:ρ.ev y= .int k b)
 (h:Q0 P l Q (upd ρ d (.int k (k.wrap (a*b)))) w):Q0 P (⟨none, .bin d .mul T x y⟩::l) Q ρ w:=
 ⟨_,fun w0=>by rw [hx,hy];simp [eqGuard,binOp,Op.intArith],h⟩

theorem gC {x y:Operand}{a b:Int}(hx:ρ.ev x= .int k a)(hy:ρ.ev y= .int k b)(hb:b≠0)
 (h:Q0 P l Q (upd ρ d (.int k (k.wrap (a.tdiv b)))) w):Q0 P (⟨none, .bin d .quo T x y⟩::l) Q ρ w:=
 ⟨_,fun w0=>by rw [hx,hy];simp [eqGuard,binOp,Op.intDiv,hb],h⟩
theorem gD {x y:Operand}{a b:Int}(hx:ρ.ev x= .int k a)(hy:ρ.ev y= .int k b)(hb:b≠0)
 (h:Q0 P l Q (upd ρ d (.int k (a.tmod b))) w):Q0 P (⟨none, .bin d .rem T x y⟩::l) Q ρ w:=
 ⟨_,fun w0=>by rw [hx,hy];simp [eqGuard,binOp,Op.intDiv,hb],h⟩
def MY (op:BinOp)(k:IntKind)(a b:Int):Int:=
 let x:=BitVec.ofInt k.bits a
 let y:=BitVec.ofInt k.bits b
 k.wrap (match op with| .and=>x &&& y| .or=>x|||y| .xor=>x ^^^ y|_=>x &&& ~~~y).toNat

theorem ZR {x y:Operand}{a b:Int}(hx:ρ.ev x= .int k a)(hy:ρ.ev y= .int k b)
 (h:Q0 P l Q (upd ρ d (.int k (MY .and k a b))) w):Q0 P (⟨none, .bin d .and T x y⟩::l) Q ρ w:=
 ⟨_,fun w0=>by rw [hx,hy];simp [eqGuard,binOp,Op.intBits,MY],h⟩

theorem mI {x y:Operand}{a b:Int}(hx:ρ.ev x= .int k a)(hy:ρ.ev y= .int k b)
 (h:Q0 P l Q (upd ρ d (.int k (MY .or k a b))) w):Q0 P (⟨none, .bin d .or T x y⟩::l) Q ρ w:=
 ⟨_,fun w0=>by rw [hx,hy];simp [eqGuard,binOp,Op.intBits,MY],h⟩

theorem gE {x y:Operand}{a b:Int}(hx:ρ.ev x= .int k a)(hy:ρ.ev y= .int k b)
 (h:Q0 P l Q (upd ρ d (.bool (decide (a=b)))) w):Q0 P (⟨none, .bin d .eql T x y⟩::l) Q ρ w:=
 ⟨_,fun w0=>by
   rw [hx,hy]
   first
    | (simp [eqGuard,binOp,Op.intCmp];done)
    | (by_cases hp:a=b<;>simp [eqGuard,binOp,Op.intCmp,hp]),h⟩
theorem rK {x y:Operand}{a b:Int}(hx:ρ.ev x= .int k a)(hy:ρ.ev y= .int k b)(hp:a=b)
 (h:Q0 P l Q (upd ρ d (.bool true)) w):Q0 P (⟨none, .bin d .eql T x y⟩::l) Q ρ w:=
 gE hx hy Dy
theorem rM {x y:Operand}{a b:Int}(hx:ρ.ev x= .int k a)(hy:ρ.ev y= .int k b)(hp:¬(a=b))
 (h:Q0 P l Q (upd ρ d (.bool false)) w):Q0 P (⟨none, .bin d .eql T x y⟩::l) Q ρ w:=
 gE hx hy Dz
theorem Q6 {x y:Operand}{a b:Int}(hx:ρ.ev x= .int k a)(hy:ρ.ev y= .int k b)
 (h1:a=b→Q0 P l Q (upd ρ d (.bool true)) w)(h2:¬(a=b)→Q0 P l Q (upd ρ d (.bool false)) w):Q0 P (⟨none, .bin d .eql T x y⟩::l) Q ρ w:=
 gE hx hy (by
  by_cases hp:a=b
  · rw [decide_eq_true hp];exact h1 hp
  · rw [decide_eq_false hp];exact h2 hp)

theorem Ac {x y:Operand}{a b:Int}(hx:ρ.ev x= .int k a:=by rfl)(hy:ρ.ev y= .int k b:=by rfl)
 {h1:a=b→Q0 P l Q (upd ρ d (.bool true)) w}{h2:¬(a=b)→Q0 P l Q (upd ρ d (.bool false)) w}:Q0 P (⟨none, .bin d .eql T x y⟩::l) Q ρ w:=Q6 hx hy h1 h2
theorem Xw {x y:Operand}{a b:Int}(hx:ρ.ev x= .int k a)(hy:ρ.ev y= .int k b)
 (h:Q0 P l Q (upd ρ d (.bool (decide (a≠b)))) w):Q0 P (⟨none, .bin d .neq T x y⟩::l) Q ρ w:=
 ⟨_,fun w0=>by
   rw [hx,hy]
   first
    | (simp [eqGuard,binOp,Op.intCmp];done)
    | (by_cases hp:a=b<;>simp [eqGuard,binOp,Op.intCmp,hp]),h⟩
theorem Xx {x y:Operand}{a b:Int}(hx:ρ.ev x= .int k a)(hy:ρ.ev y= .int k b)(hp:a≠b)
 (h:Q0 P l Q (upd ρ d (.bool true)) w):Q0 P (⟨none, .bin d .neq T x y⟩::l) Q ρ w:=
 Xw hx hy Dy
theorem Xy {x y:Operand}{a b:Int}(hx:ρ.ev x= .int k a)(hy:ρ.ev y= .int k b)(hp:¬(a≠b))
 (h:Q0 P l Q (upd ρ d (.bool false)) w):Q0 P (⟨none, .bin d .neq T x y⟩::l) Q ρ w:=
 Xw hx hy Dz
theorem Q8 {x y:Operand}{a b:Int}(hx:ρ.ev x= .int k a)(hy:ρ.ev y= .int k b)
 (h1:a≠b→Q0 P l Q (upd ρ d (.bool true)) w)(h2:¬(a≠b)→Q0 P l Q (upd ρ d (.bool false)) w):Q0 P (⟨none, .bin d .neq T x y⟩::l) Q ρ w:=
 Xw hx hy (by
  by_cases hp:a≠b
  · rw [decide_eq_true hp];exact h1 hp
  · rw [decide_eq_false hp];exact h2 hp)

theorem Ad {x y:Operand}{a b:Int}(hx:ρ.ev x= .int k a:=by rfl)(hy:ρ.ev y= .int k b:=by rfl)
 {h1:a≠b→Q0 P l Q (upd ρ d (.bool true)) w}{h2:¬(a≠b)→Q0 P l Q (upd ρ d (.bool false)) w}:Q0 P (⟨none, .bin d .neq T x y⟩::l) Q ρ w:=Q8 hx hy h1 h2
theorem gF {x y:Operand}{a b:Int}(hx:ρ.ev x= .int k a)(hy:ρ.ev y= .int k b)
 (h:Q0 P l Q (upd ρ d (.bool (decide (a<b)))) w):Q0 P (⟨none, .bin d .lss T x y⟩::l) Q ρ w:=
 ⟨_,fun w0=>by
   rw [hx,hy]
   first
    | (simp [eqGuard,binOp,Op.intCmp];done)
    | (by_cases hp:a=b<;>simp [eqGuard,binOp,Op.intCmp,hp]),h⟩
theorem Xz {x y:Operand}{a b:Int}(hx:ρ.ev x= .int k a)(hy:ρ.ev y= .int k b)(hp:a<b)
 (h:Q0 P l Q (upd ρ d (.bool true)) w):Q0 P (⟨none, .bin d .lss T x y⟩::l) Q ρ w:=
 gF hx hy Dy
theorem XA {x y:Operand}{a b:Int}(hx:ρ.ev x= .int k a)(hy:ρ.ev y= .int k b)(hp:¬(a<b))
 (h:Q0 P l Q (upd ρ d (.bool false)) w):Q0 P (⟨none, .bin d .lss T x y⟩::l) Q ρ w:=
 gF hx hy Dz
theorem Qx {x y:Operand}{a b:Int}(hx:ρ.ev x= .int k a)(hy:ρ.ev y= .int k b)
 (h1:a<b→Q0 P l Q (upd ρ d (.bool true)) w)(h2:¬(a<b)→Q0 P l Q (upd ρ d (.bool false)) w):Q0 P (⟨none, .bin d .lss T x y⟩::l) Q ρ w:=
 gF hx hy (by
  by_cases hp:a<b
  · rw [decide_eq_true hp];exact h1 hp
  · rw [decide_eq_false hp];exact h2 hp)

theorem Ae {x y:Operand}{a b:Int}(hx:ρ.ev x= .int k a:=by rfl)(hy:ρ.ev y= .int k b:=by rfl)
 {h1:a<b→Q0 P l Q (upd ρ d (.bool true)) w}{h2:¬(a<b)→Q0 P l Q (upd ρ d (.bool false)) w}:Q0 P (⟨none, .bin d .lss T x y⟩::l) Q ρ w:=Qx hx hy h1 h2
theorem mJ {x y:Operand}{a b:Int}(hx:ρ.ev x= .int k a)(hy:ρ.ev y= .int k b)
 (h:Q0 P l Q (upd ρ d (.bool (decide (a≤b)))) w):Q0 P (⟨none, .bin d .leq T x y⟩::l) Q ρ w:=
 ⟨_,fun w0=>by
   rw [hx,hy]
   first
    | (simp [eqGuard,binOp,Op.intCmp];done)
    | (by_cases hp:a=b<;>simp [eqGuard,binOp,Op.intCmp,hp]),h⟩
theorem XB {x y:Operand}{a b:Int}(hx:ρ.ev x= .int k a)(hy:ρ.ev y= .int k b)(hp:a≤b)
 (h:Q0 P l Q (upd ρ d (.bool true)) w):Q0 P (⟨none, .bin d .leq T x y⟩::l) Q ρ w:=
 mJ hx hy Dy
theorem XC {x y:Operand}{a b:Int}(hx:ρ.ev x= .int k a)(hy:ρ.ev y= .int k b)(hp:¬(a≤b))
 (h:Q0 P l Q (upd ρ d (.bool false)) w):Q0 P (⟨none, .bin d .leq T x y⟩::l) Q ρ w:=
 mJ hx hy Dz
theorem XD {x y:Operand}{a b:Int}(hx:ρ.ev x= .int k a)(hy:ρ.ev y= .int k b)
 (h1:a≤b→Q0 P l Q (upd ρ d (.bool true)) w)(h2:¬(a≤b)→Q0 P l Q (upd ρ d (.bool false)) w):Q0 P (⟨none, .bin d .leq T x y⟩::l) Q ρ w:=
 mJ hx hy (by
  by_cases hp:a≤b
  · rw [decide_eq_true hp];exact h1 hp
  · rw [decide_eq_false hp];exact h2 hp)

theorem eS {x y:Operand}{a b:Int}(hx:ρ.ev x= .int k a)(hy:ρ.ev y= .int k b)
 (h:Q0 P l Q (upd ρ d (.bool (decide (b<a)))) w):Q0 P (⟨none, .bin d .gtr T x y⟩::l) Q ρ w:=
 ⟨_,fun w0=>by
   rw [hx,hy]
   first
    | (simp [eqGuard,binOp,Op.intCmp];done)
    | (by_cases hp:a=b<;>simp [eqGuard,binOp,Op.intCmp,hp]),h⟩
theorem XE {x y:Operand}{a b:Int}(hx:ρ.ev x= .int k a)(hy:ρ.ev y= .int k b)(hp:b<a)
 (h:Q0 P l Q (upd ρ d (.bool true)) w):Q0 P (⟨none, .bin d .gtr T x y⟩::l) Q ρ w:=
 eS hx hy Dy
theorem XF {x y:Operand}{a b:Int}(hx:ρ.ev x= .int k a)(hy:ρ.ev y= .int k b)(hp:¬(b<a))
 (h:Q0 P l Q (upd ρ d (.bool false)) w):Q0 P (⟨none, .bin d .gtr T x y⟩::l) Q ρ w:=
 eS hx hy Dz
theorem Qi {x y:Operand}{a b:Int}(hx:ρ.ev x= .int k a)(hy:ρ.ev y= .int k b)
 (h1:b<a→Q0 P l Q (upd ρ d (.bool true)) w)(h2:¬(b<a)→Q0 P l Q (upd ρ d (.bool false)) w):Q0 P (⟨none, .bin d .gtr T x y⟩::l) Q ρ w:=
 eS hx hy (by
  by_cases hp:b<a
  · rw [decide_eq_true hp];exact h1 hp
  · rw [decide_eq_false hp];exact h2 hp)

theorem Af {x y:Operand}{a b:Int}(hx:ρ.ev x= .int k a:=by rfl)(hy:ρ.ev y= .int k b:=by rfl)
 {h1:b<a→Q0 P l Q (upd ρ d (.bool true)) w}{h2:¬(b<a)→Q0 P l Q (upd ρ d (.bool false)) w}:Q0 P (⟨none, .bin d .gtr T x y⟩::l) Q ρ w:=Qi hx hy h1 h2
theorem mK {x y:Operand}{a b:Int}(hx:ρ.ev x= .int k a)(hy:ρ.ev y= .int k b)
 (h:Q0 P l Q (upd ρ d (.bool (decide (b≤a)))) w):Q0 P (⟨none, .bin d .geq T x y⟩::l) Q ρ w:=
 ⟨_,fun w0=>by
   rw [hx,hy]
   first
    | (simp [eqGuard,binOp,Op.intCmp];done)
    | (by_cases hp:a=b<;>simp [eqGuard,binOp,Op.intCmp,hp]),h⟩
theorem XG {x y:Operand}{a b:Int}(hx:ρ.ev x= .int k a)(hy:ρ.ev y= .int k b)(hp:b≤a)
 (h:Q0 P l Q (upd ρ d (.bool true)) w):Q0 P (⟨none, .bin d .geq T x y⟩::l) Q ρ w:=
 mK hx hy Dy
theorem XH {x y:Operand}{a b:Int}(hx:ρ.ev x= .int k a)(hy:ρ.ev y= .int k b)(hp:¬(b≤a))
 (h:Q0 P l Q (upd ρ d (.bool false)) w):Q0 P (⟨none, .bin d .geq T x y⟩::l) Q ρ w:=
 mK hx hy Dz
theorem xR {x y:Operand}{a b:Int}(hx:ρ.ev x= .int k a)(hy:ρ.ev y= .int k b)
 (h1:b≤a→Q0 P l Q (upd ρ d (.bool true)) w)(h2:¬(b≤a)→Q0 P l Q (upd ρ d (.bool false)) w):Q0 P (⟨none, .bin d .geq T x y⟩::l) Q ρ w:=
 mK hx hy (by
  by_cases hp:b≤a
  · rw [decide_eq_true hp];exact h1 hp
  · rw [decide_eq_false hp];exact h2 hp)

theorem Ag {x y:Operand}{a b:Int}(hx:ρ.ev x= .int k a:=by rfl)(hy:ρ.ev y= .int k b:=by rfl)
 {h1:b≤a→Q0 P l Q (upd ρ d (.bool true)) w}{h2:¬(b≤a)→Q0 P l Q (upd ρ d (.bool false)) w}:Q0 P (⟨none, .bin d .geq T x y⟩::l) Q ρ w:=xR hx hy h1 h2
theorem xS (n:Nat){a b:Bool}(ht:P.underlying T=some .bool):(Op.equalIn (n+1) T (.bool a) (.bool b)).run P w0= .ok (a==b) w0:=by
 simp only [Op.equalIn,Fo,Q9 P T _ w0 ht,EZ,FC]
theorem xU {a b:Bool}(ht:P.underlying T=some .bool):(Op.equal T (.bool a) (.bool b)).run P w0= .ok (a==b) w0:=
 xS 9999 ht
theorem ZS {x y:Operand}{a b:Bool}(ht:P.underlying T=some .bool)(hx:ρ.ev x= .bool a)(hy:ρ.ev y= .bool b)
 (h:Q0 P l Q (upd ρ d (.bool (a !=b))) w):Q0 P (⟨none, .bin d .neq T x y⟩::l) Q ρ w:=
 ⟨_,fun w0=>by rw [hx,hy];simp [eqGuard,binOp,xU ht];cases a<;>cases b<;>rfl,h⟩

theorem bu {gs:List GO}{es:List (List Nat)}(C:List CI)(hok:aY gs es C=true)
 (hpl:(C.all fun c=>match c.2 with|some (some _)=>false|_=>true)=true)(h:Q0 P (C.map fun c=>KP gs c.1) Q ρ w.drew):(LC.draw gs es).wp P Q ρ w:=
 xQ C hok hpl h
theorem XI {gs:List GO}{es:List (List Nat)}(C:List CI)(hok:aY gs es C=true)(h:Ow P gs C Q ρ w.drew):(LC.draw gs es).wp P Q ρ w:=rD C hok h
theorem bw {gs:List GO}{h:Q .normal ρ w}:Ow P gs [] Q ρ w:=h
theorem L6 {gs:List GO}{i:Nat}{rest:List CI}{h:Q0 P [KP gs i] (Qh (Ow P gs rest Q) Q) ρ w}:Ow P gs ((i,none)::rest) Q ρ w:=h
theorem Lx {gs:List GO}{i:Nat}{rest:List CI}{h:Q0 P [KP gs i] (Qh (Ow P gs rest Q) Q) ρ w}:Ow P gs ((i,some none)::rest) Q ρ w:=h
theorem Sa {gs:List GO}{i:Nat}{fl:List Nat}{rest:List CI}{h:Q0 P [KP gs i] (Qh (fun ρ' w'=>(∀q∈fl,MX P ρ w' (KP gs q) (ρ ((KP gs q).dst.getD 0)))∧Ow P gs rest Q ρ' w') (my Q)) ρ w}:
 Ow P gs ((i,some (some fl))::rest) Q ρ w:=h
end
end
section

def Sl (H:Kk)(T:TypeId)(es:Nat)(v:Value)(F:Nat→Prop)(css:List (List Value)):Prop:=
 (∀c∈css,c.length=es)∧
 ((v= .slice none 0 0∧css=[]∧∀b,¬F b)∨
  ∃ b off cap arr,v= .slice (some ⟨b,off,none⟩) css.length cap∧css.length≤cap∧Lg H b T arr∧off+cap*es≤arr.length∧
    (∀i,i<css.length*es→arr[off+i]?=css.flatten[i]?)∧∀x,F x↔x=b)

theorem kj:∀{css:List (List Value)},(∀c∈css,c.length=es)→∀{m j:Nat}{c:List Value},css[m]?=some c→j<es→css.flatten[m*es+j]?=c[j]?:=by
 intro css
 induction css with
 | nil=>intro _ m j c h;simp at h
 | cons a css ih=>
   intro hl m j c h hj;have ha:=hl a Js
   cases m with
   | zero=>
     simp at h;subst h;simp only [GU,HU,F7];rw [ER Jo]
   | succ m=>
     simp at h;have:=ih (fun c hc=>hl c DE) h hj;simp only [GU];rw [EV (by rw [ha,G3];omega),ha,←this];congr 1;rw [G3];omega

theorem WQ:∀{css:List (List Value)},(∀c∈css,c.length=es)→css.flatten.length=css.length*es:=by
 intro css
 induction css with
 | nil=>intro _;simp
 | cons a css ih=>
   intro hl;simp only [GU,EM,ET,ih (fun c hc=>hl c DE),hl a Js,G3];omega

theorem Sl.nil (H:Kk)(T:TypeId)(es:Nat):Sl H T es (.slice none 0 0) NF []:=⟨by simp, .inl ⟨rfl,rfl,fun _ h=>h⟩⟩

theorem Sl.shape {H:Kk}{v:Value}{F:Nat→Prop}(h:Sl H T es v F css):∃a c,v= .slice a css.length c:=by
 obtain ⟨_,⟨h,h2,_⟩|⟨b,off,cap,arr,h,_⟩⟩:=h
 · subst h2;exact ⟨_,_,h⟩
 · exact ⟨_,_,h⟩

theorem Sl.lt {H:Kk}{v:Value}{F:Nat→Prop}(h:Sl H T es v F css):∀b,F b→b<H.size:=by
 obtain ⟨_,⟨_,_,h⟩|⟨b,off,cap,arr,_,_,hb,_,_,hf⟩⟩:=h
 · intro b hb;exact absurd hb (h b)
 · intro x hx;rw [(hf x).1 hx];exact hb.lt

theorem Sl.of_same {H H':Kk}{v:Value}{F:Nat→Prop}(h:Sl H T es v F css)(hs:∀b,F b→b<H.size→H'[b]?=H[b]?):Sl H' T es v F css:=by
 obtain ⟨h0,h1|⟨b,off,cap,arr,h1,h2,hb,h3,h4,hf⟩⟩:=h
 · exact ⟨h0, .inl h1⟩
 · exact ⟨h0, .inr ⟨b,off,cap,arr,h1,h2,hb.of_same (hs b ((hf b).2 rfl) hb.lt),h3,h4,hf⟩⟩

theorem Sl.fr {F:Nat→Prop}{v:Value}(h:Sl w.heap T es v F css)(hf:Fr G w w')(hn:∀b,F b→¬G b):Sl w'.heap T es v F css:=
 h.of_same fun b hb hlt=>hf.same b hlt (hn b hb)

theorem Sl.fr0 {F:Nat→Prop}{v:Value}(h:Sl w.heap T es v F css)(hf:Fr NF w w'):Sl w'.heap T es v F css:=
 h.fr hf fun _ _ h=>h
theorem Lg.fr0 (h:Lg w.heap b T cs)(hf:Fr NF w w'):Lg w'.heap b T cs:=h.fr hf fun h=>h

structure El (H:Kk) (T:TypeId) (es:Nat) (v:Value) (F:Nat→Prop) (css:List (List Value)) (m b o:Nat):Prop where
 sl:Sl H T es v F css
 lt:m<css.length
 at_:∃off cap,v= .slice (some ⟨b,off,none⟩) css.length cap∧o=off+m*es

theorem El.out {H:Kk}{v:Value}{F:Nat→Prop}{o:Nat}(h:El H T es v F css m b o):
 ∃off cap arr,v= .slice (some ⟨b,off,none⟩) css.length cap∧css.length≤cap∧Lg H b T arr∧off+cap*es≤arr.length∧(∀i,i<css.length*es→arr[off+i]?=css.flatten[i]?)∧(∀x,F x↔x=b)∧o=off+m*es:=by
 obtain ⟨⟨_,hs⟩,hm,off,cap,hv,ho⟩:=h;rcases hs with ⟨hv',hc,_⟩|⟨b',off',cap',arr,hv',h1,h2,h3,h4,h5⟩
 · subst hc;simp at hm
 · rw [hv] at hv';simp only [Value.slice.injEq,E0,Addr.mk.injEq,and_true,true_and] at hv';obtain ⟨⟨rfl,rfl⟩,rfl⟩:=hv';exact ⟨off,cap,arr,hv,h1,h2,h3,h4,h5,ho⟩

theorem El.F {H:Kk}{T:TypeId}{es:Nat}{v:Value}{F:Nat→Prop}{css:List (List Value)}{m b o:Nat}(h:El H T es v F css m b o):∀x,F x↔x=b:=by
 obtain ⟨_,_,_,_,_,_,_,_,h,_⟩:=h.out;exact h

theorem gG (h:m<n):m*es+es≤n*es:=by
 have:(m+1)*es≤n*es:=FQ es h;rw [G3] at this;exact this

theorem El.cell {v:Value}{F:Nat→Prop}{o:Nat}(h:El w.heap T es v F css m b o)(hc:css[m]?=some c)(hu:c[j]?=some u):
 w.cell? ⟨b,o+j,none⟩=some u:=by
 have hlen:=h.sl.1;obtain ⟨off,cap,arr,hv,h1,h2,h3,h4,h5,ho⟩:=h.out;have hcl:c.length=es:=hlen c (EI hc)
 have hj:j<es:=by
  rcases Gc j c.length with h|h
  · omega
  · simp [Fk h] at hu
 have hb:=gG (es:=es) h.lt;have:=h4 (m*es+j) Jo;rw [kj hlen hc hj,hu] at this;rw [ho,Gx];exact h2.cell this

theorem El.cells {v:Value}{F:Nat→Prop}{o:Nat}(h:El w.heap T es v F css m b o)(hc:css[m]?=some c):ZL w ⟨b,o,none⟩ es c:=by
 have hcl:c.length=es:=h.sl.1 c (EI hc);refine ⟨hcl,fun j hj=>?_⟩;rw [PH,EH Jo];exact h.cell hc (EH Jo)

theorem xV:∀{css:List (List Value)},(∀c∈css,c.length=es)→∀{m j:Nat}{c:List Value}{u:Value},css[m]?=some c→j<es→(css.set m (c.set j u)).flatten=css.flatten.set (m*es+j) u:=by
 intro css
 induction css with
 | nil=>intro _ m j c u h;simp at h
 | cons a css ih=>
   intro hl m j c u h hj;have ha:=hl a Js
   cases m with
   | zero=>
     simp at h;subst h;simp only [E8,GU,HU,F7];rw [List.set_append_left _ _ Jo]
   | succ m=>
     simp at h;have:=ih (fun c hc=>hl c DE) (u:=u) h hj;simp only [Fg,GU,this];rw [GR _ _ (by rw [ha,G3];omega),ha];congr 2;rw [G3];omega

theorem El.set {v:Value}{F:Nat→Prop}{o:Nat}(h:El w.heap T es v F css m b o)(hc:css[m]?=some c)(hj:j<es):
 El (w.setCell ⟨b,o+j,none⟩ u).heap T es v F (css.set m (c.set j u)) m b o:=by
 have hlen:=h.sl.1;obtain ⟨off,cap,arr,hv,h1,h2,h3,h4,h5,ho⟩:=h.out;refine ⟨⟨?_, .inr ⟨b,off,cap,arr.set (o+j) u,by simpa using hv,by simpa using h1,h2.set,by simpa using h3,?_,h5⟩⟩,by simpa using h.lt,off,cap,by simpa using hv,ho⟩
 · intro x hx
   rcases HJ hx with hx|rfl
   · exact hlen x hx
   · simpa using hlen c (EI hc)
 · intro i hi
   simp only [Fe] at hi;rw [xV hlen hc hj];have e:=h4 i hi;have hb:=gG (es:=es) h.lt;have hfl:=WQ hlen;have hmul:css.length*es≤cap*es:=FQ es h1;by_cases hii:i=m*es+j
   · subst hii;rw [ho,←Gx,Gf Jo,Gf Jo]
   · rw [Gd Jo,Gd Jo,e]

theorem El.fr {F:Nat→Prop}{v:Value}{o:Nat}(h:El w.heap T es v F css m b o)(hf:Fr G w w')(hn:∀b,F b→¬G b):El w'.heap T es v F css m b o:=
 ⟨h.sl.fr hf hn,h.lt,h.at_⟩

theorem El.setn {v:Value}{F:Nat→Prop}{o:Nat}:∀(vs:List Value) (w:World) (css:List (List Value)) (c:List Value) (j:Nat),El w.heap T es v F css m b o→css[m]?=some c→j+vs.length≤es→(∀v∈vs,oneC v=true)→
 ∃w',(storeCells ⟨b,o,none⟩ vs j).run P w= .ok () w'∧Fr F w w'∧w'.heap.size=w.heap.size∧El w'.heap T es v F (css.set m (c.take j++(vs++c.drop (j+vs.length)))) m b o:=by
 intro vs
 induction vs with
 | nil=>
   intro w css c j h hc hj _;refine ⟨w,by simp [storeCells],Ig _ _,rfl,?_⟩
   have:css.set m (c.take j++([]++c.drop (j+0)))=css:=by
    simp only [HY,Hw,GC];apply Gg;intro i;by_cases him:m=i
    · subst him;rw [Gf h.lt,hc]
    · rw [Gd him]
   simp only [Ff];rw [this];exact h
 | cons u vs ih=>
   intro w css c j h hc hj ho;simp only [ET] at hj;have h1:=ho u Js;have h1':u.oneCell'=true:=(by cases u<;>simp_all [Value.oneCell',oneC]);have hcl:c.length=es:=h.sl.1 c (EI hc);have hcell:=h.cell hc (EH (show j<c.length by omega));have hset:=h.set (u:=u) hc (show j<es by omega);obtain ⟨off,cap,arr,hv,g1,g2,g3,g4,g5,go⟩:=h.out;have hb:=gG (es:=es) h.lt;have hmul:css.length*es≤cap*es:=FQ es g1;have hfree:=g2.free (w:=w) (i:=o+j) Jo;have hc':(css.set m (c.set j u))[m]?=some (c.set j u):=Gf h.lt;obtain ⟨w',h2,h3,h4,h5⟩:=ih (w.setCell ⟨b,o+j,none⟩ u) _ _ (j+1) hset hc' Jo (fun x hx=>ho x Du);refine ⟨w',?_,((kg w b (o+j) u).mono fun x _ hx=>(g5 x).2 hx).trans h3 (fun _ _ h=>h),h4.trans Js,?_⟩
   · simp only [storeCells,Fo,PH,run_store P w _ _ .plain h1',hcell,hfree,EX,if_false,EZ];exact h2
   · have e:(css.set m (c.set j u)).set m ((c.set j u).take (j+1)++(vs++(c.set j u).drop (j+1+vs.length)))=css.set m (c.take j++(u::vs++c.drop (j+(u::vs).length))):=by
      rw [Hv];congr 1;have hlt:j<c.length:=Dc;rw [G9,if_pos hlt];have hm:(c.take j).length=j:=by simp;omega
      have e1:List.take (j+1) (c.take j++u::c.drop (j+1))=c.take j++[u]:=by
       rw [IB,hm,E1 Jo,show j+1 - j=1 by omega];rfl
      have e2:List.drop (j+1+vs.length) (c.take j++u::c.drop (j+1))=c.drop (j+(u::vs).length):=by
       rw [ID,hm,EP Jo,show j+1+vs.length - j=vs.length+1 by omega];simp [I5,Im]
      rw [e1,e2];simp
     rw [←e];exact h5

section
variable {P:Program}{l:List GO}{Q:QT}{ρ:Km}{w:World}{T:TypeId}{es:Nat}{v:Value}{F:Nat→Prop}{css:List (List Value)}

theorem Tb {x i:Operand}{n:Int}(hx:ρ.ev x=v)(hi:ρ.ev i= .int k n)(hs:Sl w.heap T es v F css)(h0:0≤n)(h1:n<css.length)
 (h:∀b o,El w.heap T es v F css n.toNat b o→Q0 P l Q (upd ρ d (.pointer (some ⟨b,o,none⟩))) w):Q0 P (⟨none, .idx d es x i⟩::l) Q ρ w:=by
 obtain ⟨hlen,⟨hv,hc,_⟩|⟨b,off,cap,arr,hv,g1,g2,g3,g4,g5⟩⟩:=hs
 · subst hc;simp at h1;omega
 · subst hv;exact bn hx hi h0 h1 (h b _ ⟨⟨hlen, .inr ⟨b,off,cap,arr,rfl,g1,g2,g3,g4,g5⟩⟩,Jo,off,cap,rfl,rfl⟩)

theorem bx {x:Operand}(hx:ρ.ev x=v)(hs:Sl w.heap T es v F css)(h:Q0 P l Q (upd ρ d (.int .i64 css.length)) w):Q0 P (⟨none, .len d x⟩::l) Q ρ w:=by
 obtain ⟨a,c,hv⟩:=hs.shape;exact ZP (hx.trans hv) h

theorem Tc {x:Operand}{o:Nat}(hx:ρ.ev x= .pointer (some ⟨b,o+j,none⟩))(he:El w.heap T es v F css m b o)(hc:css[m]?=some c)(hu:c[j]?=some u)
 (h:Q0 P l Q (upd ρ d u) w):Q0 P (⟨none, .load1 d x⟩::l) Q ρ w:=mD hx (he.cell hc hu) h
theorem Td {x:Operand}{o:Nat}(hx:ρ.ev x= .pointer (some ⟨b,o,none⟩))(he:El w.heap T es v F css m b o)(hc:css[m]?=some c)
 (h:Q0 P l Q (upd ρ d (.agg ⟨c⟩)) w):Q0 P (⟨none, .loadn d es x⟩::l) Q ρ w:=rJ hx (he.cells hc) h
theorem xW {x y:Operand}{o:Nat}(hx:ρ.ev x= .pointer (some ⟨b,o+j,none⟩))(hy:ρ.ev y=u)(he:El w.heap T es v F css m b o)(hc:css[m]?=some c)(hj:j<es)(ho:oneC u=true)
 (h:∀w',Fr F w w'→w'.heap.size=w.heap.size→El w'.heap T es v F (css.set m (c.set j u)) m b o→Q0 P l Q ρ w'):Q0 P (⟨none, .store1 x y⟩::l) Q ρ w:=by
 subst hy;have hcl:c.length=es:=he.sl.1 c (EI hc);obtain ⟨off,cap,arr,hv,g1,g2,g3,g4,g5,go⟩:=he.out;have hb:=gG (es:=es) he.lt;have hmul:css.length*es≤cap*es:=FQ es g1;exact ⟨_,_,hx,he.cell hc (EH (show j<c.length by omega)),g2.free Jo,ho,h _ ((kg w b _ _).mono fun x _ hx=>(g5 x).2 hx) Js (he.set hc hj)⟩
theorem xX {x y:Operand}{o:Nat}(hx:ρ.ev x= .pointer (some ⟨b,o,none⟩))(hy:ρ.ev y= .agg ⟨vs⟩)(hn:vs.length=n)(he:El w.heap T es v F css m b o)(hc:css[m]?=some c)(hl:vs.length=es)(ho:∀v∈vs,oneC v=true)
 (h:∀w',Fr F w w'→w'.heap.size=w.heap.size→El w'.heap T es v F (css.set m vs) m b o→Q0 P l Q ρ w'):Q0 P (⟨none, .storen n x y⟩::l) Q ρ w:=by
 subst hn;have hcl:c.length=es:=he.sl.1 c (EI hc);obtain ⟨w',h1,h2,h3,h4⟩:=El.setn (P:=P) vs w css c 0 he hc Jo ho;refine ⟨_,_,w',hx,hy,rfl,h1,h w' h2 h3 ?_⟩;have:c.take 0++(vs++c.drop (0+vs.length))=vs:=De;rw [this] at h4;exact h4

theorem bz {x:Operand}(hx:ρ.ev x=v)(hs:Sl w.heap T es v F css)(hmx:mx=none)(hh:ME ρ css.length hi h')(hl:ME ρ 0 lo l')(h2:h'≤css.length)(h3:l'≤h')
 (h:∀v',Sl w.heap T es v' F ((css.take h').drop l')→Q0 P l Q (upd ρ d v') w):Q0 P (⟨none, .sub d es x lo hi mx⟩::l) Q ρ w:=by
 subst hmx;obtain ⟨hlen,⟨hv,hc,hF⟩|⟨b,off,cap,arr,hv,g1,g2,g3,g4,g5⟩⟩:=hs
 · subst hc hv;simp only [Ff,Nat.le_zero_eq] at h2;subst h2;have:l'=0:=Dc;subst this;refine Ta (m:=0) hx rfl hh hl (E7 _) (E7 _) (E7 _) ?_;simp only [if_true,Gl];exact h _ (by simpa using ⟨by simp, .inl ⟨rfl,rfl,hF⟩⟩)
 · subst hv
   refine Ta (m:=cap) hx rfl hh hl (E7 _) Jo h3 ?_;refine h _ ⟨fun c hc=>hlen c (GW (Ia hc)), .inr ?_⟩;have hl1:((css.take h').drop l').length=h' - l':=by simp;omega
   have hfl:∀i,i<(h' - l')*es→((css.take h').drop l').flatten[i]?=css.flatten[l'*es+i]?:=by
    intro i hi
    have e1:css=css.take l'++((css.take h').drop l'++css.drop h'):=by
     have:css.take l'=(css.take h').take l':=(by rw [List.take_take,Nat.min_eq_left h3]);rw [this,←FX,GC,GC]
    have hlen':∀c∈css.take l',c.length=es:=fun c hc=>hlen c (GW hc);have hlen2:∀c∈(css.take h').drop l',c.length=es:=fun c hc=>hlen c (GW (Ia hc));have f1:=WQ hlen';have f2:=WQ hlen2;rw [hl1] at f2;have ht:(css.take l').length=l':=De;rw [ht] at f1
    conv=>rhs;rw [e1]
    simp only [Ik];rw [EV Jo,f1,Nat.add_sub_cancel_left,ER Jo]
   have hm1:l'*es≤cap*es:=FQ es Jo;have hm2:(cap - l')*es=cap*es - l'*es:=Nat.sub_mul _ _ _;have hm3:(h' - l')*es+l'*es=h'*es:=(by rw [←HK];congr 1;omega);have hm4:h'*es≤css.length*es:=FQ es h2;by_cases hcl:cap=l'
   · rw [if_pos hcl]
     refine ⟨b,off,cap - l',arr,?_,Jo,g2,Jo,?_,g5⟩
     · rw [hl1]
     · intro i hi;rw [hl1] at hi;have:h' - l'=0:=Dc;rw [this] at hi;omega
   · rw [if_neg hcl]
     refine ⟨b,off+l'*es,cap - l',arr,?_,Jo,g2,Jo,?_,g5⟩
     · rw [hl1];simp only [FP,PH]
     · intro i hi;rw [hl1] at hi;rw [hfl i hi,Gx,g4 (l'*es+i) Jo]
end
end
section

def NH (P:Program)(Ts:TypeId):Option (TypeId×Nat×Nat×List Value):=match P.underlying Ts with
 | some (.slice e)=>match P.info? e with
   | some i=>match i.zero with
     | some z=>if i.size=0∨i.bytes=0∨z.cells.size≠i.size then none else some (e,i.size,i.bytes,z.cells.toList)
     | none=>none
   | none=>none
 | _=>none

theorem mM {e:Nat}{z:List Value}(h:NH P Ts=some (e,es,nb,z)):
 ∃i zv,P.underlying Ts=some (.slice e)∧P.info? e=some i∧i.zero=some zv∧i.size=es∧i.bytes=nb∧zv.cells.toList=z∧0<es∧0<nb∧z.length=es:=by
 unfold NH at h;split at h
 · rename_i e' hu
   split at h
   · rename_i i hi
     split at h
     · rename_i zv hz
       split at h
       · cases h
       · rename_i hc
         simp only [E0,GJ] at h;obtain ⟨rfl,rfl,rfl,rfl⟩:=h;refine ⟨i,zv,hu,hi,hz,rfl,rfl,rfl,Jo,Jo,?_⟩;have:zv.cells.size=i.size:=by omega
         simpa using this
     · cases h
   · cases h
 · cases h

def Te (P:Program)(w:World)(es:Nat)(v:Value)(css:List (List Value)):Prop:=
 (Builtin.lenOf v).run P w= .ok css.length w∧(∀c∈css,c.length=es)∧(∀c∈css,∀u∈c,oneC u=true)∧
 ∀w',(∀b,b<w.heap.size→w'.heap[b]?=w.heap[b]?)→(Builtin.firstCells es css.length v).run P w'= .ok ⟨css.flatten⟩ w'

theorem Sl.src {v:Value}{F:Nat→Prop}(h:Sl w.heap T es v F css)(ho:∀c∈css,∀u∈c,oneC u=true):Te P w es v css:=by
 have hlen:=h.1;refine ⟨?_,hlen,ho,?_⟩
 · obtain ⟨a,c,hv⟩:=h.shape;rw [hv];rfl
 · intro w' hw'
   obtain ⟨_,⟨hv,hc,_⟩|⟨b,off,cap,arr,hv,g1,g2,g3,g4,g5⟩⟩:=h
   · subst hv hc;rfl
   · subst hv;have g2':=g2.of_same (hw' b g2.lt);simp only [Builtin.firstCells];refine gh _ _ _ ⟨WQ hlen,fun j hj=>?_⟩;rw [PH];have hfl:=WQ hlen;have hm:=FQ es g1;have:=g4 j Jo;rw [EH (show j<css.flatten.length from hfl ▸ hfl ▸ hj)] at this ⊢;exact g2'.cell this

theorem Sl.fresh {H:Kk}(hb:Lg H b T cs)(hf:css.flatten=cs)(hl:∀c∈css,c.length=es)(hn:css.length=n):
 Sl H T es (.slice (some ⟨b,0,none⟩) n n) (· =b) css:=by
 subst hn hf;refine ⟨hl, .inr ⟨b,0,css.length,css.flatten,rfl,E7 _,hb,?_,?_,fun x=>GV⟩⟩
 · rw [WQ hl];omega
 · intro i _;rw [F7]

abbrev It:=@Sl.fresh
theorem xY {zero:Array Value}:(Builtin.zeroCells zero n).toList.length=n*zero.size:=by simp [Builtin.zeroCells]

def mN (w:World)(T:TypeId)(es:Nat)(F:Nat→Prop)(css css2:List (List Value))(v':Value)(w':World):Prop:=
 ∃F',Sl w'.heap T es v' F' (css++css2)∧Fr F w w'∧∀b,F' b→F b∨w.heap.size≤b

theorem xZ {Ty e:Nat}{z:List Value}(hel:NH P Ts=some (e,es,nb,z))(hts:(∃e2,P.underlying Ts2=some (.slice e2))∨P.underlying Ts2=some .string)
 {v:Value}{F:Nat→Prop}(hs:Sl w.heap e es v F css)(hsrc:Te P w es v2 css2)(hb:(css.length+css2.length)*nb≤140737488355328):
 ∃v' w',(Builtin.append_ #[Ts,Ts2] Ty #[v,v2]).run P w= .ok v' w'∧mN w e es F css css2 v' w':=by
 obtain ⟨i,zv,hu,hi,hz,rfl,rfl,hzc,hes,hnb,hzl⟩:=mM hel;obtain ⟨hl2,hlen2,hone2,hfc2⟩:=hsrc;have hsz:(sizeOf e).run P w= .ok i.size w:=(by simp [sizeOf,gg P e i w hi]);have hlen:=hs.1;have hzs:zv.cells.size=i.size:=(by rw [←FZ,hzc];exact hzl);have hsmall:css.length+css2.length≤140737488355328:=F3 (Nat.le_mul_of_pos_right _ hnb) hb;have hf1:=WQ hlen;have hf2:=WQ hlen2
 -- the growing way
 have grow:∀(base:Option Addr) (cap:Nat),v= .slice base css.length cap→cap<css.length+css2.length→
  (∀w',(∀b,b<w.heap.size→w'.heap[b]?=w.heap[b]?)→(Builtin.firstCells i.size css.length v).run P w'= .ok ⟨css.flatten⟩ w')→
  ∃v' w',(Builtin.append_ #[Ts,Ts2] Ty #[v,v2]).run P w= .ok v' w'∧mN w e i.size F css css2 v' w':=by
  intro base cap hv hcap hold;have hq:Question.forced (.appendCap (css.length+css2.length) cap e)=false:=rfl
  let nc:=Question.cut (.appendCap (css.length+css2.length) cap e) (w.tape w.drawn (.appendCap (css.length+css2.length) cap e))
  have hnc:css.length+css2.length≤nc:=(by simp only [nc,Question.cut];omega);have h1:=hold w.drew (fun _ _=>rfl);have h2:=hfc2 w.drew (fun _ _=>rfl);have hgs:=growslice_fits hcap hb;refine ⟨.slice (some ⟨w.heap.size,0,none⟩) (css.length+css2.length) nc,w.drew.alloc (.cells (⟨css.flatten⟩++⟨css2.flatten⟩++Builtin.zeroCells zv.cells (nc - (css.length+css2.length))) e),?_,?_⟩
  · subst hv
    have hw:({w with drawn:=w.drawn+1}:World)=w.drew:=rfl;simp only [Builtin.append_,HZ,FJ,FV,Fo,Q9 P Ts _ w hu,EZ,hsz];have hnr:¬(css.length+css2.length≤cap):=Dc;have hnx:¬(Builtin.nextslicecap (css.length+css2.length) cap*i.bytes>2 ^ 48):=Dc;rcases hts with ⟨e2,hd⟩|hd
    all_goals
     simp only [Q9 P Ts2 _ w hd,EZ,FC,EX,if_false,hl2,Sem.run_ite,if_neg hnr,Fo,gg P e i _ hi,if_neg hnx]
    all_goals
     simp only [run_choose,hq,EX,if_false,EZ,run_askRoom,hw];rw [h1];simp only [EZ,H8,if_true];rw [h2];simp only [EZ,eL P e zv _ (by simp [aT,hi,hz]),newRow,Fo,run_newObj,FC];rw [if_neg (by rintro ⟨_,h|h⟩;exact h;omega)];rfl
  · have hblk:=eQ w.drew ((⟨css.flatten⟩++⟨css2.flatten⟩++Builtin.zeroCells zv.cells (nc - (css.length+css2.length)):Array Value).toList) e
    refine ⟨(· =w.heap.size),⟨?_, .inr ⟨w.heap.size,0,nc,_,by simp,by simpa using hnc,hblk,?_,?_,fun x=>GV⟩⟩,((aZ w.drew _).drew).any,fun b hb=> .inr (I2 hb.symm)⟩
    · intro c hc
      rcases E3.1 hc with hc|hc
      · exact hlen c hc
      · exact hlen2 c hc
    · simp only [Ii,EM,xY,hf1,hf2,hzs,←HK,F7];exact FQ _ Jo
    · intro j hj;simp only [EM] at hj;rw [F7,Ii,Ii,Ik];rw [ER (by simp only [EM,hf1,hf2,←HK];exact hj)]
 obtain ⟨_,⟨hv,hc,hF⟩|⟨b,off,cap,arr,hv,g1,g2,g3,g4,g5⟩⟩:=hs
 · by_cases hc2:css2=[]
   · subst hc hc2 hv
     refine ⟨.slice none 0 0,w,?_,F,⟨by simp, .inl ⟨rfl,rfl,hF⟩⟩,Ig _ _,fun b hb=> .inl hb⟩;have h2:=hfc2 w (fun _ _=>rfl);simp only [Ff] at h2;simp only [Builtin.append_,HZ,FJ,FV,Fo,Q9 P Ts _ w hu,EZ,hsz];rcases hts with ⟨e2,hd⟩|hd
     all_goals
      simp only [Q9 P Ts2 _ w hd,FC,EZ,EX,if_false,hl2,Ff,Hw,E7,if_true,H8,Fo];rw [h2];rfl
   · refine grow none 0 (by rw [hv,hc];rfl) ?_ ?_
     · have:0<css2.length:=Ij.2 hc2;omega
     · intro w' _;subst hv hc;rfl
 · by_cases hroom:css.length+css2.length≤cap
   · have hm:=FQ i.size hroom
     rw [HK] at hm;have h2:=hfc2 w (fun _ _=>rfl)
     have hone:∀u∈css2.flatten,oneC u=true:=by
      intro u hu;obtain ⟨c,hc,hu⟩:=List.mem_flatten.1 hu;exact hone2 c hc u hu
     obtain ⟨w',h3,h4,h5,h6⟩:=rE P b e css2.flatten w arr (off+css.length*i.size) 0 g2 Jo hone;refine ⟨.slice (some ⟨b,off,none⟩) (css.length+css2.length) cap,w',?_,F,⟨?_, .inr ⟨b,off,cap,_,by simp,by simpa using hroom,h6,?_,?_,g5⟩⟩,h4.mono (fun x _ hx=>(g5 x).2 hx),fun x hx=> .inl hx⟩
     · subst hv
       simp only [Builtin.append_,HZ,FJ,FV,Fo,Q9 P Ts _ w hu,EZ,hsz];rcases hts with ⟨e2,hd⟩|hd
       all_goals
        simp only [Q9 P Ts2 _ w hd,FC,EZ,EX,if_false,hl2,hroom,if_true,H8,Fo];rw [h2];simp only [EZ,PH,h3]
     · intro c hc
       rcases E3.1 hc with hc|hc
       · exact hlen c hc
       · exact hlen2 c hc
     · simp only [EM,F8,List.length_drop];omega
     · intro j hj
       simp only [EM,HK] at hj;rw [Ik];simp only [Hw];have hlt:(arr.take (off+css.length*i.size)).length=off+css.length*i.size:=De;by_cases hj1:j<css.length*i.size
       · rw [ER Jo,FH Jo,ER Jo];exact g4 j hj1
       · rw [EV Jo,hlt,ER Jo,EV Jo,hf1];congr 1;omega
   · refine grow (some ⟨b,off,none⟩) cap hv Jo ?_;intro w' hw';subst hv;have g2':=g2.of_same (hw' b g2.lt);simp only [Builtin.firstCells];refine gh _ _ _ ⟨hf1,fun j hj=>?_⟩;rw [PH];have:=g4 j hj;rw [EH (show j<css.flatten.length by omega)] at this ⊢;exact g2'.cell this

section
variable {P:Program}{l:List GO}{Q:QT}{ρ:Km}{w:World}

theorem gH {Ty e:Nat}{z:List Value}{x y:Operand}{v:Value}{F:Nat→Prop}(hel:NH P Ts=some (e,es,nb,z))
 (hts:(∃e2,P.underlying Ts2=some (.slice e2))∨P.underlying Ts2=some .string)(hx:ρ.ev x=v)(hy:ρ.ev y=v2)(hs:Sl w.heap e es v F css)(hsrc:Te P w es v2 css2)(hb:(css.length+css2.length)*nb≤140737488355328)
 (h : ∀ v' w', mN w e es F css css2 v' w' → Q0 P l Q (upd ρ d v') w'): Q0 P (⟨none, .raw ⟨some d, .call ⟨.builtin .append, #[x, y], #[Ts, Ts2]⟩, Ty, "", #[], none⟩⟩ :: l) Q ρ w := by
 obtain ⟨v',w',hr,hp⟩:=xZ (Ty:=Ty) hel hts hs hsrc hb;refine MJ (v:=v') (w':=w') ?_ (h v' w' hp);simp only [execOp,resolve,Fo,FC,EZ,invoke,builtin];have e1:(#[x,y].map ρ.ev)=#[v,v2]:=(by simp [hx,hy]);rw [e1,hr];rfl
theorem yb {z:List Value}(hz:z.length=es)(hes:0<es)(n:Nat):(List.range (n*es)).map (fun i=>z.getD (i % es) default)=(List.replicate n z).flatten:=by
 apply Gg;intro i;have hl:∀c∈List.replicate n z,c.length=es:=(by intro c hc;rw [Gm hc];exact hz);have hfl:=WQ hl;simp only [FO] at hfl;by_cases hi:i<n*es
 · have hq:i / es<n:=Jn (by rw [Iq];exact hi);have hm:i % es<es:=IM _ hes;have e:=kj hl (m:=i / es) (j:=i % es) (c:=z) (by simp [hq]) hm;have hdm:i / es*es+i % es=i:=(by rw [Iq];exact Nat.div_add_mod i es);rw [hdm] at e;rw [e];simp only [EN,Ht hi,FP];rw [EL,EH (show i % es<z.length by omega)];rfl
 · rw [Fk De,Fk Jo]

theorem bA {Ty e:Nat}{z:List Value}{x y:Operand}{n:Int}(hel:NH P Ts=some (e,es,nb,z))(hx:ρ.ev x= .int k n)(hy:ρ.ev y= .int k' n)(h0:0≤n)(hn:n*nb≤281474976710656)
 (h:∀v' w',Fr NF w w'→Sl w'.heap e es v' (· =w.heap.size) (List.replicate n.toNat z)→w'.heap.size=w.heap.size+1→Q0 P l Q (upd ρ d v') w'):
 Q0 P (⟨none, .raw ⟨some d, .makeSlice Ts x y, Ty, "", #[], none⟩⟩ :: l) Q ρ w := by
 obtain ⟨i,zv,hu,hi,hz,rfl,rfl,hzc,hes,hnb,hzl⟩:=mM hel;have hzs:zv.cells.size=i.size:=by rw [←FZ,hzc];exact hzl
 have hle:n≤281474976710656:=by
  have:n*1≤n*i.bytes:=Int.mul_le_mul_of_nonneg_left Jo h0;omega
 have hwr:IntKind.i64.wrap n=n:=ZN Jo Jo;have hfl:=yb hzl hes n.toNat;have hl:∀c∈List.replicate n.toNat z,c.length=i.size:=(by intro c hc;rw [Gm hc];exact hzl);have hb:(i.bytes:Int)*n≤281474976710656:=by rw [Int.mul_comm];exact hn
 have hlarge:(n<0||decide ((i.bytes:Int)*n>2 ^ 48))=false:=by
  simp only [Hk,decide_eq_false_iff_not];omega
 refine MJ (v:= .slice (some ⟨w.heap.size,0,none⟩) n.toNat n.toNat) (w':=w.alloc (.cells ⟨(List.replicate n.toNat z).flatten⟩ e)) ?_ ?_
 · simp only [execOp,Instr.makeSlice,Fo,Q9 P Ts _ w hu,EZ,hx,hy,asInt,asIntOf,FC,gg P e i _ hi,hwr,hlarge,GP]
   have hc2:(decide (n<0)||decide (n>n))=false:=(by simp only [Hk,decide_eq_false_iff_not];omega);rw [hc2];simp only [EX,if_false,Fo,run_askRoom,EZ,P3 P e i.size w (by simp [NG,hi])];by_cases hnz:n.toNat*i.size=0
   · rw [if_pos hnz]
     have hn0:n.toNat=0:=by
      rcases Nat.mul_eq_zero.1 hnz with h|h
      · exact h
      · omega
     simp only [FC,EZ,newRow,Fo,run_newObj,hn0,HU];have hr0:Array.range 0=#[]:=rfl;rw [hr0,Array.map_empty];rfl
   · rw [if_neg hnz]
     simp only [Fo,eL P e zv _ (by simp [aT,hi,hz]),FC,EZ,newRow,run_newObj]
     have harr:((Array.range (n.toNat*i.size)).map (zv.cells[· % zv.cells.size]!):Array Value)=⟨(List.replicate n.toNat z).flatten⟩:=by
      apply HV;rw [←hfl];simp [hzs,←hzc];intro a _;rw [I4,F5]
     rw [harr];rfl
 · exact h _ _ (aZ w _) (It (eQ w _ e) rfl hl Js) Js

end
end
section

def gI (H:Kk)(b i:Nat):Option Value:=match H[b]? with
 | some (.cells c _ _)=>c[i]?
 | _=>none
theorem rN (w:World)(b i:Nat):w.cell? ⟨b,i,none⟩=gI w.heap b i:=by
 unfold World.cell? gI
 cases w.heap[b]? with
 | none=>rfl
 | some o=>cases o<;>rfl

def At (H:Kk)(b o:Nat)(c:List Value):Prop:=∀(j:Nat) (u:Value),c[j]?=some u→gI H b (o+j)=some u

def Me (H:Kk)(es:Nat)(v:Value)(F:Nat→Prop)(css:List (List Value)):Prop:=
 (∀c∈css,c.length=es)∧∃a cap,v= .slice a css.length cap∧css.length≤cap∧
   (css=[]∨∃b off,a=some ⟨b,off,none⟩∧F b∧b<H.size∧∀(m:Nat) (c:List Value),css[m]?=some c→At H b (off+m*es) c)

theorem At.of_same {H H':Kk}{o:Nat}(h:At H b o c)(he:H'[b]?=H[b]?):At H' b o c:=fun j u hj=>by
 have:=h j u hj;unfold gI at this ⊢;rw [he];exact this
theorem At.cell {o:Nat}(h:At w.heap b o c)(hj:c[j]?=some u):w.cell? ⟨b,o+j,none⟩=some u:=by rw [rN];exact h j u hj
theorem At.cells {o:Nat}(h:At w.heap b o c)(hv:(c.drop j).take n=vs)(hl:vs.length=n):ZL w ⟨b,o+j,none⟩ n vs:=by
 refine ⟨hl,fun i hi=>?_⟩;rw [PH,Gx];have e:vs[i]?=c[j+i]?:=(by rw [←hv,FH hi,GN]);have h1:vs.length=min n (c.length - j):=(by rw [←hv];simp);rw [e,EH Jo];exact h.cell (EH Jo)

theorem Me.of_same {H H':Kk}{v:Value}{F:Nat→Prop}(h:Me H es v F css)(hs:∀b,F b→b<H.size→H'[b]?=H[b]?):Me H' es v F css:=by
 obtain ⟨h0,a,cap,hv,hlc,hc|⟨b,off,ha,hF,hb,hat⟩⟩:=h
 · exact Bj
 · refine ⟨h0,a,cap,hv,hlc, .inr ⟨b,off,ha,hF,?_,fun m c hm=>(hat m c hm).of_same (hs b hF hb)⟩⟩
   have:=hs b hF hb;rcases Gc b H'.size with h|h
   · exact h
   · rw [Gw h,GF hb] at this;cases this
theorem Me.fr {F:Nat→Prop}{v:Value}(h:Me w.heap es v F css)(hf:Fr G w w')(hn:∀b,F b→¬G b):Me w'.heap es v F css:=
 h.of_same fun b hb hlt=>hf.same b hlt (hn b hb)
theorem Me.fr0 {F:Nat→Prop}{v:Value}(h:Me w.heap es v F css)(hf:Fr NF w w'):Me w'.heap es v F css:=h.fr hf fun _ _ h=>h
theorem Me.mono {H:Kk}{F:Nat→Prop}{v:Value}(h:Me H es v F css)(hs:∀b,b<H.size→F b→G b):Me H es v G css:=by
 obtain ⟨h0,a,cap,hv,hlc,hc|⟨b,off,ha,hF,hb,hat⟩⟩:=h
 · exact Bj
 · exact ⟨h0,a,cap,hv,hlc, .inr ⟨b,off,ha,hs b hb hF,hb,hat⟩⟩
abbrev Hn:=@Me.mono
theorem Me.shape {H:Kk}{v:Value}{F:Nat→Prop}(h:Me H es v F css):∃a c,v= .slice a css.length c:=by
 obtain ⟨_,a,cap,hv,_⟩:=h;exact ⟨a,cap,hv⟩

theorem Sl.toR {H:Kk}{v:Value}{F:Nat→Prop}(h:Sl H T es v F css):Me H es v F css:=by
 obtain ⟨h0,⟨hv,hc,_⟩|⟨b,off,cap,arr,hv,g1,g2,g3,g4,g5⟩⟩:=h
 · subst hc;exact ⟨h0,none,0,hv,E7 _, .inl rfl⟩
 · refine ⟨h0,_,cap,hv,g1, .inr ⟨b,off,rfl,(g5 b).2 rfl,g2.lt,fun m c hm j u hu=>?_⟩⟩
   have hm':m<css.length:=(EJ.1 hm).1;have hcl:c.length=es:=h0 c (EI hm);have hj:j<es:=(by have:=(EJ.1 hu).1;omega);have hb:=gG (es:=es) hm';have:=g4 (m*es+j) Jo;rw [kj h0 hm hj,hu] at this;obtain ⟨fz,g2,_⟩:=g2;unfold gI;rw [g2,Gx]
   simpa using this

theorem Me.src {v:Value}{F:Nat→Prop}(h:Me w.heap es v F css)(ho:∀c∈css,∀u∈c,oneC u=true):Te P w es v css:=by
 obtain ⟨h0,a,cap,hv,hlc,hc⟩:=h;subst hv;refine ⟨rfl,h0,ho,?_⟩;intro w' hw';rcases hc with hc|⟨b,off,ha,hF,hb,hat⟩
 · subst hc;cases a<;>simp [Builtin.firstCells,loadCells,loadCellsFrom]
 · subst ha
   simp only [Builtin.firstCells];have hfl:=WQ h0;refine gh _ _ _ ⟨hfl,fun j hj=>?_⟩;rw [PH]
   have hes:0<es:=by
    rcases GL es with h|h
    · subst h;simp at hj
    · exact h
   have hq:j / es<css.length:=Jn (by rw [Iq];exact hj);have hm:j % es<es:=IM _ hes;have hdm:j / es*es+j % es=j:=(by rw [Iq];exact Nat.div_add_mod j es);have hcm:css[j / es]?=some css[j / es]:=EH hq;have e:=kj h0 hcm hm;rw [hdm] at e;have hcl:css[j / es].length=es:=h0 _ (Gk hq);rw [e,EH Jo];have:=((hat _ _ hcm).of_same (hw' b hb)).cell (j:=j % es) (EH Jo);rw [Gx,hdm] at this;exact this

section
variable {P:Program}{l:List GO}{Q:QT}{ρ:Km}{w:World}{es:Nat}{v:Value}{F:Nat→Prop}{css:List (List Value)}

theorem XJ {x:Operand}{o:Nat}(hx:ρ.ev x= .pointer (some ⟨b,o,none⟩))(ha:At w.heap b o c)(hu:c[0]?=some u)
 (h:Q0 P l Q (upd ρ d u) w):Q0 P (⟨none, .load1 d x⟩::l) Q ρ w:=mD hx (by have:=ha.cell hu;simpa using this) h
theorem Tf {x:Operand}{o:Nat}(hx:ρ.ev x= .pointer (some ⟨b,o+j,none⟩))(ha:At w.heap b o c)(hu:c[j]?=some u)
 (h:Q0 P l Q (upd ρ d u) w):Q0 P (⟨none, .load1 d x⟩::l) Q ρ w:=mD hx (ha.cell hu) h
theorem Tg {x:Operand}{o:Nat}(hx:ρ.ev x= .pointer (some ⟨b,o,none⟩))(ha:At w.heap b o c)(hl:c.length=n)
 (h:Q0 P l Q (upd ρ d (.agg ⟨c⟩)) w):Q0 P (⟨none, .loadn d n x⟩::l) Q ρ w:=
 rJ hx (by have:=ha.cells (j:=0) (n:=n) (vs:=c) (by rw [FU,E1 Jo]) hl;simpa using this) h
end


def Fits (P:Program)(T:TypeId){Hd:Type}(y:DataW Hd):Prop:=∀n∈y.weights P T,n≤reachBytes
theorem rO {P:Program}{e:TypeId}{Hd:Type}:∀{l:List (DataW Hd)}{d:DataW Hd},d∈l→∀n∈d.weights P e,n∈DataW.weightsAll P e l
 | [],_,h=>by cases h
 | x::l,d,h=>fun n hn=>by
   rw [DataW.weightsAll,E3];rcases ES.1 h with rfl|h
   · exact .inl hn
   · exact .inr (rO h n hn)
theorem mO {P:Program}{Hd:Type}:∀{ts:List TypeId}{l:List (DataW Hd)}{i:Nat}{t:TypeId}{d:DataW Hd},ts[i]?=some t→l[i]?=some d→∀n∈d.weights P t,n∈DataW.weightsEach P ts l
 | [],_,_,_,_,h,_=>by simp at h
 | _::_,[],_,_,_,_,h=>by simp at h
 | t::ts,x::l,0,_,_,h1,h2=>fun n hn=>by
   simp only [FJ,E0] at h1 h2;subst h1 h2;rw [DataW.weightsEach,E3];exact .inl hn
 | t::ts,x::l,i+1,_,_,h1,h2=>fun n hn=>by
   rw [DataW.weightsEach,E3];exact .inr (mO (i:=i) (by simpa using h1) (by simpa using h2) n hn)
theorem NI {Hd:Type}{ts us:List TypeId}{l m:List (DataW Hd)}{i:Nat}{t:TypeId}{d:DataW Hd}(h:(DataW.weightsEach P (ts++us) (l++m)).all (· ≤reachBytes)=true)(h1:ts[i]?=some t)(h2:l[i]?=some d):Fits P t d:=by
 intro n hn;have h3:(ts++us)[i]?=some t:=(by rw [ER (EJ.1 h1).1];exact h1);have h4:(l++m)[i]?=some d:=(by rw [ER (EJ.1 h2).1];exact h2);have:=FN.1 h n (mO h3 h4 n hn);exact of_decide_eq_true this
theorem rP {e:TypeId}{Hd:Type}{elems spare:List (DataW Hd)}(ht:P.underlying T=some (.slice e))(h:Fits P T (.slice elems spare))(hb:0<P.bytesOf e):elems.length≤140737488355328∧∀d∈elems,Fits P e d:=by
 unfold Fits at h;rw [DataW.weights,ht] at h;refine ⟨?_,fun d hd n hn=>h n (E9 _ (H9 _ (rO hd n hn)))⟩;have h1:=h _ (Fh ..);have h2:elems.length*1≤(elems.length+spare.length)*P.bytesOf e:=Nat.mul_le_mul Jo hb;unfold reachBytes at h1;omega
theorem rQ {Hd:Type}{fs:Array Field}{parts:List (DataW Hd)}(ht:P.underlying T=some (.struct fs))(h:Fits P T (.agg parts)){i:Nat}{f:Field}{d:DataW Hd}(hf:fs[i]?=some f)(hd:parts[i]?=some d):Fits P f.type d:=by
 unfold Fits at h;rw [DataW.weights,ht] at h;exact fun n hn=>h n (mO (i:=i) (by rw [EN,Gb,hf];rfl) hd n hn)
structure Cod (P:Program) (T:TypeId) (α:Type) where
 es:Nat
 rd:Kk→List Value→α→Prop
 size:P.cellsOf T=es
 len:∀H cs x,rd H cs x→cs.length=es
 stay:∀(H H':Kk) cs x,rd H cs x→(∀b,b<H.size→H'[b]?=H[b]?)→rd H' cs x
 open_:∀{Hd:Type}(enc:TypeId×Value→Hd) (w:World) (fuel:Nat) (cs:List Value) (y:DataW Hd×List MemPlace),DataW.trod enc P w 0 (fun _=>true) true fuel T cs=some y→Fits P T y.1→∃x,rd w.heap cs x

def Cod.int {P:Program}{T:TypeId}(k:IntKind)(ht:P.underlying T=some (.int k))(hs:P.cellsOf T=1):Cod P T Int where
 es:=1
 rd:=fun _ cs n=>cs=[.int k n]∧(Lit.int k n).wf=true
 size:=hs
 len:=by rintro _ _ _ ⟨rfl,_⟩;rfl
 stay:=fun _ _ _ _ h _=>h
 open_:=fun enc w fuel cs y h _=>by
  obtain ⟨n,h1,_,h2⟩:=DataW.trod_int ht h;exact ⟨n,h1,h2⟩

def Cod.bool {P:Program}{T:TypeId}(ht:P.underlying T=some .bool)(hs:P.cellsOf T=1):Cod P T Bool where
 es:=1
 rd:=fun _ cs n=>cs=[.bool n]
 size:=hs
 len:=by rintro _ _ _ rfl;rfl
 stay:=fun _ _ _ _ h _=>h
 open_:=fun enc w fuel cs y h _=>by
  obtain ⟨n,h1,_⟩:=DataW.trod_bool ht h;exact ⟨n,h1⟩

theorem kl {a:Addr}(h:w.cells? 0 a n=some cs)(hn:0<n):a.spot=none∧a.block<w.heap.size∧At w.heap a.block a.off cs:=by
 obtain ⟨_,hl,hc⟩:=World.cells?_some h;have h0:=hc 0 hn;have hs:cs[0]?=some (cs[0]' Dc):=EH Jo;rw [hs] at h0;have hadd0:a.add 0=a:=rfl;rw [hadd0] at h0;obtain ⟨b,o,s⟩:=a
 have hsp:s=none:=by
  cases s with
  | none=>rfl
  | some x=>
    unfold World.cell? at h0;split at h0<;>simp at h0
 subst hsp;refine ⟨rfl,?_,fun j u hj=>?_⟩
 · rcases Gc b w.heap.size with h|h
   · exact h
   · unfold World.cell? at h0;simp [Gw h] at h0
 · have hlt:=(EJ.1 hj).1;have:=hc j Jo;rw [PH,hj,rN] at this;exact this

def Cod.slice {P:Program}{T e:TypeId}{α:Type}(c:Cod P e α)(ht:P.underlying T=some (.slice e))(hs:P.cellsOf T=1)(hes:0<c.es)(hby:decide (0<P.bytesOf e)=true):Cod P T (List α) where
 es:=1
 rd:=fun H cs xs=>∃v css,cs=[v]∧Me H c.es v (fun _=>True) css∧css.length=xs.length∧xs.length≤140737488355328∧∀(m:Nat) (x:α),xs[m]?=some x→∃d,css[m]?=some d∧c.rd H d x
 size:=hs
 len:=by rintro _ _ _ ⟨v,css,rfl,_⟩;rfl
 stay:=by
  rintro H H' _ xs ⟨v,css,rfl,h1,h2,h3,h4⟩ hH;exact ⟨v,css,rfl,h1.of_same fun b _ hb=>hH b hb,h2,h3,fun m x hm=>by obtain ⟨d,h5,h6⟩:=h4 m x hm;exact ⟨d,h5,c.stay _ _ _ _ h6 hH⟩⟩
 open_ :=by
  intro Hd enc w fuel cs y h hfit;rcases JF ht h with ⟨rfl,_⟩|⟨a,len,cap,m,n,D,Pl,rfl,_,hl,hm,hmm,hy,hi⟩
  · exact Ch
  · have hmc:m=cap:=by simpa using hmm
    subst hmc;rw [hy] at hfit;obtain ⟨hlen,hel0⟩:=rP ht hfit (of_decide_eq_true hby);simp only [EK,Ha] at hlen
    -- each element
    have hel:∀i,i<len→∃(d:List Value) (x:α),w.cells? 0 (a.add (i*c.es)) c.es=some d∧c.rd w.heap d x:=by
     intro i hi';obtain ⟨d,h1,h2⟩:=hi i Jo;rw [c.size] at h1;obtain ⟨x,hx⟩:=c.open_ enc w n d _ h2 (hel0 _ (Fc.2 ⟨i,Fz.2 hi',rfl⟩));exact ⟨d,x,h1,hx⟩
    have build:∀n,n≤len→∃(css:List (List Value)) (xs:List α),css.length=n∧xs.length=n∧
     ∀m,m<n→∃d x,css[m]?=some d∧xs[m]?=some x∧w.cells? 0 (a.add (m*c.es)) c.es=some d∧c.rd w.heap d x:=by
     intro n
     induction n with
     | zero=>intro _;exact ⟨[],[],rfl,rfl,fun m hm=>absurd hm Jo⟩
     | succ n ih=>
       intro hn;obtain ⟨css,xs,h1,h2,h3⟩:=ih Jo;obtain ⟨d,x,h4,h5⟩:=hel n Jo;refine ⟨css++[d],xs++[x],by simp [h1],by simp [h2],fun m hm=>?_⟩;by_cases hmn:m=n
       · subst hmn;exact ⟨d,x,by rw [EV Jo,h1];simp,by rw [EV Jo,h2];simp,h4,h5⟩
       · obtain ⟨d',x',g1,g2,g3,g4⟩:=h3 m Jo;exact ⟨d',x',by rw [ER Jo];exact g1,by rw [ER Jo];exact g2,g3,g4⟩
    obtain ⟨css,xs,h1,h2,h3⟩:=build len (E7 _);refine ⟨xs, .slice (some a) len m,css,rfl,⟨?_,some a,m,by rw [h1],Jo,?_⟩,Jo,Jo,?_⟩
    · intro d hd;obtain ⟨i,hi'⟩:=Fj.1 hd;have hlt:=(EJ.1 hi').1;obtain ⟨d',x',g1,g2,g3,g4⟩:=h3 i Jo;rw [hi'] at g1;simp only [E0] at g1;subst g1;exact c.len _ _ _ g4
    · rcases GL len with h0|h0
      · exact .inl (Ga Jo)
      · obtain ⟨d0,x0,_,_,g3,_⟩:=h3 0 h0;obtain ⟨hsp,hbl,_⟩:=kl g3 hes;have ha0:a.add (0*c.es)=a:=(by rw [HU];rfl);rw [ha0] at hsp hbl;obtain ⟨b,o,s⟩:=a;simp only at hsp;subst hsp;refine .inr ⟨b,o,rfl,trivial,hbl,fun i d hd=>?_⟩;have hlt:=(EJ.1 hd).1;obtain ⟨d',x',g1,g2,g3,g4⟩:=h3 i Jo;rw [hd] at g1;simp only [E0] at g1;subst g1;rw [PH] at g3;exact (kl g3 hes).2.2
    · intro i x hx;have hlt:=(EJ.1 hx).1;obtain ⟨d',x',g1,g2,g3,g4⟩:=h3 i Jo;rw [hx] at g2;simp only [E0] at g2;subst g2;exact ⟨d',g1,g4⟩

def fieldAt (P:Program)(T:TypeId)(i:Nat):Option (Nat×Nat×TypeId):=match P.underlying T with
 | some (.struct fs)=>(fs[i]?).map fun f=>(f.offset,P.cellsOf f.type,f.type)
 | _=>none

theorem rR {Hd:Type}{enc:TypeId×Value→Hd}{fuel:Nat}{y:DataW Hd×List MemPlace}(h:DataW.trod enc P w 0 (fun _=>true) true fuel T cs=some y)
 {i o s:Nat}{t:TypeId}(hf:fieldAt P T i=some (o,s,t))(hfit:Fits P T y.1):cs.length=P.cellsOf T∧∃n z,DataW.trod enc P w 0 (fun _=>true) true n t ((cs.drop o).take s)=some z∧Fits P t z.1:=by
 unfold fieldAt at hf;split at hf
 · rename_i fs hu
   simp only [Gv,GJ] at hf;obtain ⟨f,hf,rfl,rfl,rfl⟩:=hf;obtain ⟨xs,n,_,hy,hl,hx,hall⟩:=DataW.trod_struct hu h;have:=hall i f hf;have hlt:=(Hz.1 hf).1;refine ⟨hl,n,xs[i]' Dc,?_,?_⟩
   · rw [this,EH Jo]
   · rw [hy] at hfit;exact rQ hu hfit hf Ew
 · cases hf

end
section

theorem Sl.oneC {H:Kk}{v:Value}{F:Nat→Prop}(h:Sl H T es v F css):Go.Lir.oneC v=true:=by
 obtain ⟨a,c,rfl⟩:=h.shape;rfl
theorem Me.oneC {H:Kk}{v:Value}{F:Nat→Prop}(h:Me H es v F css):Go.Lir.oneC v=true:=by
 obtain ⟨a,c,rfl⟩:=h.shape;rfl
abbrev Jp:=@Me.oneC
theorem OG (f:α→β)(l:List α)(d:α)(h:m<l.length):(l.map f)[m]?=some (f (l.getD m d)):=by
 simp [EN,EL,EH h]
theorem Ti {l:List α}{d:α}(h:m<l.length):l[m]?=some (l.getD m d):=by
 simp [EL,EH h]
theorem yd {l:List α}(d:α){i:Nat}(h:i<l.length):l.take (i+1)=l.take i++[l.getD i d]:=by
 rw [GS,EH h,EL,EH h];rfl
theorem Qb {n i:Int}(h:i<n):(n - (i+1)).toNat<(n - i).toNat:=by omega
theorem Tj {l m:List α}(d:α)(h:l.length=m.length)(h2:∀j<l.length,l.getD j d=m.getD j d):l=m:=by
 apply IA h;intro j h3 h4;have:=h2 j h3
 simpa [EL,EH h3,EH h4] using this
theorem eU [DecidableEq α]:∀{a b:List α},a.Nodup→(∀x∈a,x∈b)→a.length≤b.length:=by
 intro a
 induction a with
 | nil=>intro b _ _;simp
 | cons x a ih=>
   intro b hn hs;obtain ⟨h1,h2⟩:=GG.1 hn;have hx:=hs x Js;have:=ih (b:=b.erase x) h2 fun y hy=>(List.mem_erase_of_ne (fun e=>by subst e;exact h1 hy)).2 (hs y (by simp [hy]));rw [IW hx] at this;have hp:=Hb hx;simp only [ET];omega
theorem map_set (f:α→β)(l:List α)(m:Nat)(x:α):(l.map f).set m (f x)=(l.set m x).map f:=by
 simp [F4]
theorem XK (h:Lg w.heap b T [u])(ho:oneC u=true):Te P w 1 (.slice (some ⟨b,0,none⟩) 1 1) [[u]]:=
 (It (css:=[[u]]) h rfl Js rfl).src (by simpa using ho)
theorem XL (h:Lg w.heap b T c)(hn:c.length=n)(ho:∀u∈c,oneC u=true):Te P w n (.slice (some ⟨b,0,none⟩) 1 1) [c]:=
 (It (css:=[c]) h Js (by simpa using hn) rfl).src (by simpa using ho)
def iv:Value→Int
 | .int _ n=>n
 | _=>0
def QG (b:Bool):List Value:=[.bool b]
def KQ (n:Int):List Value:=[.int .i64 n]
theorem Qch {l:List Int}:∀c∈l.map KQ,∀u∈c,oneC u=true:=by
 intro c hc u hu;obtain ⟨n,_,rfl⟩:=Fc.1 hc;simp [KQ] at hu;subst hu;rfl
theorem rT {F:Nat→Prop}(hfr:Fr NF w0 w)(hlow:∀b,F b→w0.heap.size≤b)(hf:Fr F w w'):Fr NF w0 w':=hfr.trans hf (fun b hb hF=>absurd (hlow b hF) Jo)
theorem XM {ρ:Km}{o:Nat}{x:Operand}{v:Value}(hx:ρ.ev x= .pointer (some ⟨b,o,none⟩))(hb:Lg w.heap b T cs)(hv:cs[o]?=some v):MX P ρ w ⟨none, .load1 d x⟩ v:=⟨_,hx,hb.cell hv⟩
theorem Tk {ρ:Km}{o:Nat}{x:Operand}(hx:ρ.ev x= .pointer (some ⟨b,o,none⟩))(hb:Lg w.heap b T cs)(hv:(cs.drop o).take n=vs)(hl:vs.length=n):MX P ρ w ⟨none, .loadn d n x⟩ (.agg ⟨vs⟩):=⟨_,vs,hx,hb.cells hv hl,rfl⟩
theorem XN {ρ:Km}{s:Nat}{b:Bool}{o:LO}{v:Value}(hw:WN (ρ s) b=false)(hv:v=undef):MX P ρ w ⟨some (s,b),o⟩ v:=by simp [MX,hw,hv]
theorem eV {ρ:Km}{s:Nat}{b:Bool}{o:LO}{v:Value}(hw:ρ s= .bool b)(h:MX P ρ w ⟨none,o⟩ v):MX P ρ w ⟨some (s,b),o⟩ v:=by simp only [MX,hw,WN,beq_self_eq_true,if_true];exact h
theorem Fr.after {F:Nat→Prop}(h:Fr F w w')(k:Fr G w' w'')(hs:∀b,b<w.heap.size→G b→F b):Fr F w w'':=h.trans k hs
theorem Fr.then0 {F:Nat→Prop}(h:Fr F w w')(k:Fr NF w' w''):Fr F w w'':=h.trans k fun _ _ h=>h.elim
theorem Fr.into {F:Nat→Prop}(h:Fr G w w')(hs:∀x,G x→F x):Fr F w w':=h.mono fun x _ hx=>hs x hx
structure Step (F F':Nat→Prop) (w w':World):Prop where
 fr:Fr F w w'
 sub:∀b,F' b→F b∨w.heap.size≤b
theorem Step.same {F:Nat→Prop}(h:Fr F w w'):Step F F w w':=⟨h,fun _ h=> .inl h⟩
abbrev IE:=@Step.same
theorem Step.out {F:Nat→Prop}(h:Step F F' w w')(hb:b<w.heap.size)(hn:¬F b):¬F' b:=fun hF=>(h.sub b hF).elim hn (fun hz=>absurd hz Jo)
theorem Step.trans {F F'':Nat→Prop}(h:Step F F' w w')(k:Step F' F'' w' w''):Step F F'' w w'':=
 ⟨h.fr.trans k.fr fun b hb hF=>(h.sub b hF).elim id (fun hz=>absurd hz Jo),fun b hb=>(k.sub b hb).elim (h.sub b) (fun hz=> .inr (F3 h.fr.size hz))⟩
theorem Step.low {F:Nat→Prop}{z:Nat}(h:Step F F' w w')(hl:∀b,F b→z≤b)(hz:z≤w.heap.size):∀b,F' b→z≤b:=fun b hb=>(h.sub b hb).elim (hl b) (fun h=>F3 hz h)
theorem Step.apart {F:Nat→Prop}(h:Step F F' w w')(hd:∀b,F b→¬G b)(hG:∀b,G b→b<w.heap.size):∀b,F' b→¬G b:=fun b hb hg=>(h.sub b hb).elim (fun hF=>hd b hF hg) (fun hz=>absurd (hG b hg) Jo)
structure Objs (A:Kk→(Nat→Prop)→Prop):Prop where
 fr:∀{w w':World}{F G:Nat→Prop},A w.heap F→Fr G w w'→(∀b,F b→¬G b)→A w'.heap F
 lt:∀{H:Kk}{F:Nat→Prop},A H F→∀b,F b→b<H.size
structure Two (w0 w:World) (A B:Kk→(Nat→Prop)→Prop) (F G:Nat→Prop):Prop where
 oa:Objs A
 ob:Objs B
 p:A w.heap F
 q:B w.heap G
 d:∀b,F b→¬G b
 F0:∀b,F b→w0.heap.size≤b
 G0:∀b,G b→w0.heap.size≤b
 fr:Fr NF w0 w
theorem Two.fr0 {A B:Kk→(Nat→Prop)→Prop}{F:Nat→Prop}(h:Two w0 w A B F G)(hf:Fr NF w w'):Two w0 w' A B F G:=
 ⟨h.oa,h.ob,h.oa.fr h.p hf (fun _ _ h=>h),h.ob.fr h.q hf (fun _ _ h=>h),h.d,h.F0,h.G0,h.fr.then0 hf⟩
theorem Two.own {A B:Kk→(Nat→Prop)→Prop}{F:Nat→Prop}{x:Nat}(h:Two w0 w A B F G)(hf:Fr (· =x) w w')(h0:w0.heap.size≤x)(hF:¬F x)(hG:¬G x):Two w0 w' A B F G:=
 ⟨h.oa,h.ob,h.oa.fr h.p hf (fun b hb e=>hF (e ▸ hb)),h.ob.fr h.q hf (fun b hb e=>hG (e ▸ hb)),h.d,h.F0,h.G0,rT h.fr (fun b hb=>by rw [hb];exact h0) hf⟩
theorem Two.sp {A A' B:Kk→(Nat→Prop)→Prop}{F:Nat→Prop}(h:Two w0 w A B F G)(oa:Objs A')(hp:A' w'.heap F')(hs:Step F F' w w'):Two w0 w' A' B F' G:=
 ⟨oa,h.ob,hp,h.ob.fr h.q hs.fr (fun b hb hF=>h.d b hF hb),hs.apart h.d (h.ob.lt h.q),hs.low h.F0 h.fr.size,h.G0,rT h.fr h.F0 hs.fr⟩
theorem mP {l:List α}{i:Nat}{x d:α}(hi:i<l.length):(l.set i x).getD j d=if i=j then x else l.getD j d:=by
 simp only [EL,FD];by_cases h:i=j
 · subst h;simp [hi]
 · simp [h]
theorem mQ:∀{l:List GO}{Q Q':QT}{ρ:Km}{w:World},(∀e ρ w,Q e ρ w→Q' e ρ w)→Q0 P l Q ρ w→Q0 P l Q' ρ w:=by
 intro l
 induction l with
 | nil=>intro Q Q' ρ w h hw;exact h _ _ _ hw
 | cons g l ih=>
   intro Q Q' ρ w h hw;obtain ⟨g,o⟩:=g
   cases g with
   | none=>exact CQ
   | some p=>
     obtain ⟨s,b⟩:=p;simp only [Q0] at hw ⊢;by_cases hs:WN (ρ s) b=true
     · rw [if_pos hs] at hw ⊢;exact CQ
     · rw [if_neg hs] at hw ⊢;exact ih h hw
theorem km {K K':KT}{Q Q':QT}(hk:∀ρ w,K ρ w→K' ρ w)(h:∀e ρ w,Q e ρ w→Q' e ρ w):∀e ρ w,Qh K Q e ρ w→Qh K' Q' e ρ w:=by
 intro e ρ w hq
 cases e with
 | normal=>exact hk _ _ hq
 | _=>exact h _ _ _ hq
theorem LC.wp_mono:∀{c:LC}{Q Q':QT}{ρ:Km}{w:World},(∀e ρ w,Q e ρ w→Q' e ρ w)→c.wp P Q ρ w→c.wp P Q' ρ w:=by
 intro c
 induction c with
 | skip=>intro Q Q' ρ w h hw;exact h _ _ _ hw
 | ops l=>intro Q Q' ρ w h hw;exact mQ h hw
 | draw gs es=>intro Q Q' ρ w h hw;exact fun l hl=>mQ h (hw l hl)
 | seq a b iha ihb=>intro Q Q' ρ w h hw;exact iha (km (fun ρ w hb=>ihb h hb) h) hw
 | cond c a b iha ihb=>
   intro Q Q' ρ w h hw;obtain ⟨t,hc,hw⟩:=hw;refine ⟨t,hc,?_⟩;cases t
   · exact ihb h hw
   · exact iha h hw
 | block id a ih=>
   intro Q Q' ρ w h hw;refine ih ?_ hw;intro e ρ w hq
   cases e with
   | exit id'=>
     simp only [Qd] at hq ⊢;by_cases hs:id'=id
     · rw [if_pos hs] at hq ⊢;exact h _ _ _ hq
     · rw [if_neg hs] at hq ⊢;exact h _ _ _ hq
   | _=>exact h _ _ _ hq
 | loop a ih=>
   intro Q Q' ρ w h hw;obtain ⟨I,μ,h0,hr⟩:=hw;exact ⟨I,μ,h0,fun ρ w hI=>ih (km (fun _ _ hk=>hk) h) (hr ρ w hI)⟩
 | exit id=>intro Q Q' ρ w h hw;exact h _ _ _ hw
 | ret=>intro Q Q' ρ w h hw;exact h _ _ _ hw
 | bad=>intro Q Q' ρ w h hw;exact hw.elim

def MK (es:List (List Nat))(a b:Nat):List (List Nat):=es.set b (a::es.getD b [])
theorem gJ {es:List (List Nat)}{a i:Nat}(h:i≠b):(MK es a b).getD i []=es.getD i []:=by
 simp [MK,EL,G4 h]
theorem ye {es:List (List Nat)}{a:Nat}(h:b<es.length):(MK es a b).getD b []=a::es.getD b []:=by
 simp [MK,EL,h]
theorem rU {es:List (List Nat)}{a:Nat}(hb:b<es.length):∀{l X:List Nat},a∈X→R7 es X l→R7 (MK es a b) X l:=by
 intro l
 induction l with
 | nil=>intro X _ h i hi;exact h i (by simpa [MK] using hi)
 | cons i l ih=>
   intro X ha h;obtain ⟨h1,h2,h3,h4⟩:=h;refine ⟨by simpa [MK] using h1,h2,?_,ih (E9 _ ha) h4⟩;by_cases he:i=b
   · subst he;rw [ye hb];intro e hm
     rcases ES.1 hm with rfl|hm
     · exact ha
     · exact h3 e hm
   · rw [gJ he];exact h3
theorem Sb {es:List (List Nat)}{a:Nat}(ha:a<es.length)(hb:b<es.length)(hab:a≠b):∀{l X:List Nat},a∉X→b∉X→R7 es X l→R7 (MK es a b) X l∨R7 (MK es b a) X l:=by
 intro l
 induction l with
 | nil=>intro X h1 _ h;exact absurd (h a ha) h1
 | cons i l ih=>
   intro X hA hB h;obtain ⟨h1,h2,h3,h4⟩:=h;by_cases hia:i=a
   · subst hia;exact .inl ⟨by simpa [MK] using h1,h2,by rw [gJ hab];exact h3,rU hb Js h4⟩
   · by_cases hib:i=b
     · subst hib;exact .inr ⟨by simpa [MK] using h1,h2,by rw [gJ (G4 hab)];exact h3,rU ha Js h4⟩
     · rcases ih (X:=i::X) (by simp [G4 hia,hA]) (by simp [G4 hib,hB]) h4 with h|h
       · exact .inl ⟨by simpa [MK] using h1,h2,by rw [gJ hib];exact h3,h⟩
       · exact .inr ⟨by simpa [MK] using h1,h2,by rw [gJ hia];exact h3,h⟩

section
variable {P:Program}{l:List GO}{Q:QT}{ρ:Km}{w:World}
theorem P5 {gs:List GO}{es:List (List Nat)}(a b:Nat)(hab:(decide (a<es.length) && decide (b<es.length) && !(a==b))=true)(h1:(LC.draw gs (MK es a b)).wp P Q ρ w)(h2:(LC.draw gs (MK es b a)).wp P Q ρ w):(LC.draw gs es).wp P Q ρ w:=by
 simp only [EW,decide_eq_true_eq,Ge,beq_eq_false_iff_ne,ne_eq] at hab;intro l hl;rcases Sb hab.1.1 hab.1.2 hab.2 Js Js hl with h|h
 · exact h1 l h
 · exact h2 l h
theorem yf (k:Nat){e:TypeId}{a:Option Addr}{c:Nat}(ht:P.underlying T=some (.slice e)):(Op.equalIn (k+1) T (.slice a n c) (.slice none 0 0)).run P w0= .ok a.isNone w0:=by
 simp only [Op.equalIn,Fo,Q9 P T _ w0 ht,EZ];cases a<;>simp [FC]
theorem yh {e:TypeId}{a:Option Addr}{c:Nat}(ht:P.underlying T=some (.slice e)):(Op.equal T (.slice a n c) (.slice none 0 0)).run P w0= .ok a.isNone w0:=yf 9999 ht
theorem kn {e:TypeId}{x y:Operand}{a:Option Addr}{c:Nat}(ht:P.underlying T=some (.slice e))(hx:ρ.ev x= .slice a n c)(hy:ρ.ev y= .slice none 0 0)
 (h:Q0 P l Q (upd ρ d (.bool a.isNone)) w):Q0 P (⟨none, .bin d .eql T x y⟩::l) Q ρ w:=
 ⟨_,fun w0=>by
   rw [hx,hy];simp [eqGuard,binOp,yh ht],h⟩
theorem rV {Ty e:Nat}{z:List Value}(hel:NH P Ts=some (e,es,nb,z))
 (h:∀v' w',Fr NF w w'→Sl w'.heap e es v' (· =w.heap.size) []→w'.heap.size=w.heap.size+1→Q0 P l Q (upd ρ d v') w'):
 Q0 P (⟨none, .raw ⟨some d, .buildSlice Ts 0 #[], Ty, "", #[], none⟩⟩ :: l) Q ρ w := by
 obtain ⟨i,zv,hu,hi,hz,rfl,rfl,hzc,hes,hnb,hzl⟩:=mM hel;refine MJ (v:= .slice (some ⟨w.heap.size,0,none⟩) 0 0) (w':=w.alloc (.cells ⟨[]⟩ e)) ?_ ?_
 · simp only [execOp,Instr.buildSlice,Fo,Q9 P Ts _ w hu,EZ,P3 P e i.size w (by simp [NG,hi])];simp [Instr.fill,newRow];have hr0:Array.range 0=#[]:=rfl;rw [hr0,Array.map_empty]
 · exact h _ _ (aZ w _) (It (css:=[]) (eQ w [] e) rfl Js rfl) Js
theorem ZT {a b:LC}(J:Km→World→Prop)(ha:a.wp P (Qh J Q) ρ w)(hb:∀ρ w,J ρ w→b.wp P Q ρ w):(LC.seq a b).wp P Q ρ w:=
 Qu (LC.wp_mono (km hb fun _ _ _ h=>h) ha)
theorem bB {x:Operand}(hx:ρ.ev x= .pointer (some ⟨b,0,none⟩))(h:Q0 P l Q (upd ρ d (.pointer (some ⟨b,off,none⟩))) w):Q0 P (⟨none, .fld d x off⟩::l) Q ρ w:=
 ZO hx (by rw [F7];exact h)
theorem bC {x:Operand}{v:Value}(hx:ρ.ev x=v)(hc:v.cells=⟨cs⟩)(h:∀b w',b=w.heap.size→Fr NF w w'→w'.heap.size=w.heap.size+1→Lg w'.heap b T cs→Q0 P l Q (upd ρ d (.pointer (some ⟨b,0,none⟩))) w'):
 Q0 P (⟨none, .box d T x⟩::l) Q ρ w:=gw (by rw [hx];exact hc) h
theorem XO {m:Nat}{x i:Operand}{v:Value}{F:Nat→Prop}(hx:ρ.ev x=v)(hi:ρ.ev i= .int k (m:Int))(hs:Sl w.heap T es v F css)(h1:m<css.length)
 (h:∀b o,El w.heap T es v F css m b o→Q0 P l Q (upd ρ d (.pointer (some ⟨b,o,none⟩))) w):Q0 P (⟨none, .idx d es x i⟩::l) Q ρ w:=Tb hx hi hs Jo Jo h
theorem Tl {z:List Value}(hf:Ng z []=some cs)(h:Q0 P l Q (upd ρ d (.agg ⟨cs⟩)) w):
 Q0 P (⟨none, .build d z []⟩::l) Q ρ w:=by
 exact bq hf h
theorem Tm {z:List Value}(h0:ρ.ev x0=v0)(hf:Ng z [(o0,n0,v0)]=some cs)(h:Q0 P l Q (upd ρ d (.agg ⟨cs⟩)) w):
 Q0 P (⟨none, .build d z [(o0,n0,x0)]⟩::l) Q ρ w:=by
 subst h0;exact bq hf h
theorem Tn {z:List Value}(h0:ρ.ev x0=v0)(hf:Ng z [(o0,n0,v0)]=some cs)
 (h:∀b w',b=w.heap.size→Fr NF w w'→w'.heap.size=w.heap.size+1→Lg w'.heap b T cs→Q0 P l Q (upd ρ d (.slice (some ⟨b,0,none⟩) n n)) w'):
 Q0 P (⟨none, .buildS d T n z [(o0,n0,x0)]⟩::l) Q ρ w:=by
 subst h0;exact mE hf h
theorem rW {z:List Value}(h0:ρ.ev x0=v0)(h1:ρ.ev x1=v1)(hf:Ng z [(o0,n0,v0),(o1,n1,v1)]=some cs)(h:Q0 P l Q (upd ρ d (.agg ⟨cs⟩)) w):
 Q0 P (⟨none, .build d z [(o0,n0,x0),(o1,n1,x1)]⟩::l) Q ρ w:=by
 subst h0 h1;exact bq hf h
theorem ko {z:List Value}(h0:ρ.ev x0=v0)(h1:ρ.ev x1=v1)(hf:Ng z [(o0,n0,v0),(o1,n1,v1)]=some cs)
 (h:∀b w',b=w.heap.size→Fr NF w w'→w'.heap.size=w.heap.size+1→Lg w'.heap b T cs→Q0 P l Q (upd ρ d (.slice (some ⟨b,0,none⟩) n n)) w'):
 Q0 P (⟨none, .buildS d T n z [(o0,n0,x0),(o1,n1,x1)]⟩::l) Q ρ w:=by
 subst h0 h1;exact mE hf h
theorem Tp {z:List Value}(h0:ρ.ev x0=v0)(h1:ρ.ev x1=v1)(h2:ρ.ev x2=v2)(hf:Ng z [(o0,n0,v0),(o1,n1,v1),(o2,n2,v2)]=some cs)(h:Q0 P l Q (upd ρ d (.agg ⟨cs⟩)) w):
 Q0 P (⟨none, .build d z [(o0,n0,x0),(o1,n1,x1),(o2,n2,x2)]⟩::l) Q ρ w:=by
 subst h0 h1 h2;exact bq hf h
theorem yi {z:List Value}(h0:ρ.ev x0=v0)(h1:ρ.ev x1=v1)(h2:ρ.ev x2=v2)(hf:Ng z [(o0,n0,v0),(o1,n1,v1),(o2,n2,v2)]=some cs)
 (h:∀b w',b=w.heap.size→Fr NF w w'→w'.heap.size=w.heap.size+1→Lg w'.heap b T cs→Q0 P l Q (upd ρ d (.slice (some ⟨b,0,none⟩) n n)) w'):
 Q0 P (⟨none, .buildS d T n z [(o0,n0,x0),(o1,n1,x1),(o2,n2,x2)]⟩::l) Q ρ w:=by
 subst h0 h1 h2;exact mE hf h
theorem Tq {z:List Value}(h0:ρ.ev x0=v0)(h1:ρ.ev x1=v1)(h2:ρ.ev x2=v2)(h3:ρ.ev x3=v3)(hf:Ng z [(o0,n0,v0),(o1,n1,v1),(o2,n2,v2),(o3,n3,v3)]=some cs)(h:Q0 P l Q (upd ρ d (.agg ⟨cs⟩)) w):
 Q0 P (⟨none, .build d z [(o0,n0,x0),(o1,n1,x1),(o2,n2,x2),(o3,n3,x3)]⟩::l) Q ρ w:=by
 subst h0 h1 h2 h3;exact bq hf h
theorem Tu {z:List Value}{o4 n4:Nat}{x4:Operand}{v4:Value}(h0:ρ.ev x0=v0)(h1:ρ.ev x1=v1)(h2:ρ.ev x2=v2)(h3:ρ.ev x3=v3)(h4:ρ.ev x4=v4)(hf:Ng z [(o0,n0,v0),(o1,n1,v1),(o2,n2,v2),(o3,n3,v3),(o4,n4,v4)]=some cs)(h:Q0 P l Q (upd ρ d (.agg ⟨cs⟩)) w):
 Q0 P (⟨none, .build d z [(o0,n0,x0),(o1,n1,x1),(o2,n2,x2),(o3,n3,x3),(o4,n4,x4)]⟩::l) Q ρ w:=by
 subst h0 h1 h2 h3 h4;exact bq hf h
theorem yj {z:List Value}{o4 n4 o5 n5 o6 n6 o7 n7 o8 n8 o9 n9 o10 n10 o11 n11 o12 n12 o13 n13 o14 n14:Nat}{x4 x5 x6 x7 x8 x9 x10 x11 x12 x13 x14:Operand}{v4 v5 v6 v7 v8 v9 v10 v11 v12 v13 v14:Value}(h0:ρ.ev x0=v0)(h1:ρ.ev x1=v1)(h2:ρ.ev x2=v2)(h3:ρ.ev x3=v3)(h4:ρ.ev x4=v4)(h5:ρ.ev x5=v5)(h6:ρ.ev x6=v6)(h7:ρ.ev x7=v7)(h8:ρ.ev x8=v8)(h9:ρ.ev x9=v9)(h10:ρ.ev x10=v10)(h11:ρ.ev x11=v11)(h12:ρ.ev x12=v12)(h13:ρ.ev x13=v13)(h14:ρ.ev x14=v14)(hf:Ng z [(o0,n0,v0),(o1,n1,v1),(o2,n2,v2),(o3,n3,v3),(o4,n4,v4),(o5,n5,v5),(o6,n6,v6),(o7,n7,v7),(o8,n8,v8),(o9,n9,v9),(o10,n10,v10),(o11,n11,v11),(o12,n12,v12),(o13,n13,v13),(o14,n14,v14)]=some cs)(h:Q0 P l Q (upd ρ d (.agg ⟨cs⟩)) w):
 Q0 P (⟨none, .build d z [(o0,n0,x0),(o1,n1,x1),(o2,n2,x2),(o3,n3,x3),(o4,n4,x4),(o5,n5,x5),(o6,n6,x6),(o7,n7,x7),(o8,n8,x8),(o9,n9,x9),(o10,n10,x10),(o11,n11,x11),(o12,n12,x12),(o13,n13,x13),(o14,n14,x14)]⟩::l) Q ρ w:=by
 subst h0 h1 h2 h3 h4 h5 h6 h7 h8 h9 h10 h11 h12 h13 h14;exact bq hf h
end


theorem gK {l:List α}(h:l.length=1):∃a,l=[a]:=by
 match l,h with
 | [a],_=>exact ⟨a,rfl⟩
end
section
section
variable {P:Program}{T t0 t1 t2 t3 t4:TypeId}{α β γ δ ε:Type}{o0 s0 o1 s1 o2 s2 o3 s3 o4 s4:Nat}
end
end
section

structure Res where
 A:Kk→(Nat→Prop)→Prop
 loc:∀{H H':Kk}{F:Nat→Prop},A H F→(∀b,F b→b<H.size→H'[b]?=H[b]?)→A H' F
 lt:∀{H:Kk}{F:Nat→Prop},A H F→∀b,F b→b<H.size
 ext:∀{H:Kk}{F G:Nat→Prop},A H F→(∀b,F b↔G b)→A H G

def emp:Res:=⟨fun _ F=>∀b,¬F b,fun h _=>h,fun h b hb=>absurd hb (h b),fun h e b hb=>h b ((e b).2 hb)⟩
def star (r s:Res):Res where
 A H F:=∃F1 F2,r.A H F1∧s.A H F2∧(∀b,F1 b→¬F2 b)∧∀b,F b↔F1 b∨F2 b
 loc:=by
  rintro H H' F ⟨F1,F2,h1,h2,h3,h4⟩ h;exact ⟨F1,F2,r.loc h1 fun b hb=>h b ((h4 b).2 (.inl hb)),s.loc h2 fun b hb=>h b ((h4 b).2 (.inr hb)),h3,h4⟩
 lt:=by
  rintro H F ⟨F1,F2,h1,h2,h3,h4⟩ b hb;exact ((h4 b).1 hb).elim (r.lt h1 b) (s.lt h2 b)
 ext:=by
  rintro H F G ⟨F1,F2,h1,h2,h3,h4⟩ h;exact ⟨F1,F2,h1,h2,h3,fun b=>(h b).symm.trans (h4 b)⟩
def Res.ex {α:Type}(f:α→Res):Res where
 A H F:=∃x,(f x).A H F
 loc:=by rintro H H' F ⟨x,h⟩ h';exact ⟨x,(f x).loc h h'⟩
 lt:=by rintro H F ⟨x,h⟩ b hb;exact (f x).lt h b hb
 ext:=by rintro H F G ⟨x,h⟩ h';exact ⟨x,(f x).ext h h'⟩
def Res.pure (p:Prop)(r:Res):Res where
 A H F:=p∧r.A H F
 loc:=by rintro H H' F ⟨x,h⟩ h';exact ⟨x,r.loc h h'⟩
 lt:=by rintro H F ⟨x,h⟩ b hb;exact r.lt h b hb
 ext:=by rintro H F G ⟨x,h⟩ h';exact ⟨x,r.ext h h'⟩
def blk (b:Nat)(T:TypeId)(cs:List Value):Res where
 A H F:=Lg H b T cs∧∀x,F x↔x=b
 loc:=by rintro H H' F ⟨h,hf⟩ h';exact ⟨h.of_same (h' b ((hf b).2 rfl) h.lt),hf⟩
 lt:=by rintro H F ⟨h,hf⟩ x hx;rw [(hf x).1 hx];exact h.lt
 ext:=by rintro H F G ⟨h,hf⟩ h';exact ⟨h,fun x=>(h' x).symm.trans (hf x)⟩
theorem Sl.ext {H:Kk}{v:Value}{F:Nat→Prop}(h:Sl H T es v F css)(he:∀b,F b↔G b):Sl H T es v G css:=by
 obtain ⟨h0,⟨h1,h2,h3⟩|⟨b,off,cap,arr,h1,h2,hb,h3,h4,hf⟩⟩:=h
 · exact ⟨h0, .inl ⟨h1,h2,fun b hb=>h3 b ((he b).2 hb)⟩⟩
 · exact ⟨h0, .inr ⟨b,off,cap,arr,h1,h2,hb,h3,h4,fun x=>(he x).symm.trans (hf x)⟩⟩
def sl (T:TypeId)(es:Nat)(v:Value)(css:List (List Value)):Res where
 A H F:=Sl H T es v F css
 loc h h':=h.of_same h'
 lt h:=h.lt
 ext h h':=h.ext h'

def P6:List Res→Res
 | []=>emp
 | r::L=>star r (P6 L)

theorem yk {r s t:Res}{H:Kk}{F:Nat→Prop}(h:(star r (star s t)).A H F):(star s (star r t)).A H F:=by
 obtain ⟨F1,F2,h1,⟨G1,G2,g1,g2,g3,g4⟩,h3,h4⟩:=h;refine ⟨G1,fun b=>F1 b∨G2 b,g1,⟨F1,G2,h1,g2,fun b hb hg=>h3 b hb ((g4 b).2 (.inr hg)),fun b=>GV⟩,?_,?_⟩
 · rintro b hb (h|h)
   · exact h3 b h ((g4 b).2 (.inl hb))
   · exact g3 b hb h
 · intro b;rw [h4 b,g4 b]
   constructor
   · rintro (h|h|h);exact .inr (.inl h);exact .inl h;exact .inr (.inr h)
   · rintro (h|h|h);exact .inr (.inl h);exact .inl h;exact .inr (.inr h)
theorem yl {L L':List Res}(hp:L.Perm L'):∀{H:Kk}{F:Nat→Prop},(P6 L).A H F→(P6 L').A H F:=by
 induction hp with
 | nil=>intro H F h;exact h
 | cons r _ ih=>rintro H F ⟨F1,F2,h1,h2,h3,h4⟩;exact ⟨F1,F2,h1,ih h2,h3,h4⟩
 | swap r s t=>intro H F h;exact yk h
 | trans _ _ ih1 ih2=>intro H F h;exact ih2 (ih1 h)

structure Cx where
 base:World
 K:Nat→Prop
 H0:Kk

structure Cx.Ok (c:Cx) (w:World):Prop where
 os:w.os=c.base.os
 tape:w.tape=c.base.tape
 output:w.output=c.base.output
 size:c.H0.size≤w.heap.size
 lt:∀b,c.K b→b<c.H0.size
 same:∀b,c.K b→w.heap[b]?=c.H0[b]?

def St (c:Cx)(w:World)(L:List Res):Prop:=c.Ok w∧∃F,(P6 L).A w.heap F∧∀b,F b→¬c.K b

structure Cx.Le (c c':Cx):Prop where
 base:c'.base=c.base
 K:∀b,c.K b→c'.K b∧c'.H0[b]?=c.H0[b]?
 size:c.H0.size≤c'.H0.size
 lt:∀b,c.K b→b<c.H0.size
theorem Cx.Ok.refl {c:Cx}(h:c.Ok w):c.Le c:=⟨rfl,fun _ hb=>⟨hb,rfl⟩,E7 _,h.lt⟩
theorem St.refl {c:Cx}{L:List Res}(h:St c w L):c.Le c:=h.1.refl
abbrev Fq:=@St.refl
theorem Cx.Le.trans {c c' c'':Cx}(h:c.Le c')(k:c'.Le c''):c.Le c'':=
 ⟨k.base.trans h.base,fun b hb=>⟨(k.K b (h.K b hb).1).1,(k.K b (h.K b hb).1).2.trans (h.K b hb).2⟩,F3 h.size k.size,h.lt⟩
theorem St.weak {c c':Cx}{L:List Res}(h:St c' w L)(hle:c.Le c'):St c w L:=by
 obtain ⟨ok,F,hF,hd⟩:=h;exact ⟨⟨by rw [ok.os,hle.base],by rw [ok.tape,hle.base],by rw [ok.output,hle.base],F3 hle.size ok.size,hle.lt,fun b hb=>(ok.same b (hle.K b hb).1).trans (hle.K b hb).2⟩,F,hF,fun b hb hk=>hd b hb (hle.K b hk).1⟩

abbrev Gi:=@St.weak
theorem St.perm {c:Cx}{L L':List Res}(h:St c w L)(hp:L.Perm L'):St c w L':=by
 obtain ⟨ok,F,hF,hd⟩:=h;exact ⟨ok,F,yl hp hF,hd⟩
theorem St.drop {c:Cx}{r:Res}{L:List Res}(h:St c w (r::L)):St c w L:=by
 obtain ⟨ok,F,⟨F1,F2,h1,h2,h3,h4⟩,hd⟩:=h;exact ⟨ok,F2,h2,fun b hb=>hd b ((h4 b).2 (.inr hb))⟩
theorem St.dropL {c:Cx}{M L:List Res}(h:St c w (M++L)):St c w L:=by
 induction M with
 | nil=>exact h
 | cons r M ih=>exact ih h.drop

def nth:List Res→Nat→Option Res
 | [],_=>none
 | r::_,0=>some r
 | _::L,i+1=>nth L i
theorem SE:∀{L:List Res}{i:Nat}{r:Res},nth L i=some r→L.Perm (r::L.eraseIdx i)
 | [],_,_,h=>by cases h
 | s::L,0,r,h=>by simp only [nth,E0] at h;subst h;exact .refl _
 | s::L,i+1,r,h=>by
   have:=SE (L:=L) (i:=i) h;exact (this.cons s).trans (.swap _ _ _)
theorem gM:∀{L:List Res}{i:Nat}{r r':Res},nth L i=some r→(r'::L.eraseIdx i).Perm (L.set i r')
 | [],_,_,_,h=>by cases h
 | s::L,0,r,r',h=> .refl _
 | s::L,i+1,r,r',h=>(List.Perm.swap _ _ _).trans ((gM (L:=L) (i:=i) h).cons s)
section
variable {a b c d e f g h i j k m:Res}{L:List Res}
theorem KG:nth (a::L) 0=some a:=rfl
theorem OH:nth (a::b::L) 1=some b:=rfl
theorem Pn:nth (a::b::c::L) 2=some c:=rfl
end
inductive NthP:List Res→Nat→Res→Prop where
 | z {r:Res}{L:List Res}:NthP (r::L) 0 r
 | s {a r:Res}{L:List Res}{i:Nat}:NthP L i r→NthP (a::L) (i+1) r
theorem NthP.nth {L:List Res}{i:Nat}{r:Res}(h:NthP L i r):nth L i=some r:=by
 induction h with
 | z=>rfl
 | s _ ih=>exact ih
abbrev Gh:=@NthP.nth
inductive Pick:List Res→Res→List Res→Prop where
 | z {r:Res}{L:List Res}:Pick (r::L) r L
 | s {a r:Res}{L L':List Res}:Pick L r L'→Pick (a::L) r (a::L')
theorem Pick.perm {L L':List Res}{r:Res}(h:Pick L r L'):L.Perm (r::L'):=by
 induction h with
 | z=>exact .refl _
 | s _ ih=>exact (ih.cons _).trans (.swap _ _ _)
inductive SubP:List Res→List Res→Prop where
 | same {L:List Res}:SubP L L
 | nil {L:List Res}:SubP [] L
 | take {r:Res}{M L L':List Res}:Pick L r L'→SubP M L'→SubP (r::M) L
 | cut {a:Res}{M L:List Res}:SubP M L→SubP M (a::L)
section
variable {a b c d e f g h i j k m:Res}{L:List Res}{C:Cx}{w:World}
theorem St.mv1 (h:St C w (a::b::L)):St C w (b::a::L):=h.perm (SE (i:=1) rfl)
abbrev I7:=@St.mv1
theorem St.mv2 (h:St C w (a::b::c::L)):St C w (c::a::b::L):=h.perm (SE (i:=2) rfl)
theorem St.mv3 (h:St C w (a::b::c::d::L)):St C w (d::a::b::c::L):=h.perm (SE (i:=3) rfl)
theorem St.mv4 (h:St C w (a::b::c::d::e::L)):St C w (e::a::b::c::d::L):=h.perm (SE (i:=4) rfl)
theorem St.mv5 (h:St C w (a::b::c::d::e::f::L)):St C w (f::a::b::c::d::e::L):=h.perm (SE (i:=5) rfl)
end
def Nm (L' L:List Res):Prop:=∃M,L.Perm (L'++M)
theorem St.sub {c:Cx}{L L':List Res}(h:St c w L)(hs:Nm L' L):St c w L':=by
 obtain ⟨M,hp⟩:=hs;exact ((h.perm hp).perm H5).dropL
theorem SubP.sub {L L':List Res}(h:SubP L' L):∃M,L.Perm (L'++M):=by
 induction h with
 | same=>exact ⟨[],by rw [FA]⟩
 | nil=>exact ⟨_, .refl _⟩
 | take hp _ ih=>obtain ⟨M,hm⟩:=ih;exact ⟨M,hp.perm.trans (hm.cons _)⟩
 | cut _ ih=>obtain ⟨M,hm⟩:=ih;exact ⟨_::M,(hm.cons _).trans G5.symm⟩
theorem St.subP {c:Cx}{L L':List Res}(h:St c w L)(hs:SubP L' L):St c w L':=h.sub hs.sub
theorem Nm.same (L:List Res):Nm L L:=⟨[],by rw [FA]⟩
theorem Nm.nil (L:List Res):Nm [] L:=⟨L, .refl _⟩
theorem Nm.cut {r:Res}{L' L:List Res}(h:Nm L' L):Nm L' (r::L):=by
 obtain ⟨M,hp⟩:=h;exact ⟨r::M,(hp.cons r).trans G5.symm⟩
theorem Nm.take {L' L:List Res}(i:Nat){r:Res}(hi:nth L i=some r)(h:Nm L' (L.eraseIdx i)):Nm (r::L') L:=by
 obtain ⟨M,hp⟩:=h;exact ⟨M,(SE hi).trans (hp.cons r)⟩
section
variable {a b c d e f g h i j k m r:Res}{L L':List Res}
theorem Nm.t0 (H:Nm L' L):Nm (r::L') (r::L):= .take 0 rfl H
theorem Nm.t1 (H:Nm L' (a::L)):Nm (r::L') (a::r::L):= .take 1 rfl H
theorem Nm.t2 (H:Nm L' (a::b::L)):Nm (r::L') (a::b::r::L):= .take 2 rfl H
theorem Nm.t3 (H:Nm L' (a::b::c::L)):Nm (r::L') (a::b::c::r::L):= .take 3 rfl H
theorem Nm.t4 (H:Nm L' (a::b::c::d::L)):Nm (r::L') (a::b::c::d::r::L):= .take 4 rfl H
end

section
variable {c c':Cx}{w w':World}{L:List Res}
theorem St.ok (h:St c w L):c.Ok w:=h.1
theorem St.step {i:Nat}{r:Res}(h:St c w L)(hi:nth L i=some r):∃F,r.A w.heap F∧(∀b,F b→¬c.K b)∧∀w' F' r',r'.A w'.heap F'→Step F F' w w'→St c w' (L.set i r'):=by
 obtain ⟨ok,F,⟨F1,F2,h1,h2,h3,h4⟩,hd⟩:=h.perm (SE hi);refine ⟨F1,h1,fun b hb=>hd b ((h4 b).2 (.inl hb)),fun w' F' r' hr hs=>St.perm ?_ (gM hi)⟩;have hf:=hs.fr;refine ⟨⟨hf.os.trans ok.os,hf.tape.trans ok.tape,hf.output.trans ok.output,F3 ok.size hf.size,ok.lt,fun b hb=>?_⟩,fun b=>F' b∨F2 b,⟨F',F2,hr,?_,?_,fun b=>GV⟩,?_⟩
 · exact (hf.same b (GM (ok.lt b hb) ok.size) fun hF=>hd b ((h4 b).2 (.inl hF)) hb).trans (ok.same b hb)
 · exact (P6 _).loc h2 fun b hb hlt=>hf.same b hlt fun hF=>h3 b hF hb
 · intro b hb hb2;exact (hs.sub b hb).elim (fun h=>h3 b h hb2) (fun h=>absurd ((P6 _).lt h2 b hb2) Jo)
 · rintro b (hb|hb) hk
   · exact (hs.sub b hb).elim (fun h=>hd b ((h4 b).2 (.inl h)) hk) (fun h=>absurd (ok.lt b hk) (by have:=ok.size;omega))
   · exact hd b ((h4 b).2 (.inr hb)) hk
theorem St.fr0 (h:St c w L)(hf:Fr NF w w'):St c w' L:=by
 obtain ⟨ok,F,hF,hd⟩:=h;exact ⟨⟨hf.os.trans ok.os,hf.tape.trans ok.tape,hf.output.trans ok.output,F3 ok.size hf.size,ok.lt,fun b hb=>(hf.same b (GM (ok.lt b hb) ok.size) fun h=>h).trans (ok.same b hb)⟩,F,(P6 _).loc hF fun b _ hlt=>hf.same b hlt fun h=>h,hd⟩
theorem St.new {r:Res}(h:St c w L)(hr:r.A w'.heap F')(hf:Fr NF w w')(hn:∀b,F' b→w.heap.size≤b):St c w' (r::L):=by
 obtain ⟨ok,F,hF,hd⟩:=h;refine ⟨(St.fr0 ⟨ok,F,hF,hd⟩ hf).1,fun b=>F' b∨F b,⟨F',F,hr,(P6 _).loc hF fun b _ hlt=>hf.same b hlt fun h=>h,fun b hb hb2=>absurd ((P6 _).lt hF b hb2) (by have:=hn b hb;omega),fun b=>GV⟩,?_⟩;rintro b (hb|hb) hk
 · exact absurd (ok.lt b hk) (by have:=ok.size;have:=hn b hb;omega)
 · exact hd b hb hk
theorem St.emp {r:Res}(h:St c w L)(hr:r.A w.heap NF):St c w (r::L):=h.new hr (Ig _ _) fun _ h=>h.elim
theorem St.nil (h:St c w L):St c w (sl T es (.slice none 0 0) []::L):=h.emp (Sl.nil _ _ _)
abbrev HM:=@St.nil
theorem St.drew (h:St c w L):St c w.drew L:=h.fr0 (Fr.drew' (Ig _ _))
theorem St.res {i:Nat}{r:Res}(h:St c w L)(hi:nth L i=some r):∃F,r.A w.heap F:=by
 obtain ⟨F,h1,_⟩:=h.step hi;exact ⟨F,h1⟩
theorem St.freeze {r:Res}(h:St c w (r::L)):∃c' F,c.Le c'∧St c' w L∧r.A c'.H0 F∧∀b,F b→c'.K b:=by
 obtain ⟨ok,F,⟨F1,F2,h1,h2,h3,h4⟩,hd⟩:=h;refine ⟨⟨c.base,fun b=>c.K b∨F1 b,w.heap⟩,F1,⟨rfl,fun b hb=>⟨.inl hb,ok.same b hb⟩,ok.size,ok.lt⟩,⟨⟨ok.os,ok.tape,ok.output,E7 _,fun b hb=>hb.elim (fun hb=>GM (ok.lt b hb) ok.size) (r.lt h1 b),fun b _=>rfl⟩,F2,h2,?_⟩,h1,fun b hb=> .inr hb⟩;rintro b hb (hk|hk)
 · exact hd b ((h4 b).2 (.inr hb)) hk
 · exact h3 b hk hb
theorem St.ex {f:α→Res}(h:St c w (Res.ex f::L)):∃x,St c w (f x::L):=by
 obtain ⟨ok,F,⟨F1,F2,⟨x,h1⟩,h2,h3,h4⟩,hd⟩:=h;exact ⟨x,ok,F,⟨F1,F2,h1,h2,h3,h4⟩,hd⟩
theorem St.ex' {f:α→Res}(x:α)(h:St c w (f x::L)):St c w (Res.ex f::L):=by
 obtain ⟨ok,F,⟨F1,F2,h1,h2,h3,h4⟩,hd⟩:=h;exact ⟨ok,F,⟨F1,F2,⟨x,h1⟩,h2,h3,h4⟩,hd⟩
theorem St.pure {p:Prop}{r:Res}(h:St c w (Res.pure p r::L)):p∧St c w (r::L):=by
 obtain ⟨ok,F,⟨F1,F2,⟨x,h1⟩,h2,h3,h4⟩,hd⟩:=h;exact ⟨x,ok,F,⟨F1,F2,h1,h2,h3,h4⟩,hd⟩
theorem St.pure' {r:Res}(x:p)(h:St c w (r::L)):St c w (Res.pure p r::L):=by
 obtain ⟨ok,F,⟨F1,F2,h1,h2,h3,h4⟩,hd⟩:=h;exact ⟨ok,F,⟨F1,F2,⟨x,h1⟩,h2,h3,h4⟩,hd⟩
theorem ym {r s t:Res}{H:Kk}{F:Nat→Prop}(h:(star (star r s) t).A H F):(star r (star s t)).A H F:=by
 obtain ⟨F1,F2,⟨G1,G2,g1,g2,g3,g4⟩,h2,h3,h4⟩:=h;refine ⟨G1,fun b=>G2 b∨F2 b,g1,⟨G2,F2,g2,h2,fun b hb=>h3 b ((g4 b).2 (.inr hb)),fun b=>GV⟩,?_,fun b=>?_⟩
 · rintro b hb (h|h)
   · exact g3 b hb h
   · exact h3 b ((g4 b).2 (.inl hb)) h
 · rw [h4 b,g4 b,or_assoc]
theorem yq {r s t:Res}{H:Kk}{F:Nat→Prop}(h:(star r (star s t)).A H F):(star (star r s) t).A H F:=by
 obtain ⟨F1,F2,h1,⟨G1,G2,g1,g2,g3,g4⟩,h3,h4⟩:=h;refine ⟨fun b=>F1 b∨G1 b,G2,⟨F1,G1,h1,g1,fun b hb hg=>h3 b hb ((g4 b).2 (.inl hg)),fun b=>GV⟩,g2,?_,fun b=>?_⟩
 · rintro b (hb|hb) hg
   · exact h3 b hb ((g4 b).2 (.inr hg))
   · exact g3 b hb hg
 · rw [h4 b,g4 b,or_assoc]
theorem St.star {r s:Res}(h:St c w (star r s::L)):St c w (r::s::L):=by
 obtain ⟨ok,F,h,hd⟩:=h;exact ⟨ok,F,ym h,hd⟩
abbrev I8:=@St.star
theorem St.star' {r s:Res}(h:St c w (r::s::L)):St c w (Go.Lir.star r s::L):=by
 obtain ⟨ok,F,h,hd⟩:=h;exact ⟨ok,F,yq h,hd⟩
abbrev Ho:=@St.star'
theorem St.imp {r r':Res}(h:St c w (r::L))(hi:∀H F,r.A H F→r'.A H F):St c w (r'::L):=by
 obtain ⟨ok,F,⟨F1,F2,h1,h2,h3,h4⟩,hd⟩:=h;exact ⟨ok,F,⟨F1,F2,hi _ _ h1,h2,h3,h4⟩,hd⟩
theorem St.out {i:Nat}{r:Res}(h:St c w L)(hi:nth L i=some r):St c w (r::L.eraseIdx i):=h.perm (SE hi)
theorem St.back {i:Nat}{r r':Res}(h:St c w (r'::L.eraseIdx i))(hi:nth L i=some r):St c w (L.set i r'):=h.perm (gM hi)
abbrev F9:=@St.back
theorem St.back0 {i:Nat}{r:Res}(h:St c w (r::L.eraseIdx i))(hi:nth L i=some r):St c w L:=h.perm (SE hi).symm
abbrev Fi:=@St.back0
theorem St.list:∀{M L:List Res},St c w (P6 M::L)→St c w (M++L)
 | [],L,h=>h.drop
 | r::M,L,h=>by
   have h1:=St.list (M:=M) (L:=r::L) (I7 (I8 h));exact h1.perm (G5)
theorem St.list':∀{M L:List Res},St c w (M++L)→St c w (P6 M::L)
 | [],L,h=>h.emp (r:=Go.Lir.emp) fun _ h=>h
 | r::M,L,h=>by
   have h1:St c w (M++r::L):=h.perm (G5.symm);exact (I7 (St.list' h1)).star'
abbrev Jq:=@St.list'
def Lb {α:Type}(f:α→Res)(l:List α):Res:=P6 (l.map f)
theorem mR {α β:Type}(f:α→β):∀(l:List α) (k:Nat),(l.eraseIdx k).map f=(l.map f).eraseIdx k
 | [],_=>rfl
 | _::_,0=>rfl
 | x::l,k+1=>by simp only [F6,FM,mR f l k]
theorem mT {α:Type}(f:α→Res):∀{l:List α}{k:Nat}{x:α},l[k]?=some x→nth (l.map f) k=some (f x)
 | [],_,_,h=>by simp at h
 | y::l,0,x,h=>by simp at h;subst h;rfl
 | y::l,k+1,x,h=>mT f (l:=l) Dh
theorem St.bigOut {f:α→Res}{l:List α}{i k:Nat}{x:α}(h:St c w L)(hi:nth L i=some (Lb f l))(hk:l[k]?=some x):St c w (f x::L.set i (Lb f (l.eraseIdx k))):=by
 have h1:St c w (l.map f++L.eraseIdx i):=(h.out hi).list;have h2:St c w ((f x::(l.map f).eraseIdx k)++L.eraseIdx i):=h1.perm ((SE (mT f hk)).append_right _);rw [←mR] at h2;have h3:St c w ((l.eraseIdx k).map f++f x::L.eraseIdx i):=h2.perm G5.symm;have h4:St c w (Lb f (l.eraseIdx k)::f x::L.eraseIdx i):=h3.list';exact h4.mv1.perm ((gM hi).cons _)
theorem St.bigIn {f:α→Res}{l:List α}{i k:Nat}{x':α}(h:St c w (f x'::L))(hi:nth L i=some (Lb f (l.eraseIdx k)))(hk:k<l.length):St c w (L.set i (Lb f (l.set k x'))):=by
 have h1:St c w (Lb f (l.eraseIdx k)::f x'::L.eraseIdx i):=((h.perm ((SE hi).cons _)):St c w (f x'::Lb f (l.eraseIdx k)::L.eraseIdx i)).mv1;have h2:St c w ((l.eraseIdx k).map f++f x'::L.eraseIdx i):=h1.list;rw [mR] at h2;have h3:St c w (f x'::(l.map f).eraseIdx k++L.eraseIdx i):=h2.perm G5;have hx:nth (l.map f) k=some (f (l[k]'hk)):=mT f (EH hk);have h4:St c w ((l.map f).set k (f x')++L.eraseIdx i):=h3.perm ((gM hx).append_right _);rw [←F4] at h4;exact (Jq h4:St c w (Lb f (l.set k x')::L.eraseIdx i)).back hi
abbrev Jt:=@St.bigIn
theorem kq {l:List α}{k:Nat}{x:α}(h:l[k]?=some x):l.set k x=l:=by
 apply Gg;intro j;rw [FD];split
 · rename_i e;subst e;rw [if_pos (EJ.1 h).1,h]
 · rfl

def Cx.top (w:World):Cx:=⟨w,(· < w.heap.size),w.heap⟩
theorem St.top (w:World):St (Cx.top w) w []:=⟨⟨rfl,rfl,rfl,E7 _,fun _ h=>h,fun _ _=>rfl⟩,NF,fun _ h=>h,fun _ h=>h.elim⟩
theorem St.fr (h:St (Cx.top w0) w L):Fr NF w0 w:=⟨h.1.os,h.1.tape,h.1.output,h.1.size,fun b hb _=>h.1.same b hb⟩
end

abbrev Nu (c:Cx)(es:Nat)(v:Value)(css:List (List Value)):Prop:=Me c.H0 es v c.K css
def Ox (c:Cx)(b o:Nat)(cs:List Value):Prop:=c.K b∧At c.H0 b o cs
theorem Ox.up {c c':Cx}{o:Nat}(h:Ox c b o cs)(hle:c.Le c'):Ox c' b o cs:=⟨(hle.K b h.1).1,h.2.of_same (hle.K b h.1).2⟩
theorem Nu.up {c c':Cx}{v:Value}(h:Nu c es v css)(hle:c.Le c'):Nu c' es v css:=by
 obtain ⟨h0,a,cap,hv,hlc,hc|⟨b,off,ha,hF,hb,hat⟩⟩:=h
 · exact Bj
 · exact ⟨h0,a,cap,hv,hlc, .inr ⟨b,off,ha,(hle.K b hF).1,GM hb hle.size,fun m c hm=>(hat m c hm).of_same (hle.K b hF).2⟩⟩
theorem Nu.now {c:Cx}{L:List Res}{v:Value}(h:Nu c es v css)(hS:St c w L):Me w.heap es v c.K css:=
 Me.of_same h fun b hb _=>hS.1.same b hb
theorem Ox.now {c:Cx}{L:List Res}{o:Nat}(h:Ox c b o cs)(hS:St c w L):At w.heap b o cs:=h.2.of_same (hS.1.same b h.1)
theorem Nu.top {v:Value}(h:Me w.heap es v (fun _=>True) css):Nu (Cx.top w) es v css:=Hn h fun _ hb _=>hb
theorem Nu.nil (c:Cx)(es:Nat):Nu c es (.slice none 0 0) []:=⟨by simp,none,0,rfl,E7 _, .inl rfl⟩
theorem St.freezeS {c:Cx}{L:List Res}{T:TypeId}{es:Nat}{v:Value}{css:List (List Value)}(h:St c w (sl T es v css::L)):∃c',c.Le c'∧St c' w L∧Nu c' es v css:=by
 obtain ⟨c',F,h1,h2,h3,h4⟩:=h.freeze;exact ⟨c',h1,h2,Hn (Sl.toR h3) fun b _ hb=>h4 b hb⟩
def Nn (v:Value)(n es m b o:Nat):Prop:=m<n∧∃off cap,v= .slice (some ⟨b,off,none⟩) n cap∧o=off+m*es
theorem Nn.el {v:Value}{o:Nat}{H:Kk}{F:Nat→Prop}(h:Nn v n es m b o)(hn:css.length=n)(hs:Sl H T es v F css):El H T es v F css m b o:=by
 subst hn;exact ⟨hs,h.1,h.2⟩

section
variable {P:Program}{l:List GO}{Q:QT}{ρ:Km}{w:World}{c:Cx}{L:List Res}{i:Nat}{T es:Nat}{v:Value}{css:List (List Value)}

theorem eW {x:Operand}{o:Nat}(hS:St c w L)(hx:ρ.ev x= .pointer (some ⟨b,o,none⟩))(hi:nth L i=some (blk b T cs))(hu:cs[o]?=some u)
 (h:Q0 P l Q (upd ρ d u) w):Q0 P (⟨none, .load1 d x⟩::l) Q ρ w:=by
 obtain ⟨F,h1,_⟩:=hS.step hi;exact Xs hx h1.1 hu h
theorem rX {x:Operand}{o:Nat}(hS:St c w L)(hx:ρ.ev x= .pointer (some ⟨b,o,none⟩))(hi:nth L i=some (blk b T cs))(hu:(cs.drop o).take n=us)(hl:us.length=n)
 (h:Q0 P l Q (upd ρ d (.agg ⟨us⟩)) w):Q0 P (⟨none, .loadn d n x⟩::l) Q ρ w:=by
 obtain ⟨F,h1,_⟩:=hS.step hi;exact Xt hx h1.1 hu hl h
theorem rY {F:Nat→Prop}(h:∀x,F x↔x=b)(hf:Fr (· =b) w w'):Step F F w w':=IE (hf.into fun x hx=>(h x).2 hx)
theorem Tw {x y:Operand}{o:Nat}(hS:St c w L)(hx:ρ.ev x= .pointer (some ⟨b,o,none⟩))(hy:ρ.ev y=u)(hi:nth L i=some (blk b T cs))(ho:o<cs.length)(h1:oneC u=true)
 (h:∀w',St c w' (L.set i (blk b T (cs.set o u)))→Q0 P l Q ρ w'):Q0 P (⟨none, .store1 x y⟩::l) Q ρ w:=by
 obtain ⟨F,hr,_,hst⟩:=hS.step hi;exact Xu hx hy hr.1 ho h1 fun w' hf _ hb=>h w' (hst w' F _ ⟨hb,hr.2⟩ (rY hr.2 hf))
theorem SF {x y:Operand}{o:Nat}{cs':List Value}(hS:St c w L)(hx:ρ.ev x= .pointer (some ⟨b,o,none⟩))(hy:ρ.ev y= .agg ⟨us⟩)(hn:us.length=n)(hi:nth L i=some (blk b T cs))(ho:o+n≤cs.length)(h1:∀u∈us,oneC u=true)
 (hc:cs.take o++(us++cs.drop (o+n))=cs')(h:∀w',St c w' (L.set i (blk b T cs'))→Q0 P l Q ρ w'):Q0 P (⟨none, .storen n x y⟩::l) Q ρ w:=by
 subst hc;obtain ⟨F,hr,_,hst⟩:=hS.step hi;exact S8 hx hy hn hr.1 ho h1 fun w' hf _ hb=>h w' (hst w' F _ ⟨hb,hr.2⟩ (rY hr.2 hf))
theorem St.blkAt (hS:St c w L)(hi:nth L i=some (blk b T cs)):Lg w.heap b T cs:=by
 obtain ⟨F,hr,_⟩:=hS.step hi;exact hr.1
theorem Qe {z:List Value}(hS:St c w L)(h:∀b w',St c w' (blk b T z::L)→Q0 P l Q (upd ρ d (.pointer (some ⟨b,0,none⟩))) w'):Q0 P (⟨none, .alloc d T z⟩::l) Q ρ w:=
 Xv fun b w' hb hf _ hk=>h b w' (hS.new (F':=(· =b)) ⟨hk,fun _=>GV⟩ hf fun x hx=>by omega)
theorem NJ {x:Operand}{cs:List Value}(hS:St c w L)(hx:ρ.ev x=v)(hc:v.cells=⟨cs⟩)(h:∀b w',St c w' (blk b T cs::L)→Q0 P l Q (upd ρ d (.pointer (some ⟨b,0,none⟩))) w'):Q0 P (⟨none, .box d T x⟩::l) Q ρ w:=
 bC hx hc fun b w' hb hf _ hk=>h b w' (hS.new (F':=(· =b)) ⟨hk,fun _=>GV⟩ hf fun x hx=>by omega)
theorem St.laid (hS:St c w L)(hb:b=w.heap.size)(hf:Fr NF w w')(hk:Lg w'.heap b T cs):St c w' (blk b T cs::L):=hS.new (F':=(· =b)) ⟨hk,fun _=>GV⟩ hf fun x hx=>by omega
theorem St.slOf {b:Nat}{cs:List Value}(hS:St c w (blk b T cs::L))(hf:css.flatten=cs)(hl:∀c∈css,c.length=es)(hn:css.length=n):St c w (sl T es (.slice (some ⟨b,0,none⟩) n n) css::L):=
 hS.imp fun _ _ h=>Sl.ext (It h.1 hf hl hn) fun x=>(h.2 x).symm

abbrev Gp:=@St.slOf
theorem ML {m:Nat}{x y:Operand}(hS:St c w L)(hx:ρ.ev x=v)(hy:ρ.ev y= .int k (m:Int))(hi:nth L i=some (sl T es v css))(hm:m<css.length)
 (h:∀b o,Nn v css.length es m b o→Q0 P l Q (upd ρ d (.pointer (some ⟨b,o,none⟩))) w):Q0 P (⟨none, .idx d es x y⟩::l) Q ρ w:=by
 obtain ⟨F,hr,_⟩:=hS.step hi;exact XO hx hy hr hm fun b o he=>h b o ⟨he.2,he.3⟩
theorem QJ {x y:Operand}{n:Int}(hS:St c w L)(hx:ρ.ev x=v)(hy:ρ.ev y= .int k n)(hi:nth L i=some (sl T es v css))(h0:0≤n)(hm:n<css.length)
 (h:∀b o,Nn v css.length es n.toNat b o→Q0 P l Q (upd ρ d (.pointer (some ⟨b,o,none⟩))) w):Q0 P (⟨none, .idx d es x y⟩::l) Q ρ w:=by
 obtain ⟨F,hr,_⟩:=hS.step hi;exact Tb hx hy hr h0 hm fun b o he=>h b o ⟨he.2,he.3⟩
theorem mU {x:Operand}(hS:St c w L)(hx:ρ.ev x=v)(hi:nth L i=some (sl T es v css))(h:Q0 P l Q (upd ρ d (.int .i64 css.length)) w):Q0 P (⟨none, .len d x⟩::l) Q ρ w:=by
 obtain ⟨F,hr,_⟩:=hS.step hi;exact bx hx hr h
theorem Q2 {x:Operand}{o:Nat}(hS:St c w L)(he:Nn v n es m b o)(hx:ρ.ev x= .pointer (some ⟨b,o+j,none⟩))(hi:nth L i=some (sl T es v css))(hn:css.length=n)(hc:css[m]?=some cs)(hu:cs[j]?=some u)
 (h:Q0 P l Q (upd ρ d u) w):Q0 P (⟨none, .load1 d x⟩::l) Q ρ w:=by
 obtain ⟨F,hr,_⟩:=hS.step hi;exact Tc hx (he.el hn hr) hc hu h
theorem QY {x:Operand}{o:Nat}(hS:St c w L)(he:Nn v n es m b o)(hx:ρ.ev x= .pointer (some ⟨b,o,none⟩))(hi:nth L i=some (sl T es v css))(hn:css.length=n)(hc:css[m]?=some cs)(hu:cs[0]?=some u)
 (h:Q0 P l Q (upd ρ d u) w):Q0 P (⟨none, .load1 d x⟩::l) Q ρ w:=Q2 (j:=0) hS he hx hi hn hc hu h
theorem NK {x:Operand}{o:Nat}(hS:St c w L)(he:Nn v n es m b o)(hx:ρ.ev x= .pointer (some ⟨b,o,none⟩))(hi:nth L i=some (sl T es v css))(hn:css.length=n)(hc:css[m]?=some cs)
 (h:Q0 P l Q (upd ρ d (.agg ⟨cs⟩)) w):Q0 P (⟨none, .loadn d es x⟩::l) Q ρ w:=by
 obtain ⟨F,hr,_⟩:=hS.step hi;exact Td hx (he.el hn hr) hc h
theorem rZ {x y:Operand}{o:Nat}(hS:St c w L)(he:Nn v n es m b o)(hx:ρ.ev x= .pointer (some ⟨b,o+j,none⟩))(hy:ρ.ev y=u)(hi:nth L i=some (sl T es v css))(hn:css.length=n)(hc:css[m]?=some cs)(hj:j<es)(ho:oneC u=true)
 (h:∀w',St c w' (L.set i (sl T es v (css.set m (cs.set j u))))→Q0 P l Q ρ w'):Q0 P (⟨none, .store1 x y⟩::l) Q ρ w:=by
 obtain ⟨F,hr,_,hst⟩:=hS.step hi;exact xW hx hy (he.el hn hr) hc hj ho fun w' hf _ hk=>h w' (hst w' F _ hk.sl (IE hf))
theorem kt {x y:Operand}{o:Nat}(hS:St c w L)(he:Nn v n es m b o)(hx:ρ.ev x= .pointer (some ⟨b,o,none⟩))(hy:ρ.ev y=u)(hi:nth L i=some (sl T es v css))(hn:css.length=n)(hc:css[m]?=some cs)(hj:0<es)(ho:oneC u=true)
 (h:∀w',St c w' (L.set i (sl T es v (css.set m (cs.set 0 u))))→Q0 P l Q ρ w'):Q0 P (⟨none, .store1 x y⟩::l) Q ρ w:=rZ (j:=0) hS he hx hy hi hn hc hj ho h
theorem ku {x y:Operand}{o:Nat}{k:Nat}(hS:St c w L)(he:Nn v n es m b o)(hx:ρ.ev x= .pointer (some ⟨b,o,none⟩))(hy:ρ.ev y= .agg ⟨us⟩)(hk:us.length=k)(hi:nth L i=some (sl T es v css))(hn:css.length=n)(hc:css[m]?=some cs)(hl:us.length=es)(ho:∀u∈us,oneC u=true)
 (h:∀w',St c w' (L.set i (sl T es v (css.set m us)))→Q0 P l Q ρ w'):Q0 P (⟨none, .storen k x y⟩::l) Q ρ w:=by
 obtain ⟨F,hr,_,hst⟩:=hS.step hi;exact xX hx hy hk (he.el hn hr) hc hl ho fun w' hf _ hk=>h w' (hst w' F _ hk.sl (IE hf))
theorem O2 {x y:Operand}{o:Nat}(hS:St c w L)(he:Nn v n es m b o)(hx:ρ.ev x= .pointer (some ⟨b,o+j,none⟩))(hy:ρ.ev y=u)(hi:nth L i=some (sl T es v css))(hn:css.length=n)(hc:css[m]?=some cs)(hj:j<es)(ho:oneC u=true)
 (hc':css.set m (cs.set j u)=css')(h:∀w',St c w' (L.set i (sl T es v css'))→Q0 P l Q ρ w'):Q0 P (⟨none, .store1 x y⟩::l) Q ρ w:=by subst hc';exact rZ hS he hx hy hi hn hc hj ho h
theorem r5 {x y:Operand}{o:Nat}{k:Nat}(hS:St c w L)(he:Nn v n es m b o)(hx:ρ.ev x= .pointer (some ⟨b,o,none⟩))(hy:ρ.ev y= .agg ⟨us⟩)(hk:us.length=k)(hi:nth L i=some (sl T es v css))(hn:css.length=n)(hc:css[m]?=some cs)(hl:us.length=es)(ho:∀u∈us,oneC u=true)
 (hc':css.set m us=css')(h:∀w',St c w' (L.set i (sl T es v css'))→Q0 P l Q ρ w'):Q0 P (⟨none, .storen k x y⟩::l) Q ρ w:=by subst hc';exact ku hS he hx hy hk hi hn hc hl ho h
theorem Tx {x:Operand}{hi':Option Operand}(hS:St c w L)(hx:ρ.ev x=v)(hi:nth L i=some (sl T es v css))(hmx:mx=none)(hh:ME ρ css.length hi' h')(hl:ME ρ 0 lo l')(h2:h'≤css.length)(h3:l'≤h')
 (h:∀v',St c w (L.set i (sl T es v' ((css.take h').drop l')))→Q0 P l Q (upd ρ d v') w):Q0 P (⟨none, .sub d es x lo hi' mx⟩::l) Q ρ w:=by
 obtain ⟨F,hr,_,hst⟩:=hS.step hi;exact bz hx hr hmx hh hl h2 h3 fun v' hk=>h v' (hst w F _ hk (IE (Ig _ _)))
theorem Nv {Ty:Nat}{z:List Value}{x y:Operand}(hel:NH P Ts=some (T,es,nb,z))
 (hts:(∃e2,P.underlying Ts2=some (.slice e2))∨P.underlying Ts2=some .string)(hS:St c w L)(hx:ρ.ev x=v)(hy:ρ.ev y=v2)(hi:nth L i=some (sl T es v css))(hsrc:Te P w es v2 css2)(hb:(css.length+css2.length)*nb≤140737488355328)
 (h : ∀ v' w', St c w' (L.set i (sl T es v' (css ++ css2))) → Q0 P l Q (upd ρ d v') w'): Q0 P (⟨none, .raw ⟨some d, .call ⟨.builtin .append, #[x, y], #[Ts, Ts2]⟩, Ty, "", #[], none⟩⟩ :: l) Q ρ w := by
 obtain ⟨F,hr,_,hst⟩:=hS.step hi;exact gH hel hts hx hy hr hsrc hb fun v' w' ⟨F',h1,h2,h3⟩=>h v' w' (hst w' F' _ h1 ⟨h2,h3⟩)
theorem r6 {Ty:Nat}{z:List Value}{x y:Operand}{n:Int}(hel:NH P Ts=some (T,es,nb,z))(hS:St c w L)(hx:ρ.ev x= .int k n)(hy:ρ.ev y= .int k' n)(h0:0≤n)(hn:n*nb≤281474976710656)
 (h:∀v' w',St c w' (sl T es v' (List.replicate n.toNat z)::L)→Q0 P l Q (upd ρ d v') w'):
 Q0 P (⟨none, .raw ⟨some d, .makeSlice Ts x y, Ty, "", #[], none⟩⟩ :: l) Q ρ w :=
 bA hel hx hy h0 hn fun v' w' hf hs _=>h v' w' (hS.new hs hf fun b hb=>by omega)

theorem St.srcS {css:List (List Value)}(hS:St c w L)(hi:nth L i=some (sl T es v css))(ho:∀c∈css,∀u∈c,oneC u=true):Te P w es v css:=by
 obtain ⟨F,hr,_⟩:=hS.step hi;exact Sl.src hr ho
theorem St.srcB1 (hS:St c w L)(hi:nth L i=some (blk b T [u]))(ho:oneC u=true):Te P w 1 (.slice (some ⟨b,0,none⟩) 1 1) [[u]]:=by
 obtain ⟨F,hr,_⟩:=hS.step hi;exact XK hr.1 ho
theorem St.srcB (hS:St c w L)(hi:nth L i=some (blk b T cs))(hn:cs.length=n)(ho:∀u∈cs,oneC u=true):Te P w n (.slice (some ⟨b,0,none⟩) 1 1) [cs]:=by
 obtain ⟨F,hr,_⟩:=hS.step hi;exact XL hr.1 hn ho
theorem Nu.src {css:List (List Value)}(h:Nu c es v css)(hS:St c w L)(ho:∀c∈css,∀u∈c,oneC u=true):Te P w es v css:=(h.now hS).src ho

theorem bD {x:Operand}(hx:ρ.ev x=v)(hs:Nu c es v css)(h:Q0 P l Q (upd ρ d (.int .i64 css.length)) w):Q0 P (⟨none, .len d x⟩::l) Q ρ w:=by
 obtain ⟨a,c,hv⟩:=Me.shape hs;exact ZP (hx.trans hv) h
theorem Tz {m:Nat}{x y:Operand}(hx:ρ.ev x=v)(hy:ρ.ev y= .int k (m:Int))(hs:Nu c es v css)(hc:css[m]?=some cs)
 (h:∀b o,Ox c b o cs→Q0 P l Q (upd ρ d (.pointer (some ⟨b,o,none⟩))) w):Q0 P (⟨none, .idx d es x y⟩::l) Q ρ w:=by
 obtain ⟨_,a,cap,hv,hlc,hn|⟨b,off,ha,hF,hb,hat⟩⟩:=hs
 · subst hn;simp at hc
 · subst hv ha;have hlt:=(EJ.1 hc).1;exact bn hx hy Jo Jo (h b _ ⟨hF,hat _ _ hc⟩)
theorem TA {x:Operand}{o:Nat}(hS:St c w L)(ha:Ox c b o cs)(hx:ρ.ev x= .pointer (some ⟨b,o+j,none⟩))(hu:cs[j]?=some u)
 (h:Q0 P l Q (upd ρ d u) w):Q0 P (⟨none, .load1 d x⟩::l) Q ρ w:=Tf hx (ha.now hS) hu h
theorem XP {x:Operand}{o:Nat}(hS:St c w L)(ha:Ox c b o cs)(hx:ρ.ev x= .pointer (some ⟨b,o,none⟩))(hu:cs[0]?=some u)
 (h:Q0 P l Q (upd ρ d u) w):Q0 P (⟨none, .load1 d x⟩::l) Q ρ w:=XJ hx (ha.now hS) hu h
theorem TD {x:Operand}{o:Nat}(hS:St c w L)(ha:Ox c b o cs)(hx:ρ.ev x= .pointer (some ⟨b,o,none⟩))(hl:cs.length=n)
 (h:Q0 P l Q (upd ρ d (.agg ⟨cs⟩)) w):Q0 P (⟨none, .loadn d n x⟩::l) Q ρ w:=Tg hx (ha.now hS) hl h
theorem bE {x:Operand}(hx:ρ.ev x=v)(hs:Nu c es v css)(hmx:mx=none)(hh:ME ρ css.length hi h')(hl:ME ρ 0 lo l')(h2:h'≤css.length)(h3:l'≤h')
 (h:∀v',Nu c es v' ((css.take h').drop l')→Q0 P l Q (upd ρ d v') w):Q0 P (⟨none, .sub d es x lo hi mx⟩::l) Q ρ w:=by
 subst hmx;obtain ⟨h0,a,cap,hv,hlc,hc⟩:=hs;subst hv;have hl1:((css.take h').drop l').length=h' - l':=De;refine Ta (m:=cap) hx rfl hh hl (E7 _) Jo h3 (h _ ⟨fun c hc=>h0 c (GW (Ia hc)),_,cap - l',by rw [hl1],Jo,?_⟩);rcases hc with hc|⟨b,off,ha,hF,hb,hat⟩
 · subst hc;exact .inl Js
 · by_cases he:h'=l'
   · exact .inl (Ga Jo)
   · refine .inr ⟨b,off+l'*es,?_,hF,hb,fun m c hm=>?_⟩
     · rw [if_neg Jo,ha];simp only [FP,PH]
     · have hm':css[l'+m]?=some c:=by
        have:=(EJ.1 hm).1;rw [GN,FH Jo] at hm;exact hm
       have:=hat _ _ hm';rw [HK,←Gx] at this;exact this

theorem kv {o:Nat}{x:Operand}(hS:St c w L)(hx:ρ.ev x= .pointer (some ⟨b,o,none⟩))(hi:nth L i=some (blk b T cs))(hu:cs[o]?=some u):MX P ρ w ⟨none, .load1 d x⟩ u:=by
 obtain ⟨F,hr,_⟩:=hS.step hi;exact XM hx hr.1 hu
theorem mV {o:Nat}{x:Operand}(hS:St c w L)(hx:ρ.ev x= .pointer (some ⟨b,o,none⟩))(hi:nth L i=some (blk b T cs))(hu:(cs.drop o).take n=us)(hl:us.length=n):MX P ρ w ⟨none, .loadn d n x⟩ (.agg ⟨us⟩):=by
 obtain ⟨F,hr,_⟩:=hS.step hi;exact Tk hx hr.1 hu hl
theorem QX {x:Operand}{o:Nat}(hS:St c w L)(he:Nn v n es m b o)(hx:ρ.ev x= .pointer (some ⟨b,o+j,none⟩))(hi:nth L i=some (sl T es v css))(hn:css.length=n)(hc:css[m]?=some cs)(hu:cs[j]?=some u):MX P ρ w ⟨none, .load1 d x⟩ u:=by
 obtain ⟨F,hr,_⟩:=hS.step hi;exact ⟨_,hx,(he.el hn hr).cell hc hu⟩
theorem gN {x:Operand}{o:Nat}(hS:St c w L)(ha:Ox c b o cs)(hx:ρ.ev x= .pointer (some ⟨b,o+j,none⟩))(hu:cs[j]?=some u):MX P ρ w ⟨none, .load1 d x⟩ u:=⟨_,hx,(ha.now hS).cell hu⟩
theorem mW {x:Operand}{o:Nat}(hS:St c w L)(ha:Ox c b o cs)(hx:ρ.ev x= .pointer (some ⟨b,o+j,none⟩))(hu:(cs.drop j).take n=us)(hl:us.length=n):MX P ρ w ⟨none, .loadn d n x⟩ (.agg ⟨us⟩):=⟨_,us,hx,(ha.now hS).cells hu hl,rfl⟩

theorem St.shape (hS:St c w L)(hi:nth L i=some (sl T es v css)):∃a c,v= .slice a css.length c:=by
 obtain ⟨F,hr,_⟩:=hS.step hi;exact Sl.shape hr
theorem St.oneC (hS:St c w L)(hi:nth L i=some (sl T es v css)):Go.Lir.oneC v=true:=by
 obtain ⟨F,hr,_⟩:=hS.step hi;exact Sl.oneC hr
theorem QO {x:Operand}(hS:St c w L)(hx:ρ.ev x=v)(hi:nth L i=some (sl T es v css))(hn:css.length=n)(h:Q0 P l Q (upd ρ d (.int .i64 n)) w):Q0 P (⟨none, .len d x⟩::l) Q ρ w:=by
 subst hn;exact mU hS hx hi h
theorem XQ {x:Operand}(hx:ρ.ev x=v)(hs:Nu c es v css)(hn:css.length=n)(h:Q0 P l Q (upd ρ d (.int .i64 n)) w):Q0 P (⟨none, .len d x⟩::l) Q ρ w:=by
 subst hn;exact bD hx hs h
theorem XR {x:Operand}{o:Nat}{xs:List Int}(hS:St c w L)(he:Nn v n 1 m b o)(hx:ρ.ev x= .pointer (some ⟨b,o,none⟩))(hi:nth L i=some (sl T 1 v (xs.map KQ)))(hn:(xs.map KQ).length=n)(hm:m<xs.length)
 (h:Q0 P l Q (upd ρ d (.int .i64 (xs.getD m 0))) w):Q0 P (⟨none, .load1 d x⟩::l) Q ρ w:=QY hS he hx hi hn (OG KQ xs 0 hm) rfl h
theorem TG {x:Operand}{o:Nat}{xs:List Bool}(hS:St c w L)(he:Nn v n 1 m b o)(hx:ρ.ev x= .pointer (some ⟨b,o,none⟩))(hi:nth L i=some (sl T 1 v (xs.map QG)))(hn:(xs.map QG).length=n)(hm:m<xs.length)
 (h:Q0 P l Q (upd ρ d (.bool (xs.getD m false))) w):Q0 P (⟨none, .load1 d x⟩::l) Q ρ w:=QY hS he hx hi hn (OG QG xs false hm) rfl h
theorem TH {x y:Operand}{o:Nat}{xs:List Int}{u:Int}(hS:St c w L)(he:Nn v n 1 m b o)(hx:ρ.ev x= .pointer (some ⟨b,o,none⟩))(hy:ρ.ev y= .int .i64 u)(hi:nth L i=some (sl T 1 v (xs.map KQ)))(hn:(xs.map KQ).length=n)(hm:m<xs.length)
 (h:∀w',St c w' (L.set i (sl T 1 v ((xs.set m u).map KQ)))→Q0 P l Q ρ w'):Q0 P (⟨none, .store1 x y⟩::l) Q ρ w:=
 kt hS he hx hy hi hn (OG KQ xs 0 hm) Jo rfl fun w' hS=>h w' (by rw [←map_set];exact hS)
theorem yt {x y:Operand}{o:Nat}{xs:List Bool}{u:Bool}(hS:St c w L)(he:Nn v n 1 m b o)(hx:ρ.ev x= .pointer (some ⟨b,o,none⟩))(hy:ρ.ev y= .bool u)(hi:nth L i=some (sl T 1 v (xs.map QG)))(hn:(xs.map QG).length=n)(hm:m<xs.length)
 (h:∀w',St c w' (L.set i (sl T 1 v ((xs.set m u).map QG)))→Q0 P l Q ρ w'):Q0 P (⟨none, .store1 x y⟩::l) Q ρ w:=
 kt hS he hx hy hi hn (OG QG xs false hm) Jo rfl fun w' hS=>h w' (by rw [←map_set];exact hS)

theorem TJ (hc:JW P f [] w S)(h:∀v w',S v w'→Q0 P l Q (upd ρ d v) w'):Q0 P (⟨none, .call (some d) f []⟩::l) Q ρ w:=ZQ Jr hc h
theorem TK (h0:ρ.ev x0=u0)(hc:JW P f [u0] w S)(h:∀v w',S v w'→Q0 P l Q (upd ρ d v) w'):Q0 P (⟨none, .call (some d) f [x0]⟩::l) Q ρ w:=ZQ (by subst h0;rfl) hc h
theorem TM (h0:ρ.ev x0=u0)(h1:ρ.ev x1=u1)(hc:JW P f [u0,u1] w S)(h:∀v w',S v w'→Q0 P l Q (upd ρ d v) w'):Q0 P (⟨none, .call (some d) f [x0,x1]⟩::l) Q ρ w:=ZQ (by subst h0 h1;rfl) hc h
theorem TO {u2:Value}(h0:ρ.ev x0=u0)(h1:ρ.ev x1=u1)(h2:ρ.ev x2=u2)(hc:JW P f [u0,u1,u2] w S)(h:∀v w',S v w'→Q0 P l Q (upd ρ d v) w'):Q0 P (⟨none, .call (some d) f [x0,x1,x2]⟩::l) Q ρ w:=ZQ (by subst h0 h1 h2;rfl) hc h
theorem TP {u2 u3:Value}(h0:ρ.ev x0=u0)(h1:ρ.ev x1=u1)(h2:ρ.ev x2=u2)(h3:ρ.ev x3=u3)(hc:JW P f [u0,u1,u2,u3] w S)(h:∀v w',S v w'→Q0 P l Q (upd ρ d v) w'):Q0 P (⟨none, .call (some d) f [x0,x1,x2,x3]⟩::l) Q ρ w:=ZQ (by subst h0 h1 h2 h3;rfl) hc h
theorem XS {T:TypeId}{x y:Operand}{a b:Bool}(ht:P.underlying T=some .bool)(hx:ρ.ev x= .bool a)(hy:ρ.ev y= .bool b)(he:a=b)
 (h:Q0 P l Q (upd ρ d (.bool false)) w):Q0 P (⟨none, .bin d .neq T x y⟩::l) Q ρ w:=ZS ht hx hy (by subst he;rw [bne_self_eq_false];exact h)
theorem yu (k:Nat){T e:TypeId}{a:Option Addr}(ht:P.underlying T=some (.pointer e)):(Op.equalIn (k+1) T (.pointer a) (.pointer none)).run P w0= .ok a.isNone w0:=by
 simp only [Op.equalIn,Fo,Q9 P T _ w0 ht,EZ];cases a<;>simp [FC]
theorem r7 {T e:TypeId}{a:Option Addr}(ht:P.underlying T=some (.pointer e)):(Op.equal T (.pointer a) (.pointer none)).run P w0= .ok a.isNone w0:=yu 9999 ht
theorem mX {T e:TypeId}{x y:Operand}(ht:P.underlying T=some (.pointer e))(hx:ρ.ev x= .pointer none)(hy:ρ.ev y= .pointer none)
 (h:Q0 P l Q (upd ρ d (.bool true)) w):Q0 P (⟨none, .bin d .eql T x y⟩::l) Q ρ w:=
 ⟨_,fun w0=>by rw [hx,hy];simp [eqGuard,binOp,r7 ht],h⟩
theorem mY {T e:TypeId}{x y:Operand}{a:Addr}(ht:P.underlying T=some (.pointer e))(hx:ρ.ev x= .pointer (some a))(hy:ρ.ev y= .pointer none)
 (h:Q0 P l Q (upd ρ d (.bool false)) w):Q0 P (⟨none, .bin d .eql T x y⟩::l) Q ρ w:=
 ⟨_,fun w0=>by rw [hx,hy];simp [eqGuard,binOp,r7 ht],h⟩
end
end
end Go.Lir
