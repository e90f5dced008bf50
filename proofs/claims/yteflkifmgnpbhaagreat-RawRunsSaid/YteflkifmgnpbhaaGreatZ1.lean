
/- Lemmas of the proof, part 1: what the functions of the program do (contracts), and what follows. -/
import Derived.WalkKit
import Derived.Below
import Derived.ProofKit
import Derived.Deep.Slices
import Derived.DeepKeys
import Derived.Laws.StructEq
namespace Go.Lir
abbrev FB:=@List.getElem?_eq_getElem
abbrev FC:=@List.mem_of_getElem?
abbrev FD:=@List.getElem?_eq_some_iff
abbrev FE:=@List.getD_eq_getElem?_getD
abbrev FF:=@List.length_map
abbrev FG:=@List.forall_mem_cons
abbrev FH:=@List.length_append
abbrev FI:=@List.getElem?_append_right
abbrev FJ:=@List.drop_of_length_le
abbrev FL:=@List.getElem?_append_left
abbrev FM:=@List.set_cons_zero
abbrev FN:=@Bool.and_eq_true
abbrev FO:=@Result.andThen_ok
abbrev FP:=@List.length_cons
abbrev FQ:=@List.not_mem_nil
abbrev FR:=@List.set_cons_succ
abbrev FU:=@Option.some.injEq
abbrev FV:=@Bool.false_eq_true
abbrev FW:=@List.getElem?_map
abbrev FX:=@List.mem_cons
abbrev FY:=@Option.some.inj
abbrev F5:=@List.mem_append
abbrev F6:=@Nat.le_refl
abbrev F7:=@Sem.run_bind
abbrev F8:=@List.length_nil
abbrev F9:=@Int.toNat_natCast
abbrev Ga:=@List.map_append
abbrev Gb:=@List.getElem?_eq_none
abbrev Gd:=@List.take_of_length_le
abbrev Gf:=@List.length_set
abbrev Gg:=@Nat.le_succ
abbrev Gh:=@Int.toNat_of_nonneg
abbrev Gi:=@Classical.not_not
abbrev Gk:=@Sem.run_pure
abbrev Gl:=@List.getElem?_cons_zero
abbrev Gm:=@List.mem_map
abbrev Gn:=@Classical.byContradiction
abbrev Gp:=@List.mem_range
abbrev Gr:=@List.mem_cons_of_mem
abbrev Gs:=@Nat.le_of_ble_eq_true
abbrev Gt:=@Nat.zero_le
abbrev Gu:=@List.cons.injEq
abbrev Gv:=@List.getElem?_take_of_lt
abbrev Gw:=@List.length_replicate
abbrev Gx:=@List.mem_singleton
abbrev GA:=@Nat.mul_le_mul_right
abbrev GB:=@List.all_eq_true
abbrev GC:=@Option.map_some
abbrev GD:=@List.drop_zero
abbrev GG:=@Array.getD_eq_getD_getElem?
abbrev GH:=@List.mem_iff_getElem?
abbrev GI:=@List.getElem?_cons_succ
abbrev GK:=@List.mem_cons_self
abbrev GL:=@List.append_nil
abbrev GM:=@List.length_take
abbrev GN:=@Array.length_toList
abbrev GP:=@List.length_eq_zero_iff
abbrev GV:=@List.eq_nil_of_length_eq_zero
abbrev GW:=@Array.getElem?_toList
abbrev GX:=@List.eq_of_mem_replicate
abbrev G3:=@List.cons_append
abbrev G4:=@Int.eq_ofNat_of_zero_le
abbrev G5:=@List.mem_of_mem_take
abbrev G7:=@Bool.not_eq_true'
abbrev G8:=@List.map_set
abbrev G9:=@List.getElem?_set
abbrev Hb:=@Nat.zero_add
abbrev Hc:=@Nat.lt_or_ge
abbrev He:=@List.map_cons
abbrev Hg:=@List.append_assoc
abbrev Hh:=@List.map_congr_left
abbrev Hi:=@Option.map_eq_some_iff
abbrev Hj:=@Nat.le_trans
abbrev Hk:=@List.getElem?_set_self
abbrev Hl:=@Array.getElem?_eq_none
abbrev Hm:=@Nat.add_assoc
abbrev Hn:=@Option.getD_some
abbrev Ho:=@List.take_append_drop
abbrev Hp:=@List.set_append_right
abbrev Hq:=@List.set_eq_take_append_cons_drop
abbrev Hs:=@Array.getElem?_eq_getElem
abbrev Ht:=@List.getElem?_set_ne
abbrev Hu:=@List.ext_getElem?
abbrev Hv:=@Prod.mk.injEq
abbrev Hw:=@List.flatten_append
abbrev Hx:=@List.eraseIdx_cons_succ
abbrev Hy:=@List.getElem?_replicate
abbrev HA:=@List.getElem?_drop
abbrev HB:=@Nat.lt_of_lt_of_le
abbrev HC:=@List.nodup_cons
abbrev HD:=@Bool.false_or
abbrev HE:=@List.eq_nil_or_concat
abbrev HF:=@List.getElem?_toArray
abbrev HG:=@List.nodup_append
abbrev HH:=@List.flatten_cons
abbrev HK:=@List.perm_middle
abbrev HL:=@Iff.rfl
abbrev HM:=@List.getElem_mem
abbrev HN:=@Nat.sub_self
abbrev HO:=@List.length_pos_iff
abbrev HP:=@List.getElem?_range
abbrev HQ:=@Bool.or_eq_true
abbrev HS:=@List.mem_filter
abbrev HU:=@Nat.succ_mul
abbrev HV:=@List.length_pos_of_mem
abbrev HY:=@List.sum_cons
abbrev H3:=@List.take_append_of_le_length
abbrev H4:=@List.contains_eq_mem
abbrev H5:=@Bool.or_eq_false_iff
abbrev H6:=@List.mem_of_mem_drop
abbrev H7:=@List.mem_append_left
abbrev H8:=@Nat.add_mul
abbrev Ib:=@List.range_succ
abbrev Ie:=@List.filterMap_cons
abbrev Ig:=@List.length_reverse
abbrev Ih:=@List.take_succ_cons
abbrev Ii:=@List.set_set
abbrev Ij:=@Bool.true_or
abbrev Io:=@Array.ext'
abbrev Ip:=@Array.getElem?_eq_some_iff
abbrev Iq:=@List.map_replicate
abbrev Iw:=@List.mem_or_eq_of_mem_set
abbrev Ix:=@List.length_range
abbrev Iy:=@List.take_add_one
abbrev Iz:=@List.flatMap_cons
abbrev IB:=@List.any_cons
abbrev ID:=@List.take_length
abbrev IE:=@List.eraseIdx_cons_zero
abbrev IH:=@Array.getElem!_eq_getD
abbrev II:=@Nat.zero_mul
abbrev IJ:=@Nat.add_zero
abbrev IM:=@List.nil_append
abbrev IN:=@List.length_singleton
abbrev IP:=@List.perm_append_comm
abbrev IQ:=@List.sizeOf_lt_of_mem
abbrev IS:=@Nat.eq_of_beq_eq_true
abbrev IT:=@List.range_eq_range'
abbrev IU:=@List.replicate_succ'
abbrev IV:=@Bool.not_false
abbrev I0:=@Ne.symm
abbrev I2:=@Array.toList_append
abbrev I4:=@List.getElem_range
abbrev I5:=@Nat.eq_zero_or_pos
abbrev I6:=@List.countP_append
abbrev I7:=@Option.any_eq_true
abbrev I8:=@Nat.mul_comm
abbrev I9:=@Nat.add_left_comm
abbrev Jb:=@Array.all_eq_true_iff_forall_mem
abbrev Jc:=@List.take_succ_eq_append_getElem
abbrev Je:=@Nat.le_of_eq
abbrev Jl:=@Array.getElem?_setIfInBounds_ne
abbrev Jm:=@List.drop_append
abbrev Jn:=@List.mem_flatMap
abbrev Jp:=@Array.eq_empty_of_size_eq_zero
abbrev Jq:=@List.exists_cons_of_length_pos
abbrev Jt:=@List.take_append
abbrev Ju:=@List.ext_getElem
abbrev Jx:=@Int.le_refl
abbrev Jz:=@Nat.min_eq_left
abbrev JA:=@Option.map_none
abbrev JB:=@List.mapM_cons
abbrev JC:=@Bool.false_and
abbrev JD:=@Nat.mod_lt
abbrev JE:=@List.take_zero
abbrev JF:=@Eq.trans
abbrev JG:=@List.nodup_nil
abbrev JL:=@List.drop_eq_getElem_cons
abbrev JM:=@List.getElem_append_right
abbrev JN:=@List.getElem?_eq_none_iff
abbrev JO:=@Array.mapM_eq_mapM_toList
abbrev JQ:=@Option.isSome_iff_exists
abbrev JR:=@List.length_erase_of_mem
abbrev JT:=@Bool.not_true
abbrev JY:=@List.filter_cons_of_neg
abbrev J0:=@Decidable.em
abbrev J1:=@Nat.add_comm
abbrev J2:=@Int.add_zero
abbrev J3:=@List.findIdx_eq_length
abbrev Kc:=@List.concat_eq_append
abbrev Kd:=@List.countP_eq_length
abbrev Ke:=@Array.getElem?_modify
abbrev Kf:=@List.drop_eq_nil_iff
abbrev Kg:=@Classical.not_forall
abbrev Kh:=@Nat.div_lt_of_lt_mul
abbrev Ks:=@List.drop_succ_cons
abbrev Kt:=@List.mem_map_of_mem
abbrev Ku:=@Go.Deep.open_slice
abbrev Kv:=@Option.isSome_none
abbrev KC:=@Array.any_eq_true
abbrev KD:=@List.pairwise_map
end Go.Lir
open Go
variable {α β Hd:Type}{P:Program}{w w' w'' w0:World}{n d cap m j s b l' es id off h' Ts nb Ty o0 n0 o1 n1 o2 n2 o3 n3:Nat}{ds:List Deferred}{f:FuncId}{args c cs cs' vs z:List Value}{fn:Func}{T T':TypeId}{xs:List Operand}{k k':IntKind}{y x0 x1 x2 x3:Operand}{lo hi mx:Option Operand}{mixed:Bool}{os:Array Oper}{R:Ending→World→Prop}{rs:List ResultVar}{ms:List Nat}{G F':Nat→Prop}{u v' v2 v0 v1 v3:Value}{ps:List (Nat×Nat×Operand)}{S:Value→World→Prop}{css:List (List Value)}
set_option linter.unusedVariables false
set_option linter.unusedSimpArgs false
set_option maxHeartbeats 1000000
namespace Go.Lir
section
variable {p:Prop}
theorem DB (h:p:=by omega):p:=h
theorem DE (h:p:=by simp;omega):p:=h
theorem DN (h:p:=by simp):p:=h
theorem D0 (h:p:=by simp [hx]):p:=h
theorem D4 (h:p:=by rw [decide_eq_false hp];exact h):p:=h
theorem D5 (h:p:=by rw [decide_eq_true hp];exact h):p:=h
theorem Ed (h:p:=by simp [hc]):p:=h
theorem Ee (h:p:=by simpa using hi):p:=h
theorem Em (h:p:=by simpa using h1):p:=h
theorem Et (h:p:=by apply Io;simpa using hxs):p:=h
theorem Ew (h:p:=by rw [hJ.hC];simp [hc]):p:=h
theorem EC (h:p:=by rw [←hJ.hC];exact hok):p:=h
theorem EE (h:p:=by rw [←GW] at hi;exact FC hi):p:=h
theorem EM (h:p:=by simp [fM,hi,hz]):p:=h
theorem ER (h:p:=by rw [List.mem_zipIdx_iff_getElem?];simpa using ho):p:=h
theorem Fb (h:p:=by rw [←GN,hzc];exact hzl):p:=h
theorem Ff (h:p:=by intro c hc;rw [GX hc];exact hzl):p:=h
theorem Fg (h:p:=by rw [←Hw,Ho]):p:=h
theorem Fk (h:p:=by rw [FW,FB Jo];rfl):p:=h
end
end Go.Lir
namespace Go.Lir
section
variable {p:Prop}
theorem BB (h:p:=by exact ⟨h0,a,cap,hv,hlc, .inl hc⟩):p:=h
theorem Cc (h:p:=by exact m8 (fun ρ w hk=>ih h hk) (fun e ρ w _ hq=>h _ _ _ hq) hw):p:=h
theorem Cf (h:p:=by exact ⟨[], .slice none 0 0,[],rfl,⟨by simp,none,0,rfl,F6 _, .inl rfl⟩,rfl,by simp,by simp⟩):p:=h
theorem CA (h:p:=by exact xY ht (fun s hs=>h s (by simp [GO.uses,hs])) hk hq hw):p:=h
theorem CG (h:p:=by exact m9 (fst:=#[]) (cap:=#[]) rfl h1 h2 h3 (by simpa [LO.wp] using h)):p:=h
end
end Go.Lir
namespace Go.Lir
section
variable {p:Prop}
theorem Jo (h:p:=by omega):p:=h
theorem Jd (h:p:=by decide):p:=h
theorem Js (h:p:=by simp):p:=h
theorem Jk (h:p:=by kernel_rfl):p:=h
theorem Jr (h:p:=by rfl):p:=h
theorem Ja (h:p:=by assumption):p:=h
end
end Go.Lir
namespace Go.Lir
section

abbrev La:=Nat→Value

def upd (ρ:La)(d:Nat)(v:Value):La:=fun i=>bif Nat.beq i d then v else ρ i

def La.ev (ρ:La):Operand→Value
 | .tmp t=>ρ t
 | .const v=>v
 | .global g=> .pointer (some ⟨g,0,none⟩)
 | .func f=> .func (.func f) #[] #[]

def Lq (ρ:La)(d:Option Nat)(v:Value):La:=match d with|some d=>upd ρ d v|none=>ρ

def OW (n:Nat)(ρ:La)(ds:List Deferred)(a:Act):Prop:=a.tmps.size=n∧(∀i,a.tmps.getD i undef=ρ i)∧a.defers=ds

theorem OW.ev {n ρ ds a}(h:OW n ρ ds a):a.eval=ρ.ev:=by
 funext x;cases x<;>simp [Act.eval,La.ev,h.2.1]

theorem OW.put {n ρ ds a}(h:OW n ρ ds a)(d:Option Nat)(v:Value)(hd:∀x,d=some x→x<n):OW n (Lq ρ d v) ds (a.put d v):=by
 cases d with
 | none=>exact h
 | some d=>
   have hdn:=hd d rfl;obtain ⟨h1,h2,h3⟩:=h;refine ⟨by simp [Act.put,h1],fun i=>?_,h3⟩;have:=h2 i;simp only [Act.put,Lq,upd];by_cases hi:i=d
   · subst hi;simp [Array.getD,h1,hdn]
   · have hb:Nat.beq i d=false:=by
      cases hbb:Nat.beq i d
      · rfl
      · exact absurd (IS hbb) hi
     rw [hb];simp only [cond_false];rw [←this];simp only [GG];rw [Jl Jo]

abbrev QT:=Exit→La→World→Prop
abbrev KT:=La→World→Prop

def ag (n:Nat)(ds:List Deferred)(K:KT):Act→World→Prop:=fun a w=>∃ρ,OW n ρ ds a∧K ρ w
def ah (n:Nat)(ds:List Deferred)(Q:QT):Exit→Act→World→Prop:=fun e a w=>∃ρ,OW n ρ ds a∧Q e ρ w

def P6 (P:Program)(o:Oper)(ρ:La)(w:World)(K:KT)(Q:QT):Prop:=
 match (execOp ρ.ev o).run P w with
 | .ok (.value v) w'=>K (Lq ρ o.dst v) w'
 | .ok .skip w'=>K (Lq ρ o.dst undef) w'
 | .ok (.enter f args) w'=>Calls P f args w' fun
    | .returned v,w''=>K (Lq ρ o.dst v) w''
    | .panicked chain,w''=>Q (.panic chain) ρ w''
    | .outgrown,_=>Q .outgrown ρ w'
 | .ok (.row row args) w'=>Rows P row args w' fun v w''=>K (Lq ρ o.dst v) w''
 | .halt (.panic v) w'=>Q (.panic [{v,recovered:=false}]) ρ w'
 | _=>False

theorem ss {o:Oper}{ρ:La}{K:KT}{Q:QT}{a:Act}
 (hr:OW n ρ ds a)(hd:∀x,o.dst=some x→x<n)(h:P6 P o ρ w K Q):o.wp P a w (ag n ds K) (ah n ds Q):=by
 unfold Oper.wp;rw [hr.ev];unfold P6 at h;generalize (execOp ρ.ev o).run P w=r at h;unfold Oper.upon;split at h
 · exact ⟨_,hr.put _ _ hd,h⟩
 · exact ⟨_,hr.put _ _ hd,h⟩
 · refine h.mono fun e w'' h=>?_
   cases e with
   | returned v=>exact ⟨_,hr.put _ _ hd,h⟩
   | panicked ch=>exact ⟨_,hr,h⟩
   | outgrown=>exact ⟨a,_,_,hr,h⟩
 · exact h.mono fun v w' h=>⟨_,hr.put _ _ hd,h⟩
 · exact ⟨_,hr,h⟩
 · exact h.elim

def oneC:Value→Bool
 | .agg _| .tuple _=>false
 | _=>true

def Od (cells:List Value):List (Nat×Nat×Value)→Option (List Value)
 | []=>some cells
 | (off,size,v)::rest=>
   if v.cells.size=size∧off+size≤cells.length then Od (cells.take off++(v.cells.toList++cells.drop (off+size))) rest
   else none


inductive LO where
 | mov (d:Nat) (x:Operand)
 | pick (d:Nat) (c x y:Operand)
 | un (d:Nat) (op:UnOp) (x:Operand)
 | bin (d:Nat) (op:BinOp) (T:TypeId) (x y:Operand)
 | nilc (d:Nat) (x:Operand)
 | fld (d:Nat) (x:Operand) (off:Nat)
 | load1 (d:Nat) (x:Operand)
 | loadn (d:Nat) (n:Nat) (x:Operand)
 | store1 (x v:Operand)
 | storen (n:Nat) (x v:Operand)
 | idx (d:Nat) (es:Nat) (x i:Operand)
 | idxa (d:Nat) (n es:Nat) (x i:Operand)
 | len (d:Nat) (x:Operand)
 | slen (d:Nat) (x:Operand)
 | sidx (d:Nat) (x i:Operand)
 | ext (d:Nat) (x:Operand) (i:Nat)
 | fldv (d:Nat) (x:Operand) (off:Nat)
 | fldn (d:Nat) (x:Operand) (off n:Nat)
 | alloc (d:Nat) (T:TypeId) (zero:List Value)
 | box (d:Nat) (T:TypeId) (x:Operand)
 | call (d:Option Nat) (f:FuncId) (xs:List Operand)
 | callv (d:Option Nat) (x:Operand) (xs:List Operand)
 | build (d:Nat) (zero:List Value) (parts:List (Nat×Nat×Operand))
 | buildS (d:Nat) (T:TypeId) (n:Nat) (zero:List Value) (parts:List (Nat×Nat×Operand))
 | mkfn (d:Nat) (f:FuncId) (caps:List Operand)
 | sub (d:Nat) (es:Nat) (x:Operand) (lo hi mx:Option Operand)
 | ssub (d:Nat) (x:Operand) (lo hi:Option Operand)
 | mnx (d:Nat) (isMax:Bool) (x y:Operand)
 | conv (d:Nat) (k:IntKind) (x:Operand)
 | mki (d:Nat) (T:TypeId) (x:Operand)
 | raw (o:Oper)

def LO.dst:LO→Option Nat
 | .mov d _| .pick d ..| .un d ..| .bin d ..| .nilc d _| .fld d ..| .load1 d _| .loadn d ..| .idx d ..| .idxa d ..| .len d _| .slen d _| .sidx d ..| .ext d ..
 | .fldv d ..| .fldn d ..| .alloc d ..| .box d ..| .build d ..| .buildS d ..| .mkfn d ..| .sub d ..| .ssub d ..| .mnx d ..| .conv d ..| .mki d ..=>some d
 | .store1 ..| .storen ..=>none
 | .call d ..| .callv d ..=>d
 | .raw o=>o.dst

def aj (w:World)(a:Addr)(n:Nat)(cs:List Value):Prop:=cs.length=n∧∀j,j<n→w.cell? (a.add j)=cs[j]?

def Nl (ρ:La)(dflt:Nat):Option Operand→Nat→Prop
 | none,n=>n=dflt
 | some x,n=>∃k,ρ.ev x= .int k n

def Q6 (K:KT)(Q:QT)(d:Option Nat)(ρ:La)(w:World):Ending→World→Prop
 | .returned v,w''=>K (Lq ρ d v) w''
 | .panicked chain,w''=>Q (.panic chain) ρ w''
 | .outgrown,_=>Q .outgrown ρ w

def LO.wp (P:Program)(ρ:La)(w:World)(K:KT)(Q:QT):LO→Prop
 | .mov d x=>K (upd ρ d (ρ.ev x)) w
 | .pick d c x y=>∃b,ρ.ev c= .bool b∧K (upd ρ d (if b then ρ.ev x else ρ.ev y)) w
 | .un d op x=>∃v,(∀w0,(Op.unary op (ρ.ev x)).run P w0= .ok v w0)∧K (upd ρ d v) w
 | .bin d op T x y=>∃v,(∀w0,(do eqGuard op T x y (ρ.ev x) (ρ.ev y);binOp op T (ρ.ev x) (ρ.ev y)).run P w0= .ok v w0)∧K (upd ρ d v) w
 | .nilc d x=>∃a,ρ.ev x= .pointer (some a)∧K (upd ρ d (.pointer (some a))) w
 | .fld d x off=>∃a,ρ.ev x= .pointer (some a)∧K (upd ρ d (.pointer (some (a.add off)))) w
 | .load1 d x=>∃a v,ρ.ev x= .pointer (some a)∧w.cell? a=some v∧K (upd ρ d v) w
 | .loadn d n x=>∃a cs,ρ.ev x= .pointer (some a)∧aj w a n cs∧K (upd ρ d (.agg ⟨cs⟩)) w
 | .store1 x v=>∃a c,ρ.ev x= .pointer (some a)∧w.cell? a=some c∧w.frozen? a=false∧oneC (ρ.ev v)=true∧K ρ (w.setCell a (ρ.ev v))
 | .storen n x v=>∃a cs w',ρ.ev x= .pointer (some a)∧ρ.ev v= .agg cs∧cs.size=n∧(storeCells a cs.toList).run P w= .ok () w'∧K ρ w'
 | .idx d es x i=>∃a len cap k n,ρ.ev x= .slice (some a) len cap∧ρ.ev i= .int k n∧0≤n∧n<len∧K (upd ρ d (.pointer (some (a.add (n.toNat*es))))) w
 | .idxa d m es x i=>∃a k n,ρ.ev x= .pointer (some a)∧ρ.ev i= .int k n∧0≤n∧n<(m:Int)∧K (upd ρ d (.pointer (some (a.add (n.toNat*es))))) w
 | .len d x=>∃a n c,ρ.ev x= .slice a n c∧K (upd ρ d (.int .i64 n)) w
 | .slen d x=>∃s,ρ.ev x= .string s∧K (upd ρ d (.int .i64 s.size)) w
 | .sidx d x i=>∃s k n b,ρ.ev x= .string s∧ρ.ev i= .int k n∧0≤n∧s[n.toNat]?=some b∧K (upd ρ d (.int .u8 b.toNat)) w
 | .ext d x i=>∃vs v,ρ.ev x= .tuple vs∧vs[i]?=some v∧K (upd ρ d v) w
 | .fldv d x off=>∃cs v,ρ.ev x= .agg cs∧cs[off]?=some v∧K (upd ρ d v) w
 | .fldn d x off n=>∃cs,ρ.ev x= .agg cs∧K (upd ρ d (.agg (cs.extract off (off+n)))) w
 | .alloc d T z=>K (upd ρ d (.pointer (some ⟨w.heap.size,0,none⟩))) (w.alloc (.cells ⟨z⟩ T))
 | .box d T x=>K (upd ρ d (.pointer (some ⟨w.heap.size,0,none⟩))) (w.alloc (.cells (ρ.ev x).cells T))
 | .call d f xs=>Calls P f ⟨xs.map ρ.ev⟩ w (Q6 K Q d ρ w)
 | .callv d x xs => ∃ f fst cap fn, ρ.ev x = .func (.func f) fst cap ∧ P.funcs[f]? = some fn ∧ fn.body.isSome = true ∧ (fn.name == "runtime.NumGoroutine") = false ∧ Calls P f (fst ++ ⟨xs.map ρ.ev⟩ ++ cap) w (Q6 K Q d ρ w)
 | .build d z ps=>∃cs,Od z (ps.map fun p=>(p.1,p.2.1,ρ.ev p.2.2))=some cs∧K (upd ρ d (.agg ⟨cs⟩)) w
 | .buildS d T n z ps=>∃cs,Od z (ps.map fun p=>(p.1,p.2.1,ρ.ev p.2.2))=some cs∧K (upd ρ d (.slice (some ⟨w.heap.size,0,none⟩) n n)) (w.alloc (.cells ⟨cs⟩ T))
 | .mkfn d f caps=>K (upd ρ d (.func (.func f) #[] ⟨caps.map ρ.ev⟩)) w
 | .sub d es x lo hi mx=>∃a len cap l h m,ρ.ev x= .slice a len cap∧Nl ρ cap mx m∧Nl ρ len hi h∧Nl ρ 0 lo l∧m≤cap∧h≤m∧l≤h∧
    K (upd ρ d (.slice (if m=l then a else a.map (·.add (l*es))) (h - l) (m - l))) w
 | .ssub d x lo hi=>∃s l h,ρ.ev x= .string s∧Nl ρ s.size hi h∧Nl ρ 0 lo l∧h≤s.size∧l≤h∧K (upd ρ d (.string (s.extract l h))) w
 | .mnx d isMax x y=>∃k k' a b,ρ.ev x= .int k a∧ρ.ev y= .int k' b∧K (upd ρ d (.int k (if isMax then (if a<b then b else a) else (if b<a then b else a)))) w
 | .conv d k x=>∃k' n,ρ.ev x= .int k' n∧K (upd ρ d (.int k (k.wrap n))) w
 | .mki d T x=>K (upd ρ d (.iface T (ρ.ev x))) w
 | .raw o=>P6 P o ρ w K Q


def Tu (P:Program)(T:TypeId):Bool:=match P.underlying T with
 | some (.struct _)|some (.array _ _)=>false
 | some _=>true
 | none=>false
def P7 (P:Program)(T:TypeId):Bool:=match P.underlying T with
 | some (.struct _)|some (.array _ _)=>true
 | _=>false
def OB (P:Program)(T:TypeId):Option Nat:=(P.info? T).map (·.size)
def fM (P:Program)(T:TypeId):Option Value:=(P.info? T).bind (·.zero)

def lj (P:Program)(S:TypeId)(f:Nat):Option (Nat×TypeId):=match P.underlying S with
 | some (.struct fs)=>(fs[f]?).map fun x=>(x.offset,x.type)
 | _=>none

def fO (P:Program)(T:TypeId):Option TypeId:=match P.underlying T with
 | some (.slice e)=>some e
 | _=>none
def bJ (P:Program)(T:TypeId):Option (Nat×TypeId):=match P.underlying T with
 | some (.array n e)=>some (n,e)
 | _=>none
def gZ (P:Program)(T:TypeId):Bool:=match P.underlying T with
 | some .string=>true
 | _=>false

def su (P:Program)(T:TypeId):Option (Nat→Option (Nat×Nat)):=match P.underlying T with
 | some (.struct fs)=>if fs.toList.all (fun f=>(OB P f.type).isSome) then some (fun i=>(fs[i]?).bind fun f=>(OB P f.type).map fun s=>(f.offset,s)) else none
 | some (.array _ e)=>(OB P e).map fun s=>fun i=>some (i*s,s)
 | _=>none

def XH (pl:Nat→Option (Nat×Nat)):List (Nat×Operand)→Option (List (Nat×Nat×Operand))
 | []=>some []
 | (i,x)::rest=>match pl i,XH pl rest with
   | some (o,s),some r=>some ((o,s,x)::r)
   | _,_=>none

def XI (P:Program)(T:TypeId):Option IntKind:=match P.underlying T with
 | some (.int k)=>some k
 | _=>none
def ng (P:Program)(T:TypeId):Bool:=match P.underlying T with
 | some (.interface _)=>true
 | some _=>false
 | none=>true

def SP (P : Program)(f : FuncId): Bool := (P.funcs[f]?).any fun fn => fn.body.isSome && !(fn.name == "runtime.NumGoroutine")

def K7 (P:Program)(o:Oper):LO:=
 match o.dst with
 | none=>match o.op with
   | .store T x v=>match Tu P T,OB P T with
     | true,some 1=> .store1 x v
     | false,some n=>if P7 P T then .storen n x v else .raw o
     | _,_=> .raw o
   | .call ⟨.value (.func f),xs,_⟩=>if SP P f then .call none f xs.toList else .raw o
   | .call ⟨.value (.tmp f),xs,_⟩=> .callv none (.tmp f) xs.toList
   | _=> .raw o
 | some d=>match o.op with
   | .move x| .assign x=> .mov d x
   | .pick c x y=> .pick d c x y
   | .unOp op _ x=> .un d op x
   | .binOp op T x y _=> .bin d op T x y
   | .nilCheck x=> .nilc d x
   | .fieldAddr S x f=>match lj P S f with
     | some (off,t)=>match OB P t with
       | some (_+1)=> .fld d x off
       | _=> .raw o
     | none=> .raw o
   | .load T x=>match Tu P T with
     | true=> .load1 d x
     | false=>match OB P T with
       | some n=>if P7 P T then .loadn d n x else .raw o
       | none=> .raw o
   | .indexAddr T x i=>match fO P T with
     | some e=>match OB P e with
       | some s=> .idx d s x i
       | none=> .raw o
     | none=>match bJ P T with
       | some (n,e)=>match OB P e with
         | some s=> .idxa d n s x i
         | none=> .raw o
       | none=> .raw o
   | .index T x i=>if gZ P T then .sidx d x i else .raw o
   | .extract x i=> .ext d x i
   | .field S x f=>match lj P S f with
     | some (off,t)=>match Tu P t with
       | true=> .fldv d x off
       | false=>match OB P t with
         | some n=>if P7 P t then .fldn d x off n else .raw o
         | none=> .raw o
     | none=> .raw o
   | .alloc T=>match fM P T with
     | some z=> .alloc d T z.cells.toList
     | none=> .raw o
   | .box T x=> .box d T x
   | .build T ps=>match fM P T,su P T with
     | some z,some pl=>match XH pl ps.toList with
       | some l=> .build d z.cells.toList l
       | none=> .raw o
     | _,_=> .raw o
   | .buildSlice T n ps=>match fO P T with
     | some e=>match fM P e,OB P e with
       | some z,some s=>match XH (fun i=>some (i*s,s)) ps.toList with
         | some l=>if 0<s∧0<n∧n*s≤1000∧z.cells.size=s then .buildS d e n ((List.range (n*s)).map fun i=>z.cells.toList.getD (i % s) default) l else .raw o
         | none=> .raw o
       | _,_=> .raw o
     | none=> .raw o
   | .makeFunc (.func f) fst caps=>if fst.size=0 then .mkfn d f caps.toList else .raw o
   | .call ⟨.value (.func f),xs,_⟩=>if SP P f then .call (some d) f xs.toList else .raw o
   | .call ⟨.value (.tmp f),xs,_⟩=> .callv (some d) (.tmp f) xs.toList
   | .slice T x lo hi mx=>match fO P T with
     | some e=>match OB P e with
       | some s=>if mx.isSome && hi.isNone then .raw o else .sub d s x lo hi mx
       | none=> .raw o
     | none=>if gZ P T && mx.isNone then .ssub d x lo hi else .raw o
   | .convert S T x=>match XI P S,XI P T with
     | some _,some k=> .conv d k x
     | _,_=> .raw o
   | .makeInterface T x=>if ng P T then .raw o else .mki d T x
   | .call ⟨.builtin .min,xs,_⟩=>match xs.toList with
     | [x,y]=> .mnx d false x y
     | _=> .raw o
   | .call ⟨.builtin .max,xs,_⟩=>match xs.toList with
     | [x,y]=> .mnx d true x y
     | _=> .raw o
   | .call ⟨.builtin .len,xs,ts⟩=>match xs.toList,ts.toList with
     | [x],[T]=>if gZ P T then .slen d x else if (fO P T).isSome then .len d x else .raw o
     | _,_=> .raw o
   | _=> .raw o

def ak (o : Oper): Oper := ⟨o.dst, o.op, o.type, "", #[], none⟩
def fP (P:Program)(o:Oper):LO:=match K7 P o with
 | .raw o=> .raw (ak o)
 | x=>x

end
section

section
variable {P:Program}{o:Oper}{ρ:La}{w w':World}{K:KT}{Q:QT}{v:Value}

theorem Nq (h:(execOp ρ.ev o).run P w= .ok (.value v) w')(hk:K (Lq ρ o.dst v) w'):P6 P o ρ w K Q:=by
 unfold P6;rw [h];exact hk
theorem sx (h:(execOp ρ.ev o).run P w= .ok .skip w')(hk:K (Lq ρ o.dst undef) w'):P6 P o ρ w K Q:=by
 unfold P6;rw [h];exact hk
end

theorem g8 (P:Program)(T:TypeId)(i:TypeInfo)(w:World)(h:P.info? T=some i):(typeInfo T).run P w= .ok i w:=by
 simp [typeInfo,h]
theorem RG (P:Program)(T:TypeId)(n:Nat)(w:World)(h:OB P T=some n):(sizeOf T).run P w= .ok n w:=by
 unfold OB at h
 cases hi:P.info? T with
 | none=>simp [hi] at h
 | some i=>simp [hi] at h;simp [sizeOf,g8 P T i w hi,h]
theorem bK (P:Program)(T:TypeId)(z:Value)(w:World)(h:fM P T=some z):(zeroValue T).run P w= .ok z w:=by
 unfold fM at h
 cases hi:P.info? T with
 | none=>simp [hi] at h
 | some i=>simp [hi] at h;simp [zeroValue,g8 P T i w hi,h]
theorem Q8 (P:Program)(T:TypeId)(d:TypeDesc)(w:World)(h:P.underlying T=some d):(underlying T).run P w= .ok d w:=by
 simp [underlying,h]
theorem nh (P:Program)(T:TypeId)(w:World)(h:Tu P T=true):(isAgg T).run P w= .ok false w:=by
 unfold Tu at h
 cases hu:P.underlying T with
 | none=>simp [hu] at h
 | some d=>simp [isAgg,Q8 P T d w hu];cases d<;>simp [hu] at h ⊢
theorem nj (P:Program)(T:TypeId)(w:World)(h:P7 P T=true):(isAgg T).run P w= .ok true w:=by
 unfold P7 at h
 cases hu:P.underlying T with
 | none=>simp [hu] at h
 | some d=>simp [isAgg,Q8 P T d w hu];cases d<;>simp [hu] at h ⊢

theorem xZ (a:Addr):a.add 0=a:=rfl

theorem nk (P:Program)(T:TypeId)(cs:Array Value)(off:Nat)(v:Value)(w:World)(h:Tu P T=true)(hv:cs[off]?=some v):
 (part T cs off).run P w= .ok v w:=by
 simp [part,nh P T w h,hv]
theorem yb (P:Program)(T:TypeId)(cs:Array Value)(off n:Nat)(w:World)(h:P7 P T=true)(hn:OB P T=some n):
 (part T cs off).run P w= .ok (.agg (cs.extract off (off+n))) w:=by
 simp [part,nj P T w h,RG P T n w hn]

theorem yd (v:List Value):∀(k off:Nat) (cs:Array Value),off+k+v.length≤cs.size→
 ((v.zipIdx k).foldl (fun cs (c,j)=>cs.setIfInBounds (off+j) c) cs).toList=cs.toList.take (off+k)++(v++cs.toList.drop (off+k+v.length)):=by
 induction v with
 | nil=>intro k off cs h;simp
 | cons c v ih=>
   intro k off cs h;simp only [List.zipIdx_cons,List.foldl_cons];simp only [FP] at h;rw [show off+k+(c::v).length=off+(k+1)+v.length by simp;omega,ih (k+1) off _ DE];have hsz:cs.toList.length=cs.size:=GN;have hl:off+k<cs.toList.length:=DB;simp only [Array.toList_setIfInBounds];generalize cs.toList=l at hsz hl ⊢;rw [←Hm,Hq,if_pos hl];have hm:(l.take (off+k)).length=off+k:=by simp;omega
   have e1:List.take (off+k+1) (l.take (off+k)++c::l.drop (off+k+1))=l.take (off+k)++[c]:=by
    rw [Jt,hm,Gd Jo,show off+k+1 - (off+k)=1 by omega];rfl
   have e2:List.drop (off+k+1+v.length) (l.take (off+k)++c::l.drop (off+k+1))=l.drop (off+k+1+v.length):=by
    rw [Jm,hm,FJ Jo,show off+k+1+v.length - (off+k)=v.length+1 by omega];simp [J1,I9,Hm]
   rw [e1,e2];simp

theorem nm (place:Nat→Option (Nat×Nat))(ρ:La):∀(ps:List (Nat×Operand)) (l:List (Nat×Nat×Operand)) (cells:Array Value) (cs:List Value),
 XH place ps=some l→Od cells.toList (l.map fun p=>(p.1,p.2.1,ρ.ev p.2.2))=some cs→
 Instr.fill place cells (ps.map fun p=>(p.1,ρ.ev p.2))=some ⟨cs⟩:=by
 intro ps
 induction ps with
 | nil=>intro l cells cs h1 h2;simp [XH] at h1;subst h1;simp [Od] at h2;subst h2;simp [Instr.fill]
 | cons p ps ih=>
   obtain ⟨i,x⟩:=p;intro l cells cs h1 h2;simp only [XH] at h1;split at h1
   · rename_i off s r hpl hr
     simp only [FU] at h1;subst h1;simp only [He,Od] at h2;split at h2
     · rename_i hc;have hlen:(ρ.ev x).cells.toList.length=s:=(by simpa using hc.1);have hsz:cells.toList.length=cells.size:=GN;simp only [He,Instr.fill,hpl];rw [if_neg (by have h4:=hc.2;have h3:(ρ.ev x).cells.size=s:=hc.1;simp only [HQ,decide_eq_true_eq];rintro (h|h);exact h h3;omega)];refine ih r _ cs hr ?_;have:=yd (ρ.ev x).cells.toList 0 off cells (by have:=hc.2;omega);rw [←Array.foldl_toList,Array.toList_zipIdx,this,IJ,hlen];exact h2
     · cases h2
   · cases h1

section
variable {P:Program}{ρ:La}{w:World}{K:KT}{Q:QT}

theorem hU (a:Addr)(n:Nat)(cs:List Value)(h:aj w a n cs):(loadCells a n).run P w= .ok ⟨cs⟩ w:=by
 obtain ⟨hl,hc⟩:=h;subst hl
 exact run_loadCells_list (P:=P) (w:=w) a cs (fun j v hj=>by
  have:j<cs.length:=by
   rcases Hc j cs.length with h|h
   · exact h
   · simp [Gb h] at hj
  rw [hc j this,hj])

theorem ye {args:Array Value}{d:Option Nat}(h:Calls P f args w (Q6 K Q d ρ w)):
 Calls P f args w fun
  | .returned v,w''=>K (Lq ρ d v) w''
  | .panicked chain,w''=>Q (.panic chain) ρ w''
  | .outgrown,_=>Q .outgrown ρ w:=
 h.mono fun e w' h=>by cases e<;>exact h

theorem sy (args : Array Value)(hf : P.funcs[f]? = some fn)(hb : fn.body.isSome = true)(hn : (fn.name == "runtime.NumGoroutine") = false):
 (callFunc f args).run P w= .ok (.enter f args) w:=by
 have hb':fn.body.isNone=false:=(by cases h:fn.body<;>simp_all);simp only [callFunc,F7,run_program,FO,hf,hn,hb'];rfl

theorem m9 {d:Option Nat}{pos:String}{af:Array Edge}{g:Option (Nat×Bool)}{x:Operand}{xs:Array Operand}{ts:Array TypeId}{fst cap:Array Value}
 (hx : ρ.ev x = .func (.func f) fst cap)(hf : P.funcs[f]? = some fn)(hb : fn.body.isSome = true)(hn : (fn.name == "runtime.NumGoroutine") = false)
 (h:Calls P f (fst++⟨xs.toList.map ρ.ev⟩++cap) w (Q6 K Q d ρ w)):
 P6 P ⟨d, .call ⟨.value x,xs,ts⟩,T,pos,af,g⟩ ρ w K Q:=by
 have e:(execOp ρ.ev ⟨d, .call ⟨.value x,xs,ts⟩,T,pos,af,g⟩).run P w= .ok (.enter f (fst++xs.map ρ.ev++cap)) w:=by
  simp only [execOp,resolve,hx,Deferred.ofValue,F7,Gk,FO,invoke];rw [sy _ hf hb hn]
 unfold P6;rw [e]
 have he:(⟨xs.toList.map ρ.ev⟩:Array Value)=xs.map ρ.ev:=by
  apply Io;simp
 rw [he] at h;exact ye h

theorem sA (h : SP P f = true): ∃ fn, P.funcs[f]? = some fn ∧ fn.body.isSome = true ∧ (fn.name == "runtime.NumGoroutine") = false := by
 unfold SP at h
 cases hf:P.funcs[f]? with
 | none=>simp [hf] at h
 | some fn=>exact ⟨fn,rfl,by simpa [hf] using h⟩

theorem sB {S f off t}(h:lj P S f=some (off,t)):∃fs fl,P.underlying S=some (.struct fs)∧fs[f]?=some fl∧fl.offset=off∧fl.type=t:=by
 unfold lj at h;split at h
 · rename_i fs hu
   cases hf:fs[f]? with
   | none=>simp [hf] at h
   | some fl=>simp [hf] at h;exact ⟨fs,fl,hu,hf,h.1,h.2⟩
 · cases h
theorem lk {T e}(h:fO P T=some e):P.underlying T=some (.slice e):=by
 unfold fO at h;split at h<;>simp_all
theorem yf {T n e}(h:bJ P T=some (n,e)):P.underlying T=some (.array n e):=by
 unfold bJ at h;split at h<;>simp_all
theorem np {T}(h:gZ P T=true):P.underlying T=some .string:=by
 unfold gZ at h;split at h<;>simp_all

theorem yh (fs:List Field)(w:World)(h:∀f∈fs,(OB P f.type).isSome=true):
 (fs.mapM (fun f=>do pure (f.offset,←sizeOf f.type):Field→Sem (Nat×Nat))).run P w= .ok (fs.map fun f=>(f.offset,(OB P f.type).getD 0)) w:=by
 induction fs with
 | nil=>simp
 | cons f fs ih=>
   have hf:=h f Js;obtain ⟨n,hn⟩:=JQ.1 hf;simp only [JB,F7,RG P f.type n w hn,FO,Gk,ih (fun x hx=>h x D0),He,hn,Hn]
end

theorem yi {pl pl':Nat→Option (Nat×Nat)}(hp:∀i x,pl i=some x→pl' i=some x):∀(ps:List (Nat×Operand)) l,XH pl ps=some l→XH pl' ps=some l:=by
 intro ps
 induction ps with
 | nil=>intro l h;exact h
 | cons p ps ih=>
   obtain ⟨i,x⟩:=p;intro l h;simp only [XH] at h ⊢;split at h
   · rename_i o s r h1 h2;rw [hp _ _ h1,ih _ h2];exact h
   · cases h

theorem sC {T k}(h:XI P T=some k):P.underlying T=some (.int k):=by
 unfold XI at h;split at h<;>simp_all
theorem yj {T}(h:¬ng P T=true):∃d,P.underlying T=some d∧∀ms,d≠ .interface ms:=by
 unfold ng at h;split at h
 · simp at h
 · rename_i d hd hu;exact ⟨d,hu,fun ms hm=>hd ms (by rw [←hm])⟩
 · simp at h

theorem XJ {y:Nat}{c:BoundsCode}(h:n≤y):(Instr.sliceBound (.int k n) y c).run P w= .ok n w:=by
 have:(n:Int)≤y:=DB;simp [Instr.sliceBound,asIntOf,this]

theorem sD {ρ:La}{isS:Bool}{len:Nat}{l h:Nat}(hm:Nl ρ cap mx m)(hh:Nl ρ len hi h)(hl:Nl ρ 0 lo l)
 (h1:m≤cap)(h2:h≤m)(h3:l≤h)(hmx:mx.isSome=true→hi.isSome=true):
 (Instr.sliceBounds isS len cap (lo.map ρ.ev) (hi.map ρ.ev) (mx.map ρ.ev)).run P w= .ok (l,h,m) w:=by
 cases mx with
 | none=>
   simp only [Nl] at hm;subst hm
   cases hi with
   | none=>
     simp only [Nl] at hh;subst hh
     cases lo with
     | none=>simp only [Nl] at hl;subst hl;simp [Instr.sliceBounds]
     | some x=>obtain ⟨k,hx⟩:=hl;simp [Instr.sliceBounds,hx,XJ h3]
   | some y=>
     obtain ⟨k,hy⟩:=hh
     cases lo with
     | none=>simp only [Nl] at hl;subst hl;simp [Instr.sliceBounds,hy,XJ h2]
     | some x=>obtain ⟨k,hx⟩:=hl;simp [Instr.sliceBounds,hy,hx,XJ h2,XJ h3]
 | some z=>
   obtain ⟨k,hz⟩:=hm
   cases hi with
   | none=>simp at hmx
   | some y=>
     obtain ⟨k,hy⟩:=hh
     cases lo with
     | none=>simp only [Nl] at hl;subst hl;simp [Instr.sliceBounds,hz,hy,XJ h1,XJ h2]
     | some x=>obtain ⟨k,hx⟩:=hl;simp [Instr.sliceBounds,hz,hy,hx,XJ h1,XJ h2,XJ h3]

theorem yk {o:Oper}{ρ:La}{K:KT}{Q:QT}{h:(K7 P o).wp P ρ w K Q}:P6 P o ρ w K Q:=by
 obtain ⟨dst,op,T,pos,af,g⟩:=o
 cases dst with
 | none =>
   cases op;all_goals try exact h
   case store T x v=>
    simp only [K7] at h;split at h
    · rename_i hs hz;obtain ⟨a,c,hx,hc,hf,ho,hk⟩:=h;refine sx (w':=w.setCell a (ρ.ev v)) ?_ hk;have hcs:(ρ.ev v).cells=#[ρ.ev v]:=(by cases hv:ρ.ev v<;>simp_all [Value.cells,oneC]);have ho':(ρ.ev v).oneCell'=true:=(by cases hv:ρ.ev v<;>simp_all [Value.oneCell',oneC]);simp [execOp,Instr.storeAt,Instr.sureAddr,hx,storeVar,RG P T 1 w hz,hcs,storeCells,xZ,run_store P w a _ .plain ho',hc,hf]
    · rename_i n hs hz
      split at h
      · rename_i ha;obtain ⟨a,cs,w',hx,hv,hn,hst,hk⟩:=h;refine sx (w':=w') ?_ hk;simp [execOp,Instr.storeAt,Instr.sureAddr,hx,hv,storeVar,RG P T n w hz,Value.cells,hn,hst]
      · exact h
    · exact h
   case call c=>
    obtain ⟨callee,xs,ts⟩:=c
    cases callee with
    | invoke=>exact h
    | builtin=>exact h
    | value f=>
      cases f with
      | const=>exact h
      | global=>exact h
      | func f=>
        simp only [K7] at h;split at h
        · rename_i hg;obtain ⟨fn,h1,h2,h3⟩:=sA hg;exact CG
        · exact h
      | tmp f=>
        obtain ⟨f,fst,cap,fn,hx,h1,h2,h3,h4⟩:=h;exact m9 hx h1 h2 h3 h4
 | some d =>
   cases op;all_goals try exact h
   case pick c x y=>
    obtain ⟨b,hb,hk⟩:=h;refine Nq (w':=w) ?_ hk;simp [execOp,hb,asBool]
   case unOp op T x=>
    obtain ⟨v,hb,hk⟩:=h;have hb:=hb w;exact Nq (w':=w) (by simp [execOp,hb]) hk
   case binOp op T x y T'=>
    obtain ⟨v,hb,hk⟩:=h;have hb:=hb w;refine Nq (w':=w) ?_ hk;simp only [execOp,F7] at hb ⊢;rw [hb];rfl
   case nilCheck x=>
    obtain ⟨a,hx,hk⟩:=h;refine Nq (w':=w) ?_ hk;simp [execOp,hx]
   case extract x i=>
    obtain ⟨vs,v,hx,hv,hk⟩:=h;refine Nq (w':=w) ?_ hk;simp [execOp,Instr.extract,hx,hv]
   case load T x=>
    simp only [K7] at h;split at h
    · rename_i hs;obtain ⟨a,v,hx,hv,hk⟩:=h;refine Nq (w':=w) (v:=v) ?_ hk;simp [execOp,Instr.loadAt,Instr.sureAddr,hx,loadVar,nh P T w hs,hv]
    · split at h
      · rename_i hs n hn
        split at h
        · rename_i ha;obtain ⟨a,cs,hx,hv,hk⟩:=h;refine Nq (w':=w) ?_ hk;simp [execOp,Instr.loadAt,Instr.sureAddr,hx,loadVar,nj P T w ha,RG P T n w hn,hU (P:=P) a n cs hv]
        · exact h
      · exact h
   case fieldAddr S x f=>
    simp only [K7] at h;split at h
    · rename_i off t hf
      split at h
      · rename_i n hn;obtain ⟨a,hx,hk⟩:=h;obtain ⟨fs,fl,hu,hfl,rfl,rfl⟩:=sB hf;refine Nq (w':=w) ?_ hk;simp [execOp,Instr.fieldAt,Q8 P S _ w hu,hfl,Instr.sureAddr,hx,fieldPlace,RG P fl.type _ w hn]
      · exact h
    · exact h
   case field S x f=>
    simp only [K7] at h;split at h
    · rename_i off t hf
      obtain ⟨fs,fl,hu,hfl,rfl,rfl⟩:=sB hf;split at h
      · rename_i hs;obtain ⟨cs,v,hx,hv,hk⟩:=h;refine Nq (w':=w) (v:=v) ?_ hk;simp [execOp,Instr.field,Q8 P S _ w hu,hfl,asAgg,hx,nk P fl.type cs fl.offset v w hs hv]
      · split at h
        · rename_i n hn
          split at h
          · rename_i ha;obtain ⟨cs,hx,hk⟩:=h;refine Nq (w':=w) ?_ hk;simp [execOp,Instr.field,Q8 P S _ w hu,hfl,asAgg,hx,yb P fl.type cs fl.offset n w ha hn]
          · exact h
        · exact h
    · exact h
   case indexAddr T x i=>
    simp only [K7] at h;split at h
    · rename_i e he
      have hu:=lk he;split at h
      · rename_i s hs;obtain ⟨a,len,cap,k,n,hx,hi,h0,hl,hk⟩:=h;refine Nq (w':=w) ?_ hk;simp [execOp,Instr.indexAt,asIntOf,hi,hx,Q8 P T _ w hu,h0,hl,RG P e s w hs]
      · exact h
    · split at h
      · rename_i hn m e he
        have hu:=yf he;split at h
        · rename_i s hs;obtain ⟨a,k,n,hx,hi,h0,hl,hk⟩:=h;refine Nq (w':=w) ?_ hk;simp [execOp,Instr.indexAt,asIntOf,hi,hx,Q8 P T _ w hu,h0,hl,RG P e s w hs,Instr.sureAddr]
        · exact h
      · exact h
   case index T x i=>
    simp only [K7] at h;split at h
    · rename_i hs;have hu:=np hs;obtain ⟨s,k,n,b,hx,hi,h0,hl,hk⟩:=h;refine Nq (w':=w) ?_ hk;simp [execOp,Instr.index,asIntOf,hi,hx,Q8 P T _ w hu,h0,hl]
    · exact h
   case alloc T=>
    simp only [K7] at h;split at h
    · rename_i z hz;refine Nq (v:= .pointer (some ⟨w.heap.size,0,none⟩)) (w':=w.alloc (.cells z.cells T)) ?_ h;simp [execOp,Instr.alloc,bK P T z w hz,newVar,newRow]
    · exact h
   case makeFunc fn fst caps=>
    cases fn with
    | func f=>
      simp only [K7] at h;split at h
      · rename_i hz;have:fst=#[]:=Array.size_eq_zero_iff.1 hz;subst this;refine Nq (v:= .func (.func f) #[] ⟨caps.toList.map ρ.ev⟩) (w':=w) ?_ h;have he:(⟨caps.toList.map ρ.ev⟩:Array Value)=caps.map ρ.ev:=(by apply Io;simp);simp [execOp,Instr.makeFunc,he]
      · exact h
    | _=>exact h
   case slice T x lo hi mx=>
    simp only [K7] at h;split at h
    · rename_i e he
      have hu:=lk he;split at h
      · rename_i s hs
        split at h
        · exact h
        · rename_i hmx;obtain ⟨a,len,cap,l,hh,m,hx,hm,hhi,hlo,h1,h2,h3,hk⟩:=h;refine Nq (w':=w) ?_ hk;simp only [execOp,Instr.sliceAt,F7,Q8 P T _ w hu,FO,Instr.slice,hx,sD (P:=P) (w:=w) (isS:=true) hm hhi hlo h1 h2 h3 (by cases mx<;>cases hi<;>simp_all),RG P e s w hs,Gk]
      · exact h
    · split at h
      · rename_i hc;simp only [FN] at hc;have hu:=np hc.1;have hmx:mx=none:=(by simpa using hc.2);subst hmx;obtain ⟨s,l,hh,hx,hhi,hlo,h2,h3,hk⟩:=h;refine Nq (w':=w) ?_ hk;have hb:=sD (P:=P) (w:=w) (isS:=false) (mx:=none) (m:=s.size) (cap:=s.size) rfl hhi hlo (F6 _) h2 h3 Js;simp only [JA] at hb;simp only [execOp,Instr.sliceAt,F7,Q8 P T _ w hu,FO,Instr.slice,hx,JA,Kv,FV,if_false,hb,Gk]
      · exact h
   case convert S T x=>
    simp only [K7] at h;split at h
    · rename_i k k' hs ht;obtain ⟨k2,n,hx,hk⟩:=h;refine Nq (w':=w) ?_ hk;simp [execOp,convert,Q8 P S _ w (sC hs),Q8 P T _ w (sC ht),hx,Conv.intToInt]
    · exact h
   case makeInterface T x=>
    simp only [K7] at h;split at h
    · exact h
    · rename_i hi;refine Nq (w':=w) (v:= .iface T (ρ.ev x)) ?_ h;obtain ⟨d',hd,hd'⟩:=yj hi;simp only [execOp,Instr.makeInterface,F7,Q8 P T _ w hd,FO];cases d' <;>first|rfl|exact (hd' _ rfl).elim
   case build T ps=>
    simp only [K7] at h;split at h
    · rename_i z pl hz hpl
      split at h
      · rename_i l hl
        obtain ⟨cs,hf,hk⟩:=h;have hfill:=nm pl ρ ps.toList l z.cells cs hl hf;refine Nq (w':=w) ?_ hk;have hm:(ps.map fun p=>(p.1,ρ.ev p.2)).toList=ps.toList.map fun p=>(p.1,ρ.ev p.2):=DN;unfold su at hpl;split at hpl
        · rename_i fs hu
          split at hpl
          · rename_i hall
            simp only [FU] at hpl;have hall':∀f∈fs.toList,(OB P f.type).isSome=true:=GB.1 hall
            have hpl2:∀i x,pl i=some x→((fs.toList.map fun f=>(f.offset,(OB P f.type).getD 0)).toArray)[i]?=some x:=by
             intro i x hx;subst hpl;simp only [Option.bind_eq_some_iff,Hi] at hx;obtain ⟨f,hf,s,hs,rfl⟩:=hx;simp [hf,hs]
            have hfill:=nm _ ρ ps.toList l z.cells cs (yi hpl2 _ _ hl) hf;simp only [execOp,Instr.build,F7,bK P T z w hz,Q8 P T _ w hu,FO,JO,Sem.run_map,yh fs.toList w hall',hm,hfill,Gk]
          · cases hpl
        · rename_i n e hu;simp only [Hi] at hpl;obtain ⟨s,hs,rfl⟩:=hpl;simp only [execOp,Instr.build,F7,bK P T z w hz,Q8 P T _ w hu,FO,RG P e s w hs,hm,hfill,Gk]
        · cases hpl
      · exact h
    · exact h
   case buildSlice T n ps=>
    simp only [K7] at h;split at h
    · rename_i e he
      have hu:=lk he;split at h
      · rename_i z s hz hs
        split at h
        · rename_i l hl
          split at h
          · rename_i hc
            obtain ⟨hs0,hn0,hns,hzs⟩:=hc;obtain ⟨cs,hf,hk⟩:=h;have hm:(ps.map fun p=>(p.1,ρ.ev p.2)).toList=ps.toList.map fun p=>(p.1,ρ.ev p.2):=by simp
            have hz0:(((Array.range (n*s)).map (z.cells[· % z.cells.size]!)):Array Value).toList=(List.range (n*s)).map fun i=>z.cells.toList.getD (i % s) default:=by
             simp [hzs];intro a _;rw [IH,GG]
            have hfill:=nm _ ρ ps.toList l ((Array.range (n*s)).map (z.cells[· % z.cells.size]!)) cs hl (by rw [hz0];exact hf);refine Nq (w':=w.alloc (.cells ⟨cs⟩ e)) (v:= .slice (some ⟨w.heap.size,0,none⟩) n n) ?_ hk;have hne:¬(n*s=0):=(by have:=Nat.mul_pos hn0 hs0;omega);have hle:¬(n*s>2 ^ 24):=DB;simp only [execOp,Instr.buildSlice,F7,Q8 P T _ w hu,FO,RG P e s w hs,if_neg hle,if_neg hne,bK P e z w hz,hm,hfill,Gk,newRow,run_newObj];rfl
          · exact h
        · exact h
      · exact h
    · exact h
   case call c=>
    obtain ⟨callee,xs,ts⟩:=c
    cases callee with
    | invoke=>exact h
    | builtin b=> 
      cases b;all_goals try exact h
      case min=>
       simp only [K7] at h;split at h
       · rename_i x y hxs;have hxs':xs=#[x,y]:=Et;subst hxs';obtain ⟨k,k',a,b,hx,hy,hk⟩:=h;refine Nq (w':=w) ?_ hk;simp [execOp,resolve,invoke,builtin,Builtin.min_,Builtin.min2,hx,hy]
       · exact h
      case max=>
       simp only [K7] at h;split at h
       · rename_i x y hxs;have hxs':xs=#[x,y]:=Et;subst hxs';obtain ⟨k,k',a,b,hx,hy,hk⟩:=h;refine Nq (w':=w) ?_ hk;simp [execOp,resolve,invoke,builtin,Builtin.max_,Builtin.max2,hx,hy]
       · exact h
      case len=>
       simp only [K7] at h;split at h
       · rename_i x T hxs hts
         have hxs':xs=#[x]:=Et;have hts':ts=#[T]:=(by apply Io;simpa using hts);subst hxs' hts';split at h
         · rename_i hs;have hu:=np hs;obtain ⟨s,hx,hk⟩:=h;refine Nq (w':=w) ?_ hk;simp [execOp,resolve,invoke,builtin,Builtin.len_,hx,Q8 P T _ w hu,goInt]
         · split at h
           · rename_i he;obtain ⟨e,he⟩:=JQ.1 he;have hu:=lk he;obtain ⟨a,n,c,hx,hk⟩:=h;refine Nq (w':=w) ?_ hk;simp [execOp,resolve,invoke,builtin,Builtin.len_,hx,Q8 P T _ w hu,goInt]
           · exact h
       · exact h
    | value f=>
      cases f with
      | const=>exact h
      | global=>exact h
      | func f=>
        simp only [K7] at h;split at h
        · rename_i hg;obtain ⟨fn,h1,h2,h3⟩:=sA hg;exact CG
        · exact h
      | tmp f=>
        obtain ⟨f,fst,cap,fn,hx,h1,h2,h3,h4⟩:=h;exact m9 hx h1 h2 h3 h4

theorem yl {o:Oper}{ρ:La}{K:KT}{Q:QT}(h:P6 P (ak o) ρ w K Q):P6 P o ρ w K Q:=h

theorem sE {o:Oper}{ρ:La}{K:KT}{Q:QT}(h:(fP P o).wp P ρ w K Q):P6 P o ρ w K Q:=by
 refine' yk;unfold fP at h;cases hl:K7 P o<;>rw [hl] at h<;>first|exact h|exact yl h


structure GO where
 g:Option (Nat×Bool)
 o:LO

def Xl (v:Value)(b:Bool):Bool:=match v with
 | .bool b'=>b'==b
 | _=>false

def Q0 (P:Program):List GO→QT→La→World→Prop
 | [],Q,ρ,w=>Q .normal ρ w
 | ⟨none,o⟩::l,Q,ρ,w=>o.wp P ρ w (Q0 P l Q) Q
 | ⟨some (s,b),o⟩::l,Q,ρ,w=>if Xl (ρ s) b then o.wp P ρ w (Q0 P l Q) Q else Q0 P l Q (Lq ρ o.dst undef) w

def Pq (P:Program)(ops:Array Oper)(o:Oper):GO:=
 ⟨o.guard.bind fun p=>((ops[p.1]?).bind (·.dst)).map fun s=>(s,p.2),fP P o⟩

def P8 (n:Nat)(ops:Array Oper)(o:Oper):Bool:=
 (match o.dst with|some d=>decide (d<n)|none=>true) &&
 (match o.guard with
  | some (j,_)=>(match (ops[j]?).bind (·.dst) with|some s=>decide (s<n)|none=>false)
  | none=>true)

theorem ym (P:Program)(o:Oper):(K7 P o).dst=o.dst:=by
 obtain ⟨dst,op,T,pos,af,g⟩:=o
 cases dst with
 | none=>
   unfold K7;dsimp only
   repeat' split
   all_goals rfl
 | some d=>
   unfold K7;dsimp only
   repeat' split
   all_goals rfl

theorem yq (P:Program)(o:Oper):(fP P o).dst=o.dst:=by
 rw [←ym P o];unfold fP;cases K7 P o<;>rfl

theorem yt {ρ:La}{a:Act}{ops:Array Oper}{b:Bool}(hr:OW n ρ ds a)
 (hj:(ops[j]?).bind (·.dst)=some s)(hs:s<n):(yielded ops a.tmps j==some b)=Xl (ρ s) b:=by
 have h1:a.tmps[s]?=some (ρ s):=by
  have:=hr.2.1 s;rw [GG] at this;have hlt:s<a.tmps.size:=(by rw [hr.1];exact hs);rw [Hs hlt] at this ⊢
  simpa using this
 simp only [yielded,hj,Option.bind_some,h1];cases hv:ρ s<;>simp [Xl]

theorem sF {ρ:La}{a:Act}{ops:Array Oper}{o:Oper}(hr:OW n ρ ds a)(ho:P8 n ops o=true):
 (∀(l:List GO) (Q:QT) (w:World),Q0 P (Pq P ops o::l) Q ρ w→if Region.wanted o (yielded ops a.tmps) then (fP P o).wp P ρ w (Q0 P l Q) Q else Q0 P l Q (Lq ρ o.dst undef) w):=by
 intro l Q w h;unfold Pq at h;unfold P8 at ho
 cases hg:o.guard with
 | none=>
   rw [hg] at h;simp only [Option.bind_none,Q0] at h;simp only [Region.wanted,hg,if_true];exact h
 | some p=>
   obtain ⟨j,b⟩:=p;rw [hg] at h ho;simp only [FN] at ho;obtain ⟨_,ho⟩:=ho
   cases hs:(ops[j]?).bind (·.dst) with
   | none=>simp [hs] at ho
   | some s=>
     simp only [hs,decide_eq_true_eq] at ho;simp only [Option.bind_some,hs,GC,Q0,yq] at h;simp only [Region.wanted,hg,yt hr hs ho];exact h

theorem fQ {ops:Array Oper}{o:Oper}(h:P8 n ops o=true):∀x,o.dst=some x→x<n:=by
 intro x hx;unfold P8 at h;simp only [hx,FN,decide_eq_true_eq] at h;exact h.1

theorem yu {o:Oper}{a:Act}{K K':Act→World→Prop}{Q:Exit→Act→World→Prop}(hk:∀a w,K a w→K' a w)(r:Result Next)(h:o.upon P a K Q r):o.upon P a K' Q r:=by
 cases r with
 | ok n w=>
   cases n<;>first|exact hk _ _ h|exact h|skip
   · refine Calls.mono h fun e w h=>?_;cases e<;>first|exact hk _ _ h|exact h
   · exact Rows.mono h fun v w h=>hk _ _ h
 | halt x w=>cases x<;>exact h

theorem ll {ops:Array Oper}{Q:QT}:∀(l:List Nat) (ρ:La) (a:Act) (w:World),OW n ρ ds a→
 (∀i∈l,∃o,ops[i]?=some o∧P8 n ops o=true)→
 Q0 P (l.filterMap fun i=>(ops[i]?).map (Pq P ops)) Q ρ w→wpOps P ops (ah n ds Q) l a w:=by
 intro l
 induction l with
 | nil=>intro ρ a w hr _ h;exact ⟨ρ,hr,h⟩
 | cons i l ih=>
   intro ρ a w hr hok h;obtain ⟨o,ho,hg⟩:=hok i Js;have hok':∀i∈l,∃o,ops[i]?=some o∧P8 n ops o=true:=fun i hi=>hok i (by simp [hi]);simp only [Ie,ho,GC] at h;have h':=sF hr hg _ Q w h;simp only [wpOps,ho];split
   · rename_i hw;rw [if_pos hw] at h';have h1:=ss (ds:=ds) hr (fQ hg) (sE h');exact .inl (yu (fun a w ⟨ρ,hr,h⟩=>ih ρ a w hr hok' h) _ h1)
   · rename_i hw;rw [if_neg hw] at h';exact ih _ _ w (hr.put _ _ (fQ hg)) hok' h'

inductive LC where
 | skip
 | ops (l:List GO)
 | draw (gs:List GO) (es:List (List Nat))
 | seq (a b:LC)
 | cond (c:Operand) (a b:LC)
 | block (id:Nat) (a:LC)
 | loop (a:LC)
 | exit (id:Nat)
 | ret
 | bad

def SQ (es:List (List Nat)):List Nat→List Nat→Prop
 | X,[]=>∀i,i<es.length→i∈X
 | X,i::l=>i<es.length∧i∉X∧(∀e∈es.getD i [],e∈X)∧SQ es (i::X) l

def hZ (i:Nat)(e:Edge):Bool:=decide (e.on<i) && (match e.ground with| .textOnly _=>false| .gcOnly _=>false|_=>true)
def ln (os:List Oper):Bool:=(os.zipIdx).all fun p=>p.1.after.toList.all (hZ p.2)

def SS (m:Region.Mode)(os:Array Oper):List Nat→List Nat→Bool
 | seen,[]=>(List.range os.size).all fun i=>seen.contains i
 | seen,i::r=>(match os[i]? with
   | some o=>o.after.toList.all (fun e=> !Region.binds m e||seen.contains e.on && decide (e.on<os.size))
   | none=>false) && SS m os (i::seen) r
def sG (i:Nat)(e:Edge):Bool:= !Region.binds .any e||decide (e.on<i)
def nq (os:Array Oper):Bool:=(os.toList.zipIdx.all fun p=>p.1.after.toList.all (sG p.2)) && SS .text os [] (Region.linearise .text os 0) && SS .gc os [] (Region.linearise .gc os 0) && SS .any os [] (Region.linearise .any os 0)
def fS (os:Array Oper):Bool:=ln os.toList||nq os
def XK (os:Array Oper):List (List Nat):=os.toList.map fun o=>(o.after.toList.filter (Region.binds .any)).map (·.on)
def GO.nop:GO:=⟨none, .mov 0 (.const undef)⟩

def Rt (P:Program)(n:Nat):Code→LC
 | .skip=> .skip
 | .region _ ops false=>if ops.toList.all (P8 n ops) then .ops (ops.toList.map (Pq P ops)) else .bad
 | .region _ ops true=>if ops.toList.all (P8 n ops) && fS ops then .draw (ops.toList.map (Pq P ops)) (XK ops) else .bad
 | .seq a b=> .seq (Rt P n a) (Rt P n b)
 | .cond c a b=> .cond c (Rt P n a) (Rt P n b)
 | .block id a=> .block id (Rt P n a)
 | .loop a=> .loop (Rt P n a)
 | .exit id=> .exit id
 | .ret=> .ret
 | _=> .bad

def Qr (K:KT)(Q:QT):QT
 | .normal,ρ,w=>K ρ w
 | e,ρ,w=>Q e ρ w
def Qj (id:Nat)(Q:QT):QT
 | .exit id',ρ,w=>if id'=id then Q .normal ρ w else Q (.exit id') ρ w
 | e,ρ,w=>Q e ρ w

def LC.wp (P:Program):LC→QT→La→World→Prop
 | .skip,Q,ρ,w=>Q .normal ρ w
 | .ops l,Q,ρ,w=>Q0 P l Q ρ w
 | .draw gs es,Q,ρ,w=>∀l,SQ es [] l→Q0 P (l.map fun i=>gs.getD i GO.nop) Q ρ w.drew
 | .seq a b,Q,ρ,w=>a.wp P (Qr (b.wp P Q) Q) ρ w
 | .cond c a b,Q,ρ,w=>∃t,ρ.ev c= .bool t∧(if t then a.wp P Q ρ w else b.wp P Q ρ w)
 | .block id a,Q,ρ,w=>a.wp P (Qj id Q) ρ w
 | .loop a,Q,ρ,w=>∃(I:La→World→Prop) (μ:La→World→Nat),I ρ w∧∀ρ w,I ρ w→a.wp P (Qr (fun ρ' w'=>I ρ' w'∧μ ρ' w'<μ ρ w) Q) ρ w
 | .exit id,Q,ρ,w=>Q (.exit id) ρ w
 | .ret,Q,ρ,w=>Q .ret ρ w
 | .bad,_,_,_=>False

theorem nr {f g:α→Option β}:∀{l:List α},(∀x∈l,f x=g x)→l.filterMap f=l.filterMap g:=by
 intro l
 induction l with
 | nil=>intro _;rfl
 | cons a l ih=>intro h;simp only [Ie,h a Js,ih (fun x hx=>h x D0)]

theorem sH {ops:Array Oper}{t:Nat}:∀i∈Region.schedule mixed ops t,∃o,ops[i]?=some o:=by
 have key:∀(m:Region.Mode) fuel t listed acc,(∀i∈acc,∃o,ops[i]?=some o)→∀i∈Region.linearise.go m ops fuel t listed acc,∃o,ops[i]?=some o:=by
  intro m fuel
  induction fuel with
  | zero=>intro t listed acc h i hi;simp [Region.linearise.go] at hi;exact h i hi
  | succ fuel ih=>
    intro t listed acc h i hi;simp only [Region.linearise.go] at hi;split at hi
    · rename_i j hj
      refine ih _ _ (j::acc) ?_ i hi;intro k hk;rcases FX.1 hk with rfl|hk
      · have:=FC hj;simp only [HS,Gp] at this;exact ⟨ops[k],by simp [this.1]⟩
      · exact h k hk
    · exact h i Ee
 intro i hi;unfold Region.schedule at hi;split at hi
 · exact key _ _ _ _ [] Js i hi
 · exact key _ _ _ _ [] Js i hi

theorem yv:∀(n:Nat) (X:List Nat),X.Nodup→(∀x∈X,x<n)→X.length≤n:=by
 intro n
 induction n with
 | zero=>
   intro X _ h
   cases X with
   | nil=>simp
   | cons x X=>exact absurd (h x Js) Jo
 | succ n ih=>
   intro X hnd h
   have h1:=ih (X.erase n) (hnd.erase n) (fun x hx=>by
    have:=(List.Nodup.mem_erase_iff hnd).1 hx;have:=h x this.2;omega)
   by_cases hm:n∈X
   · rw [JR hm] at h1;omega
   · rw [List.erase_of_not_mem hm] at h1;omega

theorem nu (h:ln os.toList=true){i:Nat}{o:Oper}(ho:os[i]?=some o){e:Edge}(he:e∈o.after):hZ i e=true:=by
 unfold ln at h;have:=GB.1 h (o,i) ER;exact GB.1 this e (by simpa using he)

def bL (m:Region.Mode)(os:Array Oper):Prop:=∀X:List Nat,(∃i,i<os.size∧i∉X)→∃i o,os[i]?=some o∧i∉X∧∀e∈o.after,Region.binds m e=true→e.on∈X∧e.on<os.size

theorem yw (h:ln os.toList=true):bL .any os:=by
 rintro X ⟨i,hi,hX⟩
 induction i using Nat.strongRecOn with
 | _ i ih=>
   by_cases hall:∀j,j<i→j∈X
   · refine ⟨i,os[i],by simp [hi],hX,fun e he _=>?_⟩;have hp:=nu h (i:=i) (o:=os[i]) (by simp [hi]) he;unfold hZ at hp;simp only [FN,decide_eq_true_eq] at hp;exact ⟨hall _ hp.1,Jo⟩
   · have ⟨j,hj⟩:=Kg.1 hall;have ⟨hj1,hj2⟩:=Classical.not_imp.1 hj;exact ih j hj1 Jo hj2

theorem lp {m:Region.Mode}{os:Array Oper}:∀{r seen:List Nat},SS m os seen r=true→∀X:List Nat,(∀i∈seen,i∈X)→(∃i,i<os.size∧i∉X)→∃i o,os[i]?=some o∧i∉X∧∀e∈o.after,Region.binds m e=true→e.on∈X∧e.on<os.size
 | [],seen,h,X,hs,⟨i,hi,hX⟩=>by
   have:=GB.1 h i (Gp.2 hi);exact absurd (hs i (by simpa using this)) hX
 | i ::r,seen,h,X,hs,hx=>by
   simp only [SS,FN] at h;obtain ⟨h1,h2⟩:=h;by_cases hi:i∈X
   · exact lp h2 X (fun j hj=>(FX.1 hj).elim (fun e=>e ▸ hi) (hs j)) hx
   · split at h1
     · rename_i o ho;refine ⟨i,o,ho,hi,fun e he hb=>?_⟩;have:=GB.1 h1 e (by simpa using he);rw [hb] at this;simp only [JT,HD,FN,decide_eq_true_eq] at this;exact ⟨hs _ (by simpa using this.1),this.2⟩
     · cases h1
theorem yx {m:Region.Mode}{e:Edge}(h:Region.binds .any e=true):Region.binds m e=true:=by
 unfold Region.binds at h ⊢;split at h<;>simp_all
theorem yz (h:fS os=true){i:Nat}{o:Oper}(ho:os[i]?=some o){e:Edge}(he:e∈o.after)(hb:Region.binds .any e=true):e.on<i:=by
 unfold fS at h;rw [HQ] at h;rcases h with h|h
 · have hp:=nu h ho he;unfold hZ at hp;simp only [FN,decide_eq_true_eq] at hp;exact hp.1
 · unfold nq at h
   simp only [FN] at h;have:=GB.1 h.1.1.1 (o,i) ER;have:=GB.1 this e (by simpa using he);unfold sG at this;rw [hb] at this
   simpa using this

theorem bM (m:Region.Mode)(hback:∀(i:Nat) (o:Oper),os[i]?=some o→∀e∈o.after,Region.binds .any e=true→e.on<i)(hprog:bL m os):∀(fuel t:Nat) (listed:Array Bool) (acc X:List Nat),listed.size=os.size→(∀i,i<os.size→(listed.getD i false=true↔i∈X))→
 (∀i∈X,i<os.size)→X.Nodup→os.size≤fuel+X.length→
 ∃l,Region.linearise.go m os fuel t listed acc=acc.reverse++l∧SQ (XK os) X l:=by
 intro fuel
 induction fuel with
 | zero=>
   intro t listed acc X hsz hX hlt hnd hf;refine ⟨[],by simp [Region.linearise.go],?_⟩;intro i hi;simp only [XK,FF,GN] at hi;rcases J0 (i∈X) with hc|hc
   · exact hc
   · have:=yv os.size (i::X) (HC.2 ⟨hc,hnd⟩) (by intro j hj;rcases FX.1 hj with rfl|hj;exact hi;exact hlt j hj);simp at this;omega
 | succ fuel ih=>
   intro t listed acc X hsz hX hlt hnd hf;simp only [Region.linearise.go];split
   · rename_i i hi
     have hm:=FC hi;simp only [HS,Gp,FN] at hm;obtain ⟨hilt,hnl,hr⟩:=hm;have hget:os[i]?=some os[i]:=(by simp [hilt]);rw [hget] at hr;simp only [GC,Hn] at hr
     have hiX:i∉X:=by
      intro hc;have:=(hX i hilt).2 hc;simp [Array.getD,hsz,hilt] at hnl this;simp [this] at hnl
     obtain ⟨l,h1,h2⟩:=ih (t / _) (listed.setIfInBounds i true) (i::acc) (i::X) (by simp [hsz]) (by
      intro j hj;have:=hX j hj;by_cases hij:i=j
      · subst hij;simp [Array.getD,hsz,hj]
      · rw [GG,Jl hij,←GG,this]
        simp [I0 hij]) (by intro j hj;rcases FX.1 hj with rfl|hj;exact hilt;exact hlt j hj) (HC.2 ⟨hiX,hnd⟩) DE
     refine ⟨i::l,by rw [h1];simp,by simpa [XK] using hilt,hiX,?_,h2⟩;intro e he;simp only [XK,FE,FW,GW,hget,GC,Hn,Gm,HS] at he;obtain ⟨ed,⟨hed,hb⟩,rfl⟩:=he;have hed':ed∈os[i].after:=(by simpa using hed);have hp:=hback i _ hget ed hed' hb;have:=Jb.1 hr ed hed';simp only [yx hb,JT,HD] at this;exact (hX ed.on Jo).1 this
   · rename_i hi
     refine ⟨[],by simp,?_⟩;intro i hi';simp only [XK,FF,GN] at hi';rcases J0 (i∈X) with hc|hc
     · exact hc
     exfalso;obtain ⟨j,o,hj,hjX,hjr⟩:=hprog X ⟨i,hi',hc⟩;have hjlt:j<os.size:=(Ip.1 hj).1
     have hmem:j∈(List.range os.size).filter fun i=> !listed.getD i true && ((os[i]?).map (·.after.all fun e=> !Region.binds m e||listed.getD e.on false)).getD false:=by
      simp only [HS,Gp,FN];refine ⟨hjlt,?_,?_⟩
      · have:=mt (hX j hjlt).1 hjX
        simp [Array.getD,hsz,hjlt] at this ⊢
        simpa using this
      · rw [hj]
        simp only [GC,Hn];rw [Jb];intro e he
        cases hb:Region.binds m e with
        | false=>rfl
        | true=>
          obtain ⟨h1,h2⟩:=hjr e he hb;have:=(hX e.on h2).2 h1;simp [this]
     have hlen:0<((List.range os.size).filter fun i=> !listed.getD i true && ((os[i]?).map (·.after.all fun e=> !Region.binds m e||listed.getD e.on false)).getD false).length:=
      HV hmem
     rw [JN] at hi;have:=JD t hlen;omega

theorem lq {m:Region.Mode}{t:Nat}(h:fS os=true)(hp:bL m os):SQ (XK os) [] (Region.linearise m os t):=by
 obtain ⟨l,h1,h2⟩:=bM m (fun i o ho e he hb=>yz h ho he hb) hp os.size t (Array.replicate os.size false) [] [] Js (by intro i hi;simp [Array.getD,hi]) Js Js Js;unfold Region.linearise;rw [h1]
 simpa using h2
theorem yA {t:Nat}(h:fS os=true):SQ (XK os) [] (Region.schedule mixed os t):=by
 have h':=h;unfold fS at h';rw [HQ] at h';rcases h' with h'|h'
 · have hdep:Region.departs os=false:=by
    cases hd:Region.departs os with
    | false=>rfl
    | true=>
      unfold Region.departs at hd;rw [KC] at hd;obtain ⟨i,hi,hd⟩:=hd;rw [KC] at hd;obtain ⟨j,hj,hd⟩:=hd;have hp:=nu h' (i:=i) (o:=os[i]) (by simp [hi]) (e:=os[i].after[j]) Js;unfold hZ at hp;unfold Region.binds at hd;cases hg:os[i].after[j].ground<;>simp [hg] at hp hd
   unfold Region.schedule;rw [hdep];simp only [IV,Bool.or_true,if_true];exact lq h (yw h')
 · unfold nq at h'
   simp only [FN] at h';have hany:=fun X hX=>lp h'.2 X (fun _ h=>(FQ h).elim) hX;have htext:=fun X hX=>lp h'.1.1.2 X (fun _ h=>(FQ h).elim) hX;have hgc:=fun X hX=>lp h'.1.2 X (fun _ h=>(FQ h).elim) hX;unfold Region.schedule;split
   · exact lq h hany
   · split
     · exact lq h htext
     · exact lq h hgc

theorem nz (g:α→β):∀(l pre:List α),(List.range' pre.length l.length).filterMap (fun i=>((pre++l)[i]?).map g)=l.map g:=by
 intro l
 induction l with
 | nil=>intro pre;simp
 | cons x l ih=>
   intro pre;have:=ih (pre++[x]);simp only [FH,IN,Hg,List.singleton_append] at this;simp only [FP,List.range'_succ,Ie,He];simp [this]

theorem nA:∀(c:Code) (Q:QT) (ρ:La) (a:Act) (w:World),OW n ρ ds a→(Rt P n c).wp P Q ρ w→c.wp P (ah n ds Q) a w:=by
 have hokall:∀ops:Array Oper,ops.toList.all (P8 n ops)=true→∀(i:Nat) (o:Oper),ops[i]?=some o→P8 n ops o=true:=by
  intro ops h i o hi;exact GB.1 h o EE
 intro c
 induction c with
 | skip=>intro Q ρ a w hr h;exact wp_skip ⟨ρ,hr,h⟩
 | region id ops draw=>
   intro Q ρ a w hr h
   cases draw with
   | false=>
     simp only [Rt] at h;split at h
     · rename_i hall
       refine wp_region ?_;refine ll _ ρ a w hr ?_ ?_
       · intro i hi;have hi':i<ops.size:=Ee;exact ⟨ops[i],by simp [hi'],hokall ops hall i _ (by simp [hi'])⟩
       · have e:((List.range ops.size).filterMap fun i=>(ops[i]?).map (Pq P ops))=ops.toList.map (Pq P ops):=by
          have:=nz (Pq P ops) ops.toList []
          simpa [IT] using this
         rw [e];exact h
     · exact h.elim
   | true =>
     simp only [Rt] at h;split at h
     · rename_i hall
       simp only [FN] at hall;refine wp_region_draw fun t=>?_;have h':=h _ (yA (mixed:=P.follows .mixedOrders) (t:=t) hall.2);refine ll _ ρ a _ hr ?_ ?_
       · intro i hi;obtain ⟨o,ho⟩:=sH i hi;exact ⟨o,ho,hokall ops hall.1 i o ho⟩
       · have e:((Region.schedule (P.follows .mixedOrders) ops t).filterMap fun i=>(ops[i]?).map (Pq P ops))=
          (Region.schedule (P.follows .mixedOrders) ops t).map fun i=>(ops.toList.map (Pq P ops)).getD i GO.nop:=by
          rw [←List.filterMap_eq_map];refine nr ?_;intro i hi;obtain ⟨o,ho⟩:=sH i hi;have ho':ops.toList[i]?=some o:=(by simpa using ho);simp [ho,FE]
         rw [e];exact h'
     · exact h.elim
 | seq x y ihx ihy=>
   intro Q ρ a w hr h;refine wp_seq ?_;refine wp_mono (ihx _ ρ a w hr h) ?_;rintro e a w ⟨ρ,hr,h⟩
   cases e with
   | normal=>exact ihy _ ρ a w hr h
   | _=>exact ⟨ρ,hr,h⟩
 | cond c x y ihx ihy=>
   intro Q ρ a w hr h;obtain ⟨t,hc,h⟩:=h;refine wp_cond (t:=t) (by rw [hr.ev];exact hc) ?_;cases t
   · exact ihy _ ρ a w hr h
   · exact ihx _ ρ a w hr h
 | block id x ih=>
   intro Q ρ a w hr h;refine wp_block ?_;refine wp_mono (ih _ ρ a w hr h) ?_;rintro e a w ⟨ρ,hr,h⟩
   cases e with
   | exit id'=>
     simp only [Qj] at h;simp only [Exit.inBlock];split
     · rename_i he;rw [if_pos he] at h;exact ⟨ρ,hr,h⟩
     · rename_i he;rw [if_neg he] at h;exact ⟨ρ,hr,h⟩
   | _=>exact ⟨ρ,hr,h⟩
 | loop x ih=>
   intro Q ρ a w hr h;obtain ⟨I,μ,h0,hround⟩:=h;refine wp_loop (ag n ds I) (fun a w=>μ (fun i=>a.tmps.getD i undef) w) ⟨ρ,hr,h0⟩ ?_;rintro a w ⟨ρ,hr,hI⟩;have he:(fun i=>a.tmps.getD i undef)=ρ:=funext hr.2.1;refine wp_mono (ih _ ρ a w hr (hround ρ w hI)) ?_;rintro e a' w' ⟨ρ',hr',h⟩
   cases e with
   | normal=>
     have he':(fun i=>a'.tmps.getD i undef)=ρ':=funext hr'.2.1;refine ⟨⟨ρ',hr',h.1⟩,?_⟩;simp only [he,he'];exact h.2
   | _=>exact ⟨ρ',hr',h⟩
 | exit id=>intro Q ρ a w hr h;exact wp_exit ⟨ρ,hr,h⟩
 | ret=>intro Q ρ a w hr h;exact wp_ret ⟨ρ,hr,h⟩
 | rangeFunc=>intro Q ρ a w hr h;exact h.elim
 | scope=>intro Q ρ a w hr h;exact h.elim
 | label=>intro Q ρ a w hr h;exact h.elim
 | goto=>intro Q ρ a w hr h;exact h.elim
 | refuse=>intro Q ρ a w hr h;exact h.elim


def XL (l:List Value):La:=fun i=>l.getD i undef

def R7:List Value→Value
 | [v]=>v
 | l=> .tuple ⟨l⟩

def XM (P:Program)(w:World)(a:Addr)(T:TypeId)(v:Value):Prop:=
 (Tu P T=true∧w.cell? a=some v)∨(P7 P T=true∧∃n cs,OB P T=some n∧aj w a n cs∧v= .agg ⟨cs⟩)

def QJ (P:Program)(w:World)(ρ:La):List ResultVar→List Value→(Value→Prop)→Prop
 | [],acc,R=>R (R7 acc.reverse)
 | .tmp t::rs,acc,R=>QJ P w ρ rs (ρ t::acc) R
 | .cell a T::rs,acc,R=>∃ad v,ρ a= .pointer (some ad)∧XM P w ad T v∧QJ P w ρ rs (v::acc) R

def Lo (P:Program)(rs:List ResultVar)(R:Ending→World→Prop):QT
 | .normal,ρ,w=>QJ P w ρ rs [] fun v=>R (.returned v) w
 | .ret,ρ,w=>QJ P w ρ rs [] fun v=>R (.returned v) w
 | .panic chain,_,w=>R (.panicked chain) w
 | .outgrown,_,w=>R .outgrown w
 | _,_,_=>False

theorem yB {a:Addr}{v:Value}(h:XM P w a T v):(loadVar T a).run P w= .ok v w:=by
 rcases h with ⟨hs,hc⟩|⟨ha,n,cs,hn,hc,rfl⟩
 · simp [loadVar,nh P T w hs,hc]
 · simp [loadVar,nj P T w ha,RG P T n w hn,hU (P:=P) a n cs hc]

theorem yC {ρ:La}(f:ResultVar→Sem Value)(h1:∀t,f (.tmp t)=pure (ρ t))(h2:∀a t,f (.cell a t)=(do loadVar t (←asAddr (ρ a)))):
 ∀(rs:List ResultVar) (acc:List Value) (R:Value→Prop),QJ P w ρ rs acc R→∃vs,(rs.mapM f).run P w= .ok vs w∧R (R7 (acc.reverse++vs)):=by
 intro rs
 induction rs with
 | nil=>intro acc R h;exact ⟨[],by simp,by simpa [QJ] using h⟩
 | cons r rs ih=>
   intro acc R h
   cases r with
   | tmp t=>
     obtain ⟨vs,h3,h4⟩:=ih _ R h;refine ⟨ρ t::vs,?_,by simpa using h4⟩;simp only [JB,F7,Gk,FO,h1,h3]
   | cell a T=>
     obtain ⟨ad,v,ha,hv,h⟩:=h;obtain ⟨vs,h3,h4⟩:=ih _ R h;refine ⟨v::vs,?_,by simpa using h4⟩;simp only [JB,F7,Gk,FO,h2,ha,asAddr,yB hv,h3]

theorem ia {ρ:La}{tmps:Array Value}{R:Value→Prop}(ht:∀i,tmps.getD i undef=ρ i)
 (h:QJ P w ρ fn.results.toList [] R):∃v,(results fn tmps).run P w= .ok v w∧R v:=by
 unfold results
 obtain ⟨vs,h1,h2⟩:=yC (ρ:=ρ) (fun
  | .tmp t=>pure (tmps.getD t undef)
  | .cell a t=>do loadVar t (←asAddr (tmps.getD a undef))) (fun t=>by simp only [ht]) (fun a t=>by simp only [ht]) _ _ _ h
 simp only [List.reverse_nil,IM] at h2;refine ⟨R7 vs,?_,h2⟩;simp only [JO,F7,Sem.run_map];refine JF (congrArg (fun r=>((Result.andThen r _).andThen _)) h1) ?_;simp only [FO,Gk]
 match vs with
 | []=>rfl
 | [v]=>rfl
 | v::u::vs=>simp [R7]

theorem yD {e:Exit}{a:Act}
 (h:ah n [] (Lo P fn.results.toList R) e a w):bodyPost P fn R e a w:=by
 obtain ⟨ρ,hr,h⟩:=h
 cases e with
 | normal=>obtain ⟨v,h1,h2⟩:=ia hr.2.1 h;exact ⟨hr.2.2,v,h1,h2⟩
 | ret=>obtain ⟨v,h1,h2⟩:=ia hr.2.1 h;exact ⟨hr.2.2,v,h1,h2⟩
 | panic ch=>exact ⟨hr.2.2,h⟩
 | outgrown=>exact h
 | exit=>exact h
 | goto=>exact h

theorem nB (args:Array Value)(n:Nat)(h:args.size≤n)(ds:List Deferred):OW n (XL args.toList) ds {tmps:=args++Array.replicate (n - args.size) undef,defers:=ds}:=by
 refine ⟨by simp;omega,fun i=>?_,rfl⟩;simp only [XL,GG,FE,Array.getElem?_append,Array.getElem?_replicate,GW];split
 · rfl
 · rename_i hi;rw [Hl Jo];split<;>simp

theorem yE {c:Code}{lc:LC}
 (hf:P.funcs[f]?=some fn)(hb:fn.body=some c)(hl:Rt P fn.ntmps c=lc)(hrs:fn.results.toList=rs)(hn:Nat.ble args.length fn.ntmps=true)
 (h:lc.wp P (Lo P rs R) (XL args) w):Calls P f ⟨args⟩ w R:=by
 refine calls_of_wp hf hb ?_;subst hl hrs;have hn':args.length≤fn.ntmps:=Gs hn;exact wp_mono (nA (ds:=[]) c _ _ _ _ (nB ⟨args⟩ fn.ntmps hn' []) h) fun e a w h=>yD h

def bN (P:Program)(fn:Func):Option LC:=fn.body.map (Rt P fn.ntmps)

theorem yF {lc:LC}
 (hf:P.funcs[f]?=some fn)(hl:bN P fn=some lc)(hrs:fn.results.toList=rs)(hn:Nat.ble args.length fn.ntmps=true)
 (h:lc.wp P (Lo P rs R) (XL args) w):Calls P f ⟨args⟩ w R:=by
 unfold bN at hl
 cases hb:fn.body with
 | none=>simp [hb] at hl
 | some c=>simp only [hb,GC,FU] at hl;exact yE hf hb hl hrs hn h

end
section

def OX:Operand→List Nat
 | .tmp t=>[t]
 | _=>[]
def SU:Option Operand→List Nat
 | some x=>OX x
 | none=>[]

def LO.uses:LO→List Nat
 | .mov _ x| .un _ _ x| .nilc _ x| .fld _ x _| .load1 _ x| .loadn _ _ x| .len _ x| .slen _ x| .ext _ x _| .fldv _ x _| .fldn _ x _ _| .box _ _ x| .conv _ _ x| .mki _ _ x=>OX x
 | .pick _ c x y=>OX c++OX x++OX y
 | .bin _ _ _ x y| .idx _ _ x y| .idxa _ _ _ x y| .sidx _ x y| .mnx _ _ x y| .store1 x y| .storen _ x y=>OX x++OX y
 | .alloc ..=>[]
 | .call _ _ xs=>xs.flatMap OX
 | .callv _ x xs=>OX x++xs.flatMap OX
 | .build _ _ ps| .buildS _ _ _ _ ps=>ps.flatMap fun p=>OX p.2.2
 | .mkfn _ _ xs=>xs.flatMap OX
 | .sub _ _ x a b c=>OX x++SU a++SU b++SU c
 | .ssub _ x a b=>OX x++SU a++SU b
 | .raw o=>o.op.operands.toList.flatMap OX

def LO.quiet:LO→Bool
 | .mov ..| .pick ..| .un ..| .bin ..| .nilc ..| .fld ..| .load1 ..| .loadn ..| .idx ..| .idxa ..| .len ..| .slen ..| .sidx ..| .ext ..| .fldv ..| .fldn ..| .build ..| .mkfn ..
 | .sub ..| .ssub ..| .mnx ..| .conv ..| .mki ..=>true
 | _=>false

def qv (P:Program)(ρ:La)(w:World):LO→Value→Prop
 | .mov _ x,v=>v=ρ.ev x
 | .pick _ c x y,v=>∃b,ρ.ev c= .bool b∧v=(if b then ρ.ev x else ρ.ev y)
 | .un _ op x,v=>∀w0,(Op.unary op (ρ.ev x)).run P w0= .ok v w0
 | .bin _ op T x y,v=>∀w0,(do eqGuard op T x y (ρ.ev x) (ρ.ev y);binOp op T (ρ.ev x) (ρ.ev y)).run P w0= .ok v w0
 | .nilc _ x,v=>∃a,ρ.ev x= .pointer (some a)∧v= .pointer (some a)
 | .fld _ x off,v=>∃a,ρ.ev x= .pointer (some a)∧v= .pointer (some (a.add off))
 | .load1 _ x,v=>∃a,ρ.ev x= .pointer (some a)∧w.cell? a=some v
 | .loadn _ n x,v=>∃a cs,ρ.ev x= .pointer (some a)∧aj w a n cs∧v= .agg ⟨cs⟩
 | .idx _ es x i,v=>∃a len cap k n,ρ.ev x= .slice (some a) len cap∧ρ.ev i= .int k n∧0≤n∧n<len∧v= .pointer (some (a.add (n.toNat*es)))
 | .idxa _ m es x i,v=>∃a k n,ρ.ev x= .pointer (some a)∧ρ.ev i= .int k n∧0≤n∧n<(m:Int)∧v= .pointer (some (a.add (n.toNat*es)))
 | .len _ x,v=>∃a n c,ρ.ev x= .slice a n c∧v= .int .i64 n
 | .slen _ x,v=>∃s,ρ.ev x= .string s∧v= .int .i64 s.size
 | .sidx _ x i,v=>∃s k n b,ρ.ev x= .string s∧ρ.ev i= .int k n∧0≤n∧s[n.toNat]?=some b∧v= .int .u8 b.toNat
 | .ext _ x i,v=>∃vs,ρ.ev x= .tuple vs∧vs[i]?=some v
 | .fldv _ x off,v=>∃cs,ρ.ev x= .agg cs∧cs[off]?=some v
 | .fldn _ x off n,v=>∃cs,ρ.ev x= .agg cs∧v= .agg (cs.extract off (off+n))
 | .build _ z ps,v=>∃cs,Od z (ps.map fun p=>(p.1,p.2.1,ρ.ev p.2.2))=some cs∧v= .agg ⟨cs⟩
 | .mkfn _ f caps,v=>v= .func (.func f) #[] ⟨caps.map ρ.ev⟩
 | .sub _ es x lo hi mx,v=>∃a len cap l h m,ρ.ev x= .slice a len cap∧Nl ρ cap mx m∧Nl ρ len hi h∧Nl ρ 0 lo l∧m≤cap∧h≤m∧l≤h∧
    v= .slice (if m=l then a else a.map (·.add (l*es))) (h - l) (m - l)
 | .ssub _ x lo hi,v=>∃s l h,ρ.ev x= .string s∧Nl ρ s.size hi h∧Nl ρ 0 lo l∧h≤s.size∧l≤h∧v= .string (s.extract l h)
 | .mnx _ isMax x y,v=>∃k k' a b,ρ.ev x= .int k a∧ρ.ev y= .int k' b∧v= .int k (if isMax then (if a<b then b else a) else (if b<a then b else a))
 | .conv _ k x,v=>∃k' n,ρ.ev x= .int k' n∧v= .int k (k.wrap n)
 | .mki _ T x,v=>v= .iface T (ρ.ev x)
 | _,_=>False

theorem lr {ρ:La}{K:KT}{Q:QT}{o:LO}(h:o.quiet=true):o.wp P ρ w K Q↔∃v,qv P ρ w o v∧K (Lq ρ o.dst v) w:=by
 cases o<;>simp only [LO.quiet,FV] at h<;>simp only [LO.wp,qv,LO.dst,Lq];all_goals (constructor<;>intro h)
 case mov.mp=>exact ⟨_,rfl,h⟩
 case mov.mpr=>obtain ⟨v,rfl,h⟩:=h;exact h
 case pick.mp=>obtain ⟨b,h1,h2⟩:=h;exact ⟨_,⟨b,h1,rfl⟩,h2⟩
 case pick.mpr=>obtain ⟨v,⟨b,h1,rfl⟩,h2⟩:=h;exact ⟨b,h1,h2⟩
 case nilc.mp=>obtain ⟨a,h1,h2⟩:=h;exact ⟨_,⟨a,h1,rfl⟩,h2⟩
 case nilc.mpr=>obtain ⟨v,⟨a,h1,rfl⟩,h2⟩:=h;exact ⟨a,h1,h2⟩
 case fld.mp=>obtain ⟨a,h1,h2⟩:=h;exact ⟨_,⟨a,h1,rfl⟩,h2⟩
 case fld.mpr=>obtain ⟨v,⟨a,h1,rfl⟩,h2⟩:=h;exact ⟨a,h1,h2⟩
 case load1.mp=>obtain ⟨a,v,h1,h2,h3⟩:=h;exact ⟨v,⟨a,h1,h2⟩,h3⟩
 case load1.mpr=>obtain ⟨v,⟨a,h1,h2⟩,h3⟩:=h;exact ⟨a,v,h1,h2,h3⟩
 case loadn.mp=>obtain ⟨a,cs,h1,h2,h3⟩:=h;exact ⟨_,⟨a,cs,h1,h2,rfl⟩,h3⟩
 case loadn.mpr=>obtain ⟨v,⟨a,cs,h1,h2,rfl⟩,h3⟩:=h;exact ⟨a,cs,h1,h2,h3⟩
 case idx.mp=>obtain ⟨a,l,c,k,n,h1,h2,h3,h4,h5⟩:=h;exact ⟨_,⟨a,l,c,k,n,h1,h2,h3,h4,rfl⟩,h5⟩
 case idx.mpr=>obtain ⟨v,⟨a,l,c,k,n,h1,h2,h3,h4,rfl⟩,h5⟩:=h;exact ⟨a,l,c,k,n,h1,h2,h3,h4,h5⟩
 case idxa.mp=>obtain ⟨a,k,n,h1,h2,h3,h4,h5⟩:=h;exact ⟨_,⟨a,k,n,h1,h2,h3,h4,rfl⟩,h5⟩
 case idxa.mpr=>obtain ⟨v,⟨a,k,n,h1,h2,h3,h4,rfl⟩,h5⟩:=h;exact ⟨a,k,n,h1,h2,h3,h4,h5⟩
 case len.mp=>obtain ⟨a,n,c,h1,h2⟩:=h;exact ⟨_,⟨a,n,c,h1,rfl⟩,h2⟩
 case len.mpr=>obtain ⟨v,⟨a,n,c,h1,rfl⟩,h2⟩:=h;exact ⟨a,n,c,h1,h2⟩
 case slen.mp=>obtain ⟨s,h1,h2⟩:=h;exact ⟨_,⟨s,h1,rfl⟩,h2⟩
 case slen.mpr=>obtain ⟨v,⟨s,h1,rfl⟩,h2⟩:=h;exact ⟨s,h1,h2⟩
 case sidx.mp=>obtain ⟨s,k,n,b,h1,h2,h3,h4,h5⟩:=h;exact ⟨_,⟨s,k,n,b,h1,h2,h3,h4,rfl⟩,h5⟩
 case sidx.mpr=>obtain ⟨v,⟨s,k,n,b,h1,h2,h3,h4,rfl⟩,h5⟩:=h;exact ⟨s,k,n,b,h1,h2,h3,h4,h5⟩
 case ext.mp=>obtain ⟨vs,v,h1,h2,h3⟩:=h;exact ⟨v,⟨vs,h1,h2⟩,h3⟩
 case ext.mpr=>obtain ⟨v,⟨vs,h1,h2⟩,h3⟩:=h;exact ⟨vs,v,h1,h2,h3⟩
 case fldv.mp=>obtain ⟨cs,v,h1,h2,h3⟩:=h;exact ⟨v,⟨cs,h1,h2⟩,h3⟩
 case fldv.mpr=>obtain ⟨v,⟨cs,h1,h2⟩,h3⟩:=h;exact ⟨cs,v,h1,h2,h3⟩
 case fldn.mp=>obtain ⟨cs,h1,h2⟩:=h;exact ⟨_,⟨cs,h1,rfl⟩,h2⟩
 case fldn.mpr=>obtain ⟨v,⟨cs,h1,rfl⟩,h2⟩:=h;exact ⟨cs,h1,h2⟩
 case build.mp=>obtain ⟨cs,h1,h2⟩:=h;exact ⟨_,⟨cs,h1,rfl⟩,h2⟩
 case build.mpr=>obtain ⟨v,⟨cs,h1,rfl⟩,h2⟩:=h;exact ⟨cs,h1,h2⟩
 case mkfn.mp=>exact ⟨_,rfl,h⟩
 case mkfn.mpr=>obtain ⟨v,rfl,h⟩:=h;exact h
 case sub.mp=>obtain ⟨a,n,c,l,hh,m,h1,h2,h3,h4,h5,h6,h7,h8⟩:=h;exact ⟨_,⟨a,n,c,l,hh,m,h1,h2,h3,h4,h5,h6,h7,rfl⟩,h8⟩
 case sub.mpr=>obtain ⟨v,⟨a,n,c,l,hh,m,h1,h2,h3,h4,h5,h6,h7,rfl⟩,h8⟩:=h;exact ⟨a,n,c,l,hh,m,h1,h2,h3,h4,h5,h6,h7,h8⟩
 case ssub.mp=>obtain ⟨s,l,hh,h1,h2,h3,h4,h5,h6⟩:=h;exact ⟨_,⟨s,l,hh,h1,h2,h3,h4,h5,rfl⟩,h6⟩
 case ssub.mpr=>obtain ⟨v,⟨s,l,hh,h1,h2,h3,h4,h5,rfl⟩,h6⟩:=h;exact ⟨s,l,hh,h1,h2,h3,h4,h5,h6⟩
 case mnx.mp=>obtain ⟨k,k',a,b,h1,h2,h3⟩:=h;exact ⟨_,⟨k,k',a,b,h1,h2,rfl⟩,h3⟩
 case mnx.mpr=>obtain ⟨v,⟨k,k',a,b,h1,h2,rfl⟩,h3⟩:=h;exact ⟨k,k',a,b,h1,h2,h3⟩
 case conv.mp=>obtain ⟨k',n,h1,h2⟩:=h;exact ⟨_,⟨k',n,h1,rfl⟩,h2⟩
 case conv.mpr=>obtain ⟨v,⟨k',n,h1,rfl⟩,h2⟩:=h;exact ⟨k',n,h1,h2⟩
 case mki.mp=>exact ⟨_,rfl,h⟩
 case mki.mpr=>obtain ⟨v,rfl,h⟩:=h;exact h

theorem QF {ρ ρ':La}{x:Operand}(h:∀s∈OX x,ρ s=ρ' s):ρ.ev x=ρ'.ev x:=by
 cases x<;>first|rfl|exact h _ (by simp [OX])
theorem ib {ρ ρ':La}{x:Option Operand}(h:∀s∈SU x,ρ s=ρ' s)(hb:Nl ρ d x n):Nl ρ' d x n:=by
 cases x with
 | none=>exact hb
 | some x=>simp only [Nl] at hb ⊢;rw [←QF (ρ:=ρ) (ρ':=ρ') h];exact hb
theorem lu {ρ ρ':La}(h:∀s∈xs.flatMap OX,ρ s=ρ' s):xs.map ρ.ev=xs.map ρ'.ev:=by
 refine Hh fun x hx=>QF fun s hs=>h s ?_;exact Jn.2 ⟨x,hx,hs⟩
theorem sI {ρ ρ':La}{xs:List (Nat×Nat×Operand)}(h:∀s∈xs.flatMap (fun p=>OX p.2.2),ρ s=ρ' s):
 (xs.map fun p=>(p.1,p.2.1,ρ.ev p.2.2))=xs.map fun p=>(p.1,p.2.1,ρ'.ev p.2.2):=by
 refine Hh fun x hx=>?_;rw [QF (ρ:=ρ) (ρ':=ρ') fun s hs=>h s (Jn.2 ⟨x,hx,hs⟩)]

theorem nC {ρ ρ':La}{o:LO}{v:Value}(h:∀s∈o.uses,ρ s=ρ' s)(hv:qv P ρ w o v):qv P ρ' w o v:=by
 cases o<;>simp only [qv] at hv ⊢ <;>simp only [LO.uses,F5] at h
 case mov=>rw [←QF h];exact hv
 case pick=>rw [←QF fun s hs=>h s (.inl (.inl hs)),←QF fun s hs=>h s (.inl (.inr hs)),←QF fun s hs=>h s (.inr hs)];exact hv
 case un=>rw [←QF h];exact hv
 case bin=>rw [←QF fun s hs=>h s (.inl hs),←QF fun s hs=>h s (.inr hs)];exact hv
 case nilc=>rw [←QF h];exact hv
 case fld=>rw [←QF h];exact hv
 case load1=>rw [←QF h];exact hv
 case loadn=>rw [←QF h];exact hv
 case idx=>rw [←QF fun s hs=>h s (.inl hs),←QF fun s hs=>h s (.inr hs)];exact hv
 case idxa=>rw [←QF fun s hs=>h s (.inl hs),←QF fun s hs=>h s (.inr hs)];exact hv
 case len=>rw [←QF h];exact hv
 case slen=>rw [←QF h];exact hv
 case sidx=>rw [←QF fun s hs=>h s (.inl hs),←QF fun s hs=>h s (.inr hs)];exact hv
 case ext=>rw [←QF h];exact hv
 case fldv=>rw [←QF h];exact hv
 case fldn=>rw [←QF h];exact hv
 case build=>rw [←sI h];exact hv
 case mkfn=>rw [←lu h];exact hv
 case sub=>
  rw [←QF fun s hs=>h s (.inl (.inl (.inl hs)))];obtain ⟨a,n,c,l,hh,m,h1,h2,h3,h4,h5⟩:=hv;exact ⟨a,n,c,l,hh,m,h1,ib (fun s hs=>h s (.inr hs)) h2,ib (fun s hs=>h s (.inl (.inr hs))) h3,ib (fun s hs=>h s (.inl (.inl (.inr hs)))) h4,h5⟩
 case ssub=>
  rw [←QF fun s hs=>h s (.inl (.inl hs))];obtain ⟨s,l,hh,h1,h2,h3,h4⟩:=hv;exact ⟨s,l,hh,h1,ib (fun s hs=>h s (.inr hs)) h2,ib (fun s hs=>h s (.inl (.inr hs))) h3,h4⟩
 case mnx=>rw [←QF fun s hs=>h s (.inl hs),←QF fun s hs=>h s (.inr hs)];exact hv
 case conv=>rw [←QF h];exact hv
 case mki=>rw [←QF h];exact hv
 all_goals exact hv.elim

theorem yG {ρ ρ':La}{xs:Array Operand}(h:∀s∈xs.toList.flatMap OX,ρ s=ρ' s):xs.map ρ.ev=xs.map ρ'.ev:=by
 apply Io;simpa using lu h
def T0:Op→Bool
 | .call ⟨.builtin _,_,_⟩| .makeSlice ..| .convert ..| .box ..| .load ..=>true
 | _=>false

theorem yH {ρ ρ':La}{o:Oper}(hr:T0 o.op=true)(h:∀s∈o.op.operands.toList.flatMap OX,ρ s=ρ' s):execOp ρ.ev o=execOp ρ'.ev o:=by
 obtain ⟨dst,op,T,pos,af,g⟩:=o;cases op<;>simp only [T0,FV] at hr<;>simp only [Op.operands] at h
 case call c=>
  obtain ⟨ce,xs,ts⟩:=c;cases ce<;>simp only [FV] at hr;simp only [execOp,resolve];rw [yG (by simpa [Call.operands] using h)]
 case makeSlice T l c=>
  simp only [execOp];rw [QF (x:=l) (ρ:=ρ) (ρ':=ρ') (fun s hs=>h s (by simp [hs])),QF (x:=c) (ρ:=ρ) (ρ':=ρ') (fun s hs=>h s (by simp [hs]))]
 case convert=>simp only [execOp];rw [QF (ρ:=ρ) (ρ':=ρ') (fun s hs=>h s (by simpa using hs))]
 case box=>simp only [execOp];rw [QF (ρ:=ρ) (ρ':=ρ') (fun s hs=>h s (by simpa using hs))]
 case load=>simp only [execOp];rw [QF (ρ:=ρ) (ρ':=ρ') (fun s hs=>h s (by simpa using hs))]

def LO.takes:LO→Bool
 | .raw o=>T0 o.op
 | _=>true

theorem xY {ρ ρ':La}{o:LO}{K K':KT}{Q Q':QT}(ht:o.takes=true)(h:∀s∈o.uses,ρ s=ρ' s)
 (hk:∀v w',K (Lq ρ o.dst v) w'→K' (Lq ρ' o.dst v) w')(hq:∀e w',e≠ .normal→Q e ρ w'→Q' e ρ' w')(hw:o.wp P ρ w K Q):o.wp P ρ' w K' Q':=by
 by_cases hqt:o.quiet=true
 · rw [lr hqt] at hw ⊢;obtain ⟨v,h1,h2⟩:=hw;exact ⟨v,nC h h1,hk _ _ h2⟩
 · have hp:∀d e w',Q6 K Q d ρ w e w'→(∀v w',K (Lq ρ d v) w'→K' (Lq ρ' d v) w')→Q6 K' Q' d ρ' w e w':=by
    intro d e w' hc hk
    cases e with
    | returned v=>exact hk _ _ hc
    | panicked ch=>exact hq _ _ Js hc
    | outgrown=>exact hq _ _ Js hc
   cases o<;>simp only [LO.quiet,not_true_eq_false] at hqt<;>simp only [LO.wp] at hw ⊢ <;>simp only [LO.uses,F5] at h<;>simp only [LO.dst,Lq] at hk
   case store1=>
    obtain ⟨a,c,h1,h2,h3,h4,h5⟩:=hw;have e1:=QF (ρ:=ρ) (ρ':=ρ') fun s hs=>h s (.inl hs);have e2:=QF (ρ:=ρ) (ρ':=ρ') fun s hs=>h s (.inr hs);rw [←e1,←e2];exact ⟨a,c,h1,h2,h3,h4,hk undef _ h5⟩
   case storen=>
    obtain ⟨a,cs,w',h1,h2,h3,h4,h5⟩:=hw;have e1:=QF (ρ:=ρ) (ρ':=ρ') fun s hs=>h s (.inl hs);have e2:=QF (ρ:=ρ) (ρ':=ρ') fun s hs=>h s (.inr hs);rw [←e1,←e2];exact ⟨a,cs,w',h1,h2,h3,h4,hk undef _ h5⟩
   case alloc=>exact hk _ _ hw
   case box=>rw [←QF h];exact hk _ _ hw
   case call=>rw [←lu h];exact hw.mono fun e w' hc=>hp _ e w' hc hk
   case callv=>
    obtain ⟨f,fst,cap,fn,h1,h2,h3,h4,h5⟩:=hw;rw [←QF (ρ:=ρ) (ρ':=ρ') fun s hs=>h s (.inl hs),←lu (ρ:=ρ) (ρ':=ρ') fun s hs=>h s (.inr hs)];exact ⟨f,fst,cap,fn,h1,h2,h3,h4,h5.mono fun e w' hc=>hp _ e w' hc hk⟩
   case buildS=>
    rw [←sI h];obtain ⟨cs,h1,h2⟩:=hw;exact ⟨cs,h1,hk _ _ h2⟩
   case raw o=>
    unfold P6 at hw ⊢;rw [←yH ht h];split at hw
    · exact hk _ _ hw
    · exact hk _ _ hw
    · exact hw.mono fun e w' hc=>by
       cases e with
       | returned v=>exact hk _ _ hc
       | panicked ch=>exact hq _ _ Js hc
       | outgrown=>exact hq _ _ Js hc
    · exact hw.mono fun v w' hc=>hk _ _ hc
    · exact hq _ _ Js hw
    · exact hw.elim

theorem sJ {K K':KT}{Q Q':QT}{d:Option Nat}{ρ:La}(hk:∀ρ w,K ρ w→K' ρ w)(hq:∀e ρ w,e≠ .normal→Q e ρ w→Q' e ρ w):∀e w',Q6 K Q d ρ w e w'→Q6 K' Q' d ρ w e w':=by
 intro e w' h
 cases e with
 | returned v=>exact hk _ _ h
 | panicked ch=>exact hq _ _ _ Js h
 | outgrown=>exact hq _ _ _ Js h

theorem m8 {ρ:La}{o:LO}{K K':KT}{Q Q':QT}(hk:∀ρ w,K ρ w→K' ρ w)(hq:∀e ρ w,e≠ .normal→Q e ρ w→Q' e ρ w)(h:o.wp P ρ w K Q):o.wp P ρ w K' Q':=by
 by_cases hqt:o.quiet=true
 · rw [lr hqt] at h ⊢;obtain ⟨v,h1,h2⟩:=h;exact ⟨v,h1,hk _ _ h2⟩
 · cases o<;>simp only [LO.quiet,not_true_eq_false] at hqt<;>simp only [LO.wp] at h ⊢
   case store1=>obtain ⟨a,c,h1,h2,h3,h4,h5⟩:=h;exact ⟨a,c,h1,h2,h3,h4,hk _ _ h5⟩
   case storen=>obtain ⟨a,c,w',h1,h2,h3,h4,h5⟩:=h;exact ⟨a,c,w',h1,h2,h3,h4,hk _ _ h5⟩
   case alloc=>exact hk _ _ h
   case box=>exact hk _ _ h
   case call=>exact h.mono (sJ hk hq)
   case callv=>obtain ⟨f,fst,cap,fn,h1,h2,h3,h4,h5⟩:=h;exact ⟨f,fst,cap,fn,h1,h2,h3,h4,h5.mono (sJ hk hq)⟩
   case buildS=>obtain ⟨cs,h1,h2⟩:=h;exact ⟨cs,h1,hk _ _ h2⟩
   case raw o=>
    unfold P6 at h ⊢;split at h
    · exact hk _ _ h
    · exact hk _ _ h
    · exact h.mono fun e w' hc=>by
       cases e with
       | returned v=>exact hk _ _ hc
       | panicked ch=>exact hq _ _ _ Js hc
       | outgrown=>exact hq _ _ _ Js hc
    · exact h.mono fun v w' hc=>hk _ _ hc
    · exact hq _ _ _ Js h
    · exact h.elim


def GO.uses (g:GO):List Nat:=(match g.g with|some (s,_)=>[s]|none=>[])++g.o.uses
def GO.dst (g:GO):Option Nat:=g.o.dst

def NS (P:Program)(ρ:La)(w:World)(g:GO)(v:Value):Prop:=match g.g with
 | none=>qv P ρ w g.o v
 | some (s,b)=>if Xl (ρ s) b then qv P ρ w g.o v else v=undef

theorem lx {ρ ρ':La}{g:GO}{v:Value}(h:∀s∈g.uses,ρ s=ρ' s)(hv:NS P ρ w g v):NS P ρ' w g v:=by
 obtain ⟨g,o⟩:=g
 cases g with
 | none=>exact nC (fun s hs=>h s (by simp [GO.uses,hs])) hv
 | some p=>
   obtain ⟨s,b⟩:=p;simp only [NS] at hv ⊢;rw [←h s (by simp [GO.uses])];split
   · rename_i hw;rw [if_pos hw] at hv;exact nC (fun s hs=>h s (by simp [GO.uses,hs])) hv
   · rename_i hw;rw [if_neg hw] at hv;exact hv

theorem sK {ρ:La}{Q:QT}{g:GO}{l:List GO}(h:g.o.quiet=true):
 Q0 P (g::l) Q ρ w↔∃v,NS P ρ w g v∧Q0 P l Q (Lq ρ g.dst v) w:=by
 obtain ⟨g,o⟩:=g
 cases g with
 | none=>simp only [Q0,NS];exact lr h
 | some p=>
   obtain ⟨s,b⟩:=p;simp only [Q0,NS];split
   · exact lr h
   · constructor
     · intro h;exact ⟨_,rfl,h⟩
     · rintro ⟨v,rfl,h⟩;exact h

theorem sL {ρ ρ':La}{g:GO}{l l':List GO}{Q Q':QT}(ht:g.o.takes=true)(h:∀s∈g.uses,ρ s=ρ' s)
 (hk:∀v w',Q0 P l Q (Lq ρ g.dst v) w'→Q0 P l' Q' (Lq ρ' g.dst v) w')(hq:∀e w',e≠ .normal→Q e ρ w'→Q' e ρ' w')(hw:Q0 P (g::l) Q ρ w):Q0 P (g::l') Q' ρ' w:=by
 obtain ⟨g,o⟩:=g
 cases g with
 | none=>exact CA
 | some p=>
   obtain ⟨s,b⟩:=p;simp only [Q0] at hw ⊢;rw [←h s (by simp [GO.uses])];split
   · rename_i hg;rw [if_pos hg] at hw;exact CA
   · rename_i hg;rw [if_neg hg] at hw;exact hk _ _ hw


abbrev CI:=Nat×Option (Option (List Nat))

def LO.pureQ:LO→Bool
 | .load1 ..| .loadn ..=>false
 | o=>o.quiet

theorem sM {ρ:La}{o:LO}{v:Value}(h:o.pureQ=true)(hv:qv P ρ w o v):qv P ρ w' o v:=by
 cases o<;>first|exact hv|(simp [LO.pureQ] at h;done)
theorem T1 {ρ:La}{g:GO}{v:Value}(h:g.o.pureQ=true)(hv:NS P ρ w g v):NS P ρ w' g v:=by
 obtain ⟨g,o⟩:=g
 cases g with
 | none=>exact sM h hv
 | some p=>
   simp only [NS] at hv ⊢;split
   · rename_i hw;rw [if_pos hw] at hv;exact sM h hv
   · rename_i hw;rw [if_neg hw] at hv;exact hv

def T2 (acc:List Nat)(e:List Nat):Nat:=e.foldl (fun m j=>m|||2 ^ j|||acc.getD j 0) 0
def nD:List (List Nat)→List Nat→List Nat
 | [],acc=>acc
 | e::es,acc=>nD es (acc++[T2 acc e])
def ic (es:List (List Nat)):List Nat:=nD es []

def ie (es:List (List Nat))(X:List Nat):Prop:=∀k∈X,∀e∈es.getD k [],e∈X

theorem RH (acc:List Nat)(k:Nat):∀(e:List Nat) (m0:Nat),(e.foldl (fun m j=>m|||2 ^ j|||acc.getD j 0) m0).testBit k=true→m0.testBit k=true∨∃j∈e,k=j∨(acc.getD j 0).testBit k=true:=by
 intro e
 induction e with
 | nil=>intro m0 h;exact .inl h
 | cons j e ih=>
   intro m0 h;rcases ih _ h with h|⟨j',hj',h⟩
   · simp only [Nat.testBit_or,HQ] at h
     rcases h with (h|h)|h
     · exact .inl h
     · rw [Nat.testBit_two_pow] at h;exact .inr ⟨j,by simp, .inl (by simpa using (of_decide_eq_true h).symm)⟩
     · exact .inr ⟨j,by simp, .inr h⟩
   · exact .inr ⟨j',by simp [hj'],h⟩

theorem yI (all:List (List Nat)):∀(es pre:List (List Nat)) (acc:List Nat),all=pre++es→acc.length=pre.length→
 (∀i,∀j,(acc.getD i 0).testBit j=true→∀X,ie all X→(∀e∈all.getD i [],e∈X)→j∈X)→
 ∀i j,((nD es acc).getD i 0).testBit j=true→∀X,ie all X→(∀e∈all.getD i [],e∈X)→j∈X:=by
 intro es
 induction es with
 | nil=>intro pre acc _ _ h;exact h
 | cons e es ih=>
   intro pre acc hall hlen h;refine ih (pre++[e]) (acc++[T2 acc e]) (by simp [hall]) (by simp [hlen]) ?_;intro i j hb X hX he;simp only [FE,List.getElem?_append] at hb;split at hb
   · exact h i j (by simpa [FE] using hb) X hX he
   · rename_i hi
     by_cases hi':i=acc.length
     · subst hi'
       simp only [HN,Gl,Hn] at hb;have hei:all.getD acc.length []=e:=(by rw [hlen,hall];simp [FE]);rw [hei] at he;rcases RH acc j e 0 hb with hb|⟨j',hj',rfl|hb⟩
       · simp at hb
       · exact he _ hj'
       · exact h j' j hb X hX (hX j' (he j' hj'))
     · rw [Gb DE] at hb;simp at hb

theorem yJ {es:List (List Nat)}{i:Nat}(h:((ic es).getD i 0).testBit j=true){X:List Nat}(hX:ie es X)(he:∀e∈es.getD i [],e∈X):j∈X:=
 yI es es [] [] rfl rfl (by intro i j h;simp at h) i j h X hX he

section
variable (P:Program) (gs:List GO)

def LI (i:Nat):GO:=gs.getD i GO.nop

def nE (Q:QT):QT:=fun e _ w'=>∀ρ'',Q e ρ'' w'

def Pg:List CI→QT→La→World→Prop
 | [],Q,ρ,w=>Q .normal ρ w
 | (i,none)::rest,Q,ρ,w=>Q0 P [LI gs i] (Qr (Pg rest Q) Q) ρ w
 | (i,some none)::rest,Q,ρ,w=>Q0 P [LI gs i] (Qr (Pg rest Q) Q) ρ w
 | (i,some (some fl))::rest,Q,ρ,w=>
   Q0 P [LI gs i] (Qr (fun ρ' w'=>(∀q∈fl,NS P ρ w' (LI gs q) (ρ ((LI gs q).dst.getD 0)))∧Pg rest Q ρ' w') (nE Q)) ρ w
end

def fT (a b:GO):Bool:=(match b.dst with|some d=> !a.uses.contains d && !(a.dst==some d)|none=>true)
def fU (a b:GO):Bool:=(match a.dst with|some d=> !b.uses.contains d|none=>true)

def T3 (gs:List GO)(ms:List Nat)(a b:CI):Bool:=
 let r:=(ms.getD b.1 0).testBit a.1
 match a.2,b.2 with
 | none,some none=>r
 | none,some (some fl)=>r||((fl.contains a.1||(LI gs a.1).o.pureQ) && fT (LI gs a.1) (LI gs b.1) && fU (LI gs a.1) (LI gs b.1))
 | some _,_=>r
 | none,none=>fT (LI gs a.1) (LI gs b.1) && (r||fU (LI gs a.1) (LI gs b.1))

def XN (gs:List GO)(a:CI):Bool:=decide (a.1<gs.length) && (match a.2 with
 | none=>(LI gs a.1).o.quiet && (match (LI gs a.1).dst with|some d=> !(LI gs a.1).uses.contains d|none=>false)
 | some _=>(LI gs a.1).o.takes)

def Xm (gs:List GO)(ms:List Nat):List CI→Bool
 | []=>true
 | a::l=>XN gs a && l.all (fun b=>T3 gs ms a b && !(a.1==b.1)) && Xm gs ms l

def bO (gs:List GO)(es:List (List Nat))(C:List CI):Bool:=
 decide (es.length=gs.length) && Xm gs (ic es) C && (List.range gs.length).all fun i=>(C.map (·.1)).contains i

structure J (P:Program) (gs:List GO) (es:List (List Nat)) (C:List CI) (Q:QT) (X:List Nat) (ρS:La) (w:World) (D rest:List CI) (ρC:La):Prop where
 hC:C=D++rest
 hX1:∀i∈X,∃k,(i,k)∈D
 hX2:∀c∈D,c.2.isSome=true→c.1∈X
 hcl:ie es X
 hslot:∀s,(∀c∈D,c.1∉X→(LI gs c.1).dst≠some s)→ρS s=ρC s
 hpend:∀c∈D,c.1∉X→NS P ρC w (LI gs c.1) (ρC ((LI gs c.1).dst.getD 0))
 hcan:Pg P gs rest Q ρC w

theorem ig {gs:List GO}:∀{D rest:List CI},Xm gs ms (D++rest)=true→∀a∈D,∀b∈rest,T3 gs ms a b=true∧a.1≠b.1:=by
 intro D
 induction D with
 | nil=>intro rest _ a ha;cases ha
 | cons c D ih=>
   intro rest h a ha b hb;simp only [G3,Xm,FN] at h;rcases FX.1 ha with rfl|ha
   · have:=GB.1 h.1.2 b (by simp [hb]);simp only [FN,G7,beq_eq_false_iff_ne] at this;exact this
   · exact ih h.2 a ha b hb

theorem ly {gs:List GO}:∀{C:List CI},Xm gs ms C=true→∀a∈C,XN gs a=true:=by
 intro C
 induction C with
 | nil=>intro _ a ha;cases ha
 | cons c C ih=>
   intro h a ha;simp only [Xm,FN] at h;rcases FX.1 ha with rfl|ha
   · exact h.1.1
   · exact ih h.2 a ha

theorem P9 {gs:List GO}:∀{C:List CI},Xm gs ms C=true→∀a∈C,∀b∈C,a=b∨(T3 gs ms a b=true∧a.1≠b.1)∨(T3 gs ms b a=true∧b.1≠a.1):=by
 intro C
 induction C with
 | nil=>intro _ a ha;cases ha
 | cons c C ih=>
   intro h a ha b hb;simp only [Xm,FN] at h
   have hall:∀x∈C,T3 gs ms c x=true∧c.1≠x.1:=by
    intro x hx;have:=GB.1 h.1.2 x hx
    simpa [FN] using this
   rcases FX.1 ha with hac|ha
   · rcases FX.1 hb with hbc|hb
     · exact .inl (hac.trans hbc.symm)
     · rw [hac];exact .inr (.inl (hall b hb))
   · rcases FX.1 hb with hbc|hb
     · rw [hbc];exact .inr (.inr (hall a ha))
     · exact ih h.2 a ha b hb

theorem nF {a b:GO}(h:fT a b=true)(hd:b.dst=some d):d∉a.uses∧a.dst≠some d:=by
 unfold fT at h;rw [hd] at h;simp only [FN,G7,H4,decide_eq_false_iff_not,beq_eq_false_iff_ne] at h;exact h
theorem sN {a b:GO}(h:fU a b=true)(hd:a.dst=some d):d∉b.uses:=by
 unfold fU at h;rw [hd] at h
 simpa using h

theorem XO {ρ:La}{d:Option Nat}{v:Value}(h:d≠some s):Lq ρ d v s=ρ s:=by
 cases d with
 | none=>rfl
 | some d=>
   have:s≠d:=fun e=>h (by rw [e]);simp only [Lq,upd];cases hb:Nat.beq s d
   · rfl
   · exact absurd (IS hb) this
theorem lz {ρ:La}{v:Value}:Lq ρ (some s) v s=v:=by
 simp [Lq,upd,Nat.beq_refl]

theorem J.advance {gs:List GO}{es:List (List Nat)}{C:List CI}{Q:QT}{X:List Nat}{ρS:La}(hok:Xm gs (ic es) C=true):
 ∀(rest D:List CI) (ρC:La),J P gs es C Q X ρS w D rest ρC→∃D' rest' ρC',J P gs es C Q X ρS w D' rest' ρC'∧(rest'=[]∨∃f fl r,rest'=(f,some fl)::r):=by
 intro rest
 induction rest with
 | nil=>intro D ρC h;exact ⟨D,[],ρC,h, .inl rfl⟩
 | cons c rest ih=>
   intro D ρC h;obtain ⟨i,k⟩:=c
   cases k with
   | some fl=>exact ⟨D,_,ρC,h, .inr ⟨i,fl,rest,rfl⟩⟩
   | none=>
     have hiC:(i,none)∈C:=(by rw [h.hC];simp);have h1:=ly hok _ hiC;simp only [XN,FN] at h1;obtain ⟨_,hq,hd⟩:=h1
     cases hdst:(LI gs i).dst with
     | none=>simp [hdst] at hd
     | some d=>
       simp only [hdst,G7,H4,decide_eq_false_iff_not] at hd;have hcan:=h.hcan;simp only [Pg] at hcan;obtain ⟨v,hv,hcan⟩:=(sK hq).1 hcan;simp only [Q0,Qr] at hcan;have hsplit:=ig (D:=D) (rest:=(i,none)::rest) (by rw [←h.hC];exact hok)
       have hiX:i∉X:=by
        intro hx;obtain ⟨k,hk⟩:=h.hX1 i hx;exact (hsplit _ hk (i,none) Js).2 rfl
       -- what is pending ahead of i
       have hind:∀c∈D,c.1∉X→d∉(LI gs c.1).uses∧(LI gs c.1).dst≠some d:=by
        intro c hc hcX;have hp:=(hsplit c hc (i,none) Js).1
        have hcn:c.2=none:=by
         cases hk:c.2 with
         | none=>rfl
         | some fl=>exact absurd (h.hX2 c hc (by simp [hk])) hcX
        simp only [T3,hcn,FN] at hp;exact nF hp.1 hdst
       refine ih (D++[(i,none)]) (Lq ρC (LI gs i).dst v) ?_;refine ⟨by rw [h.hC];simp,?_,?_,h.hcl,?_,?_,hcan⟩
       · intro j hj;obtain ⟨k,hk⟩:=h.hX1 j hj;exact ⟨k,by simp [hk]⟩
       · intro c hc hs
         rcases F5.1 hc with hc|hc
         · exact h.hX2 c hc hs
         · simp only [Gx] at hc;subst hc;simp at hs
       · intro s hs;have hds:(LI gs i).dst≠some s:=hs (i,none) Js hiX;rw [XO hds];exact h.hslot s fun c hc=>hs c Ed
       · intro c hc hcX
         rcases F5.1 hc with hc|hc
         · obtain ⟨h2,h3⟩:=hind c hc hcX
           have he:∀s∈(LI gs c.1).uses,ρC s=Lq ρC (LI gs i).dst v s:=by
            intro s hs;rw [XO];rw [hdst];intro e;simp only [FU] at e;subst e;exact h2 hs
           have hdc:Lq ρC (LI gs i).dst v ((LI gs c.1).dst.getD 0)=ρC ((LI gs c.1).dst.getD 0):=by
            rw [XO];rw [hdst];intro e;simp only [FU] at e;have hcC:=ly hok c (by rw [h.hC];simp [hc])
            have hcn:c.2=none:=by
             cases hk:c.2 with
             | none=>rfl
             | some fl=>exact absurd (h.hX2 c hc (by simp [hk])) hcX
            simp only [XN,hcn,FN] at hcC
            cases hdc:(LI gs c.1).dst with
            | none=>simp [hdc] at hcC
            | some d'=>rw [hdc] at e h3;simp at e;subst e;exact h3 rfl
           rw [hdc];exact lx he (h.hpend c hc hcX)
         · simp only [Gx] at hc
           subst hc
           have he:∀s∈(LI gs i).uses,ρC s=Lq ρC (LI gs i).dst v s:=by
            intro s hs;rw [XO];rw [hdst];intro e;simp only [FU] at e;subst e;exact hd hs
           have hval:Lq ρC (LI gs i).dst v ((LI gs i).dst.getD 0)=v:=(by rw [hdst];exact lz);simp only [hval];exact lx he hv

theorem yK {gs:List GO}{es:List (List Nat)}{C:List CI}{Q:QT}(hlen:es.length=gs.length)(hok:Xm gs (ic es) C=true)(hall:∀i,i<gs.length→∃k,(i,k)∈C):
 ∀(l X:List Nat) (ρS:La) (w:World) (D rest:List CI) (ρC:La),SQ es X l→J P gs es C Q X ρS w D rest ρC→Q0 P (l.map (LI gs)) Q ρS w:=by
 intro l
 induction l with
 | nil=>
   intro X ρS w D rest ρC hl hJ;obtain ⟨D,rest,ρC,hJ,hr⟩:=J.advance hok rest D ρC hJ;simp only [SQ] at hl;have hX:∀i,i<gs.length→i∈X:=fun i hi=>hl i Jo;have hone:=ly hok
   have hrest:rest=[]:=by
    rcases hr with hr|⟨f,fl,r,hr⟩
    · exact hr
    · exfalso;have hf:=hone (f,some fl) (by rw [hJ.hC,hr];simp);simp only [XN,FN,decide_eq_true_eq] at hf;obtain ⟨k,hk⟩:=hJ.hX1 f (hX f hf.1);exact (ig (D:=D) (rest:=rest) EC _ hk (f,some fl) (by rw [hr];simp)).2 rfl
   have hpe:ρS=ρC:=funext fun s=>hJ.hslot s fun c hc hcX=>by
    have hf:=hone c Ew;simp only [XN,FN,decide_eq_true_eq] at hf;exact absurd (hX c.1 hf.1) hcX
   have hcan:=hJ.hcan;rw [hrest] at hcan;simp only [Pg] at hcan;rw [hpe];exact hcan
 | cons i l ih=>
   intro X ρS w D rest ρC hl hJ;obtain ⟨D,rest,ρC,hJ,hr⟩:=J.advance hok rest D ρC hJ;simp only [SQ] at hl;obtain ⟨hil,hiX,hie,hl⟩:=hl;obtain ⟨k,hiC⟩:=hall i Jo;have hone:=ly hok
   have hcl':ie es (i::X):=by
    intro j hj e he;rcases FX.1 hj with rfl|hj
    · exact FX.2 (.inr (hie e he))
    · exact FX.2 (.inr (hJ.hcl j hj e he))
   have hanc:∀j,((ic es).getD i 0).testBit j=true→j∈X:=fun j hj=>yJ hj hJ.hcl hie
   have hpq:∀c∈D,c.1∉X→c.2=none:=by
    intro c hc hcX
    cases hk:c.2 with
    | none=>rfl
    | some fl=>exact absurd (hJ.hX2 c hc (by simp [hk])) hcX
   rw [hJ.hC] at hiC;simp only [He];rcases F5.1 hiC with hiD|hiR
   · -- it was done in the canonical run
     have hkn:k=none:=hpq (i,k) hiD hiX;subst hkn;have ho:=hone (i,none) (by rw [hJ.hC];simp [hiD]);simp only [XN,FN] at ho;obtain ⟨_,hq,hd⟩:=ho;have hp:=hJ.hpend (i,none) hiD hiX;simp only at hp
     cases hdst:(LI gs i).dst with
     | none=>simp [hdst] at hd
     | some d=>
       simp only [hdst,G7,H4,decide_eq_false_iff_not] at hd;rw [hdst,Hn] at hp
       have huse:∀s∈(LI gs i).uses,ρC s=ρS s:=by
        intro s hs;refine (hJ.hslot s fun c hc hcX hcd=>?_).symm;have hcn:=hpq c hc hcX;have hcC:c∈C:=Ew;have hiC':(i,none)∈C:=(by rw [hJ.hC];simp [hiD]);rcases P9 hok c hcC (i,none) hiC' with rfl|⟨h1,_⟩|⟨h1,_⟩
        · rw [hdst] at hcd;simp only [FU] at hcd;subst hcd;exact hd hs
        · simp only [T3,hcn,FN,HQ] at h1
          rcases h1.2 with h2|h2
          · exact hcX (hanc _ h2)
          · exact sN h2 hcd hs
        · simp only [T3,hcn,FN] at h1;exact (nF h1.1 hcd).1 hs
       refine (sK hq).2 ⟨ρC d,lx huse hp,?_⟩;refine ih (i::X) _ w D rest ρC hl ⟨hJ.hC,?_,?_,hcl',?_,?_,hJ.hcan⟩
       · intro j hj
         rcases FX.1 hj with rfl|hj
         · exact ⟨none,hiD⟩
         · exact hJ.hX1 j hj
       · intro c hc hs;exact FX.2 (.inr (hJ.hX2 c hc hs))
       · intro s hs
         by_cases hsd:s=d
         · subst hsd;rw [hdst,lz]
         · rw [XO (by rw [hdst];intro e;simp only [FU] at e;exact hsd e.symm)]
           refine hJ.hslot s fun c hc hcX=>?_;by_cases hci:c.1=i
           · rw [hci,hdst];intro e;simp only [FU] at e;exact hsd e.symm
           · exact hs c hc (by simp [hci,hcX])
       · intro c hc hcX;exact hJ.hpend c hc fun h=>hcX (FX.2 (.inr h))
   · -- it stands ahead:it is the next one
     rcases hr with hr|⟨f,fl,r,hr⟩
     · rw [hr] at hiR;cases hiR
     · subst hr
       have hfX:f∉X:=by
        intro hx;obtain ⟨k',hk'⟩:=hJ.hX1 f hx;exact (ig (D:=D) (rest:=(f,some fl)::r) EC _ hk' (f,some fl) Js).2 rfl
       have hif:(i,k)=(f,some fl):=by
        rcases FX.1 hiR with h|h
        · exact h
        · exfalso;have hsp:=ig (D:=D++[(f,some fl)]) (rest:=r) (by rw [hJ.hC] at hok;simpa using hok);have hp:=(hsp (f,some fl) Js (i,k) h).1;simp only [T3] at hp;exact hfX (hanc f hp)
       simp only [Hv] at hif;obtain ⟨rfl,rfl⟩:=hif;have ho:=hone (i,some fl) (by rw [hJ.hC];simp);simp only [XN,FN] at ho;have hsp:=ig (D:=D) (rest:=(i,some fl)::r) EC
       -- behind the fenced operation
       have done:∀(v:Value) (w':World),(∀c∈D,c.1∉X→(fT (LI gs c.1) (LI gs i)=true∧fU (LI gs c.1) (LI gs i)=true)∧NS P ρC w' (LI gs c.1) (ρC ((LI gs c.1).dst.getD 0)))→
        Pg P gs r Q (Lq ρC (LI gs i).dst v) w'→Q0 P (l.map (LI gs)) Q (Lq ρS (LI gs i).dst v) w':=by
        intro v w' hst hk;refine ih (i::X) _ w' (D++[(i,some fl)]) r _ hl ⟨by rw [hJ.hC];simp,?_,?_,hcl',?_,?_,hk⟩
        · intro j hj
          rcases FX.1 hj with rfl|hj
          · exact ⟨some fl,by simp⟩
          · obtain ⟨k,hk⟩:=hJ.hX1 j hj;exact ⟨k,by simp [hk]⟩
        · intro c hc hs
          rcases F5.1 hc with hc|hc
          · exact FX.2 (.inr (hJ.hX2 c hc hs))
          · simp only [Gx] at hc;subst hc;simp
        · intro s hs
          by_cases hsd:(LI gs i).dst=some s
          · rw [hsd,lz,lz]
          · rw [XO hsd,XO hsd]
            refine hJ.hslot s fun c hc hcX=>hs c Ed ?_;intro hm;rcases FX.1 hm with h|h
            · exact (hsp c hc (i,some fl) Js).2 h
            · exact hcX h
        · intro c hc hcX
          rcases F5.1 hc with hc|hc
          · have hcX':c.1∉X:=fun h=>hcX (FX.2 (.inr h))
            obtain ⟨⟨h2,h3⟩,hs⟩:=hst c hc hcX';have hcC:=hone c Ew;simp only [XN,hpq c hc hcX',FN] at hcC
            have hind:∀s,((s∈(LI gs c.1).uses)∨(LI gs c.1).dst=some s)→(LI gs i).dst≠some s:=by
             intro s hs hd;have:=nF h2 hd;rcases hs with hs|hs
             · exact this.1 hs
             · exact this.2 hs
            have hdc:Lq ρC (LI gs i).dst v ((LI gs c.1).dst.getD 0)=ρC ((LI gs c.1).dst.getD 0):=by
             cases hd:(LI gs c.1).dst with
             | none=>simp [hd] at hcC
             | some d'=>rw [XO (hind _ (.inr (by rw [hd];rfl)))]
            rw [hdc];exact lx (fun s hs=>(XO (hind s (.inl hs))).symm) hs
          · simp only [Gx] at hc;subst hc;exact absurd (FX.2 (.inl rfl)) hcX
       have hcan:=hJ.hcan
       cases fl with
       | none=>
         have hnone:∀c∈D,¬(c.1∉X):=by
          intro c hc hcX;have hp:=(hsp c hc (i,some none) Js).1;simp only [T3,hpq c hc hcX] at hp;exact hcX (hanc _ hp)
         have hpe:ρS=ρC:=funext fun s=>hJ.hslot s fun c hc hcX=>absurd hcX (hnone c hc);simp only [Pg] at hcan;refine sL ho.2 (fun s hs=>by rw [hpe]) ?_ ?_ hcan
         · intro v w' hk;simp only [Q0,Qr] at hk;exact done v w' (fun c hc hcX=>absurd hcX (hnone c hc)) hk
         · intro e w' hne hq;rw [hpe];cases e<;>first|exact hq|exact absurd rfl hne
       | some fl=>
         simp only [Pg] at hcan
         have hfloat:∀c∈D,c.1∉X→(c.1∈fl∨(LI gs c.1).o.pureQ=true)∧fT (LI gs c.1) (LI gs i)=true∧fU (LI gs c.1) (LI gs i)=true:=by
          intro c hc hcX;have hp:=(hsp c hc (i,some (some fl)) Js).1;simp only [T3,hpq c hc hcX,HQ,FN] at hp;rcases hp with hp|⟨⟨h1,h2⟩,h3⟩
          · exact absurd (hanc _ hp) hcX
          · exact ⟨h1.imp Js id,h2,h3⟩
         refine sL ho.2 (fun s hs=>(hJ.hslot s fun c hc hcX hcd=>sN (hfloat c hc hcX).2.2 hcd hs).symm) ?_ ?_ hcan
         · intro v w' hk
           simp only [Q0,Qr] at hk;obtain ⟨hst,hk⟩:=hk;refine done v w' (fun c hc hcX=>?_) hk;obtain ⟨h1,h2,h3⟩:=hfloat c hc hcX;refine ⟨⟨h2,h3⟩,?_⟩;rcases h1 with h1|h1
           · exact hst c.1 h1
           · exact T1 h1 (hJ.hpend c hc hcX)
         · intro e w' hne hq;(have hq':nE Q e ρC w':=by cases e<;>first|exact hq|exact absurd rfl hne);exact hq' ρS

theorem sO {gs:List GO}{es:List (List Nat)}{Q:QT}{ρ:La}(C:List CI)(hok:bO gs es C=true)(h:Pg P gs C Q ρ w.drew):(LC.draw gs es).wp P Q ρ w:=by
 simp only [bO,FN,decide_eq_true_eq] at hok;obtain ⟨⟨hlen,hp⟩,hall⟩:=hok;intro l hl;refine yK hlen hp ?_ l [] ρ w.drew [] C ρ hl ⟨by simp,Js,Js,(fun k hk=>absurd hk Js),(fun s _=>rfl),Js,h⟩;intro i hi;have:=GB.1 hall i Ee;simp only [H4,decide_eq_true_eq,Gm] at this;obtain ⟨⟨j,k⟩,hc,rfl⟩:=this;exact ⟨k,hc⟩

theorem yL {gs:List GO}{Q:QT}:∀(C:List CI),(C.all fun c=>match c.2 with|some (some _)=>false|_=>true)=true→∀ρ w,Q0 P (C.map fun c=>LI gs c.1) Q ρ w→Pg P gs C Q ρ w:=by
 intro C
 induction C with
 | nil=>intro _ ρ w h;exact h
 | cons c C ih=>
   intro hc ρ w h;simp only [List.all_cons,FN] at hc;obtain ⟨i,k⟩:=c
   have key:∀{g:GO}{l:List GO}{K:KT} {ρ w},(∀ρ w,Q0 P l Q ρ w→K ρ w)→Q0 P (g::l) Q ρ w→Q0 P [g] (Qr K Q) ρ w:=by
    intro g l K ρ w hk h
    have hwp:∀{o:LO} {ρ w},o.wp P ρ w (Q0 P l Q) Q→o.wp P ρ w (Q0 P [] (Qr K Q)) (Qr K Q):=by
     intro o ρ w h;exact m8 (fun ρ w h=>hk ρ w h) (fun e ρ w hne h=>by cases e<;>first|exact h|exact absurd rfl hne) h
    obtain ⟨g,o⟩:=g
    cases g with
    | none=>exact hwp h
    | some p=>
      obtain ⟨s,b⟩:=p;simp only [Q0] at h ⊢;split
      · rename_i hg;rw [if_pos hg] at h;exact hwp h
      · rename_i hg;rw [if_neg hg] at h;exact hk _ _ h
   simp only [He] at h
   cases k with
   | none=>exact key (fun ρ w h=>ih hc.2 ρ w h) h
   | some fl=>
     cases fl with
     | some fl=>simp at hc
     | none=>exact key (fun ρ w h=>ih hc.2 ρ w h) h

theorem yM {gs:List GO}{es:List (List Nat)}{Q:QT}{ρ:La}(C:List CI)(hok:bO gs es C=true)
 (hpl:(C.all fun c=>match c.2 with|some (some _)=>false|_=>true)=true)(h:Q0 P (C.map fun c=>LI gs c.1) Q ρ w.drew):(LC.draw gs es).wp P Q ρ w:=
 sO C hok (yL C hpl _ _ h)

end
end Go.Lir
namespace Go.Lir
open Go.RowKit (Below)

abbrev Ld:=Array Obj

def LY (H:Ld)(b:Nat)(T:TypeId)(cs:List Value):Prop:=∃fz,H[b]?=some (.cells ⟨cs⟩ T fz)∧(∀i,fz.1≤i→i<fz.2→cs.length≤i)∧fz.1≤fz.2

structure Fr (F:Nat→Prop) (w w':World):Prop where
 os:w'.os=w.os
 tape:w'.tape=w.tape
 output:w'.output=w.output
 size:w.heap.size≤w'.heap.size
 same:∀b,b<w.heap.size→¬F b→w'.heap[b]?=w.heap[b]?

abbrev NF:Nat→Prop:=fun _=>False

theorem Fr.refl (F:Nat→Prop)(w:World):Fr F w w:=⟨rfl,rfl,rfl,F6 _,fun _ _ _=>rfl⟩
abbrev Ik:=@Fr.refl
theorem Fr.drew {F:Nat→Prop}(h:Fr F w.drew w'):Fr F w w':=⟨h.os,h.tape,h.output,h.size,h.same⟩
theorem Fr.drew' {F:Nat→Prop}(h:Fr F w w'):Fr F w w'.drew:=⟨h.os,h.tape,h.output,h.size,h.same⟩
abbrev Ki:=@Fr.drew'
theorem Fr.mono {F:Nat→Prop}(h:Fr F w w')(hs:∀b,b<w.heap.size→F b→G b):Fr G w w':=
 ⟨h.os,h.tape,h.output,h.size,fun b hb hg=>h.same b hb fun hf=>hg (hs b hb hf)⟩
theorem Fr.trans {F:Nat→Prop}(h:Fr F w w')(k:Fr G w' w'')(hs:∀b,b<w.heap.size→G b→F b):Fr F w w'':=
 ⟨k.os.trans h.os,k.tape.trans h.tape,k.output.trans h.output,Hj h.size k.size,fun b hb hf=>
   (k.same b (HB hb h.size) fun hg=>hf (hs b hb hg)).trans (h.same b hb hf)⟩
theorem Fr.below (h:Fr NF w w'):Below w.heap.size w w':=⟨h.os,h.tape,h.output,h.size,fun k hk=>h.same k hk (fun h=>h)⟩
theorem Fr.any {F:Nat→Prop}(h:Fr NF w w'):Fr F w w':=h.mono fun _ _ h=>h.elim

theorem LY.lt {H:Ld}(h:LY H b T cs):b<H.size:=by
 obtain ⟨fz,h,_⟩:=h;rcases Hc b H.size with h'|h'
 · exact h'
 · simp [Hl h'] at h
theorem LY.of_same {H H':Ld}(h:LY H b T cs)(he:H'[b]?=H[b]?):LY H' b T cs:=by
 obtain ⟨fz,h,h2⟩:=h;exact ⟨fz,he.trans h,h2⟩
theorem LY.fr {F:Nat→Prop}(h:LY w.heap b T cs)(hf:Fr F w w')(hn:¬F b):LY w'.heap b T cs:=
 h.of_same (hf.same b h.lt hn)
theorem LY.inj {H:Ld}(h:LY H b T cs)(h':LY H b T' cs'):T=T'∧cs=cs':=by
 obtain ⟨fz,h,_⟩:=h;obtain ⟨fz',h',_⟩:=h';rw [h] at h';simp only [FU,Obj.cells.injEq,Array.mk.injEq] at h';exact ⟨h'.2.1,h'.1⟩
theorem LY.cell {i:Nat}{v:Value}(h:LY w.heap b T cs)(hv:cs[i]?=some v):w.cell? ⟨b,i,none⟩=some v:=by
 obtain ⟨fz,h,_⟩:=h;simp [World.cell?,h,hv]
theorem LY.free {i:Nat}(h:LY w.heap b T cs)(hi:i<cs.length):w.frozen? ⟨b,i,none⟩=false:=by
 obtain ⟨⟨lo,hi'⟩,h,h2⟩:=h;simp only [World.frozen?,h];have:=h2.1 i;simp only at this;simp only [Bool.and_eq_false_iff,decide_eq_false_iff_not];omega

theorem PO (b o n:Nat):(Addr.mk b o none).add n=⟨b,o+n,none⟩:=by
 unfold Addr.add;split
 · rename_i h;subst h;rfl
 · rfl

theorem LY.cells {o:Nat}(h:LY w.heap b T cs)(hv:(cs.drop o).take n=vs)(hl:vs.length=n):aj w ⟨b,o,none⟩ n vs:=by
 refine ⟨hl,fun j hj=>?_⟩;rw [PO];have:vs[j]?=cs[o+j]?:=(by rw [←hv,Gv hj,HA]);rw [this]
 have hlt:o+j<cs.length:=by
  have h1:vs.length=min n (cs.length - o):=(by rw [←hv];simp);omega
 rw [FB hlt];exact h.cell (FB hlt)

theorem lA (w:World)(b i:Nat)(v:Value):Fr (· =b) w (w.setCell ⟨b,i,none⟩ v):=by
 refine ⟨rfl,rfl,rfl,by simp,fun k _ hk=>?_⟩;simp only [World.setCell,Ke];rw [if_neg (fun e=>hk e.symm)]
theorem LY.set {i:Nat}{v:Value}(h:LY w.heap b T cs):LY (w.setCell ⟨b,i,none⟩ v).heap b T (cs.set i v):=by
 obtain ⟨fz,h,h2⟩:=h;refine ⟨fz,?_,by simpa using h2.1,h2.2⟩;simp only [World.setCell,Ke,h,if_true,GC,Kv];simp

theorem bP (w:World)(o:Obj):Fr NF w (w.alloc o):=by
 refine ⟨rfl,rfl,rfl,by simp,fun k hk _=>?_⟩;simp only [World.alloc,Array.getElem?_push];rw [if_neg Jo]
theorem fV (w:World)(cs:List Value)(T:TypeId):LY (w.alloc (.cells ⟨cs⟩ T)).heap w.heap.size T cs:=by
 refine ⟨(0,0),?_,⟨fun i h1 h2=>by simp at h2,by simp⟩⟩;show (w.heap.push _)[w.heap.size]?=_;simp

theorem nG (P:Program)(b:Nat)(T:TypeId):∀(vs:List Value) (w:World) (cs:List Value) (o i:Nat),LY w.heap b T cs→o+i+vs.length≤cs.length→(∀v∈vs,oneC v=true)→
 ∃w',(storeCells ⟨b,o,none⟩ vs i).run P w= .ok () w'∧Fr (· =b) w w'∧w'.heap.size=w.heap.size∧LY w'.heap b T (cs.take (o+i)++(vs++cs.drop (o+i+vs.length))):=by
 intro vs
 induction vs with
 | nil=>intro w cs o i h _ _;exact ⟨w,by simp [storeCells],Ik _ _,rfl,by simpa using h⟩
 | cons v vs ih=>
   intro w cs o i h hl ho;simp only [FP] at hl;have h1:=ho v Js;have h1':v.oneCell'=true:=(by cases v<;>simp_all [Value.oneCell',oneC]);have hc:w.cell? ⟨b,o+i,none⟩=some (cs[o+i]' DB):=h.cell (FB Jo);have hf:=h.free (w:=w) (i:=o+i) Jo;obtain ⟨w',h2,h3,h4,h5⟩:=ih (w.setCell ⟨b,o+i,none⟩ v) (cs.set (o+i) v) o (i+1) h.set DE (fun x hx=>ho x D0);refine ⟨w',?_,(lA w b (o+i) v).trans h3 (fun _ _ h=>h),h4.trans Js,?_⟩
   · simp only [storeCells,F7,PO,run_store P w _ _ .plain h1',hc,hf,FV,if_false,FO];exact h2
   · have e:cs.take (o+i)++(v::vs++cs.drop (o+i+(v::vs).length))=(cs.set (o+i) v).take (o+(i+1))++(vs++(cs.set (o+i) v).drop (o+(i+1)+vs.length)):=by
      have hlt:o+i<cs.length:=DB;rw [Hq,if_pos hlt];have hm:(cs.take (o+i)).length=o+i:=by simp;omega
      have e1:List.take (o+(i+1)) (cs.take (o+i)++v::cs.drop (o+i+1))=cs.take (o+i)++[v]:=by
       rw [Jt,hm,Gd Jo,show o+(i+1) - (o+i)=1 by omega];rfl
      have e2:List.drop (o+(i+1)+vs.length) (cs.take (o+i)++v::cs.drop (o+i+1))=cs.drop (o+i+(v::vs).length):=by
       rw [Jm,hm,FJ Jo,show o+(i+1)+vs.length - (o+i)=vs.length+1 by omega];simp [J1,I9,Hm]
      rw [e1,e2];simp
     rw [e];exact h5

end Go.Lir
namespace Go.Lir
section

def SV (ρ:La):List (Nat×Value)→La
 | []=>ρ
 | (i,v)::l=>upd (SV ρ l) i v
def KR (ρ:La):List (Nat×Value)→Prop
 | []=>True
 | (i,v)::l=>ρ i=v∧KR ρ l

theorem T4 {ρ:La}{i:Nat}{v:Value}(h:ρ i=v):upd ρ i v=ρ:=by
 funext j;unfold upd;cases hb:Nat.beq j i
 · rfl
 · have:=IS hb;subst this;exact h.symm
theorem nH {ρ:La}:∀{l:List (Nat×Value)},KR ρ l→SV ρ l=ρ:=by
 intro l
 induction l with
 | nil=>intro _;rfl
 | cons p l ih=>obtain ⟨i,v⟩:=p;rintro ⟨h1,h2⟩;simp only [SV,ih h2,T4 h1]
theorem ij {ρ:La}(l:List (Nat×Value))(h:KR ρ l):∃ρ',ρ=SV ρ' l:=⟨ρ,(nH h).symm⟩

theorem bQ {n:Int}(h1: -9223372036854775808≤n)(h2:n≤9223372036854775807):IntKind.i64.wrap n=n:=by
 have e:IntKind.i64.wrap n=if n % 18446744073709551616≥9223372036854775808 then n % 18446744073709551616 - 18446744073709551616 else n % 18446744073709551616:=by
  unfold IntKind.wrap;simp [IntKind.bits,IntKind.signed]
 rw [e];split<;>omega

section
variable {P:Program}{l:List GO}{Q:QT}{K:KT}{ρ:La}{w:World}

theorem R8 (h:Q .normal ρ w):Q0 P [] Q ρ w:=h
theorem Mm {l:List GO}{h:Q0 P l Q ρ w}:(LC.ops l).wp P Q ρ w:=h
theorem Qo {a b:LC}(h:a.wp P (Qr (b.wp P Q) Q) ρ w):(LC.seq a b).wp P Q ρ w:=h
theorem bR {h:Q .normal ρ w}:LC.skip.wp P Q ρ w:=h
theorem al {h:Q .ret ρ w}:LC.ret.wp P Q ρ w:=h
theorem bS {h:Q (.exit id) ρ w}:(LC.exit id).wp P Q ρ w:=h
theorem bT {a:LC}{h:a.wp P (Qj id Q) ρ w}:(LC.block id a).wp P Q ρ w:=h
theorem sP {c:Operand}{a b:LC}{t:Bool}(hc:ρ.ev c= .bool t)(h1:t=true→a.wp P Q ρ w)(h2:t=false→b.wp P Q ρ w):(LC.cond c a b).wp P Q ρ w:=by
 refine ⟨t,hc,?_⟩;cases t
 · exact h2 rfl
 · exact h1 rfl
theorem Aa {c:Operand}{a b:LC}{t:Bool}(hc:ρ.ev c= .bool t:=by rfl){h1:t=true→a.wp P Q ρ w}{h2:t=false→b.wp P Q ρ w}:(LC.cond c a b).wp P Q ρ w:=sP hc h1 h2
theorem T5 {c:Operand}{a b:LC}(hc:ρ.ev c= .bool true)(h:a.wp P Q ρ w):(LC.cond c a b).wp P Q ρ w:=⟨true,hc,h⟩
theorem T6 {c:Operand}{a b:LC}(hc:ρ.ev c= .bool false)(h:b.wp P Q ρ w):(LC.cond c a b).wp P Q ρ w:=⟨false,hc,h⟩
theorem Qa {c:Operand}{a b:LC}{p:Prop}[Decidable p](hc:ρ.ev c= .bool (decide p))(h1:p→a.wp P Q ρ w)(h2:¬p→b.wp P Q ρ w):(LC.cond c a b).wp P Q ρ w:=
 sP hc (fun h=>h1 (of_decide_eq_true h)) (fun h=>h2 (of_decide_eq_false h))
theorem Ab {c:Operand}{a b:LC}{p:Prop}[Decidable p](hc:ρ.ev c= .bool (decide p):=by rfl){h1:p→a.wp P Q ρ w}{h2:¬p→b.wp P Q ρ w}:(LC.cond c a b).wp P Q ρ w:=Qa hc h1 h2
theorem ik {a:LC}(I:La→World→Prop)(μ:La→World→Nat)(h0:I ρ w)(h:∀ρ w,I ρ w→a.wp P (Qr (fun ρ' w'=>I ρ' w'∧μ ρ' w'<μ ρ w) Q) ρ w):(LC.loop a).wp P Q ρ w:=
 ⟨I,μ,h0,h⟩

theorem lB {h:R (.returned (.tuple #[])) w}:Lo P [] R .ret ρ w:=h
theorem bU {t:Nat}{v:Value}(hv:ρ t=v)(h:R (.returned v) w):Lo P [.tmp t] R .ret ρ w:=by subst hv;exact h
theorem bV {t u:Nat}{v:Value}(hv:ρ t=v)(hv':ρ u=v')(h:R (.returned (.tuple #[v,v'])) w):Lo P [.tmp t, .tmp u] R .ret ρ w:=by subst hv hv';exact h
theorem Nm {h:R (.returned (.tuple #[])) w}:Lo P [] R .normal ρ w:=h
theorem Mp {a T:Nat}{o:Nat}{v:Value}(ha:ρ a= .pointer (some ⟨b,o,none⟩))(hv:XM P w ⟨b,o,none⟩ T v)(h:R (.returned v) w):Lo P [.cell a T] R .ret ρ w:=⟨_,v,ha,hv,h⟩
theorem T7 {t a T:Nat}{o:Nat}{v:Value}(hu:ρ t=u)(ha:ρ a= .pointer (some ⟨b,o,none⟩))(hv:XM P w ⟨b,o,none⟩ T v)(h:R (.returned (.tuple #[u,v])) w):Lo P [.tmp t, .cell a T] R .ret ρ w:=by
 subst hu;exact ⟨_,v,ha,hv,h⟩
theorem MQ {t a T:Nat}{o:Nat}{v:Value}(ha:ρ a= .pointer (some ⟨b,o,none⟩))(hv:XM P w ⟨b,o,none⟩ T v)(hu:ρ t=u)(h:R (.returned (.tuple #[v,u])) w):Lo P [.cell a T, .tmp t] R .ret ρ w:=by
 subst hu;exact ⟨_,v,ha,hv,h⟩
theorem Q2 {o T:Nat}(ha:P7 P T=true)(hn:OB P T=some n)(hb:LY w.heap b T' cs)(hv:(cs.drop o).take n=vs)(hl:vs.length=n):XM P w ⟨b,o,none⟩ T (.agg ⟨vs⟩):=
 .inr ⟨ha,n,vs,hn,hb.cells hv hl,rfl⟩

theorem bW {K:KT}(h:K ρ w):Qr K Q .normal ρ w:=h
theorem lC {h:Q .normal ρ w}:Qj id Q .normal ρ w:=h
theorem XP {h:Q .normal ρ w}:Qj id Q (.exit id) ρ w:=by simp only [Qj,if_true];exact h
theorem XQ {K:KT}{h:Q (.exit id) ρ w}:Qr K Q (.exit id) ρ w:=h
theorem T8 {K:KT}{h:Q .ret ρ w}:Qr K Q .ret ρ w:=h
theorem bX {h:Q .ret ρ w}:Qj id Q .ret ρ w:=h
theorem XR {id':Nat}(hne:Nat.beq id' id=false)(h:Q (.exit id') ρ w):Qj id Q (.exit id') ρ w:=by
 have:id'≠id:=(by rintro rfl;simp at hne);simp only [Qj,if_neg this];exact h

theorem nI {b:Bool}{o:LO}(hg:ρ s= .bool b)(h:Q0 P (⟨none,o⟩::l) Q ρ w):Q0 P (⟨some (s,b),o⟩::l) Q ρ w:=by
 simp only [Q0,hg,Xl,beq_self_eq_true,if_true];exact h
theorem nJ {b:Bool}{o:LO}{v:Value}(hg:ρ s=v)(hw:Xl v b=false)(h:Q0 P l Q (Lq ρ o.dst undef) w):Q0 P (⟨some (s,b),o⟩::l) Q ρ w:=by
 simp only [Q0,hg,hw];exact h

theorem il {x:Operand}{v:Value}(hx:ρ.ev x=v)(h:Q0 P l Q (upd ρ d v) w):Q0 P (⟨none, .mov d x⟩::l) Q ρ w:=by
 subst hx;exact h
theorem Pr {c x:Operand}{v:Value}(hc:ρ.ev c= .bool true)(hx:ρ.ev x=v)(h:Q0 P l Q (upd ρ d v) w):Q0 P (⟨none, .pick d c x y⟩::l) Q ρ w:=by
 subst hx;exact ⟨true,hc,h⟩
theorem Ra {c x:Operand}{v:Value}(hc:ρ.ev c= .bool false)(hx:ρ.ev y=v)(h:Q0 P l Q (upd ρ d v) w):Q0 P (⟨none, .pick d c x y⟩::l) Q ρ w:=by
 subst hx;exact ⟨false,hc,h⟩
theorem im {x:Operand}{b:Bool}(hx:ρ.ev x= .bool b)(h:Q0 P l Q (upd ρ d (.bool (!b))) w):Q0 P (⟨none, .un d .not x⟩::l) Q ρ w:=
 ⟨_,fun w0=>by rw [hx];rfl,h⟩
theorem iq {x:Operand}{n:Int}(hx:ρ.ev x= .int k n)(h:Q0 P l Q (upd ρ d (.int k (k.wrap (0 - n)))) w):Q0 P (⟨none, .un d .neg x⟩::l) Q ρ w:=
 ⟨_,fun w0=>by rw [hx];rfl,h⟩
theorem bY {x:Operand}{a:Addr}(hx:ρ.ev x= .pointer (some a))(h:Q0 P l Q (upd ρ d (.pointer (some a))) w):Q0 P (⟨none, .nilc d x⟩::l) Q ρ w:=⟨a,hx,h⟩
theorem aq {x:Operand}{o:Nat}(hx:ρ.ev x= .pointer (some ⟨b,o,none⟩))(h:Q0 P l Q (upd ρ d (.pointer (some ⟨b,o+off,none⟩))) w):Q0 P (⟨none, .fld d x off⟩::l) Q ρ w:=
 ⟨_,hx,by rw [PO];exact h⟩
theorem lD {x:Operand}{o:Nat}{v:Value}(hx:ρ.ev x= .pointer (some ⟨b,o,none⟩))(hv:w.cell? ⟨b,o,none⟩=some v)(h:Q0 P l Q (upd ρ d v) w):Q0 P (⟨none, .load1 d x⟩::l) Q ρ w:=⟨_,v,hx,hv,h⟩
theorem Ph {x:Operand}{o:Nat}{v:Value}(hx:ρ.ev x= .pointer (some ⟨b,o,none⟩))(hb:LY w.heap b T cs)(hv:cs[o]?=some v)(h:Q0 P l Q (upd ρ d v) w):
 Q0 P (⟨none, .load1 d x⟩::l) Q ρ w:=⟨_,v,hx,hb.cell hv,h⟩
theorem XS {x:Operand}{o:Nat}(hx:ρ.ev x= .pointer (some ⟨b,o,none⟩))(hb:LY w.heap b T cs)(hv:(cs.drop o).take n=vs)(hl:vs.length=n)
 (h:Q0 P l Q (upd ρ d (.agg ⟨vs⟩)) w):Q0 P (⟨none, .loadn d n x⟩::l) Q ρ w:=⟨_,vs,hx,hb.cells hv hl,h⟩
theorem sQ {x:Operand}{a:Addr}(hx:ρ.ev x= .pointer (some a))(hc:aj w a n vs)
 (h:Q0 P l Q (upd ρ d (.agg ⟨vs⟩)) w):Q0 P (⟨none, .loadn d n x⟩::l) Q ρ w:=⟨_,vs,hx,hc,h⟩
theorem sR {x:Operand}{o:Nat}{v:Value}(hx:ρ.ev x= .pointer (some ⟨b,o,none⟩))(hy:ρ.ev y=v)(hb:LY w.heap b T cs)(hi:o<cs.length)(ho:oneC v=true)
 (h:∀w',Fr (· =b) w w'→w'.heap.size=w.heap.size→LY w'.heap b T (cs.set o v)→Q0 P l Q ρ w'):Q0 P (⟨none, .store1 x y⟩::l) Q ρ w:=by
 subst hy;exact ⟨_,_,hx,hb.cell (FB hi),hb.free hi,ho,h _ (lA w b o _) Js hb.set⟩
theorem sS {x:Operand}{o:Nat}(hx:ρ.ev x= .pointer (some ⟨b,o,none⟩))(hy:ρ.ev y= .agg ⟨vs⟩)(hn:vs.length=n)(hb:LY w.heap b T cs)(hi:o+n≤cs.length)
 (ho:∀v∈vs,oneC v=true)(h:∀w',Fr (· =b) w w'→w'.heap.size=w.heap.size→LY w'.heap b T (cs.take o++(vs++cs.drop (o+n)))→Q0 P l Q ρ w'):Q0 P (⟨none, .storen n x y⟩::l) Q ρ w:=by
 subst hn;obtain ⟨w',h1,h2,h3,h4⟩:=nG P b T vs w cs o 0 hb Jo ho;exact ⟨_,_,w',hx,hy,rfl,h1,h _ h2 h3 h4⟩
theorem XT {x i:Operand}{o len:Nat}{n:Int}(hx:ρ.ev x= .slice (some ⟨b,o,none⟩) len cap)(hi:ρ.ev i= .int k n)(h0:0≤n)(h1:n<len)
 (h:Q0 P l Q (upd ρ d (.pointer (some ⟨b,o+n.toNat*es,none⟩))) w):Q0 P (⟨none, .idx d es x i⟩::l) Q ρ w:=
 ⟨_,len,cap,k,n,hx,hi,h0,h1,by rw [PO];exact h⟩
theorem fW {m:Nat}{x i:Operand}{o:Nat}{n:Int}(hx:ρ.ev x= .pointer (some ⟨b,o,none⟩))(hi:ρ.ev i= .int k n)(h0:0≤n)(h1:n<(m:Int))
 (h:Q0 P l Q (upd ρ d (.pointer (some ⟨b,o+n.toNat*es,none⟩))) w):Q0 P (⟨none, .idxa d m es x i⟩::l) Q ρ w:=
 ⟨_,k,n,hx,hi,h0,h1,by rw [PO];exact h⟩
theorem ar {x:Operand}{a:Option Addr}{c:Nat}(hx:ρ.ev x= .slice a n c)(h:Q0 P l Q (upd ρ d (.int .i64 n)) w):Q0 P (⟨none, .len d x⟩::l) Q ρ w:=⟨a,n,c,hx,h⟩
theorem ir {x:Operand}{i:Nat}{v:Value}(hx:ρ.ev x= .tuple ⟨vs⟩)(hv:vs[i]?=some v)(h:Q0 P l Q (upd ρ d v) w):Q0 P (⟨none, .ext d x i⟩::l) Q ρ w:=⟨_,v,hx,by simpa using hv,h⟩
theorem nK {x:Operand}{o:Nat}{v:Value}(hx:ρ.ev x= .agg ⟨vs⟩)(hv:vs[o]?=some v)(h:Q0 P l Q (upd ρ d v) w):Q0 P (⟨none, .fldv d x o⟩::l) Q ρ w:=⟨_,v,hx,by simpa using hv,h⟩
theorem bZ (hf:Od z (ps.map fun p=>(p.1,p.2.1,ρ.ev p.2.2))=some cs)(h:Q0 P l Q (upd ρ d (.agg ⟨cs⟩)) w):
 Q0 P (⟨none, .build d z ps⟩::l) Q ρ w:=⟨cs,hf,h⟩
theorem nL (h:∀b w',b=w.heap.size→Fr NF w w'→w'.heap.size=w.heap.size+1→LY w'.heap b T z→Q0 P l Q (upd ρ d (.pointer (some ⟨b,0,none⟩))) w'):
 Q0 P (⟨none, .alloc d T z⟩::l) Q ρ w:=h _ _ rfl (bP w _) Js (fV w z T)
theorem iu {x:Operand}(hx:(ρ.ev x).cells=⟨cs⟩)(h:∀b w',b=w.heap.size→Fr NF w w'→w'.heap.size=w.heap.size+1→LY w'.heap b T cs→Q0 P l Q (upd ρ d (.pointer (some ⟨b,0,none⟩))) w'):
 Q0 P (⟨none, .box d T x⟩::l) Q ρ w:=by
 refine (?_:LO.wp P ρ w (Q0 P l Q) Q (.box d T x));simp only [LO.wp,hx];exact h _ _ rfl (bP w _) Js (fV w cs T)
theorem nM (hf:Od z (ps.map fun p=>(p.1,p.2.1,ρ.ev p.2.2))=some cs)
 (h:∀b w',b=w.heap.size→Fr NF w w'→w'.heap.size=w.heap.size+1→LY w'.heap b T cs→Q0 P l Q (upd ρ d (.slice (some ⟨b,0,none⟩) n n)) w'):
 Q0 P (⟨none, .buildS d T n z ps⟩::l) Q ρ w:=⟨cs,hf,h _ _ rfl (bP w _) Js (fV w cs T)⟩
theorem lE {f:Nat}{caps:List Operand}{h:Q0 P l Q (upd ρ d (.func (.func f) #[] ⟨caps.map ρ.ev⟩)) w}:Q0 P (⟨none, .mkfn d f caps⟩::l) Q ρ w:=h
theorem iw {x:Operand}{a b:Int}(hx:ρ.ev x= .int k a)(hy:ρ.ev y= .int k' b)(h:Q0 P l Q (upd ρ d (.int k (min a b))) w):Q0 P (⟨none, .mnx d false x y⟩::l) Q ρ w:=
 ⟨k,k',a,b,hx,hy,by
   have:(if b<a then b else a)=min a b:=DB;simp only [FV,if_false,this];exact h⟩
theorem ix {x:Operand}{a b:Int}(hx:ρ.ev x= .int k a)(hy:ρ.ev y= .int k' b)(h:Q0 P l Q (upd ρ d (.int k (max a b))) w):Q0 P (⟨none, .mnx d true x y⟩::l) Q ρ w:=
 ⟨k,k',a,b,hx,hy,by
   have:(if a<b then b else a)=max a b:=DB;simp only [if_true,this];exact h⟩
theorem iy {x:Operand}{v:Value}(hx:ρ.ev x=v)(h:Q0 P l Q (upd ρ d (.iface T v)) w):Q0 P (⟨none, .mki d T x⟩::l) Q ρ w:=by subst hx;exact h
theorem iz {x:Operand}{a:Option Addr}{len:Nat}(hx:ρ.ev x= .slice a len cap)(hm:Nl ρ cap mx m)(hh:Nl ρ len hi h')(hl:Nl ρ 0 lo l')(h1:m≤cap)(h2:h'≤m)(h3:l'≤h')
 (h:Q0 P l Q (upd ρ d (.slice (if m=l' then a else a.map (·.add (l'*es))) (h' - l') (m - l'))) w):Q0 P (⟨none, .sub d es x lo hi mx⟩::l) Q ρ w:=⟨a,len,cap,l',h',m,hx,hm,hh,hl,h1,h2,h3,h⟩
def KK (P:Program)(f:FuncId)(args:List Value)(w:World)(S:Value→World→Prop):Prop:=Calls P f ⟨args⟩ w fun e w'=>∃v,e= .returned v∧S v w'
theorem Tw (hxs:xs.map ρ.ev=args)(hc:KK P f args w S)
 (h:∀v w',S v w'→Q0 P l Q (upd ρ d v) w'):Q0 P (⟨none, .call (some d) f xs⟩::l) Q ρ w:=by
 subst hxs;exact hc.mono fun e w' ⟨v,he,hs⟩=>by subst he;exact h v w' hs
theorem KK.mono {S':Value→World→Prop}(h:KK P f args w S)(hs:∀v w',S v w'→S' v w'):KK P f args w S':=
 Calls.mono h fun _ _ ⟨v,he,hv⟩=>⟨v,he,hs _ _ hv⟩
theorem sT {d:Option Nat}{x:Operand}{cap:List Value}(hx:ρ.ev x= .func (.func f) #[] ⟨cap⟩)(hf:P.funcs[f]?=some fn)
 (hb : fn.body.isSome = true)(hn : (fn.name == "runtime.NumGoroutine") = false)(hxs : xs.map ρ.ev ++ cap = args)(hc : Calls P f ⟨args⟩ w R)
 (h:∀e w',R e w'→Q6 (Q0 P l Q) Q d ρ w e w'):Q0 P (⟨none, .callv d x xs⟩::l) Q ρ w:=by
 subst hxs;refine ⟨f,#[],⟨cap⟩,fn,hx,hf,hb,hn,?_⟩;have:(#[]++Array.mk (xs.map ρ.ev)++Array.mk cap:Array Value)=⟨xs.map ρ.ev++cap⟩:=DN;rw [this];exact hc.mono h
theorem iA {x:Operand}{a b:Int}(hx:ρ.ev x= .int .i64 a)(hy:ρ.ev y= .int .i64 b)(h1: -9223372036854775808≤a+b)(h2:a+b≤9223372036854775807)
 (h:Q0 P l Q (upd ρ d (.int .i64 (a+b))) w):Q0 P (⟨none, .bin d .add T x y⟩::l) Q ρ w:=
 ⟨.int .i64 (a+b),fun w0=>by rw [hx,hy];simp [eqGuard,binOp,Op.intArith,bQ h1 h2],h⟩
theorem iB {x:Operand}{a b:Int}(hx:ρ.ev x= .int k a)(hy:ρ.ev y= .int k b)
 (h:Q0 P l Q (upd ρ d (.int k (k.wrap (a+b)))) w):Q0 P (⟨none, .bin d .add T x y⟩::l) Q ρ w:=
 ⟨_,fun w0=>by rw [hx,hy];simp [eqGuard,binOp,Op.intArith],h⟩

theorem ca {x:Operand}{a b:Int}(hx:ρ.ev x= .int .i64 a)(hy:ρ.ev y= .int .i64 b)(h1: -9223372036854775808≤a - b)(h2:a - b≤9223372036854775807)
 (h:Q0 P l Q (upd ρ d (.int .i64 (a - b))) w):Q0 P (⟨none, .bin d .sub T x y⟩::l) Q ρ w:=
 ⟨.int .i64 (a - b),fun w0=>by rw [hx,hy];simp [eqGuard,binOp,Op.intArith,bQ h1 h2],h⟩
theorem sU {x:Operand}{a b:Int}(hx:ρ.ev x= .int k a)(hy:ρ.ev y= .int k b)
 (h:Q0 P l Q (upd ρ d (.int k (k.wrap (a - b)))) w):Q0 P (⟨none, .bin d .sub T x y⟩::l) Q ρ w:=
 ⟨_,fun w0=>by rw [hx,hy];simp [eqGuard,binOp,Op.intArith],h⟩

theorem iC {x:Operand}{a b:Int}(hx:ρ.ev x= .int .i64 a)(hy:ρ.ev y= .int .i64 b)(h1: -9223372036854775808≤a*b)(h2:a*b≤9223372036854775807)
 (h:Q0 P l Q (upd ρ d (.int .i64 (a*b))) w):Q0 P (⟨none, .bin d .mul T x y⟩::l) Q ρ w:=
 ⟨.int .i64 (a*b),fun w0=>by rw [hx,hy];simp [eqGuard,binOp,Op.intArith,bQ h1 h2],h⟩
theorem cd {x:Operand}{a b:Int}(hx:ρ.ev x= .int k a)(hy:ρ.ev y= .int k b)
 (h:Q0 P l Q (upd ρ d (.int k (k.wrap (a*b)))) w):Q0 P (⟨none, .bin d .mul T x y⟩::l) Q ρ w:=
 ⟨_,fun w0=>by rw [hx,hy];simp [eqGuard,binOp,Op.intArith],h⟩

theorem au {x:Operand}{a b:Int}(hx:ρ.ev x= .int k a)(hy:ρ.ev y= .int k b)(hb:b≠0)
 (h:Q0 P l Q (upd ρ d (.int k (k.wrap (a.tdiv b)))) w):Q0 P (⟨none, .bin d .quo T x y⟩::l) Q ρ w:=
 ⟨_,fun w0=>by rw [hx,hy];simp [eqGuard,binOp,Op.intDiv,hb],h⟩
theorem iD {x:Operand}{a b:Int}(hx:ρ.ev x= .int k a)(hy:ρ.ev y= .int k b)(hb:b≠0)
 (h:Q0 P l Q (upd ρ d (.int k (a.tmod b))) w):Q0 P (⟨none, .bin d .rem T x y⟩::l) Q ρ w:=
 ⟨_,fun w0=>by rw [hx,hy];simp [eqGuard,binOp,Op.intDiv,hb],h⟩
def Nr (op:BinOp)(k:IntKind)(a b:Int):Int:=
 let x:=BitVec.ofInt k.bits a
 let y:=BitVec.ofInt k.bits b
 k.wrap (match op with| .and=>x &&& y| .or=>x|||y| .xor=>x ^^^ y|_=>x &&& ~~~y).toNat

theorem T9 {x:Operand}{a b:Int}(hx:ρ.ev x= .int k a)(hy:ρ.ev y= .int k b)
 (h:Q0 P l Q (upd ρ d (.int k (Nr .and k a b))) w):Q0 P (⟨none, .bin d .and T x y⟩::l) Q ρ w:=
 ⟨_,fun w0=>by rw [hx,hy];simp [eqGuard,binOp,Op.intBits,Nr],h⟩

theorem nN {x:Operand}{a b:Int}(hx:ρ.ev x= .int k a)(hy:ρ.ev y= .int k b)
 (h:Q0 P l Q (upd ρ d (.int k (Nr .or k a b))) w):Q0 P (⟨none, .bin d .or T x y⟩::l) Q ρ w:=
 ⟨_,fun w0=>by rw [hx,hy];simp [eqGuard,binOp,Op.intBits,Nr],h⟩

theorem iE {x:Operand}{a b:Int}(hx:ρ.ev x= .int k a)(hy:ρ.ev y= .int k b)
 (h:Q0 P l Q (upd ρ d (.int k (Nr .xor k a b))) w):Q0 P (⟨none, .bin d .xor T x y⟩::l) Q ρ w:=
 ⟨_,fun w0=>by rw [hx,hy];simp [eqGuard,binOp,Op.intBits,Nr],h⟩

theorem iF {x:Operand}{a b:Int}(hx:ρ.ev x= .int k a)(hy:ρ.ev y= .int k b)
 (h:Q0 P l Q (upd ρ d (.bool (decide (a=b)))) w):Q0 P (⟨none, .bin d .eql T x y⟩::l) Q ρ w:=
 ⟨_,fun w0=>by
   rw [hx,hy]
   first
    | (simp [eqGuard,binOp,Op.intCmp];done)
    | (by_cases hp:a=b<;>simp [eqGuard,binOp,Op.intCmp,hp]),h⟩
theorem sV {x:Operand}{a b:Int}(hx:ρ.ev x= .int k a)(hy:ρ.ev y= .int k b)(hp:a=b)
 (h:Q0 P l Q (upd ρ d (.bool true)) w):Q0 P (⟨none, .bin d .eql T x y⟩::l) Q ρ w:=
 iF hx hy D5
theorem sW {x:Operand}{a b:Int}(hx:ρ.ev x= .int k a)(hy:ρ.ev y= .int k b)(hp:¬(a=b))
 (h:Q0 P l Q (upd ρ d (.bool false)) w):Q0 P (⟨none, .bin d .eql T x y⟩::l) Q ρ w:=
 iF hx hy D4
theorem Q3 {x:Operand}{a b:Int}(hx:ρ.ev x= .int k a)(hy:ρ.ev y= .int k b)
 (h1:a=b→Q0 P l Q (upd ρ d (.bool true)) w)(h2:¬(a=b)→Q0 P l Q (upd ρ d (.bool false)) w):Q0 P (⟨none, .bin d .eql T x y⟩::l) Q ρ w:=
 iF hx hy (by
  by_cases hp:a=b
  · rw [decide_eq_true hp];exact h1 hp
  · rw [decide_eq_false hp];exact h2 hp)

theorem Ac {x:Operand}{a b:Int}(hx:ρ.ev x= .int k a:=by rfl)(hy:ρ.ev y= .int k b:=by rfl)
 {h1:a=b→Q0 P l Q (upd ρ d (.bool true)) w}{h2:¬(a=b)→Q0 P l Q (upd ρ d (.bool false)) w}:Q0 P (⟨none, .bin d .eql T x y⟩::l) Q ρ w:=Q3 hx hy h1 h2
theorem XU {x:Operand}{a b:Int}(hx:ρ.ev x= .int k a)(hy:ρ.ev y= .int k b)
 (h:Q0 P l Q (upd ρ d (.bool (decide (a≠b)))) w):Q0 P (⟨none, .bin d .neq T x y⟩::l) Q ρ w:=
 ⟨_,fun w0=>by
   rw [hx,hy]
   first
    | (simp [eqGuard,binOp,Op.intCmp];done)
    | (by_cases hp:a=b<;>simp [eqGuard,binOp,Op.intCmp,hp]),h⟩
theorem XV {x:Operand}{a b:Int}(hx:ρ.ev x= .int k a)(hy:ρ.ev y= .int k b)(hp:a≠b)
 (h:Q0 P l Q (upd ρ d (.bool true)) w):Q0 P (⟨none, .bin d .neq T x y⟩::l) Q ρ w:=
 XU hx hy D5
theorem XW {x:Operand}{a b:Int}(hx:ρ.ev x= .int k a)(hy:ρ.ev y= .int k b)(hp:¬(a≠b))
 (h:Q0 P l Q (upd ρ d (.bool false)) w):Q0 P (⟨none, .bin d .neq T x y⟩::l) Q ρ w:=
 XU hx hy D4
theorem Q9 {x:Operand}{a b:Int}(hx:ρ.ev x= .int k a)(hy:ρ.ev y= .int k b)
 (h1:a≠b→Q0 P l Q (upd ρ d (.bool true)) w)(h2:¬(a≠b)→Q0 P l Q (upd ρ d (.bool false)) w):Q0 P (⟨none, .bin d .neq T x y⟩::l) Q ρ w:=
 XU hx hy (by
  by_cases hp:a≠b
  · rw [decide_eq_true hp];exact h1 hp
  · rw [decide_eq_false hp];exact h2 hp)

theorem Ad {x:Operand}{a b:Int}(hx:ρ.ev x= .int k a:=by rfl)(hy:ρ.ev y= .int k b:=by rfl)
 {h1:a≠b→Q0 P l Q (upd ρ d (.bool true)) w}{h2:¬(a≠b)→Q0 P l Q (upd ρ d (.bool false)) w}:Q0 P (⟨none, .bin d .neq T x y⟩::l) Q ρ w:=Q9 hx hy h1 h2
theorem iG {x:Operand}{a b:Int}(hx:ρ.ev x= .int k a)(hy:ρ.ev y= .int k b)
 (h:Q0 P l Q (upd ρ d (.bool (decide (a<b)))) w):Q0 P (⟨none, .bin d .lss T x y⟩::l) Q ρ w:=
 ⟨_,fun w0=>by
   rw [hx,hy]
   first
    | (simp [eqGuard,binOp,Op.intCmp];done)
    | (by_cases hp:a=b<;>simp [eqGuard,binOp,Op.intCmp,hp]),h⟩
theorem XX {x:Operand}{a b:Int}(hx:ρ.ev x= .int k a)(hy:ρ.ev y= .int k b)(hp:a<b)
 (h:Q0 P l Q (upd ρ d (.bool true)) w):Q0 P (⟨none, .bin d .lss T x y⟩::l) Q ρ w:=
 iG hx hy D5
theorem XY {x:Operand}{a b:Int}(hx:ρ.ev x= .int k a)(hy:ρ.ev y= .int k b)(hp:¬(a<b))
 (h:Q0 P l Q (upd ρ d (.bool false)) w):Q0 P (⟨none, .bin d .lss T x y⟩::l) Q ρ w:=
 iG hx hy D4
theorem Qq {x:Operand}{a b:Int}(hx:ρ.ev x= .int k a)(hy:ρ.ev y= .int k b)
 (h1:a<b→Q0 P l Q (upd ρ d (.bool true)) w)(h2:¬(a<b)→Q0 P l Q (upd ρ d (.bool false)) w):Q0 P (⟨none, .bin d .lss T x y⟩::l) Q ρ w:=
 iG hx hy (by
  by_cases hp:a<b
  · rw [decide_eq_true hp];exact h1 hp
  · rw [decide_eq_false hp];exact h2 hp)

theorem Ae {x:Operand}{a b:Int}(hx:ρ.ev x= .int k a:=by rfl)(hy:ρ.ev y= .int k b:=by rfl)
 {h1:a<b→Q0 P l Q (upd ρ d (.bool true)) w}{h2:¬(a<b)→Q0 P l Q (upd ρ d (.bool false)) w}:Q0 P (⟨none, .bin d .lss T x y⟩::l) Q ρ w:=Qq hx hy h1 h2
theorem nO {x:Operand}{a b:Int}(hx:ρ.ev x= .int k a)(hy:ρ.ev y= .int k b)
 (h:Q0 P l Q (upd ρ d (.bool (decide (a≤b)))) w):Q0 P (⟨none, .bin d .leq T x y⟩::l) Q ρ w:=
 ⟨_,fun w0=>by
   rw [hx,hy]
   first
    | (simp [eqGuard,binOp,Op.intCmp];done)
    | (by_cases hp:a=b<;>simp [eqGuard,binOp,Op.intCmp,hp]),h⟩
theorem XZ {x:Operand}{a b:Int}(hx:ρ.ev x= .int k a)(hy:ρ.ev y= .int k b)(hp:a≤b)
 (h:Q0 P l Q (upd ρ d (.bool true)) w):Q0 P (⟨none, .bin d .leq T x y⟩::l) Q ρ w:=
 nO hx hy D5
theorem X0 {x:Operand}{a b:Int}(hx:ρ.ev x= .int k a)(hy:ρ.ev y= .int k b)(hp:¬(a≤b))
 (h:Q0 P l Q (upd ρ d (.bool false)) w):Q0 P (⟨none, .bin d .leq T x y⟩::l) Q ρ w:=
 nO hx hy D4
theorem sX {x:Operand}{a b:Int}(hx:ρ.ev x= .int k a)(hy:ρ.ev y= .int k b)
 (h1:a≤b→Q0 P l Q (upd ρ d (.bool true)) w)(h2:¬(a≤b)→Q0 P l Q (upd ρ d (.bool false)) w):Q0 P (⟨none, .bin d .leq T x y⟩::l) Q ρ w:=
 nO hx hy (by
  by_cases hp:a≤b
  · rw [decide_eq_true hp];exact h1 hp
  · rw [decide_eq_false hp];exact h2 hp)

theorem iH {x:Operand}{a b:Int}(hx:ρ.ev x= .int k a)(hy:ρ.ev y= .int k b)
 (h:Q0 P l Q (upd ρ d (.bool (decide (b<a)))) w):Q0 P (⟨none, .bin d .gtr T x y⟩::l) Q ρ w:=
 ⟨_,fun w0=>by
   rw [hx,hy]
   first
    | (simp [eqGuard,binOp,Op.intCmp];done)
    | (by_cases hp:a=b<;>simp [eqGuard,binOp,Op.intCmp,hp]),h⟩
theorem X1 {x:Operand}{a b:Int}(hx:ρ.ev x= .int k a)(hy:ρ.ev y= .int k b)(hp:b<a)
 (h:Q0 P l Q (upd ρ d (.bool true)) w):Q0 P (⟨none, .bin d .gtr T x y⟩::l) Q ρ w:=
 iH hx hy D5
theorem X2 {x:Operand}{a b:Int}(hx:ρ.ev x= .int k a)(hy:ρ.ev y= .int k b)(hp:¬(b<a))
 (h:Q0 P l Q (upd ρ d (.bool false)) w):Q0 P (⟨none, .bin d .gtr T x y⟩::l) Q ρ w:=
 iH hx hy D4
theorem Qg {x:Operand}{a b:Int}(hx:ρ.ev x= .int k a)(hy:ρ.ev y= .int k b)
 (h1:b<a→Q0 P l Q (upd ρ d (.bool true)) w)(h2:¬(b<a)→Q0 P l Q (upd ρ d (.bool false)) w):Q0 P (⟨none, .bin d .gtr T x y⟩::l) Q ρ w:=
 iH hx hy (by
  by_cases hp:b<a
  · rw [decide_eq_true hp];exact h1 hp
  · rw [decide_eq_false hp];exact h2 hp)

theorem Af {x:Operand}{a b:Int}(hx:ρ.ev x= .int k a:=by rfl)(hy:ρ.ev y= .int k b:=by rfl)
 {h1:b<a→Q0 P l Q (upd ρ d (.bool true)) w}{h2:¬(b<a)→Q0 P l Q (upd ρ d (.bool false)) w}:Q0 P (⟨none, .bin d .gtr T x y⟩::l) Q ρ w:=Qg hx hy h1 h2
theorem nP {x:Operand}{a b:Int}(hx:ρ.ev x= .int k a)(hy:ρ.ev y= .int k b)
 (h:Q0 P l Q (upd ρ d (.bool (decide (b≤a)))) w):Q0 P (⟨none, .bin d .geq T x y⟩::l) Q ρ w:=
 ⟨_,fun w0=>by
   rw [hx,hy]
   first
    | (simp [eqGuard,binOp,Op.intCmp];done)
    | (by_cases hp:a=b<;>simp [eqGuard,binOp,Op.intCmp,hp]),h⟩
theorem X3 {x:Operand}{a b:Int}(hx:ρ.ev x= .int k a)(hy:ρ.ev y= .int k b)(hp:b≤a)
 (h:Q0 P l Q (upd ρ d (.bool true)) w):Q0 P (⟨none, .bin d .geq T x y⟩::l) Q ρ w:=
 nP hx hy D5
theorem X4 {x:Operand}{a b:Int}(hx:ρ.ev x= .int k a)(hy:ρ.ev y= .int k b)(hp:¬(b≤a))
 (h:Q0 P l Q (upd ρ d (.bool false)) w):Q0 P (⟨none, .bin d .geq T x y⟩::l) Q ρ w:=
 nP hx hy D4
theorem yN {x:Operand}{a b:Int}(hx:ρ.ev x= .int k a)(hy:ρ.ev y= .int k b)
 (h1:b≤a→Q0 P l Q (upd ρ d (.bool true)) w)(h2:¬(b≤a)→Q0 P l Q (upd ρ d (.bool false)) w):Q0 P (⟨none, .bin d .geq T x y⟩::l) Q ρ w:=
 nP hx hy (by
  by_cases hp:b≤a
  · rw [decide_eq_true hp];exact h1 hp
  · rw [decide_eq_false hp];exact h2 hp)

theorem Ag {x:Operand}{a b:Int}(hx:ρ.ev x= .int k a:=by rfl)(hy:ρ.ev y= .int k b:=by rfl)
 {h1:b≤a→Q0 P l Q (upd ρ d (.bool true)) w}{h2:¬(b≤a)→Q0 P l Q (upd ρ d (.bool false)) w}:Q0 P (⟨none, .bin d .geq T x y⟩::l) Q ρ w:=yN hx hy h1 h2
theorem yO (n:Nat){a b:Bool}(ht:P.underlying T=some .bool):(Op.equalIn (n+1) T (.bool a) (.bool b)).run P w0= .ok (a==b) w0:=by
 simp only [Op.equalIn,F7,Q8 P T _ w0 ht,FO,Gk]
theorem yP {a b:Bool}(ht:P.underlying T=some .bool):(Op.equal T (.bool a) (.bool b)).run P w0= .ok (a==b) w0:=
 yO 9999 ht
theorem ax {x:Operand}{a b:Bool}(ht:P.underlying T=some .bool)(hx:ρ.ev x= .bool a)(hy:ρ.ev y= .bool b)
 (h:Q0 P l Q (upd ρ d (.bool (a !=b))) w):Q0 P (⟨none, .bin d .neq T x y⟩::l) Q ρ w:=
 ⟨_,fun w0=>by rw [hx,hy];simp [eqGuard,binOp,yP ht];cases a<;>cases b<;>rfl,h⟩

theorem nQ {gs:List GO}{es:List (List Nat)}(C:List CI)(hok:bO gs es C=true)
 (hpl:(C.all fun c=>match c.2 with|some (some _)=>false|_=>true)=true)(h:Q0 P (C.map fun c=>LI gs c.1) Q ρ w.drew):(LC.draw gs es).wp P Q ρ w:=
 yM C hok hpl h
theorem nR {gs:List GO}{es:List (List Nat)}(C:List CI)(hok:bO gs es C=true)(h:Pg P gs C Q ρ w.drew):(LC.draw gs es).wp P Q ρ w:=sO C hok h
theorem cg {gs:List GO}{h:Q .normal ρ w}:Pg P gs [] Q ρ w:=h
theorem LP {gs:List GO}{i:Nat}{rest:List CI}{h:Q0 P [LI gs i] (Qr (Pg P gs rest Q) Q) ρ w}:Pg P gs ((i,none)::rest) Q ρ w:=h
theorem L5 {gs:List GO}{i:Nat}{rest:List CI}{h:Q0 P [LI gs i] (Qr (Pg P gs rest Q) Q) ρ w}:Pg P gs ((i,some none)::rest) Q ρ w:=h
theorem RI {gs:List GO}{i:Nat}{fl:List Nat}{rest:List CI}{h:Q0 P [LI gs i] (Qr (fun ρ' w'=>(∀q∈fl,NS P ρ w' (LI gs q) (ρ ((LI gs q).dst.getD 0)))∧Pg P gs rest Q ρ' w') (nE Q)) ρ w}:
 Pg P gs ((i,some (some fl))::rest) Q ρ w:=h
end
end
section

def Sl (H:Ld)(T:TypeId)(es:Nat)(v:Value)(F:Nat→Prop)(css:List (List Value)):Prop:=
 (∀c∈css,c.length=es)∧
 ((v= .slice none 0 0∧css=[]∧∀b,¬F b)∨
  ∃ b off cap arr,v= .slice (some ⟨b,off,none⟩) css.length cap∧css.length≤cap∧LY H b T arr∧off+cap*es≤arr.length∧
    (∀i,i<css.length*es→arr[off+i]?=css.flatten[i]?)∧∀x,F x↔x=b)

theorem iI:∀{css:List (List Value)},(∀c∈css,c.length=es)→∀{m j:Nat}{c:List Value},css[m]?=some c→j<es→css.flatten[m*es+j]?=c[j]?:=by
 intro css
 induction css with
 | nil=>intro _ m j c h;simp at h
 | cons a css ih=>
   intro hl m j c h hj;have ha:=hl a Js
   cases m with
   | zero=>
     simp at h;subst h;simp only [HH,II,Hb];rw [FL Jo]
   | succ m=>
     simp at h;have:=ih (fun c hc=>hl c Ed) h hj;simp only [HH];rw [FI (by rw [ha,HU];omega),ha,←this];congr 1;rw [HU];omega

theorem R9:∀{css:List (List Value)},(∀c∈css,c.length=es)→css.flatten.length=css.length*es:=by
 intro css
 induction css with
 | nil=>intro _;simp
 | cons a css ih=>
   intro hl;simp only [HH,FH,FP,ih (fun c hc=>hl c Ed),hl a Js,HU];omega

theorem Sl.nil (H:Ld)(T:TypeId)(es:Nat):Sl H T es (.slice none 0 0) NF []:=⟨by simp, .inl ⟨rfl,rfl,fun _ h=>h⟩⟩

theorem Sl.shape {H:Ld}{v:Value}{F:Nat→Prop}(h:Sl H T es v F css):∃a c,v= .slice a css.length c:=by
 obtain ⟨_,⟨h,h2,_⟩|⟨b,off,cap,arr,h,_⟩⟩:=h
 · subst h2;exact ⟨_,_,h⟩
 · exact ⟨_,_,h⟩

theorem Sl.lt {H:Ld}{v:Value}{F:Nat→Prop}(h:Sl H T es v F css):∀b,F b→b<H.size:=by
 obtain ⟨_,⟨_,_,h⟩|⟨b,off,cap,arr,_,_,hb,_,_,hf⟩⟩:=h
 · intro b hb;exact absurd hb (h b)
 · intro x hx;rw [(hf x).1 hx];exact hb.lt

theorem Sl.of_same {H H':Ld}{v:Value}{F:Nat→Prop}(h:Sl H T es v F css)(hs:∀b,F b→b<H.size→H'[b]?=H[b]?):Sl H' T es v F css:=by
 obtain ⟨h0,h1|⟨b,off,cap,arr,h1,h2,hb,h3,h4,hf⟩⟩:=h
 · exact ⟨h0, .inl h1⟩
 · exact ⟨h0, .inr ⟨b,off,cap,arr,h1,h2,hb.of_same (hs b ((hf b).2 rfl) hb.lt),h3,h4,hf⟩⟩

theorem Sl.fr {F:Nat→Prop}{v:Value}(h:Sl w.heap T es v F css)(hf:Fr G w w')(hn:∀b,F b→¬G b):Sl w'.heap T es v F css:=
 h.of_same fun b hb hlt=>hf.same b hlt (hn b hb)

theorem Sl.fr0 {F:Nat→Prop}{v:Value}(h:Sl w.heap T es v F css)(hf:Fr NF w w'):Sl w'.heap T es v F css:=
 h.fr hf fun _ _ h=>h
theorem LY.fr0 (h:LY w.heap b T cs)(hf:Fr NF w w'):LY w'.heap b T cs:=h.fr hf fun h=>h

structure El (H:Ld) (T:TypeId) (es:Nat) (v:Value) (F:Nat→Prop) (css:List (List Value)) (m b o:Nat):Prop where
 sl:Sl H T es v F css
 lt:m<css.length
 at_:∃off cap,v= .slice (some ⟨b,off,none⟩) css.length cap∧o=off+m*es

theorem El.out {H:Ld}{v:Value}{F:Nat→Prop}{o:Nat}(h:El H T es v F css m b o):
 ∃off cap arr,v= .slice (some ⟨b,off,none⟩) css.length cap∧css.length≤cap∧LY H b T arr∧off+cap*es≤arr.length∧(∀i,i<css.length*es→arr[off+i]?=css.flatten[i]?)∧(∀x,F x↔x=b)∧o=off+m*es:=by
 obtain ⟨⟨_,hs⟩,hm,off,cap,hv,ho⟩:=h;rcases hs with ⟨hv',hc,_⟩|⟨b',off',cap',arr,hv',h1,h2,h3,h4,h5⟩
 · subst hc;simp at hm
 · rw [hv] at hv';simp only [Value.slice.injEq,FU,Addr.mk.injEq,and_true,true_and] at hv';obtain ⟨⟨rfl,rfl⟩,rfl⟩:=hv';exact ⟨off,cap,arr,hv,h1,h2,h3,h4,h5,ho⟩

theorem El.F {H:Ld}{T:TypeId}{es:Nat}{v:Value}{F:Nat→Prop}{css:List (List Value)}{m b o:Nat}(h:El H T es v F css m b o):∀x,F x↔x=b:=by
 obtain ⟨_,_,_,_,_,_,_,_,h,_⟩:=h.out;exact h

theorem iJ (h:m<n):m*es+es≤n*es:=by
 have:(m+1)*es≤n*es:=GA es h;rw [HU] at this;exact this

theorem El.cell {v:Value}{F:Nat→Prop}{o:Nat}(h:El w.heap T es v F css m b o)(hc:css[m]?=some c)(hu:c[j]?=some u):
 w.cell? ⟨b,o+j,none⟩=some u:=by
 have hlen:=h.sl.1;obtain ⟨off,cap,arr,hv,h1,h2,h3,h4,h5,ho⟩:=h.out;have hcl:c.length=es:=hlen c (FC hc)
 have hj:j<es:=by
  rcases Hc j c.length with h|h
  · omega
  · simp [Gb h] at hu
 have hb:=iJ (es:=es) h.lt;have:=h4 (m*es+j) Jo;rw [iI hlen hc hj,hu] at this;rw [ho,Hm];exact h2.cell this

theorem El.cells {v:Value}{F:Nat→Prop}{o:Nat}(h:El w.heap T es v F css m b o)(hc:css[m]?=some c):aj w ⟨b,o,none⟩ es c:=by
 have hcl:c.length=es:=h.sl.1 c (FC hc);refine ⟨hcl,fun j hj=>?_⟩;rw [PO,FB Jo];exact h.cell hc (FB Jo)

theorem sY:∀{css:List (List Value)},(∀c∈css,c.length=es)→∀{m j:Nat}{c:List Value}{u:Value},css[m]?=some c→j<es→(css.set m (c.set j u)).flatten=css.flatten.set (m*es+j) u:=by
 intro css
 induction css with
 | nil=>intro _ m j c u h;simp at h
 | cons a css ih=>
   intro hl m j c u h hj;have ha:=hl a Js
   cases m with
   | zero=>
     simp at h;subst h;simp only [FM,HH,II,Hb];rw [List.set_append_left _ _ Jo]
   | succ m=>
     simp at h;have:=ih (fun c hc=>hl c Ed) (u:=u) h hj;simp only [FR,HH,this];rw [Hp _ _ (by rw [ha,HU];omega),ha];congr 2;rw [HU];omega

theorem El.set {v:Value}{F:Nat→Prop}{o:Nat}(h:El w.heap T es v F css m b o)(hc:css[m]?=some c)(hj:j<es):
 El (w.setCell ⟨b,o+j,none⟩ u).heap T es v F (css.set m (c.set j u)) m b o:=by
 have hlen:=h.sl.1;obtain ⟨off,cap,arr,hv,h1,h2,h3,h4,h5,ho⟩:=h.out;refine ⟨⟨?_, .inr ⟨b,off,cap,arr.set (o+j) u,by simpa using hv,by simpa using h1,h2.set,by simpa using h3,?_,h5⟩⟩,by simpa using h.lt,off,cap,by simpa using hv,ho⟩
 · intro x hx
   rcases Iw hx with hx|rfl
   · exact hlen x hx
   · simpa using hlen c (FC hc)
 · intro i hi
   simp only [Gf] at hi;rw [sY hlen hc hj];have e:=h4 i hi;have hb:=iJ (es:=es) h.lt;have hfl:=R9 hlen;have hmul:css.length*es≤cap*es:=GA es h1;by_cases hii:i=m*es+j
   · subst hii;rw [ho,←Hm,Hk Jo,Hk Jo]
   · rw [Ht Jo,Ht Jo,e]

theorem El.fr {F:Nat→Prop}{v:Value}{o:Nat}(h:El w.heap T es v F css m b o)(hf:Fr G w w')(hn:∀b,F b→¬G b):El w'.heap T es v F css m b o:=
 ⟨h.sl.fr hf hn,h.lt,h.at_⟩

theorem El.setn {v:Value}{F:Nat→Prop}{o:Nat}:∀(vs:List Value) (w:World) (css:List (List Value)) (c:List Value) (j:Nat),El w.heap T es v F css m b o→css[m]?=some c→j+vs.length≤es→(∀v∈vs,oneC v=true)→
 ∃w',(storeCells ⟨b,o,none⟩ vs j).run P w= .ok () w'∧Fr F w w'∧w'.heap.size=w.heap.size∧El w'.heap T es v F (css.set m (c.take j++(vs++c.drop (j+vs.length)))) m b o:=by
 intro vs
 induction vs with
 | nil=>
   intro w css c j h hc hj _;refine ⟨w,by simp [storeCells],Ik _ _,rfl,?_⟩
   have:css.set m (c.take j++([]++c.drop (j+0)))=css:=by
    simp only [IM,IJ,Ho];apply Hu;intro i;by_cases him:m=i
    · subst him;rw [Hk h.lt,hc]
    · rw [Ht him]
   simp only [F8];rw [this];exact h
 | cons u vs ih=>
   intro w css c j h hc hj ho;simp only [FP] at hj;have h1:=ho u Js;have h1':u.oneCell'=true:=(by cases u<;>simp_all [Value.oneCell',oneC]);have hcl:c.length=es:=h.sl.1 c (FC hc);have hcell:=h.cell hc (FB (show j<c.length by omega));have hset:=h.set (u:=u) hc (show j<es by omega);obtain ⟨off,cap,arr,hv,g1,g2,g3,g4,g5,go⟩:=h.out;have hb:=iJ (es:=es) h.lt;have hmul:css.length*es≤cap*es:=GA es g1;have hfree:=g2.free (w:=w) (i:=o+j) Jo;have hc':(css.set m (c.set j u))[m]?=some (c.set j u):=Hk h.lt;obtain ⟨w',h2,h3,h4,h5⟩:=ih (w.setCell ⟨b,o+j,none⟩ u) _ _ (j+1) hset hc' Jo (fun x hx=>ho x D0);refine ⟨w',?_,((lA w b (o+j) u).mono fun x _ hx=>(g5 x).2 hx).trans h3 (fun _ _ h=>h),h4.trans Js,?_⟩
   · simp only [storeCells,F7,PO,run_store P w _ _ .plain h1',hcell,hfree,FV,if_false,FO];exact h2
   · have e:(css.set m (c.set j u)).set m ((c.set j u).take (j+1)++(vs++(c.set j u).drop (j+1+vs.length)))=css.set m (c.take j++(u::vs++c.drop (j+(u::vs).length))):=by
      rw [Ii];congr 1;have hlt:j<c.length:=DB;rw [Hq,if_pos hlt];have hm:(c.take j).length=j:=by simp;omega
      have e1:List.take (j+1) (c.take j++u::c.drop (j+1))=c.take j++[u]:=by
       rw [Jt,hm,Gd Jo,show j+1 - j=1 by omega];rfl
      have e2:List.drop (j+1+vs.length) (c.take j++u::c.drop (j+1))=c.drop (j+(u::vs).length):=by
       rw [Jm,hm,FJ Jo,show j+1+vs.length - j=vs.length+1 by omega];simp [J1,I9]
      rw [e1,e2];simp
     rw [←e];exact h5

section
variable {P:Program}{l:List GO}{Q:QT}{ρ:La}{w:World}{T:TypeId}{es:Nat}{v:Value}{F:Nat→Prop}{css:List (List Value)}

theorem nS {x i:Operand}{n:Int}(hx:ρ.ev x=v)(hi:ρ.ev i= .int k n)(hs:Sl w.heap T es v F css)(h0:0≤n)(h1:n<css.length)
 (h:∀b o,El w.heap T es v F css n.toNat b o→Q0 P l Q (upd ρ d (.pointer (some ⟨b,o,none⟩))) w):Q0 P (⟨none, .idx d es x i⟩::l) Q ρ w:=by
 obtain ⟨hlen,⟨hv,hc,_⟩|⟨b,off,cap,arr,hv,g1,g2,g3,g4,g5⟩⟩:=hs
 · subst hc;simp at h1;omega
 · subst hv;exact XT hx hi h0 h1 (h b _ ⟨⟨hlen, .inr ⟨b,off,cap,arr,rfl,g1,g2,g3,g4,g5⟩⟩,Jo,off,cap,rfl,rfl⟩)

theorem X5 {x:Operand}(hx:ρ.ev x=v)(hs:Sl w.heap T es v F css)(h:Q0 P l Q (upd ρ d (.int .i64 css.length)) w):Q0 P (⟨none, .len d x⟩::l) Q ρ w:=by
 obtain ⟨a,c,hv⟩:=hs.shape;exact ar (hx.trans hv) h

theorem Tx {x:Operand}{o:Nat}(hx:ρ.ev x= .pointer (some ⟨b,o,none⟩))(he:El w.heap T es v F css m b o)(hc:css[m]?=some c)(hu:c[0]?=some u)
 (h:Q0 P l Q (upd ρ d u) w):Q0 P (⟨none, .load1 d x⟩::l) Q ρ w:=lD hx (by have:=he.cell hc hu;simpa using this) h
theorem Ua {x:Operand}{o:Nat}(hx:ρ.ev x= .pointer (some ⟨b,o+j,none⟩))(he:El w.heap T es v F css m b o)(hc:css[m]?=some c)(hu:c[j]?=some u)
 (h:Q0 P l Q (upd ρ d u) w):Q0 P (⟨none, .load1 d x⟩::l) Q ρ w:=lD hx (he.cell hc hu) h
theorem Ub {x:Operand}{o:Nat}(hx:ρ.ev x= .pointer (some ⟨b,o,none⟩))(he:El w.heap T es v F css m b o)(hc:css[m]?=some c)
 (h:Q0 P l Q (upd ρ d (.agg ⟨c⟩)) w):Q0 P (⟨none, .loadn d es x⟩::l) Q ρ w:=sQ hx (he.cells hc) h
theorem sZ {x:Operand}{o:Nat}(hx:ρ.ev x= .pointer (some ⟨b,o+j,none⟩))(hy:ρ.ev y=u)(he:El w.heap T es v F css m b o)(hc:css[m]?=some c)(hj:j<es)(ho:oneC u=true)
 (h:∀w',Fr F w w'→w'.heap.size=w.heap.size→El w'.heap T es v F (css.set m (c.set j u)) m b o→Q0 P l Q ρ w'):Q0 P (⟨none, .store1 x y⟩::l) Q ρ w:=by
 subst hy;have hcl:c.length=es:=he.sl.1 c (FC hc);obtain ⟨off,cap,arr,hv,g1,g2,g3,g4,g5,go⟩:=he.out;have hb:=iJ (es:=es) he.lt;have hmul:css.length*es≤cap*es:=GA es g1;exact ⟨_,_,hx,he.cell hc (FB (show j<c.length by omega)),g2.free Jo,ho,h _ ((lA w b _ _).mono fun x _ hx=>(g5 x).2 hx) Js (he.set hc hj)⟩
theorem nT {x:Operand}{o:Nat}(hx:ρ.ev x= .pointer (some ⟨b,o,none⟩))(hy:ρ.ev y=u)(he:El w.heap T es v F css m b o)(hc:css[m]?=some c)(hj:0<es)(ho:oneC u=true)
 (h:∀w',Fr F w w'→w'.heap.size=w.heap.size→El w'.heap T es v F (css.set m (c.set 0 u)) m b o→Q0 P l Q ρ w'):Q0 P (⟨none, .store1 x y⟩::l) Q ρ w:=
 sZ (j:=0) hx hy he hc hj ho h
theorem yQ {x:Operand}{o:Nat}(hx:ρ.ev x= .pointer (some ⟨b,o,none⟩))(hy:ρ.ev y= .agg ⟨vs⟩)(hn:vs.length=n)(he:El w.heap T es v F css m b o)(hc:css[m]?=some c)(hl:vs.length=es)(ho:∀v∈vs,oneC v=true)
 (h:∀w',Fr F w w'→w'.heap.size=w.heap.size→El w'.heap T es v F (css.set m vs) m b o→Q0 P l Q ρ w'):Q0 P (⟨none, .storen n x y⟩::l) Q ρ w:=by
 subst hn;have hcl:c.length=es:=he.sl.1 c (FC hc);obtain ⟨w',h1,h2,h3,h4⟩:=El.setn (P:=P) vs w css c 0 he hc Jo ho;refine ⟨_,_,w',hx,hy,rfl,h1,h w' h2 h3 ?_⟩;have:c.take 0++(vs++c.drop (0+vs.length))=vs:=DE;rw [this] at h4;exact h4

theorem Uc {x:Operand}(hx:ρ.ev x=v)(hs:Sl w.heap T es v F css)(hmx:mx=none)(hh:Nl ρ css.length hi h')(hl:Nl ρ 0 lo l')(h2:h'≤css.length)(h3:l'≤h')
 (h:∀v',Sl w.heap T es v' F ((css.take h').drop l')→Q0 P l Q (upd ρ d v') w):Q0 P (⟨none, .sub d es x lo hi mx⟩::l) Q ρ w:=by
 subst hmx;obtain ⟨hlen,⟨hv,hc,hF⟩|⟨b,off,cap,arr,hv,g1,g2,g3,g4,g5⟩⟩:=hs
 · subst hc hv;simp only [F8,Nat.le_zero_eq] at h2;subst h2;have:l'=0:=DB;subst this;refine iz (m:=0) hx rfl hh hl (F6 _) (F6 _) (F6 _) ?_;simp only [if_true,HN];exact h _ (by simpa using ⟨by simp, .inl ⟨rfl,rfl,hF⟩⟩)
 · subst hv
   refine iz (m:=cap) hx rfl hh hl (F6 _) Jo h3 ?_;refine h _ ⟨fun c hc=>hlen c (G5 (H6 hc)), .inr ?_⟩;have hl1:((css.take h').drop l').length=h' - l':=by simp;omega
   have hfl:∀i,i<(h' - l')*es→((css.take h').drop l').flatten[i]?=css.flatten[l'*es+i]?:=by
    intro i hi
    have e1:css=css.take l'++((css.take h').drop l'++css.drop h'):=by
     have:css.take l'=(css.take h').take l':=(by rw [List.take_take,Jz h3]);rw [this,←Hg,Ho,Ho]
    have hlen':∀c∈css.take l',c.length=es:=fun c hc=>hlen c (G5 hc);have hlen2:∀c∈(css.take h').drop l',c.length=es:=fun c hc=>hlen c (G5 (H6 hc));have f1:=R9 hlen';have f2:=R9 hlen2;rw [hl1] at f2;have ht:(css.take l').length=l':=DE;rw [ht] at f1
    conv=>rhs;rw [e1]
    simp only [Hw];rw [FI Jo,f1,Nat.add_sub_cancel_left,FL Jo]
   have hm1:l'*es≤cap*es:=GA es Jo;have hm2:(cap - l')*es=cap*es - l'*es:=Nat.sub_mul _ _ _;have hm3:(h' - l')*es+l'*es=h'*es:=(by rw [←H8];congr 1;omega);have hm4:h'*es≤css.length*es:=GA es h2;by_cases hcl:cap=l'
   · rw [if_pos hcl]
     refine ⟨b,off,cap - l',arr,?_,Jo,g2,Jo,?_,g5⟩
     · rw [hl1]
     · intro i hi;rw [hl1] at hi;have:h' - l'=0:=DB;rw [this] at hi;omega
   · rw [if_neg hcl]
     refine ⟨b,off+l'*es,cap - l',arr,?_,Jo,g2,Jo,?_,g5⟩
     · rw [hl1];simp only [GC,PO]
     · intro i hi;rw [hl1] at hi;rw [hfl i hi,Hm,g4 (l'*es+i) Jo]
end
end
section

def N6 (P:Program)(Ts:TypeId):Option (TypeId×Nat×Nat×List Value):=match P.underlying Ts with
 | some (.slice e)=>match P.info? e with
   | some i=>match i.zero with
     | some z=>if i.size=0∨i.bytes=0∨z.cells.size≠i.size then none else some (e,i.size,i.bytes,z.cells.toList)
     | none=>none
   | none=>none
 | _=>none

theorem lF {e:Nat}(h:N6 P Ts=some (e,es,nb,z)):
 ∃i zv,P.underlying Ts=some (.slice e)∧P.info? e=some i∧i.zero=some zv∧i.size=es∧i.bytes=nb∧zv.cells.toList=z∧0<es∧0<nb∧z.length=es:=by
 unfold N6 at h;split at h
 · rename_i e' hu
   split at h
   · rename_i i hi
     split at h
     · rename_i zv hz
       split at h
       · cases h
       · rename_i hc
         simp only [FU,Hv] at h;obtain ⟨rfl,rfl,rfl,rfl⟩:=h;refine ⟨i,zv,hu,hi,hz,rfl,rfl,rfl,Jo,Jo,?_⟩;have:zv.cells.size=i.size:=by omega
         simpa using this
     · cases h
   · cases h
 · cases h

def Ud (P:Program)(w:World)(es:Nat)(v:Value)(css:List (List Value)):Prop:=
 (Builtin.lenOf v).run P w= .ok css.length w∧(∀c∈css,c.length=es)∧(∀c∈css,∀u∈c,oneC u=true)∧
 ∀w',(∀b,b<w.heap.size→w'.heap[b]?=w.heap[b]?)→(Builtin.firstCells es css.length v).run P w'= .ok ⟨css.flatten⟩ w'

theorem Sl.src {v:Value}{F:Nat→Prop}(h:Sl w.heap T es v F css)(ho:∀c∈css,∀u∈c,oneC u=true):Ud P w es v css:=by
 have hlen:=h.1;refine ⟨?_,hlen,ho,?_⟩
 · obtain ⟨a,c,hv⟩:=h.shape;rw [hv];rfl
 · intro w' hw'
   obtain ⟨_,⟨hv,hc,_⟩|⟨b,off,cap,arr,hv,g1,g2,g3,g4,g5⟩⟩:=h
   · subst hv hc;rfl
   · subst hv;have g2':=g2.of_same (hw' b g2.lt);simp only [Builtin.firstCells];refine hU _ _ _ ⟨R9 hlen,fun j hj=>?_⟩;rw [PO];have hfl:=R9 hlen;have hm:=GA es g1;have:=g4 j Jo;rw [FB (show j<css.flatten.length from hfl ▸ hfl ▸ hj)] at this ⊢;exact g2'.cell this

theorem Sl.fresh {H:Ld}(hb:LY H b T cs)(hf:css.flatten=cs)(hl:∀c∈css,c.length=es)(hn:css.length=n):
 Sl H T es (.slice (some ⟨b,0,none⟩) n n) (· =b) css:=by
 subst hn hf;refine ⟨hl, .inr ⟨b,0,css.length,css.flatten,rfl,F6 _,hb,?_,?_,fun x=>HL⟩⟩
 · rw [R9 hl];omega
 · intro i _;rw [Hb]

abbrev Jf:=@Sl.fresh
theorem yR {zero:Array Value}:(Builtin.zeroCells zero n).toList.length=n*zero.size:=by simp [Builtin.zeroCells]

def nU (w:World)(T:TypeId)(es:Nat)(F:Nat→Prop)(css css2:List (List Value))(v':Value)(w':World):Prop:=
 ∃F',Sl w'.heap T es v' F' (css++css2)∧Fr F w w'∧∀b,F' b→F b∨w.heap.size≤b

theorem yS {Ts2 e:Nat}(hel:N6 P Ts=some (e,es,nb,z))(hts:(∃e2,P.underlying Ts2=some (.slice e2))∨P.underlying Ts2=some .string)
 {v:Value}{F:Nat→Prop}{css2:List (List Value)}(hs:Sl w.heap e es v F css)(hsrc:Ud P w es v2 css2)(hb:(css.length+css2.length)*nb≤140737488355328):
 ∃v' w',(Builtin.append_ #[Ts,Ts2] Ty #[v,v2]).run P w= .ok v' w'∧nU w e es F css css2 v' w':=by
 obtain ⟨i,zv,hu,hi,hz,rfl,rfl,hzc,hes,hnb,hzl⟩:=lF hel;obtain ⟨hl2,hlen2,hone2,hfc2⟩:=hsrc;have hsz:(sizeOf e).run P w= .ok i.size w:=(by simp [sizeOf,g8 P e i w hi]);have hlen:=hs.1;have hzs:zv.cells.size=i.size:=Fb;have hsmall:css.length+css2.length≤140737488355328:=Hj (Nat.le_mul_of_pos_right _ hnb) hb;have hf1:=R9 hlen;have hf2:=R9 hlen2
 -- the growing way
 have grow:∀(base:Option Addr) (cap:Nat),v= .slice base css.length cap→cap<css.length+css2.length→
  (∀w',(∀b,b<w.heap.size→w'.heap[b]?=w.heap[b]?)→(Builtin.firstCells i.size css.length v).run P w'= .ok ⟨css.flatten⟩ w')→
  ∃v' w',(Builtin.append_ #[Ts,Ts2] Ty #[v,v2]).run P w= .ok v' w'∧nU w e i.size F css css2 v' w':=by
  intro base cap hv hcap hold;have hq:Question.forced (.appendCap (css.length+css2.length) cap e)=false:=rfl
  let nc:=Question.cut (.appendCap (css.length+css2.length) cap e) (w.tape w.drawn (.appendCap (css.length+css2.length) cap e))
  have hnc:css.length+css2.length≤nc:=(by simp only [nc,Question.cut];omega);have h1:=hold w.drew (fun _ _=>rfl);have h2:=hfc2 w.drew (fun _ _=>rfl);have hgs:=growslice_fits hcap hb;refine ⟨.slice (some ⟨w.heap.size,0,none⟩) (css.length+css2.length) nc,w.drew.alloc (.cells (⟨css.flatten⟩++⟨css2.flatten⟩++Builtin.zeroCells zv.cells (nc - (css.length+css2.length))) e),?_,?_⟩
  · subst hv
    have hw:({w with drawn:=w.drawn+1}:World)=w.drew:=rfl;simp only [Builtin.append_,HF,Gl,GI,F7,Q8 P Ts _ w hu,FO,hsz];have hnr:¬(css.length+css2.length≤cap):=DB;have hnx:¬(Builtin.nextslicecap (css.length+css2.length) cap*i.bytes>2 ^ 48):=DB;rcases hts with ⟨e2,hd⟩|hd
    all_goals
     simp only [Q8 P Ts2 _ w hd,FO,Gk,FV,if_false,hl2,Sem.run_ite,if_neg hnr,F7,g8 P e i _ hi,if_neg hnx]
    all_goals
     simp only [run_choose,hq,FV,if_false,FO,run_askRoom,hw];rw [h1];simp only [FO,IV,if_true];rw [h2];simp only [FO,bK P e zv _ EM,newRow,F7,run_newObj,Gk];rw [if_neg (by rintro ⟨_,h|h⟩;exact h;omega)];rfl
  · have hblk:=fV w.drew ((⟨css.flatten⟩++⟨css2.flatten⟩++Builtin.zeroCells zv.cells (nc - (css.length+css2.length)):Array Value).toList) e
    refine ⟨(· =w.heap.size),⟨?_, .inr ⟨w.heap.size,0,nc,_,by simp,by simpa using hnc,hblk,?_,?_,fun x=>HL⟩⟩,((bP w.drew _).drew).any,fun b hb=> .inr (Je hb.symm)⟩
    · intro c hc
      rcases F5.1 hc with hc|hc
      · exact hlen c hc
      · exact hlen2 c hc
    · simp only [I2,FH,yR,hf1,hf2,hzs,←H8,Hb];exact GA _ Jo
    · intro j hj;simp only [FH] at hj;rw [Hb,I2,I2,Hw];rw [FL (by simp only [FH,hf1,hf2,←H8];exact hj)]
 obtain ⟨_,⟨hv,hc,hF⟩|⟨b,off,cap,arr,hv,g1,g2,g3,g4,g5⟩⟩:=hs
 · by_cases hc2:css2=[]
   · subst hc hc2 hv
     refine ⟨.slice none 0 0,w,?_,F,⟨by simp, .inl ⟨rfl,rfl,hF⟩⟩,Ik _ _,fun b hb=> .inl hb⟩;have h2:=hfc2 w (fun _ _=>rfl);simp only [F8] at h2;simp only [Builtin.append_,HF,Gl,GI,F7,Q8 P Ts _ w hu,FO,hsz];rcases hts with ⟨e2,hd⟩|hd
     all_goals
      simp only [Q8 P Ts2 _ w hd,Gk,FO,FV,if_false,hl2,F8,IJ,F6,if_true,IV,F7];rw [h2];rfl
   · refine grow none 0 (by rw [hv,hc];rfl) ?_ ?_
     · have:0<css2.length:=HO.2 hc2;omega
     · intro w' _;subst hv hc;rfl
 · by_cases hroom:css.length+css2.length≤cap
   · have hm:=GA i.size hroom
     rw [H8] at hm;have h2:=hfc2 w (fun _ _=>rfl)
     have hone:∀u∈css2.flatten,oneC u=true:=by
      intro u hu;obtain ⟨c,hc,hu⟩:=List.mem_flatten.1 hu;exact hone2 c hc u hu
     obtain ⟨w',h3,h4,h5,h6⟩:=nG P b e css2.flatten w arr (off+css.length*i.size) 0 g2 Jo hone;refine ⟨.slice (some ⟨b,off,none⟩) (css.length+css2.length) cap,w',?_,F,⟨?_, .inr ⟨b,off,cap,_,by simp,by simpa using hroom,h6,?_,?_,g5⟩⟩,h4.mono (fun x _ hx=>(g5 x).2 hx),fun x hx=> .inl hx⟩
     · subst hv
       simp only [Builtin.append_,HF,Gl,GI,F7,Q8 P Ts _ w hu,FO,hsz];rcases hts with ⟨e2,hd⟩|hd
       all_goals
        simp only [Q8 P Ts2 _ w hd,Gk,FO,FV,if_false,hl2,hroom,if_true,IV,F7];rw [h2];simp only [FO,PO,h3]
     · intro c hc
       rcases F5.1 hc with hc|hc
       · exact hlen c hc
       · exact hlen2 c hc
     · simp only [FH,GM,List.length_drop];omega
     · intro j hj
       simp only [FH,H8] at hj;rw [Hw];simp only [IJ];have hlt:(arr.take (off+css.length*i.size)).length=off+css.length*i.size:=DE;by_cases hj1:j<css.length*i.size
       · rw [FL Jo,Gv Jo,FL Jo];exact g4 j hj1
       · rw [FI Jo,hlt,FL Jo,FI Jo,hf1];congr 1;omega
   · refine grow (some ⟨b,off,none⟩) cap hv Jo ?_;intro w' hw';subst hv;have g2':=g2.of_same (hw' b g2.lt);simp only [Builtin.firstCells];refine hU _ _ _ ⟨hf1,fun j hj=>?_⟩;rw [PO];have:=g4 j hj;rw [FB (show j<css.flatten.length by omega)] at this ⊢;exact g2'.cell this

section
variable {P:Program}{l:List GO}{Q:QT}{ρ:La}{w:World}

theorem Ue {Ts2 e:Nat}{x:Operand}{v:Value}{F:Nat→Prop}{css2:List (List Value)}(hel:N6 P Ts=some (e,es,nb,z))
 (hts:(∃e2,P.underlying Ts2=some (.slice e2))∨P.underlying Ts2=some .string)(hx:ρ.ev x=v)(hy:ρ.ev y=v2)(hs:Sl w.heap e es v F css)(hsrc:Ud P w es v2 css2)(hb:(css.length+css2.length)*nb≤140737488355328)
 (h : ∀ v' w', nU w e es F css css2 v' w' → Q0 P l Q (upd ρ d v') w'): Q0 P (⟨none, .raw ⟨some d, .call ⟨.builtin .append, #[x, y], #[Ts, Ts2]⟩, Ty, "", #[], none⟩⟩ :: l) Q ρ w := by
 obtain ⟨v',w',hr,hp⟩:=yS (Ty:=Ty) hel hts hs hsrc hb;refine Nq (v:=v') (w':=w') ?_ (h v' w' hp);simp only [execOp,resolve,F7,Gk,FO,invoke,builtin];have e1:(#[x,y].map ρ.ev)=#[v,v2]:=(by simp [hx,hy]);rw [e1,hr];rfl
theorem s6 (hz:z.length=es)(hes:0<es)(n:Nat):(List.range (n*es)).map (fun i=>z.getD (i % es) default)=(List.replicate n z).flatten:=by
 apply Hu;intro i;have hl:∀c∈List.replicate n z,c.length=es:=(by intro c hc;rw [GX hc];exact hz);have hfl:=R9 hl;simp only [Gw] at hfl;by_cases hi:i<n*es
 · have hq:i / es<n:=Kh (by rw [I8];exact hi);have hm:i % es<es:=JD _ hes;have e:=iI hl (m:=i / es) (j:=i % es) (c:=z) (by simp [hq]) hm;have hdm:i / es*es+i % es=i:=(by rw [I8];exact Nat.div_add_mod i es);rw [hdm] at e;rw [e];simp only [FW,HP hi,GC];rw [FE,FB (show i % es<z.length by omega)];rfl
 · rw [Gb DE,Gb Jo]

theorem iK {e:Nat}{x:Operand}{n:Int}(hel:N6 P Ts=some (e,es,nb,z))(hx:ρ.ev x= .int k n)(hy:ρ.ev y= .int k' n)(h0:0≤n)(hn:n*nb≤281474976710656)
 (h:∀v' w',Fr NF w w'→Sl w'.heap e es v' (· =w.heap.size) (List.replicate n.toNat z)→w'.heap.size=w.heap.size+1→Q0 P l Q (upd ρ d v') w'):
 Q0 P (⟨none, .raw ⟨some d, .makeSlice Ts x y, Ty, "", #[], none⟩⟩ :: l) Q ρ w := by
 obtain ⟨i,zv,hu,hi,hz,rfl,rfl,hzc,hes,hnb,hzl⟩:=lF hel;have hzs:zv.cells.size=i.size:=by rw [←GN,hzc];exact hzl
 have hle:n≤281474976710656:=by
  have:n*1≤n*i.bytes:=Int.mul_le_mul_of_nonneg_left Jo h0;omega
 have hwr:IntKind.i64.wrap n=n:=bQ Jo Jo;have hfl:=s6 hzl hes n.toNat;have hl:∀c∈List.replicate n.toNat z,c.length=i.size:=Ff;have hb:(i.bytes:Int)*n≤281474976710656:=by rw [Int.mul_comm];exact hn
 have hlarge:(n<0||decide ((i.bytes:Int)*n>2 ^ 48))=false:=by
  simp only [H5,decide_eq_false_iff_not];omega
 refine Nq (v:= .slice (some ⟨w.heap.size,0,none⟩) n.toNat n.toNat) (w':=w.alloc (.cells ⟨(List.replicate n.toNat z).flatten⟩ e)) ?_ ?_
 · simp only [execOp,Instr.makeSlice,F7,Q8 P Ts _ w hu,FO,hx,hy,asInt,asIntOf,Gk,g8 P e i _ hi,hwr,hlarge,HD]
   have hc2:(decide (n<0)||decide (n>n))=false:=(by simp only [H5,decide_eq_false_iff_not];omega);rw [hc2];simp only [FV,if_false,F7,run_askRoom,FO,RG P e i.size w (by simp [OB,hi])];by_cases hnz:n.toNat*i.size=0
   · rw [if_pos hnz]
     have hn0:n.toNat=0:=by
      rcases Nat.mul_eq_zero.1 hnz with h|h
      · exact h
      · omega
     simp only [Gk,FO,newRow,F7,run_newObj,hn0,II];have hr0:Array.range 0=#[]:=rfl;rw [hr0,Array.map_empty];rfl
   · rw [if_neg hnz]
     simp only [F7,bK P e zv _ EM,Gk,FO,newRow,run_newObj]
     have harr:((Array.range (n.toNat*i.size)).map (zv.cells[· % zv.cells.size]!):Array Value)=⟨(List.replicate n.toNat z).flatten⟩:=by
      apply Io;rw [←hfl];simp [hzs,←hzc];intro a _;rw [IH,GG]
     rw [harr];rfl
 · exact h _ _ (bP w _) (Jf (fV w _ e) rfl hl Js) Js

def ay (es:Nat)(v v':Value)(len l' h':Nat):Prop:=
 (v= .slice none 0 0∧v'= .slice none 0 0∧l'=0∧h'=0)∨
 ∃b off cap,v= .slice (some ⟨b,off,none⟩) len cap∧((l'=h'∧∃o c,v'= .slice (some ⟨b,o,none⟩) 0 c)∨v'= .slice (some ⟨b,off+l'*es,none⟩) (h' - l') (cap - l'))

theorem cj {T:Nat}{v:Value}{F:Nat→Prop}{x:Operand}(hx:ρ.ev x=v)(hs:Sl w.heap T es v F css)(hmx:mx=none)(hh:Nl ρ css.length hi h')(hl:Nl ρ 0 lo l')(h2:h'≤css.length)(h3:l'≤h')
 (h:∀v',ay es v v' css.length l' h'→Q0 P l Q (upd ρ d v') w):Q0 P (⟨none, .sub d es x lo hi mx⟩::l) Q ρ w:=by
 subst hmx;obtain ⟨hlen,⟨hv,hc,hF⟩|⟨b,off,cap,arr,hv,g1,g2,g3,g4,g5⟩⟩:=hs
 · subst hc hv;simp only [F8,Nat.le_zero_eq] at h2;subst h2;have:l'=0:=DB;subst this;exact iz (m:=0) hx rfl hh hl (F6 _) (F6 _) (F6 _) (h _ (.inl ⟨rfl,by simp,rfl,rfl⟩))
 · subst hv
   refine iz (m:=cap) hx rfl hh hl (F6 _) Jo h3 (h _ (.inr ⟨b,off,cap,rfl,?_⟩));by_cases hcl:cap=l'
   · rw [if_pos hcl];exact .inl ⟨Jo,off,cap - l',by rw [show h' - l'=0 by omega]⟩
   · rw [if_neg hcl];exact .inr (by simp only [GC,PO])

theorem X6 {e:Nat}{x:Operand}{v:Value}{F:Nat→Prop}(hel:N6 P Ts=some (e,es,nb,z))(hzo:∀u∈z,oneC u=true)(hx:ρ.ev x=v')(hs:Sl w.heap e es v F css)
 (hsub:ay es v v' css.length l' h')(h1:l'≤h')(h2:h'≤css.length)
 (h:∀w',Fr F w w'→w'.heap.size=w.heap.size→Sl w'.heap e es v F (css.take l'++(List.replicate (h' - l') z++css.drop h'))→Q0 P l Q ρ w'):
 Q0 P (⟨none, .raw ⟨none, .call ⟨.builtin .clear, #[x], #[Ts]⟩, Ty, "", #[], none⟩⟩ :: l) Q ρ w := by
 obtain ⟨i,zv,hu,hi,hz,rfl,rfl,hzc,hes,hnb,hzl⟩:=lF hel;have hzs:zv.cells.size=i.size:=Fb;have hl:∀c∈List.replicate (h' - l') z,c.length=i.size:=Ff;have hfl:=s6 hzl hes (h' - l');have hfn:=R9 hl;simp only [Gw] at hfn;have e1:(#[x].map ρ.ev)=#[v']:=by simp [hx]
 have same:l'=h'→css.take l'++(List.replicate (h' - l') z++css.drop h')=css:=by
  intro e;subst e;simp
 have triv : ∀ (a : Option Addr) (c : Nat), v' = .slice a 0 c → l' = h' → Q0 P (⟨none, .raw ⟨none, .call ⟨.builtin .clear, #[x], #[Ts]⟩, Ty, "", #[], none⟩⟩ :: l) Q ρ w := by
  intro a c hv' hlh;refine Nq (v:= .tuple #[]) (w':=w) ?_ (h w (Ik _ _) rfl (by rw [same hlh];exact hs));subst hv';simp only [execOp,resolve,F7,Gk,FO,invoke,builtin,e1,Builtin.clear_,HF,Gl,Q8 P Ts _ w hu];cases a<;>rfl
 rcases hsub with ⟨_,hv',rfl,rfl⟩|⟨b0,off0,cap0,hv0,⟨hlh,o,c,hv'⟩|hv'⟩
 · exact triv _ _ hv' rfl
 · exact triv _ _ hv' hlh
 · by_cases hlh:l'=h'
   · exact triv _ _ (by rw [hv',hlh,HN]) hlh
   · obtain ⟨hlen,⟨hv,_,_⟩|⟨b,off,cap,arr,hv,g1,g2,g3,g4,g5⟩⟩:=hs
     · rw [hv] at hv0;cases hv0
     · rw [hv] at hv0
       simp only [Value.slice.injEq,FU,Addr.mk.injEq,and_true,true_and] at hv0;obtain ⟨⟨rfl,rfl⟩,rfl⟩:=hv0;subst hv';have hm:=GA i.size g1;have hm2:=GA i.size h2;have hm3:(h' - l')*i.size+l'*i.size=h'*i.size:=by rw [←H8];congr 1;omega
       obtain ⟨w',h3,h4,h5,h6⟩:=nG P b e (List.replicate (h' - l') z).flatten w arr (off+l'*i.size) 0 g2 Jo (by
        intro u hu;obtain ⟨c,hc,hu⟩:=List.mem_flatten.1 hu;rw [GX hc] at hu;exact hzo u hu)
       simp only [IJ] at h6
       have harr:(Builtin.zeroCells zv.cells (h' - l')).toList=(List.replicate (h' - l') z).flatten:=by
        rw [←hfl];simp [Builtin.zeroCells,hzs,←hzc];intro a _;rw [IH,GG]
       refine Nq (v:= .tuple #[]) (w':=w') ?_ (h w' (h4.mono (fun x _ hx=>(g5 x).2 hx)) h5 ?_)
       · simp only [execOp,resolve,F7,Gk,FO,invoke,builtin,e1,Builtin.clear_,HF,Gl,Q8 P Ts _ w hu]
         cases hn:h' - l' with
         | zero=>omega
         | succ n=>
           rw [hn] at harr h3;simp only [F7,bK P e zv _ EM,FO,harr,h3,Gk]
       · have hcl:(css.take l'++(List.replicate (h' - l') z++css.drop h')).length=css.length:=by simp;omega
         have hall:∀c∈css.take l'++(List.replicate (h' - l') z++css.drop h'),c.length=i.size:=by
          intro c hc;rcases F5.1 hc with hc|hc
          · exact hlen c (G5 hc)
          · rcases F5.1 hc with hc|hc
            · exact hl c hc
            · exact hlen c (H6 hc)
         refine ⟨hall, .inr ⟨b,off,cap,_,by rw [hcl];exact hv,by rw [hcl];exact g1,h6,?_,?_,g5⟩⟩
         · simp only [FH,GM,List.length_drop,hfn];omega
         · intro j hj
           rw [hcl] at hj;have hlt:(arr.take (off+l'*i.size)).length=off+l'*i.size:=DE;have f1:=R9 (css:=css.take l') (es:=i.size) (fun c hc=>hlen c (G5 hc));have ht:(css.take l').length=l':=DE;rw [ht] at f1;have e2:css.flatten=(css.take l').flatten++(css.drop l').flatten:=Fg;have e3:css.flatten=(css.take h').flatten++(css.drop h').flatten:=Fg;have f3:=R9 (css:=css.take h') (es:=i.size) (fun c hc=>hlen c (G5 hc));have ht3:(css.take h').length=h':=DE;rw [ht3] at f3;simp only [Hw];by_cases hj1:j<l'*i.size
           · rw [FL Jo,Gv Jo,FL Jo,g4 j hj,e2,FL Jo]
           · by_cases hj2:j<h'*i.size
             · rw [FI Jo,hlt,FL Jo,FI Jo,f1,FL Jo];congr 1;omega
             · rw [FI Jo,hlt,FI Jo,HA,FI Jo,f1,FI Jo];have:=g4 j hj;rw [e3,FI Jo,f3] at this;rw [show off+l'*i.size+(List.replicate (h' - l') z).flatten.length+(off+j - (off+l'*i.size) - (List.replicate (h' - l') z).flatten.length)=off+j by omega,this];congr 1;omega
end
end
section

def iL (H:Ld)(b i:Nat):Option Value:=match H[b]? with
 | some (.cells c _ _)=>c[i]?
 | _=>none
theorem s7 (w:World)(b i:Nat):w.cell? ⟨b,i,none⟩=iL w.heap b i:=by
 unfold World.cell? iL
 cases w.heap[b]? with
 | none=>rfl
 | some o=>cases o<;>rfl

def At (H:Ld)(b o:Nat)(c:List Value):Prop:=∀(j:Nat) (u:Value),c[j]?=some u→iL H b (o+j)=some u

def M0 (H:Ld)(es:Nat)(v:Value)(F:Nat→Prop)(css:List (List Value)):Prop:=
 (∀c∈css,c.length=es)∧∃a cap,v= .slice a css.length cap∧css.length≤cap∧
   (css=[]∨∃b off,a=some ⟨b,off,none⟩∧F b∧b<H.size∧∀(m:Nat) (c:List Value),css[m]?=some c→At H b (off+m*es) c)

theorem At.of_same {H H':Ld}{o:Nat}(h:At H b o c)(he:H'[b]?=H[b]?):At H' b o c:=fun j u hj=>by
 have:=h j u hj;unfold iL at this ⊢;rw [he];exact this
theorem At.cell {o:Nat}(h:At w.heap b o c)(hj:c[j]?=some u):w.cell? ⟨b,o+j,none⟩=some u:=by rw [s7];exact h j u hj
theorem At.cells {o:Nat}(h:At w.heap b o c)(hv:(c.drop j).take n=vs)(hl:vs.length=n):aj w ⟨b,o+j,none⟩ n vs:=by
 refine ⟨hl,fun i hi=>?_⟩;rw [PO,Hm];have e:vs[i]?=c[j+i]?:=(by rw [←hv,Gv hi,HA]);have h1:vs.length=min n (c.length - j):=(by rw [←hv];simp);rw [e,FB Jo];exact h.cell (FB Jo)

theorem M0.of_same {H H':Ld}{v:Value}{F:Nat→Prop}(h:M0 H es v F css)(hs:∀b,F b→b<H.size→H'[b]?=H[b]?):M0 H' es v F css:=by
 obtain ⟨h0,a,cap,hv,hlc,hc|⟨b,off,ha,hF,hb,hat⟩⟩:=h
 · exact BB
 · refine ⟨h0,a,cap,hv,hlc, .inr ⟨b,off,ha,hF,?_,fun m c hm=>(hat m c hm).of_same (hs b hF hb)⟩⟩
   have:=hs b hF hb;rcases Hc b H'.size with h|h
   · exact h
   · rw [Hl h,Hs hb] at this;cases this
theorem M0.fr {F:Nat→Prop}{v:Value}(h:M0 w.heap es v F css)(hf:Fr G w w')(hn:∀b,F b→¬G b):M0 w'.heap es v F css:=
 h.of_same fun b hb hlt=>hf.same b hlt (hn b hb)
theorem M0.fr0 {F:Nat→Prop}{v:Value}(h:M0 w.heap es v F css)(hf:Fr NF w w'):M0 w'.heap es v F css:=h.fr hf fun _ _ h=>h
theorem M0.mono {H:Ld}{F:Nat→Prop}{v:Value}(h:M0 H es v F css)(hs:∀b,b<H.size→F b→G b):M0 H es v G css:=by
 obtain ⟨h0,a,cap,hv,hlc,hc|⟨b,off,ha,hF,hb,hat⟩⟩:=h
 · exact BB
 · exact ⟨h0,a,cap,hv,hlc, .inr ⟨b,off,ha,hs b hb hF,hb,hat⟩⟩
abbrev Ir:=@M0.mono
theorem M0.shape {H:Ld}{v:Value}{F:Nat→Prop}(h:M0 H es v F css):∃a c,v= .slice a css.length c:=by
 obtain ⟨_,a,cap,hv,_⟩:=h;exact ⟨a,cap,hv⟩

theorem Sl.toR {H:Ld}{v:Value}{F:Nat→Prop}(h:Sl H T es v F css):M0 H es v F css:=by
 obtain ⟨h0,⟨hv,hc,_⟩|⟨b,off,cap,arr,hv,g1,g2,g3,g4,g5⟩⟩:=h
 · subst hc;exact ⟨h0,none,0,hv,F6 _, .inl rfl⟩
 · refine ⟨h0,_,cap,hv,g1, .inr ⟨b,off,rfl,(g5 b).2 rfl,g2.lt,fun m c hm j u hu=>?_⟩⟩
   have hm':m<css.length:=(FD.1 hm).1;have hcl:c.length=es:=h0 c (FC hm);have hj:j<es:=(by have:=(FD.1 hu).1;omega);have hb:=iJ (es:=es) hm';have:=g4 (m*es+j) Jo;rw [iI h0 hm hj,hu] at this;obtain ⟨fz,g2,_⟩:=g2;unfold iL;rw [g2,Hm]
   simpa using this

theorem M0.src {v:Value}{F:Nat→Prop}(h:M0 w.heap es v F css)(ho:∀c∈css,∀u∈c,oneC u=true):Ud P w es v css:=by
 obtain ⟨h0,a,cap,hv,hlc,hc⟩:=h;subst hv;refine ⟨rfl,h0,ho,?_⟩;intro w' hw';rcases hc with hc|⟨b,off,ha,hF,hb,hat⟩
 · subst hc;cases a<;>simp [Builtin.firstCells,loadCells,loadCellsFrom]
 · subst ha
   simp only [Builtin.firstCells];have hfl:=R9 h0;refine hU _ _ _ ⟨hfl,fun j hj=>?_⟩;rw [PO]
   have hes:0<es:=by
    rcases I5 es with h|h
    · subst h;simp at hj
    · exact h
   have hq:j / es<css.length:=Kh (by rw [I8];exact hj);have hm:j % es<es:=JD _ hes;have hdm:j / es*es+j % es=j:=(by rw [I8];exact Nat.div_add_mod j es);have hcm:css[j / es]?=some css[j / es]:=FB hq;have e:=iI h0 hcm hm;rw [hdm] at e;have hcl:css[j / es].length=es:=h0 _ (HM hq);rw [e,FB Jo];have:=((hat _ _ hcm).of_same (hw' b hb)).cell (j:=j % es) (FB Jo);rw [Hm,hdm] at this;exact this

section
variable {P:Program}{l:List GO}{Q:QT}{ρ:La}{w:World}{es:Nat}{v:Value}{F:Nat→Prop}{css:List (List Value)}

theorem X7 {x:Operand}{o:Nat}(hx:ρ.ev x= .pointer (some ⟨b,o,none⟩))(ha:At w.heap b o c)(hu:c[0]?=some u)
 (h:Q0 P l Q (upd ρ d u) w):Q0 P (⟨none, .load1 d x⟩::l) Q ρ w:=lD hx (by have:=ha.cell hu;simpa using this) h
theorem Uf {x:Operand}{o:Nat}(hx:ρ.ev x= .pointer (some ⟨b,o+j,none⟩))(ha:At w.heap b o c)(hu:c[j]?=some u)
 (h:Q0 P l Q (upd ρ d u) w):Q0 P (⟨none, .load1 d x⟩::l) Q ρ w:=lD hx (ha.cell hu) h
theorem Ug {x:Operand}{o:Nat}(hx:ρ.ev x= .pointer (some ⟨b,o,none⟩))(ha:At w.heap b o c)(hl:c.length=n)
 (h:Q0 P l Q (upd ρ d (.agg ⟨c⟩)) w):Q0 P (⟨none, .loadn d n x⟩::l) Q ρ w:=
 sQ hx (by have:=ha.cells (j:=0) (n:=n) (vs:=c) (by rw [GD,Gd Jo]) hl;simpa using this) h
end


def Fits (P:Program)(T:TypeId){Hd:Type}(y:DataW Hd):Prop:=∀n∈y.weights P T,n≤reachBytes
theorem s8 {P:Program}{e:TypeId}{Hd:Type}:∀{l:List (DataW Hd)}{d:DataW Hd},d∈l→∀n∈d.weights P e,n∈DataW.weightsAll P e l
 | [],_,h=>by cases h
 | x::l,d,h=>fun n hn=>by
   rw [DataW.weightsAll,F5];rcases FX.1 h with rfl|h
   · exact .inl hn
   · exact .inr (s8 h n hn)
theorem nV {P:Program}{Hd:Type}:∀{ts:List TypeId}{l:List (DataW Hd)}{i:Nat}{t:TypeId}{d:DataW Hd},ts[i]?=some t→l[i]?=some d→∀n∈d.weights P t,n∈DataW.weightsEach P ts l
 | [],_,_,_,_,h,_=>by simp at h
 | _::_,[],_,_,_,_,h=>by simp at h
 | t::ts,x::l,0,_,_,h1,h2=>fun n hn=>by
   simp only [Gl,FU] at h1 h2;subst h1 h2;rw [DataW.weightsEach,F5];exact .inl hn
 | t::ts,x::l,i+1,_,_,h1,h2=>fun n hn=>by
   rw [DataW.weightsEach,F5];exact .inr (nV (i:=i) Em (by simpa using h2) n hn)
theorem OC {ts us:List TypeId}{l m:List (DataW Hd)}{i:Nat}{t:TypeId}{d:DataW Hd}(h:(DataW.weightsEach P (ts++us) (l++m)).all (· ≤reachBytes)=true)(h1:ts[i]?=some t)(h2:l[i]?=some d):Fits P t d:=by
 intro n hn;have h3:(ts++us)[i]?=some t:=(by rw [FL (FD.1 h1).1];exact h1);have h4:(l++m)[i]?=some d:=(by rw [FL (FD.1 h2).1];exact h2);have:=GB.1 h n (nV h3 h4 n hn);exact of_decide_eq_true this
theorem s9 {e:TypeId}{elems spare:List (DataW Hd)}(ht:P.underlying T=some (.slice e))(h:Fits P T (.slice elems spare))(hb:0<P.bytesOf e):elems.length≤140737488355328∧∀d∈elems,Fits P e d:=by
 unfold Fits at h;rw [DataW.weights,ht] at h;refine ⟨?_,fun d hd n hn=>h n (Gr _ (H7 _ (s8 hd n hn)))⟩;have h1:=h _ (GK ..);have h2:elems.length*1≤(elems.length+spare.length)*P.bytesOf e:=Nat.mul_le_mul Jo hb;unfold reachBytes at h1;omega
theorem ta {fs:Array Field}{parts:List (DataW Hd)}(ht:P.underlying T=some (.struct fs))(h:Fits P T (.agg parts)){i:Nat}{f:Field}{d:DataW Hd}(hf:fs[i]?=some f)(hd:parts[i]?=some d):Fits P f.type d:=by
 unfold Fits at h;rw [DataW.weights,ht] at h;exact fun n hn=>h n (nV (i:=i) (by rw [FW,GW,hf];rfl) hd n hn)
structure Cod (P:Program) (T:TypeId) (α:Type) where
 es:Nat
 rd:Ld→List Value→α→Prop
 size:P.cellsOf T=es
 len:∀H cs x,rd H cs x→cs.length=es
 stay:∀(H H':Ld) cs x,rd H cs x→(∀b,b<H.size→H'[b]?=H[b]?)→rd H' cs x
 open_:∀{Hd:Type}(enc:TypeId×Value→Hd) (w:World) (fuel:Nat) (cs:List Value) (y:DataW Hd×List MemPlace),DataW.trod enc P w 0 (fun _=>true) true fuel T cs=some y→Fits P T y.1→∃x,rd w.heap cs x

def Cod.int {P:Program}{T:TypeId}(k:IntKind)(ht:P.underlying T=some (.int k))(hs:P.cellsOf T=1):Cod P T Int where
 es:=1
 rd:=fun _ cs n=>cs=[.int k n]∧(Lit.int k n).wf=true
 size:=hs
 len:=by rintro _ _ _ ⟨rfl,_⟩;rfl
 stay:=fun _ _ _ _ h _=>h
 open_:=fun enc w fuel cs y h _=>by
  obtain ⟨n,h1,_,h2⟩:=DataW.trod_int ht h;exact ⟨n,h1,h2⟩

def Cod.bool {P:Program}{T:TypeId}(ht:P.underlying T=some .bool)(hs:P.cellsOf T=1):Cod P T Bool where
 es:=1
 rd:=fun _ cs n=>cs=[.bool n]
 size:=hs
 len:=by rintro _ _ _ rfl;rfl
 stay:=fun _ _ _ _ h _=>h
 open_:=fun enc w fuel cs y h _=>by
  obtain ⟨n,h1,_⟩:=DataW.trod_bool ht h;exact ⟨n,h1⟩

theorem lG {a:Addr}(h:w.cells? 0 a n=some cs)(hn:0<n):a.spot=none∧a.block<w.heap.size∧At w.heap a.block a.off cs:=by
 obtain ⟨_,hl,hc⟩:=World.cells?_some h;have h0:=hc 0 hn;have hs:cs[0]?=some (cs[0]' DB):=FB Jo;rw [hs] at h0;have hadd0:a.add 0=a:=rfl;rw [hadd0] at h0;obtain ⟨b,o,s⟩:=a
 have hsp:s=none:=by
  cases s with
  | none=>rfl
  | some x=>
    unfold World.cell? at h0;split at h0<;>simp at h0
 subst hsp;refine ⟨rfl,?_,fun j u hj=>?_⟩
 · rcases Hc b w.heap.size with h|h
   · exact h
   · unfold World.cell? at h0;simp [Hl h] at h0
 · have hlt:=(FD.1 hj).1;have:=hc j Jo;rw [PO,hj,s7] at this;exact this

def Cod.slice {P:Program}{T e:TypeId}{α:Type}(c:Cod P e α)(ht:P.underlying T=some (.slice e))(hs:P.cellsOf T=1)(hes:0<c.es)(hby:decide (0<P.bytesOf e)=true):Cod P T (List α) where
 es:=1
 rd:=fun H cs xs=>∃v css,cs=[v]∧M0 H c.es v (fun _=>True) css∧css.length=xs.length∧xs.length≤140737488355328∧∀(m:Nat) (x:α),xs[m]?=some x→∃d,css[m]?=some d∧c.rd H d x
 size:=hs
 len:=by rintro _ _ _ ⟨v,css,rfl,_⟩;rfl
 stay:=by
  rintro H H' _ xs ⟨v,css,rfl,h1,h2,h3,h4⟩ hH;exact ⟨v,css,rfl,h1.of_same fun b _ hb=>hH b hb,h2,h3,fun m x hm=>by obtain ⟨d,h5,h6⟩:=h4 m x hm;exact ⟨d,h5,c.stay _ _ _ _ h6 hH⟩⟩
 open_ :=by
  intro Hd enc w fuel cs y h hfit;rcases Ku ht h with ⟨rfl,_⟩|⟨a,len,cap,m,n,D,Pl,rfl,_,hl,hm,hmm,hy,hi⟩
  · exact Cf
  · have hmc:m=cap:=by simpa using hmm
    subst hmc;rw [hy] at hfit;obtain ⟨hlen,hel0⟩:=s9 ht hfit (of_decide_eq_true hby);simp only [FF,Ix] at hlen
    -- each element
    have hel:∀i,i<len→∃(d:List Value) (x:α),w.cells? 0 (a.add (i*c.es)) c.es=some d∧c.rd w.heap d x:=by
     intro i hi';obtain ⟨d,h1,h2⟩:=hi i Jo;rw [c.size] at h1;obtain ⟨x,hx⟩:=c.open_ enc w n d _ h2 (hel0 _ (Gm.2 ⟨i,Gp.2 hi',rfl⟩));exact ⟨d,x,h1,hx⟩
    have build:∀n,n≤len→∃(css:List (List Value)) (xs:List α),css.length=n∧xs.length=n∧
     ∀m,m<n→∃d x,css[m]?=some d∧xs[m]?=some x∧w.cells? 0 (a.add (m*c.es)) c.es=some d∧c.rd w.heap d x:=by
     intro n
     induction n with
     | zero=>intro _;exact ⟨[],[],rfl,rfl,fun m hm=>absurd hm Jo⟩
     | succ n ih=>
       intro hn;obtain ⟨css,xs,h1,h2,h3⟩:=ih Jo;obtain ⟨d,x,h4,h5⟩:=hel n Jo;refine ⟨css++[d],xs++[x],by simp [h1],by simp [h2],fun m hm=>?_⟩;by_cases hmn:m=n
       · subst hmn;exact ⟨d,x,by rw [FI Jo,h1];simp,by rw [FI Jo,h2];simp,h4,h5⟩
       · obtain ⟨d',x',g1,g2,g3,g4⟩:=h3 m Jo;exact ⟨d',x',by rw [FL Jo];exact g1,by rw [FL Jo];exact g2,g3,g4⟩
    obtain ⟨css,xs,h1,h2,h3⟩:=build len (F6 _);refine ⟨xs, .slice (some a) len m,css,rfl,⟨?_,some a,m,by rw [h1],Jo,?_⟩,Jo,Jo,?_⟩
    · intro d hd;obtain ⟨i,hi'⟩:=GH.1 hd;have hlt:=(FD.1 hi').1;obtain ⟨d',x',g1,g2,g3,g4⟩:=h3 i Jo;rw [hi'] at g1;simp only [FU] at g1;subst g1;exact c.len _ _ _ g4
    · rcases I5 len with h0|h0
      · exact .inl (GV Jo)
      · obtain ⟨d0,x0,_,_,g3,_⟩:=h3 0 h0;obtain ⟨hsp,hbl,_⟩:=lG g3 hes;have ha0:a.add (0*c.es)=a:=(by rw [II];rfl);rw [ha0] at hsp hbl;obtain ⟨b,o,s⟩:=a;simp only at hsp;subst hsp;refine .inr ⟨b,o,rfl,trivial,hbl,fun i d hd=>?_⟩;have hlt:=(FD.1 hd).1;obtain ⟨d',x',g1,g2,g3,g4⟩:=h3 i Jo;rw [hd] at g1;simp only [FU] at g1;subst g1;rw [PO] at g3;exact (lG g3 hes).2.2
    · intro i x hx;have hlt:=(FD.1 hx).1;obtain ⟨d',x',g1,g2,g3,g4⟩:=h3 i Jo;rw [hx] at g2;simp only [FU] at g2;subst g2;exact ⟨d',g1,g4⟩

def fieldAt (P:Program)(T:TypeId)(i:Nat):Option (Nat×Nat×TypeId):=match P.underlying T with
 | some (.struct fs)=>(fs[i]?).map fun f=>(f.offset,P.cellsOf f.type,f.type)
 | _=>none

theorem tc {enc:TypeId×Value→Hd}{fuel:Nat}{y:DataW Hd×List MemPlace}(h:DataW.trod enc P w 0 (fun _=>true) true fuel T cs=some y)
 {i o:Nat}{t:TypeId}(hf:fieldAt P T i=some (o,s,t))(hfit:Fits P T y.1):cs.length=P.cellsOf T∧∃n z,DataW.trod enc P w 0 (fun _=>true) true n t ((cs.drop o).take s)=some z∧Fits P t z.1:=by
 unfold fieldAt at hf;split at hf
 · rename_i fs hu
   simp only [Hi,Hv] at hf;obtain ⟨f,hf,rfl,rfl,rfl⟩:=hf;obtain ⟨xs,n,_,hy,hl,hx,hall⟩:=DataW.trod_struct hu h;have:=hall i f hf;have hlt:=(Ip.1 hf).1;refine ⟨hl,n,xs[i]' DB,?_,?_⟩
   · rw [this,FB Jo]
   · rw [hy] at hfit;exact ta hu hfit hf Fk
 · cases hf

end
section

theorem Sl.oneC {H:Ld}{v:Value}{F:Nat→Prop}(h:Sl H T es v F css):Go.Lir.oneC v=true:=by
 obtain ⟨a,c,rfl⟩:=h.shape;rfl
theorem M0.oneC {H:Ld}{v:Value}{F:Nat→Prop}(h:M0 H es v F css):Go.Lir.oneC v=true:=by
 obtain ⟨a,c,rfl⟩:=h.shape;rfl
abbrev Kj:=@M0.oneC
theorem Ns (f:α→β)(l:List α)(d:α)(h:m<l.length):(l.map f)[m]?=some (f (l.getD m d)):=by
 simp [FW,FE,FB h]
theorem Uh {l:List α}{d:α}(h:m<l.length):l[m]?=some (l.getD m d):=by
 simp [FE,FB h]
theorem td {l:List α}(d:α){i:Nat}(h:i<l.length):l.take (i+1)=l.take i++[l.getD i d]:=by
 rw [Iy,FB h,FE,FB h];rfl
theorem Ui {l:List α}{d:α}{i:Nat}(h:i<l.length):l.getD i d∈l:=by
 rw [FE,FB h];exact HM h
theorem Qc {n i:Int}(h:i<n):(n - (i+1)).toNat<(n - i).toNat:=by omega
theorem te {l m:List α}(d:α)(h:l.length=m.length)(h2:∀j<l.length,l.getD j d=m.getD j d):l=m:=by
 apply Ju h;intro j h3 h4;have:=h2 j h3
 simpa [FE,FB h3,FB h4] using this
theorem ck [DecidableEq α]:∀{a b:List α},a.Nodup→(∀x∈a,x∈b)→a.length≤b.length:=by
 intro a
 induction a with
 | nil=>intro b _ _;simp
 | cons x a ih=>
   intro b hn hs;obtain ⟨h1,h2⟩:=HC.1 hn;have hx:=hs x Js;have:=ih (b:=b.erase x) h2 fun y hy=>(List.mem_erase_of_ne (fun e=>by subst e;exact h1 hy)).2 (hs y (by simp [hy]));rw [JR hx] at this;have hp:=HV hx;simp only [FP];omega
theorem map_set (f:α→β)(l:List α)(m:Nat)(x:α):(l.map f).set m (f x)=(l.set m x).map f:=by
 simp [G8]
theorem nW (h:LY w.heap b T [u])(ho:oneC u=true):Ud P w 1 (.slice (some ⟨b,0,none⟩) 1 1) [[u]]:=
 (Jf (css:=[[u]]) h rfl Js rfl).src (by simpa using ho)
theorem X8 (h:LY w.heap b T c)(hn:c.length=n)(ho:∀u∈c,oneC u=true):Ud P w n (.slice (some ⟨b,0,none⟩) 1 1) [c]:=
 (Jf (css:=[c]) h Js (by simpa using hn) rfl).src (by simpa using ho)
def iv:Value→Int
 | .int _ n=>n
 | _=>0
def QH (b:Bool):List Value:=[.bool b]
def Qs (n:Int):List Value:=[.int .i64 n]
theorem Qcp {l:List Int}:∀c∈l.map Qs,∀u∈c,oneC u=true:=by
 intro c hc u hu;obtain ⟨n,_,rfl⟩:=Gm.1 hc;simp [Qs] at hu;subst hu;rfl
theorem fX {F:Nat→Prop}(hfr:Fr NF w0 w)(hlow:∀b,F b→w0.heap.size≤b)(hf:Fr F w w'):Fr NF w0 w':=hfr.trans hf (fun b hb hF=>absurd (hlow b hF) Jo)
theorem X9 {ρ:La}{o:Nat}{x:Operand}{v:Value}(hx:ρ.ev x= .pointer (some ⟨b,o,none⟩))(hb:LY w.heap b T cs)(hv:cs[o]?=some v):NS P ρ w ⟨none, .load1 d x⟩ v:=⟨_,hx,hb.cell hv⟩
theorem Uj {ρ:La}{o:Nat}{x:Operand}(hx:ρ.ev x= .pointer (some ⟨b,o,none⟩))(hb:LY w.heap b T cs)(hv:(cs.drop o).take n=vs)(hl:vs.length=n):NS P ρ w ⟨none, .loadn d n x⟩ (.agg ⟨vs⟩):=⟨_,vs,hx,hb.cells hv hl,rfl⟩
theorem Ya {ρ:La}{b:Bool}{o:LO}{v:Value}(hw:Xl (ρ s) b=false)(hv:v=undef):NS P ρ w ⟨some (s,b),o⟩ v:=by simp [NS,hw,hv]
theorem fY {ρ:La}{b:Bool}{o:LO}{v:Value}(hw:ρ s= .bool b)(h:NS P ρ w ⟨none,o⟩ v):NS P ρ w ⟨some (s,b),o⟩ v:=by simp only [NS,hw,Xl,beq_self_eq_true,if_true];exact h
theorem Fr.after {F:Nat→Prop}(h:Fr F w w')(k:Fr G w' w'')(hs:∀b,b<w.heap.size→G b→F b):Fr F w w'':=h.trans k hs
theorem Fr.then0 {F:Nat→Prop}(h:Fr F w w')(k:Fr NF w' w''):Fr F w w'':=h.trans k fun _ _ h=>h.elim
theorem Fr.into {F:Nat→Prop}(h:Fr G w w')(hs:∀x,G x→F x):Fr F w w':=h.mono fun x _ hx=>hs x hx
theorem Fr.cat {F:Nat→Prop}(h:Fr F w w')(k:Fr F w' w''):Fr F w w'':=h.trans k fun _ _ h=>h
structure Step (F F':Nat→Prop) (w w':World):Prop where
 fr:Fr F w w'
 sub:∀b,F' b→F b∨w.heap.size≤b
theorem Step.same {F:Nat→Prop}(h:Fr F w w'):Step F F w w':=⟨h,fun _ h=> .inl h⟩
abbrev IF:=@Step.same
theorem Step.out {F:Nat→Prop}(h:Step F F' w w')(hb:b<w.heap.size)(hn:¬F b):¬F' b:=fun hF=>(h.sub b hF).elim hn (fun hz=>absurd hz Jo)
theorem Step.trans {F F'':Nat→Prop}(h:Step F F' w w')(k:Step F' F'' w' w''):Step F F'' w w'':=
 ⟨h.fr.trans k.fr fun b hb hF=>(h.sub b hF).elim id (fun hz=>absurd hz Jo),fun b hb=>(k.sub b hb).elim (h.sub b) (fun hz=> .inr (Hj h.fr.size hz))⟩
theorem Step.low {F:Nat→Prop}{z:Nat}(h:Step F F' w w')(hl:∀b,F b→z≤b)(hz:z≤w.heap.size):∀b,F' b→z≤b:=fun b hb=>(h.sub b hb).elim (hl b) (fun h=>Hj hz h)
theorem Step.apart {F:Nat→Prop}(h:Step F F' w w')(hd:∀b,F b→¬G b)(hG:∀b,G b→b<w.heap.size):∀b,F' b→¬G b:=fun b hb hg=>(h.sub b hb).elim (fun hF=>hd b hF hg) (fun hz=>absurd (hG b hg) Jo)
structure Objs (A:Ld→(Nat→Prop)→Prop):Prop where
 fr:∀{w w':World}{F G:Nat→Prop},A w.heap F→Fr G w w'→(∀b,F b→¬G b)→A w'.heap F
 lt:∀{H:Ld}{F:Nat→Prop},A H F→∀b,F b→b<H.size
structure Two (w0 w:World) (A B:Ld→(Nat→Prop)→Prop) (F G:Nat→Prop):Prop where
 oa:Objs A
 ob:Objs B
 p:A w.heap F
 q:B w.heap G
 d:∀b,F b→¬G b
 F0:∀b,F b→w0.heap.size≤b
 G0:∀b,G b→w0.heap.size≤b
 fr:Fr NF w0 w
theorem Two.fr0 {A B:Ld→(Nat→Prop)→Prop}{F:Nat→Prop}(h:Two w0 w A B F G)(hf:Fr NF w w'):Two w0 w' A B F G:=
 ⟨h.oa,h.ob,h.oa.fr h.p hf (fun _ _ h=>h),h.ob.fr h.q hf (fun _ _ h=>h),h.d,h.F0,h.G0,h.fr.then0 hf⟩
theorem Two.own {A B:Ld→(Nat→Prop)→Prop}{F:Nat→Prop}{x:Nat}(h:Two w0 w A B F G)(hf:Fr (· =x) w w')(h0:w0.heap.size≤x)(hF:¬F x)(hG:¬G x):Two w0 w' A B F G:=
 ⟨h.oa,h.ob,h.oa.fr h.p hf (fun b hb e=>hF (e ▸ hb)),h.ob.fr h.q hf (fun b hb e=>hG (e ▸ hb)),h.d,h.F0,h.G0,fX h.fr (fun b hb=>by rw [hb];exact h0) hf⟩
theorem Two.sp {A A' B:Ld→(Nat→Prop)→Prop}{F:Nat→Prop}(h:Two w0 w A B F G)(oa:Objs A')(hp:A' w'.heap F')(hs:Step F F' w w'):Two w0 w' A' B F' G:=
 ⟨oa,h.ob,hp,h.ob.fr h.q hs.fr (fun b hb hF=>h.d b hF hb),hs.apart h.d (h.ob.lt h.q),hs.low h.F0 h.fr.size,h.G0,fX h.fr h.F0 hs.fr⟩
theorem iM {l:List α}{i:Nat}{x d:α}(hi:i<l.length):(l.set i x).getD j d=if i=j then x else l.getD j d:=by
 simp only [FE,G9];by_cases h:i=j
 · subst h;simp [hi]
 · simp [h]
theorem nX:∀{l:List GO}{Q Q':QT}{ρ:La}{w:World},(∀e ρ w,Q e ρ w→Q' e ρ w)→Q0 P l Q ρ w→Q0 P l Q' ρ w:=by
 intro l
 induction l with
 | nil=>intro Q Q' ρ w h hw;exact h _ _ _ hw
 | cons g l ih=>
   intro Q Q' ρ w h hw;obtain ⟨g,o⟩:=g
   cases g with
   | none=>exact Cc
   | some p=>
     obtain ⟨s,b⟩:=p;simp only [Q0] at hw ⊢;by_cases hs:Xl (ρ s) b=true
     · rw [if_pos hs] at hw ⊢;exact Cc
     · rw [if_neg hs] at hw ⊢;exact ih h hw
theorem lH {K K':KT}{Q Q':QT}(hk:∀ρ w,K ρ w→K' ρ w)(h:∀e ρ w,Q e ρ w→Q' e ρ w):∀e ρ w,Qr K Q e ρ w→Qr K' Q' e ρ w:=by
 intro e ρ w hq
 cases e with
 | normal=>exact hk _ _ hq
 | _=>exact h _ _ _ hq
theorem LC.wp_mono:∀{c:LC}{Q Q':QT}{ρ:La}{w:World},(∀e ρ w,Q e ρ w→Q' e ρ w)→c.wp P Q ρ w→c.wp P Q' ρ w:=by
 intro c
 induction c with
 | skip=>intro Q Q' ρ w h hw;exact h _ _ _ hw
 | ops l=>intro Q Q' ρ w h hw;exact nX h hw
 | draw gs es=>intro Q Q' ρ w h hw;exact fun l hl=>nX h (hw l hl)
 | seq a b iha ihb=>intro Q Q' ρ w h hw;exact iha (lH (fun ρ w hb=>ihb h hb) h) hw
 | cond c a b iha ihb=>
   intro Q Q' ρ w h hw;obtain ⟨t,hc,hw⟩:=hw;refine ⟨t,hc,?_⟩;cases t
   · exact ihb h hw
   · exact iha h hw
 | block id a ih=>
   intro Q Q' ρ w h hw;refine ih ?_ hw;intro e ρ w hq
   cases e with
   | exit id'=>
     simp only [Qj] at hq ⊢;by_cases hs:id'=id
     · rw [if_pos hs] at hq ⊢;exact h _ _ _ hq
     · rw [if_neg hs] at hq ⊢;exact h _ _ _ hq
   | _=>exact h _ _ _ hq
 | loop a ih=>
   intro Q Q' ρ w h hw;obtain ⟨I,μ,h0,hr⟩:=hw;exact ⟨I,μ,h0,fun ρ w hI=>ih (lH (fun _ _ hk=>hk) h) (hr ρ w hI)⟩
 | exit id=>intro Q Q' ρ w h hw;exact h _ _ _ hw
 | ret=>intro Q Q' ρ w h hw;exact h _ _ _ hw
 | bad=>intro Q Q' ρ w h hw;exact hw.elim

def ND (es:List (List Nat))(a b:Nat):List (List Nat):=es.set b (a::es.getD b [])
theorem iN {es:List (List Nat)}{a i:Nat}(h:i≠b):(ND es a b).getD i []=es.getD i []:=by
 simp [ND,FE,I0 h]
theorem yT {es:List (List Nat)}{a:Nat}(h:b<es.length):(ND es a b).getD b []=a::es.getD b []:=by
 simp [ND,FE,h]
theorem tf {es:List (List Nat)}{a:Nat}(hb:b<es.length):∀{l X:List Nat},a∈X→SQ es X l→SQ (ND es a b) X l:=by
 intro l
 induction l with
 | nil=>intro X _ h i hi;exact h i (by simpa [ND] using hi)
 | cons i l ih=>
   intro X ha h;obtain ⟨h1,h2,h3,h4⟩:=h;refine ⟨by simpa [ND] using h1,h2,?_,ih (Gr _ ha) h4⟩;by_cases he:i=b
   · subst he;rw [yT hb];intro e hm
     rcases FX.1 hm with rfl|hm
     · exact ha
     · exact h3 e hm
   · rw [iN he];exact h3
theorem SW {es:List (List Nat)}{a:Nat}(ha:a<es.length)(hb:b<es.length)(hab:a≠b):∀{l X:List Nat},a∉X→b∉X→SQ es X l→SQ (ND es a b) X l∨SQ (ND es b a) X l:=by
 intro l
 induction l with
 | nil=>intro X h1 _ h;exact absurd (h a ha) h1
 | cons i l ih=>
   intro X hA hB h;obtain ⟨h1,h2,h3,h4⟩:=h;by_cases hia:i=a
   · subst hia;exact .inl ⟨by simpa [ND] using h1,h2,by rw [iN hab];exact h3,tf hb Js h4⟩
   · by_cases hib:i=b
     · subst hib;exact .inr ⟨by simpa [ND] using h1,h2,by rw [iN (I0 hab)];exact h3,tf ha Js h4⟩
     · rcases ih (X:=i::X) (by simp [I0 hia,hA]) (by simp [I0 hib,hB]) h4 with h|h
       · exact .inl ⟨by simpa [ND] using h1,h2,by rw [iN hib];exact h3,h⟩
       · exact .inr ⟨by simpa [ND] using h1,h2,by rw [iN hia];exact h3,h⟩

section
variable {P:Program}{l:List GO}{Q:QT}{ρ:La}{w:World}
theorem Ru {gs:List GO}{es:List (List Nat)}(a b:Nat)(hab:(decide (a<es.length) && decide (b<es.length) && !(a==b))=true)(h1:(LC.draw gs (ND es a b)).wp P Q ρ w)(h2:(LC.draw gs (ND es b a)).wp P Q ρ w):(LC.draw gs es).wp P Q ρ w:=by
 simp only [FN,decide_eq_true_eq,G7,beq_eq_false_iff_ne,ne_eq] at hab;intro l hl;rcases SW hab.1.1 hab.1.2 hab.2 Js Js hl with h|h
 · exact h1 l h
 · exact h2 l h
theorem yU (k:Nat){e:TypeId}{a:Option Addr}{c:Nat}(ht:P.underlying T=some (.slice e)):(Op.equalIn (k+1) T (.slice a n c) (.slice none 0 0)).run P w0= .ok a.isNone w0:=by
 simp only [Op.equalIn,F7,Q8 P T _ w0 ht,FO];cases a<;>simp [Gk]
theorem yV {e:TypeId}{a:Option Addr}{c:Nat}(ht:P.underlying T=some (.slice e)):(Op.equal T (.slice a n c) (.slice none 0 0)).run P w0= .ok a.isNone w0:=yU 9999 ht
theorem fZ {e:TypeId}{x:Operand}{a:Option Addr}{c:Nat}(ht:P.underlying T=some (.slice e))(hx:ρ.ev x= .slice a n c)(hy:ρ.ev y= .slice none 0 0)
 (h:Q0 P l Q (upd ρ d (.bool a.isNone)) w):Q0 P (⟨none, .bin d .eql T x y⟩::l) Q ρ w:=
 ⟨_,fun w0=>by
   rw [hx,hy];simp [eqGuard,binOp,yV ht],h⟩
theorem nY {e:Nat}(hel:N6 P Ts=some (e,es,nb,z))
 (h:∀v' w',Fr NF w w'→Sl w'.heap e es v' (· =w.heap.size) []→w'.heap.size=w.heap.size+1→Q0 P l Q (upd ρ d v') w'):
 Q0 P (⟨none, .raw ⟨some d, .buildSlice Ts 0 #[], Ty, "", #[], none⟩⟩ :: l) Q ρ w := by
 obtain ⟨i,zv,hu,hi,hz,rfl,rfl,hzc,hes,hnb,hzl⟩:=lF hel;refine Nq (v:= .slice (some ⟨w.heap.size,0,none⟩) 0 0) (w':=w.alloc (.cells ⟨[]⟩ e)) ?_ ?_
 · simp only [execOp,Instr.buildSlice,F7,Q8 P Ts _ w hu,FO,RG P e i.size w (by simp [OB,hi])];simp [Instr.fill,newRow];have hr0:Array.range 0=#[]:=rfl;rw [hr0,Array.map_empty]
 · exact h _ _ (bP w _) (Jf (css:=[]) (fV w [] e) rfl Js rfl) Js
theorem Sa {a b:LC}(J:La→World→Prop)(ha:a.wp P (Qr J Q) ρ w)(hb:∀ρ w,J ρ w→b.wp P Q ρ w):(LC.seq a b).wp P Q ρ w:=
 Qo (LC.wp_mono (lH hb fun _ _ _ h=>h) ha)
theorem cm {x:Operand}(hx:ρ.ev x= .pointer (some ⟨b,0,none⟩))(h:Q0 P l Q (upd ρ d (.pointer (some ⟨b,off,none⟩))) w):Q0 P (⟨none, .fld d x off⟩::l) Q ρ w:=
 aq hx (by rw [Hb];exact h)
theorem nZ {x:Operand}{v:Value}(hx:ρ.ev x=v)(hc:v.cells=⟨cs⟩)(h:∀b w',b=w.heap.size→Fr NF w w'→w'.heap.size=w.heap.size+1→LY w'.heap b T cs→Q0 P l Q (upd ρ d (.pointer (some ⟨b,0,none⟩))) w'):
 Q0 P (⟨none, .box d T x⟩::l) Q ρ w:=iu (by rw [hx];exact hc) h
theorem od {x:Operand}{o:Nat}{v:Value}(hx:ρ.ev x= .pointer (some ⟨b,o,none⟩))(hy:ρ.ev y=v)(hb:LY w.heap b T cs)(hi:o<cs.length)(ho:oneC v=true)
 (hc:cs.set o v=cs')(h:∀w',Fr (· =b) w w'→w'.heap.size=w.heap.size→LY w'.heap b T cs'→Q0 P l Q ρ w'):Q0 P (⟨none, .store1 x y⟩::l) Q ρ w:=by
 subst hc;exact sR hx hy hb hi ho h
theorem tg {x:Operand}{o:Nat}(hx:ρ.ev x= .pointer (some ⟨b,o,none⟩))(hy:ρ.ev y= .agg ⟨vs⟩)(hn:vs.length=n)(hb:LY w.heap b T cs)(hi:o+n≤cs.length)
 (ho:∀v∈vs,oneC v=true)(hc:cs.take o++(vs++cs.drop (o+n))=cs')(h:∀w',Fr (· =b) w w'→w'.heap.size=w.heap.size→LY w'.heap b T cs'→Q0 P l Q ρ w'):Q0 P (⟨none, .storen n x y⟩::l) Q ρ w:=by
 subst hc;exact sS hx hy hn hb hi ho h
theorem cp {m:Nat}{x i:Operand}{v:Value}{F:Nat→Prop}(hx:ρ.ev x=v)(hi:ρ.ev i= .int k (m:Int))(hs:Sl w.heap T es v F css)(h1:m<css.length)
 (h:∀b o,El w.heap T es v F css m b o→Q0 P l Q (upd ρ d (.pointer (some ⟨b,o,none⟩))) w):Q0 P (⟨none, .idx d es x i⟩::l) Q ρ w:=nS hx hi hs Jo Jo h
theorem lI (hf:Od z []=some cs)(h:Q0 P l Q (upd ρ d (.agg ⟨cs⟩)) w):
 Q0 P (⟨none, .build d z []⟩::l) Q ρ w:=by
 exact bZ hf h
theorem oe (h0:ρ.ev x0=v0)(hf:Od z [(o0,n0,v0)]=some cs)(h:Q0 P l Q (upd ρ d (.agg ⟨cs⟩)) w):
 Q0 P (⟨none, .build d z [(o0,n0,x0)]⟩::l) Q ρ w:=by
 subst h0;exact bZ hf h
theorem RJ (h0:ρ.ev x0=v0)(hf:Od z [(o0,n0,v0)]=some cs)
 (h:∀b w',b=w.heap.size→Fr NF w w'→w'.heap.size=w.heap.size+1→LY w'.heap b T cs→Q0 P l Q (upd ρ d (.slice (some ⟨b,0,none⟩) n n)) w'):
 Q0 P (⟨none, .buildS d T n z [(o0,n0,x0)]⟩::l) Q ρ w:=by
 subst h0;exact nM hf h
theorem iO (h0:ρ.ev x0=v0)(h1:ρ.ev x1=v1)(hf:Od z [(o0,n0,v0),(o1,n1,v1)]=some cs)(h:Q0 P l Q (upd ρ d (.agg ⟨cs⟩)) w):
 Q0 P (⟨none, .build d z [(o0,n0,x0),(o1,n1,x1)]⟩::l) Q ρ w:=by
 subst h0 h1;exact bZ hf h
theorem lJ (h0:ρ.ev x0=v0)(h1:ρ.ev x1=v1)(hf:Od z [(o0,n0,v0),(o1,n1,v1)]=some cs)
 (h:∀b w',b=w.heap.size→Fr NF w w'→w'.heap.size=w.heap.size+1→LY w'.heap b T cs→Q0 P l Q (upd ρ d (.slice (some ⟨b,0,none⟩) n n)) w'):
 Q0 P (⟨none, .buildS d T n z [(o0,n0,x0),(o1,n1,x1)]⟩::l) Q ρ w:=by
 subst h0 h1;exact nM hf h
theorem Uk (h0:ρ.ev x0=v0)(h1:ρ.ev x1=v1)(h2:ρ.ev x2=v2)(hf:Od z [(o0,n0,v0),(o1,n1,v1),(o2,n2,v2)]=some cs)(h:Q0 P l Q (upd ρ d (.agg ⟨cs⟩)) w):
 Q0 P (⟨none, .build d z [(o0,n0,x0),(o1,n1,x1),(o2,n2,x2)]⟩::l) Q ρ w:=by
 subst h0 h1 h2;exact bZ hf h
theorem yW (h0:ρ.ev x0=v0)(h1:ρ.ev x1=v1)(h2:ρ.ev x2=v2)(hf:Od z [(o0,n0,v0),(o1,n1,v1),(o2,n2,v2)]=some cs)
 (h:∀b w',b=w.heap.size→Fr NF w w'→w'.heap.size=w.heap.size+1→LY w'.heap b T cs→Q0 P l Q (upd ρ d (.slice (some ⟨b,0,none⟩) n n)) w'):
 Q0 P (⟨none, .buildS d T n z [(o0,n0,x0),(o1,n1,x1),(o2,n2,x2)]⟩::l) Q ρ w:=by
 subst h0 h1 h2;exact nM hf h
theorem Ul (h0:ρ.ev x0=v0)(h1:ρ.ev x1=v1)(h2:ρ.ev x2=v2)(h3:ρ.ev x3=v3)(hf:Od z [(o0,n0,v0),(o1,n1,v1),(o2,n2,v2),(o3,n3,v3)]=some cs)(h:Q0 P l Q (upd ρ d (.agg ⟨cs⟩)) w):
 Q0 P (⟨none, .build d z [(o0,n0,x0),(o1,n1,x1),(o2,n2,x2),(o3,n3,x3)]⟩::l) Q ρ w:=by
 subst h0 h1 h2 h3;exact bZ hf h
theorem Um {o4 n4:Nat}{x4:Operand}{v4:Value}(h0:ρ.ev x0=v0)(h1:ρ.ev x1=v1)(h2:ρ.ev x2=v2)(h3:ρ.ev x3=v3)(h4:ρ.ev x4=v4)(hf:Od z [(o0,n0,v0),(o1,n1,v1),(o2,n2,v2),(o3,n3,v3),(o4,n4,v4)]=some cs)(h:Q0 P l Q (upd ρ d (.agg ⟨cs⟩)) w):
 Q0 P (⟨none, .build d z [(o0,n0,x0),(o1,n1,x1),(o2,n2,x2),(o3,n3,x3),(o4,n4,x4)]⟩::l) Q ρ w:=by
 subst h0 h1 h2 h3 h4;exact bZ hf h
theorem yX {o4 n4 o5 n5 o6 n6 o7 n7 o8 n8 o9 n9 o10 n10 o11 n11 o12 n12 o13 n13 o14 n14:Nat}{x4 x5 x6 x7 x8 x9 x10 x11 x12 x13 x14:Operand}{v4 v5 v6 v7 v8 v9 v10 v11 v12 v13 v14:Value}(h0:ρ.ev x0=v0)(h1:ρ.ev x1=v1)(h2:ρ.ev x2=v2)(h3:ρ.ev x3=v3)(h4:ρ.ev x4=v4)(h5:ρ.ev x5=v5)(h6:ρ.ev x6=v6)(h7:ρ.ev x7=v7)(h8:ρ.ev x8=v8)(h9:ρ.ev x9=v9)(h10:ρ.ev x10=v10)(h11:ρ.ev x11=v11)(h12:ρ.ev x12=v12)(h13:ρ.ev x13=v13)(h14:ρ.ev x14=v14)(hf:Od z [(o0,n0,v0),(o1,n1,v1),(o2,n2,v2),(o3,n3,v3),(o4,n4,v4),(o5,n5,v5),(o6,n6,v6),(o7,n7,v7),(o8,n8,v8),(o9,n9,v9),(o10,n10,v10),(o11,n11,v11),(o12,n12,v12),(o13,n13,v13),(o14,n14,v14)]=some cs)(h:Q0 P l Q (upd ρ d (.agg ⟨cs⟩)) w):
 Q0 P (⟨none, .build d z [(o0,n0,x0),(o1,n1,x1),(o2,n2,x2),(o3,n3,x3),(o4,n4,x4),(o5,n5,x5),(o6,n6,x6),(o7,n7,x7),(o8,n8,x8),(o9,n9,x9),(o10,n10,x10),(o11,n11,x11),(o12,n12,x12),(o13,n13,x13),(o14,n14,x14)]⟩::l) Q ρ w:=by
 subst h0 h1 h2 h3 h4 h5 h6 h7 h8 h9 h10 h11 h12 h13 h14;exact bZ hf h
end


theorem iP {l:List α}(h:l.length=1):∃a,l=[a]:=by
 match l,h with
 | [a],_=>exact ⟨a,rfl⟩
end
section
section
variable {P:Program}{T t0 t1 t2 t3 t4:TypeId}{α β γ δ ε:Type}{o0 s0 o1 s1 o2 s2 o3 s3 o4 s4:Nat}
end
end
end Go.Lir
