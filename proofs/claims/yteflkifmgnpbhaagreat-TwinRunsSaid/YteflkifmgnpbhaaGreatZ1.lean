
/- Lemmas of the proof, part 1: contracts. -/
import Derived.WalkKit
import Derived.Below
import Derived.ProofKit
import Derived.Deep.Slices
import Derived.DeepKeys
import Derived.Laws.StructEq
namespace Go.Lir
abbrev Qin:=@if_neg
abbrev Qip:=@if_pos
end Go.Lir
namespace Go.Lir
abbrev EI:=@List.getElem?_eq_getElem
abbrev EJ:=@List.getElem?_eq_some_iff
abbrev EK:=@List.mem_of_getElem?
abbrev EL:=@List.getD_eq_getElem?_getD
abbrev EM:=@List.length_map
abbrev EN:=@List.forall_mem_cons
abbrev EO:=@List.length_append
abbrev EP:=@Option.some.inj
abbrev ER:=@List.getElem?_append_right
abbrev ES:=@List.drop_of_length_le
abbrev ET:=@List.not_mem_nil
abbrev EU:=@List.getElem?_append_left
abbrev EV:=@List.set_cons_zero
abbrev EW:=@Bool.and_eq_true
abbrev EX:=@Result.andThen_ok
abbrev EY:=@List.length_cons
abbrev EZ:=@List.getElem?_map
abbrev E1:=@List.set_cons_succ
abbrev E2:=@Bool.false_eq_true
abbrev E3:=@Option.some.injEq
abbrev E4:=@List.mem_cons
abbrev E6:=@Nat.le_refl
abbrev E7:=@List.map_append
abbrev E8:=@List.mem_append
abbrev Fa:=@Int.toNat_natCast
abbrev Fb:=@Sem.run_bind
abbrev Fc:=@List.length_nil
abbrev Fe:=@List.getElem?_eq_none
abbrev Fg:=@List.take_of_length_le
abbrev Fh:=@List.length_set
abbrev Fi:=@Int.toNat_of_nonneg
abbrev Fk:=@Classical.not_not
abbrev Fm:=@List.getElem?_cons_zero
abbrev Fp:=@Sem.run_pure
abbrev Fq:=@List.mem_map
abbrev Fv:=@Classical.byContradiction
abbrev Fx:=@List.mem_range
abbrev FA:=@List.mem_cons_of_mem
abbrev FB:=@Nat.zero_le
abbrev FC:=@Nat.le_of_ble_eq_true
abbrev FD:=@List.mem_singleton
abbrev FE:=@List.getElem?_take_of_lt
abbrev FG:=@List.drop_zero
abbrev FH:=@Nat.mul_le_mul_right
abbrev FI:=@List.all_eq_true
abbrev FJ:=@Option.map_some
abbrev FK:=@List.length_replicate
abbrev FL:=@List.mem_iff_getElem?
abbrev FM:=@Nat.le_succ
abbrev FN:=@Array.getD_eq_getD_getElem?
abbrev FO:=@List.length_eq_zero_iff
abbrev FP:=@List.getElem?_cons_succ
abbrev FQ:=@Int.eq_ofNat_of_zero_le
abbrev FR:=@List.mem_cons_self
abbrev FW:=@List.cons.injEq
abbrev FX:=@List.append_nil
abbrev FY:=@List.length_take
abbrev FZ:=@Array.length_toList
abbrev F3:=@List.map_set
abbrev F5:=@Array.getElem?_toList
abbrev F6:=@List.eq_of_mem_replicate
abbrev F7:=@List.cons_append
abbrev F8:=@List.mem_of_mem_take
abbrev Ga:=@List.map_cons
abbrev Gb:=@List.getElem?_set
abbrev Gc:=@Bool.not_eq_true'
abbrev Gf:=@List.set_append_right
abbrev Gi:=@Nat.zero_add
abbrev Gj:=@Nat.lt_or_ge
abbrev Gl:=@List.eq_nil_of_length_eq_zero
abbrev Gm:=@List.append_assoc
abbrev Gn:=@List.eraseIdx_cons_succ
abbrev Gp:=@List.map_congr_left
abbrev Gq:=@Option.map_eq_some_iff
abbrev Gr:=@List.set_set
abbrev Gs:=@Nat.le_trans
abbrev Gt:=@Array.getElem?_eq_none
abbrev Gu:=@List.getElem?_set_self
abbrev Gv:=@Nat.add_assoc
abbrev Gw:=@Option.getD_some
abbrev Gy:=@List.eq_nil_or_concat
abbrev Gz:=@List.take_append_drop
abbrev GA:=@List.set_eq_take_append_cons_drop
abbrev GB:=@Array.getElem?_eq_getElem
abbrev GC:=@List.ext_getElem?
abbrev GD:=@List.getElem?_set_ne
abbrev GF:=@Prod.mk.injEq
abbrev GG:=@List.flatten_append
abbrev GH:=@List.length_reverse
abbrev GI:=@List.getElem?_replicate
abbrev GK:=@List.getElem?_drop
abbrev GL:=@Nat.lt_of_lt_of_le
abbrev GM:=@List.nodup_cons
abbrev GN:=@List.getElem?_toArray
abbrev GP:=@List.nodup_append
abbrev GR:=@List.flatten_cons
abbrev GV:=@List.perm_middle
abbrev GW:=@List.getElem_mem
abbrev GX:=@Nat.sub_self
abbrev GY:=@Iff.rfl
abbrev G4:=@List.length_pos_iff
abbrev G5:=@List.getElem?_range
abbrev G6:=@List.sum_cons
abbrev G7:=@Bool.false_or
abbrev G9:=@List.mem_filter
abbrev Ha:=@Bool.or_eq_true
abbrev Hb:=@List.countP_append
abbrev He:=@Nat.succ_mul
abbrev Hf:=@List.length_pos_of_mem
abbrev Hi:=@List.exists_cons_of_length_pos
abbrev Hl:=@Bool.or_eq_false_iff
abbrev Hm:=@Nat.add_mul
abbrev Hn:=@List.take_append_of_le_length
abbrev Ho:=@List.mem_append_left
abbrev Hp:=@List.contains_eq_mem
abbrev Hq:=@List.mem_of_mem_drop
abbrev Hs:=@List.range_succ
abbrev Ht:=@List.filterMap_cons
abbrev Hu:=@List.take_succ_cons
abbrev Hv:=@Nat.le_of_eq
abbrev Hz:=@Array.getElem?_eq_some_iff
abbrev HA:=@List.map_replicate
abbrev HB:=@Array.ext'
abbrev HH:=@List.mem_or_eq_of_mem_set
abbrev HI:=@List.length_range
abbrev HJ:=@List.flatMap_cons
abbrev HK:=@List.take_add_one
abbrev HO:=@List.eraseIdx_cons_zero
abbrev HP:=@List.take_length
abbrev HU:=@Nat.zero_mul
abbrev HV:=@Array.getElem!_eq_getD
abbrev HW:=@Nat.add_zero
abbrev HX:=@List.nil_append
abbrev HY:=@List.length_singleton
abbrev HZ:=@List.perm_append_comm
abbrev H2:=@Nat.eq_of_beq_eq_true
abbrev H3:=@List.sizeOf_lt_of_mem
abbrev H4:=@List.replicate_succ'
abbrev H5:=@Bool.not_false
abbrev H6:=@List.range_eq_range'
abbrev Ib:=@Ne.symm
abbrev Ie:=@Array.toList_append
abbrev Ig:=@List.any_cons
abbrev Ih:=@Bool.not_true
abbrev Ik:=@Option.any_eq_true
abbrev Il:=@List.getElem_range
abbrev Im:=@Nat.eq_zero_or_pos
abbrev Io:=@Array.all_eq_true_iff_forall_mem
abbrev Ip:=@Nat.add_left_comm
abbrev Iq:=@List.take_succ_eq_append_getElem
abbrev Ir:=@Nat.mul_comm
abbrev Iy:=@Array.getElem?_setIfInBounds_ne
abbrev Iz:=@List.drop_append
abbrev IA:=@Array.eq_empty_of_size_eq_zero
abbrev IB:=@List.take_append
abbrev IC:=@List.mem_flatMap
abbrev ID:=@List.ext_getElem
abbrev IG:=@Int.le_refl
abbrev IH:=@Nat.min_eq_left
abbrev II:=@Option.map_none
abbrev IL:=@List.mapM_cons
abbrev IM:=@Eq.trans
abbrev IN:=@List.nodup_nil
abbrev IP:=@Nat.mod_lt
abbrev IQ:=@List.take_zero
abbrev IX:=@Array.mapM_eq_mapM_toList
abbrev IY:=@List.getElem?_eq_none_iff
abbrev IZ:=@List.drop_eq_getElem_cons
abbrev I0:=@List.getElem_append_right
abbrev I1:=@Option.isSome_iff_exists
abbrev I2:=@List.length_erase_of_mem
abbrev I7:=@List.filter_cons_of_neg
abbrev I9:=@List.findIdx_eq_length
abbrev Jb:=@Bool.true_or
abbrev Jc:=@Int.add_comm
abbrev Je:=@Int.add_zero
abbrev Jf:=@Decidable.em
abbrev Jg:=@Nat.add_comm
abbrev Jv:=@List.countP_singleton
abbrev Jw:=@List.countP_le_length
abbrev Jx:=@List.countP_eq_length
abbrev Jy:=@List.concat_eq_append
abbrev Jz:=@Array.getElem?_modify
abbrev JA:=@Classical.not_forall
abbrev JB:=@Nat.div_lt_of_lt_mul
abbrev JR:=@List.mem_map_of_mem
abbrev JT:=@List.length_take_le
abbrev JU:=@List.drop_succ_cons
abbrev JV:=@Option.isSome_none
abbrev JW:=@Go.Deep.open_slice
abbrev J3:=@List.pairwise_map
abbrev J4:=@Array.any_eq_true
end Go.Lir
open Go
variable {α β Hd:Type}{P:Program}{w B w'' w0:World}{n d cap m j s b l' es id off h' Ts nb o0 n0 o1 n1 o2 n2 o3 n3:Nat}{ds:List Deferred}{f:FuncId}{args c cs cs' vs z:List Value}{fn:Func}{T T':TypeId}{xs:List Operand}{k k':IntKind}{y x0 x1 x2 x3:Operand}{lo hi mx:Option Operand}{mixed:Bool}{os:Array Oper}{R:Ending→World→Prop}{rs:List ResultVar}{ms:List Nat}{G F':Nat→Prop}{u v' v2 v0 v1 v3:Value}{ps:List (Nat×Nat×Operand)}{S:Value→World→Prop}{css:List (List Value)}
set_option linter.unusedVariables false
set_option linter.unusedSimpArgs false
set_option maxHeartbeats 1000000
namespace Go.Lir
section
variable {p:Prop}
theorem CP (h:p:=by omega):p:=h
theorem CT (h:p:=by simp;omega):p:=h
theorem C3 (h:p:=by simp):p:=h
theorem Da (h:p:=by simp [hx]):p:=h
theorem Dc (h:p:=by rw [decide_eq_true hp];exact h):p:=h
theorem De (h:p:=by rw [decide_eq_false hp];exact h):p:=h
theorem Dk (h:p:=by simp [O]):p:=h
theorem Dn (h:p:=by simpa using I):p:=h
theorem Du (h:p:=by simpa using hi):p:=h
theorem Dx (h:p:=by rw [←F5] at hi;exact EK hi):p:=h
theorem Dy (h:p:=by rw [←hJ.hC];exact hok):p:=h
theorem DG (h:p:=by apply HB;simpa using hxs):p:=h
theorem DJ (h:p:=by simp [cO,hi,hz]):p:=h
theorem DN (h:p:=by rw [hJ.hC];simp [O]):p:=h
theorem Ea (h:p:=by rw [List.mem_zipIdx_iff_getElem?];simpa using ho):p:=h
theorem Ei (h:p:=by rw [EZ,EI V];rfl):p:=h
theorem Es (h:p:=by rw [←FZ,hzc];exact hzl):p:=h
theorem EA (h:p:=by intro c O;rw [F6 O];exact hzl):p:=h
theorem EH (h:p:=by rw [←GG,Gz]):p:=h
end
end Go.Lir
namespace Go.Lir
section
variable {p:Prop}
theorem AZ (h:p:=by exact ⟨h0,a,cap,hv,hlc, .inl O⟩):p:=h
theorem BC (h:p:=by exact oQ (fun U w hk=>ih h hk) (fun e U w _ hq=>h _ _ _ hq) hw):p:=h
theorem BK (h:p:=by exact ⟨[], .slice none 0 0,[],rfl,⟨by simp,none,0,rfl,E6 _, .inl rfl⟩,rfl,by simp,by simp⟩):p:=h
theorem BV (h:p:=by exact zO ht (fun s hs=>h s (by simp [GO.uses,hs])) hk hq hw):p:=h
theorem CG (h:p:=by exact oR (fst:=#[]) (cap:=#[]) rfl I M h3 (by simpa [LO.wp] using h)):p:=h
end
end Go.Lir
namespace Go.Lir
section
variable {p:Prop}
theorem V (h:p:=by omega):p:=h
theorem Jd (h:p:=by decide):p:=h
theorem Js (h:p:=by simp):p:=h
theorem Jk (h:p:=by kernel_rfl):p:=h
theorem Jr (h:p:=by rfl):p:=h
theorem Ja (h:p:=by assumption):p:=h
end
end Go.Lir
namespace Go.Lir
section

abbrev KD:=Nat→Value

def upd (U:KD)(d:Nat)(v:Value):KD:=fun i=>bif Nat.beq i d then v else U i

def KD.ev (U:KD):Operand→Value
 | .tmp t=>U t
 | .const v=>v
 | .global g=> .pointer (some ⟨g,0,none⟩)
 | .func f=> .func (.func f) #[] #[]

def KR (U:KD)(d:Option Nat)(v:Value):KD:=match d with|some d=>upd U d v|none=>U

def OA (n:Nat)(U:KD)(ds:List Deferred)(a:Act):Prop:=a.tmps.size=n∧(∀i,a.tmps.getD i undef=U i)∧a.defers=ds

theorem OA.ev {n U ds a}(h:OA n U ds a):a.eval=U.ev:=by
 funext x;cases x<;>simp [Act.eval,KD.ev,h.2.1]

theorem OA.put {n U ds a}(h:OA n U ds a)(d:Option Nat)(v:Value)(hd:∀x,d=some x→x<n):OA n (KR U d v) ds (a.put d v):=by
 cases d with
 | none=>exact h
 | some d=>
   have hdn:=hd d rfl;obtain ⟨I,M,h3⟩:=h;refine ⟨by simp [Act.put,I],fun i=>?_,h3⟩;have:=M i;simp only [Act.put,KR,upd];by_cases hi:i=d
   · subst hi;simp [Array.getD,I,hdn]
   · have hb:Nat.beq i d=false:=by
      cases hbb:Nat.beq i d
      · rfl
      · exact absurd (H2 hbb) hi
     rw [hb];simp only [cond_false];rw [←this];simp only [FN];rw [Iy V]

abbrev QT:=Exit→KD→World→Prop
abbrev KT:=KD→World→Prop

def ba (n:Nat)(ds:List Deferred)(K:KT):Act→World→Prop:=fun a w=>∃U,OA n U ds a∧K U w
def bd (n:Nat)(ds:List Deferred)(Q:QT):Exit→Act→World→Prop:=fun e a w=>∃U,OA n U ds a∧Q e U w

def PN (P:Program)(o:Oper)(U:KD)(w:World)(K:KT)(Q:QT):Prop:=
 match (execOp U.ev o).run P w with
 | .ok (.value v) B=>K (KR U o.dst v) B
 | .ok .skip B=>K (KR U o.dst undef) B
 | .ok (.enter f args) B=>Calls P f args B fun
    | .returned v,w''=>K (KR U o.dst v) w''
    | .panicked chain,w''=>Q (.panic chain) U w''
    | .outgrown,_=>Q .outgrown U B
 | .ok (.row row args) B=>Rows P row args B fun v w''=>K (KR U o.dst v) w''
 | .halt (.panic v) B=>Q (.panic [{v,recovered:=false}]) U B
 | _=>False

theorem tK {o:Oper}{U:KD}{K:KT}{Q:QT}{a:Act}
 (hr:OA n U ds a)(hd:∀x,o.dst=some x→x<n)(h:PN P o U w K Q):o.wp P a w (ba n ds K) (bd n ds Q):=by
 unfold Oper.wp;rw [hr.ev];unfold PN at h;generalize (execOp U.ev o).run P w=r at h;unfold Oper.upon;split at h
 · exact ⟨_,hr.put _ _ hd,h⟩
 · exact ⟨_,hr.put _ _ hd,h⟩
 · refine h.mono fun e w'' h=>?_
   cases e with
   | returned v=>exact ⟨_,hr.put _ _ hd,h⟩
   | panicked ch=>exact ⟨_,hr,h⟩
   | outgrown=>exact ⟨a,_,_,hr,h⟩
 · exact h.mono fun v B h=>⟨_,hr.put _ _ hd,h⟩
 · exact ⟨_,hr,h⟩
 · exact h.elim

def oneC:Value→Bool
 | .agg _| .tuple _=>false
 | _=>true

def NA (cells:List Value):List (Nat×Nat×Value)→Option (List Value)
 | []=>some cells
 | (off,size,v)::rest=>
   if v.cells.size=size∧off+size≤cells.length then NA (cells.take off++(v.cells.toList++cells.drop (off+size))) rest
   else none


inductive LO where
 | mov (d:Nat) (x:Operand)
 | pick (d:Nat) (c x y:Operand)
 | un (d:Nat) (op:UnOp) (x:Operand)
 | bin (d:Nat) (op:BinOp) (T:TypeId) (x y:Operand)
 | nilc (d:Nat) (x:Operand)
 | fld (d:Nat) (x:Operand) (off:Nat)
 | load1 (d:Nat) (x:Operand)
 | loadn (d:Nat) (n:Nat) (x:Operand)
 | store1 (x v:Operand)
 | storen (n:Nat) (x v:Operand)
 | idx (d:Nat) (es:Nat) (x i:Operand)
 | idxa (d:Nat) (n es:Nat) (x i:Operand)
 | len (d:Nat) (x:Operand)
 | slen (d:Nat) (x:Operand)
 | sidx (d:Nat) (x i:Operand)
 | ext (d:Nat) (x:Operand) (i:Nat)
 | fldv (d:Nat) (x:Operand) (off:Nat)
 | fldn (d:Nat) (x:Operand) (off n:Nat)
 | alloc (d:Nat) (T:TypeId) (zero:List Value)
 | box (d:Nat) (T:TypeId) (x:Operand)
 | call (d:Option Nat) (f:FuncId) (xs:List Operand)
 | callv (d:Option Nat) (x:Operand) (xs:List Operand)
 | build (d:Nat) (zero:List Value) (parts:List (Nat×Nat×Operand))
 | buildS (d:Nat) (T:TypeId) (n:Nat) (zero:List Value) (parts:List (Nat×Nat×Operand))
 | mkfn (d:Nat) (f:FuncId) (caps:List Operand)
 | sub (d:Nat) (es:Nat) (x:Operand) (lo hi mx:Option Operand)
 | ssub (d:Nat) (x:Operand) (lo hi:Option Operand)
 | mnx (d:Nat) (isMax:Bool) (x y:Operand)
 | conv (d:Nat) (k:IntKind) (x:Operand)
 | mki (d:Nat) (T:TypeId) (x:Operand)
 | raw (o:Oper)

def LO.dst:LO→Option Nat
 | .mov d _| .pick d ..| .un d ..| .bin d ..| .nilc d _| .fld d ..| .load1 d _| .loadn d ..| .idx d ..| .idxa d ..| .len d _| .slen d _| .sidx d ..| .ext d ..
 | .fldv d ..| .fldn d ..| .alloc d ..| .box d ..| .build d ..| .buildS d ..| .mkfn d ..| .sub d ..| .ssub d ..| .mnx d ..| .conv d ..| .mki d ..=>some d
 | .store1 ..| .storen ..=>none
 | .call d ..| .callv d ..=>d
 | .raw o=>o.dst

def bf (w:World)(a:Addr)(n:Nat)(cs:List Value):Prop:=cs.length=n∧∀j,j<n→w.cell? (a.add j)=cs[j]?

def MQ (U:KD)(dflt:Nat):Option Operand→Nat→Prop
 | none,n=>n=dflt
 | some x,n=>∃k,U.ev x= .int k n

def Q6 (K:KT)(Q:QT)(d:Option Nat)(U:KD)(w:World):Ending→World→Prop
 | .returned v,w''=>K (KR U d v) w''
 | .panicked chain,w''=>Q (.panic chain) U w''
 | .outgrown,_=>Q .outgrown U w

def LO.wp (P:Program)(U:KD)(w:World)(K:KT)(Q:QT):LO→Prop
 | .mov d x=>K (upd U d (U.ev x)) w
 | .pick d c x y=>∃b,U.ev c= .bool b∧K (upd U d (if b then U.ev x else U.ev y)) w
 | .un d op x=>∃v,(∀w0,(Op.unary op (U.ev x)).run P w0= .ok v w0)∧K (upd U d v) w
 | .bin d op T x y=>∃v,(∀w0,(do eqGuard op T x y (U.ev x) (U.ev y);binOp op T (U.ev x) (U.ev y)).run P w0= .ok v w0)∧K (upd U d v) w
 | .nilc d x=>∃a,U.ev x= .pointer (some a)∧K (upd U d (.pointer (some a))) w
 | .fld d x off=>∃a,U.ev x= .pointer (some a)∧K (upd U d (.pointer (some (a.add off)))) w
 | .load1 d x=>∃a v,U.ev x= .pointer (some a)∧w.cell? a=some v∧K (upd U d v) w
 | .loadn d n x=>∃a cs,U.ev x= .pointer (some a)∧bf w a n cs∧K (upd U d (.agg ⟨cs⟩)) w
 | .store1 x v=>∃a c,U.ev x= .pointer (some a)∧w.cell? a=some c∧w.frozen? a=false∧oneC (U.ev v)=true∧K U (w.setCell a (U.ev v))
 | .storen n x v=>∃a cs B,U.ev x= .pointer (some a)∧U.ev v= .agg cs∧cs.size=n∧(storeCells a cs.toList).run P w= .ok () B∧K U B
 | .idx d es x i=>∃a len cap k n,U.ev x= .slice (some a) len cap∧U.ev i= .int k n∧0≤n∧n<len∧K (upd U d (.pointer (some (a.add (n.toNat*es))))) w
 | .idxa d m es x i=>∃a k n,U.ev x= .pointer (some a)∧U.ev i= .int k n∧0≤n∧n<(m:Int)∧K (upd U d (.pointer (some (a.add (n.toNat*es))))) w
 | .len d x=>∃a n c,U.ev x= .slice a n c∧K (upd U d (.int .i64 n)) w
 | .slen d x=>∃s,U.ev x= .string s∧K (upd U d (.int .i64 s.size)) w
 | .sidx d x i=>∃s k n b,U.ev x= .string s∧U.ev i= .int k n∧0≤n∧s[n.toNat]?=some b∧K (upd U d (.int .u8 b.toNat)) w
 | .ext d x i=>∃vs v,U.ev x= .tuple vs∧vs[i]?=some v∧K (upd U d v) w
 | .fldv d x off=>∃cs v,U.ev x= .agg cs∧cs[off]?=some v∧K (upd U d v) w
 | .fldn d x off n=>∃cs,U.ev x= .agg cs∧K (upd U d (.agg (cs.extract off (off+n)))) w
 | .alloc d T z=>K (upd U d (.pointer (some ⟨w.heap.size,0,none⟩))) (w.alloc (.cells ⟨z⟩ T))
 | .box d T x=>K (upd U d (.pointer (some ⟨w.heap.size,0,none⟩))) (w.alloc (.cells (U.ev x).cells T))
 | .call d f xs=>Calls P f ⟨xs.map U.ev⟩ w (Q6 K Q d U w)
 | .callv d x xs => ∃ f fst cap fn, U.ev x = .func (.func f) fst cap ∧ P.funcs[f]? = some fn ∧ fn.body.isSome = true ∧ (fn.name == "runtime.NumGoroutine") = false ∧ Calls P f (fst ++ ⟨xs.map U.ev⟩ ++ cap) w (Q6 K Q d U w)
 | .build d z ps=>∃cs,NA z (ps.map fun p=>(p.1,p.2.1,U.ev p.2.2))=some cs∧K (upd U d (.agg ⟨cs⟩)) w
 | .buildS d T n z ps=>∃cs,NA z (ps.map fun p=>(p.1,p.2.1,U.ev p.2.2))=some cs∧K (upd U d (.slice (some ⟨w.heap.size,0,none⟩) n n)) (w.alloc (.cells ⟨cs⟩ T))
 | .mkfn d f caps=>K (upd U d (.func (.func f) #[] ⟨caps.map U.ev⟩)) w
 | .sub d es x lo hi mx=>∃a len cap l h m,U.ev x= .slice a len cap∧MQ U cap mx m∧MQ U len hi h∧MQ U 0 lo l∧m≤cap∧h≤m∧l≤h∧
    K (upd U d (.slice (if m=l then a else a.map (·.add (l*es))) (h - l) (m - l))) w
 | .ssub d x lo hi=>∃s l h,U.ev x= .string s∧MQ U s.size hi h∧MQ U 0 lo l∧h≤s.size∧l≤h∧K (upd U d (.string (s.extract l h))) w
 | .mnx d isMax x y=>∃k k' a b,U.ev x= .int k a∧U.ev y= .int k' b∧K (upd U d (.int k (if isMax then (if a<b then b else a) else (if b<a then b else a)))) w
 | .conv d k x=>∃k' n,U.ev x= .int k' n∧K (upd U d (.int k (k.wrap n))) w
 | .mki d T x=>K (upd U d (.iface T (U.ev x))) w
 | .raw o=>PN P o U w K Q


def Tp (P:Program)(T:TypeId):Bool:=match P.underlying T with
 | some (.struct _)|some (.array _ _)=>false
 | some _=>true
 | none=>false
def OB (P:Program)(T:TypeId):Bool:=match P.underlying T with
 | some (.struct _)|some (.array _ _)=>true
 | _=>false
def N6 (P:Program)(T:TypeId):Option Nat:=(P.info? T).map (·.size)
def cO (P:Program)(T:TypeId):Option Value:=(P.info? T).bind (·.zero)

def mE (P:Program)(S:TypeId)(f:Nat):Option (Nat×TypeId):=match P.underlying S with
 | some (.struct fs)=>(fs[f]?).map fun x=>(x.offset,x.type)
 | _=>none

def ik (P:Program)(T:TypeId):Option TypeId:=match P.underlying T with
 | some (.slice e)=>some e
 | _=>none
def cP (P:Program)(T:TypeId):Option (Nat×TypeId):=match P.underlying T with
 | some (.array n e)=>some (n,e)
 | _=>none
def jx (P:Program)(T:TypeId):Bool:=match P.underlying T with
 | some .string=>true
 | _=>false

def tL (P:Program)(T:TypeId):Option (Nat→Option (Nat×Nat)):=match P.underlying T with
 | some (.struct fs)=>if fs.toList.all (fun f=>(N6 P f.type).isSome) then some (fun i=>(fs[i]?).bind fun f=>(N6 P f.type).map fun s=>(f.offset,s)) else none
 | some (.array _ e)=>(N6 P e).map fun s=>fun i=>some (i*s,s)
 | _=>none

def X7 (pl:Nat→Option (Nat×Nat)):List (Nat×Operand)→Option (List (Nat×Nat×Operand))
 | []=>some []
 | (i,x)::rest=>match pl i,X7 pl rest with
   | some (o,s),some r=>some ((o,s,x)::r)
   | _,_=>none

def X8 (P:Program)(T:TypeId):Option IntKind:=match P.underlying T with
 | some (.int k)=>some k
 | _=>none
def oS (P:Program)(T:TypeId):Bool:=match P.underlying T with
 | some (.interface _)=>true
 | some _=>false
 | none=>true

def SI (P : Program)(f : FuncId): Bool := (P.funcs[f]?).any fun fn => fn.body.isSome && !(fn.name == "runtime.NumGoroutine")

def Ky (P:Program)(o:Oper):LO:=
 match o.dst with
 | none=>match o.op with
   | .store T x v=>match Tp P T,N6 P T with
     | true,some 1=> .store1 x v
     | false,some n=>if OB P T then .storen n x v else .raw o
     | _,_=> .raw o
   | .call ⟨.value (.func f),xs,_⟩=>if SI P f then .call none f xs.toList else .raw o
   | .call ⟨.value (.tmp f),xs,_⟩=> .callv none (.tmp f) xs.toList
   | _=> .raw o
 | some d=>match o.op with
   | .move x| .assign x=> .mov d x
   | .pick c x y=> .pick d c x y
   | .unOp op _ x=> .un d op x
   | .binOp op T x y _=> .bin d op T x y
   | .nilCheck x=> .nilc d x
   | .fieldAddr S x f=>match mE P S f with
     | some (off,t)=>match N6 P t with
       | some (_+1)=> .fld d x off
       | _=> .raw o
     | none=> .raw o
   | .load T x=>match Tp P T with
     | true=> .load1 d x
     | false=>match N6 P T with
       | some n=>if OB P T then .loadn d n x else .raw o
       | none=> .raw o
   | .indexAddr T x i=>match ik P T with
     | some e=>match N6 P e with
       | some s=> .idx d s x i
       | none=> .raw o
     | none=>match cP P T with
       | some (n,e)=>match N6 P e with
         | some s=> .idxa d n s x i
         | none=> .raw o
       | none=> .raw o
   | .index T x i=>if jx P T then .sidx d x i else .raw o
   | .extract x i=> .ext d x i
   | .field S x f=>match mE P S f with
     | some (off,t)=>match Tp P t with
       | true=> .fldv d x off
       | false=>match N6 P t with
         | some n=>if OB P t then .fldn d x off n else .raw o
         | none=> .raw o
     | none=> .raw o
   | .alloc T=>match cO P T with
     | some z=> .alloc d T z.cells.toList
     | none=> .raw o
   | .box T x=> .box d T x
   | .build T ps=>match cO P T,tL P T with
     | some z,some pl=>match X7 pl ps.toList with
       | some l=> .build d z.cells.toList l
       | none=> .raw o
     | _,_=> .raw o
   | .buildSlice T n ps=>match ik P T with
     | some e=>match cO P e,N6 P e with
       | some z,some s=>match X7 (fun i=>some (i*s,s)) ps.toList with
         | some l=>if 0<s∧0<n∧n*s≤1000∧z.cells.size=s then .buildS d e n ((List.range (n*s)).map fun i=>z.cells.toList.getD (i % s) default) l else .raw o
         | none=> .raw o
       | _,_=> .raw o
     | none=> .raw o
   | .makeFunc (.func f) fst caps=>if fst.size=0 then .mkfn d f caps.toList else .raw o
   | .call ⟨.value (.func f),xs,_⟩=>if SI P f then .call (some d) f xs.toList else .raw o
   | .call ⟨.value (.tmp f),xs,_⟩=> .callv (some d) (.tmp f) xs.toList
   | .slice T x lo hi mx=>match ik P T with
     | some e=>match N6 P e with
       | some s=>if mx.isSome && hi.isNone then .raw o else .sub d s x lo hi mx
       | none=> .raw o
     | none=>if jx P T && mx.isNone then .ssub d x lo hi else .raw o
   | .convert S T x=>match X8 P S,X8 P T with
     | some _,some k=> .conv d k x
     | _,_=> .raw o
   | .makeInterface T x=>if oS P T then .raw o else .mki d T x
   | .call ⟨.builtin .min,xs,_⟩=>match xs.toList with
     | [x,y]=> .mnx d false x y
     | _=> .raw o
   | .call ⟨.builtin .max,xs,_⟩=>match xs.toList with
     | [x,y]=> .mnx d true x y
     | _=> .raw o
   | .call ⟨.builtin .len,xs,ts⟩=>match xs.toList,ts.toList with
     | [x],[T]=>if jx P T then .slen d x else if (ik P T).isSome then .len d x else .raw o
     | _,_=> .raw o
   | _=> .raw o

def bg (o : Oper): Oper := ⟨o.dst, o.op, o.type, "", #[], none⟩
def il (P:Program)(o:Oper):LO:=match Ky P o with
 | .raw o=> .raw (bg o)
 | x=>x

end
section

section
variable {P:Program}{o:Oper}{U:KD}{w B:World}{K:KT}{Q:QT}{v:Value}

theorem MR (h:(execOp U.ev o).run P w= .ok (.value v) B)(hk:K (KR U o.dst v) B):PN P o U w K Q:=by
 unfold PN;rw [h];exact hk
theorem tM (h:(execOp U.ev o).run P w= .ok .skip B)(hk:K (KR U o.dst undef) B):PN P o U w K Q:=by
 unfold PN;rw [h];exact hk
end

theorem jy (P:Program)(T:TypeId)(i:TypeInfo)(w:World)(h:P.info? T=some i):(typeInfo T).run P w= .ok i w:=by
 simp [typeInfo,h]
theorem Ru (P:Program)(T:TypeId)(n:Nat)(w:World)(h:N6 P T=some n):(sizeOf T).run P w= .ok n w:=by
 unfold N6 at h
 cases hi:P.info? T with
 | none=>simp [hi] at h
 | some i=>simp [hi] at h;simp [sizeOf,jy P T i w hi,h]
theorem bj (P:Program)(T:TypeId)(z:Value)(w:World)(h:cO P T=some z):(zeroValue T).run P w= .ok z w:=by
 unfold cO at h
 cases hi:P.info? T with
 | none=>simp [hi] at h
 | some i=>simp [hi] at h;simp [zeroValue,jy P T i w hi,h]
theorem Qa (P:Program)(T:TypeId)(d:TypeDesc)(w:World)(h:P.underlying T=some d):(underlying T).run P w= .ok d w:=by
 simp [underlying,h]
theorem oT (P:Program)(T:TypeId)(w:World)(h:Tp P T=true):(isAgg T).run P w= .ok false w:=by
 unfold Tp at h
 cases hu:P.underlying T with
 | none=>simp [hu] at h
 | some d=>simp [isAgg,Qa P T d w hu];cases d<;>simp [hu] at h ⊢
theorem oU (P:Program)(T:TypeId)(w:World)(h:OB P T=true):(isAgg T).run P w= .ok true w:=by
 unfold OB at h
 cases hu:P.underlying T with
 | none=>simp [hu] at h
 | some d=>simp [isAgg,Qa P T d w hu];cases d<;>simp [hu] at h ⊢

theorem zP (a:Addr):a.add 0=a:=rfl

theorem oV (P:Program)(T:TypeId)(cs:Array Value)(off:Nat)(v:Value)(w:World)(h:Tp P T=true)(hv:cs[off]?=some v):
 (part T cs off).run P w= .ok v w:=by
 simp [part,oT P T w h,hv]
theorem zQ (P:Program)(T:TypeId)(cs:Array Value)(off n:Nat)(w:World)(h:OB P T=true)(hn:N6 P T=some n):
 (part T cs off).run P w= .ok (.agg (cs.extract off (off+n))) w:=by
 simp [part,oU P T w h,Ru P T n w hn]

theorem zR (v:List Value):∀(k off:Nat) (cs:Array Value),off+k+v.length≤cs.size→
 ((v.zipIdx k).foldl (fun cs (c,j)=>cs.setIfInBounds (off+j) c) cs).toList=cs.toList.take (off+k)++(v++cs.toList.drop (off+k+v.length)):=by
 induction v with
 | nil=>intro k off cs h;simp
 | cons c v ih=>
   intro k off cs h;simp only [List.zipIdx_cons,List.foldl_cons];simp only [EY] at h;rw [show off+k+(c::v).length=off+(k+1)+v.length by simp;omega,ih (k+1) off _ CT];have hsz:cs.toList.length=cs.size:=FZ;have hl:off+k<cs.toList.length:=CP;simp only [Array.toList_setIfInBounds];generalize cs.toList=l at hsz hl ⊢;rw [←Gv,GA,Qip hl];have hm:(l.take (off+k)).length=off+k:=by simp;omega
   have e1:List.take (off+k+1) (l.take (off+k)++c::l.drop (off+k+1))=l.take (off+k)++[c]:=by
    rw [IB,hm,Fg V,show off+k+1 - (off+k)=1 by omega];rfl
   have e2:List.drop (off+k+1+v.length) (l.take (off+k)++c::l.drop (off+k+1))=l.drop (off+k+1+v.length):=by
    rw [Iz,hm,ES V,show off+k+1+v.length - (off+k)=v.length+1 by omega];simp [Jg,Ip,Gv]
   rw [e1,e2];simp

theorem oW (place:Nat→Option (Nat×Nat))(U:KD):∀(ps:List (Nat×Operand)) (l:List (Nat×Nat×Operand)) (cells:Array Value) (cs:List Value),
 X7 place ps=some l→NA cells.toList (l.map fun p=>(p.1,p.2.1,U.ev p.2.2))=some cs→
 Instr.fill place cells (ps.map fun p=>(p.1,U.ev p.2))=some ⟨cs⟩:=by
 intro ps
 induction ps with
 | nil=>intro l cells cs I M;simp [X7] at I;subst I;simp [NA] at M;subst M;simp [Instr.fill]
 | cons p ps ih=>
   obtain ⟨i,x⟩:=p;intro l cells cs I M;simp only [X7] at I;split at I
   · rename_i off s r hpl hr
     simp only [E3] at I;subst I;simp only [Ga,NA] at M;split at M
     · rename_i O;have hlen:(U.ev x).cells.toList.length=s:=(by simpa using O.1);have hsz:cells.toList.length=cells.size:=FZ;simp only [Ga,Instr.fill,hpl];rw [Qin (by have h4:=O.2;have h3:(U.ev x).cells.size=s:=O.1;simp only [Ha,decide_eq_true_eq];rintro (h|h);exact h h3;omega)];refine ih r _ cs hr ?_;have:=zR (U.ev x).cells.toList 0 off cells (by have:=O.2;omega);rw [←Array.foldl_toList,Array.toList_zipIdx,this,HW,hlen];exact M
     · cases M
   · cases I

section
variable {P:Program}{U:KD}{w:World}{K:KT}{Q:QT}

theorem jz (a:Addr)(n:Nat)(cs:List Value)(h:bf w a n cs):(loadCells a n).run P w= .ok ⟨cs⟩ w:=by
 obtain ⟨hl,O⟩:=h;subst hl
 exact run_loadCells_list (P:=P) (w:=w) a cs (fun j v hj=>by
  have:j<cs.length:=by
   rcases Gj j cs.length with h|h
   · exact h
   · simp [Fe h] at hj
  rw [O j this,hj])

theorem zS {args:Array Value}{d:Option Nat}(h:Calls P f args w (Q6 K Q d U w)):
 Calls P f args w fun
  | .returned v,w''=>K (KR U d v) w''
  | .panicked chain,w''=>Q (.panic chain) U w''
  | .outgrown,_=>Q .outgrown U w:=
 h.mono fun e B h=>by cases e<;>exact h

theorem tN (args : Array Value)(hf : P.funcs[f]? = some fn)(hb : fn.body.isSome = true)(hn : (fn.name == "runtime.NumGoroutine") = false):
 (callFunc f args).run P w= .ok (.enter f args) w:=by
 have hb':fn.body.isNone=false:=(by cases h:fn.body<;>simp_all);simp only [callFunc,Fb,run_program,EX,hf,hn,hb'];rfl

theorem oR {d:Option Nat}{pos:String}{af:Array Edge}{g:Option (Nat×Bool)}{x:Operand}{xs:Array Operand}{ts:Array TypeId}{fst cap:Array Value}
 (hx : U.ev x = .func (.func f) fst cap)(hf : P.funcs[f]? = some fn)(hb : fn.body.isSome = true)(hn : (fn.name == "runtime.NumGoroutine") = false)
 (h:Calls P f (fst++⟨xs.toList.map U.ev⟩++cap) w (Q6 K Q d U w)):
 PN P ⟨d, .call ⟨.value x,xs,ts⟩,T,pos,af,g⟩ U w K Q:=by
 have e:(execOp U.ev ⟨d, .call ⟨.value x,xs,ts⟩,T,pos,af,g⟩).run P w= .ok (.enter f (fst++xs.map U.ev++cap)) w:=by
  simp only [execOp,resolve,hx,Deferred.ofValue,Fb,Fp,EX,invoke];rw [tN _ hf hb hn]
 unfold PN;rw [e]
 have he:(⟨xs.toList.map U.ev⟩:Array Value)=xs.map U.ev:=by
  apply HB;simp
 rw [he] at h;exact zS h

theorem tO (h : SI P f = true): ∃ fn, P.funcs[f]? = some fn ∧ fn.body.isSome = true ∧ (fn.name == "runtime.NumGoroutine") = false := by
 unfold SI at h
 cases hf:P.funcs[f]? with
 | none=>simp [hf] at h
 | some fn=>exact ⟨fn,rfl,by simpa [hf] using h⟩

theorem tP {S f off t}(h:mE P S f=some (off,t)):∃fs fl,P.underlying S=some (.struct fs)∧fs[f]?=some fl∧fl.offset=off∧fl.type=t:=by
 unfold mE at h;split at h
 · rename_i fs hu
   cases hf:fs[f]? with
   | none=>simp [hf] at h
   | some fl=>simp [hf] at h;exact ⟨fs,fl,hu,hf,h.1,h.2⟩
 · cases h
theorem mF {T e}(h:ik P T=some e):P.underlying T=some (.slice e):=by
 unfold ik at h;split at h<;>simp_all
theorem zT {T n e}(h:cP P T=some (n,e)):P.underlying T=some (.array n e):=by
 unfold cP at h;split at h<;>simp_all
theorem oX {T}(h:jx P T=true):P.underlying T=some .string:=by
 unfold jx at h;split at h<;>simp_all

theorem zU (fs:List Field)(w:World)(h:∀f∈fs,(N6 P f.type).isSome=true):
 (fs.mapM (fun f=>do pure (f.offset,←sizeOf f.type):Field→Sem (Nat×Nat))).run P w= .ok (fs.map fun f=>(f.offset,(N6 P f.type).getD 0)) w:=by
 induction fs with
 | nil=>simp
 | cons f fs ih=>
   have hf:=h f Js;obtain ⟨n,hn⟩:=I1.1 hf;simp only [IL,Fb,Ru P f.type n w hn,EX,Fp,ih (fun x hx=>h x Da),Ga,hn,Gw]
end

theorem zV {pl pl':Nat→Option (Nat×Nat)}(hp:∀i x,pl i=some x→pl' i=some x):∀(ps:List (Nat×Operand)) l,X7 pl ps=some l→X7 pl' ps=some l:=by
 intro ps
 induction ps with
 | nil=>intro l h;exact h
 | cons p ps ih=>
   obtain ⟨i,x⟩:=p;intro l h;simp only [X7] at h ⊢;split at h
   · rename_i o s r I M;rw [hp _ _ I,ih _ M];exact h
   · cases h

theorem tQ {T k}(h:X8 P T=some k):P.underlying T=some (.int k):=by
 unfold X8 at h;split at h<;>simp_all
theorem zW {T}(h:¬oS P T=true):∃d,P.underlying T=some d∧∀ms,d≠ .interface ms:=by
 unfold oS at h;split at h
 · simp at h
 · rename_i d hd hu;exact ⟨d,hu,fun ms hm=>hd ms (by rw [←hm])⟩
 · simp at h

theorem X9 {y:Nat}{c:BoundsCode}(h:n≤y):(Instr.sliceBound (.int k n) y c).run P w= .ok n w:=by
 have:(n:Int)≤y:=CP;simp [Instr.sliceBound,asIntOf,this]

theorem tR {U:KD}{isS:Bool}{len:Nat}{l h:Nat}(hm:MQ U cap mx m)(hh:MQ U len hi h)(hl:MQ U 0 lo l)
 (I:m≤cap)(M:h≤m)(h3:l≤h)(hmx:mx.isSome=true→hi.isSome=true):
 (Instr.sliceBounds isS len cap (lo.map U.ev) (hi.map U.ev) (mx.map U.ev)).run P w= .ok (l,h,m) w:=by
 cases mx with
 | none=>
   simp only [MQ] at hm;subst hm
   cases hi with
   | none=>
     simp only [MQ] at hh;subst hh
     cases lo with
     | none=>simp only [MQ] at hl;subst hl;simp [Instr.sliceBounds]
     | some x=>obtain ⟨k,hx⟩:=hl;simp [Instr.sliceBounds,hx,X9 h3]
   | some y=>
     obtain ⟨k,hy⟩:=hh
     cases lo with
     | none=>simp only [MQ] at hl;subst hl;simp [Instr.sliceBounds,hy,X9 M]
     | some x=>obtain ⟨k,hx⟩:=hl;simp [Instr.sliceBounds,hy,hx,X9 M,X9 h3]
 | some z=>
   obtain ⟨k,hz⟩:=hm
   cases hi with
   | none=>simp at hmx
   | some y=>
     obtain ⟨k,hy⟩:=hh
     cases lo with
     | none=>simp only [MQ] at hl;subst hl;simp [Instr.sliceBounds,hz,hy,X9 I,X9 M]
     | some x=>obtain ⟨k,hx⟩:=hl;simp [Instr.sliceBounds,hz,hy,hx,X9 I,X9 M,X9 h3]

theorem zX {o:Oper}{U:KD}{K:KT}{Q:QT}{h:(Ky P o).wp P U w K Q}:PN P o U w K Q:=by
 obtain ⟨dst,op,T,pos,af,g⟩:=o
 cases dst with
 | none =>
   cases op;all_goals try exact h
   case store T x v=>
    simp only [Ky] at h;split at h
    · rename_i hs hz;obtain ⟨a,c,hx,O,hf,ho,hk⟩:=h;refine tM (B:=w.setCell a (U.ev v)) ?_ hk;have hcs:(U.ev v).cells=#[U.ev v]:=(by cases hv:U.ev v<;>simp_all [Value.cells,oneC]);have ho':(U.ev v).oneCell'=true:=(by cases hv:U.ev v<;>simp_all [Value.oneCell',oneC]);simp [execOp,Instr.storeAt,Instr.sureAddr,hx,storeVar,Ru P T 1 w hz,hcs,storeCells,zP,run_store P w a _ .plain ho',O,hf]
    · rename_i n hs hz
      split at h
      · rename_i ha;obtain ⟨a,cs,B,hx,hv,hn,hst,hk⟩:=h;refine tM (B:=B) ?_ hk;simp [execOp,Instr.storeAt,Instr.sureAddr,hx,hv,storeVar,Ru P T n w hz,Value.cells,hn,hst]
      · exact h
    · exact h
   case call c=>
    obtain ⟨callee,xs,ts⟩:=c
    cases callee with
    | invoke=>exact h
    | builtin=>exact h
    | value f=>
      cases f with
      | const=>exact h
      | global=>exact h
      | func f=>
        simp only [Ky] at h;split at h
        · rename_i hg;obtain ⟨fn,I,M,h3⟩:=tO hg;exact CG
        · exact h
      | tmp f=>
        obtain ⟨f,fst,cap,fn,hx,I,M,h3,h4⟩:=h;exact oR hx I M h3 h4
 | some d =>
   cases op;all_goals try exact h
   case pick c x y=>
    obtain ⟨b,hb,hk⟩:=h;refine MR (B:=w) ?_ hk;simp [execOp,hb,asBool]
   case unOp op T x=>
    obtain ⟨v,hb,hk⟩:=h;have hb:=hb w;exact MR (B:=w) (by simp [execOp,hb]) hk
   case binOp op T x y T'=>
    obtain ⟨v,hb,hk⟩:=h;have hb:=hb w;refine MR (B:=w) ?_ hk;simp only [execOp,Fb] at hb ⊢;rw [hb];rfl
   case nilCheck x=>
    obtain ⟨a,hx,hk⟩:=h;refine MR (B:=w) ?_ hk;simp [execOp,hx]
   case extract x i=>
    obtain ⟨vs,v,hx,hv,hk⟩:=h;refine MR (B:=w) ?_ hk;simp [execOp,Instr.extract,hx,hv]
   case load T x=>
    simp only [Ky] at h;split at h
    · rename_i hs;obtain ⟨a,v,hx,hv,hk⟩:=h;refine MR (B:=w) (v:=v) ?_ hk;simp [execOp,Instr.loadAt,Instr.sureAddr,hx,loadVar,oT P T w hs,hv]
    · split at h
      · rename_i hs n hn
        split at h
        · rename_i ha;obtain ⟨a,cs,hx,hv,hk⟩:=h;refine MR (B:=w) ?_ hk;simp [execOp,Instr.loadAt,Instr.sureAddr,hx,loadVar,oU P T w ha,Ru P T n w hn,jz (P:=P) a n cs hv]
        · exact h
      · exact h
   case fieldAddr S x f=>
    simp only [Ky] at h;split at h
    · rename_i off t hf
      split at h
      · rename_i n hn;obtain ⟨a,hx,hk⟩:=h;obtain ⟨fs,fl,hu,hfl,rfl,rfl⟩:=tP hf;refine MR (B:=w) ?_ hk;simp [execOp,Instr.fieldAt,Qa P S _ w hu,hfl,Instr.sureAddr,hx,fieldPlace,Ru P fl.type _ w hn]
      · exact h
    · exact h
   case field S x f=>
    simp only [Ky] at h;split at h
    · rename_i off t hf
      obtain ⟨fs,fl,hu,hfl,rfl,rfl⟩:=tP hf;split at h
      · rename_i hs;obtain ⟨cs,v,hx,hv,hk⟩:=h;refine MR (B:=w) (v:=v) ?_ hk;simp [execOp,Instr.field,Qa P S _ w hu,hfl,asAgg,hx,oV P fl.type cs fl.offset v w hs hv]
      · split at h
        · rename_i n hn
          split at h
          · rename_i ha;obtain ⟨cs,hx,hk⟩:=h;refine MR (B:=w) ?_ hk;simp [execOp,Instr.field,Qa P S _ w hu,hfl,asAgg,hx,zQ P fl.type cs fl.offset n w ha hn]
          · exact h
        · exact h
    · exact h
   case indexAddr T x i=>
    simp only [Ky] at h;split at h
    · rename_i e he
      have hu:=mF he;split at h
      · rename_i s hs;obtain ⟨a,len,cap,k,n,hx,hi,h0,hl,hk⟩:=h;refine MR (B:=w) ?_ hk;simp [execOp,Instr.indexAt,asIntOf,hi,hx,Qa P T _ w hu,h0,hl,Ru P e s w hs]
      · exact h
    · split at h
      · rename_i hn m e he
        have hu:=zT he;split at h
        · rename_i s hs;obtain ⟨a,k,n,hx,hi,h0,hl,hk⟩:=h;refine MR (B:=w) ?_ hk;simp [execOp,Instr.indexAt,asIntOf,hi,hx,Qa P T _ w hu,h0,hl,Ru P e s w hs,Instr.sureAddr]
        · exact h
      · exact h
   case index T x i=>
    simp only [Ky] at h;split at h
    · rename_i hs;have hu:=oX hs;obtain ⟨s,k,n,b,hx,hi,h0,hl,hk⟩:=h;refine MR (B:=w) ?_ hk;simp [execOp,Instr.index,asIntOf,hi,hx,Qa P T _ w hu,h0,hl]
    · exact h
   case alloc T=>
    simp only [Ky] at h;split at h
    · rename_i z hz;refine MR (v:= .pointer (some ⟨w.heap.size,0,none⟩)) (B:=w.alloc (.cells z.cells T)) ?_ h;simp [execOp,Instr.alloc,bj P T z w hz,newVar,newRow]
    · exact h
   case makeFunc fn fst caps=>
    cases fn with
    | func f=>
      simp only [Ky] at h;split at h
      · rename_i hz;have:fst=#[]:=Array.size_eq_zero_iff.1 hz;subst this;refine MR (v:= .func (.func f) #[] ⟨caps.toList.map U.ev⟩) (B:=w) ?_ h;have he:(⟨caps.toList.map U.ev⟩:Array Value)=caps.map U.ev:=(by apply HB;simp);simp [execOp,Instr.makeFunc,he]
      · exact h
    | _=>exact h
   case slice T x lo hi mx=>
    simp only [Ky] at h;split at h
    · rename_i e he
      have hu:=mF he;split at h
      · rename_i s hs
        split at h
        · exact h
        · rename_i hmx;obtain ⟨a,len,cap,l,hh,m,hx,hm,hhi,hlo,I,M,h3,hk⟩:=h;refine MR (B:=w) ?_ hk;simp only [execOp,Instr.sliceAt,Fb,Qa P T _ w hu,EX,Instr.slice,hx,tR (P:=P) (w:=w) (isS:=true) hm hhi hlo I M h3 (by cases mx<;>cases hi<;>simp_all),Ru P e s w hs,Fp]
      · exact h
    · split at h
      · rename_i O;simp only [EW] at O;have hu:=oX O.1;have hmx:mx=none:=(by simpa using O.2);subst hmx;obtain ⟨s,l,hh,hx,hhi,hlo,M,h3,hk⟩:=h;refine MR (B:=w) ?_ hk;have hb:=tR (P:=P) (w:=w) (isS:=false) (mx:=none) (m:=s.size) (cap:=s.size) rfl hhi hlo (E6 _) M h3 Js;simp only [II] at hb;simp only [execOp,Instr.sliceAt,Fb,Qa P T _ w hu,EX,Instr.slice,hx,II,JV,E2,if_false,hb,Fp]
      · exact h
   case convert S T x=>
    simp only [Ky] at h;split at h
    · rename_i k k' hs ht;obtain ⟨k2,n,hx,hk⟩:=h;refine MR (B:=w) ?_ hk;simp [execOp,convert,Qa P S _ w (tQ hs),Qa P T _ w (tQ ht),hx,Conv.intToInt]
    · exact h
   case makeInterface T x=>
    simp only [Ky] at h;split at h
    · exact h
    · rename_i hi;refine MR (B:=w) (v:= .iface T (U.ev x)) ?_ h;obtain ⟨d',hd,hd'⟩:=zW hi;simp only [execOp,Instr.makeInterface,Fb,Qa P T _ w hd,EX];cases d' <;>first|rfl|exact (hd' _ rfl).elim
   case build T ps=>
    simp only [Ky] at h;split at h
    · rename_i z pl hz hpl
      split at h
      · rename_i l hl
        obtain ⟨cs,hf,hk⟩:=h;have hfill:=oW pl U ps.toList l z.cells cs hl hf;refine MR (B:=w) ?_ hk;have hm:(ps.map fun p=>(p.1,U.ev p.2)).toList=ps.toList.map fun p=>(p.1,U.ev p.2):=C3;unfold tL at hpl;split at hpl
        · rename_i fs hu
          split at hpl
          · rename_i hall
            simp only [E3] at hpl;have hall':∀f∈fs.toList,(N6 P f.type).isSome=true:=FI.1 hall
            have hpl2:∀i x,pl i=some x→((fs.toList.map fun f=>(f.offset,(N6 P f.type).getD 0)).toArray)[i]?=some x:=by
             intro i x hx;subst hpl;simp only [Option.bind_eq_some_iff,Gq] at hx;obtain ⟨f,hf,s,hs,rfl⟩:=hx;simp [hf,hs]
            have hfill:=oW _ U ps.toList l z.cells cs (zV hpl2 _ _ hl) hf;simp only [execOp,Instr.build,Fb,bj P T z w hz,Qa P T _ w hu,EX,IX,Sem.run_map,zU fs.toList w hall',hm,hfill,Fp]
          · cases hpl
        · rename_i n e hu;simp only [Gq] at hpl;obtain ⟨s,hs,rfl⟩:=hpl;simp only [execOp,Instr.build,Fb,bj P T z w hz,Qa P T _ w hu,EX,Ru P e s w hs,hm,hfill,Fp]
        · cases hpl
      · exact h
    · exact h
   case buildSlice T n ps=>
    simp only [Ky] at h;split at h
    · rename_i e he
      have hu:=mF he;split at h
      · rename_i z s hz hs
        split at h
        · rename_i l hl
          split at h
          · rename_i O
            obtain ⟨hs0,hn0,hns,hzs⟩:=O;obtain ⟨cs,hf,hk⟩:=h;have hm:(ps.map fun p=>(p.1,U.ev p.2)).toList=ps.toList.map fun p=>(p.1,U.ev p.2):=by simp
            have hz0:(((Array.range (n*s)).map (z.cells[· % z.cells.size]!)):Array Value).toList=(List.range (n*s)).map fun i=>z.cells.toList.getD (i % s) default:=by
             simp [hzs];intro a _;rw [HV,FN]
            have hfill:=oW _ U ps.toList l ((Array.range (n*s)).map (z.cells[· % z.cells.size]!)) cs hl (by rw [hz0];exact hf);refine MR (B:=w.alloc (.cells ⟨cs⟩ e)) (v:= .slice (some ⟨w.heap.size,0,none⟩) n n) ?_ hk;have hne:¬(n*s=0):=(by have:=Nat.mul_pos hn0 hs0;omega);have hle:¬(n*s>2 ^ 24):=CP;simp only [execOp,Instr.buildSlice,Fb,Qa P T _ w hu,EX,Ru P e s w hs,Qin hle,Qin hne,bj P e z w hz,hm,hfill,Fp,newRow,run_newObj];rfl
          · exact h
        · exact h
      · exact h
    · exact h
   case call c=>
    obtain ⟨callee,xs,ts⟩:=c
    cases callee with
    | invoke=>exact h
    | builtin b=> 
      cases b;all_goals try exact h
      case min=>
       simp only [Ky] at h;split at h
       · rename_i x y hxs;have hxs':xs=#[x,y]:=DG;subst hxs';obtain ⟨k,k',a,b,hx,hy,hk⟩:=h;refine MR (B:=w) ?_ hk;simp [execOp,resolve,invoke,builtin,Builtin.min_,Builtin.min2,hx,hy]
       · exact h
      case max=>
       simp only [Ky] at h;split at h
       · rename_i x y hxs;have hxs':xs=#[x,y]:=DG;subst hxs';obtain ⟨k,k',a,b,hx,hy,hk⟩:=h;refine MR (B:=w) ?_ hk;simp [execOp,resolve,invoke,builtin,Builtin.max_,Builtin.max2,hx,hy]
       · exact h
      case len=>
       simp only [Ky] at h;split at h
       · rename_i x T hxs hts
         have hxs':xs=#[x]:=DG;have hts':ts=#[T]:=(by apply HB;simpa using hts);subst hxs' hts';split at h
         · rename_i hs;have hu:=oX hs;obtain ⟨s,hx,hk⟩:=h;refine MR (B:=w) ?_ hk;simp [execOp,resolve,invoke,builtin,Builtin.len_,hx,Qa P T _ w hu,goInt]
         · split at h
           · rename_i he;obtain ⟨e,he⟩:=I1.1 he;have hu:=mF he;obtain ⟨a,n,c,hx,hk⟩:=h;refine MR (B:=w) ?_ hk;simp [execOp,resolve,invoke,builtin,Builtin.len_,hx,Qa P T _ w hu,goInt]
           · exact h
       · exact h
    | value f=>
      cases f with
      | const=>exact h
      | global=>exact h
      | func f=>
        simp only [Ky] at h;split at h
        · rename_i hg;obtain ⟨fn,I,M,h3⟩:=tO hg;exact CG
        · exact h
      | tmp f=>
        obtain ⟨f,fst,cap,fn,hx,I,M,h3,h4⟩:=h;exact oR hx I M h3 h4

theorem zY {o:Oper}{U:KD}{K:KT}{Q:QT}(h:PN P (bg o) U w K Q):PN P o U w K Q:=h

theorem tS {o:Oper}{U:KD}{K:KT}{Q:QT}(h:(il P o).wp P U w K Q):PN P o U w K Q:=by
 refine' zX;unfold il at h;cases hl:Ky P o<;>rw [hl] at h<;>first|exact h|exact zY h


structure GO where
 g:Option (Nat×Bool)
 o:LO

def XC (v:Value)(b:Bool):Bool:=match v with
 | .bool b'=>b'==b
 | _=>false

def Q0 (P:Program):List GO→QT→KD→World→Prop
 | [],Q,U,w=>Q .normal U w
 | ⟨none,o⟩::l,Q,U,w=>o.wp P U w (Q0 P l Q) Q
 | ⟨some (s,b),o⟩::l,Q,U,w=>if XC (U s) b then o.wp P U w (Q0 P l Q) Q else Q0 P l Q (KR U o.dst undef) w

def O7 (P:Program)(ops:Array Oper)(o:Oper):GO:=
 ⟨o.guard.bind fun p=>((ops[p.1]?).bind (·.dst)).map fun s=>(s,p.2),il P o⟩

def PO (n:Nat)(ops:Array Oper)(o:Oper):Bool:=
 (match o.dst with|some d=>decide (d<n)|none=>true) &&
 (match o.guard with
  | some (j,_)=>(match (ops[j]?).bind (·.dst) with|some s=>decide (s<n)|none=>false)
  | none=>true)

theorem zZ (P:Program)(o:Oper):(Ky P o).dst=o.dst:=by
 obtain ⟨dst,op,T,pos,af,g⟩:=o
 cases dst with
 | none=>
   unfold Ky;dsimp only
   repeat' split
   all_goals rfl
 | some d=>
   unfold Ky;dsimp only
   repeat' split
   all_goals rfl

theorem z6 (P:Program)(o:Oper):(il P o).dst=o.dst:=by
 rw [←zZ P o];unfold il;cases Ky P o<;>rfl

theorem z7 {U:KD}{a:Act}{ops:Array Oper}{b:Bool}(hr:OA n U ds a)
 (hj:(ops[j]?).bind (·.dst)=some s)(hs:s<n):(yielded ops a.tmps j==some b)=XC (U s) b:=by
 have I:a.tmps[s]?=some (U s):=by
  have:=hr.2.1 s;rw [FN] at this;have hlt:s<a.tmps.size:=(by rw [hr.1];exact hs);rw [GB hlt] at this ⊢
  simpa using this
 simp only [yielded,hj,Option.bind_some,I];cases hv:U s<;>simp [XC]

theorem tT {U:KD}{a:Act}{ops:Array Oper}{o:Oper}(hr:OA n U ds a)(ho:PO n ops o=true):
 (∀(l:List GO) (Q:QT) (w:World),Q0 P (O7 P ops o::l) Q U w→if Region.wanted o (yielded ops a.tmps) then (il P o).wp P U w (Q0 P l Q) Q else Q0 P l Q (KR U o.dst undef) w):=by
 intro l Q w h;unfold O7 at h;unfold PO at ho
 cases hg:o.guard with
 | none=>
   rw [hg] at h;simp only [Option.bind_none,Q0] at h;simp only [Region.wanted,hg,if_true];exact h
 | some p=>
   obtain ⟨j,b⟩:=p;rw [hg] at h ho;simp only [EW] at ho;obtain ⟨_,ho⟩:=ho
   cases hs:(ops[j]?).bind (·.dst) with
   | none=>simp [hs] at ho
   | some s=>
     simp only [hs,decide_eq_true_eq] at ho;simp only [Option.bind_some,hs,FJ,Q0,z6] at h;simp only [Region.wanted,hg,z7 hr hs ho];exact h

theorem im {ops:Array Oper}{o:Oper}(h:PO n ops o=true):∀x,o.dst=some x→x<n:=by
 intro x hx;unfold PO at h;simp only [hx,EW,decide_eq_true_eq] at h;exact h.1

theorem z9 {o:Oper}{a:Act}{K K':Act→World→Prop}{Q:Exit→Act→World→Prop}(hk:∀a w,K a w→K' a w)(r:Result Next)(h:o.upon P a K Q r):o.upon P a K' Q r:=by
 cases r with
 | ok n w=>
   cases n<;>first|exact hk _ _ h|exact h|skip
   · refine Calls.mono h fun e w h=>?_;cases e<;>first|exact hk _ _ h|exact h
   · exact Rows.mono h fun v w h=>hk _ _ h
 | halt x w=>cases x<;>exact h

theorem mG {ops:Array Oper}{Q:QT}:∀(l:List Nat) (U:KD) (a:Act) (w:World),OA n U ds a→
 (∀i∈l,∃o,ops[i]?=some o∧PO n ops o=true)→
 Q0 P (l.filterMap fun i=>(ops[i]?).map (O7 P ops)) Q U w→wpOps P ops (bd n ds Q) l a w:=by
 intro l
 induction l with
 | nil=>intro U a w hr _ h;exact ⟨U,hr,h⟩
 | cons i l ih=>
   intro U a w hr hok h;obtain ⟨o,ho,hg⟩:=hok i Js;have hok':∀i∈l,∃o,ops[i]?=some o∧PO n ops o=true:=fun i hi=>hok i (by simp [hi]);simp only [Ht,ho,FJ] at h;have h':=tT hr hg _ Q w h;simp only [wpOps,ho];split
   · rename_i hw;rw [Qip hw] at h';have I:=tK (ds:=ds) hr (im hg) (tS h');exact .inl (z9 (fun a w ⟨U,hr,h⟩=>ih U a w hr hok' h) _ I)
   · rename_i hw;rw [Qin hw] at h';exact ih _ _ w (hr.put _ _ (im hg)) hok' h'

inductive LC where
 | skip
 | ops (l:List GO)
 | draw (gs:List GO) (es:List (List Nat))
 | seq (a b:LC)
 | cond (c:Operand) (a b:LC)
 | block (id:Nat) (a:LC)
 | loop (a:LC)
 | exit (id:Nat)
 | ret
 | bad

def SJ (es:List (List Nat)):List Nat→List Nat→Prop
 | X,[]=>∀i,i<es.length→i∈X
 | X,i::l=>i<es.length∧i∉X∧(∀e∈es.getD i [],e∈X)∧SJ es (i::X) l

def jA (i:Nat)(e:Edge):Bool:=decide (e.on<i) && (match e.ground with| .textOnly _=>false| .gcOnly _=>false|_=>true)
def mH (os:List Oper):Bool:=(os.zipIdx).all fun p=>p.1.after.toList.all (jA p.2)

def SK (m:Region.Mode)(os:Array Oper):List Nat→List Nat→Bool
 | seen,[]=>(List.range os.size).all fun i=>seen.contains i
 | seen,i::r=>(match os[i]? with
   | some o=>o.after.toList.all (fun e=> !Region.binds m e||seen.contains e.on && decide (e.on<os.size))
   | none=>false) && SK m os (i::seen) r
def tU (i:Nat)(e:Edge):Bool:= !Region.binds .any e||decide (e.on<i)
def oY (os:Array Oper):Bool:=(os.toList.zipIdx.all fun p=>p.1.after.toList.all (tU p.2)) && SK .text os [] (Region.linearise .text os 0) && SK .gc os [] (Region.linearise .gc os 0) && SK .any os [] (Region.linearise .any os 0)
def iq (os:Array Oper):Bool:=mH os.toList||oY os
def Ya (os:Array Oper):List (List Nat):=os.toList.map fun o=>(o.after.toList.filter (Region.binds .any)).map (·.on)
def GO.nop:GO:=⟨none, .mov 0 (.const undef)⟩

def Rf (P:Program)(n:Nat):Code→LC
 | .skip=> .skip
 | .region _ ops false=>if ops.toList.all (PO n ops) then .ops (ops.toList.map (O7 P ops)) else .bad
 | .region _ ops true=>if ops.toList.all (PO n ops) && iq ops then .draw (ops.toList.map (O7 P ops)) (Ya ops) else .bad
 | .seq a b=> .seq (Rf P n a) (Rf P n b)
 | .cond c a b=> .cond c (Rf P n a) (Rf P n b)
 | .block id a=> .block id (Rf P n a)
 | .loop a=> .loop (Rf P n a)
 | .exit id=> .exit id
 | .ret=> .ret
 | _=> .bad

def Qp (K:KT)(Q:QT):QT
 | .normal,U,w=>K U w
 | e,U,w=>Q e U w
def Qk (id:Nat)(Q:QT):QT
 | .exit id',U,w=>if id'=id then Q .normal U w else Q (.exit id') U w
 | e,U,w=>Q e U w

def LC.wp (P:Program):LC→QT→KD→World→Prop
 | .skip,Q,U,w=>Q .normal U w
 | .ops l,Q,U,w=>Q0 P l Q U w
 | .draw gs es,Q,U,w=>∀l,SJ es [] l→Q0 P (l.map fun i=>gs.getD i GO.nop) Q U w.drew
 | .seq a b,Q,U,w=>a.wp P (Qp (b.wp P Q) Q) U w
 | .cond c a b,Q,U,w=>∃t,U.ev c= .bool t∧(if t then a.wp P Q U w else b.wp P Q U w)
 | .block id a,Q,U,w=>a.wp P (Qk id Q) U w
 | .loop a,Q,U,w=>∃(I0q:KD→World→Prop) (μ:KD→World→Nat),I0q U w∧∀U w,I0q U w→a.wp P (Qp (fun ρ' B=>I0q ρ' B∧μ ρ' B<μ U w) Q) U w
 | .exit id,Q,U,w=>Q (.exit id) U w
 | .ret,Q,U,w=>Q .ret U w
 | .bad,_,_,_=>False

theorem oZ {f g:α→Option β}:∀{l:List α},(∀x∈l,f x=g x)→l.filterMap f=l.filterMap g:=by
 intro l
 induction l with
 | nil=>intro _;rfl
 | cons a l ih=>intro h;simp only [Ht,h a Js,ih (fun x hx=>h x Da)]

theorem tV {ops:Array Oper}{t:Nat}:∀i∈Region.schedule mixed ops t,∃o,ops[i]?=some o:=by
 have key:∀(m:Region.Mode) fuel t listed acc,(∀i∈acc,∃o,ops[i]?=some o)→∀i∈Region.linearise.go m ops fuel t listed acc,∃o,ops[i]?=some o:=by
  intro m fuel
  induction fuel with
  | zero=>intro t listed acc h i hi;simp [Region.linearise.go] at hi;exact h i hi
  | succ fuel ih=>
    intro t listed acc h i hi;simp only [Region.linearise.go] at hi;split at hi
    · rename_i j hj
      refine ih _ _ (j::acc) ?_ i hi;intro k hk;rcases E4.1 hk with rfl|hk
      · have:=EK hj;simp only [G9,Fx] at this;exact ⟨ops[k],by simp [this.1]⟩
      · exact h k hk
    · exact h i Du
 intro i hi;unfold Region.schedule at hi;split at hi
 · exact key _ _ _ _ [] Js i hi
 · exact key _ _ _ _ [] Js i hi

theorem QeN:∀(n:Nat) (X:List Nat),X.Nodup→(∀x∈X,x<n)→X.length≤n:=by
 intro n
 induction n with
 | zero=>
   intro X _ h
   cases X with
   | nil=>simp
   | cons x X=>exact absurd (h x Js) V
 | succ n ih=>
   intro X hnd h
   have I:=ih (X.erase n) (hnd.erase n) (fun x hx=>by
    have:=(List.Nodup.mem_erase_iff hnd).1 hx;have:=h x this.2;omega)
   by_cases hm:n∈X
   · rw [I2 hm] at I;omega
   · rw [List.erase_of_not_mem hm] at I;omega

theorem pc (h:mH os.toList=true){i:Nat}{o:Oper}(ho:os[i]?=some o){e:Edge}(he:e∈o.after):jA i e=true:=by
 unfold mH at h;have:=FI.1 h (o,i) Ea;exact FI.1 this e (by simpa using he)

def cQ (m:Region.Mode)(os:Array Oper):Prop:=∀X:List Nat,(∃i,i<os.size∧i∉X)→∃i o,os[i]?=some o∧i∉X∧∀e∈o.after,Region.binds m e=true→e.on∈X∧e.on<os.size

theorem QgX (h:mH os.toList=true):cQ .any os:=by
 rintro X ⟨i,hi,hX⟩
 induction i using Nat.strongRecOn with
 | _ i ih=>
   by_cases hall:∀j,j<i→j∈X
   · refine ⟨i,os[i],by simp [hi],hX,fun e he _=>?_⟩;have hp:=pc h (i:=i) (o:=os[i]) (by simp [hi]) he;unfold jA at hp;simp only [EW,decide_eq_true_eq] at hp;exact ⟨hall _ hp.1,V⟩
   · have ⟨j,hj⟩:=JA.1 hall;have ⟨hj1,hj2⟩:=Classical.not_imp.1 hj;exact ih j hj1 V hj2

theorem mI {m:Region.Mode}{os:Array Oper}:∀{r seen:List Nat},SK m os seen r=true→∀X:List Nat,(∀i∈seen,i∈X)→(∃i,i<os.size∧i∉X)→∃i o,os[i]?=some o∧i∉X∧∀e∈o.after,Region.binds m e=true→e.on∈X∧e.on<os.size
 | [],seen,h,X,hs,⟨i,hi,hX⟩=>by
   have:=FI.1 h i (Fx.2 hi);exact absurd (hs i (by simpa using this)) hX
 | i ::r,seen,h,X,hs,hx=>by
   simp only [SK,EW] at h;obtain ⟨I,M⟩:=h;by_cases hi:i∈X
   · exact mI M X (fun j hj=>(E4.1 hj).elim (fun e=>e ▸ hi) (hs j)) hx
   · split at I
     · rename_i o ho;refine ⟨i,o,ho,hi,fun e he hb=>?_⟩;have:=FI.1 I e (by simpa using he);rw [hb] at this;simp only [Ih,G7,EW,decide_eq_true_eq] at this;exact ⟨hs _ (by simpa using this.1),this.2⟩
     · cases I
theorem Qke {m:Region.Mode}{e:Edge}(h:Region.binds .any e=true):Region.binds m e=true:=by
 unfold Region.binds at h ⊢;split at h<;>simp_all
theorem Qce (h:iq os=true){i:Nat}{o:Oper}(ho:os[i]?=some o){e:Edge}(he:e∈o.after)(hb:Region.binds .any e=true):e.on<i:=by
 unfold iq at h;rw [Ha] at h;rcases h with h|h
 · have hp:=pc h ho he;unfold jA at hp;simp only [EW,decide_eq_true_eq] at hp;exact hp.1
 · unfold oY at h
   simp only [EW] at h;have:=FI.1 h.1.1.1 (o,i) Ea;have:=FI.1 this e (by simpa using he);unfold tU at this;rw [hb] at this
   simpa using this

theorem cR (m:Region.Mode)(hback:∀(i:Nat) (o:Oper),os[i]?=some o→∀e∈o.after,Region.binds .any e=true→e.on<i)(hprog:cQ m os):∀(fuel t:Nat) (listed:Array Bool) (acc X:List Nat),listed.size=os.size→(∀i,i<os.size→(listed.getD i false=true↔i∈X))→
 (∀i∈X,i<os.size)→X.Nodup→os.size≤fuel+X.length→
 ∃l,Region.linearise.go m os fuel t listed acc=acc.reverse++l∧SJ (Ya os) X l:=by
 intro fuel
 induction fuel with
 | zero=>
   intro t listed acc X hsz hX hlt hnd hf;refine ⟨[],by simp [Region.linearise.go],?_⟩;intro i hi;simp only [Ya,EM,FZ] at hi;rcases Jf (i∈X) with O|O
   · exact O
   · have:=QeN os.size (i::X) (GM.2 ⟨O,hnd⟩) (by intro j hj;rcases E4.1 hj with rfl|hj;exact hi;exact hlt j hj);simp at this;omega
 | succ fuel ih=>
   intro t listed acc X hsz hX hlt hnd hf;simp only [Region.linearise.go];split
   · rename_i i hi
     have hm:=EK hi;simp only [G9,Fx,EW] at hm;obtain ⟨hilt,hnl,hr⟩:=hm;have hget:os[i]?=some os[i]:=(by simp [hilt]);rw [hget] at hr;simp only [FJ,Gw] at hr
     have hiX:i∉X:=by
      intro O;have:=(hX i hilt).2 O;simp [Array.getD,hsz,hilt] at hnl this;simp [this] at hnl
     obtain ⟨l,I,M⟩:=ih (t / _) (listed.setIfInBounds i true) (i::acc) (i::X) (by simp [hsz]) (by
      intro j hj;have:=hX j hj;by_cases hij:i=j
      · subst hij;simp [Array.getD,hsz,hj]
      · rw [FN,Iy hij,←FN,this]
        simp [Ib hij]) (by intro j hj;rcases E4.1 hj with rfl|hj;exact hilt;exact hlt j hj) (GM.2 ⟨hiX,hnd⟩) CT
     refine ⟨i::l,by rw [I];simp,by simpa [Ya] using hilt,hiX,?_,M⟩;intro e he;simp only [Ya,EL,EZ,F5,hget,FJ,Gw,Fq,G9] at he;obtain ⟨ed,⟨hed,hb⟩,rfl⟩:=he;have hed':ed∈os[i].after:=(by simpa using hed);have hp:=hback i _ hget ed hed' hb;have:=Io.1 hr ed hed';simp only [Qke hb,Ih,G7] at this;exact (hX ed.on V).1 this
   · rename_i hi
     refine ⟨[],by simp,?_⟩;intro i hi';simp only [Ya,EM,FZ] at hi';rcases Jf (i∈X) with O|O
     · exact O
     exfalso;obtain ⟨j,o,hj,hjX,hjr⟩:=hprog X ⟨i,hi',O⟩;have hjlt:j<os.size:=(Hz.1 hj).1
     have hmem:j∈(List.range os.size).filter fun i=> !listed.getD i true && ((os[i]?).map (·.after.all fun e=> !Region.binds m e||listed.getD e.on false)).getD false:=by
      simp only [G9,Fx,EW];refine ⟨hjlt,?_,?_⟩
      · have:=mt (hX j hjlt).1 hjX
        simp [Array.getD,hsz,hjlt] at this ⊢
        simpa using this
      · rw [hj]
        simp only [FJ,Gw];rw [Io];intro e he
        cases hb:Region.binds m e with
        | false=>rfl
        | true=>
          obtain ⟨I,M⟩:=hjr e he hb;have:=(hX e.on M).2 I;simp [this]
     have hlen:0<((List.range os.size).filter fun i=> !listed.getD i true && ((os[i]?).map (·.after.all fun e=> !Region.binds m e||listed.getD e.on false)).getD false).length:=
      Hf hmem
     rw [IY] at hi;have:=IP t hlen;omega

theorem mJ {m:Region.Mode}{t:Nat}(h:iq os=true)(hp:cQ m os):SJ (Ya os) [] (Region.linearise m os t):=by
 obtain ⟨l,I,M⟩:=cR m (fun i o ho e he hb=>Qce h ho he hb) hp os.size t (Array.replicate os.size false) [] [] Js (by intro i hi;simp [Array.getD,hi]) Js Js Js;unfold Region.linearise;rw [I]
 simpa using M
theorem Qi9 {t:Nat}(h:iq os=true):SJ (Ya os) [] (Region.schedule mixed os t):=by
 have h':=h;unfold iq at h';rw [Ha] at h';rcases h' with h'|h'
 · have hdep:Region.departs os=false:=by
    cases hd:Region.departs os with
    | false=>rfl
    | true=>
      unfold Region.departs at hd;rw [J4] at hd;obtain ⟨i,hi,hd⟩:=hd;rw [J4] at hd;obtain ⟨j,hj,hd⟩:=hd;have hp:=pc h' (i:=i) (o:=os[i]) (by simp [hi]) (e:=os[i].after[j]) Js;unfold jA at hp;unfold Region.binds at hd;cases hg:os[i].after[j].ground<;>simp [hg] at hp hd
   unfold Region.schedule;rw [hdep];simp only [H5,Bool.or_true,if_true];exact mJ h (QgX h')
 · unfold oY at h'
   simp only [EW] at h';have hany:=fun X hX=>mI h'.2 X (fun _ h=>(ET h).elim) hX;have htext:=fun X hX=>mI h'.1.1.2 X (fun _ h=>(ET h).elim) hX;have hgc:=fun X hX=>mI h'.1.2 X (fun _ h=>(ET h).elim) hX;unfold Region.schedule;split
   · exact mJ h hany
   · split
     · exact mJ h htext
     · exact mJ h hgc

theorem pd (g:α→β):∀(l pre:List α),(List.range' pre.length l.length).filterMap (fun i=>((pre++l)[i]?).map g)=l.map g:=by
 intro l
 induction l with
 | nil=>intro pre;simp
 | cons x l ih=>
   intro pre;have:=ih (pre++[x]);simp only [EO,HY,Gm,List.singleton_append] at this;simp only [EY,List.range'_succ,Ht,Ga];simp [this]

theorem pe:∀(c:Code) (Q:QT) (U:KD) (a:Act) (w:World),OA n U ds a→(Rf P n c).wp P Q U w→c.wp P (bd n ds Q) a w:=by
 have hokall:∀ops:Array Oper,ops.toList.all (PO n ops)=true→∀(i:Nat) (o:Oper),ops[i]?=some o→PO n ops o=true:=by
  intro ops h i o hi;exact FI.1 h o Dx
 intro c
 induction c with
 | skip=>intro Q U a w hr h;exact wp_skip ⟨U,hr,h⟩
 | region id ops draw=>
   intro Q U a w hr h
   cases draw with
   | false=>
     simp only [Rf] at h;split at h
     · rename_i hall
       refine wp_region ?_;refine mG _ U a w hr ?_ ?_
       · intro i hi;have hi':i<ops.size:=Du;exact ⟨ops[i],by simp [hi'],hokall ops hall i _ (by simp [hi'])⟩
       · have e:((List.range ops.size).filterMap fun i=>(ops[i]?).map (O7 P ops))=ops.toList.map (O7 P ops):=by
          have:=pd (O7 P ops) ops.toList []
          simpa [H6] using this
         rw [e];exact h
     · exact h.elim
   | true =>
     simp only [Rf] at h;split at h
     · rename_i hall
       simp only [EW] at hall;refine wp_region_draw fun t=>?_;have h':=h _ (Qi9 (mixed:=P.follows .mixedOrders) (t:=t) hall.2);refine mG _ U a _ hr ?_ ?_
       · intro i hi;obtain ⟨o,ho⟩:=tV i hi;exact ⟨o,ho,hokall ops hall.1 i o ho⟩
       · have e:((Region.schedule (P.follows .mixedOrders) ops t).filterMap fun i=>(ops[i]?).map (O7 P ops))=
          (Region.schedule (P.follows .mixedOrders) ops t).map fun i=>(ops.toList.map (O7 P ops)).getD i GO.nop:=by
          rw [←List.filterMap_eq_map];refine oZ ?_;intro i hi;obtain ⟨o,ho⟩:=tV i hi;have ho':ops.toList[i]?=some o:=(by simpa using ho);simp [ho,EL]
         rw [e];exact h'
     · exact h.elim
 | seq x y ihx ihy=>
   intro Q U a w hr h;refine wp_seq ?_;refine wp_mono (ihx _ U a w hr h) ?_;rintro e a w ⟨U,hr,h⟩
   cases e with
   | normal=>exact ihy _ U a w hr h
   | _=>exact ⟨U,hr,h⟩
 | cond c x y ihx ihy=>
   intro Q U a w hr h;obtain ⟨t,O,h⟩:=h;refine wp_cond (t:=t) (by rw [hr.ev];exact O) ?_;cases t
   · exact ihy _ U a w hr h
   · exact ihx _ U a w hr h
 | block id x ih=>
   intro Q U a w hr h;refine wp_block ?_;refine wp_mono (ih _ U a w hr h) ?_;rintro e a w ⟨U,hr,h⟩
   cases e with
   | exit id'=>
     simp only [Qk] at h;simp only [Exit.inBlock];split
     · rename_i he;rw [Qip he] at h;exact ⟨U,hr,h⟩
     · rename_i he;rw [Qin he] at h;exact ⟨U,hr,h⟩
   | _=>exact ⟨U,hr,h⟩
 | loop x ih=>
   intro Q U a w hr h;obtain ⟨I0q,μ,h0,hround⟩:=h;refine wp_loop (ba n ds I0q) (fun a w=>μ (fun i=>a.tmps.getD i undef) w) ⟨U,hr,h0⟩ ?_;rintro a w ⟨U,hr,hI⟩;have he:(fun i=>a.tmps.getD i undef)=U:=funext hr.2.1;refine wp_mono (ih _ U a w hr (hround U w hI)) ?_;rintro e a' B ⟨ρ',hr',h⟩
   cases e with
   | normal=>
     have he':(fun i=>a'.tmps.getD i undef)=ρ':=funext hr'.2.1;refine ⟨⟨ρ',hr',h.1⟩,?_⟩;simp only [he,he'];exact h.2
   | _=>exact ⟨ρ',hr',h⟩
 | exit id=>intro Q U a w hr h;exact wp_exit ⟨U,hr,h⟩
 | ret=>intro Q U a w hr h;exact wp_ret ⟨U,hr,h⟩
 | rangeFunc=>intro Q U a w hr h;exact h.elim
 | scope=>intro Q U a w hr h;exact h.elim
 | label=>intro Q U a w hr h;exact h.elim
 | goto=>intro Q U a w hr h;exact h.elim
 | refuse=>intro Q U a w hr h;exact h.elim


def Yb (l:List Value):KD:=fun i=>l.getD i undef

def R0:List Value→Value
 | [v]=>v
 | l=> .tuple ⟨l⟩

def Yc (P:Program)(w:World)(a:Addr)(T:TypeId)(v:Value):Prop:=
 (Tp P T=true∧w.cell? a=some v)∨(OB P T=true∧∃n cs,N6 P T=some n∧bf w a n cs∧v= .agg ⟨cs⟩)

def Qw (P:Program)(w:World)(U:KD):List ResultVar→List Value→(Value→Prop)→Prop
 | [],acc,R=>R (R0 acc.reverse)
 | .tmp t::rs,acc,R=>Qw P w U rs (U t::acc) R
 | .cell a T::rs,acc,R=>∃ad v,U a= .pointer (some ad)∧Yc P w ad T v∧Qw P w U rs (v::acc) R

def KN (P:Program)(rs:List ResultVar)(R:Ending→World→Prop):QT
 | .normal,U,w=>Qw P w U rs [] fun v=>R (.returned v) w
 | .ret,U,w=>Qw P w U rs [] fun v=>R (.returned v) w
 | .panic chain,_,w=>R (.panicked chain) w
 | .outgrown,_,w=>R .outgrown w
 | _,_,_=>False

theorem QjI {a:Addr}{v:Value}(h:Yc P w a T v):(loadVar T a).run P w= .ok v w:=by
 rcases h with ⟨hs,O⟩|⟨ha,n,cs,hn,O,rfl⟩
 · simp [loadVar,oT P T w hs,O]
 · simp [loadVar,oU P T w ha,Ru P T n w hn,jz (P:=P) a n cs O]

theorem QiU {U:KD}(f:ResultVar→Sem Value)(I:∀t,f (.tmp t)=pure (U t))(M:∀a t,f (.cell a t)=(do loadVar t (←asAddr (U a)))):
 ∀(rs:List ResultVar) (acc:List Value) (R:Value→Prop),Qw P w U rs acc R→∃vs,(rs.mapM f).run P w= .ok vs w∧R (R0 (acc.reverse++vs)):=by
 intro rs
 induction rs with
 | nil=>intro acc R h;exact ⟨[],by simp,by simpa [Qw] using h⟩
 | cons r rs ih=>
   intro acc R h
   cases r with
   | tmp t=>
     obtain ⟨vs,h3,h4⟩:=ih _ R h;refine ⟨U t::vs,?_,by simpa using h4⟩;simp only [IL,Fb,Fp,EX,I,h3]
   | cell a T=>
     obtain ⟨ad,v,ha,hv,h⟩:=h;obtain ⟨vs,h3,h4⟩:=ih _ R h;refine ⟨v::vs,?_,by simpa using h4⟩;simp only [IL,Fb,Fp,EX,M,ha,asAddr,QjI hv,h3]

theorem jB {U:KD}{tmps:Array Value}{R:Value→Prop}(ht:∀i,tmps.getD i undef=U i)
 (h:Qw P w U fn.results.toList [] R):∃v,(results fn tmps).run P w= .ok v w∧R v:=by
 unfold results
 obtain ⟨vs,I,M⟩:=QiU (U:=U) (fun
  | .tmp t=>pure (tmps.getD t undef)
  | .cell a t=>do loadVar t (←asAddr (tmps.getD a undef))) (fun t=>by simp only [ht]) (fun a t=>by simp only [ht]) _ _ _ h
 simp only [List.reverse_nil,HX] at M;refine ⟨R0 vs,?_,M⟩;simp only [IX,Fb,Sem.run_map];refine IM (congrArg (fun r=>((Result.andThen r _).andThen _)) I) ?_;simp only [EX,Fp]
 match vs with
 | []=>rfl
 | [v]=>rfl
 | v::u::vs=>simp [R0]

theorem QiT {e:Exit}{a:Act}
 (h:bd n [] (KN P fn.results.toList R) e a w):bodyPost P fn R e a w:=by
 obtain ⟨U,hr,h⟩:=h
 cases e with
 | normal=>obtain ⟨v,I,M⟩:=jB hr.2.1 h;exact ⟨hr.2.2,v,I,M⟩
 | ret=>obtain ⟨v,I,M⟩:=jB hr.2.1 h;exact ⟨hr.2.2,v,I,M⟩
 | panic ch=>exact ⟨hr.2.2,h⟩
 | outgrown=>exact h
 | exit=>exact h
 | goto=>exact h

theorem pf (args:Array Value)(n:Nat)(h:args.size≤n)(ds:List Deferred):OA n (Yb args.toList) ds {tmps:=args++Array.replicate (n - args.size) undef,defers:=ds}:=by
 refine ⟨by simp;omega,fun i=>?_,rfl⟩;simp only [Yb,FN,EL,Array.getElem?_append,Array.getElem?_replicate,F5];split
 · rfl
 · rename_i hi;rw [Gt V];split<;>simp

theorem QdN {c:Code}{lc:LC}
 (hf:P.funcs[f]?=some fn)(hb:fn.body=some c)(hl:Rf P fn.ntmps c=lc)(hrs:fn.results.toList=rs)(hn:Nat.ble args.length fn.ntmps=true)
 (h:lc.wp P (KN P rs R) (Yb args) w):Calls P f ⟨args⟩ w R:=by
 refine calls_of_wp hf hb ?_;subst hl hrs;have hn':args.length≤fn.ntmps:=FC hn;exact wp_mono (pe (ds:=[]) c _ _ _ _ (pf ⟨args⟩ fn.ntmps hn' []) h) fun e a w h=>QiT h

def cS (P:Program)(fn:Func):Option LC:=fn.body.map (Rf P fn.ntmps)

theorem QdM {lc:LC}
 (hf:P.funcs[f]?=some fn)(hl:cS P fn=some lc)(hrs:fn.results.toList=rs)(hn:Nat.ble args.length fn.ntmps=true)
 (h:lc.wp P (KN P rs R) (Yb args) w):Calls P f ⟨args⟩ w R:=by
 unfold cS at hl
 cases hb:fn.body with
 | none=>simp [hb] at hl
 | some c=>simp only [hb,FJ,E3] at hl;exact QdN hf hb hl hrs hn h

end
section

def OC:Operand→List Nat
 | .tmp t=>[t]
 | _=>[]
def SL:Option Operand→List Nat
 | some x=>OC x
 | none=>[]

def LO.uses:LO→List Nat
 | .mov _ x| .un _ _ x| .nilc _ x| .fld _ x _| .load1 _ x| .loadn _ _ x| .len _ x| .slen _ x| .ext _ x _| .fldv _ x _| .fldn _ x _ _| .box _ _ x| .conv _ _ x| .mki _ _ x=>OC x
 | .pick _ c x y=>OC c++OC x++OC y
 | .bin _ _ _ x y| .idx _ _ x y| .idxa _ _ _ x y| .sidx _ x y| .mnx _ _ x y| .store1 x y| .storen _ x y=>OC x++OC y
 | .alloc ..=>[]
 | .call _ _ xs=>xs.flatMap OC
 | .callv _ x xs=>OC x++xs.flatMap OC
 | .build _ _ ps| .buildS _ _ _ _ ps=>ps.flatMap fun p=>OC p.2.2
 | .mkfn _ _ xs=>xs.flatMap OC
 | .sub _ _ x a b c=>OC x++SL a++SL b++SL c
 | .ssub _ x a b=>OC x++SL a++SL b
 | .raw o=>o.op.operands.toList.flatMap OC

def LO.quiet:LO→Bool
 | .mov ..| .pick ..| .un ..| .bin ..| .nilc ..| .fld ..| .load1 ..| .loadn ..| .idx ..| .idxa ..| .len ..| .slen ..| .sidx ..| .ext ..| .fldv ..| .fldn ..| .build ..| .mkfn ..
 | .sub ..| .ssub ..| .mnx ..| .conv ..| .mki ..=>true
 | _=>false

def qv (P:Program)(U:KD)(w:World):LO→Value→Prop
 | .mov _ x,v=>v=U.ev x
 | .pick _ c x y,v=>∃b,U.ev c= .bool b∧v=(if b then U.ev x else U.ev y)
 | .un _ op x,v=>∀w0,(Op.unary op (U.ev x)).run P w0= .ok v w0
 | .bin _ op T x y,v=>∀w0,(do eqGuard op T x y (U.ev x) (U.ev y);binOp op T (U.ev x) (U.ev y)).run P w0= .ok v w0
 | .nilc _ x,v=>∃a,U.ev x= .pointer (some a)∧v= .pointer (some a)
 | .fld _ x off,v=>∃a,U.ev x= .pointer (some a)∧v= .pointer (some (a.add off))
 | .load1 _ x,v=>∃a,U.ev x= .pointer (some a)∧w.cell? a=some v
 | .loadn _ n x,v=>∃a cs,U.ev x= .pointer (some a)∧bf w a n cs∧v= .agg ⟨cs⟩
 | .idx _ es x i,v=>∃a len cap k n,U.ev x= .slice (some a) len cap∧U.ev i= .int k n∧0≤n∧n<len∧v= .pointer (some (a.add (n.toNat*es)))
 | .idxa _ m es x i,v=>∃a k n,U.ev x= .pointer (some a)∧U.ev i= .int k n∧0≤n∧n<(m:Int)∧v= .pointer (some (a.add (n.toNat*es)))
 | .len _ x,v=>∃a n c,U.ev x= .slice a n c∧v= .int .i64 n
 | .slen _ x,v=>∃s,U.ev x= .string s∧v= .int .i64 s.size
 | .sidx _ x i,v=>∃s k n b,U.ev x= .string s∧U.ev i= .int k n∧0≤n∧s[n.toNat]?=some b∧v= .int .u8 b.toNat
 | .ext _ x i,v=>∃vs,U.ev x= .tuple vs∧vs[i]?=some v
 | .fldv _ x off,v=>∃cs,U.ev x= .agg cs∧cs[off]?=some v
 | .fldn _ x off n,v=>∃cs,U.ev x= .agg cs∧v= .agg (cs.extract off (off+n))
 | .build _ z ps,v=>∃cs,NA z (ps.map fun p=>(p.1,p.2.1,U.ev p.2.2))=some cs∧v= .agg ⟨cs⟩
 | .mkfn _ f caps,v=>v= .func (.func f) #[] ⟨caps.map U.ev⟩
 | .sub _ es x lo hi mx,v=>∃a len cap l h m,U.ev x= .slice a len cap∧MQ U cap mx m∧MQ U len hi h∧MQ U 0 lo l∧m≤cap∧h≤m∧l≤h∧
    v= .slice (if m=l then a else a.map (·.add (l*es))) (h - l) (m - l)
 | .ssub _ x lo hi,v=>∃s l h,U.ev x= .string s∧MQ U s.size hi h∧MQ U 0 lo l∧h≤s.size∧l≤h∧v= .string (s.extract l h)
 | .mnx _ isMax x y,v=>∃k k' a b,U.ev x= .int k a∧U.ev y= .int k' b∧v= .int k (if isMax then (if a<b then b else a) else (if b<a then b else a))
 | .conv _ k x,v=>∃k' n,U.ev x= .int k' n∧v= .int k (k.wrap n)
 | .mki _ T x,v=>v= .iface T (U.ev x)
 | _,_=>False

theorem mK {U:KD}{K:KT}{Q:QT}{o:LO}(h:o.quiet=true):o.wp P U w K Q↔∃v,qv P U w o v∧K (KR U o.dst v) w:=by
 cases o<;>simp only [LO.quiet,E2] at h<;>simp only [LO.wp,qv,LO.dst,KR];all_goals (constructor<;>intro h)
 case mov.mp=>exact ⟨_,rfl,h⟩
 case mov.mpr=>obtain ⟨v,rfl,h⟩:=h;exact h
 case pick.mp=>obtain ⟨b,I,M⟩:=h;exact ⟨_,⟨b,I,rfl⟩,M⟩
 case pick.mpr=>obtain ⟨v,⟨b,I,rfl⟩,M⟩:=h;exact ⟨b,I,M⟩
 case nilc.mp=>obtain ⟨a,I,M⟩:=h;exact ⟨_,⟨a,I,rfl⟩,M⟩
 case nilc.mpr=>obtain ⟨v,⟨a,I,rfl⟩,M⟩:=h;exact ⟨a,I,M⟩
 case fld.mp=>obtain ⟨a,I,M⟩:=h;exact ⟨_,⟨a,I,rfl⟩,M⟩
 case fld.mpr=>obtain ⟨v,⟨a,I,rfl⟩,M⟩:=h;exact ⟨a,I,M⟩
 case load1.mp=>obtain ⟨a,v,I,M,h3⟩:=h;exact ⟨v,⟨a,I,M⟩,h3⟩
 case load1.mpr=>obtain ⟨v,⟨a,I,M⟩,h3⟩:=h;exact ⟨a,v,I,M,h3⟩
 case loadn.mp=>obtain ⟨a,cs,I,M,h3⟩:=h;exact ⟨_,⟨a,cs,I,M,rfl⟩,h3⟩
 case loadn.mpr=>obtain ⟨v,⟨a,cs,I,M,rfl⟩,h3⟩:=h;exact ⟨a,cs,I,M,h3⟩
 case idx.mp=>obtain ⟨a,l,c,k,n,I,M,h3,h4,h5⟩:=h;exact ⟨_,⟨a,l,c,k,n,I,M,h3,h4,rfl⟩,h5⟩
 case idx.mpr=>obtain ⟨v,⟨a,l,c,k,n,I,M,h3,h4,rfl⟩,h5⟩:=h;exact ⟨a,l,c,k,n,I,M,h3,h4,h5⟩
 case idxa.mp=>obtain ⟨a,k,n,I,M,h3,h4,h5⟩:=h;exact ⟨_,⟨a,k,n,I,M,h3,h4,rfl⟩,h5⟩
 case idxa.mpr=>obtain ⟨v,⟨a,k,n,I,M,h3,h4,rfl⟩,h5⟩:=h;exact ⟨a,k,n,I,M,h3,h4,h5⟩
 case len.mp=>obtain ⟨a,n,c,I,M⟩:=h;exact ⟨_,⟨a,n,c,I,rfl⟩,M⟩
 case len.mpr=>obtain ⟨v,⟨a,n,c,I,rfl⟩,M⟩:=h;exact ⟨a,n,c,I,M⟩
 case slen.mp=>obtain ⟨s,I,M⟩:=h;exact ⟨_,⟨s,I,rfl⟩,M⟩
 case slen.mpr=>obtain ⟨v,⟨s,I,rfl⟩,M⟩:=h;exact ⟨s,I,M⟩
 case sidx.mp=>obtain ⟨s,k,n,b,I,M,h3,h4,h5⟩:=h;exact ⟨_,⟨s,k,n,b,I,M,h3,h4,rfl⟩,h5⟩
 case sidx.mpr=>obtain ⟨v,⟨s,k,n,b,I,M,h3,h4,rfl⟩,h5⟩:=h;exact ⟨s,k,n,b,I,M,h3,h4,h5⟩
 case ext.mp=>obtain ⟨vs,v,I,M,h3⟩:=h;exact ⟨v,⟨vs,I,M⟩,h3⟩
 case ext.mpr=>obtain ⟨v,⟨vs,I,M⟩,h3⟩:=h;exact ⟨vs,v,I,M,h3⟩
 case fldv.mp=>obtain ⟨cs,v,I,M,h3⟩:=h;exact ⟨v,⟨cs,I,M⟩,h3⟩
 case fldv.mpr=>obtain ⟨v,⟨cs,I,M⟩,h3⟩:=h;exact ⟨cs,v,I,M,h3⟩
 case fldn.mp=>obtain ⟨cs,I,M⟩:=h;exact ⟨_,⟨cs,I,rfl⟩,M⟩
 case fldn.mpr=>obtain ⟨v,⟨cs,I,rfl⟩,M⟩:=h;exact ⟨cs,I,M⟩
 case build.mp=>obtain ⟨cs,I,M⟩:=h;exact ⟨_,⟨cs,I,rfl⟩,M⟩
 case build.mpr=>obtain ⟨v,⟨cs,I,rfl⟩,M⟩:=h;exact ⟨cs,I,M⟩
 case mkfn.mp=>exact ⟨_,rfl,h⟩
 case mkfn.mpr=>obtain ⟨v,rfl,h⟩:=h;exact h
 case sub.mp=>obtain ⟨a,n,c,l,hh,m,I,M,h3,h4,h5,h6,h7,h8⟩:=h;exact ⟨_,⟨a,n,c,l,hh,m,I,M,h3,h4,h5,h6,h7,rfl⟩,h8⟩
 case sub.mpr=>obtain ⟨v,⟨a,n,c,l,hh,m,I,M,h3,h4,h5,h6,h7,rfl⟩,h8⟩:=h;exact ⟨a,n,c,l,hh,m,I,M,h3,h4,h5,h6,h7,h8⟩
 case ssub.mp=>obtain ⟨s,l,hh,I,M,h3,h4,h5,h6⟩:=h;exact ⟨_,⟨s,l,hh,I,M,h3,h4,h5,rfl⟩,h6⟩
 case ssub.mpr=>obtain ⟨v,⟨s,l,hh,I,M,h3,h4,h5,rfl⟩,h6⟩:=h;exact ⟨s,l,hh,I,M,h3,h4,h5,h6⟩
 case mnx.mp=>obtain ⟨k,k',a,b,I,M,h3⟩:=h;exact ⟨_,⟨k,k',a,b,I,M,rfl⟩,h3⟩
 case mnx.mpr=>obtain ⟨v,⟨k,k',a,b,I,M,rfl⟩,h3⟩:=h;exact ⟨k,k',a,b,I,M,h3⟩
 case conv.mp=>obtain ⟨k',n,I,M⟩:=h;exact ⟨_,⟨k',n,I,rfl⟩,M⟩
 case conv.mpr=>obtain ⟨v,⟨k',n,I,rfl⟩,M⟩:=h;exact ⟨k',n,I,M⟩
 case mki.mp=>exact ⟨_,rfl,h⟩
 case mki.mpr=>obtain ⟨v,rfl,h⟩:=h;exact h

theorem Qv {U ρ':KD}{x:Operand}(h:∀s∈OC x,U s=ρ' s):U.ev x=ρ'.ev x:=by
 cases x<;>first|rfl|exact h _ (by simp [OC])
theorem jC {U ρ':KD}{x:Option Operand}(h:∀s∈SL x,U s=ρ' s)(hb:MQ U d x n):MQ ρ' d x n:=by
 cases x with
 | none=>exact hb
 | some x=>simp only [MQ] at hb ⊢;rw [←Qv (U:=U) (ρ':=ρ') h];exact hb
theorem mM {U ρ':KD}(h:∀s∈xs.flatMap OC,U s=ρ' s):xs.map U.ev=xs.map ρ'.ev:=by
 refine Gp fun x hx=>Qv fun s hs=>h s ?_;exact IC.2 ⟨x,hx,hs⟩
theorem tW {U ρ':KD}{xs:List (Nat×Nat×Operand)}(h:∀s∈xs.flatMap (fun p=>OC p.2.2),U s=ρ' s):
 (xs.map fun p=>(p.1,p.2.1,U.ev p.2.2))=xs.map fun p=>(p.1,p.2.1,ρ'.ev p.2.2):=by
 refine Gp fun x hx=>?_;rw [Qv (U:=U) (ρ':=ρ') fun s hs=>h s (IC.2 ⟨x,hx,hs⟩)]

theorem pg {U ρ':KD}{o:LO}{v:Value}(h:∀s∈o.uses,U s=ρ' s)(hv:qv P U w o v):qv P ρ' w o v:=by
 cases o<;>simp only [qv] at hv ⊢ <;>simp only [LO.uses,E8] at h
 case mov=>rw [←Qv h];exact hv
 case pick=>rw [←Qv fun s hs=>h s (.inl (.inl hs)),←Qv fun s hs=>h s (.inl (.inr hs)),←Qv fun s hs=>h s (.inr hs)];exact hv
 case un=>rw [←Qv h];exact hv
 case bin=>rw [←Qv fun s hs=>h s (.inl hs),←Qv fun s hs=>h s (.inr hs)];exact hv
 case nilc=>rw [←Qv h];exact hv
 case fld=>rw [←Qv h];exact hv
 case load1=>rw [←Qv h];exact hv
 case loadn=>rw [←Qv h];exact hv
 case idx=>rw [←Qv fun s hs=>h s (.inl hs),←Qv fun s hs=>h s (.inr hs)];exact hv
 case idxa=>rw [←Qv fun s hs=>h s (.inl hs),←Qv fun s hs=>h s (.inr hs)];exact hv
 case len=>rw [←Qv h];exact hv
 case slen=>rw [←Qv h];exact hv
 case sidx=>rw [←Qv fun s hs=>h s (.inl hs),←Qv fun s hs=>h s (.inr hs)];exact hv
 case ext=>rw [←Qv h];exact hv
 case fldv=>rw [←Qv h];exact hv
 case fldn=>rw [←Qv h];exact hv
 case build=>rw [←tW h];exact hv
 case mkfn=>rw [←mM h];exact hv
 case sub=>
  rw [←Qv fun s hs=>h s (.inl (.inl (.inl hs)))];obtain ⟨a,n,c,l,hh,m,I,M,h3,h4,h5⟩:=hv;exact ⟨a,n,c,l,hh,m,I,jC (fun s hs=>h s (.inr hs)) M,jC (fun s hs=>h s (.inl (.inr hs))) h3,jC (fun s hs=>h s (.inl (.inl (.inr hs)))) h4,h5⟩
 case ssub=>
  rw [←Qv fun s hs=>h s (.inl (.inl hs))];obtain ⟨s,l,hh,I,M,h3,h4⟩:=hv;exact ⟨s,l,hh,I,jC (fun s hs=>h s (.inr hs)) M,jC (fun s hs=>h s (.inl (.inr hs))) h3,h4⟩
 case mnx=>rw [←Qv fun s hs=>h s (.inl hs),←Qv fun s hs=>h s (.inr hs)];exact hv
 case conv=>rw [←Qv h];exact hv
 case mki=>rw [←Qv h];exact hv
 all_goals exact hv.elim

theorem QdP {U ρ':KD}{xs:Array Operand}(h:∀s∈xs.toList.flatMap OC,U s=ρ' s):xs.map U.ev=xs.map ρ'.ev:=by
 apply HB;simpa using mM h
def TY:Op→Bool
 | .call ⟨.builtin _,_,_⟩| .makeSlice ..| .convert ..| .box ..| .load ..=>true
 | _=>false

theorem Qhj {U ρ':KD}{o:Oper}(hr:TY o.op=true)(h:∀s∈o.op.operands.toList.flatMap OC,U s=ρ' s):execOp U.ev o=execOp ρ'.ev o:=by
 obtain ⟨dst,op,T,pos,af,g⟩:=o;cases op<;>simp only [TY,E2] at hr<;>simp only [Op.operands] at h
 case call c=>
  obtain ⟨ce,xs,ts⟩:=c;cases ce<;>simp only [E2] at hr;simp only [execOp,resolve];rw [QdP (by simpa [Call.operands] using h)]
 case makeSlice T l c=>
  simp only [execOp];rw [Qv (x:=l) (U:=U) (ρ':=ρ') (fun s hs=>h s (by simp [hs])),Qv (x:=c) (U:=U) (ρ':=ρ') (fun s hs=>h s (by simp [hs]))]
 case convert=>simp only [execOp];rw [Qv (U:=U) (ρ':=ρ') (fun s hs=>h s (by simpa using hs))]
 case box=>simp only [execOp];rw [Qv (U:=U) (ρ':=ρ') (fun s hs=>h s (by simpa using hs))]
 case load=>simp only [execOp];rw [Qv (U:=U) (ρ':=ρ') (fun s hs=>h s (by simpa using hs))]

def LO.takes:LO→Bool
 | .raw o=>TY o.op
 | _=>true

theorem zO {U ρ':KD}{o:LO}{K K':KT}{Q Q':QT}(ht:o.takes=true)(h:∀s∈o.uses,U s=ρ' s)
 (hk:∀v B,K (KR U o.dst v) B→K' (KR ρ' o.dst v) B)(hq:∀e B,e≠ .normal→Q e U B→Q' e ρ' B)(hw:o.wp P U w K Q):o.wp P ρ' w K' Q':=by
 by_cases hqt:o.quiet=true
 · rw [mK hqt] at hw ⊢;obtain ⟨v,I,M⟩:=hw;exact ⟨v,pg h I,hk _ _ M⟩
 · have hp:∀d e B,Q6 K Q d U w e B→(∀v B,K (KR U d v) B→K' (KR ρ' d v) B)→Q6 K' Q' d ρ' w e B:=by
    intro d e B O hk
    cases e with
    | returned v=>exact hk _ _ O
    | panicked ch=>exact hq _ _ Js O
    | outgrown=>exact hq _ _ Js O
   cases o<;>simp only [LO.quiet,not_true_eq_false] at hqt<;>simp only [LO.wp] at hw ⊢ <;>simp only [LO.uses,E8] at h<;>simp only [LO.dst,KR] at hk
   case store1=>
    obtain ⟨a,c,I,M,h3,h4,h5⟩:=hw;have e1:=Qv (U:=U) (ρ':=ρ') fun s hs=>h s (.inl hs);have e2:=Qv (U:=U) (ρ':=ρ') fun s hs=>h s (.inr hs);rw [←e1,←e2];exact ⟨a,c,I,M,h3,h4,hk undef _ h5⟩
   case storen=>
    obtain ⟨a,cs,B,I,M,h3,h4,h5⟩:=hw;have e1:=Qv (U:=U) (ρ':=ρ') fun s hs=>h s (.inl hs);have e2:=Qv (U:=U) (ρ':=ρ') fun s hs=>h s (.inr hs);rw [←e1,←e2];exact ⟨a,cs,B,I,M,h3,h4,hk undef _ h5⟩
   case alloc=>exact hk _ _ hw
   case box=>rw [←Qv h];exact hk _ _ hw
   case call=>rw [←mM h];exact hw.mono fun e B O=>hp _ e B O hk
   case callv=>
    obtain ⟨f,fst,cap,fn,I,M,h3,h4,h5⟩:=hw;rw [←Qv (U:=U) (ρ':=ρ') fun s hs=>h s (.inl hs),←mM (U:=U) (ρ':=ρ') fun s hs=>h s (.inr hs)];exact ⟨f,fst,cap,fn,I,M,h3,h4,h5.mono fun e B O=>hp _ e B O hk⟩
   case buildS=>
    rw [←tW h];obtain ⟨cs,I,M⟩:=hw;exact ⟨cs,I,hk _ _ M⟩
   case raw o=>
    unfold PN at hw ⊢;rw [←Qhj ht h];split at hw
    · exact hk _ _ hw
    · exact hk _ _ hw
    · exact hw.mono fun e B O=>by
       cases e with
       | returned v=>exact hk _ _ O
       | panicked ch=>exact hq _ _ Js O
       | outgrown=>exact hq _ _ Js O
    · exact hw.mono fun v B O=>hk _ _ O
    · exact hq _ _ Js hw
    · exact hw.elim

theorem tY {K K':KT}{Q Q':QT}{d:Option Nat}{U:KD}(hk:∀U w,K U w→K' U w)(hq:∀e U w,e≠ .normal→Q e U w→Q' e U w):∀e B,Q6 K Q d U w e B→Q6 K' Q' d U w e B:=by
 intro e B h
 cases e with
 | returned v=>exact hk _ _ h
 | panicked ch=>exact hq _ _ _ Js h
 | outgrown=>exact hq _ _ _ Js h

theorem oQ {U:KD}{o:LO}{K K':KT}{Q Q':QT}(hk:∀U w,K U w→K' U w)(hq:∀e U w,e≠ .normal→Q e U w→Q' e U w)(h:o.wp P U w K Q):o.wp P U w K' Q':=by
 by_cases hqt:o.quiet=true
 · rw [mK hqt] at h ⊢;obtain ⟨v,I,M⟩:=h;exact ⟨v,I,hk _ _ M⟩
 · cases o<;>simp only [LO.quiet,not_true_eq_false] at hqt<;>simp only [LO.wp] at h ⊢
   case store1=>obtain ⟨a,c,I,M,h3,h4,h5⟩:=h;exact ⟨a,c,I,M,h3,h4,hk _ _ h5⟩
   case storen=>obtain ⟨a,c,B,I,M,h3,h4,h5⟩:=h;exact ⟨a,c,B,I,M,h3,h4,hk _ _ h5⟩
   case alloc=>exact hk _ _ h
   case box=>exact hk _ _ h
   case call=>exact h.mono (tY hk hq)
   case callv=>obtain ⟨f,fst,cap,fn,I,M,h3,h4,h5⟩:=h;exact ⟨f,fst,cap,fn,I,M,h3,h4,h5.mono (tY hk hq)⟩
   case buildS=>obtain ⟨cs,I,M⟩:=h;exact ⟨cs,I,hk _ _ M⟩
   case raw o=>
    unfold PN at h ⊢;split at h
    · exact hk _ _ h
    · exact hk _ _ h
    · exact h.mono fun e B O=>by
       cases e with
       | returned v=>exact hk _ _ O
       | panicked ch=>exact hq _ _ _ Js O
       | outgrown=>exact hq _ _ _ Js O
    · exact h.mono fun v B O=>hk _ _ O
    · exact hq _ _ _ Js h
    · exact h.elim


def GO.uses (g:GO):List Nat:=(match g.g with|some (s,_)=>[s]|none=>[])++g.o.uses
def GO.dst (g:GO):Option Nat:=g.o.dst

def Nn (P:Program)(U:KD)(w:World)(g:GO)(v:Value):Prop:=match g.g with
 | none=>qv P U w g.o v
 | some (s,b)=>if XC (U s) b then qv P U w g.o v else v=undef

theorem mN {U ρ':KD}{g:GO}{v:Value}(h:∀s∈g.uses,U s=ρ' s)(hv:Nn P U w g v):Nn P ρ' w g v:=by
 obtain ⟨g,o⟩:=g
 cases g with
 | none=>exact pg (fun s hs=>h s (by simp [GO.uses,hs])) hv
 | some p=>
   obtain ⟨s,b⟩:=p;simp only [Nn] at hv ⊢;rw [←h s (by simp [GO.uses])];split
   · rename_i hw;rw [Qip hw] at hv;exact pg (fun s hs=>h s (by simp [GO.uses,hs])) hv
   · rename_i hw;rw [Qin hw] at hv;exact hv

theorem tZ {U:KD}{Q:QT}{g:GO}{l:List GO}(h:g.o.quiet=true):
 Q0 P (g::l) Q U w↔∃v,Nn P U w g v∧Q0 P l Q (KR U g.dst v) w:=by
 obtain ⟨g,o⟩:=g
 cases g with
 | none=>simp only [Q0,Nn];exact mK h
 | some p=>
   obtain ⟨s,b⟩:=p;simp only [Q0,Nn];split
   · exact mK h
   · constructor
     · intro h;exact ⟨_,rfl,h⟩
     · rintro ⟨v,rfl,h⟩;exact h

theorem ua {U ρ':KD}{g:GO}{l l':List GO}{Q Q':QT}(ht:g.o.takes=true)(h:∀s∈g.uses,U s=ρ' s)
 (hk:∀v B,Q0 P l Q (KR U g.dst v) B→Q0 P l' Q' (KR ρ' g.dst v) B)(hq:∀e B,e≠ .normal→Q e U B→Q' e ρ' B)(hw:Q0 P (g::l) Q U w):Q0 P (g::l') Q' ρ' w:=by
 obtain ⟨g,o⟩:=g
 cases g with
 | none=>exact BV
 | some p=>
   obtain ⟨s,b⟩:=p;simp only [Q0] at hw ⊢;rw [←h s (by simp [GO.uses])];split
   · rename_i hg;rw [Qip hg] at hw;exact BV
   · rename_i hg;rw [Qin hg] at hw;exact hk _ _ hw


abbrev CI:=Nat×Option (Option (List Nat))

def LO.pureQ:LO→Bool
 | .load1 ..| .loadn ..=>false
 | o=>o.quiet

theorem ud {U:KD}{o:LO}{v:Value}(h:o.pureQ=true)(hv:qv P U w o v):qv P U B o v:=by
 cases o<;>first|exact hv|(simp [LO.pureQ] at h;done)
theorem TZ {U:KD}{g:GO}{v:Value}(h:g.o.pureQ=true)(hv:Nn P U w g v):Nn P U B g v:=by
 obtain ⟨g,o⟩:=g
 cases g with
 | none=>exact ud h hv
 | some p=>
   simp only [Nn] at hv ⊢;split
   · rename_i hw;rw [Qip hw] at hv;exact ud h hv
   · rename_i hw;rw [Qin hw] at hv;exact hv

def T0 (acc:List Nat)(e:List Nat):Nat:=e.foldl (fun m j=>m|||2 ^ j|||acc.getD j 0) 0
def ph:List (List Nat)→List Nat→List Nat
 | [],acc=>acc
 | e::es,acc=>ph es (acc++[T0 acc e])
def jD (es:List (List Nat)):List Nat:=ph es []

def jE (es:List (List Nat))(X:List Nat):Prop:=∀k∈X,∀e∈es.getD k [],e∈X

theorem Rv (acc:List Nat)(k:Nat):∀(e:List Nat) (m0:Nat),(e.foldl (fun m j=>m|||2 ^ j|||acc.getD j 0) m0).testBit k=true→m0.testBit k=true∨∃j∈e,k=j∨(acc.getD j 0).testBit k=true:=by
 intro e
 induction e with
 | nil=>intro m0 h;exact .inl h
 | cons j e ih=>
   intro m0 h;rcases ih _ h with h|⟨j',hj',h⟩
   · simp only [Nat.testBit_or,Ha] at h
     rcases h with (h|h)|h
     · exact .inl h
     · rw [Nat.testBit_two_pow] at h;exact .inr ⟨j,by simp, .inl (by simpa using (of_decide_eq_true h).symm)⟩
     · exact .inr ⟨j,by simp, .inr h⟩
   · exact .inr ⟨j',by simp [hj'],h⟩

theorem Qde (all:List (List Nat)):∀(es pre:List (List Nat)) (acc:List Nat),all=pre++es→acc.length=pre.length→
 (∀i,∀j,(acc.getD i 0).testBit j=true→∀X,jE all X→(∀e∈all.getD i [],e∈X)→j∈X)→
 ∀i j,((ph es acc).getD i 0).testBit j=true→∀X,jE all X→(∀e∈all.getD i [],e∈X)→j∈X:=by
 intro es
 induction es with
 | nil=>intro pre acc _ _ h;exact h
 | cons e es ih=>
   intro pre acc hall hlen h;refine ih (pre++[e]) (acc++[T0 acc e]) (by simp [hall]) (by simp [hlen]) ?_;intro i j hb X hX he;simp only [EL,List.getElem?_append] at hb;split at hb
   · exact h i j (by simpa [EL] using hb) X hX he
   · rename_i hi
     by_cases hi':i=acc.length
     · subst hi'
       simp only [GX,Fm,Gw] at hb;have hei:all.getD acc.length []=e:=(by rw [hlen,hall];simp [EL]);rw [hei] at he;rcases Rv acc j e 0 hb with hb|⟨j',hj',rfl|hb⟩
       · simp at hb
       · exact he _ hj'
       · exact h j' j hb X hX (hX j' (he j' hj'))
     · rw [Fe CT] at hb;simp at hb

theorem Qh4 {es:List (List Nat)}{i:Nat}(h:((jD es).getD i 0).testBit j=true){X:List Nat}(hX:jE es X)(he:∀e∈es.getD i [],e∈X):j∈X:=
 Qde es es [] [] rfl rfl (by intro i j h;simp at h) i j h X hX he

section
variable (P:Program) (gs:List GO)

def K4 (i:Nat):GO:=gs.getD i GO.nop

def pj (Q:QT):QT:=fun e _ B=>∀ρ'',Q e ρ'' B

def OU:List CI→QT→KD→World→Prop
 | [],Q,U,w=>Q .normal U w
 | (i,none)::rest,Q,U,w=>Q0 P [K4 gs i] (Qp (OU rest Q) Q) U w
 | (i,some none)::rest,Q,U,w=>Q0 P [K4 gs i] (Qp (OU rest Q) Q) U w
 | (i,some (some fl))::rest,Q,U,w=>
   Q0 P [K4 gs i] (Qp (fun ρ' B=>(∀q∈fl,Nn P U B (K4 gs q) (U ((K4 gs q).dst.getD 0)))∧OU rest Q ρ' B) (pj Q)) U w
end

def ir (a b:GO):Bool:=(match b.dst with|some d=> !a.uses.contains d && !(a.dst==some d)|none=>true)
def iu (a b:GO):Bool:=(match a.dst with|some d=> !b.uses.contains d|none=>true)

def T1 (gs:List GO)(ms:List Nat)(a b:CI):Bool:=
 let r:=(ms.getD b.1 0).testBit a.1
 match a.2,b.2 with
 | none,some none=>r
 | none,some (some fl)=>r||((fl.contains a.1||(K4 gs a.1).o.pureQ) && ir (K4 gs a.1) (K4 gs b.1) && iu (K4 gs a.1) (K4 gs b.1))
 | some _,_=>r
 | none,none=>ir (K4 gs a.1) (K4 gs b.1) && (r||iu (K4 gs a.1) (K4 gs b.1))

def Yd (gs:List GO)(a:CI):Bool:=decide (a.1<gs.length) && (match a.2 with
 | none=>(K4 gs a.1).o.quiet && (match (K4 gs a.1).dst with|some d=> !(K4 gs a.1).uses.contains d|none=>false)
 | some _=>(K4 gs a.1).o.takes)

def XD (gs:List GO)(ms:List Nat):List CI→Bool
 | []=>true
 | a::l=>Yd gs a && l.all (fun b=>T1 gs ms a b && !(a.1==b.1)) && XD gs ms l

def cT (gs:List GO)(es:List (List Nat))(C:List CI):Bool:=
 decide (es.length=gs.length) && XD gs (jD es) C && (List.range gs.length).all fun i=>(C.map (·.1)).contains i

structure J (P:Program) (gs:List GO) (es:List (List Nat)) (C:List CI) (Q:QT) (X:List Nat) (ρS:KD) (w:World) (D rest:List CI) (ρC:KD):Prop where
 hC:C=D++rest
 hX1:∀i∈X,∃k,(i,k)∈D
 hX2:∀c∈D,c.2.isSome=true→c.1∈X
 hcl:jE es X
 hslot:∀s,(∀c∈D,c.1∉X→(K4 gs c.1).dst≠some s)→ρS s=ρC s
 hpend:∀c∈D,c.1∉X→Nn P ρC w (K4 gs c.1) (ρC ((K4 gs c.1).dst.getD 0))
 hcan:OU P gs rest Q ρC w

theorem jF {gs:List GO}:∀{D rest:List CI},XD gs ms (D++rest)=true→∀a∈D,∀b∈rest,T1 gs ms a b=true∧a.1≠b.1:=by
 intro D
 induction D with
 | nil=>intro rest _ a ha;cases ha
 | cons c D ih=>
   intro rest h a ha b hb;simp only [F7,XD,EW] at h;rcases E4.1 ha with rfl|ha
   · have:=FI.1 h.1.2 b (by simp [hb]);simp only [EW,Gc,beq_eq_false_iff_ne] at this;exact this
   · exact ih h.2 a ha b hb

theorem mO {gs:List GO}:∀{C:List CI},XD gs ms C=true→∀a∈C,Yd gs a=true:=by
 intro C
 induction C with
 | nil=>intro _ a ha;cases ha
 | cons c C ih=>
   intro h a ha;simp only [XD,EW] at h;rcases E4.1 ha with rfl|ha
   · exact h.1.1
   · exact ih h.2 a ha

theorem PQ {gs:List GO}:∀{C:List CI},XD gs ms C=true→∀a∈C,∀b∈C,a=b∨(T1 gs ms a b=true∧a.1≠b.1)∨(T1 gs ms b a=true∧b.1≠a.1):=by
 intro C
 induction C with
 | nil=>intro _ a ha;cases ha
 | cons c C ih=>
   intro h a ha b hb;simp only [XD,EW] at h
   have hall:∀x∈C,T1 gs ms c x=true∧c.1≠x.1:=by
    intro x hx;have:=FI.1 h.1.2 x hx
    simpa [EW] using this
   rcases E4.1 ha with hac|ha
   · rcases E4.1 hb with hbc|hb
     · exact .inl (hac.trans hbc.symm)
     · rw [hac];exact .inr (.inl (hall b hb))
   · rcases E4.1 hb with hbc|hb
     · rw [hbc];exact .inr (.inr (hall a ha))
     · exact ih h.2 a ha b hb

theorem pk {a b:GO}(h:ir a b=true)(hd:b.dst=some d):d∉a.uses∧a.dst≠some d:=by
 unfold ir at h;rw [hd] at h;simp only [EW,Gc,Hp,decide_eq_false_iff_not,beq_eq_false_iff_ne] at h;exact h
theorem ue {a b:GO}(h:iu a b=true)(hd:a.dst=some d):d∉b.uses:=by
 unfold iu at h;rw [hd] at h
 simpa using h

theorem Ye {U:KD}{d:Option Nat}{v:Value}(h:d≠some s):KR U d v s=U s:=by
 cases d with
 | none=>rfl
 | some d=>
   have:s≠d:=fun e=>h (by rw [e]);simp only [KR,upd];cases hb:Nat.beq s d
   · rfl
   · exact absurd (H2 hb) this
theorem mP {U:KD}{v:Value}:KR U (some s) v s=v:=by
 simp [KR,upd,Nat.beq_refl]

theorem J.advance {gs:List GO}{es:List (List Nat)}{C:List CI}{Q:QT}{X:List Nat}{ρS:KD}(hok:XD gs (jD es) C=true):
 ∀(rest D:List CI) (ρC:KD),J P gs es C Q X ρS w D rest ρC→∃D' rest' ρC',J P gs es C Q X ρS w D' rest' ρC'∧(rest'=[]∨∃f fl r,rest'=(f,some fl)::r):=by
 intro rest
 induction rest with
 | nil=>intro D ρC h;exact ⟨D,[],ρC,h, .inl rfl⟩
 | cons c rest ih=>
   intro D ρC h;obtain ⟨i,k⟩:=c
   cases k with
   | some fl=>exact ⟨D,_,ρC,h, .inr ⟨i,fl,rest,rfl⟩⟩
   | none=>
     have hiC:(i,none)∈C:=(by rw [h.hC];simp);have I:=mO hok _ hiC;simp only [Yd,EW] at I;obtain ⟨_,hq,hd⟩:=I
     cases hdst:(K4 gs i).dst with
     | none=>simp [hdst] at hd
     | some d=>
       simp only [hdst,Gc,Hp,decide_eq_false_iff_not] at hd;have hcan:=h.hcan;simp only [OU] at hcan;obtain ⟨v,hv,hcan⟩:=(tZ hq).1 hcan;simp only [Q0,Qp] at hcan;have hsplit:=jF (D:=D) (rest:=(i,none)::rest) (by rw [←h.hC];exact hok)
       have hiX:i∉X:=by
        intro hx;obtain ⟨k,hk⟩:=h.hX1 i hx;exact (hsplit _ hk (i,none) Js).2 rfl
       -- what is pending ahead of i
       have hind:∀c∈D,c.1∉X→d∉(K4 gs c.1).uses∧(K4 gs c.1).dst≠some d:=by
        intro c O hcX;have hp:=(hsplit c O (i,none) Js).1
        have hcn:c.2=none:=by
         cases hk:c.2 with
         | none=>rfl
         | some fl=>exact absurd (h.hX2 c O (by simp [hk])) hcX
        simp only [T1,hcn,EW] at hp;exact pk hp.1 hdst
       refine ih (D++[(i,none)]) (KR ρC (K4 gs i).dst v) ?_;refine ⟨by rw [h.hC];simp,?_,?_,h.hcl,?_,?_,hcan⟩
       · intro j hj;obtain ⟨k,hk⟩:=h.hX1 j hj;exact ⟨k,by simp [hk]⟩
       · intro c O hs
         rcases E8.1 O with O|O
         · exact h.hX2 c O hs
         · simp only [FD] at O;subst O;simp at hs
       · intro s hs;have hds:(K4 gs i).dst≠some s:=hs (i,none) Js hiX;rw [Ye hds];exact h.hslot s fun c O=>hs c Dk
       · intro c O hcX
         rcases E8.1 O with O|O
         · obtain ⟨M,h3⟩:=hind c O hcX
           have he:∀s∈(K4 gs c.1).uses,ρC s=KR ρC (K4 gs i).dst v s:=by
            intro s hs;rw [Ye];rw [hdst];intro e;simp only [E3] at e;subst e;exact M hs
           have hdc:KR ρC (K4 gs i).dst v ((K4 gs c.1).dst.getD 0)=ρC ((K4 gs c.1).dst.getD 0):=by
            rw [Ye];rw [hdst];intro e;simp only [E3] at e;have hcC:=mO hok c (by rw [h.hC];simp [O])
            have hcn:c.2=none:=by
             cases hk:c.2 with
             | none=>rfl
             | some fl=>exact absurd (h.hX2 c O (by simp [hk])) hcX
            simp only [Yd,hcn,EW] at hcC
            cases hdc:(K4 gs c.1).dst with
            | none=>simp [hdc] at hcC
            | some d'=>rw [hdc] at e h3;simp at e;subst e;exact h3 rfl
           rw [hdc];exact mN he (h.hpend c O hcX)
         · simp only [FD] at O
           subst O
           have he:∀s∈(K4 gs i).uses,ρC s=KR ρC (K4 gs i).dst v s:=by
            intro s hs;rw [Ye];rw [hdst];intro e;simp only [E3] at e;subst e;exact hd hs
           have hval:KR ρC (K4 gs i).dst v ((K4 gs i).dst.getD 0)=v:=(by rw [hdst];exact mP);simp only [hval];exact mN he hv

theorem Qk2 {gs:List GO}{es:List (List Nat)}{C:List CI}{Q:QT}(hlen:es.length=gs.length)(hok:XD gs (jD es) C=true)(hall:∀i,i<gs.length→∃k,(i,k)∈C):
 ∀(l X:List Nat) (ρS:KD) (w:World) (D rest:List CI) (ρC:KD),SJ es X l→J P gs es C Q X ρS w D rest ρC→Q0 P (l.map (K4 gs)) Q ρS w:=by
 intro l
 induction l with
 | nil=>
   intro X ρS w D rest ρC hl hJ;obtain ⟨D,rest,ρC,hJ,hr⟩:=J.advance hok rest D ρC hJ;simp only [SJ] at hl;have hX:∀i,i<gs.length→i∈X:=fun i hi=>hl i V;have hone:=mO hok
   have hrest:rest=[]:=by
    rcases hr with hr|⟨f,fl,r,hr⟩
    · exact hr
    · exfalso;have hf:=hone (f,some fl) (by rw [hJ.hC,hr];simp);simp only [Yd,EW,decide_eq_true_eq] at hf;obtain ⟨k,hk⟩:=hJ.hX1 f (hX f hf.1);exact (jF (D:=D) (rest:=rest) Dy _ hk (f,some fl) (by rw [hr];simp)).2 rfl
   have hpe:ρS=ρC:=funext fun s=>hJ.hslot s fun c O hcX=>by
    have hf:=hone c DN;simp only [Yd,EW,decide_eq_true_eq] at hf;exact absurd (hX c.1 hf.1) hcX
   have hcan:=hJ.hcan;rw [hrest] at hcan;simp only [OU] at hcan;rw [hpe];exact hcan
 | cons i l ih=>
   intro X ρS w D rest ρC hl hJ;obtain ⟨D,rest,ρC,hJ,hr⟩:=J.advance hok rest D ρC hJ;simp only [SJ] at hl;obtain ⟨hil,hiX,hie,hl⟩:=hl;obtain ⟨k,hiC⟩:=hall i V;have hone:=mO hok
   have hcl':jE es (i::X):=by
    intro j hj e he;rcases E4.1 hj with rfl|hj
    · exact E4.2 (.inr (hie e he))
    · exact E4.2 (.inr (hJ.hcl j hj e he))
   have hanc:∀j,((jD es).getD i 0).testBit j=true→j∈X:=fun j hj=>Qh4 hj hJ.hcl hie
   have hpq:∀c∈D,c.1∉X→c.2=none:=by
    intro c O hcX
    cases hk:c.2 with
    | none=>rfl
    | some fl=>exact absurd (hJ.hX2 c O (by simp [hk])) hcX
   rw [hJ.hC] at hiC;simp only [Ga];rcases E8.1 hiC with hiD|hiR
   · -- it was done in the canonical run
     have hkn:k=none:=hpq (i,k) hiD hiX;subst hkn;have ho:=hone (i,none) (by rw [hJ.hC];simp [hiD]);simp only [Yd,EW] at ho;obtain ⟨_,hq,hd⟩:=ho;have hp:=hJ.hpend (i,none) hiD hiX;simp only at hp
     cases hdst:(K4 gs i).dst with
     | none=>simp [hdst] at hd
     | some d=>
       simp only [hdst,Gc,Hp,decide_eq_false_iff_not] at hd;rw [hdst,Gw] at hp
       have huse:∀s∈(K4 gs i).uses,ρC s=ρS s:=by
        intro s hs;refine (hJ.hslot s fun c O hcX hcd=>?_).symm;have hcn:=hpq c O hcX;have hcC:c∈C:=DN;have hiC':(i,none)∈C:=(by rw [hJ.hC];simp [hiD]);rcases PQ hok c hcC (i,none) hiC' with rfl|⟨I,_⟩|⟨I,_⟩
        · rw [hdst] at hcd;simp only [E3] at hcd;subst hcd;exact hd hs
        · simp only [T1,hcn,EW,Ha] at I
          rcases I.2 with M|M
          · exact hcX (hanc _ M)
          · exact ue M hcd hs
        · simp only [T1,hcn,EW] at I;exact (pk I.1 hcd).1 hs
       refine (tZ hq).2 ⟨ρC d,mN huse hp,?_⟩;refine ih (i::X) _ w D rest ρC hl ⟨hJ.hC,?_,?_,hcl',?_,?_,hJ.hcan⟩
       · intro j hj
         rcases E4.1 hj with rfl|hj
         · exact ⟨none,hiD⟩
         · exact hJ.hX1 j hj
       · intro c O hs;exact E4.2 (.inr (hJ.hX2 c O hs))
       · intro s hs
         by_cases hsd:s=d
         · subst hsd;rw [hdst,mP]
         · rw [Ye (by rw [hdst];intro e;simp only [E3] at e;exact hsd e.symm)]
           refine hJ.hslot s fun c O hcX=>?_;by_cases hci:c.1=i
           · rw [hci,hdst];intro e;simp only [E3] at e;exact hsd e.symm
           · exact hs c O (by simp [hci,hcX])
       · intro c O hcX;exact hJ.hpend c O fun h=>hcX (E4.2 (.inr h))
   · -- it stands ahead:it is the next one
     rcases hr with hr|⟨f,fl,r,hr⟩
     · rw [hr] at hiR;cases hiR
     · subst hr
       have hfX:f∉X:=by
        intro hx;obtain ⟨k',hk'⟩:=hJ.hX1 f hx;exact (jF (D:=D) (rest:=(f,some fl)::r) Dy _ hk' (f,some fl) Js).2 rfl
       have hif:(i,k)=(f,some fl):=by
        rcases E4.1 hiR with h|h
        · exact h
        · exfalso;have hsp:=jF (D:=D++[(f,some fl)]) (rest:=r) (by rw [hJ.hC] at hok;simpa using hok);have hp:=(hsp (f,some fl) Js (i,k) h).1;simp only [T1] at hp;exact hfX (hanc f hp)
       simp only [GF] at hif;obtain ⟨rfl,rfl⟩:=hif;have ho:=hone (i,some fl) (by rw [hJ.hC];simp);simp only [Yd,EW] at ho;have hsp:=jF (D:=D) (rest:=(i,some fl)::r) Dy
       -- behind the fenced operation
       have done:∀(v:Value) (B:World),(∀c∈D,c.1∉X→(ir (K4 gs c.1) (K4 gs i)=true∧iu (K4 gs c.1) (K4 gs i)=true)∧Nn P ρC B (K4 gs c.1) (ρC ((K4 gs c.1).dst.getD 0)))→
        OU P gs r Q (KR ρC (K4 gs i).dst v) B→Q0 P (l.map (K4 gs)) Q (KR ρS (K4 gs i).dst v) B:=by
        intro v B hst hk;refine ih (i::X) _ B (D++[(i,some fl)]) r _ hl ⟨by rw [hJ.hC];simp,?_,?_,hcl',?_,?_,hk⟩
        · intro j hj
          rcases E4.1 hj with rfl|hj
          · exact ⟨some fl,by simp⟩
          · obtain ⟨k,hk⟩:=hJ.hX1 j hj;exact ⟨k,by simp [hk]⟩
        · intro c O hs
          rcases E8.1 O with O|O
          · exact E4.2 (.inr (hJ.hX2 c O hs))
          · simp only [FD] at O;subst O;simp
        · intro s hs
          by_cases hsd:(K4 gs i).dst=some s
          · rw [hsd,mP,mP]
          · rw [Ye hsd,Ye hsd]
            refine hJ.hslot s fun c O hcX=>hs c Dk ?_;intro hm;rcases E4.1 hm with h|h
            · exact (hsp c O (i,some fl) Js).2 h
            · exact hcX h
        · intro c O hcX
          rcases E8.1 O with O|O
          · have hcX':c.1∉X:=fun h=>hcX (E4.2 (.inr h))
            obtain ⟨⟨M,h3⟩,hs⟩:=hst c O hcX';have hcC:=hone c DN;simp only [Yd,hpq c O hcX',EW] at hcC
            have hind:∀s,((s∈(K4 gs c.1).uses)∨(K4 gs c.1).dst=some s)→(K4 gs i).dst≠some s:=by
             intro s hs hd;have:=pk M hd;rcases hs with hs|hs
             · exact this.1 hs
             · exact this.2 hs
            have hdc:KR ρC (K4 gs i).dst v ((K4 gs c.1).dst.getD 0)=ρC ((K4 gs c.1).dst.getD 0):=by
             cases hd:(K4 gs c.1).dst with
             | none=>simp [hd] at hcC
             | some d'=>rw [Ye (hind _ (.inr (by rw [hd];rfl)))]
            rw [hdc];exact mN (fun s hs=>(Ye (hind s (.inl hs))).symm) hs
          · simp only [FD] at O;subst O;exact absurd (E4.2 (.inl rfl)) hcX
       have hcan:=hJ.hcan
       cases fl with
       | none=>
         have hnone:∀c∈D,¬(c.1∉X):=by
          intro c O hcX;have hp:=(hsp c O (i,some none) Js).1;simp only [T1,hpq c O hcX] at hp;exact hcX (hanc _ hp)
         have hpe:ρS=ρC:=funext fun s=>hJ.hslot s fun c O hcX=>absurd hcX (hnone c O);simp only [OU] at hcan;refine ua ho.2 (fun s hs=>by rw [hpe]) ?_ ?_ hcan
         · intro v B hk;simp only [Q0,Qp] at hk;exact done v B (fun c O hcX=>absurd hcX (hnone c O)) hk
         · intro e B hne hq;rw [hpe];cases e<;>first|exact hq|exact absurd rfl hne
       | some fl=>
         simp only [OU] at hcan
         have hfloat:∀c∈D,c.1∉X→(c.1∈fl∨(K4 gs c.1).o.pureQ=true)∧ir (K4 gs c.1) (K4 gs i)=true∧iu (K4 gs c.1) (K4 gs i)=true:=by
          intro c O hcX;have hp:=(hsp c O (i,some (some fl)) Js).1;simp only [T1,hpq c O hcX,Ha,EW] at hp;rcases hp with hp|⟨⟨I,M⟩,h3⟩
          · exact absurd (hanc _ hp) hcX
          · exact ⟨I.imp Js id,M,h3⟩
         refine ua ho.2 (fun s hs=>(hJ.hslot s fun c O hcX hcd=>ue (hfloat c O hcX).2.2 hcd hs).symm) ?_ ?_ hcan
         · intro v B hk
           simp only [Q0,Qp] at hk;obtain ⟨hst,hk⟩:=hk;refine done v B (fun c O hcX=>?_) hk;obtain ⟨I,M,h3⟩:=hfloat c O hcX;refine ⟨⟨M,h3⟩,?_⟩;rcases I with I|I
           · exact hst c.1 I
           · exact TZ I (hJ.hpend c O hcX)
         · intro e B hne hq;(have hq':pj Q e ρC B:=by cases e<;>first|exact hq|exact absurd rfl hne);exact hq' ρS

theorem uf {gs:List GO}{es:List (List Nat)}{Q:QT}{U:KD}(C:List CI)(hok:cT gs es C=true)(h:OU P gs C Q U w.drew):(LC.draw gs es).wp P Q U w:=by
 simp only [cT,EW,decide_eq_true_eq] at hok;obtain ⟨⟨hlen,hp⟩,hall⟩:=hok;intro l hl;refine Qk2 hlen hp ?_ l [] U w.drew [] C U hl ⟨by simp,Js,Js,(fun k hk=>absurd hk Js),(fun s _=>rfl),Js,h⟩;intro i hi;have:=FI.1 hall i Du;simp only [Hp,decide_eq_true_eq,Fq] at this;obtain ⟨⟨j,k⟩,O,rfl⟩:=this;exact ⟨k,O⟩

theorem Qfe {gs:List GO}{Q:QT}:∀(C:List CI),(C.all fun c=>match c.2 with|some (some _)=>false|_=>true)=true→∀U w,Q0 P (C.map fun c=>K4 gs c.1) Q U w→OU P gs C Q U w:=by
 intro C
 induction C with
 | nil=>intro _ U w h;exact h
 | cons c C ih=>
   intro O U w h;simp only [List.all_cons,EW] at O;obtain ⟨i,k⟩:=c
   have key:∀{g:GO}{l:List GO}{K:KT} {U w},(∀U w,Q0 P l Q U w→K U w)→Q0 P (g::l) Q U w→Q0 P [g] (Qp K Q) U w:=by
    intro g l K U w hk h
    have hwp:∀{o:LO} {U w},o.wp P U w (Q0 P l Q) Q→o.wp P U w (Q0 P [] (Qp K Q)) (Qp K Q):=by
     intro o U w h;exact oQ (fun U w h=>hk U w h) (fun e U w hne h=>by cases e<;>first|exact h|exact absurd rfl hne) h
    obtain ⟨g,o⟩:=g
    cases g with
    | none=>exact hwp h
    | some p=>
      obtain ⟨s,b⟩:=p;simp only [Q0] at h ⊢;split
      · rename_i hg;rw [Qip hg] at h;exact hwp h
      · rename_i hg;rw [Qin hg] at h;exact hk _ _ h
   simp only [Ga] at h
   cases k with
   | none=>exact key (fun U w h=>ih O.2 U w h) h
   | some fl=>
     cases fl with
     | some fl=>simp at O
     | none=>exact key (fun U w h=>ih O.2 U w h) h

theorem Qhn {gs:List GO}{es:List (List Nat)}{Q:QT}{U:KD}(C:List CI)(hok:cT gs es C=true)
 (hpl:(C.all fun c=>match c.2 with|some (some _)=>false|_=>true)=true)(h:Q0 P (C.map fun c=>K4 gs c.1) Q U w.drew):(LC.draw gs es).wp P Q U w:=
 uf C hok (Qfe C hpl _ _ h)

end
end Go.Lir
namespace Go.Lir
open Go.RowKit (Below)

abbrev KI:=Array Obj

def Ll (H:KI)(b:Nat)(T:TypeId)(cs:List Value):Prop:=∃fz,H[b]?=some (.cells ⟨cs⟩ T fz)∧(∀i,fz.1≤i→i<fz.2→cs.length≤i)∧fz.1≤fz.2

structure Fr (F:Nat→Prop) (w B:World):Prop where
 os:B.os=w.os
 tape:B.tape=w.tape
 output:B.output=w.output
 size:w.heap.size≤B.heap.size
 same:∀b,b<w.heap.size→¬F b→B.heap[b]?=w.heap[b]?

abbrev NF:Nat→Prop:=fun _=>False

theorem Fr.refl (F:Nat→Prop)(w:World):Fr F w w:=⟨rfl,rfl,rfl,E6 _,fun _ _ _=>rfl⟩
abbrev Hw:=@Fr.refl
theorem Fr.drew {F:Nat→Prop}(h:Fr F w.drew B):Fr F w B:=⟨h.os,h.tape,h.output,h.size,h.same⟩
theorem Fr.drew' {F:Nat→Prop}(h:Fr F w B):Fr F w B.drew:=⟨h.os,h.tape,h.output,h.size,h.same⟩
abbrev JC:=@Fr.drew'
theorem Fr.mono {F:Nat→Prop}(h:Fr F w B)(hs:∀b,b<w.heap.size→F b→G b):Fr G w B:=
 ⟨h.os,h.tape,h.output,h.size,fun b hb hg=>h.same b hb fun hf=>hg (hs b hb hf)⟩
theorem Fr.trans {F:Nat→Prop}(h:Fr F w B)(k:Fr G B w'')(hs:∀b,b<w.heap.size→G b→F b):Fr F w w'':=
 ⟨k.os.trans h.os,k.tape.trans h.tape,k.output.trans h.output,Gs h.size k.size,fun b hb hf=>
   (k.same b (GL hb h.size) fun hg=>hf (hs b hb hg)).trans (h.same b hb hf)⟩
theorem Fr.below (h:Fr NF w B):Below w.heap.size w B:=⟨h.os,h.tape,h.output,h.size,fun k hk=>h.same k hk (fun h=>h)⟩
theorem Fr.any {F:Nat→Prop}(h:Fr NF w B):Fr F w B:=h.mono fun _ _ h=>h.elim

theorem Ll.lt {H:KI}(h:Ll H b T cs):b<H.size:=by
 obtain ⟨fz,h,_⟩:=h;rcases Gj b H.size with h'|h'
 · exact h'
 · simp [Gt h'] at h
theorem Ll.of_same {H H':KI}(h:Ll H b T cs)(he:H'[b]?=H[b]?):Ll H' b T cs:=by
 obtain ⟨fz,h,M⟩:=h;exact ⟨fz,he.trans h,M⟩
theorem Ll.fr {F:Nat→Prop}(h:Ll w.heap b T cs)(hf:Fr F w B)(hn:¬F b):Ll B.heap b T cs:=
 h.of_same (hf.same b h.lt hn)
theorem Ll.inj {H:KI}(h:Ll H b T cs)(h':Ll H b T' cs'):T=T'∧cs=cs':=by
 obtain ⟨fz,h,_⟩:=h;obtain ⟨fz',h',_⟩:=h';rw [h] at h';simp only [E3,Obj.cells.injEq,Array.mk.injEq] at h';exact ⟨h'.2.1,h'.1⟩
theorem Ll.cell {i:Nat}{v:Value}(h:Ll w.heap b T cs)(hv:cs[i]?=some v):w.cell? ⟨b,i,none⟩=some v:=by
 obtain ⟨fz,h,_⟩:=h;simp [World.cell?,h,hv]
theorem Ll.free {i:Nat}(h:Ll w.heap b T cs)(hi:i<cs.length):w.frozen? ⟨b,i,none⟩=false:=by
 obtain ⟨⟨lo,hi'⟩,h,M⟩:=h;simp only [World.frozen?,h];have:=M.1 i;simp only at this;simp only [Bool.and_eq_false_iff,decide_eq_false_iff_not];omega

theorem Pw (b o n:Nat):(Addr.mk b o none).add n=⟨b,o+n,none⟩:=by
 unfold Addr.add;split
 · rename_i h;subst h;rfl
 · rfl

theorem Ll.cells {o:Nat}(h:Ll w.heap b T cs)(hv:(cs.drop o).take n=vs)(hl:vs.length=n):bf w ⟨b,o,none⟩ n vs:=by
 refine ⟨hl,fun j hj=>?_⟩;rw [Pw];have:vs[j]?=cs[o+j]?:=(by rw [←hv,FE hj,GK]);rw [this]
 have hlt:o+j<cs.length:=by
  have I:vs.length=min n (cs.length - o):=(by rw [←hv];simp);omega
 rw [EI hlt];exact h.cell (EI hlt)

theorem mQ (w:World)(b i:Nat)(v:Value):Fr (· =b) w (w.setCell ⟨b,i,none⟩ v):=by
 refine ⟨rfl,rfl,rfl,by simp,fun k _ hk=>?_⟩;simp only [World.setCell,Jz];rw [Qin (fun e=>hk e.symm)]
theorem Ll.set {i:Nat}{v:Value}(h:Ll w.heap b T cs):Ll (w.setCell ⟨b,i,none⟩ v).heap b T (cs.set i v):=by
 obtain ⟨fz,h,M⟩:=h;refine ⟨fz,?_,by simpa using M.1,M.2⟩;simp only [World.setCell,Jz,h,if_true,FJ,JV];simp

theorem cU (w:World)(o:Obj):Fr NF w (w.alloc o):=by
 refine ⟨rfl,rfl,rfl,by simp,fun k hk _=>?_⟩;simp only [World.alloc,Array.getElem?_push];rw [Qin V]
theorem iw (w:World)(cs:List Value)(T:TypeId):Ll (w.alloc (.cells ⟨cs⟩ T)).heap w.heap.size T cs:=by
 refine ⟨(0,0),?_,⟨fun i I M=>by simp at M,by simp⟩⟩;show (w.heap.push _)[w.heap.size]?=_;simp

theorem pn (P:Program)(b:Nat)(T:TypeId):∀(vs:List Value) (w:World) (cs:List Value) (o i:Nat),Ll w.heap b T cs→o+i+vs.length≤cs.length→(∀v∈vs,oneC v=true)→
 ∃B,(storeCells ⟨b,o,none⟩ vs i).run P w= .ok () B∧Fr (· =b) w B∧B.heap.size=w.heap.size∧Ll B.heap b T (cs.take (o+i)++(vs++cs.drop (o+i+vs.length))):=by
 intro vs
 induction vs with
 | nil=>intro w cs o i h _ _;exact ⟨w,by simp [storeCells],Hw _ _,rfl,by simpa using h⟩
 | cons v vs ih=>
   intro w cs o i h hl ho;simp only [EY] at hl;have I:=ho v Js;have h1':v.oneCell'=true:=(by cases v<;>simp_all [Value.oneCell',oneC]);have O:w.cell? ⟨b,o+i,none⟩=some (cs[o+i]' CP):=h.cell (EI V);have hf:=h.free (w:=w) (i:=o+i) V;obtain ⟨B,M,h3,h4,h5⟩:=ih (w.setCell ⟨b,o+i,none⟩ v) (cs.set (o+i) v) o (i+1) h.set CT (fun x hx=>ho x Da);refine ⟨B,?_,(mQ w b (o+i) v).trans h3 (fun _ _ h=>h),h4.trans Js,?_⟩
   · simp only [storeCells,Fb,Pw,run_store P w _ _ .plain h1',O,hf,E2,if_false,EX];exact M
   · have e:cs.take (o+i)++(v::vs++cs.drop (o+i+(v::vs).length))=(cs.set (o+i) v).take (o+(i+1))++(vs++(cs.set (o+i) v).drop (o+(i+1)+vs.length)):=by
      have hlt:o+i<cs.length:=CP;rw [GA,Qip hlt];have hm:(cs.take (o+i)).length=o+i:=by simp;omega
      have e1:List.take (o+(i+1)) (cs.take (o+i)++v::cs.drop (o+i+1))=cs.take (o+i)++[v]:=by
       rw [IB,hm,Fg V,show o+(i+1) - (o+i)=1 by omega];rfl
      have e2:List.drop (o+(i+1)+vs.length) (cs.take (o+i)++v::cs.drop (o+i+1))=cs.drop (o+i+(v::vs).length):=by
       rw [Iz,hm,ES V,show o+(i+1)+vs.length - (o+i)=vs.length+1 by omega];simp [Jg,Ip,Gv]
      rw [e1,e2];simp
     rw [e];exact h5

end Go.Lir
namespace Go.Lir
section

def SM (U:KD):List (Nat×Value)→KD
 | []=>U
 | (i,v)::l=>upd (SM U l) i v
def Ki (U:KD):List (Nat×Value)→Prop
 | []=>True
 | (i,v)::l=>U i=v∧Ki U l

theorem T2 {U:KD}{i:Nat}{v:Value}(h:U i=v):upd U i v=U:=by
 funext j;unfold upd;cases hb:Nat.beq j i
 · rfl
 · have:=H2 hb;subst this;exact h.symm
theorem po {U:KD}:∀{l:List (Nat×Value)},Ki U l→SM U l=U:=by
 intro l
 induction l with
 | nil=>intro _;rfl
 | cons p l ih=>obtain ⟨i,v⟩:=p;rintro ⟨I,M⟩;simp only [SM,ih M,T2 I]
theorem ix {U:KD}(l:List (Nat×Value))(h:Ki U l):∃ρ',U=SM ρ' l:=⟨U,(po h).symm⟩

theorem cV {n:Int}(I: -9223372036854775808≤n)(M:n≤9223372036854775807):IntKind.i64.wrap n=n:=by
 have e:IntKind.i64.wrap n=if n % 18446744073709551616≥9223372036854775808 then n % 18446744073709551616 - 18446744073709551616 else n % 18446744073709551616:=by
  unfold IntKind.wrap;simp [IntKind.bits,IntKind.signed]
 rw [e];split<;>omega

section
variable {P:Program}{l:List GO}{Q:QT}{K:KT}{U:KD}{w:World}

theorem Lf (h:Q .normal U w):Q0 P [] Q U w:=h
theorem Lm {l:List GO}{h:Q0 P l Q U w}:(LC.ops l).wp P Q U w:=h
theorem Qm {a b:LC}(h:a.wp P (Qp (b.wp P Q) Q) U w):(LC.seq a b).wp P Q U w:=h
theorem N7 {h:Q .normal U w}:LC.skip.wp P Q U w:=h
theorem NB {h:Q .ret U w}:LC.ret.wp P Q U w:=h
theorem jG {h:Q (.exit id) U w}:(LC.exit id).wp P Q U w:=h
theorem PS {a:LC}{h:a.wp P (Qk id Q) U w}:(LC.block id a).wp P Q U w:=h
theorem ug {c:Operand}{a b:LC}{t:Bool}(O:U.ev c= .bool t)(I:t=true→a.wp P Q U w)(M:t=false→b.wp P Q U w):(LC.cond c a b).wp P Q U w:=by
 refine ⟨t,O,?_⟩;cases t
 · exact M rfl
 · exact I rfl
theorem Aa {c:Operand}{a b:LC}{t:Bool}(O:U.ev c= .bool t:=by rfl){I:t=true→a.wp P Q U w}{M:t=false→b.wp P Q U w}:(LC.cond c a b).wp P Q U w:=ug O I M
theorem T3 {c:Operand}{a b:LC}(O:U.ev c= .bool true)(h:a.wp P Q U w):(LC.cond c a b).wp P Q U w:=⟨true,O,h⟩
theorem T4 {c:Operand}{a b:LC}(O:U.ev c= .bool false)(h:b.wp P Q U w):(LC.cond c a b).wp P Q U w:=⟨false,O,h⟩
theorem Qf {c:Operand}{a b:LC}{p:Prop}[Decidable p](O:U.ev c= .bool (decide p))(I:p→a.wp P Q U w)(M:¬p→b.wp P Q U w):(LC.cond c a b).wp P Q U w:=
 ug O (fun h=>I (of_decide_eq_true h)) (fun h=>M (of_decide_eq_false h))
theorem Ab {c:Operand}{a b:LC}{p:Prop}[Decidable p](O:U.ev c= .bool (decide p):=by rfl){I:p→a.wp P Q U w}{M:¬p→b.wp P Q U w}:(LC.cond c a b).wp P Q U w:=Qf O I M
theorem iy {a:LC}(I0q:KD→World→Prop)(μ:KD→World→Nat)(h0:I0q U w)(h:∀U w,I0q U w→a.wp P (Qp (fun ρ' B=>I0q ρ' B∧μ ρ' B<μ U w) Q) U w):(LC.loop a).wp P Q U w:=
 ⟨I0q,μ,h0,h⟩

theorem jH {h:R (.returned (.tuple #[])) w}:KN P [] R .ret U w:=h
theorem cW {t:Nat}{v:Value}(hv:U t=v)(h:R (.returned v) w):KN P [.tmp t] R .ret U w:=by subst hv;exact h
theorem cX {t u:Nat}{v:Value}(hv:U t=v)(hv':U u=v')(h:R (.returned (.tuple #[v,v'])) w):KN P [.tmp t, .tmp u] R .ret U w:=by subst hv hv';exact h
theorem QY {h:R (.returned (.tuple #[])) w}:KN P [] R .normal U w:=h
theorem QO {a T:Nat}{o:Nat}{v:Value}(ha:U a= .pointer (some ⟨b,o,none⟩))(hv:Yc P w ⟨b,o,none⟩ T v)(h:R (.returned v) w):KN P [.cell a T] R .ret U w:=⟨_,v,ha,hv,h⟩
theorem Px {t a T:Nat}{o:Nat}{v:Value}(hu:U t=u)(ha:U a= .pointer (some ⟨b,o,none⟩))(hv:Yc P w ⟨b,o,none⟩ T v)(h:R (.returned (.tuple #[u,v])) w):KN P [.tmp t, .cell a T] R .ret U w:=by
 subst hu;exact ⟨_,v,ha,hv,h⟩
theorem QD {t a T:Nat}{o:Nat}{v:Value}(ha:U a= .pointer (some ⟨b,o,none⟩))(hv:Yc P w ⟨b,o,none⟩ T v)(hu:U t=u)(h:R (.returned (.tuple #[v,u])) w):KN P [.cell a T, .tmp t] R .ret U w:=by
 subst hu;exact ⟨_,v,ha,hv,h⟩
theorem Q3 {o T:Nat}(ha:OB P T=true)(hn:N6 P T=some n)(hb:Ll w.heap b T' cs)(hv:(cs.drop o).take n=vs)(hl:vs.length=n):Yc P w ⟨b,o,none⟩ T (.agg ⟨vs⟩):=
 .inr ⟨ha,n,vs,hn,hb.cells hv hl,rfl⟩

theorem Q4 {K:KT}(h:K U w):Qp K Q .normal U w:=h
theorem mR {h:Q .normal U w}:Qk id Q .normal U w:=h
theorem uh {h:Q .normal U w}:Qk id Q (.exit id) U w:=by simp only [Qk,if_true];exact h
theorem ui {K:KT}{h:Q (.exit id) U w}:Qp K Q (.exit id) U w:=h
theorem NC {K:KT}{h:Q .ret U w}:Qp K Q .ret U w:=h
theorem cY {h:Q .ret U w}:Qk id Q .ret U w:=h
theorem Yf {id':Nat}(hne:Nat.beq id' id=false)(h:Q (.exit id') U w):Qk id Q (.exit id') U w:=by
 have:id'≠id:=(by rintro rfl;simp at hne);simp only [Qk,Qin this];exact h

theorem pq {b:Bool}{o:LO}(hg:U s= .bool b)(h:Q0 P (⟨none,o⟩::l) Q U w):Q0 P (⟨some (s,b),o⟩::l) Q U w:=by
 simp only [Q0,hg,XC,beq_self_eq_true,if_true];exact h
theorem pr {b:Bool}{o:LO}{v:Value}(hg:U s=v)(hw:XC v b=false)(h:Q0 P l Q (KR U o.dst undef) w):Q0 P (⟨some (s,b),o⟩::l) Q U w:=by
 simp only [Q0,hg,hw];exact h

theorem jI {x:Operand}{v:Value}(hx:U.ev x=v)(h:Q0 P l Q (upd U d v) w):Q0 P (⟨none, .mov d x⟩::l) Q U w:=by
 subst hx;exact h
theorem Tq {c x:Operand}{v:Value}(O:U.ev c= .bool true)(hx:U.ev x=v)(h:Q0 P l Q (upd U d v) w):Q0 P (⟨none, .pick d c x y⟩::l) Q U w:=by
 subst hx;exact ⟨true,O,h⟩
theorem PT {c x:Operand}{v:Value}(O:U.ev c= .bool false)(hx:U.ev y=v)(h:Q0 P l Q (upd U d v) w):Q0 P (⟨none, .pick d c x y⟩::l) Q U w:=by
 subst hx;exact ⟨false,O,h⟩
theorem jJ {x:Operand}{b:Bool}(hx:U.ev x= .bool b)(h:Q0 P l Q (upd U d (.bool (!b))) w):Q0 P (⟨none, .un d .not x⟩::l) Q U w:=
 ⟨_,fun w0=>by rw [hx];rfl,h⟩
theorem jK {x:Operand}{n:Int}(hx:U.ev x= .int k n)(h:Q0 P l Q (upd U d (.int k (k.wrap (0 - n)))) w):Q0 P (⟨none, .un d .neg x⟩::l) Q U w:=
 ⟨_,fun w0=>by rw [hx];rfl,h⟩
theorem cZ {x:Operand}{a:Addr}(hx:U.ev x= .pointer (some a))(h:Q0 P l Q (upd U d (.pointer (some a))) w):Q0 P (⟨none, .nilc d x⟩::l) Q U w:=⟨a,hx,h⟩
theorem bl {x:Operand}{o:Nat}(hx:U.ev x= .pointer (some ⟨b,o,none⟩))(h:Q0 P l Q (upd U d (.pointer (some ⟨b,o+off,none⟩))) w):Q0 P (⟨none, .fld d x off⟩::l) Q U w:=
 ⟨_,hx,by rw [Pw];exact h⟩
theorem mT {x:Operand}{o:Nat}{v:Value}(hx:U.ev x= .pointer (some ⟨b,o,none⟩))(hv:w.cell? ⟨b,o,none⟩=some v)(h:Q0 P l Q (upd U d v) w):Q0 P (⟨none, .load1 d x⟩::l) Q U w:=⟨_,v,hx,hv,h⟩
theorem OD {x:Operand}{o:Nat}{v:Value}(hx:U.ev x= .pointer (some ⟨b,o,none⟩))(hb:Ll w.heap b T cs)(hv:cs[o]?=some v)(h:Q0 P l Q (upd U d v) w):
 Q0 P (⟨none, .load1 d x⟩::l) Q U w:=⟨_,v,hx,hb.cell hv,h⟩
theorem Yg {x:Operand}{o:Nat}(hx:U.ev x= .pointer (some ⟨b,o,none⟩))(hb:Ll w.heap b T cs)(hv:(cs.drop o).take n=vs)(hl:vs.length=n)
 (h:Q0 P l Q (upd U d (.agg ⟨vs⟩)) w):Q0 P (⟨none, .loadn d n x⟩::l) Q U w:=⟨_,vs,hx,hb.cells hv hl,h⟩
theorem uj {x:Operand}{a:Addr}(hx:U.ev x= .pointer (some a))(O:bf w a n vs)
 (h:Q0 P l Q (upd U d (.agg ⟨vs⟩)) w):Q0 P (⟨none, .loadn d n x⟩::l) Q U w:=⟨_,vs,hx,O,h⟩
theorem uk {x:Operand}{o:Nat}{v:Value}(hx:U.ev x= .pointer (some ⟨b,o,none⟩))(hy:U.ev y=v)(hb:Ll w.heap b T cs)(hi:o<cs.length)(ho:oneC v=true)
 (h:∀B,Fr (· =b) w B→B.heap.size=w.heap.size→Ll B.heap b T (cs.set o v)→Q0 P l Q U B):Q0 P (⟨none, .store1 x y⟩::l) Q U w:=by
 subst hy;exact ⟨_,_,hx,hb.cell (EI hi),hb.free hi,ho,h _ (mQ w b o _) Js hb.set⟩
theorem um {x:Operand}{o:Nat}(hx:U.ev x= .pointer (some ⟨b,o,none⟩))(hy:U.ev y= .agg ⟨vs⟩)(hn:vs.length=n)(hb:Ll w.heap b T cs)(hi:o+n≤cs.length)
 (ho:∀v∈vs,oneC v=true)(h:∀B,Fr (· =b) w B→B.heap.size=w.heap.size→Ll B.heap b T (cs.take o++(vs++cs.drop (o+n)))→Q0 P l Q U B):Q0 P (⟨none, .storen n x y⟩::l) Q U w:=by
 subst hn;obtain ⟨B,I,M,h3,h4⟩:=pn P b T vs w cs o 0 hb V ho;exact ⟨_,_,B,hx,hy,rfl,I,h _ M h3 h4⟩
theorem da {x i:Operand}{o len:Nat}{n:Int}(hx:U.ev x= .slice (some ⟨b,o,none⟩) len cap)(hi:U.ev i= .int k n)(h0:0≤n)(I:n<len)
 (h:Q0 P l Q (upd U d (.pointer (some ⟨b,o+n.toNat*es,none⟩))) w):Q0 P (⟨none, .idx d es x i⟩::l) Q U w:=
 ⟨_,len,cap,k,n,hx,hi,h0,I,by rw [Pw];exact h⟩
theorem db {m:Nat}{x i:Operand}{o:Nat}{n:Int}(hx:U.ev x= .pointer (some ⟨b,o,none⟩))(hi:U.ev i= .int k n)(h0:0≤n)(I:n<(m:Int))
 (h:Q0 P l Q (upd U d (.pointer (some ⟨b,o+n.toNat*es,none⟩))) w):Q0 P (⟨none, .idxa d m es x i⟩::l) Q U w:=
 ⟨_,k,n,hx,hi,h0,I,by rw [Pw];exact h⟩
theorem bm {x:Operand}{a:Option Addr}{c:Nat}(hx:U.ev x= .slice a n c)(h:Q0 P l Q (upd U d (.int .i64 n)) w):Q0 P (⟨none, .len d x⟩::l) Q U w:=⟨a,n,c,hx,h⟩
theorem jL {x:Operand}{i:Nat}{v:Value}(hx:U.ev x= .tuple ⟨vs⟩)(hv:vs[i]?=some v)(h:Q0 P l Q (upd U d v) w):Q0 P (⟨none, .ext d x i⟩::l) Q U w:=⟨_,v,hx,by simpa using hv,h⟩
theorem iz {x:Operand}{o:Nat}{v:Value}(hx:U.ev x= .agg ⟨vs⟩)(hv:vs[o]?=some v)(h:Q0 P l Q (upd U d v) w):Q0 P (⟨none, .fldv d x o⟩::l) Q U w:=⟨_,v,hx,by simpa using hv,h⟩
theorem dc (hf:NA z (ps.map fun p=>(p.1,p.2.1,U.ev p.2.2))=some cs)(h:Q0 P l Q (upd U d (.agg ⟨cs⟩)) w):
 Q0 P (⟨none, .build d z ps⟩::l) Q U w:=⟨cs,hf,h⟩
theorem pt (h:∀b B,b=w.heap.size→Fr NF w B→B.heap.size=w.heap.size+1→Ll B.heap b T z→Q0 P l Q (upd U d (.pointer (some ⟨b,0,none⟩))) B):
 Q0 P (⟨none, .alloc d T z⟩::l) Q U w:=h _ _ rfl (cU w _) Js (iw w z T)
theorem jM {x:Operand}(hx:(U.ev x).cells=⟨cs⟩)(h:∀b B,b=w.heap.size→Fr NF w B→B.heap.size=w.heap.size+1→Ll B.heap b T cs→Q0 P l Q (upd U d (.pointer (some ⟨b,0,none⟩))) B):
 Q0 P (⟨none, .box d T x⟩::l) Q U w:=by
 refine (?_:LO.wp P U w (Q0 P l Q) Q (.box d T x));simp only [LO.wp,hx];exact h _ _ rfl (cU w _) Js (iw w cs T)
theorem pw (hf:NA z (ps.map fun p=>(p.1,p.2.1,U.ev p.2.2))=some cs)
 (h:∀b B,b=w.heap.size→Fr NF w B→B.heap.size=w.heap.size+1→Ll B.heap b T cs→Q0 P l Q (upd U d (.slice (some ⟨b,0,none⟩) n n)) B):
 Q0 P (⟨none, .buildS d T n z ps⟩::l) Q U w:=⟨cs,hf,h _ _ rfl (cU w _) Js (iw w cs T)⟩
theorem jN {f:Nat}{caps:List Operand}{h:Q0 P l Q (upd U d (.func (.func f) #[] ⟨caps.map U.ev⟩)) w}:Q0 P (⟨none, .mkfn d f caps⟩::l) Q U w:=h
theorem jO {x:Operand}{a b:Int}(hx:U.ev x= .int k a)(hy:U.ev y= .int k' b)(h:Q0 P l Q (upd U d (.int k (min a b))) w):Q0 P (⟨none, .mnx d false x y⟩::l) Q U w:=
 ⟨k,k',a,b,hx,hy,by
   have:(if b<a then b else a)=min a b:=CP;simp only [E2,if_false,this];exact h⟩
theorem bn {x:Operand}{a b:Int}(hx:U.ev x= .int k a)(hy:U.ev y= .int k' b)(h:Q0 P l Q (upd U d (.int k (max a b))) w):Q0 P (⟨none, .mnx d true x y⟩::l) Q U w:=
 ⟨k,k',a,b,hx,hy,by
   have:(if a<b then b else a)=max a b:=CP;simp only [if_true,this];exact h⟩
theorem jP {x:Operand}{v:Value}(hx:U.ev x=v)(h:Q0 P l Q (upd U d (.iface T v)) w):Q0 P (⟨none, .mki d T x⟩::l) Q U w:=by subst hx;exact h
theorem jQ {x:Operand}{a:Option Addr}{len:Nat}(hx:U.ev x= .slice a len cap)(hm:MQ U cap mx m)(hh:MQ U len hi h')(hl:MQ U 0 lo l')(I:m≤cap)(M:h'≤m)(h3:l'≤h')
 (h:Q0 P l Q (upd U d (.slice (if m=l' then a else a.map (·.add (l'*es))) (h' - l') (m - l'))) w):Q0 P (⟨none, .sub d es x lo hi mx⟩::l) Q U w:=⟨a,len,cap,l',h',m,hx,hm,hh,hl,I,M,h3,h⟩
def Ka (P:Program)(f:FuncId)(args:List Value)(w:World)(S:Value→World→Prop):Prop:=Calls P f ⟨args⟩ w fun e B=>∃v,e= .returned v∧S v B
theorem SN (hxs:xs.map U.ev=args)(O:Ka P f args w S)
 (h:∀v B,S v B→Q0 P l Q (upd U d v) B):Q0 P (⟨none, .call (some d) f xs⟩::l) Q U w:=by
 subst hxs;exact O.mono fun e B ⟨v,he,hs⟩=>by subst he;exact h v B hs
theorem Ka.mono {S':Value→World→Prop}(h:Ka P f args w S)(hs:∀v B,S v B→S' v B):Ka P f args w S':=
 Calls.mono h fun _ _ ⟨v,he,hv⟩=>⟨v,he,hs _ _ hv⟩
theorem uo {d:Option Nat}{x:Operand}{cap:List Value}(hx:U.ev x= .func (.func f) #[] ⟨cap⟩)(hf:P.funcs[f]?=some fn)
 (hb : fn.body.isSome = true)(hn : (fn.name == "runtime.NumGoroutine") = false)(hxs : xs.map U.ev ++ cap = args)(O : Calls P f ⟨args⟩ w R)
 (h:∀e B,R e B→Q6 (Q0 P l Q) Q d U w e B):Q0 P (⟨none, .callv d x xs⟩::l) Q U w:=by
 subst hxs;refine ⟨f,#[],⟨cap⟩,fn,hx,hf,hb,hn,?_⟩;have:(#[]++Array.mk (xs.map U.ev)++Array.mk cap:Array Value)=⟨xs.map U.ev++cap⟩:=C3;rw [this];exact O.mono h
theorem jR {x:Operand}{a b:Int}(hx:U.ev x= .int .i64 a)(hy:U.ev y= .int .i64 b)(I: -9223372036854775808≤a+b)(M:a+b≤9223372036854775807)
 (h:Q0 P l Q (upd U d (.int .i64 (a+b))) w):Q0 P (⟨none, .bin d .add T x y⟩::l) Q U w:=
 ⟨.int .i64 (a+b),fun w0=>by rw [hx,hy];simp [eqGuard,binOp,Op.intArith,cV I M],h⟩
theorem dd {x:Operand}{a b:Int}(hx:U.ev x= .int k a)(hy:U.ev y= .int k b)
 (h:Q0 P l Q (upd U d (.int k (k.wrap (a+b)))) w):Q0 P (⟨none, .bin d .add T x y⟩::l) Q U w:=
 ⟨_,fun w0=>by rw [hx,hy];simp [eqGuard,binOp,Op.intArith],h⟩

theorem de {x:Operand}{a b:Int}(hx:U.ev x= .int .i64 a)(hy:U.ev y= .int .i64 b)(I: -9223372036854775808≤a - b)(M:a - b≤9223372036854775807)
 (h:Q0 P l Q (upd U d (.int .i64 (a - b))) w):Q0 P (⟨none, .bin d .sub T x y⟩::l) Q U w:=
 ⟨.int .i64 (a - b),fun w0=>by rw [hx,hy];simp [eqGuard,binOp,Op.intArith,cV I M],h⟩
theorem mU {x:Operand}{a b:Int}(hx:U.ev x= .int k a)(hy:U.ev y= .int k b)
 (h:Q0 P l Q (upd U d (.int k (k.wrap (a - b)))) w):Q0 P (⟨none, .bin d .sub T x y⟩::l) Q U w:=
 ⟨_,fun w0=>by rw [hx,hy];simp [eqGuard,binOp,Op.intArith],h⟩

theorem jS {x:Operand}{a b:Int}(hx:U.ev x= .int .i64 a)(hy:U.ev y= .int .i64 b)(I: -9223372036854775808≤a*b)(M:a*b≤9223372036854775807)
 (h:Q0 P l Q (upd U d (.int .i64 (a*b))) w):Q0 P (⟨none, .bin d .mul T x y⟩::l) Q U w:=
 ⟨.int .i64 (a*b),fun w0=>by rw [hx,hy];simp [eqGuard,binOp,Op.intArith,cV I M],h⟩
theorem px {x:Operand}{a b:Int}(hx:U.ev x= .int k a)(hy:U.ev y= .int k b)
 (h:Q0 P l Q (upd U d (.int k (k.wrap (a*b)))) w):Q0 P (⟨none, .bin d .mul T x y⟩::l) Q U w:=
 ⟨_,fun w0=>by rw [hx,hy];simp [eqGuard,binOp,Op.intArith],h⟩

theorem bo {x:Operand}{a b:Int}(hx:U.ev x= .int k a)(hy:U.ev y= .int k b)(hb:b≠0)
 (h:Q0 P l Q (upd U d (.int k (k.wrap (a.tdiv b)))) w):Q0 P (⟨none, .bin d .quo T x y⟩::l) Q U w:=
 ⟨_,fun w0=>by rw [hx,hy];simp [eqGuard,binOp,Op.intDiv,hb],h⟩
theorem jT {x:Operand}{a b:Int}(hx:U.ev x= .int k a)(hy:U.ev y= .int k b)(hb:b≠0)
 (h:Q0 P l Q (upd U d (.int k (a.tmod b))) w):Q0 P (⟨none, .bin d .rem T x y⟩::l) Q U w:=
 ⟨_,fun w0=>by rw [hx,hy];simp [eqGuard,binOp,Op.intDiv,hb],h⟩
def M0 (op:BinOp)(k:IntKind)(a b:Int):Int:=
 let x:=BitVec.ofInt k.bits a
 let y:=BitVec.ofInt k.bits b
 k.wrap (match op with| .and=>x &&& y| .or=>x|||y| .xor=>x ^^^ y|_=>x &&& ~~~y).toNat

theorem T5 {x:Operand}{a b:Int}(hx:U.ev x= .int k a)(hy:U.ev y= .int k b)
 (h:Q0 P l Q (upd U d (.int k (M0 .and k a b))) w):Q0 P (⟨none, .bin d .and T x y⟩::l) Q U w:=
 ⟨_,fun w0=>by rw [hx,hy];simp [eqGuard,binOp,Op.intBits,M0],h⟩

theorem py {x:Operand}{a b:Int}(hx:U.ev x= .int k a)(hy:U.ev y= .int k b)
 (h:Q0 P l Q (upd U d (.int k (M0 .or k a b))) w):Q0 P (⟨none, .bin d .or T x y⟩::l) Q U w:=
 ⟨_,fun w0=>by rw [hx,hy];simp [eqGuard,binOp,Op.intBits,M0],h⟩

theorem jU {x:Operand}{a b:Int}(hx:U.ev x= .int k a)(hy:U.ev y= .int k b)
 (h:Q0 P l Q (upd U d (.int k (M0 .xor k a b))) w):Q0 P (⟨none, .bin d .xor T x y⟩::l) Q U w:=
 ⟨_,fun w0=>by rw [hx,hy];simp [eqGuard,binOp,Op.intBits,M0],h⟩

theorem jV {x:Operand}{a b:Int}(hx:U.ev x= .int k a)(hy:U.ev y= .int k b)
 (h:Q0 P l Q (upd U d (.bool (decide (a=b)))) w):Q0 P (⟨none, .bin d .eql T x y⟩::l) Q U w:=
 ⟨_,fun w0=>by
   rw [hx,hy]
   first
    | (simp [eqGuard,binOp,Op.intCmp];done)
    | (by_cases hp:a=b<;>simp [eqGuard,binOp,Op.intCmp,hp]),h⟩
theorem pz {x:Operand}{a b:Int}(hx:U.ev x= .int k a)(hy:U.ev y= .int k b)(hp:a=b)
 (h:Q0 P l Q (upd U d (.bool true)) w):Q0 P (⟨none, .bin d .eql T x y⟩::l) Q U w:=
 jV hx hy Dc
theorem pA {x:Operand}{a b:Int}(hx:U.ev x= .int k a)(hy:U.ev y= .int k b)(hp:¬(a=b))
 (h:Q0 P l Q (upd U d (.bool false)) w):Q0 P (⟨none, .bin d .eql T x y⟩::l) Q U w:=
 jV hx hy De
theorem Q2 {x:Operand}{a b:Int}(hx:U.ev x= .int k a)(hy:U.ev y= .int k b)
 (I:a=b→Q0 P l Q (upd U d (.bool true)) w)(M:¬(a=b)→Q0 P l Q (upd U d (.bool false)) w):Q0 P (⟨none, .bin d .eql T x y⟩::l) Q U w:=
 jV hx hy (by
  by_cases hp:a=b
  · rw [decide_eq_true hp];exact I hp
  · rw [decide_eq_false hp];exact M hp)

theorem Ac {x:Operand}{a b:Int}(hx:U.ev x= .int k a:=by rfl)(hy:U.ev y= .int k b:=by rfl)
 {I:a=b→Q0 P l Q (upd U d (.bool true)) w}{M:¬(a=b)→Q0 P l Q (upd U d (.bool false)) w}:Q0 P (⟨none, .bin d .eql T x y⟩::l) Q U w:=Q2 hx hy I M
theorem Yh {x:Operand}{a b:Int}(hx:U.ev x= .int k a)(hy:U.ev y= .int k b)
 (h:Q0 P l Q (upd U d (.bool (decide (a≠b)))) w):Q0 P (⟨none, .bin d .neq T x y⟩::l) Q U w:=
 ⟨_,fun w0=>by
   rw [hx,hy]
   first
    | (simp [eqGuard,binOp,Op.intCmp];done)
    | (by_cases hp:a=b<;>simp [eqGuard,binOp,Op.intCmp,hp]),h⟩
theorem Yi {x:Operand}{a b:Int}(hx:U.ev x= .int k a)(hy:U.ev y= .int k b)(hp:a≠b)
 (h:Q0 P l Q (upd U d (.bool true)) w):Q0 P (⟨none, .bin d .neq T x y⟩::l) Q U w:=
 Yh hx hy Dc
theorem Yj {x:Operand}{a b:Int}(hx:U.ev x= .int k a)(hy:U.ev y= .int k b)(hp:¬(a≠b))
 (h:Q0 P l Q (upd U d (.bool false)) w):Q0 P (⟨none, .bin d .neq T x y⟩::l) Q U w:=
 Yh hx hy De
theorem Qd {x:Operand}{a b:Int}(hx:U.ev x= .int k a)(hy:U.ev y= .int k b)
 (I:a≠b→Q0 P l Q (upd U d (.bool true)) w)(M:¬(a≠b)→Q0 P l Q (upd U d (.bool false)) w):Q0 P (⟨none, .bin d .neq T x y⟩::l) Q U w:=
 Yh hx hy (by
  by_cases hp:a≠b
  · rw [decide_eq_true hp];exact I hp
  · rw [decide_eq_false hp];exact M hp)

theorem Ad {x:Operand}{a b:Int}(hx:U.ev x= .int k a:=by rfl)(hy:U.ev y= .int k b:=by rfl)
 {I:a≠b→Q0 P l Q (upd U d (.bool true)) w}{M:¬(a≠b)→Q0 P l Q (upd U d (.bool false)) w}:Q0 P (⟨none, .bin d .neq T x y⟩::l) Q U w:=Qd hx hy I M
theorem Yk {x:Operand}{a b:Int}(hx:U.ev x= .int k a)(hy:U.ev y= .int k b)
 (h:Q0 P l Q (upd U d (.bool (decide (a<b)))) w):Q0 P (⟨none, .bin d .lss T x y⟩::l) Q U w:=
 ⟨_,fun w0=>by
   rw [hx,hy]
   first
    | (simp [eqGuard,binOp,Op.intCmp];done)
    | (by_cases hp:a=b<;>simp [eqGuard,binOp,Op.intCmp,hp]),h⟩
theorem Yl {x:Operand}{a b:Int}(hx:U.ev x= .int k a)(hy:U.ev y= .int k b)(hp:a<b)
 (h:Q0 P l Q (upd U d (.bool true)) w):Q0 P (⟨none, .bin d .lss T x y⟩::l) Q U w:=
 Yk hx hy Dc
theorem Ym {x:Operand}{a b:Int}(hx:U.ev x= .int k a)(hy:U.ev y= .int k b)(hp:¬(a<b))
 (h:Q0 P l Q (upd U d (.bool false)) w):Q0 P (⟨none, .bin d .lss T x y⟩::l) Q U w:=
 Yk hx hy De
theorem Qn {x:Operand}{a b:Int}(hx:U.ev x= .int k a)(hy:U.ev y= .int k b)
 (I:a<b→Q0 P l Q (upd U d (.bool true)) w)(M:¬(a<b)→Q0 P l Q (upd U d (.bool false)) w):Q0 P (⟨none, .bin d .lss T x y⟩::l) Q U w:=
 Yk hx hy (by
  by_cases hp:a<b
  · rw [decide_eq_true hp];exact I hp
  · rw [decide_eq_false hp];exact M hp)

theorem Ae {x:Operand}{a b:Int}(hx:U.ev x= .int k a:=by rfl)(hy:U.ev y= .int k b:=by rfl)
 {I:a<b→Q0 P l Q (upd U d (.bool true)) w}{M:¬(a<b)→Q0 P l Q (upd U d (.bool false)) w}:Q0 P (⟨none, .bin d .lss T x y⟩::l) Q U w:=Qn hx hy I M
theorem Yn {x:Operand}{a b:Int}(hx:U.ev x= .int k a)(hy:U.ev y= .int k b)
 (h:Q0 P l Q (upd U d (.bool (decide (a≤b)))) w):Q0 P (⟨none, .bin d .leq T x y⟩::l) Q U w:=
 ⟨_,fun w0=>by
   rw [hx,hy]
   first
    | (simp [eqGuard,binOp,Op.intCmp];done)
    | (by_cases hp:a=b<;>simp [eqGuard,binOp,Op.intCmp,hp]),h⟩
theorem uq {x:Operand}{a b:Int}(hx:U.ev x= .int k a)(hy:U.ev y= .int k b)
 (I:a≤b→Q0 P l Q (upd U d (.bool true)) w)(M:¬(a≤b)→Q0 P l Q (upd U d (.bool false)) w):Q0 P (⟨none, .bin d .leq T x y⟩::l) Q U w:=
 Yn hx hy (by
  by_cases hp:a≤b
  · rw [decide_eq_true hp];exact I hp
  · rw [decide_eq_false hp];exact M hp)

theorem jW {x:Operand}{a b:Int}(hx:U.ev x= .int k a)(hy:U.ev y= .int k b)
 (h:Q0 P l Q (upd U d (.bool (decide (b<a)))) w):Q0 P (⟨none, .bin d .gtr T x y⟩::l) Q U w:=
 ⟨_,fun w0=>by
   rw [hx,hy]
   first
    | (simp [eqGuard,binOp,Op.intCmp];done)
    | (by_cases hp:a=b<;>simp [eqGuard,binOp,Op.intCmp,hp]),h⟩
theorem Yo {x:Operand}{a b:Int}(hx:U.ev x= .int k a)(hy:U.ev y= .int k b)(hp:b<a)
 (h:Q0 P l Q (upd U d (.bool true)) w):Q0 P (⟨none, .bin d .gtr T x y⟩::l) Q U w:=
 jW hx hy Dc
theorem Yp {x:Operand}{a b:Int}(hx:U.ev x= .int k a)(hy:U.ev y= .int k b)(hp:¬(b<a))
 (h:Q0 P l Q (upd U d (.bool false)) w):Q0 P (⟨none, .bin d .gtr T x y⟩::l) Q U w:=
 jW hx hy De
theorem Qg {x:Operand}{a b:Int}(hx:U.ev x= .int k a)(hy:U.ev y= .int k b)
 (I:b<a→Q0 P l Q (upd U d (.bool true)) w)(M:¬(b<a)→Q0 P l Q (upd U d (.bool false)) w):Q0 P (⟨none, .bin d .gtr T x y⟩::l) Q U w:=
 jW hx hy (by
  by_cases hp:b<a
  · rw [decide_eq_true hp];exact I hp
  · rw [decide_eq_false hp];exact M hp)

theorem Af {x:Operand}{a b:Int}(hx:U.ev x= .int k a:=by rfl)(hy:U.ev y= .int k b:=by rfl)
 {I:b<a→Q0 P l Q (upd U d (.bool true)) w}{M:¬(b<a)→Q0 P l Q (upd U d (.bool false)) w}:Q0 P (⟨none, .bin d .gtr T x y⟩::l) Q U w:=Qg hx hy I M
theorem pB {x:Operand}{a b:Int}(hx:U.ev x= .int k a)(hy:U.ev y= .int k b)
 (h:Q0 P l Q (upd U d (.bool (decide (b≤a)))) w):Q0 P (⟨none, .bin d .geq T x y⟩::l) Q U w:=
 ⟨_,fun w0=>by
   rw [hx,hy]
   first
    | (simp [eqGuard,binOp,Op.intCmp];done)
    | (by_cases hp:a=b<;>simp [eqGuard,binOp,Op.intCmp,hp]),h⟩
theorem Yq {x:Operand}{a b:Int}(hx:U.ev x= .int k a)(hy:U.ev y= .int k b)(hp:b≤a)
 (h:Q0 P l Q (upd U d (.bool true)) w):Q0 P (⟨none, .bin d .geq T x y⟩::l) Q U w:=
 pB hx hy Dc
theorem Yr {x:Operand}{a b:Int}(hx:U.ev x= .int k a)(hy:U.ev y= .int k b)(hp:¬(b≤a))
 (h:Q0 P l Q (upd U d (.bool false)) w):Q0 P (⟨none, .bin d .geq T x y⟩::l) Q U w:=
 pB hx hy De
theorem QX {x:Operand}{a b:Int}(hx:U.ev x= .int k a)(hy:U.ev y= .int k b)
 (I:b≤a→Q0 P l Q (upd U d (.bool true)) w)(M:¬(b≤a)→Q0 P l Q (upd U d (.bool false)) w):Q0 P (⟨none, .bin d .geq T x y⟩::l) Q U w:=
 pB hx hy (by
  by_cases hp:b≤a
  · rw [decide_eq_true hp];exact I hp
  · rw [decide_eq_false hp];exact M hp)

theorem Ag {x:Operand}{a b:Int}(hx:U.ev x= .int k a:=by rfl)(hy:U.ev y= .int k b:=by rfl)
 {I:b≤a→Q0 P l Q (upd U d (.bool true)) w}{M:¬(b≤a)→Q0 P l Q (upd U d (.bool false)) w}:Q0 P (⟨none, .bin d .geq T x y⟩::l) Q U w:=QX hx hy I M
theorem Q8y (n:Nat){a b:Bool}(ht:P.underlying T=some .bool):(Op.equalIn (n+1) T (.bool a) (.bool b)).run P w0= .ok (a==b) w0:=by
 simp only [Op.equalIn,Fb,Qa P T _ w0 ht,EX,Fp]
theorem ur {a b:Bool}(ht:P.underlying T=some .bool):(Op.equal T (.bool a) (.bool b)).run P w0= .ok (a==b) w0:=
 Q8y 9999 ht
theorem jX {x:Operand}{a b:Bool}(ht:P.underlying T=some .bool)(hx:U.ev x= .bool a)(hy:U.ev y= .bool b)
 (h:Q0 P l Q (upd U d (.bool (a==b))) w):Q0 P (⟨none, .bin d .eql T x y⟩::l) Q U w:=
 ⟨_,fun w0=>by rw [hx,hy];simp [eqGuard,binOp,ur ht],h⟩
theorem T6 {x:Operand}{a b:Bool}(ht:P.underlying T=some .bool)(hx:U.ev x= .bool a)(hy:U.ev y= .bool b)
 (h:Q0 P l Q (upd U d (.bool (a !=b))) w):Q0 P (⟨none, .bin d .neq T x y⟩::l) Q U w:=
 ⟨_,fun w0=>by rw [hx,hy];simp [eqGuard,binOp,ur ht];cases a<;>cases b<;>rfl,h⟩

theorem pC {gs:List GO}{es:List (List Nat)}(C:List CI)(hok:cT gs es C=true)
 (hpl:(C.all fun c=>match c.2 with|some (some _)=>false|_=>true)=true)(h:Q0 P (C.map fun c=>K4 gs c.1) Q U w.drew):(LC.draw gs es).wp P Q U w:=
 Qhn C hok hpl h
theorem pD {gs:List GO}{es:List (List Nat)}(C:List CI)(hok:cT gs es C=true)(h:OU P gs C Q U w.drew):(LC.draw gs es).wp P Q U w:=uf C hok h
theorem pE {gs:List GO}{h:Q .normal U w}:OU P gs [] Q U w:=h
theorem KS {gs:List GO}{i:Nat}{rest:List CI}{h:Q0 P [K4 gs i] (Qp (OU P gs rest Q) Q) U w}:OU P gs ((i,none)::rest) Q U w:=h
theorem Lg {gs:List GO}{i:Nat}{rest:List CI}{h:Q0 P [K4 gs i] (Qp (OU P gs rest Q) Q) U w}:OU P gs ((i,some none)::rest) Q U w:=h
theorem Py {gs:List GO}{i:Nat}{fl:List Nat}{rest:List CI}{h:Q0 P [K4 gs i] (Qp (fun ρ' B=>(∀q∈fl,Nn P U B (K4 gs q) (U ((K4 gs q).dst.getD 0)))∧OU P gs rest Q ρ' B) (pj Q)) U w}:
 OU P gs ((i,some (some fl))::rest) Q U w:=h
end
end
section

def Sl (H:KI)(T:TypeId)(es:Nat)(v:Value)(F:Nat→Prop)(css:List (List Value)):Prop:=
 (∀c∈css,c.length=es)∧
 ((v= .slice none 0 0∧css=[]∧∀b,¬F b)∨
  ∃ b off cap arr,v= .slice (some ⟨b,off,none⟩) css.length cap∧css.length≤cap∧Ll H b T arr∧off+cap*es≤arr.length∧
    (∀i,i<css.length*es→arr[off+i]?=css.flatten[i]?)∧∀x,F x↔x=b)

theorem jY:∀{css:List (List Value)},(∀c∈css,c.length=es)→∀{m j:Nat}{c:List Value},css[m]?=some c→j<es→css.flatten[m*es+j]?=c[j]?:=by
 intro css
 induction css with
 | nil=>intro _ m j c h;simp at h
 | cons a css ih=>
   intro hl m j c h hj;have ha:=hl a Js
   cases m with
   | zero=>
     simp at h;subst h;simp only [GR,HU,Gi];rw [EU V]
   | succ m=>
     simp at h;have:=ih (fun c O=>hl c Dk) h hj;simp only [GR];rw [ER (by rw [ha,He];omega),ha,←this];congr 1;rw [He];omega

theorem R1:∀{css:List (List Value)},(∀c∈css,c.length=es)→css.flatten.length=css.length*es:=by
 intro css
 induction css with
 | nil=>intro _;simp
 | cons a css ih=>
   intro hl;simp only [GR,EO,EY,ih (fun c O=>hl c Dk),hl a Js,He];omega

theorem Sl.nil (H:KI)(T:TypeId)(es:Nat):Sl H T es (.slice none 0 0) NF []:=⟨by simp, .inl ⟨rfl,rfl,fun _ h=>h⟩⟩

theorem Sl.shape {H:KI}{v:Value}{F:Nat→Prop}(h:Sl H T es v F css):∃a c,v= .slice a css.length c:=by
 obtain ⟨_,⟨h,M,_⟩|⟨b,off,cap,arr,h,_⟩⟩:=h
 · subst M;exact ⟨_,_,h⟩
 · exact ⟨_,_,h⟩

theorem Sl.lt {H:KI}{v:Value}{F:Nat→Prop}(h:Sl H T es v F css):∀b,F b→b<H.size:=by
 obtain ⟨_,⟨_,_,h⟩|⟨b,off,cap,arr,_,_,hb,_,_,hf⟩⟩:=h
 · intro b hb;exact absurd hb (h b)
 · intro x hx;rw [(hf x).1 hx];exact hb.lt

theorem Sl.of_same {H H':KI}{v:Value}{F:Nat→Prop}(h:Sl H T es v F css)(hs:∀b,F b→b<H.size→H'[b]?=H[b]?):Sl H' T es v F css:=by
 obtain ⟨h0,I|⟨b,off,cap,arr,I,M,hb,h3,h4,hf⟩⟩:=h
 · exact ⟨h0, .inl I⟩
 · exact ⟨h0, .inr ⟨b,off,cap,arr,I,M,hb.of_same (hs b ((hf b).2 rfl) hb.lt),h3,h4,hf⟩⟩

theorem Sl.fr {F:Nat→Prop}{v:Value}(h:Sl w.heap T es v F css)(hf:Fr G w B)(hn:∀b,F b→¬G b):Sl B.heap T es v F css:=
 h.of_same fun b hb hlt=>hf.same b hlt (hn b hb)

theorem Sl.fr0 {F:Nat→Prop}{v:Value}(h:Sl w.heap T es v F css)(hf:Fr NF w B):Sl B.heap T es v F css:=
 h.fr hf fun _ _ h=>h
theorem Ll.fr0 (h:Ll w.heap b T cs)(hf:Fr NF w B):Ll B.heap b T cs:=h.fr hf fun h=>h

structure El (H:KI) (T:TypeId) (es:Nat) (v:Value) (F:Nat→Prop) (css:List (List Value)) (m b o:Nat):Prop where
 sl:Sl H T es v F css
 lt:m<css.length
 at_:∃off cap,v= .slice (some ⟨b,off,none⟩) css.length cap∧o=off+m*es

theorem El.out {H:KI}{v:Value}{F:Nat→Prop}{o:Nat}(h:El H T es v F css m b o):
 ∃off cap arr,v= .slice (some ⟨b,off,none⟩) css.length cap∧css.length≤cap∧Ll H b T arr∧off+cap*es≤arr.length∧(∀i,i<css.length*es→arr[off+i]?=css.flatten[i]?)∧(∀x,F x↔x=b)∧o=off+m*es:=by
 obtain ⟨⟨_,hs⟩,hm,off,cap,hv,ho⟩:=h;rcases hs with ⟨hv',O,_⟩|⟨b',off',cap',arr,hv',I,M,h3,h4,h5⟩
 · subst O;simp at hm
 · rw [hv] at hv';simp only [Value.slice.injEq,E3,Addr.mk.injEq,and_true,true_and] at hv';obtain ⟨⟨rfl,rfl⟩,rfl⟩:=hv';exact ⟨off,cap,arr,hv,I,M,h3,h4,h5,ho⟩

theorem El.F {H:KI}{T:TypeId}{es:Nat}{v:Value}{F:Nat→Prop}{css:List (List Value)}{m b o:Nat}(h:El H T es v F css m b o):∀x,F x↔x=b:=by
 obtain ⟨_,_,_,_,_,_,_,_,h,_⟩:=h.out;exact h

theorem jZ (h:m<n):m*es+es≤n*es:=by
 have:(m+1)*es≤n*es:=FH es h;rw [He] at this;exact this

theorem El.cell {v:Value}{F:Nat→Prop}{o:Nat}(h:El w.heap T es v F css m b o)(O:css[m]?=some c)(hu:c[j]?=some u):
 w.cell? ⟨b,o+j,none⟩=some u:=by
 have hlen:=h.sl.1;obtain ⟨off,cap,arr,hv,I,M,h3,h4,h5,ho⟩:=h.out;have hcl:c.length=es:=hlen c (EK O)
 have hj:j<es:=by
  rcases Gj j c.length with h|h
  · omega
  · simp [Fe h] at hu
 have hb:=jZ (es:=es) h.lt;have:=h4 (m*es+j) V;rw [jY hlen O hj,hu] at this;rw [ho,Gv];exact M.cell this

theorem El.cells {v:Value}{F:Nat→Prop}{o:Nat}(h:El w.heap T es v F css m b o)(O:css[m]?=some c):bf w ⟨b,o,none⟩ es c:=by
 have hcl:c.length=es:=h.sl.1 c (EK O);refine ⟨hcl,fun j hj=>?_⟩;rw [Pw,EI V];exact h.cell O (EI V)

theorem uu:∀{css:List (List Value)},(∀c∈css,c.length=es)→∀{m j:Nat}{c:List Value}{u:Value},css[m]?=some c→j<es→(css.set m (c.set j u)).flatten=css.flatten.set (m*es+j) u:=by
 intro css
 induction css with
 | nil=>intro _ m j c u h;simp at h
 | cons a css ih=>
   intro hl m j c u h hj;have ha:=hl a Js
   cases m with
   | zero=>
     simp at h;subst h;simp only [EV,GR,HU,Gi];rw [List.set_append_left _ _ V]
   | succ m=>
     simp at h;have:=ih (fun c O=>hl c Dk) (u:=u) h hj;simp only [E1,GR,this];rw [Gf _ _ (by rw [ha,He];omega),ha];congr 2;rw [He];omega

theorem El.set {v:Value}{F:Nat→Prop}{o:Nat}(h:El w.heap T es v F css m b o)(O:css[m]?=some c)(hj:j<es):
 El (w.setCell ⟨b,o+j,none⟩ u).heap T es v F (css.set m (c.set j u)) m b o:=by
 have hlen:=h.sl.1;obtain ⟨off,cap,arr,hv,I,M,h3,h4,h5,ho⟩:=h.out;refine ⟨⟨?_, .inr ⟨b,off,cap,arr.set (o+j) u,by simpa using hv,by simpa using I,M.set,by simpa using h3,?_,h5⟩⟩,by simpa using h.lt,off,cap,by simpa using hv,ho⟩
 · intro x hx
   rcases HH hx with hx|rfl
   · exact hlen x hx
   · simpa using hlen c (EK O)
 · intro i hi
   simp only [Fh] at hi;rw [uu hlen O hj];have e:=h4 i hi;have hb:=jZ (es:=es) h.lt;have hfl:=R1 hlen;have hmul:css.length*es≤cap*es:=FH es I;by_cases hii:i=m*es+j
   · subst hii;rw [ho,←Gv,Gu V,Gu V]
   · rw [GD V,GD V,e]

theorem El.fr {F:Nat→Prop}{v:Value}{o:Nat}(h:El w.heap T es v F css m b o)(hf:Fr G w B)(hn:∀b,F b→¬G b):El B.heap T es v F css m b o:=
 ⟨h.sl.fr hf hn,h.lt,h.at_⟩

theorem El.setn {v:Value}{F:Nat→Prop}{o:Nat}:∀(vs:List Value) (w:World) (css:List (List Value)) (c:List Value) (j:Nat),El w.heap T es v F css m b o→css[m]?=some c→j+vs.length≤es→(∀v∈vs,oneC v=true)→
 ∃B,(storeCells ⟨b,o,none⟩ vs j).run P w= .ok () B∧Fr F w B∧B.heap.size=w.heap.size∧El B.heap T es v F (css.set m (c.take j++(vs++c.drop (j+vs.length)))) m b o:=by
 intro vs
 induction vs with
 | nil=>
   intro w css c j h O hj _;refine ⟨w,by simp [storeCells],Hw _ _,rfl,?_⟩
   have:css.set m (c.take j++([]++c.drop (j+0)))=css:=by
    simp only [HX,HW,Gz];apply GC;intro i;by_cases him:m=i
    · subst him;rw [Gu h.lt,O]
    · rw [GD him]
   simp only [Fc];rw [this];exact h
 | cons u vs ih=>
   intro w css c j h O hj ho;simp only [EY] at hj;have I:=ho u Js;have h1':u.oneCell'=true:=(by cases u<;>simp_all [Value.oneCell',oneC]);have hcl:c.length=es:=h.sl.1 c (EK O);have hcell:=h.cell O (EI (show j<c.length by omega));have hset:=h.set (u:=u) O (show j<es by omega);obtain ⟨off,cap,arr,hv,g1,g2,g3,g4,g5,go⟩:=h.out;have hb:=jZ (es:=es) h.lt;have hmul:css.length*es≤cap*es:=FH es g1;have hfree:=g2.free (w:=w) (i:=o+j) V;have hc':(css.set m (c.set j u))[m]?=some (c.set j u):=Gu h.lt;obtain ⟨B,M,h3,h4,h5⟩:=ih (w.setCell ⟨b,o+j,none⟩ u) _ _ (j+1) hset hc' V (fun x hx=>ho x Da);refine ⟨B,?_,((mQ w b (o+j) u).mono fun x _ hx=>(g5 x).2 hx).trans h3 (fun _ _ h=>h),h4.trans Js,?_⟩
   · simp only [storeCells,Fb,Pw,run_store P w _ _ .plain h1',hcell,hfree,E2,if_false,EX];exact M
   · have e:(css.set m (c.set j u)).set m ((c.set j u).take (j+1)++(vs++(c.set j u).drop (j+1+vs.length)))=css.set m (c.take j++(u::vs++c.drop (j+(u::vs).length))):=by
      rw [Gr];congr 1;have hlt:j<c.length:=CP;rw [GA,Qip hlt];have hm:(c.take j).length=j:=by simp;omega
      have e1:List.take (j+1) (c.take j++u::c.drop (j+1))=c.take j++[u]:=by
       rw [IB,hm,Fg V,show j+1 - j=1 by omega];rfl
      have e2:List.drop (j+1+vs.length) (c.take j++u::c.drop (j+1))=c.drop (j+(u::vs).length):=by
       rw [Iz,hm,ES V,show j+1+vs.length - j=vs.length+1 by omega];simp [Jg,Ip]
      rw [e1,e2];simp
     rw [←e];exact h5

section
variable {P:Program}{l:List GO}{Q:QT}{U:KD}{w:World}{T:TypeId}{es:Nat}{v:Value}{F:Nat→Prop}{css:List (List Value)}

theorem pF {x i:Operand}{n:Int}(hx:U.ev x=v)(hi:U.ev i= .int k n)(hs:Sl w.heap T es v F css)(h0:0≤n)(I:n<css.length)
 (h:∀b o,El w.heap T es v F css n.toNat b o→Q0 P l Q (upd U d (.pointer (some ⟨b,o,none⟩))) w):Q0 P (⟨none, .idx d es x i⟩::l) Q U w:=by
 obtain ⟨hlen,⟨hv,O,_⟩|⟨b,off,cap,arr,hv,g1,g2,g3,g4,g5⟩⟩:=hs
 · subst O;simp at I;omega
 · subst hv;exact da hx hi h0 I (h b _ ⟨⟨hlen, .inr ⟨b,off,cap,arr,rfl,g1,g2,g3,g4,g5⟩⟩,V,off,cap,rfl,rfl⟩)

theorem XE {x:Operand}(hx:U.ev x=v)(hs:Sl w.heap T es v F css)(h:Q0 P l Q (upd U d (.int .i64 css.length)) w):Q0 P (⟨none, .len d x⟩::l) Q U w:=by
 obtain ⟨a,c,hv⟩:=hs.shape;exact bm (hx.trans hv) h

theorem mV {x:Operand}{o:Nat}(hx:U.ev x= .pointer (some ⟨b,o,none⟩))(he:El w.heap T es v F css m b o)(O:css[m]?=some c)(hu:c[0]?=some u)
 (h:Q0 P l Q (upd U d u) w):Q0 P (⟨none, .load1 d x⟩::l) Q U w:=mT hx (by have:=he.cell O hu;simpa using this) h
theorem T7 {x:Operand}{o:Nat}(hx:U.ev x= .pointer (some ⟨b,o+j,none⟩))(he:El w.heap T es v F css m b o)(O:css[m]?=some c)(hu:c[j]?=some u)
 (h:Q0 P l Q (upd U d u) w):Q0 P (⟨none, .load1 d x⟩::l) Q U w:=mT hx (he.cell O hu) h
theorem T8 {x:Operand}{o:Nat}(hx:U.ev x= .pointer (some ⟨b,o,none⟩))(he:El w.heap T es v F css m b o)(O:css[m]?=some c)
 (h:Q0 P l Q (upd U d (.agg ⟨c⟩)) w):Q0 P (⟨none, .loadn d es x⟩::l) Q U w:=uj hx (he.cells O) h
theorem uv {x:Operand}{o:Nat}(hx:U.ev x= .pointer (some ⟨b,o+j,none⟩))(hy:U.ev y=u)(he:El w.heap T es v F css m b o)(O:css[m]?=some c)(hj:j<es)(ho:oneC u=true)
 (h:∀B,Fr F w B→B.heap.size=w.heap.size→El B.heap T es v F (css.set m (c.set j u)) m b o→Q0 P l Q U B):Q0 P (⟨none, .store1 x y⟩::l) Q U w:=by
 subst hy;have hcl:c.length=es:=he.sl.1 c (EK O);obtain ⟨off,cap,arr,hv,g1,g2,g3,g4,g5,go⟩:=he.out;have hb:=jZ (es:=es) he.lt;have hmul:css.length*es≤cap*es:=FH es g1;exact ⟨_,_,hx,he.cell O (EI (show j<c.length by omega)),g2.free V,ho,h _ ((mQ w b _ _).mono fun x _ hx=>(g5 x).2 hx) Js (he.set O hj)⟩
theorem pG {x:Operand}{o:Nat}(hx:U.ev x= .pointer (some ⟨b,o,none⟩))(hy:U.ev y=u)(he:El w.heap T es v F css m b o)(O:css[m]?=some c)(hj:0<es)(ho:oneC u=true)
 (h:∀B,Fr F w B→B.heap.size=w.heap.size→El B.heap T es v F (css.set m (c.set 0 u)) m b o→Q0 P l Q U B):Q0 P (⟨none, .store1 x y⟩::l) Q U w:=
 uv (j:=0) hx hy he O hj ho h
theorem Qie {x:Operand}{o:Nat}(hx:U.ev x= .pointer (some ⟨b,o,none⟩))(hy:U.ev y= .agg ⟨vs⟩)(hn:vs.length=n)(he:El w.heap T es v F css m b o)(O:css[m]?=some c)(hl:vs.length=es)(ho:∀v∈vs,oneC v=true)
 (h:∀B,Fr F w B→B.heap.size=w.heap.size→El B.heap T es v F (css.set m vs) m b o→Q0 P l Q U B):Q0 P (⟨none, .storen n x y⟩::l) Q U w:=by
 subst hn;have hcl:c.length=es:=he.sl.1 c (EK O);obtain ⟨B,I,M,h3,h4⟩:=El.setn (P:=P) vs w css c 0 he O V ho;refine ⟨_,_,B,hx,hy,rfl,I,h B M h3 ?_⟩;have:c.take 0++(vs++c.drop (0+vs.length))=vs:=CT;rw [this] at h4;exact h4

theorem T9 {x:Operand}(hx:U.ev x=v)(hs:Sl w.heap T es v F css)(hmx:mx=none)(hh:MQ U css.length hi h')(hl:MQ U 0 lo l')(M:h'≤css.length)(h3:l'≤h')
 (h:∀v',Sl w.heap T es v' F ((css.take h').drop l')→Q0 P l Q (upd U d v') w):Q0 P (⟨none, .sub d es x lo hi mx⟩::l) Q U w:=by
 subst hmx;obtain ⟨hlen,⟨hv,O,hF⟩|⟨b,off,cap,arr,hv,g1,g2,g3,g4,g5⟩⟩:=hs
 · subst O hv;simp only [Fc,Nat.le_zero_eq] at M;subst M;have:l'=0:=CP;subst this;refine jQ (m:=0) hx rfl hh hl (E6 _) (E6 _) (E6 _) ?_;simp only [if_true,GX];exact h _ (by simpa using ⟨by simp, .inl ⟨rfl,rfl,hF⟩⟩)
 · subst hv
   refine jQ (m:=cap) hx rfl hh hl (E6 _) V h3 ?_;refine h _ ⟨fun c O=>hlen c (F8 (Hq O)), .inr ?_⟩;have hl1:((css.take h').drop l').length=h' - l':=by simp;omega
   have hfl:∀i,i<(h' - l')*es→((css.take h').drop l').flatten[i]?=css.flatten[l'*es+i]?:=by
    intro i hi
    have e1:css=css.take l'++((css.take h').drop l'++css.drop h'):=by
     have:css.take l'=(css.take h').take l':=(by rw [List.take_take,IH h3]);rw [this,←Gm,Gz,Gz]
    have hlen':∀c∈css.take l',c.length=es:=fun c O=>hlen c (F8 O);have hlen2:∀c∈(css.take h').drop l',c.length=es:=fun c O=>hlen c (F8 (Hq O));have f1:=R1 hlen';have f2:=R1 hlen2;rw [hl1] at f2;have ht:(css.take l').length=l':=CT;rw [ht] at f1
    conv=>rhs;rw [e1]
    simp only [GG];rw [ER V,f1,Nat.add_sub_cancel_left,EU V]
   have hm1:l'*es≤cap*es:=FH es V;have hm2:(cap - l')*es=cap*es - l'*es:=Nat.sub_mul _ _ _;have hm3:(h' - l')*es+l'*es=h'*es:=(by rw [←Hm];congr 1;omega);have hm4:h'*es≤css.length*es:=FH es M;by_cases hcl:cap=l'
   · rw [Qip hcl]
     refine ⟨b,off,cap - l',arr,?_,V,g2,V,?_,g5⟩
     · rw [hl1]
     · intro i hi;rw [hl1] at hi;have:h' - l'=0:=CP;rw [this] at hi;omega
   · rw [Qin hcl]
     refine ⟨b,off+l'*es,cap - l',arr,?_,V,g2,V,?_,g5⟩
     · rw [hl1];simp only [FJ,Pw]
     · intro i hi;rw [hl1] at hi;rw [hfl i hi,Gv,g4 (l'*es+i) V]
end
end
section

def M6 (P:Program)(Ts:TypeId):Option (TypeId×Nat×Nat×List Value):=match P.underlying Ts with
 | some (.slice e)=>match P.info? e with
   | some i=>match i.zero with
     | some z=>if i.size=0∨i.bytes=0∨z.cells.size≠i.size then none else some (e,i.size,i.bytes,z.cells.toList)
     | none=>none
   | none=>none
 | _=>none

theorem mW {e:Nat}(h:M6 P Ts=some (e,es,nb,z)):
 ∃i zv,P.underlying Ts=some (.slice e)∧P.info? e=some i∧i.zero=some zv∧i.size=es∧i.bytes=nb∧zv.cells.toList=z∧0<es∧0<nb∧z.length=es:=by
 unfold M6 at h;split at h
 · rename_i e' hu
   split at h
   · rename_i i hi
     split at h
     · rename_i zv hz
       split at h
       · cases h
       · rename_i O
         simp only [E3,GF] at h;obtain ⟨rfl,rfl,rfl,rfl⟩:=h;refine ⟨i,zv,hu,hi,hz,rfl,rfl,rfl,V,V,?_⟩;have:zv.cells.size=i.size:=by omega
         simpa using this
     · cases h
   · cases h
 · cases h

def Ua (P:Program)(w:World)(es:Nat)(v:Value)(css:List (List Value)):Prop:=
 (Builtin.lenOf v).run P w= .ok css.length w∧(∀c∈css,c.length=es)∧(∀c∈css,∀u∈c,oneC u=true)∧
 ∀B,(∀b,b<w.heap.size→B.heap[b]?=w.heap[b]?)→(Builtin.firstCells es css.length v).run P B= .ok ⟨css.flatten⟩ B

theorem Sl.src {v:Value}{F:Nat→Prop}(h:Sl w.heap T es v F css)(ho:∀c∈css,∀u∈c,oneC u=true):Ua P w es v css:=by
 have hlen:=h.1;refine ⟨?_,hlen,ho,?_⟩
 · obtain ⟨a,c,hv⟩:=h.shape;rw [hv];rfl
 · intro B hw'
   obtain ⟨_,⟨hv,O,_⟩|⟨b,off,cap,arr,hv,g1,g2,g3,g4,g5⟩⟩:=h
   · subst hv O;rfl
   · subst hv;have g2':=g2.of_same (hw' b g2.lt);simp only [Builtin.firstCells];refine jz _ _ _ ⟨R1 hlen,fun j hj=>?_⟩;rw [Pw];have hfl:=R1 hlen;have hm:=FH es g1;have:=g4 j V;rw [EI (show j<css.flatten.length from hfl ▸ hfl ▸ hj)] at this ⊢;exact g2'.cell this

theorem Sl.fresh {H:KI}(hb:Ll H b T cs)(hf:css.flatten=cs)(hl:∀c∈css,c.length=es)(hn:css.length=n):
 Sl H T es (.slice (some ⟨b,0,none⟩) n n) (· =b) css:=by
 subst hn hf;refine ⟨hl, .inr ⟨b,0,css.length,css.flatten,rfl,E6 _,hb,?_,?_,fun x=>GY⟩⟩
 · rw [R1 hl];omega
 · intro i _;rw [Gi]

abbrev Is:=@Sl.fresh
theorem Qag {zero:Array Value}:(Builtin.zeroCells zero n).toList.length=n*zero.size:=by simp [Builtin.zeroCells]

def pH (w:World)(T:TypeId)(es:Nat)(F:Nat→Prop)(css css2:List (List Value))(v':Value)(B:World):Prop:=
 ∃F',Sl B.heap T es v' F' (css++css2)∧Fr F w B∧∀b,F' b→F b∨w.heap.size≤b

theorem QgR {Ts2 Ty e:Nat}(hel:M6 P Ts=some (e,es,nb,z))(hts:(∃e2,P.underlying Ts2=some (.slice e2))∨P.underlying Ts2=some .string)
 {v:Value}{F:Nat→Prop}{css2:List (List Value)}(hs:Sl w.heap e es v F css)(hsrc:Ua P w es v2 css2)(hb:(css.length+css2.length)*nb≤140737488355328):
 ∃v' B,(Builtin.append_ #[Ts,Ts2] Ty #[v,v2]).run P w= .ok v' B∧pH w e es F css css2 v' B:=by
 obtain ⟨i,zv,hu,hi,hz,rfl,rfl,hzc,hes,hnb,hzl⟩:=mW hel;obtain ⟨hl2,hlen2,hone2,hfc2⟩:=hsrc;have hsz:(sizeOf e).run P w= .ok i.size w:=(by simp [sizeOf,jy P e i w hi]);have hlen:=hs.1;have hzs:zv.cells.size=i.size:=Es;have hsmall:css.length+css2.length≤140737488355328:=Gs (Nat.le_mul_of_pos_right _ hnb) hb;have hf1:=R1 hlen;have hf2:=R1 hlen2
 -- the growing way
 have grow:∀(base:Option Addr) (cap:Nat),v= .slice base css.length cap→cap<css.length+css2.length→
  (∀B,(∀b,b<w.heap.size→B.heap[b]?=w.heap[b]?)→(Builtin.firstCells i.size css.length v).run P B= .ok ⟨css.flatten⟩ B)→
  ∃v' B,(Builtin.append_ #[Ts,Ts2] Ty #[v,v2]).run P w= .ok v' B∧pH w e i.size F css css2 v' B:=by
  intro base cap hv hcap hold;have hq:Question.forced (.appendCap (css.length+css2.length) cap e)=false:=rfl
  let nc:=Question.cut (.appendCap (css.length+css2.length) cap e) (w.tape w.drawn (.appendCap (css.length+css2.length) cap e))
  have hnc:css.length+css2.length≤nc:=(by simp only [nc,Question.cut];omega);have I:=hold w.drew (fun _ _=>rfl);have M:=hfc2 w.drew (fun _ _=>rfl);have hgs:=growslice_fits hcap hb;refine ⟨.slice (some ⟨w.heap.size,0,none⟩) (css.length+css2.length) nc,w.drew.alloc (.cells (⟨css.flatten⟩++⟨css2.flatten⟩++Builtin.zeroCells zv.cells (nc - (css.length+css2.length))) e),?_,?_⟩
  · subst hv
    have hw:({w with drawn:=w.drawn+1}:World)=w.drew:=rfl;simp only [Builtin.append_,GN,Fm,FP,Fb,Qa P Ts _ w hu,EX,hsz];have hnr:¬(css.length+css2.length≤cap):=CP;have hnx:¬(Builtin.nextslicecap (css.length+css2.length) cap*i.bytes>2 ^ 48):=CP;rcases hts with ⟨e2,hd⟩|hd
    all_goals
     simp only [Qa P Ts2 _ w hd,EX,Fp,E2,if_false,hl2,Sem.run_ite,Qin hnr,Fb,jy P e i _ hi,Qin hnx]
    all_goals
     simp only [run_choose,hq,E2,if_false,EX,run_askRoom,hw];rw [I];simp only [EX,H5,if_true];rw [M];simp only [EX,bj P e zv _ DJ,newRow,Fb,run_newObj,Fp];rw [Qin (by rintro ⟨_,h|h⟩;exact h;omega)];rfl
  · have hblk:=iw w.drew ((⟨css.flatten⟩++⟨css2.flatten⟩++Builtin.zeroCells zv.cells (nc - (css.length+css2.length)):Array Value).toList) e
    refine ⟨(· =w.heap.size),⟨?_, .inr ⟨w.heap.size,0,nc,_,by simp,by simpa using hnc,hblk,?_,?_,fun x=>GY⟩⟩,((cU w.drew _).drew).any,fun b hb=> .inr (Hv hb.symm)⟩
    · intro c O
      rcases E8.1 O with O|O
      · exact hlen c O
      · exact hlen2 c O
    · simp only [Ie,EO,Qag,hf1,hf2,hzs,←Hm,Gi];exact FH _ V
    · intro j hj;simp only [EO] at hj;rw [Gi,Ie,Ie,GG];rw [EU (by simp only [EO,hf1,hf2,←Hm];exact hj)]
 obtain ⟨_,⟨hv,O,hF⟩|⟨b,off,cap,arr,hv,g1,g2,g3,g4,g5⟩⟩:=hs
 · by_cases hc2:css2=[]
   · subst O hc2 hv
     refine ⟨.slice none 0 0,w,?_,F,⟨by simp, .inl ⟨rfl,rfl,hF⟩⟩,Hw _ _,fun b hb=> .inl hb⟩;have M:=hfc2 w (fun _ _=>rfl);simp only [Fc] at M;simp only [Builtin.append_,GN,Fm,FP,Fb,Qa P Ts _ w hu,EX,hsz];rcases hts with ⟨e2,hd⟩|hd
     all_goals
      simp only [Qa P Ts2 _ w hd,Fp,EX,E2,if_false,hl2,Fc,HW,E6,if_true,H5,Fb];rw [M];rfl
   · refine grow none 0 (by rw [hv,O];rfl) ?_ ?_
     · have:0<css2.length:=G4.2 hc2;omega
     · intro B _;subst hv O;rfl
 · by_cases hroom:css.length+css2.length≤cap
   · have hm:=FH i.size hroom
     rw [Hm] at hm;have M:=hfc2 w (fun _ _=>rfl)
     have hone:∀u∈css2.flatten,oneC u=true:=by
      intro u hu;obtain ⟨c,O,hu⟩:=List.mem_flatten.1 hu;exact hone2 c O u hu
     obtain ⟨B,h3,h4,h5,h6⟩:=pn P b e css2.flatten w arr (off+css.length*i.size) 0 g2 V hone;refine ⟨.slice (some ⟨b,off,none⟩) (css.length+css2.length) cap,B,?_,F,⟨?_, .inr ⟨b,off,cap,_,by simp,by simpa using hroom,h6,?_,?_,g5⟩⟩,h4.mono (fun x _ hx=>(g5 x).2 hx),fun x hx=> .inl hx⟩
     · subst hv
       simp only [Builtin.append_,GN,Fm,FP,Fb,Qa P Ts _ w hu,EX,hsz];rcases hts with ⟨e2,hd⟩|hd
       all_goals
        simp only [Qa P Ts2 _ w hd,Fp,EX,E2,if_false,hl2,hroom,if_true,H5,Fb];rw [M];simp only [EX,Pw,h3]
     · intro c O
       rcases E8.1 O with O|O
       · exact hlen c O
       · exact hlen2 c O
     · simp only [EO,FY,List.length_drop];omega
     · intro j hj
       simp only [EO,Hm] at hj;rw [GG];simp only [HW];have hlt:(arr.take (off+css.length*i.size)).length=off+css.length*i.size:=CT;by_cases hj1:j<css.length*i.size
       · rw [EU V,FE V,EU V];exact g4 j hj1
       · rw [ER V,hlt,EU V,ER V,hf1];congr 1;omega
   · refine grow (some ⟨b,off,none⟩) cap hv V ?_;intro B hw';subst hv;have g2':=g2.of_same (hw' b g2.lt);simp only [Builtin.firstCells];refine jz _ _ _ ⟨hf1,fun j hj=>?_⟩;rw [Pw];have:=g4 j hj;rw [EI (show j<css.flatten.length by omega)] at this ⊢;exact g2'.cell this

section
variable {P:Program}{l:List GO}{Q:QT}{U:KD}{w:World}

theorem Ub {Ts2 Ty e:Nat}{x:Operand}{v:Value}{F:Nat→Prop}{css2:List (List Value)}(hel:M6 P Ts=some (e,es,nb,z))
 (hts:(∃e2,P.underlying Ts2=some (.slice e2))∨P.underlying Ts2=some .string)(hx:U.ev x=v)(hy:U.ev y=v2)(hs:Sl w.heap e es v F css)(hsrc:Ua P w es v2 css2)(hb:(css.length+css2.length)*nb≤140737488355328)
 (h : ∀ v' B, pH w e es F css css2 v' B → Q0 P l Q (upd U d v') B): Q0 P (⟨none, .raw ⟨some d, .call ⟨.builtin .append, #[x, y], #[Ts, Ts2]⟩, Ty, "", #[], none⟩⟩ :: l) Q U w := by
 obtain ⟨v',B,hr,hp⟩:=QgR (Ty:=Ty) hel hts hs hsrc hb;refine MR (v:=v') (B:=B) ?_ (h v' B hp);simp only [execOp,resolve,Fb,Fp,EX,invoke,builtin];have e1:(#[x,y].map U.ev)=#[v,v2]:=(by simp [hx,hy]);rw [e1,hr];rfl
theorem uw (hz:z.length=es)(hes:0<es)(n:Nat):(List.range (n*es)).map (fun i=>z.getD (i % es) default)=(List.replicate n z).flatten:=by
 apply GC;intro i;have hl:∀c∈List.replicate n z,c.length=es:=(by intro c O;rw [F6 O];exact hz);have hfl:=R1 hl;simp only [FK] at hfl;by_cases hi:i<n*es
 · have hq:i / es<n:=JB (by rw [Ir];exact hi);have hm:i % es<es:=IP _ hes;have e:=jY hl (m:=i / es) (j:=i % es) (c:=z) (by simp [hq]) hm;have hdm:i / es*es+i % es=i:=(by rw [Ir];exact Nat.div_add_mod i es);rw [hdm] at e;rw [e];simp only [EZ,G5 hi,FJ];rw [EL,EI (show i % es<z.length by omega)];rfl
 · rw [Fe CT,Fe V]

theorem j0 {Ty e:Nat}{x:Operand}{n:Int}(hel:M6 P Ts=some (e,es,nb,z))(hx:U.ev x= .int k n)(hy:U.ev y= .int k' n)(h0:0≤n)(hn:n*nb≤281474976710656)
 (h:∀v' B,Fr NF w B→Sl B.heap e es v' (· =w.heap.size) (List.replicate n.toNat z)→B.heap.size=w.heap.size+1→Q0 P l Q (upd U d v') B):
 Q0 P (⟨none, .raw ⟨some d, .makeSlice Ts x y, Ty, "", #[], none⟩⟩ :: l) Q U w := by
 obtain ⟨i,zv,hu,hi,hz,rfl,rfl,hzc,hes,hnb,hzl⟩:=mW hel;have hzs:zv.cells.size=i.size:=by rw [←FZ,hzc];exact hzl
 have hle:n≤281474976710656:=by
  have:n*1≤n*i.bytes:=Int.mul_le_mul_of_nonneg_left V h0;omega
 have hwr:IntKind.i64.wrap n=n:=cV V V;have hfl:=uw hzl hes n.toNat;have hl:∀c∈List.replicate n.toNat z,c.length=i.size:=EA;have hb:(i.bytes:Int)*n≤281474976710656:=by rw [Int.mul_comm];exact hn
 have hlarge:(n<0||decide ((i.bytes:Int)*n>2 ^ 48))=false:=by
  simp only [Hl,decide_eq_false_iff_not];omega
 refine MR (v:= .slice (some ⟨w.heap.size,0,none⟩) n.toNat n.toNat) (B:=w.alloc (.cells ⟨(List.replicate n.toNat z).flatten⟩ e)) ?_ ?_
 · simp only [execOp,Instr.makeSlice,Fb,Qa P Ts _ w hu,EX,hx,hy,asInt,asIntOf,Fp,jy P e i _ hi,hwr,hlarge,G7]
   have hc2:(decide (n<0)||decide (n>n))=false:=(by simp only [Hl,decide_eq_false_iff_not];omega);rw [hc2];simp only [E2,if_false,Fb,run_askRoom,EX,Ru P e i.size w (by simp [N6,hi])];by_cases hnz:n.toNat*i.size=0
   · rw [Qip hnz]
     have hn0:n.toNat=0:=by
      rcases Nat.mul_eq_zero.1 hnz with h|h
      · exact h
      · omega
     simp only [Fp,EX,newRow,Fb,run_newObj,hn0,HU];have hr0:Array.range 0=#[]:=rfl;rw [hr0,Array.map_empty];rfl
   · rw [Qin hnz]
     simp only [Fb,bj P e zv _ DJ,Fp,EX,newRow,run_newObj]
     have harr:((Array.range (n.toNat*i.size)).map (zv.cells[· % zv.cells.size]!):Array Value)=⟨(List.replicate n.toNat z).flatten⟩:=by
      apply HB;rw [←hfl];simp [hzs,←hzc];intro a _;rw [HV,FN]
     rw [harr];rfl
 · exact h _ _ (cU w _) (Is (iw w _ e) rfl hl Js) Js

def bp (es:Nat)(v v':Value)(len l' h':Nat):Prop:=
 (v= .slice none 0 0∧v'= .slice none 0 0∧l'=0∧h'=0)∨
 ∃b off cap,v= .slice (some ⟨b,off,none⟩) len cap∧((l'=h'∧∃o c,v'= .slice (some ⟨b,o,none⟩) 0 c)∨v'= .slice (some ⟨b,off+l'*es,none⟩) (h' - l') (cap - l'))

theorem df {T:Nat}{v:Value}{F:Nat→Prop}{x:Operand}(hx:U.ev x=v)(hs:Sl w.heap T es v F css)(hmx:mx=none)(hh:MQ U css.length hi h')(hl:MQ U 0 lo l')(M:h'≤css.length)(h3:l'≤h')
 (h:∀v',bp es v v' css.length l' h'→Q0 P l Q (upd U d v') w):Q0 P (⟨none, .sub d es x lo hi mx⟩::l) Q U w:=by
 subst hmx;obtain ⟨hlen,⟨hv,O,hF⟩|⟨b,off,cap,arr,hv,g1,g2,g3,g4,g5⟩⟩:=hs
 · subst O hv;simp only [Fc,Nat.le_zero_eq] at M;subst M;have:l'=0:=CP;subst this;exact jQ (m:=0) hx rfl hh hl (E6 _) (E6 _) (E6 _) (h _ (.inl ⟨rfl,by simp,rfl,rfl⟩))
 · subst hv
   refine jQ (m:=cap) hx rfl hh hl (E6 _) V h3 (h _ (.inr ⟨b,off,cap,rfl,?_⟩));by_cases hcl:cap=l'
   · rw [Qip hcl];exact .inl ⟨V,off,cap - l',by rw [show h' - l'=0 by omega]⟩
   · rw [Qin hcl];exact .inr (by simp only [FJ,Pw])

theorem Ys {Ty e:Nat}{x:Operand}{v:Value}{F:Nat→Prop}(hel:M6 P Ts=some (e,es,nb,z))(hzo:∀u∈z,oneC u=true)(hx:U.ev x=v')(hs:Sl w.heap e es v F css)
 (hsub:bp es v v' css.length l' h')(I:l'≤h')(M:h'≤css.length)
 (h:∀B,Fr F w B→B.heap.size=w.heap.size→Sl B.heap e es v F (css.take l'++(List.replicate (h' - l') z++css.drop h'))→Q0 P l Q U B):
 Q0 P (⟨none, .raw ⟨none, .call ⟨.builtin .clear, #[x], #[Ts]⟩, Ty, "", #[], none⟩⟩ :: l) Q U w := by
 obtain ⟨i,zv,hu,hi,hz,rfl,rfl,hzc,hes,hnb,hzl⟩:=mW hel;have hzs:zv.cells.size=i.size:=Es;have hl:∀c∈List.replicate (h' - l') z,c.length=i.size:=EA;have hfl:=uw hzl hes (h' - l');have hfn:=R1 hl;simp only [FK] at hfn;have e1:(#[x].map U.ev)=#[v']:=by simp [hx]
 have same:l'=h'→css.take l'++(List.replicate (h' - l') z++css.drop h')=css:=by
  intro e;subst e;simp
 have triv : ∀ (a : Option Addr) (c : Nat), v' = .slice a 0 c → l' = h' → Q0 P (⟨none, .raw ⟨none, .call ⟨.builtin .clear, #[x], #[Ts]⟩, Ty, "", #[], none⟩⟩ :: l) Q U w := by
  intro a c hv' hlh;refine MR (v:= .tuple #[]) (B:=w) ?_ (h w (Hw _ _) rfl (by rw [same hlh];exact hs));subst hv';simp only [execOp,resolve,Fb,Fp,EX,invoke,builtin,e1,Builtin.clear_,GN,Fm,Qa P Ts _ w hu];cases a<;>rfl
 rcases hsub with ⟨_,hv',rfl,rfl⟩|⟨b0,off0,cap0,hv0,⟨hlh,o,c,hv'⟩|hv'⟩
 · exact triv _ _ hv' rfl
 · exact triv _ _ hv' hlh
 · by_cases hlh:l'=h'
   · exact triv _ _ (by rw [hv',hlh,GX]) hlh
   · obtain ⟨hlen,⟨hv,_,_⟩|⟨b,off,cap,arr,hv,g1,g2,g3,g4,g5⟩⟩:=hs
     · rw [hv] at hv0;cases hv0
     · rw [hv] at hv0
       simp only [Value.slice.injEq,E3,Addr.mk.injEq,and_true,true_and] at hv0;obtain ⟨⟨rfl,rfl⟩,rfl⟩:=hv0;subst hv';have hm:=FH i.size g1;have hm2:=FH i.size M;have hm3:(h' - l')*i.size+l'*i.size=h'*i.size:=by rw [←Hm];congr 1;omega
       obtain ⟨B,h3,h4,h5,h6⟩:=pn P b e (List.replicate (h' - l') z).flatten w arr (off+l'*i.size) 0 g2 V (by
        intro u hu;obtain ⟨c,O,hu⟩:=List.mem_flatten.1 hu;rw [F6 O] at hu;exact hzo u hu)
       simp only [HW] at h6
       have harr:(Builtin.zeroCells zv.cells (h' - l')).toList=(List.replicate (h' - l') z).flatten:=by
        rw [←hfl];simp [Builtin.zeroCells,hzs,←hzc];intro a _;rw [HV,FN]
       refine MR (v:= .tuple #[]) (B:=B) ?_ (h B (h4.mono (fun x _ hx=>(g5 x).2 hx)) h5 ?_)
       · simp only [execOp,resolve,Fb,Fp,EX,invoke,builtin,e1,Builtin.clear_,GN,Fm,Qa P Ts _ w hu]
         cases hn:h' - l' with
         | zero=>omega
         | succ n=>
           rw [hn] at harr h3;simp only [Fb,bj P e zv _ DJ,EX,harr,h3,Fp]
       · have hcl:(css.take l'++(List.replicate (h' - l') z++css.drop h')).length=css.length:=by simp;omega
         have hall:∀c∈css.take l'++(List.replicate (h' - l') z++css.drop h'),c.length=i.size:=by
          intro c O;rcases E8.1 O with O|O
          · exact hlen c (F8 O)
          · rcases E8.1 O with O|O
            · exact hl c O
            · exact hlen c (Hq O)
         refine ⟨hall, .inr ⟨b,off,cap,_,by rw [hcl];exact hv,by rw [hcl];exact g1,h6,?_,?_,g5⟩⟩
         · simp only [EO,FY,List.length_drop,hfn];omega
         · intro j hj
           rw [hcl] at hj;have hlt:(arr.take (off+l'*i.size)).length=off+l'*i.size:=CT;have f1:=R1 (css:=css.take l') (es:=i.size) (fun c O=>hlen c (F8 O));have ht:(css.take l').length=l':=CT;rw [ht] at f1;have e2:css.flatten=(css.take l').flatten++(css.drop l').flatten:=EH;have e3:css.flatten=(css.take h').flatten++(css.drop h').flatten:=EH;have f3:=R1 (css:=css.take h') (es:=i.size) (fun c O=>hlen c (F8 O));have ht3:(css.take h').length=h':=CT;rw [ht3] at f3;simp only [GG];by_cases hj1:j<l'*i.size
           · rw [EU V,FE V,EU V,g4 j hj,e2,EU V]
           · by_cases hj2:j<h'*i.size
             · rw [ER V,hlt,EU V,ER V,f1,EU V];congr 1;omega
             · rw [ER V,hlt,ER V,GK,ER V,f1,ER V];have:=g4 j hj;rw [e3,ER V,f3] at this;rw [show off+l'*i.size+(List.replicate (h' - l') z).flatten.length+(off+j - (off+l'*i.size) - (List.replicate (h' - l') z).flatten.length)=off+j by omega,this];congr 1;omega
end
end
section

def j1 (H:KI)(b i:Nat):Option Value:=match H[b]? with
 | some (.cells c _ _)=>c[i]?
 | _=>none
theorem uy (w:World)(b i:Nat):w.cell? ⟨b,i,none⟩=j1 w.heap b i:=by
 unfold World.cell? j1
 cases w.heap[b]? with
 | none=>rfl
 | some o=>cases o<;>rfl

def At (H:KI)(b o:Nat)(c:List Value):Prop:=∀(j:Nat) (u:Value),c[j]?=some u→j1 H b (o+j)=some u

def MA (H:KI)(es:Nat)(v:Value)(F:Nat→Prop)(css:List (List Value)):Prop:=
 (∀c∈css,c.length=es)∧∃a cap,v= .slice a css.length cap∧css.length≤cap∧
   (css=[]∨∃b off,a=some ⟨b,off,none⟩∧F b∧b<H.size∧∀(m:Nat) (c:List Value),css[m]?=some c→At H b (off+m*es) c)

theorem At.of_same {H H':KI}{o:Nat}(h:At H b o c)(he:H'[b]?=H[b]?):At H' b o c:=fun j u hj=>by
 have:=h j u hj;unfold j1 at this ⊢;rw [he];exact this
theorem At.cell {o:Nat}(h:At w.heap b o c)(hj:c[j]?=some u):w.cell? ⟨b,o+j,none⟩=some u:=by rw [uy];exact h j u hj
theorem At.cells {o:Nat}(h:At w.heap b o c)(hv:(c.drop j).take n=vs)(hl:vs.length=n):bf w ⟨b,o+j,none⟩ n vs:=by
 refine ⟨hl,fun i hi=>?_⟩;rw [Pw,Gv];have e:vs[i]?=c[j+i]?:=(by rw [←hv,FE hi,GK]);have I:vs.length=min n (c.length - j):=(by rw [←hv];simp);rw [e,EI V];exact h.cell (EI V)

theorem MA.of_same {H H':KI}{v:Value}{F:Nat→Prop}(h:MA H es v F css)(hs:∀b,F b→b<H.size→H'[b]?=H[b]?):MA H' es v F css:=by
 obtain ⟨h0,a,cap,hv,hlc,O|⟨b,off,ha,hF,hb,hat⟩⟩:=h
 · exact AZ
 · refine ⟨h0,a,cap,hv,hlc, .inr ⟨b,off,ha,hF,?_,fun m c hm=>(hat m c hm).of_same (hs b hF hb)⟩⟩
   have:=hs b hF hb;rcases Gj b H'.size with h|h
   · exact h
   · rw [Gt h,GB hb] at this;cases this
theorem MA.fr {F:Nat→Prop}{v:Value}(h:MA w.heap es v F css)(hf:Fr G w B)(hn:∀b,F b→¬G b):MA B.heap es v F css:=
 h.of_same fun b hb hlt=>hf.same b hlt (hn b hb)
theorem MA.fr0 {F:Nat→Prop}{v:Value}(h:MA w.heap es v F css)(hf:Fr NF w B):MA B.heap es v F css:=h.fr hf fun _ _ h=>h
theorem MA.mono {H:KI}{F:Nat→Prop}{v:Value}(h:MA H es v F css)(hs:∀b,b<H.size→F b→G b):MA H es v G css:=by
 obtain ⟨h0,a,cap,hv,hlc,O|⟨b,off,ha,hF,hb,hat⟩⟩:=h
 · exact AZ
 · exact ⟨h0,a,cap,hv,hlc, .inr ⟨b,off,ha,hs b hb hF,hb,hat⟩⟩
abbrev HC:=@MA.mono
theorem MA.shape {H:KI}{v:Value}{F:Nat→Prop}(h:MA H es v F css):∃a c,v= .slice a css.length c:=by
 obtain ⟨_,a,cap,hv,_⟩:=h;exact ⟨a,cap,hv⟩

theorem Sl.toR {H:KI}{v:Value}{F:Nat→Prop}(h:Sl H T es v F css):MA H es v F css:=by
 obtain ⟨h0,⟨hv,O,_⟩|⟨b,off,cap,arr,hv,g1,g2,g3,g4,g5⟩⟩:=h
 · subst O;exact ⟨h0,none,0,hv,E6 _, .inl rfl⟩
 · refine ⟨h0,_,cap,hv,g1, .inr ⟨b,off,rfl,(g5 b).2 rfl,g2.lt,fun m c hm j u hu=>?_⟩⟩
   have hm':m<css.length:=(EJ.1 hm).1;have hcl:c.length=es:=h0 c (EK hm);have hj:j<es:=(by have:=(EJ.1 hu).1;omega);have hb:=jZ (es:=es) hm';have:=g4 (m*es+j) V;rw [jY h0 hm hj,hu] at this;obtain ⟨fz,g2,_⟩:=g2;unfold j1;rw [g2,Gv]
   simpa using this

theorem MA.src {v:Value}{F:Nat→Prop}(h:MA w.heap es v F css)(ho:∀c∈css,∀u∈c,oneC u=true):Ua P w es v css:=by
 obtain ⟨h0,a,cap,hv,hlc,O⟩:=h;subst hv;refine ⟨rfl,h0,ho,?_⟩;intro B hw';rcases O with O|⟨b,off,ha,hF,hb,hat⟩
 · subst O;cases a<;>simp [Builtin.firstCells,loadCells,loadCellsFrom]
 · subst ha
   simp only [Builtin.firstCells];have hfl:=R1 h0;refine jz _ _ _ ⟨hfl,fun j hj=>?_⟩;rw [Pw]
   have hes:0<es:=by
    rcases Im es with h|h
    · subst h;simp at hj
    · exact h
   have hq:j / es<css.length:=JB (by rw [Ir];exact hj);have hm:j % es<es:=IP _ hes;have hdm:j / es*es+j % es=j:=(by rw [Ir];exact Nat.div_add_mod j es);have hcm:css[j / es]?=some css[j / es]:=EI hq;have e:=jY h0 hcm hm;rw [hdm] at e;have hcl:css[j / es].length=es:=h0 _ (GW hq);rw [e,EI V];have:=((hat _ _ hcm).of_same (hw' b hb)).cell (j:=j % es) (EI V);rw [Gv,hdm] at this;exact this

section
variable {P:Program}{l:List GO}{Q:QT}{U:KD}{w:World}{es:Nat}{v:Value}{F:Nat→Prop}{css:List (List Value)}

theorem Yt {x:Operand}{o:Nat}(hx:U.ev x= .pointer (some ⟨b,o,none⟩))(ha:At w.heap b o c)(hu:c[0]?=some u)
 (h:Q0 P l Q (upd U d u) w):Q0 P (⟨none, .load1 d x⟩::l) Q U w:=mT hx (by have:=ha.cell hu;simpa using this) h
theorem Uc {x:Operand}{o:Nat}(hx:U.ev x= .pointer (some ⟨b,o+j,none⟩))(ha:At w.heap b o c)(hu:c[j]?=some u)
 (h:Q0 P l Q (upd U d u) w):Q0 P (⟨none, .load1 d x⟩::l) Q U w:=mT hx (ha.cell hu) h
theorem Ud {x:Operand}{o:Nat}(hx:U.ev x= .pointer (some ⟨b,o,none⟩))(ha:At w.heap b o c)(hl:c.length=n)
 (h:Q0 P l Q (upd U d (.agg ⟨c⟩)) w):Q0 P (⟨none, .loadn d n x⟩::l) Q U w:=
 uj hx (by have:=ha.cells (j:=0) (n:=n) (vs:=c) (by rw [FG,Fg V]) hl;simpa using this) h
end


def Fits (P:Program)(T:TypeId){Hd:Type}(y:DataW Hd):Prop:=∀n∈y.weights P T,n≤reachBytes
theorem uz {P:Program}{e:TypeId}{Hd:Type}:∀{l:List (DataW Hd)}{d:DataW Hd},d∈l→∀n∈d.weights P e,n∈DataW.weightsAll P e l
 | [],_,h=>by cases h
 | x::l,d,h=>fun n hn=>by
   rw [DataW.weightsAll,E8];rcases E4.1 h with rfl|h
   · exact .inl hn
   · exact .inr (uz h n hn)
theorem pI {P:Program}{Hd:Type}:∀{ts:List TypeId}{l:List (DataW Hd)}{i:Nat}{t:TypeId}{d:DataW Hd},ts[i]?=some t→l[i]?=some d→∀n∈d.weights P t,n∈DataW.weightsEach P ts l
 | [],_,_,_,_,h,_=>by simp at h
 | _::_,[],_,_,_,_,h=>by simp at h
 | t::ts,x::l,0,_,_,I,M=>fun n hn=>by
   simp only [Fm,E3] at I M;subst I M;rw [DataW.weightsEach,E8];exact .inl hn
 | t::ts,x::l,i+1,_,_,I,M=>fun n hn=>by
   rw [DataW.weightsEach,E8];exact .inr (pI (i:=i) Dn (by simpa using M) n hn)
theorem No {ts us:List TypeId}{l m:List (DataW Hd)}{i:Nat}{t:TypeId}{d:DataW Hd}(h:(DataW.weightsEach P (ts++us) (l++m)).all (· ≤reachBytes)=true)(I:ts[i]?=some t)(M:l[i]?=some d):Fits P t d:=by
 intro n hn;have h3:(ts++us)[i]?=some t:=(by rw [EU (EJ.1 I).1];exact I);have h4:(l++m)[i]?=some d:=(by rw [EU (EJ.1 M).1];exact M);have:=FI.1 h n (pI h3 h4 n hn);exact of_decide_eq_true this
theorem uA {e:TypeId}{elems spare:List (DataW Hd)}(ht:P.underlying T=some (.slice e))(h:Fits P T (.slice elems spare))(hb:0<P.bytesOf e):elems.length≤140737488355328∧∀d∈elems,Fits P e d:=by
 unfold Fits at h;rw [DataW.weights,ht] at h;refine ⟨?_,fun d hd n hn=>h n (FA _ (Ho _ (uz hd n hn)))⟩;have I:=h _ (FR ..);have M:elems.length*1≤(elems.length+spare.length)*P.bytesOf e:=Nat.mul_le_mul V hb;unfold reachBytes at I;omega
theorem uB {fs:Array Field}{parts:List (DataW Hd)}(ht:P.underlying T=some (.struct fs))(h:Fits P T (.agg parts)){i:Nat}{f:Field}{d:DataW Hd}(hf:fs[i]?=some f)(hd:parts[i]?=some d):Fits P f.type d:=by
 unfold Fits at h;rw [DataW.weights,ht] at h;exact fun n hn=>h n (pI (i:=i) (by rw [EZ,F5,hf];rfl) hd n hn)
structure Cod (P:Program) (T:TypeId) (α:Type) where
 es:Nat
 rd:KI→List Value→α→Prop
 size:P.cellsOf T=es
 len:∀H cs x,rd H cs x→cs.length=es
 stay:∀(H H':KI) cs x,rd H cs x→(∀b,b<H.size→H'[b]?=H[b]?)→rd H' cs x
 open_:∀{Hd:Type}(enc:TypeId×Value→Hd) (w:World) (fuel:Nat) (cs:List Value) (y:DataW Hd×List MemPlace),DataW.trod enc P w 0 (fun _=>true) true fuel T cs=some y→Fits P T y.1→∃x,rd w.heap cs x

def Cod.int {P:Program}{T:TypeId}(k:IntKind)(ht:P.underlying T=some (.int k))(hs:P.cellsOf T=1):Cod P T Int where
 es:=1
 rd:=fun _ cs n=>cs=[.int k n]∧(Lit.int k n).wf=true
 size:=hs
 len:=by rintro _ _ _ ⟨rfl,_⟩;rfl
 stay:=fun _ _ _ _ h _=>h
 open_:=fun enc w fuel cs y h _=>by
  obtain ⟨n,I,_,M⟩:=DataW.trod_int ht h;exact ⟨n,I,M⟩

def Cod.bool {P:Program}{T:TypeId}(ht:P.underlying T=some .bool)(hs:P.cellsOf T=1):Cod P T Bool where
 es:=1
 rd:=fun _ cs n=>cs=[.bool n]
 size:=hs
 len:=by rintro _ _ _ rfl;rfl
 stay:=fun _ _ _ _ h _=>h
 open_:=fun enc w fuel cs y h _=>by
  obtain ⟨n,I,_⟩:=DataW.trod_bool ht h;exact ⟨n,I⟩

theorem mX {a:Addr}(h:w.cells? 0 a n=some cs)(hn:0<n):a.spot=none∧a.block<w.heap.size∧At w.heap a.block a.off cs:=by
 obtain ⟨_,hl,O⟩:=World.cells?_some h;have h0:=O 0 hn;have hs:cs[0]?=some (cs[0]' CP):=EI V;rw [hs] at h0;have hadd0:a.add 0=a:=rfl;rw [hadd0] at h0;obtain ⟨b,o,s⟩:=a
 have hsp:s=none:=by
  cases s with
  | none=>rfl
  | some x=>
    unfold World.cell? at h0;split at h0<;>simp at h0
 subst hsp;refine ⟨rfl,?_,fun j u hj=>?_⟩
 · rcases Gj b w.heap.size with h|h
   · exact h
   · unfold World.cell? at h0;simp [Gt h] at h0
 · have hlt:=(EJ.1 hj).1;have:=O j V;rw [Pw,hj,uy] at this;exact this

def Cod.slice {P:Program}{T e:TypeId}{α:Type}(c:Cod P e α)(ht:P.underlying T=some (.slice e))(hs:P.cellsOf T=1)(hes:0<c.es)(hby:decide (0<P.bytesOf e)=true):Cod P T (List α) where
 es:=1
 rd:=fun H cs xs=>∃v css,cs=[v]∧MA H c.es v (fun _=>True) css∧css.length=xs.length∧xs.length≤140737488355328∧∀(m:Nat) (x:α),xs[m]?=some x→∃d,css[m]?=some d∧c.rd H d x
 size:=hs
 len:=by rintro _ _ _ ⟨v,css,rfl,_⟩;rfl
 stay:=by
  rintro H H' _ xs ⟨v,css,rfl,I,M,h3,h4⟩ hH;exact ⟨v,css,rfl,I.of_same fun b _ hb=>hH b hb,M,h3,fun m x hm=>by obtain ⟨d,h5,h6⟩:=h4 m x hm;exact ⟨d,h5,c.stay _ _ _ _ h6 hH⟩⟩
 open_ :=by
  intro Hd enc w fuel cs y h hfit;rcases JW ht h with ⟨rfl,_⟩|⟨a,len,cap,m,n,D,Pl,rfl,_,hl,hm,hmm,hy,hi⟩
  · exact BK
  · have hmc:m=cap:=by simpa using hmm
    subst hmc;rw [hy] at hfit;obtain ⟨hlen,hel0⟩:=uA ht hfit (of_decide_eq_true hby);simp only [EM,HI] at hlen
    -- each element
    have hel:∀i,i<len→∃(d:List Value) (x:α),w.cells? 0 (a.add (i*c.es)) c.es=some d∧c.rd w.heap d x:=by
     intro i hi';obtain ⟨d,I,M⟩:=hi i V;rw [c.size] at I;obtain ⟨x,hx⟩:=c.open_ enc w n d _ M (hel0 _ (Fq.2 ⟨i,Fx.2 hi',rfl⟩));exact ⟨d,x,I,hx⟩
    have build:∀n,n≤len→∃(css:List (List Value)) (xs:List α),css.length=n∧xs.length=n∧
     ∀m,m<n→∃d x,css[m]?=some d∧xs[m]?=some x∧w.cells? 0 (a.add (m*c.es)) c.es=some d∧c.rd w.heap d x:=by
     intro n
     induction n with
     | zero=>intro _;exact ⟨[],[],rfl,rfl,fun m hm=>absurd hm V⟩
     | succ n ih=>
       intro hn;obtain ⟨css,xs,I,M,h3⟩:=ih V;obtain ⟨d,x,h4,h5⟩:=hel n V;refine ⟨css++[d],xs++[x],by simp [I],by simp [M],fun m hm=>?_⟩;by_cases hmn:m=n
       · subst hmn;exact ⟨d,x,by rw [ER V,I];simp,by rw [ER V,M];simp,h4,h5⟩
       · obtain ⟨d',x',g1,g2,g3,g4⟩:=h3 m V;exact ⟨d',x',by rw [EU V];exact g1,by rw [EU V];exact g2,g3,g4⟩
    obtain ⟨css,xs,I,M,h3⟩:=build len (E6 _);refine ⟨xs, .slice (some a) len m,css,rfl,⟨?_,some a,m,by rw [I],V,?_⟩,V,V,?_⟩
    · intro d hd;obtain ⟨i,hi'⟩:=FL.1 hd;have hlt:=(EJ.1 hi').1;obtain ⟨d',x',g1,g2,g3,g4⟩:=h3 i V;rw [hi'] at g1;simp only [E3] at g1;subst g1;exact c.len _ _ _ g4
    · rcases Im len with h0|h0
      · exact .inl (Gl V)
      · obtain ⟨d0,x0,_,_,g3,_⟩:=h3 0 h0;obtain ⟨hsp,hbl,_⟩:=mX g3 hes;have ha0:a.add (0*c.es)=a:=(by rw [HU];rfl);rw [ha0] at hsp hbl;obtain ⟨b,o,s⟩:=a;simp only at hsp;subst hsp;refine .inr ⟨b,o,rfl,trivial,hbl,fun i d hd=>?_⟩;have hlt:=(EJ.1 hd).1;obtain ⟨d',x',g1,g2,g3,g4⟩:=h3 i V;rw [hd] at g1;simp only [E3] at g1;subst g1;rw [Pw] at g3;exact (mX g3 hes).2.2
    · intro i x hx;have hlt:=(EJ.1 hx).1;obtain ⟨d',x',g1,g2,g3,g4⟩:=h3 i V;rw [hx] at g2;simp only [E3] at g2;subst g2;exact ⟨d',g1,g4⟩

def fieldAt (P:Program)(T:TypeId)(i:Nat):Option (Nat×Nat×TypeId):=match P.underlying T with
 | some (.struct fs)=>(fs[i]?).map fun f=>(f.offset,P.cellsOf f.type,f.type)
 | _=>none

theorem uC {enc:TypeId×Value→Hd}{fuel:Nat}{y:DataW Hd×List MemPlace}(h:DataW.trod enc P w 0 (fun _=>true) true fuel T cs=some y)
 {i o:Nat}{t:TypeId}(hf:fieldAt P T i=some (o,s,t))(hfit:Fits P T y.1):cs.length=P.cellsOf T∧∃n z,DataW.trod enc P w 0 (fun _=>true) true n t ((cs.drop o).take s)=some z∧Fits P t z.1:=by
 unfold fieldAt at hf;split at hf
 · rename_i fs hu
   simp only [Gq,GF] at hf;obtain ⟨f,hf,rfl,rfl,rfl⟩:=hf;obtain ⟨xs,n,_,hy,hl,hx,hall⟩:=DataW.trod_struct hu h;have:=hall i f hf;have hlt:=(Hz.1 hf).1;refine ⟨hl,n,xs[i]' CP,?_,?_⟩
   · rw [this,EI V]
   · rw [hy] at hfit;exact uB hu hfit hf Ei
 · cases hf

end
section

theorem Sl.oneC {H:KI}{v:Value}{F:Nat→Prop}(h:Sl H T es v F css):Go.Lir.oneC v=true:=by
 obtain ⟨a,c,rfl⟩:=h.shape;rfl
theorem MA.oneC {H:KI}{v:Value}{F:Nat→Prop}(h:MA H es v F css):Go.Lir.oneC v=true:=by
 obtain ⟨a,c,rfl⟩:=h.shape;rfl
abbrev JD:=@MA.oneC
theorem Tu (f:α→β)(l:List α)(d:α)(h:m<l.length):(l.map f)[m]?=some (f (l.getD m d)):=by
 simp [EZ,EL,EI h]
theorem Ue {l:List α}{d:α}(h:m<l.length):l[m]?=some (l.getD m d):=by
 simp [EL,EI h]
theorem pJ {l:List α}(d:α){i:Nat}(h:i<l.length):l.take (i+1)=l.take i++[l.getD i d]:=by
 rw [HK,EI h,EL,EI h];rfl
theorem Uf {l:List α}{d:α}{i:Nat}(h:i<l.length):l.getD i d∈l:=by
 rw [EL,EI h];exact GW h
theorem Qh {n i:Int}(h:i<n):(n - (i+1)).toNat<(n - i).toNat:=by omega
theorem uD {l m:List α}(d:α)(h:l.length=m.length)(M:∀j<l.length,l.getD j d=m.getD j d):l=m:=by
 apply ID h;intro j h3 h4;have:=M j h3
 simpa [EL,EI h3,EI h4] using this
theorem dg [DecidableEq α]:∀{a b:List α},a.Nodup→(∀x∈a,x∈b)→a.length≤b.length:=by
 intro a
 induction a with
 | nil=>intro b _ _;simp
 | cons x a ih=>
   intro b hn hs;obtain ⟨I,M⟩:=GM.1 hn;have hx:=hs x Js;have:=ih (b:=b.erase x) M fun y hy=>(List.mem_erase_of_ne (fun e=>by subst e;exact I hy)).2 (hs y (by simp [hy]));rw [I2 hx] at this;have hp:=Hf hx;simp only [EY];omega
theorem map_set (f:α→β)(l:List α)(m:Nat)(x:α):(l.map f).set m (f x)=(l.set m x).map f:=by
 simp [F3]
theorem pK (h:Ll w.heap b T [u])(ho:oneC u=true):Ua P w 1 (.slice (some ⟨b,0,none⟩) 1 1) [[u]]:=
 (Is (css:=[[u]]) h rfl Js rfl).src (by simpa using ho)
theorem Yu (h:Ll w.heap b T c)(hn:c.length=n)(ho:∀u∈c,oneC u=true):Ua P w n (.slice (some ⟨b,0,none⟩) 1 1) [c]:=
 (Is (css:=[c]) h Js (by simpa using hn) rfl).src (by simpa using ho)
def iv:Value→Int
 | .int _ n=>n
 | _=>0
def QH (b:Bool):List Value:=[.bool b]
def Qq (n:Int):List Value:=[.int .i64 n]
theorem Q9I {l:List Int}:∀c∈l.map Qq,∀u∈c,oneC u=true:=by
 intro c O u hu;obtain ⟨n,_,rfl⟩:=Fq.1 O;simp [Qq] at hu;subst hu;rfl
theorem iA {F:Nat→Prop}(hfr:Fr NF w0 w)(hlow:∀b,F b→w0.heap.size≤b)(hf:Fr F w B):Fr NF w0 B:=hfr.trans hf (fun b hb hF=>absurd (hlow b hF) V)
theorem Yv {U:KD}{o:Nat}{x:Operand}{v:Value}(hx:U.ev x= .pointer (some ⟨b,o,none⟩))(hb:Ll w.heap b T cs)(hv:cs[o]?=some v):Nn P U w ⟨none, .load1 d x⟩ v:=⟨_,hx,hb.cell hv⟩
theorem Ug {U:KD}{o:Nat}{x:Operand}(hx:U.ev x= .pointer (some ⟨b,o,none⟩))(hb:Ll w.heap b T cs)(hv:(cs.drop o).take n=vs)(hl:vs.length=n):Nn P U w ⟨none, .loadn d n x⟩ (.agg ⟨vs⟩):=⟨_,vs,hx,hb.cells hv hl,rfl⟩
theorem Yw {U:KD}{b:Bool}{o:LO}{v:Value}(hw:XC (U s) b=false)(hv:v=undef):Nn P U w ⟨some (s,b),o⟩ v:=by simp [Nn,hw,hv]
theorem iB {U:KD}{b:Bool}{o:LO}{v:Value}(hw:U s= .bool b)(h:Nn P U w ⟨none,o⟩ v):Nn P U w ⟨some (s,b),o⟩ v:=by simp only [Nn,hw,XC,beq_self_eq_true,if_true];exact h
theorem Fr.after {F:Nat→Prop}(h:Fr F w B)(k:Fr G B w'')(hs:∀b,b<w.heap.size→G b→F b):Fr F w w'':=h.trans k hs
theorem Fr.then0 {F:Nat→Prop}(h:Fr F w B)(k:Fr NF B w''):Fr F w w'':=h.trans k fun _ _ h=>h.elim
theorem Fr.into {F:Nat→Prop}(h:Fr G w B)(hs:∀x,G x→F x):Fr F w B:=h.mono fun x _ hx=>hs x hx
theorem Fr.cat {F:Nat→Prop}(h:Fr F w B)(k:Fr F B w''):Fr F w w'':=h.trans k fun _ _ h=>h
structure Step (F F':Nat→Prop) (w B:World):Prop where
 fr:Fr F w B
 sub:∀b,F' b→F b∨w.heap.size≤b
theorem Step.same {F:Nat→Prop}(h:Fr F w B):Step F F w B:=⟨h,fun _ h=> .inl h⟩
abbrev HQ:=@Step.same
theorem Step.out {F:Nat→Prop}(h:Step F F' w B)(hb:b<w.heap.size)(hn:¬F b):¬F' b:=fun hF=>(h.sub b hF).elim hn (fun hz=>absurd hz V)
theorem Step.trans {F F'':Nat→Prop}(h:Step F F' w B)(k:Step F' F'' B w''):Step F F'' w w'':=
 ⟨h.fr.trans k.fr fun b hb hF=>(h.sub b hF).elim id (fun hz=>absurd hz V),fun b hb=>(k.sub b hb).elim (h.sub b) (fun hz=> .inr (Gs h.fr.size hz))⟩
theorem Step.low {F:Nat→Prop}{z:Nat}(h:Step F F' w B)(hl:∀b,F b→z≤b)(hz:z≤w.heap.size):∀b,F' b→z≤b:=fun b hb=>(h.sub b hb).elim (hl b) (fun h=>Gs hz h)
theorem Step.apart {F:Nat→Prop}(h:Step F F' w B)(hd:∀b,F b→¬G b)(hG:∀b,G b→b<w.heap.size):∀b,F' b→¬G b:=fun b hb hg=>(h.sub b hb).elim (fun hF=>hd b hF hg) (fun hz=>absurd (hG b hg) V)
structure Objs (A:KI→(Nat→Prop)→Prop):Prop where
 fr:∀{w B:World}{F G:Nat→Prop},A w.heap F→Fr G w B→(∀b,F b→¬G b)→A B.heap F
 lt:∀{H:KI}{F:Nat→Prop},A H F→∀b,F b→b<H.size
structure Two (w0 w:World) (A B0q:KI→(Nat→Prop)→Prop) (F G:Nat→Prop):Prop where
 oa:Objs A
 ob:Objs B0q
 p:A w.heap F
 q:B0q w.heap G
 d:∀b,F b→¬G b
 F0:∀b,F b→w0.heap.size≤b
 G0:∀b,G b→w0.heap.size≤b
 fr:Fr NF w0 w
theorem Two.fr0 {A B0q:KI→(Nat→Prop)→Prop}{F:Nat→Prop}(h:Two w0 w A B0q F G)(hf:Fr NF w B):Two w0 B A B0q F G:=
 ⟨h.oa,h.ob,h.oa.fr h.p hf (fun _ _ h=>h),h.ob.fr h.q hf (fun _ _ h=>h),h.d,h.F0,h.G0,h.fr.then0 hf⟩
theorem Two.own {A B0q:KI→(Nat→Prop)→Prop}{F:Nat→Prop}{x:Nat}(h:Two w0 w A B0q F G)(hf:Fr (· =x) w B)(h0:w0.heap.size≤x)(hF:¬F x)(hG:¬G x):Two w0 B A B0q F G:=
 ⟨h.oa,h.ob,h.oa.fr h.p hf (fun b hb e=>hF (e ▸ hb)),h.ob.fr h.q hf (fun b hb e=>hG (e ▸ hb)),h.d,h.F0,h.G0,iA h.fr (fun b hb=>by rw [hb];exact h0) hf⟩
theorem Two.sp {A A' B0q:KI→(Nat→Prop)→Prop}{F:Nat→Prop}(h:Two w0 w A B0q F G)(oa:Objs A')(hp:A' B.heap F')(hs:Step F F' w B):Two w0 B A' B0q F' G:=
 ⟨oa,h.ob,hp,h.ob.fr h.q hs.fr (fun b hb hF=>h.d b hF hb),hs.apart h.d (h.ob.lt h.q),hs.low h.F0 h.fr.size,h.G0,iA h.fr h.F0 hs.fr⟩
theorem j2 {l:List α}{i:Nat}{x d:α}(hi:i<l.length):(l.set i x).getD j d=if i=j then x else l.getD j d:=by
 simp only [EL,Gb];by_cases h:i=j
 · subst h;simp [hi]
 · simp [h]
theorem pL:∀{l:List GO}{Q Q':QT}{U:KD}{w:World},(∀e U w,Q e U w→Q' e U w)→Q0 P l Q U w→Q0 P l Q' U w:=by
 intro l
 induction l with
 | nil=>intro Q Q' U w h hw;exact h _ _ _ hw
 | cons g l ih=>
   intro Q Q' U w h hw;obtain ⟨g,o⟩:=g
   cases g with
   | none=>exact BC
   | some p=>
     obtain ⟨s,b⟩:=p;simp only [Q0] at hw ⊢;by_cases hs:XC (U s) b=true
     · rw [Qip hs] at hw ⊢;exact BC
     · rw [Qin hs] at hw ⊢;exact ih h hw
theorem mY {K K':KT}{Q Q':QT}(hk:∀U w,K U w→K' U w)(h:∀e U w,Q e U w→Q' e U w):∀e U w,Qp K Q e U w→Qp K' Q' e U w:=by
 intro e U w hq
 cases e with
 | normal=>exact hk _ _ hq
 | _=>exact h _ _ _ hq
theorem LC.wp_mono:∀{c:LC}{Q Q':QT}{U:KD}{w:World},(∀e U w,Q e U w→Q' e U w)→c.wp P Q U w→c.wp P Q' U w:=by
 intro c
 induction c with
 | skip=>intro Q Q' U w h hw;exact h _ _ _ hw
 | ops l=>intro Q Q' U w h hw;exact pL h hw
 | draw gs es=>intro Q Q' U w h hw;exact fun l hl=>pL h (hw l hl)
 | seq a b iha ihb=>intro Q Q' U w h hw;exact iha (mY (fun U w hb=>ihb h hb) h) hw
 | cond c a b iha ihb=>
   intro Q Q' U w h hw;obtain ⟨t,O,hw⟩:=hw;refine ⟨t,O,?_⟩;cases t
   · exact ihb h hw
   · exact iha h hw
 | block id a ih=>
   intro Q Q' U w h hw;refine ih ?_ hw;intro e U w hq
   cases e with
   | exit id'=>
     simp only [Qk] at hq ⊢;by_cases hs:id'=id
     · rw [Qip hs] at hq ⊢;exact h _ _ _ hq
     · rw [Qin hs] at hq ⊢;exact h _ _ _ hq
   | _=>exact h _ _ _ hq
 | loop a ih=>
   intro Q Q' U w h hw;obtain ⟨I0q,μ,h0,hr⟩:=hw;exact ⟨I0q,μ,h0,fun U w hI=>ih (mY (fun _ _ hk=>hk) h) (hr U w hI)⟩
 | exit id=>intro Q Q' U w h hw;exact h _ _ _ hw
 | ret=>intro Q Q' U w h hw;exact h _ _ _ hw
 | bad=>intro Q Q' U w h hw;exact hw.elim

def M9 (es:List (List Nat))(a b:Nat):List (List Nat):=es.set b (a::es.getD b [])
theorem j3 {es:List (List Nat)}{a i:Nat}(h:i≠b):(M9 es a b).getD i []=es.getD i []:=by
 simp [M9,EL,Ib h]
theorem Qkk {es:List (List Nat)}{a:Nat}(h:b<es.length):(M9 es a b).getD b []=a::es.getD b []:=by
 simp [M9,EL,h]
theorem uE {es:List (List Nat)}{a:Nat}(hb:b<es.length):∀{l X:List Nat},a∈X→SJ es X l→SJ (M9 es a b) X l:=by
 intro l
 induction l with
 | nil=>intro X _ h i hi;exact h i (by simpa [M9] using hi)
 | cons i l ih=>
   intro X ha h;obtain ⟨I,M,h3,h4⟩:=h;refine ⟨by simpa [M9] using I,M,?_,ih (FA _ ha) h4⟩;by_cases he:i=b
   · subst he;rw [Qkk hb];intro e hm
     rcases E4.1 hm with rfl|hm
     · exact ha
     · exact h3 e hm
   · rw [j3 he];exact h3
theorem SO {es:List (List Nat)}{a:Nat}(ha:a<es.length)(hb:b<es.length)(hab:a≠b):∀{l X:List Nat},a∉X→b∉X→SJ es X l→SJ (M9 es a b) X l∨SJ (M9 es b a) X l:=by
 intro l
 induction l with
 | nil=>intro X I _ h;exact absurd (h a ha) I
 | cons i l ih=>
   intro X hA hB h;obtain ⟨I,M,h3,h4⟩:=h;by_cases hia:i=a
   · subst hia;exact .inl ⟨by simpa [M9] using I,M,by rw [j3 hab];exact h3,uE hb Js h4⟩
   · by_cases hib:i=b
     · subst hib;exact .inr ⟨by simpa [M9] using I,M,by rw [j3 (Ib hab)];exact h3,uE ha Js h4⟩
     · rcases ih (X:=i::X) (by simp [Ib hia,hA]) (by simp [Ib hib,hB]) h4 with h|h
       · exact .inl ⟨by simpa [M9] using I,M,by rw [j3 hib];exact h3,h⟩
       · exact .inr ⟨by simpa [M9] using I,M,by rw [j3 hia];exact h3,h⟩

section
variable {P:Program}{l:List GO}{Q:QT}{U:KD}{w:World}
theorem NU {gs:List GO}{es:List (List Nat)}(a b:Nat)(hab:(decide (a<es.length) && decide (b<es.length) && !(a==b))=true)(I:(LC.draw gs (M9 es a b)).wp P Q U w)(M:(LC.draw gs (M9 es b a)).wp P Q U w):(LC.draw gs es).wp P Q U w:=by
 simp only [EW,decide_eq_true_eq,Gc,beq_eq_false_iff_ne,ne_eq] at hab;intro l hl;rcases SO hab.1.1 hab.1.2 hab.2 Js Js hl with h|h
 · exact I l h
 · exact M l h
theorem Q9d (k:Nat){e:TypeId}{a:Option Addr}{c:Nat}(ht:P.underlying T=some (.slice e)):(Op.equalIn (k+1) T (.slice a n c) (.slice none 0 0)).run P w0= .ok a.isNone w0:=by
 simp only [Op.equalIn,Fb,Qa P T _ w0 ht,EX];cases a<;>simp [Fp]
theorem Qbz {e:TypeId}{a:Option Addr}{c:Nat}(ht:P.underlying T=some (.slice e)):(Op.equal T (.slice a n c) (.slice none 0 0)).run P w0= .ok a.isNone w0:=Q9d 9999 ht
theorem XF {e:TypeId}{x:Operand}{a:Option Addr}{c:Nat}(ht:P.underlying T=some (.slice e))(hx:U.ev x= .slice a n c)(hy:U.ev y= .slice none 0 0)
 (h:Q0 P l Q (upd U d (.bool a.isNone)) w):Q0 P (⟨none, .bin d .eql T x y⟩::l) Q U w:=
 ⟨_,fun w0=>by
   rw [hx,hy];simp [eqGuard,binOp,Qbz ht],h⟩
theorem j4 {Ty e:Nat}(hel:M6 P Ts=some (e,es,nb,z))
 (h:∀v' B,Fr NF w B→Sl B.heap e es v' (· =w.heap.size) []→B.heap.size=w.heap.size+1→Q0 P l Q (upd U d v') B):
 Q0 P (⟨none, .raw ⟨some d, .buildSlice Ts 0 #[], Ty, "", #[], none⟩⟩ :: l) Q U w := by
 obtain ⟨i,zv,hu,hi,hz,rfl,rfl,hzc,hes,hnb,hzl⟩:=mW hel;refine MR (v:= .slice (some ⟨w.heap.size,0,none⟩) 0 0) (B:=w.alloc (.cells ⟨[]⟩ e)) ?_ ?_
 · simp only [execOp,Instr.buildSlice,Fb,Qa P Ts _ w hu,EX,Ru P e i.size w (by simp [N6,hi])];simp [Instr.fill,newRow];have hr0:Array.range 0=#[]:=rfl;rw [hr0,Array.map_empty]
 · exact h _ _ (cU w _) (Is (css:=[]) (iw w [] e) rfl Js rfl) Js
theorem R2 {a b:LC}(J:KD→World→Prop)(ha:a.wp P (Qp J Q) U w)(hb:∀U w,J U w→b.wp P Q U w):(LC.seq a b).wp P Q U w:=
 Qm (LC.wp_mono (mY hb fun _ _ _ h=>h) ha)
theorem dh {x:Operand}(hx:U.ev x= .pointer (some ⟨b,0,none⟩))(h:Q0 P l Q (upd U d (.pointer (some ⟨b,off,none⟩))) w):Q0 P (⟨none, .fld d x off⟩::l) Q U w:=
 bl hx (by rw [Gi];exact h)
theorem pM {x:Operand}{v:Value}(hx:U.ev x=v)(O:v.cells=⟨cs⟩)(h:∀b B,b=w.heap.size→Fr NF w B→B.heap.size=w.heap.size+1→Ll B.heap b T cs→Q0 P l Q (upd U d (.pointer (some ⟨b,0,none⟩))) B):
 Q0 P (⟨none, .box d T x⟩::l) Q U w:=jM (by rw [hx];exact O) h
theorem pN {x:Operand}{o:Nat}{v:Value}(hx:U.ev x= .pointer (some ⟨b,o,none⟩))(hy:U.ev y=v)(hb:Ll w.heap b T cs)(hi:o<cs.length)(ho:oneC v=true)
 (O:cs.set o v=cs')(h:∀B,Fr (· =b) w B→B.heap.size=w.heap.size→Ll B.heap b T cs'→Q0 P l Q U B):Q0 P (⟨none, .store1 x y⟩::l) Q U w:=by
 subst O;exact uk hx hy hb hi ho h
theorem uF {x:Operand}{o:Nat}(hx:U.ev x= .pointer (some ⟨b,o,none⟩))(hy:U.ev y= .agg ⟨vs⟩)(hn:vs.length=n)(hb:Ll w.heap b T cs)(hi:o+n≤cs.length)
 (ho:∀v∈vs,oneC v=true)(O:cs.take o++(vs++cs.drop (o+n))=cs')(h:∀B,Fr (· =b) w B→B.heap.size=w.heap.size→Ll B.heap b T cs'→Q0 P l Q U B):Q0 P (⟨none, .storen n x y⟩::l) Q U w:=by
 subst O;exact um hx hy hn hb hi ho h
theorem di {m:Nat}{x i:Operand}{v:Value}{F:Nat→Prop}(hx:U.ev x=v)(hi:U.ev i= .int k (m:Int))(hs:Sl w.heap T es v F css)(I:m<css.length)
 (h:∀b o,El w.heap T es v F css m b o→Q0 P l Q (upd U d (.pointer (some ⟨b,o,none⟩))) w):Q0 P (⟨none, .idx d es x i⟩::l) Q U w:=pF hx hi hs V V h
theorem mZ (hf:NA z []=some cs)(h:Q0 P l Q (upd U d (.agg ⟨cs⟩)) w):
 Q0 P (⟨none, .build d z []⟩::l) Q U w:=by
 exact dc hf h
theorem pO (h0:U.ev x0=v0)(hf:NA z [(o0,n0,v0)]=some cs)(h:Q0 P l Q (upd U d (.agg ⟨cs⟩)) w):
 Q0 P (⟨none, .build d z [(o0,n0,x0)]⟩::l) Q U w:=by
 subst h0;exact dc hf h
theorem Rw (h0:U.ev x0=v0)(hf:NA z [(o0,n0,v0)]=some cs)
 (h:∀b B,b=w.heap.size→Fr NF w B→B.heap.size=w.heap.size+1→Ll B.heap b T cs→Q0 P l Q (upd U d (.slice (some ⟨b,0,none⟩) n n)) B):
 Q0 P (⟨none, .buildS d T n z [(o0,n0,x0)]⟩::l) Q U w:=by
 subst h0;exact pw hf h
theorem j5 (h0:U.ev x0=v0)(I:U.ev x1=v1)(hf:NA z [(o0,n0,v0),(o1,n1,v1)]=some cs)(h:Q0 P l Q (upd U d (.agg ⟨cs⟩)) w):
 Q0 P (⟨none, .build d z [(o0,n0,x0),(o1,n1,x1)]⟩::l) Q U w:=by
 subst h0 I;exact dc hf h
theorem m6 (h0:U.ev x0=v0)(I:U.ev x1=v1)(hf:NA z [(o0,n0,v0),(o1,n1,v1)]=some cs)
 (h:∀b B,b=w.heap.size→Fr NF w B→B.heap.size=w.heap.size+1→Ll B.heap b T cs→Q0 P l Q (upd U d (.slice (some ⟨b,0,none⟩) n n)) B):
 Q0 P (⟨none, .buildS d T n z [(o0,n0,x0),(o1,n1,x1)]⟩::l) Q U w:=by
 subst h0 I;exact pw hf h
theorem Uh (h0:U.ev x0=v0)(I:U.ev x1=v1)(M:U.ev x2=v2)(hf:NA z [(o0,n0,v0),(o1,n1,v1),(o2,n2,v2)]=some cs)(h:Q0 P l Q (upd U d (.agg ⟨cs⟩)) w):
 Q0 P (⟨none, .build d z [(o0,n0,x0),(o1,n1,x1),(o2,n2,x2)]⟩::l) Q U w:=by
 subst h0 I M;exact dc hf h
theorem Qiu (h0:U.ev x0=v0)(I:U.ev x1=v1)(M:U.ev x2=v2)(hf:NA z [(o0,n0,v0),(o1,n1,v1),(o2,n2,v2)]=some cs)
 (h:∀b B,b=w.heap.size→Fr NF w B→B.heap.size=w.heap.size+1→Ll B.heap b T cs→Q0 P l Q (upd U d (.slice (some ⟨b,0,none⟩) n n)) B):
 Q0 P (⟨none, .buildS d T n z [(o0,n0,x0),(o1,n1,x1),(o2,n2,x2)]⟩::l) Q U w:=by
 subst h0 I M;exact pw hf h
theorem Ui (h0:U.ev x0=v0)(I:U.ev x1=v1)(M:U.ev x2=v2)(h3:U.ev x3=v3)(hf:NA z [(o0,n0,v0),(o1,n1,v1),(o2,n2,v2),(o3,n3,v3)]=some cs)(h:Q0 P l Q (upd U d (.agg ⟨cs⟩)) w):
 Q0 P (⟨none, .build d z [(o0,n0,x0),(o1,n1,x1),(o2,n2,x2),(o3,n3,x3)]⟩::l) Q U w:=by
 subst h0 I M h3;exact dc hf h
theorem Uj {o4 n4:Nat}{x4:Operand}{v4:Value}(h0:U.ev x0=v0)(I:U.ev x1=v1)(M:U.ev x2=v2)(h3:U.ev x3=v3)(h4:U.ev x4=v4)(hf:NA z [(o0,n0,v0),(o1,n1,v1),(o2,n2,v2),(o3,n3,v3),(o4,n4,v4)]=some cs)(h:Q0 P l Q (upd U d (.agg ⟨cs⟩)) w):
 Q0 P (⟨none, .build d z [(o0,n0,x0),(o1,n1,x1),(o2,n2,x2),(o3,n3,x3),(o4,n4,x4)]⟩::l) Q U w:=by
 subst h0 I M h3 h4;exact dc hf h
theorem Qiv {o4 n4 o5 n5 o6 n6 o7 n7 o8 n8 o9 n9 o10 n10 o11 n11 o12 n12 o13 n13 o14 n14:Nat}{x4 x5 x6 x7 x8 x9 x10 x11 x12 x13 x14:Operand}{v4 v5 v6 v7 v8 v9 v10 v11 v12 v13 v14:Value}(h0:U.ev x0=v0)(I:U.ev x1=v1)(M:U.ev x2=v2)(h3:U.ev x3=v3)(h4:U.ev x4=v4)(h5:U.ev x5=v5)(h6:U.ev x6=v6)(h7:U.ev x7=v7)(h8:U.ev x8=v8)(h9:U.ev x9=v9)(h10:U.ev x10=v10)(h11:U.ev x11=v11)(h12:U.ev x12=v12)(h13:U.ev x13=v13)(h14:U.ev x14=v14)(hf:NA z [(o0,n0,v0),(o1,n1,v1),(o2,n2,v2),(o3,n3,v3),(o4,n4,v4),(o5,n5,v5),(o6,n6,v6),(o7,n7,v7),(o8,n8,v8),(o9,n9,v9),(o10,n10,v10),(o11,n11,v11),(o12,n12,v12),(o13,n13,v13),(o14,n14,v14)]=some cs)(h:Q0 P l Q (upd U d (.agg ⟨cs⟩)) w):
 Q0 P (⟨none, .build d z [(o0,n0,x0),(o1,n1,x1),(o2,n2,x2),(o3,n3,x3),(o4,n4,x4),(o5,n5,x5),(o6,n6,x6),(o7,n7,x7),(o8,n8,x8),(o9,n9,x9),(o10,n10,x10),(o11,n11,x11),(o12,n12,x12),(o13,n13,x13),(o14,n14,x14)]⟩::l) Q U w:=by
 subst h0 I M h3 h4 h5 h6 h7 h8 h9 h10 h11 h12 h13 h14;exact dc hf h
end


theorem j6 {l:List α}(h:l.length=1):∃a,l=[a]:=by
 match l,h with
 | [a],_=>exact ⟨a,rfl⟩
end
section
section
variable {P:Program}{T t0 t1 t2 t3 t4:TypeId}{α β γ δ ε:Type}{o0 s0 o1 s1 o2 s2 o3 s3 o4 s4:Nat}
end
end
end Go.Lir
