/- A function is entered: its lowered code is found by evaluation, and checked by the kernel. -/
import Derived.Test.YthdkbdnbflkagaaGreatDoorLirPan
import Derived.Test.YthdkbdnbflkagaaGreatDoorLirC
namespace Go.Lir
set_option linter.unusedVariables false
/-- What is known of a type, by its number: the kinds that are asked for. -/
inductive TyD where
  | p | b | f | i (k : IntKind) | s | l (e : Nat) | a (n e z : Nat) | t (z : Nat) (fs : List (Nat × Nat)) | x
abbrev Tr := Nat → TyD
def TyD.sc : TyD → Bool
  | .a .. => false
  | .t .. => false
  | _ => true
def TyD.sz : TyD → Nat
  | .a _ _ z => z
  | .t z _ => z
  | _ => 1
mutual
def zerD (D : Tr) : Nat → TyD → List Value
  | 0, _ => []
  | _ + 1, .p => [.pointer none]
  | _ + 1, .b => [.bool false]
  | _ + 1, .f => [.nilFunc]
  | _ + 1, .i k => [.int k 0]
  | _ + 1, .s => [.string ⟨#[]⟩]
  | _ + 1, .l _ => [.slice none 0 0]
  | _ + 1, .x => [.nilIface]
  | n + 1, .t _ fs => zerF D n fs
  | n + 1, .a m e _ => (List.replicate m (zerD D n (D e))).flatten
def zerF (D : Tr) : Nat → List (Nat × Nat) → List Value
  | 0, _ => []
  | _ + 1, [] => []
  | n + 1, f :: fs => zerD D n (D f.2) ++ zerF D n fs
end
def zerT (D : Tr) (T : Nat) : List Value := zerD D 60 (D T)
def partD (D : Tr) : TyD → List (Nat × Operand) → List (Nat × Nat × Operand)
  | .t z fs, (i, x) :: r => (match fs[i]? with | some f => (f.1, (D f.2).sz, x) | none => (0, 0, x)) :: partD D (.t z fs) r
  | .a n e z, (i, x) :: r => (i * (D e).sz, (D e).sz, x) :: partD D (.a n e z) r
  | _, _ => []
def cutO : Oper → LO
  | ⟨d, o, T, _, _, _⟩ => .raw ⟨d, o, T, "", #[], none⟩
def fldA (D : Tr) (f : Nat) : TyD → Nat
  | .t _ fs => match fs[f]? with | some p => p.1 | none => 0
  | _ => 0
def fldT (D : Tr) (f : Nat) : TyD → TyD
  | .t _ fs => match fs[f]? with | some p => D p.2 | none => .p
  | _ => .p
def loadD (d : Nat) (x : Operand) : TyD → LO
  | .t z _ => .loadn d z x
  | .a _ _ z => .loadn d z x
  | _ => .load1 d x
def storeD (x v : Operand) : TyD → LO
  | .t z _ => .storen z x v
  | .a _ _ z => .storen z x v
  | _ => .store1 x v
def fieldD (d : Nat) (x : Operand) (off : Nat) : TyD → LO
  | .t z _ => .fldn d x off z
  | .a _ _ z => .fldn d x off z
  | _ => .fldv d x off
def lowD1 (D : Tr) (o : Oper) (d : Nat) : Op → LO
  | .move x => .mov d x
  | .assign x => .mov d x
  | .pick c x y => .pick d c x y
  | .unOp op _ x => .un d op x
  | .binOp op T x y _ => .bin d op T x y
  | .nilCheck x => .nilc d x
  | .fieldAddr S x f => .fld d x (fldA D f (D S))
  | .load T x => loadD d x (D T)
  | .indexAddr T x i => match D T with
    | .l e => .idx d (D e).sz x i
    | .a n e _ => .idxa d n (D e).sz x i
    | _ => cutO o
  | .index T x i => match D T with
    | .s => .sidx d x i
    | _ => cutO o
  | .extract x i => .ext d x i
  | .field S x f => fieldD d x (fldA D f (D S)) (fldT D f (D S))
  | .alloc T => .alloc d T (zerT D T)
  | .box T x => .box d T x
  | .build T ps => .build d (zerT D T) (partD D (D T) ps.toList)
  | .buildSlice T n ps => match D T with
    | .l e => if 0 < n then .buildS d e n ((List.replicate n (zerT D e)).flatten) (partD D (.a n e 0) ps.toList) else cutO o
    | _ => cutO o
  | .makeFunc (.func f) _ caps => .mkfn d f caps.toList
  | .call ⟨.value (.func f), xs, _⟩ => .call (some d) f xs.toList
  | .call ⟨.value (.tmp f), xs, _⟩ => .callv (some d) (.tmp f) xs.toList
  | .slice T x lo hi mx => match D T with
    | .l e => .sub d (D e).sz x lo hi mx
    | .s => .ssub d x lo hi
    | _ => cutO o
  | .convert S T x => match D S, D T with
    | .i _, .i k => .conv d k x
    | _, _ => cutO o
  | .makeInterface T x => match D T with
    | .x => cutO o
    | _ => .mki d T x
  | .call ⟨.builtin .min, ⟨[x, y]⟩, _⟩ => .mnx d false x y
  | .call ⟨.builtin .max, ⟨[x, y]⟩, _⟩ => .mnx d true x y
  | .call ⟨.builtin .len, ⟨[x]⟩, ⟨[T]⟩⟩ => match D T with
    | .s => .slen d x
    | .l _ => .len d x
    | _ => cutO o
  | _ => cutO o
def lowD0 (D : Tr) (o : Oper) : Op → LO
  | .store T x v => storeD x v (D T)
  | .call ⟨.value (.func f), xs, _⟩ => .call none f xs.toList
  | .call ⟨.value (.tmp f), xs, _⟩ => .callv none (.tmp f) xs.toList
  | _ => cutO o
def lowO (D : Tr) (o : Oper) : Option Nat → LO
  | none => lowD0 D o o.op
  | some d => lowD1 D o d o.op
def grdO (ops : Array Oper) : Option (Nat × Bool) → Option (Nat × Bool)
  | none => none
  | some (j, b) => match ops[j]? with
    | some o => match o.dst with
      | some s => some (s, b)
      | none => none
    | none => none
def lowGs (D : Tr) (ops : Array Oper) : List Oper → List GO
  | [] => []
  | o :: r => ⟨grdO ops o.guard, lowO D o o.dst⟩ :: lowGs D ops r
def lowS (D : Tr) : Code → LC
  | .skip => .skip
  | .region _ ops false => .ops (lowGs D ops ops.toList)
  | .region _ ops true => .draw (lowGs D ops ops.toList) (plainEs ops)
  | .seq a b => .seq (lowS D a) (lowS D b)
  | .cond c a b => .cond c (lowS D a) (lowS D b)
  | .block id a => .block id (lowS D a)
  | .loop a => .loop (lowS D a)
  | .exit id => .exit id
  | .ret => .ret
  | _ => .bad
def lowQ (D : Tr) : Option Code → LC
  | some c => lowS D c
  | none => .bad
def lowSD (D : Tr) : Code → LD
  | .seq a b => bif hasSp a || hasSp b then .seq (lowSD D a) (lowSD D b) else .pl (lowS D (.seq a b))
  | .region id ops false => match splitSp ops.toList with
    | some (l1, _, s, l2) => .sp (lowGs D ops l1) s (lowGs D ops l2)
    | none => .pl (lowS D (.region id ops false))
  | c => .pl (lowS D c)
def lowQD (D : Tr) : Option Code → LD
  | some c => lowSD D c
  | none => .pl .bad
section
variable {P : Program} {f : FuncId} {fn : Func} {args : List Value} {w : World} {rs : List ResultVar} (D : Tr)
theorem lgo {R : Ending → World → Prop} {lc : LC} (hf : P.funcs[f]? = some fn) (h : lc.wp P (retQ P rs R) (argEnv args) w) (e : lowQ D fn.body = lc := by set_option maxRecDepth 100000 in (conv => lhs; cbv)) (hl : lowF P fn = some lc := by kernel_rfl) (hrs : fn.results.toList = rs := by set_option maxRecDepth 100000 in (conv => lhs; cbv)) (hn : Nat.ble args.length fn.ntmps = true := by kernel_rfl) : Calls P f ⟨args⟩ w R := calls_of_low hf hl hrs hn h
theorem lgd {R : Ending → World → Prop} {ld : LD} (hf : P.funcs[f]? = some fn) (h : ld.wpD P (retD P rs R) [] (argEnv args) w) (e : lowQD D fn.body = ld := by set_option maxRecDepth 100000 in (conv => lhs; cbv)) (hl : lowFD P fn = some ld := by kernel_rfl) (hrs : fn.results.toList = rs := by set_option maxRecDepth 100000 in (conv => lhs; cbv)) (hn : Nat.ble args.length fn.ntmps = true := by kernel_rfl) : Calls P f ⟨args⟩ w R := calls_of_lowD hf hl hrs hn h
theorem lgr {R : Ending → FrameMode → World → Prop} {u : FrameMode} {ld : LD} (hf : P.funcs[f]? = some fn) (h : ld.wpR P (retR P rs R) u (argEnv args) w) (e : lowQD D fn.body = ld := by set_option maxRecDepth 100000 in (conv => lhs; cbv)) (hl : lowFD P fn = some ld := by kernel_rfl) (hrs : fn.results.toList = rs := by set_option maxRecDepth 100000 in (conv => lhs; cbv)) (hn : Nat.ble args.length fn.ntmps = true := by kernel_rfl) : CallsD P f ⟨args⟩ u w R := callsD_of_lowR hf hl hrs hn h
end
end Go.Lir
