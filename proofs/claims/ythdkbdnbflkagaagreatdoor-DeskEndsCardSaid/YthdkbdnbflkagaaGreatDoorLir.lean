/- A small language into which the operations of a translated function are lowered, with its predicate transformer, proved sound for the model. -/
import Derived.WalkKit
namespace Go.Lir

abbrev Env := Nat → Value

def upd (ρ : Env) (d : Nat) (v : Value) : Env := fun i => bif Nat.beq i d then v else ρ i

def Env.ev (ρ : Env) : Operand → Value
  | .tmp t => ρ t
  | .const v => v
  | .global g => .pointer (some ⟨g, 0, none⟩)
  | .func f => .func (.func f) #[] #[]

def updo (ρ : Env) (d : Option Nat) (v : Value) : Env := match d with | some d => upd ρ d v | none => ρ

/-- The frame of n slots that an environment is. -/
def Rel (n : Nat) (ρ : Env) (ds : List Deferred) (a : Act) : Prop := a.tmps.size = n ∧ (∀ i, a.tmps.getD i undef = ρ i) ∧ a.defers = ds

theorem Rel.ev {n ρ ds a} (h : Rel n ρ ds a) : a.eval = ρ.ev := by
  funext x; cases x <;> simp [Act.eval, Env.ev, h.2.1]

theorem Rel.put {n ρ ds a} (h : Rel n ρ ds a) (d : Option Nat) (v : Value) (hd : ∀ x, d = some x → x < n) : Rel n (updo ρ d v) ds (a.put d v) := by
  cases d with
  | none => exact h
  | some d =>
    have hdn := hd d rfl
    obtain ⟨h1, h2, h3⟩ := h
    refine ⟨by simp [Act.put, h1], fun i => ?_, h3⟩
    have := h2 i
    simp only [Act.put, updo, upd]
    by_cases hi : i = d
    · subst hi
      simp [Array.getD, h1, hdn]
    · have hb : Nat.beq i d = false := by
        cases hbb : Nat.beq i d
        · rfl
        · exact absurd (Nat.eq_of_beq_eq_true hbb) hi
      rw [hb]
      simp only [cond_false]
      rw [← this]
      simp only [Array.getD_eq_getD_getElem?]
      rw [Array.getElem?_setIfInBounds_ne (by omega)]

abbrev QT := Exit → Env → World → Prop
abbrev KT := Env → World → Prop

def liftK (n : Nat) (ds : List Deferred) (K : KT) : Act → World → Prop := fun a w => ∃ ρ, Rel n ρ ds a ∧ K ρ w
def liftQ (n : Nat) (ds : List Deferred) (Q : QT) : Exit → Act → World → Prop := fun e a w => ∃ ρ, Rel n ρ ds a ∧ Q e ρ w

def letsOut (Q : QT) : Prop := ∃ ρ w, Q .outgrown ρ w

/-- One operation of the model, over an environment. -/
def rawWp (P : Program) (o : Oper) (ρ : Env) (w : World) (K : KT) (Q : QT) : Prop :=
  match (execOp ρ.ev o).run P w with
  | .ok (.value v) w' => K (updo ρ o.dst v) w'
  | .ok .skip w' => K (updo ρ o.dst undef) w'
  | .ok (.enter f args) w' => Calls P f args w' fun
      | .returned v, w'' => K (updo ρ o.dst v) w''
      | .panicked chain, w'' => Q (.panic chain) ρ w''
      | .outgrown, _ => Q .outgrown ρ w'
  | .ok (.row row args) w' => Rows P row args w' fun v w'' => K (updo ρ o.dst v) w''
  | .halt (.panic v) w' => Q (.panic [{ v, recovered := false }]) ρ w'
  | _ => False

theorem raw_sound {P : Program} {o : Oper} {ρ : Env} {w : World} {K : KT} {Q : QT} {n : Nat} {ds : List Deferred} {a : Act}
    (hr : Rel n ρ ds a) (hd : ∀ x, o.dst = some x → x < n) (h : rawWp P o ρ w K Q) : o.wp P a w (liftK n ds K) (liftQ n ds Q) := by
  unfold Oper.wp
  rw [hr.ev]
  unfold rawWp at h
  generalize (execOp ρ.ev o).run P w = r at h
  unfold Oper.upon
  split at h
  · exact ⟨_, hr.put _ _ hd, h⟩
  · exact ⟨_, hr.put _ _ hd, h⟩
  · refine h.mono fun e w'' h => ?_
    cases e with
    | returned v => exact ⟨_, hr.put _ _ hd, h⟩
    | panicked ch => exact ⟨_, hr, h⟩
    | outgrown => exact ⟨a, _, _, hr, h⟩
  · exact h.mono fun v w' h => ⟨_, hr.put _ _ hd, h⟩
  · exact ⟨_, hr, h⟩
  · exact h.elim

def oneC : Value → Bool
  | .agg _ | .tuple _ => false
  | _ => true

/-- Parts laid into a row of cells. -/
def fillL (cells : List Value) : List (Nat × Nat × Value) → Option (List Value)
  | [] => some cells
  | (off, size, v) :: rest =>
    if v.cells.size = size ∧ off + size ≤ cells.length then fillL (cells.take off ++ (v.cells.toList ++ cells.drop (off + size))) rest
    else none

/-! ### Lowered operations -/

inductive LO where
  | mov (d : Nat) (x : Operand)
  | pick (d : Nat) (c x y : Operand)
  | un (d : Nat) (op : UnOp) (x : Operand)
  | bin (d : Nat) (op : BinOp) (T : TypeId) (x y : Operand)
  | nilc (d : Nat) (x : Operand)
  | fld (d : Nat) (x : Operand) (off : Nat)
  | load1 (d : Nat) (x : Operand)
  | loadn (d : Nat) (n : Nat) (x : Operand)
  | store1 (x v : Operand)
  | storen (n : Nat) (x v : Operand)
  | idx (d : Nat) (es : Nat) (x i : Operand)
  | idxa (d : Nat) (n es : Nat) (x i : Operand)
  | len (d : Nat) (x : Operand)
  | slen (d : Nat) (x : Operand)
  | sidx (d : Nat) (x i : Operand)
  | ext (d : Nat) (x : Operand) (i : Nat)
  | fldv (d : Nat) (x : Operand) (off : Nat)
  | fldn (d : Nat) (x : Operand) (off n : Nat)
  | alloc (d : Nat) (T : TypeId) (zero : List Value)
  | box (d : Nat) (T : TypeId) (x : Operand)
  | call (d : Option Nat) (f : FuncId) (xs : List Operand)
  | callv (d : Option Nat) (x : Operand) (xs : List Operand)
  | build (d : Nat) (zero : List Value) (parts : List (Nat × Nat × Operand))
  | buildS (d : Nat) (T : TypeId) (n : Nat) (zero : List Value) (parts : List (Nat × Nat × Operand))
  | mkfn (d : Nat) (f : FuncId) (caps : List Operand)
  | sub (d : Nat) (es : Nat) (x : Operand) (lo hi mx : Option Operand)
  | ssub (d : Nat) (x : Operand) (lo hi : Option Operand)
  | mnx (d : Nat) (isMax : Bool) (x y : Operand)
  | conv (d : Nat) (k : IntKind) (x : Operand)
  | mki (d : Nat) (T : TypeId) (x : Operand)
  | raw (o : Oper)

def LO.dst : LO → Option Nat
  | .mov d _ | .pick d .. | .un d .. | .bin d .. | .nilc d _ | .fld d .. | .load1 d _ | .loadn d .. | .idx d .. | .idxa d .. | .len d _ | .slen d _ | .sidx d .. | .ext d ..
  | .fldv d .. | .fldn d .. | .alloc d .. | .box d .. | .build d .. | .buildS d .. | .mkfn d .. | .sub d .. | .ssub d .. | .mnx d .. | .conv d .. | .mki d .. => some d
  | .store1 .. | .storen .. => none
  | .call d .. | .callv d .. => d
  | .raw o => o.dst

/-- n cells from an address on. -/
def cellsAt (w : World) (a : Addr) (n : Nat) (cs : List Value) : Prop := cs.length = n ∧ ∀ j, j < n → w.cell? (a.add j) = cs[j]?

/-- A bound of a slice expression: what is written, or what stands for it. -/
def bnd (ρ : Env) (dflt : Nat) : Option Operand → Nat → Prop
  | none, n => n = dflt
  | some x, n => ∃ k, ρ.ev x = .int k n

def callPost (K : KT) (Q : QT) (d : Option Nat) (ρ : Env) (w : World) : Ending → World → Prop
  | .returned v, w'' => K (updo ρ d v) w''
  | .panicked chain, w'' => Q (.panic chain) ρ w''
  | .outgrown, _ => Q .outgrown ρ w

def LO.wp (P : Program) (ρ : Env) (w : World) (K : KT) (Q : QT) : LO → Prop
  | .mov d x => K (upd ρ d (ρ.ev x)) w
  | .pick d c x y => ∃ b, ρ.ev c = .bool b ∧ K (upd ρ d (if b then ρ.ev x else ρ.ev y)) w
  | .un d op x => ∃ v, (∀ w0, (Op.unary op (ρ.ev x)).run P w0 = .ok v w0) ∧ K (upd ρ d v) w
  | .bin d op T x y => ∃ v, (∀ w0, (do eqGuard op T x y (ρ.ev x) (ρ.ev y); binOp op T (ρ.ev x) (ρ.ev y)).run P w0 = .ok v w0) ∧ K (upd ρ d v) w
  | .nilc d x => ∃ a, ρ.ev x = .pointer (some a) ∧ K (upd ρ d (.pointer (some a))) w
  | .fld d x off => ∃ a, ρ.ev x = .pointer (some a) ∧ K (upd ρ d (.pointer (some (a.add off)))) w
  | .load1 d x => ∃ a v, ρ.ev x = .pointer (some a) ∧ w.cell? a = some v ∧ K (upd ρ d v) w
  | .loadn d n x => ∃ a cs, ρ.ev x = .pointer (some a) ∧ cellsAt w a n cs ∧ K (upd ρ d (.agg ⟨cs⟩)) w
  | .store1 x v => ∃ a c, ρ.ev x = .pointer (some a) ∧ w.cell? a = some c ∧ w.frozen? a = false ∧ oneC (ρ.ev v) = true ∧ K ρ (w.setCell a (ρ.ev v))
  | .storen n x v => ∃ a cs w', ρ.ev x = .pointer (some a) ∧ ρ.ev v = .agg cs ∧ cs.size = n ∧ (storeCells a cs.toList).run P w = .ok () w' ∧ K ρ w'
  | .idx d es x i => ∃ a len cap k n, ρ.ev x = .slice (some a) len cap ∧ ρ.ev i = .int k n ∧ 0 ≤ n ∧ n < len ∧ K (upd ρ d (.pointer (some (a.add (n.toNat * es))))) w
  | .idxa d m es x i => ∃ a k n, ρ.ev x = .pointer (some a) ∧ ρ.ev i = .int k n ∧ 0 ≤ n ∧ n < (m : Int) ∧ K (upd ρ d (.pointer (some (a.add (n.toNat * es))))) w
  | .len d x => ∃ a n c, ρ.ev x = .slice a n c ∧ K (upd ρ d (.int .i64 n)) w
  | .slen d x => ∃ s, ρ.ev x = .string s ∧ K (upd ρ d (.int .i64 s.size)) w
  | .sidx d x i => ∃ s k n b, ρ.ev x = .string s ∧ ρ.ev i = .int k n ∧ 0 ≤ n ∧ s[n.toNat]? = some b ∧ K (upd ρ d (.int .u8 b.toNat)) w
  | .ext d x i => ∃ vs v, ρ.ev x = .tuple vs ∧ vs[i]? = some v ∧ K (upd ρ d v) w
  | .fldv d x off => ∃ cs v, ρ.ev x = .agg cs ∧ cs[off]? = some v ∧ K (upd ρ d v) w
  | .fldn d x off n => ∃ cs, ρ.ev x = .agg cs ∧ K (upd ρ d (.agg (cs.extract off (off + n)))) w
  | .alloc d T z => K (upd ρ d (.pointer (some ⟨w.heap.size, 0, none⟩))) (w.alloc (.cells ⟨z⟩ T))
  | .box d T x => K (upd ρ d (.pointer (some ⟨w.heap.size, 0, none⟩))) (w.alloc (.cells (ρ.ev x).cells T))
  | .call d f xs => Calls P f ⟨xs.map ρ.ev⟩ w (callPost K Q d ρ w)
  | .callv d x xs => ∃ f fst cap fn, ρ.ev x = .func (.func f) fst cap ∧ P.funcs[f]? = some fn ∧ fn.body.isSome = true ∧ (fn.name == "runtime.NumGoroutine") = false ∧ Calls P f (fst ++ ⟨xs.map ρ.ev⟩ ++ cap) w (callPost K Q d ρ w)
  | .build d z ps => ∃ cs, fillL z (ps.map fun p => (p.1, p.2.1, ρ.ev p.2.2)) = some cs ∧ K (upd ρ d (.agg ⟨cs⟩)) w
  | .buildS d T n z ps => ∃ cs, fillL z (ps.map fun p => (p.1, p.2.1, ρ.ev p.2.2)) = some cs ∧ K (upd ρ d (.slice (some ⟨w.heap.size, 0, none⟩) n n)) (w.alloc (.cells ⟨cs⟩ T))
  | .mkfn d f caps => K (upd ρ d (.func (.func f) #[] ⟨caps.map ρ.ev⟩)) w
  | .sub d es x lo hi mx => ∃ a len cap l h m, ρ.ev x = .slice a len cap ∧ bnd ρ cap mx m ∧ bnd ρ len hi h ∧ bnd ρ 0 lo l ∧ m ≤ cap ∧ h ≤ m ∧ l ≤ h ∧
      K (upd ρ d (.slice (if m = l then a else a.map (·.add (l * es))) (h - l) (m - l))) w
  | .ssub d x lo hi => ∃ s l h, ρ.ev x = .string s ∧ bnd ρ s.size hi h ∧ bnd ρ 0 lo l ∧ h ≤ s.size ∧ l ≤ h ∧ K (upd ρ d (.string (s.extract l h))) w
  | .mnx d isMax x y => ∃ k k' a b, ρ.ev x = .int k a ∧ ρ.ev y = .int k' b ∧ K (upd ρ d (.int k (if isMax then (if a < b then b else a) else (if b < a then b else a)))) w
  | .conv d k x => ∃ k' n, ρ.ev x = .int k' n ∧ K (upd ρ d (.int k (k.wrap n))) w
  | .mki d T x => K (upd ρ d (.iface T (ρ.ev x))) w
  | .raw o => rawWp P o ρ w K Q

/-! ### Lowering -/

def scalarT (P : Program) (T : TypeId) : Bool := match P.underlying T with
  | some (.struct _) | some (.array _ _) => false
  | some _ => true
  | none => false
def aggT (P : Program) (T : TypeId) : Bool := match P.underlying T with
  | some (.struct _) | some (.array _ _) => true
  | _ => false
def sizeT (P : Program) (T : TypeId) : Option Nat := (P.info? T).map (·.size)
def zeroT (P : Program) (T : TypeId) : Option Value := (P.info? T).bind (·.zero)

/-- Where the field f of the struct type S lies: its first cell, its type. -/
def fieldOf (P : Program) (S : TypeId) (f : Nat) : Option (Nat × TypeId) := match P.underlying S with
  | some (.struct fs) => (fs[f]?).map fun x => (x.offset, x.type)
  | _ => none

def elemT (P : Program) (T : TypeId) : Option TypeId := match P.underlying T with
  | some (.slice e) => some e
  | _ => none
def arrT (P : Program) (T : TypeId) : Option (Nat × TypeId) := match P.underlying T with
  | some (.array n e) => some (n, e)
  | _ => none
def isStrT (P : Program) (T : TypeId) : Bool := match P.underlying T with
  | some .string => true
  | _ => false

/-- The places of the parts of a struct or an array. -/
def placesT (P : Program) (T : TypeId) : Option (Nat → Option (Nat × Nat)) := match P.underlying T with
  | some (.struct fs) => if fs.toList.all (fun f => (sizeT P f.type).isSome) then some (fun i => (fs[i]?).bind fun f => (sizeT P f.type).map fun s => (f.offset, s)) else none
  | some (.array _ e) => (sizeT P e).map fun s => fun i => some (i * s, s)
  | _ => none

/-- Each place, with its operand; none: one has no place. -/
def partsT (pl : Nat → Option (Nat × Nat)) : List (Nat × Operand) → Option (List (Nat × Nat × Operand))
  | [] => some []
  | (i, x) :: rest => match pl i, partsT pl rest with
    | some (o, s), some r => some ((o, s, x) :: r)
    | _, _ => none

def intT (P : Program) (T : TypeId) : Option IntKind := match P.underlying T with
  | some (.int k) => some k
  | _ => none
def ifaceT (P : Program) (T : TypeId) : Bool := match P.underlying T with
  | some (.interface _) => true
  | some _ => false
  | none => true

def goFunc (P : Program) (f : FuncId) : Bool := (P.funcs[f]?).any fun fn => fn.body.isSome && !(fn.name == "runtime.NumGoroutine")

def lowerOp0 (P : Program) (o : Oper) : LO :=
  match o.dst with
  | none => match o.op with
    | .store T x v => match scalarT P T, sizeT P T with
      | true, some 1 => .store1 x v
      | false, some n => if aggT P T then .storen n x v else .raw o
      | _, _ => .raw o
    | .call ⟨.value (.func f), xs, _⟩ => if goFunc P f then .call none f xs.toList else .raw o
    | .call ⟨.value (.tmp f), xs, _⟩ => .callv none (.tmp f) xs.toList
    | _ => .raw o
  | some d => match o.op with
    | .move x | .assign x => .mov d x
    | .pick c x y => .pick d c x y
    | .unOp op _ x => .un d op x
    | .binOp op T x y _ => .bin d op T x y
    | .nilCheck x => .nilc d x
    | .fieldAddr S x f => match fieldOf P S f with
      | some (off, t) => match sizeT P t with
        | some (_ + 1) => .fld d x off
        | _ => .raw o
      | none => .raw o
    | .load T x => match scalarT P T with
      | true => .load1 d x
      | false => match sizeT P T with
        | some n => if aggT P T then .loadn d n x else .raw o
        | none => .raw o
    | .indexAddr T x i => match elemT P T with
      | some e => match sizeT P e with
        | some s => .idx d s x i
        | none => .raw o
      | none => match arrT P T with
        | some (n, e) => match sizeT P e with
          | some s => .idxa d n s x i
          | none => .raw o
        | none => .raw o
    | .index T x i => if isStrT P T then .sidx d x i else .raw o
    | .extract x i => .ext d x i
    | .field S x f => match fieldOf P S f with
      | some (off, t) => match scalarT P t with
        | true => .fldv d x off
        | false => match sizeT P t with
          | some n => if aggT P t then .fldn d x off n else .raw o
          | none => .raw o
      | none => .raw o
    | .alloc T => match zeroT P T with
      | some z => .alloc d T z.cells.toList
      | none => .raw o
    | .box T x => .box d T x
    | .build T ps => match zeroT P T, placesT P T with
      | some z, some pl => match partsT pl ps.toList with
        | some l => .build d z.cells.toList l
        | none => .raw o
      | _, _ => .raw o
    | .buildSlice T n ps => match elemT P T with
      | some e => match zeroT P e, sizeT P e with
        | some z, some s => match partsT (fun i => some (i * s, s)) ps.toList with
          | some l => if 0 < s ∧ 0 < n ∧ n * s ≤ 1000 ∧ z.cells.size = s then .buildS d e n ((List.range (n * s)).map fun i => z.cells.toList.getD (i % s) default) l else .raw o
          | none => .raw o
        | _, _ => .raw o
      | none => .raw o
    | .makeFunc (.func f) fst caps => if fst.size = 0 then .mkfn d f caps.toList else .raw o
    | .call ⟨.value (.func f), xs, _⟩ => if goFunc P f then .call (some d) f xs.toList else .raw o
    | .call ⟨.value (.tmp f), xs, _⟩ => .callv (some d) (.tmp f) xs.toList
    | .slice T x lo hi mx => match elemT P T with
      | some e => match sizeT P e with
        | some s => if mx.isSome && hi.isNone then .raw o else .sub d s x lo hi mx
        | none => .raw o
      | none => if isStrT P T && mx.isNone then .ssub d x lo hi else .raw o
    | .convert S T x => match intT P S, intT P T with
      | some _, some k => .conv d k x
      | _, _ => .raw o
    | .makeInterface T x => if ifaceT P T then .raw o else .mki d T x
    | .call ⟨.builtin .min, xs, _⟩ => match xs.toList with
      | [x, y] => .mnx d false x y
      | _ => .raw o
    | .call ⟨.builtin .max, xs, _⟩ => match xs.toList with
      | [x, y] => .mnx d true x y
      | _ => .raw o
    | .call ⟨.builtin .len, xs, ts⟩ => match xs.toList, ts.toList with
      | [x], [T] => if isStrT P T then .slen d x else if (elemT P T).isSome then .len d x else .raw o
      | _, _ => .raw o
    | _ => .raw o

def strip (o : Oper) : Oper := ⟨o.dst, o.op, o.type, "", #[], none⟩
def lowerOp (P : Program) (o : Oper) : LO := match lowerOp0 P o with
  | .raw o => .raw (strip o)
  | x => x

end Go.Lir
