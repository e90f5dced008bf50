/- Evaluation: each operation (plain functions). -/
import Derived.Test.YthdkbdnbflkagaaGreatDoorEvR
namespace Go.Lir
set_option linter.unusedVariables false
noncomputable section
section
variable (P : Program) (X : FuncId → List V → AW → CR)
def putV (A : AW) (σ : Tr2 V) (d : Nat) (v : V) : ER := σ.setk v d fun σ => .nm σ A
def putO (A : AW) (σ : Tr2 V) (d : Option Nat) (v : V) : ER := match d with
  | some d => putV A σ d v
  | none => .nm σ A
def newB (A : AW) (k : Bk) (c : Nat → AW → ER) : ER := match A with
  | ⟨t, n⟩ => t.setk k n fun t => fN (.succ n) fun n' => c n ⟨t, n'⟩
def atB (A : AW) (b : Nat) : Bk := A.t.get .dd b
def cellsB (k : Bk) (c : List V → ER) : ER := match k with
  | .dd => .no
  | .cl _ cs => c cs
  | .op _ _ cs => c cs
  | .ro _ cs => c cs
  | .it _ _ => .no
/-- The cells of a block become others, as many as they are. -/
def newC (A : AW) (σ : Tr2 V) (b : Nat) (g : List V → (List V → ER) → ER) : ER := match atB A b with
  | .cl T cs => g cs fun cs => A.t.setk (.cl T cs) b fun t => .nm σ ⟨t, A.n⟩
  | .op T es cs => g cs fun cs => A.t.setk (.op T es cs) b fun t => .nm σ ⟨t, A.n⟩
  | _ => .no
def toP (v : V) (c : Nat → Nat → ER) : ER := match v with
  | .p b o => c b o
  | _ => .no
def toN (v : V) (c : Nat → ER) : ER := match v with
  | .i _ (.ofNat m) => c m
  | _ => .no
def toAg (v : V) (c : List V → ER) : ER := match v with
  | .ag l => c l
  | _ => .no
def toS (v : V) (c : List UInt8 → ER) : ER := match v with
  | .s l => c l
  | _ => .no
def toI (v : V) (c : IntKind → Int → ER) : ER := match v with
  | .i k n => c k n
  | _ => .no
/-- The cells that a value is laid down as. -/
def cellsV (v : V) (c : List V → ER) : ER := match v with
  | .ag l => c l
  | .tu _ => .no
  | .u => .no
  | v => c [v]
def eqK : IntKind → IntKind → Bool
  | .i8, .i8 | .i16, .i16 | .i32, .i32 | .i64, .i64 | .u8, .u8 | .u16, .u16 | .u32, .u32 | .u64, .u64 => true
  | _, _ => false
def orN (b : Bool) (e : ER) : ER := match b with
  | true => e
  | false => .no
def orE (b : Bool) (e f : ER) : ER := match b with
  | true => e
  | false => f

def oLoad1 (A : AW) (σ : Tr2 V) (d : Nat) (x : Operand) : ER := ex σ x fun v => toP v fun b o => cellsB (atB A b) fun cs => nthk cs o .no fun v => putV A σ d v
def oLoadn (A : AW) (σ : Tr2 V) (d n : Nat) (x : Operand) : ER := ex σ x fun v => toP v fun b o => cellsB (atB A b) fun cs => dropk cs o fun cs => takek cs n fun l => orN (lenB l n) (putV A σ d (.ag l))
def oStore1 (A : AW) (σ : Tr2 V) (x y : Operand) : ER := ex σ x fun v => ex σ y fun uu => toP v fun b o => orN (oneV uu) (newC A σ b fun cs c => setkk cs o uu .no c)
def oStoren (A : AW) (σ : Tr2 V) (n : Nat) (x y : Operand) : ER := ex σ x fun v => ex σ y fun uu => toP v fun b o => toAg uu fun l => orN (lenB l n) (orN (onesV l) (newC A σ b fun cs c => orN (Nat.ble (o + n) cs.length) (putk cs l o c)))
def oIdx (A : AW) (σ : Tr2 V) (d es : Nat) (x i : Operand) : ER := ex σ x fun v => ex σ i fun uu => toN uu fun m => match v with
  | .l b o n _ => orN (Nat.blt m n) (fN (o + m * es) fun o => putV A σ d (.p b o))
  | _ => .no
def oIdxa (A : AW) (σ : Tr2 V) (d n es : Nat) (x i : Operand) : ER := ex σ x fun v => ex σ i fun uu => toN uu fun m => toP v fun b o => orN (Nat.blt m n) (fN (o + m * es) fun o => putV A σ d (.p b o))
def oLen (A : AW) (σ : Tr2 V) (d : Nat) (x : Operand) : ER := ex σ x fun v => match v with
  | .l _ _ n _ => putV A σ d (.i .i64 (.ofNat n))
  | .l0 => putV A σ d (.i .i64 (.ofNat 0))
  | .lz => putV A σ d (.i .i64 (.ofNat 0))
  | _ => .no
def oSlen (A : AW) (σ : Tr2 V) (d : Nat) (x : Operand) : ER := ex σ x fun v => toS v fun l => fN l.length fun n => putV A σ d (.i .i64 (.ofNat n))
def oSidx (A : AW) (σ : Tr2 V) (d : Nat) (x i : Operand) : ER := ex σ x fun v => ex σ i fun uu => toS v fun l => toN uu fun m => nthB l m .no fun b => fN b.toNat fun n => putV A σ d (.i .u8 (.ofNat n))
def oExt (A : AW) (σ : Tr2 V) (d : Nat) (x : Operand) (i : Nat) : ER := ex σ x fun v => match v with
  | .tu l => nthk l i .no fun v => putV A σ d v
  | _ => .no
def oFldv (A : AW) (σ : Tr2 V) (d : Nat) (x : Operand) (i : Nat) : ER := ex σ x fun v => toAg v fun l => nthk l i .no fun v => putV A σ d v
def oFldn (A : AW) (σ : Tr2 V) (d : Nat) (x : Operand) (i n : Nat) : ER := ex σ x fun v => toAg v fun l => dropk l i fun l => takek l n fun l => putV A σ d (.ag l)
def oFld (A : AW) (σ : Tr2 V) (d : Nat) (x : Operand) (i : Nat) : ER := ex σ x fun v => toP v fun b o => fN (o + i) fun o => putV A σ d (.p b o)
def oNilc (A : AW) (σ : Tr2 V) (d : Nat) (x : Operand) : ER := ex σ x fun v => toP v fun b o => putV A σ d (.p b o)
def oAlloc (A : AW) (σ : Tr2 V) (d : Nat) (T : TypeId) (z : List Value) : ER := mapk z fun l => newB A (.cl T l) fun b A => putV A σ d (.p b 0)
def oBox (A : AW) (σ : Tr2 V) (d : Nat) (T : TypeId) (x : Operand) : ER := ex σ x fun v => cellsV v fun l => newB A (.cl T l) fun b A => putV A σ d (.p b 0)
def fillk (σ : Tr2 V) (ps : List (Nat × Nat × Operand)) (l : List V) (c : List V → ER) : ER := match ps with
  | [] => c l
  | p :: ps => match p with
    | ⟨off, size, x⟩ => ex σ x fun v => cellsV v fun m => orN (lenB m size) (orN (Nat.ble (off + size) l.length) (putk l m off fun l => fillk σ ps l c))
def oBuild (A : AW) (σ : Tr2 V) (d : Nat) (z : List Value) (ps : List (Nat × Nat × Operand)) : ER := mapk z fun z => fillk σ ps z fun l => putV A σ d (.ag l)
def oBuildS (A : AW) (σ : Tr2 V) (d : Nat) (T : TypeId) (n : Nat) (z : List Value) (ps : List (Nat × Nat × Operand)) : ER := mapk z fun z => fillk σ ps z fun l => newB A (.cl T l) fun b A => putV A σ d (.l b 0 n n)
def oMkfn (A : AW) (σ : Tr2 V) (d : Nat) (f : FuncId) (xs : List Operand) : ER := exs σ xs fun l => putV A σ d (.fn f [] l)
def bn (σ : Tr2 V) (dflt : Nat) (x : Option Operand) (c : Nat → ER) : ER := match x with
  | none => c dflt
  | some x => ex σ x fun v => toN v c
def oSub (A : AW) (σ : Tr2 V) (d es : Nat) (x : Operand) (lo hi mx : Option Operand) : ER := ex σ x fun v => match v with
  | .l0 => bn σ 0 mx fun m => bn σ 0 hi fun h => bn σ 0 lo fun l => orN (Nat.beq m 0) (orN (Nat.beq h 0) (orN (Nat.beq l 0) (putV A σ d .l0)))
  | .l b o n c => match atB A b with
    | .op _ es' _ => match mx with
      | none => bn σ n hi fun h => bn σ 0 lo fun l => orN (Nat.beq es es') (orN (Nat.ble h n) (orN (Nat.ble l h) (match l with
        | .zero => fN h fun h => putV A σ d (.l b o h c)
        | .succ l => orE (Nat.blt (.succ l) n) (fN (o + (.succ l) * es) fun o => fN (h - .succ l) fun h => putV A σ d (.l b o h 0)) (putV A σ d .lz))))
      | some _ => .no
    | .dd => .no
    | .it _ _ => .no
    | _ => bn σ c mx fun m => bn σ n hi fun h => bn σ 0 lo fun l => orN (Nat.ble m c) (orN (Nat.ble h m) (orN (Nat.ble l h)
        (fN (h - l) fun n => fN (m - l) fun c => orE (Nat.beq m l) (putV A σ d (.l b o n c)) (fN (o + l * es) fun o => putV A σ d (.l b o n c)))))
  | _ => .no
def oSsub (A : AW) (σ : Tr2 V) (d : Nat) (x : Operand) (lo hi : Option Operand) : ER := ex σ x fun v => toS v fun s => bn σ s.length hi fun h => bn σ 0 lo fun l => orN (Nat.ble h s.length) (orN (Nat.ble l h) (takek s h fun s => dropk s l fun s => putV A σ d (.s s)))
def oMnx (A : AW) (σ : Tr2 V) (d : Nat) (isMax : Bool) (x y : Operand) : ER := ex σ x fun v => ex σ y fun uu => toI v fun k a => toI uu fun _ b => match isMax with
  | true => orE (ltI a b) (putV A σ d (.i k b)) (putV A σ d (.i k a))
  | false => orE (ltI b a) (putV A σ d (.i k b)) (putV A σ d (.i k a))
def oConv (A : AW) (σ : Tr2 V) (d : Nat) (k : IntKind) (x : Operand) : ER := ex σ x fun v => toI v fun _ n => fI (wr k n) fun n => putV A σ d (.i k n)
def oPick (A : AW) (σ : Tr2 V) (d : Nat) (c x y : Operand) : ER := ex σ c fun t => match t with
  | .b true => ex σ x fun v => putV A σ d v
  | .b false => ex σ y fun v => putV A σ d v
  | _ => .no
def oUn (A : AW) (σ : Tr2 V) (d : Nat) (op : UnOp) (x : Operand) : ER := ex σ x fun v => match op, v with
  | .not, .b true => putV A σ d (.b false)
  | .not, .b false => putV A σ d (.b true)
  | .neg, .i k n => fI (wr k (Int.sub 0 n)) fun n => putV A σ d (.i k n)
  | .xor, .i k n => orN k.signed (fI (bitI .xor k (-1) n) fun n => putV A σ d (.i k n))
  | _, _ => .no
/-- Of two numbers of one kind. -/
def bI (op : BinOp) (k : IntKind) (a b : Int) (c : V → ER) : ER := match op with
  | .add => fI (wr k (Int.add a b)) fun n => c (.i k n)
  | .sub => fI (wr k (Int.sub a b)) fun n => c (.i k n)
  | .mul => fI (wr k (Int.mul a b)) fun n => c (.i k n)
  | .quo => orE (eqI b 0) .no (fI (wr k (a.tdiv b)) fun n => c (.i k n))
  | .rem => orE (eqI b 0) .no (fI (a.tmod b) fun n => c (.i k n))
  | .and => fI (bitI .and k a b) fun n => c (.i k n)
  | .or => fI (bitI .or k a b) fun n => c (.i k n)
  | .xor => fI (bitI .xor k a b) fun n => c (.i k n)
  | .andNot => fI (bitI .andNot k a b) fun n => c (.i k n)
  | .eql => fB (eqI a b) fun x => c (.b x)
  | .neq => fB (!eqI a b) fun x => c (.b x)
  | .lss => fB (ltI a b) fun x => c (.b x)
  | .leq => fB (!ltI b a) fun x => c (.b x)
  | .gtr => fB (ltI b a) fun x => c (.b x)
  | .geq => fB (!ltI a b) fun x => c (.b x)
  | _ => .no
def bSh (op : BinOp) (k : IntKind) (a b : Int) (c : V → ER) : ER := orE (ltI b 0) .no (match op with
  | .shl => fI (wr k (a * 2 ^ (min b.toNat k.bits))) fun n => c (.i k n)
  | .shr => fI (a.fdiv (2 ^ (min b.toNat k.bits))) fun n => c (.i k n)
  | _ => .no)
def isSh : BinOp → Bool
  | .shl | .shr => true
  | _ => false
def bS (op : BinOp) (a b : List UInt8) (c : V → ER) : ER := match op with
  | .add => orN (Nat.ble (a.length + b.length) 9223372036854775807) (appk a b fun l => c (.s l))
  | .eql => fB (sameS a b) fun x => c (.b x)
  | .neq => fB (!sameS a b) fun x => c (.b x)
  | _ => .no
def eqq (op : BinOp) (x : Bool) (c : V → ER) : ER := match op with
  | .eql => fB x fun x => c (.b x)
  | .neq => fB (!x) fun x => c (.b x)
  | _ => .no
def isBoolT (T : TypeId) : Bool := match P.underlying T with
  | some .bool => true
  | _ => false
def isPtrT (T : TypeId) : Bool := match P.underlying T with
  | some (.pointer _) => true
  | _ => false
def isSlT (T : TypeId) : Bool := match P.underlying T with
  | some (.slice _) => true
  | _ => false
def isIfT (T : TypeId) : Bool := match P.underlying T with
  | some (.interface _) => true
  | _ => false
def isPtrS (T : TypeId) : Bool := match P.underlying T with
  | some (.pointer e) => (sizeT P e).isSome
  | _ => false
def isCn : Operand → Bool
  | .const _ => true
  | _ => false
def xorB : Bool → Bool → Bool
  | true, true | false, false => true
  | _, _ => false
def oBin (A : AW) (σ : Tr2 V) (d : Nat) (op : BinOp) (T : TypeId) (x y : Operand) : ER := ex σ x fun v => ex σ y fun uu => match v, uu with
  | .i k a, .i k' b => orE (isSh op) (bSh op k a b (putV A σ d)) (orN (eqK k k') (bI op k a b (putV A σ d)))
  | .s a, .s b => bS op a b (putV A σ d)
  | .b a, .b b => orN (isBoolT P T) (eqq op (xorB a b) (putV A σ d))
  | .p b o, .p b' o' => orN (isPtrS P T) (orN (Nat.beq b b') (orN (Nat.beq o o') (match atB A b with
    | .dd => .no
    | _ => eqq op true (putV A σ d))))
  | .p _ _, .p0 => orN (isPtrT P T) (eqq op false (putV A σ d))
  | .p0, .p0 => orN (isPtrT P T) (eqq op true (putV A σ d))
  | .l _ _ _ _, .l0 => orN (isSlT P T) (eqq op false (putV A σ d))
  | .lz, .l0 => orN (isSlT P T) (eqq op false (putV A σ d))
  | .l0, .l0 => orN (isSlT P T) (eqq op true (putV A σ d))
  | .n0, .n0 => orN (isCn x || isCn y) (orN (isIfT P T) (eqq op true (putV A σ d)))
  | .ic _ _, .n0 => orN (isIfT P T) (eqq op false (putV A σ d))
  | _, _ => .no
def backC (A : AW) (σ : Tr2 V) (d : Option Nat) : CR → ER
  | .rt v A => putO A σ d v
  | .pn v A => .pn v (some σ) A
  | .no => .no
def oCall (A : AW) (σ : Tr2 V) (d : Option Nat) (f : FuncId) (xs : List Operand) : ER := exs σ xs fun l => backC A σ d (X f l A)
def oCallv (A : AW) (σ : Tr2 V) (d : Option Nat) (x : Operand) (xs : List Operand) : ER := ex σ x fun v => exs σ xs fun l => match v with
  | .fn f a c => appk l c fun l => appk a l fun l => orN (goFunc P f) (backC A σ d (X f l A))
  | _ => .no
def ucellV (b : UInt8) : V := .i .u8 (.ofNat b.toNat)
def bytesk (l : List UInt8) (c : List V → ER) : ER := match l with
  | [] => c []
  | b :: l => fN b.toNat fun n => bytesk l fun l => c (.i .u8 (.ofNat n) :: l)
theorem bytesk_eq : ∀ (l : List UInt8) (c : List V → ER), bytesk l c = c (l.map ucellV)
  | [], c => rfl
  | b :: l, c => by rw [bytesk, fN_eq, bytesk_eq l]; rfl
/-- append: what is appended has these cells, so many elements. -/
def appTo (A : AW) (σ : Tr2 V) (d : Option Nat) (Ts : TypeId) (v : V) (cs2 : List V) (n2 : Nat) : ER := match elInfo P Ts with
  | some (e, es, nb, _) => match v with
    | .l0 => match n2 with
      | .zero => putO A σ d .l0
      | .succ n2 => orN (Nat.ble ((.succ n2) * nb) 140737488355328) (fN es fun es => fN e fun e => newB A (.op e es cs2) fun b A => putO A σ d (.l b 0 (.succ n2) (.succ n2)))
    | .l b o n c => orN (Nat.ble ((n + n2) * nb) 140737488355328) (orN (Nat.beq o 0) (match atB A b with
      | .cl T cs => orE (Nat.ble (n + n2) c)
          (orN (onesV cs2) (orN (Nat.ble (n * es + cs2.length) cs.length) (putk cs cs2 (n * es) fun cs => A.t.setk (.cl T cs) b fun t => fN (n + n2) fun n => putO ⟨t, A.n⟩ σ d (.l b 0 n c))))
          (takek cs (n * es) fun cs => orN (lenB cs (n * es)) (appk cs cs2 fun cs => fN es fun es => fN e fun e => newB A (.op e es cs) fun b A => fN (n + n2) fun n => putO A σ d (.l b 0 n n)))
      | .op T es' cs => orN (Nat.beq T e) (orN (Nat.beq es es') (orN (onesV cs2) (takek cs (n * es) fun cs => orN (lenB cs (n * es)) (appk cs cs2 fun cs => A.t.setk .dd b fun t => fN (n + n2) fun n => fN es fun es =>
          newB ⟨t, A.n⟩ (.op T es cs) fun b A => putO A σ d (.l b 0 n n)))))
      | _ => .no))
    | _ => .no
  | none => .no
def oApp (A : AW) (σ : Tr2 V) (d : Option Nat) (Ts Ts2 : TypeId) (x y : Operand) : ER := ex σ x fun v => ex σ y fun uu => match uu with
  | .l0 => orN (isSlT P Ts2) (appTo P A σ d Ts v [] 0)
  | .lz => orN (isSlT P Ts2) (appTo P A σ d Ts v [] 0)
  | .s l => orN (isStrT P Ts2) (match elInfo P Ts with
    | some (_, es, _, _) => orN (Nat.beq es 1) (bytesk l fun cs => fN l.length fun n => appTo P A σ d Ts v cs n)
    | none => .no)
  | .l b o n _ => orN (isSlT P Ts2) (match elInfo P Ts with
    | some (_, es, _, _) => cellsB (atB A b) fun cs => dropk cs o fun cs => takek cs (n * es) fun cs => orN (lenB cs (n * es)) (appTo P A σ d Ts v cs n)
    | none => .no)
  | _ => .no
/-- The bytes that these cells are. -/
def unbyte (l : List V) (c : List UInt8 → ER) : ER := match l with
  | [] => c []
  | v :: l => match v with
    | .i .u8 (.ofNat m) => orN (Nat.blt m 256) (unbyte l fun l => c (UInt8.ofNat m :: l))
    | _ => .no
def replk (z : List V) (n : Nat) (c : List V → ER) : ER := match n with
  | .zero => c []
  | .succ n => replk z n fun l => appk z l c
def oMake (A : AW) (σ : Tr2 V) (d : Nat) (Ts : TypeId) (x y : Operand) : ER := ex σ x fun v => ex σ y fun uu => toN v fun n => toN uu fun m => match elInfo P Ts with
  | some (e, es, nb, z) => orN (Nat.ble n m) (orN (Nat.ble (m * nb) 281474976710656) (mapk z fun z => replk z m fun l => fN e fun e => newB A (.cl e l) fun b A => putV A σ d (.l b 0 n m)))
  | none => .no
def oNone (A : AW) (σ : Tr2 V) (d : Nat) (Ts : TypeId) : ER := match elInfo P Ts with
  | some (e, _, _, _) => fN e fun e => newB A (.cl e []) fun b A => putV A σ d (.l b 0 0 0)
  | none => .no
def oCap (A : AW) (σ : Tr2 V) (d : Nat) (T : TypeId) (x : Operand) : ER := ex σ x fun v => orN (isSlT P T) (match v with
  | .l0 => putV A σ d (.i .i64 (.ofNat 0))
  | _ => .no)
def elSz (T : TypeId) : Bool := match elemT P T with
  | some e => (sizeT P e).isSome
  | none => false
/-- copy, of nothing. -/
def oCopy (A : AW) (σ : Tr2 V) (d : Option Nat) (T : TypeId) (x y : Operand) : ER := ex σ x fun v => ex σ y fun uu => orN (isSlT P T) (orN (elSz P T) (match uu with
  | .l0 => match v with
    | .l _ _ _ _ => putO A σ d (.i .i64 (.ofNat 0))
    | _ => .no
  | _ => .no))
def oSdata (A : AW) (σ : Tr2 V) (d : Nat) (x : Operand) : ER := ex σ x fun v => match v with
  | .l b o n _ => match atB A b with
    | .op _ _ _ => orN (Nat.blt 0 n) (putV A σ d (.p b o))
    | _ => .no
  | _ => .no
def isPtrTo (T : TypeId) (e : TypeId) : Bool := match P.underlying T with
  | some (.pointer e') => Nat.beq e' e
  | _ => false
def oUstr (A : AW) (σ : Tr2 V) (d : Nat) (T : TypeId) (x y : Operand) : ER := ex σ x fun v => ex σ y fun uu => toP v fun b o => match uu with
  | .i .i64 (.ofNat n) => match atB A b with
    | .op e es cs => orN (isPtrTo P T e) (orN (Nat.beq (P.cellsOf e) 1) (orN (Nat.blt 0 n) (orN (Nat.ble n 140737488355328) (dropk cs o fun cs => takek cs n fun cs => orN (lenB cs n) (unbyte cs fun l => A.t.setk .dd b fun t => putV ⟨t, A.n⟩ σ d (.s l))))))
    | _ => .no
  | _ => .no
def isUnsT (T : TypeId) : Bool := match P.underlying T with
  | some .unsafePointer => true
  | _ => false
def ptrTo (T : TypeId) (c : TypeId → ER) : ER := match P.underlying T with
  | some (.pointer e) => c e
  | _ => .no
def isBytesT (T : TypeId) : Bool := match P.underlying T with
  | some (.slice e) => match P.underlying e with
    | some (.int .u8) => (match P.info? e with
      | some i => Nat.beq i.size 1
      | none => false)
    | _ => false
  | _ => false
def oConvert (A : AW) (σ : Tr2 V) (d : Nat) (S T : TypeId) (x : Operand) : ER := ex σ x fun v => match v with
  | .p b o => orN (Nat.beq o 0) (match atB A b with
    | .cl T0 cs => orN (Nat.blt 0 cs.length) (orE (isUnsT P T) (ptrTo P S fun e => match sizeT P e with
        | some (_ + 1) => putV A σ d v
        | _ => .no) (orN (isUnsT P S) (ptrTo P T fun e => match sizeT P e with
        | some _ => orN (liesAt P P.depth T0 (cs.length / P.cellsOf T0) 0 e 1) (putV A σ d v)
        | none => .no)))
    | _ => .no)
  | .s l => orN (isStrT P S) (orN (isBytesT P T) (match elemT P T with
    | some e => bytesk l fun cs => fN e fun e => fN l.length fun n => newB A (.op e 1 cs) fun b A => putV A σ d (.l b 0 n n)
    | none => .no))
  | _ => .no
def oIndex (A : AW) (σ : Tr2 V) (d : Nat) (T : TypeId) (x i : Operand) : ER := ex σ x fun v => ex σ i fun uu => toAg v fun l => toN uu fun m => match arrT P T with
  | some (n, e) => orN (Nat.blt m n) (orN (scalarT P e) (match sizeT P e with
    | some s => orN (Nat.beq s 1) (nthk l m .no fun v => putV A σ d v)
    | none => .no))
  | none => .no
def oBound (A : AW) (σ : Tr2 V) (d : Nat) (f : FuncId) (fs : List Operand) : ER := exs σ fs fun l => putV A σ d (.fn f l [])
def oPanic (A : AW) (σ : Tr2 V) (x : Operand) : ER := ex σ x fun v => match v with
  | .ic T v => .pn (.ic T v) (some σ) A
  | _ => .no
def oRange (A : AW) (σ : Tr2 V) (d : Nat) (T : TypeId) (x : Operand) : ER := ex σ x fun v => toS v fun l => orN (isStrT P T) (newB A (.it l 0) fun b A => putV A σ d (.p b 0))
def oNext (A : AW) (σ : Tr2 V) (d : Nat) (x : Operand) : ER := ex σ x fun v => toP v fun b o => orN (Nat.beq o 0) (match atB A b with
  | .it l i => orE (Nat.ble l.length i) (putV A σ d (.tu [.b false]))
    (nthB l i .no fun c => fN c.toNat fun n => orN (Nat.blt n 128) (A.t.setk (.it l (.succ i)) b fun t => putV ⟨t, A.n⟩ σ d (.tu [.b true, .i .i64 (.ofNat i), .i .i32 (.ofNat n)])))
  | _ => .no)
def notIf (T : TypeId) : Bool := match P.underlying T with
  | some (.interface _) => false
  | some _ => true
  | none => false
def oAssert (A : AW) (σ : Tr2 V) (d : Nat) (T : TypeId) (x : Operand) : ER := ex σ x fun v => match v with
  | .ic T' v => orN (notIf P T) (orE (Nat.beq T' T) (putV A σ d (.tu [v, .b true])) (match zeroT P T with
    | some _ => putV A σ d (.tu [.u, .b false])
    | none => .no))
  | _ => .no
/-- What is no function of the program's text: its address is handed back; a byte is looked for; bytes are made. -/
inductive ExK where
  | same
  | find
  | make (e : TypeId)
def findk (l : List UInt8) (c : Nat) (i : Nat) (k : Option Nat → ER) : ER := match l with
  | [] => k none
  | b :: l => orE (Nat.beq b.toNat c) (fN i fun i => k (some i)) (findk l c (.succ i) k)
def oExt1 (A : AW) (σ : Tr2 V) (d : Nat) (k : ExK) (xs : List Operand) : ER := exs σ xs fun l => match k with
  | .same => (match l with
    | [v] => putV A σ d v
    | _ => .no)
  | .find => (match l with
    | [v, uu] => toS v fun s => toI uu fun k c => orN (eqK k .u8) (match c with
      | .ofNat c => orN (Nat.blt c 256) (findk s c 0 fun r => match r with
        | some i => putV A σ d (.i .i64 (.ofNat i))
        | none => putV A σ d (.i .i64 (.negSucc 0)))
      | _ => .no)
    | _ => .no)
  | .make e => (match l with
    | [.i .i64 (.ofNat n)] => orN (Nat.ble n 281474976710656) (replk [.u] n fun cs => newB A (.op e 1 cs) fun b A => putV A σ d (.l b 0 n n))
    | _ => .no)
def oRaw (E : FuncId → Option ExK) (A : AW) (σ : Tr2 V) (o : Oper) : ER := match o with
  | ⟨d, op, _, _, _, _⟩ => match op with
    | .call ⟨.builtin .append, ⟨[x, y]⟩, ⟨[Ts, Ts2]⟩⟩ => oApp P A σ d Ts Ts2 x y
    | .call ⟨.builtin .copy, ⟨[x, y]⟩, ⟨[T, _]⟩⟩ => oCopy P A σ d T x y
    | .panic x => oPanic A σ x
    | _ => match d with
      | none => .no
      | some d => match op with
        | .call ⟨.builtin .cap, ⟨[x]⟩, ⟨[T]⟩⟩ => oCap P A σ d T x
        | .call ⟨.builtin .unsafeSliceData, ⟨[x]⟩, _⟩ => oSdata A σ d x
        | .call ⟨.builtin .unsafeString, ⟨[x, y]⟩, ⟨[T, _]⟩⟩ => oUstr P A σ d T x y
        | .call ⟨.value (.func f), xs, _⟩ => (match E f with
          | some k => oExt1 A σ d k xs.toList
          | none => .no)
        | .buildSlice Ts n ⟨[]⟩ => orN (Nat.beq n 0) (oNone P A σ d Ts)
        | .makeSlice Ts x y => oMake P A σ d Ts x y
        | .convert S T x => oConvert P A σ d S T x
        | .index T x i => oIndex P A σ d T x i
        | .makeFunc (.func f) fs ⟨[]⟩ => oBound A σ d f fs.toList
        | .range T x => oRange P A σ d T x
        | .next x true => oNext A σ d x
        | .typeAssert x _ T true => oAssert P A σ d T x
        | _ => .no
end
end
end Go.Lir
