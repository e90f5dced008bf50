/- Evaluation: regions, code, calls (plain functions). -/
import Derived.Test.YthdkbdnbflkagaaGreatDoorEvE
namespace Go.Lir
set_option linter.unusedVariables false
noncomputable section
section
variable (P : Program) (E : FuncId → Option ExK) (X : FuncId → List V → AW → CR)
def evO (A : AW) (σ : Tr2 V) (o : LO) : ER := match o with
  | .mov d x => ex σ x fun v => putV A σ d v
  | .pick d c x y => oPick A σ d c x y
  | .un d op x => oUn A σ d op x
  | .bin d op T x y => oBin P A σ d op T x y
  | .nilc d x => oNilc A σ d x
  | .fld d x off => oFld A σ d x off
  | .load1 d x => oLoad1 A σ d x
  | .loadn d n x => oLoadn A σ d n x
  | .store1 x v => oStore1 A σ x v
  | .storen n x v => oStoren A σ n x v
  | .idx d es x i => oIdx A σ d es x i
  | .idxa d n es x i => oIdxa A σ d n es x i
  | .len d x => oLen A σ d x
  | .slen d x => oSlen A σ d x
  | .sidx d x i => oSidx A σ d x i
  | .ext d x i => oExt A σ d x i
  | .fldv d x i => oFldv A σ d x i
  | .fldn d x i n => oFldn A σ d x i n
  | .alloc d T z => oAlloc A σ d T z
  | .box d T x => oBox A σ d T x
  | .call d f xs => oCall X A σ d f xs
  | .callv d x xs => oCallv P X A σ d x xs
  | .build d z ps => oBuild A σ d z ps
  | .buildS d T n z ps => oBuildS A σ d T n z ps
  | .mkfn d f xs => oMkfn A σ d f xs
  | .sub d es x lo hi mx => oSub A σ d es x lo hi mx
  | .ssub d x lo hi => oSsub A σ d x lo hi
  | .mnx d m x y => oMnx A σ d m x y
  | .conv d k x => oConv A σ d k x
  | .mki d T x => ex σ x fun v => putV A σ d (.ic T v)
  | .raw o => oRaw P E A σ o
def thenE (r : ER) (k : Tr2 V → AW → ER) : ER := match r with
  | .nm σ A => k σ A
  | .rt σ A => .rt σ A
  | .ex id σ A => .ex id σ A
  | .pn v s A => .pn v s A
  | .no => .no
/-- One operation that may be skipped, and what comes behind. -/
def evG (g : GO) (k : Tr2 V → AW → ER) (σ : Tr2 V) (A : AW) : ER := match g with
  | ⟨none, o⟩ => thenE (evO P E X A σ o) k
  | ⟨some (s, b), o⟩ => match σ.get .u s with
    | .b b' => orE (xorB b' b) (thenE (evO P E X A σ o) k) (match o.dst with
      | some d => σ.setk .u d fun σ => k σ A
      | none => k σ A)
    | _ => .no
def evL (l : List GO) : Tr2 V → AW → ER :=
  List.rec (motive := fun _ => Tr2 V → AW → ER) .nm (fun g _ ih => evG P E X g ih) l
/-! ### A canonical order -/
def allIn (es X : List Nat) : Bool := es.all fun e => X.contains e
def pickI (p : Nat → Bool) : List Nat → Option Nat
  | [] => none
  | i :: l => bif p i then some i else pickI p l
def isQ (gs : List GO) (ms : List Nat) (i : Nat) : Bool := (gat gs i).o.quiet && (match (gat gs i).dst with
  | some d => !(gat gs i).uses.contains d && (List.range gs.length).all (fun j => Nat.beq j i || (!((gat gs j).dst == some d) && !((gat gs j).uses.contains d && (ms.getD i 0).testBit j)))
  | none => false) && !(List.range gs.length).all (fun j => Nat.beq j i || (ms.getD i 0).testBit j)
def canonGo (gs : List GO) (es : List (List Nat)) (ms : List Nat) (qs : List Bool) : Nat → List Nat → List CI → List CI
  | 0, _, acc => acc.reverse
  | n + 1, X, acc =>
    let rd := fun i => !X.contains i && allIn (es.getD i []) X
    match pickI (fun i => qs.getD i false && rd i) (List.range gs.length) with
    | some i => canonGo gs es ms qs n (i :: X) ((i, none) :: acc)
    | none => match pickI rd (List.range gs.length) with
      | some i =>
        let fl := (acc.filter fun c => c.2.isNone && !(ms.getD i 0).testBit c.1).map (·.1)
        canonGo gs es ms qs n (i :: X) ((i, bif fl.isEmpty then some none else some (some (fl.filter fun j => !(gat gs j).o.pureQ))) :: acc)
      | none => acc.reverse
def canonOf (gs : List GO) (es : List (List Nat)) : List CI := canonGo gs es (masks es) ((List.range gs.length).map (isQ gs (masks es))) gs.length [] []
mutual
/-- They are the same, and stand for one value. -/
def same (A : AW) : V → V → Bool
  | .i k n, .i k' n' => eqK k k' && eqI n n'
  | .b x, .b y => xorB x y
  | .s l, .s m => sameS l m
  | .p0, .p0 => true
  | .p b o, .p b' o' => Nat.beq b b' && Nat.beq o o' && (match atB A b with | .dd => false | _ => true)
  | .l0, .l0 => true
  | .l b o n c, .l b' o' n' c' => Nat.beq b b' && Nat.beq o o' && Nat.beq n n' && (match atB A b with | .dd => false | .op _ _ _ => true | _ => Nat.beq c c')
  | .ag l, .ag m => sames A l m
  | .n0, .n0 => true
  | .f0, .f0 => true
  | .ic T v, .ic T' v' => Nat.beq T T' && same A v v'
  | _, _ => false
def sames (A : AW) : List V → List V → Bool
  | [], [] => true
  | v :: l, uu :: m => same A v uu && sames A l m
  | _, _ => false
end
/-- What was read ahead would be read now. -/
def floats (gs : List GO) (σ : Tr2 V) (A : AW) (fl : List Nat) (c : ER) : ER := match fl with
  | [] => c
  | q :: fl => match (gat gs q).dst with
    | none => .no
    | some d => orN (gat gs q).o.quiet (match evL P E X [gat gs q] σ A with
      | .nm σ' A' => orN (same A' (σ.get .u d) (σ'.get .u d)) (floats gs σ A fl c)
      | _ => .no)
/-- It lays one block and reads none. -/
def isAl (g : GO) : Bool := match g.g with
  | some _ => false
  | none => match g.o with
  | .alloc _ _ _ => true
  | .buildS _ _ _ _ _ => true
  | .raw ⟨_, .makeSlice _ _ _, _, _, _, _⟩ => true
  | _ => false
/-- One operation; where a number is kept for its block, that one is taken. -/
def ev1 (rv : Option Nat) (gs : List GO) (i : Nat) (σ : Tr2 V) (A : AW) : ER := match rv with
  | none => evL P E X [gat gs i] σ A
  | some n0 => match isAl (gat gs i) with
    | false => evL P E X [gat gs i] σ A
    | true => fN (n0 + i) fun m => (match evL P E X [gat gs i] σ ⟨A.t, m⟩ with
      | .nm σ A' => .nm σ ⟨A'.t, A.n⟩
      | _ => .no)
def evD (rv : Option Nat) (gs : List GO) (l : List CI) (σ : Tr2 V) (A : AW) : ER := match l with
  | [] => .nm σ A
  | c :: l => match c with
    | ⟨i, some (some fl)⟩ => (match ev1 P E X rv gs i σ A with
      | .nm σ' A' => floats P E X gs σ A' fl (evD rv gs l σ' A')
      | .rt _ _ => .no
      | .ex _ _ _ => .no
      | .pn v _ A => .pn v none A
      | .no => .no)
    | ⟨i, _⟩ => thenE (ev1 P E X rv gs i σ A) (evD rv gs l)
/-! ### Regions of which the order is open -/
def clos (es : List (List Nat)) : Nat → List Nat → List Nat
  | 0, m => m
  | n + 1, m => clos es n (es.map (maskOf m))
def findU (gs : List GO) (es : List (List Nat)) : Option (Nat × Nat) :=
  let ms := clos es 3 (masks es)
  let fs := (List.range gs.length).filter fun i => !isQ gs (masks es) i
  (fs.flatMap fun a => (fs.filter fun b => Nat.blt a b && !(ms.getD b 0).testBit a && !(ms.getD a 0).testBit b).map fun b => (a, b)).head?
mutual
def eqv : V → V → Bool
  | .i k n, .i k' n' => eqK k k' && eqI n n'
  | .b x, .b y => xorB x y
  | .s l, .s m => sameS l m
  | .p0, .p0 => true
  | .p b o, .p b' o' => Nat.beq b b' && Nat.beq o o'
  | .l0, .l0 => true
  | .l b o n c, .l b' o' n' c' => Nat.beq b b' && Nat.beq o o' && Nat.beq n n' && Nat.beq c c'
  | .lz, .lz => true
  | .ag l, .ag m => eqvs l m
  | .tu l, .tu m => eqvs l m
  | .n0, .n0 => true
  | .f0, .f0 => true
  | .ic T v, .ic T' v' => Nat.beq T T' && eqv v v'
  | .fn f a c, .fn f' a' c' => Nat.beq f f' && eqvs a a' && eqvs c c'
  | .u, .u => true
  | _, _ => false
def eqvs : List V → List V → Bool
  | [], [] => true
  | v :: l, uu :: m => eqv v uu && eqvs l m
  | _, _ => false
end
def eqB : Bk → Bk → Bool
  | .dd, .dd => true
  | .cl T cs, .cl T' cs' => Nat.beq T T' && eqvs cs cs'
  | .op T es cs, .op T' es' cs' => Nat.beq T T' && Nat.beq es es' && eqvs cs cs'
  | .ro T cs, .ro T' cs' => Nat.beq T T' && eqvs cs cs'
  | .it s i, .it s' i' => sameS s s' && Nat.beq i i'
  | _, _ => false
def eqT {α : Type} (e : α → α → Bool) : Tr2 α → Tr2 α → Bool
  | .lf, .lf => true
  | .nd l v r, .nd l' v' r' => e v v' && eqT e l l' && eqT e r r'
  | _, _ => false
def mergeE (r r' : ER) : ER := match r, r' with
  | .nm σ A, .nm σ' A' => orN (Nat.beq A.n A'.n && eqT eqv σ σ' && eqT eqB A.t A'.t) (.nm σ A)
  | _, _ => .no
def evS (gs : List GO) (n0 : Nat) (σ : Tr2 V) (A : AW) : Nat → List (List Nat) → ER
  | 0, _ => .no
  | k + 1, es => match findU gs es with
    | none => orN (drawOk gs es (canonOf gs es)) (evD P E X (some n0) gs (canonOf gs es) σ A)
    | some (a, b) => orN (decide (a < es.length) && decide (b < es.length) && !(a == b)) (mergeE (evS gs n0 σ A k (addE es a b)) (evS gs n0 σ A k (addE es b a)))
def evW (gs : List GO) (es : List (List Nat)) (σ : Tr2 V) (A : AW) : ER := match findU gs es with
  | none => orN (drawOk gs es (canonOf gs es)) (evD P E X none gs (canonOf gs es) σ A)
  | some _ => fN (A.n + gs.length) fun n => evS P E X gs A.n σ ⟨A.t, n⟩ 5 es
def blockE (id : Nat) (r : ER) : ER := match r with
  | .ex id' σ A => orE (Nat.beq id' id) (.nm σ A) (.ex id' σ A)
  | .nm σ A => .nm σ A
  | .rt σ A => .rt σ A
  | .pn v s A => .pn v s A
  | .no => .no
def evC1 (ih : LC → Tr2 V → AW → ER) (c : LC) (σ : Tr2 V) (A : AW) : ER := match c with
  | .skip => .nm σ A
  | .ops l => evL P E X l σ A
  | .draw gs es => evW P E X gs es σ A
  | .seq a b => thenE (ih a σ A) (ih b)
  | .cond c a b => ex σ c fun v => (match v with
    | .b true => ih a σ A
    | .b false => ih b σ A
    | _ => .no)
  | .block id a => blockE id (ih a σ A)
  | .loop a => thenE (ih a σ A) (ih (.loop a))
  | .exit id => .ex id σ A
  | .ret => .rt σ A
  | .bad => .no
def evC (n : Nat) : LC → Tr2 V → AW → ER :=
  Nat.rec (motive := fun _ => LC → Tr2 V → AW → ER) (fun _ _ _ => .no) (fun _ ih => evC1 P E X ih) n
end
/-! ### Functions -/
inductive FC where
  | pl (n : Nat) (rs : List ResultVar) (c : LC)
  | df (n : Nat) (rs : List ResultVar) (c : LD)
/-- How a function comes to its end: returning; panicking, caught or not. -/
inductive Mo where
  | ret
  | pan (v : V) (caught : Bool)
inductive DR where
  | nm (ds : List (FuncId × List V)) (σ : Tr2 V) (A : AW)
  | rt (ds : List (FuncId × List V)) (σ : Tr2 V) (A : AW)
  | pn (ds : List (FuncId × List V)) (v : V) (σ : Option (Tr2 V)) (A : AW)
  | no
inductive RR where
  | nm (m : Mo) (σ : Tr2 V) (A : AW)
  | rt (m : Mo) (σ : Tr2 V) (A : AW)
  | no
section
variable (P : Program) (E : FuncId → Option ExK)
def orC (b : Bool) (e : CR) : CR := match b with
  | true => e
  | false => .no
def argT (d : Nat) (l : List V) (i : Nat) (t : Tr2 V) (c : Tr2 V → CR) : CR := match l with
  | [] => c t
  | v :: l => t.setk v i fun t => argT d l (.succ i) t c
def resL (A : AW) (σ : Tr2 V) (rs : List ResultVar) (c : List V → CR) : CR := match rs with
  | [] => c []
  | r :: rs => match r with
    | .tmp t => σ.getk .u t fun v => resL A σ rs fun l => c (v :: l)
    | .cell a T => σ.getk .u a fun p => (match p with
      | .p b o => (match atB A b with
        | .cl _ cs => (match scalarT P T with
          | true => (match cs[o]? with
            | some v => fV v fun v => resL A σ rs fun l => c (v :: l)
            | none => .no)
          | false => orC (aggT P T) (match sizeT P T with
            | some n => dropk cs o fun cs => takek cs n fun cs => orC (lenB cs n) (resL A σ rs fun l => c (.ag cs :: l))
            | none => .no))
        | _ => .no)
      | _ => .no)
def packL (l : List V) : V := match l with
  | [v] => v
  | l => .tu l
def resE (A : AW) (σ : Tr2 V) (rs : List ResultVar) (c : V → CR) : CR := resL P A σ rs fun l => (match l with
  | [v] => c v
  | l => c (.tu l))
def depT (n : Nat) : Tr2 V := bif Nat.blt n 15 then Tr2.mk0 .u 4 else bif Nat.blt n 63 then Tr2.mk0 .u 6 else bif Nat.blt n 255 then Tr2.mk0 .u 8 else Tr2.mk0 .u 10
def retE (rs : List ResultVar) (r : ER) : CR := match r with
  | .nm σ A => resE P A σ rs fun v => .rt v A
  | .rt σ A => resE P A σ rs fun v => .rt v A
  | .pn v _ A => .pn v A
  | .ex _ _ _ => .no
  | .no => .no
variable (X : FuncId → List V → AW → CR) (N : Nat) (Tb : FuncId → Option FC)
/-- Code that puts calls off. -/
def dOf (ds : List (FuncId × List V)) (r : ER) : DR := match r with
  | .nm σ A => .nm ds σ A
  | .rt σ A => .rt ds σ A
  | .pn v s A => .pn ds v s A
  | .ex _ _ _ => .no
  | .no => .no
def evLD (c : LD) (ds : List (FuncId × List V)) (σ : Tr2 V) (A : AW) : DR := match c with
  | .pl c => dOf ds (evC P E X N c σ A)
  | .seq a b => (match evLD a ds σ A with
    | .nm ds σ A => evLD b ds σ A
    | .rt ds σ A => .rt ds σ A
    | .pn ds v s A => .pn ds v s A
    | .no => .no)
  | .sp l1 (.dfr d x) l2 => (match evL P E X l1 σ A with
    | .nm σ A => (match exV σ x with
      | .fn f [] cap => (match d with
        | some d => dOf ((f, cap) :: ds) (σ.setk .u d fun σ => evL P E X l2 σ A)
        | none => dOf ((f, cap) :: ds) (evL P E X l2 σ A))
      | _ => .no)
    | .rt σ A => .no
    | .pn v s A => .pn ds v s A
    | .ex _ _ _ => .no
    | .no => .no)
  | .sp _ (.rcv _) _ => .no
def recE (m : Mo) (c : V → Mo → RR) : RR := match m with
  | .ret => c .n0 .ret
  | .pan v true => c .n0 (.pan v true)
  | .pan v false => c v (.pan v true)
def rOf (m : Mo) (r : ER) : RR := match r with
  | .nm σ A => .nm m σ A
  | .rt σ A => .rt m σ A
  | _ => .no
def recS (l2 : List GO) (d : Option Nat) (σ : Tr2 V) (A : AW) (v : V) (m : Mo) : RR := match d with
  | some d => rOf m (σ.setk v d fun σ => evL P E X l2 σ A)
  | none => rOf m (evL P E X l2 σ A)
/-- A deferred function's code: it may recover. -/
def evR (c : LD) (m : Mo) (σ : Tr2 V) (A : AW) : RR := match c with
  | .pl c => rOf m (evC P E X N c σ A)
  | .seq a b => (match evR a m σ A with
    | .nm m σ A => evR b m σ A
    | .rt m σ A => .rt m σ A
    | .no => .no)
  | .sp l1 (.rcv d) l2 => (match evL P E X l1 σ A with
    | .nm σ A => recE m (recS P E X l2 d σ A)
    | _ => .no)
  | .sp _ (.dfr _ _) _ => .no
def setE (m : Mo) (c : Mo → AW → CR) (A : AW) : CR := match m with
  | .ret => c .ret A
  | .pan v true => c .ret A
  | .pan v false => c (.pan v false) A
def callD (f : FuncId) (l : List V) (m : Mo) (A : AW) (c : Mo → AW → CR) : CR := match Tb f with
  | some (.df n rs code) => orC (goFunc P f) (orC (Nat.ble l.length n) (argT n l 0 (depT n) fun t => (match evR P E X N code m t A with
    | .nm m σ A => resE P A σ rs fun _ => setE m c A
    | .rt m σ A => resE P A σ rs fun _ => setE m c A
    | .no => .no)))
  | _ => .no
def leave (rs : List ResultVar) (σ : Option (Tr2 V)) (ds : List (FuncId × List V)) (m : Mo) (A : AW) : CR := match ds with
  | [] => (match m with
    | .ret => (match σ with
      | some σ => resE P A σ rs fun v => .rt v A
      | none => (match rs with
        | [] => .rt (.tu []) A
        | _ => .no))
    | .pan v false => .pn v A
    | .pan _ true => .no)
  | d :: ds => match d with
    | ⟨f, l⟩ => callD P E X N Tb f l m A fun m A => leave rs σ ds m A
def leaveD (rs : List ResultVar) (r : DR) : CR := match r with
  | .nm ds σ A => leave P E X N Tb rs (some σ) ds .ret A
  | .rt ds σ A => leave P E X N Tb rs (some σ) ds .ret A
  | .pn ds v s A => leave P E X N Tb rs s ds (.pan v false) A
  | .no => .no
def call1 (f : FuncId) (l : List V) (A : AW) : CR := match Tb f with
  | some (.pl n rs c) => orC (Nat.ble l.length n) (argT n l 0 (depT n) fun t => retE P rs (evC P E X N c t A))
  | some (.df n rs c) => orC (Nat.ble l.length n) (argT n l 0 (depT n) fun t => leaveD P E X N Tb rs (evLD P E X N c [] t A))
  | none => .no
end
def callE (P : Program) (E : FuncId → Option ExK) (N : Nat) (Tb : FuncId → Option FC) : Nat → FuncId → List V → AW → CR
  | 0, _, _, _ => .no
  | n + 1, f, l, A => call1 P E (callE P E N Tb n) N Tb f l A
end
end Go.Lir
