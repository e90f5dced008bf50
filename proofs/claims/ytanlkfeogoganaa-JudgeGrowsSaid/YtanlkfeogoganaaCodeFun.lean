/- The form of a module: plain functions. -/
import Derived.Test.YtanlkfeogoganaaModR
namespace Go.Lir
set_option linter.unusedVariables false
abbrev Flt := Int × Int
/-- The first fault. -/
def orF (a b : Flt) : Flt := if a.1 = 0 ∧ b.1 ≠ 0 then b else a
def mkF (c at' : Int) : Flt := if c = 0 then (0, 0) else (c, at')
theorem orF_assoc (a b c : Flt) : orF (orF a b) c = orF a (orF b c) := by
  unfold orF
  by_cases h1 : a.1 = 0 <;> by_cases h2 : b.1 = 0 <;> by_cases h3 : c.1 = 0 <;> simp [h1, h2, h3]
theorem orF_l {a b : Flt} (h : a.1 ≠ 0) : orF a b = a := by unfold orF; rw [if_neg (fun h' => h h'.1)]
theorem orF_r {a b : Flt} (h : b.1 = 0) : orF a b = a := by unfold orF; rw [if_neg (fun h' => h'.2 h)]
theorem orF_0 {b : Flt} (h : b.1 = 0 → b = (0, 0)) : orF (0, 0) b = b := by
  unfold orF
  by_cases hb : b.1 = 0
  · rw [h hb]; rfl
  · rw [if_pos ⟨rfl, hb⟩]
theorem mkF_0 (at' : Int) : mkF 0 at' = (0, 0) := rfl
theorem mkF_c {c at' : Int} (h : c ≠ 0) : mkF c at' = (c, at') := if_neg h
theorem mkF_fst (c at' : Int) : (mkF c at').1 = c := by unfold mkF; split <;> simp_all
theorem mkF_z (c at' : Int) : (mkF c at').1 = 0 → mkF c at' = (0, 0) := by rw [mkF_fst]; rintro rfl; rfl
/-- Two codes at one place: the first that is not 0. -/
def orC (a b : Int) : Int := if a ≠ 0 then a else b
theorem orF_mk {g : Flt} {a b at' : Int} : orF (orF g (mkF a at')) (mkF b at') = orF g (mkF (orC a b) at') := by
  rw [orF_assoc]
  congr 1
  unfold orC orF
  by_cases h : a = 0
  · subst h
    by_cases hb : b = 0
    · subst hb; rfl
    · simp [mkF, hb]
  · simp [mkF, h]

/-! which fields an instruction has -/
def fA (op : Int) : Bool := decide (op = 2 ∨ op = 4 ∨ op = 5 ∨ op = 6 ∨ op = 7 ∨ op = 8 ∨ op = 9 ∨ op = 10 ∨ op = 11 ∨ op = 13)
def fB (op : Int) : Bool := decide (op = 2 ∨ op = 7 ∨ op = 8 ∨ op = 9 ∨ op = 10)
def fC (op : Int) : Bool := decide (op = 10)
def fK (op : Int) : Bool := decide (op = 2 ∨ op = 6 ∨ op = 7 ∨ op = 14)
def fN (op : Int) : Bool := decide (op = 1)
def fG (op : Int) : Bool := decide (op = 14)
def fR (op : Int) : Bool := decide (op = 5 ∨ op = 14)
/-- A field that the kind has not is not 0. -/
def Ins.odd (x : Ins) : Prop := (fA x.op = false ∧ x.a ≠ 0) ∨ (fB x.op = false ∧ x.b ≠ 0) ∨ (fC x.op = false ∧ x.c ≠ 0) ∨ (fK x.op = false ∧ x.k ≠ 0) ∨ (fN x.op = false ∧ x.n ≠ 0) ∨ (fG x.op = false ∧ 0 < x.regs.length) ∨ (fR x.op = false ∧ 0 < x.args.length)
instance (x : Ins) : Decidable x.odd := by unfold Ins.odd; infer_instance
/-- What stands behind the form, kind by kind. -/
def insKind (n : Nat) (x : Ins) : Int :=
  if x.op = 2 then (if x.k < 1 ∨ 9 < x.k then 1 else 0)
  else if x.op = 5 then (if 8 < x.args.length then 2 else 0)
  else if x.op = 6 ∨ x.op = 7 then (if x.k < 0 ∨ 8 ≤ x.k then 1 else 0)
  else if x.op = 14 then (if x.k < 0 ∨ (n : Int) ≤ x.k then 1 else if 6 < x.regs.length ∨ 8 < x.args.length then 2 else 0)
  else 0
def insForm (n : Nat) (x : Ins) : Int := if x.op < 1 ∨ 14 < x.op then 3 else if x.odd then 4 else insKind n x
def toForm (n : Nat) (t : To) (is : Bool) : Int :=
  if is = false then (if t.block ≠ 0 ∨ 0 < t.regs.length ∨ 0 < t.args.length then 4 else 0)
  else if t.block < 0 ∨ (n : Int) ≤ t.block then 1 else if 16 < t.regs.length ∨ 8 < t.args.length then 2 else 0
def endForm (n : Nat) (e : Tail) : Int :=
  if e.op < 1 ∨ 3 < e.op then 3
  else if e.op ≠ 2 ∧ e.a ≠ 0 ∨ e.op ≠ 3 ∧ 0 < e.args.length then 4
  else if 8 < e.args.length then 2
  else orC (toForm n e.yes (decide (e.op ≠ 3))) (toForm n e.no (decide (e.op = 2)))
def tysCode (regs : Int) : List Ty → Int
  | [] => 0
  | t :: l => orC (t.fault regs) (tysCode regs l)
def listForm (l : List Ty) (regs : Int) : Int := if 8 < l.length then 2 else tysCode regs l
def atFunc (f : Nat) : Int := f * 10000 + 9999
def atBlock (f b : Nat) : Int := f * 10000 + b * 100 + 90
def atEnd (f b : Nat) : Int := f * 10000 + b * 100 + 91
def atIns (f b i : Nat) : Int := f * 10000 + b * 100 + i
/-- The instructions from the i-th on. -/
def codeFault (n f b : Nat) : Nat → List Ins → Flt
  | _, [] => (0, 0)
  | i, x :: l => orF (mkF (insForm n x) (atIns f b i)) (codeFault n f b (i + 1) l)
def blockHead (x : Fun) (b : Nat) (y : Block) : Int :=
  if y.regs < x.regs ∨ 16 < y.regs then 1
  else if listForm y.params y.regs ≠ 0 then listForm y.params y.regs
  else if b = 0 ∧ (y.regs ≠ x.regs ∨ y.params ≠ x.params) then 9
  else if 40 < y.code.length then 2 else 0
def blockFault (n f : Nat) (x : Fun) (b : Nat) (y : Block) : Flt := orF (mkF (blockHead x b y) (atBlock f b)) (orF (codeFault n f b 0 y.code) (mkF (endForm x.blocks.length y.fin) (atEnd f b)))
def blocksFault (n f : Nat) (x : Fun) : Nat → List Block → Flt
  | _, [] => (0, 0)
  | b, y :: l => orF (blockFault n f x b y) (blocksFault n f x (b + 1) l)
def funHead (f : Nat) (x : Fun) : Int :=
  if x.regs < 0 ∨ 6 < x.regs then 1
  else if listForm x.params x.regs ≠ 0 then listForm x.params x.regs
  else if listForm x.results x.regs ≠ 0 then listForm x.results x.regs
  else if x.blocks.length < 1 ∨ 12 < x.blocks.length then 2
  else if f = 0 ∧ (0 < x.regs ∨ 0 < x.params.length ∨ ∃ t ∈ x.results, t.kind ≠ 1) then 18 else 0
def funFault (n f : Nat) (x : Fun) : Flt := orF (mkF (funHead f x) (atFunc f)) (blocksFault n f x 0 x.blocks)
def funsFault (n : Nat) : Nat → List Fun → Flt
  | _, [] => (0, 0)
  | f, x :: l => orF (funFault n f x) (funsFault n (f + 1) l)
def Module.fault (m : Module) : Flt := orF (mkF (if m.funcs.length < 1 ∨ 8 < m.funcs.length then 2 else 0) (-1)) (funsFault m.funcs.length 0 m.funcs)
/-! has -/
def hasTab : List ByteArray := [⟨#[]⟩, ⟨#[110]⟩, ⟨#[97, 98, 107]⟩, ⟨#[]⟩, ⟨#[97]⟩, ⟨#[97, 114]⟩, ⟨#[97, 107]⟩, ⟨#[97, 98, 107]⟩, ⟨#[97, 98]⟩, ⟨#[97, 98]⟩, ⟨#[97, 98, 99]⟩, ⟨#[97]⟩, ⟨#[]⟩, ⟨#[97]⟩, ⟨#[107, 103, 114]⟩]
def hasF (op : Int) : ByteArray := if op < 1 ∨ 14 < op then ⟨#[]⟩ else hasTab.getD op.toNat ⟨#[]⟩
def withF (s : ByteArray) (c : Nat) : Bool := s.data.toList.any fun b => decide (b.toNat = c)
theorem op_cases {op : Int} (h1 : ¬ op < 1) (h2 : ¬ 14 < op) : op = 1 ∨ op = 2 ∨ op = 3 ∨ op = 4 ∨ op = 5 ∨ op = 6 ∨ op = 7 ∨ op = 8 ∨ op = 9 ∨ op = 10 ∨ op = 11 ∨ op = 12 ∨ op = 13 ∨ op = 14 := by omega
theorem with_all (op : Int) (h : ¬ (op < 1 ∨ 14 < op)) : withF (hasF op) 97 = fA op ∧ withF (hasF op) 98 = fB op ∧ withF (hasF op) 99 = fC op ∧ withF (hasF op) 107 = fK op ∧ withF (hasF op) 110 = fN op ∧ withF (hasF op) 103 = fG op ∧ withF (hasF op) 114 = fR op := by
  rcases op_cases (op := op) (by omega) (by omega) with rfl | rfl | rfl | rfl | rfl | rfl | rfl | rfl | rfl | rfl | rfl | rfl | rfl | rfl <;> decide
end Go.Lir
