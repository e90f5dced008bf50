/- Lemmas of the proof, part 3: what the functions of the program do (contracts), and what follows. -/
import Derived.Test.YtjecflbbcnocdaaGreatDoorZ2
import Derived.Lib.ParseIntB
import Derived.Lib.ItoaLen
import Derived.Lib.Strings
import Derived.Lib.LaidTab
import Derived.Laws.Concat
import Derived.Below
import Derived.Sort.Grow
import Derived.Deep.Draws
import Derived.Lib.Builder
import Derived.Lib.UnsafeStr
import Derived.Laws.Externs
import Derived.Lib.AppendStr
import Derived.Shelf.Strings.OnBuilder
import Derived.Shelf.Small.Strs
import Derived.Shelf.LaysM
import Derived.Shelf.Strconv.Itoa3
import Derived.Shelf.Strconv.ParseIntEmpty
import Derived.Shelf.Strconv.Clone
import Derived.Shelf.Strconv.SyntaxError
import Derived.Shelf.LaysC
import Derived.Shelf.Strconv.ToError
import Derived.Shelf.Strconv.Lower
import Derived.Shelf.Strconv.ParseUint10
import Derived.Shelf.Strconv.ParseUint10Empty
import Derived.Shelf.Strconv.ParseUint10Any
import Derived.Shelf.Strconv.ParseInt10
import Derived.Shelf.Strconv.RangeError
import Derived.Shelf.Strconv.ToErrorRange
import Derived.Shelf.Strconv.ParseUintEmpty
import Derived.Shelf.Strconv.ParseUint10b64
import Derived.Shelf.Strconv.ParseUint10b32
import Derived.Shelf.Strconv.ParseUint10b16
import Derived.Shelf.Strconv.ParseUint10b8
import Derived.Shelf.Strconv.ParseUint10At
import Derived.Shelf.Strconv.ParseInt10At64
import Derived.Shelf.Strconv.ParseInt10At32
import Derived.Shelf.Strconv.ParseInt10At16
import Derived.Shelf.Strconv.ParseInt10At8
import Derived.Shelf.Strconv.ParseInt10All
import Derived.Shelf.Strconv.ParseIntPublic10
import Derived.Shelf.Strings.Search1
import Derived.Test.YtjecflbbcnocdaaGreatDoorProg
import Derived.Lib.ItoaNum
namespace Go.Lir
set_option linter.unusedVariables false
abbrev Flt := Int × Int
/-- The first fault. -/
def orF (a b : Flt) : Flt := if a.1 = 0 ∧ b.1 ≠ 0 then b else a
def mkF (c at' : Int) : Flt := if c = 0 then (0, 0) else (c, at')
theorem Q3N (a b c : Flt) : orF (orF a b) c = orF a (orF b c) := by
  unfold orF
  by_cases h1 : a.1 = 0 <;> by_cases h2 : b.1 = 0 <;> by_cases h3 : c.1 = 0 <;> simp [h1, h2, h3]
theorem Q62 {a b : Flt} (h : a.1 ≠ 0) : orF a b = a := by unfold orF; rw [if_neg (fun h' => h h'.1)]
theorem Qn0 {a b : Flt} (h : b.1 = 0) : orF a b = a := by unfold orF; rw [if_neg (fun h' => h'.2 h)]
theorem Q2d {b : Flt} (h : b.1 = 0 → b = (0, 0)) : orF (0, 0) b = b := by
  unfold orF
  by_cases hb : b.1 = 0
  · rw [h hb]; rfl
  · rw [if_pos ⟨rfl, hb⟩]
theorem Q2e (at' : Int) : mkF 0 at' = (0, 0) := rfl
theorem Qat {c at' : Int} (h : c ≠ 0) : mkF c at' = (c, at') := if_neg h
theorem Q3p (c at' : Int) : (mkF c at').1 = c := by unfold mkF; split <;> simp_all
theorem Qiv (c at' : Int) : (mkF c at').1 = 0 → mkF c at' = (0, 0) := by rw [Q3p]; rintro rfl; rfl
theorem Qke {a b : Flt} (ha : a.1 = 0 → a = (0, 0)) (hb : b.1 = 0 → b = (0, 0)) : (orF a b).1 = 0 → orF a b = (0, 0) := by
  unfold orF
  split
  · exact hb
  · exact ha
/-- Two codes at one place: the first that is not 0. -/
def orC (a b : Int) : Int := if a ≠ 0 then a else b
theorem Q2W {g : Flt} {a b at' : Int} : orF (orF g (mkF a at')) (mkF b at') = orF g (mkF (orC a b) at') := by
  rw [Q3N]
  congr 1
  unfold orC orF
  by_cases h : a = 0
  · subst h
    by_cases hb : b = 0
    · subst hb; rfl
    · simp [mkF, hb]
  · simp [mkF, h]

/-! which fields an instruction has -/
def fA (op : Int) : Bool := decide (op = 2 ∨ op = 4 ∨ op = 5 ∨ op = 6 ∨ op = 7 ∨ op = 8 ∨ op = 9 ∨ op = 10 ∨ op = 11 ∨ op = 13)
def fB (op : Int) : Bool := decide (op = 2 ∨ op = 7 ∨ op = 8 ∨ op = 9 ∨ op = 10)
def fC (op : Int) : Bool := decide (op = 10)
def fK (op : Int) : Bool := decide (op = 2 ∨ op = 6 ∨ op = 7 ∨ op = 14)
def fN (op : Int) : Bool := decide (op = 1)
def fG (op : Int) : Bool := decide (op = 14)
def fR (op : Int) : Bool := decide (op = 5 ∨ op = 14)
/-- A field that the kind has not is not 0. -/
def Ins.odd (x : Ins) : Prop := (fA x.op = false ∧ x.a ≠ 0) ∨ (fB x.op = false ∧ x.b ≠ 0) ∨ (fC x.op = false ∧ x.c ≠ 0) ∨ (fK x.op = false ∧ x.k ≠ 0) ∨ (fN x.op = false ∧ x.n ≠ 0) ∨ (fG x.op = false ∧ 0 < x.regs.length) ∨ (fR x.op = false ∧ 0 < x.args.length)
instance (x : Ins) : Decidable x.odd := by unfold Ins.odd; infer_instance
/-- What stands behind the form, kind by kind. -/
def Q2h (n : Nat) (x : Ins) : Int :=
  if x.op = 2 then (if x.k < 1 ∨ 9 < x.k then 1 else 0)
  else if x.op = 5 then (if 8 < x.args.length then 2 else 0)
  else if x.op = 6 ∨ x.op = 7 then (if x.k < 0 ∨ 8 ≤ x.k then 1 else 0)
  else if x.op = 14 then (if x.k < 0 ∨ (n : Int) ≤ x.k then 1 else if 6 < x.regs.length ∨ 8 < x.args.length then 2 else 0)
  else 0
def Q31 (n : Nat) (x : Ins) : Int := if x.op < 1 ∨ 14 < x.op then 3 else if x.odd then 4 else Q2h n x
def Q2z (n : Nat) (t : To) (is : Bool) : Int :=
  if is = false then (if t.block ≠ 0 ∨ 0 < t.regs.length ∨ 0 < t.args.length then 4 else 0)
  else if t.block < 0 ∨ (n : Int) ≤ t.block then 1 else if 16 < t.regs.length ∨ 8 < t.args.length then 2 else 0
def Q3q (n : Nat) (e : Tail) : Int :=
  if e.op < 1 ∨ 3 < e.op then 3
  else if e.op ≠ 2 ∧ e.a ≠ 0 ∨ e.op ≠ 3 ∧ 0 < e.args.length then 4
  else if 8 < e.args.length then 2
  else orC (Q2z n e.yes (decide (e.op ≠ 3))) (Q2z n e.no (decide (e.op = 2)))
def Q3a (regs : Int) : List Ty → Int
  | [] => 0
  | t :: l => orC (t.fault regs) (Q3a regs l)
def Qu (l : List Ty) (regs : Int) : Int := if 8 < l.length then 2 else Q3a regs l
def Q39 (f : Nat) : Int := f * 10000 + 9999
def Q3f (f b : Nat) : Int := f * 10000 + b * 100 + 90
def Qg9 (f b : Nat) : Int := f * 10000 + b * 100 + 91
def Qec (f b i : Nat) : Int := f * 10000 + b * 100 + i
/-- The instructions from the i-th on. -/
def Q14 (n f b : Nat) : Nat → List Ins → Flt
  | _, [] => (0, 0)
  | i, x :: l => orF (mkF (Q31 n x) (Qec f b i)) (Q14 n f b (i + 1) l)
def Qt (x : Fun) (b : Nat) (y : Block) : Int :=
  if y.regs < x.regs ∨ 16 < y.regs then 1
  else if Qu y.params y.regs ≠ 0 then Qu y.params y.regs
  else if b = 0 ∧ (y.regs ≠ x.regs ∨ y.params ≠ x.params) then 9
  else if 40 < y.code.length then 2 else 0
def QL (n f : Nat) (x : Fun) (b : Nat) (y : Block) : Flt := orF (mkF (Qt x b y) (Q3f f b)) (orF (Q14 n f b 0 y.code) (mkF (Q3q x.blocks.length y.fin) (Qg9 f b)))
def QN (n f : Nat) (x : Fun) : Nat → List Block → Flt
  | _, [] => (0, 0)
  | b, y :: l => orF (QL n f x b y) (QN n f x (b + 1) l)
def Qz (f : Nat) (x : Fun) : Int :=
  if x.regs < 0 ∨ 6 < x.regs then 1
  else if Qu x.params x.regs ≠ 0 then Qu x.params x.regs
  else if Qu x.results x.regs ≠ 0 then Qu x.results x.regs
  else if x.blocks.length < 1 ∨ 12 < x.blocks.length then 2
  else if f = 0 ∧ (0 < x.regs ∨ 0 < x.params.length ∨ ∃ t ∈ x.results, t.kind ≠ 1) then 18 else 0
def Q24 (n f : Nat) (x : Fun) : Flt := orF (mkF (Qz f x) (Q39 f)) (QN n f x 0 x.blocks)
def Q1A (n : Nat) : Nat → List Fun → Flt
  | _, [] => (0, 0)
  | f, x :: l => orF (Q24 n f x) (Q1A n (f + 1) l)
def Module.fault (m : Module) : Flt := orF (mkF (if m.funcs.length < 1 ∨ 8 < m.funcs.length then 2 else 0) (-1)) (Q1A m.funcs.length 0 m.funcs)
theorem Qa0 {n f b : Nat} : ∀ {l : List Ins} {i : Nat}, (Q14 n f b i l).1 = 0 → Q14 n f b i l = (0, 0)
  | [], _ => fun _ => rfl
  | _ :: _, _ => Qke (Qiv _ _) Qa0
theorem Qcj {n f : Nat} {x : Fun} {b : Nat} {y : Block} : (QL n f x b y).1 = 0 → QL n f x b y = (0, 0) := Qke (Qiv _ _) (Qke Qa0 (Qiv _ _))
theorem Q34 {n f : Nat} {x : Fun} : ∀ {l : List Block} {b : Nat}, (QN n f x b l).1 = 0 → QN n f x b l = (0, 0)
  | [], _ => fun _ => rfl
  | _ :: _, _ => Qke Qcj Q34
theorem Qk {n : Nat} : ∀ {l : List Fun} {f : Nat}, (Q1A n f l).1 = 0 → Q1A n f l = (0, 0)
  | [], _ => fun _ => rfl
  | _ :: _, _ => Qke (Qke (Qiv _ _) Q34) Qk
theorem Module.fault_z {m : Module} : m.fault.1 = 0 → m.fault = (0, 0) := Qke (Qiv _ _) Qk

theorem Q1H {n f b : Nat} {x : Fun} {y : Block} {c : Int} (h : Qt x b y = c) (hc : c ≠ 0) : QL n f x b y = (c, Q3f f b) := by
  unfold QL; rw [h, Q62 (by rw [Q3p]; exact hc), Qat hc]
theorem QlG {n f b : Nat} {x : Fun} {y : Block} {F : Flt} (h : Qt x b y = 0) (hc : Q14 n f b 0 y.code = F) (hF : F.1 ≠ 0) : QL n f x b y = F := by
  unfold QL; rw [h, Q2e, hc, Q62 hF, Q2d (fun h => absurd h hF)]
theorem bf_end {n f b : Nat} {x : Fun} {y : Block} (h : Qt x b y = 0) (hc : Q14 n f b 0 y.code = (0, 0)) : QL n f x b y = mkF (Q3q x.blocks.length y.fin) (Qg9 f b) := by
  unfold QL; rw [h, Q2e, hc, Q2d (Qiv _ _), Q2d (Qiv _ _)]
theorem Qg7 {n f b i : Nat} {x : Ins} {l : List Ins} (h : Q31 n x = 0) : Q14 n f b i (x :: l) = Q14 n f b (i + 1) l := by
  rw [Q14, h, Q2e, Q2d Qa0]
theorem Q4o {n f b i : Nat} {x : Ins} {l : List Ins} (h : Q31 n x ≠ 0) : Q14 n f b i (x :: l) = (Q31 n x, Qec f b i) := by
  rw [Q14, Q62 (by rw [Q3p]; exact h), Qat h]
theorem QV {n f : Nat} {x : Fun} {c : Int} (h : Qz f x = c) (hc : c ≠ 0) : Q24 n f x = (c, Q39 f) := by
  unfold Q24; rw [h, Q62 (by rw [Q3p]; exact hc), Qat hc]
theorem QdX {n f : Nat} {x : Fun} (h : Qz f x = 0) : Q24 n f x = QN n f x 0 x.blocks := by
  unfold Q24; rw [h, Q2e, Q2d Q34]
theorem QcB {n f b : Nat} {x : Fun} {y : Block} {l : List Block} (h : (QL n f x b y).1 = 0) : QN n f x b (y :: l) = QN n f x (b + 1) l := by
  rw [QN, Qcj h, Q2d Q34]
theorem Q5e {n f b : Nat} {x : Fun} {y : Block} {l : List Block} (h : (QL n f x b y).1 ≠ 0) : QN n f x b (y :: l) = QL n f x b y := by
  rw [QN, Q62 h]
theorem Qn7 {n f : Nat} {x : Fun} : (Q24 n f x).1 = 0 → Q24 n f x = (0, 0) := Qke (Qiv _ _) Q34
theorem QfS {n f : Nat} {x : Fun} {l : List Fun} (h : (Q24 n f x).1 = 0) : Q1A n f (x :: l) = Q1A n (f + 1) l := by
  rw [Q1A, Qn7 h, Q2d Qk]
theorem Qg {n f : Nat} {x : Fun} {l : List Fun} (h : (Q24 n f x).1 ≠ 0) : Q1A n f (x :: l) = Q24 n f x := by
  rw [Q1A, Q62 h]

/-! has -/
def hasTab : List ByteArray := [⟨#[]⟩, ⟨#[110]⟩, ⟨#[97, 98, 107]⟩, ⟨#[]⟩, ⟨#[97]⟩, ⟨#[97, 114]⟩, ⟨#[97, 107]⟩, ⟨#[97, 98, 107]⟩, ⟨#[97, 98]⟩, ⟨#[97, 98]⟩, ⟨#[97, 98, 99]⟩, ⟨#[97]⟩, ⟨#[]⟩, ⟨#[97]⟩, ⟨#[107, 103, 114]⟩]
def hasF (op : Int) : ByteArray := if op < 1 ∨ 14 < op then ⟨#[]⟩ else hasTab.getD op.toNat ⟨#[]⟩
def Q1q (s : ByteArray) (c : Nat) : Bool := s.data.toList.any fun b => decide (b.toNat = c)
theorem op_cases {op : Int} (h1 : ¬ op < 1) (h2 : ¬ 14 < op) : op = 1 ∨ op = 2 ∨ op = 3 ∨ op = 4 ∨ op = 5 ∨ op = 6 ∨ op = 7 ∨ op = 8 ∨ op = 9 ∨ op = 10 ∨ op = 11 ∨ op = 12 ∨ op = 13 ∨ op = 14 := by omega
theorem with_all (op : Int) (h : ¬ (op < 1 ∨ 14 < op)) : Q1q (hasF op) 97 = fA op ∧ Q1q (hasF op) 98 = fB op ∧ Q1q (hasF op) 99 = fC op ∧ Q1q (hasF op) 107 = fK op ∧ Q1q (hasF op) 110 = fN op ∧ Q1q (hasF op) 103 = fG op ∧ Q1q (hasF op) 114 = fR op := by
  rcases op_cases (op := op) (by omega) (by omega) with rfl | rfl | rfl | rfl | rfl | rfl | rfl | rfl | rfl | rfl | rfl | rfl | rfl | rfl <;> decide
end Go.Lir
namespace Go.Lir
set_option linter.unusedVariables false
def Q3e (c : UInt8) : Bool := decide (97 ≤ c.toNat ∧ c.toNat ≤ 122)
def Q17 (c : UInt8) : Bool := decide (48 ≤ c.toNat ∧ c.toNat ≤ 57)
def Qav (c : UInt8) : Bool := decide (c ∈ [(40 : UInt8), 41, 123, 125, 60, 62, 44, 59])
/-- A number's text, read. -/
def QdP (t : List UInt8) : Option Int := match Lib.parseIntB 64 t with
  | .ok n => if Lib.itoa n = t then some n else none
  | _ => none
abbrev TokR := Except Int (List UInt8 × Option Int)
/-- 8: a number that is none. -/
def numT (t : List UInt8) : TokR := match QdP t with
  | some n => .ok (t, some n)
  | none => .error 8
/-- The token that stands at the beginning: its text, its number; 6: none. -/
def tok1 : List UInt8 → TokR
  | [] => .error 6
  | c :: r =>
    if Q3e c = true then .ok ((c :: r).takeWhile Q3e, none)
    else if Q17 c = true then numT ((c :: r).takeWhile Q17)
    else if c = 45 then match r with
      | [] => .error 6
      | d :: r' => if d = 62 then .ok ([45, 62], none) else if Q17 d = true then numT (45 :: (d :: r').takeWhile Q17) else .error 6
    else if Qav c = true then .ok ([c], none) else .error 6
theorem Q3W {c : UInt8} {r : List UInt8} (h : Q3e c = true) : tok1 (c :: r) = .ok ((c :: r).takeWhile Q3e, none) := by
  rw [tok1.eq_def]; dsimp only; rw [if_pos h]
theorem Q2E {c : UInt8} {r : List UInt8} (h0 : ¬ Q3e c = true) (h : Q17 c = true) : tok1 (c :: r) = numT ((c :: r).takeWhile Q17) := by
  rw [tok1.eq_def]; dsimp only; rw [if_neg h0, if_pos h]
theorem QcY {r : List UInt8} : tok1 (45 :: 62 :: r) = .ok ([45, 62], none) := by
  rw [tok1.eq_def]; dsimp only; rw [if_neg (by decide), if_neg (by decide), if_pos rfl, if_pos rfl]
theorem Q3V {d : UInt8} {r : List UInt8} (h0 : ¬ d = 62) (h : Q17 d = true) : tok1 (45 :: d :: r) = numT (45 :: (d :: r).takeWhile Q17) := by
  rw [tok1.eq_def]; dsimp only; rw [if_neg (by decide), if_neg (by decide), if_pos rfl, if_neg h0, if_pos h]
theorem tok1_min {d : UInt8} {r : List UInt8} (h0 : ¬ d = 62) (h : ¬ Q17 d = true) : tok1 (45 :: d :: r) = .error 6 := by
  rw [tok1.eq_def]; dsimp only; rw [if_neg (by decide), if_neg (by decide), if_pos rfl, if_neg h0, if_neg h]
theorem tok1_one : tok1 [45] = .error 6 := by
  rw [tok1.eq_def]; dsimp only; rw [if_neg (by decide), if_neg (by decide), if_pos rfl]
theorem QcX {c : UInt8} {r : List UInt8} (h0 : ¬ Q3e c = true) (h1 : ¬ Q17 c = true) (h2 : ¬ c = 45) (h : Qav c = true) : tok1 (c :: r) = .ok ([c], none) := by
  rw [tok1.eq_def]; dsimp only; rw [if_neg h0, if_neg h1, if_neg h2, if_pos h]
theorem Qme {c : UInt8} {r : List UInt8} (h0 : ¬ Q3e c = true) (h1 : ¬ Q17 c = true) (h2 : ¬ c = 45) (h : ¬ Qav c = true) : tok1 (c :: r) = .error 6 := by
  rw [tok1.eq_def]; dsimp only; rw [if_neg h0, if_neg h1, if_neg h2, if_neg h]
/-- What stands between tokens, left away; true: within a remark. -/
def skip : Bool → List UInt8 → List UInt8
  | _, [] => []
  | true, c :: r => if c = 10 then skip false r else skip true r
  | false, c :: r => if c = 10 ∨ c = 32 ∨ c = 9 ∨ c = 13 then skip false r else if c = 35 then skip true r else c :: r
structure Tok where
  at_ : Nat
  text : List UInt8
  num : Option Int
def Q1Z (n : Nat) : Nat → List UInt8 → List Tok → Except Flt (List Tok)
  | 0, _, acc => .ok acc
  | k + 1, l, acc => match l with
    | [] => .ok acc
    | c :: r => match tok1 (c :: r) with
      | .error e => .error (e, (n : Int) - (c :: r).length)
      | .ok (t, m) => Q1Z n k (skip false ((c :: r).drop t.length)) (acc ++ [⟨n - (c :: r).length, t, m⟩])
/-- Scan -/
def scan (s : List UInt8) : Except Flt (List Tok) := if 40000 < s.length then .error (2, 40000) else Q1Z s.length (s.length + 1) (skip false s) []
theorem Q2F : ∀ (b : Bool) (l : List UInt8), (skip b l).length ≤ l.length
  | _, [] => by cases ‹Bool› <;> simp [skip]
  | true, c :: r => by
    have h1 := Q2F true r
    have h2 := Q2F false r
    rw [skip]; split <;> simp only [List.length_cons] <;> omega
  | false, c :: r => by
    have h1 := Q2F true r
    have h2 := Q2F false r
    rw [skip]; split
    · simp only [List.length_cons]; omega
    · split <;> simp only [List.length_cons] <;> omega
theorem Q7g {l : List UInt8} {t : List UInt8} {m : Option Int} (h : tok1 l = .ok (t, m)) : 0 < t.length ∧ t.length ≤ l.length := by
  have hn : ∀ {x : List UInt8} {t : List UInt8} {m : Option Int}, numT x = .ok (t, m) → t = x := by
    intro x t m h
    unfold numT at h
    split at h
    · cases h; rfl
    · cases h
  have hw : ∀ (p : UInt8 → Bool) (x : List UInt8), (x.takeWhile p).length ≤ x.length := fun p x => (List.takeWhile_prefix p).length_le
  match l, h with
  | c :: r, h =>
    rw [tok1.eq_def] at h
    dsimp only at h
    split at h
    · rename_i hc
      cases h
      exact ⟨by rw [List.takeWhile_cons, if_pos hc]; simp, hw _ _⟩
    · split at h
      · rename_i hc
        have := hn h; subst this
        exact ⟨by rw [List.takeWhile_cons, if_pos hc]; simp, hw _ _⟩
      · split at h
        · split at h
          · cases h
          · rename_i d r'
            split at h
            · cases h; simp
            · split at h
              · have := hn h; subst this
                have := hw Q17 (d :: r')
                simp only [List.length_cons] at this ⊢
                omega
              · cases h
        · split at h
          · cases h; simp
          · cases h
theorem Q1W {p : UInt8 → Bool} : ∀ {l : List UInt8} {c : UInt8} {r : List UInt8}, (∀ x ∈ l, p x = true) → p c = false → (l ++ c :: r).takeWhile p = l
  | [], c, r, _, hc => by rw [List.nil_append, List.takeWhile_cons, hc]; rfl
  | x :: l, c, r, h, hc => by
    rw [List.cons_append, List.takeWhile_cons, if_pos (h x (List.mem_cons_self ..)), Q1W (fun y hy => h y (List.mem_cons_of_mem _ hy)) hc]
theorem Q3z {p : UInt8 → Bool} : ∀ {l : List UInt8}, ∀ x ∈ l.takeWhile p, p x = true
  | [], x, h => by simp at h
  | y :: l, x, h => by
    rw [List.takeWhile_cons] at h
    split at h
    · rename_i hy
      rcases List.mem_cons.1 h with rfl | h
      · exact hy
      · exact Q3z x h
    · simp at h
/-- A token's text is that token, if a blank stands behind it. -/
theorem QmP {l : List UInt8} {t : List UInt8} {m : Option Int} (h : tok1 l = .ok (t, m)) (r2 : List UInt8) : tok1 (t ++ 32 :: r2) = .ok (t, m) := by
  have hd32 : Q17 32 = false := by decide
  have hl32 : Q3e 32 = false := by decide
  have hn : ∀ {x : List UInt8} {t : List UInt8} {m : Option Int}, numT x = .ok (t, m) → t = x := by
    intro x t m h
    unfold numT at h
    split at h
    · cases h; rfl
    · cases h
  match l, h with
  | c :: r, h =>
    rw [tok1.eq_def] at h
    dsimp only at h
    split at h
    · rename_i hc
      cases h
      rw [List.takeWhile_cons, if_pos hc, List.cons_append, Q3W hc, ← List.cons_append, Q1W _ hl32]
      intro x hx
      rcases List.mem_cons.1 hx with rfl | hx
      · exact hc
      · exact Q3z x hx
    · rename_i hc0
      split at h
      · rename_i hc
        have h9 := hn h; subst h9
        have e : (c :: r).takeWhile Q17 = c :: r.takeWhile Q17 := by rw [List.takeWhile_cons, if_pos hc]
        have e2 : ((c :: r).takeWhile Q17 ++ 32 :: r2).takeWhile Q17 = (c :: r).takeWhile Q17 := Q1W Q3z hd32
        rw [e] at h e2 ⊢
        rw [List.cons_append] at e2 ⊢
        rw [Q2E hc0 hc, e2]
        exact h
      · rename_i hc1
        split at h
        · rename_i hc2
          subst hc2
          split at h
          · cases h
          · rename_i d r'
            split at h
            · rename_i hd
              cases h
              rfl
            · rename_i hd0
              split at h
              · rename_i hd
                have h9 := hn h; subst h9
                have e : (d :: r').takeWhile Q17 = d :: r'.takeWhile Q17 := by rw [List.takeWhile_cons, if_pos hd]
                have e2 : ((d :: r').takeWhile Q17 ++ 32 :: r2).takeWhile Q17 = (d :: r').takeWhile Q17 := Q1W Q3z hd32
                rw [e] at h e2 ⊢
                rw [List.cons_append] at e2
                rw [List.cons_append, List.cons_append, Q3V hd0 hd, e2]
                exact h
              · cases h
        · rename_i hc2
          split at h
          · rename_i hc3
            cases h
            rw [List.cons_append, List.nil_append, QcX hc0 hc1 hc2 hc3]
          · cases h
/-- A token begins with no blank. -/
theorem Qnu {l : List UInt8} {t : List UInt8} {m : Option Int} (h : tok1 l = .ok (t, m)) (r2 : List UInt8) : skip false (t ++ r2) = t ++ r2 := by
  have hlen := Q7g h
  have h2 := QmP h []
  match t, hlen, h2 with
  | c :: t', _, h2 =>
    rw [List.cons_append] at h2 ⊢
    have hc : ¬ (c = 10 ∨ c = 32 ∨ c = 9 ∨ c = 13 ∨ c = 35) := by
      have hno : ∀ c : UInt8, c = 10 ∨ c = 32 ∨ c = 9 ∨ c = 13 ∨ c = 35 → Q3e c = false ∧ Q17 c = false ∧ c ≠ 45 ∧ Qav c = false := by
        rintro c (rfl | rfl | rfl | rfl | rfl) <;> decide
      intro hc
      obtain ⟨h3, h4, h5, h6⟩ := hno c hc
      rw [Qme (by rw [h3]; decide) (by rw [h4]; decide) h5 (by rw [h6]; decide)] at h2
      cases h2
    rw [skip, if_neg (fun h => hc (by rcases h with h | h | h | h <;> simp [h])), if_neg (fun h => hc (by simp [h]))]
/-- The same but for the place. -/
def Tok.like (a b : Tok) : Prop := a.text = b.text ∧ a.num = b.num
end Go.Lir
namespace Go.Lir
section
variable {c : UInt8} {r l : List UInt8} {rem : Bool} {src : List UInt8} {i at0 : Nat}
theorem Qmf : skip rem [] = [] := by cases rem <;> rfl
theorem Qnz (h : c.toNat = 10) : skip rem (c :: r) = skip false r := by
  obtain rfl : c = 10 := UInt8.toNat_inj.1 h
  cases rem
  · rw [skip, if_pos (.inl rfl)]
  · rw [skip, if_pos rfl]
theorem skip_rem (h : c.toNat ≠ 10) : skip true (c :: r) = skip true r := by
  rw [skip, if_neg (by rintro rfl; exact h rfl)]
theorem skip_bl (h : c.toNat = 32 ∨ c.toNat = 9 ∨ c.toNat = 13) : skip false (c :: r) = skip false r := by
  rw [skip, if_pos (by rcases h with h | h | h; exact .inr (.inl (UInt8.toNat_inj.1 h)); exact .inr (.inr (.inl (UInt8.toNat_inj.1 h))); exact .inr (.inr (.inr (UInt8.toNat_inj.1 h))))]
theorem QnA (h : c.toNat = 35) : skip false (c :: r) = skip true r := by
  obtain rfl : c = 35 := UInt8.toNat_inj.1 h
  rw [skip, if_neg (by decide), if_pos rfl]
theorem Qny (h0 : c.toNat ≠ 10) (h1 : c.toNat ≠ 32) (h2 : c.toNat ≠ 9) (h3 : c.toNat ≠ 13) (h4 : c.toNat ≠ 35) : skip false (c :: r) = c :: r := by
  rw [skip, if_neg, if_neg (fun h : c = 35 => h4 (by rw [h]; rfl))]
  rintro (h | h | h | h) <;> subst h
  · exact h0 rfl
  · exact h1 rfl
  · exact h2 rfl
  · exact h3 rfl
theorem Qa7 {p : UInt8 → Bool} : ∀ {l : List UInt8}, (∀ x ∈ l, p x = true) → l.takeWhile p = l
  | [], _ => rfl
  | x :: l, h => by rw [List.takeWhile_cons, if_pos (h x (List.mem_cons_self ..)), Qa7 fun y hy => h y (List.mem_cons_of_mem _ hy)]
/-- So many that pass. -/
theorem Qnm {p : UInt8 → Bool} {k : Nat} (h : ∀ x ∈ (src.drop at0).take k, p x = true) (hk : at0 + k ≤ src.length) (hs : ∀ x, src[at0 + k]? = some x → p x = false) : (src.take (at0 + k)).drop at0 = (src.drop at0).takeWhile p ∧ k = ((src.drop at0).takeWhile p).length := by
  have e : (src.take (at0 + k)).drop at0 = (src.drop at0).take k := by rw [List.drop_take]; congr 1; omega
  have hlen : ((src.drop at0).take k).length = k := by rw [List.length_take, List.length_drop]; omega
  have e2 : (src.drop at0).takeWhile p = (src.drop at0).take k := by
    obtain ⟨A, hA⟩ : ∃ A, (src.drop at0).take k = A := ⟨_, rfl⟩
    have e3 : src.drop at0 = A ++ src.drop (at0 + k) := by rw [← hA, ← List.drop_drop, List.take_append_drop]
    rw [hA] at h ⊢
    rw [e3]
    rcases Nat.lt_or_ge (at0 + k) src.length with h2 | h2
    · obtain ⟨x, hx⟩ : ∃ x, src[at0 + k]? = some x := ⟨_, List.getElem?_eq_getElem h2⟩
      rw [Q6 hx, Q1W h (hs x hx)]
    · rw [List.drop_of_length_le h2, List.append_nil]
      exact Qa7 h
  rw [e, e2, hlen]
  exact ⟨rfl, rfl⟩
theorem QmN {p : UInt8 → Bool} {k : Nat} {x : UInt8} (h : ∀ x ∈ (src.drop at0).take k, p x = true) (hx : src[at0 + k]? = some x) (hp : p x = true) : ∀ x ∈ (src.drop at0).take (k + 1), p x = true :=
  Qj0 h (by rw [List.getElem?_drop]; exact hx) hp
end
end Go.Lir
namespace Go.Lir
def tokR : Rep Tok where
  es := 4
  pos := by decide
  R := fun _ _ cs t => cs = [.int .i64 t.at_, .string ⟨t.text.toArray⟩, .bool t.num.isSome, .int .i64 (t.num.getD 0)]
  len := by rintro _ _ _ _ rfl; rfl
  one := by
    rintro _ _ _ t rfl u hu
    simp at hu
    rcases hu with rfl | rfl | rfl | rfl <;> rfl
  turn := fun h _ => h
theorem Q1O {c : Cx} {cs : List Value} {t : Tok} (h : tokR.at c cs t) : cs = [.int .i64 t.at_, .string ⟨t.text.toArray⟩, .bool t.num.isSome, .int .i64 (t.num.getD 0)] := h
section
variable {src t : List UInt8} {m : Option Int} {e : Int} {k i n : Nat} {out : List Tok}
theorem Qa9 (h : 40000 < src.length) : scan src = .error (2, 40000) := by unfold scan; rw [if_pos h]
theorem scan_few (h : ¬ 40000 < src.length) (hi : src.drop i = skip false src) : scan src = Q1Z src.length (src.length + 1) (src.drop i) [] := by unfold scan; rw [if_neg h, hi]
theorem scanL_ok (hi : i < src.length) (h : tok1 (src.drop i) = .ok (t, m)) : Q1Z src.length (k + 1) (src.drop i) out = Q1Z src.length k (skip false (src.drop (i + t.length))) (out ++ [⟨i, t, m⟩]) := by
  obtain ⟨c, hc⟩ : ∃ x, src[i]? = some x := ⟨_, List.getElem?_eq_getElem hi⟩
  have hd := Q6 hc
  rw [← List.drop_drop]
  have hl : src.length - (src.drop i).length = i := by rw [List.length_drop]; omega
  revert h hl
  rw [hd]
  intro h hl
  rw [Q1Z, h]
  dsimp only
  rw [hl]
theorem Qk3 (hi : i < src.length) (h : tok1 (src.drop i) = .error e) : Q1Z src.length (k + 1) (src.drop i) out = .error (e, (i : Int)) := by
  obtain ⟨c, hc⟩ : ∃ x, src[i]? = some x := ⟨_, List.getElem?_eq_getElem hi⟩
  have hd := Q6 hc
  have hl : (src.length : Int) - (src.drop i).length = i := by rw [List.length_drop]; omega
  revert h hl
  rw [hd]
  intro h hl
  rw [Q1Z, h]
  dsimp only
  rw [hl]
theorem QnG (hi : src.length ≤ i) : Q1Z src.length k (src.drop i) out = .ok out := by
  rw [List.drop_of_length_le hi]; cases k <;> rfl
theorem QnE {i2 : Nat} (hd : scan src = Q1Z src.length (k + 1) (src.drop i) out) (hi : i < src.length) (h : tok1 (src.drop i) = .ok (t, m)) (h2 : src.drop i2 = skip false (src.drop (i + t.length))) : scan src = Q1Z src.length k (src.drop i2) (out ++ [⟨i, t, m⟩]) := by
  rw [hd, scanL_ok hi h, h2]
theorem tok1_fit (hi : i < src.length) (h : tok1 (src.drop i) = .ok (t, m)) : 0 < t.length ∧ i + t.length ≤ src.length := by
  have := Q7g h
  rw [List.length_drop] at this
  omega
end
end Go.Lir
namespace Go.Lir
theorem tok1_err {l : List UInt8} {e : Int} (h : tok1 l = .error e) : e = 6 ∨ e = 8 := by
  have hn : ∀ {x : List UInt8} {e : Int}, numT x = .error e → e = 8 := by
    intro x e h
    unfold numT at h
    split at h
    · cases h
    · cases h; rfl
  match l, h with
  | [], h => rw [tok1.eq_def] at h; cases h; exact .inl rfl
  | c :: r, h =>
    rw [tok1.eq_def] at h
    dsimp only at h
    split at h
    · cases h
    · split at h
      · exact .inr (hn h)
      · split at h
        · split at h
          · cases h; exact .inl rfl
          · split at h
            · cases h
            · split at h
              · exact .inr (hn h)
              · cases h; exact .inl rfl
        · split at h
          · cases h
          · cases h; exact .inl rfl
theorem Qk1 {n : Nat} : ∀ {k : Nat} {l : List UInt8} {acc : List Tok} {f : Flt}, Q1Z n k l acc = .error f → f.1 ≠ 0
  | 0, l, acc, f, h => by rw [Q1Z] at h; cases h
  | k + 1, [], acc, f, h => by rw [Q1Z] at h; cases h
  | k + 1, c :: r, acc, f, h => by
    rw [Q1Z] at h
    split at h
    · rename_i e he
      cases h
      rcases tok1_err he with rfl | rfl
      · exact (by decide : (6 : Int) ≠ 0)
      · exact (by decide : (8 : Int) ≠ 0)
    · exact Qk1 h
theorem Qmh {src : List UInt8} {f : Flt} (h : scan src = .error f) : f.1 ≠ 0 := by
  unfold scan at h
  split at h
  · cases h; decide
  · exact Qk1 h
end Go.Lir
namespace Go.Lir
set_option linter.unusedVariables false
abbrev PGot (α : Type) := Except Flt (α × List Tok)
def Qc {α β : Type} (x : PGot α) (f : α → List Tok → PGot β) : PGot β := match x with
  | .ok (a, r) => f a r
  | .error e => .error e
/-- A fault where the tokens stand; e: where the text ends. -/
def Q2Q (e : Nat) (c : Int) : List Tok → Flt
  | [] => (if c = 4 then 5 else c, e)
  | t :: _ => (c, t.at_)
def isT (s : List UInt8) : List Tok → Bool
  | [] => false
  | t :: _ => t.num.isNone && decide (t.text = s)
def want (e : Nat) (s : List UInt8) (l : List Tok) : PGot Unit := if isT s l = true then .ok ((), l.tail) else .error (Q2Q e 4 l)
def Q61 (e : Nat) : List Tok → PGot Int
  | [] => .error (Q2Q e 4 [])
  | t :: r => match t.num with
    | some n => .ok (n, r)
    | none => .error (Q2Q e 4 (t :: r))
/-- A number too small or too great stands here. -/
def wideT : List Tok → Bool
  | [] => false
  | t :: _ => match t.num with
    | some n => decide (n < 0 ∨ 1000000 < n)
    | none => false
def pNum (e : Nat) (l : List Tok) : PGot Int := if wideT l = true then .error (Q2Q e 8 l) else Q61 e l
/-- The rest of a list: so many more may come, so many were read. -/
def pMany {α : Type} (e : Nat) (cl : List UInt8) (f : List Tok → PGot α) : Nat → Nat → List Tok → PGot (List α)
  | 0, _, l => .error (Q2Q e 2 l)
  | k + 1, n, l => if isT cl l = true then .ok ([], l.tail) else
    Qc (if n = 0 then .ok ((), l) else want e [44] l) fun _ l => Qc (f l) fun x l => Qc (pMany e cl f k (n + 1) l) fun xs l => .ok (x :: xs, l)
def Q1Q {α : Type} (e : Nat) (b cl : List UInt8) (f : List Tok → PGot α) (l : List Tok) : PGot (List α) := Qc (want e b l) fun _ l => pMany e cl f 101 0 l
abbrev tInt : List UInt8 := [105, 110, 116]
abbrev Q3c : List UInt8 := [104, 97, 110, 100, 108, 101]
abbrev Q6h : List UInt8 := [97, 114, 114, 97, 121]
abbrev Q3j : List UInt8 := [116, 117, 112, 108, 101]
abbrev QjX : List UInt8 := [106, 117, 109, 112]
abbrev tIf : List UInt8 := [105, 102]
abbrev tTo : List UInt8 := [116, 111]
abbrev Qnx : List UInt8 := [101, 108, 115, 101]
abbrev tRet : List UInt8 := [114, 101, 116]
abbrev Q5b : List UInt8 := [98, 108, 111, 99, 107]
abbrev Qnw : List UInt8 := [102, 117, 110, 99]
abbrev QjY : List UInt8 := [45, 62]
/-- A type; so deep may it still be. -/
def pTyp (e : Nat) : Nat → List Tok → PGot Ty
  | 0, l => .error (Q2Q e 19 l)
  | k + 1, l =>
    if isT tInt l = true then .ok (.mk 1 0 [], l.tail)
    else if isT Q3c l = true then Qc (pNum e l.tail) fun n l => .ok (.mk 2 n [], l)
    else if isT Q6h l = true then Qc (pNum e l.tail) fun n l => .ok (.mk 4 n [], l)
    else Qc (want e Q3j l) fun _ l => Qc (pNum e l) fun n l => Qc (Q1Q e [40] [41] (pTyp e k) l) fun ts l => .ok (.mk 3 n ts, l)
def Q3M (e : Nat) : List Tok → PGot (List Ty) := Q1Q e [40] [41] (pTyp e 5)
def Qip (e : Nat) : List Tok → PGot (List Int) := Q1Q e [60] [62] (pNum e)
def Qaq (e : Nat) : List Tok → PGot (List Int) := Q1Q e [40] [41] (pNum e)
def opWords : List (List UInt8) := [[110, 117, 109], [98, 105, 110], [110, 101, 119], [102, 114, 101, 101], [116, 117, 112, 108, 101], [103, 101, 116], [115, 101, 116], [97, 114, 114, 97, 121], [108, 111, 97, 100], [115, 116, 111, 114, 101], [108, 101, 110], [105, 110], [111, 117, 116], [99, 97, 108, 108]]
def kindWords : List (List UInt8) := [[97, 100, 100], [115, 117, 98], [109, 117, 108], [100, 105, 118], [109, 111, 100], [108, 101, 115, 115], [101, 113], [97, 110, 100], [120, 111, 114]]
/-- The number of a word, from 1 on; 0: there is none. -/
def QiD (ws : List (List UInt8)) (s : List UInt8) : Nat := if ws.idxOf s < ws.length then ws.idxOf s + 1 else 0
def wordN (ws : List (List UInt8)) (k : Int) : List UInt8 := if k < 1 then [] else ws.getD (k.toNat - 1) []
/-- The number of the word that stands here. -/
def Q58 (ws : List (List UInt8)) : List Tok → Nat
  | [] => 0
  | t :: _ => if t.num.isNone = true then QiD ws t.text else 0
def Qap (e : Nat) (l : List Tok) : PGot Int := if Q58 kindWords l = 0 then .error (Q2Q e 4 l) else .ok ((Q58 kindWords l : Int), l.tail)
def Q3o (e : Nat) (op : Int) (l : List Tok) : PGot Ins :=
  if op = 1 then Qc (Q61 e l) fun n l => .ok (⟨op, 0, 0, 0, 0, n, [], []⟩, l)
  else if op = 2 then Qc (Qap e l) fun k l => Qc (pNum e l) fun a l => Qc (pNum e l) fun b l => .ok (⟨op, a, b, 0, k, 0, [], []⟩, l)
  else if op = 4 ∨ op = 11 ∨ op = 13 then Qc (pNum e l) fun a l => .ok (⟨op, a, 0, 0, 0, 0, [], []⟩, l)
  else if op = 5 then Qc (pNum e l) fun a l => Qc (Qaq e l) fun args l => .ok (⟨op, a, 0, 0, 0, 0, [], args⟩, l)
  else if op = 6 then Qc (pNum e l) fun a l => Qc (pNum e l) fun k l => .ok (⟨op, a, 0, 0, k, 0, [], []⟩, l)
  else if op = 7 then Qc (pNum e l) fun a l => Qc (pNum e l) fun k l => Qc (pNum e l) fun b l => .ok (⟨op, a, b, 0, k, 0, [], []⟩, l)
  else if op = 8 ∨ op = 9 then Qc (pNum e l) fun a l => Qc (pNum e l) fun b l => .ok (⟨op, a, b, 0, 0, 0, [], []⟩, l)
  else if op = 10 then Qc (pNum e l) fun a l => Qc (pNum e l) fun b l => Qc (pNum e l) fun c l => .ok (⟨op, a, b, c, 0, 0, [], []⟩, l)
  else if op = 14 then Qc (pNum e l) fun k l => Qc (Qip e l) fun regs l => Qc (Qaq e l) fun args l => .ok (⟨op, 0, 0, 0, k, 0, regs, args⟩, l)
  else .ok (⟨op, 0, 0, 0, 0, 0, [], []⟩, l)
def pIns (e : Nat) (l : List Tok) : PGot (Option Ins) :=
  if Q58 opWords l = 0 then .ok (none, l) else Qc (Q3o e (Q58 opWords l) l.tail) fun x l => Qc (want e [59] l) fun _ l => .ok (some x, l)
def pTo (e : Nat) (l : List Tok) : PGot To := Qc (pNum e l) fun b l => Qc (Qip e l) fun regs l => Qc (Qaq e l) fun args l => .ok (⟨b, regs, args⟩, l)
def Q57 (e : Nat) (l : List Tok) : PGot Tail :=
  if isT QjX l = true then Qc (pTo e l.tail) fun y l => .ok (⟨1, 0, y, ⟨0, [], []⟩, []⟩, l)
  else if isT tIf l = true then Qc (pNum e l.tail) fun a l => Qc (want e tTo l) fun _ l => Qc (pTo e l) fun y l => Qc (want e Qnx l) fun _ l => Qc (pTo e l) fun n l => .ok (⟨2, a, y, n, []⟩, l)
  else Qc (want e tRet l) fun _ l => Qc (Qaq e l) fun args l => .ok (⟨3, 0, ⟨0, [], []⟩, ⟨0, [], []⟩, args⟩, l)
def Q6Z (e : Nat) (l : List Tok) : PGot Tail := Qc (Q57 e l) fun t l => Qc (want e [59] l) fun _ l => .ok (t, l)
/-- As long as there is one more. -/
def pOpts {α : Type} (f : List Tok → PGot (Option α)) : Nat → List Tok → PGot (List α)
  | 0, l => .ok ([], l)
  | k + 1, l => Qc (f l) fun o l => match o with
    | none => .ok ([], l)
    | some x => Qc (pOpts f k l) fun xs l => .ok (x :: xs, l)
def pIf {α : Type} (p : List Tok → Bool) (f : List Tok → PGot α) (l : List Tok) : PGot (Option α) := if p l = true then Qc (f l) fun x l => .ok (some x, l) else .ok (none, l)
def pAll {α : Type} (f : List Tok → PGot (Option α)) (l : List Tok) : PGot (List α) := pOpts f (l.length + 1) l
def Q40 (e : Nat) (l : List Tok) : PGot Block :=
  Qc (want e Q5b l) fun _ l => Qc (pNum e l) fun regs l => Qc (Q3M e l) fun ps l => Qc (want e [123] l) fun _ l => Qc (pAll (pIns e) l) fun code l => Qc (Q6Z e l) fun fin l => Qc (want e [125] l) fun _ l => .ok (⟨regs, ps, code, fin⟩, l)
def pFun (e : Nat) (l : List Tok) : PGot Fun :=
  Qc (want e Qnw l) fun _ l => Qc (pNum e l) fun regs l => Qc (Q3M e l) fun ps l => Qc (want e QjY l) fun _ l => Qc (Q3M e l) fun rs l => Qc (want e [123] l) fun _ l => Qc (pAll (pIf (isT Q5b) (Q40 e)) l) fun bl l => Qc (want e [125] l) fun _ l => .ok (⟨regs, ps, rs, bl⟩, l)
def QdO (e : Nat) (l : List Tok) : PGot (List Fun) := pAll (pIf (fun l => !l.isEmpty) (pFun e)) l
def Q2c (s : List UInt8) : Except Flt Module := match scan s with
  | .error f => .error f
  | .ok l => match QdO s.length l with
    | .error f => .error f
    | .ok (fs, _) => if (Module.fault ⟨fs⟩).1 ≠ 0 then .error (Module.fault ⟨fs⟩) else .ok ⟨fs⟩
end Go.Lir
namespace Go.Lir
section
variable {P : Program} {l : List GO} {Q : QT} {ρ : Env} {w : World} {a : List UInt8}
theorem Qb8 (a : List UInt8) : (⟨a.toArray⟩ : ByteArray).size = a.length := by rw [Lib.size_eq]
theorem tx_get (a : List UInt8) (i : Nat) : (⟨a.toArray⟩ : ByteArray)[i]? = a[i]? := by
  by_cases h : i < a.length
  · rw [List.getElem?_eq_getElem h, getElem?_pos _ _ (by rw [Qb8]; exact h)]
    rfl
  · rw [List.getElem?_eq_none (by omega), getElem?_neg _ _ (by rw [Qb8]; exact h)]
theorem QmO (a : List UInt8) (i j : Nat) : (⟨a.toArray⟩ : ByteArray).extract i j = ⟨((a.take j).drop i).toArray⟩ := by
  apply ByteArray.ext
  apply Array.ext'
  simp [ByteArray.data_extract, List.drop_take]
theorem Q20 {d : Nat} {x : Operand} (hx : ρ.ev x = .string ⟨a.toArray⟩) (h : Q3 P l Q (upd ρ d (.int .i64 a.length)) w) : Q3 P (⟨none, .slen d x⟩ :: l) Q ρ w := s_slen hx (by rw [Qb8]; exact h)
theorem Qi3 {d m : Nat} {x i : Operand} {k : IntKind} {b : UInt8} (hx : ρ.ev x = .string ⟨a.toArray⟩) (hi : ρ.ev i = .int k (m : Int)) (hb : a[m]? = some b) (h : Q3 P l Q (upd ρ d (.int .u8 b.toNat)) w) : Q3 P (⟨none, .sidx d x i⟩ :: l) Q ρ w :=
  s_sidx hx hi (by omega) (by rw [Int.toNat_natCast, tx_get]; exact hb) h
theorem Qi2 {d l' h' : Nat} {x : Operand} {lo hi : Option Operand} (hx : ρ.ev x = .string ⟨a.toArray⟩) (hh : bnd ρ a.length hi h') (hl : bnd ρ 0 lo l') (h2 : h' ≤ a.length) (h3 : l' ≤ h')
    (h : Q3 P l Q (upd ρ d (.string ⟨((a.take h').drop l').toArray⟩)) w) : Q3 P (⟨none, .ssub d x lo hi⟩ :: l) Q ρ w :=
  ⟨_, l', h', hx, by rw [Qb8]; exact hh, hl, by rw [Qb8]; exact h2, h3, by rw [QmO]; exact h⟩
theorem s_sneqx {d T : Nat} {x y : Operand} {a b : List UInt8} (hx : ρ.ev x = .string ⟨a.toArray⟩) (hy : ρ.ev y = .string ⟨b.toArray⟩)
    (h : Q3 P l Q (upd ρ d (.bool (decide (a ≠ b)))) w) : Q3 P (⟨none, .bin d .neq T x y⟩ :: l) Q ρ w :=
  ⟨_, fun w0 => by
    rw [hx, hy]
    have e : ∀ c : List UInt8, (⟨c.toArray⟩ : ByteArray).toList = c := fun c => Lib.toList_data _
    have e2 : (a != b) = decide (a ≠ b) := by by_cases h : a = b <;> simp [h]
    have e3 : (a == b) = decide (a = b) := by by_cases h : a = b <;> simp [h]
    simp [eqGuard, binOp, Op.stringOp, e, e2, e3], h⟩
/-- A number that lies in memory: for measures. -/
def QoU (w : World) (b j : Nat) : Int := match w.cell? ⟨b, j, none⟩ with
  | some (.int _ n) => n
  | _ => 0
theorem Q7q {c : Cx} {L : List Res} {T b j i : Nat} {cs : List Value} {k : IntKind} {n : Int} (hS : St c w L) (hi : nth L i = some (blk b T cs)) (hj : cs[j]? = some (.int k n)) : QoU w b j = n := by
  unfold QoU; rw [(hS.blkAt hi).cell hj]
/-- A call of a function that was handed in. -/
theorem QnQ {d : Nat} {x : Operand} {xs : List Operand} {f : FuncId} {args : List Value} {S : Value → World → Prop} (hx : ρ.ev x = .func (.func f) #[] #[]) (hf : Q38 P f = true) (hxs : xs.map ρ.ev = args) (hc : Rets P f args w S)
    (h : ∀ v w', S v w' → Q3 P l Q (upd ρ d v) w') : Q3 P (⟨none, .callv (some d) x xs⟩ :: l) Q ρ w := by
  unfold Q38 at hf
  rw [Option.any_eq_true] at hf
  obtain ⟨fn, h1, h2⟩ := hf
  rw [Bool.and_eq_true, Bool.not_eq_true'] at h2
  refine QnP (cap := []) hx h1 h2.1 h2.2 (by rw [hxs, List.append_nil]) hc ?_
  rintro e w' ⟨v, rfl, hv⟩
  exact h v w' hv
end
end Go.Lir
namespace Go.Lir
section
variable {P : Program} {l : List GO} {Q : QT} {ρ : Env} {w : World} {c : Cx} {L : List Res} {v : Value}
theorem s_sadd {d T : Nat} {x y : Operand} {a b : List UInt8} (hx : ρ.ev x = .string ⟨a.toArray⟩) (hy : ρ.ev y = .string ⟨b.toArray⟩) (hl : a.length + b.length ≤ 9223372036854775807)
    (h : Q3 P l Q (upd ρ d (.string ⟨(a ++ b).toArray⟩)) w) : Q3 P (⟨none, .bin d .add T x y⟩ :: l) Q ρ w :=
  ⟨_, fun w0 => by
    rw [hx, hy]
    have := run_string_add_sum (P := P) w0 (⟨a.toArray⟩ : ByteArray) ⟨b.toArray⟩ (by simpa [ByteArray.size] using hl)
    rw [ByteArray.mk_append_mk] at this
    simpa [eqGuard, binOp] using this, h⟩
theorem Qmj {d T : Nat} {x y : Operand} {a b : List UInt8} (hx : ρ.ev x = .string ⟨a.toArray⟩) (hy : ρ.ev y = .string ⟨b.toArray⟩)
    (h : Q3 P l Q (upd ρ d (.bool (decide (a = b)))) w) : Q3 P (⟨none, .bin d .eql T x y⟩ :: l) Q ρ w :=
  ⟨_, fun w0 => by
    rw [hx, hy]
    have e : ∀ c : List UInt8, (⟨c.toArray⟩ : ByteArray).toList = c := fun c => Lib.toList_data _
    have e2 : (a == b) = decide (a = b) := by by_cases h : a = b <;> simp [h]
    simp [eqGuard, binOp, Op.stringOp, e, e2], h⟩
theorem s_seqt {d T : Nat} {x y : Operand} {a b : List UInt8} (hx : ρ.ev x = .string ⟨a.toArray⟩) (hy : ρ.ev y = .string ⟨b.toArray⟩) (hab : a = b)
    (h : Q3 P l Q (upd ρ d (.bool true)) w) : Q3 P (⟨none, .bin d .eql T x y⟩ :: l) Q ρ w :=
  Qmj hx hy (by rw [decide_eq_true hab]; exact h)
theorem QmH {w w' : World} (h : Go.RowKit.Below w.heap.size w w') : Fr NF w w' := ⟨h.os, h.tape, h.output, h.size, fun b hb _ => h.block b hb⟩
theorem grow_fr (w : World) (k : Nat) (os : Array Obj) : Fr NF w (Go.Sort.grow (w.drewN k) os) :=
  ⟨rfl, rfl, rfl, by simp [Go.Sort.grow], fun b hb _ => by simp only [Go.Sort.grow, World.heap_drewN]; rw [Array.getElem?_append_left hb]⟩
/-- The table lies in what is only read. -/
def TabK (P : Program) (c : Cx) (name : String) (k : IntKind) (zs : List Int) : Prop := ∃ g, c.K g ∧ ∀ w : World, w.heap[g]? = c.H0[g]? → Lib.TabIs P w name k zs
theorem TabK.up {name : String} {k : IntKind} {zs : List Int} {c' : Cx} (h : TabK P c name k zs) (hle : c.Le c') : TabK P c' name k zs := by
  obtain ⟨g, h1, h2⟩ := h
  exact ⟨g, (hle.K g h1).1, fun w hw => h2 w (hw.trans (hle.K g h1).2)⟩
theorem TabK.now {name : String} {k : IntKind} {zs : List Int} (h : TabK P c name k zs) (hS : St c w L) : Lib.TabIs P w name k zs := by
  obtain ⟨g, h1, h2⟩ := h
  exact h2 w (hS.1.same g h1)
theorem TabK.top {name : String} {k : IntKind} {zs : List Int} (h : Lib.TabIs P w name k zs) : TabK P (Cx.top w) name k zs := by
  unfold Lib.TabIs World.var? at h
  cases hg : P.globalNamed name with
  | none => simp [hg] at h
  | some g =>
    simp only [hg, Option.bind_some] at h
    have hlt : g < w.heap.size := by
      rcases Nat.lt_or_ge g w.heap.size with h' | h'
      · exact h'
      · rw [Array.getElem?_eq_none h'] at h; simp at h
    refine ⟨g, hlt, fun w' hw' => ?_⟩
    have hw2 : w'.heap[g]? = w.heap[g]? := hw'
    unfold Lib.TabIs World.var?
    simp only [hg, Option.bind_some]
    rw [hw2]; exact h
/-- An own slice of strings: its cells. -/
theorem St.strs {T : TypeId} {i : Nat} {css : List (List Value)} {xs : List ByteArray} (hS : St c w L) (hi : nth L i = some (sl T 1 v css)) (hl : strR.ls c css xs) :
    ∃ a cap, v = .slice a xs.length cap ∧ xs.length ≤ cap ∧ (xs = [] ∨ ∃ b off, a = some ⟨b, off, none⟩ ∧ b < w.heap.size ∧ ∀ (j : Nat) x, xs[j]? = some x → w.cell? ⟨b, off + j, none⟩ = some (.string x)) := by
  obtain ⟨F, hA⟩ := hS.res hi
  have hA : Sl w.heap T 1 v F css := hA
  obtain ⟨h0, a, cap, hv, hlc, hc⟩ := hA.toR
  refine ⟨a, cap, by rw [hv, hl.1], by rw [← hl.1]; exact hlc, ?_⟩
  rcases hc with hc | ⟨b, off, ha, _, hb, hat⟩
  · exact .inl (List.eq_nil_of_length_eq_zero (by rw [← hl.1, hc]; rfl))
  · refine .inr ⟨b, off, ha, hb, fun j x hx => ?_⟩
    obtain ⟨d, h1, h2⟩ := hl.2 j x hx
    have h2 : d = [.string x] := h2
    have := At.cell (hat j d h1) (j := 0) (u := .string x) (by rw [h2]; rfl)
    rw [Nat.mul_one, Nat.add_zero] at this
    exact this
end
end Go.Lir
namespace Go.Proofs.YtjecflbbcnocdaaGreatDoor
open Go.Lir
set_option maxHeartbeats 1000000
attribute [local irreducible] LC.wp Q3 QF QK retQ Q1E LO.wp Qq Calls
set_option linter.unusedSimpArgs false
set_option linter.unusedVariables false
variable {cx : Cx} {w : World} {L : List Res}
/-- The parser: the tokens that are left, where the text ends. -/
@[reducible] def prs (pb : Nat) (v : Value) (e : Nat) : Res := blk pb 70 [v, .int .i64 (e : Int)]
@[reducible] def Qli (f : Flt) : Value := .iface 66 (.agg ⟨[.int .i64 f.1, .int .i64 f.2]⟩)
@[reducible] def tokC (t : Tok) : List Value := [.int .i64 t.at_, .string ⟨t.text.toArray⟩, .bool t.num.isSome, .int .i64 (t.num.getD 0)]
theorem is_c {pb e : Nat} {v : Value} {l : List Tok} {s : List UInt8} (hv : tokR.sl cx v l) (hS : St cx w (prs pb v e :: L)) :
    Rets Tryz.prog Q3L [.pointer (some ⟨pb, 0, none⟩), .string ⟨s.toArray⟩] w fun u w' => u = .bool (isT s l) ∧ St cx w' (prs pb v e :: L) := by
  cases l with
  | nil =>
    all_goals refine Q2U ?_
    all_goals (unfold parse_parser_is_lc; refine Q0 ?_; refine Q1 ?_; refine zm ?_; refine zn ?_; refine Q0 ?_; refine Q1 ?_; refine zm ?_; refine Qn rfl ?_; refine Q2 rfl ?_; refine zl hS ?_; refine zL ?_; refine Qdz rfl rfl (by simp) ?_; refine zm ?_; refine s_gn rfl rfl ?_; refine s_gn rfl rfl ?_; refine s_gn rfl rfl ?_; refine s_gn rfl rfl ?_; refine s_gn rfl rfl ?_; refine s_gn rfl rfl ?_; refine s_gn rfl rfl ?_; refine s_gn rfl rfl ?_; (first | (refine zpt ?_) | (refine zpf ?_)); refine zm ?_; refine s_gn rfl rfl ?_)
    all_goals (refine s_gn rfl rfl ?_; refine s_gn rfl rfl ?_; refine s_gn rfl rfl ?_; refine s_gn rfl rfl ?_; refine s_gn rfl rfl ?_; refine s_gn rfl rfl ?_; refine s_gn rfl rfl ?_; refine s_gn rfl rfl ?_; (first | (refine zpt ?_) | (refine zpf ?_)); refine zm ?_; refine zn ?_; refine zr ?_; refine zf ?_; refine ⟨_, rfl, ?_, hS.sp⟩; exact rfl; done)
  | cons t r =>
    obtain ⟨a, t2, m⟩ := t
    have hl0 : (0 : Int) < ((⟨a, t2, m⟩ :: r : List Tok).length : Int) := by simp
    cases m with
    | none =>
      show Rets _ _ _ _ fun u w' => u = .bool (decide (t2 = s)) ∧ _
      all_goals refine Q2U ?_
      all_goals (unfold parse_parser_is_lc; refine Q0 ?_; refine Q1 ?_; refine zm ?_; refine zn ?_; refine Q0 ?_; refine Q1 ?_; refine zm ?_; refine Qn rfl ?_; refine Q2 rfl ?_; refine zl hS ?_; refine zL ?_; refine Q9f rfl rfl hl0 ?_; refine zm ?_; (first | refine s_gn rfl rfl ?_ | (refine s_gy rfl ?_; refine zm ?_)); (first | refine s_gn rfl rfl ?_ | (refine s_gy rfl ?_; refine Qn rfl ?_)); (first | refine s_gn rfl rfl ?_ | (refine s_gy rfl ?_; refine Q2 rfl ?_)); (first | refine s_gn rfl rfl ?_ | (refine s_gy rfl ?_; refine zl hS ?_)))
      all_goals (first | refine s_gn rfl rfl ?_ | (refine s_gy rfl ?_; refine Q1K (m := 0) vw rfl hv rfl (by simp) ?_; intro b1 o1 cs1 x1 hat1 hx1 he1; cases hx1; obtain rfl := Q1O he1))
      all_goals ((first | refine s_gn rfl rfl ?_ | (refine s_gy rfl ?_; (first | refine Q2 rfl ?_ | refine Q2b rfl ?_))); (first | refine s_gn rfl rfl ?_ | (refine s_gy rfl ?_; (first | (refine zl hS ?_) | (refine zlk hS ?_) | (refine zlj hS ?_)))); (first | refine s_gn rfl rfl ?_ | (refine s_gy rfl ?_; refine Q1w rfl ?_)); refine zpt ?_; refine zm ?_; (first | refine s_gn rfl rfl ?_ | (refine s_gy rfl ?_; refine zm ?_)); (first | refine s_gn rfl rfl ?_ | (refine s_gy rfl ?_; refine Qn rfl ?_)); (first | refine s_gn rfl rfl ?_ | (refine s_gy rfl ?_; refine Q2 rfl ?_)); (first | refine s_gn rfl rfl ?_ | (refine s_gy rfl ?_; refine zl hS ?_)))
      all_goals (first | refine s_gn rfl rfl ?_ | (refine s_gy rfl ?_; refine Q1K (m := 0) vw rfl hv rfl (by simp) ?_; intro b1 o1 cs1 x1 hat1 hx1 he1; cases hx1; obtain rfl := Q1O he1))
      all_goals ((first | refine s_gn rfl rfl ?_ | (refine s_gy rfl ?_; (first | refine Q2 rfl ?_ | refine Q2b rfl ?_))); (first | refine s_gn rfl rfl ?_ | (refine s_gy rfl ?_; (first | (refine zl hS ?_) | (refine zlk hS ?_) | (refine zlj hS ?_)))); (first | refine s_gn rfl rfl ?_ | (refine s_gy rfl ?_; refine zm ?_)); (first | refine s_gn rfl rfl ?_ | (refine s_gy rfl ?_; refine Qmj rfl rfl ?_)); refine zpt ?_; refine zm ?_; refine zn ?_; refine zr ?_; refine zf ?_; refine ⟨_, rfl, ?_, hS.sp⟩; exact rfl; done)
    | some n =>
      show Rets _ _ _ _ fun u w' => u = .bool false ∧ _
      all_goals refine Q2U ?_
      all_goals (unfold parse_parser_is_lc; refine Q0 ?_; refine Q1 ?_; refine zm ?_; refine zn ?_; refine Q0 ?_; refine Q1 ?_; refine zm ?_; refine Qn rfl ?_; refine Q2 rfl ?_; refine zl hS ?_; refine zL ?_; refine Q9f rfl rfl hl0 ?_; refine zm ?_; (first | refine s_gn rfl rfl ?_ | (refine s_gy rfl ?_; refine zm ?_)); (first | refine s_gn rfl rfl ?_ | (refine s_gy rfl ?_; refine Qn rfl ?_)); (first | refine s_gn rfl rfl ?_ | (refine s_gy rfl ?_; refine Q2 rfl ?_)); (first | refine s_gn rfl rfl ?_ | (refine s_gy rfl ?_; refine zl hS ?_)))
      all_goals (first | refine s_gn rfl rfl ?_ | (refine s_gy rfl ?_; refine Q1K (m := 0) vw rfl hv rfl (by simp) ?_; intro b1 o1 cs1 x1 hat1 hx1 he1; cases hx1; obtain rfl := Q1O he1))
      all_goals ((first | refine s_gn rfl rfl ?_ | (refine s_gy rfl ?_; (first | refine Q2 rfl ?_ | refine Q2b rfl ?_))); (first | refine s_gn rfl rfl ?_ | (refine s_gy rfl ?_; (first | (refine zl hS ?_) | (refine zlk hS ?_) | (refine zlj hS ?_)))); (first | refine s_gn rfl rfl ?_ | (refine s_gy rfl ?_; refine Q1w rfl ?_)); refine zpt ?_; refine zm ?_; refine s_gn rfl rfl ?_; refine s_gn rfl rfl ?_; refine s_gn rfl rfl ?_; refine s_gn rfl rfl ?_)
      all_goals (refine s_gn rfl rfl ?_)
      all_goals (refine s_gn rfl rfl ?_; refine s_gn rfl rfl ?_; refine s_gn rfl rfl ?_; refine s_gn rfl rfl ?_; (first | (refine zpt ?_) | (refine zpf ?_)); refine zm ?_; refine zn ?_; refine zr ?_; refine zf ?_; refine ⟨_, rfl, ?_, hS.sp⟩; exact rfl; done)
theorem Qlf {pb e : Nat} {v : Value} {t : Tok} {r : List Tok} (hv : tokR.sl cx v (t :: r)) (hS : St cx w (prs pb v e :: L)) :
    Rets Tryz.prog Q1u [.pointer (some ⟨pb, 0, none⟩)] w fun u w' => u = .agg ⟨tokC t⟩ ∧ ∃ v', tokR.sl cx v' r ∧ St cx w' (prs pb v' e :: L) := by
  all_goals refine Q7V ?_
  all_goals (unfold parse_parser_next_lc; refine Q0 ?_; refine Q1 ?_; refine Qb hS ?_; intro p2 w1 hS; refine zn ?_; refine Q0 ?_; refine Q1 ?_; refine zm ?_; refine Qn rfl ?_; refine Q2 rfl ?_; refine zl hS ?_)
  all_goals (refine Q1K (m := 0) vw rfl hv rfl (by simp) ?_; intro b1 o1 cs1 x1 hat1 hx1 he1; cases hx1; obtain rfl := Q1O he1)
  all_goals ((first | (refine zv hS ?_) | (refine zvk hS ?_)); refine Qb hS ?_; intro p3 w1 hS; refine zsn hS ?_; intro w1 hS; have hS := hS.ns; refine zn ?_; refine Q0 ?_; refine Q1 ?_; refine zm ?_; refine zm ?_; refine Qn rfl ?_; refine Q2 rfl ?_; refine zl hS ?_; refine s_subL vw hv rfl rfl (h' := (t :: r).length) (l' := 1) rfl ⟨_, rfl⟩ (by omega) (by simp) ?_; intro v4 hs4; rw [List.take_length, show (t :: r).drop 1 = r from rfl] at hs4; have ho4 := Rep.SR.oneC hs4; refine Qn rfl ?_; refine Q2 rfl ?_; refine zst hS ?_; intro w1 hS; have hS := hS.ns; refine zn ?_; refine Q0 ?_; refine Q1 ?_; refine zv hS ?_; refine zsn hS ?_; intro w1 hS; have hS := hS.ns; refine zn ?_; refine zr ?_; refine Q1G vw (Qa (n := 4) (by kernel_rfl) (by kernel_rfl) (hS.blkAt fd) (by rfl) (by rfl)) ?_; exact ⟨_, rfl, rfl, v4, hs4, hS.sp⟩)
theorem Q6t {pb e : Nat} {c : Int} {v : Value} {l : List Tok} (hv : tokR.sl cx v l) (hS : St cx w (prs pb v e :: L)) :
    Fins Tryz.prog Q2k [.pointer (some ⟨pb, 0, none⟩), .int .i64 c] w (fun _ _ => False) (fun u w' => u = Qli (Q2Q e c l) ∧ St cx w' (prs pb v e :: L)) := by
  cases l with
  | nil =>
    unfold Fins
    all_goals refine Q3s ?_
    all_goals (unfold parse_parser_fail_lc; refine Q0 ?_; refine Q1 ?_; refine zm ?_; refine Qn rfl ?_; refine Q2 rfl ?_; refine zl hS ?_; refine zm ?_; refine zn ?_; refine Q0 ?_; refine Q0 ?_; refine Q1 ?_; refine zm ?_; refine Qn rfl ?_; refine Q2 rfl ?_; refine zl hS ?_; refine zL ?_; refine Qdz rfl rfl (by simp) ?_; refine zn ?_)
    all_goals refine Q5 rfl ?_
    all_goals (refine Q0 ?_; refine Q1 ?_; refine zm ?_)
    all_goals (first | (refine Qw ?_) | (refine Qy ?_) | (refine Qj rfl rfl (fun hc => ?_) (fun hc => ?_)))
    all_goals (refine zn ?_)
    all_goals
      first
      | (refine Q4 rfl ?_ -- Q2k c1
         all_goals (refine Q1 ?_; refine zm ?_)
         all_goals refine zn ?_)
      | (refine Q5 rfl ?_ -- Q2k c1
         all_goals refine zsk ?_)
    all_goals (refine Q1 ?_; refine zm ?_; refine zm ?_; refine zb2 [_, _] ?_; refine zki ?_; refine QnJ rfl ?_; (repeat (first | refine Qo ?_ | refine Qp ?_ | refine fun _ => ?_)); refine QG ?_; first | exact .inr ⟨_, rfl, by unfold Q2Q; rw [if_pos (by omega)], hS.sp⟩ | exact .inr ⟨_, rfl, by unfold Q2Q; rw [if_neg (by omega)], hS.sp⟩)
  | cons t r =>
    unfold Fins
    all_goals refine Q3s ?_
    all_goals (unfold parse_parser_fail_lc; refine Q0 ?_; refine Q1 ?_; refine zm ?_; refine Qn rfl ?_; refine Q2 rfl ?_; refine zl hS ?_; refine zm ?_; refine zn ?_; refine Q0 ?_; refine Q0 ?_; refine Q1 ?_; refine zm ?_; refine Qn rfl ?_; refine Q2 rfl ?_; refine zl hS ?_; refine zL ?_; refine Q9f rfl rfl (by simp) ?_; refine zn ?_)
    all_goals refine Q4 rfl ?_
    all_goals (refine Q1 ?_; refine zm ?_; refine Qn rfl ?_; refine Q2 rfl ?_; refine zl hS ?_)
    all_goals (refine Q1K (m := 0) vw rfl hv rfl (by simp) ?_; intro b1 o1 cs1 x1 hat1 hx1 he1; cases hx1; obtain rfl := Q1O he1)
    all_goals ((first | refine Q2 rfl ?_ | refine Q2b rfl ?_); (first | (refine zl hS ?_) | (refine zlk hS ?_)); refine zm ?_; refine zn ?_; refine Q1 ?_; refine zm ?_; refine zm ?_; refine zb2 [_, _] ?_; refine zki ?_; refine QnJ rfl ?_; (repeat (first | refine Qo ?_ | refine Qp ?_ | refine fun _ => ?_)); refine QG ?_; exact .inr ⟨_, rfl, rfl, hS.sp⟩)
theorem Q9i {pb e : Nat} {v : Value} {t : Tok} {l : List Tok} (ht : l[0]? = some t) (hv : tokR.sl cx v l) (hS : St cx w (prs pb v e :: L)) :
    Rets Tryz.prog Q1u [.pointer (some ⟨pb, 0, none⟩)] w fun u w' => u = .agg ⟨tokC t⟩ ∧ ∃ v', tokR.sl cx v' l.tail ∧ St cx w' (prs pb v' e :: L) := by
  cases l with
  | nil => cases ht
  | cons x r => cases ht; exact Qlf hv hS
theorem Qbu {s : List UInt8} {l : List Tok} (h : isT s l = true) : ∃ t, l[0]? = some t := by
  cases l with
  | nil => cases h
  | cons x r => exact ⟨x, rfl⟩
theorem Qno {e : Nat} {s : List UInt8} {l : List Tok} (h : isT s l = true) : want e s l = .ok ((), l.tail) := if_pos h
theorem want_f {e : Nat} {s : List UInt8} {l : List Tok} (h : isT s l = false) : want e s l = .error (Q2Q e 4 l) := if_neg (by rw [h]; decide)
theorem Q1T {pb e : Nat} {v v2 : Value} {l : List Tok} {s : List UInt8} (hv : tokR.sl cx v l) (hS : St cx w (sl 9 1 v2 [[.string ⟨s.toArray⟩]] :: prs pb v e :: L)) :
    Fins Tryz.prog Q1P [.pointer (some ⟨pb, 0, none⟩), v2] w (fun u w' => u = .tuple #[] ∧ want e s l = .ok ((), l.tail) ∧ ∃ v', tokR.sl cx v' l.tail ∧ St cx w' (prs pb v' e :: L)) (fun u w' => ∃ f v', want e s l = .error f ∧ u = Qli f ∧ St cx w' (prs pb v' e :: L)) := by
  unfold Fins
  all_goals refine Q7F ?_
  all_goals (unfold parse_parser_want_lc; refine Q0 ?_; refine Q1 ?_; refine zm ?_; refine Qdy hS vw fd (n := 1) rfl ?_; refine zm ?_; refine zn ?_; refine Qh ?_)
  refine zo [0, 6, 7] (fun A ρ' w' => ∃ (j : Nat) (v1 : Value) (l1 : List Tok), Has ρ' A ∧ Has ρ' [(8, .int .i64 j)] ∧ ((j = 0 ∧ l1 = l) ∨ (j = 1 ∧ l1 = l.tail ∧ want e s l = .ok ((), l.tail))) ∧ (tokR.sl cx v1 l1) ∧ St cx w' (sl 9 1 v2 [[.string ⟨s.toArray⟩]] :: prs pb v1 e :: L)) (fun ρ' _ => (1 - iv (ρ' 8)).toNat) ?_ ?_
  · exact ⟨0, v, l, zh, zh, .inl ⟨rfl, rfl⟩, hv, hS.sp⟩
  rintro ρ w1 ⟨j, v1, l1, hA, hρ, hj, hv1, hS⟩; obtain ⟨ρ, rfl⟩ := env2 hA hρ
  unfold Q3r
  all_goals (refine Q0 ?_; refine Q1 ?_; refine Q1x rfl rfl ?_; refine zn ?_; refine Q0 ?_)
  refine QO rfl (fun hc => ?_) (fun hc => ?_)
  · skip
    all_goals (refine zsk ?_; refine Q0 ?_; refine Qh ?_; refine Q0 ?_)
    all_goals (rcases hj with ⟨hj0, hj1⟩ | ⟨hj0, _⟩; rotate_left; (exfalso; omega); subst hj0)
    all_goals (refine Q1 ?_; refine s_idxE (m := 0) hS vw rfl (i := 0) rfl (by show 0 < 1; omega) ?_; intro b2 o2 hel2; refine s_loadE hS hel2 rfl (i := 0) rfl rfl rfl rfl ?_; refine zm ?_; refine zn ?_; refine Q0 ?_; refine Q0 ?_; refine Q1 ?_; refine zm ?_; refine zm ?_)
    all_goals (rw [hj1] at hv1; have hS : St cx _ (prs pb v1 e :: sl 9 1 v2 [[.string ⟨s.toArray⟩]] :: L) := hS.sp; refine zR2 (c := is_c hv1 hS) (h := ?_); rintro u1 w1 ⟨rfl, hS⟩; cases hq : isT s l)
    all_goals (refine Q1w rfl ?_; refine zn ?_)
    all_goals
      first
      | (refine Q4 rfl ?_ -- Q1P c1
         all_goals (refine Q1 ?_; refine zm ?_; refine zE2 (c := Q6t hv1 hS) (p := by rintro v9 w9 ⟨rfl, hS⟩; (repeat (first | refine Qo ?_ | refine Qp ?_ | refine fun _ => ?_)); refine QG ?_; refine .inr ⟨_, rfl, ?_⟩; exact ⟨_, _, want_f hq, rfl, hS.sp⟩) (h := ?_); rintro v1 w1 h9; exact h9.elim)
         all_goals refine zn ?_)
      | (refine Q5 rfl ?_ -- Q1P c1
         all_goals refine zsk ?_)
    all_goals (refine Q1 ?_; refine zm ?_; obtain ⟨t9, ht9⟩ := Qbu hq; refine zR1 (c := Q9i ht9 hv1 hS) (h := ?_); rintro u1 w1 ⟨rfl, v9, hv9, hS⟩; refine zn ?_; refine Q1 ?_; refine zad ?_; refine zm ?_; refine zn ?_; exact ⟨⟨1, v9, l.tail, zh, zh, .inr ⟨rfl, rfl, Qno hq⟩, hv9, hS.sp⟩, Q16 (by omega)⟩)
  · skip
    all_goals (refine zex ?_)
    all_goals (refine Q5c ?_; rcases hj with ⟨hj0, _⟩ | ⟨_, hj1, hj2⟩; (exfalso; omega); rw [hj1] at hv1; exact .inl ⟨_, rfl, rfl, hj2, v1, hv1, hS.sp⟩)
end Go.Proofs.YtjecflbbcnocdaaGreatDoor
namespace Go.Proofs.YtjecflbbcnocdaaGreatDoor
open Go.Lir
set_option maxHeartbeats 1000000
attribute [local irreducible] LC.wp Q3 QF QK retQ Q1E LO.wp Qq Calls
set_option linter.unusedSimpArgs false
set_option linter.unusedVariables false
variable {cx : Cx} {w : World} {L : List Res}
theorem Qia {pb e : Nat} {v : Value} {l : List Tok} (hv : tokR.sl cx v l) (hS : St cx w (prs pb v e :: L)) :
    Fins Tryz.prog Q4s [.pointer (some ⟨pb, 0, none⟩)] w (fun u w' => ∃ n v', Q61 e l = .ok (n, l.tail) ∧ u = .int .i64 n ∧ tokR.sl cx v' l.tail ∧ St cx w' (prs pb v' e :: L)) (fun u w' => ∃ f v', Q61 e l = .error f ∧ u = Qli f ∧ St cx w' (prs pb v' e :: L)) := by
  cases l with
  | nil =>
    unfold Fins
    all_goals refine Q2y ?_
    all_goals (unfold parse_parser_long_lc; refine Q0 ?_; refine Q1 ?_; refine zm ?_; refine zn ?_; refine Q0 ?_; refine Q0 ?_; refine Q1 ?_; refine zm ?_; refine Qn rfl ?_; refine Q2 rfl ?_; refine zl hS ?_; refine zL ?_; refine Q9g rfl rfl (by simp) ?_; refine zm ?_; refine s_gn rfl rfl ?_; refine s_gn rfl rfl ?_; refine s_gn rfl rfl ?_; refine s_gn rfl rfl ?_; refine s_gn rfl rfl ?_; refine s_gn rfl rfl ?_; refine s_gn rfl rfl ?_; refine s_gn rfl rfl ?_; refine zpt ?_; refine zn ?_)
    all_goals refine Q4 rfl ?_
    all_goals (refine Q1 ?_; refine zm ?_)
    all_goals (refine zE2 (c := Q6t hv hS) (p := by rintro v9 w9 ⟨rfl, hS⟩; (repeat (first | refine Qo ?_ | refine Qp ?_ | refine fun _ => ?_)); refine QG ?_; refine .inr ⟨_, rfl, ?_⟩; exact ⟨_, _, rfl, rfl, hS.sp⟩) (h := fun _ _ h9 => by cases h9))
    all_goals (refine zn ?_; refine Q0 ?_; refine Q1 ?_; refine zm ?_; fail "no contract of Q1u"; refine QnM rfl rfl ?_; refine zm ?_; refine zn ?_; refine zr ?_; refine zf ?_; trace_state; fail "no ret fits")
  | cons t r =>
    obtain ⟨a, t2, m⟩ := t
    cases m with
    | none =>
      unfold Fins
      all_goals refine Q2y ?_
      all_goals (unfold parse_parser_long_lc; refine Q0 ?_; refine Q1 ?_; refine zm ?_; refine zn ?_; refine Q0 ?_; refine Q0 ?_; refine Q1 ?_; refine zm ?_; refine Qn rfl ?_; refine Q2 rfl ?_; refine zl hS ?_; refine zL ?_; refine QdA rfl rfl (by simp; omega) ?_; refine zm ?_; (first | refine s_gn rfl rfl ?_ | (refine s_gy rfl ?_; refine zm ?_)); (first | refine s_gn rfl rfl ?_ | (refine s_gy rfl ?_; refine Qn rfl ?_)); (first | refine s_gn rfl rfl ?_ | (refine s_gy rfl ?_; refine Q2 rfl ?_)); (first | refine s_gn rfl rfl ?_ | (refine s_gy rfl ?_; refine zl hS ?_)))
      all_goals (first | refine s_gn rfl rfl ?_ | (refine s_gy rfl ?_; refine Q1K (m := 0) vw rfl hv rfl (by simp) ?_; intro b1 o1 cs1 x1 hat1 hx1 he1; cases hx1; obtain rfl := Q1O he1))
      all_goals ((first | refine s_gn rfl rfl ?_ | (refine s_gy rfl ?_; (first | refine Q2 rfl ?_ | refine Q2b rfl ?_))); (first | refine s_gn rfl rfl ?_ | (refine s_gy rfl ?_; (first | (refine zl hS ?_) | (refine zlk hS ?_) | (refine zlj hS ?_)))); (first | refine s_gn rfl rfl ?_ | (refine s_gy rfl ?_; refine Q1w rfl ?_)); (first | (refine zpt ?_) | (refine zpf ?_)); refine zn ?_)
      all_goals refine Q4 rfl ?_
      all_goals (refine Q1 ?_; refine zm ?_)
      all_goals (refine zE2 (c := Q6t hv hS) (p := by rintro v9 w9 ⟨rfl, hS⟩; (repeat (first | refine Qo ?_ | refine Qp ?_ | refine fun _ => ?_)); refine QG ?_; refine .inr ⟨_, rfl, ?_⟩; exact ⟨_, _, rfl, rfl, hS.sp⟩) (h := fun _ _ h9 => by cases h9))
      all_goals (refine zn ?_; refine Q0 ?_; refine Q1 ?_; refine zm ?_; fail "no contract of Q1u"; refine QnM rfl rfl ?_; refine zm ?_; refine zn ?_; refine zr ?_; refine zf ?_; trace_state; fail "no ret fits")
    | some n =>
      unfold Fins
      all_goals refine Q2y ?_
      all_goals (unfold parse_parser_long_lc; refine Q0 ?_; refine Q1 ?_; refine zm ?_; refine zn ?_; refine Q0 ?_; refine Q0 ?_; refine Q1 ?_; refine zm ?_; refine Qn rfl ?_; refine Q2 rfl ?_; refine zl hS ?_; refine zL ?_; refine QdA rfl rfl (by simp; omega) ?_; refine zm ?_; (first | refine s_gn rfl rfl ?_ | (refine s_gy rfl ?_; refine zm ?_)); (first | refine s_gn rfl rfl ?_ | (refine s_gy rfl ?_; refine Qn rfl ?_)); (first | refine s_gn rfl rfl ?_ | (refine s_gy rfl ?_; refine Q2 rfl ?_)); (first | refine s_gn rfl rfl ?_ | (refine s_gy rfl ?_; refine zl hS ?_)))
      all_goals (first | refine s_gn rfl rfl ?_ | (refine s_gy rfl ?_; refine Q1K (m := 0) vw rfl hv rfl (by simp) ?_; intro b1 o1 cs1 x1 hat1 hx1 he1; cases hx1; obtain rfl := Q1O he1))
      all_goals ((first | refine s_gn rfl rfl ?_ | (refine s_gy rfl ?_; (first | refine Q2 rfl ?_ | refine Q2b rfl ?_))); (first | refine s_gn rfl rfl ?_ | (refine s_gy rfl ?_; (first | (refine zl hS ?_) | (refine zlk hS ?_) | (refine zlj hS ?_)))); (first | refine s_gn rfl rfl ?_ | (refine s_gy rfl ?_; refine Q1w rfl ?_)); (first | (refine zpt ?_) | (refine zpf ?_)); refine zn ?_)
      all_goals refine Q5 rfl ?_
      all_goals (refine zsk ?_; refine Q0 ?_; refine Q1 ?_; refine zm ?_; refine zR1 (c := Qlf hv hS) (h := ?_); rintro u1 w1 ⟨rfl, v9, hv9, hS⟩; refine QnM rfl rfl ?_; refine zm ?_; refine zn ?_; refine zr ?_; refine zf ?_; exact .inl ⟨_, rfl, n, v9, rfl, rfl, hv9, hS.sp⟩)
theorem Q2g {pb e : Nat} {v : Value} {l : List Tok} (hv : tokR.sl cx v l) (hS : St cx w (prs pb v e :: L)) :
    Fins Tryz.prog Q1I [.pointer (some ⟨pb, 0, none⟩)] w (fun u w' => ∃ n v', pNum e l = .ok (n, l.tail) ∧ u = .int .i64 n ∧ tokR.sl cx v' l.tail ∧ St cx w' (prs pb v' e :: L)) (fun u w' => ∃ f v', pNum e l = .error f ∧ u = Qli f ∧ St cx w' (prs pb v' e :: L)) := by
  cases l with
  | nil =>
    unfold Fins
    all_goals refine Q2H ?_
    all_goals (unfold parse_parser_num_lc; refine Q0 ?_; refine Q1 ?_; refine zm ?_; refine zn ?_; refine Q0 ?_; refine Q0 ?_; refine Q1 ?_; refine zm ?_; refine Qn rfl ?_; refine Q2 rfl ?_; refine zl hS ?_; refine zL ?_; refine Qdz rfl rfl (by simp) ?_; refine zm ?_; refine s_gn rfl rfl ?_; refine s_gn rfl rfl ?_; refine s_gn rfl rfl ?_; refine s_gn rfl rfl ?_; refine s_gn rfl rfl ?_; refine s_gn rfl rfl ?_; refine s_gn rfl rfl ?_; (first | (refine zpt ?_) | (refine zpf ?_)); refine zm ?_; refine s_gn rfl rfl ?_; refine s_gn rfl rfl ?_)
    all_goals (refine s_gn rfl rfl ?_; refine s_gn rfl rfl ?_; refine s_gn rfl rfl ?_; refine s_gn rfl rfl ?_; refine s_gn rfl rfl ?_)
    all_goals (refine s_gn rfl rfl ?_)
    all_goals (refine s_gn rfl rfl ?_; refine s_gn rfl rfl ?_; refine s_gn rfl rfl ?_; refine s_gn rfl rfl ?_; refine s_gn rfl rfl ?_; refine s_gn rfl rfl ?_; refine s_gn rfl rfl ?_; refine s_gn rfl rfl ?_)
    all_goals (refine s_gn rfl rfl ?_)
    all_goals (refine s_gn rfl rfl ?_; (first | (refine zpt ?_) | (refine zpf ?_)); refine zn ?_)
    all_goals refine Q5 rfl ?_
    all_goals (refine zsk ?_; refine Q0 ?_; refine Q1 ?_; refine zm ?_; refine zE1 (c := Qia hv hS) (p := by rintro v9 w9 ⟨f, v8, h1, rfl, hS⟩; (repeat (first | refine Qo ?_ | refine Qp ?_ | refine fun _ => ?_)); refine QG ?_; refine .inr ⟨_, rfl, ?_⟩; exact ⟨_, _, h1, rfl, hS.sp⟩) (h := ?_); rintro v1 w1 ⟨n, v9, h1, rfl, hv9, hS⟩; refine zm ?_; refine zn ?_; refine zr ?_; refine zf ?_; exact .inl ⟨_, rfl, n, v9, h1, rfl, hv9, hS.sp⟩)
  | cons t r =>
    obtain ⟨a, t2, m⟩ := t
    cases m with
    | none =>
      unfold Fins
      all_goals refine Q2H ?_
      all_goals (unfold parse_parser_num_lc; refine Q0 ?_; refine Q1 ?_; refine zm ?_; refine zn ?_; refine Q0 ?_; refine Q0 ?_; refine Q1 ?_; refine zm ?_; refine Qn rfl ?_; refine Q2 rfl ?_; refine zl hS ?_; refine zL ?_; refine Q9f rfl rfl (by simp) ?_; refine zm ?_; (first | refine s_gn rfl rfl ?_ | (refine s_gy rfl ?_; refine zm ?_)); (first | refine s_gn rfl rfl ?_ | (refine s_gy rfl ?_; refine Qn rfl ?_)); (first | refine s_gn rfl rfl ?_ | (refine s_gy rfl ?_; refine Q2 rfl ?_)); (first | refine s_gn rfl rfl ?_ | (refine s_gy rfl ?_; refine zl hS ?_)))
      all_goals (first | refine s_gn rfl rfl ?_ | (refine s_gy rfl ?_; refine Q1K (m := 0) vw rfl hv rfl (by simp) ?_; intro b1 o1 cs1 x1 hat1 hx1 he1; cases hx1; obtain rfl := Q1O he1))
      all_goals ((first | refine s_gn rfl rfl ?_ | (refine s_gy rfl ?_; (first | refine Q2 rfl ?_ | refine Q2b rfl ?_))); (first | refine s_gn rfl rfl ?_ | (refine s_gy rfl ?_; (first | (refine zl hS ?_) | (refine zlk hS ?_) | (refine zlj hS ?_)))); refine zpt ?_; refine zm ?_; refine s_gn rfl rfl ?_; refine s_gn rfl rfl ?_; refine s_gn rfl rfl ?_; refine s_gn rfl rfl ?_)
      all_goals (refine s_gn rfl rfl ?_)
      all_goals (refine s_gn rfl rfl ?_; refine s_gn rfl rfl ?_)
      all_goals (refine s_gn rfl rfl ?_)
      all_goals (refine s_gn rfl rfl ?_; refine s_gn rfl rfl ?_; refine s_gn rfl rfl ?_; refine s_gn rfl rfl ?_; refine s_gn rfl rfl ?_)
      all_goals (refine s_gn rfl rfl ?_)
      all_goals (refine s_gn rfl rfl ?_; refine s_gn rfl rfl ?_)
      all_goals (refine s_gn rfl rfl ?_)
      all_goals (refine s_gn rfl rfl ?_; (first | (refine zpt ?_) | (refine zpf ?_)); refine zn ?_)
      all_goals refine Q5 rfl ?_
      all_goals (refine zsk ?_; refine Q0 ?_; refine Q1 ?_; refine zm ?_; refine zE1 (c := Qia hv hS) (p := by rintro v9 w9 ⟨f, v8, h1, rfl, hS⟩; (repeat (first | refine Qo ?_ | refine Qp ?_ | refine fun _ => ?_)); refine QG ?_; refine .inr ⟨_, rfl, ?_⟩; exact ⟨_, _, h1, rfl, hS.sp⟩) (h := ?_); rintro v1 w1 ⟨n, v9, h1, rfl, hv9, hS⟩; refine zm ?_; refine zn ?_; refine zr ?_; refine zf ?_; exact .inl ⟨_, rfl, n, v9, h1, rfl, hv9, hS.sp⟩)
    | some n =>
      have hw : wideT (⟨a, t2, some n⟩ :: r) = decide (n < 0 ∨ 1000000 < n) := rfl
      unfold Fins pNum
      rw [hw]
      all_goals refine Q2H ?_
      all_goals (unfold parse_parser_num_lc; refine Q0 ?_; refine Q1 ?_; refine zm ?_; refine zn ?_; refine Q0 ?_; refine Q0 ?_; refine Q1 ?_; refine zm ?_; refine Qn rfl ?_; refine Q2 rfl ?_; refine zl hS ?_; refine zL ?_; refine Q9f rfl rfl (by simp) ?_; refine zm ?_; (first | refine s_gn rfl rfl ?_ | (refine s_gy rfl ?_; refine zm ?_)); (first | refine s_gn rfl rfl ?_ | (refine s_gy rfl ?_; refine Qn rfl ?_)); (first | refine s_gn rfl rfl ?_ | (refine s_gy rfl ?_; refine Q2 rfl ?_)); (first | refine s_gn rfl rfl ?_ | (refine s_gy rfl ?_; refine zl hS ?_)))
      all_goals (first | refine s_gn rfl rfl ?_ | (refine s_gy rfl ?_; refine Q1K (m := 0) vw rfl hv rfl (by simp) ?_; intro b1 o1 cs1 x1 hat1 hx1 he1; cases hx1; obtain rfl := Q1O he1))
      all_goals ((first | refine s_gn rfl rfl ?_ | (refine s_gy rfl ?_; (first | refine Q2 rfl ?_ | refine Q2b rfl ?_))); (first | refine s_gn rfl rfl ?_ | (refine s_gy rfl ?_; (first | (refine zl hS ?_) | (refine zlk hS ?_) | (refine zlj hS ?_)))); refine zpt ?_; refine zm ?_; (first | refine s_gn rfl rfl ?_ | (refine s_gy rfl ?_; refine zm ?_)); (first | refine s_gn rfl rfl ?_ | (refine s_gy rfl ?_; refine Qn rfl ?_)); (first | refine s_gn rfl rfl ?_ | (refine s_gy rfl ?_; refine Q2 rfl ?_)); (first | refine s_gn rfl rfl ?_ | (refine s_gy rfl ?_; refine zl hS ?_)))
      all_goals (first | refine s_gn rfl rfl ?_ | (refine s_gy rfl ?_; refine Q1K (m := 0) vw rfl hv rfl (by simp) ?_; intro b1 o1 cs1 x1 hat1 hx1 he1; cases hx1; obtain rfl := Q1O he1))
      all_goals ((first | refine s_gn rfl rfl ?_ | (refine s_gy rfl ?_; (first | refine Q2 rfl ?_ | refine Q2b rfl ?_))); (first | refine s_gn rfl rfl ?_ | (refine s_gy rfl ?_; (first | (refine zl hS ?_) | (refine zlk hS ?_) | (refine zlj hS ?_)))))
      all_goals (first | refine s_gn rfl rfl ?_ | (refine s_gy rfl ?_; refine QR (a := n) rfl rfl (fun hc => ?_) (fun hc => ?_)))
      all_goals ((first | refine s_gn rfl rfl ?_ | (refine s_gy rfl ?_; refine zm ?_)); (first | refine s_gn rfl rfl ?_ | (refine s_gy rfl ?_; refine zm ?_)); (first | refine s_gn rfl rfl ?_ | (refine s_gy rfl ?_; refine Qn rfl ?_)); (first | refine s_gn rfl rfl ?_ | (refine s_gy rfl ?_; refine Q2 rfl ?_)); (first | refine s_gn rfl rfl ?_ | (refine s_gy rfl ?_; refine zl hS ?_)))
      all_goals (first | refine s_gn rfl rfl ?_ | (refine s_gy rfl ?_; refine Q1K (m := 0) vw rfl hv rfl (by simp) ?_; intro b1 o1 cs1 x1 hat1 hx1 he1; cases hx1; obtain rfl := Q1O he1))
      all_goals ((first | refine s_gn rfl rfl ?_ | (refine s_gy rfl ?_; (first | refine Q2 rfl ?_ | refine Q2b rfl ?_))); (first | refine s_gn rfl rfl ?_ | (refine s_gy rfl ?_; (first | (refine zl hS ?_) | (refine zlk hS ?_) | (refine zlj hS ?_)))))
      all_goals (first | refine s_gn rfl rfl ?_ | (refine s_gy rfl ?_; refine Qr (a := n) rfl rfl (fun hc => ?_) (fun hc => ?_)))
      all_goals ((first | refine s_gn rfl rfl ?_ | (refine s_gy rfl ?_; (first | (refine zpt ?_) | (refine zpf ?_)))); refine zpt ?_; refine zn ?_)
      all_goals
        first
        | (refine Q4 rfl ?_ -- Q1I c0
           all_goals (refine Q1 ?_; refine zm ?_)
           all_goals (refine zE2 (c := Q6t hv hS) (p := by rintro v9 w9 ⟨rfl, hS⟩; (repeat (first | refine Qo ?_ | refine Qp ?_ | refine fun _ => ?_)); refine QG ?_; refine .inr ⟨_, rfl, ?_⟩; exact ⟨_, _, if_pos (decide_eq_true (by omega)), rfl, hS.sp⟩) (h := fun _ _ h9 => by cases h9))
           all_goals refine zn ?_)
        | (refine Q5 rfl ?_ -- Q1I c0
           all_goals refine zsk ?_)
      all_goals (refine Q0 ?_; refine Q1 ?_; refine zm ?_)
      all_goals (refine zE1 (c := Qia hv hS) (p := by rintro v9 w9 ⟨f, v8, h1, rfl, hS⟩; (repeat (first | refine Qo ?_ | refine Qp ?_ | refine fun _ => ?_)); refine QG ?_; refine .inr ⟨_, rfl, ?_⟩; cases h1) (h := ?_); rintro v1 w1 ⟨n, v9, h1, rfl, hv9, hS⟩)
      all_goals (refine zm ?_; refine zn ?_; refine zr ?_; refine zf ?_)
      all_goals (exact .inl ⟨_, rfl, n, v9, (by rw [if_neg]; exact h1; rw [decide_eq_true_iff]; cases h1; omega), rfl, hv9, hS.sp⟩)
end Go.Proofs.YtjecflbbcnocdaaGreatDoor
namespace Go.Lir
section
variable {α : Type}
def Q2l (xs : List α) (X : PGot (List α)) : PGot (List α) := match X with
  | .ok (l, r) => .ok (xs ++ l, r)
  | .error e => .error e
theorem Qlp (X : PGot (List α)) : Q2l [] X = X := by
  unfold Q2l
  split <;> simp
variable {e n : Nat} {b cl : List UInt8} {f : List Tok → PGot α} {l l1 l2 l3 : List Tok} {xs : List α} {a : α} {g : Flt} {X : PGot (List α)}
theorem Qo8 (h : want e b l = .error g) : Q1Q e b cl f l = .error g := by unfold Q1Q; rw [h]; rfl
theorem Qo9 (h : want e b l = .ok ((), l1)) : Q1Q e b cl f l = Q2l [] (pMany e cl f (101 - 0) 0 l1) := by unfold Q1Q; rw [h, Qlp]; rfl
theorem Qkb (hd : X = Q2l xs (pMany e cl f (101 - n) n l1)) (hn : n ≤ 100) (h : isT cl l1 = true) : X = .ok (xs, l1.tail) := by
  rw [hd, show 101 - n = (100 - n) + 1 by omega, pMany, if_pos h]; simp [Q2l]
theorem Qo5 (hd : X = Q2l xs (pMany e cl f (101 - n) n l1)) (hn : n ≤ 100) (h : isT cl l1 = false) (h0 : 0 < n) (hw : want e [44] l1 = .error g) : X = .error g := by
  rw [hd, show 101 - n = (100 - n) + 1 by omega, pMany, if_neg (by rw [h]; decide), if_neg (by omega), hw]; rfl
theorem Qo7 (hd : X = Q2l xs (pMany e cl f (101 - n) n l1)) (hn : n ≤ 100) (h : isT cl l1 = false) (hw : (if n = 0 then .ok ((), l1) else want e [44] l1) = .ok ((), l2)) (hf : f l2 = .error g) : X = .error g := by
  rw [hd, show 101 - n = (100 - n) + 1 by omega, pMany, if_neg (by rw [h]; decide), hw]
  simp only [Qc, hf]; rfl
theorem Qo6 (hd : X = Q2l xs (pMany e cl f (101 - n) n l1)) (hn : n ≤ 100) (h : isT cl l1 = false) (hw : (if n = 0 then .ok ((), l1) else want e [44] l1) = .ok ((), l2)) (hf : f l2 = .ok (a, l3)) : X = Q2l (xs ++ [a]) (pMany e cl f (101 - (n + 1)) (n + 1) l3) := by
  rw [hd, show 101 - n = (100 - n) + 1 by omega, pMany, if_neg (by rw [h]; decide), hw]
  simp only [Qc, hf]
  rw [show 101 - (n + 1) = 100 - n by omega]
  cases pMany e cl f (100 - n) (n + 1) l3 with
  | error e => rfl
  | ok p => obtain ⟨y, r⟩ := p; simp [Q2l]
theorem Qo4 (hd : X = Q2l xs (pMany e cl f (101 - n) n l1)) (hn : 100 < n) : X = .error (Q2Q e 2 l1) := by
  rw [hd, show 101 - n = 0 by omega, pMany]; rfl
theorem Q9 (l : List Tok) : l.tail.length ≤ l.length := by simp
theorem isT_lt {s : List UInt8} {l : List Tok} (h : isT s l = true) : l.tail.length < l.length := by
  cases l with
  | nil => cases h
  | cons t r => simp
theorem Q4J {s : List UInt8} {l l2 : List Tok} (h : want e s l = .ok ((), l2)) : l2 = l.tail ∧ l2.length < l.length := by
  unfold want at h
  split at h
  · rename_i hq; cases h; exact ⟨rfl, isT_lt hq⟩
  · cases h
theorem Qot {l l2 : List Tok} {n : Int} (h : Q61 e l = .ok (n, l2)) : l2 = l.tail ∧ l2.length < l.length := by
  cases l with
  | nil => cases h
  | cons t r =>
    obtain ⟨a, t2, m⟩ := t
    cases m with
    | none => cases h
    | some k => cases h; simp
theorem num_lt {l l2 : List Tok} {n : Int} (h : pNum e l = .ok (n, l2)) : l2 = l.tail ∧ l2.length < l.length := by
  unfold pNum at h
  split at h
  · cases h
  · exact Qot h
end
end Go.Lir
namespace Go.Proofs.YtjecflbbcnocdaaGreatDoor
open Go.Lir
set_option maxHeartbeats 1000000
attribute [local irreducible] LC.wp Q3 QF QK retQ Q1E LO.wp Qq Calls
set_option linter.unusedSimpArgs false
set_option linter.unusedVariables false
attribute [local irreducible] pMany Q1Q Q2l pNum want isT
variable {cx : Cx} {w : World} {L : List Res}
/-- What a reader answers: a thing that its cells say, a list, or that it gives up. -/
def POk {α : Type} (r : Rep α) (tv : List Value → Value) (X : PGot α) (pb e n : Nat) (cx : Cx) (L : List Res) (u : Value) (w' : World) : Prop :=
  ∃ a l' v' c' ds, X = .ok (a, l') ∧ l'.length ≤ n ∧ cx.Le c' ∧ r.at c' ds a ∧ u = tv ds ∧ tokR.sl c' v' l' ∧ St c' w' (prs pb v' e :: L)
def POkS {α : Type} (r : Rep α) (X : PGot (List α)) (pb e n : Nat) (cx : Cx) (L : List Res) (u : Value) (w' : World) : Prop :=
  ∃ xs l' v' c', X = .ok (xs, l') ∧ l'.length ≤ n ∧ cx.Le c' ∧ r.sl c' u xs ∧ tokR.sl c' v' l' ∧ St c' w' (prs pb v' e :: L)
def PBad {α : Type} (X : PGot α) (pb e : Nat) (cx : Cx) (L : List Res) (u : Value) (w' : World) : Prop :=
  ∃ f v', X = .error f ∧ u = Qli f ∧ St cx w' (prs pb v' e :: L)
/-- A reader of one thing, whatever else lies about. -/
def PrC {α : Type} (r : Rep α) (tv : List Value → Value) (P : Program) (g : FuncId) (cap : List Value) (f : List Tok → PGot α) (pb e n0 : Nat) (cx : Cx) (L : List Res) : Prop :=
  ∀ (v1 : Value) (l1 : List Tok) (c1 : Cx) (w1 : World) (r0 : Res), cx.Le c1 → l1.length ≤ n0 → tokR.sl c1 v1 l1 → St c1 w1 (prs pb v1 e :: r0 :: L) → Fins P g cap w1 (POk r tv (f l1) pb e l1.length c1 (r0 :: L)) (PBad (f l1) pb e c1 (r0 :: L))
def pint1 (ds : List Value) : Value := ds.getD 0 undef
def Q56 (ds : List Value) : Value := .agg ⟨ds⟩
def slen (v : Value) : Nat := match v with
  | .slice _ n _ => n
  | _ => 0
theorem St.slen {c : Cx} {i T es : Nat} {v : Value} {css : List (List Value)} (hS : St c w L) (hi : nth L i = some (sl T es v css)) : slen v = css.length := by
  obtain ⟨F, hr, _⟩ := hS.step hi
  obtain ⟨a, n, rfl⟩ := Sl.shape hr
  rfl
theorem Q1U {b T : Nat} {s : List UInt8} (hS : St cx w (blk b T [.string ⟨s.toArray⟩] :: L)) : St cx w (sl T 1 (.slice (some ⟨b, 0, none⟩) 1 1) [[.string ⟨s.toArray⟩]] :: L) :=
  St.slOf hS rfl (by intro c hc; simp at hc; subst hc; rfl) rfl
theorem Qlg {f : List Tok → PGot _} {pb e : Nat} {b cl : List UInt8} {v fv : Value} {g : FuncId} {cap : List Value} {l : List Tok} (hfv : FnV fv g cap) (hg : Q38 Tryz.prog g = true) (hone : PrC intR pint1 Tryz.prog g cap f pb e l.length cx L) (hv : tokR.sl cx v l) (hS : St cx w (prs pb v e :: L)) :
    Fins Tryz.prog Q1t [.pointer (some ⟨pb, 0, none⟩), .string ⟨b.toArray⟩, .string ⟨cl.toArray⟩, fv] w (POkS intR (Q1Q e b cl f l) pb e l.length cx L) (PBad (Q1Q e b cl f l) pb e cx L) := by
  unfold PrC at hone
  have hle := St.refl hS
  unfold Fins
  all_goals refine Qbo ?_
  all_goals (unfold parse_list_int_lc; refine Q0 ?_; refine Q1 ?_; refine zm ?_; refine zn ?_; refine Q0 ?_; refine Q1 ?_; refine zm ?_; refine zm ?_; refine zB1 hS [_] ?_; intro b1 w1 hS; have hS := Q1U hS; refine zE2 (c := Q1T hv hS) (p := by rintro v9 w9 ⟨f9, v8, hw1, rfl, hS⟩; (repeat (first | refine Qo ?_ | refine Qp ?_ | refine fun _ => ?_)); refine QG ?_; refine .inr ⟨_, rfl, ?_⟩; exact ⟨_, _, Qo8 hw1, rfl, hS.sp⟩) (h := ?_); rintro v1 w1 ⟨rfl, hw1, v9, hv9, hS⟩; refine zn ?_; refine Q0 ?_; refine Q1 ?_; refine zm ?_; refine zn ?_; refine Q0 ?_; refine Qh ?_; have hS := St.nil (T := 3) (es := 1) hS; have hd0 := Qo9 (cl := cl) (f := f) hw1; have hlt := (Q4J hw1).2)
  refine zo [0, 2, 3] (fun A ρ' w' => ∃ (k0 : Cx) (n : Nat) (v1 : Value) (l1 : List Tok) (vl : Value) (co : List (List Value)) (xs : List _), Has ρ' A ∧ Has ρ' [(9, vl)] ∧ (cx.Le k0) ∧ (n ≤ 100) ∧ (xs.length = n) ∧ (l1.length ≤ l.length) ∧ (tokR.sl k0 v1 l1) ∧ (Rep.ls intR k0 co xs) ∧ (oneC vl = true) ∧ (Q1Q e b cl f l = Q2l xs (pMany e cl f (101 - n) n l1)) ∧ St k0 w' (sl 3 1 vl co :: prs pb v1 e :: L)) (fun ρ' _ => 101 - slen (ρ' 9)) ?_ ?_
  · exact ⟨cx, 0, v9, l.tail, _, _, [], zh, zh, St.refl hS, (by omega), rfl, Q9 l, hv9, Rep.LR.nil _ _ _, rfl, hd0, hS.sp⟩
  rintro ρ w1 ⟨k0, n, v1, l1, vl, co, xs, hA, hρ, hle2, hn, hxl, hll, hv1, hlo, hvl, hd, hS⟩; obtain ⟨ρ, rfl⟩ := env2 hA hρ; have hL0 := hle2; (try have hle := hle.trans hle2)
  unfold Q4F
  all_goals (refine Q0 ?_; refine Q0 ?_; refine Q1 ?_; refine zm ?_; refine zm ?_)
  all_goals (have hsl := St.slen hS (i := 0) rfl; have hcl := hlo.1; have hS : St k0 _ (prs pb v1 e :: sl 3 1 vl co :: L) := hS.sp; refine zR2 (c := is_c hv1 hS) (h := ?_); rintro u1 w1 ⟨rfl, hS⟩; cases hq : isT cl l1)
  all_goals (refine Q1w rfl ?_; refine zn ?_)
  all_goals
    first
    | (refine Q4 rfl ?_ -- Q1t c0
       all_goals (refine zsk ?_; refine Qh ?_)
       refine zM [0, 2, 3, 9] (fun A ρ' w' => ∃ (v2 : Value) (l2 : List Tok), Has ρ' A ∧ Has ρ' [] ∧ ((if n = 0 then .ok ((), l1) else want e [44] l1) = .ok ((), l2)) ∧ (l2.length ≤ l1.length) ∧ (tokR.sl k0 v2 l2) ∧ St k0 w' (prs pb v2 e :: sl 3 1 vl co :: L)) ?_ ?_
       · skip
         all_goals (refine Q0 ?_; refine Q1 ?_; refine zm ?_; refine Qdy hS vw (i := 1) rfl (n := n) (by omega) ?_)
         all_goals (first | (refine QQ ?_) | (refine Q11 ?_) | (refine Qr rfl rfl (fun hc => ?_) (fun hc => ?_)))
         all_goals (refine zn ?_)
         all_goals
           first
           | (refine Q4 rfl ?_ -- Q1t c1
              all_goals (refine Q1 ?_; refine zm ?_; refine zB1 hS [_] ?_; intro b1 w1 hS; have hS := Q1U (s := [44]) hS; refine zE2 (c := Q1T hv1 hS) (p := by rintro v9 w9 ⟨f9, v8, hw2, rfl, hS⟩; (repeat (first | refine Qo ?_ | refine Qp ?_ | refine fun _ => ?_)); refine QG ?_; refine .inr ⟨_, rfl, ?_⟩; exact ⟨_, _, Qo5 hd hn hq (by omega) hw2, rfl, St.weak hS.sp hL0⟩) (h := ?_); rintro v1 w1 ⟨rfl, hw2, v8, hv8, hS⟩)
              all_goals refine zn ?_)
           | (refine Q5 rfl ?_ -- Q1t c1
              all_goals refine zsk ?_)
         all_goals ((first | (exact ⟨v8, l1.tail, zh, zh, by rw [if_neg (by omega)]; exact hw2, Q9 l1, hv8, hS.sp⟩) | (exact ⟨v1, l1, zh, zh, if_pos (by omega), by omega, hv1, hS.sp⟩)))
       rintro ρ w1 ⟨v2, l2, hA, hρ, hw3, hl2, hv2, hS⟩; obtain ⟨ρ, rfl⟩ := env2 hA hρ
       all_goals (refine Q0 ?_; refine Q1 ?_; refine zm ?_; refine zm ?_)
       all_goals (refine QnO rfl hfv hg (hone v2 l2 k0 _ _ hL0 (by omega) hv2 hS) (by rintro v9 w9 ⟨f9, v8, he1, rfl, hS⟩; (repeat (first | refine Qo ?_ | refine Qp ?_ | refine fun _ => ?_)); refine QG ?_; refine .inr ⟨_, rfl, ?_⟩; exact ⟨_, _, Qo7 hd hn hq hw3 he1, rfl, St.weak hS.sp hL0⟩) ?_; rintro v1 w1 ⟨a, l3, v3, c3, ds, he1, h4, hle2, hd1, rfl, hv3, hS⟩; (try have hle := hle.trans hle2); (try have hL0 := hL0.trans hle2); (try have hv1 := hv1.up hle2); (try have hlo := hlo.up hle2); have hd1' := hd1; unfold pint1; obtain rfl := Qd3 hd1; have hd4 := Qo6 hd hn hq hw3 he1)
       all_goals (refine zB1 hS [_] ?_; intro b1 w1 hS; refine za el_T46 u_T46 hS ?_; intro vp1 w1 css1 hls1 hv1 hS; have hS := hS.ns; refine zm ?_; refine zn ?_; refine Q0 ?_; have hsl2 := St.slen hS (i := 2) rfl; have hcl2 := hls1.1; rw [List.length_append] at hcl2; have hc1 : [a].length = 1 := rfl; refine Q1 ?_; refine zm ?_; refine Qdy hS vw (i := 2) rfl (n := n + 1) (by omega) ?_)
       all_goals (first | (refine QQ ?_) | (refine Q11 ?_) | (refine Qr rfl rfl (fun hc => ?_) (fun hc => ?_)))
       all_goals (refine zn ?_)
       all_goals
         first
         | (refine Q4 rfl ?_ -- Q1t c2
            all_goals (refine Q1 ?_; refine zm ?_)
            all_goals (refine zE2 (c := Q6t hv3 hS.drop) (p := by rintro v9 w9 ⟨rfl, hS⟩; (repeat (first | refine Qo ?_ | refine Qp ?_ | refine fun _ => ?_)); refine QG ?_; refine .inr ⟨_, rfl, ?_⟩; exact ⟨_, _, Qo4 hd4 (by omega), rfl, St.weak hS.sp hL0⟩) (h := fun _ _ h9 => by cases h9))
            all_goals refine zn ?_)
         | (refine Q5 rfl ?_ -- Q1t c2
            all_goals refine zsk ?_)
       all_goals (exact ⟨⟨_, n + 1, v3, l3, _, _, xs ++ [a], zh, zh, hL0, by omega, by simp [hxl], by omega, hv3, hls1, by assumption, hd4, hS.sp⟩, (by show 101 - slen vp1 < 101 - slen vl; omega)⟩))
    | (refine Q5 rfl ?_ -- Q1t c0
       all_goals (refine zex ?_; refine Q0 ?_; refine Q1 ?_; refine zm ?_; refine zm ?_; refine zB1 hS [_] ?_; intro b1 w1 hS; have hS := Q1U hS)
       all_goals (refine zE2 (c := Q1T hv1 hS) (p := by rintro v9 w9 ⟨f9, v8, hw4, rfl, hS⟩; (repeat (first | refine Qo ?_ | refine Qp ?_ | refine fun _ => ?_)); refine QG ?_; refine .inr ⟨_, rfl, ?_⟩; (exfalso; rw [Qno hq] at hw4; cases hw4)) (h := ?_); rintro v1 w1 ⟨rfl, hw4, v8, hv8, hS⟩)
       all_goals (refine zn ?_; refine Q0 ?_; refine Q1 ?_; refine zm ?_; refine zm ?_; refine zn ?_; refine zr ?_; refine zf ?_)
       all_goals (obtain ⟨c4, hle4, hS, hk4⟩ := St.freezeL (r := intR) (hS.out (r := sl 3 1 vl co) fd) hlo rfl (by omega); exact .inl ⟨_, rfl, xs, l1.tail, v8, c4, Qkb hd hn hq, (by have := Q9 l1; omega), hL0.trans hle4, hk4, hv8.up hle4, hS.sp⟩))
theorem Qhn {f : List Tok → PGot _} {pb e : Nat} {b cl : List UInt8} {v fv : Value} {g : FuncId} {cap : List Value} {l : List Tok} (hfv : FnV fv g cap) (hg : Q38 Tryz.prog g = true) (hone : PrC tyR Q56 Tryz.prog g cap f pb e l.length cx L) (hv : tokR.sl cx v l) (hS : St cx w (prs pb v e :: L)) :
    Fins Tryz.prog QE [.pointer (some ⟨pb, 0, none⟩), .string ⟨b.toArray⟩, .string ⟨cl.toArray⟩, fv] w (POkS tyR (Q1Q e b cl f l) pb e l.length cx L) (PBad (Q1Q e b cl f l) pb e cx L) := by
  unfold PrC at hone
  have hle := St.refl hS
  unfold Fins
  all_goals refine Q60 ?_
  all_goals (unfold parse_list_api_Type_lc; refine Q0 ?_; refine Q1 ?_; refine zm ?_; refine zn ?_; refine Q0 ?_; refine Q1 ?_; refine zm ?_; refine zm ?_; refine zB1 hS [_] ?_; intro b1 w1 hS; have hS := Q1U hS; refine zE2 (c := Q1T hv hS) (p := by rintro v9 w9 ⟨f9, v8, hw1, rfl, hS⟩; (repeat (first | refine Qo ?_ | refine Qp ?_ | refine fun _ => ?_)); refine QG ?_; refine .inr ⟨_, rfl, ?_⟩; exact ⟨_, _, Qo8 hw1, rfl, hS.sp⟩) (h := ?_); rintro v1 w1 ⟨rfl, hw1, v9, hv9, hS⟩; refine zn ?_; refine Q0 ?_; refine Q1 ?_; refine zm ?_; refine zn ?_; refine Q0 ?_; refine Qh ?_; have hS := St.nil (T := 91) (es := 3) hS; have hd0 := Qo9 (cl := cl) (f := f) hw1; have hlt := (Q4J hw1).2)
  refine zo [0, 2, 3] (fun A ρ' w' => ∃ (k0 : Cx) (n : Nat) (v1 : Value) (l1 : List Tok) (vl : Value) (co : List (List Value)) (xs : List _), Has ρ' A ∧ Has ρ' [(9, vl)] ∧ (cx.Le k0) ∧ (n ≤ 100) ∧ (xs.length = n) ∧ (l1.length ≤ l.length) ∧ (tokR.sl k0 v1 l1) ∧ (Rep.ls tyR k0 co xs) ∧ (oneC vl = true) ∧ (Q1Q e b cl f l = Q2l xs (pMany e cl f (101 - n) n l1)) ∧ St k0 w' (sl 91 3 vl co :: prs pb v1 e :: L)) (fun ρ' _ => 101 - slen (ρ' 9)) ?_ ?_
  · exact ⟨cx, 0, v9, l.tail, _, _, [], zh, zh, St.refl hS, (by omega), rfl, Q9 l, hv9, Rep.LR.nil _ _ _, rfl, hd0, hS.sp⟩
  rintro ρ w1 ⟨k0, n, v1, l1, vl, co, xs, hA, hρ, hle2, hn, hxl, hll, hv1, hlo, hvl, hd, hS⟩; obtain ⟨ρ, rfl⟩ := env2 hA hρ; have hL0 := hle2; (try have hle := hle.trans hle2)
  unfold Q37
  all_goals (refine Q0 ?_; refine Q0 ?_; refine Q1 ?_; refine zm ?_; refine zm ?_)
  all_goals (have hsl := St.slen hS (i := 0) rfl; have hcl := hlo.1; have hS : St k0 _ (prs pb v1 e :: sl 91 3 vl co :: L) := hS.sp; refine zR2 (c := is_c hv1 hS) (h := ?_); rintro u1 w1 ⟨rfl, hS⟩; cases hq : isT cl l1)
  all_goals (refine Q1w rfl ?_; refine zn ?_)
  all_goals
    first
    | (refine Q4 rfl ?_ -- QE c0
       all_goals (refine zsk ?_; refine Qh ?_)
       refine zM [0, 2, 3, 9] (fun A ρ' w' => ∃ (v2 : Value) (l2 : List Tok), Has ρ' A ∧ Has ρ' [] ∧ ((if n = 0 then .ok ((), l1) else want e [44] l1) = .ok ((), l2)) ∧ (l2.length ≤ l1.length) ∧ (tokR.sl k0 v2 l2) ∧ St k0 w' (prs pb v2 e :: sl 91 3 vl co :: L)) ?_ ?_
       · skip
         all_goals (refine Q0 ?_; refine Q1 ?_; refine zm ?_; refine Qdy hS vw (i := 1) rfl (n := n) (by omega) ?_)
         all_goals (first | (refine QQ ?_) | (refine Q11 ?_) | (refine Qr rfl rfl (fun hc => ?_) (fun hc => ?_)))
         all_goals (refine zn ?_)
         all_goals
           first
           | (refine Q4 rfl ?_ -- QE c1
              all_goals (refine Q1 ?_; refine zm ?_; refine zB1 hS [_] ?_; intro b1 w1 hS; have hS := Q1U (s := [44]) hS; refine zE2 (c := Q1T hv1 hS) (p := by rintro v9 w9 ⟨f9, v8, hw2, rfl, hS⟩; (repeat (first | refine Qo ?_ | refine Qp ?_ | refine fun _ => ?_)); refine QG ?_; refine .inr ⟨_, rfl, ?_⟩; exact ⟨_, _, Qo5 hd hn hq (by omega) hw2, rfl, St.weak hS.sp hL0⟩) (h := ?_); rintro v1 w1 ⟨rfl, hw2, v8, hv8, hS⟩)
              all_goals refine zn ?_)
           | (refine Q5 rfl ?_ -- QE c1
              all_goals refine zsk ?_)
         all_goals ((first | (exact ⟨v8, l1.tail, zh, zh, by rw [if_neg (by omega)]; exact hw2, Q9 l1, hv8, hS.sp⟩) | (exact ⟨v1, l1, zh, zh, if_pos (by omega), by omega, hv1, hS.sp⟩)))
       rintro ρ w1 ⟨v2, l2, hA, hρ, hw3, hl2, hv2, hS⟩; obtain ⟨ρ, rfl⟩ := env2 hA hρ
       all_goals (refine Q0 ?_; refine Q1 ?_; refine zm ?_; refine zm ?_)
       all_goals (refine QnO rfl hfv hg (hone v2 l2 k0 _ _ hL0 (by omega) hv2 hS) (by rintro v9 w9 ⟨f9, v8, he1, rfl, hS⟩; (repeat (first | refine Qo ?_ | refine Qp ?_ | refine fun _ => ?_)); refine QG ?_; refine .inr ⟨_, rfl, ?_⟩; exact ⟨_, _, Qo7 hd hn hq hw3 he1, rfl, St.weak hS.sp hL0⟩) ?_; rintro v1 w1 ⟨a, l3, v3, c3, ds, he1, h4, hle2, hd1, rfl, hv3, hS⟩; (try have hle := hle.trans hle2); (try have hL0 := hL0.trans hle2); (try have hv1 := hv1.up hle2); (try have hlo := hlo.up hle2); have hd1' := hd1; unfold Q56; obtain ⟨vo, rfl, ho⟩ := Q1b hd1; have hd4 := Qo6 hd hn hq hw3 he1)
       all_goals (refine zB1 hS [_, _, _] ?_; intro b1 w1 hS; refine za el_T40 u_T40 hS ?_; intro vp1 w1 css1 hls1 hv1 hS; have hS := hS.ns; refine zm ?_; refine zn ?_; refine Q0 ?_; have hsl2 := St.slen hS (i := 2) rfl; have hcl2 := hls1.1; rw [List.length_append] at hcl2; have hc1 : [a].length = 1 := rfl; refine Q1 ?_; refine zm ?_; refine Qdy hS vw (i := 2) rfl (n := n + 1) (by omega) ?_)
       all_goals (first | (refine QQ ?_) | (refine Q11 ?_) | (refine Qr rfl rfl (fun hc => ?_) (fun hc => ?_)))
       all_goals (refine zn ?_)
       all_goals
         first
         | (refine Q4 rfl ?_ -- QE c2
            all_goals (refine Q1 ?_; refine zm ?_)
            all_goals (refine zE2 (c := Q6t hv3 hS.drop) (p := by rintro v9 w9 ⟨rfl, hS⟩; (repeat (first | refine Qo ?_ | refine Qp ?_ | refine fun _ => ?_)); refine QG ?_; refine .inr ⟨_, rfl, ?_⟩; exact ⟨_, _, Qo4 hd4 (by omega), rfl, St.weak hS.sp hL0⟩) (h := fun _ _ h9 => by cases h9))
            all_goals refine zn ?_)
         | (refine Q5 rfl ?_ -- QE c2
            all_goals refine zsk ?_)
       all_goals (exact ⟨⟨_, n + 1, v3, l3, _, _, xs ++ [a], zh, zh, hL0, by omega, by simp [hxl], by omega, hv3, hls1, by assumption, hd4, hS.sp⟩, (by show 101 - slen vp1 < 101 - slen vl; omega)⟩))
    | (refine Q5 rfl ?_ -- QE c0
       all_goals (refine zex ?_; refine Q0 ?_; refine Q1 ?_; refine zm ?_; refine zm ?_; refine zB1 hS [_] ?_; intro b1 w1 hS; have hS := Q1U hS)
       all_goals (refine zE2 (c := Q1T hv1 hS) (p := by rintro v9 w9 ⟨f9, v8, hw4, rfl, hS⟩; (repeat (first | refine Qo ?_ | refine Qp ?_ | refine fun _ => ?_)); refine QG ?_; refine .inr ⟨_, rfl, ?_⟩; (exfalso; rw [Qno hq] at hw4; cases hw4)) (h := ?_); rintro v1 w1 ⟨rfl, hw4, v8, hv8, hS⟩)
       all_goals (refine zn ?_; refine Q0 ?_; refine Q1 ?_; refine zm ?_; refine zm ?_; refine zn ?_; refine zr ?_; refine zf ?_)
       all_goals (obtain ⟨c4, hle4, hS, hk4⟩ := St.freezeL (r := tyR) (hS.out (r := sl 91 3 vl co) fd) hlo rfl (by omega); exact .inl ⟨_, rfl, xs, l1.tail, v8, c4, Qkb hd hn hq, (by have := Q9 l1; omega), hL0.trans hle4, hk4, hv8.up hle4, hS.sp⟩))
end Go.Proofs.YtjecflbbcnocdaaGreatDoor
namespace Go.Lir
set_option linter.unusedVariables false
section
variable {P : Program} {l : List GO} {Q : QT} {ρ : Env} {w : World} {c : Cx} {L : List Res} {v : Value}
/-- A closure, with what it holds. -/
theorem QnK {d f : Nat} {caps : List Operand} {u : List Value} (hu : caps.map ρ.ev = u) (h : Q3 P l Q (upd ρ d (.func (.func f) #[] ⟨u⟩)) w) : Q3 P (⟨none, .mkfn d f caps⟩ :: l) Q ρ w := by
  subst hu; exact h
end
end Go.Lir
namespace Go.Lir
section
variable {e k n : Nat} {l l1 l2 l3 : List Tok} {m : Int} {f : Flt} {ts : List Ty}
theorem ty_0 : pTyp e 0 l = .error (Q2Q e 19 l) := by rw [pTyp]
theorem ty_i (h : isT tInt l = true) : pTyp e (k + 1) l = .ok (.mk 1 0 [], l.tail) := by rw [pTyp, if_pos h]
theorem ty_h (h : isT tInt l = false) (h2 : isT Q3c l = true) (h3 : pNum e l.tail = .ok (m, l2)) : pTyp e (k + 1) l = .ok (.mk 2 m [], l2) := by
  rw [pTyp, if_neg (by rw [h]; decide), if_pos h2, h3]; rfl
theorem ty_he (h : isT tInt l = false) (h2 : isT Q3c l = true) (h3 : pNum e l.tail = .error f) : pTyp e (k + 1) l = .error f := by
  rw [pTyp, if_neg (by rw [h]; decide), if_pos h2, h3]; rfl
theorem ty_a (h : isT tInt l = false) (h1 : isT Q3c l = false) (h2 : isT Q6h l = true) (h3 : pNum e l.tail = .ok (m, l2)) : pTyp e (k + 1) l = .ok (.mk 4 m [], l2) := by
  rw [pTyp, if_neg (by rw [h]; decide), if_neg (by rw [h1]; decide), if_pos h2, h3]; rfl
theorem ty_ae (h : isT tInt l = false) (h1 : isT Q3c l = false) (h2 : isT Q6h l = true) (h3 : pNum e l.tail = .error f) : pTyp e (k + 1) l = .error f := by
  rw [pTyp, if_neg (by rw [h]; decide), if_neg (by rw [h1]; decide), if_pos h2, h3]; rfl
theorem ty_tup (h : isT tInt l = false) (h1 : isT Q3c l = false) (h2 : isT Q6h l = false) : pTyp e (k + 1) l = Qc (want e Q3j l) fun _ l => Qc (pNum e l) fun n l => Qc (Q1Q e [40] [41] (pTyp e k) l) fun ts l => .ok (.mk 3 n ts, l) := by
  rw [pTyp, if_neg (by rw [h]; decide), if_neg (by rw [h1]; decide), if_neg (by rw [h2]; decide)]
theorem tup_w {X : PGot Ty} (hX : X = Qc (want e Q3j l) fun _ l => Qc (pNum e l) fun n l => Qc (Q1Q e [40] [41] (pTyp e k) l) fun ts l => .ok (.mk 3 n ts, l)) (h : want e Q3j l = .error f) : X = .error f := by rw [hX, h]; rfl
theorem tup_n {X : PGot Ty} (hX : X = Qc (want e Q3j l) fun _ l => Qc (pNum e l) fun n l => Qc (Q1Q e [40] [41] (pTyp e k) l) fun ts l => .ok (.mk 3 n ts, l)) (h : want e Q3j l = .ok ((), l1)) (h1 : pNum e l1 = .error f) : X = .error f := by rw [hX, h]; simp only [Qc, h1]
theorem tup_l {X : PGot Ty} (hX : X = Qc (want e Q3j l) fun _ l => Qc (pNum e l) fun n l => Qc (Q1Q e [40] [41] (pTyp e k) l) fun ts l => .ok (.mk 3 n ts, l)) (h : want e Q3j l = .ok ((), l1)) (h1 : pNum e l1 = .ok (m, l2)) (h2 : Q1Q e [40] [41] (pTyp e k) l2 = .error f) : X = .error f := by rw [hX, h]; simp only [Qc, h1, h2]
theorem tup_o {X : PGot Ty} (hX : X = Qc (want e Q3j l) fun _ l => Qc (pNum e l) fun n l => Qc (Q1Q e [40] [41] (pTyp e k) l) fun ts l => .ok (.mk 3 n ts, l)) (h : want e Q3j l = .ok ((), l1)) (h1 : pNum e l1 = .ok (m, l2)) (h2 : Q1Q e [40] [41] (pTyp e k) l2 = .ok (ts, l3)) : X = .ok (.mk 3 m ts, l3) := by rw [hX, h]; simp only [Qc, h1, h2]
end
end Go.Lir
namespace Go.Proofs.YtjecflbbcnocdaaGreatDoor
open Go.Lir
set_option maxHeartbeats 1000000
attribute [local irreducible] LC.wp Q3 QF QK retQ Q1E LO.wp Qq Calls
set_option linter.unusedSimpArgs false
set_option linter.unusedVariables false
attribute [local irreducible] pMany Q1Q Q2l pNum want isT pTyp
variable {cx : Cx} {w : World} {L : List Res}
theorem pone_num {pb e n0 : Nat} : PrC intR pint1 Tryz.prog Q1I [.pointer (some ⟨pb, 0, none⟩)] (pNum e) pb e n0 cx L := by
  intro v1 l1 c1 w1 r0 hle hn hv hS
  refine Fins.mono (Q2g hv hS) ?_ ?_
  · rintro u w' ⟨n, v', h1, rfl, hv', hS⟩; exact ⟨n, l1.tail, v', c1, [.int .i64 n], h1, Q9 l1, St.refl hS, rfl, rfl, hv', hS⟩
  · rintro u w' ⟨f, v', h1, rfl, hS⟩; exact ⟨f, v', h1, rfl, hS⟩
theorem Qbd {pb e : Nat} {b cl : List UInt8} {v : Value} {l : List Tok} (hv : tokR.sl cx v l) (hS : St cx w (prs pb v e :: L)) :
    Fins Tryz.prog Q4r [.pointer (some ⟨pb, 0, none⟩), .string ⟨b.toArray⟩, .string ⟨cl.toArray⟩] w (POkS intR (Q1Q e b cl (pNum e) l) pb e l.length cx L) (PBad (Q1Q e b cl (pNum e) l) pb e cx L) := by
  unfold Fins
  all_goals refine Q7P ?_
  all_goals (unfold parse_parser_nums_lc; refine Q0 ?_; refine Q1 ?_; refine zm ?_; refine zn ?_; refine Q0 ?_; refine Q1 ?_; refine zm ?_; refine zm ?_; refine zm ?_; refine zm ?_; refine s_mkb (u := [.pointer (some ⟨pb, 0, none⟩)]) rfl ?_; refine zE4 (c := Qlg (cx := cx) ⟨[_], [], rfl, rfl⟩ (by kernel_rfl) pone_num hv hS) (p := by rintro v9 w9 hX; (repeat (first | refine Qo ?_ | refine Qp ?_ | refine fun _ => ?_)); refine QG ?_; refine .inr ⟨_, rfl, ?_⟩; exact hX) (h := ?_); rintro v1 w1 hX; refine zm ?_; refine zn ?_; refine zr ?_; refine zf ?_; exact .inl ⟨_, rfl, hX⟩)
/-- What the reader of a type does where so many levels are left. -/
def TyC (pb e k : Nat) : Prop :=
  ∀ (cx : Cx) (w : World) (L : List Res) (d : Int) (v : Value) (l : List Tok), 0 ≤ d → d + k = 5 → tokR.sl cx v l → St cx w (prs pb v e :: L) →
    Fins Tryz.prog QW [.pointer (some ⟨pb, 0, none⟩), .int .i64 d] w (POk tyR Q56 (pTyp e k l) pb e l.length cx L) (PBad (pTyp e k l) pb e cx L)
theorem ptyp_z {pb e : Nat} : TyC pb e 0 := by
  intro cx w L d v l h0 hd hv hS
  unfold Fins
  all_goals refine Q3K ?_
  all_goals (unfold parse_parser_typ_lc; refine Q0 ?_; refine Q1 ?_; refine zb hS ?_; intro p2 w1 hS; refine zb hS ?_; intro p3 w1 hS; refine Qb hS ?_; intro p4 w1 hS; refine zn ?_; refine Q0 ?_; refine Q0 ?_; refine Q1 ?_; refine zl hS ?_)
  all_goals (refine QQ ?_)
  all_goals (refine zn ?_)
  all_goals refine Q4 rfl ?_
  all_goals (refine Q1 ?_; refine zl hS ?_)
  all_goals (refine zE2 (c := Q6t hv (L := blk p4 91 [.int .i64 0, .int .i64 0, .slice none 0 0] :: blk p3 3 [.int .i64 d] :: blk p2 68 [.pointer (some ⟨pb, 0, none⟩)] :: L) hS.sp) (p := by rintro v9 w9 ⟨rfl, hS⟩; (repeat (first | refine Qo ?_ | refine Qp ?_ | refine fun _ => ?_)); refine QG ?_; refine .inr ⟨_, rfl, ?_⟩; exact ⟨_, _, ty_0, rfl, hS.sp⟩) (h := fun _ _ h9 => by cases h9))
  all_goals (refine zn ?_; refine Q0 ?_; refine Qh ?_; refine Q0 ?_; refine Q1 ?_; refine zl hS ?_; fail "no contract of Q3L"; refine zm ?_; refine zn ?_)
  all_goals
    first
    | (refine Q4 rfl ?_ -- QW c1
       all_goals (refine Q0 ?_; refine Q1 ?_; refine zl hS ?_; fail "no contract of Q1u"; refine zn ?_; refine Q0 ?_; refine Q1 ?_; refine zb1 [_, _, _] ?_; refine zsn hS ?_; intro w1 hS; have hS := hS.ns; refine zn ?_; refine zr ?_; refine Q1G vw (Qa (n := 3) (by kernel_rfl) (by kernel_rfl) (hS.blkAt fd) (by rfl) (by rfl)) ?_)
       all_goals (trace_state; fail "no ret fits"))
  all_goals (refine Q0 ?_; refine Q1 ?_; refine zl hS ?_; refine zB1 hS [_] ?_; intro b1 w1 hS; fail "no contract of Q1P"; refine zn ?_; refine Q0 ?_; refine Q1 ?_; refine zl hS ?_; fail "no contract of Q1I"; refine zb2 [_, _, _] ?_; refine Qb hS ?_; intro p5 w1 hS; refine zsn hS ?_; intro w1 hS; have hS := hS.ns; refine zn ?_; refine Q0 ?_; refine Q1 ?_; refine zl hS ?_; refine s_mkfn ?_; fail "no contract of QE"; refine Q2 rfl ?_; refine zst hS ?_; intro w1 hS; have hS := hS.ns; refine zn ?_; refine Q0 ?_; refine Q1 ?_; refine zv hS ?_; refine zsn hS ?_; intro w1 hS; have hS := hS.ns; refine zn ?_; refine zr ?_; refine Q1G vw (Qa (n := 3) (by kernel_rfl) (by kernel_rfl) (hS.blkAt fd) (by rfl) (by rfl)) ?_; trace_state; fail "no ret fits")
theorem pone_ty {pb e p q k n0 : Nat} {d : Int} {M : List Res} (hrec : TyC pb e k) (h0 : 0 ≤ d) (hd : d + k = 4) (hM : ∀ {c : Cx} {w : World} {r0 : Res} {v : Value}, St c w (prs pb v e :: r0 :: M) → ∃ M', St c w (prs pb v e :: blk p 68 [.pointer (some ⟨pb, 0, none⟩)] :: blk q 3 [.int .i64 d] :: M') ∧ ∀ {c' : Cx} {w' : World} {v' : Value}, St c' w' (prs pb v' e :: blk p 68 [.pointer (some ⟨pb, 0, none⟩)] :: blk q 3 [.int .i64 d] :: M') → St c' w' (prs pb v' e :: r0 :: M)) :
    PrC tyR Q56 Tryz.prog Q2T [.pointer (some ⟨p, 0, none⟩), .pointer (some ⟨q, 0, none⟩)] (pTyp e k) pb e n0 cx M := by
  intro v1 l1 c1 w1 r0 hle hn hv hS
  obtain ⟨M', hS, hback⟩ := hM hS
  have hd4 : d ≤ 4 := by omega
  suffices h : Fins Tryz.prog Q2T [.pointer (some ⟨p, 0, none⟩), .pointer (some ⟨q, 0, none⟩)] w1 (POk tyR Q56 (pTyp e k l1) pb e l1.length c1 (blk p 68 [.pointer (some ⟨pb, 0, none⟩)] :: blk q 3 [.int .i64 d] :: M')) (PBad (pTyp e k l1) pb e c1 (blk p 68 [.pointer (some ⟨pb, 0, none⟩)] :: blk q 3 [.int .i64 d] :: M')) by
    refine Fins.mono h ?_ ?_
    · rintro u w' ⟨a, l', v', c', ds, g1, g2, g3, g4, g5, g6, hS⟩; exact ⟨a, l', v', c', ds, g1, g2, g3, g4, g5, g6, hback hS⟩
    · rintro u w' ⟨f, v', g1, g2, hS⟩; exact ⟨f, v', g1, g2, hback hS⟩
  unfold Fins
  all_goals refine Q6A ?_
  all_goals (unfold parse_parser_typ_1_lc; refine Q0 ?_; refine Q1 ?_; refine Qb hS ?_; intro p2 w1 hS; refine zn ?_; refine Q0 ?_; refine Q1 ?_; refine zl hS ?_; refine zl hS ?_; refine zad ?_; refine zE2 (c := hrec c1 _ _ (d + 1) v1 l1 (by omega) (by omega) hv (St.mv1 hS)) (p := by rintro u9 w9 ⟨f, v', g1, rfl, hS⟩; (repeat (first | refine Qo ?_ | refine Qp ?_ | refine fun _ => ?_)); refine QG ?_; refine .inr ⟨_, rfl, ?_⟩; exact ⟨f, v', g1, rfl, hS.sp⟩) (h := ?_); rintro u1 w2 ⟨a, l', v', c', ds, g1, g2, hle2, g4, rfl, g6, hS⟩; obtain ⟨vo, rfl, ho⟩ := Q1b g4; have hoo := Rep.SR.oneC ho; unfold Q56; refine zsn hS ?_; intro w1 hS; have hS := hS.ns; refine zn ?_; refine zr ?_; refine Q1G vw (Qa (n := 3) (by kernel_rfl) (by kernel_rfl) (hS.blkAt fd) (by rfl) (by rfl)) ?_; exact .inl ⟨_, rfl, a, l', v', c', _, g1, g2, hle2, g4, rfl, g6, hS.sp⟩)
theorem ptyp_s {pb e k : Nat} (hrec : TyC pb e k) : TyC pb e (k + 1) := by
  intro cx w L d v l h0 hd hv hS
  have hle := St.refl hS
  have hnil : tyR.sl cx (.slice none 0 0) [] := Rep.SR.nil _ _ _
  unfold Fins
  all_goals refine Q3K ?_
  all_goals (unfold parse_parser_typ_lc; refine Q0 ?_; refine Q1 ?_; refine zb hS ?_; intro p2 w1 hS; refine zb hS ?_; intro p3 w1 hS; refine Qb hS ?_; intro p4 w1 hS; refine zn ?_; refine Q0 ?_; refine Q0 ?_; refine Q1 ?_; refine zl hS ?_)
  all_goals (first | (refine QQ ?_) | (refine Q11 ?_))
  all_goals (refine zn ?_)
  all_goals refine Q5 rfl ?_
  all_goals (refine zsk ?_; refine Q0 ?_; refine Qh ?_; refine Q0 ?_; refine Q1 ?_; refine zl hS ?_)
  all_goals (have hS : St cx _ (prs pb v e :: blk p4 91 [.int .i64 0, .int .i64 0, .slice none 0 0] :: blk p3 3 [.int .i64 d] :: blk p2 68 [.pointer (some ⟨pb, 0, none⟩)] :: L) := hS.sp; refine zR2 (c := is_c (s := tInt) hv hS) (h := ?_); rintro u1 w1 ⟨rfl, hS⟩; cases hq1 : isT tInt l)
  all_goals (refine zm ?_; refine zn ?_)
  all_goals
    first
    | (refine Q4 rfl ?_ -- QW c1
       all_goals (refine Q0 ?_; refine Q1 ?_; refine zl hS ?_; obtain ⟨t9, ht9⟩ := Qbu hq1; refine zR1 (c := Q9i ht9 hv hS) (h := ?_); rintro u1 w1 ⟨rfl, v9, hv9, hS⟩; refine zn ?_; refine Q0 ?_; refine Q1 ?_; refine zb1 [_, _, _] ?_; refine zsn hS ?_; intro w1 hS; have hS := hS.ns; refine zn ?_; refine zr ?_; refine Q1G vw (Qa (n := 3) (by kernel_rfl) (by kernel_rfl) (hS.blkAt fd) (by rfl) (by rfl)) ?_)
       all_goals (exact .inl ⟨_, rfl, .mk 1 0 [], l.tail, v9, cx, _, ty_i hq1, Q9 l, hle, Q8Z hnil, rfl, hv9, hS.sp⟩))
    | (refine Q5 rfl ?_ -- QW c1
       all_goals (refine Q0 ?_; refine Q1 ?_; refine zl hS ?_)
       all_goals (refine zR2 (c := is_c (s := Q3c) hv hS) (h := ?_); rintro u1 w1 ⟨rfl, hS⟩; cases hq2 : isT Q3c l)
       all_goals (refine zm ?_; refine zn ?_)
       all_goals
         first
         | (refine Q4 rfl ?_ -- QW c2
            all_goals (refine Q0 ?_; refine Q1 ?_; refine zl hS ?_; obtain ⟨t9, ht9⟩ := Qbu hq2; refine zR1 (c := Q9i ht9 hv hS) (h := ?_); rintro u1 w1 ⟨rfl, v9, hv9, hS⟩; refine zn ?_; refine Q0 ?_; refine Q1 ?_; refine zl hS ?_; refine zE1 (c := Q2g hv9 hS) (p := by rintro u9 w9 ⟨f, v', g1, rfl, hS⟩; (repeat (first | refine Qo ?_ | refine Qp ?_ | refine fun _ => ?_)); refine QG ?_; refine .inr ⟨_, rfl, ?_⟩; exact ⟨f, v', ty_he hq1 hq2 g1, rfl, hS.sp⟩) (h := ?_); rintro u1 w2 ⟨m, v8, g1, rfl, hv8, hS⟩; refine zb2 [_, _, _] ?_; refine zsn hS ?_; intro w1 hS; have hS := hS.ns; refine zn ?_; refine zr ?_; refine Q1G vw (Qa (n := 3) (by kernel_rfl) (by kernel_rfl) (hS.blkAt fd) (by rfl) (by rfl)) ?_)
            all_goals ((first | exact .inl ⟨_, rfl, .mk 1 0 [], l.tail, v9, cx, _, ty_i hq1, Q9 l, hle, Q8Z hnil, rfl, hv9, hS.sp⟩ | exact .inl ⟨_, rfl, .mk 2 m [], l.tail.tail, v8, cx, _, ty_h hq1 hq2 g1, (by have := Q9 l; have := Q9 l.tail; omega), hle, Q8Z hnil, rfl, hv8, hS.sp⟩)))
         | (refine Q5 rfl ?_ -- QW c2
            all_goals (refine Q0 ?_; refine Q1 ?_; refine zl hS ?_)
            all_goals (refine zR2 (c := is_c (s := Q6h) hv hS) (h := ?_); rintro u1 w1 ⟨rfl, hS⟩; cases hq3 : isT Q6h l)
            all_goals (refine zm ?_; refine zn ?_)
            all_goals
              first
              | (refine Q4 rfl ?_ -- QW c3
                 all_goals (refine Q0 ?_; refine Q1 ?_; refine zl hS ?_; obtain ⟨t9, ht9⟩ := Qbu hq3; refine zR1 (c := Q9i ht9 hv hS) (h := ?_); rintro u1 w1 ⟨rfl, v9, hv9, hS⟩; refine zn ?_; refine Q0 ?_; refine Q1 ?_; refine zl hS ?_; refine zE1 (c := Q2g hv9 hS) (p := by rintro u9 w9 ⟨f, v', g1, rfl, hS⟩; (repeat (first | refine Qo ?_ | refine Qp ?_ | refine fun _ => ?_)); refine QG ?_; refine .inr ⟨_, rfl, ?_⟩; exact ⟨f, v', ty_ae hq1 hq2 hq3 g1, rfl, hS.sp⟩) (h := ?_); rintro u1 w2 ⟨m, v8, g1, rfl, hv8, hS⟩; refine zb2 [_, _, _] ?_; refine zsn hS ?_; intro w1 hS; have hS := hS.ns; refine zn ?_; refine zr ?_; refine Q1G vw (Qa (n := 3) (by kernel_rfl) (by kernel_rfl) (hS.blkAt fd) (by rfl) (by rfl)) ?_)
                 all_goals ((first | exact .inl ⟨_, rfl, .mk 1 0 [], l.tail, v9, cx, _, ty_i hq1, Q9 l, hle, Q8Z hnil, rfl, hv9, hS.sp⟩ | exact .inl ⟨_, rfl, .mk 2 m [], l.tail.tail, v8, cx, _, ty_h hq1 hq2 g1, (by have := Q9 l; have := Q9 l.tail; omega), hle, Q8Z hnil, rfl, hv8, hS.sp⟩ | exact .inl ⟨_, rfl, .mk 4 m [], l.tail.tail, v8, cx, _, ty_a hq1 hq2 hq3 g1, (by have := Q9 l; have := Q9 l.tail; omega), hle, Q8Z hnil, rfl, hv8, hS.sp⟩)))
              | (refine Q5 rfl ?_ -- QW c3
                 all_goals refine zsk ?_)))
  all_goals (refine Q0 ?_; have hX := ty_tup (e := e) (k := k) hq1 hq2 hq3; refine Q1 ?_; refine zl hS ?_; refine zB1 hS [_] ?_; intro b1 w1 hS; have hS := Q1U (s := Q3j) hS; refine zE2 (c := Q1T hv hS) (p := by rintro u9 w9 ⟨f9, v8, hw1, rfl, hS⟩; (repeat (first | refine Qo ?_ | refine Qp ?_ | refine fun _ => ?_)); refine QG ?_; refine .inr ⟨_, rfl, ?_⟩; exact ⟨_, _, tup_w hX hw1, rfl, hS.sp⟩) (h := ?_); rintro u1 w2 ⟨rfl, hw1, v9, hv9, hS⟩; refine zn ?_; refine Q0 ?_; refine Q1 ?_; refine zl hS ?_; refine zE1 (c := Q2g hv9 hS) (p := by rintro u9 w9 ⟨f, v', g1, rfl, hS⟩; (repeat (first | refine Qo ?_ | refine Qp ?_ | refine fun _ => ?_)); refine QG ?_; refine .inr ⟨_, rfl, ?_⟩; exact ⟨f, v', tup_n hX hw1 g1, rfl, hS.sp⟩) (h := ?_); rintro u1 w2 ⟨m, v8, g1, rfl, hv8, hS⟩; refine zb2 [_, _, _] ?_; refine Qb hS ?_; intro p5 w1 hS; refine zsn hS ?_; intro w1 hS; have hS := hS.ns; refine zn ?_; refine Q0 ?_; refine Q1 ?_; refine zl hS ?_; refine QnK (u := [.pointer (some ⟨p2, 0, none⟩), .pointer (some ⟨p3, 0, none⟩)]) rfl ?_)
  all_goals (have hS : St cx _ (prs pb v8 e :: blk p5 91 [.int .i64 3, .int .i64 m, .slice none 0 0] :: blk p4 91 [.int .i64 0, .int .i64 0, .slice none 0 0] :: blk p3 3 [.int .i64 d] :: blk p2 68 [.pointer (some ⟨pb, 0, none⟩)] :: L) := hS.sp; refine zE4 (c := Qhn (cx := cx) ⟨[], [_, _], rfl, rfl⟩ (by kernel_rfl) (pone_ty hrec h0 (by omega) (fun hS => ⟨_, hS.sp, fun hS => hS.sp⟩)) hv8 hS) (p := by rintro u9 w9 ⟨f, v', g2, rfl, hS⟩; (repeat (first | refine Qo ?_ | refine Qp ?_ | refine fun _ => ?_)); refine QG ?_; refine .inr ⟨_, rfl, ?_⟩; exact ⟨f, v', tup_l hX hw1 g1 g2, rfl, hS.sp⟩) (h := ?_); rintro u3 w3 ⟨xs, l3, v7, c3, g2, g3, hle3, hl3, hv7, hS⟩; have ho3 := Rep.SR.oneC hl3)
  all_goals (refine Q2 rfl ?_; refine zst hS ?_; intro w1 hS; have hS := hS.ns; refine zn ?_; refine Q0 ?_; refine Q1 ?_; refine zv hS ?_; refine zsn hS ?_; intro w1 hS; have hS := hS.ns; refine zn ?_; refine zr ?_; refine Q1G vw (Qa (n := 3) (by kernel_rfl) (by kernel_rfl) (hS.blkAt fd) (by rfl) (by rfl)) ?_; (first | exact .inl ⟨_, rfl, .mk 1 0 [], l.tail, v9, cx, _, ty_i hq1, Q9 l, hle, Q8Z hnil, rfl, hv9, hS.sp⟩ | exact .inl ⟨_, rfl, .mk 2 m [], l.tail.tail, v8, cx, _, ty_h hq1 hq2 g1, (by have := Q9 l; have := Q9 l.tail; omega), hle, Q8Z hnil, rfl, hv8, hS.sp⟩ | exact .inl ⟨_, rfl, .mk 4 m [], l.tail.tail, v8, cx, _, ty_a hq1 hq2 hq3 g1, (by have := Q9 l; have := Q9 l.tail; omega), hle, Q8Z hnil, rfl, hv8, hS.sp⟩ | exact .inl ⟨_, rfl, .mk 3 m xs, l3, v7, c3, _, tup_o hX hw1 g1 g2, (by have := Q9 l; have := Q9 l.tail; omega), hle3, Q8Z hl3, rfl, hv7, hS.sp⟩))
theorem ptyp_c {pb e : Nat} : ∀ k, TyC pb e k
  | 0 => ptyp_z
  | k + 1 => ptyp_s (ptyp_c k)
theorem pone_ty1 {pb e p n0 : Nat} : PrC tyR Q56 Tryz.prog Q2x [.pointer (some ⟨p, 0, none⟩)] (pTyp e 5) pb e n0 cx (blk p 68 [.pointer (some ⟨pb, 0, none⟩)] :: L) := by
  intro v1 l1 c1 w1 r0 hle hn hv hS
  suffices h : Fins Tryz.prog Q2x [.pointer (some ⟨p, 0, none⟩)] w1 (POk tyR Q56 (pTyp e 5 l1) pb e l1.length c1 (r0 :: blk p 68 [.pointer (some ⟨pb, 0, none⟩)] :: L)) (PBad (pTyp e 5 l1) pb e c1 (r0 :: blk p 68 [.pointer (some ⟨pb, 0, none⟩)] :: L)) from h
  unfold Fins
  all_goals refine Q50 ?_
  all_goals (unfold parse_parser_types_1_lc; refine Q0 ?_; refine Q1 ?_; refine Qb hS ?_; intro p1 w1 hS; refine zn ?_; refine Q0 ?_; refine Q1 ?_; refine zl hS ?_; refine zE2 (c := ptyp_c 5 c1 _ _ 0 v1 l1 (by omega) (by omega) hv (St.mv1 hS)) (p := by rintro u9 w9 ⟨f, v', g1, rfl, hS⟩; (repeat (first | refine Qo ?_ | refine Qp ?_ | refine fun _ => ?_)); refine QG ?_; refine .inr ⟨_, rfl, ?_⟩; exact ⟨f, v', g1, rfl, hS.sp⟩) (h := ?_); rintro u1 w2 ⟨a, l', v', c', ds, g1, g2, hle2, g4, rfl, g6, hS⟩; obtain ⟨vo, rfl, ho⟩ := Q1b g4; have hoo := Rep.SR.oneC ho; unfold Q56; refine zsn hS ?_; intro w1 hS; have hS := hS.ns; refine zn ?_; refine zr ?_; refine Q1G vw (Qa (n := 3) (by kernel_rfl) (by kernel_rfl) (hS.blkAt fd) (by rfl) (by rfl)) ?_; exact .inl ⟨_, rfl, a, l', v', c', _, g1, g2, hle2, g4, rfl, g6, hS.sp⟩)
theorem Qi9 {pb e : Nat} {v : Value} {l : List Tok} (hv : tokR.sl cx v l) (hS : St cx w (prs pb v e :: L)) :
    Fins Tryz.prog Q3Y [.pointer (some ⟨pb, 0, none⟩)] w (POkS tyR (Q3M e l) pb e l.length cx L) (PBad (Q3M e l) pb e cx L) := by
  unfold Fins Q3M
  all_goals refine Q6x ?_
  all_goals (unfold parse_parser_types_lc; refine Q0 ?_; refine Q1 ?_; refine zb hS ?_; intro p1 w1 hS; refine zm ?_; refine zn ?_; refine Q0 ?_; refine Q1 ?_; refine zl hS ?_; refine QnK (u := [.pointer (some ⟨p1, 0, none⟩)]) rfl ?_; have hS : St cx _ (prs pb v e :: blk p1 68 [.pointer (some ⟨pb, 0, none⟩)] :: L) := hS.sp; refine zE4 (c := Qhn (cx := cx) ⟨[], [_], rfl, rfl⟩ (by kernel_rfl) pone_ty1 hv hS) (p := by rintro u9 w9 ⟨f, v', g2, rfl, hS⟩; (repeat (first | refine Qo ?_ | refine Qp ?_ | refine fun _ => ?_)); refine QG ?_; refine .inr ⟨_, rfl, ?_⟩; exact ⟨f, v', g2, rfl, hS.sp⟩) (h := ?_); rintro u3 w3 ⟨xs, l3, v7, c3, g2, g3, hle3, hl3, hv7, hS⟩; refine zm ?_; refine zn ?_; refine zr ?_; refine zf ?_; exact .inl ⟨_, rfl, xs, l3, v7, c3, g2, g3, hle3, hl3, hv7, hS.sp⟩)
end Go.Proofs.YtjecflbbcnocdaaGreatDoor
namespace Go.Proofs.YtjecflbbcnocdaaGreatDoor
open Go.Lir
set_option maxHeartbeats 1000000
attribute [local irreducible] LC.wp Q3 QF QK retQ Q1E LO.wp Qq Calls
set_option linter.unusedSimpArgs false
set_option linter.unusedVariables false
variable {cx : Cx} {w : World} {L : List Res}
abbrev strV (t : List UInt8) : Value := .string ⟨t.toArray⟩
theorem Qmd {ws : List (List UInt8)} {k : Int} (h1 : 1 ≤ k) (h2 : k ≤ ws.length) : (([] :: ws).map strV)[k.toNat]? = some (strV (wordN ws k)) := by
  obtain ⟨n, rfl⟩ : ∃ n : Nat, k = (n : Int) + 1 := ⟨(k - 1).toNat, by omega⟩
  rw [List.map_cons, show ((n : Int) + 1).toNat = n + 1 by omega, List.getElem?_cons_succ, List.getElem?_map]
  unfold wordN
  rw [if_neg (by omega), List.getD_eq_getElem?_getD, show ((n : Int) + 1).toNat - 1 = n by omega, List.getElem?_eq_getElem (by omega)]; rfl
theorem Qmc {ws : List (List UInt8)} {k : Int} (h : k < 1 ∨ ws.length < k) : wordN ws k = [] := by
  unfold wordN
  split
  · rfl
  · rw [List.getD_eq_getElem?_getD, List.getElem?_eq_none (by omega)]; rfl
theorem popw_c {k : Int} (hS : St cx w L) : Rets Tryz.prog Qms [.int .i64 k] w fun u w' => u = strV (wordN opWords k) ∧ St cx w' L := by
  have hlen : opWords.length = 14 := rfl
  by_cases hb : k < 0 ∨ 14 < k
  · rw [Qmc (by omega)]
    all_goals refine Q9J ?_
    all_goals (unfold parse_Op_lc; refine Q0 ?_; refine Q1 ?_; refine zm ?_; refine zn ?_; refine Q0 ?_; refine Q0 ?_; refine Q1 ?_; refine zm ?_)
    all_goals (first | (refine Q26 ?_) | (refine Q27 ?_) | (refine QR rfl rfl (fun hc => ?_) (fun hc => ?_)))
    all_goals (refine zm ?_; (first | refine s_gn rfl rfl ?_ | (refine s_gy rfl ?_; refine zm ?_)))
    all_goals (first | refine s_gn rfl rfl ?_ | (refine s_gy rfl ?_; refine QQ ?_))
    all_goals ((first | (refine zpt ?_) | (refine zpf ?_)); refine zn ?_)
    all_goals refine Q4 rfl ?_
    all_goals (refine Q0 ?_; refine Q1 ?_; refine zm ?_; refine zn ?_; refine zr ?_; refine zf ?_; refine ⟨_, rfl, ?_, hS.sp⟩; (rfl); done)
  · by_cases h0 : k = 0
    · subst h0
      all_goals refine Q9J ?_
      all_goals (unfold parse_Op_lc; refine Q0 ?_; refine Q1 ?_; refine zm ?_; refine zn ?_; refine Q0 ?_; refine Q0 ?_; refine Q1 ?_; refine zm ?_)
      all_goals (first | (refine Q26 ?_) | (refine Q27 ?_))
      all_goals (refine zm ?_; (first | refine s_gn rfl rfl ?_ | (refine s_gy rfl ?_; refine zm ?_)))
      all_goals (first | refine s_gn rfl rfl ?_ | (refine s_gy rfl ?_; (first | (refine QQ ?_) | (refine Q11 ?_))))
      all_goals ((first | (refine zpt ?_) | (refine zpf ?_)); refine zn ?_)
      all_goals refine Q5 rfl ?_
      all_goals (refine zsk ?_; refine Q0 ?_; refine Q1 ?_; refine QdC (cs := [_, _, _, _, _, _, _, _, _, _, _, _, _, _, _]) vw vw vw vw vw vw vw vw vw vw vw vw vw vw vw (by rfl) ?_; refine zm ?_; refine Qk6 (n := 15) (e := 9) (by kernel_rfl) (by kernel_rfl) (by kernel_rfl) vw vw (by omega) (by omega) (show ((([] :: opWords).map strV)[(0 : Int).toNat]? = some (strV [])) from rfl) ?_; refine zm ?_; refine zn ?_; refine zr ?_; refine zf ?_; refine ⟨_, rfl, ?_, hS.sp⟩; (rfl); done)
    · have hu := Qmd (ws := opWords) (k := k) (by omega) (by omega)
      generalize wordN opWords k = s at hu ⊢
      all_goals refine Q9J ?_
      all_goals (unfold parse_Op_lc; refine Q0 ?_; refine Q1 ?_; refine zm ?_; refine zn ?_; refine Q0 ?_; refine Q0 ?_; refine Q1 ?_; refine zm ?_)
      all_goals (first | (refine Q26 ?_) | (refine Q27 ?_))
      all_goals (refine zm ?_; (first | refine s_gn rfl rfl ?_ | (refine s_gy rfl ?_; refine zm ?_)))
      all_goals (first | refine s_gn rfl rfl ?_ | (refine s_gy rfl ?_; (first | (refine QQ ?_) | (refine Q11 ?_))))
      all_goals ((first | (refine zpt ?_) | (refine zpf ?_)); refine zn ?_)
      all_goals refine Q5 rfl ?_
      all_goals (refine zsk ?_; refine Q0 ?_; refine Q1 ?_; refine QdC (cs := [_, _, _, _, _, _, _, _, _, _, _, _, _, _, _]) vw vw vw vw vw vw vw vw vw vw vw vw vw vw vw (by rfl) ?_; refine zm ?_; refine Qk6 (n := 15) (e := 9) (by kernel_rfl) (by kernel_rfl) (by kernel_rfl) vw vw (by omega) (by omega) hu ?_; refine zm ?_; refine zn ?_; refine zr ?_; refine zf ?_; refine ⟨_, rfl, ?_, hS.sp⟩; (rfl); done)
theorem Qmr {k : Int} (hS : St cx w L) : Rets Tryz.prog Qhp [.int .i64 k] w fun u w' => u = strV (wordN kindWords k) ∧ St cx w' L := by
  have hlen : kindWords.length = 9 := rfl
  by_cases hb : k < 0 ∨ 9 < k
  · rw [Qmc (by omega)]
    all_goals refine Q54 ?_
    all_goals (unfold parse_Kind_lc; refine Q0 ?_; refine Q1 ?_; refine zm ?_; refine zn ?_; refine Q0 ?_; refine Q0 ?_; refine Q1 ?_; refine zm ?_)
    all_goals (first | (refine Q26 ?_) | (refine Q27 ?_) | (refine QR rfl rfl (fun hc => ?_) (fun hc => ?_)))
    all_goals (refine zm ?_; (first | refine s_gn rfl rfl ?_ | (refine s_gy rfl ?_; refine zm ?_)))
    all_goals (first | refine s_gn rfl rfl ?_ | (refine s_gy rfl ?_; refine QQ ?_))
    all_goals ((first | (refine zpt ?_) | (refine zpf ?_)); refine zn ?_)
    all_goals refine Q4 rfl ?_
    all_goals (refine Q0 ?_; refine Q1 ?_; refine zm ?_; refine zn ?_; refine zr ?_; refine zf ?_; refine ⟨_, rfl, ?_, hS.sp⟩; (rfl); done)
  · by_cases h0 : k = 0
    · subst h0
      all_goals refine Q54 ?_
      all_goals (unfold parse_Kind_lc; refine Q0 ?_; refine Q1 ?_; refine zm ?_; refine zn ?_; refine Q0 ?_; refine Q0 ?_; refine Q1 ?_; refine zm ?_)
      all_goals (first | (refine Q26 ?_) | (refine Q27 ?_))
      all_goals (refine zm ?_; (first | refine s_gn rfl rfl ?_ | (refine s_gy rfl ?_; refine zm ?_)))
      all_goals (first | refine s_gn rfl rfl ?_ | (refine s_gy rfl ?_; (first | (refine QQ ?_) | (refine Q11 ?_))))
      all_goals ((first | (refine zpt ?_) | (refine zpf ?_)); refine zn ?_)
      all_goals refine Q5 rfl ?_
      all_goals (refine zsk ?_; refine Q0 ?_; refine Q1 ?_; refine zb10 [_, _, _, _, _, _, _, _, _, _] ?_; refine zm ?_; refine Qk6 (n := 10) (e := 9) (by kernel_rfl) (by kernel_rfl) (by kernel_rfl) vw vw (by omega) (by omega) (show ((([] :: kindWords).map strV)[(0 : Int).toNat]? = some (strV [])) from rfl) ?_; refine zm ?_; refine zn ?_; refine zr ?_; refine zf ?_; refine ⟨_, rfl, ?_, hS.sp⟩; (rfl); done)
    · have hu := Qmd (ws := kindWords) (k := k) (by omega) (by omega)
      generalize wordN kindWords k = s at hu ⊢
      all_goals refine Q54 ?_
      all_goals (unfold parse_Kind_lc; refine Q0 ?_; refine Q1 ?_; refine zm ?_; refine zn ?_; refine Q0 ?_; refine Q0 ?_; refine Q1 ?_; refine zm ?_)
      all_goals (first | (refine Q26 ?_) | (refine Q27 ?_))
      all_goals (refine zm ?_; (first | refine s_gn rfl rfl ?_ | (refine s_gy rfl ?_; refine zm ?_)))
      all_goals (first | refine s_gn rfl rfl ?_ | (refine s_gy rfl ?_; (first | (refine QQ ?_) | (refine Q11 ?_))))
      all_goals ((first | (refine zpt ?_) | (refine zpf ?_)); refine zn ?_)
      all_goals refine Q5 rfl ?_
      all_goals (refine zsk ?_; refine Q0 ?_; refine Q1 ?_; refine zb10 [_, _, _, _, _, _, _, _, _, _] ?_; refine zm ?_; refine Qk6 (n := 10) (e := 9) (by kernel_rfl) (by kernel_rfl) (by kernel_rfl) vw vw (by omega) (by omega) hu ?_; refine zm ?_; refine zn ?_; refine zr ?_; refine zf ?_; refine ⟨_, rfl, ?_, hS.sp⟩; (rfl); done)
end Go.Proofs.YtjecflbbcnocdaaGreatDoor
namespace Go.Lir
theorem idx_of {s : List UInt8} : ∀ {ws : List (List UInt8)} {i : Nat}, ws[i]? = some s → (∀ j, j < i → ws[j]? ≠ some s) → ws.idxOf s = i
  | x :: ws, 0, h, _ => by
    simp only [List.getElem?_cons_zero, Option.some.injEq] at h
    subst h; simp
  | x :: ws, i + 1, h, hn => by
    have hx : ¬ x = s := fun e => hn 0 (by omega) (by rw [e]; rfl)
    rw [List.idxOf_cons, show (x == s) = false by simp [hx]]
    have := idx_of (ws := ws) (i := i) (by simpa using h) fun j hj => by have := hn (j + 1) (by omega); simpa using this
    simp [this]
theorem idx_no {s : List UInt8} : ∀ {ws : List (List UInt8)}, (∀ j : Nat, j < ws.length → ws[j]? ≠ some s) → ws.idxOf s = ws.length
  | [], _ => rfl
  | x :: ws, h => by
    have hx : ¬ x = s := fun e => h 0 (by simp) (by rw [e]; rfl)
    rw [List.idxOf_cons, show (x == s) = false by simp [hx]]
    have := idx_no (ws := ws) fun j hj => by have := h (j + 1) (by simp; omega); simpa using this
    simp [this]
theorem find_y {s : List UInt8} {ws : List (List UInt8)} {i : Nat} (h : ws[i]? = some s) (hn : ∀ j, j < i → ws[j]? ≠ some s) : QiD ws s = i + 1 := by
  have hl := (List.getElem?_eq_some_iff.1 h).1
  unfold QiD; rw [idx_of h hn, if_pos hl]
theorem find_n {s : List UInt8} {ws : List (List UInt8)} (h : ∀ j : Nat, j < ws.length → ws[j]? ≠ some s) : QiD ws s = 0 := by
  unfold QiD; rw [idx_no h, if_neg (by omega)]
theorem Qnk {ws : List (List UInt8)} {i : Nat} (h : i < ws.length) : ws[i]? = some (wordN ws ((i : Int) + 1)) := by
  unfold wordN
  rw [if_neg (by omega), List.getD_eq_getElem?_getD, show ((i : Int) + 1).toNat - 1 = i by omega, List.getElem?_eq_getElem h]; rfl
theorem headW_le {ws : List (List UInt8)} {l : List Tok} : Q58 ws l ≤ ws.length := by
  unfold Q58
  split
  · omega
  · split
    · unfold QiD; split <;> omega
    · omega
section
variable {α β : Type} {X : PGot β} {A : PGot α} {f : α → List Tok → PGot β} {a : α} {l l1 : List Tok} {g : Flt} {e : Nat} {op : Int}
theorem Q1C (h : X = Qc A f) (hA : A = .error g) : X = .error g := by rw [h, hA]; rfl
theorem Q1F (h : X = Qc A f) (hA : A = .ok (a, l1)) : X = f a l1 := by rw [h, hA]; rfl
theorem pb_1 (h : op = 1) : Q3o e op l = Qc (Q61 e l) fun n l => .ok (⟨op, 0, 0, 0, 0, n, [], []⟩, l) := by subst h; rfl
theorem pb_2 (h : op = 2) : Q3o e op l = Qc (Qap e l) fun k l => Qc (pNum e l) fun a l => Qc (pNum e l) fun b l => .ok (⟨op, a, b, 0, k, 0, [], []⟩, l) := by subst h; rfl
theorem pb_4 (h : op = 4 ∨ op = 11 ∨ op = 13) : Q3o e op l = Qc (pNum e l) fun a l => .ok (⟨op, a, 0, 0, 0, 0, [], []⟩, l) := by rcases h with h | h | h <;> subst h <;> rfl
theorem pb_5 (h : op = 5) : Q3o e op l = Qc (pNum e l) fun a l => Qc (Qaq e l) fun args l => .ok (⟨op, a, 0, 0, 0, 0, [], args⟩, l) := by subst h; rfl
theorem pb_6 (h : op = 6) : Q3o e op l = Qc (pNum e l) fun a l => Qc (pNum e l) fun k l => .ok (⟨op, a, 0, 0, k, 0, [], []⟩, l) := by subst h; rfl
theorem pb_7 (h : op = 7) : Q3o e op l = Qc (pNum e l) fun a l => Qc (pNum e l) fun k l => Qc (pNum e l) fun b l => .ok (⟨op, a, b, 0, k, 0, [], []⟩, l) := by subst h; rfl
theorem pb_8 (h : op = 8 ∨ op = 9) : Q3o e op l = Qc (pNum e l) fun a l => Qc (pNum e l) fun b l => .ok (⟨op, a, b, 0, 0, 0, [], []⟩, l) := by rcases h with h | h <;> subst h <;> rfl
theorem pb_10 (h : op = 10) : Q3o e op l = Qc (pNum e l) fun a l => Qc (pNum e l) fun b l => Qc (pNum e l) fun c l => .ok (⟨op, a, b, c, 0, 0, [], []⟩, l) := by subst h; rfl
theorem pb_14 (h : op = 14) : Q3o e op l = Qc (pNum e l) fun k l => Qc (Qip e l) fun regs l => Qc (Qaq e l) fun args l => .ok (⟨op, 0, 0, 0, k, 0, regs, args⟩, l) := by subst h; rfl
theorem pb_0 (h : op ≠ 1 ∧ op ≠ 2 ∧ op ≠ 4 ∧ op ≠ 11 ∧ op ≠ 13 ∧ op ≠ 5 ∧ op ≠ 6 ∧ op ≠ 7 ∧ op ≠ 8 ∧ op ≠ 9 ∧ op ≠ 10 ∧ op ≠ 14) : Q3o e op l = .ok (⟨op, 0, 0, 0, 0, 0, [], []⟩, l) := by
  unfold Q3o; rw [if_neg (by omega), if_neg (by omega), if_neg (by omega), if_neg (by omega), if_neg (by omega), if_neg (by omega), if_neg (by omega), if_neg (by omega), if_neg (by omega)]
theorem kind_e {n : Nat} (h : Q58 kindWords l = n) (h0 : (n : Int) = 0) : Qap e l = .error (Q2Q e 4 l) := by unfold Qap; rw [h, if_pos (by omega)]
theorem kind_o {n : Nat} (h : Q58 kindWords l = n) (h0 : ¬ (n : Int) = 0) : Qap e l = .ok ((n : Int), l.tail) := by unfold Qap; rw [h, if_neg (by omega)]
theorem head_get {ws : List (List UInt8)} {n : Nat} (h : Q58 ws l = n) (h0 : ¬ (n : Int) = 0) : ∃ t, l[0]? = some t := by
  cases l with
  | nil => exact absurd h.symm (fun h => h0 (by rw [h]; rfl))
  | cons t r => exact ⟨t, rfl⟩
theorem Qd4 (h : Q58 opWords l = 0) : pIns e l = .ok (none, l) := by unfold pIns; rw [if_pos h]
theorem Q2P {n : Nat} (h : Q58 opWords l = n) (h0 : ¬ (n : Int) = 0) (hb : Q3o e n l.tail = .error g) : pIns e l = .error g := by unfold pIns; rw [h, if_neg (by omega), hb]; rfl
theorem ins_we {n : Nat} {x : Ins} (h : Q58 opWords l = n) (h0 : ¬ (n : Int) = 0) (hb : Q3o e n l.tail = .ok (x, l1)) (hw : want e [59] l1 = .error g) : pIns e l = .error g := by unfold pIns; rw [h, if_neg (by omega), hb]; simp only [Qc, hw]
theorem ins_o {n : Nat} {x : Ins} (h : Q58 opWords l = n) (h0 : ¬ (n : Int) = 0) (hb : Q3o e n l.tail = .ok (x, l1)) (hw : want e [59] l1 = .ok ((), l1.tail)) : pIns e l = .ok (some x, l1.tail) := by unfold pIns; rw [h, if_neg (by omega), hb]; simp only [Qc, hw]
end
end Go.Lir
namespace Go.Proofs.YtjecflbbcnocdaaGreatDoor
open Go.Lir
set_option maxHeartbeats 1000000
attribute [local irreducible] LC.wp Q3 QF QK retQ Q1E LO.wp Qq Calls
set_option linter.unusedSimpArgs false
set_option linter.unusedVariables false
attribute [local irreducible] pMany Q1Q Q2l pNum want isT pTyp Q3o Qap Q61 wordN
variable {cx : Cx} {w : World} {L : List Res}
theorem find_c {ws : List (List UInt8)} {g : FuncId} {s : List UInt8} {m : Int} (hm : m = ws.length) (hws : ws.length ≤ 100) (hg : Q38 Tryz.prog g = true) (hof : ∀ {cx : Cx} {w : World} {L : List Res} (k : Int), St cx w L → Rets Tryz.prog g [.int .i64 k] w fun u w' => u = strV (wordN ws k) ∧ St cx w' L) (hS : St cx w L) :
    Rets Tryz.prog Q7l [.string ⟨s.toArray⟩, .int .i64 m, .func (.func g) #[] #[]] w fun u w' => u = .int .i64 (QiD ws s) ∧ St cx w' L := by
  subst hm
  all_goals refine Qij ?_
  all_goals (unfold parse_find_lc; refine Q0 ?_; refine Q1 ?_; refine zm ?_; refine zn ?_; refine Q0 ?_; refine Q0 ?_; refine Q1 ?_; refine zm ?_; refine zn ?_; refine Qh ?_)
  refine zoL hS [0, 1, 2] (fun A LL ρ' w' => ∃ (i : Nat), Has ρ' A ∧ Has ρ' [(7, .int .i64 ((i : Int) + 1))] ∧ (i ≤ ws.length) ∧ (∀ j, j < i → ws[j]? ≠ some s) ∧ St cx w' (LL)) (fun ρ' _ => ((ws.length + 1) - iv (ρ' 7)).toNat) ?_ ?_
  · exact ⟨0, zh, zh, (by omega), fun j hj => by omega, hS.sp⟩
  rintro ρ w1 ⟨i, hA, hρ, hi, hno, hS⟩; obtain ⟨ρ, rfl⟩ := env2 hA hρ
  unfold Qan
  all_goals (refine Q0 ?_; refine Q0 ?_; refine Q1 ?_; refine zm ?_; refine zm ?_; refine Qi5 rfl rfl ?_; refine zn ?_)
  refine QO rfl (fun hc => ?_) (fun hc => ?_)
  · skip
    all_goals (refine zsk ?_; refine Q0 ?_; refine Qh ?_; refine Q0 ?_; refine Q1 ?_; refine zm ?_; refine zm ?_; refine QnQ rfl hg rfl (hof _ hS) ?_; rintro v1 w1 ⟨rfl, hS⟩; refine zm ?_)
    all_goals (refine Qmj rfl rfl ?_; have hwn := Qnk (ws := ws) (i := i) (by omega); cases hq : decide (wordN ws ((i : Int) + 1) = s))
    all_goals (refine zn ?_)
    all_goals
      first
      | (refine Q4 rfl ?_ -- Q7l c1
         all_goals (refine Q0 ?_; refine Q1 ?_; refine zm ?_; refine zm ?_; refine zn ?_; refine zr ?_; refine zf ?_)
         all_goals (exact ⟨_, rfl, (by rw [find_y (i := i) (by rw [hwn, of_decide_eq_true hq]) hno]; rfl), hS.sp⟩))
      | (refine Q5 rfl ?_ -- Q7l c1
         all_goals refine zsk ?_)
    all_goals (refine Q1 ?_; refine zm ?_; refine zad ?_; refine zm ?_; refine zn ?_)
    all_goals (exact ⟨⟨i + 1, zh, zh, (by omega), fun j hj => (by rcases (show j < i ∨ j = i by omega) with h9 | h9; exact hno j h9; rw [h9, hwn]; intro h; exact of_decide_eq_false hq (Option.some.inj h)), hS.sp⟩, Q16 (by omega)⟩)
  · skip
    all_goals (refine zex ?_; refine Q0 ?_; refine Q1 ?_; refine zm ?_; refine zn ?_; refine zr ?_; refine zf ?_; (first | exact ⟨_, rfl, (by rw [find_y (i := i) (by rw [hwn, of_decide_eq_true hq]) hno]; rfl), hS.sp⟩ | exact ⟨_, rfl, (by rw [find_n (fun j hj => hno j (by omega))]; rfl), hS.sp⟩))
end Go.Proofs.YtjecflbbcnocdaaGreatDoor
namespace Go.Proofs.YtjecflbbcnocdaaGreatDoor
open Go.Lir
set_option maxHeartbeats 1000000
attribute [local irreducible] LC.wp Q3 QF QK retQ Q1E LO.wp Qq Calls
set_option linter.unusedSimpArgs false
set_option linter.unusedVariables false
attribute [local irreducible] pMany Q1Q Q2l pNum want isT pTyp Q3o Qap Q61 wordN QiD pIns
variable {cx : Cx} {w : World} {L : List Res}
/-- What the reading of an instruction gives back. -/
def InsS (pb e : Nat) (v : Value) (l : List Tok) (cx : Cx) (L : List Res) (u : Value) (w' : World) : Prop :=
  (pIns e l = .ok (none, l) ∧ u = .tuple #[.agg ⟨[.int .i64 0, .int .i64 0, .int .i64 0, .int .i64 0, .int .i64 0, .int .i64 0, .slice none 0 0, .slice none 0 0]⟩, .bool false] ∧ St cx w' (prs pb v e :: L)) ∨
  (∃ x l' v' c' ds, pIns e l = .ok (some x, l') ∧ l'.length < l.length ∧ cx.Le c' ∧ insR.at c' ds x ∧ u = .tuple #[.agg ⟨ds⟩, .bool true] ∧ tokR.sl c' v' l' ∧ St c' w' (prs pb v' e :: L))
theorem len_cons {t : Tok} {r : List Tok} : ((t :: r : List Tok).length : Int) > 0 := by simp
theorem len_nil : ¬ ((([] : List Tok).length : Int) > 0) := by simp
theorem prins_n {pb e : Nat} {v : Value} (hv : tokR.sl cx v []) (hS : St cx w (prs pb v e :: L)) :
    Fins Tryz.prog Q8 [.pointer (some ⟨pb, 0, none⟩)] w (InsS pb e v [] cx L) (PBad (pIns e []) pb e cx L) := by
  unfold Fins InsS
  all_goals refine Q2I ?_
  all_goals (unfold parse_parser_ins_lc; refine Q0 ?_; refine Q1 ?_; refine Qb hS ?_; intro p2 w1 hS; refine zm ?_; refine zn ?_; refine Q0 ?_; refine Q0 ?_; refine Q1 ?_; refine zm ?_; refine Qn rfl ?_; refine Q2 rfl ?_; refine zl hS ?_; refine zL ?_; refine Q9g rfl rfl (by simp) ?_; refine zm ?_; refine s_gn rfl rfl ?_; refine s_gn rfl rfl ?_; refine s_gn rfl rfl ?_; refine s_gn rfl rfl ?_; refine s_gn rfl rfl ?_; refine s_gn rfl rfl ?_; refine s_gn rfl rfl ?_; refine zpt ?_; refine zn ?_)
  all_goals refine Q4 rfl ?_
  all_goals (refine Q0 ?_; refine Q1 ?_; refine zb0 [_, _, _, _, _, _, _, _] ?_; refine zsn hS ?_; intro w1 hS; have hS := hS.ns; refine zm ?_; refine zn ?_; refine zr ?_; refine QU vw (Qa (n := 8) (by kernel_rfl) (by kernel_rfl) (hS.blkAt fd) (by rfl) (by rfl)) vw ?_; exact .inl ⟨_, rfl, .inl ⟨Qd4 rfl, rfl, hS.sp⟩⟩)
theorem prins_s {pb e : Nat} {a : Nat} {t2 : List UInt8} {m : Int} {v : Value} {r : List Tok} (hv : tokR.sl cx v (⟨a, t2, some m⟩ :: r)) (hS : St cx w (prs pb v e :: L)) :
    Fins Tryz.prog Q8 [.pointer (some ⟨pb, 0, none⟩)] w (InsS pb e v (⟨a, t2, some m⟩ :: r) cx L) (PBad (pIns e (⟨a, t2, some m⟩ :: r)) pb e cx L) := by
  unfold Fins InsS
  all_goals refine Q2I ?_
  all_goals (unfold parse_parser_ins_lc; refine Q0 ?_; refine Q1 ?_; refine Qb hS ?_; intro p2 w1 hS; refine zm ?_; refine zn ?_; refine Q0 ?_; refine Q0 ?_; refine Q1 ?_; refine zm ?_; refine Qn rfl ?_; refine Q2 rfl ?_; refine zl hS ?_; refine zL ?_; refine QdA rfl rfl (by simp; omega) ?_; refine zm ?_; (first | refine s_gn rfl rfl ?_ | (refine s_gy rfl ?_; refine zm ?_)); (first | refine s_gn rfl rfl ?_ | (refine s_gy rfl ?_; refine Qn rfl ?_)); (first | refine s_gn rfl rfl ?_ | (refine s_gy rfl ?_; refine Q2 rfl ?_)); (first | refine s_gn rfl rfl ?_ | (refine s_gy rfl ?_; refine zl hS ?_)))
  all_goals (first | refine s_gn rfl rfl ?_ | (refine s_gy rfl ?_; refine Q1K (m := 0) vw rfl hv rfl (by simp) ?_; intro b1 o1 cs1 x1 hat1 hx1 he1; cases hx1; obtain rfl := Q1O he1))
  all_goals ((first | refine s_gn rfl rfl ?_ | (refine s_gy rfl ?_; (first | refine Q2 rfl ?_ | refine Q2b rfl ?_))); (first | refine s_gn rfl rfl ?_ | (refine s_gy rfl ?_; (first | (refine zl hS ?_) | (refine zlk hS ?_) | (refine zlj hS ?_)))); (first | (refine zpt ?_) | (refine zpf ?_)); refine zn ?_)
  all_goals refine Q4 rfl ?_
  all_goals (refine Q0 ?_; refine Q1 ?_; refine zb0 [_, _, _, _, _, _, _, _] ?_; refine zsn hS ?_; intro w1 hS; have hS := hS.ns; refine zm ?_; refine zn ?_; refine zr ?_; refine QU vw (Qa (n := 8) (by kernel_rfl) (by kernel_rfl) (hS.blkAt fd) (by rfl) (by rfl)) vw ?_; exact .inl ⟨_, rfl, .inl ⟨Qd4 rfl, rfl, hS.sp⟩⟩)
theorem prins_w {pb e : Nat} {a : Nat} {t2 : List UInt8} {v : Value} {r : List Tok} (hv : tokR.sl cx v (⟨a, t2, none⟩ :: r)) (hS : St cx w (prs pb v e :: L)) :
    Fins Tryz.prog Q8 [.pointer (some ⟨pb, 0, none⟩)] w (InsS pb e v (⟨a, t2, none⟩ :: r) cx L) (PBad (pIns e (⟨a, t2, none⟩ :: r)) pb e cx L) := by
  have hle := St.refl hS
  have hnil : intR.sl cx (.slice none 0 0) [] := Rep.SR.nil _ _ _
  obtain ⟨op, hop⟩ : ∃ op : Nat, Q58 opWords (⟨a, t2, none⟩ :: r) = op := ⟨_, rfl⟩
  have hop2 : QiD opWords t2 = op := hop
  have hope : op ≤ 14 := by rw [← hop]; exact headW_le
  unfold Fins InsS
  all_goals refine Q2I ?_
  all_goals (unfold parse_parser_ins_lc; refine Q0 ?_; refine Q1 ?_; refine Qb hS ?_; intro p2 w1 hS; refine zm ?_; refine zn ?_; refine Q0 ?_; refine Q0 ?_; refine Q1 ?_; refine zm ?_; refine Qn rfl ?_; refine Q2 rfl ?_; refine zl hS ?_; refine zL ?_; refine QdA rfl rfl (by simp; omega) ?_; refine zm ?_; (first | refine s_gn rfl rfl ?_ | (refine s_gy rfl ?_; refine zm ?_)); (first | refine s_gn rfl rfl ?_ | (refine s_gy rfl ?_; refine Qn rfl ?_)); (first | refine s_gn rfl rfl ?_ | (refine s_gy rfl ?_; refine Q2 rfl ?_)); (first | refine s_gn rfl rfl ?_ | (refine s_gy rfl ?_; refine zl hS ?_)))
  all_goals (first | refine s_gn rfl rfl ?_ | (refine s_gy rfl ?_; refine Q1K (m := 0) vw rfl hv rfl (by simp) ?_; intro b1 o1 cs1 x1 hat1 hx1 he1; cases hx1; obtain rfl := Q1O he1))
  all_goals ((first | refine s_gn rfl rfl ?_ | (refine s_gy rfl ?_; (first | refine Q2 rfl ?_ | refine Q2b rfl ?_))); (first | refine s_gn rfl rfl ?_ | (refine s_gy rfl ?_; (first | (refine zl hS ?_) | (refine zlk hS ?_) | (refine zlj hS ?_)))); (first | (refine zpt ?_) | (refine zpf ?_)); refine zn ?_)
  all_goals refine Q5 rfl ?_
  all_goals (refine zsk ?_; refine Q0 ?_; refine Q1 ?_; refine zm ?_; refine Qn rfl ?_; refine Q2 rfl ?_; refine zl hS ?_)
  all_goals (refine Q1K (m := 0) vw rfl hv rfl (by simp) ?_; intro b1 o1 cs1 x1 hat1 hx1 he1; cases hx1; obtain rfl := Q1O he1)
  all_goals ((first | refine Q2 rfl ?_ | refine Q2b rfl ?_); (first | (refine zl hS ?_) | (refine zlk hS ?_) | (refine zlj hS ?_)); refine zR3 (c := find_c (ws := opWords) rfl (by decide) (by kernel_rfl) (fun k h => popw_c h) hS) (h := ?_); rintro u1 w1 ⟨rfl, hS⟩; rw [hop2]; refine zb1 [_, _, _, _, _, _, _, _] ?_; refine Qb hS ?_; intro p4 w1 hS; refine zsn hS ?_; intro w1 hS; have hS := hS.ns; refine zn ?_; refine Q0 ?_; refine Q0 ?_; refine Q1 ?_; refine Q2 rfl ?_; refine zl hS ?_)
  all_goals (first | (refine Qw ?_) | (refine Qy ?_) | (refine Qj rfl rfl (fun hc => ?_) (fun hc => ?_)))
  all_goals (refine zn ?_)
  all_goals
    first
    | (refine Q4 rfl ?_ -- Q8 c1
       all_goals (refine Q0 ?_; refine Q1 ?_; refine zb0 [_, _, _, _, _, _, _, _] ?_; refine zsn hS ?_; intro w1 hS; have hS := hS.ns; refine zm ?_; refine zn ?_; refine zr ?_; refine QU vw (Qa (n := 8) (by kernel_rfl) (by kernel_rfl) (hS.blkAt fd) (by rfl) (by rfl)) vw ?_)
       all_goals (exact .inl ⟨_, rfl, .inl ⟨Qd4 (by omega), rfl, hS.sp⟩⟩))
    | (refine Q5 rfl ?_ -- Q8 c1
       all_goals refine zsk ?_)
  all_goals (refine Q0 ?_; refine Q1 ?_; refine zm ?_; have hS : St cx _ (prs pb v e :: blk p4 54 [.int .i64 (op : Int), .int .i64 0, .int .i64 0, .int .i64 0, .int .i64 0, .int .i64 0, .slice none 0 0, .slice none 0 0] :: blk p2 54 [.int .i64 0, .int .i64 0, .int .i64 0, .int .i64 0, .int .i64 0, .int .i64 0, .slice none 0 0, .slice none 0 0] :: L) := hS.sp; refine zR1 (c := Qlf hv hS) (h := ?_); rintro u1 w1 ⟨rfl, vc, hvc, hS⟩; refine zn ?_)
  refine zM [0, 2, 4] (fun A ρ' w' => ∃ (x : Ins) (l2 : List Tok) (v2 : Value) (c5 : Cx) (vr va : Value), Has ρ' A ∧ Has ρ' [] ∧ (¬ (op : Int) = 0) ∧ (Q3o e op r = .ok (x, l2)) ∧ (l2.length ≤ r.length) ∧ (cx.Le c5) ∧ (insR.at c5 [.int .i64 x.op, .int .i64 x.a, .int .i64 x.b, .int .i64 x.c, .int .i64 x.k, .int .i64 x.n, vr, va] x) ∧ (tokR.sl c5 v2 l2) ∧ St c5 w' (prs pb v2 e :: blk p4 54 [.int .i64 x.op, .int .i64 x.a, .int .i64 x.b, .int .i64 x.c, .int .i64 x.k, .int .i64 x.n, vr, va] :: blk p2 54 [.int .i64 0, .int .i64 0, .int .i64 0, .int .i64 0, .int .i64 0, .int .i64 0, .slice none 0 0, .slice none 0 0] :: L)) ?_ ?_
  · skip
    all_goals (refine Q0 ?_; have hb0 : ¬ (op : Int) = 0 := hc; refine Q1 ?_; refine Q2 rfl ?_; refine zl hS ?_; refine zn ?_; refine Qh ?_; refine Q0 ?_; refine Q1 ?_)
    all_goals (first | (refine Qw ?_) | (refine Qy ?_) | (refine Qj rfl rfl (fun hc => ?_) (fun hc => ?_)))
    all_goals (refine zm ?_; refine zn ?_)
    all_goals
      first
      | (refine Q4 rfl ?_ -- Q8 c2
         all_goals (have hX := pb_1 (e := e) (l := r) (op := op) (by omega); refine Q1 ?_; refine zm ?_; refine zE1 (c := Qia hvc hS) (p := by rintro u9 w9 ⟨f, v', g1, rfl, hS⟩; (repeat (first | refine Qo ?_ | refine Qp ?_ | refine fun _ => ?_)); refine QG ?_; refine .inr ⟨_, rfl, ?_⟩; exact ⟨f, v', Q2P hop hb0 (Q1C hX g1), rfl, hS.sp⟩) (h := ?_); rintro u1 w2 ⟨n, vc, g1, rfl, hvc, hS⟩; have hX := Q1F hX g1; (try dsimp only at hX); refine Q2 rfl ?_; refine zst hS ?_; intro w1 hS; have hS := hS.ns; refine zn ?_)
         all_goals (exact ⟨_, _, _, cx, _, _, zh, zh, hb0, hX, (by have z1 := Q9 r; have z2 := Q9 r.tail; have z3 := Q9 r.tail.tail; have z4 := Q9 r.tail.tail.tail; omega), hle, ⟨_, _, rfl, hnil, hnil⟩, hvc, hS.sp⟩))
      | (refine Q5 rfl ?_ -- Q8 c2
         all_goals (refine Q0 ?_; refine Q1 ?_)
         all_goals (first | (refine Qw ?_) | (refine Qy ?_) | (refine Qj rfl rfl (fun hc => ?_) (fun hc => ?_)))
         all_goals (refine zm ?_; refine zn ?_)
         all_goals
           first
           | (refine Q4 rfl ?_ -- Q8 c3
              refine zM [0, 2, 4] (fun A ρ' w' => ∃ (kv : Nat), Has ρ' A ∧ Has ρ' [] ∧ (Q58 kindWords r = kv) ∧ St cx w' (prs pb vc e :: blk p4 54 [.int .i64 (op : Int), .int .i64 0, .int .i64 0, .int .i64 0, .int .i64 (kv : Int), .int .i64 0, .slice none 0 0, .slice none 0 0] :: blk p2 54 [.int .i64 0, .int .i64 0, .int .i64 0, .int .i64 0, .int .i64 0, .int .i64 0, .slice none 0 0, .slice none 0 0] :: L)) ?_ ?_
              · skip
                all_goals (refine Q0 ?_; refine Q1 ?_)
                all_goals (rcases r with _ | ⟨⟨a3, t3, m3⟩, r3⟩; rotate_left; cases m3)
                all_goals (refine zm ?_; refine Qn rfl ?_; refine Q2 rfl ?_; refine zl hS ?_; refine zL ?_; (first | refine Q9f rfl rfl len_cons ?_ | refine Qdz rfl rfl len_nil ?_); refine zm ?_; (first | refine s_gn rfl rfl ?_ | (refine s_gy rfl ?_; refine zm ?_)); (first | refine s_gn rfl rfl ?_ | (refine s_gy rfl ?_; refine Qn rfl ?_)); (first | refine s_gn rfl rfl ?_ | (refine s_gy rfl ?_; refine Q2 rfl ?_)); (first | refine s_gn rfl rfl ?_ | (refine s_gy rfl ?_; refine zl hS ?_)))
                all_goals (first | refine s_gn rfl rfl ?_ | (refine s_gy rfl ?_; refine Q1K (m := 0) vw rfl hvc rfl (by simp) ?_; intro b1 o1 cs1 x1 hat1 hx1 he1; cases hx1; obtain rfl := Q1O he1))
                all_goals ((first | refine s_gn rfl rfl ?_ | (refine s_gy rfl ?_; (first | refine Q2 rfl ?_ | refine Q2b rfl ?_))); (first | refine s_gn rfl rfl ?_ | (refine s_gy rfl ?_; (first | (refine zl hS ?_) | (refine zlk hS ?_) | (refine zlj hS ?_)))); (first | refine s_gn rfl rfl ?_ | (refine s_gy rfl ?_; refine Q1w rfl ?_)); (first | (refine zpt ?_) | (refine zpf ?_)); refine zn ?_)
                all_goals
                  first
                  | (refine Q4 rfl ?_ -- Q8 c4
                     all_goals (refine Q1 ?_; refine zm ?_; refine Qn rfl ?_; refine Q2 rfl ?_; refine zl hS ?_)
                     all_goals (refine Q1K (m := 0) vw rfl hvc rfl (by simp) ?_; intro b1 o1 cs1 x1 hat1 hx1 he1; cases hx1; obtain rfl := Q1O he1)
                     all_goals ((first | refine Q2 rfl ?_ | refine Q2b rfl ?_); (first | (refine zl hS ?_) | (refine zlk hS ?_) | (refine zlj hS ?_)); refine zR3 (c := find_c (ws := kindWords) rfl (by decide) (by kernel_rfl) (fun k h => Qmr h) hS) (h := ?_); rintro u1 w1 ⟨rfl, hS⟩; refine Q2 rfl ?_; refine zst hS ?_; intro w1 hS; have hS := hS.ns)
                     all_goals refine zn ?_)
                  | (refine Q5 rfl ?_ -- Q8 c4
                     all_goals refine zsk ?_)
                all_goals (exact ⟨_, zh, zh, rfl, hS.sp⟩)
              rintro ρ w1 ⟨kv, hA, hρ, hk, hS⟩; obtain ⟨ρ, rfl⟩ := env2 hA hρ
              all_goals (refine Q0 ?_; refine Q0 ?_; have hX := pb_2 (e := e) (l := r) (op := op) (by omega); refine Q1 ?_; refine Q2 rfl ?_; refine zl hS ?_)
              all_goals (first | (refine Qw ?_) | (refine Qy ?_) | (refine Qj rfl rfl (fun hc => ?_) (fun hc => ?_)))
              all_goals (refine zn ?_)
              all_goals
                first
                | (refine Q4 rfl ?_ -- Q8 c5
                   all_goals (refine Q1 ?_; refine zm ?_)
                   all_goals (refine zE2 (c := Q6t hvc hS) (p := by rintro v9 w9 ⟨rfl, hS⟩; (repeat (first | refine Qo ?_ | refine Qp ?_ | refine fun _ => ?_)); refine QG ?_; refine .inr ⟨_, rfl, ?_⟩; exact ⟨_, _, Q2P hop hb0 (Q1C hX (kind_e hk hc)), rfl, hS.sp⟩) (h := fun _ _ h9 => by cases h9))
                   all_goals refine zn ?_)
                | (refine Q5 rfl ?_ -- Q8 c5
                   all_goals refine zsk ?_)
              all_goals (refine Q0 ?_; have hX := Q1F hX (kind_o (e := e) hk hc); (try dsimp only at hX); obtain ⟨t9, ht9⟩ := head_get hk hc; refine Q1 ?_; refine zm ?_; refine zR1 (c := Q9i ht9 hvc hS) (h := ?_); rintro u1 w1 ⟨rfl, vc, hvc, hS⟩; refine zn ?_; refine Q0 ?_; refine Q1 ?_; refine zm ?_; refine zE1 (c := Q2g hvc hS) (p := by rintro u9 w9 ⟨f, v', g1, rfl, hS⟩; (repeat (first | refine Qo ?_ | refine Qp ?_ | refine fun _ => ?_)); refine QG ?_; refine .inr ⟨_, rfl, ?_⟩; exact ⟨f, v', Q2P hop hb0 (Q1C hX g1), rfl, hS.sp⟩) (h := ?_); rintro u1 w2 ⟨n, vc, g1, rfl, hvc, hS⟩; have hX := Q1F hX g1; (try dsimp only at hX); refine Q2 rfl ?_; refine zst hS ?_; intro w1 hS; have hS := hS.ns; refine zn ?_; refine Q1 ?_; refine zm ?_; refine zE1 (c := Q2g hvc hS) (p := by rintro u9 w9 ⟨f, v', g1, rfl, hS⟩; (repeat (first | refine Qo ?_ | refine Qp ?_ | refine fun _ => ?_)); refine QG ?_; refine .inr ⟨_, rfl, ?_⟩; exact ⟨f, v', Q2P hop hb0 (Q1C hX g1), rfl, hS.sp⟩) (h := ?_); rintro u1 w2 ⟨n, vc, g1, rfl, hvc, hS⟩; have hX := Q1F hX g1; (try dsimp only at hX); refine Q2 rfl ?_; refine zst hS ?_; intro w1 hS; have hS := hS.ns; refine zn ?_)
              all_goals (exact ⟨_, _, _, cx, _, _, zh, zh, hb0, hX, (by have z1 := Q9 r; have z2 := Q9 r.tail; have z3 := Q9 r.tail.tail; have z4 := Q9 r.tail.tail.tail; omega), hle, ⟨_, _, rfl, hnil, hnil⟩, hvc, hS.sp⟩))
           | (refine Q5 rfl ?_ -- Q8 c3
              all_goals (refine Q0 ?_; refine Q0 ?_; refine Q1 ?_)
              all_goals (first | (refine Qw ?_) | (refine Qy ?_) | (refine Qj rfl rfl (fun hc => ?_) (fun hc => ?_)))
              all_goals (refine zm ?_; refine zn ?_)
              all_goals
                first
                | (refine Q4 rfl ?_ -- Q8 c6
                   all_goals refine zsk ?_)
                | (refine Q5 rfl ?_ -- Q8 c6
                   all_goals (refine Q0 ?_; refine Q1 ?_)
                   all_goals (first | (refine Qw ?_) | (refine Qy ?_) | (refine Qj rfl rfl (fun hc => ?_) (fun hc => ?_)))
                   all_goals (refine zm ?_; refine zn ?_)
                   all_goals
                     first
                     | (refine Q4 rfl ?_ -- Q8 c7
                        all_goals refine zsk ?_)
                     | (refine Q5 rfl ?_ -- Q8 c7
                        all_goals (refine Q1 ?_)
                        all_goals (first | (refine Qw ?_) | (refine Qy ?_) | (refine Qj rfl rfl (fun hc => ?_) (fun hc => ?_)))
                        all_goals (refine zm ?_)
                        all_goals refine zn ?_))
              all_goals
                first
                | (refine Q4 rfl ?_ -- Q8 c8
                   all_goals (have hX := pb_4 (e := e) (l := r) (op := op) (by omega); refine Q1 ?_; refine zm ?_; refine zE1 (c := Q2g hvc hS) (p := by rintro u9 w9 ⟨f, v', g1, rfl, hS⟩; (repeat (first | refine Qo ?_ | refine Qp ?_ | refine fun _ => ?_)); refine QG ?_; refine .inr ⟨_, rfl, ?_⟩; exact ⟨f, v', Q2P hop hb0 (Q1C hX g1), rfl, hS.sp⟩) (h := ?_); rintro u1 w2 ⟨n, vc, g1, rfl, hvc, hS⟩; have hX := Q1F hX g1; (try dsimp only at hX); refine Q2 rfl ?_; refine zst hS ?_; intro w1 hS; have hS := hS.ns)
                   all_goals refine zn ?_)
                | (refine Q5 rfl ?_ -- Q8 c8
                   all_goals (refine Q0 ?_; refine Q1 ?_)
                   all_goals (first | (refine Qw ?_) | (refine Qy ?_) | (refine Qj rfl rfl (fun hc => ?_) (fun hc => ?_)))
                   all_goals (refine zm ?_; refine zn ?_)
                   all_goals
                     first
                     | (refine Q4 rfl ?_ -- Q8 c9
                        all_goals (refine Q0 ?_; have hX := pb_5 (e := e) (l := r) (op := op) (by omega); refine Q1 ?_; refine zm ?_; refine zE1 (c := Q2g hvc hS) (p := by rintro u9 w9 ⟨f, v', g1, rfl, hS⟩; (repeat (first | refine Qo ?_ | refine Qp ?_ | refine fun _ => ?_)); refine QG ?_; refine .inr ⟨_, rfl, ?_⟩; exact ⟨f, v', Q2P hop hb0 (Q1C hX g1), rfl, hS.sp⟩) (h := ?_); rintro u1 w2 ⟨n, vc, g1, rfl, hvc, hS⟩; have hX := Q1F hX g1; (try dsimp only at hX); refine Q2 rfl ?_; refine zst hS ?_; intro w1 hS; have hS := hS.ns; refine zn ?_; refine Q1 ?_; refine zm ?_; refine zE3 (c := Qbd hvc hS) (p := by rintro u9 w9 ⟨f, v', g1, rfl, hS⟩; (repeat (first | refine Qo ?_ | refine Qp ?_ | refine fun _ => ?_)); refine QG ?_; refine .inr ⟨_, rfl, ?_⟩; exact ⟨f, v', Q2P hop hb0 (Q1C hX g1), rfl, hS.sp⟩) (h := ?_); rintro u1 w2 ⟨xs, l4, vc, c2, g1, g2, hle2, hka, hvc, hS⟩; have hX := Q1F hX g1; (try dsimp only at hX); have hoa := Rep.SR.oneC hka; refine Q2 rfl ?_; refine zst hS ?_; intro w1 hS; have hS := hS.ns)
                        all_goals refine zn ?_)
                     | (refine Q5 rfl ?_ -- Q8 c9
                        all_goals (refine Q0 ?_; refine Q1 ?_)
                        all_goals (first | (refine Qw ?_) | (refine Qy ?_) | (refine Qj rfl rfl (fun hc => ?_) (fun hc => ?_)))
                        all_goals (refine zm ?_; refine zn ?_)
                        all_goals
                          first
                          | (refine Q4 rfl ?_ -- Q8 c10
                             all_goals (refine Q0 ?_; have hX := pb_6 (e := e) (l := r) (op := op) (by omega); refine Q1 ?_; refine zm ?_; refine zE1 (c := Q2g hvc hS) (p := by rintro u9 w9 ⟨f, v', g1, rfl, hS⟩; (repeat (first | refine Qo ?_ | refine Qp ?_ | refine fun _ => ?_)); refine QG ?_; refine .inr ⟨_, rfl, ?_⟩; exact ⟨f, v', Q2P hop hb0 (Q1C hX g1), rfl, hS.sp⟩) (h := ?_); rintro u1 w2 ⟨n, vc, g1, rfl, hvc, hS⟩; have hX := Q1F hX g1; (try dsimp only at hX); refine Q2 rfl ?_; refine zst hS ?_; intro w1 hS; have hS := hS.ns; refine zn ?_; refine Q1 ?_; refine zm ?_; refine zE1 (c := Q2g hvc hS) (p := by rintro u9 w9 ⟨f, v', g1, rfl, hS⟩; (repeat (first | refine Qo ?_ | refine Qp ?_ | refine fun _ => ?_)); refine QG ?_; refine .inr ⟨_, rfl, ?_⟩; exact ⟨f, v', Q2P hop hb0 (Q1C hX g1), rfl, hS.sp⟩) (h := ?_); rintro u1 w2 ⟨n, vc, g1, rfl, hvc, hS⟩; have hX := Q1F hX g1; (try dsimp only at hX); refine Q2 rfl ?_; refine zst hS ?_; intro w1 hS; have hS := hS.ns)
                             all_goals refine zn ?_)
                          | (refine Q5 rfl ?_ -- Q8 c10
                             all_goals (refine Q0 ?_; refine Q1 ?_)
                             all_goals (first | (refine Qw ?_) | (refine Qy ?_) | (refine Qj rfl rfl (fun hc => ?_) (fun hc => ?_)))
                             all_goals (refine zm ?_; refine zn ?_)
                             all_goals
                               first
                               | (refine Q4 rfl ?_ -- Q8 c11
                                  all_goals (refine Q0 ?_; have hX := pb_7 (e := e) (l := r) (op := op) (by omega); refine Q1 ?_; refine zm ?_; refine zE1 (c := Q2g hvc hS) (p := by rintro u9 w9 ⟨f, v', g1, rfl, hS⟩; (repeat (first | refine Qo ?_ | refine Qp ?_ | refine fun _ => ?_)); refine QG ?_; refine .inr ⟨_, rfl, ?_⟩; exact ⟨f, v', Q2P hop hb0 (Q1C hX g1), rfl, hS.sp⟩) (h := ?_); rintro u1 w2 ⟨n, vc, g1, rfl, hvc, hS⟩; have hX := Q1F hX g1; (try dsimp only at hX); refine Q2 rfl ?_; refine zst hS ?_; intro w1 hS; have hS := hS.ns; refine zn ?_; refine Q0 ?_; refine Q1 ?_; refine zm ?_; refine zE1 (c := Q2g hvc hS) (p := by rintro u9 w9 ⟨f, v', g1, rfl, hS⟩; (repeat (first | refine Qo ?_ | refine Qp ?_ | refine fun _ => ?_)); refine QG ?_; refine .inr ⟨_, rfl, ?_⟩; exact ⟨f, v', Q2P hop hb0 (Q1C hX g1), rfl, hS.sp⟩) (h := ?_); rintro u1 w2 ⟨n, vc, g1, rfl, hvc, hS⟩; have hX := Q1F hX g1; (try dsimp only at hX); refine Q2 rfl ?_; refine zst hS ?_; intro w1 hS; have hS := hS.ns; refine zn ?_; refine Q1 ?_; refine zm ?_; refine zE1 (c := Q2g hvc hS) (p := by rintro u9 w9 ⟨f, v', g1, rfl, hS⟩; (repeat (first | refine Qo ?_ | refine Qp ?_ | refine fun _ => ?_)); refine QG ?_; refine .inr ⟨_, rfl, ?_⟩; exact ⟨f, v', Q2P hop hb0 (Q1C hX g1), rfl, hS.sp⟩) (h := ?_); rintro u1 w2 ⟨n, vc, g1, rfl, hvc, hS⟩; have hX := Q1F hX g1; (try dsimp only at hX))
                                  all_goals (refine Q2 rfl ?_; refine zst hS ?_; intro w1 hS; have hS := hS.ns)
                                  all_goals refine zn ?_)
                               | (refine Q5 rfl ?_ -- Q8 c11
                                  all_goals (refine Q0 ?_; refine Q0 ?_; refine Q1 ?_)
                                  all_goals (first | (refine Qw ?_) | (refine Qy ?_) | (refine Qj rfl rfl (fun hc => ?_) (fun hc => ?_)))
                                  all_goals (refine zm ?_; refine zn ?_)
                                  all_goals
                                    first
                                    | (refine Q4 rfl ?_ -- Q8 c12
                                       all_goals refine zsk ?_)
                                    | (refine Q5 rfl ?_ -- Q8 c12
                                       all_goals (refine Q1 ?_)
                                       all_goals (first | (refine Qw ?_) | (refine Qy ?_) | (refine Qj rfl rfl (fun hc => ?_) (fun hc => ?_)))
                                       all_goals (refine zm ?_)
                                       all_goals refine zn ?_)
                                  all_goals
                                    first
                                    | (refine Q4 rfl ?_ -- Q8 c13
                                       all_goals (refine Q0 ?_; have hX := pb_8 (e := e) (l := r) (op := op) (by omega); refine Q1 ?_; refine zm ?_; refine zE1 (c := Q2g hvc hS) (p := by rintro u9 w9 ⟨f, v', g1, rfl, hS⟩; (repeat (first | refine Qo ?_ | refine Qp ?_ | refine fun _ => ?_)); refine QG ?_; refine .inr ⟨_, rfl, ?_⟩; exact ⟨f, v', Q2P hop hb0 (Q1C hX g1), rfl, hS.sp⟩) (h := ?_); rintro u1 w2 ⟨n, vc, g1, rfl, hvc, hS⟩; have hX := Q1F hX g1; (try dsimp only at hX); refine Q2 rfl ?_; refine zst hS ?_; intro w1 hS; have hS := hS.ns; refine zn ?_; refine Q1 ?_; refine zm ?_; refine zE1 (c := Q2g hvc hS) (p := by rintro u9 w9 ⟨f, v', g1, rfl, hS⟩; (repeat (first | refine Qo ?_ | refine Qp ?_ | refine fun _ => ?_)); refine QG ?_; refine .inr ⟨_, rfl, ?_⟩; exact ⟨f, v', Q2P hop hb0 (Q1C hX g1), rfl, hS.sp⟩) (h := ?_); rintro u1 w2 ⟨n, vc, g1, rfl, hvc, hS⟩; have hX := Q1F hX g1; (try dsimp only at hX); refine Q2 rfl ?_; refine zst hS ?_; intro w1 hS; have hS := hS.ns)
                                       all_goals refine zn ?_)
                                    | (refine Q5 rfl ?_ -- Q8 c13
                                       all_goals (refine Q0 ?_; refine Q1 ?_)
                                       all_goals (first | (refine Qw ?_) | (refine Qy ?_) | (refine Qj rfl rfl (fun hc => ?_) (fun hc => ?_)))
                                       all_goals (refine zm ?_; refine zn ?_)
                                       all_goals
                                         first
                                         | (refine Q4 rfl ?_ -- Q8 c14
                                            all_goals (refine Q0 ?_; have hX := pb_10 (e := e) (l := r) (op := op) (by omega); refine Q1 ?_; refine zm ?_; refine zE1 (c := Q2g hvc hS) (p := by rintro u9 w9 ⟨f, v', g1, rfl, hS⟩; (repeat (first | refine Qo ?_ | refine Qp ?_ | refine fun _ => ?_)); refine QG ?_; refine .inr ⟨_, rfl, ?_⟩; exact ⟨f, v', Q2P hop hb0 (Q1C hX g1), rfl, hS.sp⟩) (h := ?_); rintro u1 w2 ⟨n, vc, g1, rfl, hvc, hS⟩; have hX := Q1F hX g1; (try dsimp only at hX); refine Q2 rfl ?_; refine zst hS ?_; intro w1 hS; have hS := hS.ns; refine zn ?_; refine Q0 ?_; refine Q1 ?_; refine zm ?_; refine zE1 (c := Q2g hvc hS) (p := by rintro u9 w9 ⟨f, v', g1, rfl, hS⟩; (repeat (first | refine Qo ?_ | refine Qp ?_ | refine fun _ => ?_)); refine QG ?_; refine .inr ⟨_, rfl, ?_⟩; exact ⟨f, v', Q2P hop hb0 (Q1C hX g1), rfl, hS.sp⟩) (h := ?_); rintro u1 w2 ⟨n, vc, g1, rfl, hvc, hS⟩; have hX := Q1F hX g1; (try dsimp only at hX); refine Q2 rfl ?_; refine zst hS ?_; intro w1 hS; have hS := hS.ns; refine zn ?_; refine Q1 ?_; refine zm ?_; refine zE1 (c := Q2g hvc hS) (p := by rintro u9 w9 ⟨f, v', g1, rfl, hS⟩; (repeat (first | refine Qo ?_ | refine Qp ?_ | refine fun _ => ?_)); refine QG ?_; refine .inr ⟨_, rfl, ?_⟩; exact ⟨f, v', Q2P hop hb0 (Q1C hX g1), rfl, hS.sp⟩) (h := ?_); rintro u1 w2 ⟨n, vc, g1, rfl, hvc, hS⟩; have hX := Q1F hX g1; (try dsimp only at hX))
                                            all_goals (refine Q2 rfl ?_; refine zst hS ?_; intro w1 hS; have hS := hS.ns)
                                            all_goals refine zn ?_)
                                         | (refine Q5 rfl ?_ -- Q8 c14
                                            all_goals (refine Q0 ?_; refine Q1 ?_)
                                            all_goals (first | (refine Qw ?_) | (refine Qy ?_) | (refine Qj rfl rfl (fun hc => ?_) (fun hc => ?_)))
                                            all_goals (refine zm ?_; refine zn ?_)
                                            all_goals
                                              first
                                              | (refine Q4 rfl ?_ -- Q8 c15
                                                 all_goals (refine Q0 ?_; have hX := pb_14 (e := e) (l := r) (op := op) (by omega); refine Q1 ?_; refine zm ?_; refine zE1 (c := Q2g hvc hS) (p := by rintro u9 w9 ⟨f, v', g1, rfl, hS⟩; (repeat (first | refine Qo ?_ | refine Qp ?_ | refine fun _ => ?_)); refine QG ?_; refine .inr ⟨_, rfl, ?_⟩; exact ⟨f, v', Q2P hop hb0 (Q1C hX g1), rfl, hS.sp⟩) (h := ?_); rintro u1 w2 ⟨n, vc, g1, rfl, hvc, hS⟩; have hX := Q1F hX g1; (try dsimp only at hX); refine Q2 rfl ?_; refine zst hS ?_; intro w1 hS; have hS := hS.ns; refine zn ?_; refine Q0 ?_; refine Q1 ?_; refine zm ?_; refine zE3 (c := Qbd hvc hS) (p := by rintro u9 w9 ⟨f, v', g1, rfl, hS⟩; (repeat (first | refine Qo ?_ | refine Qp ?_ | refine fun _ => ?_)); refine QG ?_; refine .inr ⟨_, rfl, ?_⟩; exact ⟨f, v', Q2P hop hb0 (Q1C hX g1), rfl, hS.sp⟩) (h := ?_); rintro u1 w2 ⟨xs, l4, vc, c2, g1, g2, hle2, hkr, hvc, hS⟩; have hX := Q1F hX g1; (try dsimp only at hX); have hor := Rep.SR.oneC hkr; refine Q2 rfl ?_; refine zst hS ?_; intro w1 hS; have hS := hS.ns; refine zn ?_; refine Q1 ?_; refine zm ?_; refine zE3 (c := Qbd hvc hS) (p := by rintro u9 w9 ⟨f, v', g1, rfl, hS⟩; (repeat (first | refine Qo ?_ | refine Qp ?_ | refine fun _ => ?_)); refine QG ?_; refine .inr ⟨_, rfl, ?_⟩; exact ⟨f, v', Q2P hop hb0 (Q1C hX g1), rfl, St.weak hS.sp hle2⟩) (h := ?_); rintro u1 w2 ⟨ys, l5, vc, c3, g1, g3, hle3, hka, hvc, hS⟩; have hX := Q1F hX g1; (try dsimp only at hX); have hoa := Rep.SR.oneC hka)
                                                 all_goals (refine Q2 rfl ?_; refine zst hS ?_; intro w1 hS; have hS := hS.ns)
                                                 all_goals refine zn ?_)
                                              | (refine Q5 rfl ?_ -- Q8 c15
                                                 all_goals refine zsk ?_)))))))
              all_goals (first | (exact ⟨_, _, _, cx, _, _, zh, zh, hb0, hX, (by have z1 := Q9 r; have z2 := Q9 r.tail; have z3 := Q9 r.tail.tail; have z4 := Q9 r.tail.tail.tail; omega), hle, ⟨_, _, rfl, hnil, hnil⟩, hvc, hS.sp⟩) | (exact ⟨_, _, _, _, _, _, zh, zh, hb0, hX, (by have z1 := Q9 r; have z2 := Q9 r.tail; have z3 := Q9 r.tail.tail; have z4 := Q9 r.tail.tail.tail; omega), hle2, ⟨_, _, rfl, hnil.up hle2, hka⟩, hvc, hS.sp⟩) | (exact ⟨_, _, _, _, _, _, zh, zh, hb0, hX, (by have z1 := Q9 r; have z2 := Q9 r.tail; have z3 := Q9 r.tail.tail; have z4 := Q9 r.tail.tail.tail; omega), hle2.trans hle3, ⟨_, _, rfl, hkr.up hle3, hka⟩, hvc, hS.sp⟩) | (exact ⟨_, _, _, cx, _, _, zh, zh, hb0, pb_0 (by omega), (by have z1 := Q9 r; have z2 := Q9 r.tail; have z3 := Q9 r.tail.tail; have z4 := Q9 r.tail.tail.tail; omega), hle, ⟨_, _, rfl, hnil, hnil⟩, hvc, hS.sp⟩))))
  rintro ρ w1 ⟨x, l2, v2, c5, vr, va, hA, hρ, hb0, hx, hl2, hle5, hd5, hv2, hS⟩; obtain ⟨ρ, rfl⟩ := env2 hA hρ
  all_goals (refine Q0 ?_; refine Q1 ?_; refine zm ?_; refine zB1 hS [_] ?_; intro b1 w1 hS; have hS := Q1U (s := [59]) hS; refine zE2 (c := Q1T hv2 hS) (p := by rintro u9 w9 ⟨f9, v8, hw1, rfl, hS⟩; (repeat (first | refine Qo ?_ | refine Qp ?_ | refine fun _ => ?_)); refine QG ?_; refine .inr ⟨_, rfl, ?_⟩; exact ⟨_, _, ins_we hop hb0 hx hw1, rfl, St.weak hS.sp hle5⟩) (h := ?_); rintro u1 w2 ⟨rfl, hw1, v9, hv9, hS⟩; refine zn ?_; refine Q0 ?_; refine Q1 ?_; refine zv hS ?_; refine zsn hS ?_; intro w1 hS; have hS := hS.ns; refine zm ?_; refine zn ?_; refine zr ?_; refine QU vw (Qa (n := 8) (by kernel_rfl) (by kernel_rfl) (hS.blkAt fd) (by rfl) (by rfl)) vw ?_; (first | exact .inl ⟨_, rfl, .inl ⟨Qd4 (by omega), rfl, hS.sp⟩⟩ | exact .inl ⟨_, rfl, .inr ⟨x, l2.tail, v9, c5, _, ins_o hop hb0 hx hw1, (by have z1 := Q9 l2; show l2.tail.length < r.length + 1; omega), hle5, hd5, rfl, hv9, hS.sp⟩⟩))
theorem prins_c {pb e : Nat} {v : Value} {l : List Tok} (hv : tokR.sl cx v l) (hS : St cx w (prs pb v e :: L)) :
    Fins Tryz.prog Q8 [.pointer (some ⟨pb, 0, none⟩)] w (InsS pb e v l cx L) (PBad (pIns e l) pb e cx L) := by
  rcases l with _ | ⟨⟨a, t2, m⟩, r⟩
  · exact prins_n hv hS
  · cases m with
    | some n => exact prins_s hv hS
    | none => exact prins_w hv hS
end Go.Proofs.YtjecflbbcnocdaaGreatDoor
namespace Go.Lir
section
variable {e : Nat} {l l1 l2 : List Tok} {t : Tail} {g : Flt}
theorem to_X : pTo e l = Qc (pNum e l) fun b l => Qc (Qip e l) fun regs l => Qc (Qaq e l) fun args l => .ok (⟨b, regs, args⟩, l) := rfl
theorem tail_j (h : isT QjX l = true) : Q57 e l = Qc (pTo e l.tail) fun y l => .ok (⟨1, 0, y, ⟨0, [], []⟩, []⟩, l) := by unfold Q57; rw [if_pos h]
theorem tail_i (h : isT QjX l = false) (h2 : isT tIf l = true) : Q57 e l = Qc (pNum e l.tail) fun a l => Qc (want e tTo l) fun _ l => Qc (pTo e l) fun y l => Qc (want e Qnx l) fun _ l => Qc (pTo e l) fun n l => .ok (⟨2, a, y, n, []⟩, l) := by
  unfold Q57; rw [if_neg (by rw [h]; decide), if_pos h2]
theorem tail_r (h : isT QjX l = false) (h2 : isT tIf l = false) : Q57 e l = Qc (want e tRet l) fun _ l => Qc (Qaq e l) fun args l => .ok (⟨3, 0, ⟨0, [], []⟩, ⟨0, [], []⟩, args⟩, l) := by
  unfold Q57; rw [if_neg (by rw [h]; decide), if_neg (by rw [h2]; decide)]
theorem Qcf (h : Q57 e l = .error g) : Q6Z e l = .error g := by unfold Q6Z; rw [h]; rfl
theorem ends_w (h : Q57 e l = .ok (t, l1)) (h2 : want e [59] l1 = .error g) : Q6Z e l = .error g := by unfold Q6Z; rw [h]; simp only [Qc, h2]
theorem ends_o (h : Q57 e l = .ok (t, l1)) (h2 : want e [59] l1 = .ok ((), l2)) : Q6Z e l = .ok (t, l2) := by unfold Q6Z; rw [h]; simp only [Qc, h2]
end
end Go.Lir
namespace Go.Proofs.YtjecflbbcnocdaaGreatDoor
open Go.Lir
set_option maxHeartbeats 1000000
attribute [local irreducible] LC.wp Q3 QF QK retQ Q1E LO.wp Qq Calls
set_option linter.unusedSimpArgs false
set_option linter.unusedVariables false
attribute [local irreducible] pMany Q1Q Q2l pNum want isT pTyp Q61 pTo Q57 Q6Z
variable {cx : Cx} {w : World} {L : List Res}
theorem Qo1 {pb e : Nat} {v : Value} {l : List Tok} (hv : tokR.sl cx v l) (hS : St cx w (prs pb v e :: L)) :
    Fins Tryz.prog Q6B [.pointer (some ⟨pb, 0, none⟩)] w (POk toR Q56 (pTo e l) pb e l.length cx L) (PBad (pTo e l) pb e cx L) := by
  have hX := to_X (e := e) (l := l)
  have z1 := Q9 l
  unfold Fins
  all_goals refine Qai ?_
  all_goals (unfold parse_parser_to_lc; refine Q0 ?_; refine Q1 ?_; refine Qb hS ?_; intro p2 w1 hS; refine zn ?_; refine Q0 ?_; have hS : St _ _ (prs pb v e :: blk p2 48 [.int .i64 0, .slice none 0 0, .slice none 0 0] :: L) := hS.sp; refine Q1 ?_; refine zm ?_; refine zE1 (c := Q2g hv hS) (p := by rintro u9 w9 ⟨f, v', g1, rfl, hS⟩; (repeat (first | refine Qo ?_ | refine Qp ?_ | refine fun _ => ?_)); refine QG ?_; refine .inr ⟨_, rfl, ?_⟩; exact ⟨_, _, Q1C hX g1, rfl, hS.sp⟩) (h := ?_); rintro u1 w2 ⟨b, vc, g1, rfl, hvc, hS⟩; have hX := Q1F hX g1; (try dsimp only at hX); refine zb1 [_, _, _] ?_; refine Qb hS ?_; intro p3 w1 hS; refine zsn hS ?_; intro w1 hS; have hS := hS.ns; refine zn ?_; refine Q0 ?_; refine Q1 ?_; refine zm ?_; refine zE3 (c := Qbd hvc (St.mv1 hS)) (p := by rintro u9 w9 ⟨f, v', g1, rfl, hS⟩; (repeat (first | refine Qo ?_ | refine Qp ?_ | refine fun _ => ?_)); refine QG ?_; refine .inr ⟨_, rfl, ?_⟩; exact ⟨_, _, Q1C hX g1, rfl, hS.sp⟩) (h := ?_); rintro u1 w2 ⟨xs, l4, vc, c2, g1, g2, hle2, hkr, hvc, hS⟩; have hX := Q1F hX g1; (try dsimp only at hX); have hor := Rep.SR.oneC hkr; refine Q2 rfl ?_; refine zst hS ?_; intro w1 hS; have hS := hS.ns; refine zn ?_; refine Q0 ?_; refine Q1 ?_; refine zm ?_; refine zE3 (c := Qbd hvc hS) (p := by rintro u9 w9 ⟨f, v', g1, rfl, hS⟩; (repeat (first | refine Qo ?_ | refine Qp ?_ | refine fun _ => ?_)); refine QG ?_; refine .inr ⟨_, rfl, ?_⟩; exact ⟨_, _, Q1C hX g1, rfl, St.weak hS.sp hle2⟩) (h := ?_); rintro u1 w2 ⟨ys, l5, vc, c3, g1, g3, hle3, hka, hvc, hS⟩; have hX := Q1F hX g1; (try dsimp only at hX); have hoa := Rep.SR.oneC hka)
  all_goals (refine Q2 rfl ?_; refine zst hS ?_; intro w1 hS; have hS := hS.ns; refine zn ?_; refine Q0 ?_; refine Q1 ?_; refine zv hS ?_; refine zsn hS ?_; intro w1 hS; have hS := hS.ns; refine zn ?_; refine zr ?_; refine Q1G vw (Qa (n := 3) (by kernel_rfl) (by kernel_rfl) (hS.blkAt fd) (by rfl) (by rfl)) ?_; exact .inl ⟨_, rfl, ⟨b, xs, ys⟩, l5, vc, c3, _, hX, by omega, hle2.trans hle3, ⟨_, _, rfl, hkr.up hle3, hka⟩, rfl, hvc, hS.sp⟩)
theorem prends_c {pb e : Nat} {v : Value} {l : List Tok} (hv : tokR.sl cx v l) (hS : St cx w (prs pb v e :: L)) :
    Fins Tryz.prog Q1v [.pointer (some ⟨pb, 0, none⟩)] w (POk endR Q56 (Q6Z e l) pb e l.length cx L) (PBad (Q6Z e l) pb e cx L) := by
  have hle := St.refl hS
  have hnil : intR.sl cx (.slice none 0 0) [] := Rep.SR.nil _ _ _
  have z1 := Q9 l
  have z2 := Q9 l.tail
  have z3 := Q9 l.tail.tail
  unfold Fins
  all_goals refine Q8R ?_
  all_goals (unfold parse_parser_ends_lc; refine Q0 ?_; refine Q1 ?_; refine Qb hS ?_; intro p2 w1 hS; refine zn ?_; refine Q0 ?_; refine Q1 ?_; refine Qb hS ?_; intro p3 w1 hS; refine zn ?_)
  refine zM [0, 2, 3] (fun A ρ' w' => ∃ (t : Tail) (l2 : List Tok) (v2 : Value) (c5 : Cx) (y1 y2 n1 n2 ar : Value), Has ρ' A ∧ Has ρ' [] ∧ (Q57 e l = .ok (t, l2)) ∧ (l2.length ≤ l.length) ∧ (cx.Le c5) ∧ (endR.at c5 [.int .i64 t.op, .int .i64 t.a, .int .i64 t.yes.block, y1, y2, .int .i64 t.no.block, n1, n2, ar] t) ∧ (tokR.sl c5 v2 l2) ∧ St c5 w' (prs pb v2 e :: blk p3 50 [.int .i64 t.op, .int .i64 t.a, .int .i64 t.yes.block, y1, y2, .int .i64 t.no.block, n1, n2, ar] :: blk p2 50 [.int .i64 0, .int .i64 0, .int .i64 0, .slice none 0 0, .slice none 0 0, .int .i64 0, .slice none 0 0, .slice none 0 0, .slice none 0 0] :: L)) ?_ ?_
  · skip
    all_goals (refine Qh ?_; refine Q0 ?_; refine Q1 ?_; refine zm ?_)
    all_goals (have hS : St _ _ (prs pb v e :: blk p3 50 [.int .i64 0, .int .i64 0, .int .i64 0, .slice none 0 0, .slice none 0 0, .int .i64 0, .slice none 0 0, .slice none 0 0, .slice none 0 0] :: blk p2 50 [.int .i64 0, .int .i64 0, .int .i64 0, .slice none 0 0, .slice none 0 0, .int .i64 0, .slice none 0 0, .slice none 0 0, .slice none 0 0] :: L) := hS.sp; refine zR2 (c := is_c (s := QjX) hv hS) (h := ?_); rintro u1 w1 ⟨rfl, hS⟩; cases q0 : isT QjX l)
    all_goals (refine zm ?_; refine zn ?_)
    all_goals
      first
      | (refine Q4 rfl ?_ -- Q1v c0
         all_goals (refine Q0 ?_; have hX := tail_j (e := e) q0; refine Q1 ?_; refine zm ?_; obtain ⟨t9, ht9⟩ := Qbu q0; refine zR1 (c := Q9i ht9 hv hS) (h := ?_); rintro u1 w1 ⟨rfl, vc, hvc, hS⟩; refine zn ?_; refine Q1 ?_; refine zm ?_; refine zE1 (c := Qo1 hvc hS) (p := by rintro u9 w9 ⟨f, v', g1, rfl, hS⟩; (repeat (first | refine Qo ?_ | refine Qp ?_ | refine fun _ => ?_)); refine QG ?_; refine .inr ⟨_, rfl, ?_⟩; exact ⟨_, _, Qcf (Q1C hX g1), rfl, hS.sp⟩) (h := ?_); rintro u1 w2 ⟨a1, l1, vc, c2, ds, g1, k1, hle2, hd1, rfl, hvc, hS⟩; have hX := Q1F hX g1; (try dsimp only at hX); obtain ⟨u1, u2, rfl, e1, e2⟩ := Q9d hd1; have hq : endR.at c2 [.int .i64 1, .int .i64 0, .int .i64 a1.block, u1, u2, .int .i64 0, .slice none 0 0, .slice none 0 0, .slice none 0 0] (⟨1, 0, a1, ⟨0, [], []⟩, []⟩ : Tail) := ⟨_, _, _, _, _, rfl, e1, e2, hnil.up hle2, hnil.up hle2, hnil.up hle2⟩; have oq := endR.one hq; unfold Q56; refine zb2 [_, _, _, _, _, _, _, _, _] ?_; refine zsn hS ?_; intro w1 hS; have hS := hS.ns)
         all_goals refine zn ?_)
      | (refine Q5 rfl ?_ -- Q1v c0
         all_goals (refine Q0 ?_; refine Q1 ?_; refine zm ?_)
         all_goals (refine zR2 (c := is_c (s := tIf) hv hS) (h := ?_); rintro u1 w1 ⟨rfl, hS⟩; cases q1 : isT tIf l)
         all_goals (refine zm ?_; refine zn ?_)
         all_goals
           first
           | (refine Q4 rfl ?_ -- Q1v c1
              all_goals (refine Q0 ?_; have hX := tail_i (e := e) q0 q1; refine Q1 ?_; refine zm ?_; obtain ⟨t9, ht9⟩ := Qbu q1; refine zR1 (c := Q9i ht9 hv hS) (h := ?_); rintro u1 w1 ⟨rfl, vc, hvc, hS⟩; refine zn ?_; refine Q0 ?_; refine Q1 ?_; refine zm ?_; refine zE1 (c := Q2g hvc hS) (p := by rintro u9 w9 ⟨f, v', g1, rfl, hS⟩; (repeat (first | refine Qo ?_ | refine Qp ?_ | refine fun _ => ?_)); refine QG ?_; refine .inr ⟨_, rfl, ?_⟩; exact ⟨_, _, Qcf (Q1C hX g1), rfl, hS.sp⟩) (h := ?_); rintro u1 w2 ⟨m, vc, g1, rfl, hvc, hS⟩; have hX := Q1F hX g1; (try dsimp only at hX); refine zb2 [_, _, _, _, _, _, _, _, _] ?_; refine zsn hS ?_; intro w1 hS; have hS := hS.ns; refine zn ?_; refine Q0 ?_; refine Q1 ?_; refine zm ?_; refine zB1 hS [_] ?_; intro b1 w1 hS; have hS := Q1U (s := tTo) hS; refine zE2 (c := Q1T hvc hS) (p := by rintro u9 w9 ⟨f, v', g1, rfl, hS⟩; (repeat (first | refine Qo ?_ | refine Qp ?_ | refine fun _ => ?_)); refine QG ?_; refine .inr ⟨_, rfl, ?_⟩; exact ⟨_, _, Qcf (Q1C hX g1), rfl, hS.sp⟩) (h := ?_); rintro u1 w2 ⟨rfl, g1, vc, hvc, hS⟩; have hX := Q1F hX g1; (try dsimp only at hX); refine zn ?_; refine Q0 ?_; refine Q1 ?_; refine zm ?_; refine zE1 (c := Qo1 hvc hS) (p := by rintro u9 w9 ⟨f, v', g1, rfl, hS⟩; (repeat (first | refine Qo ?_ | refine Qp ?_ | refine fun _ => ?_)); refine QG ?_; refine .inr ⟨_, rfl, ?_⟩; exact ⟨_, _, Qcf (Q1C hX g1), rfl, hS.sp⟩) (h := ?_); rintro u1 w2 ⟨a1, l1, vc, c2, ds, g1, k1, hle2, hd1, rfl, hvc, hS⟩; have hX := Q1F hX g1; (try dsimp only at hX); obtain ⟨u1, u2, rfl, e1, e2⟩ := Q9d hd1; unfold Q56; have z4 := Q9 l1)
              all_goals (refine Q2 rfl ?_; (first | (refine zsn hS ?_; intro w1 hS; have hS := hS.ns) | (refine zsm hS ?_; intro w1 hS; have hS := hS.ns)); refine zn ?_; refine Q0 ?_; refine Q1 ?_; refine zm ?_; refine zB1 hS [_] ?_; intro b1 w1 hS; have hS := Q1U (s := Qnx) hS; refine zE2 (c := Q1T hvc hS) (p := by rintro u9 w9 ⟨f, v', g1, rfl, hS⟩; (repeat (first | refine Qo ?_ | refine Qp ?_ | refine fun _ => ?_)); refine QG ?_; refine .inr ⟨_, rfl, ?_⟩; exact ⟨_, _, Qcf (Q1C hX g1), rfl, St.weak hS.sp hle2⟩) (h := ?_); rintro u1 w2 ⟨rfl, g1, vc, hvc, hS⟩; have hX := Q1F hX g1; (try dsimp only at hX); refine zn ?_; refine Q1 ?_; refine zm ?_; refine zE1 (c := Qo1 hvc hS) (p := by rintro u9 w9 ⟨f, v', g1, rfl, hS⟩; (repeat (first | refine Qo ?_ | refine Qp ?_ | refine fun _ => ?_)); refine QG ?_; refine .inr ⟨_, rfl, ?_⟩; exact ⟨_, _, Qcf (Q1C hX g1), rfl, St.weak hS.sp hle2⟩) (h := ?_); rintro u1 w2 ⟨a2, l2, vc, c3, ds, g1, k2, hle3, hd2, rfl, hvc, hS⟩; have hX := Q1F hX g1; (try dsimp only at hX); obtain ⟨u3, u4, rfl, e3, e4⟩ := Q9d hd2; have hq : endR.at c3 [.int .i64 2, .int .i64 m, .int .i64 a1.block, u1, u2, .int .i64 a2.block, u3, u4, .slice none 0 0] (⟨2, m, a1, a2, []⟩ : Tail) := ⟨_, _, _, _, _, rfl, e1.up hle3, e2.up hle3, e3, e4, hnil.up (hle2.trans hle3)⟩; have oq := endR.one hq; unfold Q56; refine Q2 rfl ?_; (first | (refine zsn hS ?_; intro w1 hS; have hS := hS.ns) | (refine zsm hS ?_; intro w1 hS; have hS := hS.ns)))
              all_goals refine zn ?_)
           | (refine Q5 rfl ?_ -- Q1v c1
              all_goals (refine Q0 ?_; have hX := tail_r (e := e) q0 q1; refine Q1 ?_; refine zm ?_; refine zB1 hS [_] ?_; intro b1 w1 hS; have hS := Q1U (s := tRet) hS; refine zE2 (c := Q1T hv hS) (p := by rintro u9 w9 ⟨f, v', g1, rfl, hS⟩; (repeat (first | refine Qo ?_ | refine Qp ?_ | refine fun _ => ?_)); refine QG ?_; refine .inr ⟨_, rfl, ?_⟩; exact ⟨_, _, Qcf (Q1C hX g1), rfl, hS.sp⟩) (h := ?_); rintro u1 w2 ⟨rfl, g1, vc, hvc, hS⟩; have hX := Q1F hX g1; (try dsimp only at hX); refine zn ?_; refine Q1 ?_; refine zm ?_; refine zE3 (c := Qbd hvc hS) (p := by rintro u9 w9 ⟨f, v', g1, rfl, hS⟩; (repeat (first | refine Qo ?_ | refine Qp ?_ | refine fun _ => ?_)); refine QG ?_; refine .inr ⟨_, rfl, ?_⟩; exact ⟨_, _, Qcf (Q1C hX g1), rfl, hS.sp⟩) (h := ?_); rintro u1 w2 ⟨xs, l1, vc, c2, g1, k1, hle2, hka, hvc, hS⟩; have hX := Q1F hX g1; (try dsimp only at hX); have hq : endR.at c2 [.int .i64 3, .int .i64 0, .int .i64 0, .slice none 0 0, .slice none 0 0, .int .i64 0, .slice none 0 0, .slice none 0 0, u1] (⟨3, 0, ⟨0, [], []⟩, ⟨0, [], []⟩, xs⟩ : Tail) := ⟨_, _, _, _, _, rfl, hnil.up hle2, hnil.up hle2, hnil.up hle2, hnil.up hle2, hka⟩; have oq := endR.one hq; obtain ⟨au, nu, rfl⟩ := Rep.SR.shape hka; refine zb2 [_, _, _, _, _, _, _, _, _] ?_; refine zsn hS ?_; intro w1 hS; have hS := hS.ns)
              all_goals refine zn ?_))
    all_goals ((first | (exact ⟨⟨1, 0, a1, ⟨0, [], []⟩, []⟩, l1, vc, c2, u1, u2, _, _, _, zh, zh, hX, by omega, hle2, ⟨_, _, _, _, _, rfl, e1, e2, hnil.up hle2, hnil.up hle2, hnil.up hle2⟩, hvc, hS.sp⟩) | (exact ⟨⟨2, m, a1, a2, []⟩, l2, vc, c3, u1, u2, u3, u4, _, zh, zh, hX, by omega, hle2.trans hle3, ⟨_, _, _, _, _, rfl, e1.up hle3, e2.up hle3, e3, e4, hnil.up (hle2.trans hle3)⟩, hvc, hS.sp⟩) | (exact ⟨⟨3, 0, ⟨0, [], []⟩, ⟨0, [], []⟩, xs⟩, l1, vc, c2, _, _, _, _, _, zh, zh, hX, by omega, hle2, ⟨_, _, _, _, _, rfl, hnil.up hle2, hnil.up hle2, hnil.up hle2, hnil.up hle2, hka⟩, hvc, hS.sp⟩)))
  rintro ρ w1 ⟨t, l2, v2, c5, y1, y2, n1, n2, ar, hA, hρ, hx, hl2, hle5, hd5, hv2, hS⟩; obtain ⟨ρ, rfl⟩ := env2 hA hρ
  all_goals (refine Q0 ?_; refine Q1 ?_; refine zm ?_; refine zB1 hS [_] ?_; intro b1 w1 hS; have hS := Q1U (s := [59]) hS; refine zE2 (c := Q1T hv2 hS) (p := by rintro u9 w9 ⟨f9, v8, hw1, rfl, hS⟩; (repeat (first | refine Qo ?_ | refine Qp ?_ | refine fun _ => ?_)); refine QG ?_; refine .inr ⟨_, rfl, ?_⟩; exact ⟨_, _, ends_w hx hw1, rfl, St.weak hS.sp hle5⟩) (h := ?_); rintro u1 w2 ⟨rfl, hw1, v9, hv9, hS⟩; have hd6 := hd5; obtain ⟨w5, w6, w7, w8, w9, e9, i1, i2, i3, i4, i5⟩ := Qd5 hd5; have hone := endR.one hd6; refine zn ?_; refine Q0 ?_; refine Q1 ?_; refine zv hS ?_; refine zsn hS ?_; intro w1 hS; have hS := hS.ns; refine zn ?_; refine zr ?_; refine Q1G vw (Qa (n := 9) (by kernel_rfl) (by kernel_rfl) (hS.blkAt fd) (by rfl) (by rfl)) ?_; exact .inl ⟨_, rfl, t, l2.tail, v9, c5, _, ends_o hx hw1, (by have z9 := Q9 l2; omega), hle5, hd6, rfl, hv9, hS.sp⟩)
end Go.Proofs.YtjecflbbcnocdaaGreatDoor
namespace Go.Lir
section
variable {α β : Type} {e k : Nat} {f : List Tok → PGot (Option α)} {q : List Tok → PGot α} {p : List Tok → Bool} {l l1 l2 : List Tok} {xs : List α} {a : α} {g : Flt} {X : PGot (List α)}
theorem block_X : Q40 e l = Qc (want e Q5b l) fun _ l => Qc (pNum e l) fun regs l => Qc (Q3M e l) fun ps l => Qc (want e [123] l) fun _ l => Qc (pAll (pIns e) l) fun code l => Qc (Q6Z e l) fun fin l => Qc (want e [125] l) fun _ l => .ok (⟨regs, ps, code, fin⟩, l) := rfl
theorem func_X : pFun e l = Qc (want e Qnw l) fun _ l => Qc (pNum e l) fun regs l => Qc (Q3M e l) fun ps l => Qc (want e QjY l) fun _ l => Qc (Q3M e l) fun rs l => Qc (want e [123] l) fun _ l => Qc (pAll (pIf (isT Q5b) (Q40 e)) l) fun bl l => Qc (want e [125] l) fun _ l => .ok (⟨regs, ps, rs, bl⟩, l) := rfl
theorem Qoh (f : List Tok → PGot (Option α)) (l : List Tok) : pAll f l = Q2l [] (pOpts f (l.length + 1) l) := (Qlp _).symm
theorem Qmu (hd : X = Q2l xs (pOpts f k l)) (hk : l.length < k) (h : f l = .error g) : X = .error g := by
  obtain ⟨k, rfl⟩ : ∃ m, k = m + 1 := ⟨k - 1, by omega⟩
  rw [hd, pOpts, h]; rfl
theorem Qog (hd : X = Q2l xs (pOpts f k l)) (hk : l.length < k) (h : f l = .ok (none, l2)) : X = .ok (xs, l2) := by
  obtain ⟨k, rfl⟩ : ∃ m, k = m + 1 := ⟨k - 1, by omega⟩
  rw [hd, pOpts, h]; simp [Qc, Q2l]
theorem Qof (hd : X = Q2l xs (pOpts f k l)) (hk : l.length < k) (h : f l = .ok (some a, l2)) : X = Q2l (xs ++ [a]) (pOpts f (k - 1) l2) := by
  obtain ⟨k, rfl⟩ : ∃ m, k = m + 1 := ⟨k - 1, by omega⟩
  rw [hd, pOpts, h, show k + 1 - 1 = k by omega]
  simp only [Qc]
  cases pOpts f k l2 with
  | error e => rfl
  | ok y => obtain ⟨y, r⟩ := y; simp [Q2l]
theorem pif_e (h : p l = true) (h2 : q l = .error g) : pIf p q l = .error g := by unfold pIf; rw [if_pos h, h2]; rfl
theorem pif_o (h : p l = true) (h2 : q l = .ok (a, l2)) : pIf p q l = .ok (some a, l2) := by unfold pIf; rw [if_pos h, h2]; rfl
theorem pif_n (h : p l = false) : pIf p q l = .ok (none, l) := by unfold pIf; rw [if_neg (by rw [h]; decide)]
end
def QoT (w : World) (b j : Nat) : Value := (w.cell? ⟨b, j, none⟩).getD undef
theorem Q7p {w : World} {c : Cx} {L : List Res} {T b j i : Nat} {cs : List Value} {u : Value} (hS : St c w L) (hi : nth L i = some (blk b T cs)) (hj : cs[j]? = some u) : QoT w b j = u := by
  unfold QoT; rw [(hS.blkAt hi).cell hj]; rfl
end Go.Lir
namespace Go.Proofs.YtjecflbbcnocdaaGreatDoor
open Go.Lir
set_option maxHeartbeats 1000000
attribute [local irreducible] LC.wp Q3 QF QK retQ Q1E LO.wp Qq Calls
set_option linter.unusedSimpArgs false
set_option linter.unusedVariables false
attribute [local irreducible] pMany Q1Q Q2l pNum want isT pTyp Q61 pTo Q57 Q6Z pIns Q3M pOpts pAll pIf Q40 pFun
variable {cx : Cx} {w : World} {L : List Res}
/-- An instruction, or none, which is all noughts. -/
def InsU (pb e : Nat) (l : List Tok) (cx : Cx) (L : List Res) (u : Value) (w' : World) : Prop :=
  ∃ x bb l' v' c' vr va, pIns e l = .ok (if bb = true then some x else none, l') ∧ l'.length ≤ l.length ∧ (bb = true → l'.length < l.length) ∧ cx.Le c' ∧ insR.at c' [.int .i64 x.op, .int .i64 x.a, .int .i64 x.b, .int .i64 x.c, .int .i64 x.k, .int .i64 x.n, vr, va] x ∧ u = .tuple #[.agg ⟨[.int .i64 x.op, .int .i64 x.a, .int .i64 x.b, .int .i64 x.c, .int .i64 x.k, .int .i64 x.n, vr, va]⟩, .bool bb] ∧ tokR.sl c' v' l' ∧ St c' w' (prs pb v' e :: L)
theorem Qo2 {pb e : Nat} {v : Value} {l : List Tok} (hv : tokR.sl cx v l) (hS : St cx w (prs pb v e :: L)) :
    Fins Tryz.prog Q8 [.pointer (some ⟨pb, 0, none⟩)] w (InsU pb e l cx L) (PBad (pIns e l) pb e cx L) := by
  refine Fins.mono (prins_c hv hS) ?_ (fun _ _ h => h)
  rintro u w' (⟨h1, rfl, hS'⟩ | ⟨x, l', v', c', ds, h1, h2, hle, hx, rfl, hv', hS'⟩)
  · exact ⟨⟨0, 0, 0, 0, 0, 0, [], []⟩, false, l, v, cx, _, _, h1, Nat.le_refl _, (fun h => by cases h), St.refl hS, ⟨_, _, rfl, Rep.SR.nil _ _ _, Rep.SR.nil _ _ _⟩, rfl, hv, hS'⟩
  · obtain ⟨vr, va, rfl, i1, i2⟩ := Q3i hx
    exact ⟨x, true, l', v', c', vr, va, h1, by omega, fun _ => h2, hle, ⟨_, _, rfl, i1, i2⟩, rfl, hv', hS'⟩
theorem Qo3 {pb e : Nat} {v : Value} {l : List Tok} (hN : l.length ≤ 100000) (hv : tokR.sl cx v l) (hS : St cx w (prs pb v e :: L)) :
    Fins Tryz.prog Q21 [.pointer (some ⟨pb, 0, none⟩)] w (POk blockR Q56 (Q40 e l) pb e (l.length - 1) cx L) (PBad (Q40 e l) pb e cx L) := by
  have hle := St.refl hS
  have hX := block_X (e := e) (l := l)
  unfold Fins
  all_goals refine Q6X ?_
  all_goals (unfold parse_parser_block_lc; refine Q0 ?_; refine Q1 ?_; refine Qb hS ?_; intro p2 w1 hS; refine zn ?_; refine Q0 ?_; have hS : St cx _ (prs pb v e :: blk p2 52 [.int .i64 0, .slice none 0 0, .slice none 0 0, .int .i64 0, .int .i64 0, .int .i64 0, .slice none 0 0, .slice none 0 0, .int .i64 0, .slice none 0 0, .slice none 0 0, .slice none 0 0] :: L) := hS.sp; refine Q1 ?_; refine zm ?_; refine zB1 hS [_] ?_; intro b1 w1 hS; have hS := Q1U (s := Q5b) hS; refine zE2 (c := Q1T hv hS) (p := by rintro u9 w9 ⟨f, v', g1, rfl, hS⟩; (repeat (first | refine Qo ?_ | refine Qp ?_ | refine fun _ => ?_)); refine QG ?_; refine .inr ⟨_, rfl, ?_⟩; exact ⟨_, _, Q1C hX g1, rfl, St.weak hS.sp hle⟩) (h := ?_); rintro u1 w2 ⟨rfl, g1, vc, hvc, hS⟩; have z1 := (Q4J g1).2; have hX := Q1F hX g1; (try dsimp only at hX); refine zn ?_; refine Q0 ?_; refine Q1 ?_; refine zm ?_; refine zE1 (c := Q2g hvc hS) (p := by rintro u9 w9 ⟨f, v', g1, rfl, hS⟩; (repeat (first | refine Qo ?_ | refine Qp ?_ | refine fun _ => ?_)); refine QG ?_; refine .inr ⟨_, rfl, ?_⟩; exact ⟨_, _, Q1C hX g1, rfl, St.weak hS.sp hle⟩) (h := ?_); rintro u1 w2 ⟨rg, vc, g1, rfl, hvc, hS⟩; have hX := Q1F hX g1; (try dsimp only at hX); have z2 := Q9 l.tail; refine zb1 [_, _, _, _, _, _, _, _, _, _, _, _] ?_; refine Qb hS ?_; intro p3 w1 hS; refine zsn hS ?_; intro w1 hS; have hS := hS.ns)
  all_goals (refine zn ?_; refine Q0 ?_; have hS : St cx _ (prs pb vc e :: blk p3 52 [.int .i64 rg, .slice none 0 0, .slice none 0 0, .int .i64 0, .int .i64 0, .int .i64 0, .slice none 0 0, .slice none 0 0, .int .i64 0, .slice none 0 0, .slice none 0 0, .slice none 0 0] :: blk p2 52 [.int .i64 0, .slice none 0 0, .slice none 0 0, .int .i64 0, .int .i64 0, .int .i64 0, .slice none 0 0, .slice none 0 0, .int .i64 0, .slice none 0 0, .slice none 0 0, .slice none 0 0] :: L) := hS.sp; refine Q1 ?_; refine zm ?_)
  all_goals (refine zE1 (c := Qi9 hvc hS) (p := by rintro u9 w9 ⟨f, v', g1, rfl, hS⟩; (repeat (first | refine Qo ?_ | refine Qp ?_ | refine fun _ => ?_)); refine QG ?_; refine .inr ⟨_, rfl, ?_⟩; exact ⟨_, _, Q1C hX g1, rfl, St.weak hS.sp hle⟩) (h := ?_); rintro vps w2 ⟨ps, l4, vc, c2, g1, k1, hle2, hkp, hvc, hS⟩; have hX := Q1F hX g1; (try dsimp only at hX); (try have hle := hle.trans hle2); have ho := Rep.SR.oneC hkp)
  all_goals (refine Q2 rfl ?_; refine zst hS ?_; intro w1 hS; have hS := hS.ns; refine zn ?_; refine Q0 ?_; have hS : St c2 _ (prs pb vc e :: blk p3 52 [.int .i64 rg, vps, .slice none 0 0, .int .i64 0, .int .i64 0, .int .i64 0, .slice none 0 0, .slice none 0 0, .int .i64 0, .slice none 0 0, .slice none 0 0, .slice none 0 0] :: blk p2 52 [.int .i64 0, .slice none 0 0, .slice none 0 0, .int .i64 0, .int .i64 0, .int .i64 0, .slice none 0 0, .slice none 0 0, .int .i64 0, .slice none 0 0, .slice none 0 0, .slice none 0 0] :: L) := hS.sp; refine Q1 ?_; refine zm ?_; refine zB1 hS [_] ?_; intro b1 w1 hS; have hS := Q1U (s := [123]) hS; refine zE2 (c := Q1T hvc hS) (p := by rintro u9 w9 ⟨f, v', g1, rfl, hS⟩; (repeat (first | refine Qo ?_ | refine Qp ?_ | refine fun _ => ?_)); refine QG ?_; refine .inr ⟨_, rfl, ?_⟩; exact ⟨_, _, Q1C hX g1, rfl, St.weak hS.sp hle⟩) (h := ?_); rintro u1 w2 ⟨rfl, g1, vc, hvc, hS⟩; have z3 := (Q4J g1).2; have hX := Q1F hX g1; (try dsimp only at hX); have hd0 := Qoh (pIns e) l4.tail; refine zn ?_; refine Q0 ?_; refine Q0 ?_; refine Q1 ?_; refine zm ?_)
  all_goals (refine zE1 (c := Qo2 hvc hS) (p := by rintro u9 w9 ⟨f, v', g1, rfl, hS⟩; (repeat (first | refine Qo ?_ | refine Qp ?_ | refine fun _ => ?_)); refine QG ?_; refine .inr ⟨_, rfl, ?_⟩; exact ⟨_, _, Q1C hX (Qmu hd0 (by omega) g1), rfl, St.weak hS.sp hle⟩) (h := ?_); rintro u1 w2 ⟨x, bb, l6, vc, c3, vr, va, g1, k2, k3, hle2, hx, rfl, hvc, hS⟩; (try have hle := hle.trans hle2); (try have hkp := hkp.up hle2))
  all_goals (refine zm ?_; refine Q1M rfl rfl ?_; refine Q1M rfl rfl ?_; refine Qb hS ?_; intro p4 w1 hS; refine zsn hS ?_; intro w1 hS; have hS := hS.ns; refine zm ?_; refine zn ?_; refine Qh ?_)
  refine zo [0, 2, 3] (fun A ρ' w' => ∃ (k0 : Cx) (pq : Nat) (bb : Bool) (x : Ins) (vr va : Value) (l1 l2 : List Tok) (v2 : Value) (k : Nat) (xs : List Ins) (vb : Value) (cb : List (List Value)), Has ρ' A ∧ Has ρ' [(4, .pointer (some ⟨pq, 0, none⟩)), (5, .bool bb)] ∧ (c3.Le k0) ∧ (pIns e l1 = .ok (if bb = true then some x else none, l2)) ∧ (l1.length < k) ∧ (l2.length ≤ l1.length) ∧ (bb = true → l2.length < l1.length) ∧ (xs.length + l1.length ≤ l4.length) ∧ (insR.at k0 [.int .i64 x.op, .int .i64 x.a, .int .i64 x.b, .int .i64 x.c, .int .i64 x.k, .int .i64 x.n, vr, va] x) ∧ (tokR.sl k0 v2 l2) ∧ (insR.ls k0 cb xs) ∧ (oneC vb = true) ∧ (pAll (pIns e) l4.tail = Q2l xs (pOpts (pIns e) k l1)) ∧ St k0 w' (prs pb v2 e :: sl 54 8 vb cb :: blk pq 54 [.int .i64 x.op, .int .i64 x.a, .int .i64 x.b, .int .i64 x.c, .int .i64 x.k, .int .i64 x.n, vr, va] :: blk p3 52 [.int .i64 rg, vps, vb, .int .i64 0, .int .i64 0, .int .i64 0, .slice none 0 0, .slice none 0 0, .int .i64 0, .slice none 0 0, .slice none 0 0, .slice none 0 0] :: blk p2 52 [.int .i64 0, .slice none 0 0, .slice none 0 0, .int .i64 0, .int .i64 0, .int .i64 0, .slice none 0 0, .slice none 0 0, .int .i64 0, .slice none 0 0, .slice none 0 0, .slice none 0 0] :: L)) (fun _ w' => l4.length + 1 - slen (QoT w' p3 2)) ?_ ?_
  · exact ⟨c3, p4, bb, x, vr, va, l4.tail, l6, vc, l4.tail.length + 1, [], .slice none 0 0, [], zh, zh, St.refl hS, g1, Nat.lt_succ_self _, k2, k3, (by simp only [List.length_nil]; omega), hx, hvc, Rep.LR.nil _ _ _, rfl, hd0, by have hS := hS.nil (T := 54) (es := 8); exact hS.sp⟩
  rintro ρ w1 ⟨k0, pq, bb, x, vr, va, l1, l2, v2, k, xs, vb, cb, hA, hρ, hle2, hq, hk, hl2, hlt, hxl, hx, hv2, hlb, hvb, hd, hS⟩; obtain ⟨ρ, rfl⟩ := env2 hA hρ; have hL0 := hle2; (try have hle := hle.trans hle2); (try have hvc := hvc.up hle2); (try have hkp := hkp.up hle2); have hm0 := Q7p (j := 2) hS (i := 3) rfl rfl; have hsl0 := St.slen hS (i := 1) rfl; have hcl0 := hlb.1
  unfold Q3k
  all_goals (refine Q0 ?_; refine Q0 ?_)
  all_goals (cases bb)
  all_goals (refine Q1 ?_; refine zm ?_; refine zn ?_)
  all_goals
    first
    | (refine Q4 rfl ?_ -- Q21 c0
       all_goals (refine zsk ?_; refine Q0 ?_; refine Qh ?_; have hlt := hlt rfl; have hd4 := Qof hd hk hq; refine Q1 ?_; refine Q2 rfl ?_; refine zl hS ?_; refine zv hS ?_; refine zB1 hS [_, _, _, _, _, _, _, _] ?_; intro b1 w1 hS; refine za el_T45 u_T45 hS ?_; intro vp1 w1 css1 hls1 hv1 hS; have hS := hS.ns; refine Q2 rfl ?_; refine zst hS ?_; intro w1 hS; have hS := hS.ns; refine zn ?_; refine Q0 ?_; refine Q0 ?_; refine Q1 ?_; refine zv hS ?_; refine zn ?_; refine Q1 ?_; refine Qb hS ?_; intro p4 w1 hS; refine zsn hS ?_; intro w1 hS; have hS := hS.ns; refine zn ?_; have hS : St k0 _ (prs pb v2 e :: sl 54 8 vp1 css1 :: blk p4 54 [.int .i64 x.op, .int .i64 x.a, .int .i64 x.b, .int .i64 x.c, .int .i64 x.k, .int .i64 x.n, vr, va] :: blk p3 52 [.int .i64 rg, vps, vp1, .int .i64 0, .int .i64 0, .int .i64 0, .slice none 0 0, .slice none 0 0, .int .i64 0, .slice none 0 0, .slice none 0 0, .slice none 0 0] :: blk p2 52 [.int .i64 0, .slice none 0 0, .slice none 0 0, .int .i64 0, .int .i64 0, .int .i64 0, .slice none 0 0, .slice none 0 0, .int .i64 0, .slice none 0 0, .slice none 0 0, .slice none 0 0] :: L) := hS.sp)
       all_goals (refine Q1 ?_; refine zm ?_)
       all_goals (refine zE1 (c := Qo2 hv2 hS) (p := by rintro u9 w9 ⟨f, v', g3, rfl, hS⟩; (repeat (first | refine Qo ?_ | refine Qp ?_ | refine fun _ => ?_)); refine QG ?_; refine .inr ⟨_, rfl, ?_⟩; exact ⟨_, _, Q1C hX (Qmu hd4 (by omega) g3), rfl, St.weak hS.sp hle⟩) (h := ?_); rintro u1 w2 ⟨x3, b3, l7, v3, c4, vr3, va3, g3, k3, k4, hle2, hx3, rfl, hv3, hS⟩; (try have hle := hle.trans hle2); (try have hL0 := hL0.trans hle2); (try have hls1 := hls1.up hle2); (try have hvc := hvc.up hle2); (try have hkp := hkp.up hle2); (try have hlb := hlb.up hle2); (try have hx := hx.up hle2); (try have hv2 := hv2.up hle2); have hsl1 := St.slen hS (i := 1) rfl; have hcl1 := hls1.1; rw [List.length_append] at hcl1; have hc1 : [x].length = 1 := rfl)
       all_goals (refine zm ?_; refine Q1M rfl rfl ?_; refine Q1M rfl rfl ?_; refine zsn hS ?_; intro w1 hS; have hS := hS.ns; refine zm ?_; refine zn ?_)
       all_goals (exact ⟨⟨_, p4, b3, x3, vr3, va3, l2, l7, v3, k - 1, xs ++ [x], vp1, _, zh, zh, hL0, g3, by omega, k3, k4, (by rw [List.length_append]; omega), hx3, hv3, hls1, hv1, hd4, hS.sp⟩, by rw [hm0, Q7p (j := 2) hS (i := 3) rfl rfl]; omega⟩))
    | (refine Q5 rfl ?_ -- Q21 c0
       all_goals (refine zex ?_)
       all_goals (have hfin := Qog hd hk hq; have hX := Q1F hX hfin; (try dsimp only at hX); obtain ⟨c6, hle2, hS2, hkc⟩ := St.freezeL (r := insR) (hS.out (r := sl 54 8 vb cb) fd) hlb rfl (by omega); clear hS; have hS := hS2; simp only [List.eraseIdx_cons_zero, List.eraseIdx_cons_succ] at hS; (try have hle := hle.trans hle2); (try have hL0 := hL0.trans hle2); (try have hvc := hvc.up hle2); (try have hkp := hkp.up hle2); (try have hlb := hlb.up hle2); (try have hx := hx.up hle2); (try have hv2 := hv2.up hle2))
       all_goals (refine Q0 ?_; have hS : St c6 _ (prs pb v2 e :: blk p3 52 [.int .i64 rg, vps, vb, .int .i64 0, .int .i64 0, .int .i64 0, .slice none 0 0, .slice none 0 0, .int .i64 0, .slice none 0 0, .slice none 0 0, .slice none 0 0] :: blk p2 52 [.int .i64 0, .slice none 0 0, .slice none 0 0, .int .i64 0, .int .i64 0, .int .i64 0, .slice none 0 0, .slice none 0 0, .int .i64 0, .slice none 0 0, .slice none 0 0, .slice none 0 0] :: L) := hS.sp; refine Q1 ?_; refine zm ?_)
       all_goals (refine zE1 (c := prends_c hv2 hS) (p := by rintro u9 w9 ⟨f, v', g1, rfl, hS⟩; (repeat (first | refine Qo ?_ | refine Qp ?_ | refine fun _ => ?_)); refine QG ?_; refine .inr ⟨_, rfl, ?_⟩; exact ⟨_, _, Q1C hX g1, rfl, St.weak hS.sp hle⟩) (h := ?_); rintro u1 w2 ⟨t, l8, v8, c7, ds, g1, k5, hle2, hd5, rfl, hvc, hS⟩; have hX := Q1F hX g1; (try dsimp only at hX); have hd6 := hd5; obtain ⟨y1, y2, y3, y4, y5, rfl, i1, i2, i3, i4, i5⟩ := Qd5 hd5; unfold Q56; (try have hle := hle.trans hle2); (try have hL0 := hL0.trans hle2); (try have hkp := hkp.up hle2); (try have hlb := hlb.up hle2); (try have hx := hx.up hle2); (try have hkc := hkc.up hle2); (try have hv2 := hv2.up hle2); have hone := endR.one hd6; have hbk : blockR.at c7 [.int .i64 rg, vps, vb, .int .i64 t.op, .int .i64 t.a, .int .i64 t.yes.block, y1, y2, .int .i64 t.no.block, y3, y4, y5] ⟨rg, ps, xs, t⟩ := QoW (x := ⟨rg, ps, xs, t⟩) hkp hkc i1 i2 i3 i4 i5)
       all_goals (refine Q2 rfl ?_; (first | (refine zsn hS ?_; intro w1 hS; have hS := hS.ns) | (refine zsm hS ?_; intro w1 hS; have hS := hS.ns)); refine zn ?_; refine Q0 ?_; refine Q1 ?_; refine zm ?_; refine zB1 hS [_] ?_; intro b1 w1 hS; have hS := Q1U (s := [125]) hS; refine zE2 (c := Q1T hvc hS) (p := by rintro u9 w9 ⟨f, v', g1, rfl, hS⟩; (repeat (first | refine Qo ?_ | refine Qp ?_ | refine fun _ => ?_)); refine QG ?_; refine .inr ⟨_, rfl, ?_⟩; exact ⟨_, _, Q1C hX g1, rfl, St.weak hS.sp hle⟩) (h := ?_); rintro u1 w2 ⟨rfl, g1, vc, hvc, hS⟩; have z9 := (Q4J g1).2; have hX := Q1F hX g1; (try dsimp only at hX); refine zn ?_; refine Q0 ?_; refine Q1 ?_; refine zv hS ?_; refine zsn hS ?_; intro w1 hS; have hS := hS.ns; refine zn ?_; refine zr ?_; refine Q1G vw (Qa (n := 12) (by kernel_rfl) (by kernel_rfl) (hS.blkAt fd) (by rfl) (by rfl)) ?_)
       all_goals (exact .inl ⟨_, rfl, ⟨rg, ps, xs, t⟩, l8.tail, vc, c7, _, hX, by omega, hle, hbk, rfl, hvc, hS.sp⟩))
theorem prfun_c {pb e : Nat} {v : Value} {l : List Tok} (hN : l.length ≤ 100000) (hv : tokR.sl cx v l) (hS : St cx w (prs pb v e :: L)) :
    Fins Tryz.prog Q1J [.pointer (some ⟨pb, 0, none⟩)] w (POk funcR Q56 (pFun e l) pb e (l.length - 1) cx L) (PBad (pFun e l) pb e cx L) := by
  have hle := St.refl hS
  have hX := func_X (e := e) (l := l)
  unfold Fins
  all_goals refine Q4D ?_
  all_goals (unfold parse_parser_function_lc; refine Q0 ?_; refine Q1 ?_; refine Qb hS ?_; intro p2 w1 hS; refine zn ?_; refine Q0 ?_; have hS : St cx _ (prs pb v e :: blk p2 43 [.int .i64 0, .slice none 0 0, .slice none 0 0, .slice none 0 0] :: L) := hS.sp; refine Q1 ?_; refine zm ?_; refine zB1 hS [_] ?_; intro b1 w1 hS; have hS := Q1U (s := Qnw) hS; refine zE2 (c := Q1T hv hS) (p := by rintro u9 w9 ⟨f, v', g1, rfl, hS⟩; (repeat (first | refine Qo ?_ | refine Qp ?_ | refine fun _ => ?_)); refine QG ?_; refine .inr ⟨_, rfl, ?_⟩; exact ⟨_, _, Q1C hX g1, rfl, St.weak hS.sp hle⟩) (h := ?_); rintro u1 w2 ⟨rfl, g1, vc, hvc, hS⟩; have z1 := (Q4J g1).2; have hX := Q1F hX g1; (try dsimp only at hX); refine zn ?_; refine Q0 ?_; refine Q1 ?_; refine zm ?_; refine zE1 (c := Q2g hvc hS) (p := by rintro u9 w9 ⟨f, v', g1, rfl, hS⟩; (repeat (first | refine Qo ?_ | refine Qp ?_ | refine fun _ => ?_)); refine QG ?_; refine .inr ⟨_, rfl, ?_⟩; exact ⟨_, _, Q1C hX g1, rfl, St.weak hS.sp hle⟩) (h := ?_); rintro u1 w2 ⟨rg, vc, g1, rfl, hvc, hS⟩; have hX := Q1F hX g1; (try dsimp only at hX); have z2 := Q9 l.tail; refine zb1 [_, _, _, _] ?_; refine Qb hS ?_; intro p3 w1 hS; refine zsn hS ?_; intro w1 hS; have hS := hS.ns; refine zn ?_; refine Q0 ?_; have hS : St cx _ (prs pb vc e :: blk p3 43 [.int .i64 rg, .slice none 0 0, .slice none 0 0, .slice none 0 0] :: blk p2 43 [.int .i64 0, .slice none 0 0, .slice none 0 0, .slice none 0 0] :: L) := hS.sp)
  all_goals (refine Q1 ?_; refine zm ?_)
  all_goals (refine zE1 (c := Qi9 hvc hS) (p := by rintro u9 w9 ⟨f, v', g1, rfl, hS⟩; (repeat (first | refine Qo ?_ | refine Qp ?_ | refine fun _ => ?_)); refine QG ?_; refine .inr ⟨_, rfl, ?_⟩; exact ⟨_, _, Q1C hX g1, rfl, St.weak hS.sp hle⟩) (h := ?_); rintro vps w2 ⟨ps, l4, vc, c2, g1, k1, hle2, hkp, hvc, hS⟩; have hX := Q1F hX g1; (try dsimp only at hX); (try have hle := hle.trans hle2); have ho := Rep.SR.oneC hkp)
  all_goals (refine Q2 rfl ?_; refine zst hS ?_; intro w1 hS; have hS := hS.ns; refine zn ?_; refine Q0 ?_; have hS : St c2 _ (prs pb vc e :: blk p3 43 [.int .i64 rg, vps, .slice none 0 0, .slice none 0 0] :: blk p2 43 [.int .i64 0, .slice none 0 0, .slice none 0 0, .slice none 0 0] :: L) := hS.sp; refine Q1 ?_; refine zm ?_; refine zB1 hS [_] ?_; intro b1 w1 hS; have hS := Q1U (s := QjY) hS; refine zE2 (c := Q1T hvc hS) (p := by rintro u9 w9 ⟨f, v', g1, rfl, hS⟩; (repeat (first | refine Qo ?_ | refine Qp ?_ | refine fun _ => ?_)); refine QG ?_; refine .inr ⟨_, rfl, ?_⟩; exact ⟨_, _, Q1C hX g1, rfl, St.weak hS.sp hle⟩) (h := ?_); rintro u1 w2 ⟨rfl, g1, vc, hvc, hS⟩; have z3 := (Q4J g1).2; have hX := Q1F hX g1; (try dsimp only at hX); refine zn ?_; refine Q0 ?_; have hS : St c2 _ (prs pb vc e :: blk p3 43 [.int .i64 rg, vps, .slice none 0 0, .slice none 0 0] :: blk p2 43 [.int .i64 0, .slice none 0 0, .slice none 0 0, .slice none 0 0] :: L) := hS.sp; refine Q1 ?_; refine zm ?_)
  all_goals (refine zE1 (c := Qi9 hvc hS) (p := by rintro u9 w9 ⟨f, v', g1, rfl, hS⟩; (repeat (first | refine Qo ?_ | refine Qp ?_ | refine fun _ => ?_)); refine QG ?_; refine .inr ⟨_, rfl, ?_⟩; exact ⟨_, _, Q1C hX g1, rfl, St.weak hS.sp hle⟩) (h := ?_); rintro vrs w2 ⟨rs, l5, vc, c3, g1, k2, hle2, hkr, hvc, hS⟩; have hX := Q1F hX g1; (try dsimp only at hX); (try have hle := hle.trans hle2); (try have hkp := hkp.up hle2); have ho2 := Rep.SR.oneC hkr)
  all_goals (refine Q2 rfl ?_; refine zst hS ?_; intro w1 hS; have hS := hS.ns; refine zn ?_; refine Q0 ?_; have hS : St c3 _ (prs pb vc e :: blk p3 43 [.int .i64 rg, vps, vrs, .slice none 0 0] :: blk p2 43 [.int .i64 0, .slice none 0 0, .slice none 0 0, .slice none 0 0] :: L) := hS.sp; refine Q1 ?_; refine zm ?_; refine zB1 hS [_] ?_; intro b1 w1 hS; have hS := Q1U (s := [123]) hS; refine zE2 (c := Q1T hvc hS) (p := by rintro u9 w9 ⟨f, v', g1, rfl, hS⟩; (repeat (first | refine Qo ?_ | refine Qp ?_ | refine fun _ => ?_)); refine QG ?_; refine .inr ⟨_, rfl, ?_⟩; exact ⟨_, _, Q1C hX g1, rfl, St.weak hS.sp hle⟩) (h := ?_); rintro u1 w2 ⟨rfl, g1, vc, hvc, hS⟩; have z4 := (Q4J g1).2; have hX := Q1F hX g1; (try dsimp only at hX); have hd0 := Qoh (pIf (isT Q5b) (Q40 e)) l5.tail; refine zn ?_; refine Q0 ?_; refine Qh ?_)
  refine zo [0, 2, 3] (fun A ρ' w' => ∃ (k0 : Cx) (l1 : List Tok) (v1 : Value) (k : Nat) (xs : List Block) (vb : Value) (cb : List (List Value)), Has ρ' A ∧ Has ρ' [] ∧ (c3.Le k0) ∧ (l1.length < k) ∧ (xs.length + l1.length ≤ l5.length) ∧ (tokR.sl k0 v1 l1) ∧ (blockR.ls k0 cb xs) ∧ (oneC vb = true) ∧ (pAll (pIf (isT Q5b) (Q40 e)) l5.tail = Q2l xs (pOpts (pIf (isT Q5b) (Q40 e)) k l1)) ∧ St k0 w' (prs pb v1 e :: sl 52 12 vb cb :: blk p3 43 [.int .i64 rg, vps, vrs, vb] :: blk p2 43 [.int .i64 0, .slice none 0 0, .slice none 0 0, .slice none 0 0] :: L)) (fun _ w' => l5.length + 1 - slen (QoT w' p3 3)) ?_ ?_
  · exact ⟨c3, l5.tail, vc, l5.tail.length + 1, [], .slice none 0 0, [], zh, zh, St.refl hS, Nat.lt_succ_self _, (by simp only [List.length_nil]; omega), hvc, Rep.LR.nil _ _ _, rfl, hd0, by have hS := hS.nil (T := 52) (es := 12); exact hS.sp⟩
  rintro ρ w1 ⟨k0, l1, v1, k, xs, vb, cb, hA, hρ, hle2, hk, hxl, hv1, hlb, hvb, hd, hS⟩; obtain ⟨ρ, rfl⟩ := env2 hA hρ; have hL0 := hle2; (try have hle := hle.trans hle2); (try have hvc := hvc.up hle2); (try have hkp := hkp.up hle2); (try have hkr := hkr.up hle2); have hm0 := Q7p (j := 3) hS (i := 2) rfl rfl; have hsl0 := St.slen hS (i := 1) rfl; have hcl0 := hlb.1
  unfold Q2O
  all_goals (refine Q0 ?_; refine Q0 ?_; refine Q1 ?_; refine zm ?_)
  all_goals (refine zR2 (c := is_c (s := Q5b) hv1 hS) (h := ?_); rintro u1 w1 ⟨rfl, hS⟩; cases hq : isT Q5b l1)
  all_goals (refine zn ?_)
  all_goals
    first
    | (refine Q4 rfl ?_ -- Q1J c0
       all_goals (refine zsk ?_; refine Qh ?_; refine zC [(0, none), (1, none), (2, none), (3, some (some [1])), (4, some (some [1])), (5, some none), (6, none), (7, some none)] ?_; have hS := hS.drew; refine s_cq ?_; refine Q2 rfl ?_; refine zt ?_; refine s_cq ?_; refine zl hS ?_; refine zt ?_; refine s_cq ?_; refine zm ?_; refine zt ?_; refine Q7x ?_)
       all_goals (refine zE1 (c := Qo3 (by omega) hv1 hS) (p := by rintro u9 w9 ⟨f, v', g1, rfl, hS⟩; (repeat (first | refine Qo ?_ | refine Qp ?_ | refine fun _ => ?_)); refine QG ?_; refine .inr ⟨_, rfl, ?_⟩; exact ⟨_, _, Q1C hX (Qmu hd hk (pif_e hq g1)), rfl, St.weak hS.sp hle⟩) (h := ?_); rintro u1 w2 ⟨x, l8, v8, c8, ds, g1, k8, hle2, hx8, rfl, hv8, hS⟩; (try have hle := hle.trans hle2); (try have hL0 := hL0.trans hle2); (try have hvc := hvc.up hle2); (try have hkp := hkp.up hle2); (try have hkr := hkr.up hle2); (try have hlb := hlb.up hle2); (try have hv1 := hv1.up hle2); have hd9 := hx8; obtain ⟨n1, n2, n3, n4, n5, n6, n7, rfl, -⟩ := Q1X hx8; unfold Q56; have hd4 := Qof hd hk (pif_o hq g1); have z8 := isT_lt hq; have z9 := Q9 l1)
       all_goals (refine zt ?_; refine zy ?_; refine Q7x ?_; refine zB1 hS [_, _, _, _, _, _, _, _, _, _, _, _] ?_; intro b1 w1 hS; refine zt ?_; refine zy ?_; refine s_cf ?_; refine za el_T41 u_T41 hS ?_; intro vp1 w1 css1 hls1 hv1 hS; have hS := hS.ns; refine zt ?_; refine s_cq ?_; refine Q2 rfl ?_; refine zt ?_; refine s_cf ?_; refine zst hS ?_; intro w1 hS; have hS := hS.ns; refine zt ?_; refine zcn ?_)
       all_goals (exact ⟨⟨_, l8, v8, k - 1, xs ++ [x], _, _, zh, zh, hL0, by omega, (by rw [List.length_append]; simp only [List.length_cons, List.length_nil]; omega), hv8, hls1, by assumption, hd4, hS.sp⟩, by rw [hm0, Q7p (j := 3) hS (i := 3) rfl rfl, St.slen hS (i := 2) rfl, hsl0, hcl0, hls1.1, List.length_append]; simp only [List.length_cons, List.length_nil]; omega⟩))
    | (refine Q5 rfl ?_ -- Q1J c0
       all_goals (refine zex ?_)
       all_goals (have hfin := Qog hd hk (pif_n hq); have hX := Q1F hX hfin; (try dsimp only at hX); obtain ⟨c6, hle2, hS2, hkb⟩ := St.freezeL (r := blockR) (hS.out (r := sl 52 12 vb cb) fd) hlb rfl (by omega); clear hS; have hS := hS2; simp only [List.eraseIdx_cons_zero, List.eraseIdx_cons_succ] at hS; (try have hle := hle.trans hle2); (try have hL0 := hL0.trans hle2); (try have hvc := hvc.up hle2); (try have hkp := hkp.up hle2); (try have hkr := hkr.up hle2); (try have hlb := hlb.up hle2); (try have hv1 := hv1.up hle2); have hfn : funcR.at c6 [.int .i64 rg, vps, vrs, vb] ⟨rg, ps, rs, xs⟩ := ⟨_, _, _, rfl, hkp, hkr, hkb⟩)
       all_goals (refine Q0 ?_; have hS : St c6 _ (prs pb v1 e :: blk p3 43 [.int .i64 rg, vps, vrs, vb] :: blk p2 43 [.int .i64 0, .slice none 0 0, .slice none 0 0, .slice none 0 0] :: L) := hS.sp; refine Q1 ?_; refine zm ?_; refine zB1 hS [_] ?_; intro b1 w1 hS; have hS := Q1U (s := [125]) hS; refine zE2 (c := Q1T hv1 hS) (p := by rintro u9 w9 ⟨f, v', g1, rfl, hS⟩; (repeat (first | refine Qo ?_ | refine Qp ?_ | refine fun _ => ?_)); refine QG ?_; refine .inr ⟨_, rfl, ?_⟩; exact ⟨_, _, Q1C hX g1, rfl, St.weak hS.sp hle⟩) (h := ?_); rintro u1 w2 ⟨rfl, g1, vc, hvc, hS⟩; have z10 := (Q4J g1).2; have hX := Q1F hX g1; (try dsimp only at hX); refine zn ?_; refine Q0 ?_; refine Q1 ?_; refine zv hS ?_; refine zsn hS ?_; intro w1 hS; have hS := hS.ns; refine zn ?_; refine zr ?_; refine Q1G vw (Qa (n := 4) (by kernel_rfl) (by kernel_rfl) (hS.blkAt fd) (by rfl) (by rfl)) ?_)
       all_goals (exact .inl ⟨_, rfl, ⟨rg, ps, rs, xs⟩, l1.tail, vc, c6, _, hX, by omega, hle, hfn, rfl, hvc, hS.sp⟩))
end Go.Proofs.YtjecflbbcnocdaaGreatDoor
namespace Go.Lir
set_option linter.unusedVariables false
/-- What the program makes of a number ahead of writing it. -/
def zigI (n : Int) : Int := bitI .xor .u64 (IntKind.u64.wrap (IntKind.u64.wrap n * 2 ^ (min (1 : Int).toNat IntKind.u64.bits))) (IntKind.u64.wrap (n.fdiv (2 ^ (min (63 : Int).toNat IntKind.i64.bits))))
def zig (n : Int) : Nat := (zigI n).toNat
/-- The low bits first, seven at a time. -/
def leb : Nat → Nat → List UInt8
  | 0, _ => []
  | k + 1, u => if u < 128 then [UInt8.ofNat u] else UInt8.ofNat (u % 128 + 128) :: leb k (u / 128)
theorem Qou : ∀ (k u : Nat), (leb k u).length ≤ k
  | 0, _ => by simp [leb]
  | k + 1, u => by
    rw [leb]
    split
    · simp
    · have := Qou k (u / 128)
      simp only [List.length_cons]; omega
def Q64 (n : Int) : List UInt8 := leb 10 (zig n)
def Qmx (l : List Int) : List UInt8 := l.flatMap Q64
theorem Q13 (n : Int) : (Q64 n).length ≤ 10 := Qou 10 _
theorem Qhq : ∀ (l : List Int), (Qmx l).length ≤ 10 * l.length
  | [] => by simp [Qmx]
  | n :: l => by
    have h1 := Q13 n
    have h2 := Qhq l
    simp only [Qmx, List.flatMap_cons, List.length_append, List.length_cons] at h2 ⊢
    omega
/-- A list of numbers, its length ahead of it. -/
def Qlt (l : List Int) : List UInt8 := Q64 l.length ++ Qmx l
mutual
def Ty.bts : Ty → List UInt8
  | .mk k r l => Q64 k ++ (if k ≠ 1 then Q64 r else []) ++ (if k = 3 then Q64 l.length ++ Tys.bts l else [])
def Tys.bts : List Ty → List UInt8
  | [] => []
  | x :: l => x.bts ++ Tys.bts l
end
/-- A list of types, its length ahead of it. -/
def tysB (l : List Ty) : List UInt8 := Q64 l.length ++ Tys.bts l
def To.bts (t : To) : List UInt8 := Q64 t.block ++ Qlt t.regs ++ Qlt t.args
def Tail.bts (e : Tail) : List UInt8 := Q64 e.op ++ (if e.op = 1 then e.yes.bts else if e.op = 2 then Q64 e.a ++ e.yes.bts ++ e.no.bts else if e.op = 3 then Qlt e.args else [])
/-- Which parts an instruction has. -/
def QdW (op : Int) : Nat := if op < 0 ∨ 14 < op then 0 else [0, 64, 11, 0, 1, 33, 9, 11, 3, 3, 7, 1, 0, 1, 56].getD op.toNat 0
def regsB (h : Nat) : Nat → List Int → List UInt8
  | _, [] => []
  | k, n :: l => (if h / 2 ^ k % 2 = 1 then Q64 n else []) ++ regsB h (k + 1) l
def Ins.bts (x : Ins) : List UInt8 := Q64 x.op ++ regsB (QdW x.op) 0 [x.a, x.b, x.c, x.k] ++ (if QdW x.op / 64 % 2 = 1 then Q64 x.n else []) ++ (if QdW x.op / 16 % 2 = 1 then Qlt x.regs else []) ++ (if QdW x.op / 32 % 2 = 1 then Qlt x.args else [])
end Go.Lir
namespace Go.Lir
set_option linter.unusedVariables false
mutual
def Ty.nodes : Ty → Nat
  | .mk _ _ l => 1 + Tys.nodes l
def Tys.nodes : List Ty → Nat
  | [] => 0
  | x :: l => x.nodes + Tys.nodes l
end
mutual
theorem Ty.size_nodes : ∀ (t : Ty) {n : Int}, 0 ≤ t.size n → t.size n = n - t.nodes
  | .mk k r l, n, h => by
    rw [Ty.size] at h ⊢
    rw [Tys.size_nodes l h, Ty.nodes]
    omega
theorem Tys.size_nodes : ∀ (l : List Ty) {n : Int}, 0 ≤ Tys.size l n → Tys.size l n = n - Tys.nodes l
  | [], n, h => by rw [Tys.size, Tys.nodes]; omega
  | x :: l, n, h => by
    rw [Tys.size] at h ⊢
    by_cases hn : 0 ≤ n
    · rw [if_pos hn] at h ⊢
      have hx : 0 ≤ x.size n := by
        rcases Int.lt_or_le (x.size n) 0 with h1 | h1
        · rw [Tys.size_neg l h1] at h; omega
        · exact h1
      rw [Tys.size_nodes l h, Ty.size_nodes x hx, Tys.nodes]
      omega
    · rw [if_neg hn] at h; omega
end
theorem Ty.nodes_of_great {t : Ty} (h : t.great = false) : t.nodes ≤ 2000 := by
  unfold Ty.great at h
  simp at h
  have := Ty.size_nodes t h
  omega
end Go.Lir
namespace Go.Lir
set_option linter.unusedVariables false
/-- One bit. -/
def crcStep (c : BitVec 32) : BitVec 32 := (c >>> 1) ^^^ (3988292384#32 &&& -(c &&& 1#32))
def crcN : Nat → BitVec 32 → BitVec 32
  | 0, c => c
  | k + 1, c => crcN k (crcStep c)
/-- One byte. -/
def crcByte (c : BitVec 32) (x : UInt8) : BitVec 32 := crcN 8 (c ^^^ BitVec.ofNat 32 x.toNat)
def crcOf (bs : List UInt8) : BitVec 32 := 4294967295#32 ^^^ bs.foldl crcByte 4294967295#32
section
variable {P : Program} {l : List GO} {Q : QT} {ρ : Env} {w : World}
end
end Go.Lir
namespace Go.Lir
set_option linter.unusedVariables false
def Block.bts (b : Block) : List UInt8 := Q64 b.regs ++ tysB b.params ++ Q64 b.code.length ++ b.code.flatMap Ins.bts ++ b.fin.bts
def Fun.bts (f : Fun) : List UInt8 := Q64 f.regs ++ tysB f.params ++ tysB f.results ++ Q64 f.blocks.length ++ f.blocks.flatMap Block.bts
def Module.body (m : Module) : List UInt8 := [67, 72, 1] ++ Q64 m.funcs.length ++ m.funcs.flatMap Fun.bts
def Ins.Few (x : Ins) : Prop := x.regs.length ≤ 300 ∧ x.args.length ≤ 300
def To.Few (x : To) : Prop := x.regs.length ≤ 300 ∧ x.args.length ≤ 300
def Tail.Few (x : Tail) : Prop := x.yes.Few ∧ x.no.Few ∧ x.args.length ≤ 300
def Block.Few (b : Block) : Prop := Tys.great b.params = false ∧ b.code.length ≤ 200 ∧ (∀ i ∈ b.code, i.Few) ∧ b.fin.Few
def Fun.Few (f : Fun) : Prop := Tys.great f.params = false ∧ Tys.great f.results = false ∧ f.blocks.length ≤ 30 ∧ ∀ b ∈ f.blocks, b.Few
def Module.Few (m : Module) : Prop := m.funcs.length ≤ 20 ∧ ∀ f ∈ m.funcs, f.Few
theorem QmD {α : Type} {f : α → List UInt8} {c : Nat} : ∀ {l : List α}, (∀ x ∈ l, (f x).length ≤ c) → (l.flatMap f).length ≤ l.length * c
  | [], _ => by simp
  | x :: l, h => by
    have h1 := h x (List.mem_cons_self ..)
    have h2 := QmD (l := l) fun y hy => h y (List.mem_cons_of_mem _ hy)
    rw [List.flatMap_cons, List.length_append, List.length_cons, Nat.succ_mul]
    omega
theorem Qkn {α : Type} {f : α → List UInt8} {c n : Nat} {l : List α} (h : ∀ x ∈ l, (f x).length ≤ c) (hn : l.length ≤ n) : (l.flatMap f).length ≤ n * c :=
  Nat.le_trans (QmD h) (Nat.mul_le_mul_right c hn)
mutual
theorem Ty.bts_len : ∀ (t : Ty), t.bts.length ≤ 30 * t.nodes
  | .mk k r l => by
    have h1 := Tys.bts_len l
    have h2 := Q13 k
    have h3 := Q13 r
    have h4 := Q13 l.length
    rw [Ty.bts, Ty.nodes]
    simp only [List.length_append]
    split <;> split <;> simp only [List.length_append, List.length_nil] <;> omega
theorem Tys.bts_len : ∀ (l : List Ty), (Tys.bts l).length ≤ 30 * Tys.nodes l
  | [] => by simp [Tys.bts]
  | x :: l => by
    have h1 := Ty.bts_len x
    have h2 := Tys.bts_len l
    rw [Tys.bts, Tys.nodes, List.length_append]
    omega
end
theorem Tys.nodes_few : ∀ {l : List Ty}, (∀ x ∈ l, x.nodes ≤ 2000) → Tys.nodes l ≤ 2000 * l.length
  | [], _ => by simp [Tys.nodes]
  | x :: l, h => by
    have h1 := h x (List.mem_cons_self ..)
    have h2 := Tys.nodes_few (l := l) fun y hy => h y (List.mem_cons_of_mem _ hy)
    rw [Tys.nodes, List.length_cons]
    omega
theorem QhD {l : List Ty} (h : Tys.great l = false) : (tysB l).length ≤ 12000010 := by
  unfold Tys.great at h
  rw [Bool.or_eq_false_iff] at h
  have hl : l.length ≤ 200 := by have := of_decide_eq_false h.1; omega
  have h1 := Tys.bts_len l
  have h2 := Tys.nodes_few (l := l) fun x hx => Ty.nodes_of_great (by have := List.any_eq_false.1 h.2 x hx; simpa using this)
  have h3 := Q13 l.length
  unfold tysB
  rw [List.length_append]
  omega
theorem Q75 {l : List Int} (h : l.length ≤ 300) : (Qlt l).length ≤ 3010 := by
  have h1 := Qhq l
  have h2 := Q13 l.length
  unfold Qlt
  rw [List.length_append]
  omega
theorem To.bts_few {x : To} (h : x.Few) : x.bts.length ≤ 6030 := by
  have h1 := Q75 h.1
  have h2 := Q75 h.2
  have h3 := Q13 x.block
  unfold To.bts
  simp only [List.length_append]
  omega
theorem Tail.bts_few {x : Tail} (h : x.Few) : x.bts.length ≤ 13000 := by
  have h1 := To.bts_few h.1
  have h2 := To.bts_few h.2.1
  have h3 := Q75 h.2.2
  have h4 := Q13 x.op
  have h5 := Q13 x.a
  unfold Tail.bts
  rw [List.length_append]
  split
  · omega
  · split
    · simp only [List.length_append]; omega
    · split
      · omega
      · simp only [List.length_nil]; omega
theorem Ins.bts_few {x : Ins} (h : x.Few) : x.bts.length ≤ 6110 := by
  have h1 := Q75 h.1
  have h2 := Q75 h.2
  have h3 := Q13 x.op
  have h4 := Q13 x.n
  have ha := Q13 x.a
  have hb := Q13 x.b
  have hc := Q13 x.c
  have hk := Q13 x.k
  have h5 : (regsB (QdW x.op) 0 [x.a, x.b, x.c, x.k]).length ≤ 40 := by
    simp only [regsB, List.length_append, List.length_nil]
    split <;> split <;> split <;> split <;> (try simp only [List.length_nil]) <;> omega
  unfold Ins.bts
  simp only [List.length_append]
  split <;> split <;> split <;> (try simp only [List.length_nil]) <;> omega
theorem Block.bts_few {b : Block} (h : b.Few) : b.bts.length ≤ 14000000 := by
  have h1 := QhD h.1
  have h2 := Qkn (f := Ins.bts) (c := 6110) (fun x hx => Ins.bts_few (h.2.2.1 x hx)) h.2.1
  have h3 := Tail.bts_few h.2.2.2
  have h4 := Q13 b.regs
  have h5 := Q13 b.code.length
  unfold Block.bts
  simp only [List.length_append]
  omega
theorem Fun.bts_few {f : Fun} (h : f.Few) : f.bts.length ≤ 450000000 := by
  have h1 := QhD h.1
  have h2 := QhD h.2.1
  have h3 := Qkn (f := Block.bts) (c := 14000000) (fun x hx => Block.bts_few (h.2.2.2 x hx)) h.2.2.1
  have h4 := Q13 f.regs
  have h5 := Q13 f.blocks.length
  unfold Fun.bts
  simp only [List.length_append]
  omega
end Go.Lir
namespace Go.Lir
set_option linter.unusedVariables false
abbrev Got (α : Type) := Except Flt (α × List UInt8)
/-! ### What is read was written so -/
end Go.Lir
namespace Go.Lir
section
variable {P : Program} {l : List GO} {Q : QT} {ρ : Env} {w : World}
theorem QdG {a b T T' : Nat} {R : Ending → World → Prop} {p o p' o' : Nat} {v v' : Value} (ha : ρ a = .pointer (some ⟨p, o, none⟩)) (hv : Ql7 P w ⟨p, o, none⟩ T v) (ha' : ρ b = .pointer (some ⟨p', o', none⟩)) (hv' : Ql7 P w ⟨p', o', none⟩ T' v') (h : R (.returned (.tuple #[v, v'])) w) : retQ P [.cell a T, .cell b T'] R .ret ρ w :=
  ⟨_, v, ha, hv, _, v', ha', hv', h⟩
end
end Go.Lir
namespace Go.Lir
def crc4 (c : BitVec 32) : List UInt8 := [UInt8.ofNat c.toNat, UInt8.ofNat (c >>> 8).toNat, UInt8.ofNat (c >>> 16).toNat, UInt8.ofNat (c >>> 24).toNat]
def Module.enc (m : Module) : List UInt8 := m.body ++ crc4 (crcOf m.body)
end Go.Lir
namespace Go.Lir
section
variable {bs : List UInt8} {at0 i u : Nat} {x : UInt8} {X : Got Nat}
end
end Go.Lir
namespace Go.Lir
section
variable {α : Type}
variable {f : List UInt8 → Got α} {N k n0 : Nat} {n : Int} {xs : List α} {r r1 r2 r3 : List UInt8} {a : α} {e : Flt} {X : Got (List α)}
end
end Go.Lir
namespace Go.Lir
section
variable {bs r : List UInt8} {N : Nat} {e : Flt} {l : List Fun}
end
end Go.Lir
namespace Go.Lir
set_option linter.unusedVariables false
section
variable {α β : Type} {M n : Nat}
def Goodp (M : Nat) (f : List UInt8 → Got α) (p : α → Prop) : Prop := ∀ r x r', r.length ≤ M → f r = .ok (x, r') → p x ∧ r'.length ≤ r.length
theorem Goodp.weak {f : List UInt8 → Got α} {p q : α → Prop} (h : Goodp M f p) (hq : ∀ x, p x → q x) : Goodp M f q := fun r x r' h1 h2 => ⟨hq x (h r x r' h1 h2).1, (h r x r' h1 h2).2⟩
end
end Go.Lir
namespace Go.Lir
section
variable {α β : Type} {e k n : Nat} {P : α → Prop} {Q : β → Prop} {A B : List Tok → PGot α} {x : α}
def Q1R (f : List Tok → PGot α) (P : α → Prop) : Prop := ∀ l x l', l.length ≤ 50000 → f l = .ok (x, l') → P x ∧ l'.length ≤ l.length
theorem QoA {P' : α → Prop} (h : Q1R A P) (hw : ∀ x, P x → P' x) : Q1R A P' := fun l x l' h1 h2 => ⟨hw _ (h l x l' h1 h2).1, (h l x l' h1 h2).2⟩
theorem Qm {f : α → List Tok → PGot β} (h : Q1R A P) (hf : ∀ a, P a → Q1R (f a) Q) : Q1R (fun l => Qc (A l) f) Q := by
  intro l x l' h1 h2
  dsimp only at h2
  cases hA : A l with
  | error g => rw [hA] at h2; cases h2
  | ok y =>
    obtain ⟨a, l1⟩ := y
    rw [hA] at h2
    have h3 := h l a l1 h1 hA
    have h4 := hf a h3.1 l1 x l' (by omega) h2
    exact ⟨h4.1, by omega⟩
theorem QY (h : P x) : Q1R (fun l => .ok (x, l)) P := by
  intro l y l' h1 h2; cases h2; exact ⟨h, Nat.le_refl _⟩
theorem gp_t (h : Q1R A P) : Q1R (fun l => A l.tail) P := by
  intro l y l' h1 h2
  have := Q9 l
  have h3 := h l.tail y l' (by omega) h2
  exact ⟨h3.1, by omega⟩
theorem QoF {g : List Tok → Flt} : Q1R (fun l => .error (g l)) P := by intro l y l' h1 h2; cases h2
theorem Qiy {c : List Tok → Prop} [DecidablePred c] (h1 : Q1R A P) (h2 : Q1R B P) : Q1R (fun l => if c l then A l else B l) P := by
  intro l y l' h3 h4
  dsimp only at h4
  split at h4
  · exact h1 l y l' h3 h4
  · exact h2 l y l' h3 h4
theorem Q96 {c : Prop} [Decidable c] (h1 : Q1R A P) (h2 : Q1R B P) : Q1R (fun l => if c then A l else B l) P := by
  split
  · exact h1
  · exact h2
abbrev Any : α → Prop := fun _ => True
theorem Q2K {s : List UInt8} : Q1R (want e s) Any := Qiy (gp_t (A := fun l => .ok ((), l)) (QY trivial)) QoF
theorem gp_long : Q1R (Q61 e) Any := by
  intro l x l' h1 h2
  have := Qot h2
  exact ⟨trivial, by omega⟩
theorem Q2i : Q1R (pNum e) Any := by
  intro l x l' h1 h2
  have := num_lt h2
  exact ⟨trivial, by omega⟩
theorem gp_kind : Q1R (Qap e) Any := Qiy QoF (by intro l x l' h1 h2; cases h2; exact ⟨trivial, Q9 l⟩)
theorem QoD {cl : List UInt8} (h : Q1R A P) : ∀ k n, Q1R (pMany e cl A k n) (fun l => l.length ≤ k ∧ ∀ x ∈ l, P x)
  | 0, n => QoF
  | k + 1, n => by
    have e9 : pMany e cl A (k + 1) n = fun l => if isT cl l = true then .ok ([], l.tail) else Qc ((fun l => if n = 0 then .ok ((), l) else want e [44] l) l) fun _ l => Qc (A l) fun x l => Qc (pMany e cl A k (n + 1) l) fun xs l => .ok (x :: xs, l) := by funext l; rw [pMany]
    rw [e9]
    refine Qiy (gp_t (A := fun l => .ok ([], l)) (QY ⟨by simp, by simp⟩)) (Qm (Q96 (QY (P := Any) trivial) Q2K) fun _ _ => Qm h fun x hx => Qm (QoD h k (n + 1)) fun xs hxs => QY ⟨by simp; omega, ?_⟩)
    intro y hy
    rcases List.mem_cons.1 hy with rfl | hy
    · exact hx
    · exact hxs.2 y hy
theorem Qlw {b cl : List UInt8} (h : Q1R A P) : Q1R (Q1Q e b cl A) (fun l => l.length ≤ 101 ∧ ∀ x ∈ l, P x) := Qm Q2K fun _ _ => QoD h 101 0
theorem QoE {b cl : List UInt8} : Q1R (Q1Q e b cl (pNum e)) (fun l => l.length ≤ 100000) := QoA (Qlw Q2i) fun l h => by omega
theorem gp_typ : ∀ k, Q1R (pTyp e k) Ty.Short
  | 0 => by intro l x l' h1 h2; rw [show pTyp e 0 l = .error (Q2Q e 19 l) by rw [pTyp]] at h2; cases h2
  | k + 1 => by
    have e9 : pTyp e (k + 1) = fun l => if isT tInt l = true then .ok (.mk 1 0 [], l.tail)
      else if isT Q3c l = true then Qc (pNum e l.tail) fun n l => .ok (.mk 2 n [], l)
      else if isT Q6h l = true then Qc (pNum e l.tail) fun n l => .ok (.mk 4 n [], l)
      else Qc (want e Q3j l) fun _ l => Qc (pNum e l) fun n l => Qc (Q1Q e [40] [41] (pTyp e k) l) fun ts l => .ok (.mk 3 n ts, l) := by funext l; rw [pTyp]
    rw [e9]
    have hz : ∀ (a b : Int), Ty.Short (.mk a b []) := fun a b => .mk (by simp) (by simp)
    exact Qiy (gp_t (A := fun l => .ok (Ty.mk 1 0 [], l)) (QY (hz _ _))) (Qiy (Qm (gp_t Q2i) fun n _ => QY (hz _ _)) (Qiy (Qm (gp_t Q2i) fun n _ => QY (hz _ _)) (Qm Q2K fun _ _ => Qm Q2i fun n _ => Qm (Qlw (gp_typ k)) fun ts ht => QY (.mk (by omega) ht.2))))
theorem Qix : Q1R (Q3M e) Tys.Short := QoA (Qlw (gp_typ 5)) fun l h => ⟨by omega, h.2⟩
theorem QoB : Q1R (Qip e) (fun l => l.length ≤ 100000) := QoE
theorem Qiz : Q1R (Qaq e) (fun l => l.length ≤ 100000) := QoE
theorem gp_body {op : Int} : Q1R (Q3o e op) Ins.Short := by
  have z : ∀ a b c d f g : Int, Ins.Short ⟨a, b, c, d, f, g, [], []⟩ := fun _ _ _ _ _ _ => ⟨by simp, by simp⟩
  refine Q96 (Qm gp_long fun n _ => QY (z ..)) ?_
  refine Q96 (Qm gp_kind fun k _ => Qm Q2i fun a _ => Qm Q2i fun b _ => QY (z ..)) ?_
  refine Q96 (Qm Q2i fun a _ => QY (z ..)) ?_
  refine Q96 (Qm Q2i fun a _ => Qm Qiz fun g hg => QY ⟨by simp, hg⟩) ?_
  refine Q96 (Qm Q2i fun a _ => Qm Q2i fun k _ => QY (z ..)) ?_
  refine Q96 (Qm Q2i fun a _ => Qm Q2i fun k _ => Qm Q2i fun b _ => QY (z ..)) ?_
  refine Q96 (Qm Q2i fun a _ => Qm Q2i fun b _ => QY (z ..)) ?_
  refine Q96 (Qm Q2i fun a _ => Qm Q2i fun b _ => Qm Q2i fun c _ => QY (z ..)) ?_
  exact Q96 (Qm Q2i fun k _ => Qm QoB fun r hr => Qm Qiz fun g hg => QY ⟨hr, hg⟩) (QY (z ..))
theorem gp_ins : Q1R (pIns e) (fun o => ∀ x, o = some x → Ins.Short x) := by
  intro l x l' h1 h2
  unfold pIns at h2
  split at h2
  · cases h2; exact ⟨fun x h => (by cases h), Nat.le_refl _⟩
  · exact (gp_t (Qm gp_body fun x hx => Qm Q2K fun _ _ => QY (P := fun o => ∀ x, o = some x → Ins.Short x) (fun y h => by cases h; exact hx))) l x l' h1 h2
theorem gp_to : Q1R (pTo e) To.Short := Qm Q2i fun b _ => Qm QoB fun r hr => Qm Qiz fun g hg => QY ⟨hr, hg⟩
theorem gp_tail : Q1R (Q57 e) Tail.Short := by
  have hz : To.Short ⟨0, [], []⟩ := ⟨by simp, by simp⟩
  refine Qiy (Qm (gp_t gp_to) fun y hy => QY ⟨hy, hz, by simp⟩) (Qiy ?_ ?_)
  · exact Qm (gp_t Q2i) fun a _ => Qm Q2K fun _ _ => Qm gp_to fun y hy => Qm Q2K fun _ _ => Qm gp_to fun n hn => QY ⟨hy, hn, by simp⟩
  · exact Qm Q2K fun _ _ => Qm Qiz fun g hg => QY ⟨hz, hz, hg⟩
theorem gp_ends : Q1R (Q6Z e) Tail.Short := Qm gp_tail fun t ht => Qm Q2K fun _ _ => QY ht
theorem Qlv {f : List Tok → PGot (Option α)} (h : Q1R f (fun o => ∀ x, o = some x → P x)) : ∀ k, Q1R (pOpts f k) (fun l => l.length ≤ k ∧ ∀ x ∈ l, P x)
  | 0 => QY ⟨by simp, by simp⟩
  | k + 1 => by
    have e9 : pOpts f (k + 1) = fun l => Qc (f l) fun o l => match o with
      | none => .ok ([], l)
      | some x => Qc (pOpts f k l) fun xs l => .ok (x :: xs, l) := by funext l; first | (rw [pOpts]; done) | (rw [pOpts]; rfl)
    rw [e9]
    refine Qm h fun o ho => ?_
    cases o with
    | none => exact QY ⟨by simp, by simp⟩
    | some x =>
      refine Qm (Qlv h k) fun xs hxs => QY ⟨by simp; omega, ?_⟩
      intro y hy
      rcases List.mem_cons.1 hy with rfl | hy
      · exact ho _ rfl
      · exact hxs.2 y hy
theorem QoG {f : List Tok → PGot (Option α)} (h : Q1R f (fun o => ∀ x, o = some x → P x)) : Q1R (pAll f) (fun l => l.length ≤ 100000 ∧ ∀ x ∈ l, P x) := by
  intro l x l' h1 h2
  have h3 := Qlv h (l.length + 1) l x l' h1 h2
  exact ⟨⟨by omega, h3.1.2⟩, h3.2⟩
theorem QoC {p : List Tok → Bool} (h : Q1R A P) : Q1R (pIf p A) (fun o => ∀ x, o = some x → P x) :=
  Qiy (Qm h fun x hx => QY (fun y h => by cases h; exact hx)) (QY fun y h => by cases h)
theorem gp_block : Q1R (Q40 e) Block.Short :=
  Qm Q2K fun _ _ => Qm Q2i fun g _ => Qm Qix fun ps hp => Qm Q2K fun _ _ => Qm (QoG gp_ins) fun c hc => Qm gp_ends fun t ht => Qm Q2K fun _ _ => QY ⟨hp, hc.1, hc.2, ht⟩
theorem gp_fun : Q1R (pFun e) Fun.Short :=
  Qm Q2K fun _ _ => Qm Q2i fun g _ => Qm Qix fun ps hp => Qm Q2K fun _ _ => Qm Qix fun rs hr => Qm Q2K fun _ _ => Qm (QoG (QoC gp_block)) fun bl hb => Qm Q2K fun _ _ => QY ⟨hp, hr, hb.1, hb.2⟩
theorem QdH {l l' : List Tok} {fs : List Fun} (hl : l.length ≤ 50000) (h : QdO e l = .ok (fs, l')) : (Module.mk fs).Short := by
  have := (QoG (QoC gp_fun) l fs l' hl h).1
  exact ⟨this.1, this.2⟩
theorem Qk2 {n : Nat} : ∀ {k : Nat} {l : List UInt8} {acc res : List Tok}, Q1Z n k l acc = .ok res → res.length ≤ acc.length + l.length
  | 0, l, acc, res, h => by rw [Q1Z] at h; cases h; omega
  | k + 1, [], acc, res, h => by rw [Q1Z] at h; cases h; omega
  | k + 1, c :: r, acc, res, h => by
    rw [Q1Z] at h
    split at h
    · cases h
    · rename_i t m ht
      have h1 := Qk2 h
      have h2 := Q7g ht
      have h3 := Q2F false ((c :: r).drop t.length)
      rw [List.length_drop] at h3
      simp only [List.length_append, List.length_cons, List.length_nil] at h1 h2 h3 ⊢
      omega
theorem Qmi {s : List UInt8} {l : List Tok} (h : scan s = .ok l) : l.length ≤ 40000 ∧ s.length ≤ 40000 := by
  unfold scan at h
  split at h
  · cases h
  · have h1 := Qk2 h
    have h2 := Q2F false s
    simp only [List.length_nil] at h1
    exact ⟨by omega, by omega⟩
variable {s : List UInt8} {l l' : List Tok} {f : Flt} {fs : List Fun}
theorem Qib (h : scan s = .error f) : Q2c s = .error f := by unfold Q2c; rw [h]
theorem parse_e (h : scan s = .ok l) (h2 : QdO s.length l = .error f) : Q2c s = .error f := by unfold Q2c; rw [h]; dsimp only; rw [h2]
theorem Qob (h : scan s = .ok l) (h2 : QdO s.length l = .ok (fs, l')) (h3 : (Module.fault ⟨fs⟩).1 ≠ 0) : Q2c s = .error (Module.fault ⟨fs⟩) := by unfold Q2c; rw [h]; dsimp only; rw [h2]; dsimp only; rw [if_pos h3]
theorem parse_o (h : scan s = .ok l) (h2 : QdO s.length l = .ok (fs, l')) (h3 : (Module.fault ⟨fs⟩).1 = 0) : Q2c s = .ok ⟨fs⟩ := by unfold Q2c; rw [h]; dsimp only; rw [h2]; dsimp only; rw [if_neg (by rw [h3]; decide)]
end
end Go.Lir
namespace Go.Proofs
open Go.Shelf
def Tryz.lays156_ren : Go.Shelf.Ren := ⟨fun | 156 => 108 | 165 => 140 | 166 => 57 | 169 => 62 | 240 => 106 | 241 => 151 | 276 => 139 | 277 => 164 | n => n, fun | 31 => 86 | 9 => 9 | 3 => 3 | 4 => 4 | 0 => 0 | 20 => 20 | 72 => 107 | 76 => 110 | 70 => 104 | 37 => 105 | 75 => 109 | 127 => 154 | 164 => 171 | 5 => 5 | 80 => 115 | n => n, fun | n => n⟩
theorem Tryz.lays156 : Go.Proofs.Lays.n156 Tryz.prog Tryz.lays156_ren := {
  mixed := by kernel_rfl
  f156 := Tryz.func108.trans (congrArg some (by kernel_rfl))
  f165 := Tryz.func140.trans (congrArg some (by kernel_rfl))
  f166 := Tryz.func57.trans (congrArg some (by kernel_rfl))
  f169 := Tryz.func62.trans (congrArg some (by kernel_rfl))
  f240 := Tryz.func106.trans (congrArg some (by kernel_rfl))
  f241 := Tryz.func151.trans (congrArg some (by kernel_rfl))
  f276 := Tryz.func139.trans (congrArg some (by kernel_rfl))
  f277 := Tryz.func164.trans (congrArg some (by kernel_rfl))
  t0 := Tryz.underlying0
  a0 := Tryz.isAgg0
  z0 := Tryz.sizeOf0
  v0 := Tryz.zeroValue0
  t3 := Tryz.underlying3
  a3 := Tryz.isAgg3
  z3 := Tryz.sizeOf3
  v3 := Tryz.zeroValue3
  t4 := Tryz.underlying4
  a4 := Tryz.isAgg4
  z4 := Tryz.sizeOf4
  v4 := Tryz.zeroValue4
  t9 := Tryz.underlying9
  a9 := Tryz.isAgg9
  z9 := Tryz.sizeOf9
  v9 := Tryz.zeroValue9
  t20 := Tryz.underlying20
  a20 := Tryz.isAgg20
  z20 := Tryz.sizeOf20
  v20 := Tryz.zeroValue20
  t31 := Tryz.underlying86
  a31 := Tryz.isAgg86
  z31 := Tryz.sizeOf86
  v31 := Tryz.zeroValue86
  t37 := Tryz.underlying105
  a37 := Tryz.isAgg105
  z37 := Tryz.sizeOf105
  v37 := Tryz.zeroValue105
  t70 := Tryz.underlying104
  a70 := Tryz.isAgg104
  z70 := Tryz.sizeOf104
  v70 := Tryz.zeroValue104
  t72 := Tryz.underlying107
  a72 := Tryz.isAgg107
  z72 := Tryz.sizeOf107
  v72 := Tryz.zeroValue107
  t75 := Tryz.underlying109
  a75 := Tryz.isAgg109
  z75 := Tryz.sizeOf109
  v75 := Tryz.zeroValue109
  t76 := Tryz.underlying110
  a76 := Tryz.isAgg110
  z76 := Tryz.sizeOf110
  v76 := Tryz.zeroValue110
  t127 := Tryz.underlying154
  a127 := Tryz.isAgg154
  z127 := Tryz.sizeOf154
  v127 := Tryz.zeroValue154
  t164 := Tryz.underlying171
  a164 := Tryz.isAgg171
  z164 := Tryz.sizeOf171
  v164 := Tryz.zeroValue171 }
theorem Tryz.Builder_Extra_156 : Builder.Extra Tryz.prog Tryz.lays156_ren := {
  sizeBuilder := by kernel_rfl
  liesBuilder := by kernel_rfl
  t5 := Tryz.underlying5
  a5 := Tryz.isAgg5
  z5 := Tryz.sizeOf5
  v5 := Tryz.zeroValue5
  infoByte := by kernel_rfl
  cellsByte := by kernel_rfl
  sizeByte := by kernel_rfl
  neB5 := by decide }
open Go.RowKit in
/-- No element: the empty string; the world is as it was. (Whatever the slice's address and capacity: a nil slice too.) (LAID: no walk: one application.) -/
theorem Tryz.strings_Join_none (a : Option Addr) (c : Nat) (sep : ByteArray) (w : World) :
    Calls Tryz.prog 108 #[.slice a 0 c, .string sep] w fun e w' => e = .returned (.string ⟨#[]⟩) ∧ w' = w := Any.strings_Join_none Tryz.lays156 Tryz.Builder_Extra_156 a c sep w
open Go.RowKit in
/-- strings.Join: "Join concatenates the elements of its first argument to create a single string. The separator string sep is placed between elements in the resulting string.": HOWEVER MANY ELEMENTS. Below the heap's end the world is as it was. (LAID: no walk: one application.) -/
theorem Tryz.strings_Join (bk o c : Nat) (xs : List ByteArray) (sep : ByteArray) (w : World) (hcells : ∀ (j : Nat) x, xs[j]? = some x → w.cell? ⟨bk, o + j, none⟩ = some (.string x)) (hbk : bk < w.heap.size) (hN : xs.length ≤ 140737488355328) (hcap : xs.length ≤ c) (hlen : (Lib.join (xs.map (·.data.toList)) sep.data.toList).length ≤ 140737488355328) :
    Calls Tryz.prog 108 #[.slice (some ⟨bk, o, none⟩) xs.length c, .string sep] w fun e w' => e = .returned (.string ⟨(Lib.join (xs.map (·.data.toList)) sep.data.toList).toArray⟩) ∧ Below w.heap.size w w' := Any.strings_Join Tryz.lays156 Tryz.Builder_Extra_156 bk o c xs sep w hcells hbk hN hcap hlen
def Tryz.lays137_ren : Go.Shelf.Ren := ⟨fun | 137 => 121 | 217 => 143 | 266 => 156 | n => n, fun | 9 => 9 | 5 => 5 | 3 => 3 | n => n, fun | n => n⟩
theorem Tryz.lays137 : Go.Proofs.Lays.n137 Tryz.prog Tryz.lays137_ren := {
  mixed := by kernel_rfl
  f137 := Tryz.func121.trans (congrArg some (by kernel_rfl))
  f217 := Tryz.func143.trans (congrArg some (by kernel_rfl))
  f266 := Tryz.func156.trans (congrArg some (by kernel_rfl))
  t3 := Tryz.underlying3
  a3 := Tryz.isAgg3
  z3 := Tryz.sizeOf3
  v3 := Tryz.zeroValue3
  t5 := Tryz.underlying5
  a5 := Tryz.isAgg5
  z5 := Tryz.sizeOf5
  v5 := Tryz.zeroValue5
  t9 := Tryz.underlying9
  a9 := Tryz.isAgg9
  z9 := Tryz.sizeOf9
  v9 := Tryz.zeroValue9 }
open Go.RowKit in
/-- strings.IndexByte: "IndexByte returns the index of the first instance of c in s, or -1 if c is not present in s.": IT RETURNS 'Lib.indexByte s c'; the world is as it was. (LAID: no walk: one application.) -/
theorem Tryz.strings_IndexByte (s : ByteArray) (c : Int) (w : World) :
    Calls Tryz.prog 121 #[.string s, .int .u8 c] w fun e w' => e = .returned (.int .i64 (Lib.indexByte s.data.toList c.toNat.toUInt8)) ∧ w' = w := Any.strings_IndexByte Tryz.lays137 s c w
def Tryz.laysM246_ren : Go.Shelf.Ren := ⟨fun | 246 => 141 | 283 => 152 | 284 => 153 | 285 => 154 | 286 => 155 | 129 => 166 | 317 => 165 | 318 => 167 | 319 => 168 | 320 => 169 | 337 => 174 | 338 => 175 | n => n, fun | 2 => 2 | 3 => 3 | 9 => 9 | 4 => 4 | 171 => 176 | 0 => 0 | 53 => 177 | 37 => 105 | 5 => 5 | 173 => 180 | 212 => 193 | 51 => 194 | 20 => 20 | 213 => 195 | 46 => 186 | 232 => 207 | 233 => 208 | n => n, fun | 17 => 0 | 18 => 4 | 19 => 5 | n => n⟩
theorem Tryz.laysM246 : Go.Proofs.LaysM.n246 Tryz.prog Tryz.laysM246_ren := {
  mixed := by kernel_rfl
  f129 := Tryz.func166.trans (congrArg some (by kernel_rfl))
  f246 := Tryz.func141.trans (congrArg some (by kernel_rfl))
  f283 := Tryz.func152.trans (congrArg some (by kernel_rfl))
  f284 := Tryz.func153.trans (congrArg some (by kernel_rfl))
  f285 := Tryz.func154.trans (congrArg some (by kernel_rfl))
  f286 := Tryz.func155.trans (congrArg some (by kernel_rfl))
  f317 := Tryz.func165.trans (congrArg some (by kernel_rfl))
  f318 := Tryz.func167.trans (congrArg some (by kernel_rfl))
  f319 := Tryz.func168.trans (congrArg some (by kernel_rfl))
  f320 := Tryz.func169.trans (congrArg some (by kernel_rfl))
  f337 := Tryz.func174.trans (congrArg some (by kernel_rfl))
  f338 := Tryz.func175.trans (congrArg some (by kernel_rfl))
  t0 := Tryz.underlying0
  a0 := Tryz.isAgg0
  z0 := Tryz.sizeOf0
  v0 := Tryz.zeroValue0
  t2 := Tryz.underlying2
  a2 := Tryz.isAgg2
  z2 := Tryz.sizeOf2
  v2 := Tryz.zeroValue2
  t3 := Tryz.underlying3
  a3 := Tryz.isAgg3
  z3 := Tryz.sizeOf3
  v3 := Tryz.zeroValue3
  t4 := Tryz.underlying4
  a4 := Tryz.isAgg4
  z4 := Tryz.sizeOf4
  v4 := Tryz.zeroValue4
  t5 := Tryz.underlying5
  a5 := Tryz.isAgg5
  z5 := Tryz.sizeOf5
  v5 := Tryz.zeroValue5
  t9 := Tryz.underlying9
  a9 := Tryz.isAgg9
  z9 := Tryz.sizeOf9
  v9 := Tryz.zeroValue9
  t20 := Tryz.underlying20
  a20 := Tryz.isAgg20
  z20 := Tryz.sizeOf20
  v20 := Tryz.zeroValue20
  t37 := Tryz.underlying105
  a37 := Tryz.isAgg105
  z37 := Tryz.sizeOf105
  v37 := Tryz.zeroValue105
  t46 := Tryz.underlying186
  a46 := Tryz.isAgg186
  z46 := Tryz.sizeOf186
  v46 := Tryz.zeroValue186
  t51 := Tryz.underlying194
  a51 := Tryz.isAgg194
  z51 := Tryz.sizeOf194
  v51 := Tryz.zeroValue194
  t53 := Tryz.underlying177
  a53 := Tryz.isAgg177
  z53 := Tryz.sizeOf177
  v53 := Tryz.zeroValue177
  t171 := Tryz.underlying176
  a171 := Tryz.isAgg176
  z171 := Tryz.sizeOf176
  v171 := Tryz.zeroValue176
  t173 := Tryz.underlying180
  a173 := Tryz.isAgg180
  z173 := Tryz.sizeOf180
  v173 := Tryz.zeroValue180
  t212 := Tryz.underlying193
  a212 := Tryz.isAgg193
  z212 := Tryz.sizeOf193
  v212 := Tryz.zeroValue193
  t213 := Tryz.underlying195
  a213 := Tryz.isAgg195
  z213 := Tryz.sizeOf195
  t232 := Tryz.underlying207
  a232 := Tryz.isAgg207
  z232 := Tryz.sizeOf207
  v232 := Tryz.zeroValue207
  t233 := Tryz.underlying208
  a233 := Tryz.isAgg208
  z233 := Tryz.sizeOf208
  v233 := Tryz.zeroValue208
  g17 := by kernel_rfl
  g18 := by kernel_rfl
  g19 := by kernel_rfl
  i0 := by kernel_rfl
  i2 := by kernel_rfl
  i3 := by kernel_rfl
  i4 := by kernel_rfl
  i5 := by kernel_rfl
  i9 := by kernel_rfl
  i20 := by kernel_rfl
  i37 := by kernel_rfl
  i46 := by kernel_rfl
  i51 := by kernel_rfl
  i53 := by kernel_rfl
  i171 := by kernel_rfl
  i173 := by kernel_rfl
  i212 := by kernel_rfl
  i232 := by kernel_rfl
  i233 := by kernel_rfl
  m17 := by kernel_rfl
  m18 := by kernel_rfl
  m19 := by kernel_rfl }
open Go.RowKit Go.Sort Go.Lib in
/-- internal/strconv.FormatInt: "FormatInt returns the string representation of i in the given base": AT BASE 10: i's decimal numeral, for every int64. The world behind the call: the world before it, new blocks behind the heap, draws. (LAID: no walk: one application.) -/
theorem Tryz.internal_strconv_FormatInt_10 (n : Int) (h0 : -9223372036854775808 ≤ n) (h1 : n ≤ 9223372036854775807) (w : World) (htab : Lib.TabIs Tryz.prog w "internal/strconv.uint64pow10" .u64 Lib.pow10Tab) :
    Calls Tryz.prog 141 #[.int .i64 n, .int .i64 10] w fun e w' => e = .returned (.string ⟨(Lib.itoa n).toArray⟩) ∧ ∃ k os, w' = grow (w.drewN k) os := Any.internal_strconv_FormatInt_10 Tryz.laysM246 n h0 h1 w htab
def Tryz.laysM171_ren : Go.Shelf.Ren := ⟨fun | 171 => 63 | 243 => 112 | 246 => 141 | 283 => 152 | 284 => 153 | 285 => 154 | 286 => 155 | 129 => 166 | 317 => 165 | 318 => 167 | 319 => 168 | 320 => 169 | 337 => 174 | 338 => 175 | n => n, fun | 3 => 3 | 9 => 9 | 2 => 2 | 4 => 4 | 171 => 176 | 0 => 0 | 53 => 177 | 37 => 105 | 5 => 5 | 173 => 180 | 212 => 193 | 51 => 194 | 20 => 20 | 213 => 195 | 46 => 186 | 232 => 207 | 233 => 208 | n => n, fun | 17 => 0 | 18 => 4 | 19 => 5 | n => n⟩
theorem Tryz.laysM171 : Go.Proofs.LaysM.n171 Tryz.prog Tryz.laysM171_ren := {
  mixed := by kernel_rfl
  f129 := Tryz.func166.trans (congrArg some (by kernel_rfl))
  f171 := Tryz.func63.trans (congrArg some (by kernel_rfl))
  f243 := Tryz.func112.trans (congrArg some (by kernel_rfl))
  f246 := Tryz.func141.trans (congrArg some (by kernel_rfl))
  f283 := Tryz.func152.trans (congrArg some (by kernel_rfl))
  f284 := Tryz.func153.trans (congrArg some (by kernel_rfl))
  f285 := Tryz.func154.trans (congrArg some (by kernel_rfl))
  f286 := Tryz.func155.trans (congrArg some (by kernel_rfl))
  f317 := Tryz.func165.trans (congrArg some (by kernel_rfl))
  f318 := Tryz.func167.trans (congrArg some (by kernel_rfl))
  f319 := Tryz.func168.trans (congrArg some (by kernel_rfl))
  f320 := Tryz.func169.trans (congrArg some (by kernel_rfl))
  f337 := Tryz.func174.trans (congrArg some (by kernel_rfl))
  f338 := Tryz.func175.trans (congrArg some (by kernel_rfl))
  t0 := Tryz.underlying0
  a0 := Tryz.isAgg0
  z0 := Tryz.sizeOf0
  v0 := Tryz.zeroValue0
  t2 := Tryz.underlying2
  a2 := Tryz.isAgg2
  z2 := Tryz.sizeOf2
  v2 := Tryz.zeroValue2
  t3 := Tryz.underlying3
  a3 := Tryz.isAgg3
  z3 := Tryz.sizeOf3
  v3 := Tryz.zeroValue3
  t4 := Tryz.underlying4
  a4 := Tryz.isAgg4
  z4 := Tryz.sizeOf4
  v4 := Tryz.zeroValue4
  t5 := Tryz.underlying5
  a5 := Tryz.isAgg5
  z5 := Tryz.sizeOf5
  v5 := Tryz.zeroValue5
  t9 := Tryz.underlying9
  a9 := Tryz.isAgg9
  z9 := Tryz.sizeOf9
  v9 := Tryz.zeroValue9
  t20 := Tryz.underlying20
  a20 := Tryz.isAgg20
  z20 := Tryz.sizeOf20
  v20 := Tryz.zeroValue20
  t37 := Tryz.underlying105
  a37 := Tryz.isAgg105
  z37 := Tryz.sizeOf105
  v37 := Tryz.zeroValue105
  t46 := Tryz.underlying186
  a46 := Tryz.isAgg186
  z46 := Tryz.sizeOf186
  v46 := Tryz.zeroValue186
  t51 := Tryz.underlying194
  a51 := Tryz.isAgg194
  z51 := Tryz.sizeOf194
  v51 := Tryz.zeroValue194
  t53 := Tryz.underlying177
  a53 := Tryz.isAgg177
  z53 := Tryz.sizeOf177
  v53 := Tryz.zeroValue177
  t171 := Tryz.underlying176
  a171 := Tryz.isAgg176
  z171 := Tryz.sizeOf176
  v171 := Tryz.zeroValue176
  t173 := Tryz.underlying180
  a173 := Tryz.isAgg180
  z173 := Tryz.sizeOf180
  v173 := Tryz.zeroValue180
  t212 := Tryz.underlying193
  a212 := Tryz.isAgg193
  z212 := Tryz.sizeOf193
  v212 := Tryz.zeroValue193
  t213 := Tryz.underlying195
  a213 := Tryz.isAgg195
  z213 := Tryz.sizeOf195
  t232 := Tryz.underlying207
  a232 := Tryz.isAgg207
  z232 := Tryz.sizeOf207
  v232 := Tryz.zeroValue207
  t233 := Tryz.underlying208
  a233 := Tryz.isAgg208
  z233 := Tryz.sizeOf208
  v233 := Tryz.zeroValue208
  g17 := by kernel_rfl
  g18 := by kernel_rfl
  g19 := by kernel_rfl
  i0 := by kernel_rfl
  i2 := by kernel_rfl
  i3 := by kernel_rfl
  i4 := by kernel_rfl
  i5 := by kernel_rfl
  i9 := by kernel_rfl
  i20 := by kernel_rfl
  i37 := by kernel_rfl
  i46 := by kernel_rfl
  i51 := by kernel_rfl
  i53 := by kernel_rfl
  i171 := by kernel_rfl
  i173 := by kernel_rfl
  i212 := by kernel_rfl
  i232 := by kernel_rfl
  i233 := by kernel_rfl
  m17 := by kernel_rfl
  m18 := by kernel_rfl
  m19 := by kernel_rfl }
open Go.RowKit Go.Sort Go.Lib in
/-- strconv.Itoa: "Itoa is equivalent to FormatInt(int64(i), 10).": i's DECIMAL NUMERAL ('Lib.itoa': a '-' where i is negative, then the digits), FOR EVERY int. The world behind the call: the world before it, new blocks behind the heap (the library's 'var a [24]byte'), draws. (LAID: no walk: one application.) -/
theorem Tryz.strconv_Itoa (n : Int) (h0 : -9223372036854775808 ≤ n) (h1 : n ≤ 9223372036854775807) (w : World) (htab : Lib.TabIs Tryz.prog w "internal/strconv.uint64pow10" .u64 Lib.pow10Tab) :
    Calls Tryz.prog 63 #[.int .i64 n] w fun e w' => e = .returned (.string ⟨(Lib.itoa n).toArray⟩) ∧ ∃ k os, w' = grow (w.drewN k) os := Any.strconv_Itoa Tryz.laysM171 n h0 h1 w htab
def Tryz.laysC174_ren : Go.Shelf.Ren := ⟨fun | 174 => 130 | 247 => 148 | 245 => 149 | 287 => 158 | 279 => 159 | 280 => 160 | 281 => 161 | 282 => 162 | 321 => 170 | 322 => 171 | 316 => 172 | 171 => 63 | 205 => 173 | 243 => 112 | 246 => 141 | 283 => 152 | 284 => 153 | 285 => 154 | 286 => 155 | 129 => 166 | 317 => 165 | 318 => 167 | 319 => 168 | 320 => 169 | 337 => 174 | 338 => 175 | n => n, fun | 9 => 9 | 3 => 3 | 2 => 2 | 75 => 109 | 85 => 165 | 4 => 4 | 167 => 183 | 5 => 5 | 53 => 177 | 175 => 184 | 46 => 186 | 168 => 187 | 37 => 105 | 0 => 0 | 210 => 201 | 21 => 21 | 127 => 154 | 145 => 206 | 143 => 204 | 171 => 176 | 173 => 180 | 212 => 193 | 51 => 194 | 20 => 20 | 213 => 195 | 232 => 207 | 233 => 208 | 80 => 115 | n => n, fun | 15 => 2 | 16 => 3 | 17 => 0 | 18 => 4 | 19 => 5 | n => n⟩
theorem Tryz.laysC174 : Go.Proofs.LaysC.n174 Tryz.prog Tryz.laysC174_ren := {
  mixed := by kernel_rfl
  f129 := Tryz.func166.trans (congrArg some (by kernel_rfl))
  f171 := Tryz.func63.trans (congrArg some (by kernel_rfl))
  f174 := Tryz.func130.trans (congrArg some (by kernel_rfl))
  f205 := Tryz.func173.trans (congrArg some (by kernel_rfl))
  f243 := Tryz.func112.trans (congrArg some (by kernel_rfl))
  f245 := Tryz.func149.trans (congrArg some (by kernel_rfl))
  f246 := Tryz.func141.trans (congrArg some (by kernel_rfl))
  f247 := Tryz.func148.trans (congrArg some (by kernel_rfl))
  f279 := Tryz.func159.trans (congrArg some (by kernel_rfl))
  f280 := Tryz.func160.trans (congrArg some (by kernel_rfl))
  f281 := Tryz.func161.trans (congrArg some (by kernel_rfl))
  f282 := Tryz.func162.trans (congrArg some (by kernel_rfl))
  f283 := Tryz.func152.trans (congrArg some (by kernel_rfl))
  f284 := Tryz.func153.trans (congrArg some (by kernel_rfl))
  f285 := Tryz.func154.trans (congrArg some (by kernel_rfl))
  f286 := Tryz.func155.trans (congrArg some (by kernel_rfl))
  f287 := Tryz.func158.trans (congrArg some (by kernel_rfl))
  f316 := Tryz.func172.trans (congrArg some (by kernel_rfl))
  f317 := Tryz.func165.trans (congrArg some (by kernel_rfl))
  f318 := Tryz.func167.trans (congrArg some (by kernel_rfl))
  f319 := Tryz.func168.trans (congrArg some (by kernel_rfl))
  f320 := Tryz.func169.trans (congrArg some (by kernel_rfl))
  f321 := Tryz.func170.trans (congrArg some (by kernel_rfl))
  f322 := Tryz.func171.trans (congrArg some (by kernel_rfl))
  f337 := Tryz.func174.trans (congrArg some (by kernel_rfl))
  f338 := Tryz.func175.trans (congrArg some (by kernel_rfl))
  t0 := Tryz.underlying0
  a0 := Tryz.isAgg0
  z0 := Tryz.sizeOf0
  v0 := Tryz.zeroValue0
  t2 := Tryz.underlying2
  a2 := Tryz.isAgg2
  z2 := Tryz.sizeOf2
  v2 := Tryz.zeroValue2
  t3 := Tryz.underlying3
  a3 := Tryz.isAgg3
  z3 := Tryz.sizeOf3
  v3 := Tryz.zeroValue3
  t4 := Tryz.underlying4
  a4 := Tryz.isAgg4
  z4 := Tryz.sizeOf4
  v4 := Tryz.zeroValue4
  t5 := Tryz.underlying5
  a5 := Tryz.isAgg5
  z5 := Tryz.sizeOf5
  v5 := Tryz.zeroValue5
  t9 := Tryz.underlying9
  a9 := Tryz.isAgg9
  z9 := Tryz.sizeOf9
  v9 := Tryz.zeroValue9
  t20 := Tryz.underlying20
  a20 := Tryz.isAgg20
  z20 := Tryz.sizeOf20
  v20 := Tryz.zeroValue20
  t21 := Tryz.underlying21
  a21 := Tryz.isAgg21
  z21 := Tryz.sizeOf21
  v21 := Tryz.zeroValue21
  t37 := Tryz.underlying105
  a37 := Tryz.isAgg105
  z37 := Tryz.sizeOf105
  v37 := Tryz.zeroValue105
  t46 := Tryz.underlying186
  a46 := Tryz.isAgg186
  z46 := Tryz.sizeOf186
  v46 := Tryz.zeroValue186
  t51 := Tryz.underlying194
  a51 := Tryz.isAgg194
  z51 := Tryz.sizeOf194
  v51 := Tryz.zeroValue194
  t53 := Tryz.underlying177
  a53 := Tryz.isAgg177
  z53 := Tryz.sizeOf177
  v53 := Tryz.zeroValue177
  t75 := Tryz.underlying109
  a75 := Tryz.isAgg109
  z75 := Tryz.sizeOf109
  v75 := Tryz.zeroValue109
  t85 := Tryz.underlying165
  a85 := Tryz.isAgg165
  z85 := Tryz.sizeOf165
  v85 := Tryz.zeroValue165
  t127 := Tryz.underlying154
  a127 := Tryz.isAgg154
  z127 := Tryz.sizeOf154
  v127 := Tryz.zeroValue154
  t143 := Tryz.underlying204
  a143 := Tryz.isAgg204
  z143 := Tryz.sizeOf204
  v143 := Tryz.zeroValue204
  t145 := Tryz.underlying206
  a145 := Tryz.isAgg206
  z145 := Tryz.sizeOf206
  v145 := Tryz.zeroValue206
  t167 := Tryz.underlying183
  a167 := Tryz.isAgg183
  z167 := Tryz.sizeOf183
  v167 := Tryz.zeroValue183
  t168 := Tryz.underlying187
  a168 := Tryz.isAgg187
  z168 := Tryz.sizeOf187
  v168 := Tryz.zeroValue187
  t171 := Tryz.underlying176
  a171 := Tryz.isAgg176
  z171 := Tryz.sizeOf176
  v171 := Tryz.zeroValue176
  t173 := Tryz.underlying180
  a173 := Tryz.isAgg180
  z173 := Tryz.sizeOf180
  v173 := Tryz.zeroValue180
  t175 := Tryz.underlying184
  a175 := Tryz.isAgg184
  z175 := Tryz.sizeOf184
  v175 := Tryz.zeroValue184
  t210 := Tryz.underlying201
  a210 := Tryz.isAgg201
  z210 := Tryz.sizeOf201
  v210 := Tryz.zeroValue201
  t212 := Tryz.underlying193
  a212 := Tryz.isAgg193
  z212 := Tryz.sizeOf193
  v212 := Tryz.zeroValue193
  t213 := Tryz.underlying195
  a213 := Tryz.isAgg195
  z213 := Tryz.sizeOf195
  t232 := Tryz.underlying207
  a232 := Tryz.isAgg207
  z232 := Tryz.sizeOf207
  v232 := Tryz.zeroValue207
  t233 := Tryz.underlying208
  a233 := Tryz.isAgg208
  z233 := Tryz.sizeOf208
  v233 := Tryz.zeroValue208
  g15 := by kernel_rfl
  g16 := by kernel_rfl
  g17 := by kernel_rfl
  g18 := by kernel_rfl
  g19 := by kernel_rfl
  t80 := Tryz.underlying115
  a80 := Tryz.isAgg115
  z80 := Tryz.sizeOf115
  v80 := Tryz.zeroValue115
  i0 := by kernel_rfl
  i2 := by kernel_rfl
  i3 := by kernel_rfl
  i4 := by kernel_rfl
  i5 := by kernel_rfl
  i9 := by kernel_rfl
  i20 := by kernel_rfl
  i21 := by kernel_rfl
  i37 := by kernel_rfl
  i46 := by kernel_rfl
  i51 := by kernel_rfl
  i53 := by kernel_rfl
  i75 := by kernel_rfl
  i80 := by kernel_rfl
  i85 := by kernel_rfl
  i127 := by kernel_rfl
  i143 := by kernel_rfl
  i145 := by kernel_rfl
  i167 := by kernel_rfl
  i168 := by kernel_rfl
  i171 := by kernel_rfl
  i173 := by kernel_rfl
  i175 := by kernel_rfl
  i210 := by kernel_rfl
  i212 := by kernel_rfl
  i232 := by kernel_rfl
  i233 := by kernel_rfl
  m15 := by kernel_rfl
  m16 := by kernel_rfl
  m17 := by kernel_rfl
  m18 := by kernel_rfl
  m19 := by kernel_rfl
  c0 := by kernel_rfl
  c2 := by kernel_rfl
  c3 := by kernel_rfl
  c4 := by kernel_rfl
  c5 := by kernel_rfl
  c9 := by kernel_rfl
  c20 := by kernel_rfl
  c21 := by kernel_rfl
  c37 := by kernel_rfl
  c46 := by kernel_rfl
  c51 := by kernel_rfl
  c53 := by kernel_rfl
  c75 := by kernel_rfl
  c80 := by kernel_rfl
  c85 := by kernel_rfl
  c127 := by kernel_rfl
  c143 := by kernel_rfl
  c145 := by kernel_rfl
  c167 := by kernel_rfl
  c168 := by kernel_rfl
  c171 := by kernel_rfl
  c173 := by kernel_rfl
  c175 := by kernel_rfl
  c210 := by kernel_rfl
  c212 := by kernel_rfl
  c213 := by kernel_rfl
  c232 := by kernel_rfl
  c233 := by kernel_rfl }
open Go.RowKit in
/-- strconv.ParseInt(s, 10, 64), AT EVERY STRING THAT SPELLS AN int64 ('Lib.parseIntB 64 s.data.toList = .ok v'): v, AND NO ERROR. (LAID: no walk: one application.) -/
theorem Tryz.strconv_ParseInt_10_at64_ok (s : ByteArray) (hmax : s.size ≤ 9223372036854775806) (v : Int) (h : Lib.parseIntB 64 s.data.toList = .ok v) (w : World) :
    Calls Tryz.prog 130 #[.string s, .int .i64 10, .int .i64 64] w fun e w' => e = .returned (.tuple #[.int .i64 v, .nilIface]) ∧ (w' = w ∨ ∃ t, w' = Lib.bytesWorld w 5 t) := Any.strconv_ParseInt_10_at64_ok Tryz.laysC174 s hmax v h w
open Go.RowKit in
/-- strconv.ParseInt(s, 10, 64), AT EVERY STRING THAT IS NO DECIMAL NUMERAL: 0, AND AN ERROR THAT IS NOT nil: a *NumError in a new block N: {Func: "ParseInt", Num: s's bytes, Err: what the variable ErrSyntax holds}. Of what was there nothing has turned. (LAID: no walk: one application.) -/
theorem Tryz.strconv_ParseInt_10_at64_syntax (s : ByteArray) (hlim : s.size ≤ 281474976710656) (h : Lib.parseIntB 64 s.data.toList = Lib.parseIntB 64 []) (ev : Value) (w : World) (hv : w.cell? ⟨2, 0, none⟩ = some ev) (hev : ev = .nilIface ∨ ∃ te pe, ev = .iface te pe) :
    Calls Tryz.prog 130 #[.string s, .int .i64 10, .int .i64 64] w fun e w' => ∃ N, e = .returned (.tuple #[.int .i64 (0), .iface 187 (.pointer (some ⟨N, 0, none⟩))]) ∧ w.heap.size ≤ N ∧ w'.heap[N]? = some (.cells #[.string ⟨#[80, 97, 114, 115, 101, 73, 110, 116]⟩, .string s, ev] 201 (0, 0)) ∧ Below w.heap.size w w' := Any.strconv_ParseInt_10_at64_syntax Tryz.laysC174 s hlim h ev w hv hev
open Go.RowKit in
/-- strconv.ParseInt(s, 10, 64), AT EVERY NUMERAL THAT NO int64 HOLDS: THE GREATEST OR THE LEAST int64, BY THE SIGN ('Lib.intSat 64'), AND AN ERROR THAT IS NOT nil: a *NumError in a new block N: {Func: "ParseInt", Num: s's bytes, Err: what the variable ErrRange holds}. Of what was there nothing has turned. (LAID: no walk: one application.) -/
theorem Tryz.strconv_ParseInt_10_at64_range (s : ByteArray) (hlim : s.size ≤ 281474976710656) (h : Lib.parseIntB 64 s.data.toList = .range) (ev : Value) (w : World) (hv : w.cell? ⟨3, 0, none⟩ = some ev) (hev : ev = .nilIface ∨ ∃ te pe, ev = .iface te pe) :
    Calls Tryz.prog 130 #[.string s, .int .i64 10, .int .i64 64] w fun e w' => ∃ N, e = .returned (.tuple #[.int .i64 (Lib.intSat 64 s.data.toList), .iface 187 (.pointer (some ⟨N, 0, none⟩))]) ∧ w.heap.size ≤ N ∧ w'.heap[N]? = some (.cells #[.string ⟨#[80, 97, 114, 115, 101, 73, 110, 116]⟩, .string s, ev] 201 (0, 0)) ∧ Below w.heap.size w w' := Any.strconv_ParseInt_10_at64_range Tryz.laysC174 s hlim h ev w hv hev
end Go.Proofs
namespace Go.Proofs.YtjecflbbcnocdaaGreatDoor
open Go.Lir
set_option maxHeartbeats 1000000
attribute [local irreducible] LC.wp Q3 QF QK retQ Q1E LO.wp Qq Calls
set_option linter.unusedSimpArgs false
set_option linter.unusedVariables false
variable {cx : Cx} {w : World} {L : List Res}
theorem Qmz {c : UInt8} (hS : St cx w L) : Rets Tryz.prog Qcc [.int .u8 c.toNat] w fun u w' => u = .bool (Q3e c) ∧ St cx w' L := by
  all_goals refine Qds ?_
  all_goals (unfold token_letter_lc; refine Q0 ?_; refine Q1 ?_; refine zm ?_; refine zn ?_; refine Q0 ?_; refine Q1 ?_; refine zm ?_)
  all_goals (first | (refine Qb5 ?_) | (refine Qb6 ?_) | (refine Q3d rfl rfl (fun hc => ?_) (fun hc => ?_)))
  all_goals (refine zm ?_; (first | refine s_gn rfl rfl ?_ | (refine s_gy rfl ?_; refine zm ?_)))
  all_goals (first | refine s_gn rfl rfl ?_ | (refine s_gy rfl ?_; (first | (refine zleqt ?_) | (refine zleqf ?_) | (refine Qlb rfl rfl (fun hc => ?_) (fun hc => ?_)))))
  all_goals ((first | (refine zpt ?_) | (refine zpf ?_)); refine zm ?_; refine zn ?_; refine zr ?_; refine zf ?_; exact ⟨_, rfl, (by unfold Q3e; first | rw [decide_eq_true (by omega)] | rw [decide_eq_false (by omega)]), hS.sp⟩)
theorem Qlz {c : UInt8} (hS : St cx w L) : Rets Tryz.prog Qdu [.int .u8 c.toNat] w fun u w' => u = .bool (Q17 c) ∧ St cx w' L := by
  all_goals refine Qfv ?_
  all_goals (unfold token_digit_lc; refine Q0 ?_; refine Q1 ?_; refine zm ?_; refine zn ?_; refine Q0 ?_; refine Q1 ?_; refine zm ?_)
  all_goals (first | (refine Qb5 ?_) | (refine Qb6 ?_) | (refine Q3d rfl rfl (fun hc => ?_) (fun hc => ?_)))
  all_goals (refine zm ?_; (first | refine s_gn rfl rfl ?_ | (refine s_gy rfl ?_; refine zm ?_)))
  all_goals (first | refine s_gn rfl rfl ?_ | (refine s_gy rfl ?_; (first | (refine zleqt ?_) | (refine zleqf ?_) | (refine Qlb rfl rfl (fun hc => ?_) (fun hc => ?_)))))
  all_goals ((first | (refine zpt ?_) | (refine zpf ?_)); refine zm ?_; refine zn ?_; refine zr ?_; refine zf ?_; exact ⟨_, rfl, (by unfold Q17; first | rw [decide_eq_true (by omega)] | rw [decide_eq_false (by omega)]), hS.sp⟩)
end Go.Proofs.YtjecflbbcnocdaaGreatDoor
namespace Go.Proofs.YtjecflbbcnocdaaGreatDoor
open Go.Lir
/-- The table of powers of ten lies in what is only read. -/
abbrev PowT (c : Cx) : Prop := TabK Tryz.prog c "internal/strconv.uint64pow10" .u64 Lib.pow10Tab
end Go.Proofs.YtjecflbbcnocdaaGreatDoor
namespace Go.Proofs.YtjecflbbcnocdaaGreatDoor
open Go.Lir
set_option maxHeartbeats 1000000
attribute [local irreducible] LC.wp Q3 QF QK retQ Q1E LO.wp Qq Calls
set_option linter.unusedSimpArgs false
set_option linter.unusedVariables false
theorem pi_nil (n : Int) : Lib.parseIntB 64 [] ≠ .ok n := fun h => by cases h
theorem pi_cases (t : List UInt8) : (∃ n, Lib.parseIntB 64 t = .ok n) ∨ Lib.parseIntB 64 t = .range ∨ Lib.parseIntB 64 t = Lib.parseIntB 64 [] := by
  cases h : Lib.parseIntB 64 t with
  | ok n => exact .inl ⟨n, rfl⟩
  | range => exact .inr (.inl rfl)
  | _ => exact .inr (.inr rfl)
attribute [local irreducible] Lib.itoa Lib.parseIntB
variable {cx : Cx} {w : World} {L : List Res}
/-- An error of the library's lies in what is only read. -/
def ErrV (c : Cx) (g : Nat) : Prop := c.K g ∧ ∀ w : World, w.heap[g]? = c.H0[g]? → ∃ ev, w.cell? ⟨g, 0, none⟩ = some ev ∧ (ev = .nilIface ∨ ∃ te pe, ev = .iface te pe)
theorem ErrV.up {c c' : Cx} {g : Nat} (h : ErrV c g) (hle : c.Le c') : ErrV c' g := ⟨(hle.K g h.1).1, fun w hw => h.2 w (hw.trans (hle.K g h.1).2)⟩
theorem ErrV.now {c : Cx} {g : Nat} (h : ErrV c g) (hS : St c w L) : ∃ ev, w.cell? ⟨g, 0, none⟩ = some ev ∧ (ev = .nilIface ∨ ∃ te pe, ev = .iface te pe) := h.2 w (hS.1.same g h.1)
/-- What the numbers' texts need. -/
structure NumK (c : Cx) : Prop where
  pow : PowT c
  syn : ErrV c 2
  rng : ErrV c 3
theorem NumK.up {c c' : Cx} (h : NumK c) (hle : c.Le c') : NumK c' := ⟨h.pow.up hle, h.syn.up hle, h.rng.up hle⟩
theorem bytes_fr (w : World) (T : TypeId) (t : ByteArray) : Fr NF w (Lib.bytesWorld w T t) :=
  ⟨rfl, rfl, rfl, by rw [Lib.bytesWorld_size]; omega, fun b hb _ => Lib.bytesWorld_at_old w T t b hb⟩
theorem ifmt_c {n : Int} (h0 : -9223372036854775808 ≤ n) (h1 : n ≤ 9223372036854775807) (hT : PowT cx) (hS : St cx w L) :
    Rets Tryz.prog 141 [.int .i64 n, .int .i64 10] w fun u w' => u = .string ⟨(Lib.itoa n).toArray⟩ ∧ St cx w' L := by
  refine Calls.mono (Tryz.internal_strconv_FormatInt_10 n h0 h1 w (hT.now hS)) ?_
  rintro e w' ⟨rfl, k, os, rfl⟩
  exact ⟨_, rfl, rfl, hS.fr0 (grow_fr w k os)⟩
/-- A number's text, read: the number, or an error. -/
theorem parse_c {t : List UInt8} (ht : t.length ≤ 100000) (hT : NumK cx) (hS : St cx w L) :
    Rets Tryz.prog 130 [.string ⟨t.toArray⟩, .int .i64 10, .int .i64 64] w fun u w' => (∃ n, Lib.parseIntB 64 t = .ok n ∧ u = .tuple #[.int .i64 n, .nilIface] ∧ St cx w' L) ∨ ((∀ n, Lib.parseIntB 64 t ≠ .ok n) ∧ ∃ n T p, u = .tuple #[.int .i64 n, .iface T p] ∧ oneC p = true ∧ St cx w' L) := by
  have hsz : (⟨t.toArray⟩ : ByteArray).size = t.length := Qb8 t
  rcases pi_cases t with ⟨n, h⟩ | h | h
  · refine Calls.mono (Tryz.strconv_ParseInt_10_at64_ok ⟨t.toArray⟩ (by omega) n h w) ?_
    rintro e w' ⟨rfl, h2⟩
    refine ⟨_, rfl, .inl ⟨n, h, rfl, ?_⟩⟩
    rcases h2 with rfl | ⟨s, rfl⟩
    · exact hS
    · exact hS.fr0 (bytes_fr w _ s)
  · obtain ⟨ev, h1, h2⟩ := hT.rng.now hS
    refine Calls.mono (Tryz.strconv_ParseInt_10_at64_range ⟨t.toArray⟩ (by omega) h ev w h1 h2) ?_
    rintro e w' ⟨N, rfl, _, _, hb⟩
    exact ⟨_, rfl, .inr ⟨fun n hn => (by rw [h] at hn; cases hn), _, _, _, rfl, rfl, hS.fr0 (QmH hb)⟩⟩
  · obtain ⟨ev, h1, h2⟩ := hT.syn.now hS
    refine Calls.mono (Tryz.strconv_ParseInt_10_at64_syntax ⟨t.toArray⟩ (by omega) h ev w h1 h2) ?_
    rintro e w' ⟨N, rfl, _, _, hb⟩
    exact ⟨_, rfl, .inr ⟨fun n hn => pi_nil n (h.symm.trans hn), _, _, _, rfl, rfl, hS.fr0 (QmH hb)⟩⟩
theorem fmtp_c {n : Int} (h0 : -9223372036854775808 ≤ n) (h1 : n ≤ 9223372036854775807) (hT : PowT cx) (hS : St cx w L) :
    Rets Tryz.prog 109 [.int .i64 n, .int .i64 10] w fun u w' => u = .string ⟨(Lib.itoa n).toArray⟩ ∧ St cx w' L := by
  all_goals refine Q7w ?_
  all_goals (unfold strconv_FormatInt_lc; refine Q0 ?_; refine Q1 ?_; refine zm ?_; refine zn ?_; refine Q0 ?_; refine Q1 ?_; refine zm ?_; refine zm ?_; refine zR2 (c := ifmt_c h0 h1 hT hS) (h := ?_); rintro v1 w1 ⟨rfl, hS⟩; refine zm ?_; refine zn ?_; refine zr ?_; refine zf ?_; exact ⟨_, rfl, rfl, hS.sp⟩)
theorem fmt_c {n : Int} (h0 : -9223372036854775808 ≤ n) (h1 : n ≤ 9223372036854775807) (hT : NumK cx) (hS : St cx w L) :
    Rets Tryz.prog 109 [.int .i64 n, .int .i64 10] w fun u w' => u = .string ⟨(Lib.itoa n).toArray⟩ ∧ St cx w' L := fmtp_c h0 h1 hT.pow hS
theorem iby_c {s : List UInt8} {c : UInt8} (hS : St cx w L) : Rets Tryz.prog 121 [.string ⟨s.toArray⟩, .int .u8 c.toNat] w fun u w' => u = .int .i64 (Lib.indexByte s c) ∧ St cx w' L := by
  refine Calls.mono (Tryz.strings_IndexByte ⟨s.toArray⟩ c.toNat w) ?_
  rintro e w' ⟨rfl, rfl⟩
  refine ⟨_, rfl, ?_, hS⟩
  rw [Int.toNat_natCast]
  simp
theorem ihp_c {s p : List UInt8} (hl : s.length ≤ 100000) (hS : St cx w L) : Rets Tryz.prog 142 [.string ⟨s.toArray⟩, .string ⟨p.toArray⟩] w fun u w' => u = .bool (decide (s.take p.length = p)) ∧ St cx w' L := by
  all_goals refine Q30 ?_
  all_goals (unfold internal_stringslite_HasPrefix_lc; refine Q0 ?_; refine Q1 ?_; refine zm ?_; refine zn ?_; refine Q0 ?_; refine Q1 ?_; refine zm ?_; refine Q20 rfl ?_; refine zm ?_; refine Q20 rfl ?_)
  all_goals (first | (refine Qb5 ?_) | (refine Qb6 ?_) | (refine Q3d rfl rfl (fun hc => ?_) (fun hc => ?_)))
  all_goals (refine zm ?_; (first | refine s_gn rfl rfl ?_ | (refine s_gy rfl ?_; refine zm ?_)); (first | refine s_gn rfl rfl ?_ | (refine s_gy rfl ?_; refine zm ?_)); (first | refine s_gn rfl rfl ?_ | (refine s_gy rfl ?_; refine Q20 rfl ?_)); (first | refine s_gn rfl rfl ?_ | (refine s_gy rfl ?_; refine Qi2 rfl (h' := p.length) ⟨_, rfl⟩ rfl (by omega) (by omega) ?_; rw [List.drop_zero])); (first | refine s_gn rfl rfl ?_ | (refine s_gy rfl ?_; refine zm ?_)); (first | refine s_gn rfl rfl ?_ | (refine s_gy rfl ?_; refine Qmj rfl rfl ?_)); (first | (refine zpt ?_) | (refine zpf ?_)); refine zm ?_; refine zn ?_; refine zr ?_; refine zf ?_; (first | exact ⟨_, rfl, rfl, hS.sp⟩ | exact ⟨_, rfl, (by rw [decide_eq_false]; intro h; have h9 := congrArg List.length h; rw [List.length_take] at h9; omega), hS.sp⟩))
theorem hp_c {s p : List UInt8} (hl : s.length ≤ 100000) (hS : St cx w L) : Rets Tryz.prog 120 [.string ⟨s.toArray⟩, .string ⟨p.toArray⟩] w fun u w' => u = .bool (decide (s.take p.length = p)) ∧ St cx w' L := by
  all_goals refine Q7t ?_
  all_goals (unfold strings_HasPrefix_lc; refine Q0 ?_; refine Q1 ?_; refine zm ?_; refine zn ?_; refine Q0 ?_; refine Q1 ?_; refine zm ?_; refine zm ?_; refine zR2 (c := ihp_c hl hS) (h := ?_); rintro v1 w1 ⟨rfl, hS⟩; refine zm ?_; refine zn ?_; refine zr ?_; refine zf ?_; exact ⟨_, rfl, rfl, hS.sp⟩)
end Go.Proofs.YtjecflbbcnocdaaGreatDoor
namespace Go.Proofs.YtjecflbbcnocdaaGreatDoor
open Go.Lir
set_option maxHeartbeats 1000000
attribute [local irreducible] LC.wp Q3 QF QK retQ Q1E LO.wp Qq Calls
set_option linter.unusedSimpArgs false
set_option linter.unusedVariables false
attribute [local irreducible] skip
variable {cx : Cx} {w : World} {L : List Res}
@[reducible] def scn (sb : Nat) (src : List UInt8) (i : Nat) : Res := blk sb 124 [.string ⟨src.toArray⟩, .int .i64 (i : Int)]
theorem QoX {src : List UInt8} {sb at0 : Nat} (hl : src.length ≤ 100000) (ha : at0 ≤ src.length) (hS : St cx w (scn sb src at0 :: L)) : Rets Tryz.prog QA [.pointer (some ⟨sb, 0, none⟩)] w fun u w' => ∃ at1, u = .tuple #[] ∧ at0 ≤ at1 ∧ at1 ≤ src.length ∧ src.drop at1 = skip false (src.drop at0) ∧ St cx w' (scn sb src at1 :: L) := by
  all_goals refine Q5F ?_
  all_goals (unfold token_scanner_blank_lc; refine Q0 ?_; refine Q1 ?_; refine zm ?_; refine zn ?_; refine Qh ?_)
  refine zo [0] (fun A ρ' w' => ∃ (rem : Bool) (i : Nat) (qc : Value), Has ρ' A ∧ Has ρ' [(2, .bool rem), (3, qc)] ∧ (at0 ≤ i) ∧ (i ≤ src.length) ∧ (skip false (src.drop at0) = skip rem (src.drop i)) ∧ St cx w' (scn sb src i :: L)) (fun _ w' => (src.length - QoU w' sb 1).toNat) ?_ ?_
  · exact ⟨false, at0, _, zh, zh, (by omega), (by omega), rfl, hS.sp⟩
  rintro ρ w1 ⟨rem, i, qc, hA, hρ, hi0, hi, hd, hS⟩; obtain ⟨ρ, rfl⟩ := env2 hA hρ; have hm0 := Q7q (j := 1) hS (i := 0) rfl rfl
  unfold Q36
  all_goals (refine Q0 ?_; refine Q0 ?_; refine zD [(0, none), (1, none), (2, none), (3, none), (4, none), (5, none), (6, none), (7, none), (8, none), (9, some none)] ?_; have hS := hS.drew; refine zm ?_; refine Qn rfl ?_; refine Q2 rfl ?_; refine zl hS ?_; refine zm ?_; refine Qn rfl ?_; refine Q2 rfl ?_; refine zl hS ?_; refine Q20 rfl ?_)
  all_goals (first | (refine Q26 ?_) | (refine Q27 ?_) | (refine QR rfl rfl (fun hc => ?_) (fun hc => ?_)))
  all_goals (refine zn ?_)
  all_goals
    first
    | (refine Q5 rfl ?_ -- QA c0
       all_goals (refine zex ?_)
       all_goals (refine Q5c ?_; exact ⟨_, rfl, i, rfl, hi0, hi, (by rw [hd, List.drop_of_length_le (by omega), Qmf]), hS.sp⟩))
    | (refine Q4 rfl ?_ -- QA c0
       all_goals (refine zsk ?_)
       refine zM [0] (fun A ρ' w' => ∃ (rem2 : Bool), Has ρ' A ∧ Has ρ' [(2, .bool rem2)] ∧ (skip false (src.drop at0) = skip rem2 (src.drop (i + 1))) ∧ St cx w' (scn sb src i :: L)) ?_ ?_
       · skip
         all_goals (refine Qh ?_; refine Q0 ?_; obtain ⟨c, hc9⟩ : ∃ x, src[i]? = some x := ⟨_, List.getElem?_eq_getElem (by omega)⟩; rw [Q6 hc9] at hd; refine zD [(0, none), (1, none), (2, none), (3, none), (4, none), (5, none), (6, none), (7, none), (8, none), (9, some none)] ?_; have hS := hS.drew; refine zm ?_; refine Qn rfl ?_; refine Q2 rfl ?_; refine zl hS ?_; refine zm ?_; refine Qn rfl ?_; refine Q2 rfl ?_; refine zl hS ?_; refine Qi3 rfl rfl hc9 ?_; refine zm ?_; refine zn ?_; refine Qh ?_; refine Q0 ?_; refine Q1 ?_; refine zm ?_)
         all_goals (first | (refine Qw ?_) | (refine Qy ?_) | (refine Qj rfl rfl (fun hc => ?_) (fun hc => ?_)))
         all_goals (refine zm ?_; refine zn ?_)
         all_goals
           first
           | (refine Q4 rfl ?_ -- QA c1
              all_goals (refine Q1 ?_; refine zm ?_)
              all_goals refine zn ?_)
           | (refine Q5 rfl ?_ -- QA c1
              all_goals (refine Q0 ?_)
              all_goals (cases rem)
              all_goals (refine Q1 ?_; refine zm ?_; refine zm ?_; (first | refine s_gn rfl rfl ?_ | (refine s_gy rfl ?_; refine zm ?_)))
              all_goals (first | refine s_gn rfl rfl ?_ | (refine s_gy rfl ?_; (first | (refine Qw ?_) | (refine Qy ?_) | (refine Qj rfl rfl (fun hc => ?_) (fun hc => ?_)))))
              all_goals ((first | (refine zpt ?_) | (refine zpf ?_)); refine zm ?_; (first | refine s_gn rfl rfl ?_ | (refine s_gy rfl ?_; refine zm ?_)))
              all_goals (first | refine s_gn rfl rfl ?_ | (refine s_gy rfl ?_; (first | (refine Qw ?_) | (refine Qy ?_) | (refine Qj rfl rfl (fun hc => ?_) (fun hc => ?_)))))
              all_goals ((first | (refine zpt ?_) | (refine zpf ?_)); refine zm ?_; (first | refine s_gn rfl rfl ?_ | (refine s_gy rfl ?_; refine zm ?_)))
              all_goals (first | refine s_gn rfl rfl ?_ | (refine s_gy rfl ?_; (first | (refine Qw ?_) | (refine Qy ?_) | (refine Qj rfl rfl (fun hc => ?_) (fun hc => ?_)))))
              all_goals ((first | (refine zpt ?_) | (refine zpf ?_)); refine zm ?_; refine zn ?_)
              all_goals
                first
                | (refine Q4 rfl ?_ -- QA c2
                   all_goals refine zsk ?_)
                | (refine Q5 rfl ?_ -- QA c2
                   all_goals (refine Q0 ?_; refine Q1 ?_; refine zm ?_)
                   all_goals (first | (refine Qw ?_) | (refine Qy ?_) | (refine Qj rfl rfl (fun hc => ?_) (fun hc => ?_)))
                   all_goals (refine zm ?_; refine zn ?_)
                   all_goals
                     first
                     | (refine Q4 rfl ?_ -- QA c3
                        all_goals (refine Q1 ?_; refine zm ?_)
                        all_goals refine zn ?_)
                     | (refine Q5 rfl ?_ -- QA c3
                        all_goals (refine zr ?_; refine q_ret0 ?_)
                        all_goals (exact ⟨_, rfl, i, rfl, hi0, hi, (by rw [hd, Qny (by omega) (by omega) (by omega) (by omega) (by omega), ← Q6 hc9]), hS.sp⟩))))
         all_goals ((first | (exact ⟨false, zh, zh, hd.trans (Qnz (by omega)), hS.sp⟩) | (exact ⟨true, zh, zh, hd.trans (skip_rem (by omega)), hS.sp⟩) | (exact ⟨false, zh, zh, hd.trans (skip_bl (by omega)), hS.sp⟩) | (exact ⟨true, zh, zh, hd.trans (QnA (by omega)), hS.sp⟩)))
       rintro ρ w1 ⟨rem2, hA, hρ, hd2, hS⟩; obtain ⟨ρ, rfl⟩ := env2 hA hρ
       all_goals (refine Q1 ?_; refine zm ?_; refine Qn rfl ?_; refine Q2 rfl ?_; refine zl hS ?_; refine zad ?_; refine Qn rfl ?_; refine Q2 rfl ?_; refine zst hS ?_; intro w1 hS; have hS := hS.ns; refine zn ?_)
       all_goals (exact ⟨⟨rem2, i + 1, _, zh, zh, (by omega), (by omega), hd2, hS.sp⟩, by rw [hm0, Q7q (j := 1) hS (i := 0) rfl rfl]; omega⟩))
theorem Qnn {src : List UInt8} {sb at0 g : Nat} {p : UInt8 → Bool} (hg : Q38 Tryz.prog g = true) (hp : ∀ (c : UInt8) {cx : Cx} {w : World} {L : List Res}, St cx w L → Rets Tryz.prog g [.int .u8 c.toNat] w fun u w' => u = .bool (p c) ∧ St cx w' L) (hl : src.length ≤ 100000) (ha : at0 ≤ src.length) (hS : St cx w (scn sb src at0 :: L)) :
    Rets Tryz.prog Q1S [.pointer (some ⟨sb, 0, none⟩), .func (.func g) #[] #[]] w fun u w' => u = .string ⟨((src.drop at0).takeWhile p).toArray⟩ ∧ St cx w' (scn sb src (at0 + ((src.drop at0).takeWhile p).length) :: L) := by
  all_goals refine Q5l ?_
  all_goals (unfold token_scanner_while_lc; refine Q0 ?_; refine Q1 ?_; refine zm ?_; refine zn ?_; refine Q0 ?_; refine Q1 ?_; refine zm ?_; refine Qn rfl ?_; refine Q2 rfl ?_; refine zl hS ?_; refine zm ?_; refine zn ?_; refine Q0 ?_; refine Qh ?_)
  refine zo [0, 1, 5] (fun A ρ' w' => ∃ (k : Nat), Has ρ' A ∧ Has ρ' [] ∧ (at0 + k ≤ src.length) ∧ (∀ x ∈ (src.drop at0).take k, p x = true) ∧ St cx w' (scn sb src (at0 + k) :: L)) (fun _ w' => (src.length - QoU w' sb 1).toNat) ?_ ?_
  · exact ⟨0, zh, zh, (by omega), (fun x hx => by simp at hx), hS.sp⟩
  rintro ρ w1 ⟨k, hA, hρ, hk, hall, hS⟩; obtain ⟨ρ, rfl⟩ := env2 hA hρ; have hm0 := Q7q (j := 1) hS (i := 0) rfl rfl
  unfold Q35
  all_goals (refine Q0 ?_; refine Q0 ?_; refine zD [(0, none), (1, none), (2, none), (3, none), (4, none), (5, none), (6, none), (7, none), (8, none), (9, none), (10, none), (11, none), (12, none), (13, none), (14, none), (15, none), (16, none), (17, none), (18, none), (19, none), (20, none), (21, some none), (22, some none)] ?_; have hS := hS.drew; refine zm ?_; refine Qn rfl ?_; refine Q2 rfl ?_; refine zl hS ?_; refine zm ?_; refine Qn rfl ?_; refine Q2 rfl ?_; refine zl hS ?_; refine Q20 rfl ?_)
  all_goals (first | (refine Q26 ?_) | (refine Q27 ?_) | (refine QR rfl rfl (fun hc => ?_) (fun hc => ?_)))
  all_goals (refine zm ?_; (first | refine s_gn rfl rfl ?_ | (refine s_gy rfl ?_; refine zm ?_)); (first | refine s_gn rfl rfl ?_ | (refine s_gy rfl ?_; refine zm ?_)); (first | refine s_gn rfl rfl ?_ | (refine s_gy rfl ?_; refine Qn rfl ?_)); (first | refine s_gn rfl rfl ?_ | (refine s_gy rfl ?_; refine Q2 rfl ?_)); (first | refine s_gn rfl rfl ?_ | (refine s_gy rfl ?_; refine zl hS ?_)); (first | refine s_gn rfl rfl ?_ | (refine s_gy rfl ?_; refine zm ?_)); (first | refine s_gn rfl rfl ?_ | (refine s_gy rfl ?_; refine Qn rfl ?_)); (first | refine s_gn rfl rfl ?_ | (refine s_gy rfl ?_; refine Q2 rfl ?_)); (first | refine s_gn rfl rfl ?_ | (refine s_gy rfl ?_; refine zl hS ?_)); (first | refine s_gn rfl rfl ?_ | (refine s_gy rfl ?_; obtain ⟨c, hc9⟩ : ∃ x, src[at0 + k]? = some x := ⟨_, List.getElem?_eq_getElem (by omega)⟩; refine Qi3 rfl rfl hc9 ?_)))
  all_goals (first | refine s_gn rfl rfl ?_ | (refine s_gy rfl ?_; refine QnQ rfl hg rfl (hp c hS) ?_; rintro v1 w1 ⟨rfl, hS⟩; cases hq : p c))
  all_goals ((first | (refine zpt ?_) | (refine zpf ?_)); refine zn ?_)
  all_goals
    first
    | (refine Q4 rfl ?_ -- Q1S c0
       all_goals (refine zsk ?_; refine Qh ?_; refine Q1 ?_; refine zm ?_; refine Qn rfl ?_; refine Q2 rfl ?_; refine zl hS ?_; refine zad ?_; refine Qn rfl ?_; refine Q2 rfl ?_; refine zst hS ?_; intro w1 hS; have hS := hS.ns; refine zn ?_)
       all_goals (exact ⟨⟨k + 1, zh, zh, (by omega), QmN hall hc9 hq, hS.sp⟩, by rw [hm0, Q7q (j := 1) hS (i := 0) rfl rfl]; omega⟩))
    | (refine Q5 rfl ?_ -- Q1S c0
       all_goals (refine zex ?_)
       all_goals (have hw := Qnm hall hk (by intro x hx; first | (rw [List.getElem?_eq_none (by omega)] at hx; cases hx) | (obtain rfl : c = x := Option.some.inj (hc9.symm.trans hx); exact hq)))
       all_goals (refine Q0 ?_; refine zD [(0, none), (1, none), (2, none), (3, none), (4, none), (5, none), (6, none), (7, none), (8, none), (9, none), (10, some none)] ?_; have hS := hS.drew; refine zm ?_; refine Qn rfl ?_; refine Q2 rfl ?_; refine zl hS ?_; refine zm ?_; refine zm ?_; refine Qn rfl ?_; refine Q2 rfl ?_; refine zl hS ?_; refine Qi2 rfl (l' := at0) (h' := at0 + k) ⟨_, rfl⟩ ⟨_, rfl⟩ (by omega) (by omega) ?_; rw [hw.1]; refine zm ?_; refine zn ?_; refine zr ?_; refine zf ?_)
       all_goals (exact ⟨_, rfl, rfl, (by rw [← hw.2]; exact hS.sp)⟩))
end Go.Proofs.YtjecflbbcnocdaaGreatDoor
