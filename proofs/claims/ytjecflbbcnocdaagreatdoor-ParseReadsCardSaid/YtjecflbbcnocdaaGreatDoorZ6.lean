/- Lemmas of the proof, part 6: what the functions of the program do (contracts), and what follows. -/
import Derived.Test.YtjecflbbcnocdaaGreatDoorZ5
import Derived.Test.YtjecflbbcnocdaaGreatDoorZ4
import Derived.Test.YtjecflbbcnocdaaGreatDoorZ3
import Derived.Test.YtjecflbbcnocdaaGreatDoorZ2
import Derived.Test.YtjecflbbcnocdaaGreatDoorZ1
namespace Go.Lir
set_option linter.unusedVariables false
/-! ### numbers' texts -/
theorem QtZ (M : Nat) : ∀ (l r : List UInt8) (acc a : Nat), Lib.parseUintM M acc l = .ok a → Lib.parseUintM M acc (l ++ r) = Lib.parseUintM M a r
  | [], r, acc, a, h => by rw [Lib.parseUintM] at h; cases h; rfl
  | c :: l, r, acc, a, h => by
    rw [Lib.parseUintM] at h
    split at h
    · rename_i hd
      split at h
      · cases h
      · rename_i h1
        split at h
        · cases h
        · rename_i h2
          rw [List.cons_append, Lib.parseUintM, if_pos hd, if_neg h1, if_neg h2]
          exact QtZ M l r _ a h
    · cases h
theorem QuJ {d : Nat} (h : d < 10) : (UInt8.ofNat (48 + d)).toNat = 48 + d := by
  rw [UInt8.toNat_ofNat']; exact Nat.mod_eq_of_lt (by omega)
theorem QtY {d acc : Nat} (h : d < 10) (ha : acc * 10 + d ≤ 9223372036854775808) : Lib.parseUintM (2 ^ 64 - 1) acc [UInt8.ofNat (48 + d)] = .ok (acc * 10 + d) := by
  rw [Lib.parseUintM, QuJ h, if_pos (by omega), if_neg (by omega), if_neg (by omega), Lib.parseUintM, show 48 + d - 48 = d by omega]
theorem Ql3 (u : Nat) : u ≤ 9223372036854775808 → Lib.parseUintM (2 ^ 64 - 1) 0 (Lib.decDigits u) = .ok u := by
  induction u using Nat.strongRecOn with
  | ind u ih =>
    intro hu
    rw [Lib.decDigits]
    split
    · rename_i h
      have := QtY (acc := 0) h (by omega)
      rw [this]; congr 1; omega
    · rename_i h
      rw [QtZ _ _ _ _ _ (ih (u / 10) (by omega) (by omega)), QtY (by omega) (by omega)]
      congr 1; omega
theorem QcT (u : Nat) : ∀ c ∈ Lib.decDigits u, QU c = true := by
  induction u using Nat.strongRecOn with
  | ind u ih =>
    intro c hc
    have hd : ∀ d, d < 10 → QU (UInt8.ofNat (48 + d)) = true := fun d h => by unfold QU; rw [QuJ h]; exact decide_eq_true (by omega)
    rw [Lib.decDigits] at hc
    split at hc
    · rename_i h; simp only [List.mem_singleton] at hc; subst hc; exact hd u h
    · rename_i h
      rcases List.mem_append.1 hc with hc | hc
      · exact ih _ (by omega) c hc
      · simp only [List.mem_singleton] at hc; subst hc; exact hd _ (by omega)
theorem Q5R (u : Nat) : ∃ c r, Lib.decDigits u = c :: r ∧ QU c = true := by
  cases h : Lib.decDigits u with
  | nil =>
    exfalso
    rw [Lib.decDigits] at h
    split at h
    · cases h
    · simp at h
  | cons c r => exact ⟨c, r, rfl, QcT u c (by rw [h]; exact List.mem_cons_self ..)⟩
theorem num_itoa {n : Int} (h0 : -9223372036854775808 ≤ n) (h1 : n ≤ 9223372036854775807) : QcL (Lib.itoa n) = some n := by
  have hok : Lib.parseIntB 64 (Lib.itoa n) = .ok n := by
    by_cases hn : n < 0
    · obtain ⟨c, r, hc, _⟩ := Q5R n.natAbs
      have e : Lib.itoa n = 45 :: Lib.decDigits n.natAbs := by unfold Lib.itoa; rw [if_pos hn]
      have e2 : Lib.parseUintB 64 (Lib.decDigits n.natAbs) = .ok n.natAbs := by
        unfold Lib.parseUintB; rw [if_neg (by rw [hc]; simp), Ql3 _ (by omega)]
      rw [e]
      simp only [Lib.parseIntB]
      rw [if_pos (by decide), e2]
      dsimp only
      rw [if_neg (fun h => h.1 (by decide)), if_neg (fun h => by have := h.2; omega), if_pos (by decide)]
      congr 1; omega
    · obtain ⟨c, r, hc, hd⟩ := Q5R n.toNat
      have e : Lib.itoa n = Lib.decDigits n.toNat := by unfold Lib.itoa; rw [if_neg hn]
      have e2 : Lib.parseUintB 64 (Lib.decDigits n.toNat) = .ok n.toNat := by
        unfold Lib.parseUintB; rw [if_neg (by rw [hc]; simp), Ql3 _ (by omega)]
      have hd2 : 48 ≤ c.toNat ∧ c.toNat ≤ 57 := of_decide_eq_true hd
      rw [e]
      rw [hc] at e2 ⊢
      simp only [Lib.parseIntB]
      rw [if_neg (by omega), e2]
      dsimp only
      rw [if_neg (by omega), if_neg (by omega), if_neg (by omega)]
      congr 1; omega
  unfold QcL
  rw [hok]
  simp
/-! ### tokens of a text -/
abbrev Tk := List UInt8 × Option Int
abbrev Tok.tk (t : Tok) : Tk := (t.text, t.num)
def QsI (s : List UInt8) (ts : List Tk) : Prop := ∀ (n k : Nat) (acc : List Tok), s.length < k → ∃ res, Q3h n k (skip false s) acc = .ok (acc ++ res) ∧ res.map Tok.tk = ts
/-- No letter and no digit stands here. -/
def Sep (s : List UInt8) : Prop := ∀ c r, s = c :: r → Q2D c = false ∧ QU c = false
theorem scans_sp {c : UInt8} {s : List UInt8} {ts : List Tk} (hc : c = 10 ∨ c = 32 ∨ c = 9 ∨ c = 13) (h : QsI s ts) : QsI (c :: s) ts := fun n k acc hk => by
  rw [skip, if_pos hc]; exact h n k acc (by simp at hk; omega)
theorem QaX {t s : List UInt8} {m : Option Int} {ts : List Tk} (ht : tok1 (t ++ s) = .ok (t, m)) (h : QsI s ts) : QsI (t ++ s) ((t, m) :: ts) := fun n k acc hk => by
  have hl := Qgf ht
  have hs := Qtt ht s
  rw [hs]
  match t, hl, k, hk with
  | c :: t, _, k + 1, hk =>
    obtain ⟨res, h1, h2⟩ := h n k (acc ++ [⟨n - (c :: t ++ s).length, c :: t, m⟩]) (by simp at hk; omega)
    refine ⟨⟨n - (c :: t ++ s).length, c :: t, m⟩ :: res, ?_, by rw [List.map_cons, h2]⟩
    rw [List.cons_append] at ht h1 ⊢
    rw [Q3h, ht]
    dsimp only
    rw [← List.cons_append, List.drop_left, List.cons_append, h1, List.append_assoc]; rfl
theorem Q9H {p : UInt8 → Bool} : ∀ {l : List UInt8}, (∀ x ∈ l, p x = true) → l.takeWhile p = l
  | [], _ => rfl
  | c :: l, h => by rw [List.takeWhile_cons, if_pos (h c (List.mem_cons_self ..)), Q9H fun x hx => h x (List.mem_cons_of_mem _ hx)]
theorem Q5z {p : UInt8 → Bool} {l s : List UInt8} (hl : ∀ x ∈ l, p x = true) (hs : ∀ c r, s = c :: r → p c = false) : (l ++ s).takeWhile p = l := by
  cases s with
  | nil => rw [List.append_nil]; exact Q9H hl
  | cons c r => exact Q28 hl (hs c r rfl)
theorem tok_word {t s : List UInt8} (h0 : t ≠ []) (h : ∀ x ∈ t, Q2D x = true) (hs : Sep s) : tok1 (t ++ s) = .ok (t, none) := by
  match t, h0 with
  | c :: t, _ =>
    rw [List.cons_append, Q30 (h c (List.mem_cons_self ..)), ← List.cons_append, Q5z h fun c r e => (hs c r e).1]
theorem Qhh {c : UInt8} (h : QU c = true) : ¬ Q2D c = true ∧ ¬ c = 62 := by
  have h1 : 48 ≤ c.toNat ∧ c.toNat ≤ 57 := of_decide_eq_true h
  refine ⟨fun h2 => ?_, ?_⟩
  · have := of_decide_eq_true h2; omega
  · rintro rfl; exact absurd h1 (by decide)
theorem tok_num {n : Int} {s : List UInt8} (h0 : -9223372036854775808 ≤ n) (h1 : n ≤ 9223372036854775807) (hs : Sep s) : tok1 (Lib.itoa n ++ s) = .ok (Lib.itoa n, some n) := by
  have hn := num_itoa h0 h1
  have hd : ∀ c r, s = c :: r → QU c = false := fun c r e => (hs c r e).2
  by_cases hneg : n < 0
  · have e : Lib.itoa n = 45 :: Lib.decDigits n.natAbs := by unfold Lib.itoa; rw [if_pos hneg]
    rw [e] at hn ⊢
    obtain ⟨c, r, hc, hcd⟩ := Q5R n.natAbs
    have hall := QcT n.natAbs
    rw [hc] at hn hall ⊢
    rw [List.cons_append, List.cons_append, Q43 (Qhh hcd).2 hcd, ← List.cons_append, Q5z hall hd]
    unfold numT; rw [hn]
  · have e : Lib.itoa n = Lib.decDigits n.toNat := by unfold Lib.itoa; rw [if_neg hneg]
    rw [e] at hn ⊢
    obtain ⟨c, r, hc, hcd⟩ := Q5R n.toNat
    have hall := QcT n.toNat
    rw [hc] at hn hall ⊢
    rw [List.cons_append, Q2z (Qhh hcd).1 hcd, ← List.cons_append, Q5z hall hd]
    unfold numT; rw [hn]
theorem QgR {c : UInt8} (h : Q4X c = true) : Q2D c = false ∧ QU c = false ∧ ¬ c = 45 := by
  have hall : ∀ p : Fin 256, Q4X (UInt8.ofNat p.val) = true → Q2D (UInt8.ofNat p.val) = false ∧ QU (UInt8.ofNat p.val) = false ∧ ¬ UInt8.ofNat p.val = 45 := by decide +kernel
  have h1 := hall ⟨c.toNat, c.toNat_lt⟩
  simp only [UInt8.ofNat_toNat] at h1
  exact h1 h
theorem Qts {c : UInt8} {s : List UInt8} (h : Q4X c = true) : tok1 ([c] ++ s) = .ok ([c], none) := by
  obtain ⟨h1, h2, h3⟩ := QgR h
  exact Q5y (by rw [h1]; decide) (by rw [h2]; decide) h3 h
/-! ### texts that are Q79 -/
def Pr (t : List UInt8) (g : List Tk) : Prop := ∀ s ts, Sep s → QsI s ts → QsI (t ++ s) (g ++ ts)
theorem sep_c {c : UInt8} {s : List UInt8} (h : Q2D c = false ∧ QU c = false) : Sep (c :: s) := fun a r e => by cases e; exact h
theorem Pr.nil : Pr [] [] := fun s ts _ h => h
theorem Pr.app {a b : List UInt8} {g h : List Tk} (ha : Pr a g) (hb : Pr b h) (hs : ∀ s, Sep s → Sep (b ++ s)) : Pr (a ++ b) (g ++ h) := fun s ts h1 h2 => by
  rw [List.append_assoc, List.append_assoc]; exact ha _ _ (hs s h1) (hb s ts h1 h2)
theorem Pr.sp {b : List UInt8} {c : UInt8} {h : List Tk} (hc : c = 10 ∨ c = 32 ∨ c = 9 ∨ c = 13) (hb : Pr b h) : Pr (c :: b) h := fun s ts h1 h2 => scans_sp hc (hb s ts h1 h2)
theorem Pr.word {t : List UInt8} (h0 : t ≠ []) (h : ∀ x ∈ t, Q2D x = true) : Pr t [(t, none)] := fun s ts h1 h2 => QaX (tok_word h0 h h1) h2
theorem Pr.num {n : Int} (h0 : -9223372036854775808 ≤ n) (h1 : n ≤ 9223372036854775807) : Pr (Lib.itoa n) [(Lib.itoa n, some n)] := fun s ts h2 h3 => QaX (tok_num h0 h1 h2) h3
theorem Pr.sig {c : UInt8} (h : Q4X c = true) : Pr [c] [([c], none)] := fun s ts h1 h2 => QaX (Qts h) h2
/-- A sign may stand ahead of whatever comes. -/
theorem Pr.sigl {c : UInt8} {b : List UInt8} {g : List Tk} (h : Q4X c = true) (hb : Pr b g) : Pr (c :: b) (([c], none) :: g) := fun s ts h1 h2 => QaX (Qts h) (hb s ts h1 h2)
theorem Pr.sigr {c : UInt8} {b : List UInt8} {g : List Tk} (h : Q4X c = true) (hb : Pr b g) : Pr (b ++ [c]) (g ++ [([c], none)]) := hb.app (Pr.sig h) fun s _ => sep_c ⟨(QgR h).1, (QgR h).2.1⟩
/-- Things with Q4y between. -/
def Q4y : List (List Tk) → List Tk
  | [] => []
  | [g] => g
  | g :: l => g ++ ([44], none) :: Q4y l
theorem QoA (g h : List Tk) (l : List (List Tk)) : Q4y (g :: h :: l) = g ++ ([44], none) :: Q4y (h :: l) := rfl
theorem join_cc {x y : List UInt8} {l : List (List UInt8)} {sep : List UInt8} : Lib.join (x :: y :: l) sep = x ++ (sep ++ Lib.join (y :: l) sep) := by
  rw [Lib.join_cons, Lib.join_cons]; simp [Lib.joinTail]
theorem Pr.join : ∀ {l : List (List UInt8 × List Tk)}, (∀ x ∈ l, Pr x.1 x.2) → Pr (Lib.join (l.map Prod.fst) [44, 32]) (Q4y (l.map Prod.snd))
  | [], _ => Pr.nil
  | [x], h => by
    have := h x (List.mem_cons_self ..)
    simp only [List.map_cons, List.map_nil]
    rw [Lib.join_one, Q4y]; exact this
  | x :: y :: l, h => by
    have h1 := h x (List.mem_cons_self ..)
    have h2 := Pr.join (l := y :: l) fun z hz => h z (List.mem_cons_of_mem _ hz)
    simp only [List.map_cons] at h2 ⊢
    rw [join_cc, QoA]
    exact h1.app (Pr.sigl (by decide) (h2.sp (by decide))) fun s _ => sep_c (by decide)
theorem Pr.listOf {α : Type} {f : α → List UInt8} {g : α → List Tk} {l : List α} {b e : UInt8} (h : ∀ x ∈ l, Pr (f x) (g x)) (hb : Q4X b = true) (he : Q4X e = true) : Pr ([b] ++ Lib.join (l.map f) [44, 32] ++ [e]) (([b], none) :: (Q4y (l.map g) ++ [([e], none)])) := by
  have h1 := Pr.join (l := l.map fun x => (f x, g x)) (by intro x hx; obtain ⟨y, hy, rfl⟩ := List.mem_map.1 hx; exact h y hy)
  simp only [List.map_map] at h1
  exact Pr.sigl hb (Pr.sigr he h1)
/-! ### modules' tokens -/
abbrev nt (n : Int) : Tk := (Lib.itoa n, some n)
abbrev wt (t : List UInt8) : Tk := (t, none)
def intsTk (b : UInt8) (l : List Int) (e : UInt8) : List Tk := wt [b] :: (Q4y (l.map fun n => [nt n]) ++ [wt [e]])
mutual
def Ty.tks : Ty → List Tk
  | .mk k r l => if k = 2 then [wt Q1Z, nt r] else if k = 4 then [wt Q3O, nt r] else if k = 3 then wt Q2F :: nt r :: wt [40] :: (Q4y (Tys.tkss l) ++ [wt [41]]) else [wt tInt]
def Tys.tkss : List Ty → List (List Tk)
  | [] => []
  | x :: l => x.tks :: Tys.tkss l
end
theorem Tys.tkss_map : ∀ (l : List Ty), Tys.tkss l = l.map Ty.tks
  | [] => by rw [Tys.tkss]; rfl
  | x :: l => by rw [Tys.tkss, Tys.tkss_map l]; rfl
def SmL (l : List Int) : Prop := ∀ n ∈ l, 0 ≤ n ∧ n ≤ 1000000
end Go.Lir
namespace Go.Lir
section
variable {n : Nat} {r r1 r2 r3 r4 : List UInt8} {e : Flt} {op a : Int} {yes no : To} {l : List Int}
variable {h j : Nat} {x : Int × Int × Int × Int} {y : Int} {X : Got (Int × Int × Int × Int)}
end
end Go.Lir
namespace Go.Lir
set_option linter.unusedVariables false
section
variable {α : Type} {n : Nat}
def There (enc : α → List UInt8) (f : List UInt8 → Got α) (p : α → Prop) : Prop := ∀ x r, p x → f (enc x ++ r) = .ok (x, r)
def InI (x : Int) : Prop := -9223372036854775808 ≤ x ∧ x ≤ 9223372036854775807
theorem rb {β : Type} {X : Got α} {x : α} {r : List UInt8} {f : α → List UInt8 → Got β} {y : Got β} (h : X = .ok (x, r)) (hf : f x r = y) : rbind X f = y := by rw [h]; exact hf
end
end Go.Lir
namespace Go.Lir
set_option linter.unusedVariables false
def hasB (l : List Bool) (r : Int) : Bool := decide (0 ≤ r) && decide (r < l.length) && l.getD r.toNat false

/-! ### What both answer is the same -/

end Go.Lir
namespace Go.Lir
set_option linter.unusedVariables false
/-- Which regions are held, which values there are. -/
structure JS where
  h : List Bool
  l : List Ty
deriving instance DecidableEq for JS
def ebind {α β : Type} (x : Except Int α) (f : α → Except Int β) : Except Int β := match x with
  | .error e => .error e
  | .ok a => f a
def jput (s : JS) (t : Ty) : Except Int JS := if s.l.length = 80 then .error 2 else .ok ⟨s.h, s.l ++ [t]⟩
def number : Ty := .mk 1 0 []
/-! ### What is true of it -/
theorem jput_ok {s s' : JS} {t : Ty} (h : jput s t = .ok s') : s.l.length ≠ 80 ∧ s'.h = s.h ∧ s'.l = s.l ++ [t] := by
  unfold jput at h
  split at h
  · cases h
  · rename_i hk; cases h; exact ⟨hk, rfl, rfl⟩
/-- How an instruction that is let by changes what is known. -/
structure JStep (x : Ins) (s s' : JS) : Prop where
  len : s.l.length ≤ 80 → s'.l.length ≤ 80
  pre : ∃ more, s'.l = s.l ++ more ∧ (x.op ≠ 14 → more.length ≤ 1) ∧ (x.op = 3 → more.length = 1) ∧ (x.op = 4 → more = [])
  new : x.op = 3 → s'.h = s.h ++ [true] ∧ s.h.length ≠ 16
  free : x.op = 4 → ∃ t, 0 ≤ x.a ∧ s.l[x.a.toNat]? = some t ∧ t.kind = 2 ∧ hasB s.h t.r = true ∧ s'.h = s.h.set t.r.toNat false
  else_ : x.op ≠ 3 → x.op ≠ 4 → s'.h = s.h
section
variable {s : JS} {regs l : List Int} {want : List Ty} {k : Nat} {x c : Int} {u u' t : Ty}
end
section
variable {m : Module} {f : Fun} {s : JS} {x : Ins}
end
section
variable {f : Fun} {s : JS} {t : To} {b : Block} {e : Tail}
end
/-! ### A code that is told is not 0 -/
def NZ {α : Type} (x : Except Int α) : Prop := ∀ c, x = .error c → c ≠ 0
theorem NZ.e {α : Type} {c : Int} (h : c ≠ 0) : NZ (.error c : Except Int α) := fun _ h' => by cases h'; exact h
theorem NZ.o {α : Type} (a : α) : NZ (.ok a : Except Int α) := fun _ h' => by cases h'
theorem NZ.bind {α β : Type} {x : Except Int α} {f : α → Except Int β} (h1 : NZ x) (h2 : ∀ a, x = .ok a → NZ (f a)) : NZ (ebind x f) := by
  cases x with
  | error e => exact fun c h => by cases h; exact h1 _ rfl
  | ok a => exact h2 a rfl
theorem NZ.ite {α : Type} {p : Prop} [Decidable p] {a b : Except Int α} (h1 : NZ a) (h2 : NZ b) : NZ (if p then a else b) := by
  split
  · exact h1
  · exact h2
end Go.Lir
namespace Go.Lir
set_option linter.unusedVariables false
/-! ### A module of the right form -/
/-! ### What is renamed is short -/
theorem Ty.Short.part {t : Ty} (h : t.Short) : ∀ u ∈ t.l, u.Short := by
  obtain ⟨k, r, l⟩ := t
  exact h.parts.2
/-! ### What stays so -/
structure JGood (s : JS) : Prop where
  n : s.l.length ≤ 80
  h : s.h.length ≤ 16
  s : ∀ t ∈ s.l, t.Short
theorem JGood.put {s s' : JS} {t : Ty} (hg : JGood s) (ht : t.Short) (h : jput s t = .ok s') : JGood s' := by
  obtain ⟨h1, h2, h3⟩ := jput_ok h
  refine ⟨by rw [h3, List.length_append]; have := hg.n; simp only [List.length_cons, List.length_nil]; omega, by rw [h2]; exact hg.h, fun u hu => ?_⟩
  rw [h3] at hu
  rcases List.mem_append.1 hu with hu | hu
  · exact hg.s u hu
  · simp at hu; subst hu; exact ht
/-! ### What was freed -/
/-! ### What is held, as a list -/
end Go.Lir
namespace Go.Lir
set_option linter.unusedVariables false
variable {α : Type}
/-- A kind of data of which more is known. -/
def Rep.an (r : Rep α) (p : α → Prop) : Rep α where
  es := r.es
  pos := r.pos
  R := fun H K cs x => r.R H K cs x ∧ p x
  len := fun h => r.len h.1
  one := fun h => r.one h.1
  turn := fun h hs => ⟨r.turn h.1 hs, h.2⟩
def To.InR (t : To) : Prop := InI t.block ∧ (∀ n ∈ t.regs, InI n) ∧ ∀ n ∈ t.args, InI n
def Ins.InR (x : Ins) : Prop := (InI x.op ∧ InI x.a ∧ InI x.b ∧ InI x.c ∧ InI x.k ∧ InI x.n) ∧ (∀ n ∈ x.regs, InI n) ∧ ∀ n ∈ x.args, InI n
def Tail.InR (x : Tail) : Prop := InI x.op ∧ InI x.a ∧ x.yes.InR ∧ x.no.InR ∧ ∀ n ∈ x.args, InI n
def Block.InR (x : Block) : Prop := InI x.regs ∧ (∀ t ∈ x.params, t.InR) ∧ (∀ i ∈ x.code, i.InR) ∧ x.fin.InR
def Fun.InR (x : Fun) : Prop := InI x.regs ∧ (∀ t ∈ x.params, t.InR) ∧ (∀ t ∈ x.results, t.InR) ∧ ∀ b ∈ x.blocks, b.InR
def Module.InR (m : Module) : Prop := ∀ f ∈ m.funcs, f.InR
section
variable {P : Program} {T e : TypeId}
end
/-! ### of the right form: read as written -/
theorem QeU {fields : Nat} {n : Int} : ∀ {l : List Ty}, Tys.wrong fields l n = 0 → ∀ t ∈ l, t.wrong fields n = 0
  | [], _, t, ht => by cases ht
  | x :: l, h, t, ht => by
    rw [Tys.wrong] at h
    split at h
    · rename_i h0; exact absurd h h0
    · rename_i h0
      rcases List.mem_cons.1 ht with rfl | ht
      · exact Classical.not_not.1 h0
      · exact QeU h t ht
theorem Ty.wrong_parts {k r n : Int} {l : List Ty} {fields : Nat} (h : (Ty.mk k r l).wrong fields n = 0) : (1 ≤ k ∧ k ≤ 4) ∧ (k = 1 → r = 0) ∧ (k ≠ 3 → l.length = 0) ∧ l.length ≤ fields ∧ ∀ t ∈ l, t.wrong fields n = 0 := by
  rw [Ty.wrong] at h
  split at h; · cases h
  split at h; · cases h
  split at h; · cases h
  split at h; · cases h
  exact ⟨by omega, by omega, by omega, by omega, QeU h⟩
theorem Qs7 : ∀ {l : List Ty} {left : Int}, Tys.deepB l left = true → ∀ t ∈ l, t.deepB left = true
  | [], _, _, t, ht => by cases ht
  | x :: l, left, h, t, ht => by
    rw [Tys.deepB, Bool.and_eq_true] at h
    rcases List.mem_cons.1 ht with rfl | ht
    · exact h.1
    · exact Qs7 h.2 t ht
/-! ### few parts are short lists -/
end Go.Lir
namespace Go.Lir
set_option linter.unusedVariables false
def QiK (l : List Int) : Prop := l.length ≤ 16 ∧ ∀ n ∈ l, InI n
def TysPr (l : List Ty) : Prop := Tys.nodes l ≤ 40000 ∧ ∀ x ∈ l, x.InR
def To.Pr (t : To) : Prop := InI t.block ∧ QiK t.regs ∧ QiK t.args
def Ins.Pr (x : Ins) : Prop := (InI x.op ∧ InI x.a ∧ InI x.b ∧ InI x.c ∧ InI x.k ∧ InI x.n) ∧ QiK x.regs ∧ QiK x.args
def Tail.Pr (x : Tail) : Prop := InI x.a ∧ x.yes.Pr ∧ x.no.Pr ∧ QiK x.args
def Block.Pr (x : Block) : Prop := InI x.regs ∧ TysPr x.params ∧ (x.code.length ≤ 40 ∧ ∀ i ∈ x.code, i.Pr) ∧ x.fin.Pr
def Fun.Pr (x : Fun) : Prop := InI x.regs ∧ TysPr x.params ∧ TysPr x.results ∧ x.blocks.length ≤ 12 ∧ ∀ b ∈ x.blocks, b.Pr
def Module.Pr (m : Module) : Prop := m.funcs.length ≤ 8 ∧ ∀ f ∈ m.funcs, f.Pr
theorem Q4W {n : Int} (h : InI n) : (Lib.itoa n).length ≤ 21 := Lib.itoa_length_le n h.1 h.2
theorem Qtv {k : Nat} : ∀ {xs : List (List UInt8)}, (∀ x ∈ xs, x.length ≤ k) → (Lib.joinTail [44, 32] xs).length ≤ (k + 2) * xs.length
  | [], _ => by simp [Lib.joinTail]
  | x :: xs, h => by
    have h1 := h x (List.mem_cons_self ..)
    have h2 := Qtv (xs := xs) fun y hy => h y (List.mem_cons_of_mem _ hy)
    rw [List.length_cons, Nat.mul_succ]
    simp only [Lib.joinTail, List.map_cons, List.flatten_cons, List.length_append, List.length_cons, List.length_nil] at h2 ⊢
    omega
theorem join_le {k : Nat} {xs : List (List UInt8)} (h : ∀ x ∈ xs, x.length ≤ k) : (Lib.join xs [44, 32]).length ≤ (k + 2) * xs.length := by
  cases xs with
  | nil => rw [Lib.join_nil]; simp
  | cons x xs =>
    have h1 := h x (List.mem_cons_self ..)
    have h2 := Qtv (xs := xs) fun y hy => h y (List.mem_cons_of_mem _ hy)
    rw [Lib.join_cons, List.length_append, List.length_cons, Nat.mul_succ]
    omega
theorem ints_le {l : List Int} (h : QiK l) : (Lib.join (l.map Lib.itoa) [44, 32]).length ≤ 368 := by
  have := join_le (k := 21) (xs := l.map Lib.itoa) (by intro x hx; obtain ⟨n, hn, rfl⟩ := List.mem_map.1 hx; exact Q4W (h.2 n hn))
  rw [List.length_map] at this
  have := h.1; omega
theorem Q5i {l : List Int} {b e : List UInt8} (h : QiK l) (hb : b.length = 1) (he : e.length = 1) : (Q4n b l e).length ≤ 370 := by
  have := ints_le h
  unfold Q4n
  simp only [List.length_append]; omega
theorem To.txt_le {t : To} (h : t.Pr) : t.txt.length ≤ 763 := by
  have h1 := Q4W h.1
  have h2 := Q5i h.2.1 (b := [60]) (e := [62]) rfl rfl
  have h3 := Q5i h.2.2 (b := [40]) (e := [41]) rfl rfl
  unfold To.txt
  simp only [List.length_append, List.length_cons, List.length_nil]; omega
theorem QnP {ws : List (List UInt8)} (h : ws.all (fun w => decide (w.length ≤ 6)) = true) (k : Int) : (wordN ws k).length ≤ 6 := by
  unfold wordN
  split
  · simp
  · rw [List.getD_eq_getElem?_getD]
    cases hg : ws[k.toNat - 1]? with
    | none => simp
    | some w => simpa using of_decide_eq_true (List.all_eq_true.1 h w (List.mem_of_getElem? hg))
theorem join_sp1 (x y : List UInt8) : Lib.join [x, y] [32] = x ++ [32] ++ y := by rw [Lib.join_cons]; simp [Lib.joinTail]
theorem join_sp2 (x y z : List UInt8) : Lib.join [x, y, z] [32] = x ++ [32] ++ y ++ [32] ++ z := by rw [Lib.join_cons]; simp [Lib.joinTail]
theorem join_sp3 (x y z u : List UInt8) : Lib.join [x, y, z, u] [32] = x ++ [32] ++ y ++ [32] ++ z ++ [32] ++ u := by rw [Lib.join_cons]; simp [Lib.joinTail]
theorem Ins.txt_le {x : Ins} (h : x.Pr) : x.txt.length ≤ 800 := by
  obtain ⟨⟨h0, h1, h2, h3, h4, h5⟩, h6, h7⟩ := h
  have w1 := QnP (ws := opWords) (by decide) x.op
  have w2 := QnP (ws := kindWords) (by decide) x.k
  have g1 := Q4W h1
  have g2 := Q4W h2
  have g3 := Q4W h3
  have g4 := Q4W h4
  have g5 := Q4W h5
  have g6 := Q5i h6 (b := [60]) (e := [62]) rfl rfl
  have g7 := Q5i h7 (b := [40]) (e := [41]) rfl rfl
  unfold Ins.txt Ins.rest
  repeat' split
  all_goals (first | rw [Lib.join_one] | rw [join_sp1] | rw [join_sp2] | rw [join_sp3])
  all_goals ((try simp only [List.length_append, List.length_cons, List.length_nil]); omega)
theorem Tail.txt_le {t : Tail} (h : t.Pr) : t.txt.length ≤ 1600 := by
  have h1 := Q4W h.1
  have h2 := To.txt_le h.2.1
  have h3 := To.txt_le h.2.2.1
  have h4 := Q5i h.2.2.2 (b := [40]) (e := [41]) rfl rfl
  unfold Tail.txt
  repeat' split
  all_goals (simp only [List.length_append, List.length_cons, List.length_nil]; omega)
theorem Qlg : ∀ {l : List Ins}, (∀ i ∈ l, i.Pr) → (Qhr l).length ≤ 803 * l.length
  | [], _ => by simp [Qhr]
  | x :: l, h => by
    have h1 := Ins.txt_le (h x (List.mem_cons_self ..))
    have h2 := Qlg (l := l) fun y hy => h y (List.mem_cons_of_mem _ hy)
    rw [Qhr]
    simp only [List.length_append, List.length_cons, List.length_nil]; omega
theorem Qgq {l : List Ty} (h : TysPr l) : (Q9G l).length ≤ 2400002 := by
  have := Tys.join_len l h.2
  have h1 := h.1
  unfold Q9G
  simp only [List.length_append, List.length_cons, List.length_nil]; omega
theorem Block.txt_le {b : Block} (h : b.Pr) : b.txt.length ≤ 2500000 := by
  have h1 := Q4W h.1
  have h2 := Qgq h.2.1
  have h3 := Qlg h.2.2.1.2
  have h4 := h.2.2.1.1
  have h5 := Tail.txt_le h.2.2.2
  unfold Block.txt
  simp only [List.length_append, List.length_cons, List.length_nil]; omega
theorem Qf2 : ∀ {l : List Block}, (∀ i ∈ l, i.Pr) → (Q7T l).length ≤ 2500000 * l.length
  | [], _ => by simp [Q7T]
  | x :: l, h => by
    have h1 := Block.txt_le (h x (List.mem_cons_self ..))
    have h2 := Qf2 (l := l) fun y hy => h y (List.mem_cons_of_mem _ hy)
    rw [Q7T]
    simp only [List.length_append, List.length_cons]; omega
theorem Fun.txt_le {b : Fun} (h : b.Pr) : b.txt.length ≤ 35000000 := by
  have h1 := Q4W h.1
  have h2 := Qgq h.2.1
  have h3 := Qgq h.2.2.1
  have h4 := h.2.2.2.1
  have h5 := Qf2 h.2.2.2.2
  unfold Fun.txt
  simp only [List.length_append, List.length_cons, List.length_nil]; omega
/-! ### which modules may be Q79 -/
/-! ### a list's text as it grows -/
def Qur {α : Type} (f : α → List UInt8) (l : List α) (j : Nat) : List UInt8 := Lib.join ((l.take j).map f) [44, 32]
end Go.Lir
namespace Go.Lir
set_option linter.unusedVariables false
section
variable {α β : Type}
/-- A reader that reads these tokens as this thing. -/
def Rd (f : List Tok → PGot α) (g : List Tk) (a : α) : Prop := ∀ (l : List Tok) (ts : List Tk), l.map Tok.tk = g ++ ts → ∃ l', f l = .ok (a, l') ∧ l'.map Tok.tk = ts
theorem Rd.bind {f : List Tok → PGot α} {h : α → List Tok → PGot β} {g g2 : List Tk} {a : α} {b : β} (h1 : Rd f g a) (h2 : Rd (h a) g2 b) : Rd (fun l => Q6 (f l) h) (g ++ g2) b := fun l ts hl => by
  obtain ⟨l1, e1, m1⟩ := h1 l (g2 ++ ts) (by rw [hl, List.append_assoc])
  obtain ⟨l2, e2, m2⟩ := h2 l1 ts m1
  exact ⟨l2, by show Q6 (f l) h = _; rw [e1]; exact e2, m2⟩
theorem Rd.bind1 {f : List Tok → PGot α} {h : α → List Tok → PGot β} {g2 : List Tk} {t : Tk} {a : α} {b : β} (h1 : Rd f [t] a) (h2 : Rd (h a) g2 b) : Rd (fun l => Q6 (f l) h) (t :: g2) b := h1.bind h2
theorem Rd.last {f : List Tok → PGot α} {h : α → List Tok → PGot β} {g : List Tk} {a : α} {b : β} (h1 : Rd f g a) (h2 : Rd (h a) [] b) : Rd (fun l => Q6 (f l) h) g b := by
  have := h1.bind h2; rwa [List.append_nil] at this
theorem Rd.pure (a : α) : Rd (fun l => .ok (a, l)) [] a := fun l ts hl => ⟨l, rfl, hl⟩
theorem map_cons {l : List Tok} {t : Tk} {ts : List Tk} (h : l.map Tok.tk = t :: ts) : ∃ x r, l = x :: r ∧ x.tk = t ∧ r.map Tok.tk = ts := by
  cases l with
  | nil => cases h
  | cons x r => rw [List.map_cons] at h; cases h; exact ⟨x, r, rfl, rfl, rfl⟩
theorem Q4w {l : List Tok} {s s2 : List UInt8} {m : Option Int} {ts : List Tk} (h : l.map Tok.tk = (s2, m) :: ts) : isT s l = (m.isNone && decide (s2 = s)) := by
  obtain ⟨x, r, rfl, h1, h2⟩ := map_cons h
  simp only [Tok.tk, Prod.mk.injEq] at h1
  show (x.num.isNone && decide (x.text = s)) = _
  rw [h1.1, h1.2]
theorem Qcm {l : List Tok} {t : Tk} {ts : List Tk} (h : l.map Tok.tk = t :: ts) : l.tail.map Tok.tk = ts := by
  obtain ⟨x, r, rfl, h1, h2⟩ := map_cons h; exact h2
theorem Rd.want {e : Nat} {s : List UInt8} : Rd (want e s) [wt s] () := fun l ts hl => by
  have hl : l.map Tok.tk = (s, none) :: ts := hl
  refine ⟨l.tail, ?_, Qcm hl⟩
  unfold Lir.want
  rw [Q4w hl, if_pos (by simp)]
theorem Rd.long {e : Nat} {n : Int} : Rd (Q38 e) [nt n] n := fun l ts hl => by
  obtain ⟨x, r, rfl, h1, h2⟩ := map_cons hl
  simp only [Tok.tk, Prod.mk.injEq] at h1
  refine ⟨r, ?_, h2⟩
  unfold Q38
  simp only [h1.2]
theorem Rd.num {e : Nat} {n : Int} (h0 : 0 ≤ n ∧ n ≤ 1000000) : Rd (pNum e) [nt n] n := fun l ts hl => by
  obtain ⟨l', e1, h1⟩ := Rd.long (e := e) l ts hl
  refine ⟨l', ?_, h1⟩
  unfold pNum
  rw [if_neg, e1]
  obtain ⟨x, r, rfl, h2, h3⟩ := map_cons hl
  simp only [Tok.tk, Prod.mk.injEq] at h2
  unfold Qcj
  simp only [h2.2]
  intro h9
  have := of_decide_eq_true h9
  omega
/-- The tokens of a list behind its first thing. -/
def Q7P (g : α → List Tk) : List α → List Tk
  | [] => []
  | x :: xs => wt [44] :: (g x ++ Q7P g xs)
theorem Qoz (g : α → List Tk) : ∀ (x : α) (xs : List α), Q4y ((x :: xs).map g) = g x ++ Q7P g xs
  | x, [] => by simp [Q4y, Q7P]
  | x, y :: xs => by
    have := Qoz g y xs
    rw [List.map_cons, List.map_cons, QoA, ← List.map_cons, this]; rfl
/-- It begins with another token than this sign. -/
def Beg (cl : List UInt8) (g : List Tk) : Prop := ∃ t m r, g = (t, m) :: r ∧ (m.isNone && decide (t = cl)) = false
theorem Quk {e : Nat} {cl : List UInt8} {f : List Tok → PGot α} {g : α → List Tk} (hcl : cl ≠ [44]) : ∀ (xs : List α) (k n : Nat), 0 < n → xs.length < k → (∀ x ∈ xs, Rd f (g x) x) → Rd (pMany e cl f k n) (Q7P g xs ++ [wt cl]) xs
  | [], k + 1, n, hn, hk, h => fun l ts hl => by
    have hl : l.map Tok.tk = (cl, none) :: ts := hl
    rw [pMany, Q4w hl, if_pos (by simp)]
    exact ⟨_, rfl, Qcm hl⟩
  | x :: xs, k + 1, n, hn, hk, h => fun l ts hl => by
    have hl2 : l.map Tok.tk = (([44] : List UInt8), none) :: (g x ++ (Q7P g xs ++ [wt cl] ++ ts)) := by rw [hl]; simp [Q7P, List.append_assoc]
    rw [pMany, Q4w hl2, if_neg (by simpa using fun h => hcl h.symm), if_neg (by omega)]
    have h1 : Rd (want e [44]) [wt [44]] () := Rd.want
    obtain ⟨l1, e1, m1⟩ := h1 l _ hl2
    obtain ⟨l2, e2, m2⟩ := h x (List.mem_cons_self ..) l1 _ m1
    obtain ⟨l3, e3, m3⟩ := Quk (e := e) hcl xs k (n + 1) (by omega) (by simp at hk; omega) (fun y hy => h y (List.mem_cons_of_mem _ hy)) l2 _ m2
    rw [e1]
    refine ⟨l3, ?_, m3⟩
    simp only [Q6, e2, e3]
theorem Qub {e : Nat} {cl : List UInt8} {f : List Tok → PGot α} (k n : Nat) (l : List Tok) : pMany e cl f (k + 1) n l = if isT cl l = true then .ok ([], l.tail) else
    Q6 (if n = 0 then .ok ((), l) else want e [44] l) fun _ l => Q6 (f l) fun x l => Q6 (pMany e cl f k (n + 1) l) fun xs l => .ok (x :: xs, l) := by rw [pMany]
theorem Qgi {e : Nat} {b cl : List UInt8} {f : List Tok → PGot α} {g : α → List Tk} {xs : List α} (hcl : cl ≠ [44]) (hn : xs.length ≤ 100) (h : ∀ x ∈ xs, Rd f (g x) x) (hb : ∀ x ∈ xs, Beg cl (g x)) : Rd (Q15 e b cl f) (wt b :: (Q4y (xs.map g) ++ [wt cl])) xs := by
  unfold Q15
  refine Rd.bind1 Rd.want ?_
  cases xs with
  | nil =>
    intro l ts hl
    have hl : l.map Tok.tk = (cl, none) :: ts := hl
    show ∃ l', pMany e cl f 101 0 l = _ ∧ _
    rw [show pMany e cl f 101 0 l = _ from Qub 100 0 l, Q4w hl, if_pos (by simp)]
    exact ⟨_, rfl, Qcm hl⟩
  | cons x xs =>
    intro l ts hl
    rw [Qoz] at hl
    obtain ⟨t, m, r, hg, hno⟩ := hb x (List.mem_cons_self ..)
    have hl2 : l.map Tok.tk = g x ++ (Q7P g xs ++ [wt cl] ++ ts) := by rw [hl]; simp [List.append_assoc]
    have hl3 : l.map Tok.tk = (t, m) :: (r ++ (Q7P g xs ++ [wt cl] ++ ts)) := by rw [hl2, hg]; rfl
    show ∃ l', pMany e cl f 101 0 l = _ ∧ _
    rw [show pMany e cl f 101 0 l = _ from Qub 100 0 l, Q4w hl3, hno, if_neg Bool.false_ne_true, if_pos rfl]
    obtain ⟨l2, e2, m2⟩ := h x (List.mem_cons_self ..) l _ hl2
    obtain ⟨l3, e3, m3⟩ := Quk (e := e) hcl xs 100 1 (by omega) (by simp at hn; omega) (fun y hy => h y (List.mem_cons_of_mem _ hy)) l2 _ m2
    refine ⟨l3, ?_, m3⟩
    simp only [Q6, e2, e3]
end
/-! ### types -/
theorem ty_beg (t : Ty) : Beg [41] t.tks := by
  obtain ⟨k, r, l⟩ := t
  rw [Ty.tks]
  repeat' split
  all_goals exact ⟨_, _, _, rfl, by decide⟩
theorem Rd.ty {e : Nat} {n : Int} (hn : n ≤ 1000000) : ∀ (k : Nat) (t : Ty), t.deepB k = true → t.wrong 8 n = 0 → Rd (pTyp e (k + 1)) t.tks t
  | k, .mk kd r l, hd, hw => by
    obtain ⟨w1, w2, w3, w4, w5⟩ := Ty.wrong_parts hw
    have hr : kd ≠ 1 → 0 ≤ r ∧ r < n := by
      intro h1
      rw [Ty.wrong] at hw
      split at hw; · cases hw
      split at hw; · cases hw
      split at hw; · cases hw
      split at hw; · cases hw
      omega
    rw [Ty.deepB] at hd
    split at hd; · cases hd
    have h6 := Qs7 hd
    have hz : kd ≠ 3 → l = [] := fun h => List.length_eq_zero_iff.1 (w3 h)
    intro L ts hl
    rcases (show kd = 1 ∨ kd = 2 ∨ kd = 3 ∨ kd = 4 by omega) with rfl | rfl | rfl | rfl
    · obtain rfl := hz (by decide)
      obtain rfl := w2 rfl
      rw [Ty.tks, if_neg (by decide), if_neg (by decide), if_neg (by decide)] at hl
      have hl : L.map Tok.tk = (tInt, none) :: ts := hl
      rw [pTyp, Q4w hl, if_pos (by decide)]
      exact ⟨_, rfl, Qcm hl⟩
    · obtain rfl := hz (by decide)
      rw [Ty.tks, if_pos rfl] at hl
      have hl : L.map Tok.tk = (Q1Z, none) :: (nt r :: ts) := hl
      rw [pTyp, Q4w hl, if_neg (by decide), Q4w hl, if_pos (by decide)]
      obtain ⟨l1, e1, m1⟩ := Rd.num (e := e) (n := r) (by have := hr (by decide); omega) L.tail ts (Qcm hl)
      exact ⟨l1, by simp only [Q6, e1], m1⟩
    · rw [Ty.tks, if_neg (by decide), if_neg (by decide), if_pos rfl] at hl
      have hl : L.map Tok.tk = (Q2F, none) :: (nt r :: (wt [40] :: (Q4y (Tys.tkss l) ++ [wt [41]]) ++ ts)) := by rw [hl]; simp
      rw [pTyp, Q4w hl, if_neg (by decide), Q4w hl, if_neg (by decide), Q4w hl, if_neg (by decide)]
      obtain ⟨l1, e1, m1⟩ := Rd.want (e := e) (s := Q2F) L _ hl
      obtain ⟨l2, e2, m2⟩ := Rd.num (e := e) (n := r) (by have := hr (by decide); omega) l1 _ m1
      have hsub : Rd (Q15 e [40] [41] (pTyp e k)) (wt [40] :: (Q4y (l.map Ty.tks) ++ [wt [41]])) l := by
        cases l with
        | nil => exact Qgi (by decide) (by decide) (by simp) (by simp)
        | cons x l =>
          match k with
          | 0 =>
            have := h6 x (List.mem_cons_self ..)
            obtain ⟨a, b, c⟩ := x
            rw [Ty.deepB, if_pos (by omega)] at this
            cases this
          | k + 1 => exact Qgi (by decide) (by omega) (fun t ht => Rd.ty hn k t (by rw [show (k : Int) = ((k + 1 : Nat) : Int) - 1 by omega]; exact h6 t ht) (w5 t ht)) fun t _ => ty_beg t
      rw [← Tys.tkss_map] at hsub
      obtain ⟨l3, e3, m3⟩ := hsub l2 _ m2
      exact ⟨l3, by simp only [Q6, e1, e2, e3], m3⟩
    · obtain rfl := hz (by decide)
      rw [Ty.tks, if_neg (by decide), if_pos rfl] at hl
      have hl : L.map Tok.tk = (Q3O, none) :: (nt r :: ts) := hl
      rw [pTyp, Q4w hl, if_neg (by decide), Q4w hl, if_neg (by decide), Q4w hl, if_pos (by decide)]
      obtain ⟨l1, e1, m1⟩ := Rd.num (e := e) (n := r) (by have := hr (by decide); omega) L.tail ts (Qcm hl)
      exact ⟨l1, by simp only [Q6, e1], m1⟩
theorem nt_beg (cl : List UInt8) (n : Int) : Beg cl [nt n] := ⟨_, _, _, rfl, rfl⟩
theorem Rd.regs {e : Nat} {l : List Int} (hl : l.length ≤ 16) (h : SmL l) : Rd (Qh6 e) (intsTk 60 l 62) l := Qgi (by decide) (by omega) (fun n hn => Rd.num (h n hn)) fun n _ => nt_beg _ n
theorem Rd.args {e : Nat} {l : List Int} (hl : l.length ≤ 16) (h : SmL l) : Rd (Q4T e) (intsTk 40 l 41) l := Qgi (by decide) (by omega) (fun n hn => Rd.num (h n hn)) fun n _ => nt_beg _ n
end Go.Lir
namespace Go.Lir
/-! ### tokens -/
section
variable {b : List UInt8}
end
/-! ### readers -/
section
variable {α β : Type} {e e2 : Nat}
/-- What was read is read again, whatever stands behind it. -/
def Go1 (f f2 : List Tok → PGot α) : Prop := ∀ l x l', f l = .ok (x, l') → ∃ g, l.map Tok.tk = g ++ l'.map Tok.tk ∧ Rd f2 g x
/-- And it was something. -/
def GoC (f f2 : List Tok → PGot α) : Prop := ∀ l x l', f l = .ok (x, l') → ∃ g, g ≠ [] ∧ l.map Tok.tk = g ++ l'.map Tok.tk ∧ Rd f2 g x
theorem GoC.go {f f2 : List Tok → PGot α} (h : GoC f f2) : Go1 f f2 := fun l x l' h1 => by
  obtain ⟨g, _, h2, h3⟩ := h l x l' h1; exact ⟨g, h2, h3⟩
theorem Go1.pure {x : α} : Go1 (fun l => .ok (x, l)) (fun l => .ok (x, l)) := fun l y l' h => by
  cases h; exact ⟨[], rfl, Rd.pure _⟩
theorem QrS {f : List Tok → PGot α} {h : α → List Tok → PGot β} {l l' : List Tok} {y : β} (hb : Q6 (f l) h = .ok (y, l')) : ∃ x l1, f l = .ok (x, l1) ∧ h x l1 = .ok (y, l') := by
  cases hf : f l with
  | error g => rw [hf] at hb; cases hb
  | ok p => obtain ⟨x, l1⟩ := p; rw [hf] at hb; exact ⟨x, l1, rfl, hb⟩
theorem Go1.bind {f f2 : List Tok → PGot α} {h h2 : α → List Tok → PGot β} (hf : Go1 f f2) (hh : ∀ a, Go1 (h a) (h2 a)) : Go1 (fun l => Q6 (f l) h) (fun l => Q6 (f2 l) h2) := fun l y l' hb => by
  obtain ⟨x, l1, h3, h4⟩ := QrS hb
  obtain ⟨g1, e1, r1⟩ := hf l x l1 h3
  obtain ⟨g2, e2, r2⟩ := hh x l1 y l' h4
  exact ⟨g1 ++ g2, by rw [e1, e2, List.append_assoc], r1.bind r2⟩
theorem GoC.bind {f f2 : List Tok → PGot α} {h h2 : α → List Tok → PGot β} (hf : GoC f f2) (hh : ∀ a, Go1 (h a) (h2 a)) : GoC (fun l => Q6 (f l) h) (fun l => Q6 (f2 l) h2) := fun l y l' hb => by
  obtain ⟨x, l1, h3, h4⟩ := QrS hb
  obtain ⟨g1, n1, e1, r1⟩ := hf l x l1 h3
  obtain ⟨g2, e2, r2⟩ := hh x l1 y l' h4
  exact ⟨g1 ++ g2, by simp [n1], by rw [e1, e2, List.append_assoc], r1.bind r2⟩
/-- A question to the first token alone. -/
def HeadP (p : List Tok → Bool) : Prop := ∀ (l l2 : List Tok) (t : Tk) (a b : List Tk), l.map Tok.tk = t :: a → l2.map Tok.tk = t :: b → p l = p l2
theorem HeadP.of {p : List Tok → Bool} (hp : HeadP p) {l l2 : List Tok} {g a b : List Tk} (hg : g ≠ []) (h1 : l.map Tok.tk = g ++ a) (h2 : l2.map Tok.tk = g ++ b) : p l2 = p l := by
  cases g with
  | nil => exact absurd rfl hg
  | cons t g => exact (hp l l2 t _ _ h1 h2).symm
theorem GoC.ite {p : List Tok → Bool} {A A2 B B2 : List Tok → PGot α} (hp : HeadP p) (ha : GoC A A2) (hb : GoC B B2) : GoC (fun l => if p l = true then A l else B l) (fun l => if p l = true then A2 l else B2 l) := fun l y l' h => by
  dsimp only at h
  cases hq : p l with
  | true =>
    rw [if_pos hq] at h
    obtain ⟨g, n1, e1, r1⟩ := ha l y l' h
    refine ⟨g, n1, e1, fun l2 ts h2 => ?_⟩
    dsimp only
    rw [if_pos (by rw [hp.of n1 e1 h2]; exact hq)]
    exact r1 l2 ts h2
  | false =>
    rw [if_neg (by rw [hq]; decide)] at h
    obtain ⟨g, n1, e1, r1⟩ := hb l y l' h
    refine ⟨g, n1, e1, fun l2 ts h2 => ?_⟩
    dsimp only
    rw [if_neg (by rw [hp.of n1 e1 h2, hq]; decide)]
    exact r1 l2 ts h2
theorem Go1.cond {c : Prop} [Decidable c] {A A2 B B2 : List Tok → PGot α} (ha : Go1 A A2) (hb : Go1 B B2) : Go1 (fun l => if c then A l else B l) (fun l => if c then A2 l else B2 l) := by
  split
  · exact ha
  · exact hb
theorem GoC.cond {c : Prop} [Decidable c] {A A2 B B2 : List Tok → PGot α} (ha : GoC A A2) (hb : GoC B B2) : GoC (fun l => if c then A l else B l) (fun l => if c then A2 l else B2 l) := by
  split
  · exact ha
  · exact hb
/-- One more, if the first token says so. -/
structure GoO (p : List Tok → Bool) (f f2 : List Tok → PGot (Option α)) : Prop where
  hp : HeadP p
  no : ∀ l, p l = false → f l = .ok (none, l) ∧ f2 l = .ok (none, l)
  yes : ∀ l x l', p l = true → f l = .ok (x, l') → ∃ a g, x = some a ∧ g ≠ [] ∧ l.map Tok.tk = g ++ l'.map Tok.tk ∧ Rd f2 g (some a)
end
end Go.Lir
namespace Go.Lir
section
variable {α β : Type} {e k n : Nat} {A B : List Tok → PGot α} {x : α}
def NzP (f : List Tok → PGot α) : Prop := ∀ l g, f l = .error g → g.1 ≠ 0
theorem Qk {f : α → List Tok → PGot β} (h : NzP A) (hf : ∀ a, NzP (f a)) : NzP (fun l => Q6 (A l) f) := by
  intro l g h2
  dsimp only at h2
  cases hA : A l with
  | error z => rw [hA] at h2; cases h2; exact h l _ hA
  | ok y => obtain ⟨a, l1⟩ := y; rw [hA] at h2; exact hf a l1 g h2
theorem Q12 : NzP (fun l => .ok (x, l)) := fun l g h => by cases h
theorem nz_t (h : NzP A) : NzP (fun l => A l.tail) := fun l g h2 => h l.tail g h2
theorem Qav {c : Int} (hc : c ≠ 0) : NzP (α := α) (fun l => .error (Q1X e c l)) := fun l g h => by
  cases h
  cases l with
  | nil => show (if c = 4 then (5 : Int) else c) ≠ 0; split <;> omega
  | cons => exact hc
theorem Qju {c : List Tok → Prop} [DecidablePred c] (h1 : NzP A) (h2 : NzP B) : NzP (fun l => if c l then A l else B l) := by
  intro l g h
  dsimp only at h
  split at h
  · exact h1 l g h
  · exact h2 l g h
theorem Q9L {c : Prop} [Decidable c] (h1 : NzP A) (h2 : NzP B) : NzP (fun l => if c then A l else B l) := by
  split
  · exact h1
  · exact h2
theorem Q39 {s : List UInt8} : NzP (want e s) := Qju (nz_t (A := fun l => .ok ((), l)) Q12) (Qav (by decide))
theorem Qug : NzP (Q38 e) := by
  intro l g h
  cases l with
  | nil => cases h; exact (by decide : (5 : Int) ≠ 0)
  | cons t r =>
    unfold Q38 at h
    dsimp only at h
    split at h
    · cases h
    · exact Qav (α := Int) (e := e) (c := 4) (by decide) (t :: r) g h
theorem Q2h : NzP (pNum e) := Qju (Qav (by decide)) Qug
theorem nz_kind : NzP (Q7J e) := Qju (Qav (by decide)) (fun l g h => by cases h)
theorem Quf {cl : List UInt8} (h : NzP A) : ∀ k n, NzP (pMany e cl A k n)
  | 0, n => Qav (by decide)
  | k + 1, n => by
    have e9 : pMany e cl A (k + 1) n = fun l => if isT cl l = true then .ok ([], l.tail) else Q6 ((fun l => if n = 0 then .ok ((), l) else want e [44] l) l) fun _ l => Q6 (A l) fun x l => Q6 (pMany e cl A k (n + 1) l) fun xs l => .ok (x :: xs, l) := by funext l; rw [pMany]
    rw [e9]
    exact Qju (nz_t (A := fun l => .ok ([], l)) Q12) (Qk (Q9L Q12 Q39) fun _ => Qk h fun x => Qk (Quf h k (n + 1)) fun xs => Q12)
theorem Qmk {b cl : List UInt8} (h : NzP A) : NzP (Q15 e b cl A) := Qk Q39 fun _ => Quf h 101 0
theorem nz_typ : ∀ k, NzP (pTyp e k)
  | 0 => by rw [show pTyp e 0 = fun l => .error (Q1X e 19 l) by funext l; rw [pTyp]]; exact Qav (by decide)
  | k + 1 => by
    have e9 : pTyp e (k + 1) = fun l => if isT tInt l = true then .ok (.mk 1 0 [], l.tail)
      else if isT Q1Z l = true then Q6 (pNum e l.tail) fun n l => .ok (.mk 2 n [], l)
      else if isT Q3O l = true then Q6 (pNum e l.tail) fun n l => .ok (.mk 4 n [], l)
      else Q6 (want e Q2F l) fun _ l => Q6 (pNum e l) fun n l => Q6 (Q15 e [40] [41] (pTyp e k) l) fun ts l => .ok (.mk 3 n ts, l) := by funext l; rw [pTyp]
    rw [e9]
    exact Qju (nz_t (A := fun l => .ok (Ty.mk 1 0 [], l)) Q12) (Qju (Qk (nz_t Q2h) fun n => Q12) (Qju (Qk (nz_t Q2h) fun n => Q12) (Qk Q39 fun _ => Qk Q2h fun n => Qk (Qmk (nz_typ k)) fun ts => Q12)))
theorem Qmj : NzP (Q2v e) := Qmk (nz_typ 5)
theorem Qud : NzP (Qh6 e) := Qmk Q2h
theorem Qml : NzP (Q4T e) := Qmk Q2h
theorem nz_body {op : Int} : NzP (Q2C e op) := by
  refine Q9L (Qk Qug fun n => Q12) ?_
  refine Q9L (Qk nz_kind fun k => Qk Q2h fun a => Qk Q2h fun b => Q12) ?_
  refine Q9L (Qk Q2h fun a => Q12) ?_
  refine Q9L (Qk Q2h fun a => Qk Qml fun g => Q12) ?_
  refine Q9L (Qk Q2h fun a => Qk Q2h fun k => Q12) ?_
  refine Q9L (Qk Q2h fun a => Qk Q2h fun k => Qk Q2h fun b => Q12) ?_
  refine Q9L (Qk Q2h fun a => Qk Q2h fun b => Q12) ?_
  refine Q9L (Qk Q2h fun a => Qk Q2h fun b => Qk Q2h fun c => Q12) ?_
  exact Q9L (Qk Q2h fun k => Qk Qud fun r => Qk Qml fun g => Q12) Q12
theorem nz_ins : NzP (pIns e) := by
  intro l g h
  unfold pIns at h
  split at h
  · cases h
  · exact (nz_t (Qk nz_body fun x => Qk (Q39 (e := e) (s := [59])) fun _ => Q12 (x := some x))) l g h
theorem nz_to : NzP (pTo e) := Qk Q2h fun b => Qk Qud fun r => Qk Qml fun g => Q12
theorem nz_tail : NzP (Q3W e) := by
  refine Qju (Qk (nz_t nz_to) fun y => Q12) (Qju ?_ ?_)
  · exact Qk (nz_t Q2h) fun a => Qk Q39 fun _ => Qk nz_to fun y => Qk Q39 fun _ => Qk nz_to fun n => Q12
  · exact Qk Q39 fun _ => Qk Qml fun g => Q12
theorem nz_ends : NzP (Q3R e) := Qk nz_tail fun t => Qk Q39 fun _ => Q12
theorem Que {f : List Tok → PGot (Option α)} (h : NzP f) : ∀ k, NzP (pOpts f k)
  | 0 => Q12
  | k + 1 => by
    have e9 : pOpts f (k + 1) = fun l => Q6 (f l) fun o l => match o with
      | none => .ok ([], l)
      | some x => Q6 (pOpts f k l) fun xs l => .ok (x :: xs, l) := by funext l; first | (rw [pOpts]; done) | (rw [pOpts]; rfl)
    rw [e9]
    refine Qk h fun o => ?_
    cases o with
    | none => exact Q12
    | some x => exact Qk (Que h k) fun xs => Q12
theorem Quh {f : List Tok → PGot (Option α)} (h : NzP f) : NzP (pAll f) := fun l g h2 => Que h _ l g h2
theorem nz_pif {p : List Tok → Bool} (h : NzP A) : NzP (pIf p A) := Qju (Qk h fun x => Q12) Q12
theorem nz_block : NzP (Q2G e) :=
  Qk Q39 fun _ => Qk Q2h fun g => Qk Qmj fun ps => Qk Q39 fun _ => Qk (Quh nz_ins) fun c => Qk nz_ends fun t => Qk Q39 fun _ => Q12
theorem nz_fun : NzP (pFun e) :=
  Qk Q39 fun _ => Qk Q2h fun g => Qk Qmj fun ps => Qk Q39 fun _ => Qk Qmj fun rs => Qk Q39 fun _ => Qk (Quh (nz_pif nz_block)) fun bl => Qk Q39 fun _ => Q12
theorem Qu8 {s : List UInt8} {f : Flt} (h : Q3G s = .error f) : f.1 ≠ 0 := by
  unfold Q3G at h
  split at h
  · rename_i g h1; cases h; exact QlQ h1
  · split at h
    · rename_i g h1; cases h; exact Quh (nz_pif nz_fun) _ _ h1
    · split at h
      · rename_i h1; cases h; exact h1
      · cases h
end
end Go.Lir
namespace Go.Proofs.YtjecflbbcnocdaaGreatDoor
open Go.Lir
set_option maxHeartbeats 1000000
attribute [local irreducible] LC.wp Q2 QA QB retQ Q1e LO.wp Qj Calls
set_option linter.unusedSimpArgs false
set_option linter.unusedVariables false
theorem Ql2 {x y : Block} {cx : Cx} {w : World} {L : List Res} {cs ds : List Value} (hx : blockR.at cx cs x) (hy : blockR.at cx ds y) (hS : St cx w L) : Rets Tryz.prog Q3J [.agg ⟨cs⟩, .agg ⟨ds⟩] w fun u w' => u = .bool (decide (x = y)) ∧ St cx w' L := by
  obtain ⟨vp, vc, v1, v2, v3, v4, v5, rfl, hp, hc0, h1, h2, h3, h4, h5⟩ := Q29 hx
  obtain ⟨up, uc, u1, u2, u3, u4, u5, rfl, gp, gc, g1, g2, g3, g4, g5⟩ := Q29 hy
  have hlen := hc0.len
  obtain ⟨xr, xp, xc, ⟨xo, xa, xy, xn, xg⟩⟩ := x
  obtain ⟨yr, yp, yc, ⟨yo, ya, yy, yn, yg⟩⟩ := y
  simp only [Block.mk.injEq, Tail.mk.injEq] at *
  all_goals refine Qk7 ?_
  all_goals (unfold R_sameBlock_lc; refine Q0 ?_; refine Q1 ?_; refine zb hS ?_; intro p2 w1 hS; refine zb hS ?_; intro p3 w1 hS; refine zm ?_; refine zn ?_)
  refine zML hS [2, 3] (fun A LL ρ' w' => Has ρ' A ∧ Has ρ' [] ∧ (xr = yr) ∧ (xp = yp) ∧ (xc.length = yc.length) ∧ St cx w' (LL)) ?_ ?_
  · skip
    all_goals (refine Q0 ?_; refine Q1 ?_; refine zf0 ?_; refine zl hS ?_; refine zf0 ?_; refine zl hS ?_)
    all_goals (first | (refine Q1h ?_) | (refine Q1j ?_) | (refine Qv rfl rfl (fun hc => ?_) (fun hc => ?_)))
    all_goals (refine zm ?_; (first | refine zgn ?_ | (refine zgy ?_; refine zf0 ?_)); (first | refine zgn ?_ | (refine zgy ?_; refine zl hS ?_)); (first | refine zgn ?_ | (refine zgy ?_; refine zf0 ?_)); (first | refine zgn ?_ | (refine zgy ?_; refine zl hS ?_)))
    all_goals ((first | (refine zgn ?_) | (refine zgy ?_; refine zR2 (c := Q82 hp gp hS) (h := ?_); rintro v1 w1 ⟨rfl, hS⟩; (cases hdec : decide (xp = yp)); have hg := of_decide_eq_false hdec; rotate_left; have hg := of_decide_eq_true hdec; all_goals skip)))
    all_goals ((first | refine zgn ?_ | (refine zgy ?_; refine znt ?_)); (first | (refine zpt ?_) | (refine zpf ?_)); refine zm ?_; (first | refine zgn ?_ | (refine zgy ?_; refine zf0 ?_)); (first | refine zgn ?_ | (refine zgy ?_; refine zl hS ?_)); (first | refine zgn ?_ | (refine zgy ?_; refine zL ?_)); (first | refine zgn ?_ | (refine zgy ?_; refine zf0 ?_)); (first | refine zgn ?_ | (refine zgy ?_; refine zl hS ?_)); (first | refine zgn ?_ | (refine zgy ?_; refine zL ?_)))
    all_goals (first | refine zgn ?_ | (refine zgy ?_; (first | (refine Q1h ?_) | (refine Q1j ?_) | (refine Qv rfl rfl (fun hc => ?_) (fun hc => ?_)))))
    all_goals ((first | (refine zpt ?_) | (refine zpf ?_)); refine zn ?_)
    all_goals
      first
      | (refine zct ?_ -- Q3J c0
         all_goals (refine Q0 ?_; refine Q1 ?_; refine zm ?_; refine zn ?_; refine zr ?_; refine zf ?_)
         all_goals (refine ⟨_, rfl, ?_, hS.sp⟩; (rw [decide_eq_false]; rintro ⟨e1, e2, e3, _⟩; have := congrArg List.length e3; first | omega | (simp_all; done)); done))
      | (refine zcf ?_ -- Q3J c0
         all_goals refine zsk ?_)
    all_goals (exact ⟨zh, zh, by omega, by assumption, by omega, hS.sp⟩)
  rintro ρ w1 ⟨hA, hρ, hr, hpp, hll, hS⟩; obtain ⟨ρ, rfl⟩ := env2 hA hρ
  all_goals (refine Q0 ?_; refine Q0 ?_; refine Q1 ?_; refine zm ?_; refine zn ?_; refine Qa ?_)
  refine zoL hS [2, 3] (fun A LL ρ' w' => ∃ (j : Nat), Has ρ' A ∧ Has ρ' [(5, .int .i64 j)] ∧ (j ≤ xc.length) ∧ (xc = yc ↔ xc.drop j = yc.drop j) ∧ St cx w' (LL)) (fun ρ' _ => (xc.length - iv (ρ' 5)).toNat) ?_ ?_
  · exact ⟨0, zh, zh, (by omega), by simp, hS.sp⟩
  rintro ρ w1 ⟨j, hA, hρ, hj, hd, hS⟩; obtain ⟨ρ, rfl⟩ := env2 hA hρ
  unfold Q9Q
  all_goals (refine Q0 ?_; refine Q0 ?_; refine Q1 ?_; refine zm ?_; refine zf0 ?_; refine zl hS ?_; refine zL ?_; refine Q1i rfl rfl ?_; refine zn ?_)
  refine QM rfl (fun hc => ?_) (fun hc => ?_)
  · skip
    all_goals (refine zsk ?_; refine Q0 ?_; refine Qa ?_; refine Q0 ?_; refine zD [(0, none), (1, none), (2, none), (3, none), (4, none), (5, none), (6, none), (7, none), (8, none), (9, none), (10, some none), (11, some none)] ?_; have hS := hS.drew; refine zf0 ?_; refine zl hS ?_; refine zm ?_; refine zi ?_; intro b1 o1 cs1 x1 hat1 hx1 he1; obtain ⟨vr1, va1, rfl, hr1, ha1⟩ := Q3M he1; (first | (refine zv hS ?_) | (refine zvk hS ?_)); refine zf0 ?_; refine zl hS ?_; refine zm ?_; refine zi ?_; intro b2 o2 cs2 x2 hat2 hx2 he2; obtain ⟨vr2, va2, rfl, hr2, ha2⟩ := Q3M he2; (first | (refine zv hS ?_) | (refine zvk hS ?_)))
    all_goals (refine zR2 (c := Qsq he1 he2 hS) (h := ?_); rintro v1 w1 ⟨rfl, hS⟩; (cases hdec : decide (x1 = x2)); have hg := of_decide_eq_false hdec; rotate_left; have hg := of_decide_eq_true hdec; all_goals skip)
    all_goals (refine znt ?_; refine zn ?_)
    all_goals
      first
      | (refine zct ?_ -- Q3J c2
         all_goals (refine Q0 ?_; refine Q1 ?_; refine zm ?_; refine zn ?_; refine zr ?_; refine zf ?_)
         all_goals (refine ⟨_, rfl, ?_, hS.sp⟩; (rw [decide_eq_false]; rintro ⟨e1, e2, e3, _⟩; have := congrArg List.length e3; first | omega | (simp_all; done)); done))
      | (refine zcf ?_ -- Q3J c2
         all_goals refine zsk ?_)
    all_goals (refine Q1 ?_; refine zm ?_; refine zad ?_; refine zm ?_; refine zn ?_; exact ⟨⟨j + 1, zh, zh, (by omega), by rw [hd, Q4 hx1, Q4 hx2, hg]; simp, hS.sp⟩, QF (by omega)⟩)
  · skip
    all_goals (refine zex ?_; refine Q0 ?_; refine Q1 ?_; refine zf0 ?_; (first | refine zf0 ?_ | refine zfd ?_); refine zl hS ?_; refine zf0 ?_; (first | refine zf0 ?_ | refine zfd ?_); refine zl hS ?_)
    all_goals (first | (refine Qn ?_) | (refine Qq ?_) | (refine Qg rfl rfl (fun hc => ?_) (fun hc => ?_)))
    all_goals (refine zm ?_; (first | refine zgn ?_ | (refine zgy ?_; refine zf0 ?_)); (first | refine zgn ?_ | (refine zgy ?_; (first | refine zf0 ?_ | refine zfd ?_))); (first | refine zgn ?_ | (refine zgy ?_; refine zl hS ?_)); (first | refine zgn ?_ | (refine zgy ?_; refine zf0 ?_)); (first | refine zgn ?_ | (refine zgy ?_; (first | refine zf0 ?_ | refine zfd ?_))); (first | refine zgn ?_ | (refine zgy ?_; refine zl hS ?_)))
    all_goals (first | refine zgn ?_ | (refine zgy ?_; (first | (refine Qn ?_) | (refine Qq ?_) | (refine Qg rfl rfl (fun hc => ?_) (fun hc => ?_)))))
    all_goals ((first | (refine zpt ?_) | (refine zpf ?_)); refine zm ?_; (first | refine zgn ?_ | (refine zgy ?_; refine zf0 ?_)); (first | refine zgn ?_ | (refine zgy ?_; (first | refine zf0 ?_ | refine zfd ?_))); (first | refine zgn ?_ | (refine zgy ?_; refine zv hS ?_)); (first | refine zgn ?_ | (refine zgy ?_; refine zf0 ?_)); (first | refine zgn ?_ | (refine zgy ?_; (first | refine zf0 ?_ | refine zfd ?_))); (first | refine zgn ?_ | (refine zgy ?_; refine zv hS ?_)))
    all_goals ((first | (refine zgn ?_) | (refine zgy ?_; refine zR2 (c := Qo5 (x := xy) (y := yy) ⟨_, _, rfl, h1, h2⟩ ⟨_, _, rfl, g1, g2⟩ hS) (h := ?_); rintro v1 w1 ⟨rfl, hS⟩; (cases hdec : decide (xy = yy)); have hg := of_decide_eq_false hdec; rotate_left; have hg := of_decide_eq_true hdec; all_goals skip)))
    all_goals ((first | (refine zpt ?_) | (refine zpf ?_)); refine zm ?_; (first | refine zgn ?_ | (refine zgy ?_; refine zf0 ?_)); (first | refine zgn ?_ | (refine zgy ?_; (first | refine zf0 ?_ | refine zfd ?_))); (first | refine zgn ?_ | (refine zgy ?_; refine zv hS ?_)); (first | refine zgn ?_ | (refine zgy ?_; refine zf0 ?_)); (first | refine zgn ?_ | (refine zgy ?_; (first | refine zf0 ?_ | refine zfd ?_))); (first | refine zgn ?_ | (refine zgy ?_; refine zv hS ?_)))
    all_goals ((first | (refine zgn ?_) | (refine zgy ?_; refine zR2 (c := Qo5 (x := xn) (y := yn) ⟨_, _, rfl, h3, h4⟩ ⟨_, _, rfl, g3, g4⟩ hS) (h := ?_); rintro v1 w1 ⟨rfl, hS⟩; (cases hdec : decide (xn = yn)); have hg := of_decide_eq_false hdec; rotate_left; have hg := of_decide_eq_true hdec; all_goals skip)))
    all_goals ((first | (refine zpt ?_) | (refine zpf ?_)); refine zm ?_; (first | refine zgn ?_ | (refine zgy ?_; refine zf0 ?_)); (first | refine zgn ?_ | (refine zgy ?_; (first | refine zf0 ?_ | refine zfd ?_))); (first | refine zgn ?_ | (refine zgy ?_; refine zl hS ?_)); (first | refine zgn ?_ | (refine zgy ?_; refine zf0 ?_)); (first | refine zgn ?_ | (refine zgy ?_; (first | refine zf0 ?_ | refine zfd ?_))); (first | refine zgn ?_ | (refine zgy ?_; refine zl hS ?_)); (first | (refine zgn ?_) | (refine zgy ?_; refine zR2 (c := QgW h5 g5 hS) (h := ?_); rintro v1 w1 ⟨rfl, hS⟩)); (first | (refine zpt ?_) | (refine zpf ?_)); refine zm ?_; refine zn ?_; refine zr ?_; refine zf ?_; (first | (refine ⟨_, rfl, ?_, hS.sp⟩; (rw [decide_eq_false]; rintro ⟨e1, e2, e3, _⟩; have := congrArg List.length e3; first | omega | (simp_all; done)); done) | (refine ⟨_, rfl, ?_, hS.sp⟩; rw [decide_eq_false]; rintro ⟨e1, e2, e3, _⟩; rw [hd, Q4 hx1, Q4 hx2, List.cons.injEq] at e3; exact hg e3.1; done) | (refine ⟨_, rfl, ?_, hS.sp⟩; have hcc : xc = yc := (by rw [hd, List.drop_of_length_le (by omega), List.drop_of_length_le (by omega)]); simp [*]; done)))
theorem Ql1 {x y : Module} {cx : Cx} {w : World} {L : List Res} {cs ds : List Value} (hx : modR.at cx cs x) (hy : modR.at cx ds y) (hS : St cx w L) : Rets Tryz.prog Q1a [.agg ⟨cs⟩, .agg ⟨ds⟩] w fun u w' => u = .bool (decide (x = y)) ∧ St cx w' L := by
  obtain ⟨vf, rfl, hl⟩ := Q47 hx
  obtain ⟨uf, rfl, hm⟩ := Q47 hy
  obtain ⟨l⟩ := x
  obtain ⟨m⟩ := y
  have hlen := hl.len
  simp only [Module.mk.injEq] at *
  all_goals refine Qig ?_
  all_goals (unfold R_SameModule_lc; refine Q0 ?_; refine Q1 ?_; refine zb hS ?_; intro p2 w1 hS; refine zb hS ?_; intro p3 w1 hS; refine zm ?_; refine zn ?_; refine Q0 ?_; refine Q0 ?_; refine Q1 ?_; refine zf0 ?_; refine zl hS ?_; refine zL ?_; refine zf0 ?_; refine zl hS ?_; refine zL ?_)
  all_goals (first | (refine Q1h ?_) | (refine Q1j ?_) | (refine Qv rfl rfl (fun hc => ?_) (fun hc => ?_)))
  all_goals (refine zn ?_)
  all_goals
    first
    | (refine zct ?_ -- Q1a c0
       all_goals (refine Q0 ?_; refine Q1 ?_; refine zm ?_; refine zn ?_; refine zr ?_; refine zf ?_)
       all_goals (refine ⟨_, rfl, ?_, hS.sp⟩; rw [decide_eq_false]; exact fun e => absurd (congrArg List.length e) (by omega); done))
    | (refine zcf ?_ -- Q1a c0
       all_goals refine zsk ?_)
  all_goals (refine Q0 ?_; refine Q0 ?_; refine Q1 ?_; refine zm ?_; refine zn ?_; refine Qa ?_)
  refine zoL hS [2, 3] (fun A LL ρ' w' => ∃ (j : Nat), Has ρ' A ∧ Has ρ' [(5, .int .i64 j)] ∧ (j ≤ l.length) ∧ (l.length = m.length) ∧ (l = m ↔ l.drop j = m.drop j) ∧ St cx w' (LL)) (fun ρ' _ => (l.length - iv (ρ' 5)).toNat) ?_ ?_
  · exact ⟨0, zh, zh, (by omega), (by omega), by simp, hS.sp⟩
  rintro ρ w1 ⟨j, hA, hρ, hj, hlm, hd, hS⟩; obtain ⟨ρ, rfl⟩ := env2 hA hρ
  unfold Q7W
  all_goals (refine Q0 ?_; refine Q0 ?_; refine Q1 ?_; refine zm ?_; refine zf0 ?_; refine zl hS ?_; refine zL ?_; refine Q1i rfl rfl ?_; refine zn ?_)
  refine QM rfl (fun hc => ?_) (fun hc => ?_)
  · skip
    all_goals (refine zsk ?_; refine Q0 ?_; refine Qa ?_; refine Q0 ?_)
    refine s_split 10 11 (by kernel_rfl) ?_ ?_
    · skip
      all_goals (refine zC [(0, none), (1, none), (2, none), (3, none), (4, none), (5, none), (6, none), (7, none), (8, none), (9, none), (10, some (some [1, 4, 6, 9])), (11, some (some [1, 4, 6, 9])), (12, some (some [6, 9])), (13, some none)] ?_; have hS := hS.drew; refine s_cq ?_; refine zf0 ?_; refine zt ?_; refine s_cq ?_; refine zl hS ?_; refine zt ?_; refine s_cq ?_; refine zm ?_; refine zt ?_; refine s_cq ?_; refine zi ?_; intro b1 o1 cs1 x1 hat1 hx1 he1; obtain ⟨vp1, vr1, vb1, rfl, hp1, hr1, hb1⟩ := Q1L he1; refine zt ?_; refine s_cq ?_; (first | (refine zv hS ?_) | (refine zvk hS ?_)); refine zt ?_; refine s_cq ?_; refine zf0 ?_; refine zt ?_; refine s_cq ?_; refine zl hS ?_; refine zt ?_; refine s_cq ?_; refine zm ?_; refine zt ?_; refine s_cq ?_; refine zi ?_; intro b2 o2 cs2 x2 hat2 hx2 he2; obtain ⟨vp2, vr2, vb2, rfl, hp2, hr2, hb2⟩ := Q1L he2; refine zt ?_; refine s_cq ?_; (first | (refine zv hS ?_) | (refine zvk hS ?_)); refine zt ?_; refine Q5D ?_; refine Q9 hS ?_; intro p6 w1 hS; refine zt ?_; refine zy ?_; refine Q5D ?_; refine Q9 hS ?_; intro p7 w1 hS; refine zt ?_)
      all_goals (refine zy ?_; refine Q5D ?_; refine zsn hS ?_; intro w1 hS; have hS := hS.ns; refine zt ?_; refine zy ?_; refine s_cf ?_; refine zsn hS ?_; intro w1 hS; have hS := hS.ns; refine zt ?_; refine zcn ?_; refine Q0 ?_; refine Q0 ?_; refine Q1 ?_; refine zf0 ?_; refine zl hS ?_; refine zf0 ?_; refine zl hS ?_)
      all_goals (first | (refine Q1h ?_) | (refine Q1j ?_) | (refine Qv rfl rfl (fun hc => ?_) (fun hc => ?_)))
      all_goals (refine zm ?_; (first | refine zgn ?_ | (refine zgy ?_; refine zf0 ?_)); (first | refine zgn ?_ | (refine zgy ?_; refine zl hS ?_)); (first | refine zgn ?_ | (refine zgy ?_; refine zf0 ?_)); (first | refine zgn ?_ | (refine zgy ?_; refine zl hS ?_)))
      all_goals ((first | (refine zgn ?_) | (refine zgy ?_; refine zR2 (c := Q82 (l := x1.params) (m := x2.params) hp1 hp2 hS) (h := ?_); rintro v1 w1 ⟨rfl, hS⟩; (cases hdec : decide (x1.params = x2.params)); have hg := of_decide_eq_false hdec; rotate_left; have hg := of_decide_eq_true hdec; all_goals skip)))
      all_goals ((first | refine zgn ?_ | (refine zgy ?_; refine znt ?_)); (first | (refine zpt ?_) | (refine zpf ?_)); refine zm ?_; (first | refine zgn ?_ | (refine zgy ?_; refine zf0 ?_)); (first | refine zgn ?_ | (refine zgy ?_; refine zl hS ?_)); (first | refine zgn ?_ | (refine zgy ?_; refine zf0 ?_)); (first | refine zgn ?_ | (refine zgy ?_; refine zl hS ?_)))
      all_goals ((first | (refine zgn ?_) | (refine zgy ?_; refine zR2 (c := Q82 (l := x1.results) (m := x2.results) hr1 hr2 hS) (h := ?_); rintro v1 w1 ⟨rfl, hS⟩; (cases hdec : decide (x1.results = x2.results)); have hg := of_decide_eq_false hdec; rotate_left; have hg := of_decide_eq_true hdec; all_goals skip)))
      all_goals ((first | refine zgn ?_ | (refine zgy ?_; refine znt ?_)); (first | (refine zpt ?_) | (refine zpf ?_)); refine zm ?_; (first | refine zgn ?_ | (refine zgy ?_; refine zf0 ?_)); (first | refine zgn ?_ | (refine zgy ?_; refine zl hS ?_)); (first | refine zgn ?_ | (refine zgy ?_; refine zL ?_)); (first | refine zgn ?_ | (refine zgy ?_; refine zf0 ?_)); (first | refine zgn ?_ | (refine zgy ?_; refine zl hS ?_)); (first | refine zgn ?_ | (refine zgy ?_; refine zL ?_)))
      all_goals (first | refine zgn ?_ | (refine zgy ?_; (first | (refine Q1h ?_) | (refine Q1j ?_) | (refine Qv rfl rfl (fun hc => ?_) (fun hc => ?_)))))
      all_goals ((first | (refine zpt ?_) | (refine zpf ?_)); refine zn ?_)
      all_goals
        first
        | (refine zct ?_ -- Q1a c2
           all_goals (refine Q0 ?_; refine Q1 ?_; refine zm ?_; refine zn ?_; refine zr ?_; refine zf ?_)
           all_goals (first | (refine ⟨_, rfl, ?_, hS.sp⟩; rw [decide_eq_false]; exact fun e => absurd (congrArg List.length e) (by omega); done) | (refine ⟨_, rfl, ?_, hS.sp⟩; (rw [decide_eq_false]; rw [hd, Q4 hx1, Q4 hx2, List.cons.injEq]; rintro ⟨rfl, _⟩; first | (simp_all; done) | (simp at *; omega)); done)))
        | (refine zcf ?_ -- Q1a c2
           all_goals refine zsk ?_)
      all_goals (refine Q0 ?_; have hlb := hb1.len; refine Q1 ?_; refine zm ?_; refine zn ?_; refine Qa ?_)
      refine zoL hS [2, 3, 5, 6, 7] (fun A LL ρ' w' => ∃ (i : Nat), Has ρ' A ∧ Has ρ' [(8, .int .i64 i)] ∧ (i ≤ x1.blocks.length) ∧ (x1.blocks.length = x2.blocks.length) ∧ (x1.regs = x2.regs) ∧ (x1.params = x2.params) ∧ (x1.results = x2.results) ∧ (x1.blocks = x2.blocks ↔ x1.blocks.drop i = x2.blocks.drop i) ∧ St cx w' (LL)) (fun ρ' _ => (x1.blocks.length - iv (ρ' 8)).toNat) ?_ ?_
      · exact ⟨0, zh, zh, (by omega), (by omega), (by omega), by assumption, by assumption, by simp, hS.sp⟩
      rintro ρ w1 ⟨i, hA, hρ, hi, hlb2, hre, hpe, hrr, hd2, hS⟩; obtain ⟨ρ, rfl⟩ := env2 hA hρ
      unfold Q4p
      all_goals (refine Q0 ?_; refine Q0 ?_; refine Q1 ?_; refine zm ?_; refine zf0 ?_; refine zl hS ?_; refine zL ?_; refine Q1i rfl rfl ?_; refine zn ?_)
      refine QM rfl (fun hc => ?_) (fun hc => ?_)
      · skip
        all_goals (refine zsk ?_; refine Q0 ?_; refine Qa ?_; refine Q0 ?_; refine zD [(0, none), (1, none), (2, none), (3, none), (4, none), (5, none), (6, none), (7, none), (8, none), (9, none), (10, some none), (11, some none)] ?_; have hS := hS.drew; refine zf0 ?_; refine zl hS ?_; refine zm ?_; refine zi ?_; intro b3 o3 cs3 x3 hat3 hx3 he3; obtain ⟨vp3, vc3, ve31, ve32, ve33, ve34, ve35, rfl, hp3, hc3, he31, he32, he33, he34, he35⟩ := Q29 he3; (first | (refine zv hS ?_) | (refine zvk hS ?_)); refine zf0 ?_; refine zl hS ?_; refine zm ?_; refine zi ?_; intro b4 o4 cs4 x4 hat4 hx4 he4; obtain ⟨vp4, vc4, ve41, ve42, ve43, ve44, ve45, rfl, hp4, hc4, he41, he42, he43, he44, he45⟩ := Q29 he4; (first | (refine zv hS ?_) | (refine zvk hS ?_)))
        all_goals (refine zR2 (c := Ql2 he3 he4 hS) (h := ?_); rintro v1 w1 ⟨rfl, hS⟩; (cases hdec : decide (x3 = x4)); have hg := of_decide_eq_false hdec; rotate_left; have hg := of_decide_eq_true hdec; all_goals skip)
        all_goals (refine znt ?_; refine zn ?_)
        all_goals
          first
          | (refine zct ?_ -- Q1a c4
             all_goals (refine Q0 ?_; refine Q1 ?_; refine zm ?_; refine zn ?_; refine zr ?_; refine zf ?_)
             all_goals (first | (refine ⟨_, rfl, ?_, hS.sp⟩; rw [decide_eq_false]; exact fun e => absurd (congrArg List.length e) (by omega); done) | (refine ⟨_, rfl, ?_, hS.sp⟩; (rw [decide_eq_false]; rw [hd, Q4 hx1, Q4 hx2, List.cons.injEq]; rintro ⟨rfl, _⟩; first | (simp_all; done) | (simp at *; omega)); done)))
          | (refine zcf ?_ -- Q1a c4
             all_goals refine zsk ?_)
        all_goals (refine Q1 ?_; refine zm ?_; refine zad ?_; refine zm ?_; refine zn ?_; exact ⟨⟨i + 1, zh, zh, (by omega), (by omega), (by omega), by assumption, by assumption, by rw [hd2, Q4 hx3, Q4 hx4, hg]; simp, hS.sp⟩, QF (by omega)⟩)
      · skip
        all_goals (refine zex ?_; refine Q1 ?_; refine zm ?_; refine zad ?_; refine zm ?_; refine zn ?_; exact ⟨⟨j + 1, zh, zh, (by omega), (by omega), by rw [hd, Q4 hx1, Q4 hx2, Fun.eq_of hre hpe hrr (by rw [hd2, List.drop_of_length_le (by omega), List.drop_of_length_le (by omega)])]; simp, hS.sp⟩, QF (by omega)⟩)
    · skip
      all_goals (refine zC [(0, none), (1, none), (2, none), (3, none), (4, none), (5, none), (6, none), (7, none), (8, none), (9, none), (11, some (some [1, 4, 6, 9])), (10, some (some [1, 4, 6, 9])), (12, some (some [6, 9])), (13, some none)] ?_; have hS := hS.drew; refine s_cq ?_; refine zf0 ?_; refine zt ?_; refine s_cq ?_; refine zl hS ?_; refine zt ?_; refine s_cq ?_; refine zm ?_; refine zt ?_; refine s_cq ?_; refine zi ?_; intro b1 o1 cs1 x1 hat1 hx1 he1; obtain ⟨vp1, vr1, vb1, rfl, hp1, hr1, hb1⟩ := Q1L he1; refine zt ?_; refine s_cq ?_; (first | (refine zv hS ?_) | (refine zvk hS ?_)); refine zt ?_; refine s_cq ?_; refine zf0 ?_; refine zt ?_; refine s_cq ?_; refine zl hS ?_; refine zt ?_; refine s_cq ?_; refine zm ?_; refine zt ?_; refine s_cq ?_; refine zi ?_; intro b2 o2 cs2 x2 hat2 hx2 he2; obtain ⟨vp2, vr2, vb2, rfl, hp2, hr2, hb2⟩ := Q1L he2; refine zt ?_; refine s_cq ?_; (first | (refine zv hS ?_) | (refine zvk hS ?_)); refine zt ?_; refine Q5D ?_; refine Q9 hS ?_; intro p7 w1 hS; refine zt ?_; refine zy ?_; refine Q5D ?_; refine Q9 hS ?_; intro p6 w1 hS; refine zt ?_)
      all_goals (refine zy ?_; refine Q5D ?_; refine zsn hS ?_; intro w1 hS; have hS := hS.ns; refine zt ?_; refine zy ?_; refine s_cf ?_; refine zsn hS ?_; intro w1 hS; have hS := hS.ns; refine zt ?_; refine zcn ?_; refine Q0 ?_; refine Q0 ?_; refine Q1 ?_; refine zf0 ?_; refine zl hS ?_; refine zf0 ?_; refine zl hS ?_)
      all_goals (first | (refine Q1h ?_) | (refine Q1j ?_) | (refine Qv rfl rfl (fun hc => ?_) (fun hc => ?_)))
      all_goals (refine zm ?_; (first | refine zgn ?_ | (refine zgy ?_; refine zf0 ?_)); (first | refine zgn ?_ | (refine zgy ?_; refine zl hS ?_)); (first | refine zgn ?_ | (refine zgy ?_; refine zf0 ?_)); (first | refine zgn ?_ | (refine zgy ?_; refine zl hS ?_)))
      all_goals ((first | (refine zgn ?_) | (refine zgy ?_; refine zR2 (c := Q82 (l := x1.params) (m := x2.params) hp1 hp2 hS) (h := ?_); rintro v1 w1 ⟨rfl, hS⟩; (cases hdec : decide (x1.params = x2.params)); have hg := of_decide_eq_false hdec; rotate_left; have hg := of_decide_eq_true hdec; all_goals skip)))
      all_goals ((first | refine zgn ?_ | (refine zgy ?_; refine znt ?_)); (first | (refine zpt ?_) | (refine zpf ?_)); refine zm ?_; (first | refine zgn ?_ | (refine zgy ?_; refine zf0 ?_)); (first | refine zgn ?_ | (refine zgy ?_; refine zl hS ?_)); (first | refine zgn ?_ | (refine zgy ?_; refine zf0 ?_)); (first | refine zgn ?_ | (refine zgy ?_; refine zl hS ?_)))
      all_goals ((first | (refine zgn ?_) | (refine zgy ?_; refine zR2 (c := Q82 (l := x1.results) (m := x2.results) hr1 hr2 hS) (h := ?_); rintro v1 w1 ⟨rfl, hS⟩; (cases hdec : decide (x1.results = x2.results)); have hg := of_decide_eq_false hdec; rotate_left; have hg := of_decide_eq_true hdec; all_goals skip)))
      all_goals ((first | refine zgn ?_ | (refine zgy ?_; refine znt ?_)); (first | (refine zpt ?_) | (refine zpf ?_)); refine zm ?_; (first | refine zgn ?_ | (refine zgy ?_; refine zf0 ?_)); (first | refine zgn ?_ | (refine zgy ?_; refine zl hS ?_)); (first | refine zgn ?_ | (refine zgy ?_; refine zL ?_)); (first | refine zgn ?_ | (refine zgy ?_; refine zf0 ?_)); (first | refine zgn ?_ | (refine zgy ?_; refine zl hS ?_)); (first | refine zgn ?_ | (refine zgy ?_; refine zL ?_)))
      all_goals (first | refine zgn ?_ | (refine zgy ?_; (first | (refine Q1h ?_) | (refine Q1j ?_) | (refine Qv rfl rfl (fun hc => ?_) (fun hc => ?_)))))
      all_goals ((first | (refine zpt ?_) | (refine zpf ?_)); refine zn ?_)
      all_goals
        first
        | (refine zct ?_ -- Q1a c2
           all_goals (refine Q0 ?_; refine Q1 ?_; refine zm ?_; refine zn ?_; refine zr ?_; refine zf ?_)
           all_goals (first | (refine ⟨_, rfl, ?_, hS.sp⟩; rw [decide_eq_false]; exact fun e => absurd (congrArg List.length e) (by omega); done) | (refine ⟨_, rfl, ?_, hS.sp⟩; (rw [decide_eq_false]; rw [hd, Q4 hx1, Q4 hx2, List.cons.injEq]; rintro ⟨rfl, _⟩; first | (simp_all; done) | (simp at *; omega)); done)))
        | (refine zcf ?_ -- Q1a c2
           all_goals refine zsk ?_)
      all_goals (refine Q0 ?_; have hlb := hb1.len; refine Q1 ?_; refine zm ?_; refine zn ?_; refine Qa ?_)
      refine zoL hS [2, 3, 5, 6, 7] (fun A LL ρ' w' => ∃ (i : Nat), Has ρ' A ∧ Has ρ' [(8, .int .i64 i)] ∧ (i ≤ x1.blocks.length) ∧ (x1.blocks.length = x2.blocks.length) ∧ (x1.regs = x2.regs) ∧ (x1.params = x2.params) ∧ (x1.results = x2.results) ∧ (x1.blocks = x2.blocks ↔ x1.blocks.drop i = x2.blocks.drop i) ∧ St cx w' (LL)) (fun ρ' _ => (x1.blocks.length - iv (ρ' 8)).toNat) ?_ ?_
      · exact ⟨0, zh, zh, (by omega), (by omega), (by omega), by assumption, by assumption, by simp, hS.sp⟩
      rintro ρ w1 ⟨i, hA, hρ, hi, hlb2, hre, hpe, hrr, hd2, hS⟩; obtain ⟨ρ, rfl⟩ := env2 hA hρ
      unfold Q4p
      all_goals (refine Q0 ?_; refine Q0 ?_; refine Q1 ?_; refine zm ?_; refine zf0 ?_; refine zl hS ?_; refine zL ?_; refine Q1i rfl rfl ?_; refine zn ?_)
      refine QM rfl (fun hc => ?_) (fun hc => ?_)
      · skip
        all_goals (refine zsk ?_; refine Q0 ?_; refine Qa ?_; refine Q0 ?_; refine zD [(0, none), (1, none), (2, none), (3, none), (4, none), (5, none), (6, none), (7, none), (8, none), (9, none), (10, some none), (11, some none)] ?_; have hS := hS.drew; refine zf0 ?_; refine zl hS ?_; refine zm ?_; refine zi ?_; intro b3 o3 cs3 x3 hat3 hx3 he3; obtain ⟨vp3, vc3, ve31, ve32, ve33, ve34, ve35, rfl, hp3, hc3, he31, he32, he33, he34, he35⟩ := Q29 he3; (first | (refine zv hS ?_) | (refine zvk hS ?_)); refine zf0 ?_; refine zl hS ?_; refine zm ?_; refine zi ?_; intro b4 o4 cs4 x4 hat4 hx4 he4; obtain ⟨vp4, vc4, ve41, ve42, ve43, ve44, ve45, rfl, hp4, hc4, he41, he42, he43, he44, he45⟩ := Q29 he4; (first | (refine zv hS ?_) | (refine zvk hS ?_)))
        all_goals (refine zR2 (c := Ql2 he3 he4 hS) (h := ?_); rintro v1 w1 ⟨rfl, hS⟩; (cases hdec : decide (x3 = x4)); have hg := of_decide_eq_false hdec; rotate_left; have hg := of_decide_eq_true hdec; all_goals skip)
        all_goals (refine znt ?_; refine zn ?_)
        all_goals
          first
          | (refine zct ?_ -- Q1a c4
             all_goals (refine Q0 ?_; refine Q1 ?_; refine zm ?_; refine zn ?_; refine zr ?_; refine zf ?_)
             all_goals (first | (refine ⟨_, rfl, ?_, hS.sp⟩; rw [decide_eq_false]; exact fun e => absurd (congrArg List.length e) (by omega); done) | (refine ⟨_, rfl, ?_, hS.sp⟩; (rw [decide_eq_false]; rw [hd, Q4 hx1, Q4 hx2, List.cons.injEq]; rintro ⟨rfl, _⟩; first | (simp_all; done) | (simp at *; omega)); done)))
          | (refine zcf ?_ -- Q1a c4
             all_goals refine zsk ?_)
        all_goals (refine Q1 ?_; refine zm ?_; refine zad ?_; refine zm ?_; refine zn ?_; exact ⟨⟨i + 1, zh, zh, (by omega), (by omega), (by omega), by assumption, by assumption, by rw [hd2, Q4 hx3, Q4 hx4, hg]; simp, hS.sp⟩, QF (by omega)⟩)
      · skip
        all_goals (refine zex ?_; refine Q1 ?_; refine zm ?_; refine zad ?_; refine zm ?_; refine zn ?_; exact ⟨⟨j + 1, zh, zh, (by omega), (by omega), by rw [hd, Q4 hx1, Q4 hx2, Fun.eq_of hre hpe hrr (by rw [hd2, List.drop_of_length_le (by omega), List.drop_of_length_le (by omega)])]; simp, hS.sp⟩, QF (by omega)⟩)
  · skip
    all_goals (refine zex ?_; refine Q0 ?_; refine Q1 ?_; refine zm ?_; refine zn ?_; refine zr ?_; refine zf ?_)
    all_goals (first | (refine ⟨_, rfl, ?_, hS.sp⟩; rw [decide_eq_false]; exact fun e => absurd (congrArg List.length e) (by omega); done) | (refine ⟨_, rfl, ?_, hS.sp⟩; (rw [decide_eq_false]; rw [hd, Q4 hx1, Q4 hx2, List.cons.injEq]; rintro ⟨rfl, _⟩; first | (simp_all; done) | (simp at *; omega)); done) | (refine ⟨_, rfl, ?_, hS.sp⟩; rw [decide_eq_false]; rw [hd, Q4 hx1, Q4 hx2, List.cons.injEq]; rintro ⟨rfl, _⟩; rw [hx3] at hx4; cases hx4; exact hg rfl; done) | (refine ⟨_, rfl, ?_, hS.sp⟩; rw [decide_eq_true]; rw [hd, List.drop_of_length_le (by omega), List.drop_of_length_le (by omega)]; done))
end Go.Proofs.YtjecflbbcnocdaaGreatDoor
namespace Go.Proofs.YtjecflbbcnocdaaGreatDoor
open Go.Lir
set_option maxHeartbeats 1000000
attribute [local irreducible] LC.wp Q2 QA QB retQ Q1e LO.wp Qj Calls
set_option linter.unusedSimpArgs false
set_option linter.unusedVariables false
attribute [local irreducible] Lib.itoa Lib.join
end Go.Proofs.YtjecflbbcnocdaaGreatDoor
namespace Go.Proofs.YtjecflbbcnocdaaGreatDoor
open Go.Lir
set_option maxHeartbeats 1000000
attribute [local irreducible] LC.wp Q2 QA QB retQ Q1e LO.wp Qj Calls
set_option linter.unusedSimpArgs false
set_option linter.unusedVariables false
variable {cx : Cx} {w : World} {L : List Res}
end Go.Proofs.YtjecflbbcnocdaaGreatDoor
namespace Go.Proofs.YtjecflbbcnocdaaGreatDoor
open Go.Lir
set_option maxHeartbeats 1000000
attribute [local irreducible] LC.wp Q2 QA QB retQ Q1e LO.wp Qj Calls
set_option linter.unusedSimpArgs false
set_option linter.unusedVariables false
attribute [local irreducible] Lib.itoa Lib.join
variable {cx : Cx} {w : World} {L : List Res}
end Go.Proofs.YtjecflbbcnocdaaGreatDoor
namespace Go.Proofs.YtjecflbbcnocdaaGreatDoor
open Go.Lir
set_option maxHeartbeats 1000000
attribute [local irreducible] LC.wp Q2 QA QB retQ Q1e LO.wp Qj Calls
set_option linter.unusedSimpArgs false
set_option linter.unusedVariables false
attribute [local irreducible] Lib.itoa Lib.join Qur
variable {cx : Cx} {w : World} {L : List Res}
end Go.Proofs.YtjecflbbcnocdaaGreatDoor
namespace Go.Proofs.YtjecflbbcnocdaaGreatDoor
open Go.Lir
set_option maxHeartbeats 1000000
attribute [local irreducible] LC.wp Q2 QA QB retQ Q1e LO.wp Qj Calls
set_option linter.unusedSimpArgs false
set_option linter.unusedVariables false
attribute [local irreducible] Lib.itoa Lib.join Qur wordN
variable {cx : Cx} {w : World} {L : List Res}
abbrev toBA (t : List UInt8) : ByteArray := ⟨t.toArray⟩
theorem strs (l : List (List UInt8)) : strR.ls cx (l.map fun t => [strV t]) (l.map toBA) :=
  ⟨by simp, fun m x hx => by
    rw [List.getElem?_map, Option.map_eq_some_iff] at hx
    obtain ⟨t, h1, rfl⟩ := hx
    exact ⟨[strV t], by rw [List.getElem?_map, h1]; rfl, rfl⟩⟩
section
variable {x : Ins}
end
end Go.Proofs.YtjecflbbcnocdaaGreatDoor
namespace Go.Proofs.YtjecflbbcnocdaaGreatDoor
open Go.Lir
set_option maxHeartbeats 1000000
attribute [local irreducible] LC.wp Q2 QA QB retQ Q1e LO.wp Qj Calls
set_option linter.unusedSimpArgs false
set_option linter.unusedVariables false
attribute [local irreducible] Lib.itoa Lib.join Qur wordN Q4n
variable {cx : Cx} {w : World} {L : List Res}
end Go.Proofs.YtjecflbbcnocdaaGreatDoor
namespace Go.Lir
theorem St.lent {c : Cx} {w : World} {L : List Res} {r : Res} (h : St c w (r :: L)) : ∃ c' F, c.Le c' ∧ St c' w L ∧ r.A c'.H0 F ∧ (∀ b, F b → c'.K b) ∧ ∀ {w' : World} {L' : List Res}, St c' w' L' → St c w' (r :: L') := by
  obtain ⟨ok, F, ⟨F1, F2, h1, h2, h3, h4⟩, hd⟩ := h
  have hle : c.Le ⟨c.base, fun b => c.K b ∨ F1 b, w.heap⟩ := ⟨rfl, fun b hb => ⟨.inl hb, ok.same b hb⟩, ok.size, ok.lt⟩
  refine ⟨⟨c.base, fun b => c.K b ∨ F1 b, w.heap⟩, F1, hle, ⟨⟨ok.os, ok.tape, ok.output, Nat.le_refl _, fun b hb => hb.elim (fun hb => Nat.lt_of_lt_of_le (ok.lt b hb) ok.size) (r.lt h1 b), fun b _ => rfl⟩, F2, h2, ?_⟩, h1, fun b hb => .inr hb, ?_⟩
  · rintro b hb (hk | hk)
    · exact hd b ((h4 b).2 (.inr hb)) hk
    · exact h3 b hk hb
  · intro w' L' hS
    have hw := hS.weak hle
    obtain ⟨ok', F', hF', hd'⟩ := hS
    refine ⟨hw.1, fun b => F1 b ∨ F' b, ⟨F1, F', r.loc h1 fun b hb _ => ok'.same b (.inr hb), hF', fun b hb hb' => hd' b hb' (.inr hb), fun b => Iff.rfl⟩, ?_⟩
    rintro b (hb | hb) hk
    · exact hd b ((h4 b).2 (.inl hb)) hk
    · exact hd' b hb (.inl hk)
end Go.Lir
namespace Go.Proofs.YtjecflbbcnocdaaGreatDoor
open Go.Lir
set_option maxHeartbeats 1000000
attribute [local irreducible] LC.wp Q2 QA QB retQ Q1e LO.wp Qj Calls
set_option linter.unusedSimpArgs false
set_option linter.unusedVariables false
variable {cx : Cx} {w : World} {L : List Res}
end Go.Proofs.YtjecflbbcnocdaaGreatDoor
namespace Go.Proofs.YtjecflbbcnocdaaGreatDoor
open Go.Lir
set_option maxHeartbeats 1000000
attribute [local irreducible] LC.wp Q2 QA QB retQ Q1e LO.wp Qj Calls
set_option linter.unusedSimpArgs false
set_option linter.unusedVariables false
attribute [local irreducible] Lib.itoa Lib.join Q9G Q4n Ins.txt Tail.txt To.txt
variable {cx : Cx} {w : World} {L : List Res}
def Fun.head (f : Fun) : List UInt8 := Qpx ++ [32] ++ Lib.itoa f.regs ++ [32] ++ Q9G f.params ++ [32] ++ QaU ++ [32] ++ Q9G f.results ++ [32, 123, 10]
def Block.head (b : Block) : List UInt8 := Q2d ++ [32] ++ Lib.itoa b.regs ++ [32] ++ Q9G b.params ++ [32, 123, 10]
end Go.Proofs.YtjecflbbcnocdaaGreatDoor
namespace Go.Proofs.YtjecflbbcnocdaaGreatDoor
open Go.Lir
set_option maxHeartbeats 1000000
attribute [local irreducible] LC.wp Q2 QA QB retQ Q1e LO.wp Qj Calls
set_option linter.unusedSimpArgs false
set_option linter.unusedVariables false
attribute [local irreducible] Lib.itoa Lib.join Q9G Q4n Ins.txt Tail.txt To.txt
variable {cx : Cx} {w : World} {L : List Res}
end Go.Proofs.YtjecflbbcnocdaaGreatDoor
namespace Go.Lir
section
variable {P : Program} {l : List GO} {Q : QT} {ρ : Env} {w : World}
/-- A field that holds an integer. -/
def IntF (P : Program) (f : Field) (i : Nat) : Prop := f.name ≠ "_" ∧ (∃ k, P.underlying f.type = some (.int k)) ∧ f.offset = i ∧ Q4h P f.type = true
theorem Q75 (k : Nat) {T : TypeId} {q : IntKind} {a b : Int} {kk : IntKind} {w0 : World} (ht : P.underlying T = some (.int q)) : (Op.equalIn (k + 1) T (.int kk a) (.int kk b)).run P w0 = .ok (a == b) w0 := by
  simp only [Op.equalIn, Sem.run_bind, Qd P T _ w0 ht, Result.andThen_ok]
  simp [Sem.run_pure]
def intFB (P : Program) (f : Field) (i : Nat) : Bool := f.name != "_" && (match P.underlying f.type with | some (.int _) => true | _ => false) && f.offset == i && Q4h P f.type
theorem Qus {f : Field} {i : Nat} (h : intFB P f i = true) : IntF P f i := by
  unfold intFB at h
  simp only [Bool.and_eq_true, bne_iff_ne, ne_eq, beq_iff_eq] at h
  obtain ⟨⟨⟨h1, h2⟩, h3⟩, h4⟩ := h
  refine ⟨h1, ?_, h3, h4⟩
  split at h2
  · rename_i k hk; exact ⟨k, hk⟩
  · cases h2
end
end Go.Lir
namespace Go.Lir
section
variable {P : Program} {l : List GO} {Q : QT} {ρ : Env} {w : World}
theorem run_eq2 (k : Nat) {T : TypeId} {f0 f1 : Field} {a0 a1 b0 b1 : Int} {w0 : World} (ht : P.underlying T = some (.struct #[f0, f1])) (hh : P.stoodInHeld T = false)
    (h0 : IntF P f0 0) (h1 : IntF P f1 1) :
    (Op.equalIn (k + 2) T (.agg ⟨[.int .i64 a0, .int .i64 a1]⟩) (.agg ⟨[.int .i64 b0, .int .i64 b1]⟩)).run P w0 = .ok (a0 == b0 && a1 == b1) w0 := by
  obtain ⟨n0, ⟨q0, u0⟩, o0, s0⟩ := h0
  obtain ⟨n1, ⟨q1, u1⟩, o1, s1⟩ := h1
  have hp : ∀ (T : TypeId) (cs : Array Value) (off : Nat) (v : Value) (w : World), Q4h P T = true → cs[off]? = some v → (part T cs off).run P w = .ok v w := fun T cs off v w h hv => QlV P T cs off v w h hv
  unfold Op.equalIn
  simp only [Sem.run_bind, Qd P T _ w0 ht, Result.andThen_ok]
  simp [hh, n0, n1, o0, o1, Q75 _ u0, Q75 _ u1, hp _ _ _ _ _ s0, hp _ _ _ _ _ s1]
  by_cases e0 : a0 = b0 <;> by_cases e1 : a1 = b1 <;> simp [e0, e1]
def Int2 (P : Program) (T : TypeId) : Prop := ∃ f0 f1 : Field, P.underlying T = some (.struct #[f0, f1]) ∧ P.stoodInHeld T = false ∧ P.eqGuardType P.depth T = false ∧ IntF P f0 0 ∧ IntF P f1 1
def int2B (P : Program) (T : TypeId) : Bool := match P.underlying T with
  | some (.struct fs) => match fs.toList with
    | [f0, f1] => !P.stoodInHeld T && !P.eqGuardType P.depth T && intFB P f0 0 && intFB P f1 1
    | _ => false
  | _ => false
theorem int2_of {T : TypeId} (h : int2B P T = true) : Int2 P T := by
  unfold int2B at h
  split at h
  · rename_i fs hu
    split at h
    · rename_i f0 f1 hf
      simp only [Bool.and_eq_true, Bool.not_eq_true'] at h
      obtain ⟨⟨⟨h1, h2⟩, h3⟩, h4⟩ := h
      have : fs = #[f0, f1] := by apply Array.ext'; exact hf
      subst this
      exact ⟨f0, f1, hu, h1, h2, Qus h3, Qus h4⟩
    · cases h
  · cases h
theorem pair_dec (a0 a1 b0 b1 : Int) : (a0 == b0 && a1 == b1) = decide ((a0, a1) = (b0, b1)) := by
  rw [Bool.eq_iff_iff]; simp
theorem s_eq2 {d : Nat} {T : TypeId} {x y : Operand} {a b : Int × Int} (hT : Int2 P T) (hx : ρ.ev x = .agg ⟨[.int .i64 a.1, .int .i64 a.2]⟩) (hy : ρ.ev y = .agg ⟨[.int .i64 b.1, .int .i64 b.2]⟩)
    (h : Q2 P l Q (upd ρ d (.bool (decide (a = b)))) w) : Q2 P (⟨none, .bin d .eql T x y⟩ :: l) Q ρ w := by
  obtain ⟨f0, f1, ht, hh, hg, h0, h1⟩ := hT
  exact ⟨.bool (decide (a = b)), fun w0 => by rw [hx, hy]; simp only [Sem.run_bind, run_eqGuard_agg w0 .eql T x y _ _ hg, Result.andThen_ok, run_eql_struct, run_eq2 9998 ht hh h0 h1, pair_dec], h⟩
theorem QtH {d : Nat} {T : TypeId} {x y : Operand} {a : Int × Int} (hT : Int2 P T) (hx : ρ.ev x = .agg ⟨[.int .i64 a.1, .int .i64 a.2]⟩) (hy : ρ.ev y = .agg ⟨[.int .i64 a.1, .int .i64 a.2]⟩)
    (h : Q2 P l Q (upd ρ d (.bool true)) w) : Q2 P (⟨none, .bin d .eql T x y⟩ :: l) Q ρ w := s_eq2 hT hx hy (by rw [decide_eq_true rfl]; exact h)
end
end Go.Lir
namespace Go.Proofs.YtjecflbbcnocdaaGreatDoor
open Go.Lir
set_option maxHeartbeats 1000000
attribute [local irreducible] LC.wp Q2 QA QB retQ Q1e LO.wp Qj Calls
set_option linter.unusedSimpArgs false
set_option linter.unusedVariables false
end Go.Proofs.YtjecflbbcnocdaaGreatDoor
namespace Go.Proofs.YtjecflbbcnocdaaGreatDoor
open Go.Lir
set_option maxHeartbeats 1000000
attribute [local irreducible] LC.wp Q2 QA QB retQ Q1e LO.wp Qj Calls
set_option linter.unusedSimpArgs false
set_option linter.unusedVariables false
variable {cx : Cx} {w : World} {L : List Res} {i : Nat}
theorem Qs4 : Int2 Tryz.prog 29 := int2_of (by kernel_rfl)
end Go.Proofs.YtjecflbbcnocdaaGreatDoor
namespace Go.Lir
def begunP : List UInt8 := [102, 117, 110, 99, 32, 48, 32, 40, 41, 32, 45, 62, 32, 40, 105, 110, 116, 41, 32, 123, 32, 98, 108, 111, 99, 107, 32, 48, 32, 40, 41, 32, 123, 32, 110, 117, 109, 32, 53, 59, 32, 114, 101, 116, 32, 40, 48, 41, 59, 32, 125, 32, 125]
def QuR : Block := ⟨0, [], [⟨1, 0, 0, 0, 0, 5, [], []⟩], ⟨3, 0, ⟨0, [], []⟩, ⟨0, [], []⟩, [0]⟩⟩
def QuQ : Fun := ⟨0, [], [.mk 1 0 []], [QuR]⟩
def begunM : Module := ⟨[QuQ]⟩
theorem Qht : Q3G begunP = .ok begunM := by kernel_rfl
end Go.Lir
namespace Go.Proofs.YtjecflbbcnocdaaGreatDoor
open Go.Lir
set_option maxHeartbeats 1000000
attribute [local irreducible] LC.wp Q2 QA QB retQ Q1e LO.wp Qj Calls
set_option linter.unusedSimpArgs false
set_option linter.unusedVariables false
attribute [local irreducible] Q3G Module.fault
variable {cx : Cx} {w : World} {L : List Res}
theorem pbegun_p (hT : NumK cx) (hS : St cx w L) : Rets Tryz.prog Q1J [.string ⟨begunP.toArray⟩] w fun u w' => ∃ c' a n, cx.Le c' ∧ u = .tuple #[.agg ⟨[.slice a 1 n]⟩, .agg ⟨[.int .i64 0, .int .i64 0]⟩] ∧ funcR.sl c' (.slice a 1 n) [QuQ] ∧ St c' w' L := by
  refine (Qcv hT (by decide) hS).mono ?_
  rintro u w' (⟨m, c', vf, h1, rfl, hle, hm, hS⟩ | ⟨f, h1, rfl, hS⟩)
  · rw [Qht] at h1; cases h1
    obtain ⟨v9, e9, hf⟩ := Q47 hm
    cases e9
    have hf : funcR.sl c' vf [QuQ] := hf
    obtain ⟨a, n, rfl⟩ := Rep.SR.shape hf
    exact ⟨c', a, n, hle, rfl, hf, hS⟩
  · rw [Qht] at h1; cases h1
theorem QeX (hT : NumK cx) (hS : St cx w L) : Rets Tryz.prog Q9W [] w fun u w' => u = .bool true ∧ St cx w' L := by
  all_goals refine QeK ?_
  all_goals (unfold Law_parseBegun_lc; refine Q0 ?_; refine Q1 ?_; refine zm ?_; refine zn ?_; refine Q0 ?_; refine Q1 ?_; refine zR1 (c := pbegun_p hT hS) (h := ?_); rintro v1 w1 ⟨c1, a1, n1, hle1, rfl, hk1, hS⟩; refine zm ?_; refine zxt ?_; refine zxt ?_; refine Q9 hS ?_; intro p1 w1 hS; refine Q9 hS ?_; intro p2 w1 hS; refine zsn hS ?_; intro w1 hS; have hS := hS.ns; refine zsn hS ?_; intro w1 hS; have hS := hS.ns; refine zn ?_; refine Q0 ?_; refine Q1 ?_; refine zf0 ?_; refine zl hS ?_; refine Qa0 rfl rfl rfl ?_; refine zm ?_; (first | refine zgn ?_ | (refine zgy ?_; refine zf0 ?_)); (first | refine zgn ?_ | (refine zgy ?_; refine zl hS ?_)); (first | refine zgn ?_ | (refine zgy ?_; refine zL ?_)); (first | refine zgn ?_ | (refine zgy ?_; refine Qa0 rfl rfl rfl ?_)); refine zpt ?_; refine zm ?_; (first | refine zgn ?_ | (refine zgy ?_; refine zf0 ?_)); (first | refine zgn ?_ | (refine zgy ?_; refine zl hS ?_)))
  all_goals (first | refine zgn ?_ | (refine zgy ?_; refine QN (m := 0) rfl rfl hk1 rfl (by decide) ?_; intro b1 o1 cs1 x1 hat1 hx1 he1; cases hx1; obtain ⟨p1, r1, k1, rfl, i1, i2, i3⟩ := Q1L he1; have i2 : tyR.sl c1 r1 [.mk 1 0 []] := i2; have i3 : blockR.sl c1 k1 [QuR] := i3; obtain ⟨a2, n2, rfl⟩ := Rep.SR.shape i2; obtain ⟨a3, n3, rfl⟩ := Rep.SR.shape i3))
  all_goals ((first | refine zgn ?_ | (refine zgy ?_; (first | refine zf0 ?_ | refine zfd ?_))); (first | refine zgn ?_ | (refine zgy ?_; (first | (refine zl hS ?_) | (refine zlk hS ?_) | (refine zlj hS ?_)))); (first | refine zgn ?_ | (refine zgy ?_; refine zL ?_)); (first | refine zgn ?_ | (refine zgy ?_; refine Qa0 rfl rfl rfl ?_)); refine zpt ?_; refine zm ?_; (first | refine zgn ?_ | (refine zgy ?_; refine zf0 ?_)); (first | refine zgn ?_ | (refine zgy ?_; refine zl hS ?_)))
  all_goals (first | refine zgn ?_ | (refine zgy ?_; refine QN (m := 0) rfl rfl hk1 rfl (by decide) ?_; intro b2 o2 cs2 x2 hat2 hx2 he2; cases hx2; obtain ⟨p2, r2, k2, rfl, j1, j2, j3⟩ := Q1L he2; have j3 : blockR.sl c1 k2 [QuR] := j3; obtain ⟨a4, n4, rfl⟩ := Rep.SR.shape j3))
  all_goals ((first | refine zgn ?_ | (refine zgy ?_; (first | refine zf0 ?_ | refine zfd ?_))); (first | refine zgn ?_ | (refine zgy ?_; (first | (refine zl hS ?_) | (refine zlk hS ?_) | (refine zlj hS ?_)))))
  all_goals (first | refine zgn ?_ | (refine zgy ?_; refine QN (m := 0) rfl rfl j3 rfl (by decide) ?_; intro b3 o3 cs3 x3 hat3 hx3 he3; cases hx3; obtain ⟨q1, q2, q3, q4, q5, q6, q7, rfl, l1, l2, l3⟩ := Q29 he3; have l2 : insR.sl c1 q2 [⟨1, 0, 0, 0, 0, 5, [], []⟩] := l2; obtain ⟨a5, n5, rfl⟩ := Rep.SR.shape l2))
  all_goals ((first | refine zgn ?_ | (refine zgy ?_; (first | refine zf0 ?_ | refine zfd ?_))); (first | refine zgn ?_ | (refine zgy ?_; (first | (refine zl hS ?_) | (refine zlk hS ?_) | (refine zlj hS ?_)))))
  all_goals (first | refine zgn ?_ | (refine zgy ?_; refine QN (m := 0) rfl rfl l2 rfl (by decide) ?_; intro b4 o4 cs4 x4 hat4 hx4 he4; cases hx4; obtain ⟨y1, y2, rfl, z1, z2⟩ := Q3M he4))
  all_goals ((first | refine zgn ?_ | (refine zgy ?_; (first | refine zf0 ?_ | refine zfd ?_))); (first | refine zgn ?_ | (refine zgy ?_; (first | (refine zl hS ?_) | (refine zlk hS ?_) | (refine zlj hS ?_)))); (first | refine zgn ?_ | (refine zgy ?_; refine Qa0 rfl rfl rfl ?_)); refine zpt ?_; refine zm ?_; (first | refine zgn ?_ | (refine zgy ?_; refine zR1 (c := QrQ hS) (h := ?_); rintro v1 w1 ⟨rfl, hS⟩)); (first | refine zgn ?_ | (refine zgy ?_; refine Ql0 rfl rfl rfl ?_)); refine zpt ?_; refine zm ?_; (first | refine zgn ?_ | (refine zgy ?_; refine zR1 (c := Qgh hS) (h := ?_); rintro v1 w1 ⟨rfl, hS⟩)); (first | refine zgn ?_ | (refine zgy ?_; refine Ql0 rfl rfl rfl ?_)); refine zpt ?_; refine zm ?_; refine zn ?_; refine zr ?_; refine zf ?_; exact ⟨_, rfl, rfl, St.weak hS.sp hle1⟩)
/-- What a reading gives: a module, or a fault. -/
theorem parse_two (s : List UInt8) : (∃ m, Q3G s = .ok m) ∨ (∃ f : Flt, f.1 ≠ 0 ∧ Q3G s = .error f) := by
  cases h : Q3G s with
  | ok m => exact .inl ⟨m, rfl⟩
  | error f => exact .inr ⟨f, Qu8 h, rfl⟩
theorem pparse_o {s : List UInt8} {m : Module} (h : Q3G s = .ok m) (hT : NumK cx) (hl : s.length ≤ 9223372036854775807) (hS : St cx w L) :
    Rets Tryz.prog Q1J [.string ⟨s.toArray⟩] w fun u w' => ∃ c' a n, cx.Le c' ∧ u = .tuple #[.agg ⟨[.slice a m.funcs.length n]⟩, .agg ⟨[.int .i64 0, .int .i64 0]⟩] ∧ funcR.sl c' (.slice a m.funcs.length n) m.funcs ∧ St c' w' L := by
  refine (Qcv hT hl hS).mono ?_
  rintro u w' (⟨m2, c', vf, h1, rfl, hle, hm, hS⟩ | ⟨f, h1, rfl, hS⟩)
  · rw [h] at h1; cases h1
    obtain ⟨v9, e9, hf⟩ := Q47 hm
    cases e9
    obtain ⟨a, n, rfl⟩ := Rep.SR.shape hf
    exact ⟨c', a, n, hle, rfl, hf, hS⟩
  · rw [h] at h1; cases h1
theorem pparse_f {s : List UInt8} {f : Flt} (h : Q3G s = .error f) (hT : NumK cx) (hl : s.length ≤ 9223372036854775807) (hS : St cx w L) :
    Rets Tryz.prog Q1J [.string ⟨s.toArray⟩] w fun u w' => u = .tuple #[.agg ⟨[vn]⟩, .agg ⟨[.int .i64 f.1, .int .i64 f.2]⟩] ∧ St cx w' L := by
  refine (Qcv hT hl hS).mono ?_
  rintro u w' (⟨m2, c', vf, h1, rfl, hle, hm, hS⟩ | ⟨f2, h1, rfl, hS⟩)
  · rw [h] at h1; cases h1
  · rw [h] at h1; cases h1; exact ⟨rfl, hS⟩
end Go.Proofs.YtjecflbbcnocdaaGreatDoor
namespace Go.Lir
section
variable {α β : Type} {tk : List Tok} {at0 at1 at2 e : Nat} {e0 e1 e2 : Flt} {a : α} {b : β}
/-- There is a fault; or there is none, and the place is one of the tokens'. -/
def Q2c (tk : List Tok) (at0 : Nat) (e0 : Flt) : Prop := e0.1 ≠ 0 ∨ (e0 = (0, 0) ∧ at0 ≤ tk.length)
/-- What is read of the tokens from a place on; behind a fault nothing. -/
def PTake (rd : List Tok → PGot α) (tk : List Tok) (at0 : Nat) (e0 : Flt) (a : α) (at1 : Nat) (e1 : Flt) : Prop :=
  (e0.1 ≠ 0 ∧ e1 = e0) ∨ (e0 = (0, 0) ∧ at0 ≤ tk.length ∧ ((rd (tk.drop at0) = .ok (a, tk.drop at1) ∧ e1 = (0, 0) ∧ at0 ≤ at1 ∧ at1 ≤ tk.length) ∨ (rd (tk.drop at0) = .error e1 ∧ e1.1 ≠ 0)))
theorem PTake.fine {rd : List Tok → PGot α} (h : PTake rd tk at0 e0 a at1 e1) : Q2c tk at1 e1 := by
  rcases h with ⟨h, rfl⟩ | ⟨h, h2, ⟨h3, rfl, h4, h5⟩ | ⟨h3, h4⟩⟩
  · exact .inl h
  · exact .inr ⟨rfl, h5⟩
  · exact .inl h4
theorem Q2u (h : e0.1 ≠ 0) : Q2c tk at0 e0 := .inl h
theorem pfine_two (h : Q2c tk at0 e0) : e0.1 ≠ 0 ∨ (e0 = (0, 0) ∧ at0 ≤ tk.length) := h
theorem Q3j (h : at0 ≤ tk.length) : Q2c tk at0 (0, 0) := .inr ⟨rfl, h⟩
theorem Q50 {rd : List Tok → PGot α} (h : e0.1 ≠ 0) : PTake rd tk at0 e0 a at1 e0 := .inl ⟨h, rfl⟩
theorem Q31 {rd : List Tok → PGot α} (h : rd (tk.drop at0) = .ok (a, tk.drop at1)) (h1 : at0 ≤ at1) (h2 : at1 ≤ tk.length) : PTake rd tk at0 (0, 0) a at1 (0, 0) := .inr ⟨rfl, by omega, .inl ⟨h, rfl, h1, h2⟩⟩
theorem Q26 {rd : List Tok → PGot α} (ha : at0 ≤ tk.length) (h : rd (tk.drop at0) = .error e1) (h1 : e1.1 ≠ 0) : PTake rd tk at0 (0, 0) a at1 e1 := .inr ⟨rfl, ha, .inr ⟨h, h1⟩⟩
theorem Qe {f : List Tok → PGot α} {g : α → List Tok → PGot β} (h1 : PTake f tk at0 e0 a at1 e1) (h2 : PTake (g a) tk at1 e1 b at2 e2) : PTake (fun r => Q6 (f r) g) tk at0 e0 b at2 e2 := by
  rcases h1 with ⟨h, rfl⟩ | ⟨rfl, h3, ⟨h4, rfl, h5, h6⟩ | ⟨h4, h5⟩⟩
  · rcases h2 with ⟨_, rfl⟩ | ⟨rfl, _⟩
    · exact .inl ⟨h, rfl⟩
    · exact absurd rfl h
  · rcases h2 with ⟨h, _⟩ | ⟨_, h7, ⟨h8, rfl, h9, h10⟩ | ⟨h8, h9⟩⟩
    · exact absurd rfl h
    · exact Q31 (by show Q6 (f _) g = _; rw [h4]; exact h8) (by omega) h10
    · exact Q26 h3 (by show Q6 (f _) g = _; rw [h4]; exact h8) h9
  · rcases h2 with ⟨_, rfl⟩ | ⟨rfl, _⟩
    · exact Q26 h3 (by show Q6 (f _) g = _; rw [h4]; rfl) h5
    · exact absurd rfl h5
theorem QY (hf : Q2c tk at0 e0) : PTake (fun r => .ok (a, r)) tk at0 e0 a at0 e0 := by
  rcases hf with h | ⟨rfl, h⟩
  · exact Q50 h
  · exact Q31 rfl (Nat.le_refl _) h
/-- The token that stands there, if one does. -/
theorem stand (tk : List Tok) (at0 : Nat) : (tk.length ≤ at0 ∧ tk.drop at0 = []) ∨ ∃ t, at0 < tk.length ∧ tk[at0]? = some t ∧ tk.drop at0 = t :: tk.drop (at0 + 1) := by
  by_cases h : at0 < tk.length
  · exact .inr ⟨tk[at0], h, List.getElem?_eq_getElem h, List.drop_eq_getElem_cons h⟩
  · exact .inl ⟨by omega, List.drop_eq_nil_of_le (by omega)⟩
theorem Q21 {c : Int} {l : List Tok} (hc : c ≠ 0) : (Q1X e c l).1 ≠ 0 := Qav (α := Unit) (e := e) hc l _ rfl
theorem Qob {s : List UInt8} (ha : at0 ≤ tk.length) (h : isT s (tk.drop at0) = true) : PTake (want e s) tk at0 (0, 0) () (at0 + 1) (0, 0) := by
  have h1 := Qla h
  rw [List.length_tail, List.length_drop] at h1
  refine Q31 ?_ (by omega) (by omega)
  unfold want; rw [if_pos h, List.tail_drop]
theorem Qoc {s : List UInt8} {p : Nat} (ha : at0 ≤ tk.length) (h : isT s (tk.drop at0) = false) : PTake (want e s) tk at0 (0, 0) () p (Q1X e 4 (tk.drop at0)) := by
  refine Q26 ha ?_ (Q21 (by decide))
  unfold want; rw [if_neg (by rw [h]; decide)]
theorem Qoe {t : Tok} {n : Int} (h1 : at0 < tk.length) (h3 : tk.drop at0 = t :: tk.drop (at0 + 1)) (hn : t.num = some n) : PTake (Q38 e) tk at0 (0, 0) n (at0 + 1) (0, 0) := by
  refine Q31 ?_ (by omega) (by omega)
  rw [h3]; unfold Q38; dsimp only; rw [hn]
theorem Qof {t : Tok} {n : Int} {p : Nat} (h1 : at0 < tk.length) (h3 : tk.drop at0 = t :: tk.drop (at0 + 1)) (hn : t.num = none) : PTake (Q38 e) tk at0 (0, 0) n p (Q1X e 4 (tk.drop at0)) := by
  refine Q26 (by omega) ?_ (Q21 (by decide))
  rw [h3]; unfold Q38; dsimp only; rw [hn]
theorem Qod {n : Int} {p : Nat} (ha : at0 ≤ tk.length) (h3 : tk.drop at0 = []) : PTake (Q38 e) tk at0 (0, 0) n p (Q1X e 4 (tk.drop at0)) := by
  refine Q26 ha ?_ (Q21 (by decide))
  rw [h3]; rfl
theorem Q2f {rd rd2 : List Tok → PGot α} (h : rd2 (tk.drop at0) = rd (tk.drop at0)) (h1 : PTake rd tk at0 e0 a at1 e1) : PTake rd2 tk at0 e0 a at1 e1 := by
  unfold PTake at h1 ⊢
  rw [h]; exact h1
theorem Q17 {rd : List Tok → PGot α} (h : PTake rd tk at0 e0 a at1 e1) (h0 : e0.1 ≠ 0) : e1 = e0 := by
  rcases h with h | ⟨rfl, _⟩
  · exact h.2
  · exact absurd rfl h0
theorem Qsr {rd : List Tok → PGot α} (h : PTake rd tk at0 e0 a at1 e1) (h0 : e1.1 = 0) : e1 = (0, 0) ∧ at1 ≤ tk.length := by
  rcases h with ⟨h, rfl⟩ | ⟨rfl, _, ⟨_, h, _, h2⟩ | ⟨_, h⟩⟩
  · exact absurd h0 h
  · exact ⟨h, h2⟩
  · exact absurd h0 h
theorem QgY {n : Int} {p : Nat} (ha : at0 ≤ tk.length) (h : Qcj (tk.drop at0) = true) : PTake (pNum e) tk at0 (0, 0) n p (Q1X e 8 (tk.drop at0)) := by
  refine Q26 ha ?_ (Q21 (by decide))
  unfold pNum; rw [if_pos h]
theorem Qb0 {n : Int} (h : e0.1 = 0 → Qcj (tk.drop at0) = false) (h1 : PTake (Q38 e) tk at0 e0 n at1 e1) : PTake (pNum e) tk at0 e0 n at1 e1 := by
  by_cases h0 : e0.1 = 0
  · refine Q2f ?_ h1
    unfold pNum; rw [if_neg (by rw [h h0]; decide)]
  · rcases h1 with h1 | ⟨rfl, _⟩
    · exact .inl h1
    · exact absurd rfl h0
end
end Go.Lir
namespace Go.Proofs.YtjecflbbcnocdaaGreatDoor
open Go.Lir
set_option maxHeartbeats 1000000
attribute [local irreducible] LC.wp Q2 QA QB retQ Q1e LO.wp Qj Calls
set_option linter.unusedSimpArgs false
set_option linter.unusedVariables false
attribute [local irreducible] pNum Q38 want Q2c
variable {cx : Cx} {w : World} {L : List Res}
@[reducible] def rgb (rb : Nat) (v : Value) (e at0 : Nat) (f : Flt) : Res := blk rb 77 [v, .int .i64 (e : Int), .int .i64 (at0 : Int), .int .i64 f.1, .int .i64 f.2]
theorem Q1U {rb e at0 : Nat} {v : Value} {f : Flt} (hS : St cx w (rgb rb v e at0 f :: L)) : Rets Tryz.prog Qf5 [.pointer (some ⟨rb, 0, none⟩)] w fun u w' => u = .bool (decide (f.1 = 0)) ∧ St cx w' (rgb rb v e at0 f :: L) := by
  all_goals refine QhM ?_
  all_goals (unfold R_reading_ok_lc; refine Q0 ?_; refine Q1 ?_; refine zm ?_; refine zn ?_; refine Q0 ?_; refine Q1 ?_; refine zm ?_; refine znc ?_; refine zf0 ?_; (first | refine zf0 ?_ | refine zfd ?_); refine zl hS ?_; refine Qcs rfl rfl ?_; refine zm ?_; refine zn ?_; refine zr ?_; refine zf ?_; refine ⟨_, rfl, ?_, hS.sp⟩; exact rfl; done)
theorem Q2s {rb e at0 : Nat} {c : Int} {v : Value} {f : Flt} {tk : List Tok} (hv : tokR.sl cx v tk) (hS : St cx w (rgb rb v e at0 f :: L)) : Rets Tryz.prog Q7V [.pointer (some ⟨rb, 0, none⟩), .int .i64 c] w fun u w' => u = .tuple #[] ∧ St cx w' (rgb rb v e at0 (if f.1 = 0 then Q1X e c (tk.drop at0) else f) :: L) := by
  obtain ⟨va, vn, rfl⟩ := Rep.SR.shape hv
  by_cases hf : f.1 = 0
  · rw [if_pos hf]
    rcases stand tk at0 with ⟨h1, h2⟩ | ⟨t, h1, h2, h3⟩
    · rw [h2]
      by_cases h4 : c = 4
      · subst h4
        show Rets _ _ _ _ fun u w' => u = .tuple #[] ∧ St cx w' (rgb rb _ e at0 (5, (e : Int)) :: L)
        all_goals refine Q2k ?_
        all_goals (unfold R_reading_wrong_lc; refine Q0 ?_; refine Q0 ?_; refine Q1 ?_; refine zm ?_; refine zR1 (c := Q1U hS) (h := ?_); rintro v1 w1 ⟨rfl, hS⟩; rw [decide_eq_true hf]; refine znt ?_; refine zn ?_)
        all_goals refine zcf ?_
        all_goals (refine zsk ?_; refine Q0 ?_; refine zD [(0, none), (1, none), (2, none), (3, none), (4, none), (5, none), (6, none), (7, none), (8, none), (9, some none)] ?_; have hS := hS.drew; refine zm ?_; refine znc ?_; refine zf0 ?_; refine zl hS ?_; refine zm ?_; refine znc ?_; refine zf0 ?_; refine zl hS ?_; refine zL ?_)
        all_goals (first | (refine Q1b ?_) | (refine Q1z ?_))
        all_goals (refine zn ?_)
        all_goals refine zcf ?_
        all_goals (refine Q0 ?_; refine Q1 ?_; refine zm ?_)
        all_goals (refine Qn ?_)
        all_goals (refine zn ?_)
        all_goals refine zct ?_
        all_goals (refine Q1 ?_; refine zm ?_; refine zm ?_; refine znc ?_; refine zf0 ?_; refine zl hS ?_; refine zR2 (c := rF_c hS) (h := ?_); rintro v1 w1 ⟨rfl, hS⟩; refine znc ?_; refine zf0 ?_; (first | (refine zsn hS ?_; intro w1 hS; have hS := hS.ns) | (refine zsm hS ?_; intro w1 hS; have hS := hS.ns)); refine zn ?_; refine Q3z ?_; exact ⟨_, rfl, rfl, hS.sp⟩)
      · skip
        show Rets _ _ _ _ fun u w' => u = .tuple #[] ∧ St cx w' (rgb rb _ e at0 (if c = 4 then 5 else c, (e : Int)) :: L)
        rw [if_neg h4]
        all_goals refine Q2k ?_
        all_goals (unfold R_reading_wrong_lc; refine Q0 ?_; refine Q0 ?_; refine Q1 ?_; refine zm ?_; refine zR1 (c := Q1U hS) (h := ?_); rintro v1 w1 ⟨rfl, hS⟩; rw [decide_eq_true hf]; refine znt ?_; refine zn ?_)
        all_goals refine zcf ?_
        all_goals (refine zsk ?_; refine Q0 ?_; refine zD [(0, none), (1, none), (2, none), (3, none), (4, none), (5, none), (6, none), (7, none), (8, none), (9, some none)] ?_; have hS := hS.drew; refine zm ?_; refine znc ?_; refine zf0 ?_; refine zl hS ?_; refine zm ?_; refine znc ?_; refine zf0 ?_; refine zl hS ?_; refine zL ?_)
        all_goals (first | (refine Q1b ?_) | (refine Q1z ?_))
        all_goals (refine zn ?_)
        all_goals refine zcf ?_
        all_goals (refine Q0 ?_; refine Q1 ?_; refine zm ?_)
        all_goals (first | (refine Qn ?_) | (refine Qq ?_))
        all_goals (refine zn ?_)
        all_goals refine zcf ?_
        all_goals (refine Q1 ?_; refine zm ?_; refine zm ?_; refine zm ?_; refine znc ?_; refine zf0 ?_; refine zl hS ?_; refine zR2 (c := rF_c hS) (h := ?_); rintro v1 w1 ⟨rfl, hS⟩; refine znc ?_; refine zf0 ?_; (first | (refine zsn hS ?_; intro w1 hS; have hS := hS.ns) | (refine zsm hS ?_; intro w1 hS; have hS := hS.ns)); refine zn ?_; refine Q3z ?_; exact ⟨_, rfl, rfl, hS.sp⟩)
    · rw [h3]
      show Rets _ _ _ _ fun u w' => u = .tuple #[] ∧ St cx w' (rgb rb _ e at0 (c, (t.at_ : Int)) :: L)
      all_goals refine Q2k ?_
      all_goals (unfold R_reading_wrong_lc; refine Q0 ?_; refine Q0 ?_; refine Q1 ?_; refine zm ?_; refine zR1 (c := Q1U hS) (h := ?_); rintro v1 w1 ⟨rfl, hS⟩; rw [decide_eq_true hf]; refine znt ?_; refine zn ?_)
      all_goals refine zcf ?_
      all_goals (refine zsk ?_; refine Q0 ?_; refine zD [(0, none), (1, none), (2, none), (3, none), (4, none), (5, none), (6, none), (7, none), (8, none), (9, some none)] ?_; have hS := hS.drew; refine zm ?_; refine znc ?_; refine zf0 ?_; refine zl hS ?_; refine zm ?_; refine znc ?_; refine zf0 ?_; refine zl hS ?_; refine zL ?_)
      all_goals (refine Q1b ?_)
      all_goals (refine zn ?_)
      all_goals refine zct ?_
      all_goals (refine zC [(0, none), (1, none), (2, none), (3, none), (4, none), (5, none), (6, none), (7, none), (8, none), (9, none), (10, none), (11, none), (12, none), (13, some (some [])), (14, none), (15, none), (16, some none)] ?_; have hS := hS.drew; refine s_cq ?_; refine zm ?_; refine zt ?_; refine s_cq ?_; refine zm ?_; refine zt ?_; refine s_cq ?_; refine zm ?_; refine zt ?_; refine s_cq ?_; refine znc ?_; refine zt ?_; refine s_cq ?_; refine zf0 ?_; refine zt ?_; refine s_cq ?_; refine zl hS ?_; refine zt ?_; refine s_cq ?_; refine zm ?_; refine zt ?_; refine s_cq ?_; refine znc ?_; refine zt ?_; refine s_cq ?_; refine zf0 ?_; refine zt ?_; refine s_cq ?_; refine zl hS ?_; refine zt ?_; refine s_cq ?_)
      all_goals (refine QN (m := at0) vw rfl hv rfl h1 ?_; intro b1 o1 cs1 x1 hat1 hx1 he1; rw [h2] at hx1; cases hx1; obtain rfl := QE he1)
      all_goals (refine zt ?_; refine s_cq ?_; (first | refine zf0 ?_ | refine zfd ?_); refine zt ?_; refine s_cq ?_; (first | (refine zl hS ?_) | (refine zlk hS ?_)); refine zt ?_; refine Q5D ?_; refine zR2 (c := rF_c hS) (h := ?_); rintro v1 w1 ⟨rfl, hS⟩; refine zt ?_; refine zy ?_; refine s_cq ?_; refine znc ?_; refine zt ?_; refine s_cq ?_; refine zf0 ?_; refine zt ?_; refine s_cf ?_; (first | (refine zsn hS ?_; intro w1 hS; have hS := hS.ns) | (refine zsm hS ?_; intro w1 hS; have hS := hS.ns)); refine zt ?_; refine zcn ?_; refine Q3z ?_; exact ⟨_, rfl, rfl, hS.sp⟩)
  · rw [if_neg hf]
    all_goals refine Q2k ?_
    all_goals (unfold R_reading_wrong_lc; refine Q0 ?_; refine Q0 ?_; refine Q1 ?_; refine zm ?_; refine zR1 (c := Q1U hS) (h := ?_); rintro v1 w1 ⟨rfl, hS⟩; rw [decide_eq_false hf]; refine znt ?_; refine zn ?_)
    all_goals refine zct ?_
    all_goals (refine zr ?_; refine QtX ?_; exact ⟨_, rfl, rfl, hS.sp⟩)
theorem Q2e {rb e at0 : Nat} {v : Value} {f : Flt} {tk : List Tok} {s : List UInt8} (hv : tokR.sl cx v tk) (hS : St cx w (rgb rb v e at0 f :: L)) :
    Rets Tryz.prog Qf6 [.pointer (some ⟨rb, 0, none⟩), .string ⟨s.toArray⟩] w fun u w' => u = .bool (decide (f.1 = 0) && isT s (tk.drop at0)) ∧ St cx w' (rgb rb v e at0 f :: L) := by
  obtain ⟨va, vn, rfl⟩ := Rep.SR.shape hv
  by_cases hf : f.1 = 0
  · rw [decide_eq_true hf, Bool.true_and]
    rcases stand tk at0 with ⟨h1, h2⟩ | ⟨⟨a, t2, m⟩, h1, h2, h3⟩
    · rw [h2]
      show Rets _ _ _ _ fun u w' => u = .bool false ∧ _
      all_goals refine Q3w ?_
      all_goals (unfold R_reading_is_lc; refine Q0 ?_; refine Q1 ?_; refine zm ?_; refine zn ?_; refine Q0 ?_; refine zD [(0, none), (1, some none), (2, none), (3, none), (4, none), (5, none), (6, none), (7, none), (8, none), (9, none), (10, none), (11, none), (12, none), (13, none), (14, none), (15, none), (16, none), (17, none), (18, none), (19, none), (20, none), (21, none), (22, none), (23, none), (24, none), (25, none), (26, none), (27, none), (28, none), (29, none), (30, none), (31, none), (32, none), (33, none), (34, none), (35, none), (36, none), (37, none), (38, none), (39, none), (40, none), (41, none), (42, none), (43, some none)] ?_; have hS := hS.drew; refine zm ?_; refine zR1 (c := Q1U hS) (h := ?_); rintro v1 w1 ⟨rfl, hS⟩; rw [decide_eq_true hf]; refine zm ?_; (first | refine zgn ?_ | (refine zgy ?_; refine zm ?_)); (first | refine zgn ?_ | (refine zgy ?_; refine znc ?_)); (first | refine zgn ?_ | (refine zgy ?_; refine zf0 ?_)); (first | refine zgn ?_ | (refine zgy ?_; refine zl hS ?_)); (first | refine zgn ?_ | (refine zgy ?_; refine zm ?_)); (first | refine zgn ?_ | (refine zgy ?_; refine znc ?_)); (first | refine zgn ?_ | (refine zgy ?_; refine zf0 ?_)); (first | refine zgn ?_ | (refine zgy ?_; refine zl hS ?_)))
      all_goals ((first | refine zgn ?_ | (refine zgy ?_; refine zL ?_)))
      all_goals (first | refine zgn ?_ | (refine zgy ?_; (first | (refine Q1b ?_) | (refine Q1z ?_))))
      all_goals (refine zpt ?_; refine zm ?_; refine zgn ?_; refine zgn ?_; refine zgn ?_; refine zgn ?_; refine zgn ?_; refine zgn ?_; refine zgn ?_; refine zgn ?_; refine zgn ?_; refine zgn ?_; refine zgn ?_; refine zgn ?_; (first | (refine zpt ?_) | (refine zpf ?_)); refine zm ?_; refine zgn ?_)
      all_goals (refine zgn ?_; refine zgn ?_; refine zgn ?_; refine zgn ?_; refine zgn ?_; refine zgn ?_; refine zgn ?_; refine zgn ?_; refine zgn ?_; refine zgn ?_; refine zgn ?_; refine zgn ?_; (first | (refine zpt ?_) | (refine zpf ?_)); refine zm ?_; refine zn ?_; refine zr ?_; refine zf ?_; refine ⟨_, rfl, ?_, hS.sp⟩; exact rfl; done)
    · rw [h3]
      cases m with
      | none =>
        show Rets _ _ _ _ fun u w' => u = .bool (decide (t2 = s)) ∧ _
        all_goals refine Q3w ?_
        all_goals (unfold R_reading_is_lc; refine Q0 ?_; refine Q1 ?_; refine zm ?_; refine zn ?_; refine Q0 ?_; refine zD [(0, none), (1, some none), (2, none), (3, none), (4, none), (5, none), (6, none), (7, none), (8, none), (9, none), (10, none), (11, none), (12, none), (13, none), (14, none), (15, none), (16, none), (17, none), (18, none), (19, none), (20, none), (21, none), (22, none), (23, none), (24, none), (25, none), (26, none), (27, none), (28, none), (29, none), (30, none), (31, none), (32, none), (33, none), (34, none), (35, none), (36, none), (37, none), (38, none), (39, none), (40, none), (41, none), (42, none), (43, some none)] ?_; have hS := hS.drew; refine zm ?_; refine zR1 (c := Q1U hS) (h := ?_); rintro v1 w1 ⟨rfl, hS⟩; rw [decide_eq_true hf]; refine zm ?_; (first | refine zgn ?_ | (refine zgy ?_; refine zm ?_)); (first | refine zgn ?_ | (refine zgy ?_; refine znc ?_)); (first | refine zgn ?_ | (refine zgy ?_; refine zf0 ?_)); (first | refine zgn ?_ | (refine zgy ?_; refine zl hS ?_)); (first | refine zgn ?_ | (refine zgy ?_; refine zm ?_)); (first | refine zgn ?_ | (refine zgy ?_; refine znc ?_)); (first | refine zgn ?_ | (refine zgy ?_; refine zf0 ?_)); (first | refine zgn ?_ | (refine zgy ?_; refine zl hS ?_)))
        all_goals ((first | refine zgn ?_ | (refine zgy ?_; refine zL ?_)))
        all_goals (first | refine zgn ?_ | (refine zgy ?_; refine Q1b ?_))
        all_goals (refine zpt ?_; refine zm ?_; (first | refine zgn ?_ | (refine zgy ?_; refine zm ?_)); (first | refine zgn ?_ | (refine zgy ?_; refine znc ?_)); (first | refine zgn ?_ | (refine zgy ?_; refine zf0 ?_)); (first | refine zgn ?_ | (refine zgy ?_; refine zl hS ?_)); (first | refine zgn ?_ | (refine zgy ?_; refine zm ?_)); (first | refine zgn ?_ | (refine zgy ?_; refine znc ?_)); (first | refine zgn ?_ | (refine zgy ?_; refine zf0 ?_)); (first | refine zgn ?_ | (refine zgy ?_; refine zl hS ?_)))
        all_goals (first | refine zgn ?_ | (refine zgy ?_; refine QN (m := at0) vw rfl hv rfl h1 ?_; intro b1 o1 cs1 x1 hat1 hx1 he1; rw [h2] at hx1; cases hx1; obtain rfl := QE he1))
        all_goals ((first | refine zgn ?_ | (refine zgy ?_; (first | refine zf0 ?_ | refine zfd ?_))); (first | refine zgn ?_ | (refine zgy ?_; (first | (refine zl hS ?_) | (refine zlk hS ?_) | (refine zlj hS ?_)))); (first | refine zgn ?_ | (refine zgy ?_; refine znt ?_)); refine zpt ?_; refine zm ?_; (first | refine zgn ?_ | (refine zgy ?_; refine zm ?_)); (first | refine zgn ?_ | (refine zgy ?_; refine znc ?_)); (first | refine zgn ?_ | (refine zgy ?_; refine zf0 ?_)); (first | refine zgn ?_ | (refine zgy ?_; refine zl hS ?_)); (first | refine zgn ?_ | (refine zgy ?_; refine zm ?_)); (first | refine zgn ?_ | (refine zgy ?_; refine znc ?_)); (first | refine zgn ?_ | (refine zgy ?_; refine zf0 ?_)); (first | refine zgn ?_ | (refine zgy ?_; refine zl hS ?_)))
        all_goals (first | refine zgn ?_ | (refine zgy ?_; refine QN (m := at0) vw rfl hv rfl h1 ?_; intro b1 o1 cs1 x1 hat1 hx1 he1; rw [h2] at hx1; cases hx1; obtain rfl := QE he1))
        all_goals ((first | refine zgn ?_ | (refine zgy ?_; (first | refine zf0 ?_ | refine zfd ?_))); (first | refine zgn ?_ | (refine zgy ?_; (first | (refine zl hS ?_) | (refine zlk hS ?_) | (refine zlj hS ?_)))); (first | refine zgn ?_ | (refine zgy ?_; refine zm ?_)); (first | refine zgn ?_ | (refine zgy ?_; refine Qo2 rfl rfl ?_)); refine zpt ?_; refine zm ?_; refine zn ?_; refine zr ?_; refine zf ?_; refine ⟨_, rfl, ?_, hS.sp⟩; exact rfl; done)
      | some n =>
        show Rets _ _ _ _ fun u w' => u = .bool false ∧ _
        all_goals refine Q3w ?_
        all_goals (unfold R_reading_is_lc; refine Q0 ?_; refine Q1 ?_; refine zm ?_; refine zn ?_; refine Q0 ?_; refine zD [(0, none), (1, some none), (2, none), (3, none), (4, none), (5, none), (6, none), (7, none), (8, none), (9, none), (10, none), (11, none), (12, none), (13, none), (14, none), (15, none), (16, none), (17, none), (18, none), (19, none), (20, none), (21, none), (22, none), (23, none), (24, none), (25, none), (26, none), (27, none), (28, none), (29, none), (30, none), (31, none), (32, none), (33, none), (34, none), (35, none), (36, none), (37, none), (38, none), (39, none), (40, none), (41, none), (42, none), (43, some none)] ?_; have hS := hS.drew; refine zm ?_; refine zR1 (c := Q1U hS) (h := ?_); rintro v1 w1 ⟨rfl, hS⟩; rw [decide_eq_true hf]; refine zm ?_; (first | refine zgn ?_ | (refine zgy ?_; refine zm ?_)); (first | refine zgn ?_ | (refine zgy ?_; refine znc ?_)); (first | refine zgn ?_ | (refine zgy ?_; refine zf0 ?_)); (first | refine zgn ?_ | (refine zgy ?_; refine zl hS ?_)); (first | refine zgn ?_ | (refine zgy ?_; refine zm ?_)); (first | refine zgn ?_ | (refine zgy ?_; refine znc ?_)); (first | refine zgn ?_ | (refine zgy ?_; refine zf0 ?_)); (first | refine zgn ?_ | (refine zgy ?_; refine zl hS ?_)))
        all_goals ((first | refine zgn ?_ | (refine zgy ?_; refine zL ?_)))
        all_goals (first | refine zgn ?_ | (refine zgy ?_; refine Q1b ?_))
        all_goals (refine zpt ?_; refine zm ?_; (first | refine zgn ?_ | (refine zgy ?_; refine zm ?_)); (first | refine zgn ?_ | (refine zgy ?_; refine znc ?_)); (first | refine zgn ?_ | (refine zgy ?_; refine zf0 ?_)); (first | refine zgn ?_ | (refine zgy ?_; refine zl hS ?_)); (first | refine zgn ?_ | (refine zgy ?_; refine zm ?_)); (first | refine zgn ?_ | (refine zgy ?_; refine znc ?_)); (first | refine zgn ?_ | (refine zgy ?_; refine zf0 ?_)); (first | refine zgn ?_ | (refine zgy ?_; refine zl hS ?_)))
        all_goals (first | refine zgn ?_ | (refine zgy ?_; refine QN (m := at0) vw rfl hv rfl h1 ?_; intro b1 o1 cs1 x1 hat1 hx1 he1; rw [h2] at hx1; cases hx1; obtain rfl := QE he1))
        all_goals ((first | refine zgn ?_ | (refine zgy ?_; (first | refine zf0 ?_ | refine zfd ?_))); (first | refine zgn ?_ | (refine zgy ?_; (first | (refine zl hS ?_) | (refine zlk hS ?_) | (refine zlj hS ?_)))); (first | refine zgn ?_ | (refine zgy ?_; refine znt ?_)); refine zpt ?_; refine zm ?_; refine zgn ?_; refine zgn ?_; refine zgn ?_; refine zgn ?_; refine zgn ?_; refine zgn ?_; refine zgn ?_; refine zgn ?_)
        all_goals (refine zgn ?_)
        all_goals (refine zgn ?_; refine zgn ?_; refine zgn ?_; refine zgn ?_; (first | (refine zpt ?_) | (refine zpf ?_)); refine zm ?_; refine zn ?_; refine zr ?_; refine zf ?_; refine ⟨_, rfl, ?_, hS.sp⟩; exact rfl; done)
  · rw [decide_eq_false hf, Bool.false_and]
    all_goals refine Q3w ?_
    all_goals (unfold R_reading_is_lc; refine Q0 ?_; refine Q1 ?_; refine zm ?_; refine zn ?_; refine Q0 ?_; refine zD [(0, none), (1, some none), (2, none), (3, none), (4, none), (5, none), (6, none), (7, none), (8, none), (9, none), (10, none), (11, none), (12, none), (13, none), (14, none), (15, none), (16, none), (17, none), (18, none), (19, none), (20, none), (21, none), (22, none), (23, none), (24, none), (25, none), (26, none), (27, none), (28, none), (29, none), (30, none), (31, none), (32, none), (33, none), (34, none), (35, none), (36, none), (37, none), (38, none), (39, none), (40, none), (41, none), (42, none), (43, some none)] ?_; have hS := hS.drew; refine zm ?_; refine zR1 (c := Q1U hS) (h := ?_); rintro v1 w1 ⟨rfl, hS⟩; rw [decide_eq_false hf]; refine zm ?_; refine zgn ?_; refine zgn ?_; refine zgn ?_; refine zgn ?_; refine zgn ?_; refine zgn ?_; refine zgn ?_; refine zgn ?_)
    all_goals (refine zgn ?_)
    all_goals (refine zgn ?_)
    all_goals ((first | (refine zpt ?_) | (refine zpf ?_)); refine zm ?_; refine zgn ?_; refine zgn ?_; refine zgn ?_; refine zgn ?_; refine zgn ?_; refine zgn ?_; refine zgn ?_; refine zgn ?_; refine zgn ?_; refine zgn ?_; refine zgn ?_; refine zgn ?_; (first | (refine zpt ?_) | (refine zpf ?_)); refine zm ?_; refine zgn ?_)
    all_goals (refine zgn ?_; refine zgn ?_; refine zgn ?_; refine zgn ?_; refine zgn ?_; refine zgn ?_; refine zgn ?_; refine zgn ?_; refine zgn ?_; refine zgn ?_; refine zgn ?_; refine zgn ?_; (first | (refine zpt ?_) | (refine zpf ?_)); refine zm ?_; refine zn ?_; refine zr ?_; refine zf ?_; refine ⟨_, rfl, ?_, hS.sp⟩; exact rfl; done)
attribute [local irreducible] isT PTake
theorem Q1m {rb e at0 : Nat} {v : Value} {f : Flt} {tk : List Tok} {s : List UInt8} (hv : tokR.sl cx v tk) (hf : Q2c tk at0 f) (hS : St cx w (rgb rb v e at0 f :: L)) :
    Rets Tryz.prog Q9R [.pointer (some ⟨rb, 0, none⟩), .string ⟨s.toArray⟩] w fun u w' => ∃ at1 f1, PTake (want e s) tk at0 f () at1 f1 ∧ u = .tuple #[] ∧ St cx w' (rgb rb v e at1 f1 :: L) := by
  have hl := hv.len
  unfold Q2c at hf
  rcases hf with hbad | ⟨rfl, ha⟩
  · skip
    all_goals refine Q3K ?_
    all_goals (unfold R_reading_must_lc; refine Q0 ?_; refine Q1 ?_; refine zm ?_; refine zm ?_; refine zR2 (c := Q2e hv hS) (h := ?_); rintro v1 w1 ⟨rfl, hS⟩; rw [decide_eq_false hbad, Bool.false_and]; refine zn ?_)
    all_goals refine zcf ?_
    all_goals (refine Q1 ?_; refine zm ?_; refine zR2 (c := Q2s hv hS) (h := ?_); rintro v1 w1 ⟨rfl, hS⟩; rw [if_neg hbad] at hS; refine zn ?_; refine Q3z ?_; exact ⟨_, rfl, _, _, Q50 hbad, rfl, hS.sp⟩)
  · cases hq : isT s (tk.drop at0) with
    | true =>
      have h1 := Qla hq
      rw [List.length_tail, List.length_drop] at h1
      all_goals refine Q3K ?_
      all_goals (unfold R_reading_must_lc; refine Q0 ?_; refine Q1 ?_; refine zm ?_; refine zm ?_; refine zR2 (c := Q2e hv hS) (h := ?_); rintro v1 w1 ⟨rfl, hS⟩; rw [hq]; refine zn ?_)
      all_goals refine zct ?_
      all_goals (refine Q1 ?_; refine zm ?_; refine znc ?_; refine zf0 ?_; refine zl hS ?_; refine zad ?_; refine znc ?_; refine zf0 ?_; refine zst hS ?_; intro w1 hS; have hS := hS.ns; refine zn ?_; refine Q3z ?_; exact ⟨_, rfl, at0 + 1, _, Qob ha hq, rfl, hS.sp⟩)
    | false =>
      all_goals refine Q3K ?_
      all_goals (unfold R_reading_must_lc; refine Q0 ?_; refine Q1 ?_; refine zm ?_; refine zm ?_; refine zR2 (c := Q2e hv hS) (h := ?_); rintro v1 w1 ⟨rfl, hS⟩; rw [hq]; refine zn ?_)
      all_goals refine zcf ?_
      all_goals (refine Q1 ?_; refine zm ?_; refine zR2 (c := Q2s hv hS) (h := ?_); rintro v1 w1 ⟨rfl, hS⟩; rw [if_pos rfl] at hS; refine zn ?_; refine Q3z ?_; exact ⟨_, rfl, _, _, Qoc ha hq, rfl, hS.sp⟩)
theorem Q5F {rb e at0 : Nat} {v : Value} {f : Flt} {tk : List Tok} (hv : tokR.sl cx v tk) (hf : Q2c tk at0 f) (hS : St cx w (rgb rb v e at0 f :: L)) :
    Rets Tryz.prog Q9T [.pointer (some ⟨rb, 0, none⟩)] w fun u w' => ∃ n at1 f1, PTake (Q38 e) tk at0 f n at1 f1 ∧ u = .int .i64 n ∧ St cx w' (rgb rb v e at1 f1 :: L) := by
  have hl := hv.len
  obtain ⟨va, vn, rfl⟩ := Rep.SR.shape hv
  unfold Q2c at hf
  rcases hf with hbad | ⟨rfl, ha⟩
  · skip
    all_goals refine Q2E ?_
    all_goals (unfold R_reading_long_lc; refine Q0 ?_; refine Q1 ?_; refine zm ?_; refine zn ?_; refine Q0 ?_; refine Q0 ?_; refine Q1 ?_; refine zm ?_; refine zR1 (c := Q1U hS) (h := ?_); rintro v1 w1 ⟨rfl, hS⟩; rw [decide_eq_false hbad]; refine znt ?_; refine zn ?_)
    all_goals refine zct ?_
    all_goals (refine Q0 ?_; refine Q1 ?_; refine zm ?_; refine zn ?_; refine zr ?_; refine zf ?_; exact ⟨_, rfl, 0, _, _, Q50 hbad, rfl, hS.sp⟩)
  · rcases stand tk at0 with ⟨h1, h2⟩ | ⟨⟨a, t2, m⟩, h1, h2, h3⟩
    · skip
      all_goals refine Q2E ?_
      all_goals (unfold R_reading_long_lc; refine Q0 ?_; refine Q1 ?_; refine zm ?_; refine zn ?_; refine Q0 ?_; refine Q0 ?_; refine Q1 ?_; refine zm ?_; refine zR1 (c := Q1U hS) (h := ?_); rintro v1 w1 ⟨rfl, hS⟩; refine znt ?_; refine zn ?_)
      all_goals refine zcf ?_
      all_goals (refine zsk ?_; refine Q0 ?_; refine Q0 ?_; refine zD [(0, none), (1, none), (2, none), (3, none), (4, none), (5, none), (6, none), (7, none), (8, none), (9, none), (10, none), (11, none), (12, none), (13, none), (14, none), (15, none), (16, none), (17, none), (18, none), (19, none), (20, none), (21, none), (22, none), (23, some none)] ?_; have hS := hS.drew; refine zm ?_; refine znc ?_; refine zf0 ?_; refine zl hS ?_; refine zm ?_; refine znc ?_; refine zf0 ?_; refine zl hS ?_; refine zL ?_)
      all_goals (refine Q5Y ?_)
      all_goals (refine zm ?_; refine zgn ?_; refine zgn ?_; refine zgn ?_; refine zgn ?_; refine zgn ?_; refine zgn ?_; refine zgn ?_; refine zgn ?_; refine zgn ?_; refine zgn ?_; refine zgn ?_; refine zgn ?_; refine zpt ?_; refine zn ?_)
      all_goals refine zct ?_
      all_goals (refine Q0 ?_; refine Q1 ?_; refine zm ?_; refine zR2 (c := Q2s hv hS) (h := ?_); rintro v1 w1 ⟨rfl, hS⟩; rw [if_pos rfl] at hS; refine zn ?_; refine Q0 ?_; refine Q1 ?_; refine zm ?_; refine zn ?_; refine zr ?_; refine zf ?_; exact ⟨_, rfl, 0, _, _, Qod ha h2, rfl, hS.sp⟩)
    · cases m with
      | none =>
        all_goals refine Q2E ?_
        all_goals (unfold R_reading_long_lc; refine Q0 ?_; refine Q1 ?_; refine zm ?_; refine zn ?_; refine Q0 ?_; refine Q0 ?_; refine Q1 ?_; refine zm ?_; refine zR1 (c := Q1U hS) (h := ?_); rintro v1 w1 ⟨rfl, hS⟩; refine znt ?_; refine zn ?_)
        all_goals refine zcf ?_
        all_goals (refine zsk ?_; refine Q0 ?_; refine Q0 ?_; refine zD [(0, none), (1, none), (2, none), (3, none), (4, none), (5, none), (6, none), (7, none), (8, none), (9, none), (10, none), (11, none), (12, none), (13, none), (14, none), (15, none), (16, none), (17, none), (18, none), (19, none), (20, none), (21, none), (22, none), (23, some none)] ?_; have hS := hS.drew; refine zm ?_; refine znc ?_; refine zf0 ?_; refine zl hS ?_; refine zm ?_; refine znc ?_; refine zf0 ?_; refine zl hS ?_; refine zL ?_)
        all_goals (first | (refine Q5Y ?_) | (refine Q6N ?_))
        all_goals (refine zm ?_; (first | refine zgn ?_ | (refine zgy ?_; refine zm ?_)); (first | refine zgn ?_ | (refine zgy ?_; refine znc ?_)); (first | refine zgn ?_ | (refine zgy ?_; refine zf0 ?_)); (first | refine zgn ?_ | (refine zgy ?_; refine zl hS ?_)); (first | refine zgn ?_ | (refine zgy ?_; refine zm ?_)); (first | refine zgn ?_ | (refine zgy ?_; refine znc ?_)); (first | refine zgn ?_ | (refine zgy ?_; refine zf0 ?_)); (first | refine zgn ?_ | (refine zgy ?_; refine zl hS ?_)))
        all_goals (first | refine zgn ?_ | (refine zgy ?_; refine QN (m := at0) vw rfl hv rfl h1 ?_; intro b1 o1 cs1 x1 hat1 hx1 he1; rw [h2] at hx1; cases hx1; obtain rfl := QE he1))
        all_goals ((first | refine zgn ?_ | (refine zgy ?_; (first | refine zf0 ?_ | refine zfd ?_))); (first | refine zgn ?_ | (refine zgy ?_; (first | (refine zl hS ?_) | (refine zlk hS ?_) | (refine zlj hS ?_)))); (first | refine zgn ?_ | (refine zgy ?_; refine znt ?_)); (first | (refine zpt ?_) | (refine zpf ?_)); refine zn ?_)
        all_goals refine zct ?_
        all_goals (refine Q0 ?_; refine Q1 ?_; refine zm ?_; refine zR2 (c := Q2s hv hS) (h := ?_); rintro v1 w1 ⟨rfl, hS⟩; rw [if_pos rfl] at hS; refine zn ?_; refine Q0 ?_; refine Q1 ?_; refine zm ?_; refine zn ?_; refine zr ?_; refine zf ?_; exact ⟨_, rfl, 0, _, _, Qof h1 h3 rfl, rfl, hS.sp⟩)
      | some n =>
        all_goals refine Q2E ?_
        all_goals (unfold R_reading_long_lc; refine Q0 ?_; refine Q1 ?_; refine zm ?_; refine zn ?_; refine Q0 ?_; refine Q0 ?_; refine Q1 ?_; refine zm ?_; refine zR1 (c := Q1U hS) (h := ?_); rintro v1 w1 ⟨rfl, hS⟩; refine znt ?_; refine zn ?_)
        all_goals refine zcf ?_
        all_goals (refine zsk ?_; refine Q0 ?_; refine Q0 ?_; refine zD [(0, none), (1, none), (2, none), (3, none), (4, none), (5, none), (6, none), (7, none), (8, none), (9, none), (10, none), (11, none), (12, none), (13, none), (14, none), (15, none), (16, none), (17, none), (18, none), (19, none), (20, none), (21, none), (22, none), (23, some none)] ?_; have hS := hS.drew; refine zm ?_; refine znc ?_; refine zf0 ?_; refine zl hS ?_; refine zm ?_; refine znc ?_; refine zf0 ?_; refine zl hS ?_; refine zL ?_)
        all_goals (first | (refine Q5Y ?_) | (refine Q6N ?_))
        all_goals (refine zm ?_; (first | refine zgn ?_ | (refine zgy ?_; refine zm ?_)); (first | refine zgn ?_ | (refine zgy ?_; refine znc ?_)); (first | refine zgn ?_ | (refine zgy ?_; refine zf0 ?_)); (first | refine zgn ?_ | (refine zgy ?_; refine zl hS ?_)); (first | refine zgn ?_ | (refine zgy ?_; refine zm ?_)); (first | refine zgn ?_ | (refine zgy ?_; refine znc ?_)); (first | refine zgn ?_ | (refine zgy ?_; refine zf0 ?_)); (first | refine zgn ?_ | (refine zgy ?_; refine zl hS ?_)))
        all_goals (first | refine zgn ?_ | (refine zgy ?_; refine QN (m := at0) vw rfl hv rfl h1 ?_; intro b1 o1 cs1 x1 hat1 hx1 he1; rw [h2] at hx1; cases hx1; obtain rfl := QE he1))
        all_goals ((first | refine zgn ?_ | (refine zgy ?_; (first | refine zf0 ?_ | refine zfd ?_))); (first | refine zgn ?_ | (refine zgy ?_; (first | (refine zl hS ?_) | (refine zlk hS ?_) | (refine zlj hS ?_)))); (first | refine zgn ?_ | (refine zgy ?_; refine znt ?_)); (first | (refine zpt ?_) | (refine zpf ?_)); refine zn ?_)
        all_goals refine zcf ?_
        all_goals (refine zsk ?_; refine Q0 ?_; refine Q1 ?_; refine zm ?_; refine znc ?_; refine zf0 ?_; refine zl hS ?_; refine zad ?_; refine znc ?_; refine zf0 ?_; refine zst hS ?_; intro w1 hS; have hS := hS.ns; refine zn ?_; refine Q0 ?_; refine zD [(0, none), (1, none), (2, none), (3, none), (4, none), (5, none), (6, none), (7, none), (8, none), (9, none), (10, none), (11, none), (12, some none)] ?_; have hS := hS.drew; refine zm ?_; refine znc ?_; refine zf0 ?_; refine zl hS ?_; refine zm ?_; refine znc ?_; refine zf0 ?_; refine zl hS ?_; refine zsu ?_; rw [show ((at0 : Int) + 1 - 1) = (at0 : Int) by omega])
        all_goals (refine QN (m := at0) vw rfl hv rfl h1 ?_; intro b1 o1 cs1 x1 hat1 hx1 he1; rw [h2] at hx1; cases hx1; obtain rfl := QE he1)
        all_goals ((first | refine zf0 ?_ | refine zfd ?_); (first | (refine zl hS ?_) | (refine zlk hS ?_) | (refine zlj hS ?_)); refine zm ?_; refine zn ?_; refine zr ?_; refine zf ?_; exact ⟨_, rfl, n, at0 + 1, _, Qoe h1 h3 rfl, rfl, hS.sp⟩)
theorem wide_n {a : Nat} {t2 : List UInt8} {r l : List Tok} (h : l = ⟨a, t2, none⟩ :: r) : Qcj l = false := by rw [h]; unfold Qcj; rfl
theorem wide_y {a : Nat} {t2 : List UInt8} {n : Int} {r l : List Tok} (h : l = ⟨a, t2, some n⟩ :: r) (hn : n < 0 ∨ 1000000 < n) : Qcj l = true := by rw [h]; unfold Qcj; exact decide_eq_true hn
theorem wide_o {a : Nat} {t2 : List UInt8} {n : Int} {r l : List Tok} (h : l = ⟨a, t2, some n⟩ :: r) (hn : ¬ (n < 0 ∨ 1000000 < n)) : Qcj l = false := by rw [h]; unfold Qcj; exact decide_eq_false hn
theorem wide_z {l : List Tok} (h : l = []) : Qcj l = false := by rw [h]; unfold Qcj; rfl
theorem Q1Q {rb e at0 : Nat} {v : Value} {f : Flt} {tk : List Tok} (hv : tokR.sl cx v tk) (hf : Q2c tk at0 f) (hS : St cx w (rgb rb v e at0 f :: L)) :
    Rets Tryz.prog QbZ [.pointer (some ⟨rb, 0, none⟩)] w fun u w' => ∃ n at1 f1, PTake (pNum e) tk at0 f n at1 f1 ∧ u = .int .i64 n ∧ St cx w' (rgb rb v e at1 f1 :: L) := by
  have hl := hv.len
  obtain ⟨va, vn, rfl⟩ := Rep.SR.shape hv
  have hf' := hf
  unfold Q2c at hf
  rcases hf with hbad | ⟨rfl, ha⟩
  · skip
    all_goals refine Q1T ?_
    all_goals (unfold R_reading_num_lc; refine Q0 ?_; refine Q1 ?_; refine zm ?_; refine zn ?_; refine Q0 ?_; refine Q0 ?_; refine zD [(0, none), (1, some none), (2, none), (3, none), (4, none), (5, none), (6, none), (7, none), (8, none), (9, none), (10, none), (11, none), (12, none), (13, none), (14, none), (15, none), (16, none), (17, none), (18, none), (19, none), (20, none), (21, none), (22, none), (23, none), (24, none), (25, none), (26, none), (27, none), (28, none), (29, none), (30, none), (31, none), (32, none), (33, none), (34, none), (35, none), (36, none), (37, none), (38, none), (39, none), (40, none), (41, none), (42, none), (43, none), (44, none), (45, none), (46, none), (47, none), (48, none), (49, none), (50, none), (51, none), (52, none), (53, none), (54, some none)] ?_; have hS := hS.drew; refine zm ?_; refine zR1 (c := Q1U hS) (h := ?_); rintro v1 w1 ⟨rfl, hS⟩; rw [decide_eq_false hbad]; refine zm ?_; refine zgn ?_; refine zgn ?_; refine zgn ?_; refine zgn ?_; refine zgn ?_; refine zgn ?_; refine zgn ?_)
    all_goals (refine zgn ?_; refine zgn ?_)
    all_goals (refine zgn ?_)
    all_goals ((first | (refine zpt ?_) | (refine zpf ?_)); refine zm ?_; refine zgn ?_; refine zgn ?_; refine zgn ?_; refine zgn ?_; refine zgn ?_; refine zgn ?_; refine zgn ?_; refine zgn ?_; refine zgn ?_; refine zgn ?_; refine zgn ?_; (first | (refine zpt ?_) | (refine zpf ?_)); refine zm ?_; refine zgn ?_; refine zgn ?_)
    all_goals (refine zgn ?_; refine zgn ?_; refine zgn ?_; refine zgn ?_; refine zgn ?_; refine zgn ?_; refine zgn ?_; refine zgn ?_; refine zgn ?_)
    all_goals (refine zgn ?_)
    all_goals (refine zgn ?_; refine zgn ?_; refine zgn ?_; refine zgn ?_; refine zgn ?_; refine zgn ?_; refine zgn ?_; refine zgn ?_; refine zgn ?_; refine zgn ?_; refine zgn ?_; refine zgn ?_)
    all_goals (refine zgn ?_)
    all_goals (refine zgn ?_; (first | (refine zpt ?_) | (refine zpf ?_)); refine zn ?_)
    all_goals refine zcf ?_
    all_goals (refine zsk ?_; refine Q0 ?_; refine Q1 ?_; refine zm ?_; refine zR1 (c := Q5F hv hf' hS) (h := ?_); rintro v1 w1 ⟨n, at1, f1, g1, rfl, hS⟩; refine zm ?_; refine zn ?_; refine zr ?_; refine zf ?_)
    all_goals (exact ⟨_, rfl, n, _, _, Qb0 (fun h => absurd h hbad) g1, rfl, hS.sp⟩)
  · rcases stand tk at0 with ⟨h1, h2⟩ | ⟨⟨a, t2, m⟩, h1, h2, h3⟩
    · skip
      all_goals refine Q1T ?_
      all_goals (unfold R_reading_num_lc; refine Q0 ?_; refine Q1 ?_; refine zm ?_; refine zn ?_; refine Q0 ?_; refine Q0 ?_; refine zD [(0, none), (1, some none), (2, none), (3, none), (4, none), (5, none), (6, none), (7, none), (8, none), (9, none), (10, none), (11, none), (12, none), (13, none), (14, none), (15, none), (16, none), (17, none), (18, none), (19, none), (20, none), (21, none), (22, none), (23, none), (24, none), (25, none), (26, none), (27, none), (28, none), (29, none), (30, none), (31, none), (32, none), (33, none), (34, none), (35, none), (36, none), (37, none), (38, none), (39, none), (40, none), (41, none), (42, none), (43, none), (44, none), (45, none), (46, none), (47, none), (48, none), (49, none), (50, none), (51, none), (52, none), (53, none), (54, some none)] ?_; have hS := hS.drew; refine zm ?_; refine zR1 (c := Q1U hS) (h := ?_); rintro v1 w1 ⟨rfl, hS⟩; refine zm ?_; (first | refine zgn ?_ | (refine zgy ?_; refine zm ?_)); (first | refine zgn ?_ | (refine zgy ?_; refine znc ?_)); (first | refine zgn ?_ | (refine zgy ?_; refine zf0 ?_)); (first | refine zgn ?_ | (refine zgy ?_; refine zl hS ?_)); (first | refine zgn ?_ | (refine zgy ?_; refine zm ?_)); (first | refine zgn ?_ | (refine zgy ?_; refine znc ?_)); (first | refine zgn ?_ | (refine zgy ?_; refine zf0 ?_)))
      all_goals ((first | refine zgn ?_ | (refine zgy ?_; refine zl hS ?_)); (first | refine zgn ?_ | (refine zgy ?_; refine zL ?_)))
      all_goals (first | refine zgn ?_ | (refine zgy ?_; (first | (refine Q1b ?_) | (refine Q1z ?_))))
      all_goals (refine zpt ?_; refine zm ?_; refine zgn ?_; refine zgn ?_; refine zgn ?_; refine zgn ?_; refine zgn ?_; refine zgn ?_; refine zgn ?_; refine zgn ?_; refine zgn ?_; refine zgn ?_; refine zgn ?_; (first | (refine zpt ?_) | (refine zpf ?_)); refine zm ?_; refine zgn ?_; refine zgn ?_)
      all_goals (refine zgn ?_; refine zgn ?_; refine zgn ?_; refine zgn ?_; refine zgn ?_; refine zgn ?_; refine zgn ?_; refine zgn ?_; refine zgn ?_)
      all_goals (refine zgn ?_)
      all_goals (refine zgn ?_; refine zgn ?_; refine zgn ?_; refine zgn ?_; refine zgn ?_; refine zgn ?_; refine zgn ?_; refine zgn ?_; refine zgn ?_; refine zgn ?_; refine zgn ?_; refine zgn ?_)
      all_goals (refine zgn ?_)
      all_goals (refine zgn ?_; (first | (refine zpt ?_) | (refine zpf ?_)); refine zn ?_)
      all_goals refine zcf ?_
      all_goals (refine zsk ?_; refine Q0 ?_; refine Q1 ?_; refine zm ?_; refine zR1 (c := Q5F hv hf' hS) (h := ?_); rintro v1 w1 ⟨n, at1, f1, g1, rfl, hS⟩; refine zm ?_; refine zn ?_; refine zr ?_; refine zf ?_; exact ⟨_, rfl, n, _, _, Qb0 (fun _ => wide_z h2) g1, rfl, hS.sp⟩)
    · cases m with
      | none =>
        all_goals refine Q1T ?_
        all_goals (unfold R_reading_num_lc; refine Q0 ?_; refine Q1 ?_; refine zm ?_; refine zn ?_; refine Q0 ?_; refine Q0 ?_; refine zD [(0, none), (1, some none), (2, none), (3, none), (4, none), (5, none), (6, none), (7, none), (8, none), (9, none), (10, none), (11, none), (12, none), (13, none), (14, none), (15, none), (16, none), (17, none), (18, none), (19, none), (20, none), (21, none), (22, none), (23, none), (24, none), (25, none), (26, none), (27, none), (28, none), (29, none), (30, none), (31, none), (32, none), (33, none), (34, none), (35, none), (36, none), (37, none), (38, none), (39, none), (40, none), (41, none), (42, none), (43, none), (44, none), (45, none), (46, none), (47, none), (48, none), (49, none), (50, none), (51, none), (52, none), (53, none), (54, some none)] ?_; have hS := hS.drew; refine zm ?_; refine zR1 (c := Q1U hS) (h := ?_); rintro v1 w1 ⟨rfl, hS⟩; refine zm ?_; (first | refine zgn ?_ | (refine zgy ?_; refine zm ?_)); (first | refine zgn ?_ | (refine zgy ?_; refine znc ?_)); (first | refine zgn ?_ | (refine zgy ?_; refine zf0 ?_)); (first | refine zgn ?_ | (refine zgy ?_; refine zl hS ?_)); (first | refine zgn ?_ | (refine zgy ?_; refine zm ?_)); (first | refine zgn ?_ | (refine zgy ?_; refine znc ?_)); (first | refine zgn ?_ | (refine zgy ?_; refine zf0 ?_)))
        all_goals ((first | refine zgn ?_ | (refine zgy ?_; refine zl hS ?_)); (first | refine zgn ?_ | (refine zgy ?_; refine zL ?_)))
        all_goals (first | refine zgn ?_ | (refine zgy ?_; refine Q1b ?_))
        all_goals (refine zpt ?_; refine zm ?_; (first | refine zgn ?_ | (refine zgy ?_; refine zm ?_)); (first | refine zgn ?_ | (refine zgy ?_; refine znc ?_)); (first | refine zgn ?_ | (refine zgy ?_; refine zf0 ?_)); (first | refine zgn ?_ | (refine zgy ?_; refine zl hS ?_)); (first | refine zgn ?_ | (refine zgy ?_; refine zm ?_)); (first | refine zgn ?_ | (refine zgy ?_; refine znc ?_)); (first | refine zgn ?_ | (refine zgy ?_; refine zf0 ?_)); (first | refine zgn ?_ | (refine zgy ?_; refine zl hS ?_)))
        all_goals (first | refine zgn ?_ | (refine zgy ?_; refine QN (m := at0) vw rfl hv rfl h1 ?_; intro b1 o1 cs1 x1 hat1 hx1 he1; rw [h2] at hx1; cases hx1; obtain rfl := QE he1))
        all_goals ((first | refine zgn ?_ | (refine zgy ?_; (first | refine zf0 ?_ | refine zfd ?_))); (first | refine zgn ?_ | (refine zgy ?_; (first | (refine zl hS ?_) | (refine zlk hS ?_) | (refine zlj hS ?_)))); refine zpt ?_; refine zm ?_; refine zgn ?_; refine zgn ?_; refine zgn ?_; refine zgn ?_; refine zgn ?_; refine zgn ?_; refine zgn ?_; refine zgn ?_)
        all_goals (refine zgn ?_)
        all_goals (refine zgn ?_; refine zgn ?_)
        all_goals (refine zgn ?_)
        all_goals (refine zgn ?_; refine zgn ?_; refine zgn ?_; refine zgn ?_; refine zgn ?_; refine zgn ?_; refine zgn ?_; refine zgn ?_; refine zgn ?_)
        all_goals (refine zgn ?_)
        all_goals (refine zgn ?_; refine zgn ?_)
        all_goals (refine zgn ?_)
        all_goals (refine zgn ?_; (first | (refine zpt ?_) | (refine zpf ?_)); refine zn ?_)
        all_goals refine zcf ?_
        all_goals (refine zsk ?_; refine Q0 ?_; refine Q1 ?_; refine zm ?_; refine zR1 (c := Q5F hv hf' hS) (h := ?_); rintro v1 w1 ⟨n, at1, f1, g1, rfl, hS⟩; refine zm ?_; refine zn ?_; refine zr ?_; refine zf ?_; exact ⟨_, rfl, n, _, _, Qb0 (fun _ => wide_n h3) g1, rfl, hS.sp⟩)
      | some q =>
        by_cases hw : q < 0 ∨ 1000000 < q
        · have hwt := wide_y h3 hw
          by_cases hw1 : q < 0
          · skip
            all_goals refine Q1T ?_
            all_goals (unfold R_reading_num_lc; refine Q0 ?_; refine Q1 ?_; refine zm ?_; refine zn ?_; refine Q0 ?_; refine Q0 ?_; refine zD [(0, none), (1, some none), (2, none), (3, none), (4, none), (5, none), (6, none), (7, none), (8, none), (9, none), (10, none), (11, none), (12, none), (13, none), (14, none), (15, none), (16, none), (17, none), (18, none), (19, none), (20, none), (21, none), (22, none), (23, none), (24, none), (25, none), (26, none), (27, none), (28, none), (29, none), (30, none), (31, none), (32, none), (33, none), (34, none), (35, none), (36, none), (37, none), (38, none), (39, none), (40, none), (41, none), (42, none), (43, none), (44, none), (45, none), (46, none), (47, none), (48, none), (49, none), (50, none), (51, none), (52, none), (53, none), (54, some none)] ?_; have hS := hS.drew; refine zm ?_; refine zR1 (c := Q1U hS) (h := ?_); rintro v1 w1 ⟨rfl, hS⟩; refine zm ?_; (first | refine zgn ?_ | (refine zgy ?_; refine zm ?_)); (first | refine zgn ?_ | (refine zgy ?_; refine znc ?_)); (first | refine zgn ?_ | (refine zgy ?_; refine zf0 ?_)); (first | refine zgn ?_ | (refine zgy ?_; refine zl hS ?_)); (first | refine zgn ?_ | (refine zgy ?_; refine zm ?_)); (first | refine zgn ?_ | (refine zgy ?_; refine znc ?_)); (first | refine zgn ?_ | (refine zgy ?_; refine zf0 ?_)))
            all_goals ((first | refine zgn ?_ | (refine zgy ?_; refine zl hS ?_)); (first | refine zgn ?_ | (refine zgy ?_; refine zL ?_)))
            all_goals (first | refine zgn ?_ | (refine zgy ?_; refine Q1b ?_))
            all_goals (refine zpt ?_; refine zm ?_; (first | refine zgn ?_ | (refine zgy ?_; refine zm ?_)); (first | refine zgn ?_ | (refine zgy ?_; refine znc ?_)); (first | refine zgn ?_ | (refine zgy ?_; refine zf0 ?_)); (first | refine zgn ?_ | (refine zgy ?_; refine zl hS ?_)); (first | refine zgn ?_ | (refine zgy ?_; refine zm ?_)); (first | refine zgn ?_ | (refine zgy ?_; refine znc ?_)); (first | refine zgn ?_ | (refine zgy ?_; refine zf0 ?_)); (first | refine zgn ?_ | (refine zgy ?_; refine zl hS ?_)))
            all_goals (first | refine zgn ?_ | (refine zgy ?_; refine QN (m := at0) vw rfl hv rfl h1 ?_; intro b1 o1 cs1 x1 hat1 hx1 he1; rw [h2] at hx1; cases hx1; obtain rfl := QE he1))
            all_goals ((first | refine zgn ?_ | (refine zgy ?_; (first | refine zf0 ?_ | refine zfd ?_))); (first | refine zgn ?_ | (refine zgy ?_; (first | (refine zl hS ?_) | (refine zlk hS ?_) | (refine zlj hS ?_)))); refine zpt ?_; refine zm ?_; (first | refine zgn ?_ | (refine zgy ?_; refine zm ?_)); (first | refine zgn ?_ | (refine zgy ?_; refine znc ?_)); (first | refine zgn ?_ | (refine zgy ?_; refine zf0 ?_)); (first | refine zgn ?_ | (refine zgy ?_; refine zl hS ?_)); (first | refine zgn ?_ | (refine zgy ?_; refine zm ?_)); (first | refine zgn ?_ | (refine zgy ?_; refine znc ?_)); (first | refine zgn ?_ | (refine zgy ?_; refine zf0 ?_)); (first | refine zgn ?_ | (refine zgy ?_; refine zl hS ?_)))
            all_goals (first | refine zgn ?_ | (refine zgy ?_; refine QN (m := at0) vw rfl hv rfl h1 ?_; intro b1 o1 cs1 x1 hat1 hx1 he1; rw [h2] at hx1; cases hx1; obtain rfl := QE he1))
            all_goals ((first | refine zgn ?_ | (refine zgy ?_; (first | refine zf0 ?_ | refine zfd ?_))); (first | refine zgn ?_ | (refine zgy ?_; (first | (refine zl hS ?_) | (refine zlk hS ?_) | (refine zlj hS ?_)))); (first | refine zgn ?_ | (refine zgy ?_; refine QlR rfl rfl (show q < 0 by omega) ?_)); (first | refine zgn ?_ | (refine zgy ?_; refine zm ?_)); refine zgn ?_; refine zgn ?_; refine zgn ?_; refine zgn ?_; refine zgn ?_; refine zgn ?_; refine zgn ?_; refine zgn ?_)
            all_goals (refine zgn ?_)
            all_goals (refine zgn ?_; refine zgn ?_; refine zgn ?_; (first | refine zgn ?_ | (refine zgy ?_; refine zpt ?_)); refine zpt ?_; refine zn ?_)
            all_goals refine zct ?_
            all_goals (refine Q1 ?_; refine zm ?_; refine zR2 (c := Q2s hv hS) (h := ?_); rintro v1 w1 ⟨rfl, hS⟩; rw [if_pos rfl] at hS; refine zn ?_; refine Q0 ?_; refine Q1 ?_; refine zm ?_; refine zR1 (c := Q5F hv (Q2u (Q21 (by decide))) hS) (h := ?_); rintro v1 w1 ⟨n, at1, f1, g1, rfl, hS⟩; have e1 := Q17 g1 (Q21 (by decide)); subst e1; refine zm ?_; refine zn ?_; refine zr ?_; refine zf ?_; exact ⟨_, rfl, n, _, _, QgY ha hwt, rfl, hS.sp⟩)
          · have hw2 : 1000000 < q := by omega
            all_goals refine Q1T ?_
            all_goals (unfold R_reading_num_lc; refine Q0 ?_; refine Q1 ?_; refine zm ?_; refine zn ?_; refine Q0 ?_; refine Q0 ?_; refine zD [(0, none), (1, some none), (2, none), (3, none), (4, none), (5, none), (6, none), (7, none), (8, none), (9, none), (10, none), (11, none), (12, none), (13, none), (14, none), (15, none), (16, none), (17, none), (18, none), (19, none), (20, none), (21, none), (22, none), (23, none), (24, none), (25, none), (26, none), (27, none), (28, none), (29, none), (30, none), (31, none), (32, none), (33, none), (34, none), (35, none), (36, none), (37, none), (38, none), (39, none), (40, none), (41, none), (42, none), (43, none), (44, none), (45, none), (46, none), (47, none), (48, none), (49, none), (50, none), (51, none), (52, none), (53, none), (54, some none)] ?_; have hS := hS.drew; refine zm ?_; refine zR1 (c := Q1U hS) (h := ?_); rintro v1 w1 ⟨rfl, hS⟩; refine zm ?_; (first | refine zgn ?_ | (refine zgy ?_; refine zm ?_)); (first | refine zgn ?_ | (refine zgy ?_; refine znc ?_)); (first | refine zgn ?_ | (refine zgy ?_; refine zf0 ?_)); (first | refine zgn ?_ | (refine zgy ?_; refine zl hS ?_)); (first | refine zgn ?_ | (refine zgy ?_; refine zm ?_)); (first | refine zgn ?_ | (refine zgy ?_; refine znc ?_)); (first | refine zgn ?_ | (refine zgy ?_; refine zf0 ?_)))
            all_goals ((first | refine zgn ?_ | (refine zgy ?_; refine zl hS ?_)); (first | refine zgn ?_ | (refine zgy ?_; refine zL ?_)))
            all_goals (first | refine zgn ?_ | (refine zgy ?_; refine Q1b ?_))
            all_goals (refine zpt ?_; refine zm ?_; (first | refine zgn ?_ | (refine zgy ?_; refine zm ?_)); (first | refine zgn ?_ | (refine zgy ?_; refine znc ?_)); (first | refine zgn ?_ | (refine zgy ?_; refine zf0 ?_)); (first | refine zgn ?_ | (refine zgy ?_; refine zl hS ?_)); (first | refine zgn ?_ | (refine zgy ?_; refine zm ?_)); (first | refine zgn ?_ | (refine zgy ?_; refine znc ?_)); (first | refine zgn ?_ | (refine zgy ?_; refine zf0 ?_)); (first | refine zgn ?_ | (refine zgy ?_; refine zl hS ?_)))
            all_goals (first | refine zgn ?_ | (refine zgy ?_; refine QN (m := at0) vw rfl hv rfl h1 ?_; intro b1 o1 cs1 x1 hat1 hx1 he1; rw [h2] at hx1; cases hx1; obtain rfl := QE he1))
            all_goals ((first | refine zgn ?_ | (refine zgy ?_; (first | refine zf0 ?_ | refine zfd ?_))); (first | refine zgn ?_ | (refine zgy ?_; (first | (refine zl hS ?_) | (refine zlk hS ?_) | (refine zlj hS ?_)))); refine zpt ?_; refine zm ?_; (first | refine zgn ?_ | (refine zgy ?_; refine zm ?_)); (first | refine zgn ?_ | (refine zgy ?_; refine znc ?_)); (first | refine zgn ?_ | (refine zgy ?_; refine zf0 ?_)); (first | refine zgn ?_ | (refine zgy ?_; refine zl hS ?_)); (first | refine zgn ?_ | (refine zgy ?_; refine zm ?_)); (first | refine zgn ?_ | (refine zgy ?_; refine znc ?_)); (first | refine zgn ?_ | (refine zgy ?_; refine zf0 ?_)); (first | refine zgn ?_ | (refine zgy ?_; refine zl hS ?_)))
            all_goals (first | refine zgn ?_ | (refine zgy ?_; refine QN (m := at0) vw rfl hv rfl h1 ?_; intro b1 o1 cs1 x1 hat1 hx1 he1; rw [h2] at hx1; cases hx1; obtain rfl := QE he1))
            all_goals ((first | refine zgn ?_ | (refine zgy ?_; (first | refine zf0 ?_ | refine zfd ?_))); (first | refine zgn ?_ | (refine zgy ?_; (first | (refine zl hS ?_) | (refine zlk hS ?_) | (refine zlj hS ?_)))); (first | refine zgn ?_ | (refine zgy ?_; (first | refine QlR rfl rfl (show q < 0 by omega) ?_ | refine QpA rfl rfl (show ¬ q < 0 by omega) ?_))); (first | refine zgn ?_ | (refine zgy ?_; refine zm ?_)); (first | refine zgn ?_ | (refine zgy ?_; refine zm ?_)); (first | refine zgn ?_ | (refine zgy ?_; refine znc ?_)); (first | refine zgn ?_ | (refine zgy ?_; refine zf0 ?_)); (first | refine zgn ?_ | (refine zgy ?_; refine zl hS ?_)); (first | refine zgn ?_ | (refine zgy ?_; refine zm ?_)); (first | refine zgn ?_ | (refine zgy ?_; refine znc ?_)); (first | refine zgn ?_ | (refine zgy ?_; refine zf0 ?_)); (first | refine zgn ?_ | (refine zgy ?_; refine zl hS ?_)))
            all_goals (first | refine zgn ?_ | (refine zgy ?_; refine QN (m := at0) vw rfl hv rfl h1 ?_; intro b1 o1 cs1 x1 hat1 hx1 he1; rw [h2] at hx1; cases hx1; obtain rfl := QE he1))
            all_goals ((first | refine zgn ?_ | (refine zgy ?_; (first | refine zf0 ?_ | refine zfd ?_))); (first | refine zgn ?_ | (refine zgy ?_; (first | (refine zl hS ?_) | (refine zlk hS ?_) | (refine zlj hS ?_)))); (first | refine zgn ?_ | (refine zgy ?_; refine Q5C rfl rfl (show (1000000 : Int) < q by omega) ?_)); (first | refine zgn ?_ | (refine zgy ?_; (first | (refine zpt ?_) | (refine zpf ?_)))); refine zpt ?_; refine zn ?_)
            all_goals refine zct ?_
            all_goals (refine Q1 ?_; refine zm ?_; refine zR2 (c := Q2s hv hS) (h := ?_); rintro v1 w1 ⟨rfl, hS⟩; rw [if_pos rfl] at hS; refine zn ?_; refine Q0 ?_; refine Q1 ?_; refine zm ?_; refine zR1 (c := Q5F hv (Q2u (Q21 (by decide))) hS) (h := ?_); rintro v1 w1 ⟨n, at1, f1, g1, rfl, hS⟩; have e1 := Q17 g1 (Q21 (by decide)); subst e1; refine zm ?_; refine zn ?_; refine zr ?_; refine zf ?_; exact ⟨_, rfl, n, _, _, QgY ha hwt, rfl, hS.sp⟩)
        · have hw1 : ¬ q < 0 := by omega
          have hw2 : ¬ 1000000 < q := by omega
          all_goals refine Q1T ?_
          all_goals (unfold R_reading_num_lc; refine Q0 ?_; refine Q1 ?_; refine zm ?_; refine zn ?_; refine Q0 ?_; refine Q0 ?_; refine zD [(0, none), (1, some none), (2, none), (3, none), (4, none), (5, none), (6, none), (7, none), (8, none), (9, none), (10, none), (11, none), (12, none), (13, none), (14, none), (15, none), (16, none), (17, none), (18, none), (19, none), (20, none), (21, none), (22, none), (23, none), (24, none), (25, none), (26, none), (27, none), (28, none), (29, none), (30, none), (31, none), (32, none), (33, none), (34, none), (35, none), (36, none), (37, none), (38, none), (39, none), (40, none), (41, none), (42, none), (43, none), (44, none), (45, none), (46, none), (47, none), (48, none), (49, none), (50, none), (51, none), (52, none), (53, none), (54, some none)] ?_; have hS := hS.drew; refine zm ?_; refine zR1 (c := Q1U hS) (h := ?_); rintro v1 w1 ⟨rfl, hS⟩; refine zm ?_; (first | refine zgn ?_ | (refine zgy ?_; refine zm ?_)); (first | refine zgn ?_ | (refine zgy ?_; refine znc ?_)); (first | refine zgn ?_ | (refine zgy ?_; refine zf0 ?_)); (first | refine zgn ?_ | (refine zgy ?_; refine zl hS ?_)); (first | refine zgn ?_ | (refine zgy ?_; refine zm ?_)); (first | refine zgn ?_ | (refine zgy ?_; refine znc ?_)); (first | refine zgn ?_ | (refine zgy ?_; refine zf0 ?_)))
          all_goals ((first | refine zgn ?_ | (refine zgy ?_; refine zl hS ?_)); (first | refine zgn ?_ | (refine zgy ?_; refine zL ?_)))
          all_goals (first | refine zgn ?_ | (refine zgy ?_; refine Q1b ?_))
          all_goals (refine zpt ?_; refine zm ?_; (first | refine zgn ?_ | (refine zgy ?_; refine zm ?_)); (first | refine zgn ?_ | (refine zgy ?_; refine znc ?_)); (first | refine zgn ?_ | (refine zgy ?_; refine zf0 ?_)); (first | refine zgn ?_ | (refine zgy ?_; refine zl hS ?_)); (first | refine zgn ?_ | (refine zgy ?_; refine zm ?_)); (first | refine zgn ?_ | (refine zgy ?_; refine znc ?_)); (first | refine zgn ?_ | (refine zgy ?_; refine zf0 ?_)); (first | refine zgn ?_ | (refine zgy ?_; refine zl hS ?_)))
          all_goals (first | refine zgn ?_ | (refine zgy ?_; refine QN (m := at0) vw rfl hv rfl h1 ?_; intro b1 o1 cs1 x1 hat1 hx1 he1; rw [h2] at hx1; cases hx1; obtain rfl := QE he1))
          all_goals ((first | refine zgn ?_ | (refine zgy ?_; (first | refine zf0 ?_ | refine zfd ?_))); (first | refine zgn ?_ | (refine zgy ?_; (first | (refine zl hS ?_) | (refine zlk hS ?_) | (refine zlj hS ?_)))); refine zpt ?_; refine zm ?_; (first | refine zgn ?_ | (refine zgy ?_; refine zm ?_)); (first | refine zgn ?_ | (refine zgy ?_; refine znc ?_)); (first | refine zgn ?_ | (refine zgy ?_; refine zf0 ?_)); (first | refine zgn ?_ | (refine zgy ?_; refine zl hS ?_)); (first | refine zgn ?_ | (refine zgy ?_; refine zm ?_)); (first | refine zgn ?_ | (refine zgy ?_; refine znc ?_)); (first | refine zgn ?_ | (refine zgy ?_; refine zf0 ?_)); (first | refine zgn ?_ | (refine zgy ?_; refine zl hS ?_)))
          all_goals (first | refine zgn ?_ | (refine zgy ?_; refine QN (m := at0) vw rfl hv rfl h1 ?_; intro b1 o1 cs1 x1 hat1 hx1 he1; rw [h2] at hx1; cases hx1; obtain rfl := QE he1))
          all_goals ((first | refine zgn ?_ | (refine zgy ?_; (first | refine zf0 ?_ | refine zfd ?_))); (first | refine zgn ?_ | (refine zgy ?_; (first | (refine zl hS ?_) | (refine zlk hS ?_) | (refine zlj hS ?_)))); (first | refine zgn ?_ | (refine zgy ?_; (first | refine QlR rfl rfl (show q < 0 by omega) ?_ | refine QpA rfl rfl (show ¬ q < 0 by omega) ?_))); (first | refine zgn ?_ | (refine zgy ?_; refine zm ?_)); (first | refine zgn ?_ | (refine zgy ?_; refine zm ?_)); (first | refine zgn ?_ | (refine zgy ?_; refine znc ?_)); (first | refine zgn ?_ | (refine zgy ?_; refine zf0 ?_)); (first | refine zgn ?_ | (refine zgy ?_; refine zl hS ?_)); (first | refine zgn ?_ | (refine zgy ?_; refine zm ?_)); (first | refine zgn ?_ | (refine zgy ?_; refine znc ?_)); (first | refine zgn ?_ | (refine zgy ?_; refine zf0 ?_)); (first | refine zgn ?_ | (refine zgy ?_; refine zl hS ?_)))
          all_goals (first | refine zgn ?_ | (refine zgy ?_; refine QN (m := at0) vw rfl hv rfl h1 ?_; intro b1 o1 cs1 x1 hat1 hx1 he1; rw [h2] at hx1; cases hx1; obtain rfl := QE he1))
          all_goals ((first | refine zgn ?_ | (refine zgy ?_; (first | refine zf0 ?_ | refine zfd ?_))); (first | refine zgn ?_ | (refine zgy ?_; (first | (refine zl hS ?_) | (refine zlk hS ?_) | (refine zlj hS ?_)))); (first | refine zgn ?_ | (refine zgy ?_; (first | refine Q5C rfl rfl (show (1000000 : Int) < q by omega) ?_ | refine Qcq rfl rfl (show ¬ (1000000 : Int) < q by omega) ?_))); (first | refine zgn ?_ | (refine zgy ?_; (first | (refine zpt ?_) | (refine zpf ?_)))); refine zpt ?_; refine zn ?_)
          all_goals refine zcf ?_
          all_goals (refine zsk ?_; refine Q0 ?_; refine Q1 ?_; refine zm ?_; refine zR1 (c := Q5F hv hf' hS) (h := ?_); rintro v1 w1 ⟨n, at1, f1, g1, rfl, hS⟩; refine zm ?_; refine zn ?_; refine zr ?_; refine zf ?_; exact ⟨_, rfl, n, _, _, Qb0 (fun _ => wide_o h3 hw) g1, rfl, hS.sp⟩)
end Go.Proofs.YtjecflbbcnocdaaGreatDoor
namespace Go.Lir
section
variable {α : Type} {tk : List Tok} {at0 at1 at2 aS e n : Nat} {e0 e1 e2 eS : Flt} {a : α} {acc : List α} {X : PGot (List α)} {b cl : List UInt8} {f : List Tok → PGot α}
/-- Within a list: so far it was read. -/
def PLst (X : PGot (List α)) (e : Nat) (cl : List UInt8) (f : List Tok → PGot α) (tk : List Tok) (aS : Nat) (acc : List α) (n at1 : Nat) (e1 : Flt) : Prop :=
  (e1 = (0, 0) ∧ aS ≤ at1 ∧ at1 ≤ tk.length ∧ X = Q2Y acc (pMany e cl f (101 - n) n (tk.drop at1))) ∨ (e1.1 ≠ 0 ∧ X = .error e1)
/-- At its end. -/
def PStp (X : PGot (List α)) (cl : List UInt8) (tk : List Tok) (aS : Nat) (acc : List α) (at1 : Nat) (e1 : Flt) : Prop :=
  (e1 = (0, 0) ∧ aS ≤ at1 ∧ at1 ≤ tk.length ∧ isT cl (tk.drop at1) = true ∧ X = .ok (acc, (tk.drop at1).tail)) ∨ (e1.1 ≠ 0 ∧ X = .error e1)
/-- What is read from a start on; behind a fault that fault. -/
def Q4r (r : List Tok → PGot (List α)) (tk : List Tok) (aS : Nat) (eS : Flt) : PGot (List α) := if eS.1 ≠ 0 then .error eS else r (tk.drop aS)
theorem plst_0 (h : PTake (want e b) tk aS eS () at1 e1) : PLst (Q4r (Q15 e b cl f) tk aS eS) e cl f tk aS [] 0 at1 e1 := by
  unfold Q4r
  rcases h with ⟨h, rfl⟩ | ⟨rfl, h3, ⟨h4, rfl, h5, h6⟩ | ⟨h4, h5⟩⟩
  · rw [if_pos h]; exact .inr ⟨h, rfl⟩
  · rw [if_neg (fun h => h rfl)]; exact .inl ⟨rfl, h5, h6, QpN h4⟩
  · rw [if_neg (fun h => h rfl)]; exact .inr ⟨h5, QpL h4⟩
theorem PLst.fine (h : PLst X e cl f tk aS acc n at1 e1) : Q2c tk at1 e1 := by
  rcases h with ⟨rfl, h1, h2, h3⟩ | ⟨h, _⟩
  · exact .inr ⟨rfl, h2⟩
  · exact .inl h
theorem PStp.fine (h : PStp X cl tk aS acc at1 e1) : Q2c tk at1 e1 := by
  rcases h with ⟨rfl, h1, h2, h3⟩ | ⟨h, _⟩
  · exact .inr ⟨rfl, h2⟩
  · exact .inl h
theorem QrP (h : PLst X e cl f tk aS acc n at1 e1) (h0 : e1.1 ≠ 0) : PStp X cl tk aS acc at1 e1 := by
  rcases h with ⟨rfl, _⟩ | h
  · exact absurd rfl h0
  · exact .inr h
theorem Qu0 (h : PLst X e cl f tk aS acc n at1 (0, 0)) (hn : 100 < n) {p : Nat} : PStp X cl tk aS acc p (Q1X e 2 (tk.drop at1)) := by
  rcases h with ⟨_, h1, h2, h3⟩ | ⟨h, _⟩
  · exact .inr ⟨Q21 (by decide), QpG h3 hn⟩
  · exact absurd rfl h
theorem pstp_end (h : PLst X e cl f tk aS acc n at1 (0, 0)) (hn : n ≤ 100) (hq : isT cl (tk.drop at1) = true) : PStp X cl tk aS acc at1 (0, 0) := by
  rcases h with ⟨_, h1, h2, h3⟩ | ⟨h, _⟩
  · exact .inl ⟨rfl, h1, h2, hq, QgZ h3 hn hq⟩
  · exact absurd rfl h
theorem Qss (h : PLst X e cl f tk aS acc n at1 (0, 0)) (hn : n ≤ 100) (hq : isT cl (tk.drop at1) = false) (h0 : 0 < n) (hw : PTake (want e [44]) tk at1 (0, 0) () at2 e2) (hb : e2.1 ≠ 0) : PStp X cl tk aS acc at2 e2 := by
  rcases h with ⟨_, h1, h2, h3⟩ | ⟨h, _⟩
  · rcases hw with ⟨h, _⟩ | ⟨_, _, ⟨_, rfl, _⟩ | ⟨h4, h5⟩⟩
    · exact absurd rfl h
    · exact absurd rfl hb
    · exact .inr ⟨hb, QpH h3 hn hq h0 h4⟩
  · exact absurd rfl h
/-- One more was read. -/
theorem plst_1 (h : PLst X e cl f tk aS acc n at0 (0, 0)) (hn : n ≤ 100) (hq : isT cl (tk.drop at0) = false) (hw : PTake (fun l => if n = 0 then .ok ((), l) else want e [44] l) tk at0 (0, 0) () at1 (0, 0)) (hf : PTake f tk at1 (0, 0) a at2 e2) : PLst X e cl f tk aS (acc ++ [a]) (n + 1) at2 e2 := by
  rcases h with ⟨_, h1, h2, h3⟩ | ⟨h, _⟩
  · rcases hw with ⟨h, _⟩ | ⟨_, _, ⟨h4, _, h5, h6⟩ | ⟨_, h5⟩⟩
    · exact absurd rfl h
    · rcases hf with ⟨h, _⟩ | ⟨_, _, ⟨h7, rfl, h8, h9⟩ | ⟨h7, h8⟩⟩
      · exact absurd rfl h
      · exact .inl ⟨rfl, by omega, h9, QpI h3 hn hq h4 h7⟩
      · exact .inr ⟨h8, QpJ h3 hn hq h4 h7⟩
    · exact absurd rfl h5
  · exact absurd rfl h
theorem comma_0 (hn : n = 0) (ha : at0 ≤ tk.length) : PTake (fun l => if n = 0 then .ok ((), l) else want e [44] l) tk at0 (0, 0) () at0 (0, 0) := Q31 (by rw [if_pos hn]) (Nat.le_refl _) ha
theorem comma_1 (hn : 0 < n) (h : PTake (want e [44]) tk at0 (0, 0) () at1 e1) : PTake (fun l => if n = 0 then .ok ((), l) else want e [44] l) tk at0 (0, 0) () at1 e1 := Q2f (by rw [if_neg (by omega)]) h
/-- The list was read. -/
theorem QrR (h : PStp (Q4r (Q15 e b cl f) tk aS eS) cl tk aS acc at1 e1) (hS : Q2c tk aS eS) (hw : PTake (want e cl) tk at1 e1 () at2 e2) : PTake (Q15 e b cl f) tk aS eS acc at2 e2 := by
  unfold Q4r at h
  rcases hS with hb | ⟨rfl, hS⟩
  · rw [if_pos hb] at h
    rcases h with ⟨rfl, h1, h2, h3, h4⟩ | ⟨h1, h2⟩
    · cases h4
    · cases h2
      have := Q17 hw h1
      subst this; exact Q50 hb
  · rw [if_neg (fun h => h rfl)] at h
    rcases h with ⟨rfl, h1, h2, h3, h4⟩ | ⟨h1, h2⟩
    · rcases hw with ⟨h, _⟩ | ⟨_, _, ⟨h5, rfl, h6, h7⟩ | ⟨h5, _⟩⟩
      · exact absurd rfl h
      · refine Q31 ?_ (by omega) h7
        unfold want at h5; rw [if_pos h3] at h5
        simp only [Except.ok.injEq, Prod.mk.injEq, true_and] at h5
        rw [h4, h5]
      · unfold want at h5; rw [if_pos h3] at h5; cases h5
    · have := Q17 hw h1
      subst this; exact Q26 hS h2 h1
end
end Go.Lir
namespace Go.Proofs.YtjecflbbcnocdaaGreatDoor
open Go.Lir
set_option maxHeartbeats 1000000
attribute [local irreducible] LC.wp Q2 QA QB retQ Q1e LO.wp Qj Calls
set_option linter.unusedSimpArgs false
set_option linter.unusedVariables false
attribute [local irreducible] pNum Q38 want Q2c isT PTake PLst PStp pMany Q15
variable {cx : Cx} {w : World} {L : List Res} {α : Type}
theorem QrM {X : PGot (List α)} {f : List Tok → PGot α} {acc : List α} {rb e at0 aS n : Nat} {v : Value} {f0 : Flt} {tk : List Tok} {cl : List UInt8} (hn : n ≤ 1000) (hv : tokR.sl cx v tk) (h : PLst X e cl f tk aS acc n at0 f0) (hS : St cx w (rgb rb v e at0 f0 :: L)) :
    Rets Tryz.prog Q9S [.pointer (some ⟨rb, 0, none⟩), .string ⟨cl.toArray⟩, .int .i64 (n : Int)] w fun u w' => ∃ at1 f1, St cx w' (rgb rb v e at1 f1 :: L) ∧
      ((u = .bool true ∧ n ≤ 100 ∧ f0 = (0, 0) ∧ f1 = (0, 0) ∧ Q2c tk at1 (0, 0) ∧ ∀ a at2 e2, PTake f tk at1 (0, 0) a at2 e2 → PLst X e cl f tk aS (acc ++ [a]) (n + 1) at2 e2) ∨ (u = .bool false ∧ PStp X cl tk aS acc at1 f1)) := by
  have hf := h.fine
  unfold Q2c at hf
  by_cases h100 : 100 < n
  · rcases hf with hbad | ⟨rfl, ha⟩
    · skip
      all_goals refine Q1G ?_
      all_goals (unfold R_reading_more_lc; refine Q0 ?_; refine Q1 ?_; refine zm ?_; refine zn ?_; refine Q0 ?_; refine Q0 ?_; refine Q1 ?_; refine zm ?_)
      all_goals (refine QD ?_)
      all_goals (refine zn ?_)
      all_goals refine zct ?_
      all_goals (refine Q1 ?_; refine zm ?_; refine zR2 (c := Q2s hv hS) (h := ?_); rintro v1 w1 ⟨rfl, hS⟩; rw [if_neg hbad] at hS; refine zn ?_; refine Q0 ?_; refine Q0 ?_; refine Q1 ?_; refine zm ?_; refine zR1 (c := Q1U hS) (h := ?_); rintro v1 w1 ⟨rfl, hS⟩; rw [decide_eq_false hbad]; refine znt ?_; refine zm ?_; refine zgn ?_; refine zgn ?_; refine zgn ?_; refine zpt ?_; refine zn ?_)
      all_goals refine zct ?_
      all_goals (refine Q0 ?_; refine Q1 ?_; refine zm ?_; refine zn ?_; refine zr ?_; refine zf ?_; exact ⟨_, rfl, _, _, hS.sp, .inr ⟨rfl, QrP h hbad⟩⟩)
    · have hz : (Q1X e 2 (tk.drop at0)).1 ≠ 0 := Q21 (by decide)
      all_goals refine Q1G ?_
      all_goals (unfold R_reading_more_lc; refine Q0 ?_; refine Q1 ?_; refine zm ?_; refine zn ?_; refine Q0 ?_; refine Q0 ?_; refine Q1 ?_; refine zm ?_)
      all_goals (refine QD ?_)
      all_goals (refine zn ?_)
      all_goals refine zct ?_
      all_goals (refine Q1 ?_; refine zm ?_; refine zR2 (c := Q2s hv hS) (h := ?_); rintro v1 w1 ⟨rfl, hS⟩; rw [if_pos rfl] at hS; refine zn ?_; refine Q0 ?_; refine Q0 ?_; refine Q1 ?_; refine zm ?_; refine zR1 (c := Q1U hS) (h := ?_); rintro v1 w1 ⟨rfl, hS⟩; rw [decide_eq_false hz]; refine znt ?_; refine zm ?_; refine zgn ?_; refine zgn ?_; refine zgn ?_; refine zpt ?_; refine zn ?_)
      all_goals refine zct ?_
      all_goals (refine Q0 ?_; refine Q1 ?_; refine zm ?_; refine zn ?_; refine zr ?_; refine zf ?_; exact ⟨_, rfl, _, _, hS.sp, .inr ⟨rfl, Qu0 h h100⟩⟩)
  · have h1 : n ≤ 100 := by omega
    rcases hf with hbad | ⟨rfl, ha⟩
    · skip
      all_goals refine Q1G ?_
      all_goals (unfold R_reading_more_lc; refine Q0 ?_; refine Q1 ?_; refine zm ?_; refine zn ?_; refine Q0 ?_; refine Q0 ?_; refine Q1 ?_; refine zm ?_)
      all_goals (first | (refine QD ?_) | (refine QR ?_))
      all_goals (refine zn ?_)
      all_goals refine zcf ?_
      all_goals (refine zsk ?_; refine Q0 ?_; refine Q0 ?_; refine Q1 ?_; refine zm ?_; refine zR1 (c := Q1U hS) (h := ?_); rintro v1 w1 ⟨rfl, hS⟩; rw [decide_eq_false hbad]; refine znt ?_; refine zm ?_; refine zgn ?_; refine zgn ?_; refine zgn ?_; refine zpt ?_; refine zn ?_)
      all_goals refine zct ?_
      all_goals (refine Q0 ?_; refine Q1 ?_; refine zm ?_; refine zn ?_; refine zr ?_; refine zf ?_; exact ⟨_, rfl, _, _, hS.sp, .inr ⟨rfl, QrP h hbad⟩⟩)
    · cases hq : isT cl (tk.drop at0) with
      | true =>
        all_goals refine Q1G ?_
        all_goals (unfold R_reading_more_lc; refine Q0 ?_; refine Q1 ?_; refine zm ?_; refine zn ?_; refine Q0 ?_; refine Q0 ?_; refine Q1 ?_; refine zm ?_)
        all_goals (first | (refine QD ?_) | (refine QR ?_))
        all_goals (refine zn ?_)
        all_goals refine zcf ?_
        all_goals (refine zsk ?_; refine Q0 ?_; refine Q0 ?_; refine Q1 ?_; refine zm ?_; refine zR1 (c := Q1U hS) (h := ?_); rintro v1 w1 ⟨rfl, hS⟩; refine znt ?_; refine zm ?_; (first | refine zgn ?_ | (refine zgy ?_; refine zm ?_)); (first | refine zgn ?_ | (refine zgy ?_; refine zm ?_)); (first | refine zgn ?_ | (refine zgy ?_; refine zR2 (c := Q2e (s := cl) hv hS) (h := ?_); rintro v1 w1 ⟨rfl, hS⟩; rw [hq])); (first | (refine zpt ?_) | (refine zpf ?_)); refine zn ?_)
        all_goals refine zct ?_
        all_goals (refine Q0 ?_; refine Q1 ?_; refine zm ?_; refine zn ?_; refine zr ?_; refine zf ?_; exact ⟨_, rfl, _, _, hS.sp, .inr ⟨rfl, pstp_end h h1 hq⟩⟩)
      | false =>
        by_cases h0 : 0 < n
        · skip
          all_goals refine Q1G ?_
          all_goals (unfold R_reading_more_lc; refine Q0 ?_; refine Q1 ?_; refine zm ?_; refine zn ?_; refine Q0 ?_; refine Q0 ?_; refine Q1 ?_; refine zm ?_)
          all_goals (first | (refine QD ?_) | (refine QR ?_))
          all_goals (refine zn ?_)
          all_goals refine zcf ?_
          all_goals (refine zsk ?_; refine Q0 ?_; refine Q0 ?_; refine Q1 ?_; refine zm ?_; refine zR1 (c := Q1U hS) (h := ?_); rintro v1 w1 ⟨rfl, hS⟩; refine znt ?_; refine zm ?_; (first | refine zgn ?_ | (refine zgy ?_; refine zm ?_)); (first | refine zgn ?_ | (refine zgy ?_; refine zm ?_)); (first | refine zgn ?_ | (refine zgy ?_; refine zR2 (c := Q2e (s := cl) hv hS) (h := ?_); rintro v1 w1 ⟨rfl, hS⟩; rw [hq])); (first | (refine zpt ?_) | (refine zpf ?_)); refine zn ?_)
          all_goals refine zcf ?_
          all_goals (refine zsk ?_; refine Q0 ?_; refine Q0 ?_; refine Q1 ?_; refine zm ?_)
          all_goals (refine QD ?_)
          all_goals (refine zn ?_)
          all_goals refine zct ?_
          all_goals (refine Q1 ?_; refine zm ?_; refine zR2 (c := Q1m (s := [44]) hv (Q3j ha) hS) (h := ?_); rintro v1 w1 ⟨at1, f1, g1, rfl, hS⟩; refine zn ?_; refine Q0 ?_; refine Q1 ?_; refine zm ?_)
          all_goals (refine zR1 (c := Q1U hS) (h := ?_); rintro v1 w1 ⟨rfl, hS⟩; cases hd : decide (f1.1 = 0))
          all_goals (refine zm ?_; refine zn ?_; refine zr ?_; refine zf ?_; (first | exact ⟨_, rfl, _, _, hS.sp, .inr ⟨rfl, Qss h h1 hq h0 g1 (of_decide_eq_false hd)⟩⟩ | (have z9 := Qsr g1 (of_decide_eq_true hd); have z8 := z9.1; subst z8; exact ⟨_, rfl, _, _, hS.sp, .inl ⟨rfl, h1, rfl, rfl, Q3j z9.2, fun a at2 e2 k => plst_1 h h1 hq (comma_1 h0 g1) k⟩⟩)))
        · have h00 : n = 0 := by omega
          all_goals refine Q1G ?_
          all_goals (unfold R_reading_more_lc; refine Q0 ?_; refine Q1 ?_; refine zm ?_; refine zn ?_; refine Q0 ?_; refine Q0 ?_; refine Q1 ?_; refine zm ?_)
          all_goals (first | (refine QD ?_) | (refine QR ?_))
          all_goals (refine zn ?_)
          all_goals refine zcf ?_
          all_goals (refine zsk ?_; refine Q0 ?_; refine Q0 ?_; refine Q1 ?_; refine zm ?_; refine zR1 (c := Q1U hS) (h := ?_); rintro v1 w1 ⟨rfl, hS⟩; refine znt ?_; refine zm ?_; (first | refine zgn ?_ | (refine zgy ?_; refine zm ?_)); (first | refine zgn ?_ | (refine zgy ?_; refine zm ?_)); (first | refine zgn ?_ | (refine zgy ?_; refine zR2 (c := Q2e (s := cl) hv hS) (h := ?_); rintro v1 w1 ⟨rfl, hS⟩; rw [hq])); (first | (refine zpt ?_) | (refine zpf ?_)); refine zn ?_)
          all_goals refine zcf ?_
          all_goals (refine zsk ?_; refine Q0 ?_; refine Q0 ?_; refine Q1 ?_; refine zm ?_)
          all_goals (first | (refine QD ?_) | (refine QR ?_))
          all_goals (refine zn ?_)
          all_goals refine zcf ?_
          all_goals (refine zsk ?_; refine Q0 ?_; refine Q1 ?_; refine zm ?_; refine zR1 (c := Q1U hS) (h := ?_); rintro v1 w1 ⟨rfl, hS⟩; refine zm ?_; refine zn ?_; refine zr ?_; refine zf ?_; exact ⟨_, rfl, _, _, hS.sp, .inl ⟨rfl, h1, rfl, rfl, Q3j ha, fun a at2 e2 k => plst_1 h h1 hq (comma_0 h00 ha) k⟩⟩)
attribute [local irreducible] Q4r
theorem Q83 {b cl : List UInt8} {rb e at0 : Nat} {v : Value} {f : Flt} {tk : List Tok} (hv : tokR.sl cx v tk) (hf : Q2c tk at0 f) (hS : St cx w (rgb rb v e at0 f :: L)) :
    Rets Tryz.prog Q3N [.pointer (some ⟨rb, 0, none⟩), .string ⟨b.toArray⟩, .string ⟨cl.toArray⟩] w fun u w' => ∃ xs at1 f1 c', PTake (Q15 e b cl (pNum e)) tk at0 f xs at1 f1 ∧ cx.Le c' ∧ intR.sl c' u xs ∧ St c' w' (rgb rb v e at1 f1 :: L) := by
  have hle := St.refl hS
  all_goals refine Qds ?_
  all_goals (unfold R_reading_nums_lc; refine Q0 ?_; refine Q1 ?_; refine zm ?_; refine zn ?_; refine Q0 ?_; refine Q1 ?_; refine zm ?_; refine zn ?_; refine Q0 ?_; refine Q1 ?_; refine zm ?_; refine zm ?_; refine zR2 (c := Q1m hv hf hS) (h := ?_); rintro v1 w1 ⟨at1, f1, g1, rfl, hS⟩; refine zn ?_; refine Q0 ?_; refine Qa ?_; have hS := St.nil (T := 3) (es := 1) hS; have hd0 := plst_0 (cl := cl) (f := pNum e) g1)
  refine zo [0, 2] (fun A ρ' w' => ∃ (n at2 : Nat) (f2 : Flt) (xs : List Int) (vl : Value) (co : List (List Value)), Has ρ' A ∧ Has ρ' [(7, vl)] ∧ (n ≤ 101) ∧ (xs.length = n) ∧ (PLst (Q4r (Q15 e b cl (pNum e)) tk at0 f) e cl (pNum e) tk at0 xs n at2 f2) ∧ (intR.ls cx co xs) ∧ (oneC vl = true) ∧ St cx w' (rgb rb v e at2 f2 :: sl 3 1 vl co :: L)) (fun ρ' _ => 102 - slen (ρ' 7)) ?_ ?_
  · exact ⟨0, at1, f1, [], _, _, zh, zh, by omega, rfl, hd0, Rep.LR.nil _ _ _, rfl, hS.sp⟩
  rintro ρ w1 ⟨n, at2, f2, xs, vl, co, hA, hρ, hn, hxl, hP, hlo, hvl, hS⟩; obtain ⟨ρ, rfl⟩ := env2 hA hρ
  unfold Q5k
  all_goals (refine Q0 ?_; refine Q0 ?_; refine Q1 ?_; refine zm ?_; refine zm ?_; refine zm ?_; have hsl := St.slen hS (i := 1) rfl; have hcl := hlo.1; refine Q9Z hS vw (i := 1) rfl (n := n) (by omega) ?_)
  all_goals (refine zR3 (c := QrM (by omega) hv hP hS) (h := ?_); rintro v1 w1 ⟨at3, f3, hS, hX⟩; rcases hX with ⟨rfl, hn1, hz0, rfl, hpf, hstep⟩ | ⟨rfl, hstop⟩)
  all_goals (refine zn ?_)
  all_goals
    first
    | (refine zct ?_ -- Q3N c0
       all_goals (refine zsk ?_; refine Qa ?_; refine Q1 ?_; refine zm ?_; refine zm ?_; refine zR1 (c := Q1Q hv hpf hS) (h := ?_); rintro v2 w1 ⟨a, at4, f4, g4, rfl, hS⟩; have hP4 := hstep _ _ _ g4; have hd1 : intR.at cx [.int .i64 a] a := rfl; refine zB1 hS [_] ?_; intro b1 w1 hS; refine za el_T46 u_T46 hS ?_; intro vp1 w1 css1 hls1 hv1 hS; have hS := hS.ns; refine zm ?_; refine zn ?_)
       all_goals (exact ⟨⟨n + 1, at4, f4, xs ++ [a], _, _, zh, zh, by omega, by simp [hxl], hP4, hls1, by assumption, hS.sp⟩, (by have hsl2 := St.slen hS (i := 2) rfl; have hcl2 := hls1.1; rw [List.length_append] at hcl2; have hc1 : [a].length = 1 := rfl; show 102 - slen vp1 < 102 - slen vl; omega)⟩))
    | (refine zcf ?_ -- Q3N c0
       all_goals (refine zex ?_; refine Q0 ?_; refine Q1 ?_; refine zm ?_; refine zm ?_; refine zR2 (c := Q1m hv hstop.fine hS) (h := ?_); rintro v1 w1 ⟨at5, f5, g5, rfl, hS⟩; refine zn ?_; refine Q0 ?_; refine Q1 ?_; refine zm ?_; refine zm ?_; refine zn ?_; refine zr ?_; refine zf ?_)
       all_goals (obtain ⟨c4, hle4, hS, hk4⟩ := St.freezeL (r := intR) (hS.out (r := sl 3 1 vl co) fd) hlo rfl (by omega); exact ⟨_, rfl, xs, at5, f5, c4, QrR hstop hf g5, hle4, hk4, hS.sp⟩))
end Go.Proofs.YtjecflbbcnocdaaGreatDoor
namespace Go.Lir
section
variable {tk : List Tok} {at0 at1 at2 at3 at4 e k : Nat} {f0 f1 f2 f3 f4 : Flt} {n : Int} {xs ys : List Int} {ts : List Ty}
theorem take_to (g1 : PTake (pNum e) tk at0 f0 n at1 f1) (g2 : PTake (Q15 e [60] [62] (pNum e)) tk at1 f1 xs at2 f2) (g3 : PTake (Q15 e [40] [41] (pNum e)) tk at2 f2 ys at3 f3) : PTake (pTo e) tk at0 f0 ⟨n, xs, ys⟩ at3 f3 := by
  have h := Qe (g := fun b l => Q6 (Qh6 e l) fun regs l => Q6 (Q4T e l) fun args l => .ok ((⟨b, regs, args⟩ : To), l)) g1
    (Qe (f := Qh6 e) (g := fun regs l => Q6 (Q4T e l) fun args l => .ok ((⟨n, regs, args⟩ : To), l)) g2 (Qe (f := Q4T e) (g := fun args l => .ok ((⟨n, xs, args⟩ : To), l)) g3 (QY g3.fine)))
  exact h
theorem typ_tup (h : isT tInt (tk.drop at0) = false) (h1 : isT Q1Z (tk.drop at0) = false) (h2 : isT Q3O (tk.drop at0) = false) (g1 : PTake (want e Q2F) tk at0 (0, 0) () at1 f1) (g2 : PTake (pNum e) tk at1 f1 n at2 f2) (g3 : PTake (Q15 e [40] [41] (pTyp e k)) tk at2 f2 ts at3 f3) : PTake (pTyp e (k + 1)) tk at0 (0, 0) (.mk 3 n ts) at3 f3 := by
  refine Q2f (rd := fun l => Q6 (want e Q2F l) fun _ l => Q6 (pNum e l) fun n l => Q6 (Q15 e [40] [41] (pTyp e k) l) fun ts l => .ok (.mk 3 n ts, l)) ?_ ?_
  · exact ty_tup h h1 h2
  · exact Qe (g := fun _ l => Q6 (pNum e l) fun n l => Q6 (Q15 e [40] [41] (pTyp e k) l) fun ts l => .ok (Ty.mk 3 n ts, l)) g1 (Qe (g := fun n l => Q6 (Q15 e [40] [41] (pTyp e k) l) fun ts l => .ok (Ty.mk 3 n ts, l)) g2 (Qe (g := fun ts l => .ok (Ty.mk 3 n ts, l)) g3 (QY g3.fine)))
theorem QlD (ha : at0 ≤ tk.length) (h : isT tInt (tk.drop at0) = true) : PTake (pTyp e (k + 1)) tk at0 (0, 0) (.mk 1 0 []) (at0 + 1) (0, 0) := by
  have h1 := Qla h
  rw [List.length_tail, List.length_drop] at h1
  exact Q31 (by rw [ty_i h, List.tail_drop]) (by omega) (by omega)
theorem QgH {c : Int} (ha : at0 ≤ tk.length) {s : List UInt8} (hq : isT s (tk.drop at0) = true) (hX : pTyp e (k + 1) (tk.drop at0) = Q6 (pNum e (tk.drop at0).tail) fun n l => .ok (.mk c n [], l)) (g : PTake (pNum e) tk (at0 + 1) (0, 0) n at1 f1) : PTake (pTyp e (k + 1)) tk at0 (0, 0) (.mk c n []) at1 f1 := by
  rw [List.tail_drop] at hX
  rcases g with ⟨h, _⟩ | ⟨_, h2, ⟨h3, rfl, h4, h5⟩ | ⟨h3, h4⟩⟩
  · exact absurd rfl h
  · exact Q31 (by rw [hX, h3]; rfl) (by omega) h5
  · exact Q26 ha (by rw [hX, h3]; rfl) h4
theorem typ_h (h : isT tInt (tk.drop at0) = false) (h2 : isT Q1Z (tk.drop at0) = true) : pTyp e (k + 1) (tk.drop at0) = Q6 (pNum e (tk.drop at0).tail) fun n l => .ok (.mk 2 n [], l) := by
  rw [pTyp, if_neg (by rw [h]; decide), if_pos h2]
theorem typ_a (h : isT tInt (tk.drop at0) = false) (h1 : isT Q1Z (tk.drop at0) = false) (h2 : isT Q3O (tk.drop at0) = true) : pTyp e (k + 1) (tk.drop at0) = Q6 (pNum e (tk.drop at0).tail) fun n l => .ok (.mk 4 n [], l) := by
  rw [pTyp, if_neg (by rw [h]; decide), if_neg (by rw [h1]; decide), if_pos h2]
theorem typ_0 (ha : at0 ≤ tk.length) {t : Ty} {p : Nat} : PTake (pTyp e 0) tk at0 (0, 0) t p (Q1X e 19 (tk.drop at0)) := Q26 ha (by rw [pTyp]) (Q21 (by decide))
theorem QcO {s : List UInt8} (ha : at0 ≤ tk.length) (h : isT s (tk.drop at0) = true) : at0 + 1 ≤ tk.length := by
  have h1 := Qla h
  rw [List.length_tail, List.length_drop] at h1
  omega
end
end Go.Lir
namespace Go.Proofs.YtjecflbbcnocdaaGreatDoor
open Go.Lir
set_option maxHeartbeats 1000000
attribute [local irreducible] LC.wp Q2 QA QB retQ Q1e LO.wp Qj Calls
set_option linter.unusedSimpArgs false
set_option linter.unusedVariables false
attribute [local irreducible] pNum Q38 want Q2c isT PTake PLst PStp pMany Q15 Q4r pTyp pTo
variable {cx : Cx} {w : World} {L : List Res}
theorem QtS {rb e at0 : Nat} {v : Value} {f : Flt} {tk : List Tok} (hv : tokR.sl cx v tk) (hf : Q2c tk at0 f) (hS : St cx w (rgb rb v e at0 f :: L)) :
    Rets Tryz.prog Qf4 [.pointer (some ⟨rb, 0, none⟩)] w fun u w' => ∃ x at1 f1 c' ds, PTake (pTo e) tk at0 f x at1 f1 ∧ cx.Le c' ∧ u = .agg ⟨ds⟩ ∧ toR.at c' ds x ∧ St c' w' (rgb rb v e at1 f1 :: L) := by
  have hle := St.refl hS
  all_goals refine QhJ ?_
  all_goals (unfold R_reading_to_lc; refine Q0 ?_; refine Q1 ?_; refine Q9 hS ?_; intro p2 w1 hS; refine zn ?_; refine Q0 ?_; have hS : St cx _ (rgb rb v e at0 f :: blk p2 48 [.int .i64 0, .slice none 0 0, .slice none 0 0] :: L) := hS.sp; refine Q1 ?_; refine zm ?_; refine zR1 (c := Q1Q hv hf hS) (h := ?_); rintro v2 w1 ⟨n, at1, f1, g1, rfl, hS⟩; refine zb1 [_, _, _] ?_; refine Q9 hS ?_; intro p3 w1 hS; refine zsn hS ?_; intro w1 hS; have hS := hS.ns; refine zn ?_; refine Q0 ?_; have hS : St cx _ (rgb rb v e at1 f1 :: blk p3 48 [.int .i64 n, .slice none 0 0, .slice none 0 0] :: blk p2 48 [.int .i64 0, .slice none 0 0, .slice none 0 0] :: L) := hS.sp; refine Q1 ?_; refine zm ?_)
  all_goals (refine zR3 (c := Q83 (b := [60]) (cl := [62]) hv g1.fine hS) (h := ?_); rintro vr w1 ⟨xs, at2, f2, c2, g2, hle2, hkr, hS⟩; (try have hle := hle.trans hle2); (try have hv := hv.up hle2); have ho := Rep.SR.oneC hkr)
  all_goals (refine zf0 ?_; refine zst hS ?_; intro w1 hS; have hS := hS.ns; refine zn ?_; refine Q0 ?_; have hS : St c2 _ (rgb rb v e at2 f2 :: blk p3 48 [.int .i64 n, vr, .slice none 0 0] :: blk p2 48 [.int .i64 0, .slice none 0 0, .slice none 0 0] :: L) := hS.sp; refine Q1 ?_; refine zm ?_)
  all_goals (refine zR3 (c := Q83 (b := [40]) (cl := [41]) hv g2.fine hS) (h := ?_); rintro va w1 ⟨ys, at3, f3, c3, g3, hle2, hka, hS⟩; (try have hle := hle.trans hle2); (try have hv := hv.up hle2); (try have hkr := hkr.up hle2); have ho2 := Rep.SR.oneC hka; have hto : toR.at c3 [.int .i64 n, vr, va] ⟨n, xs, ys⟩ := ⟨_, _, rfl, hkr, hka⟩)
  all_goals (refine zf0 ?_; refine zst hS ?_; intro w1 hS; have hS := hS.ns; refine zn ?_; refine Q0 ?_; refine Q1 ?_; refine zv hS ?_; refine zsn hS ?_; intro w1 hS; have hS := hS.ns; refine zn ?_; refine zr ?_; refine Q16 vw (Q5 (n := 3) (by kernel_rfl) (by kernel_rfl) (hS.blkAt fd) (by rfl) (by rfl)) ?_; exact ⟨_, rfl, ⟨n, xs, ys⟩, at3, f3, c3, _, take_to g1 g2 g3, hle, rfl, hto, hS.sp⟩)
/-- What the document's reading of a type does where so many levels are left. -/
def DocTy (rb e : Nat) (tk : List Tok) (k : Nat) : Prop :=
  ∀ (cx : Cx) (w : World) (L : List Res) (d : Int) (v : Value) (at0 : Nat) (f : Flt), 0 ≤ d → d + k = 5 → tokR.sl cx v tk → Q2c tk at0 f → St cx w (rgb rb v e at0 f :: L) →
    Rets Tryz.prog Q11 [.pointer (some ⟨rb, 0, none⟩), .int .i64 d] w fun u w' => ∃ t at1 f1 c' ds, PTake (pTyp e k) tk at0 f t at1 f1 ∧ cx.Le c' ∧ u = .agg ⟨ds⟩ ∧ tyR.at c' ds t ∧ St c' w' (rgb rb v e at1 f1 :: L)
theorem Q76 {rb e at0 k : Nat} {d : Int} {v : Value} {f : Flt} {tk : List Tok} (hT : f.1 = 0 → 0 ≤ d ∧ d + k = 5 ∧ DocTy rb e tk k) (hv : tokR.sl cx v tk) (hf : Q2c tk at0 f) (hS : St cx w (rgb rb v e at0 f :: L)) :
    Rets Tryz.prog Q2y [.pointer (some ⟨rb, 0, none⟩), .int .i64 d] w fun u w' => ∃ xs at1 f1 c', PTake (Q15 e [40] [41] (pTyp e k)) tk at0 f xs at1 f1 ∧ cx.Le c' ∧ tyR.sl c' u xs ∧ St c' w' (rgb rb v e at1 f1 :: L) := by
  have hle := St.refl hS
  all_goals refine QbX ?_
  all_goals (unfold R_reading_types_lc; refine Q0 ?_; refine Q1 ?_; refine zm ?_; refine zn ?_; refine Q0 ?_; refine Q1 ?_; refine zm ?_; refine zn ?_; refine Q0 ?_; refine Q1 ?_; refine zm ?_; refine zR2 (c := Q1m (s := [40]) hv hf hS) (h := ?_); rintro v1 w1 ⟨at1, f1, g1, rfl, hS⟩; refine zn ?_; refine Q0 ?_; refine Qa ?_)
  all_goals (have hS := St.nil (T := 91) (es := 3) hS; have hd0 := plst_0 (cl := [41]) (f := pTyp e k) g1; have hz0 : f1.1 = 0 → f.1 = 0 := (fun h => by by_cases h9 : f.1 = 0; exact h9; rw [Q17 g1 h9] at h; exact absurd h h9))
  refine zo [0, 1] (fun A ρ' w' => ∃ (k0 : Cx) (n at2 : Nat) (f2 : Flt) (xs : List Ty) (vl : Value) (co : List (List Value)), Has ρ' A ∧ Has ρ' [(5, vl)] ∧ (cx.Le k0) ∧ (n ≤ 101) ∧ (xs.length = n) ∧ (f2.1 = 0 → f.1 = 0) ∧ (PLst (Q4r (Q15 e [40] [41] (pTyp e k)) tk at0 f) e [41] (pTyp e k) tk at0 xs n at2 f2) ∧ (tyR.ls k0 co xs) ∧ (oneC vl = true) ∧ St k0 w' (rgb rb v e at2 f2 :: sl 91 3 vl co :: L)) (fun ρ' _ => 102 - slen (ρ' 5)) ?_ ?_
  · exact ⟨cx, 0, at1, f1, [], _, _, zh, zh, St.refl hS, by omega, rfl, hz0, hd0, Rep.LR.nil _ _ _, rfl, hS.sp⟩
  rintro ρ w1 ⟨k0, n, at2, f2, xs, vl, co, hA, hρ, hle2, hn, hxl, hz, hP, hlo, hvl, hS⟩; obtain ⟨ρ, rfl⟩ := env2 hA hρ; have hL0 := hle2; (try have hle := hle.trans hle2); (try have hv := hv.up hle2)
  unfold Q4C
  all_goals (refine Q0 ?_; refine Q0 ?_; refine Q1 ?_; refine zm ?_; refine zm ?_; have hsl := St.slen hS (i := 1) rfl; have hcl := hlo.1; refine Q9Z hS vw (i := 1) rfl (n := n) (by omega) ?_)
  all_goals (refine zR3 (c := QrM (by omega) hv hP hS) (h := ?_); rintro v1 w1 ⟨at3, f3, hS, hX⟩; rcases hX with ⟨rfl, hn1, rfl, rfl, hpf, hstep⟩ | ⟨rfl, hstop⟩)
  all_goals (refine zn ?_)
  all_goals
    first
    | (refine zct ?_ -- Q2y c0
       all_goals (refine zsk ?_; refine Qa ?_; refine Q1 ?_; refine zm ?_; refine zm ?_; refine zm ?_)
       all_goals (obtain ⟨hd0, hdk, hty⟩ := hT (hz rfl); refine zR2 (c := hty _ _ _ d v at3 (0, 0) hd0 hdk hv hpf hS) (h := ?_); rintro v2 w1 ⟨a, at4, f4, c4, ds, g4, hle2, rfl, hd1, hS⟩; have hP4 := hstep _ _ _ g4; (try have hle := hle.trans hle2); (try have hL0 := hL0.trans hle2); (try have hv := hv.up hle2); (try have hlo := hlo.up hle2); have hd1' := hd1; obtain ⟨vo, rfl, ho⟩ := Q1c hd1)
       all_goals (refine zB1 hS [_, _, _] ?_; intro b1 w1 hS; refine za el_T40 u_T40 hS ?_; intro vp1 w1 css1 hls1 hv1 hS; have hS := hS.ns; refine zm ?_; refine zn ?_)
       all_goals (exact ⟨⟨_, n + 1, at4, f4, xs ++ [a], _, _, zh, zh, hL0, by omega, by simp [hxl], (fun _ => hz rfl), hP4, hls1, by assumption, hS.sp⟩, (by have hsl2 := St.slen hS (i := 2) rfl; have hcl2 := hls1.1; rw [List.length_append] at hcl2; have hc1 : [a].length = 1 := rfl; show 102 - slen vp1 < 102 - slen vl; omega)⟩))
    | (refine zcf ?_ -- Q2y c0
       all_goals (refine zex ?_; refine Q0 ?_; refine Q1 ?_; refine zm ?_; refine zR2 (c := Q1m (s := [41]) hv hstop.fine hS) (h := ?_); rintro v1 w1 ⟨at5, f5, g5, rfl, hS⟩; refine zn ?_; refine Q0 ?_; refine Q1 ?_; refine zm ?_; refine zm ?_; refine zn ?_; refine zr ?_; refine zf ?_)
       all_goals (obtain ⟨c4, hle4, hS, hk4⟩ := St.freezeL (r := tyR) (hS.out (r := sl 91 3 vl co) fd) hlo rfl (by omega); exact ⟨_, rfl, xs, at5, f5, c4, QrR hstop hf g5, hL0.trans hle4, hk4, hS.sp⟩))
theorem rgtyp_b {rb e at0 k : Nat} {d : Int} {v : Value} {f : Flt} {tk : List Tok} (hb : f.1 ≠ 0) (hv : tokR.sl cx v tk) (hS : St cx w (rgb rb v e at0 f :: L)) :
    Rets Tryz.prog Q11 [.pointer (some ⟨rb, 0, none⟩), .int .i64 d] w fun u w' => ∃ t at1 f1 c' ds, f1 = f ∧ cx.Le c' ∧ u = .agg ⟨ds⟩ ∧ tyR.at c' ds t ∧ St c' w' (rgb rb v e at1 f1 :: L) := by
  have hle := St.refl hS
  have hnil : tyR.sl cx (.slice none 0 0) [] := Rep.SR.nil _ _ _
  have hb2 : ¬ f.1 = 0 := hb
  by_cases h4 : 4 < d
  · skip
    all_goals refine Q34 ?_
    all_goals (unfold R_reading_typ_lc; refine Q0 ?_; refine Q1 ?_; refine Q9 hS ?_; intro p4 w1 hS; refine zn ?_; refine Q0 ?_; refine Q0 ?_; refine Q1 ?_; refine zm ?_)
    all_goals (refine QD ?_)
    all_goals (refine zn ?_)
    all_goals refine zct ?_
    all_goals (have hS : St cx _ (rgb rb v e at0 f :: blk p4 91 [.int .i64 0, .int .i64 0, .slice none 0 0] :: L) := hS.sp; refine Q1 ?_; refine zm ?_; refine zR2 (c := Q2s hv hS) (h := ?_); rintro v1 w1 ⟨rfl, hS⟩; rw [if_neg hb] at hS; refine zn ?_; refine Q0 ?_; refine Q0 ?_; refine Q1 ?_; refine zm ?_; refine zR2 (c := Q2e (s := tInt) hv hS) (h := ?_); rintro v1 w1 ⟨rfl, hS⟩; rw [decide_eq_false hb2, Bool.false_and]; refine zn ?_)
    all_goals refine zcf ?_
    all_goals (refine zsk ?_; refine Q0 ?_; refine Q0 ?_; refine Q1 ?_; refine zm ?_; refine zR2 (c := Q2e (s := Q1Z) hv hS) (h := ?_); rintro v1 w1 ⟨rfl, hS⟩; rw [decide_eq_false hb2, Bool.false_and]; refine zn ?_)
    all_goals refine zcf ?_
    all_goals (refine zsk ?_; refine Q0 ?_; refine Q0 ?_; refine Q1 ?_; refine zm ?_; refine zR2 (c := Q2e (s := Q3O) hv hS) (h := ?_); rintro v1 w1 ⟨rfl, hS⟩; rw [decide_eq_false hb2, Bool.false_and]; refine zn ?_)
    all_goals refine zcf ?_
    all_goals (refine zsk ?_; refine Q0 ?_; refine Q1 ?_; refine zm ?_; refine zR2 (c := Q1m (s := Q2F) hv (Q2u hb) hS) (h := ?_); rintro v1 w1 ⟨at1, f1, g1, rfl, hS⟩; rw [Q17 g1 hb] at hS; refine zn ?_; refine Q0 ?_; refine Q1 ?_; refine zm ?_; refine zR1 (c := Q1Q hv (Q2u hb) hS) (h := ?_); rintro v2 w1 ⟨n, at2, f2, g2, rfl, hS⟩; rw [Q17 g2 hb] at hS; refine zb2 [_, _, _] ?_; refine Q9 hS ?_; intro p5 w1 hS; refine zsn hS ?_; intro w1 hS; have hS := hS.ns; refine zn ?_; refine Q0 ?_; have hS : St cx _ (rgb rb v e at2 f :: blk p5 91 [.int .i64 3, .int .i64 n, .slice none 0 0] :: blk p4 91 [.int .i64 0, .int .i64 0, .slice none 0 0] :: L) := hS.sp; refine Q1 ?_; refine zm ?_; refine zm ?_; (first | (refine zad ?_) | (refine QtO rfl rfl ?_)))
    all_goals (refine zR2 (c := Q76 (k := 0) (fun h => absurd h hb) hv (Q2u hb) hS) (h := ?_); rintro vl w1 ⟨ts, at3, f3, c3, g3, hle2, hkt, hS⟩; rw [Q17 g3 hb] at hS; have ho := Rep.SR.oneC hkt; have hte : tyR.at c3 [.int .i64 3, .int .i64 n, vl] (.mk 3 n ts) := Q2q hkt)
    all_goals (refine zf0 ?_; refine zst hS ?_; intro w1 hS; have hS := hS.ns; refine zn ?_; refine Q0 ?_; refine Q1 ?_; refine zv hS ?_; refine zsn hS ?_; intro w1 hS; have hS := hS.ns; refine zn ?_; refine zr ?_; refine Q16 vw (Q5 (n := 3) (by kernel_rfl) (by kernel_rfl) (hS.blkAt fd) (by rfl) (by rfl)) ?_; exact ⟨_, rfl, .mk 3 n ts, at3, _, c3, _, rfl, hle2, rfl, hte, hS.sp⟩)
  · skip
    all_goals refine Q34 ?_
    all_goals (unfold R_reading_typ_lc; refine Q0 ?_; refine Q1 ?_; refine Q9 hS ?_; intro p4 w1 hS; refine zn ?_; refine Q0 ?_; refine Q0 ?_; refine Q1 ?_; refine zm ?_)
    all_goals (first | (refine QD ?_) | (refine QR ?_))
    all_goals (refine zn ?_)
    all_goals refine zcf ?_
    all_goals (refine zsk ?_; refine Q0 ?_; refine Q0 ?_; have hS : St cx _ (rgb rb v e at0 f :: blk p4 91 [.int .i64 0, .int .i64 0, .slice none 0 0] :: L) := hS.sp; refine Q1 ?_; refine zm ?_; refine zR2 (c := Q2e (s := tInt) hv hS) (h := ?_); rintro v1 w1 ⟨rfl, hS⟩; rw [decide_eq_false hb2, Bool.false_and]; refine zn ?_)
    all_goals refine zcf ?_
    all_goals (refine zsk ?_; refine Q0 ?_; refine Q0 ?_; refine Q1 ?_; refine zm ?_; refine zR2 (c := Q2e (s := Q1Z) hv hS) (h := ?_); rintro v1 w1 ⟨rfl, hS⟩; rw [decide_eq_false hb2, Bool.false_and]; refine zn ?_)
    all_goals refine zcf ?_
    all_goals (refine zsk ?_; refine Q0 ?_; refine Q0 ?_; refine Q1 ?_; refine zm ?_; refine zR2 (c := Q2e (s := Q3O) hv hS) (h := ?_); rintro v1 w1 ⟨rfl, hS⟩; rw [decide_eq_false hb2, Bool.false_and]; refine zn ?_)
    all_goals refine zcf ?_
    all_goals (refine zsk ?_; refine Q0 ?_; refine Q1 ?_; refine zm ?_; refine zR2 (c := Q1m (s := Q2F) hv (Q2u hb) hS) (h := ?_); rintro v1 w1 ⟨at1, f1, g1, rfl, hS⟩; rw [Q17 g1 hb] at hS; refine zn ?_; refine Q0 ?_; refine Q1 ?_; refine zm ?_; refine zR1 (c := Q1Q hv (Q2u hb) hS) (h := ?_); rintro v2 w1 ⟨n, at2, f2, g2, rfl, hS⟩; rw [Q17 g2 hb] at hS; refine zb2 [_, _, _] ?_; refine Q9 hS ?_; intro p5 w1 hS; refine zsn hS ?_; intro w1 hS; have hS := hS.ns; refine zn ?_; refine Q0 ?_; have hS : St cx _ (rgb rb v e at2 f :: blk p5 91 [.int .i64 3, .int .i64 n, .slice none 0 0] :: blk p4 91 [.int .i64 0, .int .i64 0, .slice none 0 0] :: L) := hS.sp; refine Q1 ?_; refine zm ?_; refine zm ?_; (first | (refine zad ?_) | (refine QtO rfl rfl ?_)))
    all_goals (refine zR2 (c := Q76 (k := 0) (fun h => absurd h hb) hv (Q2u hb) hS) (h := ?_); rintro vl w1 ⟨ts, at3, f3, c3, g3, hle2, hkt, hS⟩; rw [Q17 g3 hb] at hS; have ho := Rep.SR.oneC hkt; have hte : tyR.at c3 [.int .i64 3, .int .i64 n, vl] (.mk 3 n ts) := Q2q hkt)
    all_goals (refine zf0 ?_; refine zst hS ?_; intro w1 hS; have hS := hS.ns; refine zn ?_; refine Q0 ?_; refine Q1 ?_; refine zv hS ?_; refine zsn hS ?_; intro w1 hS; have hS := hS.ns; refine zn ?_; refine zr ?_; refine Q16 vw (Q5 (n := 3) (by kernel_rfl) (by kernel_rfl) (hS.blkAt fd) (by rfl) (by rfl)) ?_; exact ⟨_, rfl, .mk 3 n ts, at3, _, c3, _, rfl, hle2, rfl, hte, hS.sp⟩)
theorem rgtyp_z {rb e at0 : Nat} {d : Int} {v : Value} {tk : List Tok} (hd : 4 < d) (hv : tokR.sl cx v tk) (ha : at0 ≤ tk.length) (hS : St cx w (rgb rb v e at0 (0, 0) :: L)) :
    Rets Tryz.prog Q11 [.pointer (some ⟨rb, 0, none⟩), .int .i64 d] w fun u w' => ∃ t at1 f1 c' ds, PTake (pTyp e 0) tk at0 (0, 0) t at1 f1 ∧ cx.Le c' ∧ u = .agg ⟨ds⟩ ∧ tyR.at c' ds t ∧ St c' w' (rgb rb v e at1 f1 :: L) := by
  have hle := St.refl hS
  have hnil : tyR.sl cx (.slice none 0 0) [] := Rep.SR.nil _ _ _
  obtain ⟨f, hfe⟩ : ∃ f, Q1X e 19 (tk.drop at0) = f := ⟨_, rfl⟩
  have hb : f.1 ≠ 0 := by rw [← hfe]; exact Q21 (by decide)
  have hb2 : ¬ f.1 = 0 := hb
  have h0 : PTake (pTyp e 0) tk at0 (0, 0) (.mk 1 0 []) at0 f := by rw [← hfe]; exact typ_0 ha
  all_goals refine Q34 ?_
  all_goals (unfold R_reading_typ_lc; refine Q0 ?_; refine Q1 ?_; refine Q9 hS ?_; intro p4 w1 hS; refine zn ?_; refine Q0 ?_; refine Q0 ?_; refine Q1 ?_; refine zm ?_)
  all_goals (refine QD ?_)
  all_goals (refine zn ?_)
  all_goals refine zct ?_
  all_goals (have hS : St cx _ (rgb rb v e at0 (0, 0) :: blk p4 91 [.int .i64 0, .int .i64 0, .slice none 0 0] :: L) := hS.sp; refine Q1 ?_; refine zm ?_; refine zR2 (c := Q2s hv hS) (h := ?_); rintro v1 w1 ⟨rfl, hS⟩; rw [if_pos rfl, hfe] at hS; refine zn ?_; refine Q0 ?_; refine Q0 ?_; refine Q1 ?_; refine zm ?_; refine zR2 (c := Q2e (s := tInt) hv hS) (h := ?_); rintro v1 w1 ⟨rfl, hS⟩; rw [decide_eq_false hb2, Bool.false_and]; refine zn ?_)
  all_goals refine zcf ?_
  all_goals (refine zsk ?_; refine Q0 ?_; refine Q0 ?_; refine Q1 ?_; refine zm ?_; refine zR2 (c := Q2e (s := Q1Z) hv hS) (h := ?_); rintro v1 w1 ⟨rfl, hS⟩; rw [decide_eq_false hb2, Bool.false_and]; refine zn ?_)
  all_goals refine zcf ?_
  all_goals (refine zsk ?_; refine Q0 ?_; refine Q0 ?_; refine Q1 ?_; refine zm ?_; refine zR2 (c := Q2e (s := Q3O) hv hS) (h := ?_); rintro v1 w1 ⟨rfl, hS⟩; rw [decide_eq_false hb2, Bool.false_and]; refine zn ?_)
  all_goals refine zcf ?_
  all_goals (refine zsk ?_; refine Q0 ?_; refine Q1 ?_; refine zm ?_; refine zR2 (c := Q1m (s := Q2F) hv (Q2u hb) hS) (h := ?_); rintro v1 w1 ⟨at1, f1, g1, rfl, hS⟩; rw [Q17 g1 hb] at hS; refine zn ?_; refine Q0 ?_; refine Q1 ?_; refine zm ?_; refine zR1 (c := Q1Q hv (Q2u hb) hS) (h := ?_); rintro v2 w1 ⟨n, at2, f2, g2, rfl, hS⟩; rw [Q17 g2 hb] at hS; refine zb2 [_, _, _] ?_; refine Q9 hS ?_; intro p5 w1 hS; refine zsn hS ?_; intro w1 hS; have hS := hS.ns; refine zn ?_; refine Q0 ?_; have hS : St cx _ (rgb rb v e at2 f :: blk p5 91 [.int .i64 3, .int .i64 n, .slice none 0 0] :: blk p4 91 [.int .i64 0, .int .i64 0, .slice none 0 0] :: L) := hS.sp; refine Q1 ?_; refine zm ?_; refine zm ?_; (first | (refine zad ?_) | (refine QtO rfl rfl ?_)))
  all_goals (refine zR2 (c := Q76 (k := 0) (fun h => absurd h hb) hv (Q2u hb) hS) (h := ?_); rintro vl w1 ⟨ts, at3, f3, c3, g3, hle2, hkt, hS⟩; rw [Q17 g3 hb] at hS; have ho := Rep.SR.oneC hkt; have hte : tyR.at c3 [.int .i64 3, .int .i64 n, vl] (.mk 3 n ts) := Q2q hkt)
  all_goals (refine zf0 ?_; refine zst hS ?_; intro w1 hS; have hS := hS.ns; refine zn ?_; refine Q0 ?_; refine Q1 ?_; refine zv hS ?_; refine zsn hS ?_; intro w1 hS; have hS := hS.ns; refine zn ?_; refine zr ?_; refine Q16 vw (Q5 (n := 3) (by kernel_rfl) (by kernel_rfl) (hS.blkAt fd) (by rfl) (by rfl)) ?_; exact ⟨_, rfl, .mk 3 n ts, at3, f, c3, _, hfe ▸ typ_0 ha, hle2, rfl, hte, hS.sp⟩)
theorem rgtyp_s {rb e at0 k : Nat} {d : Int} {v : Value} {tk : List Tok} (hrec : DocTy rb e tk k) (hd0 : 0 ≤ d) (hd : d + k = 4) (hv : tokR.sl cx v tk) (ha : at0 ≤ tk.length) (hS : St cx w (rgb rb v e at0 (0, 0) :: L)) :
    Rets Tryz.prog Q11 [.pointer (some ⟨rb, 0, none⟩), .int .i64 d] w fun u w' => ∃ t at1 f1 c' ds, PTake (pTyp e (k + 1)) tk at0 (0, 0) t at1 f1 ∧ cx.Le c' ∧ u = .agg ⟨ds⟩ ∧ tyR.at c' ds t ∧ St c' w' (rgb rb v e at1 f1 :: L) := by
  have hle := St.refl hS
  have hvl := hv.len
  have hnil : tyR.sl cx (.slice none 0 0) [] := Rep.SR.nil _ _ _
  all_goals refine Q34 ?_
  all_goals (unfold R_reading_typ_lc; refine Q0 ?_; refine Q1 ?_; refine Q9 hS ?_; intro p4 w1 hS; refine zn ?_; refine Q0 ?_; refine Q0 ?_; refine Q1 ?_; refine zm ?_)
  all_goals (first | (refine QD ?_) | (refine QR ?_))
  all_goals (refine zn ?_)
  all_goals refine zcf ?_
  all_goals (refine zsk ?_; refine Q0 ?_; refine Q0 ?_; have hS : St cx _ (rgb rb v e at0 (0, 0) :: blk p4 91 [.int .i64 0, .int .i64 0, .slice none 0 0] :: L) := hS.sp; refine Q1 ?_; refine zm ?_)
  all_goals (refine zR2 (c := Q2e (s := tInt) hv hS) (h := ?_); rintro v1 w1 ⟨rfl, hS⟩; cases q1 : isT tInt (tk.drop at0))
  all_goals (refine zn ?_)
  all_goals
    first
    | (refine zct ?_ -- Q11 c1
       all_goals (refine Q0 ?_; refine Q1 ?_; refine zm ?_; refine znc ?_; refine zf0 ?_; refine zl hS ?_; refine zad ?_; refine znc ?_; refine zf0 ?_; refine zst hS ?_; intro w1 hS; have hS := hS.ns; refine zn ?_; refine Q0 ?_; refine Q1 ?_; refine zb1 [_, _, _] ?_; refine zsn hS ?_; intro w1 hS; have hS := hS.ns; refine zn ?_; refine zr ?_; refine Q16 vw (Q5 (n := 3) (by kernel_rfl) (by kernel_rfl) (hS.blkAt fd) (by rfl) (by rfl)) ?_)
       all_goals (exact ⟨_, rfl, .mk 1 0 [], at0 + 1, (0, 0), cx, _, QlD ha q1, hle, rfl, Q2q hnil, hS.sp⟩))
    | (refine zcf ?_ -- Q11 c1
       all_goals refine zsk ?_)
  all_goals (refine Q0 ?_; refine Q0 ?_; refine Q1 ?_; refine zm ?_)
  all_goals (refine zR2 (c := Q2e (s := Q1Z) hv hS) (h := ?_); rintro v1 w1 ⟨rfl, hS⟩; cases q2 : isT Q1Z (tk.drop at0))
  all_goals (refine zn ?_)
  all_goals
    first
    | (refine zct ?_ -- Q11 c2
       all_goals (refine Q0 ?_; refine Q1 ?_; refine zm ?_; refine znc ?_; refine zf0 ?_; refine zl hS ?_; refine zad ?_; refine znc ?_; refine zf0 ?_; refine zst hS ?_; intro w1 hS; have hS := hS.ns; refine zn ?_; refine Q0 ?_; have hS : St cx _ (rgb rb v e (at0 + 1) (0, 0) :: blk p4 91 [.int .i64 0, .int .i64 0, .slice none 0 0] :: L) := hS.sp; refine Q1 ?_; refine zm ?_; refine zR1 (c := Q1Q hv (Q3j (QcO ha q2)) hS) (h := ?_); rintro v2 w1 ⟨n, at1, f1, g1, rfl, hS⟩; refine zb2 [_, _, _] ?_; refine zsn hS ?_; intro w1 hS; have hS := hS.ns; refine zn ?_; refine zr ?_; refine Q16 vw (Q5 (n := 3) (by kernel_rfl) (by kernel_rfl) (hS.blkAt fd) (by rfl) (by rfl)) ?_)
       all_goals ((first | exact ⟨_, rfl, .mk 1 0 [], at0 + 1, (0, 0), cx, _, QlD ha q1, hle, rfl, Q2q hnil, hS.sp⟩ | exact ⟨_, rfl, .mk 2 n [], at1, f1, cx, _, QgH ha q2 (typ_h q1 q2) g1, hle, rfl, Q2q hnil, hS.sp⟩)))
    | (refine zcf ?_ -- Q11 c2
       all_goals refine zsk ?_)
  all_goals (refine Q0 ?_; refine Q0 ?_; refine Q1 ?_; refine zm ?_)
  all_goals (refine zR2 (c := Q2e (s := Q3O) hv hS) (h := ?_); rintro v1 w1 ⟨rfl, hS⟩; cases q3 : isT Q3O (tk.drop at0))
  all_goals (refine zn ?_)
  all_goals
    first
    | (refine zct ?_ -- Q11 c3
       all_goals (refine Q0 ?_; refine Q1 ?_; refine zm ?_; refine znc ?_; refine zf0 ?_; refine zl hS ?_; refine zad ?_; refine znc ?_; refine zf0 ?_; refine zst hS ?_; intro w1 hS; have hS := hS.ns; refine zn ?_; refine Q0 ?_; have hS : St cx _ (rgb rb v e (at0 + 1) (0, 0) :: blk p4 91 [.int .i64 0, .int .i64 0, .slice none 0 0] :: L) := hS.sp; refine Q1 ?_; refine zm ?_; refine zR1 (c := Q1Q hv (Q3j (QcO ha q3)) hS) (h := ?_); rintro v2 w1 ⟨n, at1, f1, g1, rfl, hS⟩; refine zb2 [_, _, _] ?_; refine zsn hS ?_; intro w1 hS; have hS := hS.ns; refine zn ?_; refine zr ?_; refine Q16 vw (Q5 (n := 3) (by kernel_rfl) (by kernel_rfl) (hS.blkAt fd) (by rfl) (by rfl)) ?_)
       all_goals ((first | exact ⟨_, rfl, .mk 1 0 [], at0 + 1, (0, 0), cx, _, QlD ha q1, hle, rfl, Q2q hnil, hS.sp⟩ | exact ⟨_, rfl, .mk 2 n [], at1, f1, cx, _, QgH ha q2 (typ_h q1 q2) g1, hle, rfl, Q2q hnil, hS.sp⟩ | exact ⟨_, rfl, .mk 4 n [], at1, f1, cx, _, QgH ha q3 (typ_a q1 q2 q3) g1, hle, rfl, Q2q hnil, hS.sp⟩)))
    | (refine zcf ?_ -- Q11 c3
       all_goals refine zsk ?_)
  all_goals (refine Q0 ?_; refine Q1 ?_; refine zm ?_; refine zR2 (c := Q1m (s := Q2F) hv (Q3j ha) hS) (h := ?_); rintro v1 w1 ⟨at1, f1, g1, rfl, hS⟩; refine zn ?_; refine Q0 ?_; refine Q1 ?_; refine zm ?_; refine zR1 (c := Q1Q hv g1.fine hS) (h := ?_); rintro v2 w1 ⟨n, at2, f2, g2, rfl, hS⟩; refine zb2 [_, _, _] ?_; refine Q9 hS ?_; intro p5 w1 hS; refine zsn hS ?_; intro w1 hS; have hS := hS.ns; refine zn ?_; refine Q0 ?_; have hS : St cx _ (rgb rb v e at2 f2 :: blk p5 91 [.int .i64 3, .int .i64 n, .slice none 0 0] :: blk p4 91 [.int .i64 0, .int .i64 0, .slice none 0 0] :: L) := hS.sp; refine Q1 ?_; refine zm ?_; refine zm ?_; refine zad ?_; refine zR2 (c := Q76 (k := k) (fun _ => ⟨by omega, by omega, hrec⟩) hv g2.fine hS) (h := ?_); rintro vl w1 ⟨ts, at3, f3, c3, g3, hle2, hkt, hS⟩; have ho := Rep.SR.oneC hkt; have hte : tyR.at c3 [.int .i64 3, .int .i64 n, vl] (.mk 3 n ts) := Q2q hkt; refine zf0 ?_; refine zst hS ?_; intro w1 hS; have hS := hS.ns; refine zn ?_; refine Q0 ?_; refine Q1 ?_; refine zv hS ?_; refine zsn hS ?_; intro w1 hS; have hS := hS.ns; refine zn ?_; refine zr ?_; refine Q16 vw (Q5 (n := 3) (by kernel_rfl) (by kernel_rfl) (hS.blkAt fd) (by rfl) (by rfl)) ?_)
  all_goals ((first | exact ⟨_, rfl, .mk 1 0 [], at0 + 1, (0, 0), cx, _, QlD ha q1, hle, rfl, Q2q hnil, hS.sp⟩ | exact ⟨_, rfl, .mk 2 n [], at1, f1, cx, _, QgH ha q2 (typ_h q1 q2) g1, hle, rfl, Q2q hnil, hS.sp⟩ | exact ⟨_, rfl, .mk 4 n [], at1, f1, cx, _, QgH ha q3 (typ_a q1 q2 q3) g1, hle, rfl, Q2q hnil, hS.sp⟩ | exact ⟨_, rfl, .mk 3 n ts, at3, f3, c3, _, typ_tup q1 q2 q3 g1 g2 g3, hle2, rfl, hte, hS.sp⟩))
theorem rgtyp_c {rb e : Nat} {tk : List Tok} : ∀ k, DocTy rb e tk k := by
  have bad : ∀ {k : Nat} {cx : Cx} {w : World} {L : List Res} {d : Int} {v : Value} {at0 : Nat} {f : Flt}, f.1 ≠ 0 → tokR.sl cx v tk → St cx w (rgb rb v e at0 f :: L) →
      Rets Tryz.prog Q11 [.pointer (some ⟨rb, 0, none⟩), .int .i64 d] w fun u w' => ∃ t at1 f1 c' ds, PTake (pTyp e k) tk at0 f t at1 f1 ∧ cx.Le c' ∧ u = .agg ⟨ds⟩ ∧ tyR.at c' ds t ∧ St c' w' (rgb rb v e at1 f1 :: L) := by
    intro k cx w L d v at0 f hb hv hS
    refine (rgtyp_b (k := k) hb hv hS).mono ?_
    rintro u w' ⟨t, at1, f1, c', ds, rfl, g⟩
    exact ⟨t, at1, _, c', ds, Q50 hb, g⟩
  intro k
  induction k with
  | zero =>
    intro cx w L d v at0 f h0 hd hv hf hS
    rcases pfine_two hf with hb | ⟨rfl, ha⟩
    · exact bad hb hv hS
    · exact rgtyp_z (by omega) hv ha hS
  | succ k ih =>
    intro cx w L d v at0 f h0 hd hv hf hS
    rcases pfine_two hf with hb | ⟨rfl, ha⟩
    · exact bad hb hv hS
    · exact rgtyp_s ih h0 (by omega) hv ha hS
theorem QlX {rb e at0 : Nat} {v : Value} {f : Flt} {tk : List Tok} (hv : tokR.sl cx v tk) (hf : Q2c tk at0 f) (hS : St cx w (rgb rb v e at0 f :: L)) :
    Rets Tryz.prog Q2y [.pointer (some ⟨rb, 0, none⟩), .int .i64 0] w fun u w' => ∃ xs at1 f1 c', PTake (Q2v e) tk at0 f xs at1 f1 ∧ cx.Le c' ∧ tyR.sl c' u xs ∧ St c' w' (rgb rb v e at1 f1 :: L) :=
  Q76 (k := 5) (fun _ => ⟨by omega, by omega, rgtyp_c 5⟩) hv hf hS
end Go.Proofs.YtjecflbbcnocdaaGreatDoor
namespace Go.Lir
section
variable {α : Type} {tk : List Tok} {at0 at1 at2 at3 at4 at5 at6 e : Nat} {f0 f1 f2 f3 f4 f5 f6 : Flt} {n : Int} {x y : To} {xs : List Int} {t : Tail} {a : α}
theorem Qcu {s : List UInt8} {r r2 : List Tok → PGot α} (ha : at0 ≤ tk.length) (hq : isT s (tk.drop at0) = true) (hX : r (tk.drop at0) = r2 (tk.drop at0).tail) (g : PTake r2 tk (at0 + 1) (0, 0) a at1 f1) : PTake r tk at0 (0, 0) a at1 f1 := by
  rw [List.tail_drop] at hX
  rcases g with ⟨h, _⟩ | ⟨_, h2, ⟨h3, rfl, h4, h5⟩ | ⟨h3, h4⟩⟩
  · exact absurd rfl h
  · exact Q31 (by rw [hX, h3]) (by omega) h5
  · exact Q26 ha (by rw [hX, h3]) h4
theorem take_j (ha : at0 ≤ tk.length) (hq : isT Qf8 (tk.drop at0) = true) (g : PTake (pTo e) tk (at0 + 1) (0, 0) x at1 f1) : PTake (Q3W e) tk at0 (0, 0) ⟨1, 0, x, ⟨0, [], []⟩, []⟩ at1 f1 :=
  Qcu (r2 := fun l => Q6 (pTo e l) fun y l => .ok ((⟨1, 0, y, ⟨0, [], []⟩, []⟩ : Tail), l)) ha hq (tail_j hq) (Qe (g := fun y l => .ok ((⟨1, 0, y, ⟨0, [], []⟩, []⟩ : Tail), l)) g (QY g.fine))
theorem take_i (ha : at0 ≤ tk.length) (hq0 : isT Qf8 (tk.drop at0) = false) (hq : isT tIf (tk.drop at0) = true) (g1 : PTake (pNum e) tk (at0 + 1) (0, 0) n at1 f1) (g2 : PTake (want e tTo) tk at1 f1 () at2 f2) (g3 : PTake (pTo e) tk at2 f2 x at3 f3) (g4 : PTake (want e Qjd) tk at3 f3 () at4 f4) (g5 : PTake (pTo e) tk at4 f4 y at5 f5) : PTake (Q3W e) tk at0 (0, 0) ⟨2, n, x, y, []⟩ at5 f5 :=
  Qcu (r2 := fun l => Q6 (pNum e l) fun a l => Q6 (want e tTo l) fun _ l => Q6 (pTo e l) fun y l => Q6 (want e Qjd l) fun _ l => Q6 (pTo e l) fun n l => .ok ((⟨2, a, y, n, []⟩ : Tail), l)) ha hq (tail_i hq0 hq)
    (Qe (g := fun a l => Q6 (want e tTo l) fun _ l => Q6 (pTo e l) fun y l => Q6 (want e Qjd l) fun _ l => Q6 (pTo e l) fun n l => .ok ((⟨2, a, y, n, []⟩ : Tail), l)) g1
    (Qe (g := fun _ l => Q6 (pTo e l) fun y l => Q6 (want e Qjd l) fun _ l => Q6 (pTo e l) fun m l => .ok ((⟨2, n, y, m, []⟩ : Tail), l)) g2
    (Qe (g := fun y l => Q6 (want e Qjd l) fun _ l => Q6 (pTo e l) fun m l => .ok ((⟨2, n, y, m, []⟩ : Tail), l)) g3
    (Qe (g := fun _ l => Q6 (pTo e l) fun m l => .ok ((⟨2, n, x, m, []⟩ : Tail), l)) g4 (Qe (g := fun m l => .ok ((⟨2, n, x, m, []⟩ : Tail), l)) g5 (QY g5.fine))))))
theorem take_r (hq : f0.1 = 0 → isT Qf8 (tk.drop at0) = false ∧ isT tIf (tk.drop at0) = false) (g1 : PTake (want e tRet) tk at0 f0 () at1 f1) (g2 : PTake (Q15 e [40] [41] (pNum e)) tk at1 f1 xs at2 f2) : PTake (Q3W e) tk at0 f0 ⟨3, 0, ⟨0, [], []⟩, ⟨0, [], []⟩, xs⟩ at2 f2 := by
  have h := Qe (g := fun _ l => Q6 (Q4T e l) fun args l => .ok ((⟨3, 0, ⟨0, [], []⟩, ⟨0, [], []⟩, args⟩ : Tail), l)) g1 (Qe (f := Q4T e) (g := fun args l => .ok ((⟨3, 0, ⟨0, [], []⟩, ⟨0, [], []⟩, args⟩ : Tail), l)) g2 (QY g2.fine))
  by_cases h0 : f0.1 = 0
  · exact Q2f (tail_r (hq h0).1 (hq h0).2) h
  · rcases h with h | ⟨rfl, _⟩
    · exact .inl h
    · exact absurd rfl h0
theorem Qtu (g1 : PTake (Q3W e) tk at0 f0 t at1 f1) (g2 : PTake (want e [59]) tk at1 f1 () at2 f2) : PTake (Q3R e) tk at0 f0 t at2 f2 := by
  have h := Qe (g := fun t l => Q6 (want e [59] l) fun _ l => .ok (t, l)) g1 (Qe (g := fun _ l => .ok (t, l)) g2 (QY g2.fine))
  exact h
end
end Go.Lir
namespace Go.Proofs.YtjecflbbcnocdaaGreatDoor
open Go.Lir
set_option maxHeartbeats 1000000
attribute [local irreducible] LC.wp Q2 QA QB retQ Q1e LO.wp Qj Calls
set_option linter.unusedSimpArgs false
set_option linter.unusedVariables false
attribute [local irreducible] pNum Q38 want Q2c isT PTake PLst PStp pMany Q15 Q4r pTyp pTo Q3W Q3R
variable {cx : Cx} {w : World} {L : List Res}
theorem is_ok {f : Flt} {tk : List Tok} {at0 : Nat} {s : List UInt8} (hf : Q2c tk at0 f) (h : (decide (f.1 = 0) && isT s (tk.drop at0)) = true) : f = (0, 0) ∧ at0 ≤ tk.length ∧ isT s (tk.drop at0) = true := by
  rw [Bool.and_eq_true] at h
  rcases pfine_two hf with hb | ⟨rfl, ha⟩
  · exact absurd (of_decide_eq_true h.1) hb
  · exact ⟨rfl, ha, h.2⟩
theorem is_no {f : Flt} {tk : List Tok} {at0 : Nat} {s : List UInt8} (h : (decide (f.1 = 0) && isT s (tk.drop at0)) = false) (h0 : f.1 = 0) : isT s (tk.drop at0) = false := by
  rw [decide_eq_true h0, Bool.true_and] at h; exact h
theorem rgends_c {rb e at0 : Nat} {v : Value} {f : Flt} {tk : List Tok} (hv : tokR.sl cx v tk) (hf : Q2c tk at0 f) (hS : St cx w (rgb rb v e at0 f :: L)) :
    Rets Tryz.prog Q2a [.pointer (some ⟨rb, 0, none⟩)] w fun u w' => ∃ t at1 f1 c' ds, PTake (Q3R e) tk at0 f t at1 f1 ∧ cx.Le c' ∧ u = .agg ⟨ds⟩ ∧ endR.at c' ds t ∧ St c' w' (rgb rb v e at1 f1 :: L) := by
  have hle := St.refl hS
  have hvl := hv.len
  have hnil : intR.sl cx (.slice none 0 0) [] := Rep.SR.nil _ _ _
  all_goals refine QeF ?_
  all_goals (unfold R_reading_ends_lc; refine Q0 ?_; refine Q1 ?_; refine Q9 hS ?_; intro p2 w1 hS; refine zn ?_; refine Q0 ?_; refine Q1 ?_; refine Q9 hS ?_; intro p3 w1 hS; refine zn ?_)
  refine zM [0, 2, 3] (fun A ρ' w' => ∃ (t : Tail) (at7 : Nat) (f7 : Flt) (c5 : Cx) (y1 y2 n1 n2 ar : Value), Has ρ' A ∧ Has ρ' [] ∧ (PTake (Q3W e) tk at0 f t at7 f7) ∧ (cx.Le c5) ∧ (endR.at c5 [.int .i64 t.op, .int .i64 t.a, .int .i64 t.yes.block, y1, y2, .int .i64 t.no.block, n1, n2, ar] t) ∧ (tokR.sl c5 v tk) ∧ St c5 w' (rgb rb v e at7 f7 :: blk p3 50 [.int .i64 t.op, .int .i64 t.a, .int .i64 t.yes.block, y1, y2, .int .i64 t.no.block, n1, n2, ar] :: blk p2 50 [.int .i64 0, .int .i64 0, .int .i64 0, .slice none 0 0, .slice none 0 0, .int .i64 0, .slice none 0 0, .slice none 0 0, .slice none 0 0] :: L)) ?_ ?_
  · skip
    all_goals (refine Q0 ?_; have hS : St cx _ (rgb rb v e at0 f :: blk p3 50 [.int .i64 0, .int .i64 0, .int .i64 0, .slice none 0 0, .slice none 0 0, .int .i64 0, .slice none 0 0, .slice none 0 0, .slice none 0 0] :: blk p2 50 [.int .i64 0, .int .i64 0, .int .i64 0, .slice none 0 0, .slice none 0 0, .int .i64 0, .slice none 0 0, .slice none 0 0, .slice none 0 0] :: L) := hS.sp; refine Q1 ?_; refine zm ?_)
    all_goals (refine zR2 (c := Q2e (s := Qf8) hv hS) (h := ?_); rintro v1 w1 ⟨rfl, hS⟩; cases q0 : (decide (f.1 = 0) && isT Qf8 (tk.drop at0)))
    all_goals (refine zn ?_)
    all_goals
      first
      | (refine zct ?_ -- Q2a c0
         all_goals (refine Q0 ?_; obtain ⟨rfl, ha, q1⟩ := is_ok hf q0; have hfit := QcO ha q1; refine Q1 ?_; refine zm ?_; refine znc ?_; refine zf0 ?_; refine zl hS ?_; refine zad ?_; refine znc ?_; refine zf0 ?_; refine zst hS ?_; intro w1 hS; have hS := hS.ns; refine zn ?_; refine Q0 ?_; refine Q1 ?_; refine zf0 ?_; refine zst hS ?_; intro w1 hS; have hS := hS.ns; refine zn ?_; have hS : St cx _ (rgb rb v e (at0 + 1) (0, 0) :: blk p3 50 [.int .i64 1, .int .i64 0, .int .i64 0, .slice none 0 0, .slice none 0 0, .int .i64 0, .slice none 0 0, .slice none 0 0, .slice none 0 0] :: blk p2 50 [.int .i64 0, .int .i64 0, .int .i64 0, .slice none 0 0, .slice none 0 0, .int .i64 0, .slice none 0 0, .slice none 0 0, .slice none 0 0] :: L) := hS.sp; refine Q1 ?_; refine zm ?_)
         all_goals (refine zR1 (c := QtS hv (Q3j hfit) hS) (h := ?_); rintro v2 w1 ⟨a1, at1, f1, c2, ds, g1, hle2, rfl, hd1, hS⟩; (try have hle := hle.trans hle2); (try have hv := hv.up hle2); obtain ⟨u1, u2, rfl, e1, e2⟩ := Q4F hd1; have hq : endR.at c2 [.int .i64 1, .int .i64 0, .int .i64 a1.block, u1, u2, .int .i64 0, .slice none 0 0, .slice none 0 0, .slice none 0 0] (⟨1, 0, a1, ⟨0, [], []⟩, []⟩ : Tail) := ⟨_, _, _, _, _, rfl, e1, e2, hnil.up hle, hnil.up hle, hnil.up hle⟩; have oq := endR.one hq; have hT := take_j ha q1 g1; have o1 := Rep.SR.oneC e1; have o2 := Rep.SR.oneC e2)
         all_goals (refine zf0 ?_; (first | (refine zsn hS ?_; intro w1 hS; have hS := hS.ns) | (refine zsm hS ?_; intro w1 hS; have hS := hS.ns)))
         all_goals refine zn ?_)
      | (refine zcf ?_ -- Q2a c0
         all_goals (refine Q0 ?_; refine Q1 ?_; refine zm ?_)
         all_goals (refine zR2 (c := Q2e (s := tIf) hv hS) (h := ?_); rintro v1 w1 ⟨rfl, hS⟩; cases q2 : (decide (f.1 = 0) && isT tIf (tk.drop at0)))
         all_goals (refine zn ?_)
         all_goals
           first
           | (refine zct ?_ -- Q2a c1
              all_goals (refine Q0 ?_; obtain ⟨rfl, ha, q3⟩ := is_ok hf q2; have hfit := QcO ha q3; have q1 := is_no q0 rfl; refine Q1 ?_; refine zm ?_; refine znc ?_; refine zf0 ?_; refine zl hS ?_; refine zad ?_; refine znc ?_; refine zf0 ?_; refine zst hS ?_; intro w1 hS; have hS := hS.ns; refine zn ?_; refine Q0 ?_; refine Q1 ?_; refine zf0 ?_; refine zst hS ?_; intro w1 hS; have hS := hS.ns; refine zn ?_; refine Q0 ?_; have hS : St cx _ (rgb rb v e (at0 + 1) (0, 0) :: blk p3 50 [.int .i64 2, .int .i64 0, .int .i64 0, .slice none 0 0, .slice none 0 0, .int .i64 0, .slice none 0 0, .slice none 0 0, .slice none 0 0] :: blk p2 50 [.int .i64 0, .int .i64 0, .int .i64 0, .slice none 0 0, .slice none 0 0, .int .i64 0, .slice none 0 0, .slice none 0 0, .slice none 0 0] :: L) := hS.sp; refine Q1 ?_; refine zm ?_; refine zR1 (c := Q1Q hv (Q3j hfit) hS) (h := ?_); rintro v2 w1 ⟨m, at1, f1, g1, rfl, hS⟩; refine zf0 ?_; refine zst hS ?_; intro w1 hS; have hS := hS.ns; refine zn ?_; refine Q0 ?_; have hS : St cx _ (rgb rb v e at1 f1 :: blk p3 50 [.int .i64 2, .int .i64 m, .int .i64 0, .slice none 0 0, .slice none 0 0, .int .i64 0, .slice none 0 0, .slice none 0 0, .slice none 0 0] :: blk p2 50 [.int .i64 0, .int .i64 0, .int .i64 0, .slice none 0 0, .slice none 0 0, .int .i64 0, .slice none 0 0, .slice none 0 0, .slice none 0 0] :: L) := hS.sp)
              all_goals (refine Q1 ?_; refine zm ?_; refine zR2 (c := Q1m (s := tTo) hv g1.fine hS) (h := ?_); rintro v1 w1 ⟨at2, f2, g2, rfl, hS⟩; refine zn ?_; refine Q0 ?_; refine Q1 ?_; refine zm ?_)
              all_goals (refine zR1 (c := QtS hv g2.fine hS) (h := ?_); rintro v2 w1 ⟨a1, at3, f3, c2, ds, g3, hle2, rfl, hd1, hS⟩; (try have hle := hle.trans hle2); (try have hv := hv.up hle2); obtain ⟨u1, u2, rfl, e1, e2⟩ := Q4F hd1; have o1 := Rep.SR.oneC e1; have o2 := Rep.SR.oneC e2)
              all_goals (refine zf0 ?_; (first | (refine zsn hS ?_; intro w1 hS; have hS := hS.ns) | (refine zsm hS ?_; intro w1 hS; have hS := hS.ns)); refine zn ?_; refine Q0 ?_; have hS : St c2 _ (rgb rb v e at3 f3 :: blk p3 50 [.int .i64 2, .int .i64 m, .int .i64 a1.block, u1, u2, .int .i64 0, .slice none 0 0, .slice none 0 0, .slice none 0 0] :: blk p2 50 [.int .i64 0, .int .i64 0, .int .i64 0, .slice none 0 0, .slice none 0 0, .int .i64 0, .slice none 0 0, .slice none 0 0, .slice none 0 0] :: L) := hS.sp; refine Q1 ?_; refine zm ?_; refine zR2 (c := Q1m (s := Qjd) hv g3.fine hS) (h := ?_); rintro v1 w1 ⟨at4, f4, g4, rfl, hS⟩; refine zn ?_; refine Q1 ?_; refine zm ?_)
              all_goals (refine zR1 (c := QtS hv g4.fine hS) (h := ?_); rintro v2 w1 ⟨a2, at5, f5, c3, ds, g5, hle2, rfl, hd2, hS⟩; (try have hle := hle.trans hle2); (try have hv := hv.up hle2); (try have e1 := e1.up hle2); (try have e2 := e2.up hle2); obtain ⟨u3, u4, rfl, e3, e4⟩ := Q4F hd2; have hq : endR.at c3 [.int .i64 2, .int .i64 m, .int .i64 a1.block, u1, u2, .int .i64 a2.block, u3, u4, .slice none 0 0] (⟨2, m, a1, a2, []⟩ : Tail) := ⟨_, _, _, _, _, rfl, e1, e2, e3, e4, hnil.up hle⟩; have oq := endR.one hq; have hT := take_i ha q1 q3 g1 g2 g3 g4 g5; have o3 := Rep.SR.oneC e3; have o4 := Rep.SR.oneC e4)
              all_goals (refine zf0 ?_; (first | (refine zsn hS ?_; intro w1 hS; have hS := hS.ns) | (refine zsm hS ?_; intro w1 hS; have hS := hS.ns)))
              all_goals refine zn ?_)
           | (refine zcf ?_ -- Q2a c1
              all_goals (refine Q0 ?_; refine Q1 ?_; refine zm ?_; refine zR2 (c := Q1m (s := tRet) hv hf hS) (h := ?_); rintro v1 w1 ⟨at1, f1, g1, rfl, hS⟩; refine zn ?_; refine Q0 ?_; refine Q1 ?_; refine zf0 ?_; refine zst hS ?_; intro w1 hS; have hS := hS.ns; refine zn ?_; have hS : St cx _ (rgb rb v e at1 f1 :: blk p3 50 [.int .i64 3, .int .i64 0, .int .i64 0, .slice none 0 0, .slice none 0 0, .int .i64 0, .slice none 0 0, .slice none 0 0, .slice none 0 0] :: blk p2 50 [.int .i64 0, .int .i64 0, .int .i64 0, .slice none 0 0, .slice none 0 0, .int .i64 0, .slice none 0 0, .slice none 0 0, .slice none 0 0] :: L) := hS.sp; refine Q1 ?_; refine zm ?_)
              all_goals (refine zR3 (c := Q83 (b := [40]) (cl := [41]) hv g1.fine hS) (h := ?_); rintro va w1 ⟨xs, at2, f2, c2, g2, hle2, hka, hS⟩; (try have hle := hle.trans hle2); (try have hv := hv.up hle2); have hq : endR.at c2 [.int .i64 3, .int .i64 0, .int .i64 0, .slice none 0 0, .slice none 0 0, .int .i64 0, .slice none 0 0, .slice none 0 0, va] (⟨3, 0, ⟨0, [], []⟩, ⟨0, [], []⟩, xs⟩ : Tail) := ⟨_, _, _, _, _, rfl, hnil.up hle, hnil.up hle, hnil.up hle, hnil.up hle, hka⟩; have oq := endR.one hq; have hT := take_r (fun h => ⟨is_no q0 h, is_no q2 h⟩) g1 g2; have o1 := Rep.SR.oneC hka)
              all_goals (refine zf0 ?_; refine zst hS ?_; intro w1 hS; have hS := hS.ns)
              all_goals refine zn ?_))
    all_goals ((first | (exact ⟨⟨1, 0, a1, ⟨0, [], []⟩, []⟩, at1, f1, c2, u1, u2, _, _, _, zh, zh, hT, hle, hq, hv, hS.sp⟩) | (exact ⟨⟨2, m, a1, a2, []⟩, at5, f5, c3, u1, u2, u3, u4, _, zh, zh, hT, hle, hq, hv, hS.sp⟩) | (exact ⟨⟨3, 0, ⟨0, [], []⟩, ⟨0, [], []⟩, xs⟩, at2, f2, c2, _, _, _, _, va, zh, zh, hT, hle, hq, hv, hS.sp⟩)))
  rintro ρ w1 ⟨t, at7, f7, c5, y1, y2, n1, n2, ar, hA, hρ, hT, hle5, hd5, hv5, hS⟩; obtain ⟨ρ, rfl⟩ := env2 hA hρ
  all_goals (refine Q0 ?_; refine Q1 ?_; refine zm ?_; have hd6 := hd5; refine zR2 (c := Q1m (s := [59]) hv5 hT.fine hS) (h := ?_); rintro v1 w1 ⟨at8, f8, g8, rfl, hS⟩; have hone := endR.one hd6; refine zn ?_; refine Q0 ?_; refine Q1 ?_; refine zv hS ?_; refine zsn hS ?_; intro w1 hS; have hS := hS.ns; refine zn ?_; refine zr ?_; refine Q16 vw (Q5 (n := 9) (by kernel_rfl) (by kernel_rfl) (hS.blkAt fd) (by rfl) (by rfl)) ?_; exact ⟨_, rfl, t, at8, f8, c5, _, Qtu hT g8, hle5, rfl, hd6, hS.sp⟩)
end Go.Proofs.YtjecflbbcnocdaaGreatDoor
namespace Go.Lir
section
variable {ws : List (List UInt8)} {l : List Tok} {k hw : Nat}
theorem isT_word (hn : ∀ j, j < ws.length → ∀ i, i < j → ws[i]? ≠ ws[j]?) (h1 : 1 ≤ k) (h2 : k ≤ ws.length) : isT (wordN ws (k : Int)) l = true ↔ Q3H ws l = k := by
  have hk : k - 1 < ws.length := by omega
  have hwd : wordN ws (k : Int) = ws[k - 1] := by
    have h3 := QnQ (ws := ws) (i := k - 1) hk
    rw [show ((k - 1 : Nat) : Int) + 1 = (k : Int) by omega, List.getElem?_eq_getElem hk, Option.some.injEq] at h3
    exact h3.symm
  cases l with
  | nil => exact ⟨fun h => (by cases h), fun h => (by have h : 0 = k := h; omega)⟩
  | cons t r =>
    show (t.num.isNone && decide (t.text = wordN ws (k : Int))) = true ↔ (if t.num.isNone = true then Qhd ws t.text else 0) = k
    rw [hwd]
    cases t.num.isNone with
    | false => exact ⟨fun h => (by cases h), fun h => (by have h : 0 = k := h; omega)⟩
    | true =>
      rw [Bool.true_and, if_pos rfl, decide_eq_true_iff]
      unfold Qhd
      constructor
      · intro h
        have h5 : ws.idxOf t.text = k - 1 := Quu (by rw [h]; exact List.getElem?_eq_getElem hk) (fun j hj h6 => hn (k - 1) hk j hj (by rw [h6, h]; exact (List.getElem?_eq_getElem hk).symm))
        rw [h5, if_pos hk]; omega
      · intro h
        split at h
        · rename_i hlt
          have h4 := List.getElem_idxOf hlt
          rw [← h4]
          congr 1
          omega
        · omega
/-- The loop's number so far. -/
def Qfi (hw k : Nat) : Nat := if hw < k then hw else 0
theorem lastW_0 : Qfi hw 1 = 0 := by unfold Qfi; split <;> omega
theorem Quo (h : hw = k) : Qfi hw (k + 1) = k := by unfold Qfi; split <;> omega
theorem Qup (h : hw ≠ k) : Qfi hw (k + 1) = Qfi hw k := by unfold Qfi; split <;> split <;> omega
theorem Quq (h : hw < k) : Qfi hw k = hw := by unfold Qfi; rw [if_pos h]
theorem Ql7 : ∀ j, j < opWords.length → ∀ i, i < j → opWords[i]? ≠ opWords[j]? := by decide
theorem Qos : ∀ j, j < kindWords.length → ∀ i, i < j → kindWords[i]? ≠ kindWords[j]? := by decide
end
end Go.Lir
namespace Go.Lir
/-- The number of the word that stands there, 0 behind a fault. -/
def Q5T (ws : List (List UInt8)) (tk : List Tok) (at0 : Nat) (f : Flt) : Nat := if f.1 = 0 then Q3H ws (tk.drop at0) else 0
theorem Qpu {ws : List (List UInt8)} {tk : List Tok} {at0 k : Nat} {f : Flt} (hn : ∀ j, j < ws.length → ∀ i, i < j → ws[i]? ≠ ws[j]?) (h1 : 1 ≤ k) (h2 : k ≤ ws.length) : (decide (f.1 = 0) && isT (wordN ws (k : Int)) (tk.drop at0)) = decide (Q5T ws tk at0 f = k) := by
  have h := isT_word (l := tk.drop at0) hn h1 h2
  unfold Q5T
  by_cases hf : f.1 = 0
  · rw [if_pos hf, decide_eq_true hf, Bool.true_and]
    cases hq : isT (wordN ws (k : Int)) (tk.drop at0) with
    | true => exact (decide_eq_true (h.1 hq)).symm
    | false => exact (decide_eq_false fun h9 => by rw [h.2 h9] at hq; cases hq).symm
  · rw [if_neg hf, decide_eq_false hf, Bool.false_and]
    exact (decide_eq_false (by omega)).symm
end Go.Lir
namespace Go.Proofs.YtjecflbbcnocdaaGreatDoor
open Go.Lir
set_option maxHeartbeats 1000000
attribute [local irreducible] LC.wp Q2 QA QB retQ Q1e LO.wp Qj Calls
set_option linter.unusedSimpArgs false
set_option linter.unusedVariables false
attribute [local irreducible] pNum Q38 want Q2c isT PTake PLst PStp pMany Q15 Q4r pTyp pTo Q3W Q3R Q5T wordN Q3H
variable {cx : Cx} {w : World} {L : List Res}
theorem rgins_n {rb e at0 : Nat} {v : Value} {f : Flt} {tk : List Tok} (h0 : Q5T opWords tk at0 f = 0) (hv : tokR.sl cx v tk) (hS : St cx w (rgb rb v e at0 f :: L)) :
    Rets Tryz.prog Qc [.pointer (some ⟨rb, 0, none⟩)] w fun u w' => u = .tuple #[.agg ⟨[.int .i64 0, .int .i64 0, .int .i64 0, .int .i64 0, .int .i64 0, .int .i64 0, .slice none 0 0, .slice none 0 0]⟩, .bool false] ∧ St cx w' (rgb rb v e at0 f :: L) := by
  all_goals refine Q5W ?_
  all_goals (unfold R_reading_ins_lc; refine Q0 ?_; refine Q1 ?_; refine Q9 hS ?_; intro p2 w1 hS; refine zm ?_; refine zn ?_; refine Q0 ?_; refine Q1 ?_; refine Q9 hS ?_; intro p4 w1 hS; refine zn ?_; refine Q0 ?_; refine Q0 ?_; refine Q1 ?_; refine zm ?_; refine zn ?_; refine Qa ?_)
  refine zo [0, 2, 4] (fun A ρ' w' => ∃ (k : Nat), Has ρ' A ∧ Has ρ' [(5, .int .i64 k)] ∧ (1 ≤ k) ∧ (k ≤ 15) ∧ St cx w' (rgb rb v e at0 f :: blk p4 54 [.int .i64 0, .int .i64 0, .int .i64 0, .int .i64 0, .int .i64 0, .int .i64 0, .slice none 0 0, .slice none 0 0] :: blk p2 54 [.int .i64 0, .int .i64 0, .int .i64 0, .int .i64 0, .int .i64 0, .int .i64 0, .slice none 0 0, .slice none 0 0] :: L)) (fun ρ' _ => (15 - iv (ρ' 5)).toNat) ?_ ?_
  · exact ⟨1, zh, zh, by omega, by omega, hS.sp⟩
  rintro ρ w1 ⟨k, hA, hρ, hk1, hk, hS⟩; obtain ⟨ρ, rfl⟩ := env2 hA hρ
  unfold Q3Z
  all_goals (refine Q0 ?_; refine Q0 ?_; refine Q1 ?_; refine zm ?_; refine Q9Y rfl rfl ?_; refine zn ?_)
  refine QM rfl (fun hc => ?_) (fun hc => ?_)
  · skip
    all_goals (refine zsk ?_; refine Q0 ?_; refine Qa ?_; refine Q0 ?_; refine Q1 ?_; refine zm ?_; refine zm ?_; refine zR1 (c := QrL hS) (h := ?_); rintro v1 w1 ⟨rfl, hS⟩; refine zR2 (c := Q2e (s := wordN opWords (k : Int)) hv hS) (h := ?_); rintro v1 w1 ⟨rfl, hS⟩; rw [Qpu Ql7 hk1 (by show k ≤ 14; omega), h0, decide_eq_false (show ¬ 0 = k by omega)]; refine zn ?_)
    all_goals refine zcf ?_
    all_goals (refine zsk ?_; refine Q1 ?_; refine zm ?_; refine zad ?_; refine zm ?_; refine zn ?_; exact ⟨⟨k + 1, zh, zh, by omega, by omega, hS.sp⟩, QF (by omega)⟩)
  · skip
    all_goals (refine zex ?_; refine Q0 ?_; refine Q0 ?_; refine Q1 ?_; refine zf0 ?_; refine zl hS ?_)
    all_goals (refine Qn ?_)
    all_goals (refine zn ?_)
    all_goals refine zct ?_
    all_goals (refine Q0 ?_; refine Q1 ?_; refine zv hS ?_; refine zsn hS ?_; intro w1 hS; have hS := hS.ns; refine zm ?_; refine zn ?_; refine zr ?_; refine QV vw (Q5 (n := 8) (by kernel_rfl) (by kernel_rfl) (hS.blkAt fd) (by rfl) (by rfl)) vw ?_; exact ⟨_, rfl, rfl, hS.sp⟩)
end Go.Proofs.YtjecflbbcnocdaaGreatDoor
namespace Go.Lir
section
variable {α β : Type} {tk : List Tok} {at0 at1 at2 aS e k k2 : Nat} {e0 e1 e2 eS : Flt} {a : α} {acc acc2 : List α} {X : PGot (List α)} {f : List Tok → PGot (Option α)} {p : List Tok → Bool} {q : List Tok → PGot α}
/-- Within such a reading. -/
def POpt (X : PGot (List α)) (f : List Tok → PGot (Option α)) (tk : List Tok) (aS : Nat) (acc : List α) (k at1 : Nat) (e1 : Flt) : Prop :=
  (e1 = (0, 0) ∧ aS ≤ at1 ∧ at1 ≤ tk.length ∧ tk.length - at1 < k ∧ X = Q2Y acc (pOpts f k (tk.drop at1))) ∨ (e1.1 ≠ 0 ∧ X = .error e1)
theorem POpt.fine (h : POpt X f tk aS acc k at1 e1) : Q2c tk at1 e1 := by
  rcases h with ⟨rfl, h1, h2, _⟩ | ⟨h, _⟩
  · exact .inr ⟨rfl, h2⟩
  · exact .inl h
theorem Qu5 (hf : Q2c tk aS eS) : POpt (Q4r (pAll f) tk aS eS) f tk aS [] (tk.length - aS + 1) aS eS := by
  unfold Q4r
  rcases hf with h | ⟨rfl, h⟩
  · rw [if_pos h]; exact .inr ⟨h, rfl⟩
  · rw [if_neg (fun h => h rfl)]
    refine .inl ⟨rfl, Nat.le_refl _, h, by omega, ?_⟩
    rw [QrV, List.length_drop]
theorem popt_s (h : POpt X f tk aS acc k at0 (0, 0)) (hf : f (tk.drop at0) = .ok (some a, tk.drop at1)) (h1 : at0 < at1) (h2 : at1 ≤ tk.length) : POpt X f tk aS (acc ++ [a]) (k - 1) at1 (0, 0) := by
  rcases h with ⟨_, h3, h4, h5, h6⟩ | ⟨h, _⟩
  · exact .inl ⟨rfl, by omega, h2, by omega, QrU h6 (by rw [List.length_drop]; exact h5) hf⟩
  · exact absurd rfl h
theorem popt_e (h : POpt X f tk aS acc k at0 (0, 0)) (hf : f (tk.drop at0) = .error e1) (h1 : e1.1 ≠ 0) : POpt X f tk aS acc2 k2 at1 e1 := by
  rcases h with ⟨_, h3, h4, h5, h6⟩ | ⟨h, _⟩
  · exact .inr ⟨h1, Qom h6 (by rw [List.length_drop]; exact h5) hf⟩
  · exact absurd rfl h
theorem popt_end (h : POpt (Q4r (pAll f) tk aS eS) f tk aS acc k at1 e1) (hS : Q2c tk aS eS) (hn : e1 = (0, 0) → f (tk.drop at1) = .ok (none, tk.drop at1)) : PTake (pAll f) tk aS eS acc at1 e1 := by
  unfold Q4r at h
  rcases hS with hb | ⟨rfl, hS⟩
  · rw [if_pos hb] at h
    rcases h with ⟨rfl, h1, h2, h3, h4⟩ | ⟨h1, h2⟩
    · have := Qol h4 (by rw [List.length_drop]; exact h3) (hn rfl)
      cases this
    · cases h2; exact Q50 hb
  · rw [if_neg (fun h => h rfl)] at h
    rcases h with ⟨rfl, h1, h2, h3, h4⟩ | ⟨h1, h2⟩
    · exact Q31 (Qol h4 (by rw [List.length_drop]; exact h3) (hn rfl)) h1 h2
    · exact Q26 hS h2 h1
theorem Ql4 {r : List Tok → PGot β} {b : β} (h : PTake r tk at0 e0 b at1 e1) (h0 : e1.1 = 0) : e0 = (0, 0) ∧ at0 ≤ at1 := by
  rcases h with ⟨h, rfl⟩ | ⟨rfl, _, ⟨_, _, h, _⟩ | ⟨_, h⟩⟩
  · exact absurd h0 h
  · exact ⟨rfl, h⟩
  · exact absurd h0 h
theorem Qm1 {s : List UInt8} (h : PTake (want e s) tk at0 (0, 0) () at1 (0, 0)) : at0 < at1 := by
  rcases h with ⟨h, _⟩ | ⟨_, h0, ⟨h, _, h1, h2⟩ | ⟨_, h⟩⟩
  · exact absurd rfl h
  · unfold want at h
    split at h
    · rename_i hq
      have h3 := QcO h0 hq
      simp only [Except.ok.injEq, Prod.mk.injEq, true_and] at h
      have h4 := congrArg List.length h
      rw [List.length_tail, List.length_drop, List.length_drop] at h4
      omega
    · cases h
  · exact absurd rfl h
/-- One more of those that a word begins. -/
theorem popt_p (h : POpt X (pIf p q) tk aS acc k at0 (0, 0)) (hp : p (tk.drop at0) = true) (g : PTake q tk at0 (0, 0) a at1 e1) (hlt : e1 = (0, 0) → at0 < at1) : POpt X (pIf p q) tk aS (acc ++ [a]) (k - 1) at1 e1 := by
  rcases g with ⟨h, _⟩ | ⟨_, h2, ⟨h3, rfl, h4, h5⟩ | ⟨h3, h4⟩⟩
  · exact absurd rfl h
  · exact popt_s h (pif_o hp h3) (hlt rfl) h5
  · exact popt_e h (pif_e hp h3) h4
end
end Go.Lir
namespace Go.Lir
section
variable {tk : List Tok} {at0 at1 at2 at3 at4 e : Nat} {f0 f1 f2 f3 f4 : Flt} {a b c n k : Int} {xs ys : List Int} {op : Int} {x : Ins}
theorem take_b0 (h : op ≠ 1 ∧ op ≠ 2 ∧ op ≠ 4 ∧ op ≠ 11 ∧ op ≠ 13 ∧ op ≠ 5 ∧ op ≠ 6 ∧ op ≠ 7 ∧ op ≠ 8 ∧ op ≠ 9 ∧ op ≠ 10 ∧ op ≠ 14) (ha : at0 ≤ tk.length) : PTake (Q2C e op) tk at0 (0, 0) ⟨op, 0, 0, 0, 0, 0, [], []⟩ at0 (0, 0) := Q31 (pb_0 h) (Nat.le_refl _) ha
theorem take_b1 (h : op = 1) (g : PTake (Q38 e) tk at0 f0 n at1 f1) : PTake (Q2C e op) tk at0 f0 ⟨op, 0, 0, 0, 0, n, [], []⟩ at1 f1 :=
  Q2f (pb_1 h) (Qe (g := fun n l => .ok ((⟨op, 0, 0, 0, 0, n, [], []⟩ : Ins), l)) g (QY g.fine))
theorem take_b2 (h : op = 2) (g : PTake (Q7J e) tk at0 f0 k at1 f1) (g2 : PTake (pNum e) tk at1 f1 a at2 f2) (g3 : PTake (pNum e) tk at2 f2 b at3 f3) : PTake (Q2C e op) tk at0 f0 ⟨op, a, b, 0, k, 0, [], []⟩ at3 f3 :=
  Q2f (pb_2 h) (Qe (g := fun k l => Q6 (pNum e l) fun a l => Q6 (pNum e l) fun b l => .ok ((⟨op, a, b, 0, k, 0, [], []⟩ : Ins), l)) g (Qe (g := fun a l => Q6 (pNum e l) fun b l => .ok ((⟨op, a, b, 0, k, 0, [], []⟩ : Ins), l)) g2 (Qe (g := fun b l => .ok ((⟨op, a, b, 0, k, 0, [], []⟩ : Ins), l)) g3 (QY g3.fine))))
theorem take_b4 (h : op = 4 ∨ op = 11 ∨ op = 13) (g : PTake (pNum e) tk at0 f0 a at1 f1) : PTake (Q2C e op) tk at0 f0 ⟨op, a, 0, 0, 0, 0, [], []⟩ at1 f1 :=
  Q2f (pb_4 h) (Qe (g := fun a l => .ok ((⟨op, a, 0, 0, 0, 0, [], []⟩ : Ins), l)) g (QY g.fine))
theorem take_b5 (h : op = 5) (g : PTake (pNum e) tk at0 f0 a at1 f1) (g2 : PTake (Q15 e [40] [41] (pNum e)) tk at1 f1 xs at2 f2) : PTake (Q2C e op) tk at0 f0 ⟨op, a, 0, 0, 0, 0, [], xs⟩ at2 f2 :=
  Q2f (pb_5 h) (Qe (g := fun a l => Q6 (Q4T e l) fun args l => .ok ((⟨op, a, 0, 0, 0, 0, [], args⟩ : Ins), l)) g (Qe (f := Q4T e) (g := fun args l => .ok ((⟨op, a, 0, 0, 0, 0, [], args⟩ : Ins), l)) g2 (QY g2.fine)))
theorem take_b6 (h : op = 6) (g : PTake (pNum e) tk at0 f0 a at1 f1) (g2 : PTake (pNum e) tk at1 f1 k at2 f2) : PTake (Q2C e op) tk at0 f0 ⟨op, a, 0, 0, k, 0, [], []⟩ at2 f2 :=
  Q2f (pb_6 h) (Qe (g := fun a l => Q6 (pNum e l) fun k l => .ok ((⟨op, a, 0, 0, k, 0, [], []⟩ : Ins), l)) g (Qe (g := fun k l => .ok ((⟨op, a, 0, 0, k, 0, [], []⟩ : Ins), l)) g2 (QY g2.fine)))
theorem take_b7 (h : op = 7) (g : PTake (pNum e) tk at0 f0 a at1 f1) (g2 : PTake (pNum e) tk at1 f1 k at2 f2) (g3 : PTake (pNum e) tk at2 f2 b at3 f3) : PTake (Q2C e op) tk at0 f0 ⟨op, a, b, 0, k, 0, [], []⟩ at3 f3 :=
  Q2f (pb_7 h) (Qe (g := fun a l => Q6 (pNum e l) fun k l => Q6 (pNum e l) fun b l => .ok ((⟨op, a, b, 0, k, 0, [], []⟩ : Ins), l)) g (Qe (g := fun k l => Q6 (pNum e l) fun b l => .ok ((⟨op, a, b, 0, k, 0, [], []⟩ : Ins), l)) g2 (Qe (g := fun b l => .ok ((⟨op, a, b, 0, k, 0, [], []⟩ : Ins), l)) g3 (QY g3.fine))))
theorem take_b8 (h : op = 8 ∨ op = 9) (g : PTake (pNum e) tk at0 f0 a at1 f1) (g2 : PTake (pNum e) tk at1 f1 b at2 f2) : PTake (Q2C e op) tk at0 f0 ⟨op, a, b, 0, 0, 0, [], []⟩ at2 f2 :=
  Q2f (pb_8 h) (Qe (g := fun a l => Q6 (pNum e l) fun b l => .ok ((⟨op, a, b, 0, 0, 0, [], []⟩ : Ins), l)) g (Qe (g := fun b l => .ok ((⟨op, a, b, 0, 0, 0, [], []⟩ : Ins), l)) g2 (QY g2.fine)))
theorem take_b10 (h : op = 10) (g : PTake (pNum e) tk at0 f0 a at1 f1) (g2 : PTake (pNum e) tk at1 f1 b at2 f2) (g3 : PTake (pNum e) tk at2 f2 c at3 f3) : PTake (Q2C e op) tk at0 f0 ⟨op, a, b, c, 0, 0, [], []⟩ at3 f3 :=
  Q2f (pb_10 h) (Qe (g := fun a l => Q6 (pNum e l) fun b l => Q6 (pNum e l) fun c l => .ok ((⟨op, a, b, c, 0, 0, [], []⟩ : Ins), l)) g (Qe (g := fun b l => Q6 (pNum e l) fun c l => .ok ((⟨op, a, b, c, 0, 0, [], []⟩ : Ins), l)) g2 (Qe (g := fun c l => .ok ((⟨op, a, b, c, 0, 0, [], []⟩ : Ins), l)) g3 (QY g3.fine))))
theorem take_b14 (h : op = 14) (g : PTake (pNum e) tk at0 f0 k at1 f1) (g2 : PTake (Q15 e [60] [62] (pNum e)) tk at1 f1 xs at2 f2) (g3 : PTake (Q15 e [40] [41] (pNum e)) tk at2 f2 ys at3 f3) : PTake (Q2C e op) tk at0 f0 ⟨op, 0, 0, 0, k, 0, xs, ys⟩ at3 f3 :=
  Q2f (pb_14 h) (Qe (g := fun k l => Q6 (Qh6 e l) fun regs l => Q6 (Q4T e l) fun args l => .ok ((⟨op, 0, 0, 0, k, 0, regs, args⟩ : Ins), l)) g (Qe (f := Qh6 e) (g := fun regs l => Q6 (Q4T e l) fun args l => .ok ((⟨op, 0, 0, 0, k, 0, regs, args⟩ : Ins), l)) g2 (Qe (f := Q4T e) (g := fun args l => .ok ((⟨op, 0, 0, 0, k, 0, xs, args⟩ : Ins), l)) g3 (QY g3.fine))))
theorem Qov {ws : List (List UInt8)} (h : Q3H ws (tk.drop at0) ≠ 0) : at0 + 1 ≤ tk.length := by
  rcases stand tk at0 with ⟨h1, h2⟩ | ⟨t, h1, _⟩
  · rw [h2] at h; exact absurd rfl h
  · exact h1
theorem Qoh {p : Nat} (ha : at0 ≤ tk.length) (h : Q3H kindWords (tk.drop at0) = 0) : PTake (Q7J e) tk at0 (0, 0) k p (Q1X e 4 (tk.drop at0)) := by
  refine Q26 ha ?_ (Q21 (by decide))
  unfold Q7J; rw [if_pos h]
theorem Qog {q : Nat} (h : Q3H kindWords (tk.drop at0) = q) (h0 : q ≠ 0) : PTake (Q7J e) tk at0 (0, 0) (q : Int) (at0 + 1) (0, 0) := by
  have h1 := Qov (ws := kindWords) (tk := tk) (at0 := at0) (by omega)
  refine Q31 ?_ (by omega) h1
  unfold Q7J; rw [if_neg (by omega), h, List.tail_drop]
/-- How the reading of an instruction came out. -/
def InsT (tk : List Tok) (e at0 : Nat) (f0 : Flt) (x : Ins) (bb : Bool) (at1 : Nat) (f1 : Flt) : Prop :=
  (bb = true ∧ f0 = (0, 0) ∧ f1 = (0, 0) ∧ pIns e (tk.drop at0) = .ok (some x, tk.drop at1) ∧ at0 < at1 ∧ at1 ≤ tk.length) ∨
  (bb = false ∧ f1 = f0 ∧ at1 = at0 ∧ (f0 = (0, 0) → pIns e (tk.drop at0) = .ok (none, tk.drop at0))) ∨
  (bb = false ∧ f0 = (0, 0) ∧ f1.1 ≠ 0 ∧ pIns e (tk.drop at0) = .error f1)
theorem insT_n (h : Q5T opWords tk at0 f0 = 0) : InsT tk e at0 f0 x false at0 f0 := by
  refine .inr (.inl ⟨rfl, rfl, rfl, fun h0 => ?_⟩)
  subst h0
  unfold Q5T at h; rw [if_pos rfl] at h
  exact Qbi h
theorem insT_s {op : Nat} (hop : Q3H opWords (tk.drop at0) = op) (h0 : op ≠ 0) (hT : PTake (Q2C e op) tk (at0 + 1) (0, 0) x at1 f1) (hw : PTake (want e [59]) tk at1 f1 () at2 f2) : InsT tk e at0 (0, 0) x (decide (f2.1 = 0)) at2 f2 := by
  have hX : pIns e (tk.drop at0) = (fun l => Q6 (Q2C e op l) fun x l => Q6 (want e [59] l) fun _ l => .ok (some x, l)) (tk.drop (at0 + 1)) := by
    unfold pIns; rw [hop, if_neg h0, List.tail_drop]
  have g := Qe (g := fun x l => Q6 (want e [59] l) fun _ l => .ok (some x, l)) hT (Qe (g := fun _ l => .ok (some x, l)) hw (QY hw.fine))
  rcases g with ⟨h, _⟩ | ⟨_, h2, ⟨h3, rfl, h4, h5⟩ | ⟨h3, h4⟩⟩
  · exact absurd rfl h
  · exact .inl ⟨rfl, rfl, rfl, hX.trans h3, by omega, h5⟩
  · exact .inr (.inr ⟨decide_eq_false h4, rfl, h4, hX.trans h3⟩)
theorem Qtm {ws : List (List UInt8)} {f : Flt} (hf : Q2c tk at0 f) (h : Q5T ws tk at0 f ≠ 0) : f = (0, 0) ∧ Q3H ws (tk.drop at0) = Q5T ws tk at0 f := by
  unfold Q5T at h ⊢
  rcases hf with hb | ⟨rfl, ha⟩
  · rw [if_neg hb] at h; exact absurd rfl h
  · exact ⟨rfl, by rw [if_pos rfl]⟩
theorem pfine_at (hf : Q2c tk at0 (0, 0)) : at0 ≤ tk.length := by
  rcases hf with h | h
  · exact absurd rfl h
  · exact h.2
theorem QrA {ws : List (List UInt8)} : Q5T ws tk at0 (0, 0) = Q3H ws (tk.drop at0) := if_pos rfl
end
end Go.Lir
namespace Go.Proofs.YtjecflbbcnocdaaGreatDoor
open Go.Lir
set_option maxHeartbeats 1000000
attribute [local irreducible] LC.wp Q2 QA QB retQ Q1e LO.wp Qj Calls
set_option linter.unusedSimpArgs false
set_option linter.unusedVariables false
attribute [local irreducible] pNum Q38 want Q2c isT PTake PLst PStp pMany Q15 Q4r pTyp pTo Q3W Q3R Q5T wordN Q3H Q2C Q7J pIns Qfi
variable {cx : Cx} {w : World} {L : List Res}
/-- What the reading of an instruction gives back. -/
def InsD (rb : Nat) (v : Value) (e at0 : Nat) (f : Flt) (tk : List Tok) (cx : Cx) (L : List Res) (u : Value) (w' : World) : Prop :=
  ∃ x bb at1 f1 c' vr va, InsT tk e at0 f x bb at1 f1 ∧ cx.Le c' ∧ insR.at c' [.int .i64 x.op, .int .i64 x.a, .int .i64 x.b, .int .i64 x.c, .int .i64 x.k, .int .i64 x.n, vr, va] x ∧ u = .tuple #[.agg ⟨[.int .i64 x.op, .int .i64 x.a, .int .i64 x.b, .int .i64 x.c, .int .i64 x.k, .int .i64 x.n, vr, va]⟩, .bool bb] ∧ St c' w' (rgb rb v e at1 f1 :: L)
theorem rgins_s {rb e at0 op : Nat} {v : Value} {tk : List Tok} (ha : at0 ≤ tk.length) (hop : Q3H opWords (tk.drop at0) = op) (h0 : op ≠ 0) (hv : tokR.sl cx v tk) (hS : St cx w (rgb rb v e at0 (0, 0) :: L)) :
    Rets Tryz.prog Qc [.pointer (some ⟨rb, 0, none⟩)] w (InsD rb v e at0 (0, 0) tk cx L) := by
  have hle := St.refl hS
  have hvl := hv.len
  have hope : op ≤ 14 := by rw [← hop]; exact Qmn
  have hfit := Qov (ws := opWords) (tk := tk) (at0 := at0) (by omega)
  have hf1 := Q3j hfit
  have hnil : intR.sl cx (.slice none 0 0) [] := Rep.SR.nil _ _ _
  obtain ⟨hw, hhw⟩ : ∃ hw : Nat, Q3H kindWords (tk.drop (at0 + 1)) = hw := ⟨_, rfl⟩
  have hwe : hw ≤ 9 := by rw [← hhw]; exact Qmn
  unfold InsD
  all_goals refine Q5W ?_
  all_goals (unfold R_reading_ins_lc; refine Q0 ?_; refine Q1 ?_; refine Q9 hS ?_; intro p2 w1 hS; refine zm ?_; refine zn ?_; refine Q0 ?_; refine Q1 ?_; refine Q9 hS ?_; intro p4 w1 hS; refine zn ?_; refine Q0 ?_; refine Q0 ?_; refine Q1 ?_; refine zm ?_; refine zn ?_; refine Qa ?_)
  refine zo [0, 2, 4] (fun A ρ' w' => ∃ (k x : Nat), Has ρ' A ∧ Has ρ' [(5, .int .i64 k)] ∧ (1 ≤ k) ∧ (k ≤ 15) ∧ (x = Qfi op k) ∧ St cx w' (rgb rb v e at0 (0, 0) :: blk p4 54 [.int .i64 (x : Int), .int .i64 0, .int .i64 0, .int .i64 0, .int .i64 0, .int .i64 0, .slice none 0 0, .slice none 0 0] :: blk p2 54 [.int .i64 0, .int .i64 0, .int .i64 0, .int .i64 0, .int .i64 0, .int .i64 0, .slice none 0 0, .slice none 0 0] :: L)) (fun ρ' _ => (15 - iv (ρ' 5)).toNat) ?_ ?_
  · exact ⟨1, 0, zh, zh, by omega, by omega, lastW_0.symm, hS.sp⟩
  rintro ρ w1 ⟨k, x, hA, hρ, hk1, hk, hx, hS⟩; obtain ⟨ρ, rfl⟩ := env2 hA hρ
  unfold Q3Z
  all_goals (refine Q0 ?_; refine Q0 ?_; refine Q1 ?_; refine zm ?_; refine Q9Y rfl rfl ?_; refine zn ?_)
  refine QM rfl (fun hc => ?_) (fun hc => ?_)
  · skip
    all_goals (refine zsk ?_; refine Q0 ?_; refine Qa ?_; refine Q0 ?_; refine Q1 ?_; refine zm ?_; refine zm ?_; refine zR1 (c := QrL hS) (h := ?_); rintro v1 w1 ⟨rfl, hS⟩)
    all_goals (refine zR2 (c := Q2e (s := wordN opWords (k : Int)) hv hS) (h := ?_); rintro v1 w1 ⟨rfl, hS⟩; rw [Qpu Ql7 hk1 (by show k ≤ 14; omega), QrA, hop]; cases hq : decide (op = k))
    all_goals (refine zn ?_)
    all_goals
      first
      | (refine zct ?_ -- Qc c1
         all_goals (refine Q1 ?_; refine zm ?_; refine zf0 ?_; refine zst hS ?_; intro w1 hS; have hS := hS.ns)
         all_goals refine zn ?_)
      | (refine zcf ?_ -- Qc c1
         all_goals refine zsk ?_)
    all_goals (refine Q1 ?_; refine zm ?_; refine zad ?_; refine zm ?_; refine zn ?_; (first | (exact ⟨⟨k + 1, x, zh, zh, by omega, by omega, by rw [Qup (of_decide_eq_false hq)]; exact hx, hS.sp⟩, QF (by omega)⟩) | (exact ⟨⟨k + 1, k, zh, zh, by omega, by omega, (Quo (of_decide_eq_true hq)).symm, hS.sp⟩, QF (by omega)⟩)))
  · skip
    all_goals (refine zex ?_; refine Q0 ?_; refine Q0 ?_; have hx2 : x = op := (by rw [hx, show k = 15 by omega]; exact Quq (by omega)); rw [hx2] at hS; refine Q1 ?_; refine zf0 ?_; refine zl hS ?_)
    all_goals (first | (refine Qn ?_) | (refine Qq ?_))
    all_goals (refine zn ?_)
    all_goals refine zcf ?_
    all_goals (refine zsk ?_; refine Q0 ?_; refine Q1 ?_; refine zm ?_; refine znc ?_; refine zf0 ?_; refine zl hS ?_; refine zad ?_; refine znc ?_; refine zf0 ?_; refine zst hS ?_; intro w1 hS; have hS := hS.ns; refine zn ?_)
    refine zM [0, 2, 4] (fun A ρ' w' => ∃ (x : Ins) (at7 : Nat) (f7 : Flt) (c5 : Cx) (vr va : Value), Has ρ' A ∧ Has ρ' [] ∧ (PTake (Q2C e (op : Int)) tk (at0 + 1) (0, 0) x at7 f7) ∧ (cx.Le c5) ∧ (insR.at c5 [.int .i64 x.op, .int .i64 x.a, .int .i64 x.b, .int .i64 x.c, .int .i64 x.k, .int .i64 x.n, vr, va] x) ∧ (tokR.sl c5 v tk) ∧ St c5 w' (rgb rb v e at7 f7 :: blk p4 54 [.int .i64 x.op, .int .i64 x.a, .int .i64 x.b, .int .i64 x.c, .int .i64 x.k, .int .i64 x.n, vr, va] :: blk p2 54 [.int .i64 0, .int .i64 0, .int .i64 0, .int .i64 0, .int .i64 0, .int .i64 0, .slice none 0 0, .slice none 0 0] :: L)) ?_ ?_
    · skip
      all_goals (refine Q0 ?_; have hS : St cx _ (rgb rb v e (at0 + 1) (0, 0) :: blk p4 54 [.int .i64 (op : Int), .int .i64 0, .int .i64 0, .int .i64 0, .int .i64 0, .int .i64 0, .slice none 0 0, .slice none 0 0] :: blk p2 54 [.int .i64 0, .int .i64 0, .int .i64 0, .int .i64 0, .int .i64 0, .int .i64 0, .slice none 0 0, .slice none 0 0] :: L) := hS.sp; refine Q1 ?_; refine zf0 ?_; refine zl hS ?_; refine zn ?_; refine Qa ?_; refine Q0 ?_; refine Q1 ?_)
      all_goals (first | (refine Qn ?_) | (refine Qq ?_) | (refine Qg rfl rfl (fun hc => ?_) (fun hc => ?_)))
      all_goals (refine zm ?_; refine zn ?_)
      all_goals
        first
        | (refine zct ?_ -- Qc c3
           all_goals (refine Q1 ?_; refine zm ?_; refine zR1 (c := Q5F hv hf1 hS) (h := ?_); rintro v2 w1 ⟨n, at1, f1, g1, rfl, hS⟩; have hT := take_b1 (op := (op : Int)) (by omega) g1; refine zf0 ?_; refine zst hS ?_; intro w1 hS; have hS := hS.ns; refine zn ?_)
           all_goals (exact ⟨_, _, _, cx, _, _, zh, zh, hT, hle, ⟨_, _, rfl, hnil, hnil⟩, hv, hS.sp⟩))
        | (refine zcf ?_ -- Qc c3
           all_goals (refine Q0 ?_; refine Q1 ?_)
           all_goals (first | (refine Qn ?_) | (refine Qq ?_) | (refine Qg rfl rfl (fun hc => ?_) (fun hc => ?_)))
           all_goals (refine zm ?_; refine zn ?_)
           all_goals
             first
             | (refine zcf ?_ -- Qc c4
                all_goals (refine Q0 ?_; refine Q1 ?_)
                all_goals (first | (refine Qn ?_) | (refine Qq ?_) | (refine Qg rfl rfl (fun hc => ?_) (fun hc => ?_)))
                all_goals (refine zm ?_; refine zn ?_)
                all_goals
                  first
                  | (refine zct ?_ -- Qc c8
                     all_goals (refine Q0 ?_; refine Q1 ?_; refine zm ?_; refine zR1 (c := Q1Q hv hf1 hS) (h := ?_); rintro v2 w1 ⟨a, at1, f1, g1, rfl, hS⟩; refine zf0 ?_; refine zst hS ?_; intro w1 hS; have hS := hS.ns; refine zn ?_; have hS : St cx _ (rgb rb v e at1 f1 :: blk p4 54 [.int .i64 (op : Int), .int .i64 a, .int .i64 0, .int .i64 0, .int .i64 0, .int .i64 0, .slice none 0 0, .slice none 0 0] :: blk p2 54 [.int .i64 0, .int .i64 0, .int .i64 0, .int .i64 0, .int .i64 0, .int .i64 0, .slice none 0 0, .slice none 0 0] :: L) := hS.sp; refine Q1 ?_; refine zm ?_)
                     all_goals (refine zR3 (c := Q83 (b := [40]) (cl := [41]) hv g1.fine hS) (h := ?_); rintro va w1 ⟨xs, at2, f2, c2, g2, hle2, hka, hS⟩; (try have hle := hle.trans hle2); (try have hv := hv.up hle2); have hoa := Rep.SR.oneC hka; have hT := take_b5 (op := (op : Int)) (by omega) g1 g2)
                     all_goals (refine zf0 ?_; refine zst hS ?_; intro w1 hS; have hS := hS.ns)
                     all_goals refine zn ?_)
                  | (refine zcf ?_ -- Qc c8
                     all_goals (refine Q0 ?_; refine Q0 ?_; refine Q1 ?_)
                     all_goals (first | (refine Qn ?_) | (refine Qq ?_) | (refine Qg rfl rfl (fun hc => ?_) (fun hc => ?_)))
                     all_goals (refine zm ?_; refine zn ?_)
                     all_goals
                       first
                       | (refine zct ?_ -- Qc c9
                          all_goals refine zsk ?_)
                       | (refine zcf ?_ -- Qc c9
                          all_goals (refine Q1 ?_)
                          all_goals (first | (refine Qn ?_) | (refine Qq ?_) | (refine Qg rfl rfl (fun hc => ?_) (fun hc => ?_)))
                          all_goals (refine zm ?_)
                          all_goals refine zn ?_)
                     all_goals
                       first
                       | (refine zct ?_ -- Qc c10
                          all_goals (refine Q0 ?_; refine Q1 ?_; refine zm ?_; refine zR1 (c := Q1Q hv hf1 hS) (h := ?_); rintro v2 w1 ⟨a, at1, f1, g1, rfl, hS⟩; refine zf0 ?_; refine zst hS ?_; intro w1 hS; have hS := hS.ns; refine zn ?_; refine Q0 ?_; have hS : St cx _ (rgb rb v e at1 f1 :: blk p4 54 [.int .i64 (op : Int), .int .i64 a, .int .i64 0, .int .i64 0, .int .i64 0, .int .i64 0, .slice none 0 0, .slice none 0 0] :: blk p2 54 [.int .i64 0, .int .i64 0, .int .i64 0, .int .i64 0, .int .i64 0, .int .i64 0, .slice none 0 0, .slice none 0 0] :: L) := hS.sp; refine Q1 ?_; refine zm ?_; refine zR1 (c := Q1Q hv g1.fine hS) (h := ?_); rintro v2 w1 ⟨k, at2, f2, g2, rfl, hS⟩; refine zf0 ?_; refine zst hS ?_; intro w1 hS; have hS := hS.ns; refine zn ?_; refine Q0 ?_; have hS : St cx _ (rgb rb v e at2 f2 :: blk p4 54 [.int .i64 (op : Int), .int .i64 a, .int .i64 0, .int .i64 0, .int .i64 k, .int .i64 0, .slice none 0 0, .slice none 0 0] :: blk p2 54 [.int .i64 0, .int .i64 0, .int .i64 0, .int .i64 0, .int .i64 0, .int .i64 0, .slice none 0 0, .slice none 0 0] :: L) := hS.sp; refine Q1 ?_; refine zf0 ?_; refine zl hS ?_)
                          all_goals (first | (refine Qn ?_) | (refine Qq ?_))
                          all_goals (refine zn ?_)
                          all_goals
                            first
                            | (refine zct ?_ -- Qc c11
                               all_goals (refine Q1 ?_; refine zm ?_; refine zR1 (c := Q1Q hv g2.fine hS) (h := ?_); rintro v2 w1 ⟨b, at3, f3, g3, rfl, hS⟩; have hT := take_b7 (op := (op : Int)) (by omega) g1 g2 g3; refine zf0 ?_; refine zst hS ?_; intro w1 hS; have hS := hS.ns)
                               all_goals refine zn ?_)
                            | (refine zcf ?_ -- Qc c11
                               all_goals refine zsk ?_))
                       | (refine zcf ?_ -- Qc c10
                          all_goals (refine Q0 ?_; refine Q1 ?_)
                          all_goals (first | (refine Qn ?_) | (refine Qq ?_) | (refine Qg rfl rfl (fun hc => ?_) (fun hc => ?_)))
                          all_goals (refine zm ?_; refine zn ?_)
                          all_goals
                            first
                            | (refine zcf ?_ -- Qc c12
                               all_goals (refine Q0 ?_; refine Q0 ?_; refine Q1 ?_)
                               all_goals (first | (refine Qn ?_) | (refine Qq ?_) | (refine Qg rfl rfl (fun hc => ?_) (fun hc => ?_)))
                               all_goals (refine zm ?_; refine zn ?_)
                               all_goals
                                 first
                                 | (refine zct ?_ -- Qc c13
                                    all_goals refine zsk ?_)
                                 | (refine zcf ?_ -- Qc c13
                                    all_goals (refine Q0 ?_; refine Q1 ?_)
                                    all_goals (first | (refine Qn ?_) | (refine Qq ?_) | (refine Qg rfl rfl (fun hc => ?_) (fun hc => ?_)))
                                    all_goals (refine zm ?_; refine zn ?_)
                                    all_goals
                                      first
                                      | (refine zct ?_ -- Qc c14
                                         all_goals refine zsk ?_)
                                      | (refine zcf ?_ -- Qc c14
                                         all_goals (refine Q1 ?_)
                                         all_goals (first | (refine Qn ?_) | (refine Qq ?_) | (refine Qg rfl rfl (fun hc => ?_) (fun hc => ?_)))
                                         all_goals (refine zm ?_)
                                         all_goals refine zn ?_))
                               all_goals
                                 first
                                 | (refine zct ?_ -- Qc c15
                                    all_goals (refine Q1 ?_; refine zm ?_; refine zR1 (c := Q1Q hv hf1 hS) (h := ?_); rintro v2 w1 ⟨a, at1, f1, g1, rfl, hS⟩; have hT := take_b4 (op := (op : Int)) (by omega) g1; refine zf0 ?_; refine zst hS ?_; intro w1 hS; have hS := hS.ns)
                                    all_goals refine zn ?_)
                                 | (refine zcf ?_ -- Qc c15
                                    all_goals (refine Q0 ?_; refine Q0 ?_; refine Q1 ?_)
                                    all_goals (first | (refine Qn ?_) | (refine Qq ?_) | (refine Qg rfl rfl (fun hc => ?_) (fun hc => ?_)))
                                    all_goals (refine zm ?_; refine zn ?_)
                                    all_goals
                                      first
                                      | (refine zct ?_ -- Qc c16
                                         all_goals refine zsk ?_)
                                      | (refine zcf ?_ -- Qc c16
                                         all_goals (refine Q0 ?_; refine Q1 ?_)
                                         all_goals (first | (refine Qn ?_) | (refine Qq ?_) | (refine Qg rfl rfl (fun hc => ?_) (fun hc => ?_)))
                                         all_goals (refine zm ?_; refine zn ?_)
                                         all_goals
                                           first
                                           | (refine zct ?_ -- Qc c17
                                              all_goals refine zsk ?_)
                                           | (refine zcf ?_ -- Qc c17
                                              all_goals (refine Q1 ?_)
                                              all_goals (first | (refine Qn ?_) | (refine Qq ?_) | (refine Qg rfl rfl (fun hc => ?_) (fun hc => ?_)))
                                              all_goals (refine zm ?_)
                                              all_goals refine zn ?_))
                                    all_goals
                                      first
                                      | (refine zct ?_ -- Qc c18
                                         all_goals (refine Q0 ?_; refine Q1 ?_; refine zm ?_; refine zR1 (c := Q1Q hv hf1 hS) (h := ?_); rintro v2 w1 ⟨a, at1, f1, g1, rfl, hS⟩; refine zf0 ?_; refine zst hS ?_; intro w1 hS; have hS := hS.ns; refine zn ?_; refine Q0 ?_; have hS : St cx _ (rgb rb v e at1 f1 :: blk p4 54 [.int .i64 (op : Int), .int .i64 a, .int .i64 0, .int .i64 0, .int .i64 0, .int .i64 0, .slice none 0 0, .slice none 0 0] :: blk p2 54 [.int .i64 0, .int .i64 0, .int .i64 0, .int .i64 0, .int .i64 0, .int .i64 0, .slice none 0 0, .slice none 0 0] :: L) := hS.sp; refine Q1 ?_; refine zm ?_; refine zR1 (c := Q1Q hv g1.fine hS) (h := ?_); rintro v2 w1 ⟨b, at2, f2, g2, rfl, hS⟩; refine zf0 ?_; refine zst hS ?_; intro w1 hS; have hS := hS.ns; refine zn ?_; refine Q0 ?_; have hS : St cx _ (rgb rb v e at2 f2 :: blk p4 54 [.int .i64 (op : Int), .int .i64 a, .int .i64 b, .int .i64 0, .int .i64 0, .int .i64 0, .slice none 0 0, .slice none 0 0] :: blk p2 54 [.int .i64 0, .int .i64 0, .int .i64 0, .int .i64 0, .int .i64 0, .int .i64 0, .slice none 0 0, .slice none 0 0] :: L) := hS.sp; refine Q1 ?_; refine zf0 ?_; refine zl hS ?_)
                                         all_goals (first | (refine Qn ?_) | (refine Qq ?_))
                                         all_goals (refine zn ?_)
                                         all_goals
                                           first
                                           | (refine zct ?_ -- Qc c19
                                              all_goals (refine Q1 ?_; refine zm ?_; refine zR1 (c := Q1Q hv g2.fine hS) (h := ?_); rintro v2 w1 ⟨c, at3, f3, g3, rfl, hS⟩; have hT := take_b10 (op := (op : Int)) (by omega) g1 g2 g3; refine zf0 ?_; refine zst hS ?_; intro w1 hS; have hS := hS.ns)
                                              all_goals refine zn ?_)
                                           | (refine zcf ?_ -- Qc c19
                                              all_goals refine zsk ?_))
                                      | (refine zcf ?_ -- Qc c18
                                         all_goals refine zsk ?_)))
                            | (refine zct ?_ -- Qc c12
                               all_goals (refine Q0 ?_; refine Q1 ?_; refine zm ?_; refine zR1 (c := Q1Q hv hf1 hS) (h := ?_); rintro v2 w1 ⟨k, at1, f1, g1, rfl, hS⟩; refine zf0 ?_; refine zst hS ?_; intro w1 hS; have hS := hS.ns; refine zn ?_; refine Q0 ?_; have hS : St cx _ (rgb rb v e at1 f1 :: blk p4 54 [.int .i64 (op : Int), .int .i64 0, .int .i64 0, .int .i64 0, .int .i64 k, .int .i64 0, .slice none 0 0, .slice none 0 0] :: blk p2 54 [.int .i64 0, .int .i64 0, .int .i64 0, .int .i64 0, .int .i64 0, .int .i64 0, .slice none 0 0, .slice none 0 0] :: L) := hS.sp; refine Q1 ?_; refine zm ?_)
                               all_goals (refine zR3 (c := Q83 (b := [60]) (cl := [62]) hv g1.fine hS) (h := ?_); rintro vr w1 ⟨xs, at2, f2, c2, g2, hle2, hkr, hS⟩; (try have hle := hle.trans hle2); (try have hv := hv.up hle2); have hor := Rep.SR.oneC hkr)
                               all_goals (refine zf0 ?_; refine zst hS ?_; intro w1 hS; have hS := hS.ns; refine zn ?_; have hS : St c2 _ (rgb rb v e at2 f2 :: blk p4 54 [.int .i64 (op : Int), .int .i64 0, .int .i64 0, .int .i64 0, .int .i64 k, .int .i64 0, vr, .slice none 0 0] :: blk p2 54 [.int .i64 0, .int .i64 0, .int .i64 0, .int .i64 0, .int .i64 0, .int .i64 0, .slice none 0 0, .slice none 0 0] :: L) := hS.sp; refine Q1 ?_; refine zm ?_)
                               all_goals (refine zR3 (c := Q83 (b := [40]) (cl := [41]) hv g2.fine hS) (h := ?_); rintro va w1 ⟨ys, at3, f3, c3, g3, hle2, hka, hS⟩; (try have hle := hle.trans hle2); (try have hv := hv.up hle2); (try have hkr := hkr.up hle2); have hoa := Rep.SR.oneC hka; have hT := take_b14 (op := (op : Int)) (by omega) g1 g2 g3)
                               all_goals (refine zf0 ?_; refine zst hS ?_; intro w1 hS; have hS := hS.ns)
                               all_goals refine zn ?_)))
                all_goals (first | (exact ⟨_, _, _, cx, _, _, zh, zh, hT, hle, ⟨_, _, rfl, hnil, hnil⟩, hv, hS.sp⟩) | (exact ⟨_, _, _, cx, _, _, zh, zh, take_b6 (op := (op : Int)) (by omega) g1 g2, hle, ⟨_, _, rfl, hnil, hnil⟩, hv, hS.sp⟩) | (exact ⟨_, _, _, cx, _, _, zh, zh, take_b8 (op := (op : Int)) (by omega) g1 g2, hle, ⟨_, _, rfl, hnil, hnil⟩, hv, hS.sp⟩) | (exact ⟨_, _, _, cx, _, _, zh, zh, take_b0 (op := (op : Int)) (by omega) hfit, hle, ⟨_, _, rfl, hnil, hnil⟩, hv, hS.sp⟩) | (exact ⟨_, _, _, _, _, _, zh, zh, hT, hle, ⟨_, _, rfl, hnil.up hle, hka⟩, hv, hS.sp⟩) | (exact ⟨_, _, _, _, _, _, zh, zh, hT, hle, ⟨_, _, rfl, hkr, hka⟩, hv, hS.sp⟩)))
             | (refine zct ?_ -- Qc c4
                all_goals (refine Q0 ?_; refine Q0 ?_; refine Q1 ?_; refine zm ?_; refine zn ?_; refine Qa ?_)
                refine zo [0, 2, 4] (fun A ρ' w' => ∃ (k x : Nat), Has ρ' A ∧ Has ρ' [(6, .int .i64 k)] ∧ (1 ≤ k) ∧ (k ≤ 10) ∧ (x = Qfi hw k) ∧ St cx w' (rgb rb v e (at0 + 1) (0, 0) :: blk p4 54 [.int .i64 (op : Int), .int .i64 0, .int .i64 0, .int .i64 0, .int .i64 (x : Int), .int .i64 0, .slice none 0 0, .slice none 0 0] :: blk p2 54 [.int .i64 0, .int .i64 0, .int .i64 0, .int .i64 0, .int .i64 0, .int .i64 0, .slice none 0 0, .slice none 0 0] :: L)) (fun ρ' _ => (10 - iv (ρ' 6)).toNat) ?_ ?_
                · exact ⟨1, 0, zh, zh, by omega, by omega, lastW_0.symm, hS.sp⟩
                rintro ρ w1 ⟨k, x, hA, hρ, hk1, hk, hx, hS⟩; obtain ⟨ρ, rfl⟩ := env2 hA hρ
                unfold Q5l
                all_goals (refine Q0 ?_; refine Q0 ?_; refine Q1 ?_; refine zm ?_; refine Q9Y rfl rfl ?_; refine zn ?_)
                refine QM rfl (fun hc => ?_) (fun hc => ?_)
                · skip
                  all_goals (refine zsk ?_; refine Q0 ?_; refine Qa ?_; refine Q0 ?_; refine Q1 ?_; refine zm ?_; refine zm ?_; refine zR1 (c := QlW hS) (h := ?_); rintro v1 w1 ⟨rfl, hS⟩)
                  all_goals (refine zR2 (c := Q2e (s := wordN kindWords (k : Int)) hv hS) (h := ?_); rintro v1 w1 ⟨rfl, hS⟩; rw [Qpu Qos hk1 (by show k ≤ 9; omega), QrA, hhw]; cases hq : decide (hw = k))
                  all_goals (refine zn ?_)
                  all_goals
                    first
                    | (refine zct ?_ -- Qc c6
                       all_goals (refine Q1 ?_; refine zm ?_; refine zf0 ?_; refine zst hS ?_; intro w1 hS; have hS := hS.ns)
                       all_goals refine zn ?_)
                    | (refine zcf ?_ -- Qc c6
                       all_goals refine zsk ?_)
                  all_goals (refine Q1 ?_; refine zm ?_; refine zad ?_; refine zm ?_; refine zn ?_; (first | (exact ⟨⟨k + 1, x, zh, zh, by omega, by omega, by rw [Qup (of_decide_eq_false hq)]; exact hx, hS.sp⟩, QF (by omega)⟩) | (exact ⟨⟨k + 1, k, zh, zh, by omega, by omega, (Quo (of_decide_eq_true hq)).symm, hS.sp⟩, QF (by omega)⟩)))
                · skip
                  all_goals (refine zex ?_)
                  refine zM [0, 2, 4] (fun A ρ' w' => ∃ (at9 : Nat) (f9 : Flt), Has ρ' A ∧ Has ρ' [] ∧ (PTake (Q7J e) tk (at0 + 1) (0, 0) (hw : Int) at9 f9) ∧ St cx w' (rgb rb v e at9 f9 :: blk p4 54 [.int .i64 (op : Int), .int .i64 0, .int .i64 0, .int .i64 0, .int .i64 (hw : Int), .int .i64 0, .slice none 0 0, .slice none 0 0] :: blk p2 54 [.int .i64 0, .int .i64 0, .int .i64 0, .int .i64 0, .int .i64 0, .int .i64 0, .slice none 0 0, .slice none 0 0] :: L)) ?_ ?_
                  · skip
                    all_goals (refine Q0 ?_; have hx2 : x = hw := (by rw [hx, show k = 10 by omega]; exact Quq (by omega)); rw [hx2] at hS; refine Q1 ?_; refine zf0 ?_; refine zl hS ?_)
                    all_goals (first | (refine Qn ?_) | (refine Qq ?_) | (refine Qg rfl rfl (fun hc => ?_) (fun hc => ?_)))
                    all_goals (refine zn ?_)
                    all_goals
                      first
                      | (refine zcf ?_ -- Qc c7
                         all_goals (have hgk := Qog (e := e) hhw (by omega); have hf2 := hgk.fine; refine Q1 ?_; refine zm ?_; refine znc ?_; refine zf0 ?_; refine zl hS ?_; refine zad ?_; refine znc ?_; refine zf0 ?_; refine zst hS ?_; intro w1 hS; have hS := hS.ns)
                         all_goals refine zn ?_)
                      | (refine zct ?_ -- Qc c7
                         all_goals (have hgk := Qoh (e := e) (k := (hw : Int)) (p := at0 + 1) hfit (by rw [hhw]; omega); have hf2 := hgk.fine; refine Q1 ?_; refine zm ?_; refine zR2 (c := Q2s hv hS) (h := ?_); rintro v1 w1 ⟨rfl, hS⟩; rw [if_pos rfl] at hS)
                         all_goals refine zn ?_)
                    all_goals (exact ⟨_, _, zh, zh, hgk, hS.sp⟩)
                  rintro ρ w1 ⟨at9, f9, hA, hρ, hgk, hS⟩; obtain ⟨ρ, rfl⟩ := env2 hA hρ
                  all_goals (refine Q0 ?_; refine Q1 ?_; refine zm ?_; refine zR1 (c := Q1Q hv hgk.fine hS) (h := ?_); rintro v2 w1 ⟨a, at2, f2, g2, rfl, hS⟩; refine zf0 ?_; refine zst hS ?_; intro w1 hS; have hS := hS.ns; refine zn ?_; have hS : St cx _ (rgb rb v e at2 f2 :: blk p4 54 [.int .i64 (op : Int), .int .i64 a, .int .i64 0, .int .i64 0, .int .i64 (hw : Int), .int .i64 0, .slice none 0 0, .slice none 0 0] :: blk p2 54 [.int .i64 0, .int .i64 0, .int .i64 0, .int .i64 0, .int .i64 0, .int .i64 0, .slice none 0 0, .slice none 0 0] :: L) := hS.sp; refine Q1 ?_; refine zm ?_; refine zR1 (c := Q1Q hv g2.fine hS) (h := ?_); rintro v2 w1 ⟨b, at3, f3, g3, rfl, hS⟩; have hT := take_b2 (op := (op : Int)) (by omega) hgk g2 g3; refine zf0 ?_; refine zst hS ?_; intro w1 hS; have hS := hS.ns; refine zn ?_)
                  all_goals (exact ⟨_, _, _, cx, _, _, zh, zh, hT, hle, ⟨_, _, rfl, hnil, hnil⟩, hv, hS.sp⟩)))
    rintro ρ w1 ⟨x, at7, f7, c5, vr, va, hA, hρ, hT, hle5, hd5, hv5, hS⟩; obtain ⟨ρ, rfl⟩ := env2 hA hρ
    all_goals (refine Q0 ?_; refine Q1 ?_; refine zm ?_; refine zR2 (c := Q1m (s := [59]) hv5 hT.fine hS) (h := ?_); rintro v1 w1 ⟨at8, f8, g8, rfl, hS⟩; have hd6 := hd5; have hone := insR.one hd6; refine zn ?_; refine Q0 ?_; refine zC [(0, none), (1, none), (2, some (some [0])), (3, some none), (4, some none)] ?_; have hS := hS.drew; refine s_cq ?_; refine zv hS ?_; refine zt ?_; refine s_cq ?_; refine zm ?_; refine zt ?_; refine Q5D ?_; refine zR1 (c := Q1U hS) (h := ?_); rintro v1 w1 ⟨rfl, hS⟩; refine zt ?_; refine zy ?_; refine s_cf ?_; refine zsn hS ?_; intro w1 hS; have hS := hS.ns; refine zt ?_; refine s_cf ?_; refine zm ?_; refine zt ?_; refine zcn ?_; refine zr ?_; refine QV vw (Q5 (n := 8) (by kernel_rfl) (by kernel_rfl) (hS.blkAt fd) (by rfl) (by rfl)) vw ?_; exact ⟨_, rfl, x, _, at8, f8, c5, vr, va, insT_s hop h0 hT g8, hle5, hd6, rfl, hS.sp⟩)
theorem rgins_c {rb e at0 : Nat} {v : Value} {f : Flt} {tk : List Tok} (hv : tokR.sl cx v tk) (hf : Q2c tk at0 f) (hS : St cx w (rgb rb v e at0 f :: L)) :
    Rets Tryz.prog Qc [.pointer (some ⟨rb, 0, none⟩)] w (InsD rb v e at0 f tk cx L) := by
  by_cases h0 : Q5T opWords tk at0 f = 0
  · refine (rgins_n h0 hv hS).mono ?_
    rintro u w' ⟨rfl, hS'⟩
    exact ⟨⟨0, 0, 0, 0, 0, 0, [], []⟩, false, at0, f, cx, _, _, insT_n h0, St.refl hS, ⟨_, _, rfl, Rep.SR.nil _ _ _, Rep.SR.nil _ _ _⟩, rfl, hS'⟩
  · obtain ⟨rfl, h1⟩ := Qtm hf h0
    exact rgins_s (pfine_at hf) h1 h0 hv hS
end Go.Proofs.YtjecflbbcnocdaaGreatDoor
