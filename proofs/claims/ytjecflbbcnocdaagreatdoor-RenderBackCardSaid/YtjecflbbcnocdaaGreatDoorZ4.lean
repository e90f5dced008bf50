/- Lemmas of the proof, part 4: what the functions of the program do (contracts), and what follows. -/
import Derived.Test.YtjecflbbcnocdaaGreatDoorZ3
import Derived.Test.YtjecflbbcnocdaaGreatDoorZ2
import Derived.Lib.Builder
import Derived.Lib.UnsafeStr
import Derived.Laws.Externs
import Derived.Lib.AppendStr
import Derived.Test.YtjecflbbcnocdaaGreatDoorZ1
namespace Go.Lir
set_option linter.unusedVariables false
def Q1P (b : List UInt8) (l : List Int) (e : List UInt8) : List UInt8 := b ++ Lib.join (l.map Lib.itoa) [44, 32] ++ e
def Q39 (l : List Ty) : List UInt8 := [40] ++ Lib.join (Tys.txts l) [44, 32] ++ [41]
def To.txt (t : To) : List UInt8 := Lib.itoa t.block ++ [32] ++ Q1P [60] t.regs [62] ++ [32] ++ Q1P [40] t.args [41]
/-- What stands behind an instruction's word. -/
def Ins.rest (x : Ins) : List (List UInt8) :=
  if x.op = 1 then [Lib.itoa x.n]
  else if x.op = 2 then [wordN kindWords x.k, Lib.itoa x.a, Lib.itoa x.b]
  else if x.op = 4 ∨ x.op = 11 ∨ x.op = 13 then [Lib.itoa x.a]
  else if x.op = 5 then [Lib.itoa x.a, Q1P [40] x.args [41]]
  else if x.op = 6 then [Lib.itoa x.a, Lib.itoa x.k]
  else if x.op = 7 then [Lib.itoa x.a, Lib.itoa x.k, Lib.itoa x.b]
  else if x.op = 8 ∨ x.op = 9 then [Lib.itoa x.a, Lib.itoa x.b]
  else if x.op = 10 then [Lib.itoa x.a, Lib.itoa x.b, Lib.itoa x.c]
  else if x.op = 14 then [Lib.itoa x.k, Q1P [60] x.regs [62], Q1P [40] x.args [41]]
  else []
def Ins.txt (x : Ins) : List UInt8 := Lib.join (wordN opWords x.op :: x.rest) [32]
def Tail.txt (t : Tail) : List UInt8 :=
  if t.op = 1 then Q9E ++ [32] ++ t.yes.txt
  else if t.op = 2 then tIf ++ [32] ++ Lib.itoa t.a ++ [32] ++ tTo ++ [32] ++ t.yes.txt ++ [32] ++ QbW ++ [32] ++ t.no.txt
  else tRet ++ [32] ++ Q1P [40] t.args [41]
def Q1s : List Ins → List UInt8
  | [] => []
  | x :: l => [9] ++ x.txt ++ [59, 10] ++ Q1s l
def Block.txt (b : Block) : List UInt8 := Q1R ++ [32] ++ Lib.itoa b.regs ++ [32] ++ Q39 b.params ++ [32, 123, 10] ++ Q1s b.code ++ [9] ++ b.fin.txt ++ [59, 10, 125, 10]
def QH : List Block → List UInt8
  | [] => []
  | b :: l => b.txt ++ QH l
def Fun.txt (f : Fun) : List UInt8 := Q7N ++ [32] ++ Lib.itoa f.regs ++ [32] ++ Q39 f.params ++ [32] ++ Q3Q ++ [32] ++ Q39 f.results ++ [32, 123, 10] ++ QH f.blocks ++ [125, 10]
def Q1H : List Fun → List UInt8
  | [] => []
  | f :: l => f.txt ++ Q1H l
def Module.txt (m : Module) : List UInt8 := Q1H m.funcs
/-! which numbers may be Q3X -/
def Qlv (n : Int) : Bool := decide (0 ≤ n ∧ n ≤ 1000000)
def Q1k (l : List Int) : Bool := l.all Qlv
def Ins.small (x : Ins) : Bool := Q1k [x.a, x.b, x.c, x.k] && Q1k x.regs && Q1k x.args
def To.small (t : To) : Bool := Q1k t.regs && Q1k t.args
def Tail.small (t : Tail) : Bool := Qlv t.a && Q1k t.args && t.yes.small && t.no.small
def Block.small (b : Block) : Bool := b.code.all Ins.small && b.fin.small
def Fun.small (f : Fun) : Bool := f.blocks.all Block.small
def Module.small (m : Module) : Bool := m.funcs.all Fun.small
def Q3X (m : Module) : Except Flt (List UInt8) :=
  if m.fault.1 ≠ 0 then .error m.fault else if m.small = false then .error (8, -1) else if 40000 < m.txt.length then .error (2, -1) else .ok m.txt
end Go.Lir
namespace Go.Lir
set_option linter.unusedVariables false
def Qdx (l : List Int) : Prop := l.length ≤ 16 ∧ ∀ n ∈ l, InI n
def Qof (l : List Ty) : Prop := Tys.nodes l ≤ 40000 ∧ ∀ x ∈ l, x.InR
def To.Pr (t : To) : Prop := InI t.block ∧ Qdx t.regs ∧ Qdx t.args
def Ins.Pr (x : Ins) : Prop := (InI x.op ∧ InI x.a ∧ InI x.b ∧ InI x.c ∧ InI x.k ∧ InI x.n) ∧ Qdx x.regs ∧ Qdx x.args
def Tail.Pr (x : Tail) : Prop := InI x.a ∧ x.yes.Pr ∧ x.no.Pr ∧ Qdx x.args
def Block.Pr (x : Block) : Prop := InI x.regs ∧ Qof x.params ∧ (x.code.length ≤ 40 ∧ ∀ i ∈ x.code, i.Pr) ∧ x.fin.Pr
def Fun.Pr (x : Fun) : Prop := InI x.regs ∧ Qof x.params ∧ Qof x.results ∧ x.blocks.length ≤ 12 ∧ ∀ b ∈ x.blocks, b.Pr
def Module.Pr (m : Module) : Prop := m.funcs.length ≤ 8 ∧ ∀ f ∈ m.funcs, f.Pr
theorem Q2T {n : Int} (h : InI n) : (Lib.itoa n).length ≤ 21 := Lib.itoa_length_le n h.1 h.2
theorem Qor {k : Nat} : ∀ {xs : List (List UInt8)}, (∀ x ∈ xs, x.length ≤ k) → (Lib.joinTail [44, 32] xs).length ≤ (k + 2) * xs.length
  | [], _ => by simp [Lib.joinTail]
  | x :: xs, h => by
    have h1 := h x (List.mem_cons_self ..)
    have h2 := Qor (xs := xs) fun y hy => h y (List.mem_cons_of_mem _ hy)
    rw [List.length_cons, Nat.mul_succ]
    simp only [Lib.joinTail, List.map_cons, List.flatten_cons, List.length_append, List.length_cons, List.length_nil] at h2 ⊢
    omega
theorem join_le {k : Nat} {xs : List (List UInt8)} (h : ∀ x ∈ xs, x.length ≤ k) : (Lib.join xs [44, 32]).length ≤ (k + 2) * xs.length := by
  cases xs with
  | nil => rw [Lib.join_nil]; simp
  | cons x xs =>
    have h1 := h x (List.mem_cons_self ..)
    have h2 := Qor (xs := xs) fun y hy => h y (List.mem_cons_of_mem _ hy)
    rw [Lib.join_cons, List.length_append, List.length_cons, Nat.mul_succ]
    omega
theorem Qpr {l : List Int} (h : Qdx l) : (Lib.join (l.map Lib.itoa) [44, 32]).length ≤ 368 := by
  have := join_le (k := 21) (xs := l.map Lib.itoa) (by intro x hx; obtain ⟨n, hn, rfl⟩ := List.mem_map.1 hx; exact Q2T (h.2 n hn))
  rw [List.length_map] at this
  have := h.1; omega
theorem Q2C {l : List Int} {b e : List UInt8} (h : Qdx l) (hb : b.length = 1) (he : e.length = 1) : (Q1P b l e).length ≤ 370 := by
  have := Qpr h
  unfold Q1P
  simp only [List.length_append]; omega
theorem To.txt_le {t : To} (h : t.Pr) : t.txt.length ≤ 763 := by
  have h1 := Q2T h.1
  have h2 := Q2C h.2.1 (b := [60]) (e := [62]) rfl rfl
  have h3 := Q2C h.2.2 (b := [40]) (e := [41]) rfl rfl
  unfold To.txt
  simp only [List.length_append, List.length_cons, List.length_nil]; omega
theorem Qlt {ws : List (List UInt8)} (h : ws.all (fun w => decide (w.length ≤ 6)) = true) (k : Int) : (wordN ws k).length ≤ 6 := by
  unfold wordN
  split
  · simp
  · rw [List.getD_eq_getElem?_getD]
    cases hg : ws[k.toNat - 1]? with
    | none => simp
    | some w => simpa using of_decide_eq_true (List.all_eq_true.1 h w (List.mem_of_getElem? hg))
theorem Qbk (x y : List UInt8) : Lib.join [x, y] [32] = x ++ [32] ++ y := by rw [Lib.join_cons]; simp [Lib.joinTail]
theorem Qbj (x y z : List UInt8) : Lib.join [x, y, z] [32] = x ++ [32] ++ y ++ [32] ++ z := by rw [Lib.join_cons]; simp [Lib.joinTail]
theorem Qbi (x y z u : List UInt8) : Lib.join [x, y, z, u] [32] = x ++ [32] ++ y ++ [32] ++ z ++ [32] ++ u := by rw [Lib.join_cons]; simp [Lib.joinTail]
theorem Ins.txt_le {x : Ins} (h : x.Pr) : x.txt.length ≤ 800 := by
  obtain ⟨⟨h0, h1, h2, h3, h4, h5⟩, h6, h7⟩ := h
  have w1 := Qlt (ws := opWords) (by decide) x.op
  have w2 := Qlt (ws := kindWords) (by decide) x.k
  have g1 := Q2T h1
  have g2 := Q2T h2
  have g3 := Q2T h3
  have g4 := Q2T h4
  have g5 := Q2T h5
  have g6 := Q2C h6 (b := [60]) (e := [62]) rfl rfl
  have g7 := Q2C h7 (b := [40]) (e := [41]) rfl rfl
  unfold Ins.txt Ins.rest
  repeat' split
  all_goals (first | rw [Lib.join_one] | rw [Qbk] | rw [Qbj] | rw [Qbi])
  all_goals ((try simp only [List.length_append, List.length_cons, List.length_nil]); omega)
theorem Tail.txt_le {t : Tail} (h : t.Pr) : t.txt.length ≤ 1600 := by
  have h1 := Q2T h.1
  have h2 := To.txt_le h.2.1
  have h3 := To.txt_le h.2.2.1
  have h4 := Q2C h.2.2.2 (b := [40]) (e := [41]) rfl rfl
  unfold Tail.txt
  repeat' split
  all_goals (simp only [List.length_append, List.length_cons, List.length_nil]; omega)
theorem QcV : ∀ {l : List Ins}, (∀ i ∈ l, i.Pr) → (Q1s l).length ≤ 803 * l.length
  | [], _ => by simp [Q1s]
  | x :: l, h => by
    have h1 := Ins.txt_le (h x (List.mem_cons_self ..))
    have h2 := QcV (l := l) fun y hy => h y (List.mem_cons_of_mem _ hy)
    rw [Q1s]
    simp only [List.length_append, List.length_cons, List.length_nil]; omega
theorem Q4D {l : List Ty} (h : Qof l) : (Q39 l).length ≤ 2400002 := by
  have := Tys.join_len l h.2
  have h1 := h.1
  unfold Q39
  simp only [List.length_append, List.length_cons, List.length_nil]; omega
theorem Block.txt_le {b : Block} (h : b.Pr) : b.txt.length ≤ 2500000 := by
  have h1 := Q2T h.1
  have h2 := Q4D h.2.1
  have h3 := QcV h.2.2.1.2
  have h4 := h.2.2.1.1
  have h5 := Tail.txt_le h.2.2.2
  unfold Block.txt
  simp only [List.length_append, List.length_cons, List.length_nil]; omega
theorem Q7y : ∀ {l : List Block}, (∀ i ∈ l, i.Pr) → (QH l).length ≤ 2500000 * l.length
  | [], _ => by simp [QH]
  | x :: l, h => by
    have h1 := Block.txt_le (h x (List.mem_cons_self ..))
    have h2 := Q7y (l := l) fun y hy => h y (List.mem_cons_of_mem _ hy)
    rw [QH]
    simp only [List.length_append, List.length_cons]; omega
theorem Fun.txt_le {b : Fun} (h : b.Pr) : b.txt.length ≤ 35000000 := by
  have h1 := Q2T h.1
  have h2 := Q4D h.2.1
  have h3 := Q4D h.2.2.1
  have h4 := h.2.2.2.1
  have h5 := Q7y h.2.2.2.2
  unfold Fun.txt
  simp only [List.length_append, List.length_cons, List.length_nil]; omega
theorem Qcy : ∀ {l : List Fun}, (∀ i ∈ l, i.Pr) → (Q1H l).length ≤ 35000000 * l.length
  | [], _ => by simp [Q1H]
  | x :: l, h => by
    have h1 := Fun.txt_le (h x (List.mem_cons_self ..))
    have h2 := Qcy (l := l) fun y hy => h y (List.mem_cons_of_mem _ hy)
    rw [Q1H]
    simp only [List.length_append, List.length_cons]; omega
theorem Qg9 : ∀ (l m : List Ins), Q1s (l ++ m) = Q1s l ++ Q1s m
  | [], m => rfl
  | x :: l, m => by rw [List.cons_append, Q1s, Q1s, Qg9 l m]; simp only [List.append_assoc]
theorem QbK : ∀ (l m : List Block), QH (l ++ m) = QH l ++ QH m
  | [], m => rfl
  | x :: l, m => by rw [List.cons_append, QH, QH, QbK l m]; simp only [List.append_assoc]
theorem QfT : ∀ (l m : List Fun), Q1H (l ++ m) = Q1H l ++ Q1H m
  | [], m => rfl
  | x :: l, m => by rw [List.cons_append, Q1H, Q1H, QfT l m]; simp only [List.append_assoc]
/-! ### which modules may be Q3X -/
def QlR : Nat → Nat
  | 0 => 1
  | k + 1 => 1 + 8 * QlR k
theorem Qkx {b : Nat} : ∀ {l : List Ty}, (∀ t ∈ l, t.nodes ≤ b) → Tys.nodes l ≤ b * l.length
  | [], _ => by simp [Tys.nodes]
  | x :: l, h => by
    have h1 := h x (List.mem_cons_self ..)
    have h2 := Qkx (l := l) fun y hy => h y (List.mem_cons_of_mem _ hy)
    rw [Tys.nodes, List.length_cons, Nat.mul_succ]; omega
theorem Qnc (n : Int) : ∀ (k : Nat) (t : Ty), t.deepB k = true → t.wrong 8 n = 0 → t.nodes ≤ QlR k
  | k, .mk kd r l, hd, hw => by
    obtain ⟨w1, w2, w3, w4, w5⟩ := Ty.wrong_parts hw
    rw [Ty.deepB] at hd
    split at hd; · cases hd
    have h6 := QkJ hd
    rw [Ty.nodes]
    match k with
    | 0 =>
      cases l with
      | nil => rw [Tys.nodes, QlR]; omega
      | cons x l =>
        have := h6 x (List.mem_cons_self ..)
        obtain ⟨a, b, c⟩ := x
        rw [Ty.deepB, if_pos (by omega)] at this
        cases this
    | k + 1 =>
      have := Qkx (b := QlR k) (l := l) fun t ht => Qnc n k t (by rw [show (k : Int) = ((k + 1 : Nat) : Int) - 1 by omega]; exact h6 t ht) (w5 t ht)
      have h8 := Nat.mul_le_mul_left (QlR k) w4
      rw [QlR]; omega
theorem Qon {l : List Ty} {n : Int} (hr : ∀ t ∈ l, t.InR) (h : QC l n = 0) : Qof l := by
  unfold QC at h
  split at h; · cases h
  refine ⟨?_, hr⟩
  have := Qkx (b := QlR 4) (l := l) fun t ht => by
    have h1 := Q9C h t ht
    unfold Ty.fault at h1
    split at h1; · cases h1
    exact Qnc n 4 t (by simpa using ‹¬ t.deepB 4 = false›) h1
  have e : QlR 4 = 4681 := by decide
  rw [e] at this
  omega
theorem to_pr {n : Nat} {t : To} {is : Bool} (hr : t.InR) (h : Q1J n t is = 0) : t.Pr := by
  obtain ⟨h1, h2, h3⟩ := hr
  unfold Q1J at h
  split at h
  · split at h; · cases h
    exact ⟨h1, ⟨by omega, h2⟩, by omega, h3⟩
  · split at h; · cases h
    split at h; · cases h
    exact ⟨h1, ⟨by omega, h2⟩, by omega, h3⟩
theorem end_pr {n : Nat} {e : Tail} (hr : e.InR) (h : Q2y n e = 0) : e.Pr := by
  obtain ⟨h1, h2, h3, h4, h5⟩ := hr
  unfold Q2y at h
  split at h; · cases h
  split at h; · cases h
  split at h; · cases h
  unfold orC at h
  split at h
  · rename_i h0; exact absurd h h0
  rename_i q1 q2 q3 h0
  exact ⟨h2, to_pr h3 (Classical.not_not.1 h0), to_pr h4 h, by omega, h5⟩
theorem ins_pr {n : Nat} {x : Ins} (hr : x.InR) (h : Q1Q n x = 0) : x.Pr := by
  obtain ⟨h1, h2, h3⟩ := hr
  unfold Q1Q at h
  split at h; · cases h
  rename_i ho
  split at h; · cases h
  rename_i hod
  unfold Ins.odd at hod
  refine ⟨h1, ?_⟩
  unfold Q2u at h
  rcases op_cases (op := x.op) (by omega) (by omega) with e | e | e | e | e | e | e | e | e | e | e | e | e | e <;> rw [e] at h hod <;> simp [fG, fR] at hod h
  all_goals (refine ⟨⟨?_, h2⟩, ?_, h3⟩ <;> first | omega | simp [hod])
theorem mod_pr {m : Module} (hr : m.InR) (h : m.fault.1 = 0) : m.Pr := by
  refine ⟨?_, fun f hf => ?_⟩
  · apply Classical.byContradiction
    intro h9
    unfold Module.fault at h
    rw [if_pos (by omega), Qo1 (by rw [Q7p]; decide), Q7p] at h
    cases h
  obtain ⟨i, hi⟩ := List.mem_iff_getElem?.1 hf
  obtain ⟨g1, g2, g3, g4⟩ := hr f hf
  obtain ⟨_, _, e1, e2, _, e3⟩ := QfW (Qm3 h hi)
  refine ⟨g1, Qon g2 e1, Qon g3 e2, e3, fun b hb => ?_⟩
  obtain ⟨j, hj⟩ := List.mem_iff_getElem?.1 hb
  obtain ⟨k1, k2, k3⟩ := QfX h hi hj
  obtain ⟨_, _, e3, _, e4⟩ := Qgc k1
  obtain ⟨r1, r2, r3, r4⟩ := g4 b hb
  exact ⟨r1, Qon r2 e3, ⟨e4, fun x hx => ins_pr (r3 x hx) (k2 x hx)⟩, end_pr r4 k3⟩
/-! ### a list's text as it grows -/
def Qpq {α : Type} (f : α → List UInt8) (l : List α) (j : Nat) : List UInt8 := Lib.join ((l.take j).map f) [44, 32]
end Go.Lir
namespace Go.Lir
set_option linter.unusedVariables false
section
variable {P : Program} {l : List GO} {Q : QT} {ρ : Env} {w : World} {c : Cx} {L : List Res} {v : Value}
theorem s_pne_f {d T te n : Nat} {x y : Operand} {a : Addr} (hp : P.underlying T = some (.pointer te)) (hsz : Q3n P te = some n) (hx : ρ.ev x = .pointer (some a)) (hy : ρ.ev y = .pointer (some a))
    (h : Q3 P l Q (upd ρ d (.bool false)) w) : Q3 P (⟨none, .bin d .neq T x y⟩ :: l) Q ρ w :=
  ⟨_, fun w0 => by
    rw [hx, hy]
    obtain ⟨j, hte, _⟩ := Option.map_eq_some_iff.1 hsz
    have := Lib.run_neq_ptr_same w0 a hp hte
    simp [eqGuard, this], h⟩
/-- A closure, with what it holds. -/
theorem Qmu {d f : Nat} {caps : List Operand} {u : List Value} (hu : caps.map ρ.ev = u) (h : Q3 P l Q (upd ρ d (.func (.func f) #[] ⟨u⟩)) w) : Q3 P (⟨none, .mkfn d f caps⟩ :: l) Q ρ w := by
  subst hu; exact h
theorem Qgb {H : Heap} {b T : Nat} {cs : List Value} {w : World} (h : Blk w.heap b T cs) : w.shape? b = some (T, cs.length) := by
  obtain ⟨fz, h1, _⟩ := h
  simp [World.shape?, h1]
theorem s_toU {d T U t Ty n : Nat} {x : Operand} {i b : Nat} {cs : List Value} {T0 : TypeId} (hs : P.underlying T = some (.pointer t)) (hd : P.underlying U = some .unsafePointer) (hsz : Q3n P t = some (n + 1)) (hS : St c w L)
    (hi : nth L i = some (blk b T0 cs)) (hc : 0 < cs.length) (hx : ρ.ev x = .pointer (some ⟨b, 0, none⟩)) (h : Q3 P l Q (upd ρ d (.pointer (some ⟨b, 0, none⟩))) w) : Q3 P (⟨none, .raw ⟨some d, .convert T U x, Ty, "", #[], none⟩⟩ :: l) Q ρ w := by
  refine QD (v := .pointer (some ⟨b, 0, none⟩)) (w' := w) ?_ h
  obtain ⟨j, ht, hj⟩ : ∃ j, P.info? t = some j ∧ j.size ≠ 0 := by
    unfold Q3n at hsz
    rw [Option.map_eq_some_iff] at hsz
    obtain ⟨j, h1, h2⟩ := hsz
    exact ⟨j, h1, by omega⟩
  have hb := hS.blkAt hi
  have := Lib.run_to_unsafe (P := P) (w := w) ⟨b, 0, none⟩ hs hd ht hj (Qgb (H := w.heap) hb) hc
  simp only [execOp, hx, Sem.run_bind, this]
  rfl
theorem s_fromU {d T U u Ty n : Nat} {x : Operand} {i b : Nat} {cs : List Value} {T0 : TypeId} (hs : P.underlying T = some .unsafePointer) (hd : P.underlying U = some (.pointer u)) (hsz : Q3n P u = some n) (hS : St c w L)
    (hi : nth L i = some (blk b T0 cs)) (hl : liesAt P P.depth T0 (cs.length / P.cellsOf T0) 0 u 1 = true) (hx : ρ.ev x = .pointer (some ⟨b, 0, none⟩)) (h : Q3 P l Q (upd ρ d (.pointer (some ⟨b, 0, none⟩))) w) : Q3 P (⟨none, .raw ⟨some d, .convert T U x, Ty, "", #[], none⟩⟩ :: l) Q ρ w := by
  refine QD (v := .pointer (some ⟨b, 0, none⟩)) (w' := w) ?_ h
  obtain ⟨j, hu, _⟩ := Option.map_eq_some_iff.1 hsz
  have hb := hS.blkAt hi
  have := Lib.run_from_unsafe (P := P) (w := w) ⟨b, 0, none⟩ hs hd hu (Qgb (H := w.heap) hb) hl
  simp only [execOp, hx, Sem.run_bind, this]
  rfl
theorem s_noesc {d f U Ty : Nat} {x : Operand} {fn : Func} (hf : P.funcs[f]? = some fn) (hname : (fn.name == "runtime.NumGoroutine") = false) (hb : fn.body.isNone = true) (hn : Extern.findNext fn = none) (he : Extern.find fn = some Extern.AbiNoEscape.same) (hx : ρ.ev x = v)
    (h : Q3 P l Q (upd ρ d v) w) : Q3 P (⟨none, .raw ⟨some d, .call ⟨.value (.func f), #[x], #[U]⟩, Ty, "", #[], none⟩⟩ :: l) Q ρ w := by
  refine QD (v := v) (w' := w) ?_ h
  have hr := run_callFunc_extern (P := P) hf hname hb hn he #[v] w
  have h9 : (Extern.AbiNoEscape.same #[v]).run P w = .ok v w := rfl
  rw [h9] at hr
  have e0 : ρ.ev (.func f) = .func (.func f) #[] #[] := rfl
  have e1 : (#[x].map ρ.ev) = #[v] := by simp [hx]
  have e2 : (resolve ρ.ev ⟨.value (.func f), #[x], #[U]⟩ Ty).run P w = .ok ⟨.fn (.func f) #[], #[v]⟩ w := by
    simp [resolve, Deferred.ofValue, e0, hx]
  simp only [execOp, Sem.run_bind, e2, Result.andThen_ok, invoke]
  simpa [callFunc] using hr
/-- What a string may give to be appended. -/
theorem src_str (w : World) (t : List UInt8) : Src P w 1 (.string ⟨t.toArray⟩) (t.map Q2H) := by
  have hf : (t.map Q2H).flatten = Lib.byteCells t := by
    induction t with
    | nil => rfl
    | cons x t ih => rw [List.map_cons, List.flatten_cons, ih]; rfl
  refine ⟨?_, ?_, ?_, fun w' _ => ?_⟩
  · have e : (⟨t.toArray⟩ : ByteArray).size = t.length := Q6r t
    simp [Builtin.lenOf, e]
  · intro c hc; obtain ⟨x, _, rfl⟩ := List.mem_map.1 hc; rfl
  · intro c hc u hu; obtain ⟨x, _, rfl⟩ := List.mem_map.1 hc; simp [Q2H] at hu; subst hu; rfl
  · have := Lib.run_firstCells_string (P := P) w' 1 ⟨t.toArray⟩
    rw [Lib.strCells_eq, Q6r] at this
    rw [List.length_map, hf]
    exact this
/-- append(b, s...) -/
theorem s_appStr {d Ts Ts2 Ty T nb i : Nat} {z : List Value} {x y : Operand} {css : List (List Value)} {t : List UInt8} (hel : Q2F P Ts = some (T, 1, nb, z)) (hts : P.underlying Ts2 = some .string) (hS : St c w L) (hx : ρ.ev x = v) (hy : ρ.ev y = .string ⟨t.toArray⟩)
    (hi : nth L i = some (sl T 1 v css)) (hb : (css.length + t.length) * nb ≤ 140737488355328)
    (h : ∀ v' w', St c w' (L.set i (sl T 1 v' (css ++ t.map Q2H))) → Q3 P l Q (upd ρ d v') w') : Q3 P (⟨none, .raw ⟨some d, .call ⟨.builtin .append, #[x, y], #[Ts, Ts2]⟩, Ty, "", #[], none⟩⟩ :: l) Q ρ w :=
  Qnl hel (.inr hts) hS hx hy hi (src_str w t) (by rw [List.length_map]; exact hb) h
theorem QlW {e : TypeId} (hc : P.cellsOf e = 1) (count off n : Nat) (hn : off + n ≤ count) : liesAt P P.depth e count off e n = true := by
  have hd : P.depth = (2 * (P.types.size + Made.depth) + 1) + 1 := rfl
  rw [hd]
  simp only [liesAt, Bool.or_eq_true]
  left
  rw [hd]
  simp [rowAt, hc, hn, sameLayout, Nat.mod_one]
/-- unsafe.SliceData and unsafe.String of own bytes: they are the string, and no more one's own. -/
theorem s_sdata {d T Ty n cp : Nat} {x : Operand} {a : Addr} (hx : ρ.ev x = .slice (some a) n cp) (hc : cp ≠ 0) (h : Q3 P l Q (upd ρ d (.pointer (some a))) w) : Q3 P (⟨none, .raw ⟨some d, .call ⟨.builtin .unsafeSliceData, #[x], #[T]⟩, Ty, "", #[], none⟩⟩ :: l) Q ρ w := by
  refine QD (v := .pointer (some a)) (w' := w) ?_ h
  have := Lib.run_unsafeSliceData_row (P := P) w #[T] Ty a n cp hc
  simp only [execOp, resolve, Sem.run_bind, Sem.run_pure, Result.andThen_ok, invoke, builtin]
  have e1 : (#[x].map ρ.ev) = #[.slice (some a) n cp] := by simp [hx]
  rw [e1, this]; rfl
theorem run_ustr (pt it ty e : TypeId) (hp : P.underlying pt = some (.pointer e)) (hc : P.cellsOf e = 1) (g off cells : Nat) (hsh : w.shape? g = some (e, cells)) (l : List UInt8) (h0 : l ≠ []) (hn : off + l.length ≤ cells) (h63 : l.length ≤ 9223372036854775807)
    (hcell : ∀ j x, l[j]? = some x → w.cell? ((⟨g, off, none⟩ : Addr).add j) = some (.int .u8 x.toNat)) :
    (Builtin.unsafeString_ #[pt, it] ty #[.pointer (some ⟨g, off, none⟩), .int .i64 l.length]).run P w = .ok (.string ⟨l.toArray⟩) (w.freeze ⟨g, off, none⟩ l.length) := by
  have hl : l.length ≠ 0 := by simpa using h0
  have hlb := Lib.run_loadBytes (P := P) w l ⟨g, off, none⟩ .empty hcell
  have hlies := QlW (P := P) hc (cells / P.cellsOf e) off l.length (by rw [hc]; simpa using hn)
  have h63' : ¬ (9223372036854775807 : Int) < (l.length : Int) := by omega
  have hdef : Builtin.unsafeString_ #[pt, it] ty #[.pointer (some ⟨g, off, none⟩), .int .i64 l.length] =
      (do
        let n ← asInt (.int .i64 l.length)
        if n < 0 then runtimePanic (.error "unsafe.String: len out of range")
        if n > IntKind.i64.max then unsupported (.unsafePointer "String: a length above the largest int")
        if n = 0 then pure (.string .empty)
        else if ← variablesAt ⟨g, off, none⟩ (← elemOf pt) n.toNat then do
          let s ← loadBytes ⟨g, off, none⟩ .empty n.toNat
          freeze ⟨g, off, none⟩ n.toNat
          pure (.string s)
        else unsupported (.unsafePointer "String: not so many bytes at ptr")) := rfl
  rw [hdef]
  have hmax : IntKind.i64.max = 9223372036854775807 := rfl
  have hneg : ¬ (l.length : Int) < 0 := by omega
  simp [asInt, asIntOf, hmax, h63', hneg, hl, variablesAt, hsh, elemOf, run_underlying hp, hlies, hlb]
theorem QpF (w : World) (a : Addr) (n : Nat) : Fr (· = a.block) w (w.freeze a n) := by
  unfold World.freeze
  split
  · exact (Fr.refl _ _)
  · refine ⟨rfl, rfl, rfl, by simp, fun b hb hne => ?_⟩
    simp only
    rw [Array.getElem?_modify, if_neg (fun e => hne e.symm)]
theorem s_ustr {d pt it Ty e i g off cp : Nat} {x y : Operand} {t : List UInt8} (hp : P.underlying pt = some (.pointer e)) (hc : P.cellsOf e = 1) (hS : St c w L) (hi : nth L i = some (sl e 1 (.slice (some ⟨g, off, none⟩) t.length cp) (t.map Q2H))) (h0 : t ≠ []) (h63 : t.length ≤ 140737488355328)
    (hx : ρ.ev x = .pointer (some ⟨g, off, none⟩)) (hy : ρ.ev y = .int .i64 t.length)
    (h : ∀ w', St c w' (L.set i emp) → Q3 P l Q (upd ρ d (.string ⟨t.toArray⟩)) w') : Q3 P (⟨none, .raw ⟨some d, .call ⟨.builtin .unsafeString, #[x, y], #[pt, it]⟩, Ty, "", #[], none⟩⟩ :: l) Q ρ w := by
  obtain ⟨F, hr, hd, hst⟩ := hS.step hi
  obtain ⟨h1, ⟨h2, _⟩ | ⟨b, o, cap, arr, h2, h3, h4, h5, h6, h7⟩⟩ := hr
  · cases h2
  · simp only [Value.slice.injEq, Option.some.injEq, Addr.mk.injEq] at h2
    obtain ⟨⟨rfl, rfl, _⟩, h8, rfl⟩ := h2
    rw [List.length_map] at h3
    have hcell : ∀ j z, t[j]? = some z → w.cell? ((⟨g, off, none⟩ : Addr).add j) = some (.int .u8 z.toNat) := by
      intro j z hj
      have hlt := (List.getElem?_eq_some_iff.1 hj).1
      have h9 := h6 j (by rw [List.length_map]; omega)
      have hf : (t.map Q2H).flatten[j]? = some (.int .u8 z.toNat) := by
        have := Q5x h1 (m := j) (j := 0) (c := Q2H z) (by rw [List.getElem?_map, hj]; rfl) (by decide)
        rw [Nat.mul_one, Nat.add_zero] at this
        rw [this]; rfl
      rw [hf] at h9
      rw [Q1I]
      exact h4.cell h9
    have hrun := run_ustr (P := P) (w := w) pt it Ty e hp hc g off arr.length (Qgb (H := w.heap) h4) t h0 (by omega) (by omega) hcell
    refine QD (v := .string ⟨t.toArray⟩) (w' := w.freeze ⟨g, off, none⟩ t.length) ?_ ?_
    · simp only [execOp, resolve, Sem.run_bind, Sem.run_pure, Result.andThen_ok, invoke, builtin]
      have e1 : (#[x, y].map ρ.ev) = #[.pointer (some ⟨g, off, none⟩), .int .i64 t.length] := by simp [hx, hy]
      rw [e1, hrun]; rfl
    · refine h _ (hst _ (fun _ => False) emp (fun _ h => h) ⟨?_, fun _ h => h.elim⟩)
      exact (QpF w ⟨g, off, none⟩ t.length).mono fun b _ hb => (h7 b).2 hb
end
end Go.Lir
namespace Go.Proofs.YtjecflbbcnocdaaGreatDoor
open Go.Lir
set_option maxHeartbeats 1000000
attribute [local irreducible] LC.wp Q3 Qt QA retQ Q1m LO.wp Qm Calls
set_option linter.unusedSimpArgs false
set_option linter.unusedVariables false
variable {cx : Cx} {w : World} {L : List Res}
/-- A builder, its bytes. -/
@[reducible] def bldr (b : Nat) (p v : Value) : Res := blk b 107 [p, v]
theorem bcheck_c {b : Nat} {p v : Value} (hp : p = .pointer none ∨ p = .pointer (some ⟨b, 0, none⟩)) (hS : St cx w (bldr b p v :: L)) :
    Rets Tryz.prog Q2h [.pointer (some ⟨b, 0, none⟩)] w fun u w' => u = .tuple #[] ∧ St cx w' (bldr b (.pointer (some ⟨b, 0, none⟩)) v :: L) := by
  rcases hp with rfl | rfl
  · skip
    all_goals refine Q1S ?_
    all_goals (unfold strings_Builder_copyCheck_lc; refine Q0 ?_; refine Q1 ?_; refine zm ?_; refine Qh rfl ?_; refine Q2 rfl ?_; refine zl hS ?_; refine s_pnil_t (e := 107) (by kernel_rfl) rfl rfl ?_; refine zn ?_)
    all_goals refine Q6 rfl ?_
    all_goals (refine Q1 ?_; refine zm ?_; refine zm ?_; refine s_toU (t := 107) (n := 1) (by kernel_rfl) (by kernel_rfl) (by kernel_rfl) hS fd (by show 0 < 2; omega) rfl ?_; refine s_noesc Tryz.func139 (by kernel_rfl) (by kernel_rfl) (by kernel_rfl) (by kernel_rfl) rfl ?_; refine s_fromU (u := 107) (n := 2) (by kernel_rfl) (by kernel_rfl) (by kernel_rfl) hS fd (by kernel_rfl) rfl ?_; refine Qh rfl ?_; refine Q2 rfl ?_; refine zst hS ?_; intro w1 hS; have hS := hS.ns; refine zn ?_; refine Q3W ?_; exact ⟨_, rfl, rfl, hS.sp⟩)
  · skip
    all_goals refine Q1S ?_
    all_goals (unfold strings_Builder_copyCheck_lc; refine Q0 ?_; refine Q1 ?_; refine zm ?_; refine Qh rfl ?_; refine Q2 rfl ?_; refine zl hS ?_; refine s_pnil_f (e := 107) (by kernel_rfl) rfl rfl ?_; refine zn ?_)
    all_goals refine Q5 rfl ?_
    all_goals (refine Q0 ?_; refine Q1 ?_; refine zm ?_; refine Qh rfl ?_; refine Q2 rfl ?_; refine zl hS ?_; refine zm ?_; refine s_pne_f (te := 107) (n := 2) (by kernel_rfl) (by kernel_rfl) rfl rfl ?_; refine zn ?_)
    all_goals refine Q5 rfl ?_
    all_goals (refine zsk ?_; refine Q3W ?_; exact ⟨_, rfl, rfl, hS.sp⟩)
theorem bwrite_c {b : Nat} {p v : Value} {t s : List UInt8} (hp : p = .pointer none ∨ p = .pointer (some ⟨b, 0, none⟩)) (hn : t.length + s.length ≤ 140737488355328) (hS : St cx w (bldr b p v :: sl 5 1 v (t.map Q2H) :: L)) :
    Rets Tryz.prog Q1j [.pointer (some ⟨b, 0, none⟩), .string ⟨s.toArray⟩] w fun u w' => (∃ v', u = .tuple #[.int .i64 s.length, .nilIface] ∧ oneC v' = true ∧ St cx w' (bldr b (.pointer (some ⟨b, 0, none⟩)) v' :: sl 5 1 v' ((t ++ s).map Q2H) :: L)) := by
  all_goals refine Q3e ?_
  all_goals (unfold strings_Builder_WriteString_lc; refine Q0 ?_; refine Q1 ?_; refine zm ?_; refine zm ?_; refine zn ?_; refine Q0 ?_; refine Q1 ?_; refine zm ?_; refine zR1 (c := bcheck_c hp hS) (h := ?_); rintro v1 w1 ⟨rfl, hS⟩; refine zn ?_; refine Q0 ?_; refine Q1 ?_; refine zm ?_; refine zm ?_; refine Qh rfl ?_; refine Q2 rfl ?_; refine zl hS ?_; refine zm ?_; refine s_appStr el_T105 (by kernel_rfl) hS vw vw (i := 1) rfl (by rw [List.length_map]; omega) ?_; intro v2 w2 hS; have hS : St cx w2 (bldr b (.pointer (some ⟨b, 0, none⟩)) v :: sl 5 1 v2 (t.map Q2H ++ s.map Q2H) :: L) := hS; have ho := hS.oneC (i := 1) rfl; refine Qh rfl ?_; refine Q2 rfl ?_; refine zst hS ?_; intro w1 hS; have hS := hS.ns; refine zn ?_; refine Q0 ?_; refine Q1 ?_; refine zm ?_; refine Q3S rfl ?_; refine zm ?_; refine zm ?_; refine zn ?_; refine zr ?_; refine zf2 ?_; exact ⟨_, rfl, v2, rfl, ho, by rw [List.map_append]; exact hS.sp⟩)
theorem QbJ {b : Nat} {p v : Value} {t s : List UInt8} (hp : p = .pointer none ∨ p = .pointer (some ⟨b, 0, none⟩)) (hn : t.length + s.length ≤ 140737488355328) (hS : St cx w (bldr b p v :: sl 5 1 v (t.map Q2H) :: L)) :
    Rets Tryz.prog Q1j [.pointer (some ⟨b, 0, none⟩), .string ⟨s.toArray⟩] w fun u w' => (∃ v' t', t' = t ++ s ∧ u = .tuple #[.int .i64 s.length, .nilIface] ∧ oneC v' = true ∧ St cx w' (bldr b (.pointer (some ⟨b, 0, none⟩)) v' :: sl 5 1 v' (t'.map Q2H) :: L)) :=
  (bwrite_c hp hn hS).mono fun _ _ ⟨v', h1, h2, h3⟩ => ⟨v', _, rfl, h1, h2, h3⟩
theorem QpP {b : Nat} {p v : Value} {t : List UInt8} (h0 : t ≠ []) (hn : t.length ≤ 140737488355328) (hS : St cx w (bldr b p v :: sl 5 1 v (t.map Q2H) :: L)) :
    Rets Tryz.prog Q33 [.pointer (some ⟨b, 0, none⟩)] w fun u w' => u = .string ⟨t.toArray⟩ ∧ St cx w' L := by
  obtain ⟨g, off, cp, rfl, hcp⟩ : ∃ g off cp, v = .slice (some ⟨g, off, none⟩) t.length cp ∧ cp ≠ 0 := by
    obtain ⟨F, hr, _⟩ := hS.step (i := 1) rfl
    obtain ⟨h1, ⟨h2, h3, _⟩ | ⟨b, o, cap, arr, h2, h3, _⟩⟩ := hr
    · exact absurd (List.map_eq_nil_iff.1 h3) h0
    · rw [List.length_map] at h2 h3
      exact ⟨b, o, cap, h2, by have := List.length_pos_iff.2 h0; omega⟩
  all_goals refine Q4n ?_
  all_goals (unfold strings_Builder_String_lc; refine Q0 ?_; refine Q1 ?_; refine zm ?_; refine zn ?_; refine Q0 ?_; refine zC [(0, none), (1, none), (2, none), (3, none), (5, none), (6, none), (7, none), (8, none), (9, none), (4, some (some [8])), (10, some none), (11, some none)] ?_; have hS := hS.drew; refine s_cq ?_; refine zm ?_; refine zt ?_; refine s_cq ?_; refine Qh rfl ?_; refine zt ?_; refine s_cq ?_; refine Q2 rfl ?_; refine zt ?_; refine s_cq ?_; refine zl hS ?_; refine zt ?_; refine s_cq ?_; refine zm ?_; refine zt ?_; refine s_cq ?_; refine Qh rfl ?_; refine zt ?_; refine s_cq ?_; refine Q2 rfl ?_; refine zt ?_; refine s_cq ?_; refine zl hS ?_; refine zt ?_; refine s_cq ?_; (first | (refine zL ?_) | (refine zLe hS ?_)); refine zt ?_; refine Q1e ?_; refine s_sdata rfl hcp ?_; refine zt ?_; refine zy ?_; refine s_cf ?_; refine s_ustr (e := 5) (by kernel_rfl) (by kernel_rfl) hS (i := 1) rfl h0 hn rfl rfl ?_; intro w2 hS; have hS : St cx w2 (bldr b p (.slice (some ⟨g, off, none⟩) t.length cp) :: emp :: L) := hS; refine zt ?_; refine s_cf ?_; refine zm ?_; refine zt ?_; refine zcn ?_; refine zr ?_; refine zf ?_; refine ⟨_, rfl, ?_, hS.sp⟩; exact rfl; done)
end Go.Proofs.YtjecflbbcnocdaaGreatDoor
namespace Go.Proofs.YtjecflbbcnocdaaGreatDoor
open Go.Lir
set_option maxHeartbeats 1000000
attribute [local irreducible] LC.wp Q3 Qt QA retQ Q1m LO.wp Qm Calls
set_option linter.unusedSimpArgs false
set_option linter.unusedVariables false
variable {cx : Cx} {w : World} {L : List Res}
abbrev strV (t : List UInt8) : Value := .string ⟨t.toArray⟩
theorem Qnb {ws : List (List UInt8)} {k : Int} (h1 : 1 ≤ k) (h2 : k ≤ ws.length) : (([] :: ws).map strV)[k.toNat]? = some (strV (wordN ws k)) := by
  obtain ⟨n, rfl⟩ : ∃ n : Nat, k = (n : Int) + 1 := ⟨(k - 1).toNat, by omega⟩
  rw [List.map_cons, show ((n : Int) + 1).toNat = n + 1 by omega, List.getElem?_cons_succ, List.getElem?_map]
  unfold wordN
  rw [if_neg (by omega), List.getD_eq_getElem?_getD, show ((n : Int) + 1).toNat - 1 = n by omega, List.getElem?_eq_getElem (by omega)]; rfl
theorem Qna {ws : List (List UInt8)} {k : Int} (h : k < 1 ∨ ws.length < k) : wordN ws k = [] := by
  unfold wordN
  split
  · rfl
  · rw [List.getD_eq_getElem?_getD, List.getElem?_eq_none (by omega)]; rfl
theorem popw_c {k : Int} (hS : St cx w L) : Rets Tryz.prog Qnq [.int .i64 k] w fun u w' => u = strV (wordN opWords k) ∧ St cx w' L := by
  have hlen : opWords.length = 14 := rfl
  by_cases hb : k < 0 ∨ 14 < k
  · rw [Qna (by omega)]
    all_goals refine Qae ?_
    all_goals (unfold parse_Op_lc; refine Q0 ?_; refine Q1 ?_; refine zm ?_; refine zn ?_; refine Q0 ?_; refine Q0 ?_; refine Q1 ?_; refine zm ?_)
    all_goals (first | (refine Q3i ?_) | (refine Q3j ?_) | (refine Q1w rfl rfl (fun hc => ?_) (fun hc => ?_)))
    all_goals (refine zm ?_; (first | refine s_gn rfl rfl ?_ | (refine s_gy rfl ?_; refine zm ?_)))
    all_goals (first | refine s_gn rfl rfl ?_ | (refine s_gy rfl ?_; refine QW ?_))
    all_goals ((first | (refine zpt ?_) | (refine zpf ?_)); refine zn ?_)
    all_goals refine Q6 rfl ?_
    all_goals (refine Q0 ?_; refine Q1 ?_; refine zm ?_; refine zn ?_; refine zr ?_; refine zf ?_; refine ⟨_, rfl, ?_, hS.sp⟩; (rfl); done)
  · by_cases h0 : k = 0
    · subst h0
      all_goals refine Qae ?_
      all_goals (unfold parse_Op_lc; refine Q0 ?_; refine Q1 ?_; refine zm ?_; refine zn ?_; refine Q0 ?_; refine Q0 ?_; refine Q1 ?_; refine zm ?_)
      all_goals (first | (refine Q3i ?_) | (refine Q3j ?_))
      all_goals (refine zm ?_; (first | refine s_gn rfl rfl ?_ | (refine s_gy rfl ?_; refine zm ?_)))
      all_goals (first | refine s_gn rfl rfl ?_ | (refine s_gy rfl ?_; (first | (refine QW ?_) | (refine Q1g ?_))))
      all_goals ((first | (refine zpt ?_) | (refine zpf ?_)); refine zn ?_)
      all_goals refine Q5 rfl ?_
      all_goals (refine zsk ?_; refine Q0 ?_; refine Q1 ?_; refine Qf5 (cs := [_, _, _, _, _, _, _, _, _, _, _, _, _, _, _]) vw vw vw vw vw vw vw vw vw vw vw vw vw vw vw (by rfl) ?_; refine zm ?_; refine QlD (n := 15) (e := 9) (by kernel_rfl) (by kernel_rfl) (by kernel_rfl) vw vw (by omega) (by omega) (show ((([] :: opWords).map strV)[(0 : Int).toNat]? = some (strV [])) from rfl) ?_; refine zm ?_; refine zn ?_; refine zr ?_; refine zf ?_; refine ⟨_, rfl, ?_, hS.sp⟩; (rfl); done)
    · have hu := Qnb (ws := opWords) (k := k) (by omega) (by omega)
      generalize wordN opWords k = s at hu ⊢
      all_goals refine Qae ?_
      all_goals (unfold parse_Op_lc; refine Q0 ?_; refine Q1 ?_; refine zm ?_; refine zn ?_; refine Q0 ?_; refine Q0 ?_; refine Q1 ?_; refine zm ?_)
      all_goals (first | (refine Q3i ?_) | (refine Q3j ?_))
      all_goals (refine zm ?_; (first | refine s_gn rfl rfl ?_ | (refine s_gy rfl ?_; refine zm ?_)))
      all_goals (first | refine s_gn rfl rfl ?_ | (refine s_gy rfl ?_; (first | (refine QW ?_) | (refine Q1g ?_))))
      all_goals ((first | (refine zpt ?_) | (refine zpf ?_)); refine zn ?_)
      all_goals refine Q5 rfl ?_
      all_goals (refine zsk ?_; refine Q0 ?_; refine Q1 ?_; refine Qf5 (cs := [_, _, _, _, _, _, _, _, _, _, _, _, _, _, _]) vw vw vw vw vw vw vw vw vw vw vw vw vw vw vw (by rfl) ?_; refine zm ?_; refine QlD (n := 15) (e := 9) (by kernel_rfl) (by kernel_rfl) (by kernel_rfl) vw vw (by omega) (by omega) hu ?_; refine zm ?_; refine zn ?_; refine zr ?_; refine zf ?_; refine ⟨_, rfl, ?_, hS.sp⟩; (rfl); done)
theorem Qno {k : Int} (hS : St cx w L) : Rets Tryz.prog QiI [.int .i64 k] w fun u w' => u = strV (wordN kindWords k) ∧ St cx w' L := by
  have hlen : kindWords.length = 9 := rfl
  by_cases hb : k < 0 ∨ 9 < k
  · rw [Qna (by omega)]
    all_goals refine Q5r ?_
    all_goals (unfold parse_Kind_lc; refine Q0 ?_; refine Q1 ?_; refine zm ?_; refine zn ?_; refine Q0 ?_; refine Q0 ?_; refine Q1 ?_; refine zm ?_)
    all_goals (first | (refine Q3i ?_) | (refine Q3j ?_) | (refine Q1w rfl rfl (fun hc => ?_) (fun hc => ?_)))
    all_goals (refine zm ?_; (first | refine s_gn rfl rfl ?_ | (refine s_gy rfl ?_; refine zm ?_)))
    all_goals (first | refine s_gn rfl rfl ?_ | (refine s_gy rfl ?_; refine QW ?_))
    all_goals ((first | (refine zpt ?_) | (refine zpf ?_)); refine zn ?_)
    all_goals refine Q6 rfl ?_
    all_goals (refine Q0 ?_; refine Q1 ?_; refine zm ?_; refine zn ?_; refine zr ?_; refine zf ?_; refine ⟨_, rfl, ?_, hS.sp⟩; (rfl); done)
  · by_cases h0 : k = 0
    · subst h0
      all_goals refine Q5r ?_
      all_goals (unfold parse_Kind_lc; refine Q0 ?_; refine Q1 ?_; refine zm ?_; refine zn ?_; refine Q0 ?_; refine Q0 ?_; refine Q1 ?_; refine zm ?_)
      all_goals (first | (refine Q3i ?_) | (refine Q3j ?_))
      all_goals (refine zm ?_; (first | refine s_gn rfl rfl ?_ | (refine s_gy rfl ?_; refine zm ?_)))
      all_goals (first | refine s_gn rfl rfl ?_ | (refine s_gy rfl ?_; (first | (refine QW ?_) | (refine Q1g ?_))))
      all_goals ((first | (refine zpt ?_) | (refine zpf ?_)); refine zn ?_)
      all_goals refine Q5 rfl ?_
      all_goals (refine zsk ?_; refine Q0 ?_; refine Q1 ?_; refine zb10 [_, _, _, _, _, _, _, _, _, _] ?_; refine zm ?_; refine QlD (n := 10) (e := 9) (by kernel_rfl) (by kernel_rfl) (by kernel_rfl) vw vw (by omega) (by omega) (show ((([] :: kindWords).map strV)[(0 : Int).toNat]? = some (strV [])) from rfl) ?_; refine zm ?_; refine zn ?_; refine zr ?_; refine zf ?_; refine ⟨_, rfl, ?_, hS.sp⟩; (rfl); done)
    · have hu := Qnb (ws := kindWords) (k := k) (by omega) (by omega)
      generalize wordN kindWords k = s at hu ⊢
      all_goals refine Q5r ?_
      all_goals (unfold parse_Kind_lc; refine Q0 ?_; refine Q1 ?_; refine zm ?_; refine zn ?_; refine Q0 ?_; refine Q0 ?_; refine Q1 ?_; refine zm ?_)
      all_goals (first | (refine Q3i ?_) | (refine Q3j ?_))
      all_goals (refine zm ?_; (first | refine s_gn rfl rfl ?_ | (refine s_gy rfl ?_; refine zm ?_)))
      all_goals (first | refine s_gn rfl rfl ?_ | (refine s_gy rfl ?_; (first | (refine QW ?_) | (refine Q1g ?_))))
      all_goals ((first | (refine zpt ?_) | (refine zpf ?_)); refine zn ?_)
      all_goals refine Q5 rfl ?_
      all_goals (refine zsk ?_; refine Q0 ?_; refine Q1 ?_; refine zb10 [_, _, _, _, _, _, _, _, _, _] ?_; refine zm ?_; refine QlD (n := 10) (e := 9) (by kernel_rfl) (by kernel_rfl) (by kernel_rfl) vw vw (by omega) (by omega) hu ?_; refine zm ?_; refine zn ?_; refine zr ?_; refine zf ?_; refine ⟨_, rfl, ?_, hS.sp⟩; (rfl); done)
end Go.Proofs.YtjecflbbcnocdaaGreatDoor
namespace Go.Proofs.YtjecflbbcnocdaaGreatDoor
open Go.Lir
set_option maxHeartbeats 1000000
attribute [local irreducible] LC.wp Q3 Qt QA retQ Q1m LO.wp Qm Calls
set_option linter.unusedSimpArgs false
set_option linter.unusedVariables false
attribute [local irreducible] Lib.itoa Lib.join
variable {cx : Cx} {w : World} {L : List Res}
theorem Q50 {n : Int} (h : InI n) (hT : PowT cx) (hS : St cx w L) : Rets Tryz.prog QiF [.int .i64 n] w fun u w' => u = strV (Lib.itoa n) ∧ St cx w' L := by
  all_goals refine QjS ?_
  all_goals (unfold render_num_lc; refine Q0 ?_; refine Q1 ?_; refine zm ?_; refine zn ?_; refine Q0 ?_; refine Q1 ?_; refine zm ?_; refine zR1 (c := itoa_c h.1 h.2 hT hS) (h := ?_); rintro v1 w1 ⟨rfl, hS⟩; refine zm ?_; refine zn ?_; refine zr ?_; refine zf ?_; refine ⟨_, rfl, ?_, hS.sp⟩; exact rfl; done)
end Go.Proofs.YtjecflbbcnocdaaGreatDoor
namespace Go.Proofs.YtjecflbbcnocdaaGreatDoor
open Go.Lir
set_option maxHeartbeats 1000000
attribute [local irreducible] LC.wp Q3 Qt QA retQ Q1m LO.wp Qm Calls
set_option linter.unusedSimpArgs false
set_option linter.unusedVariables false
attribute [local irreducible] Lib.itoa Lib.join Qpq
variable {cx : Cx} {w : World} {L : List Res}
theorem QnW {b e : List UInt8} {l : List Int} {v : Value} (hb : b.length ≤ 10) (he : e.length ≤ 10) (hp : Qdx l) (hl : intR.sl cx v l) (hT : PowT cx) (hS : St cx w L) :
    Rets Tryz.prog QiE [strV b, v, strV e] w fun u w' => u = strV (Q1P b l e) ∧ St cx w' L := by
  have hjl := Qpr hp
  have hll := hp.1
  unfold Q1P
  all_goals refine QjP ?_
  all_goals (unfold render_row_lc; refine Q0 ?_; refine Q1 ?_; refine zm ?_; refine zn ?_; refine Q0 ?_; refine Q1 ?_; refine zm ?_; refine zn ?_; refine Q0 ?_; refine Q0 ?_; refine Q1 ?_; refine zm ?_; refine zL ?_; refine zm ?_; refine zn ?_; refine Qa ?_)
  refine zoL hS [0, 2, 10, 11] (fun A LL ρ' w' => ∃ (j : Nat) (u : Value) (css : List (List Value)), Has ρ' A ∧ Has ρ' [(7, u), (12, .int .i64 j)] ∧ (j ≤ l.length) ∧ (strR.ls cx css ((l.take j).map fun n => ⟨(Lib.itoa n).toArray⟩)) ∧ (oneC u = true) ∧ St cx w' (sl 9 1 u css :: LL)) (fun ρ' _ => (l.length - iv (ρ' 12)).toNat) ?_ ?_
  · exact ⟨0, .slice none 0 0, [], zh, zh, (by omega), Rep.LR.nil _ _ _, rfl, by have hS := hS.nil (T := 9) (es := 1); exact hS.sp⟩
  rintro ρ w1 ⟨j, u, css, hA, hρ, hj, hls, hu, hS⟩; obtain ⟨ρ, rfl⟩ := env2 hA hρ
  unfold QaG
  all_goals (refine Q0 ?_; refine Q1 ?_; refine QG rfl rfl ?_; refine zn ?_; refine Q0 ?_)
  refine Qu rfl (fun hc => ?_) (fun hc => ?_)
  · skip
    all_goals (refine zsk ?_; refine Q0 ?_; refine Qa ?_; refine Q0 ?_; refine Q1 ?_; refine zi ?_; intro b1 o1 cs1 x1 hat1 hx1 he1; obtain rfl := Q7H he1; (first | (refine zl hS ?_) | (refine zlk hS ?_)); refine zm ?_; refine zn ?_; refine Q1 ?_; refine zm ?_; refine zm ?_; refine zR1 (c := Q50 (hp.2 _ (List.mem_of_getElem? hx1)) hT hS) (h := ?_); rintro v1 w1 ⟨rfl, hS⟩; refine zB1 hS [_] ?_; intro b1 w1 hS; refine za Q1r Q2I hS ?_; intro vp1 w1 css1 hls1 hv1 hS; have hS := hS.ns; refine zm ?_; refine zn ?_; refine Q1 ?_; refine zad ?_; refine zm ?_; refine zn ?_; exact ⟨⟨j + 1, _, _, zh, zh, (by omega), by rw [Q3P hx1, List.map_append]; assumption, by assumption, hS.sp⟩, Qz (by omega)⟩)
  · skip
    all_goals (refine zex ?_; refine Q0 ?_; refine Q1 ?_; refine zm ?_; refine zm ?_; refine zR2 (c := Qny (xs := l.map Lib.itoa) (sep := [44, 32]) hS fd (by rw [List.take_of_length_le (by omega)] at hls; rw [List.map_map]; exact hls) (by rw [List.length_map]; omega) (by omega)) (h := ?_); rintro v1 w1 ⟨rfl, hS⟩; refine QL rfl rfl (by omega) ?_; refine zm ?_; refine QL rfl rfl (by first | omega | (simp only [List.length_append, List.length_cons, List.length_nil]; omega)) ?_; refine zm ?_; refine zn ?_; refine zr ?_; refine zf ?_; refine ⟨_, rfl, ?_, hS.sp⟩; (rfl); done)
theorem Qmq {l : List Ty} {v : Value} (hp : Qof l) (hl : tyR.sl cx v l) (hT : PowT cx) (hS : St cx w L) : Rets Tryz.prog Qdq [v] w fun u w' => u = strV (Q39 l) ∧ St cx w' L := by
  have hjl := Tys.join_len l hp.2
  have hln := Tys.nodes_len l
  have hn := hp.1
  have hnm : ∀ x ∈ l, x.nodes ≤ 100000 := fun x hx => by have := Tys.nodes_mem hx; omega
  unfold Q39
  all_goals refine Qft ?_
  all_goals (unfold render_typed_lc; refine Q0 ?_; refine Q1 ?_; refine zm ?_; refine zn ?_; refine Q0 ?_; refine Q1 ?_; refine zm ?_; refine zn ?_; refine Q0 ?_; refine Q0 ?_; refine Q1 ?_; refine zm ?_; refine zL ?_; refine zm ?_; refine zn ?_; refine Qa ?_)
  refine zoL hS [6, 7] (fun A LL ρ' w' => ∃ (j : Nat) (u : Value) (css : List (List Value)), Has ρ' A ∧ Has ρ' [(3, u), (8, .int .i64 j)] ∧ (j ≤ l.length) ∧ (strR.ls cx css ((l.take j).map fun x => ⟨x.txt.toArray⟩)) ∧ (oneC u = true) ∧ St cx w' (sl 9 1 u css :: LL)) (fun ρ' _ => (l.length - iv (ρ' 8)).toNat) ?_ ?_
  · exact ⟨0, .slice none 0 0, [], zh, zh, (by omega), Rep.LR.nil _ _ _, rfl, by have hS := hS.nil (T := 9) (es := 1); exact hS.sp⟩
  rintro ρ w1 ⟨j, u, css, hA, hρ, hj, hls, hu, hS⟩; obtain ⟨ρ, rfl⟩ := env2 hA hρ
  unfold Q6N
  all_goals (refine Q0 ?_; refine Q1 ?_; refine QG rfl rfl ?_; refine zn ?_; refine Q0 ?_)
  refine Qu rfl (fun hc => ?_) (fun hc => ?_)
  · skip
    all_goals (refine zsk ?_; refine Q0 ?_; refine Qa ?_; refine Q0 ?_; refine Q1 ?_; refine zi ?_; intro b1 o1 cs1 x1 hat1 hx1 he1; obtain ⟨vl1, rfl, hl1⟩ := QV he1; (first | (refine zv hS ?_) | (refine zvk hS ?_)); refine Qe hS ?_; intro p5 w1 hS; refine zsn hS ?_; intro w1 hS; have hS := hS.ns; refine zn ?_; refine Q1 ?_; refine zm ?_; refine zv hS ?_; refine zR1 (c := ttext_c _ (hp.2 _ (List.mem_of_getElem? hx1)) (hnm _ (List.mem_of_getElem? hx1)) he1 hT hS) (h := ?_); rintro v1 w1 ⟨rfl, hS⟩; refine zB1 hS [_] ?_; intro b1 w1 hS; refine za Q1r Q2I hS ?_; intro vp1 w1 css1 hls1 hv1 hS; have hS := hS.ns; refine zm ?_; refine zn ?_; refine Q1 ?_; refine zad ?_; refine zm ?_; refine zn ?_; exact ⟨⟨j + 1, _, _, zh, zh, (by omega), by rw [Q3P hx1, List.map_append]; assumption, by assumption, hS.sp⟩, Qz (by omega)⟩)
  · skip
    all_goals (refine zex ?_; refine Q0 ?_; refine Q1 ?_; refine zm ?_; refine zR2 (c := Qny (xs := Tys.txts l) (sep := [44, 32]) hS fd (by rw [List.take_of_length_le (by omega)] at hls; rw [Tys.txts_map, List.map_map]; exact hls) (by rw [Tys.txts_map, List.length_map]; omega) (by omega)) (h := ?_); rintro v1 w1 ⟨rfl, hS⟩; refine QL rfl rfl (by first | omega | (simp only [List.length_append, List.length_cons, List.length_nil]; omega)) ?_; refine QL rfl rfl (by first | omega | (simp only [List.length_append, List.length_cons, List.length_nil]; omega)) ?_; refine zm ?_; refine zn ?_; refine zr ?_; refine zf ?_; refine ⟨_, rfl, ?_, hS.sp⟩; (rfl); done)
theorem Qop {t : To} {cs : List Value} (hp : t.Pr) (hx : toR.at cx cs t) (hT : PowT cx) (hS : St cx w L) : Rets Tryz.prog QlL [.agg ⟨cs⟩] w fun u w' => u = strV t.txt ∧ St cx w' L := by
  obtain ⟨n, xr, xa⟩ := t
  obtain ⟨v1, v2, rfl, h1, h2⟩ := Q9D hx
  obtain ⟨g1, g2, g3⟩ := hp
  have l1 := Q2T g1
  have l2 := Q2C g2 (b := [60]) (e := [62]) rfl rfl
  have l3 := Q2C g3 (b := [40]) (e := [41]) rfl rfl
  unfold To.txt
  simp only at *
  all_goals refine QlJ ?_
  all_goals (unfold render_to_lc; refine Q0 ?_; refine Q1 ?_; refine zb hS ?_; intro p1 w1 hS; refine zm ?_; refine zn ?_; refine Q0 ?_; refine zC [(0, none), (1, none), (4, none), (5, none), (9, none), (10, none), (2, some (some [5, 10])), (3, none), (6, some (some [10])), (7, none), (8, none), (11, some (some [])), (12, none), (13, some none)] ?_; have hS := hS.drew; refine s_cq ?_; refine Q2 rfl ?_; refine zt ?_; refine s_cq ?_; refine zl hS ?_; refine zt ?_; refine s_cq ?_; refine Q2 rfl ?_; refine zt ?_; refine s_cq ?_; refine zl hS ?_; refine zt ?_; refine s_cq ?_; refine Q2 rfl ?_; refine zt ?_; refine s_cq ?_; refine zl hS ?_; refine zt ?_; refine Q1e ?_; refine zR1 (c := Q50 g1 hT hS) (h := ?_); rintro v1 w1 ⟨rfl, hS⟩; refine zt ?_; refine zy ?_; refine s_cq ?_; refine QL rfl rfl (by first | omega | (simp only [List.length_append, List.length_cons, List.length_nil]; omega)) ?_; refine zt ?_; refine Q1e ?_; refine zR3 (c := QnW (by decide) (by decide) g2 h1 hT hS) (h := ?_); rintro v1 w1 ⟨rfl, hS⟩; refine zt ?_; refine zy ?_; refine s_cq ?_; refine QL rfl rfl (by first | omega | (simp only [List.length_append, List.length_cons, List.length_nil]; omega)) ?_; refine zt ?_; refine s_cq ?_)
  all_goals (refine QL rfl rfl (by first | omega | (simp only [List.length_append, List.length_cons, List.length_nil]; omega)) ?_; refine zt ?_; refine Q1e ?_; refine zR3 (c := QnW (by decide) (by decide) g3 h2 hT hS) (h := ?_); rintro v1 w1 ⟨rfl, hS⟩; refine zt ?_; refine zy ?_; refine s_cq ?_; refine QL rfl rfl (by first | omega | (simp only [List.length_append, List.length_cons, List.length_nil]; omega)) ?_; refine zt ?_; refine s_cf ?_; refine zm ?_; refine zt ?_; refine zcn ?_; refine zr ?_; refine zf ?_; refine ⟨_, rfl, ?_, hS.sp⟩; (rfl); done)
end Go.Proofs.YtjecflbbcnocdaaGreatDoor
namespace Go.Proofs.YtjecflbbcnocdaaGreatDoor
open Go.Lir
set_option maxHeartbeats 1000000
attribute [local irreducible] LC.wp Q3 Qt QA retQ Q1m LO.wp Qm Calls
set_option linter.unusedSimpArgs false
set_option linter.unusedVariables false
attribute [local irreducible] Lib.itoa Lib.join Qpq wordN
variable {cx : Cx} {w : World} {L : List Res}
abbrev toBA (t : List UInt8) : ByteArray := ⟨t.toArray⟩
theorem strs (l : List (List UInt8)) : strR.ls cx (l.map fun t => [strV t]) (l.map toBA) :=
  ⟨by simp, fun m x hx => by
    rw [List.getElem?_map, Option.map_eq_some_iff] at hx
    obtain ⟨t, h1, rfl⟩ := hx
    exact ⟨[strV t], by rw [List.getElem?_map, h1]; rfl, rfl⟩⟩
theorem str1 {b T : Nat} {t1 : List UInt8} (hS : St cx w (blk b T [strV t1] :: L)) : St cx w (sl T 1 (.slice (some ⟨b, 0, none⟩) 1 1) [[strV t1]] :: L) ∧ strR.ls cx [[strV t1]] ([t1].map toBA) ∧ ([t1].map toBA).length = 1 :=
  ⟨St.slOf hS rfl (by intro c hc; simp at hc; subst hc; rfl) rfl, strs [t1], rfl⟩
theorem str2 {b T : Nat} {t1 t2 : List UInt8} (hS : St cx w (blk b T [strV t1, strV t2] :: L)) : St cx w (sl T 1 (.slice (some ⟨b, 0, none⟩) 2 2) [[strV t1], [strV t2]] :: L) ∧ strR.ls cx [[strV t1], [strV t2]] ([t1, t2].map toBA) ∧ ([t1, t2].map toBA).length = 2 :=
  ⟨St.slOf hS rfl (by intro c hc; simp at hc; rcases hc with rfl | rfl <;> rfl) rfl, strs [t1, t2], rfl⟩
theorem str3 {b T : Nat} {t1 t2 t3 : List UInt8} (hS : St cx w (blk b T [strV t1, strV t2, strV t3] :: L)) : St cx w (sl T 1 (.slice (some ⟨b, 0, none⟩) 3 3) [[strV t1], [strV t2], [strV t3]] :: L) ∧ strR.ls cx [[strV t1], [strV t2], [strV t3]] ([t1, t2, t3].map toBA) ∧ ([t1, t2, t3].map toBA).length = 3 :=
  ⟨St.slOf hS rfl (by intro c hc; simp at hc; rcases hc with rfl | rfl | rfl <;> rfl) rfl, strs [t1, t2, t3], rfl⟩
section
variable {x : Ins}
theorem rest_1 (h : x.op = 1) : x.rest = [Lib.itoa x.n] := by unfold Ins.rest; rw [if_pos h]
theorem rest_2 (h : x.op = 2) : x.rest = [wordN kindWords x.k, Lib.itoa x.a, Lib.itoa x.b] := by unfold Ins.rest; rw [if_neg (by omega), if_pos h]
theorem rest_4 (h : x.op = 4 ∨ x.op = 11 ∨ x.op = 13) : x.rest = [Lib.itoa x.a] := by unfold Ins.rest; rw [if_neg (by omega), if_neg (by omega), if_pos h]
theorem rest_5 (h : x.op = 5) : x.rest = [Lib.itoa x.a, Q1P [40] x.args [41]] := by unfold Ins.rest; rw [if_neg (by omega), if_neg (by omega), if_neg (by omega), if_pos h]
theorem rest_6 (h : x.op = 6) : x.rest = [Lib.itoa x.a, Lib.itoa x.k] := by unfold Ins.rest; rw [if_neg (by omega), if_neg (by omega), if_neg (by omega), if_neg (by omega), if_pos h]
theorem rest_7 (h : x.op = 7) : x.rest = [Lib.itoa x.a, Lib.itoa x.k, Lib.itoa x.b] := by unfold Ins.rest; rw [if_neg (by omega), if_neg (by omega), if_neg (by omega), if_neg (by omega), if_neg (by omega), if_pos h]
theorem rest_8 (h : x.op = 8 ∨ x.op = 9) : x.rest = [Lib.itoa x.a, Lib.itoa x.b] := by unfold Ins.rest; rw [if_neg (by omega), if_neg (by omega), if_neg (by omega), if_neg (by omega), if_neg (by omega), if_neg (by omega), if_pos h]
theorem rest_10 (h : x.op = 10) : x.rest = [Lib.itoa x.a, Lib.itoa x.b, Lib.itoa x.c] := by unfold Ins.rest; rw [if_neg (by omega), if_neg (by omega), if_neg (by omega), if_neg (by omega), if_neg (by omega), if_neg (by omega), if_neg (by omega), if_pos h]
theorem rest_14 (h : x.op = 14) : x.rest = [Lib.itoa x.k, Q1P [60] x.regs [62], Q1P [40] x.args [41]] := by unfold Ins.rest; rw [if_neg (by omega), if_neg (by omega), if_neg (by omega), if_neg (by omega), if_neg (by omega), if_neg (by omega), if_neg (by omega), if_neg (by omega), if_pos h]
theorem rest_0 (h : x.op ≠ 1 ∧ x.op ≠ 2 ∧ x.op ≠ 4 ∧ x.op ≠ 11 ∧ x.op ≠ 13 ∧ x.op ≠ 5 ∧ x.op ≠ 6 ∧ x.op ≠ 7 ∧ x.op ≠ 8 ∧ x.op ≠ 9 ∧ x.op ≠ 10 ∧ x.op ≠ 14) : x.rest = [] := by
  unfold Ins.rest; rw [if_neg (by omega), if_neg (by omega), if_neg (by omega), if_neg (by omega), if_neg (by omega), if_neg (by omega), if_neg (by omega), if_neg (by omega), if_neg (by omega)]
theorem rest_len : x.rest.length ≤ 3 := by unfold Ins.rest; (repeat' split) <;> simp
end
theorem ins_txt {x : Ins} {cs : List Value} (hp : x.Pr) (hx : insR.at cx cs x) (hT : PowT cx) (hS : St cx w L) : Rets Tryz.prog Qp [.agg ⟨cs⟩] w fun u w' => u = strV (x.txt ++ [59]) ∧ St cx w' L := by
  have htl := Ins.txt_le hp
  have hrl := rest_len (x := x)
  have htl2 : (Lib.join (wordN opWords x.op :: x.rest) [32]).length ≤ 800 := htl
  obtain ⟨vr, va, rfl, hr, ha⟩ := Q2p hx
  obtain ⟨⟨g0, g1, g2, g3, g4, g5⟩, g6, g7⟩ := hp
  have h0 := strs (cx := cx) [wordN opWords x.op]
  all_goals refine Qk3 ?_
  all_goals (unfold render_ins_lc; refine Q0 ?_; refine Q1 ?_; refine zb hS ?_; intro p1 w1 hS; refine zm ?_; refine zn ?_; refine Q0 ?_; refine Q1 ?_; refine Q2 rfl ?_; refine zl hS ?_; refine zR1 (c := popw_c hS) (h := ?_); rintro v1 w1 ⟨rfl, hS⟩; refine zB1 hS [_] ?_; intro b1 w1 hS; (first | (obtain ⟨hS, h9, h8⟩ := str3 hS) | (obtain ⟨hS, h9, h8⟩ := str2 hS) | (obtain ⟨hS, h9, h8⟩ := str1 hS)); refine zm ?_; refine zn ?_)
  refine zM [] (fun A ρ' w' => ∃ (vb : Value) (css : List (List Value)), Has ρ' A ∧ Has ρ' [(3, vb)] ∧ (strR.ls cx css ((wordN opWords x.op :: x.rest).map toBA)) ∧ (oneC vb = true) ∧ St cx w' (sl 9 1 vb css :: L)) ?_ ?_
  · skip
    all_goals (refine Q0 ?_; refine Q1 ?_; refine Q2 rfl ?_; refine zl hS ?_; refine zn ?_; refine Qa ?_; refine Q0 ?_; refine Q1 ?_)
    all_goals (first | (refine QB ?_) | (refine QF ?_) | (refine Qf rfl rfl (fun hc => ?_) (fun hc => ?_)))
    all_goals (refine zm ?_; refine zn ?_)
    all_goals
      first
      | (refine Q6 rfl ?_ -- Qp c0
         all_goals (refine Q1 ?_; refine zm ?_; refine Q2 rfl ?_; refine zl hS ?_; refine zR2 (c := fmtp_c g5.1 g5.2 hT hS) (h := ?_); rintro v1 w1 ⟨rfl, hS⟩; refine zB1 hS [_] ?_; intro b1 w1 hS; (first | (obtain ⟨hS, h9, h8⟩ := str3 hS) | (obtain ⟨hS, h9, h8⟩ := str2 hS) | (obtain ⟨hS, h9, h8⟩ := str1 hS)); (first | (refine za Q1r Q2I hS ?_; intro vp1 w1 css1 hls1 hv1 hS; have hS := hS.ns) | (refine zak Q1r Q2I hS ?_; intro vp1 w1 css1 hls1 hv1 hS; have hS := hS.ns) | (refine zas Q1r Q2I hS ?_; intro vp1 w1 css1 hls1 hv1 hS; have hS := hS.ns)); refine zm ?_)
         all_goals refine zn ?_)
      | (refine Q5 rfl ?_ -- Qp c0
         all_goals (refine Q0 ?_; refine Q1 ?_)
         all_goals (first | (refine QB ?_) | (refine QF ?_) | (refine Qf rfl rfl (fun hc => ?_) (fun hc => ?_)))
         all_goals (refine zm ?_; refine zn ?_)
         all_goals
           first
           | (refine Q6 rfl ?_ -- Qp c1
              all_goals (refine zC [(0, none), (1, none), (2, none), (4, none), (5, none), (7, none), (8, none), (3, some (some [5, 8])), (6, some (some [8])), (9, some (some [])), (10, some (some [])), (11, some none), (12, some none)] ?_; have hS := hS.drew; refine s_cq ?_; refine zm ?_; refine zt ?_; refine s_cq ?_; refine Q2 rfl ?_; refine zt ?_; refine s_cq ?_; refine zl hS ?_; refine zt ?_; refine s_cq ?_; refine Q2 rfl ?_; refine zt ?_; refine s_cq ?_; refine zl hS ?_; refine zt ?_; refine s_cq ?_; refine Q2 rfl ?_; refine zt ?_; refine s_cq ?_; refine zl hS ?_; refine zt ?_; refine Q1e ?_; refine zR1 (c := Qno hS) (h := ?_); rintro v1 w1 ⟨rfl, hS⟩; refine zt ?_; refine zy ?_; refine Q1e ?_; refine zR1 (c := Q50 (by assumption) hT hS) (h := ?_); rintro v1 w1 ⟨rfl, hS⟩; refine zt ?_; refine zy ?_; refine Q1e ?_; refine zR1 (c := Q50 (by assumption) hT hS) (h := ?_); rintro v1 w1 ⟨rfl, hS⟩; refine zt ?_; refine zy ?_; refine Q1e ?_; refine zB3 hS [_, _, _] ?_; intro b1 w1 hS; obtain ⟨hS, h9, h8⟩ := str3 hS; refine zt ?_; refine zy ?_; refine s_cf ?_; (first | (refine za Q1r Q2I hS ?_; intro vp2 w2 css2 hls2 hv2 hS; have hS := hS.ns) | (refine zak Q1r Q2I hS ?_; intro vp2 w2 css2 hls2 hv2 hS; have hS := hS.ns) | (refine zas Q1r Q2I hS ?_; intro vp2 w2 css2 hls2 hv2 hS; have hS := hS.ns)))
              all_goals (refine zt ?_; refine s_cf ?_; refine zm ?_; refine zt ?_)
              all_goals refine zcn ?_)
           | (refine Q5 rfl ?_ -- Qp c1
              all_goals (refine Q0 ?_; refine Q0 ?_; refine Q1 ?_)
              all_goals (first | (refine QB ?_) | (refine QF ?_) | (refine Qf rfl rfl (fun hc => ?_) (fun hc => ?_)))
              all_goals (refine zm ?_; refine zn ?_)
              all_goals
                first
                | (refine Q6 rfl ?_ -- Qp c2
                   all_goals refine zsk ?_)
                | (refine Q5 rfl ?_ -- Qp c2
                   all_goals (refine Q0 ?_; refine Q1 ?_)
                   all_goals (first | (refine QB ?_) | (refine QF ?_) | (refine Qf rfl rfl (fun hc => ?_) (fun hc => ?_)))
                   all_goals (refine zm ?_; refine zn ?_)
                   all_goals
                     first
                     | (refine Q6 rfl ?_ -- Qp c3
                        all_goals refine zsk ?_)
                     | (refine Q5 rfl ?_ -- Qp c3
                        all_goals (refine Q1 ?_)
                        all_goals (first | (refine QB ?_) | (refine QF ?_) | (refine Qf rfl rfl (fun hc => ?_) (fun hc => ?_)))
                        all_goals (refine zm ?_)
                        all_goals refine zn ?_))
              all_goals
                first
                | (refine Q6 rfl ?_ -- Qp c4
                   all_goals (refine Q1 ?_; refine zm ?_; refine Q2 rfl ?_; refine zl hS ?_; refine zR1 (c := Q50 (by assumption) hT hS) (h := ?_); rintro v1 w1 ⟨rfl, hS⟩; refine zB1 hS [_] ?_; intro b1 w1 hS; (first | (obtain ⟨hS, h9, h8⟩ := str3 hS) | (obtain ⟨hS, h9, h8⟩ := str2 hS) | (obtain ⟨hS, h9, h8⟩ := str1 hS)); (first | (refine za Q1r Q2I hS ?_; intro vp3 w3 css3 hls3 hv3 hS; have hS := hS.ns) | (refine zak Q1r Q2I hS ?_; intro vp3 w3 css3 hls3 hv3 hS; have hS := hS.ns) | (refine zas Q1r Q2I hS ?_; intro vp3 w3 css3 hls3 hv3 hS; have hS := hS.ns)); refine zm ?_)
                   all_goals refine zn ?_)
                | (refine Q5 rfl ?_ -- Qp c4
                   all_goals (refine Q0 ?_; refine Q1 ?_)
                   all_goals (first | (refine QB ?_) | (refine QF ?_) | (refine Qf rfl rfl (fun hc => ?_) (fun hc => ?_)))
                   all_goals (refine zm ?_; refine zn ?_)
                   all_goals
                     first
                     | (refine Q6 rfl ?_ -- Qp c5
                        all_goals (refine zC [(0, none), (1, none), (2, none), (4, none), (5, none), (3, some (some [5])), (6, some (some [])), (7, some (some [])), (8, some none), (9, some none)] ?_; have hS := hS.drew; refine s_cq ?_; refine zm ?_; refine zt ?_; refine s_cq ?_; refine Q2 rfl ?_; refine zt ?_; refine s_cq ?_; refine zl hS ?_; refine zt ?_; refine s_cq ?_; refine Q2 rfl ?_; refine zt ?_; refine s_cq ?_; refine zl hS ?_; refine zt ?_; refine Q1e ?_; refine zR1 (c := Q50 (by assumption) hT hS) (h := ?_); rintro v1 w1 ⟨rfl, hS⟩; refine zt ?_; refine zy ?_; refine Q1e ?_; refine zR3 (c := QnW (by decide) (by decide) g7 ha hT hS) (h := ?_); rintro v1 w1 ⟨rfl, hS⟩; refine zt ?_; refine zy ?_; refine Q1e ?_; refine zB2 hS [_, _] ?_; intro b1 w1 hS; (first | (obtain ⟨hS, h9, h8⟩ := str3 hS) | (obtain ⟨hS, h9, h8⟩ := str2 hS)); refine zt ?_; refine zy ?_; refine s_cf ?_; (first | (refine za Q1r Q2I hS ?_; intro vp4 w4 css4 hls4 hv4 hS; have hS := hS.ns) | (refine zak Q1r Q2I hS ?_; intro vp4 w4 css4 hls4 hv4 hS; have hS := hS.ns) | (refine zas Q1r Q2I hS ?_; intro vp4 w4 css4 hls4 hv4 hS; have hS := hS.ns)); refine zt ?_; refine s_cf ?_; refine zm ?_; refine zt ?_)
                        all_goals refine zcn ?_)
                     | (refine Q5 rfl ?_ -- Qp c5
                        all_goals (refine Q0 ?_; refine Q1 ?_)
                        all_goals (first | (refine QB ?_) | (refine QF ?_) | (refine Qf rfl rfl (fun hc => ?_) (fun hc => ?_)))
                        all_goals (refine zm ?_; refine zn ?_)
                        all_goals
                          first
                          | (refine Q6 rfl ?_ -- Qp c6
                             all_goals (refine zC [(0, none), (1, none), (2, none), (4, none), (5, none), (3, some (some [5])), (6, some (some [])), (7, some (some [])), (8, some none), (9, some none)] ?_; have hS := hS.drew; refine s_cq ?_; refine zm ?_; refine zt ?_; refine s_cq ?_; refine Q2 rfl ?_; refine zt ?_; refine s_cq ?_; refine zl hS ?_; refine zt ?_; refine s_cq ?_; refine Q2 rfl ?_; refine zt ?_; refine s_cq ?_; refine zl hS ?_; refine zt ?_; refine Q1e ?_; refine zR1 (c := Q50 (by assumption) hT hS) (h := ?_); rintro v1 w1 ⟨rfl, hS⟩; refine zt ?_; refine zy ?_; refine Q1e ?_; refine zR1 (c := Q50 (by assumption) hT hS) (h := ?_); rintro v1 w1 ⟨rfl, hS⟩; refine zt ?_; refine zy ?_; refine Q1e ?_; refine zB2 hS [_, _] ?_; intro b1 w1 hS; (first | (obtain ⟨hS, h9, h8⟩ := str3 hS) | (obtain ⟨hS, h9, h8⟩ := str2 hS)); refine zt ?_; refine zy ?_; refine s_cf ?_; (first | (refine za Q1r Q2I hS ?_; intro vp5 w5 css5 hls5 hv5 hS; have hS := hS.ns) | (refine zak Q1r Q2I hS ?_; intro vp5 w5 css5 hls5 hv5 hS; have hS := hS.ns) | (refine zas Q1r Q2I hS ?_; intro vp5 w5 css5 hls5 hv5 hS; have hS := hS.ns)); refine zt ?_; refine s_cf ?_; refine zm ?_; refine zt ?_)
                             all_goals refine zcn ?_)
                          | (refine Q5 rfl ?_ -- Qp c6
                             all_goals (refine Q0 ?_; refine Q1 ?_)
                             all_goals (first | (refine QB ?_) | (refine QF ?_) | (refine Qf rfl rfl (fun hc => ?_) (fun hc => ?_)))
                             all_goals (refine zm ?_; refine zn ?_)
                             all_goals
                               first
                               | (refine Q6 rfl ?_ -- Qp c7
                                  all_goals (refine zC [(0, none), (1, none), (2, none), (4, none), (5, none), (7, none), (8, none), (3, some (some [5, 8])), (6, some (some [8])), (9, some (some [])), (10, some (some [])), (11, some none), (12, some none)] ?_; have hS := hS.drew; refine s_cq ?_; refine zm ?_; refine zt ?_; refine s_cq ?_; refine Q2 rfl ?_; refine zt ?_; refine s_cq ?_; refine zl hS ?_; refine zt ?_; refine s_cq ?_; refine Q2 rfl ?_; refine zt ?_; refine s_cq ?_; refine zl hS ?_; refine zt ?_; refine s_cq ?_; refine Q2 rfl ?_; refine zt ?_; refine s_cq ?_; refine zl hS ?_; refine zt ?_; refine Q1e ?_; refine zR1 (c := Q50 (by assumption) hT hS) (h := ?_); rintro v1 w1 ⟨rfl, hS⟩; refine zt ?_; refine zy ?_; refine Q1e ?_; refine zR1 (c := Q50 (by assumption) hT hS) (h := ?_); rintro v1 w1 ⟨rfl, hS⟩; refine zt ?_; refine zy ?_; refine Q1e ?_; refine zR1 (c := Q50 (by assumption) hT hS) (h := ?_); rintro v1 w1 ⟨rfl, hS⟩; refine zt ?_; refine zy ?_; refine Q1e ?_; refine zB3 hS [_, _, _] ?_; intro b1 w1 hS; obtain ⟨hS, h9, h8⟩ := str3 hS; refine zt ?_; refine zy ?_; refine s_cf ?_; (first | (refine za Q1r Q2I hS ?_; intro vp6 w6 css6 hls6 hv6 hS; have hS := hS.ns) | (refine zak Q1r Q2I hS ?_; intro vp6 w6 css6 hls6 hv6 hS; have hS := hS.ns) | (refine zas Q1r Q2I hS ?_; intro vp6 w6 css6 hls6 hv6 hS; have hS := hS.ns)))
                                  all_goals (refine zt ?_; refine s_cf ?_; refine zm ?_; refine zt ?_)
                                  all_goals refine zcn ?_)
                               | (refine Q5 rfl ?_ -- Qp c7
                                  all_goals (refine Q0 ?_; refine Q0 ?_; refine Q1 ?_)
                                  all_goals (first | (refine QB ?_) | (refine QF ?_) | (refine Qf rfl rfl (fun hc => ?_) (fun hc => ?_)))
                                  all_goals (refine zm ?_; refine zn ?_)
                                  all_goals
                                    first
                                    | (refine Q6 rfl ?_ -- Qp c8
                                       all_goals refine zsk ?_)
                                    | (refine Q5 rfl ?_ -- Qp c8
                                       all_goals (refine Q1 ?_)
                                       all_goals (first | (refine QB ?_) | (refine QF ?_) | (refine Qf rfl rfl (fun hc => ?_) (fun hc => ?_)))
                                       all_goals (refine zm ?_)
                                       all_goals refine zn ?_)
                                  all_goals
                                    first
                                    | (refine Q6 rfl ?_ -- Qp c9
                                       all_goals (refine zC [(0, none), (1, none), (2, none), (4, none), (5, none), (3, some (some [5])), (6, some (some [])), (7, some (some [])), (8, some none), (9, some none)] ?_; have hS := hS.drew; refine s_cq ?_; refine zm ?_; refine zt ?_; refine s_cq ?_; refine Q2 rfl ?_; refine zt ?_; refine s_cq ?_; refine zl hS ?_; refine zt ?_; refine s_cq ?_; refine Q2 rfl ?_; refine zt ?_; refine s_cq ?_; refine zl hS ?_; refine zt ?_; refine Q1e ?_; refine zR1 (c := Q50 (by assumption) hT hS) (h := ?_); rintro v1 w1 ⟨rfl, hS⟩; refine zt ?_; refine zy ?_; refine Q1e ?_; refine zR1 (c := Q50 (by assumption) hT hS) (h := ?_); rintro v1 w1 ⟨rfl, hS⟩; refine zt ?_; refine zy ?_; refine Q1e ?_; refine zB2 hS [_, _] ?_; intro b1 w1 hS; (first | (obtain ⟨hS, h9, h8⟩ := str3 hS) | (obtain ⟨hS, h9, h8⟩ := str2 hS)); refine zt ?_; refine zy ?_; refine s_cf ?_; (first | (refine za Q1r Q2I hS ?_; intro vp7 w7 css7 hls7 hv7 hS; have hS := hS.ns) | (refine zak Q1r Q2I hS ?_; intro vp7 w7 css7 hls7 hv7 hS; have hS := hS.ns) | (refine zas Q1r Q2I hS ?_; intro vp7 w7 css7 hls7 hv7 hS; have hS := hS.ns)); refine zt ?_; refine s_cf ?_; refine zm ?_; refine zt ?_)
                                       all_goals refine zcn ?_)
                                    | (refine Q5 rfl ?_ -- Qp c9
                                       all_goals (refine Q0 ?_; refine Q1 ?_)
                                       all_goals (first | (refine QB ?_) | (refine QF ?_) | (refine Qf rfl rfl (fun hc => ?_) (fun hc => ?_)))
                                       all_goals (refine zm ?_; refine zn ?_)
                                       all_goals
                                         first
                                         | (refine Q6 rfl ?_ -- Qp c10
                                            all_goals (refine zC [(0, none), (1, none), (2, none), (4, none), (5, none), (7, none), (8, none), (3, some (some [5, 8])), (6, some (some [8])), (9, some (some [])), (10, some (some [])), (11, some none), (12, some none)] ?_; have hS := hS.drew; refine s_cq ?_; refine zm ?_; refine zt ?_; refine s_cq ?_; refine Q2 rfl ?_; refine zt ?_; refine s_cq ?_; refine zl hS ?_; refine zt ?_; refine s_cq ?_; refine Q2 rfl ?_; refine zt ?_; refine s_cq ?_; refine zl hS ?_; refine zt ?_; refine s_cq ?_; refine Q2 rfl ?_; refine zt ?_; refine s_cq ?_; refine zl hS ?_; refine zt ?_; refine Q1e ?_; refine zR1 (c := Q50 (by assumption) hT hS) (h := ?_); rintro v1 w1 ⟨rfl, hS⟩; refine zt ?_; refine zy ?_; refine Q1e ?_; refine zR1 (c := Q50 (by assumption) hT hS) (h := ?_); rintro v1 w1 ⟨rfl, hS⟩; refine zt ?_; refine zy ?_; refine Q1e ?_; refine zR1 (c := Q50 (by assumption) hT hS) (h := ?_); rintro v1 w1 ⟨rfl, hS⟩; refine zt ?_; refine zy ?_; refine Q1e ?_; refine zB3 hS [_, _, _] ?_; intro b1 w1 hS; obtain ⟨hS, h9, h8⟩ := str3 hS; refine zt ?_; refine zy ?_; refine s_cf ?_; (first | (refine za Q1r Q2I hS ?_; intro vp8 w8 css8 hls8 hv8 hS; have hS := hS.ns) | (refine zak Q1r Q2I hS ?_; intro vp8 w8 css8 hls8 hv8 hS; have hS := hS.ns) | (refine zas Q1r Q2I hS ?_; intro vp8 w8 css8 hls8 hv8 hS; have hS := hS.ns)))
                                            all_goals (refine zt ?_; refine s_cf ?_; refine zm ?_; refine zt ?_)
                                            all_goals refine zcn ?_)
                                         | (refine Q5 rfl ?_ -- Qp c10
                                            all_goals (refine Q0 ?_; refine Q1 ?_)
                                            all_goals (first | (refine QB ?_) | (refine QF ?_) | (refine Qf rfl rfl (fun hc => ?_) (fun hc => ?_)))
                                            all_goals (refine zm ?_; refine zn ?_)
                                            all_goals
                                              first
                                              | (refine Q6 rfl ?_ -- Qp c11
                                                 all_goals (refine zC [(0, none), (1, none), (2, none), (4, none), (5, none), (7, none), (8, none), (3, some (some [5, 8])), (6, some (some [8])), (9, some (some [])), (10, some (some [])), (11, some none), (12, some none)] ?_; have hS := hS.drew; refine s_cq ?_; refine zm ?_; refine zt ?_; refine s_cq ?_; refine Q2 rfl ?_; refine zt ?_; refine s_cq ?_; refine zl hS ?_; refine zt ?_; refine s_cq ?_; refine Q2 rfl ?_; refine zt ?_; refine s_cq ?_; refine zl hS ?_; refine zt ?_; refine s_cq ?_; refine Q2 rfl ?_; refine zt ?_; refine s_cq ?_; refine zl hS ?_; refine zt ?_; refine Q1e ?_; refine zR1 (c := Q50 (by assumption) hT hS) (h := ?_); rintro v1 w1 ⟨rfl, hS⟩; refine zt ?_; refine zy ?_; refine Q1e ?_; refine zR3 (c := QnW (by decide) (by decide) g6 hr hT hS) (h := ?_); rintro v1 w1 ⟨rfl, hS⟩; refine zt ?_; refine zy ?_; refine Q1e ?_; refine zR3 (c := QnW (by decide) (by decide) g7 ha hT hS) (h := ?_); rintro v1 w1 ⟨rfl, hS⟩; refine zt ?_; refine zy ?_; refine Q1e ?_; refine zB3 hS [_, _, _] ?_; intro b1 w1 hS; obtain ⟨hS, h9, h8⟩ := str3 hS; refine zt ?_; refine zy ?_)
                                                 all_goals (refine s_cf ?_; (first | (refine za Q1r Q2I hS ?_; intro vp9 w9 css9 hls9 hv9 hS; have hS := hS.ns) | (refine zak Q1r Q2I hS ?_; intro vp9 w9 css9 hls9 hv9 hS; have hS := hS.ns) | (refine zas Q1r Q2I hS ?_; intro vp9 w9 css9 hls9 hv9 hS; have hS := hS.ns)); refine zt ?_; refine s_cf ?_; refine zm ?_; refine zt ?_)
                                                 all_goals refine zcn ?_)
                                              | (refine Q5 rfl ?_ -- Qp c11
                                                 all_goals refine zsk ?_)))))))))
    all_goals ((first | (exact ⟨_, _, zh, zh, by rw [rest_1 (by omega)]; assumption, by assumption, hS.sp⟩) | (exact ⟨_, _, zh, zh, by rw [rest_2 (by omega)]; assumption, by assumption, hS.sp⟩) | (exact ⟨_, _, zh, zh, by rw [rest_4 (by omega)]; assumption, by assumption, hS.sp⟩) | (exact ⟨_, _, zh, zh, by rw [rest_5 (by omega)]; assumption, by assumption, hS.sp⟩) | (exact ⟨_, _, zh, zh, by rw [rest_6 (by omega)]; assumption, by assumption, hS.sp⟩) | (exact ⟨_, _, zh, zh, by rw [rest_7 (by omega)]; assumption, by assumption, hS.sp⟩) | (exact ⟨_, _, zh, zh, by rw [rest_8 (by omega)]; assumption, by assumption, hS.sp⟩) | (exact ⟨_, _, zh, zh, by rw [rest_10 (by omega)]; assumption, by assumption, hS.sp⟩) | (exact ⟨_, _, zh, zh, by rw [rest_14 (by omega)]; assumption, by assumption, hS.sp⟩) | (exact ⟨_, _, zh, zh, by rw [rest_0 (by omega)]; assumption, rfl, hS.sp⟩)))
  rintro ρ w1 ⟨vb, css, hA, hρ, hls, hvb, hS⟩; obtain ⟨ρ, rfl⟩ := env2 hA hρ
  all_goals (refine Q0 ?_; refine Q1 ?_; refine zm ?_; refine zR2 (c := Qny (xs := wordN opWords x.op :: x.rest) (sep := [32]) hS fd hls (by rw [List.length_cons]; omega) (by unfold Ins.txt at htl; omega)) (h := ?_); rintro v1 w1 ⟨rfl, hS⟩; refine QL rfl rfl (by first | omega | (simp only [List.length_append, List.length_cons, List.length_nil]; omega)) ?_; refine zm ?_; refine zn ?_; refine zr ?_; refine zf ?_; refine ⟨_, rfl, ?_, hS.sp⟩; (rfl); done)
theorem end_txt {t : Tail} {cs : List Value} (hp : t.Pr) (hx : endR.at cx cs t) (hT : PowT cx) (hS : St cx w L) : Rets Tryz.prog Q3K [.agg ⟨cs⟩] w fun u w' => u = strV (t.txt ++ [59]) ∧ St cx w' L := by
  have htl := Tail.txt_le hp
  obtain ⟨v1, v2, v3, v4, v5, rfl, h1, h2, h3, h4, h5⟩ := Qex hx
  obtain ⟨g1, g2, g3, g4⟩ := hp
  have l1 := Q2T g1
  have l2 := To.txt_le g2
  have l3 := To.txt_le g3
  have l4 := Q2C g4 (b := [40]) (e := [41]) rfl rfl
  have hy : toR.at cx [.int .i64 t.yes.block, v1, v2] t.yes := ⟨_, _, rfl, h1, h2⟩
  have hn : toR.at cx [.int .i64 t.no.block, v3, v4] t.no := ⟨_, _, rfl, h3, h4⟩
  all_goals refine Qkc ?_
  all_goals (unfold render_end_lc; refine Q0 ?_; refine Q1 ?_; refine zb hS ?_; intro p1 w1 hS; refine zm ?_; refine zn ?_; refine Q0 ?_; refine Q0 ?_; refine Q1 ?_; refine Q2 rfl ?_; refine zl hS ?_; refine zn ?_; refine Qa ?_; refine Q0 ?_; refine Q1 ?_)
  all_goals (first | (refine QB ?_) | (refine QF ?_) | (refine Qf rfl rfl (fun hc => ?_) (fun hc => ?_)))
  all_goals (refine zm ?_; refine zn ?_)
  all_goals
    first
    | (refine Q6 rfl ?_ -- Q3K c0
       all_goals (refine Q0 ?_; refine Q1 ?_; refine Q2 rfl ?_; refine zv hS ?_; refine zR1 (c := Qop g2 hy hT hS) (h := ?_); rintro v1 w1 ⟨rfl, hS⟩; refine QL rfl rfl (by first | omega | (simp only [List.length_append, List.length_cons, List.length_nil]; omega)) ?_; refine QL rfl rfl (by first | omega | (simp only [List.length_append, List.length_cons, List.length_nil]; omega)) ?_; refine zm ?_; refine zn ?_; refine zr ?_; refine zf ?_)
       all_goals (refine ⟨_, rfl, ?_, hS.sp⟩; unfold Tail.txt; rw [if_pos (by omega)]; simp only [List.append_assoc]; rfl; done))
    | (refine Q5 rfl ?_ -- Q3K c0
       all_goals (refine Q0 ?_; refine Q1 ?_)
       all_goals (first | (refine QB ?_) | (refine QF ?_) | (refine Qf rfl rfl (fun hc => ?_) (fun hc => ?_)))
       all_goals (refine zm ?_; refine zn ?_)
       all_goals
         first
         | (refine Q6 rfl ?_ -- Q3K c1
            all_goals (refine Q0 ?_; refine zC [(0, none), (1, none), (5, none), (6, none), (10, none), (11, none), (2, some (some [6, 11])), (3, none), (4, none), (7, some (some [11])), (8, none), (9, none), (12, some (some [])), (13, none), (14, none), (15, some none)] ?_; have hS := hS.drew; refine s_cq ?_; refine Q2 rfl ?_; refine zt ?_; refine s_cq ?_; refine zl hS ?_; refine zt ?_; refine s_cq ?_; refine Q2 rfl ?_; refine zt ?_; refine s_cq ?_; refine zv hS ?_; refine zt ?_; refine s_cq ?_; refine Q2 rfl ?_; refine zt ?_; refine s_cq ?_; refine zv hS ?_; refine zt ?_; refine Q1e ?_; refine zR1 (c := Q50 g1 hT hS) (h := ?_); rintro v1 w1 ⟨rfl, hS⟩; refine zt ?_; refine zy ?_; refine s_cq ?_; refine QL rfl rfl (by first | omega | (simp only [List.length_append, List.length_cons, List.length_nil]; omega)) ?_; refine zt ?_; refine s_cq ?_; refine QL rfl rfl (by first | omega | (simp only [List.length_append, List.length_cons, List.length_nil]; omega)) ?_; refine zt ?_; refine Q1e ?_; refine zR1 (c := Qop g2 hy hT hS) (h := ?_); rintro v1 w1 ⟨rfl, hS⟩; refine zt ?_; refine zy ?_; refine s_cq ?_; refine QL rfl rfl (by first | omega | (simp only [List.length_append, List.length_cons, List.length_nil]; omega)) ?_)
            all_goals (refine zt ?_; refine s_cq ?_; refine QL rfl rfl (by first | omega | (simp only [List.length_append, List.length_cons, List.length_nil]; omega)) ?_; refine zt ?_; refine Q1e ?_; refine zR1 (c := Qop g3 hn hT hS) (h := ?_); rintro v1 w1 ⟨rfl, hS⟩; refine zt ?_; refine zy ?_; refine s_cq ?_; refine QL rfl rfl (by first | omega | (simp only [List.length_append, List.length_cons, List.length_nil]; omega)) ?_; refine zt ?_; refine s_cq ?_; refine QL rfl rfl (by first | omega | (simp only [List.length_append, List.length_cons, List.length_nil]; omega)) ?_; refine zt ?_; refine s_cf ?_; refine zm ?_; refine zt ?_; refine zcn ?_; refine zr ?_; refine zf ?_)
            all_goals (first | (refine ⟨_, rfl, ?_, hS.sp⟩; unfold Tail.txt; rw [if_pos (by omega)]; simp only [List.append_assoc]; rfl; done) | (refine ⟨_, rfl, ?_, hS.sp⟩; unfold Tail.txt; rw [if_neg (by omega), if_pos (by omega)]; simp only [List.append_assoc]; rfl; done)))
         | (refine Q5 rfl ?_ -- Q3K c1
            all_goals refine zsk ?_))
  all_goals (refine Q0 ?_; refine Q1 ?_; refine Q2 rfl ?_; refine zl hS ?_; refine zR3 (c := QnW (by decide) (by decide) g4 h5 hT hS) (h := ?_); rintro v1 w1 ⟨rfl, hS⟩; refine QL rfl rfl (by first | omega | (simp only [List.length_append, List.length_cons, List.length_nil]; omega)) ?_; refine QL rfl rfl (by first | omega | (simp only [List.length_append, List.length_cons, List.length_nil]; omega)) ?_; refine zm ?_; refine zn ?_; refine zr ?_; refine zf ?_; (first | (refine ⟨_, rfl, ?_, hS.sp⟩; unfold Tail.txt; rw [if_pos (by omega)]; simp only [List.append_assoc]; rfl; done) | (refine ⟨_, rfl, ?_, hS.sp⟩; unfold Tail.txt; rw [if_neg (by omega), if_pos (by omega)]; simp only [List.append_assoc]; rfl; done) | (refine ⟨_, rfl, ?_, hS.sp⟩; unfold Tail.txt; rw [if_neg (by omega), if_neg (by omega)]; simp only [List.append_assoc]; rfl; done)))
end Go.Proofs.YtjecflbbcnocdaaGreatDoor
namespace Go.Proofs.YtjecflbbcnocdaaGreatDoor
open Go.Lir
set_option maxHeartbeats 1000000
attribute [local irreducible] LC.wp Q3 Qt QA retQ Q1m LO.wp Qm Calls
set_option linter.unusedSimpArgs false
set_option linter.unusedVariables false
theorem Qf7 {l m : List Int} {cx : Cx} {w : World} {L : List Res} {v v2 : Value} (hl : intR.sl cx v l) (hm : intR.sl cx v2 m) (hS : St cx w L) : Rets Tryz.prog Q3M [v, v2] w fun u w' => u = .bool (decide (l = m)) ∧ St cx w' L := by
  have hlen := hl.len
  all_goals refine Qlq ?_
  all_goals (unfold R_SameInts_lc; refine Q0 ?_; refine Q1 ?_; refine zm ?_; refine zn ?_; refine Q0 ?_; refine Q0 ?_; refine Q1 ?_; refine zm ?_; refine zL ?_; refine zm ?_; refine zL ?_)
  all_goals (first | (refine Q2L ?_) | (refine Q2M ?_) | (refine Q1a rfl rfl (fun hc => ?_) (fun hc => ?_)))
  all_goals (refine zn ?_)
  all_goals
    first
    | (refine Q6 rfl ?_ -- Q3M c0
       all_goals (refine Q0 ?_; refine Q1 ?_; refine zm ?_; refine zn ?_; refine zr ?_; refine zf ?_)
       all_goals (refine ⟨_, rfl, ?_, hS.sp⟩; rw [decide_eq_false]; exact fun e => absurd (congrArg List.length e) (by omega); done))
    | (refine Q5 rfl ?_ -- Q3M c0
       all_goals refine zsk ?_)
  all_goals (refine Q0 ?_; refine Q0 ?_; refine Q1 ?_; refine zm ?_; refine zn ?_; refine Qa ?_)
  refine zoL hS [0, 1] (fun A LL ρ' w' => ∃ (j : Nat), Has ρ' A ∧ Has ρ' [(5, .int .i64 j)] ∧ (j ≤ l.length) ∧ (l.length = m.length) ∧ (l = m ↔ l.drop j = m.drop j) ∧ St cx w' (LL)) (fun ρ' _ => (l.length - iv (ρ' 5)).toNat) ?_ ?_
  · exact ⟨0, zh, zh, (by omega), (by omega), by simp, hS.sp⟩
  rintro ρ w1 ⟨j, hA, hρ, hj, hlm, hd, hS⟩; obtain ⟨ρ, rfl⟩ := env2 hA hρ
  unfold QbO
  all_goals (refine Q0 ?_; refine Q0 ?_; refine Q1 ?_; refine zm ?_; refine zm ?_; refine zL ?_; refine QG rfl rfl ?_; refine zn ?_)
  refine Qu rfl (fun hc => ?_) (fun hc => ?_)
  · skip
    all_goals (refine zsk ?_; refine Q0 ?_; refine Qa ?_; refine Q0 ?_; refine zD [(0, none), (1, none), (2, none), (3, none), (4, none), (5, none), (6, none), (7, none), (8, some none)] ?_; have hS := hS.drew; refine zm ?_; refine zm ?_; refine zi ?_; intro b1 o1 cs1 x1 hat1 hx1 he1; obtain rfl := Q7H he1; (first | (refine zl hS ?_) | (refine zlk hS ?_)); refine zm ?_; refine zm ?_; refine zi ?_; intro b2 o2 cs2 x2 hat2 hx2 he2; obtain rfl := Q7H he2; (first | (refine zl hS ?_) | (refine zlk hS ?_)))
    all_goals (first | (refine Q2L ?_) | (refine Q2M ?_) | (refine Q1a rfl rfl (fun hc => ?_) (fun hc => ?_)))
    all_goals (refine zn ?_)
    all_goals
      first
      | (refine Q6 rfl ?_ -- Q3M c2
         all_goals (refine Q0 ?_; refine Q1 ?_; refine zm ?_; refine zn ?_; refine zr ?_; refine zf ?_)
         all_goals (first | (refine ⟨_, rfl, ?_, hS.sp⟩; rw [decide_eq_false]; exact fun e => absurd (congrArg List.length e) (by omega); done) | (refine ⟨_, rfl, ?_, hS.sp⟩; rw [decide_eq_false]; rw [hd, Q7 hx1, Q7 hx2]; simp [*]; done)))
      | (refine Q5 rfl ?_ -- Q3M c2
         all_goals refine zsk ?_)
    all_goals (refine Q1 ?_; refine zm ?_; refine zad ?_; refine zm ?_; refine zn ?_; exact ⟨⟨j + 1, zh, zh, (by omega), (by omega), by rw [hd, Q7 hx1, Q7 hx2, show x1 = x2 by omega]; simp, hS.sp⟩, Qz (by omega)⟩)
  · skip
    all_goals (refine zex ?_; refine Q0 ?_; refine Q1 ?_; refine zm ?_; refine zn ?_; refine zr ?_; refine zf ?_; (first | (refine ⟨_, rfl, ?_, hS.sp⟩; rw [decide_eq_false]; exact fun e => absurd (congrArg List.length e) (by omega); done) | (refine ⟨_, rfl, ?_, hS.sp⟩; rw [decide_eq_false]; rw [hd, Q7 hx1, Q7 hx2]; simp [*]; done) | (refine ⟨_, rfl, ?_, hS.sp⟩; rw [decide_eq_true]; rw [hd, List.drop_of_length_le (by omega), List.drop_of_length_le (by omega)]; done)))
theorem QlF {x y : To} {cx : Cx} {w : World} {L : List Res} {cs ds : List Value} (hx : toR.at cx cs x) (hy : toR.at cx ds y) (hS : St cx w L) : Rets Tryz.prog QnK [.agg ⟨cs⟩, .agg ⟨ds⟩] w fun u w' => u = .bool (decide (x = y)) ∧ St cx w' L := by
  obtain ⟨n, xr, xa⟩ := x
  obtain ⟨n2, yr, ya⟩ := y
  obtain ⟨v1, v2, rfl, h1, h2⟩ := Q9D hx
  obtain ⟨v3, v4, rfl, h3, h4⟩ := Q9D hy
  simp only [To.mk.injEq] at *
  all_goals refine Qn7 ?_
  all_goals (unfold R_sameTo_lc; refine Q0 ?_; refine Q1 ?_; refine zb hS ?_; intro p2 w1 hS; refine zb hS ?_; intro p3 w1 hS; refine zm ?_; refine zn ?_; refine Q0 ?_; refine Q1 ?_; refine Q2 rfl ?_; refine zl hS ?_; refine Q2 rfl ?_; refine zl hS ?_)
  all_goals (first | (refine QB ?_) | (refine QF ?_) | (refine Qf rfl rfl (fun hc => ?_) (fun hc => ?_)))
  all_goals (refine zm ?_; (first | refine s_gn rfl rfl ?_ | (refine s_gy rfl ?_; refine Q2 rfl ?_)); (first | refine s_gn rfl rfl ?_ | (refine s_gy rfl ?_; refine zl hS ?_)); (first | refine s_gn rfl rfl ?_ | (refine s_gy rfl ?_; refine Q2 rfl ?_)); (first | refine s_gn rfl rfl ?_ | (refine s_gy rfl ?_; refine zl hS ?_)))
  all_goals ((first | (refine s_gn rfl rfl ?_) | (refine s_gy rfl ?_; refine zR2 (c := Qf7 h1 h3 hS) (h := ?_); rintro v1 w1 ⟨rfl, hS⟩; (cases hdec : decide (xr = yr)); have hg := of_decide_eq_false hdec; rotate_left; have hg := of_decide_eq_true hdec; all_goals skip)))
  all_goals ((first | (refine zpt ?_) | (refine zpf ?_)); refine zm ?_; (first | refine s_gn rfl rfl ?_ | (refine s_gy rfl ?_; refine Q2 rfl ?_)); (first | refine s_gn rfl rfl ?_ | (refine s_gy rfl ?_; refine zl hS ?_)); (first | refine s_gn rfl rfl ?_ | (refine s_gy rfl ?_; refine Q2 rfl ?_)); (first | refine s_gn rfl rfl ?_ | (refine s_gy rfl ?_; refine zl hS ?_)); (first | (refine s_gn rfl rfl ?_) | (refine s_gy rfl ?_; refine zR2 (c := Qf7 h2 h4 hS) (h := ?_); rintro v1 w1 ⟨rfl, hS⟩)); (first | (refine zpt ?_) | (refine zpf ?_)); refine zm ?_; refine zn ?_; refine zr ?_; refine zf ?_; refine ⟨_, rfl, ?_, hS.sp⟩; (simp [*]); done)
theorem QnV {x y : Ins} {cx : Cx} {w : World} {L : List Res} {cs ds : List Value} (hx : insR.at cx cs x) (hy : insR.at cx ds y) (hS : St cx w L) : Rets Tryz.prog Qmi [.agg ⟨cs⟩, .agg ⟨ds⟩] w fun u w' => u = .bool (decide (x = y)) ∧ St cx w' L := by
  obtain ⟨n, a, b, c, k, nn, xr, xa⟩ := x
  obtain ⟨n2, a2, b2, c2, k2, nn2, yr, ya⟩ := y
  obtain ⟨v1, v2, rfl, h1, h2⟩ := Q2p hx
  obtain ⟨v3, v4, rfl, h3, h4⟩ := Q2p hy
  simp only [Ins.mk.injEq] at *
  all_goals refine Qmh ?_
  all_goals (unfold R_sameIns_lc; refine Q0 ?_; refine Q1 ?_; refine zb hS ?_; intro p2 w1 hS; refine zb hS ?_; intro p3 w1 hS; refine zm ?_; refine zn ?_; refine Q0 ?_; refine Q1 ?_; refine Q2 rfl ?_; refine zl hS ?_; refine Q2 rfl ?_; refine zl hS ?_)
  all_goals (first | (refine QB ?_) | (refine QF ?_) | (refine Qf rfl rfl (fun hc => ?_) (fun hc => ?_)))
  all_goals (refine zm ?_; (first | refine s_gn rfl rfl ?_ | (refine s_gy rfl ?_; refine Q2 rfl ?_)); (first | refine s_gn rfl rfl ?_ | (refine s_gy rfl ?_; refine zl hS ?_)); (first | refine s_gn rfl rfl ?_ | (refine s_gy rfl ?_; refine Q2 rfl ?_)); (first | refine s_gn rfl rfl ?_ | (refine s_gy rfl ?_; refine zl hS ?_)))
  all_goals (first | refine s_gn rfl rfl ?_ | (refine s_gy rfl ?_; (first | (refine QB ?_) | (refine QF ?_) | (refine Qf rfl rfl (fun hc => ?_) (fun hc => ?_)))))
  all_goals ((first | (refine zpt ?_) | (refine zpf ?_)); refine zm ?_; (first | refine s_gn rfl rfl ?_ | (refine s_gy rfl ?_; refine Q2 rfl ?_)); (first | refine s_gn rfl rfl ?_ | (refine s_gy rfl ?_; refine zl hS ?_)); (first | refine s_gn rfl rfl ?_ | (refine s_gy rfl ?_; refine Q2 rfl ?_)); (first | refine s_gn rfl rfl ?_ | (refine s_gy rfl ?_; refine zl hS ?_)))
  all_goals (first | refine s_gn rfl rfl ?_ | (refine s_gy rfl ?_; (first | (refine QB ?_) | (refine QF ?_) | (refine Qf rfl rfl (fun hc => ?_) (fun hc => ?_)))))
  all_goals ((first | (refine zpt ?_) | (refine zpf ?_)); refine zm ?_; (first | refine s_gn rfl rfl ?_ | (refine s_gy rfl ?_; refine Q2 rfl ?_)); (first | refine s_gn rfl rfl ?_ | (refine s_gy rfl ?_; refine zl hS ?_)); (first | refine s_gn rfl rfl ?_ | (refine s_gy rfl ?_; refine Q2 rfl ?_)); (first | refine s_gn rfl rfl ?_ | (refine s_gy rfl ?_; refine zl hS ?_)))
  all_goals (first | refine s_gn rfl rfl ?_ | (refine s_gy rfl ?_; (first | (refine QB ?_) | (refine QF ?_) | (refine Qf rfl rfl (fun hc => ?_) (fun hc => ?_)))))
  all_goals ((first | (refine zpt ?_) | (refine zpf ?_)); refine zm ?_; (first | refine s_gn rfl rfl ?_ | (refine s_gy rfl ?_; refine Q2 rfl ?_)); (first | refine s_gn rfl rfl ?_ | (refine s_gy rfl ?_; refine zl hS ?_)); (first | refine s_gn rfl rfl ?_ | (refine s_gy rfl ?_; refine Q2 rfl ?_)); (first | refine s_gn rfl rfl ?_ | (refine s_gy rfl ?_; refine zl hS ?_)))
  all_goals (first | refine s_gn rfl rfl ?_ | (refine s_gy rfl ?_; (first | (refine QB ?_) | (refine QF ?_) | (refine Qf rfl rfl (fun hc => ?_) (fun hc => ?_)))))
  all_goals ((first | (refine zpt ?_) | (refine zpf ?_)); refine zm ?_; (first | refine s_gn rfl rfl ?_ | (refine s_gy rfl ?_; refine Q2 rfl ?_)); (first | refine s_gn rfl rfl ?_ | (refine s_gy rfl ?_; refine zl hS ?_)); (first | refine s_gn rfl rfl ?_ | (refine s_gy rfl ?_; refine Q2 rfl ?_)); (first | refine s_gn rfl rfl ?_ | (refine s_gy rfl ?_; refine zl hS ?_)))
  all_goals (first | refine s_gn rfl rfl ?_ | (refine s_gy rfl ?_; (first | (refine QB ?_) | (refine QF ?_) | (refine Qf rfl rfl (fun hc => ?_) (fun hc => ?_)))))
  all_goals ((first | (refine zpt ?_) | (refine zpf ?_)); refine zm ?_; (first | refine s_gn rfl rfl ?_ | (refine s_gy rfl ?_; refine Q2 rfl ?_)); (first | refine s_gn rfl rfl ?_ | (refine s_gy rfl ?_; refine zl hS ?_)); (first | refine s_gn rfl rfl ?_ | (refine s_gy rfl ?_; refine Q2 rfl ?_)); (first | refine s_gn rfl rfl ?_ | (refine s_gy rfl ?_; refine zl hS ?_)))
  all_goals ((first | (refine s_gn rfl rfl ?_) | (refine s_gy rfl ?_; refine zR2 (c := Qf7 h1 h3 hS) (h := ?_); rintro v1 w1 ⟨rfl, hS⟩; (cases hdec : decide (xr = yr)); have hg := of_decide_eq_false hdec; rotate_left; have hg := of_decide_eq_true hdec; all_goals skip)))
  all_goals ((first | (refine zpt ?_) | (refine zpf ?_)); refine zm ?_; (first | refine s_gn rfl rfl ?_ | (refine s_gy rfl ?_; refine Q2 rfl ?_)); (first | refine s_gn rfl rfl ?_ | (refine s_gy rfl ?_; refine zl hS ?_)); (first | refine s_gn rfl rfl ?_ | (refine s_gy rfl ?_; refine Q2 rfl ?_)); (first | refine s_gn rfl rfl ?_ | (refine s_gy rfl ?_; refine zl hS ?_)); (first | (refine s_gn rfl rfl ?_) | (refine s_gy rfl ?_; refine zR2 (c := Qf7 h2 h4 hS) (h := ?_); rintro v1 w1 ⟨rfl, hS⟩)); (first | (refine zpt ?_) | (refine zpf ?_)); refine zm ?_; refine zn ?_; refine zr ?_; refine zf ?_; refine ⟨_, rfl, ?_, hS.sp⟩; (simp [*]); done)
end Go.Proofs.YtjecflbbcnocdaaGreatDoor
namespace Go.Proofs.YtjecflbbcnocdaaGreatDoor
open Go.Lir
set_option maxHeartbeats 1000000
attribute [local irreducible] LC.wp Q3 Qt QA retQ Q1m LO.wp Qm Calls
set_option linter.unusedSimpArgs false
set_option linter.unusedVariables false
theorem Qo8 {x : Module} {cx : Cx} {w : World} {L : List Res} {cs : List Value} (hx : modR.at cx cs x) (hS : St cx w L) : Rets Tryz.prog QR [.agg ⟨cs⟩] w fun u w' => ∃ b, u = .bool b ∧ (b = false → x.Short) ∧ St cx w' L := by
  obtain ⟨vf, rfl, hl⟩ := Q3G hx
  obtain ⟨l⟩ := x
  have hl : funcR.sl cx vf l := hl
  have hlen := hl.len
  all_goals refine Qeo ?_
  all_goals (unfold R_GreatModule_lc; refine Q0 ?_; refine Q1 ?_; refine zb hS ?_; intro p1 w1 hS; refine zm ?_; refine zn ?_; refine Q0 ?_; refine Q0 ?_; refine Q1 ?_; refine Q2 rfl ?_; refine zl hS ?_; refine zL ?_)
  all_goals (first | (refine QW ?_) | (refine Q1g ?_) | (refine Qr rfl rfl (fun hc => ?_) (fun hc => ?_)))
  all_goals (refine zn ?_)
  all_goals
    first
    | (refine Q6 rfl ?_ -- QR c0
       all_goals (refine Q0 ?_; refine Q1 ?_; refine zm ?_; refine zn ?_; refine zr ?_; refine zf ?_)
       all_goals (exact ⟨_, rfl, true, rfl, fun h => Bool.noConfusion h, hS.sp⟩))
    | (refine Q5 rfl ?_ -- QR c0
       all_goals refine zsk ?_)
  all_goals (refine Q0 ?_; refine Q0 ?_; refine Q1 ?_; refine zm ?_; refine zn ?_; refine Qa ?_)
  refine zoL hS [1] (fun A LL ρ' w' => ∃ (j : Nat), Has ρ' A ∧ Has ρ' [(3, .int .i64 j)] ∧ (j ≤ l.length) ∧ (l.length ≤ 20) ∧ (∀ f ∈ l.take j, f.Short) ∧ St cx w' (LL)) (fun ρ' _ => (l.length - iv (ρ' 3)).toNat) ?_ ?_
  · exact ⟨0, zh, zh, (by omega), (by omega), by simp, hS.sp⟩
  rintro ρ w1 ⟨j, hA, hρ, hj, hl20, hd, hS⟩; obtain ⟨ρ, rfl⟩ := env2 hA hρ
  unfold Q5C
  all_goals (refine Q0 ?_; refine Q0 ?_; refine Q1 ?_; refine zm ?_; refine Q2 rfl ?_; refine zl hS ?_; refine zL ?_; refine QG rfl rfl ?_; refine zn ?_)
  refine Qu rfl (fun hc => ?_) (fun hc => ?_)
  · skip
    all_goals (refine zsk ?_; refine Q0 ?_; refine Qa ?_; refine Q0 ?_; refine Q1 ?_; refine Q2 rfl ?_; refine zl hS ?_; refine zm ?_; refine zi ?_; intro b1 o1 cs1 x1 hat1 hx1 he1; obtain ⟨vp1, vr1, vb1, rfl, hp1, hr1, hb1⟩ := Q1K he1; (first | (refine zv hS ?_) | (refine zvk hS ?_)); refine Qe hS ?_; intro p4 w1 hS; refine zsn hS ?_; intro w1 hS; have hS := hS.ns; refine zn ?_; refine Q0 ?_; refine Q0 ?_; refine Q1 ?_; refine Q2 rfl ?_; refine zl hS ?_; refine zL ?_)
    all_goals (first | (refine QW ?_) | (refine Q1g ?_) | (refine Qr rfl rfl (fun hc => ?_) (fun hc => ?_)))
    all_goals (refine zm ?_; (first | refine s_gn rfl rfl ?_ | (refine s_gy rfl ?_; refine Q2 rfl ?_)); (first | refine s_gn rfl rfl ?_ | (refine s_gy rfl ?_; refine zl hS ?_)))
    all_goals ((first | (refine s_gn rfl rfl ?_) | (refine s_gy rfl ?_; refine zR1 (c := QkB hp1 hS) (h := ?_); rintro v1 w1 ⟨rfl, hS⟩; cases hg1 : Tys.great x1.params)))
    all_goals ((first | (refine zpt ?_) | (refine zpf ?_)); refine zm ?_; (first | refine s_gn rfl rfl ?_ | (refine s_gy rfl ?_; refine Q2 rfl ?_)); (first | refine s_gn rfl rfl ?_ | (refine s_gy rfl ?_; refine zl hS ?_)))
    all_goals ((first | (refine s_gn rfl rfl ?_) | (refine s_gy rfl ?_; refine zR1 (c := QkB hr1 hS) (h := ?_); rintro v1 w1 ⟨rfl, hS⟩; cases hg2 : Tys.great x1.results)))
    all_goals ((first | (refine zpt ?_) | (refine zpf ?_)); refine zn ?_)
    all_goals
      first
      | (refine Q6 rfl ?_ -- QR c2
         all_goals (refine Q0 ?_; refine Q1 ?_; refine zm ?_; refine zn ?_; refine zr ?_; refine zf ?_)
         all_goals (exact ⟨_, rfl, true, rfl, fun h => Bool.noConfusion h, hS.sp⟩))
      | (refine Q5 rfl ?_ -- QR c2
         all_goals refine zsk ?_)
    all_goals (refine Q0 ?_; have hlb := hb1.len; refine Q1 ?_; refine zm ?_; refine zn ?_; refine Qa ?_)
    refine zoL hS [1, 3, 4] (fun A LL ρ' w' => ∃ (i : Nat), Has ρ' A ∧ Has ρ' [(5, .int .i64 i)] ∧ (i ≤ x1.blocks.length) ∧ (x1.blocks.length ≤ 30) ∧ (Tys.great x1.params = false) ∧ (Tys.great x1.results = false) ∧ (∀ f ∈ x1.blocks.take i, f.Short) ∧ St cx w' (LL)) (fun ρ' _ => (x1.blocks.length - iv (ρ' 5)).toNat) ?_ ?_
    · exact ⟨0, zh, zh, (by omega), (by omega), by assumption, by assumption, by simp, hS.sp⟩
    rintro ρ w1 ⟨i, hA, hρ, hi, hl30, hg1, hg2, hd1, hS⟩; obtain ⟨ρ, rfl⟩ := env2 hA hρ
    unfold Q5B
    all_goals (refine Q0 ?_; refine Q0 ?_; refine Q1 ?_; refine zm ?_; refine Q2 rfl ?_; refine zl hS ?_; refine zL ?_; refine QG rfl rfl ?_; refine zn ?_)
    refine Qu rfl (fun hc => ?_) (fun hc => ?_)
    · skip
      all_goals (refine zsk ?_; refine Q0 ?_; refine Qa ?_; refine Q0 ?_; refine Q1 ?_; refine Q2 rfl ?_; refine zl hS ?_; refine zm ?_; refine zi ?_; intro b2 o2 cs2 x2 hat2 hx2 he2; obtain ⟨vp2, vc2, ve21, ve22, ve23, ve24, ve25, rfl, hp2, hc2, he21, he22, he23, he24, he25⟩ := Q1B he2; (first | (refine zv hS ?_) | (refine zvk hS ?_)); refine Qe hS ?_; intro p6 w1 hS; refine zsn hS ?_; intro w1 hS; have hS := hS.ns; refine zn ?_; refine Q0 ?_; refine Q0 ?_; refine Q1 ?_; refine Q2 rfl ?_; refine zl hS ?_; refine zL ?_)
      all_goals (first | (refine QW ?_) | (refine Q1g ?_) | (refine Qr rfl rfl (fun hc => ?_) (fun hc => ?_)))
      all_goals (refine zm ?_; (first | refine s_gn rfl rfl ?_ | (refine s_gy rfl ?_; refine Q2 rfl ?_)); (first | refine s_gn rfl rfl ?_ | (refine s_gy rfl ?_; refine zl hS ?_)))
      all_goals ((first | (refine s_gn rfl rfl ?_) | (refine s_gy rfl ?_; refine zR1 (c := QkB hp2 hS) (h := ?_); rintro v1 w1 ⟨rfl, hS⟩; cases hg3 : Tys.great x2.params)))
      all_goals ((first | (refine zpt ?_) | (refine zpf ?_)); refine zm ?_; (first | refine s_gn rfl rfl ?_ | (refine s_gy rfl ?_; refine Q2 rfl ?_)); (first | refine s_gn rfl rfl ?_ | (refine s_gy rfl ?_; (first | refine Q2 rfl ?_ | refine Q1p rfl ?_))); (first | refine s_gn rfl rfl ?_ | (refine s_gy rfl ?_; refine zl hS ?_)); (first | refine s_gn rfl rfl ?_ | (refine s_gy rfl ?_; refine zL ?_)))
      all_goals (first | refine s_gn rfl rfl ?_ | (refine s_gy rfl ?_; (first | (refine QW ?_) | (refine Q1g ?_) | (refine Qr rfl rfl (fun hc => ?_) (fun hc => ?_)))))
      all_goals ((first | (refine zpt ?_) | (refine zpf ?_)); refine zm ?_; (first | refine s_gn rfl rfl ?_ | (refine s_gy rfl ?_; refine Q2 rfl ?_)); (first | refine s_gn rfl rfl ?_ | (refine s_gy rfl ?_; (first | refine Q2 rfl ?_ | refine Q1p rfl ?_))); (first | refine s_gn rfl rfl ?_ | (refine s_gy rfl ?_; (first | refine Q2 rfl ?_ | refine Q1p rfl ?_))); (first | refine s_gn rfl rfl ?_ | (refine s_gy rfl ?_; refine zl hS ?_)); (first | refine s_gn rfl rfl ?_ | (refine s_gy rfl ?_; refine zL ?_)))
      all_goals (first | refine s_gn rfl rfl ?_ | (refine s_gy rfl ?_; (first | (refine QW ?_) | (refine Q1g ?_) | (refine Qr rfl rfl (fun hc => ?_) (fun hc => ?_)))))
      all_goals ((first | (refine zpt ?_) | (refine zpf ?_)); refine zm ?_; (first | refine s_gn rfl rfl ?_ | (refine s_gy rfl ?_; refine Q2 rfl ?_)); (first | refine s_gn rfl rfl ?_ | (refine s_gy rfl ?_; (first | refine Q2 rfl ?_ | refine Q1p rfl ?_))); (first | refine s_gn rfl rfl ?_ | (refine s_gy rfl ?_; (first | refine Q2 rfl ?_ | refine Q1p rfl ?_))); (first | refine s_gn rfl rfl ?_ | (refine s_gy rfl ?_; refine zl hS ?_)); (first | refine s_gn rfl rfl ?_ | (refine s_gy rfl ?_; refine zL ?_)))
      all_goals (first | refine s_gn rfl rfl ?_ | (refine s_gy rfl ?_; (first | (refine QW ?_) | (refine Q1g ?_) | (refine Qr rfl rfl (fun hc => ?_) (fun hc => ?_)))))
      all_goals ((first | (refine zpt ?_) | (refine zpf ?_)); refine zm ?_; (first | refine s_gn rfl rfl ?_ | (refine s_gy rfl ?_; refine Q2 rfl ?_)); (first | refine s_gn rfl rfl ?_ | (refine s_gy rfl ?_; (first | refine Q2 rfl ?_ | refine Q1p rfl ?_))); (first | refine s_gn rfl rfl ?_ | (refine s_gy rfl ?_; (first | refine Q2 rfl ?_ | refine Q1p rfl ?_))); (first | refine s_gn rfl rfl ?_ | (refine s_gy rfl ?_; refine zl hS ?_)); (first | refine s_gn rfl rfl ?_ | (refine s_gy rfl ?_; refine zL ?_)))
      all_goals (first | refine s_gn rfl rfl ?_ | (refine s_gy rfl ?_; (first | (refine QW ?_) | (refine Q1g ?_) | (refine Qr rfl rfl (fun hc => ?_) (fun hc => ?_)))))
      all_goals ((first | (refine zpt ?_) | (refine zpf ?_)); refine zm ?_; (first | refine s_gn rfl rfl ?_ | (refine s_gy rfl ?_; refine Q2 rfl ?_)); (first | refine s_gn rfl rfl ?_ | (refine s_gy rfl ?_; (first | refine Q2 rfl ?_ | refine Q1p rfl ?_))); (first | refine s_gn rfl rfl ?_ | (refine s_gy rfl ?_; (first | refine Q2 rfl ?_ | refine Q1p rfl ?_))); (first | refine s_gn rfl rfl ?_ | (refine s_gy rfl ?_; refine zl hS ?_)); (first | refine s_gn rfl rfl ?_ | (refine s_gy rfl ?_; refine zL ?_)))
      all_goals (first | refine s_gn rfl rfl ?_ | (refine s_gy rfl ?_; (first | (refine QW ?_) | (refine Q1g ?_) | (refine Qr rfl rfl (fun hc => ?_) (fun hc => ?_)))))
      all_goals ((first | (refine zpt ?_) | (refine zpf ?_)); refine zn ?_)
      all_goals
        first
        | (refine Q6 rfl ?_ -- QR c4
           all_goals (refine Q0 ?_; refine Q1 ?_; refine zm ?_; refine zn ?_; refine zr ?_; refine zf ?_)
           all_goals (exact ⟨_, rfl, true, rfl, fun h => Bool.noConfusion h, hS.sp⟩))
        | (refine Q5 rfl ?_ -- QR c4
           all_goals refine zsk ?_)
      all_goals (refine Q0 ?_; have hlc := hc2.len; refine Q1 ?_; refine zm ?_; refine zn ?_; refine Qa ?_)
      refine zoL hS [1, 3, 4, 5, 6] (fun A LL ρ' w' => ∃ (k : Nat), Has ρ' A ∧ Has ρ' [(7, .int .i64 k)] ∧ (k ≤ x2.code.length) ∧ (x2.code.length ≤ 200) ∧ (Tys.great x2.params = false) ∧ (x2.fin.Short) ∧ (∀ f ∈ x2.code.take k, f.Short) ∧ St cx w' (LL)) (fun ρ' _ => (x2.code.length - iv (ρ' 7)).toNat) ?_ ?_
      · exact ⟨0, zh, zh, (by omega), (by omega), by assumption, ⟨⟨by omega, by omega⟩, ⟨by omega, by omega⟩, by omega⟩, by simp, hS.sp⟩
      rintro ρ w1 ⟨k, hA, hρ, hk, hl200, hg3, hfin, hd2, hS⟩; obtain ⟨ρ, rfl⟩ := env2 hA hρ
      unfold Q56
      all_goals (refine Q0 ?_; refine Q0 ?_; refine Q1 ?_; refine zm ?_; refine Q2 rfl ?_; refine zl hS ?_; refine zL ?_; refine QG rfl rfl ?_; refine zn ?_)
      refine Qu rfl (fun hc => ?_) (fun hc => ?_)
      · skip
        all_goals (refine zsk ?_; refine Q0 ?_; refine Qa ?_; refine Q0 ?_; refine Q1 ?_; refine Q2 rfl ?_; refine zl hS ?_; refine zm ?_; refine zi ?_; intro b3 o3 cs3 x3 hat3 hx3 he3; obtain ⟨vr3, va3, rfl, hr3, ha3⟩ := Q2p he3; (first | refine Q2 rfl ?_ | refine Q1p rfl ?_); (first | (refine zl hS ?_) | (refine zlk hS ?_) | (refine zlj hS ?_)); refine zL ?_)
        all_goals (first | (refine QW ?_) | (refine Q1g ?_) | (refine Qr rfl rfl (fun hc => ?_) (fun hc => ?_)))
        all_goals (refine zm ?_; (first | refine s_gn rfl rfl ?_ | (refine s_gy rfl ?_; refine Q2 rfl ?_)); (first | refine s_gn rfl rfl ?_ | (refine s_gy rfl ?_; refine zl hS ?_)); (first | refine s_gn rfl rfl ?_ | (refine s_gy rfl ?_; refine zm ?_)); (first | (refine s_gn rfl rfl ?_) | (refine s_gy rfl ?_; refine Q1O vw rfl (by assumption) rfl (by omega) ?_; intro b4 o4 cs4 x4 hat4 hx4 he4; rw [hx3] at hx4; obtain rfl : x3 = x4 := Option.some.inj hx4; obtain ⟨vr4, va4, rfl, hr4, ha4⟩ := Q2p he4)); (first | refine s_gn rfl rfl ?_ | (refine s_gy rfl ?_; (first | refine Q2 rfl ?_ | refine Q1p rfl ?_))); (first | refine s_gn rfl rfl ?_ | (refine s_gy rfl ?_; (first | (refine zl hS ?_) | (refine zlk hS ?_) | (refine zlj hS ?_)))); (first | refine s_gn rfl rfl ?_ | (refine s_gy rfl ?_; refine zL ?_)))
        all_goals (first | refine s_gn rfl rfl ?_ | (refine s_gy rfl ?_; (first | (refine QW ?_) | (refine Q1g ?_) | (refine Qr rfl rfl (fun hc => ?_) (fun hc => ?_)))))
        all_goals ((first | (refine zpt ?_) | (refine zpf ?_)); refine zn ?_)
        all_goals
          first
          | (refine Q6 rfl ?_ -- QR c6
             all_goals (refine Q0 ?_; refine Q1 ?_; refine zm ?_; refine zn ?_; refine zr ?_; refine zf ?_)
             all_goals (exact ⟨_, rfl, true, rfl, fun h => Bool.noConfusion h, hS.sp⟩))
          | (refine Q5 rfl ?_ -- QR c6
             all_goals refine zsk ?_)
        all_goals (refine Q1 ?_; refine zm ?_; refine zad ?_; refine zm ?_; refine zn ?_; exact ⟨⟨k + 1, zh, zh, (by omega), (by omega), by assumption, by assumption, QbM hd2 hx3 ⟨by omega, by omega⟩, hS.sp⟩, Qz (by omega)⟩)
      · skip
        all_goals (refine zex ?_; refine Q1 ?_; refine zm ?_; refine zad ?_; refine zm ?_; refine zn ?_; exact ⟨⟨i + 1, zh, zh, (by omega), (by omega), by assumption, by assumption, QbM hd1 hx2 ⟨Tys.Short.of_great hg3, by omega, Qez hd2 (by omega), hfin⟩, hS.sp⟩, Qz (by omega)⟩)
    · skip
      all_goals (refine zex ?_; refine Q1 ?_; refine zm ?_; refine zad ?_; refine zm ?_; refine zn ?_; exact ⟨⟨j + 1, zh, zh, (by omega), (by omega), QbM hd hx1 ⟨Tys.Short.of_great hg1, Tys.Short.of_great hg2, by omega, Qez hd1 (by omega)⟩, hS.sp⟩, Qz (by omega)⟩)
  · skip
    all_goals (refine zex ?_; refine Q0 ?_; refine Q1 ?_; refine zm ?_; refine zn ?_; refine zr ?_; refine zf ?_)
    all_goals (first | (exact ⟨_, rfl, true, rfl, fun h => Bool.noConfusion h, hS.sp⟩) | (have h1 : l.length ≤ 100000 := (by omega); exact ⟨_, rfl, false, rfl, fun _ => ⟨h1, Qez (l := l) hd (by omega)⟩, hS.sp⟩))
end Go.Proofs.YtjecflbbcnocdaaGreatDoor
namespace Go.Proofs.YtjecflbbcnocdaaGreatDoor
open Go.Lir
set_option maxHeartbeats 1000000
attribute [local irreducible] LC.wp Q3 Qt QA retQ Q1m LO.wp Qm Calls
set_option linter.unusedSimpArgs false
set_option linter.unusedVariables false
variable {cx : Cx} {w : World} {L : List Res} {i : Nat}
abbrev jdg (b : Nat) (vf : Value) (g : Flt) (at' : Int) : Res := blk b 97 [vf, .int .i64 g.1, .int .i64 g.2, .int .i64 at']
theorem Q24 {is : Bool} {c : Int} {vf : Value} {g : Flt} {at' : Int} {b : Nat} (hc0 : is = true → c ≠ 0) (hS : St cx w L) (hi : nth L i = some (jdg b vf g at')) :
    Rets Tryz.prog Q2Y [.pointer (some ⟨b, 0, none⟩), .bool is, .int .i64 c] w fun u w' => u = .tuple #[] ∧ St cx w' (L.set i (jdg b vf (orF g (mkF (if is = true then c else 0) at')) at')) := by
  have hS := hS.out hi
  cases is with
  | false =>
    have e : orF g (mkF (if false = true then c else 0) at') = g := Qo0 rfl
    rw [e]
    all_goals refine Q2X ?_
    all_goals (unfold code_judge_fail_lc; refine Q0 ?_; refine Q1 ?_; refine zm ?_; refine zm ?_; refine s_gn rfl rfl ?_; refine s_gn rfl rfl ?_; refine s_gn rfl rfl ?_; refine s_gn rfl rfl ?_; refine s_gn rfl rfl ?_)
    all_goals (refine s_gn rfl rfl ?_)
    all_goals ((first | (refine zpt ?_) | (refine zpf ?_)); refine zn ?_)
    all_goals
      first
      | (refine Q6 rfl ?_ -- Q2Y c0
         all_goals (refine Q1 ?_; refine zm ?_; refine zm ?_; refine zm ?_; refine Qh rfl ?_; refine Q2 rfl ?_; refine zl hS ?_; refine zb2 [_, _] ?_; refine Qh rfl ?_; refine Q2 rfl ?_; refine zsn hS ?_; intro w1 hS; have hS := hS.ns)
         all_goals refine zn ?_)
      | (refine Q5 rfl ?_ -- Q2Y c0
         all_goals refine zsk ?_)
    all_goals (refine Q3W ?_; exact ⟨_, rfl, rfl, St.back hS hi⟩)
  | true =>
    have hc0 := hc0 rfl
    by_cases h0 : g.1 = 0
    · have e : orF g (mkF (if true = true then c else 0) at') = (c, at') := by rw [if_pos rfl, mkF_c hc0]; unfold orF; rw [if_pos ⟨h0, hc0⟩]
      rw [e]
      all_goals refine Q2X ?_
      all_goals (unfold code_judge_fail_lc; refine Q0 ?_; refine Q1 ?_; refine zm ?_; refine zm ?_; (first | refine s_gn rfl rfl ?_ | (refine s_gy rfl ?_; refine zm ?_)); (first | refine s_gn rfl rfl ?_ | (refine s_gy rfl ?_; refine Qh rfl ?_)); (first | refine s_gn rfl rfl ?_ | (refine s_gy rfl ?_; refine Q2 rfl ?_)); (first | refine s_gn rfl rfl ?_ | (refine s_gy rfl ?_; (first | refine Q2 rfl ?_ | refine Q1p rfl ?_))); (first | refine s_gn rfl rfl ?_ | (refine s_gy rfl ?_; refine zl hS ?_)))
      all_goals (first | refine s_gn rfl rfl ?_ | (refine s_gy rfl ?_; refine QB ?_))
      all_goals (refine zpt ?_; refine zn ?_)
      all_goals refine Q6 rfl ?_
      all_goals (refine Q1 ?_; refine zm ?_; refine zm ?_; refine zm ?_; refine Qh rfl ?_; refine Q2 rfl ?_; refine zl hS ?_; refine zb2 [_, _] ?_; refine Qh rfl ?_; refine Q2 rfl ?_; (first | (refine zsn hS ?_; intro w1 hS; have hS := hS.ns) | (refine zsm hS ?_; intro w1 hS; have hS := hS.ns)); refine zn ?_; refine Q3W ?_; exact ⟨_, rfl, rfl, St.back hS hi⟩)
    · rw [Qo1 h0]
      all_goals refine Q2X ?_
      all_goals (unfold code_judge_fail_lc; refine Q0 ?_; refine Q1 ?_; refine zm ?_; refine zm ?_; (first | refine s_gn rfl rfl ?_ | (refine s_gy rfl ?_; refine zm ?_)); (first | refine s_gn rfl rfl ?_ | (refine s_gy rfl ?_; refine Qh rfl ?_)); (first | refine s_gn rfl rfl ?_ | (refine s_gy rfl ?_; refine Q2 rfl ?_)); (first | refine s_gn rfl rfl ?_ | (refine s_gy rfl ?_; (first | refine Q2 rfl ?_ | refine Q1p rfl ?_))); (first | refine s_gn rfl rfl ?_ | (refine s_gy rfl ?_; refine zl hS ?_)))
      all_goals (first | refine s_gn rfl rfl ?_ | (refine s_gy rfl ?_; (first | (refine QB ?_) | (refine QF ?_))))
      all_goals (refine zpt ?_; refine zn ?_)
      all_goals refine Q5 rfl ?_
      all_goals (refine zsk ?_; refine Q3W ?_; exact ⟨_, rfl, rfl, St.back hS hi⟩)
theorem uindex_c {s : List UInt8} {c : Nat} {v : Value} (hK : u8R.sl cx v s) (hS : St cx w L) : Rets Tryz.prog Q1o [v, .int .u8 c] w fun u w' => ∃ r : Int, u = .int .i64 r ∧ (0 ≤ r ↔ (s.any fun b => decide (b.toNat = c)) = true) ∧ St cx w' L := by
  have hlen := hK.len
  all_goals refine Q4x ?_
  all_goals (unfold slices_Index_byte_byte_lc; refine Q0 ?_; refine Q1 ?_; refine zm ?_; refine zn ?_; refine Q0 ?_; refine Q0 ?_; refine Q1 ?_; refine zm ?_; refine zL ?_; refine zm ?_; refine zn ?_; refine Qa ?_)
  refine zoL hS [0, 1, 7] (fun A LL ρ' w' => ∃ (j : Nat), Has ρ' A ∧ Has ρ' [(8, .int .i64 j)] ∧ (j ≤ s.length) ∧ ((s.any fun b => decide (b.toNat = c)) = ((s.drop j).any fun b => decide (b.toNat = c))) ∧ St cx w' (LL)) (fun ρ' _ => (s.length - iv (ρ' 8)).toNat) ?_ ?_
  · exact ⟨0, zh, zh, (by omega), by simp, hS.sp⟩
  rintro ρ w1 ⟨j, hA, hρ, hj, hd, hS⟩; obtain ⟨ρ, rfl⟩ := env2 hA hρ
  unfold Q2i
  all_goals (refine Q0 ?_; refine Q1 ?_; refine QG rfl rfl ?_; refine zn ?_; refine Q0 ?_)
  refine Qu rfl (fun hc => ?_) (fun hc => ?_)
  · skip
    all_goals (refine zsk ?_; refine Q0 ?_; refine Qa ?_; refine Q0 ?_; refine Q1 ?_; refine zm ?_; refine zm ?_; refine zn ?_; refine Q0 ?_; refine Q1 ?_; refine zm ?_; refine zm ?_; refine zm ?_; refine zi ?_; intro b1 o1 cs1 x1 hat1 hx1 he1; (first | (obtain rfl := Q7H he1) | (obtain rfl := u8R_out he1)); (first | (refine zl hS ?_) | (refine zlk hS ?_)))
    all_goals (first | (refine QB ?_) | (refine QF ?_) | (refine Qf rfl rfl (fun hc => ?_) (fun hc => ?_)))
    all_goals (refine zn ?_)
    all_goals
      first
      | (refine Q6 rfl ?_ -- Q1o c1
         all_goals (refine Q0 ?_; refine Q1 ?_; refine zm ?_; refine zm ?_; refine zn ?_; refine zr ?_; refine zf ?_)
         all_goals (exact ⟨_, rfl, j, rfl, by rw [hd, Q7 hx1, List.any_cons, decide_eq_true (by omega), Bool.true_or]; simp, hS.sp⟩))
      | (refine Q5 rfl ?_ -- Q1o c1
         all_goals refine zsk ?_)
    all_goals (refine Q1 ?_; refine zad ?_; refine zm ?_; refine zn ?_; exact ⟨⟨j + 1, zh, zh, (by omega), by rw [hd, Q7 hx1, List.any_cons, decide_eq_false (by omega), Bool.false_or], hS.sp⟩, Qz (by omega)⟩)
  · skip
    all_goals (refine zex ?_; refine Q0 ?_; refine Q1 ?_; refine zm ?_; refine zn ?_; refine zr ?_; refine zf ?_; (first | (exact ⟨_, rfl, j, rfl, by rw [hd, Q7 hx1, List.any_cons, decide_eq_true (by omega), Bool.true_or]; simp, hS.sp⟩) | (exact ⟨_, rfl, -1, rfl, by rw [hd, List.drop_of_length_le (by omega)]; simp, hS.sp⟩)))
theorem Qmo {s : List UInt8} {c : Nat} {v : Value} (hK : u8R.sl cx v s) (hS : St cx w L) : Rets Tryz.prog Q2j [v, .int .u8 c] w fun u w' => u = .bool (s.any fun b => decide (b.toNat = c)) ∧ St cx w' L := by
  all_goals refine Q3D ?_
  all_goals (unfold slices_Contains_byte_byte_lc; refine Q0 ?_; refine Q1 ?_; refine zm ?_; refine zn ?_; refine Q0 ?_; refine Q1 ?_; refine zm ?_; refine zm ?_; refine zR2 (c := uindex_c hK hS) (h := ?_); rintro v1 w1 ⟨r, rfl, hr, hS⟩)
  all_goals (first | (refine Qdy ?_) | (refine Qdz ?_) | (refine Q3p rfl rfl (fun hc => ?_) (fun hc => ?_)))
  all_goals (refine zm ?_; refine zn ?_; refine zr ?_; refine zf ?_)
  all_goals (refine ⟨_, rfl, ?_, hS.sp⟩; (cases hb : (s.any fun b => decide (b.toNat = c)) <;> simp_all); done)
theorem QeA {s : ByteArray} {c : Nat} (hs : s.size ≤ 1000000) (hS : St cx w L) : Rets Tryz.prog Qm9 [.string s, .int .u8 c] w fun u w' => u = .bool (Q1b s c) ∧ St cx w' L := by
  have hle := St.refl hS
  all_goals refine Qm8 ?_
  all_goals (unfold code_with_lc; refine Q0 ?_; refine Q1 ?_; refine zm ?_; refine zn ?_; refine Q0 ?_; refine Q1 ?_; refine zm ?_; refine s_bytes (e := 5) (by kernel_rfl) (by kernel_rfl) (by kernel_rfl) hS vw ?_; intro v1 w1 hS; obtain ⟨c1, hle2, hS, hk1⟩ := St.freezeL (r := u8R) hS (u8R_ls _) rfl (by rw [Array.length_toList]; show s.size ≤ 140737488355328; omega); refine zm ?_; refine zR2 (c := Qmo hk1 hS) (h := ?_); rintro v1 w1 ⟨rfl, hS⟩; refine zm ?_; refine zn ?_; refine zr ?_; refine zf ?_; exact ⟨_, rfl, rfl, St.weak hS.sp hle2⟩)
theorem has_c {op : Int} (hS : St cx w L) : Rets Tryz.prog QnG [.int .i64 op] w fun u w' => u = .string (hasF op) ∧ St cx w' L := by
  by_cases hb : op < 1 ∨ 14 < op
  · have e : hasF op = ⟨#[]⟩ := by unfold hasF; rw [if_pos hb]
    rw [e]
    all_goals refine Qg0 ?_
    all_goals (unfold code_has_lc; refine Q0 ?_; refine Q1 ?_; refine zm ?_; refine zn ?_; refine Q0 ?_; refine Q0 ?_; refine Q1 ?_; refine zm ?_)
    all_goals (first | (refine Q3i ?_) | (refine Q3j ?_) | (refine Q1w rfl rfl (fun hc => ?_) (fun hc => ?_)))
    all_goals (refine zm ?_; (first | refine s_gn rfl rfl ?_ | (refine s_gy rfl ?_; refine zm ?_)))
    all_goals (first | refine s_gn rfl rfl ?_ | (refine s_gy rfl ?_; refine QW ?_))
    all_goals ((first | (refine zpt ?_) | (refine zpf ?_)); refine zn ?_)
    all_goals refine Q6 rfl ?_
    all_goals (refine Q0 ?_; refine Q1 ?_; refine zm ?_; refine zn ?_; refine zr ?_; refine zf ?_; refine ⟨_, rfl, ?_, hS.sp⟩; (rfl); done)
  · have hu : (hasTab.map Value.string)[op.toNat]? = some (.string (hasF op)) := by
      rcases op_cases (op := op) (by omega) (by omega) with rfl | rfl | rfl | rfl | rfl | rfl | rfl | rfl | rfl | rfl | rfl | rfl | rfl | rfl <;> rfl
    generalize hasF op = s at hu ⊢
    all_goals refine Qg0 ?_
    all_goals (unfold code_has_lc; refine Q0 ?_; refine Q1 ?_; refine zm ?_; refine zn ?_; refine Q0 ?_; refine Q0 ?_; refine Q1 ?_; refine zm ?_)
    all_goals (first | (refine Q3i ?_) | (refine Q3j ?_))
    all_goals (refine zm ?_; (first | refine s_gn rfl rfl ?_ | (refine s_gy rfl ?_; refine zm ?_)))
    all_goals (first | refine s_gn rfl rfl ?_ | (refine s_gy rfl ?_; (first | (refine QW ?_) | (refine Q1g ?_))))
    all_goals ((first | (refine zpt ?_) | (refine zpf ?_)); refine zn ?_)
    all_goals refine Q5 rfl ?_
    all_goals (refine zsk ?_; refine Q0 ?_; refine Q1 ?_; refine Qf5 (cs := [_, _, _, _, _, _, _, _, _, _, _, _, _, _, _]) vw vw vw vw vw vw vw vw vw vw vw vw vw vw vw (by rfl) ?_; refine zm ?_; refine QlD (n := 15) (e := 9) (by kernel_rfl) (by kernel_rfl) (by kernel_rfl) vw vw (by omega) (by omega) hu ?_; refine zm ?_; refine zn ?_; refine zr ?_; refine zf ?_; refine ⟨_, rfl, ?_, hS.sp⟩; (rfl); done)
theorem Qpv (op : Int) : (hasF op).size ≤ 1000000 := by
  by_cases hb : op < 1 ∨ 14 < op
  · unfold hasF; rw [if_pos hb]; decide
  · rcases op_cases (op := op) (by omega) (by omega) with rfl | rfl | rfl | rfl | rfl | rfl | rfl | rfl | rfl | rfl | rfl | rfl | rfl | rfl <;> decide
theorem ins_end {g : Flt} {at' : Int} {n : Nat} {x : Ins} {q : Bool} {c3 : Int} (hq : q = true ↔ (((((((Q1b (hasF x.op) 97 = false ∧ x.a ≠ 0) ∨ (Q1b (hasF x.op) 98 = false ∧ x.b ≠ 0)) ∨ (Q1b (hasF x.op) 99 = false ∧ x.c ≠ 0)) ∨ (Q1b (hasF x.op) 107 = false ∧ x.k ≠ 0)) ∨ (Q1b (hasF x.op) 110 = false ∧ x.n ≠ 0)) ∨ (Q1b (hasF x.op) 103 = false ∧ 0 < x.regs.length)) ∨ (Q1b (hasF x.op) 114 = false ∧ 0 < x.args.length))) (h3 : c3 = Q2u n x) :
    orF (orF (orF g (mkF (if x.op < 1 ∨ 14 < x.op then 3 else 0) at')) (mkF (if q = true then 4 else 0) at')) (mkF c3 at') = orF g (mkF (Q1Q n x) at') := by
  rw [Q2R, Q2R]
  congr 2
  subst h3
  unfold Q1Q
  by_cases hb : x.op < 1 ∨ 14 < x.op
  · rw [if_pos hb, if_pos hb]; rfl
  · rw [if_neg hb, if_neg hb]
    obtain ⟨h1, h2, h3, h4, h5, h6, h7⟩ := with_all x.op hb
    rw [h1, h2, h3, h4, h5, h6, h7] at hq
    simp only [or_assoc] at hq
    by_cases ho : x.odd
    · rw [if_pos ho, if_pos (hq.2 ho)]; rfl
    · rw [if_neg ho, if_neg fun h => ho (hq.1 h)]; rfl
theorem Qcr {a b : Int} (h : a ≠ 0) : orC a b = a := if_pos h
theorem Qah (b : Int) : orC 0 b = b := rfl
section
attribute [local irreducible] orF mkF orC Q2u Q1Q Q1J Q2y
set_option maxHeartbeats 1000000 in
theorem ins_c {x : Ins} {n : List Fun} {vf : Value} {g : Flt} {at' : Int} {b : Nat} {cs : List Value} (hx : insR.at cx cs x) (hf : funcR.sl cx vf n) (hS : St cx w L) (hi : nth L i = some (jdg b vf g at')) :
    Rets Tryz.prog QE [.pointer (some ⟨b, 0, none⟩), .agg ⟨cs⟩] w fun u w' => u = .tuple #[] ∧ St cx w' (L.set i (jdg b vf (orF g (mkF (Q1Q n.length x) at')) at')) := by
  have hS := hS.out hi
  obtain ⟨vr, va, rfl, hr, ha⟩ := Q2p hx
  have hlr := hr.len
  have hla := ha.len
  have hln := hf.len
  have hsz := Qpv x.op
  all_goals refine QcN ?_
  all_goals (unfold code_judge_ins_lc; refine Q0 ?_; refine Q1 ?_; refine zb hS ?_; intro p3 w1 hS; refine zn ?_)
  refine zM [0, 3] (fun A ρ' w' => Has ρ' A ∧ Has ρ' [] ∧ St cx w' (blk p3 54 [.int .i64 x.op, .int .i64 x.a, .int .i64 x.b, .int .i64 x.c, .int .i64 x.k, .int .i64 x.n, vr, va] :: jdg b vf (orF g (mkF (if x.op < 1 ∨ 14 < x.op then 3 else 0) at')) at' :: L.eraseIdx i)) ?_ ?_
  · skip
    all_goals (refine Q1 ?_; refine zm ?_; refine Q2 rfl ?_; refine zl hS ?_)
    all_goals (first | (refine Q3i ?_) | (refine Q3j ?_) | (refine Q1w rfl rfl (fun hc => ?_) (fun hc => ?_)))
    all_goals (refine zm ?_; (first | refine s_gn rfl rfl ?_ | (refine s_gy rfl ?_; refine Q2 rfl ?_)); (first | refine s_gn rfl rfl ?_ | (refine s_gy rfl ?_; refine zl hS ?_)))
    all_goals (first | refine s_gn rfl rfl ?_ | (refine s_gy rfl ?_; (first | (refine QW ?_) | (refine Q1g ?_) | (refine Qr rfl rfl (fun hc => ?_) (fun hc => ?_)))))
    all_goals ((first | (refine zpt ?_) | (refine zpf ?_)); refine zR3 (c := Q24 (by intro _; decide) hS fd) (h := ?_); rintro v1 w1 ⟨rfl, hS⟩; simp only [List.set_cons_zero, List.set_cons_succ, if_true, Bool.false_eq_true, if_false] at hS; refine zn ?_; exact ⟨zh, zh, by first | (rw [if_pos (by omega)]; exact hS.sp) | (rw [if_neg (by omega)]; exact hS.sp)⟩)
  rintro ρ w1 ⟨hA, hρ, hS⟩; obtain ⟨ρ, rfl⟩ := env2 hA hρ
  all_goals (refine Q0 ?_; refine Q1 ?_; refine Q2 rfl ?_; refine zl hS ?_; refine zR1 (c := has_c hS) (h := ?_); rintro v1 w1 ⟨rfl, hS⟩; refine zm ?_; refine zn ?_; generalize hh : hasF x.op = h at *; refine Q0 ?_; refine Q1 ?_)
  refine zKL hS 9 [0, 3, 4] (fun A LL ρ' w' => ∃ (q1 : Bool), Has ρ' A ∧ Has ρ' [(18, .pointer (some ⟨b, 0, none⟩)), (26, .bool q1)] ∧ (q1 = true ↔ (Q1b h 97 = false ∧ x.a ≠ 0)) ∧ St cx w' (LL)) ?_ ?_
  · skip
    all_goals (refine zm ?_; refine zm ?_; refine zR2 (c := QeA hsz hS) (h := ?_); rintro v1 w1 ⟨rfl, hS⟩)
    all_goals (cases ha1 : Q1b h 97)
    all_goals (refine Q2e rfl ?_; refine zm ?_; (first | refine s_gn rfl rfl ?_ | (refine s_gy rfl ?_; refine Q2 rfl ?_)); (first | refine s_gn rfl rfl ?_ | (refine s_gy rfl ?_; refine zl hS ?_)))
    all_goals (first | refine s_gn rfl rfl ?_ | (refine s_gy rfl ?_; (first | (refine Q2L ?_) | (refine Q2M ?_) | (refine Q1a rfl rfl (fun hc => ?_) (fun hc => ?_)))))
    all_goals ((first | (refine zpt ?_) | (refine zpf ?_)); refine Qf1 ?_; refine Q3R ?_)
    all_goals (first | (exact ⟨_, zh, zh, by exact ⟨fun _ => ⟨(by first | rfl | assumption), by omega⟩, fun _ => rfl⟩, hS.sp⟩) | (exact ⟨_, zh, zh, by exact ⟨fun h => Bool.noConfusion h, fun h => by obtain ⟨h1, h2⟩ := h; first | (exfalso; omega) | (simp_all; done)⟩, hS.sp⟩))
  rintro ρ w1 ⟨q1, hA, hρ, hq1, hS⟩; obtain ⟨ρ, rfl⟩ := env2 hA hρ
  refine zKL hS 10 [0, 3, 4, 18] (fun A LL ρ' w' => ∃ (q2 : Bool), Has ρ' A ∧ Has ρ' [(36, .bool q2)] ∧ (q2 = true ↔ ((Q1b h 97 = false ∧ x.a ≠ 0) ∨ (Q1b h 98 = false ∧ x.b ≠ 0))) ∧ St cx w' (LL)) ?_ ?_
  · skip
    all_goals (cases q1)
    all_goals (refine zm ?_; (first | refine s_gn rfl rfl ?_ | (refine s_gy rfl ?_; refine zm ?_)); (first | refine s_gn rfl rfl ?_ | (refine s_gy rfl ?_; refine zR2 (c := QeA hsz hS) (h := ?_); rintro v1 w1 ⟨rfl, hS⟩)))
    all_goals (cases ha2 : Q1b h 98)
    all_goals ((first | refine s_gn rfl rfl ?_ | (refine s_gy rfl ?_; refine Q2e rfl ?_)); (first | refine s_gn rfl rfl ?_ | (refine s_gy rfl ?_; refine zm ?_)); (first | refine s_gn rfl rfl ?_ | (refine s_gy rfl ?_; refine Q2 rfl ?_)); (first | refine s_gn rfl rfl ?_ | (refine s_gy rfl ?_; refine zl hS ?_)))
    all_goals (first | refine s_gn rfl rfl ?_ | (refine s_gy rfl ?_; (first | (refine Q2L ?_) | (refine Q2M ?_) | (refine Q1a rfl rfl (fun hc => ?_) (fun hc => ?_)))))
    all_goals ((first | refine s_gn rfl rfl ?_ | (refine s_gy rfl ?_; (first | (refine zpt ?_) | (refine zpf ?_)))); (first | (refine zpt ?_) | (refine zpf ?_)); refine Qf1 ?_; refine Q3R ?_)
    all_goals (first | (exact ⟨_, zh, zh, by exact ⟨fun _ => .inl (hq1.1 rfl), fun _ => rfl⟩, hS.sp⟩) | (exact ⟨_, zh, zh, by exact ⟨fun _ => .inr ⟨(by first | rfl | assumption), by omega⟩, fun _ => rfl⟩, hS.sp⟩) | (exact ⟨_, zh, zh, by exact ⟨fun h => Bool.noConfusion h, fun h => h.elim (fun h => hq1.2 h) (fun h => by obtain ⟨h1, h2⟩ := h; first | (exfalso; omega) | (simp_all; done))⟩, hS.sp⟩))
  rintro ρ w1 ⟨q2, hA, hρ, hq2, hS⟩; obtain ⟨ρ, rfl⟩ := env2 hA hρ
  refine zKL hS 10 [0, 3, 4, 18] (fun A LL ρ' w' => ∃ (q3 : Bool), Has ρ' A ∧ Has ρ' [(46, .bool q3)] ∧ (q3 = true ↔ (((Q1b h 97 = false ∧ x.a ≠ 0) ∨ (Q1b h 98 = false ∧ x.b ≠ 0)) ∨ (Q1b h 99 = false ∧ x.c ≠ 0))) ∧ St cx w' (LL)) ?_ ?_
  · skip
    all_goals (cases q2)
    all_goals (refine zm ?_; (first | refine s_gn rfl rfl ?_ | (refine s_gy rfl ?_; refine zm ?_)); (first | refine s_gn rfl rfl ?_ | (refine s_gy rfl ?_; refine zR2 (c := QeA hsz hS) (h := ?_); rintro v1 w1 ⟨rfl, hS⟩)))
    all_goals (cases ha3 : Q1b h 99)
    all_goals ((first | refine s_gn rfl rfl ?_ | (refine s_gy rfl ?_; refine Q2e rfl ?_)); (first | refine s_gn rfl rfl ?_ | (refine s_gy rfl ?_; refine zm ?_)); (first | refine s_gn rfl rfl ?_ | (refine s_gy rfl ?_; refine Q2 rfl ?_)); (first | refine s_gn rfl rfl ?_ | (refine s_gy rfl ?_; refine zl hS ?_)))
    all_goals (first | refine s_gn rfl rfl ?_ | (refine s_gy rfl ?_; (first | (refine Q2L ?_) | (refine Q2M ?_) | (refine Q1a rfl rfl (fun hc => ?_) (fun hc => ?_)))))
    all_goals ((first | refine s_gn rfl rfl ?_ | (refine s_gy rfl ?_; (first | (refine zpt ?_) | (refine zpf ?_)))); (first | (refine zpt ?_) | (refine zpf ?_)); refine Qf1 ?_; refine Q3R ?_)
    all_goals (first | (exact ⟨_, zh, zh, by exact ⟨fun _ => .inl (hq2.1 rfl), fun _ => rfl⟩, hS.sp⟩) | (exact ⟨_, zh, zh, by exact ⟨fun _ => .inr ⟨(by first | rfl | assumption), by omega⟩, fun _ => rfl⟩, hS.sp⟩) | (exact ⟨_, zh, zh, by exact ⟨fun h => Bool.noConfusion h, fun h => h.elim (fun h => hq2.2 h) (fun h => by obtain ⟨h1, h2⟩ := h; first | (exfalso; omega) | (simp_all; done))⟩, hS.sp⟩))
  rintro ρ w1 ⟨q3, hA, hρ, hq3, hS⟩; obtain ⟨ρ, rfl⟩ := env2 hA hρ
  refine zKL hS 10 [0, 3, 4, 18] (fun A LL ρ' w' => ∃ (q4 : Bool), Has ρ' A ∧ Has ρ' [(56, .bool q4)] ∧ (q4 = true ↔ ((((Q1b h 97 = false ∧ x.a ≠ 0) ∨ (Q1b h 98 = false ∧ x.b ≠ 0)) ∨ (Q1b h 99 = false ∧ x.c ≠ 0)) ∨ (Q1b h 107 = false ∧ x.k ≠ 0))) ∧ St cx w' (LL)) ?_ ?_
  · skip
    all_goals (cases q3)
    all_goals (refine zm ?_; (first | refine s_gn rfl rfl ?_ | (refine s_gy rfl ?_; refine zm ?_)); (first | refine s_gn rfl rfl ?_ | (refine s_gy rfl ?_; refine zR2 (c := QeA hsz hS) (h := ?_); rintro v1 w1 ⟨rfl, hS⟩)))
    all_goals (cases ha4 : Q1b h 107)
    all_goals ((first | refine s_gn rfl rfl ?_ | (refine s_gy rfl ?_; refine Q2e rfl ?_)); (first | refine s_gn rfl rfl ?_ | (refine s_gy rfl ?_; refine zm ?_)); (first | refine s_gn rfl rfl ?_ | (refine s_gy rfl ?_; refine Q2 rfl ?_)); (first | refine s_gn rfl rfl ?_ | (refine s_gy rfl ?_; refine zl hS ?_)))
    all_goals (first | refine s_gn rfl rfl ?_ | (refine s_gy rfl ?_; (first | (refine Q2L ?_) | (refine Q2M ?_) | (refine Q1a rfl rfl (fun hc => ?_) (fun hc => ?_)))))
    all_goals ((first | refine s_gn rfl rfl ?_ | (refine s_gy rfl ?_; (first | (refine zpt ?_) | (refine zpf ?_)))); (first | (refine zpt ?_) | (refine zpf ?_)); refine Qf1 ?_; refine Q3R ?_)
    all_goals (first | (exact ⟨_, zh, zh, by exact ⟨fun _ => .inl (hq3.1 rfl), fun _ => rfl⟩, hS.sp⟩) | (exact ⟨_, zh, zh, by exact ⟨fun _ => .inr ⟨(by first | rfl | assumption), by omega⟩, fun _ => rfl⟩, hS.sp⟩) | (exact ⟨_, zh, zh, by exact ⟨fun h => Bool.noConfusion h, fun h => h.elim (fun h => hq3.2 h) (fun h => by obtain ⟨h1, h2⟩ := h; first | (exfalso; omega) | (simp_all; done))⟩, hS.sp⟩))
  rintro ρ w1 ⟨q4, hA, hρ, hq4, hS⟩; obtain ⟨ρ, rfl⟩ := env2 hA hρ
  refine zKL hS 10 [0, 3, 4, 18] (fun A LL ρ' w' => ∃ (q5 : Bool), Has ρ' A ∧ Has ρ' [(66, .bool q5)] ∧ (q5 = true ↔ (((((Q1b h 97 = false ∧ x.a ≠ 0) ∨ (Q1b h 98 = false ∧ x.b ≠ 0)) ∨ (Q1b h 99 = false ∧ x.c ≠ 0)) ∨ (Q1b h 107 = false ∧ x.k ≠ 0)) ∨ (Q1b h 110 = false ∧ x.n ≠ 0))) ∧ St cx w' (LL)) ?_ ?_
  · skip
    all_goals (cases q4)
    all_goals (refine zm ?_; (first | refine s_gn rfl rfl ?_ | (refine s_gy rfl ?_; refine zm ?_)); (first | refine s_gn rfl rfl ?_ | (refine s_gy rfl ?_; refine zR2 (c := QeA hsz hS) (h := ?_); rintro v1 w1 ⟨rfl, hS⟩)))
    all_goals (cases ha5 : Q1b h 110)
    all_goals ((first | refine s_gn rfl rfl ?_ | (refine s_gy rfl ?_; refine Q2e rfl ?_)); (first | refine s_gn rfl rfl ?_ | (refine s_gy rfl ?_; refine zm ?_)); (first | refine s_gn rfl rfl ?_ | (refine s_gy rfl ?_; refine Q2 rfl ?_)); (first | refine s_gn rfl rfl ?_ | (refine s_gy rfl ?_; refine zl hS ?_)))
    all_goals (first | refine s_gn rfl rfl ?_ | (refine s_gy rfl ?_; (first | (refine Q2L ?_) | (refine Q2M ?_) | (refine Q1a rfl rfl (fun hc => ?_) (fun hc => ?_)))))
    all_goals ((first | refine s_gn rfl rfl ?_ | (refine s_gy rfl ?_; (first | (refine zpt ?_) | (refine zpf ?_)))); (first | (refine zpt ?_) | (refine zpf ?_)); refine Qf1 ?_; refine Q3R ?_)
    all_goals (first | (exact ⟨_, zh, zh, by exact ⟨fun _ => .inl (hq4.1 rfl), fun _ => rfl⟩, hS.sp⟩) | (exact ⟨_, zh, zh, by exact ⟨fun _ => .inr ⟨(by first | rfl | assumption), by omega⟩, fun _ => rfl⟩, hS.sp⟩) | (exact ⟨_, zh, zh, by exact ⟨fun h => Bool.noConfusion h, fun h => h.elim (fun h => hq4.2 h) (fun h => by obtain ⟨h1, h2⟩ := h; first | (exfalso; omega) | (simp_all; done))⟩, hS.sp⟩))
  rintro ρ w1 ⟨q5, hA, hρ, hq5, hS⟩; obtain ⟨ρ, rfl⟩ := env2 hA hρ
  refine zKL hS 11 [0, 3, 4, 18] (fun A LL ρ' w' => ∃ (q6 : Bool), Has ρ' A ∧ Has ρ' [(77, .bool q6)] ∧ (q6 = true ↔ ((((((Q1b h 97 = false ∧ x.a ≠ 0) ∨ (Q1b h 98 = false ∧ x.b ≠ 0)) ∨ (Q1b h 99 = false ∧ x.c ≠ 0)) ∨ (Q1b h 107 = false ∧ x.k ≠ 0)) ∨ (Q1b h 110 = false ∧ x.n ≠ 0)) ∨ (Q1b h 103 = false ∧ 0 < x.regs.length))) ∧ St cx w' (LL)) ?_ ?_
  · skip
    all_goals (cases q5)
    all_goals (refine zm ?_; (first | refine s_gn rfl rfl ?_ | (refine s_gy rfl ?_; refine zm ?_)); (first | refine s_gn rfl rfl ?_ | (refine s_gy rfl ?_; refine zR2 (c := QeA hsz hS) (h := ?_); rintro v1 w1 ⟨rfl, hS⟩)))
    all_goals (cases ha6 : Q1b h 103)
    all_goals ((first | refine s_gn rfl rfl ?_ | (refine s_gy rfl ?_; refine Q2e rfl ?_)); (first | refine s_gn rfl rfl ?_ | (refine s_gy rfl ?_; refine zm ?_)); (first | refine s_gn rfl rfl ?_ | (refine s_gy rfl ?_; refine Q2 rfl ?_)); (first | refine s_gn rfl rfl ?_ | (refine s_gy rfl ?_; refine zl hS ?_)); (first | refine s_gn rfl rfl ?_ | (refine s_gy rfl ?_; refine zL ?_)))
    all_goals (first | refine s_gn rfl rfl ?_ | (refine s_gy rfl ?_; (first | (refine QW ?_) | (refine Q1g ?_) | (refine Qr rfl rfl (fun hc => ?_) (fun hc => ?_)))))
    all_goals ((first | refine s_gn rfl rfl ?_ | (refine s_gy rfl ?_; (first | (refine zpt ?_) | (refine zpf ?_)))); (first | (refine zpt ?_) | (refine zpf ?_)); refine Qf1 ?_; refine Q3R ?_)
    all_goals (first | (exact ⟨_, zh, zh, by exact ⟨fun _ => .inl (hq5.1 rfl), fun _ => rfl⟩, hS.sp⟩) | (exact ⟨_, zh, zh, by exact ⟨fun _ => .inr ⟨(by first | rfl | assumption), by omega⟩, fun _ => rfl⟩, hS.sp⟩) | (exact ⟨_, zh, zh, by exact ⟨fun h => Bool.noConfusion h, fun h => h.elim (fun h => hq5.2 h) (fun h => by obtain ⟨h1, h2⟩ := h; first | (exfalso; omega) | (simp_all; done))⟩, hS.sp⟩))
  rintro ρ w1 ⟨q6, hA, hρ, hq6, hS⟩; obtain ⟨ρ, rfl⟩ := env2 hA hρ
  refine zKL hS 11 [0, 3, 18] (fun A LL ρ' w' => ∃ (q7 : Bool), Has ρ' A ∧ Has ρ' [(88, .bool q7)] ∧ (q7 = true ↔ (((((((Q1b h 97 = false ∧ x.a ≠ 0) ∨ (Q1b h 98 = false ∧ x.b ≠ 0)) ∨ (Q1b h 99 = false ∧ x.c ≠ 0)) ∨ (Q1b h 107 = false ∧ x.k ≠ 0)) ∨ (Q1b h 110 = false ∧ x.n ≠ 0)) ∨ (Q1b h 103 = false ∧ 0 < x.regs.length)) ∨ (Q1b h 114 = false ∧ 0 < x.args.length))) ∧ St cx w' (LL)) ?_ ?_
  · skip
    all_goals (cases q6)
    all_goals (refine zm ?_; (first | refine s_gn rfl rfl ?_ | (refine s_gy rfl ?_; refine zm ?_)); (first | refine s_gn rfl rfl ?_ | (refine s_gy rfl ?_; refine zR2 (c := QeA hsz hS) (h := ?_); rintro v1 w1 ⟨rfl, hS⟩)))
    all_goals (cases ha7 : Q1b h 114)
    all_goals ((first | refine s_gn rfl rfl ?_ | (refine s_gy rfl ?_; refine Q2e rfl ?_)); (first | refine s_gn rfl rfl ?_ | (refine s_gy rfl ?_; refine zm ?_)); (first | refine s_gn rfl rfl ?_ | (refine s_gy rfl ?_; refine Q2 rfl ?_)); (first | refine s_gn rfl rfl ?_ | (refine s_gy rfl ?_; refine zl hS ?_)); (first | refine s_gn rfl rfl ?_ | (refine s_gy rfl ?_; refine zL ?_)))
    all_goals (first | refine s_gn rfl rfl ?_ | (refine s_gy rfl ?_; (first | (refine QW ?_) | (refine Q1g ?_) | (refine Qr rfl rfl (fun hc => ?_) (fun hc => ?_)))))
    all_goals ((first | refine s_gn rfl rfl ?_ | (refine s_gy rfl ?_; (first | (refine zpt ?_) | (refine zpf ?_)))); (first | (refine zpt ?_) | (refine zpf ?_)); refine Qf1 ?_; refine Q3R ?_)
    all_goals (first | (exact ⟨_, zh, zh, by exact ⟨fun _ => .inl (hq6.1 rfl), fun _ => rfl⟩, hS.sp⟩) | (exact ⟨_, zh, zh, by exact ⟨fun _ => .inr ⟨(by first | rfl | assumption), by omega⟩, fun _ => rfl⟩, hS.sp⟩) | (exact ⟨_, zh, zh, by exact ⟨fun h => Bool.noConfusion h, fun h => h.elim (fun h => hq6.2 h) (fun h => by obtain ⟨h1, h2⟩ := h; first | (exfalso; omega) | (simp_all; done))⟩, hS.sp⟩))
  rintro ρ w1 ⟨q7, hA, hρ, hq7, hS⟩; obtain ⟨ρ, rfl⟩ := env2 hA hρ
  all_goals (refine zR3 (c := Q24 (by intro _; decide) hS fd) (h := ?_); rintro v1 w1 ⟨rfl, hS⟩; simp only [List.set_cons_zero, List.set_cons_succ, if_true, Bool.false_eq_true, if_false] at hS; refine zn ?_; refine Q0 ?_; clear hq1 hq2 hq3 hq4 hq5 hq6; have hq := hq7; clear hq7; refine Q1 ?_; refine Q2 rfl ?_; refine zl hS ?_; refine zn ?_; refine Qa ?_; refine Q0 ?_; refine Q1 ?_)
  all_goals (first | (refine QB ?_) | (refine QF ?_) | (refine Qf rfl rfl (fun hc => ?_) (fun hc => ?_)))
  all_goals (refine zm ?_; refine zn ?_)
  all_goals
    first
    | (refine Q6 rfl ?_ -- QE c0
       all_goals (refine Q1 ?_; refine zm ?_; refine Q2 rfl ?_; refine zl hS ?_)
       all_goals (first | (refine Q3i ?_) | (refine Q3j ?_) | (refine Q1w rfl rfl (fun hc => ?_) (fun hc => ?_)))
       all_goals (refine zm ?_; (first | refine s_gn rfl rfl ?_ | (refine s_gy rfl ?_; refine Q2 rfl ?_)); (first | refine s_gn rfl rfl ?_ | (refine s_gy rfl ?_; refine zl hS ?_)))
       all_goals (first | refine s_gn rfl rfl ?_ | (refine s_gy rfl ?_; (first | (refine QW ?_) | (refine Q1g ?_) | (refine Qr rfl rfl (fun hc => ?_) (fun hc => ?_)))))
       all_goals ((first | (refine zpt ?_) | (refine zpf ?_)); refine zR3 (c := Q24 (by intro _; decide) hS fd) (h := ?_); rintro v1 w1 ⟨rfl, hS⟩; simp only [List.set_cons_zero, List.set_cons_succ, if_true, Bool.false_eq_true, if_false] at hS)
       all_goals refine zn ?_)
    | (refine Q5 rfl ?_ -- QE c0
       all_goals (refine Q0 ?_; refine Q1 ?_)
       all_goals (first | (refine QB ?_) | (refine QF ?_) | (refine Qf rfl rfl (fun hc => ?_) (fun hc => ?_)))
       all_goals (refine zm ?_; refine zn ?_)
       all_goals
         first
         | (refine Q6 rfl ?_ -- QE c1
            all_goals (refine Q1 ?_; refine zm ?_; refine Q2 rfl ?_; refine zl hS ?_; refine zL ?_)
            all_goals (first | (refine QW ?_) | (refine Q1g ?_) | (refine Qr rfl rfl (fun hc => ?_) (fun hc => ?_)))
            all_goals (refine zR3 (c := Q24 (by intro _; decide) hS fd) (h := ?_); rintro v1 w1 ⟨rfl, hS⟩; simp only [List.set_cons_zero, List.set_cons_succ, if_true, Bool.false_eq_true, if_false] at hS)
            all_goals refine zn ?_)
         | (refine Q5 rfl ?_ -- QE c1
            all_goals (refine Q0 ?_; refine Q0 ?_; refine Q1 ?_)
            all_goals (first | (refine QB ?_) | (refine QF ?_) | (refine Qf rfl rfl (fun hc => ?_) (fun hc => ?_)))
            all_goals (refine zm ?_; refine zn ?_)
            all_goals
              first
              | (refine Q6 rfl ?_ -- QE c2
                 all_goals refine zsk ?_)
              | (refine Q5 rfl ?_ -- QE c2
                 all_goals (refine Q1 ?_)
                 all_goals (first | (refine QB ?_) | (refine QF ?_) | (refine Qf rfl rfl (fun hc => ?_) (fun hc => ?_)))
                 all_goals (refine zm ?_)
                 all_goals refine zn ?_)
            all_goals
              first
              | (refine Q6 rfl ?_ -- QE c3
                 all_goals (refine Q1 ?_; refine zm ?_; refine Q2 rfl ?_; refine zl hS ?_)
                 all_goals (first | (refine Q3i ?_) | (refine Q3j ?_) | (refine Q1w rfl rfl (fun hc => ?_) (fun hc => ?_)))
                 all_goals (refine zm ?_; (first | refine s_gn rfl rfl ?_ | (refine s_gy rfl ?_; refine Q2 rfl ?_)); (first | refine s_gn rfl rfl ?_ | (refine s_gy rfl ?_; refine zl hS ?_)))
                 all_goals (first | refine s_gn rfl rfl ?_ | (refine s_gy rfl ?_; (first | (refine Qdy ?_) | (refine Qdz ?_) | (refine Q3p rfl rfl (fun hc => ?_) (fun hc => ?_)))))
                 all_goals ((first | (refine zpt ?_) | (refine zpf ?_)); refine zR3 (c := Q24 (by intro _; decide) hS fd) (h := ?_); rintro v1 w1 ⟨rfl, hS⟩; simp only [List.set_cons_zero, List.set_cons_succ, if_true, Bool.false_eq_true, if_false] at hS)
                 all_goals refine zn ?_)
              | (refine Q5 rfl ?_ -- QE c3
                 all_goals (refine Q0 ?_; refine Q1 ?_)
                 all_goals (first | (refine QB ?_) | (refine QF ?_) | (refine Qf rfl rfl (fun hc => ?_) (fun hc => ?_)))
                 all_goals (refine zm ?_; refine zn ?_)
                 all_goals
                   first
                   | (refine Q6 rfl ?_ -- QE c4
                      all_goals (refine Q0 ?_; refine zD [(0, none), (1, none), (2, none), (3, none), (4, none), (5, none), (6, none), (7, none), (8, none), (9, none), (10, none), (11, none), (12, none), (13, none), (14, none), (15, some none)] ?_; have hS := hS.drew; refine zm ?_; refine Q2 rfl ?_; refine zl hS ?_)
                      all_goals (first | (refine Q3i ?_) | (refine Q3j ?_) | (refine Q1w rfl rfl (fun hc => ?_) (fun hc => ?_)))
                      all_goals (refine zm ?_; (first | refine s_gn rfl rfl ?_ | (refine s_gy rfl ?_; refine Q2 rfl ?_)); (first | refine s_gn rfl rfl ?_ | (refine s_gy rfl ?_; refine zl hS ?_)); (first | refine s_gn rfl rfl ?_ | (refine s_gy rfl ?_; refine zm ?_)); (first | refine s_gn rfl rfl ?_ | (refine s_gy rfl ?_; refine Qh rfl ?_)); (first | refine s_gn rfl rfl ?_ | (refine s_gy rfl ?_; refine Q2 rfl ?_)); (first | refine s_gn rfl rfl ?_ | (refine s_gy rfl ?_; refine Q2 rfl ?_)); (first | refine s_gn rfl rfl ?_ | (refine s_gy rfl ?_; refine zl hS ?_)); (first | refine s_gn rfl rfl ?_ | (refine s_gy rfl ?_; refine zL ?_)))
                      all_goals (first | refine s_gn rfl rfl ?_ | (refine s_gy rfl ?_; (first | (refine Qdy ?_) | (refine Qdz ?_) | (refine Q3p rfl rfl (fun hc => ?_) (fun hc => ?_)))))
                      all_goals ((first | (refine zpt ?_) | (refine zpf ?_)); refine zR3 (c := Q24 (by intro _; decide) hS fd) (h := ?_); rintro v1 w1 ⟨rfl, hS⟩; simp only [List.set_cons_zero, List.set_cons_succ, if_true, Bool.false_eq_true, if_false] at hS; refine zn ?_; refine Q1 ?_; refine zm ?_; refine Q2 rfl ?_; refine zl hS ?_; refine zL ?_)
                      all_goals (first | (refine QW ?_) | (refine Q1g ?_) | (refine Qr rfl rfl (fun hc => ?_) (fun hc => ?_)))
                      all_goals (refine zm ?_; (first | refine s_gn rfl rfl ?_ | (refine s_gy rfl ?_; refine Q2 rfl ?_)); (first | refine s_gn rfl rfl ?_ | (refine s_gy rfl ?_; refine zl hS ?_)); (first | refine s_gn rfl rfl ?_ | (refine s_gy rfl ?_; refine zL ?_)))
                      all_goals (first | refine s_gn rfl rfl ?_ | (refine s_gy rfl ?_; (first | (refine QW ?_) | (refine Q1g ?_) | (refine Qr rfl rfl (fun hc => ?_) (fun hc => ?_)))))
                      all_goals ((first | (refine zpt ?_) | (refine zpf ?_)); refine zR3 (c := Q24 (by intro _; decide) hS fd) (h := ?_); rintro v1 w1 ⟨rfl, hS⟩; simp only [List.set_cons_zero, List.set_cons_succ, if_true, Bool.false_eq_true, if_false] at hS)
                      all_goals refine zn ?_)
                   | (refine Q5 rfl ?_ -- QE c4
                      all_goals refine zsk ?_))))
  all_goals (refine Q3W ?_; refine ⟨_, rfl, rfl, ?_⟩; subst hh; rw [← ins_end (c3 := Q2u n.length x) hq rfl]; clear hq hx hr ha hf hsz; have hS := hS.drop; refine St.back ?_ hi; first | (rw [show Q2u n.length x = 0 from (by unfold Q2u; (repeat (first | rw [if_pos (by omega)] | rw [if_neg (by omega)])))]; first | (rw [mkF_0, Qo0 rfl]; exact hS) | exact hS | (rw [Q2R, Qah] at hS; exact hS)) | (rw [show Q2u n.length x = 1 from (by unfold Q2u; (repeat (first | rw [if_pos (by omega)] | rw [if_neg (by omega)])))]; first | exact hS | (rw [Q2R, Qcr (by decide)] at hS; exact hS)) | (rw [show Q2u n.length x = 2 from (by unfold Q2u; (repeat (first | rw [if_pos (by omega)] | rw [if_neg (by omega)])))]; first | exact hS | (rw [Q2R, Qah] at hS; exact hS)) | (trace_state; fail "end"))
theorem to_c {x : Fun} {t : To} {is : Bool} {vf : Value} {g : Flt} {at' : Int} {b : Nat} {cs ds : List Value} (hx : funcR.at cx cs x) (ht : toR.at cx ds t) (hS : St cx w L) (hi : nth L i = some (jdg b vf g at')) :
    Rets Tryz.prog Qbn [.pointer (some ⟨b, 0, none⟩), .agg ⟨cs⟩, .agg ⟨ds⟩, .bool is] w fun u w' => u = .tuple #[] ∧ St cx w' (L.set i (jdg b vf (orF g (mkF (Q1J x.blocks.length t is) at')) at')) := by
  have hS := hS.out hi
  obtain ⟨vp, vr, vb, rfl, hp, hr, hb⟩ := Q1K hx
  obtain ⟨v1, v2, rfl, h1, h2⟩ := Q9D ht
  have hlb := hb.len
  have hl1 := h1.len
  have hl2 := h2.len
  cases is with
  | false =>
    all_goals refine Q5A ?_
    all_goals (unfold code_judge_to_lc; refine Q0 ?_; refine Q1 ?_; refine zb hS ?_; intro p5 w1 hS; refine zb hS ?_; intro p6 w1 hS; refine zn ?_; refine Q0 ?_; refine Q0 ?_; refine Q1 ?_; refine zm ?_; refine Q2e rfl ?_; refine zn ?_)
    all_goals refine Q6 rfl ?_
    all_goals (refine Q0 ?_; refine Q1 ?_; refine zm ?_; refine Q2 rfl ?_; refine zl hS ?_)
    all_goals (first | (refine Q2L ?_) | (refine Q2M ?_) | (refine Q1a rfl rfl (fun hc => ?_) (fun hc => ?_)))
    all_goals (refine zm ?_; (first | refine s_gn rfl rfl ?_ | (refine s_gy rfl ?_; refine Q2 rfl ?_)); (first | refine s_gn rfl rfl ?_ | (refine s_gy rfl ?_; refine zl hS ?_)); (first | refine s_gn rfl rfl ?_ | (refine s_gy rfl ?_; refine zL ?_)))
    all_goals (first | refine s_gn rfl rfl ?_ | (refine s_gy rfl ?_; (first | (refine QW ?_) | (refine Q1g ?_) | (refine Qr rfl rfl (fun hc => ?_) (fun hc => ?_)))))
    all_goals ((first | (refine zpt ?_) | (refine zpf ?_)); refine zm ?_; (first | refine s_gn rfl rfl ?_ | (refine s_gy rfl ?_; refine Q2 rfl ?_)); (first | refine s_gn rfl rfl ?_ | (refine s_gy rfl ?_; refine zl hS ?_)); (first | refine s_gn rfl rfl ?_ | (refine s_gy rfl ?_; refine zL ?_)))
    all_goals (first | refine s_gn rfl rfl ?_ | (refine s_gy rfl ?_; (first | (refine QW ?_) | (refine Q1g ?_) | (refine Qr rfl rfl (fun hc => ?_) (fun hc => ?_)))))
    all_goals ((first | (refine zpt ?_) | (refine zpf ?_)); refine zR3 (c := Q24 (by intro _; decide) hS fd) (h := ?_); rintro v1 w1 ⟨rfl, hS⟩; simp only [List.set_cons_zero, List.set_cons_succ, if_true, Bool.false_eq_true, if_false] at hS; refine zn ?_; refine zr ?_; refine q_ret0 ?_; refine ⟨_, rfl, rfl, ?_⟩; have hS := hS.drop.drop; refine St.back ?_ hi; first | (rw [show Q1J x.blocks.length t false = 4 from (by unfold Q1J; rw [if_pos rfl, if_pos (by omega)])]; exact hS) | (rw [show Q1J x.blocks.length t false = 0 from (by unfold Q1J; rw [if_pos rfl, if_neg (by omega)])]; exact hS))
  | true =>
    all_goals refine Q5A ?_
    all_goals (unfold code_judge_to_lc; refine Q0 ?_; refine Q1 ?_; refine zb hS ?_; intro p5 w1 hS; refine zb hS ?_; intro p6 w1 hS; refine zn ?_; refine Q0 ?_; refine Q0 ?_; refine Q1 ?_; refine zm ?_; refine Q2e rfl ?_; refine zn ?_)
    all_goals refine Q5 rfl ?_
    all_goals (refine zsk ?_; refine Q0 ?_; refine Q1 ?_; refine zm ?_; refine Q2 rfl ?_; refine zl hS ?_)
    all_goals (first | (refine Q3i ?_) | (refine Q3j ?_) | (refine Q1w rfl rfl (fun hc => ?_) (fun hc => ?_)))
    all_goals (refine zm ?_; (first | refine s_gn rfl rfl ?_ | (refine s_gy rfl ?_; refine Q2 rfl ?_)); (first | refine s_gn rfl rfl ?_ | (refine s_gy rfl ?_; refine zl hS ?_)); (first | refine s_gn rfl rfl ?_ | (refine s_gy rfl ?_; refine Q2 rfl ?_)); (first | refine s_gn rfl rfl ?_ | (refine s_gy rfl ?_; refine zl hS ?_)); (first | refine s_gn rfl rfl ?_ | (refine s_gy rfl ?_; refine zL ?_)))
    all_goals (first | refine s_gn rfl rfl ?_ | (refine s_gy rfl ?_; (first | (refine Qdy ?_) | (refine Qdz ?_) | (refine Q3p rfl rfl (fun hc => ?_) (fun hc => ?_)))))
    all_goals ((first | (refine zpt ?_) | (refine zpf ?_)); refine zR3 (c := Q24 (by intro _; decide) hS fd) (h := ?_); rintro v1 w1 ⟨rfl, hS⟩; simp only [List.set_cons_zero, List.set_cons_succ, if_true, Bool.false_eq_true, if_false] at hS; refine zn ?_; refine Q1 ?_; refine zm ?_; refine Q2 rfl ?_; refine zl hS ?_; refine zL ?_)
    all_goals (first | (refine QW ?_) | (refine Q1g ?_) | (refine Qr rfl rfl (fun hc => ?_) (fun hc => ?_)))
    all_goals (refine zm ?_; (first | refine s_gn rfl rfl ?_ | (refine s_gy rfl ?_; refine Q2 rfl ?_)); (first | refine s_gn rfl rfl ?_ | (refine s_gy rfl ?_; refine zl hS ?_)); (first | refine s_gn rfl rfl ?_ | (refine s_gy rfl ?_; refine zL ?_)))
    all_goals (first | refine s_gn rfl rfl ?_ | (refine s_gy rfl ?_; (first | (refine QW ?_) | (refine Q1g ?_) | (refine Qr rfl rfl (fun hc => ?_) (fun hc => ?_)))))
    all_goals ((first | (refine zpt ?_) | (refine zpf ?_)); refine zR3 (c := Q24 (by intro _; decide) hS fd) (h := ?_); rintro v1 w1 ⟨rfl, hS⟩; simp only [List.set_cons_zero, List.set_cons_succ, if_true, Bool.false_eq_true, if_false] at hS; refine zn ?_; refine Q3W ?_; refine ⟨_, rfl, rfl, ?_⟩; have hS := hS.drop.drop; rw [Q2R] at hS; refine St.back ?_ hi; first | (rw [show Q1J x.blocks.length t true = 1 from (by unfold Q1J; rw [if_neg Bool.noConfusion, if_pos (by omega)])]; rw [Qcr (by decide)] at hS; exact hS) | (rw [show Q1J x.blocks.length t true = 2 from (by unfold Q1J; rw [if_neg Bool.noConfusion, if_neg (by omega), if_pos (by omega)])]; rw [Qah] at hS; exact hS) | (rw [show Q1J x.blocks.length t true = 0 from (by unfold Q1J; rw [if_neg Bool.noConfusion, if_neg (by omega), if_neg (by omega)])]; rw [Qah] at hS; exact hS))
theorem end_sum {g : Flt} {at' : Int} {n : Nat} {e : Tail} : orF (orF (orF (orF (orF g (mkF (if e.op < 1 ∨ 3 < e.op then 3 else 0) at')) (mkF (if e.op ≠ 2 ∧ e.a ≠ 0 ∨ e.op ≠ 3 ∧ 0 < e.args.length then 4 else 0) at')) (mkF (if 8 < e.args.length then 2 else 0) at')) (mkF (Q1J n e.yes (decide (e.op ≠ 3))) at')) (mkF (Q1J n e.no (decide (e.op = 2))) at') = orF g (mkF (Q2y n e) at') := by
  rw [Q2R, Q2R, Q2R, Q2R]
  congr 2
  unfold Q2y
  split
  · simp only [Qcr (show (3 : Int) ≠ 0 by decide)]
  · rw [Qah]
    split
    · simp only [Qcr (show (4 : Int) ≠ 0 by decide)]
    · rw [Qah]
      split
      · simp only [Qcr (show (2 : Int) ≠ 0 by decide)]
      · rw [Qah]
theorem end_c {x : Fun} {e : Tail} {vf : Value} {g : Flt} {at' : Int} {b : Nat} {cs ds : List Value} (hx : funcR.at cx cs x) (he : endR.at cx ds e) (hS : St cx w L) (hi : nth L i = some (jdg b vf g at')) :
    Rets Tryz.prog Q9x [.pointer (some ⟨b, 0, none⟩), .agg ⟨cs⟩, .agg ⟨ds⟩] w fun u w' => u = .tuple #[] ∧ St cx w' (L.set i (jdg b vf (orF g (mkF (Q2y x.blocks.length e) at')) at')) := by
  have hS := hS.out hi
  obtain ⟨vp, vr, vb, rfl, hp, hr, hb⟩ := Q1K hx
  obtain ⟨v1, v2, v3, v4, v5, rfl, h1, h2, h3, h4, h5⟩ := Qex he
  have hl5 := h5.len
  all_goals refine QcU ?_
  all_goals (unfold code_judge_end_lc; refine Q0 ?_; refine Q1 ?_; refine zb hS ?_; intro p4 w1 hS; refine zb hS ?_; intro p5 w1 hS; refine zn ?_)
  refine zM [0, 4, 5] (fun A ρ' w' => Has ρ' A ∧ Has ρ' [] ∧ St cx w' (blk p5 50 [.int .i64 e.op, .int .i64 e.a, .int .i64 e.yes.block, v1, v2, .int .i64 e.no.block, v3, v4, v5] :: blk p4 43 [.int .i64 x.regs, vp, vr, vb] :: jdg b vf (orF g (mkF (if e.op < 1 ∨ 3 < e.op then 3 else 0) at')) at' :: L.eraseIdx i)) ?_ ?_
  · skip
    all_goals (refine Q1 ?_; refine zm ?_; refine Q2 rfl ?_; refine zl hS ?_)
    all_goals (first | (refine Q3i ?_) | (refine Q3j ?_) | (refine Q1w rfl rfl (fun hc => ?_) (fun hc => ?_)))
    all_goals (refine zm ?_; (first | refine s_gn rfl rfl ?_ | (refine s_gy rfl ?_; refine Q2 rfl ?_)); (first | refine s_gn rfl rfl ?_ | (refine s_gy rfl ?_; refine zl hS ?_)))
    all_goals (first | refine s_gn rfl rfl ?_ | (refine s_gy rfl ?_; (first | (refine QW ?_) | (refine Q1g ?_) | (refine Qr rfl rfl (fun hc => ?_) (fun hc => ?_)))))
    all_goals ((first | (refine zpt ?_) | (refine zpf ?_)); refine zR3 (c := Q24 (by intro _; decide) hS fd) (h := ?_); rintro v1 w1 ⟨rfl, hS⟩; simp only [List.set_cons_zero, List.set_cons_succ, if_true, Bool.false_eq_true, if_false] at hS; refine zn ?_; exact ⟨zh, zh, by first | (rw [if_pos (by omega)]; exact hS.sp) | (rw [if_neg (by omega)]; exact hS.sp)⟩)
  rintro ρ w1 ⟨hA, hρ, hS⟩; obtain ⟨ρ, rfl⟩ := env2 hA hρ
  refine zM [0, 4, 5] (fun A ρ' w' => Has ρ' A ∧ Has ρ' [] ∧ St cx w' (blk p5 50 [.int .i64 e.op, .int .i64 e.a, .int .i64 e.yes.block, v1, v2, .int .i64 e.no.block, v3, v4, v5] :: blk p4 43 [.int .i64 x.regs, vp, vr, vb] :: jdg b vf (orF (orF g (mkF (if e.op < 1 ∨ 3 < e.op then 3 else 0) at')) (mkF (if e.op ≠ 2 ∧ e.a ≠ 0 ∨ e.op ≠ 3 ∧ 0 < e.args.length then 4 else 0) at')) at' :: L.eraseIdx i)) ?_ ?_
  · skip
    all_goals (refine Q1 ?_; refine zm ?_; refine Q2 rfl ?_; refine zl hS ?_)
    all_goals (first | (refine Q2L ?_) | (refine Q2M ?_) | (refine Q1a rfl rfl (fun hc => ?_) (fun hc => ?_)))
    all_goals (refine zm ?_; (first | refine s_gn rfl rfl ?_ | (refine s_gy rfl ?_; refine Q2 rfl ?_)); (first | refine s_gn rfl rfl ?_ | (refine s_gy rfl ?_; refine zl hS ?_)))
    all_goals (first | refine s_gn rfl rfl ?_ | (refine s_gy rfl ?_; (first | (refine Q2L ?_) | (refine Q2M ?_) | (refine Q1a rfl rfl (fun hc => ?_) (fun hc => ?_)))))
    all_goals ((first | (refine zpt ?_) | (refine zpf ?_)); refine zm ?_; (first | refine s_gn rfl rfl ?_ | (refine s_gy rfl ?_; refine Q2 rfl ?_)); (first | refine s_gn rfl rfl ?_ | (refine s_gy rfl ?_; refine zl hS ?_)))
    all_goals (first | refine s_gn rfl rfl ?_ | (refine s_gy rfl ?_; (first | (refine Q2L ?_) | (refine Q2M ?_) | (refine Q1a rfl rfl (fun hc => ?_) (fun hc => ?_)))))
    all_goals ((first | refine s_gn rfl rfl ?_ | (refine s_gy rfl ?_; refine zm ?_)); (first | refine s_gn rfl rfl ?_ | (refine s_gy rfl ?_; refine Q2 rfl ?_)); (first | refine s_gn rfl rfl ?_ | (refine s_gy rfl ?_; refine zl hS ?_)); (first | refine s_gn rfl rfl ?_ | (refine s_gy rfl ?_; refine zL ?_)))
    all_goals (first | refine s_gn rfl rfl ?_ | (refine s_gy rfl ?_; (first | (refine QW ?_) | (refine Q1g ?_) | (refine Qr rfl rfl (fun hc => ?_) (fun hc => ?_)))))
    all_goals ((first | refine s_gn rfl rfl ?_ | (refine s_gy rfl ?_; (first | (refine zpt ?_) | (refine zpf ?_)))); (first | (refine zpt ?_) | (refine zpf ?_)); refine zR3 (c := Q24 (by intro _; decide) hS fd) (h := ?_); rintro v1 w1 ⟨rfl, hS⟩; simp only [List.set_cons_zero, List.set_cons_succ, if_true, Bool.false_eq_true, if_false] at hS; refine zn ?_; exact ⟨zh, zh, by first | (rw [if_pos (c := e.op ≠ 2 ∧ e.a ≠ 0 ∨ e.op ≠ 3 ∧ 0 < e.args.length) (by omega)]; exact hS.sp) | (rw [if_neg (c := e.op ≠ 2 ∧ e.a ≠ 0 ∨ e.op ≠ 3 ∧ 0 < e.args.length) (by omega)]; exact hS.sp)⟩)
  rintro ρ w1 ⟨hA, hρ, hS⟩; obtain ⟨ρ, rfl⟩ := env2 hA hρ
  refine zM [0, 4, 5] (fun A ρ' w' => Has ρ' A ∧ Has ρ' [] ∧ St cx w' (blk p5 50 [.int .i64 e.op, .int .i64 e.a, .int .i64 e.yes.block, v1, v2, .int .i64 e.no.block, v3, v4, v5] :: blk p4 43 [.int .i64 x.regs, vp, vr, vb] :: jdg b vf (orF (orF (orF g (mkF (if e.op < 1 ∨ 3 < e.op then 3 else 0) at')) (mkF (if e.op ≠ 2 ∧ e.a ≠ 0 ∨ e.op ≠ 3 ∧ 0 < e.args.length then 4 else 0) at')) (mkF (if 8 < e.args.length then 2 else 0) at')) at' :: L.eraseIdx i)) ?_ ?_
  · skip
    all_goals (refine Q1 ?_; refine zm ?_; refine Q2 rfl ?_; refine zl hS ?_; refine zL ?_)
    all_goals (first | (refine QW ?_) | (refine Q1g ?_) | (refine Qr rfl rfl (fun hc => ?_) (fun hc => ?_)))
    all_goals (refine zR3 (c := Q24 (by intro _; decide) hS fd) (h := ?_); rintro v1 w1 ⟨rfl, hS⟩; simp only [List.set_cons_zero, List.set_cons_succ, if_true, Bool.false_eq_true, if_false] at hS; refine zn ?_; exact ⟨zh, zh, by first | (rw [if_pos (c := 8 < e.args.length) (by omega)]; exact hS.sp) | (rw [if_neg (c := 8 < e.args.length) (by omega)]; exact hS.sp)⟩)
  rintro ρ w1 ⟨hA, hρ, hS⟩; obtain ⟨ρ, rfl⟩ := env2 hA hρ
  all_goals (refine Q0 ?_; refine Q1 ?_; refine zm ?_; refine zv hS ?_; refine Q2 rfl ?_; refine zv hS ?_; refine Q2 rfl ?_; refine zl hS ?_; refine QbZ rfl rfl ?_; refine zR4 (c := to_c (t := e.yes) hx ⟨_, _, rfl, h1, h2⟩ hS fd) (h := ?_); rintro v1 w1 ⟨rfl, hS⟩; have hS := hS.ns; refine zn ?_; refine Q1 ?_; refine zm ?_; refine zv hS ?_; refine Q2 rfl ?_; refine zv hS ?_; refine Q2 rfl ?_; refine zl hS ?_; refine QjF rfl rfl ?_; refine zR4 (c := to_c (t := e.no) hx ⟨_, _, rfl, h3, h4⟩ hS fd) (h := ?_); rintro v1 w1 ⟨rfl, hS⟩; have hS := hS.ns; refine zn ?_; refine Q3W ?_; refine ⟨_, rfl, rfl, ?_⟩; rw [end_sum] at hS; exact St.back hS.drop.drop hi)
end
end Go.Proofs.YtjecflbbcnocdaaGreatDoor
namespace Go.Proofs.YtjecflbbcnocdaaGreatDoor
open Go.Lir
set_option maxHeartbeats 1000000
attribute [local irreducible] LC.wp Q3 Qt QA retQ Q1m LO.wp Qm Calls
set_option linter.unusedSimpArgs false
set_option linter.unusedVariables false
variable {cx : Cx} {w : World} {L : List Res}
theorem Qpb (f : Nat) (hf : f ≤ 1000000) (hS : St cx w L) : Rets Tryz.prog Qg2 [.int .i64 f] w fun u w' => u = .int .i64 (Q45 f) ∧ St cx w' L := by
  unfold Q45
  all_goals refine QhW ?_
  all_goals (unfold code_FuncAt_lc; refine Q0 ?_; refine Q1 ?_; refine zm ?_; refine zn ?_; refine Q0 ?_; refine Q1 ?_; refine zm ?_; refine zmu ?_; refine zad ?_; refine zm ?_; refine zn ?_; refine zr ?_; refine zf ?_; refine ⟨_, rfl, ?_, hS.sp⟩; (rfl); done)
theorem QnZ (f b : Nat) (hf : f ≤ 1000000) (hb : b ≤ 1000000) (hS : St cx w L) : Rets Tryz.prog Qdv [.int .i64 f, .int .i64 b] w fun u w' => u = .int .i64 (Q4C f b) ∧ St cx w' L := by
  unfold Q4C
  all_goals refine Qg8 ?_
  all_goals (unfold code_BlockAt_lc; refine Q0 ?_; refine Q1 ?_; refine zm ?_; refine zn ?_; refine Q0 ?_; refine Q1 ?_; refine zm ?_; refine zmu ?_; refine zm ?_; refine zmu ?_; refine zad ?_; refine zad ?_; refine zm ?_; refine zn ?_; refine zr ?_; refine zf ?_; refine ⟨_, rfl, ?_, hS.sp⟩; (rfl); done)
theorem pEndAt_c (f b : Nat) (hf : f ≤ 1000000) (hb : b ≤ 1000000) (hS : St cx w L) : Rets Tryz.prog QiR [.int .i64 f, .int .i64 b] w fun u w' => u = .int .i64 (Qn4 f b) ∧ St cx w' L := by
  unfold Qn4
  all_goals refine QkQ ?_
  all_goals (unfold code_EndAt_lc; refine Q0 ?_; refine Q1 ?_; refine zm ?_; refine zn ?_; refine Q0 ?_; refine Q1 ?_; refine zm ?_; refine zmu ?_; refine zm ?_; refine zmu ?_; refine zad ?_; refine zad ?_; refine zm ?_; refine zn ?_; refine zr ?_; refine zf ?_; refine ⟨_, rfl, ?_, hS.sp⟩; (rfl); done)
theorem pInsAt_c (f b i : Nat) (hf : f ≤ 1000000) (hb : b ≤ 1000000) (hi : i ≤ 1000000) (hS : St cx w L) : Rets Tryz.prog QiQ [.int .i64 f, .int .i64 b, .int .i64 i] w fun u w' => u = .int .i64 (QpW f b i) ∧ St cx w' L := by
  unfold QpW
  all_goals refine QkN ?_
  all_goals (unfold code_InsAt_lc; refine Q0 ?_; refine Q1 ?_; refine zm ?_; refine zn ?_; refine Q0 ?_; refine Q1 ?_; refine zm ?_; refine zmu ?_; refine zm ?_; refine zmu ?_; refine zad ?_; refine zm ?_; refine zad ?_; refine zm ?_; refine zn ?_; refine zr ?_; refine zf ?_; refine ⟨_, rfl, ?_, hS.sp⟩; (rfl); done)
end Go.Proofs.YtjecflbbcnocdaaGreatDoor
namespace Go.Proofs.YtjecflbbcnocdaaGreatDoor
open Go.Lir
set_option maxHeartbeats 1000000
attribute [local irreducible] LC.wp Q3 Qt QA retQ Q1m LO.wp Qm Calls
set_option linter.unusedSimpArgs false
set_option linter.unusedVariables false
attribute [local irreducible] Lib.itoa Lib.join Qpq wordN Q1P
variable {cx : Cx} {w : World} {L : List Res}
end Go.Proofs.YtjecflbbcnocdaaGreatDoor
namespace Go.Lir
theorem St.lent {c : Cx} {w : World} {L : List Res} {r : Res} (h : St c w (r :: L)) : ∃ c' F, c.Le c' ∧ St c' w L ∧ r.A c'.H0 F ∧ (∀ b, F b → c'.K b) ∧ ∀ {w' : World} {L' : List Res}, St c' w' L' → St c w' (r :: L') := by
  obtain ⟨ok, F, ⟨F1, F2, h1, h2, h3, h4⟩, hd⟩ := h
  have hle : c.Le ⟨c.base, fun b => c.K b ∨ F1 b, w.heap⟩ := ⟨rfl, fun b hb => ⟨.inl hb, ok.same b hb⟩, ok.size, ok.lt⟩
  refine ⟨⟨c.base, fun b => c.K b ∨ F1 b, w.heap⟩, F1, hle, ⟨⟨ok.os, ok.tape, ok.output, Nat.le_refl _, fun b hb => hb.elim (fun hb => Nat.lt_of_lt_of_le (ok.lt b hb) ok.size) (r.lt h1 b), fun b _ => rfl⟩, F2, h2, ?_⟩, h1, fun b hb => .inr hb, ?_⟩
  · rintro b hb (hk | hk)
    · exact hd b ((h4 b).2 (.inr hb)) hk
    · exact h3 b hk hb
  · intro w' L' hS
    have hw := hS.weak hle
    obtain ⟨ok', F', hF', hd'⟩ := hS
    refine ⟨hw.1, fun b => F1 b ∨ F' b, ⟨F1, F', r.loc h1 fun b hb _ => ok'.same b (.inr hb), hF', fun b hb hb' => hd' b hb' (.inr hb), fun b => Iff.rfl⟩, ?_⟩
    rintro b (hb | hb) hk
    · exact hd b ((h4 b).2 (.inl hb)) hk
    · exact hd' b hb (.inl hk)
theorem St.lend {α : Type} {r : Rep α} {c : Cx} {w : World} {L : List Res} {T : TypeId} {es : Nat} {v : Value} {css : List (List Value)} {l : List α} (h : St c w (sl T es v css :: L)) (hl : r.ls c css l) (hes : r.es = es) (hm : l.length ≤ 140737488355328) :
    ∃ c', c.Le c' ∧ St c' w L ∧ r.sl c' v l ∧ ∀ {w' : World} {L' : List Res}, St c' w' L' → St c w' (sl T es v css :: L') := by
  subst hes
  obtain ⟨c', F, h1, h2, h3, h4, h5⟩ := h.lent
  exact ⟨c', h1, h2, ⟨css, SlR.mono (Sl.toR h3) fun b _ hb => h4 b hb, hl.up h1, hm⟩, h5⟩
end Go.Lir
namespace Go.Proofs.YtjecflbbcnocdaaGreatDoor
open Go.Lir
set_option maxHeartbeats 1000000
attribute [local irreducible] LC.wp Q3 Qt QA retQ Q1m LO.wp Qm Calls
set_option linter.unusedSimpArgs false
set_option linter.unusedVariables false
variable {cx : Cx} {w : World} {L : List Res}
theorem Qne {l : List Int} {j : Nat} {n : Int} (h : l[j]? = some n) : Q1k (l.drop j) = (Qlv n && Q1k (l.drop (j + 1))) := by unfold Q1k; rw [Q7 h, List.all_cons]
theorem smallL_z {l : List Int} {j : Nat} (h : l.length ≤ j) : Q1k (l.drop j) = true := by unfold Q1k; rw [List.drop_of_length_le h]; rfl
theorem see_c {l : List Int} {v : Value} {q : Bool} {b : Nat} (hl : intR.sl cx v l) (hS : St cx w (blk b 4 [.bool q] :: L)) :
    Rets Tryz.prog Q2o [v, .pointer (some ⟨b, 0, none⟩)] w fun u w' => u = .tuple #[] ∧ St cx w' (blk b 4 [.bool (q && Q1k l)] :: L) := by
  have hlen := hl.len
  all_goals refine Q9L ?_
  all_goals (unfold render_numbers_1_lc; refine Q0 ?_; refine Q1 ?_; refine zm ?_; refine zL ?_; refine zm ?_; refine zn ?_; refine Qa ?_)
  refine zo [1, 5, 6] (fun A ρ' w' => ∃ (j : Nat) (q2 : Bool), Has ρ' A ∧ Has ρ' [(7, .int .i64 j)] ∧ (j ≤ l.length) ∧ ((q && Q1k l) = (q2 && Q1k (l.drop j))) ∧ St cx w' (blk b 4 [.bool q2] :: L)) (fun ρ' _ => (l.length - iv (ρ' 7)).toNat) ?_ ?_
  · exact ⟨0, q, zh, zh, (by omega), by rw [List.drop_zero], hS.sp⟩
  rintro ρ w1 ⟨j, q2, hA, hρ, hj, hd, hS⟩; obtain ⟨ρ, rfl⟩ := env2 hA hρ
  unfold Q3T
  all_goals (refine Q0 ?_; refine Q1 ?_; refine QG rfl rfl ?_; refine zn ?_; refine Q0 ?_)
  refine Qu rfl (fun hc => ?_) (fun hc => ?_)
  · skip
    all_goals (refine zsk ?_; refine Q0 ?_; refine Qa ?_; refine Q0 ?_; refine Q1 ?_; refine zi ?_; intro b1 o1 cs1 x1 hat1 hx1 he1; obtain rfl := Q7H he1; (first | (refine zl hS ?_) | (refine zlk hS ?_)); refine zm ?_; refine zn ?_)
    all_goals (cases q2)
    all_goals (refine Q1 ?_; refine zl hS ?_; refine zm ?_; (first | refine s_gn rfl rfl ?_ | (refine s_gy rfl ?_; refine zm ?_)))
    all_goals (first | refine s_gn rfl rfl ?_ | (refine s_gy rfl ?_; (first | (refine Qdy ?_) | (refine Qdz ?_) | (refine Q3p rfl rfl (fun hc => ?_) (fun hc => ?_)))))
    all_goals ((first | (refine zpt ?_) | (refine zpf ?_)); refine zm ?_; (first | refine s_gn rfl rfl ?_ | (refine s_gy rfl ?_; refine zm ?_)))
    all_goals (first | refine s_gn rfl rfl ?_ | (refine s_gy rfl ?_; (first | (refine zleqt ?_) | (refine zleqf ?_) | (refine Qmv rfl rfl (fun hc => ?_) (fun hc => ?_)))))
    all_goals ((first | (refine zpt ?_) | (refine zpf ?_)); refine zst hS ?_; intro w1 hS; have hS := hS.ns; refine zn ?_; refine Q1 ?_; refine zad ?_; refine zm ?_; refine zn ?_; (first | (exact ⟨⟨j + 1, false, zh, zh, (by omega), by rw [hd, Bool.false_and, Bool.false_and], hS.sp⟩, Qz (by omega)⟩) | (exact ⟨⟨j + 1, true, zh, zh, (by omega), by rw [hd, Qne hx1, show Qlv x1 = true from decide_eq_true (by omega), Bool.true_and], hS.sp⟩, Qz (by omega)⟩) | (exact ⟨⟨j + 1, false, zh, zh, (by omega), by rw [hd, Qne hx1, show Qlv x1 = false from decide_eq_false (by omega), Bool.false_and, Bool.true_and], hS.sp⟩, Qz (by omega)⟩)))
  · skip
    all_goals (refine zex ?_; refine Q3W ?_; rw [smallL_z (by omega), Bool.and_true] at hd; rw [hd]; exact ⟨_, rfl, rfl, hS.sp⟩)
theorem Qlw {l : List Int} {v : Value} {q : Bool} {b i : Nat} (hl : intR.sl cx v l) (hS : St cx w L) (hi : nth L i = some (blk b 4 [.bool q])) :
    Rets Tryz.prog Q2o [v, .pointer (some ⟨b, 0, none⟩)] w fun u w' => u = .tuple #[] ∧ St cx w' (L.set i (blk b 4 [.bool (q && Q1k l)])) :=
  (see_c hl (hS.out hi)).mono fun _ _ ⟨h1, h2⟩ => ⟨h1, St.back h2 hi⟩
theorem QiL : ∀ (l : List Int), (l.map QmU).flatten = l.map fun n => Value.int .i64 n
  | [] => rfl
  | x :: l => by rw [List.map_cons, List.flatten_cons, QiL l]; rfl
/-- Some numbers that were just laid. -/
theorem Qox {T : Nat} {l : List Int} {q : Bool} {b b2 n i : Nat} (hS : St cx w (blk b2 T (l.map fun n => Value.int .i64 n) :: L)) (hi : nth L i = some (blk b 4 [.bool q])) (hn : l.length = n) (hm : n ≤ 10) :
    Rets Tryz.prog Q2o [.slice (some ⟨b2, 0, none⟩) n n, .pointer (some ⟨b, 0, none⟩)] w fun u w' => u = .tuple #[] ∧ St cx w' (L.set i (blk b 4 [.bool (q && Q1k l)])) := by
  have hS2 : St cx w (sl T 1 (.slice (some ⟨b2, 0, none⟩) n n) (l.map QmU) :: L) := St.slOf hS (QiL l) (by intro c hc; obtain ⟨x, _, rfl⟩ := List.mem_map.1 hc; rfl) (by rw [List.length_map]; exact hn)
  obtain ⟨c7, hle7, hS, hk7, hback⟩ := St.lend (r := intR) hS2 (l := l) ⟨by simp, fun m x hx => ⟨QmU x, by rw [List.getElem?_map, hx]; rfl, rfl⟩⟩ rfl (by omega)
  exact (Qlw hk7 hS hi).mono fun _ _ ⟨h1, h2⟩ => ⟨h1, (hback h2).drop⟩
/-- All numbers of a module. -/
theorem all_d {α : Type} {p : α → Bool} {l : List α} {j : Nat} {x : α} (h : l[j]? = some x) : (l.drop j).all p = (p x && (l.drop (j + 1)).all p) := by rw [Q7 h, List.all_cons]
theorem all_z {α : Type} {p : α → Bool} {l : List α} {j : Nat} (h : l.length ≤ j) : (l.drop j).all p = true := by rw [List.drop_of_length_le h]; rfl
theorem Qpf {m : Module} {cs : List Value} (hx : modR.at cx cs m) (hS : St cx w L) : Rets Tryz.prog Q9s [.agg ⟨cs⟩] w fun u w' => u = .bool m.small ∧ St cx w' L := by
  obtain ⟨vf, rfl, hf⟩ := Q3G hx
  obtain ⟨l⟩ := m
  have hf : funcR.sl cx vf l := hf
  have hfl := hf.len
  all_goals refine Qcd ?_
  all_goals (unfold render_numbers_lc; refine Q0 ?_; refine Q1 ?_; refine zb hS ?_; intro p1 w1 hS; refine zm ?_; refine zn ?_; refine Q0 ?_; refine Q1 ?_; refine Qe hS ?_; intro p3 w1 hS; refine zst hS ?_; intro w1 hS; have hS := hS.ns; refine zn ?_; refine Q0 ?_; refine Q1 ?_; refine Qmu (u := [.pointer (some ⟨p3, 0, none⟩)]) rfl ?_; refine zm ?_; refine zn ?_; refine Q0 ?_; refine Q0 ?_; refine Q1 ?_; refine Q2 rfl ?_; refine zl hS ?_; refine zL ?_; refine zm ?_; refine zn ?_; refine Qa ?_)
  refine zo [3, 4, 15, 16] (fun A ρ' w' => ∃ (j : Nat) (q : Bool), Has ρ' A ∧ Has ρ' [(17, .int .i64 j)] ∧ (j ≤ l.length) ∧ (Module.small ⟨l⟩ = (q && (l.drop j).all Fun.small)) ∧ St cx w' (blk p3 4 [.bool q] :: blk p1 24 [vf] :: L)) (fun ρ' _ => (l.length - iv (ρ' 17)).toNat) ?_ ?_
  · exact ⟨0, true, zh, zh, (by omega), by rw [List.drop_zero, Bool.true_and]; rfl, hS.sp⟩
  rintro ρ w1 ⟨j, q, hA, hρ, hj, hd, hS⟩; obtain ⟨ρ, rfl⟩ := env2 hA hρ
  unfold Q4H
  all_goals (refine Q0 ?_; refine Q1 ?_; refine QG rfl rfl ?_; refine zn ?_; refine Q0 ?_)
  refine Qu rfl (fun hc => ?_) (fun hc => ?_)
  · skip
    all_goals (refine zsk ?_; refine Q0 ?_; refine Qa ?_; refine Q0 ?_; refine Q1 ?_; refine zi ?_; intro b1 o1 cs1 x1 hat1 hx1 he1; obtain ⟨vp1, vr1, vb1, rfl, hp1, hr1, hb1⟩ := Q1K he1; (first | (refine zv hS ?_) | (refine zvk hS ?_)); refine Qe hS ?_; intro p6 w1 hS; refine zsn hS ?_; intro w1 hS; have hS := hS.ns; refine zn ?_; refine Q0 ?_; refine Q1 ?_; refine Q2 rfl ?_; refine zl hS ?_; refine zL ?_; refine zm ?_; refine zn ?_; refine Qa ?_; have hbl := hb1.len)
    refine zo [3, 4, 15, 16, 17, 22, 23] (fun A ρ' w' => ∃ (j1 : Nat) (q1 : Bool), Has ρ' A ∧ Has ρ' [(24, .int .i64 j1)] ∧ (j1 ≤ x1.blocks.length) ∧ (Module.small ⟨l⟩ = (q1 && ((x1.blocks.drop j1).all Block.small && (l.drop (j + 1)).all Fun.small))) ∧ St cx w' (blk p6 43 [.int .i64 x1.regs, vp1, vr1, vb1] :: blk p3 4 [.bool q1] :: blk p1 24 [vf] :: L)) (fun ρ' _ => (x1.blocks.length - iv (ρ' 24)).toNat) ?_ ?_
    · exact ⟨0, q, zh, zh, (by omega), by rw [hd, all_d hx1, List.drop_zero]; rfl, hS.sp⟩
    rintro ρ w1 ⟨j1, q1, hA, hρ, hj1, hd1, hS⟩; obtain ⟨ρ, rfl⟩ := env2 hA hρ
    unfold Q4G
    all_goals (refine Q0 ?_; refine Q1 ?_; refine QG rfl rfl ?_; refine zn ?_; refine Q0 ?_)
    refine Qu rfl (fun hc => ?_) (fun hc => ?_)
    · skip
      all_goals (refine zsk ?_; refine Q0 ?_; refine Qa ?_; refine Q0 ?_; refine Q1 ?_; refine zi ?_; intro b2 o2 cs2 x2 hat2 hx2 he2; obtain ⟨vp2, vc2, ve21, ve22, ve23, ve24, ve25, rfl, hp2, hc2, he21, he22, he23, he24, he25⟩ := Q1B he2; (first | (refine zv hS ?_) | (refine zvk hS ?_)); refine Qe hS ?_; intro p8 w1 hS; refine zsn hS ?_; intro w1 hS; have hS := hS.ns; refine zn ?_; refine Q0 ?_; refine Q0 ?_; refine Q1 ?_; refine Q2 rfl ?_; refine zl hS ?_; refine zL ?_; refine zm ?_; refine zn ?_; refine Qa ?_; have hcl := hc2.len)
      refine zo [3, 4, 8, 15, 16, 17, 22, 23, 24, 29, 30] (fun A ρ' w' => ∃ (j2 : Nat) (q2 : Bool), Has ρ' A ∧ Has ρ' [(31, .int .i64 j2)] ∧ (j2 ≤ x2.code.length) ∧ (Module.small ⟨l⟩ = (q2 && ((x2.code.drop j2).all Ins.small && (x2.fin.small && ((x1.blocks.drop (j1 + 1)).all Block.small && (l.drop (j + 1)).all Fun.small))))) ∧ St cx w' (blk p8 52 [.int .i64 x2.regs, vp2, vc2, .int .i64 x2.fin.op, .int .i64 x2.fin.a, .int .i64 x2.fin.yes.block, ve21, ve22, .int .i64 x2.fin.no.block, ve23, ve24, ve25] :: blk p6 43 [.int .i64 x1.regs, vp1, vr1, vb1] :: blk p3 4 [.bool q2] :: blk p1 24 [vf] :: L)) (fun ρ' _ => (x2.code.length - iv (ρ' 31)).toNat) ?_ ?_
      · exact ⟨0, q1, zh, zh, (by omega), by rw [hd1, all_d hx2, List.drop_zero]; unfold Block.small; simp only [Bool.and_assoc], hS.sp⟩
      rintro ρ w1 ⟨j2, q2, hA, hρ, hj2, hd2, hS⟩; obtain ⟨ρ, rfl⟩ := env2 hA hρ
      unfold Q4e
      all_goals (refine Q0 ?_; refine Q1 ?_; refine QG rfl rfl ?_; refine zn ?_; refine Q0 ?_)
      refine Qu rfl (fun hc => ?_) (fun hc => ?_)
      · skip
        all_goals (refine zsk ?_; refine Q0 ?_; refine Qa ?_; refine Q0 ?_; refine Q1 ?_; refine zi ?_; intro b3 o3 cs3 x3 hat3 hx3 he3; obtain ⟨vr3, va3, rfl, hr3, ha3⟩ := Q2p he3; (first | (refine zv hS ?_) | (refine zvk hS ?_)); refine Qe hS ?_; intro p10 w1 hS; refine zsn hS ?_; intro w1 hS; have hS := hS.ns; refine zn ?_; refine Q0 ?_; refine Q1 ?_; refine zm ?_; refine Q2 rfl ?_; refine zl hS ?_; refine Q2 rfl ?_; refine zl hS ?_; refine Q2 rfl ?_; refine zl hS ?_; refine Q2 rfl ?_; refine zl hS ?_; refine zB4 hS [_, _, _, _] ?_; intro b1 w1 hS; refine Q3E rfl (by kernel_rfl) rfl (Qox (l := [x3.a, x3.b, x3.c, x3.k]) (q := q2) (i := 3) hS rfl rfl (by decide)) ?_; rintro v1 w1 ⟨rfl, hS⟩; have hS := hS.ns; refine zn ?_; refine Q0 ?_; refine Q1 ?_; refine zm ?_; refine Q2 rfl ?_; refine zl hS ?_; refine Q3E rfl (by kernel_rfl) rfl (Qlw (i := 3) hr3 hS rfl) ?_; rintro v1 w1 ⟨rfl, hS⟩; have hS := hS.ns)
        all_goals (refine zn ?_; refine Q1 ?_; refine zm ?_; refine Q2 rfl ?_; refine zl hS ?_; refine Q3E rfl (by kernel_rfl) rfl (Qlw (i := 3) ha3 hS rfl) ?_; rintro v1 w1 ⟨rfl, hS⟩; have hS := hS.ns; refine zn ?_; refine Q1 ?_; refine zad ?_; refine zm ?_; refine zn ?_; exact ⟨⟨j2 + 1, (((q2 && Q1k [x3.a, x3.b, x3.c, x3.k]) && Q1k x3.regs) && Q1k x3.args), zh, zh, (by omega), by rw [hd2, all_d hx3]; unfold Ins.small; simp only [Bool.and_assoc], hS.sp⟩, Qz (by omega)⟩)
      · skip
        all_goals (refine zex ?_; refine Q0 ?_; refine Q1 ?_; refine zm ?_; refine Q2 rfl ?_; (first | refine Q2 rfl ?_ | refine Q1p rfl ?_); refine zl hS ?_; refine zB1 hS [_] ?_; intro b1 w1 hS; refine Q3E rfl (by kernel_rfl) rfl (Qox (l := [x2.fin.a]) (q := q2) (i := 2) hS rfl rfl (by decide)) ?_; rintro v1 w1 ⟨rfl, hS⟩; have hS := hS.ns; refine zn ?_; refine Q0 ?_; refine Q1 ?_; refine zm ?_; refine Q2 rfl ?_; (first | refine Q2 rfl ?_ | refine Q1p rfl ?_); refine zl hS ?_; refine Q3E rfl (by kernel_rfl) rfl (Qlw (i := 2) he25 hS rfl) ?_; rintro v1 w1 ⟨rfl, hS⟩; have hS := hS.ns; refine zn ?_; refine Q0 ?_; refine Q1 ?_; refine Q2 rfl ?_; (first | refine Q2 rfl ?_ | refine Q1p rfl ?_); refine zv hS ?_; refine Q2 rfl ?_; (first | refine Q2 rfl ?_ | refine Q1p rfl ?_); refine zv hS ?_)
        all_goals (refine QlE (cs := [.int .i64 x2.fin.yes.block, ve21, ve22, .int .i64 x2.fin.no.block, ve23, ve24]) vw vw (by rfl) ?_; intro b1 w1 hb1 hf1 _ hk1; have hS := hS.laid hb1 hf1 hk1; have hS := St.slOf (es := 3) (n := 2) (css := [[.int .i64 x2.fin.yes.block, ve21, ve22], [.int .i64 x2.fin.no.block, ve23, ve24]]) hS rfl (by intro c hc; simp at hc; rcases hc with rfl | rfl <;> rfl) rfl)
        all_goals (refine s_len rfl ?_; refine zm ?_; refine zn ?_; refine Qa ?_)
        refine zo [3, 4, 15, 16, 17, 22, 23, 24, 72, 73] (fun A ρ' w' => ∃ (j3 : Nat) (q3 : Bool), Has ρ' A ∧ Has ρ' [(74, .int .i64 j3)] ∧ (j3 ≤ 2) ∧ (Module.small ⟨l⟩ = (q3 && (([x2.fin.yes, x2.fin.no].drop j3).all To.small && ((x1.blocks.drop (j1 + 1)).all Block.small && (l.drop (j + 1)).all Fun.small)))) ∧ St cx w' (sl 48 3 (.slice (some ⟨b1, 0, none⟩) 2 2) [[.int .i64 x2.fin.yes.block, ve21, ve22], [.int .i64 x2.fin.no.block, ve23, ve24]] :: blk p8 52 [.int .i64 x2.regs, vp2, vc2, .int .i64 x2.fin.op, .int .i64 x2.fin.a, .int .i64 x2.fin.yes.block, ve21, ve22, .int .i64 x2.fin.no.block, ve23, ve24, ve25] :: blk p6 43 [.int .i64 x1.regs, vp1, vr1, vb1] :: blk p3 4 [.bool q3] :: blk p1 24 [vf] :: L)) (fun ρ' _ => (2 - iv (ρ' 74)).toNat) ?_ ?_
        · exact ⟨0, ((q2 && Q1k [x2.fin.a]) && Q1k x2.fin.args), zh, zh, (by omega), by rw [hd2, all_z (by omega)]; unfold Tail.small Q1k; simp [Bool.and_assoc], hS.sp⟩
        rintro ρ w1 ⟨j3, q3, hA, hρ, hj3, hd3, hS⟩; obtain ⟨ρ, rfl⟩ := env2 hA hρ
        unfold Q4d
        all_goals (refine Q0 ?_; refine Q1 ?_; refine QG rfl rfl ?_; refine zn ?_; refine Q0 ?_)
        refine Qu rfl (fun hc => ?_) (fun hc => ?_)
        · skip
          all_goals (refine zsk ?_; refine Q0 ?_; refine Qa ?_; refine Q0 ?_)
          all_goals (have oo1 := Rep.SR.oneC he21; have oo2 := Rep.SR.oneC he22; have oo3 := Rep.SR.oneC he23; have oo4 := Rep.SR.oneC he24; rcases (show j3 = 0 ∨ j3 = 1 by omega) with rfl | rfl)
          all_goals (refine Q1 ?_; (first | refine QoI (m := 0) hS rfl rfl (i := 0) rfl (by show 0 < 2; omega) ?_ | refine QoI (m := 1) hS rfl rfl (i := 0) rfl (by show 1 < 2; omega) ?_); intro b4 o4 hel4; refine s_loadnE hS hel4 rfl (i := 0) rfl rfl rfl ?_; refine Qe hS ?_; intro p12 w1 hS; refine zsn hS ?_; intro w1 hS; have hS := hS.ns; refine zn ?_; refine Q0 ?_; refine Q1 ?_; refine zm ?_; refine Q2 rfl ?_; refine zl hS ?_; (first | refine Q3E rfl (by kernel_rfl) rfl (Qlw (i := 4) he21 hS rfl) ?_ | refine Q3E rfl (by kernel_rfl) rfl (Qlw (i := 4) he23 hS rfl) ?_); rintro v1 w1 ⟨rfl, hS⟩; have hS := hS.ns; refine zn ?_; refine Q1 ?_; refine zm ?_; refine Q2 rfl ?_; refine zl hS ?_; (first | refine Q3E rfl (by kernel_rfl) rfl (Qlw (i := 4) he22 hS rfl) ?_ | refine Q3E rfl (by kernel_rfl) rfl (Qlw (i := 4) he24 hS rfl) ?_); rintro v1 w1 ⟨rfl, hS⟩; have hS := hS.ns; refine zn ?_; refine Q1 ?_; refine zad ?_; refine zm ?_; refine zn ?_; (first | (exact ⟨⟨1, ((q3 && Q1k x2.fin.yes.regs) && Q1k x2.fin.yes.args), zh, zh, (by omega), by rw [hd3]; simp [To.small, Bool.and_assoc], hS.sp⟩, Qz (by omega)⟩) | (exact ⟨⟨2, ((q3 && Q1k x2.fin.no.regs) && Q1k x2.fin.no.args), zh, zh, (by omega), by rw [hd3]; simp [To.small, Bool.and_assoc], hS.sp⟩, Qz (by omega)⟩)))
        · skip
          all_goals (refine zex ?_; refine Q1 ?_; refine zad ?_; refine zm ?_; refine zn ?_; exact ⟨⟨j1 + 1, q3, zh, zh, (by omega), by rw [hd3, all_z (by show 2 ≤ j3; omega), Bool.true_and], hS.sp⟩, Qz (by omega)⟩)
    · skip
      all_goals (refine zex ?_; refine Q1 ?_; refine zad ?_; refine zm ?_; refine zn ?_; exact ⟨⟨j + 1, q1, zh, zh, (by omega), by rw [hd1, all_z (by omega), Bool.true_and], hS.sp⟩, Qz (by omega)⟩)
  · skip
    all_goals (refine zex ?_; refine Q0 ?_; refine Q1 ?_; refine zl hS ?_; refine zm ?_; refine zn ?_; refine zr ?_; refine zf ?_; refine ⟨_, rfl, ?_, hS.sp⟩; rw [hd, all_z (by omega), Bool.and_true]; done)
end Go.Proofs.YtjecflbbcnocdaaGreatDoor
namespace Go.Proofs.YtjecflbbcnocdaaGreatDoor
open Go.Lir
set_option maxHeartbeats 1000000
attribute [local irreducible] LC.wp Q3 Qt QA retQ Q1m LO.wp Qm Calls
set_option linter.unusedSimpArgs false
set_option linter.unusedVariables false
attribute [local irreducible] Lib.itoa Lib.join Q39 Q1P Ins.txt Tail.txt To.txt
variable {cx : Cx} {w : World} {L : List Res}
def Fun.head (f : Fun) : List UInt8 := Q7N ++ [32] ++ Lib.itoa f.regs ++ [32] ++ Q39 f.params ++ [32] ++ Q3Q ++ [32] ++ Q39 f.results ++ [32, 123, 10]
def Block.head (b : Block) : List UInt8 := Q1R ++ [32] ++ Lib.itoa b.regs ++ [32] ++ Q39 b.params ++ [32, 123, 10]
theorem QpE (f : Fun) : f.txt = Fun.head f ++ (QH f.blocks ++ [125, 10]) := by
  unfold Fun.txt Fun.head; simp only [List.append_assoc]
theorem QpQ (b : Block) : b.txt = Block.head b ++ (Q1s b.code ++ ([9] ++ (b.fin.txt ++ [59, 10, 125, 10]))) := by
  unfold Block.txt Block.head; simp only [List.append_assoc]
theorem funs_s {l : List Fun} {j : Nat} {x : Fun} (h : l[j]? = some x) : Q1H (l.take (j + 1)) = Q1H (l.take j) ++ x.txt := by
  rw [Q3P h, QfT, Q1H, Q1H, List.append_nil]
theorem blocks_s {l : List Block} {j : Nat} {x : Block} (h : l[j]? = some x) : QH (l.take (j + 1)) = QH (l.take j) ++ x.txt := by
  rw [Q3P h, QbK, QH, QH, List.append_nil]
theorem code_s {l : List Ins} {j : Nat} {x : Ins} (h : l[j]? = some x) : Q1s (l.take (j + 1)) = Q1s (l.take j) ++ ([9] ++ (x.txt ++ [59, 10])) := by
  rw [Q3P h, Qg9, Q1s, Q1s, List.append_nil]; simp only [List.append_assoc]
theorem QnB {l : List Fun} (hn : l.length ≤ 8) (h : ∀ f ∈ l, f.Pr) (j : Nat) : (Q1H (l.take j)).length ≤ 280000000 := by
  have := Qcy (l := l.take j) fun f hf => h f (List.mem_of_mem_take hf)
  rw [List.length_take] at this; omega
theorem QiV {l : List Block} (hn : l.length ≤ 12) (h : ∀ f ∈ l, f.Pr) (j : Nat) : (QH (l.take j)).length ≤ 30000000 := by
  have := Q7y (l := l.take j) fun f hf => h f (List.mem_of_mem_take hf)
  rw [List.length_take] at this; omega
theorem QnF {l : List Ins} (hn : l.length ≤ 40) (h : ∀ f ∈ l, f.Pr) (j : Nat) : (Q1s (l.take j)).length ≤ 40000 := by
  have := QcV (l := l.take j) fun f hf => h f (List.mem_of_mem_take hf)
  rw [List.length_take] at this; omega
theorem x2cs {v1 v2 v3 v4 v5 : Value} {e : Tail} (h1 : intR.sl cx v1 e.yes.regs) (h2 : intR.sl cx v2 e.yes.args) (h3 : intR.sl cx v3 e.no.regs) (h4 : intR.sl cx v4 e.no.args) (h5 : intR.sl cx v5 e.args) :
    endR.at cx [.int .i64 e.op, .int .i64 e.a, .int .i64 e.yes.block, v1, v2, .int .i64 e.no.block, v3, v4, v5] e := ⟨_, _, _, _, _, rfl, h1, h2, h3, h4, h5⟩
theorem funs_ne {l : List Fun} (h : 0 < l.length) : Q1H l ≠ [] := by
  cases l with
  | nil => simp at h
  | cons f l => rw [Q1H, QpE]; unfold Fun.head; simp [Q7N]
theorem whole_c {m : Module} {cs : List Value} (hp : m.Pr) (h0 : 0 < m.funcs.length) (hx : modR.at cx cs m) (hT : PowT cx) (hS : St cx w L) : Rets Tryz.prog Qdp [.agg ⟨cs⟩] w fun u w' => u = strV m.txt ∧ St cx w' L := by
  obtain ⟨vf, rfl, hf⟩ := Q3G hx
  obtain ⟨l⟩ := m
  obtain ⟨hn, hpf⟩ := hp
  simp only at hn hpf h0
  have hf : funcR.sl cx vf l := hf
  have hfl := hf.len
  unfold Module.txt
  all_goals refine Qfi ?_
  all_goals (unfold render_whole_lc; refine Q0 ?_; refine Q1 ?_; refine zb hS ?_; intro p1 w1 hS; refine zm ?_; refine zn ?_; refine Q0 ?_; refine Q1 ?_; refine Qe hS ?_; intro p3 w1 hS; refine zn ?_; refine Q0 ?_; refine Q0 ?_; refine Q1 ?_; refine Q2 rfl ?_; refine zl hS ?_; refine zL ?_; refine zm ?_; refine zn ?_; refine Qa ?_)
  refine zo [3, 11, 12] (fun A ρ' w' => ∃ (j : Nat) (pv v : Value) (t : List UInt8), Has ρ' A ∧ Has ρ' [(13, .int .i64 j)] ∧ (j ≤ l.length) ∧ (pv = .pointer none ∨ pv = .pointer (some ⟨p3, 0, none⟩)) ∧ (t = Q1H (l.take j)) ∧ St cx w' (bldr p3 pv v :: sl 5 1 v ((t : List UInt8).map Q2H) :: blk p1 24 [vf] :: L)) (fun ρ' _ => (l.length - iv (ρ' 13)).toNat) ?_ ?_
  · exact ⟨0, .pointer none, .slice none 0 0, [], zh, zh, (by omega), .inl rfl, by rw [List.take_zero]; rfl, by have hS := hS.nil (T := 5) (es := 1); exact hS.sp⟩
  rintro ρ w1 ⟨j, pv, v, t, hA, hρ, hj, hpv, ht, hS⟩; obtain ⟨ρ, rfl⟩ := env2 hA hρ
  unfold Q6M
  all_goals (refine Q0 ?_; refine Q1 ?_; refine QG rfl rfl ?_; refine zn ?_; refine Q0 ?_)
  refine Qu rfl (fun hc => ?_) (fun hc => ?_)
  · skip
    all_goals (refine zsk ?_; refine Q0 ?_; refine Qa ?_; refine Q0 ?_; refine Q1 ?_; refine zi ?_; intro b1 o1 cs1 x1 hat1 hx1 he1; obtain ⟨vp1, vr1, vb1, rfl, hp1, hr1, hb1⟩ := Q1K he1; (first | (refine zv hS ?_) | (refine zvk hS ?_)); refine Qe hS ?_; intro p5 w1 hS; refine zsn hS ?_; intro w1 hS; have hS := hS.ns; refine zn ?_; refine Q0 ?_; obtain ⟨i1, q1, q2, q3, q4⟩ := hpf _ (List.mem_of_getElem? hx1); have l1 := Q2T i1; have l2 := Q4D q1; have l3 := Q4D q2; have l4 := QnB hn hpf j; rw [← ht] at l4; refine zC [(0, none), (1, none), (5, none), (6, none), (10, none), (11, none), (2, some (some [6, 11])), (3, none), (4, none), (7, some (some [11])), (8, none), (9, none), (12, some (some [])), (13, none), (14, none), (15, some none)] ?_; have hS := hS.drew; refine s_cq ?_; refine Q2 rfl ?_; refine zt ?_; refine s_cq ?_; refine zl hS ?_; refine zt ?_; refine s_cq ?_; refine Q2 rfl ?_; refine zt ?_; refine s_cq ?_; refine zl hS ?_; refine zt ?_; refine s_cq ?_; refine Q2 rfl ?_; refine zt ?_; refine s_cq ?_; refine zl hS ?_)
    all_goals (refine zt ?_; refine Q1e ?_; refine zR1 (c := Q50 (by assumption) hT hS) (h := ?_); rintro v1 w1 ⟨rfl, hS⟩; refine zt ?_; refine zy ?_; refine s_cq ?_; refine QL rfl rfl (by first | omega | (simp only [List.length_append, List.length_cons, List.length_nil]; omega)) ?_; refine zt ?_; refine s_cq ?_; refine QL rfl rfl (by first | omega | (simp only [List.length_append, List.length_cons, List.length_nil]; omega)) ?_; refine zt ?_; refine Q1e ?_; refine zR1 (c := Qmq q1 hp1 hT hS) (h := ?_); rintro v1 w1 ⟨rfl, hS⟩; refine zt ?_; refine zy ?_; refine s_cq ?_; refine QL rfl rfl (by first | omega | (simp only [List.length_append, List.length_cons, List.length_nil]; omega)) ?_; refine zt ?_; refine s_cq ?_; refine QL rfl rfl (by first | omega | (simp only [List.length_append, List.length_cons, List.length_nil]; omega)) ?_; refine zt ?_; refine Q1e ?_; refine zR1 (c := Qmq q2 hr1 hT hS) (h := ?_); rintro v1 w1 ⟨rfl, hS⟩; refine zt ?_; refine zy ?_; refine s_cq ?_; refine QL rfl rfl (by first | omega | (simp only [List.length_append, List.length_cons, List.length_nil]; omega)) ?_; refine zt ?_; refine s_cq ?_; refine QL rfl rfl (by first | omega | (simp only [List.length_append, List.length_cons, List.length_nil]; omega)) ?_; refine zt ?_; refine s_cf ?_; have hS : St cx _ (bldr p3 pv v :: sl 5 1 v ((t : List UInt8).map Q2H) :: blk p5 43 [.int .i64 x1.regs, vp1, vr1, vb1] :: blk p1 24 [vf] :: L) := hS.sp; refine zR2 (c := QbJ hpv (by simp only [List.length_append, List.length_cons, List.length_nil]; omega) hS) (h := ?_); rintro v1 w1 ⟨u1, t6, ht6, rfl, hu1, hS⟩)
    all_goals (refine zt ?_; refine zcn ?_; refine Q0 ?_; refine Q0 ?_; refine Q1 ?_; refine Q2 rfl ?_; refine zl hS ?_; refine zL ?_; refine zm ?_; refine zn ?_; refine Qa ?_; have hbl := hb1.len)
    refine zo [3, 11, 12, 13, 34, 35] (fun A ρ' w' => ∃ (j1 : Nat) (v1 : Value) (t1 : List UInt8), Has ρ' A ∧ Has ρ' [(36, .int .i64 j1)] ∧ (j1 ≤ x1.blocks.length) ∧ (t1 = t ++ (Fun.head x1 ++ QH (x1.blocks.take j1))) ∧ St cx w' (bldr p3 (.pointer (some ⟨p3, 0, none⟩)) v1 :: sl 5 1 v1 ((t1 : List UInt8).map Q2H) :: blk p5 43 [.int .i64 x1.regs, vp1, vr1, vb1] :: blk p1 24 [vf] :: L)) (fun ρ' _ => (x1.blocks.length - iv (ρ' 36)).toNat) ?_ ?_
    · exact ⟨0, u1, t6, zh, zh, (by omega), by rw [List.take_zero, ht6]; unfold Fun.head QH; simp only [Q7N, Q3Q, Q1R, Q9E, tIf, tTo, QbW, tRet, List.append_assoc, List.cons_append, List.nil_append], hS.sp⟩
    rintro ρ w1 ⟨j1, v1, t1, hA, hρ, hj1, ht1, hS⟩; obtain ⟨ρ, rfl⟩ := env2 hA hρ
    unfold Q6L
    all_goals (refine Q0 ?_; refine Q1 ?_; refine QG rfl rfl ?_; refine zn ?_; refine Q0 ?_)
    refine Qu rfl (fun hc => ?_) (fun hc => ?_)
    · skip
      all_goals (refine zsk ?_; refine Q0 ?_; refine Qa ?_; refine Q0 ?_; refine Q1 ?_; refine zi ?_; intro b2 o2 cs2 x2 hat2 hx2 he2; obtain ⟨vp2, vc2, ve21, ve22, ve23, ve24, ve25, rfl, hp2, hc2, he21, he22, he23, he24, he25⟩ := Q1B he2; (first | (refine zv hS ?_) | (refine zvk hS ?_)); refine Qe hS ?_; intro p7 w1 hS; refine zsn hS ?_; intro w1 hS; have hS := hS.ns; refine zn ?_; refine Q0 ?_; obtain ⟨i2, q5, ⟨q6, q7⟩, q8⟩ := q4 _ (List.mem_of_getElem? hx2); have l5 := Q2T i2; have l6 := Q4D q5; have l7 := QiV q3 q4 j1; have l8 := Tail.txt_le q8; have l9 : t1.length ≤ 400000000 := (by rw [ht1]; unfold Fun.head; simp only [List.length_append, List.length_cons, List.length_nil]; omega); refine zC [(0, none), (1, none), (5, none), (6, none), (2, some (some [6])), (3, none), (4, none), (7, some (some [])), (8, none), (9, none), (10, some none)] ?_; have hS := hS.drew; refine s_cq ?_; refine Q2 rfl ?_; refine zt ?_; refine s_cq ?_; refine zl hS ?_; refine zt ?_; refine s_cq ?_; refine Q2 rfl ?_; refine zt ?_; refine s_cq ?_; refine zl hS ?_; refine zt ?_; refine Q1e ?_; refine zR1 (c := Q50 (by assumption) hT hS) (h := ?_); rintro v1 w1 ⟨rfl, hS⟩)
      all_goals (refine zt ?_; refine zy ?_; refine s_cq ?_; refine QL rfl rfl (by first | omega | (simp only [List.length_append, List.length_cons, List.length_nil]; omega)) ?_; refine zt ?_; refine s_cq ?_; refine QL rfl rfl (by first | omega | (simp only [List.length_append, List.length_cons, List.length_nil]; omega)) ?_; refine zt ?_; refine Q1e ?_; refine zR1 (c := Qmq q5 hp2 hT hS) (h := ?_); rintro v2 w1 ⟨rfl, hS⟩; refine zt ?_; refine zy ?_; refine s_cq ?_; refine QL rfl rfl (by first | omega | (simp only [List.length_append, List.length_cons, List.length_nil]; omega)) ?_; refine zt ?_; refine s_cq ?_; refine QL rfl rfl (by first | omega | (simp only [List.length_append, List.length_cons, List.length_nil]; omega)) ?_; refine zt ?_; refine s_cf ?_; have hS : St cx _ (bldr p3 (.pointer (some ⟨p3, 0, none⟩)) v1 :: sl 5 1 v1 ((t1 : List UInt8).map Q2H) :: blk p7 52 [.int .i64 x2.regs, vp2, vc2, .int .i64 x2.fin.op, .int .i64 x2.fin.a, .int .i64 x2.fin.yes.block, ve21, ve22, .int .i64 x2.fin.no.block, ve23, ve24, ve25] :: blk p5 43 [.int .i64 x1.regs, vp1, vr1, vb1] :: blk p1 24 [vf] :: L) := hS.sp; refine zR2 (c := QbJ (.inr rfl) (by simp only [List.length_append, List.length_cons, List.length_nil]; omega) hS) (h := ?_); rintro v2 w1 ⟨u2, t7, ht7, rfl, hu2, hS⟩; refine zt ?_; refine zcn ?_; refine Q0 ?_; refine Q0 ?_; refine Q1 ?_; refine Q2 rfl ?_)
      all_goals (refine zl hS ?_; refine zL ?_; refine zm ?_; refine zn ?_; refine Qa ?_; have hcl := hc2.len)
      refine zo [3, 7, 11, 12, 13, 34, 35, 36, 52, 53] (fun A ρ' w' => ∃ (j2 : Nat) (v2 : Value) (t2 : List UInt8), Has ρ' A ∧ Has ρ' [(54, .int .i64 j2)] ∧ (j2 ≤ x2.code.length) ∧ (t2 = t1 ++ (Block.head x2 ++ Q1s (x2.code.take j2))) ∧ St cx w' (bldr p3 (.pointer (some ⟨p3, 0, none⟩)) v2 :: sl 5 1 v2 ((t2 : List UInt8).map Q2H) :: blk p7 52 [.int .i64 x2.regs, vp2, vc2, .int .i64 x2.fin.op, .int .i64 x2.fin.a, .int .i64 x2.fin.yes.block, ve21, ve22, .int .i64 x2.fin.no.block, ve23, ve24, ve25] :: blk p5 43 [.int .i64 x1.regs, vp1, vr1, vb1] :: blk p1 24 [vf] :: L)) (fun ρ' _ => (x2.code.length - iv (ρ' 54)).toNat) ?_ ?_
      · exact ⟨0, u2, t7, zh, zh, (by omega), by rw [List.take_zero, ht7]; unfold Block.head Q1s; simp only [Q7N, Q3Q, Q1R, Q9E, tIf, tTo, QbW, tRet, List.append_assoc, List.cons_append, List.nil_append], hS.sp⟩
      rintro ρ w1 ⟨j2, v2, t2, hA, hρ, hj2, ht2, hS⟩; obtain ⟨ρ, rfl⟩ := env2 hA hρ
      unfold Q5z
      all_goals (refine Q0 ?_; refine Q1 ?_; refine QG rfl rfl ?_; refine zn ?_; refine Q0 ?_)
      refine Qu rfl (fun hc => ?_) (fun hc => ?_)
      · skip
        all_goals (refine zsk ?_; refine Q0 ?_; refine Qa ?_; refine Q0 ?_; refine Q1 ?_; refine zi ?_; intro b3 o3 cs3 x3 hat3 hx3 he3; obtain ⟨vr3, va3, rfl, hr3, ha3⟩ := Q2p he3; (first | (refine zv hS ?_) | (refine zvk hS ?_)); refine Qe hS ?_; intro p9 w1 hS; refine zsn hS ?_; intro w1 hS; have hS := hS.ns; refine zn ?_; have q9 := q7 _ (List.mem_of_getElem? hx3); have l10 := Ins.txt_le q9; have l11 := QnF q6 q7 j2; have l12 : t2.length ≤ 500000000 := (by rw [ht2]; unfold Block.head; simp only [List.length_append, List.length_cons, List.length_nil]; omega); refine Q1 ?_; refine zv hS ?_; refine zR1 (c := ins_txt q9 he3 hT hS) (h := ?_); rintro v3 w1 ⟨rfl, hS⟩; refine QL rfl rfl (by first | omega | (simp only [List.length_append, List.length_cons, List.length_nil]; omega)) ?_; refine QL rfl rfl (by first | omega | (simp only [List.length_append, List.length_cons, List.length_nil]; omega)) ?_; have hS : St cx _ (bldr p3 (.pointer (some ⟨p3, 0, none⟩)) v2 :: sl 5 1 v2 ((t2 : List UInt8).map Q2H) :: blk p9 54 [.int .i64 x3.op, .int .i64 x3.a, .int .i64 x3.b, .int .i64 x3.c, .int .i64 x3.k, .int .i64 x3.n, vr3, va3] :: blk p7 52 [.int .i64 x2.regs, vp2, vc2, .int .i64 x2.fin.op, .int .i64 x2.fin.a, .int .i64 x2.fin.yes.block, ve21, ve22, .int .i64 x2.fin.no.block, ve23, ve24, ve25] :: blk p5 43 [.int .i64 x1.regs, vp1, vr1, vb1] :: blk p1 24 [vf] :: L) := hS.sp; refine zR2 (c := QbJ (.inr rfl) (by simp only [List.length_append, List.length_cons, List.length_nil]; omega) hS) (h := ?_); rintro v3 w1 ⟨u3, t8, ht8, rfl, hu3, hS⟩)
        all_goals (refine zn ?_; refine Q1 ?_; refine zad ?_; refine zm ?_; refine zn ?_; exact ⟨⟨j2 + 1, u3, t8, zh, zh, (by omega), by rw [ht8, code_s hx3, ht2]; simp only [Q7N, Q3Q, Q1R, Q9E, tIf, tTo, QbW, tRet, List.append_assoc, List.cons_append, List.nil_append], hS.sp⟩, Qz (by omega)⟩)
      · skip
        all_goals (refine zex ?_; have l11 := QnF q6 q7 j2; have l12 : t2.length ≤ 500000000 := (by rw [ht2]; unfold Block.head; simp only [List.length_append, List.length_cons, List.length_nil]; omega); refine Q1 ?_; refine Q2 rfl ?_; refine zv hS ?_; refine zR1 (c := end_txt q8 (x2cs he21 he22 he23 he24 he25) hT hS) (h := ?_); rintro v3 w1 ⟨rfl, hS⟩; refine QL rfl rfl (by first | omega | (simp only [List.length_append, List.length_cons, List.length_nil]; omega)) ?_; refine QL rfl rfl (by first | omega | (simp only [List.length_append, List.length_cons, List.length_nil]; omega)) ?_; have hS : St cx _ (bldr p3 (.pointer (some ⟨p3, 0, none⟩)) v2 :: sl 5 1 v2 ((t2 : List UInt8).map Q2H) :: blk p7 52 [.int .i64 x2.regs, vp2, vc2, .int .i64 x2.fin.op, .int .i64 x2.fin.a, .int .i64 x2.fin.yes.block, ve21, ve22, .int .i64 x2.fin.no.block, ve23, ve24, ve25] :: blk p5 43 [.int .i64 x1.regs, vp1, vr1, vb1] :: blk p1 24 [vf] :: L) := hS.sp; refine zR2 (c := QbJ (.inr rfl) (by simp only [List.length_append, List.length_cons, List.length_nil]; omega) hS) (h := ?_); rintro v3 w1 ⟨u3, t8, ht8, rfl, hu3, hS⟩; refine zn ?_; refine Q1 ?_; refine zad ?_; refine zm ?_; refine zn ?_; exact ⟨⟨j1 + 1, u3, t8, zh, zh, (by omega), by rw [ht8, blocks_s hx2, QpQ, ht2, ht1, List.take_of_length_le (l := x2.code) (by omega)]; simp only [Q7N, Q3Q, Q1R, Q9E, tIf, tTo, QbW, tRet, List.append_assoc, List.cons_append, List.nil_append], hS.sp⟩, Qz (by omega)⟩)
    · skip
      all_goals (refine zex ?_; have l7 := QiV q3 q4 j1; have l9 : t1.length ≤ 400000000 := (by rw [ht1]; unfold Fun.head; simp only [List.length_append, List.length_cons, List.length_nil]; omega); refine Q1 ?_; have hS : St cx _ (bldr p3 (.pointer (some ⟨p3, 0, none⟩)) v1 :: sl 5 1 v1 ((t1 : List UInt8).map Q2H) :: blk p5 43 [.int .i64 x1.regs, vp1, vr1, vb1] :: blk p1 24 [vf] :: L) := hS.sp; refine zR2 (c := QbJ (s := [125, 10]) (.inr rfl) (by show _ + 2 ≤ _; omega) hS) (h := ?_); rintro v3 w1 ⟨u3, t8, ht8, rfl, hu3, hS⟩; refine zn ?_; refine Q1 ?_; refine zad ?_; refine zm ?_; refine zn ?_; exact ⟨⟨j + 1, _, u3, t8, zh, zh, (by omega), .inr rfl, by rw [ht8, funs_s hx1, QpE, ht1, ht, List.take_of_length_le (l := x1.blocks) (by omega)]; simp only [Q7N, Q3Q, Q1R, Q9E, tIf, tTo, QbW, tRet, List.append_assoc, List.cons_append, List.nil_append], hS.sp⟩, Qz (by omega)⟩)
  · skip
    all_goals (refine zex ?_; refine Q0 ?_; have l4 := QnB hn hpf j; rw [List.take_of_length_le (by omega)] at ht l4; have hne : t ≠ [] := (by rw [ht]; exact funs_ne h0); refine Q1 ?_; refine zR1 (c := QpP hne (by rw [ht]; omega) hS) (h := ?_); rintro v3 w1 ⟨rfl, hS⟩; refine zm ?_; refine zn ?_; refine zr ?_; refine zf ?_; refine ⟨_, rfl, ?_, hS.sp⟩; rw [ht]; done)
end Go.Proofs.YtjecflbbcnocdaaGreatDoor
namespace Go.Proofs.YtjecflbbcnocdaaGreatDoor
open Go.Lir
set_option maxHeartbeats 1000000
attribute [local irreducible] LC.wp Q3 Qt QA retQ Q1m LO.wp Qm Calls
set_option linter.unusedSimpArgs false
set_option linter.unusedVariables false
attribute [local irreducible] Lib.itoa Lib.join Q39 Q1P Ins.txt Tail.txt To.txt
variable {cx : Cx} {w : World} {L : List Res}
end Go.Proofs.YtjecflbbcnocdaaGreatDoor
namespace Go.Proofs.YtjecflbbcnocdaaGreatDoor
open Go.Lir
set_option maxHeartbeats 1000000
attribute [local irreducible] LC.wp Q3 Qt QA retQ Q1m LO.wp Qm Calls
set_option linter.unusedSimpArgs false
set_option linter.unusedVariables false
attribute [local irreducible] orF mkF orC Q2u Q1Q Q1J Q2y QC Q2Z Q5w Q45 Q4C Qn4 QpW
variable {cx : Cx} {w : World} {L : List Res} {i : Nat}
theorem fault_if (c : Int) : (if decide (c ≠ 0) = true then c else 0) = c := by by_cases h : c = 0 <;> simp [h]
theorem QmD {l : List Ty} {regs : Int} {v vf : Value} {g : Flt} {at' : Int} {b : Nat} (hl : tyR.sl cx v l) (hS : St cx w L) (hi : nth L i = some (jdg b vf g at')) :
    Rets Tryz.prog Q7v [.pointer (some ⟨b, 0, none⟩), v, .int .i64 regs] w fun u w' => u = .tuple #[] ∧ St cx w' (L.set i (jdg b vf (orF g (mkF (QC l regs) at')) at')) := by
  have hS := hS.out hi
  have hlen := hl.len
  have e0 : orF g (mkF (QC l regs) at') = orF g (mkF (orC (if 8 < l.length then 2 else 0) (Q58 regs l)) at') := by
    congr 2
    unfold QC
    split
    · rw [Qcr (by decide)]
    · rw [Qah]
  rw [e0]
  all_goals refine Qbv ?_
  all_goals (unfold code_judge_list_lc)
  refine zM [0, 1, 2] (fun A ρ' w' => Has ρ' A ∧ Has ρ' [] ∧ St cx w' (jdg b vf (orF g (mkF (if 8 < l.length then 2 else 0) at')) at' :: L.eraseIdx i)) ?_ ?_
  · skip
    all_goals (refine Q1 ?_; refine zm ?_; refine zm ?_; refine zL ?_)
    all_goals (first | (refine QW ?_) | (refine Q1g ?_) | (refine Qr rfl rfl (fun hc => ?_) (fun hc => ?_)))
    all_goals (refine zR3 (c := Q24 (by intro _; decide) hS fd) (h := ?_); rintro v1 w1 ⟨rfl, hS⟩; simp only [List.set_cons_zero, List.set_cons_succ, if_true, Bool.false_eq_true, if_false] at hS; refine zn ?_; exact ⟨zh, zh, by first | (rw [if_pos (by omega)]; exact hS.sp) | (rw [if_neg (by omega)]; exact hS.sp)⟩)
  rintro ρ w1 ⟨hA, hρ, hS⟩; obtain ⟨ρ, rfl⟩ := env2 hA hρ
  all_goals (refine Q0 ?_; refine Q1 ?_; refine zm ?_; refine zL ?_; refine zm ?_; refine zn ?_; refine Qa ?_)
  refine zo [0, 2, 14, 15] (fun A ρ' w' => ∃ (j : Nat) (h : Flt), Has ρ' A ∧ Has ρ' [(16, .int .i64 j)] ∧ (j ≤ l.length) ∧ (orF g (mkF (orC (if 8 < l.length then 2 else 0) (Q58 regs l)) at') = orF h (mkF (Q58 regs (l.drop j)) at')) ∧ St cx w' (jdg b vf h at' :: L.eraseIdx i)) (fun ρ' _ => (l.length - iv (ρ' 16)).toNat) ?_ ?_
  · exact ⟨0, _, zh, zh, (by omega), by rw [List.drop_zero, Q2R], hS.sp⟩
  rintro ρ w1 ⟨j, h, hA, hρ, hj, hd, hS⟩; obtain ⟨ρ, rfl⟩ := env2 hA hρ
  unfold Q4i
  all_goals (refine Q0 ?_; refine Q1 ?_; refine QG rfl rfl ?_; refine zn ?_; refine Q0 ?_)
  refine Qu rfl (fun hc => ?_) (fun hc => ?_)
  · skip
    all_goals (refine zsk ?_; refine Q0 ?_; refine Qa ?_; refine Q0 ?_; refine Q1 ?_; refine zi ?_; intro b1 o1 cs1 x1 hat1 hx1 he1; obtain ⟨vl1, rfl, hl1⟩ := QV he1; (first | (refine zv hS ?_) | (refine zvk hS ?_)); refine Qe hS ?_; intro p7 w1 hS; refine zsn hS ?_; intro w1 hS; have hS := hS.ns; refine zn ?_; refine Q0 ?_; refine Q1 ?_; refine zv hS ?_; refine zm ?_; refine zR2 (c := tcheck_c (by assumption) hS) (h := ?_); rintro v1 w1 ⟨rfl, hS⟩; refine zm ?_; refine zn ?_; refine Q1 ?_; refine zm ?_; refine zm ?_; refine QbZ rfl rfl ?_; refine zm ?_; refine zR3 (c := Q24 (by intro h; exact of_decide_eq_true h) hS fd) (h := ?_); rintro v1 w1 ⟨rfl, hS⟩; simp only [List.set_cons_zero, List.set_cons_succ, fault_if] at hS; refine zn ?_; refine Q1 ?_; refine zad ?_; refine zm ?_; refine zn ?_; exact ⟨⟨j + 1, _, zh, zh, (by omega), by rw [hd, Q7 hx1, Q58, ← Q2R], hS.sp⟩, Qz (by omega)⟩)
  · skip
    all_goals (refine zex ?_; refine Q3W ?_; refine ⟨_, rfl, rfl, ?_⟩; rw [hd, List.drop_of_length_le (by omega), Q58, mkF_0, Qo0 rfl]; exact St.back hS hi)
def fltV (g : Flt) : Value := .agg ⟨[.int .i64 g.1, .int .i64 g.2]⟩
theorem kindne_c {t : Ty} {cs : List Value} (ht : tyR.at cx cs t) (hS : St cx w L) : Rets Tryz.prog Q4j [.agg ⟨cs⟩] w fun u w' => u = .bool (decide (t.kind ≠ 1)) ∧ St cx w' L := by
  obtain ⟨v, rfl, hl⟩ := QV ht
  all_goals refine Qg5 ?_
  all_goals (unfold code_Check_1_lc; refine Q0 ?_; refine Q1 ?_; refine zb hS ?_; intro p1 w1 hS; refine zm ?_; refine zn ?_; refine Q0 ?_; refine Q1 ?_; refine Q2 rfl ?_; refine zl hS ?_; refine QbZ rfl rfl ?_; refine zm ?_; refine zn ?_; refine zr ?_; refine zf ?_; refine ⟨_, rfl, ?_, hS.sp⟩; (rfl); done)
theorem pcont_c {l : List Ty} {v : Value} (hl : tyR.sl cx v l) (hS : St cx w L) : Rets Tryz.prog Q1d [v, .func (.func Q4j) #[] #[]] w fun u w' => ∃ q, u = .bool q ∧ (q = true ↔ ∃ t ∈ l, t.kind ≠ 1) ∧ St cx w' L := by
  have hlen := hl.len
  have hidx : ∀ {w : World} {L : List Res}, St cx w L → Rets Tryz.prog Qy [v, .func (.func Q4j) #[] #[]] w fun u w' => ∃ r : Int, u = .int .i64 r ∧ (0 ≤ r ↔ ∃ t ∈ l, t.kind ≠ 1) ∧ St cx w' L := by
    intro w L hS
    all_goals refine Q2d ?_
    all_goals (unfold slices_IndexFunc_api_Type_api_Type_lc; refine Q0 ?_; refine Q1 ?_; refine zm ?_; refine zn ?_; refine Q0 ?_; refine Q0 ?_; refine Q1 ?_; refine zm ?_; refine zL ?_; refine zm ?_; refine zn ?_; refine Qa ?_)
    refine zoL hS [0, 1, 7] (fun A LL ρ' w' => ∃ (j : Nat), Has ρ' A ∧ Has ρ' [(8, .int .i64 j)] ∧ (j ≤ l.length) ∧ (∀ t ∈ l.take j, t.kind = 1) ∧ St cx w' (LL)) (fun ρ' _ => (l.length - iv (ρ' 8)).toNat) ?_ ?_
    · exact ⟨0, zh, zh, (by omega), by simp, hS.sp⟩
    rintro ρ w1 ⟨j, hA, hρ, hj, hd, hS⟩; obtain ⟨ρ, rfl⟩ := env2 hA hρ
    unfold Q1c
    all_goals (refine Q0 ?_; refine Q1 ?_; refine QG rfl rfl ?_; refine zn ?_; refine Q0 ?_)
    refine Qu rfl (fun hc => ?_) (fun hc => ?_)
    · skip
      all_goals (refine zsk ?_; refine Q0 ?_; refine Qa ?_; refine Q0 ?_; refine Q1 ?_; refine zm ?_; refine zm ?_; refine zn ?_; refine Q0 ?_; refine Q1 ?_; refine zm ?_; refine zm ?_; refine zm ?_; refine zi ?_; intro b1 o1 cs1 x1 hat1 hx1 he1; obtain ⟨vl1, rfl, hl1⟩ := QV he1; (first | (refine zv hS ?_) | (refine zvk hS ?_)))
      all_goals (refine QoE rfl (by kernel_rfl) (by rfl) (kindne_c he1 hS) ?_; rintro v1 w1 ⟨rfl, hS⟩; (cases hdec : decide (x1.kind ≠ 1)); have hg := of_decide_eq_false hdec; rotate_left; have hg := of_decide_eq_true hdec; all_goals skip)
      all_goals (refine zn ?_)
      all_goals
        first
        | (refine Q6 rfl ?_ -- Qy c1
           all_goals (refine Q0 ?_; refine Q1 ?_; refine zm ?_; refine zm ?_; refine zn ?_; refine zr ?_; refine zf ?_)
           all_goals (exact ⟨_, rfl, j, rfl, ⟨fun _ => ⟨x1, List.mem_of_getElem? hx1, hg⟩, fun _ => by omega⟩, hS.sp⟩))
        | (refine Q5 rfl ?_ -- Qy c1
           all_goals refine zsk ?_)
      all_goals (refine Q1 ?_; refine zad ?_; refine zm ?_; refine zn ?_; exact ⟨⟨j + 1, zh, zh, (by omega), QbM hd hx1 (Classical.not_not.1 hg), hS.sp⟩, Qz (by omega)⟩)
    · skip
      all_goals (refine zex ?_; refine Q0 ?_; refine Q1 ?_; refine zm ?_; refine zn ?_; refine zr ?_; refine zf ?_)
      all_goals (first | (exact ⟨_, rfl, j, rfl, ⟨fun _ => ⟨x1, List.mem_of_getElem? hx1, hg⟩, fun _ => by omega⟩, hS.sp⟩) | (exact ⟨_, rfl, -1, rfl, ⟨fun h => by omega, fun ⟨t, ht, hk⟩ => absurd (Qez hd (by omega) t ht) hk⟩, hS.sp⟩))
  all_goals refine Q1W ?_
  all_goals (unfold slices_ContainsFunc_api_Type_api_Type_lc; refine Q0 ?_; refine Q1 ?_; refine zm ?_; refine zn ?_; refine Q0 ?_; refine Q1 ?_; refine zm ?_; refine zm ?_; refine zR2 (c := hidx hS) (h := ?_); rintro v1 w1 ⟨r, rfl, hr, hS⟩)
  all_goals (first | (refine Qdy ?_) | (refine Qdz ?_) | (refine Q3p rfl rfl (fun hc => ?_) (fun hc => ?_)))
  all_goals (refine zm ?_; refine zn ?_; refine zr ?_; refine zf ?_)
  all_goals (first | (exact ⟨_, rfl, _, rfl, ⟨fun _ => hr.1 (by omega), fun _ => rfl⟩, hS.sp⟩) | (exact ⟨_, rfl, _, rfl, ⟨fun h => Bool.noConfusion h, fun h => by have := hr.2 h; omega⟩, hS.sp⟩))
theorem QpU {g : Flt} {a : Int} {x : Fun} {b : Nat} {y : Block} {q : Bool} (hq : q = true ↔ (b = 0 ∧ (y.regs ≠ x.regs ∨ y.params ≠ x.params))) :
    orF (orF (orF (orF g (mkF (if y.regs < x.regs ∨ 16 < y.regs then 1 else 0) a)) (mkF (QC y.params y.regs) a)) (mkF (if q = true then 9 else 0) a)) (mkF (if 40 < y.code.length then 2 else 0) a) = orF g (mkF (Q2Z x b y) a) := by
  rw [Q2R, Q2R, Q2R]
  congr 2
  unfold Q2Z
  by_cases h0 : y.regs < x.regs ∨ 16 < y.regs
  · rw [if_pos h0, if_pos h0]; simp only [Qcr (show (1 : Int) ≠ 0 by decide)]
  · rw [if_neg h0, if_neg h0, Qah]
    by_cases h : QC y.params y.regs ≠ 0
    · rw [if_pos h]; simp only [Qcr h]
    · rw [if_neg h, Classical.not_not.1 h, Qah]
      by_cases hb : b = 0 ∧ (y.regs ≠ x.regs ∨ y.params ≠ x.params)
      · rw [if_pos hb, if_pos (hq.2 hb)]; simp only [Qcr (show (9 : Int) ≠ 0 by decide)]
      · rw [if_neg hb, if_neg (fun h => hb (hq.1 h)), Qah]
theorem pblock_c {fs : List Fun} {f b : Nat} {x : Fun} {y : Block} {vf : Value} {g : Flt} {a : Int} {p : Nat} (hxf : fs[f]? = some x) (hyb : x.blocks[b]? = some y) (hf0 : f ≤ 1000000) (hb0 : b ≤ 1000000) (hlc : y.code.length ≤ 100000) (hf : funcR.sl cx vf fs) (hS : St cx w L) (hi : nth L i = some (jdg p vf g a)) :
    Rets Tryz.prog Q2q [.pointer (some ⟨p, 0, none⟩), .int .i64 f, .int .i64 b] w fun u w' => u = .tuple #[] ∧ ∃ a', St cx w' (L.set i (jdg p vf (orF g (Q54 fs.length f x b y)) a')) := by
  have hflt := (List.getElem?_eq_some_iff.1 hxf).1
  have hblt := (List.getElem?_eq_some_iff.1 hyb).1
  have hS := hS.out hi
  all_goals refine Qaw ?_
  all_goals (unfold code_judge_block_lc; refine Q0 ?_; refine Q1 ?_; refine zm ?_; refine Qh rfl ?_; refine Q2 rfl ?_; refine Q2 rfl ?_; refine zl hS ?_; refine zm ?_; refine zi ?_; intro b1 o1 cs1 x1 hat1 hx1 he1; obtain ⟨vp1, vr1, vb1, rfl, hp1, hr1, hb1⟩ := Q1K he1; (first | (refine zv hS ?_) | (refine zvk hS ?_)); refine Qe hS ?_; intro p6 w1 hS; refine zsn hS ?_; intro w1 hS; have hS := hS.ns; refine zn ?_; have e1 : x = x1 := Option.some.inj (hxf.symm.trans hx1); subst e1; refine Q0 ?_; refine Q1 ?_; refine Q2 rfl ?_; refine zl hS ?_; refine zm ?_; refine zi ?_; intro b2 o2 cs2 x2 hat2 hx2 he2; obtain ⟨vp2, vc2, ve21, ve22, ve23, ve24, ve25, rfl, hp2, hc2, he21, he22, he23, he24, he25⟩ := Q1B he2; (first | (refine zv hS ?_) | (refine zvk hS ?_)); refine Qe hS ?_; intro p7 w1 hS; refine zsn hS ?_; intro w1 hS; have hS := hS.ns; refine zn ?_; have e2 : y = x2 := Option.some.inj (hyb.symm.trans hx2); subst e2)
  refine zM [0, 1, 2, 6, 7] (fun A ρ' w' => Has ρ' A ∧ Has ρ' [] ∧ St cx w' (blk p7 52 [.int .i64 y.regs, vp2, vc2, .int .i64 y.fin.op, .int .i64 y.fin.a, .int .i64 y.fin.yes.block, ve21, ve22, .int .i64 y.fin.no.block, ve23, ve24, ve25] :: blk p6 43 [.int .i64 x.regs, vp1, vr1, vb1] :: jdg p vf g (Q4C f b) :: L.eraseIdx i)) ?_ ?_
  · skip
    all_goals (refine Q1 ?_; refine zm ?_; refine zm ?_; refine zm ?_; refine zR2 (c := QnZ f b hf0 hb0 hS) (h := ?_); rintro v1 w1 ⟨rfl, hS⟩; refine Qh rfl ?_; refine Q2 rfl ?_; refine zst hS ?_; intro w1 hS; have hS := hS.ns; refine zn ?_; exact ⟨zh, zh, hS.sp⟩)
  rintro ρ w1 ⟨hA, hρ, hS⟩; obtain ⟨ρ, rfl⟩ := env2 hA hρ
  refine zM [0, 1, 2, 6, 7] (fun A ρ' w' => Has ρ' A ∧ Has ρ' [] ∧ St cx w' (blk p7 52 [.int .i64 y.regs, vp2, vc2, .int .i64 y.fin.op, .int .i64 y.fin.a, .int .i64 y.fin.yes.block, ve21, ve22, .int .i64 y.fin.no.block, ve23, ve24, ve25] :: blk p6 43 [.int .i64 x.regs, vp1, vr1, vb1] :: jdg p vf (orF g (mkF (if y.regs < x.regs ∨ 16 < y.regs then 1 else 0) (Q4C f b))) (Q4C f b) :: L.eraseIdx i)) ?_ ?_
  · skip
    all_goals (refine Q1 ?_; refine zm ?_; refine Q2 rfl ?_; refine zl hS ?_; refine Q2 rfl ?_; refine zl hS ?_)
    all_goals (first | (refine Q3i ?_) | (refine Q3j ?_) | (refine Q1w rfl rfl (fun hc => ?_) (fun hc => ?_)))
    all_goals (refine zm ?_; (first | refine s_gn rfl rfl ?_ | (refine s_gy rfl ?_; refine Q2 rfl ?_)); (first | refine s_gn rfl rfl ?_ | (refine s_gy rfl ?_; refine zl hS ?_)))
    all_goals (first | refine s_gn rfl rfl ?_ | (refine s_gy rfl ?_; (first | (refine QW ?_) | (refine Q1g ?_) | (refine Qr rfl rfl (fun hc => ?_) (fun hc => ?_)))))
    all_goals ((first | (refine zpt ?_) | (refine zpf ?_)); refine zR3 (c := Q24 (g := _) (by intro _; decide) hS fd) (h := ?_); rintro v1 w1 ⟨rfl, hS⟩; simp only [List.set_cons_zero, List.set_cons_succ, if_true, Bool.false_eq_true, if_false] at hS; refine zn ?_; exact ⟨zh, zh, by first | (rw [if_pos (by omega)]; exact hS.sp) | (rw [if_neg (by omega)]; exact hS.sp)⟩)
  rintro ρ w1 ⟨hA, hρ, hS⟩; obtain ⟨ρ, rfl⟩ := env2 hA hρ
  all_goals (refine Q0 ?_; refine Q1 ?_; refine zm ?_; refine Q2 rfl ?_; refine zl hS ?_; refine Q2 rfl ?_; refine zl hS ?_; refine zR3 (c := QmD hp2 hS fd) (h := ?_); rintro v1 w1 ⟨rfl, hS⟩; have hS := hS.ns; refine zn ?_; refine Q0 ?_; refine Q1 ?_)
  refine zKL hS 18 [0, 1, 2, 6, 7] (fun A LL ρ' w' => ∃ (q : Bool), Has ρ' A ∧ Has ρ' [(46, .pointer (some ⟨p, 0, none⟩)), (63, .bool q)] ∧ (q = true ↔ (b = 0 ∧ (y.regs ≠ x.regs ∨ y.params ≠ x.params))) ∧ St cx w' (LL)) ?_ ?_
  · skip
    all_goals (refine zm ?_; refine zm ?_)
    all_goals (first | (refine QB ?_) | (refine QF ?_) | (refine Qf rfl rfl (fun hc => ?_) (fun hc => ?_)))
    all_goals (refine zm ?_; (first | refine s_gn rfl rfl ?_ | (refine s_gy rfl ?_; refine Q2 rfl ?_)); (first | refine s_gn rfl rfl ?_ | (refine s_gy rfl ?_; refine zl hS ?_)); (first | refine s_gn rfl rfl ?_ | (refine s_gy rfl ?_; refine Q2 rfl ?_)); (first | refine s_gn rfl rfl ?_ | (refine s_gy rfl ?_; refine zl hS ?_)))
    all_goals (first | refine s_gn rfl rfl ?_ | (refine s_gy rfl ?_; (first | (refine Q2L ?_) | (refine Q2M ?_) | (refine Q1a rfl rfl (fun hc => ?_) (fun hc => ?_)))))
    all_goals ((first | refine s_gn rfl rfl ?_ | (refine s_gy rfl ?_; refine zm ?_)); (first | refine s_gn rfl rfl ?_ | (refine s_gy rfl ?_; refine Q2 rfl ?_)); (first | refine s_gn rfl rfl ?_ | (refine s_gy rfl ?_; refine zl hS ?_)); (first | refine s_gn rfl rfl ?_ | (refine s_gy rfl ?_; refine Q2 rfl ?_)); (first | refine s_gn rfl rfl ?_ | (refine s_gy rfl ?_; refine zl hS ?_)))
    all_goals (first | refine s_gn rfl rfl ?_ | (refine s_gy rfl ?_; refine zR3 (c := eqfT_c (by kernel_rfl) (fun a _ b _ {_ _ _ _} h1 h2 h3 => psame_c a b h1 h2 h3) hp2 hp1 hS) (h := ?_); rintro v1 w1 ⟨rfl, hS⟩; (cases hdec : decide (y.params = x.params)); have hg := of_decide_eq_false hdec; rotate_left; have hg := of_decide_eq_true hdec; all_goals skip))
    all_goals ((first | refine s_gn rfl rfl ?_ | (refine s_gy rfl ?_; refine Q2e rfl ?_)); (first | refine s_gn rfl rfl ?_ | (refine s_gy rfl ?_; (first | (refine zpt ?_) | (refine zpf ?_)))); (first | (refine zpt ?_) | (refine zpf ?_)); refine Qf1 ?_; refine Q3R ?_)
    all_goals (first | (exact ⟨_, zh, zh, by exact ⟨fun _ => ⟨by omega, .inl (by assumption)⟩, fun _ => rfl⟩, hS.sp⟩) | (exact ⟨_, zh, zh, by exact ⟨fun _ => ⟨by omega, .inr (by assumption)⟩, fun _ => rfl⟩, hS.sp⟩) | (exact ⟨_, zh, zh, by exact ⟨fun h => Bool.noConfusion h, fun h => absurd h.1 (by omega)⟩, hS.sp⟩) | (exact ⟨_, zh, zh, by exact ⟨fun h => Bool.noConfusion h, fun h => h.2.elim (fun h => absurd h (by assumption)) (fun h => absurd (by assumption) h)⟩, hS.sp⟩))
  rintro ρ w1 ⟨q, hA, hρ, hq, hS⟩; obtain ⟨ρ, rfl⟩ := env2 hA hρ
  all_goals (refine zR3 (c := Q24 (g := _) (by intro _; decide) hS fd) (h := ?_); rintro v1 w1 ⟨rfl, hS⟩; simp only [List.set_cons_zero, List.set_cons_succ, if_true, Bool.false_eq_true, if_false] at hS; refine zn ?_)
  refine zM [0, 1, 2, 6, 7] (fun A ρ' w' => Has ρ' A ∧ Has ρ' [] ∧ St cx w' (blk p7 52 [.int .i64 y.regs, vp2, vc2, .int .i64 y.fin.op, .int .i64 y.fin.a, .int .i64 y.fin.yes.block, ve21, ve22, .int .i64 y.fin.no.block, ve23, ve24, ve25] :: blk p6 43 [.int .i64 x.regs, vp1, vr1, vb1] :: jdg p vf (orF g (mkF (Q2Z x b y) (Q4C f b))) (Q4C f b) :: L.eraseIdx i)) ?_ ?_
  · skip
    all_goals (refine Q1 ?_; refine zm ?_; refine Q2 rfl ?_; refine zl hS ?_; refine zL ?_)
    all_goals (first | (refine QW ?_) | (refine Q1g ?_) | (refine Qr rfl rfl (fun hc => ?_) (fun hc => ?_)))
    all_goals (refine zR3 (c := Q24 (g := _) (by intro _; decide) hS fd) (h := ?_); rintro v1 w1 ⟨rfl, hS⟩; simp only [List.set_cons_zero, List.set_cons_succ, if_true, Bool.false_eq_true, if_false] at hS; refine zn ?_; exact ⟨zh, zh, by rw [← QpU hq]; first | (rw [if_pos (c := 40 < y.code.length) (by omega)]; exact hS.sp) | (rw [if_neg (c := 40 < y.code.length) (by omega)]; exact hS.sp)⟩)
  rintro ρ w1 ⟨hA, hρ, hS⟩; obtain ⟨ρ, rfl⟩ := env2 hA hρ
  all_goals (refine Q0 ?_; refine Q0 ?_; refine Q1 ?_; refine zm ?_; refine zn ?_; refine Qa ?_)
  refine zo [0, 1, 2, 6, 7] (fun A ρ' w' => ∃ (j : Nat) (h : Flt) (at2 : Int), Has ρ' A ∧ Has ρ' [(8, .int .i64 j)] ∧ (j ≤ y.code.length) ∧ (orF (orF g (mkF (Q2Z x b y) (Q4C f b))) (Q3h fs.length f b 0 y.code) = orF h (Q3h fs.length f b j (y.code.drop j))) ∧ St cx w' (blk p7 52 [.int .i64 y.regs, vp2, vc2, .int .i64 y.fin.op, .int .i64 y.fin.a, .int .i64 y.fin.yes.block, ve21, ve22, .int .i64 y.fin.no.block, ve23, ve24, ve25] :: blk p6 43 [.int .i64 x.regs, vp1, vr1, vb1] :: jdg p vf h at2 :: L.eraseIdx i)) (fun ρ' _ => (y.code.length - iv (ρ' 8)).toNat) ?_ ?_
  · exact ⟨0, _, _, zh, zh, (by omega), by rw [List.drop_zero], hS.sp⟩
  rintro ρ w1 ⟨j, h, at2, hA, hρ, hj, hd, hS⟩; obtain ⟨ρ, rfl⟩ := env2 hA hρ
  unfold Q44
  all_goals (refine Q0 ?_; refine Q0 ?_; refine Q1 ?_; refine zm ?_; refine Q2 rfl ?_; refine zl hS ?_; refine zL ?_)
  all_goals (first | (refine Q3i ?_) | (refine Q3j ?_) | (refine Q1w rfl rfl (fun hc => ?_) (fun hc => ?_)))
  all_goals (refine zm ?_; (first | refine s_gn rfl rfl ?_ | (refine s_gy rfl ?_; refine zm ?_)); (first | refine s_gn rfl rfl ?_ | (refine s_gy rfl ?_; refine Qh rfl ?_)); (first | refine s_gn rfl rfl ?_ | (refine s_gy rfl ?_; refine Q2 rfl ?_)); (first | refine s_gn rfl rfl ?_ | (refine s_gy rfl ?_; (first | refine Q2 rfl ?_ | refine Q1p rfl ?_))); (first | refine s_gn rfl rfl ?_ | (refine s_gy rfl ?_; refine zl hS ?_)))
  all_goals (first | refine s_gn rfl rfl ?_ | (refine s_gy rfl ?_; (first | (refine QB ?_) | (refine QF ?_) | (refine Qf rfl rfl (fun hc => ?_) (fun hc => ?_)))))
  all_goals ((first | (refine zpt ?_) | (refine zpf ?_)); refine zn ?_)
  all_goals
    first
    | (refine Q6 rfl ?_ -- Q2q c0
       all_goals (refine zsk ?_; refine Q0 ?_; refine Qa ?_; refine Q0 ?_; refine Q1 ?_; refine zm ?_; refine zm ?_; refine zm ?_; refine zm ?_; refine zR3 (c := pInsAt_c f b j hf0 hb0 (by omega) hS) (h := ?_); rintro v1 w1 ⟨rfl, hS⟩; refine Qh rfl ?_; refine Q2 rfl ?_; refine zst hS ?_; intro w1 hS; have hS := hS.ns; refine zn ?_; have hS : St cx _ (blk p7 52 [.int .i64 y.regs, vp2, vc2, .int .i64 y.fin.op, .int .i64 y.fin.a, .int .i64 y.fin.yes.block, ve21, ve22, .int .i64 y.fin.no.block, ve23, ve24, ve25] :: blk p6 43 [.int .i64 x.regs, vp1, vr1, vb1] :: jdg p vf h (QpW f b j) :: L.eraseIdx i) := hS; refine Q1 ?_; refine zm ?_; refine Q2 rfl ?_; refine zl hS ?_; refine zm ?_; refine zi ?_; intro b3 o3 cs3 x3 hat3 hx3 he3; obtain ⟨vr3, va3, rfl, hr3, ha3⟩ := Q2p he3; (first | (refine zv hS ?_) | (refine zvk hS ?_)); refine zR2 (c := ins_c he3 hf hS fd) (h := ?_); rintro v1 w1 ⟨rfl, hS⟩; have hS := hS.ns; refine zn ?_; refine Q1 ?_; refine zm ?_; refine zad ?_; refine zm ?_; refine zn ?_)
       all_goals (exact ⟨⟨j + 1, _, _, zh, zh, (by omega), by rw [hd, Q7 hx3, Q3h, Q40], hS.sp⟩, Qz (by omega)⟩))
    | (refine Q5 rfl ?_ -- Q2q c0
       all_goals (refine zex ?_; (first | (rw [List.drop_of_length_le (by omega), Q3h, Qo0 (b := (0, 0)) rfl] at hd) | (rw [Qo1 (a := h) (by assumption)] at hd)); refine Q0 ?_; refine Q1 ?_; refine zm ?_; refine zm ?_; refine zm ?_; refine zR2 (c := pEndAt_c f b hf0 hb0 hS) (h := ?_); rintro v1 w1 ⟨rfl, hS⟩; refine Qh rfl ?_; refine Q2 rfl ?_; refine zst hS ?_; intro w1 hS; have hS := hS.ns; refine zn ?_; have hS : St cx _ (blk p7 52 [.int .i64 y.regs, vp2, vc2, .int .i64 y.fin.op, .int .i64 y.fin.a, .int .i64 y.fin.yes.block, ve21, ve22, .int .i64 y.fin.no.block, ve23, ve24, ve25] :: blk p6 43 [.int .i64 x.regs, vp1, vr1, vb1] :: jdg p vf h (Qn4 f b) :: L.eraseIdx i) := hS; refine Q1 ?_; refine zm ?_; refine zv hS ?_; refine Q2 rfl ?_; refine zv hS ?_; refine zR3 (c := end_c (e := y.fin) he1 ⟨_, _, _, _, _, rfl, he21, he22, he23, he24, he25⟩ hS fd) (h := ?_); rintro v1 w1 ⟨rfl, hS⟩; have hS := hS.ns; refine zn ?_)
       all_goals (refine Q3W ?_; refine ⟨_, rfl, rfl, Qn4 f b, ?_⟩; have hS := hS.drop.drop; rw [show orF g (Q54 fs.length f x b y) = orF h (mkF (Q2y x.blocks.length y.fin) (Qn4 f b)) from (by unfold Q54; rw [← Q40, ← Q40, hd])]; exact St.back hS hi))
theorem QpG {g : Flt} {a : Int} {x : Fun} {f : Nat} {q : Bool} (hq : q = true ↔ (f = 0 ∧ (0 < x.regs ∨ 0 < x.params.length ∨ ∃ t ∈ x.results, t.kind ≠ 1))) :
    orF (orF (orF (orF (orF g (mkF (if x.regs < 0 ∨ 6 < x.regs then 1 else 0) a)) (mkF (QC x.params x.regs) a)) (mkF (QC x.results x.regs) a)) (mkF (if x.blocks.length < 1 ∨ 12 < x.blocks.length then 2 else 0) a)) (mkF (if q = true then 18 else 0) a) = orF g (mkF (Q5w f x) a) := by
  rw [Q2R, Q2R, Q2R, Q2R]
  congr 2
  unfold Q5w
  by_cases h0 : x.regs < 0 ∨ 6 < x.regs
  · rw [if_pos h0, if_pos h0]; simp only [Qcr (show (1 : Int) ≠ 0 by decide)]
  · rw [if_neg h0, if_neg h0, Qah]
    by_cases h : QC x.params x.regs ≠ 0
    · rw [if_pos h]; simp only [Qcr h]
    · rw [if_neg h, Classical.not_not.1 h, Qah]
      by_cases h1 : QC x.results x.regs ≠ 0
      · rw [if_pos h1]; simp only [Qcr h1]
      · rw [if_neg h1, Classical.not_not.1 h1, Qah]
        by_cases h2 : x.blocks.length < 1 ∨ 12 < x.blocks.length
        · rw [if_pos h2, if_pos h2]; simp only [Qcr (show (2 : Int) ≠ 0 by decide)]
        · rw [if_neg h2, if_neg h2, Qah]
          by_cases hb : f = 0 ∧ (0 < x.regs ∨ 0 < x.params.length ∨ ∃ t ∈ x.results, t.kind ≠ 1)
          · rw [if_pos hb, if_pos (hq.2 hb)]
          · rw [if_neg hb, if_neg (fun h => hb (hq.1 h))]
theorem Qnp {m : Module} (hsh : m.Short) {cs : List Value} (hm : modR.at cx cs m) (hS : St cx w L) :
    Rets Tryz.prog Q3L [.agg ⟨cs⟩] w fun u w' => u = fltV m.fault ∧ St cx w' L := by
  obtain ⟨vf, rfl, hf⟩ := Q3G hm
  have hsl := hsh.1
  have hsf := hsh.2
  obtain ⟨a0, n0, rfl⟩ := Rep.SR.shape hf
  generalize hvf : Value.slice a0 m.funcs.length n0 = vf at *
  all_goals refine Ql1 ?_
  all_goals (unfold code_Check_lc; refine Q0 ?_; refine Q1 ?_; refine zb hS ?_; intro p1 w1 hS; refine Qe hS ?_; intro p2 w1 hS; refine zn ?_; refine Q0 ?_; refine Q1 ?_; refine zv hS ?_; refine Qnk (cs := [vf, .int .i64 0, .int .i64 0, .int .i64 (-1)]) vw vw (by subst hvf; rfl) ?_; refine zb hS ?_; intro p9 w1 hS; refine zm ?_; refine zn ?_)
  refine zM [1, 2, 3] (fun A ρ' w' => Has ρ' A ∧ Has ρ' [] ∧ St cx w' (jdg p9 vf (mkF (if m.funcs.length < 1 ∨ 8 < m.funcs.length then 2 else 0) (-1)) (-1) :: blk p2 29 [.int .i64 0, .int .i64 0] :: blk p1 24 [vf] :: L)) ?_ ?_
  · skip
    all_goals (have hS : St cx _ (jdg p9 vf (0, 0) (-1) :: blk p2 29 [.int .i64 0, .int .i64 0] :: blk p1 24 [vf] :: L) := hS; refine Q1 ?_; refine zm ?_; refine Q2 rfl ?_; refine zl hS ?_; refine zL ?_)
    all_goals (first | (refine QB ?_) | (refine QF ?_) | (refine Qf rfl rfl (fun hc => ?_) (fun hc => ?_)))
    all_goals (refine zm ?_; (first | refine s_gn rfl rfl ?_ | (refine s_gy rfl ?_; refine Q2 rfl ?_)); (first | refine s_gn rfl rfl ?_ | (refine s_gy rfl ?_; refine zl hS ?_)); (first | refine s_gn rfl rfl ?_ | (refine s_gy rfl ?_; refine zL ?_)))
    all_goals (first | refine s_gn rfl rfl ?_ | (refine s_gy rfl ?_; (first | (refine QW ?_) | (refine Q1g ?_) | (refine Qr rfl rfl (fun hc => ?_) (fun hc => ?_)))))
    all_goals ((first | (refine zpt ?_) | (refine zpf ?_)); refine zR3 (c := Q24 (g := _) (by intro _; decide) hS fd) (h := ?_); rintro v1 w1 ⟨rfl, hS⟩; simp only [List.set_cons_zero, List.set_cons_succ, if_true, Bool.false_eq_true, if_false] at hS; refine zn ?_; exact ⟨zh, zh, by rw [orF_0 (mkF_z _ _)] at hS; first | (rw [if_pos (by omega)]; exact hS.sp) | (rw [if_neg (by omega)]; exact hS.sp)⟩)
  rintro ρ w1 ⟨hA, hρ, hS⟩; obtain ⟨ρ, rfl⟩ := env2 hA hρ
  all_goals (refine Q0 ?_; refine Q0 ?_; refine Q1 ?_; refine zm ?_; refine zn ?_; refine Qa ?_)
  refine zo [1, 2, 3] (fun A ρ' w' => ∃ (f : Nat) (h : Flt) (a : Int), Has ρ' A ∧ Has ρ' [(4, .int .i64 f)] ∧ (f ≤ m.funcs.length) ∧ (m.fault = orF h (Q42 m.funcs.length f (m.funcs.drop f))) ∧ St cx w' (jdg p9 vf h a :: blk p2 29 [.int .i64 0, .int .i64 0] :: blk p1 24 [vf] :: L)) (fun ρ' _ => (m.funcs.length - iv (ρ' 4)).toNat) ?_ ?_
  · exact ⟨0, _, _, zh, zh, (by omega), by rw [List.drop_zero]; rfl, hS.sp⟩
  rintro ρ w1 ⟨f, h, a, hA, hρ, hj, hd, hS⟩; obtain ⟨ρ, rfl⟩ := env2 hA hρ
  unfold QbG
  all_goals (refine Q0 ?_; refine Q0 ?_; refine Q1 ?_; refine zm ?_; refine Q2 rfl ?_; refine zl hS ?_; refine zL ?_)
  all_goals (first | (refine Q3i ?_) | (refine Q3j ?_) | (refine Q1w rfl rfl (fun hc => ?_) (fun hc => ?_)))
  all_goals (refine zm ?_; (first | refine s_gn rfl rfl ?_ | (refine s_gy rfl ?_; refine zm ?_)); (first | refine s_gn rfl rfl ?_ | (refine s_gy rfl ?_; refine Qh rfl ?_)); (first | refine s_gn rfl rfl ?_ | (refine s_gy rfl ?_; refine Q2 rfl ?_)); (first | refine s_gn rfl rfl ?_ | (refine s_gy rfl ?_; (first | refine Q2 rfl ?_ | refine Q1p rfl ?_))); (first | refine s_gn rfl rfl ?_ | (refine s_gy rfl ?_; refine zl hS ?_)))
  all_goals (first | refine s_gn rfl rfl ?_ | (refine s_gy rfl ?_; (first | (refine QB ?_) | (refine QF ?_) | (refine Qf rfl rfl (fun hc => ?_) (fun hc => ?_)))))
  all_goals ((first | (refine zpt ?_) | (refine zpf ?_)); refine zn ?_)
  all_goals
    first
    | (refine Q6 rfl ?_ -- Q3L c0
       all_goals (refine zsk ?_; refine Q0 ?_; refine Qa ?_; refine Q0 ?_; refine Q1 ?_; refine Q2 rfl ?_; refine zl hS ?_; refine zm ?_; refine zi ?_; intro b1 o1 cs1 x1 hat1 hx1 he1; obtain ⟨vp1, vr1, vb1, rfl, hp1, hr1, hb1⟩ := Q1K he1; (first | (refine zv hS ?_) | (refine zvk hS ?_)); refine Qe hS ?_; intro p5 w1 hS; refine zsn hS ?_; intro w1 hS; have hS := hS.ns; refine zn ?_; have hsx := hsf x1 (List.mem_of_getElem? hx1); have hlb := hsx.2.2.1; have hlp := hp1.len; have hlr := hr1.len; refine Q0 ?_; refine Q1 ?_; refine zm ?_; refine zm ?_; refine zR1 (c := Qpb f (by omega) hS) (h := ?_); rintro v1 w1 ⟨rfl, hS⟩; refine Qh rfl ?_; refine Q2 rfl ?_; refine zst hS ?_; intro w1 hS; have hS := hS.ns; refine zn ?_)
       refine zM [1, 2, 3, 4, 5] (fun A ρ' w' => Has ρ' A ∧ Has ρ' [] ∧ St cx w' (blk p5 43 [.int .i64 x1.regs, vp1, vr1, vb1] :: jdg p9 vf (orF h (mkF (if x1.regs < 0 ∨ 6 < x1.regs then 1 else 0) (Q45 f))) (Q45 f) :: blk p2 29 [.int .i64 0, .int .i64 0] :: blk p1 24 [vf] :: L)) ?_ ?_
       · skip
         all_goals (have hS : St cx _ (blk p5 43 [.int .i64 x1.regs, vp1, vr1, vb1] :: jdg p9 vf h (Q45 f) :: blk p2 29 [.int .i64 0, .int .i64 0] :: blk p1 24 [vf] :: L) := hS; refine Q1 ?_; refine zm ?_; refine Q2 rfl ?_; refine zl hS ?_)
         all_goals (first | (refine Q3i ?_) | (refine Q3j ?_) | (refine Q1w rfl rfl (fun hc => ?_) (fun hc => ?_)))
         all_goals (refine zm ?_; (first | refine s_gn rfl rfl ?_ | (refine s_gy rfl ?_; refine Q2 rfl ?_)); (first | refine s_gn rfl rfl ?_ | (refine s_gy rfl ?_; refine zl hS ?_)))
         all_goals (first | refine s_gn rfl rfl ?_ | (refine s_gy rfl ?_; (first | (refine QW ?_) | (refine Q1g ?_) | (refine Qr rfl rfl (fun hc => ?_) (fun hc => ?_)))))
         all_goals ((first | (refine zpt ?_) | (refine zpf ?_)); refine zR3 (c := Q24 (g := _) (by intro _; decide) hS fd) (h := ?_); rintro v1 w1 ⟨rfl, hS⟩; simp only [List.set_cons_zero, List.set_cons_succ, if_true, Bool.false_eq_true, if_false] at hS; refine zn ?_; exact ⟨zh, zh, by first | (rw [if_pos (by omega)]; exact hS.sp) | (rw [if_neg (by omega)]; exact hS.sp)⟩)
       rintro ρ w1 ⟨hA, hρ, hS⟩; obtain ⟨ρ, rfl⟩ := env2 hA hρ
       all_goals (refine Q0 ?_; refine Q1 ?_; refine zm ?_; refine Q2 rfl ?_; refine zl hS ?_; refine Q2 rfl ?_; refine zl hS ?_; refine zR3 (c := QmD hp1 hS fd) (h := ?_); rintro v1 w1 ⟨rfl, hS⟩; have hS := hS.ns; refine zn ?_; refine Q0 ?_; refine Q1 ?_; refine zm ?_; refine Q2 rfl ?_; refine zl hS ?_; refine Q2 rfl ?_; refine zl hS ?_; refine zR3 (c := QmD hr1 hS fd) (h := ?_); rintro v1 w1 ⟨rfl, hS⟩; have hS := hS.ns; refine zn ?_)
       refine zM [1, 2, 3, 4, 5] (fun A ρ' w' => Has ρ' A ∧ Has ρ' [] ∧ St cx w' (blk p5 43 [.int .i64 x1.regs, vp1, vr1, vb1] :: jdg p9 vf (orF (orF (orF (orF h (mkF (if x1.regs < 0 ∨ 6 < x1.regs then 1 else 0) (Q45 f))) (mkF (QC x1.params x1.regs) (Q45 f))) (mkF (QC x1.results x1.regs) (Q45 f))) (mkF (if x1.blocks.length < 1 ∨ 12 < x1.blocks.length then 2 else 0) (Q45 f))) (Q45 f) :: blk p2 29 [.int .i64 0, .int .i64 0] :: blk p1 24 [vf] :: L)) ?_ ?_
       · skip
         all_goals (refine Q1 ?_; refine zm ?_; refine Q2 rfl ?_; refine zl hS ?_; refine zL ?_)
         all_goals (first | (refine QB ?_) | (refine QF ?_) | (refine Qf rfl rfl (fun hc => ?_) (fun hc => ?_)))
         all_goals (refine zm ?_; (first | refine s_gn rfl rfl ?_ | (refine s_gy rfl ?_; refine Q2 rfl ?_)); (first | refine s_gn rfl rfl ?_ | (refine s_gy rfl ?_; refine zl hS ?_)); (first | refine s_gn rfl rfl ?_ | (refine s_gy rfl ?_; refine zL ?_)))
         all_goals (first | refine s_gn rfl rfl ?_ | (refine s_gy rfl ?_; (first | (refine QW ?_) | (refine Q1g ?_) | (refine Qr rfl rfl (fun hc => ?_) (fun hc => ?_)))))
         all_goals ((first | (refine zpt ?_) | (refine zpf ?_)); refine zR3 (c := Q24 (g := _) (by intro _; decide) hS fd) (h := ?_); rintro v1 w1 ⟨rfl, hS⟩; simp only [List.set_cons_zero, List.set_cons_succ, if_true, Bool.false_eq_true, if_false] at hS; refine zn ?_; exact ⟨zh, zh, by first | (rw [if_pos (c := x1.blocks.length < 1 ∨ 12 < x1.blocks.length) (by omega)]; exact hS.sp) | (rw [if_neg (c := x1.blocks.length < 1 ∨ 12 < x1.blocks.length) (by omega)]; exact hS.sp)⟩)
       rintro ρ w1 ⟨hA, hρ, hS⟩; obtain ⟨ρ, rfl⟩ := env2 hA hρ
       refine zM [1, 2, 3, 4, 5] (fun A ρ' w' => Has ρ' A ∧ Has ρ' [] ∧ St cx w' (blk p5 43 [.int .i64 x1.regs, vp1, vr1, vb1] :: jdg p9 vf (orF h (mkF (Q5w f x1) (Q45 f))) (Q45 f) :: blk p2 29 [.int .i64 0, .int .i64 0] :: blk p1 24 [vf] :: L)) ?_ ?_
       · skip
         all_goals (refine Q1 ?_)
         refine zKL hS 19 [1, 2, 3, 4, 5] (fun A LL ρ' w' => ∃ (q : Bool), Has ρ' A ∧ Has ρ' [(81, .pointer (some ⟨p9, 0, none⟩)), (99, .bool q)] ∧ (q = true ↔ (f = 0 ∧ (0 < x1.regs ∨ 0 < x1.params.length ∨ ∃ t ∈ x1.results, t.kind ≠ 1))) ∧ St cx w' (LL)) ?_ ?_
         · skip
           all_goals (refine zm ?_; refine zm ?_)
           all_goals (first | (refine QB ?_) | (refine QF ?_) | (refine Qf rfl rfl (fun hc => ?_) (fun hc => ?_)))
           all_goals (refine zm ?_; (first | refine s_gn rfl rfl ?_ | (refine s_gy rfl ?_; refine Q2 rfl ?_)); (first | refine s_gn rfl rfl ?_ | (refine s_gy rfl ?_; refine zl hS ?_)))
           all_goals (first | refine s_gn rfl rfl ?_ | (refine s_gy rfl ?_; (first | (refine QW ?_) | (refine Q1g ?_) | (refine Qr rfl rfl (fun hc => ?_) (fun hc => ?_)))))
           all_goals ((first | refine s_gn rfl rfl ?_ | (refine s_gy rfl ?_; refine zm ?_)); (first | refine s_gn rfl rfl ?_ | (refine s_gy rfl ?_; refine Q2 rfl ?_)); (first | refine s_gn rfl rfl ?_ | (refine s_gy rfl ?_; refine zl hS ?_)); (first | refine s_gn rfl rfl ?_ | (refine s_gy rfl ?_; refine zL ?_)))
           all_goals (first | refine s_gn rfl rfl ?_ | (refine s_gy rfl ?_; (first | (refine QW ?_) | (refine Q1g ?_) | (refine Qr rfl rfl (fun hc => ?_) (fun hc => ?_)))))
           all_goals ((first | refine s_gn rfl rfl ?_ | (refine s_gy rfl ?_; (first | (refine zpt ?_) | (refine zpf ?_)))); (first | refine s_gn rfl rfl ?_ | (refine s_gy rfl ?_; refine zm ?_)); (first | refine s_gn rfl rfl ?_ | (refine s_gy rfl ?_; refine Q2 rfl ?_)); (first | refine s_gn rfl rfl ?_ | (refine s_gy rfl ?_; refine zl hS ?_)))
           all_goals ((first | (refine s_gn rfl rfl ?_) | (refine s_gy rfl ?_; refine zR2 (c := pcont_c hr1 hS) (h := ?_); rintro v1 w1 ⟨qc, rfl, hqc, hS⟩; cases qc)))
           all_goals ((first | refine s_gn rfl rfl ?_ | (refine s_gy rfl ?_; (first | (refine zpt ?_) | (refine zpf ?_)))); (first | (refine zpt ?_) | (refine zpf ?_)); refine Qf1 ?_; refine Q3R ?_)
           all_goals (first | (exact ⟨_, zh, zh, by exact ⟨fun _ => ⟨by omega, .inl (by omega)⟩, fun _ => rfl⟩, hS.sp⟩) | (exact ⟨_, zh, zh, by exact ⟨fun _ => ⟨by omega, .inr (.inl (by omega))⟩, fun _ => rfl⟩, hS.sp⟩) | (exact ⟨_, zh, zh, by exact ⟨fun _ => ⟨by omega, .inr (.inr (hqc.1 rfl))⟩, fun _ => rfl⟩, hS.sp⟩) | (exact ⟨_, zh, zh, by exact ⟨fun h => Bool.noConfusion h, fun h => absurd h.1 (by omega)⟩, hS.sp⟩) | (exact ⟨_, zh, zh, by exact ⟨fun h => Bool.noConfusion h, fun h => h.2.elim (fun h => by omega) (fun h => h.elim (fun h => by omega) (fun h => Bool.noConfusion (hqc.2 h)))⟩, hS.sp⟩))
         rintro ρ w1 ⟨q, hA, hρ, hq, hS⟩; obtain ⟨ρ, rfl⟩ := env2 hA hρ
         all_goals (refine zR3 (c := Q24 (g := _) (by intro _; decide) hS fd) (h := ?_); rintro v1 w1 ⟨rfl, hS⟩; simp only [List.set_cons_zero, List.set_cons_succ, if_true, Bool.false_eq_true, if_false] at hS; refine zn ?_; exact ⟨zh, zh, by rw [← QpG hq]; exact hS.sp⟩)
       rintro ρ w1 ⟨hA, hρ, hS⟩; obtain ⟨ρ, rfl⟩ := env2 hA hρ
       all_goals (refine Q0 ?_; refine Q1 ?_; refine zm ?_; refine zn ?_; refine Qa ?_)
       refine zo [1, 2, 3, 4, 5] (fun A ρ' w' => ∃ (b : Nat) (h2 : Flt) (a2 : Int), Has ρ' A ∧ Has ρ' [(6, .int .i64 b)] ∧ (b ≤ x1.blocks.length) ∧ (orF (orF h (mkF (Q5w f x1) (Q45 f))) (Q21 m.funcs.length f x1 0 x1.blocks) = orF h2 (Q21 m.funcs.length f x1 b (x1.blocks.drop b))) ∧ St cx w' (blk p5 43 [.int .i64 x1.regs, vp1, vr1, vb1] :: jdg p9 vf h2 a2 :: blk p2 29 [.int .i64 0, .int .i64 0] :: blk p1 24 [vf] :: L)) (fun ρ' _ => (x1.blocks.length - iv (ρ' 6)).toNat) ?_ ?_
       · exact ⟨0, _, _, zh, zh, (by omega), by rw [List.drop_zero], hS.sp⟩
       rintro ρ w1 ⟨b, h2, a2, hA, hρ, hb, hd2, hS⟩; obtain ⟨ρ, rfl⟩ := env2 hA hρ
       unfold Q9y
       all_goals (refine Q0 ?_; refine Q0 ?_; refine Q1 ?_; refine zm ?_; refine Q2 rfl ?_; refine zl hS ?_; refine zL ?_)
       all_goals (first | (refine Q3i ?_) | (refine Q3j ?_) | (refine Q1w rfl rfl (fun hc => ?_) (fun hc => ?_)))
       all_goals (refine zm ?_; (first | refine s_gn rfl rfl ?_ | (refine s_gy rfl ?_; refine zm ?_)); (first | refine s_gn rfl rfl ?_ | (refine s_gy rfl ?_; refine Qh rfl ?_)); (first | refine s_gn rfl rfl ?_ | (refine s_gy rfl ?_; refine Q2 rfl ?_)); (first | refine s_gn rfl rfl ?_ | (refine s_gy rfl ?_; (first | refine Q2 rfl ?_ | refine Q1p rfl ?_))); (first | refine s_gn rfl rfl ?_ | (refine s_gy rfl ?_; refine zl hS ?_)))
       all_goals (first | refine s_gn rfl rfl ?_ | (refine s_gy rfl ?_; (first | (refine QB ?_) | (refine QF ?_) | (refine Qf rfl rfl (fun hc => ?_) (fun hc => ?_)))))
       all_goals ((first | (refine zpt ?_) | (refine zpf ?_)); refine zn ?_)
       all_goals
         first
         | (refine Q6 rfl ?_ -- Q3L c1
            all_goals (refine zsk ?_; refine Q0 ?_; refine Qa ?_; obtain ⟨y, hy⟩ : ∃ y, x1.blocks[b]? = some y := ⟨_, List.getElem?_eq_getElem (by omega)⟩; have hsy := hsx.2.2.2 y (List.mem_of_getElem? hy); refine Q1 ?_; refine zm ?_; refine zm ?_; refine zm ?_; refine zR3 (c := pblock_c hx1 hy (by omega) (by omega) hsy.2.1 hf hS fd) (h := ?_); rintro v1 w1 ⟨rfl, a3, hS⟩; have hS := hS.ns; refine zn ?_; refine Q1 ?_; refine zm ?_; refine zad ?_; refine zm ?_; refine zn ?_)
            all_goals (exact ⟨⟨b + 1, _, _, zh, zh, (by omega), by rw [hd2, Q7 hy, Q21, Q40], hS.sp⟩, Qz (by omega)⟩))
         | (refine Q5 rfl ?_ -- Q3L c1
            all_goals (refine zex ?_; (first | (rw [List.drop_of_length_le (by omega), Q21, Qo0 (b := (0, 0)) rfl] at hd2) | (rw [Qo1 (a := h2) (by assumption)] at hd2)); refine Q1 ?_; refine zm ?_; refine zad ?_; refine zm ?_; refine zn ?_)
            all_goals (exact ⟨⟨f + 1, h2, a2, zh, zh, (by omega), by rw [hd, Q7 hx1, Q42, ← Q40, show orF h (Qew m.funcs.length f x1) = h2 from (by unfold Qew; rw [← Q40, hd2])], hS.sp⟩, Qz (by omega)⟩)))
    | (refine Q5 rfl ?_ -- Q3L c0
       all_goals (refine zex ?_; (first | (rw [List.drop_of_length_le (by omega), Q42, Qo0 (b := (0, 0)) rfl] at hd) | (rw [Qo1 (a := h) (by assumption)] at hd)); refine Q0 ?_; refine Q1 ?_; refine zm ?_; refine Qh rfl ?_; refine Q2 rfl ?_; refine zv hS ?_; refine zsn hS ?_; intro w1 hS; have hS := hS.ns; refine zn ?_; refine zr ?_; refine Q3V vw (Qi (n := 2) (by kernel_rfl) (by kernel_rfl) (hS.blkAt fd) (by rfl) (by rfl)) ?_)
       all_goals (refine ⟨_, rfl, ?_, hS.sp⟩; rw [hd]; rfl; done))
end Go.Proofs.YtjecflbbcnocdaaGreatDoor
namespace Go.Proofs.YtjecflbbcnocdaaGreatDoor
open Go.Lir
set_option maxHeartbeats 1000000
attribute [local irreducible] LC.wp Q3 Qt QA retQ Q1m LO.wp Qm Calls
set_option linter.unusedSimpArgs false
set_option linter.unusedVariables false
/-- What Print gives: the text, the fault. -/
def Q1F (m : Module) : List UInt8 × Flt :=
  if m.fault.1 ≠ 0 then ([], m.fault) else if m.small = false then ([], (8, -1)) else if 40000 < m.txt.length then ([], (2, -1)) else (m.txt, (0, 0))
theorem pr_1 {m : Module} (h : m.fault.1 ≠ 0) : Q1F m = ([], m.fault) := if_pos h
theorem pr_2 {m : Module} (h : m.fault.1 = 0) (h2 : m.small = false) : Q1F m = ([], (8, -1)) := by unfold Q1F; rw [if_neg (fun h9 => h9 h), if_pos h2]
theorem pr_3 {m : Module} (h : m.fault.1 = 0) (h2 : m.small = true) (h3 : 40000 < m.txt.length) : Q1F m = ([], (2, -1)) := by unfold Q1F; rw [if_neg (fun h9 => h9 h), if_neg (by rw [h2]; decide), if_pos h3]
theorem pr_4 {m : Module} (h : m.fault.1 = 0) (h2 : m.small = true) (h3 : ¬ 40000 < m.txt.length) : Q1F m = (m.txt, (0, 0)) := by unfold Q1F; rw [if_neg (fun h9 => h9 h), if_neg (by rw [h2]; decide), if_neg h3]
attribute [local irreducible] Lib.itoa Lib.join Q39 Q1P Ins.txt Tail.txt To.txt Module.txt Module.fault Module.small
variable {cx : Cx} {w : World} {L : List Res}
theorem has_funs {m : Module} (h : m.fault.1 = 0) : 0 < m.funcs.length := by
  apply Classical.byContradiction
  intro h9
  unfold Module.fault at h
  rw [if_pos (by omega), Qo1 (by rw [Q7p]; decide), Q7p] at h
  cases h
theorem mod_len {m : Module} (hp : m.Pr) : m.txt.length ≤ 280000000 := by
  have := Qcy hp.2
  have := hp.1
  unfold Module.txt; omega
theorem QmA {m : Module} {cs : List Value} (hsh : m.Short) (hr : m.InR) (hx : modR.at cx cs m) (hT : PowT cx) (hS : St cx w L) :
    Rets Tryz.prog Q1u [.agg ⟨cs⟩] w fun u w' => u = .tuple #[strV (Q1F m).1, .agg ⟨[.int .i64 (Q1F m).2.1, .int .i64 (Q1F m).2.2]⟩] ∧ St cx w' L := by
  have hx' := hx
  obtain ⟨vf, rfl, hf⟩ := Q3G hx
  have hpr := fun h => mod_pr hr (m := m) h
  all_goals refine QfE ?_
  all_goals (unfold render_Print_lc; refine Q0 ?_; refine Q1 ?_; refine zb hS ?_; intro p1 w1 hS; refine zm ?_; refine Qe hS ?_; intro p3 w1 hS; refine zn ?_; refine Q0 ?_; refine Q0 ?_; refine Q1 ?_; refine zv hS ?_; refine zR1 (c := Qnp hsh hx' hS) (h := ?_); rintro v1 w1 ⟨rfl, hS⟩; unfold fltV; refine Qe hS ?_; intro p4 w1 hS; refine zsn hS ?_; intro w1 hS; have hS := hS.ns; refine zn ?_; refine Q0 ?_; refine Q1 ?_; refine Q2 rfl ?_; refine zl hS ?_)
  all_goals (first | (refine Q2L ?_) | (refine Q2M ?_) | (refine Q1a rfl rfl (fun hc => ?_) (fun hc => ?_)))
  all_goals (refine zn ?_)
  all_goals
    first
    | (refine Q6 rfl ?_ -- Q1u c0
       all_goals (refine Q0 ?_; refine zD [(0, none), (1, none), (2, some none)] ?_; have hS := hS.drew; refine zv hS ?_; refine zm ?_; refine zsn hS ?_; intro w1 hS; have hS := hS.ns; refine zn ?_; refine zr ?_; refine Q9M vw vw (Qi (n := 2) (by kernel_rfl) (by kernel_rfl) (hS.blkAt fd) (by rfl) (by rfl)) ?_)
       all_goals (exact ⟨_, rfl, (by rw [pr_1 (by omega)]; rfl), hS.sp⟩))
    | (refine Q5 rfl ?_ -- Q1u c0
       all_goals refine zsk ?_)
  all_goals (refine Q0 ?_; refine Q0 ?_; refine Q1 ?_; refine zv hS ?_)
  all_goals (refine zR1 (c := Qpf hx' hS) (h := ?_); rintro v1 w1 ⟨rfl, hS⟩; cases hq : m.small)
  all_goals (refine Q2e rfl ?_; refine zn ?_)
  all_goals
    first
    | (refine Q6 rfl ?_ -- Q1u c1
       all_goals (refine Q0 ?_; refine Q1 ?_; refine zb2 [_, _] ?_; refine zm ?_; refine zsn hS ?_; intro w1 hS; have hS := hS.ns; refine zn ?_; refine zr ?_; refine Q9M vw vw (Qi (n := 2) (by kernel_rfl) (by kernel_rfl) (hS.blkAt fd) (by rfl) (by rfl)) ?_)
       all_goals ((first | exact ⟨_, rfl, (by rw [pr_1 (by omega)]; rfl), hS.sp⟩ | exact ⟨_, rfl, (by rw [pr_2 (by omega) hq]; rfl), hS.sp⟩)))
    | (refine Q5 rfl ?_ -- Q1u c1
       all_goals refine zsk ?_)
  all_goals (refine Q0 ?_; refine Q1 ?_; refine zv hS ?_; have hp := hpr (by omega); have hml := mod_len hp; refine zR1 (c := whole_c hp (has_funs (by omega)) hx' hT hS) (h := ?_); rintro v1 w1 ⟨rfl, hS⟩; refine zm ?_; refine zn ?_; refine Q0 ?_; refine Q0 ?_; refine Q1 ?_; refine zm ?_; refine Q3S rfl ?_)
  all_goals (first | (refine QW ?_) | (refine Q1g ?_) | (refine Qr rfl rfl (fun hc => ?_) (fun hc => ?_)))
  all_goals (refine zn ?_)
  all_goals
    first
    | (refine Q6 rfl ?_ -- Q1u c2
       all_goals (refine Q0 ?_; refine Q1 ?_; refine zb2 [_, _] ?_; refine zm ?_; refine zsn hS ?_; intro w1 hS; have hS := hS.ns; refine zn ?_; refine zr ?_; refine Q9M vw vw (Qi (n := 2) (by kernel_rfl) (by kernel_rfl) (hS.blkAt fd) (by rfl) (by rfl)) ?_)
       all_goals ((first | exact ⟨_, rfl, (by rw [pr_1 (by omega)]; rfl), hS.sp⟩ | exact ⟨_, rfl, (by rw [pr_2 (by omega) hq]; rfl), hS.sp⟩ | exact ⟨_, rfl, (by rw [pr_3 (by omega) hq (by omega)]; rfl), hS.sp⟩)))
    | (refine Q5 rfl ?_ -- Q1u c2
       all_goals refine zsk ?_)
  all_goals (refine Q0 ?_; refine Q1 ?_; refine zm ?_; refine zb0 [_, _] ?_; refine zm ?_; refine zsn hS ?_; intro w1 hS; have hS := hS.ns; refine zn ?_; refine zr ?_; refine Q9M vw vw (Qi (n := 2) (by kernel_rfl) (by kernel_rfl) (hS.blkAt fd) (by rfl) (by rfl)) ?_; (first | exact ⟨_, rfl, (by rw [pr_1 (by omega)]; rfl), hS.sp⟩ | exact ⟨_, rfl, (by rw [pr_2 (by omega) hq]; rfl), hS.sp⟩ | exact ⟨_, rfl, (by rw [pr_3 (by omega) hq (by omega)]; rfl), hS.sp⟩ | exact ⟨_, rfl, (by rw [pr_4 (by omega) hq (by omega)]; rfl), hS.sp⟩))
end Go.Proofs.YtjecflbbcnocdaaGreatDoor
namespace Go.Lir
section
variable {P : Program} {l : List GO} {Q : QT} {ρ : Env} {w : World}
end
end Go.Lir
namespace Go.Lir
section
variable {P : Program} {l : List GO} {Q : QT} {ρ : Env} {w : World}
/-- A block is from here on only read, as a list of one. -/
theorem St.freeze1 {α : Type} {r : Rep α} {c : Cx} {L : List Res} {T b : Nat} {cs : List Value} {x : α} (h : St c w (blk b T cs :: L)) (hr : r.at c cs x) : ∃ c', c.Le c' ∧ St c' w L ∧ r.sl c' (.slice (some ⟨b, 0, none⟩) 1 1) [x] := by
  have h1 : St c w (sl T r.es (.slice (some ⟨b, 0, none⟩) 1 1) [cs] :: L) := h.slOf (css := [cs]) (by simp) (by intro q hq; simp at hq; subst hq; exact r.len hr) rfl
  exact h1.freezeL (r := r) ((Rep.LR.nil r _ _).push hr) rfl (by simp)
end
end Go.Lir
namespace Go.Proofs.YtjecflbbcnocdaaGreatDoor
open Go.Lir
set_option maxHeartbeats 1000000
attribute [local irreducible] LC.wp Q3 Qt QA retQ Q1m LO.wp Qm Calls
set_option linter.unusedSimpArgs false
set_option linter.unusedVariables false
end Go.Proofs.YtjecflbbcnocdaaGreatDoor
namespace Go.Proofs.YtjecflbbcnocdaaGreatDoor
open Go.Lir
set_option maxHeartbeats 1000000
attribute [local irreducible] LC.wp Q3 Qt QA retQ Q1m LO.wp Qm Calls
set_option linter.unusedSimpArgs false
set_option linter.unusedVariables false
theorem QiD {x y : Block} {cx : Cx} {w : World} {L : List Res} {cs ds : List Value} (hx : blockR.at cx cs x) (hy : blockR.at cx ds y) (hS : St cx w L) : Rets Tryz.prog Q37 [.agg ⟨cs⟩, .agg ⟨ds⟩] w fun u w' => u = .bool (decide (x = y)) ∧ St cx w' L := by
  obtain ⟨vp, vc, v1, v2, v3, v4, v5, rfl, hp, hc0, h1, h2, h3, h4, h5⟩ := Q1B hx
  obtain ⟨up, uc, u1, u2, u3, u4, u5, rfl, gp, gc, g1, g2, g3, g4, g5⟩ := Q1B hy
  have hlen := hc0.len
  obtain ⟨xr, xp, xc, ⟨xo, xa, xy, xn, xg⟩⟩ := x
  obtain ⟨yr, yp, yc, ⟨yo, ya, yy, yn, yg⟩⟩ := y
  simp only [Block.mk.injEq, Tail.mk.injEq] at *
  all_goals refine Qij ?_
  all_goals (unfold R_sameBlock_lc; refine Q0 ?_; refine Q1 ?_; refine zb hS ?_; intro p2 w1 hS; refine zb hS ?_; intro p3 w1 hS; refine zm ?_; refine zn ?_)
  refine zML hS [2, 3] (fun A LL ρ' w' => Has ρ' A ∧ Has ρ' [] ∧ (xr = yr) ∧ (xp = yp) ∧ (xc.length = yc.length) ∧ St cx w' (LL)) ?_ ?_
  · skip
    all_goals (refine Q0 ?_; refine Q1 ?_; refine Q2 rfl ?_; refine zl hS ?_; refine Q2 rfl ?_; refine zl hS ?_)
    all_goals (first | (refine Q2L ?_) | (refine Q2M ?_) | (refine Q1a rfl rfl (fun hc => ?_) (fun hc => ?_)))
    all_goals (refine zm ?_; (first | refine s_gn rfl rfl ?_ | (refine s_gy rfl ?_; refine Q2 rfl ?_)); (first | refine s_gn rfl rfl ?_ | (refine s_gy rfl ?_; refine zl hS ?_)); (first | refine s_gn rfl rfl ?_ | (refine s_gy rfl ?_; refine Q2 rfl ?_)); (first | refine s_gn rfl rfl ?_ | (refine s_gy rfl ?_; refine zl hS ?_)))
    all_goals ((first | (refine s_gn rfl rfl ?_) | (refine s_gy rfl ?_; refine zR2 (c := QaF hp gp hS) (h := ?_); rintro v1 w1 ⟨rfl, hS⟩; (cases hdec : decide (xp = yp)); have hg := of_decide_eq_false hdec; rotate_left; have hg := of_decide_eq_true hdec; all_goals skip)))
    all_goals ((first | refine s_gn rfl rfl ?_ | (refine s_gy rfl ?_; refine Q2e rfl ?_)); (first | (refine zpt ?_) | (refine zpf ?_)); refine zm ?_; (first | refine s_gn rfl rfl ?_ | (refine s_gy rfl ?_; refine Q2 rfl ?_)); (first | refine s_gn rfl rfl ?_ | (refine s_gy rfl ?_; refine zl hS ?_)); (first | refine s_gn rfl rfl ?_ | (refine s_gy rfl ?_; refine zL ?_)); (first | refine s_gn rfl rfl ?_ | (refine s_gy rfl ?_; refine Q2 rfl ?_)); (first | refine s_gn rfl rfl ?_ | (refine s_gy rfl ?_; refine zl hS ?_)); (first | refine s_gn rfl rfl ?_ | (refine s_gy rfl ?_; refine zL ?_)))
    all_goals (first | refine s_gn rfl rfl ?_ | (refine s_gy rfl ?_; (first | (refine Q2L ?_) | (refine Q2M ?_) | (refine Q1a rfl rfl (fun hc => ?_) (fun hc => ?_)))))
    all_goals ((first | (refine zpt ?_) | (refine zpf ?_)); refine zn ?_)
    all_goals
      first
      | (refine Q6 rfl ?_ -- Q37 c0
         all_goals (refine Q0 ?_; refine Q1 ?_; refine zm ?_; refine zn ?_; refine zr ?_; refine zf ?_)
         all_goals (refine ⟨_, rfl, ?_, hS.sp⟩; (rw [decide_eq_false]; rintro ⟨e1, e2, e3, _⟩; have := congrArg List.length e3; first | omega | (simp_all; done)); done))
      | (refine Q5 rfl ?_ -- Q37 c0
         all_goals refine zsk ?_)
    all_goals (exact ⟨zh, zh, by omega, by assumption, by omega, hS.sp⟩)
  rintro ρ w1 ⟨hA, hρ, hr, hpp, hll, hS⟩; obtain ⟨ρ, rfl⟩ := env2 hA hρ
  all_goals (refine Q0 ?_; refine Q0 ?_; refine Q1 ?_; refine zm ?_; refine zn ?_; refine Qa ?_)
  refine zoL hS [2, 3] (fun A LL ρ' w' => ∃ (j : Nat), Has ρ' A ∧ Has ρ' [(5, .int .i64 j)] ∧ (j ≤ xc.length) ∧ (xc = yc ↔ xc.drop j = yc.drop j) ∧ St cx w' (LL)) (fun ρ' _ => (xc.length - iv (ρ' 5)).toNat) ?_ ?_
  · exact ⟨0, zh, zh, (by omega), by simp, hS.sp⟩
  rintro ρ w1 ⟨j, hA, hρ, hj, hd, hS⟩; obtain ⟨ρ, rfl⟩ := env2 hA hρ
  unfold Q9z
  all_goals (refine Q0 ?_; refine Q0 ?_; refine Q1 ?_; refine zm ?_; refine Q2 rfl ?_; refine zl hS ?_; refine zL ?_; refine QG rfl rfl ?_; refine zn ?_)
  refine Qu rfl (fun hc => ?_) (fun hc => ?_)
  · skip
    all_goals (refine zsk ?_; refine Q0 ?_; refine Qa ?_; refine Q0 ?_; refine zD [(0, none), (1, none), (2, none), (3, none), (4, none), (5, none), (6, none), (7, none), (8, none), (9, none), (10, some none), (11, some none)] ?_; have hS := hS.drew; refine Q2 rfl ?_; refine zl hS ?_; refine zm ?_; refine zi ?_; intro b1 o1 cs1 x1 hat1 hx1 he1; obtain ⟨vr1, va1, rfl, hr1, ha1⟩ := Q2p he1; (first | (refine zv hS ?_) | (refine zvk hS ?_)); refine Q2 rfl ?_; refine zl hS ?_; refine zm ?_; refine zi ?_; intro b2 o2 cs2 x2 hat2 hx2 he2; obtain ⟨vr2, va2, rfl, hr2, ha2⟩ := Q2p he2; (first | (refine zv hS ?_) | (refine zvk hS ?_)))
    all_goals (refine zR2 (c := QnV he1 he2 hS) (h := ?_); rintro v1 w1 ⟨rfl, hS⟩; (cases hdec : decide (x1 = x2)); have hg := of_decide_eq_false hdec; rotate_left; have hg := of_decide_eq_true hdec; all_goals skip)
    all_goals (refine Q2e rfl ?_; refine zn ?_)
    all_goals
      first
      | (refine Q6 rfl ?_ -- Q37 c2
         all_goals (refine Q0 ?_; refine Q1 ?_; refine zm ?_; refine zn ?_; refine zr ?_; refine zf ?_)
         all_goals (refine ⟨_, rfl, ?_, hS.sp⟩; (rw [decide_eq_false]; rintro ⟨e1, e2, e3, _⟩; have := congrArg List.length e3; first | omega | (simp_all; done)); done))
      | (refine Q5 rfl ?_ -- Q37 c2
         all_goals refine zsk ?_)
    all_goals (refine Q1 ?_; refine zm ?_; refine zad ?_; refine zm ?_; refine zn ?_; exact ⟨⟨j + 1, zh, zh, (by omega), by rw [hd, Q7 hx1, Q7 hx2, hg]; simp, hS.sp⟩, Qz (by omega)⟩)
  · skip
    all_goals (refine zex ?_; refine Q0 ?_; refine Q1 ?_; refine Q2 rfl ?_; (first | refine Q2 rfl ?_ | refine Q1p rfl ?_); refine zl hS ?_; refine Q2 rfl ?_; (first | refine Q2 rfl ?_ | refine Q1p rfl ?_); refine zl hS ?_)
    all_goals (first | (refine QB ?_) | (refine QF ?_) | (refine Qf rfl rfl (fun hc => ?_) (fun hc => ?_)))
    all_goals (refine zm ?_; (first | refine s_gn rfl rfl ?_ | (refine s_gy rfl ?_; refine Q2 rfl ?_)); (first | refine s_gn rfl rfl ?_ | (refine s_gy rfl ?_; (first | refine Q2 rfl ?_ | refine Q1p rfl ?_))); (first | refine s_gn rfl rfl ?_ | (refine s_gy rfl ?_; refine zl hS ?_)); (first | refine s_gn rfl rfl ?_ | (refine s_gy rfl ?_; refine Q2 rfl ?_)); (first | refine s_gn rfl rfl ?_ | (refine s_gy rfl ?_; (first | refine Q2 rfl ?_ | refine Q1p rfl ?_))); (first | refine s_gn rfl rfl ?_ | (refine s_gy rfl ?_; refine zl hS ?_)))
    all_goals (first | refine s_gn rfl rfl ?_ | (refine s_gy rfl ?_; (first | (refine QB ?_) | (refine QF ?_) | (refine Qf rfl rfl (fun hc => ?_) (fun hc => ?_)))))
    all_goals ((first | (refine zpt ?_) | (refine zpf ?_)); refine zm ?_; (first | refine s_gn rfl rfl ?_ | (refine s_gy rfl ?_; refine Q2 rfl ?_)); (first | refine s_gn rfl rfl ?_ | (refine s_gy rfl ?_; (first | refine Q2 rfl ?_ | refine Q1p rfl ?_))); (first | refine s_gn rfl rfl ?_ | (refine s_gy rfl ?_; refine zv hS ?_)); (first | refine s_gn rfl rfl ?_ | (refine s_gy rfl ?_; refine Q2 rfl ?_)); (first | refine s_gn rfl rfl ?_ | (refine s_gy rfl ?_; (first | refine Q2 rfl ?_ | refine Q1p rfl ?_))); (first | refine s_gn rfl rfl ?_ | (refine s_gy rfl ?_; refine zv hS ?_)))
    all_goals ((first | (refine s_gn rfl rfl ?_) | (refine s_gy rfl ?_; refine zR2 (c := QlF (x := xy) (y := yy) ⟨_, _, rfl, h1, h2⟩ ⟨_, _, rfl, g1, g2⟩ hS) (h := ?_); rintro v1 w1 ⟨rfl, hS⟩; (cases hdec : decide (xy = yy)); have hg := of_decide_eq_false hdec; rotate_left; have hg := of_decide_eq_true hdec; all_goals skip)))
    all_goals ((first | (refine zpt ?_) | (refine zpf ?_)); refine zm ?_; (first | refine s_gn rfl rfl ?_ | (refine s_gy rfl ?_; refine Q2 rfl ?_)); (first | refine s_gn rfl rfl ?_ | (refine s_gy rfl ?_; (first | refine Q2 rfl ?_ | refine Q1p rfl ?_))); (first | refine s_gn rfl rfl ?_ | (refine s_gy rfl ?_; refine zv hS ?_)); (first | refine s_gn rfl rfl ?_ | (refine s_gy rfl ?_; refine Q2 rfl ?_)); (first | refine s_gn rfl rfl ?_ | (refine s_gy rfl ?_; (first | refine Q2 rfl ?_ | refine Q1p rfl ?_))); (first | refine s_gn rfl rfl ?_ | (refine s_gy rfl ?_; refine zv hS ?_)))
    all_goals ((first | (refine s_gn rfl rfl ?_) | (refine s_gy rfl ?_; refine zR2 (c := QlF (x := xn) (y := yn) ⟨_, _, rfl, h3, h4⟩ ⟨_, _, rfl, g3, g4⟩ hS) (h := ?_); rintro v1 w1 ⟨rfl, hS⟩; (cases hdec : decide (xn = yn)); have hg := of_decide_eq_false hdec; rotate_left; have hg := of_decide_eq_true hdec; all_goals skip)))
    all_goals ((first | (refine zpt ?_) | (refine zpf ?_)); refine zm ?_; (first | refine s_gn rfl rfl ?_ | (refine s_gy rfl ?_; refine Q2 rfl ?_)); (first | refine s_gn rfl rfl ?_ | (refine s_gy rfl ?_; (first | refine Q2 rfl ?_ | refine Q1p rfl ?_))); (first | refine s_gn rfl rfl ?_ | (refine s_gy rfl ?_; refine zl hS ?_)); (first | refine s_gn rfl rfl ?_ | (refine s_gy rfl ?_; refine Q2 rfl ?_)); (first | refine s_gn rfl rfl ?_ | (refine s_gy rfl ?_; (first | refine Q2 rfl ?_ | refine Q1p rfl ?_))); (first | refine s_gn rfl rfl ?_ | (refine s_gy rfl ?_; refine zl hS ?_)); (first | (refine s_gn rfl rfl ?_) | (refine s_gy rfl ?_; refine zR2 (c := Qf7 h5 g5 hS) (h := ?_); rintro v1 w1 ⟨rfl, hS⟩)); (first | (refine zpt ?_) | (refine zpf ?_)); refine zm ?_; refine zn ?_; refine zr ?_; refine zf ?_; (first | (refine ⟨_, rfl, ?_, hS.sp⟩; (rw [decide_eq_false]; rintro ⟨e1, e2, e3, _⟩; have := congrArg List.length e3; first | omega | (simp_all; done)); done) | (refine ⟨_, rfl, ?_, hS.sp⟩; rw [decide_eq_false]; rintro ⟨e1, e2, e3, _⟩; rw [hd, Q7 hx1, Q7 hx2, List.cons.injEq] at e3; exact hg e3.1; done) | (refine ⟨_, rfl, ?_, hS.sp⟩; have hcc : xc = yc := (by rw [hd, List.drop_of_length_le (by omega), List.drop_of_length_le (by omega)]); simp [*]; done)))
theorem QnU {x y : Module} {cx : Cx} {w : World} {L : List Res} {cs ds : List Value} (hx : modR.at cx cs x) (hy : modR.at cx ds y) (hS : St cx w L) : Rets Tryz.prog QN [.agg ⟨cs⟩, .agg ⟨ds⟩] w fun u w' => u = .bool (decide (x = y)) ∧ St cx w' L := by
  obtain ⟨vf, rfl, hl⟩ := Q3G hx
  obtain ⟨uf, rfl, hm⟩ := Q3G hy
  obtain ⟨l⟩ := x
  obtain ⟨m⟩ := y
  have hlen := hl.len
  simp only [Module.mk.injEq] at *
  all_goals refine Qgz ?_
  all_goals (unfold R_SameModule_lc; refine Q0 ?_; refine Q1 ?_; refine zb hS ?_; intro p2 w1 hS; refine zb hS ?_; intro p3 w1 hS; refine zm ?_; refine zn ?_; refine Q0 ?_; refine Q0 ?_; refine Q1 ?_; refine Q2 rfl ?_; refine zl hS ?_; refine zL ?_; refine Q2 rfl ?_; refine zl hS ?_; refine zL ?_)
  all_goals (first | (refine Q2L ?_) | (refine Q2M ?_) | (refine Q1a rfl rfl (fun hc => ?_) (fun hc => ?_)))
  all_goals (refine zn ?_)
  all_goals
    first
    | (refine Q6 rfl ?_ -- QN c0
       all_goals (refine Q0 ?_; refine Q1 ?_; refine zm ?_; refine zn ?_; refine zr ?_; refine zf ?_)
       all_goals (refine ⟨_, rfl, ?_, hS.sp⟩; rw [decide_eq_false]; exact fun e => absurd (congrArg List.length e) (by omega); done))
    | (refine Q5 rfl ?_ -- QN c0
       all_goals refine zsk ?_)
  all_goals (refine Q0 ?_; refine Q0 ?_; refine Q1 ?_; refine zm ?_; refine zn ?_; refine Qa ?_)
  refine zoL hS [2, 3] (fun A LL ρ' w' => ∃ (j : Nat), Has ρ' A ∧ Has ρ' [(5, .int .i64 j)] ∧ (j ≤ l.length) ∧ (l.length = m.length) ∧ (l = m ↔ l.drop j = m.drop j) ∧ St cx w' (LL)) (fun ρ' _ => (l.length - iv (ρ' 5)).toNat) ?_ ?_
  · exact ⟨0, zh, zh, (by omega), (by omega), by simp, hS.sp⟩
  rintro ρ w1 ⟨j, hA, hρ, hj, hlm, hd, hS⟩; obtain ⟨ρ, rfl⟩ := env2 hA hρ
  unfold Q7B
  all_goals (refine Q0 ?_; refine Q0 ?_; refine Q1 ?_; refine zm ?_; refine Q2 rfl ?_; refine zl hS ?_; refine zL ?_; refine QG rfl rfl ?_; refine zn ?_)
  refine Qu rfl (fun hc => ?_) (fun hc => ?_)
  · skip
    all_goals (refine zsk ?_; refine Q0 ?_; refine Qa ?_; refine Q0 ?_)
    refine s_split 10 11 (by kernel_rfl) ?_ ?_
    · skip
      all_goals (refine zC [(0, none), (1, none), (2, none), (3, none), (4, none), (5, none), (6, none), (7, none), (8, none), (9, none), (10, some (some [1, 4, 6, 9])), (11, some (some [1, 4, 6, 9])), (12, some (some [6, 9])), (13, some none)] ?_; have hS := hS.drew; refine s_cq ?_; refine Q2 rfl ?_; refine zt ?_; refine s_cq ?_; refine zl hS ?_; refine zt ?_; refine s_cq ?_; refine zm ?_; refine zt ?_; refine s_cq ?_; refine zi ?_; intro b1 o1 cs1 x1 hat1 hx1 he1; obtain ⟨vp1, vr1, vb1, rfl, hp1, hr1, hb1⟩ := Q1K he1; refine zt ?_; refine s_cq ?_; (first | (refine zv hS ?_) | (refine zvk hS ?_)); refine zt ?_; refine s_cq ?_; refine Q2 rfl ?_; refine zt ?_; refine s_cq ?_; refine zl hS ?_; refine zt ?_; refine s_cq ?_; refine zm ?_; refine zt ?_; refine s_cq ?_; refine zi ?_; intro b2 o2 cs2 x2 hat2 hx2 he2; obtain ⟨vp2, vr2, vb2, rfl, hp2, hr2, hb2⟩ := Q1K he2; refine zt ?_; refine s_cq ?_; (first | (refine zv hS ?_) | (refine zvk hS ?_)); refine zt ?_; refine Q1e ?_; refine Qe hS ?_; intro p6 w1 hS; refine zt ?_; refine zy ?_; refine Q1e ?_; refine Qe hS ?_; intro p7 w1 hS; refine zt ?_)
      all_goals (refine zy ?_; refine Q1e ?_; refine zsn hS ?_; intro w1 hS; have hS := hS.ns; refine zt ?_; refine zy ?_; refine s_cf ?_; refine zsn hS ?_; intro w1 hS; have hS := hS.ns; refine zt ?_; refine zcn ?_; refine Q0 ?_; refine Q0 ?_; refine Q1 ?_; refine Q2 rfl ?_; refine zl hS ?_; refine Q2 rfl ?_; refine zl hS ?_)
      all_goals (first | (refine Q2L ?_) | (refine Q2M ?_) | (refine Q1a rfl rfl (fun hc => ?_) (fun hc => ?_)))
      all_goals (refine zm ?_; (first | refine s_gn rfl rfl ?_ | (refine s_gy rfl ?_; refine Q2 rfl ?_)); (first | refine s_gn rfl rfl ?_ | (refine s_gy rfl ?_; refine zl hS ?_)); (first | refine s_gn rfl rfl ?_ | (refine s_gy rfl ?_; refine Q2 rfl ?_)); (first | refine s_gn rfl rfl ?_ | (refine s_gy rfl ?_; refine zl hS ?_)))
      all_goals ((first | (refine s_gn rfl rfl ?_) | (refine s_gy rfl ?_; refine zR2 (c := QaF (l := x1.params) (m := x2.params) hp1 hp2 hS) (h := ?_); rintro v1 w1 ⟨rfl, hS⟩; (cases hdec : decide (x1.params = x2.params)); have hg := of_decide_eq_false hdec; rotate_left; have hg := of_decide_eq_true hdec; all_goals skip)))
      all_goals ((first | refine s_gn rfl rfl ?_ | (refine s_gy rfl ?_; refine Q2e rfl ?_)); (first | (refine zpt ?_) | (refine zpf ?_)); refine zm ?_; (first | refine s_gn rfl rfl ?_ | (refine s_gy rfl ?_; refine Q2 rfl ?_)); (first | refine s_gn rfl rfl ?_ | (refine s_gy rfl ?_; refine zl hS ?_)); (first | refine s_gn rfl rfl ?_ | (refine s_gy rfl ?_; refine Q2 rfl ?_)); (first | refine s_gn rfl rfl ?_ | (refine s_gy rfl ?_; refine zl hS ?_)))
      all_goals ((first | (refine s_gn rfl rfl ?_) | (refine s_gy rfl ?_; refine zR2 (c := QaF (l := x1.results) (m := x2.results) hr1 hr2 hS) (h := ?_); rintro v1 w1 ⟨rfl, hS⟩; (cases hdec : decide (x1.results = x2.results)); have hg := of_decide_eq_false hdec; rotate_left; have hg := of_decide_eq_true hdec; all_goals skip)))
      all_goals ((first | refine s_gn rfl rfl ?_ | (refine s_gy rfl ?_; refine Q2e rfl ?_)); (first | (refine zpt ?_) | (refine zpf ?_)); refine zm ?_; (first | refine s_gn rfl rfl ?_ | (refine s_gy rfl ?_; refine Q2 rfl ?_)); (first | refine s_gn rfl rfl ?_ | (refine s_gy rfl ?_; refine zl hS ?_)); (first | refine s_gn rfl rfl ?_ | (refine s_gy rfl ?_; refine zL ?_)); (first | refine s_gn rfl rfl ?_ | (refine s_gy rfl ?_; refine Q2 rfl ?_)); (first | refine s_gn rfl rfl ?_ | (refine s_gy rfl ?_; refine zl hS ?_)); (first | refine s_gn rfl rfl ?_ | (refine s_gy rfl ?_; refine zL ?_)))
      all_goals (first | refine s_gn rfl rfl ?_ | (refine s_gy rfl ?_; (first | (refine Q2L ?_) | (refine Q2M ?_) | (refine Q1a rfl rfl (fun hc => ?_) (fun hc => ?_)))))
      all_goals ((first | (refine zpt ?_) | (refine zpf ?_)); refine zn ?_)
      all_goals
        first
        | (refine Q6 rfl ?_ -- QN c2
           all_goals (refine Q0 ?_; refine Q1 ?_; refine zm ?_; refine zn ?_; refine zr ?_; refine zf ?_)
           all_goals (first | (refine ⟨_, rfl, ?_, hS.sp⟩; rw [decide_eq_false]; exact fun e => absurd (congrArg List.length e) (by omega); done) | (refine ⟨_, rfl, ?_, hS.sp⟩; (rw [decide_eq_false]; rw [hd, Q7 hx1, Q7 hx2, List.cons.injEq]; rintro ⟨rfl, _⟩; first | (simp_all; done) | (simp at *; omega)); done)))
        | (refine Q5 rfl ?_ -- QN c2
           all_goals refine zsk ?_)
      all_goals (refine Q0 ?_; have hlb := hb1.len; refine Q1 ?_; refine zm ?_; refine zn ?_; refine Qa ?_)
      refine zoL hS [2, 3, 5, 6, 7] (fun A LL ρ' w' => ∃ (i : Nat), Has ρ' A ∧ Has ρ' [(8, .int .i64 i)] ∧ (i ≤ x1.blocks.length) ∧ (x1.blocks.length = x2.blocks.length) ∧ (x1.regs = x2.regs) ∧ (x1.params = x2.params) ∧ (x1.results = x2.results) ∧ (x1.blocks = x2.blocks ↔ x1.blocks.drop i = x2.blocks.drop i) ∧ St cx w' (LL)) (fun ρ' _ => (x1.blocks.length - iv (ρ' 8)).toNat) ?_ ?_
      · exact ⟨0, zh, zh, (by omega), (by omega), (by omega), by assumption, by assumption, by simp, hS.sp⟩
      rintro ρ w1 ⟨i, hA, hρ, hi, hlb2, hre, hpe, hrr, hd2, hS⟩; obtain ⟨ρ, rfl⟩ := env2 hA hρ
      unfold Q46
      all_goals (refine Q0 ?_; refine Q0 ?_; refine Q1 ?_; refine zm ?_; refine Q2 rfl ?_; refine zl hS ?_; refine zL ?_; refine QG rfl rfl ?_; refine zn ?_)
      refine Qu rfl (fun hc => ?_) (fun hc => ?_)
      · skip
        all_goals (refine zsk ?_; refine Q0 ?_; refine Qa ?_; refine Q0 ?_; refine zD [(0, none), (1, none), (2, none), (3, none), (4, none), (5, none), (6, none), (7, none), (8, none), (9, none), (10, some none), (11, some none)] ?_; have hS := hS.drew; refine Q2 rfl ?_; refine zl hS ?_; refine zm ?_; refine zi ?_; intro b3 o3 cs3 x3 hat3 hx3 he3; obtain ⟨vp3, vc3, ve31, ve32, ve33, ve34, ve35, rfl, hp3, hc3, he31, he32, he33, he34, he35⟩ := Q1B he3; (first | (refine zv hS ?_) | (refine zvk hS ?_)); refine Q2 rfl ?_; refine zl hS ?_; refine zm ?_; refine zi ?_; intro b4 o4 cs4 x4 hat4 hx4 he4; obtain ⟨vp4, vc4, ve41, ve42, ve43, ve44, ve45, rfl, hp4, hc4, he41, he42, he43, he44, he45⟩ := Q1B he4; (first | (refine zv hS ?_) | (refine zvk hS ?_)))
        all_goals (refine zR2 (c := QiD he3 he4 hS) (h := ?_); rintro v1 w1 ⟨rfl, hS⟩; (cases hdec : decide (x3 = x4)); have hg := of_decide_eq_false hdec; rotate_left; have hg := of_decide_eq_true hdec; all_goals skip)
        all_goals (refine Q2e rfl ?_; refine zn ?_)
        all_goals
          first
          | (refine Q6 rfl ?_ -- QN c4
             all_goals (refine Q0 ?_; refine Q1 ?_; refine zm ?_; refine zn ?_; refine zr ?_; refine zf ?_)
             all_goals (first | (refine ⟨_, rfl, ?_, hS.sp⟩; rw [decide_eq_false]; exact fun e => absurd (congrArg List.length e) (by omega); done) | (refine ⟨_, rfl, ?_, hS.sp⟩; (rw [decide_eq_false]; rw [hd, Q7 hx1, Q7 hx2, List.cons.injEq]; rintro ⟨rfl, _⟩; first | (simp_all; done) | (simp at *; omega)); done)))
          | (refine Q5 rfl ?_ -- QN c4
             all_goals refine zsk ?_)
        all_goals (refine Q1 ?_; refine zm ?_; refine zad ?_; refine zm ?_; refine zn ?_; exact ⟨⟨i + 1, zh, zh, (by omega), (by omega), (by omega), by assumption, by assumption, by rw [hd2, Q7 hx3, Q7 hx4, hg]; simp, hS.sp⟩, Qz (by omega)⟩)
      · skip
        all_goals (refine zex ?_; refine Q1 ?_; refine zm ?_; refine zad ?_; refine zm ?_; refine zn ?_; exact ⟨⟨j + 1, zh, zh, (by omega), (by omega), by rw [hd, Q7 hx1, Q7 hx2, Fun.eq_of hre hpe hrr (by rw [hd2, List.drop_of_length_le (by omega), List.drop_of_length_le (by omega)])]; simp, hS.sp⟩, Qz (by omega)⟩)
    · skip
      all_goals (refine zC [(0, none), (1, none), (2, none), (3, none), (4, none), (5, none), (6, none), (7, none), (8, none), (9, none), (11, some (some [1, 4, 6, 9])), (10, some (some [1, 4, 6, 9])), (12, some (some [6, 9])), (13, some none)] ?_; have hS := hS.drew; refine s_cq ?_; refine Q2 rfl ?_; refine zt ?_; refine s_cq ?_; refine zl hS ?_; refine zt ?_; refine s_cq ?_; refine zm ?_; refine zt ?_; refine s_cq ?_; refine zi ?_; intro b1 o1 cs1 x1 hat1 hx1 he1; obtain ⟨vp1, vr1, vb1, rfl, hp1, hr1, hb1⟩ := Q1K he1; refine zt ?_; refine s_cq ?_; (first | (refine zv hS ?_) | (refine zvk hS ?_)); refine zt ?_; refine s_cq ?_; refine Q2 rfl ?_; refine zt ?_; refine s_cq ?_; refine zl hS ?_; refine zt ?_; refine s_cq ?_; refine zm ?_; refine zt ?_; refine s_cq ?_; refine zi ?_; intro b2 o2 cs2 x2 hat2 hx2 he2; obtain ⟨vp2, vr2, vb2, rfl, hp2, hr2, hb2⟩ := Q1K he2; refine zt ?_; refine s_cq ?_; (first | (refine zv hS ?_) | (refine zvk hS ?_)); refine zt ?_; refine Q1e ?_; refine Qe hS ?_; intro p7 w1 hS; refine zt ?_; refine zy ?_; refine Q1e ?_; refine Qe hS ?_; intro p6 w1 hS; refine zt ?_)
      all_goals (refine zy ?_; refine Q1e ?_; refine zsn hS ?_; intro w1 hS; have hS := hS.ns; refine zt ?_; refine zy ?_; refine s_cf ?_; refine zsn hS ?_; intro w1 hS; have hS := hS.ns; refine zt ?_; refine zcn ?_; refine Q0 ?_; refine Q0 ?_; refine Q1 ?_; refine Q2 rfl ?_; refine zl hS ?_; refine Q2 rfl ?_; refine zl hS ?_)
      all_goals (first | (refine Q2L ?_) | (refine Q2M ?_) | (refine Q1a rfl rfl (fun hc => ?_) (fun hc => ?_)))
      all_goals (refine zm ?_; (first | refine s_gn rfl rfl ?_ | (refine s_gy rfl ?_; refine Q2 rfl ?_)); (first | refine s_gn rfl rfl ?_ | (refine s_gy rfl ?_; refine zl hS ?_)); (first | refine s_gn rfl rfl ?_ | (refine s_gy rfl ?_; refine Q2 rfl ?_)); (first | refine s_gn rfl rfl ?_ | (refine s_gy rfl ?_; refine zl hS ?_)))
      all_goals ((first | (refine s_gn rfl rfl ?_) | (refine s_gy rfl ?_; refine zR2 (c := QaF (l := x1.params) (m := x2.params) hp1 hp2 hS) (h := ?_); rintro v1 w1 ⟨rfl, hS⟩; (cases hdec : decide (x1.params = x2.params)); have hg := of_decide_eq_false hdec; rotate_left; have hg := of_decide_eq_true hdec; all_goals skip)))
      all_goals ((first | refine s_gn rfl rfl ?_ | (refine s_gy rfl ?_; refine Q2e rfl ?_)); (first | (refine zpt ?_) | (refine zpf ?_)); refine zm ?_; (first | refine s_gn rfl rfl ?_ | (refine s_gy rfl ?_; refine Q2 rfl ?_)); (first | refine s_gn rfl rfl ?_ | (refine s_gy rfl ?_; refine zl hS ?_)); (first | refine s_gn rfl rfl ?_ | (refine s_gy rfl ?_; refine Q2 rfl ?_)); (first | refine s_gn rfl rfl ?_ | (refine s_gy rfl ?_; refine zl hS ?_)))
      all_goals ((first | (refine s_gn rfl rfl ?_) | (refine s_gy rfl ?_; refine zR2 (c := QaF (l := x1.results) (m := x2.results) hr1 hr2 hS) (h := ?_); rintro v1 w1 ⟨rfl, hS⟩; (cases hdec : decide (x1.results = x2.results)); have hg := of_decide_eq_false hdec; rotate_left; have hg := of_decide_eq_true hdec; all_goals skip)))
      all_goals ((first | refine s_gn rfl rfl ?_ | (refine s_gy rfl ?_; refine Q2e rfl ?_)); (first | (refine zpt ?_) | (refine zpf ?_)); refine zm ?_; (first | refine s_gn rfl rfl ?_ | (refine s_gy rfl ?_; refine Q2 rfl ?_)); (first | refine s_gn rfl rfl ?_ | (refine s_gy rfl ?_; refine zl hS ?_)); (first | refine s_gn rfl rfl ?_ | (refine s_gy rfl ?_; refine zL ?_)); (first | refine s_gn rfl rfl ?_ | (refine s_gy rfl ?_; refine Q2 rfl ?_)); (first | refine s_gn rfl rfl ?_ | (refine s_gy rfl ?_; refine zl hS ?_)); (first | refine s_gn rfl rfl ?_ | (refine s_gy rfl ?_; refine zL ?_)))
      all_goals (first | refine s_gn rfl rfl ?_ | (refine s_gy rfl ?_; (first | (refine Q2L ?_) | (refine Q2M ?_) | (refine Q1a rfl rfl (fun hc => ?_) (fun hc => ?_)))))
      all_goals ((first | (refine zpt ?_) | (refine zpf ?_)); refine zn ?_)
      all_goals
        first
        | (refine Q6 rfl ?_ -- QN c2
           all_goals (refine Q0 ?_; refine Q1 ?_; refine zm ?_; refine zn ?_; refine zr ?_; refine zf ?_)
           all_goals (first | (refine ⟨_, rfl, ?_, hS.sp⟩; rw [decide_eq_false]; exact fun e => absurd (congrArg List.length e) (by omega); done) | (refine ⟨_, rfl, ?_, hS.sp⟩; (rw [decide_eq_false]; rw [hd, Q7 hx1, Q7 hx2, List.cons.injEq]; rintro ⟨rfl, _⟩; first | (simp_all; done) | (simp at *; omega)); done)))
        | (refine Q5 rfl ?_ -- QN c2
           all_goals refine zsk ?_)
      all_goals (refine Q0 ?_; have hlb := hb1.len; refine Q1 ?_; refine zm ?_; refine zn ?_; refine Qa ?_)
      refine zoL hS [2, 3, 5, 6, 7] (fun A LL ρ' w' => ∃ (i : Nat), Has ρ' A ∧ Has ρ' [(8, .int .i64 i)] ∧ (i ≤ x1.blocks.length) ∧ (x1.blocks.length = x2.blocks.length) ∧ (x1.regs = x2.regs) ∧ (x1.params = x2.params) ∧ (x1.results = x2.results) ∧ (x1.blocks = x2.blocks ↔ x1.blocks.drop i = x2.blocks.drop i) ∧ St cx w' (LL)) (fun ρ' _ => (x1.blocks.length - iv (ρ' 8)).toNat) ?_ ?_
      · exact ⟨0, zh, zh, (by omega), (by omega), (by omega), by assumption, by assumption, by simp, hS.sp⟩
      rintro ρ w1 ⟨i, hA, hρ, hi, hlb2, hre, hpe, hrr, hd2, hS⟩; obtain ⟨ρ, rfl⟩ := env2 hA hρ
      unfold Q46
      all_goals (refine Q0 ?_; refine Q0 ?_; refine Q1 ?_; refine zm ?_; refine Q2 rfl ?_; refine zl hS ?_; refine zL ?_; refine QG rfl rfl ?_; refine zn ?_)
      refine Qu rfl (fun hc => ?_) (fun hc => ?_)
      · skip
        all_goals (refine zsk ?_; refine Q0 ?_; refine Qa ?_; refine Q0 ?_; refine zD [(0, none), (1, none), (2, none), (3, none), (4, none), (5, none), (6, none), (7, none), (8, none), (9, none), (10, some none), (11, some none)] ?_; have hS := hS.drew; refine Q2 rfl ?_; refine zl hS ?_; refine zm ?_; refine zi ?_; intro b3 o3 cs3 x3 hat3 hx3 he3; obtain ⟨vp3, vc3, ve31, ve32, ve33, ve34, ve35, rfl, hp3, hc3, he31, he32, he33, he34, he35⟩ := Q1B he3; (first | (refine zv hS ?_) | (refine zvk hS ?_)); refine Q2 rfl ?_; refine zl hS ?_; refine zm ?_; refine zi ?_; intro b4 o4 cs4 x4 hat4 hx4 he4; obtain ⟨vp4, vc4, ve41, ve42, ve43, ve44, ve45, rfl, hp4, hc4, he41, he42, he43, he44, he45⟩ := Q1B he4; (first | (refine zv hS ?_) | (refine zvk hS ?_)))
        all_goals (refine zR2 (c := QiD he3 he4 hS) (h := ?_); rintro v1 w1 ⟨rfl, hS⟩; (cases hdec : decide (x3 = x4)); have hg := of_decide_eq_false hdec; rotate_left; have hg := of_decide_eq_true hdec; all_goals skip)
        all_goals (refine Q2e rfl ?_; refine zn ?_)
        all_goals
          first
          | (refine Q6 rfl ?_ -- QN c4
             all_goals (refine Q0 ?_; refine Q1 ?_; refine zm ?_; refine zn ?_; refine zr ?_; refine zf ?_)
             all_goals (first | (refine ⟨_, rfl, ?_, hS.sp⟩; rw [decide_eq_false]; exact fun e => absurd (congrArg List.length e) (by omega); done) | (refine ⟨_, rfl, ?_, hS.sp⟩; (rw [decide_eq_false]; rw [hd, Q7 hx1, Q7 hx2, List.cons.injEq]; rintro ⟨rfl, _⟩; first | (simp_all; done) | (simp at *; omega)); done)))
          | (refine Q5 rfl ?_ -- QN c4
             all_goals refine zsk ?_)
        all_goals (refine Q1 ?_; refine zm ?_; refine zad ?_; refine zm ?_; refine zn ?_; exact ⟨⟨i + 1, zh, zh, (by omega), (by omega), (by omega), by assumption, by assumption, by rw [hd2, Q7 hx3, Q7 hx4, hg]; simp, hS.sp⟩, Qz (by omega)⟩)
      · skip
        all_goals (refine zex ?_; refine Q1 ?_; refine zm ?_; refine zad ?_; refine zm ?_; refine zn ?_; exact ⟨⟨j + 1, zh, zh, (by omega), (by omega), by rw [hd, Q7 hx1, Q7 hx2, Fun.eq_of hre hpe hrr (by rw [hd2, List.drop_of_length_le (by omega), List.drop_of_length_le (by omega)])]; simp, hS.sp⟩, Qz (by omega)⟩)
  · skip
    all_goals (refine zex ?_; refine Q0 ?_; refine Q1 ?_; refine zm ?_; refine zn ?_; refine zr ?_; refine zf ?_)
    all_goals (first | (refine ⟨_, rfl, ?_, hS.sp⟩; rw [decide_eq_false]; exact fun e => absurd (congrArg List.length e) (by omega); done) | (refine ⟨_, rfl, ?_, hS.sp⟩; (rw [decide_eq_false]; rw [hd, Q7 hx1, Q7 hx2, List.cons.injEq]; rintro ⟨rfl, _⟩; first | (simp_all; done) | (simp at *; omega)); done) | (refine ⟨_, rfl, ?_, hS.sp⟩; rw [decide_eq_false]; rw [hd, Q7 hx1, Q7 hx2, List.cons.injEq]; rintro ⟨rfl, _⟩; rw [hx3] at hx4; cases hx4; exact hg rfl; done) | (refine ⟨_, rfl, ?_, hS.sp⟩; rw [decide_eq_true]; rw [hd, List.drop_of_length_le (by omega), List.drop_of_length_le (by omega)]; done))
end Go.Proofs.YtjecflbbcnocdaaGreatDoor
namespace Go.Proofs.YtjecflbbcnocdaaGreatDoor
open Go.Lir
set_option maxHeartbeats 1000000
attribute [local irreducible] LC.wp Q3 Qt QA retQ Q1m LO.wp Qm Calls
set_option linter.unusedSimpArgs false
set_option linter.unusedVariables false
variable {cx : Cx} {w : World} {L : List Res} {i : Nat}
def Qpp : Block := ⟨0, [], [], ⟨3, 0, ⟨0, [], []⟩, ⟨0, [], []⟩, []⟩⟩
def leastM : Module := ⟨[⟨0, [], [], [Qpp]⟩]⟩
abbrev QiK (vc : Value) : List Value := [.int .i64 0, .slice none 0 0, vc, .int .i64 3, .int .i64 0, .int .i64 0, .slice none 0 0, .slice none 0 0, .int .i64 0, .slice none 0 0, .slice none 0 0, .slice none 0 0]
theorem least_c (hS : St cx w L) : Rets Tryz.prog Qmm [] w fun u w' => ∃ a b, u = .agg ⟨[.slice (some ⟨a, 0, none⟩) 1 1]⟩ ∧ St cx w' (blk a 43 [.int .i64 0, .slice none 0 0, .slice none 0 0, .slice (some ⟨b, 0, none⟩) 1 1] :: blk b 52 (QiK (.slice none 0 0)) :: L) := by
  all_goals refine Qml ?_
  all_goals (unfold Law_least_lc; refine Q0 ?_; refine Q1 ?_; refine Qe hS ?_; intro p0 w1 hS; refine zn ?_; refine Q0 ?_; refine Q1 ?_; refine zb1 [_, _, _, _, _, _, _, _, _] ?_; refine zb1 [_, _, _, _, _, _, _, _, _, _, _, _] ?_; refine Qf4 (cs := [_, _, _, _, _, _, _, _, _, _, _, _]) vw (by rfl) ?_; intro q1 w1 hb1 hf1 _ hk1; have hS := hS.laid hb1 hf1 hk1; refine zb1 [_, _, _, _] ?_; refine Qf4 (cs := [_, _, _, _]) vw (by rfl) ?_; intro q2 w1 hb1 hf1 _ hk1; have hS := hS.laid hb1 hf1 hk1; refine zb1 [_] ?_; refine zsn hS ?_; intro w1 hS; have hS := hS.ns; refine zn ?_; refine zr ?_; refine Q3V vw (Qi (n := 1) (by kernel_rfl) (by kernel_rfl) (hS.blkAt fd) (by rfl) (by rfl)) ?_; exact ⟨_, rfl, q2, q1, rfl, hS.sp⟩)
/-- Such a module, from now on only read. -/
theorem least_fz {a b : Nat} {code : List Ins} {vc : Value} (hk : insR.sl cx vc code) (hS : St cx w (blk a 43 [.int .i64 0, .slice none 0 0, .slice none 0 0, .slice (some ⟨b, 0, none⟩) 1 1] :: blk b 52 (QiK vc) :: L)) :
    ∃ c', cx.Le c' ∧ St c' w L ∧ modR.at c' [.slice (some ⟨a, 0, none⟩) 1 1] ⟨[⟨0, [], [], [⟨0, [], code, ⟨3, 0, ⟨0, [], []⟩, ⟨0, [], []⟩, []⟩⟩]⟩]⟩ := by
  have n1 : ∀ c : Cx, intR.sl c (.slice none 0 0) [] := fun c => Rep.SR.nil _ _ _
  have n2 : ∀ c : Cx, tyR.sl c (.slice none 0 0) [] := fun c => Rep.SR.nil _ _ _
  obtain ⟨c1, hle1, hS, h1⟩ := St.freeze1 (r := blockR) (x := ⟨0, [], code, ⟨3, 0, ⟨0, [], []⟩, ⟨0, [], []⟩, []⟩⟩) hS.mv1 (Qmc (x := ⟨0, [], code, ⟨3, 0, ⟨0, [], []⟩, ⟨0, [], []⟩, []⟩⟩) (n2 _) hk (n1 _) (n1 _) (n1 _) (n1 _) (n1 _))
  obtain ⟨c2, hle2, hS, h2⟩ := St.freeze1 (r := funcR) (x := ⟨0, [], [], [⟨0, [], code, ⟨3, 0, ⟨0, [], []⟩, ⟨0, [], []⟩, []⟩⟩]⟩) hS ⟨_, _, _, rfl, n2 _, n2 _, h1⟩
  exact ⟨c2, hle1.trans hle2, hS, _, rfl, h2⟩
end Go.Proofs.YtjecflbbcnocdaaGreatDoor
namespace Go.Proofs.YtjecflbbcnocdaaGreatDoor
open Go.Lir
set_option maxHeartbeats 1000000
attribute [local irreducible] LC.wp Q3 Qt QA retQ Q1m LO.wp Qm Calls
set_option linter.unusedSimpArgs false
set_option linter.unusedVariables false
theorem QlX : leastM.Short := by
  refine ⟨by decide, fun f hf => ?_⟩
  simp [leastM] at hf; subst hf
  refine ⟨⟨by decide, by simp⟩, ⟨by decide, by simp⟩, by decide, fun b hb => ?_⟩
  simp [Qpp] at hb; subst hb
  exact ⟨⟨by decide, by simp⟩, by decide, by simp, ⟨by decide, by decide⟩, ⟨by decide, by decide⟩, by decide⟩
theorem inI0 : InI 0 := ⟨by decide, by decide⟩
theorem inI3 : InI 3 := ⟨by decide, by decide⟩
theorem Qpo : leastM.InR := by
  intro f hf
  simp [leastM] at hf; subst hf
  refine ⟨inI0, by simp, by simp, fun b hb => ?_⟩
  simp [Qpp] at hb; subst hb
  exact ⟨inI0, by simp, by simp, inI3, inI0, ⟨inI0, by simp, by simp⟩, ⟨inI0, by simp, by simp⟩, by simp⟩
def Qnx : List UInt8 := [102, 117, 110, 99, 32, 48, 32, 40, 41, 32, 45, 62, 32, 40, 41, 32, 123, 10, 98, 108, 111, 99, 107, 32, 48, 32, 40, 41, 32, 123, 10, 9, 114, 101, 116, 32, 40, 41, 59, 10, 125, 10, 125, 10]
theorem QmR : Q1F leastM = (Qnx, (0, 0)) := by kernel_rfl
attribute [local irreducible] Q1F
variable {cx : Cx} {w : World} {L : List Res}
theorem least_pr {cs : List Value} (hx : modR.at cx cs leastM) (hT : PowT cx) (hS : St cx w L) : Rets Tryz.prog Q1u [.agg ⟨cs⟩] w fun u w' => u = .tuple #[strV Qnx, .agg ⟨[.int .i64 0, .int .i64 0]⟩] ∧ St cx w' L := by
  have h := QmA QlX Qpo hx hT hS
  rw [QmR] at h
  exact h
theorem Qke (hT : PowT cx) (hS : St cx w L) : Rets Tryz.prog Q7C [] w fun u w' => u = .bool true ∧ St cx w' L := by
  have n0 : ∀ c : Cx, insR.sl c (.slice none 0 0) [] := fun c => Rep.SR.nil _ _ _
  all_goals refine QbS ?_
  all_goals (unfold Law_renderBegun_lc; refine Q0 ?_; refine Q1 ?_; refine zm ?_; refine zn ?_; refine Q0 ?_; refine Q1 ?_; refine zR0 (c := least_c hS) (h := ?_); rintro v1 w1 ⟨la, lb, rfl, hS⟩; obtain ⟨c1, hle1, hS, hm1⟩ := least_fz (n0 _) hS; refine zR1 (c := least_pr hm1 (hT.up hle1) hS) (h := ?_); rintro v1 w1 ⟨rfl, hS⟩; refine zm ?_; refine Q3F rfl rfl ?_; refine Q3F rfl rfl ?_; refine Qe hS ?_; intro p2 w1 hS; refine zm ?_; refine zsn hS ?_; intro w1 hS; have hS := hS.ns; refine zn ?_; refine Q0 ?_; refine Q1 ?_; refine Q2 rfl ?_; refine zl hS ?_)
  all_goals (refine QB ?_)
  all_goals (refine zm ?_; (first | refine s_gn rfl rfl ?_ | (refine s_gy rfl ?_; refine zm ?_)); (first | refine s_gn rfl rfl ?_ | (refine s_gy rfl ?_; refine QoD rfl rfl rfl ?_)); refine zpt ?_; refine zm ?_; refine zn ?_; refine zr ?_; refine zf ?_; exact ⟨_, rfl, rfl, St.weak hS.sp hle1⟩)
end Go.Proofs.YtjecflbbcnocdaaGreatDoor
