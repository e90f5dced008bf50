/- What the program and the document compute of a type value: plain functions (numbers of the api's constants as they are). -/
import Derived.Test.YtanlkfeogoganaaTyCod
namespace Go.Lir
set_option linter.unusedVariables false
mutual
/-- typeSize -/
def Ty.size : Ty → Int → Int
  | .mk _ _ l, left => Tys.size l (left - 1)
def Tys.size : List Ty → Int → Int
  | [], left => left
  | x :: l, left => if 0 ≤ left then Tys.size l (x.size left) else left
end
theorem Tys.size_neg : ∀ (l : List Ty) {left : Int}, left < 0 → Tys.size l left = left
  | [], _, _ => by simp [Tys.size]
  | x :: l, left, h => by rw [Tys.size, if_neg (by omega)]
mutual
/-- deep -/
def Ty.deepB : Ty → Int → Bool
  | .mk _ _ l, left => if left < 0 then false else Tys.deepB l (left - 1)
def Tys.deepB : List Ty → Int → Bool
  | [], _ => true
  | x :: l, left => x.deepB left && Tys.deepB l left
end
mutual
/-- DeepOf -/
def Ty.depth : Ty → Int → Int
  | .mk _ _ l, most => Tys.depth l most 0
def Tys.depth : List Ty → Int → Int → Int
  | [], _, n => n
  | x :: l, most, n => if n ≤ most then (if most = 0 then 1 else Tys.depth l most (if n < 1 + x.depth (most - 1) then 1 + x.depth (most - 1) else n)) else n
end
mutual
theorem Ty.depth_iff : ∀ (t : Ty) {most : Int}, 0 ≤ most → (t.depth most ≤ most ↔ t.deepB most = true)
  | .mk _ _ l, most, h => by
    rw [Ty.depth, Ty.deepB, if_neg (by omega), Tys.depth_iff l h]
    exact ⟨fun h => h.2, fun h2 => ⟨h, h2⟩⟩
theorem Tys.depth_iff : ∀ (l : List Ty) {most n : Int}, 0 ≤ most → (Tys.depth l most n ≤ most ↔ n ≤ most ∧ Tys.deepB l (most - 1) = true)
  | [], most, n, h => by rw [Tys.depth, Tys.deepB]; simp
  | x :: l, most, n, h => by
    rw [Tys.depth, Tys.deepB]
    by_cases hn : n ≤ most
    · rw [if_pos hn]
      by_cases h0 : most = 0
      · rw [if_pos h0]
        have : x.deepB (most - 1) = false := by obtain ⟨k, r, l2⟩ := x; rw [Ty.deepB, if_pos (by omega)]
        rw [this]; simp; omega
      · rw [if_neg h0, Tys.depth_iff l h]
        have := Ty.depth_iff x (most := most - 1) (by omega)
        rw [Bool.and_eq_true, ← this]
        constructor
        · rintro ⟨h1, h2⟩; split at h1 <;> exact ⟨by omega, by omega, h2⟩
        · rintro ⟨h1, h2, h3⟩; refine ⟨?_, h3⟩; split <;> omega
    · rw [if_neg hn]
      exact ⟨fun h => absurd h hn, fun h => h.1⟩
end
mutual
/-- Same -/
def Ty.same : Ty → Ty → Bool
  | .mk k r l, .mk k2 r2 l2 => decide (k = k2) && decide (r = r2) && Tys.same l l2
def Tys.same : List Ty → List Ty → Bool
  | [], [] => true
  | x :: l, y :: m => x.same y && Tys.same l m
  | [], _ :: _ => false
  | _ :: _, [] => false
end
mutual
theorem Ty.same_iff : ∀ (t u : Ty), t.same u = true ↔ t = u
  | .mk k r l, .mk k2 r2 l2 => by
    rw [Ty.same, Bool.and_eq_true, Bool.and_eq_true, Tys.same_iff l l2]
    simp only [decide_eq_true_eq, Ty.mk.injEq, and_assoc]
theorem Tys.same_iff : ∀ (l m : List Ty), Tys.same l m = true ↔ l = m
  | [], [] => by simp [Tys.same]
  | x :: l, y :: m => by rw [Tys.same, Bool.and_eq_true, Ty.same_iff x y, Tys.same_iff l m]; simp
  | [], _ :: _ => by simp [Tys.same]
  | _ :: _, [] => by simp [Tys.same]
end
instance : DecidableEq Ty := fun t u => decidable_of_iff _ (Ty.same_iff t u)
mutual
/-- wrong, typeFault -/
def Ty.wrong (fields : Nat) : Ty → Int → Int
  | .mk k r l, regs =>
    if k < 1 ∨ 4 < k then 3 else if k = 1 ∧ r ≠ 0 ∨ k ≠ 3 ∧ 0 < l.length then 4 else if fields < l.length then 2 else if k ≠ 1 ∧ (r < 0 ∨ regs ≤ r) then 1 else Tys.wrong fields l regs
def Tys.wrong (fields : Nat) : List Ty → Int → Int
  | [], _ => 0
  | x :: l, regs => if x.wrong fields regs ≠ 0 then x.wrong fields regs else Tys.wrong fields l regs
end
mutual
/-- Rename -/
def Ty.ren : Ty → List Int → Option Ty
  | .mk k r l, to => if k ≠ 1 ∧ (r < 0 ∨ (to.length : Int) ≤ r ∨ to.getD r.toNat 0 < 0) then none else
    match Tys.ren l to with
    | none => none
    | some m => some (.mk k (if k ≠ 1 then to.getD r.toNat 0 else r) m)
def Tys.ren : List Ty → List Int → Option (List Ty)
  | [], _ => some []
  | x :: l, to => match x.ren to with
    | none => none
    | some y => match Tys.ren l to with
      | none => none
      | some m => some (y :: m)
end
mutual
/-- Two renamings one behind the other are one. -/
theorem Ty.ren_ren {f g h : List Int} (hfg : ∀ i : Nat, i < f.length → 0 ≤ f.getD i 0 ∧ f.getD i 0 < g.length ∧ 0 ≤ g.getD (f.getD i 0).toNat 0 ∧ i < h.length ∧ h.getD i 0 = g.getD (f.getD i 0).toNat 0) :
    ∀ (t u : Ty), t.ren f = some u → ∃ v, u.ren g = some v ∧ t.ren h = some v
  | .mk k r l, u, ht => by
    rw [Ty.ren] at ht
    split at ht
    · cases ht
    · rename_i hc
      cases hl : Tys.ren l f with
      | none => rw [hl] at ht; cases ht
      | some m =>
        rw [hl] at ht
        simp only [Option.some.injEq] at ht
        obtain ⟨m2, h1, h2⟩ := Tys.ren_ren hfg l m hl
        subst ht
        by_cases hk : k = 1
        · refine ⟨.mk k r m2, ?_, ?_⟩
          · rw [Ty.ren, if_neg (by omega), h1]; simp [hk]
          · rw [Ty.ren, if_neg (by omega), h2]; simp [hk]
        · have := hfg r.toNat (by omega)
          refine ⟨.mk k (g.getD (f.getD r.toNat 0).toNat 0) m2, ?_, ?_⟩
          · rw [Ty.ren, if_pos hk, if_neg (by omega), h1]; simp [hk]
          · rw [Ty.ren, if_neg (by omega), h2]; simp only [if_pos hk, this.2.2.2.2]
theorem Tys.ren_ren {f g h : List Int} (hfg : ∀ i : Nat, i < f.length → 0 ≤ f.getD i 0 ∧ f.getD i 0 < g.length ∧ 0 ≤ g.getD (f.getD i 0).toNat 0 ∧ i < h.length ∧ h.getD i 0 = g.getD (f.getD i 0).toNat 0) :
    ∀ (t u : List Ty), Tys.ren t f = some u → ∃ v, Tys.ren u g = some v ∧ Tys.ren t h = some v
  | [], u, ht => by rw [Tys.ren] at ht; cases ht; exact ⟨[], by rw [Tys.ren], by rw [Tys.ren]⟩
  | x :: l, u, ht => by
    rw [Tys.ren] at ht
    cases hx : x.ren f with
    | none => rw [hx] at ht; cases ht
    | some y =>
      rw [hx] at ht
      cases hl : Tys.ren l f with
      | none => rw [hl] at ht; cases ht
      | some m =>
        rw [hl] at ht
        simp only [Option.some.injEq] at ht
        subst ht
        obtain ⟨y2, a1, a2⟩ := Ty.ren_ren hfg x y hx
        obtain ⟨m2, b1, b2⟩ := Tys.ren_ren hfg l m hl
        exact ⟨y2 :: m2, by rw [Tys.ren, a1, b1], by rw [Tys.ren, a2, b2]⟩
end
mutual
/-- What is renamed is as right as it was, if the renaming stays below the number of regions. -/
theorem Ty.ren_wrong {fields : Nat} {f : List Int} (hf : ∀ i : Nat, i < f.length → 0 ≤ f.getD i 0 ∧ f.getD i 0 < f.length) : ∀ (t u : Ty), t.ren f = some u → u.wrong fields f.length = t.wrong fields f.length
  | .mk k r l, u, ht => by
    rw [Ty.ren] at ht
    split at ht
    · cases ht
    · rename_i hc
      cases hl : Tys.ren l f with
      | none => rw [hl] at ht; cases ht
      | some m =>
        rw [hl] at ht
        simp only [Option.some.injEq] at ht
        subst ht
        obtain ⟨h1, h2⟩ := Tys.ren_wrong (fields := fields) hf l m hl
        by_cases hk : k = 1
        · rw [Ty.wrong, Ty.wrong, h1, h2]; simp [hk]
        · have := hf r.toNat (by omega)
          rw [Ty.wrong, Ty.wrong, h1, h2]
          simp only [if_pos hk]
          rw [if_neg (show ¬ (k ≠ 1 ∧ (f.getD r.toNat 0 < 0 ∨ (f.length : Int) ≤ f.getD r.toNat 0)) by omega), if_neg (show ¬ (k ≠ 1 ∧ (r < 0 ∨ (f.length : Int) ≤ r)) by omega)]
          simp [hk]
theorem Tys.ren_wrong {fields : Nat} {f : List Int} (hf : ∀ i : Nat, i < f.length → 0 ≤ f.getD i 0 ∧ f.getD i 0 < f.length) : ∀ (t u : List Ty), Tys.ren t f = some u → u.length = t.length ∧ Tys.wrong fields u f.length = Tys.wrong fields t f.length
  | [], u, ht => by rw [Tys.ren] at ht; cases ht; exact ⟨rfl, rfl⟩
  | x :: l, u, ht => by
    rw [Tys.ren] at ht
    cases hx : x.ren f with
    | none => rw [hx] at ht; cases ht
    | some y =>
      rw [hx] at ht
      cases hl : Tys.ren l f with
      | none => rw [hl] at ht; cases ht
      | some m =>
        rw [hl] at ht
        simp only [Option.some.injEq] at ht
        subst ht
        obtain ⟨h1, h2⟩ := Tys.ren_wrong (fields := fields) hf l m hl
        exact ⟨by simp [h1], by rw [Tys.wrong, Tys.wrong, Ty.ren_wrong hf x y hx, h2]⟩
end
mutual
/-- What cannot be renamed is wrong. -/
theorem Ty.ren_none {fields : Nat} {f : List Int} (hf : ∀ i : Nat, i < f.length → 0 ≤ f.getD i 0) : ∀ (t : Ty), t.ren f = none → t.wrong fields f.length ≠ 0
  | .mk k r l, ht => by
    rw [Ty.wrong]
    rw [Ty.ren] at ht
    split
    · decide
    · split
      · decide
      · split
        · decide
        · split
          · decide
          · rename_i h1 h2 h3 h4
            have hc : ¬ (k ≠ 1 ∧ (r < 0 ∨ (f.length : Int) ≤ r ∨ f.getD r.toNat 0 < 0)) := by
              rintro ⟨a, b⟩
              have := hf r.toNat
              omega
            rw [if_neg hc] at ht
            cases hl : Tys.ren l f with
            | none => exact Tys.ren_none hf l hl
            | some m => rw [hl] at ht; cases ht
theorem Tys.ren_none {fields : Nat} {f : List Int} (hf : ∀ i : Nat, i < f.length → 0 ≤ f.getD i 0) : ∀ (t : List Ty), Tys.ren t f = none → Tys.wrong fields t f.length ≠ 0
  | [], ht => by rw [Tys.ren] at ht; cases ht
  | x :: l, ht => by
    rw [Tys.ren] at ht
    rw [Tys.wrong]
    split
    · rename_i h; exact h
    · rename_i h
      cases hx : x.ren f with
      | none => exact absurd hx (fun hx => h (Ty.ren_none hf x hx))
      | some y =>
        rw [hx] at ht
        cases hl : Tys.ren l f with
        | none => exact Tys.ren_none hf l hl
        | some m => rw [hl] at ht; cases ht
end
mutual
theorem Ty.ren_deep {f : List Int} : ∀ (t u : Ty) (left : Int), t.ren f = some u → u.deepB left = t.deepB left
  | .mk k r l, u, left, ht => by
    rw [Ty.ren] at ht
    split at ht
    · cases ht
    · cases hl : Tys.ren l f with
      | none => rw [hl] at ht; cases ht
      | some m =>
        rw [hl] at ht
        simp only [Option.some.injEq] at ht
        subst ht
        rw [Ty.deepB, Ty.deepB, Tys.ren_deep l m (left - 1) hl]
theorem Tys.ren_deep {f : List Int} : ∀ (t u : List Ty) (left : Int), Tys.ren t f = some u → Tys.deepB u left = Tys.deepB t left
  | [], u, _, ht => by rw [Tys.ren] at ht; cases ht; rfl
  | x :: l, u, left, ht => by
    rw [Tys.ren] at ht
    cases hx : x.ren f with
    | none => rw [hx] at ht; cases ht
    | some y =>
      rw [hx] at ht
      cases hl : Tys.ren l f with
      | none => rw [hl] at ht; cases ht
      | some m =>
        rw [hl] at ht
        simp only [Option.some.injEq] at ht
        subst ht
        rw [Tys.deepB, Tys.deepB, Ty.ren_deep x y left hx, Tys.ren_deep l m left hl]
end
mutual
/-- The renaming that leaves all as it is. -/
theorem Ty.ren_id {f : List Int} (hf : ∀ i : Nat, i < f.length → f.getD i 0 = i) : ∀ (t u : Ty), t.ren f = some u → u = t
  | .mk k r l, u, ht => by
    rw [Ty.ren] at ht
    split at ht
    · cases ht
    · rename_i hc
      cases hl : Tys.ren l f with
      | none => rw [hl] at ht; cases ht
      | some m =>
        rw [hl] at ht
        simp only [Option.some.injEq] at ht
        subst ht
        rw [Tys.ren_id hf l m hl]
        by_cases hk : k = 1
        · simp [hk]
        · have := hf r.toNat (by omega)
          rw [if_pos hk, this, Int.toNat_of_nonneg (by omega)]
theorem Tys.ren_id {f : List Int} (hf : ∀ i : Nat, i < f.length → f.getD i 0 = i) : ∀ (t u : List Ty), Tys.ren t f = some u → u = t
  | [], u, ht => by rw [Tys.ren] at ht; cases ht; rfl
  | x :: l, u, ht => by
    rw [Tys.ren] at ht
    cases hx : x.ren f with
    | none => rw [hx] at ht; cases ht
    | some y =>
      rw [hx] at ht
      cases hl : Tys.ren l f with
      | none => rw [hl] at ht; cases ht
      | some m =>
        rw [hl] at ht
        simp only [Option.some.injEq] at ht
        subst ht
        rw [Ty.ren_id hf x y hx, Tys.ren_id hf l m hl]
end
/-- By the parts. -/
theorem Ty.ind {p : Ty → Prop} (h : ∀ k r l, (∀ x ∈ l, p x) → p (.mk k r l)) : ∀ t, p t
  | .mk k r l => h k r l fun x hx => Ty.ind h x
termination_by t => SizeOf.sizeOf t
decreasing_by
  have := List.sizeOf_lt_of_mem hx
  simp only [Ty.mk.sizeOf_spec]
  omega
mutual
theorem Ty.size_rng : ∀ (t : Ty) {left : Int}, 0 ≤ left → -1 ≤ t.size left ∧ t.size left < left
  | .mk _ _ l, left, h => by
    rw [Ty.size]
    have := Tys.size_rng l (left := left - 1) (by omega)
    omega
theorem Tys.size_rng : ∀ (l : List Ty) {left : Int}, -1 ≤ left → -1 ≤ Tys.size l left ∧ Tys.size l left ≤ left
  | [], left, h => by rw [Tys.size]; omega
  | x :: l, left, h => by
    rw [Tys.size]
    split
    · rename_i h0
      have h1 := Ty.size_rng x h0
      have h2 := Tys.size_rng l (left := x.size left) h1.1
      omega
    · omega
end
mutual
theorem Ty.size_mono : ∀ (t : Ty) {a b : Int}, a ≤ b → -1 ≤ a → t.size a ≤ t.size b
  | .mk _ _ l, a, b, h, ha => by
    rw [Ty.size, Ty.size]
    by_cases h0 : 0 ≤ a
    · exact Tys.size_mono l (by omega) (by omega)
    · rw [Tys.size_neg l (by omega)]
      by_cases hb : 0 ≤ b
      · have := Tys.size_rng l (left := b - 1) (by omega); omega
      · rw [Tys.size_neg l (by omega)]; omega
theorem Tys.size_mono : ∀ (l : List Ty) {a b : Int}, a ≤ b → -1 ≤ a → Tys.size l a ≤ Tys.size l b
  | [], a, b, h, _ => by rw [Tys.size, Tys.size]; exact h
  | x :: l, a, b, h, ha => by
    by_cases h0 : 0 ≤ a
    · rw [Tys.size, Tys.size, if_pos h0, if_pos (by omega)]
      exact Tys.size_mono l (Ty.size_mono x h ha) (Ty.size_rng x h0).1
    · rw [Tys.size_neg _ (by omega)]
      have := Tys.size_rng (x :: l) (left := b) (by omega); omega
end
/-- What is not too great has few parts, and none of them is too great. -/
theorem Tys.size_len : ∀ (l : List Ty) {left : Int}, 0 ≤ Tys.size l left → -1 ≤ left → (l.length : Int) ≤ left ∧ ∀ x ∈ l, 0 ≤ x.size left
  | [], left, h, _ => by rw [Tys.size] at h; simp; exact h
  | x :: l, left, h, hl => by
    rw [Tys.size] at h
    split at h
    · rename_i h0
      have h1 := Ty.size_rng x h0
      have h2 := Tys.size_len l h h1.1
      have h3 := Tys.size_rng l (left := x.size left) h1.1
      refine ⟨by simp only [List.length_cons]; omega, fun y hy => ?_⟩
      rcases List.mem_cons.1 hy with rfl | hy
      · omega
      · exact Int.le_trans (h2.2 y hy) (Ty.size_mono y (by omega) h1.1)
    · omega
/-- Check, TypeFault -/
def Ty.fault (t : Ty) (regs : Int) : Int := if t.deepB 4 = false then 19 else t.wrong 8 regs
mutual
theorem Ty.depth_rng : ∀ (t : Ty) {most : Int}, 0 ≤ most → 0 ≤ t.depth most ∧ t.depth most ≤ most + 1
  | .mk _ _ l, most, h => by
    rw [Ty.depth]
    exact Tys.depth_rng l h (by omega) (by omega)
theorem Tys.depth_rng : ∀ (l : List Ty) {most n : Int}, 0 ≤ most → 0 ≤ n → n ≤ most + 1 → 0 ≤ Tys.depth l most n ∧ Tys.depth l most n ≤ most + 1
  | [], most, n, _, h1, h2 => by rw [Tys.depth]; omega
  | x :: l, most, n, h, h1, h2 => by
    rw [Tys.depth]
    split
    · split
      · omega
      · have := Ty.depth_rng x (most := most - 1) (by omega)
        exact Tys.depth_rng l h (by split <;> omega) (by split <;> omega)
    · omega
end
/-- No list of parts is long. -/
inductive Ty.Short : Ty → Prop where
  | mk {k r : Int} {l : List Ty} : l.length ≤ 100000 → (∀ x ∈ l, x.Short) → Ty.Short (.mk k r l)
theorem Ty.Short.parts {k r : Int} {l : List Ty} (h : (Ty.mk k r l).Short) : l.length ≤ 100000 ∧ ∀ x ∈ l, x.Short := by
  cases h with | mk h1 h2 => exact ⟨h1, h2⟩
theorem Ty.short_of_size : ∀ (t : Ty) {n : Int}, n ≤ 100000 → 0 ≤ n → 0 ≤ t.size n → t.Short := by
  intro t
  induction t using Ty.ind with
  | h k r l ih =>
    intro n h1 h0 h
    rw [Ty.size] at h
    obtain ⟨h2, h3⟩ := Tys.size_len l h (by omega)
    refine .mk (by omega) fun x hx => ?_
    have hp := h3 x hx
    have hl := List.length_pos_of_mem hx
    exact ih x hx (n := n - 1) (by omega) (by omega) hp
/-- GreatType, greatTypes -/
def Ty.great (t : Ty) : Bool := decide (t.size 2000 < 0)
def Tys.great (l : List Ty) : Bool := decide (200 < l.length) || l.any Ty.great
theorem Ty.short_of_great {t : Ty} (h : t.great = false) : t.Short := Ty.short_of_size t (n := 2000) (by omega) (by omega) (by unfold Ty.great at h; simp at h; exact h)
theorem Tys.short_of_great {l : List Ty} (h : Tys.great l = false) : l.length ≤ 200 ∧ ∀ x ∈ l, x.Short := by
  unfold Tys.great at h
  rw [Bool.or_eq_false_iff] at h
  refine ⟨by have := of_decide_eq_false h.1; omega, fun x hx => Ty.short_of_great ?_⟩
  cases hg : x.great with
  | false => rfl
  | true => have := List.any_eq_true.2 ⟨x, hx, hg⟩; rw [h.2] at this; cases this
end Go.Lir
