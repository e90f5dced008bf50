/- Regions that are held: plain functions. -/
import Derived.Test.YtanlkfeogoganaaModR
namespace Go.Lir
set_option linter.unusedVariables false
def hasB (l : List Bool) (r : Int) : Bool := decide (0 ≤ r) && decide (r < l.length) && l.getD r.toNat false

/-- The numbers ahead of n that are held. -/
def heldTo (l : List Bool) (n : Nat) : List Int := ((List.range n).filter fun j => l.getD j false).map Int.ofNat
def heldL (l : List Bool) : List Int := heldTo l l.length
theorem heldTo_succ (l : List Bool) (n : Nat) : heldTo l (n + 1) = heldTo l n ++ if l.getD n false then [(n : Int)] else [] := by
  unfold heldTo
  rw [List.range_succ, List.filter_append, List.map_append]
  congr 1
  by_cases h : l.getD n false = true
  · rw [if_pos h, List.filter_cons_of_pos (by simpa using h)]; rfl
  · rw [if_neg h, List.filter_cons_of_neg (by simpa using h)]; rfl
theorem heldTo_len (l : List Bool) (n : Nat) : (heldTo l n).length ≤ n := by
  unfold heldTo
  rw [List.length_map]
  exact Nat.le_trans (List.length_filter_le _ _) (by simp)

/-- What Pass answers: of the numbers yet to come, behind those that were seen. -/
def passGo (l : List Bool) (seen : List Int) : List Int → Int
  | [] => if seen.length < (heldL l).length then 12 else 0
  | x :: xs => if hasB l x then if x ∈ seen then 13 else passGo l (seen ++ [x]) xs else 10
def seenB (l : List Bool) (ys : List Int) : List Bool := (List.range l.length).map fun (j : Nat) => decide ((j : Int) ∈ ys)
theorem seenB_len (l : List Bool) (ys : List Int) : (seenB l ys).length = l.length := by simp [seenB]
theorem seenB_nil (l : List Bool) : seenB l [] = List.replicate l.length false := by
  apply List.ext_getElem <;> simp [seenB]
theorem seenB_get {l : List Bool} {ys : List Int} {r : Int} (h0 : 0 ≤ r) (h1 : r < l.length) : (seenB l ys).getD r.toNat false = decide (r ∈ ys) := by
  have : r.toNat < l.length := by omega
  simp [seenB, List.getD_eq_getElem?_getD, List.getElem?_map, List.getElem?_range this, Int.toNat_of_nonneg h0]
theorem seenB_set {l : List Bool} {ys : List Int} {r : Int} (h0 : 0 ≤ r) : (seenB l ys).set r.toNat true = seenB l (ys ++ [r]) := by
  apply List.ext_getElem?
  intro j
  simp only [seenB, List.getElem?_set, List.getElem?_map, List.length_map, List.length_range]
  by_cases hj : j < l.length
  · simp only [List.getElem?_range hj, Option.map_some]
    by_cases he : r.toNat = j
    · subst he; simp [hj, Int.toNat_of_nonneg h0]
    · have : (j : Int) ≠ r := by omega
      simp [he, this]
  · have h2 : (List.range l.length)[j]? = none := by simp; omega
    simp only [h2, Option.map_none]
    by_cases he : r.toNat = j
    · subst he; simp [hj]
    · simp [he]
theorem hasB_iff {l : List Bool} {r : Int} (h : hasB l r = true) : 0 ≤ r ∧ r < l.length ∧ l.getD r.toNat false = true := by
  simp only [hasB, Bool.and_eq_true, decide_eq_true_eq] at h; exact ⟨h.1.1, h.1.2, h.2⟩

/-! ### What both answer is the same -/

end Go.Lir
