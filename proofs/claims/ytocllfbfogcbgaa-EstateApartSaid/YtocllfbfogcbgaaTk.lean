/- The pages that are taken. -/
import Derived.Test.YtocllfbfogcbgaaPoolSt
namespace Go.Proofs.Ytocllfbfogcbgaa
open Go.Lir
attribute [local irreducible] LC.wp opsWp thenQ blockQ retQ resWp LO.wp callPost Calls
set_option linter.unusedSimpArgs false
set_option linter.unusedVariables false

def TkOk (s : PoolS) (tk : List Int) : Prop := tk.Nodup ∧ ∀ k, k ∈ tk ↔ s.can k = true
theorem can_iff {s : PoolS} {k : Int} : s.can k = true ↔ 0 ≤ k ∧ k < s.n ∧ k ∉ s.fr := decide_eq_true_iff
theorem TkOk.len {s : PoolS} {tk : List Int} (h : TkOk s tk) (ok : s.Ok) : tk.length + s.fr.length = s.n := by
  have hnd : (tk ++ s.fr).Nodup := List.nodup_append.2 ⟨h.1, ok.nd, fun a ha b hb e => by subst e; exact (can_iff.1 ((h.2 a).1 ha)).2.2 hb⟩
  have h1 := nodup_len_le (b := freeTo s.n s.n) hnd fun x hx => (mem_freeTo (Nat.le_refl _)).2 (by
    rcases List.mem_append.1 hx with hx | hx
    · have := can_iff.1 ((h.2 x).1 hx); omega
    · have := ok.rng x hx; omega)
  have h2 := nodup_len_le (b := tk ++ s.fr) (nodup_freeTo (Nat.le_refl s.n)) fun x hx => by
    have := (mem_freeTo (Nat.le_refl _)).1 hx
    by_cases hm : x ∈ s.fr
    · exact List.mem_append_right _ hm
    · exact List.mem_append_left _ ((h.2 x).2 (can_iff.2 ⟨by omega, by omega, hm⟩))
  rw [freeTo_len, List.length_append] at *; omega
theorem TkOk.new {n : Nat} : TkOk (PoolS.mk0 n) [] := ⟨List.nodup_nil, fun k => ⟨fun h => absurd h (by simp), fun h => by
  obtain ⟨h1, h2, h3⟩ := can_iff.1 h
  exact absurd ((mem_freeTo (Nat.le_refl n)).2 (by simp only [PoolS.mk0] at h2; omega)) h3⟩⟩
theorem TkOk.take {s : PoolS} {tk : List Int} (h : TkOk s tk) (ok : s.Ok) {k : Nat} {fr : List Int} (h1 : s = ⟨s.n, s.ws, fr ++ [(k : Int)]⟩) (h2 : s.top = k) (h3 : s.take = ⟨s.n, clearPg s.ws k, fr⟩) : s.top ∉ tk ∧ k < s.n ∧ TkOk s.take (tk ++ [s.top]) := by
  have ok' : PoolOk s.n s.ws (fr ++ [(k : Int)]) := by rw [h1] at ok; exact ok
  obtain ⟨_, hk, hkn⟩ := ok'.take
  have hfr : s.fr = fr ++ [(k : Int)] := by rw [h1]
  have hnot : (k : Int) ∉ tk := fun hm => (can_iff.1 ((h.2 k).1 hm)).2.2 (by rw [hfr]; simp)
  refine ⟨by rw [h2]; exact hnot, hk, ?_, fun x => ?_⟩
  · rw [h2]; exact List.nodup_append.2 ⟨h.1, by simp, fun a ha b hb e => by simp at hb; subst hb; subst e; exact hnot ha⟩
  · rw [h2, List.mem_append, List.mem_singleton, h.2 x, can_iff, can_iff, h3, hfr, List.mem_append, List.mem_singleton]
    constructor
    · rintro (⟨h1, h2, h3⟩ | rfl)
      · exact ⟨h1, h2, fun h => h3 (.inl h)⟩
      · exact ⟨by omega, by simpa using hk, hkn⟩
    · rintro ⟨h1, h2, h3⟩
      by_cases hx : x = k
      · exact .inr hx
      · exact .inl ⟨h1, h2, fun h => h.elim h3 hx⟩
theorem take_word {s : PoolS} (ok : s.Ok) {k : Nat} {fr : List Int} (h2 : s.top = k) (h3 : s.take = ⟨s.n, clearPg s.ws k, fr⟩) (hk : k < s.n) {j : Nat} (hj : j < 16) : s.take.isIn (s.top * 16 + j) = true ∧ s.take.word (s.top * 16 + j) = 0 := by
  have e : s.take.isIn (s.top * 16 + j) = true := by rw [h2, h3]; exact decide_eq_true ⟨by omega, by simp only; omega⟩
  refine ⟨e, ?_⟩
  unfold PoolS.word
  rw [if_pos e, h2, h3]
  have hw := ok.len
  rw [show ((k : Int) * 16 + j).toNat = k * 16 + j by omega, ← clrTo_all hw hk, clrTo_get _ _ _ _ (by omega), if_pos (by omega)]
theorem give_len {s : PoolS} {tk : List Int} (h : TkOk s tk) (k : Int) : (tk.filter fun y => decide (y ≠ k)).length < tk.length ↔ s.can k = true := by
  rw [← h.2 k, List.length_filter_lt_length_iff_exists]
  constructor
  · rintro ⟨x, hx, hn⟩
    have : x = k := by simpa using hn
    exact this ▸ hx
  · intro hk; exact ⟨k, hk, by simp⟩
theorem TkOk.give {s : PoolS} {tk : List Int} (h : TkOk s tk) (k : Int) : TkOk (s.give k) (tk.filter fun y => decide (y ≠ k)) := by
  refine ⟨h.1.filter _, fun x => ?_⟩
  rw [List.mem_filter, h.2 x, can_iff, can_iff, decide_eq_true_iff, PoolS.n_give]
  unfold PoolS.give
  split
  · simp only [List.mem_append, List.mem_singleton, not_or]
    constructor
    · rintro ⟨⟨h1, h2, h3⟩, h4⟩; exact ⟨h1, h2, h3, h4⟩
    · rintro ⟨h1, h2, h3, h4⟩; exact ⟨⟨h1, h2, h3⟩, h4⟩
  · rename_i hc
    constructor
    · rintro ⟨h1, _⟩; exact h1
    · intro h1; exact ⟨h1, fun e => hc (by subst e; exact can_iff.2 h1)⟩
theorem TkOk.store {s : PoolS} {tk : List Int} (h : TkOk s tk) (k x : Int) : TkOk (s.store k x) tk := ⟨h.1, fun y => by rw [h.2 y, can_iff, can_iff, PoolS.n_store, PoolS.fr_store]⟩
theorem filt_t {p : Int → Bool} {l : List Int} {j : Nat} (h : j < l.length) (hp : p (l.getD j 0) = true) : (((l.take (j + 1)).filter p).map icell) = ((l.take j).filter p).map icell ++ [icell (l.getD j 0)] := by
  rw [take_succ_getD 0 h, List.filter_append, List.filter_cons_of_pos hp, List.filter_nil, List.map_append]; rfl
theorem filt_f {p : Int → Bool} {l : List Int} {j : Nat} (h : j < l.length) (hp : ¬ p (l.getD j 0) = true) : (((l.take (j + 1)).filter p).map icell) = ((l.take j).filter p).map icell := by
  rw [take_succ_getD 0 h, List.filter_append, List.filter_cons_of_neg hp, List.filter_nil, List.append_nil]

theorem TkOk.perm {s : PoolS} {l l' : List Int} (h : TkOk s l) (hp : l.Perm l') : TkOk s l' := ⟨hp.nodup_iff.1 h.1, fun k => by rw [← h.2 k]; exact hp.mem_iff.symm⟩
def PoolS.gives (s : PoolS) (l : List Int) : PoolS := l.foldl PoolS.give s
theorem PoolS.n_gives {l : List Int} : ∀ {s : PoolS}, (s.gives l).n = s.n := by
  induction l with
  | nil => intro s; rfl
  | cons k l ih => intro s; exact (ih (s := s.give k)).trans PoolS.n_give
theorem PoolS.ok_gives {l : List Int} : ∀ {s : PoolS}, s.Ok → (s.gives l).Ok := by
  induction l with
  | nil => intro s h; exact h
  | cons k l ih => intro s h; exact ih (s := s.give k) (PoolS.ok_give h k)
theorem gives_succ {s : PoolS} {l : List Int} {j : Nat} (h : j < l.length) : s.gives (l.take (j + 1)) = (s.gives (l.take j)).give (l.getD j 0) := by
  rw [take_succ_getD 0 h]; simp [PoolS.gives, List.foldl_append]
theorem TkOk.gives {l rest : List Int} : ∀ {s : PoolS}, TkOk s (l ++ rest) → TkOk (s.gives l) rest := by
  induction l with
  | nil => intro s h; exact h
  | cons k l ih =>
    intro s h
    have h1 := h.give k
    have hnd := h.1
    rw [List.cons_append, List.nodup_cons] at hnd
    have e : ((k :: l ++ rest).filter fun y => decide (y ≠ k)) = l ++ rest := by
      rw [List.cons_append, List.filter_cons_of_neg (by simp)]
      exact List.filter_eq_self.2 fun y hy => decide_eq_true fun e => hnd.1 (e ▸ hy)
    rw [e] at h1
    exact ih h1
theorem get_perm {α : Type} : ∀ {l : List α} {k : Nat} {x : α}, l[k]? = some x → l.Perm (x :: l.eraseIdx k)
  | [], _, _, h => by simp at h
  | y :: l, 0, x, h => by simp at h; subst h; exact .refl _
  | y :: l, k + 1, x, h => ((get_perm (l := l) (by simpa using h)).cons y).trans (.swap _ _ _)
theorem set_perm {α : Type} : ∀ {l : List α} {k : Nat} {x : α}, k < l.length → (l.set k x).Perm (x :: l.eraseIdx k)
  | [], _, _, h => by simp at h
  | y :: l, 0, x, h => .refl _
  | y :: l, k + 1, x, h => ((set_perm (l := l) (by simpa using h)).cons y).trans (.swap _ _ _)
end Go.Proofs.Ytocllfbfogcbgaa
