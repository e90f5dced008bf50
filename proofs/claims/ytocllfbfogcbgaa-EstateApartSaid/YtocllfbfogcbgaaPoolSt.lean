/- The pool as a thing of the state; its functions as functions of what it holds. -/
import Derived.Test.YtocllfbfogcbgaaPages
import Derived.Test.YtocllfbfogcbgaaLirSt
namespace Go.Proofs.Ytocllfbfogcbgaa
open Go.Lir
attribute [local irreducible] LC.wp opsWp thenQ blockQ retQ resWp LO.wp callPost Calls
set_option linter.unusedSimpArgs false
set_option linter.unusedVariables false

structure PoolS where
  n : Nat
  ws : List Int
  fr : List Int
def PoolS.Ok (s : PoolS) : Prop := PoolOk s.n s.ws s.fr
def PoolS.mk0 (n : Nat) : PoolS := ⟨n, List.replicate (n * 16) 0, freeTo n n⟩
/-- the page that comes next, or -1 -/
def PoolS.top (s : PoolS) : Int := s.fr.getLastD (-1)
def PoolS.take (s : PoolS) : PoolS := if s.fr = [] then s else ⟨s.n, clearPg s.ws s.top.toNat, s.fr.dropLast⟩
def PoolS.can (s : PoolS) (k : Int) : Bool := decide (0 ≤ k ∧ k < s.n ∧ k ∉ s.fr)
def PoolS.give (s : PoolS) (k : Int) : PoolS := if s.can k then ⟨s.n, s.ws, s.fr ++ [k]⟩ else s
def PoolS.isIn (s : PoolS) (i : Int) : Bool := decide (0 ≤ i ∧ i < ((s.n * 16 : Nat) : Int))
def PoolS.store (s : PoolS) (i x : Int) : PoolS := if s.isIn i then ⟨s.n, s.ws.set i.toNat x, s.fr⟩ else s
def PoolS.word (s : PoolS) (i : Int) : Int := if s.isIn i then s.ws.getD i.toNat 0 else 0

theorem PoolS.ok_new {n : Nat} (h : n ≤ 64) : (PoolS.mk0 n).Ok := poolOk_new h
theorem PoolS.split {s : PoolS} (h : s.Ok) : (s.fr = [] ∧ s.top = -1 ∧ s.take = s) ∨ ∃ (k : Nat) (fr : List Int), s = ⟨s.n, s.ws, fr ++ [(k : Int)]⟩ ∧ s.top = k ∧ s.take = ⟨s.n, clearPg s.ws k, fr⟩ := by
  obtain ⟨n, ws, fr⟩ := s
  rcases List.eq_nil_or_concat fr with rfl | ⟨fr, k, rfl⟩
  · exact .inl ⟨rfl, rfl, rfl⟩
  · simp only [List.concat_eq_append] at h ⊢
    have hk := h.rng k (by simp)
    refine .inr ⟨k.toNat, fr, by rw [Int.toNat_of_nonneg hk.1], ?_, ?_⟩
    · simp [PoolS.top]; omega
    · simp [PoolS.take, PoolS.top]
theorem PoolS.ok_take {s : PoolS} (h : s.Ok) : s.take.Ok := by
  rcases PoolS.split h with ⟨_, _, e⟩ | ⟨k, fr, e, _, e2⟩
  · rw [e]; exact h
  · rw [e2]; rw [e] at h; exact (PoolOk.take h).1
theorem PoolS.ok_give {s : PoolS} (h : s.Ok) (k : Int) : (s.give k).Ok := by
  unfold PoolS.give PoolS.can
  split
  · rename_i hc
    have hc := of_decide_eq_true hc
    obtain ⟨k, rfl⟩ := Int.eq_ofNat_of_zero_le hc.1
    exact PoolOk.give (n := s.n) h (by omega) hc.2.2
  · exact h
theorem PoolS.ok_store {s : PoolS} (h : s.Ok) (i x : Int) : (s.store i x).Ok := by
  unfold PoolS.store
  split
  · exact PoolOk.store h
  · exact h
theorem PoolS.n_take {s : PoolS} : s.take.n = s.n := by unfold PoolS.take; split <;> rfl
theorem PoolS.n_give {s : PoolS} {k : Int} : (s.give k).n = s.n := by unfold PoolS.give; split <;> rfl
theorem PoolS.n_store {s : PoolS} {i x : Int} : (s.store i x).n = s.n := by unfold PoolS.store; split <;> rfl
theorem PoolS.fr_store {s : PoolS} {i x : Int} : (s.store i x).fr = s.fr := by unfold PoolS.store; split <;> rfl

def poolX (p : Value) (s : PoolS) : Res where
  A H F := PoolH H p F s.n s.ws s.fr
  loc := by
    rintro H H' F ⟨b, vw, vl, vt, Fw, Fl, Ft, h⟩ hs
    have hF := h.hF
    exact ⟨b, vw, vl, vt, Fw, Fl, Ft, h.hp, h.blk.of_same (hs b ((hF b).2 (.inl rfl)) h.blk.lt), h.sw.of_same (fun x hx => hs x ((hF x).2 (.inr (.inl hx)))), h.sl.of_same (fun x hx => hs x ((hF x).2 (.inr (.inr (.inl hx))))),
      h.st.of_same (fun x hx => hs x ((hF x).2 (.inr (.inr (.inr hx))))), h.nw, h.nl, h.nt, h.wl, h.wt, h.lt, h.hF, h.ok⟩
  lt := PoolH.lt
  ext := by
    rintro H F G ⟨b, vw, vl, vt, Fw, Fl, Ft, h⟩ hs
    exact ⟨b, vw, vl, vt, Fw, Fl, Ft, h.hp, h.blk, h.sw, h.sl, h.st, h.nw, h.nl, h.nt, h.wl, h.wt, h.lt, fun x => (hs x).symm.trans (h.hF x), h.ok⟩
theorem poolX_ok {cx : Cx} {w : World} {L : List Res} {i : Nat} {p : Value} {s : PoolS} (hS : St cx w L) (hi : nth L i = some (poolX p s)) : s.Ok := by
  obtain ⟨F, hr, _⟩ := hS.step hi
  obtain ⟨b, vw, vl, vt, Fw, Fl, Ft, h⟩ := hr
  exact h.ok
theorem poolX_ptr {cx : Cx} {w : World} {L : List Res} {i : Nat} {p : Value} {s : PoolS} (hS : St cx w L) (hi : nth L i = some (poolX p s)) : ∃ b, p = .pointer (some ⟨b, 0, none⟩) := by
  obtain ⟨F, hr, _⟩ := hS.step hi
  obtain ⟨b, vw, vl, vt, Fw, Fl, Ft, h⟩ := hr
  exact ⟨b, h.hp⟩
theorem set_self : ∀ {L : List Res} {i : Nat} {r : Res}, nth L i = some r → L.set i r = L
  | [], _, _, h => by cases h
  | s :: L, 0, r, h => by simp only [nth, Option.some.injEq] at h; subst h; rfl
  | s :: L, i + 1, r, h => by rw [List.set_cons_succ, set_self (L := L) (i := i) h]

variable {cx : Cx} {w : World} {L : List Res} {i : Nat} {p : Value} {s : PoolS}
theorem free_x (hS : St cx w L) (hi : nth L i = some (poolX p s)) : Rets Try.prog pool_Pool_Free [p] w fun v w' => v = .int .i64 s.fr.length ∧ St cx w' L := by
  obtain ⟨F, hr, _⟩ := hS.step hi
  exact (free_c hr).mono fun v w' ⟨h, h2⟩ => ⟨h, h2 ▸ hS⟩
theorem take_x (hS : St cx w L) (hi : nth L i = some (poolX p s)) : Rets Try.prog pool_Pool_Take [p] w fun v w' => v = .int .i64 s.top ∧ St cx w' (L.set i (poolX p s.take)) := by
  obtain ⟨F, hr, _, hst⟩ := hS.step hi
  rcases PoolS.split (poolX_ok hS hi) with ⟨h1, h2, h3⟩ | ⟨k, fr, h1, h2, h3⟩
  · rw [h2, h3, set_self hi]
    have hr' : PoolH w.heap p F s.n s.ws [] := h1 ▸ hr
    exact (take_none_c hr').mono fun v w' ⟨h, h2⟩ => ⟨h, h2 ▸ hS⟩
  · rw [h2, h3]
    have hr' : PoolH w.heap p F s.n s.ws (fr ++ [(k : Int)]) := by rw [h1] at hr; exact hr
    exact (take_c hr').mono fun v w' ⟨h, h4, h5⟩ => ⟨h, hst w' F _ h4 (Step.same h5)⟩
theorem give_x (k : Int) (hS : St cx w L) (hi : nth L i = some (poolX p s)) : Rets Try.prog pool_Pool_Give [p, .int .i64 k] w fun v w' => v = .bool (s.can k) ∧ St cx w' (L.set i (poolX p (s.give k))) := by
  obtain ⟨F, hr, _, hst⟩ := hS.step hi
  unfold PoolS.give
  by_cases hc : 0 ≤ k ∧ k < s.n ∧ k ∉ s.fr
  · have e : s.can k = true := decide_eq_true hc
    rw [e, if_pos rfl]
    obtain ⟨k, rfl⟩ := Int.eq_ofNat_of_zero_le hc.1
    exact (give_c hr (by omega) hc.2.2).mono fun v w' ⟨h, F', h4, h5⟩ => ⟨h, hst w' F' _ h4 h5⟩
  · have e : s.can k = false := decide_eq_false hc
    rw [e, if_neg (by simp), set_self hi]
    refine (give_no_c hr ?_).mono fun v w' ⟨h, h2⟩ => ⟨h, h2 ▸ hS⟩
    by_cases h1 : k < 0
    · exact .inl h1
    · by_cases h2 : (s.n : Int) ≤ k
      · exact .inr (.inl h2)
      · exact .inr (.inr (Classical.not_not.1 fun h3 => hc ⟨by omega, by omega, h3⟩))
theorem store_x (j x : Int) (hS : St cx w L) (hi : nth L i = some (poolX p s)) : Rets Try.prog pool_Pool_Store [p, .int .i64 j, .int .i64 x] w fun v w' => v = .bool (s.isIn j) ∧ St cx w' (L.set i (poolX p (s.store j x))) := by
  obtain ⟨F, hr, _, hst⟩ := hS.step hi
  unfold PoolS.store
  by_cases hc : 0 ≤ j ∧ j < ((s.n * 16 : Nat) : Int)
  · have e : s.isIn j = true := decide_eq_true hc
    rw [e, if_pos rfl]
    obtain ⟨j, rfl⟩ := Int.eq_ofNat_of_zero_le hc.1
    exact (store_c hr (by omega)).mono fun v w' ⟨h, h4, h5⟩ => ⟨h, hst w' F _ h4 (Step.same h5)⟩
  · have e : s.isIn j = false := decide_eq_false hc
    rw [e, if_neg (by simp), set_self hi]
    exact (store_no_c hr (by omega)).mono fun v w' ⟨h, h2⟩ => ⟨h, h2 ▸ hS⟩
theorem load_x (j : Int) (hS : St cx w L) (hi : nth L i = some (poolX p s)) : Rets Try.prog pool_Pool_Load [p, .int .i64 j] w fun v w' => v = .tuple #[.int .i64 (s.word j), .bool (s.isIn j)] ∧ St cx w' L := by
  obtain ⟨F, hr, _⟩ := hS.step hi
  unfold PoolS.word
  by_cases hc : 0 ≤ j ∧ j < ((s.n * 16 : Nat) : Int)
  · have e : s.isIn j = true := decide_eq_true hc
    rw [e, if_pos rfl]
    obtain ⟨j, rfl⟩ := Int.eq_ofNat_of_zero_le hc.1
    exact (load_c hr (by omega)).mono fun v w' ⟨h, h2⟩ => ⟨h, h2 ▸ hS⟩
  · have e : s.isIn j = false := decide_eq_false hc
    rw [e, if_neg (by simp)]
    exact (load_no_c hr (by omega)).mono fun v w' ⟨h, h2⟩ => ⟨h, h2 ▸ hS⟩
theorem words_x (hS : St cx w L) (hi : nth L i = some (poolX p s)) : Rets Try.prog pool_Pool_Words [p] w fun v w' => St cx w' (sl 2 1 v (s.ws.map icell) :: L) := by
  obtain ⟨F, hr, _⟩ := hS.step hi
  exact (words_c hr).mono fun v w' ⟨F', h, h2, h3⟩ => hS.new h h2 h3
/-- pool.New -/
theorem new_x (n : Int) (hS : St cx w L) : Rets Try.prog pool_New [.int .i64 n] w fun v w' =>
    (n < 0 ∨ 64 < n) ∧ v = .tuple #[.pointer none, .agg ⟨[.int .i64 1, .int .i64 (-1)]⟩] ∧ St cx w' L ∨
    ∃ (m : Nat) (b : Nat), n = m ∧ m ≤ 64 ∧ v = .tuple #[.pointer (some ⟨b, 0, none⟩), .agg ⟨[.int .i64 0, .int .i64 0]⟩] ∧ St cx w' (poolX (.pointer (some ⟨b, 0, none⟩)) (PoolS.mk0 m) :: L) := by
  by_cases hc : n < 0 ∨ 64 < n
  · exact (new_bad_c w hc).mono fun v w' ⟨h, h2⟩ => .inl ⟨hc, h, hS.fr0 h2⟩
  · obtain ⟨m, rfl⟩ := Int.eq_ofNat_of_zero_le (show 0 ≤ n by omega)
    refine (new_c w (show m ≤ 64 by omega)).mono ?_
    rintro v w' ⟨p, F, h, h2, h3, h4⟩
    have h2' := h2
    obtain ⟨b, _, _, _, _, _, _, h5⟩ := h2'
    have hp := h5.hp
    subst hp
    exact .inr ⟨m, b, rfl, by omega, h, hS.new (r := poolX _ (PoolS.mk0 m)) h2 h3 h4⟩
theorem in_x {v : Value} {T : TypeId} {xs : List Int} (x : Int) (hS : St cx w L) (hi : nth L i = some (sl T 1 v (xs.map icell))) (hl : xs.length ≤ 9223372036854775807) : Rets Try.prog R_In [v, .int .i64 x] w fun v w' => v = .bool (decide (x ∈ xs)) ∧ St cx w' L := by
  obtain ⟨F, hr, _⟩ := hS.step hi
  exact (in_c x (Sl.toR hr) hl).mono fun v w' ⟨h, h2⟩ => ⟨h, h2 ▸ hS⟩
end Go.Proofs.Ytocllfbfogcbgaa
