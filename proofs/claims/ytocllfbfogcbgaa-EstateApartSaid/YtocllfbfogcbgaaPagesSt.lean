/- The reference's pages as a thing of the state. -/
import Derived.Test.YtocllfbfogcbgaaPoolSt
namespace Go.Proofs.Ytocllfbfogcbgaa
open Go.Lir
attribute [local irreducible] LC.wp opsWp thenQ blockQ retQ resWp LO.wp callPost Calls
set_option linter.unusedSimpArgs false
set_option linter.unusedVariables false

def pagesX (q : Value) (s : PoolS) : Res where
  A H F := PagesH H q F s.n s.ws s.fr
  loc := by
    rintro H H' F ⟨b, vw, vf, nx, fd, Fw, Ff, h⟩ hs
    have hG := h.hG
    exact ⟨b, vw, vf, nx, fd, Fw, Ff, h.hq, h.blk.of_same (hs b ((hG b).2 (.inl rfl)) h.blk.lt), h.sw.of_same (fun x hx => hs x ((hG x).2 (.inr (.inl hx)))), h.sf.of_same (fun x hx => hs x ((hG x).2 (.inr (.inr hx)))), h.nw, h.nf, h.wf, h.hG, h.hfr, h.hnx, h.ok⟩
  lt := PagesH.lt
  ext := by
    rintro H F G ⟨b, vw, vf, nx, fd, Fw, Ff, h⟩ hs
    exact ⟨b, vw, vf, nx, fd, Fw, Ff, h.hq, h.blk, h.sw, h.sf, h.nw, h.nf, h.wf, fun x => (hs x).symm.trans (h.hG x), h.hfr, h.hnx, h.ok⟩
structure PagesO (q : Value) (s : PoolS) (b : Nat) (nx : Nat) (fd : List Int) : Prop where
  hq : q = .pointer (some ⟨b, 0, none⟩)
  hfr : s.fr = freeTo s.n (s.n - nx) ++ fd
  hnx : nx ≤ s.n
  ok : s.Ok
variable {cx : Cx} {w : World} {L : List Res} {i : Nat} {q : Value} {s : PoolS}
theorem pages_open (hS : St cx w (pagesX q s :: L)) : ∃ b vw vf nx fd, PagesO q s b nx fd ∧ St cx w (blk b 57 [vw, vf, .int .i64 nx, .int .i64 s.n] :: sl 2 1 vw (s.ws.map icell) :: sl 3 1 vf (fd.map icell) :: L) := by
  have h := hS.imp (r' := Res.ex fun x : Nat × Value × Value × Nat × List Int => Res.pure (PagesO q s x.1 x.2.2.2.1 x.2.2.2.2) (star (blk x.1 57 [x.2.1, x.2.2.1, .int .i64 x.2.2.2.1, .int .i64 s.n]) (star (sl 2 1 x.2.1 (s.ws.map icell)) (sl 3 1 x.2.2.1 (x.2.2.2.2.map icell))))) ?_
  · obtain ⟨⟨b, vw, vf, nx, fd⟩, h⟩ := h.ex
    obtain ⟨h1, h2⟩ := h.pure
    exact ⟨b, vw, vf, nx, fd, h1, h2.star.mv1.star.mv2⟩
  · rintro H F ⟨b, vw, vf, nx, fd, Fw, Ff, h⟩
    exact ⟨(b, vw, vf, nx, fd), ⟨h.hq, h.hfr, h.hnx, h.ok⟩, (· = b), fun x => Fw x ∨ Ff x, ⟨h.blk, fun _ => Iff.rfl⟩, ⟨Fw, Ff, h.sw, h.sf, h.wf, fun _ => Iff.rfl⟩, fun x hx => by subst hx; rintro (h' | h'); exact h.nw h'; exact h.nf h', h.hG⟩
theorem pages_close {b : Nat} {vw vf : Value} {nx : Nat} {fd : List Int} (h : PagesO q s b nx fd) (hS : St cx w (blk b 57 [vw, vf, .int .i64 nx, .int .i64 s.n] :: sl 2 1 vw (s.ws.map icell) :: sl 3 1 vf (fd.map icell) :: L)) : St cx w (pagesX q s :: L) := by
  have h2 : St cx w (star (blk b 57 [vw, vf, .int .i64 nx, .int .i64 s.n]) (star (sl 2 1 vw (s.ws.map icell)) (sl 3 1 vf (fd.map icell))) :: L) := (hS.mv2.mv2.star'.mv1).star'
  refine h2.imp ?_
  rintro H F ⟨F1, F2, ⟨h1, e1⟩, ⟨F3, F4, h3, h4, h5, h6⟩, h7, h8⟩
  refine ⟨b, vw, vf, nx, fd, F3, F4, h.hq, h1, h3, h4, fun hb => h7 b ((e1 b).2 rfl) ((h6 b).2 (.inl hb)), fun hb => h7 b ((e1 b).2 rfl) ((h6 b).2 (.inr hb)), h5, fun x => by rw [h8 x, e1 x, h6 x], h.hfr, h.hnx, h.ok⟩
theorem pagesX_ok (hS : St cx w L) (hi : nth L i = some (pagesX q s)) : s.Ok := by
  obtain ⟨F, hr, _⟩ := hS.step hi
  obtain ⟨b, vw, vf, nx, fd, Fw, Ff, h⟩ := hr
  exact h.ok
theorem rfree_x (hS : St cx w L) (hi : nth L i = some (pagesX q s)) : Rets Try.prog R_Pages_Free [q] w fun v w' => v = .int .i64 s.fr.length ∧ St cx w' L := by
  obtain ⟨F, hr, _⟩ := hS.step hi
  exact (rfree_c hr).mono fun v w' ⟨h, h2⟩ => ⟨h, hS.fr0 h2⟩
theorem rtake_x (hS : St cx w L) (hi : nth L i = some (pagesX q s)) : Rets Try.prog R_Pages_Take [q] w fun v w' => v = .int .i64 s.top ∧ St cx w' (L.set i (pagesX q s.take)) := by
  obtain ⟨F, hr, _, hst⟩ := hS.step hi
  rcases PoolS.split (pagesX_ok hS hi) with ⟨h1, h2, h3⟩ | ⟨k, fr, h1, h2, h3⟩
  · rw [h2, h3, set_self hi]
    have hr' : PagesH w.heap q F s.n s.ws [] := h1 ▸ hr
    exact (rtake_none_c hr').mono fun v w' ⟨h, h2⟩ => ⟨h, hS.fr0 h2⟩
  · rw [h2, h3]
    have hr' : PagesH w.heap q F s.n s.ws (fr ++ [(k : Int)]) := by rw [h1] at hr; exact hr
    exact (rtake_c hr').mono fun v w' ⟨h, h4, h5⟩ => ⟨h, hst w' F _ h4 (Step.same h5)⟩
theorem rgive_x (k : Int) (hS : St cx w L) (hi : nth L i = some (pagesX q s)) : Rets Try.prog R_Pages_Give [q, .int .i64 k] w fun v w' => v = .bool (s.can k) ∧ St cx w' (L.set i (pagesX q (s.give k))) := by
  obtain ⟨F, hr, _, hst⟩ := hS.step hi
  unfold PoolS.give
  by_cases hc : 0 ≤ k ∧ k < s.n ∧ k ∉ s.fr
  · have e : s.can k = true := decide_eq_true hc
    rw [e, if_pos rfl]
    obtain ⟨k, rfl⟩ := Int.eq_ofNat_of_zero_le hc.1
    exact (rgive_c hr (by omega) hc.2.2).mono fun v w' ⟨h, F', h4, h5⟩ => ⟨h, hst w' F' _ h4 h5⟩
  · have e : s.can k = false := decide_eq_false hc
    rw [e, if_neg (by simp), set_self hi]
    refine (rgive_no_c hr ?_).mono fun v w' ⟨h, h2⟩ => ⟨h, h2 ▸ hS⟩
    by_cases h1 : k < 0
    · exact .inl h1
    · by_cases h2 : (s.n : Int) ≤ k
      · exact .inr (.inl h2)
      · exact .inr (.inr (Classical.not_not.1 fun h3 => hc ⟨by omega, by omega, h3⟩))
theorem rnew_x (n : Nat) (hS : St cx w L) (hn : n ≤ 64) : Rets Try.prog R_NewPages [.int .i64 n] w fun v w' => ∃ b, v = .pointer (some ⟨b, 0, none⟩) ∧ St cx w' (pagesX (.pointer (some ⟨b, 0, none⟩)) (PoolS.mk0 n) :: L) := by
  refine (rnew_c w hn).mono ?_
  rintro v w' ⟨G, h2, h3, h4⟩
  have h2' := h2
  obtain ⟨b, _, _, _, _, _, _, h5⟩ := h2'
  have hp := h5.hq
  subst hp
  exact ⟨b, rfl, hS.new (r := pagesX _ (PoolS.mk0 n)) h2 h3 h4⟩
end Go.Proofs.Ytocllfbfogcbgaa
