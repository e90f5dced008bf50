/- More codecs: structs of four and five fields. -/
import Derived.Test.YthdkbdnbflkagaaGreatDoorLirRd
import Derived.Test.YthdkbdnbflkagaaGreatDoorLirMore
namespace Go.Lir
section
variable {P : Program} {T t0 t1 t2 t3 t4 : TypeId} {α β γ δ ε : Type} {o0 s0 o1 s1 o2 s2 o3 s3 o4 s4 : Nat}
def Cod.st2 (a : Cod P t0 α) (b : Cod P t1 β) (h0 : fieldAt P T 0 = some (o0, s0, t0)) (h1 : fieldAt P T 1 = some (o1, s1, t1))
    (n : Nat) (hn : P.cellsOf T = n) : Cod P T (α × β) where
  es := n
  rd := fun H cs x => cs.length = n ∧ a.rd H ((cs.drop o0).take s0) x.1 ∧ b.rd H ((cs.drop o1).take s1) x.2
  size := hn
  len := fun _ _ _ h => h.1
  stay := fun H H' cs x h hH => ⟨h.1, a.stay _ _ _ _ h.2.1 hH, b.stay _ _ _ _ h.2.2 hH⟩
  open_ := fun enc w fuel cs y h hfit => by
    obtain ⟨hl, n0, z0, g0, u0⟩ := struct_part h h0 hfit
    obtain ⟨_, n1, z1, g1, u1⟩ := struct_part h h1 hfit
    obtain ⟨x0, e0⟩ := a.open_ enc w _ _ _ g0 u0
    obtain ⟨x1, e1⟩ := b.open_ enc w _ _ _ g1 u1
    exact ⟨(x0, x1), by rw [hl, hn], e0, e1⟩
def Cod.st4 (a : Cod P t0 α) (b : Cod P t1 β) (c : Cod P t2 γ) (d : Cod P t3 δ) (h0 : fieldAt P T 0 = some (o0, s0, t0)) (h1 : fieldAt P T 1 = some (o1, s1, t1))
    (h2 : fieldAt P T 2 = some (o2, s2, t2)) (h3 : fieldAt P T 3 = some (o3, s3, t3)) (n : Nat) (hn : P.cellsOf T = n) : Cod P T (α × β × γ × δ) where
  es := n
  rd := fun H cs x => cs.length = n ∧ a.rd H ((cs.drop o0).take s0) x.1 ∧ b.rd H ((cs.drop o1).take s1) x.2.1 ∧ c.rd H ((cs.drop o2).take s2) x.2.2.1 ∧ d.rd H ((cs.drop o3).take s3) x.2.2.2
  size := hn
  len := fun _ _ _ h => h.1
  stay := fun H H' cs x h hH => ⟨h.1, a.stay _ _ _ _ h.2.1 hH, b.stay _ _ _ _ h.2.2.1 hH, c.stay _ _ _ _ h.2.2.2.1 hH, d.stay _ _ _ _ h.2.2.2.2 hH⟩
  open_ := fun enc w fuel cs y h hfit => by
    obtain ⟨hl, n0, z0, g0, u0⟩ := struct_part h h0 hfit
    obtain ⟨_, n1, z1, g1, u1⟩ := struct_part h h1 hfit
    obtain ⟨_, n2, z2, g2, u2⟩ := struct_part h h2 hfit
    obtain ⟨_, n3, z3, g3, u3⟩ := struct_part h h3 hfit
    obtain ⟨x0, e0⟩ := a.open_ enc w _ _ _ g0 u0
    obtain ⟨x1, e1⟩ := b.open_ enc w _ _ _ g1 u1
    obtain ⟨x2, e2⟩ := c.open_ enc w _ _ _ g2 u2
    obtain ⟨x3, e3⟩ := d.open_ enc w _ _ _ g3 u3
    exact ⟨(x0, x1, x2, x3), by rw [hl, hn], e0, e1, e2, e3⟩
def Cod.st5 (a : Cod P t0 α) (b : Cod P t1 β) (c : Cod P t2 γ) (d : Cod P t3 δ) (e : Cod P t4 ε) (h0 : fieldAt P T 0 = some (o0, s0, t0)) (h1 : fieldAt P T 1 = some (o1, s1, t1))
    (h2 : fieldAt P T 2 = some (o2, s2, t2)) (h3 : fieldAt P T 3 = some (o3, s3, t3)) (h4 : fieldAt P T 4 = some (o4, s4, t4)) (n : Nat) (hn : P.cellsOf T = n) : Cod P T (α × β × γ × δ × ε) where
  es := n
  rd := fun H cs x => cs.length = n ∧ a.rd H ((cs.drop o0).take s0) x.1 ∧ b.rd H ((cs.drop o1).take s1) x.2.1 ∧ c.rd H ((cs.drop o2).take s2) x.2.2.1 ∧ d.rd H ((cs.drop o3).take s3) x.2.2.2.1 ∧ e.rd H ((cs.drop o4).take s4) x.2.2.2.2
  size := hn
  len := fun _ _ _ h => h.1
  stay := fun H H' cs x h hH => ⟨h.1, a.stay _ _ _ _ h.2.1 hH, b.stay _ _ _ _ h.2.2.1 hH, c.stay _ _ _ _ h.2.2.2.1 hH, d.stay _ _ _ _ h.2.2.2.2.1 hH, e.stay _ _ _ _ h.2.2.2.2.2 hH⟩
  open_ := fun enc w fuel cs y h hfit => by
    obtain ⟨hl, n0, z0, g0, u0⟩ := struct_part h h0 hfit
    obtain ⟨_, n1, z1, g1, u1⟩ := struct_part h h1 hfit
    obtain ⟨_, n2, z2, g2, u2⟩ := struct_part h h2 hfit
    obtain ⟨_, n3, z3, g3, u3⟩ := struct_part h h3 hfit
    obtain ⟨_, n4, z4, g4, u4⟩ := struct_part h h4 hfit
    obtain ⟨x0, e0⟩ := a.open_ enc w _ _ _ g0 u0
    obtain ⟨x1, e1⟩ := b.open_ enc w _ _ _ g1 u1
    obtain ⟨x2, e2⟩ := c.open_ enc w _ _ _ g2 u2
    obtain ⟨x3, e3⟩ := d.open_ enc w _ _ _ g3 u3
    obtain ⟨x4, e4⟩ := e.open_ enc w _ _ _ g4 u4
    exact ⟨(x0, x1, x2, x3, x4), by rw [hl, hn], e0, e1, e2, e3, e4⟩
end
/-- What each of a list's parts has, chosen at once. -/
theorem choose_list {α β : Type} {xs : List α} {R : α → β → Prop} (h : ∀ x ∈ xs, ∃ y, R x y) : ∃ ys : List β, ys.length = xs.length ∧ ∀ (m : Nat) (x : α), xs[m]? = some x → ∃ y, ys[m]? = some y ∧ R x y := by
  induction xs with
  | nil => exact ⟨[], rfl, by simp⟩
  | cons x xs ih =>
    obtain ⟨ys, h1, h2⟩ := ih fun z hz => h z (List.mem_cons_of_mem _ hz)
    obtain ⟨y, hy⟩ := h x (List.mem_cons_self ..)
    refine ⟨y :: ys, by simp [h1], fun m z hz => ?_⟩
    cases m with
    | zero => simp only [List.getElem?_cons_zero, Option.some.injEq] at hz; subst hz; exact ⟨y, rfl, hy⟩
    | succ m => exact h2 m z (by simpa using hz)
/-- A slice's elements, read as f of what a list tells. -/
theorem slice_rd {α β : Type} {n : Nat} {H : Heap} {v : Value} {xs : List α} (rd : List Value → α → Prop)
    (h : ∃ v' css, [v] = [v'] ∧ SlR H n v' (fun _ => True) css ∧ css.length = xs.length ∧ xs.length ≤ 140737488355328 ∧ ∀ (m : Nat) (x : α), xs[m]? = some x → ∃ d, css[m]? = some d ∧ rd d x) (f : β → List Value) (R : β → Prop) (hd : ∀ d x, rd d x → ∃ y, d = f y ∧ R y) :
    ∃ ys : List β, SlR H n v (fun _ => True) (ys.map f) ∧ ys.length = xs.length ∧ ys.length ≤ 140737488355328 ∧ ∀ y ∈ ys, R y := by
  obtain ⟨v', css, hv, h1, h2, h3, h4⟩ := h
  simp only [List.cons.injEq, and_true] at hv
  subst hv
  obtain ⟨ys, g1, g2⟩ := choose_list (xs := css) (R := fun d y => d = f y ∧ R y) (by
    intro d hd'
    obtain ⟨m, hm⟩ := List.mem_iff_getElem?.1 hd'
    have hlt := (List.getElem?_eq_some_iff.1 hm).1
    obtain ⟨d', h5, h6⟩ := h4 m xs[m] (List.getElem?_eq_getElem (by omega))
    rw [hm] at h5; cases h5
    exact hd d _ h6)
  have e : css = ys.map f := by
    refine List.ext_getElem? fun m => ?_
    rw [List.getElem?_map]
    rcases Nat.lt_or_ge m css.length with hm | hm
    · obtain ⟨y, h5, h6, _⟩ := g2 m _ (List.getElem?_eq_getElem hm)
      rw [h5, List.getElem?_eq_getElem hm, h6]; rfl
    · rw [List.getElem?_eq_none hm, List.getElem?_eq_none (by omega)]; rfl
  refine ⟨ys, by rw [← e]; exact h1, by omega, by omega, fun y hy => ?_⟩
  obtain ⟨m, hm⟩ := List.mem_iff_getElem?.1 hy
  have hlt := (List.getElem?_eq_some_iff.1 hm).1
  obtain ⟨y', h5, _, h7⟩ := g2 m _ (List.getElem?_eq_getElem (by omega : m < css.length))
  rw [hm] at h5; cases h5; exact h7
end Go.Lir
