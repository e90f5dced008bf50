/- append, make, clear. -/
import Derived.Test.YtanlkfeogoganaaLirSl
namespace Go.Lir

/-- What may be appended: a value that reads as these elements. -/
def Src (P : Program) (w : World) (es : Nat) (v : Value) (css : List (List Value)) : Prop :=
  (Builtin.lenOf v).run P w = .ok css.length w ∧ (∀ c ∈ css, c.length = es) ∧ (∀ c ∈ css, ∀ u ∈ c, oneC u = true) ∧
  ∀ w', (∀ b, b < w.heap.size → w'.heap[b]? = w.heap[b]?) → (Builtin.firstCells es css.length v).run P w' = .ok ⟨css.flatten⟩ w'

theorem Sl.src {P : Program} {w : World} {T : TypeId} {es : Nat} {v : Value} {F : Nat → Prop} {css : List (List Value)} (h : Sl w.heap T es v F css) (ho : ∀ c ∈ css, ∀ u ∈ c, oneC u = true) : Src P w es v css := by
  have hlen := h.1
  refine ⟨?_, hlen, ho, ?_⟩
  · obtain ⟨a, c, hv⟩ := h.shape; rw [hv]; rfl
  · intro w' hw'
    obtain ⟨_, ⟨hv, hc, _⟩ | ⟨b, off, cap, arr, hv, g1, g2, g3, g4, g5⟩⟩ := h
    · subst hv hc; rfl
    · subst hv
      have g2' := g2.of_same (hw' b g2.lt)
      simp only [Builtin.firstCells]
      refine run_loadCells_cells _ _ _ ⟨flatten_len hlen, fun j hj => ?_⟩
      rw [add_addr]
      have hfl := flatten_len hlen
      have hm := Nat.mul_le_mul_right es g1
      have := g4 j (by omega)
      rw [List.getElem?_eq_getElem (show j < css.flatten.length from hfl ▸ hfl ▸ hj)] at this ⊢
      exact g2'.cell this

/-- A block of one element or more that was just laid. -/
theorem Sl.fresh {H : Heap} {b : Nat} {T : TypeId} {es : Nat} {css : List (List Value)} {cs : List Value} (hb : Blk H b T cs) (hf : css.flatten = cs) (hl : ∀ c ∈ css, c.length = es) {n : Nat} (hn : css.length = n) :
    Sl H T es (.slice (some ⟨b, 0, none⟩) n n) (· = b) css := by
  subst hn hf
  refine ⟨hl, .inr ⟨b, 0, css.length, css.flatten, rfl, Nat.le_refl _, hb, ?_, ?_, fun x => Iff.rfl⟩⟩
  · rw [flatten_len hl]; omega
  · intro i _; rw [Nat.zero_add]

section
variable {P : Program} {l : List GO} {Q : QT} {ρ : Env} {w : World}

end
end Go.Lir
