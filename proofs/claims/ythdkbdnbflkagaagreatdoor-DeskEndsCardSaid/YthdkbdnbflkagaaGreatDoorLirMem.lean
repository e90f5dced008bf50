/- Memory: blocks, what stays, slices. -/
import Derived.Test.YthdkbdnbflkagaaGreatDoorLirDraw
import Derived.Below
namespace Go.Lir
open Go.RowKit (Below)

abbrev Heap := Array Obj

/-- The block b holds just these cells (none of them may not be written). -/
def Blk (H : Heap) (b : Nat) (T : TypeId) (cs : List Value) : Prop := ∃ fz, H[b]? = some (.cells ⟨cs⟩ T fz) ∧ (∀ i, fz.1 ≤ i → i < fz.2 → cs.length ≤ i) ∧ fz.1 ≤ fz.2

/-- What was there and is not of F is as it was; nothing is told outside. -/
structure Fr (F : Nat → Prop) (w w' : World) : Prop where
  os : w'.os = w.os
  tape : w'.tape = w.tape
  output : w'.output = w.output
  size : w.heap.size ≤ w'.heap.size
  same : ∀ b, b < w.heap.size → ¬ F b → w'.heap[b]? = w.heap[b]?

abbrev NF : Nat → Prop := fun _ => False

theorem Fr.refl (F : Nat → Prop) (w : World) : Fr F w w := ⟨rfl, rfl, rfl, Nat.le_refl _, fun _ _ _ => rfl⟩
theorem Fr.drew {F : Nat → Prop} {w w' : World} (h : Fr F w.drew w') : Fr F w w' := ⟨h.os, h.tape, h.output, h.size, h.same⟩
theorem Fr.drew' {F : Nat → Prop} {w w' : World} (h : Fr F w w') : Fr F w w'.drew := ⟨h.os, h.tape, h.output, h.size, h.same⟩
theorem Fr.mono {F G : Nat → Prop} {w w' : World} (h : Fr F w w') (hs : ∀ b, b < w.heap.size → F b → G b) : Fr G w w' :=
  ⟨h.os, h.tape, h.output, h.size, fun b hb hg => h.same b hb fun hf => hg (hs b hb hf)⟩
theorem Fr.trans {F G : Nat → Prop} {w w' w'' : World} (h : Fr F w w') (k : Fr G w' w'') (hs : ∀ b, b < w.heap.size → G b → F b) : Fr F w w'' :=
  ⟨k.os.trans h.os, k.tape.trans h.tape, k.output.trans h.output, Nat.le_trans h.size k.size, fun b hb hf =>
    (k.same b (Nat.lt_of_lt_of_le hb h.size) fun hg => hf (hs b hb hg)).trans (h.same b hb hf)⟩
theorem Fr.below {w w' : World} (h : Fr NF w w') : Below w.heap.size w w' := ⟨h.os, h.tape, h.output, h.size, fun k hk => h.same k hk (fun h => h)⟩
theorem Fr.any {F : Nat → Prop} {w w' : World} (h : Fr NF w w') : Fr F w w' := h.mono fun _ _ h => h.elim

theorem Blk.lt {H : Heap} {b : Nat} {T : TypeId} {cs : List Value} (h : Blk H b T cs) : b < H.size := by
  obtain ⟨fz, h, _⟩ := h
  rcases Nat.lt_or_ge b H.size with h' | h'
  · exact h'
  · simp [Array.getElem?_eq_none h'] at h
theorem Blk.of_same {H H' : Heap} {b : Nat} {T : TypeId} {cs : List Value} (h : Blk H b T cs) (he : H'[b]? = H[b]?) : Blk H' b T cs := by
  obtain ⟨fz, h, h2⟩ := h; exact ⟨fz, he.trans h, h2⟩
theorem Blk.fr {F : Nat → Prop} {w w' : World} {b : Nat} {T : TypeId} {cs : List Value} (h : Blk w.heap b T cs) (hf : Fr F w w') (hn : ¬ F b) : Blk w'.heap b T cs :=
  h.of_same (hf.same b h.lt hn)
theorem Blk.inj {H : Heap} {b : Nat} {T T' : TypeId} {cs cs' : List Value} (h : Blk H b T cs) (h' : Blk H b T' cs') : T = T' ∧ cs = cs' := by
  obtain ⟨fz, h, _⟩ := h
  obtain ⟨fz', h', _⟩ := h'
  rw [h] at h'
  simp only [Option.some.injEq, Obj.cells.injEq, Array.mk.injEq] at h'
  exact ⟨h'.2.1, h'.1⟩
theorem Blk.ne {H : Heap} {b b' : Nat} {T T' : TypeId} {cs cs' : List Value} (h : Blk H b T cs) (h' : Blk H b' T' cs') (ht : T ≠ T') : b ≠ b' := by
  rintro rfl; exact ht (h.inj h').1
theorem Blk.cell {w : World} {b : Nat} {T : TypeId} {cs : List Value} {i : Nat} {v : Value} (h : Blk w.heap b T cs) (hv : cs[i]? = some v) : w.cell? ⟨b, i, none⟩ = some v := by
  obtain ⟨fz, h, _⟩ := h
  simp [World.cell?, h, hv]
theorem Blk.free {w : World} {b : Nat} {T : TypeId} {cs : List Value} {i : Nat} (h : Blk w.heap b T cs) (hi : i < cs.length) : w.frozen? ⟨b, i, none⟩ = false := by
  obtain ⟨⟨lo, hi'⟩, h, h2⟩ := h
  simp only [World.frozen?, h]
  have := h2.1 i
  simp only at this
  simp only [Bool.and_eq_false_iff, decide_eq_false_iff_not]
  omega

theorem add_addr (b o n : Nat) : (Addr.mk b o none).add n = ⟨b, o + n, none⟩ := by
  unfold Addr.add; split
  · rename_i h; subst h; rfl
  · rfl

theorem Blk.cells {w : World} {b : Nat} {T : TypeId} {cs vs : List Value} {o n : Nat} (h : Blk w.heap b T cs) (hv : (cs.drop o).take n = vs) (hl : vs.length = n) : cellsAt w ⟨b, o, none⟩ n vs := by
  refine ⟨hl, fun j hj => ?_⟩
  rw [add_addr]
  have : vs[j]? = cs[o + j]? := by rw [← hv, List.getElem?_take_of_lt hj, List.getElem?_drop]
  rw [this]
  have hlt : o + j < cs.length := by
    have h1 : vs.length = min n (cs.length - o) := by rw [← hv]; simp
    omega
  rw [List.getElem?_eq_getElem hlt]
  exact h.cell (List.getElem?_eq_getElem hlt)

/-- One block's cells are others now. -/
theorem fr_setCell (w : World) (b i : Nat) (v : Value) : Fr (· = b) w (w.setCell ⟨b, i, none⟩ v) := by
  refine ⟨rfl, rfl, rfl, by simp, fun k _ hk => ?_⟩
  simp only [World.setCell, Array.getElem?_modify]
  rw [if_neg (fun e => hk e.symm)]
theorem Blk.set {w : World} {b : Nat} {T : TypeId} {cs : List Value} {i : Nat} {v : Value} (h : Blk w.heap b T cs) : Blk (w.setCell ⟨b, i, none⟩ v).heap b T (cs.set i v) := by
  obtain ⟨fz, h, h2⟩ := h
  refine ⟨fz, ?_, by simpa using h2.1, h2.2⟩
  simp only [World.setCell, Array.getElem?_modify, h, if_true, Option.map_some, Option.isSome_none]
  simp

theorem fr_alloc (w : World) (o : Obj) : Fr NF w (w.alloc o) := by
  refine ⟨rfl, rfl, rfl, by simp, fun k hk _ => ?_⟩
  simp only [World.alloc, Array.getElem?_push]
  rw [if_neg (by omega)]
theorem blk_alloc (w : World) (cs : List Value) (T : TypeId) : Blk (w.alloc (.cells ⟨cs⟩ T)).heap w.heap.size T cs := by
  refine ⟨(0, 0), ?_, ⟨fun i h1 h2 => by simp at h2, by simp⟩⟩
  show (w.heap.push _)[w.heap.size]? = _
  simp

theorem storeCells_blk (P : Program) (b : Nat) (T : TypeId) : ∀ (vs : List Value) (w : World) (cs : List Value) (o i : Nat), Blk w.heap b T cs → o + i + vs.length ≤ cs.length → (∀ v ∈ vs, oneC v = true) →
    ∃ w', (storeCells ⟨b, o, none⟩ vs i).run P w = .ok () w' ∧ Fr (· = b) w w' ∧ w'.heap.size = w.heap.size ∧ Blk w'.heap b T (cs.take (o + i) ++ (vs ++ cs.drop (o + i + vs.length))) := by
  intro vs
  induction vs with
  | nil => intro w cs o i h _ _; exact ⟨w, by simp [storeCells], Fr.refl _ _, rfl, by simpa using h⟩
  | cons v vs ih =>
    intro w cs o i h hl ho
    simp only [List.length_cons] at hl
    have h1 := ho v (by simp)
    have h1' : v.oneCell' = true := by cases v <;> simp_all [Value.oneCell', oneC]
    have hc : w.cell? ⟨b, o + i, none⟩ = some (cs[o + i]'(by omega)) := h.cell (List.getElem?_eq_getElem (by omega))
    have hf := h.free (w := w) (i := o + i) (by omega)
    obtain ⟨w', h2, h3, h4, h5⟩ := ih (w.setCell ⟨b, o + i, none⟩ v) (cs.set (o + i) v) o (i + 1) h.set (by simp; omega) (fun x hx => ho x (by simp [hx]))
    refine ⟨w', ?_, (fr_setCell w b (o + i) v).trans h3 (fun _ _ h => h), h4.trans (by simp), ?_⟩
    · simp only [storeCells, Sem.run_bind, add_addr, run_store P w _ _ .plain h1', hc, hf, Bool.false_eq_true, if_false, Result.andThen_ok]
      exact h2
    · have e : cs.take (o + i) ++ (v :: vs ++ cs.drop (o + i + (v :: vs).length)) = (cs.set (o + i) v).take (o + (i + 1)) ++ (vs ++ (cs.set (o + i) v).drop (o + (i + 1) + vs.length)) := by
        have hlt : o + i < cs.length := by omega
        rw [List.set_eq_take_append_cons_drop, if_pos hlt]
        have hm : (cs.take (o + i)).length = o + i := by simp; omega
        have e1 : List.take (o + (i + 1)) (cs.take (o + i) ++ v :: cs.drop (o + i + 1)) = cs.take (o + i) ++ [v] := by
          rw [List.take_append, hm, List.take_of_length_le (by omega), show o + (i + 1) - (o + i) = 1 by omega]; rfl
        have e2 : List.drop (o + (i + 1) + vs.length) (cs.take (o + i) ++ v :: cs.drop (o + i + 1)) = cs.drop (o + i + (v :: vs).length) := by
          rw [List.drop_append, hm, List.drop_of_length_le (by omega), show o + (i + 1) + vs.length - (o + i) = vs.length + 1 by omega]
          simp [Nat.add_comm, Nat.add_left_comm, Nat.add_assoc]
        rw [e1, e2]; simp
      rw [e]; exact h5

end Go.Lir
