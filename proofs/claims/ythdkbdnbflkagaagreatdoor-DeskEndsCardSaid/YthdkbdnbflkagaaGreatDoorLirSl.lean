/- Slices that a call owns or reads. -/
import Derived.Test.YthdkbdnbflkagaaGreatDoorLirStep
namespace Go.Lir

/-- The slice v, of elements of es cells of a block of the type T, reads as css, and lies in F (one block, or none). -/
def Sl (H : Heap) (T : TypeId) (es : Nat) (v : Value) (F : Nat → Prop) (css : List (List Value)) : Prop :=
  (∀ c ∈ css, c.length = es) ∧
  ((v = .slice none 0 0 ∧ css = [] ∧ ∀ b, ¬ F b) ∨
   ∃ b off cap arr, v = .slice (some ⟨b, off, none⟩) css.length cap ∧ css.length ≤ cap ∧ Blk H b T arr ∧ off + cap * es ≤ arr.length ∧
     (∀ i, i < css.length * es → arr[off + i]? = css.flatten[i]?) ∧ ∀ x, F x ↔ x = b)

theorem flatten_get {es : Nat} : ∀ {css : List (List Value)}, (∀ c ∈ css, c.length = es) → ∀ {m j : Nat} {c : List Value}, css[m]? = some c → j < es → css.flatten[m * es + j]? = c[j]? := by
  intro css
  induction css with
  | nil => intro _ m j c h; simp at h
  | cons a css ih =>
    intro hl m j c h hj
    have ha := hl a (by simp)
    cases m with
    | zero =>
      simp at h; subst h
      simp only [List.flatten_cons, Nat.zero_mul, Nat.zero_add]
      rw [List.getElem?_append_left (by omega)]
    | succ m =>
      simp at h
      have := ih (fun c hc => hl c (by simp [hc])) h hj
      simp only [List.flatten_cons]
      rw [List.getElem?_append_right (by rw [ha, Nat.succ_mul]; omega), ha, ← this]
      congr 1
      rw [Nat.succ_mul]; omega

theorem flatten_len {es : Nat} : ∀ {css : List (List Value)}, (∀ c ∈ css, c.length = es) → css.flatten.length = css.length * es := by
  intro css
  induction css with
  | nil => intro _; simp
  | cons a css ih =>
    intro hl
    simp only [List.flatten_cons, List.length_append, List.length_cons, ih (fun c hc => hl c (by simp [hc])), hl a (by simp), Nat.succ_mul]
    omega

theorem Sl.nil (H : Heap) (T : TypeId) (es : Nat) : Sl H T es (.slice none 0 0) NF [] := ⟨by simp, .inl ⟨rfl, rfl, fun _ h => h⟩⟩

theorem Sl.shape {H : Heap} {T : TypeId} {es : Nat} {v : Value} {F : Nat → Prop} {css : List (List Value)} (h : Sl H T es v F css) : ∃ a c, v = .slice a css.length c := by
  obtain ⟨_, ⟨h, h2, _⟩ | ⟨b, off, cap, arr, h, _⟩⟩ := h
  · subst h2; exact ⟨_, _, h⟩
  · exact ⟨_, _, h⟩

theorem Sl.lt {H : Heap} {T : TypeId} {es : Nat} {v : Value} {F : Nat → Prop} {css : List (List Value)} (h : Sl H T es v F css) : ∀ b, F b → b < H.size := by
  obtain ⟨_, ⟨_, _, h⟩ | ⟨b, off, cap, arr, _, _, hb, _, _, hf⟩⟩ := h
  · intro b hb; exact absurd hb (h b)
  · intro x hx; rw [(hf x).1 hx]; exact hb.lt

theorem Sl.of_same {H H' : Heap} {T : TypeId} {es : Nat} {v : Value} {F : Nat → Prop} {css : List (List Value)} (h : Sl H T es v F css) (hs : ∀ b, F b → b < H.size → H'[b]? = H[b]?) : Sl H' T es v F css := by
  obtain ⟨h0, h1 | ⟨b, off, cap, arr, h1, h2, hb, h3, h4, hf⟩⟩ := h
  · exact ⟨h0, .inl h1⟩
  · exact ⟨h0, .inr ⟨b, off, cap, arr, h1, h2, hb.of_same (hs b ((hf b).2 rfl) hb.lt), h3, h4, hf⟩⟩

theorem Sl.fr {F G : Nat → Prop} {w w' : World} {T : TypeId} {es : Nat} {v : Value} {css : List (List Value)} (h : Sl w.heap T es v F css) (hf : Fr G w w') (hn : ∀ b, F b → ¬ G b) : Sl w'.heap T es v F css :=
  h.of_same fun b hb hlt => hf.same b hlt (hn b hb)

theorem Sl.fr0 {F : Nat → Prop} {w w' : World} {T : TypeId} {es : Nat} {v : Value} {css : List (List Value)} (h : Sl w.heap T es v F css) (hf : Fr NF w w') : Sl w'.heap T es v F css :=
  h.fr hf fun _ _ h => h
theorem Blk.fr0 {w w' : World} {b : Nat} {T : TypeId} {cs : List Value} (h : Blk w.heap b T cs) (hf : Fr NF w w') : Blk w'.heap b T cs := h.fr hf fun h => h

/-- The element m of the slice v lies at ⟨b, o⟩. -/
structure El (H : Heap) (T : TypeId) (es : Nat) (v : Value) (F : Nat → Prop) (css : List (List Value)) (m b o : Nat) : Prop where
  sl : Sl H T es v F css
  lt : m < css.length
  at_ : ∃ off cap, v = .slice (some ⟨b, off, none⟩) css.length cap ∧ o = off + m * es

theorem El.out {H : Heap} {T : TypeId} {es : Nat} {v : Value} {F : Nat → Prop} {css : List (List Value)} {m b o : Nat} (h : El H T es v F css m b o) :
    ∃ off cap arr, v = .slice (some ⟨b, off, none⟩) css.length cap ∧ css.length ≤ cap ∧ Blk H b T arr ∧ off + cap * es ≤ arr.length ∧ (∀ i, i < css.length * es → arr[off + i]? = css.flatten[i]?) ∧ (∀ x, F x ↔ x = b) ∧ o = off + m * es := by
  obtain ⟨⟨_, hs⟩, hm, off, cap, hv, ho⟩ := h
  rcases hs with ⟨hv', hc, _⟩ | ⟨b', off', cap', arr, hv', h1, h2, h3, h4, h5⟩
  · subst hc; simp at hm
  · rw [hv] at hv'
    simp only [Value.slice.injEq, Option.some.injEq, Addr.mk.injEq, and_true, true_and] at hv'
    obtain ⟨⟨rfl, rfl⟩, rfl⟩ := hv'
    exact ⟨off, cap, arr, hv, h1, h2, h3, h4, h5, ho⟩

theorem El.F {H : Heap} {T : TypeId} {es : Nat} {v : Value} {F : Nat → Prop} {css : List (List Value)} {m b o : Nat} (h : El H T es v F css m b o) : ∀ x, F x ↔ x = b := by
  obtain ⟨_, _, _, _, _, _, _, _, h, _⟩ := h.out; exact h

theorem mul_bound {m n es : Nat} (h : m < n) : m * es + es ≤ n * es := by
  have : (m + 1) * es ≤ n * es := Nat.mul_le_mul_right es h
  rw [Nat.succ_mul] at this; exact this

theorem El.cell {w : World} {T : TypeId} {es : Nat} {v : Value} {F : Nat → Prop} {css : List (List Value)} {m b o j : Nat} {c : List Value} {u : Value} (h : El w.heap T es v F css m b o) (hc : css[m]? = some c) (hu : c[j]? = some u) :
    w.cell? ⟨b, o + j, none⟩ = some u := by
  have hlen := h.sl.1
  obtain ⟨off, cap, arr, hv, h1, h2, h3, h4, h5, ho⟩ := h.out
  have hcl : c.length = es := hlen c (List.mem_of_getElem? hc)
  have hj : j < es := by
    rcases Nat.lt_or_ge j c.length with h | h
    · omega
    · simp [List.getElem?_eq_none h] at hu
  have hb := mul_bound (es := es) h.lt
  have := h4 (m * es + j) (by omega)
  rw [flatten_get hlen hc hj, hu] at this
  rw [ho, Nat.add_assoc]
  exact h2.cell this

theorem El.cells {w : World} {T : TypeId} {es : Nat} {v : Value} {F : Nat → Prop} {css : List (List Value)} {m b o : Nat} {c : List Value} (h : El w.heap T es v F css m b o) (hc : css[m]? = some c) : cellsAt w ⟨b, o, none⟩ es c := by
  have hcl : c.length = es := h.sl.1 c (List.mem_of_getElem? hc)
  refine ⟨hcl, fun j hj => ?_⟩
  rw [add_addr, List.getElem?_eq_getElem (by omega)]
  exact h.cell hc (List.getElem?_eq_getElem (by omega))

/-- n cells in the middle of an element. -/
theorem El.cellsMid {w : World} {T : TypeId} {es : Nat} {v : Value} {F : Nat → Prop} {css : List (List Value)} {m b o j n : Nat} {c vs : List Value} (h : El w.heap T es v F css m b o) (hc : css[m]? = some c)
    (hv : (c.drop j).take n = vs) (hl : vs.length = n) : cellsAt w ⟨b, o + j, none⟩ n vs := by
  refine ⟨hl, fun i hi => ?_⟩
  rw [add_addr, Nat.add_assoc]
  have e : vs[i]? = c[j + i]? := by rw [← hv, List.getElem?_take_of_lt hi, List.getElem?_drop]
  rw [e]
  have h1 : vs.length = min n (c.length - j) := by rw [← hv]; simp
  rw [List.getElem?_eq_getElem (by omega)]
  exact h.cell hc (List.getElem?_eq_getElem (by omega))

theorem flatten_set {es : Nat} : ∀ {css : List (List Value)}, (∀ c ∈ css, c.length = es) → ∀ {m j : Nat} {c : List Value} {u : Value}, css[m]? = some c → j < es → (css.set m (c.set j u)).flatten = css.flatten.set (m * es + j) u := by
  intro css
  induction css with
  | nil => intro _ m j c u h; simp at h
  | cons a css ih =>
    intro hl m j c u h hj
    have ha := hl a (by simp)
    cases m with
    | zero =>
      simp at h; subst h
      simp only [List.set_cons_zero, List.flatten_cons, Nat.zero_mul, Nat.zero_add]
      rw [List.set_append_left _ _ (by omega)]
    | succ m =>
      simp at h
      have := ih (fun c hc => hl c (by simp [hc])) (u := u) h hj
      simp only [List.set_cons_succ, List.flatten_cons, this]
      rw [List.set_append_right _ _ (by rw [ha, Nat.succ_mul]; omega), ha]
      congr 2
      rw [Nat.succ_mul]; omega

theorem El.set {w : World} {T : TypeId} {es : Nat} {v : Value} {F : Nat → Prop} {css : List (List Value)} {m b o j : Nat} {c : List Value} {u : Value} (h : El w.heap T es v F css m b o) (hc : css[m]? = some c) (hj : j < es) :
    El (w.setCell ⟨b, o + j, none⟩ u).heap T es v F (css.set m (c.set j u)) m b o := by
  have hlen := h.sl.1
  obtain ⟨off, cap, arr, hv, h1, h2, h3, h4, h5, ho⟩ := h.out
  refine ⟨⟨?_, .inr ⟨b, off, cap, arr.set (o + j) u, by simpa using hv, by simpa using h1, h2.set, by simpa using h3, ?_, h5⟩⟩, by simpa using h.lt, off, cap, by simpa using hv, ho⟩
  · intro x hx
    rcases List.mem_or_eq_of_mem_set hx with hx | rfl
    · exact hlen x hx
    · simpa using hlen c (List.mem_of_getElem? hc)
  · intro i hi
    simp only [List.length_set] at hi
    rw [flatten_set hlen hc hj]
    have e := h4 i hi
    have hb := mul_bound (es := es) h.lt
    have hfl := flatten_len hlen
    have hmul : css.length * es ≤ cap * es := Nat.mul_le_mul_right es h1
    by_cases hii : i = m * es + j
    · subst hii
      rw [ho, ← Nat.add_assoc, List.getElem?_set_self (by omega), List.getElem?_set_self (by omega)]
    · rw [List.getElem?_set_ne (by omega), List.getElem?_set_ne (by omega), e]

theorem El.fr {F G : Nat → Prop} {w w' : World} {T : TypeId} {es : Nat} {v : Value} {css : List (List Value)} {m b o : Nat} (h : El w.heap T es v F css m b o) (hf : Fr G w w') (hn : ∀ b, F b → ¬ G b) : El w'.heap T es v F css m b o :=
  ⟨h.sl.fr hf hn, h.lt, h.at_⟩

/-- n cells of an element are others. -/
theorem El.setn {P : Program} {T : TypeId} {es : Nat} {v : Value} {F : Nat → Prop} {b o m : Nat} : ∀ (vs : List Value) (w : World) (css : List (List Value)) (c : List Value) (j : Nat), El w.heap T es v F css m b o → css[m]? = some c → j + vs.length ≤ es → (∀ v ∈ vs, oneC v = true) →
    ∃ w', (storeCells ⟨b, o, none⟩ vs j).run P w = .ok () w' ∧ Fr F w w' ∧ w'.heap.size = w.heap.size ∧ El w'.heap T es v F (css.set m (c.take j ++ (vs ++ c.drop (j + vs.length)))) m b o := by
  intro vs
  induction vs with
  | nil =>
    intro w css c j h hc hj _
    refine ⟨w, by simp [storeCells], Fr.refl _ _, rfl, ?_⟩
    have : css.set m (c.take j ++ ([] ++ c.drop (j + 0))) = css := by
      simp only [List.nil_append, Nat.add_zero, List.take_append_drop]
      apply List.ext_getElem?
      intro i
      by_cases him : m = i
      · subst him; rw [List.getElem?_set_self h.lt, hc]
      · rw [List.getElem?_set_ne him]
    simp only [List.length_nil]
    rw [this]; exact h
  | cons u vs ih =>
    intro w css c j h hc hj ho
    simp only [List.length_cons] at hj
    have h1 := ho u (by simp)
    have h1' : u.oneCell' = true := by cases u <;> simp_all [Value.oneCell', oneC]
    have hcl : c.length = es := h.sl.1 c (List.mem_of_getElem? hc)
    have hcell := h.cell hc (List.getElem?_eq_getElem (show j < c.length by omega))
    have hset := h.set (u := u) hc (show j < es by omega)
    obtain ⟨off, cap, arr, hv, g1, g2, g3, g4, g5, go⟩ := h.out
    have hb := mul_bound (es := es) h.lt
    have hmul : css.length * es ≤ cap * es := Nat.mul_le_mul_right es g1
    have hfree := g2.free (w := w) (i := o + j) (by omega)
    have hc' : (css.set m (c.set j u))[m]? = some (c.set j u) := List.getElem?_set_self h.lt
    obtain ⟨w', h2, h3, h4, h5⟩ := ih (w.setCell ⟨b, o + j, none⟩ u) _ _ (j + 1) hset hc' (by omega) (fun x hx => ho x (by simp [hx]))
    refine ⟨w', ?_, ((fr_setCell w b (o + j) u).mono fun x _ hx => (g5 x).2 hx).trans h3 (fun _ _ h => h), h4.trans (by simp), ?_⟩
    · simp only [storeCells, Sem.run_bind, add_addr, run_store P w _ _ .plain h1', hcell, hfree, Bool.false_eq_true, if_false, Result.andThen_ok]
      exact h2
    · have e : (css.set m (c.set j u)).set m ((c.set j u).take (j + 1) ++ (vs ++ (c.set j u).drop (j + 1 + vs.length))) = css.set m (c.take j ++ (u :: vs ++ c.drop (j + (u :: vs).length))) := by
        rw [List.set_set]
        congr 1
        have hlt : j < c.length := by omega
        rw [List.set_eq_take_append_cons_drop, if_pos hlt]
        have hm : (c.take j).length = j := by simp; omega
        have e1 : List.take (j + 1) (c.take j ++ u :: c.drop (j + 1)) = c.take j ++ [u] := by
          rw [List.take_append, hm, List.take_of_length_le (by omega), show j + 1 - j = 1 by omega]; rfl
        have e2 : List.drop (j + 1 + vs.length) (c.take j ++ u :: c.drop (j + 1)) = c.drop (j + (u :: vs).length) := by
          rw [List.drop_append, hm, List.drop_of_length_le (by omega), show j + 1 + vs.length - j = vs.length + 1 by omega]
          simp [Nat.add_comm, Nat.add_left_comm]
        rw [e1, e2]; simp
      rw [← e]; exact h5

section
variable {P : Program} {l : List GO} {Q : QT} {ρ : Env} {w : World} {T : TypeId} {es : Nat} {v : Value} {F : Nat → Prop} {css : List (List Value)}

theorem s_idxS {d : Nat} {x i : Operand} {k : IntKind} {n : Int} (hx : ρ.ev x = v) (hi : ρ.ev i = .int k n) (hs : Sl w.heap T es v F css) (h0 : 0 ≤ n) (h1 : n < css.length)
    (h : ∀ b o, El w.heap T es v F css n.toNat b o → opsWp P l Q (upd ρ d (.pointer (some ⟨b, o, none⟩))) w) : opsWp P (⟨none, .idx d es x i⟩ :: l) Q ρ w := by
  obtain ⟨hlen, ⟨hv, hc, _⟩ | ⟨b, off, cap, arr, hv, g1, g2, g3, g4, g5⟩⟩ := hs
  · subst hc; simp at h1; omega
  · subst hv
    exact s_idx hx hi h0 h1 (h b _ ⟨⟨hlen, .inr ⟨b, off, cap, arr, rfl, g1, g2, g3, g4, g5⟩⟩, by omega, off, cap, rfl, rfl⟩)

theorem s_lenS {d : Nat} {x : Operand} (hx : ρ.ev x = v) (hs : Sl w.heap T es v F css) (h : opsWp P l Q (upd ρ d (.int .i64 css.length)) w) : opsWp P (⟨none, .len d x⟩ :: l) Q ρ w := by
  obtain ⟨a, c, hv⟩ := hs.shape
  exact s_len (hx.trans hv) h

theorem s_loadS {d : Nat} {x : Operand} {m b o : Nat} {c : List Value} {u : Value} (hx : ρ.ev x = .pointer (some ⟨b, o, none⟩)) (he : El w.heap T es v F css m b o) (hc : css[m]? = some c) (hu : c[0]? = some u)
    (h : opsWp P l Q (upd ρ d u) w) : opsWp P (⟨none, .load1 d x⟩ :: l) Q ρ w := s_load hx (by have := he.cell hc hu; simpa using this) h
theorem s_loadSj {d : Nat} {x : Operand} {m b o j : Nat} {c : List Value} {u : Value} (hx : ρ.ev x = .pointer (some ⟨b, o + j, none⟩)) (he : El w.heap T es v F css m b o) (hc : css[m]? = some c) (hu : c[j]? = some u)
    (h : opsWp P l Q (upd ρ d u) w) : opsWp P (⟨none, .load1 d x⟩ :: l) Q ρ w := s_load hx (he.cell hc hu) h
theorem s_loadnS {d : Nat} {x : Operand} {m b o : Nat} {c : List Value} (hx : ρ.ev x = .pointer (some ⟨b, o, none⟩)) (he : El w.heap T es v F css m b o) (hc : css[m]? = some c)
    (h : opsWp P l Q (upd ρ d (.agg ⟨c⟩)) w) : opsWp P (⟨none, .loadn d es x⟩ :: l) Q ρ w := s_loadc hx (he.cells hc) h
theorem s_storeSj {x y : Operand} {m b o j : Nat} {c : List Value} {u : Value} (hx : ρ.ev x = .pointer (some ⟨b, o + j, none⟩)) (hy : ρ.ev y = u) (he : El w.heap T es v F css m b o) (hc : css[m]? = some c) (hj : j < es) (ho : oneC u = true)
    (h : ∀ w', Fr F w w' → w'.heap.size = w.heap.size → El w'.heap T es v F (css.set m (c.set j u)) m b o → opsWp P l Q ρ w') : opsWp P (⟨none, .store1 x y⟩ :: l) Q ρ w := by
  subst hy
  have hcl : c.length = es := he.sl.1 c (List.mem_of_getElem? hc)
  obtain ⟨off, cap, arr, hv, g1, g2, g3, g4, g5, go⟩ := he.out
  have hb := mul_bound (es := es) he.lt
  have hmul : css.length * es ≤ cap * es := Nat.mul_le_mul_right es g1
  exact ⟨_, _, hx, he.cell hc (List.getElem?_eq_getElem (show j < c.length by omega)), g2.free (by omega), ho, h _ ((fr_setCell w b _ _).mono fun x _ hx => (g5 x).2 hx) (by simp) (he.set hc hj)⟩
theorem s_storeS {x y : Operand} {m b o : Nat} {c : List Value} {u : Value} (hx : ρ.ev x = .pointer (some ⟨b, o, none⟩)) (hy : ρ.ev y = u) (he : El w.heap T es v F css m b o) (hc : css[m]? = some c) (hj : 0 < es) (ho : oneC u = true)
    (h : ∀ w', Fr F w w' → w'.heap.size = w.heap.size → El w'.heap T es v F (css.set m (c.set 0 u)) m b o → opsWp P l Q ρ w') : opsWp P (⟨none, .store1 x y⟩ :: l) Q ρ w :=
  s_storeSj (j := 0) hx hy he hc hj ho h
theorem s_storenS {n : Nat} {x y : Operand} {m b o : Nat} {c vs : List Value} (hx : ρ.ev x = .pointer (some ⟨b, o, none⟩)) (hy : ρ.ev y = .agg ⟨vs⟩) (hn : vs.length = n) (he : El w.heap T es v F css m b o) (hc : css[m]? = some c) (hl : vs.length = es) (ho : ∀ v ∈ vs, oneC v = true)
    (h : ∀ w', Fr F w w' → w'.heap.size = w.heap.size → El w'.heap T es v F (css.set m vs) m b o → opsWp P l Q ρ w') : opsWp P (⟨none, .storen n x y⟩ :: l) Q ρ w := by
  subst hn
  have hcl : c.length = es := he.sl.1 c (List.mem_of_getElem? hc)
  obtain ⟨w', h1, h2, h3, h4⟩ := El.setn (P := P) vs w css c 0 he hc (by omega) ho
  refine ⟨_, _, w', hx, hy, rfl, h1, h w' h2 h3 ?_⟩
  have : c.take 0 ++ (vs ++ c.drop (0 + vs.length)) = vs := by simp; omega
  rw [this] at h4; exact h4

/-- s[lo:hi] of a slice: the part. -/
theorem s_subS {d : Nat} {x : Operand} {lo hi mx : Option Operand} {l' h' : Nat} (hx : ρ.ev x = v) (hs : Sl w.heap T es v F css) (hmx : mx = none) (hh : bnd ρ css.length hi h') (hl : bnd ρ 0 lo l') (h2 : h' ≤ css.length) (h3 : l' ≤ h')
    (h : ∀ v', Sl w.heap T es v' F ((css.take h').drop l') → opsWp P l Q (upd ρ d v') w) : opsWp P (⟨none, .sub d es x lo hi mx⟩ :: l) Q ρ w := by
  subst hmx
  obtain ⟨hlen, ⟨hv, hc, hF⟩ | ⟨b, off, cap, arr, hv, g1, g2, g3, g4, g5⟩⟩ := hs
  · subst hc hv
    simp only [List.length_nil, Nat.le_zero_eq] at h2
    subst h2
    have : l' = 0 := by omega
    subst this
    refine s_sub (m := 0) hx rfl hh hl (Nat.le_refl _) (Nat.le_refl _) (Nat.le_refl _) ?_
    simp only [if_true, Nat.sub_self]
    exact h _ (by simpa using ⟨by simp, .inl ⟨rfl, rfl, hF⟩⟩)
  · subst hv
    refine s_sub (m := cap) hx rfl hh hl (Nat.le_refl _) (by omega) h3 ?_
    refine h _ ⟨fun c hc => hlen c (List.mem_of_mem_take (List.mem_of_mem_drop hc)), .inr ?_⟩
    have hl1 : ((css.take h').drop l').length = h' - l' := by simp; omega
    have hfl : ∀ i, i < (h' - l') * es → ((css.take h').drop l').flatten[i]? = css.flatten[l' * es + i]? := by
      intro i hi
      have e1 : css = css.take l' ++ ((css.take h').drop l' ++ css.drop h') := by
        have : css.take l' = (css.take h').take l' := by rw [List.take_take, Nat.min_eq_left h3]
        rw [this, ← List.append_assoc, List.take_append_drop, List.take_append_drop]
      have hlen' : ∀ c ∈ css.take l', c.length = es := fun c hc => hlen c (List.mem_of_mem_take hc)
      have hlen2 : ∀ c ∈ (css.take h').drop l', c.length = es := fun c hc => hlen c (List.mem_of_mem_take (List.mem_of_mem_drop hc))
      have f1 := flatten_len hlen'
      have f2 := flatten_len hlen2
      rw [hl1] at f2
      have ht : (css.take l').length = l' := by simp; omega
      rw [ht] at f1
      conv => rhs; rw [e1]
      simp only [List.flatten_append]
      rw [List.getElem?_append_right (by omega), f1, Nat.add_sub_cancel_left, List.getElem?_append_left (by omega)]
    have hm1 : l' * es ≤ cap * es := Nat.mul_le_mul_right es (by omega)
    have hm2 : (cap - l') * es = cap * es - l' * es := Nat.sub_mul _ _ _
    have hm3 : (h' - l') * es + l' * es = h' * es := by rw [← Nat.add_mul]; congr 1; omega
    have hm4 : h' * es ≤ css.length * es := Nat.mul_le_mul_right es h2
    by_cases hcl : cap = l'
    · rw [if_pos hcl]
      refine ⟨b, off, cap - l', arr, ?_, by omega, g2, by omega, ?_, g5⟩
      · rw [hl1]
      · intro i hi
        rw [hl1] at hi
        have : h' - l' = 0 := by omega
        rw [this] at hi; omega
    · rw [if_neg hcl]
      refine ⟨b, off + l' * es, cap - l', arr, ?_, by omega, g2, by omega, ?_, g5⟩
      · rw [hl1]; simp only [Option.map_some, add_addr]
      · intro i hi
        rw [hl1] at hi
        rw [hfl i hi, Nat.add_assoc, g4 (l' * es + i) (by omega)]
end
end Go.Lir
