/- Evaluation: what a state of the evaluator says of a world. -/
import Derived.Test.YthdkbdnbflkagaaGreatDoorEvO
namespace Go.Lir
set_option linter.unusedVariables false

/-- Where a block lies: its number in the world; the cells of an element (0: all its cells are known); how many cells it has. -/
structure BI where
  c : Nat
  es : Nat
  room : Nat

/-- Of which block what is known; the numbers that were given out. -/
structure Ph where
  f : Nat → Option BI
  u : Nat → Prop

/-- What is known of a slice's room. -/
def RoomOk (x : BI) (o n c c' : Nat) : Prop := if x.es = 0 then c' = c else n ≤ c' ∧ o + c' * x.es = x.room

mutual
inductive VR (φ : Ph) : V → Value → Prop where
  | i (k : IntKind) (n : Int) : VR φ (.i k n) (.int k n)
  | b (x : Bool) : VR φ (.b x) (.bool x)
  | s (l : List UInt8) : VR φ (.s l) (.string ⟨l.toArray⟩)
  | p0 : VR φ .p0 (.pointer none)
  | p {b o : Nat} {a : Addr} (hb : φ.u b) (h : ∀ x, φ.f b = some x → a = ⟨x.c, o, none⟩) : VR φ (.p b o) (.pointer (some a))
  | l0 : VR φ .l0 (.slice none 0 0)
  | l {b o n c c' : Nat} {a : Addr} (hb : φ.u b) (h : ∀ x, φ.f b = some x → a = ⟨x.c, o, none⟩ ∧ RoomOk x o n c c') : VR φ (.l b o n c) (.slice (some a) n c')
  | lz (a : Addr) (c : Nat) : VR φ .lz (.slice (some a) 0 c)
  | ag {l : List V} {m : List Value} (h : VRs φ l m) : VR φ (.ag l) (.agg ⟨m⟩)
  | tu {l : List V} {m : List Value} (h : VRs φ l m) : VR φ (.tu l) (.tuple ⟨m⟩)
  | n0 : VR φ .n0 .nilIface
  | ic {T : TypeId} {v : V} {u : Value} (h : VR φ v u) : VR φ (.ic T v) (.iface T u)
  | f0 : VR φ .f0 .nilFunc
  | fn {f : FuncId} {a c : List V} {a' c' : List Value} (h : VRs φ a a') (h2 : VRs φ c c') : VR φ (.fn f a c) (.func (.func f) ⟨a'⟩ ⟨c'⟩)
  | u (v : Value) : VR φ .u v
inductive VRs (φ : Ph) : List V → List Value → Prop where
  | nil : VRs φ [] []
  | cons {v : V} {u : Value} {l : List V} {m : List Value} (h : VR φ v u) (t : VRs φ l m) : VRs φ (v :: l) (u :: m)
end

/-- Less may be known of the old blocks; there may be more blocks. -/
structure Ph.Le (φ ψ : Ph) : Prop where
  u : ∀ b, φ.u b → ψ.u b
  f : ∀ b, φ.u b → ∀ x, ψ.f b = some x → φ.f b = some x
theorem Ph.Le.refl (φ : Ph) : φ.Le φ := ⟨fun _ h => h, fun _ _ _ h => h⟩
theorem Ph.Le.trans {φ ψ χ : Ph} (h : φ.Le ψ) (k : ψ.Le χ) : φ.Le χ := ⟨fun b hb => k.u b (h.u b hb), fun b hb x hx => h.f b hb x (k.f b (h.u b hb) x hx)⟩
mutual
theorem VR.up {φ ψ : Ph} (hl : φ.Le ψ) : ∀ {v : V} {u : Value}, VR φ v u → VR ψ v u
  | _, _, .i k n => .i k n
  | _, _, .b x => .b x
  | _, _, .s l => .s l
  | _, _, .p0 => .p0
  | _, _, .p hb h => .p (hl.u _ hb) fun x hx => h x (hl.f _ hb x hx)
  | _, _, .l0 => .l0
  | _, _, .l hb h => .l (hl.u _ hb) fun x hx => h x (hl.f _ hb x hx)
  | _, _, .lz a c => .lz a c
  | _, _, .ag h => .ag (VRs.up hl h)
  | _, _, .tu h => .tu (VRs.up hl h)
  | _, _, .n0 => .n0
  | _, _, .ic h => .ic (VR.up hl h)
  | _, _, .f0 => .f0
  | _, _, .fn h h2 => .fn (VRs.up hl h) (VRs.up hl h2)
  | _, _, .u v => .u v
theorem VRs.up {φ ψ : Ph} (hl : φ.Le ψ) : ∀ {l : List V} {m : List Value}, VRs φ l m → VRs ψ l m
  | _, _, .nil => .nil
  | _, _, .cons h t => .cons (VR.up hl h) (VRs.up hl t)
end
section
variable {φ : Ph}
theorem VRs.len : ∀ {l : List V} {m : List Value}, VRs φ l m → l.length = m.length
  | _, _, .nil => rfl
  | _, _, .cons _ t => by rw [List.length_cons, List.length_cons, t.len]
theorem VRs.get : ∀ {l : List V} {m : List Value}, VRs φ l m → ∀ {j : Nat} {v : V}, l[j]? = some v → ∃ u, m[j]? = some u ∧ VR φ v u
  | _, _, .cons h t, 0, _, hv => by simp only [List.getElem?_cons_zero, Option.some.injEq] at hv; subst hv; exact ⟨_, rfl, h⟩
  | _, _, .cons h t, j + 1, _, hv => t.get (j := j) (by simpa using hv)
theorem VRs.drop : ∀ {l : List V} {m : List Value}, VRs φ l m → ∀ j, VRs φ (l.drop j) (m.drop j)
  | _, _, .nil, j => by simp only [List.drop_nil]; exact .nil
  | _, _, .cons h t, 0 => .cons h t
  | _, _, .cons h t, j + 1 => t.drop j
theorem VRs.take : ∀ {l : List V} {m : List Value}, VRs φ l m → ∀ j, VRs φ (l.take j) (m.take j)
  | _, _, .nil, j => by simp only [List.take_nil]; exact .nil
  | _, _, .cons h t, 0 => .nil
  | _, _, .cons h t, j + 1 => .cons h (t.take j)
theorem VRs.app : ∀ {l : List V} {m : List Value} {l2 : List V} {m2 : List Value}, VRs φ l m → VRs φ l2 m2 → VRs φ (l ++ l2) (m ++ m2)
  | _, _, _, _, .nil, h => h
  | _, _, _, _, .cons h t, h2 => .cons h (t.app h2)
theorem VRs.put {l l2 : List V} {m m2 : List Value} (h : VRs φ l m) (h2 : VRs φ l2 m2) (n k : Nat) : VRs φ (l.take n ++ (l2 ++ l.drop k)) (m.take n ++ (m2 ++ m.drop k)) := (h.take n).app (h2.app (h.drop k))
theorem VRs.set : ∀ {l : List V} {m : List Value}, VRs φ l m → ∀ {v : V} {u : Value}, VR φ v u → ∀ j, VRs φ (l.set j v) (m.set j u)
  | _, _, .nil, _, _, _, _ => .nil
  | _, _, .cons _ t, _, _, hv, 0 => .cons hv t
  | _, _, .cons h t, _, _, hv, j + 1 => .cons h (t.set hv j)
theorem VRs.map {α : Type} {f : α → V} {g : α → Value} (h : ∀ x, VR φ (f x) (g x)) : ∀ l : List α, VRs φ (l.map f) (l.map g)
  | [] => .nil
  | x :: l => .cons (h x) (VRs.map h l)
theorem VR.ofC (v : Value) : VR φ (ofC v) v := by
  unfold Go.Lir.ofC
  split
  case h_8 => exact .fn .nil .nil
  all_goals constructor
theorem VR.one {v : V} {u : Value} (h : VR φ v u) (ho : oneV v = true) : oneC u = true := by
  cases h <;> simp [oneV] at ho <;> rfl
theorem VRs.ones : ∀ {l : List V} {m : List Value}, VRs φ l m → onesV l = true → ∀ u ∈ m, oneC u = true
  | _, _, .nil, _, u, hu => by cases hu
  | _, _, .cons (v := v) h t, ho, u, hu => by
    rw [onesV] at ho
    cases hv : oneV v with
    | false => rw [hv] at ho; cases ho
    | true =>
      rw [hv] at ho
      rcases List.mem_cons.1 hu with rfl | hu
      · exact h.one hv
      · exact t.ones ho u hu
end

/-- What a block of the evaluator says. -/
def BR (φ : Ph) (w0 : World) (x : Option BI) (w : World) : Bk → Prop
  | .dd => x = none
  | .cl T cs => ∃ y, x = some y ∧ y.es = 0 ∧ w0.heap.size ≤ y.c ∧ ∃ m, Blk w.heap y.c T m ∧ VRs φ cs m
  | .op T es cs => ∃ y, x = some y ∧ y.es = es ∧ es ≠ 0 ∧ w0.heap.size ≤ y.c ∧ ∃ m, Blk w.heap y.c T m ∧ cs.length ≤ m.length ∧ y.room = m.length ∧ VRs φ cs (m.take cs.length)
  | .ro T cs => ∃ y, x = some y ∧ y.es = 0 ∧ y.c < w0.heap.size ∧ ∃ m, Blk w.heap y.c T m ∧ VRs φ cs m
  | .it s i => ∃ y, x = some y ∧ y.es = 0 ∧ w0.heap.size ≤ y.c ∧ w.heap[y.c]? = some (.stringIter ⟨s.toArray⟩ i)

structure WR (φ : Ph) (A : AW) (w0 w : World) : Prop where
  hi : ∀ b, ¬ φ.u b → φ.f b = none
  bk : ∀ b, BR φ w0 (φ.f b) w (A.t.get .dd b)
  inj : ∀ b b' x y, φ.f b = some x → φ.f b' = some y → x.c = y.c → b = b'
  fr : Fr NF w0 w
/-- The numbers from the next one on were not given out. -/
def Free (φ : Ph) (A : AW) : Prop := ∀ b, A.n ≤ b → ¬ φ.u b

theorem BR.lt {φ : Ph} {w0 : World} {x : BI} {w : World} {k : Bk} (h : BR φ w0 (some x) w k) : x.c < w.heap.size := by
  cases k with
  | dd => cases h
  | cl T cs => obtain ⟨y, hy, _, _, m, h, _⟩ := h; cases hy; exact h.lt
  | op T es cs => obtain ⟨y, hy, _, _, _, m, h, _⟩ := h; cases hy; exact h.lt
  | ro T cs => obtain ⟨y, hy, _, _, m, h, _⟩ := h; cases hy; exact h.lt
  | it s i =>
    obtain ⟨y, hy, _, _, h⟩ := h; cases hy
    rcases Nat.lt_or_ge x.c w.heap.size with h' | h'
    · exact h'
    · simp [Array.getElem?_eq_none h'] at h
theorem WR.lt {φ : Ph} {A : AW} {w0 w : World} (h : WR φ A w0 w) {b : Nat} {x : BI} (hb : φ.f b = some x) : x.c < w.heap.size := by
  have := h.bk b
  rw [hb] at this
  exact this.lt
theorem BR.up {φ ψ : Ph} {w0 w w' : World} {x : Option BI} {k : Bk} (hl : φ.Le ψ) (h : BR φ w0 x w k) (hw : ∀ y, x = some y → w'.heap[y.c]? = w.heap[y.c]?) : BR ψ w0 x w' k := by
  cases k with
  | dd => exact h
  | cl T cs =>
    obtain ⟨y, hy, h1, h2, m, h3, h4⟩ := h
    exact ⟨y, hy, h1, h2, m, h3.of_same (hw y hy), h4.up hl⟩
  | op T es cs =>
    obtain ⟨y, hy, h1, h2, h3, m, h4, h5, h6, h7⟩ := h
    exact ⟨y, hy, h1, h2, h3, m, h4.of_same (hw y hy), h5, h6, h7.up hl⟩
  | ro T cs =>
    obtain ⟨y, hy, h1, h2, m, h3, h4⟩ := h
    exact ⟨y, hy, h1, h2, m, h3.of_same (hw y hy), h4.up hl⟩
  | it s i =>
    obtain ⟨y, hy, h1, h2, h3⟩ := h
    exact ⟨y, hy, h1, h2, (hw y hy).trans h3⟩

/-- One block becomes another (or is lost); the other known blocks stay; of the world nothing else that is known changes. -/
theorem WR.upd {φ : Ph} {A : AW} {w0 w w' : World} (h : WR φ A w0 w) {b : Nat} {k : Bk} {x : BI} (N : Nat) (hx : ¬ φ.u b ∨ φ.f b = some x)
    (hfr : Fr NF w0 w') (hw : ∀ j y, j ≠ b → φ.f j = some y → w'.heap[y.c]? = w.heap[y.c]?) (hnew : ∀ j y, j ≠ b → φ.f j = some y → y.c ≠ x.c)
    (hk : ∀ ψ : Ph, φ.Le ψ → (∀ j, ψ.u j ↔ φ.u j ∨ j = b) → BR ψ w0 (some x) w' k) :
    ∃ ψ : Ph, φ.Le ψ ∧ WR ψ ⟨A.t.set k b, N⟩ w0 w' ∧ (∀ j, ψ.u j ↔ φ.u j ∨ j = b) ∧ (∀ y, ψ.f b = some y → y = x) := by
  have hg := Tr2.get_set .dd k A.t b
  by_cases hlost : (A.t.set k b).get .dd b = k
  · refine ⟨⟨fun j => if j = b then some x else φ.f j, fun j => φ.u j ∨ j = b⟩, ?_⟩
    have hle : φ.Le ⟨fun j => if j = b then some x else φ.f j, fun j => φ.u j ∨ j = b⟩ := ⟨fun j hj => .inl hj, fun j hj y hy => by
      by_cases e : j = b
      · subst e
        simp only [if_true, Option.some.injEq] at hy
        subst hy
        exact hx.elim (fun h => absurd hj h) id
      · simpa [if_neg e] using hy⟩
    refine ⟨hle, ⟨fun j hj => ?_, fun j => ?_, ?_, hfr⟩, fun j => Iff.rfl, fun y hy => by simpa using hy.symm⟩
    · have e : j ≠ b := fun e => hj (.inr e)
      simp only [if_neg e]
      exact h.hi j (fun h => hj (.inl h))
    · by_cases e : j = b
      · subst e
        simp only [if_true]
        rw [hlost]
        exact hk _ hle fun j => Iff.rfl
      · rcases hg j with ⟨_, h2⟩ | ⟨h1, _⟩
        · simp only [if_neg e]
          rw [h2]
          exact (h.bk j).up hle (fun y hy => hw j y e hy)
        · exact absurd h1 e
    · intro j j' y y' hy hy' hc
      by_cases e : j = b
      · by_cases e' : j' = b
        · rw [e, e']
        · subst e
          simp only [if_true, if_neg e', Option.some.injEq] at hy hy'
          subst hy
          exact absurd hc.symm (hnew j' y' e' hy')
      · by_cases e' : j' = b
        · subst e'
          simp only [if_true, if_neg e, Option.some.injEq] at hy hy'
          subst hy'
          exact absurd hc (hnew j y e hy)
        · simp only [if_neg e, if_neg e'] at hy hy'
          exact h.inj j j' y y' hy hy' hc
  · refine ⟨⟨fun j => if j = b then none else φ.f j, fun j => φ.u j ∨ j = b⟩, ?_⟩
    have hle : φ.Le ⟨fun j => if j = b then none else φ.f j, fun j => φ.u j ∨ j = b⟩ := ⟨fun j hj => .inl hj, fun j hj y hy => by
      by_cases e : j = b
      · simp [e] at hy
      · simpa [if_neg e] using hy⟩
    refine ⟨hle, ⟨fun j hj => ?_, fun j => ?_, ?_, hfr⟩, fun j => Iff.rfl, fun y hy => by simp at hy⟩
    · by_cases e : j = b
      · simp [e]
      · simp only [if_neg e]
        exact h.hi j (fun h => hj (.inl h))
    · by_cases e : j = b
      · subst e
        simp only [if_true]
        rcases hg j with ⟨h1, _⟩ | ⟨_, h2 | h2⟩
        · exact absurd rfl h1
        · exact absurd h2 hlost
        · rw [h2]; rfl
      · rcases hg j with ⟨_, h2⟩ | ⟨h1, _⟩
        · simp only [if_neg e]
          rw [h2]
          exact (h.bk j).up hle (fun y hy => hw j y e hy)
        · exact absurd h1 e
    · intro j j' y y' hy hy' hc
      by_cases e : j = b
      · simp [e] at hy
      · by_cases e' : j' = b
        · simp [e'] at hy'
        · simp only [if_neg e, if_neg e'] at hy hy'
          exact h.inj j j' y y' hy hy' hc

/-- A new block is laid. -/
theorem WR.alloc {φ : Ph} {A : AW} {w0 w w' : World} (h : WR φ A w0 w) {b : Nat} (hb : ¬ φ.u b) (N : Nat) {k : Bk} {es room : Nat} (hfr : Fr NF w w')
    (hk : ∀ ψ : Ph, φ.Le ψ → BR ψ w0 (some ⟨w.heap.size, es, room⟩) w' k) :
    ∃ ψ : Ph, φ.Le ψ ∧ WR ψ ⟨A.t.set k b, N⟩ w0 w' ∧ (∀ j, ψ.u j ↔ φ.u j ∨ j = b) ∧ (∀ y, ψ.f b = some y → y = ⟨w.heap.size, es, room⟩) :=
  h.upd N (.inl hb) (h.fr.then0 hfr) (fun j y _ hy => hfr.same _ (h.lt hy) (fun h => h)) (fun j y _ hy => by have := h.lt hy; simp only; omega) (fun ψ hle _ => hk ψ hle)
/-- A block that is known is written. -/
theorem WR.store {φ : Ph} {A : AW} {w0 w w' : World} (h : WR φ A w0 w) {b : Nat} {k : Bk} {x : BI} (hx : φ.f b = some x) (hc : w0.heap.size ≤ x.c) (hfr : Fr (· = x.c) w w') (hk : ∀ ψ : Ph, φ.Le ψ → BR ψ w0 (some x) w' k) :
    ∃ ψ : Ph, φ.Le ψ ∧ WR ψ ⟨A.t.set k b, A.n⟩ w0 w' ∧ ∀ j, ψ.u j ↔ φ.u j := by
  have hne : ∀ j y, j ≠ b → φ.f j = some y → y.c ≠ x.c := fun j y e hy hc => e (h.inj j b y x hy hx hc)
  have hbu : φ.u b := by
    rcases Classical.em (φ.u b) with h' | h'
    · exact h'
    · rw [h.hi b h'] at hx; cases hx
  obtain ⟨ψ, h1, h2, h3, h4⟩ := h.upd (b := b) (k := k) (x := x) A.n (w' := w') (.inr hx) (h.fr.trans hfr (fun c hc' hF => by have h6 := h.fr.size; have : c = x.c := hF; omega))
    (fun j y e hy => hfr.same _ (h.lt hy) (hne j y e hy)) hne (fun ψ hle _ => hk ψ hle)
  exact ⟨ψ, h1, h2, fun j => (h3 j).trans ⟨fun h => h.elim id (fun e => e ▸ hbu), .inl⟩⟩
/-- Of a block nothing is known any more. -/
theorem WR.kill {φ : Ph} {A : AW} {w0 w : World} (h : WR φ A w0 w) (b : Nat) :
    ∃ ψ : Ph, φ.Le ψ ∧ (∀ j, ψ.u j ↔ φ.u j) ∧ WR ψ ⟨A.t.set .dd b, A.n⟩ w0 w ∧ ψ.f b = none ∧ ∀ j, j ≠ b → ψ.f j = φ.f j := by
  refine ⟨⟨fun j => if j = b then none else φ.f j, φ.u⟩, ?_⟩
  have hle : φ.Le ⟨fun j => if j = b then none else φ.f j, φ.u⟩ := ⟨fun _ h => h, fun j hj y hy => by
    by_cases e : j = b
    · simp [e] at hy
    · simpa [if_neg e] using hy⟩
  refine ⟨hle, fun _ => Iff.rfl, ⟨fun j hj => ?_, fun j => ?_, ?_, h.fr⟩, by simp, fun j e => by simp [if_neg e]⟩
  · by_cases e : j = b
    · simp [e]
    · simp only [if_neg e]; exact h.hi j hj
  · rcases Tr2.get_set .dd .dd A.t b j with ⟨h1, h2⟩ | ⟨h1, h2⟩
    · simp only [if_neg h1]; rw [h2]
      exact (h.bk j).up hle (fun y hy => rfl)
    · subst h1
      simp only [if_true]
      rcases h2 with h2 | h2 <;> rw [h2] <;> rfl
  · intro j j' y y' hy hy' hc
    by_cases e : j = b
    · simp [e] at hy
    · by_cases e' : j' = b
      · simp [e'] at hy'
      · simp only [if_neg e, if_neg e'] at hy hy'
        exact h.inj j j' y y' hy hy' hc
end Go.Lir
