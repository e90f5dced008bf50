/- A state of the memory as a list of things that lie apart from each other, and of what is only read. -/
import Derived.Test.YthdkbdnbflkagaaGreatDoorLirMore
namespace Go.Lir

/-- A thing in memory: it holds of a heap, and lies in these blocks. -/
structure Res where
  A : Heap → (Nat → Prop) → Prop
  loc : ∀ {H H' : Heap} {F : Nat → Prop}, A H F → (∀ b, F b → b < H.size → H'[b]? = H[b]?) → A H' F
  lt : ∀ {H : Heap} {F : Nat → Prop}, A H F → ∀ b, F b → b < H.size
  ext : ∀ {H : Heap} {F G : Nat → Prop}, A H F → (∀ b, F b ↔ G b) → A H G

def emp : Res := ⟨fun _ F => ∀ b, ¬ F b, fun h _ => h, fun h b hb => absurd hb (h b), fun h e b hb => h b ((e b).2 hb)⟩
def star (r s : Res) : Res where
  A H F := ∃ F1 F2, r.A H F1 ∧ s.A H F2 ∧ (∀ b, F1 b → ¬ F2 b) ∧ ∀ b, F b ↔ F1 b ∨ F2 b
  loc := by
    rintro H H' F ⟨F1, F2, h1, h2, h3, h4⟩ h
    exact ⟨F1, F2, r.loc h1 fun b hb => h b ((h4 b).2 (.inl hb)), s.loc h2 fun b hb => h b ((h4 b).2 (.inr hb)), h3, h4⟩
  lt := by
    rintro H F ⟨F1, F2, h1, h2, h3, h4⟩ b hb
    exact ((h4 b).1 hb).elim (r.lt h1 b) (s.lt h2 b)
  ext := by
    rintro H F G ⟨F1, F2, h1, h2, h3, h4⟩ h
    exact ⟨F1, F2, h1, h2, h3, fun b => (h b).symm.trans (h4 b)⟩
def Res.ex {α : Type} (f : α → Res) : Res where
  A H F := ∃ x, (f x).A H F
  loc := by rintro H H' F ⟨x, h⟩ h'; exact ⟨x, (f x).loc h h'⟩
  lt := by rintro H F ⟨x, h⟩ b hb; exact (f x).lt h b hb
  ext := by rintro H F G ⟨x, h⟩ h'; exact ⟨x, (f x).ext h h'⟩
def Res.pure (p : Prop) (r : Res) : Res where
  A H F := p ∧ r.A H F
  loc := by rintro H H' F ⟨x, h⟩ h'; exact ⟨x, r.loc h h'⟩
  lt := by rintro H F ⟨x, h⟩ b hb; exact r.lt h b hb
  ext := by rintro H F G ⟨x, h⟩ h'; exact ⟨x, r.ext h h'⟩
def blk (b : Nat) (T : TypeId) (cs : List Value) : Res where
  A H F := Blk H b T cs ∧ ∀ x, F x ↔ x = b
  loc := by rintro H H' F ⟨h, hf⟩ h'; exact ⟨h.of_same (h' b ((hf b).2 rfl) h.lt), hf⟩
  lt := by rintro H F ⟨h, hf⟩ x hx; rw [(hf x).1 hx]; exact h.lt
  ext := by rintro H F G ⟨h, hf⟩ h'; exact ⟨h, fun x => (h' x).symm.trans (hf x)⟩
theorem Sl.ext {H : Heap} {T : TypeId} {es : Nat} {v : Value} {F G : Nat → Prop} {css : List (List Value)} (h : Sl H T es v F css) (he : ∀ b, F b ↔ G b) : Sl H T es v G css := by
  obtain ⟨h0, ⟨h1, h2, h3⟩ | ⟨b, off, cap, arr, h1, h2, hb, h3, h4, hf⟩⟩ := h
  · exact ⟨h0, .inl ⟨h1, h2, fun b hb => h3 b ((he b).2 hb)⟩⟩
  · exact ⟨h0, .inr ⟨b, off, cap, arr, h1, h2, hb, h3, h4, fun x => (he x).symm.trans (hf x)⟩⟩
def sl (T : TypeId) (es : Nat) (v : Value) (css : List (List Value)) : Res where
  A H F := Sl H T es v F css
  loc h h' := h.of_same h'
  lt h := h.lt
  ext h h' := h.ext h'

def starL : List Res → Res
  | [] => emp
  | r :: L => star r (starL L)

theorem star_comm3 {r s t : Res} {H : Heap} {F : Nat → Prop} (h : (star r (star s t)).A H F) : (star s (star r t)).A H F := by
  obtain ⟨F1, F2, h1, ⟨G1, G2, g1, g2, g3, g4⟩, h3, h4⟩ := h
  refine ⟨G1, fun b => F1 b ∨ G2 b, g1, ⟨F1, G2, h1, g2, fun b hb hg => h3 b hb ((g4 b).2 (.inr hg)), fun b => Iff.rfl⟩, ?_, ?_⟩
  · rintro b hb (h | h)
    · exact h3 b h ((g4 b).2 (.inl hb))
    · exact g3 b hb h
  · intro b; rw [h4 b, g4 b]
    constructor
    · rintro (h | h | h); exact .inr (.inl h); exact .inl h; exact .inr (.inr h)
    · rintro (h | h | h); exact .inr (.inl h); exact .inl h; exact .inr (.inr h)
theorem starL_perm {L L' : List Res} (hp : L.Perm L') : ∀ {H : Heap} {F : Nat → Prop}, (starL L).A H F → (starL L').A H F := by
  induction hp with
  | nil => intro H F h; exact h
  | cons r _ ih => rintro H F ⟨F1, F2, h1, h2, h3, h4⟩; exact ⟨F1, F2, h1, ih h2, h3, h4⟩
  | swap r s t => intro H F h; exact star_comm3 h
  | trans _ _ ih1 ih2 => intro H F h; exact ih2 (ih1 h)

/-- What is read and never changed: the blocks of K, as they are in H0. -/
structure Cx where
  base : World
  K : Nat → Prop
  H0 : Heap

structure Cx.Ok (c : Cx) (w : World) : Prop where
  os : w.os = c.base.os
  tape : w.tape = c.base.tape
  output : w.output = c.base.output
  size : c.H0.size ≤ w.heap.size
  lt : ∀ b, c.K b → b < c.H0.size
  same : ∀ b, c.K b → w.heap[b]? = c.H0[b]?

/-- The state: what is only read is as it was; the things of L lie apart from it and from each other. -/
def St (c : Cx) (w : World) (L : List Res) : Prop := c.Ok w ∧ ∃ F, (starL L).A w.heap F ∧ ∀ b, F b → ¬ c.K b

structure Cx.Le (c c' : Cx) : Prop where
  base : c'.base = c.base
  K : ∀ b, c.K b → c'.K b ∧ c'.H0[b]? = c.H0[b]?
  size : c.H0.size ≤ c'.H0.size
  lt : ∀ b, c.K b → b < c.H0.size
theorem Cx.Ok.refl {c : Cx} {w : World} (h : c.Ok w) : c.Le c := ⟨rfl, fun _ hb => ⟨hb, rfl⟩, Nat.le_refl _, h.lt⟩
theorem St.refl {c : Cx} {w : World} {L : List Res} (h : St c w L) : c.Le c := h.1.refl
theorem Cx.Le.trans {c c' c'' : Cx} (h : c.Le c') (k : c'.Le c'') : c.Le c'' :=
  ⟨k.base.trans h.base, fun b hb => ⟨(k.K b (h.K b hb).1).1, (k.K b (h.K b hb).1).2.trans (h.K b hb).2⟩, Nat.le_trans h.size k.size, h.lt⟩
/-- Less is kept. -/
theorem St.weak {c c' : Cx} {w : World} {L : List Res} (h : St c' w L) (hle : c.Le c') : St c w L := by
  obtain ⟨ok, F, hF, hd⟩ := h
  exact ⟨⟨by rw [ok.os, hle.base], by rw [ok.tape, hle.base], by rw [ok.output, hle.base], Nat.le_trans hle.size ok.size, hle.lt, fun b hb => (ok.same b (hle.K b hb).1).trans (hle.K b hb).2⟩, F, hF, fun b hb hk => hd b hb (hle.K b hk).1⟩

theorem St.perm {c : Cx} {w : World} {L L' : List Res} (h : St c w L) (hp : L.Perm L') : St c w L' := by
  obtain ⟨ok, F, hF, hd⟩ := h; exact ⟨ok, F, starL_perm hp hF, hd⟩
theorem St.drop {c : Cx} {w : World} {r : Res} {L : List Res} (h : St c w (r :: L)) : St c w L := by
  obtain ⟨ok, F, ⟨F1, F2, h1, h2, h3, h4⟩, hd⟩ := h
  exact ⟨ok, F2, h2, fun b hb => hd b ((h4 b).2 (.inr hb))⟩
theorem St.dropL {c : Cx} {w : World} {M L : List Res} (h : St c w (M ++ L)) : St c w L := by
  induction M with
  | nil => exact h
  | cons r M ih => exact ih h.drop

/-- The thing i of the state. -/
def nth : List Res → Nat → Option Res
  | [], _ => none
  | r :: _, 0 => some r
  | _ :: L, i + 1 => nth L i
theorem nth_perm : ∀ {L : List Res} {i : Nat} {r : Res}, nth L i = some r → L.Perm (r :: L.eraseIdx i)
  | [], _, _, h => by cases h
  | s :: L, 0, r, h => by simp only [nth, Option.some.injEq] at h; subst h; exact .refl _
  | s :: L, i + 1, r, h => by
    have := nth_perm (L := L) (i := i) h
    exact (this.cons s).trans (.swap _ _ _)
theorem nth_set_perm : ∀ {L : List Res} {i : Nat} {r r' : Res}, nth L i = some r → (r' :: L.eraseIdx i).Perm (L.set i r')
  | [], _, _, _, h => by cases h
  | s :: L, 0, r, r', h => .refl _
  | s :: L, i + 1, r, r', h => (List.Perm.swap _ _ _).trans ((nth_set_perm (L := L) (i := i) h).cons s)
section
variable {a b c d e f g h i j k m : Res} {L : List Res}
theorem nth0 : nth (a :: L) 0 = some a := rfl
theorem nth1 : nth (a :: b :: L) 1 = some b := rfl
theorem nth2 : nth (a :: b :: c :: L) 2 = some c := rfl
theorem nth3 : nth (a :: b :: c :: d :: L) 3 = some d := rfl
theorem nth4 : nth (a :: b :: c :: d :: e :: L) 4 = some e := rfl
theorem nth5 : nth (a :: b :: c :: d :: e :: f :: L) 5 = some f := rfl
theorem nth6 : nth (a :: b :: c :: d :: e :: f :: g :: L) 6 = some g := rfl
theorem nth7 : nth (a :: b :: c :: d :: e :: f :: g :: h :: L) 7 = some h := rfl
theorem nth8 : nth (a :: b :: c :: d :: e :: f :: g :: h :: i :: L) 8 = some i := rfl
theorem nth9 : nth (a :: b :: c :: d :: e :: f :: g :: h :: i :: j :: L) 9 = some j := rfl
theorem nth10 : nth (a :: b :: c :: d :: e :: f :: g :: h :: i :: j :: k :: L) 10 = some k := rfl
theorem nth11 : nth (a :: b :: c :: d :: e :: f :: g :: h :: i :: j :: k :: m :: L) 11 = some m := rfl
end
/-- Where a thing is, found by its constructors. -/
inductive NthP : List Res → Nat → Res → Prop where
  | z {r : Res} {L : List Res} : NthP (r :: L) 0 r
  | s {a r : Res} {L : List Res} {i : Nat} : NthP L i r → NthP (a :: L) (i + 1) r
theorem NthP.nth {L : List Res} {i : Nat} {r : Res} (h : NthP L i r) : nth L i = some r := by
  induction h with
  | z => rfl
  | s _ ih => exact ih
inductive Pick : List Res → Res → List Res → Prop where
  | z {r : Res} {L : List Res} : Pick (r :: L) r L
  | s {a r : Res} {L L' : List Res} : Pick L r L' → Pick (a :: L) r (a :: L')
theorem Pick.perm {L L' : List Res} {r : Res} (h : Pick L r L') : L.Perm (r :: L') := by
  induction h with
  | z => exact .refl _
  | s _ ih => exact (ih.cons _).trans (.swap _ _ _)
inductive SubP : List Res → List Res → Prop where
  | same {L : List Res} : SubP L L
  | nil {L : List Res} : SubP [] L
  | take {r : Res} {M L L' : List Res} : Pick L r L' → SubP M L' → SubP (r :: M) L
  | cut {a : Res} {M L : List Res} : SubP M L → SubP M (a :: L)
section
variable {a b c d e f g h i j k m : Res} {L : List Res} {C : Cx} {w : World}
theorem St.mv1 (h : St C w (a :: b :: L)) : St C w (b :: a :: L) := h.perm (nth_perm (i := 1) rfl)
theorem St.mv2 (h : St C w (a :: b :: c :: L)) : St C w (c :: a :: b :: L) := h.perm (nth_perm (i := 2) rfl)
theorem St.mv3 (h : St C w (a :: b :: c :: d :: L)) : St C w (d :: a :: b :: c :: L) := h.perm (nth_perm (i := 3) rfl)
theorem St.mv4 (h : St C w (a :: b :: c :: d :: e :: L)) : St C w (e :: a :: b :: c :: d :: L) := h.perm (nth_perm (i := 4) rfl)
theorem St.mv5 (h : St C w (a :: b :: c :: d :: e :: f :: L)) : St C w (f :: a :: b :: c :: d :: e :: L) := h.perm (nth_perm (i := 5) rfl)
theorem St.mv6 (h : St C w (a :: b :: c :: d :: e :: f :: g :: L)) : St C w (g :: a :: b :: c :: d :: e :: f :: L) := h.perm (nth_perm (i := 6) rfl)
theorem St.mv7 (H : St C w (a :: b :: c :: d :: e :: f :: g :: h :: L)) : St C w (h :: a :: b :: c :: d :: e :: f :: g :: L) := H.perm (nth_perm (i := 7) rfl)
theorem St.mv8 (H : St C w (a :: b :: c :: d :: e :: f :: g :: h :: i :: L)) : St C w (i :: a :: b :: c :: d :: e :: f :: g :: h :: L) := H.perm (nth_perm (i := 8) rfl)
end
/-- The goal's things are among those that there are. -/
def Sub (L' L : List Res) : Prop := ∃ M, L.Perm (L' ++ M)
theorem St.sub {c : Cx} {w : World} {L L' : List Res} (h : St c w L) (hs : Sub L' L) : St c w L' := by
  obtain ⟨M, hp⟩ := hs
  exact ((h.perm hp).perm List.perm_append_comm).dropL
theorem SubP.sub {L L' : List Res} (h : SubP L' L) : ∃ M, L.Perm (L' ++ M) := by
  induction h with
  | same => exact ⟨[], by rw [List.append_nil]⟩
  | nil => exact ⟨_, .refl _⟩
  | take hp _ ih => obtain ⟨M, hm⟩ := ih; exact ⟨M, hp.perm.trans (hm.cons _)⟩
  | cut _ ih => obtain ⟨M, hm⟩ := ih; exact ⟨_ :: M, (hm.cons _).trans List.perm_middle.symm⟩
theorem St.subP {c : Cx} {w : World} {L L' : List Res} (h : St c w L) (hs : SubP L' L) : St c w L' := h.sub hs.sub
theorem Sub.same (L : List Res) : Sub L L := ⟨[], by rw [List.append_nil]⟩
theorem Sub.nil (L : List Res) : Sub [] L := ⟨L, .refl _⟩
theorem Sub.cut {r : Res} {L' L : List Res} (h : Sub L' L) : Sub L' (r :: L) := by
  obtain ⟨M, hp⟩ := h
  exact ⟨r :: M, (hp.cons r).trans List.perm_middle.symm⟩
theorem Sub.take {L' L : List Res} (i : Nat) {r : Res} (hi : nth L i = some r) (h : Sub L' (L.eraseIdx i)) : Sub (r :: L') L := by
  obtain ⟨M, hp⟩ := h
  exact ⟨M, (nth_perm hi).trans (hp.cons r)⟩
section
variable {a b c d e f g h i j k m r : Res} {L L' : List Res}
theorem Sub.t0 (H : Sub L' L) : Sub (r :: L') (r :: L) := .take 0 rfl H
theorem Sub.t1 (H : Sub L' (a :: L)) : Sub (r :: L') (a :: r :: L) := .take 1 rfl H
theorem Sub.t2 (H : Sub L' (a :: b :: L)) : Sub (r :: L') (a :: b :: r :: L) := .take 2 rfl H
theorem Sub.t3 (H : Sub L' (a :: b :: c :: L)) : Sub (r :: L') (a :: b :: c :: r :: L) := .take 3 rfl H
theorem Sub.t4 (H : Sub L' (a :: b :: c :: d :: L)) : Sub (r :: L') (a :: b :: c :: d :: r :: L) := .take 4 rfl H
theorem Sub.t5 (H : Sub L' (a :: b :: c :: d :: e :: L)) : Sub (r :: L') (a :: b :: c :: d :: e :: r :: L) := .take 5 rfl H
theorem Sub.t6 (H : Sub L' (a :: b :: c :: d :: e :: f :: L)) : Sub (r :: L') (a :: b :: c :: d :: e :: f :: r :: L) := .take 6 rfl H
theorem Sub.t7 (H : Sub L' (a :: b :: c :: d :: e :: f :: g :: L)) : Sub (r :: L') (a :: b :: c :: d :: e :: f :: g :: r :: L) := .take 7 rfl H
theorem Sub.t8 (H : Sub L' (a :: b :: c :: d :: e :: f :: g :: h :: L)) : Sub (r :: L') (a :: b :: c :: d :: e :: f :: g :: h :: r :: L) := .take 8 rfl H
theorem Sub.t9 (H : Sub L' (a :: b :: c :: d :: e :: f :: g :: h :: i :: L)) : Sub (r :: L') (a :: b :: c :: d :: e :: f :: g :: h :: i :: r :: L) := .take 9 rfl H
theorem Sub.t10 (H : Sub L' (a :: b :: c :: d :: e :: f :: g :: h :: i :: j :: L)) : Sub (r :: L') (a :: b :: c :: d :: e :: f :: g :: h :: i :: j :: r :: L) := .take 10 rfl H
end

section
variable {c c' : Cx} {w w' : World} {L : List Res}
theorem St.ok (h : St c w L) : c.Ok w := h.1
/-- A thing changes: it lies where it lay, or in new blocks. -/
theorem St.step {i : Nat} {r : Res} (h : St c w L) (hi : nth L i = some r) : ∃ F, r.A w.heap F ∧ (∀ b, F b → ¬ c.K b) ∧ ∀ w' F' r', r'.A w'.heap F' → Step F F' w w' → St c w' (L.set i r') := by
  obtain ⟨ok, F, ⟨F1, F2, h1, h2, h3, h4⟩, hd⟩ := h.perm (nth_perm hi)
  refine ⟨F1, h1, fun b hb => hd b ((h4 b).2 (.inl hb)), fun w' F' r' hr hs => St.perm ?_ (nth_set_perm hi)⟩
  have hf := hs.fr
  refine ⟨⟨hf.os.trans ok.os, hf.tape.trans ok.tape, hf.output.trans ok.output, Nat.le_trans ok.size hf.size, ok.lt, fun b hb => ?_⟩, fun b => F' b ∨ F2 b, ⟨F', F2, hr, ?_, ?_, fun b => Iff.rfl⟩, ?_⟩
  · exact (hf.same b (Nat.lt_of_lt_of_le (ok.lt b hb) ok.size) fun hF => hd b ((h4 b).2 (.inl hF)) hb).trans (ok.same b hb)
  · exact (starL _).loc h2 fun b hb hlt => hf.same b hlt fun hF => h3 b hF hb
  · intro b hb hb2
    exact (hs.sub b hb).elim (fun h => h3 b h hb2) (fun h => absurd ((starL _).lt h2 b hb2) (by omega))
  · rintro b (hb | hb) hk
    · exact (hs.sub b hb).elim (fun h => hd b ((h4 b).2 (.inl h)) hk) (fun h => absurd (ok.lt b hk) (by have := ok.size; omega))
    · exact hd b ((h4 b).2 (.inr hb)) hk
theorem St.fr0 (h : St c w L) (hf : Fr NF w w') : St c w' L := by
  obtain ⟨ok, F, hF, hd⟩ := h
  exact ⟨⟨hf.os.trans ok.os, hf.tape.trans ok.tape, hf.output.trans ok.output, Nat.le_trans ok.size hf.size, ok.lt, fun b hb => (hf.same b (Nat.lt_of_lt_of_le (ok.lt b hb) ok.size) fun h => h).trans (ok.same b hb)⟩, F, (starL _).loc hF fun b _ hlt => hf.same b hlt fun h => h, hd⟩
theorem St.new {r : Res} {F' : Nat → Prop} (h : St c w L) (hr : r.A w'.heap F') (hf : Fr NF w w') (hn : ∀ b, F' b → w.heap.size ≤ b) : St c w' (r :: L) := by
  obtain ⟨ok, F, hF, hd⟩ := h
  refine ⟨(St.fr0 ⟨ok, F, hF, hd⟩ hf).1, fun b => F' b ∨ F b, ⟨F', F, hr, (starL _).loc hF fun b _ hlt => hf.same b hlt fun h => h, fun b hb hb2 => absurd ((starL _).lt hF b hb2) (by have := hn b hb; omega), fun b => Iff.rfl⟩, ?_⟩
  rintro b (hb | hb) hk
  · exact absurd (ok.lt b hk) (by have := ok.size; have := hn b hb; omega)
  · exact hd b hb hk
theorem St.emp {r : Res} (h : St c w L) (hr : r.A w.heap NF) : St c w (r :: L) := h.new hr (Fr.refl _ _) fun _ h => h.elim
theorem St.nil {T : TypeId} {es : Nat} (h : St c w L) : St c w (sl T es (.slice none 0 0) [] :: L) := h.emp (Sl.nil _ _ _)
theorem St.drew (h : St c w L) : St c w.drew L := h.fr0 (Fr.drew' (Fr.refl _ _))
theorem St.res {i : Nat} {r : Res} (h : St c w L) (hi : nth L i = some r) : ∃ F, r.A w.heap F := by
  obtain ⟨F, h1, _⟩ := h.step hi; exact ⟨F, h1⟩
/-- From here on a thing is only read. -/
theorem St.freeze {r : Res} (h : St c w (r :: L)) : ∃ c' F, c.Le c' ∧ St c' w L ∧ r.A c'.H0 F ∧ ∀ b, F b → c'.K b := by
  obtain ⟨ok, F, ⟨F1, F2, h1, h2, h3, h4⟩, hd⟩ := h
  refine ⟨⟨c.base, fun b => c.K b ∨ F1 b, w.heap⟩, F1, ⟨rfl, fun b hb => ⟨.inl hb, ok.same b hb⟩, ok.size, ok.lt⟩, ⟨⟨ok.os, ok.tape, ok.output, Nat.le_refl _, fun b hb => hb.elim (fun hb => Nat.lt_of_lt_of_le (ok.lt b hb) ok.size) (r.lt h1 b), fun b _ => rfl⟩, F2, h2, ?_⟩, h1, fun b hb => .inr hb⟩
  rintro b hb (hk | hk)
  · exact hd b ((h4 b).2 (.inr hb)) hk
  · exact h3 b hk hb
theorem St.ex {α : Type} {f : α → Res} (h : St c w (Res.ex f :: L)) : ∃ x, St c w (f x :: L) := by
  obtain ⟨ok, F, ⟨F1, F2, ⟨x, h1⟩, h2, h3, h4⟩, hd⟩ := h
  exact ⟨x, ok, F, ⟨F1, F2, h1, h2, h3, h4⟩, hd⟩
theorem St.ex' {α : Type} {f : α → Res} (x : α) (h : St c w (f x :: L)) : St c w (Res.ex f :: L) := by
  obtain ⟨ok, F, ⟨F1, F2, h1, h2, h3, h4⟩, hd⟩ := h
  exact ⟨ok, F, ⟨F1, F2, ⟨x, h1⟩, h2, h3, h4⟩, hd⟩
theorem St.pure {p : Prop} {r : Res} (h : St c w (Res.pure p r :: L)) : p ∧ St c w (r :: L) := by
  obtain ⟨ok, F, ⟨F1, F2, ⟨x, h1⟩, h2, h3, h4⟩, hd⟩ := h
  exact ⟨x, ok, F, ⟨F1, F2, h1, h2, h3, h4⟩, hd⟩
theorem St.pure' {p : Prop} {r : Res} (x : p) (h : St c w (r :: L)) : St c w (Res.pure p r :: L) := by
  obtain ⟨ok, F, ⟨F1, F2, h1, h2, h3, h4⟩, hd⟩ := h
  exact ⟨ok, F, ⟨F1, F2, ⟨x, h1⟩, h2, h3, h4⟩, hd⟩
theorem star_assoc {r s t : Res} {H : Heap} {F : Nat → Prop} (h : (star (star r s) t).A H F) : (star r (star s t)).A H F := by
  obtain ⟨F1, F2, ⟨G1, G2, g1, g2, g3, g4⟩, h2, h3, h4⟩ := h
  refine ⟨G1, fun b => G2 b ∨ F2 b, g1, ⟨G2, F2, g2, h2, fun b hb => h3 b ((g4 b).2 (.inr hb)), fun b => Iff.rfl⟩, ?_, fun b => ?_⟩
  · rintro b hb (h | h)
    · exact g3 b hb h
    · exact h3 b ((g4 b).2 (.inl hb)) h
  · rw [h4 b, g4 b, or_assoc]
theorem star_assoc' {r s t : Res} {H : Heap} {F : Nat → Prop} (h : (star r (star s t)).A H F) : (star (star r s) t).A H F := by
  obtain ⟨F1, F2, h1, ⟨G1, G2, g1, g2, g3, g4⟩, h3, h4⟩ := h
  refine ⟨fun b => F1 b ∨ G1 b, G2, ⟨F1, G1, h1, g1, fun b hb hg => h3 b hb ((g4 b).2 (.inl hg)), fun b => Iff.rfl⟩, g2, ?_, fun b => ?_⟩
  · rintro b (hb | hb) hg
    · exact h3 b hb ((g4 b).2 (.inr hg))
    · exact g3 b hb hg
  · rw [h4 b, g4 b, or_assoc]
theorem St.star {r s : Res} (h : St c w (star r s :: L)) : St c w (r :: s :: L) := by
  obtain ⟨ok, F, h, hd⟩ := h; exact ⟨ok, F, star_assoc h, hd⟩
theorem St.star' {r s : Res} (h : St c w (r :: s :: L)) : St c w (Go.Lir.star r s :: L) := by
  obtain ⟨ok, F, h, hd⟩ := h; exact ⟨ok, F, star_assoc' h, hd⟩
/-- The first thing, seen otherwise. -/
theorem St.imp {r r' : Res} (h : St c w (r :: L)) (hi : ∀ H F, r.A H F → r'.A H F) : St c w (r' :: L) := by
  obtain ⟨ok, F, ⟨F1, F2, h1, h2, h3, h4⟩, hd⟩ := h
  exact ⟨ok, F, ⟨F1, F2, hi _ _ h1, h2, h3, h4⟩, hd⟩
/-- Out of a contract of the older kind. -/
theorem St.step0 {r : Res} (h : St c w (r :: L)) : ∃ F, r.A w.heap F ∧ ∀ w' F' r', r'.A w'.heap F' → Step F F' w w' → St c w' (r' :: L) := by
  obtain ⟨F, h1, _, h2⟩ := h.step (i := 0) rfl; exact ⟨F, h1, h2⟩

theorem St.out {i : Nat} {r : Res} (h : St c w L) (hi : nth L i = some r) : St c w (r :: L.eraseIdx i) := h.perm (nth_perm hi)
theorem St.back {i : Nat} {r r' : Res} (h : St c w (r' :: L.eraseIdx i)) (hi : nth L i = some r) : St c w (L.set i r') := h.perm (nth_set_perm hi)
theorem St.back0 {i : Nat} {r : Res} (h : St c w (r :: L.eraseIdx i)) (hi : nth L i = some r) : St c w L := h.perm (nth_perm hi).symm
theorem St.list : ∀ {M L : List Res}, St c w (starL M :: L) → St c w (M ++ L)
  | [], L, h => h.drop
  | r :: M, L, h => by
    have h1 := St.list (M := M) (L := r :: L) (St.mv1 (St.star h))
    exact h1.perm (List.perm_middle)
theorem St.list' : ∀ {M L : List Res}, St c w (M ++ L) → St c w (starL M :: L)
  | [], L, h => h.emp (r := Go.Lir.emp) fun _ h => h
  | r :: M, L, h => by
    have h1 : St c w (M ++ r :: L) := h.perm (List.perm_middle.symm)
    exact (St.mv1 (St.list' h1)).star'
/-- Many things, one for each x of a list. -/
def big {α : Type} (f : α → Res) (l : List α) : Res := starL (l.map f)
theorem erase_map {α β : Type} (f : α → β) : ∀ (l : List α) (k : Nat), (l.eraseIdx k).map f = (l.map f).eraseIdx k
  | [], _ => rfl
  | _ :: _, 0 => rfl
  | x :: l, k + 1 => by simp only [List.eraseIdx_cons_succ, List.map_cons, erase_map f l k]
theorem nth_map {α : Type} (f : α → Res) : ∀ {l : List α} {k : Nat} {x : α}, l[k]? = some x → nth (l.map f) k = some (f x)
  | [], _, _, h => by simp at h
  | y :: l, 0, x, h => by simp at h; subst h; rfl
  | y :: l, k + 1, x, h => nth_map f (l := l) (by simpa using h)
theorem St.bigOut {α : Type} {f : α → Res} {l : List α} {i k : Nat} {x : α} (h : St c w L) (hi : nth L i = some (big f l)) (hk : l[k]? = some x) : St c w (f x :: L.set i (big f (l.eraseIdx k))) := by
  have h1 : St c w (l.map f ++ L.eraseIdx i) := (h.out hi).list
  have h2 : St c w ((f x :: (l.map f).eraseIdx k) ++ L.eraseIdx i) := h1.perm ((nth_perm (nth_map f hk)).append_right _)
  rw [← erase_map] at h2
  have h3 : St c w ((l.eraseIdx k).map f ++ f x :: L.eraseIdx i) := h2.perm List.perm_middle.symm
  have h4 : St c w (big f (l.eraseIdx k) :: f x :: L.eraseIdx i) := h3.list'
  exact h4.mv1.perm ((nth_set_perm hi).cons _)
theorem St.bigIn {α : Type} {f : α → Res} {l : List α} {i k : Nat} {x' : α} (h : St c w (f x' :: L)) (hi : nth L i = some (big f (l.eraseIdx k))) (hk : k < l.length) : St c w (L.set i (big f (l.set k x'))) := by
  have h1 : St c w (big f (l.eraseIdx k) :: f x' :: L.eraseIdx i) := ((h.perm ((nth_perm hi).cons _)) : St c w (f x' :: big f (l.eraseIdx k) :: L.eraseIdx i)).mv1
  have h2 : St c w ((l.eraseIdx k).map f ++ f x' :: L.eraseIdx i) := h1.list
  rw [erase_map] at h2
  have h3 : St c w (f x' :: (l.map f).eraseIdx k ++ L.eraseIdx i) := h2.perm List.perm_middle
  have hx : nth (l.map f) k = some (f (l[k]'hk)) := nth_map f (List.getElem?_eq_getElem hk)
  have h4 : St c w ((l.map f).set k (f x') ++ L.eraseIdx i) := h3.perm ((nth_set_perm hx).append_right _)
  rw [← List.map_set] at h4
  exact (St.list' h4 : St c w (big f (l.set k x') :: L.eraseIdx i)).back hi
theorem set_same {α : Type} {l : List α} {k : Nat} {x : α} (h : l[k]? = some x) : l.set k x = l := by
  apply List.ext_getElem?
  intro j
  rw [List.getElem?_set]
  split
  · rename_i e; subst e; rw [if_pos (List.getElem?_eq_some_iff.1 h).1, h]
  · rfl

/-- At the beginning: all that there is is only read. -/
def Cx.top (w : World) : Cx := ⟨w, (· < w.heap.size), w.heap⟩
theorem St.top (w : World) : St (Cx.top w) w [] := ⟨⟨rfl, rfl, rfl, Nat.le_refl _, fun _ h => h, fun _ _ => rfl⟩, NF, fun _ h => h, fun _ h => h.elim⟩
theorem St.fr {w0 : World} (h : St (Cx.top w0) w L) : Fr NF w0 w := ⟨h.1.os, h.1.tape, h.1.output, h.1.size, fun b hb _ => h.1.same b hb⟩
end

/-! ### What is only read -/
abbrev FzS (c : Cx) (es : Nat) (v : Value) (css : List (List Value)) : Prop := SlR c.H0 es v c.K css
def AtK (c : Cx) (b o : Nat) (cs : List Value) : Prop := c.K b ∧ At c.H0 b o cs
theorem AtK.up {c c' : Cx} {b o : Nat} {cs : List Value} (h : AtK c b o cs) (hle : c.Le c') : AtK c' b o cs := ⟨(hle.K b h.1).1, h.2.of_same (hle.K b h.1).2⟩
theorem FzS.up {c c' : Cx} {es : Nat} {v : Value} {css : List (List Value)} (h : FzS c es v css) (hle : c.Le c') : FzS c' es v css := by
  obtain ⟨h0, a, cap, hv, hlc, hc | ⟨b, off, ha, hF, hb, hat⟩⟩ := h
  · exact ⟨h0, a, cap, hv, hlc, .inl hc⟩
  · exact ⟨h0, a, cap, hv, hlc, .inr ⟨b, off, ha, (hle.K b hF).1, Nat.lt_of_lt_of_le hb hle.size, fun m c hm => (hat m c hm).of_same (hle.K b hF).2⟩⟩
theorem FzS.now {c : Cx} {w : World} {L : List Res} {es : Nat} {v : Value} {css : List (List Value)} (h : FzS c es v css) (hS : St c w L) : SlR w.heap es v c.K css :=
  SlR.of_same h fun b hb _ => hS.1.same b hb
theorem AtK.now {c : Cx} {w : World} {L : List Res} {b o : Nat} {cs : List Value} (h : AtK c b o cs) (hS : St c w L) : At w.heap b o cs := h.2.of_same (hS.1.same b h.1)
theorem FzS.top {w : World} {es : Nat} {v : Value} {css : List (List Value)} (h : SlR w.heap es v (fun _ => True) css) : FzS (Cx.top w) es v css := SlR.mono h fun _ hb _ => hb
theorem FzS.nil (c : Cx) (es : Nat) : FzS c es (.slice none 0 0) [] := ⟨by simp, none, 0, rfl, Nat.le_refl _, .inl rfl⟩
theorem St.freezeS {c : Cx} {w : World} {L : List Res} {T : TypeId} {es : Nat} {v : Value} {css : List (List Value)} (h : St c w (sl T es v css :: L)) : ∃ c', c.Le c' ∧ St c' w L ∧ FzS c' es v css := by
  obtain ⟨c', F, h1, h2, h3, h4⟩ := h.freeze
  exact ⟨c', h1, h2, SlR.mono (Sl.toR h3) fun b _ hb => h4 b hb⟩
theorem St.freezeB {c : Cx} {w : World} {L : List Res} {T : TypeId} {b : Nat} {cs : List Value} (h : St c w (blk b T cs :: L)) : ∃ c', c.Le c' ∧ St c' w L ∧ AtK c' b 0 cs := by
  obtain ⟨c', F, h1, h2, ⟨h3, h5⟩, h4⟩ := h.freeze
  refine ⟨c', h1, h2, h4 b ((h5 b).2 rfl), fun j u hj => ?_⟩
  obtain ⟨fz, h, _⟩ := h3
  simp [cellH, h, hj]

/-- The element m of the slice v, of n elements, is at ⟨b, o⟩. -/
def ElP (v : Value) (n es m b o : Nat) : Prop := m < n ∧ ∃ off cap, v = .slice (some ⟨b, off, none⟩) n cap ∧ o = off + m * es
theorem ElP.el {v : Value} {n es m b o : Nat} {H : Heap} {T : TypeId} {F : Nat → Prop} {css : List (List Value)} (h : ElP v n es m b o) (hn : css.length = n) (hs : Sl H T es v F css) : El H T es v F css m b o := by
  subst hn; exact ⟨hs, h.1, h.2⟩

theorem storeCells_off {P : Program} (b o j : Nat) : ∀ (us : List Value) (w : World) (k : Nat), (storeCells ⟨b, o + j, none⟩ us k).run P w = (storeCells ⟨b, o, none⟩ us (j + k)).run P w
  | [], w, k => rfl
  | u :: us, w, k => by
    simp only [storeCells, Sem.run_bind, add_addr]
    have h1 : o + j + k = o + (j + k) := by omega
    have h2 : j + (k + 1) = j + k + 1 := by omega
    rw [h1]
    congr 1
    funext x w'
    rw [storeCells_off b o j us w' (k + 1), h2]

section
variable {P : Program} {l : List GO} {Q : QT} {ρ : Env} {w : World} {c : Cx} {L : List Res} {i : Nat} {T es : Nat} {v : Value} {css : List (List Value)}

theorem s_loadB {d : Nat} {x : Operand} {b o : Nat} {cs : List Value} {u : Value} (hS : St c w L) (hx : ρ.ev x = .pointer (some ⟨b, o, none⟩)) (hi : nth L i = some (blk b T cs)) (hu : cs[o]? = some u)
    (h : opsWp P l Q (upd ρ d u) w) : opsWp P (⟨none, .load1 d x⟩ :: l) Q ρ w := by
  obtain ⟨F, h1, _⟩ := hS.step hi; exact s_loadb hx h1.1 hu h
theorem s_loadnB {d n : Nat} {x : Operand} {b o : Nat} {cs us : List Value} (hS : St c w L) (hx : ρ.ev x = .pointer (some ⟨b, o, none⟩)) (hi : nth L i = some (blk b T cs)) (hu : (cs.drop o).take n = us) (hl : us.length = n)
    (h : opsWp P l Q (upd ρ d (.agg ⟨us⟩)) w) : opsWp P (⟨none, .loadn d n x⟩ :: l) Q ρ w := by
  obtain ⟨F, h1, _⟩ := hS.step hi; exact s_loadn hx h1.1 hu hl h
theorem blk_step {b : Nat} {F : Nat → Prop} {w' : World} (h : ∀ x, F x ↔ x = b) (hf : Fr (· = b) w w') : Step F F w w' := Step.same (hf.into fun x hx => (h x).2 hx)
theorem s_storeB {x y : Operand} {b o : Nat} {cs : List Value} {u : Value} (hS : St c w L) (hx : ρ.ev x = .pointer (some ⟨b, o, none⟩)) (hy : ρ.ev y = u) (hi : nth L i = some (blk b T cs)) (ho : o < cs.length) (h1 : oneC u = true)
    (h : ∀ w', St c w' (L.set i (blk b T (cs.set o u))) → opsWp P l Q ρ w') : opsWp P (⟨none, .store1 x y⟩ :: l) Q ρ w := by
  obtain ⟨F, hr, _, hst⟩ := hS.step hi
  exact s_store hx hy hr.1 ho h1 fun w' hf _ hb => h w' (hst w' F _ ⟨hb, hr.2⟩ (blk_step hr.2 hf))
theorem s_storeBc {x y : Operand} {b o : Nat} {cs cs' : List Value} {u : Value} (hS : St c w L) (hx : ρ.ev x = .pointer (some ⟨b, o, none⟩)) (hy : ρ.ev y = u) (hi : nth L i = some (blk b T cs)) (ho : o < cs.length) (h1 : oneC u = true) (hc : cs.set o u = cs')
    (h : ∀ w', St c w' (L.set i (blk b T cs')) → opsWp P l Q ρ w') : opsWp P (⟨none, .store1 x y⟩ :: l) Q ρ w := by subst hc; exact s_storeB hS hx hy hi ho h1 h
theorem s_storenB {n : Nat} {x y : Operand} {b o : Nat} {cs us cs' : List Value} (hS : St c w L) (hx : ρ.ev x = .pointer (some ⟨b, o, none⟩)) (hy : ρ.ev y = .agg ⟨us⟩) (hn : us.length = n) (hi : nth L i = some (blk b T cs)) (ho : o + n ≤ cs.length) (h1 : ∀ u ∈ us, oneC u = true)
    (hc : cs.take o ++ (us ++ cs.drop (o + n)) = cs') (h : ∀ w', St c w' (L.set i (blk b T cs')) → opsWp P l Q ρ w') : opsWp P (⟨none, .storen n x y⟩ :: l) Q ρ w := by
  subst hc
  obtain ⟨F, hr, _, hst⟩ := hS.step hi
  exact s_storen hx hy hn hr.1 ho h1 fun w' hf _ hb => h w' (hst w' F _ ⟨hb, hr.2⟩ (blk_step hr.2 hf))
theorem St.blkAt {b : Nat} {cs : List Value} (hS : St c w L) (hi : nth L i = some (blk b T cs)) : Blk w.heap b T cs := by
  obtain ⟨F, hr, _⟩ := hS.step hi; exact hr.1
theorem s_allocB {d : Nat} {z : List Value} (hS : St c w L) (h : ∀ b w', St c w' (blk b T z :: L) → opsWp P l Q (upd ρ d (.pointer (some ⟨b, 0, none⟩))) w') : opsWp P (⟨none, .alloc d T z⟩ :: l) Q ρ w :=
  s_alloc fun b w' hb hf _ hk => h b w' (hS.new (F' := (· = b)) ⟨hk, fun _ => Iff.rfl⟩ hf fun x hx => by omega)
theorem s_boxB {d : Nat} {x : Operand} {cs : List Value} (hS : St c w L) (hx : ρ.ev x = v) (hc : v.cells = ⟨cs⟩) (h : ∀ b w', St c w' (blk b T cs :: L) → opsWp P l Q (upd ρ d (.pointer (some ⟨b, 0, none⟩))) w') : opsWp P (⟨none, .box d T x⟩ :: l) Q ρ w :=
  s_boxV hx hc fun b w' hb hf _ hk => h b w' (hS.new (F' := (· = b)) ⟨hk, fun _ => Iff.rfl⟩ hf fun x hx => by omega)
/-- The new thing of a block that was just laid. -/
theorem St.laid {b : Nat} {w' : World} {cs : List Value} (hS : St c w L) (hb : b = w.heap.size) (hf : Fr NF w w') (hk : Blk w'.heap b T cs) : St c w' (blk b T cs :: L) := hS.new (F' := (· = b)) ⟨hk, fun _ => Iff.rfl⟩ hf fun x hx => by omega
theorem St.slOf {b n : Nat} {cs : List Value} (hS : St c w (blk b T cs :: L)) (hf : css.flatten = cs) (hl : ∀ c ∈ css, c.length = es) (hn : css.length = n) : St c w (sl T es (.slice (some ⟨b, 0, none⟩) n n) css :: L) :=
  hS.imp fun _ _ h => Sl.ext (Sl.fresh h.1 hf hl hn) fun x => (h.2 x).symm

theorem s_idxE {d m : Nat} {x y : Operand} {k : IntKind} (hS : St c w L) (hx : ρ.ev x = v) (hy : ρ.ev y = .int k (m : Int)) (hi : nth L i = some (sl T es v css)) (hm : m < css.length)
    (h : ∀ b o, ElP v css.length es m b o → opsWp P l Q (upd ρ d (.pointer (some ⟨b, o, none⟩))) w) : opsWp P (⟨none, .idx d es x y⟩ :: l) Q ρ w := by
  obtain ⟨F, hr, _⟩ := hS.step hi
  exact s_idxSn hx hy hr hm fun b o he => h b o ⟨he.2, he.3⟩
theorem s_idxEi {d : Nat} {x y : Operand} {k : IntKind} {n : Int} (hS : St c w L) (hx : ρ.ev x = v) (hy : ρ.ev y = .int k n) (hi : nth L i = some (sl T es v css)) (h0 : 0 ≤ n) (hm : n < css.length)
    (h : ∀ b o, ElP v css.length es n.toNat b o → opsWp P l Q (upd ρ d (.pointer (some ⟨b, o, none⟩))) w) : opsWp P (⟨none, .idx d es x y⟩ :: l) Q ρ w := by
  obtain ⟨F, hr, _⟩ := hS.step hi
  exact s_idxS hx hy hr h0 hm fun b o he => h b o ⟨he.2, he.3⟩
theorem s_lenE {d : Nat} {x : Operand} (hS : St c w L) (hx : ρ.ev x = v) (hi : nth L i = some (sl T es v css)) (h : opsWp P l Q (upd ρ d (.int .i64 css.length)) w) : opsWp P (⟨none, .len d x⟩ :: l) Q ρ w := by
  obtain ⟨F, hr, _⟩ := hS.step hi; exact s_lenS hx hr h
theorem s_loadEj {d n : Nat} {x : Operand} {m b o j : Nat} {cs : List Value} {u : Value} (hS : St c w L) (he : ElP v n es m b o) (hx : ρ.ev x = .pointer (some ⟨b, o + j, none⟩)) (hi : nth L i = some (sl T es v css)) (hn : css.length = n) (hc : css[m]? = some cs) (hu : cs[j]? = some u)
    (h : opsWp P l Q (upd ρ d u) w) : opsWp P (⟨none, .load1 d x⟩ :: l) Q ρ w := by
  obtain ⟨F, hr, _⟩ := hS.step hi; exact s_loadSj hx (he.el hn hr) hc hu h
theorem s_loadE {d n : Nat} {x : Operand} {m b o : Nat} {cs : List Value} {u : Value} (hS : St c w L) (he : ElP v n es m b o) (hx : ρ.ev x = .pointer (some ⟨b, o, none⟩)) (hi : nth L i = some (sl T es v css)) (hn : css.length = n) (hc : css[m]? = some cs) (hu : cs[0]? = some u)
    (h : opsWp P l Q (upd ρ d u) w) : opsWp P (⟨none, .load1 d x⟩ :: l) Q ρ w := s_loadEj (j := 0) hS he hx hi hn hc hu h
theorem s_loadnE {d n : Nat} {x : Operand} {m b o : Nat} {cs : List Value} (hS : St c w L) (he : ElP v n es m b o) (hx : ρ.ev x = .pointer (some ⟨b, o, none⟩)) (hi : nth L i = some (sl T es v css)) (hn : css.length = n) (hc : css[m]? = some cs)
    (h : opsWp P l Q (upd ρ d (.agg ⟨cs⟩)) w) : opsWp P (⟨none, .loadn d es x⟩ :: l) Q ρ w := by
  obtain ⟨F, hr, _⟩ := hS.step hi; exact s_loadnS hx (he.el hn hr) hc h
theorem s_loadnEj {d n k : Nat} {x : Operand} {m b o j : Nat} {cs us : List Value} (hS : St c w L) (he : ElP v n es m b o) (hx : ρ.ev x = .pointer (some ⟨b, o + j, none⟩)) (hi : nth L i = some (sl T es v css)) (hn : css.length = n) (hc : css[m]? = some cs) (hu : (cs.drop j).take k = us) (hl : us.length = k)
    (h : opsWp P l Q (upd ρ d (.agg ⟨us⟩)) w) : opsWp P (⟨none, .loadn d k x⟩ :: l) Q ρ w := by
  obtain ⟨F, hr, _⟩ := hS.step hi; exact s_loadc hx ((he.el hn hr).cellsMid hc hu hl) h
theorem s_storeEj {n : Nat} {x y : Operand} {m b o j : Nat} {cs : List Value} {u : Value} (hS : St c w L) (he : ElP v n es m b o) (hx : ρ.ev x = .pointer (some ⟨b, o + j, none⟩)) (hy : ρ.ev y = u) (hi : nth L i = some (sl T es v css)) (hn : css.length = n) (hc : css[m]? = some cs) (hj : j < es) (ho : oneC u = true)
    (h : ∀ w', St c w' (L.set i (sl T es v (css.set m (cs.set j u)))) → opsWp P l Q ρ w') : opsWp P (⟨none, .store1 x y⟩ :: l) Q ρ w := by
  obtain ⟨F, hr, _, hst⟩ := hS.step hi
  exact s_storeSj hx hy (he.el hn hr) hc hj ho fun w' hf _ hk => h w' (hst w' F _ hk.sl (Step.same hf))
theorem s_storeE {n : Nat} {x y : Operand} {m b o : Nat} {cs : List Value} {u : Value} (hS : St c w L) (he : ElP v n es m b o) (hx : ρ.ev x = .pointer (some ⟨b, o, none⟩)) (hy : ρ.ev y = u) (hi : nth L i = some (sl T es v css)) (hn : css.length = n) (hc : css[m]? = some cs) (hj : 0 < es) (ho : oneC u = true)
    (h : ∀ w', St c w' (L.set i (sl T es v (css.set m (cs.set 0 u)))) → opsWp P l Q ρ w') : opsWp P (⟨none, .store1 x y⟩ :: l) Q ρ w := s_storeEj (j := 0) hS he hx hy hi hn hc hj ho h
theorem s_storenEj {n k : Nat} {x y : Operand} {m b o j : Nat} {cs us cs' : List Value} (hS : St c w L) (he : ElP v n es m b o) (hx : ρ.ev x = .pointer (some ⟨b, o + j, none⟩)) (hy : ρ.ev y = .agg ⟨us⟩) (hk : us.length = k) (hi : nth L i = some (sl T es v css)) (hn : css.length = n) (hc : css[m]? = some cs) (hj : j + k ≤ es) (ho : ∀ u ∈ us, oneC u = true)
    (hc' : cs.take j ++ (us ++ cs.drop (j + k)) = cs') (h : ∀ w', St c w' (L.set i (sl T es v (css.set m cs'))) → opsWp P l Q ρ w') : opsWp P (⟨none, .storen k x y⟩ :: l) Q ρ w := by
  subst hk hc'
  obtain ⟨F, hr, _, hst⟩ := hS.step hi
  obtain ⟨w', h1, h2, _, h4⟩ := El.setn (P := P) us w css cs j (he.el hn hr) hc hj ho
  refine ⟨_, _, w', hx, hy, rfl, ?_, h w' (hst w' F _ h4.sl (Step.same h2))⟩
  have := storeCells_off (P := P) b o j us w 0
  exact this.trans h1
theorem s_storenE {n : Nat} {x y : Operand} {m b o : Nat} {cs us : List Value} {k : Nat} (hS : St c w L) (he : ElP v n es m b o) (hx : ρ.ev x = .pointer (some ⟨b, o, none⟩)) (hy : ρ.ev y = .agg ⟨us⟩) (hk : us.length = k) (hi : nth L i = some (sl T es v css)) (hn : css.length = n) (hc : css[m]? = some cs) (hl : us.length = es) (ho : ∀ u ∈ us, oneC u = true)
    (h : ∀ w', St c w' (L.set i (sl T es v (css.set m us))) → opsWp P l Q ρ w') : opsWp P (⟨none, .storen k x y⟩ :: l) Q ρ w := by
  obtain ⟨F, hr, _, hst⟩ := hS.step hi
  exact s_storenS hx hy hk (he.el hn hr) hc hl ho fun w' hf _ hk => h w' (hst w' F _ hk.sl (Step.same hf))
theorem s_storeEjc {n : Nat} {x y : Operand} {m b o j : Nat} {cs : List Value} {u : Value} {css' : List (List Value)} (hS : St c w L) (he : ElP v n es m b o) (hx : ρ.ev x = .pointer (some ⟨b, o + j, none⟩)) (hy : ρ.ev y = u) (hi : nth L i = some (sl T es v css)) (hn : css.length = n) (hc : css[m]? = some cs) (hj : j < es) (ho : oneC u = true)
    (hc' : css.set m (cs.set j u) = css') (h : ∀ w', St c w' (L.set i (sl T es v css')) → opsWp P l Q ρ w') : opsWp P (⟨none, .store1 x y⟩ :: l) Q ρ w := by subst hc'; exact s_storeEj hS he hx hy hi hn hc hj ho h
theorem s_storenEc {n : Nat} {x y : Operand} {m b o : Nat} {cs us : List Value} {k : Nat} {css' : List (List Value)} (hS : St c w L) (he : ElP v n es m b o) (hx : ρ.ev x = .pointer (some ⟨b, o, none⟩)) (hy : ρ.ev y = .agg ⟨us⟩) (hk : us.length = k) (hi : nth L i = some (sl T es v css)) (hn : css.length = n) (hc : css[m]? = some cs) (hl : us.length = es) (ho : ∀ u ∈ us, oneC u = true)
    (hc' : css.set m us = css') (h : ∀ w', St c w' (L.set i (sl T es v css')) → opsWp P l Q ρ w') : opsWp P (⟨none, .storen k x y⟩ :: l) Q ρ w := by subst hc'; exact s_storenE hS he hx hy hk hi hn hc hl ho h
theorem s_subE {d : Nat} {x : Operand} {lo hi' mx : Option Operand} {l' h' : Nat} (hS : St c w L) (hx : ρ.ev x = v) (hi : nth L i = some (sl T es v css)) (hmx : mx = none) (hh : bnd ρ css.length hi' h') (hl : bnd ρ 0 lo l') (h2 : h' ≤ css.length) (h3 : l' ≤ h')
    (h : ∀ v', St c w (L.set i (sl T es v' ((css.take h').drop l'))) → opsWp P l Q (upd ρ d v') w) : opsWp P (⟨none, .sub d es x lo hi' mx⟩ :: l) Q ρ w := by
  obtain ⟨F, hr, _, hst⟩ := hS.step hi
  exact s_subS hx hr hmx hh hl h2 h3 fun v' hk => h v' (hst w F _ hk (Step.same (Fr.refl _ _)))
/-- A part that is only looked at: the slice stays. -/
theorem s_subEr {d : Nat} {x : Operand} {lo hi' mx : Option Operand} {l' h' : Nat} (hS : St c w L) (hx : ρ.ev x = v) (hi : nth L i = some (sl T es v css)) (hmx : mx = none) (hh : bnd ρ css.length hi' h') (hl : bnd ρ 0 lo l') (h2 : h' ≤ css.length) (h3 : l' ≤ h')
    (h : ∀ v' G, SlR w.heap es v' G ((css.take h').drop l') → opsWp P l Q (upd ρ d v') w) : opsWp P (⟨none, .sub d es x lo hi' mx⟩ :: l) Q ρ w := by
  obtain ⟨F, hr, _, hst⟩ := hS.step hi
  exact s_subS hx hr hmx hh hl h2 h3 fun v' hk => h v' F hk.toR
theorem s_subP' {d : Nat} {x : Operand} {lo hi' mx : Option Operand} {l' h' : Nat} (hS : St c w L) (hx : ρ.ev x = v) (hi : nth L i = some (sl T es v css)) (hmx : mx = none) (hh : bnd ρ css.length hi' h') (hl : bnd ρ 0 lo l') (h2 : h' ≤ css.length) (h3 : l' ≤ h')
    (h : ∀ v', SubOf es v v' css.length l' h' → opsWp P l Q (upd ρ d v') w) : opsWp P (⟨none, .sub d es x lo hi' mx⟩ :: l) Q ρ w := by
  obtain ⟨F, hr, _, hst⟩ := hS.step hi
  exact s_subP hx hr hmx hh hl h2 h3 h
theorem s_clearE {Ts Ty nb : Nat} {z : List Value} {x : Operand} {v' : Value} {l' h' : Nat} (hel : elInfo P Ts = some (T, es, nb, z)) (hzo : ∀ u ∈ z, oneC u = true) (hS : St c w L) (hx : ρ.ev x = v') (hi : nth L i = some (sl T es v css))
    (hsub : SubOf es v v' css.length l' h') (h1 : l' ≤ h') (h2 : h' ≤ css.length)
    (h : ∀ w', St c w' (L.set i (sl T es v (css.take l' ++ (List.replicate (h' - l') z ++ css.drop h')))) → opsWp P l Q ρ w') :
    opsWp P (⟨none, .raw ⟨none, .call ⟨.builtin .clear, #[x], #[Ts]⟩, Ty, "", #[], none⟩⟩ :: l) Q ρ w := by
  obtain ⟨F, hr, _, hst⟩ := hS.step hi
  exact s_clear hel hzo hx hr hsub h1 h2 fun w' hf _ hk => h w' (hst w' F _ hk (Step.same hf))
theorem s_appE {d : Nat} {Ts Ts2 Ty nb : Nat} {z : List Value} {x y : Operand} {v2 : Value} {css2 : List (List Value)} (hel : elInfo P Ts = some (T, es, nb, z))
    (hts : (∃ e2, P.underlying Ts2 = some (.slice e2)) ∨ P.underlying Ts2 = some .string) (hS : St c w L) (hx : ρ.ev x = v) (hy : ρ.ev y = v2) (hi : nth L i = some (sl T es v css)) (hsrc : Src P w es v2 css2) (hb : (css.length + css2.length) * nb ≤ 140737488355328)
    (h : ∀ v' w', St c w' (L.set i (sl T es v' (css ++ css2))) → opsWp P l Q (upd ρ d v') w') : opsWp P (⟨none, .raw ⟨some d, .call ⟨.builtin .append, #[x, y], #[Ts, Ts2]⟩, Ty, "", #[], none⟩⟩ :: l) Q ρ w := by
  obtain ⟨F, hr, _, hst⟩ := hS.step hi
  exact s_app hel hts hx hy hr hsrc hb fun v' w' ⟨F', h1, h2, h3⟩ => h v' w' (hst w' F' _ h1 ⟨h2, h3⟩)
theorem s_makeE {d : Nat} {Ts Ty nb : Nat} {z : List Value} {x y : Operand} {k k' : IntKind} {n : Int} (hel : elInfo P Ts = some (T, es, nb, z)) (hS : St c w L) (hx : ρ.ev x = .int k n) (hy : ρ.ev y = .int k' n) (h0 : 0 ≤ n) (hn : n * nb ≤ 281474976710656)
    (h : ∀ v' w', St c w' (sl T es v' (List.replicate n.toNat z) :: L) → opsWp P l Q (upd ρ d v') w') :
    opsWp P (⟨none, .raw ⟨some d, .makeSlice Ts x y, Ty, "", #[], none⟩⟩ :: l) Q ρ w :=
  s_make hel hx hy h0 hn fun v' w' hf hs _ => h v' w' (hS.new hs hf fun b hb => by omega)

/-! what may be appended -/
theorem St.srcS {css : List (List Value)} (hS : St c w L) (hi : nth L i = some (sl T es v css)) (ho : ∀ c ∈ css, ∀ u ∈ c, oneC u = true) : Src P w es v css := by
  obtain ⟨F, hr, _⟩ := hS.step hi; exact Sl.src hr ho
theorem St.srcB1 {b : Nat} {u : Value} (hS : St c w L) (hi : nth L i = some (blk b T [u])) (ho : oneC u = true) : Src P w 1 (.slice (some ⟨b, 0, none⟩) 1 1) [[u]] := by
  obtain ⟨F, hr, _⟩ := hS.step hi; exact src_one hr.1 ho
theorem St.srcB {b n : Nat} {cs : List Value} (hS : St c w L) (hi : nth L i = some (blk b T cs)) (hn : cs.length = n) (ho : ∀ u ∈ cs, oneC u = true) : Src P w n (.slice (some ⟨b, 0, none⟩) 1 1) [cs] := by
  obtain ⟨F, hr, _⟩ := hS.step hi; exact src_agg hr.1 hn ho
theorem FzS.src {css : List (List Value)} (h : FzS c es v css) (hS : St c w L) (ho : ∀ c ∈ css, ∀ u ∈ c, oneC u = true) : Src P w es v css := (h.now hS).src ho

/-! reading what stays -/
theorem s_lenK {d : Nat} {x : Operand} (hx : ρ.ev x = v) (hs : FzS c es v css) (h : opsWp P l Q (upd ρ d (.int .i64 css.length)) w) : opsWp P (⟨none, .len d x⟩ :: l) Q ρ w := by
  obtain ⟨a, c, hv⟩ := SlR.shape hs
  exact s_len (hx.trans hv) h
theorem s_idxK {d m : Nat} {x y : Operand} {k : IntKind} {cs : List Value} (hx : ρ.ev x = v) (hy : ρ.ev y = .int k (m : Int)) (hs : FzS c es v css) (hc : css[m]? = some cs)
    (h : ∀ b o, AtK c b o cs → opsWp P l Q (upd ρ d (.pointer (some ⟨b, o, none⟩))) w) : opsWp P (⟨none, .idx d es x y⟩ :: l) Q ρ w := by
  obtain ⟨_, a, cap, hv, hlc, hn | ⟨b, off, ha, hF, hb, hat⟩⟩ := hs
  · subst hn; simp at hc
  · subst hv ha
    have hlt := (List.getElem?_eq_some_iff.1 hc).1
    exact s_idx hx hy (by omega) (by omega) (h b _ ⟨hF, hat _ _ hc⟩)
theorem s_loadKj {d : Nat} {x : Operand} {b o j : Nat} {cs : List Value} {u : Value} (hS : St c w L) (ha : AtK c b o cs) (hx : ρ.ev x = .pointer (some ⟨b, o + j, none⟩)) (hu : cs[j]? = some u)
    (h : opsWp P l Q (upd ρ d u) w) : opsWp P (⟨none, .load1 d x⟩ :: l) Q ρ w := s_loadAj hx (ha.now hS) hu h
theorem s_loadK {d : Nat} {x : Operand} {b o : Nat} {cs : List Value} {u : Value} (hS : St c w L) (ha : AtK c b o cs) (hx : ρ.ev x = .pointer (some ⟨b, o, none⟩)) (hu : cs[0]? = some u)
    (h : opsWp P l Q (upd ρ d u) w) : opsWp P (⟨none, .load1 d x⟩ :: l) Q ρ w := s_loadA hx (ha.now hS) hu h
theorem s_loadnK {d n : Nat} {x : Operand} {b o : Nat} {cs : List Value} (hS : St c w L) (ha : AtK c b o cs) (hx : ρ.ev x = .pointer (some ⟨b, o, none⟩)) (hl : cs.length = n)
    (h : opsWp P l Q (upd ρ d (.agg ⟨cs⟩)) w) : opsWp P (⟨none, .loadn d n x⟩ :: l) Q ρ w := s_loadnA hx (ha.now hS) hl h
theorem s_loadnKj {d n : Nat} {x : Operand} {b o j : Nat} {cs us : List Value} (hS : St c w L) (ha : AtK c b o cs) (hx : ρ.ev x = .pointer (some ⟨b, o + j, none⟩)) (hu : (cs.drop j).take n = us) (hl : us.length = n)
    (h : opsWp P l Q (upd ρ d (.agg ⟨us⟩)) w) : opsWp P (⟨none, .loadn d n x⟩ :: l) Q ρ w := s_loadc hx ((ha.now hS).cells hu hl) h
theorem s_subK {d : Nat} {x : Operand} {lo hi mx : Option Operand} {l' h' : Nat} (hx : ρ.ev x = v) (hs : FzS c es v css) (hmx : mx = none) (hh : bnd ρ css.length hi h') (hl : bnd ρ 0 lo l') (h2 : h' ≤ css.length) (h3 : l' ≤ h')
    (h : ∀ v', FzS c es v' ((css.take h').drop l') → opsWp P l Q (upd ρ d v') w) : opsWp P (⟨none, .sub d es x lo hi mx⟩ :: l) Q ρ w := by
  subst hmx
  obtain ⟨h0, a, cap, hv, hlc, hc⟩ := hs
  subst hv
  have hl1 : ((css.take h').drop l').length = h' - l' := by simp; omega
  refine s_sub (m := cap) hx rfl hh hl (Nat.le_refl _) (by omega) h3 (h _ ⟨fun c hc => h0 c (List.mem_of_mem_take (List.mem_of_mem_drop hc)), _, cap - l', by rw [hl1], by omega, ?_⟩)
  rcases hc with hc | ⟨b, off, ha, hF, hb, hat⟩
  · subst hc; exact .inl (by simp)
  · by_cases he : h' = l'
    · exact .inl (List.eq_nil_of_length_eq_zero (by omega))
    · refine .inr ⟨b, off + l' * es, ?_, hF, hb, fun m c hm => ?_⟩
      · rw [if_neg (by omega), ha]; simp only [Option.map_some, add_addr]
      · have hm' : css[l' + m]? = some c := by
          have := (List.getElem?_eq_some_iff.1 hm).1
          rw [List.getElem?_drop, List.getElem?_take_of_lt (by omega)] at hm; exact hm
        have := hat _ _ hm'
        rw [Nat.add_mul, ← Nat.add_assoc] at this
        exact this

/-! what floats over a fence -/
theorem gq_loadB {d b o : Nat} {x : Operand} {u : Value} {cs : List Value} (hS : St c w L) (hx : ρ.ev x = .pointer (some ⟨b, o, none⟩)) (hi : nth L i = some (blk b T cs)) (hu : cs[o]? = some u) : gqv P ρ w ⟨none, .load1 d x⟩ u := by
  obtain ⟨F, hr, _⟩ := hS.step hi; exact gq_load hx hr.1 hu
theorem gq_loadnB {d n b o : Nat} {x : Operand} {us cs : List Value} (hS : St c w L) (hx : ρ.ev x = .pointer (some ⟨b, o, none⟩)) (hi : nth L i = some (blk b T cs)) (hu : (cs.drop o).take n = us) (hl : us.length = n) : gqv P ρ w ⟨none, .loadn d n x⟩ (.agg ⟨us⟩) := by
  obtain ⟨F, hr, _⟩ := hS.step hi; exact gq_loadn hx hr.1 hu hl
theorem gq_loadE {d n : Nat} {x : Operand} {m b o j : Nat} {cs : List Value} {u : Value} (hS : St c w L) (he : ElP v n es m b o) (hx : ρ.ev x = .pointer (some ⟨b, o + j, none⟩)) (hi : nth L i = some (sl T es v css)) (hn : css.length = n) (hc : css[m]? = some cs) (hu : cs[j]? = some u) : gqv P ρ w ⟨none, .load1 d x⟩ u := by
  obtain ⟨F, hr, _⟩ := hS.step hi; exact ⟨_, hx, (he.el hn hr).cell hc hu⟩
theorem gq_loadK {d : Nat} {x : Operand} {b o j : Nat} {cs : List Value} {u : Value} (hS : St c w L) (ha : AtK c b o cs) (hx : ρ.ev x = .pointer (some ⟨b, o + j, none⟩)) (hu : cs[j]? = some u) : gqv P ρ w ⟨none, .load1 d x⟩ u := ⟨_, hx, (ha.now hS).cell hu⟩
theorem gq_loadnK {d n : Nat} {x : Operand} {b o j : Nat} {cs us : List Value} (hS : St c w L) (ha : AtK c b o cs) (hx : ρ.ev x = .pointer (some ⟨b, o + j, none⟩)) (hu : (cs.drop j).take n = us) (hl : us.length = n) : gqv P ρ w ⟨none, .loadn d n x⟩ (.agg ⟨us⟩) := ⟨_, us, hx, (ha.now hS).cells hu hl, rfl⟩

theorem St.shape (hS : St c w L) (hi : nth L i = some (sl T es v css)) : ∃ a c, v = .slice a css.length c := by
  obtain ⟨F, hr, _⟩ := hS.step hi; exact Sl.shape hr
theorem St.oneC (hS : St c w L) (hi : nth L i = some (sl T es v css)) : Go.Lir.oneC v = true := by
  obtain ⟨F, hr, _⟩ := hS.step hi; exact Sl.oneC hr
theorem s_lenEn {d n : Nat} {x : Operand} (hS : St c w L) (hx : ρ.ev x = v) (hi : nth L i = some (sl T es v css)) (hn : css.length = n) (h : opsWp P l Q (upd ρ d (.int .i64 n)) w) : opsWp P (⟨none, .len d x⟩ :: l) Q ρ w := by
  subst hn; exact s_lenE hS hx hi h
theorem s_lenKn {d n : Nat} {x : Operand} (hx : ρ.ev x = v) (hs : FzS c es v css) (hn : css.length = n) (h : opsWp P l Q (upd ρ d (.int .i64 n)) w) : opsWp P (⟨none, .len d x⟩ :: l) Q ρ w := by
  subst hn; exact s_lenK hx hs h
theorem len_cell {α : Type} {f : α → List Value} {xs : List α} {n m : Nat} (hn : (xs.map f).length = n) (hm : m < xs.length) : m < n := by rw [← hn, List.length_map]; exact hm
/-- numbers and truths -/
theorem s_loadI {d n : Nat} {x : Operand} {m b o : Nat} {xs : List Int} (hS : St c w L) (he : ElP v n 1 m b o) (hx : ρ.ev x = .pointer (some ⟨b, o, none⟩)) (hi : nth L i = some (sl T 1 v (xs.map icell))) (hn : (xs.map icell).length = n) (hm : m < xs.length)
    (h : opsWp P l Q (upd ρ d (.int .i64 (xs.getD m 0))) w) : opsWp P (⟨none, .load1 d x⟩ :: l) Q ρ w := s_loadE hS he hx hi hn (map_get icell xs 0 hm) rfl h
theorem s_loadBo {d n : Nat} {x : Operand} {m b o : Nat} {xs : List Bool} (hS : St c w L) (he : ElP v n 1 m b o) (hx : ρ.ev x = .pointer (some ⟨b, o, none⟩)) (hi : nth L i = some (sl T 1 v (xs.map bcell))) (hn : (xs.map bcell).length = n) (hm : m < xs.length)
    (h : opsWp P l Q (upd ρ d (.bool (xs.getD m false))) w) : opsWp P (⟨none, .load1 d x⟩ :: l) Q ρ w := s_loadE hS he hx hi hn (map_get bcell xs false hm) rfl h
theorem s_storeI {n : Nat} {x y : Operand} {m b o : Nat} {xs : List Int} {u : Int} (hS : St c w L) (he : ElP v n 1 m b o) (hx : ρ.ev x = .pointer (some ⟨b, o, none⟩)) (hy : ρ.ev y = .int .i64 u) (hi : nth L i = some (sl T 1 v (xs.map icell))) (hn : (xs.map icell).length = n) (hm : m < xs.length)
    (h : ∀ w', St c w' (L.set i (sl T 1 v ((xs.set m u).map icell))) → opsWp P l Q ρ w') : opsWp P (⟨none, .store1 x y⟩ :: l) Q ρ w :=
  s_storeE hS he hx hy hi hn (map_get icell xs 0 hm) (by omega) rfl fun w' hS => h w' (by rw [← map_set]; exact hS)
theorem s_storeBo {n : Nat} {x y : Operand} {m b o : Nat} {xs : List Bool} {u : Bool} (hS : St c w L) (he : ElP v n 1 m b o) (hx : ρ.ev x = .pointer (some ⟨b, o, none⟩)) (hy : ρ.ev y = .bool u) (hi : nth L i = some (sl T 1 v (xs.map bcell))) (hn : (xs.map bcell).length = n) (hm : m < xs.length)
    (h : ∀ w', St c w' (L.set i (sl T 1 v ((xs.set m u).map bcell))) → opsWp P l Q ρ w') : opsWp P (⟨none, .store1 x y⟩ :: l) Q ρ w :=
  s_storeE hS he hx hy hi hn (map_get bcell xs false hm) (by omega) rfl fun w' hS => h w' (by rw [← map_set]; exact hS)

/-! a contract, with its words as they are -/
theorem s_rets_0 {d : Nat} {f : FuncId} {S : Value → World → Prop} (hc : Rets P f [] w S) (h : ∀ v w', S v w' → opsWp P l Q (upd ρ d v) w') : opsWp P (⟨none, .call (some d) f []⟩ :: l) Q ρ w := s_rets (by rfl) hc h
theorem s_rets0_0 {f : FuncId} {S : Value → World → Prop} (hc : Rets P f [] w S) (h : ∀ v w', S v w' → opsWp P l Q ρ w') : opsWp P (⟨none, .call none f []⟩ :: l) Q ρ w := s_rets0 (by rfl) hc h
theorem s_rets_1 {d : Nat} {f : FuncId} {x0 : Operand} {u0 : Value} {S : Value → World → Prop} (h0 : ρ.ev x0 = u0) (hc : Rets P f [u0] w S) (h : ∀ v w', S v w' → opsWp P l Q (upd ρ d v) w') : opsWp P (⟨none, .call (some d) f [x0]⟩ :: l) Q ρ w := s_rets (by subst h0; rfl) hc h
theorem s_rets0_1 {f : FuncId} {x0 : Operand} {u0 : Value} {S : Value → World → Prop} (h0 : ρ.ev x0 = u0) (hc : Rets P f [u0] w S) (h : ∀ v w', S v w' → opsWp P l Q ρ w') : opsWp P (⟨none, .call none f [x0]⟩ :: l) Q ρ w := s_rets0 (by subst h0; rfl) hc h
theorem s_rets_2 {d : Nat} {f : FuncId} {x0 x1 : Operand} {u0 u1 : Value} {S : Value → World → Prop} (h0 : ρ.ev x0 = u0) (h1 : ρ.ev x1 = u1) (hc : Rets P f [u0, u1] w S) (h : ∀ v w', S v w' → opsWp P l Q (upd ρ d v) w') : opsWp P (⟨none, .call (some d) f [x0, x1]⟩ :: l) Q ρ w := s_rets (by subst h0 h1; rfl) hc h
theorem s_rets0_2 {f : FuncId} {x0 x1 : Operand} {u0 u1 : Value} {S : Value → World → Prop} (h0 : ρ.ev x0 = u0) (h1 : ρ.ev x1 = u1) (hc : Rets P f [u0, u1] w S) (h : ∀ v w', S v w' → opsWp P l Q ρ w') : opsWp P (⟨none, .call none f [x0, x1]⟩ :: l) Q ρ w := s_rets0 (by subst h0 h1; rfl) hc h
theorem s_rets_3 {d : Nat} {f : FuncId} {x0 x1 x2 : Operand} {u0 u1 u2 : Value} {S : Value → World → Prop} (h0 : ρ.ev x0 = u0) (h1 : ρ.ev x1 = u1) (h2 : ρ.ev x2 = u2) (hc : Rets P f [u0, u1, u2] w S) (h : ∀ v w', S v w' → opsWp P l Q (upd ρ d v) w') : opsWp P (⟨none, .call (some d) f [x0, x1, x2]⟩ :: l) Q ρ w := s_rets (by subst h0 h1 h2; rfl) hc h
theorem s_rets0_3 {f : FuncId} {x0 x1 x2 : Operand} {u0 u1 u2 : Value} {S : Value → World → Prop} (h0 : ρ.ev x0 = u0) (h1 : ρ.ev x1 = u1) (h2 : ρ.ev x2 = u2) (hc : Rets P f [u0, u1, u2] w S) (h : ∀ v w', S v w' → opsWp P l Q ρ w') : opsWp P (⟨none, .call none f [x0, x1, x2]⟩ :: l) Q ρ w := s_rets0 (by subst h0 h1 h2; rfl) hc h
theorem s_rets_4 {d : Nat} {f : FuncId} {x0 x1 x2 x3 : Operand} {u0 u1 u2 u3 : Value} {S : Value → World → Prop} (h0 : ρ.ev x0 = u0) (h1 : ρ.ev x1 = u1) (h2 : ρ.ev x2 = u2) (h3 : ρ.ev x3 = u3) (hc : Rets P f [u0, u1, u2, u3] w S) (h : ∀ v w', S v w' → opsWp P l Q (upd ρ d v) w') : opsWp P (⟨none, .call (some d) f [x0, x1, x2, x3]⟩ :: l) Q ρ w := s_rets (by subst h0 h1 h2 h3; rfl) hc h
theorem s_rets0_4 {f : FuncId} {x0 x1 x2 x3 : Operand} {u0 u1 u2 u3 : Value} {S : Value → World → Prop} (h0 : ρ.ev x0 = u0) (h1 : ρ.ev x1 = u1) (h2 : ρ.ev x2 = u2) (h3 : ρ.ev x3 = u3) (hc : Rets P f [u0, u1, u2, u3] w S) (h : ∀ v w', S v w' → opsWp P l Q ρ w') : opsWp P (⟨none, .call none f [x0, x1, x2, x3]⟩ :: l) Q ρ w := s_rets0 (by subst h0 h1 h2 h3; rfl) hc h
theorem s_rets_5 {d : Nat} {f : FuncId} {x0 x1 x2 x3 x4 : Operand} {u0 u1 u2 u3 u4 : Value} {S : Value → World → Prop} (h0 : ρ.ev x0 = u0) (h1 : ρ.ev x1 = u1) (h2 : ρ.ev x2 = u2) (h3 : ρ.ev x3 = u3) (h4 : ρ.ev x4 = u4) (hc : Rets P f [u0, u1, u2, u3, u4] w S) (h : ∀ v w', S v w' → opsWp P l Q (upd ρ d v) w') : opsWp P (⟨none, .call (some d) f [x0, x1, x2, x3, x4]⟩ :: l) Q ρ w := s_rets (by subst h0 h1 h2 h3 h4; rfl) hc h
theorem s_rets0_5 {f : FuncId} {x0 x1 x2 x3 x4 : Operand} {u0 u1 u2 u3 u4 : Value} {S : Value → World → Prop} (h0 : ρ.ev x0 = u0) (h1 : ρ.ev x1 = u1) (h2 : ρ.ev x2 = u2) (h3 : ρ.ev x3 = u3) (h4 : ρ.ev x4 = u4) (hc : Rets P f [u0, u1, u2, u3, u4] w S) (h : ∀ v w', S v w' → opsWp P l Q ρ w') : opsWp P (⟨none, .call none f [x0, x1, x2, x3, x4]⟩ :: l) Q ρ w := s_rets0 (by subst h0 h1 h2 h3 h4; rfl) hc h
theorem s_rets_6 {d : Nat} {f : FuncId} {x0 x1 x2 x3 x4 x5 : Operand} {u0 u1 u2 u3 u4 u5 : Value} {S : Value → World → Prop} (h0 : ρ.ev x0 = u0) (h1 : ρ.ev x1 = u1) (h2 : ρ.ev x2 = u2) (h3 : ρ.ev x3 = u3) (h4 : ρ.ev x4 = u4) (h5 : ρ.ev x5 = u5) (hc : Rets P f [u0, u1, u2, u3, u4, u5] w S) (h : ∀ v w', S v w' → opsWp P l Q (upd ρ d v) w') : opsWp P (⟨none, .call (some d) f [x0, x1, x2, x3, x4, x5]⟩ :: l) Q ρ w := s_rets (by subst h0 h1 h2 h3 h4 h5; rfl) hc h
theorem s_rets0_6 {f : FuncId} {x0 x1 x2 x3 x4 x5 : Operand} {u0 u1 u2 u3 u4 u5 : Value} {S : Value → World → Prop} (h0 : ρ.ev x0 = u0) (h1 : ρ.ev x1 = u1) (h2 : ρ.ev x2 = u2) (h3 : ρ.ev x3 = u3) (h4 : ρ.ev x4 = u4) (h5 : ρ.ev x5 = u5) (hc : Rets P f [u0, u1, u2, u3, u4, u5] w S) (h : ∀ v w', S v w' → opsWp P l Q ρ w') : opsWp P (⟨none, .call none f [x0, x1, x2, x3, x4, x5]⟩ :: l) Q ρ w := s_rets0 (by subst h0 h1 h2 h3 h4 h5; rfl) hc h
theorem s_rets_7 {d : Nat} {f : FuncId} {x0 x1 x2 x3 x4 x5 x6 : Operand} {u0 u1 u2 u3 u4 u5 u6 : Value} {S : Value → World → Prop} (h0 : ρ.ev x0 = u0) (h1 : ρ.ev x1 = u1) (h2 : ρ.ev x2 = u2) (h3 : ρ.ev x3 = u3) (h4 : ρ.ev x4 = u4) (h5 : ρ.ev x5 = u5) (h6 : ρ.ev x6 = u6) (hc : Rets P f [u0, u1, u2, u3, u4, u5, u6] w S) (h : ∀ v w', S v w' → opsWp P l Q (upd ρ d v) w') : opsWp P (⟨none, .call (some d) f [x0, x1, x2, x3, x4, x5, x6]⟩ :: l) Q ρ w := s_rets (by subst h0 h1 h2 h3 h4 h5 h6; rfl) hc h
theorem s_rets0_7 {f : FuncId} {x0 x1 x2 x3 x4 x5 x6 : Operand} {u0 u1 u2 u3 u4 u5 u6 : Value} {S : Value → World → Prop} (h0 : ρ.ev x0 = u0) (h1 : ρ.ev x1 = u1) (h2 : ρ.ev x2 = u2) (h3 : ρ.ev x3 = u3) (h4 : ρ.ev x4 = u4) (h5 : ρ.ev x5 = u5) (h6 : ρ.ev x6 = u6) (hc : Rets P f [u0, u1, u2, u3, u4, u5, u6] w S) (h : ∀ v w', S v w' → opsWp P l Q ρ w') : opsWp P (⟨none, .call none f [x0, x1, x2, x3, x4, x5, x6]⟩ :: l) Q ρ w := s_rets0 (by subst h0 h1 h2 h3 h4 h5 h6; rfl) hc h
theorem s_bne_f {d : Nat} {T : TypeId} {x y : Operand} {a b : Bool} (ht : P.underlying T = some .bool) (hx : ρ.ev x = .bool a) (hy : ρ.ev y = .bool b) (he : a = b)
    (h : opsWp P l Q (upd ρ d (.bool false)) w) : opsWp P (⟨none, .bin d .neq T x y⟩ :: l) Q ρ w := s_bne ht hx hy (by subst he; rw [bne_self_eq_false]; exact h)
theorem s_beq_t {d : Nat} {T : TypeId} {x y : Operand} {a b : Bool} (ht : P.underlying T = some .bool) (hx : ρ.ev x = .bool a) (hy : ρ.ev y = .bool b) (he : a = b)
    (h : opsWp P l Q (upd ρ d (.bool true)) w) : opsWp P (⟨none, .bin d .eql T x y⟩ :: l) Q ρ w := s_beq ht hx hy (by subst he; rw [beq_self_eq_true]; exact h)
theorem run_equalIn_pnil (k : Nat) {T e : TypeId} {a : Option Addr} {w0 : World} (ht : P.underlying T = some (.pointer e)) : (Op.equalIn (k + 1) T (.pointer a) (.pointer none)).run P w0 = .ok a.isNone w0 := by
  simp only [Op.equalIn, Sem.run_bind, run_underlying' P T _ w0 ht, Result.andThen_ok]
  cases a <;> simp [Sem.run_pure]
theorem run_equal_pnil {T e : TypeId} {a : Option Addr} {w0 : World} (ht : P.underlying T = some (.pointer e)) : (Op.equal T (.pointer a) (.pointer none)).run P w0 = .ok a.isNone w0 := run_equalIn_pnil 9999 ht
/-- p == nil -/
theorem s_pnil_t {d : Nat} {T e : TypeId} {x y : Operand} (ht : P.underlying T = some (.pointer e)) (hx : ρ.ev x = .pointer none) (hy : ρ.ev y = .pointer none)
    (h : opsWp P l Q (upd ρ d (.bool true)) w) : opsWp P (⟨none, .bin d .eql T x y⟩ :: l) Q ρ w :=
  ⟨_, fun w0 => by rw [hx, hy]; simp [eqGuard, binOp, run_equal_pnil ht], h⟩
theorem s_pnil_f {d : Nat} {T e : TypeId} {x y : Operand} {a : Addr} (ht : P.underlying T = some (.pointer e)) (hx : ρ.ev x = .pointer (some a)) (hy : ρ.ev y = .pointer none)
    (h : opsWp P l Q (upd ρ d (.bool false)) w) : opsWp P (⟨none, .bin d .eql T x y⟩ :: l) Q ρ w :=
  ⟨_, fun w0 => by rw [hx, hy]; simp [eqGuard, binOp, run_equal_pnil ht], h⟩
end
end Go.Lir
