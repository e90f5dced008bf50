/- More steps (written by tools/genmore.py). -/
import Derived.Test.YthdkbdnbflkagaaGreatDoorLirRd
import Derived.DeepKeys
import Derived.Laws.StructEq
namespace Go.Lir

theorem Sl.oneC {H : Heap} {T : TypeId} {es : Nat} {v : Value} {F : Nat → Prop} {css : List (List Value)} (h : Sl H T es v F css) : Go.Lir.oneC v = true := by
  obtain ⟨a, c, rfl⟩ := h.shape; rfl
theorem SlR.oneC {H : Heap} {es : Nat} {v : Value} {F : Nat → Prop} {css : List (List Value)} (h : SlR H es v F css) : Go.Lir.oneC v = true := by
  obtain ⟨a, c, rfl⟩ := h.shape; rfl
theorem map_get {α β : Type} (f : α → β) (l : List α) (d : α) {m : Nat} (h : m < l.length) : (l.map f)[m]? = some (f (l.getD m d)) := by
  simp [List.getElem?_map, List.getD_eq_getElem?_getD, List.getElem?_eq_getElem h]
theorem getD_get {α : Type} {l : List α} {d : α} {m : Nat} (h : m < l.length) : l[m]? = some (l.getD m d) := by
  simp [List.getD_eq_getElem?_getD, List.getElem?_eq_getElem h]
theorem getD_eq {α : Type} {l : List α} {d x : α} {m : Nat} (h : l[m]? = some x) : l.getD m d = x := by
  simp [List.getD_eq_getElem?_getD, h]
theorem take_succ_getD {α : Type} {l : List α} (d : α) {i : Nat} (h : i < l.length) : l.take (i + 1) = l.take i ++ [l.getD i d] := by
  rw [List.take_add_one, List.getElem?_eq_getElem h, List.getD_eq_getElem?_getD, List.getElem?_eq_getElem h]; rfl
theorem drop_getD {α : Type} {l : List α} (d : α) {i : Nat} (h : i < l.length) : l.drop i = l.getD i d :: l.drop (i + 1) := by
  rw [List.drop_eq_getElem_cons h, List.getD_eq_getElem?_getD, List.getElem?_eq_getElem h]; rfl
theorem getD_mem {α : Type} {l : List α} {d : α} {i : Nat} (h : i < l.length) : l.getD i d ∈ l := by
  rw [List.getD_eq_getElem?_getD, List.getElem?_eq_getElem h]; exact List.getElem_mem h
theorem meas_lt {n i : Int} (h : i < n) : (n - (i + 1)).toNat < (n - i).toNat := by omega
theorem ext_getD {α : Type} {l m : List α} (d : α) (h : l.length = m.length) (h2 : ∀ j < l.length, l.getD j d = m.getD j d) : l = m := by
  apply List.ext_getElem h
  intro j h3 h4
  have := h2 j h3
  simpa [List.getD_eq_getElem?_getD, List.getElem?_eq_getElem h3, List.getElem?_eq_getElem h4] using this
theorem nodup_len_le {α : Type} [DecidableEq α] : ∀ {a b : List α}, a.Nodup → (∀ x ∈ a, x ∈ b) → a.length ≤ b.length := by
  intro a
  induction a with
  | nil => intro b _ _; simp
  | cons x a ih =>
    intro b hn hs
    obtain ⟨h1, h2⟩ := List.nodup_cons.1 hn
    have hx := hs x (by simp)
    have := ih (b := b.erase x) h2 fun y hy => (List.mem_erase_of_ne (fun e => by subst e; exact h1 hy)).2 (hs y (by simp [hy]))
    rw [List.length_erase_of_mem hx] at this
    have hp := List.length_pos_of_mem hx
    simp only [List.length_cons]; omega
theorem map_set {α β : Type} (f : α → β) (l : List α) (m : Nat) (x : α) : (l.map f).set m (f x) = (l.set m x).map f := by
  simp [List.map_set]
/-- One element of one cell that was just built. -/
theorem src_one {P : Program} {w : World} {T : TypeId} {u : Value} {b : Nat} (h : Blk w.heap b T [u]) (ho : oneC u = true) : Src P w 1 (.slice (some ⟨b, 0, none⟩) 1 1) [[u]] :=
  (Sl.fresh (css := [[u]]) h rfl (by simp) rfl).src (by simpa using ho)
/-- One element of n cells that was just built. -/
theorem src_agg {P : Program} {w : World} {T : TypeId} {c : List Value} {b n : Nat} (h : Blk w.heap b T c) (hn : c.length = n) (ho : ∀ u ∈ c, oneC u = true) : Src P w n (.slice (some ⟨b, 0, none⟩) 1 1) [c] :=
  (Sl.fresh (css := [c]) h (by simp) (by simpa using hn) rfl).src (by simpa using ho)
/-- The number in an integer value. -/
def iv : Value → Int
  | .int _ n => n
  | _ => 0
def bcell (b : Bool) : List Value := [.bool b]
def icell (n : Int) : List Value := [.int .i64 n]
theorem icell_one {l : List Int} : ∀ c ∈ l.map icell, ∀ u ∈ c, oneC u = true := by
  intro c hc u hu; obtain ⟨n, _, rfl⟩ := List.mem_map.1 hc; simp [icell] at hu; subst hu; rfl
/-- An own slice that was laid behind the world w0, with more at its end. -/
theorem app_fresh {w0 w w' : World} {T : TypeId} {es : Nat} {F : Nat → Prop} {css css2 : List (List Value)} {v' : Value} (hfr : Fr NF w0 w) (hlow : ∀ b, F b → w0.heap.size ≤ b) (ha : AppPost w T es F css css2 v' w') :
    ∃ F', Sl w'.heap T es v' F' (css ++ css2) ∧ Fr NF w0 w' ∧ ∀ b, F' b → w0.heap.size ≤ b := by
  obtain ⟨F', hs, hf, hsub⟩ := ha
  refine ⟨F', hs, hfr.trans hf (fun b hb hF => absurd (hlow b hF) (by omega)), fun b hb => ?_⟩
  rcases hsub b hb with h | h
  · exact hlow b h
  · exact Nat.le_trans hfr.size h
theorem fr_fresh {w0 w w' : World} {F : Nat → Prop} (hfr : Fr NF w0 w) (hlow : ∀ b, F b → w0.heap.size ≤ b) (hf : Fr F w w') : Fr NF w0 w' := hfr.trans hf (fun b hb hF => absurd (hlow b hF) (by omega))
theorem gq_load {P : Program} {ρ : Env} {w : World} {d b o : Nat} {x : Operand} {v : Value} {T : TypeId} {cs : List Value} (hx : ρ.ev x = .pointer (some ⟨b, o, none⟩)) (hb : Blk w.heap b T cs) (hv : cs[o]? = some v) : gqv P ρ w ⟨none, .load1 d x⟩ v := ⟨_, hx, hb.cell hv⟩
theorem gq_loadn {P : Program} {ρ : Env} {w : World} {d n b o : Nat} {x : Operand} {vs : List Value} {T : TypeId} {cs : List Value} (hx : ρ.ev x = .pointer (some ⟨b, o, none⟩)) (hb : Blk w.heap b T cs) (hv : (cs.drop o).take n = vs) (hl : vs.length = n) : gqv P ρ w ⟨none, .loadn d n x⟩ (.agg ⟨vs⟩) := ⟨_, vs, hx, hb.cells hv hl, rfl⟩
theorem gq_skip {P : Program} {ρ : Env} {w : World} {s : Nat} {b : Bool} {o : LO} {v : Value} (hw : wants (ρ s) b = false) (hv : v = undef) : gqv P ρ w ⟨some (s, b), o⟩ v := by simp [gqv, hw, hv]
theorem gq_want {P : Program} {ρ : Env} {w : World} {s : Nat} {b : Bool} {o : LO} {v : Value} (hw : ρ s = .bool b) (h : gqv P ρ w ⟨none, o⟩ v) : gqv P ρ w ⟨some (s, b), o⟩ v := by simp only [gqv, hw, wants, beq_self_eq_true, if_true]; exact h
theorem Fr.after {F G : Nat → Prop} {w w' w'' : World} (h : Fr F w w') (k : Fr G w' w'') (hs : ∀ b, b < w.heap.size → G b → F b) : Fr F w w'' := h.trans k hs
/-- Behind something that changed nothing that was there. -/
theorem Fr.then0 {F : Nat → Prop} {w w' w'' : World} (h : Fr F w w') (k : Fr NF w' w'') : Fr F w w'' := h.trans k fun _ _ h => h.elim
theorem Fr.of0 {F : Nat → Prop} {w w' w'' : World} (h : Fr NF w w') (k : Fr F w' w'') : Fr F w w'' := h.any.trans k fun _ _ h => h

theorem Fr.into {F G : Nat → Prop} {w w' : World} (h : Fr G w w') (hs : ∀ x, G x → F x) : Fr F w w' := h.mono fun x _ hx => hs x hx
theorem Fr.cat {F : Nat → Prop} {w w' w'' : World} (h : Fr F w w') (k : Fr F w' w'') : Fr F w w'' := h.trans k fun _ _ h => h
/-- Behind a change of F, what was made lies in F' (of F, or new). -/
structure Step (F F' : Nat → Prop) (w w' : World) : Prop where
  fr : Fr F w w'
  sub : ∀ b, F' b → F b ∨ w.heap.size ≤ b
theorem Step.same {F : Nat → Prop} {w w' : World} (h : Fr F w w') : Step F F w w' := ⟨h, fun _ h => .inl h⟩
theorem Step.out {F F' : Nat → Prop} {w w' : World} {b : Nat} (h : Step F F' w w') (hb : b < w.heap.size) (hn : ¬ F b) : ¬ F' b := fun hF => (h.sub b hF).elim hn (fun hz => absurd hz (by omega))
theorem Step.trans {F F' F'' : Nat → Prop} {w w' w'' : World} (h : Step F F' w w') (k : Step F' F'' w' w'') : Step F F'' w w'' :=
  ⟨h.fr.trans k.fr fun b hb hF => (h.sub b hF).elim id (fun hz => absurd hz (by omega)), fun b hb => (k.sub b hb).elim (h.sub b) (fun hz => .inr (Nat.le_trans h.fr.size hz))⟩
theorem Step.low {F F' : Nat → Prop} {w w' : World} {z : Nat} (h : Step F F' w w') (hl : ∀ b, F b → z ≤ b) (hz : z ≤ w.heap.size) : ∀ b, F' b → z ≤ b := fun b hb => (h.sub b hb).elim (hl b) (fun h => Nat.le_trans hz h)
theorem Step.apart {F F' G : Nat → Prop} {w w' : World} (h : Step F F' w w') (hd : ∀ b, F b → ¬ G b) (hG : ∀ b, G b → b < w.heap.size) : ∀ b, F' b → ¬ G b := fun b hb hg => (h.sub b hb).elim (fun hF => hd b hF hg) (fun hz => absurd (hG b hg) (by omega))
/-- What stays as long as its blocks do. -/
structure Objs (A : Heap → (Nat → Prop) → Prop) : Prop where
  fr : ∀ {w w' : World} {F G : Nat → Prop}, A w.heap F → Fr G w w' → (∀ b, F b → ¬ G b) → A w'.heap F
  lt : ∀ {H : Heap} {F : Nat → Prop}, A H F → ∀ b, F b → b < H.size
/-- Two things side by side, both laid behind the world w0, of which nothing was changed. -/
structure Two (w0 w : World) (A B : Heap → (Nat → Prop) → Prop) (F G : Nat → Prop) : Prop where
  oa : Objs A
  ob : Objs B
  p : A w.heap F
  q : B w.heap G
  d : ∀ b, F b → ¬ G b
  F0 : ∀ b, F b → w0.heap.size ≤ b
  G0 : ∀ b, G b → w0.heap.size ≤ b
  fr : Fr NF w0 w
theorem Two.fr0 {w0 w w' : World} {A B : Heap → (Nat → Prop) → Prop} {F G : Nat → Prop} (h : Two w0 w A B F G) (hf : Fr NF w w') : Two w0 w' A B F G :=
  ⟨h.oa, h.ob, h.oa.fr h.p hf (fun _ _ h => h), h.ob.fr h.q hf (fun _ _ h => h), h.d, h.F0, h.G0, h.fr.then0 hf⟩
theorem Two.own {w0 w w' : World} {A B : Heap → (Nat → Prop) → Prop} {F G : Nat → Prop} {x : Nat} (h : Two w0 w A B F G) (hf : Fr (· = x) w w') (h0 : w0.heap.size ≤ x) (hF : ¬ F x) (hG : ¬ G x) : Two w0 w' A B F G :=
  ⟨h.oa, h.ob, h.oa.fr h.p hf (fun b hb e => hF (e ▸ hb)), h.ob.fr h.q hf (fun b hb e => hG (e ▸ hb)), h.d, h.F0, h.G0, fr_fresh h.fr (fun b hb => by rw [hb]; exact h0) hf⟩
theorem Two.sp {w0 w w' : World} {A A' B : Heap → (Nat → Prop) → Prop} {F F' G : Nat → Prop} (h : Two w0 w A B F G) (oa : Objs A') (hp : A' w'.heap F') (hs : Step F F' w w') : Two w0 w' A' B F' G :=
  ⟨oa, h.ob, hp, h.ob.fr h.q hs.fr (fun b hb hF => h.d b hF hb), hs.apart h.d (h.ob.lt h.q), hs.low h.F0 h.fr.size, h.G0, fr_fresh h.fr h.F0 hs.fr⟩
theorem Two.sq {w0 w w' : World} {A B B' : Heap → (Nat → Prop) → Prop} {F G G' : Nat → Prop} (h : Two w0 w A B F G) (ob : Objs B') (hq : B' w'.heap G') (hs : Step G G' w w') : Two w0 w' A B' F G' :=
  ⟨h.oa, ob, h.oa.fr h.p hs.fr (fun b hb hG => h.d b hb hG), hq, fun b hF hG => hs.apart (fun b hG hF => h.d b hF hG) (h.oa.lt h.p) b hG hF, h.F0, hs.low h.G0 h.fr.size, fr_fresh h.fr h.G0 hs.fr⟩
theorem Two.mk' {w0 w1 w : World} {A B : Heap → (Nat → Prop) → Prop} {F G : Nat → Prop} (oa : Objs A) (ob : Objs B) (hp : A w1.heap F) (hq : B w.heap G) (hf1 : Fr NF w0 w1) (hf : Fr NF w1 w) (hF : ∀ b, F b → w0.heap.size ≤ b) (hG : ∀ b, G b → w1.heap.size ≤ b) : Two w0 w A B F G :=
  ⟨oa, ob, oa.fr hp hf (fun _ _ h => h), hq, fun b h h' => absurd (oa.lt hp b h) (by have := hG b h'; omega), hF, fun b h => Nat.le_trans hf1.size (hG b h), hf1.then0 hf⟩
theorem getD_set {α : Type} {l : List α} {i j : Nat} {x d : α} (hi : i < l.length) : (l.set i x).getD j d = if i = j then x else l.getD j d := by
  simp only [List.getD_eq_getElem?_getD, List.getElem?_set]
  by_cases h : i = j
  · subst h; simp [hi]
  · simp [h]
theorem opsWp_mono {P : Program} : ∀ {l : List GO} {Q Q' : QT} {ρ : Env} {w : World}, (∀ e ρ w, Q e ρ w → Q' e ρ w) → opsWp P l Q ρ w → opsWp P l Q' ρ w := by
  intro l
  induction l with
  | nil => intro Q Q' ρ w h hw; exact h _ _ _ hw
  | cons g l ih =>
    intro Q Q' ρ w h hw
    obtain ⟨g, o⟩ := g
    cases g with
    | none => exact wp_monoK (fun ρ w hk => ih h hk) (fun e ρ w _ hq => h _ _ _ hq) hw
    | some p =>
      obtain ⟨s, b⟩ := p
      simp only [opsWp] at hw ⊢
      by_cases hs : wants (ρ s) b = true
      · rw [if_pos hs] at hw ⊢; exact wp_monoK (fun ρ w hk => ih h hk) (fun e ρ w _ hq => h _ _ _ hq) hw
      · rw [if_neg hs] at hw ⊢; exact ih h hw
theorem thenQ_mono {K K' : KT} {Q Q' : QT} (hk : ∀ ρ w, K ρ w → K' ρ w) (h : ∀ e ρ w, Q e ρ w → Q' e ρ w) : ∀ e ρ w, thenQ K Q e ρ w → thenQ K' Q' e ρ w := by
  intro e ρ w hq
  cases e with
  | normal => exact hk _ _ hq
  | _ => exact h _ _ _ hq
theorem LC.wp_mono {P : Program} : ∀ {c : LC} {Q Q' : QT} {ρ : Env} {w : World}, (∀ e ρ w, Q e ρ w → Q' e ρ w) → c.wp P Q ρ w → c.wp P Q' ρ w := by
  intro c
  induction c with
  | skip => intro Q Q' ρ w h hw; exact h _ _ _ hw
  | ops l => intro Q Q' ρ w h hw; exact opsWp_mono h hw
  | draw gs es => intro Q Q' ρ w h hw; exact fun l hl => opsWp_mono h (hw l hl)
  | seq a b iha ihb => intro Q Q' ρ w h hw; exact iha (thenQ_mono (fun ρ w hb => ihb h hb) h) hw
  | cond c a b iha ihb =>
    intro Q Q' ρ w h hw
    obtain ⟨t, hc, hw⟩ := hw
    refine ⟨t, hc, ?_⟩
    cases t
    · exact ihb h hw
    · exact iha h hw
  | block id a ih =>
    intro Q Q' ρ w h hw
    refine ih ?_ hw
    intro e ρ w hq
    cases e with
    | exit id' =>
      simp only [blockQ] at hq ⊢
      by_cases hs : id' = id
      · rw [if_pos hs] at hq ⊢; exact h _ _ _ hq
      · rw [if_neg hs] at hq ⊢; exact h _ _ _ hq
    | _ => exact h _ _ _ hq
  | loop a ih =>
    intro Q Q' ρ w h hw
    obtain ⟨I, μ, h0, hr⟩ := hw
    exact ⟨I, μ, h0, fun ρ w hI => ih (thenQ_mono (fun _ _ hk => hk) h) (hr ρ w hI)⟩
  | exit id => intro Q Q' ρ w h hw; exact h _ _ _ hw
  | ret => intro Q Q' ρ w h hw; exact h _ _ _ hw
  | bad => intro Q Q' ρ w h hw; exact hw.elim

/-- One more edge: b behind a. -/
def addE (es : List (List Nat)) (a b : Nat) : List (List Nat) := es.set b (a :: es.getD b [])
theorem addE_other {es : List (List Nat)} {a b i : Nat} (h : i ≠ b) : (addE es a b).getD i [] = es.getD i [] := by
  simp [addE, List.getD_eq_getElem?_getD, Ne.symm h]
theorem addE_self {es : List (List Nat)} {a b : Nat} (h : b < es.length) : (addE es a b).getD b [] = a :: es.getD b [] := by
  simp [addE, List.getD_eq_getElem?_getD, h]
theorem lin_have {es : List (List Nat)} {a b : Nat} (hb : b < es.length) : ∀ {l X : List Nat}, a ∈ X → Lin es X l → Lin (addE es a b) X l := by
  intro l
  induction l with
  | nil => intro X _ h i hi; exact h i (by simpa [addE] using hi)
  | cons i l ih =>
    intro X ha h
    obtain ⟨h1, h2, h3, h4⟩ := h
    refine ⟨by simpa [addE] using h1, h2, ?_, ih (List.mem_cons_of_mem _ ha) h4⟩
    by_cases he : i = b
    · subst he; rw [addE_self hb]; intro e hm
      rcases List.mem_cons.1 hm with rfl | hm
      · exact ha
      · exact h3 e hm
    · rw [addE_other he]; exact h3
theorem lin_split {es : List (List Nat)} {a b : Nat} (ha : a < es.length) (hb : b < es.length) (hab : a ≠ b) : ∀ {l X : List Nat}, a ∉ X → b ∉ X → Lin es X l → Lin (addE es a b) X l ∨ Lin (addE es b a) X l := by
  intro l
  induction l with
  | nil => intro X h1 _ h; exact absurd (h a ha) h1
  | cons i l ih =>
    intro X hA hB h
    obtain ⟨h1, h2, h3, h4⟩ := h
    by_cases hia : i = a
    · subst hia
      exact .inl ⟨by simpa [addE] using h1, h2, by rw [addE_other hab]; exact h3, lin_have hb (by simp) h4⟩
    · by_cases hib : i = b
      · subst hib
        exact .inr ⟨by simpa [addE] using h1, h2, by rw [addE_other (Ne.symm hab)]; exact h3, lin_have ha (by simp) h4⟩
      · rcases ih (X := i :: X) (by simp [Ne.symm hia, hA]) (by simp [Ne.symm hib, hB]) h4 with h | h
        · exact .inl ⟨by simpa [addE] using h1, h2, by rw [addE_other hib]; exact h3, h⟩
        · exact .inr ⟨by simpa [addE] using h1, h2, by rw [addE_other hia]; exact h3, h⟩

section
variable {P : Program} {l : List GO} {Q : QT} {ρ : Env} {w : World}
/-- Two operations of which neither is behind the other: either order. -/
theorem s_split {gs : List GO} {es : List (List Nat)} (a b : Nat) (hab : (decide (a < es.length) && decide (b < es.length) && !(a == b)) = true) (h1 : (LC.draw gs (addE es a b)).wp P Q ρ w) (h2 : (LC.draw gs (addE es b a)).wp P Q ρ w) : (LC.draw gs es).wp P Q ρ w := by
  simp only [Bool.and_eq_true, decide_eq_true_eq, Bool.not_eq_true', beq_eq_false_iff_ne, ne_eq] at hab
  intro l hl
  rcases lin_split hab.1.1 hab.1.2 hab.2 (by simp) (by simp) hl with h | h
  · exact h1 l h
  · exact h2 l h
theorem run_equalIn_nil (k : Nat) {T e : TypeId} {a : Option Addr} {n c : Nat} {w0 : World} (ht : P.underlying T = some (.slice e)) : (Op.equalIn (k + 1) T (.slice a n c) (.slice none 0 0)).run P w0 = .ok a.isNone w0 := by
  simp only [Op.equalIn, Sem.run_bind, run_underlying' P T _ w0 ht, Result.andThen_ok]
  cases a <;> simp [Sem.run_pure]
theorem run_equal_nil {T e : TypeId} {a : Option Addr} {n c : Nat} {w0 : World} (ht : P.underlying T = some (.slice e)) : (Op.equal T (.slice a n c) (.slice none 0 0)).run P w0 = .ok a.isNone w0 := run_equalIn_nil 9999 ht
/-- x == nil, of a slice. -/
theorem s_eqnil {d : Nat} {T e : TypeId} {x y : Operand} {a : Option Addr} {n c : Nat} (ht : P.underlying T = some (.slice e)) (hx : ρ.ev x = .slice a n c) (hy : ρ.ev y = .slice none 0 0)
    (h : opsWp P l Q (upd ρ d (.bool a.isNone)) w) : opsWp P (⟨none, .bin d .eql T x y⟩ :: l) Q ρ w :=
  ⟨_, fun w0 => by
    rw [hx, hy]; simp [eqGuard, binOp, run_equal_nil ht], h⟩
theorem s_nenil {d : Nat} {T e : TypeId} {x y : Operand} {a : Option Addr} {n c : Nat} (ht : P.underlying T = some (.slice e)) (hx : ρ.ev x = .slice a n c) (hy : ρ.ev y = .slice none 0 0)
    (h : opsWp P l Q (upd ρ d (.bool (!a.isNone))) w) : opsWp P (⟨none, .bin d .neq T x y⟩ :: l) Q ρ w :=
  ⟨_, fun w0 => by
    rw [hx, hy]; simp [eqGuard, binOp, run_equal_nil ht], h⟩
/-- []T{}: a slice of no element. -/
theorem s_nones {d : Nat} {Ts Ty e es nb : Nat} {z : List Value} (hel : elInfo P Ts = some (e, es, nb, z))
    (h : ∀ v' w', Fr NF w w' → Sl w'.heap e es v' (· = w.heap.size) [] → w'.heap.size = w.heap.size + 1 → opsWp P l Q (upd ρ d v') w') :
    opsWp P (⟨none, .raw ⟨some d, .buildSlice Ts 0 #[], Ty, "", #[], none⟩⟩ :: l) Q ρ w := by
  obtain ⟨i, zv, hu, hi, hz, rfl, rfl, hzc, hes, hnb, hzl⟩ := elInfo_spec hel
  refine raw_val (v := .slice (some ⟨w.heap.size, 0, none⟩) 0 0) (w' := w.alloc (.cells ⟨[]⟩ e)) ?_ ?_
  · simp only [execOp, Instr.buildSlice, Sem.run_bind, run_underlying' P Ts _ w hu, Result.andThen_ok, run_sizeOf' P e i.size w (by simp [sizeT, hi])]
    simp [Instr.fill, newRow]
    have hr0 : Array.range 0 = #[] := rfl
    rw [hr0, Array.map_empty]
  · exact h _ _ (fr_alloc w _) (Sl.fresh (css := []) (blk_alloc w [] e) rfl (by simp) rfl) (by simp)
/-- Two structs of numbers, flags and texts. -/
theorem run_aeq {T m D : Nat} {xs ys : List Value} {lx ly : List Lit} (hk : P.keyTypeAt m T = true) (hm : m ≤ 10000) (fx : (Value.agg ⟨xs⟩).formed P T = true) (fy : (Value.agg ⟨ys⟩).formed P T = true) (hlx : P.keyLits D T xs = some lx) (hly : P.keyLits D T ys = some ly) {p : Prop} [Decidable p] (hp : lx = ly ↔ p) (w0 : World) :
    (Op.equalIn 10000 T (.agg ⟨xs⟩) (.agg ⟨ys⟩)).run P w0 = .ok (decide p) w0 := by
  obtain ⟨r, hr, hiff⟩ := run_equalIn_deep (10000 - m) m T hk w0 D D (.agg ⟨xs⟩) (.agg ⟨ys⟩) lx ly fx fy (by simpa [Value.cells] using hlx) (by simpa [Value.cells] using hly)
  rw [show 10000 - m + m = 10000 by omega] at hr
  rw [hr]
  cases r
  · have : ¬ p := fun h => by have := hiff.2 (hp.2 h); cases this
    rw [decide_eq_false this]
  · rw [decide_eq_true (hp.1 (hiff.1 rfl))]
theorem s_aeq {d T m D : Nat} {x y : Operand} {xs ys : List Value} {lx ly : List Lit} (hk : P.keyTypeAt m T = true) (hm : m ≤ 10000) (hg : P.eqGuardType P.depth T = false) (hx : ρ.ev x = .agg ⟨xs⟩) (hy : ρ.ev y = .agg ⟨ys⟩) (fx : (Value.agg ⟨xs⟩).formed P T = true) (fy : (Value.agg ⟨ys⟩).formed P T = true)
    (hlx : P.keyLits D T xs = some lx) (hly : P.keyLits D T ys = some ly) {p : Prop} [Decidable p] (hp : lx = ly ↔ p) (h : opsWp P l Q (upd ρ d (.bool (decide p))) w) : opsWp P (⟨none, .bin d .eql T x y⟩ :: l) Q ρ w :=
  ⟨_, fun w0 => by rw [hx, hy]; simp only [Sem.run_bind, run_eqGuard_agg w0 .eql T x y _ _ hg, Result.andThen_ok, run_eql_struct, run_aeq hk hm fx fy hlx hly hp], h⟩
theorem s_ane {d T m D : Nat} {x y : Operand} {xs ys : List Value} {lx ly : List Lit} (hk : P.keyTypeAt m T = true) (hm : m ≤ 10000) (hg : P.eqGuardType P.depth T = false) (hx : ρ.ev x = .agg ⟨xs⟩) (hy : ρ.ev y = .agg ⟨ys⟩) (fx : (Value.agg ⟨xs⟩).formed P T = true) (fy : (Value.agg ⟨ys⟩).formed P T = true)
    (hlx : P.keyLits D T xs = some lx) (hly : P.keyLits D T ys = some ly) {p : Prop} [Decidable p] (hp : lx = ly ↔ p) (h : opsWp P l Q (upd ρ d (.bool (!decide p))) w) : opsWp P (⟨none, .bin d .neq T x y⟩ :: l) Q ρ w :=
  ⟨_, fun w0 => by rw [hx, hy]; simp only [Sem.run_bind, run_eqGuard_agg w0 .neq T x y _ _ hg, Result.andThen_ok, run_neq_struct, run_aeq hk hm fx fy hlx hly hp], h⟩
/-- What is known between two parts. -/
theorem s_mid {a b : LC} (J : Env → World → Prop) (ha : a.wp P (thenQ J Q) ρ w) (hb : ∀ ρ w, J ρ w → b.wp P Q ρ w) : (LC.seq a b).wp P Q ρ w :=
  s_seq (LC.wp_mono (thenQ_mono hb fun _ _ _ h => h) ha)
theorem s_fld0 {d : Nat} {x : Operand} {off b : Nat} (hx : ρ.ev x = .pointer (some ⟨b, 0, none⟩)) (h : opsWp P l Q (upd ρ d (.pointer (some ⟨b, off, none⟩))) w) : opsWp P (⟨none, .fld d x off⟩ :: l) Q ρ w :=
  s_fld hx (by rw [Nat.zero_add]; exact h)
theorem s_boxV {d : Nat} {T : TypeId} {x : Operand} {v : Value} {cs : List Value} (hx : ρ.ev x = v) (hc : v.cells = ⟨cs⟩) (h : ∀ b w', b = w.heap.size → Fr NF w w' → w'.heap.size = w.heap.size + 1 → Blk w'.heap b T cs → opsWp P l Q (upd ρ d (.pointer (some ⟨b, 0, none⟩))) w') :
    opsWp P (⟨none, .box d T x⟩ :: l) Q ρ w := s_box (by rw [hx]; exact hc) h
theorem s_storeV {x y : Operand} {b o : Nat} {T : TypeId} {cs : List Value} {v : Value} (hx : ρ.ev x = .pointer (some ⟨b, o, none⟩)) (hy : ρ.ev y = v) (hb : Blk w.heap b T cs) (hi : o < cs.length) (ho : oneC v = true)
    {cs' : List Value} (hc : cs.set o v = cs') (h : ∀ w', Fr (· = b) w w' → w'.heap.size = w.heap.size → Blk w'.heap b T cs' → opsWp P l Q ρ w') : opsWp P (⟨none, .store1 x y⟩ :: l) Q ρ w := by
  subst hc; exact s_store hx hy hb hi ho h
theorem s_storenV {n : Nat} {x y : Operand} {b o : Nat} {T : TypeId} {cs vs : List Value} (hx : ρ.ev x = .pointer (some ⟨b, o, none⟩)) (hy : ρ.ev y = .agg ⟨vs⟩) (hn : vs.length = n) (hb : Blk w.heap b T cs) (hi : o + n ≤ cs.length)
    (ho : ∀ v ∈ vs, oneC v = true) {cs' : List Value} (hc : cs.take o ++ (vs ++ cs.drop (o + n)) = cs') (h : ∀ w', Fr (· = b) w w' → w'.heap.size = w.heap.size → Blk w'.heap b T cs' → opsWp P l Q ρ w') : opsWp P (⟨none, .storen n x y⟩ :: l) Q ρ w := by
  subst hc; exact s_storen hx hy hn hb hi ho h
/-- By a number that is counted. -/
theorem s_idxSn {d es m : Nat} {x i : Operand} {v : Value} {T : TypeId} {F : Nat → Prop} {css : List (List Value)} {k : IntKind} (hx : ρ.ev x = v) (hi : ρ.ev i = .int k (m : Int)) (hs : Sl w.heap T es v F css) (h1 : m < css.length)
    (h : ∀ b o, El w.heap T es v F css m b o → opsWp P l Q (upd ρ d (.pointer (some ⟨b, o, none⟩))) w) : opsWp P (⟨none, .idx d es x i⟩ :: l) Q ρ w := s_idxS hx hi hs (by omega) (by omega) h
theorem s_idxRn {d es m : Nat} {x i : Operand} {v : Value} {F : Nat → Prop} {css : List (List Value)} {k : IntKind} {c : List Value} (hx : ρ.ev x = v) (hi : ρ.ev i = .int k (m : Int)) (hs : SlR w.heap es v F css) (hc : css[m]? = some c)
    (h : ∀ b o, At w.heap b o c → F b → opsWp P l Q (upd ρ d (.pointer (some ⟨b, o, none⟩))) w) : opsWp P (⟨none, .idx d es x i⟩ :: l) Q ρ w := s_idxR hx hi hs (by omega) hc h
theorem s_build0 {d : Nat} {z : List Value} {cs : List Value}  (hf : fillL z [] = some cs) (h : opsWp P l Q (upd ρ d (.agg ⟨cs⟩)) w) :
    opsWp P (⟨none, .build d z []⟩ :: l) Q ρ w := by
  exact s_build hf h
theorem s_buildS0 {d : Nat} {T : TypeId} {n : Nat} {z : List Value} {cs : List Value}  (hf : fillL z [] = some cs)
    (h : ∀ b w', b = w.heap.size → Fr NF w w' → w'.heap.size = w.heap.size + 1 → Blk w'.heap b T cs → opsWp P l Q (upd ρ d (.slice (some ⟨b, 0, none⟩) n n)) w') :
    opsWp P (⟨none, .buildS d T n z []⟩ :: l) Q ρ w := by
  exact s_buildS hf h
theorem s_build1 {d : Nat} {z : List Value} {o0 n0 : Nat} {x0 : Operand} {v0 : Value} {cs : List Value} (h0 : ρ.ev x0 = v0) (hf : fillL z [(o0, n0, v0)] = some cs) (h : opsWp P l Q (upd ρ d (.agg ⟨cs⟩)) w) :
    opsWp P (⟨none, .build d z [(o0, n0, x0)]⟩ :: l) Q ρ w := by
  subst h0; exact s_build hf h
theorem s_buildS1 {d : Nat} {T : TypeId} {n : Nat} {z : List Value} {o0 n0 : Nat} {x0 : Operand} {v0 : Value} {cs : List Value} (h0 : ρ.ev x0 = v0) (hf : fillL z [(o0, n0, v0)] = some cs)
    (h : ∀ b w', b = w.heap.size → Fr NF w w' → w'.heap.size = w.heap.size + 1 → Blk w'.heap b T cs → opsWp P l Q (upd ρ d (.slice (some ⟨b, 0, none⟩) n n)) w') :
    opsWp P (⟨none, .buildS d T n z [(o0, n0, x0)]⟩ :: l) Q ρ w := by
  subst h0; exact s_buildS hf h
theorem s_build2 {d : Nat} {z : List Value} {o0 n0 o1 n1 : Nat} {x0 x1 : Operand} {v0 v1 : Value} {cs : List Value} (h0 : ρ.ev x0 = v0) (h1 : ρ.ev x1 = v1) (hf : fillL z [(o0, n0, v0), (o1, n1, v1)] = some cs) (h : opsWp P l Q (upd ρ d (.agg ⟨cs⟩)) w) :
    opsWp P (⟨none, .build d z [(o0, n0, x0), (o1, n1, x1)]⟩ :: l) Q ρ w := by
  subst h0 h1; exact s_build hf h
theorem s_buildS2 {d : Nat} {T : TypeId} {n : Nat} {z : List Value} {o0 n0 o1 n1 : Nat} {x0 x1 : Operand} {v0 v1 : Value} {cs : List Value} (h0 : ρ.ev x0 = v0) (h1 : ρ.ev x1 = v1) (hf : fillL z [(o0, n0, v0), (o1, n1, v1)] = some cs)
    (h : ∀ b w', b = w.heap.size → Fr NF w w' → w'.heap.size = w.heap.size + 1 → Blk w'.heap b T cs → opsWp P l Q (upd ρ d (.slice (some ⟨b, 0, none⟩) n n)) w') :
    opsWp P (⟨none, .buildS d T n z [(o0, n0, x0), (o1, n1, x1)]⟩ :: l) Q ρ w := by
  subst h0 h1; exact s_buildS hf h
theorem s_build3 {d : Nat} {z : List Value} {o0 n0 o1 n1 o2 n2 : Nat} {x0 x1 x2 : Operand} {v0 v1 v2 : Value} {cs : List Value} (h0 : ρ.ev x0 = v0) (h1 : ρ.ev x1 = v1) (h2 : ρ.ev x2 = v2) (hf : fillL z [(o0, n0, v0), (o1, n1, v1), (o2, n2, v2)] = some cs) (h : opsWp P l Q (upd ρ d (.agg ⟨cs⟩)) w) :
    opsWp P (⟨none, .build d z [(o0, n0, x0), (o1, n1, x1), (o2, n2, x2)]⟩ :: l) Q ρ w := by
  subst h0 h1 h2; exact s_build hf h
theorem s_buildS3 {d : Nat} {T : TypeId} {n : Nat} {z : List Value} {o0 n0 o1 n1 o2 n2 : Nat} {x0 x1 x2 : Operand} {v0 v1 v2 : Value} {cs : List Value} (h0 : ρ.ev x0 = v0) (h1 : ρ.ev x1 = v1) (h2 : ρ.ev x2 = v2) (hf : fillL z [(o0, n0, v0), (o1, n1, v1), (o2, n2, v2)] = some cs)
    (h : ∀ b w', b = w.heap.size → Fr NF w w' → w'.heap.size = w.heap.size + 1 → Blk w'.heap b T cs → opsWp P l Q (upd ρ d (.slice (some ⟨b, 0, none⟩) n n)) w') :
    opsWp P (⟨none, .buildS d T n z [(o0, n0, x0), (o1, n1, x1), (o2, n2, x2)]⟩ :: l) Q ρ w := by
  subst h0 h1 h2; exact s_buildS hf h
theorem s_build4 {d : Nat} {z : List Value} {o0 n0 o1 n1 o2 n2 o3 n3 : Nat} {x0 x1 x2 x3 : Operand} {v0 v1 v2 v3 : Value} {cs : List Value} (h0 : ρ.ev x0 = v0) (h1 : ρ.ev x1 = v1) (h2 : ρ.ev x2 = v2) (h3 : ρ.ev x3 = v3) (hf : fillL z [(o0, n0, v0), (o1, n1, v1), (o2, n2, v2), (o3, n3, v3)] = some cs) (h : opsWp P l Q (upd ρ d (.agg ⟨cs⟩)) w) :
    opsWp P (⟨none, .build d z [(o0, n0, x0), (o1, n1, x1), (o2, n2, x2), (o3, n3, x3)]⟩ :: l) Q ρ w := by
  subst h0 h1 h2 h3; exact s_build hf h
theorem s_buildS4 {d : Nat} {T : TypeId} {n : Nat} {z : List Value} {o0 n0 o1 n1 o2 n2 o3 n3 : Nat} {x0 x1 x2 x3 : Operand} {v0 v1 v2 v3 : Value} {cs : List Value} (h0 : ρ.ev x0 = v0) (h1 : ρ.ev x1 = v1) (h2 : ρ.ev x2 = v2) (h3 : ρ.ev x3 = v3) (hf : fillL z [(o0, n0, v0), (o1, n1, v1), (o2, n2, v2), (o3, n3, v3)] = some cs)
    (h : ∀ b w', b = w.heap.size → Fr NF w w' → w'.heap.size = w.heap.size + 1 → Blk w'.heap b T cs → opsWp P l Q (upd ρ d (.slice (some ⟨b, 0, none⟩) n n)) w') :
    opsWp P (⟨none, .buildS d T n z [(o0, n0, x0), (o1, n1, x1), (o2, n2, x2), (o3, n3, x3)]⟩ :: l) Q ρ w := by
  subst h0 h1 h2 h3; exact s_buildS hf h
theorem s_build5 {d : Nat} {z : List Value} {o0 n0 o1 n1 o2 n2 o3 n3 o4 n4 : Nat} {x0 x1 x2 x3 x4 : Operand} {v0 v1 v2 v3 v4 : Value} {cs : List Value} (h0 : ρ.ev x0 = v0) (h1 : ρ.ev x1 = v1) (h2 : ρ.ev x2 = v2) (h3 : ρ.ev x3 = v3) (h4 : ρ.ev x4 = v4) (hf : fillL z [(o0, n0, v0), (o1, n1, v1), (o2, n2, v2), (o3, n3, v3), (o4, n4, v4)] = some cs) (h : opsWp P l Q (upd ρ d (.agg ⟨cs⟩)) w) :
    opsWp P (⟨none, .build d z [(o0, n0, x0), (o1, n1, x1), (o2, n2, x2), (o3, n3, x3), (o4, n4, x4)]⟩ :: l) Q ρ w := by
  subst h0 h1 h2 h3 h4; exact s_build hf h
theorem s_buildS5 {d : Nat} {T : TypeId} {n : Nat} {z : List Value} {o0 n0 o1 n1 o2 n2 o3 n3 o4 n4 : Nat} {x0 x1 x2 x3 x4 : Operand} {v0 v1 v2 v3 v4 : Value} {cs : List Value} (h0 : ρ.ev x0 = v0) (h1 : ρ.ev x1 = v1) (h2 : ρ.ev x2 = v2) (h3 : ρ.ev x3 = v3) (h4 : ρ.ev x4 = v4) (hf : fillL z [(o0, n0, v0), (o1, n1, v1), (o2, n2, v2), (o3, n3, v3), (o4, n4, v4)] = some cs)
    (h : ∀ b w', b = w.heap.size → Fr NF w w' → w'.heap.size = w.heap.size + 1 → Blk w'.heap b T cs → opsWp P l Q (upd ρ d (.slice (some ⟨b, 0, none⟩) n n)) w') :
    opsWp P (⟨none, .buildS d T n z [(o0, n0, x0), (o1, n1, x1), (o2, n2, x2), (o3, n3, x3), (o4, n4, x4)]⟩ :: l) Q ρ w := by
  subst h0 h1 h2 h3 h4; exact s_buildS hf h
theorem s_build6 {d : Nat} {z : List Value} {o0 n0 o1 n1 o2 n2 o3 n3 o4 n4 o5 n5 : Nat} {x0 x1 x2 x3 x4 x5 : Operand} {v0 v1 v2 v3 v4 v5 : Value} {cs : List Value} (h0 : ρ.ev x0 = v0) (h1 : ρ.ev x1 = v1) (h2 : ρ.ev x2 = v2) (h3 : ρ.ev x3 = v3) (h4 : ρ.ev x4 = v4) (h5 : ρ.ev x5 = v5) (hf : fillL z [(o0, n0, v0), (o1, n1, v1), (o2, n2, v2), (o3, n3, v3), (o4, n4, v4), (o5, n5, v5)] = some cs) (h : opsWp P l Q (upd ρ d (.agg ⟨cs⟩)) w) :
    opsWp P (⟨none, .build d z [(o0, n0, x0), (o1, n1, x1), (o2, n2, x2), (o3, n3, x3), (o4, n4, x4), (o5, n5, x5)]⟩ :: l) Q ρ w := by
  subst h0 h1 h2 h3 h4 h5; exact s_build hf h
theorem s_buildS6 {d : Nat} {T : TypeId} {n : Nat} {z : List Value} {o0 n0 o1 n1 o2 n2 o3 n3 o4 n4 o5 n5 : Nat} {x0 x1 x2 x3 x4 x5 : Operand} {v0 v1 v2 v3 v4 v5 : Value} {cs : List Value} (h0 : ρ.ev x0 = v0) (h1 : ρ.ev x1 = v1) (h2 : ρ.ev x2 = v2) (h3 : ρ.ev x3 = v3) (h4 : ρ.ev x4 = v4) (h5 : ρ.ev x5 = v5) (hf : fillL z [(o0, n0, v0), (o1, n1, v1), (o2, n2, v2), (o3, n3, v3), (o4, n4, v4), (o5, n5, v5)] = some cs)
    (h : ∀ b w', b = w.heap.size → Fr NF w w' → w'.heap.size = w.heap.size + 1 → Blk w'.heap b T cs → opsWp P l Q (upd ρ d (.slice (some ⟨b, 0, none⟩) n n)) w') :
    opsWp P (⟨none, .buildS d T n z [(o0, n0, x0), (o1, n1, x1), (o2, n2, x2), (o3, n3, x3), (o4, n4, x4), (o5, n5, x5)]⟩ :: l) Q ρ w := by
  subst h0 h1 h2 h3 h4 h5; exact s_buildS hf h
theorem s_build7 {d : Nat} {z : List Value} {o0 n0 o1 n1 o2 n2 o3 n3 o4 n4 o5 n5 o6 n6 : Nat} {x0 x1 x2 x3 x4 x5 x6 : Operand} {v0 v1 v2 v3 v4 v5 v6 : Value} {cs : List Value} (h0 : ρ.ev x0 = v0) (h1 : ρ.ev x1 = v1) (h2 : ρ.ev x2 = v2) (h3 : ρ.ev x3 = v3) (h4 : ρ.ev x4 = v4) (h5 : ρ.ev x5 = v5) (h6 : ρ.ev x6 = v6) (hf : fillL z [(o0, n0, v0), (o1, n1, v1), (o2, n2, v2), (o3, n3, v3), (o4, n4, v4), (o5, n5, v5), (o6, n6, v6)] = some cs) (h : opsWp P l Q (upd ρ d (.agg ⟨cs⟩)) w) :
    opsWp P (⟨none, .build d z [(o0, n0, x0), (o1, n1, x1), (o2, n2, x2), (o3, n3, x3), (o4, n4, x4), (o5, n5, x5), (o6, n6, x6)]⟩ :: l) Q ρ w := by
  subst h0 h1 h2 h3 h4 h5 h6; exact s_build hf h
theorem s_buildS7 {d : Nat} {T : TypeId} {n : Nat} {z : List Value} {o0 n0 o1 n1 o2 n2 o3 n3 o4 n4 o5 n5 o6 n6 : Nat} {x0 x1 x2 x3 x4 x5 x6 : Operand} {v0 v1 v2 v3 v4 v5 v6 : Value} {cs : List Value} (h0 : ρ.ev x0 = v0) (h1 : ρ.ev x1 = v1) (h2 : ρ.ev x2 = v2) (h3 : ρ.ev x3 = v3) (h4 : ρ.ev x4 = v4) (h5 : ρ.ev x5 = v5) (h6 : ρ.ev x6 = v6) (hf : fillL z [(o0, n0, v0), (o1, n1, v1), (o2, n2, v2), (o3, n3, v3), (o4, n4, v4), (o5, n5, v5), (o6, n6, v6)] = some cs)
    (h : ∀ b w', b = w.heap.size → Fr NF w w' → w'.heap.size = w.heap.size + 1 → Blk w'.heap b T cs → opsWp P l Q (upd ρ d (.slice (some ⟨b, 0, none⟩) n n)) w') :
    opsWp P (⟨none, .buildS d T n z [(o0, n0, x0), (o1, n1, x1), (o2, n2, x2), (o3, n3, x3), (o4, n4, x4), (o5, n5, x5), (o6, n6, x6)]⟩ :: l) Q ρ w := by
  subst h0 h1 h2 h3 h4 h5 h6; exact s_buildS hf h
theorem s_build8 {d : Nat} {z : List Value} {o0 n0 o1 n1 o2 n2 o3 n3 o4 n4 o5 n5 o6 n6 o7 n7 : Nat} {x0 x1 x2 x3 x4 x5 x6 x7 : Operand} {v0 v1 v2 v3 v4 v5 v6 v7 : Value} {cs : List Value} (h0 : ρ.ev x0 = v0) (h1 : ρ.ev x1 = v1) (h2 : ρ.ev x2 = v2) (h3 : ρ.ev x3 = v3) (h4 : ρ.ev x4 = v4) (h5 : ρ.ev x5 = v5) (h6 : ρ.ev x6 = v6) (h7 : ρ.ev x7 = v7) (hf : fillL z [(o0, n0, v0), (o1, n1, v1), (o2, n2, v2), (o3, n3, v3), (o4, n4, v4), (o5, n5, v5), (o6, n6, v6), (o7, n7, v7)] = some cs) (h : opsWp P l Q (upd ρ d (.agg ⟨cs⟩)) w) :
    opsWp P (⟨none, .build d z [(o0, n0, x0), (o1, n1, x1), (o2, n2, x2), (o3, n3, x3), (o4, n4, x4), (o5, n5, x5), (o6, n6, x6), (o7, n7, x7)]⟩ :: l) Q ρ w := by
  subst h0 h1 h2 h3 h4 h5 h6 h7; exact s_build hf h
theorem s_buildS8 {d : Nat} {T : TypeId} {n : Nat} {z : List Value} {o0 n0 o1 n1 o2 n2 o3 n3 o4 n4 o5 n5 o6 n6 o7 n7 : Nat} {x0 x1 x2 x3 x4 x5 x6 x7 : Operand} {v0 v1 v2 v3 v4 v5 v6 v7 : Value} {cs : List Value} (h0 : ρ.ev x0 = v0) (h1 : ρ.ev x1 = v1) (h2 : ρ.ev x2 = v2) (h3 : ρ.ev x3 = v3) (h4 : ρ.ev x4 = v4) (h5 : ρ.ev x5 = v5) (h6 : ρ.ev x6 = v6) (h7 : ρ.ev x7 = v7) (hf : fillL z [(o0, n0, v0), (o1, n1, v1), (o2, n2, v2), (o3, n3, v3), (o4, n4, v4), (o5, n5, v5), (o6, n6, v6), (o7, n7, v7)] = some cs)
    (h : ∀ b w', b = w.heap.size → Fr NF w w' → w'.heap.size = w.heap.size + 1 → Blk w'.heap b T cs → opsWp P l Q (upd ρ d (.slice (some ⟨b, 0, none⟩) n n)) w') :
    opsWp P (⟨none, .buildS d T n z [(o0, n0, x0), (o1, n1, x1), (o2, n2, x2), (o3, n3, x3), (o4, n4, x4), (o5, n5, x5), (o6, n6, x6), (o7, n7, x7)]⟩ :: l) Q ρ w := by
  subst h0 h1 h2 h3 h4 h5 h6 h7; exact s_buildS hf h
theorem s_build9 {d : Nat} {z : List Value} {o0 n0 o1 n1 o2 n2 o3 n3 o4 n4 o5 n5 o6 n6 o7 n7 o8 n8 : Nat} {x0 x1 x2 x3 x4 x5 x6 x7 x8 : Operand} {v0 v1 v2 v3 v4 v5 v6 v7 v8 : Value} {cs : List Value} (h0 : ρ.ev x0 = v0) (h1 : ρ.ev x1 = v1) (h2 : ρ.ev x2 = v2) (h3 : ρ.ev x3 = v3) (h4 : ρ.ev x4 = v4) (h5 : ρ.ev x5 = v5) (h6 : ρ.ev x6 = v6) (h7 : ρ.ev x7 = v7) (h8 : ρ.ev x8 = v8) (hf : fillL z [(o0, n0, v0), (o1, n1, v1), (o2, n2, v2), (o3, n3, v3), (o4, n4, v4), (o5, n5, v5), (o6, n6, v6), (o7, n7, v7), (o8, n8, v8)] = some cs) (h : opsWp P l Q (upd ρ d (.agg ⟨cs⟩)) w) :
    opsWp P (⟨none, .build d z [(o0, n0, x0), (o1, n1, x1), (o2, n2, x2), (o3, n3, x3), (o4, n4, x4), (o5, n5, x5), (o6, n6, x6), (o7, n7, x7), (o8, n8, x8)]⟩ :: l) Q ρ w := by
  subst h0 h1 h2 h3 h4 h5 h6 h7 h8; exact s_build hf h
theorem s_buildS9 {d : Nat} {T : TypeId} {n : Nat} {z : List Value} {o0 n0 o1 n1 o2 n2 o3 n3 o4 n4 o5 n5 o6 n6 o7 n7 o8 n8 : Nat} {x0 x1 x2 x3 x4 x5 x6 x7 x8 : Operand} {v0 v1 v2 v3 v4 v5 v6 v7 v8 : Value} {cs : List Value} (h0 : ρ.ev x0 = v0) (h1 : ρ.ev x1 = v1) (h2 : ρ.ev x2 = v2) (h3 : ρ.ev x3 = v3) (h4 : ρ.ev x4 = v4) (h5 : ρ.ev x5 = v5) (h6 : ρ.ev x6 = v6) (h7 : ρ.ev x7 = v7) (h8 : ρ.ev x8 = v8) (hf : fillL z [(o0, n0, v0), (o1, n1, v1), (o2, n2, v2), (o3, n3, v3), (o4, n4, v4), (o5, n5, v5), (o6, n6, v6), (o7, n7, v7), (o8, n8, v8)] = some cs)
    (h : ∀ b w', b = w.heap.size → Fr NF w w' → w'.heap.size = w.heap.size + 1 → Blk w'.heap b T cs → opsWp P l Q (upd ρ d (.slice (some ⟨b, 0, none⟩) n n)) w') :
    opsWp P (⟨none, .buildS d T n z [(o0, n0, x0), (o1, n1, x1), (o2, n2, x2), (o3, n3, x3), (o4, n4, x4), (o5, n5, x5), (o6, n6, x6), (o7, n7, x7), (o8, n8, x8)]⟩ :: l) Q ρ w := by
  subst h0 h1 h2 h3 h4 h5 h6 h7 h8; exact s_buildS hf h
theorem s_build10 {d : Nat} {z : List Value} {o0 n0 o1 n1 o2 n2 o3 n3 o4 n4 o5 n5 o6 n6 o7 n7 o8 n8 o9 n9 : Nat} {x0 x1 x2 x3 x4 x5 x6 x7 x8 x9 : Operand} {v0 v1 v2 v3 v4 v5 v6 v7 v8 v9 : Value} {cs : List Value} (h0 : ρ.ev x0 = v0) (h1 : ρ.ev x1 = v1) (h2 : ρ.ev x2 = v2) (h3 : ρ.ev x3 = v3) (h4 : ρ.ev x4 = v4) (h5 : ρ.ev x5 = v5) (h6 : ρ.ev x6 = v6) (h7 : ρ.ev x7 = v7) (h8 : ρ.ev x8 = v8) (h9 : ρ.ev x9 = v9) (hf : fillL z [(o0, n0, v0), (o1, n1, v1), (o2, n2, v2), (o3, n3, v3), (o4, n4, v4), (o5, n5, v5), (o6, n6, v6), (o7, n7, v7), (o8, n8, v8), (o9, n9, v9)] = some cs) (h : opsWp P l Q (upd ρ d (.agg ⟨cs⟩)) w) :
    opsWp P (⟨none, .build d z [(o0, n0, x0), (o1, n1, x1), (o2, n2, x2), (o3, n3, x3), (o4, n4, x4), (o5, n5, x5), (o6, n6, x6), (o7, n7, x7), (o8, n8, x8), (o9, n9, x9)]⟩ :: l) Q ρ w := by
  subst h0 h1 h2 h3 h4 h5 h6 h7 h8 h9; exact s_build hf h
theorem s_buildS10 {d : Nat} {T : TypeId} {n : Nat} {z : List Value} {o0 n0 o1 n1 o2 n2 o3 n3 o4 n4 o5 n5 o6 n6 o7 n7 o8 n8 o9 n9 : Nat} {x0 x1 x2 x3 x4 x5 x6 x7 x8 x9 : Operand} {v0 v1 v2 v3 v4 v5 v6 v7 v8 v9 : Value} {cs : List Value} (h0 : ρ.ev x0 = v0) (h1 : ρ.ev x1 = v1) (h2 : ρ.ev x2 = v2) (h3 : ρ.ev x3 = v3) (h4 : ρ.ev x4 = v4) (h5 : ρ.ev x5 = v5) (h6 : ρ.ev x6 = v6) (h7 : ρ.ev x7 = v7) (h8 : ρ.ev x8 = v8) (h9 : ρ.ev x9 = v9) (hf : fillL z [(o0, n0, v0), (o1, n1, v1), (o2, n2, v2), (o3, n3, v3), (o4, n4, v4), (o5, n5, v5), (o6, n6, v6), (o7, n7, v7), (o8, n8, v8), (o9, n9, v9)] = some cs)
    (h : ∀ b w', b = w.heap.size → Fr NF w w' → w'.heap.size = w.heap.size + 1 → Blk w'.heap b T cs → opsWp P l Q (upd ρ d (.slice (some ⟨b, 0, none⟩) n n)) w') :
    opsWp P (⟨none, .buildS d T n z [(o0, n0, x0), (o1, n1, x1), (o2, n2, x2), (o3, n3, x3), (o4, n4, x4), (o5, n5, x5), (o6, n6, x6), (o7, n7, x7), (o8, n8, x8), (o9, n9, x9)]⟩ :: l) Q ρ w := by
  subst h0 h1 h2 h3 h4 h5 h6 h7 h8 h9; exact s_buildS hf h
theorem s_build11 {d : Nat} {z : List Value} {o0 n0 o1 n1 o2 n2 o3 n3 o4 n4 o5 n5 o6 n6 o7 n7 o8 n8 o9 n9 o10 n10 : Nat} {x0 x1 x2 x3 x4 x5 x6 x7 x8 x9 x10 : Operand} {v0 v1 v2 v3 v4 v5 v6 v7 v8 v9 v10 : Value} {cs : List Value} (h0 : ρ.ev x0 = v0) (h1 : ρ.ev x1 = v1) (h2 : ρ.ev x2 = v2) (h3 : ρ.ev x3 = v3) (h4 : ρ.ev x4 = v4) (h5 : ρ.ev x5 = v5) (h6 : ρ.ev x6 = v6) (h7 : ρ.ev x7 = v7) (h8 : ρ.ev x8 = v8) (h9 : ρ.ev x9 = v9) (h10 : ρ.ev x10 = v10) (hf : fillL z [(o0, n0, v0), (o1, n1, v1), (o2, n2, v2), (o3, n3, v3), (o4, n4, v4), (o5, n5, v5), (o6, n6, v6), (o7, n7, v7), (o8, n8, v8), (o9, n9, v9), (o10, n10, v10)] = some cs) (h : opsWp P l Q (upd ρ d (.agg ⟨cs⟩)) w) :
    opsWp P (⟨none, .build d z [(o0, n0, x0), (o1, n1, x1), (o2, n2, x2), (o3, n3, x3), (o4, n4, x4), (o5, n5, x5), (o6, n6, x6), (o7, n7, x7), (o8, n8, x8), (o9, n9, x9), (o10, n10, x10)]⟩ :: l) Q ρ w := by
  subst h0 h1 h2 h3 h4 h5 h6 h7 h8 h9 h10; exact s_build hf h
theorem s_buildS11 {d : Nat} {T : TypeId} {n : Nat} {z : List Value} {o0 n0 o1 n1 o2 n2 o3 n3 o4 n4 o5 n5 o6 n6 o7 n7 o8 n8 o9 n9 o10 n10 : Nat} {x0 x1 x2 x3 x4 x5 x6 x7 x8 x9 x10 : Operand} {v0 v1 v2 v3 v4 v5 v6 v7 v8 v9 v10 : Value} {cs : List Value} (h0 : ρ.ev x0 = v0) (h1 : ρ.ev x1 = v1) (h2 : ρ.ev x2 = v2) (h3 : ρ.ev x3 = v3) (h4 : ρ.ev x4 = v4) (h5 : ρ.ev x5 = v5) (h6 : ρ.ev x6 = v6) (h7 : ρ.ev x7 = v7) (h8 : ρ.ev x8 = v8) (h9 : ρ.ev x9 = v9) (h10 : ρ.ev x10 = v10) (hf : fillL z [(o0, n0, v0), (o1, n1, v1), (o2, n2, v2), (o3, n3, v3), (o4, n4, v4), (o5, n5, v5), (o6, n6, v6), (o7, n7, v7), (o8, n8, v8), (o9, n9, v9), (o10, n10, v10)] = some cs)
    (h : ∀ b w', b = w.heap.size → Fr NF w w' → w'.heap.size = w.heap.size + 1 → Blk w'.heap b T cs → opsWp P l Q (upd ρ d (.slice (some ⟨b, 0, none⟩) n n)) w') :
    opsWp P (⟨none, .buildS d T n z [(o0, n0, x0), (o1, n1, x1), (o2, n2, x2), (o3, n3, x3), (o4, n4, x4), (o5, n5, x5), (o6, n6, x6), (o7, n7, x7), (o8, n8, x8), (o9, n9, x9), (o10, n10, x10)]⟩ :: l) Q ρ w := by
  subst h0 h1 h2 h3 h4 h5 h6 h7 h8 h9 h10; exact s_buildS hf h
theorem s_build12 {d : Nat} {z : List Value} {o0 n0 o1 n1 o2 n2 o3 n3 o4 n4 o5 n5 o6 n6 o7 n7 o8 n8 o9 n9 o10 n10 o11 n11 : Nat} {x0 x1 x2 x3 x4 x5 x6 x7 x8 x9 x10 x11 : Operand} {v0 v1 v2 v3 v4 v5 v6 v7 v8 v9 v10 v11 : Value} {cs : List Value} (h0 : ρ.ev x0 = v0) (h1 : ρ.ev x1 = v1) (h2 : ρ.ev x2 = v2) (h3 : ρ.ev x3 = v3) (h4 : ρ.ev x4 = v4) (h5 : ρ.ev x5 = v5) (h6 : ρ.ev x6 = v6) (h7 : ρ.ev x7 = v7) (h8 : ρ.ev x8 = v8) (h9 : ρ.ev x9 = v9) (h10 : ρ.ev x10 = v10) (h11 : ρ.ev x11 = v11) (hf : fillL z [(o0, n0, v0), (o1, n1, v1), (o2, n2, v2), (o3, n3, v3), (o4, n4, v4), (o5, n5, v5), (o6, n6, v6), (o7, n7, v7), (o8, n8, v8), (o9, n9, v9), (o10, n10, v10), (o11, n11, v11)] = some cs) (h : opsWp P l Q (upd ρ d (.agg ⟨cs⟩)) w) :
    opsWp P (⟨none, .build d z [(o0, n0, x0), (o1, n1, x1), (o2, n2, x2), (o3, n3, x3), (o4, n4, x4), (o5, n5, x5), (o6, n6, x6), (o7, n7, x7), (o8, n8, x8), (o9, n9, x9), (o10, n10, x10), (o11, n11, x11)]⟩ :: l) Q ρ w := by
  subst h0 h1 h2 h3 h4 h5 h6 h7 h8 h9 h10 h11; exact s_build hf h
theorem s_buildS12 {d : Nat} {T : TypeId} {n : Nat} {z : List Value} {o0 n0 o1 n1 o2 n2 o3 n3 o4 n4 o5 n5 o6 n6 o7 n7 o8 n8 o9 n9 o10 n10 o11 n11 : Nat} {x0 x1 x2 x3 x4 x5 x6 x7 x8 x9 x10 x11 : Operand} {v0 v1 v2 v3 v4 v5 v6 v7 v8 v9 v10 v11 : Value} {cs : List Value} (h0 : ρ.ev x0 = v0) (h1 : ρ.ev x1 = v1) (h2 : ρ.ev x2 = v2) (h3 : ρ.ev x3 = v3) (h4 : ρ.ev x4 = v4) (h5 : ρ.ev x5 = v5) (h6 : ρ.ev x6 = v6) (h7 : ρ.ev x7 = v7) (h8 : ρ.ev x8 = v8) (h9 : ρ.ev x9 = v9) (h10 : ρ.ev x10 = v10) (h11 : ρ.ev x11 = v11) (hf : fillL z [(o0, n0, v0), (o1, n1, v1), (o2, n2, v2), (o3, n3, v3), (o4, n4, v4), (o5, n5, v5), (o6, n6, v6), (o7, n7, v7), (o8, n8, v8), (o9, n9, v9), (o10, n10, v10), (o11, n11, v11)] = some cs)
    (h : ∀ b w', b = w.heap.size → Fr NF w w' → w'.heap.size = w.heap.size + 1 → Blk w'.heap b T cs → opsWp P l Q (upd ρ d (.slice (some ⟨b, 0, none⟩) n n)) w') :
    opsWp P (⟨none, .buildS d T n z [(o0, n0, x0), (o1, n1, x1), (o2, n2, x2), (o3, n3, x3), (o4, n4, x4), (o5, n5, x5), (o6, n6, x6), (o7, n7, x7), (o8, n8, x8), (o9, n9, x9), (o10, n10, x10), (o11, n11, x11)]⟩ :: l) Q ρ w := by
  subst h0 h1 h2 h3 h4 h5 h6 h7 h8 h9 h10 h11; exact s_buildS hf h
theorem s_build13 {d : Nat} {z : List Value} {o0 n0 o1 n1 o2 n2 o3 n3 o4 n4 o5 n5 o6 n6 o7 n7 o8 n8 o9 n9 o10 n10 o11 n11 o12 n12 : Nat} {x0 x1 x2 x3 x4 x5 x6 x7 x8 x9 x10 x11 x12 : Operand} {v0 v1 v2 v3 v4 v5 v6 v7 v8 v9 v10 v11 v12 : Value} {cs : List Value} (h0 : ρ.ev x0 = v0) (h1 : ρ.ev x1 = v1) (h2 : ρ.ev x2 = v2) (h3 : ρ.ev x3 = v3) (h4 : ρ.ev x4 = v4) (h5 : ρ.ev x5 = v5) (h6 : ρ.ev x6 = v6) (h7 : ρ.ev x7 = v7) (h8 : ρ.ev x8 = v8) (h9 : ρ.ev x9 = v9) (h10 : ρ.ev x10 = v10) (h11 : ρ.ev x11 = v11) (h12 : ρ.ev x12 = v12) (hf : fillL z [(o0, n0, v0), (o1, n1, v1), (o2, n2, v2), (o3, n3, v3), (o4, n4, v4), (o5, n5, v5), (o6, n6, v6), (o7, n7, v7), (o8, n8, v8), (o9, n9, v9), (o10, n10, v10), (o11, n11, v11), (o12, n12, v12)] = some cs) (h : opsWp P l Q (upd ρ d (.agg ⟨cs⟩)) w) :
    opsWp P (⟨none, .build d z [(o0, n0, x0), (o1, n1, x1), (o2, n2, x2), (o3, n3, x3), (o4, n4, x4), (o5, n5, x5), (o6, n6, x6), (o7, n7, x7), (o8, n8, x8), (o9, n9, x9), (o10, n10, x10), (o11, n11, x11), (o12, n12, x12)]⟩ :: l) Q ρ w := by
  subst h0 h1 h2 h3 h4 h5 h6 h7 h8 h9 h10 h11 h12; exact s_build hf h
theorem s_buildS13 {d : Nat} {T : TypeId} {n : Nat} {z : List Value} {o0 n0 o1 n1 o2 n2 o3 n3 o4 n4 o5 n5 o6 n6 o7 n7 o8 n8 o9 n9 o10 n10 o11 n11 o12 n12 : Nat} {x0 x1 x2 x3 x4 x5 x6 x7 x8 x9 x10 x11 x12 : Operand} {v0 v1 v2 v3 v4 v5 v6 v7 v8 v9 v10 v11 v12 : Value} {cs : List Value} (h0 : ρ.ev x0 = v0) (h1 : ρ.ev x1 = v1) (h2 : ρ.ev x2 = v2) (h3 : ρ.ev x3 = v3) (h4 : ρ.ev x4 = v4) (h5 : ρ.ev x5 = v5) (h6 : ρ.ev x6 = v6) (h7 : ρ.ev x7 = v7) (h8 : ρ.ev x8 = v8) (h9 : ρ.ev x9 = v9) (h10 : ρ.ev x10 = v10) (h11 : ρ.ev x11 = v11) (h12 : ρ.ev x12 = v12) (hf : fillL z [(o0, n0, v0), (o1, n1, v1), (o2, n2, v2), (o3, n3, v3), (o4, n4, v4), (o5, n5, v5), (o6, n6, v6), (o7, n7, v7), (o8, n8, v8), (o9, n9, v9), (o10, n10, v10), (o11, n11, v11), (o12, n12, v12)] = some cs)
    (h : ∀ b w', b = w.heap.size → Fr NF w w' → w'.heap.size = w.heap.size + 1 → Blk w'.heap b T cs → opsWp P l Q (upd ρ d (.slice (some ⟨b, 0, none⟩) n n)) w') :
    opsWp P (⟨none, .buildS d T n z [(o0, n0, x0), (o1, n1, x1), (o2, n2, x2), (o3, n3, x3), (o4, n4, x4), (o5, n5, x5), (o6, n6, x6), (o7, n7, x7), (o8, n8, x8), (o9, n9, x9), (o10, n10, x10), (o11, n11, x11), (o12, n12, x12)]⟩ :: l) Q ρ w := by
  subst h0 h1 h2 h3 h4 h5 h6 h7 h8 h9 h10 h11 h12; exact s_buildS hf h
theorem s_build14 {d : Nat} {z : List Value} {o0 n0 o1 n1 o2 n2 o3 n3 o4 n4 o5 n5 o6 n6 o7 n7 o8 n8 o9 n9 o10 n10 o11 n11 o12 n12 o13 n13 : Nat} {x0 x1 x2 x3 x4 x5 x6 x7 x8 x9 x10 x11 x12 x13 : Operand} {v0 v1 v2 v3 v4 v5 v6 v7 v8 v9 v10 v11 v12 v13 : Value} {cs : List Value} (h0 : ρ.ev x0 = v0) (h1 : ρ.ev x1 = v1) (h2 : ρ.ev x2 = v2) (h3 : ρ.ev x3 = v3) (h4 : ρ.ev x4 = v4) (h5 : ρ.ev x5 = v5) (h6 : ρ.ev x6 = v6) (h7 : ρ.ev x7 = v7) (h8 : ρ.ev x8 = v8) (h9 : ρ.ev x9 = v9) (h10 : ρ.ev x10 = v10) (h11 : ρ.ev x11 = v11) (h12 : ρ.ev x12 = v12) (h13 : ρ.ev x13 = v13) (hf : fillL z [(o0, n0, v0), (o1, n1, v1), (o2, n2, v2), (o3, n3, v3), (o4, n4, v4), (o5, n5, v5), (o6, n6, v6), (o7, n7, v7), (o8, n8, v8), (o9, n9, v9), (o10, n10, v10), (o11, n11, v11), (o12, n12, v12), (o13, n13, v13)] = some cs) (h : opsWp P l Q (upd ρ d (.agg ⟨cs⟩)) w) :
    opsWp P (⟨none, .build d z [(o0, n0, x0), (o1, n1, x1), (o2, n2, x2), (o3, n3, x3), (o4, n4, x4), (o5, n5, x5), (o6, n6, x6), (o7, n7, x7), (o8, n8, x8), (o9, n9, x9), (o10, n10, x10), (o11, n11, x11), (o12, n12, x12), (o13, n13, x13)]⟩ :: l) Q ρ w := by
  subst h0 h1 h2 h3 h4 h5 h6 h7 h8 h9 h10 h11 h12 h13; exact s_build hf h
theorem s_buildS14 {d : Nat} {T : TypeId} {n : Nat} {z : List Value} {o0 n0 o1 n1 o2 n2 o3 n3 o4 n4 o5 n5 o6 n6 o7 n7 o8 n8 o9 n9 o10 n10 o11 n11 o12 n12 o13 n13 : Nat} {x0 x1 x2 x3 x4 x5 x6 x7 x8 x9 x10 x11 x12 x13 : Operand} {v0 v1 v2 v3 v4 v5 v6 v7 v8 v9 v10 v11 v12 v13 : Value} {cs : List Value} (h0 : ρ.ev x0 = v0) (h1 : ρ.ev x1 = v1) (h2 : ρ.ev x2 = v2) (h3 : ρ.ev x3 = v3) (h4 : ρ.ev x4 = v4) (h5 : ρ.ev x5 = v5) (h6 : ρ.ev x6 = v6) (h7 : ρ.ev x7 = v7) (h8 : ρ.ev x8 = v8) (h9 : ρ.ev x9 = v9) (h10 : ρ.ev x10 = v10) (h11 : ρ.ev x11 = v11) (h12 : ρ.ev x12 = v12) (h13 : ρ.ev x13 = v13) (hf : fillL z [(o0, n0, v0), (o1, n1, v1), (o2, n2, v2), (o3, n3, v3), (o4, n4, v4), (o5, n5, v5), (o6, n6, v6), (o7, n7, v7), (o8, n8, v8), (o9, n9, v9), (o10, n10, v10), (o11, n11, v11), (o12, n12, v12), (o13, n13, v13)] = some cs)
    (h : ∀ b w', b = w.heap.size → Fr NF w w' → w'.heap.size = w.heap.size + 1 → Blk w'.heap b T cs → opsWp P l Q (upd ρ d (.slice (some ⟨b, 0, none⟩) n n)) w') :
    opsWp P (⟨none, .buildS d T n z [(o0, n0, x0), (o1, n1, x1), (o2, n2, x2), (o3, n3, x3), (o4, n4, x4), (o5, n5, x5), (o6, n6, x6), (o7, n7, x7), (o8, n8, x8), (o9, n9, x9), (o10, n10, x10), (o11, n11, x11), (o12, n12, x12), (o13, n13, x13)]⟩ :: l) Q ρ w := by
  subst h0 h1 h2 h3 h4 h5 h6 h7 h8 h9 h10 h11 h12 h13; exact s_buildS hf h
theorem s_build15 {d : Nat} {z : List Value} {o0 n0 o1 n1 o2 n2 o3 n3 o4 n4 o5 n5 o6 n6 o7 n7 o8 n8 o9 n9 o10 n10 o11 n11 o12 n12 o13 n13 o14 n14 : Nat} {x0 x1 x2 x3 x4 x5 x6 x7 x8 x9 x10 x11 x12 x13 x14 : Operand} {v0 v1 v2 v3 v4 v5 v6 v7 v8 v9 v10 v11 v12 v13 v14 : Value} {cs : List Value} (h0 : ρ.ev x0 = v0) (h1 : ρ.ev x1 = v1) (h2 : ρ.ev x2 = v2) (h3 : ρ.ev x3 = v3) (h4 : ρ.ev x4 = v4) (h5 : ρ.ev x5 = v5) (h6 : ρ.ev x6 = v6) (h7 : ρ.ev x7 = v7) (h8 : ρ.ev x8 = v8) (h9 : ρ.ev x9 = v9) (h10 : ρ.ev x10 = v10) (h11 : ρ.ev x11 = v11) (h12 : ρ.ev x12 = v12) (h13 : ρ.ev x13 = v13) (h14 : ρ.ev x14 = v14) (hf : fillL z [(o0, n0, v0), (o1, n1, v1), (o2, n2, v2), (o3, n3, v3), (o4, n4, v4), (o5, n5, v5), (o6, n6, v6), (o7, n7, v7), (o8, n8, v8), (o9, n9, v9), (o10, n10, v10), (o11, n11, v11), (o12, n12, v12), (o13, n13, v13), (o14, n14, v14)] = some cs) (h : opsWp P l Q (upd ρ d (.agg ⟨cs⟩)) w) :
    opsWp P (⟨none, .build d z [(o0, n0, x0), (o1, n1, x1), (o2, n2, x2), (o3, n3, x3), (o4, n4, x4), (o5, n5, x5), (o6, n6, x6), (o7, n7, x7), (o8, n8, x8), (o9, n9, x9), (o10, n10, x10), (o11, n11, x11), (o12, n12, x12), (o13, n13, x13), (o14, n14, x14)]⟩ :: l) Q ρ w := by
  subst h0 h1 h2 h3 h4 h5 h6 h7 h8 h9 h10 h11 h12 h13 h14; exact s_build hf h
theorem s_buildS15 {d : Nat} {T : TypeId} {n : Nat} {z : List Value} {o0 n0 o1 n1 o2 n2 o3 n3 o4 n4 o5 n5 o6 n6 o7 n7 o8 n8 o9 n9 o10 n10 o11 n11 o12 n12 o13 n13 o14 n14 : Nat} {x0 x1 x2 x3 x4 x5 x6 x7 x8 x9 x10 x11 x12 x13 x14 : Operand} {v0 v1 v2 v3 v4 v5 v6 v7 v8 v9 v10 v11 v12 v13 v14 : Value} {cs : List Value} (h0 : ρ.ev x0 = v0) (h1 : ρ.ev x1 = v1) (h2 : ρ.ev x2 = v2) (h3 : ρ.ev x3 = v3) (h4 : ρ.ev x4 = v4) (h5 : ρ.ev x5 = v5) (h6 : ρ.ev x6 = v6) (h7 : ρ.ev x7 = v7) (h8 : ρ.ev x8 = v8) (h9 : ρ.ev x9 = v9) (h10 : ρ.ev x10 = v10) (h11 : ρ.ev x11 = v11) (h12 : ρ.ev x12 = v12) (h13 : ρ.ev x13 = v13) (h14 : ρ.ev x14 = v14) (hf : fillL z [(o0, n0, v0), (o1, n1, v1), (o2, n2, v2), (o3, n3, v3), (o4, n4, v4), (o5, n5, v5), (o6, n6, v6), (o7, n7, v7), (o8, n8, v8), (o9, n9, v9), (o10, n10, v10), (o11, n11, v11), (o12, n12, v12), (o13, n13, v13), (o14, n14, v14)] = some cs)
    (h : ∀ b w', b = w.heap.size → Fr NF w w' → w'.heap.size = w.heap.size + 1 → Blk w'.heap b T cs → opsWp P l Q (upd ρ d (.slice (some ⟨b, 0, none⟩) n n)) w') :
    opsWp P (⟨none, .buildS d T n z [(o0, n0, x0), (o1, n1, x1), (o2, n2, x2), (o3, n3, x3), (o4, n4, x4), (o5, n5, x5), (o6, n6, x6), (o7, n7, x7), (o8, n8, x8), (o9, n9, x9), (o10, n10, x10), (o11, n11, x11), (o12, n12, x12), (o13, n13, x13), (o14, n14, x14)]⟩ :: l) Q ρ w := by
  subst h0 h1 h2 h3 h4 h5 h6 h7 h8 h9 h10 h11 h12 h13 h14; exact s_buildS hf h
theorem s_build16 {d : Nat} {z : List Value} {o0 n0 o1 n1 o2 n2 o3 n3 o4 n4 o5 n5 o6 n6 o7 n7 o8 n8 o9 n9 o10 n10 o11 n11 o12 n12 o13 n13 o14 n14 o15 n15 : Nat} {x0 x1 x2 x3 x4 x5 x6 x7 x8 x9 x10 x11 x12 x13 x14 x15 : Operand} {v0 v1 v2 v3 v4 v5 v6 v7 v8 v9 v10 v11 v12 v13 v14 v15 : Value} {cs : List Value} (h0 : ρ.ev x0 = v0) (h1 : ρ.ev x1 = v1) (h2 : ρ.ev x2 = v2) (h3 : ρ.ev x3 = v3) (h4 : ρ.ev x4 = v4) (h5 : ρ.ev x5 = v5) (h6 : ρ.ev x6 = v6) (h7 : ρ.ev x7 = v7) (h8 : ρ.ev x8 = v8) (h9 : ρ.ev x9 = v9) (h10 : ρ.ev x10 = v10) (h11 : ρ.ev x11 = v11) (h12 : ρ.ev x12 = v12) (h13 : ρ.ev x13 = v13) (h14 : ρ.ev x14 = v14) (h15 : ρ.ev x15 = v15) (hf : fillL z [(o0, n0, v0), (o1, n1, v1), (o2, n2, v2), (o3, n3, v3), (o4, n4, v4), (o5, n5, v5), (o6, n6, v6), (o7, n7, v7), (o8, n8, v8), (o9, n9, v9), (o10, n10, v10), (o11, n11, v11), (o12, n12, v12), (o13, n13, v13), (o14, n14, v14), (o15, n15, v15)] = some cs) (h : opsWp P l Q (upd ρ d (.agg ⟨cs⟩)) w) :
    opsWp P (⟨none, .build d z [(o0, n0, x0), (o1, n1, x1), (o2, n2, x2), (o3, n3, x3), (o4, n4, x4), (o5, n5, x5), (o6, n6, x6), (o7, n7, x7), (o8, n8, x8), (o9, n9, x9), (o10, n10, x10), (o11, n11, x11), (o12, n12, x12), (o13, n13, x13), (o14, n14, x14), (o15, n15, x15)]⟩ :: l) Q ρ w := by
  subst h0 h1 h2 h3 h4 h5 h6 h7 h8 h9 h10 h11 h12 h13 h14 h15; exact s_build hf h
theorem s_buildS16 {d : Nat} {T : TypeId} {n : Nat} {z : List Value} {o0 n0 o1 n1 o2 n2 o3 n3 o4 n4 o5 n5 o6 n6 o7 n7 o8 n8 o9 n9 o10 n10 o11 n11 o12 n12 o13 n13 o14 n14 o15 n15 : Nat} {x0 x1 x2 x3 x4 x5 x6 x7 x8 x9 x10 x11 x12 x13 x14 x15 : Operand} {v0 v1 v2 v3 v4 v5 v6 v7 v8 v9 v10 v11 v12 v13 v14 v15 : Value} {cs : List Value} (h0 : ρ.ev x0 = v0) (h1 : ρ.ev x1 = v1) (h2 : ρ.ev x2 = v2) (h3 : ρ.ev x3 = v3) (h4 : ρ.ev x4 = v4) (h5 : ρ.ev x5 = v5) (h6 : ρ.ev x6 = v6) (h7 : ρ.ev x7 = v7) (h8 : ρ.ev x8 = v8) (h9 : ρ.ev x9 = v9) (h10 : ρ.ev x10 = v10) (h11 : ρ.ev x11 = v11) (h12 : ρ.ev x12 = v12) (h13 : ρ.ev x13 = v13) (h14 : ρ.ev x14 = v14) (h15 : ρ.ev x15 = v15) (hf : fillL z [(o0, n0, v0), (o1, n1, v1), (o2, n2, v2), (o3, n3, v3), (o4, n4, v4), (o5, n5, v5), (o6, n6, v6), (o7, n7, v7), (o8, n8, v8), (o9, n9, v9), (o10, n10, v10), (o11, n11, v11), (o12, n12, v12), (o13, n13, v13), (o14, n14, v14), (o15, n15, v15)] = some cs)
    (h : ∀ b w', b = w.heap.size → Fr NF w w' → w'.heap.size = w.heap.size + 1 → Blk w'.heap b T cs → opsWp P l Q (upd ρ d (.slice (some ⟨b, 0, none⟩) n n)) w') :
    opsWp P (⟨none, .buildS d T n z [(o0, n0, x0), (o1, n1, x1), (o2, n2, x2), (o3, n3, x3), (o4, n4, x4), (o5, n5, x5), (o6, n6, x6), (o7, n7, x7), (o8, n8, x8), (o9, n9, x9), (o10, n10, x10), (o11, n11, x11), (o12, n12, x12), (o13, n13, x13), (o14, n14, x14), (o15, n15, x15)]⟩ :: l) Q ρ w := by
  subst h0 h1 h2 h3 h4 h5 h6 h7 h8 h9 h10 h11 h12 h13 h14 h15; exact s_buildS hf h
end

/-! ### Data that came in, as cells -/

theorem len1 {α : Type} {l : List α} (h : l.length = 1) : ∃ a, l = [a] := by
  match l, h with
  | [a], _ => exact ⟨a, rfl⟩
theorem len2 {α : Type} {l : List α} (h : l.length = 2) : ∃ a b, l = [a, b] := by
  match l, h with
  | [a, b], _ => exact ⟨a, b, rfl⟩
theorem len3 {α : Type} {l : List α} (h : l.length = 3) : ∃ a b c, l = [a, b, c] := by
  match l, h with
  | [a, b, c], _ => exact ⟨a, b, c, rfl⟩
theorem len4 {α : Type} {l : List α} (h : l.length = 4) : ∃ a b c d, l = [a, b, c, d] := by
  match l, h with
  | [a, b, c, d], _ => exact ⟨a, b, c, d, rfl⟩
theorem len5 {α : Type} {l : List α} (h : l.length = 5) : ∃ a b c d e, l = [a, b, c, d, e] := by
  match l, h with
  | [a, b, c, d, e], _ => exact ⟨a, b, c, d, e, rfl⟩
/-- A slice whose elements' cells are told by a function. -/
theorem css_map {α : Type} {css : List (List Value)} {xs : List α} (f : α → List Value) (hl : css.length = xs.length) (h : ∀ (m : Nat) (x : α), xs[m]? = some x → css[m]? = some (f x)) : css = xs.map f := by
  apply List.ext_getElem?
  intro m
  rcases Nat.lt_or_ge m xs.length with hm | hm
  · rw [List.getElem?_map, List.getElem?_eq_getElem hm]; exact h m _ (List.getElem?_eq_getElem hm)
  · rw [List.getElem?_map, List.getElem?_eq_none hm, List.getElem?_eq_none (by omega)]; rfl
theorem ints_rd {H : Heap} {v : Value} {ys : List Int} (h : ∃ v' css, [v] = [v'] ∧ SlR H 1 v' (fun _ => True) css ∧ css.length = ys.length ∧ ys.length ≤ maxLen ∧ ∀ (m : Nat) (x : Int), ys[m]? = some x → ∃ d, css[m]? = some d ∧ (d = [.int .i64 x] ∧ (Lit.int .i64 x).wf = true)) :
    SlR H 1 v (fun _ => True) (ys.map icell) ∧ ys.length ≤ 9223372036854775807 ∧ ∀ (m : Nat) (y : Int), ys[m]? = some y → (Lit.int .i64 y).wf = true := by
  obtain ⟨v', css, hv, hsl, hl, hm, hel⟩ := h
  simp only [List.cons.injEq, and_true] at hv
  subst hv
  have : css = ys.map icell := css_map icell hl fun m x hx => by
    obtain ⟨d, hd, rfl, _⟩ := hel m x hx; exact hd
  subst this
  exact ⟨hsl, by unfold maxLen at hm; omega, fun m y hy => by obtain ⟨d, _, _, hw⟩ := hel m y hy; exact hw⟩
end Go.Lir
