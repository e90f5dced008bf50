/- Lemmas of the proof, part 2: what the functions of the program do (contracts), and what follows. -/
import Derived.Test.YtanlkfeogoganaaGreatZ1
import Derived.Test.YtanlkfeogoganaaGreatProg
import Derived.Laws.IdiomStrings
import Derived.Recover
namespace Go.Lir
inductive Ty where
  | mk : Int → Int → List Ty → Ty
def Ty.kind : Ty → Int | .mk k _ _ => k
def Ty.r : Ty → Int | .mk _ r _ => r
def Ty.l : Ty → List Ty | .mk _ _ l => l
/-- cs is the type t, read to the depth n; what is read lies in F. -/
def tyRd (H : Heap) (F : Nat → Prop) : Nat → List Value → Ty → Prop
  | 0, _, _ => False
  | n + 1, cs, t => ∃ v css, cs = [.int .i64 t.kind, .int .i64 t.r, v] ∧ SlR H 3 v F css ∧ css.length = t.l.length ∧ t.l.length ≤ 140737488355328 ∧ ∀ (m : Nat) (x : Ty), t.l[m]? = some x → ∃ d, css[m]? = some d ∧ tyRd H F n d x
theorem tyRd.len {H : Heap} {F : Nat → Prop} : ∀ {n : Nat} {cs : List Value} {t : Ty}, tyRd H F n cs t → cs.length = 3
  | 0, _, _, h => h.elim
  | _ + 1, _, _, h => by obtain ⟨_, _, rfl, _⟩ := h; rfl
theorem tyRd.more {H : Heap} {F : Nat → Prop} : ∀ {n m : Nat} {cs : List Value} {t : Ty}, n ≤ m → tyRd H F n cs t → tyRd H F m cs t
  | 0, _, _, _, _, h => h.elim
  | n + 1, 0, _, _, hm, _ => by omega
  | n + 1, m + 1, _, _, hm, h => by
    obtain ⟨v, css, h1, h2, h3, h4, h5⟩ := h
    exact ⟨v, css, h1, h2, h3, h4, fun i x hx => by obtain ⟨d, h6, h7⟩ := h5 i x hx; exact ⟨d, h6, h7.more (by omega)⟩⟩
theorem tyRd.turn {H H' : Heap} {F G : Nat → Prop} (hs : ∀ v css, SlR H 3 v F css → SlR H' 3 v G css) : ∀ {n : Nat} {cs : List Value} {t : Ty}, tyRd H F n cs t → tyRd H' G n cs t
  | 0, _, _, h => h.elim
  | n + 1, _, _, h => by
    obtain ⟨v, css, h1, h2, h3, h4, h5⟩ := h
    exact ⟨v, css, h1, hs _ _ h2, h3, h4, fun i x hx => by obtain ⟨d, h6, h7⟩ := h5 i x hx; exact ⟨d, h6, h7.turn hs⟩⟩
/-- What is only read: a type. -/
def TyK (c : Cx) (cs : List Value) (t : Ty) : Prop := ∃ n, tyRd c.H0 c.K n cs t
theorem TyK.up {c c' : Cx} {cs : List Value} {t : Ty} (h : TyK c cs t) (hle : c.Le c') : TyK c' cs t := by
  obtain ⟨n, h⟩ := h; exact ⟨n, h.turn fun v css hs => FzS.up hs hle⟩
theorem QrN {α : Type} {xs : List α} {R : Nat → α → Prop} (hm : ∀ n m x, n ≤ m → R n x → R m x) (h : ∀ x ∈ xs, ∃ n, R n x) : ∃ n, ∀ x ∈ xs, R n x := by
  induction xs with
  | nil => exact ⟨0, by simp⟩
  | cons x xs ih =>
    obtain ⟨n, hn⟩ := ih fun y hy => h y (List.mem_cons_of_mem _ hy)
    obtain ⟨m, hx⟩ := h x (List.mem_cons_self ..)
    refine ⟨max n m, fun y hy => ?_⟩
    rcases List.mem_cons.1 hy with rfl | hy
    · exact hm _ _ _ (Nat.le_max_right ..) hx
    · exact hm _ _ _ (Nat.le_max_left ..) (hn y hy)
theorem TyK.mk {c : Cx} {k r : Int} {v : Value} {css : List (List Value)} {l : List Ty} (hs : FzS c 3 v css) (hl : css.length = l.length) (hm : l.length ≤ 140737488355328) (h : ∀ (m : Nat) (x : Ty), l[m]? = some x → ∃ d, css[m]? = some d ∧ TyK c d x) : TyK c [.int .i64 k, .int .i64 r, v] (.mk k r l) := by
  obtain ⟨n, hn⟩ := QrN (xs := List.range l.length) (R := fun n m => ∀ x, l[m]? = some x → ∃ d, css[m]? = some d ∧ tyRd c.H0 c.K n d x) (fun n m i hnm hr x hx => by obtain ⟨d, h1, h2⟩ := hr x hx; exact ⟨d, h1, h2.more hnm⟩) (fun m hm => by
    have hlt := List.mem_range.1 hm
    obtain ⟨d, h1, n, h2⟩ := h m _ (List.getElem?_eq_getElem hlt)
    exact ⟨n, fun x hx => by rw [List.getElem?_eq_getElem hlt] at hx; cases hx; exact ⟨d, h1, h2⟩⟩)
  exact ⟨n + 1, v, css, rfl, hs, hl, hm, fun m x hx => hn m (List.mem_range.2 (List.getElem?_eq_some_iff.1 hx).1) x hx⟩
theorem TyK.out {c : Cx} {cs : List Value} {t : Ty} (h : TyK c cs t) : ∃ v css, cs = [.int .i64 t.kind, .int .i64 t.r, v] ∧ FzS c 3 v css ∧ css.length = t.l.length ∧ t.l.length ≤ 140737488355328 ∧ ∀ (m : Nat) (x : Ty), t.l[m]? = some x → ∃ d, css[m]? = some d ∧ TyK c d x := by
  obtain ⟨n, h⟩ := h
  cases n with
  | zero => exact h.elim
  | succ n =>
    obtain ⟨v, css, h1, h2, h3, h4, h5⟩ := h
    exact ⟨v, css, h1, h2, h3, h4, fun m x hx => by obtain ⟨d, h6, h7⟩ := h5 m x hx; exact ⟨d, h6, n, h7⟩⟩

/-! ### data that came in -/
/-- A slice opened: each of its parts is read by what reads the parts of a smaller datum. -/
theorem QtA {P : Program} {T e : TypeId} {α : Type} {Hd : Type} {enc : TypeId × Value → Hd} {w : World} {fuel es : Nat} {cs : List Value} {y : DataW Hd × List MemPlace} {rd : List Value → α → Prop} (hsz : P.cellsOf e = es) (hes : 0 < es) (hlen : ∀ d x, rd d x → d.length = es)
    (ht : P.underlying T = some (.slice e)) (h : DataW.trod enc P w 0 (fun _ => true) true fuel T cs = some y) (hby : 0 < P.bytesOf e) (hfit : Fits P T y.1)
    (hel : ∀ (n : Nat) (d : List Value) (z : DataW Hd × List MemPlace), DataW.trod enc P w 0 (fun _ => true) true n e d = some z → Fits P e z.1 → SizeOf.sizeOf z.1 < SizeOf.sizeOf y.1 → ∃ x, rd d x) :
    ∃ (xs : List α) (v : Value) (css : List (List Value)), cs = [v] ∧ SlR w.heap es v (fun _ => True) css ∧ css.length = xs.length ∧ xs.length ≤ 140737488355328 ∧ ∀ (m : Nat) (x : α), xs[m]? = some x → ∃ d, css[m]? = some d ∧ rd d x := by
  rcases Go.Deep.open_slice ht h with ⟨rfl, _⟩ | ⟨a, len, cap, m, n, D, Pl, rfl, _, hl, hm, hmm, hy, hi⟩
  · exact ⟨[], .slice none 0 0, [], rfl, ⟨by simp, none, 0, rfl, Nat.le_refl _, .inl rfl⟩, rfl, by simp, by simp⟩
  · have hmc : m = cap := by simpa using hmm
    subst hmc
    have hfit' := hfit
    rw [hy] at hfit'
    obtain ⟨hlen0, hel0⟩ := Qmm ht hfit' hby
    simp only [List.length_map, List.length_range] at hlen0
    have hel2 : ∀ i, i < len → ∃ (d : List Value) (x : α), w.cells? 0 (a.add (i * es)) es = some d ∧ rd d x := by
      intro i hi'
      obtain ⟨d, h1, h2⟩ := hi i (by omega)
      rw [hsz] at h1
      obtain ⟨x, hx⟩ := hel n d _ h2 (hel0 _ (List.mem_map.2 ⟨i, List.mem_range.2 hi', rfl⟩)) (by
        rw [hy]
        have hmem : D i ∈ (List.range len).map D := List.mem_map.2 ⟨i, List.mem_range.2 hi', rfl⟩
        have := List.sizeOf_lt_of_mem hmem
        simp only [DataW.slice.sizeOf_spec]
        omega)
      exact ⟨d, x, h1, hx⟩
    have build : ∀ n, n ≤ len → ∃ (css : List (List Value)) (xs : List α), css.length = n ∧ xs.length = n ∧
        ∀ m, m < n → ∃ d x, css[m]? = some d ∧ xs[m]? = some x ∧ w.cells? 0 (a.add (m * es)) es = some d ∧ rd d x := by
      intro n
      induction n with
      | zero => intro _; exact ⟨[], [], rfl, rfl, fun m hm => absurd hm (by omega)⟩
      | succ n ih =>
        intro hn
        obtain ⟨css, xs, h1, h2, h3⟩ := ih (by omega)
        obtain ⟨d, x, h4, h5⟩ := hel2 n (by omega)
        refine ⟨css ++ [d], xs ++ [x], by simp [h1], by simp [h2], fun m hm => ?_⟩
        by_cases hmn : m = n
        · subst hmn
          exact ⟨d, x, by rw [List.getElem?_append_right (by omega), h1]; simp, by rw [List.getElem?_append_right (by omega), h2]; simp, h4, h5⟩
        · obtain ⟨d', x', g1, g2, g3, g4⟩ := h3 m (by omega)
          exact ⟨d', x', by rw [List.getElem?_append_left (by omega)]; exact g1, by rw [List.getElem?_append_left (by omega)]; exact g2, g3, g4⟩
    obtain ⟨css, xs, h1, h2, h3⟩ := build len (Nat.le_refl _)
    refine ⟨xs, .slice (some a) len m, css, rfl, ⟨?_, some a, m, by rw [h1], by omega, ?_⟩, by omega, by omega, ?_⟩
    · intro d hd
      obtain ⟨i, hi'⟩ := List.mem_iff_getElem?.1 hd
      have hlt := (List.getElem?_eq_some_iff.1 hi').1
      obtain ⟨d', x', g1, g2, g3, g4⟩ := h3 i (by omega)
      rw [hi'] at g1
      simp only [Option.some.injEq] at g1
      subst g1
      exact hlen _ _ g4
    · rcases Nat.eq_zero_or_pos len with h0 | h0
      · exact .inl (List.eq_nil_of_length_eq_zero (by omega))
      · obtain ⟨d0, x0, _, _, g3, _⟩ := h3 0 h0
        obtain ⟨hsp, hbl, _⟩ := Qgi g3 hes
        have ha0 : a.add (0 * es) = a := by rw [Nat.zero_mul]; rfl
        rw [ha0] at hsp hbl
        obtain ⟨b, o, s⟩ := a
        simp only at hsp
        subst hsp
        refine .inr ⟨b, o, rfl, trivial, hbl, fun i d hd => ?_⟩
        have hlt := (List.getElem?_eq_some_iff.1 hd).1
        obtain ⟨d', x', g1, g2, g3, g4⟩ := h3 i (by omega)
        rw [hd] at g1
        simp only [Option.some.injEq] at g1
        subst g1
        rw [Q26] at g3
        exact (Qgi g3 hes).2.2
    · intro i x hx
      have hlt := (List.getElem?_eq_some_iff.1 hx).1
      obtain ⟨d', x', g1, g2, g3, g4⟩ := h3 i (by omega)
      rw [hx] at g2
      simp only [Option.some.injEq] at g2
      subst g2
      exact ⟨d', g1, g4⟩
/-- A struct's part is a smaller datum. -/
theorem Q5C {Hd : Type} {enc : TypeId × Value → Hd} {P : Program} {w : World} {T : TypeId} {fuel : Nat} {cs : List Value} {y : DataW Hd × List MemPlace} (h : DataW.trod enc P w 0 (fun _ => true) true fuel T cs = some y)
    {i o s : Nat} {t : TypeId} (hf : fieldAt P T i = some (o, s, t)) (hfit : Fits P T y.1) : cs.length = P.cellsOf T ∧ ∃ n z, DataW.trod enc P w 0 (fun _ => true) true n t ((cs.drop o).take s) = some z ∧ Fits P t z.1 ∧ SizeOf.sizeOf z.1 < SizeOf.sizeOf y.1 := by
  unfold fieldAt at hf
  split at hf
  · rename_i fs hu
    simp only [Option.map_eq_some_iff, Prod.mk.injEq] at hf
    obtain ⟨f, hf, rfl, rfl, rfl⟩ := hf
    obtain ⟨xs, n, _, hy, hl, hx, hall⟩ := DataW.trod_struct hu h
    have := hall i f hf
    have hlt := (Array.getElem?_eq_some_iff.1 hf).1
    refine ⟨hl, n, xs[i]'(by omega), ?_, ?_, ?_⟩
    · rw [this, List.getElem?_eq_getElem (by omega)]
    · rw [hy] at hfit
      exact Qhr hu hfit hf (by rw [List.getElem?_map, List.getElem?_eq_getElem (by omega)]; rfl)
    · rw [hy]
      have hmem : (xs[i]'(by omega)).1 ∈ xs.map (·.1) := List.mem_map.2 ⟨_, List.getElem_mem _, rfl⟩
      have := List.sizeOf_lt_of_mem hmem
      simp only [DataW.agg.sizeOf_spec]
      omega
  · cases hf
/-- Every number in it is an int. -/
inductive Ty.InR : Ty → Prop where
  | mk {k r : Int} {l : List Ty} : (Lit.int .i64 k).wf = true → (Lit.int .i64 r).wf = true → (∀ x ∈ l, x.InR) → Ty.InR (.mk k r l)
theorem wf_rng {n : Int} (h : (Lit.int .i64 n).wf = true) : -9223372036854775808 ≤ n ∧ n ≤ 9223372036854775807 := by
  simp [Lit.wf, IntKind.min, IntKind.max, IntKind.bits, IntKind.signed] at h; omega
theorem Ty.InR.parts {k r : Int} {l : List Ty} (h : (Ty.mk k r l).InR) : (-9223372036854775808 ≤ k ∧ k ≤ 9223372036854775807) ∧ (-9223372036854775808 ≤ r ∧ r ≤ 9223372036854775807) ∧ ∀ x ∈ l, x.InR := by
  cases h with | mk h1 h2 h3 => exact ⟨wf_rng h1, wf_rng h2, h3⟩
theorem Qud {P : Program} {T TL t0 t1 : TypeId} (h0 : fieldAt P T 0 = some (0, 1, t0)) (h1 : fieldAt P T 1 = some (1, 1, t1)) (h2 : fieldAt P T 2 = some (2, 1, TL)) (hi0 : P.underlying t0 = some (.int .i64)) (hi1 : P.underlying t1 = some (.int .i64)) (hT : P.cellsOf T = 3) (hTL : P.underlying TL = some (.slice T)) (hby : 0 < P.bytesOf T)
    {Hd : Type} {enc : TypeId × Value → Hd} {w : World} : ∀ (N fuel : Nat) (cs : List Value) (y : DataW Hd × List MemPlace), DataW.trod enc P w 0 (fun _ => true) true fuel T cs = some y → Fits P T y.1 → SizeOf.sizeOf y.1 < N → ∃ t n, tyRd w.heap (fun _ => True) n cs t ∧ t.InR
  | 0, _, _, _, _, _, hN => by omega
  | N + 1, fuel, cs, y, h, hfit, hN => by
    obtain ⟨hl, n0, z0, g0, _⟩ := Q5C h h0 hfit
    obtain ⟨_, n1, z1, g1, _⟩ := Q5C h h1 hfit
    obtain ⟨_, n2, z2, g2, u2, hz⟩ := Q5C h h2 hfit
    rw [hT] at hl
    obtain ⟨a, b, v, hc⟩ : ∃ a b v, cs = [a, b, v] := by
      match cs, hl with
      | [a, b, v], _ => exact ⟨a, b, v, rfl⟩
    subst hc
    obtain ⟨k, hk, _, wk⟩ := DataW.trod_int hi0 g0
    obtain ⟨r, hr, _, wr⟩ := DataW.trod_int hi1 g1
    have hk2 : [a] = [Value.int .i64 k] := hk
    have hr2 : [b] = [Value.int .i64 r] := hr
    clear hk hr
    simp only [List.cons.injEq, and_true] at hk2 hr2
    have g3 : DataW.trod enc P w 0 (fun _ => true) true n2 TL [v] = some z2 := g2
    clear g2
    obtain ⟨xs, v', css, hv, s1, s2, s3, s4⟩ := QtA (rd := fun d (x : Nat × Ty) => tyRd w.heap (fun _ => True) x.1 d x.2 ∧ x.2.InR) hT (by decide) (fun d x hx => hx.1.len) hTL g3 hby u2 (fun n d z hz1 hz3 hz2 => by
      obtain ⟨t, n, ht, hr⟩ := Qud h0 h1 h2 hi0 hi1 hT hTL hby N _ d z hz1 hz3 (by omega)
      exact ⟨(n, t), ht, hr⟩)
    simp only [List.cons.injEq, and_true] at hv
    subst hv hk2 hr2
    obtain ⟨n, hn⟩ := QrN (xs := xs) (R := fun n x => x.1 ≤ n) (fun n m x h1 h2 => Nat.le_trans h2 h1) (fun x _ => ⟨x.1, Nat.le_refl _⟩)
    refine ⟨.mk k r (xs.map (·.2)), n + 1, ⟨v, css, rfl, s1, by simp [Ty.l, s2], by simpa [Ty.l] using s3, fun m x hx => ?_⟩, .mk wk wr fun x hx => ?_⟩
    rotate_left
    · obtain ⟨p, hp, rfl⟩ := List.mem_map.1 hx
      obtain ⟨m, hm⟩ := List.mem_iff_getElem?.1 hp
      obtain ⟨d, d1, d2⟩ := s4 m p hm
      exact d2.2
    simp only [Ty.l, List.getElem?_map, Option.map_eq_some_iff] at hx
    obtain ⟨p, hp, rfl⟩ := hx
    obtain ⟨d, d1, d2⟩ := s4 m p hp
    exact ⟨d, d1, d2.1.more (hn p (List.mem_of_getElem? hp))⟩
def Cod.ty {P : Program} {T TL t0 t1 : TypeId} (h0 : fieldAt P T 0 = some (0, 1, t0)) (h1 : fieldAt P T 1 = some (1, 1, t1)) (h2 : fieldAt P T 2 = some (2, 1, TL)) (hi0 : P.underlying t0 = some (.int .i64)) (hi1 : P.underlying t1 = some (.int .i64)) (hT : P.cellsOf T = 3) (hTL : P.underlying TL = some (.slice T)) (hby : decide (0 < P.bytesOf T) = true) : Cod P T Ty where
  es := 3
  rd := fun H cs t => ∃ n, tyRd H (fun b => b < H.size) n cs t
  size := hT
  len := by rintro _ _ _ ⟨n, h⟩; exact h.len
  stay := by
    rintro H H' cs t ⟨n, h⟩ hH
    exact ⟨n, h.turn fun v css hs => SlR.mono (hs.of_same fun b hb _ => hH b hb) fun b hb _ => hb⟩
  open_ := fun enc w fuel cs y h hfit => by
    obtain ⟨t, n, ht, _⟩ := Qud h0 h1 h2 hi0 hi1 hT hTL (of_decide_eq_true hby) (SizeOf.sizeOf y.1 + 1) fuel cs y h hfit (by omega)
    exact ⟨t, n, ht.turn fun v css hs => SlR.mono hs fun b hb _ => hb⟩
theorem TyK.top {w : World} {cs : List Value} {t : Ty} (h : ∃ n, tyRd w.heap (fun b => b < w.heap.size) n cs t) : TyK (Cx.top w) cs t := h
end Go.Lir
namespace Go.Lir
/-- What is read of some of a struct's fields. -/
structure Fld (P : Program) (T : TypeId) (α : Type) where
  rd : Heap → List Value → α → Prop
  stay : ∀ (H H' : Heap) cs x, rd H cs x → (∀ b, b < H.size → H'[b]? = H[b]?) → rd H' cs x
  open_ : ∀ {Hd : Type} (enc : TypeId × Value → Hd) (w : World) (fuel : Nat) (cs : List Value) (y : DataW Hd × List MemPlace), DataW.trod enc P w 0 (fun _ => true) true fuel T cs = some y → Fits P T y.1 → ∃ x, rd w.heap cs x
def Fld.none {P : Program} {T : TypeId} : Fld P T Unit := ⟨fun _ _ _ => True, fun _ _ _ _ h _ => h, fun _ _ _ _ _ _ _ => ⟨(), trivial⟩⟩
def Fld.more {P : Program} {T t : TypeId} {α β : Type} {i o s : Nat} (c : Cod P t α) (h : fieldAt P T i = some (o, s, t)) (f : Fld P T β) : Fld P T (α × β) where
  rd := fun H cs x => c.rd H ((cs.drop o).take s) x.1 ∧ f.rd H cs x.2
  stay := fun H H' cs x h hH => ⟨c.stay _ _ _ _ h.1 hH, f.stay _ _ _ _ h.2 hH⟩
  open_ := fun enc w fuel cs y hy hfit => by
    obtain ⟨_, n, z, g, u⟩ := QgP hy h hfit
    obtain ⟨a, ha⟩ := c.open_ enc w _ _ _ g u
    obtain ⟨b, hb⟩ := f.open_ enc w _ _ _ hy hfit
    exact ⟨(a, b), ha, hb⟩
/-- The struct. The first field's place is asked so that its number of cells is known. -/
def Fld.cod {P : Program} {T t : TypeId} {α : Type} {o s : Nat} (f : Fld P T α) (h0 : fieldAt P T 0 = some (o, s, t)) (n : Nat) (hn : P.cellsOf T = n) : Cod P T α where
  es := n
  rd := fun H cs x => cs.length = n ∧ f.rd H cs x
  size := hn
  len := fun _ _ _ h => h.1
  stay := fun H H' cs x h hH => ⟨h.1, f.stay _ _ _ _ h.2 hH⟩
  open_ := fun enc w fuel cs y hy hfit => by
    obtain ⟨hl, _⟩ := QgP hy h0 hfit
    obtain ⟨a, ha⟩ := f.open_ enc w _ _ _ hy hfit
    exact ⟨a, by rw [hl, hn], ha⟩
end Go.Lir
namespace Go.Lir

theorem SlR.turn {H H' : Heap} {es : Nat} {v : Value} {F G : Nat → Prop} {css : List (List Value)} (h : SlR H es v F css) (hs : ∀ b, F b → b < H.size → G b ∧ H'[b]? = H[b]?) : SlR H' es v G css := by
  obtain ⟨h0, a, cap, hv, hlc, hc | ⟨b, off, ha, hF, hb, hat⟩⟩ := h
  · exact ⟨h0, a, cap, hv, hlc, .inl hc⟩
  · obtain ⟨h1, h2⟩ := hs b hF hb
    refine ⟨h0, a, cap, hv, hlc, .inr ⟨b, off, ha, h1, ?_, fun m c hm => (hat m c hm).of_same h2⟩⟩
    rcases Nat.lt_or_ge b H'.size with h | h
    · exact h
    · rw [Array.getElem?_eq_none h, Array.getElem?_eq_getElem hb] at h2; cases h2

/-- A kind of data: what cells (that lie in K, and what they lead to) say. -/
structure Rep (α : Type) where
  es : Nat
  pos : 0 < es
  R : Heap → (Nat → Prop) → List Value → α → Prop
  len : ∀ {H : Heap} {K : Nat → Prop} {cs : List Value} {x : α}, R H K cs x → cs.length = es
  one : ∀ {H : Heap} {K : Nat → Prop} {cs : List Value} {x : α}, R H K cs x → ∀ u ∈ cs, oneC u = true
  turn : ∀ {H H' : Heap} {K K' : Nat → Prop} {cs : List Value} {x : α}, R H K cs x → (∀ b, K b → b < H.size → K' b ∧ H'[b]? = H[b]?) → R H' K' cs x

section
variable {α β : Type}
/-- Rows of cells that are the parts of a list. -/
def Rep.LR (r : Rep α) (H : Heap) (K : Nat → Prop) (css : List (List Value)) (l : List α) : Prop := css.length = l.length ∧ ∀ (m : Nat) (x : α), l[m]? = some x → ∃ d, css[m]? = some d ∧ r.R H K d x
/-- A slice that reads as the list. -/
def Rep.SR (r : Rep α) (H : Heap) (K : Nat → Prop) (v : Value) (l : List α) : Prop := ∃ css, SlR H r.es v K css ∧ r.LR H K css l ∧ l.length ≤ 140737488355328
theorem Rep.LR.turn {r : Rep α} {H H' : Heap} {K K' : Nat → Prop} {css : List (List Value)} {l : List α} (h : r.LR H K css l) (hs : ∀ b, K b → b < H.size → K' b ∧ H'[b]? = H[b]?) : r.LR H' K' css l :=
  ⟨h.1, fun m x hx => by obtain ⟨d, h1, h2⟩ := h.2 m x hx; exact ⟨d, h1, r.turn h2 hs⟩⟩
theorem Rep.SR.turn {r : Rep α} {H H' : Heap} {K K' : Nat → Prop} {v : Value} {l : List α} (h : r.SR H K v l) (hs : ∀ b, K b → b < H.size → K' b ∧ H'[b]? = H[b]?) : r.SR H' K' v l := by
  obtain ⟨css, h1, h2, h3⟩ := h
  exact ⟨css, h1.turn hs, h2.turn hs, h3⟩
theorem Rep.LR.nil (r : Rep α) (H : Heap) (K : Nat → Prop) : r.LR H K [] [] := ⟨rfl, by simp⟩
theorem Rep.LR.push {r : Rep α} {H : Heap} {K : Nat → Prop} {css : List (List Value)} {l : List α} {d : List Value} {x : α} (h : r.LR H K css l) (hd : r.R H K d x) : r.LR H K (css ++ [d]) (l ++ [x]) := by
  refine ⟨by simp [h.1], fun m y hy => ?_⟩
  rcases Nat.lt_or_ge m l.length with hm | hm
  · rw [List.getElem?_append_left hm] at hy
    rw [List.getElem?_append_left (by rw [h.1]; exact hm)]
    exact h.2 m y hy
  · rw [List.getElem?_append_right hm] at hy
    rw [List.getElem?_append_right (by rw [h.1]; exact hm), h.1]
    obtain ⟨i, hi⟩ : ∃ i, m - l.length = i := ⟨_, rfl⟩
    rw [hi] at hy ⊢
    cases i with
    | zero => simp only [List.getElem?_cons_zero, Option.some.injEq] at hy; subst hy; exact ⟨d, rfl, hd⟩
    | succ i => simp at hy
theorem Rep.LR.append {r : Rep α} {H : Heap} {K : Nat → Prop} {css css2 : List (List Value)} {l l2 : List α} (h : r.LR H K css l) (h2 : r.LR H K css2 l2) : r.LR H K (css ++ css2) (l ++ l2) := by
  refine ⟨by simp [h.1, h2.1], fun m y hy => ?_⟩
  rcases Nat.lt_or_ge m l.length with hm | hm
  · rw [List.getElem?_append_left hm] at hy
    rw [List.getElem?_append_left (by rw [h.1]; exact hm)]
    exact h.2 m y hy
  · rw [List.getElem?_append_right hm] at hy
    rw [List.getElem?_append_right (by rw [h.1]; exact hm), h.1]
    exact h2.2 _ y hy
theorem Rep.LR.set {r : Rep α} {H : Heap} {K : Nat → Prop} {css : List (List Value)} {l : List α} {d : List Value} {x : α} {i : Nat} (h : r.LR H K css l) (hd : r.R H K d x) : r.LR H K (css.set i d) (l.set i x) := by
  refine ⟨by simp [h.1], fun m y hy => ?_⟩
  rw [List.getElem?_set] at hy ⊢
  by_cases he : i = m
  · rw [if_pos he] at hy ⊢
    rw [h.1]
    split at hy
    · rename_i hm; rw [if_pos hm]; cases hy; exact ⟨d, rfl, hd⟩
    · cases hy
  · rw [if_neg he] at hy ⊢
    exact h.2 m y hy
theorem Rep.LR.sub {r : Rep α} {H : Heap} {K : Nat → Prop} {css : List (List Value)} {l : List α} (h : r.LR H K css l) (i j : Nat) : r.LR H K ((css.take j).drop i) ((l.take j).drop i) := by
  refine ⟨by simp [h.1], fun m y hy => ?_⟩
  rw [List.getElem?_drop] at hy ⊢
  have hlt := (List.getElem?_eq_some_iff.1 hy).1
  rw [List.length_take] at hlt
  rw [List.getElem?_take_of_lt (by omega)] at hy ⊢
  exact h.2 _ y hy
theorem Rep.LR.one {r : Rep α} {H : Heap} {K : Nat → Prop} {css : List (List Value)} {l : List α} (h : r.LR H K css l) : ∀ c ∈ css, ∀ u ∈ c, oneC u = true := by
  intro c hc
  obtain ⟨m, hm⟩ := List.mem_iff_getElem?.1 hc
  have hlt := (List.getElem?_eq_some_iff.1 hm).1
  obtain ⟨d, h1, h2⟩ := h.2 m _ (List.getElem?_eq_getElem (by rw [← h.1]; exact hlt))
  rw [hm] at h1; cases h1
  exact r.one h2
theorem Rep.SR.oneC {r : Rep α} {H : Heap} {K : Nat → Prop} {v : Value} {l : List α} (h : r.SR H K v l) : Go.Lir.oneC v = true := by
  obtain ⟨css, h1, _⟩ := h; exact SlR.oneC h1
theorem Rep.SR.nil (r : Rep α) (H : Heap) (K : Nat → Prop) : r.SR H K (.slice none 0 0) [] := ⟨[], ⟨by simp, none, 0, rfl, Nat.le_refl _, .inl rfl⟩, .nil r H K, by simp⟩
theorem Rep.SR.len {r : Rep α} {H : Heap} {K : Nat → Prop} {v : Value} {l : List α} (h : r.SR H K v l) : l.length ≤ 140737488355328 := by obtain ⟨_, _, _, h⟩ := h; exact h
theorem Rep.SR.shape {r : Rep α} {H : Heap} {K : Nat → Prop} {v : Value} {l : List α} (h : r.SR H K v l) : ∃ a c, v = .slice a l.length c := by
  obtain ⟨css, h1, h2, _⟩ := h
  obtain ⟨a, c, hv⟩ := SlR.shape h1
  exact ⟨a, c, by rw [← h2.1]; exact hv⟩

theorem Rep.SR.nil_of {r : Rep α} {H : Heap} {K : Nat → Prop} {v : Value} {l : List α} {n c : Nat} (h : r.SR H K v l) (hv : v = .slice none n c) : l = [] := by
  obtain ⟨css, ⟨_, a, cap, hv2, _, hc | ⟨b, off, ha, _⟩⟩, h2, _⟩ := h
  · exact List.eq_nil_of_length_eq_zero (by rw [← h2.1, hc]; rfl)
  · rw [hv, ha] at hv2; simp at hv2
def Rep.lit (f : α → Value) (hf : ∀ x, oneC (f x) = true) : Rep α where
  es := 1
  pos := by decide
  R := fun _ _ cs x => cs = [f x]
  len := by rintro _ _ _ _ rfl; rfl
  one := by rintro _ _ _ x rfl u hu; simp at hu; subst hu; exact hf x
  turn := fun h _ => h
def intR : Rep Int := Rep.lit (fun n => .int .i64 n) (fun _ => rfl)
def Rep.list (r : Rep α) : Rep (List α) where
  es := 1
  pos := by decide
  R := fun H K cs l => ∃ v, cs = [v] ∧ r.SR H K v l
  len := by rintro _ _ _ _ ⟨v, rfl, _⟩; rfl
  one := by rintro _ _ _ _ ⟨v, rfl, h⟩ u hu; simp at hu; subst hu; exact h.oneC
  turn := by rintro _ _ _ _ _ _ ⟨v, rfl, h⟩ hs; exact ⟨v, rfl, h.turn hs⟩
def Rep.and (r : Rep α) (p : α → Prop) : Rep α where
  es := r.es
  pos := r.pos
  R := fun H K cs x => r.R H K cs x ∧ p x
  len := fun h => r.len h.1
  one := fun h => r.one h.1
  turn := fun h hs => ⟨r.turn h.1 hs, h.2⟩
def tyR : Rep Ty where
  es := 3
  pos := by decide
  R := fun H K cs t => ∃ n, tyRd H K n cs t
  len := by rintro _ _ _ _ ⟨n, h⟩; exact h.len
  one := by
    rintro _ _ _ _ ⟨n, h⟩
    cases n with
    | zero => exact h.elim
    | succ n =>
      obtain ⟨v, css, rfl, h2, _⟩ := h
      intro u hu; simp at hu
      rcases hu with rfl | rfl | rfl
      · rfl
      · rfl
      · exact SlR.oneC h2
  turn := by rintro _ _ _ _ _ _ ⟨n, h⟩ hs; exact ⟨n, h.turn fun v css hv => hv.turn hs⟩
theorem Qf {H : Heap} {K : Nat → Prop} {cs : List Value} {t : Ty} (h : tyR.R H K cs t) : ∃ v, cs = [.int .i64 t.kind, .int .i64 t.r, v] ∧ tyR.SR H K v t.l := by
  obtain ⟨n, h⟩ := h
  cases n with
  | zero => exact h.elim
  | succ n =>
    obtain ⟨v, css, h1, h2, h3, h4, h5⟩ := h
    exact ⟨v, h1, css, h2, ⟨h3, fun m x hx => by obtain ⟨d, h6, h7⟩ := h5 m x hx; exact ⟨d, h6, n, h7⟩⟩, h4⟩
theorem Q1N {H : Heap} {K : Nat → Prop} {k r : Int} {v : Value} {l : List Ty} (h : tyR.SR H K v l) : tyR.R H K [.int .i64 k, .int .i64 r, v] (.mk k r l) := by
  obtain ⟨css, h1, h2, h3⟩ := h
  obtain ⟨n, hn⟩ := QrN (xs := List.range l.length) (R := fun n m => ∀ x, l[m]? = some x → ∃ d, css[m]? = some d ∧ tyRd H K n d x) (fun n m i hnm hr x hx => by obtain ⟨d, h1, h2⟩ := hr x hx; exact ⟨d, h1, h2.more hnm⟩) (fun m hm => by
    have hlt := List.mem_range.1 hm
    obtain ⟨d, h4, n, h5⟩ := h2.2 m _ (List.getElem?_eq_getElem hlt)
    exact ⟨n, fun x hx => by rw [List.getElem?_eq_getElem hlt] at hx; cases hx; exact ⟨d, h4, h5⟩⟩)
  exact ⟨n + 1, v, css, rfl, h1, h2.1, h3, fun m x hx => hn m (List.mem_range.2 (List.getElem?_eq_some_iff.1 hx).1) x hx⟩

/-! what is only read -/
abbrev Rep.at (r : Rep α) (c : Cx) (cs : List Value) (x : α) : Prop := r.R c.H0 c.K cs x
abbrev Rep.sl (r : Rep α) (c : Cx) (v : Value) (l : List α) : Prop := r.SR c.H0 c.K v l
abbrev Rep.ls (r : Rep α) (c : Cx) (css : List (List Value)) (l : List α) : Prop := r.LR c.H0 c.K css l
theorem Cx.Le.turn {c c' : Cx} (h : c.Le c') : ∀ b, c.K b → b < c.H0.size → c'.K b ∧ c'.H0[b]? = c.H0[b]? := fun b hb _ => h.K b hb
theorem Rep.R.up {r : Rep α} {c c' : Cx} {cs : List Value} {x : α} (h : r.at c cs x) (hle : c.Le c') : r.at c' cs x := r.turn h hle.turn
theorem Rep.SR.up {r : Rep α} {c c' : Cx} {v : Value} {l : List α} (h : r.sl c v l) (hle : c.Le c') : r.sl c' v l := Rep.SR.turn h hle.turn
theorem Rep.LR.up {r : Rep α} {c c' : Cx} {v : List (List Value)} {l : List α} (h : r.ls c v l) (hle : c.Le c') : r.ls c' v l := Rep.LR.turn h hle.turn
/-- From here on an own list is only read. -/
theorem St.freezeL {r : Rep α} {c : Cx} {w : World} {L : List Res} {T : TypeId} {es : Nat} {v : Value} {css : List (List Value)} {l : List α} (h : St c w (sl T es v css :: L)) (hl : r.ls c css l) (hes : r.es = es) (hm : l.length ≤ 140737488355328) : ∃ c', c.Le c' ∧ St c' w L ∧ r.sl c' v l := by
  subst hes
  obtain ⟨c', h1, h2, h3⟩ := h.freezeS
  exact ⟨c', h1, h2, css, h3, hl.up h1, hm⟩
theorem Rep.SR.ints {c : Cx} {v : Value} {l : List Int} (h : intR.sl c v l) : FzS c 1 v (l.map Q36) := by
  obtain ⟨css, h1, h2, h3⟩ := h
  have : css = l.map Q36 := by
    apply List.ext_getElem?
    intro m
    rw [List.getElem?_map]
    rcases Nat.lt_or_ge m l.length with hm | hm
    · obtain ⟨d, h4, h5⟩ := h2.2 m _ (List.getElem?_eq_getElem hm)
      have h5 : d = [_] := h5
      rw [h4, List.getElem?_eq_getElem hm, h5]; rfl
    · rw [List.getElem?_eq_none (by rw [h2.1]; exact hm), List.getElem?_eq_none hm]; rfl
  rw [this] at h1; exact h1
theorem FzS.ints {c : Cx} {v : Value} {l : List Int} (h : FzS c 1 v (l.map Q36)) (hm : l.length ≤ 140737488355328) : intR.sl c v l :=
  ⟨_, h, ⟨by simp, fun m x hx => ⟨Q36 x, by rw [List.getElem?_map, hx]; rfl, rfl⟩⟩, hm⟩

section
variable {P : Program} {l : List GO} {Q : QT} {ρ : Env} {w : World} {c : Cx} {L : List Res} {r : Rep α} {xs : List α} {v : Value} {es : Nat}
theorem Qmd {d : Nat} {x y : Operand} {k : IntKind} {n : Int} (hx : ρ.ev x = v) (hy : ρ.ev y = .int k n) (hK : r.sl c v xs) (hes : r.es = es) (h0 : 0 ≤ n) (hn : n < xs.length)
    (h : ∀ b o cs a, AtK c b o cs → xs[n.toNat]? = some a → r.at c cs a → Q5 P l Q (upd ρ d (.pointer (some ⟨b, o, none⟩))) w) : Q5 P (⟨none, .idx d es x y⟩ :: l) Q ρ w := by
  subst hes
  obtain ⟨css, h1, h2, h3⟩ := hK
  have hn' : n.toNat < xs.length := by omega
  obtain ⟨cs, h4, h5⟩ := h2.2 n.toNat _ (List.getElem?_eq_getElem hn')
  exact s_idxK (m := n.toNat) hx (by rw [hy, Int.toNat_of_nonneg h0]) h1 h4 fun b o hb => h b o cs _ hb (List.getElem?_eq_getElem hn') h5
theorem Q56 {d m : Nat} {x y : Operand} {k : IntKind} (hx : ρ.ev x = v) (hy : ρ.ev y = .int k (m : Int)) (hK : r.sl c v xs) (hes : r.es = es) (hn : m < xs.length)
    (h : ∀ b o cs a, AtK c b o cs → xs[m]? = some a → r.at c cs a → Q5 P l Q (upd ρ d (.pointer (some ⟨b, o, none⟩))) w) : Q5 P (⟨none, .idx d es x y⟩ :: l) Q ρ w := by
  subst hes
  obtain ⟨css, h1, h2, h3⟩ := hK
  obtain ⟨cs, h4, h5⟩ := h2.2 m _ (List.getElem?_eq_getElem hn)
  exact s_idxK (m := m) hx hy h1 h4 fun b o hb => h b o cs _ hb (List.getElem?_eq_getElem hn) h5
theorem Q7 {l : List α} {m : Nat} {x : α} (h : l[m]? = some x) : l.drop m = x :: l.drop (m + 1) := by
  obtain ⟨hm, rfl⟩ := List.getElem?_eq_some_iff.1 h
  exact List.drop_eq_getElem_cons hm
theorem Q1E {l : List α} {m : Nat} {x : α} (h : l[m]? = some x) : l.take (m + 1) = l.take m ++ [x] := by
  rw [List.take_add_one, h]; rfl
theorem QJ {cs : List Value} {n : Int} (h : intR.at c cs n) : cs = [.int .i64 n] := h
theorem QmS : ∀ {L : List Res} {i : Nat} {a a' : Res}, nth L i = some a → nth (L.set i a') i = some a'
  | [], _, _, _, h => by cases h
  | _ :: _, 0, _, _, _ => rfl
  | _ :: L, i + 1, _, _, h => QmS (L := L) (i := i) h
/-- append of one element that was just built. -/
theorem s_appR1 {T T' d Ts Ts2 Ty nb i k b : Nat} {z : List Value} {x y : Operand} {ds : List Value} {css : List (List Value)} {a : α} (hel : Q3d P Ts = some (T, es, nb, z))
    (hts : ∃ e2, P.underlying Ts2 = some (.slice e2)) (hS : St c w L) (hx : ρ.ev x = v) (hy : ρ.ev y = .slice (some ⟨b, 0, none⟩) 1 1) (hi : nth L i = some (Go.Lir.sl T es v css)) (hk : nth L k = some (blk b T' ds)) (hls : r.ls c css xs) (ha : r.at c ds a) (hes : r.es = es) (hb : (xs.length + 1) * nb ≤ 140737488355328)
    (h : ∀ v' w' css', r.ls c css' (xs ++ [a]) → oneC v' = true → St c w' (L.set i (Go.Lir.sl T es v' css')) → Q5 P l Q (upd ρ d v') w') : Q5 P (⟨none, .raw ⟨some d, .call ⟨.builtin .append, #[x, y], #[Ts, Ts2]⟩, Ty, "", #[], none⟩⟩ :: l) Q ρ w :=
  Qme hel (.inl hts) hS hx hy hi (hS.srcB hk ((r.len ha).trans hes) (r.one ha)) (by rw [hls.1]; exact hb) fun v' w' hS' => h v' w' _ (hls.push ha) (hS'.oneC (QmS hi)) hS'
/-- append of a list that is read. -/
theorem s_appRK {T d Ts Ts2 Ty nb i : Nat} {z : List Value} {x y : Operand} {v2 : Value} {css : List (List Value)} {ys : List α} (hel : Q3d P Ts = some (T, es, nb, z))
    (hts : ∃ e2, P.underlying Ts2 = some (.slice e2)) (hS : St c w L) (hx : ρ.ev x = v) (hy : ρ.ev y = v2) (hi : nth L i = some (Go.Lir.sl T es v css)) (hls : r.ls c css xs) (hK : r.sl c v2 ys) (hes : r.es = es) (hb : (xs.length + ys.length) * nb ≤ 140737488355328)
    (h : ∀ v' w' css', r.ls c css' (xs ++ ys) → oneC v' = true → St c w' (L.set i (Go.Lir.sl T es v' css')) → Q5 P l Q (upd ρ d v') w') : Q5 P (⟨none, .raw ⟨some d, .call ⟨.builtin .append, #[x, y], #[Ts, Ts2]⟩, Ty, "", #[], none⟩⟩ :: l) Q ρ w := by
  subst hes
  obtain ⟨css2, h1, h2, h3⟩ := hK
  exact Qme hel (.inl hts) hS hx hy hi (FzS.src h1 hS h2.one) (by rw [hls.1, h2.1]; exact hb) fun v' w' hS' => h v' w' _ (hls.append h2) (hS'.oneC (QmS hi)) hS'
/-- A call of a function value, without and with what it holds. -/
theorem Quq {d : Nat} {x : Operand} {os : List Operand} {f : FuncId} {args : List Value} {S : Value → World → Prop} (hx : ρ.ev x = .func (.func f) #[] #[]) (hf : Q4H P f = true) (hxs : os.map ρ.ev = args) (hc : Rets P f args w S)
    (h : ∀ v w', S v w' → Q5 P l Q (upd ρ d v) w') : Q5 P (⟨none, .callv (some d) x os⟩ :: l) Q ρ w := by
  unfold Q4H at hf
  rw [Option.any_eq_true] at hf
  obtain ⟨fn, h1, h2⟩ := hf
  rw [Bool.and_eq_true, Bool.not_eq_true'] at h2
  refine QuA (cap := []) hx h1 h2.1 h2.2 (by rw [hxs, List.append_nil]) hc ?_
  rintro e w' ⟨v, rfl, hv⟩
  exact h v w' hv
theorem Qq8 {d : Nat} {x : Operand} {b o : Nat} {cs : List Value} {u : Value} (hS : St c w L) (ha : AtK c b o cs) (hx : ρ.ev x = .pointer (some ⟨b, o, none⟩)) (hu : cs[0]? = some u) : gqv P ρ w ⟨none, .load1 d x⟩ u := Qn6 (j := 0) hS ha hx hu
theorem Q3D {d n : Nat} {x : Operand} {b o : Nat} {cs us : List Value} (hS : St c w L) (ha : AtK c b o cs) (hx : ρ.ev x = .pointer (some ⟨b, o, none⟩)) (hu : cs.take n = us) (hl : us.length = n) : gqv P ρ w ⟨none, .loadn d n x⟩ (.agg ⟨us⟩) := Qhp (j := 0) hS ha hx hu hl
/-- A whole block is written anew. -/
theorem Qum {n i b T : Nat} {x y : Operand} {cs us : List Value} (hS : St c w L) (hx : ρ.ev x = .pointer (some ⟨b, 0, none⟩)) (hy : ρ.ev y = .agg ⟨us⟩) (hn : us.length = n) (hi : nth L i = some (blk b T cs)) (hc : cs.length = n) (h1 : ∀ u ∈ us, oneC u = true)
    (h : ∀ w', St c w' (L.set i (blk b T us)) → Q5 P l Q ρ w') : Q5 P (⟨none, .storen n x y⟩ :: l) Q ρ w :=
  Qpf hS hx hy hn hi (by omega) h1 (by simp; omega) h
theorem Q9j : ∀ {a b : List GO} {Q : QT} {ρ : Env} {w : World}, Q5 P a (Q11 (Q5 P b Q) Q) ρ w → Q5 P (a ++ b) Q ρ w
  | [], _, _, _, _, h => h
  | ⟨none, o⟩ :: a, b, Q, ρ, w, h => by
    simp only [List.cons_append, Q5] at h ⊢
    exact Q9b (fun ρ w h => Q9j h) (fun e ρ w hn h => by cases e <;> first | exact h | exact absurd rfl hn) h
  | ⟨some (s, b'), o⟩ :: a, b, Q, ρ, w, h => by
    simp only [List.cons_append, Q5] at h ⊢
    split
    · rename_i hw
      rw [if_pos hw] at h
      exact Q9b (fun ρ w h => Q9j h) (fun e ρ w hn h => by cases e <;> first | exact h | exact absurd rfl hn) h
    · rename_i hw
      rw [if_neg hw] at h
      exact Q9j h
/-- An assertion between two parts of a row of operations. -/
theorem s_cut {l : List GO} (n : Nat) (J : Env → World → Prop) (ha : Q5 P (l.take n) (Q11 J Q) ρ w) (hb : ∀ ρ w, J ρ w → Q5 P (l.drop n) Q ρ w) : Q5 P l Q ρ w := by
  rw [← List.take_append_drop n l]
  exact Q9j (QaU (Q6n hb fun _ _ _ h => h) ha)
theorem Quv {d : Nat} {x : Operand} (hx : ρ.ev x = v) (hK : r.sl c v xs) (h : Q5 P l Q (upd ρ d (.int .i64 xs.length)) w) : Q5 P (⟨none, .len d x⟩ :: l) Q ρ w := by
  obtain ⟨css, h1, h2, h3⟩ := hK
  exact s_lenKn hx h1 h2.1 h
theorem Quk {d : Nat} {x : Operand} {lo hi mx : Option Operand} {l' h' : Nat} (hx : ρ.ev x = v) (hK : r.sl c v xs) (hes : r.es = es) (hmx : mx = none) (hh : bnd ρ xs.length hi h') (hl : bnd ρ 0 lo l') (h2 : h' ≤ xs.length) (h3 : l' ≤ h')
    (h : ∀ v', r.sl c v' ((xs.take h').drop l') → Q5 P l Q (upd ρ d v') w) : Q5 P (⟨none, .sub d es x lo hi mx⟩ :: l) Q ρ w := by
  subst hes
  obtain ⟨css, h1, g2, g3⟩ := hK
  exact s_subK hx h1 hmx (by rw [g2.1]; exact hh) hl (by rw [g2.1]; exact h2) h3 fun v' hv => h v' ⟨_, hv, g2.sub _ _, by simp; omega⟩
end
end

/-! ### data that came in -/
section
variable {P : Program} {T e : TypeId} {α β : Type}
/-- What a codec reads, seen as a kind of data. -/
def Cod.rep (c : Cod P T α) (r : Rep β) (hs : c.es = r.es) (h : ∀ (H : Heap) cs x, c.rd H cs x → ∃ y, r.R H (· < H.size) cs y) : Cod P T β where
  es := r.es
  rd := fun H cs y => r.R H (· < H.size) cs y
  size := by rw [← hs]; exact c.size
  len := fun _ _ _ h => r.len h
  stay := fun H H' cs x hx hH => r.turn hx fun b hb hlt => by
    have := hH b hlt
    refine ⟨?_, this⟩
    rcases Nat.lt_or_ge b H'.size with h | h
    · exact h
    · rw [Array.getElem?_eq_none h, Array.getElem?_eq_getElem hlt] at this; cases this
  open_ := fun enc w fuel cs y hy hfit => by
    obtain ⟨x, hx⟩ := c.open_ enc w fuel cs y hy hfit
    exact h _ _ _ hx
/-- A list of a kind of data. -/
theorem list_rd {r : Rep α} {n : Nat} {H : Heap} {cs : List Value} {xs : List α} (hn : r.es = n)
    (h : ∃ v css, cs = [v] ∧ SlR H n v (fun _ => True) css ∧ css.length = xs.length ∧ xs.length ≤ 140737488355328 ∧ ∀ (m : Nat) (x : α), xs[m]? = some x → ∃ d, css[m]? = some d ∧ r.R H (· < H.size) d x) : r.list.R H (· < H.size) cs xs := by
  obtain ⟨v, css, rfl, h1, h2, h3, h4⟩ := h
  subst hn
  exact ⟨v, rfl, css, SlR.mono h1 fun b hb _ => hb, ⟨h2, h4⟩, h3⟩
def Cod.listOf (c : Cod P e β) (r : Rep β) (hs : c.es = r.es) (h : ∀ (H : Heap) cs x, c.rd H cs x → r.R H (· < H.size) cs x) (ht : P.underlying T = some (.slice e)) (h1 : P.cellsOf T = 1) (hby : decide (0 < P.bytesOf e) = true) : Cod P T (List β) :=
  Cod.rep (Cod.slice c ht h1 (by rw [hs]; exact r.pos) hby) r.list rfl fun H cs x hx => ⟨x, list_rd hs.symm (by
    obtain ⟨v, css, g1, g2, g3, g4, g5⟩ := hx
    exact ⟨v, css, g1, g2, g3, g4, fun m y hy => by obtain ⟨d, g6, g7⟩ := g5 m y hy; exact ⟨d, g6, h _ _ _ g7⟩⟩)⟩
/-- A kind of data by itself: the codec's reading is the kind's. -/
structure Cod.Of (P : Program) (T : TypeId) {α : Type} (r : Rep α) where
  cod : Cod P T α
  es : cod.es = r.es
  rd : ∀ (H : Heap) cs x, cod.rd H cs x → r.R H (· < H.size) cs x
def Cod.of (c : Cod P T α) (r : Rep β) (hs : c.es = r.es) (h : ∀ (H : Heap) cs x, c.rd H cs x → ∃ y, r.R H (· < H.size) cs y) : Cod.Of P T r := ⟨Cod.rep c r hs h, rfl, fun _ _ _ h => h⟩
def Cod.Of.list {r : Rep α} (c : Cod.Of P e r) (ht : P.underlying T = some (.slice e)) (h1 : P.cellsOf T = 1) (hby : decide (0 < P.bytesOf e) = true) : Cod.Of P T r.list := ⟨Cod.listOf c.cod r c.es c.rd ht h1 hby, rfl, fun _ _ _ h => h⟩
def Cod.Of.int (ht : P.underlying T = some (.int .i64)) (hs : P.cellsOf T = 1) : Cod.Of P T intR := Cod.of (Cod.int .i64 ht hs) intR rfl fun _ _ x h => ⟨x, h.1⟩
def Cod.Of.ty {TL t0 t1 : TypeId} (h0 : fieldAt P T 0 = some (0, 1, t0)) (h1 : fieldAt P T 1 = some (1, 1, t1)) (h2 : fieldAt P T 2 = some (2, 1, TL)) (hi0 : P.underlying t0 = some (.int .i64)) (hi1 : P.underlying t1 = some (.int .i64)) (hT : P.cellsOf T = 3) (hTL : P.underlying TL = some (.slice T)) (hby : decide (0 < P.bytesOf T) = true) : Cod.Of P T tyR :=
  ⟨Cod.ty h0 h1 h2 hi0 hi1 hT hTL hby, rfl, fun _ _ _ h => h⟩
theorem Cod.Of.top {r : Rep α} (c : Cod.Of P T r) {w : World} {cs : List Value} {x : α} (h : c.cod.rd w.heap cs x) : r.at (Cx.top w) cs x := c.rd _ _ _ h
end
end Go.Lir
namespace Go.Lir
set_option linter.unusedVariables false
mutual
/-- typeSize -/
def Ty.size : Ty → Int → Int
  | .mk _ _ l, left => Tys.size l (left - 1)
def Tys.size : List Ty → Int → Int
  | [], left => left
  | x :: l, left => if 0 ≤ left then Tys.size l (x.size left) else left
end
theorem Tys.size_neg : ∀ (l : List Ty) {left : Int}, left < 0 → Tys.size l left = left
  | [], _, _ => by simp [Tys.size]
  | x :: l, left, h => by rw [Tys.size, if_neg (by omega)]
mutual
/-- deep -/
def Ty.deepB : Ty → Int → Bool
  | .mk _ _ l, left => if left < 0 then false else Tys.deepB l (left - 1)
def Tys.deepB : List Ty → Int → Bool
  | [], _ => true
  | x :: l, left => x.deepB left && Tys.deepB l left
end
mutual
/-- DeepOf -/
def Ty.depth : Ty → Int → Int
  | .mk _ _ l, most => Tys.depth l most 0
def Tys.depth : List Ty → Int → Int → Int
  | [], _, n => n
  | x :: l, most, n => if n ≤ most then (if most = 0 then 1 else Tys.depth l most (if n < 1 + x.depth (most - 1) then 1 + x.depth (most - 1) else n)) else n
end
mutual
theorem Ty.depth_iff : ∀ (t : Ty) {most : Int}, 0 ≤ most → (t.depth most ≤ most ↔ t.deepB most = true)
  | .mk _ _ l, most, h => by
    rw [Ty.depth, Ty.deepB, if_neg (by omega), Tys.depth_iff l h]
    exact ⟨fun h => h.2, fun h2 => ⟨h, h2⟩⟩
theorem Tys.depth_iff : ∀ (l : List Ty) {most n : Int}, 0 ≤ most → (Tys.depth l most n ≤ most ↔ n ≤ most ∧ Tys.deepB l (most - 1) = true)
  | [], most, n, h => by rw [Tys.depth, Tys.deepB]; simp
  | x :: l, most, n, h => by
    rw [Tys.depth, Tys.deepB]
    by_cases hn : n ≤ most
    · rw [if_pos hn]
      by_cases h0 : most = 0
      · rw [if_pos h0]
        have : x.deepB (most - 1) = false := by obtain ⟨k, r, l2⟩ := x; rw [Ty.deepB, if_pos (by omega)]
        rw [this]; simp; omega
      · rw [if_neg h0, Tys.depth_iff l h]
        have := Ty.depth_iff x (most := most - 1) (by omega)
        rw [Bool.and_eq_true, ← this]
        constructor
        · rintro ⟨h1, h2⟩; split at h1 <;> exact ⟨by omega, by omega, h2⟩
        · rintro ⟨h1, h2, h3⟩; refine ⟨?_, h3⟩; split <;> omega
    · rw [if_neg hn]
      exact ⟨fun h => absurd h hn, fun h => h.1⟩
end
mutual
/-- Same -/
def Ty.same : Ty → Ty → Bool
  | .mk k r l, .mk k2 r2 l2 => decide (k = k2) && decide (r = r2) && Tys.same l l2
def Tys.same : List Ty → List Ty → Bool
  | [], [] => true
  | x :: l, y :: m => x.same y && Tys.same l m
  | [], _ :: _ => false
  | _ :: _, [] => false
end
mutual
theorem Ty.same_iff : ∀ (t u : Ty), t.same u = true ↔ t = u
  | .mk k r l, .mk k2 r2 l2 => by
    rw [Ty.same, Bool.and_eq_true, Bool.and_eq_true, Tys.same_iff l l2]
    simp only [decide_eq_true_eq, Ty.mk.injEq, and_assoc]
theorem Tys.same_iff : ∀ (l m : List Ty), Tys.same l m = true ↔ l = m
  | [], [] => by simp [Tys.same]
  | x :: l, y :: m => by rw [Tys.same, Bool.and_eq_true, Ty.same_iff x y, Tys.same_iff l m]; simp
  | [], _ :: _ => by simp [Tys.same]
  | _ :: _, [] => by simp [Tys.same]
end
instance : DecidableEq Ty := fun t u => decidable_of_iff _ (Ty.same_iff t u)
mutual
/-- wrong, typeFault -/
def Ty.wrong (fields : Nat) : Ty → Int → Int
  | .mk k r l, regs =>
    if k < 1 ∨ 4 < k then 3 else if k = 1 ∧ r ≠ 0 ∨ k ≠ 3 ∧ 0 < l.length then 4 else if fields < l.length then 2 else if k ≠ 1 ∧ (r < 0 ∨ regs ≤ r) then 1 else Tys.wrong fields l regs
def Tys.wrong (fields : Nat) : List Ty → Int → Int
  | [], _ => 0
  | x :: l, regs => if x.wrong fields regs ≠ 0 then x.wrong fields regs else Tys.wrong fields l regs
end
mutual
/-- Rename -/
def Ty.ren : Ty → List Int → Option Ty
  | .mk k r l, to => if k ≠ 1 ∧ (r < 0 ∨ (to.length : Int) ≤ r ∨ to.getD r.toNat 0 < 0) then none else
    match Tys.ren l to with
    | none => none
    | some m => some (.mk k (if k ≠ 1 then to.getD r.toNat 0 else r) m)
def Tys.ren : List Ty → List Int → Option (List Ty)
  | [], _ => some []
  | x :: l, to => match x.ren to with
    | none => none
    | some y => match Tys.ren l to with
      | none => none
      | some m => some (y :: m)
end
mutual
/-- Two renamings one behind the other are one. -/
theorem Ty.ren_ren {f g h : List Int} (hfg : ∀ i : Nat, i < f.length → 0 ≤ f.getD i 0 ∧ f.getD i 0 < g.length ∧ 0 ≤ g.getD (f.getD i 0).toNat 0 ∧ i < h.length ∧ h.getD i 0 = g.getD (f.getD i 0).toNat 0) :
    ∀ (t u : Ty), t.ren f = some u → ∃ v, u.ren g = some v ∧ t.ren h = some v
  | .mk k r l, u, ht => by
    rw [Ty.ren] at ht
    split at ht
    · cases ht
    · rename_i hc
      cases hl : Tys.ren l f with
      | none => rw [hl] at ht; cases ht
      | some m =>
        rw [hl] at ht
        simp only [Option.some.injEq] at ht
        obtain ⟨m2, h1, h2⟩ := Tys.ren_ren hfg l m hl
        subst ht
        by_cases hk : k = 1
        · refine ⟨.mk k r m2, ?_, ?_⟩
          · rw [Ty.ren, if_neg (by omega), h1]; simp [hk]
          · rw [Ty.ren, if_neg (by omega), h2]; simp [hk]
        · have := hfg r.toNat (by omega)
          refine ⟨.mk k (g.getD (f.getD r.toNat 0).toNat 0) m2, ?_, ?_⟩
          · rw [Ty.ren, if_pos hk, if_neg (by omega), h1]; simp [hk]
          · rw [Ty.ren, if_neg (by omega), h2]; simp only [if_pos hk, this.2.2.2.2]
theorem Tys.ren_ren {f g h : List Int} (hfg : ∀ i : Nat, i < f.length → 0 ≤ f.getD i 0 ∧ f.getD i 0 < g.length ∧ 0 ≤ g.getD (f.getD i 0).toNat 0 ∧ i < h.length ∧ h.getD i 0 = g.getD (f.getD i 0).toNat 0) :
    ∀ (t u : List Ty), Tys.ren t f = some u → ∃ v, Tys.ren u g = some v ∧ Tys.ren t h = some v
  | [], u, ht => by rw [Tys.ren] at ht; cases ht; exact ⟨[], by rw [Tys.ren], by rw [Tys.ren]⟩
  | x :: l, u, ht => by
    rw [Tys.ren] at ht
    cases hx : x.ren f with
    | none => rw [hx] at ht; cases ht
    | some y =>
      rw [hx] at ht
      cases hl : Tys.ren l f with
      | none => rw [hl] at ht; cases ht
      | some m =>
        rw [hl] at ht
        simp only [Option.some.injEq] at ht
        subst ht
        obtain ⟨y2, a1, a2⟩ := Ty.ren_ren hfg x y hx
        obtain ⟨m2, b1, b2⟩ := Tys.ren_ren hfg l m hl
        exact ⟨y2 :: m2, by rw [Tys.ren, a1, b1], by rw [Tys.ren, a2, b2]⟩
end
mutual
/-- What is renamed is as right as it was, if the renaming stays below the number of regions. -/
theorem Ty.ren_wrong {fields : Nat} {f : List Int} (hf : ∀ i : Nat, i < f.length → 0 ≤ f.getD i 0 ∧ f.getD i 0 < f.length) : ∀ (t u : Ty), t.ren f = some u → u.wrong fields f.length = t.wrong fields f.length
  | .mk k r l, u, ht => by
    rw [Ty.ren] at ht
    split at ht
    · cases ht
    · rename_i hc
      cases hl : Tys.ren l f with
      | none => rw [hl] at ht; cases ht
      | some m =>
        rw [hl] at ht
        simp only [Option.some.injEq] at ht
        subst ht
        obtain ⟨h1, h2⟩ := Tys.ren_wrong (fields := fields) hf l m hl
        by_cases hk : k = 1
        · rw [Ty.wrong, Ty.wrong, h1, h2]; simp [hk]
        · have := hf r.toNat (by omega)
          rw [Ty.wrong, Ty.wrong, h1, h2]
          simp only [if_pos hk]
          rw [if_neg (show ¬ (k ≠ 1 ∧ (f.getD r.toNat 0 < 0 ∨ (f.length : Int) ≤ f.getD r.toNat 0)) by omega), if_neg (show ¬ (k ≠ 1 ∧ (r < 0 ∨ (f.length : Int) ≤ r)) by omega)]
          simp [hk]
theorem Tys.ren_wrong {fields : Nat} {f : List Int} (hf : ∀ i : Nat, i < f.length → 0 ≤ f.getD i 0 ∧ f.getD i 0 < f.length) : ∀ (t u : List Ty), Tys.ren t f = some u → u.length = t.length ∧ Tys.wrong fields u f.length = Tys.wrong fields t f.length
  | [], u, ht => by rw [Tys.ren] at ht; cases ht; exact ⟨rfl, rfl⟩
  | x :: l, u, ht => by
    rw [Tys.ren] at ht
    cases hx : x.ren f with
    | none => rw [hx] at ht; cases ht
    | some y =>
      rw [hx] at ht
      cases hl : Tys.ren l f with
      | none => rw [hl] at ht; cases ht
      | some m =>
        rw [hl] at ht
        simp only [Option.some.injEq] at ht
        subst ht
        obtain ⟨h1, h2⟩ := Tys.ren_wrong (fields := fields) hf l m hl
        exact ⟨by simp [h1], by rw [Tys.wrong, Tys.wrong, Ty.ren_wrong hf x y hx, h2]⟩
end
mutual
/-- What cannot be renamed is wrong. -/
theorem Ty.ren_none {fields : Nat} {f : List Int} (hf : ∀ i : Nat, i < f.length → 0 ≤ f.getD i 0) : ∀ (t : Ty), t.ren f = none → t.wrong fields f.length ≠ 0
  | .mk k r l, ht => by
    rw [Ty.wrong]
    rw [Ty.ren] at ht
    split
    · decide
    · split
      · decide
      · split
        · decide
        · split
          · decide
          · rename_i h1 h2 h3 h4
            have hc : ¬ (k ≠ 1 ∧ (r < 0 ∨ (f.length : Int) ≤ r ∨ f.getD r.toNat 0 < 0)) := by
              rintro ⟨a, b⟩
              have := hf r.toNat
              omega
            rw [if_neg hc] at ht
            cases hl : Tys.ren l f with
            | none => exact Tys.ren_none hf l hl
            | some m => rw [hl] at ht; cases ht
theorem Tys.ren_none {fields : Nat} {f : List Int} (hf : ∀ i : Nat, i < f.length → 0 ≤ f.getD i 0) : ∀ (t : List Ty), Tys.ren t f = none → Tys.wrong fields t f.length ≠ 0
  | [], ht => by rw [Tys.ren] at ht; cases ht
  | x :: l, ht => by
    rw [Tys.ren] at ht
    rw [Tys.wrong]
    split
    · rename_i h; exact h
    · rename_i h
      cases hx : x.ren f with
      | none => exact absurd hx (fun hx => h (Ty.ren_none hf x hx))
      | some y =>
        rw [hx] at ht
        cases hl : Tys.ren l f with
        | none => exact Tys.ren_none hf l hl
        | some m => rw [hl] at ht; cases ht
end
mutual
theorem Ty.ren_deep {f : List Int} : ∀ (t u : Ty) (left : Int), t.ren f = some u → u.deepB left = t.deepB left
  | .mk k r l, u, left, ht => by
    rw [Ty.ren] at ht
    split at ht
    · cases ht
    · cases hl : Tys.ren l f with
      | none => rw [hl] at ht; cases ht
      | some m =>
        rw [hl] at ht
        simp only [Option.some.injEq] at ht
        subst ht
        rw [Ty.deepB, Ty.deepB, Tys.ren_deep l m (left - 1) hl]
theorem Tys.ren_deep {f : List Int} : ∀ (t u : List Ty) (left : Int), Tys.ren t f = some u → Tys.deepB u left = Tys.deepB t left
  | [], u, _, ht => by rw [Tys.ren] at ht; cases ht; rfl
  | x :: l, u, left, ht => by
    rw [Tys.ren] at ht
    cases hx : x.ren f with
    | none => rw [hx] at ht; cases ht
    | some y =>
      rw [hx] at ht
      cases hl : Tys.ren l f with
      | none => rw [hl] at ht; cases ht
      | some m =>
        rw [hl] at ht
        simp only [Option.some.injEq] at ht
        subst ht
        rw [Tys.deepB, Tys.deepB, Ty.ren_deep x y left hx, Tys.ren_deep l m left hl]
end
mutual
/-- The renaming that leaves all as it is. -/
theorem Ty.ren_id {f : List Int} (hf : ∀ i : Nat, i < f.length → f.getD i 0 = i) : ∀ (t u : Ty), t.ren f = some u → u = t
  | .mk k r l, u, ht => by
    rw [Ty.ren] at ht
    split at ht
    · cases ht
    · rename_i hc
      cases hl : Tys.ren l f with
      | none => rw [hl] at ht; cases ht
      | some m =>
        rw [hl] at ht
        simp only [Option.some.injEq] at ht
        subst ht
        rw [Tys.ren_id hf l m hl]
        by_cases hk : k = 1
        · simp [hk]
        · have := hf r.toNat (by omega)
          rw [if_pos hk, this, Int.toNat_of_nonneg (by omega)]
theorem Tys.ren_id {f : List Int} (hf : ∀ i : Nat, i < f.length → f.getD i 0 = i) : ∀ (t u : List Ty), Tys.ren t f = some u → u = t
  | [], u, ht => by rw [Tys.ren] at ht; cases ht; rfl
  | x :: l, u, ht => by
    rw [Tys.ren] at ht
    cases hx : x.ren f with
    | none => rw [hx] at ht; cases ht
    | some y =>
      rw [hx] at ht
      cases hl : Tys.ren l f with
      | none => rw [hl] at ht; cases ht
      | some m =>
        rw [hl] at ht
        simp only [Option.some.injEq] at ht
        subst ht
        rw [Ty.ren_id hf x y hx, Tys.ren_id hf l m hl]
end
/-- By the parts. -/
theorem Ty.ind {p : Ty → Prop} (h : ∀ k r l, (∀ x ∈ l, p x) → p (.mk k r l)) : ∀ t, p t
  | .mk k r l => h k r l fun x hx => Ty.ind h x
termination_by t => SizeOf.sizeOf t
decreasing_by
  have := List.sizeOf_lt_of_mem hx
  simp only [Ty.mk.sizeOf_spec]
  omega
mutual
theorem Ty.size_rng : ∀ (t : Ty) {left : Int}, 0 ≤ left → -1 ≤ t.size left ∧ t.size left < left
  | .mk _ _ l, left, h => by
    rw [Ty.size]
    have := Tys.size_rng l (left := left - 1) (by omega)
    omega
theorem Tys.size_rng : ∀ (l : List Ty) {left : Int}, -1 ≤ left → -1 ≤ Tys.size l left ∧ Tys.size l left ≤ left
  | [], left, h => by rw [Tys.size]; omega
  | x :: l, left, h => by
    rw [Tys.size]
    split
    · rename_i h0
      have h1 := Ty.size_rng x h0
      have h2 := Tys.size_rng l (left := x.size left) h1.1
      omega
    · omega
end
mutual
theorem Ty.size_mono : ∀ (t : Ty) {a b : Int}, a ≤ b → -1 ≤ a → t.size a ≤ t.size b
  | .mk _ _ l, a, b, h, ha => by
    rw [Ty.size, Ty.size]
    by_cases h0 : 0 ≤ a
    · exact Tys.size_mono l (by omega) (by omega)
    · rw [Tys.size_neg l (by omega)]
      by_cases hb : 0 ≤ b
      · have := Tys.size_rng l (left := b - 1) (by omega); omega
      · rw [Tys.size_neg l (by omega)]; omega
theorem Tys.size_mono : ∀ (l : List Ty) {a b : Int}, a ≤ b → -1 ≤ a → Tys.size l a ≤ Tys.size l b
  | [], a, b, h, _ => by rw [Tys.size, Tys.size]; exact h
  | x :: l, a, b, h, ha => by
    by_cases h0 : 0 ≤ a
    · rw [Tys.size, Tys.size, if_pos h0, if_pos (by omega)]
      exact Tys.size_mono l (Ty.size_mono x h ha) (Ty.size_rng x h0).1
    · rw [Tys.size_neg _ (by omega)]
      have := Tys.size_rng (x :: l) (left := b) (by omega); omega
end
/-- What is not too great has few parts, and none of them is too great. -/
theorem Tys.size_len : ∀ (l : List Ty) {left : Int}, 0 ≤ Tys.size l left → -1 ≤ left → (l.length : Int) ≤ left ∧ ∀ x ∈ l, 0 ≤ x.size left
  | [], left, h, _ => by rw [Tys.size] at h; simp; exact h
  | x :: l, left, h, hl => by
    rw [Tys.size] at h
    split at h
    · rename_i h0
      have h1 := Ty.size_rng x h0
      have h2 := Tys.size_len l h h1.1
      have h3 := Tys.size_rng l (left := x.size left) h1.1
      refine ⟨by simp only [List.length_cons]; omega, fun y hy => ?_⟩
      rcases List.mem_cons.1 hy with rfl | hy
      · omega
      · exact Int.le_trans (h2.2 y hy) (Ty.size_mono y (by omega) h1.1)
    · omega
/-- Check, TypeFault -/
def Ty.fault (t : Ty) (regs : Int) : Int := if t.deepB 4 = false then 19 else t.wrong 8 regs
mutual
theorem Ty.depth_rng : ∀ (t : Ty) {most : Int}, 0 ≤ most → 0 ≤ t.depth most ∧ t.depth most ≤ most + 1
  | .mk _ _ l, most, h => by
    rw [Ty.depth]
    exact Tys.depth_rng l h (by omega) (by omega)
theorem Tys.depth_rng : ∀ (l : List Ty) {most n : Int}, 0 ≤ most → 0 ≤ n → n ≤ most + 1 → 0 ≤ Tys.depth l most n ∧ Tys.depth l most n ≤ most + 1
  | [], most, n, _, h1, h2 => by rw [Tys.depth]; omega
  | x :: l, most, n, h, h1, h2 => by
    rw [Tys.depth]
    split
    · split
      · omega
      · have := Ty.depth_rng x (most := most - 1) (by omega)
        exact Tys.depth_rng l h (by split <;> omega) (by split <;> omega)
    · omega
end
/-- No list of parts is long. -/
inductive Ty.Short : Ty → Prop where
  | mk {k r : Int} {l : List Ty} : l.length ≤ 100000 → (∀ x ∈ l, x.Short) → Ty.Short (.mk k r l)
theorem Ty.Short.parts {k r : Int} {l : List Ty} (h : (Ty.mk k r l).Short) : l.length ≤ 100000 ∧ ∀ x ∈ l, x.Short := by
  cases h with | mk h1 h2 => exact ⟨h1, h2⟩
theorem Ty.short_of_size : ∀ (t : Ty) {n : Int}, n ≤ 100000 → 0 ≤ n → 0 ≤ t.size n → t.Short := by
  intro t
  induction t using Ty.ind with
  | h k r l ih =>
    intro n h1 h0 h
    rw [Ty.size] at h
    obtain ⟨h2, h3⟩ := Tys.size_len l h (by omega)
    refine .mk (by omega) fun x hx => ?_
    have hp := h3 x hx
    have hl := List.length_pos_of_mem hx
    exact ih x hx (n := n - 1) (by omega) (by omega) hp
/-- GreatType, greatTypes -/
def Ty.great (t : Ty) : Bool := decide (t.size 2000 < 0)
def Tys.great (l : List Ty) : Bool := decide (200 < l.length) || l.any Ty.great
theorem Ty.short_of_great {t : Ty} (h : t.great = false) : t.Short := Ty.short_of_size t (n := 2000) (by omega) (by omega) (by unfold Ty.great at h; simp at h; exact h)
theorem Tys.short_of_great {l : List Ty} (h : Tys.great l = false) : l.length ≤ 200 ∧ ∀ x ∈ l, x.Short := by
  unfold Tys.great at h
  rw [Bool.or_eq_false_iff] at h
  refine ⟨by have := of_decide_eq_false h.1; omega, fun x hx => Ty.short_of_great ?_⟩
  cases hg : x.great with
  | false => rfl
  | true => have := List.any_eq_true.2 ⟨x, hx, hg⟩; rw [h.2] at this; cases this
end Go.Lir
namespace Go.Lir
structure Ins where
  op : Int
  a : Int
  b : Int
  c : Int
  k : Int
  n : Int
  regs : List Int
  args : List Int
structure To where
  block : Int
  regs : List Int
  args : List Int
structure Tail where
  op : Int
  a : Int
  yes : To
  no : To
  args : List Int
structure Block where
  regs : Int
  params : List Ty
  code : List Ins
  fin : Tail
deriving instance DecidableEq for Ins
deriving instance DecidableEq for To
deriving instance DecidableEq for Tail
deriving instance DecidableEq for Block
structure Fun where
  regs : Int
  params : List Ty
  results : List Ty
  blocks : List Block
structure Module where
  funcs : List Fun
deriving instance DecidableEq for Fun
deriving instance DecidableEq for Module

/-! ### no list is long -/
def Ins.Short (x : Ins) : Prop := x.regs.length ≤ 100000 ∧ x.args.length ≤ 100000
def To.Short (x : To) : Prop := x.regs.length ≤ 100000 ∧ x.args.length ≤ 100000
def Tail.Short (x : Tail) : Prop := x.yes.Short ∧ x.no.Short ∧ x.args.length ≤ 100000
def Tys.Short (l : List Ty) : Prop := l.length ≤ 100000 ∧ ∀ t ∈ l, t.Short
def Block.Short (x : Block) : Prop := Tys.Short x.params ∧ x.code.length ≤ 100000 ∧ (∀ i ∈ x.code, i.Short) ∧ x.fin.Short
def Fun.Short (x : Fun) : Prop := Tys.Short x.params ∧ Tys.Short x.results ∧ x.blocks.length ≤ 100000 ∧ ∀ b ∈ x.blocks, b.Short
def Module.Short (x : Module) : Prop := x.funcs.length ≤ 100000 ∧ ∀ f ∈ x.funcs, f.Short
theorem Tys.Short.of_great {l : List Ty} (h : Tys.great l = false) : Tys.Short l := by
  have := Tys.short_of_great h
  exact ⟨by omega, this.2⟩
theorem Q5k {α : Type} {l : List α} {p : α → Prop} {j : Nat} {x : α} (h : ∀ y ∈ l.take j, p y) (hx : l[j]? = some x) (hp : p x) : ∀ y ∈ l.take (j + 1), p y := by
  intro y hy
  rw [List.take_add_one, hx] at hy
  rcases List.mem_append.1 hy with hy | hy
  · exact h y hy
  · simp at hy; subst hy; exact hp
theorem QaF {α : Type} {l : List α} {p : α → Prop} {j : Nat} (h : ∀ y ∈ l.take j, p y) (hj : l.length ≤ j) : ∀ y ∈ l, p y := by
  rw [List.take_of_length_le hj] at h; exact h
def insR : Rep Ins where
  es := 8
  pos := by decide
  R := fun H K cs x => ∃ vr va, cs = [.int .i64 x.op, .int .i64 x.a, .int .i64 x.b, .int .i64 x.c, .int .i64 x.k, .int .i64 x.n, vr, va] ∧ intR.SR H K vr x.regs ∧ intR.SR H K va x.args
  len := by rintro _ _ _ _ ⟨vr, va, rfl, _⟩; rfl
  one := by
    rintro _ _ _ _ ⟨vr, va, rfl, h1, h2⟩ u hu
    simp at hu
    rcases hu with rfl | rfl | rfl | rfl | rfl | rfl | rfl | rfl <;> first | rfl | exact h1.oneC | exact h2.oneC
  turn := by rintro _ _ _ _ _ _ ⟨vr, va, rfl, h1, h2⟩ hs; exact ⟨vr, va, rfl, h1.turn hs, h2.turn hs⟩
def toR : Rep To where
  es := 3
  pos := by decide
  R := fun H K cs x => ∃ vr va, cs = [.int .i64 x.block, vr, va] ∧ intR.SR H K vr x.regs ∧ intR.SR H K va x.args
  len := by rintro _ _ _ _ ⟨vr, va, rfl, _⟩; rfl
  one := by
    rintro _ _ _ _ ⟨vr, va, rfl, h1, h2⟩ u hu
    simp at hu
    rcases hu with rfl | rfl | rfl <;> first | rfl | exact h1.oneC | exact h2.oneC
  turn := by rintro _ _ _ _ _ _ ⟨vr, va, rfl, h1, h2⟩ hs; exact ⟨vr, va, rfl, h1.turn hs, h2.turn hs⟩
def endR : Rep Tail where
  es := 9
  pos := by decide
  R := fun H K cs x => ∃ v1 v2 v3 v4 v5, cs = [.int .i64 x.op, .int .i64 x.a, .int .i64 x.yes.block, v1, v2, .int .i64 x.no.block, v3, v4, v5] ∧ intR.SR H K v1 x.yes.regs ∧ intR.SR H K v2 x.yes.args ∧ intR.SR H K v3 x.no.regs ∧ intR.SR H K v4 x.no.args ∧ intR.SR H K v5 x.args
  len := by rintro _ _ _ _ ⟨_, _, _, _, _, rfl, _⟩; rfl
  one := by
    rintro _ _ _ _ ⟨_, _, _, _, _, rfl, h1, h2, h3, h4, h5⟩ u hu
    simp at hu
    rcases hu with rfl | rfl | rfl | rfl | rfl | rfl | rfl | rfl | rfl <;> first | rfl | exact h1.oneC | exact h2.oneC | exact h3.oneC | exact h4.oneC | exact h5.oneC
  turn := by rintro _ _ _ _ _ _ ⟨_, _, _, _, _, rfl, h1, h2, h3, h4, h5⟩ hs; exact ⟨_, _, _, _, _, rfl, h1.turn hs, h2.turn hs, h3.turn hs, h4.turn hs, h5.turn hs⟩
def blockR : Rep Block where
  es := 12
  pos := by decide
  R := fun H K cs x => ∃ vp vc ce, cs = .int .i64 x.regs :: vp :: vc :: ce ∧ tyR.SR H K vp x.params ∧ insR.SR H K vc x.code ∧ endR.R H K ce x.fin
  len := by rintro _ _ _ _ ⟨_, _, ce, rfl, _, _, h⟩; have := endR.len h; simp [this, endR]
  one := by
    rintro _ _ _ _ ⟨_, _, ce, rfl, h1, h2, h3⟩ u hu
    simp at hu
    rcases hu with rfl | rfl | rfl | hu
    · rfl
    · exact h1.oneC
    · exact h2.oneC
    · exact endR.one h3 u hu
  turn := by rintro _ _ _ _ _ _ ⟨_, _, _, rfl, h1, h2, h3⟩ hs; exact ⟨_, _, _, rfl, h1.turn hs, h2.turn hs, endR.turn h3 hs⟩
def funcR : Rep Fun where
  es := 4
  pos := by decide
  R := fun H K cs x => ∃ vp vr vb, cs = [.int .i64 x.regs, vp, vr, vb] ∧ tyR.SR H K vp x.params ∧ tyR.SR H K vr x.results ∧ blockR.SR H K vb x.blocks
  len := by rintro _ _ _ _ ⟨_, _, _, rfl, _⟩; rfl
  one := by
    rintro _ _ _ _ ⟨_, _, _, rfl, h1, h2, h3⟩ u hu
    simp at hu
    rcases hu with rfl | rfl | rfl | rfl <;> first | rfl | exact h1.oneC | exact h2.oneC | exact h3.oneC
  turn := by rintro _ _ _ _ _ _ ⟨_, _, _, rfl, h1, h2, h3⟩ hs; exact ⟨_, _, _, rfl, h1.turn hs, h2.turn hs, h3.turn hs⟩
def modR : Rep Module where
  es := 1
  pos := by decide
  R := fun H K cs x => ∃ vf, cs = [vf] ∧ funcR.SR H K vf x.funcs
  len := by rintro _ _ _ _ ⟨_, rfl, _⟩; rfl
  one := by
    rintro _ _ _ _ ⟨_, rfl, h1⟩ u hu
    simp at hu; subst hu; exact h1.oneC
  turn := by rintro _ _ _ _ _ _ ⟨_, rfl, h1⟩ hs; exact ⟨_, rfl, h1.turn hs⟩

theorem Q1J {c : Cx} {cs : List Value} {x : Ins} (h : insR.at c cs x) : ∃ vr va, cs = [.int .i64 x.op, .int .i64 x.a, .int .i64 x.b, .int .i64 x.c, .int .i64 x.k, .int .i64 x.n, vr, va] ∧ intR.sl c vr x.regs ∧ intR.sl c va x.args := h
theorem Q7x {c : Cx} {cs : List Value} {x : To} (h : toR.at c cs x) : ∃ vr va, cs = [.int .i64 x.block, vr, va] ∧ intR.sl c vr x.regs ∧ intR.sl c va x.args := h
theorem Q47 {c : Cx} {cs : List Value} {x : Tail} (h : endR.at c cs x) : ∃ v1 v2 v3 v4 v5, cs = [.int .i64 x.op, .int .i64 x.a, .int .i64 x.yes.block, v1, v2, .int .i64 x.no.block, v3, v4, v5] ∧ intR.sl c v1 x.yes.regs ∧ intR.sl c v2 x.yes.args ∧ intR.sl c v3 x.no.regs ∧ intR.sl c v4 x.no.args ∧ intR.sl c v5 x.args := h
theorem Q2N {c : Cx} {cs : List Value} {x : Block} (h : blockR.at c cs x) : ∃ vp vc v1 v2 v3 v4 v5, cs = [.int .i64 x.regs, vp, vc, .int .i64 x.fin.op, .int .i64 x.fin.a, .int .i64 x.fin.yes.block, v1, v2, .int .i64 x.fin.no.block, v3, v4, v5] ∧ tyR.sl c vp x.params ∧ insR.sl c vc x.code ∧ intR.sl c v1 x.fin.yes.regs ∧ intR.sl c v2 x.fin.yes.args ∧ intR.sl c v3 x.fin.no.regs ∧ intR.sl c v4 x.fin.no.args ∧ intR.sl c v5 x.fin.args := by
  obtain ⟨vp, vc, ce, rfl, h1, h2, v1, v2, v3, v4, v5, rfl, h3⟩ := h
  exact ⟨vp, vc, v1, v2, v3, v4, v5, rfl, h1, h2, h3⟩
theorem Qqx {c : Cx} {x : Block} {vp vc v1 v2 v3 v4 v5 : Value} (h1 : tyR.sl c vp x.params) (h2 : insR.sl c vc x.code) (h3 : intR.sl c v1 x.fin.yes.regs) (h4 : intR.sl c v2 x.fin.yes.args) (h5 : intR.sl c v3 x.fin.no.regs) (h6 : intR.sl c v4 x.fin.no.args) (h7 : intR.sl c v5 x.fin.args) :
    blockR.at c [.int .i64 x.regs, vp, vc, .int .i64 x.fin.op, .int .i64 x.fin.a, .int .i64 x.fin.yes.block, v1, v2, .int .i64 x.fin.no.block, v3, v4, v5] x := ⟨vp, vc, _, rfl, h1, h2, v1, v2, v3, v4, v5, rfl, h3, h4, h5, h6, h7⟩
theorem Q1e {c : Cx} {cs : List Value} {x : Fun} (h : funcR.at c cs x) : ∃ vp vr vb, cs = [.int .i64 x.regs, vp, vr, vb] ∧ tyR.sl c vp x.params ∧ tyR.sl c vr x.results ∧ blockR.sl c vb x.blocks := h
theorem Q31 {c : Cx} {cs : List Value} {x : Module} (h : modR.at c cs x) : ∃ vf, cs = [vf] ∧ funcR.sl c vf x.funcs := h

/-! ### codecs -/
section
variable {P : Program} {T : TypeId}
/-- A field as a kind of data. -/
theorem Cod.Of.part {α : Type} {r : Rep α} (c : Cod.Of P T r) {H : Heap} {cs : List Value} {x : α} (h : c.cod.rd H cs x) : r.R H (· < H.size) cs x := c.rd _ _ _ h
def Cod.Of.to {TI TL : TypeId} (ci : Cod.Of P TI intR) (cl : Cod.Of P TL intR.list) (h0 : fieldAt P T 0 = some (0, 1, TI)) (h1 : fieldAt P T 1 = some (1, 1, TL)) (h2 : fieldAt P T 2 = some (2, 1, TL)) (hT : P.cellsOf T = 3) : Cod.Of P T toR :=
  Cod.of (Fld.cod (Fld.more ci.cod h0 (Fld.more cl.cod h1 (Fld.more cl.cod h2 Fld.none))) h0 3 hT) toR rfl fun H cs x h => by
    obtain ⟨hl, g0, g1, g2, _⟩ := h
    match cs, hl with
    | [a, b, c], _ =>
      have e0 : [a] = [_] := ci.part g0
      obtain ⟨v1, e1, s1⟩ := cl.part g1
      obtain ⟨v2, e2, s2⟩ := cl.part g2
      replace e1 : [b] = [v1] := e1
      replace e2 : [c] = [v2] := e2
      simp only [List.cons.injEq, and_true] at e0 e1 e2
      subst e0 e1 e2
      exact ⟨⟨x.1, x.2.1, x.2.2.1⟩, b, c, rfl, s1, s2⟩
def Cod.Of.ins {TI TL TN : TypeId} (ci : Cod.Of P TI intR) (cn : Cod.Of P TN intR) (cl : Cod.Of P TL intR.list) (h0 : fieldAt P T 0 = some (0, 1, TI)) (h1 : fieldAt P T 1 = some (1, 1, TI)) (h2 : fieldAt P T 2 = some (2, 1, TI)) (h3 : fieldAt P T 3 = some (3, 1, TI)) (h4 : fieldAt P T 4 = some (4, 1, TI)) (h5 : fieldAt P T 5 = some (5, 1, TN)) (h6 : fieldAt P T 6 = some (6, 1, TL)) (h7 : fieldAt P T 7 = some (7, 1, TL)) (hT : P.cellsOf T = 8) : Cod.Of P T insR :=
  Cod.of (Fld.cod (Fld.more ci.cod h0 (Fld.more ci.cod h1 (Fld.more ci.cod h2 (Fld.more ci.cod h3 (Fld.more ci.cod h4 (Fld.more cn.cod h5 (Fld.more cl.cod h6 (Fld.more cl.cod h7 Fld.none)))))))) h0 8 hT) insR rfl fun H cs x h => by
    obtain ⟨hl, g0, g1, g2, g3, g4, g5, g6, g7, _⟩ := h
    match cs, hl with
    | [a0, a1, a2, a3, a4, a5, a6, a7], _ =>
      have e0 : [a0] = [_] := ci.part g0
      have e1 : [a1] = [_] := ci.part g1
      have e2 : [a2] = [_] := ci.part g2
      have e3 : [a3] = [_] := ci.part g3
      have e4 : [a4] = [_] := ci.part g4
      have e5 : [a5] = [_] := cn.part g5
      obtain ⟨v1, e6, s1⟩ := cl.part g6
      obtain ⟨v2, e7, s2⟩ := cl.part g7
      replace e6 : [a6] = [v1] := e6
      replace e7 : [a7] = [v2] := e7
      simp only [List.cons.injEq, and_true] at e0 e1 e2 e3 e4 e5 e6 e7
      subst e0 e1 e2 e3 e4 e5 e6 e7
      exact ⟨⟨x.1, x.2.1, x.2.2.1, x.2.2.2.1, x.2.2.2.2.1, x.2.2.2.2.2.1, x.2.2.2.2.2.2.1, x.2.2.2.2.2.2.2.1⟩, _, _, rfl, s1, s2⟩
def Cod.Of.endp {TI TL TT : TypeId} (ci : Cod.Of P TI intR) (cl : Cod.Of P TL intR.list) (ct : Cod.Of P TT toR) (h0 : fieldAt P T 0 = some (0, 1, TI)) (h1 : fieldAt P T 1 = some (1, 1, TI)) (h2 : fieldAt P T 2 = some (2, 3, TT)) (h3 : fieldAt P T 3 = some (5, 3, TT)) (h4 : fieldAt P T 4 = some (8, 1, TL)) (hT : P.cellsOf T = 9) : Cod.Of P T endR :=
  Cod.of (Fld.cod (Fld.more ci.cod h0 (Fld.more ci.cod h1 (Fld.more ct.cod h2 (Fld.more ct.cod h3 (Fld.more cl.cod h4 Fld.none))))) h0 9 hT) endR rfl fun H cs x h => by
    obtain ⟨hl, g0, g1, g2, g3, g4, _⟩ := h
    match cs, hl with
    | [a0, a1, a2, a3, a4, a5, a6, a7, a8], _ =>
      have e0 : [a0] = [_] := ci.part g0
      have e1 : [a1] = [_] := ci.part g1
      obtain ⟨v1, v2, e2, s1, s2⟩ := ct.part g2
      obtain ⟨v3, v4, e3, s3, s4⟩ := ct.part g3
      obtain ⟨v5, e4, s5⟩ := cl.part g4
      replace e2 : [a2, a3, a4] = _ := e2
      replace e3 : [a5, a6, a7] = _ := e3
      replace e4 : [a8] = _ := e4
      simp only [List.cons.injEq, and_true] at e0 e1 e2 e3 e4
      obtain ⟨q2, q3, q4⟩ := e2
      obtain ⟨q5, q6, q7⟩ := e3
      subst e0 e1 q2 q3 q4 q5 q6 q7 e4
      exact ⟨⟨x.1, x.2.1, x.2.2.1, x.2.2.2.1, x.2.2.2.2.1⟩, _, _, _, _, _, rfl, s1, s2, s3, s4, s5⟩
def Cod.Of.block {TI TL TC TE : TypeId} (ci : Cod.Of P TI intR) (cl : Cod.Of P TL tyR.list) (cc : Cod.Of P TC insR.list) (ce : Cod.Of P TE endR) (h0 : fieldAt P T 0 = some (0, 1, TI)) (h1 : fieldAt P T 1 = some (1, 1, TL)) (h2 : fieldAt P T 2 = some (2, 1, TC)) (h3 : fieldAt P T 3 = some (3, 9, TE)) (hT : P.cellsOf T = 12) : Cod.Of P T blockR :=
  Cod.of (Fld.cod (Fld.more ci.cod h0 (Fld.more cl.cod h1 (Fld.more cc.cod h2 (Fld.more ce.cod h3 Fld.none)))) h0 12 hT) blockR rfl fun H cs x h => by
    obtain ⟨hl, g0, g1, g2, g3, _⟩ := h
    match cs, hl with
    | [a0, a1, a2, a3, a4, a5, a6, a7, a8, a9, a10, a11], _ =>
      have e0 : [a0] = [_] := ci.part g0
      obtain ⟨v1, e1, s1⟩ := cl.part g1
      obtain ⟨v2, e2, s2⟩ := cc.part g2
      have s3 := ce.part g3
      replace e1 : [a1] = _ := e1
      replace e2 : [a2] = _ := e2
      replace s3 : endR.R H (· < H.size) [a3, a4, a5, a6, a7, a8, a9, a10, a11] x.2.2.2.1 := s3
      simp only [List.cons.injEq, and_true] at e0 e1 e2
      subst e0 e1 e2
      exact ⟨⟨x.1, x.2.1, x.2.2.1, x.2.2.2.1⟩, _, _, _, rfl, s1, s2, s3⟩
def Cod.Of.func {TI TL TB : TypeId} (ci : Cod.Of P TI intR) (cl : Cod.Of P TL tyR.list) (cb : Cod.Of P TB blockR.list) (h0 : fieldAt P T 0 = some (0, 1, TI)) (h1 : fieldAt P T 1 = some (1, 1, TL)) (h2 : fieldAt P T 2 = some (2, 1, TL)) (h3 : fieldAt P T 3 = some (3, 1, TB)) (hT : P.cellsOf T = 4) : Cod.Of P T funcR :=
  Cod.of (Fld.cod (Fld.more ci.cod h0 (Fld.more cl.cod h1 (Fld.more cl.cod h2 (Fld.more cb.cod h3 Fld.none)))) h0 4 hT) funcR rfl fun H cs x h => by
    obtain ⟨hl, g0, g1, g2, g3, _⟩ := h
    match cs, hl with
    | [a0, a1, a2, a3], _ =>
      have e0 : [a0] = [_] := ci.part g0
      obtain ⟨v1, e1, s1⟩ := cl.part g1
      obtain ⟨v2, e2, s2⟩ := cl.part g2
      obtain ⟨v3, e3, s3⟩ := cb.part g3
      replace e1 : [a1] = _ := e1
      replace e2 : [a2] = _ := e2
      replace e3 : [a3] = _ := e3
      simp only [List.cons.injEq, and_true] at e0 e1 e2 e3
      subst e0 e1 e2 e3
      exact ⟨⟨x.1, x.2.1, x.2.2.1, x.2.2.2.1⟩, _, _, _, rfl, s1, s2, s3⟩
def Cod.Of.mod {TF : TypeId} (cf : Cod.Of P TF funcR.list) (h0 : fieldAt P T 0 = some (0, 1, TF)) (hT : P.cellsOf T = 1) : Cod.Of P T modR :=
  Cod.of (Fld.cod (Fld.more cf.cod h0 Fld.none) h0 1 hT) modR rfl fun H cs x h => by
    obtain ⟨hl, g0, _⟩ := h
    match cs, hl with
    | [a0], _ =>
      obtain ⟨v1, e1, s1⟩ := cf.part g0
      replace e1 : [a0] = _ := e1
      simp only [List.cons.injEq, and_true] at e1
      subst e1
      exact ⟨⟨x.1⟩, _, rfl, s1⟩
end
end Go.Lir
namespace Go.Proofs.YtanlkfeogoganaaGreat
open Go.Lir
def cInt : Cod.Of Tryz.prog 3 intR := Cod.Of.int (by kernel_rfl) (by kernel_rfl)
def cLong : Cod.Of Tryz.prog 2 intR := Cod.Of.int (by kernel_rfl) (by kernel_rfl)
def cInts : Cod.Of Tryz.prog 41 intR.list := Cod.Of.list cInt (by kernel_rfl) (by kernel_rfl) (by kernel_rfl)
def cTy : Cod.Of Tryz.prog 112 tyR := Cod.Of.ty (TL := 50) (t0 := 3) (t1 := 3) (by kernel_rfl) (by kernel_rfl) (by kernel_rfl) (by kernel_rfl) (by kernel_rfl) (by kernel_rfl) (by kernel_rfl) (by kernel_rfl)
def cTys : Cod.Of Tryz.prog 50 tyR.list := Cod.Of.list cTy (by kernel_rfl) (by kernel_rfl) (by kernel_rfl)
def cIns : Cod.Of Tryz.prog 57 insR := Cod.Of.ins cInt cLong cInts (by kernel_rfl) (by kernel_rfl) (by kernel_rfl) (by kernel_rfl) (by kernel_rfl) (by kernel_rfl) (by kernel_rfl) (by kernel_rfl) (by kernel_rfl)
def cInss : Cod.Of Tryz.prog 40 insR.list := Cod.Of.list cIns (by kernel_rfl) (by kernel_rfl) (by kernel_rfl)
def cTo : Cod.Of Tryz.prog 43 toR := Cod.Of.to cInt cInts (by kernel_rfl) (by kernel_rfl) (by kernel_rfl) (by kernel_rfl)
def cEnd : Cod.Of Tryz.prog 45 endR := Cod.Of.endp cInt cInts cTo (by kernel_rfl) (by kernel_rfl) (by kernel_rfl) (by kernel_rfl) (by kernel_rfl) (by kernel_rfl)
def cBlock : Cod.Of Tryz.prog 79 blockR := Cod.Of.block cInt cTys cInss cEnd (by kernel_rfl) (by kernel_rfl) (by kernel_rfl) (by kernel_rfl) (by kernel_rfl)
def cBlocks : Cod.Of Tryz.prog 51 blockR.list := Cod.Of.list cBlock (by kernel_rfl) (by kernel_rfl) (by kernel_rfl)
def cFunc : Cod.Of Tryz.prog 53 funcR := Cod.Of.func cInt cTys cBlocks (by kernel_rfl) (by kernel_rfl) (by kernel_rfl) (by kernel_rfl) (by kernel_rfl)
def cFuncs : Cod.Of Tryz.prog 22 funcR.list := Cod.Of.list cFunc (by kernel_rfl) (by kernel_rfl) (by kernel_rfl)
def cMod : Cod.Of Tryz.prog 24 modR := Cod.Of.mod cFuncs (by kernel_rfl) (by kernel_rfl)
end Go.Proofs.YtanlkfeogoganaaGreat
namespace Go.Lir
def Qpc (b : UInt8) : List Value := [.int .u8 (b.toNat : Int)]
def u8R : Rep UInt8 := Rep.lit (fun b => .int .u8 (b.toNat : Int)) (fun _ => rfl)
theorem u8R_out {c : Cx} {cs : List Value} {b : UInt8} (h : u8R.at c cs b) : cs = [.int .u8 (b.toNat : Int)] := h
theorem u8R_ls {c : Cx} (l : List UInt8) : u8R.ls c (l.map Qpc) l := ⟨by simp, fun m x hx => ⟨Qpc x, by rw [List.getElem?_map, hx]; rfl, rfl⟩⟩
theorem Rep.LR.u8 {r : Rep UInt8} {H : Heap} {K : Nat → Prop} {css : List (List Value)} {l : List UInt8} (hr : r = u8R) (h : r.LR H K css l) : css = l.map Qpc := by
  subst hr
  apply List.ext_getElem?
  intro m
  rw [List.getElem?_map]
  rcases Nat.lt_or_ge m l.length with hm | hm
  · obtain ⟨d, h4, h5⟩ := h.2 m _ (List.getElem?_eq_getElem hm)
    have h5 : d = [_] := h5
    rw [h4, List.getElem?_eq_getElem hm, h5]; rfl
  · rw [List.getElem?_eq_none (by rw [h.1]; exact hm), List.getElem?_eq_none hm]; rfl
section
variable {P : Program} {l : List GO} {Q : QT} {ρ : Env} {w : World} {c : Cx} {L : List Res} {v : Value}
theorem Qrw (s : List UInt8) : (s.map Qpc).flatten = s.map fun b => Value.int .u8 (b.toNat : Int) := by
  induction s with
  | nil => rfl
  | cons b s ih => simp [Qpc, ih]
/-- []byte(s) -/
theorem s_bytes {d src dst e Ty : Nat} {x : Operand} {s : ByteArray} (hs : P.underlying src = some .string) (hd : P.underlying dst = some (.slice e)) (he : P.underlying e = some (.int .u8)) (hS : St c w L) (hx : ρ.ev x = .string s)
    (h : ∀ v' w', St c w' (sl e 1 v' (s.data.toList.map Qpc) :: L) → Q5 P l Q (upd ρ d v') w') : Q5 P (⟨none, .raw ⟨some d, .convert src dst x, Ty, "", #[], none⟩⟩ :: l) Q ρ w := by
  have hr := run_bytes_of_string (P := P) w src dst e s hs hd he
  have hge := grownCap_ge w s.size 0 e
  generalize hcap : grownCap w s.size 0 e = cap at hr hge
  refine Q1a (v := .slice (some ⟨w.heap.size, 0, none⟩) s.size cap) (w' := w.drew.alloc (.cells (bytesRow s cap) e ((bytesRow s cap).size, (bytesRow s cap).size + 1))) ?_ ?_
  · simp only [execOp, hx, Sem.run_bind, hr, Result.andThen_ok, Sem.run_pure]
  · have hsz : s.data.size = s.size := rfl
    have hrow : (bytesRow s cap).size = cap := by simp [bytesRow]; omega
    refine h _ _ (hS.new (F' := (· = w.heap.size)) ?_ (((Fr.refl NF w).drew').then0 (Q5h w.drew _)) fun b hb => by omega)
    refine ⟨by intro q hq; obtain ⟨b, _, rfl⟩ := List.mem_map.1 hq; rfl, .inr ⟨w.heap.size, 0, cap, (bytesRow s cap).toList, ?_, ?_, ?_, ?_, ?_, fun _ => Iff.rfl⟩⟩
    · have : (List.map Qpc s.data.toList).length = s.size := by rw [List.length_map, Array.length_toList]; rfl
      rw [this]
    · have : (List.map Qpc s.data.toList).length = s.size := by rw [List.length_map, Array.length_toList]; rfl
      rw [this]; exact hge
    · refine ⟨((bytesRow s cap).size, (bytesRow s cap).size + 1), ?_, ?_⟩
      · show (w.heap.push _)[w.heap.size]? = _
        rw [Array.getElem?_push_size]
      · refine ⟨fun i h1 h2 => ?_, by simp⟩
        simp only [Array.length_toList] at *; omega
    · simp [hrow]
    · intro i hi
      rw [Qrw]
      simp only [List.length_map, Array.length_toList, Nat.mul_one] at hi
      rw [Nat.zero_add, Array.getElem?_toList, bytesRow_at s cap i hi, List.getElem?_map, Array.getElem?_toList, Array.getElem?_eq_getElem hi]; rfl
/-- A part of an array that is a value. -/
theorem s_idxv {d T Ty e n : Nat} {x y : Operand} {k : IntKind} {m : Int} {cs : List Value} {u : Value} (hT : P.underlying T = some (.array n e)) (he : Q3q P e = true) (hsz : Q3K P e = some 1) (hx : ρ.ev x = .agg ⟨cs⟩) (hy : ρ.ev y = .int k m) (h0 : 0 ≤ m) (hm : m < n) (hu : cs[m.toNat]? = some u)
    (h : Q5 P l Q (upd ρ d u) w) : Q5 P (⟨none, .raw ⟨some d, .index T x y, Ty, "", #[], none⟩⟩ :: l) Q ρ w := by
  refine Q1a (v := u) (w' := w) ?_ h
  simp only [execOp, hx, hy, Instr.index, Sem.run_bind, asIntOf, Sem.run_pure, Result.andThen_ok, Qb P T _ w hT]
  rw [if_pos ⟨h0, hm⟩]
  simp only [Sem.run_bind, Q19 P e 1 w hsz, Result.andThen_ok, Nat.mul_one, QmN P e ⟨cs⟩ _ _ w he (by simpa using hu)]
end
end Go.Lir
namespace Go.Lir

/-! ### A call that returns, or panics with one value -/

def Fins (P : Program) (f : FuncId) (args : List Value) (w : World) (S T : Value → World → Prop) : Prop :=
  Calls P f ⟨args⟩ w fun e w' => (∃ v, e = .returned v ∧ S v w') ∨ (∃ v, e = .panicked [{ v := v, recovered := false }] ∧ T v w')

theorem Fins.mono {P : Program} {f : FuncId} {args : List Value} {w : World} {S S' T T' : Value → World → Prop} (h : Fins P f args w S T) (hs : ∀ v w', S v w' → S' v w') (ht : ∀ v w', T v w' → T' v w') : Fins P f args w S' T' :=
  Calls.mono h fun _ _ h => h.elim (fun ⟨v, he, hv⟩ => .inl ⟨v, he, hs _ _ hv⟩) (fun ⟨v, he, hv⟩ => .inr ⟨v, he, ht _ _ hv⟩)
theorem Rets.ends {P : Program} {f : FuncId} {args : List Value} {w : World} {S T : Value → World → Prop} (h : Rets P f args w S) : Fins P f args w S T :=
  Calls.mono h fun _ _ h => .inl h
section
variable {P : Program} {l : List GO} {Q : QT} {ρ : Env} {w : World}
theorem Quz {d : Nat} {f : FuncId} {xs : List Operand} {args : List Value} {S T : Value → World → Prop} (hxs : xs.map ρ.ev = args) (hc : Fins P f args w S T)
    (hp : ∀ v w', T v w' → Q (.panic [{ v := v, recovered := false }]) ρ w') (h : ∀ v w', S v w' → Q5 P l Q (upd ρ d v) w') : Q5 P (⟨none, .call (some d) f xs⟩ :: l) Q ρ w := by
  subst hxs
  refine Calls.mono hc fun e w' h' => ?_
  rcases h' with ⟨v, he, hs⟩ | ⟨v, he, hs⟩
  · subst he; exact h v w' hs
  · subst he; exact hp v w' hs
theorem s_endsv {d : Nat} {x : Operand} {os : List Operand} {f : FuncId} {args cap : List Value} {S T : Value → World → Prop} (hx : ρ.ev x = .func (.func f) #[] ⟨cap⟩) (hf : Q4H P f = true) (hxs : os.map ρ.ev ++ cap = args) (hc : Fins P f args w S T)
    (hp : ∀ v w', T v w' → Q (.panic [{ v := v, recovered := false }]) ρ w') (h : ∀ v w', S v w' → Q5 P l Q (upd ρ d v) w') : Q5 P (⟨none, .callv (some d) x os⟩ :: l) Q ρ w := by
  unfold Q4H at hf
  rw [Option.any_eq_true] at hf
  obtain ⟨fn, h1, h2⟩ := hf
  rw [Bool.and_eq_true, Bool.not_eq_true'] at h2
  refine QuA hx h1 h2.1 h2.2 hxs hc ?_
  intro e w' h'
  rcases h' with ⟨v, rfl, hs⟩ | ⟨v, rfl, hs⟩
  · exact h v w' hs
  · exact hp v w' hs
theorem Qw {K : KT} {ch : List PanicEntry} (h : Q (.panic ch) ρ w) : Q11 K Q (.panic ch) ρ w := h
theorem Qz {id : Nat} {ch : List PanicEntry} (h : Q (.panic ch) ρ w) : Q1c id Q (.panic ch) ρ w := h
theorem QX {rs : List ResultVar} {R : Ending → World → Prop} {ch : List PanicEntry} (h : R (.panicked ch) w) : retQ P rs R (.panic ch) ρ w := h
theorem s_panic {d : Option Nat} {x : Operand} {Ty T : TypeId} {v : Value} (hx : ρ.ev x = .iface T v) (h : Q (.panic [{ v := .iface T v, recovered := false }]) ρ w) : Q5 P (⟨none, .raw ⟨d, .panic x, Ty, "", #[], none⟩⟩ :: l) Q ρ w := by
  refine (?_ : Q5G P _ ρ w _ Q)
  unfold Q5G
  have e : (execOp ρ.ev ⟨d, .panic x, Ty, "", #[], none⟩).run P w = .halt (.panic (.iface T v)) w := by
    simp [execOp, Instr.panic, hx, goPanic, Sem.run]
  rw [e]; exact h
theorem s_assert {d : Nat} {x : Operand} {Ty T xT : TypeId} {v : Value} {D : TypeDesc} (hd : P.underlying T = some D) (hi : ∀ m, D ≠ .interface m) (hx : ρ.ev x = .iface T v)
    (h : Q5 P l Q (upd ρ d (.tuple #[v, .bool true])) w) : Q5 P (⟨none, .raw ⟨some d, .typeAssert x xT T true, Ty, "", #[], none⟩⟩ :: l) Q ρ w := by
  refine Q1a (v := .tuple #[v, .bool true]) (w' := w) ?_ h
  simp only [execOp, Instr.typeAssert, hx, Sem.run_bind, Qb P T D w hd, Result.andThen_ok]
  cases D <;> first | (exact absurd rfl (hi _)) | simp
end

/-! ### Deferred calls: lowered code in which one is put off -/

inductive LSp where
  | dfr (d : Option Nat) (x : Operand)
  | rcv (d : Option Nat)

inductive LD where
  | pl (c : LC)
  | seq (a b : LD)
  | sp (l1 : List GO) (o : LSp) (l2 : List GO)

def spOf (o : Oper) : Option LSp := match o.guard, o.op with
  | none, .defer ⟨.value x, xs, _⟩ => if xs.size = 0 then some (.dfr o.dst x) else none
  | none, .call ⟨.builtin .recover, xs, _⟩ => if xs.size = 0 then some (.rcv o.dst) else none
  | _, _ => none
def hasSp : Code → Bool
  | .seq a b => hasSp a || hasSp b
  | .region _ ops _ => ops.toList.any fun o => (spOf o).isSome
  | _ => false
def QgQ : List Oper → Option (List Oper × Oper × LSp × List Oper)
  | [] => none
  | o :: r => match spOf o with
    | some s => some ([], o, s, r)
    | none => (QgQ r).map fun p => (o :: p.1, p.2)
def lowD (P : Program) (n : Nat) : Code → LD
  | .seq a b => if hasSp a || hasSp b then .seq (lowD P n a) (lowD P n b) else .pl (Q3s P n (.seq a b))
  | .region id ops false => match QgQ ops.toList with
    | some (l1, o, s, l2) => if ops.toList.all (okG n ops) then .sp (l1.map (Q32 P ops)) s (l2.map (Q32 P ops)) else .pl .bad
    | none => .pl (Q3s P n (.region id ops false))
  | c => .pl (Q3s P n c)
def QtK (P : Program) (fn : Func) : Option LD := fn.body.map (lowD P fn.ntmps)

def LD.wpD (P : Program) : LD → (List Deferred → QT) → List Deferred → Env → World → Prop
  | .pl c, Q, ds, ρ, w => c.wp P (Q ds) ρ w
  | .seq a b, Q, ds, ρ, w => a.wpD P (fun ds' => Q11 (b.wpD P Q ds') (Q ds')) ds ρ w
  | .sp l1 (.dfr d x) l2, Q, ds, ρ, w => Q5 P l1 (Q11 (fun ρ w => ∃ f cap, ρ.ev x = .func (.func f) #[] cap ∧ Q5 P l2 (Q (⟨.fn (.func f) cap, #[]⟩ :: ds)) (updo ρ d undef) w) (Q ds)) ρ w
  | _, _, _, _, _ => False

theorem Q5D : ∀ {ops l1 l2 : List Oper} {o : Oper} {s : LSp}, QgQ ops = some (l1, o, s, l2) → ops = l1 ++ o :: l2 ∧ spOf o = some s
  | [], _, _, _, _, h => by simp [QgQ] at h
  | o' :: r, l1, l2, o, s, h => by
    rw [QgQ] at h
    cases hs : spOf o' with
    | some s' =>
      simp only [hs, Option.some.injEq, Prod.mk.injEq] at h
      obtain ⟨rfl, rfl, rfl, rfl⟩ := h
      exact ⟨rfl, hs⟩
    | none =>
      simp only [hs, Option.map_eq_some_iff] at h
      obtain ⟨⟨a, b, c, d⟩, h1, h2⟩ := h
      simp only [Prod.mk.injEq] at h2
      obtain ⟨rfl, rfl, rfl, rfl⟩ := h2
      obtain ⟨h3, h4⟩ := Q5D h1
      exact ⟨by rw [h3]; rfl, h4⟩

theorem QaP {P : Program} {o : Oper} {a : Act} {K K' : Act → World → Prop} {Q Q' : Exit → Act → World → Prop} (hk : ∀ a w, K a w → K' a w) (hp : ∀ ch a w, Q (.panic ch) a w → Q' (.panic ch) a w) (ho : LetsOut Q → LetsOut Q') (r : Result Next) (h : o.upon P a K Q r) : o.upon P a K' Q' r := by
  cases r with
  | ok n w =>
    cases n <;> first | exact hk _ _ h | exact h | skip
    · refine Calls.mono h fun e w h => ?_
      cases e <;> first | exact hk _ _ h | exact hp _ _ _ h | exact ho h
    · exact Rows.mono h fun v w h => hk _ _ h
  | halt x w => cases x <;> first | exact hp _ _ _ h | exact h

theorem Q40 {P : Program} {ops : Array Oper} {Q : Exit → Act → World → Prop} {l2 : List Nat} : ∀ (l1 : List Nat) (a : Act) (w : World),
    wpOps P ops (Exit.then (wpOps P ops Q l2) Q) l1 a w → wpOps P ops Q (l1 ++ l2) a w
  | [], a, w, h => h
  | i :: l1, a, w, h => by
    simp only [List.cons_append, wpOps] at h ⊢
    cases ho : ops[i]? with
    | none => simp only [ho] at h ⊢; exact Q40 l1 a w h
    | some o =>
      simp only [ho] at h ⊢
      split
      · rename_i hw
        rw [if_pos hw] at h
        rcases h with h | ⟨h1, h2⟩
        · exact .inl (QaP (fun a w h => Q40 l1 a w h) (fun ch a w h => h) (fun h => h) _ h)
        · exact .inr ⟨h1, h2⟩
      · rename_i hw
        rw [if_neg hw] at h
        exact Q40 l1 _ w h
theorem Q3H {P : Program} {ops : Array Oper} {Q Q' : Exit → Act → World → Prop} (hq : ∀ e a w, Q e a w → Q' e a w) : ∀ (l : List Nat) (a : Act) (w : World), wpOps P ops Q l a w → wpOps P ops Q' l a w
  | [], a, w, h => hq _ _ _ h
  | i :: l, a, w, h => by
    simp only [wpOps] at h ⊢
    have ho' : LetsOut Q → LetsOut Q' := fun ⟨a, w, h⟩ => ⟨a, w, hq _ _ _ h⟩
    cases ho : ops[i]? with
    | none => simp only [ho] at h ⊢; exact Q3H hq l a w h
    | some o =>
      simp only [ho] at h ⊢
      split
      · rename_i hw
        rw [if_pos hw] at h
        rcases h with h | ⟨h1, h2⟩
        · exact .inl (QaP (fun a w h => Q3H hq l a w h) (fun ch a w h => hq _ _ _ h) ho' _ h)
        · exact .inr ⟨h1, ho' h2⟩
      · rename_i hw
        rw [if_neg hw] at h
        exact Q3H hq l _ w h

def liftD (n : Nat) (Q : List Deferred → QT) : Exit → Act → World → Prop := fun e a w => ∃ ds, Qpr n ds (Q ds) e a w

theorem Qpk {α : Type} {ops l1 l2 : List α} {o : α} (h : ops = l1 ++ o :: l2) : List.range ops.length = List.range l1.length ++ l1.length :: (List.range l2.length).map (l1.length + 1 + ·) := by
  subst h
  apply List.ext_getElem
  · simp
  · intro i h1 h2
    rw [List.getElem_range]
    rcases Nat.lt_trichotomy i l1.length with h | h | h
    · rw [List.getElem_append_left (by simpa using h), List.getElem_range]
    · subst h; rw [List.getElem_append_right (by simp)]; simp
    · rw [List.getElem_append_right (by simpa using Nat.le_of_lt h)]
      simp only [List.length_range]
      rw [List.getElem_cons]
      rw [dif_neg (by omega), List.getElem_map, List.getElem_range]; omega
theorem Que {α β : Type} {ops l1 l2 : List α} {o : α} (g : α → β) (h : ops = l1 ++ o :: l2) : ((List.range l2.length).map (l1.length + 1 + ·)).filterMap (fun i => (ops[i]?).map g) = l2.map g := by
  subst h
  rw [List.filterMap_map]
  have : ∀ i, ((fun i => ((l1 ++ o :: l2)[i]?).map g) ∘ (l1.length + 1 + ·)) i = (l2[i]?).map g := by
    intro i
    simp only [Function.comp]
    rw [List.getElem?_append_right (by omega)]
    rw [show l1.length + 1 + i - l1.length = i + 1 by omega, List.getElem?_cons_succ]
  rw [Q2L (fun i _ => this i)]
  have := Q3M g l2 []
  simpa [List.range_eq_range'] using this
theorem Qt8 {α β : Type} {ops l1 l2 : List α} {o : α} (g : α → β) (h : ops = l1 ++ o :: l2) : (List.range l1.length).filterMap (fun i => (ops[i]?).map g) = l1.map g := by
  subst h
  have : ∀ i ∈ List.range l1.length, ((l1 ++ o :: l2)[i]?).map g = (l1[i]?).map g := by
    intro i hi
    rw [List.getElem?_append_left (by simpa using hi)]
  rw [Q2L this]
  have := Q3M g l1 []
  simpa [List.range_eq_range'] using this

theorem QtL {P : Program} {n : Nat} : ∀ (c : Code) (Q : List Deferred → QT) (ds : List Deferred) (ρ : Env) (a : Act) (w : World), Rel n ρ ds a → (lowD P n c).wpD P Q ds ρ w → c.wp P (liftD n Q) a w := by
  have hpl : ∀ (c : Code) (Q : List Deferred → QT) (ds : List Deferred) (ρ : Env) (a : Act) (w : World), Rel n ρ ds a → (Q3s P n c).wp P (Q ds) ρ w → c.wp P (liftD n Q) a w := fun c Q ds ρ a w hr h =>
    wp_mono (Q5Q c _ ρ a w hr h) fun e a w h => ⟨ds, h⟩
  intro c
  induction c with
  | seq x y ihx ihy =>
    intro Q ds ρ a w hr h
    rw [lowD] at h
    split at h
    · refine wp_seq ?_
      refine wp_mono (ihx _ ds ρ a w hr h) ?_
      rintro e a w ⟨ds', ρ', hr', h'⟩
      cases e with
      | normal => exact ihy _ ds' ρ' a w hr' h'
      | _ => exact ⟨ds', ρ', hr', h'⟩
    · exact hpl _ Q ds ρ a w hr h
  | region id ops draw =>
    intro Q ds ρ a w hr h
    cases draw with
    | true => exact hpl _ Q ds ρ a w hr h
    | false =>
      rw [lowD] at h
      split at h
      · rename_i l1 o s l2 hs
        obtain ⟨hops, hsp⟩ := Q5D hs
        split at h
        · rename_i hall
          have hok : ∀ i o, ops[i]? = some o → okG n ops o = true := fun i o hi => List.all_eq_true.1 hall o (by rw [← Array.getElem?_toList] at hi; exact List.mem_of_getElem? hi)
          have hsz : ops.size = ops.toList.length := by simp
          have hgm : ∀ (l : List Nat), (l.filterMap fun i => (ops[i]?).map (Q32 P ops)) = l.filterMap fun i => (ops.toList[i]?).map (Q32 P ops) := fun l => by simp
          have hlen : ops.toList.length = l1.length + 1 + l2.length := by rw [hops]; simp; omega
          have hrange : ∀ (l : List Nat), (∀ i ∈ l, i < ops.size) → ∀ i ∈ l, ∃ o, ops[i]? = some o ∧ okG n ops o = true := fun l hl i hi => ⟨ops[i]'(hl i hi), by simp [hl i hi], hok i _ (by simp [hl i hi])⟩
          refine wp_region ?_
          rw [hsz, Qpk hops]
          refine Q40 _ _ _ ?_
          cases s with
          | rcv d => exact h.elim
          | dfr d x =>
            have h1 := Q6q (Q := Q11 (fun ρ w => ∃ f cap, ρ.ev x = .func (.func f) #[] cap ∧ Q5 P (l2.map (Q32 P ops)) (Q (⟨.fn (.func f) cap, #[]⟩ :: ds)) (updo ρ d undef) w) (Q ds)) (ds := ds) (List.range l1.length) ρ a w hr
              (hrange _ fun i hi => by rw [hsz, hlen]; have := List.mem_range.1 hi; omega) (by rw [hgm, Qt8 _ hops]; exact h)
            refine Q3H ?_ _ _ _ h1
            rintro e a w ⟨ρ', hr', h'⟩
            cases e with
            | normal =>
              obtain ⟨f, cap, hf, h'⟩ := h'
              have hoi : ops[l1.length]? = some o := by rw [← Array.getElem?_toList, hops]; simp
              refine (?_ : wpOps P ops _ (l1.length :: _) a w)
              simp only [wpOps, hoi]
              have hg : o.guard = none ∧ ∃ ts, ∃ xs : Array Operand, o.op = .defer ⟨.value x, xs, ts⟩ ∧ xs.size = 0 ∧ o.dst = d := by
                unfold spOf at hsp
                split at hsp
                · rename_i x' xs' ts' hg ho
                  split at hsp
                  · rename_i hx0
                    simp only [Option.some.injEq, LSp.dfr.injEq] at hsp
                    obtain ⟨g1, g2⟩ := hsp
                    subst g2
                    exact ⟨hg, ts', xs', ho, hx0, g1⟩
                  · cases hsp
                · split at hsp <;> cases hsp
                · cases hsp
              obtain ⟨hgd, ts, xs, hop, hxs, hd⟩ := hg
              have hxs' : xs = #[] := Array.eq_empty_of_size_eq_zero hxs
              subst hxs'
              rw [if_pos (by simp [Region.wanted, hgd])]
              refine .inl ?_
              unfold Oper.wp
              have e1 : (execOp a.eval o).run P w = .ok (.defer ⟨.fn (.func f) cap, #[]⟩) w := by
                simp [execOp, hop, resolve, hr'.ev, hf, Deferred.ofValue]
              rw [e1, Oper.upon_defer, hd]
              have hdn := QaV (hok _ o hoi)
              rw [hd] at hdn
              have hr2 : Rel n (updo ρ' d undef) (⟨.fn (.func f) cap, #[]⟩ :: ds) ({ a with defers := ⟨.fn (.func f) cap, #[]⟩ :: a.defers }.put d undef) := by
                have hr3 : Rel n ρ' (⟨.fn (.func f) cap, #[]⟩ :: ds) { a with defers := ⟨.fn (.func f) cap, #[]⟩ :: a.defers } := ⟨hr'.1, hr'.2.1, by simp [hr'.2.2]⟩
                exact hr3.put d undef hdn
              have h2 := Q6q (Q := Q (⟨.fn (.func f) cap, #[]⟩ :: ds)) (ds := ⟨.fn (.func f) cap, #[]⟩ :: ds) _ _ _ w hr2
                (hrange ((List.range l2.length).map (l1.length + 1 + ·)) fun i hi => by rw [hsz, hlen]; rw [List.mem_map] at hi; obtain ⟨j, hj, rfl⟩ := hi; have := List.mem_range.1 hj; omega) (by rw [hgm, Que _ hops]; exact h')
              exact Q3H (fun e a w h => ⟨_, h⟩) _ _ _ h2
            | _ => exact ⟨ds, ρ', hr', h'⟩
        · exact h.elim
      · exact hpl _ Q ds ρ a w hr h
  | _ => exact hpl _

/-- What becomes of a function's end, its deferred calls still to come. -/
def Q4n (P : Program) (rs : List ResultVar) (ρ : Env) (R : Ending → World → Prop) : List Deferred → FrameMode → World → Prop
  | [], .returning, w => Q2b P w ρ rs [] fun v => R (.returned v) w
  | [], .panicking chain, w => R (.panicked chain) w
  | [], .run, _ => False
  | d :: ds, u, w => u ≠ .run ∧ ∃ f cap, d = ⟨.fn (.func f) cap, #[]⟩ ∧ Q4H P f = true ∧ CallsD P f cap u w fun
      | .returned _, u', w' => Q4n P rs ρ R ds (settle u') w'
      | .panicked chain, u', w' => Q4n P rs ρ R ds (raised u' chain) w'
      | .outgrown, _, w' => R .outgrown w'
def retD (P : Program) (rs : List ResultVar) (R : Ending → World → Prop) (ds : List Deferred) : QT
  | .normal, ρ, w | .ret, ρ, w => Q4n P rs ρ R ds .returning w
  | .panic chain, ρ, w => Q4n P rs ρ R ds (.panicking chain) w
  | .outgrown, _, w => R .outgrown w
  | _, _, _ => False

theorem Q3O {P : Program} {fn : Func} {tmps : Array Value} {ρ : Env} {R : Ending → World → Prop} (ht : ∀ i, tmps.getD i undef = ρ i) : ∀ (ds : List Deferred) (u : FrameMode) (w : World),
    Q4n P fn.results.toList ρ R ds u w → Leaves P fn tmps R ds u w
  | [], .returning, w, h => by obtain ⟨v, h1, h2⟩ := Q2Y ht h; exact ⟨v, h1, h2⟩
  | [], .panicking _, w, h => h
  | [], .run, w, h => h.elim
  | d :: ds, u, w, h => by
    obtain ⟨hu, f, cap, rfl, hf, hc⟩ := h
    unfold Q4H at hf
    rw [Option.any_eq_true] at hf
    obtain ⟨fn', h1, h2⟩ := hf
    rw [Bool.and_eq_true, Bool.not_eq_true'] at h2
    refine leaves_cons hu (f := f) (args := cap) ?_ ?_
    · simp only [invoke]
      rw [Qem _ h1 h2.1 h2.2]; simp
    · refine hc.mono ?_
      intro e u' w' h
      cases e with
      | returned v => exact Q3O ht ds _ _ h
      | panicked ch => exact Q3O ht ds _ _ h
      | outgrown => exact h

theorem Qny {P : Program} {f : FuncId} {fn : Func} {args : List Value} {w : World} {R : Ending → World → Prop} {ld : LD} {rs : List ResultVar}
    (hf : P.funcs[f]? = some fn) (hl : QtK P fn = some ld) (hrs : fn.results.toList = rs) (hn : Nat.ble args.length fn.ntmps = true)
    (h : ld.wpD P (retD P rs R) [] (Ql args) w) : Calls P f ⟨args⟩ w R := by
  unfold QtK at hl
  cases hb : fn.body with
  | none => simp [hb] at hl
  | some c =>
    simp only [hb, Option.map_some, Option.some.injEq] at hl
    subst hl hrs
    refine calls_of_wp_defers hf hb ?_
    have hn' : args.length ≤ fn.ntmps := Nat.le_of_ble_eq_true hn
    refine wp_mono (QtL c _ [] _ _ _ (Qcn ⟨args⟩ fn.ntmps hn' []) h) ?_
    rintro e a w ⟨ds, ρ, hr, h⟩
    have hd := hr.2.2
    cases e with
    | normal => exact (hd ▸ Q3O hr.2.1 ds _ _ h : Leaves P fn a.tmps R a.defers .returning w)
    | ret => exact (hd ▸ Q3O hr.2.1 ds _ _ h : Leaves P fn a.tmps R a.defers .returning w)
    | panic ch => exact (hd ▸ Q3O hr.2.1 ds _ _ h : Leaves P fn a.tmps R a.defers (.panicking ch) w)
    | outgrown => exact h
    | exit => exact h
    | goto => exact h

/-! ### The deferred function: lowered code that recovers -/

def recM : FrameMode → Value × FrameMode
  | .panicking ({ v := v, recovered := false, goexit := false } :: older) => (v, .panicking ({ v := v, recovered := true } :: older))
  | u => (.nilIface, u)

def LD.wpR (P : Program) : LD → (FrameMode → QT) → FrameMode → Env → World → Prop
  | .pl c, Q, u, ρ, w => c.wp P (Q u) ρ w
  | .seq a b, Q, u, ρ, w => a.wpR P (fun u' => Q11 (b.wpR P Q u') (Q u')) u ρ w
  | .sp l1 (.rcv d) l2, Q, u, ρ, w => Q5 P l1 (Q11 (fun ρ w => Q5 P l2 (Q (recM u).2) (updo ρ d (recM u).1) w) (Q u)) ρ w
  | _, _, _, _, _ => False

def liftR (n : Nat) (c₀ : Frame) (cs : List Frame) (Q : FrameMode → QT) : Exit → Act → List Frame → World → Prop :=
  fun e a cs' w => ∃ u, cs' = { c₀ with mode := u } :: cs ∧ Qpr n [] (Q u) e a w

theorem QrG (c₀ : Frame) (cs : List Frame) (u : FrameMode) : (match recoverD ({ c₀ with mode := u } :: cs) with
    | some (v, cs') => (v, cs')
    | none => (.nilIface, { c₀ with mode := u } :: cs)) = ((recM u).1, { c₀ with mode := (recM u).2 } :: cs) := by
  unfold recoverD recM
  dsimp only
  split <;> rename_i h
  · split at h
    · rename_i hm
      simp only [Option.some.injEq, Prod.mk.injEq] at h
      obtain ⟨rfl, rfl⟩ := h
      rfl
    · cases h
  · split at h
    · cases h
    · rename_i hm
      split
      · rename_i hm'
        exact absurd rfl (hm _ _)
      · rfl

theorem Qh4 {P : Program} {n : Nat} {ops : Array Oper} {Q : QT} {QS : Exit → Act → List Frame → World → Prop} {cs : List Frame} {rest : List Nat} (hn : ∀ a w, Qpr n [] Q .normal a w → wpOpsS P ops QS rest a cs w) (hq : ∀ e a w, e ≠ .normal → Qpr n [] Q e a w → QS e a cs w) : ∀ (l : List Nat) (ρ : Env) (a : Act) (w : World), Rel n ρ [] a →
    (∀ i ∈ l, ∃ o, ops[i]? = some o ∧ okG n ops o = true) →
    Q5 P (l.filterMap fun i => (ops[i]?).map (Q32 P ops)) Q ρ w → wpOpsS P ops QS (l ++ rest) a cs w := by
  intro l
  induction l with
  | nil => intro ρ a w hr _ h; exact hn a w ⟨ρ, hr, h⟩
  | cons i l ih =>
    intro ρ a w hr hok h
    obtain ⟨o, ho, hg⟩ := hok i (by simp)
    have hok' : ∀ i ∈ l, ∃ o, ops[i]? = some o ∧ okG n ops o = true := fun i hi => hok i (by simp [hi])
    simp only [List.filterMap_cons, ho, Option.map_some] at h
    have h' := Qek hr hg _ Q w h
    simp only [List.cons_append, wpOpsS, ho]
    split
    · rename_i hw
      rw [if_pos hw] at h'
      have h1 := Qpj (ds := []) hr (QaV hg) (Qh3 h')
      have h2 := QaP (Q' := fun e a' w' => QS e a' cs w') (K' := fun a' w' => wpOpsS P ops QS (l ++ rest) a' cs w') (fun a w ⟨ρ, hr, h⟩ => ih ρ a w hr hok' h) (fun ch a w h => hq _ a w (by simp) h) (fun ⟨a, w, h⟩ => ⟨a, w, hq _ a w (by simp) h⟩) _ h1
      split
      · rename_i w' hrun
        rw [hrun] at h2
        exact h2.elim
      · rename_i r hrun
        exact h2
    · rename_i hw
      rw [if_neg hw] at h'
      exact ih _ _ w (hr.put _ _ (QaV hg)) hok' h'

theorem QtJ {P : Program} {n : Nat} {c₀ : Frame} {cs : List Frame} : ∀ (c : Code) (Q : FrameMode → QT) (u : FrameMode) (ρ : Env) (a : Act) (w : World), Rel n ρ [] a → (lowD P n c).wpR P Q u ρ w → c.wpS P (liftR n c₀ cs Q) a ({ c₀ with mode := u } :: cs) w := by
  have hpl : ∀ (c : Code) (Q : FrameMode → QT) (u : FrameMode) (ρ : Env) (a : Act) (w : World), Rel n ρ [] a → (Q3s P n c).wp P (Q u) ρ w → c.wpS P (liftR n c₀ cs Q) a ({ c₀ with mode := u } :: cs) w := fun c Q u ρ a w hr h =>
    wpS_of_wp (wp_mono (Q5Q c _ ρ a w hr h) fun e a w h => ⟨u, rfl, h⟩)
  intro c
  induction c with
  | seq x y ihx ihy =>
    intro Q u ρ a w hr h
    rw [lowD] at h
    split at h
    · refine wpS_seq ?_
      intro b k hb hro
      obtain ⟨e, a', cs', w', ⟨u', rfl, ρ', hr', h'⟩, harr⟩ := ihx _ u ρ a w hr h b k hb hro
      refine ⟨e, a', _, w', ?_, harr⟩
      cases e with
      | normal => exact ihy _ u' ρ' a' w' hr' h'
      | _ => exact ⟨u', rfl, ρ', hr', h'⟩
    · exact hpl _ Q u ρ a w hr h
  | region id ops draw =>
    intro Q u ρ a w hr h
    cases draw with
    | true => exact hpl _ Q u ρ a w hr h
    | false =>
      rw [lowD] at h
      split at h
      · rename_i l1 o s l2 hs
        obtain ⟨hops, hsp⟩ := Q5D hs
        split at h
        · rename_i hall
          have hok : ∀ i o, ops[i]? = some o → okG n ops o = true := fun i o hi => List.all_eq_true.1 hall o (by rw [← Array.getElem?_toList] at hi; exact List.mem_of_getElem? hi)
          have hsz : ops.size = ops.toList.length := by simp
          have hgm : ∀ (l : List Nat), (l.filterMap fun i => (ops[i]?).map (Q32 P ops)) = l.filterMap fun i => (ops.toList[i]?).map (Q32 P ops) := fun l => by simp
          have hlen : ops.toList.length = l1.length + 1 + l2.length := by rw [hops]; simp; omega
          have hrange : ∀ (l : List Nat), (∀ i ∈ l, i < ops.size) → ∀ i ∈ l, ∃ o, ops[i]? = some o ∧ okG n ops o = true := fun l hl i hi => ⟨ops[i]'(hl i hi), by simp [hl i hi], hok i _ (by simp [hl i hi])⟩
          refine wpS_region ?_
          rw [hsz, Qpk hops]
          cases s with
          | dfr d x => exact h.elim
          | rcv d =>
            refine Qh4 (Q := Q11 (fun ρ w => Q5 P (l2.map (Q32 P ops)) (Q (recM u).2) (updo ρ d (recM u).1) w) (Q u)) ?_ ?_ (List.range l1.length) ρ a w hr
              (hrange _ fun i hi => by rw [hsz, hlen]; have := List.mem_range.1 hi; omega) (by rw [hgm, Qt8 _ hops]; exact h)
            · rintro a w ⟨ρ', hr', h'⟩
              have hoi : ops[l1.length]? = some o := by rw [← Array.getElem?_toList, hops]; simp
              have hg : o.guard = none ∧ ∃ ts, ∃ xs : Array Operand, o.op = .call ⟨.builtin .recover, xs, ts⟩ ∧ xs.size = 0 ∧ o.dst = d := by
                unfold spOf at hsp
                split at hsp
                · split at hsp <;> cases hsp
                · rename_i xs' ts' hg ho
                  split at hsp
                  · rename_i hx0
                    simp only [Option.some.injEq, LSp.rcv.injEq] at hsp
                    exact ⟨hg, ts', xs', ho, hx0, hsp⟩
                  · cases hsp
                · cases hsp
              obtain ⟨hgd, ts, xs, hop, hxs, hd⟩ := hg
              have hxs' : xs = #[] := Array.eq_empty_of_size_eq_zero hxs
              subst hxs'
              refine (?_ : wpOpsS P ops _ (l1.length :: _) a _ w)
              simp only [wpOpsS, hoi]
              rw [if_pos (by simp [Region.wanted, hgd])]
              have e1 : (execOp a.eval o).run P w = .ok .recover w := by
                simp [execOp, hop, resolve, invoke, builtin]
              rw [e1]
              have hdn := QaV (hok _ o hoi)
              rw [hd] at hdn
              have hr2 : Rel n (updo ρ' d (recM u).1) [] (a.put d (recM u).1) := hr'.put d _ hdn
              have hrec := QrG c₀ cs u
              have key : wpOpsS P ops (liftR n c₀ cs Q) ((List.range l2.length).map (l1.length + 1 + ·)) (a.put o.dst (recM u).1) ({ c₀ with mode := (recM u).2 } :: cs) w := by
                rw [hd]
                have h2 := Qh4 (Q := Q (recM u).2) (QS := liftR n c₀ cs Q) (cs := { c₀ with mode := (recM u).2 } :: cs) (rest := []) (fun a w h => ⟨_, rfl, h⟩) (fun e a w _ h => ⟨_, rfl, h⟩) ((List.range l2.length).map (l1.length + 1 + ·)) _ _ w hr2
                  (hrange _ fun i hi => by rw [hsz, hlen]; rw [List.mem_map] at hi; obtain ⟨j, hj, rfl⟩ := hi; have := List.mem_range.1 hj; omega) (by rw [hgm, Que _ hops]; exact h')
                rwa [List.append_nil] at h2
              dsimp only
              split
              · rename_i v cs' hrd
                rw [hrd] at hrec
                simp only [Prod.mk.injEq] at hrec
                rw [hrec.1, hrec.2]; exact key
              · rename_i hrd
                rw [hrd] at hrec
                simp only [Prod.mk.injEq] at hrec
                have e3 : ({ c₀ with mode := u } :: cs : List Frame) = { c₀ with mode := (recM u).2 } :: cs := hrec.2
                rw [hrec.1, e3]; exact key
            · rintro e a w he ⟨ρ', hr', h'⟩
              refine ⟨u, rfl, ρ', hr', ?_⟩
              cases e <;> first | exact h' | exact absurd rfl he
        · exact h.elim
      · exact hpl _ Q u ρ a w hr h
  | _ => exact hpl _

def retR (P : Program) (rs : List ResultVar) (R : Ending → FrameMode → World → Prop) (u : FrameMode) : QT
  | .normal, ρ, w | .ret, ρ, w => Q2b P w ρ rs [] fun v => R (.returned v) u w
  | .panic chain, _, w => R (.panicked chain) u w
  | .outgrown, _, w => R .outgrown u w
  | _, _, _ => False

theorem QkC {P : Program} {f : FuncId} {fn : Func} {args : List Value} {u : FrameMode} {w : World} {R : Ending → FrameMode → World → Prop} {ld : LD} {rs : List ResultVar}
    (hf : P.funcs[f]? = some fn) (hl : QtK P fn = some ld) (hrs : fn.results.toList = rs) (hn : Nat.ble args.length fn.ntmps = true)
    (h : ld.wpR P (retR P rs R) u (Ql args) w) : CallsD P f ⟨args⟩ u w R := by
  unfold QtK at hl
  cases hb : fn.body with
  | none => simp [hb] at hl
  | some c =>
    simp only [hb, Option.map_some, Option.some.injEq] at hl
    subst hl hrs
    refine callsD_of_wpS hf hb ?_
    intro c₀ cs hu
    have hn' : args.length ≤ fn.ntmps := Nat.le_of_ble_eq_true hn
    have h1 := QtJ (c₀ := c₀) (cs := cs) c _ u _ _ w (Qcn ⟨args⟩ fn.ntmps hn' []) h
    have hc : ({ c₀ with mode := u } : Frame) = c₀ := by subst hu; rfl
    rw [hc] at h1
    intro b k hb hro
    obtain ⟨e, a, cs', w', ⟨u', rfl, ρ, hr, h2⟩, harr⟩ := h1 b k hb hro
    refine ⟨e, a, _, w', ?_, harr⟩
    cases e with
    | normal => obtain ⟨v, h3, h4⟩ := Q2Y hr.2.1 h2; exact ⟨hr.2.2, u', rfl, v, h3, h4⟩
    | ret => obtain ⟨v, h3, h4⟩ := Q2Y hr.2.1 h2; exact ⟨hr.2.2, u', rfl, v, h3, h4⟩
    | panic ch => exact ⟨hr.2.2, u', rfl, h2⟩
    | outgrown => exact ⟨u', h2⟩
    | exit => exact h2
    | goto => exact h2

/-! ### Steps -/
section
variable {P : Program} {ρ : Env} {w : World} {u : FrameMode} {ds : List Deferred}
theorem d_pl {c : LC} {Q : List Deferred → QT} (h : c.wp P (Q ds) ρ w) : (LD.pl c).wpD P Q ds ρ w := h
theorem d_seq {a b : LD} {Q : List Deferred → QT} (h : a.wpD P (fun ds' => Q11 (b.wpD P Q ds') (Q ds')) ds ρ w) : (LD.seq a b).wpD P Q ds ρ w := h
theorem d_sp {l1 l2 : List GO} {d : Option Nat} {x : Operand} {Q : List Deferred → QT} (h : Q5 P l1 (Q11 (fun ρ w => ∃ f cap, ρ.ev x = .func (.func f) #[] cap ∧ Q5 P l2 (Q (⟨.fn (.func f) cap, #[]⟩ :: ds)) (updo ρ d undef) w) (Q ds)) ρ w) : (LD.sp l1 (.dfr d x) l2).wpD P Q ds ρ w := h
theorem r_pl {c : LC} {Q : FrameMode → QT} (h : c.wp P (Q u) ρ w) : (LD.pl c).wpR P Q u ρ w := h
theorem r_seq {a b : LD} {Q : FrameMode → QT} (h : a.wpR P (fun u' => Q11 (b.wpR P Q u') (Q u')) u ρ w) : (LD.seq a b).wpR P Q u ρ w := h
theorem r_sp {l1 l2 : List GO} {d : Option Nat} {Q : FrameMode → QT} (h : Q5 P l1 (Q11 (fun ρ w => Q5 P l2 (Q (recM u).2) (updo ρ d (recM u).1) w) (Q u)) ρ w) : (LD.sp l1 (.rcv d) l2).wpR P Q u ρ w := h
/-- A deferred function, called in a mode: it returns. -/
def Defs (P : Program) (f : FuncId) (args : List Value) (u : FrameMode) (w : World) (S : FrameMode → World → Prop) : Prop :=
  CallsD P f ⟨args⟩ u w fun e u' w' => (∃ v, e = .returned v) ∧ S u' w'
theorem Qps {rs : List ResultVar} {R : Ending → World → Prop} {f : FuncId} {cap : List Value} {S : FrameMode → World → Prop} (hu : u ≠ .run) (hf : Q4H P f = true) (hc : Defs P f cap u w S)
    (h : ∀ u' w', S u' w' → Q4n P rs ρ R [] (settle u') w') : Q4n P rs ρ R [⟨.fn (.func f) ⟨cap⟩, #[]⟩] u w := by
  refine ⟨hu, f, ⟨cap⟩, rfl, hf, hc.mono ?_⟩
  rintro e u' w' ⟨⟨v, rfl⟩, hs⟩
  exact h u' w' hs
theorem q_retD {rs : List ResultVar} {R : Ending → World → Prop} (h : Q4n P rs ρ R ds .returning w) : retD P rs R ds .ret ρ w := h
theorem q_panD {rs : List ResultVar} {R : Ending → World → Prop} {ch : List PanicEntry} (h : Q4n P rs ρ R ds (.panicking ch) w) : retD P rs R ds (.panic ch) ρ w := h
theorem Qmf {rs : List ResultVar} {R : Ending → World → Prop} (h : retQ P rs R .ret ρ w) : Q4n P rs ρ R [] .returning w := h
theorem q_endR {rs : List ResultVar} {R : Ending → FrameMode → World → Prop} (h : retQ P rs (fun e w => R e u w) .normal ρ w) : retR P rs R u .normal ρ w := h
end
end Go.Lir
namespace Go.Lir
section
variable {P : Program} {l : List GO} {Q : QT} {ρ : Env} {w : World} {f : FuncId} {S T : Value → World → Prop}

theorem s_ends_2 {d : Nat} {u0 u1 : Value} {x0 x1 : Operand} (h0 : ρ.ev x0 = u0) (h1 : ρ.ev x1 = u1) (hc : Fins P f [u0, u1] w S T) (hp : ∀ v w', T v w' → Q (.panic [{ v := v, recovered := false }]) ρ w') (h : ∀ v w', S v w' → Q5 P l Q (upd ρ d v) w') : Q5 P (⟨none, .call (some d) f [x0, x1]⟩ :: l) Q ρ w := by
  subst h0 h1; exact Quz (by rfl) hc hp h
theorem s_ends_3 {d : Nat} {u0 u1 u2 : Value} {x0 x1 x2 : Operand} (h0 : ρ.ev x0 = u0) (h1 : ρ.ev x1 = u1) (h2 : ρ.ev x2 = u2) (hc : Fins P f [u0, u1, u2] w S T) (hp : ∀ v w', T v w' → Q (.panic [{ v := v, recovered := false }]) ρ w') (h : ∀ v w', S v w' → Q5 P l Q (upd ρ d v) w') : Q5 P (⟨none, .call (some d) f [x0, x1, x2]⟩ :: l) Q ρ w := by
  subst h0 h1 h2; exact Quz (by rfl) hc hp h
theorem s_ends_4 {d : Nat} {u0 u1 u2 u3 : Value} {x0 x1 x2 x3 : Operand} (h0 : ρ.ev x0 = u0) (h1 : ρ.ev x1 = u1) (h2 : ρ.ev x2 = u2) (h3 : ρ.ev x3 = u3) (hc : Fins P f [u0, u1, u2, u3] w S T) (hp : ∀ v w', T v w' → Q (.panic [{ v := v, recovered := false }]) ρ w') (h : ∀ v w', S v w' → Q5 P l Q (upd ρ d v) w') : Q5 P (⟨none, .call (some d) f [x0, x1, x2, x3]⟩ :: l) Q ρ w := by
  subst h0 h1 h2 h3; exact Quz (by rfl) hc hp h
theorem Qmk {b o T : Nat} {T' : TypeId} {cs : List Value} {v : Value} (hs : Q3q P T = true) (hb : Blk w.heap b T' cs) (hv : cs[o]? = some v) : Qt2 P w ⟨b, o, none⟩ T v := .inl ⟨hs, hb.cell hv⟩
theorem QeF (k : Nat) {Ty : TypeId} {ms : Array (String × TypeId)} {w0 : World} (ht : P.underlying Ty = some (.interface ms)) : (Op.equalIn (k + 1) Ty .nilIface .nilIface).run P w0 = .ok true w0 := by
  simp only [Op.equalIn, Sem.run_bind, Qb P Ty _ w0 ht, Result.andThen_ok]
  simp [Sem.run_pure]
theorem Qkh {Ty : TypeId} {ms : Array (String × TypeId)} {w0 : World} (ht : P.underlying Ty = some (.interface ms)) : (Op.equal Ty .nilIface .nilIface).run P w0 = .ok true w0 := QeF 9999 ht
theorem QaS (k : Nat) {Ty U : TypeId} {v : Value} {ms : Array (String × TypeId)} {w0 : World} (ht : P.underlying Ty = some (.interface ms)) : (Op.equalIn (k + 1) Ty (.iface U v) .nilIface).run P w0 = .ok false w0 := by
  simp only [Op.equalIn, Sem.run_bind, Qb P Ty _ w0 ht, Result.andThen_ok]
  simp [Sem.run_pure]
theorem QgW {Ty U : TypeId} {v : Value} {ms : Array (String × TypeId)} {w0 : World} (ht : P.underlying Ty = some (.interface ms)) : (Op.equal Ty (.iface U v) .nilIface).run P w0 = .ok false w0 := QaS 9999 ht
/-- e != nil -/
theorem s_inil_f {d : Nat} {Ty : TypeId} {x : Operand} {ms : Array (String × TypeId)} (ht : P.underlying Ty = some (.interface ms)) (hx : ρ.ev x = .nilIface) (h : Q5 P l Q (upd ρ d (.bool false)) w) : Q5 P (⟨none, .bin d .neq Ty x (.const .nilIface)⟩ :: l) Q ρ w :=
  ⟨_, fun w0 => by rw [hx]; simp [Env.ev, eqGuard, binOp, Qkh ht], h⟩
theorem s_inil_t {d : Nat} {Ty U : TypeId} {v : Value} {x : Operand} {ms : Array (String × TypeId)} (ht : P.underlying Ty = some (.interface ms)) (hx : ρ.ev x = .iface U v) (h : Q5 P l Q (upd ρ d (.bool true)) w) : Q5 P (⟨none, .bin d .neq Ty x (.const .nilIface)⟩ :: l) Q ρ w :=
  ⟨_, fun w0 => by rw [hx]; simp [Env.ev, eqGuard, binOp, QgW ht], h⟩
/-- Three things to the front. -/
theorem St.pick3 {c : Cx} {L L1 L2 L3 : List Res} {r1 r2 r3 : Res} (h : St c w L) (p1 : Pick L r1 L1) (p2 : Pick L1 r2 L2) (p3 : Pick L2 r3 L3) : St c w (r1 :: r2 :: r3 :: L3) :=
  h.perm (p1.perm.trans (List.Perm.cons _ (p2.perm.trans (List.Perm.cons _ p3.perm))))
end
end Go.Lir
namespace Go.Lir
set_option linter.unusedVariables false
/-- What is left to be shown, apart from what is known. -/
structure Bx (K : Prop) : Prop where
  o : K
section
variable {K G : Prop}
theorem zn (k : K) (h : Bx K → G := by
  intro K9
  refine Q54 ?_
  (repeat (first | refine Q2m ?_ | refine Qga ?_))
  exact K9.o) : G := h ⟨k⟩
theorem zcn (k : K) (h : Bx K → G := by
  intro K9
  refine s_cnil ?_
  (repeat (first | refine Q2m ?_ | refine Qga ?_))
  exact K9.o) : G := h ⟨k⟩
theorem zsk (k : K) (h : Bx K → G := by
  intro K9
  refine s_skip ?_
  (repeat (first | refine Q2m ?_ | refine Qga ?_))
  exact K9.o) : G := h ⟨k⟩
theorem zex (k : K) (h : Bx K → G := by
  intro K9
  refine s_exit ?_
  (repeat (first | refine s_exitQ ?_ | refine s_exitT ?_ | refine s_exitB rfl ?_ | refine Q2m ?_ | refine Qga ?_))
  exact K9.o) : G := h ⟨k⟩
theorem zr (k : K) (h : Bx K → G := by
  intro K9
  refine s_ret ?_
  (repeat (first | refine s_retT ?_ | refine s_retB ?_))
  exact K9.o) : G := h ⟨k⟩
theorem zy {A : Prop} (k : G) (h : A := by
  repeat (first
    | exact fun _ h => (List.not_mem_nil h).elim
    | refine List.forall_mem_cons.2 ⟨by first | exact Q18 hS rfl (NthP.nth (by repeat constructor)) rfl | exact Q2i hS rfl (NthP.nth (by repeat constructor)) rfl rfl | exact Qq8 hS (by assumption) rfl rfl | exact Q3D hS (by assumption) rfl rfl rfl | exact Qn6 hS (by assumption) rfl rfl | exact Qhp hS (by assumption) rfl rfl rfl | exact Q8R rfl rfl | exact Q1Y rfl (Q18 hS rfl (NthP.nth (by repeat constructor)) rfl) | exact Q1Y rfl (Q2i hS rfl (NthP.nth (by repeat constructor)) rfl rfl) | exact Q1Y rfl (Qq8 hS (by assumption) rfl rfl) | exact Q1Y rfl (Q3D hS (by assumption) rfl rfl rfl) | exact Q1Y rfl (Qn6 hS (by assumption) rfl rfl) | exact Q1Y rfl (Qhp hS (by assumption) rfl rfl rfl), ?_⟩)) : A ∧ G := ⟨h, k⟩
end
section
variable {P : Program} {l : List GO} {Q : QT} {ρ : Env} {w : World} {c : Cx} {L : List Res} {i : Nat} {T es : Nat} {v : Value} {css : List (List Value)}
theorem zt {K : KT} (h : K ρ w) : Q5 P [] (Q11 K Q) ρ w := Q54 (Q2m h)
theorem St.ns {L' : List Res} (h : St c w L) (e : L = L' := by (conv => lhs; simp only [List.set_cons_zero, List.set_cons_succ]); first | done | exact rfl) : St c w L' := e ▸ h
theorem zm {d : Nat} {x : Operand} {v : Value} (h : Q5 P l Q (upd ρ d v) w) (hx : ρ.ev x = v := by (conv => lhs; whnf); first | done | exact rfl) : Q5 P (⟨none, .mov d x⟩ :: l) Q ρ w := s_mov hx h
theorem zpt {d : Nat} {c x y : Operand} {v : Value} (h : Q5 P l Q (upd ρ d v) w) (hc : ρ.ev c = .bool true := by exact rfl) (hx : ρ.ev x = v := by (conv => lhs; whnf); first | done | exact rfl) : Q5 P (⟨none, .pick d c x y⟩ :: l) Q ρ w := s_pick_t hc hx h
theorem zpf {d : Nat} {c x y : Operand} {v : Value} (h : Q5 P l Q (upd ρ d v) w) (hc : ρ.ev c = .bool false := by exact rfl) (hx : ρ.ev y = v := by (conv => lhs; whnf); first | done | exact rfl) : Q5 P (⟨none, .pick d c x y⟩ :: l) Q ρ w := s_pick_f hc hx h
theorem zki {d : Nat} {T : TypeId} {x : Operand} {v : Value} (h : Q5 P l Q (upd ρ d (.iface T v)) w) (hx : ρ.ev x = v := by (conv => lhs; whnf); first | done | exact rfl) : Q5 P (⟨none, .mki d T x⟩ :: l) Q ρ w := s_mki hx h
theorem zl {d : Nat} {x : Operand} {b o : Nat} {cs : List Value} {u : Value} (hS : St c w L) (h : Q5 P l Q (upd ρ d u) w) (hx : ρ.ev x = .pointer (some ⟨b, o, none⟩) := by exact rfl) (hi : nth L i = some (blk b T cs) := by exact NthP.nth (by repeat constructor)) (hu : cs[o]? = some u := by exact rfl) : Q5 P (⟨none, .load1 d x⟩ :: l) Q ρ w := QaQ hS hx hi hu h
theorem zlk {d : Nat} {x : Operand} {b o : Nat} {cs : List Value} {u : Value} (hS : St c w L) (h : Q5 P l Q (upd ρ d u) w) (ha : AtK c b o cs := by assumption) (hx : ρ.ev x = .pointer (some ⟨b, o, none⟩) := by exact rfl) (hu : cs[0]? = some u := by exact rfl) : Q5 P (⟨none, .load1 d x⟩ :: l) Q ρ w := s_loadK hS ha hx hu h
theorem zlj {d : Nat} {x : Operand} {b o j : Nat} {cs : List Value} {u : Value} (hS : St c w L) (h : Q5 P l Q (upd ρ d u) w) (ha : AtK c b o cs := by assumption) (hx : ρ.ev x = .pointer (some ⟨b, o + j, none⟩) := by exact rfl) (hu : cs[j]? = some u := by exact rfl) : Q5 P (⟨none, .load1 d x⟩ :: l) Q ρ w := s_loadKj hS ha hx hu h
theorem zv {d n : Nat} {x : Operand} {b o : Nat} {cs us : List Value} (hS : St c w L) (h : Q5 P l Q (upd ρ d (.agg ⟨us⟩)) w) (hx : ρ.ev x = .pointer (some ⟨b, o, none⟩) := by exact rfl) (hi : nth L i = some (blk b T cs) := by exact NthP.nth (by repeat constructor)) (hu : (cs.drop o).take n = us := by exact rfl) (hl : us.length = n := by exact rfl) : Q5 P (⟨none, .loadn d n x⟩ :: l) Q ρ w := Qt9 hS hx hi hu hl h
theorem zvk {d n : Nat} {x : Operand} {b o : Nat} {cs : List Value} (hS : St c w L) (h : Q5 P l Q (upd ρ d (.agg ⟨cs⟩)) w) (ha : AtK c b o cs := by assumption) (hx : ρ.ev x = .pointer (some ⟨b, o, none⟩) := by exact rfl) (hl : cs.length = n := by exact rfl) : Q5 P (⟨none, .loadn d n x⟩ :: l) Q ρ w := s_loadnK hS ha hx hl h
theorem zli {d n : Nat} {x : Operand} {m b o : Nat} {xs : List Int} (hS : St c w L) (h : Q5 P l Q (upd ρ d (.int .i64 (xs.getD m 0))) w) (he : ElP v n 1 m b o := by assumption) (hx : ρ.ev x = .pointer (some ⟨b, o, none⟩) := by exact rfl) (hi : nth L i = some (sl T 1 v (xs.map Q36)) := by exact NthP.nth (by repeat constructor)) (hn : (xs.map Q36).length = n := by exact rfl) (hm : m < xs.length := by first | omega | (simp; omega)) : Q5 P (⟨none, .load1 d x⟩ :: l) Q ρ w := s_loadI hS he hx hi hn hm h
theorem zlb {d n : Nat} {x : Operand} {m b o : Nat} {xs : List Bool} (hS : St c w L) (h : Q5 P l Q (upd ρ d (.bool (xs.getD m false))) w) (he : ElP v n 1 m b o := by assumption) (hx : ρ.ev x = .pointer (some ⟨b, o, none⟩) := by exact rfl) (hi : nth L i = some (sl T 1 v (xs.map QK)) := by exact NthP.nth (by repeat constructor)) (hn : (xs.map QK).length = n := by exact rfl) (hm : m < xs.length := by first | omega | (simp; omega)) : Q5 P (⟨none, .load1 d x⟩ :: l) Q ρ w := s_loadBo hS he hx hi hn hm h
theorem zLe {d n : Nat} {x : Operand} (hS : St c w L) (h : Q5 P l Q (upd ρ d (.int .i64 n)) w) (hx : ρ.ev x = v := by (conv => lhs; whnf); first | done | exact rfl) (hi : nth L i = some (sl T es v css) := by exact NthP.nth (by repeat constructor)) (hn : css.length = n := by first | exact List.length_map _ | rfl) : Q5 P (⟨none, .len d x⟩ :: l) Q ρ w := Q1P hS hx hi hn h
theorem zad {d : Nat} {T : TypeId} {x y : Operand} {a b : Int} (h : Q5 P l Q (upd ρ d (.int .i64 (a + b))) w) (hx : ρ.ev x = .int .i64 a := by exact rfl) (hy : ρ.ev y = .int .i64 b := by exact rfl) (h1 : -9223372036854775808 ≤ a + b := by omega) (h2 : a + b ≤ 9223372036854775807 := by omega) : Q5 P (⟨none, .bin d .add T x y⟩ :: l) Q ρ w := s_add hx hy h1 h2 h
theorem zsu {d : Nat} {T : TypeId} {x y : Operand} {a b : Int} (h : Q5 P l Q (upd ρ d (.int .i64 (a - b))) w) (hx : ρ.ev x = .int .i64 a := by exact rfl) (hy : ρ.ev y = .int .i64 b := by exact rfl) (h1 : -9223372036854775808 ≤ a - b := by omega) (h2 : a - b ≤ 9223372036854775807 := by omega) : Q5 P (⟨none, .bin d .sub T x y⟩ :: l) Q ρ w := s_subi hx hy h1 h2 h
theorem zmu {d : Nat} {T : TypeId} {x y : Operand} {a b : Int} (h : Q5 P l Q (upd ρ d (.int .i64 (a * b))) w) (hx : ρ.ev x = .int .i64 a := by exact rfl) (hy : ρ.ev y = .int .i64 b := by exact rfl) (h1 : -9223372036854775808 ≤ a * b := by omega) (h2 : a * b ≤ 9223372036854775807 := by omega) : Q5 P (⟨none, .bin d .mul T x y⟩ :: l) Q ρ w := s_mul hx hy h1 h2 h
theorem Q1L {d : Nat} {T : TypeId} {x y : Operand} {k : IntKind} {a b : Int} (h : Q5 P l Q (upd ρ d (.bool true)) w) (hx : ρ.ev x = .int k a := by exact rfl) (hy : ρ.ev y = .int k b := by exact rfl) (hp : a < b := by omega) : Q5 P (⟨none, .bin d .lss T x y⟩ :: l) Q ρ w := s_lss_t hx hy hp h
theorem Q1M {d : Nat} {T : TypeId} {x y : Operand} {k : IntKind} {a b : Int} (h : Q5 P l Q (upd ρ d (.bool false)) w) (hx : ρ.ev x = .int k a := by exact rfl) (hy : ρ.ev y = .int k b := by exact rfl) (hp : ¬ (a < b) := by omega) : Q5 P (⟨none, .bin d .lss T x y⟩ :: l) Q ρ w := s_lss_f hx hy hp h
theorem Qv {d : Nat} {T : TypeId} {x y : Operand} {k : IntKind} {a b : Int} (h : Q5 P l Q (upd ρ d (.bool true)) w) (hx : ρ.ev x = .int k a := by exact rfl) (hy : ρ.ev y = .int k b := by exact rfl) (hp : a = b := by omega) : Q5 P (⟨none, .bin d .eql T x y⟩ :: l) Q ρ w := Qux hx hy hp h
theorem QB {d : Nat} {T : TypeId} {x y : Operand} {k : IntKind} {a b : Int} (h : Q5 P l Q (upd ρ d (.bool false)) w) (hx : ρ.ev x = .int k a := by exact rfl) (hy : ρ.ev y = .int k b := by exact rfl) (hp : ¬ (a = b) := by omega) : Q5 P (⟨none, .bin d .eql T x y⟩ :: l) Q ρ w := s_eql_f hx hy hp h
theorem QZ {d : Nat} {T : TypeId} {x y : Operand} {k : IntKind} {a b : Int} (h : Q5 P l Q (upd ρ d (.bool true)) w) (hx : ρ.ev x = .int k a := by exact rfl) (hy : ρ.ev y = .int k b := by exact rfl) (hp : a ≠ b := by omega) : Q5 P (⟨none, .bin d .neq T x y⟩ :: l) Q ρ w := s_neq_t hx hy hp h
theorem Q10 {d : Nat} {T : TypeId} {x y : Operand} {k : IntKind} {a b : Int} (h : Q5 P l Q (upd ρ d (.bool false)) w) (hx : ρ.ev x = .int k a := by exact rfl) (hy : ρ.ev y = .int k b := by exact rfl) (hp : ¬ (a ≠ b) := by omega) : Q5 P (⟨none, .bin d .neq T x y⟩ :: l) Q ρ w := s_neq_f hx hy hp h
theorem Q12 {d : Nat} {T : TypeId} {x y : Operand} {k : IntKind} {a b : Int} (h : Q5 P l Q (upd ρ d (.bool true)) w) (hx : ρ.ev x = .int k a := by exact rfl) (hy : ρ.ev y = .int k b := by exact rfl) (hp : b < a := by omega) : Q5 P (⟨none, .bin d .gtr T x y⟩ :: l) Q ρ w := s_gtr_t hx hy hp h
theorem Q15 {d : Nat} {T : TypeId} {x y : Operand} {k : IntKind} {a b : Int} (h : Q5 P l Q (upd ρ d (.bool false)) w) (hx : ρ.ev x = .int k a := by exact rfl) (hy : ρ.ev y = .int k b := by exact rfl) (hp : ¬ (b < a) := by omega) : Q5 P (⟨none, .bin d .gtr T x y⟩ :: l) Q ρ w := s_gtr_f hx hy hp h
theorem Q3f {d : Nat} {T : TypeId} {x y : Operand} {k : IntKind} {a b : Int} (h : Q5 P l Q (upd ρ d (.bool true)) w) (hx : ρ.ev x = .int k a := by exact rfl) (hy : ρ.ev y = .int k b := by exact rfl) (hp : b ≤ a := by omega) : Q5 P (⟨none, .bin d .geq T x y⟩ :: l) Q ρ w := s_geq_t hx hy hp h
theorem Q3g {d : Nat} {T : TypeId} {x y : Operand} {k : IntKind} {a b : Int} (h : Q5 P l Q (upd ρ d (.bool false)) w) (hx : ρ.ev x = .int k a := by exact rfl) (hy : ρ.ev y = .int k b := by exact rfl) (hp : ¬ (b ≤ a) := by omega) : Q5 P (⟨none, .bin d .geq T x y⟩ :: l) Q ρ w := s_geq_f hx hy hp h
theorem zleqt {d : Nat} {T : TypeId} {x y : Operand} {k : IntKind} {a b : Int} (h : Q5 P l Q (upd ρ d (.bool true)) w) (hx : ρ.ev x = .int k a := by exact rfl) (hy : ρ.ev y = .int k b := by exact rfl) (hp : a ≤ b := by omega) : Q5 P (⟨none, .bin d .leq T x y⟩ :: l) Q ρ w := s_leq_t hx hy hp h
theorem zleqf {d : Nat} {T : TypeId} {x y : Operand} {k : IntKind} {a b : Int} (h : Q5 P l Q (upd ρ d (.bool false)) w) (hx : ρ.ev x = .int k a := by exact rfl) (hy : ρ.ev y = .int k b := by exact rfl) (hp : ¬ (a ≤ b) := by omega) : Q5 P (⟨none, .bin d .leq T x y⟩ :: l) Q ρ w := s_leq_f hx hy hp h
theorem zst {x y : Operand} {b o : Nat} {cs : List Value} {u : Value} (hS : St c w L) (h : ∀ w', St c w' (L.set i (blk b T (cs.set o u))) → Q5 P l Q ρ w') (hx : ρ.ev x = .pointer (some ⟨b, o, none⟩) := by exact rfl) (hy : ρ.ev y = u := by (conv => lhs; whnf); first | done | exact rfl) (hi : nth L i = some (blk b T cs) := by exact NthP.nth (by repeat constructor)) (ho : o < cs.length := by simp) (h1 : oneC u = true := by first | rfl | assumption | exact hS.oneC (NthP.nth (by repeat constructor)) | exact SlR.oneC (by assumption)) : Q5 P (⟨none, .store1 x y⟩ :: l) Q ρ w := s_storeB hS hx hy hi ho h1 h
theorem zsi {n : Nat} {x y : Operand} {m b o : Nat} {xs : List Int} {u : Int} (hS : St c w L) (h : ∀ w', St c w' (L.set i (sl T 1 v ((xs.set m u).map Q36))) → Q5 P l Q ρ w') (he : ElP v n 1 m b o := by assumption) (hx : ρ.ev x = .pointer (some ⟨b, o, none⟩) := by exact rfl) (hy : ρ.ev y = .int .i64 u := by (conv => lhs; whnf); first | done | exact rfl) (hi : nth L i = some (sl T 1 v (xs.map Q36)) := by exact NthP.nth (by repeat constructor)) (hn : (xs.map Q36).length = n := by exact rfl) (hm : m < xs.length := by first | omega | (simp; omega)) : Q5 P (⟨none, .store1 x y⟩ :: l) Q ρ w := s_storeI hS he hx hy hi hn hm h
theorem zsb {n : Nat} {x y : Operand} {m b o : Nat} {xs : List Bool} {u : Bool} (hS : St c w L) (h : ∀ w', St c w' (L.set i (sl T 1 v ((xs.set m u).map QK))) → Q5 P l Q ρ w') (he : ElP v n 1 m b o := by assumption) (hx : ρ.ev x = .pointer (some ⟨b, o, none⟩) := by exact rfl) (hy : ρ.ev y = .bool u := by (conv => lhs; whnf); first | done | exact rfl) (hi : nth L i = some (sl T 1 v (xs.map QK)) := by exact NthP.nth (by repeat constructor)) (hn : (xs.map QK).length = n := by exact rfl) (hm : m < xs.length := by first | omega | (simp; omega)) : Q5 P (⟨none, .store1 x y⟩ :: l) Q ρ w := Qup hS he hx hy hi hn hm h
theorem zb {d : Nat} {x : Operand} {cs : List Value} (hS : St c w L) (h : ∀ b w', St c w' (blk b T cs :: L) → Q5 P l Q (upd ρ d (.pointer (some ⟨b, 0, none⟩))) w') (hx : ρ.ev x = v := by (conv => lhs; whnf); first | done | exact rfl) (hc : v.cells = ⟨cs⟩ := by rfl) : Q5 P (⟨none, .box d T x⟩ :: l) Q ρ w := s_boxB hS hx hc h
theorem zie {d m : Nat} {x y : Operand} {k : IntKind} (hS : St c w L) (h : ∀ b o, ElP v css.length es m b o → Q5 P l Q (upd ρ d (.pointer (some ⟨b, o, none⟩))) w) (hx : ρ.ev x = v := by (conv => lhs; whnf); first | done | exact rfl) (hy : ρ.ev y = .int k (m : Int) := by exact rfl) (hi : nth L i = some (sl T es v css) := by exact NthP.nth (by repeat constructor)) (hm : m < css.length := by first | omega | (simp; omega)) : Q5 P (⟨none, .idx d es x y⟩ :: l) Q ρ w := Qta hS hx hy hi hm h
theorem zij {d : Nat} {x y : Operand} {k : IntKind} {n : Int} (hS : St c w L) (h : ∀ b o, ElP v css.length es n.toNat b o → Q5 P l Q (upd ρ d (.pointer (some ⟨b, o, none⟩))) w) (hx : ρ.ev x = v := by (conv => lhs; whnf); first | done | exact rfl) (hy : ρ.ev y = .int k n := by exact rfl) (hi : nth L i = some (sl T es v css) := by exact NthP.nth (by repeat constructor)) (h0 : 0 ≤ n := by first | omega | (simp; omega)) (hm : n < css.length := by first | omega | (simp; omega)) : Q5 P (⟨none, .idx d es x y⟩ :: l) Q ρ w := Q3L hS hx hy hi h0 hm h
theorem zsn {n i b T : Nat} {x y : Operand} {cs us : List Value} (hS : St c w L) (h : ∀ w', St c w' (L.set i (blk b T us)) → Q5 P l Q ρ w') (hx : ρ.ev x = .pointer (some ⟨b, 0, none⟩) := by exact rfl) (hy : ρ.ev y = .agg ⟨us⟩ := by exact rfl) (hn : us.length = n := by rfl) (hi : nth L i = some (blk b T cs) := by exact NthP.nth (by repeat constructor)) (hc : cs.length = n := by rfl) (h1 : ∀ u ∈ us, oneC u = true := by first | (simp [oneC]; done) | assumption | exact Rep.one _ (by assumption) | (simp only [List.take_succ_cons, List.take_zero, List.drop_zero, List.mem_cons, List.not_mem_nil, or_false, forall_eq_or_imp, forall_eq]; ((try refine And.intro ?_ ?_) <;> try refine And.intro ?_ ?_) <;> first | rfl | assumption)) : Q5 P (⟨none, .storen n x y⟩ :: l) Q ρ w := Qum hS hx hy hn hi hc h1 h
theorem zsm {n : Nat} {x y : Operand} {b o : Nat} {cs us cs' : List Value} (hS : St c w L) (h : ∀ w', St c w' (L.set i (blk b T cs')) → Q5 P l Q ρ w') (hx : ρ.ev x = .pointer (some ⟨b, o, none⟩) := by exact rfl) (hy : ρ.ev y = .agg ⟨us⟩ := by exact rfl) (hn : us.length = n := by rfl) (hi : nth L i = some (blk b T cs) := by exact NthP.nth (by repeat constructor)) (ho : o + n ≤ cs.length := by simp) (h1 : ∀ u ∈ us, oneC u = true := by first | (simp [oneC]; done) | assumption | exact Rep.one _ (by assumption) | (simp only [List.take_succ_cons, List.take_zero, List.drop_zero, List.mem_cons, List.not_mem_nil, or_false, forall_eq_or_imp, forall_eq]; ((try refine And.intro ?_ ?_) <;> try refine And.intro ?_ ?_) <;> first | rfl | assumption)) (hc : cs.take o ++ (us ++ cs.drop (o + n)) = cs' := by (conv => lhs; simp only [List.take_succ_cons, List.take_zero, List.drop_succ_cons, List.drop_zero, List.cons_append, List.nil_append]); first | done | exact rfl) : Q5 P (⟨none, .storen n x y⟩ :: l) Q ρ w := Qpf hS hx hy hn hi ho h1 hc h
theorem zf {t : Nat} {R : Ending → World → Prop} {v : Value} (h : R (.returned v) w) (hv : ρ t = v := by (conv => lhs; whnf); first | done | exact rfl) : retQ P [.tmp t] R .ret ρ w := q_ret1 hv h
theorem zf2 {t u : Nat} {R : Ending → World → Prop} {v v' : Value} (h : R (.returned (.tuple #[v, v'])) w) (hv : ρ t = v := by (conv => lhs; whnf); first | done | exact rfl) (hv' : ρ u = v' := by (conv => lhs; whnf); first | done | exact rfl) : retQ P [.tmp t, .tmp u] R .ret ρ w := q_ret2 hv hv' h
theorem zb0 {d : Nat} {z : List Value} (cs : List Value) (h : Q5 P l Q (upd ρ d (.agg ⟨cs⟩)) w) (hf : Q3B z [] = some cs := by rfl) : Q5 P (⟨none, .build d z []⟩ :: l) Q ρ w := s_build0  hf h
theorem zb1 {d : Nat} {z : List Value} {o0 n0 : Nat} {x0 : Operand} {v0 : Value} (cs : List Value) (h : Q5 P l Q (upd ρ d (.agg ⟨cs⟩)) w) (h0 : ρ.ev x0 = v0 := by (conv => lhs; whnf); first | done | exact rfl) (hf : Q3B z [(o0, n0, v0)] = some cs := by rfl) : Q5 P (⟨none, .build d z [(o0, n0, x0)]⟩ :: l) Q ρ w := s_build1 h0 hf h
theorem zB1 {d : Nat} {T : TypeId} {n : Nat} {z : List Value} {o0 n0 : Nat} {x0 : Operand} {v0 : Value} (hS : St c w L) (cs : List Value) (h : ∀ b w', St c w' (blk b T cs :: L) → Q5 P l Q (upd ρ d (.slice (some ⟨b, 0, none⟩) n n)) w') (h0 : ρ.ev x0 = v0 := by (conv => lhs; whnf); first | done | exact rfl) (hf : Q3B z [(o0, n0, v0)] = some cs := by rfl) : Q5 P (⟨none, .buildS d T n z [(o0, n0, x0)]⟩ :: l) Q ρ w := Q3l h0 hf fun b w' hb hf1 _ hk => h b w' (hS.laid hb hf1 hk)
theorem zb2 {d : Nat} {z : List Value} {o0 n0 : Nat} {x0 : Operand} {v0 : Value} {o1 n1 : Nat} {x1 : Operand} {v1 : Value} (cs : List Value) (h : Q5 P l Q (upd ρ d (.agg ⟨cs⟩)) w) (h0 : ρ.ev x0 = v0 := by (conv => lhs; whnf); first | done | exact rfl) (h1 : ρ.ev x1 = v1 := by (conv => lhs; whnf); first | done | exact rfl) (hf : Q3B z [(o0, n0, v0), (o1, n1, v1)] = some cs := by rfl) : Q5 P (⟨none, .build d z [(o0, n0, x0), (o1, n1, x1)]⟩ :: l) Q ρ w := Qtb h0 h1 hf h
theorem zb3 {d : Nat} {z : List Value} {o0 n0 : Nat} {x0 : Operand} {v0 : Value} {o1 n1 : Nat} {x1 : Operand} {v1 : Value} {o2 n2 : Nat} {x2 : Operand} {v2 : Value} (cs : List Value) (h : Q5 P l Q (upd ρ d (.agg ⟨cs⟩)) w) (h0 : ρ.ev x0 = v0 := by (conv => lhs; whnf); first | done | exact rfl) (h1 : ρ.ev x1 = v1 := by (conv => lhs; whnf); first | done | exact rfl) (h2 : ρ.ev x2 = v2 := by (conv => lhs; whnf); first | done | exact rfl) (hf : Q3B z [(o0, n0, v0), (o1, n1, v1), (o2, n2, v2)] = some cs := by rfl) : Q5 P (⟨none, .build d z [(o0, n0, x0), (o1, n1, x1), (o2, n2, x2)]⟩ :: l) Q ρ w := s_build3 h0 h1 h2 hf h
theorem zb4 {d : Nat} {z : List Value} {o0 n0 : Nat} {x0 : Operand} {v0 : Value} {o1 n1 : Nat} {x1 : Operand} {v1 : Value} {o2 n2 : Nat} {x2 : Operand} {v2 : Value} {o3 n3 : Nat} {x3 : Operand} {v3 : Value} (cs : List Value) (h : Q5 P l Q (upd ρ d (.agg ⟨cs⟩)) w) (h0 : ρ.ev x0 = v0 := by (conv => lhs; whnf); first | done | exact rfl) (h1 : ρ.ev x1 = v1 := by (conv => lhs; whnf); first | done | exact rfl) (h2 : ρ.ev x2 = v2 := by (conv => lhs; whnf); first | done | exact rfl) (h3 : ρ.ev x3 = v3 := by (conv => lhs; whnf); first | done | exact rfl) (hf : Q3B z [(o0, n0, v0), (o1, n1, v1), (o2, n2, v2), (o3, n3, v3)] = some cs := by rfl) : Q5 P (⟨none, .build d z [(o0, n0, x0), (o1, n1, x1), (o2, n2, x2), (o3, n3, x3)]⟩ :: l) Q ρ w := s_build4 h0 h1 h2 h3 hf h
theorem zD {gs : List GO} {es : List (List Nat)} (C : List CI) (h : Q5 P (C.map fun c => gat gs c.1) Q ρ w.drew) (hok : Qhv gs es C = true := by kernel_rfl) (hpl : (C.all fun c => match c.2 with | some (some _) => false | _ => true) = true := by kernel_rfl) : (LC.draw gs es).wp P Q ρ w := s_draw C hok hpl h
theorem zC {gs : List GO} {es : List (List Nat)} (C : List CI) (h : Q20 P gs C Q ρ w.drew) (hok : Qhv gs es C = true := by kernel_rfl) : (LC.draw gs es).wp P Q ρ w := s_canon C hok h
theorem zR0 {d : Nat} {f : FuncId} {S : Value → World → Prop} (c : Rets P f [] w S) (h : ∀ v w', S v w' → Q5 P l Q (upd ρ d v) w') : Q5 P (⟨none, .call (some d) f []⟩ :: l) Q ρ w := s_rets_0  c h
theorem zR1 {d : Nat} {f : FuncId} {x0 : Operand} {u0 : Value} {S : Value → World → Prop} (h0 : ρ.ev x0 = u0 := by (conv => lhs; whnf); first | done | exact rfl) (c : Rets P f [u0] w S) (h : ∀ v w', S v w' → Q5 P l Q (upd ρ d v) w') : Q5 P (⟨none, .call (some d) f [x0]⟩ :: l) Q ρ w := s_rets_1 h0 c h
theorem zR2 {d : Nat} {f : FuncId} {x0 x1 : Operand} {u0 u1 : Value} {S : Value → World → Prop} (h0 : ρ.ev x0 = u0 := by (conv => lhs; whnf); first | done | exact rfl) (h1 : ρ.ev x1 = u1 := by (conv => lhs; whnf); first | done | exact rfl) (c : Rets P f [u0, u1] w S) (h : ∀ v w', S v w' → Q5 P l Q (upd ρ d v) w') : Q5 P (⟨none, .call (some d) f [x0, x1]⟩ :: l) Q ρ w := s_rets_2 h0 h1 c h
theorem zE2 {d : Nat} {f : FuncId} {x0 x1 : Operand} {u0 u1 : Value} {S T : Value → World → Prop} (h0 : ρ.ev x0 = u0 := by (conv => lhs; whnf); first | done | exact rfl) (h1 : ρ.ev x1 = u1 := by (conv => lhs; whnf); first | done | exact rfl) (c : Fins P f [u0, u1] w S T) (p : ∀ v w', T v w' → Q (.panic [{ v := v, recovered := false }]) ρ w') (h : ∀ v w', S v w' → Q5 P l Q (upd ρ d v) w') : Q5 P (⟨none, .call (some d) f [x0, x1]⟩ :: l) Q ρ w := s_ends_2 h0 h1 c p h
theorem zR3 {d : Nat} {f : FuncId} {x0 x1 x2 : Operand} {u0 u1 u2 : Value} {S : Value → World → Prop} (h0 : ρ.ev x0 = u0 := by (conv => lhs; whnf); first | done | exact rfl) (h1 : ρ.ev x1 = u1 := by (conv => lhs; whnf); first | done | exact rfl) (h2 : ρ.ev x2 = u2 := by (conv => lhs; whnf); first | done | exact rfl) (c : Rets P f [u0, u1, u2] w S) (h : ∀ v w', S v w' → Q5 P l Q (upd ρ d v) w') : Q5 P (⟨none, .call (some d) f [x0, x1, x2]⟩ :: l) Q ρ w := s_rets_3 h0 h1 h2 c h
theorem zE3 {d : Nat} {f : FuncId} {x0 x1 x2 : Operand} {u0 u1 u2 : Value} {S T : Value → World → Prop} (h0 : ρ.ev x0 = u0 := by (conv => lhs; whnf); first | done | exact rfl) (h1 : ρ.ev x1 = u1 := by (conv => lhs; whnf); first | done | exact rfl) (h2 : ρ.ev x2 = u2 := by (conv => lhs; whnf); first | done | exact rfl) (c : Fins P f [u0, u1, u2] w S T) (p : ∀ v w', T v w' → Q (.panic [{ v := v, recovered := false }]) ρ w') (h : ∀ v w', S v w' → Q5 P l Q (upd ρ d v) w') : Q5 P (⟨none, .call (some d) f [x0, x1, x2]⟩ :: l) Q ρ w := s_ends_3 h0 h1 h2 c p h
theorem zR4 {d : Nat} {f : FuncId} {x0 x1 x2 x3 : Operand} {u0 u1 u2 u3 : Value} {S : Value → World → Prop} (h0 : ρ.ev x0 = u0 := by (conv => lhs; whnf); first | done | exact rfl) (h1 : ρ.ev x1 = u1 := by (conv => lhs; whnf); first | done | exact rfl) (h2 : ρ.ev x2 = u2 := by (conv => lhs; whnf); first | done | exact rfl) (h3 : ρ.ev x3 = u3 := by (conv => lhs; whnf); first | done | exact rfl) (c : Rets P f [u0, u1, u2, u3] w S) (h : ∀ v w', S v w' → Q5 P l Q (upd ρ d v) w') : Q5 P (⟨none, .call (some d) f [x0, x1, x2, x3]⟩ :: l) Q ρ w := s_rets_4 h0 h1 h2 h3 c h
theorem zE4 {d : Nat} {f : FuncId} {x0 x1 x2 x3 : Operand} {u0 u1 u2 u3 : Value} {S T : Value → World → Prop} (h0 : ρ.ev x0 = u0 := by (conv => lhs; whnf); first | done | exact rfl) (h1 : ρ.ev x1 = u1 := by (conv => lhs; whnf); first | done | exact rfl) (h2 : ρ.ev x2 = u2 := by (conv => lhs; whnf); first | done | exact rfl) (h3 : ρ.ev x3 = u3 := by (conv => lhs; whnf); first | done | exact rfl) (c : Fins P f [u0, u1, u2, u3] w S T) (p : ∀ v w', T v w' → Q (.panic [{ v := v, recovered := false }]) ρ w') (h : ∀ v w', S v w' → Q5 P l Q (upd ρ d v) w') : Q5 P (⟨none, .call (some d) f [x0, x1, x2, x3]⟩ :: l) Q ρ w := s_ends_4 h0 h1 h2 h3 c p h
variable {α : Type} {r : Rep α} {xs : List α}
theorem zL {d : Nat} {x : Operand} (h : Q5 P l Q (upd ρ d (.int .i64 xs.length)) w) (hx : ρ.ev x = v := by (conv => lhs; whnf); first | done | exact rfl) (hK : r.sl c v xs := by assumption) : Q5 P (⟨none, .len d x⟩ :: l) Q ρ w := Quv hx hK h
theorem zi {d m : Nat} {x y : Operand} {k : IntKind} (h : ∀ b o cs a, AtK c b o cs → xs[m]? = some a → r.at c cs a → Q5 P l Q (upd ρ d (.pointer (some ⟨b, o, none⟩))) w) (hx : ρ.ev x = v := by (conv => lhs; whnf); first | done | exact rfl) (hy : ρ.ev y = .int k (m : Int) := by exact rfl) (hK : r.sl c v xs := by assumption) (hes : r.es = es := by exact rfl) (hn : m < xs.length := by first | omega | (simp; omega)) : Q5 P (⟨none, .idx d es x y⟩ :: l) Q ρ w := Q56 hx hy hK hes hn h
theorem zj {d : Nat} {x y : Operand} {k : IntKind} {n : Int} (h : ∀ b o cs a, AtK c b o cs → xs[n.toNat]? = some a → r.at c cs a → Q5 P l Q (upd ρ d (.pointer (some ⟨b, o, none⟩))) w) (hx : ρ.ev x = v := by (conv => lhs; whnf); first | done | exact rfl) (hy : ρ.ev y = .int k n := by exact rfl) (hK : r.sl c v xs := by assumption) (hes : r.es = es := by exact rfl) (h0 : 0 ≤ n := by first | omega | (simp; omega)) (hn : n < xs.length := by first | omega | (simp; omega)) : Q5 P (⟨none, .idx d es x y⟩ :: l) Q ρ w := Qmd hx hy hK hes h0 hn h
theorem za {T T' d Ts Ts2 Ty nb i k b : Nat} {z : List Value} {x y : Operand} {ds : List Value} {css : List (List Value)} {a : α} (hel : Q3d P Ts = some (T, es, nb, z)) (hts : ∃ e2, P.underlying Ts2 = some (.slice e2)) (hS : St c w L) (h : ∀ v' w' css', r.ls c css' (xs ++ [a]) → oneC v' = true → St c w' (L.set i (Go.Lir.sl T es v' css')) → Q5 P l Q (upd ρ d v') w') (hx : ρ.ev x = v := by (conv => lhs; whnf); first | done | exact rfl) (hy : ρ.ev y = .slice (some ⟨b, 0, none⟩) 1 1 := by (conv => lhs; whnf); first | done | exact rfl) (hi : nth L i = some (Go.Lir.sl T es v css) := by exact NthP.nth (by repeat constructor)) (hk : nth L k = some (blk b T' ds) := by exact NthP.nth (by repeat constructor)) (hls : r.ls c css xs := by assumption) (ha : r.at c ds a := by first | assumption | exact rfl) (hes : r.es = es := by exact rfl) (hb : (xs.length + 1) * nb ≤ 140737488355328 := by first | omega | (simp only [List.length_take]; omega) | (simp; omega)) : Q5 P (⟨none, .raw ⟨some d, .call ⟨.builtin .append, #[x, y], #[Ts, Ts2]⟩, Ty, "", #[], none⟩⟩ :: l) Q ρ w := s_appR1 hel hts hS hx hy hi hk hls ha hes hb h
theorem zak {T d Ts Ts2 Ty nb i : Nat} {z : List Value} {x y : Operand} {v2 : Value} {css : List (List Value)} {ys : List α} (hel : Q3d P Ts = some (T, es, nb, z)) (hts : ∃ e2, P.underlying Ts2 = some (.slice e2)) (hS : St c w L) (h : ∀ v' w' css', r.ls c css' (xs ++ ys) → oneC v' = true → St c w' (L.set i (Go.Lir.sl T es v' css')) → Q5 P l Q (upd ρ d v') w') (hx : ρ.ev x = v := by (conv => lhs; whnf); first | done | exact rfl) (hy : ρ.ev y = v2 := by (conv => lhs; whnf); first | done | exact rfl) (hi : nth L i = some (Go.Lir.sl T es v css) := by exact NthP.nth (by repeat constructor)) (hls : r.ls c css xs := by assumption) (hK : r.sl c v2 ys := by assumption) (hes : r.es = es := by exact rfl) (hb : (xs.length + ys.length) * nb ≤ 140737488355328 := by first | omega | (simp only [List.length_take]; omega) | (simp; omega)) : Q5 P (⟨none, .raw ⟨some d, .call ⟨.builtin .append, #[x, y], #[Ts, Ts2]⟩, Ty, "", #[], none⟩⟩ :: l) Q ρ w := s_appRK hel hts hS hx hy hi hls hK hes hb h
def evs (ρ : Env) (ts : List Nat) : List (Nat × Value) := ts.map fun t => (t, ρ t)
theorem Qvj (ρ : Env) : evs ρ [] = [] := rfl
theorem Qvk {t : Nat} {ts : List Nat} {u : Value} {A : List (Nat × Value)} (h : ρ t = u) (h2 : evs ρ ts = A) : evs ρ (t :: ts) = (t, u) :: A := by subst h h2; rfl
theorem zh {A : List (Nat × Value)} (h : Has ρ A := by repeat' (first | exact trivial | refine And.intro rfl ?_)) : Has ρ A := h
theorem env2 {A B : List (Nat × Value)} (h : Has ρ A) (h2 : Has ρ B) : ∃ ρ', ρ = updl (updl ρ' B) A := ⟨ρ, by rw [Qpb h2, Qpb h]⟩
theorem zo {a : LC} (ts : List Nat) {A : List (Nat × Value)} (I : List (Nat × Value) → Env → World → Prop) (μ : Env → World → Nat) (h0 : I A ρ w) (h : ∀ ρ w, I A ρ w → a.wp P (Q11 (fun ρ' w' => I A ρ' w' ∧ μ ρ' w' < μ ρ w) Q) ρ w) (hA : evs ρ ts = A := by (repeat (apply Qvk; · ((conv => lhs; whnf); first | done | exact rfl))); exact Qvj _) : (LC.loop a).wp P Q ρ w := s_loop (I A) μ h0 h
theorem zM {a b : LC} (ts : List Nat) {A : List (Nat × Value)} (I : List (Nat × Value) → Env → World → Prop) (ha : a.wp P (Q11 (I A) Q) ρ w) (hb : ∀ ρ w, I A ρ w → b.wp P Q ρ w) (hA : evs ρ ts = A := by (repeat (apply Qvk; · ((conv => lhs; whnf); first | done | exact rfl))); exact Qvj _) : (LC.seq a b).wp P Q ρ w := s_mid (I A) ha hb
theorem zoL {a : LC} (hS : St c w L) (ts : List Nat) {A : List (Nat × Value)} (I : List (Nat × Value) → List Res → Env → World → Prop) (μ : Env → World → Nat) (h0 : I A L ρ w) (h : ∀ ρ w, I A L ρ w → a.wp P (Q11 (fun ρ' w' => I A L ρ' w' ∧ μ ρ' w' < μ ρ w) Q) ρ w) (hA : evs ρ ts = A := by (repeat (apply Qvk; · ((conv => lhs; whnf); first | done | exact rfl))); exact Qvj _) : (LC.loop a).wp P Q ρ w := s_loop (I A L) μ h0 h
theorem zML {a b : LC} (hS : St c w L) (ts : List Nat) {A : List (Nat × Value)} (I : List (Nat × Value) → List Res → Env → World → Prop) (ha : a.wp P (Q11 (I A L) Q) ρ w) (hb : ∀ ρ w, I A L ρ w → b.wp P Q ρ w) (hA : evs ρ ts = A := by (repeat (apply Qvk; · ((conv => lhs; whnf); first | done | exact rfl))); exact Qvj _) : (LC.seq a b).wp P Q ρ w := s_mid (I A L) ha hb
theorem zKL {l : List GO} (hS : St c w L) (n : Nat) (ts : List Nat) {A : List (Nat × Value)} (I : List (Nat × Value) → List Res → Env → World → Prop) (ha : Q5 P (l.take n) (Q11 (I A L) Q) ρ w) (hb : ∀ ρ w, I A L ρ w → Q5 P (l.drop n) Q ρ w) (hA : evs ρ ts = A := by (repeat (apply Qvk; · ((conv => lhs; whnf); first | done | exact rfl))); exact Qvj _) : Q5 P l Q ρ w := s_cut n (I A L) ha hb
theorem St.sp {L' : List Res} (h : St c w L) (e : SubP L' L := by (repeat constructor); first | done | fail) : St c w L' := h.subP e
theorem fd {r' : Res} (h : NthP L i r' := by repeat constructor) : nth L i = some r' := h.nth
theorem vw {a b : Value} (h : a = b := by (conv => lhs; whnf); first | done | exact rfl) : a = b := h
theorem St.p3 {L1 L2 L3 : List Res} {r1 r2 r3 : Res} (h : St c w L) (p1 : Pick L r1 L1 := by repeat constructor) (p2 : Pick L1 r2 L2 := by repeat constructor) (p3 : Pick L2 r3 L3 := by repeat constructor) : St c w (r1 :: r2 :: r3 :: L3) := h.pick3 p1 p2 p3
end
end Go.Lir
namespace Go.Lir
@[reducible] def qm (d x : Nat) : GO := ⟨none, .mov d (.tmp x)⟩
@[reducible] def qk (d : Nat) (v : Value) : GO := ⟨none, .mov d (.const v)⟩
@[reducible] def qf (d x k : Nat) : GO := ⟨none, .fld d (.tmp x) k⟩
@[reducible] def ql (d x : Nat) : GO := ⟨none, .load1 d (.tmp x)⟩
@[reducible] def qV (d n x : Nat) : GO := ⟨none, .loadn d n (.tmp x)⟩
@[reducible] def qn (d x : Nat) : GO := ⟨none, .nilc d (.tmp x)⟩
@[reducible] def qL (d x : Nat) : GO := ⟨none, .len d (.tmp x)⟩
@[reducible] def qs (x y : Nat) : GO := ⟨none, .store1 (.tmp x) (.tmp y)⟩
@[reducible] def qw (n x y : Nat) : GO := ⟨none, .storen n (.tmp x) (.tmp y)⟩
@[reducible] def qi (d es x y : Nat) : GO := ⟨none, .idx d es (.tmp x) (.tmp y)⟩
@[reducible] def qx (d x k : Nat) : GO := ⟨none, .ext d (.tmp x) k⟩
@[reducible] def qb (d T x : Nat) : GO := ⟨none, .box d T (.tmp x)⟩
@[reducible] def qt (d : Nat) (o : BinOp) (T x y : Nat) : GO := ⟨none, .bin d o T (.tmp x) (.tmp y)⟩
@[reducible] def qj (d : Nat) (o : BinOp) (T x : Nat) (n : Int) : GO := ⟨none, .bin d o T (.tmp x) (.const (.int .i64 n))⟩
@[reducible] def qg (s : Nat) (b : Bool) (o : GO) : GO := ⟨some (s, b), o.2⟩
@[reducible] def vi (n : Int) : Value := .int .i64 n
@[reducible] def vn : Value := .slice none 0 0
end Go.Lir
namespace Go.Proofs.YtanlkfeogoganaaGreat
open Go.Lir
set_option maxRecDepth 100000

/- 17 -/
def Qe4 : List GO := [qk 0 (.bool false)]
def Qe3 : List GO := [⟨none, .call (some 4) 36 []⟩, ⟨none, .call (some 5) 18 [(.tmp 4), (.const (vi 0)), (.const (vi 0))]⟩, qm 3 5, qx 6 3 0, qx 7 3 1, ⟨none, .alloc 2 30 [(vi 0), (vi 0)]⟩, qm 1 6, qw 2 2 7]
def Qe2 : List GO := [qf 8 2 0, ql 9 8, qj 10 .neq 3 9 0]
def Qe1 : List GO := [qk 0 (.bool false)]
def Qe0 : List GO := [qm 11 1, ⟨none, .build 12 [(vi 0), (vi 0), (vi 0), (vi 0), (vi 0), (vi 0), vn, vn] [(0, (1, (.const (vi 3))))]⟩, ⟨none, .call (some 13) 21 [(.tmp 11), (.tmp 12)]⟩, qj 14 .eql 3 13 0, qm 15 14, qg 15 true (qm 16 1), ⟨some (15, true), .build 17 [(vi 0), (vi 0), (vi 0), (vi 0), (vi 0), (vi 0), vn, vn] [(0, (1, (.const (vi 11))))]⟩, ⟨some (15, true), .call (some 18) 21 [(.tmp 16), (.tmp 17)]⟩, qg 15 true (qj 19 .eql 3 18 9), ⟨none, .pick 20 (.tmp 15) (.tmp 19) (.const (.bool false))⟩, qm 21 20, qg 21 true (qm 22 1), ⟨some (21, true), .build 23 [(vi 0), (vi 0), (vi 0), (vi 0), (vi 0), (vi 0), vn, vn] [(0, (1, (.const (vi 4))))]⟩, ⟨some (21, true), .call (some 24) 21 [(.tmp 22), (.tmp 23)]⟩, qg 21 true (qj 25 .eql 3 24 0), ⟨none, .pick 26 (.tmp 21) (.tmp 25) (.const (.bool false))⟩, qm 27 26, qg 27 true (qm 28 1), ⟨some (27, true), .build 29 [(vi 0), (vi 0), (vi 0), (vi 0), (vi 0), (vi 0), vn, vn] [(0, (1, (.const (vi 4))))]⟩, ⟨some (27, true), .call (some 30) 21 [(.tmp 28), (.tmp 29)]⟩, qg 27 true (qj 31 .eql 3 30 10), ⟨none, .pick 32 (.tmp 27) (.tmp 31) (.const (.bool false))⟩, qm 33 32, qg 33 true (qm 34 1), ⟨some (33, true), .call (some 35) 24 [(.tmp 34)]⟩, qg 33 true (qL 36 35), qg 33 true (qj 37 .eql 3 36 1), ⟨none, .pick 38 (.tmp 33) (.tmp 37) (.const (.bool false))⟩, qm 39 38, qg 39 true (qm 40 1), ⟨some (39, true), .build 41 [(vi 0), (vi 0), (vi 0), vn, vn, (vi 0), vn, vn, vn] [(0, (1, (.const (vi 3))))]⟩, ⟨some (39, true), .call (some 42) 29 [(.tmp 40), (.tmp 41)]⟩, qg 39 true (qj 43 .eql 3 42 0), ⟨none, .pick 44 (.tmp 39) (.tmp 43) (.const (.bool false))⟩, qm 0 44]
def Law_judgeBegun_lc : LC := (.seq (.ops Qe4) (.seq (.ops Qe3) (.seq (.seq (.ops Qe2) (.cond (.tmp 10) (.seq (.ops Qe1) .ret) .skip)) (.seq (.ops Qe0) .ret))))
@[reducible] def Q3k : FuncId := 17
theorem QaN : lowF Tryz.prog Tryz.f17 = some Law_judgeBegun_lc := by kernel_rfl
theorem Qe5 {w : World} {R : Ending → World → Prop} (h : Law_judgeBegun_lc.wp Tryz.prog (retQ Tryz.prog [.tmp 0] R) (Ql []) w) : Calls Tryz.prog Q3k ⟨[]⟩ w R :=
  Q6 Tryz.func17 QaN (by kernel_rfl) (by kernel_rfl) h

/- 18 -/
def QpO : List GO := [qb 3 24 0, qk 6 (.pointer none), ⟨none, .alloc 7 30 [(vi 0), (vi 0)]⟩]
def QpN : List GO := [qV 11 1 3, ⟨none, .call (some 12) 41 [(.tmp 11)]⟩, ⟨none, .alloc 8 30 [(vi 0), (vi 0)]⟩, qw 2 8 12]
def QpM : List GO := [qf 13 8 0, ql 14 13, qj 15 .neq 3 14 0]
def QpL : List GO := [qV 16 2 8, qk 6 (.pointer none), qw 2 7 16]
def QpQ : List (List Nat) := [[],[],[0,1,0,1]]
def QpK : List GO := [qm 17 1, qj 18 .lss 3 17 0, qm 19 18, qg 19 false (qm 20 1), qg 19 false (qf 21 3 0), qg 19 false (ql 22 21), qg 19 false (qL 23 22), qg 19 false (qt 24 .geq 3 20 23), ⟨none, .pick 25 (.tmp 19) (.const (.bool true)) (.tmp 24)⟩, qm 26 25, qg 26 false (qm 27 2), qg 26 false (qj 28 .lss 3 27 0), ⟨none, .pick 29 (.tmp 26) (.const (.bool true)) (.tmp 28)⟩, qm 30 29, qg 30 false (qm 31 2), qg 30 false (qf 32 3 0), qg 30 false (ql 33 32), qg 30 false (qm 34 1), qg 30 false (qi 35 4 33 34), qg 30 false (qf 36 35 3), qg 30 false (ql 37 36), qg 30 false (qL 38 37), qg 30 false (qt 39 .geq 3 31 38), ⟨none, .pick 40 (.tmp 30) (.const (.bool true)) (.tmp 39)⟩]
def QpJ : List GO := [⟨none, .build 41 [(vi 0), (vi 0)] [(0, (1, (.const (vi 1)))), (1, (1, (.const (vi (-1)))))]⟩, qk 6 (.pointer none), qw 2 7 41]
def QpI : List GO := [qV 42 1 3, ⟨none, .call (some 43) 61 [(.tmp 42)]⟩, ⟨none, .build 44 [(.pointer none), vn, (vi 0), vn, vn, vn, vn] [(1, (1, (.tmp 43)))]⟩, qb 45 68 44, qm 9 45]
def QpH : List GO := [qm 46 9, qm 47 9, qn 48 47, qf 49 48 1, qf 50 49 0, ql 51 50, qm 52 1, qi 53 4 51 52, qV 54 4 53, qn 55 46, qf 56 55 2, qw 4 56 54]
def QpG : List GO := [qm 57 9, qn 58 57, qf 59 58 2, qf 60 59 3, ql 61 60, qm 62 2, qi 63 12 61 62, qV 64 12 63, ⟨none, .alloc 10 79 [(vi 0), vn, vn, (vi 0), (vi 0), (vi 0), vn, vn, (vi 0), vn, vn, vn]⟩, qw 12 10 64]
def QpF : List GO := [qm 65 9, qf 66 10 0, ql 67 66, ⟨none, .call (some 68) 62 [(.tmp 67)]⟩, qn 69 65, qf 70 69 0, qs 70 68]
def QmY : List GO := [qm 71 9, qf 72 10 1, ql 73 72, ⟨none, .call (some 74) 63 [(.tmp 73)]⟩, qn 75 71, qf 76 75 6, qs 76 74]
def QmX : List GO := [qm 77 9, ⟨none, .build 78 [(vi 0), (vi 0)] []⟩, qm 6 77, qw 2 7 78]
def judge_New_lc : LC := (.seq (.ops QpO) (.seq (.seq (.ops QpN) (.seq (.ops QpM) (.cond (.tmp 15) (.seq (.draw QpL QpQ) .ret) .skip))) (.seq (.seq (.ops QpK) (.cond (.tmp 40) (.seq (.ops QpJ) .ret) .skip)) (.seq (.ops QpI) (.seq (.ops QpH) (.seq (.ops QpG) (.seq (.ops QpF) (.seq (.ops QmY) (.seq (.ops QmX) .ret)))))))))
@[reducible] def Q4C : FuncId := 18
theorem QmZ : lowF Tryz.prog Tryz.f18 = some judge_New_lc := by kernel_rfl
theorem QpP {a0 a1 a2 : Value} {w : World} {R : Ending → World → Prop} (h : judge_New_lc.wp Tryz.prog (retQ Tryz.prog [.tmp 6, .cell 7 30] R) (Ql [a0, a1, a2]) w) : Calls Tryz.prog Q4C ⟨[a0, a1, a2]⟩ w R :=
  Q6 Tryz.func18 QmZ (by kernel_rfl) (by kernel_rfl) h

/- 24 -/
def Q7b : List GO := [qk 2 vn]
def Q7a : List GO := [qk 3 vn]
def Q79 : List GO := [qm 6 0, qn 7 6, qf 8 7 6, ql 9 8, qL 10 9, qk 11 (vi 0)]
def Q78 : List GO := [qt 12 .lss 3 11 10]
def Q77 : List GO := [qi 13 3 9 11, qV 14 3 13, ⟨none, .alloc 5 112 [(vi 0), (vi 0), vn]⟩, qw 3 5 14]
def Q76 : List GO := [qm 15 3, qV 16 3 5, ⟨none, .call (some 17) 75 [(.tmp 16)]⟩, ⟨none, .buildS 18 112 1 [(vi 0), (vi 0), vn] [(0, (3, (.tmp 17)))]⟩, ⟨none, .raw ⟨(some 19), (.call ⟨(.builtin .append), #[(.tmp 15), (.tmp 18)], #[50, 50]⟩), 50, "", #[], none⟩⟩, qm 3 19]
def Q75 : List GO := [qj 20 .add 3 11 1, qm 11 20]
def Q3v : LC := (.seq (.ops Q78) (.seq (.cond (.tmp 12) .skip (.exit 0)) (.seq (.block 1 (.seq (.ops Q77) (.ops Q76))) (.ops Q75))))
def Q74 : List GO := [qm 21 3, qm 2 21]
def judge_State_Types_lc : LC := (.seq (.ops Q7b) (.seq (.ops Q7a) (.seq (.seq (.ops Q79) (.block 0 (.loop Q3v))) (.seq (.ops Q74) .ret))))
@[reducible] def Q4z : FuncId := 24
theorem Q5W : lowF Tryz.prog Tryz.f24 = some judge_State_Types_lc := by kernel_rfl
theorem Q7c {a0 : Value} {w : World} {R : Ending → World → Prop} (h : judge_State_Types_lc.wp Tryz.prog (retQ Tryz.prog [.tmp 2] R) (Ql [a0]) w) : Calls Tryz.prog Q4z ⟨[a0]⟩ w R :=
  Q6 Tryz.func24 Q5W (by kernel_rfl) (by kernel_rfl) h

/- 21 -/
def Q9V : List GO := [qb 2 46 0, qb 3 57 1, qk 4 (vi 0)]
def Q9U : List GO := [ql 6 2, qn 7 6, qf 8 7 1, qV 9 1 8, qV 10 8 3, ⟨none, .call (some 11) 68 [(.tmp 9), (.tmp 10)]⟩, qm 5 11]
def Q9X : List (List Nat) := [[],[0],[1],[2],[],[3,4],[5,5,0,1,2,3,4,5]]
def Q9T : List GO := [qm 12 5, qj 13 .neq 3 12 0]
def Q9S : List GO := [qm 14 5, qm 4 14]
def Q9R : List GO := [⟨none, .mkfn 15 70 [(.tmp 2), (.tmp 3)]⟩, ⟨none, .call (some 16) 69 [(.tmp 15)]⟩, qm 4 16]
def judge_State_Ins_lc : LC := (.seq (.ops Q9V) (.seq (.seq (.draw Q9U Q9X) (.seq (.ops Q9T) (.cond (.tmp 13) (.seq (.ops Q9S) .ret) .skip))) (.seq (.ops Q9R) .ret)))
@[reducible] def Q33 : FuncId := 21
theorem Q8M : lowF Tryz.prog Tryz.f21 = some judge_State_Ins_lc := by kernel_rfl
theorem Q9W {a0 a1 : Value} {w : World} {R : Ending → World → Prop} (h : judge_State_Ins_lc.wp Tryz.prog (retQ Tryz.prog [.tmp 4] R) (Ql [a0, a1]) w) : Calls Tryz.prog Q33 ⟨[a0, a1]⟩ w R :=
  Q6 Tryz.func21 Q8M (by kernel_rfl) (by kernel_rfl) h

/- 31 -/
def QeN : List GO := [qk 4 (.bool false)]
def QeM : List GO := [qm 5 1, qj 6 .geq 3 5 0, qm 7 6, qg 7 true (qm 8 1), qg 7 true (qm 9 0), qg 7 true (qn 10 9), qg 7 true (qf 11 10 0), qg 7 true (ql 12 11), qg 7 true (qL 13 12), qg 7 true (qt 14 .lss 3 8 13), ⟨none, .pick 15 (.tmp 7) (.tmp 14) (.const (.bool false))⟩, qm 16 15, qg 16 true (qm 17 0), qg 16 true (qn 18 17), qg 16 true (qf 19 18 0), qg 16 true (ql 20 19), qg 16 true (qm 21 1), qg 16 true (qi 22 1 20 21), qg 16 true (ql 23 22), ⟨none, .pick 24 (.tmp 16) (.tmp 23) (.const (.bool false))⟩, qm 4 24]
def held_Held_Has_lc : LC := (.seq (.ops QeN) (.seq (.ops QeM) .ret))
@[reducible] def Q5e : FuncId := 31
theorem QbZ : lowF Tryz.prog Tryz.f31 = some held_Held_Has_lc := by kernel_rfl
theorem QeO {a0 a1 : Value} {w : World} {R : Ending → World → Prop} (h : held_Held_Has_lc.wp Tryz.prog (retQ Tryz.prog [.tmp 4] R) (Ql [a0, a1]) w) : Calls Tryz.prog Q5e ⟨[a0, a1]⟩ w R :=
  Q6 Tryz.func31 QbZ (by kernel_rfl) (by kernel_rfl) h

/- 26 -/
def QbW : List GO := [qk 2 vn]
def QbV : List GO := [qk 3 vn]
def QbU : List GO := [qm 6 0, qn 7 6, qf 8 7 0, ql 9 8, qL 10 9, qk 11 (vi 0)]
def QbT : List GO := [qt 12 .lss 3 11 10]
def QbS : List GO := [qm 13 11, qi 14 1 9 11, ql 15 14, qm 4 13, qm 5 15]
def QbR : List GO := [qm 16 5]
def QbQ : List GO := [qm 17 3, qm 18 4, ⟨none, .buildS 19 3 1 [(vi 0)] [(0, (1, (.tmp 18)))]⟩, ⟨none, .raw ⟨(some 20), (.call ⟨(.builtin .append), #[(.tmp 17), (.tmp 19)], #[41, 41]⟩), 41, "", #[], none⟩⟩, qm 3 20]
def QbP : List GO := [qj 21 .add 3 11 1, qm 11 21]
def Q4G : LC := (.seq (.ops QbT) (.seq (.cond (.tmp 12) .skip (.exit 0)) (.seq (.block 1 (.seq (.ops QbS) (.seq (.ops QbR) (.cond (.tmp 16) (.ops QbQ) .skip)))) (.ops QbP))))
def QbO : List GO := [qm 22 3, qm 2 22]
def held_Held_List_lc : LC := (.seq (.ops QbW) (.seq (.ops QbV) (.seq (.seq (.ops QbU) (.block 0 (.loop Q4G))) (.seq (.ops QbO) .ret))))
@[reducible] def Q4r : FuncId := 26
theorem Qae : lowF Tryz.prog Tryz.f26 = some held_Held_List_lc := by kernel_rfl
theorem QbX {a0 : Value} {w : World} {R : Ending → World → Prop} (h : held_Held_List_lc.wp Tryz.prog (retQ Tryz.prog [.tmp 2] R) (Ql [a0]) w) : Calls Tryz.prog Q4r ⟨[a0]⟩ w R :=
  Q6 Tryz.func26 Qae (by kernel_rfl) (by kernel_rfl) h

/- 28 -/
def QeK : List GO := [qk 2 (vi 0)]
def QeJ : List GO := [qm 3 0, qn 4 3, qf 5 4 0, ql 6 5, qL 7 6, qm 2 7]
def held_Held_Len_lc : LC := (.seq (.ops QeK) (.seq (.ops QeJ) .ret))
@[reducible] def Q5d : FuncId := 28
theorem QbY : lowF Tryz.prog Tryz.f28 = some held_Held_Len_lc := by kernel_rfl
theorem QeL {a0 : Value} {w : World} {R : Ending → World → Prop} (h : held_Held_Len_lc.wp Tryz.prog (retQ Tryz.prog [.tmp 2] R) (Ql [a0]) w) : Calls Tryz.prog Q5d ⟨[a0]⟩ w R :=
  Q6 Tryz.func28 QbY (by kernel_rfl) (by kernel_rfl) h

/- 33 -/
/- 34 -/
/- 29 -/
def Qa2 : List GO := [qb 2 46 0, qb 3 45 1, qk 4 (vi 0)]
def Qa1 : List GO := [ql 6 2, qn 7 6, qf 8 7 2, qV 9 4 8, qV 10 9 3, ⟨none, .call (some 11) 76 [(.tmp 9), (.tmp 10)]⟩, qm 5 11]
def Qa4 : List (List Nat) := [[],[0],[1],[2],[],[3,4],[5,5,0,1,2,3,4,5]]
def Qa0 : List GO := [qm 12 5, qj 13 .neq 3 12 0]
def Q9Z : List GO := [qm 14 5, qm 4 14]
def Q9Y : List GO := [⟨none, .mkfn 15 77 [(.tmp 2), (.tmp 3)]⟩, ⟨none, .call (some 16) 69 [(.tmp 15)]⟩, qm 4 16]
def judge_State_End_lc : LC := (.seq (.ops Qa2) (.seq (.seq (.draw Qa1 Qa4) (.seq (.ops Qa0) (.cond (.tmp 13) (.seq (.ops Q9Z) .ret) .skip))) (.seq (.ops Q9Y) .ret)))
@[reducible] def Q34 : FuncId := 29
theorem Q8N : lowF Tryz.prog Tryz.f29 = some judge_State_End_lc := by kernel_rfl
theorem Qa3 {a0 a1 : Value} {w : World} {R : Ending → World → Prop} (h : judge_State_End_lc.wp Tryz.prog (retQ Tryz.prog [.tmp 4] R) (Ql [a0, a1]) w) : Calls Tryz.prog Q34 ⟨[a0, a1]⟩ w R :=
  Q6 Tryz.func29 Q8N (by kernel_rfl) (by kernel_rfl) h

/- 62 -/
def Qs4 : List GO := [qk 2 (.pointer none)]
def Qs3 : List GO := [⟨none, .build 4 [vn] []⟩, qb 5 124 4, qm 3 5]
def Qs2 : List GO := [qm 6 0, ⟨none, .mnx 7 false (.tmp 6) (.const (vi 16))⟩, qk 8 (vi 0)]
def Qs1 : List GO := [qt 9 .lss 3 8 7]
def Qs0 : List GO := [qm 10 3, qm 11 3, qn 12 11, qf 13 12 0, ql 14 13, ⟨none, .buildS 15 4 1 [(.bool false)] [(0, (1, (.const (.bool true))))]⟩, ⟨none, .raw ⟨(some 16), (.call ⟨(.builtin .append), #[(.tmp 14), (.tmp 15)], #[70, 70]⟩), 70, "", #[], none⟩⟩, qn 17 10, qf 18 17 0, qs 18 16]
def QrZ : List GO := [qj 19 .add 3 8 1, qm 8 19]
def Qhm : LC := (.seq (.ops Qs1) (.seq (.cond (.tmp 9) .skip (.exit 0)) (.seq (.block 1 (.ops Qs0)) (.ops QrZ))))
def QrY : List GO := [qm 20 3, qm 2 20]
def held_New_lc : LC := (.seq (.ops Qs4) (.seq (.ops Qs3) (.seq (.seq (.ops Qs2) (.block 0 (.loop Qhm))) (.seq (.ops QrY) .ret))))
@[reducible] def Qtk : FuncId := 62
theorem Qq7 : lowF Tryz.prog Tryz.f62 = some held_New_lc := by kernel_rfl
theorem Qs5 {a0 : Value} {w : World} {R : Ending → World → Prop} (h : held_New_lc.wp Tryz.prog (retQ Tryz.prog [.tmp 2] R) (Ql [a0]) w) : Calls Tryz.prog Qtk ⟨[a0]⟩ w R :=
  Q6 Tryz.func62 Qq7 (by kernel_rfl) (by kernel_rfl) h

/- 63 -/
def Q2X : List GO := [qk 2 vn]
def Q2W : List GO := [qm 3 0, ⟨none, .bin 4 .eql 50 (.tmp 3) (.const vn)⟩]
def Q2V : List GO := [qk 2 vn]
def Q2U : List GO := [⟨none, .raw ⟨(some 5), (.buildSlice 50 0 #[]), 50, "", #[], none⟩⟩, qm 6 0, ⟨none, .raw ⟨(some 7), (.call ⟨(.builtin .append), #[(.tmp 5), (.tmp 6)], #[50, 50]⟩), 50, "", #[], none⟩⟩, qm 2 7]
def slices_Clone_api_Type_api_Type_lc : LC := (.seq (.ops Q2X) (.seq (.seq (.ops Q2W) (.cond (.tmp 4) (.seq (.ops Q2V) .ret) .skip)) (.seq (.ops Q2U) .ret)))
@[reducible] def Q1j : FuncId := 63
theorem Q2Q : lowF Tryz.prog Tryz.f63 = some slices_Clone_api_Type_api_Type_lc := by kernel_rfl
theorem Q1U {a0 : Value} {w : World} {R : Ending → World → Prop} (h : slices_Clone_api_Type_api_Type_lc.wp Tryz.prog (retQ Tryz.prog [.tmp 2] R) (Ql [a0]) w) : Calls Tryz.prog Q1j ⟨[a0]⟩ w R :=
  Q6 Tryz.func63 Q2Q (by kernel_rfl) (by kernel_rfl) h

/- 75 -/
def QpB : List GO := [qb 1 112 0, ⟨none, .alloc 2 112 [(vi 0), (vi 0), vn]⟩]
def QpA : List GO := [qf 6 1 0, ql 7 6, qf 8 1 1, ql 9 8, ⟨none, .build 10 [(vi 0), (vi 0), vn] [(0, (1, (.tmp 7))), (1, (1, (.tmp 9)))]⟩, ⟨none, .alloc 3 112 [(vi 0), (vi 0), vn]⟩, qw 3 3 10]
def Qpz : List GO := [qf 11 1 2, ql 12 11, qL 13 12, qk 14 (vi 0)]
def Qpy : List GO := [qt 15 .lss 3 14 13]
def Qpx : List GO := [qi 16 3 12 14, qV 17 3 16, ⟨none, .alloc 5 112 [(vi 0), (vi 0), vn]⟩, qw 3 5 17]
def Qpw : List GO := [qf 18 3 2, ql 19 18, qV 20 3 5, ⟨none, .call (some 21) 75 [(.tmp 20)]⟩, ⟨none, .buildS 22 112 1 [(vi 0), (vi 0), vn] [(0, (3, (.tmp 21)))]⟩, ⟨none, .raw ⟨(some 23), (.call ⟨(.builtin .append), #[(.tmp 19), (.tmp 22)], #[50, 50]⟩), 50, "", #[], none⟩⟩, qf 24 3 2, qs 24 23]
def QpD : List (List Nat) := [[],[0],[],[2],[3],[1,4,3],[0,1,2,3,4,5],[6,5,5,0,1,2,3,4,5]]
def Qpv : List GO := [qj 25 .add 3 14 1, qm 14 25]
def Qeo : LC := (.seq (.ops Qpy) (.seq (.cond (.tmp 15) .skip (.exit 0)) (.seq (.block 1 (.seq (.ops Qpx) (.draw Qpw QpD))) (.ops Qpv))))
def Qpu : List GO := [qV 26 3 3, qw 3 2 26]
def judge_own_lc : LC := (.seq (.ops QpB) (.seq (.ops QpA) (.seq (.seq (.ops Qpz) (.block 0 (.loop Qeo))) (.seq (.ops Qpu) .ret))))
@[reducible] def QpE : FuncId := 75
theorem QmU : lowF Tryz.prog Tryz.f75 = some judge_own_lc := by kernel_rfl
theorem QpC {a0 : Value} {w : World} {R : Ending → World → Prop} (h : judge_own_lc.wp Tryz.prog (retQ Tryz.prog [.cell 2 112] R) (Ql [a0]) w) : Calls Tryz.prog QpE ⟨[a0]⟩ w R :=
  Q6 Tryz.func75 QmU (by kernel_rfl) (by kernel_rfl) h

/- 69 -/
def Qha : List GO := [⟨none, .alloc 2 3 [(vi 0)]⟩]
def Qh9 : List GO := [⟨none, .mkfn 3 118 [(.tmp 2)]⟩]
def Qh8 : List GO := []
def Qh7 : List GO := [qm 4 0, ⟨none, .callv (some 5) (.tmp 4) []⟩]
def Qh6 : List GO := [⟨none, .store1 (.tmp 2) (.const (vi 0))⟩]
def judge_caught_ld : LD := (.seq (.pl (.ops Qha)) (.seq (.sp Qh9 (.dfr none (.tmp 3)) Qh8) (.pl (.seq (.ops Qh7) (.seq (.ops Qh6) .ret)))))
@[reducible] def Qep : FuncId := 69
theorem QeH : QtK Tryz.prog Tryz.f69 = some judge_caught_ld := by kernel_rfl
theorem Qhb {a0 : Value} {w : World} {R : Ending → World → Prop} (h : judge_caught_ld.wpD Tryz.prog (retD Tryz.prog [.cell 2 3] R) [] (Ql [a0]) w) : Calls Tryz.prog Qep ⟨[a0]⟩ w R :=
  Qny Tryz.func69 QeH (by kernel_rfl) (by kernel_rfl) h
/- 70 -/
def Q7d : List GO := [ql 2 0, qV 3 8 1, ⟨none, .call (some 4) 71 [(.tmp 2), (.tmp 3)]⟩]
def judge_State_Ins_1_lc : LC := (.ops Q7d)
@[reducible] def Q4A : FuncId := 70
theorem Q5X : lowF Tryz.prog Tryz.f70 = some judge_State_Ins_1_lc := by kernel_rfl
theorem Q7e {a0 a1 : Value} {w : World} {R : Ending → World → Prop} (h : judge_State_Ins_1_lc.wp Tryz.prog (retQ Tryz.prog [] R) (Ql [a0, a1]) w) : Calls Tryz.prog Q4A ⟨[a0, a1]⟩ w R :=
  Q6 Tryz.func70 Q5X (by kernel_rfl) (by kernel_rfl) h

/- 71 -/
def Q9D : List GO := [qb 3 57 1]
def Q9C : List GO := [⟨none, .build 8 [(vi 0), (vi 0), vn] [(0, (1, (.const (vi 1))))]⟩, ⟨none, .alloc 4 112 [(vi 0), (vi 0), vn]⟩, qw 3 4 8]
def Q9B : List GO := [qf 9 3 0, ql 10 9]
def Q9A : List GO := [qj 12 .eql 3 10 1, qm 11 12]
def Q9z : List GO := [qj 13 .eql 3 10 12, qm 11 13]
def Q9y : List GO := [qm 14 0, qV 15 3 4, ⟨none, .call (some 16) 119 [(.tmp 14), (.tmp 15)]⟩]
def Q9x : List GO := [qj 18 .eql 3 10 2, qm 17 18]
def Q9w : List GO := [qm 19 0, qf 20 3 1, ql 21 20, ⟨none, .call (some 22) 120 [(.tmp 19), (.tmp 21), (.const (vi 1))]⟩]
def Q9v : List GO := [qm 23 0, qf 24 3 2, ql 25 24, ⟨none, .call (some 26) 120 [(.tmp 23), (.tmp 25), (.const (vi 1))]⟩]
def Q9u : List GO := [qm 27 0, qV 28 3 4, ⟨none, .call (some 29) 119 [(.tmp 27), (.tmp 28)]⟩]
def Q8c : List GO := [qj 31 .eql 3 10 3, qm 30 31]
def Q8b : List GO := [qm 32 0, qn 33 32, qf 34 33 0, ql 35 34, ⟨none, .call (some 36) 28 [(.tmp 35)]⟩, qj 37 .eql 3 36 16, qm 38 37, qg 38 false (qm 39 0), qg 38 false (qn 40 39), qg 38 false (qf 41 40 6), qg 38 false (ql 42 41), qg 38 false (qL 43 42), qg 38 false (qj 44 .eql 3 43 80), ⟨none, .pick 45 (.tmp 38) (.const (.bool true)) (.tmp 44)⟩, ⟨none, .call (some 46) 121 [(.tmp 45), (.const (vi 2))]⟩]
def Q8a : List GO := [qm 47 0, qm 48 0, qn 49 48, qf 50 49 0, ql 51 50, ⟨none, .call (some 52) 122 [(.tmp 51)]⟩, ⟨none, .build 53 [(vi 0), (vi 0), vn] [(0, (1, (.const (vi 2)))), (1, (1, (.tmp 52)))]⟩, ⟨none, .call (some 54) 119 [(.tmp 47), (.tmp 53)]⟩]
def Q89 : List GO := [qj 56 .eql 3 10 4, qm 55 56]
def Q88 : List GO := [qm 57 0, qf 58 3 1, ql 59 58, ⟨none, .call (some 60) 123 [(.tmp 57), (.tmp 59), (.const (vi 2))]⟩, ⟨none, .fldv 61 (.tmp 60) 1⟩, qm 5 61]
def Q87 : List GO := [qm 62 5, qm 63 0, qn 64 63, qf 65 64 2, qf 66 65 0, ql 67 66, qt 68 .lss 3 62 67, ⟨none, .call (some 69) 121 [(.tmp 68), (.const (vi 11))]⟩]
def Q86 : List GO := [qm 70 0, qn 71 70, qf 72 71 0, ql 73 72, qm 74 5, ⟨none, .call (some 75) 124 [(.tmp 73), (.tmp 74)]⟩]
def Q85 : List GO := [qj 77 .eql 3 10 5, qm 76 77]
def Q84 : List GO := [qm 78 0, qV 79 8 3, ⟨none, .call (some 80) 125 [(.tmp 78), (.tmp 79)]⟩]
def Q83 : List GO := [qj 82 .eql 3 10 6, qm 81 82]
def Q82 : List GO := [qm 83 0, qm 84 0, qm 85 0, qf 86 3 1, ql 87 86, ⟨none, .call (some 88) 123 [(.tmp 85), (.tmp 87), (.const (vi 3))]⟩, qf 89 3 4, ql 90 89, ⟨none, .call (some 91) 126 [(.tmp 84), (.tmp 88), (.tmp 90)]⟩, ⟨none, .call (some 92) 119 [(.tmp 83), (.tmp 91)]⟩]
def Q8g : List (List Nat) := [[],[],[],[],[3],[2,4],[],[6],[1,5,7,5],[0,8,8]]
def Q81 : List GO := [qj 94 .eql 3 10 7, qm 93 94]
def Q80 : List GO := [qm 95 0, qm 96 0, qf 97 3 1, ql 98 97, ⟨none, .call (some 99) 123 [(.tmp 96), (.tmp 98), (.const (vi 3))]⟩, qf 100 3 4, ql 101 100, ⟨none, .call (some 102) 126 [(.tmp 95), (.tmp 99), (.tmp 101)]⟩, ⟨none, .alloc 6 112 [(vi 0), (vi 0), vn]⟩, qw 3 6 102]
def Q8f : List (List Nat) := [[],[],[],[2],[1,3],[],[5],[0,4,6,4],[],[8,7,7,0,1,2,3,4,5,6,7,8]]
def Q7Z : List GO := [qV 103 3 6, qm 104 0, qf 105 3 2, ql 106 105, ⟨none, .call (some 107) 128 [(.tmp 104), (.tmp 106)]⟩, ⟨none, .call (some 108) 127 [(.tmp 103), (.tmp 107)]⟩, ⟨none, .un 109 .not (.tmp 108)⟩, ⟨none, .call (some 110) 121 [(.tmp 109), (.const (vi 9))]⟩]
def Q8e : List (List Nat) := [[],[],[],[2],[1,3],[0,4,4],[5],[6,5]]
def Q7Y : List GO := [qj 112 .eql 3 10 8, qm 111 112]
def Q7X : List GO := [qm 113 0, qf 114 3 1, ql 115 114, ⟨none, .call (some 116) 123 [(.tmp 113), (.tmp 115), (.const (vi 2))]⟩, ⟨none, .fldv 117 (.tmp 116) 1⟩, qm 7 117]
def Q7W : List GO := [qm 118 0, qf 119 3 2, ql 120 119, ⟨none, .call (some 121) 120 [(.tmp 118), (.tmp 120), (.const (vi 1))]⟩]
def Q7V : List GO := [qm 122 0, qm 123 7, ⟨none, .build 124 [(vi 0), (vi 0), vn] [(0, (1, (.const (vi 4)))), (1, (1, (.tmp 123)))]⟩, ⟨none, .call (some 125) 119 [(.tmp 122), (.tmp 124)]⟩]
def Q7U : List GO := [qj 127 .eql 3 10 9, qm 126 127]
def Q7T : List GO := [qm 128 0, qf 129 3 1, ql 130 129, ⟨none, .call (some 131) 123 [(.tmp 128), (.tmp 130), (.const (vi 4))]⟩]
def Q7S : List GO := [qm 132 0, qf 133 3 2, ql 134 133, ⟨none, .call (some 135) 120 [(.tmp 132), (.tmp 134), (.const (vi 1))]⟩]
def Q7R : List GO := [qm 136 0, qV 137 3 4, ⟨none, .call (some 138) 119 [(.tmp 136), (.tmp 137)]⟩]
def Q7Q : List GO := [qj 140 .eql 3 10 10, qm 139 140]
def Q7P : List GO := [qm 141 0, qf 142 3 1, ql 143 142, ⟨none, .call (some 144) 123 [(.tmp 141), (.tmp 143), (.const (vi 4))]⟩]
def Q7O : List GO := [qm 145 0, qf 146 3 2, ql 147 146, ⟨none, .call (some 148) 120 [(.tmp 145), (.tmp 147), (.const (vi 1))]⟩]
def Q7N : List GO := [qm 149 0, qf 150 3 3, ql 151 150, ⟨none, .call (some 152) 120 [(.tmp 149), (.tmp 151), (.const (vi 1))]⟩]
def Q7M : List GO := [qj 154 .eql 3 10 11, qm 153 154]
def Q7L : List GO := [qm 155 0, qf 156 3 1, ql 157 156, ⟨none, .call (some 158) 123 [(.tmp 155), (.tmp 157), (.const (vi 4))]⟩]
def Q7K : List GO := [qm 159 0, qV 160 3 4, ⟨none, .call (some 161) 119 [(.tmp 159), (.tmp 160)]⟩]
def Q7J : List GO := [qj 163 .eql 3 10 13, qm 162 163]
def Q7I : List GO := [qm 164 0, qf 165 3 1, ql 166 165, ⟨none, .call (some 167) 120 [(.tmp 164), (.tmp 166), (.const (vi 1))]⟩]
def Q7H : List GO := [qj 169 .eql 3 10 14, qm 168 169]
def Q7G : List GO := [qm 170 0, qV 171 8 3, ⟨none, .call (some 172) 129 [(.tmp 170), (.tmp 171)]⟩]
def judge_State_ins_lc : LC := (.seq (.ops Q9D) (.seq (.ops Q9C) (.seq (.ops Q9B) (.block 0 (.seq (.seq (.ops Q9A) (.cond (.tmp 11) .skip (.ops Q9z))) (.cond (.tmp 11) (.ops Q9y) (.seq (.ops Q9x) (.cond (.tmp 17) (.seq (.ops Q9w) (.seq (.ops Q9v) (.ops Q9u))) (.seq (.ops Q8c) (.cond (.tmp 30) (.seq (.ops Q8b) (.ops Q8a)) (.seq (.ops Q89) (.cond (.tmp 55) (.seq (.ops Q88) (.seq (.ops Q87) (.ops Q86))) (.seq (.ops Q85) (.cond (.tmp 76) (.ops Q84) (.seq (.ops Q83) (.cond (.tmp 81) (.draw Q82 Q8g) (.seq (.ops Q81) (.cond (.tmp 93) (.seq (.draw Q80 Q8f) (.draw Q7Z Q8e)) (.seq (.ops Q7Y) (.cond (.tmp 111) (.seq (.ops Q7X) (.seq (.ops Q7W) (.ops Q7V))) (.seq (.ops Q7U) (.cond (.tmp 126) (.seq (.ops Q7T) (.seq (.ops Q7S) (.ops Q7R))) (.seq (.ops Q7Q) (.cond (.tmp 139) (.seq (.ops Q7P) (.seq (.ops Q7O) (.ops Q7N))) (.seq (.ops Q7M) (.cond (.tmp 153) (.seq (.ops Q7L) (.ops Q7K)) (.seq (.ops Q7J) (.cond (.tmp 162) (.ops Q7I) (.seq (.ops Q7H) (.cond (.tmp 168) (.ops Q7G) .skip))))))))))))))))))))))))))))))
@[reducible] def Qg : FuncId := 71
theorem Q8d : lowF Tryz.prog Tryz.f71 = some judge_State_ins_lc := by kernel_rfl
theorem Q9E {a0 a1 : Value} {w : World} {R : Ending → World → Prop} (h : judge_State_ins_lc.wp Tryz.prog (retQ Tryz.prog [] R) (Ql [a0, a1]) w) : Calls Tryz.prog Qg ⟨[a0, a1]⟩ w R :=
  Q6 Tryz.func71 Q8d (by kernel_rfl) (by kernel_rfl) h

/- 83 -/
/- 77 -/
def Q7f : List GO := [ql 2 0, qV 3 9 1, ⟨none, .call (some 4) 78 [(.tmp 2), (.tmp 3)]⟩]
def judge_State_End_1_lc : LC := (.ops Q7f)
@[reducible] def Q4B : FuncId := 77
theorem Q5Y : lowF Tryz.prog Tryz.f77 = some judge_State_End_1_lc := by kernel_rfl
theorem Q7g {a0 a1 : Value} {w : World} {R : Ending → World → Prop} (h : judge_State_End_1_lc.wp Tryz.prog (retQ Tryz.prog [] R) (Ql [a0, a1]) w) : Calls Tryz.prog Q4B ⟨[a0, a1]⟩ w R :=
  Q6 Tryz.func77 Q5Y (by kernel_rfl) (by kernel_rfl) h

/- 78 -/
def Q9O : List GO := [qb 3 45 1]
def Q9N : List GO := [qf 6 3 0, ql 7 6]
def Q9M : List GO := [qj 9 .eql 3 7 1, qm 8 9]
def Q9L : List GO := [qm 10 0, qf 11 3 2, qV 12 3 11, ⟨none, .call (some 13) 135 [(.tmp 10), (.tmp 12)]⟩]
def Q9K : List GO := [qj 15 .eql 3 7 2, qm 14 15]
def Q9J : List GO := [qm 16 0, qf 17 3 1, ql 18 17, ⟨none, .call (some 19) 120 [(.tmp 16), (.tmp 18), (.const (vi 1))]⟩]
def Q9I : List GO := [qm 20 0, qf 21 3 2, qV 22 3 21, ⟨none, .call (some 23) 135 [(.tmp 20), (.tmp 22)]⟩]
def Q9H : List GO := [qm 24 0, qf 25 3 5, qV 26 3 25, ⟨none, .call (some 27) 135 [(.tmp 24), (.tmp 26)]⟩]
def Q9G : List GO := [qj 29 .eql 3 7 3, qm 28 29]
def Q9F : List GO := [qk 4 vn]
def Q8n : List GO := [qm 30 0, qn 31 30, qf 32 31 2, qf 33 32 0, ql 34 33, qk 35 (vi 0)]
def Q8m : List GO := [qt 36 .lss 3 35 34]
def Q8l : List GO := [qm 37 35, qm 5 37]
def Q8k : List GO := [qm 38 4, qm 39 5, ⟨none, .buildS 40 3 1 [(vi 0)] [(0, (1, (.tmp 39)))]⟩, ⟨none, .raw ⟨(some 41), (.call ⟨(.builtin .append), #[(.tmp 38), (.tmp 40)], #[41, 41]⟩), 41, "", #[], none⟩⟩, qm 4 41]
def Q8j : List GO := [qj 42 .add 3 35 1, qm 35 42]
def Q3P : LC := (.seq (.ops Q8m) (.seq (.cond (.tmp 36) .skip (.exit 1)) (.seq (.block 2 (.seq (.ops Q8l) (.ops Q8k))) (.ops Q8j))))
def Q8i : List GO := [qm 43 0, qf 44 3 8, ql 45 44, qm 46 0, qn 47 46, qf 48 47 2, qf 49 48 2, ql 50 49, qm 51 4, ⟨none, .call (some 52) 136 [(.tmp 43), (.tmp 45), (.tmp 50), (.tmp 51)]⟩]
def Q8q : List (List Nat) := [[],[],[1],[],[3],[4],[5],[6],[],[0,2,7,8]]
def Q8h : List GO := [qm 53 0, qn 54 53, qf 55 54 0, ql 56 55, ⟨none, .call (some 57) 26 [(.tmp 56)]⟩, qL 58 57, qm 59 0, qn 60 59, qf 61 60 2, qf 62 61 0, ql 63 62, qt 64 .gtr 3 58 63, ⟨none, .call (some 65) 121 [(.tmp 64), (.const (vi 12))]⟩]
def Q8p : List (List Nat) := [[],[0],[1],[2],[3],[4],[],[6],[7],[8],[9],[5,10],[11,4]]
def judge_State_end_lc : LC := (.seq (.ops Q9O) (.seq (.ops Q9N) (.block 0 (.seq (.ops Q9M) (.cond (.tmp 8) (.ops Q9L) (.seq (.ops Q9K) (.cond (.tmp 14) (.seq (.ops Q9J) (.seq (.ops Q9I) (.ops Q9H))) (.seq (.ops Q9G) (.cond (.tmp 28) (.seq (.ops Q9F) (.seq (.seq (.ops Q8n) (.block 1 (.loop Q3P))) (.seq (.draw Q8i Q8q) (.draw Q8h Q8p)))) .skip)))))))))
@[reducible] def Q1k : FuncId := 78
theorem Q8o : lowF Tryz.prog Tryz.f78 = some judge_State_end_lc := by kernel_rfl
theorem Q9P {a0 a1 : Value} {w : World} {R : Ending → World → Prop} (h : judge_State_end_lc.wp Tryz.prog (retQ Tryz.prog [] R) (Ql [a0, a1]) w) : Calls Tryz.prog Q1k ⟨[a0, a1]⟩ w R :=
  Q6 Tryz.func78 Q8o (by kernel_rfl) (by kernel_rfl) h

/- 118 -/
def Qb3 : List GO := []
def Qb2 : List GO := [qm 1 4]
def Qb1 : List GO := [qm 5 1, ⟨none, .bin 6 .neq 20 (.tmp 5) (.const .nilIface)⟩]
def Qb0 : List GO := [qm 8 1, ⟨none, .raw ⟨(some 9), (.typeAssert (.tmp 8) 20 154 true), 155, "", #[], none⟩⟩, qm 7 9, qx 10 7 0, qx 11 7 1, qm 2 10, qm 3 11]
def QaZ : List GO := [qm 12 3, ⟨none, .un 13 .not (.tmp 12)⟩]
def QaY : List GO := [qm 14 1, ⟨none, .raw ⟨none, (.panic (.tmp 14)), 0, "", #[], none⟩⟩]
def QaX : List GO := [qm 15 2, qs 0 15]
def judge_caught_1_ld : LD := (.seq (.sp Qb3 (.rcv (some 4)) Qb2) (.pl (.seq (.ops Qb1) (.cond (.tmp 6) (.seq (.ops Qb0) (.seq (.seq (.ops QaZ) (.cond (.tmp 13) (.ops QaY) .skip)) (.ops QaX))) .skip))))
@[reducible] def Q4o : FuncId := 118
theorem Q9m : QtK Tryz.prog Tryz.f118 = some judge_caught_1_ld := by kernel_rfl
theorem Q45 {a0 : Value} {u : FrameMode} {w : World} {R : Ending → FrameMode → World → Prop} (h : judge_caught_1_ld.wpR Tryz.prog (retR Tryz.prog [] R) u (Ql [a0]) w) : CallsD Tryz.prog Q4o ⟨[a0]⟩ u w R :=
  QkC Tryz.func118 Q9m (by kernel_rfl) (by kernel_rfl) h

/- 119 -/
def Q9r : List GO := [qb 3 112 1]
def Q9q : List GO := [qm 4 0, qn 5 4, qf 6 5 6, ql 7 6, qL 8 7, qj 9 .eql 3 8 80, ⟨none, .call (some 10) 121 [(.tmp 9), (.const (vi 2))]⟩]
def Q9p : List GO := [qm 11 0, qn 12 11, qf 13 12 6, ql 14 13, qV 15 3 3, qL 16 14, ⟨none, .buildS 17 112 1 [(vi 0), (vi 0), vn] [(0, (3, (.const (.agg #[(vi 0), (vi 0), vn]))))]⟩, ⟨none, .raw ⟨(some 18), (.call ⟨(.builtin .append), #[(.tmp 14), (.tmp 17)], #[50, 50]⟩), 50, "", #[], none⟩⟩, qi 19 3 18 16, qw 3 19 15, qn 20 11, qf 21 20 6, qs 21 18]
def Q9t : List (List Nat) := [[],[0],[1],[2],[],[3],[],[3,6,0,1,2,3,4,5,6],[7,5,0,1,2,3,4,5,6,7],[8,4,7,0,1,2,3,4,5,6,7],[0,0,1,2,3,4,5,6,7],[10,0,1,2,3,4,5,6,7],[11,7,7,0,1,2,3,4,5,6,7]]
def judge_State_put_lc : LC := (.seq (.ops Q9r) (.seq (.ops Q9q) (.draw Q9p Q9t)))
@[reducible] def Q5U : FuncId := 119
theorem Q7A : lowF Tryz.prog Tryz.f119 = some judge_State_put_lc := by kernel_rfl
theorem Q9s {a0 a1 : Value} {w : World} {R : Ending → World → Prop} (h : judge_State_put_lc.wp Tryz.prog (retQ Tryz.prog [] R) (Ql [a0, a1]) w) : Calls Tryz.prog Q5U ⟨[a0, a1]⟩ w R :=
  Q6 Tryz.func119 Q7A (by kernel_rfl) (by kernel_rfl) h

/- 120 -/
def Q7E : List GO := [⟨none, .alloc 6 112 [(vi 0), (vi 0), vn]⟩]
def Q7D : List GO := [qm 8 0, qm 9 1, ⟨none, .call (some 10) 128 [(.tmp 8), (.tmp 9)]⟩, ⟨none, .alloc 7 112 [(vi 0), (vi 0), vn]⟩, qw 3 7 10]
def Q7C : List GO := [qf 11 7 0, ql 12 11, qm 13 2, qt 14 .neq 3 12 13, ⟨none, .call (some 15) 121 [(.tmp 14), (.const (vi 9))]⟩]
def Q7B : List GO := [qV 16 3 7, qw 3 6 16]
def judge_State_kind_lc : LC := (.seq (.ops Q7E) (.seq (.ops Q7D) (.seq (.ops Q7C) (.seq (.ops Q7B) .ret))))
@[reducible] def Q5n : FuncId := 120
theorem Q6P : lowF Tryz.prog Tryz.f120 = some judge_State_kind_lc := by kernel_rfl
theorem Q7F {a0 a1 a2 : Value} {w : World} {R : Ending → World → Prop} (h : judge_State_kind_lc.wp Tryz.prog (retQ Tryz.prog [.cell 6 112] R) (Ql [a0, a1, a2]) w) : Calls Tryz.prog Q5n ⟨[a0, a1, a2]⟩ w R :=
  Q6 Tryz.func120 Q6P (by kernel_rfl) (by kernel_rfl) h

/- 121 -/
def QmW : List GO := [qm 4 0]
def QmV : List GO := [qm 5 1, ⟨none, .mki 6 154 (.tmp 5)⟩, ⟨none, .raw ⟨none, (.panic (.tmp 6)), 0, "", #[], none⟩⟩]
def judge_fail_lc : LC := (.seq (.ops QmW) (.cond (.tmp 4) (.ops QmV) .skip))
@[reducible] def Q6s : FuncId := 121
theorem Qkj : lowF Tryz.prog Tryz.f121 = some judge_fail_lc := by kernel_rfl
theorem Q9l {a0 a1 : Value} {w : World} {R : Ending → World → Prop} (h : judge_fail_lc.wp Tryz.prog (retQ Tryz.prog [] R) (Ql [a0, a1]) w) : Calls Tryz.prog Q6s ⟨[a0, a1]⟩ w R :=
  Q6 Tryz.func121 Qkj (by kernel_rfl) (by kernel_rfl) h

/- 122 -/
def QbM : List GO := [qk 2 (vi 0)]
def QbL : List GO := [qm 3 0, qn 4 3, qf 5 4 0, ql 6 5, qL 7 6, qj 8 .eql 3 7 16]
def QbK : List GO := [qk 2 (vi (-1))]
def QbJ : List GO := [qm 9 0, qm 10 0, qn 11 10, qf 12 11 0, ql 13 12, ⟨none, .buildS 14 4 1 [(.bool false)] [(0, (1, (.const (.bool true))))]⟩, ⟨none, .raw ⟨(some 15), (.call ⟨(.builtin .append), #[(.tmp 13), (.tmp 14)], #[70, 70]⟩), 70, "", #[], none⟩⟩, qn 16 9, qf 17 16 0, qs 17 15]
def QbI : List GO := [qm 18 0, qn 19 18, qf 20 19 0, ql 21 20, qL 22 21, qj 23 .sub 3 22 1, qm 2 23]
def held_Held_Open_lc : LC := (.seq (.ops QbM) (.seq (.seq (.ops QbL) (.cond (.tmp 8) (.seq (.ops QbK) .ret) .skip)) (.seq (.ops QbJ) (.seq (.ops QbI) .ret))))
@[reducible] def Q4q : FuncId := 122
theorem Qad : lowF Tryz.prog Tryz.f122 = some held_Held_Open_lc := by kernel_rfl
theorem QbN {a0 : Value} {w : World} {R : Ending → World → Prop} (h : held_Held_Open_lc.wp Tryz.prog (retQ Tryz.prog [.tmp 2] R) (Ql [a0]) w) : Calls Tryz.prog Q4q ⟨[a0]⟩ w R :=
  Q6 Tryz.func122 Qad (by kernel_rfl) (by kernel_rfl) h

/- 123 -/
def Qbk : List GO := [⟨none, .alloc 6 112 [(vi 0), (vi 0), vn]⟩]
def Qbj : List GO := [qm 8 0, qm 9 1, qm 10 2, ⟨none, .call (some 11) 120 [(.tmp 8), (.tmp 9), (.tmp 10)]⟩, ⟨none, .alloc 7 112 [(vi 0), (vi 0), vn]⟩, qw 3 7 11]
def Qbi : List GO := [qm 12 0, qn 13 12, qf 14 13 0, ql 15 14, qf 16 7 1, ql 17 16, ⟨none, .call (some 18) 31 [(.tmp 15), (.tmp 17)]⟩, ⟨none, .un 19 .not (.tmp 18)⟩, ⟨none, .call (some 20) 121 [(.tmp 19), (.const (vi 10))]⟩]
def Qbm : List (List Nat) := [[],[0],[1],[2],[],[4],[3,5],[6],[7,6]]
def Qbh : List GO := [qV 21 3 7, qw 3 6 21]
def judge_State_at_lc : LC := (.seq (.ops Qbk) (.seq (.ops Qbj) (.seq (.draw Qbi Qbm) (.seq (.ops Qbh) .ret))))
@[reducible] def Q7r : FuncId := 123
theorem Q9Q : lowF Tryz.prog Tryz.f123 = some judge_State_at_lc := by kernel_rfl
theorem Qbl {a0 a1 a2 : Value} {w : World} {R : Ending → World → Prop} (h : judge_State_at_lc.wp Tryz.prog (retQ Tryz.prog [.cell 6 112] R) (Ql [a0, a1, a2]) w) : Calls Tryz.prog Q7r ⟨[a0, a1, a2]⟩ w R :=
  Q6 Tryz.func123 Q9Q (by kernel_rfl) (by kernel_rfl) h

/- 124 -/
def Qbv : List GO := [qk 4 (.bool false)]
def Qbu : List GO := [qm 6 0, qm 7 1, ⟨none, .call (some 8) 31 [(.tmp 6), (.tmp 7)]⟩, qm 5 8]
def Qbt : List GO := [qm 9 5]
def Qbs : List GO := [qm 10 0, qn 11 10, qf 12 11 0, ql 13 12, qm 14 1, qi 15 1 13 14, ⟨none, .store1 (.tmp 15) (.const (.bool false))⟩]
def Qbr : List GO := [qm 16 5, qm 4 16]
def held_Held_Shut_lc : LC := (.seq (.ops Qbv) (.seq (.ops Qbu) (.seq (.seq (.ops Qbt) (.cond (.tmp 9) (.ops Qbs) .skip)) (.seq (.ops Qbr) .ret))))
@[reducible] def Q4p : FuncId := 124
theorem Qa7 : lowF Tryz.prog Tryz.f124 = some held_Held_Shut_lc := by kernel_rfl
theorem Qbw {a0 a1 : Value} {w : World} {R : Ending → World → Prop} (h : held_Held_Shut_lc.wp Tryz.prog (retQ Tryz.prog [.tmp 4] R) (Ql [a0, a1]) w) : Calls Tryz.prog Q4p ⟨[a0, a1]⟩ w R :=
  Q6 Tryz.func124 Qa7 (by kernel_rfl) (by kernel_rfl) h

/- 125 -/
def Q6L : List GO := [qb 3 57 1]
def Q6K : List GO := [qm 7 0, qf 8 3 1, ql 9 8, ⟨none, .call (some 10) 123 [(.tmp 7), (.tmp 9), (.const (vi 2))]⟩, ⟨none, .fldv 11 (.tmp 10) 1⟩, ⟨none, .build 12 [(vi 0), (vi 0), vn] [(0, (1, (.const (vi 3)))), (1, (1, (.tmp 11)))]⟩, ⟨none, .alloc 4 112 [(vi 0), (vi 0), vn]⟩, qw 3 4 12]
def Q6J : List GO := [qf 13 3 7, ql 14 13, qL 15 14, qk 16 (vi 0)]
def Q6I : List GO := [qt 17 .lss 3 16 15]
def Q6H : List GO := [qi 18 1 14 16, ql 19 18, qm 6 19]
def Q6G : List GO := [qf 20 4 2, ql 21 20, qm 22 0, qm 23 6, ⟨none, .call (some 24) 128 [(.tmp 22), (.tmp 23)]⟩, ⟨none, .buildS 25 112 1 [(vi 0), (vi 0), vn] [(0, (3, (.tmp 24)))]⟩, ⟨none, .raw ⟨(some 26), (.call ⟨(.builtin .append), #[(.tmp 21), (.tmp 25)], #[50, 50]⟩), 50, "", #[], none⟩⟩, qf 27 4 2, qs 27 26]
def Q6O : List (List Nat) := [[],[0],[],[],[2,3],[4],[1,5,4],[0,1,2,3,4,5,6],[7,6,6,0,1,2,3,4,5,6]]
def Q6F : List GO := [qj 28 .add 3 16 1, qm 16 28]
def Q3t : LC := (.seq (.ops Q6I) (.seq (.cond (.tmp 17) .skip (.exit 0)) (.seq (.block 1 (.seq (.ops Q6H) (.draw Q6G Q6O))) (.ops Q6F))))
def Q6E : List GO := [qV 29 3 4, qm 30 0, qn 31 30, qf 32 31 0, ql 33 32, ⟨none, .call (some 34) 28 [(.tmp 33)]⟩, ⟨none, .call (some 35) 142 [(.tmp 29), (.tmp 34)]⟩, qj 36 .neq 3 35 0, ⟨none, .call (some 37) 121 [(.tmp 36), (.const (vi 19))]⟩]
def Q6N : List (List Nat) := [[],[],[1],[2],[3],[4],[0,5,5],[6],[7,6]]
def Q6D : List GO := [qm 38 0, qV 39 3 4, ⟨none, .call (some 40) 119 [(.tmp 38), (.tmp 39)]⟩]
def judge_State_tuple_lc : LC := (.seq (.ops Q6L) (.seq (.ops Q6K) (.seq (.seq (.ops Q6J) (.block 0 (.loop Q3t))) (.seq (.draw Q6E Q6N) (.ops Q6D)))))
@[reducible] def Q4w : FuncId := 125
theorem Q5T : lowF Tryz.prog Tryz.f125 = some judge_State_tuple_lc := by kernel_rfl
theorem Q6M {a0 a1 : Value} {w : World} {R : Ending → World → Prop} (h : judge_State_tuple_lc.wp Tryz.prog (retQ Tryz.prog [] R) (Ql [a0, a1]) w) : Calls Tryz.prog Q4w ⟨[a0, a1]⟩ w R :=
  Q6 Tryz.func125 Q5T (by kernel_rfl) (by kernel_rfl) h

/- 126 -/
def Q6S : List GO := [qb 4 112 1, ⟨none, .alloc 6 112 [(vi 0), (vi 0), vn]⟩]
def Q6R : List GO := [qm 7 2, qf 8 4 2, ql 9 8, qL 10 9, qt 11 .geq 3 7 10, ⟨none, .call (some 12) 121 [(.tmp 11), (.const (vi 9))]⟩]
def Q6Q : List GO := [qf 13 4 2, ql 14 13, qm 15 2, qi 16 3 14 15, qV 17 3 16, qw 3 6 17]
def judge_State_field_lc : LC := (.seq (.ops Q6S) (.seq (.ops Q6R) (.seq (.ops Q6Q) .ret)))
@[reducible] def Q4y : FuncId := 126
theorem Q5V : lowF Tryz.prog Tryz.f126 = some judge_State_field_lc := by kernel_rfl
theorem Q6T {a0 a1 a2 : Value} {w : World} {R : Ending → World → Prop} (h : judge_State_field_lc.wp Tryz.prog (retQ Tryz.prog [.cell 6 112] R) (Ql [a0, a1, a2]) w) : Calls Tryz.prog Q4y ⟨[a0, a1, a2]⟩ w R :=
  Q6 Tryz.func126 Q5V (by kernel_rfl) (by kernel_rfl) h

/- 128 -/
def Q6B : List GO := [⟨none, .alloc 4 112 [(vi 0), (vi 0), vn]⟩]
def Q6A : List GO := [qm 5 1, qj 6 .lss 3 5 0, qm 7 6, qg 7 false (qm 8 1), qg 7 false (qm 9 0), qg 7 false (qn 10 9), qg 7 false (qf 11 10 6), qg 7 false (ql 12 11), qg 7 false (qL 13 12), qg 7 false (qt 14 .geq 3 8 13), ⟨none, .pick 15 (.tmp 7) (.const (.bool true)) (.tmp 14)⟩, ⟨none, .call (some 16) 121 [(.tmp 15), (.const (vi 1))]⟩]
def Q6z : List GO := [qm 17 0, qn 18 17, qf 19 18 6, ql 20 19, qm 21 1, qi 22 3 20 21, qV 23 3 22, qw 3 4 23]
def judge_State_value_lc : LC := (.seq (.ops Q6B) (.seq (.ops Q6A) (.seq (.ops Q6z) .ret)))
@[reducible] def Q4v : FuncId := 128
theorem Q5S : lowF Tryz.prog Tryz.f128 = some judge_State_value_lc := by kernel_rfl
theorem Q6C {a0 a1 : Value} {w : World} {R : Ending → World → Prop} (h : judge_State_value_lc.wp Tryz.prog (retQ Tryz.prog [.cell 4 112] R) (Ql [a0, a1]) w) : Calls Tryz.prog Q4v ⟨[a0, a1]⟩ w R :=
  Q6 Tryz.func128 Q5S (by kernel_rfl) (by kernel_rfl) h

/- 129 -/
def Q8A : List GO := [qb 3 57 1]
def Q8z : List GO := [qm 11 0, qn 12 11, qf 13 12 1, qf 14 13 0, ql 15 14, qf 16 3 4, ql 17 16, qi 18 4 15 17, qV 19 4 18, ⟨none, .alloc 4 53 [(vi 0), vn, vn, vn]⟩, qw 4 4 19]
def Q8C : List (List Nat) := [[],[0],[1],[2],[3],[],[5],[4,6],[7],[],[9,8,0,1,2,3,4,5,6,7,8,9]]
def Q8y : List GO := [qf 20 3 6, ql 21 20, qL 22 21, qf 23 4 0, ql 24 23, qt 25 .neq 3 22 24, ⟨none, .call (some 26) 121 [(.tmp 25), (.const (vi 2))]⟩]
def Q8x : List GO := [qf 27 3 6, ql 28 27, qL 29 28, qk 30 (vi 0)]
def Q8w : List GO := [qt 31 .lss 3 30 29]
def Q8v : List GO := [qm 32 30, qi 33 1 28 30, ql 34 33, qm 5 32, qm 6 34]
def Q8u : List GO := [qm 35 0, qn 36 35, qf 37 36 0, ql 38 37, qm 39 6, ⟨none, .call (some 40) 31 [(.tmp 38), (.tmp 39)]⟩, ⟨none, .un 41 .not (.tmp 40)⟩, ⟨none, .call (some 42) 121 [(.tmp 41), (.const (vi 10))]⟩]
def Q8t : List GO := [qf 43 3 6, ql 44 43, qm 45 5, ⟨none, .sub 46 1 (.tmp 44) none (some (.tmp 45)) none⟩, qm 47 6, ⟨none, .call (some 48) 155 [(.tmp 46), (.tmp 47)]⟩, ⟨none, .call (some 49) 121 [(.tmp 48), (.const (vi 13))]⟩]
def Q8s : List GO := [qj 50 .add 3 30 1, qm 30 50]
def Q3Q : LC := (.seq (.ops Q8w) (.seq (.cond (.tmp 31) .skip (.exit 0)) (.seq (.block 1 (.seq (.ops Q8v) (.seq (.ops Q8u) (.ops Q8t)))) (.ops Q8s))))
def Q8r : List GO := [qm 51 0, qf 52 3 7, ql 53 52, qf 54 4 1, ql 55 54, qf 56 3 6, ql 57 56, ⟨none, .call (some 58) 136 [(.tmp 51), (.tmp 53), (.tmp 55), (.tmp 57)]⟩]
def Q70 : List GO := [qm 59 0, qn 60 59, qf 61 60 6, ql 62 61, qL 63 62, qf 64 4 2, ql 65 64, qL 66 65, qt 67 .add 3 63 66, qj 68 .gtr 3 67 80, ⟨none, .call (some 69) 121 [(.tmp 68), (.const (vi 2))]⟩]
def Q72 : List (List Nat) := [[],[0],[1],[2],[3],[],[5],[6],[4,7],[8],[9]]
def Q6Z : List GO := [qf 70 4 2, ql 71 70, qL 72 71, qk 73 (vi 0)]
def Q6Y : List GO := [qt 74 .lss 3 73 72]
def Q6X : List GO := [qi 75 3 71 73, qV 76 3 75, ⟨none, .alloc 8 112 [(vi 0), (vi 0), vn]⟩, qw 3 8 76]
def Q6W : List GO := [qV 78 3 8, qf 79 3 6, ql 80 79, ⟨none, .call (some 81) 156 [(.tmp 78), (.tmp 80)]⟩, qm 77 81, qx 82 77 0, qx 83 77 1, ⟨none, .alloc 9 112 [(vi 0), (vi 0), vn]⟩, qw 3 9 82, qm 10 83]
def Q6V : List GO := [qm 84 0, qV 85 3 9, ⟨none, .call (some 86) 119 [(.tmp 84), (.tmp 85)]⟩]
def Q6U : List GO := [qj 87 .add 3 73 1, qm 73 87]
def Q3u : LC := (.seq (.ops Q6Y) (.seq (.cond (.tmp 74) .skip (.exit 2)) (.seq (.block 3 (.seq (.ops Q6X) (.seq (.ops Q6W) (.ops Q6V)))) (.ops Q6U))))
def judge_State_call_lc : LC := (.seq (.ops Q8A) (.seq (.draw Q8z Q8C) (.seq (.ops Q8y) (.seq (.seq (.ops Q8x) (.block 0 (.loop Q3Q))) (.seq (.ops Q8r) (.seq (.draw Q70 Q72) (.seq (.ops Q6Z) (.block 2 (.loop Q3u)))))))))
@[reducible] def Q5o : FuncId := 129
theorem Q71 : lowF Tryz.prog Tryz.f129 = some judge_State_call_lc := by kernel_rfl
theorem Q8B {a0 a1 : Value} {w : World} {R : Ending → World → Prop} (h : judge_State_call_lc.wp Tryz.prog (retQ Tryz.prog [] R) (Ql [a0, a1]) w) : Calls Tryz.prog Q5o ⟨[a0, a1]⟩ w R :=
  Q6 Tryz.func129 Q71 (by kernel_rfl) (by kernel_rfl) h

/- 135 -/
def Qbd : List GO := [qb 3 43 1]
def Qbc : List GO := [qm 7 0, qn 8 7, qf 9 8 2, qf 10 9 3, ql 11 10, qf 12 3 0, ql 13 12, qi 14 12 11 13, qV 15 12 14, ⟨none, .alloc 4 79 [(vi 0), vn, vn, (vi 0), (vi 0), (vi 0), vn, vn, (vi 0), vn, vn, vn]⟩, qw 12 4 15]
def Qbg : List (List Nat) := [[],[0],[1],[2],[3],[],[5],[4,6],[7],[],[9,8,0,1,2,3,4,5,6,7,8,9]]
def Qbb : List GO := [qf 16 3 1, ql 17 16, qL 18 17, qf 19 4 0, ql 20 19, qt 21 .neq 3 18 20, ⟨none, .call (some 22) 121 [(.tmp 21), (.const (vi 2))]⟩]
def Qba : List GO := [qm 23 0, qn 24 23, qf 25 24 2, qf 26 25 0, ql 27 26, qk 28 (vi 0)]
def Qb9 : List GO := [qt 29 .lss 3 28 27]
def Qb8 : List GO := [qm 30 28, qm 5 30]
def Qb7 : List GO := [qf 31 3 1, ql 32 31, qm 33 5, qi 34 1 32 33, ql 35 34, qm 36 5, qt 37 .neq 3 35 36, ⟨none, .call (some 38) 121 [(.tmp 37), (.const (vi 11))]⟩]
def Qb6 : List GO := [qj 39 .add 3 28 1, qm 28 39]
def Q4x : LC := (.seq (.ops Qb9) (.seq (.cond (.tmp 29) .skip (.exit 0)) (.seq (.block 1 (.seq (.ops Qb8) (.ops Qb7))) (.ops Qb6))))
def Qb5 : List GO := [qm 40 0, qn 41 40, qf 42 41 0, ql 43 42, qf 44 3 1, ql 45 44, ⟨none, .call (some 46) 158 [(.tmp 43), (.tmp 45)]⟩, qm 6 46]
def Qbf : List (List Nat) := [[],[0],[1],[2],[],[4],[3,5],[6,6,0,1,2,3,4,5,6]]
def Qb4 : List GO := [qm 47 6, qj 48 .neq 3 47 0, qm 49 6, ⟨none, .call (some 50) 121 [(.tmp 48), (.tmp 49)]⟩]
def Q9n : List GO := [qm 51 0, qf 52 3 2, ql 53 52, qf 54 4 1, ql 55 54, qf 56 3 1, ql 57 56, ⟨none, .call (some 58) 136 [(.tmp 51), (.tmp 53), (.tmp 55), (.tmp 57)]⟩]
def judge_State_to_lc : LC := (.seq (.ops Qbd) (.seq (.draw Qbc Qbg) (.seq (.ops Qbb) (.seq (.seq (.ops Qba) (.block 0 (.loop Q4x))) (.seq (.draw Qb5 Qbf) (.seq (.ops Qb4) (.ops Q9n)))))))
@[reducible] def Q7q : FuncId := 135
theorem Q9o : lowF Tryz.prog Tryz.f135 = some judge_State_to_lc := by kernel_rfl
theorem Qbe {a0 a1 : Value} {w : World} {R : Ending → World → Prop} (h : judge_State_to_lc.wp Tryz.prog (retQ Tryz.prog [] R) (Ql [a0, a1]) w) : Calls Tryz.prog Q7q ⟨[a0, a1]⟩ w R :=
  Q6 Tryz.func135 Q9o (by kernel_rfl) (by kernel_rfl) h

/- 136 -/
def Q8K : List GO := [qm 13 1, qL 14 13, qm 15 2, qL 16 15, qt 17 .neq 3 14 16, ⟨none, .call (some 18) 121 [(.tmp 17), (.const (vi 2))]⟩]
def Q8J : List GO := [qm 19 1, qL 20 19, qk 21 (vi 0)]
def Q8I : List GO := [qt 22 .lss 3 21 20]
def Q8H : List GO := [qm 23 21, qi 24 1 19 21, ql 25 24, qm 8 23, qm 9 25]
def Q8G : List GO := [qm 26 0, qm 27 9, ⟨none, .call (some 28) 128 [(.tmp 26), (.tmp 27)]⟩, ⟨none, .alloc 10 112 [(vi 0), (vi 0), vn]⟩, qw 3 10 28]
def Q8F : List GO := [qm 30 2, qm 31 8, qi 32 3 30 31, qV 33 3 32, qm 34 3, ⟨none, .call (some 35) 156 [(.tmp 33), (.tmp 34)]⟩, qm 29 35, qx 36 29 0, qx 37 29 1, ⟨none, .alloc 11 112 [(vi 0), (vi 0), vn]⟩, qw 3 11 36, qm 12 37]
def Q8E : List GO := [qm 38 12, ⟨none, .un 39 .not (.tmp 38)⟩, qm 40 39, qg 40 false (qV 41 3 10), qg 40 false (qV 42 3 11), ⟨some (40, false), .call (some 43) 127 [(.tmp 41), (.tmp 42)]⟩, ⟨some (40, false), .un 44 .not (.tmp 43)⟩, ⟨none, .pick 45 (.tmp 40) (.const (.bool true)) (.tmp 44)⟩, ⟨none, .call (some 46) 121 [(.tmp 45), (.const (vi 9))]⟩]
def Q8D : List GO := [qj 47 .add 3 21 1, qm 21 47]
def Q3R : LC := (.seq (.ops Q8I) (.seq (.cond (.tmp 22) .skip (.exit 0)) (.seq (.block 1 (.seq (.ops Q8H) (.seq (.ops Q8G) (.seq (.ops Q8F) (.ops Q8E))))) (.ops Q8D))))
def judge_State_args_lc : LC := (.seq (.ops Q8K) (.seq (.ops Q8J) (.block 0 (.loop Q3R))))
@[reducible] def Q5p : FuncId := 136
theorem Q73 : lowF Tryz.prog Tryz.f136 = some judge_State_args_lc := by kernel_rfl
theorem Q8L {a0 a1 a2 a3 : Value} {w : World} {R : Ending → World → Prop} (h : judge_State_args_lc.wp Tryz.prog (retQ Tryz.prog [] R) (Ql [a0, a1, a2, a3]) w) : Calls Tryz.prog Q5p ⟨[a0, a1, a2, a3]⟩ w R :=
  Q6 Tryz.func136 Q73 (by kernel_rfl) (by kernel_rfl) h

/- 156 -/
def QgL : List GO := [qb 2 112 0, ⟨none, .alloc 4 112 [(vi 0), (vi 0), vn]⟩, qk 5 (.bool false)]
def QgK : List GO := [qf 11 2 0, ql 12 11, qf 13 2 1, ql 14 13, ⟨none, .build 15 [(vi 0), (vi 0), vn] [(0, (1, (.tmp 12))), (1, (1, (.tmp 14)))]⟩, ⟨none, .alloc 6 112 [(vi 0), (vi 0), vn]⟩, qw 3 6 15]
def QgJ : List GO := [qf 16 2 0, ql 17 16, qj 18 .neq 3 17 1]
def QgI : List GO := [qf 19 2 1, ql 20 19, qj 21 .lss 3 20 0, qm 22 21, qg 22 false (qf 23 2 1), qg 22 false (ql 24 23), qg 22 false (qm 25 1), qg 22 false (qL 26 25), qg 22 false (qt 27 .geq 3 24 26), ⟨none, .pick 28 (.tmp 22) (.const (.bool true)) (.tmp 27)⟩, qm 29 28, qg 29 false (qm 30 1), qg 29 false (qf 31 2 1), qg 29 false (ql 32 31), qg 29 false (qi 33 1 30 32), qg 29 false (ql 34 33), qg 29 false (qj 35 .lss 3 34 0), ⟨none, .pick 36 (.tmp 29) (.const (.bool true)) (.tmp 35)⟩]
def QgH : List GO := [⟨none, .build 37 [(vi 0), (vi 0), vn] []⟩, qw 3 4 37, qk 5 (.bool false)]
def QgG : List GO := [qm 38 1, qf 39 2 1, ql 40 39, qi 41 1 38 40, ql 42 41, qf 43 6 1, qs 43 42]
def QgF : List GO := [qf 44 2 2, ql 45 44, qL 46 45, qk 47 (vi 0)]
def QgE : List GO := [qt 48 .lss 3 47 46]
def QgD : List GO := [qi 49 3 45 47, qV 50 3 49, ⟨none, .alloc 8 112 [(vi 0), (vi 0), vn]⟩, qw 3 8 50]
def QgC : List GO := [qV 52 3 8, qm 53 1, ⟨none, .call (some 54) 156 [(.tmp 52), (.tmp 53)]⟩, qm 51 54, qx 55 51 0, qx 56 51 1, ⟨none, .alloc 9 112 [(vi 0), (vi 0), vn]⟩, qw 3 9 55, qm 10 56]
def QeD : List GO := [qm 57 10, ⟨none, .un 58 .not (.tmp 57)⟩]
def QeC : List GO := [⟨none, .build 59 [(vi 0), (vi 0), vn] []⟩, qw 3 4 59, qk 5 (.bool false)]
def QeB : List GO := [qf 60 6 2, ql 61 60, qV 62 3 9, ⟨none, .buildS 63 112 1 [(vi 0), (vi 0), vn] [(0, (3, (.tmp 62)))]⟩, ⟨none, .raw ⟨(some 64), (.call ⟨(.builtin .append), #[(.tmp 61), (.tmp 63)], #[50, 50]⟩), 50, "", #[], none⟩⟩, qf 65 6 2, qs 65 64]
def QeA : List GO := [qj 66 .add 3 47 1, qm 47 66]
def Q5B : LC := (.seq (.ops QgE) (.seq (.cond (.tmp 48) .skip (.exit 0)) (.seq (.block 1 (.seq (.ops QgD) (.seq (.ops QgC) (.seq (.seq (.ops QeD) (.cond (.tmp 58) (.seq (.ops QeC) .ret) .skip)) (.ops QeB))))) (.ops QeA))))
def Qez : List GO := [qV 67 3 6, qw 3 4 67, qk 5 (.bool true)]
def types_Rename_lc : LC := (.seq (.ops QgL) (.seq (.ops QgK) (.seq (.seq (.ops QgJ) (.cond (.tmp 18) (.seq (.seq (.ops QgI) (.cond (.tmp 36) (.seq (.ops QgH) .ret) .skip)) (.ops QgG)) .skip)) (.seq (.seq (.ops QgF) (.block 0 (.loop Q5B))) (.seq (.ops Qez) .ret)))))
@[reducible] def Q21 : FuncId := 156
theorem QeE : lowF Tryz.prog Tryz.f156 = some types_Rename_lc := by kernel_rfl
theorem QgM {a0 a1 : Value} {w : World} {R : Ending → World → Prop} (h : types_Rename_lc.wp Tryz.prog (retQ Tryz.prog [.cell 4 112, .tmp 5] R) (Ql [a0, a1]) w) : Calls Tryz.prog Q21 ⟨[a0, a1]⟩ w R :=
  Q6 Tryz.func156 QeE (by kernel_rfl) (by kernel_rfl) h

/- 158 -/
def QbG : List GO := [qk 4 (vi 0)]
def QbF : List GO := [qm 8 0, qn 9 8, qf 10 9 0, ql 11 10, qL 12 11, ⟨none, .raw ⟨(some 13), (.makeSlice 70 (.tmp 12) (.tmp 12)), 70, "", #[], none⟩⟩, qm 5 13]
def QbE : List GO := [qm 14 1, qL 15 14, qk 16 (vi 0)]
def QbD : List GO := [qt 17 .lss 3 16 15]
def QbC : List GO := [qi 18 1 14 16, ql 19 18, qm 7 19]
def QbB : List GO := [qm 20 0, qm 21 7, ⟨none, .call (some 22) 31 [(.tmp 20), (.tmp 21)]⟩, ⟨none, .un 23 .not (.tmp 22)⟩]
def QbA : List GO := [qk 4 (vi 10)]
def Qbz : List GO := [qm 24 5, qm 25 7, qi 26 1 24 25, ql 27 26]
def Qby : List GO := [qk 4 (vi 13)]
def Qbx : List GO := [qm 28 5, qm 29 7, qi 30 1 28 29, ⟨none, .store1 (.tmp 30) (.const (.bool true))⟩]
def Qab : List GO := [qj 31 .add 3 16 1, qm 16 31]
def Q4F : LC := (.seq (.ops QbD) (.seq (.cond (.tmp 17) .skip (.exit 0)) (.seq (.block 1 (.seq (.ops QbC) (.seq (.seq (.ops QbB) (.cond (.tmp 23) (.seq (.ops QbA) .ret) .skip)) (.seq (.seq (.ops Qbz) (.cond (.tmp 27) (.seq (.ops Qby) .ret) .skip)) (.ops Qbx))))) (.ops Qab))))
def Qaa : List GO := [qm 32 1, qL 33 32, qm 34 0, ⟨none, .call (some 35) 26 [(.tmp 34)]⟩, qL 36 35, qt 37 .lss 3 33 36]
def Qa9 : List GO := [qk 4 (vi 12)]
def Qa8 : List GO := [qk 4 (vi 0)]
def held_Held_Pass_lc : LC := (.seq (.ops QbG) (.seq (.ops QbF) (.seq (.seq (.ops QbE) (.block 0 (.loop Q4F))) (.seq (.seq (.ops Qaa) (.cond (.tmp 37) (.seq (.ops Qa9) .ret) .skip)) (.seq (.ops Qa8) .ret)))))
@[reducible] def Q2C : FuncId := 158
theorem Qac : lowF Tryz.prog Tryz.f158 = some held_Held_Pass_lc := by kernel_rfl
theorem QbH {a0 a1 : Value} {w : World} {R : Ending → World → Prop} (h : held_Held_Pass_lc.wp Tryz.prog (retQ Tryz.prog [.tmp 4] R) (Ql [a0, a1]) w) : Calls Tryz.prog Q2C ⟨[a0, a1]⟩ w R :=
  Q6 Tryz.func158 Qac (by kernel_rfl) (by kernel_rfl) h

/- 4 -/
def Qg4 : List GO := [qb 5 24 0, qb 9 45 4, qk 10 (.bool false)]
def Qg3 : List GO := [⟨none, .call (some 16) 17 []⟩, ⟨none, .un 17 .not (.tmp 16)⟩]
def Qg2 : List GO := [qk 10 (.bool false)]
def Qg1 : List GO := [qV 18 1 5, ⟨none, .call (some 19) 7 [(.tmp 18)]⟩, qm 20 19, qg 20 false (qm 21 3), qg 20 false (qL 22 21), qg 20 false (qj 23 .gtr 3 22 150), ⟨none, .pick 24 (.tmp 20) (.const (.bool true)) (.tmp 23)⟩, qm 25 24, qg 25 false (qf 26 9 8), qg 25 false (ql 27 26), qg 25 false (qL 28 27), qg 25 false (qf 29 9 2), qg 25 false (qf 30 29 1), qg 25 false (ql 31 30), qg 25 false (qL 32 31), qg 25 false (qt 33 .add 3 28 32), qg 25 false (qf 34 9 2), qg 25 false (qf 35 34 2), qg 25 false (ql 36 35), qg 25 false (qL 37 36), qg 25 false (qt 38 .add 3 33 37), qg 25 false (qf 39 9 5), qg 25 false (qf 40 39 1), qg 25 false (ql 41 40), qg 25 false (qL 42 41), qg 25 false (qt 43 .add 3 38 42), qg 25 false (qf 44 9 5), qg 25 false (qf 45 44 2), qg 25 false (ql 46 45), qg 25 false (qL 47 46), qg 25 false (qt 48 .add 3 43 47), qg 25 false (qj 49 .gtr 3 48 1000), ⟨none, .pick 50 (.tmp 25) (.const (.bool true)) (.tmp 49)⟩]
def Qg0 : List GO := [qk 10 (.bool true)]
def QfZ : List GO := [qV 52 1 5, qm 53 1, qm 54 2, ⟨none, .call (some 55) 18 [(.tmp 52), (.tmp 53), (.tmp 54)]⟩, qm 51 55, qx 56 51 0, qx 57 51 1, ⟨none, .alloc 12 30 [(vi 0), (vi 0)]⟩, qm 11 56, qw 2 12 57]
def QfY : List GO := [qV 58 1 5, ⟨none, .call (some 59) 19 [(.tmp 58)]⟩, ⟨none, .alloc 13 30 [(vi 0), (vi 0)]⟩, qw 2 13 59]
def QfX : List GO := [qf 60 13 0, ql 61 60, qj 62 .eql 3 61 0, qm 63 62, qg 63 true (qm 64 1), qg 63 true (qj 65 .lss 3 64 0), qg 63 true (qm 66 65), qg 66 false (qm 67 1), qg 66 false (qf 68 5 0), qg 66 false (ql 69 68), qg 66 false (qL 70 69), qg 66 false (qt 71 .geq 3 67 70), ⟨some (63, true), .pick 72 (.tmp 66) (.const (.bool true)) (.tmp 71)⟩, qg 63 true (qm 73 72), qg 73 false (qm 74 2), qg 73 false (qj 75 .lss 3 74 0), ⟨some (63, true), .pick 76 (.tmp 73) (.const (.bool true)) (.tmp 75)⟩, qg 63 true (qm 77 76), qg 77 false (qm 78 2), qg 77 false (qf 79 5 0), qg 77 false (ql 80 79), qg 77 false (qm 81 1), qg 77 false (qi 82 4 80 81), qg 77 false (qf 83 82 3), qg 77 false (ql 84 83), qg 77 false (qL 85 84), qg 77 false (qt 86 .geq 3 78 85), ⟨some (63, true), .pick 87 (.tmp 77) (.const (.bool true)) (.tmp 86)⟩, ⟨none, .pick 88 (.tmp 63) (.tmp 87) (.const (.bool false))⟩]
def QfW : List GO := [⟨none, .build 89 [(vi 0), (vi 0)] [(0, (1, (.const (vi 1)))), (1, (1, (.const (vi (-1)))))]⟩, qw 2 13 89]
def QfV : List GO := [qV 90 2 12, qV 91 2 13, qt 92 .neq 30 90 91, qm 93 92, qg 93 false (qf 94 13 0), qg 93 false (ql 95 94), qg 93 false (qj 96 .neq 3 95 0), ⟨none, .pick 97 (.tmp 93) (.const (.bool true)) (.tmp 96)⟩]
def Qef : List GO := [qV 98 2 12, qV 99 2 13, qt 100 .eql 30 98 99, qm 10 100]
def Qee : List GO := [qV 101 1 5, qm 102 1, qm 103 2, ⟨none, .call (some 104) 20 [(.tmp 101), (.tmp 102), (.tmp 103)]⟩, qm 14 104]
def Qed : List GO := [qk 15 (vi 0)]
def Qec : List GO := [qm 105 15, qm 106 3, qL 107 106, qt 108 .lss 3 105 107]
def Qeb : List GO := [qm 111 3, qm 112 15, qi 113 8 111 112, qf 114 113 6, ql 115 114, qL 116 115, qm 117 3, qm 118 15, qi 119 8 117 118, qf 120 119 7, ql 121 120, qL 122 121, qt 123 .add 3 116 122, qj 124 .gtr 3 123 1000]
def Qej : List (List Nat) := [[],[],[0,1],[2],[3],[4],[],[],[6,7],[8],[9],[10],[5,11],[12]]
def Qea : List GO := [qk 10 (.bool true)]
def Qe9 : List GO := [qm 125 11, qm 126 3, qm 127 15, qi 128 8 126 127, qV 129 8 128, ⟨none, .call (some 130) 21 [(.tmp 125), (.tmp 129)]⟩, qm 131 14, qm 132 3, qm 133 15, qi 134 8 132 133, qV 135 8 134, ⟨none, .call (some 136) 22 [(.tmp 131), (.tmp 135)]⟩, qt 137 .neq 3 130 136, qm 138 137, qg 138 false (qm 139 11), ⟨some (138, false), .call (some 140) 24 [(.tmp 139)]⟩, qg 138 false (qm 141 14), qg 138 false (qn 142 141), qg 138 false (qf 143 142 6), qg 138 false (ql 144 143), ⟨some (138, false), .call (some 145) 23 [(.tmp 140), (.tmp 144)]⟩, ⟨some (138, false), .un 146 .not (.tmp 145)⟩, ⟨none, .pick 147 (.tmp 138) (.const (.bool true)) (.tmp 146)⟩, qm 148 147, qg 148 false (qm 149 11), qg 148 false (qn 150 149), qg 148 false (qf 151 150 0), qg 148 false (ql 152 151), ⟨some (148, false), .call (some 153) 26 [(.tmp 152)]⟩, qg 148 false (qm 154 14), qg 148 false (qn 155 154), qg 148 false (qf 156 155 5), qg 148 false (ql 157 156), ⟨some (148, false), .call (some 158) 27 [(.tmp 157)]⟩, ⟨some (148, false), .call (some 159) 25 [(.tmp 153), (.tmp 158)]⟩, ⟨some (148, false), .un 160 .not (.tmp 159)⟩, ⟨none, .pick 161 (.tmp 148) (.const (.bool true)) (.tmp 160)⟩, qm 162 161, qg 162 false (qm 163 11), qg 162 false (qn 164 163), qg 162 false (qf 165 164 0), qg 162 false (ql 166 165), ⟨some (162, false), .call (some 167) 28 [(.tmp 166)]⟩, qg 162 false (qm 168 14), qg 162 false (qn 169 168), qg 162 false (qf 170 169 5), qg 162 false (ql 171 170), qg 162 false (qn 172 171), qg 162 false (qf 173 172 0), qg 162 false (ql 174 173), qg 162 false (qL 175 174), qg 162 false (qt 176 .neq 3 167 175), ⟨none, .pick 177 (.tmp 162) (.const (.bool true)) (.tmp 176)⟩]
def Qei : List (List Nat) := [[],[],[],[1,2],[3],[0,4],[],[],[],[7,8],[9],[6,10,5],[5,11],[12,11],[13],[14,13,13],[13],[16,13],[17,13],[18,13],[15,19,15,13],[20,13],[13,21],[22,20],[23],[24,23],[25,23],[26,23],[27,23,23],[23],[29,23],[30,23],[31,23],[32,28,23],[28,33,33,23],[34,23],[23,35],[36,34],[37],[38,37],[39,37],[40,37],[41,37,37],[37],[43,37],[44,37],[45,37],[46,37],[47,37],[48,37],[49,37],[42,50,37],[37,51]]
def Qe8 : List GO := [qk 10 (.bool false)]
def Qe7 : List GO := [qm 109 15, qj 110 .add 3 109 1, qm 15 110]
def Q4O : LC := (.seq (.seq (.ops Qec) (.cond (.tmp 108) .skip (.exit 0))) (.seq (.block 1 (.seq (.seq (.draw Qeb Qej) (.cond (.tmp 124) (.seq (.ops Qea) .ret) .skip)) (.seq (.draw Qe9 Qei) (.cond (.tmp 177) (.seq (.ops Qe8) .ret) .skip)))) (.ops Qe7)))
def Qe6 : List GO := [qm 178 11, qV 179 9 9, ⟨none, .call (some 180) 29 [(.tmp 178), (.tmp 179)]⟩, qm 181 14, qV 182 9 9, ⟨none, .call (some 183) 30 [(.tmp 181), (.tmp 182)]⟩, qt 184 .eql 3 180 183, qm 185 184, qg 185 true (qm 186 11), qg 185 true (qn 187 186), qg 185 true (qf 188 187 0), qg 185 true (ql 189 188), qg 185 true (qm 190 1), ⟨some (185, true), .call (some 191) 31 [(.tmp 189), (.tmp 190)]⟩, qg 185 true (qm 192 14), qg 185 true (qn 193 192), qg 185 true (qf 194 193 5), qg 185 true (ql 195 194), qg 185 true (qm 196 1), ⟨some (185, true), .call (some 197) 32 [(.tmp 195), (.tmp 196)]⟩, qg 185 true (qt 198 .eql 4 191 197), ⟨none, .pick 199 (.tmp 185) (.tmp 198) (.const (.bool false))⟩, qm 200 199, qg 200 true (qm 201 11), ⟨some (200, true), .call (some 202) 24 [(.tmp 201)]⟩, qg 200 true (qm 203 14), qg 200 true (qn 204 203), qg 200 true (qf 205 204 6), qg 200 true (ql 206 205), ⟨some (200, true), .call (some 207) 23 [(.tmp 202), (.tmp 206)]⟩, ⟨none, .pick 208 (.tmp 200) (.tmp 207) (.const (.bool false))⟩, qm 10 208]
def Qeh : List (List Nat) := [[],[],[0,1],[],[],[3,4,2],[2,5],[6,5],[7],[8,7],[9,7],[10,7],[7],[11,12,7,7],[7],[14,7],[15,7],[16,7],[7],[17,18,13,7],[13,19,7],[7,20],[21,19],[22],[23,22,22],[22],[25,22],[26,22],[27,22],[24,28,24,22],[22,29],[30,29,0,1,2,3,4,5,6,7,8,9,10,11,12,13,14,15,16,17,18,19,20,21,22,23,24,25,26,27,28,29,30]]
def Law_JudgeDoes_lc : LC := (.seq (.ops Qg4) (.seq (.seq (.ops Qg3) (.cond (.tmp 17) (.seq (.ops Qg2) .ret) .skip)) (.seq (.seq (.ops Qg1) (.cond (.tmp 50) (.seq (.ops Qg0) .ret) .skip)) (.seq (.ops QfZ) (.seq (.ops QfY) (.seq (.seq (.ops QfX) (.cond (.tmp 88) (.ops QfW) .skip)) (.seq (.seq (.ops QfV) (.cond (.tmp 97) (.seq (.ops Qef) .ret) .skip)) (.seq (.ops Qee) (.seq (.seq (.ops Qed) (.block 0 (.loop Q4O))) (.seq (.draw Qe6 Qeh) .ret))))))))))
@[reducible] def QO : FuncId := 4
theorem Qeg : lowF Tryz.prog Tryz.f4 = some Law_JudgeDoes_lc := by kernel_rfl
theorem Qg5 {a0 a1 a2 a3 a4 : Value} {w : World} {R : Ending → World → Prop} (h : Law_JudgeDoes_lc.wp Tryz.prog (retQ Tryz.prog [.tmp 10] R) (Ql [a0, a1, a2, a3, a4]) w) : Calls Tryz.prog QO ⟨[a0, a1, a2, a3, a4]⟩ w R :=
  Q6 Tryz.func4 Qeg (by kernel_rfl) (by kernel_rfl) h

/- 5 -/
/- 20 -/
def QqR : List GO := [qb 3 24 0, qk 6 (.pointer none)]
def QqQ : List GO := [qf 8 3 0, ql 9 8, qm 10 1, qi 11 4 9 10, qf 12 11 3, ql 13 12, qm 14 2, qi 15 12 13 14, qV 16 12 15, ⟨none, .alloc 7 79 [(vi 0), vn, vn, (vi 0), (vi 0), (vi 0), vn, vn, (vi 0), vn, vn, vn]⟩, qw 12 7 16]
def QqP : List GO := [qV 17 1 3, qf 18 3 0, ql 19 18, qm 20 1, qi 21 4 19 20, qV 22 4 21, qf 23 7 0, ql 24 23, ⟨none, .call (some 25) 67 [(.tmp 24)]⟩, qf 26 7 1, ql 27 26, ⟨none, .call (some 28) 38 [(.tmp 27)]⟩, ⟨none, .build 29 [vn, (vi 0), vn, vn, vn, (.pointer none), vn] [(0, (1, (.tmp 17))), (1, (4, (.tmp 22))), (5, (1, (.tmp 25))), (6, (1, (.tmp 28)))]⟩, qb 30 63 29, qm 6 30]
def QqT : List (List Nat) := [[],[],[1],[],[2,3],[4],[],[6],[7],[],[9],[10,8],[0,5,8,11],[12],[13,11,0,1,2,3,4,5,6,7,8,9,10,11,12,13]]
def R_KnownAt_lc : LC := (.seq (.ops QqR) (.seq (.ops QqQ) (.seq (.draw QqP QqT) .ret)))
@[reducible] def QqU : FuncId := 20
theorem QoI : lowF Tryz.prog Tryz.f20 = some R_KnownAt_lc := by kernel_rfl
theorem QqS {a0 a1 a2 : Value} {w : World} {R : Ending → World → Prop} (h : R_KnownAt_lc.wp Tryz.prog (retQ Tryz.prog [.tmp 6] R) (Ql [a0, a1, a2]) w) : Calls Tryz.prog QqU ⟨[a0, a1, a2]⟩ w R :=
  Q6 Tryz.func20 QoI (by kernel_rfl) (by kernel_rfl) h

/- 22 -/
def Qln : List GO := [qb 3 57 1, qk 4 (vi 0)]
def Qlm : List GO := [qm 8 0, qn 9 8, qf 10 9 0, qV 11 1 10, qV 12 8 3, ⟨none, .call (some 13) 72 [(.tmp 11), (.tmp 12)]⟩, qm 5 13]
def Qlp : List (List Nat) := [[],[0],[1],[2],[],[3,4],[5,5,0,1,2,3,4,5]]
def Qll : List GO := [qm 14 5, qj 15 .neq 3 14 0]
def Qlk : List GO := [qm 16 5, qm 4 16]
def Qlj : List GO := [qm 18 0, qV 19 8 3, ⟨none, .call (some 20) 73 [(.tmp 18), (.tmp 19)]⟩, qm 17 20, qx 21 17 0, qx 22 17 1, qm 6 21, qm 7 22]
def Qli : List GO := [qm 23 7, qj 24 .neq 3 23 0]
def Qlh : List GO := [qm 25 7, qm 4 25]
def Qlg : List GO := [qm 26 0, qn 27 26, qf 28 27 6, ql 29 28, qL 30 29, qm 31 6, qL 32 31, qt 33 .add 3 30 32, qj 34 .gtr 3 33 80]
def Qlf : List GO := [qk 4 (vi 2)]
def Qle : List GO := [qf 35 3 0, ql 36 35, qj 37 .eql 3 36 3]
def QiK : List GO := [qm 38 0, qn 39 38, qf 40 39 5, ql 41 40, qm 42 0, qn 43 42, qf 44 43 5, ql 45 44, qn 46 45, qf 47 46 0, ql 48 47, ⟨none, .buildS 49 4 1 [(.bool false)] [(0, (1, (.const (.bool true))))]⟩, ⟨none, .raw ⟨(some 50), (.call ⟨(.builtin .append), #[(.tmp 48), (.tmp 49)], #[70, 70]⟩), 70, "", #[], none⟩⟩, qn 51 41, qf 52 51 0, qs 52 50]
def QiN : List (List Nat) := [[],[0],[1],[2],[],[4],[5],[6],[7],[8],[9],[],[10,11],[3,0,1,2,3,4,5,6,7,8,9,10,11,12],[13,0,1,2,3,4,5,6,7,8,9,10,11,12],[14,12,12,0,1,2,3,4,5,6,7,8,9,10,11,12]]
def QiJ : List GO := [qf 53 3 0, ql 54 53, qj 55 .eql 3 54 4]
def QiI : List GO := [qm 56 0, qn 57 56, qf 58 57 5, ql 59 58, qn 60 59, qf 61 60 0, ql 62 61, qm 63 0, qn 64 63, qf 65 64 6, ql 66 65, qf 67 3 1, ql 68 67, qi 69 3 66 68, qf 70 69 1, ql 71 70, qi 72 1 62 71, ⟨none, .store1 (.tmp 72) (.const (.bool false))⟩]
def QiM : List (List Nat) := [[],[0],[1],[2],[3],[4],[5],[],[7],[8],[9],[],[11],[10,12],[13],[14],[6,15,0,1,2,3,4,5,6,7,8,9,10,11,12,13,14,15],[16,0,1,2,3,4,5,6,7,8,9,10,11,12,13,14,15]]
def QiH : List GO := [qm 73 0, qm 74 0, qn 75 74, qf 76 75 6, ql 77 76, qm 78 6, ⟨none, .raw ⟨(some 79), (.call ⟨(.builtin .append), #[(.tmp 77), (.tmp 78)], #[50, 50]⟩), 50, "", #[], none⟩⟩, qn 80 73, qf 81 80 6, qs 81 79]
def QiG : List GO := [qk 4 (vi 0)]
def R_Known_Ins_lc : LC := (.seq (.ops Qln) (.seq (.seq (.draw Qlm Qlp) (.seq (.ops Qll) (.cond (.tmp 15) (.seq (.ops Qlk) .ret) .skip))) (.seq (.ops Qlj) (.seq (.seq (.ops Qli) (.cond (.tmp 24) (.seq (.ops Qlh) .ret) .skip)) (.seq (.seq (.ops Qlg) (.cond (.tmp 34) (.seq (.ops Qlf) .ret) .skip)) (.seq (.seq (.ops Qle) (.cond (.tmp 37) (.draw QiK QiN) .skip)) (.seq (.seq (.ops QiJ) (.cond (.tmp 55) (.draw QiI QiM) .skip)) (.seq (.ops QiH) (.seq (.ops QiG) .ret)))))))))
@[reducible] def Q1C : FuncId := 22
theorem QiL : lowF Tryz.prog Tryz.f22 = some R_Known_Ins_lc := by kernel_rfl
theorem Qlo {a0 a1 : Value} {w : World} {R : Ending → World → Prop} (h : R_Known_Ins_lc.wp Tryz.prog (retQ Tryz.prog [.tmp 4] R) (Ql [a0, a1]) w) : Calls Tryz.prog Q1C ⟨[a0, a1]⟩ w R :=
  Q6 Tryz.func22 QiL (by kernel_rfl) (by kernel_rfl) h

/- 27 -/
def Qju : List GO := [qk 2 vn]
def Qjt : List GO := [qk 3 vn]
def Qjs : List GO := [qk 4 (vi 0)]
def Qjr : List GO := [qm 5 4, qm 6 0, qn 7 6, qf 8 7 0, ql 9 8, qL 10 9, qt 11 .lss 3 5 10]
def Qjq : List GO := [qm 14 0, qn 15 14, qf 16 15 0, ql 17 16, qm 18 4, qi 19 1 17 18, ql 20 19]
def Qjp : List GO := [qm 21 3, qm 22 4, ⟨none, .buildS 23 3 1 [(vi 0)] [(0, (1, (.tmp 22)))]⟩, ⟨none, .raw ⟨(some 24), (.call ⟨(.builtin .append), #[(.tmp 21), (.tmp 23)], #[41, 41]⟩), 41, "", #[], none⟩⟩, qm 3 24]
def Qjo : List GO := [qm 12 4, qj 13 .add 3 12 1, qm 4 13]
def Q6j : LC := (.seq (.seq (.ops Qjr) (.cond (.tmp 11) .skip (.exit 0))) (.seq (.block 1 (.seq (.ops Qjq) (.cond (.tmp 20) (.ops Qjp) .skip))) (.ops Qjo)))
def Qjn : List GO := [qm 25 3, qm 2 25]
def R_Holds_List_lc : LC := (.seq (.ops Qju) (.seq (.ops Qjt) (.seq (.seq (.ops Qjs) (.block 0 (.loop Q6j))) (.seq (.ops Qjn) .ret))))
@[reducible] def Q6k : FuncId := 27
theorem QfJ : lowF Tryz.prog Tryz.f27 = some R_Holds_List_lc := by kernel_rfl
theorem Qjv {a0 : Value} {w : World} {R : Ending → World → Prop} (h : R_Holds_List_lc.wp Tryz.prog (retQ Tryz.prog [.tmp 2] R) (Ql [a0]) w) : Calls Tryz.prog Q6k ⟨[a0]⟩ w R :=
  Q6 Tryz.func27 QfJ (by kernel_rfl) (by kernel_rfl) h

/- 30 -/
def Qlz : List GO := [qb 3 45 1, qk 4 (vi 0)]
def Qly : List GO := [qm 13 0, qn 14 13, qf 15 14 1, qV 16 4 15, qV 17 9 3, ⟨none, .call (some 18) 79 [(.tmp 16), (.tmp 17)]⟩, qm 5 18]
def QlB : List (List Nat) := [[],[0],[1],[2],[],[3,4],[5,5,0,1,2,3,4,5]]
def Qlx : List GO := [qm 19 5, qj 20 .neq 3 19 0]
def Qlw : List GO := [qm 21 5, qm 4 21]
def Qlv : List GO := [qf 22 3 0, ql 23 22]
def Qlu : List GO := [qj 25 .eql 3 23 1, qm 24 25]
def Qlt : List GO := [qm 26 0, qf 27 3 2, qV 28 3 27, ⟨none, .call (some 29) 80 [(.tmp 26), (.tmp 28)]⟩, qm 4 29]
def Qls : List GO := [qj 31 .eql 3 23 2, qm 30 31]
def Qlr : List GO := [qm 32 0, qf 33 3 1, ql 34 33, ⟨none, .call (some 35) 81 [(.tmp 32), (.tmp 34), (.const (vi 1)), (.const (.bool false))]⟩, qm 6 35]
def Qlq : List GO := [qm 36 6, qj 37 .neq 3 36 0]
def Qj7 : List GO := [qm 38 6, qm 4 38]
def Qj6 : List GO := [qm 39 0, qf 40 3 2, qV 41 3 40, ⟨none, .call (some 42) 80 [(.tmp 39), (.tmp 41)]⟩, qm 7 42]
def Qj5 : List GO := [qm 43 7, qj 44 .neq 3 43 0]
def Qj4 : List GO := [qm 45 7, qm 4 45]
def Qj3 : List GO := [qm 46 0, qf 47 3 5, qV 48 3 47, ⟨none, .call (some 49) 80 [(.tmp 46), (.tmp 48)]⟩, qm 4 49]
def Qj2 : List GO := [qk 8 vn]
def Qj1 : List GO := [qk 9 (vi 0)]
def Qj0 : List GO := [qm 50 9, qm 51 0, qn 52 51, qf 53 52 1, qf 54 53 0, ql 55 54, qt 56 .lss 3 50 55]
def QiZ : List GO := [qm 59 8, qm 60 9, ⟨none, .buildS 61 3 1 [(vi 0)] [(0, (1, (.tmp 60)))]⟩, ⟨none, .raw ⟨(some 62), (.call ⟨(.builtin .append), #[(.tmp 59), (.tmp 61)], #[41, 41]⟩), 41, "", #[], none⟩⟩, qm 8 62]
def QiY : List GO := [qm 57 9, qj 58 .add 3 57 1, qm 9 58]
def Q6g : LC := (.seq (.seq (.ops Qj0) (.cond (.tmp 56) .skip (.exit 1))) (.seq (.block 2 (.ops QiZ)) (.ops QiY)))
def QiX : List GO := [qm 63 0, qf 64 3 8, ql 65 64, qm 66 0, qn 67 66, qf 68 67 1, qf 69 68 2, ql 70 69, qm 71 8, ⟨none, .call (some 72) 82 [(.tmp 63), (.tmp 65), (.tmp 70), (.tmp 71)]⟩, qm 10 72]
def Qja : List (List Nat) := [[],[],[1],[],[3],[4],[5],[6],[],[0,2,7,8],[9,9,0,1,2,3,4,5,6,7,8,9]]
def QiW : List GO := [qm 73 10, qj 74 .neq 3 73 0]
def QiV : List GO := [qm 75 10, qm 4 75]
def QiU : List GO := [qm 76 0, qn 77 76, qf 78 77 5, ql 79 78, ⟨none, .call (some 80) 27 [(.tmp 79)]⟩, qm 11 80]
def QiT : List GO := [qk 12 (vi 0)]
def QiS : List GO := [qm 81 12, qm 82 11, qL 83 82, qt 84 .lss 3 81 83]
def QiR : List GO := [qm 87 11, qm 88 12, qi 89 1 87 88, ql 90 89, qm 91 0, qn 92 91, qf 93 92 1, qf 94 93 0, ql 95 94, qt 96 .geq 3 90 95]
def Qj9 : List (List Nat) := [[],[],[0,1],[2],[],[4],[5],[6],[7],[3,8]]
def QiQ : List GO := [qk 4 (vi 12)]
def QiP : List GO := [qm 85 12, qj 86 .add 3 85 1, qm 12 86]
def Q6f : LC := (.seq (.seq (.ops QiS) (.cond (.tmp 84) .skip (.exit 3))) (.seq (.block 4 (.seq (.draw QiR Qj9) (.cond (.tmp 96) (.seq (.ops QiQ) .ret) .skip))) (.ops QiP)))
def QiO : List GO := [qk 4 (vi 0)]
def R_Known_End_lc : LC := (.seq (.ops Qlz) (.seq (.seq (.draw Qly QlB) (.seq (.ops Qlx) (.cond (.tmp 20) (.seq (.ops Qlw) .ret) .skip))) (.seq (.seq (.ops Qlv) (.block 0 (.seq (.ops Qlu) (.cond (.tmp 24) (.seq (.ops Qlt) .ret) (.seq (.ops Qls) (.cond (.tmp 30) (.seq (.seq (.ops Qlr) (.seq (.ops Qlq) (.cond (.tmp 37) (.seq (.ops Qj7) .ret) .skip))) (.seq (.seq (.ops Qj6) (.seq (.ops Qj5) (.cond (.tmp 44) (.seq (.ops Qj4) .ret) .skip))) (.seq (.ops Qj3) .ret))) .skip)))))) (.seq (.ops Qj2) (.seq (.seq (.ops Qj1) (.block 1 (.loop Q6g))) (.seq (.seq (.draw QiX Qja) (.seq (.ops QiW) (.cond (.tmp 74) (.seq (.ops QiV) .ret) .skip))) (.seq (.ops QiU) (.seq (.seq (.ops QiT) (.block 3 (.loop Q6f))) (.seq (.ops QiO) .ret)))))))))
@[reducible] def Q13 : FuncId := 30
theorem Qj8 : lowF Tryz.prog Tryz.f30 = some R_Known_End_lc := by kernel_rfl
theorem QlA {a0 a1 : Value} {w : World} {R : Ending → World → Prop} (h : R_Known_End_lc.wp Tryz.prog (retQ Tryz.prog [.tmp 4] R) (Ql [a0, a1]) w) : Calls Tryz.prog Q13 ⟨[a0, a1]⟩ w R :=
  Q6 Tryz.func30 Qj8 (by kernel_rfl) (by kernel_rfl) h

/- 32 -/
def QlD : List GO := [qk 4 (.bool false)]
def QlC : List GO := [qm 5 1, qj 6 .geq 3 5 0, qm 7 6, qg 7 true (qm 8 1), qg 7 true (qm 9 0), qg 7 true (qn 10 9), qg 7 true (qf 11 10 0), qg 7 true (ql 12 11), qg 7 true (qL 13 12), qg 7 true (qt 14 .lss 3 8 13), ⟨none, .pick 15 (.tmp 7) (.tmp 14) (.const (.bool false))⟩, qm 16 15, qg 16 true (qm 17 0), qg 16 true (qn 18 17), qg 16 true (qf 19 18 0), qg 16 true (ql 20 19), qg 16 true (qm 21 1), qg 16 true (qi 22 1 20 21), qg 16 true (ql 23 22), ⟨none, .pick 24 (.tmp 16) (.tmp 23) (.const (.bool false))⟩, qm 4 24]
def R_Holds_Has_lc : LC := (.seq (.ops QlD) (.seq (.ops QlC) .ret))
@[reducible] def Q9a : FuncId := 32
theorem Qjw : lowF Tryz.prog Tryz.f32 = some R_Holds_Has_lc := by kernel_rfl
theorem QlE {a0 a1 : Value} {w : World} {R : Ending → World → Prop} (h : R_Holds_Has_lc.wp Tryz.prog (retQ Tryz.prog [.tmp 4] R) (Ql [a0, a1]) w) : Calls Tryz.prog Q9a ⟨[a0, a1]⟩ w R :=
  Q6 Tryz.func32 Qjw (by kernel_rfl) (by kernel_rfl) h

/- 35 -/
/- 67 -/
def Qot : List GO := [qk 2 (.pointer none)]
def Qos : List GO := [⟨none, .build 5 [vn] []⟩, qb 6 72 5, qm 3 6]
def Qor : List GO := [qk 4 (vi 0)]
def Qoq : List GO := [qm 7 4, qm 8 0, qt 9 .lss 3 7 8, qm 10 9, qg 10 true (qm 11 4), qg 10 true (qj 12 .lss 3 11 16), ⟨none, .pick 13 (.tmp 10) (.tmp 12) (.const (.bool false))⟩]
def Qop : List GO := [qm 16 3, qm 17 3, qn 18 17, qf 19 18 0, ql 20 19, ⟨none, .buildS 21 4 1 [(.bool false)] [(0, (1, (.const (.bool true))))]⟩, ⟨none, .raw ⟨(some 22), (.call ⟨(.builtin .append), #[(.tmp 20), (.tmp 21)], #[70, 70]⟩), 70, "", #[], none⟩⟩, qn 23 16, qf 24 23 0, qs 24 22]
def Qoo : List GO := [qm 14 4, qj 15 .add 3 14 1, qm 4 15]
def QaK : LC := (.seq (.seq (.ops Qoq) (.cond (.tmp 13) .skip (.exit 0))) (.seq (.block 1 (.ops Qop)) (.ops Qoo)))
def Qon : List GO := [qm 25 3, qm 2 25]
def R_NewHolds_lc : LC := (.seq (.ops Qot) (.seq (.ops Qos) (.seq (.seq (.ops Qor) (.block 0 (.loop QaK))) (.seq (.ops Qon) .ret))))
@[reducible] def Q6y : FuncId := 67
theorem Ql9 : lowF Tryz.prog Tryz.f67 = some R_NewHolds_lc := by kernel_rfl
theorem Qou {a0 : Value} {w : World} {R : Ending → World → Prop} (h : R_NewHolds_lc.wp Tryz.prog (retQ Tryz.prog [.tmp 2] R) (Ql [a0]) w) : Calls Tryz.prog Q6y ⟨[a0]⟩ w R :=
  Q6 Tryz.func67 Ql9 (by kernel_rfl) (by kernel_rfl) h

/- 73 -/
def Qfx : List GO := [qb 3 57 1, qk 4 vn, qk 5 (vi 0)]
def Qfw : List GO := [⟨none, .build 21 [(vi 0), (vi 0), vn] [(0, (1, (.const (vi 1))))]⟩, ⟨none, .buildS 22 112 1 [(vi 0), (vi 0), vn] [(0, (3, (.tmp 21)))]⟩, qm 6 22]
def Qfv : List GO := [qf 23 3 0, ql 24 23]
def Qfu : List GO := [qj 26 .eql 3 24 1, qm 25 26]
def Qft : List GO := [qj 27 .eql 3 24 12, qm 25 27]
def Qfs : List GO := [qm 28 6, qm 4 28, qk 5 (vi 0)]
def Qfr : List GO := [qj 30 .eql 3 24 2, qm 29 30]
def Qfq : List GO := [qm 31 6, qm 32 0, qf 33 3 1, ql 34 33, ⟨none, .call (some 35) 81 [(.tmp 32), (.tmp 34), (.const (vi 1)), (.const (.bool false))]⟩, qm 36 0, qf 37 3 2, ql 38 37, ⟨none, .call (some 39) 81 [(.tmp 36), (.tmp 38), (.const (vi 1)), (.const (.bool false))]⟩, ⟨none, .buildS 40 3 2 [(vi 0), (vi 0)] [(0, (1, (.tmp 35))), (1, (1, (.tmp 39)))]⟩, ⟨none, .call (some 41) 130 [(.tmp 40)]⟩, qm 4 31, qm 5 41]
def Qfz : List (List Nat) := [[],[],[],[2],[1,3],[],[],[6],[5,7,4],[4,8],[9,8],[0,10,0],[10,11,0,1,2,3,4,5,6,7,8,9,10,11]]
def Qfp : List GO := [qj 43 .eql 3 24 3, qm 42 43]
def Qfo : List GO := [qm 44 0, qn 45 44, qf 46 45 5, ql 47 46, qn 48 47, qf 49 48 0, ql 50 49, qL 51 50, qj 52 .eql 3 51 16]
def Qdw : List GO := [qk 4 vn, qk 5 (vi 2)]
def Qdv : List GO := [qm 53 0, qn 54 53, qf 55 54 5, ql 56 55, qn 57 56, qf 58 57 0, ql 59 58, qL 60 59, ⟨none, .build 61 [(vi 0), (vi 0), vn] [(0, (1, (.const (vi 2)))), (1, (1, (.tmp 60)))]⟩, ⟨none, .buildS 62 112 1 [(vi 0), (vi 0), vn] [(0, (3, (.tmp 61)))]⟩, qm 4 62, qk 5 (vi 0)]
def Qdu : List GO := [qj 64 .eql 3 24 4, qm 63 64]
def Qdt : List GO := [qm 65 0, qf 66 3 1, ql 67 66, ⟨none, .call (some 68) 81 [(.tmp 65), (.tmp 67), (.const (vi 2)), (.const (.bool true))]⟩, qm 7 68]
def Qds : List GO := [qm 69 7, qj 70 .eql 3 69 0, qm 71 70, qg 71 true (qm 72 0), qg 71 true (qn 73 72), qg 71 true (qf 74 73 6), qg 71 true (ql 75 74), qg 71 true (qf 76 3 1), qg 71 true (ql 77 76), qg 71 true (qi 78 3 75 77), qg 71 true (qf 79 78 1), qg 71 true (ql 80 79), qg 71 true (qm 81 0), qg 71 true (qn 82 81), qg 71 true (qf 83 82 1), qg 71 true (qf 84 83 0), qg 71 true (ql 85 84), qg 71 true (qt 86 .lss 3 80 85), ⟨none, .pick 87 (.tmp 71) (.tmp 86) (.const (.bool false))⟩]
def QdN : List (List Nat) := [[],[0],[1],[2],[3,2],[4,2],[5,2],[2],[7,2],[6,8,2],[9,2],[10,2],[2],[12,2],[13,2],[14,2],[15,2],[11,16,2],[2,17]]
def Qdr : List GO := [qk 7 (vi 11)]
def Qdq : List GO := [qm 88 7, qk 4 vn, qm 5 88]
def Qdp : List GO := [qj 90 .eql 3 24 5, qm 89 90]
def Qdo : List GO := [qm 91 0, qf 92 3 1, ql 93 92, ⟨none, .call (some 94) 81 [(.tmp 91), (.tmp 93), (.const (vi 2)), (.const (.bool true))]⟩, qm 8 94]
def Qdn : List GO := [qm 95 8, qj 96 .neq 3 95 0]
def Qdm : List GO := [qm 97 8, qk 4 vn, qm 5 97]
def Qdl : List GO := [qm 98 0, qn 99 98, qf 100 99 6, ql 101 100, qf 102 3 1, ql 103 102, qi 104 3 101 103, qf 105 104 1, ql 106 105, ⟨none, .build 107 [(vi 0), (vi 0), vn] [(0, (1, (.const (vi 3)))), (1, (1, (.tmp 106)))]⟩, ⟨none, .alloc 9 112 [(vi 0), (vi 0), vn]⟩, qw 3 9 107]
def QdM : List (List Nat) := [[],[0],[1],[2],[],[4],[3,5],[6],[7],[8],[],[10,9,0,1,2,3,4,5,6,7,8,9,10]]
def Qdk : List GO := [qk 10 (vi 0)]
def Qdj : List GO := [qm 108 10, qf 109 3 7, ql 110 109, qL 111 110, qt 112 .lss 3 108 111]
def Qdi : List GO := [qf 115 3 7, ql 116 115, qm 117 10, qi 118 1 116 117, ql 119 118, qj 120 .lss 3 119 0, qm 121 120, qg 121 false (qf 122 3 7), qg 121 false (ql 123 122), qg 121 false (qm 124 10), qg 121 false (qi 125 1 123 124), qg 121 false (ql 126 125), qg 121 false (qm 127 0), qg 121 false (qn 128 127), qg 121 false (qf 129 128 6), qg 121 false (ql 130 129), qg 121 false (qL 131 130), qg 121 false (qt 132 .geq 3 126 131), ⟨none, .pick 133 (.tmp 121) (.const (.bool true)) (.tmp 132)⟩]
def QdL : List (List Nat) := [[],[0],[],[1,2],[3],[4],[5],[6],[7,6],[6],[8,9,6],[10,6],[6],[12,6],[13,6],[14,6],[15,6],[11,16,6],[6,17]]
def Qdh : List GO := [qk 4 vn, qk 5 (vi 1)]
def Qdg : List GO := [qf 134 9 2, ql 135 134, qm 136 0, qn 137 136, qf 138 137 6, ql 139 138, qf 140 3 7, ql 141 140, qm 142 10, qi 143 1 141 142, ql 144 143, qi 145 3 139 144, qV 146 3 145, ⟨none, .buildS 147 112 1 [(vi 0), (vi 0), vn] [(0, (3, (.tmp 146)))]⟩, ⟨none, .raw ⟨(some 148), (.call ⟨(.builtin .append), #[(.tmp 135), (.tmp 147)], #[50, 50]⟩), 50, "", #[], none⟩⟩, qf 149 9 2, qs 149 148]
def QdK : List (List Nat) := [[],[0],[],[2],[3],[4],[],[6],[],[7,8],[9],[5,10],[11],[12],[1,13],[0,1,2,3,4,5,6,7,8,9,10,11,12,13,14],[15,14,14,0,1,2,3,4,5,6,7,8,9,10,11,12,13,14]]
def Qdf : List GO := [qm 113 10, qj 114 .add 3 113 1, qm 10 114]
def Q4M : LC := (.seq (.seq (.ops Qdj) (.cond (.tmp 112) .skip (.exit 1))) (.seq (.block 2 (.seq (.seq (.draw Qdi QdL) (.cond (.tmp 133) (.seq (.ops Qdh) .ret) .skip)) (.draw Qdg QdK))) (.ops Qdf)))
def Qde : List GO := [qV 150 3 9, ⟨none, .call (some 151) 131 [(.tmp 150), (.const (vi 4))]⟩, qj 152 .gtr 3 151 4]
def Qdd : List GO := [qk 4 vn, qk 5 (vi 19)]
def Qdc : List GO := [qV 153 3 9, ⟨none, .buildS 154 112 1 [(vi 0), (vi 0), vn] [(0, (3, (.tmp 153)))]⟩, qm 4 154, qk 5 (vi 0)]
def Qdb : List GO := [qj 156 .eql 3 24 6, qm 155 156]
def Qda : List GO := [qj 157 .eql 3 24 7, qm 155 157]
def Qd9 : List GO := [qm 158 0, qf 159 3 1, ql 160 159, ⟨none, .call (some 161) 81 [(.tmp 158), (.tmp 160), (.const (vi 3)), (.const (.bool true))]⟩, qm 11 161]
def Qd8 : List GO := [qm 162 11, qj 163 .neq 3 162 0]
def Qd7 : List GO := [qm 164 11, qk 4 vn, qm 5 164]
def Qd6 : List GO := [qf 165 3 4, ql 166 165, qm 167 0, qn 168 167, qf 169 168 6, ql 170 169, qf 171 3 1, ql 172 171, qi 173 3 170 172, qf 174 173 2, ql 175 174, qL 176 175, qt 177 .geq 3 166 176]
def QdJ : List (List Nat) := [[],[0],[],[2],[3],[4],[],[6],[5,7],[8],[9],[10],[1,11]]
def Qd5 : List GO := [qk 4 vn, qk 5 (vi 9)]
def Qd4 : List GO := [qm 178 0, qn 179 178, qf 180 179 6, ql 181 180, qf 182 3 1, ql 183 182, qi 184 3 181 183, qf 185 184 2, ql 186 185, qf 187 3 4, ql 188 187, qi 189 3 186 188, qV 190 3 189, ⟨none, .alloc 12 112 [(vi 0), (vi 0), vn]⟩, qw 3 12 190]
def QdI : List (List Nat) := [[],[0],[1],[2],[],[4],[3,5],[6],[7],[],[9],[8,10],[11],[],[13,12,0,1,2,3,4,5,6,7,8,9,10,11,12,13]]
def Qd3 : List GO := [qf 191 3 0, ql 192 191, qj 193 .eql 3 192 6]
def Qd2 : List GO := [qV 194 3 12, ⟨none, .buildS 195 112 1 [(vi 0), (vi 0), vn] [(0, (3, (.tmp 194)))]⟩, qm 4 195, qk 5 (vi 0)]
def Qd1 : List GO := [qf 196 3 2, ql 197 196, qj 198 .lss 3 197 0, qm 199 198, qg 199 false (qf 200 3 2), qg 199 false (ql 201 200), qg 199 false (qm 202 0), qg 199 false (qn 203 202), qg 199 false (qf 204 203 6), qg 199 false (ql 205 204), qg 199 false (qL 206 205), qg 199 false (qt 207 .geq 3 201 206), ⟨none, .pick 208 (.tmp 199) (.const (.bool true)) (.tmp 207)⟩]
def QdH : List (List Nat) := [[],[0],[1],[2],[3],[4,3],[3],[6,3],[7,3],[8,3],[9,3],[5,10,3],[3,11]]
def Qd0 : List GO := [qk 4 vn, qk 5 (vi 1)]
def QcZ : List GO := [qV 209 3 12, qm 210 0, qn 211 210, qf 212 211 6, ql 213 212, qf 214 3 2, ql 215 214, qi 216 3 213 215, qV 217 3 216, ⟨none, .call (some 218) 74 [(.tmp 209), (.tmp 217)]⟩, ⟨none, .un 219 .not (.tmp 218)⟩]
def QdG : List (List Nat) := [[],[],[1],[2],[3],[],[5],[4,6],[7],[0,8],[9]]
def QcY : List GO := [qk 4 vn, qk 5 (vi 9)]
def QcX : List GO := [qk 4 vn, qk 5 (vi 0)]
def QcW : List GO := [qj 221 .eql 3 24 8, qm 220 221]
def QcV : List GO := [qm 222 0, qf 223 3 1, ql 224 223, ⟨none, .call (some 225) 81 [(.tmp 222), (.tmp 224), (.const (vi 2)), (.const (.bool true))]⟩, qm 226 0, qf 227 3 2, ql 228 227, ⟨none, .call (some 229) 81 [(.tmp 226), (.tmp 228), (.const (vi 1)), (.const (.bool false))]⟩, ⟨none, .buildS 230 3 2 [(vi 0), (vi 0)] [(0, (1, (.tmp 225))), (1, (1, (.tmp 229)))]⟩, ⟨none, .call (some 231) 130 [(.tmp 230)]⟩, qm 13 231]
def QdF : List (List Nat) := [[],[],[1],[0,2],[],[],[5],[4,6,3],[3,7],[8,7],[9,9,0,1,2,3,4,5,6,7,8,9]]
def QcU : List GO := [qm 232 13, qj 233 .neq 3 232 0]
def QcT : List GO := [qm 234 13, qk 4 vn, qm 5 234]
def QcS : List GO := [qm 235 0, qn 236 235, qf 237 236 6, ql 238 237, qf 239 3 1, ql 240 239, qi 241 3 238 240, qf 242 241 1, ql 243 242, ⟨none, .build 244 [(vi 0), (vi 0), vn] [(0, (1, (.const (vi 4)))), (1, (1, (.tmp 243)))]⟩, ⟨none, .buildS 245 112 1 [(vi 0), (vi 0), vn] [(0, (3, (.tmp 244)))]⟩, qm 4 245, qk 5 (vi 0)]
def QdE : List (List Nat) := [[],[0],[1],[2],[],[4],[3,5],[6],[7],[8],[9],[10,0,1,2,3,4,5,6,7,8,9,10],[11,0,1,2,3,4,5,6,7,8,9,10,11]]
def QcR : List GO := [qj 247 .eql 3 24 9, qm 246 247]
def QcQ : List GO := [qm 248 6, qm 249 0, qf 250 3 1, ql 251 250, ⟨none, .call (some 252) 81 [(.tmp 249), (.tmp 251), (.const (vi 4)), (.const (.bool true))]⟩, qm 253 0, qf 254 3 2, ql 255 254, ⟨none, .call (some 256) 81 [(.tmp 253), (.tmp 255), (.const (vi 1)), (.const (.bool false))]⟩, ⟨none, .buildS 257 3 2 [(vi 0), (vi 0)] [(0, (1, (.tmp 252))), (1, (1, (.tmp 256)))]⟩, ⟨none, .call (some 258) 130 [(.tmp 257)]⟩, qm 4 248, qm 5 258]
def QdD : List (List Nat) := [[],[],[],[2],[1,3],[],[],[6],[5,7,4],[4,8],[9,8],[0,10,0],[10,11,0,1,2,3,4,5,6,7,8,9,10,11]]
def QcP : List GO := [qj 260 .eql 3 24 10, qm 259 260]
def QcO : List GO := [qm 261 0, qf 262 3 1, ql 263 262, ⟨none, .call (some 264) 81 [(.tmp 261), (.tmp 263), (.const (vi 4)), (.const (.bool true))]⟩, qm 265 0, qf 266 3 2, ql 267 266, ⟨none, .call (some 268) 81 [(.tmp 265), (.tmp 267), (.const (vi 1)), (.const (.bool false))]⟩, qm 269 0, qf 270 3 3, ql 271 270, ⟨none, .call (some 272) 81 [(.tmp 269), (.tmp 271), (.const (vi 1)), (.const (.bool false))]⟩, ⟨none, .buildS 273 3 3 [(vi 0), (vi 0), (vi 0)] [(0, (1, (.tmp 264))), (1, (1, (.tmp 268))), (2, (1, (.tmp 272)))]⟩, ⟨none, .call (some 274) 130 [(.tmp 273)]⟩, qk 4 vn, qm 5 274]
def QdC : List (List Nat) := [[],[],[1],[0,2],[],[],[5],[4,6,3],[],[],[9],[8,10,7],[3,7,11],[12,11],[13],[13,14,0,1,2,3,4,5,6,7,8,9,10,11,12,13,14]]
def QcN : List GO := [qj 276 .eql 3 24 11, qm 275 276]
def QcM : List GO := [qm 277 6, qm 278 0, qf 279 3 1, ql 280 279, ⟨none, .call (some 281) 81 [(.tmp 278), (.tmp 280), (.const (vi 4)), (.const (.bool true))]⟩, qm 4 277, qm 5 281]
def QcL : List GO := [qj 283 .eql 3 24 13, qm 282 283]
def QcK : List GO := [qm 284 0, qf 285 3 1, ql 286 285, ⟨none, .call (some 287) 81 [(.tmp 284), (.tmp 286), (.const (vi 1)), (.const (.bool false))]⟩, qk 4 vn, qm 5 287]
def QcJ : List GO := [qm 288 0, qn 289 288, qf 290 289 0, qf 291 290 0, ql 292 291, qf 293 3 4, ql 294 293, qi 295 4 292 294, qV 296 4 295, ⟨none, .alloc 14 53 [(vi 0), vn, vn, vn]⟩, qw 4 14 296]
def QdB : List (List Nat) := [[],[0],[1],[2],[3],[],[5],[4,6],[7],[],[9,8,0,1,2,3,4,5,6,7,8,9]]
def QcI : List GO := [qf 297 3 6, ql 298 297, qL 299 298, qf 300 14 0, ql 301 300, qt 302 .neq 3 299 301]
def QcH : List GO := [qk 4 vn, qk 5 (vi 2)]
def QcG : List GO := [qk 15 (vi 0)]
def QcF : List GO := [qm 303 15, qf 304 3 6, ql 305 304, qL 306 305, qt 307 .lss 3 303 306]
def QcE : List GO := [qm 310 0, qn 311 310, qf 312 311 5, ql 313 312, qf 314 3 6, ql 315 314, qm 316 15, qi 317 1 315 316, ql 318 317, ⟨none, .call (some 319) 32 [(.tmp 313), (.tmp 318)]⟩, ⟨none, .un 320 .not (.tmp 319)⟩]
def QdA : List (List Nat) := [[],[0],[1],[2],[],[4],[],[5,6],[7],[3,8],[9]]
def QcD : List GO := [qk 4 vn, qk 5 (vi 10)]
def QcC : List GO := [qf 321 3 6, ql 322 321, qm 323 15, ⟨none, .sub 324 1 (.tmp 322) none (some (.tmp 323)) none⟩, qf 325 3 6, ql 326 325, qm 327 15, qi 328 1 326 327, ql 329 328, ⟨none, .call (some 330) 132 [(.tmp 324), (.tmp 329)]⟩]
def Qdz : List (List Nat) := [[],[0],[],[1,2],[],[4],[],[5,6],[7],[3,8]]
def QcB : List GO := [qk 4 vn, qk 5 (vi 13)]
def QcA : List GO := [qm 308 15, qj 309 .add 3 308 1, qm 15 309]
def Q4L : LC := (.seq (.seq (.ops QcF) (.cond (.tmp 307) .skip (.exit 3))) (.seq (.block 4 (.seq (.seq (.draw QcE QdA) (.cond (.tmp 320) (.seq (.ops QcD) .ret) .skip)) (.seq (.draw QcC Qdz) (.cond (.tmp 330) (.seq (.ops QcB) .ret) .skip)))) (.ops QcA)))
def Qcz : List GO := [qm 331 0, qf 332 3 7, ql 333 332, qf 334 14 1, ql 335 334, qf 336 3 6, ql 337 336, ⟨none, .call (some 338) 82 [(.tmp 331), (.tmp 333), (.tmp 335), (.tmp 337)]⟩, qm 16 338]
def Qcy : List GO := [qm 339 16, qj 340 .neq 3 339 0]
def Qcx : List GO := [qm 341 16, qk 4 vn, qm 5 341]
def Qcw : List GO := [qk 17 vn]
def Qcv : List GO := [qk 18 (vi 0)]
def Qcu : List GO := [qm 342 18, qf 343 14 2, ql 344 343, qL 345 344, qt 346 .lss 3 342 345]
def Qct : List GO := [qf 350 14 2, ql 351 350, qm 352 18, qi 353 3 351 352, qV 354 3 353, qf 355 3 6, ql 356 355, ⟨none, .call (some 357) 133 [(.tmp 354), (.tmp 356)]⟩, qm 349 357, qx 358 349 0, qx 359 349 1, ⟨none, .alloc 19 112 [(vi 0), (vi 0), vn]⟩, qw 3 19 358, qm 20 359]
def Qdy : List (List Nat) := [[],[0],[],[1,2],[3],[],[5],[4,6],[7],[8],[8],[],[11,9,7,0,1,2,3,4,5,6,7,8,9,11],[10,12,0,1,2,3,4,5,6,7,8,9,10,11,12]]
def Qcs : List GO := [qm 360 17, qV 361 3 19, ⟨none, .buildS 362 112 1 [(vi 0), (vi 0), vn] [(0, (3, (.tmp 361)))]⟩, ⟨none, .raw ⟨(some 363), (.call ⟨(.builtin .append), #[(.tmp 360), (.tmp 362)], #[50, 50]⟩), 50, "", #[], none⟩⟩, qm 17 363]
def Qcr : List GO := [qm 347 18, qj 348 .add 3 347 1, qm 18 348]
def Q4K : LC := (.seq (.seq (.ops Qcu) (.cond (.tmp 346) .skip (.exit 5))) (.seq (.block 6 (.seq (.draw Qct Qdy) (.ops Qcs))) (.ops Qcr)))
def Qcq : List GO := [qm 364 17, qm 4 364, qk 5 (vi 0)]
def R_Known_makes_lc : LC := (.seq (.ops Qfx) (.seq (.ops Qfw) (.seq (.seq (.ops Qfv) (.block 0 (.seq (.seq (.ops Qfu) (.cond (.tmp 25) .skip (.ops Qft))) (.cond (.tmp 25) (.seq (.ops Qfs) .ret) (.seq (.ops Qfr) (.cond (.tmp 29) (.seq (.draw Qfq Qfz) .ret) (.seq (.ops Qfp) (.cond (.tmp 42) (.seq (.seq (.ops Qfo) (.cond (.tmp 52) (.seq (.ops Qdw) .ret) .skip)) (.seq (.ops Qdv) .ret)) (.seq (.ops Qdu) (.cond (.tmp 63) (.seq (.ops Qdt) (.seq (.seq (.draw Qds QdN) (.cond (.tmp 87) (.ops Qdr) .skip)) (.seq (.ops Qdq) .ret))) (.seq (.ops Qdp) (.cond (.tmp 89) (.seq (.seq (.ops Qdo) (.seq (.ops Qdn) (.cond (.tmp 96) (.seq (.ops Qdm) .ret) .skip))) (.seq (.draw Qdl QdM) (.seq (.seq (.ops Qdk) (.block 1 (.loop Q4M))) (.seq (.seq (.ops Qde) (.cond (.tmp 152) (.seq (.ops Qdd) .ret) .skip)) (.seq (.ops Qdc) .ret))))) (.seq (.seq (.ops Qdb) (.cond (.tmp 155) .skip (.ops Qda))) (.cond (.tmp 155) (.seq (.seq (.ops Qd9) (.seq (.ops Qd8) (.cond (.tmp 163) (.seq (.ops Qd7) .ret) .skip))) (.seq (.seq (.draw Qd6 QdJ) (.cond (.tmp 177) (.seq (.ops Qd5) .ret) .skip)) (.seq (.draw Qd4 QdI) (.seq (.seq (.ops Qd3) (.cond (.tmp 193) (.seq (.ops Qd2) .ret) .skip)) (.seq (.seq (.draw Qd1 QdH) (.cond (.tmp 208) (.seq (.ops Qd0) .ret) .skip)) (.seq (.seq (.draw QcZ QdG) (.cond (.tmp 219) (.seq (.ops QcY) .ret) .skip)) (.seq (.ops QcX) .ret))))))) (.seq (.ops QcW) (.cond (.tmp 220) (.seq (.seq (.draw QcV QdF) (.seq (.ops QcU) (.cond (.tmp 233) (.seq (.ops QcT) .ret) .skip))) (.seq (.draw QcS QdE) .ret)) (.seq (.ops QcR) (.cond (.tmp 246) (.seq (.draw QcQ QdD) .ret) (.seq (.ops QcP) (.cond (.tmp 259) (.seq (.draw QcO QdC) .ret) (.seq (.ops QcN) (.cond (.tmp 275) (.seq (.ops QcM) .ret) (.seq (.ops QcL) (.cond (.tmp 282) (.seq (.ops QcK) .ret) .skip)))))))))))))))))))))))) (.seq (.draw QcJ QdB) (.seq (.seq (.ops QcI) (.cond (.tmp 302) (.seq (.ops QcH) .ret) .skip)) (.seq (.seq (.ops QcG) (.block 3 (.loop Q4L))) (.seq (.seq (.ops Qcz) (.seq (.ops Qcy) (.cond (.tmp 340) (.seq (.ops Qcx) .ret) .skip))) (.seq (.ops Qcw) (.seq (.seq (.ops Qcv) (.block 5 (.loop Q4K))) (.seq (.ops Qcq) .ret))))))))))
@[reducible] def Q8 : FuncId := 73
theorem Qdx : lowF Tryz.prog Tryz.f73 = some R_Known_makes_lc := by kernel_rfl
theorem Qfy {a0 a1 : Value} {w : World} {R : Ending → World → Prop} (h : R_Known_makes_lc.wp Tryz.prog (retQ Tryz.prog [.tmp 4, .tmp 5] R) (Ql [a0, a1]) w) : Calls Tryz.prog Q8 ⟨[a0, a1]⟩ w R :=
  Q6 Tryz.func73 Qdx (by kernel_rfl) (by kernel_rfl) h

/- 80 -/
def QoE : List GO := [qb 3 43 1, qk 4 (vi 0)]
def QoD : List GO := [qm 8 0, qn 9 8, qf 10 9 1, qf 11 10 3, ql 12 11, qf 13 3 0, ql 14 13, qi 15 12 12 14, qV 16 12 15, ⟨none, .alloc 5 79 [(vi 0), vn, vn, (vi 0), (vi 0), (vi 0), vn, vn, (vi 0), vn, vn, vn]⟩, qw 12 5 16]
def QoH : List (List Nat) := [[],[0],[1],[2],[3],[],[5],[4,6],[7],[],[9,8,0,1,2,3,4,5,6,7,8,9]]
def QoC : List GO := [qf 17 3 1, ql 18 17, qL 19 18, qf 20 5 0, ql 21 20, qt 22 .neq 3 19 21]
def QoB : List GO := [qk 4 (vi 2)]
def QoA : List GO := [qk 6 (vi 0)]
def Qoz : List GO := [qm 23 6, qm 24 0, qn 25 24, qf 26 25 1, qf 27 26 0, ql 28 27, qt 29 .lss 3 23 28]
def Qoy : List GO := [qf 32 3 1, ql 33 32, qm 34 6, qi 35 1 33 34, ql 36 35, qm 37 6, qt 38 .neq 3 36 37]
def Qox : List GO := [qk 4 (vi 11)]
def Qow : List GO := [qm 30 6, qj 31 .add 3 30 1, qm 6 31]
def QaL : LC := (.seq (.seq (.ops Qoz) (.cond (.tmp 29) .skip (.exit 0))) (.seq (.block 1 (.seq (.ops Qoy) (.cond (.tmp 38) (.seq (.ops Qox) .ret) .skip))) (.ops Qow)))
def Qov : List GO := [qm 39 0, qn 40 39, qf 41 40 5, ql 42 41, qf 43 3 1, ql 44 43, ⟨none, .call (some 45) 138 [(.tmp 42), (.tmp 44)]⟩, qm 7 45]
def QoG : List (List Nat) := [[],[0],[1],[2],[],[4],[3,5],[6,6,0,1,2,3,4,5,6]]
def Qlc : List GO := [qm 46 7, qj 47 .neq 3 46 0]
def Qlb : List GO := [qm 48 7, qm 4 48]
def Qla : List GO := [qm 49 0, qf 50 3 2, ql 51 50, qf 52 5 1, ql 53 52, qf 54 3 1, ql 55 54, ⟨none, .call (some 56) 82 [(.tmp 49), (.tmp 51), (.tmp 53), (.tmp 55)]⟩, qm 4 56]
def R_Known_to_lc : LC := (.seq (.ops QoE) (.seq (.draw QoD QoH) (.seq (.seq (.ops QoC) (.cond (.tmp 22) (.seq (.ops QoB) .ret) .skip)) (.seq (.seq (.ops QoA) (.block 0 (.loop QaL))) (.seq (.seq (.draw Qov QoG) (.seq (.ops Qlc) (.cond (.tmp 47) (.seq (.ops Qlb) .ret) .skip))) (.seq (.ops Qla) .ret))))))
@[reducible] def Q2P : FuncId := 80
theorem Qld : lowF Tryz.prog Tryz.f80 = some R_Known_to_lc := by kernel_rfl
theorem QoF {a0 a1 : Value} {w : World} {R : Ending → World → Prop} (h : R_Known_to_lc.wp Tryz.prog (retQ Tryz.prog [.tmp 4] R) (Ql [a0, a1]) w) : Calls Tryz.prog Q2P ⟨[a0, a1]⟩ w R :=
  Q6 Tryz.func80 Qld (by kernel_rfl) (by kernel_rfl) h

/- 81 -/
def Qiq : List GO := [qk 8 (vi 0)]
def Qip : List GO := [qm 9 1, qj 10 .lss 3 9 0, qm 11 10, qg 11 false (qm 12 1), qg 11 false (qm 13 0), qg 11 false (qn 14 13), qg 11 false (qf 15 14 6), qg 11 false (ql 16 15), qg 11 false (qL 17 16), qg 11 false (qt 18 .geq 3 12 17), ⟨none, .pick 19 (.tmp 11) (.const (.bool true)) (.tmp 18)⟩]
def Qio : List GO := [qk 8 (vi 1)]
def Qin : List GO := [qm 20 0, qn 21 20, qf 22 21 6, ql 23 22, qm 24 1, qi 25 3 23 24, qf 26 25 0, ql 27 26, qm 28 2, qt 29 .neq 3 27 28]
def Qim : List GO := [qk 8 (vi 9)]
def Qil : List GO := [qm 30 3, qm 31 30, qg 31 true (qm 32 0), qg 31 true (qn 33 32), qg 31 true (qf 34 33 5), qg 31 true (ql 35 34), qg 31 true (qm 36 0), qg 31 true (qn 37 36), qg 31 true (qf 38 37 6), qg 31 true (ql 39 38), qg 31 true (qm 40 1), qg 31 true (qi 41 3 39 40), qg 31 true (qf 42 41 1), qg 31 true (ql 43 42), ⟨some (31, true), .call (some 44) 32 [(.tmp 35), (.tmp 43)]⟩, ⟨some (31, true), .un 45 .not (.tmp 44)⟩, ⟨none, .pick 46 (.tmp 31) (.tmp 45) (.const (.bool false))⟩]
def Qis : List (List Nat) := [[],[0],[1],[2,1],[3,1],[4,1],[1],[6,1],[7,1],[8,1],[1],[9,10,1],[11,1],[12,1],[5,13,1,1],[14,1],[1,15]]
def Qik : List GO := [qk 8 (vi 10)]
def Qij : List GO := [qk 8 (vi 0)]
def R_Known_want_lc : LC := (.seq (.ops Qiq) (.seq (.seq (.ops Qip) (.cond (.tmp 19) (.seq (.ops Qio) .ret) .skip)) (.seq (.seq (.ops Qin) (.cond (.tmp 29) (.seq (.ops Qim) .ret) .skip)) (.seq (.seq (.draw Qil Qis) (.cond (.tmp 46) (.seq (.ops Qik) .ret) .skip)) (.seq (.ops Qij) .ret)))))
@[reducible] def Q22 : FuncId := 81
theorem Qfn : lowF Tryz.prog Tryz.f81 = some R_Known_want_lc := by kernel_rfl
theorem Qir {a0 a1 a2 a3 : Value} {w : World} {R : Ending → World → Prop} (h : R_Known_want_lc.wp Tryz.prog (retQ Tryz.prog [.tmp 8] R) (Ql [a0, a1, a2, a3]) w) : Calls Tryz.prog Q22 ⟨[a0, a1, a2, a3]⟩ w R :=
  Q6 Tryz.func81 Qfn (by kernel_rfl) (by kernel_rfl) h

/- 82 -/
def QiC : List GO := [qk 8 (vi 0)]
def QiB : List GO := [qm 12 1, qL 13 12, qm 14 2, qL 15 14, qt 16 .neq 3 13 15]
def QiA : List GO := [qk 8 (vi 2)]
def Qiz : List GO := [qk 9 (vi 0)]
def Qiy : List GO := [qm 17 9, qm 18 1, qL 19 18, qt 20 .lss 3 17 19]
def Qix : List GO := [qm 23 1, qm 24 9, qi 25 1 23 24, ql 26 25, qj 27 .lss 3 26 0, qm 28 27, qg 28 false (qm 29 1), qg 28 false (qm 30 9), qg 28 false (qi 31 1 29 30), qg 28 false (ql 32 31), qg 28 false (qm 33 0), qg 28 false (qn 34 33), qg 28 false (qf 35 34 6), qg 28 false (ql 36 35), qg 28 false (qL 37 36), qg 28 false (qt 38 .geq 3 32 37), ⟨none, .pick 39 (.tmp 28) (.const (.bool true)) (.tmp 38)⟩]
def QiF : List (List Nat) := [[],[],[0,1],[2],[3],[4],[5],[5],[6,7,5],[8,5],[5],[10,5],[11,5],[12,5],[13,5],[9,14,5],[5,15]]
def Qiw : List GO := [qk 8 (vi 1)]
def Qiv : List GO := [qm 41 2, qm 42 9, qi 43 3 41 42, qV 44 3 43, qm 45 3, ⟨none, .call (some 46) 133 [(.tmp 44), (.tmp 45)]⟩, qm 40 46, qx 47 40 0, qx 48 40 1, ⟨none, .alloc 10 112 [(vi 0), (vi 0), vn]⟩, qw 3 10 47, qm 11 48]
def Qiu : List GO := [qm 49 11, ⟨none, .un 50 .not (.tmp 49)⟩, qm 51 50, qg 51 false (qV 52 3 10), qg 51 false (qm 53 0), qg 51 false (qn 54 53), qg 51 false (qf 55 54 6), qg 51 false (ql 56 55), qg 51 false (qm 57 1), qg 51 false (qm 58 9), qg 51 false (qi 59 1 57 58), qg 51 false (ql 60 59), qg 51 false (qi 61 3 56 60), qg 51 false (qV 62 3 61), ⟨some (51, false), .call (some 63) 74 [(.tmp 52), (.tmp 62)]⟩, ⟨some (51, false), .un 64 .not (.tmp 63)⟩, ⟨none, .pick 65 (.tmp 51) (.const (.bool true)) (.tmp 64)⟩]
def QiE : List (List Nat) := [[],[0],[1],[2],[2],[4,2],[5,2],[6,2],[2],[2],[8,9,2],[10,2],[7,11,2],[12,2],[3,13,2,2],[14,2],[2,15]]
def Qit : List GO := [qk 8 (vi 9)]
def QfB : List GO := [qm 21 9, qj 22 .add 3 21 1, qm 9 22]
def Q6e : LC := (.seq (.seq (.ops Qiy) (.cond (.tmp 20) .skip (.exit 0))) (.seq (.block 1 (.seq (.seq (.draw Qix QiF) (.cond (.tmp 39) (.seq (.ops Qiw) .ret) .skip)) (.seq (.ops Qiv) (.seq (.draw Qiu QiE) (.cond (.tmp 65) (.seq (.ops Qit) .ret) .skip))))) (.ops QfB)))
def QfA : List GO := [qk 8 (vi 0)]
def R_Known_args_lc : LC := (.seq (.ops QiC) (.seq (.seq (.ops QiB) (.cond (.tmp 16) (.seq (.ops QiA) .ret) .skip)) (.seq (.seq (.ops Qiz) (.block 0 (.loop Q6e))) (.seq (.ops QfA) .ret))))
@[reducible] def Q23 : FuncId := 82
theorem QfC : lowF Tryz.prog Tryz.f82 = some R_Known_args_lc := by kernel_rfl
theorem QiD {a0 a1 a2 a3 : Value} {w : World} {R : Ending → World → Prop} (h : R_Known_args_lc.wp Tryz.prog (retQ Tryz.prog [.tmp 8] R) (Ql [a0, a1, a2, a3]) w) : Calls Tryz.prog Q23 ⟨[a0, a1, a2, a3]⟩ w R :=
  Q6 Tryz.func82 QfC (by kernel_rfl) (by kernel_rfl) h

/- 130 -/
def Qu1 : List GO := [qk 2 (vi 0)]
def Qu0 : List GO := [qk 3 (vi 0)]
def QtZ : List GO := [qm 4 3, qm 5 0, qL 6 5, qt 7 .lss 3 4 6]
def QtY : List GO := [qm 10 0, qm 11 3, qi 12 1 10 11, ql 13 12, qj 14 .neq 3 13 0]
def QtX : List GO := [qm 15 0, qm 16 3, qi 17 1 15 16, ql 18 17, qm 2 18]
def QtW : List GO := [qm 8 3, qj 9 .add 3 8 1, qm 3 9]
def Qmt : LC := (.seq (.seq (.ops QtZ) (.cond (.tmp 7) .skip (.exit 0))) (.seq (.block 1 (.seq (.ops QtY) (.cond (.tmp 14) (.seq (.ops QtX) .ret) .skip))) (.ops QtW)))
def QtV : List GO := [qk 2 (vi 0)]
def R_first_lc : LC := (.seq (.ops Qu1) (.seq (.seq (.ops Qu0) (.block 0 (.loop Qmt))) (.seq (.ops QtV) .ret)))
@[reducible] def QnT : FuncId := 130
theorem QsL : lowF Tryz.prog Tryz.f130 = some R_first_lc := by kernel_rfl
theorem Qu2 {a0 : Value} {w : World} {R : Ending → World → Prop} (h : R_first_lc.wp Tryz.prog (retQ Tryz.prog [.tmp 2] R) (Ql [a0]) w) : Calls Tryz.prog QnT ⟨[a0]⟩ w R :=
  Q6 Tryz.func130 QsL (by kernel_rfl) (by kernel_rfl) h

/- 132 -/
def R_In_r0 : List GO := [qk 4 (.bool false)]
def R_In_r1 : List GO := [qk 5 (vi 0)]
def R_In_r2 : List GO := [qm 6 5, qm 7 0, qL 8 7, qt 9 .lss 3 6 8]
def R_In_r3 : List GO := [qm 12 0, qm 13 5, qi 14 1 12 13, ql 15 14, qm 16 1, qt 17 .eql 3 15 16]
def R_In_r4 : List GO := [qk 4 (.bool true)]
def R_In_r5 : List GO := [qm 10 5, qj 11 .add 3 10 1, qm 5 11]
def Qvu : LC := (.seq (.seq (.ops R_In_r2) (.cond (.tmp 9) .skip (.exit 0))) (.seq (.block 1 (.seq (.ops R_In_r3) (.cond (.tmp 17) (.seq (.ops R_In_r4) .ret) .skip))) (.ops R_In_r5)))
def R_In_r6 : List GO := [qk 4 (.bool false)]
def R_In_lc : LC := (.seq (.ops R_In_r0) (.seq (.seq (.ops R_In_r1) (.block 0 (.loop Qvu))) (.seq (.ops R_In_r6) .ret)))
@[reducible] def R_In : FuncId := 132
theorem R_In_low : lowF Tryz.prog Tryz.f132 = some R_In_lc := by kernel_rfl
theorem R_In_in {a0 a1 : Value} {w : World} {R : Ending → World → Prop} (h : R_In_lc.wp Tryz.prog (retQ Tryz.prog [.tmp 4] R) (Ql [a0, a1]) w) : Calls Tryz.prog R_In ⟨[a0, a1]⟩ w R :=
  Q6 Tryz.func132 R_In_low (by kernel_rfl) (by kernel_rfl) h

/- 133 -/
def QqJ : List GO := [qb 2 112 0, ⟨none, .alloc 4 112 [(vi 0), (vi 0), vn]⟩, qk 5 (.bool false)]
def QqI : List GO := [qf 10 2 0, ql 11 10, qf 12 2 1, ql 13 12, ⟨none, .build 14 [(vi 0), (vi 0), vn] [(0, (1, (.tmp 11))), (1, (1, (.tmp 13)))]⟩, ⟨none, .alloc 6 112 [(vi 0), (vi 0), vn]⟩, qw 3 6 14]
def QqH : List GO := [qf 15 2 0, ql 16 15, qj 17 .neq 3 16 1]
def QqG : List GO := [qf 18 2 1, ql 19 18, qj 20 .lss 3 19 0, qm 21 20, qg 21 false (qf 22 2 1), qg 21 false (ql 23 22), qg 21 false (qm 24 1), qg 21 false (qL 25 24), qg 21 false (qt 26 .geq 3 23 25), ⟨none, .pick 27 (.tmp 21) (.const (.bool true)) (.tmp 26)⟩]
def QqF : List GO := [⟨none, .build 28 [(vi 0), (vi 0), vn] []⟩, qw 3 4 28, qk 5 (.bool false)]
def QqE : List GO := [qm 29 1, qf 30 2 1, ql 31 30, qi 32 1 29 31, ql 33 32, qj 34 .lss 3 33 0]
def QqD : List GO := [⟨none, .build 35 [(vi 0), (vi 0), vn] []⟩, qw 3 4 35, qk 5 (.bool false)]
def QqC : List GO := [qm 36 1, qf 37 2 1, ql 38 37, qi 39 1 36 38, ql 40 39, qf 41 6 1, qs 41 40]
def QqB : List GO := [qk 7 (vi 0)]
def QqA : List GO := [qm 42 7, qf 43 2 2, ql 44 43, qL 45 44, qt 46 .lss 3 42 45]
def Qod : List GO := [qf 50 2 2, ql 51 50, qm 52 7, qi 53 3 51 52, qV 54 3 53, qm 55 1, ⟨none, .call (some 56) 133 [(.tmp 54), (.tmp 55)]⟩, qm 49 56, qx 57 49 0, qx 58 49 1, ⟨none, .alloc 8 112 [(vi 0), (vi 0), vn]⟩, qw 3 8 57, qm 9 58]
def Qoc : List GO := [qm 59 9, ⟨none, .un 60 .not (.tmp 59)⟩]
def Qob : List GO := [⟨none, .build 61 [(vi 0), (vi 0), vn] []⟩, qw 3 4 61, qk 5 (.bool false)]
def Qoa : List GO := [qf 62 6 2, ql 63 62, qV 64 3 8, ⟨none, .buildS 65 112 1 [(vi 0), (vi 0), vn] [(0, (3, (.tmp 64)))]⟩, ⟨none, .raw ⟨(some 66), (.call ⟨(.builtin .append), #[(.tmp 63), (.tmp 65)], #[50, 50]⟩), 50, "", #[], none⟩⟩, qf 67 6 2, qs 67 66]
def Qo9 : List GO := [qm 47 7, qj 48 .add 3 47 1, qm 7 48]
def Qey : LC := (.seq (.seq (.ops QqA) (.cond (.tmp 46) .skip (.exit 0))) (.seq (.block 1 (.seq (.ops Qod) (.seq (.seq (.ops Qoc) (.cond (.tmp 60) (.seq (.ops Qob) .ret) .skip)) (.ops Qoa)))) (.ops Qo9)))
def Qo8 : List GO := [qV 68 3 6, qw 3 4 68, qk 5 (.bool true)]
def R_Renamed_lc : LC := (.seq (.ops QqJ) (.seq (.ops QqI) (.seq (.seq (.ops QqH) (.cond (.tmp 17) (.seq (.seq (.ops QqG) (.cond (.tmp 27) (.seq (.ops QqF) .ret) .skip)) (.seq (.seq (.ops QqE) (.cond (.tmp 34) (.seq (.ops QqD) .ret) .skip)) (.ops QqC))) .skip)) (.seq (.seq (.ops QqB) (.block 0 (.loop Qey))) (.seq (.ops Qo8) .ret)))))
@[reducible] def Q2D : FuncId := 133
theorem Qoe : lowF Tryz.prog Tryz.f133 = some R_Renamed_lc := by kernel_rfl
theorem QqK {a0 a1 : Value} {w : World} {R : Ending → World → Prop} (h : R_Renamed_lc.wp Tryz.prog (retQ Tryz.prog [.cell 4 112, .tmp 5] R) (Ql [a0, a1]) w) : Calls Tryz.prog Q2D ⟨[a0, a1]⟩ w R :=
  Q6 Tryz.func133 Qoe (by kernel_rfl) (by kernel_rfl) h

/- 138 -/
def Qjk : List GO := [qk 4 (vi 0)]
def Qjj : List GO := [qk 5 (vi 0)]
def Qji : List GO := [qm 8 5, qm 9 1, qL 10 9, qt 11 .lss 3 8 10]
def Qjh : List GO := [qm 14 0, qm 15 1, qm 16 5, qi 17 1 15 16, ql 18 17, ⟨none, .call (some 19) 32 [(.tmp 14), (.tmp 18)]⟩, ⟨none, .un 20 .not (.tmp 19)⟩]
def Qjg : List GO := [qk 4 (vi 10)]
def Qjf : List GO := [qm 21 1, qm 22 5, ⟨none, .sub 23 1 (.tmp 21) none (some (.tmp 22)) none⟩, qm 24 1, qm 25 5, qi 26 1 24 25, ql 27 26, ⟨none, .call (some 28) 132 [(.tmp 23), (.tmp 27)]⟩]
def Qjm : List (List Nat) := [[],[],[0,1],[],[],[3,4],[5],[2,6]]
def Qje : List GO := [qk 4 (vi 13)]
def Qjd : List GO := [qm 12 5, qj 13 .add 3 12 1, qm 5 13]
def Q6h : LC := (.seq (.seq (.ops Qji) (.cond (.tmp 11) .skip (.exit 0))) (.seq (.block 1 (.seq (.seq (.ops Qjh) (.cond (.tmp 20) (.seq (.ops Qjg) .ret) .skip)) (.seq (.draw Qjf Qjm) (.cond (.tmp 28) (.seq (.ops Qje) .ret) .skip)))) (.ops Qjd)))
def Qjc : List GO := [qm 29 0, ⟨none, .call (some 30) 27 [(.tmp 29)]⟩, qm 6 30]
def Qjb : List GO := [qk 7 (vi 0)]
def QfH : List GO := [qm 31 7, qm 32 6, qL 33 32, qt 34 .lss 3 31 33]
def QfG : List GO := [qm 37 1, qm 38 6, qm 39 7, qi 40 1 38 39, ql 41 40, ⟨none, .call (some 42) 132 [(.tmp 37), (.tmp 41)]⟩, ⟨none, .un 43 .not (.tmp 42)⟩]
def QfF : List GO := [qk 4 (vi 12)]
def QfE : List GO := [qm 35 7, qj 36 .add 3 35 1, qm 7 36]
def Q5u : LC := (.seq (.seq (.ops QfH) (.cond (.tmp 34) .skip (.exit 2))) (.seq (.block 3 (.seq (.ops QfG) (.cond (.tmp 43) (.seq (.ops QfF) .ret) .skip))) (.ops QfE)))
def QfD : List GO := [qk 4 (vi 0)]
def R_Holds_Pass_lc : LC := (.seq (.ops Qjk) (.seq (.seq (.ops Qjj) (.block 0 (.loop Q6h))) (.seq (.ops Qjc) (.seq (.seq (.ops Qjb) (.block 2 (.loop Q5u))) (.seq (.ops QfD) .ret)))))
@[reducible] def Q6i : FuncId := 138
theorem QfI : lowF Tryz.prog Tryz.f138 = some R_Holds_Pass_lc := by kernel_rfl
theorem Qjl {a0 a1 : Value} {w : World} {R : Ending → World → Prop} (h : R_Holds_Pass_lc.wp Tryz.prog (retQ Tryz.prog [.tmp 4] R) (Ql [a0, a1]) w) : Calls Tryz.prog Q6i ⟨[a0, a1]⟩ w R :=
  Q6 Tryz.func138 QfI (by kernel_rfl) (by kernel_rfl) h

end Go.Proofs.YtanlkfeogoganaaGreat
namespace Go.Proofs.YtanlkfeogoganaaGreat
open Go.Lir
set_option maxRecDepth 100000
theorem el_T22 : Q3d Tryz.prog 22 = some (53, 4, 80, [(.int .i64 0), (.slice none 0 0), (.slice none 0 0), (.slice none 0 0)]) := by kernel_rfl
theorem u_T22 : ∃ e2, Tryz.prog.underlying 22 = some (.slice e2) := ⟨53, by kernel_rfl⟩
theorem el_T40 : Q3d Tryz.prog 40 = some (57, 8, 96, [(.int .i64 0), (.int .i64 0), (.int .i64 0), (.int .i64 0), (.int .i64 0), (.int .i64 0), (.slice none 0 0), (.slice none 0 0)]) := by kernel_rfl
theorem u_T40 : ∃ e2, Tryz.prog.underlying 40 = some (.slice e2) := ⟨57, by kernel_rfl⟩
theorem Qeu : Q3d Tryz.prog 41 = some (3, 1, 8, [(.int .i64 0)]) := by kernel_rfl
theorem Qrx : ∃ e2, Tryz.prog.underlying 41 = some (.slice e2) := ⟨3, by kernel_rfl⟩
theorem Q38 : Q3d Tryz.prog 50 = some (112, 3, 40, [(.int .i64 0), (.int .i64 0), (.slice none 0 0)]) := by kernel_rfl
theorem Q5x : ∃ e2, Tryz.prog.underlying 50 = some (.slice e2) := ⟨112, by kernel_rfl⟩
theorem el_T51 : Q3d Tryz.prog 51 = some (79, 12, 208, [(.int .i64 0), (.slice none 0 0), (.slice none 0 0), (.int .i64 0), (.int .i64 0), (.int .i64 0), (.slice none 0 0), (.slice none 0 0), (.int .i64 0), (.slice none 0 0), (.slice none 0 0), (.slice none 0 0)]) := by kernel_rfl
theorem u_T51 : ∃ e2, Tryz.prog.underlying 51 = some (.slice e2) := ⟨79, by kernel_rfl⟩
theorem Qq9 : Q3d Tryz.prog 70 = some (4, 1, 1, [(.bool false)]) := by kernel_rfl
theorem u_T70 : ∃ e2, Tryz.prog.underlying 70 = some (.slice e2) := ⟨4, by kernel_rfl⟩
end Go.Proofs.YtanlkfeogoganaaGreat
namespace Go.Lir
set_option linter.unusedVariables false
def hasB (l : List Bool) (r : Int) : Bool := decide (0 ≤ r) && decide (r < l.length) && l.getD r.toNat false

/-- The numbers ahead of n that are held. -/
def Q1I (l : List Bool) (n : Nat) : List Int := ((List.range n).filter fun j => l.getD j false).map Int.ofNat
def Q1W (l : List Bool) : List Int := Q1I l l.length
theorem Q5f (l : List Bool) (n : Nat) : Q1I l (n + 1) = Q1I l n ++ if l.getD n false then [(n : Int)] else [] := by
  unfold Q1I
  rw [List.range_succ, List.filter_append, List.map_append]
  congr 1
  by_cases h : l.getD n false = true
  · rw [if_pos h, List.filter_cons_of_pos (by simpa using h)]; rfl
  · rw [if_neg h, List.filter_cons_of_neg (by simpa using h)]; rfl
theorem Qc0 (l : List Bool) (n : Nat) : (Q1I l n).length ≤ n := by
  unfold Q1I
  rw [List.length_map]
  exact Nat.le_trans (List.length_filter_le _ _) (by simp)

/-- What Pass answers: of the numbers yet to come, behind those that were seen. -/
def Q1o (l : List Bool) (seen : List Int) : List Int → Int
  | [] => if seen.length < (Q1W l).length then 12 else 0
  | x :: xs => if hasB l x then if x ∈ seen then 13 else Q1o l (seen ++ [x]) xs else 10
def Q7y (l : List Bool) (ys : List Int) : List Bool := (List.range l.length).map fun (j : Nat) => decide ((j : Int) ∈ ys)
theorem Quh (l : List Bool) (ys : List Int) : (Q7y l ys).length = l.length := by simp [Q7y]
theorem Qug (l : List Bool) : Q7y l [] = List.replicate l.length false := by
  apply List.ext_getElem <;> simp [Q7y]
theorem Qui {l : List Bool} {ys : List Int} {r : Int} (h0 : 0 ≤ r) (h1 : r < l.length) : (Q7y l ys).getD r.toNat false = decide (r ∈ ys) := by
  have : r.toNat < l.length := by omega
  simp [Q7y, List.getD_eq_getElem?_getD, List.getElem?_map, List.getElem?_range this, Int.toNat_of_nonneg h0]
theorem Quf {l : List Bool} {ys : List Int} {r : Int} (h0 : 0 ≤ r) : (Q7y l ys).set r.toNat true = Q7y l (ys ++ [r]) := by
  apply List.ext_getElem?
  intro j
  simp only [Q7y, List.getElem?_set, List.getElem?_map, List.length_map, List.length_range]
  by_cases hj : j < l.length
  · simp only [List.getElem?_range hj, Option.map_some]
    by_cases he : r.toNat = j
    · subst he; simp [hj, Int.toNat_of_nonneg h0]
    · have : (j : Int) ≠ r := by omega
      simp [he, this]
  · have h2 : (List.range l.length)[j]? = none := by simp; omega
    simp only [h2, Option.map_none]
    by_cases he : r.toNat = j
    · subst he; simp [hj]
    · simp [he]
theorem Q6t {l : List Bool} {r : Int} (h : hasB l r = true) : 0 ≤ r ∧ r < l.length ∧ l.getD r.toNat false = true := by
  simp only [hasB, Bool.and_eq_true, decide_eq_true_eq] at h; exact ⟨h.1.1, h.1.2, h.2⟩

def Q4l (l : List Bool) (xs0 seen : List Int) : List Int → Int
  | [] => if ∀ y ∈ Q1W l, y ∈ xs0 then 0 else 12
  | x :: xs => if hasB l x then if x ∈ seen then 13 else Q4l l xs0 (seen ++ [x]) xs else 10

/-! ### What both answer is the same -/

theorem mem_heldL {l : List Bool} {x : Int} : x ∈ Q1W l ↔ hasB l x = true := by
  simp only [Q1W, Q1I, List.mem_map, List.mem_filter, List.mem_range, hasB, Bool.and_eq_true, decide_eq_true_eq]
  constructor
  · rintro ⟨j, ⟨h1, h2⟩, rfl⟩
    exact ⟨⟨by simp, by simpa using h1⟩, by simpa using h2⟩
  · rintro ⟨⟨h0, h1⟩, h2⟩
    exact ⟨x.toNat, ⟨by omega, h2⟩, by simp; omega⟩
theorem QrL (l : List Bool) : (Q1W l).Nodup := by
  unfold Q1W Q1I
  unfold List.Nodup
  rw [List.pairwise_map]
  refine List.Pairwise.imp ?_ (List.Pairwise.filter _ (List.nodup_range (n := l.length)))
  intro a b h e; exact h (Int.ofNat.inj e)
theorem Qpl (l : List Bool) (xs : List Int) : ∀ (rest seen : List Int), seen ++ rest = xs → seen.Nodup → (∀ y ∈ seen, hasB l y = true) → Q1o l seen rest = Q4l l xs seen rest := by
  intro rest
  induction rest with
  | nil =>
    intro seen he hn hs
    rw [List.append_nil] at he; subst he
    simp only [Q1o, Q4l]
    have h1 : seen.length ≤ (Q1W l).length := Q5O hn fun y hy => mem_heldL.2 (hs y hy)
    by_cases h : ∀ y ∈ Q1W l, y ∈ seen
    · have := Q5O (QrL l) h
      rw [if_pos h, if_neg (by omega)]
    · rw [if_neg h, if_pos]
      simp only [Classical.not_forall] at h
      obtain ⟨y, hy, hn'⟩ := h
      have := Q5O (a := y :: seen) (b := Q1W l) (List.nodup_cons.2 ⟨hn', hn⟩) (by
        intro z hz
        rcases List.mem_cons.1 hz with rfl | hz
        · exact hy
        · exact mem_heldL.2 (hs z hz))
      simp only [List.length_cons] at this; omega
  | cons x rest ih =>
    intro seen he hn hs
    simp only [Q1o, Q4l]
    by_cases h1 : hasB l x = true
    · rw [if_pos h1, if_pos h1]
      by_cases h2 : x ∈ seen
      · rw [if_pos h2, if_pos h2]
      · rw [if_neg h2, if_neg h2]
        refine ih (seen ++ [x]) (by rw [List.append_assoc]; exact he) ?_ ?_
        · rw [List.nodup_append]
          exact ⟨hn, by simp, fun a ha b hb e => by simp at hb; subst hb; subst e; exact h2 ha⟩
        · intro y hy
          rcases List.mem_append.1 hy with hy | hy
          · exact hs y hy
          · simp at hy; subst hy; exact h1
    · rw [if_neg h1, if_neg h1]
theorem QuX (l : List Bool) (xs : List Int) : Q1o l [] xs = Q4l l xs [] xs := Qpl l xs xs [] rfl List.nodup_nil (by simp)
end Go.Lir
namespace Go.Lir
section
variable {P : Program} {l : List GO} {Q : QT} {ρ : Env} {w : World}
/-- A field that holds an integer. -/
def IntF (P : Program) (f : Field) (i : Nat) : Prop := f.name ≠ "_" ∧ (∃ k, P.underlying f.type = some (.int k)) ∧ f.offset = i ∧ Q3q P f.type = true
theorem Q5F (k : Nat) {T : TypeId} {q : IntKind} {a b : Int} {kk : IntKind} {w0 : World} (ht : P.underlying T = some (.int q)) : (Op.equalIn (k + 1) T (.int kk a) (.int kk b)).run P w0 = .ok (a == b) w0 := by
  simp only [Op.equalIn, Sem.run_bind, Qb P T _ w0 ht, Result.andThen_ok]
  simp [Sem.run_pure]
def intFB (P : Program) (f : Field) (i : Nat) : Bool := f.name != "_" && (match P.underlying f.type with | some (.int _) => true | _ => false) && f.offset == i && Q3q P f.type
theorem Qvd {f : Field} {i : Nat} (h : intFB P f i = true) : IntF P f i := by
  unfold intFB at h
  simp only [Bool.and_eq_true, bne_iff_ne, ne_eq, beq_iff_eq] at h
  obtain ⟨⟨⟨h1, h2⟩, h3⟩, h4⟩ := h
  refine ⟨h1, ?_, h3, h4⟩
  split at h2
  · rename_i k hk; exact ⟨k, hk⟩
  · cases h2
end
end Go.Lir
namespace Go.Lir
section
variable {P : Program} {l : List GO} {Q : QT} {ρ : Env} {w : World}
theorem QuE (k : Nat) {T : TypeId} {f0 f1 : Field} {a0 a1 b0 b1 : Int} {w0 : World} (ht : P.underlying T = some (.struct #[f0, f1])) (hh : P.stoodInHeld T = false)
    (h0 : IntF P f0 0) (h1 : IntF P f1 1) :
    (Op.equalIn (k + 2) T (.agg ⟨[.int .i64 a0, .int .i64 a1]⟩) (.agg ⟨[.int .i64 b0, .int .i64 b1]⟩)).run P w0 = .ok (a0 == b0 && a1 == b1) w0 := by
  obtain ⟨n0, ⟨q0, u0⟩, o0, s0⟩ := h0
  obtain ⟨n1, ⟨q1, u1⟩, o1, s1⟩ := h1
  have hp : ∀ (T : TypeId) (cs : Array Value) (off : Nat) (v : Value) (w : World), Q3q P T = true → cs[off]? = some v → (part T cs off).run P w = .ok v w := fun T cs off v w h hv => QmN P T cs off v w h hv
  unfold Op.equalIn
  simp only [Sem.run_bind, Qb P T _ w0 ht, Result.andThen_ok]
  simp [hh, n0, n1, o0, o1, Q5F _ u0, Q5F _ u1, hp _ _ _ _ _ s0, hp _ _ _ _ _ s1]
  by_cases e0 : a0 = b0 <;> by_cases e1 : a1 = b1 <;> simp [e0, e1]
def Int2 (P : Program) (T : TypeId) : Prop := ∃ f0 f1 : Field, P.underlying T = some (.struct #[f0, f1]) ∧ P.stoodInHeld T = false ∧ P.eqGuardType P.depth T = false ∧ IntF P f0 0 ∧ IntF P f1 1
def int2B (P : Program) (T : TypeId) : Bool := match P.underlying T with
  | some (.struct fs) => match fs.toList with
    | [f0, f1] => !P.stoodInHeld T && !P.eqGuardType P.depth T && intFB P f0 0 && intFB P f1 1
    | _ => false
  | _ => false
theorem int2_of {T : TypeId} (h : int2B P T = true) : Int2 P T := by
  unfold int2B at h
  split at h
  · rename_i fs hu
    split at h
    · rename_i f0 f1 hf
      simp only [Bool.and_eq_true, Bool.not_eq_true'] at h
      obtain ⟨⟨⟨h1, h2⟩, h3⟩, h4⟩ := h
      have : fs = #[f0, f1] := by apply Array.ext'; exact hf
      subst this
      exact ⟨f0, f1, hu, h1, h2, Qvd h3, Qvd h4⟩
    · cases h
  · cases h
theorem Qtg (a0 a1 b0 b1 : Int) : (a0 == b0 && a1 == b1) = decide ((a0, a1) = (b0, b1)) := by
  rw [Bool.eq_iff_iff]; simp
theorem s_eq2 {d : Nat} {T : TypeId} {x y : Operand} {a b : Int × Int} (hT : Int2 P T) (hx : ρ.ev x = .agg ⟨[.int .i64 a.1, .int .i64 a.2]⟩) (hy : ρ.ev y = .agg ⟨[.int .i64 b.1, .int .i64 b.2]⟩)
    (h : Q5 P l Q (upd ρ d (.bool (decide (a = b)))) w) : Q5 P (⟨none, .bin d .eql T x y⟩ :: l) Q ρ w := by
  obtain ⟨f0, f1, ht, hh, hg, h0, h1⟩ := hT
  exact ⟨.bool (decide (a = b)), fun w0 => by rw [hx, hy]; simp only [Sem.run_bind, run_eqGuard_agg w0 .eql T x y _ _ hg, Result.andThen_ok, run_eql_struct, QuE 9998 ht hh h0 h1, Qtg], h⟩
theorem s_ne2 {d : Nat} {T : TypeId} {x y : Operand} {a b : Int × Int} (hT : Int2 P T) (hx : ρ.ev x = .agg ⟨[.int .i64 a.1, .int .i64 a.2]⟩) (hy : ρ.ev y = .agg ⟨[.int .i64 b.1, .int .i64 b.2]⟩)
    (h : Q5 P l Q (upd ρ d (.bool (!decide (a = b)))) w) : Q5 P (⟨none, .bin d .neq T x y⟩ :: l) Q ρ w := by
  obtain ⟨f0, f1, ht, hh, hg, h0, h1⟩ := hT
  exact ⟨.bool (!decide (a = b)), fun w0 => by rw [hx, hy]; simp only [Sem.run_bind, run_eqGuard_agg w0 .neq T x y _ _ hg, Result.andThen_ok, run_neq_struct, QuE 9998 ht hh h0 h1, Qtg], h⟩
theorem Quy {d : Nat} {T : TypeId} {x y : Operand} {a : Int × Int} (hT : Int2 P T) (hx : ρ.ev x = .agg ⟨[.int .i64 a.1, .int .i64 a.2]⟩) (hy : ρ.ev y = .agg ⟨[.int .i64 a.1, .int .i64 a.2]⟩)
    (h : Q5 P l Q (upd ρ d (.bool true)) w) : Q5 P (⟨none, .bin d .eql T x y⟩ :: l) Q ρ w := s_eq2 hT hx hy (by rw [decide_eq_true rfl]; exact h)
theorem QrA {d : Nat} {T : TypeId} {x y : Operand} {a : Int × Int} (hT : Int2 P T) (hx : ρ.ev x = .agg ⟨[.int .i64 a.1, .int .i64 a.2]⟩) (hy : ρ.ev y = .agg ⟨[.int .i64 a.1, .int .i64 a.2]⟩)
    (h : Q5 P l Q (upd ρ d (.bool false)) w) : Q5 P (⟨none, .bin d .neq T x y⟩ :: l) Q ρ w := s_ne2 hT hx hy (by rw [decide_eq_true rfl]; exact h)
/-- A block is from here on only read, as a list of one. -/
theorem St.freeze1 {α : Type} {r : Rep α} {c : Cx} {L : List Res} {T b : Nat} {cs : List Value} {x : α} (h : St c w (blk b T cs :: L)) (hr : r.at c cs x) : ∃ c', c.Le c' ∧ St c' w L ∧ r.sl c' (.slice (some ⟨b, 0, none⟩) 1 1) [x] := by
  have h1 : St c w (sl T r.es (.slice (some ⟨b, 0, none⟩) 1 1) [cs] :: L) := h.slOf (css := [cs]) (by simp) (by intro q hq; simp at hq; subst hq; exact r.len hr) rfl
  exact h1.freezeL (r := r) ((Rep.LR.nil r _ _).push hr) rfl (by simp)
end
end Go.Lir
