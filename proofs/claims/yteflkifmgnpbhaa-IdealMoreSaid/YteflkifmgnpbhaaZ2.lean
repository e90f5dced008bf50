/- Lemmas of the proof, part 2: what the functions of the program do (contracts), and what follows. -/
import Derived.Test.YteflkifmgnpbhaaZ1
import Derived.Test.YteflkifmgnpbhaaProg
import Derived.Laws.IdiomStrings
import Derived.Recover
namespace Go.Lir
inductive Ty where
  | mk : Int → Int → List Ty → Ty
def Ty.kind : Ty → Int | .mk k _ _ => k
def Ty.r : Ty → Int | .mk _ r _ => r
def Ty.l : Ty → List Ty | .mk _ _ l => l
/-- cs is the type t, read to the depth n; what is read lies in F. -/
def tyRd (H : Heap) (F : Nat → Prop) : Nat → List Value → Ty → Prop
  | 0, _, _ => False
  | n + 1, cs, t => ∃ v css, cs = [.int .i64 t.kind, .int .i64 t.r, v] ∧ SlR H 3 v F css ∧ css.length = t.l.length ∧ t.l.length ≤ 140737488355328 ∧ ∀ (m : Nat) (x : Ty), t.l[m]? = some x → ∃ d, css[m]? = some d ∧ tyRd H F n d x
theorem tyRd.len {H : Heap} {F : Nat → Prop} : ∀ {n : Nat} {cs : List Value} {t : Ty}, tyRd H F n cs t → cs.length = 3
  | 0, _, _, h => h.elim
  | _ + 1, _, _, h => by obtain ⟨_, _, rfl, _⟩ := h; rfl
theorem tyRd.more {H : Heap} {F : Nat → Prop} : ∀ {n m : Nat} {cs : List Value} {t : Ty}, n ≤ m → tyRd H F n cs t → tyRd H F m cs t
  | 0, _, _, _, _, h => h.elim
  | n + 1, 0, _, _, hm, _ => by omega
  | n + 1, m + 1, _, _, hm, h => by
    obtain ⟨v, css, h1, h2, h3, h4, h5⟩ := h
    exact ⟨v, css, h1, h2, h3, h4, fun i x hx => by obtain ⟨d, h6, h7⟩ := h5 i x hx; exact ⟨d, h6, h7.more (by omega)⟩⟩
theorem tyRd.turn {H H' : Heap} {F G : Nat → Prop} (hs : ∀ v css, SlR H 3 v F css → SlR H' 3 v G css) : ∀ {n : Nat} {cs : List Value} {t : Ty}, tyRd H F n cs t → tyRd H' G n cs t
  | 0, _, _, h => h.elim
  | n + 1, _, _, h => by
    obtain ⟨v, css, h1, h2, h3, h4, h5⟩ := h
    exact ⟨v, css, h1, hs _ _ h2, h3, h4, fun i x hx => by obtain ⟨d, h6, h7⟩ := h5 i x hx; exact ⟨d, h6, h7.turn hs⟩⟩
/-- What is only read: a type. -/
def TyK (c : Cx) (cs : List Value) (t : Ty) : Prop := ∃ n, tyRd c.H0 c.K n cs t
theorem TyK.up {c c' : Cx} {cs : List Value} {t : Ty} (h : TyK c cs t) (hle : c.Le c') : TyK c' cs t := by
  obtain ⟨n, h⟩ := h; exact ⟨n, h.turn fun v css hs => FzS.up hs hle⟩
theorem Qki {α : Type} {xs : List α} {R : Nat → α → Prop} (hm : ∀ n m x, n ≤ m → R n x → R m x) (h : ∀ x ∈ xs, ∃ n, R n x) : ∃ n, ∀ x ∈ xs, R n x := by
  induction xs with
  | nil => exact ⟨0, by simp⟩
  | cons x xs ih =>
    obtain ⟨n, hn⟩ := ih fun y hy => h y (List.mem_cons_of_mem _ hy)
    obtain ⟨m, hx⟩ := h x (List.mem_cons_self ..)
    refine ⟨max n m, fun y hy => ?_⟩
    rcases List.mem_cons.1 hy with rfl | hy
    · exact hm _ _ _ (Nat.le_max_right ..) hx
    · exact hm _ _ _ (Nat.le_max_left ..) (hn y hy)
theorem TyK.mk {c : Cx} {k r : Int} {v : Value} {css : List (List Value)} {l : List Ty} (hs : FzS c 3 v css) (hl : css.length = l.length) (hm : l.length ≤ 140737488355328) (h : ∀ (m : Nat) (x : Ty), l[m]? = some x → ∃ d, css[m]? = some d ∧ TyK c d x) : TyK c [.int .i64 k, .int .i64 r, v] (.mk k r l) := by
  obtain ⟨n, hn⟩ := Qki (xs := List.range l.length) (R := fun n m => ∀ x, l[m]? = some x → ∃ d, css[m]? = some d ∧ tyRd c.H0 c.K n d x) (fun n m i hnm hr x hx => by obtain ⟨d, h1, h2⟩ := hr x hx; exact ⟨d, h1, h2.more hnm⟩) (fun m hm => by
    have hlt := List.mem_range.1 hm
    obtain ⟨d, h1, n, h2⟩ := h m _ (List.getElem?_eq_getElem hlt)
    exact ⟨n, fun x hx => by rw [List.getElem?_eq_getElem hlt] at hx; cases hx; exact ⟨d, h1, h2⟩⟩)
  exact ⟨n + 1, v, css, rfl, hs, hl, hm, fun m x hx => hn m (List.mem_range.2 (List.getElem?_eq_some_iff.1 hx).1) x hx⟩
theorem TyK.out {c : Cx} {cs : List Value} {t : Ty} (h : TyK c cs t) : ∃ v css, cs = [.int .i64 t.kind, .int .i64 t.r, v] ∧ FzS c 3 v css ∧ css.length = t.l.length ∧ t.l.length ≤ 140737488355328 ∧ ∀ (m : Nat) (x : Ty), t.l[m]? = some x → ∃ d, css[m]? = some d ∧ TyK c d x := by
  obtain ⟨n, h⟩ := h
  cases n with
  | zero => exact h.elim
  | succ n =>
    obtain ⟨v, css, h1, h2, h3, h4, h5⟩ := h
    exact ⟨v, css, h1, h2, h3, h4, fun m x hx => by obtain ⟨d, h6, h7⟩ := h5 m x hx; exact ⟨d, h6, n, h7⟩⟩

/-! ### data that came in -/
/-- A slice opened: each of its parts is read by what reads the parts of a smaller datum. -/
theorem QlH {P : Program} {T e : TypeId} {α : Type} {Hd : Type} {enc : TypeId × Value → Hd} {w : World} {fuel es : Nat} {cs : List Value} {y : DataW Hd × List MemPlace} {rd : List Value → α → Prop} (hsz : P.cellsOf e = es) (hes : 0 < es) (hlen : ∀ d x, rd d x → d.length = es)
    (ht : P.underlying T = some (.slice e)) (h : DataW.trod enc P w 0 (fun _ => true) true fuel T cs = some y) (hby : 0 < P.bytesOf e) (hfit : Fits P T y.1)
    (hel : ∀ (n : Nat) (d : List Value) (z : DataW Hd × List MemPlace), DataW.trod enc P w 0 (fun _ => true) true n e d = some z → Fits P e z.1 → SizeOf.sizeOf z.1 < SizeOf.sizeOf y.1 → ∃ x, rd d x) :
    ∃ (xs : List α) (v : Value) (css : List (List Value)), cs = [v] ∧ SlR w.heap es v (fun _ => True) css ∧ css.length = xs.length ∧ xs.length ≤ 140737488355328 ∧ ∀ (m : Nat) (x : α), xs[m]? = some x → ∃ d, css[m]? = some d ∧ rd d x := by
  rcases Go.Deep.open_slice ht h with ⟨rfl, _⟩ | ⟨a, len, cap, m, n, D, Pl, rfl, _, hl, hm, hmm, hy, hi⟩
  · exact ⟨[], .slice none 0 0, [], rfl, ⟨by simp, none, 0, rfl, Nat.le_refl _, .inl rfl⟩, rfl, by simp, by simp⟩
  · have hmc : m = cap := by simpa using hmm
    subst hmc
    have hfit' := hfit
    rw [hy] at hfit'
    obtain ⟨hlen0, hel0⟩ := QgV ht hfit' hby
    simp only [List.length_map, List.length_range] at hlen0
    have hel2 : ∀ i, i < len → ∃ (d : List Value) (x : α), w.cells? 0 (a.add (i * es)) es = some d ∧ rd d x := by
      intro i hi'
      obtain ⟨d, h1, h2⟩ := hi i (by omega)
      rw [hsz] at h1
      obtain ⟨x, hx⟩ := hel n d _ h2 (hel0 _ (List.mem_map.2 ⟨i, List.mem_range.2 hi', rfl⟩)) (by
        rw [hy]
        have hmem : D i ∈ (List.range len).map D := List.mem_map.2 ⟨i, List.mem_range.2 hi', rfl⟩
        have := List.sizeOf_lt_of_mem hmem
        simp only [DataW.slice.sizeOf_spec]
        omega)
      exact ⟨d, x, h1, hx⟩
    have build : ∀ n, n ≤ len → ∃ (css : List (List Value)) (xs : List α), css.length = n ∧ xs.length = n ∧
        ∀ m, m < n → ∃ d x, css[m]? = some d ∧ xs[m]? = some x ∧ w.cells? 0 (a.add (m * es)) es = some d ∧ rd d x := by
      intro n
      induction n with
      | zero => intro _; exact ⟨[], [], rfl, rfl, fun m hm => absurd hm (by omega)⟩
      | succ n ih =>
        intro hn
        obtain ⟨css, xs, h1, h2, h3⟩ := ih (by omega)
        obtain ⟨d, x, h4, h5⟩ := hel2 n (by omega)
        refine ⟨css ++ [d], xs ++ [x], by simp [h1], by simp [h2], fun m hm => ?_⟩
        by_cases hmn : m = n
        · subst hmn
          exact ⟨d, x, by rw [List.getElem?_append_right (by omega), h1]; simp, by rw [List.getElem?_append_right (by omega), h2]; simp, h4, h5⟩
        · obtain ⟨d', x', g1, g2, g3, g4⟩ := h3 m (by omega)
          exact ⟨d', x', by rw [List.getElem?_append_left (by omega)]; exact g1, by rw [List.getElem?_append_left (by omega)]; exact g2, g3, g4⟩
    obtain ⟨css, xs, h1, h2, h3⟩ := build len (Nat.le_refl _)
    refine ⟨xs, .slice (some a) len m, css, rfl, ⟨?_, some a, m, by rw [h1], by omega, ?_⟩, by omega, by omega, ?_⟩
    · intro d hd
      obtain ⟨i, hi'⟩ := List.mem_iff_getElem?.1 hd
      have hlt := (List.getElem?_eq_some_iff.1 hi').1
      obtain ⟨d', x', g1, g2, g3, g4⟩ := h3 i (by omega)
      rw [hi'] at g1
      simp only [Option.some.injEq] at g1
      subst g1
      exact hlen _ _ g4
    · rcases Nat.eq_zero_or_pos len with h0 | h0
      · exact .inl (List.eq_nil_of_length_eq_zero (by omega))
      · obtain ⟨d0, x0, _, _, g3, _⟩ := h3 0 h0
        obtain ⟨hsp, hbl, _⟩ := Qe6 g3 hes
        have ha0 : a.add (0 * es) = a := by rw [Nat.zero_mul]; rfl
        rw [ha0] at hsp hbl
        obtain ⟨b, o, s⟩ := a
        simp only at hsp
        subst hsp
        refine .inr ⟨b, o, rfl, trivial, hbl, fun i d hd => ?_⟩
        have hlt := (List.getElem?_eq_some_iff.1 hd).1
        obtain ⟨d', x', g1, g2, g3, g4⟩ := h3 i (by omega)
        rw [hd] at g1
        simp only [Option.some.injEq] at g1
        subst g1
        rw [Q1q] at g3
        exact (Qe6 g3 hes).2.2
    · intro i x hx
      have hlt := (List.getElem?_eq_some_iff.1 hx).1
      obtain ⟨d', x', g1, g2, g3, g4⟩ := h3 i (by omega)
      rw [hx] at g2
      simp only [Option.some.injEq] at g2
      subst g2
      exact ⟨d', g1, g4⟩
/-- A struct's part is a smaller datum. -/
theorem Q5x {Hd : Type} {enc : TypeId × Value → Hd} {P : Program} {w : World} {T : TypeId} {fuel : Nat} {cs : List Value} {y : DataW Hd × List MemPlace} (h : DataW.trod enc P w 0 (fun _ => true) true fuel T cs = some y)
    {i o s : Nat} {t : TypeId} (hf : fieldAt P T i = some (o, s, t)) (hfit : Fits P T y.1) : cs.length = P.cellsOf T ∧ ∃ n z, DataW.trod enc P w 0 (fun _ => true) true n t ((cs.drop o).take s) = some z ∧ Fits P t z.1 ∧ SizeOf.sizeOf z.1 < SizeOf.sizeOf y.1 := by
  unfold fieldAt at hf
  split at hf
  · rename_i fs hu
    simp only [Option.map_eq_some_iff, Prod.mk.injEq] at hf
    obtain ⟨f, hf, rfl, rfl, rfl⟩ := hf
    obtain ⟨xs, n, _, hy, hl, hx, hall⟩ := DataW.trod_struct hu h
    have := hall i f hf
    have hlt := (Array.getElem?_eq_some_iff.1 hf).1
    refine ⟨hl, n, xs[i]'(by omega), ?_, ?_, ?_⟩
    · rw [this, List.getElem?_eq_getElem (by omega)]
    · rw [hy] at hfit
      exact QeX hu hfit hf (by rw [List.getElem?_map, List.getElem?_eq_getElem (by omega)]; rfl)
    · rw [hy]
      have hmem : (xs[i]'(by omega)).1 ∈ xs.map (·.1) := List.mem_map.2 ⟨_, List.getElem_mem _, rfl⟩
      have := List.sizeOf_lt_of_mem hmem
      simp only [DataW.agg.sizeOf_spec]
      omega
  · cases hf
/-- Every number in it is an int. -/
inductive Ty.InR : Ty → Prop where
  | mk {k r : Int} {l : List Ty} : (Lit.int .i64 k).wf = true → (Lit.int .i64 r).wf = true → (∀ x ∈ l, x.InR) → Ty.InR (.mk k r l)
theorem wf_rng {n : Int} (h : (Lit.int .i64 n).wf = true) : -9223372036854775808 ≤ n ∧ n ≤ 9223372036854775807 := by
  simp [Lit.wf, IntKind.min, IntKind.max, IntKind.bits, IntKind.signed] at h; omega
theorem Ty.InR.parts {k r : Int} {l : List Ty} (h : (Ty.mk k r l).InR) : (-9223372036854775808 ≤ k ∧ k ≤ 9223372036854775807) ∧ (-9223372036854775808 ≤ r ∧ r ≤ 9223372036854775807) ∧ ∀ x ∈ l, x.InR := by
  cases h with | mk h1 h2 h3 => exact ⟨wf_rng h1, wf_rng h2, h3⟩
theorem Qmb {P : Program} {T TL t0 t1 : TypeId} (h0 : fieldAt P T 0 = some (0, 1, t0)) (h1 : fieldAt P T 1 = some (1, 1, t1)) (h2 : fieldAt P T 2 = some (2, 1, TL)) (hi0 : P.underlying t0 = some (.int .i64)) (hi1 : P.underlying t1 = some (.int .i64)) (hT : P.cellsOf T = 3) (hTL : P.underlying TL = some (.slice T)) (hby : 0 < P.bytesOf T)
    {Hd : Type} {enc : TypeId × Value → Hd} {w : World} : ∀ (N fuel : Nat) (cs : List Value) (y : DataW Hd × List MemPlace), DataW.trod enc P w 0 (fun _ => true) true fuel T cs = some y → Fits P T y.1 → SizeOf.sizeOf y.1 < N → ∃ t n, tyRd w.heap (fun _ => True) n cs t ∧ t.InR
  | 0, _, _, _, _, _, hN => by omega
  | N + 1, fuel, cs, y, h, hfit, hN => by
    obtain ⟨hl, n0, z0, g0, _⟩ := Q5x h h0 hfit
    obtain ⟨_, n1, z1, g1, _⟩ := Q5x h h1 hfit
    obtain ⟨_, n2, z2, g2, u2, hz⟩ := Q5x h h2 hfit
    rw [hT] at hl
    obtain ⟨a, b, v, hc⟩ : ∃ a b v, cs = [a, b, v] := by
      match cs, hl with
      | [a, b, v], _ => exact ⟨a, b, v, rfl⟩
    subst hc
    obtain ⟨k, hk, _, wk⟩ := DataW.trod_int hi0 g0
    obtain ⟨r, hr, _, wr⟩ := DataW.trod_int hi1 g1
    have hk2 : [a] = [Value.int .i64 k] := hk
    have hr2 : [b] = [Value.int .i64 r] := hr
    clear hk hr
    simp only [List.cons.injEq, and_true] at hk2 hr2
    have g3 : DataW.trod enc P w 0 (fun _ => true) true n2 TL [v] = some z2 := g2
    clear g2
    obtain ⟨xs, v', css, hv, s1, s2, s3, s4⟩ := QlH (rd := fun d (x : Nat × Ty) => tyRd w.heap (fun _ => True) x.1 d x.2 ∧ x.2.InR) hT (by decide) (fun d x hx => hx.1.len) hTL g3 hby u2 (fun n d z hz1 hz3 hz2 => by
      obtain ⟨t, n, ht, hr⟩ := Qmb h0 h1 h2 hi0 hi1 hT hTL hby N _ d z hz1 hz3 (by omega)
      exact ⟨(n, t), ht, hr⟩)
    simp only [List.cons.injEq, and_true] at hv
    subst hv hk2 hr2
    obtain ⟨n, hn⟩ := Qki (xs := xs) (R := fun n x => x.1 ≤ n) (fun n m x h1 h2 => Nat.le_trans h2 h1) (fun x _ => ⟨x.1, Nat.le_refl _⟩)
    refine ⟨.mk k r (xs.map (·.2)), n + 1, ⟨v, css, rfl, s1, by simp [Ty.l, s2], by simpa [Ty.l] using s3, fun m x hx => ?_⟩, .mk wk wr fun x hx => ?_⟩
    rotate_left
    · obtain ⟨p, hp, rfl⟩ := List.mem_map.1 hx
      obtain ⟨m, hm⟩ := List.mem_iff_getElem?.1 hp
      obtain ⟨d, d1, d2⟩ := s4 m p hm
      exact d2.2
    simp only [Ty.l, List.getElem?_map, Option.map_eq_some_iff] at hx
    obtain ⟨p, hp, rfl⟩ := hx
    obtain ⟨d, d1, d2⟩ := s4 m p hp
    exact ⟨d, d1, d2.1.more (hn p (List.mem_of_getElem? hp))⟩
def Cod.ty {P : Program} {T TL t0 t1 : TypeId} (h0 : fieldAt P T 0 = some (0, 1, t0)) (h1 : fieldAt P T 1 = some (1, 1, t1)) (h2 : fieldAt P T 2 = some (2, 1, TL)) (hi0 : P.underlying t0 = some (.int .i64)) (hi1 : P.underlying t1 = some (.int .i64)) (hT : P.cellsOf T = 3) (hTL : P.underlying TL = some (.slice T)) (hby : decide (0 < P.bytesOf T) = true) : Cod P T Ty where
  es := 3
  rd := fun H cs t => ∃ n, tyRd H (fun b => b < H.size) n cs t
  size := hT
  len := by rintro _ _ _ ⟨n, h⟩; exact h.len
  stay := by
    rintro H H' cs t ⟨n, h⟩ hH
    exact ⟨n, h.turn fun v css hs => SlR.mono (hs.of_same fun b hb _ => hH b hb) fun b hb _ => hb⟩
  open_ := fun enc w fuel cs y h hfit => by
    obtain ⟨t, n, ht, _⟩ := Qmb h0 h1 h2 hi0 hi1 hT hTL (of_decide_eq_true hby) (SizeOf.sizeOf y.1 + 1) fuel cs y h hfit (by omega)
    exact ⟨t, n, ht.turn fun v css hs => SlR.mono hs fun b hb _ => hb⟩
theorem TyK.top {w : World} {cs : List Value} {t : Ty} (h : ∃ n, tyRd w.heap (fun b => b < w.heap.size) n cs t) : TyK (Cx.top w) cs t := h
end Go.Lir
namespace Go.Lir
/-- What is read of some of a struct's fields. -/
structure Fld (P : Program) (T : TypeId) (α : Type) where
  rd : Heap → List Value → α → Prop
  stay : ∀ (H H' : Heap) cs x, rd H cs x → (∀ b, b < H.size → H'[b]? = H[b]?) → rd H' cs x
  open_ : ∀ {Hd : Type} (enc : TypeId × Value → Hd) (w : World) (fuel : Nat) (cs : List Value) (y : DataW Hd × List MemPlace), DataW.trod enc P w 0 (fun _ => true) true fuel T cs = some y → Fits P T y.1 → ∃ x, rd w.heap cs x
def Fld.none {P : Program} {T : TypeId} : Fld P T Unit := ⟨fun _ _ _ => True, fun _ _ _ _ h _ => h, fun _ _ _ _ _ _ _ => ⟨(), trivial⟩⟩
def Fld.more {P : Program} {T t : TypeId} {α β : Type} {i o s : Nat} (c : Cod P t α) (h : fieldAt P T i = some (o, s, t)) (f : Fld P T β) : Fld P T (α × β) where
  rd := fun H cs x => c.rd H ((cs.drop o).take s) x.1 ∧ f.rd H cs x.2
  stay := fun H H' cs x h hH => ⟨c.stay _ _ _ _ h.1 hH, f.stay _ _ _ _ h.2 hH⟩
  open_ := fun enc w fuel cs y hy hfit => by
    obtain ⟨_, n, z, g, u⟩ := Qes hy h hfit
    obtain ⟨a, ha⟩ := c.open_ enc w _ _ _ g u
    obtain ⟨b, hb⟩ := f.open_ enc w _ _ _ hy hfit
    exact ⟨(a, b), ha, hb⟩
/-- The struct. The first field's place is asked so that its number of cells is known. -/
def Fld.cod {P : Program} {T t : TypeId} {α : Type} {o s : Nat} (f : Fld P T α) (h0 : fieldAt P T 0 = some (o, s, t)) (n : Nat) (hn : P.cellsOf T = n) : Cod P T α where
  es := n
  rd := fun H cs x => cs.length = n ∧ f.rd H cs x
  size := hn
  len := fun _ _ _ h => h.1
  stay := fun H H' cs x h hH => ⟨h.1, f.stay _ _ _ _ h.2 hH⟩
  open_ := fun enc w fuel cs y hy hfit => by
    obtain ⟨hl, _⟩ := Qes hy h0 hfit
    obtain ⟨a, ha⟩ := f.open_ enc w _ _ _ hy hfit
    exact ⟨a, by rw [hl, hn], ha⟩
end Go.Lir
namespace Go.Lir

theorem SlR.turn {H H' : Heap} {es : Nat} {v : Value} {F G : Nat → Prop} {css : List (List Value)} (h : SlR H es v F css) (hs : ∀ b, F b → b < H.size → G b ∧ H'[b]? = H[b]?) : SlR H' es v G css := by
  obtain ⟨h0, a, cap, hv, hlc, hc | ⟨b, off, ha, hF, hb, hat⟩⟩ := h
  · exact ⟨h0, a, cap, hv, hlc, .inl hc⟩
  · obtain ⟨h1, h2⟩ := hs b hF hb
    refine ⟨h0, a, cap, hv, hlc, .inr ⟨b, off, ha, h1, ?_, fun m c hm => (hat m c hm).of_same h2⟩⟩
    rcases Nat.lt_or_ge b H'.size with h | h
    · exact h
    · rw [Array.getElem?_eq_none h, Array.getElem?_eq_getElem hb] at h2; cases h2

/-- A kind of data: what cells (that lie in K, and what they lead to) say. -/
structure Rep (α : Type) where
  es : Nat
  pos : 0 < es
  R : Heap → (Nat → Prop) → List Value → α → Prop
  len : ∀ {H : Heap} {K : Nat → Prop} {cs : List Value} {x : α}, R H K cs x → cs.length = es
  one : ∀ {H : Heap} {K : Nat → Prop} {cs : List Value} {x : α}, R H K cs x → ∀ u ∈ cs, oneC u = true
  turn : ∀ {H H' : Heap} {K K' : Nat → Prop} {cs : List Value} {x : α}, R H K cs x → (∀ b, K b → b < H.size → K' b ∧ H'[b]? = H[b]?) → R H' K' cs x

section
variable {α β : Type}
/-- Rows of cells that are the parts of a list. -/
def Rep.LR (r : Rep α) (H : Heap) (K : Nat → Prop) (css : List (List Value)) (l : List α) : Prop := css.length = l.length ∧ ∀ (m : Nat) (x : α), l[m]? = some x → ∃ d, css[m]? = some d ∧ r.R H K d x
/-- A slice that reads as the list. -/
def Rep.SR (r : Rep α) (H : Heap) (K : Nat → Prop) (v : Value) (l : List α) : Prop := ∃ css, SlR H r.es v K css ∧ r.LR H K css l ∧ l.length ≤ 140737488355328
theorem Rep.LR.turn {r : Rep α} {H H' : Heap} {K K' : Nat → Prop} {css : List (List Value)} {l : List α} (h : r.LR H K css l) (hs : ∀ b, K b → b < H.size → K' b ∧ H'[b]? = H[b]?) : r.LR H' K' css l :=
  ⟨h.1, fun m x hx => by obtain ⟨d, h1, h2⟩ := h.2 m x hx; exact ⟨d, h1, r.turn h2 hs⟩⟩
theorem Rep.SR.turn {r : Rep α} {H H' : Heap} {K K' : Nat → Prop} {v : Value} {l : List α} (h : r.SR H K v l) (hs : ∀ b, K b → b < H.size → K' b ∧ H'[b]? = H[b]?) : r.SR H' K' v l := by
  obtain ⟨css, h1, h2, h3⟩ := h
  exact ⟨css, h1.turn hs, h2.turn hs, h3⟩
theorem Rep.LR.nil (r : Rep α) (H : Heap) (K : Nat → Prop) : r.LR H K [] [] := ⟨rfl, by simp⟩
theorem Rep.LR.push {r : Rep α} {H : Heap} {K : Nat → Prop} {css : List (List Value)} {l : List α} {d : List Value} {x : α} (h : r.LR H K css l) (hd : r.R H K d x) : r.LR H K (css ++ [d]) (l ++ [x]) := by
  refine ⟨by simp [h.1], fun m y hy => ?_⟩
  rcases Nat.lt_or_ge m l.length with hm | hm
  · rw [List.getElem?_append_left hm] at hy
    rw [List.getElem?_append_left (by rw [h.1]; exact hm)]
    exact h.2 m y hy
  · rw [List.getElem?_append_right hm] at hy
    rw [List.getElem?_append_right (by rw [h.1]; exact hm), h.1]
    obtain ⟨i, hi⟩ : ∃ i, m - l.length = i := ⟨_, rfl⟩
    rw [hi] at hy ⊢
    cases i with
    | zero => simp only [List.getElem?_cons_zero, Option.some.injEq] at hy; subst hy; exact ⟨d, rfl, hd⟩
    | succ i => simp at hy
theorem Rep.LR.append {r : Rep α} {H : Heap} {K : Nat → Prop} {css css2 : List (List Value)} {l l2 : List α} (h : r.LR H K css l) (h2 : r.LR H K css2 l2) : r.LR H K (css ++ css2) (l ++ l2) := by
  refine ⟨by simp [h.1, h2.1], fun m y hy => ?_⟩
  rcases Nat.lt_or_ge m l.length with hm | hm
  · rw [List.getElem?_append_left hm] at hy
    rw [List.getElem?_append_left (by rw [h.1]; exact hm)]
    exact h.2 m y hy
  · rw [List.getElem?_append_right hm] at hy
    rw [List.getElem?_append_right (by rw [h.1]; exact hm), h.1]
    exact h2.2 _ y hy
theorem Rep.LR.set {r : Rep α} {H : Heap} {K : Nat → Prop} {css : List (List Value)} {l : List α} {d : List Value} {x : α} {i : Nat} (h : r.LR H K css l) (hd : r.R H K d x) : r.LR H K (css.set i d) (l.set i x) := by
  refine ⟨by simp [h.1], fun m y hy => ?_⟩
  rw [List.getElem?_set] at hy ⊢
  by_cases he : i = m
  · rw [if_pos he] at hy ⊢
    rw [h.1]
    split at hy
    · rename_i hm; rw [if_pos hm]; cases hy; exact ⟨d, rfl, hd⟩
    · cases hy
  · rw [if_neg he] at hy ⊢
    exact h.2 m y hy
theorem Rep.LR.sub {r : Rep α} {H : Heap} {K : Nat → Prop} {css : List (List Value)} {l : List α} (h : r.LR H K css l) (i j : Nat) : r.LR H K ((css.take j).drop i) ((l.take j).drop i) := by
  refine ⟨by simp [h.1], fun m y hy => ?_⟩
  rw [List.getElem?_drop] at hy ⊢
  have hlt := (List.getElem?_eq_some_iff.1 hy).1
  rw [List.length_take] at hlt
  rw [List.getElem?_take_of_lt (by omega)] at hy ⊢
  exact h.2 _ y hy
theorem Rep.LR.one {r : Rep α} {H : Heap} {K : Nat → Prop} {css : List (List Value)} {l : List α} (h : r.LR H K css l) : ∀ c ∈ css, ∀ u ∈ c, oneC u = true := by
  intro c hc
  obtain ⟨m, hm⟩ := List.mem_iff_getElem?.1 hc
  have hlt := (List.getElem?_eq_some_iff.1 hm).1
  obtain ⟨d, h1, h2⟩ := h.2 m _ (List.getElem?_eq_getElem (by rw [← h.1]; exact hlt))
  rw [hm] at h1; cases h1
  exact r.one h2
theorem Rep.SR.oneC {r : Rep α} {H : Heap} {K : Nat → Prop} {v : Value} {l : List α} (h : r.SR H K v l) : Go.Lir.oneC v = true := by
  obtain ⟨css, h1, _⟩ := h; exact SlR.oneC h1
theorem Rep.SR.nil (r : Rep α) (H : Heap) (K : Nat → Prop) : r.SR H K (.slice none 0 0) [] := ⟨[], ⟨by simp, none, 0, rfl, Nat.le_refl _, .inl rfl⟩, .nil r H K, by simp⟩
theorem Rep.SR.len {r : Rep α} {H : Heap} {K : Nat → Prop} {v : Value} {l : List α} (h : r.SR H K v l) : l.length ≤ 140737488355328 := by obtain ⟨_, _, _, h⟩ := h; exact h
theorem Rep.SR.shape {r : Rep α} {H : Heap} {K : Nat → Prop} {v : Value} {l : List α} (h : r.SR H K v l) : ∃ a c, v = .slice a l.length c := by
  obtain ⟨css, h1, h2, _⟩ := h
  obtain ⟨a, c, hv⟩ := SlR.shape h1
  exact ⟨a, c, by rw [← h2.1]; exact hv⟩

theorem Rep.SR.nil_of {r : Rep α} {H : Heap} {K : Nat → Prop} {v : Value} {l : List α} {n c : Nat} (h : r.SR H K v l) (hv : v = .slice none n c) : l = [] := by
  obtain ⟨css, ⟨_, a, cap, hv2, _, hc | ⟨b, off, ha, _⟩⟩, h2, _⟩ := h
  · exact List.eq_nil_of_length_eq_zero (by rw [← h2.1, hc]; rfl)
  · rw [hv, ha] at hv2; simp at hv2
def Rep.lit (f : α → Value) (hf : ∀ x, oneC (f x) = true) : Rep α where
  es := 1
  pos := by decide
  R := fun _ _ cs x => cs = [f x]
  len := by rintro _ _ _ _ rfl; rfl
  one := by rintro _ _ _ x rfl u hu; simp at hu; subst hu; exact hf x
  turn := fun h _ => h
def intR : Rep Int := Rep.lit (fun n => .int .i64 n) (fun _ => rfl)
def Rep.list (r : Rep α) : Rep (List α) where
  es := 1
  pos := by decide
  R := fun H K cs l => ∃ v, cs = [v] ∧ r.SR H K v l
  len := by rintro _ _ _ _ ⟨v, rfl, _⟩; rfl
  one := by rintro _ _ _ _ ⟨v, rfl, h⟩ u hu; simp at hu; subst hu; exact h.oneC
  turn := by rintro _ _ _ _ _ _ ⟨v, rfl, h⟩ hs; exact ⟨v, rfl, h.turn hs⟩
def Rep.and (r : Rep α) (p : α → Prop) : Rep α where
  es := r.es
  pos := r.pos
  R := fun H K cs x => r.R H K cs x ∧ p x
  len := fun h => r.len h.1
  one := fun h => r.one h.1
  turn := fun h hs => ⟨r.turn h.1 hs, h.2⟩
def tyR : Rep Ty where
  es := 3
  pos := by decide
  R := fun H K cs t => ∃ n, tyRd H K n cs t
  len := by rintro _ _ _ _ ⟨n, h⟩; exact h.len
  one := by
    rintro _ _ _ _ ⟨n, h⟩
    cases n with
    | zero => exact h.elim
    | succ n =>
      obtain ⟨v, css, rfl, h2, _⟩ := h
      intro u hu; simp at hu
      rcases hu with rfl | rfl | rfl
      · rfl
      · rfl
      · exact SlR.oneC h2
  turn := by rintro _ _ _ _ _ _ ⟨n, h⟩ hs; exact ⟨n, h.turn fun v css hv => hv.turn hs⟩
theorem Q1v {H : Heap} {K : Nat → Prop} {cs : List Value} {t : Ty} (h : tyR.R H K cs t) : ∃ v, cs = [.int .i64 t.kind, .int .i64 t.r, v] ∧ tyR.SR H K v t.l := by
  obtain ⟨n, h⟩ := h
  cases n with
  | zero => exact h.elim
  | succ n =>
    obtain ⟨v, css, h1, h2, h3, h4, h5⟩ := h
    exact ⟨v, h1, css, h2, ⟨h3, fun m x hx => by obtain ⟨d, h6, h7⟩ := h5 m x hx; exact ⟨d, h6, n, h7⟩⟩, h4⟩
theorem tyR_mk {H : Heap} {K : Nat → Prop} {k r : Int} {v : Value} {l : List Ty} (h : tyR.SR H K v l) : tyR.R H K [.int .i64 k, .int .i64 r, v] (.mk k r l) := by
  obtain ⟨css, h1, h2, h3⟩ := h
  obtain ⟨n, hn⟩ := Qki (xs := List.range l.length) (R := fun n m => ∀ x, l[m]? = some x → ∃ d, css[m]? = some d ∧ tyRd H K n d x) (fun n m i hnm hr x hx => by obtain ⟨d, h1, h2⟩ := hr x hx; exact ⟨d, h1, h2.more hnm⟩) (fun m hm => by
    have hlt := List.mem_range.1 hm
    obtain ⟨d, h4, n, h5⟩ := h2.2 m _ (List.getElem?_eq_getElem hlt)
    exact ⟨n, fun x hx => by rw [List.getElem?_eq_getElem hlt] at hx; cases hx; exact ⟨d, h4, h5⟩⟩)
  exact ⟨n + 1, v, css, rfl, h1, h2.1, h3, fun m x hx => hn m (List.mem_range.2 (List.getElem?_eq_some_iff.1 hx).1) x hx⟩

/-! what is only read -/
abbrev Rep.at (r : Rep α) (c : Cx) (cs : List Value) (x : α) : Prop := r.R c.H0 c.K cs x
abbrev Rep.sl (r : Rep α) (c : Cx) (v : Value) (l : List α) : Prop := r.SR c.H0 c.K v l
abbrev Rep.ls (r : Rep α) (c : Cx) (css : List (List Value)) (l : List α) : Prop := r.LR c.H0 c.K css l
theorem Cx.Le.turn {c c' : Cx} (h : c.Le c') : ∀ b, c.K b → b < c.H0.size → c'.K b ∧ c'.H0[b]? = c.H0[b]? := fun b hb _ => h.K b hb
theorem Rep.R.up {r : Rep α} {c c' : Cx} {cs : List Value} {x : α} (h : r.at c cs x) (hle : c.Le c') : r.at c' cs x := r.turn h hle.turn
theorem Rep.SR.up {r : Rep α} {c c' : Cx} {v : Value} {l : List α} (h : r.sl c v l) (hle : c.Le c') : r.sl c' v l := Rep.SR.turn h hle.turn
theorem Rep.LR.up {r : Rep α} {c c' : Cx} {v : List (List Value)} {l : List α} (h : r.ls c v l) (hle : c.Le c') : r.ls c' v l := Rep.LR.turn h hle.turn
/-- From here on an own list is only read. -/
theorem St.freezeL {r : Rep α} {c : Cx} {w : World} {L : List Res} {T : TypeId} {es : Nat} {v : Value} {css : List (List Value)} {l : List α} (h : St c w (sl T es v css :: L)) (hl : r.ls c css l) (hes : r.es = es) (hm : l.length ≤ 140737488355328) : ∃ c', c.Le c' ∧ St c' w L ∧ r.sl c' v l := by
  subst hes
  obtain ⟨c', h1, h2, h3⟩ := h.freezeS
  exact ⟨c', h1, h2, css, h3, hl.up h1, hm⟩
theorem Rep.SR.ints {c : Cx} {v : Value} {l : List Int} (h : intR.sl c v l) : FzS c 1 v (l.map icell) := by
  obtain ⟨css, h1, h2, h3⟩ := h
  have : css = l.map icell := by
    apply List.ext_getElem?
    intro m
    rw [List.getElem?_map]
    rcases Nat.lt_or_ge m l.length with hm | hm
    · obtain ⟨d, h4, h5⟩ := h2.2 m _ (List.getElem?_eq_getElem hm)
      have h5 : d = [_] := h5
      rw [h4, List.getElem?_eq_getElem hm, h5]; rfl
    · rw [List.getElem?_eq_none (by rw [h2.1]; exact hm), List.getElem?_eq_none hm]; rfl
  rw [this] at h1; exact h1
theorem FzS.ints {c : Cx} {v : Value} {l : List Int} (h : FzS c 1 v (l.map icell)) (hm : l.length ≤ 140737488355328) : intR.sl c v l :=
  ⟨_, h, ⟨by simp, fun m x hx => ⟨icell x, by rw [List.getElem?_map, hx]; rfl, rfl⟩⟩, hm⟩

section
variable {P : Program} {l : List GO} {Q : QT} {ρ : Env} {w : World} {c : Cx} {L : List Res} {r : Rep α} {xs : List α} {v : Value} {es : Nat}
theorem s_idxL {d : Nat} {x y : Operand} {k : IntKind} {n : Int} (hx : ρ.ev x = v) (hy : ρ.ev y = .int k n) (hK : r.sl c v xs) (hes : r.es = es) (h0 : 0 ≤ n) (hn : n < xs.length)
    (h : ∀ b o cs a, AtK c b o cs → xs[n.toNat]? = some a → r.at c cs a → Q2 P l Q (upd ρ d (.pointer (some ⟨b, o, none⟩))) w) : Q2 P (⟨none, .idx d es x y⟩ :: l) Q ρ w := by
  subst hes
  obtain ⟨css, h1, h2, h3⟩ := hK
  have hn' : n.toNat < xs.length := by omega
  obtain ⟨cs, h4, h5⟩ := h2.2 n.toNat _ (List.getElem?_eq_getElem hn')
  exact s_idxK (m := n.toNat) hx (by rw [hy, Int.toNat_of_nonneg h0]) h1 h4 fun b o hb => h b o cs _ hb (List.getElem?_eq_getElem hn') h5
theorem Qk5 {d m : Nat} {x y : Operand} {k : IntKind} (hx : ρ.ev x = v) (hy : ρ.ev y = .int k (m : Int)) (hK : r.sl c v xs) (hes : r.es = es) (hn : m < xs.length)
    (h : ∀ b o cs a, AtK c b o cs → xs[m]? = some a → r.at c cs a → Q2 P l Q (upd ρ d (.pointer (some ⟨b, o, none⟩))) w) : Q2 P (⟨none, .idx d es x y⟩ :: l) Q ρ w := by
  subst hes
  obtain ⟨css, h1, h2, h3⟩ := hK
  obtain ⟨cs, h4, h5⟩ := h2.2 m _ (List.getElem?_eq_getElem hn)
  exact s_idxK (m := m) hx hy h1 h4 fun b o hb => h b o cs _ hb (List.getElem?_eq_getElem hn) h5
theorem Qj {l : List α} {m : Nat} {x : α} (h : l[m]? = some x) : l.drop m = x :: l.drop (m + 1) := by
  obtain ⟨hm, rfl⟩ := List.getElem?_eq_some_iff.1 h
  exact List.drop_eq_getElem_cons hm
theorem Q9N {l : List α} {m : Nat} {x : α} (h : l[m]? = some x) : l.take (m + 1) = l.take m ++ [x] := by
  rw [List.take_add_one, h]; rfl
theorem Q4I {cs : List Value} {n : Int} (h : intR.at c cs n) : cs = [.int .i64 n] := h
theorem QhD : ∀ {L : List Res} {i : Nat} {a a' : Res}, nth L i = some a → nth (L.set i a') i = some a'
  | [], _, _, _, h => by cases h
  | _ :: _, 0, _, _, _ => rfl
  | _ :: L, i + 1, _, _, h => QhD (L := L) (i := i) h
/-- append of one element that was just built. -/
theorem s_appR1 {T T' d Ts Ts2 Ty nb i k b : Nat} {z : List Value} {x y : Operand} {ds : List Value} {css : List (List Value)} {a : α} (hel : Q2n P Ts = some (T, es, nb, z))
    (hts : ∃ e2, P.underlying Ts2 = some (.slice e2)) (hS : St c w L) (hx : ρ.ev x = v) (hy : ρ.ev y = .slice (some ⟨b, 0, none⟩) 1 1) (hi : nth L i = some (Go.Lir.sl T es v css)) (hk : nth L k = some (blk b T' ds)) (hls : r.ls c css xs) (ha : r.at c ds a) (hes : r.es = es) (hb : (xs.length + 1) * nb ≤ 140737488355328)
    (h : ∀ v' w' css', r.ls c css' (xs ++ [a]) → oneC v' = true → St c w' (L.set i (Go.Lir.sl T es v' css')) → Q2 P l Q (upd ρ d v') w') : Q2 P (⟨none, .raw ⟨some d, .call ⟨.builtin .append, #[x, y], #[Ts, Ts2]⟩, Ty, "", #[], none⟩⟩ :: l) Q ρ w :=
  Q3w hel (.inl hts) hS hx hy hi (hS.srcB hk ((r.len ha).trans hes) (r.one ha)) (by rw [hls.1]; exact hb) fun v' w' hS' => h v' w' _ (hls.push ha) (hS'.oneC (QhD hi)) hS'
/-- append of a list that is read. -/
theorem s_appRK {T d Ts Ts2 Ty nb i : Nat} {z : List Value} {x y : Operand} {v2 : Value} {css : List (List Value)} {ys : List α} (hel : Q2n P Ts = some (T, es, nb, z))
    (hts : ∃ e2, P.underlying Ts2 = some (.slice e2)) (hS : St c w L) (hx : ρ.ev x = v) (hy : ρ.ev y = v2) (hi : nth L i = some (Go.Lir.sl T es v css)) (hls : r.ls c css xs) (hK : r.sl c v2 ys) (hes : r.es = es) (hb : (xs.length + ys.length) * nb ≤ 140737488355328)
    (h : ∀ v' w' css', r.ls c css' (xs ++ ys) → oneC v' = true → St c w' (L.set i (Go.Lir.sl T es v' css')) → Q2 P l Q (upd ρ d v') w') : Q2 P (⟨none, .raw ⟨some d, .call ⟨.builtin .append, #[x, y], #[Ts, Ts2]⟩, Ty, "", #[], none⟩⟩ :: l) Q ρ w := by
  subst hes
  obtain ⟨css2, h1, h2, h3⟩ := hK
  exact Q3w hel (.inl hts) hS hx hy hi (FzS.src h1 hS h2.one) (by rw [hls.1, h2.1]; exact hb) fun v' w' hS' => h v' w' _ (hls.append h2) (hS'.oneC (QhD hi)) hS'
/-- A call of a function value, without and with what it holds. -/
theorem Qmq {d : Nat} {x : Operand} {os : List Operand} {f : FuncId} {args : List Value} {S : Value → World → Prop} (hx : ρ.ev x = .func (.func f) #[] #[]) (hf : Q99 P f = true) (hxs : os.map ρ.ev = args) (hc : Rets P f args w S)
    (h : ∀ v w', S v w' → Q2 P l Q (upd ρ d v) w') : Q2 P (⟨none, .callv (some d) x os⟩ :: l) Q ρ w := by
  unfold Q99 at hf
  rw [Option.any_eq_true] at hf
  obtain ⟨fn, h1, h2⟩ := hf
  rw [Bool.and_eq_true, Bool.not_eq_true'] at h2
  refine s_callv (cap := []) hx h1 h2.1 h2.2 (by rw [hxs, List.append_nil]) hc ?_
  rintro e w' ⟨v, rfl, hv⟩
  exact h v w' hv
theorem Qak {d : Nat} {x : Operand} {b o : Nat} {cs : List Value} {u : Value} (hS : St c w L) (ha : AtK c b o cs) (hx : ρ.ev x = .pointer (some ⟨b, o, none⟩)) (hu : cs[0]? = some u) : gqv P ρ w ⟨none, .load1 d x⟩ u := Qal (j := 0) hS ha hx hu
theorem Q7N {d n : Nat} {x : Operand} {b o : Nat} {cs us : List Value} (hS : St c w L) (ha : AtK c b o cs) (hx : ρ.ev x = .pointer (some ⟨b, o, none⟩)) (hu : cs.take n = us) (hl : us.length = n) : gqv P ρ w ⟨none, .loadn d n x⟩ (.agg ⟨us⟩) := QeV (j := 0) hS ha hx hu hl
/-- A whole block is written anew. -/
theorem Qmm {n i b T : Nat} {x y : Operand} {cs us : List Value} (hS : St c w L) (hx : ρ.ev x = .pointer (some ⟨b, 0, none⟩)) (hy : ρ.ev y = .agg ⟨us⟩) (hn : us.length = n) (hi : nth L i = some (blk b T cs)) (hc : cs.length = n) (h1 : ∀ u ∈ us, oneC u = true)
    (h : ∀ w', St c w' (L.set i (blk b T us)) → Q2 P l Q ρ w') : Q2 P (⟨none, .storen n x y⟩ :: l) Q ρ w :=
  Q3u hS hx hy hn hi (by omega) h1 (by simp; omega) h
theorem Q9V : ∀ {a b : List GO} {Q : QT} {ρ : Env} {w : World}, Q2 P a (Qy (Q2 P b Q) Q) ρ w → Q2 P (a ++ b) Q ρ w
  | [], _, _, _, _, h => h
  | ⟨none, o⟩ :: a, b, Q, ρ, w, h => by
    simp only [List.cons_append, Q2] at h ⊢
    exact Q9K (fun ρ w h => Q9V h) (fun e ρ w hn h => by cases e <;> first | exact h | exact absurd rfl hn) h
  | ⟨some (s, b'), o⟩ :: a, b, Q, ρ, w, h => by
    simp only [List.cons_append, Q2] at h ⊢
    split
    · rename_i hw
      rw [if_pos hw] at h
      exact Q9K (fun ρ w h => Q9V h) (fun e ρ w hn h => by cases e <;> first | exact h | exact absurd rfl hn) h
    · rename_i hw
      rw [if_neg hw] at h
      exact Q9V h
/-- An assertion between two parts of a row of operations. -/
theorem s_cut {l : List GO} (n : Nat) (J : Env → World → Prop) (ha : Q2 P (l.take n) (Qy J Q) ρ w) (hb : ∀ ρ w, J ρ w → Q2 P (l.drop n) Q ρ w) : Q2 P l Q ρ w := by
  rw [← List.take_append_drop n l]
  exact Q9V (QaY (Q7K hb fun _ _ _ h => h) ha)
theorem s_lenL {d : Nat} {x : Operand} (hx : ρ.ev x = v) (hK : r.sl c v xs) (h : Q2 P l Q (upd ρ d (.int .i64 xs.length)) w) : Q2 P (⟨none, .len d x⟩ :: l) Q ρ w := by
  obtain ⟨css, h1, h2, h3⟩ := hK
  exact s_lenKn hx h1 h2.1 h
theorem s_subL {d : Nat} {x : Operand} {lo hi mx : Option Operand} {l' h' : Nat} (hx : ρ.ev x = v) (hK : r.sl c v xs) (hes : r.es = es) (hmx : mx = none) (hh : bnd ρ xs.length hi h') (hl : bnd ρ 0 lo l') (h2 : h' ≤ xs.length) (h3 : l' ≤ h')
    (h : ∀ v', r.sl c v' ((xs.take h').drop l') → Q2 P l Q (upd ρ d v') w) : Q2 P (⟨none, .sub d es x lo hi mx⟩ :: l) Q ρ w := by
  subst hes
  obtain ⟨css, h1, g2, g3⟩ := hK
  exact s_subK hx h1 hmx (by rw [g2.1]; exact hh) hl (by rw [g2.1]; exact h2) h3 fun v' hv => h v' ⟨_, hv, g2.sub _ _, by simp; omega⟩
end
end

/-! ### data that came in -/
section
variable {P : Program} {T e : TypeId} {α β : Type}
/-- What a codec reads, seen as a kind of data. -/
def Cod.rep (c : Cod P T α) (r : Rep β) (hs : c.es = r.es) (h : ∀ (H : Heap) cs x, c.rd H cs x → ∃ y, r.R H (· < H.size) cs y) : Cod P T β where
  es := r.es
  rd := fun H cs y => r.R H (· < H.size) cs y
  size := by rw [← hs]; exact c.size
  len := fun _ _ _ h => r.len h
  stay := fun H H' cs x hx hH => r.turn hx fun b hb hlt => by
    have := hH b hlt
    refine ⟨?_, this⟩
    rcases Nat.lt_or_ge b H'.size with h | h
    · exact h
    · rw [Array.getElem?_eq_none h, Array.getElem?_eq_getElem hlt] at this; cases this
  open_ := fun enc w fuel cs y hy hfit => by
    obtain ⟨x, hx⟩ := c.open_ enc w fuel cs y hy hfit
    exact h _ _ _ hx
/-- A list of a kind of data. -/
theorem list_rd {r : Rep α} {n : Nat} {H : Heap} {cs : List Value} {xs : List α} (hn : r.es = n)
    (h : ∃ v css, cs = [v] ∧ SlR H n v (fun _ => True) css ∧ css.length = xs.length ∧ xs.length ≤ 140737488355328 ∧ ∀ (m : Nat) (x : α), xs[m]? = some x → ∃ d, css[m]? = some d ∧ r.R H (· < H.size) d x) : r.list.R H (· < H.size) cs xs := by
  obtain ⟨v, css, rfl, h1, h2, h3, h4⟩ := h
  subst hn
  exact ⟨v, rfl, css, SlR.mono h1 fun b hb _ => hb, ⟨h2, h4⟩, h3⟩
def Cod.listOf (c : Cod P e β) (r : Rep β) (hs : c.es = r.es) (h : ∀ (H : Heap) cs x, c.rd H cs x → r.R H (· < H.size) cs x) (ht : P.underlying T = some (.slice e)) (h1 : P.cellsOf T = 1) (hby : decide (0 < P.bytesOf e) = true) : Cod P T (List β) :=
  Cod.rep (Cod.slice c ht h1 (by rw [hs]; exact r.pos) hby) r.list rfl fun H cs x hx => ⟨x, list_rd hs.symm (by
    obtain ⟨v, css, g1, g2, g3, g4, g5⟩ := hx
    exact ⟨v, css, g1, g2, g3, g4, fun m y hy => by obtain ⟨d, g6, g7⟩ := g5 m y hy; exact ⟨d, g6, h _ _ _ g7⟩⟩)⟩
/-- A kind of data by itself: the codec's reading is the kind's. -/
structure Cod.Of (P : Program) (T : TypeId) {α : Type} (r : Rep α) where
  cod : Cod P T α
  es : cod.es = r.es
  rd : ∀ (H : Heap) cs x, cod.rd H cs x → r.R H (· < H.size) cs x
def Cod.of (c : Cod P T α) (r : Rep β) (hs : c.es = r.es) (h : ∀ (H : Heap) cs x, c.rd H cs x → ∃ y, r.R H (· < H.size) cs y) : Cod.Of P T r := ⟨Cod.rep c r hs h, rfl, fun _ _ _ h => h⟩
def Cod.Of.list {r : Rep α} (c : Cod.Of P e r) (ht : P.underlying T = some (.slice e)) (h1 : P.cellsOf T = 1) (hby : decide (0 < P.bytesOf e) = true) : Cod.Of P T r.list := ⟨Cod.listOf c.cod r c.es c.rd ht h1 hby, rfl, fun _ _ _ h => h⟩
def Cod.Of.int (ht : P.underlying T = some (.int .i64)) (hs : P.cellsOf T = 1) : Cod.Of P T intR := Cod.of (Cod.int .i64 ht hs) intR rfl fun _ _ x h => ⟨x, h.1⟩
def Cod.Of.ty {TL t0 t1 : TypeId} (h0 : fieldAt P T 0 = some (0, 1, t0)) (h1 : fieldAt P T 1 = some (1, 1, t1)) (h2 : fieldAt P T 2 = some (2, 1, TL)) (hi0 : P.underlying t0 = some (.int .i64)) (hi1 : P.underlying t1 = some (.int .i64)) (hT : P.cellsOf T = 3) (hTL : P.underlying TL = some (.slice T)) (hby : decide (0 < P.bytesOf T) = true) : Cod.Of P T tyR :=
  ⟨Cod.ty h0 h1 h2 hi0 hi1 hT hTL hby, rfl, fun _ _ _ h => h⟩
theorem Cod.Of.top {r : Rep α} (c : Cod.Of P T r) {w : World} {cs : List Value} {x : α} (h : c.cod.rd w.heap cs x) : r.at (Cx.top w) cs x := c.rd _ _ _ h
end
end Go.Lir
namespace Go.Lir
set_option linter.unusedVariables false
mutual
/-- typeSize -/
def Ty.size : Ty → Int → Int
  | .mk _ _ l, left => Tys.size l (left - 1)
def Tys.size : List Ty → Int → Int
  | [], left => left
  | x :: l, left => if 0 ≤ left then Tys.size l (x.size left) else left
end
theorem Tys.size_neg : ∀ (l : List Ty) {left : Int}, left < 0 → Tys.size l left = left
  | [], _, _ => by simp [Tys.size]
  | x :: l, left, h => by rw [Tys.size, if_neg (by omega)]
mutual
/-- deep -/
def Ty.deepB : Ty → Int → Bool
  | .mk _ _ l, left => if left < 0 then false else Tys.deepB l (left - 1)
def Tys.deepB : List Ty → Int → Bool
  | [], _ => true
  | x :: l, left => x.deepB left && Tys.deepB l left
end
mutual
/-- DeepOf -/
def Ty.depth : Ty → Int → Int
  | .mk _ _ l, most => Tys.depth l most 0
def Tys.depth : List Ty → Int → Int → Int
  | [], _, n => n
  | x :: l, most, n => if n ≤ most then (if most = 0 then 1 else Tys.depth l most (if n < 1 + x.depth (most - 1) then 1 + x.depth (most - 1) else n)) else n
end
mutual
theorem Ty.depth_iff : ∀ (t : Ty) {most : Int}, 0 ≤ most → (t.depth most ≤ most ↔ t.deepB most = true)
  | .mk _ _ l, most, h => by
    rw [Ty.depth, Ty.deepB, if_neg (by omega), Tys.depth_iff l h]
    exact ⟨fun h => h.2, fun h2 => ⟨h, h2⟩⟩
theorem Tys.depth_iff : ∀ (l : List Ty) {most n : Int}, 0 ≤ most → (Tys.depth l most n ≤ most ↔ n ≤ most ∧ Tys.deepB l (most - 1) = true)
  | [], most, n, h => by rw [Tys.depth, Tys.deepB]; simp
  | x :: l, most, n, h => by
    rw [Tys.depth, Tys.deepB]
    by_cases hn : n ≤ most
    · rw [if_pos hn]
      by_cases h0 : most = 0
      · rw [if_pos h0]
        have : x.deepB (most - 1) = false := by obtain ⟨k, r, l2⟩ := x; rw [Ty.deepB, if_pos (by omega)]
        rw [this]; simp; omega
      · rw [if_neg h0, Tys.depth_iff l h]
        have := Ty.depth_iff x (most := most - 1) (by omega)
        rw [Bool.and_eq_true, ← this]
        constructor
        · rintro ⟨h1, h2⟩; split at h1 <;> exact ⟨by omega, by omega, h2⟩
        · rintro ⟨h1, h2, h3⟩; refine ⟨?_, h3⟩; split <;> omega
    · rw [if_neg hn]
      exact ⟨fun h => absurd h hn, fun h => h.1⟩
end
mutual
/-- Same -/
def Ty.same : Ty → Ty → Bool
  | .mk k r l, .mk k2 r2 l2 => decide (k = k2) && decide (r = r2) && Tys.same l l2
def Tys.same : List Ty → List Ty → Bool
  | [], [] => true
  | x :: l, y :: m => x.same y && Tys.same l m
  | [], _ :: _ => false
  | _ :: _, [] => false
end
mutual
theorem Ty.same_iff : ∀ (t u : Ty), t.same u = true ↔ t = u
  | .mk k r l, .mk k2 r2 l2 => by
    rw [Ty.same, Bool.and_eq_true, Bool.and_eq_true, Tys.same_iff l l2]
    simp only [decide_eq_true_eq, Ty.mk.injEq, and_assoc]
theorem Tys.same_iff : ∀ (l m : List Ty), Tys.same l m = true ↔ l = m
  | [], [] => by simp [Tys.same]
  | x :: l, y :: m => by rw [Tys.same, Bool.and_eq_true, Ty.same_iff x y, Tys.same_iff l m]; simp
  | [], _ :: _ => by simp [Tys.same]
  | _ :: _, [] => by simp [Tys.same]
end
instance : DecidableEq Ty := fun t u => decidable_of_iff _ (Ty.same_iff t u)
mutual
/-- wrong, typeFault -/
def Ty.wrong (fields : Nat) : Ty → Int → Int
  | .mk k r l, regs =>
    if k < 1 ∨ 4 < k then 3 else if k = 1 ∧ r ≠ 0 ∨ k ≠ 3 ∧ 0 < l.length then 4 else if fields < l.length then 2 else if k ≠ 1 ∧ (r < 0 ∨ regs ≤ r) then 1 else Tys.wrong fields l regs
def Tys.wrong (fields : Nat) : List Ty → Int → Int
  | [], _ => 0
  | x :: l, regs => if x.wrong fields regs ≠ 0 then x.wrong fields regs else Tys.wrong fields l regs
end
mutual
/-- Rename -/
def Ty.ren : Ty → List Int → Option Ty
  | .mk k r l, to => if k ≠ 1 ∧ (r < 0 ∨ (to.length : Int) ≤ r ∨ to.getD r.toNat 0 < 0) then none else
    match Tys.ren l to with
    | none => none
    | some m => some (.mk k (if k ≠ 1 then to.getD r.toNat 0 else r) m)
def Tys.ren : List Ty → List Int → Option (List Ty)
  | [], _ => some []
  | x :: l, to => match x.ren to with
    | none => none
    | some y => match Tys.ren l to with
      | none => none
      | some m => some (y :: m)
end
mutual
/-- Two renamings one behind the other are one. -/
theorem Ty.ren_ren {f g h : List Int} (hfg : ∀ i : Nat, i < f.length → 0 ≤ f.getD i 0 ∧ f.getD i 0 < g.length ∧ 0 ≤ g.getD (f.getD i 0).toNat 0 ∧ i < h.length ∧ h.getD i 0 = g.getD (f.getD i 0).toNat 0) :
    ∀ (t u : Ty), t.ren f = some u → ∃ v, u.ren g = some v ∧ t.ren h = some v
  | .mk k r l, u, ht => by
    rw [Ty.ren] at ht
    split at ht
    · cases ht
    · rename_i hc
      cases hl : Tys.ren l f with
      | none => rw [hl] at ht; cases ht
      | some m =>
        rw [hl] at ht
        simp only [Option.some.injEq] at ht
        obtain ⟨m2, h1, h2⟩ := Tys.ren_ren hfg l m hl
        subst ht
        by_cases hk : k = 1
        · refine ⟨.mk k r m2, ?_, ?_⟩
          · rw [Ty.ren, if_neg (by omega), h1]; simp [hk]
          · rw [Ty.ren, if_neg (by omega), h2]; simp [hk]
        · have := hfg r.toNat (by omega)
          refine ⟨.mk k (g.getD (f.getD r.toNat 0).toNat 0) m2, ?_, ?_⟩
          · rw [Ty.ren, if_pos hk, if_neg (by omega), h1]; simp [hk]
          · rw [Ty.ren, if_neg (by omega), h2]; simp only [if_pos hk, this.2.2.2.2]
theorem Tys.ren_ren {f g h : List Int} (hfg : ∀ i : Nat, i < f.length → 0 ≤ f.getD i 0 ∧ f.getD i 0 < g.length ∧ 0 ≤ g.getD (f.getD i 0).toNat 0 ∧ i < h.length ∧ h.getD i 0 = g.getD (f.getD i 0).toNat 0) :
    ∀ (t u : List Ty), Tys.ren t f = some u → ∃ v, Tys.ren u g = some v ∧ Tys.ren t h = some v
  | [], u, ht => by rw [Tys.ren] at ht; cases ht; exact ⟨[], by rw [Tys.ren], by rw [Tys.ren]⟩
  | x :: l, u, ht => by
    rw [Tys.ren] at ht
    cases hx : x.ren f with
    | none => rw [hx] at ht; cases ht
    | some y =>
      rw [hx] at ht
      cases hl : Tys.ren l f with
      | none => rw [hl] at ht; cases ht
      | some m =>
        rw [hl] at ht
        simp only [Option.some.injEq] at ht
        subst ht
        obtain ⟨y2, a1, a2⟩ := Ty.ren_ren hfg x y hx
        obtain ⟨m2, b1, b2⟩ := Tys.ren_ren hfg l m hl
        exact ⟨y2 :: m2, by rw [Tys.ren, a1, b1], by rw [Tys.ren, a2, b2]⟩
end
mutual
/-- What is renamed is as right as it was, if the renaming stays below the number of regions. -/
theorem Ty.ren_wrong {fields : Nat} {f : List Int} (hf : ∀ i : Nat, i < f.length → 0 ≤ f.getD i 0 ∧ f.getD i 0 < f.length) : ∀ (t u : Ty), t.ren f = some u → u.wrong fields f.length = t.wrong fields f.length
  | .mk k r l, u, ht => by
    rw [Ty.ren] at ht
    split at ht
    · cases ht
    · rename_i hc
      cases hl : Tys.ren l f with
      | none => rw [hl] at ht; cases ht
      | some m =>
        rw [hl] at ht
        simp only [Option.some.injEq] at ht
        subst ht
        obtain ⟨h1, h2⟩ := Tys.ren_wrong (fields := fields) hf l m hl
        by_cases hk : k = 1
        · rw [Ty.wrong, Ty.wrong, h1, h2]; simp [hk]
        · have := hf r.toNat (by omega)
          rw [Ty.wrong, Ty.wrong, h1, h2]
          simp only [if_pos hk]
          rw [if_neg (show ¬ (k ≠ 1 ∧ (f.getD r.toNat 0 < 0 ∨ (f.length : Int) ≤ f.getD r.toNat 0)) by omega), if_neg (show ¬ (k ≠ 1 ∧ (r < 0 ∨ (f.length : Int) ≤ r)) by omega)]
          simp [hk]
theorem Tys.ren_wrong {fields : Nat} {f : List Int} (hf : ∀ i : Nat, i < f.length → 0 ≤ f.getD i 0 ∧ f.getD i 0 < f.length) : ∀ (t u : List Ty), Tys.ren t f = some u → u.length = t.length ∧ Tys.wrong fields u f.length = Tys.wrong fields t f.length
  | [], u, ht => by rw [Tys.ren] at ht; cases ht; exact ⟨rfl, rfl⟩
  | x :: l, u, ht => by
    rw [Tys.ren] at ht
    cases hx : x.ren f with
    | none => rw [hx] at ht; cases ht
    | some y =>
      rw [hx] at ht
      cases hl : Tys.ren l f with
      | none => rw [hl] at ht; cases ht
      | some m =>
        rw [hl] at ht
        simp only [Option.some.injEq] at ht
        subst ht
        obtain ⟨h1, h2⟩ := Tys.ren_wrong (fields := fields) hf l m hl
        exact ⟨by simp [h1], by rw [Tys.wrong, Tys.wrong, Ty.ren_wrong hf x y hx, h2]⟩
end
mutual
/-- What cannot be renamed is wrong. -/
theorem Ty.ren_none {fields : Nat} {f : List Int} (hf : ∀ i : Nat, i < f.length → 0 ≤ f.getD i 0) : ∀ (t : Ty), t.ren f = none → t.wrong fields f.length ≠ 0
  | .mk k r l, ht => by
    rw [Ty.wrong]
    rw [Ty.ren] at ht
    split
    · decide
    · split
      · decide
      · split
        · decide
        · split
          · decide
          · rename_i h1 h2 h3 h4
            have hc : ¬ (k ≠ 1 ∧ (r < 0 ∨ (f.length : Int) ≤ r ∨ f.getD r.toNat 0 < 0)) := by
              rintro ⟨a, b⟩
              have := hf r.toNat
              omega
            rw [if_neg hc] at ht
            cases hl : Tys.ren l f with
            | none => exact Tys.ren_none hf l hl
            | some m => rw [hl] at ht; cases ht
theorem Tys.ren_none {fields : Nat} {f : List Int} (hf : ∀ i : Nat, i < f.length → 0 ≤ f.getD i 0) : ∀ (t : List Ty), Tys.ren t f = none → Tys.wrong fields t f.length ≠ 0
  | [], ht => by rw [Tys.ren] at ht; cases ht
  | x :: l, ht => by
    rw [Tys.ren] at ht
    rw [Tys.wrong]
    split
    · rename_i h; exact h
    · rename_i h
      cases hx : x.ren f with
      | none => exact absurd hx (fun hx => h (Ty.ren_none hf x hx))
      | some y =>
        rw [hx] at ht
        cases hl : Tys.ren l f with
        | none => exact Tys.ren_none hf l hl
        | some m => rw [hl] at ht; cases ht
end
mutual
theorem Ty.ren_deep {f : List Int} : ∀ (t u : Ty) (left : Int), t.ren f = some u → u.deepB left = t.deepB left
  | .mk k r l, u, left, ht => by
    rw [Ty.ren] at ht
    split at ht
    · cases ht
    · cases hl : Tys.ren l f with
      | none => rw [hl] at ht; cases ht
      | some m =>
        rw [hl] at ht
        simp only [Option.some.injEq] at ht
        subst ht
        rw [Ty.deepB, Ty.deepB, Tys.ren_deep l m (left - 1) hl]
theorem Tys.ren_deep {f : List Int} : ∀ (t u : List Ty) (left : Int), Tys.ren t f = some u → Tys.deepB u left = Tys.deepB t left
  | [], u, _, ht => by rw [Tys.ren] at ht; cases ht; rfl
  | x :: l, u, left, ht => by
    rw [Tys.ren] at ht
    cases hx : x.ren f with
    | none => rw [hx] at ht; cases ht
    | some y =>
      rw [hx] at ht
      cases hl : Tys.ren l f with
      | none => rw [hl] at ht; cases ht
      | some m =>
        rw [hl] at ht
        simp only [Option.some.injEq] at ht
        subst ht
        rw [Tys.deepB, Tys.deepB, Ty.ren_deep x y left hx, Tys.ren_deep l m left hl]
end
mutual
/-- The renaming that leaves all as it is. -/
theorem Ty.ren_id {f : List Int} (hf : ∀ i : Nat, i < f.length → f.getD i 0 = i) : ∀ (t u : Ty), t.ren f = some u → u = t
  | .mk k r l, u, ht => by
    rw [Ty.ren] at ht
    split at ht
    · cases ht
    · rename_i hc
      cases hl : Tys.ren l f with
      | none => rw [hl] at ht; cases ht
      | some m =>
        rw [hl] at ht
        simp only [Option.some.injEq] at ht
        subst ht
        rw [Tys.ren_id hf l m hl]
        by_cases hk : k = 1
        · simp [hk]
        · have := hf r.toNat (by omega)
          rw [if_pos hk, this, Int.toNat_of_nonneg (by omega)]
theorem Tys.ren_id {f : List Int} (hf : ∀ i : Nat, i < f.length → f.getD i 0 = i) : ∀ (t u : List Ty), Tys.ren t f = some u → u = t
  | [], u, ht => by rw [Tys.ren] at ht; cases ht; rfl
  | x :: l, u, ht => by
    rw [Tys.ren] at ht
    cases hx : x.ren f with
    | none => rw [hx] at ht; cases ht
    | some y =>
      rw [hx] at ht
      cases hl : Tys.ren l f with
      | none => rw [hl] at ht; cases ht
      | some m =>
        rw [hl] at ht
        simp only [Option.some.injEq] at ht
        subst ht
        rw [Ty.ren_id hf x y hx, Tys.ren_id hf l m hl]
end
/-- By the parts. -/
theorem Ty.ind {p : Ty → Prop} (h : ∀ k r l, (∀ x ∈ l, p x) → p (.mk k r l)) : ∀ t, p t
  | .mk k r l => h k r l fun x hx => Ty.ind h x
termination_by t => SizeOf.sizeOf t
decreasing_by
  have := List.sizeOf_lt_of_mem hx
  simp only [Ty.mk.sizeOf_spec]
  omega
mutual
theorem Ty.size_rng : ∀ (t : Ty) {left : Int}, 0 ≤ left → -1 ≤ t.size left ∧ t.size left < left
  | .mk _ _ l, left, h => by
    rw [Ty.size]
    have := Tys.size_rng l (left := left - 1) (by omega)
    omega
theorem Tys.size_rng : ∀ (l : List Ty) {left : Int}, -1 ≤ left → -1 ≤ Tys.size l left ∧ Tys.size l left ≤ left
  | [], left, h => by rw [Tys.size]; omega
  | x :: l, left, h => by
    rw [Tys.size]
    split
    · rename_i h0
      have h1 := Ty.size_rng x h0
      have h2 := Tys.size_rng l (left := x.size left) h1.1
      omega
    · omega
end
mutual
theorem Ty.size_mono : ∀ (t : Ty) {a b : Int}, a ≤ b → -1 ≤ a → t.size a ≤ t.size b
  | .mk _ _ l, a, b, h, ha => by
    rw [Ty.size, Ty.size]
    by_cases h0 : 0 ≤ a
    · exact Tys.size_mono l (by omega) (by omega)
    · rw [Tys.size_neg l (by omega)]
      by_cases hb : 0 ≤ b
      · have := Tys.size_rng l (left := b - 1) (by omega); omega
      · rw [Tys.size_neg l (by omega)]; omega
theorem Tys.size_mono : ∀ (l : List Ty) {a b : Int}, a ≤ b → -1 ≤ a → Tys.size l a ≤ Tys.size l b
  | [], a, b, h, _ => by rw [Tys.size, Tys.size]; exact h
  | x :: l, a, b, h, ha => by
    by_cases h0 : 0 ≤ a
    · rw [Tys.size, Tys.size, if_pos h0, if_pos (by omega)]
      exact Tys.size_mono l (Ty.size_mono x h ha) (Ty.size_rng x h0).1
    · rw [Tys.size_neg _ (by omega)]
      have := Tys.size_rng (x :: l) (left := b) (by omega); omega
end
/-- What is not too great has few parts, and none of them is too great. -/
theorem Tys.size_len : ∀ (l : List Ty) {left : Int}, 0 ≤ Tys.size l left → -1 ≤ left → (l.length : Int) ≤ left ∧ ∀ x ∈ l, 0 ≤ x.size left
  | [], left, h, _ => by rw [Tys.size] at h; simp; exact h
  | x :: l, left, h, hl => by
    rw [Tys.size] at h
    split at h
    · rename_i h0
      have h1 := Ty.size_rng x h0
      have h2 := Tys.size_len l h h1.1
      have h3 := Tys.size_rng l (left := x.size left) h1.1
      refine ⟨by simp only [List.length_cons]; omega, fun y hy => ?_⟩
      rcases List.mem_cons.1 hy with rfl | hy
      · omega
      · exact Int.le_trans (h2.2 y hy) (Ty.size_mono y (by omega) h1.1)
    · omega
/-- Check, TypeFault -/
def Ty.fault (t : Ty) (regs : Int) : Int := if t.deepB 4 = false then 19 else t.wrong 8 regs
mutual
theorem Ty.depth_rng : ∀ (t : Ty) {most : Int}, 0 ≤ most → 0 ≤ t.depth most ∧ t.depth most ≤ most + 1
  | .mk _ _ l, most, h => by
    rw [Ty.depth]
    exact Tys.depth_rng l h (by omega) (by omega)
theorem Tys.depth_rng : ∀ (l : List Ty) {most n : Int}, 0 ≤ most → 0 ≤ n → n ≤ most + 1 → 0 ≤ Tys.depth l most n ∧ Tys.depth l most n ≤ most + 1
  | [], most, n, _, h1, h2 => by rw [Tys.depth]; omega
  | x :: l, most, n, h, h1, h2 => by
    rw [Tys.depth]
    split
    · split
      · omega
      · have := Ty.depth_rng x (most := most - 1) (by omega)
        exact Tys.depth_rng l h (by split <;> omega) (by split <;> omega)
    · omega
end
/-- No list of parts is long. -/
inductive Ty.Short : Ty → Prop where
  | mk {k r : Int} {l : List Ty} : l.length ≤ 100000 → (∀ x ∈ l, x.Short) → Ty.Short (.mk k r l)
theorem Ty.Short.parts {k r : Int} {l : List Ty} (h : (Ty.mk k r l).Short) : l.length ≤ 100000 ∧ ∀ x ∈ l, x.Short := by
  cases h with | mk h1 h2 => exact ⟨h1, h2⟩
theorem Ty.short_of_size : ∀ (t : Ty) {n : Int}, n ≤ 100000 → 0 ≤ n → 0 ≤ t.size n → t.Short := by
  intro t
  induction t using Ty.ind with
  | h k r l ih =>
    intro n h1 h0 h
    rw [Ty.size] at h
    obtain ⟨h2, h3⟩ := Tys.size_len l h (by omega)
    refine .mk (by omega) fun x hx => ?_
    have hp := h3 x hx
    have hl := List.length_pos_of_mem hx
    exact ih x hx (n := n - 1) (by omega) (by omega) hp
/-- GreatType, greatTypes -/
def Ty.great (t : Ty) : Bool := decide (t.size 2000 < 0)
def Tys.great (l : List Ty) : Bool := decide (200 < l.length) || l.any Ty.great
theorem Ty.short_of_great {t : Ty} (h : t.great = false) : t.Short := Ty.short_of_size t (n := 2000) (by omega) (by omega) (by unfold Ty.great at h; simp at h; exact h)
theorem Tys.short_of_great {l : List Ty} (h : Tys.great l = false) : l.length ≤ 200 ∧ ∀ x ∈ l, x.Short := by
  unfold Tys.great at h
  rw [Bool.or_eq_false_iff] at h
  refine ⟨by have := of_decide_eq_false h.1; omega, fun x hx => Ty.short_of_great ?_⟩
  cases hg : x.great with
  | false => rfl
  | true => have := List.any_eq_true.2 ⟨x, hx, hg⟩; rw [h.2] at this; cases this
end Go.Lir
namespace Go.Lir
structure Ins where
  op : Int
  a : Int
  b : Int
  c : Int
  k : Int
  n : Int
  regs : List Int
  args : List Int
structure To where
  block : Int
  regs : List Int
  args : List Int
structure Tail where
  op : Int
  a : Int
  yes : To
  no : To
  args : List Int
structure Block where
  regs : Int
  params : List Ty
  code : List Ins
  fin : Tail
deriving instance DecidableEq for Ins
deriving instance DecidableEq for To
deriving instance DecidableEq for Tail
deriving instance DecidableEq for Block
structure Fun where
  regs : Int
  params : List Ty
  results : List Ty
  blocks : List Block
structure Module where
  funcs : List Fun
deriving instance DecidableEq for Fun
deriving instance DecidableEq for Module

/-! ### no list is long -/
def Ins.Short (x : Ins) : Prop := x.regs.length ≤ 100000 ∧ x.args.length ≤ 100000
def To.Short (x : To) : Prop := x.regs.length ≤ 100000 ∧ x.args.length ≤ 100000
def Tail.Short (x : Tail) : Prop := x.yes.Short ∧ x.no.Short ∧ x.args.length ≤ 100000
def Tys.Short (l : List Ty) : Prop := l.length ≤ 100000 ∧ ∀ t ∈ l, t.Short
def Block.Short (x : Block) : Prop := Tys.Short x.params ∧ x.code.length ≤ 100000 ∧ (∀ i ∈ x.code, i.Short) ∧ x.fin.Short
def Fun.Short (x : Fun) : Prop := Tys.Short x.params ∧ Tys.Short x.results ∧ x.blocks.length ≤ 100000 ∧ ∀ b ∈ x.blocks, b.Short
def Module.Short (x : Module) : Prop := x.funcs.length ≤ 100000 ∧ ∀ f ∈ x.funcs, f.Short
theorem Tys.Short.of_great {l : List Ty} (h : Tys.great l = false) : Tys.Short l := by
  have := Tys.short_of_great h
  exact ⟨by omega, this.2⟩
theorem Qe8 {α : Type} {l : List α} {p : α → Prop} {j : Nat} {x : α} (h : ∀ y ∈ l.take j, p y) (hx : l[j]? = some x) (hp : p x) : ∀ y ∈ l.take (j + 1), p y := by
  intro y hy
  rw [List.take_add_one, hx] at hy
  rcases List.mem_append.1 hy with hy | hy
  · exact h y hy
  · simp at hy; subst hy; exact hp
theorem Qe7 {α : Type} {l : List α} {p : α → Prop} {j : Nat} (h : ∀ y ∈ l.take j, p y) (hj : l.length ≤ j) : ∀ y ∈ l, p y := by
  rw [List.take_of_length_le hj] at h; exact h
def insR : Rep Ins where
  es := 8
  pos := by decide
  R := fun H K cs x => ∃ vr va, cs = [.int .i64 x.op, .int .i64 x.a, .int .i64 x.b, .int .i64 x.c, .int .i64 x.k, .int .i64 x.n, vr, va] ∧ intR.SR H K vr x.regs ∧ intR.SR H K va x.args
  len := by rintro _ _ _ _ ⟨vr, va, rfl, _⟩; rfl
  one := by
    rintro _ _ _ _ ⟨vr, va, rfl, h1, h2⟩ u hu
    simp at hu
    rcases hu with rfl | rfl | rfl | rfl | rfl | rfl | rfl | rfl <;> first | rfl | exact h1.oneC | exact h2.oneC
  turn := by rintro _ _ _ _ _ _ ⟨vr, va, rfl, h1, h2⟩ hs; exact ⟨vr, va, rfl, h1.turn hs, h2.turn hs⟩
def toR : Rep To where
  es := 3
  pos := by decide
  R := fun H K cs x => ∃ vr va, cs = [.int .i64 x.block, vr, va] ∧ intR.SR H K vr x.regs ∧ intR.SR H K va x.args
  len := by rintro _ _ _ _ ⟨vr, va, rfl, _⟩; rfl
  one := by
    rintro _ _ _ _ ⟨vr, va, rfl, h1, h2⟩ u hu
    simp at hu
    rcases hu with rfl | rfl | rfl <;> first | rfl | exact h1.oneC | exact h2.oneC
  turn := by rintro _ _ _ _ _ _ ⟨vr, va, rfl, h1, h2⟩ hs; exact ⟨vr, va, rfl, h1.turn hs, h2.turn hs⟩
def endR : Rep Tail where
  es := 9
  pos := by decide
  R := fun H K cs x => ∃ v1 v2 v3 v4 v5, cs = [.int .i64 x.op, .int .i64 x.a, .int .i64 x.yes.block, v1, v2, .int .i64 x.no.block, v3, v4, v5] ∧ intR.SR H K v1 x.yes.regs ∧ intR.SR H K v2 x.yes.args ∧ intR.SR H K v3 x.no.regs ∧ intR.SR H K v4 x.no.args ∧ intR.SR H K v5 x.args
  len := by rintro _ _ _ _ ⟨_, _, _, _, _, rfl, _⟩; rfl
  one := by
    rintro _ _ _ _ ⟨_, _, _, _, _, rfl, h1, h2, h3, h4, h5⟩ u hu
    simp at hu
    rcases hu with rfl | rfl | rfl | rfl | rfl | rfl | rfl | rfl | rfl <;> first | rfl | exact h1.oneC | exact h2.oneC | exact h3.oneC | exact h4.oneC | exact h5.oneC
  turn := by rintro _ _ _ _ _ _ ⟨_, _, _, _, _, rfl, h1, h2, h3, h4, h5⟩ hs; exact ⟨_, _, _, _, _, rfl, h1.turn hs, h2.turn hs, h3.turn hs, h4.turn hs, h5.turn hs⟩
def blockR : Rep Block where
  es := 12
  pos := by decide
  R := fun H K cs x => ∃ vp vc ce, cs = .int .i64 x.regs :: vp :: vc :: ce ∧ tyR.SR H K vp x.params ∧ insR.SR H K vc x.code ∧ endR.R H K ce x.fin
  len := by rintro _ _ _ _ ⟨_, _, ce, rfl, _, _, h⟩; have := endR.len h; simp [this, endR]
  one := by
    rintro _ _ _ _ ⟨_, _, ce, rfl, h1, h2, h3⟩ u hu
    simp at hu
    rcases hu with rfl | rfl | rfl | hu
    · rfl
    · exact h1.oneC
    · exact h2.oneC
    · exact endR.one h3 u hu
  turn := by rintro _ _ _ _ _ _ ⟨_, _, _, rfl, h1, h2, h3⟩ hs; exact ⟨_, _, _, rfl, h1.turn hs, h2.turn hs, endR.turn h3 hs⟩
def funcR : Rep Fun where
  es := 4
  pos := by decide
  R := fun H K cs x => ∃ vp vr vb, cs = [.int .i64 x.regs, vp, vr, vb] ∧ tyR.SR H K vp x.params ∧ tyR.SR H K vr x.results ∧ blockR.SR H K vb x.blocks
  len := by rintro _ _ _ _ ⟨_, _, _, rfl, _⟩; rfl
  one := by
    rintro _ _ _ _ ⟨_, _, _, rfl, h1, h2, h3⟩ u hu
    simp at hu
    rcases hu with rfl | rfl | rfl | rfl <;> first | rfl | exact h1.oneC | exact h2.oneC | exact h3.oneC
  turn := by rintro _ _ _ _ _ _ ⟨_, _, _, rfl, h1, h2, h3⟩ hs; exact ⟨_, _, _, rfl, h1.turn hs, h2.turn hs, h3.turn hs⟩
def modR : Rep Module where
  es := 1
  pos := by decide
  R := fun H K cs x => ∃ vf, cs = [vf] ∧ funcR.SR H K vf x.funcs
  len := by rintro _ _ _ _ ⟨_, rfl, _⟩; rfl
  one := by
    rintro _ _ _ _ ⟨_, rfl, h1⟩ u hu
    simp at hu; subst hu; exact h1.oneC
  turn := by rintro _ _ _ _ _ _ ⟨_, rfl, h1⟩ hs; exact ⟨_, rfl, h1.turn hs⟩

theorem Q2T {c : Cx} {cs : List Value} {x : Ins} (h : insR.at c cs x) : ∃ vr va, cs = [.int .i64 x.op, .int .i64 x.a, .int .i64 x.b, .int .i64 x.c, .int .i64 x.k, .int .i64 x.n, vr, va] ∧ intR.sl c vr x.regs ∧ intR.sl c va x.args := h
theorem Qer {c : Cx} {cs : List Value} {x : To} (h : toR.at c cs x) : ∃ vr va, cs = [.int .i64 x.block, vr, va] ∧ intR.sl c vr x.regs ∧ intR.sl c va x.args := h
theorem Qe5 {c : Cx} {cs : List Value} {x : Tail} (h : endR.at c cs x) : ∃ v1 v2 v3 v4 v5, cs = [.int .i64 x.op, .int .i64 x.a, .int .i64 x.yes.block, v1, v2, .int .i64 x.no.block, v3, v4, v5] ∧ intR.sl c v1 x.yes.regs ∧ intR.sl c v2 x.yes.args ∧ intR.sl c v3 x.no.regs ∧ intR.sl c v4 x.no.args ∧ intR.sl c v5 x.args := h
theorem Q3m {c : Cx} {cs : List Value} {x : Block} (h : blockR.at c cs x) : ∃ vp vc v1 v2 v3 v4 v5, cs = [.int .i64 x.regs, vp, vc, .int .i64 x.fin.op, .int .i64 x.fin.a, .int .i64 x.fin.yes.block, v1, v2, .int .i64 x.fin.no.block, v3, v4, v5] ∧ tyR.sl c vp x.params ∧ insR.sl c vc x.code ∧ intR.sl c v1 x.fin.yes.regs ∧ intR.sl c v2 x.fin.yes.args ∧ intR.sl c v3 x.fin.no.regs ∧ intR.sl c v4 x.fin.no.args ∧ intR.sl c v5 x.fin.args := by
  obtain ⟨vp, vc, ce, rfl, h1, h2, v1, v2, v3, v4, v5, rfl, h3⟩ := h
  exact ⟨vp, vc, v1, v2, v3, v4, v5, rfl, h1, h2, h3⟩
theorem Qfm {c : Cx} {x : Block} {vp vc v1 v2 v3 v4 v5 : Value} (h1 : tyR.sl c vp x.params) (h2 : insR.sl c vc x.code) (h3 : intR.sl c v1 x.fin.yes.regs) (h4 : intR.sl c v2 x.fin.yes.args) (h5 : intR.sl c v3 x.fin.no.regs) (h6 : intR.sl c v4 x.fin.no.args) (h7 : intR.sl c v5 x.fin.args) :
    blockR.at c [.int .i64 x.regs, vp, vc, .int .i64 x.fin.op, .int .i64 x.fin.a, .int .i64 x.fin.yes.block, v1, v2, .int .i64 x.fin.no.block, v3, v4, v5] x := ⟨vp, vc, _, rfl, h1, h2, v1, v2, v3, v4, v5, rfl, h3, h4, h5, h6, h7⟩
theorem QW {c : Cx} {cs : List Value} {x : Fun} (h : funcR.at c cs x) : ∃ vp vr vb, cs = [.int .i64 x.regs, vp, vr, vb] ∧ tyR.sl c vp x.params ∧ tyR.sl c vr x.results ∧ blockR.sl c vb x.blocks := h
theorem Q2e {c : Cx} {cs : List Value} {x : Module} (h : modR.at c cs x) : ∃ vf, cs = [vf] ∧ funcR.sl c vf x.funcs := h

/-! ### codecs -/
section
variable {P : Program} {T : TypeId}
/-- A field as a kind of data. -/
theorem Cod.Of.part {α : Type} {r : Rep α} (c : Cod.Of P T r) {H : Heap} {cs : List Value} {x : α} (h : c.cod.rd H cs x) : r.R H (· < H.size) cs x := c.rd _ _ _ h
def Cod.Of.to {TI TL : TypeId} (ci : Cod.Of P TI intR) (cl : Cod.Of P TL intR.list) (h0 : fieldAt P T 0 = some (0, 1, TI)) (h1 : fieldAt P T 1 = some (1, 1, TL)) (h2 : fieldAt P T 2 = some (2, 1, TL)) (hT : P.cellsOf T = 3) : Cod.Of P T toR :=
  Cod.of (Fld.cod (Fld.more ci.cod h0 (Fld.more cl.cod h1 (Fld.more cl.cod h2 Fld.none))) h0 3 hT) toR rfl fun H cs x h => by
    obtain ⟨hl, g0, g1, g2, _⟩ := h
    match cs, hl with
    | [a, b, c], _ =>
      have e0 : [a] = [_] := ci.part g0
      obtain ⟨v1, e1, s1⟩ := cl.part g1
      obtain ⟨v2, e2, s2⟩ := cl.part g2
      replace e1 : [b] = [v1] := e1
      replace e2 : [c] = [v2] := e2
      simp only [List.cons.injEq, and_true] at e0 e1 e2
      subst e0 e1 e2
      exact ⟨⟨x.1, x.2.1, x.2.2.1⟩, b, c, rfl, s1, s2⟩
def Cod.Of.ins {TI TL TN : TypeId} (ci : Cod.Of P TI intR) (cn : Cod.Of P TN intR) (cl : Cod.Of P TL intR.list) (h0 : fieldAt P T 0 = some (0, 1, TI)) (h1 : fieldAt P T 1 = some (1, 1, TI)) (h2 : fieldAt P T 2 = some (2, 1, TI)) (h3 : fieldAt P T 3 = some (3, 1, TI)) (h4 : fieldAt P T 4 = some (4, 1, TI)) (h5 : fieldAt P T 5 = some (5, 1, TN)) (h6 : fieldAt P T 6 = some (6, 1, TL)) (h7 : fieldAt P T 7 = some (7, 1, TL)) (hT : P.cellsOf T = 8) : Cod.Of P T insR :=
  Cod.of (Fld.cod (Fld.more ci.cod h0 (Fld.more ci.cod h1 (Fld.more ci.cod h2 (Fld.more ci.cod h3 (Fld.more ci.cod h4 (Fld.more cn.cod h5 (Fld.more cl.cod h6 (Fld.more cl.cod h7 Fld.none)))))))) h0 8 hT) insR rfl fun H cs x h => by
    obtain ⟨hl, g0, g1, g2, g3, g4, g5, g6, g7, _⟩ := h
    match cs, hl with
    | [a0, a1, a2, a3, a4, a5, a6, a7], _ =>
      have e0 : [a0] = [_] := ci.part g0
      have e1 : [a1] = [_] := ci.part g1
      have e2 : [a2] = [_] := ci.part g2
      have e3 : [a3] = [_] := ci.part g3
      have e4 : [a4] = [_] := ci.part g4
      have e5 : [a5] = [_] := cn.part g5
      obtain ⟨v1, e6, s1⟩ := cl.part g6
      obtain ⟨v2, e7, s2⟩ := cl.part g7
      replace e6 : [a6] = [v1] := e6
      replace e7 : [a7] = [v2] := e7
      simp only [List.cons.injEq, and_true] at e0 e1 e2 e3 e4 e5 e6 e7
      subst e0 e1 e2 e3 e4 e5 e6 e7
      exact ⟨⟨x.1, x.2.1, x.2.2.1, x.2.2.2.1, x.2.2.2.2.1, x.2.2.2.2.2.1, x.2.2.2.2.2.2.1, x.2.2.2.2.2.2.2.1⟩, _, _, rfl, s1, s2⟩
def Cod.Of.endp {TI TL TT : TypeId} (ci : Cod.Of P TI intR) (cl : Cod.Of P TL intR.list) (ct : Cod.Of P TT toR) (h0 : fieldAt P T 0 = some (0, 1, TI)) (h1 : fieldAt P T 1 = some (1, 1, TI)) (h2 : fieldAt P T 2 = some (2, 3, TT)) (h3 : fieldAt P T 3 = some (5, 3, TT)) (h4 : fieldAt P T 4 = some (8, 1, TL)) (hT : P.cellsOf T = 9) : Cod.Of P T endR :=
  Cod.of (Fld.cod (Fld.more ci.cod h0 (Fld.more ci.cod h1 (Fld.more ct.cod h2 (Fld.more ct.cod h3 (Fld.more cl.cod h4 Fld.none))))) h0 9 hT) endR rfl fun H cs x h => by
    obtain ⟨hl, g0, g1, g2, g3, g4, _⟩ := h
    match cs, hl with
    | [a0, a1, a2, a3, a4, a5, a6, a7, a8], _ =>
      have e0 : [a0] = [_] := ci.part g0
      have e1 : [a1] = [_] := ci.part g1
      obtain ⟨v1, v2, e2, s1, s2⟩ := ct.part g2
      obtain ⟨v3, v4, e3, s3, s4⟩ := ct.part g3
      obtain ⟨v5, e4, s5⟩ := cl.part g4
      replace e2 : [a2, a3, a4] = _ := e2
      replace e3 : [a5, a6, a7] = _ := e3
      replace e4 : [a8] = _ := e4
      simp only [List.cons.injEq, and_true] at e0 e1 e2 e3 e4
      obtain ⟨q2, q3, q4⟩ := e2
      obtain ⟨q5, q6, q7⟩ := e3
      subst e0 e1 q2 q3 q4 q5 q6 q7 e4
      exact ⟨⟨x.1, x.2.1, x.2.2.1, x.2.2.2.1, x.2.2.2.2.1⟩, _, _, _, _, _, rfl, s1, s2, s3, s4, s5⟩
def Cod.Of.block {TI TL TC TE : TypeId} (ci : Cod.Of P TI intR) (cl : Cod.Of P TL tyR.list) (cc : Cod.Of P TC insR.list) (ce : Cod.Of P TE endR) (h0 : fieldAt P T 0 = some (0, 1, TI)) (h1 : fieldAt P T 1 = some (1, 1, TL)) (h2 : fieldAt P T 2 = some (2, 1, TC)) (h3 : fieldAt P T 3 = some (3, 9, TE)) (hT : P.cellsOf T = 12) : Cod.Of P T blockR :=
  Cod.of (Fld.cod (Fld.more ci.cod h0 (Fld.more cl.cod h1 (Fld.more cc.cod h2 (Fld.more ce.cod h3 Fld.none)))) h0 12 hT) blockR rfl fun H cs x h => by
    obtain ⟨hl, g0, g1, g2, g3, _⟩ := h
    match cs, hl with
    | [a0, a1, a2, a3, a4, a5, a6, a7, a8, a9, a10, a11], _ =>
      have e0 : [a0] = [_] := ci.part g0
      obtain ⟨v1, e1, s1⟩ := cl.part g1
      obtain ⟨v2, e2, s2⟩ := cc.part g2
      have s3 := ce.part g3
      replace e1 : [a1] = _ := e1
      replace e2 : [a2] = _ := e2
      replace s3 : endR.R H (· < H.size) [a3, a4, a5, a6, a7, a8, a9, a10, a11] x.2.2.2.1 := s3
      simp only [List.cons.injEq, and_true] at e0 e1 e2
      subst e0 e1 e2
      exact ⟨⟨x.1, x.2.1, x.2.2.1, x.2.2.2.1⟩, _, _, _, rfl, s1, s2, s3⟩
def Cod.Of.func {TI TL TB : TypeId} (ci : Cod.Of P TI intR) (cl : Cod.Of P TL tyR.list) (cb : Cod.Of P TB blockR.list) (h0 : fieldAt P T 0 = some (0, 1, TI)) (h1 : fieldAt P T 1 = some (1, 1, TL)) (h2 : fieldAt P T 2 = some (2, 1, TL)) (h3 : fieldAt P T 3 = some (3, 1, TB)) (hT : P.cellsOf T = 4) : Cod.Of P T funcR :=
  Cod.of (Fld.cod (Fld.more ci.cod h0 (Fld.more cl.cod h1 (Fld.more cl.cod h2 (Fld.more cb.cod h3 Fld.none)))) h0 4 hT) funcR rfl fun H cs x h => by
    obtain ⟨hl, g0, g1, g2, g3, _⟩ := h
    match cs, hl with
    | [a0, a1, a2, a3], _ =>
      have e0 : [a0] = [_] := ci.part g0
      obtain ⟨v1, e1, s1⟩ := cl.part g1
      obtain ⟨v2, e2, s2⟩ := cl.part g2
      obtain ⟨v3, e3, s3⟩ := cb.part g3
      replace e1 : [a1] = _ := e1
      replace e2 : [a2] = _ := e2
      replace e3 : [a3] = _ := e3
      simp only [List.cons.injEq, and_true] at e0 e1 e2 e3
      subst e0 e1 e2 e3
      exact ⟨⟨x.1, x.2.1, x.2.2.1, x.2.2.2.1⟩, _, _, _, rfl, s1, s2, s3⟩
def Cod.Of.mod {TF : TypeId} (cf : Cod.Of P TF funcR.list) (h0 : fieldAt P T 0 = some (0, 1, TF)) (hT : P.cellsOf T = 1) : Cod.Of P T modR :=
  Cod.of (Fld.cod (Fld.more cf.cod h0 Fld.none) h0 1 hT) modR rfl fun H cs x h => by
    obtain ⟨hl, g0, _⟩ := h
    match cs, hl with
    | [a0], _ =>
      obtain ⟨v1, e1, s1⟩ := cf.part g0
      replace e1 : [a0] = _ := e1
      simp only [List.cons.injEq, and_true] at e1
      subst e1
      exact ⟨⟨x.1⟩, _, rfl, s1⟩
end
end Go.Lir
namespace Go.Proofs.Yteflkifmgnpbhaa
open Go.Lir
def cInt : Cod.Of Try.prog 3 intR := Cod.Of.int (by kernel_rfl) (by kernel_rfl)
def cLong : Cod.Of Try.prog 2 intR := Cod.Of.int (by kernel_rfl) (by kernel_rfl)
def cInts : Cod.Of Try.prog 40 intR.list := Cod.Of.list cInt (by kernel_rfl) (by kernel_rfl) (by kernel_rfl)
def cTy : Cod.Of Try.prog 62 tyR := Cod.Of.ty (TL := 44) (t0 := 3) (t1 := 3) (by kernel_rfl) (by kernel_rfl) (by kernel_rfl) (by kernel_rfl) (by kernel_rfl) (by kernel_rfl) (by kernel_rfl) (by kernel_rfl)
def cTys : Cod.Of Try.prog 44 tyR.list := Cod.Of.list cTy (by kernel_rfl) (by kernel_rfl) (by kernel_rfl)
def cIns : Cod.Of Try.prog 42 insR := Cod.Of.ins cInt cLong cInts (by kernel_rfl) (by kernel_rfl) (by kernel_rfl) (by kernel_rfl) (by kernel_rfl) (by kernel_rfl) (by kernel_rfl) (by kernel_rfl) (by kernel_rfl)
def cInss : Cod.Of Try.prog 43 insR.list := Cod.Of.list cIns (by kernel_rfl) (by kernel_rfl) (by kernel_rfl)
def cTo : Cod.Of Try.prog 46 toR := Cod.Of.to cInt cInts (by kernel_rfl) (by kernel_rfl) (by kernel_rfl) (by kernel_rfl)
def cEnd : Cod.Of Try.prog 48 endR := Cod.Of.endp cInt cInts cTo (by kernel_rfl) (by kernel_rfl) (by kernel_rfl) (by kernel_rfl) (by kernel_rfl) (by kernel_rfl)
def cBlock : Cod.Of Try.prog 50 blockR := Cod.Of.block cInt cTys cInss cEnd (by kernel_rfl) (by kernel_rfl) (by kernel_rfl) (by kernel_rfl) (by kernel_rfl)
def cBlocks : Cod.Of Try.prog 51 blockR.list := Cod.Of.list cBlock (by kernel_rfl) (by kernel_rfl) (by kernel_rfl)
def cFunc : Cod.Of Try.prog 53 funcR := Cod.Of.func cInt cTys cBlocks (by kernel_rfl) (by kernel_rfl) (by kernel_rfl) (by kernel_rfl) (by kernel_rfl)
def cFuncs : Cod.Of Try.prog 22 funcR.list := Cod.Of.list cFunc (by kernel_rfl) (by kernel_rfl) (by kernel_rfl)
def cMod : Cod.Of Try.prog 24 modR := Cod.Of.mod cFuncs (by kernel_rfl) (by kernel_rfl)
end Go.Proofs.Yteflkifmgnpbhaa
namespace Go.Lir
def Qit (b : UInt8) : List Value := [.int .u8 (b.toNat : Int)]
def u8R : Rep UInt8 := Rep.lit (fun b => .int .u8 (b.toNat : Int)) (fun _ => rfl)
theorem u8R_out {c : Cx} {cs : List Value} {b : UInt8} (h : u8R.at c cs b) : cs = [.int .u8 (b.toNat : Int)] := h
theorem u8R_ls {c : Cx} (l : List UInt8) : u8R.ls c (l.map Qit) l := ⟨by simp, fun m x hx => ⟨Qit x, by rw [List.getElem?_map, hx]; rfl, rfl⟩⟩
theorem Rep.LR.u8 {r : Rep UInt8} {H : Heap} {K : Nat → Prop} {css : List (List Value)} {l : List UInt8} (hr : r = u8R) (h : r.LR H K css l) : css = l.map Qit := by
  subst hr
  apply List.ext_getElem?
  intro m
  rw [List.getElem?_map]
  rcases Nat.lt_or_ge m l.length with hm | hm
  · obtain ⟨d, h4, h5⟩ := h.2 m _ (List.getElem?_eq_getElem hm)
    have h5 : d = [_] := h5
    rw [h4, List.getElem?_eq_getElem hm, h5]; rfl
  · rw [List.getElem?_eq_none (by rw [h.1]; exact hm), List.getElem?_eq_none hm]; rfl
section
variable {P : Program} {l : List GO} {Q : QT} {ρ : Env} {w : World} {c : Cx} {L : List Res} {v : Value}
theorem QjZ (s : List UInt8) : (s.map Qit).flatten = s.map fun b => Value.int .u8 (b.toNat : Int) := by
  induction s with
  | nil => rfl
  | cons b s ih => simp [Qit, ih]
/-- []byte(s) -/
theorem s_bytes {d src dst e Ty : Nat} {x : Operand} {s : ByteArray} (hs : P.underlying src = some .string) (hd : P.underlying dst = some (.slice e)) (he : P.underlying e = some (.int .u8)) (hS : St c w L) (hx : ρ.ev x = .string s)
    (h : ∀ v' w', St c w' (sl e 1 v' (s.data.toList.map Qit) :: L) → Q2 P l Q (upd ρ d v') w') : Q2 P (⟨none, .raw ⟨some d, .convert src dst x, Ty, "", #[], none⟩⟩ :: l) Q ρ w := by
  have hr := run_bytes_of_string (P := P) w src dst e s hs hd he
  have hge := grownCap_ge w s.size 0 e
  generalize hcap : grownCap w s.size 0 e = cap at hr hge
  refine QI (v := .slice (some ⟨w.heap.size, 0, none⟩) s.size cap) (w' := w.drew.alloc (.cells (bytesRow s cap) e ((bytesRow s cap).size, (bytesRow s cap).size + 1))) ?_ ?_
  · simp only [execOp, hx, Sem.run_bind, hr, Result.andThen_ok, Sem.run_pure]
  · have hsz : s.data.size = s.size := rfl
    have hrow : (bytesRow s cap).size = cap := by simp [bytesRow]; omega
    refine h _ _ (hS.new (F' := (· = w.heap.size)) ?_ (((Fr.refl NF w).drew').then0 (Q7P w.drew _)) fun b hb => by omega)
    refine ⟨by intro q hq; obtain ⟨b, _, rfl⟩ := List.mem_map.1 hq; rfl, .inr ⟨w.heap.size, 0, cap, (bytesRow s cap).toList, ?_, ?_, ?_, ?_, ?_, fun _ => Iff.rfl⟩⟩
    · have : (List.map Qit s.data.toList).length = s.size := by rw [List.length_map, Array.length_toList]; rfl
      rw [this]
    · have : (List.map Qit s.data.toList).length = s.size := by rw [List.length_map, Array.length_toList]; rfl
      rw [this]; exact hge
    · refine ⟨((bytesRow s cap).size, (bytesRow s cap).size + 1), ?_, ?_⟩
      · show (w.heap.push _)[w.heap.size]? = _
        rw [Array.getElem?_push_size]
      · refine ⟨fun i h1 h2 => ?_, by simp⟩
        simp only [Array.length_toList] at *; omega
    · simp [hrow]
    · intro i hi
      rw [QjZ]
      simp only [List.length_map, Array.length_toList, Nat.mul_one] at hi
      rw [Nat.zero_add, Array.getElem?_toList, bytesRow_at s cap i hi, List.getElem?_map, Array.getElem?_toList, Array.getElem?_eq_getElem hi]; rfl
/-- A part of an array that is a value. -/
theorem s_idxv {d T Ty e n : Nat} {x y : Operand} {k : IntKind} {m : Int} {cs : List Value} {u : Value} (hT : P.underlying T = some (.array n e)) (he : Q3t P e = true) (hsz : Q3G P e = some 1) (hx : ρ.ev x = .agg ⟨cs⟩) (hy : ρ.ev y = .int k m) (h0 : 0 ≤ m) (hm : m < n) (hu : cs[m.toNat]? = some u)
    (h : Q2 P l Q (upd ρ d u) w) : Q2 P (⟨none, .raw ⟨some d, .index T x y, Ty, "", #[], none⟩⟩ :: l) Q ρ w := by
  refine QI (v := u) (w' := w) ?_ h
  simp only [execOp, hx, hy, Instr.index, Sem.run_bind, asIntOf, Sem.run_pure, Result.andThen_ok, Q6 P T _ w hT]
  rw [if_pos ⟨h0, hm⟩]
  simp only [Sem.run_bind, QK P e 1 w hsz, Result.andThen_ok, Nat.mul_one, Qhy P e ⟨cs⟩ _ _ w he (by simpa using hu)]
end
end Go.Lir
namespace Go.Lir

/-! ### A call that returns, or panics with one value -/

def Fins (P : Program) (f : FuncId) (args : List Value) (w : World) (S T : Value → World → Prop) : Prop :=
  Calls P f ⟨args⟩ w fun e w' => (∃ v, e = .returned v ∧ S v w') ∨ (∃ v, e = .panicked [{ v := v, recovered := false }] ∧ T v w')

theorem Fins.mono {P : Program} {f : FuncId} {args : List Value} {w : World} {S S' T T' : Value → World → Prop} (h : Fins P f args w S T) (hs : ∀ v w', S v w' → S' v w') (ht : ∀ v w', T v w' → T' v w') : Fins P f args w S' T' :=
  Calls.mono h fun _ _ h => h.elim (fun ⟨v, he, hv⟩ => .inl ⟨v, he, hs _ _ hv⟩) (fun ⟨v, he, hv⟩ => .inr ⟨v, he, ht _ _ hv⟩)
theorem Rets.ends {P : Program} {f : FuncId} {args : List Value} {w : World} {S T : Value → World → Prop} (h : Rets P f args w S) : Fins P f args w S T :=
  Calls.mono h fun _ _ h => .inl h
section
variable {P : Program} {l : List GO} {Q : QT} {ρ : Env} {w : World}
theorem Qmx {d : Nat} {f : FuncId} {xs : List Operand} {args : List Value} {S T : Value → World → Prop} (hxs : xs.map ρ.ev = args) (hc : Fins P f args w S T)
    (hp : ∀ v w', T v w' → Q (.panic [{ v := v, recovered := false }]) ρ w') (h : ∀ v w', S v w' → Q2 P l Q (upd ρ d v) w') : Q2 P (⟨none, .call (some d) f xs⟩ :: l) Q ρ w := by
  subst hxs
  refine Calls.mono hc fun e w' h' => ?_
  rcases h' with ⟨v, he, hs⟩ | ⟨v, he, hs⟩
  · subst he; exact h v w' hs
  · subst he; exact hp v w' hs
theorem Qc {K : KT} {ch : List PanicEntry} (h : Q (.panic ch) ρ w) : Qy K Q (.panic ch) ρ w := h
theorem Qd {id : Nat} {ch : List PanicEntry} (h : Q (.panic ch) ρ w) : QD id Q (.panic ch) ρ w := h
theorem Qp {rs : List ResultVar} {R : Ending → World → Prop} {ch : List PanicEntry} (h : R (.panicked ch) w) : retQ P rs R (.panic ch) ρ w := h
theorem Qmr {d : Option Nat} {x : Operand} {Ty T : TypeId} {v : Value} (hx : ρ.ev x = .iface T v) (h : Q (.panic [{ v := .iface T v, recovered := false }]) ρ w) : Q2 P (⟨none, .raw ⟨d, .panic x, Ty, "", #[], none⟩⟩ :: l) Q ρ w := by
  refine (?_ : Q5C P _ ρ w _ Q)
  unfold Q5C
  have e : (execOp ρ.ev ⟨d, .panic x, Ty, "", #[], none⟩).run P w = .halt (.panic (.iface T v)) w := by
    simp [execOp, Instr.panic, hx, goPanic, Sem.run]
  rw [e]; exact h
theorem Qlg {d : Nat} {x : Operand} {Ty T xT : TypeId} {v : Value} {D : TypeDesc} (hd : P.underlying T = some D) (hi : ∀ m, D ≠ .interface m) (hx : ρ.ev x = .iface T v)
    (h : Q2 P l Q (upd ρ d (.tuple #[v, .bool true])) w) : Q2 P (⟨none, .raw ⟨some d, .typeAssert x xT T true, Ty, "", #[], none⟩⟩ :: l) Q ρ w := by
  refine QI (v := .tuple #[v, .bool true]) (w' := w) ?_ h
  simp only [execOp, Instr.typeAssert, hx, Sem.run_bind, Q6 P T D w hd, Result.andThen_ok]
  cases D <;> first | (exact absurd rfl (hi _)) | simp
theorem Qk8 {d : Nat} {x : Operand} {Ty T T' xT : TypeId} {v z : Value} {D : TypeDesc} (hd : P.underlying T = some D) (hi : ∀ m, D ≠ .interface m) (hz : QjX P T = some z) (hx : ρ.ev x = .iface T' v) (hne : T' ≠ T)
    (h : Q2 P l Q (upd ρ d (.tuple #[z, .bool false])) w) : Q2 P (⟨none, .raw ⟨some d, .typeAssert x xT T true, Ty, "", #[], none⟩⟩ :: l) Q ρ w := by
  refine QI (v := .tuple #[z, .bool false]) (w' := w) ?_ h
  simp only [execOp, Instr.typeAssert, hx, Sem.run_bind, Q6 P T D w hd, Result.andThen_ok]
  cases D <;> first | (exact absurd rfl (hi _)) | simp [hne, Q1A P T z w hz]
end

/-! ### Deferred calls: lowered code in which one is put off -/

inductive LSp where
  | dfr (d : Option Nat) (x : Operand)
  | rcv (d : Option Nat)

inductive LD where
  | pl (c : LC)
  | seq (a b : LD)
  | sp (l1 : List GO) (o : LSp) (l2 : List GO)

def spOf (o : Oper) : Option LSp := match o.guard, o.op with
  | none, .defer ⟨.value x, xs, _⟩ => if xs.size = 0 then some (.dfr o.dst x) else none
  | none, .call ⟨.builtin .recover, xs, _⟩ => if xs.size = 0 then some (.rcv o.dst) else none
  | _, _ => none
def hasSp : Code → Bool
  | .seq a b => hasSp a || hasSp b
  | .region _ ops _ => ops.toList.any fun o => (spOf o).isSome
  | _ => false
def Qeu : List Oper → Option (List Oper × Oper × LSp × List Oper)
  | [] => none
  | o :: r => match spOf o with
    | some s => some ([], o, s, r)
    | none => (Qeu r).map fun p => (o :: p.1, p.2)
def lowD (P : Program) (n : Nat) : Code → LD
  | .seq a b => if hasSp a || hasSp b then .seq (lowD P n a) (lowD P n b) else .pl (Q39 P n (.seq a b))
  | .region id ops false => match Qeu ops.toList with
    | some (l1, o, s, l2) => if ops.toList.all (okG n ops) then .sp (l1.map (Q2E P ops)) s (l2.map (Q2E P ops)) else .pl .bad
    | none => .pl (Q39 P n (.region id ops false))
  | c => .pl (Q39 P n c)
def QlQ (P : Program) (fn : Func) : Option LD := fn.body.map (lowD P fn.ntmps)

def LD.wpD (P : Program) : LD → (List Deferred → QT) → List Deferred → Env → World → Prop
  | .pl c, Q, ds, ρ, w => c.wp P (Q ds) ρ w
  | .seq a b, Q, ds, ρ, w => a.wpD P (fun ds' => Qy (b.wpD P Q ds') (Q ds')) ds ρ w
  | .sp l1 (.dfr d x) l2, Q, ds, ρ, w => Q2 P l1 (Qy (fun ρ w => ∃ f cap, ρ.ev x = .func (.func f) #[] cap ∧ Q2 P l2 (Q (⟨.fn (.func f) cap, #[]⟩ :: ds)) (updo ρ d undef) w) (Q ds)) ρ w
  | _, _, _, _, _ => False

theorem Q5y : ∀ {ops l1 l2 : List Oper} {o : Oper} {s : LSp}, Qeu ops = some (l1, o, s, l2) → ops = l1 ++ o :: l2 ∧ spOf o = some s
  | [], _, _, _, _, h => by simp [Qeu] at h
  | o' :: r, l1, l2, o, s, h => by
    rw [Qeu] at h
    cases hs : spOf o' with
    | some s' =>
      simp only [hs, Option.some.injEq, Prod.mk.injEq] at h
      obtain ⟨rfl, rfl, rfl, rfl⟩ := h
      exact ⟨rfl, hs⟩
    | none =>
      simp only [hs, Option.map_eq_some_iff] at h
      obtain ⟨⟨a, b, c, d⟩, h1, h2⟩ := h
      simp only [Prod.mk.injEq] at h2
      obtain ⟨rfl, rfl, rfl, rfl⟩ := h2
      obtain ⟨h3, h4⟩ := Q5y h1
      exact ⟨by rw [h3]; rfl, h4⟩

theorem QaO {P : Program} {o : Oper} {a : Act} {K K' : Act → World → Prop} {Q Q' : Exit → Act → World → Prop} (hk : ∀ a w, K a w → K' a w) (hp : ∀ ch a w, Q (.panic ch) a w → Q' (.panic ch) a w) (ho : LetsOut Q → LetsOut Q') (r : Result Next) (h : o.upon P a K Q r) : o.upon P a K' Q' r := by
  cases r with
  | ok n w =>
    cases n <;> first | exact hk _ _ h | exact h | skip
    · refine Calls.mono h fun e w h => ?_
      cases e <;> first | exact hk _ _ h | exact hp _ _ _ h | exact ho h
    · exact Rows.mono h fun v w h => hk _ _ h
  | halt x w => cases x <;> first | exact hp _ _ _ h | exact h

theorem Q3H {P : Program} {ops : Array Oper} {Q : Exit → Act → World → Prop} {l2 : List Nat} : ∀ (l1 : List Nat) (a : Act) (w : World),
    wpOps P ops (Exit.then (wpOps P ops Q l2) Q) l1 a w → wpOps P ops Q (l1 ++ l2) a w
  | [], a, w, h => h
  | i :: l1, a, w, h => by
    simp only [List.cons_append, wpOps] at h ⊢
    cases ho : ops[i]? with
    | none => simp only [ho] at h ⊢; exact Q3H l1 a w h
    | some o =>
      simp only [ho] at h ⊢
      split
      · rename_i hw
        rw [if_pos hw] at h
        rcases h with h | ⟨h1, h2⟩
        · exact .inl (QaO (fun a w h => Q3H l1 a w h) (fun ch a w h => h) (fun h => h) _ h)
        · exact .inr ⟨h1, h2⟩
      · rename_i hw
        rw [if_neg hw] at h
        exact Q3H l1 _ w h
theorem Q3n {P : Program} {ops : Array Oper} {Q Q' : Exit → Act → World → Prop} (hq : ∀ e a w, Q e a w → Q' e a w) : ∀ (l : List Nat) (a : Act) (w : World), wpOps P ops Q l a w → wpOps P ops Q' l a w
  | [], a, w, h => hq _ _ _ h
  | i :: l, a, w, h => by
    simp only [wpOps] at h ⊢
    have ho' : LetsOut Q → LetsOut Q' := fun ⟨a, w, h⟩ => ⟨a, w, hq _ _ _ h⟩
    cases ho : ops[i]? with
    | none => simp only [ho] at h ⊢; exact Q3n hq l a w h
    | some o =>
      simp only [ho] at h ⊢
      split
      · rename_i hw
        rw [if_pos hw] at h
        rcases h with h | ⟨h1, h2⟩
        · exact .inl (QaO (fun a w h => Q3n hq l a w h) (fun ch a w h => hq _ _ _ h) ho' _ h)
        · exact .inr ⟨h1, ho' h2⟩
      · rename_i hw
        rw [if_neg hw] at h
        exact Q3n hq l _ w h

def liftD (n : Nat) (Q : List Deferred → QT) : Exit → Act → World → Prop := fun e a w => ∃ ds, QiJ n ds (Q ds) e a w

theorem QiD {α : Type} {ops l1 l2 : List α} {o : α} (h : ops = l1 ++ o :: l2) : List.range ops.length = List.range l1.length ++ l1.length :: (List.range l2.length).map (l1.length + 1 + ·) := by
  subst h
  apply List.ext_getElem
  · simp
  · intro i h1 h2
    rw [List.getElem_range]
    rcases Nat.lt_trichotomy i l1.length with h | h | h
    · rw [List.getElem_append_left (by simpa using h), List.getElem_range]
    · subst h; rw [List.getElem_append_right (by simp)]; simp
    · rw [List.getElem_append_right (by simpa using Nat.le_of_lt h)]
      simp only [List.length_range]
      rw [List.getElem_cons]
      rw [dif_neg (by omega), List.getElem_map, List.getElem_range]; omega
theorem Qmj {α β : Type} {ops l1 l2 : List α} {o : α} (g : α → β) (h : ops = l1 ++ o :: l2) : ((List.range l2.length).map (l1.length + 1 + ·)).filterMap (fun i => (ops[i]?).map g) = l2.map g := by
  subst h
  rw [List.filterMap_map]
  have : ∀ i, ((fun i => ((l1 ++ o :: l2)[i]?).map g) ∘ (l1.length + 1 + ·)) i = (l2[i]?).map g := by
    intro i
    simp only [Function.comp]
    rw [List.getElem?_append_right (by omega)]
    rw [show l1.length + 1 + i - l1.length = i + 1 by omega, List.getElem?_cons_succ]
  rw [Q2j (fun i _ => this i)]
  have := Q3x g l2 []
  simpa [List.range_eq_range'] using this
theorem Qlb {α β : Type} {ops l1 l2 : List α} {o : α} (g : α → β) (h : ops = l1 ++ o :: l2) : (List.range l1.length).filterMap (fun i => (ops[i]?).map g) = l1.map g := by
  subst h
  have : ∀ i ∈ List.range l1.length, ((l1 ++ o :: l2)[i]?).map g = (l1[i]?).map g := by
    intro i hi
    rw [List.getElem?_append_left (by simpa using hi)]
  rw [Q2j this]
  have := Q3x g l1 []
  simpa [List.range_eq_range'] using this

theorem QlR {P : Program} {n : Nat} : ∀ (c : Code) (Q : List Deferred → QT) (ds : List Deferred) (ρ : Env) (a : Act) (w : World), Rel n ρ ds a → (lowD P n c).wpD P Q ds ρ w → c.wp P (liftD n Q) a w := by
  have hpl : ∀ (c : Code) (Q : List Deferred → QT) (ds : List Deferred) (ρ : Env) (a : Act) (w : World), Rel n ρ ds a → (Q39 P n c).wp P (Q ds) ρ w → c.wp P (liftD n Q) a w := fun c Q ds ρ a w hr h =>
    wp_mono (Q5I c _ ρ a w hr h) fun e a w h => ⟨ds, h⟩
  intro c
  induction c with
  | seq x y ihx ihy =>
    intro Q ds ρ a w hr h
    rw [lowD] at h
    split at h
    · refine wp_seq ?_
      refine wp_mono (ihx _ ds ρ a w hr h) ?_
      rintro e a w ⟨ds', ρ', hr', h'⟩
      cases e with
      | normal => exact ihy _ ds' ρ' a w hr' h'
      | _ => exact ⟨ds', ρ', hr', h'⟩
    · exact hpl _ Q ds ρ a w hr h
  | region id ops draw =>
    intro Q ds ρ a w hr h
    cases draw with
    | true => exact hpl _ Q ds ρ a w hr h
    | false =>
      rw [lowD] at h
      split at h
      · rename_i l1 o s l2 hs
        obtain ⟨hops, hsp⟩ := Q5y hs
        split at h
        · rename_i hall
          have hok : ∀ i o, ops[i]? = some o → okG n ops o = true := fun i o hi => List.all_eq_true.1 hall o (by rw [← Array.getElem?_toList] at hi; exact List.mem_of_getElem? hi)
          have hsz : ops.size = ops.toList.length := by simp
          have hgm : ∀ (l : List Nat), (l.filterMap fun i => (ops[i]?).map (Q2E P ops)) = l.filterMap fun i => (ops.toList[i]?).map (Q2E P ops) := fun l => by simp
          have hlen : ops.toList.length = l1.length + 1 + l2.length := by rw [hops]; simp; omega
          have hrange : ∀ (l : List Nat), (∀ i ∈ l, i < ops.size) → ∀ i ∈ l, ∃ o, ops[i]? = some o ∧ okG n ops o = true := fun l hl i hi => ⟨ops[i]'(hl i hi), by simp [hl i hi], hok i _ (by simp [hl i hi])⟩
          refine wp_region ?_
          rw [hsz, QiD hops]
          refine Q3H _ _ _ ?_
          cases s with
          | rcv d => exact h.elim
          | dfr d x =>
            have h1 := Q7L (Q := Qy (fun ρ w => ∃ f cap, ρ.ev x = .func (.func f) #[] cap ∧ Q2 P (l2.map (Q2E P ops)) (Q (⟨.fn (.func f) cap, #[]⟩ :: ds)) (updo ρ d undef) w) (Q ds)) (ds := ds) (List.range l1.length) ρ a w hr
              (hrange _ fun i hi => by rw [hsz, hlen]; have := List.mem_range.1 hi; omega) (by rw [hgm, Qlb _ hops]; exact h)
            refine Q3n ?_ _ _ _ h1
            rintro e a w ⟨ρ', hr', h'⟩
            cases e with
            | normal =>
              obtain ⟨f, cap, hf, h'⟩ := h'
              have hoi : ops[l1.length]? = some o := by rw [← Array.getElem?_toList, hops]; simp
              refine (?_ : wpOps P ops _ (l1.length :: _) a w)
              simp only [wpOps, hoi]
              have hg : o.guard = none ∧ ∃ ts, ∃ xs : Array Operand, o.op = .defer ⟨.value x, xs, ts⟩ ∧ xs.size = 0 ∧ o.dst = d := by
                unfold spOf at hsp
                split at hsp
                · rename_i x' xs' ts' hg ho
                  split at hsp
                  · rename_i hx0
                    simp only [Option.some.injEq, LSp.dfr.injEq] at hsp
                    obtain ⟨g1, g2⟩ := hsp
                    subst g2
                    exact ⟨hg, ts', xs', ho, hx0, g1⟩
                  · cases hsp
                · split at hsp <;> cases hsp
                · cases hsp
              obtain ⟨hgd, ts, xs, hop, hxs, hd⟩ := hg
              have hxs' : xs = #[] := Array.eq_empty_of_size_eq_zero hxs
              subst hxs'
              rw [if_pos (by simp [Region.wanted, hgd])]
              refine .inl ?_
              unfold Oper.wp
              have e1 : (execOp a.eval o).run P w = .ok (.defer ⟨.fn (.func f) cap, #[]⟩) w := by
                simp [execOp, hop, resolve, hr'.ev, hf, Deferred.ofValue]
              rw [e1, Oper.upon_defer, hd]
              have hdn := QaZ (hok _ o hoi)
              rw [hd] at hdn
              have hr2 : Rel n (updo ρ' d undef) (⟨.fn (.func f) cap, #[]⟩ :: ds) ({ a with defers := ⟨.fn (.func f) cap, #[]⟩ :: a.defers }.put d undef) := by
                have hr3 : Rel n ρ' (⟨.fn (.func f) cap, #[]⟩ :: ds) { a with defers := ⟨.fn (.func f) cap, #[]⟩ :: a.defers } := ⟨hr'.1, hr'.2.1, by simp [hr'.2.2]⟩
                exact hr3.put d undef hdn
              have h2 := Q7L (Q := Q (⟨.fn (.func f) cap, #[]⟩ :: ds)) (ds := ⟨.fn (.func f) cap, #[]⟩ :: ds) _ _ _ w hr2
                (hrange ((List.range l2.length).map (l1.length + 1 + ·)) fun i hi => by rw [hsz, hlen]; rw [List.mem_map] at hi; obtain ⟨j, hj, rfl⟩ := hi; have := List.mem_range.1 hj; omega) (by rw [hgm, Qmj _ hops]; exact h')
              exact Q3n (fun e a w h => ⟨_, h⟩) _ _ _ h2
            | _ => exact ⟨ds, ρ', hr', h'⟩
        · exact h.elim
      · exact hpl _ Q ds ρ a w hr h
  | _ => exact hpl _

/-- What becomes of a function's end, its deferred calls still to come. -/
def Q48 (P : Program) (rs : List ResultVar) (ρ : Env) (R : Ending → World → Prop) : List Deferred → FrameMode → World → Prop
  | [], .returning, w => Q1n P w ρ rs [] fun v => R (.returned v) w
  | [], .panicking chain, w => R (.panicked chain) w
  | [], .run, _ => False
  | d :: ds, u, w => u ≠ .run ∧ ∃ f cap, d = ⟨.fn (.func f) cap, #[]⟩ ∧ Q99 P f = true ∧ CallsD P f cap u w fun
      | .returned _, u', w' => Q48 P rs ρ R ds (settle u') w'
      | .panicked chain, u', w' => Q48 P rs ρ R ds (raised u' chain) w'
      | .outgrown, _, w' => R .outgrown w'
def retD (P : Program) (rs : List ResultVar) (R : Ending → World → Prop) (ds : List Deferred) : QT
  | .normal, ρ, w | .ret, ρ, w => Q48 P rs ρ R ds .returning w
  | .panic chain, ρ, w => Q48 P rs ρ R ds (.panicking chain) w
  | .outgrown, _, w => R .outgrown w
  | _, _, _ => False

theorem Q3A {P : Program} {fn : Func} {tmps : Array Value} {ρ : Env} {R : Ending → World → Prop} (ht : ∀ i, tmps.getD i undef = ρ i) : ∀ (ds : List Deferred) (u : FrameMode) (w : World),
    Q48 P fn.results.toList ρ R ds u w → Leaves P fn tmps R ds u w
  | [], .returning, w, h => by obtain ⟨v, h1, h2⟩ := Q2y ht h; exact ⟨v, h1, h2⟩
  | [], .panicking _, w, h => h
  | [], .run, w, h => h.elim
  | d :: ds, u, w, h => by
    obtain ⟨hu, f, cap, rfl, hf, hc⟩ := h
    unfold Q99 at hf
    rw [Option.any_eq_true] at hf
    obtain ⟨fn', h1, h2⟩ := hf
    rw [Bool.and_eq_true, Bool.not_eq_true'] at h2
    refine leaves_cons hu (f := f) (args := cap) ?_ ?_
    · simp only [invoke]
      rw [Qcq _ h1 h2.1 h2.2]; simp
    · refine hc.mono ?_
      intro e u' w' h
      cases e with
      | returned v => exact Q3A ht ds _ _ h
      | panicked ch => exact Q3A ht ds _ _ h
      | outgrown => exact h

theorem Qie {P : Program} {f : FuncId} {fn : Func} {args : List Value} {w : World} {R : Ending → World → Prop} {ld : LD} {rs : List ResultVar}
    (hf : P.funcs[f]? = some fn) (hl : QlQ P fn = some ld) (hrs : fn.results.toList = rs) (hn : Nat.ble args.length fn.ntmps = true)
    (h : ld.wpD P (retD P rs R) [] (Qf args) w) : Calls P f ⟨args⟩ w R := by
  unfold QlQ at hl
  cases hb : fn.body with
  | none => simp [hb] at hl
  | some c =>
    simp only [hb, Option.map_some, Option.some.injEq] at hl
    subst hl hrs
    refine calls_of_wp_defers hf hb ?_
    have hn' : args.length ≤ fn.ntmps := Nat.le_of_ble_eq_true hn
    refine wp_mono (QlR c _ [] _ _ _ (QbV ⟨args⟩ fn.ntmps hn' []) h) ?_
    rintro e a w ⟨ds, ρ, hr, h⟩
    have hd := hr.2.2
    cases e with
    | normal => exact (hd ▸ Q3A hr.2.1 ds _ _ h : Leaves P fn a.tmps R a.defers .returning w)
    | ret => exact (hd ▸ Q3A hr.2.1 ds _ _ h : Leaves P fn a.tmps R a.defers .returning w)
    | panic ch => exact (hd ▸ Q3A hr.2.1 ds _ _ h : Leaves P fn a.tmps R a.defers (.panicking ch) w)
    | outgrown => exact h
    | exit => exact h
    | goto => exact h

/-! ### The deferred function: lowered code that recovers -/

def recM : FrameMode → Value × FrameMode
  | .panicking ({ v := v, recovered := false, goexit := false } :: older) => (v, .panicking ({ v := v, recovered := true } :: older))
  | u => (.nilIface, u)

def LD.wpR (P : Program) : LD → (FrameMode → QT) → FrameMode → Env → World → Prop
  | .pl c, Q, u, ρ, w => c.wp P (Q u) ρ w
  | .seq a b, Q, u, ρ, w => a.wpR P (fun u' => Qy (b.wpR P Q u') (Q u')) u ρ w
  | .sp l1 (.rcv d) l2, Q, u, ρ, w => Q2 P l1 (Qy (fun ρ w => Q2 P l2 (Q (recM u).2) (updo ρ d (recM u).1) w) (Q u)) ρ w
  | _, _, _, _, _ => False

def liftR (n : Nat) (c₀ : Frame) (cs : List Frame) (Q : FrameMode → QT) : Exit → Act → List Frame → World → Prop :=
  fun e a cs' w => ∃ u, cs' = { c₀ with mode := u } :: cs ∧ QiJ n [] (Q u) e a w

theorem Qka (c₀ : Frame) (cs : List Frame) (u : FrameMode) : (match recoverD ({ c₀ with mode := u } :: cs) with
    | some (v, cs') => (v, cs')
    | none => (.nilIface, { c₀ with mode := u } :: cs)) = ((recM u).1, { c₀ with mode := (recM u).2 } :: cs) := by
  unfold recoverD recM
  dsimp only
  split <;> rename_i h
  · split at h
    · rename_i hm
      simp only [Option.some.injEq, Prod.mk.injEq] at h
      obtain ⟨rfl, rfl⟩ := h
      rfl
    · cases h
  · split at h
    · cases h
    · rename_i hm
      split
      · rename_i hm'
        exact absurd rfl (hm _ _)
      · rfl

theorem QeE {P : Program} {n : Nat} {ops : Array Oper} {Q : QT} {QS : Exit → Act → List Frame → World → Prop} {cs : List Frame} {rest : List Nat} (hn : ∀ a w, QiJ n [] Q .normal a w → wpOpsS P ops QS rest a cs w) (hq : ∀ e a w, e ≠ .normal → QiJ n [] Q e a w → QS e a cs w) : ∀ (l : List Nat) (ρ : Env) (a : Act) (w : World), Rel n ρ [] a →
    (∀ i ∈ l, ∃ o, ops[i]? = some o ∧ okG n ops o = true) →
    Q2 P (l.filterMap fun i => (ops[i]?).map (Q2E P ops)) Q ρ w → wpOpsS P ops QS (l ++ rest) a cs w := by
  intro l
  induction l with
  | nil => intro ρ a w hr _ h; exact hn a w ⟨ρ, hr, h⟩
  | cons i l ih =>
    intro ρ a w hr hok h
    obtain ⟨o, ho, hg⟩ := hok i (by simp)
    have hok' : ∀ i ∈ l, ∃ o, ops[i]? = some o ∧ okG n ops o = true := fun i hi => hok i (by simp [hi])
    simp only [List.filterMap_cons, ho, Option.map_some] at h
    have h' := Qco hr hg _ Q w h
    simp only [List.cons_append, wpOpsS, ho]
    split
    · rename_i hw
      rw [if_pos hw] at h'
      have h1 := QiC (ds := []) hr (QaZ hg) (QeD h')
      have h2 := QaO (Q' := fun e a' w' => QS e a' cs w') (K' := fun a' w' => wpOpsS P ops QS (l ++ rest) a' cs w') (fun a w ⟨ρ, hr, h⟩ => ih ρ a w hr hok' h) (fun ch a w h => hq _ a w (by simp) h) (fun ⟨a, w, h⟩ => ⟨a, w, hq _ a w (by simp) h⟩) _ h1
      split
      · rename_i w' hrun
        rw [hrun] at h2
        exact h2.elim
      · rename_i r hrun
        exact h2
    · rename_i hw
      rw [if_neg hw] at h'
      exact ih _ _ w (hr.put _ _ (QaZ hg)) hok' h'

theorem QlP {P : Program} {n : Nat} {c₀ : Frame} {cs : List Frame} : ∀ (c : Code) (Q : FrameMode → QT) (u : FrameMode) (ρ : Env) (a : Act) (w : World), Rel n ρ [] a → (lowD P n c).wpR P Q u ρ w → c.wpS P (liftR n c₀ cs Q) a ({ c₀ with mode := u } :: cs) w := by
  have hpl : ∀ (c : Code) (Q : FrameMode → QT) (u : FrameMode) (ρ : Env) (a : Act) (w : World), Rel n ρ [] a → (Q39 P n c).wp P (Q u) ρ w → c.wpS P (liftR n c₀ cs Q) a ({ c₀ with mode := u } :: cs) w := fun c Q u ρ a w hr h =>
    wpS_of_wp (wp_mono (Q5I c _ ρ a w hr h) fun e a w h => ⟨u, rfl, h⟩)
  intro c
  induction c with
  | seq x y ihx ihy =>
    intro Q u ρ a w hr h
    rw [lowD] at h
    split at h
    · refine wpS_seq ?_
      intro b k hb hro
      obtain ⟨e, a', cs', w', ⟨u', rfl, ρ', hr', h'⟩, harr⟩ := ihx _ u ρ a w hr h b k hb hro
      refine ⟨e, a', _, w', ?_, harr⟩
      cases e with
      | normal => exact ihy _ u' ρ' a' w' hr' h'
      | _ => exact ⟨u', rfl, ρ', hr', h'⟩
    · exact hpl _ Q u ρ a w hr h
  | region id ops draw =>
    intro Q u ρ a w hr h
    cases draw with
    | true => exact hpl _ Q u ρ a w hr h
    | false =>
      rw [lowD] at h
      split at h
      · rename_i l1 o s l2 hs
        obtain ⟨hops, hsp⟩ := Q5y hs
        split at h
        · rename_i hall
          have hok : ∀ i o, ops[i]? = some o → okG n ops o = true := fun i o hi => List.all_eq_true.1 hall o (by rw [← Array.getElem?_toList] at hi; exact List.mem_of_getElem? hi)
          have hsz : ops.size = ops.toList.length := by simp
          have hgm : ∀ (l : List Nat), (l.filterMap fun i => (ops[i]?).map (Q2E P ops)) = l.filterMap fun i => (ops.toList[i]?).map (Q2E P ops) := fun l => by simp
          have hlen : ops.toList.length = l1.length + 1 + l2.length := by rw [hops]; simp; omega
          have hrange : ∀ (l : List Nat), (∀ i ∈ l, i < ops.size) → ∀ i ∈ l, ∃ o, ops[i]? = some o ∧ okG n ops o = true := fun l hl i hi => ⟨ops[i]'(hl i hi), by simp [hl i hi], hok i _ (by simp [hl i hi])⟩
          refine wpS_region ?_
          rw [hsz, QiD hops]
          cases s with
          | dfr d x => exact h.elim
          | rcv d =>
            refine QeE (Q := Qy (fun ρ w => Q2 P (l2.map (Q2E P ops)) (Q (recM u).2) (updo ρ d (recM u).1) w) (Q u)) ?_ ?_ (List.range l1.length) ρ a w hr
              (hrange _ fun i hi => by rw [hsz, hlen]; have := List.mem_range.1 hi; omega) (by rw [hgm, Qlb _ hops]; exact h)
            · rintro a w ⟨ρ', hr', h'⟩
              have hoi : ops[l1.length]? = some o := by rw [← Array.getElem?_toList, hops]; simp
              have hg : o.guard = none ∧ ∃ ts, ∃ xs : Array Operand, o.op = .call ⟨.builtin .recover, xs, ts⟩ ∧ xs.size = 0 ∧ o.dst = d := by
                unfold spOf at hsp
                split at hsp
                · split at hsp <;> cases hsp
                · rename_i xs' ts' hg ho
                  split at hsp
                  · rename_i hx0
                    simp only [Option.some.injEq, LSp.rcv.injEq] at hsp
                    exact ⟨hg, ts', xs', ho, hx0, hsp⟩
                  · cases hsp
                · cases hsp
              obtain ⟨hgd, ts, xs, hop, hxs, hd⟩ := hg
              have hxs' : xs = #[] := Array.eq_empty_of_size_eq_zero hxs
              subst hxs'
              refine (?_ : wpOpsS P ops _ (l1.length :: _) a _ w)
              simp only [wpOpsS, hoi]
              rw [if_pos (by simp [Region.wanted, hgd])]
              have e1 : (execOp a.eval o).run P w = .ok .recover w := by
                simp [execOp, hop, resolve, invoke, builtin]
              rw [e1]
              have hdn := QaZ (hok _ o hoi)
              rw [hd] at hdn
              have hr2 : Rel n (updo ρ' d (recM u).1) [] (a.put d (recM u).1) := hr'.put d _ hdn
              have hrec := Qka c₀ cs u
              have key : wpOpsS P ops (liftR n c₀ cs Q) ((List.range l2.length).map (l1.length + 1 + ·)) (a.put o.dst (recM u).1) ({ c₀ with mode := (recM u).2 } :: cs) w := by
                rw [hd]
                have h2 := QeE (Q := Q (recM u).2) (QS := liftR n c₀ cs Q) (cs := { c₀ with mode := (recM u).2 } :: cs) (rest := []) (fun a w h => ⟨_, rfl, h⟩) (fun e a w _ h => ⟨_, rfl, h⟩) ((List.range l2.length).map (l1.length + 1 + ·)) _ _ w hr2
                  (hrange _ fun i hi => by rw [hsz, hlen]; rw [List.mem_map] at hi; obtain ⟨j, hj, rfl⟩ := hi; have := List.mem_range.1 hj; omega) (by rw [hgm, Qmj _ hops]; exact h')
                rwa [List.append_nil] at h2
              dsimp only
              split
              · rename_i v cs' hrd
                rw [hrd] at hrec
                simp only [Prod.mk.injEq] at hrec
                rw [hrec.1, hrec.2]; exact key
              · rename_i hrd
                rw [hrd] at hrec
                simp only [Prod.mk.injEq] at hrec
                have e3 : ({ c₀ with mode := u } :: cs : List Frame) = { c₀ with mode := (recM u).2 } :: cs := hrec.2
                rw [hrec.1, e3]; exact key
            · rintro e a w he ⟨ρ', hr', h'⟩
              refine ⟨u, rfl, ρ', hr', ?_⟩
              cases e <;> first | exact h' | exact absurd rfl he
        · exact h.elim
      · exact hpl _ Q u ρ a w hr h
  | _ => exact hpl _

def retR (P : Program) (rs : List ResultVar) (R : Ending → FrameMode → World → Prop) (u : FrameMode) : QT
  | .normal, ρ, w | .ret, ρ, w => Q1n P w ρ rs [] fun v => R (.returned v) u w
  | .panic chain, _, w => R (.panicked chain) u w
  | .outgrown, _, w => R .outgrown u w
  | _, _, _ => False

theorem Qgr {P : Program} {f : FuncId} {fn : Func} {args : List Value} {u : FrameMode} {w : World} {R : Ending → FrameMode → World → Prop} {ld : LD} {rs : List ResultVar}
    (hf : P.funcs[f]? = some fn) (hl : QlQ P fn = some ld) (hrs : fn.results.toList = rs) (hn : Nat.ble args.length fn.ntmps = true)
    (h : ld.wpR P (retR P rs R) u (Qf args) w) : CallsD P f ⟨args⟩ u w R := by
  unfold QlQ at hl
  cases hb : fn.body with
  | none => simp [hb] at hl
  | some c =>
    simp only [hb, Option.map_some, Option.some.injEq] at hl
    subst hl hrs
    refine callsD_of_wpS hf hb ?_
    intro c₀ cs hu
    have hn' : args.length ≤ fn.ntmps := Nat.le_of_ble_eq_true hn
    have h1 := QlP (c₀ := c₀) (cs := cs) c _ u _ _ w (QbV ⟨args⟩ fn.ntmps hn' []) h
    have hc : ({ c₀ with mode := u } : Frame) = c₀ := by subst hu; rfl
    rw [hc] at h1
    intro b k hb hro
    obtain ⟨e, a, cs', w', ⟨u', rfl, ρ, hr, h2⟩, harr⟩ := h1 b k hb hro
    refine ⟨e, a, _, w', ?_, harr⟩
    cases e with
    | normal => obtain ⟨v, h3, h4⟩ := Q2y hr.2.1 h2; exact ⟨hr.2.2, u', rfl, v, h3, h4⟩
    | ret => obtain ⟨v, h3, h4⟩ := Q2y hr.2.1 h2; exact ⟨hr.2.2, u', rfl, v, h3, h4⟩
    | panic ch => exact ⟨hr.2.2, u', rfl, h2⟩
    | outgrown => exact ⟨u', h2⟩
    | exit => exact h2
    | goto => exact h2

/-! ### Steps -/
section
variable {P : Program} {ρ : Env} {w : World} {u : FrameMode} {ds : List Deferred}
theorem d_pl {c : LC} {Q : List Deferred → QT} (h : c.wp P (Q ds) ρ w) : (LD.pl c).wpD P Q ds ρ w := h
theorem d_seq {a b : LD} {Q : List Deferred → QT} (h : a.wpD P (fun ds' => Qy (b.wpD P Q ds') (Q ds')) ds ρ w) : (LD.seq a b).wpD P Q ds ρ w := h
theorem d_sp {l1 l2 : List GO} {d : Option Nat} {x : Operand} {Q : List Deferred → QT} (h : Q2 P l1 (Qy (fun ρ w => ∃ f cap, ρ.ev x = .func (.func f) #[] cap ∧ Q2 P l2 (Q (⟨.fn (.func f) cap, #[]⟩ :: ds)) (updo ρ d undef) w) (Q ds)) ρ w) : (LD.sp l1 (.dfr d x) l2).wpD P Q ds ρ w := h
theorem r_pl {c : LC} {Q : FrameMode → QT} (h : c.wp P (Q u) ρ w) : (LD.pl c).wpR P Q u ρ w := h
theorem r_seq {a b : LD} {Q : FrameMode → QT} (h : a.wpR P (fun u' => Qy (b.wpR P Q u') (Q u')) u ρ w) : (LD.seq a b).wpR P Q u ρ w := h
theorem r_sp {l1 l2 : List GO} {d : Option Nat} {Q : FrameMode → QT} (h : Q2 P l1 (Qy (fun ρ w => Q2 P l2 (Q (recM u).2) (updo ρ d (recM u).1) w) (Q u)) ρ w) : (LD.sp l1 (.rcv d) l2).wpR P Q u ρ w := h
/-- A deferred function, called in a mode: it returns. -/
def Defs (P : Program) (f : FuncId) (args : List Value) (u : FrameMode) (w : World) (S : FrameMode → World → Prop) : Prop :=
  CallsD P f ⟨args⟩ u w fun e u' w' => (∃ v, e = .returned v) ∧ S u' w'
theorem Q9X {rs : List ResultVar} {R : Ending → World → Prop} {f : FuncId} {cap : List Value} {S : FrameMode → World → Prop} (hu : u ≠ .run) (hf : Q99 P f = true) (hc : Defs P f cap u w S)
    (h : ∀ u' w', S u' w' → Q48 P rs ρ R [] (settle u') w') : Q48 P rs ρ R [⟨.fn (.func f) ⟨cap⟩, #[]⟩] u w := by
  refine ⟨hu, f, ⟨cap⟩, rfl, hf, hc.mono ?_⟩
  rintro e u' w' ⟨⟨v, rfl⟩, hs⟩
  exact h u' w' hs
theorem q_retD {rs : List ResultVar} {R : Ending → World → Prop} (h : Q48 P rs ρ R ds .returning w) : retD P rs R ds .ret ρ w := h
theorem q_panD {rs : List ResultVar} {R : Ending → World → Prop} {ch : List PanicEntry} (h : Q48 P rs ρ R ds (.panicking ch) w) : retD P rs R ds (.panic ch) ρ w := h
theorem Q7M {rs : List ResultVar} {R : Ending → World → Prop} (h : retQ P rs R .ret ρ w) : Q48 P rs ρ R [] .returning w := h
theorem QmK {rs : List ResultVar} {R : Ending → FrameMode → World → Prop} (h : retQ P rs (fun e w => R e u w) .normal ρ w) : retR P rs R u .normal ρ w := h
end
end Go.Lir
namespace Go.Lir
section
variable {P : Program} {l : List GO} {Q : QT} {ρ : Env} {w : World} {f : FuncId} {S T : Value → World → Prop}

theorem s_ends_1 {d : Nat} {u0 : Value} {x0 : Operand} (h0 : ρ.ev x0 = u0) (hc : Fins P f [u0] w S T) (hp : ∀ v w', T v w' → Q (.panic [{ v := v, recovered := false }]) ρ w') (h : ∀ v w', S v w' → Q2 P l Q (upd ρ d v) w') : Q2 P (⟨none, .call (some d) f [x0]⟩ :: l) Q ρ w := by
  subst h0; exact Qmx (by rfl) hc hp h
theorem s_ends_2 {d : Nat} {u0 u1 : Value} {x0 x1 : Operand} (h0 : ρ.ev x0 = u0) (h1 : ρ.ev x1 = u1) (hc : Fins P f [u0, u1] w S T) (hp : ∀ v w', T v w' → Q (.panic [{ v := v, recovered := false }]) ρ w') (h : ∀ v w', S v w' → Q2 P l Q (upd ρ d v) w') : Q2 P (⟨none, .call (some d) f [x0, x1]⟩ :: l) Q ρ w := by
  subst h0 h1; exact Qmx (by rfl) hc hp h
theorem s_ends_3 {d : Nat} {u0 u1 u2 : Value} {x0 x1 x2 : Operand} (h0 : ρ.ev x0 = u0) (h1 : ρ.ev x1 = u1) (h2 : ρ.ev x2 = u2) (hc : Fins P f [u0, u1, u2] w S T) (hp : ∀ v w', T v w' → Q (.panic [{ v := v, recovered := false }]) ρ w') (h : ∀ v w', S v w' → Q2 P l Q (upd ρ d v) w') : Q2 P (⟨none, .call (some d) f [x0, x1, x2]⟩ :: l) Q ρ w := by
  subst h0 h1 h2; exact Qmx (by rfl) hc hp h
theorem Qcz (k : Nat) {Ty : TypeId} {ms : Array (String × TypeId)} {w0 : World} (ht : P.underlying Ty = some (.interface ms)) : (Op.equalIn (k + 1) Ty .nilIface .nilIface).run P w0 = .ok true w0 := by
  simp only [Op.equalIn, Sem.run_bind, Q6 P Ty _ w0 ht, Result.andThen_ok]
  simp [Sem.run_pure]
theorem Qg8 {Ty : TypeId} {ms : Array (String × TypeId)} {w0 : World} (ht : P.underlying Ty = some (.interface ms)) : (Op.equal Ty .nilIface .nilIface).run P w0 = .ok true w0 := Qcz 9999 ht
theorem QaV (k : Nat) {Ty U : TypeId} {v : Value} {ms : Array (String × TypeId)} {w0 : World} (ht : P.underlying Ty = some (.interface ms)) : (Op.equalIn (k + 1) Ty (.iface U v) .nilIface).run P w0 = .ok false w0 := by
  simp only [Op.equalIn, Sem.run_bind, Q6 P Ty _ w0 ht, Result.andThen_ok]
  simp [Sem.run_pure]
theorem Qew {Ty U : TypeId} {v : Value} {ms : Array (String × TypeId)} {w0 : World} (ht : P.underlying Ty = some (.interface ms)) : (Op.equal Ty (.iface U v) .nilIface).run P w0 = .ok false w0 := QaV 9999 ht
/-- Three things to the front. -/
theorem St.pick3 {c : Cx} {L L1 L2 L3 : List Res} {r1 r2 r3 : Res} (h : St c w L) (p1 : Pick L r1 L1) (p2 : Pick L1 r2 L2) (p3 : Pick L2 r3 L3) : St c w (r1 :: r2 :: r3 :: L3) :=
  h.perm (p1.perm.trans (List.Perm.cons _ (p2.perm.trans (List.Perm.cons _ p3.perm))))
end
end Go.Lir
namespace Go.Lir
set_option linter.unusedVariables false
/-- What is left to be shown, apart from what is known. -/
structure Bx (K : Prop) : Prop where
  o : K
section
variable {K G : Prop}
theorem zn (k : K) (h : Bx K → G := by
  intro K9
  refine Q1l ?_
  (repeat (first | refine Qt ?_ | refine Qk ?_))
  exact K9.o) : G := h ⟨k⟩
theorem zcn (k : K) (h : Bx K → G := by
  intro K9
  refine s_cnil ?_
  (repeat (first | refine Qt ?_ | refine Qk ?_))
  exact K9.o) : G := h ⟨k⟩
theorem zsk (k : K) (h : Bx K → G := by
  intro K9
  refine Qix ?_
  (repeat (first | refine Qt ?_ | refine Qk ?_))
  exact K9.o) : G := h ⟨k⟩
theorem zex (k : K) (h : Bx K → G := by
  intro K9
  refine s_exit ?_
  (repeat (first | refine s_exitQ ?_ | refine s_exitT ?_ | refine s_exitB rfl ?_ | refine Qt ?_ | refine Qk ?_))
  exact K9.o) : G := h ⟨k⟩
theorem zr (k : K) (h : Bx K → G := by
  intro K9
  refine Q5z ?_
  (repeat (first | refine Q2U ?_ | refine Q2V ?_))
  exact K9.o) : G := h ⟨k⟩
theorem zy {A : Prop} (k : G) (h : A := by
  repeat (first
    | exact fun _ h => (List.not_mem_nil h).elim
    | refine List.forall_mem_cons.2 ⟨by first | exact Q3T hS rfl (NthP.nth (by repeat constructor)) rfl | exact Qaj hS rfl (NthP.nth (by repeat constructor)) rfl rfl | exact Qak hS (by assumption) rfl rfl | exact Q7N hS (by assumption) rfl rfl rfl | exact Qal hS (by assumption) rfl rfl | exact QeV hS (by assumption) rfl rfl rfl | exact gq_skip rfl rfl | exact Qbz rfl (Q3T hS rfl (NthP.nth (by repeat constructor)) rfl) | exact Qbz rfl (Qaj hS rfl (NthP.nth (by repeat constructor)) rfl rfl) | exact Qbz rfl (Qak hS (by assumption) rfl rfl) | exact Qbz rfl (Q7N hS (by assumption) rfl rfl rfl) | exact Qbz rfl (Qal hS (by assumption) rfl rfl) | exact Qbz rfl (QeV hS (by assumption) rfl rfl rfl), ?_⟩)) : A ∧ G := ⟨h, k⟩
end
section
variable {P : Program} {l : List GO} {Q : QT} {ρ : Env} {w : World} {c : Cx} {L : List Res} {i : Nat} {T es : Nat} {v : Value} {css : List (List Value)}
theorem zt {K : KT} (h : K ρ w) : Q2 P [] (Qy K Q) ρ w := Q1l (Qt h)
theorem St.ns {L' : List Res} (h : St c w L) (e : L = L' := by (conv => lhs; simp only [List.set_cons_zero, List.set_cons_succ]); first | done | exact rfl) : St c w L' := e ▸ h
theorem zgn {s : Nat} {b : Bool} {o : LO} {v : Value} (h : Q2 P l Q (updo ρ o.dst undef) w) (hg : ρ s = v := by exact rfl) (hw : QfP v b = false := by exact rfl) : Q2 P (⟨some (s, b), o⟩ :: l) Q ρ w := s_gn hg hw h
theorem zgy {s : Nat} {b : Bool} {o : LO} (h : Q2 P (⟨none, o⟩ :: l) Q ρ w) (hg : ρ s = .bool b := by exact rfl) : Q2 P (⟨some (s, b), o⟩ :: l) Q ρ w := s_gy hg h
theorem zct {c : Operand} {a b : LC} (h : a.wp P Q ρ w) (hc : ρ.ev c = .bool true := by exact rfl) : (LC.cond c a b).wp P Q ρ w := Q1E hc h
theorem zcf {c : Operand} {a b : LC} (h : b.wp P Q ρ w) (hc : ρ.ev c = .bool false := by exact rfl) : (LC.cond c a b).wp P Q ρ w := Q1F hc h
theorem zf0 {d : Nat} {x : Operand} {off b : Nat} (h : Q2 P l Q (upd ρ d (.pointer (some ⟨b, off, none⟩))) w) (hx : ρ.ev x = .pointer (some ⟨b, 0, none⟩) := by exact rfl) : Q2 P (⟨none, .fld d x off⟩ :: l) Q ρ w := s_fld0 hx h
theorem zfd {d : Nat} {x : Operand} {off b o : Nat} (h : Q2 P l Q (upd ρ d (.pointer (some ⟨b, o + off, none⟩))) w) (hx : ρ.ev x = .pointer (some ⟨b, o, none⟩) := by exact rfl) : Q2 P (⟨none, .fld d x off⟩ :: l) Q ρ w := s_fld hx h
theorem znc {d : Nat} {x : Operand} {a : Addr} (h : Q2 P l Q (upd ρ d (.pointer (some a))) w) (hx : ρ.ev x = .pointer (some a) := by exact rfl) : Q2 P (⟨none, .nilc d x⟩ :: l) Q ρ w := s_nilc hx h
theorem znt {d : Nat} {x : Operand} {b : Bool} (h : Q2 P l Q (upd ρ d (.bool (!b))) w) (hx : ρ.ev x = .bool b := by exact rfl) : Q2 P (⟨none, .un d .not x⟩ :: l) Q ρ w := s_not hx h
theorem zxt {d : Nat} {x : Operand} {i : Nat} {vs : List Value} {v : Value} (h : Q2 P l Q (upd ρ d v) w) (hx : ρ.ev x = .tuple ⟨vs⟩ := by exact rfl) (hv : vs[i]? = some v := by exact rfl) : Q2 P (⟨none, .ext d x i⟩ :: l) Q ρ w := Qmw hx hv h
theorem zm {d : Nat} {x : Operand} {v : Value} (h : Q2 P l Q (upd ρ d v) w) (hx : ρ.ev x = v := by (conv => lhs; whnf); first | done | exact rfl) : Q2 P (⟨none, .mov d x⟩ :: l) Q ρ w := Qu hx h
theorem zpt {d : Nat} {c x y : Operand} {v : Value} (h : Q2 P l Q (upd ρ d v) w) (hc : ρ.ev c = .bool true := by exact rfl) (hx : ρ.ev x = v := by (conv => lhs; whnf); first | done | exact rfl) : Q2 P (⟨none, .pick d c x y⟩ :: l) Q ρ w := s_pick_t hc hx h
theorem zpf {d : Nat} {c x y : Operand} {v : Value} (h : Q2 P l Q (upd ρ d v) w) (hc : ρ.ev c = .bool false := by exact rfl) (hx : ρ.ev y = v := by (conv => lhs; whnf); first | done | exact rfl) : Q2 P (⟨none, .pick d c x y⟩ :: l) Q ρ w := s_pick_f hc hx h
theorem zki {d : Nat} {T : TypeId} {x : Operand} {v : Value} (h : Q2 P l Q (upd ρ d (.iface T v)) w) (hx : ρ.ev x = v := by (conv => lhs; whnf); first | done | exact rfl) : Q2 P (⟨none, .mki d T x⟩ :: l) Q ρ w := s_mki hx h
theorem zl {d : Nat} {x : Operand} {b o : Nat} {cs : List Value} {u : Value} (hS : St c w L) (h : Q2 P l Q (upd ρ d u) w) (hx : ρ.ev x = .pointer (some ⟨b, o, none⟩) := by exact rfl) (hi : nth L i = some (blk b T cs) := by exact NthP.nth (by repeat constructor)) (hu : cs[o]? = some u := by exact rfl) : Q2 P (⟨none, .load1 d x⟩ :: l) Q ρ w := s_loadB hS hx hi hu h
theorem zlk {d : Nat} {x : Operand} {b o : Nat} {cs : List Value} {u : Value} (hS : St c w L) (h : Q2 P l Q (upd ρ d u) w) (ha : AtK c b o cs := by assumption) (hx : ρ.ev x = .pointer (some ⟨b, o, none⟩) := by exact rfl) (hu : cs[0]? = some u := by exact rfl) : Q2 P (⟨none, .load1 d x⟩ :: l) Q ρ w := s_loadK hS ha hx hu h
theorem zlj {d : Nat} {x : Operand} {b o j : Nat} {cs : List Value} {u : Value} (hS : St c w L) (h : Q2 P l Q (upd ρ d u) w) (ha : AtK c b o cs := by assumption) (hx : ρ.ev x = .pointer (some ⟨b, o + j, none⟩) := by exact rfl) (hu : cs[j]? = some u := by exact rfl) : Q2 P (⟨none, .load1 d x⟩ :: l) Q ρ w := s_loadKj hS ha hx hu h
theorem zv {d n : Nat} {x : Operand} {b o : Nat} {cs us : List Value} (hS : St c w L) (h : Q2 P l Q (upd ρ d (.agg ⟨us⟩)) w) (hx : ρ.ev x = .pointer (some ⟨b, o, none⟩) := by exact rfl) (hi : nth L i = some (blk b T cs) := by exact NthP.nth (by repeat constructor)) (hu : (cs.drop o).take n = us := by exact rfl) (hl : us.length = n := by exact rfl) : Q2 P (⟨none, .loadn d n x⟩ :: l) Q ρ w := s_loadnB hS hx hi hu hl h
theorem zvk {d n : Nat} {x : Operand} {b o : Nat} {cs : List Value} (hS : St c w L) (h : Q2 P l Q (upd ρ d (.agg ⟨cs⟩)) w) (ha : AtK c b o cs := by assumption) (hx : ρ.ev x = .pointer (some ⟨b, o, none⟩) := by exact rfl) (hl : cs.length = n := by exact rfl) : Q2 P (⟨none, .loadn d n x⟩ :: l) Q ρ w := s_loadnK hS ha hx hl h
theorem zLe {d n : Nat} {x : Operand} (hS : St c w L) (h : Q2 P l Q (upd ρ d (.int .i64 n)) w) (hx : ρ.ev x = v := by (conv => lhs; whnf); first | done | exact rfl) (hi : nth L i = some (sl T es v css) := by exact NthP.nth (by repeat constructor)) (hn : css.length = n := by first | exact List.length_map _ | rfl) : Q2 P (⟨none, .len d x⟩ :: l) Q ρ w := Q2h hS hx hi hn h
theorem zad {d : Nat} {T : TypeId} {x y : Operand} {a b : Int} (h : Q2 P l Q (upd ρ d (.int .i64 (a + b))) w) (hx : ρ.ev x = .int .i64 a := by exact rfl) (hy : ρ.ev y = .int .i64 b := by exact rfl) (h1 : -9223372036854775808 ≤ a + b := by omega) (h2 : a + b ≤ 9223372036854775807 := by omega) : Q2 P (⟨none, .bin d .add T x y⟩ :: l) Q ρ w := s_add hx hy h1 h2 h
theorem zsu {d : Nat} {T : TypeId} {x y : Operand} {a b : Int} (h : Q2 P l Q (upd ρ d (.int .i64 (a - b))) w) (hx : ρ.ev x = .int .i64 a := by exact rfl) (hy : ρ.ev y = .int .i64 b := by exact rfl) (h1 : -9223372036854775808 ≤ a - b := by omega) (h2 : a - b ≤ 9223372036854775807 := by omega) : Q2 P (⟨none, .bin d .sub T x y⟩ :: l) Q ρ w := Qiw hx hy h1 h2 h
theorem zmu {d : Nat} {T : TypeId} {x y : Operand} {a b : Int} (h : Q2 P l Q (upd ρ d (.int .i64 (a * b))) w) (hx : ρ.ev x = .int .i64 a := by exact rfl) (hy : ρ.ev y = .int .i64 b := by exact rfl) (h1 : -9223372036854775808 ≤ a * b := by omega) (h2 : a * b ≤ 9223372036854775807 := by omega) : Q2 P (⟨none, .bin d .mul T x y⟩ :: l) Q ρ w := s_mul hx hy h1 h2 h
theorem Q1G {d : Nat} {T : TypeId} {x y : Operand} {k : IntKind} {a b : Int} (h : Q2 P l Q (upd ρ d (.bool true)) w) (hx : ρ.ev x = .int k a := by exact rfl) (hy : ρ.ev y = .int k b := by exact rfl) (hp : a < b := by omega) : Q2 P (⟨none, .bin d .lss T x y⟩ :: l) Q ρ w := Qms hx hy hp h
theorem Q1N {d : Nat} {T : TypeId} {x y : Operand} {k : IntKind} {a b : Int} (h : Q2 P l Q (upd ρ d (.bool false)) w) (hx : ρ.ev x = .int k a := by exact rfl) (hy : ρ.ev y = .int k b := by exact rfl) (hp : ¬ (a < b) := by omega) : Q2 P (⟨none, .bin d .lss T x y⟩ :: l) Q ρ w := Qmt hx hy hp h
theorem Qx {d : Nat} {T : TypeId} {x y : Operand} {k : IntKind} {a b : Int} (h : Q2 P l Q (upd ρ d (.bool true)) w) (hx : ρ.ev x = .int k a := by exact rfl) (hy : ρ.ev y = .int k b := by exact rfl) (hp : a = b := by omega) : Q2 P (⟨none, .bin d .eql T x y⟩ :: l) Q ρ w := Q2w hx hy hp h
theorem QE {d : Nat} {T : TypeId} {x y : Operand} {k : IntKind} {a b : Int} (h : Q2 P l Q (upd ρ d (.bool false)) w) (hx : ρ.ev x = .int k a := by exact rfl) (hy : ρ.ev y = .int k b := by exact rfl) (hp : ¬ (a = b) := by omega) : Q2 P (⟨none, .bin d .eql T x y⟩ :: l) Q ρ w := Q2x hx hy hp h
theorem Q1o {d : Nat} {T : TypeId} {x y : Operand} {k : IntKind} {a b : Int} (h : Q2 P l Q (upd ρ d (.bool true)) w) (hx : ρ.ev x = .int k a := by exact rfl) (hy : ρ.ev y = .int k b := by exact rfl) (hp : a ≠ b := by omega) : Q2 P (⟨none, .bin d .neq T x y⟩ :: l) Q ρ w := s_neq_t hx hy hp h
theorem Q1B {d : Nat} {T : TypeId} {x y : Operand} {k : IntKind} {a b : Int} (h : Q2 P l Q (upd ρ d (.bool false)) w) (hx : ρ.ev x = .int k a := by exact rfl) (hy : ρ.ev y = .int k b := by exact rfl) (hp : ¬ (a ≠ b) := by omega) : Q2 P (⟨none, .bin d .neq T x y⟩ :: l) Q ρ w := s_neq_f hx hy hp h
theorem QQ {d : Nat} {T : TypeId} {x y : Operand} {k : IntKind} {a b : Int} (h : Q2 P l Q (upd ρ d (.bool true)) w) (hx : ρ.ev x = .int k a := by exact rfl) (hy : ρ.ev y = .int k b := by exact rfl) (hp : b < a := by omega) : Q2 P (⟨none, .bin d .gtr T x y⟩ :: l) Q ρ w := s_gtr_t hx hy hp h
theorem Q1c {d : Nat} {T : TypeId} {x y : Operand} {k : IntKind} {a b : Int} (h : Q2 P l Q (upd ρ d (.bool false)) w) (hx : ρ.ev x = .int k a := by exact rfl) (hy : ρ.ev y = .int k b := by exact rfl) (hp : ¬ (b < a) := by omega) : Q2 P (⟨none, .bin d .gtr T x y⟩ :: l) Q ρ w := s_gtr_f hx hy hp h
theorem Q7T {d : Nat} {T : TypeId} {x y : Operand} {k : IntKind} {a b : Int} (h : Q2 P l Q (upd ρ d (.bool true)) w) (hx : ρ.ev x = .int k a := by exact rfl) (hy : ρ.ev y = .int k b := by exact rfl) (hp : b ≤ a := by omega) : Q2 P (⟨none, .bin d .geq T x y⟩ :: l) Q ρ w := s_geq_t hx hy hp h
theorem QaN {d : Nat} {T : TypeId} {x y : Operand} {k : IntKind} {a b : Int} (h : Q2 P l Q (upd ρ d (.bool false)) w) (hx : ρ.ev x = .int k a := by exact rfl) (hy : ρ.ev y = .int k b := by exact rfl) (hp : ¬ (b ≤ a) := by omega) : Q2 P (⟨none, .bin d .geq T x y⟩ :: l) Q ρ w := s_geq_f hx hy hp h
theorem zleqt {d : Nat} {T : TypeId} {x y : Operand} {k : IntKind} {a b : Int} (h : Q2 P l Q (upd ρ d (.bool true)) w) (hx : ρ.ev x = .int k a := by exact rfl) (hy : ρ.ev y = .int k b := by exact rfl) (hp : a ≤ b := by omega) : Q2 P (⟨none, .bin d .leq T x y⟩ :: l) Q ρ w := s_leq_t hx hy hp h
theorem zst {x y : Operand} {b o : Nat} {cs : List Value} {u : Value} (hS : St c w L) (h : ∀ w', St c w' (L.set i (blk b T (cs.set o u))) → Q2 P l Q ρ w') (hx : ρ.ev x = .pointer (some ⟨b, o, none⟩) := by exact rfl) (hy : ρ.ev y = u := by (conv => lhs; whnf); first | done | exact rfl) (hi : nth L i = some (blk b T cs) := by exact NthP.nth (by repeat constructor)) (ho : o < cs.length := by simp) (h1 : oneC u = true := by first | rfl | assumption | exact hS.oneC (NthP.nth (by repeat constructor)) | exact SlR.oneC (by assumption)) : Q2 P (⟨none, .store1 x y⟩ :: l) Q ρ w := s_storeB hS hx hy hi ho h1 h
theorem zb {d : Nat} {x : Operand} {cs : List Value} (hS : St c w L) (h : ∀ b w', St c w' (blk b T cs :: L) → Q2 P l Q (upd ρ d (.pointer (some ⟨b, 0, none⟩))) w') (hx : ρ.ev x = v := by (conv => lhs; whnf); first | done | exact rfl) (hc : v.cells = ⟨cs⟩ := by rfl) : Q2 P (⟨none, .box d T x⟩ :: l) Q ρ w := Q2c hS hx hc h
theorem zie {d m : Nat} {x y : Operand} {k : IntKind} (hS : St c w L) (h : ∀ b o, ElP v css.length es m b o → Q2 P l Q (upd ρ d (.pointer (some ⟨b, o, none⟩))) w) (hx : ρ.ev x = v := by (conv => lhs; whnf); first | done | exact rfl) (hy : ρ.ev y = .int k (m : Int) := by exact rfl) (hi : nth L i = some (sl T es v css) := by exact NthP.nth (by repeat constructor)) (hm : m < css.length := by first | omega | (simp; omega)) : Q2 P (⟨none, .idx d es x y⟩ :: l) Q ρ w := Qcp hS hx hy hi hm h
theorem zij {d : Nat} {x y : Operand} {k : IntKind} {n : Int} (hS : St c w L) (h : ∀ b o, ElP v css.length es n.toNat b o → Q2 P l Q (upd ρ d (.pointer (some ⟨b, o, none⟩))) w) (hx : ρ.ev x = v := by (conv => lhs; whnf); first | done | exact rfl) (hy : ρ.ev y = .int k n := by exact rfl) (hi : nth L i = some (sl T es v css) := by exact NthP.nth (by repeat constructor)) (h0 : 0 ≤ n := by first | omega | (simp; omega)) (hm : n < css.length := by first | omega | (simp; omega)) : Q2 P (⟨none, .idx d es x y⟩ :: l) Q ρ w := Qhv hS hx hy hi h0 hm h
theorem zsn {n i b T : Nat} {x y : Operand} {cs us : List Value} (hS : St c w L) (h : ∀ w', St c w' (L.set i (blk b T us)) → Q2 P l Q ρ w') (hx : ρ.ev x = .pointer (some ⟨b, 0, none⟩) := by exact rfl) (hy : ρ.ev y = .agg ⟨us⟩ := by exact rfl) (hn : us.length = n := by rfl) (hi : nth L i = some (blk b T cs) := by exact NthP.nth (by repeat constructor)) (hc : cs.length = n := by rfl) (h1 : ∀ u ∈ us, oneC u = true := by first | (simp [oneC]; done) | assumption | exact Rep.one _ (by assumption) | (simp only [List.take_succ_cons, List.take_zero, List.drop_zero, List.mem_cons, List.not_mem_nil, or_false, forall_eq_or_imp, forall_eq]; ((try refine And.intro ?_ ?_) <;> try refine And.intro ?_ ?_) <;> first | rfl | assumption)) : Q2 P (⟨none, .storen n x y⟩ :: l) Q ρ w := Qmm hS hx hy hn hi hc h1 h
theorem zsm {n : Nat} {x y : Operand} {b o : Nat} {cs us cs' : List Value} (hS : St c w L) (h : ∀ w', St c w' (L.set i (blk b T cs')) → Q2 P l Q ρ w') (hx : ρ.ev x = .pointer (some ⟨b, o, none⟩) := by exact rfl) (hy : ρ.ev y = .agg ⟨us⟩ := by exact rfl) (hn : us.length = n := by rfl) (hi : nth L i = some (blk b T cs) := by exact NthP.nth (by repeat constructor)) (ho : o + n ≤ cs.length := by simp) (h1 : ∀ u ∈ us, oneC u = true := by first | (simp [oneC]; done) | assumption | exact Rep.one _ (by assumption) | (simp only [List.take_succ_cons, List.take_zero, List.drop_zero, List.mem_cons, List.not_mem_nil, or_false, forall_eq_or_imp, forall_eq]; ((try refine And.intro ?_ ?_) <;> try refine And.intro ?_ ?_) <;> first | rfl | assumption)) (hc : cs.take o ++ (us ++ cs.drop (o + n)) = cs' := by (conv => lhs; simp only [List.take_succ_cons, List.take_zero, List.drop_succ_cons, List.drop_zero, List.cons_append, List.nil_append]); first | done | exact rfl) : Q2 P (⟨none, .storen n x y⟩ :: l) Q ρ w := Q3u hS hx hy hn hi ho h1 hc h
theorem zf {t : Nat} {R : Ending → World → Prop} {v : Value} (h : R (.returned v) w) (hv : ρ t = v := by (conv => lhs; whnf); first | done | exact rfl) : retQ P [.tmp t] R .ret ρ w := QmJ hv h
theorem zf2 {t u : Nat} {R : Ending → World → Prop} {v v' : Value} (h : R (.returned (.tuple #[v, v'])) w) (hv : ρ t = v := by (conv => lhs; whnf); first | done | exact rfl) (hv' : ρ u = v' := by (conv => lhs; whnf); first | done | exact rfl) : retQ P [.tmp t, .tmp u] R .ret ρ w := Q3y hv hv' h
theorem zb0 {d : Nat} {z : List Value} (cs : List Value) (h : Q2 P l Q (upd ρ d (.agg ⟨cs⟩)) w) (hf : Q31 z [] = some cs := by rfl) : Q2 P (⟨none, .build d z []⟩ :: l) Q ρ w := s_build0  hf h
theorem zb1 {d : Nat} {z : List Value} {o0 n0 : Nat} {x0 : Operand} {v0 : Value} (cs : List Value) (h : Q2 P l Q (upd ρ d (.agg ⟨cs⟩)) w) (h0 : ρ.ev x0 = v0 := by (conv => lhs; whnf); first | done | exact rfl) (hf : Q31 z [(o0, n0, v0)] = some cs := by rfl) : Q2 P (⟨none, .build d z [(o0, n0, x0)]⟩ :: l) Q ρ w := s_build1 h0 hf h
theorem zB1 {d : Nat} {T : TypeId} {n : Nat} {z : List Value} {o0 n0 : Nat} {x0 : Operand} {v0 : Value} (hS : St c w L) (cs : List Value) (h : ∀ b w', St c w' (blk b T cs :: L) → Q2 P l Q (upd ρ d (.slice (some ⟨b, 0, none⟩) n n)) w') (h0 : ρ.ev x0 = v0 := by (conv => lhs; whnf); first | done | exact rfl) (hf : Q31 z [(o0, n0, v0)] = some cs := by rfl) : Q2 P (⟨none, .buildS d T n z [(o0, n0, x0)]⟩ :: l) Q ρ w := Q3v h0 hf fun b w' hb hf1 _ hk => h b w' (hS.laid hb hf1 hk)
theorem zb2 {d : Nat} {z : List Value} {o0 n0 : Nat} {x0 : Operand} {v0 : Value} {o1 n1 : Nat} {x1 : Operand} {v1 : Value} (cs : List Value) (h : Q2 P l Q (upd ρ d (.agg ⟨cs⟩)) w) (h0 : ρ.ev x0 = v0 := by (conv => lhs; whnf); first | done | exact rfl) (h1 : ρ.ev x1 = v1 := by (conv => lhs; whnf); first | done | exact rfl) (hf : Q31 z [(o0, n0, v0), (o1, n1, v1)] = some cs := by rfl) : Q2 P (⟨none, .build d z [(o0, n0, x0), (o1, n1, x1)]⟩ :: l) Q ρ w := Qlf h0 h1 hf h
theorem zb3 {d : Nat} {z : List Value} {o0 n0 : Nat} {x0 : Operand} {v0 : Value} {o1 n1 : Nat} {x1 : Operand} {v1 : Value} {o2 n2 : Nat} {x2 : Operand} {v2 : Value} (cs : List Value) (h : Q2 P l Q (upd ρ d (.agg ⟨cs⟩)) w) (h0 : ρ.ev x0 = v0 := by (conv => lhs; whnf); first | done | exact rfl) (h1 : ρ.ev x1 = v1 := by (conv => lhs; whnf); first | done | exact rfl) (h2 : ρ.ev x2 = v2 := by (conv => lhs; whnf); first | done | exact rfl) (hf : Q31 z [(o0, n0, v0), (o1, n1, v1), (o2, n2, v2)] = some cs := by rfl) : Q2 P (⟨none, .build d z [(o0, n0, x0), (o1, n1, x1), (o2, n2, x2)]⟩ :: l) Q ρ w := s_build3 h0 h1 h2 hf h
theorem zb4 {d : Nat} {z : List Value} {o0 n0 : Nat} {x0 : Operand} {v0 : Value} {o1 n1 : Nat} {x1 : Operand} {v1 : Value} {o2 n2 : Nat} {x2 : Operand} {v2 : Value} {o3 n3 : Nat} {x3 : Operand} {v3 : Value} (cs : List Value) (h : Q2 P l Q (upd ρ d (.agg ⟨cs⟩)) w) (h0 : ρ.ev x0 = v0 := by (conv => lhs; whnf); first | done | exact rfl) (h1 : ρ.ev x1 = v1 := by (conv => lhs; whnf); first | done | exact rfl) (h2 : ρ.ev x2 = v2 := by (conv => lhs; whnf); first | done | exact rfl) (h3 : ρ.ev x3 = v3 := by (conv => lhs; whnf); first | done | exact rfl) (hf : Q31 z [(o0, n0, v0), (o1, n1, v1), (o2, n2, v2), (o3, n3, v3)] = some cs := by rfl) : Q2 P (⟨none, .build d z [(o0, n0, x0), (o1, n1, x1), (o2, n2, x2), (o3, n3, x3)]⟩ :: l) Q ρ w := s_build4 h0 h1 h2 h3 hf h
theorem zB4 {d : Nat} {T : TypeId} {n : Nat} {z : List Value} {o0 n0 : Nat} {x0 : Operand} {v0 : Value} {o1 n1 : Nat} {x1 : Operand} {v1 : Value} {o2 n2 : Nat} {x2 : Operand} {v2 : Value} {o3 n3 : Nat} {x3 : Operand} {v3 : Value} (hS : St c w L) (cs : List Value) (h : ∀ b w', St c w' (blk b T cs :: L) → Q2 P l Q (upd ρ d (.slice (some ⟨b, 0, none⟩) n n)) w') (h0 : ρ.ev x0 = v0 := by (conv => lhs; whnf); first | done | exact rfl) (h1 : ρ.ev x1 = v1 := by (conv => lhs; whnf); first | done | exact rfl) (h2 : ρ.ev x2 = v2 := by (conv => lhs; whnf); first | done | exact rfl) (h3 : ρ.ev x3 = v3 := by (conv => lhs; whnf); first | done | exact rfl) (hf : Q31 z [(o0, n0, v0), (o1, n1, v1), (o2, n2, v2), (o3, n3, v3)] = some cs := by rfl) : Q2 P (⟨none, .buildS d T n z [(o0, n0, x0), (o1, n1, x1), (o2, n2, x2), (o3, n3, x3)]⟩ :: l) Q ρ w := Qmz h0 h1 h2 h3 hf fun b w' hb hf1 _ hk => h b w' (hS.laid hb hf1 hk)
theorem zb5 {d : Nat} {z : List Value} {o0 n0 : Nat} {x0 : Operand} {v0 : Value} {o1 n1 : Nat} {x1 : Operand} {v1 : Value} {o2 n2 : Nat} {x2 : Operand} {v2 : Value} {o3 n3 : Nat} {x3 : Operand} {v3 : Value} {o4 n4 : Nat} {x4 : Operand} {v4 : Value} (cs : List Value) (h : Q2 P l Q (upd ρ d (.agg ⟨cs⟩)) w) (h0 : ρ.ev x0 = v0 := by (conv => lhs; whnf); first | done | exact rfl) (h1 : ρ.ev x1 = v1 := by (conv => lhs; whnf); first | done | exact rfl) (h2 : ρ.ev x2 = v2 := by (conv => lhs; whnf); first | done | exact rfl) (h3 : ρ.ev x3 = v3 := by (conv => lhs; whnf); first | done | exact rfl) (h4 : ρ.ev x4 = v4 := by (conv => lhs; whnf); first | done | exact rfl) (hf : Q31 z [(o0, n0, v0), (o1, n1, v1), (o2, n2, v2), (o3, n3, v3), (o4, n4, v4)] = some cs := by rfl) : Q2 P (⟨none, .build d z [(o0, n0, x0), (o1, n1, x1), (o2, n2, x2), (o3, n3, x3), (o4, n4, x4)]⟩ :: l) Q ρ w := s_build5 h0 h1 h2 h3 h4 hf h
theorem zD {gs : List GO} {es : List (List Nat)} (C : List CI) (h : Q2 P (C.map fun c => gat gs c.1) Q ρ w.drew) (hok : Qf4 gs es C = true := by kernel_rfl) (hpl : (C.all fun c => match c.2 with | some (some _) => false | _ => true) = true := by kernel_rfl) : (LC.draw gs es).wp P Q ρ w := s_draw C hok hpl h
theorem zC {gs : List GO} {es : List (List Nat)} (C : List CI) (h : Q1t P gs C Q ρ w.drew) (hok : Qf4 gs es C = true := by kernel_rfl) : (LC.draw gs es).wp P Q ρ w := s_canon C hok h
theorem zR0 {d : Nat} {f : FuncId} {S : Value → World → Prop} (c : Rets P f [] w S) (h : ∀ v w', S v w' → Q2 P l Q (upd ρ d v) w') : Q2 P (⟨none, .call (some d) f []⟩ :: l) Q ρ w := s_rets_0  c h
theorem zR1 {d : Nat} {f : FuncId} {x0 : Operand} {u0 : Value} {S : Value → World → Prop} (h0 : ρ.ev x0 = u0 := by (conv => lhs; whnf); first | done | exact rfl) (c : Rets P f [u0] w S) (h : ∀ v w', S v w' → Q2 P l Q (upd ρ d v) w') : Q2 P (⟨none, .call (some d) f [x0]⟩ :: l) Q ρ w := s_rets_1 h0 c h
theorem zE1 {d : Nat} {f : FuncId} {x0 : Operand} {u0 : Value} {S T : Value → World → Prop} (h0 : ρ.ev x0 = u0 := by (conv => lhs; whnf); first | done | exact rfl) (c : Fins P f [u0] w S T) (p : ∀ v w', T v w' → Q (.panic [{ v := v, recovered := false }]) ρ w') (h : ∀ v w', S v w' → Q2 P l Q (upd ρ d v) w') : Q2 P (⟨none, .call (some d) f [x0]⟩ :: l) Q ρ w := s_ends_1 h0 c p h
theorem zR2 {d : Nat} {f : FuncId} {x0 x1 : Operand} {u0 u1 : Value} {S : Value → World → Prop} (h0 : ρ.ev x0 = u0 := by (conv => lhs; whnf); first | done | exact rfl) (h1 : ρ.ev x1 = u1 := by (conv => lhs; whnf); first | done | exact rfl) (c : Rets P f [u0, u1] w S) (h : ∀ v w', S v w' → Q2 P l Q (upd ρ d v) w') : Q2 P (⟨none, .call (some d) f [x0, x1]⟩ :: l) Q ρ w := s_rets_2 h0 h1 c h
theorem zE2 {d : Nat} {f : FuncId} {x0 x1 : Operand} {u0 u1 : Value} {S T : Value → World → Prop} (h0 : ρ.ev x0 = u0 := by (conv => lhs; whnf); first | done | exact rfl) (h1 : ρ.ev x1 = u1 := by (conv => lhs; whnf); first | done | exact rfl) (c : Fins P f [u0, u1] w S T) (p : ∀ v w', T v w' → Q (.panic [{ v := v, recovered := false }]) ρ w') (h : ∀ v w', S v w' → Q2 P l Q (upd ρ d v) w') : Q2 P (⟨none, .call (some d) f [x0, x1]⟩ :: l) Q ρ w := s_ends_2 h0 h1 c p h
theorem zR3 {d : Nat} {f : FuncId} {x0 x1 x2 : Operand} {u0 u1 u2 : Value} {S : Value → World → Prop} (h0 : ρ.ev x0 = u0 := by (conv => lhs; whnf); first | done | exact rfl) (h1 : ρ.ev x1 = u1 := by (conv => lhs; whnf); first | done | exact rfl) (h2 : ρ.ev x2 = u2 := by (conv => lhs; whnf); first | done | exact rfl) (c : Rets P f [u0, u1, u2] w S) (h : ∀ v w', S v w' → Q2 P l Q (upd ρ d v) w') : Q2 P (⟨none, .call (some d) f [x0, x1, x2]⟩ :: l) Q ρ w := s_rets_3 h0 h1 h2 c h
theorem zE3 {d : Nat} {f : FuncId} {x0 x1 x2 : Operand} {u0 u1 u2 : Value} {S T : Value → World → Prop} (h0 : ρ.ev x0 = u0 := by (conv => lhs; whnf); first | done | exact rfl) (h1 : ρ.ev x1 = u1 := by (conv => lhs; whnf); first | done | exact rfl) (h2 : ρ.ev x2 = u2 := by (conv => lhs; whnf); first | done | exact rfl) (c : Fins P f [u0, u1, u2] w S T) (p : ∀ v w', T v w' → Q (.panic [{ v := v, recovered := false }]) ρ w') (h : ∀ v w', S v w' → Q2 P l Q (upd ρ d v) w') : Q2 P (⟨none, .call (some d) f [x0, x1, x2]⟩ :: l) Q ρ w := s_ends_3 h0 h1 h2 c p h
theorem zR4 {d : Nat} {f : FuncId} {x0 x1 x2 x3 : Operand} {u0 u1 u2 u3 : Value} {S : Value → World → Prop} (h0 : ρ.ev x0 = u0 := by (conv => lhs; whnf); first | done | exact rfl) (h1 : ρ.ev x1 = u1 := by (conv => lhs; whnf); first | done | exact rfl) (h2 : ρ.ev x2 = u2 := by (conv => lhs; whnf); first | done | exact rfl) (h3 : ρ.ev x3 = u3 := by (conv => lhs; whnf); first | done | exact rfl) (c : Rets P f [u0, u1, u2, u3] w S) (h : ∀ v w', S v w' → Q2 P l Q (upd ρ d v) w') : Q2 P (⟨none, .call (some d) f [x0, x1, x2, x3]⟩ :: l) Q ρ w := s_rets_4 h0 h1 h2 h3 c h
variable {α : Type} {r : Rep α} {xs : List α}
theorem zL {d : Nat} {x : Operand} (h : Q2 P l Q (upd ρ d (.int .i64 xs.length)) w) (hx : ρ.ev x = v := by (conv => lhs; whnf); first | done | exact rfl) (hK : r.sl c v xs := by assumption) : Q2 P (⟨none, .len d x⟩ :: l) Q ρ w := s_lenL hx hK h
theorem zi {d m : Nat} {x y : Operand} {k : IntKind} (h : ∀ b o cs a, AtK c b o cs → xs[m]? = some a → r.at c cs a → Q2 P l Q (upd ρ d (.pointer (some ⟨b, o, none⟩))) w) (hx : ρ.ev x = v := by (conv => lhs; whnf); first | done | exact rfl) (hy : ρ.ev y = .int k (m : Int) := by exact rfl) (hK : r.sl c v xs := by assumption) (hes : r.es = es := by exact rfl) (hn : m < xs.length := by first | omega | (simp; omega)) : Q2 P (⟨none, .idx d es x y⟩ :: l) Q ρ w := Qk5 hx hy hK hes hn h
theorem zj {d : Nat} {x y : Operand} {k : IntKind} {n : Int} (h : ∀ b o cs a, AtK c b o cs → xs[n.toNat]? = some a → r.at c cs a → Q2 P l Q (upd ρ d (.pointer (some ⟨b, o, none⟩))) w) (hx : ρ.ev x = v := by (conv => lhs; whnf); first | done | exact rfl) (hy : ρ.ev y = .int k n := by exact rfl) (hK : r.sl c v xs := by assumption) (hes : r.es = es := by exact rfl) (h0 : 0 ≤ n := by first | omega | (simp; omega)) (hn : n < xs.length := by first | omega | (simp; omega)) : Q2 P (⟨none, .idx d es x y⟩ :: l) Q ρ w := s_idxL hx hy hK hes h0 hn h
theorem za {T T' d Ts Ts2 Ty nb i k b : Nat} {z : List Value} {x y : Operand} {ds : List Value} {css : List (List Value)} {a : α} (hel : Q2n P Ts = some (T, es, nb, z)) (hts : ∃ e2, P.underlying Ts2 = some (.slice e2)) (hS : St c w L) (h : ∀ v' w' css', r.ls c css' (xs ++ [a]) → oneC v' = true → St c w' (L.set i (Go.Lir.sl T es v' css')) → Q2 P l Q (upd ρ d v') w') (hx : ρ.ev x = v := by (conv => lhs; whnf); first | done | exact rfl) (hy : ρ.ev y = .slice (some ⟨b, 0, none⟩) 1 1 := by (conv => lhs; whnf); first | done | exact rfl) (hi : nth L i = some (Go.Lir.sl T es v css) := by exact NthP.nth (by repeat constructor)) (hk : nth L k = some (blk b T' ds) := by exact NthP.nth (by repeat constructor)) (hls : r.ls c css xs := by assumption) (ha : r.at c ds a := by first | assumption | exact rfl) (hes : r.es = es := by exact rfl) (hb : (xs.length + 1) * nb ≤ 140737488355328 := by first | omega | (simp only [List.length_take]; omega) | (simp; omega)) : Q2 P (⟨none, .raw ⟨some d, .call ⟨.builtin .append, #[x, y], #[Ts, Ts2]⟩, Ty, "", #[], none⟩⟩ :: l) Q ρ w := s_appR1 hel hts hS hx hy hi hk hls ha hes hb h
theorem zak {T d Ts Ts2 Ty nb i : Nat} {z : List Value} {x y : Operand} {v2 : Value} {css : List (List Value)} {ys : List α} (hel : Q2n P Ts = some (T, es, nb, z)) (hts : ∃ e2, P.underlying Ts2 = some (.slice e2)) (hS : St c w L) (h : ∀ v' w' css', r.ls c css' (xs ++ ys) → oneC v' = true → St c w' (L.set i (Go.Lir.sl T es v' css')) → Q2 P l Q (upd ρ d v') w') (hx : ρ.ev x = v := by (conv => lhs; whnf); first | done | exact rfl) (hy : ρ.ev y = v2 := by (conv => lhs; whnf); first | done | exact rfl) (hi : nth L i = some (Go.Lir.sl T es v css) := by exact NthP.nth (by repeat constructor)) (hls : r.ls c css xs := by assumption) (hK : r.sl c v2 ys := by assumption) (hes : r.es = es := by exact rfl) (hb : (xs.length + ys.length) * nb ≤ 140737488355328 := by first | omega | (simp only [List.length_take]; omega) | (simp; omega)) : Q2 P (⟨none, .raw ⟨some d, .call ⟨.builtin .append, #[x, y], #[Ts, Ts2]⟩, Ty, "", #[], none⟩⟩ :: l) Q ρ w := s_appRK hel hts hS hx hy hi hls hK hes hb h
def evs (ρ : Env) (ts : List Nat) : List (Nat × Value) := ts.map fun t => (t, ρ t)
theorem Qn5 (ρ : Env) : evs ρ [] = [] := rfl
theorem Qn6 {t : Nat} {ts : List Nat} {u : Value} {A : List (Nat × Value)} (h : ρ t = u) (h2 : evs ρ ts = A) : evs ρ (t :: ts) = (t, u) :: A := by subst h h2; rfl
theorem zh {A : List (Nat × Value)} (h : Has ρ A := by repeat' (first | exact trivial | refine And.intro rfl ?_)) : Has ρ A := h
theorem env2 {A B : List (Nat × Value)} (h : Has ρ A) (h2 : Has ρ B) : ∃ ρ', ρ = updl (updl ρ' B) A := ⟨ρ, by rw [Qir h2, Qir h]⟩
theorem zo {a : LC} (ts : List Nat) {A : List (Nat × Value)} (I : List (Nat × Value) → Env → World → Prop) (μ : Env → World → Nat) (h0 : I A ρ w) (h : ∀ ρ w, I A ρ w → a.wp P (Qy (fun ρ' w' => I A ρ' w' ∧ μ ρ' w' < μ ρ w) Q) ρ w) (hA : evs ρ ts = A := by (repeat (apply Qn6; · ((conv => lhs; whnf); first | done | exact rfl))); exact Qn5 _) : (LC.loop a).wp P Q ρ w := s_loop (I A) μ h0 h
theorem zM {a b : LC} (ts : List Nat) {A : List (Nat × Value)} (I : List (Nat × Value) → Env → World → Prop) (ha : a.wp P (Qy (I A) Q) ρ w) (hb : ∀ ρ w, I A ρ w → b.wp P Q ρ w) (hA : evs ρ ts = A := by (repeat (apply Qn6; · ((conv => lhs; whnf); first | done | exact rfl))); exact Qn5 _) : (LC.seq a b).wp P Q ρ w := s_mid (I A) ha hb
theorem zoL {a : LC} (hS : St c w L) (ts : List Nat) {A : List (Nat × Value)} (I : List (Nat × Value) → List Res → Env → World → Prop) (μ : Env → World → Nat) (h0 : I A L ρ w) (h : ∀ ρ w, I A L ρ w → a.wp P (Qy (fun ρ' w' => I A L ρ' w' ∧ μ ρ' w' < μ ρ w) Q) ρ w) (hA : evs ρ ts = A := by (repeat (apply Qn6; · ((conv => lhs; whnf); first | done | exact rfl))); exact Qn5 _) : (LC.loop a).wp P Q ρ w := s_loop (I A L) μ h0 h
theorem zML {a b : LC} (hS : St c w L) (ts : List Nat) {A : List (Nat × Value)} (I : List (Nat × Value) → List Res → Env → World → Prop) (ha : a.wp P (Qy (I A L) Q) ρ w) (hb : ∀ ρ w, I A L ρ w → b.wp P Q ρ w) (hA : evs ρ ts = A := by (repeat (apply Qn6; · ((conv => lhs; whnf); first | done | exact rfl))); exact Qn5 _) : (LC.seq a b).wp P Q ρ w := s_mid (I A L) ha hb
theorem zKL {l : List GO} (hS : St c w L) (n : Nat) (ts : List Nat) {A : List (Nat × Value)} (I : List (Nat × Value) → List Res → Env → World → Prop) (ha : Q2 P (l.take n) (Qy (I A L) Q) ρ w) (hb : ∀ ρ w, I A L ρ w → Q2 P (l.drop n) Q ρ w) (hA : evs ρ ts = A := by (repeat (apply Qn6; · ((conv => lhs; whnf); first | done | exact rfl))); exact Qn5 _) : Q2 P l Q ρ w := s_cut n (I A L) ha hb
theorem St.sp {L' : List Res} (h : St c w L) (e : SubP L' L := by (repeat constructor); first | done | fail) : St c w L' := h.subP e
theorem fd {r' : Res} (h : NthP L i r' := by repeat constructor) : nth L i = some r' := h.nth
theorem vw {a b : Value} (h : a = b := by (conv => lhs; whnf); first | done | exact rfl) : a = b := h
theorem St.p3 {L1 L2 L3 : List Res} {r1 r2 r3 : Res} (h : St c w L) (p1 : Pick L r1 L1 := by repeat constructor) (p2 : Pick L1 r2 L2 := by repeat constructor) (p3 : Pick L2 r3 L3 := by repeat constructor) : St c w (r1 :: r2 :: r3 :: L3) := h.pick3 p1 p2 p3
end
end Go.Lir
namespace Go.Lir
set_option linter.unusedVariables false
abbrev Flt := Int × Int
/-- The first fault. -/
def orF (a b : Flt) : Flt := if a.1 = 0 ∧ b.1 ≠ 0 then b else a
def mkF (c at' : Int) : Flt := if c = 0 then (0, 0) else (c, at')
theorem Q3z (a b c : Flt) : orF (orF a b) c = orF a (orF b c) := by
  unfold orF
  by_cases h1 : a.1 = 0 <;> by_cases h2 : b.1 = 0 <;> by_cases h3 : c.1 = 0 <;> simp [h1, h2, h3]
theorem orF_l {a b : Flt} (h : a.1 ≠ 0) : orF a b = a := by unfold orF; rw [if_neg (fun h' => h h'.1)]
theorem QlM {a b : Flt} (h : b.1 = 0) : orF a b = a := by unfold orF; rw [if_neg (fun h' => h'.2 h)]
theorem orF_0 {b : Flt} (h : b.1 = 0 → b = (0, 0)) : orF (0, 0) b = b := by
  unfold orF
  by_cases hb : b.1 = 0
  · rw [h hb]; rfl
  · rw [if_pos ⟨rfl, hb⟩]
theorem mkF_0 (at' : Int) : mkF 0 at' = (0, 0) := rfl
theorem mkF_c {c at' : Int} (h : c ≠ 0) : mkF c at' = (c, at') := if_neg h
theorem QeC (c at' : Int) : (mkF c at').1 = c := by unfold mkF; split <;> simp_all
theorem mkF_z (c at' : Int) : (mkF c at').1 = 0 → mkF c at' = (0, 0) := by rw [QeC]; rintro rfl; rfl
/-- Two codes at one place: the first that is not 0. -/
def orC (a b : Int) : Int := if a ≠ 0 then a else b
theorem Q2A {g : Flt} {a b at' : Int} : orF (orF g (mkF a at')) (mkF b at') = orF g (mkF (orC a b) at') := by
  rw [Q3z]
  congr 1
  unfold orC orF
  by_cases h : a = 0
  · subst h
    by_cases hb : b = 0
    · subst hb; rfl
    · simp [mkF, hb]
  · simp [mkF, h]

/-! which fields an instruction has -/
def fA (op : Int) : Bool := decide (op = 2 ∨ op = 4 ∨ op = 5 ∨ op = 6 ∨ op = 7 ∨ op = 8 ∨ op = 9 ∨ op = 10 ∨ op = 11 ∨ op = 13)
def fB (op : Int) : Bool := decide (op = 2 ∨ op = 7 ∨ op = 8 ∨ op = 9 ∨ op = 10)
def fC (op : Int) : Bool := decide (op = 10)
def fK (op : Int) : Bool := decide (op = 2 ∨ op = 6 ∨ op = 7 ∨ op = 14)
def fN (op : Int) : Bool := decide (op = 1)
def fG (op : Int) : Bool := decide (op = 14)
def fR (op : Int) : Bool := decide (op = 5 ∨ op = 14)
/-- A field that the kind has not is not 0. -/
def Ins.odd (x : Ins) : Prop := (fA x.op = false ∧ x.a ≠ 0) ∨ (fB x.op = false ∧ x.b ≠ 0) ∨ (fC x.op = false ∧ x.c ≠ 0) ∨ (fK x.op = false ∧ x.k ≠ 0) ∨ (fN x.op = false ∧ x.n ≠ 0) ∨ (fG x.op = false ∧ 0 < x.regs.length) ∨ (fR x.op = false ∧ 0 < x.args.length)
instance (x : Ins) : Decidable x.odd := by unfold Ins.odd; infer_instance
/-- What stands behind the form, kind by kind. -/
def Q2i (n : Nat) (x : Ins) : Int :=
  if x.op = 2 then (if x.k < 1 ∨ 9 < x.k then 1 else 0)
  else if x.op = 5 then (if 8 < x.args.length then 2 else 0)
  else if x.op = 6 ∨ x.op = 7 then (if x.k < 0 ∨ 8 ≤ x.k then 1 else 0)
  else if x.op = 14 then (if x.k < 0 ∨ (n : Int) ≤ x.k then 1 else if 6 < x.regs.length ∨ 8 < x.args.length then 2 else 0)
  else 0
def Q1L (n : Nat) (x : Ins) : Int := if x.op < 1 ∨ 14 < x.op then 3 else if x.odd then 4 else Q2i n x
def Q1y (n : Nat) (t : To) (is : Bool) : Int :=
  if is = false then (if t.block ≠ 0 ∨ 0 < t.regs.length ∨ 0 < t.args.length then 4 else 0)
  else if t.block < 0 ∨ (n : Int) ≤ t.block then 1 else if 16 < t.regs.length ∨ 8 < t.args.length then 2 else 0
def Q2P (n : Nat) (e : Tail) : Int :=
  if e.op < 1 ∨ 3 < e.op then 3
  else if e.op ≠ 2 ∧ e.a ≠ 0 ∨ e.op ≠ 3 ∧ 0 < e.args.length then 4
  else if 8 < e.args.length then 2
  else orC (Q1y n e.yes (decide (e.op ≠ 3))) (Q1y n e.no (decide (e.op = 2)))
def Q9e (regs : Int) : List Ty → Int
  | [] => 0
  | t :: l => orC (t.fault regs) (Q9e regs l)
def QU (l : List Ty) (regs : Int) : Int := if 8 < l.length then 2 else Q9e regs l
def Q3E (f : Nat) : Int := f * 10000 + 9999
def Q4a (f b : Nat) : Int := f * 10000 + b * 100 + 90
def Qgs (f b : Nat) : Int := f * 10000 + b * 100 + 91
def Qjz (f b i : Nat) : Int := f * 10000 + b * 100 + i
/-- The instructions from the i-th on. -/
def Q32 (n f b : Nat) : Nat → List Ins → Flt
  | _, [] => (0, 0)
  | i, x :: l => orF (mkF (Q1L n x) (Qjz f b i)) (Q32 n f b (i + 1) l)
def Q2J (x : Fun) (b : Nat) (y : Block) : Int :=
  if y.regs < x.regs ∨ 16 < y.regs then 1
  else if QU y.params y.regs ≠ 0 then QU y.params y.regs
  else if b = 0 ∧ (y.regs ≠ x.regs ∨ y.params ≠ x.params) then 9
  else if 40 < y.code.length then 2 else 0
def Q4u (n f : Nat) (x : Fun) (b : Nat) (y : Block) : Flt := orF (mkF (Q2J x b y) (Q4a f b)) (orF (Q32 n f b 0 y.code) (mkF (Q2P x.blocks.length y.fin) (Qgs f b)))
def Q1M (n f : Nat) (x : Fun) : Nat → List Block → Flt
  | _, [] => (0, 0)
  | b, y :: l => orF (Q4u n f x b y) (Q1M n f x (b + 1) l)
def Q4W (f : Nat) (x : Fun) : Int :=
  if x.regs < 0 ∨ 6 < x.regs then 1
  else if QU x.params x.regs ≠ 0 then QU x.params x.regs
  else if QU x.results x.regs ≠ 0 then QU x.results x.regs
  else if x.blocks.length < 1 ∨ 12 < x.blocks.length then 2
  else if f = 0 ∧ (0 < x.regs ∨ 0 < x.params.length ∨ ∃ t ∈ x.results, t.kind ≠ 1) then 18 else 0
def Qe4 (n f : Nat) (x : Fun) : Flt := orF (mkF (Q4W f x) (Q3E f)) (Q1M n f x 0 x.blocks)
def Q3C (n : Nat) : Nat → List Fun → Flt
  | _, [] => (0, 0)
  | f, x :: l => orF (Qe4 n f x) (Q3C n (f + 1) l)
def Module.fault (m : Module) : Flt := orF (mkF (if m.funcs.length < 1 ∨ 8 < m.funcs.length then 2 else 0) (-1)) (Q3C m.funcs.length 0 m.funcs)
/-! has -/
def hasTab : List ByteArray := [⟨#[]⟩, ⟨#[110]⟩, ⟨#[97, 98, 107]⟩, ⟨#[]⟩, ⟨#[97]⟩, ⟨#[97, 114]⟩, ⟨#[97, 107]⟩, ⟨#[97, 98, 107]⟩, ⟨#[97, 98]⟩, ⟨#[97, 98]⟩, ⟨#[97, 98, 99]⟩, ⟨#[97]⟩, ⟨#[]⟩, ⟨#[97]⟩, ⟨#[107, 103, 114]⟩]
def hasF (op : Int) : ByteArray := if op < 1 ∨ 14 < op then ⟨#[]⟩ else hasTab.getD op.toNat ⟨#[]⟩
def Q1d (s : ByteArray) (c : Nat) : Bool := s.data.toList.any fun b => decide (b.toNat = c)
theorem op_cases {op : Int} (h1 : ¬ op < 1) (h2 : ¬ 14 < op) : op = 1 ∨ op = 2 ∨ op = 3 ∨ op = 4 ∨ op = 5 ∨ op = 6 ∨ op = 7 ∨ op = 8 ∨ op = 9 ∨ op = 10 ∨ op = 11 ∨ op = 12 ∨ op = 13 ∨ op = 14 := by omega
theorem with_all (op : Int) (h : ¬ (op < 1 ∨ 14 < op)) : Q1d (hasF op) 97 = fA op ∧ Q1d (hasF op) 98 = fB op ∧ Q1d (hasF op) 99 = fC op ∧ Q1d (hasF op) 107 = fK op ∧ Q1d (hasF op) 110 = fN op ∧ Q1d (hasF op) 103 = fG op ∧ Q1d (hasF op) 114 = fR op := by
  rcases op_cases (op := op) (by omega) (by omega) with rfl | rfl | rfl | rfl | rfl | rfl | rfl | rfl | rfl | rfl | rfl | rfl | rfl | rfl <;> decide
end Go.Lir
namespace Go.Lir
set_option linter.unusedVariables false
structure Val where
  kind : Int
  region : Int
  thing : Int
  n : Int
deriving DecidableEq
def Val.cells (v : Val) : List Value := [.int .i64 v.kind, .int .i64 v.region, .int .i64 v.thing, .int .i64 v.n]
def Val.v (v : Val) : Value := .agg ⟨v.cells⟩
def Val.zero : Val := ⟨0, 0, 0, 0⟩
structure Thg where
  array : Bool
  l : List Val
structure Rgn where
  there : Bool
  l : List Thg
  pages : Int
  used : Int
def Rgn.none : Rgn := ⟨false, [], 0, 0⟩
structure HpS where
  l : List Rgn
  left : Int
def HpS.reg (s : HpS) (k : Int) : Rgn := if 0 ≤ k then s.l.getD k.toNat Rgn.none else Rgn.none
def HpS.has (s : HpS) (k : Int) : Bool := (s.reg k).there
def HpS.live (s : HpS) : Nat := s.l.countP fun r => r.there
def HpS.full (s : HpS) : Bool := decide (s.live = 16)
def HpS.open (s : HpS) : HpS := if s.full then s else ⟨s.l ++ [⟨true, [], 0, 0⟩], s.left⟩
def HpS.openV (s : HpS) : Val := if s.full then Val.zero else ⟨2, s.l.length, 0, 0⟩
def HpS.can (s : HpS) (v : Val) : Bool := decide (v.kind = 2) && s.has v.region
def HpS.shut (s : HpS) (v : Val) : HpS := if s.can v then ⟨s.l.set v.region.toNat Rgn.none, s.left + (s.reg v.region).pages⟩ else s
def Rgn.more (r : Rgn) (n : Int) : Bool := decide (r.pages = 0 ∨ 16 < r.used + n)
def Rgn.room (r : Rgn) (n : Int) : Rgn := if r.more n then ⟨r.there, r.l, r.pages + 1, n⟩ else ⟨r.there, r.l, r.pages, r.used + n⟩
def Rgn.push (r : Rgn) (t : Thg) : Rgn := ⟨r.there, r.l ++ [t], r.pages, r.used⟩
def HpS.code (s : HpS) (v : Val) (n : Int) : Int := if !s.can v then 20 else if (s.reg v.region).more n ∧ s.left = 0 then 14 else 0
def HpS.put (s : HpS) (v : Val) (n : Int) (t : Thg) : HpS := if s.code v n = 0 then ⟨s.l.set v.region.toNat (((s.reg v.region).room n).push t), if (s.reg v.region).more n then s.left - 1 else s.left⟩ else s
def HpS.putV (s : HpS) (v : Val) (kind n : Int) : Val := if s.code v n = 0 then ⟨kind, v.region, (s.reg v.region).l.length, 0⟩ else Val.zero
def HpS.thg (s : HpS) (k t : Nat) : Thg := (s.reg k).l.getD t ⟨false, []⟩
def HpS.at_ (s : HpS) (v : Val) : Option (Nat × Nat) :=
  if (v.kind = 3 ∨ v.kind = 4) ∧ s.has v.region = true ∧ 0 ≤ v.thing ∧ v.thing < (s.reg v.region).l.length ∧ (s.thg v.region.toNat v.thing.toNat).array = decide (v.kind = 4) then some (v.region.toNat, v.thing.toNat) else none
def HpS.get (s : HpS) (v : Val) (k : Int) : Val × Int := match s.at_ v with
  | none => (Val.zero, 20)
  | some (r, t) => if 0 ≤ k ∧ k < (s.thg r t).l.length then ((s.thg r t).l.getD k.toNat Val.zero, 0) else (Val.zero, 1)
def HpS.setC (s : HpS) (v : Val) (k : Int) (x : Val) : Int := match s.at_ v with
  | none => 20
  | some (r, t) => if (s.thg r t).array = true ∧ x.kind ≠ 1 then 20 else if 0 ≤ k ∧ k < (s.thg r t).l.length then 0 else 1
def Rgn.upd (r : Rgn) (t : Nat) (x : Thg) : Rgn := ⟨r.there, r.l.set t x, r.pages, r.used⟩
def Thg.upd (t : Thg) (k : Nat) (x : Val) : Thg := ⟨t.array, t.l.set k x⟩
def HpS.set (s : HpS) (v : Val) (k : Int) (x : Val) : HpS := match s.at_ v with
  | none => s
  | some (r, t) => if s.setC v k x = 0 then ⟨s.l.set r ((s.reg r).upd t ((s.thg r t).upd k.toNat x)), s.left⟩ else s
def HpS.len (s : HpS) (v : Val) : Int × Int := match s.at_ v with
  | none => (0, 20)
  | some (r, t) => ((s.thg r t).l.length, 0)
def Q4x (l : List Val) : Int := if l.length = 0 then 1 else l.length
def HpS.tuple (s : HpS) (v : Val) (l : List Val) : HpS := s.put v (Q4x l) ⟨false, l⟩
def Q4H (n : Int) : List Val := List.replicate n.toNat ⟨1, 0, 0, 0⟩
def HpS.arrC (s : HpS) (v : Val) (n : Int) : Int := if n < 0 ∨ 15 < n then 1 else s.code v (n + 1)
def HpS.arr (s : HpS) (v : Val) (n : Int) : HpS := if n < 0 ∨ 15 < n then s else s.put v (n + 1) ⟨true, Q4H n⟩
def HpS.arrV (s : HpS) (v : Val) (n : Int) : Val := if n < 0 ∨ 15 < n then Val.zero else s.putV v 4 (n + 1)

/-- Nothing of it is greater than N. -/
structure HpS.Ok (N : Nat) (s : HpS) : Prop where
  len : s.l.length ≤ N
  each : ∀ r ∈ s.l, r.l.length ≤ N ∧ (∀ t ∈ r.l, t.l.length ≤ 1000) ∧ 0 ≤ r.pages ∧ 0 ≤ r.used ∧ r.used ≤ 1000 ∧ (r.there = false → r = Rgn.none)
  left : 0 ≤ s.left
  sum : s.left + (s.l.map Rgn.pages).sum ≤ 1000
  live : s.live ≤ 16

theorem Qhl {l l' : List Int} (h : l.Perm l') : l.sum = l'.sum := by
  induction h with
  | nil => rfl
  | cons x _ ih => rw [List.sum_cons, List.sum_cons, ih]
  | swap x y l => simp only [List.sum_cons]; omega
  | trans _ _ h1 h2 => rw [h1, h2]
theorem QgP {l : List Int} (h : ∀ x ∈ l, 0 ≤ x) : 0 ≤ l.sum := by
  induction l with
  | nil => simp
  | cons x l ih => rw [List.sum_cons]; have := h x (by simp); have := ih fun y hy => h y (by simp [hy]); omega
theorem Qam {α : Type} : ∀ {l : List α} {k : Nat} {x : α}, l[k]? = some x → l.Perm (x :: l.eraseIdx k)
  | [], _, _, h => by simp at h
  | y :: l, 0, x, h => by simp at h; subst h; exact .refl _
  | y :: l, k + 1, x, h => ((Qam (l := l) (by simpa using h)).cons y).trans (.swap _ _ _)
theorem Qev {α : Type} : ∀ {l : List α} {k : Nat} {x : α}, k < l.length → (l.set k x).Perm (x :: l.eraseIdx k)
  | [], _, _, h => by simp at h
  | y :: l, 0, x, h => .refl _
  | y :: l, k + 1, x, h => ((Qev (l := l) (by simpa using h)).cons y).trans (.swap _ _ _)
theorem sum_set {l : List Rgn} {k : Nat} {r r' : Rgn} (hr : l[k]? = some r) : ((l.set k r').map Rgn.pages).sum + r.pages = (l.map Rgn.pages).sum + r'.pages := by
  have h1 := Qhl ((Qam hr).map Rgn.pages)
  have h2 := Qhl ((Qev (x := r') (List.getElem?_eq_some_iff.1 hr).1).map Rgn.pages)
  rw [List.map_cons, List.sum_cons] at h1 h2
  rw [h1, h2]; omega
theorem Qe2 {l : List Rgn} {k : Nat} {r r' : Rgn} (hr : l[k]? = some r) : ((l.set k r').countP fun r => r.there) + (if r.there then 1 else 0) = (l.countP fun r => r.there) + if r'.there then 1 else 0 := by
  have h1 := (Qam hr).countP_eq fun r : Rgn => r.there
  have h2 := (Qev (x := r') (List.getElem?_eq_some_iff.1 hr).1).countP_eq fun r : Rgn => r.there
  rw [List.countP_cons] at h1 h2
  rw [h1, h2]; omega
theorem HpS.Ok.pages {N : Nat} {s : HpS} (h : s.Ok N) : s.left ≤ 1000 ∧ ∀ r ∈ s.l, r.pages + s.left ≤ 1000 := by
  have h1 := h.sum
  have h2 := QgP (l := s.l.map Rgn.pages) (by intro x hx; obtain ⟨r, hr, rfl⟩ := List.mem_map.1 hx; exact (h.each r hr).2.2.1)
  have h3 := h.left
  refine ⟨by omega, fun r hr => ?_⟩
  obtain ⟨k, hk⟩ := List.mem_iff_getElem?.1 hr
  have h4 := Qhl ((Qam hk).map Rgn.pages)
  rw [List.map_cons, List.sum_cons] at h4
  have h5 := QgP (l := (s.l.eraseIdx k).map Rgn.pages) (by intro x hx; obtain ⟨r, hr, rfl⟩ := List.mem_map.1 hx; exact (h.each r (List.mem_of_mem_eraseIdx hr)).2.2.1)
  omega
theorem mem_set_or {α : Type} {l : List α} {k : Nat} {x y : α} (h : y ∈ l.set k x) : y = x ∨ y ∈ l := (List.mem_or_eq_of_mem_set h).symm
theorem HpS.Ok.mono {N M : Nat} {s : HpS} (h : s.Ok N) (hm : N ≤ M) : s.Ok M := ⟨by have := h.len; omega, fun r hr => by obtain ⟨h1, h2⟩ := h.each r hr; exact ⟨by omega, h2⟩, h.left, h.sum, h.live⟩
theorem HpS.ok_set {N M : Nat} {s : HpS} (h : s.Ok N) {k : Nat} {r r' : Rgn} (hr : s.l[k]? = some r) {left : Int} (hM : N ≤ M) (h0 : 0 ≤ left) (hs : left + r'.pages = s.left + r.pages) (hl : s.live + (if r'.there then 1 else 0) ≤ 16 + if r.there then 1 else 0)
    (he : r'.l.length ≤ M ∧ (∀ t ∈ r'.l, t.l.length ≤ 1000) ∧ 0 ≤ r'.pages ∧ 0 ≤ r'.used ∧ r'.used ≤ 1000 ∧ (r'.there = false → r' = Rgn.none)) : (⟨s.l.set k r', left⟩ : HpS).Ok M := by
  have h1 := sum_set (r' := r') hr
  have h2 := Qe2 (r' := r') hr
  have h3 := h.sum
  have h4 := h.len
  refine ⟨by rw [List.length_set]; omega, fun x hx => ?_, h0, by show left + ((s.l.set k r').map Rgn.pages).sum ≤ 1000; omega, ?_⟩
  · rcases mem_set_or hx with rfl | hx
    · exact he
    · obtain ⟨g1, g2⟩ := h.each x hx; exact ⟨by omega, g2⟩
  · show (s.l.set k r').countP (fun r => r.there) ≤ 16
    have : s.live = s.l.countP fun r => r.there := rfl
    omega
theorem HpS.reg_get {s : HpS} {k : Nat} {r : Rgn} (h : s.l[k]? = some r) : s.reg k = r := by
  unfold HpS.reg; rw [if_pos (by omega), Int.toNat_natCast, List.getD_eq_getElem?_getD, h]; rfl
theorem HpS.ok_put {N : Nat} {s : HpS} (h : s.Ok N) {v : Val} {n : Int} (hn : 1 ≤ n ∧ n ≤ 1000) {t : Thg} (ht : t.l.length ≤ 1000) : (s.put v n t).Ok (N + 1) := by
  unfold HpS.put
  split
  · rename_i hc
    have hcan : s.can v = true := by
      unfold HpS.code at hc
      cases hx : s.can v with
      | true => rfl
      | false => rw [hx] at hc; cases hc
    unfold HpS.can at hcan
    rw [Bool.and_eq_true] at hcan
    have hh := hcan.2
    unfold HpS.has HpS.reg at hh
    split at hh
    · rename_i h0
      rw [List.getD_eq_getElem?_getD] at hh
      cases hk : s.l[v.region.toNat]? with
      | none => rw [hk] at hh; cases hh
      | some r =>
        have hrg : s.reg v.region = r := by have := HpS.reg_get hk; rw [Int.toNat_of_nonneg h0] at this; exact this
        have hth : r.there = true := by rw [hk] at hh; exact hh
        rw [hrg]
        have he := h.each r (List.mem_of_getElem? hk)
        have hl := h.left
        have hlive := h.live
        have hne : r.more n = true → s.left ≠ 0 := fun hm e => by
          unfold HpS.code at hc
          rw [hrg] at hc
          split at hc
          · cases hc
          · rw [if_pos ⟨hm, e⟩] at hc; cases hc
        have hu : ¬ r.more n = true → r.used + n ≤ 16 := fun hm => by unfold Rgn.more at hm; rw [decide_eq_true_iff] at hm; omega
        refine HpS.ok_set h hk (by omega) ?_ ?_ ?_ ?_
        · split
          · rename_i hm; have := hne hm; omega
          · exact hl
        · unfold Rgn.room
          split <;> simp only [Rgn.push] <;> omega
        · unfold Rgn.room
          split <;> simp only [Rgn.push, hth, if_true] <;> omega
        · obtain ⟨g1, g2, g3, g4, g5, g6⟩ := he
          have e1 : (r.room n).l = r.l ∧ (r.room n).there = r.there ∧ 0 ≤ (r.room n).pages ∧ 0 ≤ (r.room n).used ∧ (r.room n).used ≤ 1000 := by
            unfold Rgn.room
            split
            · exact ⟨rfl, rfl, by simp only; omega, by simp only; omega, by simp only; omega⟩
            · rename_i hm; have := hu hm; exact ⟨rfl, rfl, by simp only; omega, by simp only; omega, by simp only; omega⟩
          obtain ⟨e1, e2, e3, e4, e5⟩ := e1
          refine ⟨by simp [Rgn.push, e1]; omega, fun x hx => ?_, e3, e4, e5, fun hf => ?_⟩
          · simp only [Rgn.push, e1, List.mem_append, List.mem_singleton] at hx
            rcases hx with hx | rfl
            · exact g2 x hx
            · exact ht
          · simp only [Rgn.push, e2, hth] at hf; cases hf
    · cases hh
  · exact h.mono (by omega)
theorem HpS.ok_shut {N : Nat} {s : HpS} (h : s.Ok N) {m : Nat} {r : Rgn} (hk : s.l[m]? = some r) : (⟨s.l.set m Rgn.none, s.left + r.pages⟩ : HpS).Ok N := by
  have he := h.each r (List.mem_of_getElem? hk)
  have hl := h.left
  have hlive := h.live
  exact HpS.ok_set h hk (Nat.le_refl _) (by omega) (by simp [Rgn.none]) (by simp [Rgn.none]; split <;> omega) ⟨by simp [Rgn.none], by simp [Rgn.none], by simp [Rgn.none], by simp [Rgn.none], by simp [Rgn.none], fun _ => rfl⟩
theorem HpS.ok_open {N : Nat} {s : HpS} (h : s.Ok N) : s.open.Ok (N + 1) := by
  unfold HpS.open
  split
  · exact h.mono (by omega)
  · rename_i hf
    have hl : s.live ≠ 16 := fun e => hf (decide_eq_true e)
    have hlive := h.live
    have h2 := h.sum
    have h3 := h.len
    refine ⟨by simp; omega, fun r hr => ?_, h.left, by simp; omega, ?_⟩
    · rcases List.mem_append.1 hr with hr | hr
      · obtain ⟨g1, g2⟩ := h.each r hr; exact ⟨by omega, g2⟩
      · simp only [List.mem_singleton] at hr; subst hr; exact ⟨by simp, by simp, by simp, by simp, by simp, fun e => by cases e⟩
    · show (s.l ++ [(⟨true, [], 0, 0⟩ : Rgn)]).countP (fun r : Rgn => r.there) ≤ 16
      rw [List.countP_append]
      have : s.live = s.l.countP fun r : Rgn => r.there := rfl
      simp; omega
end Go.Lir
namespace Go.Lir
@[reducible] def qm (d x : Nat) : GO := ⟨none, .mov d (.tmp x)⟩
@[reducible] def qk (d : Nat) (v : Value) : GO := ⟨none, .mov d (.const v)⟩
@[reducible] def qf (d x k : Nat) : GO := ⟨none, .fld d (.tmp x) k⟩
@[reducible] def ql (d x : Nat) : GO := ⟨none, .load1 d (.tmp x)⟩
@[reducible] def qV (d n x : Nat) : GO := ⟨none, .loadn d n (.tmp x)⟩
@[reducible] def qn (d x : Nat) : GO := ⟨none, .nilc d (.tmp x)⟩
@[reducible] def qL (d x : Nat) : GO := ⟨none, .len d (.tmp x)⟩
@[reducible] def qs (x y : Nat) : GO := ⟨none, .store1 (.tmp x) (.tmp y)⟩
@[reducible] def qw (n x y : Nat) : GO := ⟨none, .storen n (.tmp x) (.tmp y)⟩
@[reducible] def qi (d es x y : Nat) : GO := ⟨none, .idx d es (.tmp x) (.tmp y)⟩
@[reducible] def qx (d x k : Nat) : GO := ⟨none, .ext d (.tmp x) k⟩
@[reducible] def qb (d T x : Nat) : GO := ⟨none, .box d T (.tmp x)⟩
@[reducible] def qt (d : Nat) (o : BinOp) (T x y : Nat) : GO := ⟨none, .bin d o T (.tmp x) (.tmp y)⟩
@[reducible] def qj (d : Nat) (o : BinOp) (T x : Nat) (n : Int) : GO := ⟨none, .bin d o T (.tmp x) (.const (.int .i64 n))⟩
@[reducible] def qg (s : Nat) (b : Bool) (o : GO) : GO := ⟨some (s, b), o.2⟩
@[reducible] def vi (n : Int) : Value := .int .i64 n
@[reducible] def vn : Value := .slice none 0 0
end Go.Lir
