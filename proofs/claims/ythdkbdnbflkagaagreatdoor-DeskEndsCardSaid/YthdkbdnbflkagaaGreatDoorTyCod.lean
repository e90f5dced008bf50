/- The recursive type value: how it is read. Generic over the program: a struct of two ints and a slice of itself. -/
import Derived.Test.YthdkbdnbflkagaaGreatDoorLirCod
import Derived.Test.YthdkbdnbflkagaaGreatDoorLirSt
namespace Go.Lir
inductive Ty where
  | mk : Int → Int → List Ty → Ty
def Ty.kind : Ty → Int | .mk k _ _ => k
def Ty.r : Ty → Int | .mk _ r _ => r
def Ty.l : Ty → List Ty | .mk _ _ l => l
/-- cs is the type t, read to the depth n; what is read lies in F. -/
def tyRd (H : Heap) (F : Nat → Prop) : Nat → List Value → Ty → Prop
  | 0, _, _ => False
  | n + 1, cs, t => ∃ v css, cs = [.int .i64 t.kind, .int .i64 t.r, v] ∧ SlR H 3 v F css ∧ css.length = t.l.length ∧ t.l.length ≤ 140737488355328 ∧ ∀ (m : Nat) (x : Ty), t.l[m]? = some x → ∃ d, css[m]? = some d ∧ tyRd H F n d x
theorem tyRd.len {H : Heap} {F : Nat → Prop} : ∀ {n : Nat} {cs : List Value} {t : Ty}, tyRd H F n cs t → cs.length = 3
  | 0, _, _, h => h.elim
  | _ + 1, _, _, h => by obtain ⟨_, _, rfl, _⟩ := h; rfl
theorem tyRd.more {H : Heap} {F : Nat → Prop} : ∀ {n m : Nat} {cs : List Value} {t : Ty}, n ≤ m → tyRd H F n cs t → tyRd H F m cs t
  | 0, _, _, _, _, h => h.elim
  | n + 1, 0, _, _, hm, _ => by omega
  | n + 1, m + 1, _, _, hm, h => by
    obtain ⟨v, css, h1, h2, h3, h4, h5⟩ := h
    exact ⟨v, css, h1, h2, h3, h4, fun i x hx => by obtain ⟨d, h6, h7⟩ := h5 i x hx; exact ⟨d, h6, h7.more (by omega)⟩⟩
theorem tyRd.turn {H H' : Heap} {F G : Nat → Prop} (hs : ∀ v css, SlR H 3 v F css → SlR H' 3 v G css) : ∀ {n : Nat} {cs : List Value} {t : Ty}, tyRd H F n cs t → tyRd H' G n cs t
  | 0, _, _, h => h.elim
  | n + 1, _, _, h => by
    obtain ⟨v, css, h1, h2, h3, h4, h5⟩ := h
    exact ⟨v, css, h1, hs _ _ h2, h3, h4, fun i x hx => by obtain ⟨d, h6, h7⟩ := h5 i x hx; exact ⟨d, h6, h7.turn hs⟩⟩
/-- What is only read: a type. -/
def TyK (c : Cx) (cs : List Value) (t : Ty) : Prop := ∃ n, tyRd c.H0 c.K n cs t
theorem TyK.up {c c' : Cx} {cs : List Value} {t : Ty} (h : TyK c cs t) (hle : c.Le c') : TyK c' cs t := by
  obtain ⟨n, h⟩ := h; exact ⟨n, h.turn fun v css hs => FzS.up hs hle⟩
theorem max_all {α : Type} {xs : List α} {R : Nat → α → Prop} (hm : ∀ n m x, n ≤ m → R n x → R m x) (h : ∀ x ∈ xs, ∃ n, R n x) : ∃ n, ∀ x ∈ xs, R n x := by
  induction xs with
  | nil => exact ⟨0, by simp⟩
  | cons x xs ih =>
    obtain ⟨n, hn⟩ := ih fun y hy => h y (List.mem_cons_of_mem _ hy)
    obtain ⟨m, hx⟩ := h x (List.mem_cons_self ..)
    refine ⟨max n m, fun y hy => ?_⟩
    rcases List.mem_cons.1 hy with rfl | hy
    · exact hm _ _ _ (Nat.le_max_right ..) hx
    · exact hm _ _ _ (Nat.le_max_left ..) (hn y hy)
theorem TyK.mk {c : Cx} {k r : Int} {v : Value} {css : List (List Value)} {l : List Ty} (hs : FzS c 3 v css) (hl : css.length = l.length) (hm : l.length ≤ 140737488355328) (h : ∀ (m : Nat) (x : Ty), l[m]? = some x → ∃ d, css[m]? = some d ∧ TyK c d x) : TyK c [.int .i64 k, .int .i64 r, v] (.mk k r l) := by
  obtain ⟨n, hn⟩ := max_all (xs := List.range l.length) (R := fun n m => ∀ x, l[m]? = some x → ∃ d, css[m]? = some d ∧ tyRd c.H0 c.K n d x) (fun n m i hnm hr x hx => by obtain ⟨d, h1, h2⟩ := hr x hx; exact ⟨d, h1, h2.more hnm⟩) (fun m hm => by
    have hlt := List.mem_range.1 hm
    obtain ⟨d, h1, n, h2⟩ := h m _ (List.getElem?_eq_getElem hlt)
    exact ⟨n, fun x hx => by rw [List.getElem?_eq_getElem hlt] at hx; cases hx; exact ⟨d, h1, h2⟩⟩)
  exact ⟨n + 1, v, css, rfl, hs, hl, hm, fun m x hx => hn m (List.mem_range.2 (List.getElem?_eq_some_iff.1 hx).1) x hx⟩
theorem TyK.out {c : Cx} {cs : List Value} {t : Ty} (h : TyK c cs t) : ∃ v css, cs = [.int .i64 t.kind, .int .i64 t.r, v] ∧ FzS c 3 v css ∧ css.length = t.l.length ∧ t.l.length ≤ 140737488355328 ∧ ∀ (m : Nat) (x : Ty), t.l[m]? = some x → ∃ d, css[m]? = some d ∧ TyK c d x := by
  obtain ⟨n, h⟩ := h
  cases n with
  | zero => exact h.elim
  | succ n =>
    obtain ⟨v, css, h1, h2, h3, h4, h5⟩ := h
    exact ⟨v, css, h1, h2, h3, h4, fun m x hx => by obtain ⟨d, h6, h7⟩ := h5 m x hx; exact ⟨d, h6, n, h7⟩⟩

/-! ### data that came in -/
/-- A slice opened: each of its parts is read by what reads the parts of a smaller datum. -/
theorem slice_open {P : Program} {T e : TypeId} {α : Type} {Hd : Type} {enc : TypeId × Value → Hd} {w : World} {fuel es : Nat} {cs : List Value} {y : DataW Hd × List MemPlace} {rd : List Value → α → Prop} (hsz : P.cellsOf e = es) (hes : 0 < es) (hlen : ∀ d x, rd d x → d.length = es)
    (ht : P.underlying T = some (.slice e)) (h : DataW.trod enc P w 0 (fun _ => true) true fuel T cs = some y) (hby : 0 < P.bytesOf e) (hfit : Fits P T y.1)
    (hel : ∀ (n : Nat) (d : List Value) (z : DataW Hd × List MemPlace), DataW.trod enc P w 0 (fun _ => true) true n e d = some z → Fits P e z.1 → SizeOf.sizeOf z.1 < SizeOf.sizeOf y.1 → ∃ x, rd d x) :
    ∃ (xs : List α) (v : Value) (css : List (List Value)), cs = [v] ∧ SlR w.heap es v (fun _ => True) css ∧ css.length = xs.length ∧ xs.length ≤ 140737488355328 ∧ ∀ (m : Nat) (x : α), xs[m]? = some x → ∃ d, css[m]? = some d ∧ rd d x := by
  rcases Go.Deep.open_slice ht h with ⟨rfl, _⟩ | ⟨a, len, cap, m, n, D, Pl, rfl, _, hl, hm, hmm, hy, hi⟩
  · exact ⟨[], .slice none 0 0, [], rfl, ⟨by simp, none, 0, rfl, Nat.le_refl _, .inl rfl⟩, rfl, by simp, by simp⟩
  · have hmc : m = cap := by simpa using hmm
    subst hmc
    have hfit' := hfit
    rw [hy] at hfit'
    obtain ⟨hlen0, hel0⟩ := fits_slice ht hfit' hby
    simp only [List.length_map, List.length_range] at hlen0
    have hel2 : ∀ i, i < len → ∃ (d : List Value) (x : α), w.cells? 0 (a.add (i * es)) es = some d ∧ rd d x := by
      intro i hi'
      obtain ⟨d, h1, h2⟩ := hi i (by omega)
      rw [hsz] at h1
      obtain ⟨x, hx⟩ := hel n d _ h2 (hel0 _ (List.mem_map.2 ⟨i, List.mem_range.2 hi', rfl⟩)) (by
        rw [hy]
        have hmem : D i ∈ (List.range len).map D := List.mem_map.2 ⟨i, List.mem_range.2 hi', rfl⟩
        have := List.sizeOf_lt_of_mem hmem
        simp only [DataW.slice.sizeOf_spec]
        omega)
      exact ⟨d, x, h1, hx⟩
    have build : ∀ n, n ≤ len → ∃ (css : List (List Value)) (xs : List α), css.length = n ∧ xs.length = n ∧
        ∀ m, m < n → ∃ d x, css[m]? = some d ∧ xs[m]? = some x ∧ w.cells? 0 (a.add (m * es)) es = some d ∧ rd d x := by
      intro n
      induction n with
      | zero => intro _; exact ⟨[], [], rfl, rfl, fun m hm => absurd hm (by omega)⟩
      | succ n ih =>
        intro hn
        obtain ⟨css, xs, h1, h2, h3⟩ := ih (by omega)
        obtain ⟨d, x, h4, h5⟩ := hel2 n (by omega)
        refine ⟨css ++ [d], xs ++ [x], by simp [h1], by simp [h2], fun m hm => ?_⟩
        by_cases hmn : m = n
        · subst hmn
          exact ⟨d, x, by rw [List.getElem?_append_right (by omega), h1]; simp, by rw [List.getElem?_append_right (by omega), h2]; simp, h4, h5⟩
        · obtain ⟨d', x', g1, g2, g3, g4⟩ := h3 m (by omega)
          exact ⟨d', x', by rw [List.getElem?_append_left (by omega)]; exact g1, by rw [List.getElem?_append_left (by omega)]; exact g2, g3, g4⟩
    obtain ⟨css, xs, h1, h2, h3⟩ := build len (Nat.le_refl _)
    refine ⟨xs, .slice (some a) len m, css, rfl, ⟨?_, some a, m, by rw [h1], by omega, ?_⟩, by omega, by omega, ?_⟩
    · intro d hd
      obtain ⟨i, hi'⟩ := List.mem_iff_getElem?.1 hd
      have hlt := (List.getElem?_eq_some_iff.1 hi').1
      obtain ⟨d', x', g1, g2, g3, g4⟩ := h3 i (by omega)
      rw [hi'] at g1
      simp only [Option.some.injEq] at g1
      subst g1
      exact hlen _ _ g4
    · rcases Nat.eq_zero_or_pos len with h0 | h0
      · exact .inl (List.eq_nil_of_length_eq_zero (by omega))
      · obtain ⟨d0, x0, _, _, g3, _⟩ := h3 0 h0
        obtain ⟨hsp, hbl, _⟩ := cells_at g3 hes
        have ha0 : a.add (0 * es) = a := by rw [Nat.zero_mul]; rfl
        rw [ha0] at hsp hbl
        obtain ⟨b, o, s⟩ := a
        simp only at hsp
        subst hsp
        refine .inr ⟨b, o, rfl, trivial, hbl, fun i d hd => ?_⟩
        have hlt := (List.getElem?_eq_some_iff.1 hd).1
        obtain ⟨d', x', g1, g2, g3, g4⟩ := h3 i (by omega)
        rw [hd] at g1
        simp only [Option.some.injEq] at g1
        subst g1
        rw [add_addr] at g3
        exact (cells_at g3 hes).2.2
    · intro i x hx
      have hlt := (List.getElem?_eq_some_iff.1 hx).1
      obtain ⟨d', x', g1, g2, g3, g4⟩ := h3 i (by omega)
      rw [hx] at g2
      simp only [Option.some.injEq] at g2
      subst g2
      exact ⟨d', g1, g4⟩
/-- A struct's part is a smaller datum. -/
theorem struct_partS {Hd : Type} {enc : TypeId × Value → Hd} {P : Program} {w : World} {T : TypeId} {fuel : Nat} {cs : List Value} {y : DataW Hd × List MemPlace} (h : DataW.trod enc P w 0 (fun _ => true) true fuel T cs = some y)
    {i o s : Nat} {t : TypeId} (hf : fieldAt P T i = some (o, s, t)) (hfit : Fits P T y.1) : cs.length = P.cellsOf T ∧ ∃ n z, DataW.trod enc P w 0 (fun _ => true) true n t ((cs.drop o).take s) = some z ∧ Fits P t z.1 ∧ SizeOf.sizeOf z.1 < SizeOf.sizeOf y.1 := by
  unfold fieldAt at hf
  split at hf
  · rename_i fs hu
    simp only [Option.map_eq_some_iff, Prod.mk.injEq] at hf
    obtain ⟨f, hf, rfl, rfl, rfl⟩ := hf
    obtain ⟨xs, n, _, hy, hl, hx, hall⟩ := DataW.trod_struct hu h
    have := hall i f hf
    have hlt := (Array.getElem?_eq_some_iff.1 hf).1
    refine ⟨hl, n, xs[i]'(by omega), ?_, ?_, ?_⟩
    · rw [this, List.getElem?_eq_getElem (by omega)]
    · rw [hy] at hfit
      exact fits_struct hu hfit hf (by rw [List.getElem?_map, List.getElem?_eq_getElem (by omega)]; rfl)
    · rw [hy]
      have hmem : (xs[i]'(by omega)).1 ∈ xs.map (·.1) := List.mem_map.2 ⟨_, List.getElem_mem _, rfl⟩
      have := List.sizeOf_lt_of_mem hmem
      simp only [DataW.agg.sizeOf_spec]
      omega
  · cases hf
/-- Every number in it is an int. -/
inductive Ty.InR : Ty → Prop where
  | mk {k r : Int} {l : List Ty} : (Lit.int .i64 k).wf = true → (Lit.int .i64 r).wf = true → (∀ x ∈ l, x.InR) → Ty.InR (.mk k r l)
theorem wf_rng {n : Int} (h : (Lit.int .i64 n).wf = true) : -9223372036854775808 ≤ n ∧ n ≤ 9223372036854775807 := by
  simp [Lit.wf, IntKind.min, IntKind.max, IntKind.bits, IntKind.signed] at h; omega
theorem Ty.InR.parts {k r : Int} {l : List Ty} (h : (Ty.mk k r l).InR) : (-9223372036854775808 ≤ k ∧ k ≤ 9223372036854775807) ∧ (-9223372036854775808 ≤ r ∧ r ≤ 9223372036854775807) ∧ ∀ x ∈ l, x.InR := by
  cases h with | mk h1 h2 h3 => exact ⟨wf_rng h1, wf_rng h2, h3⟩
theorem ty_open {P : Program} {T TL t0 t1 : TypeId} (h0 : fieldAt P T 0 = some (0, 1, t0)) (h1 : fieldAt P T 1 = some (1, 1, t1)) (h2 : fieldAt P T 2 = some (2, 1, TL)) (hi0 : P.underlying t0 = some (.int .i64)) (hi1 : P.underlying t1 = some (.int .i64)) (hT : P.cellsOf T = 3) (hTL : P.underlying TL = some (.slice T)) (hby : 0 < P.bytesOf T)
    {Hd : Type} {enc : TypeId × Value → Hd} {w : World} : ∀ (N fuel : Nat) (cs : List Value) (y : DataW Hd × List MemPlace), DataW.trod enc P w 0 (fun _ => true) true fuel T cs = some y → Fits P T y.1 → SizeOf.sizeOf y.1 < N → ∃ t n, tyRd w.heap (fun _ => True) n cs t ∧ t.InR
  | 0, _, _, _, _, _, hN => by omega
  | N + 1, fuel, cs, y, h, hfit, hN => by
    obtain ⟨hl, n0, z0, g0, _⟩ := struct_partS h h0 hfit
    obtain ⟨_, n1, z1, g1, _⟩ := struct_partS h h1 hfit
    obtain ⟨_, n2, z2, g2, u2, hz⟩ := struct_partS h h2 hfit
    rw [hT] at hl
    obtain ⟨a, b, v, hc⟩ : ∃ a b v, cs = [a, b, v] := by
      match cs, hl with
      | [a, b, v], _ => exact ⟨a, b, v, rfl⟩
    subst hc
    obtain ⟨k, hk, _, wk⟩ := DataW.trod_int hi0 g0
    obtain ⟨r, hr, _, wr⟩ := DataW.trod_int hi1 g1
    have hk2 : [a] = [Value.int .i64 k] := hk
    have hr2 : [b] = [Value.int .i64 r] := hr
    clear hk hr
    simp only [List.cons.injEq, and_true] at hk2 hr2
    have g3 : DataW.trod enc P w 0 (fun _ => true) true n2 TL [v] = some z2 := g2
    clear g2
    obtain ⟨xs, v', css, hv, s1, s2, s3, s4⟩ := slice_open (rd := fun d (x : Nat × Ty) => tyRd w.heap (fun _ => True) x.1 d x.2 ∧ x.2.InR) hT (by decide) (fun d x hx => hx.1.len) hTL g3 hby u2 (fun n d z hz1 hz3 hz2 => by
      obtain ⟨t, n, ht, hr⟩ := ty_open h0 h1 h2 hi0 hi1 hT hTL hby N _ d z hz1 hz3 (by omega)
      exact ⟨(n, t), ht, hr⟩)
    simp only [List.cons.injEq, and_true] at hv
    subst hv hk2 hr2
    obtain ⟨n, hn⟩ := max_all (xs := xs) (R := fun n x => x.1 ≤ n) (fun n m x h1 h2 => Nat.le_trans h2 h1) (fun x _ => ⟨x.1, Nat.le_refl _⟩)
    refine ⟨.mk k r (xs.map (·.2)), n + 1, ⟨v, css, rfl, s1, by simp [Ty.l, s2], by simpa [Ty.l] using s3, fun m x hx => ?_⟩, .mk wk wr fun x hx => ?_⟩
    rotate_left
    · obtain ⟨p, hp, rfl⟩ := List.mem_map.1 hx
      obtain ⟨m, hm⟩ := List.mem_iff_getElem?.1 hp
      obtain ⟨d, d1, d2⟩ := s4 m p hm
      exact d2.2
    simp only [Ty.l, List.getElem?_map, Option.map_eq_some_iff] at hx
    obtain ⟨p, hp, rfl⟩ := hx
    obtain ⟨d, d1, d2⟩ := s4 m p hp
    exact ⟨d, d1, d2.1.more (hn p (List.mem_of_getElem? hp))⟩
def Cod.ty {P : Program} {T TL t0 t1 : TypeId} (h0 : fieldAt P T 0 = some (0, 1, t0)) (h1 : fieldAt P T 1 = some (1, 1, t1)) (h2 : fieldAt P T 2 = some (2, 1, TL)) (hi0 : P.underlying t0 = some (.int .i64)) (hi1 : P.underlying t1 = some (.int .i64)) (hT : P.cellsOf T = 3) (hTL : P.underlying TL = some (.slice T)) (hby : decide (0 < P.bytesOf T) = true) : Cod P T Ty where
  es := 3
  rd := fun H cs t => ∃ n, tyRd H (fun b => b < H.size) n cs t
  size := hT
  len := by rintro _ _ _ ⟨n, h⟩; exact h.len
  stay := by
    rintro H H' cs t ⟨n, h⟩ hH
    exact ⟨n, h.turn fun v css hs => SlR.mono (hs.of_same fun b hb _ => hH b hb) fun b hb _ => hb⟩
  open_ := fun enc w fuel cs y h hfit => by
    obtain ⟨t, n, ht, _⟩ := ty_open h0 h1 h2 hi0 hi1 hT hTL (of_decide_eq_true hby) (SizeOf.sizeOf y.1 + 1) fuel cs y h hfit (by omega)
    exact ⟨t, n, ht.turn fun v css hs => SlR.mono hs fun b hb _ => hb⟩
/-- The same, and every number in it is an int. -/
def Cod.tyInt {P : Program} {T TL t0 t1 : TypeId} (h0 : fieldAt P T 0 = some (0, 1, t0)) (h1 : fieldAt P T 1 = some (1, 1, t1)) (h2 : fieldAt P T 2 = some (2, 1, TL)) (hi0 : P.underlying t0 = some (.int .i64)) (hi1 : P.underlying t1 = some (.int .i64)) (hT : P.cellsOf T = 3) (hTL : P.underlying TL = some (.slice T)) (hby : decide (0 < P.bytesOf T) = true) : Cod P T Ty where
  es := 3
  rd := fun H cs t => (∃ n, tyRd H (fun b => b < H.size) n cs t) ∧ t.InR
  size := hT
  len := by rintro _ _ _ ⟨⟨n, h⟩, _⟩; exact h.len
  stay := by
    rintro H H' cs t ⟨⟨n, h⟩, hr⟩ hH
    exact ⟨⟨n, h.turn fun v css hs => SlR.mono (hs.of_same fun b hb _ => hH b hb) fun b hb _ => hb⟩, hr⟩
  open_ := fun enc w fuel cs y h hfit => by
    obtain ⟨t, n, ht, hr⟩ := ty_open h0 h1 h2 hi0 hi1 hT hTL (of_decide_eq_true hby) (SizeOf.sizeOf y.1 + 1) fuel cs y h hfit (by omega)
    exact ⟨t, ⟨n, ht.turn fun v css hs => SlR.mono hs fun b hb _ => hb⟩, hr⟩
theorem TyK.top {w : World} {cs : List Value} {t : Ty} (h : ∃ n, tyRd w.heap (fun b => b < w.heap.size) n cs t) : TyK (Cx.top w) cs t := h
/-- A type made in memory of its own is from now on only read. -/
theorem St.ownTy {c : Cx} {w : World} {L : List Res} {T : TypeId} {v : Value} {css : List (List Value)} {l : List Ty} {k r : Int} (h : St c w (sl T 3 v css :: L)) (hl : css.length = l.length) (hm : l.length ≤ 140737488355328)
    (hc : ∀ (m : Nat) (x : Ty), l[m]? = some x → ∃ d, css[m]? = some d ∧ TyK c d x) : ∃ c', c.Le c' ∧ St c' w L ∧ TyK c' [.int .i64 k, .int .i64 r, v] (.mk k r l) := by
  obtain ⟨c', h1, h2, h3⟩ := h.freezeS
  exact ⟨c', h1, h2, TyK.mk h3 hl hm fun m x hx => by obtain ⟨d, h4, h5⟩ := hc m x hx; exact ⟨d, h4, h5.up h1⟩⟩
end Go.Lir
