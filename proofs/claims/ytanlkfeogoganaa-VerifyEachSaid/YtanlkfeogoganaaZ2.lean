/- Lemmas of the proof, part 2: what the functions of the program do (contracts), and what follows. -/
import Derived.Test.YtanlkfeogoganaaZ1
import Derived.Test.YtanlkfeogoganaaProg
import Derived.Laws.IdiomStrings
import Derived.Recover
namespace Go.Lir
/-- What is read of some of a struct's fields. -/
structure Fld (P : Program) (T : TypeId) (α : Type) where
  rd : Heap → List Value → α → Prop
  stay : ∀ (H H' : Heap) cs x, rd H cs x → (∀ b, b < H.size → H'[b]? = H[b]?) → rd H' cs x
  open_ : ∀ {Hd : Type} (enc : TypeId × Value → Hd) (w : World) (fuel : Nat) (cs : List Value) (y : DataW Hd × List MemPlace), DataW.trod enc P w 0 (fun _ => true) true fuel T cs = some y → Fits P T y.1 → ∃ x, rd w.heap cs x
def Fld.none {P : Program} {T : TypeId} : Fld P T Unit := ⟨fun _ _ _ => True, fun _ _ _ _ h _ => h, fun _ _ _ _ _ _ _ => ⟨(), trivial⟩⟩
def Fld.more {P : Program} {T t : TypeId} {α β : Type} {i o s : Nat} (c : Cod P t α) (h : fieldAt P T i = some (o, s, t)) (f : Fld P T β) : Fld P T (α × β) where
  rd := fun H cs x => c.rd H ((cs.drop o).take s) x.1 ∧ f.rd H cs x.2
  stay := fun H H' cs x h hH => ⟨c.stay _ _ _ _ h.1 hH, f.stay _ _ _ _ h.2 hH⟩
  open_ := fun enc w fuel cs y hy hfit => by
    obtain ⟨_, n, z, g, u⟩ := Qev hy h hfit
    obtain ⟨a, ha⟩ := c.open_ enc w _ _ _ g u
    obtain ⟨b, hb⟩ := f.open_ enc w _ _ _ hy hfit
    exact ⟨(a, b), ha, hb⟩
/-- The struct. The first field's place is asked so that its number of cells is known. -/
def Fld.cod {P : Program} {T t : TypeId} {α : Type} {o s : Nat} (f : Fld P T α) (h0 : fieldAt P T 0 = some (o, s, t)) (n : Nat) (hn : P.cellsOf T = n) : Cod P T α where
  es := n
  rd := fun H cs x => cs.length = n ∧ f.rd H cs x
  size := hn
  len := fun _ _ _ h => h.1
  stay := fun H H' cs x h hH => ⟨h.1, f.stay _ _ _ _ h.2 hH⟩
  open_ := fun enc w fuel cs y hy hfit => by
    obtain ⟨hl, _⟩ := Qev hy h0 hfit
    obtain ⟨a, ha⟩ := f.open_ enc w _ _ _ hy hfit
    exact ⟨a, by rw [hl, hn], ha⟩
end Go.Lir
namespace Go.Lir

theorem SlR.turn {H H' : Heap} {es : Nat} {v : Value} {F G : Nat → Prop} {css : List (List Value)} (h : SlR H es v F css) (hs : ∀ b, F b → b < H.size → G b ∧ H'[b]? = H[b]?) : SlR H' es v G css := by
  obtain ⟨h0, a, cap, hv, hlc, hc | ⟨b, off, ha, hF, hb, hat⟩⟩ := h
  · exact ⟨h0, a, cap, hv, hlc, .inl hc⟩
  · obtain ⟨h1, h2⟩ := hs b hF hb
    refine ⟨h0, a, cap, hv, hlc, .inr ⟨b, off, ha, h1, ?_, fun m c hm => (hat m c hm).of_same h2⟩⟩
    rcases Nat.lt_or_ge b H'.size with h | h
    · exact h
    · rw [Array.getElem?_eq_none h, Array.getElem?_eq_getElem hb] at h2; cases h2

/-- A kind of data: what cells (that lie in K, and what they lead to) say. -/
structure Rep (α : Type) where
  es : Nat
  pos : 0 < es
  R : Heap → (Nat → Prop) → List Value → α → Prop
  len : ∀ {H : Heap} {K : Nat → Prop} {cs : List Value} {x : α}, R H K cs x → cs.length = es
  one : ∀ {H : Heap} {K : Nat → Prop} {cs : List Value} {x : α}, R H K cs x → ∀ u ∈ cs, oneC u = true
  turn : ∀ {H H' : Heap} {K K' : Nat → Prop} {cs : List Value} {x : α}, R H K cs x → (∀ b, K b → b < H.size → K' b ∧ H'[b]? = H[b]?) → R H' K' cs x

section
variable {α β : Type}
/-- Rows of cells that are the parts of a list. -/
def Rep.LR (r : Rep α) (H : Heap) (K : Nat → Prop) (css : List (List Value)) (l : List α) : Prop := css.length = l.length ∧ ∀ (m : Nat) (x : α), l[m]? = some x → ∃ d, css[m]? = some d ∧ r.R H K d x
/-- A slice that reads as the list. -/
def Rep.SR (r : Rep α) (H : Heap) (K : Nat → Prop) (v : Value) (l : List α) : Prop := ∃ css, SlR H r.es v K css ∧ r.LR H K css l ∧ l.length ≤ 140737488355328
theorem Rep.LR.turn {r : Rep α} {H H' : Heap} {K K' : Nat → Prop} {css : List (List Value)} {l : List α} (h : r.LR H K css l) (hs : ∀ b, K b → b < H.size → K' b ∧ H'[b]? = H[b]?) : r.LR H' K' css l :=
  ⟨h.1, fun m x hx => by obtain ⟨d, h1, h2⟩ := h.2 m x hx; exact ⟨d, h1, r.turn h2 hs⟩⟩
theorem Rep.SR.turn {r : Rep α} {H H' : Heap} {K K' : Nat → Prop} {v : Value} {l : List α} (h : r.SR H K v l) (hs : ∀ b, K b → b < H.size → K' b ∧ H'[b]? = H[b]?) : r.SR H' K' v l := by
  obtain ⟨css, h1, h2, h3⟩ := h
  exact ⟨css, h1.turn hs, h2.turn hs, h3⟩
theorem Rep.LR.nil (r : Rep α) (H : Heap) (K : Nat → Prop) : r.LR H K [] [] := ⟨rfl, by simp⟩
theorem Rep.LR.push {r : Rep α} {H : Heap} {K : Nat → Prop} {css : List (List Value)} {l : List α} {d : List Value} {x : α} (h : r.LR H K css l) (hd : r.R H K d x) : r.LR H K (css ++ [d]) (l ++ [x]) := by
  refine ⟨by simp [h.1], fun m y hy => ?_⟩
  rcases Nat.lt_or_ge m l.length with hm | hm
  · rw [List.getElem?_append_left hm] at hy
    rw [List.getElem?_append_left (by rw [h.1]; exact hm)]
    exact h.2 m y hy
  · rw [List.getElem?_append_right hm] at hy
    rw [List.getElem?_append_right (by rw [h.1]; exact hm), h.1]
    obtain ⟨i, hi⟩ : ∃ i, m - l.length = i := ⟨_, rfl⟩
    rw [hi] at hy ⊢
    cases i with
    | zero => simp only [List.getElem?_cons_zero, Option.some.injEq] at hy; subst hy; exact ⟨d, rfl, hd⟩
    | succ i => simp at hy
theorem Rep.LR.append {r : Rep α} {H : Heap} {K : Nat → Prop} {css css2 : List (List Value)} {l l2 : List α} (h : r.LR H K css l) (h2 : r.LR H K css2 l2) : r.LR H K (css ++ css2) (l ++ l2) := by
  refine ⟨by simp [h.1, h2.1], fun m y hy => ?_⟩
  rcases Nat.lt_or_ge m l.length with hm | hm
  · rw [List.getElem?_append_left hm] at hy
    rw [List.getElem?_append_left (by rw [h.1]; exact hm)]
    exact h.2 m y hy
  · rw [List.getElem?_append_right hm] at hy
    rw [List.getElem?_append_right (by rw [h.1]; exact hm), h.1]
    exact h2.2 _ y hy
theorem Rep.LR.set {r : Rep α} {H : Heap} {K : Nat → Prop} {css : List (List Value)} {l : List α} {d : List Value} {x : α} {i : Nat} (h : r.LR H K css l) (hd : r.R H K d x) : r.LR H K (css.set i d) (l.set i x) := by
  refine ⟨by simp [h.1], fun m y hy => ?_⟩
  rw [List.getElem?_set] at hy ⊢
  by_cases he : i = m
  · rw [if_pos he] at hy ⊢
    rw [h.1]
    split at hy
    · rename_i hm; rw [if_pos hm]; cases hy; exact ⟨d, rfl, hd⟩
    · cases hy
  · rw [if_neg he] at hy ⊢
    exact h.2 m y hy
theorem Rep.LR.sub {r : Rep α} {H : Heap} {K : Nat → Prop} {css : List (List Value)} {l : List α} (h : r.LR H K css l) (i j : Nat) : r.LR H K ((css.take j).drop i) ((l.take j).drop i) := by
  refine ⟨by simp [h.1], fun m y hy => ?_⟩
  rw [List.getElem?_drop] at hy ⊢
  have hlt := (List.getElem?_eq_some_iff.1 hy).1
  rw [List.length_take] at hlt
  rw [List.getElem?_take_of_lt (by omega)] at hy ⊢
  exact h.2 _ y hy
theorem Rep.LR.one {r : Rep α} {H : Heap} {K : Nat → Prop} {css : List (List Value)} {l : List α} (h : r.LR H K css l) : ∀ c ∈ css, ∀ u ∈ c, oneC u = true := by
  intro c hc
  obtain ⟨m, hm⟩ := List.mem_iff_getElem?.1 hc
  have hlt := (List.getElem?_eq_some_iff.1 hm).1
  obtain ⟨d, h1, h2⟩ := h.2 m _ (List.getElem?_eq_getElem (by rw [← h.1]; exact hlt))
  rw [hm] at h1; cases h1
  exact r.one h2
theorem Rep.SR.oneC {r : Rep α} {H : Heap} {K : Nat → Prop} {v : Value} {l : List α} (h : r.SR H K v l) : Go.Lir.oneC v = true := by
  obtain ⟨css, h1, _⟩ := h; exact SlR.oneC h1
theorem Rep.SR.nil (r : Rep α) (H : Heap) (K : Nat → Prop) : r.SR H K (.slice none 0 0) [] := ⟨[], ⟨by simp, none, 0, rfl, Nat.le_refl _, .inl rfl⟩, .nil r H K, by simp⟩
theorem Rep.SR.len {r : Rep α} {H : Heap} {K : Nat → Prop} {v : Value} {l : List α} (h : r.SR H K v l) : l.length ≤ 140737488355328 := by obtain ⟨_, _, _, h⟩ := h; exact h
theorem Rep.SR.shape {r : Rep α} {H : Heap} {K : Nat → Prop} {v : Value} {l : List α} (h : r.SR H K v l) : ∃ a c, v = .slice a l.length c := by
  obtain ⟨css, h1, h2, _⟩ := h
  obtain ⟨a, c, hv⟩ := SlR.shape h1
  exact ⟨a, c, by rw [← h2.1]; exact hv⟩

theorem Rep.SR.nil_of {r : Rep α} {H : Heap} {K : Nat → Prop} {v : Value} {l : List α} {n c : Nat} (h : r.SR H K v l) (hv : v = .slice none n c) : l = [] := by
  obtain ⟨css, ⟨_, a, cap, hv2, _, hc | ⟨b, off, ha, _⟩⟩, h2, _⟩ := h
  · exact List.eq_nil_of_length_eq_zero (by rw [← h2.1, hc]; rfl)
  · rw [hv, ha] at hv2; simp at hv2
def Rep.lit (f : α → Value) (hf : ∀ x, oneC (f x) = true) : Rep α where
  es := 1
  pos := by decide
  R := fun _ _ cs x => cs = [f x]
  len := by rintro _ _ _ _ rfl; rfl
  one := by rintro _ _ _ x rfl u hu; simp at hu; subst hu; exact hf x
  turn := fun h _ => h
def intR : Rep Int := Rep.lit (fun n => .int .i64 n) (fun _ => rfl)
def Rep.list (r : Rep α) : Rep (List α) where
  es := 1
  pos := by decide
  R := fun H K cs l => ∃ v, cs = [v] ∧ r.SR H K v l
  len := by rintro _ _ _ _ ⟨v, rfl, _⟩; rfl
  one := by rintro _ _ _ _ ⟨v, rfl, h⟩ u hu; simp at hu; subst hu; exact h.oneC
  turn := by rintro _ _ _ _ _ _ ⟨v, rfl, h⟩ hs; exact ⟨v, rfl, h.turn hs⟩
def Rep.and (r : Rep α) (p : α → Prop) : Rep α where
  es := r.es
  pos := r.pos
  R := fun H K cs x => r.R H K cs x ∧ p x
  len := fun h => r.len h.1
  one := fun h => r.one h.1
  turn := fun h hs => ⟨r.turn h.1 hs, h.2⟩
def tyR : Rep Ty where
  es := 3
  pos := by decide
  R := fun H K cs t => ∃ n, tyRd H K n cs t
  len := by rintro _ _ _ _ ⟨n, h⟩; exact h.len
  one := by
    rintro _ _ _ _ ⟨n, h⟩
    cases n with
    | zero => exact h.elim
    | succ n =>
      obtain ⟨v, css, rfl, h2, _⟩ := h
      intro u hu; simp at hu
      rcases hu with rfl | rfl | rfl
      · rfl
      · rfl
      · exact SlR.oneC h2
  turn := by rintro _ _ _ _ _ _ ⟨n, h⟩ hs; exact ⟨n, h.turn fun v css hv => hv.turn hs⟩
theorem Ql {H : Heap} {K : Nat → Prop} {cs : List Value} {t : Ty} (h : tyR.R H K cs t) : ∃ v, cs = [.int .i64 t.kind, .int .i64 t.r, v] ∧ tyR.SR H K v t.l := by
  obtain ⟨n, h⟩ := h
  cases n with
  | zero => exact h.elim
  | succ n =>
    obtain ⟨v, css, h1, h2, h3, h4, h5⟩ := h
    exact ⟨v, h1, css, h2, ⟨h3, fun m x hx => by obtain ⟨d, h6, h7⟩ := h5 m x hx; exact ⟨d, h6, n, h7⟩⟩, h4⟩
theorem Q37 {H : Heap} {K : Nat → Prop} {k r : Int} {v : Value} {l : List Ty} (h : tyR.SR H K v l) : tyR.R H K [.int .i64 k, .int .i64 r, v] (.mk k r l) := by
  obtain ⟨css, h1, h2, h3⟩ := h
  obtain ⟨n, hn⟩ := QmU (xs := List.range l.length) (R := fun n m => ∀ x, l[m]? = some x → ∃ d, css[m]? = some d ∧ tyRd H K n d x) (fun n m i hnm hr x hx => by obtain ⟨d, h1, h2⟩ := hr x hx; exact ⟨d, h1, h2.more hnm⟩) (fun m hm => by
    have hlt := List.mem_range.1 hm
    obtain ⟨d, h4, n, h5⟩ := h2.2 m _ (List.getElem?_eq_getElem hlt)
    exact ⟨n, fun x hx => by rw [List.getElem?_eq_getElem hlt] at hx; cases hx; exact ⟨d, h4, h5⟩⟩)
  exact ⟨n + 1, v, css, rfl, h1, h2.1, h3, fun m x hx => hn m (List.mem_range.2 (List.getElem?_eq_some_iff.1 hx).1) x hx⟩

/-! what is only read -/
abbrev Rep.at (r : Rep α) (c : Cx) (cs : List Value) (x : α) : Prop := r.R c.H0 c.K cs x
abbrev Rep.sl (r : Rep α) (c : Cx) (v : Value) (l : List α) : Prop := r.SR c.H0 c.K v l
abbrev Rep.ls (r : Rep α) (c : Cx) (css : List (List Value)) (l : List α) : Prop := r.LR c.H0 c.K css l
theorem Cx.Le.turn {c c' : Cx} (h : c.Le c') : ∀ b, c.K b → b < c.H0.size → c'.K b ∧ c'.H0[b]? = c.H0[b]? := fun b hb _ => h.K b hb
theorem Rep.R.up {r : Rep α} {c c' : Cx} {cs : List Value} {x : α} (h : r.at c cs x) (hle : c.Le c') : r.at c' cs x := r.turn h hle.turn
theorem Rep.SR.up {r : Rep α} {c c' : Cx} {v : Value} {l : List α} (h : r.sl c v l) (hle : c.Le c') : r.sl c' v l := Rep.SR.turn h hle.turn
theorem Rep.LR.up {r : Rep α} {c c' : Cx} {v : List (List Value)} {l : List α} (h : r.ls c v l) (hle : c.Le c') : r.ls c' v l := Rep.LR.turn h hle.turn
/-- From here on an own list is only read. -/
theorem St.freezeL {r : Rep α} {c : Cx} {w : World} {L : List Res} {T : TypeId} {es : Nat} {v : Value} {css : List (List Value)} {l : List α} (h : St c w (sl T es v css :: L)) (hl : r.ls c css l) (hes : r.es = es) (hm : l.length ≤ 140737488355328) : ∃ c', c.Le c' ∧ St c' w L ∧ r.sl c' v l := by
  subst hes
  obtain ⟨c', h1, h2, h3⟩ := h.freezeS
  exact ⟨c', h1, h2, css, h3, hl.up h1, hm⟩
theorem Rep.SR.ints {c : Cx} {v : Value} {l : List Int} (h : intR.sl c v l) : FzS c 1 v (l.map Q6A) := by
  obtain ⟨css, h1, h2, h3⟩ := h
  have : css = l.map Q6A := by
    apply List.ext_getElem?
    intro m
    rw [List.getElem?_map]
    rcases Nat.lt_or_ge m l.length with hm | hm
    · obtain ⟨d, h4, h5⟩ := h2.2 m _ (List.getElem?_eq_getElem hm)
      have h5 : d = [_] := h5
      rw [h4, List.getElem?_eq_getElem hm, h5]; rfl
    · rw [List.getElem?_eq_none (by rw [h2.1]; exact hm), List.getElem?_eq_none hm]; rfl
  rw [this] at h1; exact h1
theorem FzS.ints {c : Cx} {v : Value} {l : List Int} (h : FzS c 1 v (l.map Q6A)) (hm : l.length ≤ 140737488355328) : intR.sl c v l :=
  ⟨_, h, ⟨by simp, fun m x hx => ⟨Q6A x, by rw [List.getElem?_map, hx]; rfl, rfl⟩⟩, hm⟩

section
variable {P : Program} {l : List GO} {Q : QT} {ρ : Env} {w : World} {c : Cx} {L : List Res} {r : Rep α} {xs : List α} {v : Value} {es : Nat}
theorem s_idxL {d : Nat} {x y : Operand} {k : IntKind} {n : Int} (hx : ρ.ev x = v) (hy : ρ.ev y = .int k n) (hK : r.sl c v xs) (hes : r.es = es) (h0 : 0 ≤ n) (hn : n < xs.length)
    (h : ∀ b o cs a, AtK c b o cs → xs[n.toNat]? = some a → r.at c cs a → Q3 P l Q (upd ρ d (.pointer (some ⟨b, o, none⟩))) w) : Q3 P (⟨none, .idx d es x y⟩ :: l) Q ρ w := by
  subst hes
  obtain ⟨css, h1, h2, h3⟩ := hK
  have hn' : n.toNat < xs.length := by omega
  obtain ⟨cs, h4, h5⟩ := h2.2 n.toNat _ (List.getElem?_eq_getElem hn')
  exact s_idxK (m := n.toNat) hx (by rw [hy, Int.toNat_of_nonneg h0]) h1 h4 fun b o hb => h b o cs _ hb (List.getElem?_eq_getElem hn') h5
theorem Qey {d m : Nat} {x y : Operand} {k : IntKind} (hx : ρ.ev x = v) (hy : ρ.ev y = .int k (m : Int)) (hK : r.sl c v xs) (hes : r.es = es) (hn : m < xs.length)
    (h : ∀ b o cs a, AtK c b o cs → xs[m]? = some a → r.at c cs a → Q3 P l Q (upd ρ d (.pointer (some ⟨b, o, none⟩))) w) : Q3 P (⟨none, .idx d es x y⟩ :: l) Q ρ w := by
  subst hes
  obtain ⟨css, h1, h2, h3⟩ := hK
  obtain ⟨cs, h4, h5⟩ := h2.2 m _ (List.getElem?_eq_getElem hn)
  exact s_idxK (m := m) hx hy h1 h4 fun b o hb => h b o cs _ hb (List.getElem?_eq_getElem hn) h5
theorem Q7 {l : List α} {m : Nat} {x : α} (h : l[m]? = some x) : l.drop m = x :: l.drop (m + 1) := by
  obtain ⟨hm, rfl⟩ := List.getElem?_eq_some_iff.1 h
  exact List.drop_eq_getElem_cons hm
theorem Q1B {l : List α} {m : Nat} {x : α} (h : l[m]? = some x) : l.take (m + 1) = l.take m ++ [x] := by
  rw [List.take_add_one, h]; rfl
theorem Q1X {cs : List Value} {n : Int} (h : intR.at c cs n) : cs = [.int .i64 n] := h
theorem Qj7 : ∀ {L : List Res} {i : Nat} {a a' : Res}, nth L i = some a → nth (L.set i a') i = some a'
  | [], _, _, _, h => by cases h
  | _ :: _, 0, _, _, _ => rfl
  | _ :: L, i + 1, _, _, h => Qj7 (L := L) (i := i) h
/-- append of one element that was just built. -/
theorem s_appR1 {T T' d Ts Ts2 Ty nb i k b : Nat} {z : List Value} {x y : Operand} {ds : List Value} {css : List (List Value)} {a : α} (hel : Q2V P Ts = some (T, es, nb, z))
    (hts : ∃ e2, P.underlying Ts2 = some (.slice e2)) (hS : St c w L) (hx : ρ.ev x = v) (hy : ρ.ev y = .slice (some ⟨b, 0, none⟩) 1 1) (hi : nth L i = some (Go.Lir.sl T es v css)) (hk : nth L k = some (blk b T' ds)) (hls : r.ls c css xs) (ha : r.at c ds a) (hes : r.es = es) (hb : (xs.length + 1) * nb ≤ 140737488355328)
    (h : ∀ v' w' css', r.ls c css' (xs ++ [a]) → oneC v' = true → St c w' (L.set i (Go.Lir.sl T es v' css')) → Q3 P l Q (upd ρ d v') w') : Q3 P (⟨none, .raw ⟨some d, .call ⟨.builtin .append, #[x, y], #[Ts, Ts2]⟩, Ty, "", #[], none⟩⟩ :: l) Q ρ w :=
  Qop hel (.inl hts) hS hx hy hi (hS.srcB hk ((r.len ha).trans hes) (r.one ha)) (by rw [hls.1]; exact hb) fun v' w' hS' => h v' w' _ (hls.push ha) (hS'.oneC (Qj7 hi)) hS'
/-- append of a list that is read. -/
theorem s_appRK {T d Ts Ts2 Ty nb i : Nat} {z : List Value} {x y : Operand} {v2 : Value} {css : List (List Value)} {ys : List α} (hel : Q2V P Ts = some (T, es, nb, z))
    (hts : ∃ e2, P.underlying Ts2 = some (.slice e2)) (hS : St c w L) (hx : ρ.ev x = v) (hy : ρ.ev y = v2) (hi : nth L i = some (Go.Lir.sl T es v css)) (hls : r.ls c css xs) (hK : r.sl c v2 ys) (hes : r.es = es) (hb : (xs.length + ys.length) * nb ≤ 140737488355328)
    (h : ∀ v' w' css', r.ls c css' (xs ++ ys) → oneC v' = true → St c w' (L.set i (Go.Lir.sl T es v' css')) → Q3 P l Q (upd ρ d v') w') : Q3 P (⟨none, .raw ⟨some d, .call ⟨.builtin .append, #[x, y], #[Ts, Ts2]⟩, Ty, "", #[], none⟩⟩ :: l) Q ρ w := by
  subst hes
  obtain ⟨css2, h1, h2, h3⟩ := hK
  exact Qop hel (.inl hts) hS hx hy hi (FzS.src h1 hS h2.one) (by rw [hls.1, h2.1]; exact hb) fun v' w' hS' => h v' w' _ (hls.append h2) (hS'.oneC (Qj7 hi)) hS'
/-- A call of a function value, without and with what it holds. -/
theorem QpL {d : Nat} {x : Operand} {os : List Operand} {f : FuncId} {args : List Value} {S : Value → World → Prop} (hx : ρ.ev x = .func (.func f) #[] #[]) (hf : Q4j P f = true) (hxs : os.map ρ.ev = args) (hc : Rets P f args w S)
    (h : ∀ v w', S v w' → Q3 P l Q (upd ρ d v) w') : Q3 P (⟨none, .callv (some d) x os⟩ :: l) Q ρ w := by
  unfold Q4j at hf
  rw [Option.any_eq_true] at hf
  obtain ⟨fn, h1, h2⟩ := hf
  rw [Bool.and_eq_true, Bool.not_eq_true'] at h2
  refine QpU (cap := []) hx h1 h2.1 h2.2 (by rw [hxs, List.append_nil]) hc ?_
  rintro e w' ⟨v, rfl, hv⟩
  exact h v w' hv
theorem Qlq {d : Nat} {x : Operand} {b o : Nat} {cs : List Value} {u : Value} (hS : St c w L) (ha : AtK c b o cs) (hx : ρ.ev x = .pointer (some ⟨b, o, none⟩)) (hu : cs[0]? = some u) : gqv P ρ w ⟨none, .load1 d x⟩ u := Qjk (j := 0) hS ha hx hu
theorem Q5S {d n : Nat} {x : Operand} {b o : Nat} {cs us : List Value} (hS : St c w L) (ha : AtK c b o cs) (hx : ρ.ev x = .pointer (some ⟨b, o, none⟩)) (hu : cs.take n = us) (hl : us.length = n) : gqv P ρ w ⟨none, .loadn d n x⟩ (.agg ⟨us⟩) := QeR (j := 0) hS ha hx hu hl
/-- A whole block is written anew. -/
theorem QpI {n i b T : Nat} {x y : Operand} {cs us : List Value} (hS : St c w L) (hx : ρ.ev x = .pointer (some ⟨b, 0, none⟩)) (hy : ρ.ev y = .agg ⟨us⟩) (hn : us.length = n) (hi : nth L i = some (blk b T cs)) (hc : cs.length = n) (h1 : ∀ u ∈ us, oneC u = true)
    (h : ∀ w', St c w' (L.set i (blk b T us)) → Q3 P l Q ρ w') : Q3 P (⟨none, .storen n x y⟩ :: l) Q ρ w :=
  QkQ hS hx hy hn hi (by omega) h1 (by simp; omega) h
theorem Q8A : ∀ {a b : List GO} {Q : QT} {ρ : Env} {w : World}, Q3 P a (QZ (Q3 P b Q) Q) ρ w → Q3 P (a ++ b) Q ρ w
  | [], _, _, _, _, h => h
  | ⟨none, o⟩ :: a, b, Q, ρ, w, h => by
    simp only [List.cons_append, Q3] at h ⊢
    exact Q8s (fun ρ w h => Q8A h) (fun e ρ w hn h => by cases e <;> first | exact h | exact absurd rfl hn) h
  | ⟨some (s, b'), o⟩ :: a, b, Q, ρ, w, h => by
    simp only [List.cons_append, Q3] at h ⊢
    split
    · rename_i hw
      rw [if_pos hw] at h
      exact Q8s (fun ρ w h => Q8A h) (fun e ρ w hn h => by cases e <;> first | exact h | exact absurd rfl hn) h
    · rename_i hw
      rw [if_neg hw] at h
      exact Q8A h
/-- An assertion between two parts of a row of operations. -/
theorem s_cut {l : List GO} (n : Nat) (J : Env → World → Prop) (ha : Q3 P (l.take n) (QZ J Q) ρ w) (hb : ∀ ρ w, J ρ w → Q3 P (l.drop n) Q ρ w) : Q3 P l Q ρ w := by
  rw [← List.take_append_drop n l]
  exact Q8A (Qam (Q5N hb fun _ _ _ h => h) ha)
theorem s_lenL {d : Nat} {x : Operand} (hx : ρ.ev x = v) (hK : r.sl c v xs) (h : Q3 P l Q (upd ρ d (.int .i64 xs.length)) w) : Q3 P (⟨none, .len d x⟩ :: l) Q ρ w := by
  obtain ⟨css, h1, h2, h3⟩ := hK
  exact s_lenKn hx h1 h2.1 h
theorem s_subL {d : Nat} {x : Operand} {lo hi mx : Option Operand} {l' h' : Nat} (hx : ρ.ev x = v) (hK : r.sl c v xs) (hes : r.es = es) (hmx : mx = none) (hh : bnd ρ xs.length hi h') (hl : bnd ρ 0 lo l') (h2 : h' ≤ xs.length) (h3 : l' ≤ h')
    (h : ∀ v', r.sl c v' ((xs.take h').drop l') → Q3 P l Q (upd ρ d v') w) : Q3 P (⟨none, .sub d es x lo hi mx⟩ :: l) Q ρ w := by
  subst hes
  obtain ⟨css, h1, g2, g3⟩ := hK
  exact s_subK hx h1 hmx (by rw [g2.1]; exact hh) hl (by rw [g2.1]; exact h2) h3 fun v' hv => h v' ⟨_, hv, g2.sub _ _, by simp; omega⟩
end
end

/-! ### data that came in -/
section
variable {P : Program} {T e : TypeId} {α β : Type}
/-- What a codec reads, seen as a kind of data. -/
def Cod.rep (c : Cod P T α) (r : Rep β) (hs : c.es = r.es) (h : ∀ (H : Heap) cs x, c.rd H cs x → ∃ y, r.R H (· < H.size) cs y) : Cod P T β where
  es := r.es
  rd := fun H cs y => r.R H (· < H.size) cs y
  size := by rw [← hs]; exact c.size
  len := fun _ _ _ h => r.len h
  stay := fun H H' cs x hx hH => r.turn hx fun b hb hlt => by
    have := hH b hlt
    refine ⟨?_, this⟩
    rcases Nat.lt_or_ge b H'.size with h | h
    · exact h
    · rw [Array.getElem?_eq_none h, Array.getElem?_eq_getElem hlt] at this; cases this
  open_ := fun enc w fuel cs y hy hfit => by
    obtain ⟨x, hx⟩ := c.open_ enc w fuel cs y hy hfit
    exact h _ _ _ hx
/-- A list of a kind of data. -/
theorem list_rd {r : Rep α} {n : Nat} {H : Heap} {cs : List Value} {xs : List α} (hn : r.es = n)
    (h : ∃ v css, cs = [v] ∧ SlR H n v (fun _ => True) css ∧ css.length = xs.length ∧ xs.length ≤ 140737488355328 ∧ ∀ (m : Nat) (x : α), xs[m]? = some x → ∃ d, css[m]? = some d ∧ r.R H (· < H.size) d x) : r.list.R H (· < H.size) cs xs := by
  obtain ⟨v, css, rfl, h1, h2, h3, h4⟩ := h
  subst hn
  exact ⟨v, rfl, css, SlR.mono h1 fun b hb _ => hb, ⟨h2, h4⟩, h3⟩
def Cod.listOf (c : Cod P e β) (r : Rep β) (hs : c.es = r.es) (h : ∀ (H : Heap) cs x, c.rd H cs x → r.R H (· < H.size) cs x) (ht : P.underlying T = some (.slice e)) (h1 : P.cellsOf T = 1) (hby : decide (0 < P.bytesOf e) = true) : Cod P T (List β) :=
  Cod.rep (Cod.slice c ht h1 (by rw [hs]; exact r.pos) hby) r.list rfl fun H cs x hx => ⟨x, list_rd hs.symm (by
    obtain ⟨v, css, g1, g2, g3, g4, g5⟩ := hx
    exact ⟨v, css, g1, g2, g3, g4, fun m y hy => by obtain ⟨d, g6, g7⟩ := g5 m y hy; exact ⟨d, g6, h _ _ _ g7⟩⟩)⟩
/-- A kind of data by itself: the codec's reading is the kind's. -/
structure Cod.Of (P : Program) (T : TypeId) {α : Type} (r : Rep α) where
  cod : Cod P T α
  es : cod.es = r.es
  rd : ∀ (H : Heap) cs x, cod.rd H cs x → r.R H (· < H.size) cs x
def Cod.of (c : Cod P T α) (r : Rep β) (hs : c.es = r.es) (h : ∀ (H : Heap) cs x, c.rd H cs x → ∃ y, r.R H (· < H.size) cs y) : Cod.Of P T r := ⟨Cod.rep c r hs h, rfl, fun _ _ _ h => h⟩
def Cod.Of.list {r : Rep α} (c : Cod.Of P e r) (ht : P.underlying T = some (.slice e)) (h1 : P.cellsOf T = 1) (hby : decide (0 < P.bytesOf e) = true) : Cod.Of P T r.list := ⟨Cod.listOf c.cod r c.es c.rd ht h1 hby, rfl, fun _ _ _ h => h⟩
def Cod.Of.int (ht : P.underlying T = some (.int .i64)) (hs : P.cellsOf T = 1) : Cod.Of P T intR := Cod.of (Cod.int .i64 ht hs) intR rfl fun _ _ x h => ⟨x, h.1⟩
def Cod.Of.ty {TL t0 t1 : TypeId} (h0 : fieldAt P T 0 = some (0, 1, t0)) (h1 : fieldAt P T 1 = some (1, 1, t1)) (h2 : fieldAt P T 2 = some (2, 1, TL)) (hi0 : P.underlying t0 = some (.int .i64)) (hi1 : P.underlying t1 = some (.int .i64)) (hT : P.cellsOf T = 3) (hTL : P.underlying TL = some (.slice T)) (hby : decide (0 < P.bytesOf T) = true) : Cod.Of P T tyR :=
  ⟨Cod.ty h0 h1 h2 hi0 hi1 hT hTL hby, rfl, fun _ _ _ h => h⟩
theorem Cod.Of.top {r : Rep α} (c : Cod.Of P T r) {w : World} {cs : List Value} {x : α} (h : c.cod.rd w.heap cs x) : r.at (Cx.top w) cs x := c.rd _ _ _ h
end
end Go.Lir
namespace Go.Lir
set_option linter.unusedVariables false
mutual
/-- typeSize -/
def Ty.size : Ty → Int → Int
  | .mk _ _ l, left => Tys.size l (left - 1)
def Tys.size : List Ty → Int → Int
  | [], left => left
  | x :: l, left => if 0 ≤ left then Tys.size l (x.size left) else left
end
theorem Tys.size_neg : ∀ (l : List Ty) {left : Int}, left < 0 → Tys.size l left = left
  | [], _, _ => by simp [Tys.size]
  | x :: l, left, h => by rw [Tys.size, if_neg (by omega)]
mutual
/-- deep -/
def Ty.deepB : Ty → Int → Bool
  | .mk _ _ l, left => if left < 0 then false else Tys.deepB l (left - 1)
def Tys.deepB : List Ty → Int → Bool
  | [], _ => true
  | x :: l, left => x.deepB left && Tys.deepB l left
end
mutual
/-- DeepOf -/
def Ty.depth : Ty → Int → Int
  | .mk _ _ l, most => Tys.depth l most 0
def Tys.depth : List Ty → Int → Int → Int
  | [], _, n => n
  | x :: l, most, n => if n ≤ most then (if most = 0 then 1 else Tys.depth l most (if n < 1 + x.depth (most - 1) then 1 + x.depth (most - 1) else n)) else n
end
mutual
theorem Ty.depth_iff : ∀ (t : Ty) {most : Int}, 0 ≤ most → (t.depth most ≤ most ↔ t.deepB most = true)
  | .mk _ _ l, most, h => by
    rw [Ty.depth, Ty.deepB, if_neg (by omega), Tys.depth_iff l h]
    exact ⟨fun h => h.2, fun h2 => ⟨h, h2⟩⟩
theorem Tys.depth_iff : ∀ (l : List Ty) {most n : Int}, 0 ≤ most → (Tys.depth l most n ≤ most ↔ n ≤ most ∧ Tys.deepB l (most - 1) = true)
  | [], most, n, h => by rw [Tys.depth, Tys.deepB]; simp
  | x :: l, most, n, h => by
    rw [Tys.depth, Tys.deepB]
    by_cases hn : n ≤ most
    · rw [if_pos hn]
      by_cases h0 : most = 0
      · rw [if_pos h0]
        have : x.deepB (most - 1) = false := by obtain ⟨k, r, l2⟩ := x; rw [Ty.deepB, if_pos (by omega)]
        rw [this]; simp; omega
      · rw [if_neg h0, Tys.depth_iff l h]
        have := Ty.depth_iff x (most := most - 1) (by omega)
        rw [Bool.and_eq_true, ← this]
        constructor
        · rintro ⟨h1, h2⟩; split at h1 <;> exact ⟨by omega, by omega, h2⟩
        · rintro ⟨h1, h2, h3⟩; refine ⟨?_, h3⟩; split <;> omega
    · rw [if_neg hn]
      exact ⟨fun h => absurd h hn, fun h => h.1⟩
end
mutual
/-- Same -/
def Ty.same : Ty → Ty → Bool
  | .mk k r l, .mk k2 r2 l2 => decide (k = k2) && decide (r = r2) && Tys.same l l2
def Tys.same : List Ty → List Ty → Bool
  | [], [] => true
  | x :: l, y :: m => x.same y && Tys.same l m
  | [], _ :: _ => false
  | _ :: _, [] => false
end
mutual
theorem Ty.same_iff : ∀ (t u : Ty), t.same u = true ↔ t = u
  | .mk k r l, .mk k2 r2 l2 => by
    rw [Ty.same, Bool.and_eq_true, Bool.and_eq_true, Tys.same_iff l l2]
    simp only [decide_eq_true_eq, Ty.mk.injEq, and_assoc]
theorem Tys.same_iff : ∀ (l m : List Ty), Tys.same l m = true ↔ l = m
  | [], [] => by simp [Tys.same]
  | x :: l, y :: m => by rw [Tys.same, Bool.and_eq_true, Ty.same_iff x y, Tys.same_iff l m]; simp
  | [], _ :: _ => by simp [Tys.same]
  | _ :: _, [] => by simp [Tys.same]
end
instance : DecidableEq Ty := fun t u => decidable_of_iff _ (Ty.same_iff t u)
mutual
/-- wrong, typeFault -/
def Ty.wrong (fields : Nat) : Ty → Int → Int
  | .mk k r l, regs =>
    if k < 1 ∨ 4 < k then 3 else if k = 1 ∧ r ≠ 0 ∨ k ≠ 3 ∧ 0 < l.length then 4 else if fields < l.length then 2 else if k ≠ 1 ∧ (r < 0 ∨ regs ≤ r) then 1 else Tys.wrong fields l regs
def Tys.wrong (fields : Nat) : List Ty → Int → Int
  | [], _ => 0
  | x :: l, regs => if x.wrong fields regs ≠ 0 then x.wrong fields regs else Tys.wrong fields l regs
end
mutual
/-- Rename -/
def Ty.ren : Ty → List Int → Option Ty
  | .mk k r l, to => if k ≠ 1 ∧ (r < 0 ∨ (to.length : Int) ≤ r ∨ to.getD r.toNat 0 < 0) then none else
    match Tys.ren l to with
    | none => none
    | some m => some (.mk k (if k ≠ 1 then to.getD r.toNat 0 else r) m)
def Tys.ren : List Ty → List Int → Option (List Ty)
  | [], _ => some []
  | x :: l, to => match x.ren to with
    | none => none
    | some y => match Tys.ren l to with
      | none => none
      | some m => some (y :: m)
end
mutual
/-- Two renamings one behind the other are one. -/
theorem Ty.ren_ren {f g h : List Int} (hfg : ∀ i : Nat, i < f.length → 0 ≤ f.getD i 0 ∧ f.getD i 0 < g.length ∧ 0 ≤ g.getD (f.getD i 0).toNat 0 ∧ i < h.length ∧ h.getD i 0 = g.getD (f.getD i 0).toNat 0) :
    ∀ (t u : Ty), t.ren f = some u → ∃ v, u.ren g = some v ∧ t.ren h = some v
  | .mk k r l, u, ht => by
    rw [Ty.ren] at ht
    split at ht
    · cases ht
    · rename_i hc
      cases hl : Tys.ren l f with
      | none => rw [hl] at ht; cases ht
      | some m =>
        rw [hl] at ht
        simp only [Option.some.injEq] at ht
        obtain ⟨m2, h1, h2⟩ := Tys.ren_ren hfg l m hl
        subst ht
        by_cases hk : k = 1
        · refine ⟨.mk k r m2, ?_, ?_⟩
          · rw [Ty.ren, if_neg (by omega), h1]; simp [hk]
          · rw [Ty.ren, if_neg (by omega), h2]; simp [hk]
        · have := hfg r.toNat (by omega)
          refine ⟨.mk k (g.getD (f.getD r.toNat 0).toNat 0) m2, ?_, ?_⟩
          · rw [Ty.ren, if_pos hk, if_neg (by omega), h1]; simp [hk]
          · rw [Ty.ren, if_neg (by omega), h2]; simp only [if_pos hk, this.2.2.2.2]
theorem Tys.ren_ren {f g h : List Int} (hfg : ∀ i : Nat, i < f.length → 0 ≤ f.getD i 0 ∧ f.getD i 0 < g.length ∧ 0 ≤ g.getD (f.getD i 0).toNat 0 ∧ i < h.length ∧ h.getD i 0 = g.getD (f.getD i 0).toNat 0) :
    ∀ (t u : List Ty), Tys.ren t f = some u → ∃ v, Tys.ren u g = some v ∧ Tys.ren t h = some v
  | [], u, ht => by rw [Tys.ren] at ht; cases ht; exact ⟨[], by rw [Tys.ren], by rw [Tys.ren]⟩
  | x :: l, u, ht => by
    rw [Tys.ren] at ht
    cases hx : x.ren f with
    | none => rw [hx] at ht; cases ht
    | some y =>
      rw [hx] at ht
      cases hl : Tys.ren l f with
      | none => rw [hl] at ht; cases ht
      | some m =>
        rw [hl] at ht
        simp only [Option.some.injEq] at ht
        subst ht
        obtain ⟨y2, a1, a2⟩ := Ty.ren_ren hfg x y hx
        obtain ⟨m2, b1, b2⟩ := Tys.ren_ren hfg l m hl
        exact ⟨y2 :: m2, by rw [Tys.ren, a1, b1], by rw [Tys.ren, a2, b2]⟩
end
mutual
/-- What is renamed is as right as it was, if the renaming stays below the number of regions. -/
theorem Ty.ren_wrong {fields : Nat} {f : List Int} (hf : ∀ i : Nat, i < f.length → 0 ≤ f.getD i 0 ∧ f.getD i 0 < f.length) : ∀ (t u : Ty), t.ren f = some u → u.wrong fields f.length = t.wrong fields f.length
  | .mk k r l, u, ht => by
    rw [Ty.ren] at ht
    split at ht
    · cases ht
    · rename_i hc
      cases hl : Tys.ren l f with
      | none => rw [hl] at ht; cases ht
      | some m =>
        rw [hl] at ht
        simp only [Option.some.injEq] at ht
        subst ht
        obtain ⟨h1, h2⟩ := Tys.ren_wrong (fields := fields) hf l m hl
        by_cases hk : k = 1
        · rw [Ty.wrong, Ty.wrong, h1, h2]; simp [hk]
        · have := hf r.toNat (by omega)
          rw [Ty.wrong, Ty.wrong, h1, h2]
          simp only [if_pos hk]
          rw [if_neg (show ¬ (k ≠ 1 ∧ (f.getD r.toNat 0 < 0 ∨ (f.length : Int) ≤ f.getD r.toNat 0)) by omega), if_neg (show ¬ (k ≠ 1 ∧ (r < 0 ∨ (f.length : Int) ≤ r)) by omega)]
          simp [hk]
theorem Tys.ren_wrong {fields : Nat} {f : List Int} (hf : ∀ i : Nat, i < f.length → 0 ≤ f.getD i 0 ∧ f.getD i 0 < f.length) : ∀ (t u : List Ty), Tys.ren t f = some u → u.length = t.length ∧ Tys.wrong fields u f.length = Tys.wrong fields t f.length
  | [], u, ht => by rw [Tys.ren] at ht; cases ht; exact ⟨rfl, rfl⟩
  | x :: l, u, ht => by
    rw [Tys.ren] at ht
    cases hx : x.ren f with
    | none => rw [hx] at ht; cases ht
    | some y =>
      rw [hx] at ht
      cases hl : Tys.ren l f with
      | none => rw [hl] at ht; cases ht
      | some m =>
        rw [hl] at ht
        simp only [Option.some.injEq] at ht
        subst ht
        obtain ⟨h1, h2⟩ := Tys.ren_wrong (fields := fields) hf l m hl
        exact ⟨by simp [h1], by rw [Tys.wrong, Tys.wrong, Ty.ren_wrong hf x y hx, h2]⟩
end
mutual
/-- What cannot be renamed is wrong. -/
theorem Ty.ren_none {fields : Nat} {f : List Int} (hf : ∀ i : Nat, i < f.length → 0 ≤ f.getD i 0) : ∀ (t : Ty), t.ren f = none → t.wrong fields f.length ≠ 0
  | .mk k r l, ht => by
    rw [Ty.wrong]
    rw [Ty.ren] at ht
    split
    · decide
    · split
      · decide
      · split
        · decide
        · split
          · decide
          · rename_i h1 h2 h3 h4
            have hc : ¬ (k ≠ 1 ∧ (r < 0 ∨ (f.length : Int) ≤ r ∨ f.getD r.toNat 0 < 0)) := by
              rintro ⟨a, b⟩
              have := hf r.toNat
              omega
            rw [if_neg hc] at ht
            cases hl : Tys.ren l f with
            | none => exact Tys.ren_none hf l hl
            | some m => rw [hl] at ht; cases ht
theorem Tys.ren_none {fields : Nat} {f : List Int} (hf : ∀ i : Nat, i < f.length → 0 ≤ f.getD i 0) : ∀ (t : List Ty), Tys.ren t f = none → Tys.wrong fields t f.length ≠ 0
  | [], ht => by rw [Tys.ren] at ht; cases ht
  | x :: l, ht => by
    rw [Tys.ren] at ht
    rw [Tys.wrong]
    split
    · rename_i h; exact h
    · rename_i h
      cases hx : x.ren f with
      | none => exact absurd hx (fun hx => h (Ty.ren_none hf x hx))
      | some y =>
        rw [hx] at ht
        cases hl : Tys.ren l f with
        | none => exact Tys.ren_none hf l hl
        | some m => rw [hl] at ht; cases ht
end
mutual
theorem Ty.ren_deep {f : List Int} : ∀ (t u : Ty) (left : Int), t.ren f = some u → u.deepB left = t.deepB left
  | .mk k r l, u, left, ht => by
    rw [Ty.ren] at ht
    split at ht
    · cases ht
    · cases hl : Tys.ren l f with
      | none => rw [hl] at ht; cases ht
      | some m =>
        rw [hl] at ht
        simp only [Option.some.injEq] at ht
        subst ht
        rw [Ty.deepB, Ty.deepB, Tys.ren_deep l m (left - 1) hl]
theorem Tys.ren_deep {f : List Int} : ∀ (t u : List Ty) (left : Int), Tys.ren t f = some u → Tys.deepB u left = Tys.deepB t left
  | [], u, _, ht => by rw [Tys.ren] at ht; cases ht; rfl
  | x :: l, u, left, ht => by
    rw [Tys.ren] at ht
    cases hx : x.ren f with
    | none => rw [hx] at ht; cases ht
    | some y =>
      rw [hx] at ht
      cases hl : Tys.ren l f with
      | none => rw [hl] at ht; cases ht
      | some m =>
        rw [hl] at ht
        simp only [Option.some.injEq] at ht
        subst ht
        rw [Tys.deepB, Tys.deepB, Ty.ren_deep x y left hx, Tys.ren_deep l m left hl]
end
mutual
/-- The renaming that leaves all as it is. -/
theorem Ty.ren_id {f : List Int} (hf : ∀ i : Nat, i < f.length → f.getD i 0 = i) : ∀ (t u : Ty), t.ren f = some u → u = t
  | .mk k r l, u, ht => by
    rw [Ty.ren] at ht
    split at ht
    · cases ht
    · rename_i hc
      cases hl : Tys.ren l f with
      | none => rw [hl] at ht; cases ht
      | some m =>
        rw [hl] at ht
        simp only [Option.some.injEq] at ht
        subst ht
        rw [Tys.ren_id hf l m hl]
        by_cases hk : k = 1
        · simp [hk]
        · have := hf r.toNat (by omega)
          rw [if_pos hk, this, Int.toNat_of_nonneg (by omega)]
theorem Tys.ren_id {f : List Int} (hf : ∀ i : Nat, i < f.length → f.getD i 0 = i) : ∀ (t u : List Ty), Tys.ren t f = some u → u = t
  | [], u, ht => by rw [Tys.ren] at ht; cases ht; rfl
  | x :: l, u, ht => by
    rw [Tys.ren] at ht
    cases hx : x.ren f with
    | none => rw [hx] at ht; cases ht
    | some y =>
      rw [hx] at ht
      cases hl : Tys.ren l f with
      | none => rw [hl] at ht; cases ht
      | some m =>
        rw [hl] at ht
        simp only [Option.some.injEq] at ht
        subst ht
        rw [Ty.ren_id hf x y hx, Tys.ren_id hf l m hl]
end
/-- By the parts. -/
theorem Ty.ind {p : Ty → Prop} (h : ∀ k r l, (∀ x ∈ l, p x) → p (.mk k r l)) : ∀ t, p t
  | .mk k r l => h k r l fun x hx => Ty.ind h x
termination_by t => SizeOf.sizeOf t
decreasing_by
  have := List.sizeOf_lt_of_mem hx
  simp only [Ty.mk.sizeOf_spec]
  omega
mutual
theorem Ty.size_rng : ∀ (t : Ty) {left : Int}, 0 ≤ left → -1 ≤ t.size left ∧ t.size left < left
  | .mk _ _ l, left, h => by
    rw [Ty.size]
    have := Tys.size_rng l (left := left - 1) (by omega)
    omega
theorem Tys.size_rng : ∀ (l : List Ty) {left : Int}, -1 ≤ left → -1 ≤ Tys.size l left ∧ Tys.size l left ≤ left
  | [], left, h => by rw [Tys.size]; omega
  | x :: l, left, h => by
    rw [Tys.size]
    split
    · rename_i h0
      have h1 := Ty.size_rng x h0
      have h2 := Tys.size_rng l (left := x.size left) h1.1
      omega
    · omega
end
mutual
theorem Ty.size_mono : ∀ (t : Ty) {a b : Int}, a ≤ b → -1 ≤ a → t.size a ≤ t.size b
  | .mk _ _ l, a, b, h, ha => by
    rw [Ty.size, Ty.size]
    by_cases h0 : 0 ≤ a
    · exact Tys.size_mono l (by omega) (by omega)
    · rw [Tys.size_neg l (by omega)]
      by_cases hb : 0 ≤ b
      · have := Tys.size_rng l (left := b - 1) (by omega); omega
      · rw [Tys.size_neg l (by omega)]; omega
theorem Tys.size_mono : ∀ (l : List Ty) {a b : Int}, a ≤ b → -1 ≤ a → Tys.size l a ≤ Tys.size l b
  | [], a, b, h, _ => by rw [Tys.size, Tys.size]; exact h
  | x :: l, a, b, h, ha => by
    by_cases h0 : 0 ≤ a
    · rw [Tys.size, Tys.size, if_pos h0, if_pos (by omega)]
      exact Tys.size_mono l (Ty.size_mono x h ha) (Ty.size_rng x h0).1
    · rw [Tys.size_neg _ (by omega)]
      have := Tys.size_rng (x :: l) (left := b) (by omega); omega
end
/-- What is not too great has few parts, and none of them is too great. -/
theorem Tys.size_len : ∀ (l : List Ty) {left : Int}, 0 ≤ Tys.size l left → -1 ≤ left → (l.length : Int) ≤ left ∧ ∀ x ∈ l, 0 ≤ x.size left
  | [], left, h, _ => by rw [Tys.size] at h; simp; exact h
  | x :: l, left, h, hl => by
    rw [Tys.size] at h
    split at h
    · rename_i h0
      have h1 := Ty.size_rng x h0
      have h2 := Tys.size_len l h h1.1
      have h3 := Tys.size_rng l (left := x.size left) h1.1
      refine ⟨by simp only [List.length_cons]; omega, fun y hy => ?_⟩
      rcases List.mem_cons.1 hy with rfl | hy
      · omega
      · exact Int.le_trans (h2.2 y hy) (Ty.size_mono y (by omega) h1.1)
    · omega
/-- Check, TypeFault -/
def Ty.fault (t : Ty) (regs : Int) : Int := if t.deepB 4 = false then 19 else t.wrong 8 regs
mutual
theorem Ty.depth_rng : ∀ (t : Ty) {most : Int}, 0 ≤ most → 0 ≤ t.depth most ∧ t.depth most ≤ most + 1
  | .mk _ _ l, most, h => by
    rw [Ty.depth]
    exact Tys.depth_rng l h (by omega) (by omega)
theorem Tys.depth_rng : ∀ (l : List Ty) {most n : Int}, 0 ≤ most → 0 ≤ n → n ≤ most + 1 → 0 ≤ Tys.depth l most n ∧ Tys.depth l most n ≤ most + 1
  | [], most, n, _, h1, h2 => by rw [Tys.depth]; omega
  | x :: l, most, n, h, h1, h2 => by
    rw [Tys.depth]
    split
    · split
      · omega
      · have := Ty.depth_rng x (most := most - 1) (by omega)
        exact Tys.depth_rng l h (by split <;> omega) (by split <;> omega)
    · omega
end
/-- No list of parts is long. -/
inductive Ty.Short : Ty → Prop where
  | mk {k r : Int} {l : List Ty} : l.length ≤ 100000 → (∀ x ∈ l, x.Short) → Ty.Short (.mk k r l)
theorem Ty.Short.parts {k r : Int} {l : List Ty} (h : (Ty.mk k r l).Short) : l.length ≤ 100000 ∧ ∀ x ∈ l, x.Short := by
  cases h with | mk h1 h2 => exact ⟨h1, h2⟩
theorem Ty.short_of_size : ∀ (t : Ty) {n : Int}, n ≤ 100000 → 0 ≤ n → 0 ≤ t.size n → t.Short := by
  intro t
  induction t using Ty.ind with
  | h k r l ih =>
    intro n h1 h0 h
    rw [Ty.size] at h
    obtain ⟨h2, h3⟩ := Tys.size_len l h (by omega)
    refine .mk (by omega) fun x hx => ?_
    have hp := h3 x hx
    have hl := List.length_pos_of_mem hx
    exact ih x hx (n := n - 1) (by omega) (by omega) hp
/-- GreatType, greatTypes -/
def Ty.great (t : Ty) : Bool := decide (t.size 2000 < 0)
def Tys.great (l : List Ty) : Bool := decide (200 < l.length) || l.any Ty.great
theorem Ty.short_of_great {t : Ty} (h : t.great = false) : t.Short := Ty.short_of_size t (n := 2000) (by omega) (by omega) (by unfold Ty.great at h; simp at h; exact h)
theorem Tys.short_of_great {l : List Ty} (h : Tys.great l = false) : l.length ≤ 200 ∧ ∀ x ∈ l, x.Short := by
  unfold Tys.great at h
  rw [Bool.or_eq_false_iff] at h
  refine ⟨by have := of_decide_eq_false h.1; omega, fun x hx => Ty.short_of_great ?_⟩
  cases hg : x.great with
  | false => rfl
  | true => have := List.any_eq_true.2 ⟨x, hx, hg⟩; rw [h.2] at this; cases this
end Go.Lir
namespace Go.Lir
structure Ins where
  op : Int
  a : Int
  b : Int
  c : Int
  k : Int
  n : Int
  regs : List Int
  args : List Int
structure To where
  block : Int
  regs : List Int
  args : List Int
structure Tail where
  op : Int
  a : Int
  yes : To
  no : To
  args : List Int
structure Block where
  regs : Int
  params : List Ty
  code : List Ins
  fin : Tail
deriving instance DecidableEq for Ins
deriving instance DecidableEq for To
deriving instance DecidableEq for Tail
deriving instance DecidableEq for Block
structure Fun where
  regs : Int
  params : List Ty
  results : List Ty
  blocks : List Block
structure Module where
  funcs : List Fun
deriving instance DecidableEq for Fun
deriving instance DecidableEq for Module

/-! ### no list is long -/
def Ins.Short (x : Ins) : Prop := x.regs.length ≤ 100000 ∧ x.args.length ≤ 100000
def To.Short (x : To) : Prop := x.regs.length ≤ 100000 ∧ x.args.length ≤ 100000
def Tail.Short (x : Tail) : Prop := x.yes.Short ∧ x.no.Short ∧ x.args.length ≤ 100000
def Tys.Short (l : List Ty) : Prop := l.length ≤ 100000 ∧ ∀ t ∈ l, t.Short
def Block.Short (x : Block) : Prop := Tys.Short x.params ∧ x.code.length ≤ 100000 ∧ (∀ i ∈ x.code, i.Short) ∧ x.fin.Short
def Fun.Short (x : Fun) : Prop := Tys.Short x.params ∧ Tys.Short x.results ∧ x.blocks.length ≤ 100000 ∧ ∀ b ∈ x.blocks, b.Short
def Module.Short (x : Module) : Prop := x.funcs.length ≤ 100000 ∧ ∀ f ∈ x.funcs, f.Short
theorem Tys.Short.of_great {l : List Ty} (h : Tys.great l = false) : Tys.Short l := by
  have := Tys.short_of_great h
  exact ⟨by omega, this.2⟩
theorem Q9Y {α : Type} {l : List α} {p : α → Prop} {j : Nat} {x : α} (h : ∀ y ∈ l.take j, p y) (hx : l[j]? = some x) (hp : p x) : ∀ y ∈ l.take (j + 1), p y := by
  intro y hy
  rw [List.take_add_one, hx] at hy
  rcases List.mem_append.1 hy with hy | hy
  · exact h y hy
  · simp at hy; subst hy; exact hp
theorem QdF {α : Type} {l : List α} {p : α → Prop} {j : Nat} (h : ∀ y ∈ l.take j, p y) (hj : l.length ≤ j) : ∀ y ∈ l, p y := by
  rw [List.take_of_length_le hj] at h; exact h
def insR : Rep Ins where
  es := 8
  pos := by decide
  R := fun H K cs x => ∃ vr va, cs = [.int .i64 x.op, .int .i64 x.a, .int .i64 x.b, .int .i64 x.c, .int .i64 x.k, .int .i64 x.n, vr, va] ∧ intR.SR H K vr x.regs ∧ intR.SR H K va x.args
  len := by rintro _ _ _ _ ⟨vr, va, rfl, _⟩; rfl
  one := by
    rintro _ _ _ _ ⟨vr, va, rfl, h1, h2⟩ u hu
    simp at hu
    rcases hu with rfl | rfl | rfl | rfl | rfl | rfl | rfl | rfl <;> first | rfl | exact h1.oneC | exact h2.oneC
  turn := by rintro _ _ _ _ _ _ ⟨vr, va, rfl, h1, h2⟩ hs; exact ⟨vr, va, rfl, h1.turn hs, h2.turn hs⟩
def toR : Rep To where
  es := 3
  pos := by decide
  R := fun H K cs x => ∃ vr va, cs = [.int .i64 x.block, vr, va] ∧ intR.SR H K vr x.regs ∧ intR.SR H K va x.args
  len := by rintro _ _ _ _ ⟨vr, va, rfl, _⟩; rfl
  one := by
    rintro _ _ _ _ ⟨vr, va, rfl, h1, h2⟩ u hu
    simp at hu
    rcases hu with rfl | rfl | rfl <;> first | rfl | exact h1.oneC | exact h2.oneC
  turn := by rintro _ _ _ _ _ _ ⟨vr, va, rfl, h1, h2⟩ hs; exact ⟨vr, va, rfl, h1.turn hs, h2.turn hs⟩
def endR : Rep Tail where
  es := 9
  pos := by decide
  R := fun H K cs x => ∃ v1 v2 v3 v4 v5, cs = [.int .i64 x.op, .int .i64 x.a, .int .i64 x.yes.block, v1, v2, .int .i64 x.no.block, v3, v4, v5] ∧ intR.SR H K v1 x.yes.regs ∧ intR.SR H K v2 x.yes.args ∧ intR.SR H K v3 x.no.regs ∧ intR.SR H K v4 x.no.args ∧ intR.SR H K v5 x.args
  len := by rintro _ _ _ _ ⟨_, _, _, _, _, rfl, _⟩; rfl
  one := by
    rintro _ _ _ _ ⟨_, _, _, _, _, rfl, h1, h2, h3, h4, h5⟩ u hu
    simp at hu
    rcases hu with rfl | rfl | rfl | rfl | rfl | rfl | rfl | rfl | rfl <;> first | rfl | exact h1.oneC | exact h2.oneC | exact h3.oneC | exact h4.oneC | exact h5.oneC
  turn := by rintro _ _ _ _ _ _ ⟨_, _, _, _, _, rfl, h1, h2, h3, h4, h5⟩ hs; exact ⟨_, _, _, _, _, rfl, h1.turn hs, h2.turn hs, h3.turn hs, h4.turn hs, h5.turn hs⟩
def blockR : Rep Block where
  es := 12
  pos := by decide
  R := fun H K cs x => ∃ vp vc ce, cs = .int .i64 x.regs :: vp :: vc :: ce ∧ tyR.SR H K vp x.params ∧ insR.SR H K vc x.code ∧ endR.R H K ce x.fin
  len := by rintro _ _ _ _ ⟨_, _, ce, rfl, _, _, h⟩; have := endR.len h; simp [this, endR]
  one := by
    rintro _ _ _ _ ⟨_, _, ce, rfl, h1, h2, h3⟩ u hu
    simp at hu
    rcases hu with rfl | rfl | rfl | hu
    · rfl
    · exact h1.oneC
    · exact h2.oneC
    · exact endR.one h3 u hu
  turn := by rintro _ _ _ _ _ _ ⟨_, _, _, rfl, h1, h2, h3⟩ hs; exact ⟨_, _, _, rfl, h1.turn hs, h2.turn hs, endR.turn h3 hs⟩
def funcR : Rep Fun where
  es := 4
  pos := by decide
  R := fun H K cs x => ∃ vp vr vb, cs = [.int .i64 x.regs, vp, vr, vb] ∧ tyR.SR H K vp x.params ∧ tyR.SR H K vr x.results ∧ blockR.SR H K vb x.blocks
  len := by rintro _ _ _ _ ⟨_, _, _, rfl, _⟩; rfl
  one := by
    rintro _ _ _ _ ⟨_, _, _, rfl, h1, h2, h3⟩ u hu
    simp at hu
    rcases hu with rfl | rfl | rfl | rfl <;> first | rfl | exact h1.oneC | exact h2.oneC | exact h3.oneC
  turn := by rintro _ _ _ _ _ _ ⟨_, _, _, rfl, h1, h2, h3⟩ hs; exact ⟨_, _, _, rfl, h1.turn hs, h2.turn hs, h3.turn hs⟩
def modR : Rep Module where
  es := 1
  pos := by decide
  R := fun H K cs x => ∃ vf, cs = [vf] ∧ funcR.SR H K vf x.funcs
  len := by rintro _ _ _ _ ⟨_, rfl, _⟩; rfl
  one := by
    rintro _ _ _ _ ⟨_, rfl, h1⟩ u hu
    simp at hu; subst hu; exact h1.oneC
  turn := by rintro _ _ _ _ _ _ ⟨_, rfl, h1⟩ hs; exact ⟨_, rfl, h1.turn hs⟩

theorem Q1Q {c : Cx} {cs : List Value} {x : Ins} (h : insR.at c cs x) : ∃ vr va, cs = [.int .i64 x.op, .int .i64 x.a, .int .i64 x.b, .int .i64 x.c, .int .i64 x.k, .int .i64 x.n, vr, va] ∧ intR.sl c vr x.regs ∧ intR.sl c va x.args := h
theorem Q4p {c : Cx} {cs : List Value} {x : To} (h : toR.at c cs x) : ∃ vr va, cs = [.int .i64 x.block, vr, va] ∧ intR.sl c vr x.regs ∧ intR.sl c va x.args := h
theorem Q5U {c : Cx} {cs : List Value} {x : Tail} (h : endR.at c cs x) : ∃ v1 v2 v3 v4 v5, cs = [.int .i64 x.op, .int .i64 x.a, .int .i64 x.yes.block, v1, v2, .int .i64 x.no.block, v3, v4, v5] ∧ intR.sl c v1 x.yes.regs ∧ intR.sl c v2 x.yes.args ∧ intR.sl c v3 x.no.regs ∧ intR.sl c v4 x.no.args ∧ intR.sl c v5 x.args := h
theorem Q2C {c : Cx} {cs : List Value} {x : Block} (h : blockR.at c cs x) : ∃ vp vc v1 v2 v3 v4 v5, cs = [.int .i64 x.regs, vp, vc, .int .i64 x.fin.op, .int .i64 x.fin.a, .int .i64 x.fin.yes.block, v1, v2, .int .i64 x.fin.no.block, v3, v4, v5] ∧ tyR.sl c vp x.params ∧ insR.sl c vc x.code ∧ intR.sl c v1 x.fin.yes.regs ∧ intR.sl c v2 x.fin.yes.args ∧ intR.sl c v3 x.fin.no.regs ∧ intR.sl c v4 x.fin.no.args ∧ intR.sl c v5 x.fin.args := by
  obtain ⟨vp, vc, ce, rfl, h1, h2, v1, v2, v3, v4, v5, rfl, h3⟩ := h
  exact ⟨vp, vc, v1, v2, v3, v4, v5, rfl, h1, h2, h3⟩
theorem Qfh {c : Cx} {x : Block} {vp vc v1 v2 v3 v4 v5 : Value} (h1 : tyR.sl c vp x.params) (h2 : insR.sl c vc x.code) (h3 : intR.sl c v1 x.fin.yes.regs) (h4 : intR.sl c v2 x.fin.yes.args) (h5 : intR.sl c v3 x.fin.no.regs) (h6 : intR.sl c v4 x.fin.no.args) (h7 : intR.sl c v5 x.fin.args) :
    blockR.at c [.int .i64 x.regs, vp, vc, .int .i64 x.fin.op, .int .i64 x.fin.a, .int .i64 x.fin.yes.block, v1, v2, .int .i64 x.fin.no.block, v3, v4, v5] x := ⟨vp, vc, _, rfl, h1, h2, v1, v2, v3, v4, v5, rfl, h3, h4, h5, h6, h7⟩
theorem Q17 {c : Cx} {cs : List Value} {x : Fun} (h : funcR.at c cs x) : ∃ vp vr vb, cs = [.int .i64 x.regs, vp, vr, vb] ∧ tyR.sl c vp x.params ∧ tyR.sl c vr x.results ∧ blockR.sl c vb x.blocks := h
theorem Q29 {c : Cx} {cs : List Value} {x : Module} (h : modR.at c cs x) : ∃ vf, cs = [vf] ∧ funcR.sl c vf x.funcs := h

/-! ### codecs -/
section
variable {P : Program} {T : TypeId}
/-- A field as a kind of data. -/
theorem Cod.Of.part {α : Type} {r : Rep α} (c : Cod.Of P T r) {H : Heap} {cs : List Value} {x : α} (h : c.cod.rd H cs x) : r.R H (· < H.size) cs x := c.rd _ _ _ h
def Cod.Of.to {TI TL : TypeId} (ci : Cod.Of P TI intR) (cl : Cod.Of P TL intR.list) (h0 : fieldAt P T 0 = some (0, 1, TI)) (h1 : fieldAt P T 1 = some (1, 1, TL)) (h2 : fieldAt P T 2 = some (2, 1, TL)) (hT : P.cellsOf T = 3) : Cod.Of P T toR :=
  Cod.of (Fld.cod (Fld.more ci.cod h0 (Fld.more cl.cod h1 (Fld.more cl.cod h2 Fld.none))) h0 3 hT) toR rfl fun H cs x h => by
    obtain ⟨hl, g0, g1, g2, _⟩ := h
    match cs, hl with
    | [a, b, c], _ =>
      have e0 : [a] = [_] := ci.part g0
      obtain ⟨v1, e1, s1⟩ := cl.part g1
      obtain ⟨v2, e2, s2⟩ := cl.part g2
      replace e1 : [b] = [v1] := e1
      replace e2 : [c] = [v2] := e2
      simp only [List.cons.injEq, and_true] at e0 e1 e2
      subst e0 e1 e2
      exact ⟨⟨x.1, x.2.1, x.2.2.1⟩, b, c, rfl, s1, s2⟩
def Cod.Of.ins {TI TL TN : TypeId} (ci : Cod.Of P TI intR) (cn : Cod.Of P TN intR) (cl : Cod.Of P TL intR.list) (h0 : fieldAt P T 0 = some (0, 1, TI)) (h1 : fieldAt P T 1 = some (1, 1, TI)) (h2 : fieldAt P T 2 = some (2, 1, TI)) (h3 : fieldAt P T 3 = some (3, 1, TI)) (h4 : fieldAt P T 4 = some (4, 1, TI)) (h5 : fieldAt P T 5 = some (5, 1, TN)) (h6 : fieldAt P T 6 = some (6, 1, TL)) (h7 : fieldAt P T 7 = some (7, 1, TL)) (hT : P.cellsOf T = 8) : Cod.Of P T insR :=
  Cod.of (Fld.cod (Fld.more ci.cod h0 (Fld.more ci.cod h1 (Fld.more ci.cod h2 (Fld.more ci.cod h3 (Fld.more ci.cod h4 (Fld.more cn.cod h5 (Fld.more cl.cod h6 (Fld.more cl.cod h7 Fld.none)))))))) h0 8 hT) insR rfl fun H cs x h => by
    obtain ⟨hl, g0, g1, g2, g3, g4, g5, g6, g7, _⟩ := h
    match cs, hl with
    | [a0, a1, a2, a3, a4, a5, a6, a7], _ =>
      have e0 : [a0] = [_] := ci.part g0
      have e1 : [a1] = [_] := ci.part g1
      have e2 : [a2] = [_] := ci.part g2
      have e3 : [a3] = [_] := ci.part g3
      have e4 : [a4] = [_] := ci.part g4
      have e5 : [a5] = [_] := cn.part g5
      obtain ⟨v1, e6, s1⟩ := cl.part g6
      obtain ⟨v2, e7, s2⟩ := cl.part g7
      replace e6 : [a6] = [v1] := e6
      replace e7 : [a7] = [v2] := e7
      simp only [List.cons.injEq, and_true] at e0 e1 e2 e3 e4 e5 e6 e7
      subst e0 e1 e2 e3 e4 e5 e6 e7
      exact ⟨⟨x.1, x.2.1, x.2.2.1, x.2.2.2.1, x.2.2.2.2.1, x.2.2.2.2.2.1, x.2.2.2.2.2.2.1, x.2.2.2.2.2.2.2.1⟩, _, _, rfl, s1, s2⟩
def Cod.Of.endp {TI TL TT : TypeId} (ci : Cod.Of P TI intR) (cl : Cod.Of P TL intR.list) (ct : Cod.Of P TT toR) (h0 : fieldAt P T 0 = some (0, 1, TI)) (h1 : fieldAt P T 1 = some (1, 1, TI)) (h2 : fieldAt P T 2 = some (2, 3, TT)) (h3 : fieldAt P T 3 = some (5, 3, TT)) (h4 : fieldAt P T 4 = some (8, 1, TL)) (hT : P.cellsOf T = 9) : Cod.Of P T endR :=
  Cod.of (Fld.cod (Fld.more ci.cod h0 (Fld.more ci.cod h1 (Fld.more ct.cod h2 (Fld.more ct.cod h3 (Fld.more cl.cod h4 Fld.none))))) h0 9 hT) endR rfl fun H cs x h => by
    obtain ⟨hl, g0, g1, g2, g3, g4, _⟩ := h
    match cs, hl with
    | [a0, a1, a2, a3, a4, a5, a6, a7, a8], _ =>
      have e0 : [a0] = [_] := ci.part g0
      have e1 : [a1] = [_] := ci.part g1
      obtain ⟨v1, v2, e2, s1, s2⟩ := ct.part g2
      obtain ⟨v3, v4, e3, s3, s4⟩ := ct.part g3
      obtain ⟨v5, e4, s5⟩ := cl.part g4
      replace e2 : [a2, a3, a4] = _ := e2
      replace e3 : [a5, a6, a7] = _ := e3
      replace e4 : [a8] = _ := e4
      simp only [List.cons.injEq, and_true] at e0 e1 e2 e3 e4
      obtain ⟨q2, q3, q4⟩ := e2
      obtain ⟨q5, q6, q7⟩ := e3
      subst e0 e1 q2 q3 q4 q5 q6 q7 e4
      exact ⟨⟨x.1, x.2.1, x.2.2.1, x.2.2.2.1, x.2.2.2.2.1⟩, _, _, _, _, _, rfl, s1, s2, s3, s4, s5⟩
def Cod.Of.block {TI TL TC TE : TypeId} (ci : Cod.Of P TI intR) (cl : Cod.Of P TL tyR.list) (cc : Cod.Of P TC insR.list) (ce : Cod.Of P TE endR) (h0 : fieldAt P T 0 = some (0, 1, TI)) (h1 : fieldAt P T 1 = some (1, 1, TL)) (h2 : fieldAt P T 2 = some (2, 1, TC)) (h3 : fieldAt P T 3 = some (3, 9, TE)) (hT : P.cellsOf T = 12) : Cod.Of P T blockR :=
  Cod.of (Fld.cod (Fld.more ci.cod h0 (Fld.more cl.cod h1 (Fld.more cc.cod h2 (Fld.more ce.cod h3 Fld.none)))) h0 12 hT) blockR rfl fun H cs x h => by
    obtain ⟨hl, g0, g1, g2, g3, _⟩ := h
    match cs, hl with
    | [a0, a1, a2, a3, a4, a5, a6, a7, a8, a9, a10, a11], _ =>
      have e0 : [a0] = [_] := ci.part g0
      obtain ⟨v1, e1, s1⟩ := cl.part g1
      obtain ⟨v2, e2, s2⟩ := cc.part g2
      have s3 := ce.part g3
      replace e1 : [a1] = _ := e1
      replace e2 : [a2] = _ := e2
      replace s3 : endR.R H (· < H.size) [a3, a4, a5, a6, a7, a8, a9, a10, a11] x.2.2.2.1 := s3
      simp only [List.cons.injEq, and_true] at e0 e1 e2
      subst e0 e1 e2
      exact ⟨⟨x.1, x.2.1, x.2.2.1, x.2.2.2.1⟩, _, _, _, rfl, s1, s2, s3⟩
def Cod.Of.func {TI TL TB : TypeId} (ci : Cod.Of P TI intR) (cl : Cod.Of P TL tyR.list) (cb : Cod.Of P TB blockR.list) (h0 : fieldAt P T 0 = some (0, 1, TI)) (h1 : fieldAt P T 1 = some (1, 1, TL)) (h2 : fieldAt P T 2 = some (2, 1, TL)) (h3 : fieldAt P T 3 = some (3, 1, TB)) (hT : P.cellsOf T = 4) : Cod.Of P T funcR :=
  Cod.of (Fld.cod (Fld.more ci.cod h0 (Fld.more cl.cod h1 (Fld.more cl.cod h2 (Fld.more cb.cod h3 Fld.none)))) h0 4 hT) funcR rfl fun H cs x h => by
    obtain ⟨hl, g0, g1, g2, g3, _⟩ := h
    match cs, hl with
    | [a0, a1, a2, a3], _ =>
      have e0 : [a0] = [_] := ci.part g0
      obtain ⟨v1, e1, s1⟩ := cl.part g1
      obtain ⟨v2, e2, s2⟩ := cl.part g2
      obtain ⟨v3, e3, s3⟩ := cb.part g3
      replace e1 : [a1] = _ := e1
      replace e2 : [a2] = _ := e2
      replace e3 : [a3] = _ := e3
      simp only [List.cons.injEq, and_true] at e0 e1 e2 e3
      subst e0 e1 e2 e3
      exact ⟨⟨x.1, x.2.1, x.2.2.1, x.2.2.2.1⟩, _, _, _, rfl, s1, s2, s3⟩
def Cod.Of.mod {TF : TypeId} (cf : Cod.Of P TF funcR.list) (h0 : fieldAt P T 0 = some (0, 1, TF)) (hT : P.cellsOf T = 1) : Cod.Of P T modR :=
  Cod.of (Fld.cod (Fld.more cf.cod h0 Fld.none) h0 1 hT) modR rfl fun H cs x h => by
    obtain ⟨hl, g0, _⟩ := h
    match cs, hl with
    | [a0], _ =>
      obtain ⟨v1, e1, s1⟩ := cf.part g0
      replace e1 : [a0] = _ := e1
      simp only [List.cons.injEq, and_true] at e1
      subst e1
      exact ⟨⟨x.1⟩, _, rfl, s1⟩
end
end Go.Lir
namespace Go.Proofs.Ytanlkfeogoganaa
open Go.Lir
def cInt : Cod.Of Try.prog 3 intR := Cod.Of.int (by kernel_rfl) (by kernel_rfl)
def cLong : Cod.Of Try.prog 2 intR := Cod.Of.int (by kernel_rfl) (by kernel_rfl)
def cInts : Cod.Of Try.prog 25 intR.list := Cod.Of.list cInt (by kernel_rfl) (by kernel_rfl) (by kernel_rfl)
def cTy : Cod.Of Try.prog 65 tyR := Cod.Of.ty (TL := 28) (t0 := 3) (t1 := 3) (by kernel_rfl) (by kernel_rfl) (by kernel_rfl) (by kernel_rfl) (by kernel_rfl) (by kernel_rfl) (by kernel_rfl) (by kernel_rfl)
def cTys : Cod.Of Try.prog 28 tyR.list := Cod.Of.list cTy (by kernel_rfl) (by kernel_rfl) (by kernel_rfl)
def cIns : Cod.Of Try.prog 27 insR := Cod.Of.ins cInt cLong cInts (by kernel_rfl) (by kernel_rfl) (by kernel_rfl) (by kernel_rfl) (by kernel_rfl) (by kernel_rfl) (by kernel_rfl) (by kernel_rfl) (by kernel_rfl)
def cInss : Cod.Of Try.prog 58 insR.list := Cod.Of.list cIns (by kernel_rfl) (by kernel_rfl) (by kernel_rfl)
def cTo : Cod.Of Try.prog 33 toR := Cod.Of.to cInt cInts (by kernel_rfl) (by kernel_rfl) (by kernel_rfl) (by kernel_rfl)
def cEnd : Cod.Of Try.prog 35 endR := Cod.Of.endp cInt cInts cTo (by kernel_rfl) (by kernel_rfl) (by kernel_rfl) (by kernel_rfl) (by kernel_rfl) (by kernel_rfl)
def cBlock : Cod.Of Try.prog 77 blockR := Cod.Of.block cInt cTys cInss cEnd (by kernel_rfl) (by kernel_rfl) (by kernel_rfl) (by kernel_rfl) (by kernel_rfl)
def cBlocks : Cod.Of Try.prog 29 blockR.list := Cod.Of.list cBlock (by kernel_rfl) (by kernel_rfl) (by kernel_rfl)
def cFunc : Cod.Of Try.prog 31 funcR := Cod.Of.func cInt cTys cBlocks (by kernel_rfl) (by kernel_rfl) (by kernel_rfl) (by kernel_rfl) (by kernel_rfl)
def cFuncs : Cod.Of Try.prog 22 funcR.list := Cod.Of.list cFunc (by kernel_rfl) (by kernel_rfl) (by kernel_rfl)
def cMod : Cod.Of Try.prog 24 modR := Cod.Of.mod cFuncs (by kernel_rfl) (by kernel_rfl)
end Go.Proofs.Ytanlkfeogoganaa
namespace Go.Lir
def QkN (b : UInt8) : List Value := [.int .u8 (b.toNat : Int)]
def u8R : Rep UInt8 := Rep.lit (fun b => .int .u8 (b.toNat : Int)) (fun _ => rfl)
theorem u8R_out {c : Cx} {cs : List Value} {b : UInt8} (h : u8R.at c cs b) : cs = [.int .u8 (b.toNat : Int)] := h
theorem u8R_ls {c : Cx} (l : List UInt8) : u8R.ls c (l.map QkN) l := ⟨by simp, fun m x hx => ⟨QkN x, by rw [List.getElem?_map, hx]; rfl, rfl⟩⟩
theorem Rep.LR.u8 {r : Rep UInt8} {H : Heap} {K : Nat → Prop} {css : List (List Value)} {l : List UInt8} (hr : r = u8R) (h : r.LR H K css l) : css = l.map QkN := by
  subst hr
  apply List.ext_getElem?
  intro m
  rw [List.getElem?_map]
  rcases Nat.lt_or_ge m l.length with hm | hm
  · obtain ⟨d, h4, h5⟩ := h.2 m _ (List.getElem?_eq_getElem hm)
    have h5 : d = [_] := h5
    rw [h4, List.getElem?_eq_getElem hm, h5]; rfl
  · rw [List.getElem?_eq_none (by rw [h.1]; exact hm), List.getElem?_eq_none hm]; rfl
section
variable {P : Program} {l : List GO} {Q : QT} {ρ : Env} {w : World} {c : Cx} {L : List Res} {v : Value}
theorem QmF (s : List UInt8) : (s.map QkN).flatten = s.map fun b => Value.int .u8 (b.toNat : Int) := by
  induction s with
  | nil => rfl
  | cons b s ih => simp [QkN, ih]
/-- []byte(s) -/
theorem s_bytes {d src dst e Ty : Nat} {x : Operand} {s : ByteArray} (hs : P.underlying src = some .string) (hd : P.underlying dst = some (.slice e)) (he : P.underlying e = some (.int .u8)) (hS : St c w L) (hx : ρ.ev x = .string s)
    (h : ∀ v' w', St c w' (sl e 1 v' (s.data.toList.map QkN) :: L) → Q3 P l Q (upd ρ d v') w') : Q3 P (⟨none, .raw ⟨some d, .convert src dst x, Ty, "", #[], none⟩⟩ :: l) Q ρ w := by
  have hr := run_bytes_of_string (P := P) w src dst e s hs hd he
  have hge := grownCap_ge w s.size 0 e
  generalize hcap : grownCap w s.size 0 e = cap at hr hge
  refine Q13 (v := .slice (some ⟨w.heap.size, 0, none⟩) s.size cap) (w' := w.drew.alloc (.cells (bytesRow s cap) e ((bytesRow s cap).size, (bytesRow s cap).size + 1))) ?_ ?_
  · simp only [execOp, hx, Sem.run_bind, hr, Result.andThen_ok, Sem.run_pure]
  · have hsz : s.data.size = s.size := rfl
    have hrow : (bytesRow s cap).size = cap := by simp [bytesRow]; omega
    refine h _ _ (hS.new (F' := (· = w.heap.size)) ?_ (((Fr.refl NF w).drew').then0 (Q4N w.drew _)) fun b hb => by omega)
    refine ⟨by intro q hq; obtain ⟨b, _, rfl⟩ := List.mem_map.1 hq; rfl, .inr ⟨w.heap.size, 0, cap, (bytesRow s cap).toList, ?_, ?_, ?_, ?_, ?_, fun _ => Iff.rfl⟩⟩
    · have : (List.map QkN s.data.toList).length = s.size := by rw [List.length_map, Array.length_toList]; rfl
      rw [this]
    · have : (List.map QkN s.data.toList).length = s.size := by rw [List.length_map, Array.length_toList]; rfl
      rw [this]; exact hge
    · refine ⟨((bytesRow s cap).size, (bytesRow s cap).size + 1), ?_, ?_⟩
      · show (w.heap.push _)[w.heap.size]? = _
        rw [Array.getElem?_push_size]
      · refine ⟨fun i h1 h2 => ?_, by simp⟩
        simp only [Array.length_toList] at *; omega
    · simp [hrow]
    · intro i hi
      rw [QmF]
      simp only [List.length_map, Array.length_toList, Nat.mul_one] at hi
      rw [Nat.zero_add, Array.getElem?_toList, bytesRow_at s cap i hi, List.getElem?_map, Array.getElem?_toList, Array.getElem?_eq_getElem hi]; rfl
/-- A part of an array that is a value. -/
theorem s_idxv {d T Ty e n : Nat} {x y : Operand} {k : IntKind} {m : Int} {cs : List Value} {u : Value} (hT : P.underlying T = some (.array n e)) (he : Q35 P e = true) (hsz : Q3m P e = some 1) (hx : ρ.ev x = .agg ⟨cs⟩) (hy : ρ.ev y = .int k m) (h0 : 0 ≤ m) (hm : m < n) (hu : cs[m.toNat]? = some u)
    (h : Q3 P l Q (upd ρ d u) w) : Q3 P (⟨none, .raw ⟨some d, .index T x y, Ty, "", #[], none⟩⟩ :: l) Q ρ w := by
  refine Q13 (v := u) (w' := w) ?_ h
  simp only [execOp, hx, hy, Instr.index, Sem.run_bind, asIntOf, Sem.run_pure, Result.andThen_ok, Q9 P T _ w hT]
  rw [if_pos ⟨h0, hm⟩]
  simp only [Sem.run_bind, Q12 P e 1 w hsz, Result.andThen_ok, Nat.mul_one, Qj3 P e ⟨cs⟩ _ _ w he (by simpa using hu)]
end
end Go.Lir
namespace Go.Lir

/-! ### A call that returns, or panics with one value -/

def Fins (P : Program) (f : FuncId) (args : List Value) (w : World) (S T : Value → World → Prop) : Prop :=
  Calls P f ⟨args⟩ w fun e w' => (∃ v, e = .returned v ∧ S v w') ∨ (∃ v, e = .panicked [{ v := v, recovered := false }] ∧ T v w')

theorem Fins.mono {P : Program} {f : FuncId} {args : List Value} {w : World} {S S' T T' : Value → World → Prop} (h : Fins P f args w S T) (hs : ∀ v w', S v w' → S' v w') (ht : ∀ v w', T v w' → T' v w') : Fins P f args w S' T' :=
  Calls.mono h fun _ _ h => h.elim (fun ⟨v, he, hv⟩ => .inl ⟨v, he, hs _ _ hv⟩) (fun ⟨v, he, hv⟩ => .inr ⟨v, he, ht _ _ hv⟩)
theorem Rets.ends {P : Program} {f : FuncId} {args : List Value} {w : World} {S T : Value → World → Prop} (h : Rets P f args w S) : Fins P f args w S T :=
  Calls.mono h fun _ _ h => .inl h
section
variable {P : Program} {l : List GO} {Q : QT} {ρ : Env} {w : World}
theorem QpT {d : Nat} {f : FuncId} {xs : List Operand} {args : List Value} {S T : Value → World → Prop} (hxs : xs.map ρ.ev = args) (hc : Fins P f args w S T)
    (hp : ∀ v w', T v w' → Q (.panic [{ v := v, recovered := false }]) ρ w') (h : ∀ v w', S v w' → Q3 P l Q (upd ρ d v) w') : Q3 P (⟨none, .call (some d) f xs⟩ :: l) Q ρ w := by
  subst hxs
  refine Calls.mono hc fun e w' h' => ?_
  rcases h' with ⟨v, he, hs⟩ | ⟨v, he, hs⟩
  · subst he; exact h v w' hs
  · subst he; exact hp v w' hs
theorem s_endsv {d : Nat} {x : Operand} {os : List Operand} {f : FuncId} {args cap : List Value} {S T : Value → World → Prop} (hx : ρ.ev x = .func (.func f) #[] ⟨cap⟩) (hf : Q4j P f = true) (hxs : os.map ρ.ev ++ cap = args) (hc : Fins P f args w S T)
    (hp : ∀ v w', T v w' → Q (.panic [{ v := v, recovered := false }]) ρ w') (h : ∀ v w', S v w' → Q3 P l Q (upd ρ d v) w') : Q3 P (⟨none, .callv (some d) x os⟩ :: l) Q ρ w := by
  unfold Q4j at hf
  rw [Option.any_eq_true] at hf
  obtain ⟨fn, h1, h2⟩ := hf
  rw [Bool.and_eq_true, Bool.not_eq_true'] at h2
  refine QpU hx h1 h2.1 h2.2 hxs hc ?_
  intro e w' h'
  rcases h' with ⟨v, rfl, hs⟩ | ⟨v, rfl, hs⟩
  · exact h v w' hs
  · exact hp v w' hs
theorem Qq {K : KT} {ch : List PanicEntry} (h : Q (.panic ch) ρ w) : QZ K Q (.panic ch) ρ w := h
theorem Qs {id : Nat} {ch : List PanicEntry} (h : Q (.panic ch) ρ w) : Q1g id Q (.panic ch) ρ w := h
theorem QO {rs : List ResultVar} {R : Ending → World → Prop} {ch : List PanicEntry} (h : R (.panicked ch) w) : retQ P rs R (.panic ch) ρ w := h
theorem s_panic {d : Option Nat} {x : Operand} {Ty T : TypeId} {v : Value} (hx : ρ.ev x = .iface T v) (h : Q (.panic [{ v := .iface T v, recovered := false }]) ρ w) : Q3 P (⟨none, .raw ⟨d, .panic x, Ty, "", #[], none⟩⟩ :: l) Q ρ w := by
  refine (?_ : Q5h P _ ρ w _ Q)
  unfold Q5h
  have e : (execOp ρ.ev ⟨d, .panic x, Ty, "", #[], none⟩).run P w = .halt (.panic (.iface T v)) w := by
    simp [execOp, Instr.panic, hx, goPanic, Sem.run]
  rw [e]; exact h
theorem s_assert {d : Nat} {x : Operand} {Ty T xT : TypeId} {v : Value} {D : TypeDesc} (hd : P.underlying T = some D) (hi : ∀ m, D ≠ .interface m) (hx : ρ.ev x = .iface T v)
    (h : Q3 P l Q (upd ρ d (.tuple #[v, .bool true])) w) : Q3 P (⟨none, .raw ⟨some d, .typeAssert x xT T true, Ty, "", #[], none⟩⟩ :: l) Q ρ w := by
  refine Q13 (v := .tuple #[v, .bool true]) (w' := w) ?_ h
  simp only [execOp, Instr.typeAssert, hx, Sem.run_bind, Q9 P T D w hd, Result.andThen_ok]
  cases D <;> first | (exact absurd rfl (hi _)) | simp
end

/-! ### Deferred calls: lowered code in which one is put off -/

inductive LSp where
  | dfr (d : Option Nat) (x : Operand)
  | rcv (d : Option Nat)

inductive LD where
  | pl (c : LC)
  | seq (a b : LD)
  | sp (l1 : List GO) (o : LSp) (l2 : List GO)

def spOf (o : Oper) : Option LSp := match o.guard, o.op with
  | none, .defer ⟨.value x, xs, _⟩ => if xs.size = 0 then some (.dfr o.dst x) else none
  | none, .call ⟨.builtin .recover, xs, _⟩ => if xs.size = 0 then some (.rcv o.dst) else none
  | _, _ => none
def hasSp : Code → Bool
  | .seq a b => hasSp a || hasSp b
  | .region _ ops _ => ops.toList.any fun o => (spOf o).isSome
  | _ => false
def Qew : List Oper → Option (List Oper × Oper × LSp × List Oper)
  | [] => none
  | o :: r => match spOf o with
    | some s => some ([], o, s, r)
    | none => (Qew r).map fun p => (o :: p.1, p.2)
def lowD (P : Program) (n : Nat) : Code → LD
  | .seq a b => if hasSp a || hasSp b then .seq (lowD P n a) (lowD P n b) else .pl (Q38 P n (.seq a b))
  | .region id ops false => match Qew ops.toList with
    | some (l1, o, s, l2) => if ops.toList.all (okG n ops) then .sp (l1.map (Q2P P ops)) s (l2.map (Q2P P ops)) else .pl .bad
    | none => .pl (Q38 P n (.region id ops false))
  | c => .pl (Q38 P n c)
def Qpe (P : Program) (fn : Func) : Option LD := fn.body.map (lowD P fn.ntmps)

def LD.wpD (P : Program) : LD → (List Deferred → QT) → List Deferred → Env → World → Prop
  | .pl c, Q, ds, ρ, w => c.wp P (Q ds) ρ w
  | .seq a b, Q, ds, ρ, w => a.wpD P (fun ds' => QZ (b.wpD P Q ds') (Q ds')) ds ρ w
  | .sp l1 (.dfr d x) l2, Q, ds, ρ, w => Q3 P l1 (QZ (fun ρ w => ∃ f cap, ρ.ev x = .func (.func f) #[] cap ∧ Q3 P l2 (Q (⟨.fn (.func f) cap, #[]⟩ :: ds)) (updo ρ d undef) w) (Q ds)) ρ w
  | _, _, _, _, _ => False

theorem Q5d : ∀ {ops l1 l2 : List Oper} {o : Oper} {s : LSp}, Qew ops = some (l1, o, s, l2) → ops = l1 ++ o :: l2 ∧ spOf o = some s
  | [], _, _, _, _, h => by simp [Qew] at h
  | o' :: r, l1, l2, o, s, h => by
    rw [Qew] at h
    cases hs : spOf o' with
    | some s' =>
      simp only [hs, Option.some.injEq, Prod.mk.injEq] at h
      obtain ⟨rfl, rfl, rfl, rfl⟩ := h
      exact ⟨rfl, hs⟩
    | none =>
      simp only [hs, Option.map_eq_some_iff] at h
      obtain ⟨⟨a, b, c, d⟩, h1, h2⟩ := h
      simp only [Prod.mk.injEq] at h2
      obtain ⟨rfl, rfl, rfl, rfl⟩ := h2
      obtain ⟨h3, h4⟩ := Q5d h1
      exact ⟨by rw [h3]; rfl, h4⟩

theorem Qai {P : Program} {o : Oper} {a : Act} {K K' : Act → World → Prop} {Q Q' : Exit → Act → World → Prop} (hk : ∀ a w, K a w → K' a w) (hp : ∀ ch a w, Q (.panic ch) a w → Q' (.panic ch) a w) (ho : LetsOut Q → LetsOut Q') (r : Result Next) (h : o.upon P a K Q r) : o.upon P a K' Q' r := by
  cases r with
  | ok n w =>
    cases n <;> first | exact hk _ _ h | exact h | skip
    · refine Calls.mono h fun e w h => ?_
      cases e <;> first | exact hk _ _ h | exact hp _ _ _ h | exact ho h
    · exact Rows.mono h fun v w h => hk _ _ h
  | halt x w => cases x <;> first | exact hp _ _ _ h | exact h

theorem Q3G {P : Program} {ops : Array Oper} {Q : Exit → Act → World → Prop} {l2 : List Nat} : ∀ (l1 : List Nat) (a : Act) (w : World),
    wpOps P ops (Exit.then (wpOps P ops Q l2) Q) l1 a w → wpOps P ops Q (l1 ++ l2) a w
  | [], a, w, h => h
  | i :: l1, a, w, h => by
    simp only [List.cons_append, wpOps] at h ⊢
    cases ho : ops[i]? with
    | none => simp only [ho] at h ⊢; exact Q3G l1 a w h
    | some o =>
      simp only [ho] at h ⊢
      split
      · rename_i hw
        rw [if_pos hw] at h
        rcases h with h | ⟨h1, h2⟩
        · exact .inl (Qai (fun a w h => Q3G l1 a w h) (fun ch a w h => h) (fun h => h) _ h)
        · exact .inr ⟨h1, h2⟩
      · rename_i hw
        rw [if_neg hw] at h
        exact Q3G l1 _ w h
theorem Q3j {P : Program} {ops : Array Oper} {Q Q' : Exit → Act → World → Prop} (hq : ∀ e a w, Q e a w → Q' e a w) : ∀ (l : List Nat) (a : Act) (w : World), wpOps P ops Q l a w → wpOps P ops Q' l a w
  | [], a, w, h => hq _ _ _ h
  | i :: l, a, w, h => by
    simp only [wpOps] at h ⊢
    have ho' : LetsOut Q → LetsOut Q' := fun ⟨a, w, h⟩ => ⟨a, w, hq _ _ _ h⟩
    cases ho : ops[i]? with
    | none => simp only [ho] at h ⊢; exact Q3j hq l a w h
    | some o =>
      simp only [ho] at h ⊢
      split
      · rename_i hw
        rw [if_pos hw] at h
        rcases h with h | ⟨h1, h2⟩
        · exact .inl (Qai (fun a w h => Q3j hq l a w h) (fun ch a w h => hq _ _ _ h) ho' _ h)
        · exact .inr ⟨h1, ho' h2⟩
      · rename_i hw
        rw [if_neg hw] at h
        exact Q3j hq l _ w h

def liftD (n : Nat) (Q : List Deferred → QT) : Exit → Act → World → Prop := fun e a w => ∃ ds, Ql2 n ds (Q ds) e a w

theorem QkX {α : Type} {ops l1 l2 : List α} {o : α} (h : ops = l1 ++ o :: l2) : List.range ops.length = List.range l1.length ++ l1.length :: (List.range l2.length).map (l1.length + 1 + ·) := by
  subst h
  apply List.ext_getElem
  · simp
  · intro i h1 h2
    rw [List.getElem_range]
    rcases Nat.lt_trichotomy i l1.length with h | h | h
    · rw [List.getElem_append_left (by simpa using h), List.getElem_range]
    · subst h; rw [List.getElem_append_right (by simp)]; simp
    · rw [List.getElem_append_right (by simpa using Nat.le_of_lt h)]
      simp only [List.length_range]
      rw [List.getElem_cons]
      rw [dif_neg (by omega), List.getElem_map, List.getElem_range]; omega
theorem QpB {α β : Type} {ops l1 l2 : List α} {o : α} (g : α → β) (h : ops = l1 ++ o :: l2) : ((List.range l2.length).map (l1.length + 1 + ·)).filterMap (fun i => (ops[i]?).map g) = l2.map g := by
  subst h
  rw [List.filterMap_map]
  have : ∀ i, ((fun i => ((l1 ++ o :: l2)[i]?).map g) ∘ (l1.length + 1 + ·)) i = (l2[i]?).map g := by
    intro i
    simp only [Function.comp]
    rw [List.getElem?_append_right (by omega)]
    rw [show l1.length + 1 + i - l1.length = i + 1 by omega, List.getElem?_cons_succ]
  rw [Q2x (fun i _ => this i)]
  have := Q3n g l2 []
  simpa [List.range_eq_range'] using this
theorem Qoi {α β : Type} {ops l1 l2 : List α} {o : α} (g : α → β) (h : ops = l1 ++ o :: l2) : (List.range l1.length).filterMap (fun i => (ops[i]?).map g) = l1.map g := by
  subst h
  have : ∀ i ∈ List.range l1.length, ((l1 ++ o :: l2)[i]?).map g = (l1[i]?).map g := by
    intro i hi
    rw [List.getElem?_append_left (by simpa using hi)]
  rw [Q2x this]
  have := Q3n g l1 []
  simpa [List.range_eq_range'] using this

theorem Qpf {P : Program} {n : Nat} : ∀ (c : Code) (Q : List Deferred → QT) (ds : List Deferred) (ρ : Env) (a : Act) (w : World), Rel n ρ ds a → (lowD P n c).wpD P Q ds ρ w → c.wp P (liftD n Q) a w := by
  have hpl : ∀ (c : Code) (Q : List Deferred → QT) (ds : List Deferred) (ρ : Env) (a : Act) (w : World), Rel n ρ ds a → (Q38 P n c).wp P (Q ds) ρ w → c.wp P (liftD n Q) a w := fun c Q ds ρ a w hr h =>
    wp_mono (Q5r c _ ρ a w hr h) fun e a w h => ⟨ds, h⟩
  intro c
  induction c with
  | seq x y ihx ihy =>
    intro Q ds ρ a w hr h
    rw [lowD] at h
    split at h
    · refine wp_seq ?_
      refine wp_mono (ihx _ ds ρ a w hr h) ?_
      rintro e a w ⟨ds', ρ', hr', h'⟩
      cases e with
      | normal => exact ihy _ ds' ρ' a w hr' h'
      | _ => exact ⟨ds', ρ', hr', h'⟩
    · exact hpl _ Q ds ρ a w hr h
  | region id ops draw =>
    intro Q ds ρ a w hr h
    cases draw with
    | true => exact hpl _ Q ds ρ a w hr h
    | false =>
      rw [lowD] at h
      split at h
      · rename_i l1 o s l2 hs
        obtain ⟨hops, hsp⟩ := Q5d hs
        split at h
        · rename_i hall
          have hok : ∀ i o, ops[i]? = some o → okG n ops o = true := fun i o hi => List.all_eq_true.1 hall o (by rw [← Array.getElem?_toList] at hi; exact List.mem_of_getElem? hi)
          have hsz : ops.size = ops.toList.length := by simp
          have hgm : ∀ (l : List Nat), (l.filterMap fun i => (ops[i]?).map (Q2P P ops)) = l.filterMap fun i => (ops.toList[i]?).map (Q2P P ops) := fun l => by simp
          have hlen : ops.toList.length = l1.length + 1 + l2.length := by rw [hops]; simp; omega
          have hrange : ∀ (l : List Nat), (∀ i ∈ l, i < ops.size) → ∀ i ∈ l, ∃ o, ops[i]? = some o ∧ okG n ops o = true := fun l hl i hi => ⟨ops[i]'(hl i hi), by simp [hl i hi], hok i _ (by simp [hl i hi])⟩
          refine wp_region ?_
          rw [hsz, QkX hops]
          refine Q3G _ _ _ ?_
          cases s with
          | rcv d => exact h.elim
          | dfr d x =>
            have h1 := Q5O (Q := QZ (fun ρ w => ∃ f cap, ρ.ev x = .func (.func f) #[] cap ∧ Q3 P (l2.map (Q2P P ops)) (Q (⟨.fn (.func f) cap, #[]⟩ :: ds)) (updo ρ d undef) w) (Q ds)) (ds := ds) (List.range l1.length) ρ a w hr
              (hrange _ fun i hi => by rw [hsz, hlen]; have := List.mem_range.1 hi; omega) (by rw [hgm, Qoi _ hops]; exact h)
            refine Q3j ?_ _ _ _ h1
            rintro e a w ⟨ρ', hr', h'⟩
            cases e with
            | normal =>
              obtain ⟨f, cap, hf, h'⟩ := h'
              have hoi : ops[l1.length]? = some o := by rw [← Array.getElem?_toList, hops]; simp
              refine (?_ : wpOps P ops _ (l1.length :: _) a w)
              simp only [wpOps, hoi]
              have hg : o.guard = none ∧ ∃ ts, ∃ xs : Array Operand, o.op = .defer ⟨.value x, xs, ts⟩ ∧ xs.size = 0 ∧ o.dst = d := by
                unfold spOf at hsp
                split at hsp
                · rename_i x' xs' ts' hg ho
                  split at hsp
                  · rename_i hx0
                    simp only [Option.some.injEq, LSp.dfr.injEq] at hsp
                    obtain ⟨g1, g2⟩ := hsp
                    subst g2
                    exact ⟨hg, ts', xs', ho, hx0, g1⟩
                  · cases hsp
                · split at hsp <;> cases hsp
                · cases hsp
              obtain ⟨hgd, ts, xs, hop, hxs, hd⟩ := hg
              have hxs' : xs = #[] := Array.eq_empty_of_size_eq_zero hxs
              subst hxs'
              rw [if_pos (by simp [Region.wanted, hgd])]
              refine .inl ?_
              unfold Oper.wp
              have e1 : (execOp a.eval o).run P w = .ok (.defer ⟨.fn (.func f) cap, #[]⟩) w := by
                simp [execOp, hop, resolve, hr'.ev, hf, Deferred.ofValue]
              rw [e1, Oper.upon_defer, hd]
              have hdn := Qan (hok _ o hoi)
              rw [hd] at hdn
              have hr2 : Rel n (updo ρ' d undef) (⟨.fn (.func f) cap, #[]⟩ :: ds) ({ a with defers := ⟨.fn (.func f) cap, #[]⟩ :: a.defers }.put d undef) := by
                have hr3 : Rel n ρ' (⟨.fn (.func f) cap, #[]⟩ :: ds) { a with defers := ⟨.fn (.func f) cap, #[]⟩ :: a.defers } := ⟨hr'.1, hr'.2.1, by simp [hr'.2.2]⟩
                exact hr3.put d undef hdn
              have h2 := Q5O (Q := Q (⟨.fn (.func f) cap, #[]⟩ :: ds)) (ds := ⟨.fn (.func f) cap, #[]⟩ :: ds) _ _ _ w hr2
                (hrange ((List.range l2.length).map (l1.length + 1 + ·)) fun i hi => by rw [hsz, hlen]; rw [List.mem_map] at hi; obtain ⟨j, hj, rfl⟩ := hi; have := List.mem_range.1 hj; omega) (by rw [hgm, QpB _ hops]; exact h')
              exact Q3j (fun e a w h => ⟨_, h⟩) _ _ _ h2
            | _ => exact ⟨ds, ρ', hr', h'⟩
        · exact h.elim
      · exact hpl _ Q ds ρ a w hr h
  | _ => exact hpl _

/-- What becomes of a function's end, its deferred calls still to come. -/
def Q3Z (P : Program) (rs : List ResultVar) (ρ : Env) (R : Ending → World → Prop) : List Deferred → FrameMode → World → Prop
  | [], .returning, w => Q2p P w ρ rs [] fun v => R (.returned v) w
  | [], .panicking chain, w => R (.panicked chain) w
  | [], .run, _ => False
  | d :: ds, u, w => u ≠ .run ∧ ∃ f cap, d = ⟨.fn (.func f) cap, #[]⟩ ∧ Q4j P f = true ∧ CallsD P f cap u w fun
      | .returned _, u', w' => Q3Z P rs ρ R ds (settle u') w'
      | .panicked chain, u', w' => Q3Z P rs ρ R ds (raised u' chain) w'
      | .outgrown, _, w' => R .outgrown w'
def retD (P : Program) (rs : List ResultVar) (R : Ending → World → Prop) (ds : List Deferred) : QT
  | .normal, ρ, w | .ret, ρ, w => Q3Z P rs ρ R ds .returning w
  | .panic chain, ρ, w => Q3Z P rs ρ R ds (.panicking chain) w
  | .outgrown, _, w => R .outgrown w
  | _, _, _ => False

theorem Q3q {P : Program} {fn : Func} {tmps : Array Value} {ρ : Env} {R : Ending → World → Prop} (ht : ∀ i, tmps.getD i undef = ρ i) : ∀ (ds : List Deferred) (u : FrameMode) (w : World),
    Q3Z P fn.results.toList ρ R ds u w → Leaves P fn tmps R ds u w
  | [], .returning, w, h => by obtain ⟨v, h1, h2⟩ := Q2M ht h; exact ⟨v, h1, h2⟩
  | [], .panicking _, w, h => h
  | [], .run, w, h => h.elim
  | d :: ds, u, w, h => by
    obtain ⟨hu, f, cap, rfl, hf, hc⟩ := h
    unfold Q4j at hf
    rw [Option.any_eq_true] at hf
    obtain ⟨fn', h1, h2⟩ := hf
    rw [Bool.and_eq_true, Bool.not_eq_true'] at h2
    refine leaves_cons hu (f := f) (args := cap) ?_ ?_
    · simp only [invoke]
      rw [Qcg _ h1 h2.1 h2.2]; simp
    · refine hc.mono ?_
      intro e u' w' h
      cases e with
      | returned v => exact Q3q ht ds _ _ h
      | panicked ch => exact Q3q ht ds _ _ h
      | outgrown => exact h

theorem QjL {P : Program} {f : FuncId} {fn : Func} {args : List Value} {w : World} {R : Ending → World → Prop} {ld : LD} {rs : List ResultVar}
    (hf : P.funcs[f]? = some fn) (hl : Qpe P fn = some ld) (hrs : fn.results.toList = rs) (hn : Nat.ble args.length fn.ntmps = true)
    (h : ld.wpD P (retD P rs R) [] (Qh args) w) : Calls P f ⟨args⟩ w R := by
  unfold Qpe at hl
  cases hb : fn.body with
  | none => simp [hb] at hl
  | some c =>
    simp only [hb, Option.map_some, Option.some.injEq] at hl
    subst hl hrs
    refine calls_of_wp_defers hf hb ?_
    have hn' : args.length ≤ fn.ntmps := Nat.le_of_ble_eq_true hn
    refine wp_mono (Qpf c _ [] _ _ _ (QbO ⟨args⟩ fn.ntmps hn' []) h) ?_
    rintro e a w ⟨ds, ρ, hr, h⟩
    have hd := hr.2.2
    cases e with
    | normal => exact (hd ▸ Q3q hr.2.1 ds _ _ h : Leaves P fn a.tmps R a.defers .returning w)
    | ret => exact (hd ▸ Q3q hr.2.1 ds _ _ h : Leaves P fn a.tmps R a.defers .returning w)
    | panic ch => exact (hd ▸ Q3q hr.2.1 ds _ _ h : Leaves P fn a.tmps R a.defers (.panicking ch) w)
    | outgrown => exact h
    | exit => exact h
    | goto => exact h

/-! ### The deferred function: lowered code that recovers -/

def recM : FrameMode → Value × FrameMode
  | .panicking ({ v := v, recovered := false, goexit := false } :: older) => (v, .panicking ({ v := v, recovered := true } :: older))
  | u => (.nilIface, u)

def LD.wpR (P : Program) : LD → (FrameMode → QT) → FrameMode → Env → World → Prop
  | .pl c, Q, u, ρ, w => c.wp P (Q u) ρ w
  | .seq a b, Q, u, ρ, w => a.wpR P (fun u' => QZ (b.wpR P Q u') (Q u')) u ρ w
  | .sp l1 (.rcv d) l2, Q, u, ρ, w => Q3 P l1 (QZ (fun ρ w => Q3 P l2 (Q (recM u).2) (updo ρ d (recM u).1) w) (Q u)) ρ w
  | _, _, _, _, _ => False

def liftR (n : Nat) (c₀ : Frame) (cs : List Frame) (Q : FrameMode → QT) : Exit → Act → List Frame → World → Prop :=
  fun e a cs' w => ∃ u, cs' = { c₀ with mode := u } :: cs ∧ Ql2 n [] (Q u) e a w

theorem QmP (c₀ : Frame) (cs : List Frame) (u : FrameMode) : (match recoverD ({ c₀ with mode := u } :: cs) with
    | some (v, cs') => (v, cs')
    | none => (.nilIface, { c₀ with mode := u } :: cs)) = ((recM u).1, { c₀ with mode := (recM u).2 } :: cs) := by
  unfold recoverD recM
  dsimp only
  split <;> rename_i h
  · split at h
    · rename_i hm
      simp only [Option.some.injEq, Prod.mk.injEq] at h
      obtain ⟨rfl, rfl⟩ := h
      rfl
    · cases h
  · split at h
    · cases h
    · rename_i hm
      split
      · rename_i hm'
        exact absurd rfl (hm _ _)
      · rfl

theorem QeI {P : Program} {n : Nat} {ops : Array Oper} {Q : QT} {QS : Exit → Act → List Frame → World → Prop} {cs : List Frame} {rest : List Nat} (hn : ∀ a w, Ql2 n [] Q .normal a w → wpOpsS P ops QS rest a cs w) (hq : ∀ e a w, e ≠ .normal → Ql2 n [] Q e a w → QS e a cs w) : ∀ (l : List Nat) (ρ : Env) (a : Act) (w : World), Rel n ρ [] a →
    (∀ i ∈ l, ∃ o, ops[i]? = some o ∧ okG n ops o = true) →
    Q3 P (l.filterMap fun i => (ops[i]?).map (Q2P P ops)) Q ρ w → wpOpsS P ops QS (l ++ rest) a cs w := by
  intro l
  induction l with
  | nil => intro ρ a w hr _ h; exact hn a w ⟨ρ, hr, h⟩
  | cons i l ih =>
    intro ρ a w hr hok h
    obtain ⟨o, ho, hg⟩ := hok i (by simp)
    have hok' : ∀ i ∈ l, ∃ o, ops[i]? = some o ∧ okG n ops o = true := fun i hi => hok i (by simp [hi])
    simp only [List.filterMap_cons, ho, Option.map_some] at h
    have h' := Qce hr hg _ Q w h
    simp only [List.cons_append, wpOpsS, ho]
    split
    · rename_i hw
      rw [if_pos hw] at h'
      have h1 := QkW (ds := []) hr (Qan hg) (QeH h')
      have h2 := Qai (Q' := fun e a' w' => QS e a' cs w') (K' := fun a' w' => wpOpsS P ops QS (l ++ rest) a' cs w') (fun a w ⟨ρ, hr, h⟩ => ih ρ a w hr hok' h) (fun ch a w h => hq _ a w (by simp) h) (fun ⟨a, w, h⟩ => ⟨a, w, hq _ a w (by simp) h⟩) _ h1
      split
      · rename_i w' hrun
        rw [hrun] at h2
        exact h2.elim
      · rename_i r hrun
        exact h2
    · rename_i hw
      rw [if_neg hw] at h'
      exact ih _ _ w (hr.put _ _ (Qan hg)) hok' h'

theorem Qpd {P : Program} {n : Nat} {c₀ : Frame} {cs : List Frame} : ∀ (c : Code) (Q : FrameMode → QT) (u : FrameMode) (ρ : Env) (a : Act) (w : World), Rel n ρ [] a → (lowD P n c).wpR P Q u ρ w → c.wpS P (liftR n c₀ cs Q) a ({ c₀ with mode := u } :: cs) w := by
  have hpl : ∀ (c : Code) (Q : FrameMode → QT) (u : FrameMode) (ρ : Env) (a : Act) (w : World), Rel n ρ [] a → (Q38 P n c).wp P (Q u) ρ w → c.wpS P (liftR n c₀ cs Q) a ({ c₀ with mode := u } :: cs) w := fun c Q u ρ a w hr h =>
    wpS_of_wp (wp_mono (Q5r c _ ρ a w hr h) fun e a w h => ⟨u, rfl, h⟩)
  intro c
  induction c with
  | seq x y ihx ihy =>
    intro Q u ρ a w hr h
    rw [lowD] at h
    split at h
    · refine wpS_seq ?_
      intro b k hb hro
      obtain ⟨e, a', cs', w', ⟨u', rfl, ρ', hr', h'⟩, harr⟩ := ihx _ u ρ a w hr h b k hb hro
      refine ⟨e, a', _, w', ?_, harr⟩
      cases e with
      | normal => exact ihy _ u' ρ' a' w' hr' h'
      | _ => exact ⟨u', rfl, ρ', hr', h'⟩
    · exact hpl _ Q u ρ a w hr h
  | region id ops draw =>
    intro Q u ρ a w hr h
    cases draw with
    | true => exact hpl _ Q u ρ a w hr h
    | false =>
      rw [lowD] at h
      split at h
      · rename_i l1 o s l2 hs
        obtain ⟨hops, hsp⟩ := Q5d hs
        split at h
        · rename_i hall
          have hok : ∀ i o, ops[i]? = some o → okG n ops o = true := fun i o hi => List.all_eq_true.1 hall o (by rw [← Array.getElem?_toList] at hi; exact List.mem_of_getElem? hi)
          have hsz : ops.size = ops.toList.length := by simp
          have hgm : ∀ (l : List Nat), (l.filterMap fun i => (ops[i]?).map (Q2P P ops)) = l.filterMap fun i => (ops.toList[i]?).map (Q2P P ops) := fun l => by simp
          have hlen : ops.toList.length = l1.length + 1 + l2.length := by rw [hops]; simp; omega
          have hrange : ∀ (l : List Nat), (∀ i ∈ l, i < ops.size) → ∀ i ∈ l, ∃ o, ops[i]? = some o ∧ okG n ops o = true := fun l hl i hi => ⟨ops[i]'(hl i hi), by simp [hl i hi], hok i _ (by simp [hl i hi])⟩
          refine wpS_region ?_
          rw [hsz, QkX hops]
          cases s with
          | dfr d x => exact h.elim
          | rcv d =>
            refine QeI (Q := QZ (fun ρ w => Q3 P (l2.map (Q2P P ops)) (Q (recM u).2) (updo ρ d (recM u).1) w) (Q u)) ?_ ?_ (List.range l1.length) ρ a w hr
              (hrange _ fun i hi => by rw [hsz, hlen]; have := List.mem_range.1 hi; omega) (by rw [hgm, Qoi _ hops]; exact h)
            · rintro a w ⟨ρ', hr', h'⟩
              have hoi : ops[l1.length]? = some o := by rw [← Array.getElem?_toList, hops]; simp
              have hg : o.guard = none ∧ ∃ ts, ∃ xs : Array Operand, o.op = .call ⟨.builtin .recover, xs, ts⟩ ∧ xs.size = 0 ∧ o.dst = d := by
                unfold spOf at hsp
                split at hsp
                · split at hsp <;> cases hsp
                · rename_i xs' ts' hg ho
                  split at hsp
                  · rename_i hx0
                    simp only [Option.some.injEq, LSp.rcv.injEq] at hsp
                    exact ⟨hg, ts', xs', ho, hx0, hsp⟩
                  · cases hsp
                · cases hsp
              obtain ⟨hgd, ts, xs, hop, hxs, hd⟩ := hg
              have hxs' : xs = #[] := Array.eq_empty_of_size_eq_zero hxs
              subst hxs'
              refine (?_ : wpOpsS P ops _ (l1.length :: _) a _ w)
              simp only [wpOpsS, hoi]
              rw [if_pos (by simp [Region.wanted, hgd])]
              have e1 : (execOp a.eval o).run P w = .ok .recover w := by
                simp [execOp, hop, resolve, invoke, builtin]
              rw [e1]
              have hdn := Qan (hok _ o hoi)
              rw [hd] at hdn
              have hr2 : Rel n (updo ρ' d (recM u).1) [] (a.put d (recM u).1) := hr'.put d _ hdn
              have hrec := QmP c₀ cs u
              have key : wpOpsS P ops (liftR n c₀ cs Q) ((List.range l2.length).map (l1.length + 1 + ·)) (a.put o.dst (recM u).1) ({ c₀ with mode := (recM u).2 } :: cs) w := by
                rw [hd]
                have h2 := QeI (Q := Q (recM u).2) (QS := liftR n c₀ cs Q) (cs := { c₀ with mode := (recM u).2 } :: cs) (rest := []) (fun a w h => ⟨_, rfl, h⟩) (fun e a w _ h => ⟨_, rfl, h⟩) ((List.range l2.length).map (l1.length + 1 + ·)) _ _ w hr2
                  (hrange _ fun i hi => by rw [hsz, hlen]; rw [List.mem_map] at hi; obtain ⟨j, hj, rfl⟩ := hi; have := List.mem_range.1 hj; omega) (by rw [hgm, QpB _ hops]; exact h')
                rwa [List.append_nil] at h2
              dsimp only
              split
              · rename_i v cs' hrd
                rw [hrd] at hrec
                simp only [Prod.mk.injEq] at hrec
                rw [hrec.1, hrec.2]; exact key
              · rename_i hrd
                rw [hrd] at hrec
                simp only [Prod.mk.injEq] at hrec
                have e3 : ({ c₀ with mode := u } :: cs : List Frame) = { c₀ with mode := (recM u).2 } :: cs := hrec.2
                rw [hrec.1, e3]; exact key
            · rintro e a w he ⟨ρ', hr', h'⟩
              refine ⟨u, rfl, ρ', hr', ?_⟩
              cases e <;> first | exact h' | exact absurd rfl he
        · exact h.elim
      · exact hpl _ Q u ρ a w hr h
  | _ => exact hpl _

def retR (P : Program) (rs : List ResultVar) (R : Ending → FrameMode → World → Prop) (u : FrameMode) : QT
  | .normal, ρ, w | .ret, ρ, w => Q2p P w ρ rs [] fun v => R (.returned v) u w
  | .panic chain, _, w => R (.panicked chain) u w
  | .outgrown, _, w => R .outgrown u w
  | _, _, _ => False

theorem Qh9 {P : Program} {f : FuncId} {fn : Func} {args : List Value} {u : FrameMode} {w : World} {R : Ending → FrameMode → World → Prop} {ld : LD} {rs : List ResultVar}
    (hf : P.funcs[f]? = some fn) (hl : Qpe P fn = some ld) (hrs : fn.results.toList = rs) (hn : Nat.ble args.length fn.ntmps = true)
    (h : ld.wpR P (retR P rs R) u (Qh args) w) : CallsD P f ⟨args⟩ u w R := by
  unfold Qpe at hl
  cases hb : fn.body with
  | none => simp [hb] at hl
  | some c =>
    simp only [hb, Option.map_some, Option.some.injEq] at hl
    subst hl hrs
    refine callsD_of_wpS hf hb ?_
    intro c₀ cs hu
    have hn' : args.length ≤ fn.ntmps := Nat.le_of_ble_eq_true hn
    have h1 := Qpd (c₀ := c₀) (cs := cs) c _ u _ _ w (QbO ⟨args⟩ fn.ntmps hn' []) h
    have hc : ({ c₀ with mode := u } : Frame) = c₀ := by subst hu; rfl
    rw [hc] at h1
    intro b k hb hro
    obtain ⟨e, a, cs', w', ⟨u', rfl, ρ, hr, h2⟩, harr⟩ := h1 b k hb hro
    refine ⟨e, a, _, w', ?_, harr⟩
    cases e with
    | normal => obtain ⟨v, h3, h4⟩ := Q2M hr.2.1 h2; exact ⟨hr.2.2, u', rfl, v, h3, h4⟩
    | ret => obtain ⟨v, h3, h4⟩ := Q2M hr.2.1 h2; exact ⟨hr.2.2, u', rfl, v, h3, h4⟩
    | panic ch => exact ⟨hr.2.2, u', rfl, h2⟩
    | outgrown => exact ⟨u', h2⟩
    | exit => exact h2
    | goto => exact h2

/-! ### Steps -/
section
variable {P : Program} {ρ : Env} {w : World} {u : FrameMode} {ds : List Deferred}
theorem d_pl {c : LC} {Q : List Deferred → QT} (h : c.wp P (Q ds) ρ w) : (LD.pl c).wpD P Q ds ρ w := h
theorem d_seq {a b : LD} {Q : List Deferred → QT} (h : a.wpD P (fun ds' => QZ (b.wpD P Q ds') (Q ds')) ds ρ w) : (LD.seq a b).wpD P Q ds ρ w := h
theorem d_sp {l1 l2 : List GO} {d : Option Nat} {x : Operand} {Q : List Deferred → QT} (h : Q3 P l1 (QZ (fun ρ w => ∃ f cap, ρ.ev x = .func (.func f) #[] cap ∧ Q3 P l2 (Q (⟨.fn (.func f) cap, #[]⟩ :: ds)) (updo ρ d undef) w) (Q ds)) ρ w) : (LD.sp l1 (.dfr d x) l2).wpD P Q ds ρ w := h
theorem r_pl {c : LC} {Q : FrameMode → QT} (h : c.wp P (Q u) ρ w) : (LD.pl c).wpR P Q u ρ w := h
theorem r_seq {a b : LD} {Q : FrameMode → QT} (h : a.wpR P (fun u' => QZ (b.wpR P Q u') (Q u')) u ρ w) : (LD.seq a b).wpR P Q u ρ w := h
theorem r_sp {l1 l2 : List GO} {d : Option Nat} {Q : FrameMode → QT} (h : Q3 P l1 (QZ (fun ρ w => Q3 P l2 (Q (recM u).2) (updo ρ d (recM u).1) w) (Q u)) ρ w) : (LD.sp l1 (.rcv d) l2).wpR P Q u ρ w := h
/-- A deferred function, called in a mode: it returns. -/
def Defs (P : Program) (f : FuncId) (args : List Value) (u : FrameMode) (w : World) (S : FrameMode → World → Prop) : Prop :=
  CallsD P f ⟨args⟩ u w fun e u' w' => (∃ v, e = .returned v) ∧ S u' w'
theorem Ql3 {rs : List ResultVar} {R : Ending → World → Prop} {f : FuncId} {cap : List Value} {S : FrameMode → World → Prop} (hu : u ≠ .run) (hf : Q4j P f = true) (hc : Defs P f cap u w S)
    (h : ∀ u' w', S u' w' → Q3Z P rs ρ R [] (settle u') w') : Q3Z P rs ρ R [⟨.fn (.func f) ⟨cap⟩, #[]⟩] u w := by
  refine ⟨hu, f, ⟨cap⟩, rfl, hf, hc.mono ?_⟩
  rintro e u' w' ⟨⟨v, rfl⟩, hs⟩
  exact h u' w' hs
theorem q_retD {rs : List ResultVar} {R : Ending → World → Prop} (h : Q3Z P rs ρ R ds .returning w) : retD P rs R ds .ret ρ w := h
theorem q_panD {rs : List ResultVar} {R : Ending → World → Prop} {ch : List PanicEntry} (h : Q3Z P rs ρ R ds (.panicking ch) w) : retD P rs R ds (.panic ch) ρ w := h
theorem Qiu {rs : List ResultVar} {R : Ending → World → Prop} (h : retQ P rs R .ret ρ w) : Q3Z P rs ρ R [] .returning w := h
theorem q_endR {rs : List ResultVar} {R : Ending → FrameMode → World → Prop} (h : retQ P rs (fun e w => R e u w) .normal ρ w) : retR P rs R u .normal ρ w := h
end
end Go.Lir
namespace Go.Lir
section
variable {P : Program} {l : List GO} {Q : QT} {ρ : Env} {w : World} {f : FuncId} {S T : Value → World → Prop}

theorem s_ends_2 {d : Nat} {u0 u1 : Value} {x0 x1 : Operand} (h0 : ρ.ev x0 = u0) (h1 : ρ.ev x1 = u1) (hc : Fins P f [u0, u1] w S T) (hp : ∀ v w', T v w' → Q (.panic [{ v := v, recovered := false }]) ρ w') (h : ∀ v w', S v w' → Q3 P l Q (upd ρ d v) w') : Q3 P (⟨none, .call (some d) f [x0, x1]⟩ :: l) Q ρ w := by
  subst h0 h1; exact QpT (by rfl) hc hp h
theorem s_ends_3 {d : Nat} {u0 u1 u2 : Value} {x0 x1 x2 : Operand} (h0 : ρ.ev x0 = u0) (h1 : ρ.ev x1 = u1) (h2 : ρ.ev x2 = u2) (hc : Fins P f [u0, u1, u2] w S T) (hp : ∀ v w', T v w' → Q (.panic [{ v := v, recovered := false }]) ρ w') (h : ∀ v w', S v w' → Q3 P l Q (upd ρ d v) w') : Q3 P (⟨none, .call (some d) f [x0, x1, x2]⟩ :: l) Q ρ w := by
  subst h0 h1 h2; exact QpT (by rfl) hc hp h
theorem s_ends_4 {d : Nat} {u0 u1 u2 u3 : Value} {x0 x1 x2 x3 : Operand} (h0 : ρ.ev x0 = u0) (h1 : ρ.ev x1 = u1) (h2 : ρ.ev x2 = u2) (h3 : ρ.ev x3 = u3) (hc : Fins P f [u0, u1, u2, u3] w S T) (hp : ∀ v w', T v w' → Q (.panic [{ v := v, recovered := false }]) ρ w') (h : ∀ v w', S v w' → Q3 P l Q (upd ρ d v) w') : Q3 P (⟨none, .call (some d) f [x0, x1, x2, x3]⟩ :: l) Q ρ w := by
  subst h0 h1 h2 h3; exact QpT (by rfl) hc hp h
theorem Qiy {b o T : Nat} {T' : TypeId} {cs : List Value} {v : Value} (hs : Q35 P T = true) (hb : Blk w.heap b T' cs) (hv : cs[o]? = some v) : Qoc P w ⟨b, o, none⟩ T v := .inl ⟨hs, hb.cell hv⟩
theorem QcH (k : Nat) {Ty : TypeId} {ms : Array (String × TypeId)} {w0 : World} (ht : P.underlying Ty = some (.interface ms)) : (Op.equalIn (k + 1) Ty .nilIface .nilIface).run P w0 = .ok true w0 := by
  simp only [Op.equalIn, Sem.run_bind, Q9 P Ty _ w0 ht, Result.andThen_ok]
  simp [Sem.run_pure]
theorem QgO {Ty : TypeId} {ms : Array (String × TypeId)} {w0 : World} (ht : P.underlying Ty = some (.interface ms)) : (Op.equal Ty .nilIface .nilIface).run P w0 = .ok true w0 := QcH 9999 ht
theorem Qal (k : Nat) {Ty U : TypeId} {v : Value} {ms : Array (String × TypeId)} {w0 : World} (ht : P.underlying Ty = some (.interface ms)) : (Op.equalIn (k + 1) Ty (.iface U v) .nilIface).run P w0 = .ok false w0 := by
  simp only [Op.equalIn, Sem.run_bind, Q9 P Ty _ w0 ht, Result.andThen_ok]
  simp [Sem.run_pure]
theorem QeB {Ty U : TypeId} {v : Value} {ms : Array (String × TypeId)} {w0 : World} (ht : P.underlying Ty = some (.interface ms)) : (Op.equal Ty (.iface U v) .nilIface).run P w0 = .ok false w0 := Qal 9999 ht
/-- e != nil -/
theorem s_inil_f {d : Nat} {Ty : TypeId} {x : Operand} {ms : Array (String × TypeId)} (ht : P.underlying Ty = some (.interface ms)) (hx : ρ.ev x = .nilIface) (h : Q3 P l Q (upd ρ d (.bool false)) w) : Q3 P (⟨none, .bin d .neq Ty x (.const .nilIface)⟩ :: l) Q ρ w :=
  ⟨_, fun w0 => by rw [hx]; simp [Env.ev, eqGuard, binOp, QgO ht], h⟩
theorem s_inil_t {d : Nat} {Ty U : TypeId} {v : Value} {x : Operand} {ms : Array (String × TypeId)} (ht : P.underlying Ty = some (.interface ms)) (hx : ρ.ev x = .iface U v) (h : Q3 P l Q (upd ρ d (.bool true)) w) : Q3 P (⟨none, .bin d .neq Ty x (.const .nilIface)⟩ :: l) Q ρ w :=
  ⟨_, fun w0 => by rw [hx]; simp [Env.ev, eqGuard, binOp, QeB ht], h⟩
/-- Three things to the front. -/
theorem St.pick3 {c : Cx} {L L1 L2 L3 : List Res} {r1 r2 r3 : Res} (h : St c w L) (p1 : Pick L r1 L1) (p2 : Pick L1 r2 L2) (p3 : Pick L2 r3 L3) : St c w (r1 :: r2 :: r3 :: L3) :=
  h.perm (p1.perm.trans (List.Perm.cons _ (p2.perm.trans (List.Perm.cons _ p3.perm))))
end
end Go.Lir
namespace Go.Lir
set_option linter.unusedVariables false
/-- What is left to be shown, apart from what is known. -/
structure Bx (K : Prop) : Prop where
  o : K
section
variable {K G : Prop}
theorem zn (k : K) (h : Bx K → G := by
  intro K9
  refine Q4E ?_
  (repeat (first | refine Q2b ?_ | refine QdA ?_))
  exact K9.o) : G := h ⟨k⟩
theorem zcn (k : K) (h : Bx K → G := by
  intro K9
  refine s_cnil ?_
  (repeat (first | refine Q2b ?_ | refine QdA ?_))
  exact K9.o) : G := h ⟨k⟩
theorem zsk (k : K) (h : Bx K → G := by
  intro K9
  refine s_skip ?_
  (repeat (first | refine Q2b ?_ | refine QdA ?_))
  exact K9.o) : G := h ⟨k⟩
theorem zex (k : K) (h : Bx K → G := by
  intro K9
  refine s_exit ?_
  (repeat (first | refine s_exitQ ?_ | refine s_exitT ?_ | refine s_exitB rfl ?_ | refine Q2b ?_ | refine QdA ?_))
  exact K9.o) : G := h ⟨k⟩
theorem zr (k : K) (h : Bx K → G := by
  intro K9
  refine s_ret ?_
  (repeat (first | refine s_retT ?_ | refine s_retB ?_))
  exact K9.o) : G := h ⟨k⟩
theorem zy {A : Prop} (k : G) (h : A := by
  repeat (first
    | exact fun _ h => (List.not_mem_nil h).elim
    | refine List.forall_mem_cons.2 ⟨by first | exact Q1Y hS rfl (NthP.nth (by repeat constructor)) rfl | exact Q33 hS rfl (NthP.nth (by repeat constructor)) rfl rfl | exact Qlq hS (by assumption) rfl rfl | exact Q5S hS (by assumption) rfl rfl rfl | exact Qjk hS (by assumption) rfl rfl | exact QeR hS (by assumption) rfl rfl rfl | exact gq_skip rfl rfl | exact Qbs rfl (Q1Y hS rfl (NthP.nth (by repeat constructor)) rfl) | exact Qbs rfl (Q33 hS rfl (NthP.nth (by repeat constructor)) rfl rfl) | exact Qbs rfl (Qlq hS (by assumption) rfl rfl) | exact Qbs rfl (Q5S hS (by assumption) rfl rfl rfl) | exact Qbs rfl (Qjk hS (by assumption) rfl rfl) | exact Qbs rfl (QeR hS (by assumption) rfl rfl rfl), ?_⟩)) : A ∧ G := ⟨h, k⟩
end
section
variable {P : Program} {l : List GO} {Q : QT} {ρ : Env} {w : World} {c : Cx} {L : List Res} {i : Nat} {T es : Nat} {v : Value} {css : List (List Value)}
theorem zt {K : KT} (h : K ρ w) : Q3 P [] (QZ K Q) ρ w := Q4E (Q2b h)
theorem St.ns {L' : List Res} (h : St c w L) (e : L = L' := by (conv => lhs; simp only [List.set_cons_zero, List.set_cons_succ]); first | done | exact rfl) : St c w L' := e ▸ h
theorem zm {d : Nat} {x : Operand} {v : Value} (h : Q3 P l Q (upd ρ d v) w) (hx : ρ.ev x = v := by (conv => lhs; whnf); first | done | exact rfl) : Q3 P (⟨none, .mov d x⟩ :: l) Q ρ w := s_mov hx h
theorem zpt {d : Nat} {c x y : Operand} {v : Value} (h : Q3 P l Q (upd ρ d v) w) (hc : ρ.ev c = .bool true := by exact rfl) (hx : ρ.ev x = v := by (conv => lhs; whnf); first | done | exact rfl) : Q3 P (⟨none, .pick d c x y⟩ :: l) Q ρ w := s_pick_t hc hx h
theorem zpf {d : Nat} {c x y : Operand} {v : Value} (h : Q3 P l Q (upd ρ d v) w) (hc : ρ.ev c = .bool false := by exact rfl) (hx : ρ.ev y = v := by (conv => lhs; whnf); first | done | exact rfl) : Q3 P (⟨none, .pick d c x y⟩ :: l) Q ρ w := s_pick_f hc hx h
theorem zki {d : Nat} {T : TypeId} {x : Operand} {v : Value} (h : Q3 P l Q (upd ρ d (.iface T v)) w) (hx : ρ.ev x = v := by (conv => lhs; whnf); first | done | exact rfl) : Q3 P (⟨none, .mki d T x⟩ :: l) Q ρ w := s_mki hx h
theorem zl {d : Nat} {x : Operand} {b o : Nat} {cs : List Value} {u : Value} (hS : St c w L) (h : Q3 P l Q (upd ρ d u) w) (hx : ρ.ev x = .pointer (some ⟨b, o, none⟩) := by exact rfl) (hi : nth L i = some (blk b T cs) := by exact NthP.nth (by repeat constructor)) (hu : cs[o]? = some u := by exact rfl) : Q3 P (⟨none, .load1 d x⟩ :: l) Q ρ w := QpP hS hx hi hu h
theorem zlk {d : Nat} {x : Operand} {b o : Nat} {cs : List Value} {u : Value} (hS : St c w L) (h : Q3 P l Q (upd ρ d u) w) (ha : AtK c b o cs := by assumption) (hx : ρ.ev x = .pointer (some ⟨b, o, none⟩) := by exact rfl) (hu : cs[0]? = some u := by exact rfl) : Q3 P (⟨none, .load1 d x⟩ :: l) Q ρ w := s_loadK hS ha hx hu h
theorem zlj {d : Nat} {x : Operand} {b o j : Nat} {cs : List Value} {u : Value} (hS : St c w L) (h : Q3 P l Q (upd ρ d u) w) (ha : AtK c b o cs := by assumption) (hx : ρ.ev x = .pointer (some ⟨b, o + j, none⟩) := by exact rfl) (hu : cs[j]? = some u := by exact rfl) : Q3 P (⟨none, .load1 d x⟩ :: l) Q ρ w := s_loadKj hS ha hx hu h
theorem zv {d n : Nat} {x : Operand} {b o : Nat} {cs us : List Value} (hS : St c w L) (h : Q3 P l Q (upd ρ d (.agg ⟨us⟩)) w) (hx : ρ.ev x = .pointer (some ⟨b, o, none⟩) := by exact rfl) (hi : nth L i = some (blk b T cs) := by exact NthP.nth (by repeat constructor)) (hu : (cs.drop o).take n = us := by exact rfl) (hl : us.length = n := by exact rfl) : Q3 P (⟨none, .loadn d n x⟩ :: l) Q ρ w := Qoj hS hx hi hu hl h
theorem zvk {d n : Nat} {x : Operand} {b o : Nat} {cs : List Value} (hS : St c w L) (h : Q3 P l Q (upd ρ d (.agg ⟨cs⟩)) w) (ha : AtK c b o cs := by assumption) (hx : ρ.ev x = .pointer (some ⟨b, o, none⟩) := by exact rfl) (hl : cs.length = n := by exact rfl) : Q3 P (⟨none, .loadn d n x⟩ :: l) Q ρ w := s_loadnK hS ha hx hl h
theorem zli {d n : Nat} {x : Operand} {m b o : Nat} {xs : List Int} (hS : St c w L) (h : Q3 P l Q (upd ρ d (.int .i64 (xs.getD m 0))) w) (he : ElP v n 1 m b o := by assumption) (hx : ρ.ev x = .pointer (some ⟨b, o, none⟩) := by exact rfl) (hi : nth L i = some (sl T 1 v (xs.map Q6A)) := by exact NthP.nth (by repeat constructor)) (hn : (xs.map Q6A).length = n := by exact rfl) (hm : m < xs.length := by first | omega | (simp; omega)) : Q3 P (⟨none, .load1 d x⟩ :: l) Q ρ w := s_loadI hS he hx hi hn hm h
theorem zlb {d n : Nat} {x : Operand} {m b o : Nat} {xs : List Bool} (hS : St c w L) (h : Q3 P l Q (upd ρ d (.bool (xs.getD m false))) w) (he : ElP v n 1 m b o := by assumption) (hx : ρ.ev x = .pointer (some ⟨b, o, none⟩) := by exact rfl) (hi : nth L i = some (sl T 1 v (xs.map Q16)) := by exact NthP.nth (by repeat constructor)) (hn : (xs.map Q16).length = n := by exact rfl) (hm : m < xs.length := by first | omega | (simp; omega)) : Q3 P (⟨none, .load1 d x⟩ :: l) Q ρ w := s_loadBo hS he hx hi hn hm h
theorem zLe {d n : Nat} {x : Operand} (hS : St c w L) (h : Q3 P l Q (upd ρ d (.int .i64 n)) w) (hx : ρ.ev x = v := by (conv => lhs; whnf); first | done | exact rfl) (hi : nth L i = some (sl T es v css) := by exact NthP.nth (by repeat constructor)) (hn : css.length = n := by first | exact List.length_map _ | rfl) : Q3 P (⟨none, .len d x⟩ :: l) Q ρ w := Qaj hS hx hi hn h
theorem zad {d : Nat} {T : TypeId} {x y : Operand} {a b : Int} (h : Q3 P l Q (upd ρ d (.int .i64 (a + b))) w) (hx : ρ.ev x = .int .i64 a := by exact rfl) (hy : ρ.ev y = .int .i64 b := by exact rfl) (h1 : -9223372036854775808 ≤ a + b := by omega) (h2 : a + b ≤ 9223372036854775807 := by omega) : Q3 P (⟨none, .bin d .add T x y⟩ :: l) Q ρ w := s_add hx hy h1 h2 h
theorem zsu {d : Nat} {T : TypeId} {x y : Operand} {a b : Int} (h : Q3 P l Q (upd ρ d (.int .i64 (a - b))) w) (hx : ρ.ev x = .int .i64 a := by exact rfl) (hy : ρ.ev y = .int .i64 b := by exact rfl) (h1 : -9223372036854775808 ≤ a - b := by omega) (h2 : a - b ≤ 9223372036854775807 := by omega) : Q3 P (⟨none, .bin d .sub T x y⟩ :: l) Q ρ w := s_subi hx hy h1 h2 h
theorem zmu {d : Nat} {T : TypeId} {x y : Operand} {a b : Int} (h : Q3 P l Q (upd ρ d (.int .i64 (a * b))) w) (hx : ρ.ev x = .int .i64 a := by exact rfl) (hy : ρ.ev y = .int .i64 b := by exact rfl) (h1 : -9223372036854775808 ≤ a * b := by omega) (h2 : a * b ≤ 9223372036854775807 := by omega) : Q3 P (⟨none, .bin d .mul T x y⟩ :: l) Q ρ w := s_mul hx hy h1 h2 h
theorem Q1Z {d : Nat} {T : TypeId} {x y : Operand} {k : IntKind} {a b : Int} (h : Q3 P l Q (upd ρ d (.bool true)) w) (hx : ρ.ev x = .int k a := by exact rfl) (hy : ρ.ev y = .int k b := by exact rfl) (hp : a < b := by omega) : Q3 P (⟨none, .bin d .lss T x y⟩ :: l) Q ρ w := s_lss_t hx hy hp h
theorem Q20 {d : Nat} {T : TypeId} {x y : Operand} {k : IntKind} {a b : Int} (h : Q3 P l Q (upd ρ d (.bool false)) w) (hx : ρ.ev x = .int k a := by exact rfl) (hy : ρ.ev y = .int k b := by exact rfl) (hp : ¬ (a < b) := by omega) : Q3 P (⟨none, .bin d .lss T x y⟩ :: l) Q ρ w := s_lss_f hx hy hp h
theorem QD {d : Nat} {T : TypeId} {x y : Operand} {k : IntKind} {a b : Int} (h : Q3 P l Q (upd ρ d (.bool true)) w) (hx : ρ.ev x = .int k a := by exact rfl) (hy : ρ.ev y = .int k b := by exact rfl) (hp : a = b := by omega) : Q3 P (⟨none, .bin d .eql T x y⟩ :: l) Q ρ w := s_eql_t hx hy hp h
theorem QI {d : Nat} {T : TypeId} {x y : Operand} {k : IntKind} {a b : Int} (h : Q3 P l Q (upd ρ d (.bool false)) w) (hx : ρ.ev x = .int k a := by exact rfl) (hy : ρ.ev y = .int k b := by exact rfl) (hp : ¬ (a = b) := by omega) : Q3 P (⟨none, .bin d .eql T x y⟩ :: l) Q ρ w := s_eql_f hx hy hp h
theorem Q1h {d : Nat} {T : TypeId} {x y : Operand} {k : IntKind} {a b : Int} (h : Q3 P l Q (upd ρ d (.bool true)) w) (hx : ρ.ev x = .int k a := by exact rfl) (hy : ρ.ev y = .int k b := by exact rfl) (hp : a ≠ b := by omega) : Q3 P (⟨none, .bin d .neq T x y⟩ :: l) Q ρ w := s_neq_t hx hy hp h
theorem Q1i {d : Nat} {T : TypeId} {x y : Operand} {k : IntKind} {a b : Int} (h : Q3 P l Q (upd ρ d (.bool false)) w) (hx : ρ.ev x = .int k a := by exact rfl) (hy : ρ.ev y = .int k b := by exact rfl) (hp : ¬ (a ≠ b) := by omega) : Q3 P (⟨none, .bin d .neq T x y⟩ :: l) Q ρ w := s_neq_f hx hy hp h
theorem Q11 {d : Nat} {T : TypeId} {x y : Operand} {k : IntKind} {a b : Int} (h : Q3 P l Q (upd ρ d (.bool true)) w) (hx : ρ.ev x = .int k a := by exact rfl) (hy : ρ.ev y = .int k b := by exact rfl) (hp : b < a := by omega) : Q3 P (⟨none, .bin d .gtr T x y⟩ :: l) Q ρ w := s_gtr_t hx hy hp h
theorem Q14 {d : Nat} {T : TypeId} {x y : Operand} {k : IntKind} {a b : Int} (h : Q3 P l Q (upd ρ d (.bool false)) w) (hx : ρ.ev x = .int k a := by exact rfl) (hy : ρ.ev y = .int k b := by exact rfl) (hp : ¬ (b < a) := by omega) : Q3 P (⟨none, .bin d .gtr T x y⟩ :: l) Q ρ w := s_gtr_f hx hy hp h
theorem Q53 {d : Nat} {T : TypeId} {x y : Operand} {k : IntKind} {a b : Int} (h : Q3 P l Q (upd ρ d (.bool true)) w) (hx : ρ.ev x = .int k a := by exact rfl) (hy : ρ.ev y = .int k b := by exact rfl) (hp : b ≤ a := by omega) : Q3 P (⟨none, .bin d .geq T x y⟩ :: l) Q ρ w := s_geq_t hx hy hp h
theorem Q56 {d : Nat} {T : TypeId} {x y : Operand} {k : IntKind} {a b : Int} (h : Q3 P l Q (upd ρ d (.bool false)) w) (hx : ρ.ev x = .int k a := by exact rfl) (hy : ρ.ev y = .int k b := by exact rfl) (hp : ¬ (b ≤ a) := by omega) : Q3 P (⟨none, .bin d .geq T x y⟩ :: l) Q ρ w := s_geq_f hx hy hp h
theorem zleqt {d : Nat} {T : TypeId} {x y : Operand} {k : IntKind} {a b : Int} (h : Q3 P l Q (upd ρ d (.bool true)) w) (hx : ρ.ev x = .int k a := by exact rfl) (hy : ρ.ev y = .int k b := by exact rfl) (hp : a ≤ b := by omega) : Q3 P (⟨none, .bin d .leq T x y⟩ :: l) Q ρ w := s_leq_t hx hy hp h
theorem zleqf {d : Nat} {T : TypeId} {x y : Operand} {k : IntKind} {a b : Int} (h : Q3 P l Q (upd ρ d (.bool false)) w) (hx : ρ.ev x = .int k a := by exact rfl) (hy : ρ.ev y = .int k b := by exact rfl) (hp : ¬ (a ≤ b) := by omega) : Q3 P (⟨none, .bin d .leq T x y⟩ :: l) Q ρ w := s_leq_f hx hy hp h
theorem zst {x y : Operand} {b o : Nat} {cs : List Value} {u : Value} (hS : St c w L) (h : ∀ w', St c w' (L.set i (blk b T (cs.set o u))) → Q3 P l Q ρ w') (hx : ρ.ev x = .pointer (some ⟨b, o, none⟩) := by exact rfl) (hy : ρ.ev y = u := by (conv => lhs; whnf); first | done | exact rfl) (hi : nth L i = some (blk b T cs) := by exact NthP.nth (by repeat constructor)) (ho : o < cs.length := by simp) (h1 : oneC u = true := by first | rfl | assumption | exact hS.oneC (NthP.nth (by repeat constructor)) | exact SlR.oneC (by assumption)) : Q3 P (⟨none, .store1 x y⟩ :: l) Q ρ w := s_storeB hS hx hy hi ho h1 h
theorem zsi {n : Nat} {x y : Operand} {m b o : Nat} {xs : List Int} {u : Int} (hS : St c w L) (h : ∀ w', St c w' (L.set i (sl T 1 v ((xs.set m u).map Q6A))) → Q3 P l Q ρ w') (he : ElP v n 1 m b o := by assumption) (hx : ρ.ev x = .pointer (some ⟨b, o, none⟩) := by exact rfl) (hy : ρ.ev y = .int .i64 u := by (conv => lhs; whnf); first | done | exact rfl) (hi : nth L i = some (sl T 1 v (xs.map Q6A)) := by exact NthP.nth (by repeat constructor)) (hn : (xs.map Q6A).length = n := by exact rfl) (hm : m < xs.length := by first | omega | (simp; omega)) : Q3 P (⟨none, .store1 x y⟩ :: l) Q ρ w := s_storeI hS he hx hy hi hn hm h
theorem zsb {n : Nat} {x y : Operand} {m b o : Nat} {xs : List Bool} {u : Bool} (hS : St c w L) (h : ∀ w', St c w' (L.set i (sl T 1 v ((xs.set m u).map Q16))) → Q3 P l Q ρ w') (he : ElP v n 1 m b o := by assumption) (hx : ρ.ev x = .pointer (some ⟨b, o, none⟩) := by exact rfl) (hy : ρ.ev y = .bool u := by (conv => lhs; whnf); first | done | exact rfl) (hi : nth L i = some (sl T 1 v (xs.map Q16)) := by exact NthP.nth (by repeat constructor)) (hn : (xs.map Q16).length = n := by exact rfl) (hm : m < xs.length := by first | omega | (simp; omega)) : Q3 P (⟨none, .store1 x y⟩ :: l) Q ρ w := QpK hS he hx hy hi hn hm h
theorem zb {d : Nat} {x : Operand} {cs : List Value} (hS : St c w L) (h : ∀ b w', St c w' (blk b T cs :: L) → Q3 P l Q (upd ρ d (.pointer (some ⟨b, 0, none⟩))) w') (hx : ρ.ev x = v := by (conv => lhs; whnf); first | done | exact rfl) (hc : v.cells = ⟨cs⟩ := by rfl) : Q3 P (⟨none, .box d T x⟩ :: l) Q ρ w := s_boxB hS hx hc h
theorem zie {d m : Nat} {x y : Operand} {k : IntKind} (hS : St c w L) (h : ∀ b o, ElP v css.length es m b o → Q3 P l Q (upd ρ d (.pointer (some ⟨b, o, none⟩))) w) (hx : ρ.ev x = v := by (conv => lhs; whnf); first | done | exact rfl) (hy : ρ.ev y = .int k (m : Int) := by exact rfl) (hi : nth L i = some (sl T es v css) := by exact NthP.nth (by repeat constructor)) (hm : m < css.length := by first | omega | (simp; omega)) : Q3 P (⟨none, .idx d es x y⟩ :: l) Q ρ w := QpS hS hx hy hi hm h
theorem zij {d : Nat} {x y : Operand} {k : IntKind} {n : Int} (hS : St c w L) (h : ∀ b o, ElP v css.length es n.toNat b o → Q3 P l Q (upd ρ d (.pointer (some ⟨b, o, none⟩))) w) (hx : ρ.ev x = v := by (conv => lhs; whnf); first | done | exact rfl) (hy : ρ.ev y = .int k n := by exact rfl) (hi : nth L i = some (sl T es v css) := by exact NthP.nth (by repeat constructor)) (h0 : 0 ≤ n := by first | omega | (simp; omega)) (hm : n < css.length := by first | omega | (simp; omega)) : Q3 P (⟨none, .idx d es x y⟩ :: l) Q ρ w := s_idxEi hS hx hy hi h0 hm h
theorem zsn {n i b T : Nat} {x y : Operand} {cs us : List Value} (hS : St c w L) (h : ∀ w', St c w' (L.set i (blk b T us)) → Q3 P l Q ρ w') (hx : ρ.ev x = .pointer (some ⟨b, 0, none⟩) := by exact rfl) (hy : ρ.ev y = .agg ⟨us⟩ := by exact rfl) (hn : us.length = n := by rfl) (hi : nth L i = some (blk b T cs) := by exact NthP.nth (by repeat constructor)) (hc : cs.length = n := by rfl) (h1 : ∀ u ∈ us, oneC u = true := by first | (simp [oneC]; done) | assumption | exact Rep.one _ (by assumption) | (simp only [List.take_succ_cons, List.take_zero, List.drop_zero, List.mem_cons, List.not_mem_nil, or_false, forall_eq_or_imp, forall_eq]; ((try refine And.intro ?_ ?_) <;> try refine And.intro ?_ ?_) <;> first | rfl | assumption)) : Q3 P (⟨none, .storen n x y⟩ :: l) Q ρ w := QpI hS hx hy hn hi hc h1 h
theorem zsm {n : Nat} {x y : Operand} {b o : Nat} {cs us cs' : List Value} (hS : St c w L) (h : ∀ w', St c w' (L.set i (blk b T cs')) → Q3 P l Q ρ w') (hx : ρ.ev x = .pointer (some ⟨b, o, none⟩) := by exact rfl) (hy : ρ.ev y = .agg ⟨us⟩ := by exact rfl) (hn : us.length = n := by rfl) (hi : nth L i = some (blk b T cs) := by exact NthP.nth (by repeat constructor)) (ho : o + n ≤ cs.length := by simp) (h1 : ∀ u ∈ us, oneC u = true := by first | (simp [oneC]; done) | assumption | exact Rep.one _ (by assumption) | (simp only [List.take_succ_cons, List.take_zero, List.drop_zero, List.mem_cons, List.not_mem_nil, or_false, forall_eq_or_imp, forall_eq]; ((try refine And.intro ?_ ?_) <;> try refine And.intro ?_ ?_) <;> first | rfl | assumption)) (hc : cs.take o ++ (us ++ cs.drop (o + n)) = cs' := by (conv => lhs; simp only [List.take_succ_cons, List.take_zero, List.drop_succ_cons, List.drop_zero, List.cons_append, List.nil_append]); first | done | exact rfl) : Q3 P (⟨none, .storen n x y⟩ :: l) Q ρ w := QkQ hS hx hy hn hi ho h1 hc h
theorem zf {t : Nat} {R : Ending → World → Prop} {v : Value} (h : R (.returned v) w) (hv : ρ t = v := by (conv => lhs; whnf); first | done | exact rfl) : retQ P [.tmp t] R .ret ρ w := q_ret1 hv h
theorem zb0 {d : Nat} {z : List Value} (cs : List Value) (h : Q3 P l Q (upd ρ d (.agg ⟨cs⟩)) w) (hf : Q3y z [] = some cs := by rfl) : Q3 P (⟨none, .build d z []⟩ :: l) Q ρ w := s_build0  hf h
theorem zb1 {d : Nat} {z : List Value} {o0 n0 : Nat} {x0 : Operand} {v0 : Value} (cs : List Value) (h : Q3 P l Q (upd ρ d (.agg ⟨cs⟩)) w) (h0 : ρ.ev x0 = v0 := by (conv => lhs; whnf); first | done | exact rfl) (hf : Q3y z [(o0, n0, v0)] = some cs := by rfl) : Q3 P (⟨none, .build d z [(o0, n0, x0)]⟩ :: l) Q ρ w := s_build1 h0 hf h
theorem zB1 {d : Nat} {T : TypeId} {n : Nat} {z : List Value} {o0 n0 : Nat} {x0 : Operand} {v0 : Value} (hS : St c w L) (cs : List Value) (h : ∀ b w', St c w' (blk b T cs :: L) → Q3 P l Q (upd ρ d (.slice (some ⟨b, 0, none⟩) n n)) w') (h0 : ρ.ev x0 = v0 := by (conv => lhs; whnf); first | done | exact rfl) (hf : Q3y z [(o0, n0, v0)] = some cs := by rfl) : Q3 P (⟨none, .buildS d T n z [(o0, n0, x0)]⟩ :: l) Q ρ w := Q8w h0 hf fun b w' hb hf1 _ hk => h b w' (hS.laid hb hf1 hk)
theorem zb2 {d : Nat} {z : List Value} {o0 n0 : Nat} {x0 : Operand} {v0 : Value} {o1 n1 : Nat} {x1 : Operand} {v1 : Value} (cs : List Value) (h : Q3 P l Q (upd ρ d (.agg ⟨cs⟩)) w) (h0 : ρ.ev x0 = v0 := by (conv => lhs; whnf); first | done | exact rfl) (h1 : ρ.ev x1 = v1 := by (conv => lhs; whnf); first | done | exact rfl) (hf : Q3y z [(o0, n0, v0), (o1, n1, v1)] = some cs := by rfl) : Q3 P (⟨none, .build d z [(o0, n0, x0), (o1, n1, x1)]⟩ :: l) Q ρ w := Qoo h0 h1 hf h
theorem zb3 {d : Nat} {z : List Value} {o0 n0 : Nat} {x0 : Operand} {v0 : Value} {o1 n1 : Nat} {x1 : Operand} {v1 : Value} {o2 n2 : Nat} {x2 : Operand} {v2 : Value} (cs : List Value) (h : Q3 P l Q (upd ρ d (.agg ⟨cs⟩)) w) (h0 : ρ.ev x0 = v0 := by (conv => lhs; whnf); first | done | exact rfl) (h1 : ρ.ev x1 = v1 := by (conv => lhs; whnf); first | done | exact rfl) (h2 : ρ.ev x2 = v2 := by (conv => lhs; whnf); first | done | exact rfl) (hf : Q3y z [(o0, n0, v0), (o1, n1, v1), (o2, n2, v2)] = some cs := by rfl) : Q3 P (⟨none, .build d z [(o0, n0, x0), (o1, n1, x1), (o2, n2, x2)]⟩ :: l) Q ρ w := s_build3 h0 h1 h2 hf h
theorem zb5 {d : Nat} {z : List Value} {o0 n0 : Nat} {x0 : Operand} {v0 : Value} {o1 n1 : Nat} {x1 : Operand} {v1 : Value} {o2 n2 : Nat} {x2 : Operand} {v2 : Value} {o3 n3 : Nat} {x3 : Operand} {v3 : Value} {o4 n4 : Nat} {x4 : Operand} {v4 : Value} (cs : List Value) (h : Q3 P l Q (upd ρ d (.agg ⟨cs⟩)) w) (h0 : ρ.ev x0 = v0 := by (conv => lhs; whnf); first | done | exact rfl) (h1 : ρ.ev x1 = v1 := by (conv => lhs; whnf); first | done | exact rfl) (h2 : ρ.ev x2 = v2 := by (conv => lhs; whnf); first | done | exact rfl) (h3 : ρ.ev x3 = v3 := by (conv => lhs; whnf); first | done | exact rfl) (h4 : ρ.ev x4 = v4 := by (conv => lhs; whnf); first | done | exact rfl) (hf : Q3y z [(o0, n0, v0), (o1, n1, v1), (o2, n2, v2), (o3, n3, v3), (o4, n4, v4)] = some cs := by rfl) : Q3 P (⟨none, .build d z [(o0, n0, x0), (o1, n1, x1), (o2, n2, x2), (o3, n3, x3), (o4, n4, x4)]⟩ :: l) Q ρ w := s_build5 h0 h1 h2 h3 h4 hf h
theorem zD {gs : List GO} {es : List (List Nat)} (C : List CI) (h : Q3 P (C.map fun c => gat gs c.1) Q ρ w.drew) (hok : QeZ gs es C = true := by kernel_rfl) (hpl : (C.all fun c => match c.2 with | some (some _) => false | _ => true) = true := by kernel_rfl) : (LC.draw gs es).wp P Q ρ w := s_draw C hok hpl h
theorem zC {gs : List GO} {es : List (List Nat)} (C : List CI) (h : Q1N P gs C Q ρ w.drew) (hok : QeZ gs es C = true := by kernel_rfl) : (LC.draw gs es).wp P Q ρ w := s_canon C hok h
theorem zR0 {d : Nat} {f : FuncId} {S : Value → World → Prop} (c : Rets P f [] w S) (h : ∀ v w', S v w' → Q3 P l Q (upd ρ d v) w') : Q3 P (⟨none, .call (some d) f []⟩ :: l) Q ρ w := s_rets_0  c h
theorem zR1 {d : Nat} {f : FuncId} {x0 : Operand} {u0 : Value} {S : Value → World → Prop} (h0 : ρ.ev x0 = u0 := by (conv => lhs; whnf); first | done | exact rfl) (c : Rets P f [u0] w S) (h : ∀ v w', S v w' → Q3 P l Q (upd ρ d v) w') : Q3 P (⟨none, .call (some d) f [x0]⟩ :: l) Q ρ w := s_rets_1 h0 c h
theorem zR2 {d : Nat} {f : FuncId} {x0 x1 : Operand} {u0 u1 : Value} {S : Value → World → Prop} (h0 : ρ.ev x0 = u0 := by (conv => lhs; whnf); first | done | exact rfl) (h1 : ρ.ev x1 = u1 := by (conv => lhs; whnf); first | done | exact rfl) (c : Rets P f [u0, u1] w S) (h : ∀ v w', S v w' → Q3 P l Q (upd ρ d v) w') : Q3 P (⟨none, .call (some d) f [x0, x1]⟩ :: l) Q ρ w := s_rets_2 h0 h1 c h
theorem zE2 {d : Nat} {f : FuncId} {x0 x1 : Operand} {u0 u1 : Value} {S T : Value → World → Prop} (h0 : ρ.ev x0 = u0 := by (conv => lhs; whnf); first | done | exact rfl) (h1 : ρ.ev x1 = u1 := by (conv => lhs; whnf); first | done | exact rfl) (c : Fins P f [u0, u1] w S T) (p : ∀ v w', T v w' → Q (.panic [{ v := v, recovered := false }]) ρ w') (h : ∀ v w', S v w' → Q3 P l Q (upd ρ d v) w') : Q3 P (⟨none, .call (some d) f [x0, x1]⟩ :: l) Q ρ w := s_ends_2 h0 h1 c p h
theorem zR3 {d : Nat} {f : FuncId} {x0 x1 x2 : Operand} {u0 u1 u2 : Value} {S : Value → World → Prop} (h0 : ρ.ev x0 = u0 := by (conv => lhs; whnf); first | done | exact rfl) (h1 : ρ.ev x1 = u1 := by (conv => lhs; whnf); first | done | exact rfl) (h2 : ρ.ev x2 = u2 := by (conv => lhs; whnf); first | done | exact rfl) (c : Rets P f [u0, u1, u2] w S) (h : ∀ v w', S v w' → Q3 P l Q (upd ρ d v) w') : Q3 P (⟨none, .call (some d) f [x0, x1, x2]⟩ :: l) Q ρ w := s_rets_3 h0 h1 h2 c h
theorem zE3 {d : Nat} {f : FuncId} {x0 x1 x2 : Operand} {u0 u1 u2 : Value} {S T : Value → World → Prop} (h0 : ρ.ev x0 = u0 := by (conv => lhs; whnf); first | done | exact rfl) (h1 : ρ.ev x1 = u1 := by (conv => lhs; whnf); first | done | exact rfl) (h2 : ρ.ev x2 = u2 := by (conv => lhs; whnf); first | done | exact rfl) (c : Fins P f [u0, u1, u2] w S T) (p : ∀ v w', T v w' → Q (.panic [{ v := v, recovered := false }]) ρ w') (h : ∀ v w', S v w' → Q3 P l Q (upd ρ d v) w') : Q3 P (⟨none, .call (some d) f [x0, x1, x2]⟩ :: l) Q ρ w := s_ends_3 h0 h1 h2 c p h
theorem zR4 {d : Nat} {f : FuncId} {x0 x1 x2 x3 : Operand} {u0 u1 u2 u3 : Value} {S : Value → World → Prop} (h0 : ρ.ev x0 = u0 := by (conv => lhs; whnf); first | done | exact rfl) (h1 : ρ.ev x1 = u1 := by (conv => lhs; whnf); first | done | exact rfl) (h2 : ρ.ev x2 = u2 := by (conv => lhs; whnf); first | done | exact rfl) (h3 : ρ.ev x3 = u3 := by (conv => lhs; whnf); first | done | exact rfl) (c : Rets P f [u0, u1, u2, u3] w S) (h : ∀ v w', S v w' → Q3 P l Q (upd ρ d v) w') : Q3 P (⟨none, .call (some d) f [x0, x1, x2, x3]⟩ :: l) Q ρ w := s_rets_4 h0 h1 h2 h3 c h
theorem zE4 {d : Nat} {f : FuncId} {x0 x1 x2 x3 : Operand} {u0 u1 u2 u3 : Value} {S T : Value → World → Prop} (h0 : ρ.ev x0 = u0 := by (conv => lhs; whnf); first | done | exact rfl) (h1 : ρ.ev x1 = u1 := by (conv => lhs; whnf); first | done | exact rfl) (h2 : ρ.ev x2 = u2 := by (conv => lhs; whnf); first | done | exact rfl) (h3 : ρ.ev x3 = u3 := by (conv => lhs; whnf); first | done | exact rfl) (c : Fins P f [u0, u1, u2, u3] w S T) (p : ∀ v w', T v w' → Q (.panic [{ v := v, recovered := false }]) ρ w') (h : ∀ v w', S v w' → Q3 P l Q (upd ρ d v) w') : Q3 P (⟨none, .call (some d) f [x0, x1, x2, x3]⟩ :: l) Q ρ w := s_ends_4 h0 h1 h2 h3 c p h
variable {α : Type} {r : Rep α} {xs : List α}
theorem zL {d : Nat} {x : Operand} (h : Q3 P l Q (upd ρ d (.int .i64 xs.length)) w) (hx : ρ.ev x = v := by (conv => lhs; whnf); first | done | exact rfl) (hK : r.sl c v xs := by assumption) : Q3 P (⟨none, .len d x⟩ :: l) Q ρ w := s_lenL hx hK h
theorem zi {d m : Nat} {x y : Operand} {k : IntKind} (h : ∀ b o cs a, AtK c b o cs → xs[m]? = some a → r.at c cs a → Q3 P l Q (upd ρ d (.pointer (some ⟨b, o, none⟩))) w) (hx : ρ.ev x = v := by (conv => lhs; whnf); first | done | exact rfl) (hy : ρ.ev y = .int k (m : Int) := by exact rfl) (hK : r.sl c v xs := by assumption) (hes : r.es = es := by exact rfl) (hn : m < xs.length := by first | omega | (simp; omega)) : Q3 P (⟨none, .idx d es x y⟩ :: l) Q ρ w := Qey hx hy hK hes hn h
theorem zj {d : Nat} {x y : Operand} {k : IntKind} {n : Int} (h : ∀ b o cs a, AtK c b o cs → xs[n.toNat]? = some a → r.at c cs a → Q3 P l Q (upd ρ d (.pointer (some ⟨b, o, none⟩))) w) (hx : ρ.ev x = v := by (conv => lhs; whnf); first | done | exact rfl) (hy : ρ.ev y = .int k n := by exact rfl) (hK : r.sl c v xs := by assumption) (hes : r.es = es := by exact rfl) (h0 : 0 ≤ n := by first | omega | (simp; omega)) (hn : n < xs.length := by first | omega | (simp; omega)) : Q3 P (⟨none, .idx d es x y⟩ :: l) Q ρ w := s_idxL hx hy hK hes h0 hn h
theorem za {T T' d Ts Ts2 Ty nb i k b : Nat} {z : List Value} {x y : Operand} {ds : List Value} {css : List (List Value)} {a : α} (hel : Q2V P Ts = some (T, es, nb, z)) (hts : ∃ e2, P.underlying Ts2 = some (.slice e2)) (hS : St c w L) (h : ∀ v' w' css', r.ls c css' (xs ++ [a]) → oneC v' = true → St c w' (L.set i (Go.Lir.sl T es v' css')) → Q3 P l Q (upd ρ d v') w') (hx : ρ.ev x = v := by (conv => lhs; whnf); first | done | exact rfl) (hy : ρ.ev y = .slice (some ⟨b, 0, none⟩) 1 1 := by (conv => lhs; whnf); first | done | exact rfl) (hi : nth L i = some (Go.Lir.sl T es v css) := by exact NthP.nth (by repeat constructor)) (hk : nth L k = some (blk b T' ds) := by exact NthP.nth (by repeat constructor)) (hls : r.ls c css xs := by assumption) (ha : r.at c ds a := by first | assumption | exact rfl) (hes : r.es = es := by exact rfl) (hb : (xs.length + 1) * nb ≤ 140737488355328 := by first | omega | (simp only [List.length_take]; omega) | (simp; omega)) : Q3 P (⟨none, .raw ⟨some d, .call ⟨.builtin .append, #[x, y], #[Ts, Ts2]⟩, Ty, "", #[], none⟩⟩ :: l) Q ρ w := s_appR1 hel hts hS hx hy hi hk hls ha hes hb h
theorem zak {T d Ts Ts2 Ty nb i : Nat} {z : List Value} {x y : Operand} {v2 : Value} {css : List (List Value)} {ys : List α} (hel : Q2V P Ts = some (T, es, nb, z)) (hts : ∃ e2, P.underlying Ts2 = some (.slice e2)) (hS : St c w L) (h : ∀ v' w' css', r.ls c css' (xs ++ ys) → oneC v' = true → St c w' (L.set i (Go.Lir.sl T es v' css')) → Q3 P l Q (upd ρ d v') w') (hx : ρ.ev x = v := by (conv => lhs; whnf); first | done | exact rfl) (hy : ρ.ev y = v2 := by (conv => lhs; whnf); first | done | exact rfl) (hi : nth L i = some (Go.Lir.sl T es v css) := by exact NthP.nth (by repeat constructor)) (hls : r.ls c css xs := by assumption) (hK : r.sl c v2 ys := by assumption) (hes : r.es = es := by exact rfl) (hb : (xs.length + ys.length) * nb ≤ 140737488355328 := by first | omega | (simp only [List.length_take]; omega) | (simp; omega)) : Q3 P (⟨none, .raw ⟨some d, .call ⟨.builtin .append, #[x, y], #[Ts, Ts2]⟩, Ty, "", #[], none⟩⟩ :: l) Q ρ w := s_appRK hel hts hS hx hy hi hls hK hes hb h
def evs (ρ : Env) (ts : List Nat) : List (Nat × Value) := ts.map fun t => (t, ρ t)
theorem QqJ (ρ : Env) : evs ρ [] = [] := rfl
theorem QqK {t : Nat} {ts : List Nat} {u : Value} {A : List (Nat × Value)} (h : ρ t = u) (h2 : evs ρ ts = A) : evs ρ (t :: ts) = (t, u) :: A := by subst h h2; rfl
theorem zh {A : List (Nat × Value)} (h : Has ρ A := by repeat' (first | exact trivial | refine And.intro rfl ?_)) : Has ρ A := h
theorem env2 {A B : List (Nat × Value)} (h : Has ρ A) (h2 : Has ρ B) : ∃ ρ', ρ = updl (updl ρ' B) A := ⟨ρ, by rw [QkM h2, QkM h]⟩
theorem zo {a : LC} (ts : List Nat) {A : List (Nat × Value)} (I : List (Nat × Value) → Env → World → Prop) (μ : Env → World → Nat) (h0 : I A ρ w) (h : ∀ ρ w, I A ρ w → a.wp P (QZ (fun ρ' w' => I A ρ' w' ∧ μ ρ' w' < μ ρ w) Q) ρ w) (hA : evs ρ ts = A := by (repeat (apply QqK; · ((conv => lhs; whnf); first | done | exact rfl))); exact QqJ _) : (LC.loop a).wp P Q ρ w := s_loop (I A) μ h0 h
theorem zM {a b : LC} (ts : List Nat) {A : List (Nat × Value)} (I : List (Nat × Value) → Env → World → Prop) (ha : a.wp P (QZ (I A) Q) ρ w) (hb : ∀ ρ w, I A ρ w → b.wp P Q ρ w) (hA : evs ρ ts = A := by (repeat (apply QqK; · ((conv => lhs; whnf); first | done | exact rfl))); exact QqJ _) : (LC.seq a b).wp P Q ρ w := s_mid (I A) ha hb
theorem zoL {a : LC} (hS : St c w L) (ts : List Nat) {A : List (Nat × Value)} (I : List (Nat × Value) → List Res → Env → World → Prop) (μ : Env → World → Nat) (h0 : I A L ρ w) (h : ∀ ρ w, I A L ρ w → a.wp P (QZ (fun ρ' w' => I A L ρ' w' ∧ μ ρ' w' < μ ρ w) Q) ρ w) (hA : evs ρ ts = A := by (repeat (apply QqK; · ((conv => lhs; whnf); first | done | exact rfl))); exact QqJ _) : (LC.loop a).wp P Q ρ w := s_loop (I A L) μ h0 h
theorem zML {a b : LC} (hS : St c w L) (ts : List Nat) {A : List (Nat × Value)} (I : List (Nat × Value) → List Res → Env → World → Prop) (ha : a.wp P (QZ (I A L) Q) ρ w) (hb : ∀ ρ w, I A L ρ w → b.wp P Q ρ w) (hA : evs ρ ts = A := by (repeat (apply QqK; · ((conv => lhs; whnf); first | done | exact rfl))); exact QqJ _) : (LC.seq a b).wp P Q ρ w := s_mid (I A L) ha hb
theorem zKL {l : List GO} (hS : St c w L) (n : Nat) (ts : List Nat) {A : List (Nat × Value)} (I : List (Nat × Value) → List Res → Env → World → Prop) (ha : Q3 P (l.take n) (QZ (I A L) Q) ρ w) (hb : ∀ ρ w, I A L ρ w → Q3 P (l.drop n) Q ρ w) (hA : evs ρ ts = A := by (repeat (apply QqK; · ((conv => lhs; whnf); first | done | exact rfl))); exact QqJ _) : Q3 P l Q ρ w := s_cut n (I A L) ha hb
theorem St.sp {L' : List Res} (h : St c w L) (e : SubP L' L := by (repeat constructor); first | done | fail) : St c w L' := h.subP e
theorem fd {r' : Res} (h : NthP L i r' := by repeat constructor) : nth L i = some r' := h.nth
theorem vw {a b : Value} (h : a = b := by (conv => lhs; whnf); first | done | exact rfl) : a = b := h
theorem St.p3 {L1 L2 L3 : List Res} {r1 r2 r3 : Res} (h : St c w L) (p1 : Pick L r1 L1 := by repeat constructor) (p2 : Pick L1 r2 L2 := by repeat constructor) (p3 : Pick L2 r3 L3 := by repeat constructor) : St c w (r1 :: r2 :: r3 :: L3) := h.pick3 p1 p2 p3
end
end Go.Lir
namespace Go.Lir
@[reducible] def qm (d x : Nat) : GO := ⟨none, .mov d (.tmp x)⟩
@[reducible] def qk (d : Nat) (v : Value) : GO := ⟨none, .mov d (.const v)⟩
@[reducible] def qf (d x k : Nat) : GO := ⟨none, .fld d (.tmp x) k⟩
@[reducible] def ql (d x : Nat) : GO := ⟨none, .load1 d (.tmp x)⟩
@[reducible] def qV (d n x : Nat) : GO := ⟨none, .loadn d n (.tmp x)⟩
@[reducible] def qn (d x : Nat) : GO := ⟨none, .nilc d (.tmp x)⟩
@[reducible] def qL (d x : Nat) : GO := ⟨none, .len d (.tmp x)⟩
@[reducible] def qs (x y : Nat) : GO := ⟨none, .store1 (.tmp x) (.tmp y)⟩
@[reducible] def qw (n x y : Nat) : GO := ⟨none, .storen n (.tmp x) (.tmp y)⟩
@[reducible] def qi (d es x y : Nat) : GO := ⟨none, .idx d es (.tmp x) (.tmp y)⟩
@[reducible] def qx (d x k : Nat) : GO := ⟨none, .ext d (.tmp x) k⟩
@[reducible] def qb (d T x : Nat) : GO := ⟨none, .box d T (.tmp x)⟩
@[reducible] def qt (d : Nat) (o : BinOp) (T x y : Nat) : GO := ⟨none, .bin d o T (.tmp x) (.tmp y)⟩
@[reducible] def qj (d : Nat) (o : BinOp) (T x : Nat) (n : Int) : GO := ⟨none, .bin d o T (.tmp x) (.const (.int .i64 n))⟩
@[reducible] def qg (s : Nat) (b : Bool) (o : GO) : GO := ⟨some (s, b), o.2⟩
@[reducible] def vi (n : Int) : Value := .int .i64 n
@[reducible] def vn : Value := .slice none 0 0
end Go.Lir
namespace Go.Proofs.Ytanlkfeogoganaa
open Go.Lir
set_option maxRecDepth 100000

/- 7 -/
/- 8 -/
/- 9 -/
def Qcc : List GO := [qb 3 24 0, qk 6 (.bool false)]
def Qcb : List GO := [⟨none, .call (some 11) 43 []⟩, ⟨none, .un 12 .not (.tmp 11)⟩]
def Qca : List GO := [qk 6 (.bool false)]
def Qc9 : List GO := [qV 13 1 3, ⟨none, .call (some 14) 11 [(.tmp 13)]⟩, qm 15 14, qg 15 false (qV 16 1 3), ⟨some (15, false), .call (some 17) 26 [(.tmp 16)]⟩, ⟨some (15, false), .fldv 18 (.tmp 17) 0⟩, qg 15 false (qj 19 .neq 3 18 0), ⟨none, .pick 20 (.tmp 15) (.const (.bool true)) (.tmp 19)⟩]
def Qc8 : List GO := [qk 6 (.bool true)]
def Qc7 : List GO := [qV 21 1 3, ⟨none, .call (some 22) 44 [(.tmp 21)]⟩, ⟨none, .alloc 7 47 [(vi 0), (vi 0)]⟩, qw 2 7 22]
def Qc6 : List GO := [qf 23 7 0, ql 24 23, qj 25 .neq 3 24 0]
def Qc5 : List GO := [qf 26 7 1, ql 27 26, qj 28 .geq 3 27 0, qm 6 28]
def Qc4 : List GO := [qm 29 1, ⟨none, .conv 30 .u64 (.tmp 29)⟩, qf 31 3 0, ql 32 31, qL 33 32, ⟨none, .conv 34 .u64 (.tmp 33)⟩, qt 35 .rem 38 30 34, ⟨none, .conv 36 .i64 (.tmp 35)⟩, qm 1 36]
def Qc3 : List GO := [qm 37 2, ⟨none, .conv 38 .u64 (.tmp 37)⟩, qf 39 3 0, ql 40 39, qm 41 1, qi 42 4 40 41, qf 43 42 3, ql 44 43, qL 45 44, ⟨none, .conv 46 .u64 (.tmp 45)⟩, qt 47 .rem 38 38 46, ⟨none, .conv 48 .i64 (.tmp 47)⟩, qm 2 48]
def Qae : List GO := [qV 49 1 3, ⟨none, .call (some 50) 24 [(.tmp 49)]⟩, ⟨none, .alloc 8 24 [vn]⟩, qw 1 8 50]
def Qad : List GO := [qf 51 8 0, ql 52 51, qm 53 1, qi 54 4 52 53, qf 55 54 3, ql 56 55, qm 57 2, qi 58 12 56 57, qm 9 58]
def Qac : List GO := [qm 59 9, qm 60 9, qn 61 60, qf 62 61 2, ql 63 62, ⟨none, .build 64 [(vi 0), (vi 0), (vi 0), (vi 0), (vi 0), (vi 0), vn, vn] [(0, (1, (.const (vi 13)))), (1, (1, (.const (vi (-1)))))]⟩, ⟨none, .buildS 65 27 1 [(vi 0), (vi 0), (vi 0), (vi 0), (vi 0), (vi 0), vn, vn] [(0, (8, (.tmp 64)))]⟩, ⟨none, .raw ⟨(some 66), (.call ⟨(.builtin .append), #[(.tmp 63), (.tmp 65)], #[58, 58]⟩), 58, "", #[], none⟩⟩, qn 67 59, qf 68 67 2, qs 68 66]
def Qab : List GO := [qV 69 1 8, ⟨none, .call (some 70) 44 [(.tmp 69)]⟩, ⟨none, .alloc 10 47 [(vi 0), (vi 0)]⟩, qw 2 10 70]
def Qaa : List GO := [qm 71 9, qn 72 71, qf 73 72 2, ql 74 73, qL 75 74, qj 76 .gtr 3 75 40]
def Qa9 : List GO := [qV 77 2 10, qm 78 1, qm 79 2, ⟨none, .call (some 80) 19 [(.tmp 78), (.tmp 79)]⟩, ⟨none, .build 81 [(vi 0), (vi 0)] [(0, (1, (.const (vi 2)))), (1, (1, (.tmp 80)))]⟩, qt 82 .eql 47 77 81, qm 6 82]
def Qah : List (List Nat) := [[],[],[],[1,2],[3],[0,4],[5,3,0,1,2,3,4,5]]
def Qa8 : List GO := [qV 83 2 10, qm 84 1, qm 85 2, qm 86 9, qn 87 86, qf 88 87 2, ql 89 88, qL 90 89, qj 91 .sub 3 90 1, ⟨none, .call (some 92) 23 [(.tmp 84), (.tmp 85), (.tmp 91)]⟩, ⟨none, .build 93 [(vi 0), (vi 0)] [(0, (1, (.const (vi 1)))), (1, (1, (.tmp 92)))]⟩, qt 94 .eql 47 83 93, qm 6 94]
def Qag : List (List Nat) := [[],[],[],[],[3],[4],[5],[6],[7],[1,2,8],[9],[0,10],[11,9,0,1,2,3,4,5,6,7,8,9,10,11]]
def Law_VerifyEach_lc : LC := (.seq (.ops Qcc) (.seq (.seq (.ops Qcb) (.cond (.tmp 12) (.seq (.ops Qca) .ret) .skip)) (.seq (.seq (.ops Qc9) (.cond (.tmp 20) (.seq (.ops Qc8) .ret) .skip)) (.seq (.ops Qc7) (.seq (.seq (.ops Qc6) (.cond (.tmp 25) (.seq (.ops Qc5) .ret) .skip)) (.seq (.ops Qc4) (.seq (.ops Qc3) (.seq (.ops Qae) (.seq (.ops Qad) (.seq (.ops Qac) (.seq (.ops Qab) (.seq (.seq (.ops Qaa) (.cond (.tmp 76) (.seq (.draw Qa9 Qah) .ret) .skip)) (.seq (.draw Qa8 Qag) .ret)))))))))))))
@[reducible] def QY : FuncId := 9
theorem Qaf : lowF Try.prog Try.f9 = some Law_VerifyEach_lc := by kernel_rfl
theorem Qcd {a0 a1 a2 : Value} {w : World} {R : Ending → World → Prop} (h : Law_VerifyEach_lc.wp Try.prog (retQ Try.prog [.tmp 6] R) (Qh [a0, a1, a2]) w) : Calls Try.prog QY ⟨[a0, a1, a2]⟩ w R :=
  Q4 Try.func9 Qaf (by kernel_rfl) (by kernel_rfl) h

/- 34 -/
/- 35 -/
def Qle : List GO := [qb 3 24 0, qk 6 (.pointer none), ⟨none, .alloc 7 47 [(vi 0), (vi 0)]⟩]
def Qld : List GO := [qV 11 1 3, ⟨none, .call (some 12) 25 [(.tmp 11)]⟩, ⟨none, .alloc 8 47 [(vi 0), (vi 0)]⟩, qw 2 8 12]
def Qlc : List GO := [qf 13 8 0, ql 14 13, qj 15 .neq 3 14 0]
def Qlb : List GO := [qV 16 2 8, qk 6 (.pointer none), qw 2 7 16]
def Qlg : List (List Nat) := [[],[],[0,1,0,1]]
def Qla : List GO := [qm 17 1, qj 18 .lss 3 17 0, qm 19 18, qg 19 false (qm 20 1), qg 19 false (qf 21 3 0), qg 19 false (ql 22 21), qg 19 false (qL 23 22), qg 19 false (qt 24 .geq 3 20 23), ⟨none, .pick 25 (.tmp 19) (.const (.bool true)) (.tmp 24)⟩, qm 26 25, qg 26 false (qm 27 2), qg 26 false (qj 28 .lss 3 27 0), ⟨none, .pick 29 (.tmp 26) (.const (.bool true)) (.tmp 28)⟩, qm 30 29, qg 30 false (qm 31 2), qg 30 false (qf 32 3 0), qg 30 false (ql 33 32), qg 30 false (qm 34 1), qg 30 false (qi 35 4 33 34), qg 30 false (qf 36 35 3), qg 30 false (ql 37 36), qg 30 false (qL 38 37), qg 30 false (qt 39 .geq 3 31 38), ⟨none, .pick 40 (.tmp 30) (.const (.bool true)) (.tmp 39)⟩]
def Ql9 : List GO := [⟨none, .build 41 [(vi 0), (vi 0)] [(0, (1, (.const (vi 1)))), (1, (1, (.const (vi (-1)))))]⟩, qk 6 (.pointer none), qw 2 7 41]
def Ql8 : List GO := [qV 42 1 3, ⟨none, .call (some 43) 28 [(.tmp 42)]⟩, ⟨none, .build 44 [(.pointer none), vn, (vi 0), vn, vn, vn, vn] [(1, (1, (.tmp 43)))]⟩, qb 45 69 44, qm 9 45]
def Ql7 : List GO := [qm 46 9, qm 47 9, qn 48 47, qf 49 48 1, qf 50 49 0, ql 51 50, qm 52 1, qi 53 4 51 52, qV 54 4 53, qn 55 46, qf 56 55 2, qw 4 56 54]
def Ql6 : List GO := [qm 57 9, qn 58 57, qf 59 58 2, qf 60 59 3, ql 61 60, qm 62 2, qi 63 12 61 62, qV 64 12 63, ⟨none, .alloc 10 77 [(vi 0), vn, vn, (vi 0), (vi 0), (vi 0), vn, vn, (vi 0), vn, vn, vn]⟩, qw 12 10 64]
def Ql5 : List GO := [qm 65 9, qf 66 10 0, ql 67 66, ⟨none, .call (some 68) 81 [(.tmp 67)]⟩, qn 69 65, qf 70 69 0, qs 70 68]
def Qjc : List GO := [qm 71 9, qf 72 10 1, ql 73 72, ⟨none, .call (some 74) 82 [(.tmp 73)]⟩, qn 75 71, qf 76 75 6, qs 76 74]
def Qjb : List GO := [qm 77 9, ⟨none, .build 78 [(vi 0), (vi 0)] []⟩, qm 6 77, qw 2 7 78]
def judge_New_lc : LC := (.seq (.ops Qle) (.seq (.seq (.ops Qld) (.seq (.ops Qlc) (.cond (.tmp 15) (.seq (.draw Qlb Qlg) .ret) .skip))) (.seq (.seq (.ops Qla) (.cond (.tmp 40) (.seq (.ops Ql9) .ret) .skip)) (.seq (.ops Ql8) (.seq (.ops Ql7) (.seq (.ops Ql6) (.seq (.ops Ql5) (.seq (.ops Qjc) (.seq (.ops Qjb) .ret)))))))))
@[reducible] def Q3u : FuncId := 35
theorem Qjd : lowF Try.prog Try.f35 = some judge_New_lc := by kernel_rfl
theorem Qlf {a0 a1 a2 : Value} {w : World} {R : Ending → World → Prop} (h : judge_New_lc.wp Try.prog (retQ Try.prog [.tmp 6, .cell 7 47] R) (Qh [a0, a1, a2]) w) : Calls Try.prog Q3u ⟨[a0, a1, a2]⟩ w R :=
  Q4 Try.func35 Qjd (by kernel_rfl) (by kernel_rfl) h

/- 36 -/
/- 37 -/
def Q9b : List GO := [qb 2 59 0, qb 3 27 1, qk 4 (vi 0)]
def Q9a : List GO := [ql 6 2, qn 7 6, qf 8 7 1, qV 9 1 8, qV 10 8 3, ⟨none, .call (some 11) 12 [(.tmp 9), (.tmp 10)]⟩, qm 5 11]
def Q9d : List (List Nat) := [[],[0],[1],[2],[],[3,4],[5,5,0,1,2,3,4,5]]
def Q99 : List GO := [qm 12 5, qj 13 .neq 3 12 0]
def Q98 : List GO := [qm 14 5, qm 4 14]
def Q97 : List GO := [⟨none, .mkfn 15 85 [(.tmp 2), (.tmp 3)]⟩, ⟨none, .call (some 16) 84 [(.tmp 15)]⟩, qm 4 16]
def judge_State_Ins_lc : LC := (.seq (.ops Q9b) (.seq (.seq (.draw Q9a Q9d) (.seq (.ops Q99) (.cond (.tmp 13) (.seq (.ops Q98) .ret) .skip))) (.seq (.ops Q97) .ret)))
@[reducible] def Q2Q : FuncId := 37
theorem Q86 : lowF Try.prog Try.f37 = some judge_State_Ins_lc := by kernel_rfl
theorem Q9c {a0 a1 : Value} {w : World} {R : Ending → World → Prop} (h : judge_State_Ins_lc.wp Try.prog (retQ Try.prog [.tmp 4] R) (Qh [a0, a1]) w) : Calls Try.prog Q2Q ⟨[a0, a1]⟩ w R :=
  Q4 Try.func37 Q86 (by kernel_rfl) (by kernel_rfl) h

/- 38 -/
def QcO : List GO := [qk 4 (.bool false)]
def QcN : List GO := [qm 5 1, qj 6 .geq 3 5 0, qm 7 6, qg 7 true (qm 8 1), qg 7 true (qm 9 0), qg 7 true (qn 10 9), qg 7 true (qf 11 10 0), qg 7 true (ql 12 11), qg 7 true (qL 13 12), qg 7 true (qt 14 .lss 3 8 13), ⟨none, .pick 15 (.tmp 7) (.tmp 14) (.const (.bool false))⟩, qm 16 15, qg 16 true (qm 17 0), qg 16 true (qn 18 17), qg 16 true (qf 19 18 0), qg 16 true (ql 20 19), qg 16 true (qm 21 1), qg 16 true (qi 22 1 20 21), qg 16 true (ql 23 22), ⟨none, .pick 24 (.tmp 16) (.tmp 23) (.const (.bool false))⟩, qm 4 24]
def held_Held_Has_lc : LC := (.seq (.ops QcO) (.seq (.ops QcN) .ret))
@[reducible] def Q4M : FuncId := 38
theorem Qbr : lowF Try.prog Try.f38 = some held_Held_Has_lc := by kernel_rfl
theorem QcP {a0 a1 : Value} {w : World} {R : Ending → World → Prop} (h : held_Held_Has_lc.wp Try.prog (retQ Try.prog [.tmp 4] R) (Qh [a0, a1]) w) : Calls Try.prog Q4M ⟨[a0, a1]⟩ w R :=
  Q4 Try.func38 Qbr (by kernel_rfl) (by kernel_rfl) h

/- 39 -/
def Qbo : List GO := [qk 2 vn]
def Qbn : List GO := [qk 3 vn]
def Qbm : List GO := [qm 6 0, qn 7 6, qf 8 7 0, ql 9 8, qL 10 9, qk 11 (vi 0)]
def Qbl : List GO := [qt 12 .lss 3 11 10]
def Qbk : List GO := [qm 13 11, qi 14 1 9 11, ql 15 14, qm 4 13, qm 5 15]
def Qbj : List GO := [qm 16 5]
def Qbi : List GO := [qm 17 3, qm 18 4, ⟨none, .buildS 19 3 1 [(vi 0)] [(0, (1, (.tmp 18)))]⟩, ⟨none, .raw ⟨(some 20), (.call ⟨(.builtin .append), #[(.tmp 17), (.tmp 19)], #[25, 25]⟩), 25, "", #[], none⟩⟩, qm 3 20]
def Qbh : List GO := [qj 21 .add 3 11 1, qm 11 21]
def Q4i : LC := (.seq (.ops Qbl) (.seq (.cond (.tmp 12) .skip (.exit 0)) (.seq (.block 1 (.seq (.ops Qbk) (.seq (.ops Qbj) (.cond (.tmp 16) (.ops Qbi) .skip)))) (.ops Qbh))))
def Qbg : List GO := [qm 22 3, qm 2 22]
def held_Held_List_lc : LC := (.seq (.ops Qbo) (.seq (.ops Qbn) (.seq (.seq (.ops Qbm) (.block 0 (.loop Q4i))) (.seq (.ops Qbg) .ret))))
@[reducible] def Q43 : FuncId := 39
theorem Q9u : lowF Try.prog Try.f39 = some held_Held_List_lc := by kernel_rfl
theorem Qbp {a0 : Value} {w : World} {R : Ending → World → Prop} (h : held_Held_List_lc.wp Try.prog (retQ Try.prog [.tmp 2] R) (Qh [a0]) w) : Calls Try.prog Q43 ⟨[a0]⟩ w R :=
  Q4 Try.func39 Q9u (by kernel_rfl) (by kernel_rfl) h

/- 40 -/
def QcL : List GO := [qk 2 (vi 0)]
def QcK : List GO := [qm 3 0, qn 4 3, qf 5 4 0, ql 6 5, qL 7 6, qm 2 7]
def held_Held_Len_lc : LC := (.seq (.ops QcL) (.seq (.ops QcK) .ret))
@[reducible] def Q4L : FuncId := 40
theorem Qbq : lowF Try.prog Try.f40 = some held_Held_Len_lc := by kernel_rfl
theorem QcM {a0 : Value} {w : World} {R : Ending → World → Prop} (h : held_Held_Len_lc.wp Try.prog (retQ Try.prog [.tmp 2] R) (Qh [a0]) w) : Calls Try.prog Q4L ⟨[a0]⟩ w R :=
  Q4 Try.func40 Qbq (by kernel_rfl) (by kernel_rfl) h

/- 43 -/
def Qa6 : List GO := [qk 0 (.bool false)]
def Qa5 : List GO := [⟨none, .call (some 2) 45 []⟩, ⟨none, .alloc 1 24 [vn]⟩, qw 1 1 2]
def Qa4 : List GO := [qf 3 1 0, ql 4 3, ⟨none, .idx 5 4 (.tmp 4) (.const (vi 0))⟩, qf 6 5 3, ql 7 6, ⟨none, .build 8 [(vi 0), (vi 0), (vi 0), (vi 0), (vi 0), (vi 0), vn, vn] [(0, (1, (.const (vi 3))))]⟩, ⟨none, .build 9 [(vi 0), (vi 0), (vi 0), (vi 0), (vi 0), (vi 0), vn, vn] [(0, (1, (.const (vi 1)))), (5, (1, (.const (vi 1))))]⟩, ⟨none, .buildS 10 3 1 [(vi 0)] [(0, (1, (.const (vi 1))))]⟩, ⟨none, .build 11 [(vi 0), (vi 0), (vi 0), (vi 0), (vi 0), (vi 0), vn, vn] [(0, (1, (.const (vi 5)))), (7, (1, (.tmp 10)))]⟩, ⟨none, .build 12 [(vi 0), (vi 0), (vi 0), (vi 0), (vi 0), (vi 0), vn, vn] [(0, (1, (.const (vi 4))))]⟩, ⟨none, .build 13 [(vi 0), (vi 0), (vi 0), (vi 0), (vi 0), (vi 0), vn, vn] [(0, (1, (.const (vi 6)))), (1, (1, (.const (vi 2))))]⟩, ⟨none, .buildS 14 27 5 [(vi 0), (vi 0), (vi 0), (vi 0), (vi 0), (vi 0), vn, vn, (vi 0), (vi 0), (vi 0), (vi 0), (vi 0), (vi 0), vn, vn, (vi 0), (vi 0), (vi 0), (vi 0), (vi 0), (vi 0), vn, vn, (vi 0), (vi 0), (vi 0), (vi 0), (vi 0), (vi 0), vn, vn, (vi 0), (vi 0), (vi 0), (vi 0), (vi 0), (vi 0), vn, vn] [(0, (8, (.tmp 8))), (8, (8, (.tmp 9))), (16, (8, (.tmp 11))), (24, (8, (.tmp 12))), (32, (8, (.tmp 13)))]⟩, ⟨none, .idx 15 12 (.tmp 7) (.const (vi 0))⟩, qf 16 15 2, qs 16 14]
def Qa3 : List GO := [⟨none, .call (some 17) 45 []⟩, ⟨none, .call (some 18) 44 [(.tmp 17)]⟩, ⟨none, .fldv 19 (.tmp 18) 0⟩, qj 20 .eql 3 19 0, qm 21 20, qg 21 true (qV 22 1 1), ⟨some (21, true), .call (some 23) 44 [(.tmp 22)]⟩, ⟨some (21, true), .build 24 [(vi 0), (vi 0)] [(0, (1, (.const (vi 10)))), (1, (1, (.const (vi 4))))]⟩, qg 21 true (qt 25 .eql 47 23 24), ⟨none, .pick 26 (.tmp 21) (.tmp 25) (.const (.bool false))⟩, qm 0 26]
def Law_verifyBegun_lc : LC := (.seq (.ops Qa6) (.seq (.ops Qa5) (.seq (.ops Qa4) (.seq (.ops Qa3) .ret))))
@[reducible] def Q5M : FuncId := 43
theorem Q8q : lowF Try.prog Try.f43 = some Law_verifyBegun_lc := by kernel_rfl
theorem Qa7 {w : World} {R : Ending → World → Prop} (h : Law_verifyBegun_lc.wp Try.prog (retQ Try.prog [.tmp 0] R) (Qh []) w) : Calls Try.prog Q5M ⟨[]⟩ w R :=
  Q4 Try.func43 Q8q (by kernel_rfl) (by kernel_rfl) h

/- 44 -/
def Qe1 : List GO := [qb 1 24 0, ⟨none, .alloc 2 47 [(vi 0), (vi 0)]⟩]
def Qe0 : List GO := [qV 8 1 1, ⟨none, .call (some 9) 25 [(.tmp 8)]⟩, ⟨none, .alloc 3 47 [(vi 0), (vi 0)]⟩, qw 2 3 9]
def QdZ : List GO := [qf 10 3 0, ql 11 10, qj 12 .neq 3 11 0]
def QdY : List GO := [qV 13 2 3, qw 2 2 13]
def QdX : List GO := [qf 14 1 0, ql 15 14, qL 16 15, qk 17 (vi 0)]
def QdW : List GO := [qt 18 .lss 3 17 16]
def QdV : List GO := [qm 19 17, qi 20 4 15 17, qV 21 4 20, ⟨none, .alloc 5 31 [(vi 0), vn, vn, vn]⟩, qm 4 19, qw 4 5 21]
def QdU : List GO := [qf 22 5 3, ql 23 22, qL 24 23, qk 25 (vi 0)]
def QdT : List GO := [qt 26 .lss 3 25 24]
def QdS : List GO := [qm 27 25, qm 6 27]
def Qcy : List GO := [qV 28 1 1, qm 29 4, qm 30 6, ⟨none, .call (some 31) 88 [(.tmp 28), (.tmp 29), (.tmp 30)]⟩, ⟨none, .alloc 7 47 [(vi 0), (vi 0)]⟩, qw 2 7 31]
def Qcx : List GO := [qf 32 7 0, ql 33 32, qj 34 .neq 3 33 0]
def Qcw : List GO := [qV 35 2 7, qw 2 2 35]
def Qcv : List GO := [qj 36 .add 3 25 1, qm 25 36]
def Q58 : LC := (.seq (.ops QdT) (.seq (.cond (.tmp 26) .skip (.exit 2)) (.seq (.block 3 (.seq (.ops QdS) (.seq (.ops Qcy) (.seq (.ops Qcx) (.cond (.tmp 34) (.seq (.ops Qcw) .ret) .skip))))) (.ops Qcv))))
def Qcu : List GO := [qj 37 .add 3 17 1, qm 17 37]
def Q59 : LC := (.seq (.ops QdW) (.seq (.cond (.tmp 18) .skip (.exit 0)) (.seq (.block 1 (.seq (.ops QdV) (.seq (.ops QdU) (.block 2 (.loop Q58))))) (.ops Qcu))))
def Qct : List GO := [⟨none, .build 38 [(vi 0), (vi 0)] []⟩, qw 2 2 38]
def verify_Check_lc : LC := (.seq (.ops Qe1) (.seq (.seq (.ops Qe0) (.seq (.ops QdZ) (.cond (.tmp 12) (.seq (.ops QdY) .ret) .skip))) (.seq (.seq (.ops QdX) (.block 0 (.loop Q59))) (.seq (.ops Qct) .ret))))
@[reducible] def Q2A : FuncId := 44
theorem Qcz : lowF Try.prog Try.f44 = some verify_Check_lc := by kernel_rfl
theorem Qe2 {a0 : Value} {w : World} {R : Ending → World → Prop} (h : verify_Check_lc.wp Try.prog (retQ Try.prog [.cell 2 47] R) (Qh [a0]) w) : Calls Try.prog Q2A ⟨[a0]⟩ w R :=
  Q4 Try.func44 Qcz (by kernel_rfl) (by kernel_rfl) h

/- 80 -/
def Q9i : List GO := [qb 2 59 0, qb 3 35 1, qk 4 (vi 0)]
def Q9h : List GO := [ql 6 2, qn 7 6, qf 8 7 2, qV 9 4 8, qV 10 9 3, ⟨none, .call (some 11) 14 [(.tmp 9), (.tmp 10)]⟩, qm 5 11]
def Q9k : List (List Nat) := [[],[0],[1],[2],[],[3,4],[5,5,0,1,2,3,4,5]]
def Q9g : List GO := [qm 12 5, qj 13 .neq 3 12 0]
def Q9f : List GO := [qm 14 5, qm 4 14]
def Q9e : List GO := [⟨none, .mkfn 15 113 [(.tmp 2), (.tmp 3)]⟩, ⟨none, .call (some 16) 84 [(.tmp 15)]⟩, qm 4 16]
def judge_State_End_lc : LC := (.seq (.ops Q9i) (.seq (.seq (.draw Q9h Q9k) (.seq (.ops Q9g) (.cond (.tmp 13) (.seq (.ops Q9f) .ret) .skip))) (.seq (.ops Q9e) .ret)))
@[reducible] def Q2R : FuncId := 80
theorem Q87 : lowF Try.prog Try.f80 = some judge_State_End_lc := by kernel_rfl
theorem Q9j {a0 a1 : Value} {w : World} {R : Ending → World → Prop} (h : judge_State_End_lc.wp Try.prog (retQ Try.prog [.tmp 4] R) (Qh [a0, a1]) w) : Calls Try.prog Q2R ⟨[a0, a1]⟩ w R :=
  Q4 Try.func80 Q87 (by kernel_rfl) (by kernel_rfl) h

/- 81 -/
def Qnd : List GO := [qk 2 (.pointer none)]
def Qnc : List GO := [⟨none, .build 4 [vn] []⟩, qb 5 129 4, qm 3 5]
def Qnb : List GO := [qm 6 0, ⟨none, .mnx 7 false (.tmp 6) (.const (vi 16))⟩, qk 8 (vi 0)]
def Qna : List GO := [qt 9 .lss 3 8 7]
def Qn9 : List GO := [qm 10 3, qm 11 3, qn 12 11, qf 13 12 0, ql 14 13, ⟨none, .buildS 15 4 1 [(.bool false)] [(0, (1, (.const (.bool true))))]⟩, ⟨none, .raw ⟨(some 16), (.call ⟨(.builtin .append), #[(.tmp 14), (.tmp 15)], #[127, 127]⟩), 127, "", #[], none⟩⟩, qn 17 10, qf 18 17 0, qs 18 16]
def Qn8 : List GO := [qj 19 .add 3 8 1, qm 8 19]
def QeQ : LC := (.seq (.ops Qna) (.seq (.cond (.tmp 9) .skip (.exit 0)) (.seq (.block 1 (.ops Qn9)) (.ops Qn8))))
def Qn7 : List GO := [qm 20 3, qm 2 20]
def held_New_lc : LC := (.seq (.ops Qnd) (.seq (.ops Qnc) (.seq (.seq (.ops Qnb) (.block 0 (.loop QeQ))) (.seq (.ops Qn7) .ret))))
@[reducible] def QoN : FuncId := 81
theorem Qlp : lowF Try.prog Try.f81 = some held_New_lc := by kernel_rfl
theorem Qne {a0 : Value} {w : World} {R : Ending → World → Prop} (h : held_New_lc.wp Try.prog (retQ Try.prog [.tmp 2] R) (Qh [a0]) w) : Calls Try.prog QoN ⟨[a0]⟩ w R :=
  Q4 Try.func81 Qlp (by kernel_rfl) (by kernel_rfl) h

/- 82 -/
def Q2L : List GO := [qk 2 vn]
def Q2K : List GO := [qm 3 0, ⟨none, .bin 4 .eql 28 (.tmp 3) (.const vn)⟩]
def Q2J : List GO := [qk 2 vn]
def Q2I : List GO := [⟨none, .raw ⟨(some 5), (.buildSlice 28 0 #[]), 28, "", #[], none⟩⟩, qm 6 0, ⟨none, .raw ⟨(some 7), (.call ⟨(.builtin .append), #[(.tmp 5), (.tmp 6)], #[28, 28]⟩), 28, "", #[], none⟩⟩, qm 2 7]
def slices_Clone_api_Type_api_Type_lc : LC := (.seq (.ops Q2L) (.seq (.seq (.ops Q2K) (.cond (.tmp 4) (.seq (.ops Q2J) .ret) .skip)) (.seq (.ops Q2I) .ret)))
@[reducible] def Q1b : FuncId := 82
theorem Q2E : lowF Try.prog Try.f82 = some slices_Clone_api_Type_api_Type_lc := by kernel_rfl
theorem Q1K {a0 : Value} {w : World} {R : Ending → World → Prop} (h : slices_Clone_api_Type_api_Type_lc.wp Try.prog (retQ Try.prog [.tmp 2] R) (Qh [a0]) w) : Calls Try.prog Q1b ⟨[a0]⟩ w R :=
  Q4 Try.func82 Q2E (by kernel_rfl) (by kernel_rfl) h

/- 83 -/
/- 84 -/
def QeN : List GO := [⟨none, .alloc 2 3 [(vi 0)]⟩]
def QeM : List GO := [⟨none, .mkfn 3 115 [(.tmp 2)]⟩]
def QeL : List GO := []
def QeK : List GO := [qm 4 0, ⟨none, .callv (some 5) (.tmp 4) []⟩]
def QeJ : List GO := [⟨none, .store1 (.tmp 2) (.const (vi 0))⟩]
def judge_caught_ld : LD := (.seq (.pl (.ops QeN)) (.seq (.sp QeM (.dfr none (.tmp 3)) QeL) (.pl (.seq (.ops QeK) (.seq (.ops QeJ) .ret)))))
@[reducible] def Qch : FuncId := 84
theorem QcI : Qpe Try.prog Try.f84 = some judge_caught_ld := by kernel_rfl
theorem QeO {a0 : Value} {w : World} {R : Ending → World → Prop} (h : judge_caught_ld.wpD Try.prog (retD Try.prog [.cell 2 3] R) [] (Qh [a0]) w) : Calls Try.prog Qch ⟨[a0]⟩ w R :=
  QjL Try.func84 QcI (by kernel_rfl) (by kernel_rfl) h
/- 85 -/
def Q6w : List GO := [ql 2 0, qV 3 8 1, ⟨none, .call (some 4) 86 [(.tmp 2), (.tmp 3)]⟩]
def judge_State_Ins_1_lc : LC := (.ops Q6w)
@[reducible] def Q4d : FuncId := 85
theorem Q5w : lowF Try.prog Try.f85 = some judge_State_Ins_1_lc := by kernel_rfl
theorem Q6x {a0 a1 : Value} {w : World} {R : Ending → World → Prop} (h : judge_State_Ins_1_lc.wp Try.prog (retQ Try.prog [] R) (Qh [a0, a1]) w) : Calls Try.prog Q4d ⟨[a0, a1]⟩ w R :=
  Q4 Try.func85 Q5w (by kernel_rfl) (by kernel_rfl) h

/- 86 -/
def Q8T : List GO := [qb 3 27 1]
def Q8S : List GO := [⟨none, .build 8 [(vi 0), (vi 0), vn] [(0, (1, (.const (vi 1))))]⟩, ⟨none, .alloc 4 65 [(vi 0), (vi 0), vn]⟩, qw 3 4 8]
def Q8R : List GO := [qf 9 3 0, ql 10 9]
def Q8Q : List GO := [qj 12 .eql 3 10 1, qm 11 12]
def Q8P : List GO := [qj 13 .eql 3 10 12, qm 11 13]
def Q8O : List GO := [qm 14 0, qV 15 3 4, ⟨none, .call (some 16) 116 [(.tmp 14), (.tmp 15)]⟩]
def Q8N : List GO := [qj 18 .eql 3 10 2, qm 17 18]
def Q8M : List GO := [qm 19 0, qf 20 3 1, ql 21 20, ⟨none, .call (some 22) 117 [(.tmp 19), (.tmp 21), (.const (vi 1))]⟩]
def Q8L : List GO := [qm 23 0, qf 24 3 2, ql 25 24, ⟨none, .call (some 26) 117 [(.tmp 23), (.tmp 25), (.const (vi 1))]⟩]
def Q8K : List GO := [qm 27 0, qV 28 3 4, ⟨none, .call (some 29) 116 [(.tmp 27), (.tmp 28)]⟩]
def Q7w : List GO := [qj 31 .eql 3 10 3, qm 30 31]
def Q7v : List GO := [qm 32 0, qn 33 32, qf 34 33 0, ql 35 34, ⟨none, .call (some 36) 40 [(.tmp 35)]⟩, qj 37 .eql 3 36 16, qm 38 37, qg 38 false (qm 39 0), qg 38 false (qn 40 39), qg 38 false (qf 41 40 6), qg 38 false (ql 42 41), qg 38 false (qL 43 42), qg 38 false (qj 44 .eql 3 43 80), ⟨none, .pick 45 (.tmp 38) (.const (.bool true)) (.tmp 44)⟩, ⟨none, .call (some 46) 118 [(.tmp 45), (.const (vi 2))]⟩]
def Q7u : List GO := [qm 47 0, qm 48 0, qn 49 48, qf 50 49 0, ql 51 50, ⟨none, .call (some 52) 119 [(.tmp 51)]⟩, ⟨none, .build 53 [(vi 0), (vi 0), vn] [(0, (1, (.const (vi 2)))), (1, (1, (.tmp 52)))]⟩, ⟨none, .call (some 54) 116 [(.tmp 47), (.tmp 53)]⟩]
def Q7t : List GO := [qj 56 .eql 3 10 4, qm 55 56]
def Q7s : List GO := [qm 57 0, qf 58 3 1, ql 59 58, ⟨none, .call (some 60) 120 [(.tmp 57), (.tmp 59), (.const (vi 2))]⟩, ⟨none, .fldv 61 (.tmp 60) 1⟩, qm 5 61]
def Q7r : List GO := [qm 62 5, qm 63 0, qn 64 63, qf 65 64 2, qf 66 65 0, ql 67 66, qt 68 .lss 3 62 67, ⟨none, .call (some 69) 118 [(.tmp 68), (.const (vi 11))]⟩]
def Q7q : List GO := [qm 70 0, qn 71 70, qf 72 71 0, ql 73 72, qm 74 5, ⟨none, .call (some 75) 121 [(.tmp 73), (.tmp 74)]⟩]
def Q7p : List GO := [qj 77 .eql 3 10 5, qm 76 77]
def Q7o : List GO := [qm 78 0, qV 79 8 3, ⟨none, .call (some 80) 122 [(.tmp 78), (.tmp 79)]⟩]
def Q7n : List GO := [qj 82 .eql 3 10 6, qm 81 82]
def Q7m : List GO := [qm 83 0, qm 84 0, qm 85 0, qf 86 3 1, ql 87 86, ⟨none, .call (some 88) 120 [(.tmp 85), (.tmp 87), (.const (vi 3))]⟩, qf 89 3 4, ql 90 89, ⟨none, .call (some 91) 123 [(.tmp 84), (.tmp 88), (.tmp 90)]⟩, ⟨none, .call (some 92) 116 [(.tmp 83), (.tmp 91)]⟩]
def Q7A : List (List Nat) := [[],[],[],[],[3],[2,4],[],[6],[1,5,7,5],[0,8,8]]
def Q7l : List GO := [qj 94 .eql 3 10 7, qm 93 94]
def Q7k : List GO := [qm 95 0, qm 96 0, qf 97 3 1, ql 98 97, ⟨none, .call (some 99) 120 [(.tmp 96), (.tmp 98), (.const (vi 3))]⟩, qf 100 3 4, ql 101 100, ⟨none, .call (some 102) 123 [(.tmp 95), (.tmp 99), (.tmp 101)]⟩, ⟨none, .alloc 6 65 [(vi 0), (vi 0), vn]⟩, qw 3 6 102]
def Q7z : List (List Nat) := [[],[],[],[2],[1,3],[],[5],[0,4,6,4],[],[8,7,7,0,1,2,3,4,5,6,7,8]]
def Q7j : List GO := [qV 103 3 6, qm 104 0, qf 105 3 2, ql 106 105, ⟨none, .call (some 107) 124 [(.tmp 104), (.tmp 106)]⟩, ⟨none, .call (some 108) 69 [(.tmp 103), (.tmp 107)]⟩, ⟨none, .un 109 .not (.tmp 108)⟩, ⟨none, .call (some 110) 118 [(.tmp 109), (.const (vi 9))]⟩]
def Q7y : List (List Nat) := [[],[],[],[2],[1,3],[0,4,4],[5],[6,5]]
def Q7i : List GO := [qj 112 .eql 3 10 8, qm 111 112]
def Q7h : List GO := [qm 113 0, qf 114 3 1, ql 115 114, ⟨none, .call (some 116) 120 [(.tmp 113), (.tmp 115), (.const (vi 2))]⟩, ⟨none, .fldv 117 (.tmp 116) 1⟩, qm 7 117]
def Q7g : List GO := [qm 118 0, qf 119 3 2, ql 120 119, ⟨none, .call (some 121) 117 [(.tmp 118), (.tmp 120), (.const (vi 1))]⟩]
def Q7f : List GO := [qm 122 0, qm 123 7, ⟨none, .build 124 [(vi 0), (vi 0), vn] [(0, (1, (.const (vi 4)))), (1, (1, (.tmp 123)))]⟩, ⟨none, .call (some 125) 116 [(.tmp 122), (.tmp 124)]⟩]
def Q7e : List GO := [qj 127 .eql 3 10 9, qm 126 127]
def Q7d : List GO := [qm 128 0, qf 129 3 1, ql 130 129, ⟨none, .call (some 131) 120 [(.tmp 128), (.tmp 130), (.const (vi 4))]⟩]
def Q7c : List GO := [qm 132 0, qf 133 3 2, ql 134 133, ⟨none, .call (some 135) 117 [(.tmp 132), (.tmp 134), (.const (vi 1))]⟩]
def Q7b : List GO := [qm 136 0, qV 137 3 4, ⟨none, .call (some 138) 116 [(.tmp 136), (.tmp 137)]⟩]
def Q7a : List GO := [qj 140 .eql 3 10 10, qm 139 140]
def Q79 : List GO := [qm 141 0, qf 142 3 1, ql 143 142, ⟨none, .call (some 144) 120 [(.tmp 141), (.tmp 143), (.const (vi 4))]⟩]
def Q78 : List GO := [qm 145 0, qf 146 3 2, ql 147 146, ⟨none, .call (some 148) 117 [(.tmp 145), (.tmp 147), (.const (vi 1))]⟩]
def Q77 : List GO := [qm 149 0, qf 150 3 3, ql 151 150, ⟨none, .call (some 152) 117 [(.tmp 149), (.tmp 151), (.const (vi 1))]⟩]
def Q76 : List GO := [qj 154 .eql 3 10 11, qm 153 154]
def Q75 : List GO := [qm 155 0, qf 156 3 1, ql 157 156, ⟨none, .call (some 158) 120 [(.tmp 155), (.tmp 157), (.const (vi 4))]⟩]
def Q74 : List GO := [qm 159 0, qV 160 3 4, ⟨none, .call (some 161) 116 [(.tmp 159), (.tmp 160)]⟩]
def Q73 : List GO := [qj 163 .eql 3 10 13, qm 162 163]
def Q72 : List GO := [qm 164 0, qf 165 3 1, ql 166 165, ⟨none, .call (some 167) 117 [(.tmp 164), (.tmp 166), (.const (vi 1))]⟩]
def Q71 : List GO := [qj 169 .eql 3 10 14, qm 168 169]
def Q70 : List GO := [qm 170 0, qV 171 8 3, ⟨none, .call (some 172) 125 [(.tmp 170), (.tmp 171)]⟩]
def judge_State_ins_lc : LC := (.seq (.ops Q8T) (.seq (.ops Q8S) (.seq (.ops Q8R) (.block 0 (.seq (.seq (.ops Q8Q) (.cond (.tmp 11) .skip (.ops Q8P))) (.cond (.tmp 11) (.ops Q8O) (.seq (.ops Q8N) (.cond (.tmp 17) (.seq (.ops Q8M) (.seq (.ops Q8L) (.ops Q8K))) (.seq (.ops Q7w) (.cond (.tmp 30) (.seq (.ops Q7v) (.ops Q7u)) (.seq (.ops Q7t) (.cond (.tmp 55) (.seq (.ops Q7s) (.seq (.ops Q7r) (.ops Q7q))) (.seq (.ops Q7p) (.cond (.tmp 76) (.ops Q7o) (.seq (.ops Q7n) (.cond (.tmp 81) (.draw Q7m Q7A) (.seq (.ops Q7l) (.cond (.tmp 93) (.seq (.draw Q7k Q7z) (.draw Q7j Q7y)) (.seq (.ops Q7i) (.cond (.tmp 111) (.seq (.ops Q7h) (.seq (.ops Q7g) (.ops Q7f))) (.seq (.ops Q7e) (.cond (.tmp 126) (.seq (.ops Q7d) (.seq (.ops Q7c) (.ops Q7b))) (.seq (.ops Q7a) (.cond (.tmp 139) (.seq (.ops Q79) (.seq (.ops Q78) (.ops Q77))) (.seq (.ops Q76) (.cond (.tmp 153) (.seq (.ops Q75) (.ops Q74)) (.seq (.ops Q73) (.cond (.tmp 162) (.ops Q72) (.seq (.ops Q71) (.cond (.tmp 168) (.ops Q70) .skip))))))))))))))))))))))))))))))
@[reducible] def Qd : FuncId := 86
theorem Q7x : lowF Try.prog Try.f86 = some judge_State_ins_lc := by kernel_rfl
theorem Q8U {a0 a1 : Value} {w : World} {R : Ending → World → Prop} (h : judge_State_ins_lc.wp Try.prog (retQ Try.prog [] R) (Qh [a0, a1]) w) : Calls Try.prog Qd ⟨[a0, a1]⟩ w R :=
  Q4 Try.func86 Q7x (by kernel_rfl) (by kernel_rfl) h

/- 88 -/
def QdQ : List GO := [qb 3 24 0, ⟨none, .alloc 6 47 [(vi 0), (vi 0)]⟩]
def QdP : List GO := [qV 15 1 3, qm 16 1, qm 17 2, ⟨none, .call (some 18) 35 [(.tmp 15), (.tmp 16), (.tmp 17)]⟩, qm 14 18, qx 19 14 0, qx 20 14 1, ⟨none, .alloc 8 47 [(vi 0), (vi 0)]⟩, qm 7 19, qw 2 8 20]
def QdO : List GO := [qf 21 3 0, ql 22 21, qm 23 1, qi 24 4 22 23, qf 25 24 3, ql 26 25, qm 27 2, qi 28 12 26 27, qV 29 12 28, ⟨none, .alloc 9 77 [(vi 0), vn, vn, (vi 0), (vi 0), (vi 0), vn, vn, (vi 0), vn, vn, vn]⟩, qw 12 9 29]
def QdN : List GO := [qf 30 9 2, ql 31 30, qL 32 31, qk 33 (vi 0)]
def QdM : List GO := [qt 34 .lss 3 33 32]
def QdL : List GO := [qm 35 33, qi 36 8 31 33, qV 37 8 36, ⟨none, .alloc 11 27 [(vi 0), (vi 0), (vi 0), (vi 0), (vi 0), (vi 0), vn, vn]⟩, qm 10 35, qw 8 11 37]
def QdK : List GO := [qm 38 7, qV 39 8 11, ⟨none, .call (some 40) 37 [(.tmp 38), (.tmp 39)]⟩, qm 12 40]
def QdJ : List GO := [qm 41 12, qj 42 .neq 3 41 0]
def QdI : List GO := [qm 43 12, qm 44 1, qm 45 2, qm 46 10, ⟨none, .call (some 47) 22 [(.tmp 44), (.tmp 45), (.tmp 46)]⟩, ⟨none, .build 48 [(vi 0), (vi 0)] [(0, (1, (.tmp 43))), (1, (1, (.tmp 47)))]⟩, qw 2 6 48]
def QdH : List GO := [qj 49 .add 3 33 1, qm 33 49]
def Q57 : LC := (.seq (.ops QdM) (.seq (.cond (.tmp 34) .skip (.exit 0)) (.seq (.block 1 (.seq (.ops QdL) (.seq (.ops QdK) (.seq (.ops QdJ) (.cond (.tmp 42) (.seq (.ops QdI) .ret) .skip))))) (.ops QdH))))
def Qcr : List GO := [qm 50 7, qf 51 9 3, qV 52 9 51, ⟨none, .call (some 53) 80 [(.tmp 50), (.tmp 52)]⟩, qm 13 53]
def Qcq : List GO := [qm 54 13, qj 55 .neq 3 54 0]
def Qcp : List GO := [qm 56 13, qm 57 1, qm 58 2, ⟨none, .call (some 59) 20 [(.tmp 57), (.tmp 58)]⟩, ⟨none, .build 60 [(vi 0), (vi 0)] [(0, (1, (.tmp 56))), (1, (1, (.tmp 59)))]⟩, qw 2 6 60]
def Qco : List GO := [⟨none, .build 61 [(vi 0), (vi 0)] []⟩, qw 2 6 61]
def verify_block_lc : LC := (.seq (.ops QdQ) (.seq (.ops QdP) (.seq (.ops QdO) (.seq (.seq (.ops QdN) (.block 0 (.loop Q57))) (.seq (.seq (.ops Qcr) (.seq (.ops Qcq) (.cond (.tmp 55) (.seq (.ops Qcp) .ret) .skip))) (.seq (.ops Qco) .ret))))))
@[reducible] def Q2z : FuncId := 88
theorem Qcs : lowF Try.prog Try.f88 = some verify_block_lc := by kernel_rfl
theorem QdR {a0 a1 a2 : Value} {w : World} {R : Ending → World → Prop} (h : verify_block_lc.wp Try.prog (retQ Try.prog [.cell 6 47] R) (Qh [a0, a1, a2]) w) : Calls Try.prog Q2z ⟨[a0, a1, a2]⟩ w R :=
  Q4 Try.func88 Qcs (by kernel_rfl) (by kernel_rfl) h

/- 113 -/
def Q6y : List GO := [ql 2 0, qV 3 9 1, ⟨none, .call (some 4) 114 [(.tmp 2), (.tmp 3)]⟩]
def judge_State_End_1_lc : LC := (.ops Q6y)
@[reducible] def Q4e : FuncId := 113
theorem Q5x : lowF Try.prog Try.f113 = some judge_State_End_1_lc := by kernel_rfl
theorem Q6z {a0 a1 : Value} {w : World} {R : Ending → World → Prop} (h : judge_State_End_1_lc.wp Try.prog (retQ Try.prog [] R) (Qh [a0, a1]) w) : Calls Try.prog Q4e ⟨[a0, a1]⟩ w R :=
  Q4 Try.func113 Q5x (by kernel_rfl) (by kernel_rfl) h

/- 114 -/
def Q94 : List GO := [qb 3 35 1]
def Q93 : List GO := [qf 6 3 0, ql 7 6]
def Q92 : List GO := [qj 9 .eql 3 7 1, qm 8 9]
def Q91 : List GO := [qm 10 0, qf 11 3 2, qV 12 3 11, ⟨none, .call (some 13) 137 [(.tmp 10), (.tmp 12)]⟩]
def Q90 : List GO := [qj 15 .eql 3 7 2, qm 14 15]
def Q8Z : List GO := [qm 16 0, qf 17 3 1, ql 18 17, ⟨none, .call (some 19) 117 [(.tmp 16), (.tmp 18), (.const (vi 1))]⟩]
def Q8Y : List GO := [qm 20 0, qf 21 3 2, qV 22 3 21, ⟨none, .call (some 23) 137 [(.tmp 20), (.tmp 22)]⟩]
def Q8X : List GO := [qm 24 0, qf 25 3 5, qV 26 3 25, ⟨none, .call (some 27) 137 [(.tmp 24), (.tmp 26)]⟩]
def Q8W : List GO := [qj 29 .eql 3 7 3, qm 28 29]
def Q8V : List GO := [qk 4 vn]
def Q7H : List GO := [qm 30 0, qn 31 30, qf 32 31 2, qf 33 32 0, ql 34 33, qk 35 (vi 0)]
def Q7G : List GO := [qt 36 .lss 3 35 34]
def Q7F : List GO := [qm 37 35, qm 5 37]
def Q7E : List GO := [qm 38 4, qm 39 5, ⟨none, .buildS 40 3 1 [(vi 0)] [(0, (1, (.tmp 39)))]⟩, ⟨none, .raw ⟨(some 41), (.call ⟨(.builtin .append), #[(.tmp 38), (.tmp 40)], #[25, 25]⟩), 25, "", #[], none⟩⟩, qm 4 41]
def Q7D : List GO := [qj 42 .add 3 35 1, qm 35 42]
def Q3r : LC := (.seq (.ops Q7G) (.seq (.cond (.tmp 36) .skip (.exit 1)) (.seq (.block 2 (.seq (.ops Q7F) (.ops Q7E))) (.ops Q7D))))
def Q7C : List GO := [qm 43 0, qf 44 3 8, ql 45 44, qm 46 0, qn 47 46, qf 48 47 2, qf 49 48 2, ql 50 49, qm 51 4, ⟨none, .call (some 52) 138 [(.tmp 43), (.tmp 45), (.tmp 50), (.tmp 51)]⟩]
def Q7K : List (List Nat) := [[],[],[1],[],[3],[4],[5],[6],[],[0,2,7,8]]
def Q7B : List GO := [qm 53 0, qn 54 53, qf 55 54 0, ql 56 55, ⟨none, .call (some 57) 39 [(.tmp 56)]⟩, qL 58 57, qm 59 0, qn 60 59, qf 61 60 2, qf 62 61 0, ql 63 62, qt 64 .gtr 3 58 63, ⟨none, .call (some 65) 118 [(.tmp 64), (.const (vi 12))]⟩]
def Q7J : List (List Nat) := [[],[0],[1],[2],[3],[4],[],[6],[7],[8],[9],[5,10],[11,4]]
def judge_State_end_lc : LC := (.seq (.ops Q94) (.seq (.ops Q93) (.block 0 (.seq (.ops Q92) (.cond (.tmp 8) (.ops Q91) (.seq (.ops Q90) (.cond (.tmp 14) (.seq (.ops Q8Z) (.seq (.ops Q8Y) (.ops Q8X))) (.seq (.ops Q8W) (.cond (.tmp 28) (.seq (.ops Q8V) (.seq (.seq (.ops Q7H) (.block 1 (.loop Q3r))) (.seq (.draw Q7C Q7K) (.draw Q7B Q7J)))) .skip)))))))))
@[reducible] def Q1c : FuncId := 114
theorem Q7I : lowF Try.prog Try.f114 = some judge_State_end_lc := by kernel_rfl
theorem Q95 {a0 a1 : Value} {w : World} {R : Ending → World → Prop} (h : judge_State_end_lc.wp Try.prog (retQ Try.prog [] R) (Qh [a0, a1]) w) : Calls Try.prog Q1c ⟨[a0, a1]⟩ w R :=
  Q4 Try.func114 Q7I (by kernel_rfl) (by kernel_rfl) h

/- 115 -/
def Qaw : List GO := []
def Qav : List GO := [qm 1 4]
def Qau : List GO := [qm 5 1, ⟨none, .bin 6 .neq 20 (.tmp 5) (.const .nilIface)⟩]
def Qat : List GO := [qm 8 1, ⟨none, .raw ⟨(some 9), (.typeAssert (.tmp 8) 20 145 true), 146, "", #[], none⟩⟩, qm 7 9, qx 10 7 0, qx 11 7 1, qm 2 10, qm 3 11]
def Qas : List GO := [qm 12 3, ⟨none, .un 13 .not (.tmp 12)⟩]
def Qar : List GO := [qm 14 1, ⟨none, .raw ⟨none, (.panic (.tmp 14)), 0, "", #[], none⟩⟩]
def Qaq : List GO := [qm 15 2, qs 0 15]
def judge_caught_1_ld : LD := (.seq (.sp Qaw (.rcv (some 4)) Qav) (.pl (.seq (.ops Qau) (.cond (.tmp 6) (.seq (.ops Qat) (.seq (.seq (.ops Qas) (.cond (.tmp 13) (.ops Qar) .skip)) (.ops Qaq))) .skip))))
@[reducible] def Q40 : FuncId := 115
theorem Q8C : Qpe Try.prog Try.f115 = some judge_caught_1_ld := by kernel_rfl
theorem Q3I {a0 : Value} {u : FrameMode} {w : World} {R : Ending → FrameMode → World → Prop} (h : judge_caught_1_ld.wpR Try.prog (retR Try.prog [] R) u (Qh [a0]) w) : CallsD Try.prog Q40 ⟨[a0]⟩ u w R :=
  Qh9 Try.func115 Q8C (by kernel_rfl) (by kernel_rfl) h

/- 116 -/
def Q8H : List GO := [qb 3 65 1]
def Q8G : List GO := [qm 4 0, qn 5 4, qf 6 5 6, ql 7 6, qL 8 7, qj 9 .eql 3 8 80, ⟨none, .call (some 10) 118 [(.tmp 9), (.const (vi 2))]⟩]
def Q8F : List GO := [qm 11 0, qn 12 11, qf 13 12 6, ql 14 13, qV 15 3 3, qL 16 14, ⟨none, .buildS 17 65 1 [(vi 0), (vi 0), vn] [(0, (3, (.const (.agg #[(vi 0), (vi 0), vn]))))]⟩, ⟨none, .raw ⟨(some 18), (.call ⟨(.builtin .append), #[(.tmp 14), (.tmp 17)], #[28, 28]⟩), 28, "", #[], none⟩⟩, qi 19 3 18 16, qw 3 19 15, qn 20 11, qf 21 20 6, qs 21 18]
def Q8J : List (List Nat) := [[],[0],[1],[2],[],[3],[],[3,6,0,1,2,3,4,5,6],[7,5,0,1,2,3,4,5,6,7],[8,4,7,0,1,2,3,4,5,6,7],[0,0,1,2,3,4,5,6,7],[10,0,1,2,3,4,5,6,7],[11,7,7,0,1,2,3,4,5,6,7]]
def judge_State_put_lc : LC := (.seq (.ops Q8H) (.seq (.ops Q8G) (.draw Q8F Q8J)))
@[reducible] def Q5u : FuncId := 116
theorem Q6U : lowF Try.prog Try.f116 = some judge_State_put_lc := by kernel_rfl
theorem Q8I {a0 a1 : Value} {w : World} {R : Ending → World → Prop} (h : judge_State_put_lc.wp Try.prog (retQ Try.prog [] R) (Qh [a0, a1]) w) : Calls Try.prog Q5u ⟨[a0, a1]⟩ w R :=
  Q4 Try.func116 Q6U (by kernel_rfl) (by kernel_rfl) h

/- 117 -/
def Q6Y : List GO := [⟨none, .alloc 6 65 [(vi 0), (vi 0), vn]⟩]
def Q6X : List GO := [qm 8 0, qm 9 1, ⟨none, .call (some 10) 124 [(.tmp 8), (.tmp 9)]⟩, ⟨none, .alloc 7 65 [(vi 0), (vi 0), vn]⟩, qw 3 7 10]
def Q6W : List GO := [qf 11 7 0, ql 12 11, qm 13 2, qt 14 .neq 3 12 13, ⟨none, .call (some 15) 118 [(.tmp 14), (.const (vi 9))]⟩]
def Q6V : List GO := [qV 16 3 7, qw 3 6 16]
def judge_State_kind_lc : LC := (.seq (.ops Q6Y) (.seq (.ops Q6X) (.seq (.ops Q6W) (.seq (.ops Q6V) .ret))))
@[reducible] def Q4U : FuncId := 117
theorem Q6h : lowF Try.prog Try.f117 = some judge_State_kind_lc := by kernel_rfl
theorem Q6Z {a0 a1 a2 : Value} {w : World} {R : Ending → World → Prop} (h : judge_State_kind_lc.wp Try.prog (retQ Try.prog [.cell 6 65] R) (Qh [a0, a1, a2]) w) : Calls Try.prog Q4U ⟨[a0, a1, a2]⟩ w R :=
  Q4 Try.func117 Q6h (by kernel_rfl) (by kernel_rfl) h

/- 118 -/
def Qja : List GO := [qm 4 0]
def Qj9 : List GO := [qm 5 1, ⟨none, .mki 6 145 (.tmp 5)⟩, ⟨none, .raw ⟨none, (.panic (.tmp 6)), 0, "", #[], none⟩⟩]
def judge_fail_lc : LC := (.seq (.ops Qja) (.cond (.tmp 4) (.ops Qj9) .skip))
@[reducible] def Q5R : FuncId := 118
theorem QgQ : lowF Try.prog Try.f118 = some judge_fail_lc := by kernel_rfl
theorem Q8B {a0 a1 : Value} {w : World} {R : Ending → World → Prop} (h : judge_fail_lc.wp Try.prog (retQ Try.prog [] R) (Qh [a0, a1]) w) : Calls Try.prog Q5R ⟨[a0, a1]⟩ w R :=
  Q4 Try.func118 QgQ (by kernel_rfl) (by kernel_rfl) h

/- 119 -/
def Qbe : List GO := [qk 2 (vi 0)]
def Qbd : List GO := [qm 3 0, qn 4 3, qf 5 4 0, ql 6 5, qL 7 6, qj 8 .eql 3 7 16]
def Qbc : List GO := [qk 2 (vi (-1))]
def Qbb : List GO := [qm 9 0, qm 10 0, qn 11 10, qf 12 11 0, ql 13 12, ⟨none, .buildS 14 4 1 [(.bool false)] [(0, (1, (.const (.bool true))))]⟩, ⟨none, .raw ⟨(some 15), (.call ⟨(.builtin .append), #[(.tmp 13), (.tmp 14)], #[127, 127]⟩), 127, "", #[], none⟩⟩, qn 16 9, qf 17 16 0, qs 17 15]
def Qba : List GO := [qm 18 0, qn 19 18, qf 20 19 0, ql 21 20, qL 22 21, qj 23 .sub 3 22 1, qm 2 23]
def held_Held_Open_lc : LC := (.seq (.ops Qbe) (.seq (.seq (.ops Qbd) (.cond (.tmp 8) (.seq (.ops Qbc) .ret) .skip)) (.seq (.ops Qbb) (.seq (.ops Qba) .ret))))
@[reducible] def Q42 : FuncId := 119
theorem Q9t : lowF Try.prog Try.f119 = some held_Held_Open_lc := by kernel_rfl
theorem Qbf {a0 : Value} {w : World} {R : Ending → World → Prop} (h : held_Held_Open_lc.wp Try.prog (retQ Try.prog [.tmp 2] R) (Qh [a0]) w) : Calls Try.prog Q42 ⟨[a0]⟩ w R :=
  Q4 Try.func119 Q9t (by kernel_rfl) (by kernel_rfl) h

/- 120 -/
def QaN : List GO := [⟨none, .alloc 6 65 [(vi 0), (vi 0), vn]⟩]
def QaM : List GO := [qm 8 0, qm 9 1, qm 10 2, ⟨none, .call (some 11) 117 [(.tmp 8), (.tmp 9), (.tmp 10)]⟩, ⟨none, .alloc 7 65 [(vi 0), (vi 0), vn]⟩, qw 3 7 11]
def QaL : List GO := [qm 12 0, qn 13 12, qf 14 13 0, ql 15 14, qf 16 7 1, ql 17 16, ⟨none, .call (some 18) 38 [(.tmp 15), (.tmp 17)]⟩, ⟨none, .un 19 .not (.tmp 18)⟩, ⟨none, .call (some 20) 118 [(.tmp 19), (.const (vi 10))]⟩]
def QaP : List (List Nat) := [[],[0],[1],[2],[],[4],[3,5],[6],[7,6]]
def QaK : List GO := [qV 21 3 7, qw 3 6 21]
def judge_State_at_lc : LC := (.seq (.ops QaN) (.seq (.ops QaM) (.seq (.draw QaL QaP) (.seq (.ops QaK) .ret))))
@[reducible] def Q6L : FuncId := 120
theorem Q96 : lowF Try.prog Try.f120 = some judge_State_at_lc := by kernel_rfl
theorem QaO {a0 a1 a2 : Value} {w : World} {R : Ending → World → Prop} (h : judge_State_at_lc.wp Try.prog (retQ Try.prog [.cell 6 65] R) (Qh [a0, a1, a2]) w) : Calls Try.prog Q6L ⟨[a0, a1, a2]⟩ w R :=
  Q4 Try.func120 Q96 (by kernel_rfl) (by kernel_rfl) h

/- 121 -/
def QaX : List GO := [qk 4 (.bool false)]
def QaW : List GO := [qm 6 0, qm 7 1, ⟨none, .call (some 8) 38 [(.tmp 6), (.tmp 7)]⟩, qm 5 8]
def QaV : List GO := [qm 9 5]
def QaU : List GO := [qm 10 0, qn 11 10, qf 12 11 0, ql 13 12, qm 14 1, qi 15 1 13 14, ⟨none, .store1 (.tmp 15) (.const (.bool false))⟩]
def QaT : List GO := [qm 16 5, qm 4 16]
def held_Held_Shut_lc : LC := (.seq (.ops QaX) (.seq (.ops QaW) (.seq (.seq (.ops QaV) (.cond (.tmp 9) (.ops QaU) .skip)) (.seq (.ops QaT) .ret))))
@[reducible] def Q41 : FuncId := 121
theorem Q9n : lowF Try.prog Try.f121 = some held_Held_Shut_lc := by kernel_rfl
theorem QaY {a0 a1 : Value} {w : World} {R : Ending → World → Prop} (h : held_Held_Shut_lc.wp Try.prog (retQ Try.prog [.tmp 4] R) (Qh [a0, a1]) w) : Calls Try.prog Q41 ⟨[a0, a1]⟩ w R :=
  Q4 Try.func121 Q9n (by kernel_rfl) (by kernel_rfl) h

/- 122 -/
def Q6d : List GO := [qb 3 27 1]
def Q6c : List GO := [qm 7 0, qf 8 3 1, ql 9 8, ⟨none, .call (some 10) 120 [(.tmp 7), (.tmp 9), (.const (vi 2))]⟩, ⟨none, .fldv 11 (.tmp 10) 1⟩, ⟨none, .build 12 [(vi 0), (vi 0), vn] [(0, (1, (.const (vi 3)))), (1, (1, (.tmp 11)))]⟩, ⟨none, .alloc 4 65 [(vi 0), (vi 0), vn]⟩, qw 3 4 12]
def Q6b : List GO := [qf 13 3 7, ql 14 13, qL 15 14, qk 16 (vi 0)]
def Q6a : List GO := [qt 17 .lss 3 16 15]
def Q69 : List GO := [qi 18 1 14 16, ql 19 18, qm 6 19]
def Q68 : List GO := [qf 20 4 2, ql 21 20, qm 22 0, qm 23 6, ⟨none, .call (some 24) 124 [(.tmp 22), (.tmp 23)]⟩, ⟨none, .buildS 25 65 1 [(vi 0), (vi 0), vn] [(0, (3, (.tmp 24)))]⟩, ⟨none, .raw ⟨(some 26), (.call ⟨(.builtin .append), #[(.tmp 21), (.tmp 25)], #[28, 28]⟩), 28, "", #[], none⟩⟩, qf 27 4 2, qs 27 26]
def Q6g : List (List Nat) := [[],[0],[],[],[2,3],[4],[1,5,4],[0,1,2,3,4,5,6],[7,6,6,0,1,2,3,4,5,6]]
def Q67 : List GO := [qj 28 .add 3 16 1, qm 16 28]
def Q39 : LC := (.seq (.ops Q6a) (.seq (.cond (.tmp 17) .skip (.exit 0)) (.seq (.block 1 (.seq (.ops Q69) (.draw Q68 Q6g))) (.ops Q67))))
def Q66 : List GO := [qV 29 3 4, qm 30 0, qn 31 30, qf 32 31 0, ql 33 32, ⟨none, .call (some 34) 40 [(.tmp 33)]⟩, ⟨none, .call (some 35) 94 [(.tmp 29), (.tmp 34)]⟩, qj 36 .neq 3 35 0, ⟨none, .call (some 37) 118 [(.tmp 36), (.const (vi 19))]⟩]
def Q6f : List (List Nat) := [[],[],[1],[2],[3],[4],[0,5,5],[6],[7,6]]
def Q65 : List GO := [qm 38 0, qV 39 3 4, ⟨none, .call (some 40) 116 [(.tmp 38), (.tmp 39)]⟩]
def judge_State_tuple_lc : LC := (.seq (.ops Q6d) (.seq (.ops Q6c) (.seq (.seq (.ops Q6b) (.block 0 (.loop Q39))) (.seq (.draw Q66 Q6f) (.ops Q65)))))
@[reducible] def Q4a : FuncId := 122
theorem Q5t : lowF Try.prog Try.f122 = some judge_State_tuple_lc := by kernel_rfl
theorem Q6e {a0 a1 : Value} {w : World} {R : Ending → World → Prop} (h : judge_State_tuple_lc.wp Try.prog (retQ Try.prog [] R) (Qh [a0, a1]) w) : Calls Try.prog Q4a ⟨[a0, a1]⟩ w R :=
  Q4 Try.func122 Q5t (by kernel_rfl) (by kernel_rfl) h

/- 123 -/
def Q6k : List GO := [qb 4 65 1, ⟨none, .alloc 6 65 [(vi 0), (vi 0), vn]⟩]
def Q6j : List GO := [qm 7 2, qf 8 4 2, ql 9 8, qL 10 9, qt 11 .geq 3 7 10, ⟨none, .call (some 12) 118 [(.tmp 11), (.const (vi 9))]⟩]
def Q6i : List GO := [qf 13 4 2, ql 14 13, qm 15 2, qi 16 3 14 15, qV 17 3 16, qw 3 6 17]
def judge_State_field_lc : LC := (.seq (.ops Q6k) (.seq (.ops Q6j) (.seq (.ops Q6i) .ret)))
@[reducible] def Q4c : FuncId := 123
theorem Q5v : lowF Try.prog Try.f123 = some judge_State_field_lc := by kernel_rfl
theorem Q6l {a0 a1 a2 : Value} {w : World} {R : Ending → World → Prop} (h : judge_State_field_lc.wp Try.prog (retQ Try.prog [.cell 6 65] R) (Qh [a0, a1, a2]) w) : Calls Try.prog Q4c ⟨[a0, a1, a2]⟩ w R :=
  Q4 Try.func123 Q5v (by kernel_rfl) (by kernel_rfl) h

/- 124 -/
def Q63 : List GO := [⟨none, .alloc 4 65 [(vi 0), (vi 0), vn]⟩]
def Q62 : List GO := [qm 5 1, qj 6 .lss 3 5 0, qm 7 6, qg 7 false (qm 8 1), qg 7 false (qm 9 0), qg 7 false (qn 10 9), qg 7 false (qf 11 10 6), qg 7 false (ql 12 11), qg 7 false (qL 13 12), qg 7 false (qt 14 .geq 3 8 13), ⟨none, .pick 15 (.tmp 7) (.const (.bool true)) (.tmp 14)⟩, ⟨none, .call (some 16) 118 [(.tmp 15), (.const (vi 1))]⟩]
def Q61 : List GO := [qm 17 0, qn 18 17, qf 19 18 6, ql 20 19, qm 21 1, qi 22 3 20 21, qV 23 3 22, qw 3 4 23]
def judge_State_value_lc : LC := (.seq (.ops Q63) (.seq (.ops Q62) (.seq (.ops Q61) .ret)))
@[reducible] def Q49 : FuncId := 124
theorem Q5s : lowF Try.prog Try.f124 = some judge_State_value_lc := by kernel_rfl
theorem Q64 {a0 a1 : Value} {w : World} {R : Ending → World → Prop} (h : judge_State_value_lc.wp Try.prog (retQ Try.prog [.cell 4 65] R) (Qh [a0, a1]) w) : Calls Try.prog Q49 ⟨[a0, a1]⟩ w R :=
  Q4 Try.func124 Q5s (by kernel_rfl) (by kernel_rfl) h

/- 125 -/
def Q7U : List GO := [qb 3 27 1]
def Q7T : List GO := [qm 11 0, qn 12 11, qf 13 12 1, qf 14 13 0, ql 15 14, qf 16 3 4, ql 17 16, qi 18 4 15 17, qV 19 4 18, ⟨none, .alloc 4 31 [(vi 0), vn, vn, vn]⟩, qw 4 4 19]
def Q7W : List (List Nat) := [[],[0],[1],[2],[3],[],[5],[4,6],[7],[],[9,8,0,1,2,3,4,5,6,7,8,9]]
def Q7S : List GO := [qf 20 3 6, ql 21 20, qL 22 21, qf 23 4 0, ql 24 23, qt 25 .neq 3 22 24, ⟨none, .call (some 26) 118 [(.tmp 25), (.const (vi 2))]⟩]
def Q7R : List GO := [qf 27 3 6, ql 28 27, qL 29 28, qk 30 (vi 0)]
def Q7Q : List GO := [qt 31 .lss 3 30 29]
def Q7P : List GO := [qm 32 30, qi 33 1 28 30, ql 34 33, qm 5 32, qm 6 34]
def Q7O : List GO := [qm 35 0, qn 36 35, qf 37 36 0, ql 38 37, qm 39 6, ⟨none, .call (some 40) 38 [(.tmp 38), (.tmp 39)]⟩, ⟨none, .un 41 .not (.tmp 40)⟩, ⟨none, .call (some 42) 118 [(.tmp 41), (.const (vi 10))]⟩]
def Q7N : List GO := [qf 43 3 6, ql 44 43, qm 45 5, ⟨none, .sub 46 1 (.tmp 44) none (some (.tmp 45)) none⟩, qm 47 6, ⟨none, .call (some 48) 139 [(.tmp 46), (.tmp 47)]⟩, ⟨none, .call (some 49) 118 [(.tmp 48), (.const (vi 13))]⟩]
def Q7M : List GO := [qj 50 .add 3 30 1, qm 30 50]
def Q3s : LC := (.seq (.ops Q7Q) (.seq (.cond (.tmp 31) .skip (.exit 0)) (.seq (.block 1 (.seq (.ops Q7P) (.seq (.ops Q7O) (.ops Q7N)))) (.ops Q7M))))
def Q7L : List GO := [qm 51 0, qf 52 3 7, ql 53 52, qf 54 4 1, ql 55 54, qf 56 3 6, ql 57 56, ⟨none, .call (some 58) 138 [(.tmp 51), (.tmp 53), (.tmp 55), (.tmp 57)]⟩]
def Q6s : List GO := [qm 59 0, qn 60 59, qf 61 60 6, ql 62 61, qL 63 62, qf 64 4 2, ql 65 64, qL 66 65, qt 67 .add 3 63 66, qj 68 .gtr 3 67 80, ⟨none, .call (some 69) 118 [(.tmp 68), (.const (vi 2))]⟩]
def Q6u : List (List Nat) := [[],[0],[1],[2],[3],[],[5],[6],[4,7],[8],[9]]
def Q6r : List GO := [qf 70 4 2, ql 71 70, qL 72 71, qk 73 (vi 0)]
def Q6q : List GO := [qt 74 .lss 3 73 72]
def Q6p : List GO := [qi 75 3 71 73, qV 76 3 75, ⟨none, .alloc 8 65 [(vi 0), (vi 0), vn]⟩, qw 3 8 76]
def Q6o : List GO := [qV 78 3 8, qf 79 3 6, ql 80 79, ⟨none, .call (some 81) 140 [(.tmp 78), (.tmp 80)]⟩, qm 77 81, qx 82 77 0, qx 83 77 1, ⟨none, .alloc 9 65 [(vi 0), (vi 0), vn]⟩, qw 3 9 82, qm 10 83]
def Q6n : List GO := [qm 84 0, qV 85 3 9, ⟨none, .call (some 86) 116 [(.tmp 84), (.tmp 85)]⟩]
def Q6m : List GO := [qj 87 .add 3 73 1, qm 73 87]
def Q3a : LC := (.seq (.ops Q6q) (.seq (.cond (.tmp 74) .skip (.exit 2)) (.seq (.block 3 (.seq (.ops Q6p) (.seq (.ops Q6o) (.ops Q6n)))) (.ops Q6m))))
def judge_State_call_lc : LC := (.seq (.ops Q7U) (.seq (.draw Q7T Q7W) (.seq (.ops Q7S) (.seq (.seq (.ops Q7R) (.block 0 (.loop Q3s))) (.seq (.ops Q7L) (.seq (.draw Q6s Q6u) (.seq (.ops Q6r) (.block 2 (.loop Q3a)))))))))
@[reducible] def Q4V : FuncId := 125
theorem Q6t : lowF Try.prog Try.f125 = some judge_State_call_lc := by kernel_rfl
theorem Q7V {a0 a1 : Value} {w : World} {R : Ending → World → Prop} (h : judge_State_call_lc.wp Try.prog (retQ Try.prog [] R) (Qh [a0, a1]) w) : Calls Try.prog Q4V ⟨[a0, a1]⟩ w R :=
  Q4 Try.func125 Q6t (by kernel_rfl) (by kernel_rfl) h

/- 137 -/
def QaG : List GO := [qb 3 33 1]
def QaF : List GO := [qm 7 0, qn 8 7, qf 9 8 2, qf 10 9 3, ql 11 10, qf 12 3 0, ql 13 12, qi 14 12 11 13, qV 15 12 14, ⟨none, .alloc 4 77 [(vi 0), vn, vn, (vi 0), (vi 0), (vi 0), vn, vn, (vi 0), vn, vn, vn]⟩, qw 12 4 15]
def QaJ : List (List Nat) := [[],[0],[1],[2],[3],[],[5],[4,6],[7],[],[9,8,0,1,2,3,4,5,6,7,8,9]]
def QaE : List GO := [qf 16 3 1, ql 17 16, qL 18 17, qf 19 4 0, ql 20 19, qt 21 .neq 3 18 20, ⟨none, .call (some 22) 118 [(.tmp 21), (.const (vi 2))]⟩]
def QaD : List GO := [qm 23 0, qn 24 23, qf 25 24 2, qf 26 25 0, ql 27 26, qk 28 (vi 0)]
def QaC : List GO := [qt 29 .lss 3 28 27]
def QaB : List GO := [qm 30 28, qm 5 30]
def QaA : List GO := [qf 31 3 1, ql 32 31, qm 33 5, qi 34 1 32 33, ql 35 34, qm 36 5, qt 37 .neq 3 35 36, ⟨none, .call (some 38) 118 [(.tmp 37), (.const (vi 11))]⟩]
def Qaz : List GO := [qj 39 .add 3 28 1, qm 28 39]
def Q4b : LC := (.seq (.ops QaC) (.seq (.cond (.tmp 29) .skip (.exit 0)) (.seq (.block 1 (.seq (.ops QaB) (.ops QaA))) (.ops Qaz))))
def Qay : List GO := [qm 40 0, qn 41 40, qf 42 41 0, ql 43 42, qf 44 3 1, ql 45 44, ⟨none, .call (some 46) 144 [(.tmp 43), (.tmp 45)]⟩, qm 6 46]
def QaI : List (List Nat) := [[],[0],[1],[2],[],[4],[3,5],[6,6,0,1,2,3,4,5,6]]
def Qax : List GO := [qm 47 6, qj 48 .neq 3 47 0, qm 49 6, ⟨none, .call (some 50) 118 [(.tmp 48), (.tmp 49)]⟩]
def Q8D : List GO := [qm 51 0, qf 52 3 2, ql 53 52, qf 54 4 1, ql 55 54, qf 56 3 1, ql 57 56, ⟨none, .call (some 58) 138 [(.tmp 51), (.tmp 53), (.tmp 55), (.tmp 57)]⟩]
def judge_State_to_lc : LC := (.seq (.ops QaG) (.seq (.draw QaF QaJ) (.seq (.ops QaE) (.seq (.seq (.ops QaD) (.block 0 (.loop Q4b))) (.seq (.draw Qay QaI) (.seq (.ops Qax) (.ops Q8D)))))))
@[reducible] def Q6K : FuncId := 137
theorem Q8E : lowF Try.prog Try.f137 = some judge_State_to_lc := by kernel_rfl
theorem QaH {a0 a1 : Value} {w : World} {R : Ending → World → Prop} (h : judge_State_to_lc.wp Try.prog (retQ Try.prog [] R) (Qh [a0, a1]) w) : Calls Try.prog Q6K ⟨[a0, a1]⟩ w R :=
  Q4 Try.func137 Q8E (by kernel_rfl) (by kernel_rfl) h

/- 138 -/
def Q84 : List GO := [qm 13 1, qL 14 13, qm 15 2, qL 16 15, qt 17 .neq 3 14 16, ⟨none, .call (some 18) 118 [(.tmp 17), (.const (vi 2))]⟩]
def Q83 : List GO := [qm 19 1, qL 20 19, qk 21 (vi 0)]
def Q82 : List GO := [qt 22 .lss 3 21 20]
def Q81 : List GO := [qm 23 21, qi 24 1 19 21, ql 25 24, qm 8 23, qm 9 25]
def Q80 : List GO := [qm 26 0, qm 27 9, ⟨none, .call (some 28) 124 [(.tmp 26), (.tmp 27)]⟩, ⟨none, .alloc 10 65 [(vi 0), (vi 0), vn]⟩, qw 3 10 28]
def Q7Z : List GO := [qm 30 2, qm 31 8, qi 32 3 30 31, qV 33 3 32, qm 34 3, ⟨none, .call (some 35) 140 [(.tmp 33), (.tmp 34)]⟩, qm 29 35, qx 36 29 0, qx 37 29 1, ⟨none, .alloc 11 65 [(vi 0), (vi 0), vn]⟩, qw 3 11 36, qm 12 37]
def Q7Y : List GO := [qm 38 12, ⟨none, .un 39 .not (.tmp 38)⟩, qm 40 39, qg 40 false (qV 41 3 10), qg 40 false (qV 42 3 11), ⟨some (40, false), .call (some 43) 69 [(.tmp 41), (.tmp 42)]⟩, ⟨some (40, false), .un 44 .not (.tmp 43)⟩, ⟨none, .pick 45 (.tmp 40) (.const (.bool true)) (.tmp 44)⟩, ⟨none, .call (some 46) 118 [(.tmp 45), (.const (vi 9))]⟩]
def Q7X : List GO := [qj 47 .add 3 21 1, qm 21 47]
def Q3t : LC := (.seq (.ops Q82) (.seq (.cond (.tmp 22) .skip (.exit 0)) (.seq (.block 1 (.seq (.ops Q81) (.seq (.ops Q80) (.seq (.ops Q7Z) (.ops Q7Y))))) (.ops Q7X))))
def judge_State_args_lc : LC := (.seq (.ops Q84) (.seq (.ops Q83) (.block 0 (.loop Q3t))))
@[reducible] def Q4W : FuncId := 138
theorem Q6v : lowF Try.prog Try.f138 = some judge_State_args_lc := by kernel_rfl
theorem Q85 {a0 a1 a2 a3 : Value} {w : World} {R : Ending → World → Prop} (h : judge_State_args_lc.wp Try.prog (retQ Try.prog [] R) (Qh [a0, a1, a2, a3]) w) : Calls Try.prog Q4W ⟨[a0, a1, a2, a3]⟩ w R :=
  Q4 Try.func138 Q6v (by kernel_rfl) (by kernel_rfl) h

/- 140 -/
def Qes : List GO := [qb 2 65 0, ⟨none, .alloc 4 65 [(vi 0), (vi 0), vn]⟩, qk 5 (.bool false)]
def Qer : List GO := [qf 11 2 0, ql 12 11, qf 13 2 1, ql 14 13, ⟨none, .build 15 [(vi 0), (vi 0), vn] [(0, (1, (.tmp 12))), (1, (1, (.tmp 14)))]⟩, ⟨none, .alloc 6 65 [(vi 0), (vi 0), vn]⟩, qw 3 6 15]
def Qeq : List GO := [qf 16 2 0, ql 17 16, qj 18 .neq 3 17 1]
def Qep : List GO := [qf 19 2 1, ql 20 19, qj 21 .lss 3 20 0, qm 22 21, qg 22 false (qf 23 2 1), qg 22 false (ql 24 23), qg 22 false (qm 25 1), qg 22 false (qL 26 25), qg 22 false (qt 27 .geq 3 24 26), ⟨none, .pick 28 (.tmp 22) (.const (.bool true)) (.tmp 27)⟩, qm 29 28, qg 29 false (qm 30 1), qg 29 false (qf 31 2 1), qg 29 false (ql 32 31), qg 29 false (qi 33 1 30 32), qg 29 false (ql 34 33), qg 29 false (qj 35 .lss 3 34 0), ⟨none, .pick 36 (.tmp 29) (.const (.bool true)) (.tmp 35)⟩]
def Qeo : List GO := [⟨none, .build 37 [(vi 0), (vi 0), vn] []⟩, qw 3 4 37, qk 5 (.bool false)]
def Qen : List GO := [qm 38 1, qf 39 2 1, ql 40 39, qi 41 1 38 40, ql 42 41, qf 43 6 1, qs 43 42]
def Qem : List GO := [qf 44 2 2, ql 45 44, qL 46 45, qk 47 (vi 0)]
def Qel : List GO := [qt 48 .lss 3 47 46]
def Qek : List GO := [qi 49 3 45 47, qV 50 3 49, ⟨none, .alloc 8 65 [(vi 0), (vi 0), vn]⟩, qw 3 8 50]
def Qej : List GO := [qV 52 3 8, qm 53 1, ⟨none, .call (some 54) 140 [(.tmp 52), (.tmp 53)]⟩, qm 51 54, qx 55 51 0, qx 56 51 1, ⟨none, .alloc 9 65 [(vi 0), (vi 0), vn]⟩, qw 3 9 55, qm 10 56]
def QcE : List GO := [qm 57 10, ⟨none, .un 58 .not (.tmp 57)⟩]
def QcD : List GO := [⟨none, .build 59 [(vi 0), (vi 0), vn] []⟩, qw 3 4 59, qk 5 (.bool false)]
def QcC : List GO := [qf 60 6 2, ql 61 60, qV 62 3 9, ⟨none, .buildS 63 65 1 [(vi 0), (vi 0), vn] [(0, (3, (.tmp 62)))]⟩, ⟨none, .raw ⟨(some 64), (.call ⟨(.builtin .append), #[(.tmp 61), (.tmp 63)], #[28, 28]⟩), 28, "", #[], none⟩⟩, qf 65 6 2, qs 65 64]
def QcB : List GO := [qj 66 .add 3 47 1, qm 47 66]
def Q5b : LC := (.seq (.ops Qel) (.seq (.cond (.tmp 48) .skip (.exit 0)) (.seq (.block 1 (.seq (.ops Qek) (.seq (.ops Qej) (.seq (.seq (.ops QcE) (.cond (.tmp 58) (.seq (.ops QcD) .ret) .skip)) (.ops QcC))))) (.ops QcB))))
def QcA : List GO := [qV 67 3 6, qw 3 4 67, qk 5 (.bool true)]
def types_Rename_lc : LC := (.seq (.ops Qes) (.seq (.ops Qer) (.seq (.seq (.ops Qeq) (.cond (.tmp 18) (.seq (.seq (.ops Qep) (.cond (.tmp 36) (.seq (.ops Qeo) .ret) .skip)) (.ops Qen)) .skip)) (.seq (.seq (.ops Qem) (.block 0 (.loop Q5b))) (.seq (.ops QcA) .ret)))))
@[reducible] def Q1O : FuncId := 140
theorem QcF : lowF Try.prog Try.f140 = some types_Rename_lc := by kernel_rfl
theorem Qet {a0 a1 : Value} {w : World} {R : Ending → World → Prop} (h : types_Rename_lc.wp Try.prog (retQ Try.prog [.cell 4 65, .tmp 5] R) (Qh [a0, a1]) w) : Calls Try.prog Q1O ⟨[a0, a1]⟩ w R :=
  Q4 Try.func140 QcF (by kernel_rfl) (by kernel_rfl) h

/- 144 -/
def Qb8 : List GO := [qk 4 (vi 0)]
def Qb7 : List GO := [qm 8 0, qn 9 8, qf 10 9 0, ql 11 10, qL 12 11, ⟨none, .raw ⟨(some 13), (.makeSlice 127 (.tmp 12) (.tmp 12)), 127, "", #[], none⟩⟩, qm 5 13]
def Qb6 : List GO := [qm 14 1, qL 15 14, qk 16 (vi 0)]
def Qb5 : List GO := [qt 17 .lss 3 16 15]
def Qb4 : List GO := [qi 18 1 14 16, ql 19 18, qm 7 19]
def Qb3 : List GO := [qm 20 0, qm 21 7, ⟨none, .call (some 22) 38 [(.tmp 20), (.tmp 21)]⟩, ⟨none, .un 23 .not (.tmp 22)⟩]
def Qb2 : List GO := [qk 4 (vi 10)]
def Qb1 : List GO := [qm 24 5, qm 25 7, qi 26 1 24 25, ql 27 26]
def Qb0 : List GO := [qk 4 (vi 13)]
def QaZ : List GO := [qm 28 5, qm 29 7, qi 30 1 28 29, ⟨none, .store1 (.tmp 30) (.const (.bool true))⟩]
def Q9r : List GO := [qj 31 .add 3 16 1, qm 16 31]
def Q4h : LC := (.seq (.ops Qb5) (.seq (.cond (.tmp 17) .skip (.exit 0)) (.seq (.block 1 (.seq (.ops Qb4) (.seq (.seq (.ops Qb3) (.cond (.tmp 23) (.seq (.ops Qb2) .ret) .skip)) (.seq (.seq (.ops Qb1) (.cond (.tmp 27) (.seq (.ops Qb0) .ret) .skip)) (.ops QaZ))))) (.ops Q9r))))
def Q9q : List GO := [qm 32 1, qL 33 32, qm 34 0, ⟨none, .call (some 35) 39 [(.tmp 34)]⟩, qL 36 35, qt 37 .lss 3 33 36]
def Q9p : List GO := [qk 4 (vi 12)]
def Q9o : List GO := [qk 4 (vi 0)]
def held_Held_Pass_lc : LC := (.seq (.ops Qb8) (.seq (.ops Qb7) (.seq (.seq (.ops Qb6) (.block 0 (.loop Q4h))) (.seq (.seq (.ops Q9q) (.cond (.tmp 37) (.seq (.ops Q9p) .ret) .skip)) (.seq (.ops Q9o) .ret)))))
@[reducible] def Q2r : FuncId := 144
theorem Q9s : lowF Try.prog Try.f144 = some held_Held_Pass_lc := by kernel_rfl
theorem Qb9 {a0 a1 : Value} {w : World} {R : Ending → World → Prop} (h : held_Held_Pass_lc.wp Try.prog (retQ Try.prog [.tmp 4] R) (Qh [a0, a1]) w) : Calls Try.prog Q2r ⟨[a0, a1]⟩ w R :=
  Q4 Try.func144 Q9s (by kernel_rfl) (by kernel_rfl) h

end Go.Proofs.Ytanlkfeogoganaa
namespace Go.Proofs.Ytanlkfeogoganaa
open Go.Lir
set_option maxRecDepth 100000
theorem el_T22 : Q2V Try.prog 22 = some (31, 4, 80, [(.int .i64 0), (.slice none 0 0), (.slice none 0 0), (.slice none 0 0)]) := by kernel_rfl
theorem u_T22 : ∃ e2, Try.prog.underlying 22 = some (.slice e2) := ⟨31, by kernel_rfl⟩
theorem Qcl : Q2V Try.prog 25 = some (3, 1, 8, [(.int .i64 0)]) := by kernel_rfl
theorem QmG : ∃ e2, Try.prog.underlying 25 = some (.slice e2) := ⟨3, by kernel_rfl⟩
theorem Q6M : Q2V Try.prog 28 = some (65, 3, 40, [(.int .i64 0), (.int .i64 0), (.slice none 0 0)]) := by kernel_rfl
theorem QiL : ∃ e2, Try.prog.underlying 28 = some (.slice e2) := ⟨65, by kernel_rfl⟩
theorem el_T29 : Q2V Try.prog 29 = some (77, 12, 208, [(.int .i64 0), (.slice none 0 0), (.slice none 0 0), (.int .i64 0), (.int .i64 0), (.int .i64 0), (.slice none 0 0), (.slice none 0 0), (.int .i64 0), (.slice none 0 0), (.slice none 0 0), (.slice none 0 0)]) := by kernel_rfl
theorem u_T29 : ∃ e2, Try.prog.underlying 29 = some (.slice e2) := ⟨77, by kernel_rfl⟩
theorem QqL : Q2V Try.prog 58 = some (27, 8, 96, [(.int .i64 0), (.int .i64 0), (.int .i64 0), (.int .i64 0), (.int .i64 0), (.int .i64 0), (.slice none 0 0), (.slice none 0 0)]) := by kernel_rfl
theorem u_T58 : ∃ e2, Try.prog.underlying 58 = some (.slice e2) := ⟨27, by kernel_rfl⟩
theorem Qnh : Q2V Try.prog 127 = some (4, 1, 1, [(.bool false)]) := by kernel_rfl
theorem u_T127 : ∃ e2, Try.prog.underlying 127 = some (.slice e2) := ⟨4, by kernel_rfl⟩
end Go.Proofs.Ytanlkfeogoganaa
namespace Go.Lir
set_option linter.unusedVariables false
def hasB (l : List Bool) (r : Int) : Bool := decide (0 ≤ r) && decide (r < l.length) && l.getD r.toNat false

/-- The numbers ahead of n that are held. -/
def Q32 (l : List Bool) (n : Nat) : List Int := ((List.range n).filter fun j => l.getD j false).map Int.ofNat
def Q8a (l : List Bool) : List Int := Q32 l l.length
theorem Qnf (l : List Bool) (n : Nat) : Q32 l (n + 1) = Q32 l n ++ if l.getD n false then [(n : Int)] else [] := by
  unfold Q32
  rw [List.range_succ, List.filter_append, List.map_append]
  congr 1
  by_cases h : l.getD n false = true
  · rw [if_pos h, List.filter_cons_of_pos (by simpa using h)]; rfl
  · rw [if_neg h, List.filter_cons_of_neg (by simpa using h)]; rfl
theorem Qph (l : List Bool) (n : Nat) : (Q32 l n).length ≤ n := by
  unfold Q32
  rw [List.length_map]
  exact Nat.le_trans (List.length_filter_le _ _) (by simp)

/-- What Pass answers: of the numbers yet to come, behind those that were seen. -/
def Q2q (l : List Bool) (seen : List Int) : List Int → Int
  | [] => if seen.length < (Q8a l).length then 12 else 0
  | x :: xs => if hasB l x then if x ∈ seen then 13 else Q2q l (seen ++ [x]) xs else 10
def Q6T (l : List Bool) (ys : List Int) : List Bool := (List.range l.length).map fun (j : Nat) => decide ((j : Int) ∈ ys)
theorem QpE (l : List Bool) (ys : List Int) : (Q6T l ys).length = l.length := by simp [Q6T]
theorem QpD (l : List Bool) : Q6T l [] = List.replicate l.length false := by
  apply List.ext_getElem <;> simp [Q6T]
theorem QpF {l : List Bool} {ys : List Int} {r : Int} (h0 : 0 ≤ r) (h1 : r < l.length) : (Q6T l ys).getD r.toNat false = decide (r ∈ ys) := by
  have : r.toNat < l.length := by omega
  simp [Q6T, List.getD_eq_getElem?_getD, List.getElem?_map, List.getElem?_range this, Int.toNat_of_nonneg h0]
theorem QpC {l : List Bool} {ys : List Int} {r : Int} (h0 : 0 ≤ r) : (Q6T l ys).set r.toNat true = Q6T l (ys ++ [r]) := by
  apply List.ext_getElem?
  intro j
  simp only [Q6T, List.getElem?_set, List.getElem?_map, List.length_map, List.length_range]
  by_cases hj : j < l.length
  · simp only [List.getElem?_range hj, Option.map_some]
    by_cases he : r.toNat = j
    · subst he; simp [hj, Int.toNat_of_nonneg h0]
    · have : (j : Int) ≠ r := by omega
      simp [he, this]
  · have h2 : (List.range l.length)[j]? = none := by simp; omega
    simp only [h2, Option.map_none]
    by_cases he : r.toNat = j
    · subst he; simp [hj]
    · simp [he]
theorem Qji {l : List Bool} {r : Int} (h : hasB l r = true) : 0 ≤ r ∧ r < l.length ∧ l.getD r.toNat false = true := by
  simp only [hasB, Bool.and_eq_true, decide_eq_true_eq] at h; exact ⟨h.1.1, h.1.2, h.2⟩

/-! ### What both answer is the same -/

end Go.Lir
namespace Go.Lir
section
variable {P : Program} {l : List GO} {Q : QT} {ρ : Env} {w : World}
/-- A field that holds an integer. -/
def IntF (P : Program) (f : Field) (i : Nat) : Prop := f.name ≠ "_" ∧ (∃ k, P.underlying f.type = some (.int k)) ∧ f.offset = i ∧ Q35 P f.type = true
theorem Q5f (k : Nat) {T : TypeId} {q : IntKind} {a b : Int} {kk : IntKind} {w0 : World} (ht : P.underlying T = some (.int q)) : (Op.equalIn (k + 1) T (.int kk a) (.int kk b)).run P w0 = .ok (a == b) w0 := by
  simp only [Op.equalIn, Sem.run_bind, Q9 P T _ w0 ht, Result.andThen_ok]
  simp [Sem.run_pure]
def intFB (P : Program) (f : Field) (i : Nat) : Bool := f.name != "_" && (match P.underlying f.type with | some (.int _) => true | _ => false) && f.offset == i && Q35 P f.type
theorem Qqx {f : Field} {i : Nat} (h : intFB P f i = true) : IntF P f i := by
  unfold intFB at h
  simp only [Bool.and_eq_true, bne_iff_ne, ne_eq, beq_iff_eq] at h
  obtain ⟨⟨⟨h1, h2⟩, h3⟩, h4⟩ := h
  refine ⟨h1, ?_, h3, h4⟩
  split at h2
  · rename_i k hk; exact ⟨k, hk⟩
  · cases h2
end
end Go.Lir
namespace Go.Lir
section
variable {P : Program} {l : List GO} {Q : QT} {ρ : Env} {w : World}
theorem run_eq2 (k : Nat) {T : TypeId} {f0 f1 : Field} {a0 a1 b0 b1 : Int} {w0 : World} (ht : P.underlying T = some (.struct #[f0, f1])) (hh : P.stoodInHeld T = false)
    (h0 : IntF P f0 0) (h1 : IntF P f1 1) :
    (Op.equalIn (k + 2) T (.agg ⟨[.int .i64 a0, .int .i64 a1]⟩) (.agg ⟨[.int .i64 b0, .int .i64 b1]⟩)).run P w0 = .ok (a0 == b0 && a1 == b1) w0 := by
  obtain ⟨n0, ⟨q0, u0⟩, o0, s0⟩ := h0
  obtain ⟨n1, ⟨q1, u1⟩, o1, s1⟩ := h1
  have hp : ∀ (T : TypeId) (cs : Array Value) (off : Nat) (v : Value) (w : World), Q35 P T = true → cs[off]? = some v → (part T cs off).run P w = .ok v w := fun T cs off v w h hv => Qj3 P T cs off v w h hv
  unfold Op.equalIn
  simp only [Sem.run_bind, Q9 P T _ w0 ht, Result.andThen_ok]
  simp [hh, n0, n1, o0, o1, Q5f _ u0, Q5f _ u1, hp _ _ _ _ _ s0, hp _ _ _ _ _ s1]
  by_cases e0 : a0 = b0 <;> by_cases e1 : a1 = b1 <;> simp [e0, e1]
def Int2 (P : Program) (T : TypeId) : Prop := ∃ f0 f1 : Field, P.underlying T = some (.struct #[f0, f1]) ∧ P.stoodInHeld T = false ∧ P.eqGuardType P.depth T = false ∧ IntF P f0 0 ∧ IntF P f1 1
def int2B (P : Program) (T : TypeId) : Bool := match P.underlying T with
  | some (.struct fs) => match fs.toList with
    | [f0, f1] => !P.stoodInHeld T && !P.eqGuardType P.depth T && intFB P f0 0 && intFB P f1 1
    | _ => false
  | _ => false
theorem int2_of {T : TypeId} (h : int2B P T = true) : Int2 P T := by
  unfold int2B at h
  split at h
  · rename_i fs hu
    split at h
    · rename_i f0 f1 hf
      simp only [Bool.and_eq_true, Bool.not_eq_true'] at h
      obtain ⟨⟨⟨h1, h2⟩, h3⟩, h4⟩ := h
      have : fs = #[f0, f1] := by apply Array.ext'; exact hf
      subst this
      exact ⟨f0, f1, hu, h1, h2, Qqx h3, Qqx h4⟩
    · cases h
  · cases h
theorem pair_dec (a0 a1 b0 b1 : Int) : (a0 == b0 && a1 == b1) = decide ((a0, a1) = (b0, b1)) := by
  rw [Bool.eq_iff_iff]; simp
theorem s_eq2 {d : Nat} {T : TypeId} {x y : Operand} {a b : Int × Int} (hT : Int2 P T) (hx : ρ.ev x = .agg ⟨[.int .i64 a.1, .int .i64 a.2]⟩) (hy : ρ.ev y = .agg ⟨[.int .i64 b.1, .int .i64 b.2]⟩)
    (h : Q3 P l Q (upd ρ d (.bool (decide (a = b)))) w) : Q3 P (⟨none, .bin d .eql T x y⟩ :: l) Q ρ w := by
  obtain ⟨f0, f1, ht, hh, hg, h0, h1⟩ := hT
  exact ⟨.bool (decide (a = b)), fun w0 => by rw [hx, hy]; simp only [Sem.run_bind, run_eqGuard_agg w0 .eql T x y _ _ hg, Result.andThen_ok, run_eql_struct, run_eq2 9998 ht hh h0 h1, pair_dec], h⟩
theorem QmL {d : Nat} {T : TypeId} {x y : Operand} {a : Int × Int} (hT : Int2 P T) (hx : ρ.ev x = .agg ⟨[.int .i64 a.1, .int .i64 a.2]⟩) (hy : ρ.ev y = .agg ⟨[.int .i64 a.1, .int .i64 a.2]⟩)
    (h : Q3 P l Q (upd ρ d (.bool true)) w) : Q3 P (⟨none, .bin d .eql T x y⟩ :: l) Q ρ w := s_eq2 hT hx hy (by rw [decide_eq_true rfl]; exact h)
/-- A block is from here on only read, as a list of one. -/
theorem St.freeze1 {α : Type} {r : Rep α} {c : Cx} {L : List Res} {T b : Nat} {cs : List Value} {x : α} (h : St c w (blk b T cs :: L)) (hr : r.at c cs x) : ∃ c', c.Le c' ∧ St c' w L ∧ r.sl c' (.slice (some ⟨b, 0, none⟩) 1 1) [x] := by
  have h1 : St c w (sl T r.es (.slice (some ⟨b, 0, none⟩) 1 1) [cs] :: L) := h.slOf (css := [cs]) (by simp) (by intro q hq; simp at hq; subst hq; exact r.len hr) rfl
  exact h1.freezeL (r := r) ((Rep.LR.nil r _ _).push hr) rfl (by simp)
end
end Go.Lir
namespace Go.Proofs.Ytanlkfeogoganaa
open Go.Lir
set_option maxHeartbeats 1000000
attribute [local irreducible] LC.wp Q3 QZ Q1g retQ Q2p LO.wp QH Calls
set_option linter.unusedSimpArgs false
set_option linter.unusedVariables false
attribute [local irreducible] hasB Q8a Q2q Q32
variable {cx : Cx} {w : World} {L : List Res}
def Qjh (hp : Nat) (h : List Bool) : Res := Res.ex fun v => star (blk hp 129 [v]) (sl 4 1 v (h.map Q16))
theorem Q4g {hp : Nat} {h : List Bool} (hS : St cx w (Qjh hp h :: L)) : ∃ v, St cx w (blk hp 129 [v] :: sl 4 1 v (h.map Q16) :: L) := by
  obtain ⟨v, hS⟩ := St.ex hS
  exact ⟨v, hS.star⟩
theorem Q3x {hp : Nat} {h : List Bool} {v : Value} (hS : St cx w (blk hp 129 [v] :: sl 4 1 v (h.map Q16) :: L)) : St cx w (Qjh hp h :: L) := St.ex' v hS.star'
theorem has_u {hp : Nat} {h : List Bool} {v : Value} {r : Int} (hS : St cx w (blk hp 129 [v] :: sl 4 1 v (h.map Q16) :: L)) :
    Rets Try.prog Q4M [.pointer (some ⟨hp, 0, none⟩), .int .i64 r] w fun u w' => u = .bool (hasB h r) ∧ St cx w' (blk hp 129 [v] :: sl 4 1 v (h.map Q16) :: L) := by
  have hlen : (h.map Q16).length = h.length := List.length_map _
  all_goals refine QcP ?_
  all_goals (unfold held_Held_Has_lc; refine Q0 ?_; refine Q1 ?_; refine zm ?_; refine zn ?_; refine Q0 ?_; refine Q1 ?_; refine zm ?_)
  all_goals (first | (refine Q53 ?_) | (refine Q56 ?_) | (refine Q24 rfl rfl (fun hc => ?_) (fun hc => ?_)))
  all_goals (refine zm ?_; (first | refine s_gn rfl rfl ?_ | (refine s_gy rfl ?_; refine zm ?_)); (first | refine s_gn rfl rfl ?_ | (refine s_gy rfl ?_; refine zm ?_)); (first | refine s_gn rfl rfl ?_ | (refine s_gy rfl ?_; refine QA rfl ?_)); (first | refine s_gn rfl rfl ?_ | (refine s_gy rfl ?_; refine Q2 rfl ?_)); (first | refine s_gn rfl rfl ?_ | (refine s_gy rfl ?_; (first | (refine Q3W hS hel1 rfl nth1 (Q3p Q16 h false (by omega)) rfl ?_) | (refine zl hS ?_)))); (first | refine s_gn rfl rfl ?_ | (refine s_gy rfl ?_; (first | (refine zL ?_) | (refine zLe hS ?_)))))
  all_goals (first | refine s_gn rfl rfl ?_ | (refine s_gy rfl ?_; (first | (refine Q1Z ?_) | (refine Q20 ?_) | (refine QQ rfl rfl (fun hc => ?_) (fun hc => ?_)))))
  all_goals ((first | (refine zpt ?_) | (refine zpf ?_)); refine zm ?_; (first | refine s_gn rfl rfl ?_ | (refine s_gy rfl ?_; refine zm ?_)); (first | refine s_gn rfl rfl ?_ | (refine s_gy rfl ?_; refine QA rfl ?_)); (first | refine s_gn rfl rfl ?_ | (refine s_gy rfl ?_; refine Q2 rfl ?_)); (first | refine s_gn rfl rfl ?_ | (refine s_gy rfl ?_; (first | (refine Q3W hS hel1 rfl nth1 (Q3p Q16 h false (by omega)) rfl ?_) | (refine zl hS ?_)))); (first | refine s_gn rfl rfl ?_ | (refine s_gy rfl ?_; refine zm ?_)); (first | refine s_gn rfl rfl ?_ | (refine s_gy rfl ?_; (first | ((first | refine zi ?_ | refine zj ?_); intro b1 o1 cs1 x1 hat1 hx1 he1; obtain rfl := Q1X he1) | (refine zie hS ?_; intro b1 o1 hel1) | (refine zij hS ?_; intro b1 o1 hel1)))); (first | refine s_gn rfl rfl ?_ | (refine s_gy rfl ?_; (first | (refine Q3W hS hel1 rfl nth1 (Q3p Q16 h false (by omega)) rfl ?_) | (refine zl hS ?_) | (refine zlk hS ?_) | (refine zlj hS ?_) | (refine zli hS ?_) | (refine zlb hS ?_)))); (first | (refine zpt ?_) | (refine zpf ?_)); refine zm ?_; refine zn ?_; refine zr ?_; refine zf ?_; (first | (refine ⟨_, rfl, ?_, hS.sp⟩; unfold hasB; simp [*]; omega; done) | (refine ⟨_, rfl, ?_, hS.sp⟩; unfold hasB; simp [*]; done)))
theorem len_u {hp : Nat} {h : List Bool} {v : Value} (hS : St cx w (blk hp 129 [v] :: sl 4 1 v (h.map Q16) :: L)) :
    Rets Try.prog Q4L [.pointer (some ⟨hp, 0, none⟩)] w fun u w' => u = .int .i64 h.length ∧ St cx w' (blk hp 129 [v] :: sl 4 1 v (h.map Q16) :: L) := by
  have hlen : (h.map Q16).length = h.length := List.length_map _
  all_goals refine QcM ?_
  all_goals (unfold held_Held_Len_lc; refine Q0 ?_; refine Q1 ?_; refine zm ?_; refine zn ?_; refine Q0 ?_; refine Q1 ?_; refine zm ?_; refine QA rfl ?_; refine Q2 rfl ?_; refine zl hS ?_; (first | (refine zL ?_) | (refine zLe hS ?_)); refine zm ?_; refine zn ?_; refine zr ?_; refine zf ?_; refine ⟨_, rfl, ?_, hS.sp⟩; (rfl); done)
theorem list_u {hp : Nat} {h : List Bool} {v : Value} (hl : h.length ≤ 16) (hS : St cx w (blk hp 129 [v] :: sl 4 1 v (h.map Q16) :: L)) :
    Rets Try.prog Q43 [.pointer (some ⟨hp, 0, none⟩)] w fun u w' => ∃ c', cx.Le c' ∧ intR.sl c' u (Q8a h) ∧ St c' w' (blk hp 129 [v] :: sl 4 1 v (h.map Q16) :: L) := by
  have hlen : (h.map Q16).length = h.length := List.length_map _
  all_goals refine Qbp ?_
  all_goals (unfold held_Held_List_lc; refine Q0 ?_; refine Q1 ?_; refine zm ?_; refine zn ?_; refine Q0 ?_; refine Q1 ?_; refine zm ?_; refine zn ?_; refine Q0 ?_; refine Q0 ?_; refine Q1 ?_; refine zm ?_; refine QA rfl ?_; refine Q2 rfl ?_; (first | (refine Q3W hS (by assumption) rfl nth2 (Q3p Q16 h false (by omega)) rfl ?_) | (refine zl hS ?_)); (first | (refine zL ?_) | (refine zLe hS ?_)); refine zm ?_; refine zn ?_; refine Qb ?_; have hS := St.nil (T := 3) (es := 1) hS)
  refine zo [9, 10] (fun A ρ' w' => ∃ (j : Nat) (vo : Value) (co : List (List Value)), Has ρ' A ∧ Has ρ' [(11, .int .i64 j), (3, vo)] ∧ (j ≤ h.length) ∧ (intR.ls cx co (Q32 h j)) ∧ St cx w' (sl 3 1 vo co :: blk hp 129 [v] :: sl 4 1 v (h.map Q16) :: L)) (fun ρ' _ => (h.length - iv (ρ' 11)).toNat) ?_ ?_
  · exact ⟨0, _, [], zh, zh, (by omega), by unfold Q32; exact Rep.LR.nil _ _ _, hS.sp⟩
  rintro ρ w1 ⟨j, vo, co, hA, hρ, hj, hls, hS⟩; obtain ⟨ρ, rfl⟩ := env2 hA hρ; have hll := Qph h j; have hsu := Qnf h j
  unfold Q4i
  all_goals (refine Q0 ?_; refine Q1 ?_; refine QC rfl rfl ?_; refine zn ?_; refine Q0 ?_)
  refine Qy rfl (fun hc => ?_) (fun hc => ?_)
  · skip
    all_goals (refine zsk ?_; refine Q0 ?_; refine Qb ?_; refine Q0 ?_; refine Q1 ?_; refine zm ?_; (first | ((first | refine zi ?_ | refine zj ?_); intro b1 o1 cs1 x1 hat1 hx1 he1; obtain rfl := Q1X he1) | (refine zie hS ?_; intro b1 o1 hel1)); (first | (refine Q3W hS (by assumption) rfl nth2 (Q3p Q16 h false (by omega)) rfl ?_) | (refine zl hS ?_) | (refine zlk hS ?_) | (refine zlj hS ?_) | (refine zli hS ?_) | (refine zlb hS ?_)); refine zm ?_; refine zm ?_; refine zn ?_; refine Q0 ?_; refine Q1 ?_; refine zm ?_; refine zn ?_)
    refine Qom rfl (fun hc => ?_) (fun hc => ?_)
    · skip
      all_goals (refine Q1 ?_; refine zm ?_; refine zm ?_; refine zB1 hS [_] ?_; intro b1 w1 hS; refine za Qcl QmG hS ?_; intro vp1 w1 css1 hls1 hv1 hS; have hS := hS.ns; refine zm ?_; refine zn ?_; refine Q1 ?_; refine zad ?_; refine zm ?_; refine zn ?_; exact ⟨⟨j + 1, _, _, zh, zh, (by omega), by rw [hsu, if_pos (by assumption)]; exact hls1, hS.sp⟩, Qx (by omega)⟩)
    · skip
      all_goals (refine zsk ?_; refine Q1 ?_; refine zad ?_; refine zm ?_; refine zn ?_; (first | (exact ⟨⟨j + 1, _, _, zh, zh, (by omega), by rw [hsu, if_pos (by assumption)]; exact hls1, hS.sp⟩, Qx (by omega)⟩) | (exact ⟨⟨j + 1, _, _, zh, zh, (by omega), by rw [hsu, if_neg (by rw [hc]; decide), List.append_nil]; exact hls, hS.sp⟩, Qx (by omega)⟩)))
  · skip
    all_goals (refine zex ?_; refine Q0 ?_; refine Q1 ?_; refine zm ?_; refine zm ?_; refine zn ?_; refine zr ?_; refine zf ?_; refine ⟨_, rfl, ?_⟩; obtain ⟨c', hle, hS', hk⟩ := St.freezeL (r := intR) hS hls rfl (by omega); refine ⟨c', hle, ?_, hS'⟩; rw [show j = h.length by omega] at hk; unfold Q8a; exact hk)
theorem open_u {hp : Nat} {h : List Bool} {v : Value} (hl : h.length < 16) (hS : St cx w (blk hp 129 [v] :: sl 4 1 v (h.map Q16) :: L)) :
    Rets Try.prog Q42 [.pointer (some ⟨hp, 0, none⟩)] w fun u w' => u = .int .i64 h.length ∧ ∃ v', St cx w' (blk hp 129 [v'] :: sl 4 1 v' ((h ++ [true]).map Q16) :: L) := by
  have hlen : (h.map Q16).length = h.length := List.length_map _
  all_goals refine Qbf ?_
  all_goals (unfold held_Held_Open_lc; refine Q0 ?_; refine Q1 ?_; refine zm ?_; refine zn ?_; refine Q0 ?_; refine Q0 ?_; refine Q1 ?_; refine zm ?_; refine QA rfl ?_; refine Q2 rfl ?_; refine zl hS ?_; (first | (refine zL ?_) | (refine zLe hS ?_)))
  all_goals (first | (refine QD ?_) | (refine QI ?_))
  all_goals (refine zn ?_)
  all_goals refine Q6 rfl ?_
  all_goals (refine zsk ?_; refine Q0 ?_; refine Q1 ?_; refine zm ?_; refine zm ?_; refine QA rfl ?_; refine Q2 rfl ?_; refine zl hS ?_; refine zB1 hS [_] ?_; intro b1 w1 hS; refine Qop Qnh (.inl u_T127) hS vw vw fd (hS.srcB1 fd rfl) (by simp; omega) ?_; intro vp w2 hS; have hS := hS.ns; rw [show h.map Q16 ++ [[Value.bool true]] = (h ++ [true]).map Q16 by simp [Q16]] at hS; refine QA rfl ?_; refine Q2 rfl ?_; refine zst hS ?_; intro w1 hS; have hS := hS.ns; refine zn ?_; refine Q0 ?_; have hlen1 : (h ++ [true]).length = h.length + 1 := (by simp); refine Q1 ?_; refine zm ?_; refine QA rfl ?_; refine Q2 rfl ?_; refine zl hS ?_; (first | (refine zL ?_) | (refine zLe hS ?_)); refine zsu ?_)
  all_goals (refine zm ?_; refine zn ?_; refine zr ?_; refine zf ?_; exact ⟨_, rfl, (by congr 1; omega), _, hS.sp⟩)
theorem shut_u {hp : Nat} {h : List Bool} {v : Value} {r : Int} (hr : hasB h r = true) (hS : St cx w (blk hp 129 [v] :: sl 4 1 v (h.map Q16) :: L)) :
    Rets Try.prog Q41 [.pointer (some ⟨hp, 0, none⟩), .int .i64 r] w fun u w' => u = .bool true ∧ St cx w' (blk hp 129 [v] :: sl 4 1 v ((h.set r.toNat false).map Q16) :: L) := by
  have hlen : (h.map Q16).length = h.length := List.length_map _
  have hr' := Qji hr
  all_goals refine QaY ?_
  all_goals (unfold held_Held_Shut_lc; refine Q0 ?_; refine Q1 ?_; refine zm ?_; refine zn ?_; refine Q0 ?_; refine Q1 ?_; refine zm ?_; refine zm ?_; refine Qcf rfl (has_u hS) ?_; rintro v1 w1 ⟨rfl, hS⟩; rw [hr]; refine zm ?_; refine zn ?_; refine Q0 ?_; refine Q0 ?_; refine Q1 ?_; refine zm ?_; refine zn ?_)
  all_goals refine Q5 rfl ?_
  all_goals (refine Q1 ?_; refine zm ?_; refine QA rfl ?_; refine Q2 rfl ?_; refine zl hS ?_; refine zm ?_; (first | ((first | refine zi ?_ | refine zj ?_); intro b1 o1 cs1 x1 hat1 hx1 he1; obtain rfl := Q1X he1) | (refine zie hS ?_; intro b1 o1 hel1) | (refine zij hS ?_; intro b1 o1 hel1)); (first | (refine Qj1 hS hel1 rfl vw nth1 (Q3p Q16 h false (by omega)) rfl rfl ?_; intro w2 hS; have hS := hS.ns; rw [show (Q16 (h.getD r.toNat false)).set 0 (Value.bool false) = Q16 false from rfl, map_set] at hS) | (refine zst hS ?_; intro w1 hS; have hS := hS.ns) | (refine zsi hS ?_; intro w1 hS; have hS := hS.ns) | (refine zsb hS ?_; intro w1 hS; have hS := hS.ns)); refine zn ?_; refine Q0 ?_; refine Q1 ?_; refine zm ?_; refine zm ?_; refine zn ?_; refine zr ?_; refine zf ?_; refine ⟨_, rfl, ?_, hS.sp⟩; (rfl); done)
theorem pass_u {hp : Nat} {h : List Bool} {v v2 : Value} {xs : List Int} (hl : h.length ≤ 16) (hx : intR.sl cx v2 xs) (hS : St cx w (blk hp 129 [v] :: sl 4 1 v (h.map Q16) :: L)) :
    Rets Try.prog Q2r [.pointer (some ⟨hp, 0, none⟩), v2] w fun u w' => u = .int .i64 (Q2q h [] xs) ∧ ∃ c', cx.Le c' ∧ St c' w' (blk hp 129 [v] :: sl 4 1 v (h.map Q16) :: L) := by
  have hlen : (h.map Q16).length = h.length := List.length_map _
  have hxl := hx.len
  all_goals refine Qb9 ?_
  all_goals (unfold held_Held_Pass_lc; refine Q0 ?_; refine Q1 ?_; refine zm ?_; refine zn ?_; refine Q0 ?_; refine Q1 ?_; refine zm ?_; refine QA rfl ?_; refine Q2 rfl ?_; (first | (refine Q3W hS hel2 rfl fd hgetS rfl ?_) | (refine zl hS ?_)); (first | (refine zL ?_) | (refine zLe hS ?_)); refine s_makeE Qnh hS rfl rfl (by omega) (by omega) ?_; intro v5 w1 hS; rw [Int.toNat_natCast] at hS; refine zm ?_; refine zn ?_; refine Q0 ?_; refine Q0 ?_; have hS : St cx _ (sl 4 1 v5 ((Q6T h []).map Q16) :: blk hp 129 [v] :: sl 4 1 v (h.map Q16) :: L) := (by rw [QpD, List.map_replicate]; exact hS); refine Q1 ?_; refine zm ?_; refine zL ?_; refine zm ?_; refine zn ?_; refine Qb ?_)
  refine zo [0, 1, 5, 14, 15] (fun A ρ' w' => ∃ (j : Nat), Has ρ' A ∧ Has ρ' [(16, .int .i64 j)] ∧ (j ≤ xs.length) ∧ (Q2q h [] xs = Q2q h (xs.take j) (xs.drop j)) ∧ St cx w' (sl 4 1 v5 ((Q6T h (xs.take j)).map Q16) :: blk hp 129 [v] :: sl 4 1 v (h.map Q16) :: L)) (fun ρ' _ => (xs.length - iv (ρ' 16)).toNat) ?_ ?_
  · exact ⟨0, zh, zh, (by omega), by rfl, hS.sp⟩
  rintro ρ w1 ⟨j, hA, hρ, hj, hgo, hS⟩; obtain ⟨ρ, rfl⟩ := env2 hA hρ; have hln := QpE h (xs.take j); have hlm : ((Q6T h (xs.take j)).map Q16).length = h.length := (by rw [List.length_map, hln])
  unfold Q4h
  all_goals (refine Q0 ?_; refine Q1 ?_; refine QC rfl rfl ?_; refine zn ?_; refine Q0 ?_)
  refine Qy rfl (fun hc => ?_) (fun hc => ?_)
  · skip
    all_goals (refine zsk ?_; refine Q0 ?_; refine Qb ?_; refine Q0 ?_; refine Q1 ?_; refine zi ?_; intro b1 o1 cs1 x1 hat1 hx1 he1; obtain rfl := Q1X he1; (first | (refine Q3W hS hel2 rfl fd hgetS rfl ?_) | (refine zl hS ?_) | (refine zlk hS ?_)); refine zm ?_; refine zn ?_; refine Q0 ?_; refine Q0 ?_; rw [Q7 hx1, Q2q] at hgo; refine Q1 ?_; refine zm ?_; refine zm ?_; refine Qcf rfl (has_u (L := sl 4 1 v5 ((Q6T h (xs.take j)).map Q16) :: L) hS.sp) ?_; rintro v1 w1 ⟨rfl, hS⟩; refine Q1W rfl ?_; refine zn ?_)
    refine Qom rfl (fun hc => ?_) (fun hc => ?_)
    · skip
      all_goals (refine Q0 ?_; refine Q1 ?_; refine zm ?_; refine zn ?_; refine zr ?_; refine zf ?_; exact ⟨_, rfl, (by rw [hgo, if_neg (by simpa using hc)]), cx, St.refl hS, hS.sp⟩)
    · skip
      all_goals (have hc1 : hasB h x1 = true := (by simpa using hc); have hr := Qji hc1; rw [if_pos hc1] at hgo; have hsg : (Q6T h (xs.take j)).getD x1.toNat false = decide (x1 ∈ xs.take j) := QpF (by omega) (by omega); have hgetS := Q3p Q16 (Q6T h (xs.take j)) false (m := x1.toNat) (by omega); refine zsk ?_; refine Q0 ?_; refine Q0 ?_; refine Q1 ?_; refine zm ?_; refine zm ?_; (first | ((first | refine zi ?_ | refine zj ?_); intro b2 o2 cs2 x2 hat2 hx2 he2; obtain rfl := Q1X he2) | (refine zie hS ?_; intro b2 o2 hel2) | (refine zij hS ?_; intro b2 o2 hel2)); (first | (refine Q3W hS hel2 rfl fd hgetS rfl ?_) | (refine zl hS ?_) | (refine zlk hS ?_) | (refine zlj hS ?_) | (refine zli hS ?_) | (refine zlb hS ?_)); refine zn ?_)
      refine Qom rfl (fun hc => ?_) (fun hc => ?_)
      · skip
        all_goals (have hc2 : x1 ∈ xs.take j := (by rw [hsg] at hc; exact of_decide_eq_true hc); rw [if_pos hc2] at hgo; refine Q0 ?_; refine Q1 ?_; refine zm ?_; refine zn ?_; refine zr ?_; refine zf ?_; (first | (exact ⟨_, rfl, (by rw [hgo, if_neg (by simpa using hc)]), cx, St.refl hS, hS.sp⟩) | (exact ⟨_, rfl, hgo ▸ rfl, cx, St.refl hS, hS.sp⟩)))
      · skip
        all_goals (have hc2 : x1 ∉ xs.take j := (by rw [hsg] at hc; exact of_decide_eq_false hc); rw [if_neg hc2] at hgo; refine zsk ?_; refine Q1 ?_; refine zm ?_; refine zm ?_; (first | ((first | refine zi ?_ | refine zj ?_); intro b3 o3 cs3 x3 hat3 hx3 he3; obtain rfl := Q1X he3) | (refine zie hS ?_; intro b3 o3 hel3) | (refine zij hS ?_; intro b3 o3 hel3)); (first | (refine zst hS ?_; intro w1 hS; have hS := hS.ns) | (refine zsi hS ?_; intro w1 hS; have hS := hS.ns) | (refine zsb hS ?_; intro w1 hS; have hS := hS.ns)); refine zn ?_; refine Q1 ?_; refine zad ?_; refine zm ?_; refine zn ?_; exact ⟨⟨j + 1, zh, zh, (by omega), by rw [hgo, Q1B hx1], by rw [Q1B hx1, ← QpC hr.1]; exact hS.sp⟩, Qx (by omega)⟩)
  · skip
    all_goals (refine zex ?_; refine Q0 ?_; refine Q0 ?_; have hie : j = xs.length := (by omega); subst hie; rw [List.take_length, List.drop_length, Q2q] at hgo; refine Q1 ?_; refine zm ?_; refine zL ?_; refine zm ?_; refine Qcf rfl (list_u (L := L) hl hS.sp) ?_; rintro v5 w5 ⟨c5, hle5, hk5, hS⟩; refine zL ?_)
    all_goals (first | (refine Q1Z ?_) | (refine Q20 ?_) | (refine QQ rfl rfl (fun hc => ?_) (fun hc => ?_)))
    all_goals (refine zn ?_)
    all_goals
      first
      | (refine Q5 rfl ?_ -- Q2r c3
         all_goals (refine Q0 ?_; refine Q1 ?_; refine zm ?_; refine zn ?_; refine zr ?_; refine zf ?_)
         all_goals (first | (exact ⟨_, rfl, (by rw [hgo, if_neg (by simpa using hc)]), cx, St.refl hS, hS.sp⟩) | (exact ⟨_, rfl, hgo ▸ rfl, cx, St.refl hS, hS.sp⟩) | (exact ⟨_, rfl, (by rw [hgo, if_pos (by omega)]), c5, hle5, hS.sp⟩)))
      | (refine Q6 rfl ?_ -- Q2r c3
         all_goals refine zsk ?_)
    all_goals (refine Q0 ?_; refine Q1 ?_; refine zm ?_; refine zn ?_; refine zr ?_; refine zf ?_; (first | (exact ⟨_, rfl, (by rw [hgo, if_neg (by simpa using hc)]), cx, St.refl hS, hS.sp⟩) | (exact ⟨_, rfl, hgo ▸ rfl, cx, St.refl hS, hS.sp⟩) | (exact ⟨_, rfl, (by rw [hgo, if_pos (by omega)]), c5, hle5, hS.sp⟩) | (exact ⟨_, rfl, (by rw [hgo, if_neg (by omega)]), c5, hle5, hS.sp⟩)))
theorem new_u {n : Int} (hS : St cx w L) : Rets Try.prog QoN [.int .i64 n] w fun u w' => ∃ hp v, u = .pointer (some ⟨hp, 0, none⟩) ∧ St cx w' (blk hp 129 [v] :: sl 4 1 v ((List.replicate (min n 16).toNat true).map Q16) :: L) := by
  all_goals refine Qne ?_
  all_goals (unfold held_New_lc; refine Q0 ?_; refine Q1 ?_; refine zm ?_; refine zn ?_; refine Q0 ?_; refine Q1 ?_; refine zb0 [_] ?_; refine zb hS ?_; intro p5 w1 hS; refine zm ?_; refine zn ?_; refine Q0 ?_; refine Q0 ?_; refine Q1 ?_; refine zm ?_; refine s_min rfl rfl ?_; refine zm ?_; refine zn ?_; refine Qb ?_; have hS := St.nil (T := 4) (es := 1) hS)
  refine zo [3, 7] (fun A ρ' w' => ∃ (j : Nat) (v : Value), Has ρ' A ∧ Has ρ' [(8, .int .i64 j)] ∧ (j ≤ (min n 16).toNat) ∧ St cx w' (sl 4 1 v ((List.replicate j true).map Q16) :: blk p5 129 [v] :: L)) (fun ρ' _ => (min n 16 - iv (ρ' 8)).toNat) ?_ ?_
  · exact ⟨0, _, zh, zh, (by omega), hS.sp⟩
  rintro ρ w1 ⟨j, v, hA, hρ, hj, hS⟩; obtain ⟨ρ, rfl⟩ := env2 hA hρ
  unfold QeQ
  all_goals (refine Q0 ?_; refine Q1 ?_; refine QC rfl rfl ?_; refine zn ?_; refine Q0 ?_)
  refine Qy rfl (fun hc => ?_) (fun hc => ?_)
  · skip
    all_goals (refine zsk ?_; refine Q0 ?_; refine Qb ?_; refine Q1 ?_; refine zm ?_; refine zm ?_; refine QA rfl ?_; refine Q2 rfl ?_; refine zl hS ?_; refine zB1 hS [_] ?_; intro b1 w1 hS; refine Qop Qnh (.inl u_T127) hS vw vw fd (hS.srcB1 fd rfl) (by simp; omega) ?_; intro vp w2 hS; have hS := hS.ns; rw [show (List.replicate j true).map Q16 ++ [[Value.bool true]] = (List.replicate (j + 1) true).map Q16 by rw [List.replicate_succ', List.map_append]; rfl] at hS; refine QA rfl ?_; refine Q2 rfl ?_; refine zst hS ?_; intro w1 hS; have hS := hS.ns; refine zn ?_; refine Q1 ?_; refine zad ?_; refine zm ?_; refine zn ?_; exact ⟨⟨j + 1, _, zh, zh, (by omega), hS.sp⟩, Qx (by omega)⟩)
  · skip
    all_goals (refine zex ?_; refine Q0 ?_; refine Q1 ?_; refine zm ?_; refine zm ?_; refine zn ?_; refine zr ?_; refine zf ?_; exact ⟨_, rfl, _, v, rfl, (by rw [show (min n 16).toNat = j by omega]; exact hS.sp)⟩)
end Go.Proofs.Ytanlkfeogoganaa
