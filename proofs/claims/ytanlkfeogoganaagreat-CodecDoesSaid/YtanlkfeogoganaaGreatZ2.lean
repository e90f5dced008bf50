/- Lemmas of the proof, part 2: what the functions of the program do (contracts), and what follows. -/
import Derived.Test.YtanlkfeogoganaaGreatZ1
import Derived.Laws.IdiomStrings
import Derived.Lib.Strings
import Derived.Test.YtanlkfeogoganaaGreatProg
import Derived.Recover
namespace Go.Lir

theorem SlR.turn {H H' : Heap} {es : Nat} {v : Value} {F G : Nat → Prop} {css : List (List Value)} (h : SlR H es v F css) (hs : ∀ b, F b → b < H.size → G b ∧ H'[b]? = H[b]?) : SlR H' es v G css := by
  obtain ⟨h0, a, cap, hv, hlc, hc | ⟨b, off, ha, hF, hb, hat⟩⟩ := h
  · exact ⟨h0, a, cap, hv, hlc, .inl hc⟩
  · obtain ⟨h1, h2⟩ := hs b hF hb
    refine ⟨h0, a, cap, hv, hlc, .inr ⟨b, off, ha, h1, ?_, fun m c hm => (hat m c hm).of_same h2⟩⟩
    rcases Nat.lt_or_ge b H'.size with h | h
    · exact h
    · rw [Array.getElem?_eq_none h, Array.getElem?_eq_getElem hb] at h2; cases h2

/-- A kind of data: what cells (that lie in K, and what they lead to) say. -/
structure Rep (α : Type) where
  es : Nat
  pos : 0 < es
  R : Heap → (Nat → Prop) → List Value → α → Prop
  len : ∀ {H : Heap} {K : Nat → Prop} {cs : List Value} {x : α}, R H K cs x → cs.length = es
  one : ∀ {H : Heap} {K : Nat → Prop} {cs : List Value} {x : α}, R H K cs x → ∀ u ∈ cs, oneC u = true
  turn : ∀ {H H' : Heap} {K K' : Nat → Prop} {cs : List Value} {x : α}, R H K cs x → (∀ b, K b → b < H.size → K' b ∧ H'[b]? = H[b]?) → R H' K' cs x

section
variable {α β : Type}
/-- Rows of cells that are the parts of a list. -/
def Rep.LR (r : Rep α) (H : Heap) (K : Nat → Prop) (css : List (List Value)) (l : List α) : Prop := css.length = l.length ∧ ∀ (m : Nat) (x : α), l[m]? = some x → ∃ d, css[m]? = some d ∧ r.R H K d x
/-- A slice that reads as the list. -/
def Rep.SR (r : Rep α) (H : Heap) (K : Nat → Prop) (v : Value) (l : List α) : Prop := ∃ css, SlR H r.es v K css ∧ r.LR H K css l ∧ l.length ≤ 140737488355328
theorem Rep.LR.turn {r : Rep α} {H H' : Heap} {K K' : Nat → Prop} {css : List (List Value)} {l : List α} (h : r.LR H K css l) (hs : ∀ b, K b → b < H.size → K' b ∧ H'[b]? = H[b]?) : r.LR H' K' css l :=
  ⟨h.1, fun m x hx => by obtain ⟨d, h1, h2⟩ := h.2 m x hx; exact ⟨d, h1, r.turn h2 hs⟩⟩
theorem Rep.SR.turn {r : Rep α} {H H' : Heap} {K K' : Nat → Prop} {v : Value} {l : List α} (h : r.SR H K v l) (hs : ∀ b, K b → b < H.size → K' b ∧ H'[b]? = H[b]?) : r.SR H' K' v l := by
  obtain ⟨css, h1, h2, h3⟩ := h
  exact ⟨css, h1.turn hs, h2.turn hs, h3⟩
theorem Rep.LR.nil (r : Rep α) (H : Heap) (K : Nat → Prop) : r.LR H K [] [] := ⟨rfl, by simp⟩
theorem Rep.LR.push {r : Rep α} {H : Heap} {K : Nat → Prop} {css : List (List Value)} {l : List α} {d : List Value} {x : α} (h : r.LR H K css l) (hd : r.R H K d x) : r.LR H K (css ++ [d]) (l ++ [x]) := by
  refine ⟨by simp [h.1], fun m y hy => ?_⟩
  rcases Nat.lt_or_ge m l.length with hm | hm
  · rw [List.getElem?_append_left hm] at hy
    rw [List.getElem?_append_left (by rw [h.1]; exact hm)]
    exact h.2 m y hy
  · rw [List.getElem?_append_right hm] at hy
    rw [List.getElem?_append_right (by rw [h.1]; exact hm), h.1]
    obtain ⟨i, hi⟩ : ∃ i, m - l.length = i := ⟨_, rfl⟩
    rw [hi] at hy ⊢
    cases i with
    | zero => simp only [List.getElem?_cons_zero, Option.some.injEq] at hy; subst hy; exact ⟨d, rfl, hd⟩
    | succ i => simp at hy
theorem Rep.LR.append {r : Rep α} {H : Heap} {K : Nat → Prop} {css css2 : List (List Value)} {l l2 : List α} (h : r.LR H K css l) (h2 : r.LR H K css2 l2) : r.LR H K (css ++ css2) (l ++ l2) := by
  refine ⟨by simp [h.1, h2.1], fun m y hy => ?_⟩
  rcases Nat.lt_or_ge m l.length with hm | hm
  · rw [List.getElem?_append_left hm] at hy
    rw [List.getElem?_append_left (by rw [h.1]; exact hm)]
    exact h.2 m y hy
  · rw [List.getElem?_append_right hm] at hy
    rw [List.getElem?_append_right (by rw [h.1]; exact hm), h.1]
    exact h2.2 _ y hy
theorem Rep.LR.set {r : Rep α} {H : Heap} {K : Nat → Prop} {css : List (List Value)} {l : List α} {d : List Value} {x : α} {i : Nat} (h : r.LR H K css l) (hd : r.R H K d x) : r.LR H K (css.set i d) (l.set i x) := by
  refine ⟨by simp [h.1], fun m y hy => ?_⟩
  rw [List.getElem?_set] at hy ⊢
  by_cases he : i = m
  · rw [if_pos he] at hy ⊢
    rw [h.1]
    split at hy
    · rename_i hm; rw [if_pos hm]; cases hy; exact ⟨d, rfl, hd⟩
    · cases hy
  · rw [if_neg he] at hy ⊢
    exact h.2 m y hy
theorem Rep.LR.sub {r : Rep α} {H : Heap} {K : Nat → Prop} {css : List (List Value)} {l : List α} (h : r.LR H K css l) (i j : Nat) : r.LR H K ((css.take j).drop i) ((l.take j).drop i) := by
  refine ⟨by simp [h.1], fun m y hy => ?_⟩
  rw [List.getElem?_drop] at hy ⊢
  have hlt := (List.getElem?_eq_some_iff.1 hy).1
  rw [List.length_take] at hlt
  rw [List.getElem?_take_of_lt (by omega)] at hy ⊢
  exact h.2 _ y hy
theorem Rep.LR.one {r : Rep α} {H : Heap} {K : Nat → Prop} {css : List (List Value)} {l : List α} (h : r.LR H K css l) : ∀ c ∈ css, ∀ u ∈ c, oneC u = true := by
  intro c hc
  obtain ⟨m, hm⟩ := List.mem_iff_getElem?.1 hc
  have hlt := (List.getElem?_eq_some_iff.1 hm).1
  obtain ⟨d, h1, h2⟩ := h.2 m _ (List.getElem?_eq_getElem (by rw [← h.1]; exact hlt))
  rw [hm] at h1; cases h1
  exact r.one h2
theorem Rep.SR.oneC {r : Rep α} {H : Heap} {K : Nat → Prop} {v : Value} {l : List α} (h : r.SR H K v l) : Go.Lir.oneC v = true := by
  obtain ⟨css, h1, _⟩ := h; exact SlR.oneC h1
theorem Rep.SR.nil (r : Rep α) (H : Heap) (K : Nat → Prop) : r.SR H K (.slice none 0 0) [] := ⟨[], ⟨by simp, none, 0, rfl, Nat.le_refl _, .inl rfl⟩, .nil r H K, by simp⟩
theorem Rep.SR.len {r : Rep α} {H : Heap} {K : Nat → Prop} {v : Value} {l : List α} (h : r.SR H K v l) : l.length ≤ 140737488355328 := by obtain ⟨_, _, _, h⟩ := h; exact h
theorem Rep.SR.shape {r : Rep α} {H : Heap} {K : Nat → Prop} {v : Value} {l : List α} (h : r.SR H K v l) : ∃ a c, v = .slice a l.length c := by
  obtain ⟨css, h1, h2, _⟩ := h
  obtain ⟨a, c, hv⟩ := SlR.shape h1
  exact ⟨a, c, by rw [← h2.1]; exact hv⟩

def Rep.lit (f : α → Value) (hf : ∀ x, oneC (f x) = true) : Rep α where
  es := 1
  pos := by decide
  R := fun _ _ cs x => cs = [f x]
  len := by rintro _ _ _ _ rfl; rfl
  one := by rintro _ _ _ x rfl u hu; simp at hu; subst hu; exact hf x
  turn := fun h _ => h
def intR : Rep Int := Rep.lit (fun n => .int .i64 n) (fun _ => rfl)
def Rep.list (r : Rep α) : Rep (List α) where
  es := 1
  pos := by decide
  R := fun H K cs l => ∃ v, cs = [v] ∧ r.SR H K v l
  len := by rintro _ _ _ _ ⟨v, rfl, _⟩; rfl
  one := by rintro _ _ _ _ ⟨v, rfl, h⟩ u hu; simp at hu; subst hu; exact h.oneC
  turn := by rintro _ _ _ _ _ _ ⟨v, rfl, h⟩ hs; exact ⟨v, rfl, h.turn hs⟩
def Rep.and (r : Rep α) (p : α → Prop) : Rep α where
  es := r.es
  pos := r.pos
  R := fun H K cs x => r.R H K cs x ∧ p x
  len := fun h => r.len h.1
  one := fun h => r.one h.1
  turn := fun h hs => ⟨r.turn h.1 hs, h.2⟩
def tyR : Rep Ty where
  es := 3
  pos := by decide
  R := fun H K cs t => ∃ n, tyRd H K n cs t
  len := by rintro _ _ _ _ ⟨n, h⟩; exact h.len
  one := by
    rintro _ _ _ _ ⟨n, h⟩
    cases n with
    | zero => exact h.elim
    | succ n =>
      obtain ⟨v, css, rfl, h2, _⟩ := h
      intro u hu; simp at hu
      rcases hu with rfl | rfl | rfl
      · rfl
      · rfl
      · exact SlR.oneC h2
  turn := by rintro _ _ _ _ _ _ ⟨n, h⟩ hs; exact ⟨n, h.turn fun v css hv => hv.turn hs⟩
theorem QX {H : Heap} {K : Nat → Prop} {cs : List Value} {t : Ty} (h : tyR.R H K cs t) : ∃ v, cs = [.int .i64 t.kind, .int .i64 t.r, v] ∧ tyR.SR H K v t.l := by
  obtain ⟨n, h⟩ := h
  cases n with
  | zero => exact h.elim
  | succ n =>
    obtain ⟨v, css, h1, h2, h3, h4, h5⟩ := h
    exact ⟨v, h1, css, h2, ⟨h3, fun m x hx => by obtain ⟨d, h6, h7⟩ := h5 m x hx; exact ⟨d, h6, n, h7⟩⟩, h4⟩
theorem QsU {H : Heap} {K : Nat → Prop} {k r : Int} {v : Value} {l : List Ty} (h : tyR.SR H K v l) : tyR.R H K [.int .i64 k, .int .i64 r, v] (.mk k r l) := by
  obtain ⟨css, h1, h2, h3⟩ := h
  obtain ⟨n, hn⟩ := QrY (xs := List.range l.length) (R := fun n m => ∀ x, l[m]? = some x → ∃ d, css[m]? = some d ∧ tyRd H K n d x) (fun n m i hnm hr x hx => by obtain ⟨d, h1, h2⟩ := hr x hx; exact ⟨d, h1, h2.more hnm⟩) (fun m hm => by
    have hlt := List.mem_range.1 hm
    obtain ⟨d, h4, n, h5⟩ := h2.2 m _ (List.getElem?_eq_getElem hlt)
    exact ⟨n, fun x hx => by rw [List.getElem?_eq_getElem hlt] at hx; cases hx; exact ⟨d, h4, h5⟩⟩)
  exact ⟨n + 1, v, css, rfl, h1, h2.1, h3, fun m x hx => hn m (List.mem_range.2 (List.getElem?_eq_some_iff.1 hx).1) x hx⟩

/-! what is only read -/
abbrev Rep.at (r : Rep α) (c : Cx) (cs : List Value) (x : α) : Prop := r.R c.H0 c.K cs x
abbrev Rep.sl (r : Rep α) (c : Cx) (v : Value) (l : List α) : Prop := r.SR c.H0 c.K v l
abbrev Rep.ls (r : Rep α) (c : Cx) (css : List (List Value)) (l : List α) : Prop := r.LR c.H0 c.K css l
theorem Cx.Le.turn {c c' : Cx} (h : c.Le c') : ∀ b, c.K b → b < c.H0.size → c'.K b ∧ c'.H0[b]? = c.H0[b]? := fun b hb _ => h.K b hb
theorem Rep.R.up {r : Rep α} {c c' : Cx} {cs : List Value} {x : α} (h : r.at c cs x) (hle : c.Le c') : r.at c' cs x := r.turn h hle.turn
theorem Rep.SR.up {r : Rep α} {c c' : Cx} {v : Value} {l : List α} (h : r.sl c v l) (hle : c.Le c') : r.sl c' v l := Rep.SR.turn h hle.turn
theorem Rep.LR.up {r : Rep α} {c c' : Cx} {v : List (List Value)} {l : List α} (h : r.ls c v l) (hle : c.Le c') : r.ls c' v l := Rep.LR.turn h hle.turn
/-- From here on an own list is only read. -/
theorem St.freezeL {r : Rep α} {c : Cx} {w : World} {L : List Res} {T : TypeId} {es : Nat} {v : Value} {css : List (List Value)} {l : List α} (h : St c w (sl T es v css :: L)) (hl : r.ls c css l) (hes : r.es = es) (hm : l.length ≤ 140737488355328) : ∃ c', c.Le c' ∧ St c' w L ∧ r.sl c' v l := by
  subst hes
  obtain ⟨c', h1, h2, h3⟩ := h.freezeS
  exact ⟨c', h1, h2, css, h3, hl.up h1, hm⟩
theorem Rep.SR.ints {c : Cx} {v : Value} {l : List Int} (h : intR.sl c v l) : FzS c 1 v (l.map icell) := by
  obtain ⟨css, h1, h2, h3⟩ := h
  have : css = l.map icell := by
    apply List.ext_getElem?
    intro m
    rw [List.getElem?_map]
    rcases Nat.lt_or_ge m l.length with hm | hm
    · obtain ⟨d, h4, h5⟩ := h2.2 m _ (List.getElem?_eq_getElem hm)
      have h5 : d = [_] := h5
      rw [h4, List.getElem?_eq_getElem hm, h5]; rfl
    · rw [List.getElem?_eq_none (by rw [h2.1]; exact hm), List.getElem?_eq_none hm]; rfl
  rw [this] at h1; exact h1
theorem FzS.ints {c : Cx} {v : Value} {l : List Int} (h : FzS c 1 v (l.map icell)) (hm : l.length ≤ 140737488355328) : intR.sl c v l :=
  ⟨_, h, ⟨by simp, fun m x hx => ⟨icell x, by rw [List.getElem?_map, hx]; rfl, rfl⟩⟩, hm⟩

section
variable {P : Program} {l : List GO} {Q : QT} {ρ : Env} {w : World} {c : Cx} {L : List Res} {r : Rep α} {xs : List α} {v : Value} {es : Nat}
theorem s_idxL {d : Nat} {x y : Operand} {k : IntKind} {n : Int} (hx : ρ.ev x = v) (hy : ρ.ev y = .int k n) (hK : r.sl c v xs) (hes : r.es = es) (h0 : 0 ≤ n) (hn : n < xs.length)
    (h : ∀ b o cs a, AtK c b o cs → xs[n.toNat]? = some a → r.at c cs a → Q5 P l Q (upd ρ d (.pointer (some ⟨b, o, none⟩))) w) : Q5 P (⟨none, .idx d es x y⟩ :: l) Q ρ w := by
  subst hes
  obtain ⟨css, h1, h2, h3⟩ := hK
  have hn' : n.toNat < xs.length := by omega
  obtain ⟨cs, h4, h5⟩ := h2.2 n.toNat _ (List.getElem?_eq_getElem hn')
  exact s_idxK (m := n.toNat) hx (by rw [hy, Int.toNat_of_nonneg h0]) h1 h4 fun b o hb => h b o cs _ hb (List.getElem?_eq_getElem hn') h5
theorem Q44 {d m : Nat} {x y : Operand} {k : IntKind} (hx : ρ.ev x = v) (hy : ρ.ev y = .int k (m : Int)) (hK : r.sl c v xs) (hes : r.es = es) (hn : m < xs.length)
    (h : ∀ b o cs a, AtK c b o cs → xs[m]? = some a → r.at c cs a → Q5 P l Q (upd ρ d (.pointer (some ⟨b, o, none⟩))) w) : Q5 P (⟨none, .idx d es x y⟩ :: l) Q ρ w := by
  subst hes
  obtain ⟨css, h1, h2, h3⟩ := hK
  obtain ⟨cs, h4, h5⟩ := h2.2 m _ (List.getElem?_eq_getElem hn)
  exact s_idxK (m := m) hx hy h1 h4 fun b o hb => h b o cs _ hb (List.getElem?_eq_getElem hn) h5
theorem Q7 {l : List α} {m : Nat} {x : α} (h : l[m]? = some x) : l.drop m = x :: l.drop (m + 1) := by
  obtain ⟨hm, rfl⟩ := List.getElem?_eq_some_iff.1 h
  exact List.drop_eq_getElem_cons hm
theorem Q4M {l : List α} {m : Nat} {x : α} (h : l[m]? = some x) : l.take (m + 1) = l.take m ++ [x] := by
  rw [List.take_add_one, h]; rfl
theorem Q25 {cs : List Value} {n : Int} (h : intR.at c cs n) : cs = [.int .i64 n] := h
theorem QfU : ∀ {L : List Res} {i : Nat} {a a' : Res}, nth L i = some a → nth (L.set i a') i = some a'
  | [], _, _, _, h => by cases h
  | _ :: _, 0, _, _, _ => rfl
  | _ :: L, i + 1, _, _, h => QfU (L := L) (i := i) h
/-- append of one element that was just built. -/
theorem s_appR1 {T T' d Ts Ts2 Ty nb i k b : Nat} {z : List Value} {x y : Operand} {ds : List Value} {css : List (List Value)} {a : α} (hel : Q3M P Ts = some (T, es, nb, z))
    (hts : ∃ e2, P.underlying Ts2 = some (.slice e2)) (hS : St c w L) (hx : ρ.ev x = v) (hy : ρ.ev y = .slice (some ⟨b, 0, none⟩) 1 1) (hi : nth L i = some (Go.Lir.sl T es v css)) (hk : nth L k = some (blk b T' ds)) (hls : r.ls c css xs) (ha : r.at c ds a) (hes : r.es = es) (hb : (xs.length + 1) * nb ≤ 140737488355328)
    (h : ∀ v' w' css', r.ls c css' (xs ++ [a]) → oneC v' = true → St c w' (L.set i (Go.Lir.sl T es v' css')) → Q5 P l Q (upd ρ d v') w') : Q5 P (⟨none, .raw ⟨some d, .call ⟨.builtin .append, #[x, y], #[Ts, Ts2]⟩, Ty, "", #[], none⟩⟩ :: l) Q ρ w :=
  QuD hel (.inl hts) hS hx hy hi (hS.srcB hk ((r.len ha).trans hes) (r.one ha)) (by rw [hls.1]; exact hb) fun v' w' hS' => h v' w' _ (hls.push ha) (hS'.oneC (QfU hi)) hS'
/-- append of a list that is read. -/
theorem s_appRK {T d Ts Ts2 Ty nb i : Nat} {z : List Value} {x y : Operand} {v2 : Value} {css : List (List Value)} {ys : List α} (hel : Q3M P Ts = some (T, es, nb, z))
    (hts : ∃ e2, P.underlying Ts2 = some (.slice e2)) (hS : St c w L) (hx : ρ.ev x = v) (hy : ρ.ev y = v2) (hi : nth L i = some (Go.Lir.sl T es v css)) (hls : r.ls c css xs) (hK : r.sl c v2 ys) (hes : r.es = es) (hb : (xs.length + ys.length) * nb ≤ 140737488355328)
    (h : ∀ v' w' css', r.ls c css' (xs ++ ys) → oneC v' = true → St c w' (L.set i (Go.Lir.sl T es v' css')) → Q5 P l Q (upd ρ d v') w') : Q5 P (⟨none, .raw ⟨some d, .call ⟨.builtin .append, #[x, y], #[Ts, Ts2]⟩, Ty, "", #[], none⟩⟩ :: l) Q ρ w := by
  subst hes
  obtain ⟨css2, h1, h2, h3⟩ := hK
  exact QuD hel (.inl hts) hS hx hy hi (FzS.src h1 hS h2.one) (by rw [hls.1, h2.1]; exact hb) fun v' w' hS' => h v' w' _ (hls.append h2) (hS'.oneC (QfU hi)) hS'
/-- append of an own list. -/
theorem Qk {T T2 d Ts Ts2 Ty nb i k : Nat} {z : List Value} {x y : Operand} {v2 : Value} {css css2 : List (List Value)} {ys : List α} (hel : Q3M P Ts = some (T, es, nb, z))
    (hts : ∃ e2, P.underlying Ts2 = some (.slice e2)) (hS : St c w L) (hx : ρ.ev x = v) (hy : ρ.ev y = v2) (hi : nth L i = some (Go.Lir.sl T es v css)) (hk : nth L k = some (Go.Lir.sl T2 es v2 css2)) (hls : r.ls c css xs) (hls2 : r.ls c css2 ys) (hb : (xs.length + ys.length) * nb ≤ 140737488355328)
    (h : ∀ v' w' css', r.ls c css' (xs ++ ys) → oneC v' = true → St c w' (L.set i (Go.Lir.sl T es v' css')) → Q5 P l Q (upd ρ d v') w') : Q5 P (⟨none, .raw ⟨some d, .call ⟨.builtin .append, #[x, y], #[Ts, Ts2]⟩, Ty, "", #[], none⟩⟩ :: l) Q ρ w :=
  QuD hel (.inl hts) hS hx hy hi (hS.srcS hk hls2.one) (by rw [hls.1, hls2.1]; exact hb) fun v' w' hS' => h v' w' _ (hls.append hls2) (hS'.oneC (QfU hi)) hS'
/-- A call of a function value, without and with what it holds. -/
theorem Quw {d : Nat} {x : Operand} {os : List Operand} {f : FuncId} {args : List Value} {S : Value → World → Prop} (hx : ρ.ev x = .func (.func f) #[] #[]) (hf : Q3A P f = true) (hxs : os.map ρ.ev = args) (hc : Rets P f args w S)
    (h : ∀ v w', S v w' → Q5 P l Q (upd ρ d v) w') : Q5 P (⟨none, .callv (some d) x os⟩ :: l) Q ρ w := by
  unfold Q3A at hf
  rw [Option.any_eq_true] at hf
  obtain ⟨fn, h1, h2⟩ := hf
  rw [Bool.and_eq_true, Bool.not_eq_true'] at h2
  refine s_callv (cap := []) hx h1 h2.1 h2.2 (by rw [hxs, List.append_nil]) hc ?_
  rintro e w' ⟨v, rfl, hv⟩
  exact h v w' hv
theorem Qq2 {d : Nat} {x : Operand} {b o : Nat} {cs : List Value} {u : Value} (hS : St c w L) (ha : AtK c b o cs) (hx : ρ.ev x = .pointer (some ⟨b, o, none⟩)) (hu : cs[0]? = some u) : gqv P ρ w ⟨none, .load1 d x⟩ u := QmE (j := 0) hS ha hx hu
theorem Qm2 {d n : Nat} {x : Operand} {b o : Nat} {cs us : List Value} (hS : St c w L) (ha : AtK c b o cs) (hx : ρ.ev x = .pointer (some ⟨b, o, none⟩)) (hu : cs.take n = us) (hl : us.length = n) : gqv P ρ w ⟨none, .loadn d n x⟩ (.agg ⟨us⟩) := QgA (j := 0) hS ha hx hu hl
/-- A whole block is written anew. -/
theorem Quu {n i b T : Nat} {x y : Operand} {cs us : List Value} (hS : St c w L) (hx : ρ.ev x = .pointer (some ⟨b, 0, none⟩)) (hy : ρ.ev y = .agg ⟨us⟩) (hn : us.length = n) (hi : nth L i = some (blk b T cs)) (hc : cs.length = n) (h1 : ∀ u ∈ us, oneC u = true)
    (h : ∀ w', St c w' (L.set i (blk b T us)) → Q5 P l Q ρ w') : Q5 P (⟨none, .storen n x y⟩ :: l) Q ρ w :=
  QpC hS hx hy hn hi (by omega) h1 (by simp; omega) h
theorem Qap : ∀ {a b : List GO} {Q : QT} {ρ : Env} {w : World}, Q5 P a (QN (Q5 P b Q) Q) ρ w → Q5 P (a ++ b) Q ρ w
  | [], _, _, _, _, h => h
  | ⟨none, o⟩ :: a, b, Q, ρ, w, h => by
    simp only [List.cons_append, Q5] at h ⊢
    exact Qaa (fun ρ w h => Qap h) (fun e ρ w hn h => by cases e <;> first | exact h | exact absurd rfl hn) h
  | ⟨some (s, b'), o⟩ :: a, b, Q, ρ, w, h => by
    simp only [List.cons_append, Q5] at h ⊢
    split
    · rename_i hw
      rw [if_pos hw] at h
      exact Qaa (fun ρ w h => Qap h) (fun e ρ w hn h => by cases e <;> first | exact h | exact absurd rfl hn) h
    · rename_i hw
      rw [if_neg hw] at h
      exact Qap h
/-- An assertion between two parts of a row of operations. -/
theorem s_cut {l : List GO} (n : Nat) (J : Env → World → Prop) (ha : Q5 P (l.take n) (QN J Q) ρ w) (hb : ∀ ρ w, J ρ w → Q5 P (l.drop n) Q ρ w) : Q5 P l Q ρ w := by
  rw [← List.take_append_drop n l]
  exact Qap (QbK (Q7B hb fun _ _ _ h => h) ha)
theorem s_lenL {d : Nat} {x : Operand} (hx : ρ.ev x = v) (hK : r.sl c v xs) (h : Q5 P l Q (upd ρ d (.int .i64 xs.length)) w) : Q5 P (⟨none, .len d x⟩ :: l) Q ρ w := by
  obtain ⟨css, h1, h2, h3⟩ := hK
  exact Quz hx h1 h2.1 h
theorem QpB {d : Nat} {x : Operand} {lo hi mx : Option Operand} {l' h' : Nat} (hx : ρ.ev x = v) (hK : r.sl c v xs) (hes : r.es = es) (hmx : mx = none) (hh : bnd ρ xs.length hi h') (hl : bnd ρ 0 lo l') (h2 : h' ≤ xs.length) (h3 : l' ≤ h')
    (h : ∀ v', r.sl c v' ((xs.take h').drop l') → Q5 P l Q (upd ρ d v') w) : Q5 P (⟨none, .sub d es x lo hi mx⟩ :: l) Q ρ w := by
  subst hes
  obtain ⟨css, h1, g2, g3⟩ := hK
  exact s_subK hx h1 hmx (by rw [g2.1]; exact hh) hl (by rw [g2.1]; exact h2) h3 fun v' hv => h v' ⟨_, hv, g2.sub _ _, by simp; omega⟩
end
end

/-! ### data that came in -/
section
variable {P : Program} {T e : TypeId} {α β : Type}
/-- What a codec reads, seen as a kind of data. -/
def Cod.rep (c : Cod P T α) (r : Rep β) (hs : c.es = r.es) (h : ∀ (H : Heap) cs x, c.rd H cs x → ∃ y, r.R H (· < H.size) cs y) : Cod P T β where
  es := r.es
  rd := fun H cs y => r.R H (· < H.size) cs y
  size := by rw [← hs]; exact c.size
  len := fun _ _ _ h => r.len h
  stay := fun H H' cs x hx hH => r.turn hx fun b hb hlt => by
    have := hH b hlt
    refine ⟨?_, this⟩
    rcases Nat.lt_or_ge b H'.size with h | h
    · exact h
    · rw [Array.getElem?_eq_none h, Array.getElem?_eq_getElem hlt] at this; cases this
  open_ := fun enc w fuel cs y hy hfit => by
    obtain ⟨x, hx⟩ := c.open_ enc w fuel cs y hy hfit
    exact h _ _ _ hx
/-- A list of a kind of data. -/
theorem list_rd {r : Rep α} {n : Nat} {H : Heap} {cs : List Value} {xs : List α} (hn : r.es = n)
    (h : ∃ v css, cs = [v] ∧ SlR H n v (fun _ => True) css ∧ css.length = xs.length ∧ xs.length ≤ 140737488355328 ∧ ∀ (m : Nat) (x : α), xs[m]? = some x → ∃ d, css[m]? = some d ∧ r.R H (· < H.size) d x) : r.list.R H (· < H.size) cs xs := by
  obtain ⟨v, css, rfl, h1, h2, h3, h4⟩ := h
  subst hn
  exact ⟨v, rfl, css, SlR.mono h1 fun b hb _ => hb, ⟨h2, h4⟩, h3⟩
def Cod.listOf (c : Cod P e β) (r : Rep β) (hs : c.es = r.es) (h : ∀ (H : Heap) cs x, c.rd H cs x → r.R H (· < H.size) cs x) (ht : P.underlying T = some (.slice e)) (h1 : P.cellsOf T = 1) (hby : decide (0 < P.bytesOf e) = true) : Cod P T (List β) :=
  Cod.rep (Cod.slice c ht h1 (by rw [hs]; exact r.pos) hby) r.list rfl fun H cs x hx => ⟨x, list_rd hs.symm (by
    obtain ⟨v, css, g1, g2, g3, g4, g5⟩ := hx
    exact ⟨v, css, g1, g2, g3, g4, fun m y hy => by obtain ⟨d, g6, g7⟩ := g5 m y hy; exact ⟨d, g6, h _ _ _ g7⟩⟩)⟩
/-- A kind of data by itself: the codec's reading is the kind's. -/
structure Cod.Of (P : Program) (T : TypeId) {α : Type} (r : Rep α) where
  cod : Cod P T α
  es : cod.es = r.es
  rd : ∀ (H : Heap) cs x, cod.rd H cs x → r.R H (· < H.size) cs x
def Cod.of (c : Cod P T α) (r : Rep β) (hs : c.es = r.es) (h : ∀ (H : Heap) cs x, c.rd H cs x → ∃ y, r.R H (· < H.size) cs y) : Cod.Of P T r := ⟨Cod.rep c r hs h, rfl, fun _ _ _ h => h⟩
def Cod.Of.list {r : Rep α} (c : Cod.Of P e r) (ht : P.underlying T = some (.slice e)) (h1 : P.cellsOf T = 1) (hby : decide (0 < P.bytesOf e) = true) : Cod.Of P T r.list := ⟨Cod.listOf c.cod r c.es c.rd ht h1 hby, rfl, fun _ _ _ h => h⟩
def Cod.Of.int (ht : P.underlying T = some (.int .i64)) (hs : P.cellsOf T = 1) : Cod.Of P T intR := Cod.of (Cod.int .i64 ht hs) intR rfl fun _ _ x h => ⟨x, h.1⟩
def Cod.Of.ty {TL t0 t1 : TypeId} (h0 : fieldAt P T 0 = some (0, 1, t0)) (h1 : fieldAt P T 1 = some (1, 1, t1)) (h2 : fieldAt P T 2 = some (2, 1, TL)) (hi0 : P.underlying t0 = some (.int .i64)) (hi1 : P.underlying t1 = some (.int .i64)) (hT : P.cellsOf T = 3) (hTL : P.underlying TL = some (.slice T)) (hby : decide (0 < P.bytesOf T) = true) : Cod.Of P T tyR :=
  ⟨Cod.ty h0 h1 h2 hi0 hi1 hT hTL hby, rfl, fun _ _ _ h => h⟩
theorem Cod.Of.top {r : Rep α} (c : Cod.Of P T r) {w : World} {cs : List Value} {x : α} (h : c.cod.rd w.heap cs x) : r.at (Cx.top w) cs x := c.rd _ _ _ h
end
end Go.Lir
namespace Go.Lir
def QB (b : UInt8) : List Value := [.int .u8 (b.toNat : Int)]
def u8R : Rep UInt8 := Rep.lit (fun b => .int .u8 (b.toNat : Int)) (fun _ => rfl)
theorem Q35 {c : Cx} {cs : List Value} {b : UInt8} (h : u8R.at c cs b) : cs = [.int .u8 (b.toNat : Int)] := h
theorem Qa {c : Cx} (l : List UInt8) : u8R.ls c (l.map QB) l := ⟨by simp, fun m x hx => ⟨QB x, by rw [List.getElem?_map, hx]; rfl, rfl⟩⟩
theorem Rep.LR.u8 {r : Rep UInt8} {H : Heap} {K : Nat → Prop} {css : List (List Value)} {l : List UInt8} (hr : r = u8R) (h : r.LR H K css l) : css = l.map QB := by
  subst hr
  apply List.ext_getElem?
  intro m
  rw [List.getElem?_map]
  rcases Nat.lt_or_ge m l.length with hm | hm
  · obtain ⟨d, h4, h5⟩ := h.2 m _ (List.getElem?_eq_getElem hm)
    have h5 : d = [_] := h5
    rw [h4, List.getElem?_eq_getElem hm, h5]; rfl
  · rw [List.getElem?_eq_none (by rw [h.1]; exact hm), List.getElem?_eq_none hm]; rfl
section
variable {P : Program} {l : List GO} {Q : QT} {ρ : Env} {w : World} {c : Cx} {L : List Res} {v : Value}
theorem QrH (s : List UInt8) : (s.map QB).flatten = s.map fun b => Value.int .u8 (b.toNat : Int) := by
  induction s with
  | nil => rfl
  | cons b s ih => simp [QB, ih]
/-- []byte(s) -/
theorem s_bytes {d src dst e Ty : Nat} {x : Operand} {s : ByteArray} (hs : P.underlying src = some .string) (hd : P.underlying dst = some (.slice e)) (he : P.underlying e = some (.int .u8)) (hS : St c w L) (hx : ρ.ev x = .string s)
    (h : ∀ v' w', St c w' (sl e 1 v' (s.data.toList.map QB) :: L) → Q5 P l Q (upd ρ d v') w') : Q5 P (⟨none, .raw ⟨some d, .convert src dst x, Ty, "", #[], none⟩⟩ :: l) Q ρ w := by
  have hr := run_bytes_of_string (P := P) w src dst e s hs hd he
  have hge := grownCap_ge w s.size 0 e
  generalize hcap : grownCap w s.size 0 e = cap at hr hge
  refine Q19 (v := .slice (some ⟨w.heap.size, 0, none⟩) s.size cap) (w' := w.drew.alloc (.cells (bytesRow s cap) e ((bytesRow s cap).size, (bytesRow s cap).size + 1))) ?_ ?_
  · simp only [execOp, hx, Sem.run_bind, hr, Result.andThen_ok, Sem.run_pure]
  · have hsz : s.data.size = s.size := rfl
    have hrow : (bytesRow s cap).size = cap := by simp [bytesRow]; omega
    refine h _ _ (hS.new (F' := (· = w.heap.size)) ?_ (((Fr.refl NF w).drew').then0 (Qav w.drew _)) fun b hb => by omega)
    refine ⟨by intro q hq; obtain ⟨b, _, rfl⟩ := List.mem_map.1 hq; rfl, .inr ⟨w.heap.size, 0, cap, (bytesRow s cap).toList, ?_, ?_, ?_, ?_, ?_, fun _ => Iff.rfl⟩⟩
    · have : (List.map QB s.data.toList).length = s.size := by rw [List.length_map, Array.length_toList]; rfl
      rw [this]
    · have : (List.map QB s.data.toList).length = s.size := by rw [List.length_map, Array.length_toList]; rfl
      rw [this]; exact hge
    · refine ⟨((bytesRow s cap).size, (bytesRow s cap).size + 1), ?_, ?_⟩
      · show (w.heap.push _)[w.heap.size]? = _
        rw [Array.getElem?_push_size]
      · refine ⟨fun i h1 h2 => ?_, by simp⟩
        simp only [Array.length_toList] at *; omega
    · simp [hrow]
    · intro i hi
      rw [QrH]
      simp only [List.length_map, Array.length_toList, Nat.mul_one] at hi
      rw [Nat.zero_add, Array.getElem?_toList, bytesRow_at s cap i hi, List.getElem?_map, Array.getElem?_toList, Array.getElem?_eq_getElem hi]; rfl
/-- string(b), of bytes that are read. -/
theorem Qmw {d src dst e Ty : Nat} {x : Operand} {s : List UInt8} (hs : P.underlying src = some (.slice e)) (he : P.underlying e = some (.int .u8)) (hd : P.underlying dst = some .string) (hS : St c w L) (hx : ρ.ev x = v) (hK : u8R.sl c v s)
    (h : Q5 P l Q (upd ρ d (.string ⟨s.toArray⟩)) w) : Q5 P (⟨none, .raw ⟨some d, .convert src dst x, Ty, "", #[], none⟩⟩ :: l) Q ρ w := by
  obtain ⟨css, h1, h2, h3⟩ := hK
  have h1 := FzS.now h1 hS
  have hcs := h2.u8 rfl
  obtain ⟨h0, a, cap, hv, hlc, hc⟩ := h1
  refine Q19 (v := .string ⟨s.toArray⟩) (w' := w) ?_ h
  simp only [execOp, hx, Sem.run_bind]
  have : (convert src dst v).run P w = .ok (.string ⟨s.toArray⟩) w := by
    rcases hc with hc | ⟨b, off, ha, hF, hb, hat⟩
    · have hsn : s = [] := List.eq_nil_of_length_eq_zero (by rw [← h2.1, hc]; rfl)
      subst hsn hc hv
      rw [run_convert_bytes_string w src dst e a _ cap hs he hd]
      cases a with
      | none => simp [Conv.bytesToString, Sem.run_pure]; rfl
      | some a =>
        have := run_bytesToString (P := P) w a 0 cap [] (by simp [loadCells, loadCellsFrom, Sem.run_pure])
        exact this
    · subst ha hv
      have hl : css.length = s.length := h2.1
      rw [hl]
      have := run_convert_bytes_back (P := P) w src dst e ⟨b, off, none⟩ cap s hs he hd (fun j hj => by
        rw [Q2f]
        have hm : css[j]? = some (QB s[j]) := by rw [hcs, List.getElem?_map, List.getElem?_eq_getElem hj]; rfl
        have := (hat j _ hm).cell (j := 0) (u := .int .u8 (s[j].toNat : Int)) rfl
        have hr1 : u8R.es = 1 := rfl
        rw [hr1, Nat.mul_one, Nat.add_zero] at this
        exact this)
      exact this
  rw [this]; rfl
/-- A part of an array that is a value. -/
theorem s_idxv {d T Ty e n : Nat} {x y : Operand} {k : IntKind} {m : Int} {cs : List Value} {u : Value} (hT : P.underlying T = some (.array n e)) (he : Q43 P e = true) (hsz : Q4D P e = some 1) (hx : ρ.ev x = .agg ⟨cs⟩) (hy : ρ.ev y = .int k m) (h0 : 0 ≤ m) (hm : m < n) (hu : cs[m.toNat]? = some u)
    (h : Q5 P l Q (upd ρ d u) w) : Q5 P (⟨none, .raw ⟨some d, .index T x y, Ty, "", #[], none⟩⟩ :: l) Q ρ w := by
  refine Q19 (v := u) (w' := w) ?_ h
  simp only [execOp, hx, hy, Instr.index, Sem.run_bind, asIntOf, Sem.run_pure, Result.andThen_ok, Qe P T _ w hT]
  rw [if_pos ⟨h0, hm⟩]
  simp only [Sem.run_bind, Q1n P e 1 w hsz, Result.andThen_ok, Nat.mul_one, Qmx P e ⟨cs⟩ _ _ w he (by simpa using hu)]
end
end Go.Lir
namespace Go.Lir
set_option linter.unusedVariables false
mutual
/-- typeSize -/
def Ty.size : Ty → Int → Int
  | .mk _ _ l, left => Tys.size l (left - 1)
def Tys.size : List Ty → Int → Int
  | [], left => left
  | x :: l, left => if 0 ≤ left then Tys.size l (x.size left) else left
end
theorem Tys.size_neg : ∀ (l : List Ty) {left : Int}, left < 0 → Tys.size l left = left
  | [], _, _ => by simp [Tys.size]
  | x :: l, left, h => by rw [Tys.size, if_neg (by omega)]
mutual
/-- deep -/
def Ty.deepB : Ty → Int → Bool
  | .mk _ _ l, left => if left < 0 then false else Tys.deepB l (left - 1)
def Tys.deepB : List Ty → Int → Bool
  | [], _ => true
  | x :: l, left => x.deepB left && Tys.deepB l left
end
mutual
/-- DeepOf -/
def Ty.depth : Ty → Int → Int
  | .mk _ _ l, most => Tys.depth l most 0
def Tys.depth : List Ty → Int → Int → Int
  | [], _, n => n
  | x :: l, most, n => if n ≤ most then (if most = 0 then 1 else Tys.depth l most (if n < 1 + x.depth (most - 1) then 1 + x.depth (most - 1) else n)) else n
end
mutual
theorem Ty.depth_iff : ∀ (t : Ty) {most : Int}, 0 ≤ most → (t.depth most ≤ most ↔ t.deepB most = true)
  | .mk _ _ l, most, h => by
    rw [Ty.depth, Ty.deepB, if_neg (by omega), Tys.depth_iff l h]
    exact ⟨fun h => h.2, fun h2 => ⟨h, h2⟩⟩
theorem Tys.depth_iff : ∀ (l : List Ty) {most n : Int}, 0 ≤ most → (Tys.depth l most n ≤ most ↔ n ≤ most ∧ Tys.deepB l (most - 1) = true)
  | [], most, n, h => by rw [Tys.depth, Tys.deepB]; simp
  | x :: l, most, n, h => by
    rw [Tys.depth, Tys.deepB]
    by_cases hn : n ≤ most
    · rw [if_pos hn]
      by_cases h0 : most = 0
      · rw [if_pos h0]
        have : x.deepB (most - 1) = false := by obtain ⟨k, r, l2⟩ := x; rw [Ty.deepB, if_pos (by omega)]
        rw [this]; simp; omega
      · rw [if_neg h0, Tys.depth_iff l h]
        have := Ty.depth_iff x (most := most - 1) (by omega)
        rw [Bool.and_eq_true, ← this]
        constructor
        · rintro ⟨h1, h2⟩; split at h1 <;> exact ⟨by omega, by omega, h2⟩
        · rintro ⟨h1, h2, h3⟩; refine ⟨?_, h3⟩; split <;> omega
    · rw [if_neg hn]
      exact ⟨fun h => absurd h hn, fun h => h.1⟩
end
mutual
/-- Same -/
def Ty.same : Ty → Ty → Bool
  | .mk k r l, .mk k2 r2 l2 => decide (k = k2) && decide (r = r2) && Tys.same l l2
def Tys.same : List Ty → List Ty → Bool
  | [], [] => true
  | x :: l, y :: m => x.same y && Tys.same l m
  | [], _ :: _ => false
  | _ :: _, [] => false
end
mutual
theorem Ty.same_iff : ∀ (t u : Ty), t.same u = true ↔ t = u
  | .mk k r l, .mk k2 r2 l2 => by
    rw [Ty.same, Bool.and_eq_true, Bool.and_eq_true, Tys.same_iff l l2]
    simp only [decide_eq_true_eq, Ty.mk.injEq, and_assoc]
theorem Tys.same_iff : ∀ (l m : List Ty), Tys.same l m = true ↔ l = m
  | [], [] => by simp [Tys.same]
  | x :: l, y :: m => by rw [Tys.same, Bool.and_eq_true, Ty.same_iff x y, Tys.same_iff l m]; simp
  | [], _ :: _ => by simp [Tys.same]
  | _ :: _, [] => by simp [Tys.same]
end
instance : DecidableEq Ty := fun t u => decidable_of_iff _ (Ty.same_iff t u)
mutual
/-- wrong, typeFault -/
def Ty.wrong (fields : Nat) : Ty → Int → Int
  | .mk k r l, regs =>
    if k < 1 ∨ 4 < k then 3 else if k = 1 ∧ r ≠ 0 ∨ k ≠ 3 ∧ 0 < l.length then 4 else if fields < l.length then 2 else if k ≠ 1 ∧ (r < 0 ∨ regs ≤ r) then 1 else Tys.wrong fields l regs
def Tys.wrong (fields : Nat) : List Ty → Int → Int
  | [], _ => 0
  | x :: l, regs => if x.wrong fields regs ≠ 0 then x.wrong fields regs else Tys.wrong fields l regs
end
mutual
/-- Rename -/
def Ty.ren : Ty → List Int → Option Ty
  | .mk k r l, to => if k ≠ 1 ∧ (r < 0 ∨ (to.length : Int) ≤ r ∨ to.getD r.toNat 0 < 0) then none else
    match Tys.ren l to with
    | none => none
    | some m => some (.mk k (if k ≠ 1 then to.getD r.toNat 0 else r) m)
def Tys.ren : List Ty → List Int → Option (List Ty)
  | [], _ => some []
  | x :: l, to => match x.ren to with
    | none => none
    | some y => match Tys.ren l to with
      | none => none
      | some m => some (y :: m)
end
mutual
/-- Two renamings one behind the other are one. -/
theorem Ty.ren_ren {f g h : List Int} (hfg : ∀ i : Nat, i < f.length → 0 ≤ f.getD i 0 ∧ f.getD i 0 < g.length ∧ 0 ≤ g.getD (f.getD i 0).toNat 0 ∧ i < h.length ∧ h.getD i 0 = g.getD (f.getD i 0).toNat 0) :
    ∀ (t u : Ty), t.ren f = some u → ∃ v, u.ren g = some v ∧ t.ren h = some v
  | .mk k r l, u, ht => by
    rw [Ty.ren] at ht
    split at ht
    · cases ht
    · rename_i hc
      cases hl : Tys.ren l f with
      | none => rw [hl] at ht; cases ht
      | some m =>
        rw [hl] at ht
        simp only [Option.some.injEq] at ht
        obtain ⟨m2, h1, h2⟩ := Tys.ren_ren hfg l m hl
        subst ht
        by_cases hk : k = 1
        · refine ⟨.mk k r m2, ?_, ?_⟩
          · rw [Ty.ren, if_neg (by omega), h1]; simp [hk]
          · rw [Ty.ren, if_neg (by omega), h2]; simp [hk]
        · have := hfg r.toNat (by omega)
          refine ⟨.mk k (g.getD (f.getD r.toNat 0).toNat 0) m2, ?_, ?_⟩
          · rw [Ty.ren, if_pos hk, if_neg (by omega), h1]; simp [hk]
          · rw [Ty.ren, if_neg (by omega), h2]; simp only [if_pos hk, this.2.2.2.2]
theorem Tys.ren_ren {f g h : List Int} (hfg : ∀ i : Nat, i < f.length → 0 ≤ f.getD i 0 ∧ f.getD i 0 < g.length ∧ 0 ≤ g.getD (f.getD i 0).toNat 0 ∧ i < h.length ∧ h.getD i 0 = g.getD (f.getD i 0).toNat 0) :
    ∀ (t u : List Ty), Tys.ren t f = some u → ∃ v, Tys.ren u g = some v ∧ Tys.ren t h = some v
  | [], u, ht => by rw [Tys.ren] at ht; cases ht; exact ⟨[], by rw [Tys.ren], by rw [Tys.ren]⟩
  | x :: l, u, ht => by
    rw [Tys.ren] at ht
    cases hx : x.ren f with
    | none => rw [hx] at ht; cases ht
    | some y =>
      rw [hx] at ht
      cases hl : Tys.ren l f with
      | none => rw [hl] at ht; cases ht
      | some m =>
        rw [hl] at ht
        simp only [Option.some.injEq] at ht
        subst ht
        obtain ⟨y2, a1, a2⟩ := Ty.ren_ren hfg x y hx
        obtain ⟨m2, b1, b2⟩ := Tys.ren_ren hfg l m hl
        exact ⟨y2 :: m2, by rw [Tys.ren, a1, b1], by rw [Tys.ren, a2, b2]⟩
end
mutual
/-- What is renamed is as right as it was, if the renaming stays below the number of regions. -/
theorem Ty.ren_wrong {fields : Nat} {f : List Int} (hf : ∀ i : Nat, i < f.length → 0 ≤ f.getD i 0 ∧ f.getD i 0 < f.length) : ∀ (t u : Ty), t.ren f = some u → u.wrong fields f.length = t.wrong fields f.length
  | .mk k r l, u, ht => by
    rw [Ty.ren] at ht
    split at ht
    · cases ht
    · rename_i hc
      cases hl : Tys.ren l f with
      | none => rw [hl] at ht; cases ht
      | some m =>
        rw [hl] at ht
        simp only [Option.some.injEq] at ht
        subst ht
        obtain ⟨h1, h2⟩ := Tys.ren_wrong (fields := fields) hf l m hl
        by_cases hk : k = 1
        · rw [Ty.wrong, Ty.wrong, h1, h2]; simp [hk]
        · have := hf r.toNat (by omega)
          rw [Ty.wrong, Ty.wrong, h1, h2]
          simp only [if_pos hk]
          rw [if_neg (show ¬ (k ≠ 1 ∧ (f.getD r.toNat 0 < 0 ∨ (f.length : Int) ≤ f.getD r.toNat 0)) by omega), if_neg (show ¬ (k ≠ 1 ∧ (r < 0 ∨ (f.length : Int) ≤ r)) by omega)]
          simp [hk]
theorem Tys.ren_wrong {fields : Nat} {f : List Int} (hf : ∀ i : Nat, i < f.length → 0 ≤ f.getD i 0 ∧ f.getD i 0 < f.length) : ∀ (t u : List Ty), Tys.ren t f = some u → u.length = t.length ∧ Tys.wrong fields u f.length = Tys.wrong fields t f.length
  | [], u, ht => by rw [Tys.ren] at ht; cases ht; exact ⟨rfl, rfl⟩
  | x :: l, u, ht => by
    rw [Tys.ren] at ht
    cases hx : x.ren f with
    | none => rw [hx] at ht; cases ht
    | some y =>
      rw [hx] at ht
      cases hl : Tys.ren l f with
      | none => rw [hl] at ht; cases ht
      | some m =>
        rw [hl] at ht
        simp only [Option.some.injEq] at ht
        subst ht
        obtain ⟨h1, h2⟩ := Tys.ren_wrong (fields := fields) hf l m hl
        exact ⟨by simp [h1], by rw [Tys.wrong, Tys.wrong, Ty.ren_wrong hf x y hx, h2]⟩
end
mutual
/-- What cannot be renamed is wrong. -/
theorem Ty.ren_none {fields : Nat} {f : List Int} (hf : ∀ i : Nat, i < f.length → 0 ≤ f.getD i 0) : ∀ (t : Ty), t.ren f = none → t.wrong fields f.length ≠ 0
  | .mk k r l, ht => by
    rw [Ty.wrong]
    rw [Ty.ren] at ht
    split
    · decide
    · split
      · decide
      · split
        · decide
        · split
          · decide
          · rename_i h1 h2 h3 h4
            have hc : ¬ (k ≠ 1 ∧ (r < 0 ∨ (f.length : Int) ≤ r ∨ f.getD r.toNat 0 < 0)) := by
              rintro ⟨a, b⟩
              have := hf r.toNat
              omega
            rw [if_neg hc] at ht
            cases hl : Tys.ren l f with
            | none => exact Tys.ren_none hf l hl
            | some m => rw [hl] at ht; cases ht
theorem Tys.ren_none {fields : Nat} {f : List Int} (hf : ∀ i : Nat, i < f.length → 0 ≤ f.getD i 0) : ∀ (t : List Ty), Tys.ren t f = none → Tys.wrong fields t f.length ≠ 0
  | [], ht => by rw [Tys.ren] at ht; cases ht
  | x :: l, ht => by
    rw [Tys.ren] at ht
    rw [Tys.wrong]
    split
    · rename_i h; exact h
    · rename_i h
      cases hx : x.ren f with
      | none => exact absurd hx (fun hx => h (Ty.ren_none hf x hx))
      | some y =>
        rw [hx] at ht
        cases hl : Tys.ren l f with
        | none => exact Tys.ren_none hf l hl
        | some m => rw [hl] at ht; cases ht
end
mutual
theorem Ty.ren_deep {f : List Int} : ∀ (t u : Ty) (left : Int), t.ren f = some u → u.deepB left = t.deepB left
  | .mk k r l, u, left, ht => by
    rw [Ty.ren] at ht
    split at ht
    · cases ht
    · cases hl : Tys.ren l f with
      | none => rw [hl] at ht; cases ht
      | some m =>
        rw [hl] at ht
        simp only [Option.some.injEq] at ht
        subst ht
        rw [Ty.deepB, Ty.deepB, Tys.ren_deep l m (left - 1) hl]
theorem Tys.ren_deep {f : List Int} : ∀ (t u : List Ty) (left : Int), Tys.ren t f = some u → Tys.deepB u left = Tys.deepB t left
  | [], u, _, ht => by rw [Tys.ren] at ht; cases ht; rfl
  | x :: l, u, left, ht => by
    rw [Tys.ren] at ht
    cases hx : x.ren f with
    | none => rw [hx] at ht; cases ht
    | some y =>
      rw [hx] at ht
      cases hl : Tys.ren l f with
      | none => rw [hl] at ht; cases ht
      | some m =>
        rw [hl] at ht
        simp only [Option.some.injEq] at ht
        subst ht
        rw [Tys.deepB, Tys.deepB, Ty.ren_deep x y left hx, Tys.ren_deep l m left hl]
end
mutual
/-- The renaming that leaves all as it is. -/
theorem Ty.ren_id {f : List Int} (hf : ∀ i : Nat, i < f.length → f.getD i 0 = i) : ∀ (t u : Ty), t.ren f = some u → u = t
  | .mk k r l, u, ht => by
    rw [Ty.ren] at ht
    split at ht
    · cases ht
    · rename_i hc
      cases hl : Tys.ren l f with
      | none => rw [hl] at ht; cases ht
      | some m =>
        rw [hl] at ht
        simp only [Option.some.injEq] at ht
        subst ht
        rw [Tys.ren_id hf l m hl]
        by_cases hk : k = 1
        · simp [hk]
        · have := hf r.toNat (by omega)
          rw [if_pos hk, this, Int.toNat_of_nonneg (by omega)]
theorem Tys.ren_id {f : List Int} (hf : ∀ i : Nat, i < f.length → f.getD i 0 = i) : ∀ (t u : List Ty), Tys.ren t f = some u → u = t
  | [], u, ht => by rw [Tys.ren] at ht; cases ht; rfl
  | x :: l, u, ht => by
    rw [Tys.ren] at ht
    cases hx : x.ren f with
    | none => rw [hx] at ht; cases ht
    | some y =>
      rw [hx] at ht
      cases hl : Tys.ren l f with
      | none => rw [hl] at ht; cases ht
      | some m =>
        rw [hl] at ht
        simp only [Option.some.injEq] at ht
        subst ht
        rw [Ty.ren_id hf x y hx, Tys.ren_id hf l m hl]
end
/-- By the parts. -/
theorem Ty.ind {p : Ty → Prop} (h : ∀ k r l, (∀ x ∈ l, p x) → p (.mk k r l)) : ∀ t, p t
  | .mk k r l => h k r l fun x hx => Ty.ind h x
termination_by t => SizeOf.sizeOf t
decreasing_by
  have := List.sizeOf_lt_of_mem hx
  simp only [Ty.mk.sizeOf_spec]
  omega
mutual
theorem Ty.size_rng : ∀ (t : Ty) {left : Int}, 0 ≤ left → -1 ≤ t.size left ∧ t.size left < left
  | .mk _ _ l, left, h => by
    rw [Ty.size]
    have := Tys.size_rng l (left := left - 1) (by omega)
    omega
theorem Tys.size_rng : ∀ (l : List Ty) {left : Int}, -1 ≤ left → -1 ≤ Tys.size l left ∧ Tys.size l left ≤ left
  | [], left, h => by rw [Tys.size]; omega
  | x :: l, left, h => by
    rw [Tys.size]
    split
    · rename_i h0
      have h1 := Ty.size_rng x h0
      have h2 := Tys.size_rng l (left := x.size left) h1.1
      omega
    · omega
end
mutual
theorem Ty.size_mono : ∀ (t : Ty) {a b : Int}, a ≤ b → -1 ≤ a → t.size a ≤ t.size b
  | .mk _ _ l, a, b, h, ha => by
    rw [Ty.size, Ty.size]
    by_cases h0 : 0 ≤ a
    · exact Tys.size_mono l (by omega) (by omega)
    · rw [Tys.size_neg l (by omega)]
      by_cases hb : 0 ≤ b
      · have := Tys.size_rng l (left := b - 1) (by omega); omega
      · rw [Tys.size_neg l (by omega)]; omega
theorem Tys.size_mono : ∀ (l : List Ty) {a b : Int}, a ≤ b → -1 ≤ a → Tys.size l a ≤ Tys.size l b
  | [], a, b, h, _ => by rw [Tys.size, Tys.size]; exact h
  | x :: l, a, b, h, ha => by
    by_cases h0 : 0 ≤ a
    · rw [Tys.size, Tys.size, if_pos h0, if_pos (by omega)]
      exact Tys.size_mono l (Ty.size_mono x h ha) (Ty.size_rng x h0).1
    · rw [Tys.size_neg _ (by omega)]
      have := Tys.size_rng (x :: l) (left := b) (by omega); omega
end
/-- What is not too great has few parts, and none of them is too great. -/
theorem Tys.size_len : ∀ (l : List Ty) {left : Int}, 0 ≤ Tys.size l left → -1 ≤ left → (l.length : Int) ≤ left ∧ ∀ x ∈ l, 0 ≤ x.size left
  | [], left, h, _ => by rw [Tys.size] at h; simp; exact h
  | x :: l, left, h, hl => by
    rw [Tys.size] at h
    split at h
    · rename_i h0
      have h1 := Ty.size_rng x h0
      have h2 := Tys.size_len l h h1.1
      have h3 := Tys.size_rng l (left := x.size left) h1.1
      refine ⟨by simp only [List.length_cons]; omega, fun y hy => ?_⟩
      rcases List.mem_cons.1 hy with rfl | hy
      · omega
      · exact Int.le_trans (h2.2 y hy) (Ty.size_mono y (by omega) h1.1)
    · omega
/-- Check, TypeFault -/
def Ty.fault (t : Ty) (regs : Int) : Int := if t.deepB 4 = false then 19 else t.wrong 8 regs
mutual
theorem Ty.depth_rng : ∀ (t : Ty) {most : Int}, 0 ≤ most → 0 ≤ t.depth most ∧ t.depth most ≤ most + 1
  | .mk _ _ l, most, h => by
    rw [Ty.depth]
    exact Tys.depth_rng l h (by omega) (by omega)
theorem Tys.depth_rng : ∀ (l : List Ty) {most n : Int}, 0 ≤ most → 0 ≤ n → n ≤ most + 1 → 0 ≤ Tys.depth l most n ∧ Tys.depth l most n ≤ most + 1
  | [], most, n, _, h1, h2 => by rw [Tys.depth]; omega
  | x :: l, most, n, h, h1, h2 => by
    rw [Tys.depth]
    split
    · split
      · omega
      · have := Ty.depth_rng x (most := most - 1) (by omega)
        exact Tys.depth_rng l h (by split <;> omega) (by split <;> omega)
    · omega
end
/-- No list of parts is long. -/
inductive Ty.Short : Ty → Prop where
  | mk {k r : Int} {l : List Ty} : l.length ≤ 100000 → (∀ x ∈ l, x.Short) → Ty.Short (.mk k r l)
theorem Ty.Short.parts {k r : Int} {l : List Ty} (h : (Ty.mk k r l).Short) : l.length ≤ 100000 ∧ ∀ x ∈ l, x.Short := by
  cases h with | mk h1 h2 => exact ⟨h1, h2⟩
theorem Ty.short_of_size : ∀ (t : Ty) {n : Int}, n ≤ 100000 → 0 ≤ n → 0 ≤ t.size n → t.Short := by
  intro t
  induction t using Ty.ind with
  | h k r l ih =>
    intro n h1 h0 h
    rw [Ty.size] at h
    obtain ⟨h2, h3⟩ := Tys.size_len l h (by omega)
    refine .mk (by omega) fun x hx => ?_
    have hp := h3 x hx
    have hl := List.length_pos_of_mem hx
    exact ih x hx (n := n - 1) (by omega) (by omega) hp
/-- GreatType, greatTypes -/
def Ty.great (t : Ty) : Bool := decide (t.size 2000 < 0)
def Tys.great (l : List Ty) : Bool := decide (200 < l.length) || l.any Ty.great
theorem Ty.short_of_great {t : Ty} (h : t.great = false) : t.Short := Ty.short_of_size t (n := 2000) (by omega) (by omega) (by unfold Ty.great at h; simp at h; exact h)
theorem Tys.short_of_great {l : List Ty} (h : Tys.great l = false) : l.length ≤ 200 ∧ ∀ x ∈ l, x.Short := by
  unfold Tys.great at h
  rw [Bool.or_eq_false_iff] at h
  refine ⟨by have := of_decide_eq_false h.1; omega, fun x hx => Ty.short_of_great ?_⟩
  cases hg : x.great with
  | false => rfl
  | true => have := List.any_eq_true.2 ⟨x, hx, hg⟩; rw [h.2] at this; cases this
end Go.Lir
namespace Go.Lir
structure Ins where
  op : Int
  a : Int
  b : Int
  c : Int
  k : Int
  n : Int
  regs : List Int
  args : List Int
structure To where
  block : Int
  regs : List Int
  args : List Int
structure Tail where
  op : Int
  a : Int
  yes : To
  no : To
  args : List Int
structure Block where
  regs : Int
  params : List Ty
  code : List Ins
  fin : Tail
deriving instance DecidableEq for Ins
deriving instance DecidableEq for To
deriving instance DecidableEq for Tail
deriving instance DecidableEq for Block
structure Fun where
  regs : Int
  params : List Ty
  results : List Ty
  blocks : List Block
structure Module where
  funcs : List Fun
deriving instance DecidableEq for Fun
deriving instance DecidableEq for Module

theorem Fun.eq_of {x y : Fun} (h1 : x.regs = y.regs) (h2 : x.params = y.params) (h3 : x.results = y.results) (h4 : x.blocks = y.blocks) : x = y := by
  cases x; cases y; simp_all
/-! ### no list is long -/
def Ins.Short (x : Ins) : Prop := x.regs.length ≤ 100000 ∧ x.args.length ≤ 100000
def To.Short (x : To) : Prop := x.regs.length ≤ 100000 ∧ x.args.length ≤ 100000
def Tail.Short (x : Tail) : Prop := x.yes.Short ∧ x.no.Short ∧ x.args.length ≤ 100000
def Tys.Short (l : List Ty) : Prop := l.length ≤ 100000 ∧ ∀ t ∈ l, t.Short
def Block.Short (x : Block) : Prop := Tys.Short x.params ∧ x.code.length ≤ 100000 ∧ (∀ i ∈ x.code, i.Short) ∧ x.fin.Short
def Fun.Short (x : Fun) : Prop := Tys.Short x.params ∧ Tys.Short x.results ∧ x.blocks.length ≤ 100000 ∧ ∀ b ∈ x.blocks, b.Short
def Module.Short (x : Module) : Prop := x.funcs.length ≤ 100000 ∧ ∀ f ∈ x.funcs, f.Short
theorem Tys.Short.of_great {l : List Ty} (h : Tys.great l = false) : Tys.Short l := by
  have := Tys.short_of_great h
  exact ⟨by omega, this.2⟩
theorem Qb9 {α : Type} {l : List α} {p : α → Prop} {j : Nat} {x : α} (h : ∀ y ∈ l.take j, p y) (hx : l[j]? = some x) (hp : p x) : ∀ y ∈ l.take (j + 1), p y := by
  intro y hy
  rw [List.take_add_one, hx] at hy
  rcases List.mem_append.1 hy with hy | hy
  · exact h y hy
  · simp at hy; subst hy; exact hp
theorem QfZ {α : Type} {l : List α} {p : α → Prop} {j : Nat} (h : ∀ y ∈ l.take j, p y) (hj : l.length ≤ j) : ∀ y ∈ l, p y := by
  rw [List.take_of_length_le hj] at h; exact h
def insR : Rep Ins where
  es := 8
  pos := by decide
  R := fun H K cs x => ∃ vr va, cs = [.int .i64 x.op, .int .i64 x.a, .int .i64 x.b, .int .i64 x.c, .int .i64 x.k, .int .i64 x.n, vr, va] ∧ intR.SR H K vr x.regs ∧ intR.SR H K va x.args
  len := by rintro _ _ _ _ ⟨vr, va, rfl, _⟩; rfl
  one := by
    rintro _ _ _ _ ⟨vr, va, rfl, h1, h2⟩ u hu
    simp at hu
    rcases hu with rfl | rfl | rfl | rfl | rfl | rfl | rfl | rfl <;> first | rfl | exact h1.oneC | exact h2.oneC
  turn := by rintro _ _ _ _ _ _ ⟨vr, va, rfl, h1, h2⟩ hs; exact ⟨vr, va, rfl, h1.turn hs, h2.turn hs⟩
def toR : Rep To where
  es := 3
  pos := by decide
  R := fun H K cs x => ∃ vr va, cs = [.int .i64 x.block, vr, va] ∧ intR.SR H K vr x.regs ∧ intR.SR H K va x.args
  len := by rintro _ _ _ _ ⟨vr, va, rfl, _⟩; rfl
  one := by
    rintro _ _ _ _ ⟨vr, va, rfl, h1, h2⟩ u hu
    simp at hu
    rcases hu with rfl | rfl | rfl <;> first | rfl | exact h1.oneC | exact h2.oneC
  turn := by rintro _ _ _ _ _ _ ⟨vr, va, rfl, h1, h2⟩ hs; exact ⟨vr, va, rfl, h1.turn hs, h2.turn hs⟩
def endR : Rep Tail where
  es := 9
  pos := by decide
  R := fun H K cs x => ∃ v1 v2 v3 v4 v5, cs = [.int .i64 x.op, .int .i64 x.a, .int .i64 x.yes.block, v1, v2, .int .i64 x.no.block, v3, v4, v5] ∧ intR.SR H K v1 x.yes.regs ∧ intR.SR H K v2 x.yes.args ∧ intR.SR H K v3 x.no.regs ∧ intR.SR H K v4 x.no.args ∧ intR.SR H K v5 x.args
  len := by rintro _ _ _ _ ⟨_, _, _, _, _, rfl, _⟩; rfl
  one := by
    rintro _ _ _ _ ⟨_, _, _, _, _, rfl, h1, h2, h3, h4, h5⟩ u hu
    simp at hu
    rcases hu with rfl | rfl | rfl | rfl | rfl | rfl | rfl | rfl | rfl <;> first | rfl | exact h1.oneC | exact h2.oneC | exact h3.oneC | exact h4.oneC | exact h5.oneC
  turn := by rintro _ _ _ _ _ _ ⟨_, _, _, _, _, rfl, h1, h2, h3, h4, h5⟩ hs; exact ⟨_, _, _, _, _, rfl, h1.turn hs, h2.turn hs, h3.turn hs, h4.turn hs, h5.turn hs⟩
def blockR : Rep Block where
  es := 12
  pos := by decide
  R := fun H K cs x => ∃ vp vc ce, cs = .int .i64 x.regs :: vp :: vc :: ce ∧ tyR.SR H K vp x.params ∧ insR.SR H K vc x.code ∧ endR.R H K ce x.fin
  len := by rintro _ _ _ _ ⟨_, _, ce, rfl, _, _, h⟩; have := endR.len h; simp [this, endR]
  one := by
    rintro _ _ _ _ ⟨_, _, ce, rfl, h1, h2, h3⟩ u hu
    simp at hu
    rcases hu with rfl | rfl | rfl | hu
    · rfl
    · exact h1.oneC
    · exact h2.oneC
    · exact endR.one h3 u hu
  turn := by rintro _ _ _ _ _ _ ⟨_, _, _, rfl, h1, h2, h3⟩ hs; exact ⟨_, _, _, rfl, h1.turn hs, h2.turn hs, endR.turn h3 hs⟩
def funcR : Rep Fun where
  es := 4
  pos := by decide
  R := fun H K cs x => ∃ vp vr vb, cs = [.int .i64 x.regs, vp, vr, vb] ∧ tyR.SR H K vp x.params ∧ tyR.SR H K vr x.results ∧ blockR.SR H K vb x.blocks
  len := by rintro _ _ _ _ ⟨_, _, _, rfl, _⟩; rfl
  one := by
    rintro _ _ _ _ ⟨_, _, _, rfl, h1, h2, h3⟩ u hu
    simp at hu
    rcases hu with rfl | rfl | rfl | rfl <;> first | rfl | exact h1.oneC | exact h2.oneC | exact h3.oneC
  turn := by rintro _ _ _ _ _ _ ⟨_, _, _, rfl, h1, h2, h3⟩ hs; exact ⟨_, _, _, rfl, h1.turn hs, h2.turn hs, h3.turn hs⟩
def modR : Rep Module where
  es := 1
  pos := by decide
  R := fun H K cs x => ∃ vf, cs = [vf] ∧ funcR.SR H K vf x.funcs
  len := by rintro _ _ _ _ ⟨_, rfl, _⟩; rfl
  one := by
    rintro _ _ _ _ ⟨_, rfl, h1⟩ u hu
    simp at hu; subst hu; exact h1.oneC
  turn := by rintro _ _ _ _ _ _ ⟨_, rfl, h1⟩ hs; exact ⟨_, rfl, h1.turn hs⟩

theorem Q22 {c : Cx} {cs : List Value} {x : Ins} (h : insR.at c cs x) : ∃ vr va, cs = [.int .i64 x.op, .int .i64 x.a, .int .i64 x.b, .int .i64 x.c, .int .i64 x.k, .int .i64 x.n, vr, va] ∧ intR.sl c vr x.regs ∧ intR.sl c va x.args := h
theorem Q2W {c : Cx} {cs : List Value} {x : To} (h : toR.at c cs x) : ∃ vr va, cs = [.int .i64 x.block, vr, va] ∧ intR.sl c vr x.regs ∧ intR.sl c va x.args := h
theorem QfW {c : Cx} {cs : List Value} {x : Tail} (h : endR.at c cs x) : ∃ v1 v2 v3 v4 v5, cs = [.int .i64 x.op, .int .i64 x.a, .int .i64 x.yes.block, v1, v2, .int .i64 x.no.block, v3, v4, v5] ∧ intR.sl c v1 x.yes.regs ∧ intR.sl c v2 x.yes.args ∧ intR.sl c v3 x.no.regs ∧ intR.sl c v4 x.no.args ∧ intR.sl c v5 x.args := h
theorem Q1w {c : Cx} {cs : List Value} {x : Block} (h : blockR.at c cs x) : ∃ vp vc v1 v2 v3 v4 v5, cs = [.int .i64 x.regs, vp, vc, .int .i64 x.fin.op, .int .i64 x.fin.a, .int .i64 x.fin.yes.block, v1, v2, .int .i64 x.fin.no.block, v3, v4, v5] ∧ tyR.sl c vp x.params ∧ insR.sl c vc x.code ∧ intR.sl c v1 x.fin.yes.regs ∧ intR.sl c v2 x.fin.yes.args ∧ intR.sl c v3 x.fin.no.regs ∧ intR.sl c v4 x.fin.no.args ∧ intR.sl c v5 x.fin.args := by
  obtain ⟨vp, vc, ce, rfl, h1, h2, v1, v2, v3, v4, v5, rfl, h3⟩ := h
  exact ⟨vp, vc, v1, v2, v3, v4, v5, rfl, h1, h2, h3⟩
theorem Q2R {c : Cx} {x : Block} {vp vc v1 v2 v3 v4 v5 : Value} (h1 : tyR.sl c vp x.params) (h2 : insR.sl c vc x.code) (h3 : intR.sl c v1 x.fin.yes.regs) (h4 : intR.sl c v2 x.fin.yes.args) (h5 : intR.sl c v3 x.fin.no.regs) (h6 : intR.sl c v4 x.fin.no.args) (h7 : intR.sl c v5 x.fin.args) :
    blockR.at c [.int .i64 x.regs, vp, vc, .int .i64 x.fin.op, .int .i64 x.fin.a, .int .i64 x.fin.yes.block, v1, v2, .int .i64 x.fin.no.block, v3, v4, v5] x := ⟨vp, vc, _, rfl, h1, h2, v1, v2, v3, v4, v5, rfl, h3, h4, h5, h6, h7⟩
theorem Q1t {c : Cx} {cs : List Value} {x : Fun} (h : funcR.at c cs x) : ∃ vp vr vb, cs = [.int .i64 x.regs, vp, vr, vb] ∧ tyR.sl c vp x.params ∧ tyR.sl c vr x.results ∧ blockR.sl c vb x.blocks := h
theorem Q2l {c : Cx} {cs : List Value} {x : Module} (h : modR.at c cs x) : ∃ vf, cs = [vf] ∧ funcR.sl c vf x.funcs := h

/-! ### codecs -/
section
variable {P : Program} {T : TypeId}
/-- A field as a kind of data. -/
theorem Cod.Of.part {α : Type} {r : Rep α} (c : Cod.Of P T r) {H : Heap} {cs : List Value} {x : α} (h : c.cod.rd H cs x) : r.R H (· < H.size) cs x := c.rd _ _ _ h
def Cod.Of.to {TI TL : TypeId} (ci : Cod.Of P TI intR) (cl : Cod.Of P TL intR.list) (h0 : fieldAt P T 0 = some (0, 1, TI)) (h1 : fieldAt P T 1 = some (1, 1, TL)) (h2 : fieldAt P T 2 = some (2, 1, TL)) (hT : P.cellsOf T = 3) : Cod.Of P T toR :=
  Cod.of (Fld.cod (Fld.more ci.cod h0 (Fld.more cl.cod h1 (Fld.more cl.cod h2 Fld.none))) h0 3 hT) toR rfl fun H cs x h => by
    obtain ⟨hl, g0, g1, g2, _⟩ := h
    match cs, hl with
    | [a, b, c], _ =>
      have e0 : [a] = [_] := ci.part g0
      obtain ⟨v1, e1, s1⟩ := cl.part g1
      obtain ⟨v2, e2, s2⟩ := cl.part g2
      replace e1 : [b] = [v1] := e1
      replace e2 : [c] = [v2] := e2
      simp only [List.cons.injEq, and_true] at e0 e1 e2
      subst e0 e1 e2
      exact ⟨⟨x.1, x.2.1, x.2.2.1⟩, b, c, rfl, s1, s2⟩
def Cod.Of.block {TI TL TC TE : TypeId} (ci : Cod.Of P TI intR) (cl : Cod.Of P TL tyR.list) (cc : Cod.Of P TC insR.list) (ce : Cod.Of P TE endR) (h0 : fieldAt P T 0 = some (0, 1, TI)) (h1 : fieldAt P T 1 = some (1, 1, TL)) (h2 : fieldAt P T 2 = some (2, 1, TC)) (h3 : fieldAt P T 3 = some (3, 9, TE)) (hT : P.cellsOf T = 12) : Cod.Of P T blockR :=
  Cod.of (Fld.cod (Fld.more ci.cod h0 (Fld.more cl.cod h1 (Fld.more cc.cod h2 (Fld.more ce.cod h3 Fld.none)))) h0 12 hT) blockR rfl fun H cs x h => by
    obtain ⟨hl, g0, g1, g2, g3, _⟩ := h
    match cs, hl with
    | [a0, a1, a2, a3, a4, a5, a6, a7, a8, a9, a10, a11], _ =>
      have e0 : [a0] = [_] := ci.part g0
      obtain ⟨v1, e1, s1⟩ := cl.part g1
      obtain ⟨v2, e2, s2⟩ := cc.part g2
      have s3 := ce.part g3
      replace e1 : [a1] = _ := e1
      replace e2 : [a2] = _ := e2
      replace s3 : endR.R H (· < H.size) [a3, a4, a5, a6, a7, a8, a9, a10, a11] x.2.2.2.1 := s3
      simp only [List.cons.injEq, and_true] at e0 e1 e2
      subst e0 e1 e2
      exact ⟨⟨x.1, x.2.1, x.2.2.1, x.2.2.2.1⟩, _, _, _, rfl, s1, s2, s3⟩
def Cod.Of.func {TI TL TB : TypeId} (ci : Cod.Of P TI intR) (cl : Cod.Of P TL tyR.list) (cb : Cod.Of P TB blockR.list) (h0 : fieldAt P T 0 = some (0, 1, TI)) (h1 : fieldAt P T 1 = some (1, 1, TL)) (h2 : fieldAt P T 2 = some (2, 1, TL)) (h3 : fieldAt P T 3 = some (3, 1, TB)) (hT : P.cellsOf T = 4) : Cod.Of P T funcR :=
  Cod.of (Fld.cod (Fld.more ci.cod h0 (Fld.more cl.cod h1 (Fld.more cl.cod h2 (Fld.more cb.cod h3 Fld.none)))) h0 4 hT) funcR rfl fun H cs x h => by
    obtain ⟨hl, g0, g1, g2, g3, _⟩ := h
    match cs, hl with
    | [a0, a1, a2, a3], _ =>
      have e0 : [a0] = [_] := ci.part g0
      obtain ⟨v1, e1, s1⟩ := cl.part g1
      obtain ⟨v2, e2, s2⟩ := cl.part g2
      obtain ⟨v3, e3, s3⟩ := cb.part g3
      replace e1 : [a1] = _ := e1
      replace e2 : [a2] = _ := e2
      replace e3 : [a3] = _ := e3
      simp only [List.cons.injEq, and_true] at e0 e1 e2 e3
      subst e0 e1 e2 e3
      exact ⟨⟨x.1, x.2.1, x.2.2.1, x.2.2.2.1⟩, _, _, _, rfl, s1, s2, s3⟩
end
end Go.Lir
namespace Go.Lir
set_option linter.unusedVariables false
/-- What the program makes of a number ahead of writing it. -/
def zigI (n : Int) : Int := bitI .xor .u64 (IntKind.u64.wrap (IntKind.u64.wrap n * 2 ^ (min (1 : Int).toNat IntKind.u64.bits))) (IntKind.u64.wrap (n.fdiv (2 ^ (min (63 : Int).toNat IntKind.i64.bits))))
theorem u64_rng (a : Int) : 0 ≤ IntKind.u64.wrap a ∧ IntKind.u64.wrap a < 18446744073709551616 := by
  have e : IntKind.u64.wrap a = a % 18446744073709551616 := by
    unfold IntKind.wrap
    simp [IntKind.bits, IntKind.signed]
  rw [e]; omega
theorem QsQ (n : Int) : 0 ≤ zigI n ∧ zigI n < 18446744073709551616 := by unfold zigI bitI; exact u64_rng _
def zig (n : Int) : Nat := (zigI n).toNat
theorem zig_val (n : Int) : zigI n = (zig n : Int) := by have := QsQ n; unfold zig; omega
theorem zig_lt (n : Int) : zig n < 18446744073709551616 := by have := QsQ n; unfold zig; omega
/-- The low bits first, seven at a time. -/
def leb : Nat → Nat → List UInt8
  | 0, _ => []
  | k + 1, u => if u < 128 then [UInt8.ofNat u] else UInt8.ofNat (u % 128 + 128) :: leb k (u / 128)
theorem Qv6 : ∀ (k u : Nat), (leb k u).length ≤ k
  | 0, _ => by simp [leb]
  | k + 1, u => by
    rw [leb]
    split
    · simp
    · have := Qv6 k (u / 128)
      simp only [List.length_cons]; omega
def Qc (n : Int) : List UInt8 := leb 10 (zig n)
def Q1m (l : List Int) : List UInt8 := l.flatMap Qc
theorem QE (n : Int) : (Qc n).length ≤ 10 := Qv6 10 _
theorem QbN : ∀ (l : List Int), (Q1m l).length ≤ 10 * l.length
  | [] => by simp [Q1m]
  | n :: l => by
    have h1 := QE n
    have h2 := QbN l
    simp only [Q1m, List.flatMap_cons, List.length_append, List.length_cons] at h2 ⊢
    omega
theorem Q3q {l : List Int} {j : Nat} {n : Int} (h : l[j]? = some n) : Q1m (l.take (j + 1)) = Q1m (l.take j) ++ Qc n := by
  rw [Q4M h]; simp [Q1m]
theorem QsS (u : Nat) : IntKind.u8.wrap (u : Int) = ((u % 256 : Nat) : Int) := by
  unfold IntKind.wrap
  simp [IntKind.bits, IntKind.signed]
theorem low_byte {u : Nat} (h : u < 128) : IntKind.u8.wrap (u : Int) = ((UInt8.ofNat u).toNat : Int) := by
  rw [QsS]; simp
theorem or_fin : ∀ p : Fin 256, bitI .or .u8 (p.val : Int) 128 = (((p.val % 128 + 128 : Nat)) : Int) := by decide +kernel
theorem or_byte (u : Nat) : bitI .or .u8 (IntKind.u8.wrap (u : Int)) 128 = ((UInt8.ofNat (u % 128 + 128)).toNat : Int) := by
  rw [QsS, or_fin ⟨u % 256, by omega⟩]
  simp
  omega
theorem shr_nat (u : Nat) : (u : Int).fdiv (2 ^ (min (7 : Int).toNat IntKind.u64.bits)) = ((u / 128 : Nat) : Int) := by
  rw [show (2 : Int) ^ (min (7 : Int).toNat IntKind.u64.bits) = ((128 : Nat) : Int) from by decide]
  rw [Int.fdiv_eq_ediv_of_nonneg _ (by omega)]; omega
theorem leb_lt {u k : Nat} (h : u < 128 ^ (k + 1)) (h1 : 128 ≤ u) : u / 128 < 128 ^ (k - 1 + 1) := by
  cases k with
  | zero => omega
  | succ k =>
    rw [Nat.pow_succ] at h
    exact Nat.div_lt_of_lt_mul (by rw [Nat.mul_comm]; exact h)
theorem Qt8 {u k : Nat} {acc pre : List UInt8} (hd : acc ++ leb (k + 1) u = pre) (hk : u < 128 ^ (k + 1)) (h : 128 ≤ u) : (acc ++ [UInt8.ofNat (u % 128 + 128)]) ++ leb (k - 1 + 1) (u / 128) = pre := by
  cases k with
  | zero => omega
  | succ k =>
    have e : leb (k + 1 + 1) u = UInt8.ofNat (u % 128 + 128) :: leb (k + 1) (u / 128) := by rw [leb, if_neg (by omega)]
    rw [← hd, e, List.append_assoc]; rfl
theorem Qta {u k : Nat} (h : u < 128) : leb (k + 1) u = [UInt8.ofNat u] := by rw [leb, if_pos h]
theorem Qt9 {u : Nat} (h : 128 ≤ u) : (((u / 128 : Nat) : Int)).toNat < ((u : Int)).toNat := by omega
theorem Qas : ∀ (l : List Int) (j : Nat), (Q1m (l.take j)).length ≤ (Q1m l).length
  | [], j => by simp
  | n :: l, 0 => by simp [Q1m]
  | n :: l, j + 1 => by
    have := Qas l j
    simp only [Q1m, List.take_succ_cons, List.flatMap_cons, List.length_append] at this ⊢
    omega
theorem acc_len {acc r bs : List UInt8} {l : List Int} {j : Nat} {n : Int} (hd : acc ++ r = bs ++ Q1m (l.take j) ++ Qc n) (hx : l[j]? = some n) (hb : bs.length + (Q1m l).length ≤ 60000000000000) : acc.length ≤ 60000000000000 := by
  have h1 := congrArg List.length hd
  have h2 := Qas l (j + 1)
  rw [Q3q hx] at h2
  simp only [List.length_append] at h1 h2
  omega
theorem Q32 (n : Int) : Q1m [n] = Qc n := by simp [Q1m]
theorem room_one {bs : List UInt8} {l : List Int} {j : Nat} {n : Int} (hx : l[j]? = some n) (hb : bs.length + (Q1m l).length ≤ 60000000000000) : (bs ++ Q1m (l.take j)).length + (Q1m [n]).length ≤ 60000000000000 := by
  have h2 := Qas l (j + 1)
  rw [Q3q hx] at h2
  rw [Q32]
  simp only [List.length_append] at h2 ⊢
  omega
theorem QtE {bs : List UInt8} {l : List Int} {j : Nat} {n : Int} (hx : l[j]? = some n) : bs ++ Q1m (l.take (j + 1)) = bs ++ Q1m (l.take j) ++ Q1m [n] := by
  rw [Q3q hx, Q32, List.append_assoc]
/-- A list of numbers, its length ahead of it. -/
def Q24 (l : List Int) : List UInt8 := Qc l.length ++ Q1m l
mutual
def Ty.bts : Ty → List UInt8
  | .mk k r l => Qc k ++ (if k ≠ 1 then Qc r else []) ++ (if k = 3 then Qc l.length ++ Tys.bts l else [])
def Tys.bts : List Ty → List UInt8
  | [] => []
  | x :: l => x.bts ++ Tys.bts l
end
/-- A list of types, its length ahead of it. -/
def tysB (l : List Ty) : List UInt8 := Qc l.length ++ Tys.bts l
theorem Ty.bts_mk (t : Ty) : t.bts = Qc t.kind ++ (if t.kind ≠ 1 then Qc t.r else []) ++ (if t.kind = 3 then tysB t.l else []) := by
  obtain ⟨k, r, l⟩ := t
  rw [Ty.bts]; rfl
theorem Tys.bts_snoc : ∀ {l : List Ty} {j : Nat} {x : Ty}, l[j]? = some x → Tys.bts (l.take (j + 1)) = Tys.bts (l.take j) ++ x.bts
  | [], j, x, h => by simp at h
  | y :: l, 0, x, h => by
    simp only [List.getElem?_cons_zero, Option.some.injEq] at h
    subst h
    simp [Tys.bts]
  | y :: l, j + 1, x, h => by
    rw [List.getElem?_cons_succ] at h
    rw [List.take_succ_cons, List.take_succ_cons, Tys.bts, Tys.bts, Tys.bts_snoc h, List.append_assoc]
theorem Tys.bts_le : ∀ (l : List Ty) (j : Nat), (Tys.bts (l.take j)).length ≤ (Tys.bts l).length
  | [], j => by simp
  | y :: l, 0 => by simp [Tys.bts]
  | y :: l, j + 1 => by
    have := Tys.bts_le l j
    rw [List.take_succ_cons, Tys.bts, Tys.bts, List.length_append, List.length_append]
    omega
theorem Tys.bts_room {l : List Ty} {j : Nat} {x : Ty} (h : l[j]? = some x) : (Tys.bts (l.take j)).length + x.bts.length ≤ (Tys.bts l).length := by
  have := Tys.bts_le l (j + 1)
  rw [Tys.bts_snoc h, List.length_append] at this
  exact this
def To.bts (t : To) : List UInt8 := Qc t.block ++ Q24 t.regs ++ Q24 t.args
def Tail.bts (e : Tail) : List UInt8 := Qc e.op ++ (if e.op = 1 then e.yes.bts else if e.op = 2 then Qc e.a ++ e.yes.bts ++ e.no.bts else if e.op = 3 then Q24 e.args else [])
/-- Which parts an instruction has. -/
def Qo (op : Int) : Nat := if op < 0 ∨ 14 < op then 0 else [0, 64, 11, 0, 1, 33, 9, 11, 3, 3, 7, 1, 0, 1, 56].getD op.toNat 0
theorem Qm5 (op : Int) : Qo op < 128 := by
  unfold Qo
  split
  · omega
  · have h : ∀ i : Fin 15, [0, 64, 11, 0, 1, 33, 9, 11, 3, 3, 7, 1, 0, 1, 56].getD i.val 0 < 128 := by decide
    exact h ⟨op.toNat, by omega⟩
def Qag (h : Nat) : Nat → List Int → List UInt8
  | _, [] => []
  | k, n :: l => (if h / 2 ^ k % 2 = 1 then Qc n else []) ++ Qag h (k + 1) l
theorem QbI {h k : Nat} {l : List Int} {n : Int} (hx : l[k]? = some n) : Qag h k (l.drop k) = (if h / 2 ^ k % 2 = 1 then Qc n else []) ++ Qag h (k + 1) (l.drop (k + 1)) := by
  rw [Q7 hx, Qag]
def Ins.bts (x : Ins) : List UInt8 := Qc x.op ++ Qag (Qo x.op) 0 [x.a, x.b, x.c, x.k] ++ (if Qo x.op / 64 % 2 = 1 then Qc x.n else []) ++ (if Qo x.op / 16 % 2 = 1 then Q24 x.regs else []) ++ (if Qo x.op / 32 % 2 = 1 then Q24 x.args else [])
theorem bit_fin : ∀ (h : Fin 128) (j : Fin 4), bitI .and .i64 ((h.val : Int).fdiv (2 ^ (min ((j.val : Int)).toNat IntKind.i64.bits))) 1 = ((h.val / 2 ^ j.val % 2 : Nat) : Int) := by decide +kernel
theorem bit_at {h j : Nat} (hh : h < 128) (hj : j < 4) : bitI .and .i64 ((h : Int).fdiv (2 ^ (min ((j : Int)).toNat IntKind.i64.bits))) 1 = ((h / 2 ^ j % 2 : Nat) : Int) := bit_fin ⟨h, hh⟩ ⟨j, hj⟩
theorem Qsg : ∀ (h : Fin 128), bitI .and .i64 (h.val : Int) 64 = ((64 * (h.val / 64 % 2) : Nat) : Int) ∧ bitI .and .i64 (h.val : Int) 16 = ((16 * (h.val / 16 % 2) : Nat) : Int) ∧ bitI .and .i64 (h.val : Int) 32 = ((32 * (h.val / 32 % 2) : Nat) : Int) := by decide +kernel
theorem and64 {h : Nat} (hh : h < 128) : bitI .and .i64 (h : Int) 64 = ((64 * (h / 64 % 2) : Nat) : Int) := (Qsg ⟨h, hh⟩).1
theorem and16 {h : Nat} (hh : h < 128) : bitI .and .i64 (h : Int) 16 = ((16 * (h / 16 % 2) : Nat) : Int) := (Qsg ⟨h, hh⟩).2.1
theorem and32 {h : Nat} (hh : h < 128) : bitI .and .i64 (h : Int) 32 = ((32 * (h / 32 % 2) : Nat) : Int) := (Qsg ⟨h, hh⟩).2.2
theorem Qs6 {op : Int} (h0 : 0 ≤ op) (h1 : op ≤ 14) : ([0, 64, 11, 0, 1, 33, 9, 11, 3, 3, 7, 1, 0, 1, 56].map fun n : Nat => Value.int .i64 (n : Int))[op.toNat]? = some (.int .i64 (Qo op : Int)) := by
  unfold Qo
  rw [if_neg (by omega)]
  have h : ∀ i : Fin 15, [0, 64, 11, 0, 1, 33, 9, 11, 3, 3, 7, 1, 0, 1, 56][i.val]? = some ([0, 64, 11, 0, 1, 33, 9, 11, 3, 3, 7, 1, 0, 1, 56].getD i.val 0) := by decide
  rw [List.getElem?_map, h ⟨op.toNat, by omega⟩]; rfl
end Go.Lir
namespace Go.Lir
set_option linter.unusedVariables false
mutual
def Ty.nodes : Ty → Nat
  | .mk _ _ l => 1 + Tys.nodes l
def Tys.nodes : List Ty → Nat
  | [] => 0
  | x :: l => x.nodes + Tys.nodes l
end
mutual
theorem Ty.size_nodes : ∀ (t : Ty) {n : Int}, 0 ≤ t.size n → t.size n = n - t.nodes
  | .mk k r l, n, h => by
    rw [Ty.size] at h ⊢
    rw [Tys.size_nodes l h, Ty.nodes]
    omega
theorem Tys.size_nodes : ∀ (l : List Ty) {n : Int}, 0 ≤ Tys.size l n → Tys.size l n = n - Tys.nodes l
  | [], n, h => by rw [Tys.size, Tys.nodes]; omega
  | x :: l, n, h => by
    rw [Tys.size] at h ⊢
    by_cases hn : 0 ≤ n
    · rw [if_pos hn] at h ⊢
      have hx : 0 ≤ x.size n := by
        rcases Int.lt_or_le (x.size n) 0 with h1 | h1
        · rw [Tys.size_neg l h1] at h; omega
        · exact h1
      rw [Tys.size_nodes l h, Ty.size_nodes x hx, Tys.nodes]
      omega
    · rw [if_neg hn] at h; omega
end
theorem Ty.nodes_of_great {t : Ty} (h : t.great = false) : t.nodes ≤ 2000 := by
  unfold Ty.great at h
  simp at h
  have := Ty.size_nodes t h
  omega
end Go.Lir
namespace Go.Lir
set_option linter.unusedVariables false
theorem QfN (n : Nat) (h : n < 4294967296) : IntKind.u32.wrap (n : Int) = (n : Int) := by
  unfold IntKind.wrap
  simp [IntKind.bits, IntKind.signed]
  omega
theorem QfY (a : BitVec 32) : BitVec.ofInt IntKind.u32.bits (a.toNat : Int) = a := by
  show BitVec.ofInt 32 (a.toNat : Int) = a
  rw [BitVec.ofInt_natCast, BitVec.ofNat_toNat]; simp
theorem Qqo (a b : BitVec 32) : bitI .xor .u32 (a.toNat : Int) (b.toNat : Int) = ((a ^^^ b).toNat : Int) := by
  unfold bitI
  rw [QfY, QfY]
  exact QfN _ (a ^^^ b).isLt
theorem Qtj (a b : BitVec 32) : bitI .and .u32 (a.toNat : Int) (b.toNat : Int) = ((a &&& b).toNat : Int) := by
  unfold bitI
  rw [QfY, QfY]
  exact QfN _ (a &&& b).isLt
theorem bv_neg (a : BitVec 32) : IntKind.u32.wrap (0 - (a.toNat : Int)) = ((-a).toNat : Int) := by
  unfold IntKind.wrap
  simp [IntKind.bits, IntKind.signed, BitVec.toNat_neg]
  have := a.isLt
  omega
theorem bv_shr (a : BitVec 32) : (a.toNat : Int).fdiv (2 ^ (min (1 : Int).toNat IntKind.u32.bits)) = ((a >>> 1).toNat : Int) := by
  rw [show (2 : Int) ^ (min (1 : Int).toNat IntKind.u32.bits) = 2 from by decide, Int.fdiv_eq_ediv_of_nonneg _ (by omega), BitVec.toNat_ushiftRight, Nat.shiftRight_eq_div_pow]
  omega
theorem QvA (x : UInt8) : IntKind.u32.wrap (x.toNat : Int) = ((BitVec.ofNat 32 x.toNat).toNat : Int) := by
  have := x.toNat_lt
  rw [QfN _ (by omega), BitVec.toNat_ofNat, Nat.mod_eq_of_lt (by omega)]
/-- One bit. -/
def QgI (c : BitVec 32) : BitVec 32 := (c >>> 1) ^^^ (3988292384#32 &&& -(c &&& 1#32))
def crcN : Nat → BitVec 32 → BitVec 32
  | 0, c => c
  | k + 1, c => crcN k (QgI c)
theorem Qq4 : ∀ (k : Nat) (c : BitVec 32), crcN (k + 1) c = QgI (crcN k c)
  | 0, c => rfl
  | k + 1, c => by rw [crcN, Qq4 k]; rfl
/-- One byte. -/
def Q4H (c : BitVec 32) (x : UInt8) : BitVec 32 := crcN 8 (c ^^^ BitVec.ofNat 32 x.toNat)
def Q3B (bs : List UInt8) : BitVec 32 := 4294967295#32 ^^^ bs.foldl Q4H 4294967295#32
theorem QmK (c : BitVec 32) : c &&& 1#32 = if c.getLsbD 0 then 1#32 else 0#32 := by
  apply BitVec.eq_of_getLsbD_eq
  intro i hi
  rw [BitVec.getLsbD_and]
  cases i with
  | zero => cases c.getLsbD 0 <;> simp
  | succ i =>
    have h1 : (1#32).getLsbD (i + 1) = false := by rw [show (1#32) = BitVec.ofNat 32 1 from rfl, BitVec.getLsbD_ofNat]; simp [Nat.testBit_succ]
    rw [h1]
    cases c.getLsbD 0
    · simp
    · simp only [if_true]; rw [h1]; simp
theorem QtN (c : BitVec 32) : QgI c = (c >>> 1) ^^^ (if c.getLsbD 0 then 3988292384#32 else 0#32) := by
  unfold QgI
  rw [QmK]
  cases c.getLsbD 0 <;> rfl
section
variable {P : Program} {l : List GO} {Q : QT} {ρ : Env} {w : World}
theorem s_compl {d : Nat} {x : Operand} {c : BitVec 32} (hx : ρ.ev x = .int .u32 (c.toNat : Int)) (h : Q5 P l Q (upd ρ d (.int .u32 ((4294967295#32 ^^^ c).toNat : Int))) w) : Q5 P (⟨none, .un d .xor x⟩ :: l) Q ρ w :=
  ⟨_, fun w0 => by
    rw [hx, ← Qqo]
    rfl, h⟩
end
end Go.Lir
namespace Go.Lir
set_option linter.unusedVariables false
def Block.bts (b : Block) : List UInt8 := Qc b.regs ++ tysB b.params ++ Qc b.code.length ++ b.code.flatMap Ins.bts ++ b.fin.bts
def Fun.bts (f : Fun) : List UInt8 := Qc f.regs ++ tysB f.params ++ tysB f.results ++ Qc f.blocks.length ++ f.blocks.flatMap Block.bts
def Module.body (m : Module) : List UInt8 := [67, 72, 1] ++ Qc m.funcs.length ++ m.funcs.flatMap Fun.bts
def Ins.Few (x : Ins) : Prop := x.regs.length ≤ 300 ∧ x.args.length ≤ 300
def To.Few (x : To) : Prop := x.regs.length ≤ 300 ∧ x.args.length ≤ 300
def Tail.Few (x : Tail) : Prop := x.yes.Few ∧ x.no.Few ∧ x.args.length ≤ 300
def Block.Few (b : Block) : Prop := Tys.great b.params = false ∧ b.code.length ≤ 200 ∧ (∀ i ∈ b.code, i.Few) ∧ b.fin.Few
def Fun.Few (f : Fun) : Prop := Tys.great f.params = false ∧ Tys.great f.results = false ∧ f.blocks.length ≤ 30 ∧ ∀ b ∈ f.blocks, b.Few
def Module.Few (m : Module) : Prop := m.funcs.length ≤ 20 ∧ ∀ f ∈ m.funcs, f.Few
theorem Qte {α : Type} {f : α → List UInt8} {c : Nat} : ∀ {l : List α}, (∀ x ∈ l, (f x).length ≤ c) → (l.flatMap f).length ≤ l.length * c
  | [], _ => by simp
  | x :: l, h => by
    have h1 := h x (List.mem_cons_self ..)
    have h2 := Qte (l := l) fun y hy => h y (List.mem_cons_of_mem _ hy)
    rw [List.flatMap_cons, List.length_append, List.length_cons, Nat.succ_mul]
    omega
theorem QgC {α : Type} {f : α → List UInt8} {c n : Nat} {l : List α} (h : ∀ x ∈ l, (f x).length ≤ c) (hn : l.length ≤ n) : (l.flatMap f).length ≤ n * c :=
  Nat.le_trans (Qte h) (Nat.mul_le_mul_right c hn)
mutual
theorem Ty.bts_len : ∀ (t : Ty), t.bts.length ≤ 30 * t.nodes
  | .mk k r l => by
    have h1 := Tys.bts_len l
    have h2 := QE k
    have h3 := QE r
    have h4 := QE l.length
    rw [Ty.bts, Ty.nodes]
    simp only [List.length_append]
    split <;> split <;> simp only [List.length_append, List.length_nil] <;> omega
theorem Tys.bts_len : ∀ (l : List Ty), (Tys.bts l).length ≤ 30 * Tys.nodes l
  | [] => by simp [Tys.bts]
  | x :: l => by
    have h1 := Ty.bts_len x
    have h2 := Tys.bts_len l
    rw [Tys.bts, Tys.nodes, List.length_append]
    omega
end
theorem Tys.nodes_few : ∀ {l : List Ty}, (∀ x ∈ l, x.nodes ≤ 2000) → Tys.nodes l ≤ 2000 * l.length
  | [], _ => by simp [Tys.nodes]
  | x :: l, h => by
    have h1 := h x (List.mem_cons_self ..)
    have h2 := Tys.nodes_few (l := l) fun y hy => h y (List.mem_cons_of_mem _ hy)
    rw [Tys.nodes, List.length_cons]
    omega
theorem Qmf {l : List Ty} (h : Tys.great l = false) : (tysB l).length ≤ 12000010 := by
  unfold Tys.great at h
  rw [Bool.or_eq_false_iff] at h
  have hl : l.length ≤ 200 := by have := of_decide_eq_false h.1; omega
  have h1 := Tys.bts_len l
  have h2 := Tys.nodes_few (l := l) fun x hx => Ty.nodes_of_great (by have := List.any_eq_false.1 h.2 x hx; simpa using this)
  have h3 := QE l.length
  unfold tysB
  rw [List.length_append]
  omega
theorem Q6B {l : List Int} (h : l.length ≤ 300) : (Q24 l).length ≤ 3010 := by
  have h1 := QbN l
  have h2 := QE l.length
  unfold Q24
  rw [List.length_append]
  omega
theorem To.bts_few {x : To} (h : x.Few) : x.bts.length ≤ 6030 := by
  have h1 := Q6B h.1
  have h2 := Q6B h.2
  have h3 := QE x.block
  unfold To.bts
  simp only [List.length_append]
  omega
theorem Tail.bts_few {x : Tail} (h : x.Few) : x.bts.length ≤ 13000 := by
  have h1 := To.bts_few h.1
  have h2 := To.bts_few h.2.1
  have h3 := Q6B h.2.2
  have h4 := QE x.op
  have h5 := QE x.a
  unfold Tail.bts
  rw [List.length_append]
  split
  · omega
  · split
    · simp only [List.length_append]; omega
    · split
      · omega
      · simp only [List.length_nil]; omega
theorem Ins.bts_few {x : Ins} (h : x.Few) : x.bts.length ≤ 6110 := by
  have h1 := Q6B h.1
  have h2 := Q6B h.2
  have h3 := QE x.op
  have h4 := QE x.n
  have ha := QE x.a
  have hb := QE x.b
  have hc := QE x.c
  have hk := QE x.k
  have h5 : (Qag (Qo x.op) 0 [x.a, x.b, x.c, x.k]).length ≤ 40 := by
    simp only [Qag, List.length_append, List.length_nil]
    split <;> split <;> split <;> split <;> (try simp only [List.length_nil]) <;> omega
  unfold Ins.bts
  simp only [List.length_append]
  split <;> split <;> split <;> (try simp only [List.length_nil]) <;> omega
theorem Block.bts_few {b : Block} (h : b.Few) : b.bts.length ≤ 14000000 := by
  have h1 := Qmf h.1
  have h2 := QgC (f := Ins.bts) (c := 6110) (fun x hx => Ins.bts_few (h.2.2.1 x hx)) h.2.1
  have h3 := Tail.bts_few h.2.2.2
  have h4 := QE b.regs
  have h5 := QE b.code.length
  unfold Block.bts
  simp only [List.length_append]
  omega
theorem Fun.bts_few {f : Fun} (h : f.Few) : f.bts.length ≤ 450000000 := by
  have h1 := Qmf h.1
  have h2 := Qmf h.2.1
  have h3 := QgC (f := Block.bts) (c := 14000000) (fun x hx => Block.bts_few (h.2.2.2 x hx)) h.2.2.1
  have h4 := QE f.regs
  have h5 := QE f.blocks.length
  unfold Fun.bts
  simp only [List.length_append]
  omega
theorem Module.body_few {m : Module} (h : m.Few) : m.body.length ≤ 10000000000 := by
  have h1 := QgC (f := Fun.bts) (c := 450000000) (fun x hx => Fun.bts_few (h.2 x hx)) h.1
  have h2 := QE m.funcs.length
  unfold Module.body
  simp only [List.length_append, List.length_cons, List.length_nil]
  omega
end Go.Lir
namespace Go.Lir
set_option linter.unusedVariables false
abbrev Flt := Int × Int
/-- The first fault. -/
def orF (a b : Flt) : Flt := if a.1 = 0 ∧ b.1 ≠ 0 then b else a
def mkF (c at' : Int) : Flt := if c = 0 then (0, 0) else (c, at')
theorem Q46 (a b c : Flt) : orF (orF a b) c = orF a (orF b c) := by
  unfold orF
  by_cases h1 : a.1 = 0 <;> by_cases h2 : b.1 = 0 <;> by_cases h3 : c.1 = 0 <;> simp [h1, h2, h3]
theorem Q5P {a b : Flt} (h : a.1 ≠ 0) : orF a b = a := by unfold orF; rw [if_neg (fun h' => h h'.1)]
theorem Qty {a b : Flt} (h : b.1 = 0) : orF a b = a := by unfold orF; rw [if_neg (fun h' => h'.2 h)]
theorem Q2r {b : Flt} (h : b.1 = 0 → b = (0, 0)) : orF (0, 0) b = b := by
  unfold orF
  by_cases hb : b.1 = 0
  · rw [h hb]; rfl
  · rw [if_pos ⟨rfl, hb⟩]
theorem Q2s (at' : Int) : mkF 0 at' = (0, 0) := rfl
theorem Qar {c at' : Int} (h : c ≠ 0) : mkF c at' = (c, at') := if_neg h
theorem Q3a (c at' : Int) : (mkF c at').1 = c := by unfold mkF; split <;> simp_all
theorem QpT (c at' : Int) : (mkF c at').1 = 0 → mkF c at' = (0, 0) := by rw [Q3a]; rintro rfl; rfl
theorem QrW {a b : Flt} (ha : a.1 = 0 → a = (0, 0)) (hb : b.1 = 0 → b = (0, 0)) : (orF a b).1 = 0 → orF a b = (0, 0) := by
  unfold orF
  split
  · exact hb
  · exact ha
/-- Two codes at one place: the first that is not 0. -/
def orC (a b : Int) : Int := if a ≠ 0 then a else b
theorem Q39 {g : Flt} {a b at' : Int} : orF (orF g (mkF a at')) (mkF b at') = orF g (mkF (orC a b) at') := by
  rw [Q46]
  congr 1
  unfold orC orF
  by_cases h : a = 0
  · subst h
    by_cases hb : b = 0
    · subst hb; rfl
    · simp [mkF, hb]
  · simp [mkF, h]

/-! which fields an instruction has -/
def fA (op : Int) : Bool := decide (op = 2 ∨ op = 4 ∨ op = 5 ∨ op = 6 ∨ op = 7 ∨ op = 8 ∨ op = 9 ∨ op = 10 ∨ op = 11 ∨ op = 13)
def fB (op : Int) : Bool := decide (op = 2 ∨ op = 7 ∨ op = 8 ∨ op = 9 ∨ op = 10)
def fC (op : Int) : Bool := decide (op = 10)
def fK (op : Int) : Bool := decide (op = 2 ∨ op = 6 ∨ op = 7 ∨ op = 14)
def fN (op : Int) : Bool := decide (op = 1)
def fG (op : Int) : Bool := decide (op = 14)
def fR (op : Int) : Bool := decide (op = 5 ∨ op = 14)
/-- A field that the kind has not is not 0. -/
def Ins.odd (x : Ins) : Prop := (fA x.op = false ∧ x.a ≠ 0) ∨ (fB x.op = false ∧ x.b ≠ 0) ∨ (fC x.op = false ∧ x.c ≠ 0) ∨ (fK x.op = false ∧ x.k ≠ 0) ∨ (fN x.op = false ∧ x.n ≠ 0) ∨ (fG x.op = false ∧ 0 < x.regs.length) ∨ (fR x.op = false ∧ 0 < x.args.length)
instance (x : Ins) : Decidable x.odd := by unfold Ins.odd; infer_instance
/-- What stands behind the form, kind by kind. -/
def Q2t (n : Nat) (x : Ins) : Int :=
  if x.op = 2 then (if x.k < 1 ∨ 9 < x.k then 1 else 0)
  else if x.op = 5 then (if 8 < x.args.length then 2 else 0)
  else if x.op = 6 ∨ x.op = 7 then (if x.k < 0 ∨ 8 ≤ x.k then 1 else 0)
  else if x.op = 14 then (if x.k < 0 ∨ (n : Int) ≤ x.k then 1 else if 6 < x.regs.length ∨ 8 < x.args.length then 2 else 0)
  else 0
def Q2M (n : Nat) (x : Ins) : Int := if x.op < 1 ∨ 14 < x.op then 3 else if x.odd then 4 else Q2t n x
def Q2N (n : Nat) (t : To) (is : Bool) : Int :=
  if is = false then (if t.block ≠ 0 ∨ 0 < t.regs.length ∨ 0 < t.args.length then 4 else 0)
  else if t.block < 0 ∨ (n : Int) ≤ t.block then 1 else if 16 < t.regs.length ∨ 8 < t.args.length then 2 else 0
def Q2Z (n : Nat) (e : Tail) : Int :=
  if e.op < 1 ∨ 3 < e.op then 3
  else if e.op ≠ 2 ∧ e.a ≠ 0 ∨ e.op ≠ 3 ∧ 0 < e.args.length then 4
  else if 8 < e.args.length then 2
  else orC (Q2N n e.yes (decide (e.op ≠ 3))) (Q2N n e.no (decide (e.op = 2)))
def Q3o (regs : Int) : List Ty → Int
  | [] => 0
  | t :: l => orC (t.fault regs) (Q3o regs l)
def QA (l : List Ty) (regs : Int) : Int := if 8 < l.length then 2 else Q3o regs l
def Q3m (f : Nat) : Int := f * 10000 + 9999
def Q3t (f b : Nat) : Int := f * 10000 + b * 100 + 90
def QjL (f b : Nat) : Int := f * 10000 + b * 100 + 91
def Qhl (f b i : Nat) : Int := f * 10000 + b * 100 + i
/-- The instructions from the i-th on. -/
def Q1b (n f b : Nat) : Nat → List Ins → Flt
  | _, [] => (0, 0)
  | i, x :: l => orF (mkF (Q2M n x) (Qhl f b i)) (Q1b n f b (i + 1) l)
def Qx (x : Fun) (b : Nat) (y : Block) : Int :=
  if y.regs < x.regs ∨ 16 < y.regs then 1
  else if QA y.params y.regs ≠ 0 then QA y.params y.regs
  else if b = 0 ∧ (y.regs ≠ x.regs ∨ y.params ≠ x.params) then 9
  else if 40 < y.code.length then 2 else 0
def QV (n f : Nat) (x : Fun) (b : Nat) (y : Block) : Flt := orF (mkF (Qx x b y) (Q3t f b)) (orF (Q1b n f b 0 y.code) (mkF (Q2Z x.blocks.length y.fin) (QjL f b)))
def QY (n f : Nat) (x : Fun) : Nat → List Block → Flt
  | _, [] => (0, 0)
  | b, y :: l => orF (QV n f x b y) (QY n f x (b + 1) l)
def QH (f : Nat) (x : Fun) : Int :=
  if x.regs < 0 ∨ 6 < x.regs then 1
  else if QA x.params x.regs ≠ 0 then QA x.params x.regs
  else if QA x.results x.regs ≠ 0 then QA x.results x.regs
  else if x.blocks.length < 1 ∨ 12 < x.blocks.length then 2
  else if f = 0 ∧ (0 < x.regs ∨ 0 < x.params.length ∨ ∃ t ∈ x.results, t.kind ≠ 1) then 18 else 0
def Q2d (n f : Nat) (x : Fun) : Flt := orF (mkF (QH f x) (Q3m f)) (QY n f x 0 x.blocks)
def Q1s (n : Nat) : Nat → List Fun → Flt
  | _, [] => (0, 0)
  | f, x :: l => orF (Q2d n f x) (Q1s n (f + 1) l)
def Module.fault (m : Module) : Flt := orF (mkF (if m.funcs.length < 1 ∨ 8 < m.funcs.length then 2 else 0) (-1)) (Q1s m.funcs.length 0 m.funcs)
theorem Qa8 {n f b : Nat} : ∀ {l : List Ins} {i : Nat}, (Q1b n f b i l).1 = 0 → Q1b n f b i l = (0, 0)
  | [], _ => fun _ => rfl
  | _ :: _, _ => QrW (QpT _ _) Qa8
theorem QdL {n f : Nat} {x : Fun} {b : Nat} {y : Block} : (QV n f x b y).1 = 0 → QV n f x b y = (0, 0) := QrW (QpT _ _) (QrW Qa8 (QpT _ _))
theorem Q3h {n f : Nat} {x : Fun} : ∀ {l : List Block} {b : Nat}, (QY n f x b l).1 = 0 → QY n f x b l = (0, 0)
  | [], _ => fun _ => rfl
  | _ :: _, _ => QrW QdL Q3h
theorem Qq {n : Nat} : ∀ {l : List Fun} {f : Nat}, (Q1s n f l).1 = 0 → Q1s n f l = (0, 0)
  | [], _ => fun _ => rfl
  | _ :: _, _ => QrW (QrW (QpT _ _) Q3h) Qq
theorem Q21 {n f b : Nat} {x : Fun} {y : Block} {c : Int} (h : Qx x b y = c) (hc : c ≠ 0) : QV n f x b y = (c, Q3t f b) := by
  unfold QV; rw [h, Q5P (by rw [Q3a]; exact hc), Qar hc]
theorem Qsf {n f b : Nat} {x : Fun} {y : Block} {F : Flt} (h : Qx x b y = 0) (hc : Q1b n f b 0 y.code = F) (hF : F.1 ≠ 0) : QV n f x b y = F := by
  unfold QV; rw [h, Q2s, hc, Q5P hF, Q2r (fun h => absurd h hF)]
theorem bf_end {n f b : Nat} {x : Fun} {y : Block} (h : Qx x b y = 0) (hc : Q1b n f b 0 y.code = (0, 0)) : QV n f x b y = mkF (Q2Z x.blocks.length y.fin) (QjL f b) := by
  unfold QV; rw [h, Q2s, hc, Q2r (QpT _ _), Q2r (QpT _ _)]
theorem QjJ {n f b i : Nat} {x : Ins} {l : List Ins} (h : Q2M n x = 0) : Q1b n f b i (x :: l) = Q1b n f b (i + 1) l := by
  rw [Q1b, h, Q2s, Q2r Qa8]
theorem Q4K {n f b i : Nat} {x : Ins} {l : List Ins} (h : Q2M n x ≠ 0) : Q1b n f b i (x :: l) = (Q2M n x, Qhl f b i) := by
  rw [Q1b, Q5P (by rw [Q3a]; exact h), Qar h]
theorem Q1a {n f : Nat} {x : Fun} {c : Int} (h : QH f x = c) (hc : c ≠ 0) : Q2d n f x = (c, Q3m f) := by
  unfold Q2d; rw [h, Q5P (by rw [Q3a]; exact hc), Qar hc]
theorem QgF {n f : Nat} {x : Fun} (h : QH f x = 0) : Q2d n f x = QY n f x 0 x.blocks := by
  unfold Q2d; rw [h, Q2s, Q2r Q3h]
theorem Qez {n f b : Nat} {x : Fun} {y : Block} {l : List Block} (h : (QV n f x b y).1 = 0) : QY n f x b (y :: l) = QY n f x (b + 1) l := by
  rw [QY, QdL h, Q2r Q3h]
theorem Q5I {n f b : Nat} {x : Fun} {y : Block} {l : List Block} (h : (QV n f x b y).1 ≠ 0) : QY n f x b (y :: l) = QV n f x b y := by
  rw [QY, Q5P h]
theorem QtJ {n f : Nat} {x : Fun} : (Q2d n f x).1 = 0 → Q2d n f x = (0, 0) := QrW (QpT _ _) Q3h
theorem Qju {n f : Nat} {x : Fun} {l : List Fun} (h : (Q2d n f x).1 = 0) : Q1s n f (x :: l) = Q1s n (f + 1) l := by
  rw [Q1s, QtJ h, Q2r Qq]
theorem Qj {n f : Nat} {x : Fun} {l : List Fun} (h : (Q2d n f x).1 ≠ 0) : Q1s n f (x :: l) = Q2d n f x := by
  rw [Q1s, Q5P h]

/-! has -/
def hasTab : List ByteArray := [⟨#[]⟩, ⟨#[110]⟩, ⟨#[97, 98, 107]⟩, ⟨#[]⟩, ⟨#[97]⟩, ⟨#[97, 114]⟩, ⟨#[97, 107]⟩, ⟨#[97, 98, 107]⟩, ⟨#[97, 98]⟩, ⟨#[97, 98]⟩, ⟨#[97, 98, 99]⟩, ⟨#[97]⟩, ⟨#[]⟩, ⟨#[97]⟩, ⟨#[107, 103, 114]⟩]
def hasF (op : Int) : ByteArray := if op < 1 ∨ 14 < op then ⟨#[]⟩ else hasTab.getD op.toNat ⟨#[]⟩
def Q1K (s : ByteArray) (c : Nat) : Bool := s.data.toList.any fun b => decide (b.toNat = c)
theorem op_cases {op : Int} (h1 : ¬ op < 1) (h2 : ¬ 14 < op) : op = 1 ∨ op = 2 ∨ op = 3 ∨ op = 4 ∨ op = 5 ∨ op = 6 ∨ op = 7 ∨ op = 8 ∨ op = 9 ∨ op = 10 ∨ op = 11 ∨ op = 12 ∨ op = 13 ∨ op = 14 := by omega
theorem with_all (op : Int) (h : ¬ (op < 1 ∨ 14 < op)) : Q1K (hasF op) 97 = fA op ∧ Q1K (hasF op) 98 = fB op ∧ Q1K (hasF op) 99 = fC op ∧ Q1K (hasF op) 107 = fK op ∧ Q1K (hasF op) 110 = fN op ∧ Q1K (hasF op) 103 = fG op ∧ Q1K (hasF op) 114 = fR op := by
  rcases op_cases (op := op) (by omega) (by omega) with rfl | rfl | rfl | rfl | rfl | rfl | rfl | rfl | rfl | rfl | rfl | rfl | rfl | rfl <;> decide
end Go.Lir
namespace Go.Lir
set_option linter.unusedVariables false
abbrev Got (α : Type) := Except Flt (α × List UInt8)
def Qz {α β : Type} (x : Got α) (f : α → List UInt8 → Got β) : Got β := match x with
  | .ok (a, r) => f a r
  | .error e => .error e
/-- A number without sign: at most so many bytes are left to it; n: how many bytes there are in all. -/
def rdU (n : Nat) : Nat → List UInt8 → Got Nat
  | 0, r => .ok (0, r)
  | k + 1, [] => .error (5, n)
  | k + 1, x :: r =>
    if (k = 0 ∧ 1 < x.toNat) ∨ (k ≠ 9 ∧ x.toNat = 0) then .error (1, (n : Int) - (r.length + 1 : Nat))
    else if x.toNat < 128 then .ok (x.toNat, r)
    else Qz (rdU n k r) fun u r' => .ok (x.toNat - 128 + 128 * u, r')
def Q3n (u : Nat) : Int := if u % 2 = 0 then (u / 2 : Nat) else - ((u / 2 : Nat) : Int) - 1
def rdLong (n : Nat) (r : List UInt8) : Got Int := Qz (rdU n 10 r) fun u r => .ok (Q3n u, r)
def rdMany {α : Type} (f : List UInt8 → Got α) : Nat → List UInt8 → Got (List α)
  | 0, r => .ok ([], r)
  | k + 1, r => Qz (f r) fun x r => Qz (rdMany f k r) fun l r => .ok (x :: l, r)
def Q14 {α : Type} (n : Nat) (f : List UInt8 → Got α) (r : List UInt8) : Got (List α) :=
  Qz (rdLong n r) fun c r' => if c < 0 ∨ (r'.length : Int) < c then .error (2, (n : Int) - r.length) else rdMany f c.toNat r'
def Q1Z (n : Nat) : List UInt8 → Got (List Int) := Q14 n (rdLong n)
def rdIf {α : Type} (p : Prop) [Decidable p] (z : α) (f : List UInt8 → Got α) (r : List UInt8) : Got α := if p then f r else .ok (z, r)
/-- Types; left: how deep they may still be. -/
def QO (n : Nat) : Nat → List UInt8 → Got (List Ty)
  | 0, r => .error (19, (n : Int) - r.length)
  | k + 1, r => Q14 n (fun r => Qz (rdLong n r) fun kd r => Qz (rdIf (kd ≠ 1) 0 (rdLong n) r) fun rg r => Qz (rdIf (kd = 3) [] (QO n k) r) fun l r => .ok (Ty.mk kd rg l, r)) r
def rdTy (n k : Nat) (r : List UInt8) : Got Ty := Qz (rdLong n r) fun kd r => Qz (rdIf (kd ≠ 1) 0 (rdLong n) r) fun rg r => Qz (rdIf (kd = 3) [] (QO n k) r) fun l r => .ok (Ty.mk kd rg l, r)
theorem Q6r (n k : Nat) (r : List UInt8) : QO n (k + 1) r = Q14 n (rdTy n k) r := by rw [QO]; rfl
def Q4g (n : Nat) (r : List UInt8) : Got Ins :=
  Qz (rdLong n r) fun op r => Qz (rdIf (Qo op / 2 ^ 0 % 2 = 1) 0 (rdLong n) r) fun a r => Qz (rdIf (Qo op / 2 ^ 1 % 2 = 1) 0 (rdLong n) r) fun b r =>
  Qz (rdIf (Qo op / 2 ^ 2 % 2 = 1) 0 (rdLong n) r) fun c r => Qz (rdIf (Qo op / 2 ^ 3 % 2 = 1) 0 (rdLong n) r) fun k r => Qz (rdIf (Qo op / 64 % 2 = 1) 0 (rdLong n) r) fun m r =>
  Qz (rdIf (Qo op / 16 % 2 = 1) [] (Q1Z n) r) fun regs r => Qz (rdIf (Qo op / 32 % 2 = 1) [] (Q1Z n) r) fun args r => .ok (⟨op, a, b, c, k, m, regs, args⟩, r)
def rdTo (n : Nat) (r : List UInt8) : Got To :=
  Qz (rdLong n r) fun b r => Qz (Q1Z n r) fun regs r => Qz (Q1Z n r) fun args r => .ok (⟨b, regs, args⟩, r)
def Q2q (n : Nat) (r : List UInt8) : Got Tail :=
  Qz (rdLong n r) fun op r => Qz (rdIf (op = 2) 0 (rdLong n) r) fun a r => Qz (rdIf (op = 1 ∨ op = 2) ⟨0, [], []⟩ (rdTo n) r) fun yes r => Qz (rdIf (op = 2) ⟨0, [], []⟩ (rdTo n) r) fun no r =>
  Qz (rdIf (op = 3) [] (Q1Z n) r) fun args r => .ok (⟨op, a, yes, no, args⟩, r)
def Q1I (n : Nat) (r : List UInt8) : Got Block :=
  Qz (rdLong n r) fun regs r => Qz (QO n 6 r) fun ps r => Qz (Q14 n (Q4g n) r) fun code r => Qz (Q2q n r) fun fin r => .ok (⟨regs, ps, code, fin⟩, r)
def Q3U (n : Nat) (r : List UInt8) : Got Fun :=
  Qz (rdLong n r) fun regs r => Qz (QO n 6 r) fun ps r => Qz (QO n 6 r) fun rs r => Qz (Q14 n (Q1I n) r) fun bl r => .ok (⟨regs, ps, rs, bl⟩, r)
def QpL (n : Nat) (r : List UInt8) : Got (List Fun) := Q14 n (Q3U n) r
/-- The four bytes of a sum. -/
def sumB (c : BitVec 32) : List UInt8 := [UInt8.ofNat (c.toNat % 256), UInt8.ofNat (c.toNat / 256 % 256), UInt8.ofNat (c.toNat / 65536 % 256), UInt8.ofNat (c.toNat / 16777216 % 256)]
def decode (bs : List UInt8) : Except Flt Module :=
  if bs.length < 7 then .error (5, bs.length)
  else if 20000 < bs.length then .error (2, 20000)
  else if bs.take 3 ≠ [67, 72, 1] then .error (4, 0)
  else if sumB (Q3B (bs.take (bs.length - 4))) ≠ bs.drop (bs.length - 4) then .error (16, (bs.length - 4 : Nat))
  else match QpL (bs.length - 4) ((bs.take (bs.length - 4)).drop 3) with
    | .error e => .error e
    | .ok (l, r) => if r ≠ [] then .error (4, ((bs.length - 4 : Nat) : Int) - r.length) else if (Module.fault ⟨l⟩).1 ≠ 0 then .error (3, (bs.length - 4 : Nat)) else .ok ⟨l⟩
/-! ### What is read was written so -/
theorem Q7H {α β : Type} {x : Got α} {f : α → List UInt8 → Got β} {b : β} {r' : List UInt8} (h : Qz x f = .ok (b, r')) : ∃ a r, x = .ok (a, r) ∧ f a r = .ok (b, r') := by
  unfold Qz at h
  split at h
  · exact ⟨_, _, rfl, h⟩
  · cases h
theorem leb_big : ∀ (k u : Nat), 128 ≤ u → leb (k + 1) u = UInt8.ofNat (u % 128 + 128) :: leb k (u / 128) := by
  intro k u h; rw [leb, if_neg (by omega)]
theorem u8_eq {x : UInt8} {n : Nat} (h : x.toNat = n) : x = UInt8.ofNat n := by subst h; simp
theorem Qt2 (n : Nat) : ∀ (k : Nat) (r : List UInt8) (u : Nat) (r' : List UInt8), k ≤ 10 → 0 < k → rdU n k r = .ok (u, r') → r = leb k u ++ r' ∧ u < 2 ^ (7 * (k - 1) + 1) ∧ (k ≠ 10 → 0 < u)
  | 0, r, u, r', _, hk, h => by omega
  | k + 1, [], u, r', _, _, h => by simp [rdU] at h
  | k + 1, x :: r, u, r', h10, _, h => by
    have hx := x.toNat_lt
    rw [rdU] at h
    split at h
    · cases h
    · rename_i hc
      split at h
      · rename_i hlt
        simp only [Except.ok.injEq, Prod.mk.injEq] at h
        obtain ⟨rfl, rfl⟩ := h
        refine ⟨?_, ?_, fun h => by omega⟩
        · rw [leb, if_pos hlt, ← u8_eq rfl]; rfl
        · cases k with
          | zero => simp; omega
          | succ k => exact Nat.lt_of_lt_of_le hlt (Nat.pow_le_pow_right (by omega) (by omega) : 2 ^ 7 ≤ _)
      · rename_i hge
        obtain ⟨v, s, h1, h2⟩ := Q7H h
        simp only [Except.ok.injEq, Prod.mk.injEq] at h2
        obtain ⟨rfl, rfl⟩ := h2
        cases k with
        | zero => omega
        | succ k =>
          obtain ⟨e, hl, hp⟩ := Qt2 n (k + 1) r v s (by omega) (by omega) h1
          have hv := hp (by omega)
          subst e
          refine ⟨?_, ?_, fun _ => by omega⟩
          · have hx128 : 128 ≤ x.toNat := by omega
            clear hl hp h1
            rw [leb_big (k + 1) (x.toNat - 128 + 128 * v) (by omega)]
            rw [show (x.toNat - 128 + 128 * v) / 128 = v by omega, show (x.toNat - 128 + 128 * v) % 128 + 128 = x.toNat by omega, ← u8_eq rfl]
            rfl
          · rw [show 7 * (k + 1 + 1 - 1) + 1 = 7 * (k + 1 - 1) + 1 + 7 by omega, Nat.pow_add]
            omega
theorem Qud {n : Int} (h : -9223372036854775808 ≤ n ∧ n ≤ 9223372036854775807) : zig n = if 0 ≤ n then (2 * n).toNat else (-2 * n - 1).toNat := by
  have e64 : ∀ a : Int, IntKind.u64.wrap a = a % 18446744073709551616 := by
    intro a; unfold IntKind.wrap; simp [IntKind.bits, IntKind.signed]
  have e1 : IntKind.u64.wrap (IntKind.u64.wrap n * 2 ^ (min (1 : Int).toNat IntKind.u64.bits)) = (2 * n) % 18446744073709551616 := by
    rw [show (2 : Int) ^ (min (1 : Int).toNat IntKind.u64.bits) = 2 from by decide, e64, e64]; omega
  have e2 : IntKind.u64.wrap (n.fdiv (2 ^ (min (63 : Int).toNat IntKind.i64.bits))) = if 0 ≤ n then 0 else 18446744073709551615 := by
    rw [show (2 : Int) ^ (min (63 : Int).toNat IntKind.i64.bits) = 9223372036854775808 from by decide, e64, Int.fdiv_eq_ediv_of_nonneg _ (by omega)]
    split <;> omega
  unfold zig zigI
  rw [e1, e2]
  unfold bitI
  show (IntKind.u64.wrap ((BitVec.ofInt 64 _ ^^^ BitVec.ofInt 64 _).toNat : Int)).toNat = _
  rw [e64]
  split
  · rw [show BitVec.ofInt 64 0 = 0#64 from rfl, BitVec.xor_zero, BitVec.toNat_ofInt]
    omega
  · rw [show BitVec.ofInt 64 18446744073709551615 = BitVec.allOnes 64 from by decide, BitVec.xor_allOnes, BitVec.toNat_not, BitVec.toNat_ofInt]
    omega
theorem Qpx {u : Nat} (h : u < 18446744073709551616) : -9223372036854775808 ≤ Q3n u ∧ Q3n u ≤ 9223372036854775807 := by
  unfold Q3n; split <;> omega
theorem Quc {u : Nat} (h : u < 18446744073709551616) : zig (Q3n u) = u := by
  rw [Qud (Qpx h)]
  unfold Q3n
  split <;> split <;> omega
theorem QpM {n : Nat} {r : List UInt8} {x : Int} {r' : List UInt8} (h : rdLong n r = .ok (x, r')) : r = Qc x ++ r' ∧ -9223372036854775808 ≤ x ∧ x ≤ 9223372036854775807 := by
  obtain ⟨u, s, h1, h2⟩ := Q7H h
  simp only [Except.ok.injEq, Prod.mk.injEq] at h2
  obtain ⟨rfl, rfl⟩ := h2
  obtain ⟨e, hl, _⟩ := Qt2 n 10 r u s (by omega) (by omega) h1
  have hl : u < 18446744073709551616 := hl
  refine ⟨?_, Qpx hl⟩
  unfold Qc; rw [Quc hl]; exact e
end Go.Lir
namespace Go.Lir
section
variable {P : Program} {l : List GO} {Q : QT} {ρ : Env} {w : World}
theorem s_sneql {d T : Nat} {x y : Operand} {a b : List UInt8} (hx : ρ.ev x = .string ⟨a.toArray⟩) (hy : ρ.ev y = .string ⟨b.toArray⟩)
    (h : Q5 P l Q (upd ρ d (.bool (decide (a ≠ b)))) w) : Q5 P (⟨none, .bin d .neq T x y⟩ :: l) Q ρ w :=
  ⟨_, fun w0 => by
    rw [hx, hy]
    have e : ∀ c : List UInt8, (⟨c.toArray⟩ : ByteArray).toList = c := fun c => Lib.toList_data _
    have e2 : (a != b) = decide (a ≠ b) := by by_cases h : a = b <;> simp [h]
    have e3 : (a == b) = decide (a = b) := by by_cases h : a = b <;> simp [h]
    simp [eqGuard, binOp, Op.stringOp, e, e2, e3], h⟩
theorem Q2L {a b T T' : Nat} {R : Ending → World → Prop} {p o p' o' : Nat} {v v' : Value} (ha : ρ a = .pointer (some ⟨p, o, none⟩)) (hv : QrF P w ⟨p, o, none⟩ T v) (ha' : ρ b = .pointer (some ⟨p', o', none⟩)) (hv' : QrF P w ⟨p', o', none⟩ T' v') (h : R (.returned (.tuple #[v, v'])) w) : retQ P [.cell a T, .cell b T'] R .ret ρ w :=
  ⟨_, v, ha, hv, _, v', ha', hv', h⟩
end
theorem QrI {n : Nat} (h : n < 4294967296) : IntKind.u32.wrap (n : Int) = (n : Int) := by
  unfold IntKind.wrap; simp [IntKind.bits, IntKind.signed]; omega
theorem QsT (x : UInt8) : IntKind.u32.wrap (x.toNat : Int) = (x.toNat : Int) := QrI (Nat.lt_trans x.toNat_lt (by decide))
theorem QmB {u y k : Nat} {z : Int} (hz : z = (k : Int)) (hk : k ≤ 24) (hu : u < 2 ^ k) (hy : y < 256) : bitI .or .u32 (u : Int) (IntKind.u32.wrap ((y : Int) * 2 ^ (min z.toNat IntKind.u32.bits))) = ((u + y * 2 ^ k : Nat) : Int) := by
  subst hz
  have e1 : min ((k : Nat) : Int).toNat IntKind.u32.bits = k := by simp [IntKind.bits]; omega
  have hp : 2 ^ k ≤ 2 ^ 24 := Nat.pow_le_pow_right (by decide) hk
  have hlt : y * 2 ^ k < 4294967296 := by
    calc y * 2 ^ k ≤ 255 * 2 ^ 24 := Nat.mul_le_mul (by omega) hp
      _ < _ := by decide
  rw [e1, show ((y : Int) * 2 ^ k) = ((y * 2 ^ k : Nat) : Int) by push_cast; rfl, QrI hlt]
  have e3 : u ||| y * 2 ^ k = u + y * 2 ^ k := by
    rw [Nat.or_comm, Nat.mul_comm y, Nat.add_comm]
    exact (Nat.two_pow_add_eq_or_of_lt hu y).symm
  have hsum : u + y * 2 ^ k < 4294967296 := by
    rw [← e3]; exact Nat.or_lt_two_pow (n := 32) (by omega) hlt
  have e4 : (BitVec.ofNat 32 u ||| BitVec.ofNat 32 (y * 2 ^ k)).toNat = u + y * 2 ^ k := by
    rw [BitVec.toNat_or, BitVec.toNat_ofNat, BitVec.toNat_ofNat, Nat.mod_eq_of_lt (by omega), Nat.mod_eq_of_lt (by omega), e3]
  show IntKind.u32.wrap (((BitVec.ofInt 32 (u : Int) ||| BitVec.ofInt 32 ((y * 2 ^ k : Nat) : Int)).toNat : Nat) : Int) = _
  rw [BitVec.ofInt_natCast, BitVec.ofInt_natCast, e4]
  exact QrI hsum
theorem sumB_eq {c : BitVec 32} {a b d e : UInt8} : sumB c = [a, b, d, e] ↔ c.toNat = a.toNat + b.toNat * 256 + d.toNat * 65536 + e.toNat * 16777216 := by
  have hc := c.isLt
  have ha := a.toNat_lt; have hb := b.toNat_lt; have hd := d.toNat_lt; have he := e.toNat_lt
  unfold sumB
  constructor
  · intro h
    simp only [List.cons.injEq, and_true] at h
    obtain ⟨h1, h2, h3, h4⟩ := h
    have h1 := congrArg UInt8.toNat h1; have h2 := congrArg UInt8.toNat h2; have h3 := congrArg UInt8.toNat h3; have h4 := congrArg UInt8.toNat h4
    simp only [UInt8.toNat_ofNat'] at h1 h2 h3 h4
    omega
  · intro h
    simp only [List.cons.injEq, and_true]
    refine ⟨?_, ?_, ?_, ?_⟩ <;> (apply UInt8.toNat_inj.1; simp only [UInt8.toNat_ofNat']; omega)
end Go.Lir
namespace Go.Lir
theorem Q3V (u : Nat) : IntKind.u8.wrap (u : Int) = ((UInt8.ofNat u).toNat : Int) := by rw [QsS]; simp
def crc4 (c : BitVec 32) : List UInt8 := [UInt8.ofNat c.toNat, UInt8.ofNat (c >>> 8).toNat, UInt8.ofNat (c >>> 16).toNat, UInt8.ofNat (c >>> 24).toNat]
def Module.enc (m : Module) : List UInt8 := m.body ++ crc4 (Q3B m.body)
theorem Q7s (a : BitVec 32) (n : Nat) (hn : n ≤ 32) : (a.toNat : Int).fdiv (2 ^ (min ((n : Nat) : Int).toNat IntKind.u32.bits)) = ((a >>> n).toNat : Int) := by
  rw [show min ((n : Nat) : Int).toNat IntKind.u32.bits = n from by simp [IntKind.bits]; omega, Int.fdiv_eq_ediv_of_nonneg _ (Int.le_of_lt (Int.pow_pos (by decide))), BitVec.toNat_ushiftRight, Nat.shiftRight_eq_div_pow]
  simp
theorem Qvl (m : Module) : m.enc.length = m.body.length + 4 := by unfold Module.enc crc4; simp
end Go.Lir
namespace Go.Lir
def rmap (u c : Nat) (x : Got Nat) : Got Nat := match x with
  | .ok (v, r) => .ok (u + c * v, r)
  | .error e => .error e
theorem rmap_0 (x : Got Nat) : rmap 0 1 x = x := by
  unfold rmap
  split
  · rename_i v r; simp
  · rfl
theorem Qaw {α : Type} {l : List α} {k : Nat} (h : k ≤ l.length) : ((l.length : Int) - (l.drop k).length) = k := by rw [List.length_drop]; omega
section
variable {bs : List UInt8} {at0 i u : Nat} {x : UInt8} {X : Got Nat}
theorem Qmy (hd : X = rmap u (128 ^ i) (rdU bs.length (10 - i) (bs.drop (at0 + i)))) (hi : i ≤ 9) (h : bs.length ≤ at0 + i) : X = .error (5, bs.length) := by
  rw [hd, List.drop_of_length_le h, show 10 - i = (9 - i) + 1 by omega, rdU]; rfl
theorem QuT (hd : X = rmap u (128 ^ i) (rdU bs.length (10 - i) (bs.drop (at0 + i)))) (hi : i ≤ 9) (hx : bs[at0 + i]? = some x) (h : (i = 9 ∧ 1 < x.toNat) ∨ (0 < i ∧ x.toNat = 0)) : X = .error (1, (at0 + i : Nat)) := by
  have hl := (List.getElem?_eq_some_iff.1 hx).1
  have e := Qaw (l := bs) (k := at0 + i) (by omega)
  rw [hd, show 10 - i = (9 - i) + 1 by omega, Q7 hx, rdU, if_pos (by omega)]
  rw [Q7 hx, List.length_cons] at e
  unfold rmap
  simp only
  rw [e]
theorem Qt1 (hd : X = rmap u (128 ^ i) (rdU bs.length (10 - i) (bs.drop (at0 + i)))) (hi : i ≤ 9) (hx : bs[at0 + i]? = some x) (h : ¬ ((i = 9 ∧ 1 < x.toNat) ∨ (0 < i ∧ x.toNat = 0))) (hl : x.toNat < 128) : X = .ok (u + x.toNat % 128 * 128 ^ i, bs.drop (at0 + i + 1)) := by
  rw [hd, show 10 - i = (9 - i) + 1 by omega, Q7 hx, rdU, if_neg (by omega), if_pos hl, Nat.mod_eq_of_lt hl, Nat.mul_comm x.toNat]; rfl
theorem Qt0 (hd : X = rmap u (128 ^ i) (rdU bs.length (10 - i) (bs.drop (at0 + i)))) (hi : i ≤ 9) (hx : bs[at0 + i]? = some x) (h : ¬ ((i = 9 ∧ 1 < x.toNat) ∨ (0 < i ∧ x.toNat = 0))) (hl : ¬ x.toNat < 128) : X = rmap (u + x.toNat % 128 * 128 ^ i) (128 ^ (i + 1)) (rdU bs.length (10 - (i + 1)) (bs.drop (at0 + (i + 1)))) := by
  have hx9 := x.toNat_lt
  rw [hd, show 10 - i = (9 - i) + 1 by omega, Q7 hx, rdU, if_neg (by omega), if_neg hl, show 10 - (i + 1) = 9 - i by omega, show at0 + (i + 1) = at0 + i + 1 by omega]
  unfold rmap Qz
  cases rdU bs.length (9 - i) (bs.drop (at0 + i + 1)) with
  | error e => rfl
  | ok p =>
    obtain ⟨v, r⟩ := p
    simp only
    rw [show x.toNat % 128 = x.toNat - 128 by omega, Nat.pow_succ, Nat.mul_add, ← Nat.mul_assoc, Nat.mul_comm (128 ^ i) (x.toNat - 128), Nat.add_assoc]
theorem pow7 (i : Nat) : 2 ^ (7 * i) = 128 ^ i := by rw [Nat.pow_mul]
theorem Qgt (hi : i ≤ 9) : 128 ^ i ≤ 9223372036854775808 := Nat.le_trans (Nat.pow_le_pow_right (by decide) hi) (by decide)
theorem Q1X {n : Nat} (h : n < 18446744073709551616) : IntKind.u64.wrap (n : Int) = (n : Int) := by
  unfold IntKind.wrap
  simp [IntKind.bits, IntKind.signed]; omega
theorem acc_lt (hi : i ≤ 9) {y : Nat} (hy : y < 128) (h9 : i = 9 → y ≤ 1) : y * 128 ^ i < 18446744073709551616 := by
  have hp := Qgt hi
  rcases Nat.lt_or_ge i 9 with h | h
  · have h8 : 128 ^ i ≤ 72057594037927936 := Nat.le_trans (Nat.pow_le_pow_right (by decide) (by omega : i ≤ 8)) (by decide)
    calc y * 128 ^ i ≤ 127 * 72057594037927936 := Nat.mul_le_mul (by omega) h8
      _ < _ := by decide
  · have := h9 (by omega)
    calc y * 128 ^ i ≤ 1 * 9223372036854775808 := Nat.mul_le_mul this hp
      _ < _ := by decide
theorem or_shl (hu : u < 128 ^ i) (hi : i ≤ 9) {y : Nat} (hy : y < 128) (h9 : i = 9 → y ≤ 1) : bitI .or .u64 (u : Int) (IntKind.u64.wrap ((y : Int) * 2 ^ (min ((7 * i : Nat) : Int).toNat IntKind.u64.bits))) = ((u + y * 128 ^ i : Nat) : Int) := by
  have hp := Qgt hi
  have hlt := acc_lt hi hy h9
  have e1 : min ((7 * i : Nat) : Int).toNat IntKind.u64.bits = 7 * i := by simp [IntKind.bits]; omega
  rw [e1]
  have e2 : ((y : Int) * 2 ^ (7 * i)) = ((y * 128 ^ i : Nat) : Int) := by rw [← pow7]; push_cast; rfl
  rw [e2, Q1X hlt]
  have hu2 : u < 2 ^ (7 * i) := by rw [pow7]; exact hu
  have e3 : u ||| y * 128 ^ i = u + y * 128 ^ i := by
    rw [← pow7, Nat.or_comm, Nat.mul_comm y, Nat.add_comm]
    exact (Nat.two_pow_add_eq_or_of_lt hu2 y).symm
  have hsum : u + y * 128 ^ i < 18446744073709551616 := by
    rw [← e3]; exact Nat.or_lt_two_pow (n := 64) (by omega) hlt
  have e4 : (BitVec.ofNat 64 u ||| BitVec.ofNat 64 (y * 128 ^ i)).toNat = u + y * 128 ^ i := by
    rw [BitVec.toNat_or, BitVec.toNat_ofNat, BitVec.toNat_ofNat, Nat.mod_eq_of_lt (by omega), Nat.mod_eq_of_lt (by omega), e3]
  show IntKind.u64.wrap (((BitVec.ofInt 64 (u : Int) ||| BitVec.ofInt 64 ((y * 128 ^ i : Nat) : Int)).toNat : Nat) : Int) = _
  rw [BitVec.ofInt_natCast, BitVec.ofInt_natCast, e4]
  exact Q1X hsum
theorem QvF (hu : u < 128 ^ i) (hi : i ≤ 9) {y : Nat} (hy : y < 128) (h9 : i = 9 → y ≤ 1) : u + y * 128 ^ i < 18446744073709551616 ∧ u + y * 128 ^ i < 128 ^ (i + 1) := by
  have hp := Qgt hi
  have h1 : u + y * 128 ^ i < 128 ^ (i + 1) := by
    have : y * 128 ^ i ≤ 127 * 128 ^ i := Nat.mul_le_mul_right _ (by omega)
    rw [Nat.pow_succ]; omega
  refine ⟨?_, h1⟩
  rcases Nat.lt_or_ge i 9 with h | h
  · have := Qgt (i := i + 1) (by omega); omega
  · have h2 := h9 (by omega)
    have : y * 128 ^ i ≤ 1 * 128 ^ i := Nat.mul_le_mul_right _ h2
    omega
theorem Q7G {n : Nat} {r : List UInt8} {e : Flt} (h : rdU n 10 r = .error e) : rdLong n r = .error e := by unfold rdLong; rw [h]; rfl
theorem Q3T {n U : Nat} {r r' : List UInt8} (h : rdU n 10 r = .ok (U, r')) : rdLong n r = .ok (Q3n U, r') := by unfold rdLong; rw [h]; rfl
theorem and127 (x : UInt8) : bitI .and .u8 (x.toNat : Int) 127 = ((x.toNat % 128 : Nat) : Int) := by
  have : ∀ p : Fin 256, bitI .and .u8 (p.val : Int) 127 = ((p.val % 128 : Nat) : Int) := by decide +kernel
  exact this ⟨x.toNat, x.toNat_lt⟩
theorem shr_1 (U : Nat) : (U : Int).fdiv (2 ^ (min (1 : Int).toNat IntKind.u64.bits)) = ((U / 2 : Nat) : Int) := by
  rw [show (2 : Int) ^ (min (1 : Int).toNat IntKind.u64.bits) = ((2 : Nat) : Int) from by decide, Int.fdiv_eq_ediv_of_nonneg _ (by omega)]; omega
theorem and_1 {U : Nat} (h : U < 18446744073709551616) : bitI .and .u64 (U : Int) 1 = ((U % 2 : Nat) : Int) := by
  show IntKind.u64.wrap (((BitVec.ofInt 64 (U : Int) &&& BitVec.ofInt 64 ((1 : Nat) : Int)).toNat : Nat) : Int) = _
  rw [BitVec.ofInt_natCast, BitVec.ofInt_natCast, BitVec.toNat_and, BitVec.toNat_ofNat, BitVec.toNat_ofNat, Nat.mod_eq_of_lt (by omega), Nat.mod_eq_of_lt (by omega), Nat.and_one_is_mod]
  exact Q1X (by omega)
theorem Qvc {n : Nat} (h : n < 9223372036854775808) : IntKind.i64.wrap (n : Int) = (n : Int) := Q4h (by omega) (by omega)
theorem Qpt {U : Nat} (h : U < 18446744073709551616) : bitI .xor .i64 ((U / 2 : Nat) : Int) (IntKind.i64.wrap (0 - ((U % 2 : Nat) : Int))) = Q3n U := by
  unfold Q3n
  rcases Nat.mod_two_eq_zero_or_one U with e | e
  · rw [e, if_pos rfl, show (0 - ((0 : Nat) : Int)) = ((0 : Nat) : Int) by omega, Qvc (by omega)]
    show IntKind.i64.wrap (((BitVec.ofInt 64 ((U / 2 : Nat) : Int) ^^^ BitVec.ofInt 64 ((0 : Nat) : Int)).toNat : Nat) : Int) = _
    rw [BitVec.ofInt_natCast, BitVec.ofInt_natCast, BitVec.toNat_xor, BitVec.toNat_ofNat, BitVec.toNat_ofNat, Nat.mod_eq_of_lt (by omega), Nat.zero_mod, Nat.xor_zero]
    exact Qvc (by omega)
  · rw [e, if_neg (by decide), show (0 - ((1 : Nat) : Int)) = -1 by omega, Q4h (by omega) (by omega)]
    have e5 : (BitVec.ofNat 64 (U / 2) ^^^ BitVec.ofInt 64 (-1)).toNat = 18446744073709551615 - U / 2 := by
      rw [show BitVec.ofInt 64 (-1) = BitVec.allOnes 64 from by decide, BitVec.xor_allOnes, BitVec.toNat_not, BitVec.toNat_ofNat, Nat.mod_eq_of_lt (by omega)]
    show IntKind.i64.wrap (((BitVec.ofInt 64 ((U / 2 : Nat) : Int) ^^^ BitVec.ofInt 64 (-1)).toNat : Nat) : Int) = _
    rw [BitVec.ofInt_natCast, e5]
    unfold IntKind.wrap
    simp only [IntKind.bits, IntKind.signed]
    have e6 : ((18446744073709551615 - U / 2 : Nat) : Int) % 2 ^ 64 = 18446744073709551615 - (U / 2 : Nat) := by omega
    simp [e6]
    omega
end
end Go.Lir
namespace Go.Lir
section
variable {α : Type}
def mmap (xs : List α) (X : Got (List α)) : Got (List α) := match X with
  | .ok (l, r) => .ok (xs ++ l, r)
  | .error e => .error e
theorem QpS (X : Got (List α)) : mmap [] X = X := by
  unfold mmap
  split <;> simp
variable {f : List UInt8 → Got α} {N k n0 : Nat} {n : Int} {xs : List α} {r r1 r2 r3 : List UInt8} {a : α} {e : Flt} {X : Got (List α)}
theorem Qal (hd : X = mmap xs (rdMany f (N - k) r2)) (hk : k < N) (h : f r2 = .error e) : X = .error e := by
  rw [hd, show N - k = (N - k - 1) + 1 by omega, rdMany, h]; rfl
theorem Qak (hd : X = mmap xs (rdMany f (N - k) r2)) (hk : k < N) (h : f r2 = .ok (a, r3)) : X = mmap (xs ++ [a]) (rdMany f (N - (k + 1)) r3) := by
  rw [hd, show N - k = (N - (k + 1)) + 1 by omega, rdMany, h]
  show mmap xs (Qz (rdMany f (N - (k + 1)) r3) fun l r => .ok (a :: l, r)) = _
  cases rdMany f (N - (k + 1)) r3 with
  | error e => rfl
  | ok p => obtain ⟨l, r⟩ := p; simp [mmap, Qz]
theorem Qaj (hd : X = mmap xs (rdMany f (N - k) r2)) (hk : N ≤ k) : X = .ok (xs, r2) := by
  rw [hd, show N - k = 0 by omega, rdMany]; simp [mmap]
theorem Qam (h : rdLong n0 r = .error e) : Q14 n0 f r = .error e := by unfold Q14; rw [h]; rfl
theorem rdList_m (h : rdLong n0 r = .ok (n, r1)) (hn : n < 0 ∨ (r1.length : Int) < n) : Q14 n0 f r = .error (2, (n0 : Int) - r.length) := by
  unfold Q14; rw [h]; show (if _ then _ else _) = _; rw [if_pos hn]
theorem rdList_g (h : rdLong n0 r = .ok (n, r1)) (hn : ¬ (n < 0 ∨ (r1.length : Int) < n)) : Q14 n0 f r = rdMany f n.toNat r1 := by
  unfold Q14; rw [h]; show (if _ then _ else _) = _; rw [if_neg hn]
theorem Q6s {bs : List UInt8} {at0 at1 : Nat} (ha : at0 ≤ bs.length) (hb : at1 ≤ bs.length) (h : rdLong bs.length (bs.drop at0) = .ok (n, bs.drop at1)) (hn : n < 0 ∨ (bs.length : Int) - at1 < n) : Q14 bs.length f (bs.drop at0) = .error (2, (at0 : Int)) := by
  rw [rdList_m h (by rw [List.length_drop]; omega), Qaw ha]
theorem Q6t {bs : List UInt8} {at0 at1 : Nat} (hb : at1 ≤ bs.length) (h : rdLong bs.length (bs.drop at0) = .ok (n, bs.drop at1)) (hn : 0 ≤ n ∧ n ≤ (bs.length : Int) - at1) : Q14 bs.length f (bs.drop at0) = rdMany f n.toNat (bs.drop at1) :=
  rdList_g h (by rw [List.length_drop]; omega)
end
end Go.Lir
namespace Go.Lir
section
variable {bs r : List UInt8} {N : Nat} {e : Flt} {l : List Fun}
theorem Q1N (h7 : bs.length < 7) : decode bs = .error (5, (bs.length : Int)) := by unfold decode; rw [if_pos h7]
theorem Q2y (h7 : ¬ bs.length < 7) (h : 20000 < bs.length) : decode bs = .error (2, 20000) := by unfold decode; rw [if_neg h7, if_pos h]
theorem Q3c (h7 : ¬ bs.length < 7) (h : ¬ 20000 < bs.length) (hh : bs.take 3 ≠ [67, 72, 1]) : decode bs = .error (4, 0) := by unfold decode; rw [if_neg h7, if_neg h, if_pos hh]
theorem Q5d (hN : bs.length = N + 4) (h7 : ¬ bs.length < 7) (h : ¬ 20000 < bs.length) (hh : ¬ bs.take 3 ≠ [67, 72, 1]) (hs : sumB (Q3B (bs.take N)) ≠ bs.drop N) : decode bs = .error (16, (N : Int)) := by
  unfold decode; rw [if_neg h7, if_neg h, if_neg hh, show bs.length - 4 = N by omega, if_pos hs]
theorem Qvu (hN : bs.length = N + 4) (h7 : ¬ bs.length < 7) (h : ¬ 20000 < bs.length) (hh : ¬ bs.take 3 ≠ [67, 72, 1]) (hs : ¬ sumB (Q3B (bs.take N)) ≠ bs.drop N) (hr : QpL N ((bs.take N).drop 3) = .error e) : decode bs = .error e := by
  unfold decode; rw [if_neg h7, if_neg h, if_neg hh, show bs.length - 4 = N by omega, if_neg hs, hr]
theorem dec_left (hN : bs.length = N + 4) (h7 : ¬ bs.length < 7) (h : ¬ 20000 < bs.length) (hh : ¬ bs.take 3 ≠ [67, 72, 1]) (hs : ¬ sumB (Q3B (bs.take N)) ≠ bs.drop N) (hr : QpL N ((bs.take N).drop 3) = .ok (l, r)) (hl : r ≠ []) : decode bs = .error (4, (N : Int) - r.length) := by
  unfold decode; rw [if_neg h7, if_neg h, if_neg hh, show bs.length - 4 = N by omega, if_neg hs, hr]; show (if _ then _ else _) = _; rw [if_pos hl]
theorem Qax (hN : bs.length = N + 4) (h7 : ¬ bs.length < 7) (h : ¬ 20000 < bs.length) (hh : ¬ bs.take 3 ≠ [67, 72, 1]) (hs : ¬ sumB (Q3B (bs.take N)) ≠ bs.drop N) (hr : QpL N ((bs.take N).drop 3) = .ok (l, r)) (hl : ¬ r ≠ []) (hf : (Module.fault ⟨l⟩).1 ≠ 0) : decode bs = .error (3, (N : Int)) := by
  unfold decode; rw [if_neg h7, if_neg h, if_neg hh, show bs.length - 4 = N by omega, if_neg hs, hr]; show (if _ then _ else _) = _; rw [if_neg hl, if_pos hf]
theorem dec_ok (hN : bs.length = N + 4) (h7 : ¬ bs.length < 7) (h : ¬ 20000 < bs.length) (hh : ¬ bs.take 3 ≠ [67, 72, 1]) (hs : ¬ sumB (Q3B (bs.take N)) ≠ bs.drop N) (hr : QpL N ((bs.take N).drop 3) = .ok (l, r)) (hl : ¬ r ≠ []) (hf : ¬ (Module.fault ⟨l⟩).1 ≠ 0) : decode bs = .ok ⟨l⟩ := by
  unfold decode; rw [if_neg h7, if_neg h, if_neg hh, show bs.length - 4 = N by omega, if_neg hs, hr]; show (if _ then _ else _) = _; rw [if_neg hl, if_neg hf]
theorem Q4P {at1 : Nat} (hN : bs.length = N + 4) (h7 : ¬ bs.length < 7) (h : ¬ 20000 < bs.length) (hh : ¬ bs.take 3 ≠ [67, 72, 1]) (hs : ¬ sumB (Q3B (bs.take N)) ≠ bs.drop N) (hr : QpL N ((bs.take N).drop 3) = .ok (l, (bs.take N).drop at1)) (ha : at1 < N) : decode bs = .error (4, (at1 : Int)) := by
  have e : ((bs.take N).drop at1).length = N - at1 := by simp [hN]
  rw [dec_left hN h7 h hh hs hr (by intro h0; rw [h0] at e; simp at e; omega), e, show ((N : Int) - ((N - at1 : Nat) : Int)) = (at1 : Int) by omega]
theorem Q7O {at1 : Nat} (hN : bs.length = N + 4) (ha : ¬ at1 < N) : ¬ (bs.take N).drop at1 ≠ [] := by
  simp [hN]; omega
/-- The last four bytes. -/
theorem drop4 {a b c d : UInt8} (hN : bs.length = N + 4) (h0 : bs[N]? = some a) (h1 : bs[N + 1]? = some b) (h2 : bs[N + 2]? = some c) (h3 : bs[N + 3]? = some d) : bs.drop N = [a, b, c, d] := by
  apply List.ext_getElem?
  intro i
  rw [List.getElem?_drop]
  match i with
  | 0 => simpa using h0
  | 1 => simpa using h1
  | 2 => simpa using h2
  | 3 => simpa using h3
  | i + 4 => rw [List.getElem?_eq_none (by omega)]; simp
end
end Go.Lir
namespace Go.Lir
set_option linter.unusedVariables false
section
variable {α β : Type} {M n : Nat}
def Goodp (M : Nat) (f : List UInt8 → Got α) (p : α → Prop) : Prop := ∀ r x r', r.length ≤ M → f r = .ok (x, r') → p x ∧ r'.length ≤ r.length
theorem Goodp.weak {f : List UInt8 → Got α} {p q : α → Prop} (h : Goodp M f p) (hq : ∀ x, p x → q x) : Goodp M f q := fun r x r' h1 h2 => ⟨hq x (h r x r' h1 h2).1, (h r x r' h1 h2).2⟩
theorem Q1V : Goodp M (rdLong n) (fun _ => True) := fun r x r' h1 h2 => by
  refine ⟨trivial, ?_⟩
  rw [(QpM h2).1, List.length_append]; omega
theorem Q3z {x : α} {p : α → Prop} (hp : p x) : Goodp M (fun r => .ok (x, r)) p := fun r y r' h1 h2 => by
  simp only [Except.ok.injEq, Prod.mk.injEq] at h2
  obtain ⟨rfl, rfl⟩ := h2
  exact ⟨hp, Nat.le_refl _⟩
theorem QJ {f : List UInt8 → Got α} {g : α → List UInt8 → Got β} {p : α → Prop} {q : β → Prop} (hf : Goodp M f p) (hg : ∀ x, p x → Goodp M (g x) q) : Goodp M (fun r => Qz (f r) g) q := fun r y r' h1 h2 => by
  obtain ⟨x, s, h3, h4⟩ := Q7H h2
  obtain ⟨h5, h6⟩ := hf r x s h1 h3
  obtain ⟨h7, h8⟩ := hg x h5 s y r' (by omega) h4
  exact ⟨h7, by omega⟩
theorem Q3r {f : List UInt8 → Got α} {p : α → Prop} {c : Prop} [Decidable c] {z : α} (hf : Goodp M f p) (hz : p z) : Goodp M (rdIf c z f) p := by
  intro r x r' h1 h2
  unfold rdIf at h2
  split at h2
  · exact hf r x r' h1 h2
  · exact Q3z hz r x r' h1 h2
theorem Qq3 {f : List UInt8 → Got α} {p : α → Prop} (hf : Goodp M f p) : ∀ k, Goodp M (rdMany f k) (fun l => l.length = k ∧ ∀ x ∈ l, p x)
  | 0 => fun r x r' h1 h2 => by
    rw [rdMany] at h2
    exact Q3z (p := fun l : List α => l.length = 0 ∧ ∀ x ∈ l, p x) (by simp) r x r' h1 h2
  | k + 1 => fun r x r' h1 h2 => by
    rw [rdMany] at h2
    obtain ⟨a, s, h3, h4⟩ := Q7H h2
    obtain ⟨l, s2, h5, h6⟩ := Q7H h4
    obtain ⟨h7, h8⟩ := hf r a s h1 h3
    obtain ⟨⟨h9, h10⟩, h11⟩ := Qq3 hf k s l s2 (by omega) h5
    simp only [Except.ok.injEq, Prod.mk.injEq] at h6
    obtain ⟨rfl, rfl⟩ := h6
    refine ⟨⟨by simp [h9], ?_⟩, by omega⟩
    intro y hy
    rcases List.mem_cons.1 hy with rfl | hy
    · exact h7
    · exact h10 y hy
theorem Q6D {f : List UInt8 → Got α} {p : α → Prop} (hf : Goodp M f p) : Goodp M (Q14 n f) (fun l => l.length ≤ M ∧ ∀ x ∈ l, p x) := by
  intro r x r' h1 h2
  unfold Q14 at h2
  obtain ⟨c, s, h3, h4⟩ := Q7H h2
  obtain ⟨_, h5⟩ := Q1V r c s h1 h3
  split at h4
  · cases h4
  · obtain ⟨⟨h6, h7⟩, h8⟩ := Qq3 hf _ s x r' (by omega) h4
    exact ⟨⟨by omega, h7⟩, by omega⟩
theorem Q7L (hM : M ≤ 100000) : ∀ k, Goodp M (QO n k) Tys.Short
  | 0 => fun r x r' h1 h2 => by rw [QO] at h2; cases h2
  | k + 1 => fun r x r' h1 h2 => by
    rw [Q6r] at h2
    have ht : Goodp M (rdTy n k) Ty.Short := by
      unfold rdTy
      refine QJ Q1V fun kd _ => QJ (Q3r Q1V trivial) fun g _ => QJ (Q3r (Q7L hM k) ⟨by simp, by simp⟩) fun l hl => Q3z ?_
      exact .mk hl.1 hl.2
    obtain ⟨h3, h4⟩ := Q6D ht r x r' h1 h2
    exact ⟨⟨by omega, h3.2⟩, h4⟩
theorem Q6E (hM : M ≤ 100000) : Goodp M (Q1Z n) (fun l => l.length ≤ 100000) := (Q6D Q1V).weak fun l h => by omega
theorem good_ins (hM : M ≤ 100000) : Goodp M (Q4g n) Ins.Short := by
  unfold Q4g
  refine QJ Q1V fun op _ => QJ (Q3r Q1V trivial) fun a _ => QJ (Q3r Q1V trivial) fun b _ => QJ (Q3r Q1V trivial) fun c _ => QJ (Q3r Q1V trivial) fun k _ => QJ (Q3r Q1V trivial) fun m _ => ?_
  exact QJ (Q3r (Q6E hM) (by simp)) fun l1 h1 => QJ (Q3r (Q6E hM) (by simp)) fun l2 h2 => Q3z ⟨h1, h2⟩
theorem Qvf (hM : M ≤ 100000) : Goodp M (rdTo n) To.Short := by
  unfold rdTo
  exact QJ Q1V fun b _ => QJ (Q6E hM) fun l1 h1 => QJ (Q6E hM) fun l2 h2 => Q3z ⟨h1, h2⟩
theorem good_end (hM : M ≤ 100000) : Goodp M (Q2q n) Tail.Short := by
  unfold Q2q
  have hz : To.Short ⟨0, [], []⟩ := ⟨by simp, by simp⟩
  exact QJ Q1V fun op _ => QJ (Q3r Q1V trivial) fun a _ => QJ (Q3r (Qvf hM) hz) fun y hy => QJ (Q3r (Qvf hM) hz) fun z hz => QJ (Q3r (Q6E hM) (by simp)) fun l hl => Q3z ⟨hy, hz, hl⟩
theorem QtI (hM : M ≤ 100000) : Goodp M (Q1I n) Block.Short := by
  unfold Q1I
  exact QJ Q1V fun g _ => QJ (Q7L hM 6) fun ps hp => QJ (Q6D (good_ins hM)) fun c hc => QJ (good_end hM) fun t ht => Q3z ⟨hp, by have := hc.1; show c.length ≤ 100000; omega, hc.2, ht⟩
theorem good_fun (hM : M ≤ 100000) : Goodp M (Q3U n) Fun.Short := by
  unfold Q3U
  exact QJ Q1V fun g _ => QJ (Q7L hM 6) fun ps hp => QJ (Q7L hM 6) fun rs hr => QJ (Q6D (QtI hM)) fun bl hb => Q3z ⟨hp, hr, by have := hb.1; show bl.length ≤ 100000; omega, hb.2⟩
theorem QrT {r r' : List UInt8} {l : List Fun} (hr : r.length ≤ 100000) (h : QpL n r = .ok (l, r')) : (Module.mk l).Short := by
  have := (Q6D (good_fun (n := n) (Nat.le_refl 100000)) r l r' hr h).1
  exact ⟨this.1, this.2⟩
theorem QdH {bs r : List UInt8} {l : List Fun} {N : Nat} (hN : N ≤ 20000) (h : QpL N ((bs.take N).drop 3) = .ok (l, r)) : (Module.mk l).Short := by
  refine QrT ?_ h
  rw [List.length_drop, List.length_take]; omega
end
end Go.Lir
namespace Go.Lir
section
variable {n : Nat} {r r1 r2 r3 r4 : List UInt8} {e : Flt} {op a : Int} {yes no : To} {l : List Int}
theorem rdEnd_e (h : rdLong n r = .error e) : Q2q n r = .error e := by simp [Q2q, Qz, h]
theorem rdEnd_0 (h : rdLong n r = .ok (op, r1)) (h1 : op ≠ 1) (h2 : op ≠ 2) (h3 : op ≠ 3) : Q2q n r = .ok (⟨op, 0, ⟨0, [], []⟩, ⟨0, [], []⟩, []⟩, r1) := by simp [Q2q, Qz, rdIf, h, h1, h2, h3]
theorem rdEnd_1e (h : rdLong n r = .ok (op, r1)) (ho : op = 1) (h2 : rdTo n r1 = .error e) : Q2q n r = .error e := by simp [Q2q, Qz, rdIf, h, ho, h2]
theorem rdEnd_1 (h : rdLong n r = .ok (op, r1)) (ho : op = 1) (h2 : rdTo n r1 = .ok (yes, r2)) : Q2q n r = .ok (⟨op, 0, yes, ⟨0, [], []⟩, []⟩, r2) := by simp [Q2q, Qz, rdIf, h, ho, h2]
theorem rdEnd_2a (h : rdLong n r = .ok (op, r1)) (ho : op = 2) (h2 : rdLong n r1 = .error e) : Q2q n r = .error e := by simp [Q2q, Qz, rdIf, h, ho, h2]
theorem rdEnd_2b (h : rdLong n r = .ok (op, r1)) (ho : op = 2) (h2 : rdLong n r1 = .ok (a, r2)) (h3 : rdTo n r2 = .error e) : Q2q n r = .error e := by simp [Q2q, Qz, rdIf, h, ho, h2, h3]
theorem rdEnd_2c (h : rdLong n r = .ok (op, r1)) (ho : op = 2) (h2 : rdLong n r1 = .ok (a, r2)) (h3 : rdTo n r2 = .ok (yes, r3)) (h4 : rdTo n r3 = .error e) : Q2q n r = .error e := by simp [Q2q, Qz, rdIf, h, ho, h2, h3, h4]
theorem rdEnd_2 (h : rdLong n r = .ok (op, r1)) (ho : op = 2) (h2 : rdLong n r1 = .ok (a, r2)) (h3 : rdTo n r2 = .ok (yes, r3)) (h4 : rdTo n r3 = .ok (no, r4)) : Q2q n r = .ok (⟨op, a, yes, no, []⟩, r4) := by simp [Q2q, Qz, rdIf, h, ho, h2, h3, h4]
theorem rdEnd_3e (h : rdLong n r = .ok (op, r1)) (ho : op = 3) (h2 : Q1Z n r1 = .error e) : Q2q n r = .error e := by simp [Q2q, Qz, rdIf, h, ho, h2]
theorem rdEnd_3 (h : rdLong n r = .ok (op, r1)) (ho : op = 3) (h2 : Q1Z n r1 = .ok (l, r2)) : Q2q n r = .ok (⟨op, 0, ⟨0, [], []⟩, ⟨0, [], []⟩, l⟩, r2) := by simp [Q2q, Qz, rdIf, h, ho, h2]
def set4 (j : Nat) (x : Int × Int × Int × Int) (y : Int) : Int × Int × Int × Int := match j with | 0 => (y, x.2.1, x.2.2.1, x.2.2.2) | 1 => (x.1, y, x.2.2.1, x.2.2.2) | 2 => (x.1, x.2.1, y, x.2.2.2) | _ => (x.1, x.2.1, x.2.2.1, y)
/-- The four numbers of an instruction that its head says. -/
def Q31 (n h : Nat) : Nat → Nat → Int × Int × Int × Int → List UInt8 → Got (Int × Int × Int × Int)
  | 0, _, x, r => .ok (x, r)
  | f + 1, j, x, r => if h / 2 ^ j % 2 = 1 then Qz (rdLong n r) fun y r => Q31 n h f (j + 1) (set4 j x y) r else Q31 n h f (j + 1) x r
def Q6C (n h : Nat) (op : Int) (x : Int × Int × Int × Int) (r : List UInt8) : Got Ins :=
  Qz (rdIf (h / 64 % 2 = 1) 0 (rdLong n) r) fun m r => Qz (rdIf (h / 16 % 2 = 1) [] (Q1Z n) r) fun regs r => Qz (rdIf (h / 32 % 2 = 1) [] (Q1Z n) r) fun args r => .ok (⟨op, x.1, x.2.1, x.2.2.1, x.2.2.2, m, regs, args⟩, r)
theorem Qmz (n : Nat) (r : List UInt8) : Q4g n r = Qz (rdLong n r) fun op r => Qz (Q31 n (Qo op) 4 0 (0, 0, 0, 0) r) fun x r => Q6C n (Qo op) op x r := by
  unfold Q4g
  cases rdLong n r with
  | error e => rfl
  | ok p =>
    obtain ⟨op, r⟩ := p
    show Qz _ _ = Qz _ _
    rcases Decidable.em (Qo op / 2 ^ 0 % 2 = 1) with h0 | h0
    all_goals rcases Decidable.em (Qo op / 2 ^ 1 % 2 = 1) with h1 | h1
    all_goals rcases Decidable.em (Qo op / 2 ^ 2 % 2 = 1) with h2 | h2
    all_goals rcases Decidable.em (Qo op / 2 ^ 3 % 2 = 1) with h3 | h3
    all_goals simp only [rdIf, Q31, h0, h1, h2, h3, if_true, if_false, Q6C, Qz, set4, Nat.zero_add, Nat.reduceAdd]
    all_goals (first | rfl | skip)
    all_goals (repeat (first | rfl | split))
variable {h j : Nat} {x : Int × Int × Int × Int} {y : Int} {X : Got (Int × Int × Int × Int)}
theorem rdRegs_e (hd : X = Q31 n h (4 - j) j x r) (hj : j < 4) (hq : h / 2 ^ j % 2 = 1) (e2 : rdLong n r = .error e) : X = .error e := by
  rw [hd, show 4 - j = (4 - (j + 1)) + 1 by omega, Q31, if_pos hq, e2]; rfl
theorem QfR (hd : X = Q31 n h (4 - j) j x r) (hj : j < 4) (hq : h / 2 ^ j % 2 = 1) (e2 : rdLong n r = .ok (y, r1)) : X = Q31 n h (4 - (j + 1)) (j + 1) (set4 j x y) r1 := by
  rw [hd, show 4 - j = (4 - (j + 1)) + 1 by omega, Q31, if_pos hq, e2]; rfl
theorem QfS (hd : X = Q31 n h (4 - j) j x r) (hj : j < 4) (hq : ¬ h / 2 ^ j % 2 = 1) : X = Q31 n h (4 - (j + 1)) (j + 1) x r := by
  rw [hd, show 4 - j = (4 - (j + 1)) + 1 by omega, Q31, if_neg hq]
theorem rdIns_e (h1 : rdLong n r = .error e) : Q4g n r = .error e := by rw [Qmz, h1]; rfl
theorem rdIns_re (h1 : rdLong n r = .ok (op, r1)) (hf : Qo op = h) (h2 : Q31 n h 4 0 (0, 0, 0, 0) r1 = .error e) : Q4g n r = .error e := by
  rw [Qmz, h1]; subst hf; show Qz (Q31 n (Qo op) 4 0 (0, 0, 0, 0) r1) _ = _; rw [h2]; rfl
theorem rdIns_t (h1 : rdLong n r = .ok (op, r1)) (hf : Qo op = h) (hd : Q31 n h 4 0 (0, 0, 0, 0) r1 = Q31 n h (4 - j) j x r2) (hj : 4 ≤ j) : Q4g n r = Q6C n h op x r2 := by
  rw [Qmz, h1]; subst hf; show Qz (Q31 n (Qo op) 4 0 (0, 0, 0, 0) r1) _ = _; rw [hd, show 4 - j = 0 by omega, Q31]; rfl
end
end Go.Lir
namespace Go.Lir
set_option linter.unusedVariables false
section
variable {α : Type} {n : Nat}
def There (enc : α → List UInt8) (f : List UInt8 → Got α) (p : α → Prop) : Prop := ∀ x r, p x → f (enc x ++ r) = .ok (x, r)
def InI (x : Int) : Prop := -9223372036854775808 ≤ x ∧ x ≤ 9223372036854775807
theorem rb {β : Type} {X : Got α} {x : α} {r : List UInt8} {f : α → List UInt8 → Got β} {y : Got β} (h : X = .ok (x, r)) (hf : f x r = y) : Qz X f = y := by rw [h]; exact hf
theorem Qvw (c : BitVec 32) : crc4 c = sumB c := by
  have e : ∀ a b : Nat, a % 256 = b % 256 → UInt8.ofNat a = UInt8.ofNat b := fun a b h => by
    apply UInt8.toNat_inj.1
    simp only [UInt8.toNat_ofNat']
    omega
  unfold crc4 sumB
  simp only [List.cons.injEq, and_true]
  refine ⟨e _ _ ?_, e _ _ ?_, e _ _ ?_, e _ _ ?_⟩ <;> (try simp only [BitVec.toNat_ushiftRight, Nat.shiftRight_eq_div_pow, Nat.reducePow]) <;> omega
end
end Go.Lir
namespace Go.Lir
set_option linter.unusedVariables false
def hasB (l : List Bool) (r : Int) : Bool := decide (0 ≤ r) && decide (r < l.length) && l.getD r.toNat false

/-! ### What both answer is the same -/

end Go.Lir
namespace Go.Lir
set_option linter.unusedVariables false
/-- Which regions are held, which values there are. -/
structure JS where
  h : List Bool
  l : List Ty
deriving instance DecidableEq for JS
def ebind {α β : Type} (x : Except Int α) (f : α → Except Int β) : Except Int β := match x with
  | .error e => .error e
  | .ok a => f a
def jput (s : JS) (t : Ty) : Except Int JS := if s.l.length = 80 then .error 2 else .ok ⟨s.h, s.l ++ [t]⟩
def number : Ty := .mk 1 0 []
/-! ### What is true of it -/
theorem jput_ok {s s' : JS} {t : Ty} (h : jput s t = .ok s') : s.l.length ≠ 80 ∧ s'.h = s.h ∧ s'.l = s.l ++ [t] := by
  unfold jput at h
  split at h
  · cases h
  · rename_i hk; cases h; exact ⟨hk, rfl, rfl⟩
/-- How an instruction that is let by changes what is known. -/
structure JStep (x : Ins) (s s' : JS) : Prop where
  len : s.l.length ≤ 80 → s'.l.length ≤ 80
  pre : ∃ more, s'.l = s.l ++ more ∧ (x.op ≠ 14 → more.length ≤ 1) ∧ (x.op = 3 → more.length = 1) ∧ (x.op = 4 → more = [])
  new : x.op = 3 → s'.h = s.h ++ [true] ∧ s.h.length ≠ 16
  free : x.op = 4 → ∃ t, 0 ≤ x.a ∧ s.l[x.a.toNat]? = some t ∧ t.kind = 2 ∧ hasB s.h t.r = true ∧ s'.h = s.h.set t.r.toNat false
  else_ : x.op ≠ 3 → x.op ≠ 4 → s'.h = s.h
section
variable {s : JS} {regs l : List Int} {want : List Ty} {k : Nat} {x c : Int} {u u' t : Ty}
end
section
variable {m : Module} {f : Fun} {s : JS} {x : Ins}
end
section
variable {f : Fun} {s : JS} {t : To} {b : Block} {e : Tail}
end
/-! ### A code that is told is not 0 -/
def NZ {α : Type} (x : Except Int α) : Prop := ∀ c, x = .error c → c ≠ 0
theorem NZ.e {α : Type} {c : Int} (h : c ≠ 0) : NZ (.error c : Except Int α) := fun _ h' => by cases h'; exact h
theorem NZ.o {α : Type} (a : α) : NZ (.ok a : Except Int α) := fun _ h' => by cases h'
theorem NZ.bind {α β : Type} {x : Except Int α} {f : α → Except Int β} (h1 : NZ x) (h2 : ∀ a, x = .ok a → NZ (f a)) : NZ (ebind x f) := by
  cases x with
  | error e => exact fun c h => by cases h; exact h1 _ rfl
  | ok a => exact h2 a rfl
end Go.Lir
namespace Go.Lir
set_option linter.unusedVariables false
/-! ### A module of the right form -/
theorem Qgu {a b : Flt} (h : (orF a b).1 = 0) : a.1 = 0 ∧ b.1 = 0 := by
  unfold orF at h
  split at h
  · rename_i hc; exact absurd h hc.2
  · rename_i hc
    refine ⟨h, ?_⟩
    exact Classical.byContradiction fun hb => hc ⟨h, hb⟩
theorem Qb6 {n f b : Nat} : ∀ {l : List Ins} {i : Nat}, (Q1b n f b i l).1 = 0 → ∀ x ∈ l, Q2M n x = 0
  | [], _, _, x, hx => by cases hx
  | y :: l, i, h, x, hx => by
    rw [Q1b] at h
    obtain ⟨h1, h2⟩ := Qgu h
    rw [Q3a] at h1
    rcases List.mem_cons.1 hx with rfl | hx
    · exact h1
    · exact Qb6 h2 x hx
theorem Q7u {n f : Nat} {x : Fun} : ∀ {l : List Block} {b0 : Nat}, (QY n f x b0 l).1 = 0 → ∀ (b : Nat) (y : Block), l[b]? = some y → (QV n f x (b0 + b) y).1 = 0
  | [], _, _, b, y, hy => by cases hy
  | z :: l, b0, h, b, y, hy => by
    rw [QY] at h
    obtain ⟨h1, h2⟩ := Qgu h
    cases b with
    | zero => rw [List.getElem?_cons_zero] at hy; cases hy; exact h1
    | succ b => rw [List.getElem?_cons_succ] at hy; rw [show b0 + (b + 1) = b0 + 1 + b by omega]; exact Q7u h2 b y hy
theorem Qau {n : Nat} : ∀ {l : List Fun} {f0 : Nat}, (Q1s n f0 l).1 = 0 → ∀ (f : Nat) (x : Fun), l[f]? = some x → (Q2d n (f0 + f) x).1 = 0
  | [], _, _, b, y, hy => by cases hy
  | z :: l, b0, h, b, y, hy => by
    rw [Q1s] at h
    obtain ⟨h1, h2⟩ := Qgu h
    cases b with
    | zero => rw [List.getElem?_cons_zero] at hy; cases hy; exact h1
    | succ b => rw [List.getElem?_cons_succ] at hy; rw [show b0 + (b + 1) = b0 + 1 + b by omega]; exact Qau h2 b y hy
theorem Qs7 {m : Module} (h : m.fault.1 = 0) {f b : Nat} {x : Fun} {y : Block} (hx : m.funcs[f]? = some x) (hy : x.blocks[b]? = some y) : Qx x b y = 0 ∧ (∀ i ∈ y.code, Q2M m.funcs.length i = 0) ∧ Q2Z x.blocks.length y.fin = 0 := by
  have h1 := Qau (Qgu h).2 f x hx
  have h2 := Q7u (Qgu h1).2 b y hy
  obtain ⟨h3, h4⟩ := Qgu h2
  obtain ⟨h5, h6⟩ := Qgu h4
  rw [Q3a] at h3 h6
  rw [Nat.zero_add] at h3
  exact ⟨h3, Qb6 h5, h6⟩
/-! ### What is renamed is short -/
theorem Ty.Short.part {t : Ty} (h : t.Short) : ∀ u ∈ t.l, u.Short := by
  obtain ⟨k, r, l⟩ := t
  exact h.parts.2
/-! ### What stays so -/
structure JGood (s : JS) : Prop where
  n : s.l.length ≤ 80
  h : s.h.length ≤ 16
  s : ∀ t ∈ s.l, t.Short
theorem JGood.put {s s' : JS} {t : Ty} (hg : JGood s) (ht : t.Short) (h : jput s t = .ok s') : JGood s' := by
  obtain ⟨h1, h2, h3⟩ := jput_ok h
  refine ⟨by rw [h3, List.length_append]; have := hg.n; simp only [List.length_cons, List.length_nil]; omega, by rw [h2]; exact hg.h, fun u hu => ?_⟩
  rw [h3] at hu
  rcases List.mem_append.1 hu with hu | hu
  · exact hg.s u hu
  · simp at hu; subst hu; exact ht
/-! ### What was freed -/
/-! ### What is held, as a list -/
end Go.Lir
namespace Go.Lir
set_option linter.unusedVariables false
variable {α : Type}
/-- A kind of data of which more is known. -/
def Rep.an (r : Rep α) (p : α → Prop) : Rep α where
  es := r.es
  pos := r.pos
  R := fun H K cs x => r.R H K cs x ∧ p x
  len := fun h => r.len h.1
  one := fun h => r.one h.1
  turn := fun h hs => ⟨r.turn h.1 hs, h.2⟩
theorem Rep.an_SR {r : Rep α} {p : α → Prop} {H : Heap} {K : Nat → Prop} {v : Value} {l : List α} (h : (r.an p).SR H K v l) : r.SR H K v l ∧ ∀ x ∈ l, p x := by
  obtain ⟨css, h1, ⟨h2, h3⟩, h4⟩ := h
  refine ⟨⟨css, h1, ⟨h2, fun m x hx => ?_⟩, h4⟩, fun x hx => ?_⟩
  · obtain ⟨d, e1, e2⟩ := h3 m x hx; exact ⟨d, e1, e2.1⟩
  · obtain ⟨m, hm⟩ := List.mem_iff_getElem?.1 hx
    obtain ⟨d, e1, e2⟩ := h3 m x hm; exact e2.2
def To.InR (t : To) : Prop := InI t.block ∧ (∀ n ∈ t.regs, InI n) ∧ ∀ n ∈ t.args, InI n
def Ins.InR (x : Ins) : Prop := (InI x.op ∧ InI x.a ∧ InI x.b ∧ InI x.c ∧ InI x.k ∧ InI x.n) ∧ (∀ n ∈ x.regs, InI n) ∧ ∀ n ∈ x.args, InI n
def Tail.InR (x : Tail) : Prop := InI x.op ∧ InI x.a ∧ x.yes.InR ∧ x.no.InR ∧ ∀ n ∈ x.args, InI n
def Block.InR (x : Block) : Prop := InI x.regs ∧ (∀ t ∈ x.params, t.InR) ∧ (∀ i ∈ x.code, i.InR) ∧ x.fin.InR
def Fun.InR (x : Fun) : Prop := InI x.regs ∧ (∀ t ∈ x.params, t.InR) ∧ (∀ t ∈ x.results, t.InR) ∧ ∀ b ∈ x.blocks, b.InR
def Module.InR (m : Module) : Prop := ∀ f ∈ m.funcs, f.InR
section
variable {P : Program} {T e : TypeId}
def Cod.Of.intI (ht : P.underlying T = some (.int .i64)) (hs : P.cellsOf T = 1) : Cod.Of P T (intR.an InI) := Cod.of (Cod.int .i64 ht hs) (intR.an InI) rfl fun _ _ x h => ⟨x, h.1, Quf h.2⟩
def Cod.Of.tyI {TL t0 t1 : TypeId} (h0 : fieldAt P T 0 = some (0, 1, t0)) (h1 : fieldAt P T 1 = some (1, 1, t1)) (h2 : fieldAt P T 2 = some (2, 1, TL)) (hi0 : P.underlying t0 = some (.int .i64)) (hi1 : P.underlying t1 = some (.int .i64)) (hT : P.cellsOf T = 3) (hTL : P.underlying TL = some (.slice T)) (hby : decide (0 < P.bytesOf T) = true) : Cod.Of P T (tyR.an Ty.InR) :=
  ⟨Cod.tyInt h0 h1 h2 hi0 hi1 hT hTL hby, rfl, fun _ _ _ h => h⟩
def Cod.Of.toI {TI TL : TypeId} (ci : Cod.Of P TI (intR.an InI)) (cl : Cod.Of P TL (intR.an InI).list) (h0 : fieldAt P T 0 = some (0, 1, TI)) (h1 : fieldAt P T 1 = some (1, 1, TL)) (h2 : fieldAt P T 2 = some (2, 1, TL)) (hT : P.cellsOf T = 3) : Cod.Of P T (toR.an To.InR) :=
  Cod.of (Fld.cod (Fld.more ci.cod h0 (Fld.more cl.cod h1 (Fld.more cl.cod h2 Fld.none))) h0 3 hT) (toR.an To.InR) rfl fun H cs x h => by
    obtain ⟨hl, g0, g1, g2, _⟩ := h
    match cs, hl with
    | [a, b, c], _ =>
      obtain ⟨e0, n0⟩ : [a] = [_] ∧ InI _ := ci.part g0
      obtain ⟨v1, e1, s1⟩ := cl.part g1; obtain ⟨s1, q1⟩ := Rep.an_SR s1
      obtain ⟨v2, e2, s2⟩ := cl.part g2; obtain ⟨s2, q2⟩ := Rep.an_SR s2
      replace e1 : [b] = [v1] := e1
      replace e2 : [c] = [v2] := e2
      simp only [List.cons.injEq, and_true] at e0 e1 e2
      subst e0 e1 e2
      exact ⟨⟨x.1, x.2.1, x.2.2.1⟩, ⟨b, c, rfl, s1, s2⟩, n0, q1, q2⟩
def Cod.Of.insI {TI TL TN : TypeId} (ci : Cod.Of P TI (intR.an InI)) (cn : Cod.Of P TN (intR.an InI)) (cl : Cod.Of P TL (intR.an InI).list) (h0 : fieldAt P T 0 = some (0, 1, TI)) (h1 : fieldAt P T 1 = some (1, 1, TI)) (h2 : fieldAt P T 2 = some (2, 1, TI)) (h3 : fieldAt P T 3 = some (3, 1, TI)) (h4 : fieldAt P T 4 = some (4, 1, TI)) (h5 : fieldAt P T 5 = some (5, 1, TN)) (h6 : fieldAt P T 6 = some (6, 1, TL)) (h7 : fieldAt P T 7 = some (7, 1, TL)) (hT : P.cellsOf T = 8) : Cod.Of P T (insR.an Ins.InR) :=
  Cod.of (Fld.cod (Fld.more ci.cod h0 (Fld.more ci.cod h1 (Fld.more ci.cod h2 (Fld.more ci.cod h3 (Fld.more ci.cod h4 (Fld.more cn.cod h5 (Fld.more cl.cod h6 (Fld.more cl.cod h7 Fld.none)))))))) h0 8 hT) (insR.an Ins.InR) rfl fun H cs x h => by
    obtain ⟨hl, g0, g1, g2, g3, g4, g5, g6, g7, _⟩ := h
    match cs, hl with
    | [a0, a1, a2, a3, a4, a5, a6, a7], _ =>
      obtain ⟨e0, n0⟩ : [a0] = [_] ∧ InI _ := ci.part g0
      obtain ⟨e1, n1⟩ : [a1] = [_] ∧ InI _ := ci.part g1
      obtain ⟨e2, n2⟩ : [a2] = [_] ∧ InI _ := ci.part g2
      obtain ⟨e3, n3⟩ : [a3] = [_] ∧ InI _ := ci.part g3
      obtain ⟨e4, n4⟩ : [a4] = [_] ∧ InI _ := ci.part g4
      obtain ⟨e5, n5⟩ : [a5] = [_] ∧ InI _ := cn.part g5
      obtain ⟨v1, e6, s1⟩ := cl.part g6; obtain ⟨s1, q1⟩ := Rep.an_SR s1
      obtain ⟨v2, e7, s2⟩ := cl.part g7; obtain ⟨s2, q2⟩ := Rep.an_SR s2
      replace e6 : [a6] = [v1] := e6
      replace e7 : [a7] = [v2] := e7
      simp only [List.cons.injEq, and_true] at e0 e1 e2 e3 e4 e5 e6 e7
      subst e0 e1 e2 e3 e4 e5 e6 e7
      exact ⟨⟨x.1, x.2.1, x.2.2.1, x.2.2.2.1, x.2.2.2.2.1, x.2.2.2.2.2.1, x.2.2.2.2.2.2.1, x.2.2.2.2.2.2.2.1⟩, ⟨_, _, rfl, s1, s2⟩, ⟨n0, n1, n2, n3, n4, n5⟩, q1, q2⟩
def Cod.Of.endpI {TI TL TT : TypeId} (ci : Cod.Of P TI (intR.an InI)) (cl : Cod.Of P TL (intR.an InI).list) (ct : Cod.Of P TT (toR.an To.InR)) (h0 : fieldAt P T 0 = some (0, 1, TI)) (h1 : fieldAt P T 1 = some (1, 1, TI)) (h2 : fieldAt P T 2 = some (2, 3, TT)) (h3 : fieldAt P T 3 = some (5, 3, TT)) (h4 : fieldAt P T 4 = some (8, 1, TL)) (hT : P.cellsOf T = 9) : Cod.Of P T (endR.an Tail.InR) :=
  Cod.of (Fld.cod (Fld.more ci.cod h0 (Fld.more ci.cod h1 (Fld.more ct.cod h2 (Fld.more ct.cod h3 (Fld.more cl.cod h4 Fld.none))))) h0 9 hT) (endR.an Tail.InR) rfl fun H cs x h => by
    obtain ⟨hl, g0, g1, g2, g3, g4, _⟩ := h
    match cs, hl with
    | [a0, a1, a2, a3, a4, a5, a6, a7, a8], _ =>
      obtain ⟨e0, n0⟩ : [a0] = [_] ∧ InI _ := ci.part g0
      obtain ⟨e1, n1⟩ : [a1] = [_] ∧ InI _ := ci.part g1
      obtain ⟨⟨v1, v2, e2, s1, s2⟩, n2⟩ := ct.part g2
      obtain ⟨⟨v3, v4, e3, s3, s4⟩, n3⟩ := ct.part g3
      obtain ⟨v5, e4, s5⟩ := cl.part g4; obtain ⟨s5, q5⟩ := Rep.an_SR s5
      replace e2 : [a2, a3, a4] = _ := e2
      replace e3 : [a5, a6, a7] = _ := e3
      replace e4 : [a8] = _ := e4
      simp only [List.cons.injEq, and_true] at e0 e1 e2 e3 e4
      obtain ⟨q2, q3, q4⟩ := e2
      obtain ⟨q5, q6, q7⟩ := e3
      subst e0 e1 q2 q3 q4 q5 q6 q7 e4
      exact ⟨⟨x.1, x.2.1, x.2.2.1, x.2.2.2.1, x.2.2.2.2.1⟩, ⟨_, _, _, _, _, rfl, s1, s2, s3, s4, s5⟩, n0, n1, n2, n3, q5⟩
def Cod.Of.blockI {TI TL TC TE : TypeId} (ci : Cod.Of P TI (intR.an InI)) (cl : Cod.Of P TL (tyR.an Ty.InR).list) (cc : Cod.Of P TC (insR.an Ins.InR).list) (ce : Cod.Of P TE (endR.an Tail.InR)) (h0 : fieldAt P T 0 = some (0, 1, TI)) (h1 : fieldAt P T 1 = some (1, 1, TL)) (h2 : fieldAt P T 2 = some (2, 1, TC)) (h3 : fieldAt P T 3 = some (3, 9, TE)) (hT : P.cellsOf T = 12) : Cod.Of P T (blockR.an Block.InR) :=
  Cod.of (Fld.cod (Fld.more ci.cod h0 (Fld.more cl.cod h1 (Fld.more cc.cod h2 (Fld.more ce.cod h3 Fld.none)))) h0 12 hT) (blockR.an Block.InR) rfl fun H cs x h => by
    obtain ⟨hl, g0, g1, g2, g3, _⟩ := h
    match cs, hl with
    | [a0, a1, a2, a3, a4, a5, a6, a7, a8, a9, a10, a11], _ =>
      obtain ⟨e0, n0⟩ : [a0] = [_] ∧ InI _ := ci.part g0
      obtain ⟨v1, e1, s1⟩ := cl.part g1; obtain ⟨s1, q1⟩ := Rep.an_SR s1
      obtain ⟨v2, e2, s2⟩ := cc.part g2; obtain ⟨s2, q2⟩ := Rep.an_SR s2
      obtain ⟨s3, n3⟩ := ce.part g3
      replace e1 : [a1] = _ := e1
      replace e2 : [a2] = _ := e2
      replace s3 : endR.R H (· < H.size) [a3, a4, a5, a6, a7, a8, a9, a10, a11] x.2.2.2.1 := s3
      simp only [List.cons.injEq, and_true] at e0 e1 e2
      subst e0 e1 e2
      exact ⟨⟨x.1, x.2.1, x.2.2.1, x.2.2.2.1⟩, ⟨_, _, _, rfl, s1, s2, s3⟩, n0, q1, q2, n3⟩
def Cod.Of.funcI {TI TL TB : TypeId} (ci : Cod.Of P TI (intR.an InI)) (cl : Cod.Of P TL (tyR.an Ty.InR).list) (cb : Cod.Of P TB (blockR.an Block.InR).list) (h0 : fieldAt P T 0 = some (0, 1, TI)) (h1 : fieldAt P T 1 = some (1, 1, TL)) (h2 : fieldAt P T 2 = some (2, 1, TL)) (h3 : fieldAt P T 3 = some (3, 1, TB)) (hT : P.cellsOf T = 4) : Cod.Of P T (funcR.an Fun.InR) :=
  Cod.of (Fld.cod (Fld.more ci.cod h0 (Fld.more cl.cod h1 (Fld.more cl.cod h2 (Fld.more cb.cod h3 Fld.none)))) h0 4 hT) (funcR.an Fun.InR) rfl fun H cs x h => by
    obtain ⟨hl, g0, g1, g2, g3, _⟩ := h
    match cs, hl with
    | [a0, a1, a2, a3], _ =>
      obtain ⟨e0, n0⟩ : [a0] = [_] ∧ InI _ := ci.part g0
      obtain ⟨v1, e1, s1⟩ := cl.part g1; obtain ⟨s1, q1⟩ := Rep.an_SR s1
      obtain ⟨v2, e2, s2⟩ := cl.part g2; obtain ⟨s2, q2⟩ := Rep.an_SR s2
      obtain ⟨v3, e3, s3⟩ := cb.part g3; obtain ⟨s3, q3⟩ := Rep.an_SR s3
      replace e1 : [a1] = _ := e1
      replace e2 : [a2] = _ := e2
      replace e3 : [a3] = _ := e3
      simp only [List.cons.injEq, and_true] at e0 e1 e2 e3
      subst e0 e1 e2 e3
      exact ⟨⟨x.1, x.2.1, x.2.2.1, x.2.2.2.1⟩, ⟨_, _, _, rfl, s1, s2, s3⟩, n0, q1, q2, q3⟩
def Cod.Of.modI {TF : TypeId} (cf : Cod.Of P TF (funcR.an Fun.InR).list) (h0 : fieldAt P T 0 = some (0, 1, TF)) (hT : P.cellsOf T = 1) : Cod.Of P T (modR.an Module.InR) :=
  Cod.of (Fld.cod (Fld.more cf.cod h0 Fld.none) h0 1 hT) (modR.an Module.InR) rfl fun H cs x h => by
    obtain ⟨hl, g0, _⟩ := h
    match cs, hl with
    | [a0], _ =>
      obtain ⟨v1, e1, s1⟩ := cf.part g0; obtain ⟨s1, q1⟩ := Rep.an_SR s1
      replace e1 : [a0] = _ := e1
      simp only [List.cons.injEq, and_true] at e1
      subst e1
      exact ⟨⟨x.1⟩, ⟨_, rfl, s1⟩, q1⟩
end
/-! ### of the right form: read as written -/
/-! ### few parts are short lists -/
theorem Qur {m : Module} (h : m.Few) : m.Short := by
  refine ⟨by have := h.1; omega, fun f hf => ?_⟩
  obtain ⟨h1, h2, h3, h4⟩ := h.2 f hf
  refine ⟨Tys.Short.of_great h1, Tys.Short.of_great h2, by omega, fun b hb => ?_⟩
  obtain ⟨g1, g2, g3, ⟨⟨g4, g5⟩, ⟨g6, g7⟩, g8⟩⟩ := h4 b hb
  exact ⟨Tys.Short.of_great g1, by omega, fun x hx => ⟨by have := (g3 x hx).1; omega, by have := (g3 x hx).2; omega⟩, ⟨by omega, by omega⟩, ⟨by omega, by omega⟩, by omega⟩
end Go.Lir
namespace Go.Proofs.YtanlkfeogoganaaGreat
open Go.Lir
def QtP : Cod.Of Tryz.prog 3 (intR.an InI) := Cod.Of.intI (by kernel_rfl) (by kernel_rfl)
def cLongI : Cod.Of Tryz.prog 2 (intR.an InI) := Cod.Of.intI (by kernel_rfl) (by kernel_rfl)
def Qvz : Cod.Of Tryz.prog 41 (intR.an InI).list := Cod.Of.list QtP (by kernel_rfl) (by kernel_rfl) (by kernel_rfl)
def cTyI : Cod.Of Tryz.prog 112 (tyR.an Ty.InR) := Cod.Of.tyI (TL := 50) (t0 := 3) (t1 := 3) (by kernel_rfl) (by kernel_rfl) (by kernel_rfl) (by kernel_rfl) (by kernel_rfl) (by kernel_rfl) (by kernel_rfl) (by kernel_rfl)
def cTysI : Cod.Of Tryz.prog 50 (tyR.an Ty.InR).list := Cod.Of.list cTyI (by kernel_rfl) (by kernel_rfl) (by kernel_rfl)
def cInsI : Cod.Of Tryz.prog 57 (insR.an Ins.InR) := Cod.Of.insI QtP cLongI Qvz (by kernel_rfl) (by kernel_rfl) (by kernel_rfl) (by kernel_rfl) (by kernel_rfl) (by kernel_rfl) (by kernel_rfl) (by kernel_rfl) (by kernel_rfl)
def cInssI : Cod.Of Tryz.prog 40 (insR.an Ins.InR).list := Cod.Of.list cInsI (by kernel_rfl) (by kernel_rfl) (by kernel_rfl)
def cToI : Cod.Of Tryz.prog 43 (toR.an To.InR) := Cod.Of.toI QtP Qvz (by kernel_rfl) (by kernel_rfl) (by kernel_rfl) (by kernel_rfl)
def cEndI : Cod.Of Tryz.prog 45 (endR.an Tail.InR) := Cod.Of.endpI QtP Qvz cToI (by kernel_rfl) (by kernel_rfl) (by kernel_rfl) (by kernel_rfl) (by kernel_rfl) (by kernel_rfl)
def cBlockI : Cod.Of Tryz.prog 79 (blockR.an Block.InR) := Cod.Of.blockI QtP cTysI cInssI cEndI (by kernel_rfl) (by kernel_rfl) (by kernel_rfl) (by kernel_rfl) (by kernel_rfl)
def cBlocksI : Cod.Of Tryz.prog 51 (blockR.an Block.InR).list := Cod.Of.list cBlockI (by kernel_rfl) (by kernel_rfl) (by kernel_rfl)
def cFuncI : Cod.Of Tryz.prog 53 (funcR.an Fun.InR) := Cod.Of.funcI QtP cTysI cBlocksI (by kernel_rfl) (by kernel_rfl) (by kernel_rfl) (by kernel_rfl) (by kernel_rfl)
def cFuncsI : Cod.Of Tryz.prog 22 (funcR.an Fun.InR).list := Cod.Of.list cFuncI (by kernel_rfl) (by kernel_rfl) (by kernel_rfl)
def cModI : Cod.Of Tryz.prog 24 (modR.an Module.InR) := Cod.Of.modI cFuncsI (by kernel_rfl) (by kernel_rfl)
def cByte : Cod.Of Tryz.prog 5 u8R := Cod.of (Cod.int .u8 (by kernel_rfl) (by kernel_rfl)) u8R rfl fun _ _ x h => ⟨UInt8.ofNat x.toNat, by
  have hb : 0 ≤ x ∧ x < 256 := by have hb := h.2; simp [Lit.wf, IntKind.min, IntKind.max, IntKind.bits, IntKind.signed] at hb; omega
  rw [h.1]; show [Value.int .u8 x] = [Value.int .u8 ((UInt8.ofNat x.toNat).toNat : Int)]
  rw [UInt8.toNat_ofNat']; congr 2; omega⟩
def cBytes : Cod.Of Tryz.prog 25 u8R.list := Cod.Of.list cByte (by kernel_rfl) (by kernel_rfl) (by kernel_rfl)
end Go.Proofs.YtanlkfeogoganaaGreat
namespace Go.Lir

/-! ### A call that returns, or panics with one value -/

def Fins (P : Program) (f : FuncId) (args : List Value) (w : World) (S T : Value → World → Prop) : Prop :=
  Calls P f ⟨args⟩ w fun e w' => (∃ v, e = .returned v ∧ S v w') ∨ (∃ v, e = .panicked [{ v := v, recovered := false }] ∧ T v w')

theorem Fins.mono {P : Program} {f : FuncId} {args : List Value} {w : World} {S S' T T' : Value → World → Prop} (h : Fins P f args w S T) (hs : ∀ v w', S v w' → S' v w') (ht : ∀ v w', T v w' → T' v w') : Fins P f args w S' T' :=
  Calls.mono h fun _ _ h => h.elim (fun ⟨v, he, hv⟩ => .inl ⟨v, he, hs _ _ hv⟩) (fun ⟨v, he, hv⟩ => .inr ⟨v, he, ht _ _ hv⟩)
theorem Rets.ends {P : Program} {f : FuncId} {args : List Value} {w : World} {S T : Value → World → Prop} (h : Rets P f args w S) : Fins P f args w S T :=
  Calls.mono h fun _ _ h => .inl h
section
variable {P : Program} {l : List GO} {Q : QT} {ρ : Env} {w : World}
theorem Q2k {d : Nat} {f : FuncId} {xs : List Operand} {args : List Value} {S T : Value → World → Prop} (hxs : xs.map ρ.ev = args) (hc : Fins P f args w S T)
    (hp : ∀ v w', T v w' → Q (.panic [{ v := v, recovered := false }]) ρ w') (h : ∀ v w', S v w' → Q5 P l Q (upd ρ d v) w') : Q5 P (⟨none, .call (some d) f xs⟩ :: l) Q ρ w := by
  subst hxs
  refine Calls.mono hc fun e w' h' => ?_
  rcases h' with ⟨v, he, hs⟩ | ⟨v, he, hs⟩
  · subst he; exact h v w' hs
  · subst he; exact hp v w' hs
theorem s_mkb {d : Nat} {Ty : TypeId} {f : FuncId} {fs : Array Operand} {u : List Value} (hu : fs.toList.map ρ.ev = u) (h : Q5 P l Q (upd ρ d (.func (.func f) ⟨u⟩ #[])) w) : Q5 P (⟨none, .raw ⟨some d, .makeFunc (.func f) fs #[], Ty, "", #[], none⟩⟩ :: l) Q ρ w := by
  subst hu
  have e : (⟨fs.toList.map ρ.ev⟩ : Array Value) = fs.map ρ.ev := by apply Array.ext'; simp
  show Q5O P ⟨some d, .makeFunc (.func f) fs #[], Ty, "", #[], none⟩ ρ w (Q5 P l Q) Q
  refine Q19 (v := .func (.func f) ⟨fs.toList.map ρ.ev⟩ #[]) (w' := w) ?_ (by exact h)
  rw [e]
  simp [execOp, Instr.makeFunc]
/-- A function value, with what it is called with if nothing else is. -/
def FnV (fv : Value) (g : FuncId) (args : List Value) : Prop := ∃ a b, fv = .func (.func g) ⟨a⟩ ⟨b⟩ ∧ args = a ++ b
theorem Qgn {d : Nat} {x : Operand} {fv : Value} {f : FuncId} {args : List Value} {S T : Value → World → Prop} (hx : ρ.ev x = fv) (hv : FnV fv f args) (hf : Q3A P f = true) (hc : Fins P f args w S T)
    (hp : ∀ v w', T v w' → Q (.panic [{ v := v, recovered := false }]) ρ w') (h : ∀ v w', S v w' → Q5 P l Q (upd ρ d v) w') : Q5 P (⟨none, .callv (some d) x []⟩ :: l) Q ρ w := by
  unfold Q3A at hf
  rw [Option.any_eq_true] at hf
  obtain ⟨fn, h1, h2⟩ := hf
  rw [Bool.and_eq_true, Bool.not_eq_true'] at h2
  obtain ⟨a, b, rfl, rfl⟩ := hv
  refine ⟨f, ⟨a⟩, ⟨b⟩, fn, hx, h1, h2.1, h2.2, ?_⟩
  have : (Array.mk a ++ Array.mk (List.map ρ.ev []) ++ Array.mk b : Array Value) = ⟨a ++ b⟩ := by simp
  rw [this]
  refine Calls.mono hc fun e w' h' => ?_
  rcases h' with ⟨v, rfl, hs⟩ | ⟨v, rfl, hs⟩
  · exact h v w' hs
  · exact hp v w' hs
theorem Q12 {K : KT} {ch : List PanicEntry} (h : Q (.panic ch) ρ w) : QN K Q (.panic ch) ρ w := h
theorem Q13 {id : Nat} {ch : List PanicEntry} (h : Q (.panic ch) ρ w) : Q11 id Q (.panic ch) ρ w := h
theorem Q1U {rs : List ResultVar} {R : Ending → World → Prop} {ch : List PanicEntry} (h : R (.panicked ch) w) : retQ P rs R (.panic ch) ρ w := h
theorem Q58 {d : Option Nat} {x : Operand} {Ty T : TypeId} {v : Value} (hx : ρ.ev x = .iface T v) (h : Q (.panic [{ v := .iface T v, recovered := false }]) ρ w) : Q5 P (⟨none, .raw ⟨d, .panic x, Ty, "", #[], none⟩⟩ :: l) Q ρ w := by
  refine (?_ : Q5O P _ ρ w _ Q)
  unfold Q5O
  have e : (execOp ρ.ev ⟨d, .panic x, Ty, "", #[], none⟩).run P w = .halt (.panic (.iface T v)) w := by
    simp [execOp, Instr.panic, hx, goPanic, Sem.run]
  rw [e]; exact h
theorem s_assert {d : Nat} {x : Operand} {Ty T xT : TypeId} {v : Value} {D : TypeDesc} (hd : P.underlying T = some D) (hi : ∀ m, D ≠ .interface m) (hx : ρ.ev x = .iface T v)
    (h : Q5 P l Q (upd ρ d (.tuple #[v, .bool true])) w) : Q5 P (⟨none, .raw ⟨some d, .typeAssert x xT T true, Ty, "", #[], none⟩⟩ :: l) Q ρ w := by
  refine Q19 (v := .tuple #[v, .bool true]) (w' := w) ?_ h
  simp only [execOp, Instr.typeAssert, hx, Sem.run_bind, Qe P T D w hd, Result.andThen_ok]
  cases D <;> first | (exact absurd rfl (hi _)) | simp
end

/-! ### Deferred calls: lowered code in which one is put off -/

inductive LSp where
  | dfr (d : Option Nat) (x : Operand)
  | rcv (d : Option Nat)

inductive LD where
  | pl (c : LC)
  | seq (a b : LD)
  | sp (l1 : List GO) (o : LSp) (l2 : List GO)

def spOf (o : Oper) : Option LSp := match o.guard, o.op with
  | none, .defer ⟨.value x, xs, _⟩ => if xs.size = 0 then some (.dfr o.dst x) else none
  | none, .call ⟨.builtin .recover, xs, _⟩ => if xs.size = 0 then some (.rcv o.dst) else none
  | _, _ => none
def hasSp : Code → Bool
  | .seq a b => hasSp a || hasSp b
  | .region _ ops _ => ops.toList.any fun o => (spOf o).isSome
  | _ => false
def Qgl : List Oper → Option (List Oper × Oper × LSp × List Oper)
  | [] => none
  | o :: r => match spOf o with
    | some s => some ([], o, s, r)
    | none => (Qgl r).map fun p => (o :: p.1, p.2)
def lowD (P : Program) (n : Nat) : Code → LD
  | .seq a b => if hasSp a || hasSp b then .seq (lowD P n a) (lowD P n b) else .pl (Q3L P n (.seq a b))
  | .region id ops false => match Qgl ops.toList with
    | some (l1, o, s, l2) => if ops.toList.all (okG n ops) then .sp (l1.map (Q3b P ops)) s (l2.map (Q3b P ops)) else .pl .bad
    | none => .pl (Q3L P n (.region id ops false))
  | c => .pl (Q3L P n c)
def QtC (P : Program) (fn : Func) : Option LD := fn.body.map (lowD P fn.ntmps)

def LD.wpD (P : Program) : LD → (List Deferred → QT) → List Deferred → Env → World → Prop
  | .pl c, Q, ds, ρ, w => c.wp P (Q ds) ρ w
  | .seq a b, Q, ds, ρ, w => a.wpD P (fun ds' => QN (b.wpD P Q ds') (Q ds')) ds ρ w
  | .sp l1 (.dfr d x) l2, Q, ds, ρ, w => Q5 P l1 (QN (fun ρ w => ∃ f cap, ρ.ev x = .func (.func f) #[] cap ∧ Q5 P l2 (Q (⟨.fn (.func f) cap, #[]⟩ :: ds)) (updo ρ d undef) w) (Q ds)) ρ w
  | _, _, _, _, _ => False

theorem Q6m : ∀ {ops l1 l2 : List Oper} {o : Oper} {s : LSp}, Qgl ops = some (l1, o, s, l2) → ops = l1 ++ o :: l2 ∧ spOf o = some s
  | [], _, _, _, _, h => by simp [Qgl] at h
  | o' :: r, l1, l2, o, s, h => by
    rw [Qgl] at h
    cases hs : spOf o' with
    | some s' =>
      simp only [hs, Option.some.injEq, Prod.mk.injEq] at h
      obtain ⟨rfl, rfl, rfl, rfl⟩ := h
      exact ⟨rfl, hs⟩
    | none =>
      simp only [hs, Option.map_eq_some_iff] at h
      obtain ⟨⟨a, b, c, d⟩, h1, h2⟩ := h
      simp only [Prod.mk.injEq] at h2
      obtain ⟨rfl, rfl, rfl, rfl⟩ := h2
      obtain ⟨h3, h4⟩ := Q6m h1
      exact ⟨by rw [h3]; rfl, h4⟩

theorem QbE {P : Program} {o : Oper} {a : Act} {K K' : Act → World → Prop} {Q Q' : Exit → Act → World → Prop} (hk : ∀ a w, K a w → K' a w) (hp : ∀ ch a w, Q (.panic ch) a w → Q' (.panic ch) a w) (ho : LetsOut Q → LetsOut Q') (r : Result Next) (h : o.upon P a K Q r) : o.upon P a K' Q' r := by
  cases r with
  | ok n w =>
    cases n <;> first | exact hk _ _ h | exact h | skip
    · refine Calls.mono h fun e w h => ?_
      cases e <;> first | exact hk _ _ h | exact hp _ _ _ h | exact ho h
    · exact Rows.mono h fun v w h => hk _ _ h
  | halt x w => cases x <;> first | exact hp _ _ _ h | exact h

theorem Q4i {P : Program} {ops : Array Oper} {Q : Exit → Act → World → Prop} {l2 : List Nat} : ∀ (l1 : List Nat) (a : Act) (w : World),
    wpOps P ops (Exit.then (wpOps P ops Q l2) Q) l1 a w → wpOps P ops Q (l1 ++ l2) a w
  | [], a, w, h => h
  | i :: l1, a, w, h => by
    simp only [List.cons_append, wpOps] at h ⊢
    cases ho : ops[i]? with
    | none => simp only [ho] at h ⊢; exact Q4i l1 a w h
    | some o =>
      simp only [ho] at h ⊢
      split
      · rename_i hw
        rw [if_pos hw] at h
        rcases h with h | ⟨h1, h2⟩
        · exact .inl (QbE (fun a w h => Q4i l1 a w h) (fun ch a w h => h) (fun h => h) _ h)
        · exact .inr ⟨h1, h2⟩
      · rename_i hw
        rw [if_neg hw] at h
        exact Q4i l1 _ w h
theorem Q41 {P : Program} {ops : Array Oper} {Q Q' : Exit → Act → World → Prop} (hq : ∀ e a w, Q e a w → Q' e a w) : ∀ (l : List Nat) (a : Act) (w : World), wpOps P ops Q l a w → wpOps P ops Q' l a w
  | [], a, w, h => hq _ _ _ h
  | i :: l, a, w, h => by
    simp only [wpOps] at h ⊢
    have ho' : LetsOut Q → LetsOut Q' := fun ⟨a, w, h⟩ => ⟨a, w, hq _ _ _ h⟩
    cases ho : ops[i]? with
    | none => simp only [ho] at h ⊢; exact Q41 hq l a w h
    | some o =>
      simp only [ho] at h ⊢
      split
      · rename_i hw
        rw [if_pos hw] at h
        rcases h with h | ⟨h1, h2⟩
        · exact .inl (QbE (fun a w h => Q41 hq l a w h) (fun ch a w h => hq _ _ _ h) ho' _ h)
        · exact .inr ⟨h1, ho' h2⟩
      · rename_i hw
        rw [if_neg hw] at h
        exact Q41 hq l _ w h

def liftD (n : Nat) (Q : List Deferred → QT) : Exit → Act → World → Prop := fun e a w => ∃ ds, QpW n ds (Q ds) e a w

theorem QpP {α : Type} {ops l1 l2 : List α} {o : α} (h : ops = l1 ++ o :: l2) : List.range ops.length = List.range l1.length ++ l1.length :: (List.range l2.length).map (l1.length + 1 + ·) := by
  subst h
  apply List.ext_getElem
  · simp
  · intro i h1 h2
    rw [List.getElem_range]
    rcases Nat.lt_trichotomy i l1.length with h | h | h
    · rw [List.getElem_append_left (by simpa using h), List.getElem_range]
    · subst h; rw [List.getElem_append_right (by simp)]; simp
    · rw [List.getElem_append_right (by simpa using Nat.le_of_lt h)]
      simp only [List.length_range]
      rw [List.getElem_cons]
      rw [dif_neg (by omega), List.getElem_map, List.getElem_range]; omega
theorem Qus {α β : Type} {ops l1 l2 : List α} {o : α} (g : α → β) (h : ops = l1 ++ o :: l2) : ((List.range l2.length).map (l1.length + 1 + ·)).filterMap (fun i => (ops[i]?).map g) = l2.map g := by
  subst h
  rw [List.filterMap_map]
  have : ∀ i, ((fun i => ((l1 ++ o :: l2)[i]?).map g) ∘ (l1.length + 1 + ·)) i = (l2[i]?).map g := by
    intro i
    simp only [Function.comp]
    rw [List.getElem?_append_right (by omega)]
    rw [show l1.length + 1 + i - l1.length = i + 1 by omega, List.getElem?_cons_succ]
  rw [Q2Y (fun i _ => this i)]
  have := Q45 g l2 []
  simpa [List.range_eq_range'] using this
theorem QsV {α β : Type} {ops l1 l2 : List α} {o : α} (g : α → β) (h : ops = l1 ++ o :: l2) : (List.range l1.length).filterMap (fun i => (ops[i]?).map g) = l1.map g := by
  subst h
  have : ∀ i ∈ List.range l1.length, ((l1 ++ o :: l2)[i]?).map g = (l1[i]?).map g := by
    intro i hi
    rw [List.getElem?_append_left (by simpa using hi)]
  rw [Q2Y this]
  have := Q45 g l1 []
  simpa [List.range_eq_range'] using this

theorem QtD {P : Program} {n : Nat} : ∀ (c : Code) (Q : List Deferred → QT) (ds : List Deferred) (ρ : Env) (a : Act) (w : World), Rel n ρ ds a → (lowD P n c).wpD P Q ds ρ w → c.wp P (liftD n Q) a w := by
  have hpl : ∀ (c : Code) (Q : List Deferred → QT) (ds : List Deferred) (ρ : Env) (a : Act) (w : World), Rel n ρ ds a → (Q3L P n c).wp P (Q ds) ρ w → c.wp P (liftD n Q) a w := fun c Q ds ρ a w hr h =>
    wp_mono (Q6A c _ ρ a w hr h) fun e a w h => ⟨ds, h⟩
  intro c
  induction c with
  | seq x y ihx ihy =>
    intro Q ds ρ a w hr h
    rw [lowD] at h
    split at h
    · refine wp_seq ?_
      refine wp_mono (ihx _ ds ρ a w hr h) ?_
      rintro e a w ⟨ds', ρ', hr', h'⟩
      cases e with
      | normal => exact ihy _ ds' ρ' a w hr' h'
      | _ => exact ⟨ds', ρ', hr', h'⟩
    · exact hpl _ Q ds ρ a w hr h
  | region id ops draw =>
    intro Q ds ρ a w hr h
    cases draw with
    | true => exact hpl _ Q ds ρ a w hr h
    | false =>
      rw [lowD] at h
      split at h
      · rename_i l1 o s l2 hs
        obtain ⟨hops, hsp⟩ := Q6m hs
        split at h
        · rename_i hall
          have hok : ∀ i o, ops[i]? = some o → okG n ops o = true := fun i o hi => List.all_eq_true.1 hall o (by rw [← Array.getElem?_toList] at hi; exact List.mem_of_getElem? hi)
          have hsz : ops.size = ops.toList.length := by simp
          have hgm : ∀ (l : List Nat), (l.filterMap fun i => (ops[i]?).map (Q3b P ops)) = l.filterMap fun i => (ops.toList[i]?).map (Q3b P ops) := fun l => by simp
          have hlen : ops.toList.length = l1.length + 1 + l2.length := by rw [hops]; simp; omega
          have hrange : ∀ (l : List Nat), (∀ i ∈ l, i < ops.size) → ∀ i ∈ l, ∃ o, ops[i]? = some o ∧ okG n ops o = true := fun l hl i hi => ⟨ops[i]'(hl i hi), by simp [hl i hi], hok i _ (by simp [hl i hi])⟩
          refine wp_region ?_
          rw [hsz, QpP hops]
          refine Q4i _ _ _ ?_
          cases s with
          | rcv d => exact h.elim
          | dfr d x =>
            have h1 := Q7K (Q := QN (fun ρ w => ∃ f cap, ρ.ev x = .func (.func f) #[] cap ∧ Q5 P (l2.map (Q3b P ops)) (Q (⟨.fn (.func f) cap, #[]⟩ :: ds)) (updo ρ d undef) w) (Q ds)) (ds := ds) (List.range l1.length) ρ a w hr
              (hrange _ fun i hi => by rw [hsz, hlen]; have := List.mem_range.1 hi; omega) (by rw [hgm, QsV _ hops]; exact h)
            refine Q41 ?_ _ _ _ h1
            rintro e a w ⟨ρ', hr', h'⟩
            cases e with
            | normal =>
              obtain ⟨f, cap, hf, h'⟩ := h'
              have hoi : ops[l1.length]? = some o := by rw [← Array.getElem?_toList, hops]; simp
              refine (?_ : wpOps P ops _ (l1.length :: _) a w)
              simp only [wpOps, hoi]
              have hg : o.guard = none ∧ ∃ ts, ∃ xs : Array Operand, o.op = .defer ⟨.value x, xs, ts⟩ ∧ xs.size = 0 ∧ o.dst = d := by
                unfold spOf at hsp
                split at hsp
                · rename_i x' xs' ts' hg ho
                  split at hsp
                  · rename_i hx0
                    simp only [Option.some.injEq, LSp.dfr.injEq] at hsp
                    obtain ⟨g1, g2⟩ := hsp
                    subst g2
                    exact ⟨hg, ts', xs', ho, hx0, g1⟩
                  · cases hsp
                · split at hsp <;> cases hsp
                · cases hsp
              obtain ⟨hgd, ts, xs, hop, hxs, hd⟩ := hg
              have hxs' : xs = #[] := Array.eq_empty_of_size_eq_zero hxs
              subst hxs'
              rw [if_pos (by simp [Region.wanted, hgd])]
              refine .inl ?_
              unfold Oper.wp
              have e1 : (execOp a.eval o).run P w = .ok (.defer ⟨.fn (.func f) cap, #[]⟩) w := by
                simp [execOp, hop, resolve, hr'.ev, hf, Deferred.ofValue]
              rw [e1, Oper.upon_defer, hd]
              have hdn := QbL (hok _ o hoi)
              rw [hd] at hdn
              have hr2 : Rel n (updo ρ' d undef) (⟨.fn (.func f) cap, #[]⟩ :: ds) ({ a with defers := ⟨.fn (.func f) cap, #[]⟩ :: a.defers }.put d undef) := by
                have hr3 : Rel n ρ' (⟨.fn (.func f) cap, #[]⟩ :: ds) { a with defers := ⟨.fn (.func f) cap, #[]⟩ :: a.defers } := ⟨hr'.1, hr'.2.1, by simp [hr'.2.2]⟩
                exact hr3.put d undef hdn
              have h2 := Q7K (Q := Q (⟨.fn (.func f) cap, #[]⟩ :: ds)) (ds := ⟨.fn (.func f) cap, #[]⟩ :: ds) _ _ _ w hr2
                (hrange ((List.range l2.length).map (l1.length + 1 + ·)) fun i hi => by rw [hsz, hlen]; rw [List.mem_map] at hi; obtain ⟨j, hj, rfl⟩ := hi; have := List.mem_range.1 hj; omega) (by rw [hgm, Qus _ hops]; exact h')
              exact Q41 (fun e a w h => ⟨_, h⟩) _ _ _ h2
            | _ => exact ⟨ds, ρ', hr', h'⟩
        · exact h.elim
      · exact hpl _ Q ds ρ a w hr h
  | _ => exact hpl _

/-- What becomes of a function's end, its deferred calls still to come. -/
def Q4G (P : Program) (rs : List ResultVar) (ρ : Env) (R : Ending → World → Prop) : List Deferred → FrameMode → World → Prop
  | [], .returning, w => Q1T P w ρ rs [] fun v => R (.returned v) w
  | [], .panicking chain, w => R (.panicked chain) w
  | [], .run, _ => False
  | d :: ds, u, w => u ≠ .run ∧ ∃ f cap, d = ⟨.fn (.func f) cap, #[]⟩ ∧ Q3A P f = true ∧ CallsD P f cap u w fun
      | .returned _, u', w' => Q4G P rs ρ R ds (settle u') w'
      | .panicked chain, u', w' => Q4G P rs ρ R ds (raised u' chain) w'
      | .outgrown, _, w' => R .outgrown w'
def retD (P : Program) (rs : List ResultVar) (R : Ending → World → Prop) (ds : List Deferred) : QT
  | .normal, ρ, w | .ret, ρ, w => Q4G P rs ρ R ds .returning w
  | .panic chain, ρ, w => Q4G P rs ρ R ds (.panicking chain) w
  | .outgrown, _, w => R .outgrown w
  | _, _, _ => False

theorem Q48 {P : Program} {fn : Func} {tmps : Array Value} {ρ : Env} {R : Ending → World → Prop} (ht : ∀ i, tmps.getD i undef = ρ i) : ∀ (ds : List Deferred) (u : FrameMode) (w : World),
    Q4G P fn.results.toList ρ R ds u w → Leaves P fn tmps R ds u w
  | [], .returning, w, h => by obtain ⟨v, h1, h2⟩ := Q37 ht h; exact ⟨v, h1, h2⟩
  | [], .panicking _, w, h => h
  | [], .run, w, h => h.elim
  | d :: ds, u, w, h => by
    obtain ⟨hu, f, cap, rfl, hf, hc⟩ := h
    unfold Q3A at hf
    rw [Option.any_eq_true] at hf
    obtain ⟨fn', h1, h2⟩ := hf
    rw [Bool.and_eq_true, Bool.not_eq_true'] at h2
    refine leaves_cons hu (f := f) (args := cap) ?_ ?_
    · simp only [invoke]
      rw [QdF _ h1 h2.1 h2.2]; simp
    · refine hc.mono ?_
      intro e u' w' h
      cases e with
      | returned v => exact Q48 ht ds _ _ h
      | panicked ch => exact Q48 ht ds _ _ h
      | outgrown => exact h

theorem Qn6 {P : Program} {f : FuncId} {fn : Func} {args : List Value} {w : World} {R : Ending → World → Prop} {ld : LD} {rs : List ResultVar}
    (hf : P.funcs[f]? = some fn) (hl : QtC P fn = some ld) (hrs : fn.results.toList = rs) (hn : Nat.ble args.length fn.ntmps = true)
    (h : ld.wpD P (retD P rs R) [] (Qg args) w) : Calls P f ⟨args⟩ w R := by
  unfold QtC at hl
  cases hb : fn.body with
  | none => simp [hb] at hl
  | some c =>
    simp only [hb, Option.map_some, Option.some.injEq] at hl
    subst hl hrs
    refine calls_of_wp_defers hf hb ?_
    have hn' : args.length ≤ fn.ntmps := Nat.le_of_ble_eq_true hn
    refine wp_mono (QtD c _ [] _ _ _ (Qcv ⟨args⟩ fn.ntmps hn' []) h) ?_
    rintro e a w ⟨ds, ρ, hr, h⟩
    have hd := hr.2.2
    cases e with
    | normal => exact (hd ▸ Q48 hr.2.1 ds _ _ h : Leaves P fn a.tmps R a.defers .returning w)
    | ret => exact (hd ▸ Q48 hr.2.1 ds _ _ h : Leaves P fn a.tmps R a.defers .returning w)
    | panic ch => exact (hd ▸ Q48 hr.2.1 ds _ _ h : Leaves P fn a.tmps R a.defers (.panicking ch) w)
    | outgrown => exact h
    | exit => exact h
    | goto => exact h

/-! ### The deferred function: lowered code that recovers -/

def recM : FrameMode → Value × FrameMode
  | .panicking ({ v := v, recovered := false, goexit := false } :: older) => (v, .panicking ({ v := v, recovered := true } :: older))
  | u => (.nilIface, u)

def LD.wpR (P : Program) : LD → (FrameMode → QT) → FrameMode → Env → World → Prop
  | .pl c, Q, u, ρ, w => c.wp P (Q u) ρ w
  | .seq a b, Q, u, ρ, w => a.wpR P (fun u' => QN (b.wpR P Q u') (Q u')) u ρ w
  | .sp l1 (.rcv d) l2, Q, u, ρ, w => Q5 P l1 (QN (fun ρ w => Q5 P l2 (Q (recM u).2) (updo ρ d (recM u).1) w) (Q u)) ρ w
  | _, _, _, _, _ => False

def liftR (n : Nat) (c₀ : Frame) (cs : List Frame) (Q : FrameMode → QT) : Exit → Act → List Frame → World → Prop :=
  fun e a cs' w => ∃ u, cs' = { c₀ with mode := u } :: cs ∧ QpW n [] (Q u) e a w

theorem QrQ (c₀ : Frame) (cs : List Frame) (u : FrameMode) : (match recoverD ({ c₀ with mode := u } :: cs) with
    | some (v, cs') => (v, cs')
    | none => (.nilIface, { c₀ with mode := u } :: cs)) = ((recM u).1, { c₀ with mode := (recM u).2 } :: cs) := by
  unfold recoverD recM
  dsimp only
  split <;> rename_i h
  · split at h
    · rename_i hm
      simp only [Option.some.injEq, Prod.mk.injEq] at h
      obtain ⟨rfl, rfl⟩ := h
      rfl
    · cases h
  · split at h
    · cases h
    · rename_i hm
      split
      · rename_i hm'
        exact absurd rfl (hm _ _)
      · rfl

theorem Qgz {P : Program} {n : Nat} {ops : Array Oper} {Q : QT} {QS : Exit → Act → List Frame → World → Prop} {cs : List Frame} {rest : List Nat} (hn : ∀ a w, QpW n [] Q .normal a w → wpOpsS P ops QS rest a cs w) (hq : ∀ e a w, e ≠ .normal → QpW n [] Q e a w → QS e a cs w) : ∀ (l : List Nat) (ρ : Env) (a : Act) (w : World), Rel n ρ [] a →
    (∀ i ∈ l, ∃ o, ops[i]? = some o ∧ okG n ops o = true) →
    Q5 P (l.filterMap fun i => (ops[i]?).map (Q3b P ops)) Q ρ w → wpOpsS P ops QS (l ++ rest) a cs w := by
  intro l
  induction l with
  | nil => intro ρ a w hr _ h; exact hn a w ⟨ρ, hr, h⟩
  | cons i l ih =>
    intro ρ a w hr hok h
    obtain ⟨o, ho, hg⟩ := hok i (by simp)
    have hok' : ∀ i ∈ l, ∃ o, ops[i]? = some o ∧ okG n ops o = true := fun i hi => hok i (by simp [hi])
    simp only [List.filterMap_cons, ho, Option.map_some] at h
    have h' := QdD hr hg _ Q w h
    simp only [List.cons_append, wpOpsS, ho]
    split
    · rename_i hw
      rw [if_pos hw] at h'
      have h1 := QpO (ds := []) hr (QbL hg) (Qgx h')
      have h2 := QbE (Q' := fun e a' w' => QS e a' cs w') (K' := fun a' w' => wpOpsS P ops QS (l ++ rest) a' cs w') (fun a w ⟨ρ, hr, h⟩ => ih ρ a w hr hok' h) (fun ch a w h => hq _ a w (by simp) h) (fun ⟨a, w, h⟩ => ⟨a, w, hq _ a w (by simp) h⟩) _ h1
      split
      · rename_i w' hrun
        rw [hrun] at h2
        exact h2.elim
      · rename_i r hrun
        exact h2
    · rename_i hw
      rw [if_neg hw] at h'
      exact ih _ _ w (hr.put _ _ (QbL hg)) hok' h'

theorem QtB {P : Program} {n : Nat} {c₀ : Frame} {cs : List Frame} : ∀ (c : Code) (Q : FrameMode → QT) (u : FrameMode) (ρ : Env) (a : Act) (w : World), Rel n ρ [] a → (lowD P n c).wpR P Q u ρ w → c.wpS P (liftR n c₀ cs Q) a ({ c₀ with mode := u } :: cs) w := by
  have hpl : ∀ (c : Code) (Q : FrameMode → QT) (u : FrameMode) (ρ : Env) (a : Act) (w : World), Rel n ρ [] a → (Q3L P n c).wp P (Q u) ρ w → c.wpS P (liftR n c₀ cs Q) a ({ c₀ with mode := u } :: cs) w := fun c Q u ρ a w hr h =>
    wpS_of_wp (wp_mono (Q6A c _ ρ a w hr h) fun e a w h => ⟨u, rfl, h⟩)
  intro c
  induction c with
  | seq x y ihx ihy =>
    intro Q u ρ a w hr h
    rw [lowD] at h
    split at h
    · refine wpS_seq ?_
      intro b k hb hro
      obtain ⟨e, a', cs', w', ⟨u', rfl, ρ', hr', h'⟩, harr⟩ := ihx _ u ρ a w hr h b k hb hro
      refine ⟨e, a', _, w', ?_, harr⟩
      cases e with
      | normal => exact ihy _ u' ρ' a' w' hr' h'
      | _ => exact ⟨u', rfl, ρ', hr', h'⟩
    · exact hpl _ Q u ρ a w hr h
  | region id ops draw =>
    intro Q u ρ a w hr h
    cases draw with
    | true => exact hpl _ Q u ρ a w hr h
    | false =>
      rw [lowD] at h
      split at h
      · rename_i l1 o s l2 hs
        obtain ⟨hops, hsp⟩ := Q6m hs
        split at h
        · rename_i hall
          have hok : ∀ i o, ops[i]? = some o → okG n ops o = true := fun i o hi => List.all_eq_true.1 hall o (by rw [← Array.getElem?_toList] at hi; exact List.mem_of_getElem? hi)
          have hsz : ops.size = ops.toList.length := by simp
          have hgm : ∀ (l : List Nat), (l.filterMap fun i => (ops[i]?).map (Q3b P ops)) = l.filterMap fun i => (ops.toList[i]?).map (Q3b P ops) := fun l => by simp
          have hlen : ops.toList.length = l1.length + 1 + l2.length := by rw [hops]; simp; omega
          have hrange : ∀ (l : List Nat), (∀ i ∈ l, i < ops.size) → ∀ i ∈ l, ∃ o, ops[i]? = some o ∧ okG n ops o = true := fun l hl i hi => ⟨ops[i]'(hl i hi), by simp [hl i hi], hok i _ (by simp [hl i hi])⟩
          refine wpS_region ?_
          rw [hsz, QpP hops]
          cases s with
          | dfr d x => exact h.elim
          | rcv d =>
            refine Qgz (Q := QN (fun ρ w => Q5 P (l2.map (Q3b P ops)) (Q (recM u).2) (updo ρ d (recM u).1) w) (Q u)) ?_ ?_ (List.range l1.length) ρ a w hr
              (hrange _ fun i hi => by rw [hsz, hlen]; have := List.mem_range.1 hi; omega) (by rw [hgm, QsV _ hops]; exact h)
            · rintro a w ⟨ρ', hr', h'⟩
              have hoi : ops[l1.length]? = some o := by rw [← Array.getElem?_toList, hops]; simp
              have hg : o.guard = none ∧ ∃ ts, ∃ xs : Array Operand, o.op = .call ⟨.builtin .recover, xs, ts⟩ ∧ xs.size = 0 ∧ o.dst = d := by
                unfold spOf at hsp
                split at hsp
                · split at hsp <;> cases hsp
                · rename_i xs' ts' hg ho
                  split at hsp
                  · rename_i hx0
                    simp only [Option.some.injEq, LSp.rcv.injEq] at hsp
                    exact ⟨hg, ts', xs', ho, hx0, hsp⟩
                  · cases hsp
                · cases hsp
              obtain ⟨hgd, ts, xs, hop, hxs, hd⟩ := hg
              have hxs' : xs = #[] := Array.eq_empty_of_size_eq_zero hxs
              subst hxs'
              refine (?_ : wpOpsS P ops _ (l1.length :: _) a _ w)
              simp only [wpOpsS, hoi]
              rw [if_pos (by simp [Region.wanted, hgd])]
              have e1 : (execOp a.eval o).run P w = .ok .recover w := by
                simp [execOp, hop, resolve, invoke, builtin]
              rw [e1]
              have hdn := QbL (hok _ o hoi)
              rw [hd] at hdn
              have hr2 : Rel n (updo ρ' d (recM u).1) [] (a.put d (recM u).1) := hr'.put d _ hdn
              have hrec := QrQ c₀ cs u
              have key : wpOpsS P ops (liftR n c₀ cs Q) ((List.range l2.length).map (l1.length + 1 + ·)) (a.put o.dst (recM u).1) ({ c₀ with mode := (recM u).2 } :: cs) w := by
                rw [hd]
                have h2 := Qgz (Q := Q (recM u).2) (QS := liftR n c₀ cs Q) (cs := { c₀ with mode := (recM u).2 } :: cs) (rest := []) (fun a w h => ⟨_, rfl, h⟩) (fun e a w _ h => ⟨_, rfl, h⟩) ((List.range l2.length).map (l1.length + 1 + ·)) _ _ w hr2
                  (hrange _ fun i hi => by rw [hsz, hlen]; rw [List.mem_map] at hi; obtain ⟨j, hj, rfl⟩ := hi; have := List.mem_range.1 hj; omega) (by rw [hgm, Qus _ hops]; exact h')
                rwa [List.append_nil] at h2
              dsimp only
              split
              · rename_i v cs' hrd
                rw [hrd] at hrec
                simp only [Prod.mk.injEq] at hrec
                rw [hrec.1, hrec.2]; exact key
              · rename_i hrd
                rw [hrd] at hrec
                simp only [Prod.mk.injEq] at hrec
                have e3 : ({ c₀ with mode := u } :: cs : List Frame) = { c₀ with mode := (recM u).2 } :: cs := hrec.2
                rw [hrec.1, e3]; exact key
            · rintro e a w he ⟨ρ', hr', h'⟩
              refine ⟨u, rfl, ρ', hr', ?_⟩
              cases e <;> first | exact h' | exact absurd rfl he
        · exact h.elim
      · exact hpl _ Q u ρ a w hr h
  | _ => exact hpl _

def retR (P : Program) (rs : List ResultVar) (R : Ending → FrameMode → World → Prop) (u : FrameMode) : QT
  | .normal, ρ, w | .ret, ρ, w => Q1T P w ρ rs [] fun v => R (.returned v) u w
  | .panic chain, _, w => R (.panicked chain) u w
  | .outgrown, _, w => R .outgrown u w
  | _, _, _ => False

theorem QjK {P : Program} {f : FuncId} {fn : Func} {args : List Value} {u : FrameMode} {w : World} {R : Ending → FrameMode → World → Prop} {ld : LD} {rs : List ResultVar}
    (hf : P.funcs[f]? = some fn) (hl : QtC P fn = some ld) (hrs : fn.results.toList = rs) (hn : Nat.ble args.length fn.ntmps = true)
    (h : ld.wpR P (retR P rs R) u (Qg args) w) : CallsD P f ⟨args⟩ u w R := by
  unfold QtC at hl
  cases hb : fn.body with
  | none => simp [hb] at hl
  | some c =>
    simp only [hb, Option.map_some, Option.some.injEq] at hl
    subst hl hrs
    refine callsD_of_wpS hf hb ?_
    intro c₀ cs hu
    have hn' : args.length ≤ fn.ntmps := Nat.le_of_ble_eq_true hn
    have h1 := QtB (c₀ := c₀) (cs := cs) c _ u _ _ w (Qcv ⟨args⟩ fn.ntmps hn' []) h
    have hc : ({ c₀ with mode := u } : Frame) = c₀ := by subst hu; rfl
    rw [hc] at h1
    intro b k hb hro
    obtain ⟨e, a, cs', w', ⟨u', rfl, ρ, hr, h2⟩, harr⟩ := h1 b k hb hro
    refine ⟨e, a, _, w', ?_, harr⟩
    cases e with
    | normal => obtain ⟨v, h3, h4⟩ := Q37 hr.2.1 h2; exact ⟨hr.2.2, u', rfl, v, h3, h4⟩
    | ret => obtain ⟨v, h3, h4⟩ := Q37 hr.2.1 h2; exact ⟨hr.2.2, u', rfl, v, h3, h4⟩
    | panic ch => exact ⟨hr.2.2, u', rfl, h2⟩
    | outgrown => exact ⟨u', h2⟩
    | exit => exact h2
    | goto => exact h2

/-! ### Steps -/
section
variable {P : Program} {ρ : Env} {w : World} {u : FrameMode} {ds : List Deferred}
theorem d_pl {c : LC} {Q : List Deferred → QT} (h : c.wp P (Q ds) ρ w) : (LD.pl c).wpD P Q ds ρ w := h
theorem d_seq {a b : LD} {Q : List Deferred → QT} (h : a.wpD P (fun ds' => QN (b.wpD P Q ds') (Q ds')) ds ρ w) : (LD.seq a b).wpD P Q ds ρ w := h
theorem d_sp {l1 l2 : List GO} {d : Option Nat} {x : Operand} {Q : List Deferred → QT} (h : Q5 P l1 (QN (fun ρ w => ∃ f cap, ρ.ev x = .func (.func f) #[] cap ∧ Q5 P l2 (Q (⟨.fn (.func f) cap, #[]⟩ :: ds)) (updo ρ d undef) w) (Q ds)) ρ w) : (LD.sp l1 (.dfr d x) l2).wpD P Q ds ρ w := h
theorem r_pl {c : LC} {Q : FrameMode → QT} (h : c.wp P (Q u) ρ w) : (LD.pl c).wpR P Q u ρ w := h
theorem r_seq {a b : LD} {Q : FrameMode → QT} (h : a.wpR P (fun u' => QN (b.wpR P Q u') (Q u')) u ρ w) : (LD.seq a b).wpR P Q u ρ w := h
theorem r_sp {l1 l2 : List GO} {d : Option Nat} {Q : FrameMode → QT} (h : Q5 P l1 (QN (fun ρ w => Q5 P l2 (Q (recM u).2) (updo ρ d (recM u).1) w) (Q u)) ρ w) : (LD.sp l1 (.rcv d) l2).wpR P Q u ρ w := h
/-- A deferred function, called in a mode: it returns. -/
def Defs (P : Program) (f : FuncId) (args : List Value) (u : FrameMode) (w : World) (S : FrameMode → World → Prop) : Prop :=
  CallsD P f ⟨args⟩ u w fun e u' w' => (∃ v, e = .returned v) ∧ S u' w'
theorem Q3y {rs : List ResultVar} {R : Ending → World → Prop} {f : FuncId} {cap : List Value} {S : FrameMode → World → Prop} (hu : u ≠ .run) (hf : Q3A P f = true) (hc : Defs P f cap u w S)
    (h : ∀ u' w', S u' w' → Q4G P rs ρ R [] (settle u') w') : Q4G P rs ρ R [⟨.fn (.func f) ⟨cap⟩, #[]⟩] u w := by
  refine ⟨hu, f, ⟨cap⟩, rfl, hf, hc.mono ?_⟩
  rintro e u' w' ⟨⟨v, rfl⟩, hs⟩
  exact h u' w' hs
theorem Qgs {rs : List ResultVar} {R : Ending → World → Prop} (h : Q4G P rs ρ R ds .returning w) : retD P rs R ds .ret ρ w := h
theorem q_panD {rs : List ResultVar} {R : Ending → World → Prop} {ch : List PanicEntry} (h : Q4G P rs ρ R ds (.panicking ch) w) : retD P rs R ds (.panic ch) ρ w := h
theorem Q33 {rs : List ResultVar} {R : Ending → World → Prop} (h : retQ P rs R .ret ρ w) : Q4G P rs ρ R [] .returning w := h
theorem q_endR {rs : List ResultVar} {R : Ending → FrameMode → World → Prop} (h : retQ P rs (fun e w => R e u w) .normal ρ w) : retR P rs R u .normal ρ w := h
end
end Go.Lir
namespace Go.Lir
section
variable {P : Program} {l : List GO} {Q : QT} {ρ : Env} {w : World} {f : FuncId} {S T : Value → World → Prop}

theorem s_ends_1 {d : Nat} {u0 : Value} {x0 : Operand} (h0 : ρ.ev x0 = u0) (hc : Fins P f [u0] w S T) (hp : ∀ v w', T v w' → Q (.panic [{ v := v, recovered := false }]) ρ w') (h : ∀ v w', S v w' → Q5 P l Q (upd ρ d v) w') : Q5 P (⟨none, .call (some d) f [x0]⟩ :: l) Q ρ w := by
  subst h0; exact Q2k (by rfl) hc hp h
theorem s_ends_2 {d : Nat} {u0 u1 : Value} {x0 x1 : Operand} (h0 : ρ.ev x0 = u0) (h1 : ρ.ev x1 = u1) (hc : Fins P f [u0, u1] w S T) (hp : ∀ v w', T v w' → Q (.panic [{ v := v, recovered := false }]) ρ w') (h : ∀ v w', S v w' → Q5 P l Q (upd ρ d v) w') : Q5 P (⟨none, .call (some d) f [x0, x1]⟩ :: l) Q ρ w := by
  subst h0 h1; exact Q2k (by rfl) hc hp h
theorem QdQ (k : Nat) {Ty : TypeId} {ms : Array (String × TypeId)} {w0 : World} (ht : P.underlying Ty = some (.interface ms)) : (Op.equalIn (k + 1) Ty .nilIface .nilIface).run P w0 = .ok true w0 := by
  simp only [Op.equalIn, Sem.run_bind, Qe P Ty _ w0 ht, Result.andThen_ok]
  simp [Sem.run_pure]
theorem Qjt {Ty : TypeId} {ms : Array (String × TypeId)} {w0 : World} (ht : P.underlying Ty = some (.interface ms)) : (Op.equal Ty .nilIface .nilIface).run P w0 = .ok true w0 := QdQ 9999 ht
theorem QbH (k : Nat) {Ty U : TypeId} {v : Value} {ms : Array (String × TypeId)} {w0 : World} (ht : P.underlying Ty = some (.interface ms)) : (Op.equalIn (k + 1) Ty (.iface U v) .nilIface).run P w0 = .ok false w0 := by
  simp only [Op.equalIn, Sem.run_bind, Qe P Ty _ w0 ht, Result.andThen_ok]
  simp [Sem.run_pure]
theorem Qgp {Ty U : TypeId} {v : Value} {ms : Array (String × TypeId)} {w0 : World} (ht : P.underlying Ty = some (.interface ms)) : (Op.equal Ty (.iface U v) .nilIface).run P w0 = .ok false w0 := QbH 9999 ht
/-- e != nil -/
theorem s_inil_f {d : Nat} {Ty : TypeId} {x : Operand} {ms : Array (String × TypeId)} (ht : P.underlying Ty = some (.interface ms)) (hx : ρ.ev x = .nilIface) (h : Q5 P l Q (upd ρ d (.bool false)) w) : Q5 P (⟨none, .bin d .neq Ty x (.const .nilIface)⟩ :: l) Q ρ w :=
  ⟨_, fun w0 => by rw [hx]; simp [Env.ev, eqGuard, binOp, Qjt ht], h⟩
theorem s_inil_t {d : Nat} {Ty U : TypeId} {v : Value} {x : Operand} {ms : Array (String × TypeId)} (ht : P.underlying Ty = some (.interface ms)) (hx : ρ.ev x = .iface U v) (h : Q5 P l Q (upd ρ d (.bool true)) w) : Q5 P (⟨none, .bin d .neq Ty x (.const .nilIface)⟩ :: l) Q ρ w :=
  ⟨_, fun w0 => by rw [hx]; simp [Env.ev, eqGuard, binOp, Qgp ht], h⟩
/-- Three things to the front. -/
theorem St.pick3 {c : Cx} {L L1 L2 L3 : List Res} {r1 r2 r3 : Res} (h : St c w L) (p1 : Pick L r1 L1) (p2 : Pick L1 r2 L2) (p3 : Pick L2 r3 L3) : St c w (r1 :: r2 :: r3 :: L3) :=
  h.perm (p1.perm.trans (List.Perm.cons _ (p2.perm.trans (List.Perm.cons _ p3.perm))))
end
end Go.Lir
namespace Go.Lir
set_option linter.unusedVariables false
/-- What is left to be shown, apart from what is known. -/
structure Bx (K : Prop) : Prop where
  o : K
section
variable {K G : Prop}
theorem zn (k : K) (h : Bx K → G := by
  intro K9
  refine Q59 ?_
  (repeat (first | refine Q2z ?_ | refine QfQ ?_))
  exact K9.o) : G := h ⟨k⟩
theorem zcn (k : K) (h : Bx K → G := by
  intro K9
  refine s_cnil ?_
  (repeat (first | refine Q2z ?_ | refine QfQ ?_))
  exact K9.o) : G := h ⟨k⟩
theorem zsk (k : K) (h : Bx K → G := by
  intro K9
  refine s_skip ?_
  (repeat (first | refine Q2z ?_ | refine QfQ ?_))
  exact K9.o) : G := h ⟨k⟩
theorem zex (k : K) (h : Bx K → G := by
  intro K9
  refine s_exit ?_
  (repeat (first | refine s_exitQ ?_ | refine s_exitT ?_ | refine s_exitB rfl ?_ | refine Q2z ?_ | refine QfQ ?_))
  exact K9.o) : G := h ⟨k⟩
theorem zr (k : K) (h : Bx K → G := by
  intro K9
  refine s_ret ?_
  (repeat (first | refine s_retT ?_ | refine s_retB ?_))
  exact K9.o) : G := h ⟨k⟩
theorem zy {A : Prop} (k : G) (h : A := by
  repeat (first
    | exact fun _ h => (List.not_mem_nil h).elim
    | refine List.forall_mem_cons.2 ⟨by first | exact Qtb hS rfl (NthP.nth (by repeat constructor)) rfl | exact Qq1 hS rfl (NthP.nth (by repeat constructor)) rfl rfl | exact Qq2 hS (by assumption) rfl rfl | exact Qm2 hS (by assumption) rfl rfl rfl | exact QmE hS (by assumption) rfl rfl | exact QgA hS (by assumption) rfl rfl rfl | exact gq_skip rfl rfl | exact QbQ rfl (Qtb hS rfl (NthP.nth (by repeat constructor)) rfl) | exact QbQ rfl (Qq1 hS rfl (NthP.nth (by repeat constructor)) rfl rfl) | exact QbQ rfl (Qq2 hS (by assumption) rfl rfl) | exact QbQ rfl (Qm2 hS (by assumption) rfl rfl rfl) | exact QbQ rfl (QmE hS (by assumption) rfl rfl) | exact QbQ rfl (QgA hS (by assumption) rfl rfl rfl), ?_⟩)) : A ∧ G := ⟨h, k⟩
end
section
variable {P : Program} {l : List GO} {Q : QT} {ρ : Env} {w : World} {c : Cx} {L : List Res} {i : Nat} {T es : Nat} {v : Value} {css : List (List Value)}
theorem zt {K : KT} (h : K ρ w) : Q5 P [] (QN K Q) ρ w := Q59 (Q2z h)
theorem St.ns {L' : List Res} (h : St c w L) (e : L = L' := by (conv => lhs; simp only [List.set_cons_zero, List.set_cons_succ]); first | done | exact rfl) : St c w L' := e ▸ h
theorem zm {d : Nat} {x : Operand} {v : Value} (h : Q5 P l Q (upd ρ d v) w) (hx : ρ.ev x = v := by (conv => lhs; whnf); first | done | exact rfl) : Q5 P (⟨none, .mov d x⟩ :: l) Q ρ w := s_mov hx h
theorem zpt {d : Nat} {c x y : Operand} {v : Value} (h : Q5 P l Q (upd ρ d v) w) (hc : ρ.ev c = .bool true := by exact rfl) (hx : ρ.ev x = v := by (conv => lhs; whnf); first | done | exact rfl) : Q5 P (⟨none, .pick d c x y⟩ :: l) Q ρ w := s_pick_t hc hx h
theorem zpf {d : Nat} {c x y : Operand} {v : Value} (h : Q5 P l Q (upd ρ d v) w) (hc : ρ.ev c = .bool false := by exact rfl) (hx : ρ.ev y = v := by (conv => lhs; whnf); first | done | exact rfl) : Q5 P (⟨none, .pick d c x y⟩ :: l) Q ρ w := s_pick_f hc hx h
theorem zki {d : Nat} {T : TypeId} {x : Operand} {v : Value} (h : Q5 P l Q (upd ρ d (.iface T v)) w) (hx : ρ.ev x = v := by (conv => lhs; whnf); first | done | exact rfl) : Q5 P (⟨none, .mki d T x⟩ :: l) Q ρ w := s_mki hx h
theorem zl {d : Nat} {x : Operand} {b o : Nat} {cs : List Value} {u : Value} (hS : St c w L) (h : Q5 P l Q (upd ρ d u) w) (hx : ρ.ev x = .pointer (some ⟨b, o, none⟩) := by exact rfl) (hi : nth L i = some (blk b T cs) := by exact NthP.nth (by repeat constructor)) (hu : cs[o]? = some u := by exact rfl) : Q5 P (⟨none, .load1 d x⟩ :: l) Q ρ w := s_loadB hS hx hi hu h
theorem zlk {d : Nat} {x : Operand} {b o : Nat} {cs : List Value} {u : Value} (hS : St c w L) (h : Q5 P l Q (upd ρ d u) w) (ha : AtK c b o cs := by assumption) (hx : ρ.ev x = .pointer (some ⟨b, o, none⟩) := by exact rfl) (hu : cs[0]? = some u := by exact rfl) : Q5 P (⟨none, .load1 d x⟩ :: l) Q ρ w := s_loadK hS ha hx hu h
theorem zlj {d : Nat} {x : Operand} {b o j : Nat} {cs : List Value} {u : Value} (hS : St c w L) (h : Q5 P l Q (upd ρ d u) w) (ha : AtK c b o cs := by assumption) (hx : ρ.ev x = .pointer (some ⟨b, o + j, none⟩) := by exact rfl) (hu : cs[j]? = some u := by exact rfl) : Q5 P (⟨none, .load1 d x⟩ :: l) Q ρ w := s_loadKj hS ha hx hu h
theorem zv {d n : Nat} {x : Operand} {b o : Nat} {cs us : List Value} (hS : St c w L) (h : Q5 P l Q (upd ρ d (.agg ⟨us⟩)) w) (hx : ρ.ev x = .pointer (some ⟨b, o, none⟩) := by exact rfl) (hi : nth L i = some (blk b T cs) := by exact NthP.nth (by repeat constructor)) (hu : (cs.drop o).take n = us := by exact rfl) (hl : us.length = n := by exact rfl) : Q5 P (⟨none, .loadn d n x⟩ :: l) Q ρ w := s_loadnB hS hx hi hu hl h
theorem zvk {d n : Nat} {x : Operand} {b o : Nat} {cs : List Value} (hS : St c w L) (h : Q5 P l Q (upd ρ d (.agg ⟨cs⟩)) w) (ha : AtK c b o cs := by assumption) (hx : ρ.ev x = .pointer (some ⟨b, o, none⟩) := by exact rfl) (hl : cs.length = n := by exact rfl) : Q5 P (⟨none, .loadn d n x⟩ :: l) Q ρ w := s_loadnK hS ha hx hl h
theorem zLe {d n : Nat} {x : Operand} (hS : St c w L) (h : Q5 P l Q (upd ρ d (.int .i64 n)) w) (hx : ρ.ev x = v := by (conv => lhs; whnf); first | done | exact rfl) (hi : nth L i = some (sl T es v css) := by exact NthP.nth (by repeat constructor)) (hn : css.length = n := by first | exact List.length_map _ | rfl) : Q5 P (⟨none, .len d x⟩ :: l) Q ρ w := s_lenEn hS hx hi hn h
theorem zLk {d n : Nat} {x : Operand} (h : Q5 P l Q (upd ρ d (.int .i64 n)) w) (hx : ρ.ev x = v := by (conv => lhs; whnf); first | done | exact rfl) (hs : FzS c es v css := by assumption) (hn : css.length = n := by first | exact List.length_map _ | rfl) : Q5 P (⟨none, .len d x⟩ :: l) Q ρ w := Quz hx hs hn h
theorem zad {d : Nat} {T : TypeId} {x y : Operand} {a b : Int} (h : Q5 P l Q (upd ρ d (.int .i64 (a + b))) w) (hx : ρ.ev x = .int .i64 a := by exact rfl) (hy : ρ.ev y = .int .i64 b := by exact rfl) (h1 : -9223372036854775808 ≤ a + b := by omega) (h2 : a + b ≤ 9223372036854775807 := by omega) : Q5 P (⟨none, .bin d .add T x y⟩ :: l) Q ρ w := s_add hx hy h1 h2 h
theorem zsu {d : Nat} {T : TypeId} {x y : Operand} {a b : Int} (h : Q5 P l Q (upd ρ d (.int .i64 (a - b))) w) (hx : ρ.ev x = .int .i64 a := by exact rfl) (hy : ρ.ev y = .int .i64 b := by exact rfl) (h1 : -9223372036854775808 ≤ a - b := by omega) (h2 : a - b ≤ 9223372036854775807 := by omega) : Q5 P (⟨none, .bin d .sub T x y⟩ :: l) Q ρ w := s_subi hx hy h1 h2 h
theorem zmu {d : Nat} {T : TypeId} {x y : Operand} {a b : Int} (h : Q5 P l Q (upd ρ d (.int .i64 (a * b))) w) (hx : ρ.ev x = .int .i64 a := by exact rfl) (hy : ρ.ev y = .int .i64 b := by exact rfl) (h1 : -9223372036854775808 ≤ a * b := by omega) (h2 : a * b ≤ 9223372036854775807 := by omega) : Q5 P (⟨none, .bin d .mul T x y⟩ :: l) Q ρ w := s_mul hx hy h1 h2 h
theorem Q1Q {d : Nat} {T : TypeId} {x y : Operand} {k : IntKind} {a b : Int} (h : Q5 P l Q (upd ρ d (.bool true)) w) (hx : ρ.ev x = .int k a := by exact rfl) (hy : ρ.ev y = .int k b := by exact rfl) (hp : a < b := by omega) : Q5 P (⟨none, .bin d .lss T x y⟩ :: l) Q ρ w := s_lss_t hx hy hp h
theorem Q1R {d : Nat} {T : TypeId} {x y : Operand} {k : IntKind} {a b : Int} (h : Q5 P l Q (upd ρ d (.bool false)) w) (hx : ρ.ev x = .int k a := by exact rfl) (hy : ρ.ev y = .int k b := by exact rfl) (hp : ¬ (a < b) := by omega) : Q5 P (⟨none, .bin d .lss T x y⟩ :: l) Q ρ w := s_lss_f hx hy hp h
theorem Qy {d : Nat} {T : TypeId} {x y : Operand} {k : IntKind} {a b : Int} (h : Q5 P l Q (upd ρ d (.bool true)) w) (hx : ρ.ev x = .int k a := by exact rfl) (hy : ρ.ev y = .int k b := by exact rfl) (hp : a = b := by omega) : Q5 P (⟨none, .bin d .eql T x y⟩ :: l) Q ρ w := s_eql_t hx hy hp h
theorem QC {d : Nat} {T : TypeId} {x y : Operand} {k : IntKind} {a b : Int} (h : Q5 P l Q (upd ρ d (.bool false)) w) (hx : ρ.ev x = .int k a := by exact rfl) (hy : ρ.ev y = .int k b := by exact rfl) (hp : ¬ (a = b) := by omega) : Q5 P (⟨none, .bin d .eql T x y⟩ :: l) Q ρ w := s_eql_f hx hy hp h
theorem Q1c {d : Nat} {T : TypeId} {x y : Operand} {k : IntKind} {a b : Int} (h : Q5 P l Q (upd ρ d (.bool true)) w) (hx : ρ.ev x = .int k a := by exact rfl) (hy : ρ.ev y = .int k b := by exact rfl) (hp : a ≠ b := by omega) : Q5 P (⟨none, .bin d .neq T x y⟩ :: l) Q ρ w := s_neq_t hx hy hp h
theorem Q1d {d : Nat} {T : TypeId} {x y : Operand} {k : IntKind} {a b : Int} (h : Q5 P l Q (upd ρ d (.bool false)) w) (hx : ρ.ev x = .int k a := by exact rfl) (hy : ρ.ev y = .int k b := by exact rfl) (hp : ¬ (a ≠ b) := by omega) : Q5 P (⟨none, .bin d .neq T x y⟩ :: l) Q ρ w := s_neq_f hx hy hp h
theorem QK {d : Nat} {T : TypeId} {x y : Operand} {k : IntKind} {a b : Int} (h : Q5 P l Q (upd ρ d (.bool true)) w) (hx : ρ.ev x = .int k a := by exact rfl) (hy : ρ.ev y = .int k b := by exact rfl) (hp : b < a := by omega) : Q5 P (⟨none, .bin d .gtr T x y⟩ :: l) Q ρ w := s_gtr_t hx hy hp h
theorem QM {d : Nat} {T : TypeId} {x y : Operand} {k : IntKind} {a b : Int} (h : Q5 P l Q (upd ρ d (.bool false)) w) (hx : ρ.ev x = .int k a := by exact rfl) (hy : ρ.ev y = .int k b := by exact rfl) (hp : ¬ (b < a) := by omega) : Q5 P (⟨none, .bin d .gtr T x y⟩ :: l) Q ρ w := s_gtr_f hx hy hp h
theorem QdO {d : Nat} {T : TypeId} {x y : Operand} {k : IntKind} {a b : Int} (h : Q5 P l Q (upd ρ d (.bool true)) w) (hx : ρ.ev x = .int k a := by exact rfl) (hy : ρ.ev y = .int k b := by exact rfl) (hp : b ≤ a := by omega) : Q5 P (⟨none, .bin d .geq T x y⟩ :: l) Q ρ w := s_geq_t hx hy hp h
theorem QdP {d : Nat} {T : TypeId} {x y : Operand} {k : IntKind} {a b : Int} (h : Q5 P l Q (upd ρ d (.bool false)) w) (hx : ρ.ev x = .int k a := by exact rfl) (hy : ρ.ev y = .int k b := by exact rfl) (hp : ¬ (b ≤ a) := by omega) : Q5 P (⟨none, .bin d .geq T x y⟩ :: l) Q ρ w := s_geq_f hx hy hp h
theorem zleqt {d : Nat} {T : TypeId} {x y : Operand} {k : IntKind} {a b : Int} (h : Q5 P l Q (upd ρ d (.bool true)) w) (hx : ρ.ev x = .int k a := by exact rfl) (hy : ρ.ev y = .int k b := by exact rfl) (hp : a ≤ b := by omega) : Q5 P (⟨none, .bin d .leq T x y⟩ :: l) Q ρ w := s_leq_t hx hy hp h
theorem zleqf {d : Nat} {T : TypeId} {x y : Operand} {k : IntKind} {a b : Int} (h : Q5 P l Q (upd ρ d (.bool false)) w) (hx : ρ.ev x = .int k a := by exact rfl) (hy : ρ.ev y = .int k b := by exact rfl) (hp : ¬ (a ≤ b) := by omega) : Q5 P (⟨none, .bin d .leq T x y⟩ :: l) Q ρ w := s_leq_f hx hy hp h
theorem zst {x y : Operand} {b o : Nat} {cs : List Value} {u : Value} (hS : St c w L) (h : ∀ w', St c w' (L.set i (blk b T (cs.set o u))) → Q5 P l Q ρ w') (hx : ρ.ev x = .pointer (some ⟨b, o, none⟩) := by exact rfl) (hy : ρ.ev y = u := by (conv => lhs; whnf); first | done | exact rfl) (hi : nth L i = some (blk b T cs) := by exact NthP.nth (by repeat constructor)) (ho : o < cs.length := by simp) (h1 : oneC u = true := by first | rfl | assumption | exact hS.oneC (NthP.nth (by repeat constructor)) | exact SlR.oneC (by assumption)) : Q5 P (⟨none, .store1 x y⟩ :: l) Q ρ w := s_storeB hS hx hy hi ho h1 h
theorem zb {d : Nat} {x : Operand} {cs : List Value} (hS : St c w L) (h : ∀ b w', St c w' (blk b T cs :: L) → Q5 P l Q (upd ρ d (.pointer (some ⟨b, 0, none⟩))) w') (hx : ρ.ev x = v := by (conv => lhs; whnf); first | done | exact rfl) (hc : v.cells = ⟨cs⟩ := by rfl) : Q5 P (⟨none, .box d T x⟩ :: l) Q ρ w := s_boxB hS hx hc h
theorem zsn {n i b T : Nat} {x y : Operand} {cs us : List Value} (hS : St c w L) (h : ∀ w', St c w' (L.set i (blk b T us)) → Q5 P l Q ρ w') (hx : ρ.ev x = .pointer (some ⟨b, 0, none⟩) := by exact rfl) (hy : ρ.ev y = .agg ⟨us⟩ := by exact rfl) (hn : us.length = n := by rfl) (hi : nth L i = some (blk b T cs) := by exact NthP.nth (by repeat constructor)) (hc : cs.length = n := by rfl) (h1 : ∀ u ∈ us, oneC u = true := by first | (simp [oneC]; done) | assumption | exact Rep.one _ (by assumption) | (simp only [List.take_succ_cons, List.take_zero, List.drop_zero, List.mem_cons, List.not_mem_nil, or_false, forall_eq_or_imp, forall_eq]; ((try refine And.intro ?_ ?_) <;> try refine And.intro ?_ ?_) <;> first | rfl | assumption)) : Q5 P (⟨none, .storen n x y⟩ :: l) Q ρ w := Quu hS hx hy hn hi hc h1 h
theorem zsm {n : Nat} {x y : Operand} {b o : Nat} {cs us cs' : List Value} (hS : St c w L) (h : ∀ w', St c w' (L.set i (blk b T cs')) → Q5 P l Q ρ w') (hx : ρ.ev x = .pointer (some ⟨b, o, none⟩) := by exact rfl) (hy : ρ.ev y = .agg ⟨us⟩ := by exact rfl) (hn : us.length = n := by rfl) (hi : nth L i = some (blk b T cs) := by exact NthP.nth (by repeat constructor)) (ho : o + n ≤ cs.length := by simp) (h1 : ∀ u ∈ us, oneC u = true := by first | (simp [oneC]; done) | assumption | exact Rep.one _ (by assumption) | (simp only [List.take_succ_cons, List.take_zero, List.drop_zero, List.mem_cons, List.not_mem_nil, or_false, forall_eq_or_imp, forall_eq]; ((try refine And.intro ?_ ?_) <;> try refine And.intro ?_ ?_) <;> first | rfl | assumption)) (hc : cs.take o ++ (us ++ cs.drop (o + n)) = cs' := by (conv => lhs; simp only [List.take_succ_cons, List.take_zero, List.drop_succ_cons, List.drop_zero, List.cons_append, List.nil_append]); first | done | exact rfl) : Q5 P (⟨none, .storen n x y⟩ :: l) Q ρ w := QpC hS hx hy hn hi ho h1 hc h
theorem zf {t : Nat} {R : Ending → World → Prop} {v : Value} (h : R (.returned v) w) (hv : ρ t = v := by (conv => lhs; whnf); first | done | exact rfl) : retQ P [.tmp t] R .ret ρ w := q_ret1 hv h
theorem zb0 {d : Nat} {z : List Value} (cs : List Value) (h : Q5 P l Q (upd ρ d (.agg ⟨cs⟩)) w) (hf : Q3i z [] = some cs := by rfl) : Q5 P (⟨none, .build d z []⟩ :: l) Q ρ w := s_build0  hf h
theorem zb1 {d : Nat} {z : List Value} {o0 n0 : Nat} {x0 : Operand} {v0 : Value} (cs : List Value) (h : Q5 P l Q (upd ρ d (.agg ⟨cs⟩)) w) (h0 : ρ.ev x0 = v0 := by (conv => lhs; whnf); first | done | exact rfl) (hf : Q3i z [(o0, n0, v0)] = some cs := by rfl) : Q5 P (⟨none, .build d z [(o0, n0, x0)]⟩ :: l) Q ρ w := s_build1 h0 hf h
theorem zB1 {d : Nat} {T : TypeId} {n : Nat} {z : List Value} {o0 n0 : Nat} {x0 : Operand} {v0 : Value} (hS : St c w L) (cs : List Value) (h : ∀ b w', St c w' (blk b T cs :: L) → Q5 P l Q (upd ρ d (.slice (some ⟨b, 0, none⟩) n n)) w') (h0 : ρ.ev x0 = v0 := by (conv => lhs; whnf); first | done | exact rfl) (hf : Q3i z [(o0, n0, v0)] = some cs := by rfl) : Q5 P (⟨none, .buildS d T n z [(o0, n0, x0)]⟩ :: l) Q ρ w := Qgo h0 hf fun b w' hb hf1 _ hk => h b w' (hS.laid hb hf1 hk)
theorem zb2 {d : Nat} {z : List Value} {o0 n0 : Nat} {x0 : Operand} {v0 : Value} {o1 n1 : Nat} {x1 : Operand} {v1 : Value} (cs : List Value) (h : Q5 P l Q (upd ρ d (.agg ⟨cs⟩)) w) (h0 : ρ.ev x0 = v0 := by (conv => lhs; whnf); first | done | exact rfl) (h1 : ρ.ev x1 = v1 := by (conv => lhs; whnf); first | done | exact rfl) (hf : Q3i z [(o0, n0, v0), (o1, n1, v1)] = some cs := by rfl) : Q5 P (⟨none, .build d z [(o0, n0, x0), (o1, n1, x1)]⟩ :: l) Q ρ w := QsX h0 h1 hf h
theorem zb3 {d : Nat} {z : List Value} {o0 n0 : Nat} {x0 : Operand} {v0 : Value} {o1 n1 : Nat} {x1 : Operand} {v1 : Value} {o2 n2 : Nat} {x2 : Operand} {v2 : Value} (cs : List Value) (h : Q5 P l Q (upd ρ d (.agg ⟨cs⟩)) w) (h0 : ρ.ev x0 = v0 := by (conv => lhs; whnf); first | done | exact rfl) (h1 : ρ.ev x1 = v1 := by (conv => lhs; whnf); first | done | exact rfl) (h2 : ρ.ev x2 = v2 := by (conv => lhs; whnf); first | done | exact rfl) (hf : Q3i z [(o0, n0, v0), (o1, n1, v1), (o2, n2, v2)] = some cs := by rfl) : Q5 P (⟨none, .build d z [(o0, n0, x0), (o1, n1, x1), (o2, n2, x2)]⟩ :: l) Q ρ w := s_build3 h0 h1 h2 hf h
theorem zB3 {d : Nat} {T : TypeId} {n : Nat} {z : List Value} {o0 n0 : Nat} {x0 : Operand} {v0 : Value} {o1 n1 : Nat} {x1 : Operand} {v1 : Value} {o2 n2 : Nat} {x2 : Operand} {v2 : Value} (hS : St c w L) (cs : List Value) (h : ∀ b w', St c w' (blk b T cs :: L) → Q5 P l Q (upd ρ d (.slice (some ⟨b, 0, none⟩) n n)) w') (h0 : ρ.ev x0 = v0 := by (conv => lhs; whnf); first | done | exact rfl) (h1 : ρ.ev x1 = v1 := by (conv => lhs; whnf); first | done | exact rfl) (h2 : ρ.ev x2 = v2 := by (conv => lhs; whnf); first | done | exact rfl) (hf : Q3i z [(o0, n0, v0), (o1, n1, v1), (o2, n2, v2)] = some cs := by rfl) : Q5 P (⟨none, .buildS d T n z [(o0, n0, x0), (o1, n1, x1), (o2, n2, x2)]⟩ :: l) Q ρ w := QuC h0 h1 h2 hf fun b w' hb hf1 _ hk => h b w' (hS.laid hb hf1 hk)
theorem zB4 {d : Nat} {T : TypeId} {n : Nat} {z : List Value} {o0 n0 : Nat} {x0 : Operand} {v0 : Value} {o1 n1 : Nat} {x1 : Operand} {v1 : Value} {o2 n2 : Nat} {x2 : Operand} {v2 : Value} {o3 n3 : Nat} {x3 : Operand} {v3 : Value} (hS : St c w L) (cs : List Value) (h : ∀ b w', St c w' (blk b T cs :: L) → Q5 P l Q (upd ρ d (.slice (some ⟨b, 0, none⟩) n n)) w') (h0 : ρ.ev x0 = v0 := by (conv => lhs; whnf); first | done | exact rfl) (h1 : ρ.ev x1 = v1 := by (conv => lhs; whnf); first | done | exact rfl) (h2 : ρ.ev x2 = v2 := by (conv => lhs; whnf); first | done | exact rfl) (h3 : ρ.ev x3 = v3 := by (conv => lhs; whnf); first | done | exact rfl) (hf : Q3i z [(o0, n0, v0), (o1, n1, v1), (o2, n2, v2), (o3, n3, v3)] = some cs := by rfl) : Q5 P (⟨none, .buildS d T n z [(o0, n0, x0), (o1, n1, x1), (o2, n2, x2), (o3, n3, x3)]⟩ :: l) Q ρ w := QuB h0 h1 h2 h3 hf fun b w' hb hf1 _ hk => h b w' (hS.laid hb hf1 hk)
theorem zb5 {d : Nat} {z : List Value} {o0 n0 : Nat} {x0 : Operand} {v0 : Value} {o1 n1 : Nat} {x1 : Operand} {v1 : Value} {o2 n2 : Nat} {x2 : Operand} {v2 : Value} {o3 n3 : Nat} {x3 : Operand} {v3 : Value} {o4 n4 : Nat} {x4 : Operand} {v4 : Value} (cs : List Value) (h : Q5 P l Q (upd ρ d (.agg ⟨cs⟩)) w) (h0 : ρ.ev x0 = v0 := by (conv => lhs; whnf); first | done | exact rfl) (h1 : ρ.ev x1 = v1 := by (conv => lhs; whnf); first | done | exact rfl) (h2 : ρ.ev x2 = v2 := by (conv => lhs; whnf); first | done | exact rfl) (h3 : ρ.ev x3 = v3 := by (conv => lhs; whnf); first | done | exact rfl) (h4 : ρ.ev x4 = v4 := by (conv => lhs; whnf); first | done | exact rfl) (hf : Q3i z [(o0, n0, v0), (o1, n1, v1), (o2, n2, v2), (o3, n3, v3), (o4, n4, v4)] = some cs := by rfl) : Q5 P (⟨none, .build d z [(o0, n0, x0), (o1, n1, x1), (o2, n2, x2), (o3, n3, x3), (o4, n4, x4)]⟩ :: l) Q ρ w := s_build5 h0 h1 h2 h3 h4 hf h
theorem zB9 {d : Nat} {T : TypeId} {n : Nat} {z : List Value} {o0 n0 : Nat} {x0 : Operand} {v0 : Value} {o1 n1 : Nat} {x1 : Operand} {v1 : Value} {o2 n2 : Nat} {x2 : Operand} {v2 : Value} {o3 n3 : Nat} {x3 : Operand} {v3 : Value} {o4 n4 : Nat} {x4 : Operand} {v4 : Value} {o5 n5 : Nat} {x5 : Operand} {v5 : Value} {o6 n6 : Nat} {x6 : Operand} {v6 : Value} {o7 n7 : Nat} {x7 : Operand} {v7 : Value} {o8 n8 : Nat} {x8 : Operand} {v8 : Value} (hS : St c w L) (cs : List Value) (h : ∀ b w', St c w' (blk b T cs :: L) → Q5 P l Q (upd ρ d (.slice (some ⟨b, 0, none⟩) n n)) w') (h0 : ρ.ev x0 = v0 := by (conv => lhs; whnf); first | done | exact rfl) (h1 : ρ.ev x1 = v1 := by (conv => lhs; whnf); first | done | exact rfl) (h2 : ρ.ev x2 = v2 := by (conv => lhs; whnf); first | done | exact rfl) (h3 : ρ.ev x3 = v3 := by (conv => lhs; whnf); first | done | exact rfl) (h4 : ρ.ev x4 = v4 := by (conv => lhs; whnf); first | done | exact rfl) (h5 : ρ.ev x5 = v5 := by (conv => lhs; whnf); first | done | exact rfl) (h6 : ρ.ev x6 = v6 := by (conv => lhs; whnf); first | done | exact rfl) (h7 : ρ.ev x7 = v7 := by (conv => lhs; whnf); first | done | exact rfl) (h8 : ρ.ev x8 = v8 := by (conv => lhs; whnf); first | done | exact rfl) (hf : Q3i z [(o0, n0, v0), (o1, n1, v1), (o2, n2, v2), (o3, n3, v3), (o4, n4, v4), (o5, n5, v5), (o6, n6, v6), (o7, n7, v7), (o8, n8, v8)] = some cs := by rfl) : Q5 P (⟨none, .buildS d T n z [(o0, n0, x0), (o1, n1, x1), (o2, n2, x2), (o3, n3, x3), (o4, n4, x4), (o5, n5, x5), (o6, n6, x6), (o7, n7, x7), (o8, n8, x8)]⟩ :: l) Q ρ w := QuA h0 h1 h2 h3 h4 h5 h6 h7 h8 hf fun b w' hb hf1 _ hk => h b w' (hS.laid hb hf1 hk)
theorem zD {gs : List GO} {es : List (List Nat)} (C : List CI) (h : Q5 P (C.map fun c => gat gs c.1) Q ρ w.drew) (hok : QgH gs es C = true := by kernel_rfl) (hpl : (C.all fun c => match c.2 with | some (some _) => false | _ => true) = true := by kernel_rfl) : (LC.draw gs es).wp P Q ρ w := s_draw C hok hpl h
theorem zC {gs : List GO} {es : List (List Nat)} (C : List CI) (h : Q2a P gs C Q ρ w.drew) (hok : QgH gs es C = true := by kernel_rfl) : (LC.draw gs es).wp P Q ρ w := s_canon C hok h
theorem zR0 {d : Nat} {f : FuncId} {S : Value → World → Prop} (c : Rets P f [] w S) (h : ∀ v w', S v w' → Q5 P l Q (upd ρ d v) w') : Q5 P (⟨none, .call (some d) f []⟩ :: l) Q ρ w := s_rets_0  c h
theorem zR1 {d : Nat} {f : FuncId} {x0 : Operand} {u0 : Value} {S : Value → World → Prop} (h0 : ρ.ev x0 = u0 := by (conv => lhs; whnf); first | done | exact rfl) (c : Rets P f [u0] w S) (h : ∀ v w', S v w' → Q5 P l Q (upd ρ d v) w') : Q5 P (⟨none, .call (some d) f [x0]⟩ :: l) Q ρ w := s_rets_1 h0 c h
theorem zE1 {d : Nat} {f : FuncId} {x0 : Operand} {u0 : Value} {S T : Value → World → Prop} (h0 : ρ.ev x0 = u0 := by (conv => lhs; whnf); first | done | exact rfl) (c : Fins P f [u0] w S T) (p : ∀ v w', T v w' → Q (.panic [{ v := v, recovered := false }]) ρ w') (h : ∀ v w', S v w' → Q5 P l Q (upd ρ d v) w') : Q5 P (⟨none, .call (some d) f [x0]⟩ :: l) Q ρ w := s_ends_1 h0 c p h
theorem zR2 {d : Nat} {f : FuncId} {x0 x1 : Operand} {u0 u1 : Value} {S : Value → World → Prop} (h0 : ρ.ev x0 = u0 := by (conv => lhs; whnf); first | done | exact rfl) (h1 : ρ.ev x1 = u1 := by (conv => lhs; whnf); first | done | exact rfl) (c : Rets P f [u0, u1] w S) (h : ∀ v w', S v w' → Q5 P l Q (upd ρ d v) w') : Q5 P (⟨none, .call (some d) f [x0, x1]⟩ :: l) Q ρ w := s_rets_2 h0 h1 c h
theorem zE2 {d : Nat} {f : FuncId} {x0 x1 : Operand} {u0 u1 : Value} {S T : Value → World → Prop} (h0 : ρ.ev x0 = u0 := by (conv => lhs; whnf); first | done | exact rfl) (h1 : ρ.ev x1 = u1 := by (conv => lhs; whnf); first | done | exact rfl) (c : Fins P f [u0, u1] w S T) (p : ∀ v w', T v w' → Q (.panic [{ v := v, recovered := false }]) ρ w') (h : ∀ v w', S v w' → Q5 P l Q (upd ρ d v) w') : Q5 P (⟨none, .call (some d) f [x0, x1]⟩ :: l) Q ρ w := s_ends_2 h0 h1 c p h
theorem zR3 {d : Nat} {f : FuncId} {x0 x1 x2 : Operand} {u0 u1 u2 : Value} {S : Value → World → Prop} (h0 : ρ.ev x0 = u0 := by (conv => lhs; whnf); first | done | exact rfl) (h1 : ρ.ev x1 = u1 := by (conv => lhs; whnf); first | done | exact rfl) (h2 : ρ.ev x2 = u2 := by (conv => lhs; whnf); first | done | exact rfl) (c : Rets P f [u0, u1, u2] w S) (h : ∀ v w', S v w' → Q5 P l Q (upd ρ d v) w') : Q5 P (⟨none, .call (some d) f [x0, x1, x2]⟩ :: l) Q ρ w := s_rets_3 h0 h1 h2 c h
theorem zR4 {d : Nat} {f : FuncId} {x0 x1 x2 x3 : Operand} {u0 u1 u2 u3 : Value} {S : Value → World → Prop} (h0 : ρ.ev x0 = u0 := by (conv => lhs; whnf); first | done | exact rfl) (h1 : ρ.ev x1 = u1 := by (conv => lhs; whnf); first | done | exact rfl) (h2 : ρ.ev x2 = u2 := by (conv => lhs; whnf); first | done | exact rfl) (h3 : ρ.ev x3 = u3 := by (conv => lhs; whnf); first | done | exact rfl) (c : Rets P f [u0, u1, u2, u3] w S) (h : ∀ v w', S v w' → Q5 P l Q (upd ρ d v) w') : Q5 P (⟨none, .call (some d) f [x0, x1, x2, x3]⟩ :: l) Q ρ w := s_rets_4 h0 h1 h2 h3 c h
variable {α : Type} {r : Rep α} {xs : List α}
theorem zL {d : Nat} {x : Operand} (h : Q5 P l Q (upd ρ d (.int .i64 xs.length)) w) (hx : ρ.ev x = v := by (conv => lhs; whnf); first | done | exact rfl) (hK : r.sl c v xs := by assumption) : Q5 P (⟨none, .len d x⟩ :: l) Q ρ w := s_lenL hx hK h
theorem zi {d m : Nat} {x y : Operand} {k : IntKind} (h : ∀ b o cs a, AtK c b o cs → xs[m]? = some a → r.at c cs a → Q5 P l Q (upd ρ d (.pointer (some ⟨b, o, none⟩))) w) (hx : ρ.ev x = v := by (conv => lhs; whnf); first | done | exact rfl) (hy : ρ.ev y = .int k (m : Int) := by exact rfl) (hK : r.sl c v xs := by assumption) (hes : r.es = es := by exact rfl) (hn : m < xs.length := by first | omega | (simp; omega)) : Q5 P (⟨none, .idx d es x y⟩ :: l) Q ρ w := Q44 hx hy hK hes hn h
theorem za {T T' d Ts Ts2 Ty nb i k b : Nat} {z : List Value} {x y : Operand} {ds : List Value} {css : List (List Value)} {a : α} (hel : Q3M P Ts = some (T, es, nb, z)) (hts : ∃ e2, P.underlying Ts2 = some (.slice e2)) (hS : St c w L) (h : ∀ v' w' css', r.ls c css' (xs ++ [a]) → oneC v' = true → St c w' (L.set i (Go.Lir.sl T es v' css')) → Q5 P l Q (upd ρ d v') w') (hx : ρ.ev x = v := by (conv => lhs; whnf); first | done | exact rfl) (hy : ρ.ev y = .slice (some ⟨b, 0, none⟩) 1 1 := by (conv => lhs; whnf); first | done | exact rfl) (hi : nth L i = some (Go.Lir.sl T es v css) := by exact NthP.nth (by repeat constructor)) (hk : nth L k = some (blk b T' ds) := by exact NthP.nth (by repeat constructor)) (hls : r.ls c css xs := by assumption) (ha : r.at c ds a := by first | assumption | exact rfl) (hes : r.es = es := by exact rfl) (hb : (xs.length + 1) * nb ≤ 140737488355328 := by first | omega | (simp only [List.length_take]; omega) | (simp; omega)) : Q5 P (⟨none, .raw ⟨some d, .call ⟨.builtin .append, #[x, y], #[Ts, Ts2]⟩, Ty, "", #[], none⟩⟩ :: l) Q ρ w := s_appR1 hel hts hS hx hy hi hk hls ha hes hb h
theorem zak {T d Ts Ts2 Ty nb i : Nat} {z : List Value} {x y : Operand} {v2 : Value} {css : List (List Value)} {ys : List α} (hel : Q3M P Ts = some (T, es, nb, z)) (hts : ∃ e2, P.underlying Ts2 = some (.slice e2)) (hS : St c w L) (h : ∀ v' w' css', r.ls c css' (xs ++ ys) → oneC v' = true → St c w' (L.set i (Go.Lir.sl T es v' css')) → Q5 P l Q (upd ρ d v') w') (hx : ρ.ev x = v := by (conv => lhs; whnf); first | done | exact rfl) (hy : ρ.ev y = v2 := by (conv => lhs; whnf); first | done | exact rfl) (hi : nth L i = some (Go.Lir.sl T es v css) := by exact NthP.nth (by repeat constructor)) (hls : r.ls c css xs := by assumption) (hK : r.sl c v2 ys := by assumption) (hes : r.es = es := by exact rfl) (hb : (xs.length + ys.length) * nb ≤ 140737488355328 := by first | omega | (simp only [List.length_take]; omega) | (simp; omega)) : Q5 P (⟨none, .raw ⟨some d, .call ⟨.builtin .append, #[x, y], #[Ts, Ts2]⟩, Ty, "", #[], none⟩⟩ :: l) Q ρ w := s_appRK hel hts hS hx hy hi hls hK hes hb h
def evs (ρ : Env) (ts : List Nat) : List (Nat × Value) := ts.map fun t => (t, ρ t)
theorem Qvi (ρ : Env) : evs ρ [] = [] := rfl
theorem Qvj {t : Nat} {ts : List Nat} {u : Value} {A : List (Nat × Value)} (h : ρ t = u) (h2 : evs ρ ts = A) : evs ρ (t :: ts) = (t, u) :: A := by subst h h2; rfl
theorem zh {A : List (Nat × Value)} (h : Has ρ A := by repeat' (first | exact trivial | refine And.intro rfl ?_)) : Has ρ A := h
theorem env2 {A B : List (Nat × Value)} (h : Has ρ A) (h2 : Has ρ B) : ∃ ρ', ρ = updl (updl ρ' B) A := ⟨ρ, by rw [Qpw h2, Qpw h]⟩
theorem zo {a : LC} (ts : List Nat) {A : List (Nat × Value)} (I : List (Nat × Value) → Env → World → Prop) (μ : Env → World → Nat) (h0 : I A ρ w) (h : ∀ ρ w, I A ρ w → a.wp P (QN (fun ρ' w' => I A ρ' w' ∧ μ ρ' w' < μ ρ w) Q) ρ w) (hA : evs ρ ts = A := by (repeat (apply Qvj; · ((conv => lhs; whnf); first | done | exact rfl))); exact Qvi _) : (LC.loop a).wp P Q ρ w := s_loop (I A) μ h0 h
theorem zM {a b : LC} (ts : List Nat) {A : List (Nat × Value)} (I : List (Nat × Value) → Env → World → Prop) (ha : a.wp P (QN (I A) Q) ρ w) (hb : ∀ ρ w, I A ρ w → b.wp P Q ρ w) (hA : evs ρ ts = A := by (repeat (apply Qvj; · ((conv => lhs; whnf); first | done | exact rfl))); exact Qvi _) : (LC.seq a b).wp P Q ρ w := s_mid (I A) ha hb
theorem zoL {a : LC} (hS : St c w L) (ts : List Nat) {A : List (Nat × Value)} (I : List (Nat × Value) → List Res → Env → World → Prop) (μ : Env → World → Nat) (h0 : I A L ρ w) (h : ∀ ρ w, I A L ρ w → a.wp P (QN (fun ρ' w' => I A L ρ' w' ∧ μ ρ' w' < μ ρ w) Q) ρ w) (hA : evs ρ ts = A := by (repeat (apply Qvj; · ((conv => lhs; whnf); first | done | exact rfl))); exact Qvi _) : (LC.loop a).wp P Q ρ w := s_loop (I A L) μ h0 h
theorem zML {a b : LC} (hS : St c w L) (ts : List Nat) {A : List (Nat × Value)} (I : List (Nat × Value) → List Res → Env → World → Prop) (ha : a.wp P (QN (I A L) Q) ρ w) (hb : ∀ ρ w, I A L ρ w → b.wp P Q ρ w) (hA : evs ρ ts = A := by (repeat (apply Qvj; · ((conv => lhs; whnf); first | done | exact rfl))); exact Qvi _) : (LC.seq a b).wp P Q ρ w := s_mid (I A L) ha hb
theorem zKL {l : List GO} (hS : St c w L) (n : Nat) (ts : List Nat) {A : List (Nat × Value)} (I : List (Nat × Value) → List Res → Env → World → Prop) (ha : Q5 P (l.take n) (QN (I A L) Q) ρ w) (hb : ∀ ρ w, I A L ρ w → Q5 P (l.drop n) Q ρ w) (hA : evs ρ ts = A := by (repeat (apply Qvj; · ((conv => lhs; whnf); first | done | exact rfl))); exact Qvi _) : Q5 P l Q ρ w := s_cut n (I A L) ha hb
theorem St.sp {L' : List Res} (h : St c w L) (e : SubP L' L := by (repeat constructor); first | done | fail) : St c w L' := h.subP e
theorem fd {r' : Res} (h : NthP L i r' := by repeat constructor) : nth L i = some r' := h.nth
theorem vw {a b : Value} (h : a = b := by (conv => lhs; whnf); first | done | exact rfl) : a = b := h
theorem St.p3 {L1 L2 L3 : List Res} {r1 r2 r3 : Res} (h : St c w L) (p1 : Pick L r1 L1 := by repeat constructor) (p2 : Pick L1 r2 L2 := by repeat constructor) (p3 : Pick L2 r3 L3 := by repeat constructor) : St c w (r1 :: r2 :: r3 :: L3) := h.pick3 p1 p2 p3
end
end Go.Lir
namespace Go.Lir
@[reducible] def qm (d x : Nat) : GO := ⟨none, .mov d (.tmp x)⟩
@[reducible] def qk (d : Nat) (v : Value) : GO := ⟨none, .mov d (.const v)⟩
@[reducible] def qf (d x k : Nat) : GO := ⟨none, .fld d (.tmp x) k⟩
@[reducible] def ql (d x : Nat) : GO := ⟨none, .load1 d (.tmp x)⟩
@[reducible] def qV (d n x : Nat) : GO := ⟨none, .loadn d n (.tmp x)⟩
@[reducible] def qn (d x : Nat) : GO := ⟨none, .nilc d (.tmp x)⟩
@[reducible] def qL (d x : Nat) : GO := ⟨none, .len d (.tmp x)⟩
@[reducible] def qs (x y : Nat) : GO := ⟨none, .store1 (.tmp x) (.tmp y)⟩
@[reducible] def qw (n x y : Nat) : GO := ⟨none, .storen n (.tmp x) (.tmp y)⟩
@[reducible] def qi (d es x y : Nat) : GO := ⟨none, .idx d es (.tmp x) (.tmp y)⟩
@[reducible] def qx (d x k : Nat) : GO := ⟨none, .ext d (.tmp x) k⟩
@[reducible] def qb (d T x : Nat) : GO := ⟨none, .box d T (.tmp x)⟩
@[reducible] def qt (d : Nat) (o : BinOp) (T x y : Nat) : GO := ⟨none, .bin d o T (.tmp x) (.tmp y)⟩
@[reducible] def qj (d : Nat) (o : BinOp) (T x : Nat) (n : Int) : GO := ⟨none, .bin d o T (.tmp x) (.const (.int .i64 n))⟩
@[reducible] def qg (s : Nat) (b : Bool) (o : GO) : GO := ⟨some (s, b), o.2⟩
@[reducible] def vi (n : Int) : Value := .int .i64 n
@[reducible] def vn : Value := .slice none 0 0
end Go.Lir
namespace Go.Proofs.YtanlkfeogoganaaGreat
open Go.Lir
set_option maxRecDepth 100000

/- 3 -/
def QfL : List GO := [qb 2 24 0, qk 4 (.bool false)]
def QfK : List GO := [⟨none, .call (some 14) 6 []⟩, ⟨none, .un 15 .not (.tmp 14)⟩]
def QfJ : List GO := [qk 4 (.bool false)]
def QfI : List GO := [qV 16 1 2, ⟨none, .call (some 17) 7 [(.tmp 16)]⟩, qm 18 17, qg 18 false (qm 19 1), qg 18 false (qL 20 19), qg 18 false (qj 21 .gtr 3 20 25000), ⟨none, .pick 22 (.tmp 18) (.const (.bool true)) (.tmp 21)⟩]
def QfH : List GO := [qk 4 (.bool true)]
def QfG : List GO := [qV 23 1 2, ⟨none, .call (some 24) 8 [(.tmp 23)]⟩, ⟨none, .alloc 5 24 [vn]⟩, qw 1 5 24]
def QfF : List GO := [qV 26 1 5, ⟨none, .call (some 27) 9 [(.tmp 26)]⟩, qm 25 27, qx 28 25 0, qx 29 25 1, ⟨none, .alloc 7 30 [(vi 0), (vi 0)]⟩, qm 6 28, qw 2 7 29]
def QfE : List GO := [qV 31 1 2, ⟨none, .call (some 32) 10 [(.tmp 31)]⟩, qm 30 32, qx 33 30 0, qx 34 30 1, ⟨none, .alloc 9 30 [(vi 0), (vi 0)]⟩, qm 8 33, qw 2 9 34]
def QfD : List GO := [qV 35 2 7, qV 36 2 9, qt 37 .neq 30 35 36, qm 38 37, qg 38 false (qm 39 6), qg 38 false (qm 40 8), ⟨some (38, false), .call (some 41) 11 [(.tmp 39), (.tmp 40)]⟩, ⟨some (38, false), .un 42 .not (.tmp 41)⟩, ⟨none, .pick 43 (.tmp 38) (.const (.bool true)) (.tmp 42)⟩, qm 44 43, qg 44 false (qV 45 1 5), qg 44 false (qV 46 1 2), ⟨some (44, false), .call (some 47) 12 [(.tmp 45), (.tmp 46)]⟩, ⟨some (44, false), .un 48 .not (.tmp 47)⟩, ⟨none, .pick 49 (.tmp 44) (.const (.bool true)) (.tmp 48)⟩]
def QfC : List GO := [qk 4 (.bool false)]
def QdB : List GO := [qm 51 1, ⟨none, .call (some 52) 13 [(.tmp 51)]⟩, qm 50 52, qx 53 50 0, qx 54 50 1, ⟨none, .alloc 10 24 [vn]⟩, ⟨none, .alloc 11 30 [(vi 0), (vi 0)]⟩, qw 1 10 53, qw 2 11 54]
def QdA : List GO := [qm 56 1, ⟨none, .call (some 57) 14 [(.tmp 56)]⟩, qm 55 57, qx 58 55 0, qx 59 55 1, ⟨none, .alloc 12 24 [vn]⟩, ⟨none, .alloc 13 30 [(vi 0), (vi 0)]⟩, qw 1 12 58, qw 2 13 59]
def Qdz : List GO := [qV 60 2 11, qV 61 2 13, qt 62 .eql 30 60 61, qm 63 62, qg 63 true (qV 64 1 10), qg 63 true (qV 65 1 12), ⟨some (63, true), .call (some 66) 12 [(.tmp 64), (.tmp 65)]⟩, ⟨none, .pick 67 (.tmp 63) (.tmp 66) (.const (.bool false))⟩, qm 68 67, qg 68 true (qm 69 1), ⟨some (68, true), .call (some 70) 15 [(.tmp 69)]⟩, qg 68 true (qm 71 1), ⟨some (68, true), .call (some 72) 16 [(.tmp 71)]⟩, qg 68 true (qt 73 .eql 37 70 72), ⟨none, .pick 74 (.tmp 68) (.tmp 73) (.const (.bool false))⟩, qm 4 74]
def Law_CodecDoes_lc : LC := (.seq (.ops QfL) (.seq (.seq (.ops QfK) (.cond (.tmp 15) (.seq (.ops QfJ) .ret) .skip)) (.seq (.seq (.ops QfI) (.cond (.tmp 22) (.seq (.ops QfH) .ret) .skip)) (.seq (.ops QfG) (.seq (.ops QfF) (.seq (.ops QfE) (.seq (.seq (.ops QfD) (.cond (.tmp 49) (.seq (.ops QfC) .ret) .skip)) (.seq (.ops QdB) (.seq (.ops QdA) (.seq (.ops Qdz) .ret))))))))))
@[reducible] def Q1O : FuncId := 3
theorem QdC : lowF Tryz.prog Tryz.f3 = some Law_CodecDoes_lc := by kernel_rfl
theorem QfM {a0 a1 : Value} {w : World} {R : Ending → World → Prop} (h : Law_CodecDoes_lc.wp Tryz.prog (retQ Tryz.prog [.tmp 4] R) (Qg [a0, a1]) w) : Calls Tryz.prog Q1O ⟨[a0, a1]⟩ w R :=
  Q6 Tryz.func3 QdC (by kernel_rfl) (by kernel_rfl) h

/- 10 -/
def Qrf : List GO := [qb 1 24 0, qk 2 vn, ⟨none, .alloc 3 30 [(vi 0), (vi 0)]⟩]
def Qre : List GO := [qV 12 1 1, ⟨none, .call (some 13) 19 [(.tmp 12)]⟩, ⟨none, .alloc 4 30 [(vi 0), (vi 0)]⟩, qw 2 4 13]
def Qrd : List GO := [qf 14 4 0, ql 15 14, qj 16 .neq 3 15 0]
def Qrc : List GO := [qV 17 2 4, qk 2 vn, qw 2 3 17]
def Qri : List (List Nat) := [[],[],[0,1,0,1]]
def Qrb : List GO := [⟨none, .buildS 18 5 3 [(.int .u8 0), (.int .u8 0), (.int .u8 0)] [(0, (1, (.const (.int .u8 67)))), (1, (1, (.const (.int .u8 72)))), (2, (1, (.const (.int .u8 1))))]⟩, qf 19 1 0, ql 20 19, qL 21 20, ⟨none, .buildS 22 3 1 [(vi 0)] [(0, (1, (.tmp 21)))]⟩, ⟨none, .call (some 23) 46 [(.tmp 22)]⟩, ⟨none, .raw ⟨(some 24), (.call ⟨(.builtin .append), #[(.tmp 18), (.tmp 23)], #[25, 25]⟩), 25, "", #[], none⟩⟩, qm 5 24]
def Qra : List GO := [qk 6 (vi 0)]
def Qr9 : List GO := [qm 25 6, qf 26 1 0, ql 27 26, qL 28 27, qt 29 .lss 3 25 28]
def Qr8 : List GO := [qf 32 1 0, ql 33 32, qm 34 6, qi 35 4 33 34, qV 36 4 35, ⟨none, .alloc 7 53 [(vi 0), vn, vn, vn]⟩, qw 4 7 36]
def Qr7 : List GO := [qm 37 5, qf 38 7 0, ql 39 38, ⟨none, .buildS 40 3 1 [(vi 0)] [(0, (1, (.tmp 39)))]⟩, ⟨none, .call (some 41) 46 [(.tmp 40)]⟩, ⟨none, .raw ⟨(some 42), (.call ⟨(.builtin .append), #[(.tmp 37), (.tmp 41)], #[25, 25]⟩), 25, "", #[], none⟩⟩, qf 43 7 1, ql 44 43, ⟨none, .call (some 45) 47 [(.tmp 44)]⟩, ⟨none, .raw ⟨(some 46), (.call ⟨(.builtin .append), #[(.tmp 42), (.tmp 45)], #[25, 25]⟩), 25, "", #[], none⟩⟩, qf 47 7 2, ql 48 47, ⟨none, .call (some 49) 47 [(.tmp 48)]⟩, ⟨none, .raw ⟨(some 50), (.call ⟨(.builtin .append), #[(.tmp 46), (.tmp 49)], #[25, 25]⟩), 25, "", #[], none⟩⟩, qf 51 7 3, ql 52 51, qL 53 52, ⟨none, .buildS 54 3 1 [(vi 0)] [(0, (1, (.tmp 53)))]⟩, ⟨none, .call (some 55) 46 [(.tmp 54)]⟩, ⟨none, .raw ⟨(some 56), (.call ⟨(.builtin .append), #[(.tmp 50), (.tmp 55)], #[25, 25]⟩), 25, "", #[], none⟩⟩, qm 5 56]
def Qrh : List (List Nat) := [[],[],[1],[2],[3],[0,4,4],[],[6],[7,5],[5,8,8],[],[10],[11,9],[9,12,12],[],[14],[15],[16],[17,13],[13,18,18],[19,19,0,1,2,3,4,5,6,7,8,9,10,11,12,13,14,15,16,17,18,19]]
def Qr6 : List GO := [qk 8 (vi 0)]
def QoT : List GO := [qm 57 8, qf 58 7 3, ql 59 58, qL 60 59, qt 61 .lss 3 57 60]
def QoS : List GO := [qf 64 7 3, ql 65 64, qm 66 8, qi 67 12 65 66, qV 68 12 67, ⟨none, .alloc 9 79 [(vi 0), vn, vn, (vi 0), (vi 0), (vi 0), vn, vn, (vi 0), vn, vn, vn]⟩, qw 12 9 68]
def QoR : List GO := [qm 69 5, qf 70 9 0, ql 71 70, ⟨none, .buildS 72 3 1 [(vi 0)] [(0, (1, (.tmp 71)))]⟩, ⟨none, .call (some 73) 46 [(.tmp 72)]⟩, ⟨none, .raw ⟨(some 74), (.call ⟨(.builtin .append), #[(.tmp 69), (.tmp 73)], #[25, 25]⟩), 25, "", #[], none⟩⟩, qf 75 9 1, ql 76 75, ⟨none, .call (some 77) 47 [(.tmp 76)]⟩, ⟨none, .raw ⟨(some 78), (.call ⟨(.builtin .append), #[(.tmp 74), (.tmp 77)], #[25, 25]⟩), 25, "", #[], none⟩⟩, qf 79 9 2, ql 80 79, qL 81 80, ⟨none, .buildS 82 3 1 [(vi 0)] [(0, (1, (.tmp 81)))]⟩, ⟨none, .call (some 83) 46 [(.tmp 82)]⟩, ⟨none, .raw ⟨(some 84), (.call ⟨(.builtin .append), #[(.tmp 78), (.tmp 83)], #[25, 25]⟩), 25, "", #[], none⟩⟩, qm 5 84]
def QoW : List (List Nat) := [[],[],[1],[2],[3],[0,4,4],[],[6],[7,5],[5,8,8],[],[10],[11],[12],[13,9],[9,14,14],[15,15,0,1,2,3,4,5,6,7,8,9,10,11,12,13,14,15]]
def QoQ : List GO := [qk 10 (vi 0)]
def QoP : List GO := [qm 85 10, qf 86 9 2, ql 87 86, qL 88 87, qt 89 .lss 3 85 88]
def QoO : List GO := [qm 92 5, qf 93 9 2, ql 94 93, qm 95 10, qi 96 8 94 95, qV 97 8 96, ⟨none, .call (some 98) 48 [(.tmp 97)]⟩, ⟨none, .raw ⟨(some 99), (.call ⟨(.builtin .append), #[(.tmp 92), (.tmp 98)], #[25, 25]⟩), 25, "", #[], none⟩⟩, qm 5 99]
def QoN : List GO := [qm 90 10, qj 91 .add 3 90 1, qm 10 91]
def Qby : LC := (.seq (.seq (.ops QoP) (.cond (.tmp 89) .skip (.exit 4))) (.seq (.block 5 (.ops QoO)) (.ops QoN)))
def QoM : List GO := [qm 100 5, qf 101 9 3, qf 102 101 0, ql 103 102, ⟨none, .buildS 104 3 1 [(vi 0)] [(0, (1, (.tmp 103)))]⟩, ⟨none, .call (some 105) 46 [(.tmp 104)]⟩, ⟨none, .raw ⟨(some 106), (.call ⟨(.builtin .append), #[(.tmp 100), (.tmp 105)], #[25, 25]⟩), 25, "", #[], none⟩⟩, qm 5 106]
def QoL : List GO := [qf 107 9 3, qf 108 107 0, ql 109 108]
def QoK : List GO := [qj 117 .eql 3 109 1, qm 116 117]
def QoJ : List GO := [qm 118 5, qf 119 9 3, qf 120 119 2, qV 121 3 120, ⟨none, .call (some 122) 49 [(.tmp 121)]⟩, ⟨none, .raw ⟨(some 123), (.call ⟨(.builtin .append), #[(.tmp 118), (.tmp 122)], #[25, 25]⟩), 25, "", #[], none⟩⟩, qm 5 123]
def QoI : List GO := [qj 125 .eql 3 109 2, qm 124 125]
def QoH : List GO := [qm 126 5, qf 127 9 3, qf 128 127 1, ql 129 128, ⟨none, .buildS 130 3 1 [(vi 0)] [(0, (1, (.tmp 129)))]⟩, ⟨none, .call (some 131) 46 [(.tmp 130)]⟩, ⟨none, .raw ⟨(some 132), (.call ⟨(.builtin .append), #[(.tmp 126), (.tmp 131)], #[25, 25]⟩), 25, "", #[], none⟩⟩, qf 133 9 3, qf 134 133 2, qV 135 3 134, ⟨none, .call (some 136) 49 [(.tmp 135)]⟩, ⟨none, .raw ⟨(some 137), (.call ⟨(.builtin .append), #[(.tmp 132), (.tmp 136)], #[25, 25]⟩), 25, "", #[], none⟩⟩, qf 138 9 3, qf 139 138 5, qV 140 3 139, ⟨none, .call (some 141) 49 [(.tmp 140)]⟩, ⟨none, .raw ⟨(some 142), (.call ⟨(.builtin .append), #[(.tmp 137), (.tmp 141)], #[25, 25]⟩), 25, "", #[], none⟩⟩, qm 5 142]
def QoV : List (List Nat) := [[],[],[1],[2],[3],[4],[0,5,5],[],[7],[8],[9,6],[6,10,10],[],[12],[13],[14,11],[11,15,15],[16,16,0,1,2,3,4,5,6,7,8,9,10,11,12,13,14,15,16]]
def QoG : List GO := [qm 110 5, qf 111 9 3, qf 112 111 8, ql 113 112, ⟨none, .call (some 114) 50 [(.tmp 113)]⟩, ⟨none, .raw ⟨(some 115), (.call ⟨(.builtin .append), #[(.tmp 110), (.tmp 114)], #[25, 25]⟩), 25, "", #[], none⟩⟩, qm 5 115]
def QoF : List GO := [qm 62 8, qj 63 .add 3 62 1, qm 8 63]
def Qbz : LC := (.seq (.seq (.ops QoT) (.cond (.tmp 61) .skip (.exit 2))) (.seq (.block 3 (.seq (.ops QoS) (.seq (.draw QoR QoW) (.seq (.seq (.ops QoQ) (.block 4 (.loop Qby))) (.seq (.ops QoM) (.seq (.ops QoL) (.block 6 (.seq (.ops QoK) (.cond (.tmp 116) (.ops QoJ) (.seq (.ops QoI) (.cond (.tmp 124) (.draw QoH QoV) (.ops QoG)))))))))))) (.ops QoF)))
def QoE : List GO := [qm 30 6, qj 31 .add 3 30 1, qm 6 31]
def QdN : LC := (.seq (.seq (.ops Qr9) (.cond (.tmp 29) .skip (.exit 0))) (.seq (.block 1 (.seq (.ops Qr8) (.seq (.draw Qr7 Qrh) (.seq (.ops Qr6) (.block 2 (.loop Qbz)))))) (.ops QoE)))
def QoD : List GO := [qm 143 5, qL 144 143, qj 145 .add 3 144 4, qj 146 .gtr 3 145 20000]
def QoC : List GO := [⟨none, .call (some 147) 51 [(.const (vi 2)), (.const (vi (-1)))]⟩, qk 2 vn, qw 2 3 147]
def QoB : List GO := [qm 148 5, ⟨none, .call (some 149) 16 [(.tmp 148)]⟩, qm 11 149]
def QoA : List GO := [qm 150 5, qm 151 11, ⟨none, .conv 152 .u8 (.tmp 151)⟩, qm 153 11, ⟨none, .bin 154 .shr 37 (.tmp 153) (.const (.int .u64 8))⟩, ⟨none, .conv 155 .u8 (.tmp 154)⟩, qm 156 11, ⟨none, .bin 157 .shr 37 (.tmp 156) (.const (.int .u64 16))⟩, ⟨none, .conv 158 .u8 (.tmp 157)⟩, qm 159 11, ⟨none, .bin 160 .shr 37 (.tmp 159) (.const (.int .u64 24))⟩, ⟨none, .conv 161 .u8 (.tmp 160)⟩, ⟨none, .buildS 162 5 4 [(.int .u8 0), (.int .u8 0), (.int .u8 0), (.int .u8 0)] [(0, (1, (.tmp 152))), (1, (1, (.tmp 155))), (2, (1, (.tmp 158))), (3, (1, (.tmp 161)))]⟩, ⟨none, .raw ⟨(some 163), (.call ⟨(.builtin .append), #[(.tmp 150), (.tmp 162)], #[25, 25]⟩), 25, "", #[], none⟩⟩, ⟨none, .build 164 [(vi 0), (vi 0)] []⟩, qm 2 163, qw 2 3 164]
def R_Encoded_lc : LC := (.seq (.ops Qrf) (.seq (.seq (.ops Qre) (.seq (.ops Qrd) (.cond (.tmp 16) (.seq (.draw Qrc Qri) .ret) .skip))) (.seq (.ops Qrb) (.seq (.seq (.ops Qra) (.block 0 (.loop QdN))) (.seq (.seq (.ops QoD) (.cond (.tmp 146) (.seq (.ops QoC) .ret) .skip)) (.seq (.ops QoB) (.seq (.ops QoA) .ret)))))))
@[reducible] def Q2U : FuncId := 10
theorem QoU : lowF Tryz.prog Tryz.f10 = some R_Encoded_lc := by kernel_rfl
theorem Qrg {a0 : Value} {w : World} {R : Ending → World → Prop} (h : R_Encoded_lc.wp Tryz.prog (retQ Tryz.prog [.tmp 2, .cell 3 30] R) (Qg [a0]) w) : Calls Tryz.prog Q2U ⟨[a0]⟩ w R :=
  Q6 Tryz.func10 QoU (by kernel_rfl) (by kernel_rfl) h

/- 14 -/
def Qru : List GO := [⟨none, .alloc 2 24 [vn]⟩, ⟨none, .alloc 3 30 [(vi 0), (vi 0)]⟩]
def Qrt : List GO := [qm 14 0, qL 15 14, qj 16 .lss 3 15 7]
def Qrs : List GO := [⟨none, .build 17 [vn] []⟩, qm 18 0, qL 19 18, ⟨none, .call (some 20) 51 [(.const (vi 5)), (.tmp 19)]⟩, qw 1 2 17, qw 2 3 20]
def Qrr : List GO := [qm 21 0, qL 22 21, qj 23 .gtr 3 22 20000]
def Qrq : List GO := [⟨none, .build 24 [vn] []⟩, ⟨none, .call (some 25) 51 [(.const (vi 2)), (.const (vi 20000))]⟩, qw 1 2 24, qw 2 3 25]
def Qrp : List GO := [qm 26 0, ⟨none, .idx 27 1 (.tmp 26) (.const (vi 0))⟩, ql 28 27, ⟨none, .bin 29 .neq 5 (.tmp 28) (.const (.int .u8 67))⟩, qm 30 29, qg 30 false (qm 31 0), ⟨some (30, false), .idx 32 1 (.tmp 31) (.const (vi 1))⟩, qg 30 false (ql 33 32), ⟨some (30, false), .bin 34 .neq 5 (.tmp 33) (.const (.int .u8 72))⟩, ⟨none, .pick 35 (.tmp 30) (.const (.bool true)) (.tmp 34)⟩, qm 36 35, qg 36 false (qm 37 0), ⟨some (36, false), .idx 38 1 (.tmp 37) (.const (vi 2))⟩, qg 36 false (ql 39 38), ⟨some (36, false), .bin 40 .neq 5 (.tmp 39) (.const (.int .u8 1))⟩, ⟨none, .pick 41 (.tmp 36) (.const (.bool true)) (.tmp 40)⟩]
def Qro : List GO := [⟨none, .build 42 [vn] []⟩, ⟨none, .call (some 43) 51 [(.const (vi 4)), (.const (vi 0))]⟩, qw 1 2 42, qw 2 3 43]
def Qrn : List GO := [qm 44 0, qL 45 44, qj 46 .sub 3 45 4, qm 4 46]
def Qrm : List GO := [qm 47 0, qm 48 4, ⟨none, .sub 49 1 (.tmp 47) none (some (.tmp 48)) none⟩, ⟨none, .call (some 50) 16 [(.tmp 49)]⟩, qm 5 50]
def Qrl : List GO := [qk 6 (vi 0)]
def Qpm : List GO := [qm 51 6, qj 52 .lss 3 51 4]
def Qpl : List GO := [qm 55 0, qm 56 4, qm 57 6, qt 58 .add 3 56 57, qi 59 1 55 58, ql 60 59, qm 61 5, qm 62 6, ⟨none, .bin 63 .mul 3 (.const (vi 8)) (.tmp 62)⟩, ⟨none, .conv 64 .u64 (.tmp 63)⟩, qt 65 .shr 37 61 64, ⟨none, .conv 66 .u8 (.tmp 65)⟩, qt 67 .neq 5 60 66]
def Qpk : List GO := [⟨none, .build 68 [vn] []⟩, qm 69 4, ⟨none, .call (some 70) 51 [(.const (vi 16)), (.tmp 69)]⟩, qw 1 2 68, qw 2 3 70]
def Qpj : List GO := [qm 53 6, qj 54 .add 3 53 1, qm 6 54]
def QbC : LC := (.seq (.seq (.ops Qpm) (.cond (.tmp 52) .skip (.exit 0))) (.seq (.block 1 (.seq (.ops Qpl) (.cond (.tmp 67) (.seq (.ops Qpk) .ret) .skip))) (.ops Qpj)))
def Qpi : List GO := [qm 71 0, qm 72 4, ⟨none, .sub 73 1 (.tmp 71) none (some (.tmp 72)) none⟩, ⟨none, .build 74 [vn, (vi 0), (vi 0), (vi 0)] [(0, (1, (.tmp 73))), (1, (1, (.const (vi 3))))]⟩, qb 75 107 74, qm 7 75]
def Qph : List GO := [⟨none, .alloc 8 24 [vn]⟩]
def Qpg : List GO := [qm 76 7, ⟨none, .call (some 77) 56 [(.tmp 76)]⟩, qm 9 77]
def Qpf : List GO := [qk 10 (vi 0)]
def Qpe : List GO := [qm 78 10, qm 79 9, qt 80 .lss 3 78 79, qm 81 80, qg 81 true (qm 82 7), ⟨some (81, true), .call (some 83) 57 [(.tmp 82)]⟩, ⟨none, .pick 84 (.tmp 81) (.tmp 83) (.const (.bool false))⟩]
def Qpd : List GO := [qm 87 7, ⟨none, .call (some 88) 58 [(.tmp 87)]⟩, ⟨none, .build 89 [(vi 0), vn, vn, vn] [(0, (1, (.tmp 88)))]⟩, ⟨none, .alloc 11 53 [(vi 0), vn, vn, vn]⟩, qw 4 11 89]
def Qpc : List GO := [qm 90 7, ⟨none, .call (some 91) 59 [(.tmp 90), (.const (vi 0))]⟩, qf 92 11 1, qs 92 91]
def Qpb : List GO := [qm 93 7, ⟨none, .call (some 94) 59 [(.tmp 93), (.const (vi 0))]⟩, qf 95 11 2, qs 95 94]
def Qpa : List GO := [qm 96 7, ⟨none, .call (some 97) 56 [(.tmp 96)]⟩, qm 12 97]
def Qp9 : List GO := [qk 13 (vi 0)]
def Qp8 : List GO := [qm 98 13, qm 99 12, qt 100 .lss 3 98 99, qm 101 100, qg 101 true (qm 102 7), ⟨some (101, true), .call (some 103) 57 [(.tmp 102)]⟩, ⟨none, .pick 104 (.tmp 101) (.tmp 103) (.const (.bool false))⟩]
def Qp7 : List GO := [qf 107 11 3, ql 108 107, qm 109 7, ⟨none, .call (some 110) 60 [(.tmp 109)]⟩, ⟨none, .buildS 111 79 1 [(vi 0), vn, vn, (vi 0), (vi 0), (vi 0), vn, vn, (vi 0), vn, vn, vn] [(0, (12, (.tmp 110)))]⟩, ⟨none, .raw ⟨(some 112), (.call ⟨(.builtin .append), #[(.tmp 108), (.tmp 111)], #[51, 51]⟩), 51, "", #[], none⟩⟩, qf 113 11 3, qs 113 112]
def Qpp : List (List Nat) := [[],[0],[],[2],[3],[1,4,3],[0,1,2,3,4,5],[6,5,5,0,1,2,3,4,5]]
def Qp6 : List GO := [qm 105 13, qj 106 .add 3 105 1, qm 13 106]
def QbA : LC := (.seq (.seq (.ops Qp8) (.cond (.tmp 104) .skip (.exit 4))) (.seq (.block 5 (.draw Qp7 Qpp)) (.ops Qp6)))
def Qp5 : List GO := [qf 114 8 0, ql 115 114, qV 116 4 11, ⟨none, .buildS 117 53 1 [(vi 0), vn, vn, vn] [(0, (4, (.tmp 116)))]⟩, ⟨none, .raw ⟨(some 118), (.call ⟨(.builtin .append), #[(.tmp 115), (.tmp 117)], #[22, 22]⟩), 22, "", #[], none⟩⟩, qf 119 8 0, qs 119 118]
def Qp4 : List GO := [qm 85 10, qj 86 .add 3 85 1, qm 10 86]
def QbB : LC := (.seq (.seq (.ops Qpe) (.cond (.tmp 84) .skip (.exit 2))) (.seq (.block 3 (.seq (.ops Qpd) (.seq (.ops Qpc) (.seq (.ops Qpb) (.seq (.ops Qpa) (.seq (.seq (.ops Qp9) (.block 4 (.loop QbA))) (.ops Qp5))))))) (.ops Qp4)))
def Qp3 : List GO := [qm 120 7, ⟨none, .call (some 121) 57 [(.tmp 120)]⟩, ⟨none, .un 122 .not (.tmp 121)⟩]
def Qp2 : List GO := [⟨none, .build 123 [vn] []⟩, qm 124 7, qn 125 124, qf 126 125 2, qV 127 2 126, qw 1 2 123, qw 2 3 127]
def Qpo : List (List Nat) := [[],[],[1],[2],[3],[0,0],[4,5,0,1,2,3,4,5]]
def Qp1 : List GO := [qm 128 7, qn 129 128, qf 130 129 1, ql 131 130, qm 132 4, qt 133 .lss 3 131 132]
def Qp0 : List GO := [⟨none, .build 134 [vn] []⟩, qm 135 7, qn 136 135, qf 137 136 1, ql 138 137, ⟨none, .call (some 139) 51 [(.const (vi 4)), (.tmp 138)]⟩, qw 1 2 134, qw 2 3 139]
def QoZ : List GO := [qV 140 1 8, ⟨none, .call (some 141) 19 [(.tmp 140)]⟩, ⟨none, .fldv 142 (.tmp 141) 0⟩, qj 143 .neq 3 142 0]
def QoY : List GO := [⟨none, .build 144 [vn] []⟩, qm 145 4, ⟨none, .call (some 146) 51 [(.const (vi 3)), (.tmp 145)]⟩, qw 1 2 144, qw 2 3 146]
def QoX : List GO := [qV 147 1 8, ⟨none, .build 148 [(vi 0), (vi 0)] []⟩, qw 1 2 147, qw 2 3 148]
def R_Decoded_lc : LC := (.seq (.ops Qru) (.seq (.seq (.ops Qrt) (.cond (.tmp 16) (.seq (.ops Qrs) .ret) .skip)) (.seq (.seq (.ops Qrr) (.cond (.tmp 23) (.seq (.ops Qrq) .ret) .skip)) (.seq (.seq (.ops Qrp) (.cond (.tmp 41) (.seq (.ops Qro) .ret) .skip)) (.seq (.ops Qrn) (.seq (.ops Qrm) (.seq (.seq (.ops Qrl) (.block 0 (.loop QbC))) (.seq (.ops Qpi) (.seq (.ops Qph) (.seq (.ops Qpg) (.seq (.seq (.ops Qpf) (.block 2 (.loop QbB))) (.seq (.seq (.ops Qp3) (.cond (.tmp 122) (.seq (.draw Qp2 Qpo) .ret) .skip)) (.seq (.seq (.ops Qp1) (.cond (.tmp 133) (.seq (.ops Qp0) .ret) .skip)) (.seq (.seq (.ops QoZ) (.cond (.tmp 143) (.seq (.ops QoY) .ret) .skip)) (.seq (.ops QoX) .ret)))))))))))))))
@[reducible] def Q1f : FuncId := 14
theorem Qpn : lowF Tryz.prog Tryz.f14 = some R_Decoded_lc := by kernel_rfl
theorem Qrv {a0 : Value} {w : World} {R : Ending → World → Prop} (h : R_Decoded_lc.wp Tryz.prog (retQ Tryz.prog [.cell 2 24, .cell 3 30] R) (Qg [a0]) w) : Calls Tryz.prog Q1f ⟨[a0]⟩ w R :=
  Q6 Tryz.func14 Qpn (by kernel_rfl) (by kernel_rfl) h

/- 16 -/
def Qu4 : List GO := [qk 2 (.int .u32 0)]
def Qu3 : List GO := [qk 3 (.int .u32 4294967295)]
def Qu2 : List GO := [qk 4 (vi 0)]
def Qu1 : List GO := [qm 7 4, qm 8 0, qL 9 8, qt 10 .lss 3 7 9]
def Qu0 : List GO := [qk 5 (vi 0)]
def QtZ : List GO := [qm 13 5, qj 14 .lss 3 13 8]
def QtY : List GO := [qm 17 0, qm 18 4, qi 19 1 17 18, ql 20 19, ⟨none, .conv 21 .u32 (.tmp 20)⟩, qm 22 5, ⟨none, .conv 23 .u64 (.tmp 22)⟩, qt 24 .shr 37 21 23, ⟨none, .bin 25 .and 37 (.tmp 24) (.const (.int .u32 1))⟩, qm 26 3, ⟨none, .bin 27 .and 37 (.tmp 26) (.const (.int .u32 1))⟩, qt 28 .xor 37 25 27, qm 6 28]
def QtX : List GO := [qm 29 3, ⟨none, .bin 30 .shr 37 (.tmp 29) (.const (.int .u64 1))⟩, qm 3 30]
def QtW : List GO := [qm 31 6, ⟨none, .bin 32 .eql 37 (.tmp 31) (.const (.int .u32 1))⟩]
def QtV : List GO := [qm 33 3, ⟨none, .bin 34 .xor 37 (.tmp 33) (.const (.int .u32 3988292384))⟩, qm 3 34]
def QsI : List GO := [qm 15 5, qj 16 .add 3 15 1, qm 5 16]
def Qma : LC := (.seq (.seq (.ops QtZ) (.cond (.tmp 14) .skip (.exit 2))) (.seq (.block 3 (.seq (.ops QtY) (.seq (.ops QtX) (.seq (.ops QtW) (.cond (.tmp 32) (.ops QtV) .skip))))) (.ops QsI)))
def QsH : List GO := [qm 11 4, qj 12 .add 3 11 1, qm 4 12]
def Qmb : LC := (.seq (.seq (.ops Qu1) (.cond (.tmp 10) .skip (.exit 0))) (.seq (.block 1 (.seq (.ops Qu0) (.block 2 (.loop Qma)))) (.ops QsH)))
def QsG : List GO := [qm 35 3, ⟨none, .bin 36 .sub 37 (.const (.int .u32 4294967295)) (.tmp 35)⟩, qm 2 36]
def R_CrcOf_lc : LC := (.seq (.ops Qu4) (.seq (.ops Qu3) (.seq (.seq (.ops Qu2) (.block 0 (.loop Qmb))) (.seq (.ops QsG) .ret))))
@[reducible] def Qpq : FuncId := 16
theorem QsJ : lowF Tryz.prog Tryz.f16 = some R_CrcOf_lc := by kernel_rfl
theorem Qu5 {a0 : Value} {w : World} {R : Ending → World → Prop} (h : R_CrcOf_lc.wp Tryz.prog (retQ Tryz.prog [.tmp 2] R) (Qg [a0]) w) : Calls Tryz.prog Qpq ⟨[a0]⟩ w R :=
  Q6 Tryz.func16 QsJ (by kernel_rfl) (by kernel_rfl) h

/- 46 -/
def QnA : List GO := [qk 2 vn]
def Qnz : List GO := [qk 3 vn]
def Qny : List GO := [qk 4 (vi 0)]
def Qnx : List GO := [qm 5 4, qm 6 0, qL 7 6, qt 8 .lss 3 5 7]
def Qnw : List GO := [qm 11 3, qm 12 0, qm 13 4, qi 14 1 12 13, ql 15 14, ⟨none, .call (some 16) 98 [(.tmp 15)]⟩, ⟨none, .raw ⟨(some 17), (.call ⟨(.builtin .append), #[(.tmp 11), (.tmp 16)], #[25, 25]⟩), 25, "", #[], none⟩⟩, qm 3 17]
def Qnv : List GO := [qm 9 4, qj 10 .add 3 9 1, qm 4 10]
def Qbu : LC := (.seq (.seq (.ops Qnx) (.cond (.tmp 8) .skip (.exit 0))) (.seq (.block 1 (.ops Qnw)) (.ops Qnv)))
def Qnu : List GO := [qm 18 3, qm 2 18]
def R_intBytes_lc : LC := (.seq (.ops QnA) (.seq (.ops Qnz) (.seq (.seq (.ops Qny) (.block 0 (.loop Qbu))) (.seq (.ops Qnu) .ret))))
@[reducible] def Qdf : FuncId := 46
theorem QkH : lowF Tryz.prog Tryz.f46 = some R_intBytes_lc := by kernel_rfl
theorem QnB {a0 : Value} {w : World} {R : Ending → World → Prop} (h : R_intBytes_lc.wp Tryz.prog (retQ Tryz.prog [.tmp 2] R) (Qg [a0]) w) : Calls Tryz.prog Qdf ⟨[a0]⟩ w R :=
  Q6 Tryz.func46 QkH (by kernel_rfl) (by kernel_rfl) h

/- 47 -/
def Qk7 : List GO := [qk 2 vn]
def Qk6 : List GO := [qm 5 0, qL 6 5, ⟨none, .buildS 7 3 1 [(vi 0)] [(0, (1, (.tmp 6)))]⟩, ⟨none, .call (some 8) 46 [(.tmp 7)]⟩, qm 3 8]
def Qk5 : List GO := [qk 4 (vi 0)]
def Qk4 : List GO := [qm 9 4, qm 10 0, qL 11 10, qt 12 .lss 3 9 11]
def Qk3 : List GO := [qm 15 3, qm 16 0, qm 17 4, qi 18 3 16 17, qf 19 18 0, ql 20 19, ⟨none, .buildS 21 3 1 [(vi 0)] [(0, (1, (.tmp 20)))]⟩, ⟨none, .call (some 22) 46 [(.tmp 21)]⟩, ⟨none, .raw ⟨(some 23), (.call ⟨(.builtin .append), #[(.tmp 15), (.tmp 22)], #[25, 25]⟩), 25, "", #[], none⟩⟩, qm 3 23]
def Qk2 : List GO := [qm 24 0, qm 25 4, qi 26 3 24 25, qf 27 26 0, ql 28 27, qj 29 .neq 3 28 1]
def Qk1 : List GO := [qm 30 3, qm 31 0, qm 32 4, qi 33 3 31 32, qf 34 33 1, ql 35 34, ⟨none, .buildS 36 3 1 [(vi 0)] [(0, (1, (.tmp 35)))]⟩, ⟨none, .call (some 37) 46 [(.tmp 36)]⟩, ⟨none, .raw ⟨(some 38), (.call ⟨(.builtin .append), #[(.tmp 30), (.tmp 37)], #[25, 25]⟩), 25, "", #[], none⟩⟩, qm 3 38]
def Qk0 : List GO := [qm 39 0, qm 40 4, qi 41 3 39 40, qf 42 41 0, ql 43 42, qj 44 .eql 3 43 3]
def QjZ : List GO := [qm 45 3, qm 46 0, qm 47 4, qi 48 3 46 47, qf 49 48 2, ql 50 49, ⟨none, .call (some 51) 47 [(.tmp 50)]⟩, ⟨none, .raw ⟨(some 52), (.call ⟨(.builtin .append), #[(.tmp 45), (.tmp 51)], #[25, 25]⟩), 25, "", #[], none⟩⟩, qm 3 52]
def QjY : List GO := [qm 13 4, qj 14 .add 3 13 1, qm 4 14]
def Q8Q : LC := (.seq (.seq (.ops Qk4) (.cond (.tmp 12) .skip (.exit 0))) (.seq (.block 1 (.seq (.ops Qk3) (.seq (.seq (.ops Qk2) (.cond (.tmp 29) (.ops Qk1) .skip)) (.seq (.ops Qk0) (.cond (.tmp 44) (.ops QjZ) .skip))))) (.ops QjY)))
def Qht : List GO := [qm 53 3, qm 2 53]
def R_typeBytes_lc : LC := (.seq (.ops Qk7) (.seq (.ops Qk6) (.seq (.seq (.ops Qk5) (.block 0 (.loop Q8Q))) (.seq (.ops Qht) .ret))))
@[reducible] def Q2g : FuncId := 47
theorem Qhu : lowF Tryz.prog Tryz.f47 = some R_typeBytes_lc := by kernel_rfl
theorem Qk8 {a0 : Value} {w : World} {R : Ending → World → Prop} (h : R_typeBytes_lc.wp Tryz.prog (retQ Tryz.prog [.tmp 2] R) (Qg [a0]) w) : Calls Tryz.prog Q2g ⟨[a0]⟩ w R :=
  Q6 Tryz.func47 Qhu (by kernel_rfl) (by kernel_rfl) h

/- 48 -/
def QnL : List GO := [qb 1 57 0, qk 2 vn]
def QnK : List GO := [qf 6 1 0, ql 7 6, ⟨none, .buildS 8 3 1 [(vi 0)] [(0, (1, (.tmp 7)))]⟩, ⟨none, .call (some 9) 46 [(.tmp 8)]⟩, qm 3 9]
def QnJ : List GO := [qf 11 1 0, ql 12 11, ⟨none, .call (some 13) 99 [(.tmp 12)]⟩, qm 10 13, qx 14 10 0, qx 15 10 1, ⟨none, .alloc 4 144 [(.bool false), (.bool false), (.bool false), (.bool false), (.bool false), (.bool false), (.bool false)]⟩, qw 7 4 14, qm 5 15]
def QnI : List GO := [qf 16 4 0, ql 17 16]
def QnH : List GO := [qm 18 3, qf 19 1 1, ql 20 19, ⟨none, .buildS 21 3 1 [(vi 0)] [(0, (1, (.tmp 20)))]⟩, ⟨none, .call (some 22) 46 [(.tmp 21)]⟩, ⟨none, .raw ⟨(some 23), (.call ⟨(.builtin .append), #[(.tmp 18), (.tmp 22)], #[25, 25]⟩), 25, "", #[], none⟩⟩, qm 3 23]
def QnG : List GO := [qf 24 4 1, ql 25 24]
def QnF : List GO := [qm 26 3, qf 27 1 2, ql 28 27, ⟨none, .buildS 29 3 1 [(vi 0)] [(0, (1, (.tmp 28)))]⟩, ⟨none, .call (some 30) 46 [(.tmp 29)]⟩, ⟨none, .raw ⟨(some 31), (.call ⟨(.builtin .append), #[(.tmp 26), (.tmp 30)], #[25, 25]⟩), 25, "", #[], none⟩⟩, qm 3 31]
def QnE : List GO := [qf 32 4 2, ql 33 32]
def QnD : List GO := [qm 34 3, qf 35 1 3, ql 36 35, ⟨none, .buildS 37 3 1 [(vi 0)] [(0, (1, (.tmp 36)))]⟩, ⟨none, .call (some 38) 46 [(.tmp 37)]⟩, ⟨none, .raw ⟨(some 39), (.call ⟨(.builtin .append), #[(.tmp 34), (.tmp 38)], #[25, 25]⟩), 25, "", #[], none⟩⟩, qm 3 39]
def QnC : List GO := [qf 40 4 3, ql 41 40]
def QkP : List GO := [qm 42 3, qf 43 1 4, ql 44 43, ⟨none, .buildS 45 3 1 [(vi 0)] [(0, (1, (.tmp 44)))]⟩, ⟨none, .call (some 46) 46 [(.tmp 45)]⟩, ⟨none, .raw ⟨(some 47), (.call ⟨(.builtin .append), #[(.tmp 42), (.tmp 46)], #[25, 25]⟩), 25, "", #[], none⟩⟩, qm 3 47]
def QkO : List GO := [qf 48 4 4, ql 49 48]
def QkN : List GO := [qm 50 3, qf 51 1 5, ql 52 51, ⟨none, .call (some 53) 98 [(.tmp 52)]⟩, ⟨none, .raw ⟨(some 54), (.call ⟨(.builtin .append), #[(.tmp 50), (.tmp 53)], #[25, 25]⟩), 25, "", #[], none⟩⟩, qm 3 54]
def QkM : List GO := [qf 55 4 5, ql 56 55]
def QkL : List GO := [qm 57 3, qf 58 1 6, ql 59 58, ⟨none, .call (some 60) 50 [(.tmp 59)]⟩, ⟨none, .raw ⟨(some 61), (.call ⟨(.builtin .append), #[(.tmp 57), (.tmp 60)], #[25, 25]⟩), 25, "", #[], none⟩⟩, qm 3 61]
def QkK : List GO := [qf 62 4 6, ql 63 62]
def QkJ : List GO := [qm 64 3, qf 65 1 7, ql 66 65, ⟨none, .call (some 67) 50 [(.tmp 66)]⟩, ⟨none, .raw ⟨(some 68), (.call ⟨(.builtin .append), #[(.tmp 64), (.tmp 67)], #[25, 25]⟩), 25, "", #[], none⟩⟩, qm 3 68]
def QkI : List GO := [qm 69 3, qm 2 69]
def R_insBytes_lc : LC := (.seq (.ops QnL) (.seq (.ops QnK) (.seq (.ops QnJ) (.seq (.seq (.ops QnI) (.cond (.tmp 17) (.ops QnH) .skip)) (.seq (.seq (.ops QnG) (.cond (.tmp 25) (.ops QnF) .skip)) (.seq (.seq (.ops QnE) (.cond (.tmp 33) (.ops QnD) .skip)) (.seq (.seq (.ops QnC) (.cond (.tmp 41) (.ops QkP) .skip)) (.seq (.seq (.ops QkO) (.cond (.tmp 49) (.ops QkN) .skip)) (.seq (.seq (.ops QkM) (.cond (.tmp 56) (.ops QkL) .skip)) (.seq (.seq (.ops QkK) (.cond (.tmp 63) (.ops QkJ) .skip)) (.seq (.ops QkI) .ret)))))))))))
@[reducible] def Q1i : FuncId := 48
theorem QkQ : lowF Tryz.prog Tryz.f48 = some R_insBytes_lc := by kernel_rfl
theorem QnM {a0 : Value} {w : World} {R : Ending → World → Prop} (h : R_insBytes_lc.wp Tryz.prog (retQ Tryz.prog [.tmp 2] R) (Qg [a0]) w) : Calls Tryz.prog Q1i ⟨[a0]⟩ w R :=
  Q6 Tryz.func48 QkQ (by kernel_rfl) (by kernel_rfl) h

/- 49 -/
def Qqs : List GO := [qb 1 43 0, qk 2 vn]
def Qqr : List GO := [qf 3 1 0, ql 4 3, ⟨none, .buildS 5 3 1 [(vi 0)] [(0, (1, (.tmp 4)))]⟩, ⟨none, .call (some 6) 46 [(.tmp 5)]⟩, qf 7 1 1, ql 8 7, ⟨none, .call (some 9) 50 [(.tmp 8)]⟩, ⟨none, .raw ⟨(some 10), (.call ⟨(.builtin .append), #[(.tmp 6), (.tmp 9)], #[25, 25]⟩), 25, "", #[], none⟩⟩, qf 11 1 2, ql 12 11, ⟨none, .call (some 13) 50 [(.tmp 12)]⟩, ⟨none, .raw ⟨(some 14), (.call ⟨(.builtin .append), #[(.tmp 10), (.tmp 13)], #[25, 25]⟩), 25, "", #[], none⟩⟩, qm 2 14]
def Qqu : List (List Nat) := [[],[0],[1],[2],[],[4],[5,3],[3,6,6],[],[8],[9,7],[7,10,10],[11,11,0,1,2,3,4,5,6,7,8,9,10,11]]
def R_toBytes_lc : LC := (.seq (.ops Qqs) (.seq (.draw Qqr Qqu) .ret))
@[reducible] def Qqv : FuncId := 49
theorem Qng : lowF Tryz.prog Tryz.f49 = some R_toBytes_lc := by kernel_rfl
theorem Qqt {a0 : Value} {w : World} {R : Ending → World → Prop} (h : R_toBytes_lc.wp Tryz.prog (retQ Tryz.prog [.tmp 2] R) (Qg [a0]) w) : Calls Tryz.prog Qqv ⟨[a0]⟩ w R :=
  Q6 Tryz.func49 Qng (by kernel_rfl) (by kernel_rfl) h

/- 50 -/
def QkF : List GO := [qk 2 vn]
def QkE : List GO := [qm 3 0, qL 4 3, ⟨none, .buildS 5 3 1 [(vi 0)] [(0, (1, (.tmp 4)))]⟩, ⟨none, .call (some 6) 46 [(.tmp 5)]⟩, qm 7 0, ⟨none, .call (some 8) 46 [(.tmp 7)]⟩, ⟨none, .raw ⟨(some 9), (.call ⟨(.builtin .append), #[(.tmp 6), (.tmp 8)], #[25, 25]⟩), 25, "", #[], none⟩⟩, qm 2 9]
def R_listBytes_lc : LC := (.seq (.ops QkF) (.seq (.ops QkE) .ret))
@[reducible] def QhQ : FuncId := 50
theorem QhP : lowF Tryz.prog Tryz.f50 = some R_listBytes_lc := by kernel_rfl
theorem QkG {a0 : Value} {w : World} {R : Ending → World → Prop} (h : R_listBytes_lc.wp Tryz.prog (retQ Tryz.prog [.tmp 2] R) (Qg [a0]) w) : Calls Tryz.prog QhQ ⟨[a0]⟩ w R :=
  Q6 Tryz.func50 QhP (by kernel_rfl) (by kernel_rfl) h

/- 56 -/
def Qd0 : List GO := [qk 2 (vi 0)]
def QcZ : List GO := [qm 5 0, qn 6 5, qf 7 6 1, ql 8 7, qm 3 8]
def QcY : List GO := [qm 9 0, ⟨none, .call (some 10) 107 [(.tmp 9)]⟩, qm 4 10]
def QcX : List GO := [qm 11 0, ⟨none, .call (some 12) 57 [(.tmp 11)]⟩, qm 13 12, qg 13 true (qm 14 4), qg 13 true (qj 15 .lss 2 14 0), qg 13 true (qm 16 15), qg 16 false (qm 17 4), qg 16 false (qm 18 0), qg 16 false (qn 19 18), qg 16 false (qf 20 19 0), qg 16 false (ql 21 20), qg 16 false (qL 22 21), qg 16 false (qm 23 0), qg 16 false (qn 24 23), qg 16 false (qf 25 24 1), qg 16 false (ql 26 25), qg 16 false (qt 27 .sub 3 22 26), qg 16 false (qt 28 .gtr 2 17 27), ⟨some (13, true), .pick 29 (.tmp 16) (.const (.bool true)) (.tmp 28)⟩, ⟨none, .pick 30 (.tmp 13) (.tmp 29) (.const (.bool false))⟩]
def Qd2 : List (List Nat) := [[],[0],[1,1],[2],[3,2],[4,2,2],[5],[5],[7,5],[8,5],[9,5],[10,5],[5],[12,5],[13,5],[14,5],[11,15,5],[6,16,5],[5,17,2],[2,18]]
def QcW : List GO := [qm 31 0, qm 32 3, ⟨none, .call (some 33) 108 [(.tmp 31), (.const (vi 2)), (.tmp 32)]⟩]
def QcV : List GO := [qm 34 0, ⟨none, .call (some 35) 57 [(.tmp 34)]⟩, ⟨none, .un 36 .not (.tmp 35)⟩]
def QcU : List GO := [qk 2 (vi 0)]
def QcT : List GO := [qm 37 4, qm 2 37]
def R_taking_count_lc : LC := (.seq (.ops Qd0) (.seq (.ops QcZ) (.seq (.ops QcY) (.seq (.seq (.draw QcX Qd2) (.cond (.tmp 30) (.ops QcW) .skip)) (.seq (.seq (.ops QcV) (.cond (.tmp 36) (.seq (.ops QcU) .ret) .skip)) (.seq (.ops QcT) .ret))))))
@[reducible] def Q2h : FuncId := 56
theorem Qbi : lowF Tryz.prog Tryz.f56 = some R_taking_count_lc := by kernel_rfl
theorem Qd1 {a0 : Value} {w : World} {R : Ending → World → Prop} (h : R_taking_count_lc.wp Tryz.prog (retQ Tryz.prog [.tmp 2] R) (Qg [a0]) w) : Calls Tryz.prog Q2h ⟨[a0]⟩ w R :=
  Q6 Tryz.func56 Qbi (by kernel_rfl) (by kernel_rfl) h

/- 57 -/
def Qkg : List GO := [qk 2 (.bool false)]
def Qkf : List GO := [qm 3 0, qn 4 3, qf 5 4 2, qf 6 5 0, ql 7 6, qj 8 .eql 3 7 0, qm 2 8]
def R_taking_ok_lc : LC := (.seq (.ops Qkg) (.seq (.ops Qkf) .ret))
@[reducible] def Qa9 : FuncId := 57
theorem Qhy : lowF Tryz.prog Tryz.f57 = some R_taking_ok_lc := by kernel_rfl
theorem Qkh {a0 : Value} {w : World} {R : Ending → World → Prop} (h : R_taking_ok_lc.wp Tryz.prog (retQ Tryz.prog [.tmp 2] R) (Qg [a0]) w) : Calls Tryz.prog Qa9 ⟨[a0]⟩ w R :=
  Q6 Tryz.func57 Qhy (by kernel_rfl) (by kernel_rfl) h

/- 58 -/
def QhA : List GO := [qk 2 (vi 0)]
def Qhz : List GO := [qm 3 0, ⟨none, .call (some 4) 107 [(.tmp 3)]⟩, qm 2 4]
def R_taking_int_lc : LC := (.seq (.ops QhA) (.seq (.ops Qhz) .ret))
@[reducible] def QdM : FuncId := 58
theorem QeV : lowF Tryz.prog Tryz.f58 = some R_taking_int_lc := by kernel_rfl
theorem QhB {a0 : Value} {w : World} {R : Ending → World → Prop} (h : R_taking_int_lc.wp Tryz.prog (retQ Tryz.prog [.tmp 2] R) (Qg [a0]) w) : Calls Tryz.prog QdM ⟨[a0]⟩ w R :=
  Q6 Tryz.func58 QeV (by kernel_rfl) (by kernel_rfl) h

/- 59 -/
def QcI : List GO := [qk 4 vn]
def QcH : List GO := [qm 9 1, qj 10 .gtr 3 9 5]
def QcG : List GO := [qm 11 0, qm 12 0, qn 13 12, qf 14 13 1, ql 15 14, ⟨none, .call (some 16) 108 [(.tmp 11), (.const (vi 19)), (.tmp 15)]⟩]
def QcF : List GO := [qk 5 vn]
def QcE : List GO := [qm 17 0, ⟨none, .call (some 18) 56 [(.tmp 17)]⟩, qm 6 18]
def QcD : List GO := [qk 7 (vi 0)]
def QcC : List GO := [qm 19 7, qm 20 6, qt 21 .lss 3 19 20, qm 22 21, qg 22 true (qm 23 0), ⟨some (22, true), .call (some 24) 57 [(.tmp 23)]⟩, ⟨none, .pick 25 (.tmp 22) (.tmp 24) (.const (.bool false))⟩]
def QcB : List GO := [qm 28 0, ⟨none, .call (some 29) 58 [(.tmp 28)]⟩, ⟨none, .build 30 [(vi 0), (vi 0), vn] [(0, (1, (.tmp 29)))]⟩, ⟨none, .alloc 8 112 [(vi 0), (vi 0), vn]⟩, qw 3 8 30]
def QcA : List GO := [qf 31 8 0, ql 32 31, qj 33 .neq 3 32 1]
def Qcz : List GO := [qm 34 0, ⟨none, .call (some 35) 58 [(.tmp 34)]⟩, qf 36 8 1, qs 36 35]
def Qbg : List GO := [qf 37 8 0, ql 38 37, qj 39 .eql 3 38 3, qm 40 39, qg 40 true (qm 41 0), ⟨some (40, true), .call (some 42) 57 [(.tmp 41)]⟩, ⟨none, .pick 43 (.tmp 40) (.tmp 42) (.const (.bool false))⟩]
def Qbf : List GO := [qm 44 0, qm 45 1, qj 46 .add 3 45 1, ⟨none, .call (some 47) 59 [(.tmp 44), (.tmp 46)]⟩, qf 48 8 2, qs 48 47]
def Qbe : List GO := [qm 49 5, qV 50 3 8, ⟨none, .buildS 51 112 1 [(vi 0), (vi 0), vn] [(0, (3, (.tmp 50)))]⟩, ⟨none, .raw ⟨(some 52), (.call ⟨(.builtin .append), #[(.tmp 49), (.tmp 51)], #[50, 50]⟩), 50, "", #[], none⟩⟩, qm 5 52]
def Qbd : List GO := [qm 26 7, qj 27 .add 3 26 1, qm 7 27]
def Q3u : LC := (.seq (.seq (.ops QcC) (.cond (.tmp 25) .skip (.exit 0))) (.seq (.block 1 (.seq (.ops QcB) (.seq (.seq (.ops QcA) (.cond (.tmp 33) (.ops Qcz) .skip)) (.seq (.seq (.ops Qbg) (.cond (.tmp 43) (.ops Qbf) .skip)) (.ops Qbe))))) (.ops Qbd)))
def Qbc : List GO := [qm 53 5, qm 4 53]
def R_taking_types_lc : LC := (.seq (.ops QcI) (.seq (.seq (.ops QcH) (.cond (.tmp 10) (.ops QcG) .skip)) (.seq (.ops QcF) (.seq (.ops QcE) (.seq (.seq (.ops QcD) (.block 0 (.loop Q3u))) (.seq (.ops Qbc) .ret))))))
@[reducible] def Q1g : FuncId := 59
theorem Qbh : lowF Tryz.prog Tryz.f59 = some R_taking_types_lc := by kernel_rfl
theorem Q54 {a0 a1 : Value} {w : World} {R : Ending → World → Prop} (h : R_taking_types_lc.wp Tryz.prog (retQ Tryz.prog [.tmp 4] R) (Qg [a0, a1]) w) : Calls Tryz.prog Q1g ⟨[a0, a1]⟩ w R :=
  Q6 Tryz.func59 Qbh (by kernel_rfl) (by kernel_rfl) h

/- 60 -/
def Qdc : List GO := [⟨none, .alloc 2 79 [(vi 0), vn, vn, (vi 0), (vi 0), (vi 0), vn, vn, (vi 0), vn, vn, vn]⟩]
def Qdb : List GO := [qm 6 0, ⟨none, .call (some 7) 58 [(.tmp 6)]⟩, ⟨none, .build 8 [(vi 0), vn, vn, (vi 0), (vi 0), (vi 0), vn, vn, (vi 0), vn, vn, vn] [(0, (1, (.tmp 7)))]⟩, ⟨none, .alloc 3 79 [(vi 0), vn, vn, (vi 0), (vi 0), (vi 0), vn, vn, (vi 0), vn, vn, vn]⟩, qw 12 3 8]
def Qda : List GO := [qm 9 0, ⟨none, .call (some 10) 59 [(.tmp 9), (.const (vi 0))]⟩, qf 11 3 1, qs 11 10]
def Qd9 : List GO := [qm 12 0, ⟨none, .call (some 13) 56 [(.tmp 12)]⟩, qm 4 13]
def Qd8 : List GO := [qk 5 (vi 0)]
def Qd7 : List GO := [qm 14 5, qm 15 4, qt 16 .lss 3 14 15, qm 17 16, qg 17 true (qm 18 0), ⟨some (17, true), .call (some 19) 57 [(.tmp 18)]⟩, ⟨none, .pick 20 (.tmp 17) (.tmp 19) (.const (.bool false))⟩]
def Qd6 : List GO := [qf 23 3 2, ql 24 23, qm 25 0, ⟨none, .call (some 26) 109 [(.tmp 25)]⟩, ⟨none, .buildS 27 57 1 [(vi 0), (vi 0), (vi 0), (vi 0), (vi 0), (vi 0), vn, vn] [(0, (8, (.tmp 26)))]⟩, ⟨none, .raw ⟨(some 28), (.call ⟨(.builtin .append), #[(.tmp 24), (.tmp 27)], #[40, 40]⟩), 40, "", #[], none⟩⟩, qf 29 3 2, qs 29 28]
def Qde : List (List Nat) := [[],[0],[],[2],[3],[1,4,3],[0,1,2,3,4,5],[6,5,5,0,1,2,3,4,5]]
def Qd5 : List GO := [qm 21 5, qj 22 .add 3 21 1, qm 5 22]
def Q55 : LC := (.seq (.seq (.ops Qd7) (.cond (.tmp 20) .skip (.exit 0))) (.seq (.block 1 (.draw Qd6 Qde)) (.ops Qd5)))
def Qd4 : List GO := [qm 30 0, ⟨none, .call (some 31) 58 [(.tmp 30)]⟩, qf 32 3 3, qf 33 32 0, qs 33 31]
def Qd3 : List GO := [qf 34 3 3, qf 35 34 0, ql 36 35]
def Qbr : List GO := [qj 38 .eql 3 36 1, qm 37 38]
def Qbq : List GO := [qm 39 0, ⟨none, .call (some 40) 110 [(.tmp 39)]⟩, qf 41 3 3, qf 42 41 2, qw 3 42 40]
def Qbp : List GO := [qj 44 .eql 3 36 2, qm 43 44]
def Qbo : List GO := [qm 45 0, ⟨none, .call (some 46) 58 [(.tmp 45)]⟩, qf 47 3 3, qf 48 47 1, qs 48 46]
def Qbn : List GO := [qm 49 0, ⟨none, .call (some 50) 110 [(.tmp 49)]⟩, qf 51 3 3, qf 52 51 2, qw 3 52 50]
def Qbm : List GO := [qm 53 0, ⟨none, .call (some 54) 110 [(.tmp 53)]⟩, qf 55 3 3, qf 56 55 5, qw 3 56 54]
def Qbl : List GO := [qj 58 .eql 3 36 3, qm 57 58]
def Qbk : List GO := [qm 59 0, ⟨none, .call (some 60) 111 [(.tmp 59)]⟩, qf 61 3 3, qf 62 61 8, qs 62 60]
def Qbj : List GO := [qV 63 12 3, qw 12 2 63]
def R_taking_block_lc : LC := (.seq (.ops Qdc) (.seq (.ops Qdb) (.seq (.ops Qda) (.seq (.ops Qd9) (.seq (.seq (.ops Qd8) (.block 0 (.loop Q55))) (.seq (.ops Qd4) (.seq (.seq (.ops Qd3) (.block 2 (.seq (.ops Qbr) (.cond (.tmp 37) (.ops Qbq) (.seq (.ops Qbp) (.cond (.tmp 43) (.seq (.ops Qbo) (.seq (.ops Qbn) (.ops Qbm))) (.seq (.ops Qbl) (.cond (.tmp 57) (.ops Qbk) .skip)))))))) (.seq (.ops Qbj) .ret))))))))
@[reducible] def Q1h : FuncId := 60
theorem Qbs : lowF Tryz.prog Tryz.f60 = some R_taking_block_lc := by kernel_rfl
theorem Qdd {a0 : Value} {w : World} {R : Ending → World → Prop} (h : R_taking_block_lc.wp Tryz.prog (retQ Tryz.prog [.cell 2 79] R) (Qg [a0]) w) : Calls Tryz.prog Q1h ⟨[a0]⟩ w R :=
  Q6 Tryz.func60 Qbs (by kernel_rfl) (by kernel_rfl) h

/- 98 -/
def QkB : List GO := [qk 2 vn]
def QkA : List GO := [qm 5 0, ⟨none, .conv 6 .u64 (.tmp 5)⟩, ⟨none, .bin 7 .mul 171 (.tmp 6) (.const (.int .u64 2))⟩, qm 3 7]
def Qkz : List GO := [qm 8 0, qj 9 .lss 2 8 0]
def Qky : List GO := [qm 10 0, qj 11 .add 2 10 1, ⟨none, .un 12 .neg (.tmp 11)⟩, ⟨none, .conv 13 .u64 (.tmp 12)⟩, ⟨none, .bin 14 .mul 171 (.tmp 13) (.const (.int .u64 2))⟩, ⟨none, .bin 15 .add 171 (.tmp 14) (.const (.int .u64 1))⟩, qm 3 15]
def Qkx : List GO := [qk 4 vn]
def Qkw : List GO := [qm 16 3, ⟨none, .bin 17 .geq 171 (.tmp 16) (.const (.int .u64 128))⟩]
def Qkv : List GO := [qm 18 4, qm 19 3, ⟨none, .bin 20 .rem 171 (.tmp 19) (.const (.int .u64 128))⟩, ⟨none, .bin 21 .add 171 (.tmp 20) (.const (.int .u64 128))⟩, ⟨none, .conv 22 .u8 (.tmp 21)⟩, ⟨none, .buildS 23 5 1 [(.int .u8 0)] [(0, (1, (.tmp 22)))]⟩, ⟨none, .raw ⟨(some 24), (.call ⟨(.builtin .append), #[(.tmp 18), (.tmp 23)], #[25, 25]⟩), 25, "", #[], none⟩⟩, qm 4 24]
def Qku : List GO := [qm 25 3, ⟨none, .bin 26 .quo 171 (.tmp 25) (.const (.int .u64 128))⟩, qm 3 26]
def Q8S : LC := (.seq (.seq (.ops Qkw) (.cond (.tmp 17) .skip (.exit 0))) (.block 1 (.seq (.ops Qkv) (.ops Qku))))
def Qkt : List GO := [qm 27 4, qm 28 3, ⟨none, .conv 29 .u8 (.tmp 28)⟩, ⟨none, .buildS 30 5 1 [(.int .u8 0)] [(0, (1, (.tmp 29)))]⟩, ⟨none, .raw ⟨(some 31), (.call ⟨(.builtin .append), #[(.tmp 27), (.tmp 30)], #[25, 25]⟩), 25, "", #[], none⟩⟩, qm 2 31]
def R_longBytes_lc : LC := (.seq (.ops QkB) (.seq (.ops QkA) (.seq (.seq (.ops Qkz) (.cond (.tmp 9) (.ops Qky) .skip)) (.seq (.ops Qkx) (.seq (.block 0 (.loop Q8S)) (.seq (.ops Qkt) .ret))))))
@[reducible] def Q5C : FuncId := 98
theorem QhO : lowF Tryz.prog Tryz.f98 = some R_longBytes_lc := by kernel_rfl
theorem QkC {a0 : Value} {w : World} {R : Ending → World → Prop} (h : R_longBytes_lc.wp Tryz.prog (retQ Tryz.prog [.tmp 2] R) (Qg [a0]) w) : Calls Tryz.prog Q5C ⟨[a0]⟩ w R :=
  Q6 Tryz.func98 QhO (by kernel_rfl) (by kernel_rfl) h

/- 107 -/
def QeJ : List GO := [qk 2 (vi 0)]
def QeI : List GO := [qk 3 (.int .u64 0), qk 4 (.int .u64 1)]
def QeH : List GO := [qk 5 (vi 0)]
def QeG : List GO := [qm 7 0, ⟨none, .call (some 8) 57 [(.tmp 7)]⟩]
def QeF : List GO := [qm 11 0, qn 12 11, qf 13 12 1, ql 14 13, qm 15 0, qn 16 15, qf 17 16 0, ql 18 17, qL 19 18, qt 20 .geq 3 14 19]
def QeL : List (List Nat) := [[],[0],[1],[2],[],[4],[5],[6],[7],[3,8]]
def QeE : List GO := [qm 21 0, qm 22 0, qn 23 22, qf 24 23 0, ql 25 24, qL 26 25, ⟨none, .call (some 27) 108 [(.tmp 21), (.const (vi 5)), (.tmp 26)]⟩]
def QeD : List GO := [qm 28 0, qn 29 28, qf 30 29 0, ql 31 30, qm 32 0, qn 33 32, qf 34 33 1, ql 35 34, qi 36 1 31 35, ql 37 36, ⟨none, .conv 38 .u64 (.tmp 37)⟩, qm 6 38]
def QeK : List (List Nat) := [[],[0],[1],[2],[],[4],[5],[6],[3,7],[8],[9],[10,0,1,2,3,4,5,6,7,8,9,10]]
def QeC : List GO := [qm 39 5, qj 40 .eql 3 39 9, qm 41 40, qg 41 true (qm 42 6), ⟨some (41, true), .bin 43 .gtr 171 (.tmp 42) (.const (.int .u64 1))⟩, ⟨none, .pick 44 (.tmp 41) (.tmp 43) (.const (.bool false))⟩, qm 45 44, qg 45 false (qm 46 5), qg 45 false (qj 47 .gtr 3 46 0), qg 45 false (qm 48 47), qg 48 true (qm 49 6), ⟨some (48, true), .bin 50 .eql 171 (.tmp 49) (.const (.int .u64 0))⟩, ⟨some (45, false), .pick 51 (.tmp 48) (.tmp 50) (.const (.bool false))⟩, ⟨none, .pick 52 (.tmp 45) (.const (.bool true)) (.tmp 51)⟩]
def QeB : List GO := [qm 53 0, qm 54 0, qn 55 54, qf 56 55 1, ql 57 56, ⟨none, .call (some 58) 108 [(.tmp 53), (.const (vi 1)), (.tmp 57)]⟩]
def QeA : List GO := [qm 59 0, qn 60 59, qf 61 60 1, ql 62 61, qj 63 .add 3 62 1, qn 64 59, qf 65 64 1, qs 65 63]
def QcQ : List GO := [qm 66 3, qm 67 6, ⟨none, .bin 68 .rem 171 (.tmp 67) (.const (.int .u64 128))⟩, qm 69 4, qt 70 .mul 171 68 69, qt 71 .add 171 66 70, qm 3 71]
def QcP : List GO := [qm 72 4, ⟨none, .bin 73 .mul 171 (.tmp 72) (.const (.int .u64 128))⟩, qm 4 73]
def QcO : List GO := [qm 74 6, ⟨none, .bin 75 .lss 171 (.tmp 74) (.const (.int .u64 128))⟩]
def QcN : List GO := [qm 76 3, ⟨none, .bin 77 .rem 171 (.tmp 76) (.const (.int .u64 2))⟩, ⟨none, .bin 78 .eql 171 (.tmp 77) (.const (.int .u64 1))⟩]
def QcM : List GO := [qm 79 3, ⟨none, .bin 80 .quo 171 (.tmp 79) (.const (.int .u64 2))⟩, ⟨none, .conv 81 .i64 (.tmp 80)⟩, ⟨none, .un 82 .neg (.tmp 81)⟩, qj 83 .sub 2 82 1, qm 2 83]
def QcL : List GO := [qm 84 3, ⟨none, .bin 85 .quo 171 (.tmp 84) (.const (.int .u64 2))⟩, ⟨none, .conv 86 .i64 (.tmp 85)⟩, qm 2 86]
def QcK : List GO := [qm 9 5, qj 10 .add 3 9 1, qm 5 10]
def Q3K : LC := (.seq (.seq (.ops QeG) (.cond (.tmp 8) .skip (.exit 0))) (.seq (.block 1 (.seq (.seq (.draw QeF QeL) (.cond (.tmp 20) (.seq (.ops QeE) (.exit 0)) .skip)) (.seq (.draw QeD QeK) (.seq (.seq (.ops QeC) (.cond (.tmp 52) (.seq (.ops QeB) (.exit 0)) .skip)) (.seq (.ops QeA) (.seq (.ops QcQ) (.seq (.ops QcP) (.seq (.ops QcO) (.cond (.tmp 75) (.seq (.seq (.ops QcN) (.cond (.tmp 78) (.seq (.ops QcM) .ret) .skip)) (.seq (.ops QcL) .ret)) .skip))))))))) (.ops QcK)))
def QcJ : List GO := [qk 2 (vi 0)]
def R_taking_long_lc : LC := (.seq (.ops QeJ) (.seq (.ops QeI) (.seq (.seq (.ops QeH) (.block 0 (.loop Q3K))) (.seq (.ops QcJ) .ret))))
@[reducible] def Q1p : FuncId := 107
theorem QcR : lowF Tryz.prog Tryz.f107 = some R_taking_long_lc := by kernel_rfl
theorem Q5J {a0 : Value} {w : World} {R : Ending → World → Prop} (h : R_taking_long_lc.wp Tryz.prog (retQ Tryz.prog [.tmp 2] R) (Qg [a0]) w) : Calls Tryz.prog Q1p ⟨[a0]⟩ w R :=
  Q6 Tryz.func107 QcR (by kernel_rfl) (by kernel_rfl) h

/- 108 -/
def Qcx : List GO := [qm 6 0, ⟨none, .call (some 7) 57 [(.tmp 6)]⟩]
def Qcw : List GO := [qm 8 0, qm 9 1, qm 10 2, ⟨none, .call (some 11) 51 [(.tmp 9), (.tmp 10)]⟩, qn 12 8, qf 13 12 2, qw 2 13 11]
def R_taking_wrong_lc : LC := (.seq (.ops Qcx) (.cond (.tmp 7) (.ops Qcw) .skip))
@[reducible] def Q2S : FuncId := 108
theorem Qbb : lowF Tryz.prog Tryz.f108 = some R_taking_wrong_lc := by kernel_rfl
theorem Qcy {a0 a1 a2 : Value} {w : World} {R : Ending → World → Prop} (h : R_taking_wrong_lc.wp Tryz.prog (retQ Tryz.prog [] R) (Qg [a0, a1, a2]) w) : Calls Tryz.prog Q2S ⟨[a0, a1, a2]⟩ w R :=
  Q6 Tryz.func108 Qbb (by kernel_rfl) (by kernel_rfl) h

/- 109 -/
def QhL : List GO := [⟨none, .alloc 2 57 [(vi 0), (vi 0), (vi 0), (vi 0), (vi 0), (vi 0), vn, vn]⟩]
def QhK : List GO := [qm 6 0, ⟨none, .call (some 7) 58 [(.tmp 6)]⟩, ⟨none, .build 8 [(vi 0), (vi 0), (vi 0), (vi 0), (vi 0), (vi 0), vn, vn] [(0, (1, (.tmp 7)))]⟩, ⟨none, .alloc 3 57 [(vi 0), (vi 0), (vi 0), (vi 0), (vi 0), (vi 0), vn, vn]⟩, qw 8 3 8]
def QhJ : List GO := [qf 10 3 0, ql 11 10, ⟨none, .call (some 12) 99 [(.tmp 11)]⟩, qm 9 12, qx 13 9 0, qx 14 9 1, ⟨none, .alloc 4 144 [(.bool false), (.bool false), (.bool false), (.bool false), (.bool false), (.bool false), (.bool false)]⟩, qw 7 4 13, qm 5 14]
def QhI : List GO := [qf 15 4 0, ql 16 15]
def QhH : List GO := [qm 17 0, ⟨none, .call (some 18) 58 [(.tmp 17)]⟩, qf 19 3 1, qs 19 18]
def QhG : List GO := [qf 20 4 1, ql 21 20]
def QhF : List GO := [qm 22 0, ⟨none, .call (some 23) 58 [(.tmp 22)]⟩, qf 24 3 2, qs 24 23]
def QhE : List GO := [qf 25 4 2, ql 26 25]
def QhD : List GO := [qm 27 0, ⟨none, .call (some 28) 58 [(.tmp 27)]⟩, qf 29 3 3, qs 29 28]
def QhC : List GO := [qf 30 4 3, ql 31 30]
def Qf3 : List GO := [qm 32 0, ⟨none, .call (some 33) 58 [(.tmp 32)]⟩, qf 34 3 4, qs 34 33]
def Qf2 : List GO := [qf 35 4 4, ql 36 35]
def Qf1 : List GO := [qm 37 0, ⟨none, .call (some 38) 107 [(.tmp 37)]⟩, qf 39 3 5, qs 39 38]
def Qf0 : List GO := [qf 40 4 5, ql 41 40]
def QeZ : List GO := [qm 42 0, ⟨none, .call (some 43) 111 [(.tmp 42)]⟩, qf 44 3 6, qs 44 43]
def QeY : List GO := [qf 45 4 6, ql 46 45]
def QeX : List GO := [qm 47 0, ⟨none, .call (some 48) 111 [(.tmp 47)]⟩, qf 49 3 7, qs 49 48]
def QeW : List GO := [qV 50 8 3, qw 8 2 50]
def R_taking_ins_lc : LC := (.seq (.ops QhL) (.seq (.ops QhK) (.seq (.ops QhJ) (.seq (.seq (.ops QhI) (.cond (.tmp 16) (.ops QhH) .skip)) (.seq (.seq (.ops QhG) (.cond (.tmp 21) (.ops QhF) .skip)) (.seq (.seq (.ops QhE) (.cond (.tmp 26) (.ops QhD) .skip)) (.seq (.seq (.ops QhC) (.cond (.tmp 31) (.ops Qf3) .skip)) (.seq (.seq (.ops Qf2) (.cond (.tmp 36) (.ops Qf1) .skip)) (.seq (.seq (.ops Qf0) (.cond (.tmp 41) (.ops QeZ) .skip)) (.seq (.seq (.ops QeY) (.cond (.tmp 46) (.ops QeX) .skip)) (.seq (.ops QeW) .ret)))))))))))
@[reducible] def QW : FuncId := 109
theorem Qf4 : lowF Tryz.prog Tryz.f109 = some R_taking_ins_lc := by kernel_rfl
theorem QhM {a0 : Value} {w : World} {R : Ending → World → Prop} (h : R_taking_ins_lc.wp Tryz.prog (retQ Tryz.prog [.cell 2 57] R) (Qg [a0]) w) : Calls Tryz.prog QW ⟨[a0]⟩ w R :=
  Q6 Tryz.func109 Qf4 (by kernel_rfl) (by kernel_rfl) h

/- 110 -/
def Qkd : List GO := [⟨none, .alloc 2 43 [(vi 0), vn, vn]⟩]
def Qkc : List GO := [qm 4 0, ⟨none, .call (some 5) 58 [(.tmp 4)]⟩, ⟨none, .build 6 [(vi 0), vn, vn] [(0, (1, (.tmp 5)))]⟩, ⟨none, .alloc 3 43 [(vi 0), vn, vn]⟩, qw 3 3 6]
def Qkb : List GO := [qm 7 0, ⟨none, .call (some 8) 111 [(.tmp 7)]⟩, qf 9 3 1, qs 9 8]
def Qka : List GO := [qm 10 0, ⟨none, .call (some 11) 111 [(.tmp 10)]⟩, qf 12 3 2, qs 12 11]
def Qk9 : List GO := [qV 13 3 3, qw 3 2 13]
def R_taking_to_lc : LC := (.seq (.ops Qkd) (.seq (.ops Qkc) (.seq (.ops Qkb) (.seq (.ops Qka) (.seq (.ops Qk9) .ret)))))
@[reducible] def Qhx : FuncId := 110
theorem Qhw : lowF Tryz.prog Tryz.f110 = some R_taking_to_lc := by kernel_rfl
theorem Qke {a0 : Value} {w : World} {R : Ending → World → Prop} (h : R_taking_to_lc.wp Tryz.prog (retQ Tryz.prog [.cell 2 43] R) (Qg [a0]) w) : Calls Tryz.prog Qhx ⟨[a0]⟩ w R :=
  Q6 Tryz.func110 Qhw (by kernel_rfl) (by kernel_rfl) h

/- 111 -/
def QeT : List GO := [qk 2 vn]
def QeS : List GO := [qk 3 vn]
def QeR : List GO := [qm 6 0, ⟨none, .call (some 7) 56 [(.tmp 6)]⟩, qm 4 7]
def QeQ : List GO := [qk 5 (vi 0)]
def QeP : List GO := [qm 8 5, qm 9 4, qt 10 .lss 3 8 9, qm 11 10, qg 11 true (qm 12 0), ⟨some (11, true), .call (some 13) 57 [(.tmp 12)]⟩, ⟨none, .pick 14 (.tmp 11) (.tmp 13) (.const (.bool false))⟩]
def QeO : List GO := [qm 17 3, qm 18 0, ⟨none, .call (some 19) 58 [(.tmp 18)]⟩, ⟨none, .buildS 20 3 1 [(vi 0)] [(0, (1, (.tmp 19)))]⟩, ⟨none, .raw ⟨(some 21), (.call ⟨(.builtin .append), #[(.tmp 17), (.tmp 20)], #[41, 41]⟩), 41, "", #[], none⟩⟩, qm 3 21]
def QeN : List GO := [qm 15 5, qj 16 .add 3 15 1, qm 5 16]
def Q5K : LC := (.seq (.seq (.ops QeP) (.cond (.tmp 14) .skip (.exit 0))) (.seq (.block 1 (.ops QeO)) (.ops QeN)))
def QeM : List GO := [qm 22 3, qm 2 22]
def R_taking_ints_lc : LC := (.seq (.ops QeT) (.seq (.ops QeS) (.seq (.ops QeR) (.seq (.seq (.ops QeQ) (.block 0 (.loop Q5K))) (.seq (.ops QeM) .ret)))))
@[reducible] def Q3W : FuncId := 111
theorem QcS : lowF Tryz.prog Tryz.f111 = some R_taking_ints_lc := by kernel_rfl
theorem QeU {a0 : Value} {w : World} {R : Ending → World → Prop} (h : R_taking_ints_lc.wp Tryz.prog (retQ Tryz.prog [.tmp 2] R) (Qg [a0]) w) : Calls Tryz.prog Q3W ⟨[a0]⟩ w R :=
  Q6 Tryz.func111 QcS (by kernel_rfl) (by kernel_rfl) h

end Go.Proofs.YtanlkfeogoganaaGreat
namespace Go.Proofs.YtanlkfeogoganaaGreat
open Go.Lir
set_option maxRecDepth 100000
theorem Qvq : Q3M Tryz.prog 22 = some (53, 4, 80, [(.int .i64 0), (.slice none 0 0), (.slice none 0 0), (.slice none 0 0)]) := by kernel_rfl
theorem u_T22 : ∃ e2, Tryz.prog.underlying 22 = some (.slice e2) := ⟨53, by kernel_rfl⟩
theorem Qs : Q3M Tryz.prog 25 = some (5, 1, 1, [(.int .u8 0)]) := by kernel_rfl
theorem QP : ∃ e2, Tryz.prog.underlying 25 = some (.slice e2) := ⟨5, by kernel_rfl⟩
theorem Qvp : Q3M Tryz.prog 40 = some (57, 8, 96, [(.int .i64 0), (.int .i64 0), (.int .i64 0), (.int .i64 0), (.int .i64 0), (.int .i64 0), (.slice none 0 0), (.slice none 0 0)]) := by kernel_rfl
theorem u_T40 : ∃ e2, Tryz.prog.underlying 40 = some (.slice e2) := ⟨57, by kernel_rfl⟩
theorem Qtg : Q3M Tryz.prog 41 = some (3, 1, 8, [(.int .i64 0)]) := by kernel_rfl
theorem u_T41 : ∃ e2, Tryz.prog.underlying 41 = some (.slice e2) := ⟨3, by kernel_rfl⟩
theorem Qvo : Q3M Tryz.prog 50 = some (112, 3, 40, [(.int .i64 0), (.int .i64 0), (.slice none 0 0)]) := by kernel_rfl
theorem u_T50 : ∃ e2, Tryz.prog.underlying 50 = some (.slice e2) := ⟨112, by kernel_rfl⟩
theorem Qvn : Q3M Tryz.prog 51 = some (79, 12, 208, [(.int .i64 0), (.slice none 0 0), (.slice none 0 0), (.int .i64 0), (.int .i64 0), (.int .i64 0), (.slice none 0 0), (.slice none 0 0), (.int .i64 0), (.slice none 0 0), (.slice none 0 0), (.slice none 0 0)]) := by kernel_rfl
theorem u_T51 : ∃ e2, Tryz.prog.underlying 51 = some (.slice e2) := ⟨79, by kernel_rfl⟩
end Go.Proofs.YtanlkfeogoganaaGreat
namespace Go.Lir
theorem crc_ref {X r c : BitVec 32} {k : Nat} (h : r ^^^ (X >>> k) = crcN k c) :
    (if ((X >>> k) &&& 1#32) ^^^ (r &&& 1#32) = 1#32 then (r >>> 1) ^^^ 3988292384#32 else r >>> 1) ^^^ (X >>> (k + 1)) = crcN (k + 1) c := by
  rw [Qq4, ← h, QtN, QmK, QmK, BitVec.getLsbD_xor]
  have e : (r ^^^ X >>> k) >>> 1 = (r >>> 1) ^^^ (X >>> (k + 1)) := by
    rw [BitVec.ushiftRight_xor_distrib, ← BitVec.shiftRight_add]
  rw [e]
  cases r.getLsbD 0 <;> cases (X >>> k).getLsbD 0 <;> simp <;> ac_rfl
theorem crc_end {X r c : BitVec 32} (hX : X.toNat < 256) (h : r ^^^ (X >>> 8) = crcN 8 c) : r = crcN 8 c := by
  have e : X >>> 8 = 0#32 := by
    apply BitVec.eq_of_toNat_eq
    rw [BitVec.toNat_ushiftRight, Nat.shiftRight_eq_div_pow]
    show X.toNat / 256 = 0
    omega
  rw [e, BitVec.xor_zero] at h
  exact h
theorem crc_fin (r : BitVec 32) : IntKind.u32.wrap (4294967295 - (r.toNat : Int)) = ((4294967295#32 ^^^ r).toNat : Int) := by
  have hr := r.isLt
  have e : (4294967295#32 ^^^ r) = ~~~ r := by
    rw [BitVec.not_def]; rfl
  rw [e, BitVec.toNat_not]
  rw [show (4294967295 - (r.toNat : Int)) = ((4294967295 - r.toNat : Nat) : Int) by omega, QfN _ (by omega)]
theorem Qvg {l : List UInt8} {j : Nat} {x : UInt8} {c : BitVec 32} (h : l[j]? = some x) : (l.take (j + 1)).foldl Q4H c = Q4H ((l.take j).foldl Q4H c) x := by
  rw [List.take_add_one, h, List.foldl_append]; rfl
end Go.Lir
namespace Go.Proofs.YtanlkfeogoganaaGreat
open Go.Lir
set_option maxHeartbeats 1000000
attribute [local irreducible] LC.wp Q5 QN Q11 retQ Q1T LO.wp Qr Calls
set_option linter.unusedSimpArgs false
set_option linter.unusedVariables false
attribute [local irreducible] bitI IntKind.wrap
variable {cx : Cx} {w : World} {L : List Res}
theorem crc_out {bs : List UInt8} {j k : Nat} {r r1 : BitVec 32} {x : UInt8} (hx : bs[j]? = some x) (hk : k = 8) (h : r1 ^^^ (BitVec.ofNat 32 x.toNat >>> k) = crcN k (r ^^^ BitVec.ofNat 32 x.toNat)) (hr : r = (bs.take j).foldl Q4H 4294967295#32) : r1 = (bs.take (j + 1)).foldl Q4H 4294967295#32 := by
  subst hk
  rw [Qvg hx, ← hr]
  exact crc_end (by have := x.toNat_lt; rw [BitVec.toNat_ofNat, Nat.mod_eq_of_lt (by omega)]; omega) h
theorem bit_of {a : BitVec 32} (h : (a.toNat : Int) = 1) : a = 1#32 := BitVec.eq_of_toNat_eq (by show a.toNat = 1; omega)
theorem bit_not {a : BitVec 32} (h : ¬ (a.toNat : Int) = 1) : ¬ a = 1#32 := by rintro rfl; exact h rfl
theorem QmJ {bs : List UInt8} {v : Value} (hl : u8R.sl cx v bs) (hS : St cx w L) : Rets Tryz.prog Qpq [v] w fun u w' => u = .int .u32 ((Q3B bs).toNat : Int) ∧ St cx w' L := by
  have hlen := hl.len
  all_goals refine Qu5 ?_
  all_goals (unfold R_CrcOf_lc; refine Q0 ?_; refine Q1 ?_; refine zm ?_; refine zn ?_; refine Q0 ?_; refine Q1 ?_; refine zm ?_; refine zn ?_; refine Q0 ?_; refine Q0 ?_; refine Q1 ?_; refine zm ?_; refine zn ?_; refine Q8 ?_)
  refine zoL hS [0] (fun A LL ρ' w' => ∃ (j : Nat) (r : BitVec 32), Has ρ' A ∧ Has ρ' [(3, .int .u32 (r.toNat : Int)), (4, .int .i64 j)] ∧ (j ≤ bs.length) ∧ (r = (bs.take j).foldl Q4H 4294967295#32) ∧ St cx w' (LL)) (fun ρ' _ => (bs.length - iv (ρ' 4)).toNat) ?_ ?_
  · exact ⟨0, 4294967295#32, zh, zh, (by omega), by rw [List.take_zero]; rfl, hS.sp⟩
  rintro ρ w1 ⟨j, r, hA, hρ, hj, hr, hS⟩; obtain ⟨ρ, rfl⟩ := env2 hA hρ
  unfold Qmb
  all_goals (refine Q0 ?_; refine Q0 ?_; refine Q1 ?_; refine zm ?_; refine zm ?_; refine zL ?_; refine Qt rfl rfl ?_; refine zn ?_)
  refine Qm rfl (fun hc => ?_) (fun hc => ?_)
  · skip
    all_goals (refine zsk ?_; refine Q0 ?_; refine Q8 ?_; refine Q0 ?_; refine Q1 ?_; refine zm ?_; refine zn ?_; refine Q8 ?_)
    refine zoL hS [0, 4] (fun A LL ρ' w' => ∃ (k : Nat) (r1 : BitVec 32), Has ρ' A ∧ Has ρ' [(3, .int .u32 (r1.toNat : Int)), (5, .int .i64 k)] ∧ (k ≤ 8) ∧ (∀ x, bs[j]? = some x → r1 ^^^ (BitVec.ofNat 32 x.toNat >>> k) = crcN k (r ^^^ BitVec.ofNat 32 x.toNat)) ∧ St cx w' (LL)) (fun ρ' _ => (8 - iv (ρ' 5)).toNat) ?_ ?_
    · exact ⟨0, r, zh, zh, (by omega), fun x _ => by rfl, hS.sp⟩
    rintro ρ w1 ⟨k, r1, hA, hρ, hk, hd1, hS⟩; obtain ⟨ρ, rfl⟩ := env2 hA hρ
    unfold Qma
    all_goals (refine Q0 ?_; refine Q0 ?_; refine Q1 ?_; refine zm ?_; refine Qt rfl rfl ?_; refine zn ?_)
    refine Qm rfl (fun hc => ?_) (fun hc => ?_)
    · skip
      all_goals (refine zsk ?_; refine Q0 ?_; refine Q8 ?_; refine Q0 ?_; refine Q1 ?_; refine zm ?_; refine zm ?_; refine zi ?_; intro b1 o1 cs1 x1 hat1 hx1 he1; (first | (obtain rfl := Q25 he1) | (obtain rfl := Q35 he1)); (first | (refine zl hS ?_) | (refine zlk hS ?_)); refine Q28 rfl ?_; rw [QvA]; refine zm ?_; refine Q28 rfl ?_; rw [Q1X (n := k) (by omega)]; refine Q7Q rfl rfl (by omega) ?_; rw [Q7s _ k (by omega)]; refine Q8Z rfl rfl ?_; rw [show (1 : Int) = ((1#32).toNat : Int) from rfl, Qtj]; refine zm ?_; refine Q8Z rfl rfl ?_; rw [Qtj]; refine QrM rfl rfl ?_; rw [Qqo]; refine zm ?_; refine zn ?_; refine Q0 ?_; refine Q1 ?_; refine zm ?_; refine Q7Q rfl rfl (by decide) ?_; rw [bv_shr]; refine zm ?_; refine zn ?_; refine Q0 ?_; refine Q1 ?_; refine zm ?_)
      all_goals (first | (refine Qy ?_) | (refine QC ?_) | (refine Qn rfl rfl (fun hc => ?_) (fun hc => ?_)))
      all_goals (refine zn ?_)
      all_goals
        first
        | (refine Q3 rfl ?_ -- Qpq c2
           all_goals (refine Q1 ?_; refine zm ?_; refine QrM rfl rfl ?_; rw [show (3988292384 : Int) = ((3988292384#32).toNat : Int) from rfl, Qqo]; refine zm ?_)
           all_goals refine zn ?_)
        | (refine Q4 rfl ?_ -- Qpq c2
           all_goals refine zsk ?_)
      all_goals (refine Q1 ?_; refine zm ?_; refine zad ?_; refine zm ?_; refine zn ?_; exact ⟨⟨k + 1, _, zh, zh, (by omega), fun x hx => by have h9 := crc_ref (hd1 x hx); obtain rfl : x1 = x := Option.some.inj (hx1.symm.trans hx); first | (rw [if_pos (bit_of hc)] at h9; exact h9) | (rw [if_neg (bit_not hc)] at h9; exact h9), hS.sp⟩, Qh (by omega)⟩)
    · skip
      all_goals (refine zex ?_; refine Q1 ?_; refine zm ?_; refine zad ?_; refine zm ?_; refine zn ?_; exact ⟨⟨j + 1, r1, zh, zh, (by omega), by obtain ⟨x, hx⟩ : ∃ x, bs[j]? = some x := ⟨_, List.getElem?_eq_getElem (by omega)⟩; exact crc_out hx (by omega) (hd1 x hx) hr, hS.sp⟩, Qh (by omega)⟩)
  · skip
    all_goals (refine zex ?_; refine Q0 ?_; refine Q1 ?_; refine zm ?_; refine s_subiw rfl rfl ?_; rw [crc_fin]; refine zm ?_; refine zn ?_; refine zr ?_; refine zf ?_; refine ⟨_, rfl, ?_, hS.sp⟩; unfold Q3B; rw [hr, List.take_of_length_le (by omega)]; done)
end Go.Proofs.YtanlkfeogoganaaGreat
