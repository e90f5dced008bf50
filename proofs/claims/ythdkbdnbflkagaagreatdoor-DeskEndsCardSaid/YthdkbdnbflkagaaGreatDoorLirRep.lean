/- How data of any shape is read: a relation between cells and what they are. -/
import Derived.Test.YthdkbdnbflkagaaGreatDoorTyCod
import Derived.Test.YthdkbdnbflkagaaGreatDoorLirFld
namespace Go.Lir

theorem SlR.turn {H H' : Heap} {es : Nat} {v : Value} {F G : Nat → Prop} {css : List (List Value)} (h : SlR H es v F css) (hs : ∀ b, F b → b < H.size → G b ∧ H'[b]? = H[b]?) : SlR H' es v G css := by
  obtain ⟨h0, a, cap, hv, hlc, hc | ⟨b, off, ha, hF, hb, hat⟩⟩ := h
  · exact ⟨h0, a, cap, hv, hlc, .inl hc⟩
  · obtain ⟨h1, h2⟩ := hs b hF hb
    refine ⟨h0, a, cap, hv, hlc, .inr ⟨b, off, ha, h1, ?_, fun m c hm => (hat m c hm).of_same h2⟩⟩
    rcases Nat.lt_or_ge b H'.size with h | h
    · exact h
    · rw [Array.getElem?_eq_none h, Array.getElem?_eq_getElem hb] at h2; cases h2

/-- A kind of data: what cells (that lie in K, and what they lead to) say. -/
structure Rep (α : Type) where
  es : Nat
  pos : 0 < es
  R : Heap → (Nat → Prop) → List Value → α → Prop
  len : ∀ {H : Heap} {K : Nat → Prop} {cs : List Value} {x : α}, R H K cs x → cs.length = es
  one : ∀ {H : Heap} {K : Nat → Prop} {cs : List Value} {x : α}, R H K cs x → ∀ u ∈ cs, oneC u = true
  turn : ∀ {H H' : Heap} {K K' : Nat → Prop} {cs : List Value} {x : α}, R H K cs x → (∀ b, K b → b < H.size → K' b ∧ H'[b]? = H[b]?) → R H' K' cs x

section
variable {α β : Type}
/-- Rows of cells that are the parts of a list. -/
def Rep.LR (r : Rep α) (H : Heap) (K : Nat → Prop) (css : List (List Value)) (l : List α) : Prop := css.length = l.length ∧ ∀ (m : Nat) (x : α), l[m]? = some x → ∃ d, css[m]? = some d ∧ r.R H K d x
/-- A slice that reads as the list. -/
def Rep.SR (r : Rep α) (H : Heap) (K : Nat → Prop) (v : Value) (l : List α) : Prop := ∃ css, SlR H r.es v K css ∧ r.LR H K css l ∧ l.length ≤ 140737488355328
theorem Rep.LR.turn {r : Rep α} {H H' : Heap} {K K' : Nat → Prop} {css : List (List Value)} {l : List α} (h : r.LR H K css l) (hs : ∀ b, K b → b < H.size → K' b ∧ H'[b]? = H[b]?) : r.LR H' K' css l :=
  ⟨h.1, fun m x hx => by obtain ⟨d, h1, h2⟩ := h.2 m x hx; exact ⟨d, h1, r.turn h2 hs⟩⟩
theorem Rep.SR.turn {r : Rep α} {H H' : Heap} {K K' : Nat → Prop} {v : Value} {l : List α} (h : r.SR H K v l) (hs : ∀ b, K b → b < H.size → K' b ∧ H'[b]? = H[b]?) : r.SR H' K' v l := by
  obtain ⟨css, h1, h2, h3⟩ := h
  exact ⟨css, h1.turn hs, h2.turn hs, h3⟩
theorem Rep.LR.nil (r : Rep α) (H : Heap) (K : Nat → Prop) : r.LR H K [] [] := ⟨rfl, by simp⟩
theorem Rep.LR.push {r : Rep α} {H : Heap} {K : Nat → Prop} {css : List (List Value)} {l : List α} {d : List Value} {x : α} (h : r.LR H K css l) (hd : r.R H K d x) : r.LR H K (css ++ [d]) (l ++ [x]) := by
  refine ⟨by simp [h.1], fun m y hy => ?_⟩
  rcases Nat.lt_or_ge m l.length with hm | hm
  · rw [List.getElem?_append_left hm] at hy
    rw [List.getElem?_append_left (by rw [h.1]; exact hm)]
    exact h.2 m y hy
  · rw [List.getElem?_append_right hm] at hy
    rw [List.getElem?_append_right (by rw [h.1]; exact hm), h.1]
    obtain ⟨i, hi⟩ : ∃ i, m - l.length = i := ⟨_, rfl⟩
    rw [hi] at hy ⊢
    cases i with
    | zero => simp only [List.getElem?_cons_zero, Option.some.injEq] at hy; subst hy; exact ⟨d, rfl, hd⟩
    | succ i => simp at hy
theorem Rep.LR.append {r : Rep α} {H : Heap} {K : Nat → Prop} {css css2 : List (List Value)} {l l2 : List α} (h : r.LR H K css l) (h2 : r.LR H K css2 l2) : r.LR H K (css ++ css2) (l ++ l2) := by
  refine ⟨by simp [h.1, h2.1], fun m y hy => ?_⟩
  rcases Nat.lt_or_ge m l.length with hm | hm
  · rw [List.getElem?_append_left hm] at hy
    rw [List.getElem?_append_left (by rw [h.1]; exact hm)]
    exact h.2 m y hy
  · rw [List.getElem?_append_right hm] at hy
    rw [List.getElem?_append_right (by rw [h.1]; exact hm), h.1]
    exact h2.2 _ y hy
theorem Rep.LR.set {r : Rep α} {H : Heap} {K : Nat → Prop} {css : List (List Value)} {l : List α} {d : List Value} {x : α} {i : Nat} (h : r.LR H K css l) (hd : r.R H K d x) : r.LR H K (css.set i d) (l.set i x) := by
  refine ⟨by simp [h.1], fun m y hy => ?_⟩
  rw [List.getElem?_set] at hy ⊢
  by_cases he : i = m
  · rw [if_pos he] at hy ⊢
    rw [h.1]
    split at hy
    · rename_i hm; rw [if_pos hm]; cases hy; exact ⟨d, rfl, hd⟩
    · cases hy
  · rw [if_neg he] at hy ⊢
    exact h.2 m y hy
theorem Rep.LR.sub {r : Rep α} {H : Heap} {K : Nat → Prop} {css : List (List Value)} {l : List α} (h : r.LR H K css l) (i j : Nat) : r.LR H K ((css.take j).drop i) ((l.take j).drop i) := by
  refine ⟨by simp [h.1], fun m y hy => ?_⟩
  rw [List.getElem?_drop] at hy ⊢
  have hlt := (List.getElem?_eq_some_iff.1 hy).1
  rw [List.length_take] at hlt
  rw [List.getElem?_take_of_lt (by omega)] at hy ⊢
  exact h.2 _ y hy
theorem Rep.LR.one {r : Rep α} {H : Heap} {K : Nat → Prop} {css : List (List Value)} {l : List α} (h : r.LR H K css l) : ∀ c ∈ css, ∀ u ∈ c, oneC u = true := by
  intro c hc
  obtain ⟨m, hm⟩ := List.mem_iff_getElem?.1 hc
  have hlt := (List.getElem?_eq_some_iff.1 hm).1
  obtain ⟨d, h1, h2⟩ := h.2 m _ (List.getElem?_eq_getElem (by rw [← h.1]; exact hlt))
  rw [hm] at h1; cases h1
  exact r.one h2
theorem Rep.LR.lens {r : Rep α} {H : Heap} {K : Nat → Prop} {css : List (List Value)} {l : List α} (h : r.LR H K css l) : ∀ c ∈ css, c.length = r.es := by
  intro c hc
  obtain ⟨m, hm⟩ := List.mem_iff_getElem?.1 hc
  have hlt := (List.getElem?_eq_some_iff.1 hm).1
  obtain ⟨d, h1, h2⟩ := h.2 m _ (List.getElem?_eq_getElem (by rw [← h.1]; exact hlt))
  rw [hm] at h1; cases h1
  exact r.len h2
theorem Rep.SR.oneC {r : Rep α} {H : Heap} {K : Nat → Prop} {v : Value} {l : List α} (h : r.SR H K v l) : Go.Lir.oneC v = true := by
  obtain ⟨css, h1, _⟩ := h; exact SlR.oneC h1
theorem Rep.SR.nil (r : Rep α) (H : Heap) (K : Nat → Prop) : r.SR H K (.slice none 0 0) [] := ⟨[], ⟨by simp, none, 0, rfl, Nat.le_refl _, .inl rfl⟩, .nil r H K, by simp⟩
theorem Rep.SR.len {r : Rep α} {H : Heap} {K : Nat → Prop} {v : Value} {l : List α} (h : r.SR H K v l) : l.length ≤ 140737488355328 := by obtain ⟨_, _, _, h⟩ := h; exact h
theorem Rep.SR.shape {r : Rep α} {H : Heap} {K : Nat → Prop} {v : Value} {l : List α} (h : r.SR H K v l) : ∃ a c, v = .slice a l.length c := by
  obtain ⟨css, h1, h2, _⟩ := h
  obtain ⟨a, c, hv⟩ := SlR.shape h1
  exact ⟨a, c, by rw [← h2.1]; exact hv⟩

theorem Rep.SR.nil_of {r : Rep α} {H : Heap} {K : Nat → Prop} {v : Value} {l : List α} {n c : Nat} (h : r.SR H K v l) (hv : v = .slice none n c) : l = [] := by
  obtain ⟨css, ⟨_, a, cap, hv2, _, hc | ⟨b, off, ha, _⟩⟩, h2, _⟩ := h
  · exact List.eq_nil_of_length_eq_zero (by rw [← h2.1, hc]; rfl)
  · rw [hv, ha] at hv2; simp at hv2
def Rep.lit (f : α → Value) (hf : ∀ x, oneC (f x) = true) : Rep α where
  es := 1
  pos := by decide
  R := fun _ _ cs x => cs = [f x]
  len := by rintro _ _ _ _ rfl; rfl
  one := by rintro _ _ _ x rfl u hu; simp at hu; subst hu; exact hf x
  turn := fun h _ => h
def intR : Rep Int := Rep.lit (fun n => .int .i64 n) (fun _ => rfl)
def byteR : Rep Nat := Rep.lit (fun n => .int .u8 n) (fun _ => rfl)
def boolR : Rep Bool := Rep.lit (fun b => .bool b) (fun _ => rfl)
def strR : Rep ByteArray := Rep.lit (fun b => .string b) (fun _ => rfl)
def Rep.list (r : Rep α) : Rep (List α) where
  es := 1
  pos := by decide
  R := fun H K cs l => ∃ v, cs = [v] ∧ r.SR H K v l
  len := by rintro _ _ _ _ ⟨v, rfl, _⟩; rfl
  one := by rintro _ _ _ _ ⟨v, rfl, h⟩ u hu; simp at hu; subst hu; exact h.oneC
  turn := by rintro _ _ _ _ _ _ ⟨v, rfl, h⟩ hs; exact ⟨v, rfl, h.turn hs⟩
def Rep.and (r : Rep α) (p : α → Prop) : Rep α where
  es := r.es
  pos := r.pos
  R := fun H K cs x => r.R H K cs x ∧ p x
  len := fun h => r.len h.1
  one := fun h => r.one h.1
  turn := fun h hs => ⟨r.turn h.1 hs, h.2⟩
def tyR : Rep Ty where
  es := 3
  pos := by decide
  R := fun H K cs t => ∃ n, tyRd H K n cs t
  len := by rintro _ _ _ _ ⟨n, h⟩; exact h.len
  one := by
    rintro _ _ _ _ ⟨n, h⟩
    cases n with
    | zero => exact h.elim
    | succ n =>
      obtain ⟨v, css, rfl, h2, _⟩ := h
      intro u hu; simp at hu
      rcases hu with rfl | rfl | rfl
      · rfl
      · rfl
      · exact SlR.oneC h2
  turn := by rintro _ _ _ _ _ _ ⟨n, h⟩ hs; exact ⟨n, h.turn fun v css hv => hv.turn hs⟩
theorem tyR_out {H : Heap} {K : Nat → Prop} {cs : List Value} {t : Ty} (h : tyR.R H K cs t) : ∃ v, cs = [.int .i64 t.kind, .int .i64 t.r, v] ∧ tyR.SR H K v t.l := by
  obtain ⟨n, h⟩ := h
  cases n with
  | zero => exact h.elim
  | succ n =>
    obtain ⟨v, css, h1, h2, h3, h4, h5⟩ := h
    exact ⟨v, h1, css, h2, ⟨h3, fun m x hx => by obtain ⟨d, h6, h7⟩ := h5 m x hx; exact ⟨d, h6, n, h7⟩⟩, h4⟩
theorem tyR_mk {H : Heap} {K : Nat → Prop} {k r : Int} {v : Value} {l : List Ty} (h : tyR.SR H K v l) : tyR.R H K [.int .i64 k, .int .i64 r, v] (.mk k r l) := by
  obtain ⟨css, h1, h2, h3⟩ := h
  obtain ⟨n, hn⟩ := max_all (xs := List.range l.length) (R := fun n m => ∀ x, l[m]? = some x → ∃ d, css[m]? = some d ∧ tyRd H K n d x) (fun n m i hnm hr x hx => by obtain ⟨d, h1, h2⟩ := hr x hx; exact ⟨d, h1, h2.more hnm⟩) (fun m hm => by
    have hlt := List.mem_range.1 hm
    obtain ⟨d, h4, n, h5⟩ := h2.2 m _ (List.getElem?_eq_getElem hlt)
    exact ⟨n, fun x hx => by rw [List.getElem?_eq_getElem hlt] at hx; cases hx; exact ⟨d, h4, h5⟩⟩)
  exact ⟨n + 1, v, css, rfl, h1, h2.1, h3, fun m x hx => hn m (List.mem_range.2 (List.getElem?_eq_some_iff.1 hx).1) x hx⟩

/-! what is only read -/
abbrev Rep.at (r : Rep α) (c : Cx) (cs : List Value) (x : α) : Prop := r.R c.H0 c.K cs x
abbrev Rep.sl (r : Rep α) (c : Cx) (v : Value) (l : List α) : Prop := r.SR c.H0 c.K v l
abbrev Rep.ls (r : Rep α) (c : Cx) (css : List (List Value)) (l : List α) : Prop := r.LR c.H0 c.K css l
theorem Cx.Le.turn {c c' : Cx} (h : c.Le c') : ∀ b, c.K b → b < c.H0.size → c'.K b ∧ c'.H0[b]? = c.H0[b]? := fun b hb _ => h.K b hb
theorem Rep.R.up {r : Rep α} {c c' : Cx} {cs : List Value} {x : α} (h : r.at c cs x) (hle : c.Le c') : r.at c' cs x := r.turn h hle.turn
theorem Rep.SR.up {r : Rep α} {c c' : Cx} {v : Value} {l : List α} (h : r.sl c v l) (hle : c.Le c') : r.sl c' v l := Rep.SR.turn h hle.turn
theorem Rep.LR.up {r : Rep α} {c c' : Cx} {v : List (List Value)} {l : List α} (h : r.ls c v l) (hle : c.Le c') : r.ls c' v l := Rep.LR.turn h hle.turn
/-- From here on an own list is only read. -/
theorem St.freezeL {r : Rep α} {c : Cx} {w : World} {L : List Res} {T : TypeId} {es : Nat} {v : Value} {css : List (List Value)} {l : List α} (h : St c w (sl T es v css :: L)) (hl : r.ls c css l) (hes : r.es = es) (hm : l.length ≤ 140737488355328) : ∃ c', c.Le c' ∧ St c' w L ∧ r.sl c' v l := by
  subst hes
  obtain ⟨c', h1, h2, h3⟩ := h.freezeS
  exact ⟨c', h1, h2, css, h3, hl.up h1, hm⟩
theorem Rep.SR.ints {c : Cx} {v : Value} {l : List Int} (h : intR.sl c v l) : FzS c 1 v (l.map icell) := by
  obtain ⟨css, h1, h2, h3⟩ := h
  have : css = l.map icell := by
    apply List.ext_getElem?
    intro m
    rw [List.getElem?_map]
    rcases Nat.lt_or_ge m l.length with hm | hm
    · obtain ⟨d, h4, h5⟩ := h2.2 m _ (List.getElem?_eq_getElem hm)
      have h5 : d = [_] := h5
      rw [h4, List.getElem?_eq_getElem hm, h5]; rfl
    · rw [List.getElem?_eq_none (by rw [h2.1]; exact hm), List.getElem?_eq_none hm]; rfl
  rw [this] at h1; exact h1
theorem FzS.ints {c : Cx} {v : Value} {l : List Int} (h : FzS c 1 v (l.map icell)) (hm : l.length ≤ 140737488355328) : intR.sl c v l :=
  ⟨_, h, ⟨by simp, fun m x hx => ⟨icell x, by rw [List.getElem?_map, hx]; rfl, rfl⟩⟩, hm⟩

section
variable {P : Program} {l : List GO} {Q : QT} {ρ : Env} {w : World} {c : Cx} {L : List Res} {r : Rep α} {xs : List α} {v : Value} {es : Nat}
theorem s_idxL {d : Nat} {x y : Operand} {k : IntKind} {n : Int} (hx : ρ.ev x = v) (hy : ρ.ev y = .int k n) (hK : r.sl c v xs) (hes : r.es = es) (h0 : 0 ≤ n) (hn : n < xs.length)
    (h : ∀ b o cs a, AtK c b o cs → xs[n.toNat]? = some a → r.at c cs a → opsWp P l Q (upd ρ d (.pointer (some ⟨b, o, none⟩))) w) : opsWp P (⟨none, .idx d es x y⟩ :: l) Q ρ w := by
  subst hes
  obtain ⟨css, h1, h2, h3⟩ := hK
  have hn' : n.toNat < xs.length := by omega
  obtain ⟨cs, h4, h5⟩ := h2.2 n.toNat _ (List.getElem?_eq_getElem hn')
  exact s_idxK (m := n.toNat) hx (by rw [hy, Int.toNat_of_nonneg h0]) h1 h4 fun b o hb => h b o cs _ hb (List.getElem?_eq_getElem hn') h5
theorem s_idxLn {d m : Nat} {x y : Operand} {k : IntKind} (hx : ρ.ev x = v) (hy : ρ.ev y = .int k (m : Int)) (hK : r.sl c v xs) (hes : r.es = es) (hn : m < xs.length)
    (h : ∀ b o cs a, AtK c b o cs → xs[m]? = some a → r.at c cs a → opsWp P l Q (upd ρ d (.pointer (some ⟨b, o, none⟩))) w) : opsWp P (⟨none, .idx d es x y⟩ :: l) Q ρ w := by
  subst hes
  obtain ⟨css, h1, h2, h3⟩ := hK
  obtain ⟨cs, h4, h5⟩ := h2.2 m _ (List.getElem?_eq_getElem hn)
  exact s_idxK (m := m) hx hy h1 h4 fun b o hb => h b o cs _ hb (List.getElem?_eq_getElem hn) h5
theorem drop_cons {l : List α} {m : Nat} {x : α} (h : l[m]? = some x) : l.drop m = x :: l.drop (m + 1) := by
  obtain ⟨hm, rfl⟩ := List.getElem?_eq_some_iff.1 h
  exact List.drop_eq_getElem_cons hm
theorem take_snoc {l : List α} {m : Nat} {x : α} (h : l[m]? = some x) : l.take (m + 1) = l.take m ++ [x] := by
  rw [List.take_add_one, h]; rfl
theorem intR_out {cs : List Value} {n : Int} (h : intR.at c cs n) : cs = [.int .i64 n] := h
theorem s_ask {C : LC} {i : Nat} {u : Value} (h : ρ i = u) (k : ρ i = u → C.wp P Q ρ w) : C.wp P Q ρ w := k h
theorem nth_setq : ∀ {L : List Res} {i : Nat} {a a' : Res}, nth L i = some a → nth (L.set i a') i = some a'
  | [], _, _, _, h => by cases h
  | _ :: _, 0, _, _, _ => rfl
  | _ :: L, i + 1, _, _, h => nth_setq (L := L) (i := i) h
/-- append of one element that was just built. -/
theorem s_appR1 {T T' d Ts Ts2 Ty nb i k b : Nat} {z : List Value} {x y : Operand} {ds : List Value} {css : List (List Value)} {a : α} (hel : elInfo P Ts = some (T, es, nb, z))
    (hts : ∃ e2, P.underlying Ts2 = some (.slice e2)) (hS : St c w L) (hx : ρ.ev x = v) (hy : ρ.ev y = .slice (some ⟨b, 0, none⟩) 1 1) (hi : nth L i = some (Go.Lir.sl T es v css)) (hk : nth L k = some (blk b T' ds)) (hls : r.ls c css xs) (ha : r.at c ds a) (hes : r.es = es) (hb : (xs.length + 1) * nb ≤ 140737488355328)
    (h : ∀ v' w' css', r.ls c css' (xs ++ [a]) → oneC v' = true → St c w' (L.set i (Go.Lir.sl T es v' css')) → opsWp P l Q (upd ρ d v') w') : opsWp P (⟨none, .raw ⟨some d, .call ⟨.builtin .append, #[x, y], #[Ts, Ts2]⟩, Ty, "", #[], none⟩⟩ :: l) Q ρ w :=
  s_appE hel (.inl hts) hS hx hy hi (hS.srcB hk ((r.len ha).trans hes) (r.one ha)) (by rw [hls.1]; exact hb) fun v' w' hS' => h v' w' _ (hls.push ha) (hS'.oneC (nth_setq hi)) hS'
/-- append of a list that is read. -/
theorem s_appRK {T d Ts Ts2 Ty nb i : Nat} {z : List Value} {x y : Operand} {v2 : Value} {css : List (List Value)} {ys : List α} (hel : elInfo P Ts = some (T, es, nb, z))
    (hts : ∃ e2, P.underlying Ts2 = some (.slice e2)) (hS : St c w L) (hx : ρ.ev x = v) (hy : ρ.ev y = v2) (hi : nth L i = some (Go.Lir.sl T es v css)) (hls : r.ls c css xs) (hK : r.sl c v2 ys) (hes : r.es = es) (hb : (xs.length + ys.length) * nb ≤ 140737488355328)
    (h : ∀ v' w' css', r.ls c css' (xs ++ ys) → oneC v' = true → St c w' (L.set i (Go.Lir.sl T es v' css')) → opsWp P l Q (upd ρ d v') w') : opsWp P (⟨none, .raw ⟨some d, .call ⟨.builtin .append, #[x, y], #[Ts, Ts2]⟩, Ty, "", #[], none⟩⟩ :: l) Q ρ w := by
  subst hes
  obtain ⟨css2, h1, h2, h3⟩ := hK
  exact s_appE hel (.inl hts) hS hx hy hi (FzS.src h1 hS h2.one) (by rw [hls.1, h2.1]; exact hb) fun v' w' hS' => h v' w' _ (hls.append h2) (hS'.oneC (nth_setq hi)) hS'
/-- append of an own list. -/
theorem s_appRS {T T2 d Ts Ts2 Ty nb i k : Nat} {z : List Value} {x y : Operand} {v2 : Value} {css css2 : List (List Value)} {ys : List α} (hel : elInfo P Ts = some (T, es, nb, z))
    (hts : ∃ e2, P.underlying Ts2 = some (.slice e2)) (hS : St c w L) (hx : ρ.ev x = v) (hy : ρ.ev y = v2) (hi : nth L i = some (Go.Lir.sl T es v css)) (hk : nth L k = some (Go.Lir.sl T2 es v2 css2)) (hls : r.ls c css xs) (hls2 : r.ls c css2 ys) (hb : (xs.length + ys.length) * nb ≤ 140737488355328)
    (h : ∀ v' w' css', r.ls c css' (xs ++ ys) → oneC v' = true → St c w' (L.set i (Go.Lir.sl T es v' css')) → opsWp P l Q (upd ρ d v') w') : opsWp P (⟨none, .raw ⟨some d, .call ⟨.builtin .append, #[x, y], #[Ts, Ts2]⟩, Ty, "", #[], none⟩⟩ :: l) Q ρ w :=
  s_appE hel (.inl hts) hS hx hy hi (hS.srcS hk hls2.one) (by rw [hls.1, hls2.1]; exact hb) fun v' w' hS' => h v' w' _ (hls.append hls2) (hS'.oneC (nth_setq hi)) hS'
/-- A call of a function value, without and with what it holds. -/
theorem s_retsv {d : Nat} {x : Operand} {os : List Operand} {f : FuncId} {args : List Value} {S : Value → World → Prop} (hx : ρ.ev x = .func (.func f) #[] #[]) (hf : goFunc P f = true) (hxs : os.map ρ.ev = args) (hc : Rets P f args w S)
    (h : ∀ v w', S v w' → opsWp P l Q (upd ρ d v) w') : opsWp P (⟨none, .callv (some d) x os⟩ :: l) Q ρ w := by
  unfold goFunc at hf
  rw [Option.any_eq_true] at hf
  obtain ⟨fn, h1, h2⟩ := hf
  rw [Bool.and_eq_true, Bool.not_eq_true'] at h2
  refine s_callv (cap := []) hx h1 h2.1 h2.2 (by rw [hxs, List.append_nil]) hc ?_
  rintro e w' ⟨v, rfl, hv⟩
  exact h v w' hv
theorem s_retsvc {d : Nat} {x : Operand} {os : List Operand} {f : FuncId} {args cap : List Value} {S : Value → World → Prop} (hx : ρ.ev x = .func (.func f) #[] ⟨cap⟩) (hf : goFunc P f = true) (hxs : os.map ρ.ev ++ cap = args) (hc : Rets P f args w S)
    (h : ∀ v w', S v w' → opsWp P l Q (upd ρ d v) w') : opsWp P (⟨none, .callv (some d) x os⟩ :: l) Q ρ w := by
  unfold goFunc at hf
  rw [Option.any_eq_true] at hf
  obtain ⟨fn, h1, h2⟩ := hf
  rw [Bool.and_eq_true, Bool.not_eq_true'] at h2
  refine s_callv hx h1 h2.1 h2.2 hxs hc ?_
  rintro e w' ⟨v, rfl, hv⟩
  exact h v w' hv
theorem gq_loadK0 {d : Nat} {x : Operand} {b o : Nat} {cs : List Value} {u : Value} (hS : St c w L) (ha : AtK c b o cs) (hx : ρ.ev x = .pointer (some ⟨b, o, none⟩)) (hu : cs[0]? = some u) : gqv P ρ w ⟨none, .load1 d x⟩ u := gq_loadK (j := 0) hS ha hx hu
theorem gq_loadnK0 {d n : Nat} {x : Operand} {b o : Nat} {cs us : List Value} (hS : St c w L) (ha : AtK c b o cs) (hx : ρ.ev x = .pointer (some ⟨b, o, none⟩)) (hu : cs.take n = us) (hl : us.length = n) : gqv P ρ w ⟨none, .loadn d n x⟩ (.agg ⟨us⟩) := gq_loadnK (j := 0) hS ha hx hu hl
/-- A whole block is written anew. -/
theorem s_storenF {n i b T : Nat} {x y : Operand} {cs us : List Value} (hS : St c w L) (hx : ρ.ev x = .pointer (some ⟨b, 0, none⟩)) (hy : ρ.ev y = .agg ⟨us⟩) (hn : us.length = n) (hi : nth L i = some (blk b T cs)) (hc : cs.length = n) (h1 : ∀ u ∈ us, oneC u = true)
    (h : ∀ w', St c w' (L.set i (blk b T us)) → opsWp P l Q ρ w') : opsWp P (⟨none, .storen n x y⟩ :: l) Q ρ w :=
  s_storenB hS hx hy hn hi (by omega) h1 (by simp; omega) h
theorem s_askO {l : List GO} {i : Nat} {u : Value} (h : ρ i = u) (k : ρ i = u → opsWp P l Q ρ w) : opsWp P l Q ρ w := k h
theorem opsWp_app : ∀ {a b : List GO} {Q : QT} {ρ : Env} {w : World}, opsWp P a (thenQ (opsWp P b Q) Q) ρ w → opsWp P (a ++ b) Q ρ w
  | [], _, _, _, _, h => h
  | ⟨none, o⟩ :: a, b, Q, ρ, w, h => by
    simp only [List.cons_append, opsWp] at h ⊢
    exact wp_monoK (fun ρ w h => opsWp_app h) (fun e ρ w hn h => by cases e <;> first | exact h | exact absurd rfl hn) h
  | ⟨some (s, b'), o⟩ :: a, b, Q, ρ, w, h => by
    simp only [List.cons_append, opsWp] at h ⊢
    split
    · rename_i hw
      rw [if_pos hw] at h
      exact wp_monoK (fun ρ w h => opsWp_app h) (fun e ρ w hn h => by cases e <;> first | exact h | exact absurd rfl hn) h
    · rename_i hw
      rw [if_neg hw] at h
      exact opsWp_app h
/-- An assertion between two parts of a row of operations. -/
theorem s_cut {l : List GO} (n : Nat) (J : Env → World → Prop) (ha : opsWp P (l.take n) (thenQ J Q) ρ w) (hb : ∀ ρ w, J ρ w → opsWp P (l.drop n) Q ρ w) : opsWp P l Q ρ w := by
  rw [← List.take_append_drop n l]
  exact opsWp_app (opsWp_mono (thenQ_mono hb fun _ _ _ h => h) ha)
theorem s_lenL {d : Nat} {x : Operand} (hx : ρ.ev x = v) (hK : r.sl c v xs) (h : opsWp P l Q (upd ρ d (.int .i64 xs.length)) w) : opsWp P (⟨none, .len d x⟩ :: l) Q ρ w := by
  obtain ⟨css, h1, h2, h3⟩ := hK
  exact s_lenKn hx h1 h2.1 h
theorem s_subL {d : Nat} {x : Operand} {lo hi mx : Option Operand} {l' h' : Nat} (hx : ρ.ev x = v) (hK : r.sl c v xs) (hes : r.es = es) (hmx : mx = none) (hh : bnd ρ xs.length hi h') (hl : bnd ρ 0 lo l') (h2 : h' ≤ xs.length) (h3 : l' ≤ h')
    (h : ∀ v', r.sl c v' ((xs.take h').drop l') → opsWp P l Q (upd ρ d v') w) : opsWp P (⟨none, .sub d es x lo hi mx⟩ :: l) Q ρ w := by
  subst hes
  obtain ⟨css, h1, g2, g3⟩ := hK
  exact s_subK hx h1 hmx (by rw [g2.1]; exact hh) hl (by rw [g2.1]; exact h2) h3 fun v' hv => h v' ⟨_, hv, g2.sub _ _, by simp; omega⟩
end
end

/-! ### data that came in -/
section
variable {P : Program} {T e : TypeId} {α β : Type}
/-- What a codec reads, seen as a kind of data. -/
def Cod.rep (c : Cod P T α) (r : Rep β) (hs : c.es = r.es) (h : ∀ (H : Heap) cs x, c.rd H cs x → ∃ y, r.R H (· < H.size) cs y) : Cod P T β where
  es := r.es
  rd := fun H cs y => r.R H (· < H.size) cs y
  size := by rw [← hs]; exact c.size
  len := fun _ _ _ h => r.len h
  stay := fun H H' cs x hx hH => r.turn hx fun b hb hlt => by
    have := hH b hlt
    refine ⟨?_, this⟩
    rcases Nat.lt_or_ge b H'.size with h | h
    · exact h
    · rw [Array.getElem?_eq_none h, Array.getElem?_eq_getElem hlt] at this; cases this
  open_ := fun enc w fuel cs y hy hfit => by
    obtain ⟨x, hx⟩ := c.open_ enc w fuel cs y hy hfit
    exact h _ _ _ hx
/-- A list of a kind of data. -/
theorem list_rd {r : Rep α} {n : Nat} {H : Heap} {cs : List Value} {xs : List α} (hn : r.es = n)
    (h : ∃ v css, cs = [v] ∧ SlR H n v (fun _ => True) css ∧ css.length = xs.length ∧ xs.length ≤ 140737488355328 ∧ ∀ (m : Nat) (x : α), xs[m]? = some x → ∃ d, css[m]? = some d ∧ r.R H (· < H.size) d x) : r.list.R H (· < H.size) cs xs := by
  obtain ⟨v, css, rfl, h1, h2, h3, h4⟩ := h
  subst hn
  exact ⟨v, rfl, css, SlR.mono h1 fun b hb _ => hb, ⟨h2, h4⟩, h3⟩
def Cod.listOf (c : Cod P e β) (r : Rep β) (hs : c.es = r.es) (h : ∀ (H : Heap) cs x, c.rd H cs x → r.R H (· < H.size) cs x) (ht : P.underlying T = some (.slice e)) (h1 : P.cellsOf T = 1) (hby : decide (0 < P.bytesOf e) = true) : Cod P T (List β) :=
  Cod.rep (Cod.slice c ht h1 (by rw [hs]; exact r.pos) hby) r.list rfl fun H cs x hx => ⟨x, list_rd hs.symm (by
    obtain ⟨v, css, g1, g2, g3, g4, g5⟩ := hx
    exact ⟨v, css, g1, g2, g3, g4, fun m y hy => by obtain ⟨d, g6, g7⟩ := g5 m y hy; exact ⟨d, g6, h _ _ _ g7⟩⟩)⟩
/-- A kind of data by itself: the codec's reading is the kind's. -/
structure Cod.Of (P : Program) (T : TypeId) {α : Type} (r : Rep α) where
  cod : Cod P T α
  es : cod.es = r.es
  rd : ∀ (H : Heap) cs x, cod.rd H cs x → r.R H (· < H.size) cs x
def Cod.of (c : Cod P T α) (r : Rep β) (hs : c.es = r.es) (h : ∀ (H : Heap) cs x, c.rd H cs x → ∃ y, r.R H (· < H.size) cs y) : Cod.Of P T r := ⟨Cod.rep c r hs h, rfl, fun _ _ _ h => h⟩
def Cod.Of.list {r : Rep α} (c : Cod.Of P e r) (ht : P.underlying T = some (.slice e)) (h1 : P.cellsOf T = 1) (hby : decide (0 < P.bytesOf e) = true) : Cod.Of P T r.list := ⟨Cod.listOf c.cod r c.es c.rd ht h1 hby, rfl, fun _ _ _ h => h⟩
def Cod.Of.int (ht : P.underlying T = some (.int .i64)) (hs : P.cellsOf T = 1) : Cod.Of P T intR := Cod.of (Cod.int .i64 ht hs) intR rfl fun _ _ x h => ⟨x, h.1⟩
def Cod.Of.ty {TL t0 t1 : TypeId} (h0 : fieldAt P T 0 = some (0, 1, t0)) (h1 : fieldAt P T 1 = some (1, 1, t1)) (h2 : fieldAt P T 2 = some (2, 1, TL)) (hi0 : P.underlying t0 = some (.int .i64)) (hi1 : P.underlying t1 = some (.int .i64)) (hT : P.cellsOf T = 3) (hTL : P.underlying TL = some (.slice T)) (hby : decide (0 < P.bytesOf T) = true) : Cod.Of P T tyR :=
  ⟨Cod.ty h0 h1 h2 hi0 hi1 hT hTL hby, rfl, fun _ _ _ h => h⟩
theorem Cod.Of.top {r : Rep α} (c : Cod.Of P T r) {w : World} {cs : List Value} {x : α} (h : c.cod.rd w.heap cs x) : r.at (Cx.top w) cs x := c.rd _ _ _ h
end
end Go.Lir
