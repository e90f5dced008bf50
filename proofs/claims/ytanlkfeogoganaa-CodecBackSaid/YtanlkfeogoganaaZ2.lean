/- Lemmas of the proof, part 2: what the functions of the program do (contracts), and what follows. -/
import Derived.Test.YtanlkfeogoganaaZ1
import Derived.Laws.IdiomStrings
import Derived.Lib.Strings
import Derived.Test.YtanlkfeogoganaaProg
import Derived.Recover
namespace Go.Lir

theorem SlR.turn {H H' : Heap} {es : Nat} {v : Value} {F G : Nat → Prop} {css : List (List Value)} (h : SlR H es v F css) (hs : ∀ b, F b → b < H.size → G b ∧ H'[b]? = H[b]?) : SlR H' es v G css := by
  obtain ⟨h0, a, cap, hv, hlc, hc | ⟨b, off, ha, hF, hb, hat⟩⟩ := h
  · exact ⟨h0, a, cap, hv, hlc, .inl hc⟩
  · obtain ⟨h1, h2⟩ := hs b hF hb
    refine ⟨h0, a, cap, hv, hlc, .inr ⟨b, off, ha, h1, ?_, fun m c hm => (hat m c hm).of_same h2⟩⟩
    rcases Nat.lt_or_ge b H'.size with h | h
    · exact h
    · rw [Array.getElem?_eq_none h, Array.getElem?_eq_getElem hb] at h2; cases h2

/-- A kind of data: what cells (that lie in K, and what they lead to) say. -/
structure Rep (α : Type) where
  es : Nat
  pos : 0 < es
  R : Heap → (Nat → Prop) → List Value → α → Prop
  len : ∀ {H : Heap} {K : Nat → Prop} {cs : List Value} {x : α}, R H K cs x → cs.length = es
  one : ∀ {H : Heap} {K : Nat → Prop} {cs : List Value} {x : α}, R H K cs x → ∀ u ∈ cs, oneC u = true
  turn : ∀ {H H' : Heap} {K K' : Nat → Prop} {cs : List Value} {x : α}, R H K cs x → (∀ b, K b → b < H.size → K' b ∧ H'[b]? = H[b]?) → R H' K' cs x

section
variable {α β : Type}
/-- Rows of cells that are the parts of a list. -/
def Rep.LR (r : Rep α) (H : Heap) (K : Nat → Prop) (css : List (List Value)) (l : List α) : Prop := css.length = l.length ∧ ∀ (m : Nat) (x : α), l[m]? = some x → ∃ d, css[m]? = some d ∧ r.R H K d x
/-- A slice that reads as the list. -/
def Rep.SR (r : Rep α) (H : Heap) (K : Nat → Prop) (v : Value) (l : List α) : Prop := ∃ css, SlR H r.es v K css ∧ r.LR H K css l ∧ l.length ≤ 140737488355328
theorem Rep.LR.turn {r : Rep α} {H H' : Heap} {K K' : Nat → Prop} {css : List (List Value)} {l : List α} (h : r.LR H K css l) (hs : ∀ b, K b → b < H.size → K' b ∧ H'[b]? = H[b]?) : r.LR H' K' css l :=
  ⟨h.1, fun m x hx => by obtain ⟨d, h1, h2⟩ := h.2 m x hx; exact ⟨d, h1, r.turn h2 hs⟩⟩
theorem Rep.SR.turn {r : Rep α} {H H' : Heap} {K K' : Nat → Prop} {v : Value} {l : List α} (h : r.SR H K v l) (hs : ∀ b, K b → b < H.size → K' b ∧ H'[b]? = H[b]?) : r.SR H' K' v l := by
  obtain ⟨css, h1, h2, h3⟩ := h
  exact ⟨css, h1.turn hs, h2.turn hs, h3⟩
theorem Rep.LR.nil (r : Rep α) (H : Heap) (K : Nat → Prop) : r.LR H K [] [] := ⟨rfl, by simp⟩
theorem Rep.LR.push {r : Rep α} {H : Heap} {K : Nat → Prop} {css : List (List Value)} {l : List α} {d : List Value} {x : α} (h : r.LR H K css l) (hd : r.R H K d x) : r.LR H K (css ++ [d]) (l ++ [x]) := by
  refine ⟨by simp [h.1], fun m y hy => ?_⟩
  rcases Nat.lt_or_ge m l.length with hm | hm
  · rw [List.getElem?_append_left hm] at hy
    rw [List.getElem?_append_left (by rw [h.1]; exact hm)]
    exact h.2 m y hy
  · rw [List.getElem?_append_right hm] at hy
    rw [List.getElem?_append_right (by rw [h.1]; exact hm), h.1]
    obtain ⟨i, hi⟩ : ∃ i, m - l.length = i := ⟨_, rfl⟩
    rw [hi] at hy ⊢
    cases i with
    | zero => simp only [List.getElem?_cons_zero, Option.some.injEq] at hy; subst hy; exact ⟨d, rfl, hd⟩
    | succ i => simp at hy
theorem Rep.LR.append {r : Rep α} {H : Heap} {K : Nat → Prop} {css css2 : List (List Value)} {l l2 : List α} (h : r.LR H K css l) (h2 : r.LR H K css2 l2) : r.LR H K (css ++ css2) (l ++ l2) := by
  refine ⟨by simp [h.1, h2.1], fun m y hy => ?_⟩
  rcases Nat.lt_or_ge m l.length with hm | hm
  · rw [List.getElem?_append_left hm] at hy
    rw [List.getElem?_append_left (by rw [h.1]; exact hm)]
    exact h.2 m y hy
  · rw [List.getElem?_append_right hm] at hy
    rw [List.getElem?_append_right (by rw [h.1]; exact hm), h.1]
    exact h2.2 _ y hy
theorem Rep.LR.set {r : Rep α} {H : Heap} {K : Nat → Prop} {css : List (List Value)} {l : List α} {d : List Value} {x : α} {i : Nat} (h : r.LR H K css l) (hd : r.R H K d x) : r.LR H K (css.set i d) (l.set i x) := by
  refine ⟨by simp [h.1], fun m y hy => ?_⟩
  rw [List.getElem?_set] at hy ⊢
  by_cases he : i = m
  · rw [if_pos he] at hy ⊢
    rw [h.1]
    split at hy
    · rename_i hm; rw [if_pos hm]; cases hy; exact ⟨d, rfl, hd⟩
    · cases hy
  · rw [if_neg he] at hy ⊢
    exact h.2 m y hy
theorem Rep.LR.sub {r : Rep α} {H : Heap} {K : Nat → Prop} {css : List (List Value)} {l : List α} (h : r.LR H K css l) (i j : Nat) : r.LR H K ((css.take j).drop i) ((l.take j).drop i) := by
  refine ⟨by simp [h.1], fun m y hy => ?_⟩
  rw [List.getElem?_drop] at hy ⊢
  have hlt := (List.getElem?_eq_some_iff.1 hy).1
  rw [List.length_take] at hlt
  rw [List.getElem?_take_of_lt (by omega)] at hy ⊢
  exact h.2 _ y hy
theorem Rep.LR.one {r : Rep α} {H : Heap} {K : Nat → Prop} {css : List (List Value)} {l : List α} (h : r.LR H K css l) : ∀ c ∈ css, ∀ u ∈ c, oneC u = true := by
  intro c hc
  obtain ⟨m, hm⟩ := List.mem_iff_getElem?.1 hc
  have hlt := (List.getElem?_eq_some_iff.1 hm).1
  obtain ⟨d, h1, h2⟩ := h.2 m _ (List.getElem?_eq_getElem (by rw [← h.1]; exact hlt))
  rw [hm] at h1; cases h1
  exact r.one h2
theorem Rep.SR.oneC {r : Rep α} {H : Heap} {K : Nat → Prop} {v : Value} {l : List α} (h : r.SR H K v l) : Go.Lir.oneC v = true := by
  obtain ⟨css, h1, _⟩ := h; exact SlR.oneC h1
theorem Rep.SR.nil (r : Rep α) (H : Heap) (K : Nat → Prop) : r.SR H K (.slice none 0 0) [] := ⟨[], ⟨by simp, none, 0, rfl, Nat.le_refl _, .inl rfl⟩, .nil r H K, by simp⟩
theorem Rep.SR.len {r : Rep α} {H : Heap} {K : Nat → Prop} {v : Value} {l : List α} (h : r.SR H K v l) : l.length ≤ 140737488355328 := by obtain ⟨_, _, _, h⟩ := h; exact h
theorem Rep.SR.shape {r : Rep α} {H : Heap} {K : Nat → Prop} {v : Value} {l : List α} (h : r.SR H K v l) : ∃ a c, v = .slice a l.length c := by
  obtain ⟨css, h1, h2, _⟩ := h
  obtain ⟨a, c, hv⟩ := SlR.shape h1
  exact ⟨a, c, by rw [← h2.1]; exact hv⟩

def Rep.lit (f : α → Value) (hf : ∀ x, oneC (f x) = true) : Rep α where
  es := 1
  pos := by decide
  R := fun _ _ cs x => cs = [f x]
  len := by rintro _ _ _ _ rfl; rfl
  one := by rintro _ _ _ x rfl u hu; simp at hu; subst hu; exact hf x
  turn := fun h _ => h
def intR : Rep Int := Rep.lit (fun n => .int .i64 n) (fun _ => rfl)
def Rep.list (r : Rep α) : Rep (List α) where
  es := 1
  pos := by decide
  R := fun H K cs l => ∃ v, cs = [v] ∧ r.SR H K v l
  len := by rintro _ _ _ _ ⟨v, rfl, _⟩; rfl
  one := by rintro _ _ _ _ ⟨v, rfl, h⟩ u hu; simp at hu; subst hu; exact h.oneC
  turn := by rintro _ _ _ _ _ _ ⟨v, rfl, h⟩ hs; exact ⟨v, rfl, h.turn hs⟩
def Rep.and (r : Rep α) (p : α → Prop) : Rep α where
  es := r.es
  pos := r.pos
  R := fun H K cs x => r.R H K cs x ∧ p x
  len := fun h => r.len h.1
  one := fun h => r.one h.1
  turn := fun h hs => ⟨r.turn h.1 hs, h.2⟩
def tyR : Rep Ty where
  es := 3
  pos := by decide
  R := fun H K cs t => ∃ n, tyRd H K n cs t
  len := by rintro _ _ _ _ ⟨n, h⟩; exact h.len
  one := by
    rintro _ _ _ _ ⟨n, h⟩
    cases n with
    | zero => exact h.elim
    | succ n =>
      obtain ⟨v, css, rfl, h2, _⟩ := h
      intro u hu; simp at hu
      rcases hu with rfl | rfl | rfl
      · rfl
      · rfl
      · exact SlR.oneC h2
  turn := by rintro _ _ _ _ _ _ ⟨n, h⟩ hs; exact ⟨n, h.turn fun v css hv => hv.turn hs⟩
theorem Q1q {H : Heap} {K : Nat → Prop} {cs : List Value} {t : Ty} (h : tyR.R H K cs t) : ∃ v, cs = [.int .i64 t.kind, .int .i64 t.r, v] ∧ tyR.SR H K v t.l := by
  obtain ⟨n, h⟩ := h
  cases n with
  | zero => exact h.elim
  | succ n =>
    obtain ⟨v, css, h1, h2, h3, h4, h5⟩ := h
    exact ⟨v, h1, css, h2, ⟨h3, fun m x hx => by obtain ⟨d, h6, h7⟩ := h5 m x hx; exact ⟨d, h6, n, h7⟩⟩, h4⟩
theorem tyR_mk {H : Heap} {K : Nat → Prop} {k r : Int} {v : Value} {l : List Ty} (h : tyR.SR H K v l) : tyR.R H K [.int .i64 k, .int .i64 r, v] (.mk k r l) := by
  obtain ⟨css, h1, h2, h3⟩ := h
  obtain ⟨n, hn⟩ := Qiz (xs := List.range l.length) (R := fun n m => ∀ x, l[m]? = some x → ∃ d, css[m]? = some d ∧ tyRd H K n d x) (fun n m i hnm hr x hx => by obtain ⟨d, h1, h2⟩ := hr x hx; exact ⟨d, h1, h2.more hnm⟩) (fun m hm => by
    have hlt := List.mem_range.1 hm
    obtain ⟨d, h4, n, h5⟩ := h2.2 m _ (List.getElem?_eq_getElem hlt)
    exact ⟨n, fun x hx => by rw [List.getElem?_eq_getElem hlt] at hx; cases hx; exact ⟨d, h4, h5⟩⟩)
  exact ⟨n + 1, v, css, rfl, h1, h2.1, h3, fun m x hx => hn m (List.mem_range.2 (List.getElem?_eq_some_iff.1 hx).1) x hx⟩

/-! what is only read -/
abbrev Rep.at (r : Rep α) (c : Cx) (cs : List Value) (x : α) : Prop := r.R c.H0 c.K cs x
abbrev Rep.sl (r : Rep α) (c : Cx) (v : Value) (l : List α) : Prop := r.SR c.H0 c.K v l
abbrev Rep.ls (r : Rep α) (c : Cx) (css : List (List Value)) (l : List α) : Prop := r.LR c.H0 c.K css l
theorem Cx.Le.turn {c c' : Cx} (h : c.Le c') : ∀ b, c.K b → b < c.H0.size → c'.K b ∧ c'.H0[b]? = c.H0[b]? := fun b hb _ => h.K b hb
theorem Rep.R.up {r : Rep α} {c c' : Cx} {cs : List Value} {x : α} (h : r.at c cs x) (hle : c.Le c') : r.at c' cs x := r.turn h hle.turn
theorem Rep.SR.up {r : Rep α} {c c' : Cx} {v : Value} {l : List α} (h : r.sl c v l) (hle : c.Le c') : r.sl c' v l := Rep.SR.turn h hle.turn
theorem Rep.LR.up {r : Rep α} {c c' : Cx} {v : List (List Value)} {l : List α} (h : r.ls c v l) (hle : c.Le c') : r.ls c' v l := Rep.LR.turn h hle.turn
/-- From here on an own list is only read. -/
theorem St.freezeL {r : Rep α} {c : Cx} {w : World} {L : List Res} {T : TypeId} {es : Nat} {v : Value} {css : List (List Value)} {l : List α} (h : St c w (sl T es v css :: L)) (hl : r.ls c css l) (hes : r.es = es) (hm : l.length ≤ 140737488355328) : ∃ c', c.Le c' ∧ St c' w L ∧ r.sl c' v l := by
  subst hes
  obtain ⟨c', h1, h2, h3⟩ := h.freezeS
  exact ⟨c', h1, h2, css, h3, hl.up h1, hm⟩
theorem Rep.SR.ints {c : Cx} {v : Value} {l : List Int} (h : intR.sl c v l) : FzS c 1 v (l.map icell) := by
  obtain ⟨css, h1, h2, h3⟩ := h
  have : css = l.map icell := by
    apply List.ext_getElem?
    intro m
    rw [List.getElem?_map]
    rcases Nat.lt_or_ge m l.length with hm | hm
    · obtain ⟨d, h4, h5⟩ := h2.2 m _ (List.getElem?_eq_getElem hm)
      have h5 : d = [_] := h5
      rw [h4, List.getElem?_eq_getElem hm, h5]; rfl
    · rw [List.getElem?_eq_none (by rw [h2.1]; exact hm), List.getElem?_eq_none hm]; rfl
  rw [this] at h1; exact h1
theorem FzS.ints {c : Cx} {v : Value} {l : List Int} (h : FzS c 1 v (l.map icell)) (hm : l.length ≤ 140737488355328) : intR.sl c v l :=
  ⟨_, h, ⟨by simp, fun m x hx => ⟨icell x, by rw [List.getElem?_map, hx]; rfl, rfl⟩⟩, hm⟩

section
variable {P : Program} {l : List GO} {Q : QT} {ρ : Env} {w : World} {c : Cx} {L : List Res} {r : Rep α} {xs : List α} {v : Value} {es : Nat}
theorem Qiq {d m : Nat} {x y : Operand} {k : IntKind} (hx : ρ.ev x = v) (hy : ρ.ev y = .int k (m : Int)) (hK : r.sl c v xs) (hes : r.es = es) (hn : m < xs.length)
    (h : ∀ b o cs a, AtK c b o cs → xs[m]? = some a → r.at c cs a → Q3 P l Q (upd ρ d (.pointer (some ⟨b, o, none⟩))) w) : Q3 P (⟨none, .idx d es x y⟩ :: l) Q ρ w := by
  subst hes
  obtain ⟨css, h1, h2, h3⟩ := hK
  obtain ⟨cs, h4, h5⟩ := h2.2 m _ (List.getElem?_eq_getElem hn)
  exact s_idxK (m := m) hx hy h1 h4 fun b o hb => h b o cs _ hb (List.getElem?_eq_getElem hn) h5
theorem Q7 {l : List α} {m : Nat} {x : α} (h : l[m]? = some x) : l.drop m = x :: l.drop (m + 1) := by
  obtain ⟨hm, rfl⟩ := List.getElem?_eq_some_iff.1 h
  exact List.drop_eq_getElem_cons hm
theorem Qk3 {l : List α} {m : Nat} {x : α} (h : l[m]? = some x) : l.take (m + 1) = l.take m ++ [x] := by
  rw [List.take_add_one, h]; rfl
theorem Q1M {cs : List Value} {n : Int} (h : intR.at c cs n) : cs = [.int .i64 n] := h
theorem Qgf : ∀ {L : List Res} {i : Nat} {a a' : Res}, nth L i = some a → nth (L.set i a') i = some a'
  | [], _, _, _, h => by cases h
  | _ :: _, 0, _, _, _ => rfl
  | _ :: L, i + 1, _, _, h => Qgf (L := L) (i := i) h
/-- append of one element that was just built. -/
theorem s_appR1 {T T' d Ts Ts2 Ty nb i k b : Nat} {z : List Value} {x y : Operand} {ds : List Value} {css : List (List Value)} {a : α} (hel : Q3q P Ts = some (T, es, nb, z))
    (hts : ∃ e2, P.underlying Ts2 = some (.slice e2)) (hS : St c w L) (hx : ρ.ev x = v) (hy : ρ.ev y = .slice (some ⟨b, 0, none⟩) 1 1) (hi : nth L i = some (Go.Lir.sl T es v css)) (hk : nth L k = some (blk b T' ds)) (hls : r.ls c css xs) (ha : r.at c ds a) (hes : r.es = es) (hb : (xs.length + 1) * nb ≤ 140737488355328)
    (h : ∀ v' w' css', r.ls c css' (xs ++ [a]) → oneC v' = true → St c w' (L.set i (Go.Lir.sl T es v' css')) → Q3 P l Q (upd ρ d v') w') : Q3 P (⟨none, .raw ⟨some d, .call ⟨.builtin .append, #[x, y], #[Ts, Ts2]⟩, Ty, "", #[], none⟩⟩ :: l) Q ρ w :=
  s_appE hel (.inl hts) hS hx hy hi (hS.srcB hk ((r.len ha).trans hes) (r.one ha)) (by rw [hls.1]; exact hb) fun v' w' hS' => h v' w' _ (hls.push ha) (hS'.oneC (Qgf hi)) hS'
/-- append of an own list. -/
theorem s_appRS {T T2 d Ts Ts2 Ty nb i k : Nat} {z : List Value} {x y : Operand} {v2 : Value} {css css2 : List (List Value)} {ys : List α} (hel : Q3q P Ts = some (T, es, nb, z))
    (hts : ∃ e2, P.underlying Ts2 = some (.slice e2)) (hS : St c w L) (hx : ρ.ev x = v) (hy : ρ.ev y = v2) (hi : nth L i = some (Go.Lir.sl T es v css)) (hk : nth L k = some (Go.Lir.sl T2 es v2 css2)) (hls : r.ls c css xs) (hls2 : r.ls c css2 ys) (hb : (xs.length + ys.length) * nb ≤ 140737488355328)
    (h : ∀ v' w' css', r.ls c css' (xs ++ ys) → oneC v' = true → St c w' (L.set i (Go.Lir.sl T es v' css')) → Q3 P l Q (upd ρ d v') w') : Q3 P (⟨none, .raw ⟨some d, .call ⟨.builtin .append, #[x, y], #[Ts, Ts2]⟩, Ty, "", #[], none⟩⟩ :: l) Q ρ w :=
  s_appE hel (.inl hts) hS hx hy hi (hS.srcS hk hls2.one) (by rw [hls.1, hls2.1]; exact hb) fun v' w' hS' => h v' w' _ (hls.append hls2) (hS'.oneC (Qgf hi)) hS'
/-- A call of a function value, without and with what it holds. -/
theorem Qka {d : Nat} {x : Operand} {os : List Operand} {f : FuncId} {args : List Value} {S : Value → World → Prop} (hx : ρ.ev x = .func (.func f) #[] #[]) (hf : Q2A P f = true) (hxs : os.map ρ.ev = args) (hc : Rets P f args w S)
    (h : ∀ v w', S v w' → Q3 P l Q (upd ρ d v) w') : Q3 P (⟨none, .callv (some d) x os⟩ :: l) Q ρ w := by
  unfold Q2A at hf
  rw [Option.any_eq_true] at hf
  obtain ⟨fn, h1, h2⟩ := hf
  rw [Bool.and_eq_true, Bool.not_eq_true'] at h2
  refine s_callv (cap := []) hx h1 h2.1 h2.2 (by rw [hxs, List.append_nil]) hc ?_
  rintro e w' ⟨v, rfl, hv⟩
  exact h v w' hv
theorem QhK {d : Nat} {x : Operand} {b o : Nat} {cs : List Value} {u : Value} (hS : St c w L) (ha : AtK c b o cs) (hx : ρ.ev x = .pointer (some ⟨b, o, none⟩)) (hu : cs[0]? = some u) : gqv P ρ w ⟨none, .load1 d x⟩ u := Qgi (j := 0) hS ha hx hu
theorem QfB {d n : Nat} {x : Operand} {b o : Nat} {cs us : List Value} (hS : St c w L) (ha : AtK c b o cs) (hx : ρ.ev x = .pointer (some ⟨b, o, none⟩)) (hu : cs.take n = us) (hl : us.length = n) : gqv P ρ w ⟨none, .loadn d n x⟩ (.agg ⟨us⟩) := Qdd (j := 0) hS ha hx hu hl
/-- A whole block is written anew. -/
theorem Qk8 {n i b T : Nat} {x y : Operand} {cs us : List Value} (hS : St c w L) (hx : ρ.ev x = .pointer (some ⟨b, 0, none⟩)) (hy : ρ.ev y = .agg ⟨us⟩) (hn : us.length = n) (hi : nth L i = some (blk b T cs)) (hc : cs.length = n) (h1 : ∀ u ∈ us, oneC u = true)
    (h : ∀ w', St c w' (L.set i (blk b T us)) → Q3 P l Q ρ w') : Q3 P (⟨none, .storen n x y⟩ :: l) Q ρ w :=
  Qhm hS hx hy hn hi (by omega) h1 (by simp; omega) h
theorem Q90 : ∀ {a b : List GO} {Q : QT} {ρ : Env} {w : World}, Q3 P a (Qz (Q3 P b Q) Q) ρ w → Q3 P (a ++ b) Q ρ w
  | [], _, _, _, _, h => h
  | ⟨none, o⟩ :: a, b, Q, ρ, w, h => by
    simp only [List.cons_append, Q3] at h ⊢
    exact Q8L (fun ρ w h => Q90 h) (fun e ρ w hn h => by cases e <;> first | exact h | exact absurd rfl hn) h
  | ⟨some (s, b'), o⟩ :: a, b, Q, ρ, w, h => by
    simp only [List.cons_append, Q3] at h ⊢
    split
    · rename_i hw
      rw [if_pos hw] at h
      exact Q8L (fun ρ w h => Q90 h) (fun e ρ w hn h => by cases e <;> first | exact h | exact absurd rfl hn) h
    · rename_i hw
      rw [if_neg hw] at h
      exact Q90 h
/-- An assertion between two parts of a row of operations. -/
theorem s_cut {l : List GO} (n : Nat) (J : Env → World → Prop) (ha : Q3 P (l.take n) (Qz J Q) ρ w) (hb : ∀ ρ w, J ρ w → Q3 P (l.drop n) Q ρ w) : Q3 P l Q ρ w := by
  rw [← List.take_append_drop n l]
  exact Q90 (Q9O (Q6q hb fun _ _ _ h => h) ha)
theorem s_lenL {d : Nat} {x : Operand} (hx : ρ.ev x = v) (hK : r.sl c v xs) (h : Q3 P l Q (upd ρ d (.int .i64 xs.length)) w) : Q3 P (⟨none, .len d x⟩ :: l) Q ρ w := by
  obtain ⟨css, h1, h2, h3⟩ := hK
  exact Qkc hx h1 h2.1 h
theorem Qk7 {d : Nat} {x : Operand} {lo hi mx : Option Operand} {l' h' : Nat} (hx : ρ.ev x = v) (hK : r.sl c v xs) (hes : r.es = es) (hmx : mx = none) (hh : bnd ρ xs.length hi h') (hl : bnd ρ 0 lo l') (h2 : h' ≤ xs.length) (h3 : l' ≤ h')
    (h : ∀ v', r.sl c v' ((xs.take h').drop l') → Q3 P l Q (upd ρ d v') w) : Q3 P (⟨none, .sub d es x lo hi mx⟩ :: l) Q ρ w := by
  subst hes
  obtain ⟨css, h1, g2, g3⟩ := hK
  exact s_subK hx h1 hmx (by rw [g2.1]; exact hh) hl (by rw [g2.1]; exact h2) h3 fun v' hv => h v' ⟨_, hv, g2.sub _ _, by simp; omega⟩
end
end

/-! ### data that came in -/
section
variable {P : Program} {T e : TypeId} {α β : Type}
/-- What a codec reads, seen as a kind of data. -/
def Cod.rep (c : Cod P T α) (r : Rep β) (hs : c.es = r.es) (h : ∀ (H : Heap) cs x, c.rd H cs x → ∃ y, r.R H (· < H.size) cs y) : Cod P T β where
  es := r.es
  rd := fun H cs y => r.R H (· < H.size) cs y
  size := by rw [← hs]; exact c.size
  len := fun _ _ _ h => r.len h
  stay := fun H H' cs x hx hH => r.turn hx fun b hb hlt => by
    have := hH b hlt
    refine ⟨?_, this⟩
    rcases Nat.lt_or_ge b H'.size with h | h
    · exact h
    · rw [Array.getElem?_eq_none h, Array.getElem?_eq_getElem hlt] at this; cases this
  open_ := fun enc w fuel cs y hy hfit => by
    obtain ⟨x, hx⟩ := c.open_ enc w fuel cs y hy hfit
    exact h _ _ _ hx
/-- A list of a kind of data. -/
theorem list_rd {r : Rep α} {n : Nat} {H : Heap} {cs : List Value} {xs : List α} (hn : r.es = n)
    (h : ∃ v css, cs = [v] ∧ SlR H n v (fun _ => True) css ∧ css.length = xs.length ∧ xs.length ≤ 140737488355328 ∧ ∀ (m : Nat) (x : α), xs[m]? = some x → ∃ d, css[m]? = some d ∧ r.R H (· < H.size) d x) : r.list.R H (· < H.size) cs xs := by
  obtain ⟨v, css, rfl, h1, h2, h3, h4⟩ := h
  subst hn
  exact ⟨v, rfl, css, SlR.mono h1 fun b hb _ => hb, ⟨h2, h4⟩, h3⟩
def Cod.listOf (c : Cod P e β) (r : Rep β) (hs : c.es = r.es) (h : ∀ (H : Heap) cs x, c.rd H cs x → r.R H (· < H.size) cs x) (ht : P.underlying T = some (.slice e)) (h1 : P.cellsOf T = 1) (hby : decide (0 < P.bytesOf e) = true) : Cod P T (List β) :=
  Cod.rep (Cod.slice c ht h1 (by rw [hs]; exact r.pos) hby) r.list rfl fun H cs x hx => ⟨x, list_rd hs.symm (by
    obtain ⟨v, css, g1, g2, g3, g4, g5⟩ := hx
    exact ⟨v, css, g1, g2, g3, g4, fun m y hy => by obtain ⟨d, g6, g7⟩ := g5 m y hy; exact ⟨d, g6, h _ _ _ g7⟩⟩)⟩
/-- A kind of data by itself: the codec's reading is the kind's. -/
structure Cod.Of (P : Program) (T : TypeId) {α : Type} (r : Rep α) where
  cod : Cod P T α
  es : cod.es = r.es
  rd : ∀ (H : Heap) cs x, cod.rd H cs x → r.R H (· < H.size) cs x
def Cod.of (c : Cod P T α) (r : Rep β) (hs : c.es = r.es) (h : ∀ (H : Heap) cs x, c.rd H cs x → ∃ y, r.R H (· < H.size) cs y) : Cod.Of P T r := ⟨Cod.rep c r hs h, rfl, fun _ _ _ h => h⟩
def Cod.Of.list {r : Rep α} (c : Cod.Of P e r) (ht : P.underlying T = some (.slice e)) (h1 : P.cellsOf T = 1) (hby : decide (0 < P.bytesOf e) = true) : Cod.Of P T r.list := ⟨Cod.listOf c.cod r c.es c.rd ht h1 hby, rfl, fun _ _ _ h => h⟩
def Cod.Of.int (ht : P.underlying T = some (.int .i64)) (hs : P.cellsOf T = 1) : Cod.Of P T intR := Cod.of (Cod.int .i64 ht hs) intR rfl fun _ _ x h => ⟨x, h.1⟩
def Cod.Of.ty {TL t0 t1 : TypeId} (h0 : fieldAt P T 0 = some (0, 1, t0)) (h1 : fieldAt P T 1 = some (1, 1, t1)) (h2 : fieldAt P T 2 = some (2, 1, TL)) (hi0 : P.underlying t0 = some (.int .i64)) (hi1 : P.underlying t1 = some (.int .i64)) (hT : P.cellsOf T = 3) (hTL : P.underlying TL = some (.slice T)) (hby : decide (0 < P.bytesOf T) = true) : Cod.Of P T tyR :=
  ⟨Cod.ty h0 h1 h2 hi0 hi1 hT hTL hby, rfl, fun _ _ _ h => h⟩
theorem Cod.Of.top {r : Rep α} (c : Cod.Of P T r) {w : World} {cs : List Value} {x : α} (h : c.cod.rd w.heap cs x) : r.at (Cx.top w) cs x := c.rd _ _ _ h
end
end Go.Lir
namespace Go.Lir
def QF (b : UInt8) : List Value := [.int .u8 (b.toNat : Int)]
def u8R : Rep UInt8 := Rep.lit (fun b => .int .u8 (b.toNat : Int)) (fun _ => rfl)
theorem Q5f {c : Cx} {cs : List Value} {b : UInt8} (h : u8R.at c cs b) : cs = [.int .u8 (b.toNat : Int)] := h
theorem Q8N {c : Cx} (l : List UInt8) : u8R.ls c (l.map QF) l := ⟨by simp, fun m x hx => ⟨QF x, by rw [List.getElem?_map, hx]; rfl, rfl⟩⟩
theorem Rep.LR.u8 {r : Rep UInt8} {H : Heap} {K : Nat → Prop} {css : List (List Value)} {l : List UInt8} (hr : r = u8R) (h : r.LR H K css l) : css = l.map QF := by
  subst hr
  apply List.ext_getElem?
  intro m
  rw [List.getElem?_map]
  rcases Nat.lt_or_ge m l.length with hm | hm
  · obtain ⟨d, h4, h5⟩ := h.2 m _ (List.getElem?_eq_getElem hm)
    have h5 : d = [_] := h5
    rw [h4, List.getElem?_eq_getElem hm, h5]; rfl
  · rw [List.getElem?_eq_none (by rw [h.1]; exact hm), List.getElem?_eq_none hm]; rfl
section
variable {P : Program} {l : List GO} {Q : QT} {ρ : Env} {w : World} {c : Cx} {L : List Res} {v : Value}
theorem Qil (s : List UInt8) : (s.map QF).flatten = s.map fun b => Value.int .u8 (b.toNat : Int) := by
  induction s with
  | nil => rfl
  | cons b s ih => simp [QF, ih]
/-- []byte(s) -/
theorem s_bytes {d src dst e Ty : Nat} {x : Operand} {s : ByteArray} (hs : P.underlying src = some .string) (hd : P.underlying dst = some (.slice e)) (he : P.underlying e = some (.int .u8)) (hS : St c w L) (hx : ρ.ev x = .string s)
    (h : ∀ v' w', St c w' (sl e 1 v' (s.data.toList.map QF) :: L) → Q3 P l Q (upd ρ d v') w') : Q3 P (⟨none, .raw ⟨some d, .convert src dst x, Ty, "", #[], none⟩⟩ :: l) Q ρ w := by
  have hr := run_bytes_of_string (P := P) w src dst e s hs hd he
  have hge := grownCap_ge w s.size 0 e
  generalize hcap : grownCap w s.size 0 e = cap at hr hge
  refine QH (v := .slice (some ⟨w.heap.size, 0, none⟩) s.size cap) (w' := w.drew.alloc (.cells (bytesRow s cap) e ((bytesRow s cap).size, (bytesRow s cap).size + 1))) ?_ ?_
  · simp only [execOp, hx, Sem.run_bind, hr, Result.andThen_ok, Sem.run_pure]
  · have hsz : s.data.size = s.size := rfl
    have hrow : (bytesRow s cap).size = cap := by simp [bytesRow]; omega
    refine h _ _ (hS.new (F' := (· = w.heap.size)) ?_ (((Fr.refl NF w).drew').then0 (Q93 w.drew _)) fun b hb => by omega)
    refine ⟨by intro q hq; obtain ⟨b, _, rfl⟩ := List.mem_map.1 hq; rfl, .inr ⟨w.heap.size, 0, cap, (bytesRow s cap).toList, ?_, ?_, ?_, ?_, ?_, fun _ => Iff.rfl⟩⟩
    · have : (List.map QF s.data.toList).length = s.size := by rw [List.length_map, Array.length_toList]; rfl
      rw [this]
    · have : (List.map QF s.data.toList).length = s.size := by rw [List.length_map, Array.length_toList]; rfl
      rw [this]; exact hge
    · refine ⟨((bytesRow s cap).size, (bytesRow s cap).size + 1), ?_, ?_⟩
      · show (w.heap.push _)[w.heap.size]? = _
        rw [Array.getElem?_push_size]
      · refine ⟨fun i h1 h2 => ?_, by simp⟩
        simp only [Array.length_toList] at *; omega
    · simp [hrow]
    · intro i hi
      rw [Qil]
      simp only [List.length_map, Array.length_toList, Nat.mul_one] at hi
      rw [Nat.zero_add, Array.getElem?_toList, bytesRow_at s cap i hi, List.getElem?_map, Array.getElem?_toList, Array.getElem?_eq_getElem hi]; rfl
/-- string(b), of bytes that are read. -/
theorem Qg5 {d src dst e Ty : Nat} {x : Operand} {s : List UInt8} (hs : P.underlying src = some (.slice e)) (he : P.underlying e = some (.int .u8)) (hd : P.underlying dst = some .string) (hS : St c w L) (hx : ρ.ev x = v) (hK : u8R.sl c v s)
    (h : Q3 P l Q (upd ρ d (.string ⟨s.toArray⟩)) w) : Q3 P (⟨none, .raw ⟨some d, .convert src dst x, Ty, "", #[], none⟩⟩ :: l) Q ρ w := by
  obtain ⟨css, h1, h2, h3⟩ := hK
  have h1 := FzS.now h1 hS
  have hcs := h2.u8 rfl
  obtain ⟨h0, a, cap, hv, hlc, hc⟩ := h1
  refine QH (v := .string ⟨s.toArray⟩) (w' := w) ?_ h
  simp only [execOp, hx, Sem.run_bind]
  have : (convert src dst v).run P w = .ok (.string ⟨s.toArray⟩) w := by
    rcases hc with hc | ⟨b, off, ha, hF, hb, hat⟩
    · have hsn : s = [] := List.eq_nil_of_length_eq_zero (by rw [← h2.1, hc]; rfl)
      subst hsn hc hv
      rw [run_convert_bytes_string w src dst e a _ cap hs he hd]
      cases a with
      | none => simp [Conv.bytesToString, Sem.run_pure]; rfl
      | some a =>
        have := run_bytesToString (P := P) w a 0 cap [] (by simp [loadCells, loadCellsFrom, Sem.run_pure])
        exact this
    · subst ha hv
      have hl : css.length = s.length := h2.1
      rw [hl]
      have := run_convert_bytes_back (P := P) w src dst e ⟨b, off, none⟩ cap s hs he hd (fun j hj => by
        rw [Q1w]
        have hm : css[j]? = some (QF s[j]) := by rw [hcs, List.getElem?_map, List.getElem?_eq_getElem hj]; rfl
        have := (hat j _ hm).cell (j := 0) (u := .int .u8 (s[j].toNat : Int)) rfl
        have hr1 : u8R.es = 1 := rfl
        rw [hr1, Nat.mul_one, Nat.add_zero] at this
        exact this)
      exact this
  rw [this]; rfl
/-- A part of an array that is a value. -/
theorem s_idxv {d T Ty e n : Nat} {x y : Operand} {k : IntKind} {m : Int} {cs : List Value} {u : Value} (hT : P.underlying T = some (.array n e)) (he : Q5j P e = true) (hsz : Q3E P e = some 1) (hx : ρ.ev x = .agg ⟨cs⟩) (hy : ρ.ev y = .int k m) (h0 : 0 ≤ m) (hm : m < n) (hu : cs[m.toNat]? = some u)
    (h : Q3 P l Q (upd ρ d u) w) : Q3 P (⟨none, .raw ⟨some d, .index T x y, Ty, "", #[], none⟩⟩ :: l) Q ρ w := by
  refine QH (v := u) (w' := w) ?_ h
  simp only [execOp, hx, hy, Instr.index, Sem.run_bind, asIntOf, Sem.run_pure, Result.andThen_ok, Q8 P T _ w hT]
  rw [if_pos ⟨h0, hm⟩]
  simp only [Sem.run_bind, QU P e 1 w hsz, Result.andThen_ok, Nat.mul_one, Qj8 P e ⟨cs⟩ _ _ w he (by simpa using hu)]
end
end Go.Lir
namespace Go.Lir
set_option linter.unusedVariables false
mutual
/-- typeSize -/
def Ty.size : Ty → Int → Int
  | .mk _ _ l, left => Tys.size l (left - 1)
def Tys.size : List Ty → Int → Int
  | [], left => left
  | x :: l, left => if 0 ≤ left then Tys.size l (x.size left) else left
end
theorem Tys.size_neg : ∀ (l : List Ty) {left : Int}, left < 0 → Tys.size l left = left
  | [], _, _ => by simp [Tys.size]
  | x :: l, left, h => by rw [Tys.size, if_neg (by omega)]
mutual
/-- deep -/
def Ty.deepB : Ty → Int → Bool
  | .mk _ _ l, left => if left < 0 then false else Tys.deepB l (left - 1)
def Tys.deepB : List Ty → Int → Bool
  | [], _ => true
  | x :: l, left => x.deepB left && Tys.deepB l left
end
mutual
/-- DeepOf -/
def Ty.depth : Ty → Int → Int
  | .mk _ _ l, most => Tys.depth l most 0
def Tys.depth : List Ty → Int → Int → Int
  | [], _, n => n
  | x :: l, most, n => if n ≤ most then (if most = 0 then 1 else Tys.depth l most (if n < 1 + x.depth (most - 1) then 1 + x.depth (most - 1) else n)) else n
end
mutual
theorem Ty.depth_iff : ∀ (t : Ty) {most : Int}, 0 ≤ most → (t.depth most ≤ most ↔ t.deepB most = true)
  | .mk _ _ l, most, h => by
    rw [Ty.depth, Ty.deepB, if_neg (by omega), Tys.depth_iff l h]
    exact ⟨fun h => h.2, fun h2 => ⟨h, h2⟩⟩
theorem Tys.depth_iff : ∀ (l : List Ty) {most n : Int}, 0 ≤ most → (Tys.depth l most n ≤ most ↔ n ≤ most ∧ Tys.deepB l (most - 1) = true)
  | [], most, n, h => by rw [Tys.depth, Tys.deepB]; simp
  | x :: l, most, n, h => by
    rw [Tys.depth, Tys.deepB]
    by_cases hn : n ≤ most
    · rw [if_pos hn]
      by_cases h0 : most = 0
      · rw [if_pos h0]
        have : x.deepB (most - 1) = false := by obtain ⟨k, r, l2⟩ := x; rw [Ty.deepB, if_pos (by omega)]
        rw [this]; simp; omega
      · rw [if_neg h0, Tys.depth_iff l h]
        have := Ty.depth_iff x (most := most - 1) (by omega)
        rw [Bool.and_eq_true, ← this]
        constructor
        · rintro ⟨h1, h2⟩; split at h1 <;> exact ⟨by omega, by omega, h2⟩
        · rintro ⟨h1, h2, h3⟩; refine ⟨?_, h3⟩; split <;> omega
    · rw [if_neg hn]
      exact ⟨fun h => absurd h hn, fun h => h.1⟩
end
mutual
/-- Same -/
def Ty.same : Ty → Ty → Bool
  | .mk k r l, .mk k2 r2 l2 => decide (k = k2) && decide (r = r2) && Tys.same l l2
def Tys.same : List Ty → List Ty → Bool
  | [], [] => true
  | x :: l, y :: m => x.same y && Tys.same l m
  | [], _ :: _ => false
  | _ :: _, [] => false
end
mutual
theorem Ty.same_iff : ∀ (t u : Ty), t.same u = true ↔ t = u
  | .mk k r l, .mk k2 r2 l2 => by
    rw [Ty.same, Bool.and_eq_true, Bool.and_eq_true, Tys.same_iff l l2]
    simp only [decide_eq_true_eq, Ty.mk.injEq, and_assoc]
theorem Tys.same_iff : ∀ (l m : List Ty), Tys.same l m = true ↔ l = m
  | [], [] => by simp [Tys.same]
  | x :: l, y :: m => by rw [Tys.same, Bool.and_eq_true, Ty.same_iff x y, Tys.same_iff l m]; simp
  | [], _ :: _ => by simp [Tys.same]
  | _ :: _, [] => by simp [Tys.same]
end
instance : DecidableEq Ty := fun t u => decidable_of_iff _ (Ty.same_iff t u)
mutual
/-- wrong, typeFault -/
def Ty.wrong (fields : Nat) : Ty → Int → Int
  | .mk k r l, regs =>
    if k < 1 ∨ 4 < k then 3 else if k = 1 ∧ r ≠ 0 ∨ k ≠ 3 ∧ 0 < l.length then 4 else if fields < l.length then 2 else if k ≠ 1 ∧ (r < 0 ∨ regs ≤ r) then 1 else Tys.wrong fields l regs
def Tys.wrong (fields : Nat) : List Ty → Int → Int
  | [], _ => 0
  | x :: l, regs => if x.wrong fields regs ≠ 0 then x.wrong fields regs else Tys.wrong fields l regs
end
mutual
/-- Rename -/
def Ty.ren : Ty → List Int → Option Ty
  | .mk k r l, to => if k ≠ 1 ∧ (r < 0 ∨ (to.length : Int) ≤ r ∨ to.getD r.toNat 0 < 0) then none else
    match Tys.ren l to with
    | none => none
    | some m => some (.mk k (if k ≠ 1 then to.getD r.toNat 0 else r) m)
def Tys.ren : List Ty → List Int → Option (List Ty)
  | [], _ => some []
  | x :: l, to => match x.ren to with
    | none => none
    | some y => match Tys.ren l to with
      | none => none
      | some m => some (y :: m)
end
mutual
/-- Two renamings one behind the other are one. -/
theorem Ty.ren_ren {f g h : List Int} (hfg : ∀ i : Nat, i < f.length → 0 ≤ f.getD i 0 ∧ f.getD i 0 < g.length ∧ 0 ≤ g.getD (f.getD i 0).toNat 0 ∧ i < h.length ∧ h.getD i 0 = g.getD (f.getD i 0).toNat 0) :
    ∀ (t u : Ty), t.ren f = some u → ∃ v, u.ren g = some v ∧ t.ren h = some v
  | .mk k r l, u, ht => by
    rw [Ty.ren] at ht
    split at ht
    · cases ht
    · rename_i hc
      cases hl : Tys.ren l f with
      | none => rw [hl] at ht; cases ht
      | some m =>
        rw [hl] at ht
        simp only [Option.some.injEq] at ht
        obtain ⟨m2, h1, h2⟩ := Tys.ren_ren hfg l m hl
        subst ht
        by_cases hk : k = 1
        · refine ⟨.mk k r m2, ?_, ?_⟩
          · rw [Ty.ren, if_neg (by omega), h1]; simp [hk]
          · rw [Ty.ren, if_neg (by omega), h2]; simp [hk]
        · have := hfg r.toNat (by omega)
          refine ⟨.mk k (g.getD (f.getD r.toNat 0).toNat 0) m2, ?_, ?_⟩
          · rw [Ty.ren, if_pos hk, if_neg (by omega), h1]; simp [hk]
          · rw [Ty.ren, if_neg (by omega), h2]; simp only [if_pos hk, this.2.2.2.2]
theorem Tys.ren_ren {f g h : List Int} (hfg : ∀ i : Nat, i < f.length → 0 ≤ f.getD i 0 ∧ f.getD i 0 < g.length ∧ 0 ≤ g.getD (f.getD i 0).toNat 0 ∧ i < h.length ∧ h.getD i 0 = g.getD (f.getD i 0).toNat 0) :
    ∀ (t u : List Ty), Tys.ren t f = some u → ∃ v, Tys.ren u g = some v ∧ Tys.ren t h = some v
  | [], u, ht => by rw [Tys.ren] at ht; cases ht; exact ⟨[], by rw [Tys.ren], by rw [Tys.ren]⟩
  | x :: l, u, ht => by
    rw [Tys.ren] at ht
    cases hx : x.ren f with
    | none => rw [hx] at ht; cases ht
    | some y =>
      rw [hx] at ht
      cases hl : Tys.ren l f with
      | none => rw [hl] at ht; cases ht
      | some m =>
        rw [hl] at ht
        simp only [Option.some.injEq] at ht
        subst ht
        obtain ⟨y2, a1, a2⟩ := Ty.ren_ren hfg x y hx
        obtain ⟨m2, b1, b2⟩ := Tys.ren_ren hfg l m hl
        exact ⟨y2 :: m2, by rw [Tys.ren, a1, b1], by rw [Tys.ren, a2, b2]⟩
end
mutual
/-- What is renamed is as right as it was, if the renaming stays below the number of regions. -/
theorem Ty.ren_wrong {fields : Nat} {f : List Int} (hf : ∀ i : Nat, i < f.length → 0 ≤ f.getD i 0 ∧ f.getD i 0 < f.length) : ∀ (t u : Ty), t.ren f = some u → u.wrong fields f.length = t.wrong fields f.length
  | .mk k r l, u, ht => by
    rw [Ty.ren] at ht
    split at ht
    · cases ht
    · rename_i hc
      cases hl : Tys.ren l f with
      | none => rw [hl] at ht; cases ht
      | some m =>
        rw [hl] at ht
        simp only [Option.some.injEq] at ht
        subst ht
        obtain ⟨h1, h2⟩ := Tys.ren_wrong (fields := fields) hf l m hl
        by_cases hk : k = 1
        · rw [Ty.wrong, Ty.wrong, h1, h2]; simp [hk]
        · have := hf r.toNat (by omega)
          rw [Ty.wrong, Ty.wrong, h1, h2]
          simp only [if_pos hk]
          rw [if_neg (show ¬ (k ≠ 1 ∧ (f.getD r.toNat 0 < 0 ∨ (f.length : Int) ≤ f.getD r.toNat 0)) by omega), if_neg (show ¬ (k ≠ 1 ∧ (r < 0 ∨ (f.length : Int) ≤ r)) by omega)]
          simp [hk]
theorem Tys.ren_wrong {fields : Nat} {f : List Int} (hf : ∀ i : Nat, i < f.length → 0 ≤ f.getD i 0 ∧ f.getD i 0 < f.length) : ∀ (t u : List Ty), Tys.ren t f = some u → u.length = t.length ∧ Tys.wrong fields u f.length = Tys.wrong fields t f.length
  | [], u, ht => by rw [Tys.ren] at ht; cases ht; exact ⟨rfl, rfl⟩
  | x :: l, u, ht => by
    rw [Tys.ren] at ht
    cases hx : x.ren f with
    | none => rw [hx] at ht; cases ht
    | some y =>
      rw [hx] at ht
      cases hl : Tys.ren l f with
      | none => rw [hl] at ht; cases ht
      | some m =>
        rw [hl] at ht
        simp only [Option.some.injEq] at ht
        subst ht
        obtain ⟨h1, h2⟩ := Tys.ren_wrong (fields := fields) hf l m hl
        exact ⟨by simp [h1], by rw [Tys.wrong, Tys.wrong, Ty.ren_wrong hf x y hx, h2]⟩
end
mutual
/-- What cannot be renamed is wrong. -/
theorem Ty.ren_none {fields : Nat} {f : List Int} (hf : ∀ i : Nat, i < f.length → 0 ≤ f.getD i 0) : ∀ (t : Ty), t.ren f = none → t.wrong fields f.length ≠ 0
  | .mk k r l, ht => by
    rw [Ty.wrong]
    rw [Ty.ren] at ht
    split
    · decide
    · split
      · decide
      · split
        · decide
        · split
          · decide
          · rename_i h1 h2 h3 h4
            have hc : ¬ (k ≠ 1 ∧ (r < 0 ∨ (f.length : Int) ≤ r ∨ f.getD r.toNat 0 < 0)) := by
              rintro ⟨a, b⟩
              have := hf r.toNat
              omega
            rw [if_neg hc] at ht
            cases hl : Tys.ren l f with
            | none => exact Tys.ren_none hf l hl
            | some m => rw [hl] at ht; cases ht
theorem Tys.ren_none {fields : Nat} {f : List Int} (hf : ∀ i : Nat, i < f.length → 0 ≤ f.getD i 0) : ∀ (t : List Ty), Tys.ren t f = none → Tys.wrong fields t f.length ≠ 0
  | [], ht => by rw [Tys.ren] at ht; cases ht
  | x :: l, ht => by
    rw [Tys.ren] at ht
    rw [Tys.wrong]
    split
    · rename_i h; exact h
    · rename_i h
      cases hx : x.ren f with
      | none => exact absurd hx (fun hx => h (Ty.ren_none hf x hx))
      | some y =>
        rw [hx] at ht
        cases hl : Tys.ren l f with
        | none => exact Tys.ren_none hf l hl
        | some m => rw [hl] at ht; cases ht
end
mutual
theorem Ty.ren_deep {f : List Int} : ∀ (t u : Ty) (left : Int), t.ren f = some u → u.deepB left = t.deepB left
  | .mk k r l, u, left, ht => by
    rw [Ty.ren] at ht
    split at ht
    · cases ht
    · cases hl : Tys.ren l f with
      | none => rw [hl] at ht; cases ht
      | some m =>
        rw [hl] at ht
        simp only [Option.some.injEq] at ht
        subst ht
        rw [Ty.deepB, Ty.deepB, Tys.ren_deep l m (left - 1) hl]
theorem Tys.ren_deep {f : List Int} : ∀ (t u : List Ty) (left : Int), Tys.ren t f = some u → Tys.deepB u left = Tys.deepB t left
  | [], u, _, ht => by rw [Tys.ren] at ht; cases ht; rfl
  | x :: l, u, left, ht => by
    rw [Tys.ren] at ht
    cases hx : x.ren f with
    | none => rw [hx] at ht; cases ht
    | some y =>
      rw [hx] at ht
      cases hl : Tys.ren l f with
      | none => rw [hl] at ht; cases ht
      | some m =>
        rw [hl] at ht
        simp only [Option.some.injEq] at ht
        subst ht
        rw [Tys.deepB, Tys.deepB, Ty.ren_deep x y left hx, Tys.ren_deep l m left hl]
end
mutual
/-- The renaming that leaves all as it is. -/
theorem Ty.ren_id {f : List Int} (hf : ∀ i : Nat, i < f.length → f.getD i 0 = i) : ∀ (t u : Ty), t.ren f = some u → u = t
  | .mk k r l, u, ht => by
    rw [Ty.ren] at ht
    split at ht
    · cases ht
    · rename_i hc
      cases hl : Tys.ren l f with
      | none => rw [hl] at ht; cases ht
      | some m =>
        rw [hl] at ht
        simp only [Option.some.injEq] at ht
        subst ht
        rw [Tys.ren_id hf l m hl]
        by_cases hk : k = 1
        · simp [hk]
        · have := hf r.toNat (by omega)
          rw [if_pos hk, this, Int.toNat_of_nonneg (by omega)]
theorem Tys.ren_id {f : List Int} (hf : ∀ i : Nat, i < f.length → f.getD i 0 = i) : ∀ (t u : List Ty), Tys.ren t f = some u → u = t
  | [], u, ht => by rw [Tys.ren] at ht; cases ht; rfl
  | x :: l, u, ht => by
    rw [Tys.ren] at ht
    cases hx : x.ren f with
    | none => rw [hx] at ht; cases ht
    | some y =>
      rw [hx] at ht
      cases hl : Tys.ren l f with
      | none => rw [hl] at ht; cases ht
      | some m =>
        rw [hl] at ht
        simp only [Option.some.injEq] at ht
        subst ht
        rw [Ty.ren_id hf x y hx, Tys.ren_id hf l m hl]
end
/-- By the parts. -/
theorem Ty.ind {p : Ty → Prop} (h : ∀ k r l, (∀ x ∈ l, p x) → p (.mk k r l)) : ∀ t, p t
  | .mk k r l => h k r l fun x hx => Ty.ind h x
termination_by t => SizeOf.sizeOf t
decreasing_by
  have := List.sizeOf_lt_of_mem hx
  simp only [Ty.mk.sizeOf_spec]
  omega
mutual
theorem Ty.size_rng : ∀ (t : Ty) {left : Int}, 0 ≤ left → -1 ≤ t.size left ∧ t.size left < left
  | .mk _ _ l, left, h => by
    rw [Ty.size]
    have := Tys.size_rng l (left := left - 1) (by omega)
    omega
theorem Tys.size_rng : ∀ (l : List Ty) {left : Int}, -1 ≤ left → -1 ≤ Tys.size l left ∧ Tys.size l left ≤ left
  | [], left, h => by rw [Tys.size]; omega
  | x :: l, left, h => by
    rw [Tys.size]
    split
    · rename_i h0
      have h1 := Ty.size_rng x h0
      have h2 := Tys.size_rng l (left := x.size left) h1.1
      omega
    · omega
end
mutual
theorem Ty.size_mono : ∀ (t : Ty) {a b : Int}, a ≤ b → -1 ≤ a → t.size a ≤ t.size b
  | .mk _ _ l, a, b, h, ha => by
    rw [Ty.size, Ty.size]
    by_cases h0 : 0 ≤ a
    · exact Tys.size_mono l (by omega) (by omega)
    · rw [Tys.size_neg l (by omega)]
      by_cases hb : 0 ≤ b
      · have := Tys.size_rng l (left := b - 1) (by omega); omega
      · rw [Tys.size_neg l (by omega)]; omega
theorem Tys.size_mono : ∀ (l : List Ty) {a b : Int}, a ≤ b → -1 ≤ a → Tys.size l a ≤ Tys.size l b
  | [], a, b, h, _ => by rw [Tys.size, Tys.size]; exact h
  | x :: l, a, b, h, ha => by
    by_cases h0 : 0 ≤ a
    · rw [Tys.size, Tys.size, if_pos h0, if_pos (by omega)]
      exact Tys.size_mono l (Ty.size_mono x h ha) (Ty.size_rng x h0).1
    · rw [Tys.size_neg _ (by omega)]
      have := Tys.size_rng (x :: l) (left := b) (by omega); omega
end
/-- What is not too great has few parts, and none of them is too great. -/
theorem Tys.size_len : ∀ (l : List Ty) {left : Int}, 0 ≤ Tys.size l left → -1 ≤ left → (l.length : Int) ≤ left ∧ ∀ x ∈ l, 0 ≤ x.size left
  | [], left, h, _ => by rw [Tys.size] at h; simp; exact h
  | x :: l, left, h, hl => by
    rw [Tys.size] at h
    split at h
    · rename_i h0
      have h1 := Ty.size_rng x h0
      have h2 := Tys.size_len l h h1.1
      have h3 := Tys.size_rng l (left := x.size left) h1.1
      refine ⟨by simp only [List.length_cons]; omega, fun y hy => ?_⟩
      rcases List.mem_cons.1 hy with rfl | hy
      · omega
      · exact Int.le_trans (h2.2 y hy) (Ty.size_mono y (by omega) h1.1)
    · omega
/-- Check, TypeFault -/
def Ty.fault (t : Ty) (regs : Int) : Int := if t.deepB 4 = false then 19 else t.wrong 8 regs
mutual
theorem Ty.depth_rng : ∀ (t : Ty) {most : Int}, 0 ≤ most → 0 ≤ t.depth most ∧ t.depth most ≤ most + 1
  | .mk _ _ l, most, h => by
    rw [Ty.depth]
    exact Tys.depth_rng l h (by omega) (by omega)
theorem Tys.depth_rng : ∀ (l : List Ty) {most n : Int}, 0 ≤ most → 0 ≤ n → n ≤ most + 1 → 0 ≤ Tys.depth l most n ∧ Tys.depth l most n ≤ most + 1
  | [], most, n, _, h1, h2 => by rw [Tys.depth]; omega
  | x :: l, most, n, h, h1, h2 => by
    rw [Tys.depth]
    split
    · split
      · omega
      · have := Ty.depth_rng x (most := most - 1) (by omega)
        exact Tys.depth_rng l h (by split <;> omega) (by split <;> omega)
    · omega
end
/-- No list of parts is long. -/
inductive Ty.Short : Ty → Prop where
  | mk {k r : Int} {l : List Ty} : l.length ≤ 100000 → (∀ x ∈ l, x.Short) → Ty.Short (.mk k r l)
theorem Ty.Short.parts {k r : Int} {l : List Ty} (h : (Ty.mk k r l).Short) : l.length ≤ 100000 ∧ ∀ x ∈ l, x.Short := by
  cases h with | mk h1 h2 => exact ⟨h1, h2⟩
theorem Ty.short_of_size : ∀ (t : Ty) {n : Int}, n ≤ 100000 → 0 ≤ n → 0 ≤ t.size n → t.Short := by
  intro t
  induction t using Ty.ind with
  | h k r l ih =>
    intro n h1 h0 h
    rw [Ty.size] at h
    obtain ⟨h2, h3⟩ := Tys.size_len l h (by omega)
    refine .mk (by omega) fun x hx => ?_
    have hp := h3 x hx
    have hl := List.length_pos_of_mem hx
    exact ih x hx (n := n - 1) (by omega) (by omega) hp
/-- GreatType, greatTypes -/
def Ty.great (t : Ty) : Bool := decide (t.size 2000 < 0)
def Tys.great (l : List Ty) : Bool := decide (200 < l.length) || l.any Ty.great
theorem Ty.short_of_great {t : Ty} (h : t.great = false) : t.Short := Ty.short_of_size t (n := 2000) (by omega) (by omega) (by unfold Ty.great at h; simp at h; exact h)
theorem Tys.short_of_great {l : List Ty} (h : Tys.great l = false) : l.length ≤ 200 ∧ ∀ x ∈ l, x.Short := by
  unfold Tys.great at h
  rw [Bool.or_eq_false_iff] at h
  refine ⟨by have := of_decide_eq_false h.1; omega, fun x hx => Ty.short_of_great ?_⟩
  cases hg : x.great with
  | false => rfl
  | true => have := List.any_eq_true.2 ⟨x, hx, hg⟩; rw [h.2] at this; cases this
end Go.Lir
namespace Go.Lir
structure Ins where
  op : Int
  a : Int
  b : Int
  c : Int
  k : Int
  n : Int
  regs : List Int
  args : List Int
structure To where
  block : Int
  regs : List Int
  args : List Int
structure Tail where
  op : Int
  a : Int
  yes : To
  no : To
  args : List Int
structure Block where
  regs : Int
  params : List Ty
  code : List Ins
  fin : Tail
deriving instance DecidableEq for Ins
deriving instance DecidableEq for To
deriving instance DecidableEq for Tail
deriving instance DecidableEq for Block
structure Fun where
  regs : Int
  params : List Ty
  results : List Ty
  blocks : List Block
structure Module where
  funcs : List Fun
deriving instance DecidableEq for Fun
deriving instance DecidableEq for Module

theorem Fun.eq_of {x y : Fun} (h1 : x.regs = y.regs) (h2 : x.params = y.params) (h3 : x.results = y.results) (h4 : x.blocks = y.blocks) : x = y := by
  cases x; cases y; simp_all
/-! ### no list is long -/
def Ins.Short (x : Ins) : Prop := x.regs.length ≤ 100000 ∧ x.args.length ≤ 100000
def To.Short (x : To) : Prop := x.regs.length ≤ 100000 ∧ x.args.length ≤ 100000
def Tail.Short (x : Tail) : Prop := x.yes.Short ∧ x.no.Short ∧ x.args.length ≤ 100000
def Tys.Short (l : List Ty) : Prop := l.length ≤ 100000 ∧ ∀ t ∈ l, t.Short
def Block.Short (x : Block) : Prop := Tys.Short x.params ∧ x.code.length ≤ 100000 ∧ (∀ i ∈ x.code, i.Short) ∧ x.fin.Short
def Fun.Short (x : Fun) : Prop := Tys.Short x.params ∧ Tys.Short x.results ∧ x.blocks.length ≤ 100000 ∧ ∀ b ∈ x.blocks, b.Short
def Module.Short (x : Module) : Prop := x.funcs.length ≤ 100000 ∧ ∀ f ∈ x.funcs, f.Short
theorem Tys.Short.of_great {l : List Ty} (h : Tys.great l = false) : Tys.Short l := by
  have := Tys.short_of_great h
  exact ⟨by omega, this.2⟩
theorem Qcz {α : Type} {l : List α} {p : α → Prop} {j : Nat} {x : α} (h : ∀ y ∈ l.take j, p y) (hx : l[j]? = some x) (hp : p x) : ∀ y ∈ l.take (j + 1), p y := by
  intro y hy
  rw [List.take_add_one, hx] at hy
  rcases List.mem_append.1 hy with hy | hy
  · exact h y hy
  · simp at hy; subst hy; exact hp
theorem Qcy {α : Type} {l : List α} {p : α → Prop} {j : Nat} (h : ∀ y ∈ l.take j, p y) (hj : l.length ≤ j) : ∀ y ∈ l, p y := by
  rw [List.take_of_length_le hj] at h; exact h
def insR : Rep Ins where
  es := 8
  pos := by decide
  R := fun H K cs x => ∃ vr va, cs = [.int .i64 x.op, .int .i64 x.a, .int .i64 x.b, .int .i64 x.c, .int .i64 x.k, .int .i64 x.n, vr, va] ∧ intR.SR H K vr x.regs ∧ intR.SR H K va x.args
  len := by rintro _ _ _ _ ⟨vr, va, rfl, _⟩; rfl
  one := by
    rintro _ _ _ _ ⟨vr, va, rfl, h1, h2⟩ u hu
    simp at hu
    rcases hu with rfl | rfl | rfl | rfl | rfl | rfl | rfl | rfl <;> first | rfl | exact h1.oneC | exact h2.oneC
  turn := by rintro _ _ _ _ _ _ ⟨vr, va, rfl, h1, h2⟩ hs; exact ⟨vr, va, rfl, h1.turn hs, h2.turn hs⟩
def toR : Rep To where
  es := 3
  pos := by decide
  R := fun H K cs x => ∃ vr va, cs = [.int .i64 x.block, vr, va] ∧ intR.SR H K vr x.regs ∧ intR.SR H K va x.args
  len := by rintro _ _ _ _ ⟨vr, va, rfl, _⟩; rfl
  one := by
    rintro _ _ _ _ ⟨vr, va, rfl, h1, h2⟩ u hu
    simp at hu
    rcases hu with rfl | rfl | rfl <;> first | rfl | exact h1.oneC | exact h2.oneC
  turn := by rintro _ _ _ _ _ _ ⟨vr, va, rfl, h1, h2⟩ hs; exact ⟨vr, va, rfl, h1.turn hs, h2.turn hs⟩
def endR : Rep Tail where
  es := 9
  pos := by decide
  R := fun H K cs x => ∃ v1 v2 v3 v4 v5, cs = [.int .i64 x.op, .int .i64 x.a, .int .i64 x.yes.block, v1, v2, .int .i64 x.no.block, v3, v4, v5] ∧ intR.SR H K v1 x.yes.regs ∧ intR.SR H K v2 x.yes.args ∧ intR.SR H K v3 x.no.regs ∧ intR.SR H K v4 x.no.args ∧ intR.SR H K v5 x.args
  len := by rintro _ _ _ _ ⟨_, _, _, _, _, rfl, _⟩; rfl
  one := by
    rintro _ _ _ _ ⟨_, _, _, _, _, rfl, h1, h2, h3, h4, h5⟩ u hu
    simp at hu
    rcases hu with rfl | rfl | rfl | rfl | rfl | rfl | rfl | rfl | rfl <;> first | rfl | exact h1.oneC | exact h2.oneC | exact h3.oneC | exact h4.oneC | exact h5.oneC
  turn := by rintro _ _ _ _ _ _ ⟨_, _, _, _, _, rfl, h1, h2, h3, h4, h5⟩ hs; exact ⟨_, _, _, _, _, rfl, h1.turn hs, h2.turn hs, h3.turn hs, h4.turn hs, h5.turn hs⟩
def blockR : Rep Block where
  es := 12
  pos := by decide
  R := fun H K cs x => ∃ vp vc ce, cs = .int .i64 x.regs :: vp :: vc :: ce ∧ tyR.SR H K vp x.params ∧ insR.SR H K vc x.code ∧ endR.R H K ce x.fin
  len := by rintro _ _ _ _ ⟨_, _, ce, rfl, _, _, h⟩; have := endR.len h; simp [this, endR]
  one := by
    rintro _ _ _ _ ⟨_, _, ce, rfl, h1, h2, h3⟩ u hu
    simp at hu
    rcases hu with rfl | rfl | rfl | hu
    · rfl
    · exact h1.oneC
    · exact h2.oneC
    · exact endR.one h3 u hu
  turn := by rintro _ _ _ _ _ _ ⟨_, _, _, rfl, h1, h2, h3⟩ hs; exact ⟨_, _, _, rfl, h1.turn hs, h2.turn hs, endR.turn h3 hs⟩
def funcR : Rep Fun where
  es := 4
  pos := by decide
  R := fun H K cs x => ∃ vp vr vb, cs = [.int .i64 x.regs, vp, vr, vb] ∧ tyR.SR H K vp x.params ∧ tyR.SR H K vr x.results ∧ blockR.SR H K vb x.blocks
  len := by rintro _ _ _ _ ⟨_, _, _, rfl, _⟩; rfl
  one := by
    rintro _ _ _ _ ⟨_, _, _, rfl, h1, h2, h3⟩ u hu
    simp at hu
    rcases hu with rfl | rfl | rfl | rfl <;> first | rfl | exact h1.oneC | exact h2.oneC | exact h3.oneC
  turn := by rintro _ _ _ _ _ _ ⟨_, _, _, rfl, h1, h2, h3⟩ hs; exact ⟨_, _, _, rfl, h1.turn hs, h2.turn hs, h3.turn hs⟩
def modR : Rep Module where
  es := 1
  pos := by decide
  R := fun H K cs x => ∃ vf, cs = [vf] ∧ funcR.SR H K vf x.funcs
  len := by rintro _ _ _ _ ⟨_, rfl, _⟩; rfl
  one := by
    rintro _ _ _ _ ⟨_, rfl, h1⟩ u hu
    simp at hu; subst hu; exact h1.oneC
  turn := by rintro _ _ _ _ _ _ ⟨_, rfl, h1⟩ hs; exact ⟨_, rfl, h1.turn hs⟩

theorem Q2f {c : Cx} {cs : List Value} {x : Ins} (h : insR.at c cs x) : ∃ vr va, cs = [.int .i64 x.op, .int .i64 x.a, .int .i64 x.b, .int .i64 x.c, .int .i64 x.k, .int .i64 x.n, vr, va] ∧ intR.sl c vr x.regs ∧ intR.sl c va x.args := h
theorem Q7y {c : Cx} {cs : List Value} {x : To} (h : toR.at c cs x) : ∃ vr va, cs = [.int .i64 x.block, vr, va] ∧ intR.sl c vr x.regs ∧ intR.sl c va x.args := h
theorem Qgk {c : Cx} {cs : List Value} {x : Tail} (h : endR.at c cs x) : ∃ v1 v2 v3 v4 v5, cs = [.int .i64 x.op, .int .i64 x.a, .int .i64 x.yes.block, v1, v2, .int .i64 x.no.block, v3, v4, v5] ∧ intR.sl c v1 x.yes.regs ∧ intR.sl c v2 x.yes.args ∧ intR.sl c v3 x.no.regs ∧ intR.sl c v4 x.no.args ∧ intR.sl c v5 x.args := h
theorem Q1y {c : Cx} {cs : List Value} {x : Block} (h : blockR.at c cs x) : ∃ vp vc v1 v2 v3 v4 v5, cs = [.int .i64 x.regs, vp, vc, .int .i64 x.fin.op, .int .i64 x.fin.a, .int .i64 x.fin.yes.block, v1, v2, .int .i64 x.fin.no.block, v3, v4, v5] ∧ tyR.sl c vp x.params ∧ insR.sl c vc x.code ∧ intR.sl c v1 x.fin.yes.regs ∧ intR.sl c v2 x.fin.yes.args ∧ intR.sl c v3 x.fin.no.regs ∧ intR.sl c v4 x.fin.no.args ∧ intR.sl c v5 x.fin.args := by
  obtain ⟨vp, vc, ce, rfl, h1, h2, v1, v2, v3, v4, v5, rfl, h3⟩ := h
  exact ⟨vp, vc, v1, v2, v3, v4, v5, rfl, h1, h2, h3⟩
theorem Ql9 {c : Cx} {x : Block} {vp vc v1 v2 v3 v4 v5 : Value} (h1 : tyR.sl c vp x.params) (h2 : insR.sl c vc x.code) (h3 : intR.sl c v1 x.fin.yes.regs) (h4 : intR.sl c v2 x.fin.yes.args) (h5 : intR.sl c v3 x.fin.no.regs) (h6 : intR.sl c v4 x.fin.no.args) (h7 : intR.sl c v5 x.fin.args) :
    blockR.at c [.int .i64 x.regs, vp, vc, .int .i64 x.fin.op, .int .i64 x.fin.a, .int .i64 x.fin.yes.block, v1, v2, .int .i64 x.fin.no.block, v3, v4, v5] x := ⟨vp, vc, _, rfl, h1, h2, v1, v2, v3, v4, v5, rfl, h3, h4, h5, h6, h7⟩
theorem Q1H {c : Cx} {cs : List Value} {x : Fun} (h : funcR.at c cs x) : ∃ vp vr vb, cs = [.int .i64 x.regs, vp, vr, vb] ∧ tyR.sl c vp x.params ∧ tyR.sl c vr x.results ∧ blockR.sl c vb x.blocks := h
theorem Q3o {c : Cx} {cs : List Value} {x : Module} (h : modR.at c cs x) : ∃ vf, cs = [vf] ∧ funcR.sl c vf x.funcs := h

/-! ### codecs -/
section
variable {P : Program} {T : TypeId}
/-- A field as a kind of data. -/
theorem Cod.Of.part {α : Type} {r : Rep α} (c : Cod.Of P T r) {H : Heap} {cs : List Value} {x : α} (h : c.cod.rd H cs x) : r.R H (· < H.size) cs x := c.rd _ _ _ h
def Cod.Of.to {TI TL : TypeId} (ci : Cod.Of P TI intR) (cl : Cod.Of P TL intR.list) (h0 : fieldAt P T 0 = some (0, 1, TI)) (h1 : fieldAt P T 1 = some (1, 1, TL)) (h2 : fieldAt P T 2 = some (2, 1, TL)) (hT : P.cellsOf T = 3) : Cod.Of P T toR :=
  Cod.of (Fld.cod (Fld.more ci.cod h0 (Fld.more cl.cod h1 (Fld.more cl.cod h2 Fld.none))) h0 3 hT) toR rfl fun H cs x h => by
    obtain ⟨hl, g0, g1, g2, _⟩ := h
    match cs, hl with
    | [a, b, c], _ =>
      have e0 : [a] = [_] := ci.part g0
      obtain ⟨v1, e1, s1⟩ := cl.part g1
      obtain ⟨v2, e2, s2⟩ := cl.part g2
      replace e1 : [b] = [v1] := e1
      replace e2 : [c] = [v2] := e2
      simp only [List.cons.injEq, and_true] at e0 e1 e2
      subst e0 e1 e2
      exact ⟨⟨x.1, x.2.1, x.2.2.1⟩, b, c, rfl, s1, s2⟩
def Cod.Of.block {TI TL TC TE : TypeId} (ci : Cod.Of P TI intR) (cl : Cod.Of P TL tyR.list) (cc : Cod.Of P TC insR.list) (ce : Cod.Of P TE endR) (h0 : fieldAt P T 0 = some (0, 1, TI)) (h1 : fieldAt P T 1 = some (1, 1, TL)) (h2 : fieldAt P T 2 = some (2, 1, TC)) (h3 : fieldAt P T 3 = some (3, 9, TE)) (hT : P.cellsOf T = 12) : Cod.Of P T blockR :=
  Cod.of (Fld.cod (Fld.more ci.cod h0 (Fld.more cl.cod h1 (Fld.more cc.cod h2 (Fld.more ce.cod h3 Fld.none)))) h0 12 hT) blockR rfl fun H cs x h => by
    obtain ⟨hl, g0, g1, g2, g3, _⟩ := h
    match cs, hl with
    | [a0, a1, a2, a3, a4, a5, a6, a7, a8, a9, a10, a11], _ =>
      have e0 : [a0] = [_] := ci.part g0
      obtain ⟨v1, e1, s1⟩ := cl.part g1
      obtain ⟨v2, e2, s2⟩ := cc.part g2
      have s3 := ce.part g3
      replace e1 : [a1] = _ := e1
      replace e2 : [a2] = _ := e2
      replace s3 : endR.R H (· < H.size) [a3, a4, a5, a6, a7, a8, a9, a10, a11] x.2.2.2.1 := s3
      simp only [List.cons.injEq, and_true] at e0 e1 e2
      subst e0 e1 e2
      exact ⟨⟨x.1, x.2.1, x.2.2.1, x.2.2.2.1⟩, _, _, _, rfl, s1, s2, s3⟩
def Cod.Of.func {TI TL TB : TypeId} (ci : Cod.Of P TI intR) (cl : Cod.Of P TL tyR.list) (cb : Cod.Of P TB blockR.list) (h0 : fieldAt P T 0 = some (0, 1, TI)) (h1 : fieldAt P T 1 = some (1, 1, TL)) (h2 : fieldAt P T 2 = some (2, 1, TL)) (h3 : fieldAt P T 3 = some (3, 1, TB)) (hT : P.cellsOf T = 4) : Cod.Of P T funcR :=
  Cod.of (Fld.cod (Fld.more ci.cod h0 (Fld.more cl.cod h1 (Fld.more cl.cod h2 (Fld.more cb.cod h3 Fld.none)))) h0 4 hT) funcR rfl fun H cs x h => by
    obtain ⟨hl, g0, g1, g2, g3, _⟩ := h
    match cs, hl with
    | [a0, a1, a2, a3], _ =>
      have e0 : [a0] = [_] := ci.part g0
      obtain ⟨v1, e1, s1⟩ := cl.part g1
      obtain ⟨v2, e2, s2⟩ := cl.part g2
      obtain ⟨v3, e3, s3⟩ := cb.part g3
      replace e1 : [a1] = _ := e1
      replace e2 : [a2] = _ := e2
      replace e3 : [a3] = _ := e3
      simp only [List.cons.injEq, and_true] at e0 e1 e2 e3
      subst e0 e1 e2 e3
      exact ⟨⟨x.1, x.2.1, x.2.2.1, x.2.2.2.1⟩, _, _, _, rfl, s1, s2, s3⟩
end
end Go.Lir
namespace Go.Lir
set_option linter.unusedVariables false
/-- What the program makes of a number ahead of writing it. -/
def zigI (n : Int) : Int := bitI .xor .u64 (IntKind.u64.wrap (IntKind.u64.wrap n * 2 ^ (min (1 : Int).toNat IntKind.u64.bits))) (IntKind.u64.wrap (n.fdiv (2 ^ (min (63 : Int).toNat IntKind.i64.bits))))
theorem u64_rng (a : Int) : 0 ≤ IntKind.u64.wrap a ∧ IntKind.u64.wrap a < 18446744073709551616 := by
  have e : IntKind.u64.wrap a = a % 18446744073709551616 := by
    unfold IntKind.wrap
    simp [IntKind.bits, IntKind.signed]
  rw [e]; omega
theorem Qj3 (n : Int) : 0 ≤ zigI n ∧ zigI n < 18446744073709551616 := by unfold zigI bitI; exact u64_rng _
def zig (n : Int) : Nat := (zigI n).toNat
theorem zig_val (n : Int) : zigI n = (zig n : Int) := by have := Qj3 n; unfold zig; omega
theorem zig_lt (n : Int) : zig n < 18446744073709551616 := by have := Qj3 n; unfold zig; omega
/-- The low bits first, seven at a time. -/
def leb : Nat → Nat → List UInt8
  | 0, _ => []
  | k + 1, u => if u < 128 then [UInt8.ofNat u] else UInt8.ofNat (u % 128 + 128) :: leb k (u / 128)
theorem QkK : ∀ (k u : Nat), (leb k u).length ≤ k
  | 0, _ => by simp [leb]
  | k + 1, u => by
    rw [leb]
    split
    · simp
    · have := QkK k (u / 128)
      simp only [List.length_cons]; omega
def QN (n : Int) : List UInt8 := leb 10 (zig n)
def Q1i (l : List Int) : List UInt8 := l.flatMap QN
theorem QJ (n : Int) : (QN n).length ≤ 10 := QkK 10 _
theorem Qfz : ∀ (l : List Int), (Q1i l).length ≤ 10 * l.length
  | [] => by simp [Q1i]
  | n :: l => by
    have h1 := QJ n
    have h2 := Qfz l
    simp only [Q1i, List.flatMap_cons, List.length_append, List.length_cons] at h2 ⊢
    omega
theorem Q4f {l : List Int} {j : Nat} {n : Int} (h : l[j]? = some n) : Q1i (l.take (j + 1)) = Q1i (l.take j) ++ QN n := by
  rw [Qk3 h]; simp [Q1i]
theorem QjX (u : Nat) : IntKind.u8.wrap (u : Int) = ((u % 256 : Nat) : Int) := by
  unfold IntKind.wrap
  simp [IntKind.bits, IntKind.signed]
theorem low_byte {u : Nat} (h : u < 128) : IntKind.u8.wrap (u : Int) = ((UInt8.ofNat u).toNat : Int) := by
  rw [QjX]; simp
theorem or_fin : ∀ p : Fin 256, bitI .or .u8 (p.val : Int) 128 = (((p.val % 128 + 128 : Nat)) : Int) := by decide +kernel
theorem or_byte (u : Nat) : bitI .or .u8 (IntKind.u8.wrap (u : Int)) 128 = ((UInt8.ofNat (u % 128 + 128)).toNat : Int) := by
  rw [QjX, or_fin ⟨u % 256, by omega⟩]
  simp
  omega
theorem shr_nat (u : Nat) : (u : Int).fdiv (2 ^ (min (7 : Int).toNat IntKind.u64.bits)) = ((u / 128 : Nat) : Int) := by
  rw [show (2 : Int) ^ (min (7 : Int).toNat IntKind.u64.bits) = ((128 : Nat) : Int) from by decide]
  rw [Int.fdiv_eq_ediv_of_nonneg _ (by omega)]; omega
theorem leb_lt {u k : Nat} (h : u < 128 ^ (k + 1)) (h1 : 128 ≤ u) : u / 128 < 128 ^ (k - 1 + 1) := by
  cases k with
  | zero => omega
  | succ k =>
    rw [Nat.pow_succ] at h
    exact Nat.div_lt_of_lt_mul (by rw [Nat.mul_comm]; exact h)
theorem leb_step {u k : Nat} {acc pre : List UInt8} (hd : acc ++ leb (k + 1) u = pre) (hk : u < 128 ^ (k + 1)) (h : 128 ≤ u) : (acc ++ [UInt8.ofNat (u % 128 + 128)]) ++ leb (k - 1 + 1) (u / 128) = pre := by
  cases k with
  | zero => omega
  | succ k =>
    have e : leb (k + 1 + 1) u = UInt8.ofNat (u % 128 + 128) :: leb (k + 1) (u / 128) := by rw [leb, if_neg (by omega)]
    rw [← hd, e, List.append_assoc]; rfl
theorem leb_last {u k : Nat} (h : u < 128) : leb (k + 1) u = [UInt8.ofNat u] := by rw [leb, if_pos h]
theorem leb_meas {u : Nat} (h : 128 ≤ u) : (((u / 128 : Nat) : Int)).toNat < ((u : Int)).toNat := by omega
theorem Qdb : ∀ (l : List Int) (j : Nat), (Q1i (l.take j)).length ≤ (Q1i l).length
  | [], j => by simp
  | n :: l, 0 => by simp [Q1i]
  | n :: l, j + 1 => by
    have := Qdb l j
    simp only [Q1i, List.take_succ_cons, List.flatMap_cons, List.length_append] at this ⊢
    omega
theorem acc_len {acc r bs : List UInt8} {l : List Int} {j : Nat} {n : Int} (hd : acc ++ r = bs ++ Q1i (l.take j) ++ QN n) (hx : l[j]? = some n) (hb : bs.length + (Q1i l).length ≤ 60000000000000) : acc.length ≤ 60000000000000 := by
  have h1 := congrArg List.length hd
  have h2 := Qdb l (j + 1)
  rw [Q4f hx] at h2
  simp only [List.length_append] at h1 h2
  omega
theorem Q2X (n : Int) : Q1i [n] = QN n := by simp [Q1i]
theorem room_one {bs : List UInt8} {l : List Int} {j : Nat} {n : Int} (hx : l[j]? = some n) (hb : bs.length + (Q1i l).length ≤ 60000000000000) : (bs ++ Q1i (l.take j)).length + (Q1i [n]).length ≤ 60000000000000 := by
  have h2 := Qdb l (j + 1)
  rw [Q4f hx] at h2
  rw [Q2X]
  simp only [List.length_append] at h2 ⊢
  omega
theorem QjI {bs : List UInt8} {l : List Int} {j : Nat} {n : Int} (hx : l[j]? = some n) : bs ++ Q1i (l.take (j + 1)) = bs ++ Q1i (l.take j) ++ Q1i [n] := by
  rw [Q4f hx, Q2X, List.append_assoc]
/-- A list of numbers, its length ahead of it. -/
def Q7D (l : List Int) : List UInt8 := QN l.length ++ Q1i l
mutual
def Ty.bts : Ty → List UInt8
  | .mk k r l => QN k ++ (if k ≠ 1 then QN r else []) ++ (if k = 3 then QN l.length ++ Tys.bts l else [])
def Tys.bts : List Ty → List UInt8
  | [] => []
  | x :: l => x.bts ++ Tys.bts l
end
/-- A list of types, its length ahead of it. -/
def tysB (l : List Ty) : List UInt8 := QN l.length ++ Tys.bts l
theorem Ty.bts_mk (t : Ty) : t.bts = QN t.kind ++ (if t.kind ≠ 1 then QN t.r else []) ++ (if t.kind = 3 then tysB t.l else []) := by
  obtain ⟨k, r, l⟩ := t
  rw [Ty.bts]; rfl
theorem Tys.bts_snoc : ∀ {l : List Ty} {j : Nat} {x : Ty}, l[j]? = some x → Tys.bts (l.take (j + 1)) = Tys.bts (l.take j) ++ x.bts
  | [], j, x, h => by simp at h
  | y :: l, 0, x, h => by
    simp only [List.getElem?_cons_zero, Option.some.injEq] at h
    subst h
    simp [Tys.bts]
  | y :: l, j + 1, x, h => by
    rw [List.getElem?_cons_succ] at h
    rw [List.take_succ_cons, List.take_succ_cons, Tys.bts, Tys.bts, Tys.bts_snoc h, List.append_assoc]
theorem Tys.bts_le : ∀ (l : List Ty) (j : Nat), (Tys.bts (l.take j)).length ≤ (Tys.bts l).length
  | [], j => by simp
  | y :: l, 0 => by simp [Tys.bts]
  | y :: l, j + 1 => by
    have := Tys.bts_le l j
    rw [List.take_succ_cons, Tys.bts, Tys.bts, List.length_append, List.length_append]
    omega
theorem Tys.bts_room {l : List Ty} {j : Nat} {x : Ty} (h : l[j]? = some x) : (Tys.bts (l.take j)).length + x.bts.length ≤ (Tys.bts l).length := by
  have := Tys.bts_le l (j + 1)
  rw [Tys.bts_snoc h, List.length_append] at this
  exact this
def To.bts (t : To) : List UInt8 := QN t.block ++ Q7D t.regs ++ Q7D t.args
def Tail.bts (e : Tail) : List UInt8 := QN e.op ++ (if e.op = 1 then e.yes.bts else if e.op = 2 then QN e.a ++ e.yes.bts ++ e.no.bts else if e.op = 3 then Q7D e.args else [])
/-- Which parts an instruction has. -/
def Qe (op : Int) : Nat := if op < 0 ∨ 14 < op then 0 else [0, 64, 11, 0, 1, 33, 9, 11, 3, 3, 7, 1, 0, 1, 56].getD op.toNat 0
theorem QfE (op : Int) : Qe op < 128 := by
  unfold Qe
  split
  · omega
  · have h : ∀ i : Fin 15, [0, 64, 11, 0, 1, 33, 9, 11, 3, 3, 7, 1, 0, 1, 56].getD i.val 0 < 128 := by decide
    exact h ⟨op.toNat, by omega⟩
def Q7A (h : Nat) : Nat → List Int → List UInt8
  | _, [] => []
  | k, n :: l => (if h / 2 ^ k % 2 = 1 then QN n else []) ++ Q7A h (k + 1) l
theorem Q9M {h k : Nat} {l : List Int} {n : Int} (hx : l[k]? = some n) : Q7A h k (l.drop k) = (if h / 2 ^ k % 2 = 1 then QN n else []) ++ Q7A h (k + 1) (l.drop (k + 1)) := by
  rw [Q7 hx, Q7A]
def Ins.bts (x : Ins) : List UInt8 := QN x.op ++ Q7A (Qe x.op) 0 [x.a, x.b, x.c, x.k] ++ (if Qe x.op / 64 % 2 = 1 then QN x.n else []) ++ (if Qe x.op / 16 % 2 = 1 then Q7D x.regs else []) ++ (if Qe x.op / 32 % 2 = 1 then Q7D x.args else [])
theorem bit_fin : ∀ (h : Fin 128) (j : Fin 4), bitI .and .i64 ((h.val : Int).fdiv (2 ^ (min ((j.val : Int)).toNat IntKind.i64.bits))) 1 = ((h.val / 2 ^ j.val % 2 : Nat) : Int) := by decide +kernel
theorem bit_at {h j : Nat} (hh : h < 128) (hj : j < 4) : bitI .and .i64 ((h : Int).fdiv (2 ^ (min ((j : Int)).toNat IntKind.i64.bits))) 1 = ((h / 2 ^ j % 2 : Nat) : Int) := bit_fin ⟨h, hh⟩ ⟨j, hj⟩
theorem QiW : ∀ (h : Fin 128), bitI .and .i64 (h.val : Int) 64 = ((64 * (h.val / 64 % 2) : Nat) : Int) ∧ bitI .and .i64 (h.val : Int) 16 = ((16 * (h.val / 16 % 2) : Nat) : Int) ∧ bitI .and .i64 (h.val : Int) 32 = ((32 * (h.val / 32 % 2) : Nat) : Int) := by decide +kernel
theorem and64 {h : Nat} (hh : h < 128) : bitI .and .i64 (h : Int) 64 = ((64 * (h / 64 % 2) : Nat) : Int) := (QiW ⟨h, hh⟩).1
theorem and16 {h : Nat} (hh : h < 128) : bitI .and .i64 (h : Int) 16 = ((16 * (h / 16 % 2) : Nat) : Int) := (QiW ⟨h, hh⟩).2.1
theorem and32 {h : Nat} (hh : h < 128) : bitI .and .i64 (h : Int) 32 = ((32 * (h / 32 % 2) : Nat) : Int) := (QiW ⟨h, hh⟩).2.2
theorem QiI {op : Int} (h0 : 0 ≤ op) (h1 : op ≤ 14) : ([0, 64, 11, 0, 1, 33, 9, 11, 3, 3, 7, 1, 0, 1, 56].map fun n : Nat => Value.int .i64 (n : Int))[op.toNat]? = some (.int .i64 (Qe op : Int)) := by
  unfold Qe
  rw [if_neg (by omega)]
  have h : ∀ i : Fin 15, [0, 64, 11, 0, 1, 33, 9, 11, 3, 3, 7, 1, 0, 1, 56][i.val]? = some ([0, 64, 11, 0, 1, 33, 9, 11, 3, 3, 7, 1, 0, 1, 56].getD i.val 0) := by decide
  rw [List.getElem?_map, h ⟨op.toNat, by omega⟩]; rfl
end Go.Lir
namespace Go.Lir
set_option linter.unusedVariables false
mutual
def Ty.nodes : Ty → Nat
  | .mk _ _ l => 1 + Tys.nodes l
def Tys.nodes : List Ty → Nat
  | [] => 0
  | x :: l => x.nodes + Tys.nodes l
end
mutual
theorem Ty.size_nodes : ∀ (t : Ty) {n : Int}, 0 ≤ t.size n → t.size n = n - t.nodes
  | .mk k r l, n, h => by
    rw [Ty.size] at h ⊢
    rw [Tys.size_nodes l h, Ty.nodes]
    omega
theorem Tys.size_nodes : ∀ (l : List Ty) {n : Int}, 0 ≤ Tys.size l n → Tys.size l n = n - Tys.nodes l
  | [], n, h => by rw [Tys.size, Tys.nodes]; omega
  | x :: l, n, h => by
    rw [Tys.size] at h ⊢
    by_cases hn : 0 ≤ n
    · rw [if_pos hn] at h ⊢
      have hx : 0 ≤ x.size n := by
        rcases Int.lt_or_le (x.size n) 0 with h1 | h1
        · rw [Tys.size_neg l h1] at h; omega
        · exact h1
      rw [Tys.size_nodes l h, Ty.size_nodes x hx, Tys.nodes]
      omega
    · rw [if_neg hn] at h; omega
end
theorem Ty.nodes_of_great {t : Ty} (h : t.great = false) : t.nodes ≤ 2000 := by
  unfold Ty.great at h
  simp at h
  have := Ty.size_nodes t h
  omega
end Go.Lir
namespace Go.Lir
set_option linter.unusedVariables false
theorem QfO (n : Nat) (h : n < 4294967296) : IntKind.u32.wrap (n : Int) = (n : Int) := by
  unfold IntKind.wrap
  simp [IntKind.bits, IntKind.signed]
  omega
theorem Qcx (a : BitVec 32) : BitVec.ofInt IntKind.u32.bits (a.toNat : Int) = a := by
  show BitVec.ofInt 32 (a.toNat : Int) = a
  rw [BitVec.ofInt_natCast, BitVec.ofNat_toNat]; simp
theorem Ql8 (a b : BitVec 32) : bitI .xor .u32 (a.toNat : Int) (b.toNat : Int) = ((a ^^^ b).toNat : Int) := by
  unfold bitI
  rw [Qcx, Qcx]
  exact QfO _ (a ^^^ b).isLt
theorem bv_and (a b : BitVec 32) : bitI .and .u32 (a.toNat : Int) (b.toNat : Int) = ((a &&& b).toNat : Int) := by
  unfold bitI
  rw [Qcx, Qcx]
  exact QfO _ (a &&& b).isLt
theorem bv_neg (a : BitVec 32) : IntKind.u32.wrap (0 - (a.toNat : Int)) = ((-a).toNat : Int) := by
  unfold IntKind.wrap
  simp [IntKind.bits, IntKind.signed, BitVec.toNat_neg]
  have := a.isLt
  omega
theorem bv_shr (a : BitVec 32) : (a.toNat : Int).fdiv (2 ^ (min (1 : Int).toNat IntKind.u32.bits)) = ((a >>> 1).toNat : Int) := by
  rw [show (2 : Int) ^ (min (1 : Int).toNat IntKind.u32.bits) = 2 from by decide, Int.fdiv_eq_ediv_of_nonneg _ (by omega), BitVec.toNat_ushiftRight, Nat.shiftRight_eq_div_pow]
  omega
theorem bv_byte (x : UInt8) : IntKind.u32.wrap (x.toNat : Int) = ((BitVec.ofNat 32 x.toNat).toNat : Int) := by
  have := x.toNat_lt
  rw [QfO _ (by omega), BitVec.toNat_ofNat, Nat.mod_eq_of_lt (by omega)]
/-- One bit. -/
def Ql3 (c : BitVec 32) : BitVec 32 := (c >>> 1) ^^^ (3988292384#32 &&& -(c &&& 1#32))
def crcN : Nat → BitVec 32 → BitVec 32
  | 0, c => c
  | k + 1, c => crcN k (Ql3 c)
/-- One byte. -/
def Qgs (c : BitVec 32) (x : UInt8) : BitVec 32 := crcN 8 (c ^^^ BitVec.ofNat 32 x.toNat)
def Q2g (bs : List UInt8) : BitVec 32 := 4294967295#32 ^^^ bs.foldl Qgs 4294967295#32
section
variable {P : Program} {l : List GO} {Q : QT} {ρ : Env} {w : World}
theorem s_compl {d : Nat} {x : Operand} {c : BitVec 32} (hx : ρ.ev x = .int .u32 (c.toNat : Int)) (h : Q3 P l Q (upd ρ d (.int .u32 ((4294967295#32 ^^^ c).toNat : Int))) w) : Q3 P (⟨none, .un d .xor x⟩ :: l) Q ρ w :=
  ⟨_, fun w0 => by
    rw [hx, ← Ql8]
    rfl, h⟩
end
end Go.Lir
namespace Go.Lir
set_option linter.unusedVariables false
def Block.bts (b : Block) : List UInt8 := QN b.regs ++ tysB b.params ++ QN b.code.length ++ b.code.flatMap Ins.bts ++ b.fin.bts
def Fun.bts (f : Fun) : List UInt8 := QN f.regs ++ tysB f.params ++ tysB f.results ++ QN f.blocks.length ++ f.blocks.flatMap Block.bts
def Module.body (m : Module) : List UInt8 := [67, 72, 1] ++ QN m.funcs.length ++ m.funcs.flatMap Fun.bts
def Ins.Few (x : Ins) : Prop := x.regs.length ≤ 300 ∧ x.args.length ≤ 300
def To.Few (x : To) : Prop := x.regs.length ≤ 300 ∧ x.args.length ≤ 300
def Tail.Few (x : Tail) : Prop := x.yes.Few ∧ x.no.Few ∧ x.args.length ≤ 300
def Block.Few (b : Block) : Prop := Tys.great b.params = false ∧ b.code.length ≤ 200 ∧ (∀ i ∈ b.code, i.Few) ∧ b.fin.Few
def Fun.Few (f : Fun) : Prop := Tys.great f.params = false ∧ Tys.great f.results = false ∧ f.blocks.length ≤ 30 ∧ ∀ b ∈ f.blocks, b.Few
def Module.Few (m : Module) : Prop := m.funcs.length ≤ 20 ∧ ∀ f ∈ m.funcs, f.Few
theorem Qjh {α : Type} {f : α → List UInt8} {c : Nat} : ∀ {l : List α}, (∀ x ∈ l, (f x).length ≤ c) → (l.flatMap f).length ≤ l.length * c
  | [], _ => by simp
  | x :: l, h => by
    have h1 := h x (List.mem_cons_self ..)
    have h2 := Qjh (l := l) fun y hy => h y (List.mem_cons_of_mem _ hy)
    rw [List.flatMap_cons, List.length_append, List.length_cons, Nat.succ_mul]
    omega
theorem Qdf {α : Type} {f : α → List UInt8} {c n : Nat} {l : List α} (h : ∀ x ∈ l, (f x).length ≤ c) (hn : l.length ≤ n) : (l.flatMap f).length ≤ n * c :=
  Nat.le_trans (Qjh h) (Nat.mul_le_mul_right c hn)
mutual
theorem Ty.bts_len : ∀ (t : Ty), t.bts.length ≤ 30 * t.nodes
  | .mk k r l => by
    have h1 := Tys.bts_len l
    have h2 := QJ k
    have h3 := QJ r
    have h4 := QJ l.length
    rw [Ty.bts, Ty.nodes]
    simp only [List.length_append]
    split <;> split <;> simp only [List.length_append, List.length_nil] <;> omega
theorem Tys.bts_len : ∀ (l : List Ty), (Tys.bts l).length ≤ 30 * Tys.nodes l
  | [] => by simp [Tys.bts]
  | x :: l => by
    have h1 := Ty.bts_len x
    have h2 := Tys.bts_len l
    rw [Tys.bts, Tys.nodes, List.length_append]
    omega
end
theorem Tys.nodes_few : ∀ {l : List Ty}, (∀ x ∈ l, x.nodes ≤ 2000) → Tys.nodes l ≤ 2000 * l.length
  | [], _ => by simp [Tys.nodes]
  | x :: l, h => by
    have h1 := h x (List.mem_cons_self ..)
    have h2 := Tys.nodes_few (l := l) fun y hy => h y (List.mem_cons_of_mem _ hy)
    rw [Tys.nodes, List.length_cons]
    omega
theorem QfP {l : List Ty} (h : Tys.great l = false) : (tysB l).length ≤ 12000010 := by
  unfold Tys.great at h
  rw [Bool.or_eq_false_iff] at h
  have hl : l.length ≤ 200 := by have := of_decide_eq_false h.1; omega
  have h1 := Tys.bts_len l
  have h2 := Tys.nodes_few (l := l) fun x hx => Ty.nodes_of_great (by have := List.any_eq_false.1 h.2 x hx; simpa using this)
  have h3 := QJ l.length
  unfold tysB
  rw [List.length_append]
  omega
theorem Q5u {l : List Int} (h : l.length ≤ 300) : (Q7D l).length ≤ 3010 := by
  have h1 := Qfz l
  have h2 := QJ l.length
  unfold Q7D
  rw [List.length_append]
  omega
theorem To.bts_few {x : To} (h : x.Few) : x.bts.length ≤ 6030 := by
  have h1 := Q5u h.1
  have h2 := Q5u h.2
  have h3 := QJ x.block
  unfold To.bts
  simp only [List.length_append]
  omega
theorem Tail.bts_few {x : Tail} (h : x.Few) : x.bts.length ≤ 13000 := by
  have h1 := To.bts_few h.1
  have h2 := To.bts_few h.2.1
  have h3 := Q5u h.2.2
  have h4 := QJ x.op
  have h5 := QJ x.a
  unfold Tail.bts
  rw [List.length_append]
  split
  · omega
  · split
    · simp only [List.length_append]; omega
    · split
      · omega
      · simp only [List.length_nil]; omega
theorem Ins.bts_few {x : Ins} (h : x.Few) : x.bts.length ≤ 6110 := by
  have h1 := Q5u h.1
  have h2 := Q5u h.2
  have h3 := QJ x.op
  have h4 := QJ x.n
  have ha := QJ x.a
  have hb := QJ x.b
  have hc := QJ x.c
  have hk := QJ x.k
  have h5 : (Q7A (Qe x.op) 0 [x.a, x.b, x.c, x.k]).length ≤ 40 := by
    simp only [Q7A, List.length_append, List.length_nil]
    split <;> split <;> split <;> split <;> (try simp only [List.length_nil]) <;> omega
  unfold Ins.bts
  simp only [List.length_append]
  split <;> split <;> split <;> (try simp only [List.length_nil]) <;> omega
theorem Block.bts_few {b : Block} (h : b.Few) : b.bts.length ≤ 14000000 := by
  have h1 := QfP h.1
  have h2 := Qdf (f := Ins.bts) (c := 6110) (fun x hx => Ins.bts_few (h.2.2.1 x hx)) h.2.1
  have h3 := Tail.bts_few h.2.2.2
  have h4 := QJ b.regs
  have h5 := QJ b.code.length
  unfold Block.bts
  simp only [List.length_append]
  omega
theorem Fun.bts_few {f : Fun} (h : f.Few) : f.bts.length ≤ 450000000 := by
  have h1 := QfP h.1
  have h2 := QfP h.2.1
  have h3 := Qdf (f := Block.bts) (c := 14000000) (fun x hx => Block.bts_few (h.2.2.2 x hx)) h.2.2.1
  have h4 := QJ f.regs
  have h5 := QJ f.blocks.length
  unfold Fun.bts
  simp only [List.length_append]
  omega
theorem Module.body_few {m : Module} (h : m.Few) : m.body.length ≤ 10000000000 := by
  have h1 := Qdf (f := Fun.bts) (c := 450000000) (fun x hx => Fun.bts_few (h.2 x hx)) h.1
  have h2 := QJ m.funcs.length
  unfold Module.body
  simp only [List.length_append, List.length_cons, List.length_nil]
  omega
end Go.Lir
namespace Go.Lir
set_option linter.unusedVariables false
abbrev Flt := Int × Int
/-- The first fault. -/
def orF (a b : Flt) : Flt := if a.1 = 0 ∧ b.1 ≠ 0 then b else a
def mkF (c at' : Int) : Flt := if c = 0 then (0, 0) else (c, at')
theorem Q35 (a b c : Flt) : orF (orF a b) c = orF a (orF b c) := by
  unfold orF
  by_cases h1 : a.1 = 0 <;> by_cases h2 : b.1 = 0 <;> by_cases h3 : c.1 = 0 <;> simp [h1, h2, h3]
theorem orF_l {a b : Flt} (h : a.1 ≠ 0) : orF a b = a := by unfold orF; rw [if_neg (fun h' => h h'.1)]
theorem QjC {a b : Flt} (h : b.1 = 0) : orF a b = a := by unfold orF; rw [if_neg (fun h' => h'.2 h)]
theorem orF_0 {b : Flt} (h : b.1 = 0 → b = (0, 0)) : orF (0, 0) b = b := by
  unfold orF
  by_cases hb : b.1 = 0
  · rw [h hb]; rfl
  · rw [if_pos ⟨rfl, hb⟩]
theorem mkF_0 (at' : Int) : mkF 0 at' = (0, 0) := rfl
theorem mkF_c {c at' : Int} (h : c ≠ 0) : mkF c at' = (c, at') := if_neg h
theorem Qgg (c at' : Int) : (mkF c at').1 = c := by unfold mkF; split <;> simp_all
theorem mkF_z (c at' : Int) : (mkF c at').1 = 0 → mkF c at' = (0, 0) := by rw [Qgg]; rintro rfl; rfl
/-- Two codes at one place: the first that is not 0. -/
def orC (a b : Int) : Int := if a ≠ 0 then a else b
theorem Q2d {g : Flt} {a b at' : Int} : orF (orF g (mkF a at')) (mkF b at') = orF g (mkF (orC a b) at') := by
  rw [Q35]
  congr 1
  unfold orC orF
  by_cases h : a = 0
  · subst h
    by_cases hb : b = 0
    · subst hb; rfl
    · simp [mkF, hb]
  · simp [mkF, h]

/-! which fields an instruction has -/
def fA (op : Int) : Bool := decide (op = 2 ∨ op = 4 ∨ op = 5 ∨ op = 6 ∨ op = 7 ∨ op = 8 ∨ op = 9 ∨ op = 10 ∨ op = 11 ∨ op = 13)
def fB (op : Int) : Bool := decide (op = 2 ∨ op = 7 ∨ op = 8 ∨ op = 9 ∨ op = 10)
def fC (op : Int) : Bool := decide (op = 10)
def fK (op : Int) : Bool := decide (op = 2 ∨ op = 6 ∨ op = 7 ∨ op = 14)
def fN (op : Int) : Bool := decide (op = 1)
def fG (op : Int) : Bool := decide (op = 14)
def fR (op : Int) : Bool := decide (op = 5 ∨ op = 14)
/-- A field that the kind has not is not 0. -/
def Ins.odd (x : Ins) : Prop := (fA x.op = false ∧ x.a ≠ 0) ∨ (fB x.op = false ∧ x.b ≠ 0) ∨ (fC x.op = false ∧ x.c ≠ 0) ∨ (fK x.op = false ∧ x.k ≠ 0) ∨ (fN x.op = false ∧ x.n ≠ 0) ∨ (fG x.op = false ∧ 0 < x.regs.length) ∨ (fR x.op = false ∧ 0 < x.args.length)
instance (x : Ins) : Decidable x.odd := by unfold Ins.odd; infer_instance
/-- What stands behind the form, kind by kind. -/
def Q37 (n : Nat) (x : Ins) : Int :=
  if x.op = 2 then (if x.k < 1 ∨ 9 < x.k then 1 else 0)
  else if x.op = 5 then (if 8 < x.args.length then 2 else 0)
  else if x.op = 6 ∨ x.op = 7 then (if x.k < 0 ∨ 8 ≤ x.k then 1 else 0)
  else if x.op = 14 then (if x.k < 0 ∨ (n : Int) ≤ x.k then 1 else if 6 < x.regs.length ∨ 8 < x.args.length then 2 else 0)
  else 0
def Q3J (n : Nat) (x : Ins) : Int := if x.op < 1 ∨ 14 < x.op then 3 else if x.odd then 4 else Q37 n x
def Q2a (n : Nat) (t : To) (is : Bool) : Int :=
  if is = false then (if t.block ≠ 0 ∨ 0 < t.regs.length ∨ 0 < t.args.length then 4 else 0)
  else if t.block < 0 ∨ (n : Int) ≤ t.block then 1 else if 16 < t.regs.length ∨ 8 < t.args.length then 2 else 0
def Q3K (n : Nat) (e : Tail) : Int :=
  if e.op < 1 ∨ 3 < e.op then 3
  else if e.op ≠ 2 ∧ e.a ≠ 0 ∨ e.op ≠ 3 ∧ 0 < e.args.length then 4
  else if 8 < e.args.length then 2
  else orC (Q2a n e.yes (decide (e.op ≠ 3))) (Q2a n e.no (decide (e.op = 2)))
def Q47 (regs : Int) : List Ty → Int
  | [] => 0
  | t :: l => orC (t.fault regs) (Q47 regs l)
def QO (l : List Ty) (regs : Int) : Int := if 8 < l.length then 2 else Q47 regs l
def Q3e (f : Nat) : Int := f * 10000 + 9999
def Q3N (f b : Nat) : Int := f * 10000 + b * 100 + 90
def QiV (f b : Nat) : Int := f * 10000 + b * 100 + 91
def Qlc (f b i : Nat) : Int := f * 10000 + b * 100 + i
/-- The instructions from the i-th on. -/
def Q2F (n f b : Nat) : Nat → List Ins → Flt
  | _, [] => (0, 0)
  | i, x :: l => orF (mkF (Q3J n x) (Qlc f b i)) (Q2F n f b (i + 1) l)
def Q2l (x : Fun) (b : Nat) (y : Block) : Int :=
  if y.regs < x.regs ∨ 16 < y.regs then 1
  else if QO y.params y.regs ≠ 0 then QO y.params y.regs
  else if b = 0 ∧ (y.regs ≠ x.regs ∨ y.params ≠ x.params) then 9
  else if 40 < y.code.length then 2 else 0
def Q44 (n f : Nat) (x : Fun) (b : Nat) (y : Block) : Flt := orF (mkF (Q2l x b y) (Q3N f b)) (orF (Q2F n f b 0 y.code) (mkF (Q3K x.blocks.length y.fin) (QiV f b)))
def Q1J (n f : Nat) (x : Fun) : Nat → List Block → Flt
  | _, [] => (0, 0)
  | b, y :: l => orF (Q44 n f x b y) (Q1J n f x (b + 1) l)
def Q4h (f : Nat) (x : Fun) : Int :=
  if x.regs < 0 ∨ 6 < x.regs then 1
  else if QO x.params x.regs ≠ 0 then QO x.params x.regs
  else if QO x.results x.regs ≠ 0 then QO x.results x.regs
  else if x.blocks.length < 1 ∨ 12 < x.blocks.length then 2
  else if f = 0 ∧ (0 < x.regs ∨ 0 < x.params.length ∨ ∃ t ∈ x.results, t.kind ≠ 1) then 18 else 0
def Qcu (n f : Nat) (x : Fun) : Flt := orF (mkF (Q4h f x) (Q3e f)) (Q1J n f x 0 x.blocks)
def Q38 (n : Nat) : Nat → List Fun → Flt
  | _, [] => (0, 0)
  | f, x :: l => orF (Qcu n f x) (Q38 n (f + 1) l)
def Module.fault (m : Module) : Flt := orF (mkF (if m.funcs.length < 1 ∨ 8 < m.funcs.length then 2 else 0) (-1)) (Q38 m.funcs.length 0 m.funcs)
/-! has -/
def hasTab : List ByteArray := [⟨#[]⟩, ⟨#[110]⟩, ⟨#[97, 98, 107]⟩, ⟨#[]⟩, ⟨#[97]⟩, ⟨#[97, 114]⟩, ⟨#[97, 107]⟩, ⟨#[97, 98, 107]⟩, ⟨#[97, 98]⟩, ⟨#[97, 98]⟩, ⟨#[97, 98, 99]⟩, ⟨#[97]⟩, ⟨#[]⟩, ⟨#[97]⟩, ⟨#[107, 103, 114]⟩]
def hasF (op : Int) : ByteArray := if op < 1 ∨ 14 < op then ⟨#[]⟩ else hasTab.getD op.toNat ⟨#[]⟩
def Q1d (s : ByteArray) (c : Nat) : Bool := s.data.toList.any fun b => decide (b.toNat = c)
theorem op_cases {op : Int} (h1 : ¬ op < 1) (h2 : ¬ 14 < op) : op = 1 ∨ op = 2 ∨ op = 3 ∨ op = 4 ∨ op = 5 ∨ op = 6 ∨ op = 7 ∨ op = 8 ∨ op = 9 ∨ op = 10 ∨ op = 11 ∨ op = 12 ∨ op = 13 ∨ op = 14 := by omega
theorem with_all (op : Int) (h : ¬ (op < 1 ∨ 14 < op)) : Q1d (hasF op) 97 = fA op ∧ Q1d (hasF op) 98 = fB op ∧ Q1d (hasF op) 99 = fC op ∧ Q1d (hasF op) 107 = fK op ∧ Q1d (hasF op) 110 = fN op ∧ Q1d (hasF op) 103 = fG op ∧ Q1d (hasF op) 114 = fR op := by
  rcases op_cases (op := op) (by omega) (by omega) with rfl | rfl | rfl | rfl | rfl | rfl | rfl | rfl | rfl | rfl | rfl | rfl | rfl | rfl <;> decide
end Go.Lir
namespace Go.Lir
set_option linter.unusedVariables false
abbrev Got (α : Type) := Except Flt (α × List UInt8)
def Qj {α β : Type} (x : Got α) (f : α → List UInt8 → Got β) : Got β := match x with
  | .ok (a, r) => f a r
  | .error e => .error e
/-- A number without sign: at most so many bytes are left to it; n: how many bytes there are in all. -/
def rdU (n : Nat) : Nat → List UInt8 → Got Nat
  | 0, r => .ok (0, r)
  | k + 1, [] => .error (5, n)
  | k + 1, x :: r =>
    if (k = 0 ∧ 1 < x.toNat) ∨ (k ≠ 9 ∧ x.toNat = 0) then .error (1, (n : Int) - (r.length + 1 : Nat))
    else if x.toNat < 128 then .ok (x.toNat, r)
    else Qj (rdU n k r) fun u r' => .ok (x.toNat - 128 + 128 * u, r')
def Q3g (u : Nat) : Int := if u % 2 = 0 then (u / 2 : Nat) else - ((u / 2 : Nat) : Int) - 1
def rdLong (n : Nat) (r : List UInt8) : Got Int := Qj (rdU n 10 r) fun u r => .ok (Q3g u, r)
def rdMany {α : Type} (f : List UInt8 → Got α) : Nat → List UInt8 → Got (List α)
  | 0, r => .ok ([], r)
  | k + 1, r => Qj (f r) fun x r => Qj (rdMany f k r) fun l r => .ok (x :: l, r)
def QA {α : Type} (n : Nat) (f : List UInt8 → Got α) (r : List UInt8) : Got (List α) :=
  Qj (rdLong n r) fun c r' => if c < 0 ∨ (r'.length : Int) < c then .error (2, (n : Int) - r.length) else rdMany f c.toNat r'
def Q27 (n : Nat) : List UInt8 → Got (List Int) := QA n (rdLong n)
def rdIf {α : Type} (p : Prop) [Decidable p] (z : α) (f : List UInt8 → Got α) (r : List UInt8) : Got α := if p then f r else .ok (z, r)
/-- Types; left: how deep they may still be. -/
def QG (n : Nat) : Nat → List UInt8 → Got (List Ty)
  | 0, r => .error (19, (n : Int) - r.length)
  | k + 1, r => QA n (fun r => Qj (rdLong n r) fun kd r => Qj (rdIf (kd ≠ 1) 0 (rdLong n) r) fun rg r => Qj (rdIf (kd = 3) [] (QG n k) r) fun l r => .ok (Ty.mk kd rg l, r)) r
def rdTy (n k : Nat) (r : List UInt8) : Got Ty := Qj (rdLong n r) fun kd r => Qj (rdIf (kd ≠ 1) 0 (rdLong n) r) fun rg r => Qj (rdIf (kd = 3) [] (QG n k) r) fun l r => .ok (Ty.mk kd rg l, r)
theorem Q2w (n k : Nat) (r : List UInt8) : QG n (k + 1) r = QA n (rdTy n k) r := by rw [QG]; rfl
def Q3G (n : Nat) (r : List UInt8) : Got Ins :=
  Qj (rdLong n r) fun op r => Qj (rdIf (Qe op / 2 ^ 0 % 2 = 1) 0 (rdLong n) r) fun a r => Qj (rdIf (Qe op / 2 ^ 1 % 2 = 1) 0 (rdLong n) r) fun b r =>
  Qj (rdIf (Qe op / 2 ^ 2 % 2 = 1) 0 (rdLong n) r) fun c r => Qj (rdIf (Qe op / 2 ^ 3 % 2 = 1) 0 (rdLong n) r) fun k r => Qj (rdIf (Qe op / 64 % 2 = 1) 0 (rdLong n) r) fun m r =>
  Qj (rdIf (Qe op / 16 % 2 = 1) [] (Q27 n) r) fun regs r => Qj (rdIf (Qe op / 32 % 2 = 1) [] (Q27 n) r) fun args r => .ok (⟨op, a, b, c, k, m, regs, args⟩, r)
def rdTo (n : Nat) (r : List UInt8) : Got To :=
  Qj (rdLong n r) fun b r => Qj (Q27 n r) fun regs r => Qj (Q27 n r) fun args r => .ok (⟨b, regs, args⟩, r)
def Q20 (n : Nat) (r : List UInt8) : Got Tail :=
  Qj (rdLong n r) fun op r => Qj (rdIf (op = 2) 0 (rdLong n) r) fun a r => Qj (rdIf (op = 1 ∨ op = 2) ⟨0, [], []⟩ (rdTo n) r) fun yes r => Qj (rdIf (op = 2) ⟨0, [], []⟩ (rdTo n) r) fun no r =>
  Qj (rdIf (op = 3) [] (Q27 n) r) fun args r => .ok (⟨op, a, yes, no, args⟩, r)
def Q1c (n : Nat) (r : List UInt8) : Got Block :=
  Qj (rdLong n r) fun regs r => Qj (QG n 6 r) fun ps r => Qj (QA n (Q3G n) r) fun code r => Qj (Q20 n r) fun fin r => .ok (⟨regs, ps, code, fin⟩, r)
def Q2q (n : Nat) (r : List UInt8) : Got Fun :=
  Qj (rdLong n r) fun regs r => Qj (QG n 6 r) fun ps r => Qj (QG n 6 r) fun rs r => Qj (QA n (Q1c n) r) fun bl r => .ok (⟨regs, ps, rs, bl⟩, r)
def Qd2 (n : Nat) (r : List UInt8) : Got (List Fun) := QA n (Q2q n) r
/-- The four bytes of a sum. -/
def sumB (c : BitVec 32) : List UInt8 := [UInt8.ofNat (c.toNat % 256), UInt8.ofNat (c.toNat / 256 % 256), UInt8.ofNat (c.toNat / 65536 % 256), UInt8.ofNat (c.toNat / 16777216 % 256)]
def decode (bs : List UInt8) : Except Flt Module :=
  if bs.length < 7 then .error (5, bs.length)
  else if 20000 < bs.length then .error (2, 20000)
  else if bs.take 3 ≠ [67, 72, 1] then .error (4, 0)
  else if sumB (Q2g (bs.take (bs.length - 4))) ≠ bs.drop (bs.length - 4) then .error (16, (bs.length - 4 : Nat))
  else match Qd2 (bs.length - 4) ((bs.take (bs.length - 4)).drop 3) with
    | .error e => .error e
    | .ok (l, r) => if r ≠ [] then .error (4, ((bs.length - 4 : Nat) : Int) - r.length) else if (Module.fault ⟨l⟩).1 ≠ 0 then .error (3, (bs.length - 4 : Nat)) else .ok ⟨l⟩
def QhM (m : Module) : Except Flt (List UInt8) :=
  if m.fault.1 ≠ 0 then .error m.fault else if 20000 < m.body.length + 4 then .error (2, -1) else .ok (m.body ++ sumB (Q2g m.body))

/-! ### What is read was written so -/
def Back {α : Type} (enc : α → List UInt8) (rd : List UInt8 → Got α) : Prop := ∀ r x r', rd r = .ok (x, r') → r = enc x ++ r'
theorem Qi {α β : Type} {x : Got α} {f : α → List UInt8 → Got β} {b : β} {r' : List UInt8} (h : Qj x f = .ok (b, r')) : ∃ a r, x = .ok (a, r) ∧ f a r = .ok (b, r') := by
  unfold Qj at h
  split at h
  · exact ⟨_, _, rfl, h⟩
  · cases h
theorem QkL : ∀ (k u : Nat), 128 ≤ u → leb (k + 1) u = UInt8.ofNat (u % 128 + 128) :: leb k (u / 128) := by
  intro k u h; rw [leb, if_neg (by omega)]
theorem u8_eq {x : UInt8} {n : Nat} (h : x.toNat = n) : x = UInt8.ofNat n := by subst h; simp
theorem Qj9 (n : Nat) : ∀ (k : Nat) (r : List UInt8) (u : Nat) (r' : List UInt8), k ≤ 10 → 0 < k → rdU n k r = .ok (u, r') → r = leb k u ++ r' ∧ u < 2 ^ (7 * (k - 1) + 1) ∧ (k ≠ 10 → 0 < u)
  | 0, r, u, r', _, hk, h => by omega
  | k + 1, [], u, r', _, _, h => by simp [rdU] at h
  | k + 1, x :: r, u, r', h10, _, h => by
    have hx := x.toNat_lt
    rw [rdU] at h
    split at h
    · cases h
    · rename_i hc
      split at h
      · rename_i hlt
        simp only [Except.ok.injEq, Prod.mk.injEq] at h
        obtain ⟨rfl, rfl⟩ := h
        refine ⟨?_, ?_, fun h => by omega⟩
        · rw [leb, if_pos hlt, ← u8_eq rfl]; rfl
        · cases k with
          | zero => simp; omega
          | succ k => exact Nat.lt_of_lt_of_le hlt (Nat.pow_le_pow_right (by omega) (by omega) : 2 ^ 7 ≤ _)
      · rename_i hge
        obtain ⟨v, s, h1, h2⟩ := Qi h
        simp only [Except.ok.injEq, Prod.mk.injEq] at h2
        obtain ⟨rfl, rfl⟩ := h2
        cases k with
        | zero => omega
        | succ k =>
          obtain ⟨e, hl, hp⟩ := Qj9 n (k + 1) r v s (by omega) (by omega) h1
          have hv := hp (by omega)
          subst e
          refine ⟨?_, ?_, fun _ => by omega⟩
          · have hx128 : 128 ≤ x.toNat := by omega
            clear hl hp h1
            rw [QkL (k + 1) (x.toNat - 128 + 128 * v) (by omega)]
            rw [show (x.toNat - 128 + 128 * v) / 128 = v by omega, show (x.toNat - 128 + 128 * v) % 128 + 128 = x.toNat by omega, ← u8_eq rfl]
            rfl
          · rw [show 7 * (k + 1 + 1 - 1) + 1 = 7 * (k + 1 - 1) + 1 + 7 by omega, Nat.pow_add]
            omega
theorem zig_of {n : Int} (h : -9223372036854775808 ≤ n ∧ n ≤ 9223372036854775807) : zig n = if 0 ≤ n then (2 * n).toNat else (-2 * n - 1).toNat := by
  have e64 : ∀ a : Int, IntKind.u64.wrap a = a % 18446744073709551616 := by
    intro a; unfold IntKind.wrap; simp [IntKind.bits, IntKind.signed]
  have e1 : IntKind.u64.wrap (IntKind.u64.wrap n * 2 ^ (min (1 : Int).toNat IntKind.u64.bits)) = (2 * n) % 18446744073709551616 := by
    rw [show (2 : Int) ^ (min (1 : Int).toNat IntKind.u64.bits) = 2 from by decide, e64, e64]; omega
  have e2 : IntKind.u64.wrap (n.fdiv (2 ^ (min (63 : Int).toNat IntKind.i64.bits))) = if 0 ≤ n then 0 else 18446744073709551615 := by
    rw [show (2 : Int) ^ (min (63 : Int).toNat IntKind.i64.bits) = 9223372036854775808 from by decide, e64, Int.fdiv_eq_ediv_of_nonneg _ (by omega)]
    split <;> omega
  unfold zig zigI
  rw [e1, e2]
  unfold bitI
  show (IntKind.u64.wrap ((BitVec.ofInt 64 _ ^^^ BitVec.ofInt 64 _).toNat : Int)).toNat = _
  rw [e64]
  split
  · rw [show BitVec.ofInt 64 0 = 0#64 from rfl, BitVec.xor_zero, BitVec.toNat_ofInt]
    omega
  · rw [show BitVec.ofInt 64 18446744073709551615 = BitVec.allOnes 64 from by decide, BitVec.xor_allOnes, BitVec.toNat_not, BitVec.toNat_ofInt]
    omega
theorem Qhk {u : Nat} (h : u < 18446744073709551616) : -9223372036854775808 ≤ Q3g u ∧ Q3g u ≤ 9223372036854775807 := by
  unfold Q3g; split <;> omega
theorem QjR {u : Nat} (h : u < 18446744073709551616) : zig (Q3g u) = u := by
  rw [zig_of (Qhk h)]
  unfold Q3g
  split <;> split <;> omega
theorem QjV {n : Int} (h : -9223372036854775808 ≤ n ∧ n ≤ 9223372036854775807) : Q3g (zig n) = n := by
  rw [zig_of h]
  unfold Q3g
  split <;> split <;> omega
theorem Qb1 {n : Nat} {r : List UInt8} {x : Int} {r' : List UInt8} (h : rdLong n r = .ok (x, r')) : r = QN x ++ r' ∧ -9223372036854775808 ≤ x ∧ x ≤ 9223372036854775807 := by
  obtain ⟨u, s, h1, h2⟩ := Qi h
  simp only [Except.ok.injEq, Prod.mk.injEq] at h2
  obtain ⟨rfl, rfl⟩ := h2
  obtain ⟨e, hl, _⟩ := Qj9 n 10 r u s (by omega) (by omega) h1
  have hl : u < 18446744073709551616 := hl
  refine ⟨?_, Qhk hl⟩
  unfold QN; rw [QjR hl]; exact e
theorem QK (n : Nat) : Back QN (rdLong n) := fun r x r' h => (Qb1 h).1
theorem Qd3 {α : Type} {enc : α → List UInt8} {f : List UInt8 → Got α} (hf : Back enc f) : ∀ (k : Nat) (r : List UInt8) (l : List α) (r' : List UInt8), rdMany f k r = .ok (l, r') → r = l.flatMap enc ++ r' ∧ l.length = k
  | 0, r, l, r', h => by simp only [rdMany, Except.ok.injEq, Prod.mk.injEq] at h; obtain ⟨rfl, rfl⟩ := h; simp
  | k + 1, r, l, r', h => by
    rw [rdMany] at h
    obtain ⟨x, s, h1, h2⟩ := Qi h
    obtain ⟨l2, s2, h3, h4⟩ := Qi h2
    simp only [Except.ok.injEq, Prod.mk.injEq] at h4
    obtain ⟨rfl, rfl⟩ := h4
    obtain ⟨e, hl⟩ := Qd3 hf k s l2 s2 h3
    rw [hf _ _ _ h1, e]
    simp [hl]
def QiD {α : Type} (enc : α → List UInt8) (l : List α) : List UInt8 := QN l.length ++ l.flatMap enc
theorem Q32 {α : Type} {enc : α → List UInt8} {f : List UInt8 → Got α} (n : Nat) (hf : Back enc f) : Back (QiD enc) (QA n f) := by
  intro r l r' h
  unfold QA at h
  obtain ⟨c, s, h1, h2⟩ := Qi h
  split at h2
  · cases h2
  · rename_i hc
    obtain ⟨e, hl⟩ := Qd3 hf _ _ _ _ h2
    rw [QK n _ _ _ h1, e]
    unfold QiD
    rw [show ((l.length : Nat) : Int) = c by omega, List.append_assoc]
theorem Q2p {α : Type} {p : Prop} [Decidable p] {z : α} {f : List UInt8 → Got α} {r r' : List UInt8} {x : α} {enc : α → List UInt8} (hf : Back enc f) (h : rdIf p z f r = .ok (x, r')) : r = (if p then enc x else []) ++ r' ∧ (¬ p → x = z) := by
  unfold rdIf at h
  split at h
  · rename_i hp; rw [if_pos hp]; exact ⟨hf _ _ _ h, fun h => absurd hp h⟩
  · rename_i hp
    simp only [Except.ok.injEq, Prod.mk.injEq] at h
    obtain ⟨rfl, rfl⟩ := h
    rw [if_neg hp]; exact ⟨rfl, fun _ => rfl⟩
theorem Q33 (n : Nat) : Back Q7D (Q27 n) := Q32 n (QK n)
theorem Tys.bts_flat : ∀ (l : List Ty), Tys.bts l = l.flatMap Ty.bts
  | [] => by simp [Tys.bts]
  | x :: l => by rw [Tys.bts, List.flatMap_cons, Tys.bts_flat l]
theorem QjY : tysB = QiD Ty.bts := by
  funext l; unfold tysB QiD; rw [Tys.bts_flat]
theorem Qks {n k : Nat} (hf : Back tysB (QG n k)) : Back Ty.bts (rdTy n k) := by
  intro r x r' h
  unfold rdTy at h
  obtain ⟨kd, s, h1, h⟩ := Qi h
  obtain ⟨rg, s2, h2, h⟩ := Qi h
  obtain ⟨l, s3, h3, h⟩ := Qi h
  simp only [Except.ok.injEq, Prod.mk.injEq] at h
  obtain ⟨rfl, rfl⟩ := h
  rw [QK n _ _ _ h1, (Q2p (QK n) h2).1, (Q2p hf h3).1, Ty.bts]
  simp only [List.append_assoc]
  rfl
theorem Q3n (n : Nat) : ∀ (k : Nat), Back tysB (QG n k)
  | 0 => by intro r x r' h; simp [QG] at h
  | k + 1 => by
    intro r x r' h
    rw [Q2w] at h
    rw [QjY]
    exact Q32 n (Qks (Q3n n k)) r x r' h
theorem Qjx (n : Nat) : Back Ins.bts (Q3G n) := by
  intro r x r' h
  unfold Q3G at h
  obtain ⟨op, s, h0, h⟩ := Qi h
  obtain ⟨a, s1, h1, h⟩ := Qi h
  obtain ⟨b, s2, h2, h⟩ := Qi h
  obtain ⟨c, s3, h3, h⟩ := Qi h
  obtain ⟨k, s4, h4, h⟩ := Qi h
  obtain ⟨m, s5, h5, h⟩ := Qi h
  obtain ⟨rg, s6, h6, h⟩ := Qi h
  obtain ⟨ar, s7, h7, h⟩ := Qi h
  simp only [Except.ok.injEq, Prod.mk.injEq] at h
  obtain ⟨rfl, rfl⟩ := h
  rw [QK n _ _ _ h0, (Q2p (QK n) h1).1, (Q2p (QK n) h2).1, (Q2p (QK n) h3).1, (Q2p (QK n) h4).1, (Q2p (QK n) h5).1, (Q2p (Q33 n) h6).1, (Q2p (Q33 n) h7).1]
  unfold Ins.bts
  simp only [Q7A, List.append_assoc, List.append_nil]
theorem Qhx (n : Nat) : Back To.bts (rdTo n) := by
  intro r x r' h
  unfold rdTo at h
  obtain ⟨b, s, h0, h⟩ := Qi h
  obtain ⟨rg, s1, h1, h⟩ := Qi h
  obtain ⟨ar, s2, h2, h⟩ := Qi h
  simp only [Except.ok.injEq, Prod.mk.injEq] at h
  obtain ⟨rfl, rfl⟩ := h
  rw [QK n _ _ _ h0, Q33 n _ _ _ h1, Q33 n _ _ _ h2]
  unfold To.bts
  simp only [List.append_assoc]
theorem Qjz (n : Nat) : Back Tail.bts (Q20 n) := by
  intro r x r' h
  unfold Q20 at h
  obtain ⟨op, s, h0, h⟩ := Qi h
  obtain ⟨a, s1, h1, h⟩ := Qi h
  obtain ⟨yes, s2, h2, h⟩ := Qi h
  obtain ⟨no, s3, h3, h⟩ := Qi h
  obtain ⟨ar, s4, h4, h⟩ := Qi h
  simp only [Except.ok.injEq, Prod.mk.injEq] at h
  obtain ⟨rfl, rfl⟩ := h
  rw [QK n _ _ _ h0, (Q2p (QK n) h1).1, (Q2p (Qhx n) h2).1, (Q2p (Qhx n) h3).1, (Q2p (Q33 n) h4).1]
  unfold Tail.bts
  dsimp only
  by_cases e1 : op = 1
  · subst e1; simp [List.append_assoc]
  · by_cases e2 : op = 2
    · subst e2; simp [List.append_assoc]
    · by_cases e3 : op = 3
      · subst e3; simp [List.append_assoc]
      · simp [e1, e2, e3]
theorem Qhz (n : Nat) : Back Block.bts (Q1c n) := by
  intro r x r' h
  unfold Q1c at h
  obtain ⟨a, s, h0, h⟩ := Qi h
  obtain ⟨b, s1, h1, h⟩ := Qi h
  obtain ⟨c, s2, h2, h⟩ := Qi h
  obtain ⟨d, s3, h3, h⟩ := Qi h
  simp only [Except.ok.injEq, Prod.mk.injEq] at h
  obtain ⟨rfl, rfl⟩ := h
  rw [QK n _ _ _ h0, Q3n n 6 _ _ _ h1, Q32 n (Qjx n) _ _ _ h2, Qjz n _ _ _ h3]
  unfold Block.bts QiD
  simp only [List.append_assoc]
theorem Qjy (n : Nat) : Back Fun.bts (Q2q n) := by
  intro r x r' h
  unfold Q2q at h
  obtain ⟨a, s, h0, h⟩ := Qi h
  obtain ⟨b, s1, h1, h⟩ := Qi h
  obtain ⟨c, s2, h2, h⟩ := Qi h
  obtain ⟨d, s3, h3, h⟩ := Qi h
  simp only [Except.ok.injEq, Prod.mk.injEq] at h
  obtain ⟨rfl, rfl⟩ := h
  rw [QK n _ _ _ h0, Q3n n 6 _ _ _ h1, Q3n n 6 _ _ _ h2, Q32 n (Qhz n) _ _ _ h3]
  unfold Fun.bts QiD
  simp only [List.append_assoc]
/-- What is decoded is encoded as those very bytes. -/
theorem Qgl {bs : List UInt8} {m : Module} (h : decode bs = .ok m) : QhM m = .ok bs := by
  unfold decode at h
  split at h
  · cases h
  split at h
  · cases h
  split at h
  · cases h
  split at h
  · cases h
  rename_i h1 h2 h3 h4
  split at h
  · cases h
  · rename_i l r hr
    split at h
    · cases h
    rename_i h5
    split at h
    · cases h
    rename_i h6
    simp only [Except.ok.injEq] at h
    subst h
    have h5 : r = [] := Classical.not_not.1 h5
    subst h5
    have hb := Q32 _ (Qjy _) _ _ _ hr
    have h3 := Classical.not_not.1 h3
    have h4 := Classical.not_not.1 h4
    have e1 : bs.take (bs.length - 4) = Module.body ⟨l⟩ := by
      rw [← List.take_append_drop 3 (bs.take (bs.length - 4)), hb, List.take_take, Nat.min_eq_left (by omega), h3]
      unfold Module.body QiD; simp [List.append_assoc]
    have hl := congrArg List.length e1
    rw [List.length_take] at hl
    unfold QhM
    rw [if_neg h6, if_neg (by omega)]
    rw [← e1, h4, List.take_append_drop]
end Go.Lir
namespace Go.Lir
section
variable {P : Program} {l : List GO} {Q : QT} {ρ : Env} {w : World}
theorem s_sneql {d T : Nat} {x y : Operand} {a b : List UInt8} (hx : ρ.ev x = .string ⟨a.toArray⟩) (hy : ρ.ev y = .string ⟨b.toArray⟩)
    (h : Q3 P l Q (upd ρ d (.bool (decide (a ≠ b)))) w) : Q3 P (⟨none, .bin d .neq T x y⟩ :: l) Q ρ w :=
  ⟨_, fun w0 => by
    rw [hx, hy]
    have e : ∀ c : List UInt8, (⟨c.toArray⟩ : ByteArray).toList = c := fun c => Lib.toList_data _
    have e2 : (a != b) = decide (a ≠ b) := by by_cases h : a = b <;> simp [h]
    have e3 : (a == b) = decide (a = b) := by by_cases h : a = b <;> simp [h]
    simp [eqGuard, binOp, Op.stringOp, e, e2, e3], h⟩
theorem Q5o {a b T T' : Nat} {R : Ending → World → Prop} {p o p' o' : Nat} {v v' : Value} (ha : ρ a = .pointer (some ⟨p, o, none⟩)) (hv : Qj0 P w ⟨p, o, none⟩ T v) (ha' : ρ b = .pointer (some ⟨p', o', none⟩)) (hv' : Qj0 P w ⟨p', o', none⟩ T' v') (h : R (.returned (.tuple #[v, v'])) w) : retQ P [.cell a T, .cell b T'] R .ret ρ w :=
  ⟨_, v, ha, hv, _, v', ha', hv', h⟩
end
theorem Qim {n : Nat} (h : n < 4294967296) : IntKind.u32.wrap (n : Int) = (n : Int) := by
  unfold IntKind.wrap; simp [IntKind.bits, IntKind.signed]; omega
theorem Qj5 (x : UInt8) : IntKind.u32.wrap (x.toNat : Int) = (x.toNat : Int) := Qim (Nat.lt_trans x.toNat_lt (by decide))
theorem Qgd {u y k : Nat} {z : Int} (hz : z = (k : Int)) (hk : k ≤ 24) (hu : u < 2 ^ k) (hy : y < 256) : bitI .or .u32 (u : Int) (IntKind.u32.wrap ((y : Int) * 2 ^ (min z.toNat IntKind.u32.bits))) = ((u + y * 2 ^ k : Nat) : Int) := by
  subst hz
  have e1 : min ((k : Nat) : Int).toNat IntKind.u32.bits = k := by simp [IntKind.bits]; omega
  have hp : 2 ^ k ≤ 2 ^ 24 := Nat.pow_le_pow_right (by decide) hk
  have hlt : y * 2 ^ k < 4294967296 := by
    calc y * 2 ^ k ≤ 255 * 2 ^ 24 := Nat.mul_le_mul (by omega) hp
      _ < _ := by decide
  rw [e1, show ((y : Int) * 2 ^ k) = ((y * 2 ^ k : Nat) : Int) by push_cast; rfl, Qim hlt]
  have e3 : u ||| y * 2 ^ k = u + y * 2 ^ k := by
    rw [Nat.or_comm, Nat.mul_comm y, Nat.add_comm]
    exact (Nat.two_pow_add_eq_or_of_lt hu y).symm
  have hsum : u + y * 2 ^ k < 4294967296 := by
    rw [← e3]; exact Nat.or_lt_two_pow (n := 32) (by omega) hlt
  have e4 : (BitVec.ofNat 32 u ||| BitVec.ofNat 32 (y * 2 ^ k)).toNat = u + y * 2 ^ k := by
    rw [BitVec.toNat_or, BitVec.toNat_ofNat, BitVec.toNat_ofNat, Nat.mod_eq_of_lt (by omega), Nat.mod_eq_of_lt (by omega), e3]
  show IntKind.u32.wrap (((BitVec.ofInt 32 (u : Int) ||| BitVec.ofInt 32 ((y * 2 ^ k : Nat) : Int)).toNat : Nat) : Int) = _
  rw [BitVec.ofInt_natCast, BitVec.ofInt_natCast, e4]
  exact Qim hsum
theorem sumB_eq {c : BitVec 32} {a b d e : UInt8} : sumB c = [a, b, d, e] ↔ c.toNat = a.toNat + b.toNat * 256 + d.toNat * 65536 + e.toNat * 16777216 := by
  have hc := c.isLt
  have ha := a.toNat_lt; have hb := b.toNat_lt; have hd := d.toNat_lt; have he := e.toNat_lt
  unfold sumB
  constructor
  · intro h
    simp only [List.cons.injEq, and_true] at h
    obtain ⟨h1, h2, h3, h4⟩ := h
    have h1 := congrArg UInt8.toNat h1; have h2 := congrArg UInt8.toNat h2; have h3 := congrArg UInt8.toNat h3; have h4 := congrArg UInt8.toNat h4
    simp only [UInt8.toNat_ofNat'] at h1 h2 h3 h4
    omega
  · intro h
    simp only [List.cons.injEq, and_true]
    refine ⟨?_, ?_, ?_, ?_⟩ <;> (apply UInt8.toNat_inj.1; simp only [UInt8.toNat_ofNat']; omega)
end Go.Lir
namespace Go.Lir
theorem Qcw (u : Nat) : IntKind.u8.wrap (u : Int) = ((UInt8.ofNat u).toNat : Int) := by rw [QjX]; simp
def crc4 (c : BitVec 32) : List UInt8 := [UInt8.ofNat c.toNat, UInt8.ofNat (c >>> 8).toNat, UInt8.ofNat (c >>> 16).toNat, UInt8.ofNat (c >>> 24).toNat]
def Module.enc (m : Module) : List UInt8 := m.body ++ crc4 (Q2g m.body)
theorem QiT (a : BitVec 32) (n : Nat) (hn : n ≤ 32) : (a.toNat : Int).fdiv (2 ^ (min ((n : Nat) : Int).toNat IntKind.u32.bits)) = ((a >>> n).toNat : Int) := by
  rw [show min ((n : Nat) : Int).toNat IntKind.u32.bits = n from by simp [IntKind.bits]; omega, Int.fdiv_eq_ediv_of_nonneg _ (Int.le_of_lt (Int.pow_pos (by decide))), BitVec.toNat_ushiftRight, Nat.shiftRight_eq_div_pow]
  simp
theorem QiL (m : Module) : m.enc.length = m.body.length + 4 := by unfold Module.enc crc4; simp
end Go.Lir
namespace Go.Lir
def rmap (u c : Nat) (x : Got Nat) : Got Nat := match x with
  | .ok (v, r) => .ok (u + c * v, r)
  | .error e => .error e
theorem rmap_0 (x : Got Nat) : rmap 0 1 x = x := by
  unfold rmap
  split
  · rename_i v r; simp
  · rfl
theorem Qgp {α : Type} {l : List α} {k : Nat} (h : k ≤ l.length) : ((l.length : Int) - (l.drop k).length) = k := by rw [List.length_drop]; omega
section
variable {bs : List UInt8} {at0 i u : Nat} {x : UInt8} {X : Got Nat}
theorem Qkr (hd : X = rmap u (128 ^ i) (rdU bs.length (10 - i) (bs.drop (at0 + i)))) (hi : i ≤ 9) (h : bs.length ≤ at0 + i) : X = .error (5, bs.length) := by
  rw [hd, List.drop_of_length_le h, show 10 - i = (9 - i) + 1 by omega, rdU]; rfl
theorem rdU_bad (hd : X = rmap u (128 ^ i) (rdU bs.length (10 - i) (bs.drop (at0 + i)))) (hi : i ≤ 9) (hx : bs[at0 + i]? = some x) (h : (i = 9 ∧ 1 < x.toNat) ∨ (0 < i ∧ x.toNat = 0)) : X = .error (1, (at0 + i : Nat)) := by
  have hl := (List.getElem?_eq_some_iff.1 hx).1
  have e := Qgp (l := bs) (k := at0 + i) (by omega)
  rw [hd, show 10 - i = (9 - i) + 1 by omega, Q7 hx, rdU, if_pos (by omega)]
  rw [Q7 hx, List.length_cons] at e
  unfold rmap
  simp only
  rw [e]
theorem rdU_last (hd : X = rmap u (128 ^ i) (rdU bs.length (10 - i) (bs.drop (at0 + i)))) (hi : i ≤ 9) (hx : bs[at0 + i]? = some x) (h : ¬ ((i = 9 ∧ 1 < x.toNat) ∨ (0 < i ∧ x.toNat = 0))) (hl : x.toNat < 128) : X = .ok (u + x.toNat % 128 * 128 ^ i, bs.drop (at0 + i + 1)) := by
  rw [hd, show 10 - i = (9 - i) + 1 by omega, Q7 hx, rdU, if_neg (by omega), if_pos hl, Nat.mod_eq_of_lt hl, Nat.mul_comm x.toNat]; rfl
theorem rdU_more (hd : X = rmap u (128 ^ i) (rdU bs.length (10 - i) (bs.drop (at0 + i)))) (hi : i ≤ 9) (hx : bs[at0 + i]? = some x) (h : ¬ ((i = 9 ∧ 1 < x.toNat) ∨ (0 < i ∧ x.toNat = 0))) (hl : ¬ x.toNat < 128) : X = rmap (u + x.toNat % 128 * 128 ^ i) (128 ^ (i + 1)) (rdU bs.length (10 - (i + 1)) (bs.drop (at0 + (i + 1)))) := by
  have hx9 := x.toNat_lt
  rw [hd, show 10 - i = (9 - i) + 1 by omega, Q7 hx, rdU, if_neg (by omega), if_neg hl, show 10 - (i + 1) = 9 - i by omega, show at0 + (i + 1) = at0 + i + 1 by omega]
  unfold rmap Qj
  cases rdU bs.length (9 - i) (bs.drop (at0 + i + 1)) with
  | error e => rfl
  | ok p =>
    obtain ⟨v, r⟩ := p
    simp only
    rw [show x.toNat % 128 = x.toNat - 128 by omega, Nat.pow_succ, Nat.mul_add, ← Nat.mul_assoc, Nat.mul_comm (128 ^ i) (x.toNat - 128), Nat.add_assoc]
theorem pow7 (i : Nat) : 2 ^ (7 * i) = 128 ^ i := by rw [Nat.pow_mul]
theorem Qgc (hi : i ≤ 9) : 128 ^ i ≤ 9223372036854775808 := Nat.le_trans (Nat.pow_le_pow_right (by decide) hi) (by decide)
theorem Qcl {n : Nat} (h : n < 18446744073709551616) : IntKind.u64.wrap (n : Int) = (n : Int) := by
  unfold IntKind.wrap
  simp [IntKind.bits, IntKind.signed]; omega
theorem acc_lt (hi : i ≤ 9) {y : Nat} (hy : y < 128) (h9 : i = 9 → y ≤ 1) : y * 128 ^ i < 18446744073709551616 := by
  have hp := Qgc hi
  rcases Nat.lt_or_ge i 9 with h | h
  · have h8 : 128 ^ i ≤ 72057594037927936 := Nat.le_trans (Nat.pow_le_pow_right (by decide) (by omega : i ≤ 8)) (by decide)
    calc y * 128 ^ i ≤ 127 * 72057594037927936 := Nat.mul_le_mul (by omega) h8
      _ < _ := by decide
  · have := h9 (by omega)
    calc y * 128 ^ i ≤ 1 * 9223372036854775808 := Nat.mul_le_mul this hp
      _ < _ := by decide
theorem or_shl (hu : u < 128 ^ i) (hi : i ≤ 9) {y : Nat} (hy : y < 128) (h9 : i = 9 → y ≤ 1) : bitI .or .u64 (u : Int) (IntKind.u64.wrap ((y : Int) * 2 ^ (min ((7 * i : Nat) : Int).toNat IntKind.u64.bits))) = ((u + y * 128 ^ i : Nat) : Int) := by
  have hp := Qgc hi
  have hlt := acc_lt hi hy h9
  have e1 : min ((7 * i : Nat) : Int).toNat IntKind.u64.bits = 7 * i := by simp [IntKind.bits]; omega
  rw [e1]
  have e2 : ((y : Int) * 2 ^ (7 * i)) = ((y * 128 ^ i : Nat) : Int) := by rw [← pow7]; push_cast; rfl
  rw [e2, Qcl hlt]
  have hu2 : u < 2 ^ (7 * i) := by rw [pow7]; exact hu
  have e3 : u ||| y * 128 ^ i = u + y * 128 ^ i := by
    rw [← pow7, Nat.or_comm, Nat.mul_comm y, Nat.add_comm]
    exact (Nat.two_pow_add_eq_or_of_lt hu2 y).symm
  have hsum : u + y * 128 ^ i < 18446744073709551616 := by
    rw [← e3]; exact Nat.or_lt_two_pow (n := 64) (by omega) hlt
  have e4 : (BitVec.ofNat 64 u ||| BitVec.ofNat 64 (y * 128 ^ i)).toNat = u + y * 128 ^ i := by
    rw [BitVec.toNat_or, BitVec.toNat_ofNat, BitVec.toNat_ofNat, Nat.mod_eq_of_lt (by omega), Nat.mod_eq_of_lt (by omega), e3]
  show IntKind.u64.wrap (((BitVec.ofInt 64 (u : Int) ||| BitVec.ofInt 64 ((y * 128 ^ i : Nat) : Int)).toNat : Nat) : Int) = _
  rw [BitVec.ofInt_natCast, BitVec.ofInt_natCast, e4]
  exact Qcl hsum
theorem acc_lt2 (hu : u < 128 ^ i) (hi : i ≤ 9) {y : Nat} (hy : y < 128) (h9 : i = 9 → y ≤ 1) : u + y * 128 ^ i < 18446744073709551616 ∧ u + y * 128 ^ i < 128 ^ (i + 1) := by
  have hp := Qgc hi
  have h1 : u + y * 128 ^ i < 128 ^ (i + 1) := by
    have : y * 128 ^ i ≤ 127 * 128 ^ i := Nat.mul_le_mul_right _ (by omega)
    rw [Nat.pow_succ]; omega
  refine ⟨?_, h1⟩
  rcases Nat.lt_or_ge i 9 with h | h
  · have := Qgc (i := i + 1) (by omega); omega
  · have h2 := h9 (by omega)
    have : y * 128 ^ i ≤ 1 * 128 ^ i := Nat.mul_le_mul_right _ h2
    omega
theorem Qg9 {n : Nat} {r : List UInt8} {e : Flt} (h : rdU n 10 r = .error e) : rdLong n r = .error e := by unfold rdLong; rw [h]; rfl
theorem Qja {n U : Nat} {r r' : List UInt8} (h : rdU n 10 r = .ok (U, r')) : rdLong n r = .ok (Q3g U, r') := by unfold rdLong; rw [h]; rfl
theorem and127 (x : UInt8) : bitI .and .u8 (x.toNat : Int) 127 = ((x.toNat % 128 : Nat) : Int) := by
  have : ∀ p : Fin 256, bitI .and .u8 (p.val : Int) 127 = ((p.val % 128 : Nat) : Int) := by decide +kernel
  exact this ⟨x.toNat, x.toNat_lt⟩
theorem shr_1 (U : Nat) : (U : Int).fdiv (2 ^ (min (1 : Int).toNat IntKind.u64.bits)) = ((U / 2 : Nat) : Int) := by
  rw [show (2 : Int) ^ (min (1 : Int).toNat IntKind.u64.bits) = ((2 : Nat) : Int) from by decide, Int.fdiv_eq_ediv_of_nonneg _ (by omega)]; omega
theorem and_1 {U : Nat} (h : U < 18446744073709551616) : bitI .and .u64 (U : Int) 1 = ((U % 2 : Nat) : Int) := by
  show IntKind.u64.wrap (((BitVec.ofInt 64 (U : Int) &&& BitVec.ofInt 64 ((1 : Nat) : Int)).toNat : Nat) : Int) = _
  rw [BitVec.ofInt_natCast, BitVec.ofInt_natCast, BitVec.toNat_and, BitVec.toNat_ofNat, BitVec.toNat_ofNat, Nat.mod_eq_of_lt (by omega), Nat.mod_eq_of_lt (by omega), Nat.and_one_is_mod]
  exact Qcl (by omega)
theorem QkQ {n : Nat} (h : n < 9223372036854775808) : IntKind.i64.wrap (n : Int) = (n : Int) := Q6p (by omega) (by omega)
theorem Qhg {U : Nat} (h : U < 18446744073709551616) : bitI .xor .i64 ((U / 2 : Nat) : Int) (IntKind.i64.wrap (0 - ((U % 2 : Nat) : Int))) = Q3g U := by
  unfold Q3g
  rcases Nat.mod_two_eq_zero_or_one U with e | e
  · rw [e, if_pos rfl, show (0 - ((0 : Nat) : Int)) = ((0 : Nat) : Int) by omega, QkQ (by omega)]
    show IntKind.i64.wrap (((BitVec.ofInt 64 ((U / 2 : Nat) : Int) ^^^ BitVec.ofInt 64 ((0 : Nat) : Int)).toNat : Nat) : Int) = _
    rw [BitVec.ofInt_natCast, BitVec.ofInt_natCast, BitVec.toNat_xor, BitVec.toNat_ofNat, BitVec.toNat_ofNat, Nat.mod_eq_of_lt (by omega), Nat.zero_mod, Nat.xor_zero]
    exact QkQ (by omega)
  · rw [e, if_neg (by decide), show (0 - ((1 : Nat) : Int)) = -1 by omega, Q6p (by omega) (by omega)]
    have e5 : (BitVec.ofNat 64 (U / 2) ^^^ BitVec.ofInt 64 (-1)).toNat = 18446744073709551615 - U / 2 := by
      rw [show BitVec.ofInt 64 (-1) = BitVec.allOnes 64 from by decide, BitVec.xor_allOnes, BitVec.toNat_not, BitVec.toNat_ofNat, Nat.mod_eq_of_lt (by omega)]
    show IntKind.i64.wrap (((BitVec.ofInt 64 ((U / 2 : Nat) : Int) ^^^ BitVec.ofInt 64 (-1)).toNat : Nat) : Int) = _
    rw [BitVec.ofInt_natCast, e5]
    unfold IntKind.wrap
    simp only [IntKind.bits, IntKind.signed]
    have e6 : ((18446744073709551615 - U / 2 : Nat) : Int) % 2 ^ 64 = 18446744073709551615 - (U / 2 : Nat) := by omega
    simp [e6]
    omega
end
end Go.Lir
namespace Go.Lir
section
variable {α : Type}
def mmap (xs : List α) (X : Got (List α)) : Got (List α) := match X with
  | .ok (l, r) => .ok (xs ++ l, r)
  | .error e => .error e
theorem QhC (X : Got (List α)) : mmap [] X = X := by
  unfold mmap
  split <;> simp
variable {f : List UInt8 → Got α} {N k n0 : Nat} {n : Int} {xs : List α} {r r1 r2 r3 : List UInt8} {a : α} {e : Flt} {X : Got (List α)}
theorem Q8V (hd : X = mmap xs (rdMany f (N - k) r2)) (hk : k < N) (h : f r2 = .error e) : X = .error e := by
  rw [hd, show N - k = (N - k - 1) + 1 by omega, rdMany, h]; rfl
theorem Q8U (hd : X = mmap xs (rdMany f (N - k) r2)) (hk : k < N) (h : f r2 = .ok (a, r3)) : X = mmap (xs ++ [a]) (rdMany f (N - (k + 1)) r3) := by
  rw [hd, show N - k = (N - (k + 1)) + 1 by omega, rdMany, h]
  show mmap xs (Qj (rdMany f (N - (k + 1)) r3) fun l r => .ok (a :: l, r)) = _
  cases rdMany f (N - (k + 1)) r3 with
  | error e => rfl
  | ok p => obtain ⟨l, r⟩ := p; simp [mmap, Qj]
theorem Q8T (hd : X = mmap xs (rdMany f (N - k) r2)) (hk : N ≤ k) : X = .ok (xs, r2) := by
  rw [hd, show N - k = 0 by omega, rdMany]; simp [mmap]
theorem Q8W (h : rdLong n0 r = .error e) : QA n0 f r = .error e := by unfold QA; rw [h]; rfl
theorem rdList_m (h : rdLong n0 r = .ok (n, r1)) (hn : n < 0 ∨ (r1.length : Int) < n) : QA n0 f r = .error (2, (n0 : Int) - r.length) := by
  unfold QA; rw [h]; show (if _ then _ else _) = _; rw [if_pos hn]
theorem rdList_g (h : rdLong n0 r = .ok (n, r1)) (hn : ¬ (n < 0 ∨ (r1.length : Int) < n)) : QA n0 f r = rdMany f n.toNat r1 := by
  unfold QA; rw [h]; show (if _ then _ else _) = _; rw [if_neg hn]
theorem Q5m {bs : List UInt8} {at0 at1 : Nat} (ha : at0 ≤ bs.length) (hb : at1 ≤ bs.length) (h : rdLong bs.length (bs.drop at0) = .ok (n, bs.drop at1)) (hn : n < 0 ∨ (bs.length : Int) - at1 < n) : QA bs.length f (bs.drop at0) = .error (2, (at0 : Int)) := by
  rw [rdList_m h (by rw [List.length_drop]; omega), Qgp ha]
theorem Q5n {bs : List UInt8} {at0 at1 : Nat} (hb : at1 ≤ bs.length) (h : rdLong bs.length (bs.drop at0) = .ok (n, bs.drop at1)) (hn : 0 ≤ n ∧ n ≤ (bs.length : Int) - at1) : QA bs.length f (bs.drop at0) = rdMany f n.toNat (bs.drop at1) :=
  rdList_g h (by rw [List.length_drop]; omega)
end
end Go.Lir
namespace Go.Lir
section
variable {bs r : List UInt8} {N : Nat} {e : Flt} {l : List Fun}
theorem Q2B (h7 : bs.length < 7) : decode bs = .error (5, (bs.length : Int)) := by unfold decode; rw [if_pos h7]
theorem Q6v (h7 : ¬ bs.length < 7) (h : 20000 < bs.length) : decode bs = .error (2, 20000) := by unfold decode; rw [if_neg h7, if_pos h]
theorem Q94 (h7 : ¬ bs.length < 7) (h : ¬ 20000 < bs.length) (hh : bs.take 3 ≠ [67, 72, 1]) : decode bs = .error (4, 0) := by unfold decode; rw [if_neg h7, if_neg h, if_pos hh]
theorem Qgr (hN : bs.length = N + 4) (h7 : ¬ bs.length < 7) (h : ¬ 20000 < bs.length) (hh : ¬ bs.take 3 ≠ [67, 72, 1]) (hs : sumB (Q2g (bs.take N)) ≠ bs.drop N) : decode bs = .error (16, (N : Int)) := by
  unfold decode; rw [if_neg h7, if_neg h, if_neg hh, show bs.length - 4 = N by omega, if_pos hs]
theorem dec_e (hN : bs.length = N + 4) (h7 : ¬ bs.length < 7) (h : ¬ 20000 < bs.length) (hh : ¬ bs.take 3 ≠ [67, 72, 1]) (hs : ¬ sumB (Q2g (bs.take N)) ≠ bs.drop N) (hr : Qd2 N ((bs.take N).drop 3) = .error e) : decode bs = .error e := by
  unfold decode; rw [if_neg h7, if_neg h, if_neg hh, show bs.length - 4 = N by omega, if_neg hs, hr]
theorem dec_left (hN : bs.length = N + 4) (h7 : ¬ bs.length < 7) (h : ¬ 20000 < bs.length) (hh : ¬ bs.take 3 ≠ [67, 72, 1]) (hs : ¬ sumB (Q2g (bs.take N)) ≠ bs.drop N) (hr : Qd2 N ((bs.take N).drop 3) = .ok (l, r)) (hl : r ≠ []) : decode bs = .error (4, (N : Int) - r.length) := by
  unfold decode; rw [if_neg h7, if_neg h, if_neg hh, show bs.length - 4 = N by omega, if_neg hs, hr]; show (if _ then _ else _) = _; rw [if_pos hl]
theorem QhP (hN : bs.length = N + 4) (h7 : ¬ bs.length < 7) (h : ¬ 20000 < bs.length) (hh : ¬ bs.take 3 ≠ [67, 72, 1]) (hs : ¬ sumB (Q2g (bs.take N)) ≠ bs.drop N) (hr : Qd2 N ((bs.take N).drop 3) = .ok (l, r)) (hl : ¬ r ≠ []) (hf : (Module.fault ⟨l⟩).1 ≠ 0) : decode bs = .error (3, (N : Int)) := by
  unfold decode; rw [if_neg h7, if_neg h, if_neg hh, show bs.length - 4 = N by omega, if_neg hs, hr]; show (if _ then _ else _) = _; rw [if_neg hl, if_pos hf]
theorem dec_ok (hN : bs.length = N + 4) (h7 : ¬ bs.length < 7) (h : ¬ 20000 < bs.length) (hh : ¬ bs.take 3 ≠ [67, 72, 1]) (hs : ¬ sumB (Q2g (bs.take N)) ≠ bs.drop N) (hr : Qd2 N ((bs.take N).drop 3) = .ok (l, r)) (hl : ¬ r ≠ []) (hf : ¬ (Module.fault ⟨l⟩).1 ≠ 0) : decode bs = .ok ⟨l⟩ := by
  unfold decode; rw [if_neg h7, if_neg h, if_neg hh, show bs.length - 4 = N by omega, if_neg hs, hr]; show (if _ then _ else _) = _; rw [if_neg hl, if_neg hf]
theorem Qdj {at1 : Nat} (hN : bs.length = N + 4) (h7 : ¬ bs.length < 7) (h : ¬ 20000 < bs.length) (hh : ¬ bs.take 3 ≠ [67, 72, 1]) (hs : ¬ sumB (Q2g (bs.take N)) ≠ bs.drop N) (hr : Qd2 N ((bs.take N).drop 3) = .ok (l, (bs.take N).drop at1)) (ha : at1 < N) : decode bs = .error (4, (at1 : Int)) := by
  have e : ((bs.take N).drop at1).length = N - at1 := by simp [hN]
  rw [dec_left hN h7 h hh hs hr (by intro h0; rw [h0] at e; simp at e; omega), e, show ((N : Int) - ((N - at1 : Nat) : Int)) = (at1 : Int) by omega]
theorem Qgo {at1 : Nat} (hN : bs.length = N + 4) (ha : ¬ at1 < N) : ¬ (bs.take N).drop at1 ≠ [] := by
  simp [hN]; omega
/-- The last four bytes. -/
theorem drop4 {a b c d : UInt8} (hN : bs.length = N + 4) (h0 : bs[N]? = some a) (h1 : bs[N + 1]? = some b) (h2 : bs[N + 2]? = some c) (h3 : bs[N + 3]? = some d) : bs.drop N = [a, b, c, d] := by
  apply List.ext_getElem?
  intro i
  rw [List.getElem?_drop]
  match i with
  | 0 => simpa using h0
  | 1 => simpa using h1
  | 2 => simpa using h2
  | 3 => simpa using h3
  | i + 4 => rw [List.getElem?_eq_none (by omega)]; simp
end
end Go.Lir
namespace Go.Lir
set_option linter.unusedVariables false
section
variable {α β : Type} {M n : Nat}
def Goodp (M : Nat) (f : List UInt8 → Got α) (p : α → Prop) : Prop := ∀ r x r', r.length ≤ M → f r = .ok (x, r') → p x ∧ r'.length ≤ r.length
theorem Goodp.weak {f : List UInt8 → Got α} {p q : α → Prop} (h : Goodp M f p) (hq : ∀ x, p x → q x) : Goodp M f q := fun r x r' h1 h2 => ⟨hq x (h r x r' h1 h2).1, (h r x r' h1 h2).2⟩
theorem Q1m : Goodp M (rdLong n) (fun _ => True) := fun r x r' h1 h2 => by
  refine ⟨trivial, ?_⟩
  rw [(Qb1 h2).1, List.length_append]; omega
theorem Q2z {x : α} {p : α → Prop} (hp : p x) : Goodp M (fun r => .ok (x, r)) p := fun r y r' h1 h2 => by
  simp only [Except.ok.injEq, Prod.mk.injEq] at h2
  obtain ⟨rfl, rfl⟩ := h2
  exact ⟨hp, Nat.le_refl _⟩
theorem Qo {f : List UInt8 → Got α} {g : α → List UInt8 → Got β} {p : α → Prop} {q : β → Prop} (hf : Goodp M f p) (hg : ∀ x, p x → Goodp M (g x) q) : Goodp M (fun r => Qj (f r) g) q := fun r y r' h1 h2 => by
  obtain ⟨x, s, h3, h4⟩ := Qi h2
  obtain ⟨h5, h6⟩ := hf r x s h1 h3
  obtain ⟨h7, h8⟩ := hg x h5 s y r' (by omega) h4
  exact ⟨h7, by omega⟩
theorem Q2r {f : List UInt8 → Got α} {p : α → Prop} {c : Prop} [Decidable c] {z : α} (hf : Goodp M f p) (hz : p z) : Goodp M (rdIf c z f) p := by
  intro r x r' h1 h2
  unfold rdIf at h2
  split at h2
  · exact hf r x r' h1 h2
  · exact Q2z hz r x r' h1 h2
theorem QhL {f : List UInt8 → Got α} {p : α → Prop} (hf : Goodp M f p) : ∀ k, Goodp M (rdMany f k) (fun l => l.length = k ∧ ∀ x ∈ l, p x)
  | 0 => fun r x r' h1 h2 => by
    rw [rdMany] at h2
    exact Q2z (p := fun l : List α => l.length = 0 ∧ ∀ x ∈ l, p x) (by simp) r x r' h1 h2
  | k + 1 => fun r x r' h1 h2 => by
    rw [rdMany] at h2
    obtain ⟨a, s, h3, h4⟩ := Qi h2
    obtain ⟨l, s2, h5, h6⟩ := Qi h4
    obtain ⟨h7, h8⟩ := hf r a s h1 h3
    obtain ⟨⟨h9, h10⟩, h11⟩ := QhL hf k s l s2 (by omega) h5
    simp only [Except.ok.injEq, Prod.mk.injEq] at h6
    obtain ⟨rfl, rfl⟩ := h6
    refine ⟨⟨by simp [h9], ?_⟩, by omega⟩
    intro y hy
    rcases List.mem_cons.1 hy with rfl | hy
    · exact h7
    · exact h10 y hy
theorem Q5w {f : List UInt8 → Got α} {p : α → Prop} (hf : Goodp M f p) : Goodp M (QA n f) (fun l => l.length ≤ M ∧ ∀ x ∈ l, p x) := by
  intro r x r' h1 h2
  unfold QA at h2
  obtain ⟨c, s, h3, h4⟩ := Qi h2
  obtain ⟨_, h5⟩ := Q1m r c s h1 h3
  split at h4
  · cases h4
  · obtain ⟨⟨h6, h7⟩, h8⟩ := QhL hf _ s x r' (by omega) h4
    exact ⟨⟨by omega, h7⟩, by omega⟩
theorem Q6s (hM : M ≤ 100000) : ∀ k, Goodp M (QG n k) Tys.Short
  | 0 => fun r x r' h1 h2 => by rw [QG] at h2; cases h2
  | k + 1 => fun r x r' h1 h2 => by
    rw [Q2w] at h2
    have ht : Goodp M (rdTy n k) Ty.Short := by
      unfold rdTy
      refine Qo Q1m fun kd _ => Qo (Q2r Q1m trivial) fun g _ => Qo (Q2r (Q6s hM k) ⟨by simp, by simp⟩) fun l hl => Q2z ?_
      exact .mk hl.1 hl.2
    obtain ⟨h3, h4⟩ := Q5w ht r x r' h1 h2
    exact ⟨⟨by omega, h3.2⟩, h4⟩
theorem Q5x (hM : M ≤ 100000) : Goodp M (Q27 n) (fun l => l.length ≤ 100000) := (Q5w Q1m).weak fun l h => by omega
theorem good_ins (hM : M ≤ 100000) : Goodp M (Q3G n) Ins.Short := by
  unfold Q3G
  refine Qo Q1m fun op _ => Qo (Q2r Q1m trivial) fun a _ => Qo (Q2r Q1m trivial) fun b _ => Qo (Q2r Q1m trivial) fun c _ => Qo (Q2r Q1m trivial) fun k _ => Qo (Q2r Q1m trivial) fun m _ => ?_
  exact Qo (Q2r (Q5x hM) (by simp)) fun l1 h1 => Qo (Q2r (Q5x hM) (by simp)) fun l2 h2 => Q2z ⟨h1, h2⟩
theorem QkT (hM : M ≤ 100000) : Goodp M (rdTo n) To.Short := by
  unfold rdTo
  exact Qo Q1m fun b _ => Qo (Q5x hM) fun l1 h1 => Qo (Q5x hM) fun l2 h2 => Q2z ⟨h1, h2⟩
theorem good_end (hM : M ≤ 100000) : Goodp M (Q20 n) Tail.Short := by
  unfold Q20
  have hz : To.Short ⟨0, [], []⟩ := ⟨by simp, by simp⟩
  exact Qo Q1m fun op _ => Qo (Q2r Q1m trivial) fun a _ => Qo (Q2r (QkT hM) hz) fun y hy => Qo (Q2r (QkT hM) hz) fun z hz => Qo (Q2r (Q5x hM) (by simp)) fun l hl => Q2z ⟨hy, hz, hl⟩
theorem QjL (hM : M ≤ 100000) : Goodp M (Q1c n) Block.Short := by
  unfold Q1c
  exact Qo Q1m fun g _ => Qo (Q6s hM 6) fun ps hp => Qo (Q5w (good_ins hM)) fun c hc => Qo (good_end hM) fun t ht => Q2z ⟨hp, by have := hc.1; show c.length ≤ 100000; omega, hc.2, ht⟩
theorem good_fun (hM : M ≤ 100000) : Goodp M (Q2q n) Fun.Short := by
  unfold Q2q
  exact Qo Q1m fun g _ => Qo (Q6s hM 6) fun ps hp => Qo (Q6s hM 6) fun rs hr => Qo (Q5w (QjL hM)) fun bl hb => Q2z ⟨hp, hr, by have := hb.1; show bl.length ≤ 100000; omega, hb.2⟩
theorem Qiu {r r' : List UInt8} {l : List Fun} (hr : r.length ≤ 100000) (h : Qd2 n r = .ok (l, r')) : (Module.mk l).Short := by
  have := (Q5w (good_fun (n := n) (Nat.le_refl 100000)) r l r' hr h).1
  exact ⟨this.1, this.2⟩
theorem Qb4 {bs r : List UInt8} {l : List Fun} {N : Nat} (hN : N ≤ 20000) (h : Qd2 N ((bs.take N).drop 3) = .ok (l, r)) : (Module.mk l).Short := by
  refine Qiu ?_ h
  rw [List.length_drop, List.length_take]; omega
end
end Go.Lir
namespace Go.Lir
section
variable {n : Nat} {r r1 r2 r3 r4 : List UInt8} {e : Flt} {op a : Int} {yes no : To} {l : List Int}
theorem rdEnd_e (h : rdLong n r = .error e) : Q20 n r = .error e := by simp [Q20, Qj, h]
theorem Qkw (h : rdLong n r = .ok (op, r1)) (h1 : op ≠ 1) (h2 : op ≠ 2) (h3 : op ≠ 3) : Q20 n r = .ok (⟨op, 0, ⟨0, [], []⟩, ⟨0, [], []⟩, []⟩, r1) := by simp [Q20, Qj, rdIf, h, h1, h2, h3]
theorem rdEnd_1e (h : rdLong n r = .ok (op, r1)) (ho : op = 1) (h2 : rdTo n r1 = .error e) : Q20 n r = .error e := by simp [Q20, Qj, rdIf, h, ho, h2]
theorem Qkv (h : rdLong n r = .ok (op, r1)) (ho : op = 1) (h2 : rdTo n r1 = .ok (yes, r2)) : Q20 n r = .ok (⟨op, 0, yes, ⟨0, [], []⟩, []⟩, r2) := by simp [Q20, Qj, rdIf, h, ho, h2]
theorem rdEnd_2a (h : rdLong n r = .ok (op, r1)) (ho : op = 2) (h2 : rdLong n r1 = .error e) : Q20 n r = .error e := by simp [Q20, Qj, rdIf, h, ho, h2]
theorem rdEnd_2b (h : rdLong n r = .ok (op, r1)) (ho : op = 2) (h2 : rdLong n r1 = .ok (a, r2)) (h3 : rdTo n r2 = .error e) : Q20 n r = .error e := by simp [Q20, Qj, rdIf, h, ho, h2, h3]
theorem rdEnd_2c (h : rdLong n r = .ok (op, r1)) (ho : op = 2) (h2 : rdLong n r1 = .ok (a, r2)) (h3 : rdTo n r2 = .ok (yes, r3)) (h4 : rdTo n r3 = .error e) : Q20 n r = .error e := by simp [Q20, Qj, rdIf, h, ho, h2, h3, h4]
theorem Qku (h : rdLong n r = .ok (op, r1)) (ho : op = 2) (h2 : rdLong n r1 = .ok (a, r2)) (h3 : rdTo n r2 = .ok (yes, r3)) (h4 : rdTo n r3 = .ok (no, r4)) : Q20 n r = .ok (⟨op, a, yes, no, []⟩, r4) := by simp [Q20, Qj, rdIf, h, ho, h2, h3, h4]
theorem rdEnd_3e (h : rdLong n r = .ok (op, r1)) (ho : op = 3) (h2 : Q27 n r1 = .error e) : Q20 n r = .error e := by simp [Q20, Qj, rdIf, h, ho, h2]
theorem Qkt (h : rdLong n r = .ok (op, r1)) (ho : op = 3) (h2 : Q27 n r1 = .ok (l, r2)) : Q20 n r = .ok (⟨op, 0, ⟨0, [], []⟩, ⟨0, [], []⟩, l⟩, r2) := by simp [Q20, Qj, rdIf, h, ho, h2]
def set4 (j : Nat) (x : Int × Int × Int × Int) (y : Int) : Int × Int × Int × Int := match j with | 0 => (y, x.2.1, x.2.2.1, x.2.2.2) | 1 => (x.1, y, x.2.2.1, x.2.2.2) | 2 => (x.1, x.2.1, y, x.2.2.2) | _ => (x.1, x.2.1, x.2.2.1, y)
/-- The four numbers of an instruction that its head says. -/
def Q26 (n h : Nat) : Nat → Nat → Int × Int × Int × Int → List UInt8 → Got (Int × Int × Int × Int)
  | 0, _, x, r => .ok (x, r)
  | f + 1, j, x, r => if h / 2 ^ j % 2 = 1 then Qj (rdLong n r) fun y r => Q26 n h f (j + 1) (set4 j x y) r else Q26 n h f (j + 1) x r
def Q5v (n h : Nat) (op : Int) (x : Int × Int × Int × Int) (r : List UInt8) : Got Ins :=
  Qj (rdIf (h / 64 % 2 = 1) 0 (rdLong n) r) fun m r => Qj (rdIf (h / 16 % 2 = 1) [] (Q27 n) r) fun regs r => Qj (rdIf (h / 32 % 2 = 1) [] (Q27 n) r) fun args r => .ok (⟨op, x.1, x.2.1, x.2.2.1, x.2.2.2, m, regs, args⟩, r)
theorem Qga (n : Nat) (r : List UInt8) : Q3G n r = Qj (rdLong n r) fun op r => Qj (Q26 n (Qe op) 4 0 (0, 0, 0, 0) r) fun x r => Q5v n (Qe op) op x r := by
  unfold Q3G
  cases rdLong n r with
  | error e => rfl
  | ok p =>
    obtain ⟨op, r⟩ := p
    show Qj _ _ = Qj _ _
    rcases Decidable.em (Qe op / 2 ^ 0 % 2 = 1) with h0 | h0
    all_goals rcases Decidable.em (Qe op / 2 ^ 1 % 2 = 1) with h1 | h1
    all_goals rcases Decidable.em (Qe op / 2 ^ 2 % 2 = 1) with h2 | h2
    all_goals rcases Decidable.em (Qe op / 2 ^ 3 % 2 = 1) with h3 | h3
    all_goals simp only [rdIf, Q26, h0, h1, h2, h3, if_true, if_false, Q5v, Qj, set4, Nat.zero_add, Nat.reduceAdd]
    all_goals (first | rfl | skip)
    all_goals (repeat (first | rfl | split))
variable {h j : Nat} {x : Int × Int × Int × Int} {y : Int} {X : Got (Int × Int × Int × Int)}
theorem rdRegs_e (hd : X = Q26 n h (4 - j) j x r) (hj : j < 4) (hq : h / 2 ^ j % 2 = 1) (e2 : rdLong n r = .error e) : X = .error e := by
  rw [hd, show 4 - j = (4 - (j + 1)) + 1 by omega, Q26, if_pos hq, e2]; rfl
theorem Qcp (hd : X = Q26 n h (4 - j) j x r) (hj : j < 4) (hq : h / 2 ^ j % 2 = 1) (e2 : rdLong n r = .ok (y, r1)) : X = Q26 n h (4 - (j + 1)) (j + 1) (set4 j x y) r1 := by
  rw [hd, show 4 - j = (4 - (j + 1)) + 1 by omega, Q26, if_pos hq, e2]; rfl
theorem Qcq (hd : X = Q26 n h (4 - j) j x r) (hj : j < 4) (hq : ¬ h / 2 ^ j % 2 = 1) : X = Q26 n h (4 - (j + 1)) (j + 1) x r := by
  rw [hd, show 4 - j = (4 - (j + 1)) + 1 by omega, Q26, if_neg hq]
theorem rdIns_e (h1 : rdLong n r = .error e) : Q3G n r = .error e := by rw [Qga, h1]; rfl
theorem rdIns_re (h1 : rdLong n r = .ok (op, r1)) (hf : Qe op = h) (h2 : Q26 n h 4 0 (0, 0, 0, 0) r1 = .error e) : Q3G n r = .error e := by
  rw [Qga, h1]; subst hf; show Qj (Q26 n (Qe op) 4 0 (0, 0, 0, 0) r1) _ = _; rw [h2]; rfl
theorem rdIns_t (h1 : rdLong n r = .ok (op, r1)) (hf : Qe op = h) (hd : Q26 n h 4 0 (0, 0, 0, 0) r1 = Q26 n h (4 - j) j x r2) (hj : 4 ≤ j) : Q3G n r = Q5v n h op x r2 := by
  rw [Qga, h1]; subst hf; show Qj (Q26 n (Qe op) 4 0 (0, 0, 0, 0) r1) _ = _; rw [hd, show 4 - j = 0 by omega, Q26]; rfl
end
end Go.Lir
namespace Go.Lir
set_option linter.unusedVariables false
section
variable {α : Type} {n : Nat}
def Qaz (enc : α → List UInt8) (f : List UInt8 → Got α) (p : α → Prop) : Prop := ∀ x r, p x → f (enc x ++ r) = .ok (x, r)
theorem Qhw (n : Nat) : ∀ (k u : Nat) (r : List UInt8), 0 < k → k ≤ 10 → u < 2 ^ (7 * (k - 1) + 1) → (k ≠ 10 → 0 < u) → rdU n k (leb k u ++ r) = .ok (u, r)
  | 0, u, r, hk, _, _, _ => by omega
  | k + 1, u, r, _, h10, hu, hp => by
    rcases Nat.lt_or_ge u 128 with hlt | hge
    · rw [leb, if_pos hlt]
      have e : (UInt8.ofNat u).toNat = u := by simp; omega
      show rdU n (k + 1) (UInt8.ofNat u :: r) = _
      rw [rdU, e, if_neg, if_pos hlt]
      intro h
      rcases h with ⟨h1, h2⟩ | ⟨h1, h2⟩
      · subst h1; simp at hu; omega
      · have := hp (by omega); omega
    · cases k with
      | zero => simp at hu; omega
      | succ k =>
        rw [QkL (k + 1) u hge]
        have e : (UInt8.ofNat (u % 128 + 128)).toNat = u % 128 + 128 := by simp; omega
        show rdU n (k + 1 + 1) (UInt8.ofNat (u % 128 + 128) :: (leb (k + 1) (u / 128) ++ r)) = _
        have hu2 : u / 128 < 2 ^ (7 * (k + 1 - 1) + 1) := by
          rw [show 7 * (k + 1 + 1 - 1) + 1 = 7 * (k + 1 - 1) + 1 + 7 by omega, Nat.pow_add] at hu
          omega
        rw [rdU, e, if_neg (by omega), if_neg (by omega), Qhw n (k + 1) (u / 128) r (by omega) (by omega) hu2 (by omega)]
        show Except.ok _ = _
        rw [show u % 128 + 128 - 128 + 128 * (u / 128) = u by omega]
def InI (x : Int) : Prop := -9223372036854775808 ≤ x ∧ x ≤ 9223372036854775807
theorem QE : Qaz QN (rdLong n) InI := fun x r h => by
  have hz := zig_lt x
  unfold rdLong QN
  rw [Qhw n 10 (zig x) r (by omega) (by omega) (by omega) (by omega)]
  show Except.ok _ = _
  rw [QjV h]
theorem Qfw {enc : α → List UInt8} {f : List UInt8 → Got α} {p : α → Prop} (hf : Qaz enc f p) : ∀ (l : List α) (r : List UInt8), (∀ x ∈ l, p x) → rdMany f l.length (l.flatMap enc ++ r) = .ok (l, r)
  | [], r, _ => by simp [rdMany]
  | x :: l, r, h => by
    rw [List.flatMap_cons, List.append_assoc, List.length_cons, rdMany, hf x _ (h x (List.mem_cons_self ..))]
    show Qj (rdMany f l.length (l.flatMap enc ++ r)) _ = _
    rw [Qfw hf l r fun y hy => h y (List.mem_cons_of_mem _ hy)]
    rfl
theorem Qjg {enc : α → List UInt8} : ∀ (l : List α), (∀ x ∈ l, 0 < (enc x).length) → l.length ≤ (l.flatMap enc).length
  | [], _ => by simp
  | x :: l, h => by
    have := Qjg l fun y hy => h y (List.mem_cons_of_mem _ hy)
    have := h x (List.mem_cons_self ..)
    rw [List.flatMap_cons, List.length_append, List.length_cons]; omega
theorem Q3O {enc : α → List UInt8} {f : List UInt8 → Got α} {p : α → Prop} (hf : Qaz enc f p) (he : ∀ x, p x → 0 < (enc x).length) :
    Qaz (fun l : List α => QN l.length ++ l.flatMap enc) (QA n f) (fun l => l.length ≤ 9000000000000000000 ∧ ∀ x ∈ l, p x) := fun l r h => by
  have hl := Qjg l fun x hx => he x (h.2 x hx)
  unfold QA
  rw [List.append_assoc, QE (l.length : Int) _ ⟨by omega, by omega⟩]
  show (if _ then _ else _) = _
  rw [if_neg (by rw [List.length_append]; omega)]
  exact Qfw hf l r h.2
theorem Q3Q (x : Int) : 0 < (QN x).length := by
  unfold QN; rw [leb]; split <;> simp
theorem Q2R {enc : α → List UInt8} {f : List UInt8 → Got α} {p : α → Prop} {c : Prop} [Decidable c] {z x : α} {r : List UInt8} (hf : Qaz enc f p) (h1 : c → p x) (h2 : ¬ c → x = z) : rdIf c z f ((if c then enc x else []) ++ r) = .ok (x, r) := by
  unfold rdIf
  split
  · exact hf x r (h1 (by assumption))
  · rw [h2 (by assumption)]; rfl
theorem rb {β : Type} {X : Got α} {x : α} {r : List UInt8} {f : α → List UInt8 → Got β} {y : Got β} (h : X = .ok (x, r)) (hf : f x r = y) : Qj X f = y := by rw [h]; exact hf
def QfK (l : List Int) : Prop := l.length ≤ 9000000000000000000 ∧ ∀ x ∈ l, InI x
theorem Q3P : Qaz Q7D (Q27 n) QfK := Q3O QE fun x _ => Q3Q x
def Qia : Nat → List Ty → Prop
  | 0, _ => False
  | k + 1, l => l.length ≤ 9000000000000000000 ∧ ∀ t ∈ l, InI t.kind ∧ InI t.r ∧ (t.kind = 1 → t.r = 0) ∧ (t.kind ≠ 3 → t.l = []) ∧ (t.kind = 3 → Qia k t.l)
theorem bts_pos (t : Ty) : 0 < t.bts.length := by
  have := Q3Q t.kind
  rw [Ty.bts_mk]; simp only [List.length_append]; omega
theorem Q49 : ∀ k, Qaz tysB (QG n k) (Qia k)
  | 0 => fun l r h => h.elim
  | k + 1 => fun l r h => by
    have ht : Qaz Ty.bts (rdTy n k) (fun t => InI t.kind ∧ InI t.r ∧ (t.kind = 1 → t.r = 0) ∧ (t.kind ≠ 3 → t.l = []) ∧ (t.kind = 3 → Qia k t.l)) := by
      rintro t r ⟨h1, h2, h3, h4, h5⟩
      rw [Ty.bts_mk, List.append_assoc, List.append_assoc]
      unfold rdTy
      refine rb (QE _ _ h1) ?_
      refine rb (Q2R QE (fun _ => h2) fun hc => h3 (by omega)) ?_
      refine rb (Q2R (Q49 k) h5 h4) ?_
      cases t; rfl
    rw [Q2w]
    unfold tysB
    rw [Tys.bts_flat]
    exact Q3O ht (fun t _ => bts_pos t) l r h
def ToOK (t : To) : Prop := InI t.block ∧ QfK t.regs ∧ QfK t.args
theorem Qg4 : Qaz To.bts (rdTo n) ToOK := by
  rintro t r ⟨h1, h2, h3⟩
  unfold To.bts rdTo
  rw [List.append_assoc, List.append_assoc]
  refine rb (QE _ _ h1) ?_
  refine rb (Q3P _ _ h2) ?_
  refine rb (Q3P _ _ h3) ?_
  rfl
def InsOK (x : Ins) : Prop := (InI x.op ∧ InI x.a ∧ InI x.b ∧ InI x.c ∧ InI x.k ∧ InI x.n) ∧ ((¬ Qe x.op / 2 ^ 0 % 2 = 1 → x.a = 0) ∧ (¬ Qe x.op / 2 ^ 1 % 2 = 1 → x.b = 0) ∧ (¬ Qe x.op / 2 ^ 2 % 2 = 1 → x.c = 0) ∧ (¬ Qe x.op / 2 ^ 3 % 2 = 1 → x.k = 0)) ∧
  (¬ Qe x.op / 64 % 2 = 1 → x.n = 0) ∧ (¬ Qe x.op / 16 % 2 = 1 → x.regs = []) ∧ (¬ Qe x.op / 32 % 2 = 1 → x.args = []) ∧ QfK x.regs ∧ QfK x.args
theorem Qk0 : Qaz Ins.bts (Q3G n) InsOK := by
  rintro x r ⟨⟨ho, ha, hb, hc, hk, hn⟩, ⟨ga, gb, gc, gk⟩, gn, gr, gg, hr, hg⟩
  unfold Ins.bts Q3G
  simp only [Q7A, List.append_assoc, List.nil_append, Nat.zero_add, Nat.reduceAdd]
  refine rb (QE _ _ ho) ?_
  refine rb (Q2R QE (fun _ => ha) ga) ?_
  refine rb (Q2R QE (fun _ => hb) gb) ?_
  refine rb (Q2R QE (fun _ => hc) gc) ?_
  refine rb (Q2R QE (fun _ => hk) gk) ?_
  refine rb (Q2R QE (fun _ => hn) gn) ?_
  refine rb (Q2R Q3P (fun _ => hr) gr) ?_
  refine rb (Q2R Q3P (fun _ => hg) gg) ?_
  rfl
def To0 (t : To) : Prop := t = ⟨0, [], []⟩
def Qlf (x : Tail) : Prop := InI x.op ∧ InI x.a ∧ ToOK x.yes ∧ ToOK x.no ∧ QfK x.args ∧ (x.op ≠ 2 → x.a = 0 ∧ To0 x.no) ∧ (x.op ≠ 1 → x.op ≠ 2 → To0 x.yes) ∧ (x.op ≠ 3 → x.args = [])
theorem Qk2 : Qaz Tail.bts (Q20 n) Qlf := by
  rintro ⟨op, a, yes, no, args⟩ r ⟨ho, ha, hy, hn, hg, g2, g1, g3⟩
  unfold To0 at g1 g2
  unfold Tail.bts
  simp only at ho ha hy hn hg g1 g2 g3 ⊢
  rw [List.append_assoc]
  by_cases e1 : op = 1
  · obtain ⟨q1, q2⟩ := g2 (by omega)
    rw [if_pos e1, q1, q2, g3 (by omega)]
    exact Qkv (QE _ _ ho) e1 (Qg4 _ _ hy)
  · rw [if_neg e1]
    by_cases e2 : op = 2
    · rw [if_pos e2, g3 (by omega)]
      simp only [List.append_assoc]
      exact Qku (QE _ _ ho) e2 (QE _ _ ha) (Qg4 _ _ hy) (Qg4 _ _ hn)
    · obtain ⟨q1, q2⟩ := g2 e2
      rw [if_neg e2, q1, q2, g1 e1 e2]
      by_cases e3 : op = 3
      · rw [if_pos e3]
        exact Qkt (QE _ _ ho) e3 (Q3P _ _ hg)
      · rw [if_neg e3, g3 e3]
        exact Qkw (QE _ _ ho) e1 e2 e3
def Qj1 (x : Block) : Prop := InI x.regs ∧ Qia 6 x.params ∧ (x.code.length ≤ 9000000000000000000 ∧ ∀ i ∈ x.code, InsOK i) ∧ Qlf x.fin
theorem Qio : Qaz Block.bts (Q1c n) Qj1 := by
  rintro x r ⟨h1, h2, h3, h4⟩
  have hi : ∀ i : Ins, InsOK i → 0 < i.bts.length := fun i _ => by
    have := Q3Q i.op
    unfold Ins.bts; simp only [List.length_append]; omega
  unfold Block.bts Q1c
  simp only [List.append_assoc]
  refine rb (QE _ _ h1) ?_
  refine rb (Q49 6 _ _ h2) ?_
  have := Q3O (n := n) (Qk0 (n := n)) hi x.code (x.fin.bts ++ r) h3
  simp only [List.append_assoc] at this
  refine rb this ?_
  refine rb (Qk2 _ _ h4) ?_
  rfl
def FunOK (x : Fun) : Prop := InI x.regs ∧ Qia 6 x.params ∧ Qia 6 x.results ∧ (x.blocks.length ≤ 9000000000000000000 ∧ ∀ b ∈ x.blocks, Qj1 b)
theorem Qk1 : Qaz Fun.bts (Q2q n) FunOK := by
  rintro x r ⟨h1, h2, h3, h4⟩
  have hi : ∀ b : Block, Qj1 b → 0 < b.bts.length := fun b _ => by
    have := Q3Q b.regs
    unfold Block.bts; simp only [List.length_append]; omega
  unfold Fun.bts Q2q
  simp only [List.append_assoc]
  refine rb (QE _ _ h1) ?_
  refine rb (Q49 6 _ _ h2) ?_
  refine rb (Q49 6 _ _ h3) ?_
  have := Q3O (n := n) (Qio (n := n)) hi x.blocks r h4
  simp only [List.append_assoc] at this
  refine rb this ?_
  rfl
def ModOK (m : Module) : Prop := m.funcs.length ≤ 9000000000000000000 ∧ ∀ f ∈ m.funcs, FunOK f
theorem QjZ {m : Module} (h : ModOK m) : Qd2 n (m.body.drop 3) = .ok (m.funcs, []) := by
  have hi : ∀ f : Fun, FunOK f → 0 < f.bts.length := fun f _ => by
    have := Q3Q f.regs
    unfold Fun.bts; simp only [List.length_append]; omega
  have := Q3O (n := n) (Qk1 (n := n)) hi m.funcs [] h
  unfold Module.body Qd2
  simpa using this
theorem QhN {m : Module} (h : ModOK m) (hf : m.fault.1 = 0) (hl : m.body.length + 4 ≤ 20000) : decode (m.body ++ sumB (Q2g m.body)) = .ok m := by
  have h4 : (sumB (Q2g m.body)).length = 4 := rfl
  have hp := Q3Q (m.funcs.length : Int)
  have hb3 : m.body = [67, 72, 1] ++ (QN m.funcs.length ++ m.funcs.flatMap Fun.bts) := by unfold Module.body; rw [List.append_assoc]
  have hbl : 4 ≤ m.body.length := by rw [hb3, List.length_append, List.length_append]; simp only [List.length_cons, List.length_nil]; omega
  have hN : (m.body ++ sumB (Q2g m.body)).length = m.body.length + 4 := by rw [List.length_append, h4]
  have ht : (m.body ++ sumB (Q2g m.body)).take m.body.length = m.body := List.take_left
  have hd : (m.body ++ sumB (Q2g m.body)).drop m.body.length = sumB (Q2g m.body) := List.drop_left
  have h3 : (m.body ++ sumB (Q2g m.body)).take 3 = [67, 72, 1] := by
    rw [List.take_append_of_le_length (by omega), hb3]; rfl
  refine dec_ok (l := m.funcs) (r := []) hN (by omega) (by omega) (by rw [h3]; simp) (by rw [ht, hd]; simp) ?_ (by simp) (by show ¬ m.fault.1 ≠ 0; omega)
  rw [ht]
  exact QjZ h
theorem Ql4 (c : BitVec 32) : crc4 c = sumB c := by
  have e : ∀ a b : Nat, a % 256 = b % 256 → UInt8.ofNat a = UInt8.ofNat b := fun a b h => by
    apply UInt8.toNat_inj.1
    simp only [UInt8.toNat_ofNat']
    omega
  unfold crc4 sumB
  simp only [List.cons.injEq, and_true]
  refine ⟨e _ _ ?_, e _ _ ?_, e _ _ ?_, e _ _ ?_⟩ <;> (try simp only [BitVec.toNat_ushiftRight, Nat.shiftRight_eq_div_pow, Nat.reducePow]) <;> omega
theorem QfG {m : Module} (h : ModOK m) (hf : m.fault.1 = 0) (hl : m.body.length + 4 ≤ 20000) : decode m.enc = .ok m := by
  unfold Module.enc; rw [Ql4]; exact QhN h hf hl
end
end Go.Lir
namespace Go.Lir
set_option linter.unusedVariables false
def hasB (l : List Bool) (r : Int) : Bool := decide (0 ≤ r) && decide (r < l.length) && l.getD r.toNat false

/-! ### What both answer is the same -/

end Go.Lir
namespace Go.Lir
set_option linter.unusedVariables false
/-- Which regions are held, which values there are. -/
structure JS where
  h : List Bool
  l : List Ty
deriving instance DecidableEq for JS
def ebind {α β : Type} (x : Except Int α) (f : α → Except Int β) : Except Int β := match x with
  | .error e => .error e
  | .ok a => f a
def jput (s : JS) (t : Ty) : Except Int JS := if s.l.length = 80 then .error 2 else .ok ⟨s.h, s.l ++ [t]⟩
def number : Ty := .mk 1 0 []
/-! ### What is true of it -/
theorem jput_ok {s s' : JS} {t : Ty} (h : jput s t = .ok s') : s.l.length ≠ 80 ∧ s'.h = s.h ∧ s'.l = s.l ++ [t] := by
  unfold jput at h
  split at h
  · cases h
  · rename_i hk; cases h; exact ⟨hk, rfl, rfl⟩
/-- How an instruction that is let by changes what is known. -/
structure JStep (x : Ins) (s s' : JS) : Prop where
  len : s.l.length ≤ 80 → s'.l.length ≤ 80
  pre : ∃ more, s'.l = s.l ++ more ∧ (x.op ≠ 14 → more.length ≤ 1) ∧ (x.op = 3 → more.length = 1) ∧ (x.op = 4 → more = [])
  new : x.op = 3 → s'.h = s.h ++ [true] ∧ s.h.length ≠ 16
  free : x.op = 4 → ∃ t, 0 ≤ x.a ∧ s.l[x.a.toNat]? = some t ∧ t.kind = 2 ∧ hasB s.h t.r = true ∧ s'.h = s.h.set t.r.toNat false
  else_ : x.op ≠ 3 → x.op ≠ 4 → s'.h = s.h
section
variable {s : JS} {regs l : List Int} {want : List Ty} {k : Nat} {x c : Int} {u u' t : Ty}
end
section
variable {m : Module} {f : Fun} {s : JS} {x : Ins}
end
section
variable {f : Fun} {s : JS} {t : To} {b : Block} {e : Tail}
end
/-! ### A code that is told is not 0 -/
def NZ {α : Type} (x : Except Int α) : Prop := ∀ c, x = .error c → c ≠ 0
theorem NZ.e {α : Type} {c : Int} (h : c ≠ 0) : NZ (.error c : Except Int α) := fun _ h' => by cases h'; exact h
theorem NZ.o {α : Type} (a : α) : NZ (.ok a : Except Int α) := fun _ h' => by cases h'
theorem NZ.bind {α β : Type} {x : Except Int α} {f : α → Except Int β} (h1 : NZ x) (h2 : ∀ a, x = .ok a → NZ (f a)) : NZ (ebind x f) := by
  cases x with
  | error e => exact fun c h => by cases h; exact h1 _ rfl
  | ok a => exact h2 a rfl
end Go.Lir
namespace Go.Lir
set_option linter.unusedVariables false
/-! ### A module of the right form -/
theorem Q8Z {a b : Flt} (h : (orF a b).1 = 0) : a.1 = 0 ∧ b.1 = 0 := by
  unfold orF at h
  split at h
  · rename_i hc; exact absurd h hc.2
  · rename_i hc
    refine ⟨h, ?_⟩
    exact Classical.byContradiction fun hb => hc ⟨h, hb⟩
theorem Q9D {n f b : Nat} : ∀ {l : List Ins} {i : Nat}, (Q2F n f b i l).1 = 0 → ∀ x ∈ l, Q3J n x = 0
  | [], _, _, x, hx => by cases hx
  | y :: l, i, h, x, hx => by
    rw [Q2F] at h
    obtain ⟨h1, h2⟩ := Q8Z h
    rw [Qgg] at h1
    rcases List.mem_cons.1 hx with rfl | hx
    · exact h1
    · exact Q9D h2 x hx
theorem Q6m {n f : Nat} {x : Fun} : ∀ {l : List Block} {b0 : Nat}, (Q1J n f x b0 l).1 = 0 → ∀ (b : Nat) (y : Block), l[b]? = some y → (Q44 n f x (b0 + b) y).1 = 0
  | [], _, _, b, y, hy => by cases hy
  | z :: l, b0, h, b, y, hy => by
    rw [Q1J] at h
    obtain ⟨h1, h2⟩ := Q8Z h
    cases b with
    | zero => rw [List.getElem?_cons_zero] at hy; cases hy; exact h1
    | succ b => rw [List.getElem?_cons_succ] at hy; rw [show b0 + (b + 1) = b0 + 1 + b by omega]; exact Q6m h2 b y hy
theorem Q4g {n : Nat} : ∀ {l : List Fun} {f0 : Nat}, (Q38 n f0 l).1 = 0 → ∀ (f : Nat) (x : Fun), l[f]? = some x → (Qcu n (f0 + f) x).1 = 0
  | [], _, _, b, y, hy => by cases hy
  | z :: l, b0, h, b, y, hy => by
    rw [Q38] at h
    obtain ⟨h1, h2⟩ := Q8Z h
    cases b with
    | zero => rw [List.getElem?_cons_zero] at hy; cases hy; exact h1
    | succ b => rw [List.getElem?_cons_succ] at hy; rw [show b0 + (b + 1) = b0 + 1 + b by omega]; exact Q4g h2 b y hy
theorem QkV {m : Module} (h : m.fault.1 = 0) {f : Nat} {x : Fun} (hx : m.funcs[f]? = some x) : Q4h f x = 0 := by
  have h1 := Q4g (Q8Z h).2 f x hx
  rw [Nat.zero_add] at h1
  have h2 := (Q8Z h1).1
  rwa [Qgg] at h2
theorem QiK {m : Module} (h : m.fault.1 = 0) {f b : Nat} {x : Fun} {y : Block} (hx : m.funcs[f]? = some x) (hy : x.blocks[b]? = some y) : Q2l x b y = 0 ∧ (∀ i ∈ y.code, Q3J m.funcs.length i = 0) ∧ Q3K x.blocks.length y.fin = 0 := by
  have h1 := Q4g (Q8Z h).2 f x hx
  have h2 := Q6m (Q8Z h1).2 b y hy
  obtain ⟨h3, h4⟩ := Q8Z h2
  obtain ⟨h5, h6⟩ := Q8Z h4
  rw [Qgg] at h3 h6
  rw [Nat.zero_add] at h3
  exact ⟨h3, Q9D h5, h6⟩
theorem QiU {x : Fun} {b : Nat} {y : Block} (h : Q2l x b y = 0) : x.regs ≤ y.regs ∧ y.regs ≤ 16 ∧ QO y.params y.regs = 0 ∧ (b = 0 → y.regs = x.regs ∧ y.params = x.params) ∧ y.code.length ≤ 40 := by
  unfold Q2l at h
  split at h
  · cases h
  · rename_i h1
    split at h
    · rename_i h2; exact absurd h h2
    · rename_i h2
      split at h
      · cases h
      · rename_i h3
        split at h
        · cases h
        · refine ⟨by omega, by omega, Classical.not_not.1 h2, fun hb => ?_, by omega⟩
          refine ⟨Classical.byContradiction fun hr => h3 ⟨hb, .inl hr⟩, Classical.byContradiction fun hr => h3 ⟨hb, .inr hr⟩⟩
theorem QiJ {f : Nat} {x : Fun} (h : Q4h f x = 0) : 0 ≤ x.regs ∧ x.regs ≤ 6 ∧ QO x.params x.regs = 0 ∧ QO x.results x.regs = 0 ∧ 1 ≤ x.blocks.length ∧ x.blocks.length ≤ 12 := by
  unfold Q4h at h
  split at h
  · cases h
  · rename_i h1
    split at h
    · rename_i h2; exact absurd h h2
    · rename_i h2
      split at h
      · rename_i h3; exact absurd h h3
      · rename_i h3
        split at h
        · cases h
        · exact ⟨by omega, by omega, Classical.not_not.1 h2, Classical.not_not.1 h3, by omega, by omega⟩
theorem orC_z {a b : Int} (h : orC a b = 0) : a = 0 ∧ b = 0 := by
  unfold orC at h
  split at h
  · rename_i h1; exact absurd h h1
  · rename_i h1; exact ⟨Classical.not_not.1 h1, h⟩
theorem QcD {r : Int} : ∀ {l : List Ty}, Q47 r l = 0 → ∀ t ∈ l, t.fault r = 0
  | [], _, t, ht => by cases ht
  | x :: l, h, t, ht => by
    rw [Q47] at h
    obtain ⟨h1, h2⟩ := orC_z h
    rcases List.mem_cons.1 ht with rfl | ht
    · exact h1
    · exact QcD h2 t ht
/-! ### What is renamed is short -/
theorem Ty.Short.part {t : Ty} (h : t.Short) : ∀ u ∈ t.l, u.Short := by
  obtain ⟨k, r, l⟩ := t
  exact h.parts.2
/-! ### What stays so -/
structure JGood (s : JS) : Prop where
  n : s.l.length ≤ 80
  h : s.h.length ≤ 16
  s : ∀ t ∈ s.l, t.Short
theorem JGood.put {s s' : JS} {t : Ty} (hg : JGood s) (ht : t.Short) (h : jput s t = .ok s') : JGood s' := by
  obtain ⟨h1, h2, h3⟩ := jput_ok h
  refine ⟨by rw [h3, List.length_append]; have := hg.n; simp only [List.length_cons, List.length_nil]; omega, by rw [h2]; exact hg.h, fun u hu => ?_⟩
  rw [h3] at hu
  rcases List.mem_append.1 hu with hu | hu
  · exact hg.s u hu
  · simp at hu; subst hu; exact ht
/-! ### What was freed -/
/-! ### What is held, as a list -/
end Go.Lir
namespace Go.Lir
set_option linter.unusedVariables false
variable {α : Type}
/-- A kind of data of which more is known. -/
def Rep.an (r : Rep α) (p : α → Prop) : Rep α where
  es := r.es
  pos := r.pos
  R := fun H K cs x => r.R H K cs x ∧ p x
  len := fun h => r.len h.1
  one := fun h => r.one h.1
  turn := fun h hs => ⟨r.turn h.1 hs, h.2⟩
theorem Rep.an_SR {r : Rep α} {p : α → Prop} {H : Heap} {K : Nat → Prop} {v : Value} {l : List α} (h : (r.an p).SR H K v l) : r.SR H K v l ∧ ∀ x ∈ l, p x := by
  obtain ⟨css, h1, ⟨h2, h3⟩, h4⟩ := h
  refine ⟨⟨css, h1, ⟨h2, fun m x hx => ?_⟩, h4⟩, fun x hx => ?_⟩
  · obtain ⟨d, e1, e2⟩ := h3 m x hx; exact ⟨d, e1, e2.1⟩
  · obtain ⟨m, hm⟩ := List.mem_iff_getElem?.1 hx
    obtain ⟨d, e1, e2⟩ := h3 m x hm; exact e2.2
def To.InR (t : To) : Prop := InI t.block ∧ (∀ n ∈ t.regs, InI n) ∧ ∀ n ∈ t.args, InI n
def Ins.InR (x : Ins) : Prop := (InI x.op ∧ InI x.a ∧ InI x.b ∧ InI x.c ∧ InI x.k ∧ InI x.n) ∧ (∀ n ∈ x.regs, InI n) ∧ ∀ n ∈ x.args, InI n
def Tail.InR (x : Tail) : Prop := InI x.op ∧ InI x.a ∧ x.yes.InR ∧ x.no.InR ∧ ∀ n ∈ x.args, InI n
def Block.InR (x : Block) : Prop := InI x.regs ∧ (∀ t ∈ x.params, t.InR) ∧ (∀ i ∈ x.code, i.InR) ∧ x.fin.InR
def Fun.InR (x : Fun) : Prop := InI x.regs ∧ (∀ t ∈ x.params, t.InR) ∧ (∀ t ∈ x.results, t.InR) ∧ ∀ b ∈ x.blocks, b.InR
def Module.InR (m : Module) : Prop := ∀ f ∈ m.funcs, f.InR
section
variable {P : Program} {T e : TypeId}
def Cod.Of.intI (ht : P.underlying T = some (.int .i64)) (hs : P.cellsOf T = 1) : Cod.Of P T (intR.an InI) := Cod.of (Cod.int .i64 ht hs) (intR.an InI) rfl fun _ _ x h => ⟨x, h.1, QjT h.2⟩
def Cod.Of.tyI {TL t0 t1 : TypeId} (h0 : fieldAt P T 0 = some (0, 1, t0)) (h1 : fieldAt P T 1 = some (1, 1, t1)) (h2 : fieldAt P T 2 = some (2, 1, TL)) (hi0 : P.underlying t0 = some (.int .i64)) (hi1 : P.underlying t1 = some (.int .i64)) (hT : P.cellsOf T = 3) (hTL : P.underlying TL = some (.slice T)) (hby : decide (0 < P.bytesOf T) = true) : Cod.Of P T (tyR.an Ty.InR) :=
  ⟨Cod.tyInt h0 h1 h2 hi0 hi1 hT hTL hby, rfl, fun _ _ _ h => h⟩
def Cod.Of.toI {TI TL : TypeId} (ci : Cod.Of P TI (intR.an InI)) (cl : Cod.Of P TL (intR.an InI).list) (h0 : fieldAt P T 0 = some (0, 1, TI)) (h1 : fieldAt P T 1 = some (1, 1, TL)) (h2 : fieldAt P T 2 = some (2, 1, TL)) (hT : P.cellsOf T = 3) : Cod.Of P T (toR.an To.InR) :=
  Cod.of (Fld.cod (Fld.more ci.cod h0 (Fld.more cl.cod h1 (Fld.more cl.cod h2 Fld.none))) h0 3 hT) (toR.an To.InR) rfl fun H cs x h => by
    obtain ⟨hl, g0, g1, g2, _⟩ := h
    match cs, hl with
    | [a, b, c], _ =>
      obtain ⟨e0, n0⟩ : [a] = [_] ∧ InI _ := ci.part g0
      obtain ⟨v1, e1, s1⟩ := cl.part g1; obtain ⟨s1, q1⟩ := Rep.an_SR s1
      obtain ⟨v2, e2, s2⟩ := cl.part g2; obtain ⟨s2, q2⟩ := Rep.an_SR s2
      replace e1 : [b] = [v1] := e1
      replace e2 : [c] = [v2] := e2
      simp only [List.cons.injEq, and_true] at e0 e1 e2
      subst e0 e1 e2
      exact ⟨⟨x.1, x.2.1, x.2.2.1⟩, ⟨b, c, rfl, s1, s2⟩, n0, q1, q2⟩
def Cod.Of.insI {TI TL TN : TypeId} (ci : Cod.Of P TI (intR.an InI)) (cn : Cod.Of P TN (intR.an InI)) (cl : Cod.Of P TL (intR.an InI).list) (h0 : fieldAt P T 0 = some (0, 1, TI)) (h1 : fieldAt P T 1 = some (1, 1, TI)) (h2 : fieldAt P T 2 = some (2, 1, TI)) (h3 : fieldAt P T 3 = some (3, 1, TI)) (h4 : fieldAt P T 4 = some (4, 1, TI)) (h5 : fieldAt P T 5 = some (5, 1, TN)) (h6 : fieldAt P T 6 = some (6, 1, TL)) (h7 : fieldAt P T 7 = some (7, 1, TL)) (hT : P.cellsOf T = 8) : Cod.Of P T (insR.an Ins.InR) :=
  Cod.of (Fld.cod (Fld.more ci.cod h0 (Fld.more ci.cod h1 (Fld.more ci.cod h2 (Fld.more ci.cod h3 (Fld.more ci.cod h4 (Fld.more cn.cod h5 (Fld.more cl.cod h6 (Fld.more cl.cod h7 Fld.none)))))))) h0 8 hT) (insR.an Ins.InR) rfl fun H cs x h => by
    obtain ⟨hl, g0, g1, g2, g3, g4, g5, g6, g7, _⟩ := h
    match cs, hl with
    | [a0, a1, a2, a3, a4, a5, a6, a7], _ =>
      obtain ⟨e0, n0⟩ : [a0] = [_] ∧ InI _ := ci.part g0
      obtain ⟨e1, n1⟩ : [a1] = [_] ∧ InI _ := ci.part g1
      obtain ⟨e2, n2⟩ : [a2] = [_] ∧ InI _ := ci.part g2
      obtain ⟨e3, n3⟩ : [a3] = [_] ∧ InI _ := ci.part g3
      obtain ⟨e4, n4⟩ : [a4] = [_] ∧ InI _ := ci.part g4
      obtain ⟨e5, n5⟩ : [a5] = [_] ∧ InI _ := cn.part g5
      obtain ⟨v1, e6, s1⟩ := cl.part g6; obtain ⟨s1, q1⟩ := Rep.an_SR s1
      obtain ⟨v2, e7, s2⟩ := cl.part g7; obtain ⟨s2, q2⟩ := Rep.an_SR s2
      replace e6 : [a6] = [v1] := e6
      replace e7 : [a7] = [v2] := e7
      simp only [List.cons.injEq, and_true] at e0 e1 e2 e3 e4 e5 e6 e7
      subst e0 e1 e2 e3 e4 e5 e6 e7
      exact ⟨⟨x.1, x.2.1, x.2.2.1, x.2.2.2.1, x.2.2.2.2.1, x.2.2.2.2.2.1, x.2.2.2.2.2.2.1, x.2.2.2.2.2.2.2.1⟩, ⟨_, _, rfl, s1, s2⟩, ⟨n0, n1, n2, n3, n4, n5⟩, q1, q2⟩
def Cod.Of.endpI {TI TL TT : TypeId} (ci : Cod.Of P TI (intR.an InI)) (cl : Cod.Of P TL (intR.an InI).list) (ct : Cod.Of P TT (toR.an To.InR)) (h0 : fieldAt P T 0 = some (0, 1, TI)) (h1 : fieldAt P T 1 = some (1, 1, TI)) (h2 : fieldAt P T 2 = some (2, 3, TT)) (h3 : fieldAt P T 3 = some (5, 3, TT)) (h4 : fieldAt P T 4 = some (8, 1, TL)) (hT : P.cellsOf T = 9) : Cod.Of P T (endR.an Tail.InR) :=
  Cod.of (Fld.cod (Fld.more ci.cod h0 (Fld.more ci.cod h1 (Fld.more ct.cod h2 (Fld.more ct.cod h3 (Fld.more cl.cod h4 Fld.none))))) h0 9 hT) (endR.an Tail.InR) rfl fun H cs x h => by
    obtain ⟨hl, g0, g1, g2, g3, g4, _⟩ := h
    match cs, hl with
    | [a0, a1, a2, a3, a4, a5, a6, a7, a8], _ =>
      obtain ⟨e0, n0⟩ : [a0] = [_] ∧ InI _ := ci.part g0
      obtain ⟨e1, n1⟩ : [a1] = [_] ∧ InI _ := ci.part g1
      obtain ⟨⟨v1, v2, e2, s1, s2⟩, n2⟩ := ct.part g2
      obtain ⟨⟨v3, v4, e3, s3, s4⟩, n3⟩ := ct.part g3
      obtain ⟨v5, e4, s5⟩ := cl.part g4; obtain ⟨s5, q5⟩ := Rep.an_SR s5
      replace e2 : [a2, a3, a4] = _ := e2
      replace e3 : [a5, a6, a7] = _ := e3
      replace e4 : [a8] = _ := e4
      simp only [List.cons.injEq, and_true] at e0 e1 e2 e3 e4
      obtain ⟨q2, q3, q4⟩ := e2
      obtain ⟨q5, q6, q7⟩ := e3
      subst e0 e1 q2 q3 q4 q5 q6 q7 e4
      exact ⟨⟨x.1, x.2.1, x.2.2.1, x.2.2.2.1, x.2.2.2.2.1⟩, ⟨_, _, _, _, _, rfl, s1, s2, s3, s4, s5⟩, n0, n1, n2, n3, q5⟩
def Cod.Of.blockI {TI TL TC TE : TypeId} (ci : Cod.Of P TI (intR.an InI)) (cl : Cod.Of P TL (tyR.an Ty.InR).list) (cc : Cod.Of P TC (insR.an Ins.InR).list) (ce : Cod.Of P TE (endR.an Tail.InR)) (h0 : fieldAt P T 0 = some (0, 1, TI)) (h1 : fieldAt P T 1 = some (1, 1, TL)) (h2 : fieldAt P T 2 = some (2, 1, TC)) (h3 : fieldAt P T 3 = some (3, 9, TE)) (hT : P.cellsOf T = 12) : Cod.Of P T (blockR.an Block.InR) :=
  Cod.of (Fld.cod (Fld.more ci.cod h0 (Fld.more cl.cod h1 (Fld.more cc.cod h2 (Fld.more ce.cod h3 Fld.none)))) h0 12 hT) (blockR.an Block.InR) rfl fun H cs x h => by
    obtain ⟨hl, g0, g1, g2, g3, _⟩ := h
    match cs, hl with
    | [a0, a1, a2, a3, a4, a5, a6, a7, a8, a9, a10, a11], _ =>
      obtain ⟨e0, n0⟩ : [a0] = [_] ∧ InI _ := ci.part g0
      obtain ⟨v1, e1, s1⟩ := cl.part g1; obtain ⟨s1, q1⟩ := Rep.an_SR s1
      obtain ⟨v2, e2, s2⟩ := cc.part g2; obtain ⟨s2, q2⟩ := Rep.an_SR s2
      obtain ⟨s3, n3⟩ := ce.part g3
      replace e1 : [a1] = _ := e1
      replace e2 : [a2] = _ := e2
      replace s3 : endR.R H (· < H.size) [a3, a4, a5, a6, a7, a8, a9, a10, a11] x.2.2.2.1 := s3
      simp only [List.cons.injEq, and_true] at e0 e1 e2
      subst e0 e1 e2
      exact ⟨⟨x.1, x.2.1, x.2.2.1, x.2.2.2.1⟩, ⟨_, _, _, rfl, s1, s2, s3⟩, n0, q1, q2, n3⟩
def Cod.Of.funcI {TI TL TB : TypeId} (ci : Cod.Of P TI (intR.an InI)) (cl : Cod.Of P TL (tyR.an Ty.InR).list) (cb : Cod.Of P TB (blockR.an Block.InR).list) (h0 : fieldAt P T 0 = some (0, 1, TI)) (h1 : fieldAt P T 1 = some (1, 1, TL)) (h2 : fieldAt P T 2 = some (2, 1, TL)) (h3 : fieldAt P T 3 = some (3, 1, TB)) (hT : P.cellsOf T = 4) : Cod.Of P T (funcR.an Fun.InR) :=
  Cod.of (Fld.cod (Fld.more ci.cod h0 (Fld.more cl.cod h1 (Fld.more cl.cod h2 (Fld.more cb.cod h3 Fld.none)))) h0 4 hT) (funcR.an Fun.InR) rfl fun H cs x h => by
    obtain ⟨hl, g0, g1, g2, g3, _⟩ := h
    match cs, hl with
    | [a0, a1, a2, a3], _ =>
      obtain ⟨e0, n0⟩ : [a0] = [_] ∧ InI _ := ci.part g0
      obtain ⟨v1, e1, s1⟩ := cl.part g1; obtain ⟨s1, q1⟩ := Rep.an_SR s1
      obtain ⟨v2, e2, s2⟩ := cl.part g2; obtain ⟨s2, q2⟩ := Rep.an_SR s2
      obtain ⟨v3, e3, s3⟩ := cb.part g3; obtain ⟨s3, q3⟩ := Rep.an_SR s3
      replace e1 : [a1] = _ := e1
      replace e2 : [a2] = _ := e2
      replace e3 : [a3] = _ := e3
      simp only [List.cons.injEq, and_true] at e0 e1 e2 e3
      subst e0 e1 e2 e3
      exact ⟨⟨x.1, x.2.1, x.2.2.1, x.2.2.2.1⟩, ⟨_, _, _, rfl, s1, s2, s3⟩, n0, q1, q2, q3⟩
def Cod.Of.modI {TF : TypeId} (cf : Cod.Of P TF (funcR.an Fun.InR).list) (h0 : fieldAt P T 0 = some (0, 1, TF)) (hT : P.cellsOf T = 1) : Cod.Of P T (modR.an Module.InR) :=
  Cod.of (Fld.cod (Fld.more cf.cod h0 Fld.none) h0 1 hT) (modR.an Module.InR) rfl fun H cs x h => by
    obtain ⟨hl, g0, _⟩ := h
    match cs, hl with
    | [a0], _ =>
      obtain ⟨v1, e1, s1⟩ := cf.part g0; obtain ⟨s1, q1⟩ := Rep.an_SR s1
      replace e1 : [a0] = _ := e1
      simp only [List.cons.injEq, and_true] at e1
      subst e1
      exact ⟨⟨x.1⟩, ⟨_, rfl, s1⟩, q1⟩
end
/-! ### of the right form: read ag written -/
theorem QaZ {fields : Nat} {n : Int} : ∀ {l : List Ty}, Tys.wrong fields l n = 0 → ∀ t ∈ l, t.wrong fields n = 0
  | [], _, t, ht => by cases ht
  | x :: l, h, t, ht => by
    rw [Tys.wrong] at h
    split at h
    · rename_i h0; exact absurd h h0
    · rename_i h0
      rcases List.mem_cons.1 ht with rfl | ht
      · exact Classical.not_not.1 h0
      · exact QaZ h t ht
theorem Ty.wrong_parts {k r n : Int} {l : List Ty} {fields : Nat} (h : (Ty.mk k r l).wrong fields n = 0) : (1 ≤ k ∧ k ≤ 4) ∧ (k = 1 → r = 0) ∧ (k ≠ 3 → l.length = 0) ∧ l.length ≤ fields ∧ ∀ t ∈ l, t.wrong fields n = 0 := by
  rw [Ty.wrong] at h
  split at h; · cases h
  split at h; · cases h
  split at h; · cases h
  split at h; · cases h
  exact ⟨by omega, by omega, by omega, by omega, QaZ h⟩
theorem Qjk : ∀ {l : List Ty} {left : Int}, Tys.deepB l left = true → ∀ t ∈ l, t.deepB left = true
  | [], _, _, t, ht => by cases ht
  | x :: l, left, h, t, ht => by
    rw [Tys.deepB, Bool.and_eq_true] at h
    rcases List.mem_cons.1 ht with rfl | ht
    · exact h.1
    · exact Qjk h.2 t ht
theorem tys_ok (n : Int) : ∀ (k : Nat) (l : List Ty), (∀ t ∈ l, t.InR) → (∀ t ∈ l, t.deepB ((k : Int) - 1) = true ∧ t.wrong 8 n = 0) → l.length ≤ 100000 → Qia (k + 1) l
  | k, l, hr, hd, hl => by
    refine ⟨by omega, fun t ht => ?_⟩
    obtain ⟨kd, r, m⟩ := t
    obtain ⟨h1, h2, h3⟩ := (hr _ ht).parts
    obtain ⟨h4, h5⟩ := hd _ ht
    rw [Ty.deepB] at h4
    split at h4; · cases h4
    obtain ⟨w1, w2, w3, w4, w5⟩ := Ty.wrong_parts h5
    have h6 := Qjk h4
    match k with
    | 0 => omega
    | k + 1 =>
      refine ⟨h1, h2, w2, fun he => List.length_eq_zero_iff.1 (w3 he), fun _ => tys_ok n k m h3 (fun t ht => ⟨?_, w5 t ht⟩) (by omega)⟩
      rw [show ((k : Nat) : Int) - 1 = ((k + 1 : Nat) : Int) - 1 - 1 by omega]; exact h6 t ht
theorem QiC {l : List Ty} {n : Int} (hr : ∀ t ∈ l, t.InR) (h : QO l n = 0) : Qia 6 l := by
  unfold QO at h
  split at h; · cases h
  refine tys_ok n 5 l hr (fun t ht => ?_) (by omega)
  have h1 := QcD h t ht
  unfold Ty.fault at h1
  split at h1; · cases h1
  exact ⟨by simpa using ‹¬ t.deepB 4 = false›, h1⟩
theorem to_ok {n : Nat} {t : To} {is : Bool} (hr : t.InR) (h : Q2a n t is = 0) : ToOK t ∧ (is = false → To0 t) := by
  obtain ⟨b, rs, ag⟩ := t
  unfold Q2a at h
  obtain ⟨h1, h2, h3⟩ := hr
  simp only at h h1 h2 h3
  cases is
  · rw [if_pos rfl] at h
    split at h; · cases h
    obtain rfl : rs = [] := List.length_eq_zero_iff.1 (by omega)
    obtain rfl : ag = [] := List.length_eq_zero_iff.1 (by omega)
    obtain rfl : b = 0 := by omega
    exact ⟨⟨h1, ⟨by simp, h2⟩, by simp, h3⟩, fun _ => rfl⟩
  · rw [if_neg (by decide)] at h
    split at h; · cases h
    split at h; · cases h
    exact ⟨⟨h1, ⟨by show rs.length ≤ _; omega, h2⟩, by show ag.length ≤ _; omega, h3⟩, fun h => by cases h⟩
theorem end_ok {n : Nat} {e : Tail} (hr : e.InR) (h : Q3K n e = 0) : Qlf e := by
  obtain ⟨h1, h2, h3, h4, h5⟩ := hr
  unfold Q3K at h
  split at h; · cases h
  split at h; · cases h
  split at h; · cases h
  unfold orC at h
  split at h
  · rename_i h0; exact absurd h h0
  rename_i q1 q2 q3 h0
  have hy := to_ok h3 (Classical.not_not.1 h0)
  have hn := to_ok h4 h
  refine ⟨h1, h2, hy.1, hn.1, ⟨by omega, h5⟩, fun h => ⟨by omega, hn.2 (by simpa using h)⟩, fun e1 e2 => hy.2 (by simp; omega), fun h => List.length_eq_zero_iff.1 (by omega)⟩
theorem ins_ok {n : Nat} {x : Ins} (hl : x.Short) (hr : x.InR) (h : Q3J n x = 0) : InsOK x := by
  obtain ⟨h1, h2, h3⟩ := hr
  unfold Q3J at h
  split at h; · cases h
  rename_i ho
  split at h; · cases h
  rename_i hod
  unfold Ins.odd at hod
  have hl1 := hl.1
  have hl2 := hl.2
  refine ⟨h1, ?_⟩
  have hz : ∀ {l : List Int}, ¬ 0 < l.length → l = [] := fun h => List.length_eq_zero_iff.1 (by omega)
  suffices ((¬ Qe x.op / 2 ^ 0 % 2 = 1 → fA x.op = false) ∧ (¬ Qe x.op / 2 ^ 1 % 2 = 1 → fB x.op = false) ∧ (¬ Qe x.op / 2 ^ 2 % 2 = 1 → fC x.op = false) ∧ (¬ Qe x.op / 2 ^ 3 % 2 = 1 → fK x.op = false)) ∧ (¬ Qe x.op / 64 % 2 = 1 → fN x.op = false) ∧ (¬ Qe x.op / 16 % 2 = 1 → fG x.op = false) ∧ (¬ Qe x.op / 32 % 2 = 1 → fR x.op = false) by
    obtain ⟨⟨a, b, c, k⟩, n, g, r⟩ := this
    simp only [not_or, not_and, Classical.not_not] at hod
    obtain ⟨oa, ob, oc, ok, on, og, or⟩ := hod
    exact ⟨⟨fun h => oa (a h), fun h => ob (b h), fun h => oc (c h), fun h => ok (k h)⟩, fun h => on (n h), fun h => hz (og (g h)), fun h => hz (or (r h)), ⟨by omega, h2⟩, by omega, h3⟩
  rcases op_cases (op := x.op) (by omega) (by omega) with e | e | e | e | e | e | e | e | e | e | e | e | e | e <;> rw [e] <;> decide
theorem mod_ok {m : Module} (hl : m.Short) (hr : m.InR) (h : m.fault.1 = 0) : ModOK m := by
  refine ⟨by have := hl.1; omega, fun f hf => ?_⟩
  obtain ⟨i, hi⟩ := List.mem_iff_getElem?.1 hf
  obtain ⟨g1, g2, g3, g4⟩ := hr f hf
  have hfl := hl.2 f hf
  obtain ⟨_, _, e1, e2, _, _⟩ := QiJ (QkV h hi)
  refine ⟨g1, QiC g2 e1, QiC g3 e2, by have := hfl.2.2.1; omega, fun b hb => ?_⟩
  obtain ⟨j, hj⟩ := List.mem_iff_getElem?.1 hb
  obtain ⟨k1, k2, k3⟩ := QiK h hi hj
  obtain ⟨_, _, e3, _, e4⟩ := QiU k1
  obtain ⟨r1, r2, r3, r4⟩ := g4 b hb
  have hbl := hfl.2.2.2 b hb
  exact ⟨r1, QiC r2 e3, ⟨by omega, fun x hx => ins_ok (hbl.2.2.1 x hx) (r3 x hx) (k2 x hx)⟩, end_ok r4 k3⟩
/-! ### few parts are short lists -/
theorem QcW {m : Module} (h : m.Few) : m.Short := by
  refine ⟨by have := h.1; omega, fun f hf => ?_⟩
  obtain ⟨h1, h2, h3, h4⟩ := h.2 f hf
  refine ⟨Tys.Short.of_great h1, Tys.Short.of_great h2, by omega, fun b hb => ?_⟩
  obtain ⟨g1, g2, g3, ⟨⟨g4, g5⟩, ⟨g6, g7⟩, g8⟩⟩ := h4 b hb
  exact ⟨Tys.Short.of_great g1, by omega, fun x hx => ⟨by have := (g3 x hx).1; omega, by have := (g3 x hx).2; omega⟩, ⟨by omega, by omega⟩, ⟨by omega, by omega⟩, by omega⟩
end Go.Lir
namespace Go.Proofs.Ytanlkfeogoganaa
open Go.Lir
def QjQ : Cod.Of Try.prog 3 (intR.an InI) := Cod.Of.intI (by kernel_rfl) (by kernel_rfl)
def cLongI : Cod.Of Try.prog 2 (intR.an InI) := Cod.Of.intI (by kernel_rfl) (by kernel_rfl)
def Ql7 : Cod.Of Try.prog 25 (intR.an InI).list := Cod.Of.list QjQ (by kernel_rfl) (by kernel_rfl) (by kernel_rfl)
def cTyI : Cod.Of Try.prog 65 (tyR.an Ty.InR) := Cod.Of.tyI (TL := 28) (t0 := 3) (t1 := 3) (by kernel_rfl) (by kernel_rfl) (by kernel_rfl) (by kernel_rfl) (by kernel_rfl) (by kernel_rfl) (by kernel_rfl) (by kernel_rfl)
def cTysI : Cod.Of Try.prog 28 (tyR.an Ty.InR).list := Cod.Of.list cTyI (by kernel_rfl) (by kernel_rfl) (by kernel_rfl)
def cInsI : Cod.Of Try.prog 27 (insR.an Ins.InR) := Cod.Of.insI QjQ cLongI Ql7 (by kernel_rfl) (by kernel_rfl) (by kernel_rfl) (by kernel_rfl) (by kernel_rfl) (by kernel_rfl) (by kernel_rfl) (by kernel_rfl) (by kernel_rfl)
def cInssI : Cod.Of Try.prog 58 (insR.an Ins.InR).list := Cod.Of.list cInsI (by kernel_rfl) (by kernel_rfl) (by kernel_rfl)
def cToI : Cod.Of Try.prog 33 (toR.an To.InR) := Cod.Of.toI QjQ Ql7 (by kernel_rfl) (by kernel_rfl) (by kernel_rfl) (by kernel_rfl)
def cEndI : Cod.Of Try.prog 35 (endR.an Tail.InR) := Cod.Of.endpI QjQ Ql7 cToI (by kernel_rfl) (by kernel_rfl) (by kernel_rfl) (by kernel_rfl) (by kernel_rfl) (by kernel_rfl)
def cBlockI : Cod.Of Try.prog 77 (blockR.an Block.InR) := Cod.Of.blockI QjQ cTysI cInssI cEndI (by kernel_rfl) (by kernel_rfl) (by kernel_rfl) (by kernel_rfl) (by kernel_rfl)
def cBlocksI : Cod.Of Try.prog 29 (blockR.an Block.InR).list := Cod.Of.list cBlockI (by kernel_rfl) (by kernel_rfl) (by kernel_rfl)
def cFuncI : Cod.Of Try.prog 31 (funcR.an Fun.InR) := Cod.Of.funcI QjQ cTysI cBlocksI (by kernel_rfl) (by kernel_rfl) (by kernel_rfl) (by kernel_rfl) (by kernel_rfl)
def cFuncsI : Cod.Of Try.prog 22 (funcR.an Fun.InR).list := Cod.Of.list cFuncI (by kernel_rfl) (by kernel_rfl) (by kernel_rfl)
def cModI : Cod.Of Try.prog 24 (modR.an Module.InR) := Cod.Of.modI cFuncsI (by kernel_rfl) (by kernel_rfl)
def cByte : Cod.Of Try.prog 5 u8R := Cod.of (Cod.int .u8 (by kernel_rfl) (by kernel_rfl)) u8R rfl fun _ _ x h => ⟨UInt8.ofNat x.toNat, by
  have hb : 0 ≤ x ∧ x < 256 := by have hb := h.2; simp [Lit.wf, IntKind.min, IntKind.max, IntKind.bits, IntKind.signed] at hb; omega
  rw [h.1]; show [Value.int .u8 x] = [Value.int .u8 ((UInt8.ofNat x.toNat).toNat : Int)]
  rw [UInt8.toNat_ofNat']; congr 2; omega⟩
def cBytes : Cod.Of Try.prog 50 u8R.list := Cod.Of.list cByte (by kernel_rfl) (by kernel_rfl) (by kernel_rfl)
end Go.Proofs.Ytanlkfeogoganaa
namespace Go.Lir

/-! ### A call that returns, or panics with one value -/

def Fins (P : Program) (f : FuncId) (args : List Value) (w : World) (S T : Value → World → Prop) : Prop :=
  Calls P f ⟨args⟩ w fun e w' => (∃ v, e = .returned v ∧ S v w') ∨ (∃ v, e = .panicked [{ v := v, recovered := false }] ∧ T v w')

theorem Fins.mono {P : Program} {f : FuncId} {args : List Value} {w : World} {S S' T T' : Value → World → Prop} (h : Fins P f args w S T) (hs : ∀ v w', S v w' → S' v w') (ht : ∀ v w', T v w' → T' v w') : Fins P f args w S' T' :=
  Calls.mono h fun _ _ h => h.elim (fun ⟨v, he, hv⟩ => .inl ⟨v, he, hs _ _ hv⟩) (fun ⟨v, he, hv⟩ => .inr ⟨v, he, ht _ _ hv⟩)
theorem Rets.ends {P : Program} {f : FuncId} {args : List Value} {w : World} {S T : Value → World → Prop} (h : Rets P f args w S) : Fins P f args w S T :=
  Calls.mono h fun _ _ h => .inl h
section
variable {P : Program} {l : List GO} {Q : QT} {ρ : Env} {w : World}
theorem Q1A {d : Nat} {f : FuncId} {xs : List Operand} {args : List Value} {S T : Value → World → Prop} (hxs : xs.map ρ.ev = args) (hc : Fins P f args w S T)
    (hp : ∀ v w', T v w' → Q (.panic [{ v := v, recovered := false }]) ρ w') (h : ∀ v w', S v w' → Q3 P l Q (upd ρ d v) w') : Q3 P (⟨none, .call (some d) f xs⟩ :: l) Q ρ w := by
  subst hxs
  refine Calls.mono hc fun e w' h' => ?_
  rcases h' with ⟨v, he, hs⟩ | ⟨v, he, hs⟩
  · subst he; exact h v w' hs
  · subst he; exact hp v w' hs
theorem s_mkb {d : Nat} {Ty : TypeId} {f : FuncId} {fs : Array Operand} {u : List Value} (hu : fs.toList.map ρ.ev = u) (h : Q3 P l Q (upd ρ d (.func (.func f) ⟨u⟩ #[])) w) : Q3 P (⟨none, .raw ⟨some d, .makeFunc (.func f) fs #[], Ty, "", #[], none⟩⟩ :: l) Q ρ w := by
  subst hu
  have e : (⟨fs.toList.map ρ.ev⟩ : Array Value) = fs.map ρ.ev := by apply Array.ext'; simp
  show Q4L P ⟨some d, .makeFunc (.func f) fs #[], Ty, "", #[], none⟩ ρ w (Q3 P l Q) Q
  refine QH (v := .func (.func f) ⟨fs.toList.map ρ.ev⟩ #[]) (w' := w) ?_ (by exact h)
  rw [e]
  simp [execOp, Instr.makeFunc]
/-- A function value, with what it is called with if nothing else is. -/
def FnV (fv : Value) (g : FuncId) (args : List Value) : Prop := ∃ a b, fv = .func (.func g) ⟨a⟩ ⟨b⟩ ∧ args = a ++ b
theorem QcY {d : Nat} {x : Operand} {fv : Value} {f : FuncId} {args : List Value} {S T : Value → World → Prop} (hx : ρ.ev x = fv) (hv : FnV fv f args) (hf : Q2A P f = true) (hc : Fins P f args w S T)
    (hp : ∀ v w', T v w' → Q (.panic [{ v := v, recovered := false }]) ρ w') (h : ∀ v w', S v w' → Q3 P l Q (upd ρ d v) w') : Q3 P (⟨none, .callv (some d) x []⟩ :: l) Q ρ w := by
  unfold Q2A at hf
  rw [Option.any_eq_true] at hf
  obtain ⟨fn, h1, h2⟩ := hf
  rw [Bool.and_eq_true, Bool.not_eq_true'] at h2
  obtain ⟨a, b, rfl, rfl⟩ := hv
  refine ⟨f, ⟨a⟩, ⟨b⟩, fn, hx, h1, h2.1, h2.2, ?_⟩
  have : (Array.mk a ++ Array.mk (List.map ρ.ev []) ++ Array.mk b : Array Value) = ⟨a ++ b⟩ := by simp
  rw [this]
  refine Calls.mono hc fun e w' h' => ?_
  rcases h' with ⟨v, rfl, hs⟩ | ⟨v, rfl, hs⟩
  · exact h v w' hs
  · exact hp v w' hs
theorem Qv {K : KT} {ch : List PanicEntry} (h : Q (.panic ch) ρ w) : Qz K Q (.panic ch) ρ w := h
theorem Qw {id : Nat} {ch : List PanicEntry} (h : Q (.panic ch) ρ w) : QM id Q (.panic ch) ρ w := h
theorem Q1l {rs : List ResultVar} {R : Ending → World → Prop} {ch : List PanicEntry} (h : R (.panicked ch) w) : retQ P rs R (.panic ch) ρ w := h
theorem Q4a {d : Option Nat} {x : Operand} {Ty T : TypeId} {v : Value} (hx : ρ.ev x = .iface T v) (h : Q (.panic [{ v := .iface T v, recovered := false }]) ρ w) : Q3 P (⟨none, .raw ⟨d, .panic x, Ty, "", #[], none⟩⟩ :: l) Q ρ w := by
  refine (?_ : Q4L P _ ρ w _ Q)
  unfold Q4L
  have e : (execOp ρ.ev ⟨d, .panic x, Ty, "", #[], none⟩).run P w = .halt (.panic (.iface T v)) w := by
    simp [execOp, Instr.panic, hx, goPanic, Sem.run]
  rw [e]; exact h
theorem s_assert {d : Nat} {x : Operand} {Ty T xT : TypeId} {v : Value} {D : TypeDesc} (hd : P.underlying T = some D) (hi : ∀ m, D ≠ .interface m) (hx : ρ.ev x = .iface T v)
    (h : Q3 P l Q (upd ρ d (.tuple #[v, .bool true])) w) : Q3 P (⟨none, .raw ⟨some d, .typeAssert x xT T true, Ty, "", #[], none⟩⟩ :: l) Q ρ w := by
  refine QH (v := .tuple #[v, .bool true]) (w' := w) ?_ h
  simp only [execOp, Instr.typeAssert, hx, Sem.run_bind, Q8 P T D w hd, Result.andThen_ok]
  cases D <;> first | (exact absurd rfl (hi _)) | simp
end

/-! ### Deferred calls: lowered code in which one is put off -/

inductive LSp where
  | dfr (d : Option Nat) (x : Operand)
  | rcv (d : Option Nat)

inductive LD where
  | pl (c : LC)
  | seq (a b : LD)
  | sp (l1 : List GO) (o : LSp) (l2 : List GO)

def spOf (o : Oper) : Option LSp := match o.guard, o.op with
  | none, .defer ⟨.value x, xs, _⟩ => if xs.size = 0 then some (.dfr o.dst x) else none
  | none, .call ⟨.builtin .recover, xs, _⟩ => if xs.size = 0 then some (.rcv o.dst) else none
  | _, _ => none
def hasSp : Code → Bool
  | .seq a b => hasSp a || hasSp b
  | .region _ ops _ => ops.toList.any fun o => (spOf o).isSome
  | _ => false
def QcV : List Oper → Option (List Oper × Oper × LSp × List Oper)
  | [] => none
  | o :: r => match spOf o with
    | some s => some ([], o, s, r)
    | none => (QcV r).map fun p => (o :: p.1, p.2)
def lowD (P : Program) (n : Nat) : Code → LD
  | .seq a b => if hasSp a || hasSp b then .seq (lowD P n a) (lowD P n b) else .pl (Q2N P n (.seq a b))
  | .region id ops false => match QcV ops.toList with
    | some (l1, o, s, l2) => if ops.toList.all (okG n ops) then .sp (l1.map (Q2e P ops)) s (l2.map (Q2e P ops)) else .pl .bad
    | none => .pl (Q2N P n (.region id ops false))
  | c => .pl (Q2N P n c)
def QjG (P : Program) (fn : Func) : Option LD := fn.body.map (lowD P fn.ntmps)

def LD.wpD (P : Program) : LD → (List Deferred → QT) → List Deferred → Env → World → Prop
  | .pl c, Q, ds, ρ, w => c.wp P (Q ds) ρ w
  | .seq a b, Q, ds, ρ, w => a.wpD P (fun ds' => Qz (b.wpD P Q ds') (Q ds')) ds ρ w
  | .sp l1 (.dfr d x) l2, Q, ds, ρ, w => Q3 P l1 (Qz (fun ρ w => ∃ f cap, ρ.ev x = .func (.func f) #[] cap ∧ Q3 P l2 (Q (⟨.fn (.func f) cap, #[]⟩ :: ds)) (updo ρ d undef) w) (Q ds)) ρ w
  | _, _, _, _, _ => False

theorem Q5i : ∀ {ops l1 l2 : List Oper} {o : Oper} {s : LSp}, QcV ops = some (l1, o, s, l2) → ops = l1 ++ o :: l2 ∧ spOf o = some s
  | [], _, _, _, _, h => by simp [QcV] at h
  | o' :: r, l1, l2, o, s, h => by
    rw [QcV] at h
    cases hs : spOf o' with
    | some s' =>
      simp only [hs, Option.some.injEq, Prod.mk.injEq] at h
      obtain ⟨rfl, rfl, rfl, rfl⟩ := h
      exact ⟨rfl, hs⟩
    | none =>
      simp only [hs, Option.map_eq_some_iff] at h
      obtain ⟨⟨a, b, c, d⟩, h1, h2⟩ := h
      simp only [Prod.mk.injEq] at h2
      obtain ⟨rfl, rfl, rfl, rfl⟩ := h2
      obtain ⟨h3, h4⟩ := Q5i h1
      exact ⟨by rw [h3]; rfl, h4⟩

theorem Q9J {P : Program} {o : Oper} {a : Act} {K K' : Act → World → Prop} {Q Q' : Exit → Act → World → Prop} (hk : ∀ a w, K a w → K' a w) (hp : ∀ ch a w, Q (.panic ch) a w → Q' (.panic ch) a w) (ho : LetsOut Q → LetsOut Q') (r : Result Next) (h : o.upon P a K Q r) : o.upon P a K' Q' r := by
  cases r with
  | ok n w =>
    cases n <;> first | exact hk _ _ h | exact h | skip
    · refine Calls.mono h fun e w h => ?_
      cases e <;> first | exact hk _ _ h | exact hp _ _ _ h | exact ho h
    · exact Rows.mono h fun v w h => hk _ _ h
  | halt x w => cases x <;> first | exact hp _ _ _ h | exact h

theorem Q3i {P : Program} {ops : Array Oper} {Q : Exit → Act → World → Prop} {l2 : List Nat} : ∀ (l1 : List Nat) (a : Act) (w : World),
    wpOps P ops (Exit.then (wpOps P ops Q l2) Q) l1 a w → wpOps P ops Q (l1 ++ l2) a w
  | [], a, w, h => h
  | i :: l1, a, w, h => by
    simp only [List.cons_append, wpOps] at h ⊢
    cases ho : ops[i]? with
    | none => simp only [ho] at h ⊢; exact Q3i l1 a w h
    | some o =>
      simp only [ho] at h ⊢
      split
      · rename_i hw
        rw [if_pos hw] at h
        rcases h with h | ⟨h1, h2⟩
        · exact .inl (Q9J (fun a w h => Q3i l1 a w h) (fun ch a w h => h) (fun h => h) _ h)
        · exact .inr ⟨h1, h2⟩
      · rename_i hw
        rw [if_neg hw] at h
        exact Q3i l1 _ w h
theorem Q30 {P : Program} {ops : Array Oper} {Q Q' : Exit → Act → World → Prop} (hq : ∀ e a w, Q e a w → Q' e a w) : ∀ (l : List Nat) (a : Act) (w : World), wpOps P ops Q l a w → wpOps P ops Q' l a w
  | [], a, w, h => hq _ _ _ h
  | i :: l, a, w, h => by
    simp only [wpOps] at h ⊢
    have ho' : LetsOut Q → LetsOut Q' := fun ⟨a, w, h⟩ => ⟨a, w, hq _ _ _ h⟩
    cases ho : ops[i]? with
    | none => simp only [ho] at h ⊢; exact Q30 hq l a w h
    | some o =>
      simp only [ho] at h ⊢
      split
      · rename_i hw
        rw [if_pos hw] at h
        rcases h with h | ⟨h1, h2⟩
        · exact .inl (Q9J (fun a w h => Q30 hq l a w h) (fun ch a w h => hq _ _ _ h) ho' _ h)
        · exact .inr ⟨h1, ho' h2⟩
      · rename_i hw
        rw [if_neg hw] at h
        exact Q30 hq l _ w h

def liftD (n : Nat) (Q : List Deferred → QT) : Exit → Act → World → Prop := fun e a w => ∃ ds, QhF n ds (Q ds) e a w

theorem QhB {α : Type} {ops l1 l2 : List α} {o : α} (h : ops = l1 ++ o :: l2) : List.range ops.length = List.range l1.length ++ l1.length :: (List.range l2.length).map (l1.length + 1 + ·) := by
  subst h
  apply List.ext_getElem
  · simp
  · intro i h1 h2
    rw [List.getElem_range]
    rcases Nat.lt_trichotomy i l1.length with h | h | h
    · rw [List.getElem_append_left (by simpa using h), List.getElem_range]
    · subst h; rw [List.getElem_append_right (by simp)]; simp
    · rw [List.getElem_append_right (by simpa using Nat.le_of_lt h)]
      simp only [List.length_range]
      rw [List.getElem_cons]
      rw [dif_neg (by omega), List.getElem_map, List.getElem_range]; omega
theorem Qk4 {α β : Type} {ops l1 l2 : List α} {o : α} (g : α → β) (h : ops = l1 ++ o :: l2) : ((List.range l2.length).map (l1.length + 1 + ·)).filterMap (fun i => (ops[i]?).map g) = l2.map g := by
  subst h
  rw [List.filterMap_map]
  have : ∀ i, ((fun i => ((l1 ++ o :: l2)[i]?).map g) ∘ (l1.length + 1 + ·)) i = (l2[i]?).map g := by
    intro i
    simp only [Function.comp]
    rw [List.getElem?_append_right (by omega)]
    rw [show l1.length + 1 + i - l1.length = i + 1 by omega, List.getElem?_cons_succ]
  rw [Q24 (fun i _ => this i)]
  have := Q34 g l2 []
  simpa [List.range_eq_range'] using this
theorem Qj6 {α β : Type} {ops l1 l2 : List α} {o : α} (g : α → β) (h : ops = l1 ++ o :: l2) : (List.range l1.length).filterMap (fun i => (ops[i]?).map g) = l1.map g := by
  subst h
  have : ∀ i ∈ List.range l1.length, ((l1 ++ o :: l2)[i]?).map g = (l1[i]?).map g := by
    intro i hi
    rw [List.getElem?_append_left (by simpa using hi)]
  rw [Q24 this]
  have := Q34 g l1 []
  simpa [List.range_eq_range'] using this

theorem QjH {P : Program} {n : Nat} : ∀ (c : Code) (Q : List Deferred → QT) (ds : List Deferred) (ρ : Env) (a : Act) (w : World), Rel n ρ ds a → (lowD P n c).wpD P Q ds ρ w → c.wp P (liftD n Q) a w := by
  have hpl : ∀ (c : Code) (Q : List Deferred → QT) (ds : List Deferred) (ρ : Env) (a : Act) (w : World), Rel n ρ ds a → (Q2N P n c).wp P (Q ds) ρ w → c.wp P (liftD n Q) a w := fun c Q ds ρ a w hr h =>
    wp_mono (Q5t c _ ρ a w hr h) fun e a w h => ⟨ds, h⟩
  intro c
  induction c with
  | seq x y ihx ihy =>
    intro Q ds ρ a w hr h
    rw [lowD] at h
    split at h
    · refine wp_seq ?_
      refine wp_mono (ihx _ ds ρ a w hr h) ?_
      rintro e a w ⟨ds', ρ', hr', h'⟩
      cases e with
      | normal => exact ihy _ ds' ρ' a w hr' h'
      | _ => exact ⟨ds', ρ', hr', h'⟩
    · exact hpl _ Q ds ρ a w hr h
  | region id ops draw =>
    intro Q ds ρ a w hr h
    cases draw with
    | true => exact hpl _ Q ds ρ a w hr h
    | false =>
      rw [lowD] at h
      split at h
      · rename_i l1 o s l2 hs
        obtain ⟨hops, hsp⟩ := Q5i hs
        split at h
        · rename_i hall
          have hok : ∀ i o, ops[i]? = some o → okG n ops o = true := fun i o hi => List.all_eq_true.1 hall o (by rw [← Array.getElem?_toList] at hi; exact List.mem_of_getElem? hi)
          have hsz : ops.size = ops.toList.length := by simp
          have hgm : ∀ (l : List Nat), (l.filterMap fun i => (ops[i]?).map (Q2e P ops)) = l.filterMap fun i => (ops.toList[i]?).map (Q2e P ops) := fun l => by simp
          have hlen : ops.toList.length = l1.length + 1 + l2.length := by rw [hops]; simp; omega
          have hrange : ∀ (l : List Nat), (∀ i ∈ l, i < ops.size) → ∀ i ∈ l, ∃ o, ops[i]? = some o ∧ okG n ops o = true := fun l hl i hi => ⟨ops[i]'(hl i hi), by simp [hl i hi], hok i _ (by simp [hl i hi])⟩
          refine wp_region ?_
          rw [hsz, QhB hops]
          refine Q3i _ _ _ ?_
          cases s with
          | rcv d => exact h.elim
          | dfr d x =>
            have h1 := Q6r (Q := Qz (fun ρ w => ∃ f cap, ρ.ev x = .func (.func f) #[] cap ∧ Q3 P (l2.map (Q2e P ops)) (Q (⟨.fn (.func f) cap, #[]⟩ :: ds)) (updo ρ d undef) w) (Q ds)) (ds := ds) (List.range l1.length) ρ a w hr
              (hrange _ fun i hi => by rw [hsz, hlen]; have := List.mem_range.1 hi; omega) (by rw [hgm, Qj6 _ hops]; exact h)
            refine Q30 ?_ _ _ _ h1
            rintro e a w ⟨ρ', hr', h'⟩
            cases e with
            | normal =>
              obtain ⟨f, cap, hf, h'⟩ := h'
              have hoi : ops[l1.length]? = some o := by rw [← Array.getElem?_toList, hops]; simp
              refine (?_ : wpOps P ops _ (l1.length :: _) a w)
              simp only [wpOps, hoi]
              have hg : o.guard = none ∧ ∃ ts, ∃ xs : Array Operand, o.op = .defer ⟨.value x, xs, ts⟩ ∧ xs.size = 0 ∧ o.dst = d := by
                unfold spOf at hsp
                split at hsp
                · rename_i x' xs' ts' hg ho
                  split at hsp
                  · rename_i hx0
                    simp only [Option.some.injEq, LSp.dfr.injEq] at hsp
                    obtain ⟨g1, g2⟩ := hsp
                    subst g2
                    exact ⟨hg, ts', xs', ho, hx0, g1⟩
                  · cases hsp
                · split at hsp <;> cases hsp
                · cases hsp
              obtain ⟨hgd, ts, xs, hop, hxs, hd⟩ := hg
              have hxs' : xs = #[] := Array.eq_empty_of_size_eq_zero hxs
              subst hxs'
              rw [if_pos (by simp [Region.wanted, hgd])]
              refine .inl ?_
              unfold Oper.wp
              have e1 : (execOp a.eval o).run P w = .ok (.defer ⟨.fn (.func f) cap, #[]⟩) w := by
                simp [execOp, hop, resolve, hr'.ev, hf, Deferred.ofValue]
              rw [e1, Oper.upon_defer, hd]
              have hdn := Q9P (hok _ o hoi)
              rw [hd] at hdn
              have hr2 : Rel n (updo ρ' d undef) (⟨.fn (.func f) cap, #[]⟩ :: ds) ({ a with defers := ⟨.fn (.func f) cap, #[]⟩ :: a.defers }.put d undef) := by
                have hr3 : Rel n ρ' (⟨.fn (.func f) cap, #[]⟩ :: ds) { a with defers := ⟨.fn (.func f) cap, #[]⟩ :: a.defers } := ⟨hr'.1, hr'.2.1, by simp [hr'.2.2]⟩
                exact hr3.put d undef hdn
              have h2 := Q6r (Q := Q (⟨.fn (.func f) cap, #[]⟩ :: ds)) (ds := ⟨.fn (.func f) cap, #[]⟩ :: ds) _ _ _ w hr2
                (hrange ((List.range l2.length).map (l1.length + 1 + ·)) fun i hi => by rw [hsz, hlen]; rw [List.mem_map] at hi; obtain ⟨j, hj, rfl⟩ := hi; have := List.mem_range.1 hj; omega) (by rw [hgm, Qk4 _ hops]; exact h')
              exact Q30 (fun e a w h => ⟨_, h⟩) _ _ _ h2
            | _ => exact ⟨ds, ρ', hr', h'⟩
        · exact h.elim
      · exact hpl _ Q ds ρ a w hr h
  | _ => exact hpl _

/-- What becomes of a function's end, its deferred calls still to come. -/
def Q3I (P : Program) (rs : List ResultVar) (ρ : Env) (R : Ending → World → Prop) : List Deferred → FrameMode → World → Prop
  | [], .returning, w => Q1x P w ρ rs [] fun v => R (.returned v) w
  | [], .panicking chain, w => R (.panicked chain) w
  | [], .run, _ => False
  | d :: ds, u, w => u ≠ .run ∧ ∃ f cap, d = ⟨.fn (.func f) cap, #[]⟩ ∧ Q2A P f = true ∧ CallsD P f cap u w fun
      | .returned _, u', w' => Q3I P rs ρ R ds (settle u') w'
      | .panicked chain, u', w' => Q3I P rs ρ R ds (raised u' chain) w'
      | .outgrown, _, w' => R .outgrown w'
def retD (P : Program) (rs : List ResultVar) (R : Ending → World → Prop) (ds : List Deferred) : QT
  | .normal, ρ, w | .ret, ρ, w => Q3I P rs ρ R ds .returning w
  | .panic chain, ρ, w => Q3I P rs ρ R ds (.panicking chain) w
  | .outgrown, _, w => R .outgrown w
  | _, _, _ => False

theorem Q36 {P : Program} {fn : Func} {tmps : Array Value} {ρ : Env} {R : Ending → World → Prop} (ht : ∀ i, tmps.getD i undef = ρ i) : ∀ (ds : List Deferred) (u : FrameMode) (w : World),
    Q3I P fn.results.toList ρ R ds u w → Leaves P fn tmps R ds u w
  | [], .returning, w, h => by obtain ⟨v, h1, h2⟩ := Q2b ht h; exact ⟨v, h1, h2⟩
  | [], .panicking _, w, h => h
  | [], .run, w, h => h.elim
  | d :: ds, u, w, h => by
    obtain ⟨hu, f, cap, rfl, hf, hc⟩ := h
    unfold Q2A at hf
    rw [Option.any_eq_true] at hf
    obtain ⟨fn', h1, h2⟩ := hf
    rw [Bool.and_eq_true, Bool.not_eq_true'] at h2
    refine leaves_cons hu (f := f) (args := cap) ?_ ?_
    · simp only [invoke]
      rw [Qb0 _ h1 h2.1 h2.2]; simp
    · refine hc.mono ?_
      intro e u' w' h
      cases e with
      | returned v => exact Q36 ht ds _ _ h
      | panicked ch => exact Q36 ht ds _ _ h
      | outgrown => exact h

theorem QgO {P : Program} {f : FuncId} {fn : Func} {args : List Value} {w : World} {R : Ending → World → Prop} {ld : LD} {rs : List ResultVar}
    (hf : P.funcs[f]? = some fn) (hl : QjG P fn = some ld) (hrs : fn.results.toList = rs) (hn : Nat.ble args.length fn.ntmps = true)
    (h : ld.wpD P (retD P rs R) [] (Qc args) w) : Calls P f ⟨args⟩ w R := by
  unfold QjG at hl
  cases hb : fn.body with
  | none => simp [hb] at hl
  | some c =>
    simp only [hb, Option.map_some, Option.some.injEq] at hl
    subst hl hrs
    refine calls_of_wp_defers hf hb ?_
    have hn' : args.length ≤ fn.ntmps := Nat.le_of_ble_eq_true hn
    refine wp_mono (QjH c _ [] _ _ _ (Qay ⟨args⟩ fn.ntmps hn' []) h) ?_
    rintro e a w ⟨ds, ρ, hr, h⟩
    have hd := hr.2.2
    cases e with
    | normal => exact (hd ▸ Q36 hr.2.1 ds _ _ h : Leaves P fn a.tmps R a.defers .returning w)
    | ret => exact (hd ▸ Q36 hr.2.1 ds _ _ h : Leaves P fn a.tmps R a.defers .returning w)
    | panic ch => exact (hd ▸ Q36 hr.2.1 ds _ _ h : Leaves P fn a.tmps R a.defers (.panicking ch) w)
    | outgrown => exact h
    | exit => exact h
    | goto => exact h

/-! ### The deferred function: lowered code that recovers -/

def recM : FrameMode → Value × FrameMode
  | .panicking ({ v := v, recovered := false, goexit := false } :: older) => (v, .panicking ({ v := v, recovered := true } :: older))
  | u => (.nilIface, u)

def LD.wpR (P : Program) : LD → (FrameMode → QT) → FrameMode → Env → World → Prop
  | .pl c, Q, u, ρ, w => c.wp P (Q u) ρ w
  | .seq a b, Q, u, ρ, w => a.wpR P (fun u' => Qz (b.wpR P Q u') (Q u')) u ρ w
  | .sp l1 (.rcv d) l2, Q, u, ρ, w => Q3 P l1 (Qz (fun ρ w => Q3 P l2 (Q (recM u).2) (updo ρ d (recM u).1) w) (Q u)) ρ w
  | _, _, _, _, _ => False

def liftR (n : Nat) (c₀ : Frame) (cs : List Frame) (Q : FrameMode → QT) : Exit → Act → List Frame → World → Prop :=
  fun e a cs' w => ∃ u, cs' = { c₀ with mode := u } :: cs ∧ QhF n [] (Q u) e a w

theorem Qis (c₀ : Frame) (cs : List Frame) (u : FrameMode) : (match recoverD ({ c₀ with mode := u } :: cs) with
    | some (v, cs') => (v, cs')
    | none => (.nilIface, { c₀ with mode := u } :: cs)) = ((recM u).1, { c₀ with mode := (recM u).2 } :: cs) := by
  unfold recoverD recM
  dsimp only
  split <;> rename_i h
  · split at h
    · rename_i hm
      simp only [Option.some.injEq, Prod.mk.injEq] at h
      obtain ⟨rfl, rfl⟩ := h
      rfl
    · cases h
  · split at h
    · cases h
    · rename_i hm
      split
      · rename_i hm'
        exact absurd rfl (hm _ _)
      · rfl

theorem Qdc {P : Program} {n : Nat} {ops : Array Oper} {Q : QT} {QS : Exit → Act → List Frame → World → Prop} {cs : List Frame} {rest : List Nat} (hn : ∀ a w, QhF n [] Q .normal a w → wpOpsS P ops QS rest a cs w) (hq : ∀ e a w, e ≠ .normal → QhF n [] Q e a w → QS e a cs w) : ∀ (l : List Nat) (ρ : Env) (a : Act) (w : World), Rel n ρ [] a →
    (∀ i ∈ l, ∃ o, ops[i]? = some o ∧ okG n ops o = true) →
    Q3 P (l.filterMap fun i => (ops[i]?).map (Q2e P ops)) Q ρ w → wpOpsS P ops QS (l ++ rest) a cs w := by
  intro l
  induction l with
  | nil => intro ρ a w hr _ h; exact hn a w ⟨ρ, hr, h⟩
  | cons i l ih =>
    intro ρ a w hr hok h
    obtain ⟨o, ho, hg⟩ := hok i (by simp)
    have hok' : ∀ i ∈ l, ∃ o, ops[i]? = some o ∧ okG n ops o = true := fun i hi => hok i (by simp [hi])
    simp only [List.filterMap_cons, ho, Option.map_some] at h
    have h' := QaY hr hg _ Q w h
    simp only [List.cons_append, wpOpsS, ho]
    split
    · rename_i hw
      rw [if_pos hw] at h'
      have h1 := QhA (ds := []) hr (Q9P hg) (Qda h')
      have h2 := Q9J (Q' := fun e a' w' => QS e a' cs w') (K' := fun a' w' => wpOpsS P ops QS (l ++ rest) a' cs w') (fun a w ⟨ρ, hr, h⟩ => ih ρ a w hr hok' h) (fun ch a w h => hq _ a w (by simp) h) (fun ⟨a, w, h⟩ => ⟨a, w, hq _ a w (by simp) h⟩) _ h1
      split
      · rename_i w' hrun
        rw [hrun] at h2
        exact h2.elim
      · rename_i r hrun
        exact h2
    · rename_i hw
      rw [if_neg hw] at h'
      exact ih _ _ w (hr.put _ _ (Q9P hg)) hok' h'

theorem QjF {P : Program} {n : Nat} {c₀ : Frame} {cs : List Frame} : ∀ (c : Code) (Q : FrameMode → QT) (u : FrameMode) (ρ : Env) (a : Act) (w : World), Rel n ρ [] a → (lowD P n c).wpR P Q u ρ w → c.wpS P (liftR n c₀ cs Q) a ({ c₀ with mode := u } :: cs) w := by
  have hpl : ∀ (c : Code) (Q : FrameMode → QT) (u : FrameMode) (ρ : Env) (a : Act) (w : World), Rel n ρ [] a → (Q2N P n c).wp P (Q u) ρ w → c.wpS P (liftR n c₀ cs Q) a ({ c₀ with mode := u } :: cs) w := fun c Q u ρ a w hr h =>
    wpS_of_wp (wp_mono (Q5t c _ ρ a w hr h) fun e a w h => ⟨u, rfl, h⟩)
  intro c
  induction c with
  | seq x y ihx ihy =>
    intro Q u ρ a w hr h
    rw [lowD] at h
    split at h
    · refine wpS_seq ?_
      intro b k hb hro
      obtain ⟨e, a', cs', w', ⟨u', rfl, ρ', hr', h'⟩, harr⟩ := ihx _ u ρ a w hr h b k hb hro
      refine ⟨e, a', _, w', ?_, harr⟩
      cases e with
      | normal => exact ihy _ u' ρ' a' w' hr' h'
      | _ => exact ⟨u', rfl, ρ', hr', h'⟩
    · exact hpl _ Q u ρ a w hr h
  | region id ops draw =>
    intro Q u ρ a w hr h
    cases draw with
    | true => exact hpl _ Q u ρ a w hr h
    | false =>
      rw [lowD] at h
      split at h
      · rename_i l1 o s l2 hs
        obtain ⟨hops, hsp⟩ := Q5i hs
        split at h
        · rename_i hall
          have hok : ∀ i o, ops[i]? = some o → okG n ops o = true := fun i o hi => List.all_eq_true.1 hall o (by rw [← Array.getElem?_toList] at hi; exact List.mem_of_getElem? hi)
          have hsz : ops.size = ops.toList.length := by simp
          have hgm : ∀ (l : List Nat), (l.filterMap fun i => (ops[i]?).map (Q2e P ops)) = l.filterMap fun i => (ops.toList[i]?).map (Q2e P ops) := fun l => by simp
          have hlen : ops.toList.length = l1.length + 1 + l2.length := by rw [hops]; simp; omega
          have hrange : ∀ (l : List Nat), (∀ i ∈ l, i < ops.size) → ∀ i ∈ l, ∃ o, ops[i]? = some o ∧ okG n ops o = true := fun l hl i hi => ⟨ops[i]'(hl i hi), by simp [hl i hi], hok i _ (by simp [hl i hi])⟩
          refine wpS_region ?_
          rw [hsz, QhB hops]
          cases s with
          | dfr d x => exact h.elim
          | rcv d =>
            refine Qdc (Q := Qz (fun ρ w => Q3 P (l2.map (Q2e P ops)) (Q (recM u).2) (updo ρ d (recM u).1) w) (Q u)) ?_ ?_ (List.range l1.length) ρ a w hr
              (hrange _ fun i hi => by rw [hsz, hlen]; have := List.mem_range.1 hi; omega) (by rw [hgm, Qj6 _ hops]; exact h)
            · rintro a w ⟨ρ', hr', h'⟩
              have hoi : ops[l1.length]? = some o := by rw [← Array.getElem?_toList, hops]; simp
              have hg : o.guard = none ∧ ∃ ts, ∃ xs : Array Operand, o.op = .call ⟨.builtin .recover, xs, ts⟩ ∧ xs.size = 0 ∧ o.dst = d := by
                unfold spOf at hsp
                split at hsp
                · split at hsp <;> cases hsp
                · rename_i xs' ts' hg ho
                  split at hsp
                  · rename_i hx0
                    simp only [Option.some.injEq, LSp.rcv.injEq] at hsp
                    exact ⟨hg, ts', xs', ho, hx0, hsp⟩
                  · cases hsp
                · cases hsp
              obtain ⟨hgd, ts, xs, hop, hxs, hd⟩ := hg
              have hxs' : xs = #[] := Array.eq_empty_of_size_eq_zero hxs
              subst hxs'
              refine (?_ : wpOpsS P ops _ (l1.length :: _) a _ w)
              simp only [wpOpsS, hoi]
              rw [if_pos (by simp [Region.wanted, hgd])]
              have e1 : (execOp a.eval o).run P w = .ok .recover w := by
                simp [execOp, hop, resolve, invoke, builtin]
              rw [e1]
              have hdn := Q9P (hok _ o hoi)
              rw [hd] at hdn
              have hr2 : Rel n (updo ρ' d (recM u).1) [] (a.put d (recM u).1) := hr'.put d _ hdn
              have hrec := Qis c₀ cs u
              have key : wpOpsS P ops (liftR n c₀ cs Q) ((List.range l2.length).map (l1.length + 1 + ·)) (a.put o.dst (recM u).1) ({ c₀ with mode := (recM u).2 } :: cs) w := by
                rw [hd]
                have h2 := Qdc (Q := Q (recM u).2) (QS := liftR n c₀ cs Q) (cs := { c₀ with mode := (recM u).2 } :: cs) (rest := []) (fun a w h => ⟨_, rfl, h⟩) (fun e a w _ h => ⟨_, rfl, h⟩) ((List.range l2.length).map (l1.length + 1 + ·)) _ _ w hr2
                  (hrange _ fun i hi => by rw [hsz, hlen]; rw [List.mem_map] at hi; obtain ⟨j, hj, rfl⟩ := hi; have := List.mem_range.1 hj; omega) (by rw [hgm, Qk4 _ hops]; exact h')
                rwa [List.append_nil] at h2
              dsimp only
              split
              · rename_i v cs' hrd
                rw [hrd] at hrec
                simp only [Prod.mk.injEq] at hrec
                rw [hrec.1, hrec.2]; exact key
              · rename_i hrd
                rw [hrd] at hrec
                simp only [Prod.mk.injEq] at hrec
                have e3 : ({ c₀ with mode := u } :: cs : List Frame) = { c₀ with mode := (recM u).2 } :: cs := hrec.2
                rw [hrec.1, e3]; exact key
            · rintro e a w he ⟨ρ', hr', h'⟩
              refine ⟨u, rfl, ρ', hr', ?_⟩
              cases e <;> first | exact h' | exact absurd rfl he
        · exact h.elim
      · exact hpl _ Q u ρ a w hr h
  | _ => exact hpl _

def retR (P : Program) (rs : List ResultVar) (R : Ending → FrameMode → World → Prop) (u : FrameMode) : QT
  | .normal, ρ, w | .ret, ρ, w => Q1x P w ρ rs [] fun v => R (.returned v) u w
  | .panic chain, _, w => R (.panicked chain) u w
  | .outgrown, _, w => R .outgrown u w
  | _, _, _ => False

theorem QeY {P : Program} {f : FuncId} {fn : Func} {args : List Value} {u : FrameMode} {w : World} {R : Ending → FrameMode → World → Prop} {ld : LD} {rs : List ResultVar}
    (hf : P.funcs[f]? = some fn) (hl : QjG P fn = some ld) (hrs : fn.results.toList = rs) (hn : Nat.ble args.length fn.ntmps = true)
    (h : ld.wpR P (retR P rs R) u (Qc args) w) : CallsD P f ⟨args⟩ u w R := by
  unfold QjG at hl
  cases hb : fn.body with
  | none => simp [hb] at hl
  | some c =>
    simp only [hb, Option.map_some, Option.some.injEq] at hl
    subst hl hrs
    refine callsD_of_wpS hf hb ?_
    intro c₀ cs hu
    have hn' : args.length ≤ fn.ntmps := Nat.le_of_ble_eq_true hn
    have h1 := QjF (c₀ := c₀) (cs := cs) c _ u _ _ w (Qay ⟨args⟩ fn.ntmps hn' []) h
    have hc : ({ c₀ with mode := u } : Frame) = c₀ := by subst hu; rfl
    rw [hc] at h1
    intro b k hb hro
    obtain ⟨e, a, cs', w', ⟨u', rfl, ρ, hr, h2⟩, harr⟩ := h1 b k hb hro
    refine ⟨e, a, _, w', ?_, harr⟩
    cases e with
    | normal => obtain ⟨v, h3, h4⟩ := Q2b hr.2.1 h2; exact ⟨hr.2.2, u', rfl, v, h3, h4⟩
    | ret => obtain ⟨v, h3, h4⟩ := Q2b hr.2.1 h2; exact ⟨hr.2.2, u', rfl, v, h3, h4⟩
    | panic ch => exact ⟨hr.2.2, u', rfl, h2⟩
    | outgrown => exact ⟨u', h2⟩
    | exit => exact h2
    | goto => exact h2

/-! ### Steps -/
section
variable {P : Program} {ρ : Env} {w : World} {u : FrameMode} {ds : List Deferred}
theorem d_pl {c : LC} {Q : List Deferred → QT} (h : c.wp P (Q ds) ρ w) : (LD.pl c).wpD P Q ds ρ w := h
theorem d_seq {a b : LD} {Q : List Deferred → QT} (h : a.wpD P (fun ds' => Qz (b.wpD P Q ds') (Q ds')) ds ρ w) : (LD.seq a b).wpD P Q ds ρ w := h
theorem d_sp {l1 l2 : List GO} {d : Option Nat} {x : Operand} {Q : List Deferred → QT} (h : Q3 P l1 (Qz (fun ρ w => ∃ f cap, ρ.ev x = .func (.func f) #[] cap ∧ Q3 P l2 (Q (⟨.fn (.func f) cap, #[]⟩ :: ds)) (updo ρ d undef) w) (Q ds)) ρ w) : (LD.sp l1 (.dfr d x) l2).wpD P Q ds ρ w := h
theorem r_pl {c : LC} {Q : FrameMode → QT} (h : c.wp P (Q u) ρ w) : (LD.pl c).wpR P Q u ρ w := h
theorem r_seq {a b : LD} {Q : FrameMode → QT} (h : a.wpR P (fun u' => Qz (b.wpR P Q u') (Q u')) u ρ w) : (LD.seq a b).wpR P Q u ρ w := h
theorem r_sp {l1 l2 : List GO} {d : Option Nat} {Q : FrameMode → QT} (h : Q3 P l1 (Qz (fun ρ w => Q3 P l2 (Q (recM u).2) (updo ρ d (recM u).1) w) (Q u)) ρ w) : (LD.sp l1 (.rcv d) l2).wpR P Q u ρ w := h
/-- A deferred function, called in a mode: it returns. -/
def Defs (P : Program) (f : FuncId) (args : List Value) (u : FrameMode) (w : World) (S : FrameMode → World → Prop) : Prop :=
  CallsD P f ⟨args⟩ u w fun e u' w' => (∃ v, e = .returned v) ∧ S u' w'
theorem Q2y {rs : List ResultVar} {R : Ending → World → Prop} {f : FuncId} {cap : List Value} {S : FrameMode → World → Prop} (hu : u ≠ .run) (hf : Q2A P f = true) (hc : Defs P f cap u w S)
    (h : ∀ u' w', S u' w' → Q3I P rs ρ R [] (settle u') w') : Q3I P rs ρ R [⟨.fn (.func f) ⟨cap⟩, #[]⟩] u w := by
  refine ⟨hu, f, ⟨cap⟩, rfl, hf, hc.mono ?_⟩
  rintro e u' w' ⟨⟨v, rfl⟩, hs⟩
  exact h u' w' hs
theorem Qd5 {rs : List ResultVar} {R : Ending → World → Prop} (h : Q3I P rs ρ R ds .returning w) : retD P rs R ds .ret ρ w := h
theorem q_panD {rs : List ResultVar} {R : Ending → World → Prop} {ch : List PanicEntry} (h : Q3I P rs ρ R ds (.panicking ch) w) : retD P rs R ds (.panic ch) ρ w := h
theorem Q28 {rs : List ResultVar} {R : Ending → World → Prop} (h : retQ P rs R .ret ρ w) : Q3I P rs ρ R [] .returning w := h
theorem q_endR {rs : List ResultVar} {R : Ending → FrameMode → World → Prop} (h : retQ P rs (fun e w => R e u w) .normal ρ w) : retR P rs R u .normal ρ w := h
end
end Go.Lir
namespace Go.Lir
section
variable {P : Program} {l : List GO} {Q : QT} {ρ : Env} {w : World} {f : FuncId} {S T : Value → World → Prop}

theorem s_ends_1 {d : Nat} {u0 : Value} {x0 : Operand} (h0 : ρ.ev x0 = u0) (hc : Fins P f [u0] w S T) (hp : ∀ v w', T v w' → Q (.panic [{ v := v, recovered := false }]) ρ w') (h : ∀ v w', S v w' → Q3 P l Q (upd ρ d v) w') : Q3 P (⟨none, .call (some d) f [x0]⟩ :: l) Q ρ w := by
  subst h0; exact Q1A (by rfl) hc hp h
theorem s_ends_2 {d : Nat} {u0 u1 : Value} {x0 x1 : Operand} (h0 : ρ.ev x0 = u0) (h1 : ρ.ev x1 = u1) (hc : Fins P f [u0, u1] w S T) (hp : ∀ v w', T v w' → Q (.panic [{ v := v, recovered := false }]) ρ w') (h : ∀ v w', S v w' → Q3 P l Q (upd ρ d v) w') : Q3 P (⟨none, .call (some d) f [x0, x1]⟩ :: l) Q ρ w := by
  subst h0 h1; exact Q1A (by rfl) hc hp h
theorem Qb8 (k : Nat) {Ty : TypeId} {ms : Array (String × TypeId)} {w0 : World} (ht : P.underlying Ty = some (.interface ms)) : (Op.equalIn (k + 1) Ty .nilIface .nilIface).run P w0 = .ok true w0 := by
  simp only [Op.equalIn, Sem.run_bind, Q8 P Ty _ w0 ht, Result.andThen_ok]
  simp [Sem.run_pure]
theorem QeJ {Ty : TypeId} {ms : Array (String × TypeId)} {w0 : World} (ht : P.underlying Ty = some (.interface ms)) : (Op.equal Ty .nilIface .nilIface).run P w0 = .ok true w0 := Qb8 9999 ht
theorem Q9L (k : Nat) {Ty U : TypeId} {v : Value} {ms : Array (String × TypeId)} {w0 : World} (ht : P.underlying Ty = some (.interface ms)) : (Op.equalIn (k + 1) Ty (.iface U v) .nilIface).run P w0 = .ok false w0 := by
  simp only [Op.equalIn, Sem.run_bind, Q8 P Ty _ w0 ht, Result.andThen_ok]
  simp [Sem.run_pure]
theorem Qd0 {Ty U : TypeId} {v : Value} {ms : Array (String × TypeId)} {w0 : World} (ht : P.underlying Ty = some (.interface ms)) : (Op.equal Ty (.iface U v) .nilIface).run P w0 = .ok false w0 := Q9L 9999 ht
/-- e != nil -/
theorem s_inil_f {d : Nat} {Ty : TypeId} {x : Operand} {ms : Array (String × TypeId)} (ht : P.underlying Ty = some (.interface ms)) (hx : ρ.ev x = .nilIface) (h : Q3 P l Q (upd ρ d (.bool false)) w) : Q3 P (⟨none, .bin d .neq Ty x (.const .nilIface)⟩ :: l) Q ρ w :=
  ⟨_, fun w0 => by rw [hx]; simp [Env.ev, eqGuard, binOp, QeJ ht], h⟩
theorem s_inil_t {d : Nat} {Ty U : TypeId} {v : Value} {x : Operand} {ms : Array (String × TypeId)} (ht : P.underlying Ty = some (.interface ms)) (hx : ρ.ev x = .iface U v) (h : Q3 P l Q (upd ρ d (.bool true)) w) : Q3 P (⟨none, .bin d .neq Ty x (.const .nilIface)⟩ :: l) Q ρ w :=
  ⟨_, fun w0 => by rw [hx]; simp [Env.ev, eqGuard, binOp, Qd0 ht], h⟩
/-- Three things to the front. -/
theorem St.pick3 {c : Cx} {L L1 L2 L3 : List Res} {r1 r2 r3 : Res} (h : St c w L) (p1 : Pick L r1 L1) (p2 : Pick L1 r2 L2) (p3 : Pick L2 r3 L3) : St c w (r1 :: r2 :: r3 :: L3) :=
  h.perm (p1.perm.trans (List.Perm.cons _ (p2.perm.trans (List.Perm.cons _ p3.perm))))
end
end Go.Lir
namespace Go.Lir
set_option linter.unusedVariables false
/-- What is left to be shown, apart from what is known. -/
structure Bx (K : Prop) : Prop where
  o : K
section
variable {K G : Prop}
theorem zn (k : K) (h : Bx K → G := by
  intro K9
  refine QcX ?_
  (repeat (first | refine Q3k ?_ | refine Qco ?_))
  exact K9.o) : G := h ⟨k⟩
theorem zcn (k : K) (h : Bx K → G := by
  intro K9
  refine s_cnil ?_
  (repeat (first | refine Q3k ?_ | refine Qco ?_))
  exact K9.o) : G := h ⟨k⟩
theorem zsk (k : K) (h : Bx K → G := by
  intro K9
  refine s_skip ?_
  (repeat (first | refine Q3k ?_ | refine Qco ?_))
  exact K9.o) : G := h ⟨k⟩
theorem zex (k : K) (h : Bx K → G := by
  intro K9
  refine s_exit ?_
  (repeat (first | refine s_exitQ ?_ | refine s_exitT ?_ | refine s_exitB rfl ?_ | refine Q3k ?_ | refine Qco ?_))
  exact K9.o) : G := h ⟨k⟩
theorem zr (k : K) (h : Bx K → G := by
  intro K9
  refine s_ret ?_
  (repeat (first | refine s_retT ?_ | refine s_retB ?_))
  exact K9.o) : G := h ⟨k⟩
theorem zy {A : Prop} (k : G) (h : A := by
  repeat (first
    | exact fun _ h => (List.not_mem_nil h).elim
    | refine List.forall_mem_cons.2 ⟨by first | exact Qje hS rfl (NthP.nth (by repeat constructor)) rfl | exact QhJ hS rfl (NthP.nth (by repeat constructor)) rfl rfl | exact QhK hS (by assumption) rfl rfl | exact QfB hS (by assumption) rfl rfl rfl | exact Qgi hS (by assumption) rfl rfl | exact Qdd hS (by assumption) rfl rfl rfl | exact gq_skip rfl rfl | exact Q9T rfl (Qje hS rfl (NthP.nth (by repeat constructor)) rfl) | exact Q9T rfl (QhJ hS rfl (NthP.nth (by repeat constructor)) rfl rfl) | exact Q9T rfl (QhK hS (by assumption) rfl rfl) | exact Q9T rfl (QfB hS (by assumption) rfl rfl rfl) | exact Q9T rfl (Qgi hS (by assumption) rfl rfl) | exact Q9T rfl (Qdd hS (by assumption) rfl rfl rfl), ?_⟩)) : A ∧ G := ⟨h, k⟩
end
section
variable {P : Program} {l : List GO} {Q : QT} {ρ : Env} {w : World} {c : Cx} {L : List Res} {i : Nat} {T es : Nat} {v : Value} {css : List (List Value)}
theorem zt {K : KT} (h : K ρ w) : Q3 P [] (Qz K Q) ρ w := QcX (Q3k h)
theorem St.ns {L' : List Res} (h : St c w L) (e : L = L' := by (conv => lhs; simp only [List.set_cons_zero, List.set_cons_succ]); first | done | exact rfl) : St c w L' := e ▸ h
theorem zm {d : Nat} {x : Operand} {v : Value} (h : Q3 P l Q (upd ρ d v) w) (hx : ρ.ev x = v := by (conv => lhs; whnf); first | done | exact rfl) : Q3 P (⟨none, .mov d x⟩ :: l) Q ρ w := s_mov hx h
theorem zpt {d : Nat} {c x y : Operand} {v : Value} (h : Q3 P l Q (upd ρ d v) w) (hc : ρ.ev c = .bool true := by exact rfl) (hx : ρ.ev x = v := by (conv => lhs; whnf); first | done | exact rfl) : Q3 P (⟨none, .pick d c x y⟩ :: l) Q ρ w := s_pick_t hc hx h
theorem zpf {d : Nat} {c x y : Operand} {v : Value} (h : Q3 P l Q (upd ρ d v) w) (hc : ρ.ev c = .bool false := by exact rfl) (hx : ρ.ev y = v := by (conv => lhs; whnf); first | done | exact rfl) : Q3 P (⟨none, .pick d c x y⟩ :: l) Q ρ w := s_pick_f hc hx h
theorem zki {d : Nat} {T : TypeId} {x : Operand} {v : Value} (h : Q3 P l Q (upd ρ d (.iface T v)) w) (hx : ρ.ev x = v := by (conv => lhs; whnf); first | done | exact rfl) : Q3 P (⟨none, .mki d T x⟩ :: l) Q ρ w := s_mki hx h
theorem zl {d : Nat} {x : Operand} {b o : Nat} {cs : List Value} {u : Value} (hS : St c w L) (h : Q3 P l Q (upd ρ d u) w) (hx : ρ.ev x = .pointer (some ⟨b, o, none⟩) := by exact rfl) (hi : nth L i = some (blk b T cs) := by exact NthP.nth (by repeat constructor)) (hu : cs[o]? = some u := by exact rfl) : Q3 P (⟨none, .load1 d x⟩ :: l) Q ρ w := s_loadB hS hx hi hu h
theorem zlk {d : Nat} {x : Operand} {b o : Nat} {cs : List Value} {u : Value} (hS : St c w L) (h : Q3 P l Q (upd ρ d u) w) (ha : AtK c b o cs := by assumption) (hx : ρ.ev x = .pointer (some ⟨b, o, none⟩) := by exact rfl) (hu : cs[0]? = some u := by exact rfl) : Q3 P (⟨none, .load1 d x⟩ :: l) Q ρ w := s_loadK hS ha hx hu h
theorem zlj {d : Nat} {x : Operand} {b o j : Nat} {cs : List Value} {u : Value} (hS : St c w L) (h : Q3 P l Q (upd ρ d u) w) (ha : AtK c b o cs := by assumption) (hx : ρ.ev x = .pointer (some ⟨b, o + j, none⟩) := by exact rfl) (hu : cs[j]? = some u := by exact rfl) : Q3 P (⟨none, .load1 d x⟩ :: l) Q ρ w := s_loadKj hS ha hx hu h
theorem zv {d n : Nat} {x : Operand} {b o : Nat} {cs us : List Value} (hS : St c w L) (h : Q3 P l Q (upd ρ d (.agg ⟨us⟩)) w) (hx : ρ.ev x = .pointer (some ⟨b, o, none⟩) := by exact rfl) (hi : nth L i = some (blk b T cs) := by exact NthP.nth (by repeat constructor)) (hu : (cs.drop o).take n = us := by exact rfl) (hl : us.length = n := by exact rfl) : Q3 P (⟨none, .loadn d n x⟩ :: l) Q ρ w := s_loadnB hS hx hi hu hl h
theorem zvk {d n : Nat} {x : Operand} {b o : Nat} {cs : List Value} (hS : St c w L) (h : Q3 P l Q (upd ρ d (.agg ⟨cs⟩)) w) (ha : AtK c b o cs := by assumption) (hx : ρ.ev x = .pointer (some ⟨b, o, none⟩) := by exact rfl) (hl : cs.length = n := by exact rfl) : Q3 P (⟨none, .loadn d n x⟩ :: l) Q ρ w := s_loadnK hS ha hx hl h
theorem zLe {d n : Nat} {x : Operand} (hS : St c w L) (h : Q3 P l Q (upd ρ d (.int .i64 n)) w) (hx : ρ.ev x = v := by (conv => lhs; whnf); first | done | exact rfl) (hi : nth L i = some (sl T es v css) := by exact NthP.nth (by repeat constructor)) (hn : css.length = n := by first | exact List.length_map _ | rfl) : Q3 P (⟨none, .len d x⟩ :: l) Q ρ w := s_lenEn hS hx hi hn h
theorem zLk {d n : Nat} {x : Operand} (h : Q3 P l Q (upd ρ d (.int .i64 n)) w) (hx : ρ.ev x = v := by (conv => lhs; whnf); first | done | exact rfl) (hs : FzS c es v css := by assumption) (hn : css.length = n := by first | exact List.length_map _ | rfl) : Q3 P (⟨none, .len d x⟩ :: l) Q ρ w := Qkc hx hs hn h
theorem zad {d : Nat} {T : TypeId} {x y : Operand} {a b : Int} (h : Q3 P l Q (upd ρ d (.int .i64 (a + b))) w) (hx : ρ.ev x = .int .i64 a := by exact rfl) (hy : ρ.ev y = .int .i64 b := by exact rfl) (h1 : -9223372036854775808 ≤ a + b := by omega) (h2 : a + b ≤ 9223372036854775807 := by omega) : Q3 P (⟨none, .bin d .add T x y⟩ :: l) Q ρ w := s_add hx hy h1 h2 h
theorem zsu {d : Nat} {T : TypeId} {x y : Operand} {a b : Int} (h : Q3 P l Q (upd ρ d (.int .i64 (a - b))) w) (hx : ρ.ev x = .int .i64 a := by exact rfl) (hy : ρ.ev y = .int .i64 b := by exact rfl) (h1 : -9223372036854775808 ≤ a - b := by omega) (h2 : a - b ≤ 9223372036854775807 := by omega) : Q3 P (⟨none, .bin d .sub T x y⟩ :: l) Q ρ w := s_subi hx hy h1 h2 h
theorem zmu {d : Nat} {T : TypeId} {x y : Operand} {a b : Int} (h : Q3 P l Q (upd ρ d (.int .i64 (a * b))) w) (hx : ρ.ev x = .int .i64 a := by exact rfl) (hy : ρ.ev y = .int .i64 b := by exact rfl) (h1 : -9223372036854775808 ≤ a * b := by omega) (h2 : a * b ≤ 9223372036854775807 := by omega) : Q3 P (⟨none, .bin d .mul T x y⟩ :: l) Q ρ w := s_mul hx hy h1 h2 h
theorem Q2G {d : Nat} {T : TypeId} {x y : Operand} {k : IntKind} {a b : Int} (h : Q3 P l Q (upd ρ d (.bool true)) w) (hx : ρ.ev x = .int k a := by exact rfl) (hy : ρ.ev y = .int k b := by exact rfl) (hp : a < b := by omega) : Q3 P (⟨none, .bin d .lss T x y⟩ :: l) Q ρ w := s_lss_t hx hy hp h
theorem Q2H {d : Nat} {T : TypeId} {x y : Operand} {k : IntKind} {a b : Int} (h : Q3 P l Q (upd ρ d (.bool false)) w) (hx : ρ.ev x = .int k a := by exact rfl) (hy : ρ.ev y = .int k b := by exact rfl) (hp : ¬ (a < b) := by omega) : Q3 P (⟨none, .bin d .lss T x y⟩ :: l) Q ρ w := s_lss_f hx hy hp h
theorem Q10 {d : Nat} {T : TypeId} {x y : Operand} {k : IntKind} {a b : Int} (h : Q3 P l Q (upd ρ d (.bool true)) w) (hx : ρ.ev x = .int k a := by exact rfl) (hy : ρ.ev y = .int k b := by exact rfl) (hp : a = b := by omega) : Q3 P (⟨none, .bin d .eql T x y⟩ :: l) Q ρ w := s_eql_t hx hy hp h
theorem Q1p {d : Nat} {T : TypeId} {x y : Operand} {k : IntKind} {a b : Int} (h : Q3 P l Q (upd ρ d (.bool false)) w) (hx : ρ.ev x = .int k a := by exact rfl) (hy : ρ.ev y = .int k b := by exact rfl) (hp : ¬ (a = b) := by omega) : Q3 P (⟨none, .bin d .eql T x y⟩ :: l) Q ρ w := s_eql_f hx hy hp h
theorem Q1F {d : Nat} {T : TypeId} {x y : Operand} {k : IntKind} {a b : Int} (h : Q3 P l Q (upd ρ d (.bool true)) w) (hx : ρ.ev x = .int k a := by exact rfl) (hy : ρ.ev y = .int k b := by exact rfl) (hp : a ≠ b := by omega) : Q3 P (⟨none, .bin d .neq T x y⟩ :: l) Q ρ w := s_neq_t hx hy hp h
theorem Q1G {d : Nat} {T : TypeId} {x y : Operand} {k : IntKind} {a b : Int} (h : Q3 P l Q (upd ρ d (.bool false)) w) (hx : ρ.ev x = .int k a := by exact rfl) (hy : ρ.ev y = .int k b := by exact rfl) (hp : ¬ (a ≠ b) := by omega) : Q3 P (⟨none, .bin d .neq T x y⟩ :: l) Q ρ w := s_neq_f hx hy hp h
theorem QZ {d : Nat} {T : TypeId} {x y : Operand} {k : IntKind} {a b : Int} (h : Q3 P l Q (upd ρ d (.bool true)) w) (hx : ρ.ev x = .int k a := by exact rfl) (hy : ρ.ev y = .int k b := by exact rfl) (hp : b < a := by omega) : Q3 P (⟨none, .bin d .gtr T x y⟩ :: l) Q ρ w := s_gtr_t hx hy hp h
theorem Q1g {d : Nat} {T : TypeId} {x y : Operand} {k : IntKind} {a b : Int} (h : Q3 P l Q (upd ρ d (.bool false)) w) (hx : ρ.ev x = .int k a := by exact rfl) (hy : ρ.ev y = .int k b := by exact rfl) (hp : ¬ (b < a) := by omega) : Q3 P (⟨none, .bin d .gtr T x y⟩ :: l) Q ρ w := s_gtr_f hx hy hp h
theorem Qhe {d : Nat} {T : TypeId} {x y : Operand} {k : IntKind} {a b : Int} (h : Q3 P l Q (upd ρ d (.bool true)) w) (hx : ρ.ev x = .int k a := by exact rfl) (hy : ρ.ev y = .int k b := by exact rfl) (hp : b ≤ a := by omega) : Q3 P (⟨none, .bin d .geq T x y⟩ :: l) Q ρ w := s_geq_t hx hy hp h
theorem Qhf {d : Nat} {T : TypeId} {x y : Operand} {k : IntKind} {a b : Int} (h : Q3 P l Q (upd ρ d (.bool false)) w) (hx : ρ.ev x = .int k a := by exact rfl) (hy : ρ.ev y = .int k b := by exact rfl) (hp : ¬ (b ≤ a) := by omega) : Q3 P (⟨none, .bin d .geq T x y⟩ :: l) Q ρ w := s_geq_f hx hy hp h
theorem zst {x y : Operand} {b o : Nat} {cs : List Value} {u : Value} (hS : St c w L) (h : ∀ w', St c w' (L.set i (blk b T (cs.set o u))) → Q3 P l Q ρ w') (hx : ρ.ev x = .pointer (some ⟨b, o, none⟩) := by exact rfl) (hy : ρ.ev y = u := by (conv => lhs; whnf); first | done | exact rfl) (hi : nth L i = some (blk b T cs) := by exact NthP.nth (by repeat constructor)) (ho : o < cs.length := by simp) (h1 : oneC u = true := by first | rfl | assumption | exact hS.oneC (NthP.nth (by repeat constructor)) | exact SlR.oneC (by assumption)) : Q3 P (⟨none, .store1 x y⟩ :: l) Q ρ w := s_storeB hS hx hy hi ho h1 h
theorem zb {d : Nat} {x : Operand} {cs : List Value} (hS : St c w L) (h : ∀ b w', St c w' (blk b T cs :: L) → Q3 P l Q (upd ρ d (.pointer (some ⟨b, 0, none⟩))) w') (hx : ρ.ev x = v := by (conv => lhs; whnf); first | done | exact rfl) (hc : v.cells = ⟨cs⟩ := by rfl) : Q3 P (⟨none, .box d T x⟩ :: l) Q ρ w := s_boxB hS hx hc h
theorem zsn {n i b T : Nat} {x y : Operand} {cs us : List Value} (hS : St c w L) (h : ∀ w', St c w' (L.set i (blk b T us)) → Q3 P l Q ρ w') (hx : ρ.ev x = .pointer (some ⟨b, 0, none⟩) := by exact rfl) (hy : ρ.ev y = .agg ⟨us⟩ := by exact rfl) (hn : us.length = n := by rfl) (hi : nth L i = some (blk b T cs) := by exact NthP.nth (by repeat constructor)) (hc : cs.length = n := by rfl) (h1 : ∀ u ∈ us, oneC u = true := by first | (simp [oneC]; done) | assumption | exact Rep.one _ (by assumption) | (simp only [List.take_succ_cons, List.take_zero, List.drop_zero, List.mem_cons, List.not_mem_nil, or_false, forall_eq_or_imp, forall_eq]; ((try refine And.intro ?_ ?_) <;> try refine And.intro ?_ ?_) <;> first | rfl | assumption)) : Q3 P (⟨none, .storen n x y⟩ :: l) Q ρ w := Qk8 hS hx hy hn hi hc h1 h
theorem zsm {n : Nat} {x y : Operand} {b o : Nat} {cs us cs' : List Value} (hS : St c w L) (h : ∀ w', St c w' (L.set i (blk b T cs')) → Q3 P l Q ρ w') (hx : ρ.ev x = .pointer (some ⟨b, o, none⟩) := by exact rfl) (hy : ρ.ev y = .agg ⟨us⟩ := by exact rfl) (hn : us.length = n := by rfl) (hi : nth L i = some (blk b T cs) := by exact NthP.nth (by repeat constructor)) (ho : o + n ≤ cs.length := by simp) (h1 : ∀ u ∈ us, oneC u = true := by first | (simp [oneC]; done) | assumption | exact Rep.one _ (by assumption) | (simp only [List.take_succ_cons, List.take_zero, List.drop_zero, List.mem_cons, List.not_mem_nil, or_false, forall_eq_or_imp, forall_eq]; ((try refine And.intro ?_ ?_) <;> try refine And.intro ?_ ?_) <;> first | rfl | assumption)) (hc : cs.take o ++ (us ++ cs.drop (o + n)) = cs' := by (conv => lhs; simp only [List.take_succ_cons, List.take_zero, List.drop_succ_cons, List.drop_zero, List.cons_append, List.nil_append]); first | done | exact rfl) : Q3 P (⟨none, .storen n x y⟩ :: l) Q ρ w := Qhm hS hx hy hn hi ho h1 hc h
theorem zf {t : Nat} {R : Ending → World → Prop} {v : Value} (h : R (.returned v) w) (hv : ρ t = v := by (conv => lhs; whnf); first | done | exact rfl) : retQ P [.tmp t] R .ret ρ w := q_ret1 hv h
theorem zb0 {d : Nat} {z : List Value} (cs : List Value) (h : Q3 P l Q (upd ρ d (.agg ⟨cs⟩)) w) (hf : Q2V z [] = some cs := by rfl) : Q3 P (⟨none, .build d z []⟩ :: l) Q ρ w := s_build0  hf h
theorem zb1 {d : Nat} {z : List Value} {o0 n0 : Nat} {x0 : Operand} {v0 : Value} (cs : List Value) (h : Q3 P l Q (upd ρ d (.agg ⟨cs⟩)) w) (h0 : ρ.ev x0 = v0 := by (conv => lhs; whnf); first | done | exact rfl) (hf : Q2V z [(o0, n0, v0)] = some cs := by rfl) : Q3 P (⟨none, .build d z [(o0, n0, x0)]⟩ :: l) Q ρ w := s_build1 h0 hf h
theorem zB1 {d : Nat} {T : TypeId} {n : Nat} {z : List Value} {o0 n0 : Nat} {x0 : Operand} {v0 : Value} (hS : St c w L) (cs : List Value) (h : ∀ b w', St c w' (blk b T cs :: L) → Q3 P l Q (upd ρ d (.slice (some ⟨b, 0, none⟩) n n)) w') (h0 : ρ.ev x0 = v0 := by (conv => lhs; whnf); first | done | exact rfl) (hf : Q2V z [(o0, n0, v0)] = some cs := by rfl) : Q3 P (⟨none, .buildS d T n z [(o0, n0, x0)]⟩ :: l) Q ρ w := QcZ h0 hf fun b w' hb hf1 _ hk => h b w' (hS.laid hb hf1 hk)
theorem zb2 {d : Nat} {z : List Value} {o0 n0 : Nat} {x0 : Operand} {v0 : Value} {o1 n1 : Nat} {x1 : Operand} {v1 : Value} (cs : List Value) (h : Q3 P l Q (upd ρ d (.agg ⟨cs⟩)) w) (h0 : ρ.ev x0 = v0 := by (conv => lhs; whnf); first | done | exact rfl) (h1 : ρ.ev x1 = v1 := by (conv => lhs; whnf); first | done | exact rfl) (hf : Q2V z [(o0, n0, v0), (o1, n1, v1)] = some cs := by rfl) : Q3 P (⟨none, .build d z [(o0, n0, x0), (o1, n1, x1)]⟩ :: l) Q ρ w := Qj7 h0 h1 hf h
theorem zB3 {d : Nat} {T : TypeId} {n : Nat} {z : List Value} {o0 n0 : Nat} {x0 : Operand} {v0 : Value} {o1 n1 : Nat} {x1 : Operand} {v1 : Value} {o2 n2 : Nat} {x2 : Operand} {v2 : Value} (hS : St c w L) (cs : List Value) (h : ∀ b w', St c w' (blk b T cs :: L) → Q3 P l Q (upd ρ d (.slice (some ⟨b, 0, none⟩) n n)) w') (h0 : ρ.ev x0 = v0 := by (conv => lhs; whnf); first | done | exact rfl) (h1 : ρ.ev x1 = v1 := by (conv => lhs; whnf); first | done | exact rfl) (h2 : ρ.ev x2 = v2 := by (conv => lhs; whnf); first | done | exact rfl) (hf : Q2V z [(o0, n0, v0), (o1, n1, v1), (o2, n2, v2)] = some cs := by rfl) : Q3 P (⟨none, .buildS d T n z [(o0, n0, x0), (o1, n1, x1), (o2, n2, x2)]⟩ :: l) Q ρ w := Qkf h0 h1 h2 hf fun b w' hb hf1 _ hk => h b w' (hS.laid hb hf1 hk)
theorem zB4 {d : Nat} {T : TypeId} {n : Nat} {z : List Value} {o0 n0 : Nat} {x0 : Operand} {v0 : Value} {o1 n1 : Nat} {x1 : Operand} {v1 : Value} {o2 n2 : Nat} {x2 : Operand} {v2 : Value} {o3 n3 : Nat} {x3 : Operand} {v3 : Value} (hS : St c w L) (cs : List Value) (h : ∀ b w', St c w' (blk b T cs :: L) → Q3 P l Q (upd ρ d (.slice (some ⟨b, 0, none⟩) n n)) w') (h0 : ρ.ev x0 = v0 := by (conv => lhs; whnf); first | done | exact rfl) (h1 : ρ.ev x1 = v1 := by (conv => lhs; whnf); first | done | exact rfl) (h2 : ρ.ev x2 = v2 := by (conv => lhs; whnf); first | done | exact rfl) (h3 : ρ.ev x3 = v3 := by (conv => lhs; whnf); first | done | exact rfl) (hf : Q2V z [(o0, n0, v0), (o1, n1, v1), (o2, n2, v2), (o3, n3, v3)] = some cs := by rfl) : Q3 P (⟨none, .buildS d T n z [(o0, n0, x0), (o1, n1, x1), (o2, n2, x2), (o3, n3, x3)]⟩ :: l) Q ρ w := Qke h0 h1 h2 h3 hf fun b w' hb hf1 _ hk => h b w' (hS.laid hb hf1 hk)
theorem zB9 {d : Nat} {T : TypeId} {n : Nat} {z : List Value} {o0 n0 : Nat} {x0 : Operand} {v0 : Value} {o1 n1 : Nat} {x1 : Operand} {v1 : Value} {o2 n2 : Nat} {x2 : Operand} {v2 : Value} {o3 n3 : Nat} {x3 : Operand} {v3 : Value} {o4 n4 : Nat} {x4 : Operand} {v4 : Value} {o5 n5 : Nat} {x5 : Operand} {v5 : Value} {o6 n6 : Nat} {x6 : Operand} {v6 : Value} {o7 n7 : Nat} {x7 : Operand} {v7 : Value} {o8 n8 : Nat} {x8 : Operand} {v8 : Value} (hS : St c w L) (cs : List Value) (h : ∀ b w', St c w' (blk b T cs :: L) → Q3 P l Q (upd ρ d (.slice (some ⟨b, 0, none⟩) n n)) w') (h0 : ρ.ev x0 = v0 := by (conv => lhs; whnf); first | done | exact rfl) (h1 : ρ.ev x1 = v1 := by (conv => lhs; whnf); first | done | exact rfl) (h2 : ρ.ev x2 = v2 := by (conv => lhs; whnf); first | done | exact rfl) (h3 : ρ.ev x3 = v3 := by (conv => lhs; whnf); first | done | exact rfl) (h4 : ρ.ev x4 = v4 := by (conv => lhs; whnf); first | done | exact rfl) (h5 : ρ.ev x5 = v5 := by (conv => lhs; whnf); first | done | exact rfl) (h6 : ρ.ev x6 = v6 := by (conv => lhs; whnf); first | done | exact rfl) (h7 : ρ.ev x7 = v7 := by (conv => lhs; whnf); first | done | exact rfl) (h8 : ρ.ev x8 = v8 := by (conv => lhs; whnf); first | done | exact rfl) (hf : Q2V z [(o0, n0, v0), (o1, n1, v1), (o2, n2, v2), (o3, n3, v3), (o4, n4, v4), (o5, n5, v5), (o6, n6, v6), (o7, n7, v7), (o8, n8, v8)] = some cs := by rfl) : Q3 P (⟨none, .buildS d T n z [(o0, n0, x0), (o1, n1, x1), (o2, n2, x2), (o3, n3, x3), (o4, n4, x4), (o5, n5, x5), (o6, n6, x6), (o7, n7, x7), (o8, n8, x8)]⟩ :: l) Q ρ w := Qkd h0 h1 h2 h3 h4 h5 h6 h7 h8 hf fun b w' hb hf1 _ hk => h b w' (hS.laid hb hf1 hk)
theorem zD {gs : List GO} {es : List (List Nat)} (C : List CI) (h : Q3 P (C.map fun c => gat gs c.1) Q ρ w.drew) (hok : Qdi gs es C = true := by kernel_rfl) (hpl : (C.all fun c => match c.2 with | some (some _) => false | _ => true) = true := by kernel_rfl) : (LC.draw gs es).wp P Q ρ w := s_draw C hok hpl h
theorem zC {gs : List GO} {es : List (List Nat)} (C : List CI) (h : Q1t P gs C Q ρ w.drew) (hok : Qdi gs es C = true := by kernel_rfl) : (LC.draw gs es).wp P Q ρ w := s_canon C hok h
theorem zR0 {d : Nat} {f : FuncId} {S : Value → World → Prop} (c : Rets P f [] w S) (h : ∀ v w', S v w' → Q3 P l Q (upd ρ d v) w') : Q3 P (⟨none, .call (some d) f []⟩ :: l) Q ρ w := s_rets_0  c h
theorem zR1 {d : Nat} {f : FuncId} {x0 : Operand} {u0 : Value} {S : Value → World → Prop} (h0 : ρ.ev x0 = u0 := by (conv => lhs; whnf); first | done | exact rfl) (c : Rets P f [u0] w S) (h : ∀ v w', S v w' → Q3 P l Q (upd ρ d v) w') : Q3 P (⟨none, .call (some d) f [x0]⟩ :: l) Q ρ w := s_rets_1 h0 c h
theorem zE1 {d : Nat} {f : FuncId} {x0 : Operand} {u0 : Value} {S T : Value → World → Prop} (h0 : ρ.ev x0 = u0 := by (conv => lhs; whnf); first | done | exact rfl) (c : Fins P f [u0] w S T) (p : ∀ v w', T v w' → Q (.panic [{ v := v, recovered := false }]) ρ w') (h : ∀ v w', S v w' → Q3 P l Q (upd ρ d v) w') : Q3 P (⟨none, .call (some d) f [x0]⟩ :: l) Q ρ w := s_ends_1 h0 c p h
theorem zR2 {d : Nat} {f : FuncId} {x0 x1 : Operand} {u0 u1 : Value} {S : Value → World → Prop} (h0 : ρ.ev x0 = u0 := by (conv => lhs; whnf); first | done | exact rfl) (h1 : ρ.ev x1 = u1 := by (conv => lhs; whnf); first | done | exact rfl) (c : Rets P f [u0, u1] w S) (h : ∀ v w', S v w' → Q3 P l Q (upd ρ d v) w') : Q3 P (⟨none, .call (some d) f [x0, x1]⟩ :: l) Q ρ w := s_rets_2 h0 h1 c h
theorem zE2 {d : Nat} {f : FuncId} {x0 x1 : Operand} {u0 u1 : Value} {S T : Value → World → Prop} (h0 : ρ.ev x0 = u0 := by (conv => lhs; whnf); first | done | exact rfl) (h1 : ρ.ev x1 = u1 := by (conv => lhs; whnf); first | done | exact rfl) (c : Fins P f [u0, u1] w S T) (p : ∀ v w', T v w' → Q (.panic [{ v := v, recovered := false }]) ρ w') (h : ∀ v w', S v w' → Q3 P l Q (upd ρ d v) w') : Q3 P (⟨none, .call (some d) f [x0, x1]⟩ :: l) Q ρ w := s_ends_2 h0 h1 c p h
theorem zR3 {d : Nat} {f : FuncId} {x0 x1 x2 : Operand} {u0 u1 u2 : Value} {S : Value → World → Prop} (h0 : ρ.ev x0 = u0 := by (conv => lhs; whnf); first | done | exact rfl) (h1 : ρ.ev x1 = u1 := by (conv => lhs; whnf); first | done | exact rfl) (h2 : ρ.ev x2 = u2 := by (conv => lhs; whnf); first | done | exact rfl) (c : Rets P f [u0, u1, u2] w S) (h : ∀ v w', S v w' → Q3 P l Q (upd ρ d v) w') : Q3 P (⟨none, .call (some d) f [x0, x1, x2]⟩ :: l) Q ρ w := s_rets_3 h0 h1 h2 c h
theorem zR4 {d : Nat} {f : FuncId} {x0 x1 x2 x3 : Operand} {u0 u1 u2 u3 : Value} {S : Value → World → Prop} (h0 : ρ.ev x0 = u0 := by (conv => lhs; whnf); first | done | exact rfl) (h1 : ρ.ev x1 = u1 := by (conv => lhs; whnf); first | done | exact rfl) (h2 : ρ.ev x2 = u2 := by (conv => lhs; whnf); first | done | exact rfl) (h3 : ρ.ev x3 = u3 := by (conv => lhs; whnf); first | done | exact rfl) (c : Rets P f [u0, u1, u2, u3] w S) (h : ∀ v w', S v w' → Q3 P l Q (upd ρ d v) w') : Q3 P (⟨none, .call (some d) f [x0, x1, x2, x3]⟩ :: l) Q ρ w := s_rets_4 h0 h1 h2 h3 c h
variable {α : Type} {r : Rep α} {xs : List α}
theorem zL {d : Nat} {x : Operand} (h : Q3 P l Q (upd ρ d (.int .i64 xs.length)) w) (hx : ρ.ev x = v := by (conv => lhs; whnf); first | done | exact rfl) (hK : r.sl c v xs := by assumption) : Q3 P (⟨none, .len d x⟩ :: l) Q ρ w := s_lenL hx hK h
theorem zi {d m : Nat} {x y : Operand} {k : IntKind} (h : ∀ b o cs a, AtK c b o cs → xs[m]? = some a → r.at c cs a → Q3 P l Q (upd ρ d (.pointer (some ⟨b, o, none⟩))) w) (hx : ρ.ev x = v := by (conv => lhs; whnf); first | done | exact rfl) (hy : ρ.ev y = .int k (m : Int) := by exact rfl) (hK : r.sl c v xs := by assumption) (hes : r.es = es := by exact rfl) (hn : m < xs.length := by first | omega | (simp; omega)) : Q3 P (⟨none, .idx d es x y⟩ :: l) Q ρ w := Qiq hx hy hK hes hn h
theorem za {T T' d Ts Ts2 Ty nb i k b : Nat} {z : List Value} {x y : Operand} {ds : List Value} {css : List (List Value)} {a : α} (hel : Q3q P Ts = some (T, es, nb, z)) (hts : ∃ e2, P.underlying Ts2 = some (.slice e2)) (hS : St c w L) (h : ∀ v' w' css', r.ls c css' (xs ++ [a]) → oneC v' = true → St c w' (L.set i (Go.Lir.sl T es v' css')) → Q3 P l Q (upd ρ d v') w') (hx : ρ.ev x = v := by (conv => lhs; whnf); first | done | exact rfl) (hy : ρ.ev y = .slice (some ⟨b, 0, none⟩) 1 1 := by (conv => lhs; whnf); first | done | exact rfl) (hi : nth L i = some (Go.Lir.sl T es v css) := by exact NthP.nth (by repeat constructor)) (hk : nth L k = some (blk b T' ds) := by exact NthP.nth (by repeat constructor)) (hls : r.ls c css xs := by assumption) (ha : r.at c ds a := by first | assumption | exact rfl) (hes : r.es = es := by exact rfl) (hb : (xs.length + 1) * nb ≤ 140737488355328 := by first | omega | (simp only [List.length_take]; omega) | (simp; omega)) : Q3 P (⟨none, .raw ⟨some d, .call ⟨.builtin .append, #[x, y], #[Ts, Ts2]⟩, Ty, "", #[], none⟩⟩ :: l) Q ρ w := s_appR1 hel hts hS hx hy hi hk hls ha hes hb h
def evs (ρ : Env) (ts : List Nat) : List (Nat × Value) := ts.map fun t => (t, ρ t)
theorem QkW (ρ : Env) : evs ρ [] = [] := rfl
theorem QkX {t : Nat} {ts : List Nat} {u : Value} {A : List (Nat × Value)} (h : ρ t = u) (h2 : evs ρ ts = A) : evs ρ (t :: ts) = (t, u) :: A := by subst h h2; rfl
theorem zh {A : List (Nat × Value)} (h : Has ρ A := by repeat' (first | exact trivial | refine And.intro rfl ?_)) : Has ρ A := h
theorem env2 {A B : List (Nat × Value)} (h : Has ρ A) (h2 : Has ρ B) : ∃ ρ', ρ = updl (updl ρ' B) A := ⟨ρ, by rw [Qhj h2, Qhj h]⟩
theorem zo {a : LC} (ts : List Nat) {A : List (Nat × Value)} (I : List (Nat × Value) → Env → World → Prop) (μ : Env → World → Nat) (h0 : I A ρ w) (h : ∀ ρ w, I A ρ w → a.wp P (Qz (fun ρ' w' => I A ρ' w' ∧ μ ρ' w' < μ ρ w) Q) ρ w) (hA : evs ρ ts = A := by (repeat (apply QkX; · ((conv => lhs; whnf); first | done | exact rfl))); exact QkW _) : (LC.loop a).wp P Q ρ w := s_loop (I A) μ h0 h
theorem zM {a b : LC} (ts : List Nat) {A : List (Nat × Value)} (I : List (Nat × Value) → Env → World → Prop) (ha : a.wp P (Qz (I A) Q) ρ w) (hb : ∀ ρ w, I A ρ w → b.wp P Q ρ w) (hA : evs ρ ts = A := by (repeat (apply QkX; · ((conv => lhs; whnf); first | done | exact rfl))); exact QkW _) : (LC.seq a b).wp P Q ρ w := s_mid (I A) ha hb
theorem zoL {a : LC} (hS : St c w L) (ts : List Nat) {A : List (Nat × Value)} (I : List (Nat × Value) → List Res → Env → World → Prop) (μ : Env → World → Nat) (h0 : I A L ρ w) (h : ∀ ρ w, I A L ρ w → a.wp P (Qz (fun ρ' w' => I A L ρ' w' ∧ μ ρ' w' < μ ρ w) Q) ρ w) (hA : evs ρ ts = A := by (repeat (apply QkX; · ((conv => lhs; whnf); first | done | exact rfl))); exact QkW _) : (LC.loop a).wp P Q ρ w := s_loop (I A L) μ h0 h
theorem zML {a b : LC} (hS : St c w L) (ts : List Nat) {A : List (Nat × Value)} (I : List (Nat × Value) → List Res → Env → World → Prop) (ha : a.wp P (Qz (I A L) Q) ρ w) (hb : ∀ ρ w, I A L ρ w → b.wp P Q ρ w) (hA : evs ρ ts = A := by (repeat (apply QkX; · ((conv => lhs; whnf); first | done | exact rfl))); exact QkW _) : (LC.seq a b).wp P Q ρ w := s_mid (I A L) ha hb
theorem zKL {l : List GO} (hS : St c w L) (n : Nat) (ts : List Nat) {A : List (Nat × Value)} (I : List (Nat × Value) → List Res → Env → World → Prop) (ha : Q3 P (l.take n) (Qz (I A L) Q) ρ w) (hb : ∀ ρ w, I A L ρ w → Q3 P (l.drop n) Q ρ w) (hA : evs ρ ts = A := by (repeat (apply QkX; · ((conv => lhs; whnf); first | done | exact rfl))); exact QkW _) : Q3 P l Q ρ w := s_cut n (I A L) ha hb
theorem St.sp {L' : List Res} (h : St c w L) (e : SubP L' L := by (repeat constructor); first | done | fail) : St c w L' := h.subP e
theorem fd {r' : Res} (h : NthP L i r' := by repeat constructor) : nth L i = some r' := h.nth
theorem vw {a b : Value} (h : a = b := by (conv => lhs; whnf); first | done | exact rfl) : a = b := h
theorem St.p3 {L1 L2 L3 : List Res} {r1 r2 r3 : Res} (h : St c w L) (p1 : Pick L r1 L1 := by repeat constructor) (p2 : Pick L1 r2 L2 := by repeat constructor) (p3 : Pick L2 r3 L3 := by repeat constructor) : St c w (r1 :: r2 :: r3 :: L3) := h.pick3 p1 p2 p3
end
end Go.Lir
namespace Go.Lir
@[reducible] def qm (d x : Nat) : GO := ⟨none, .mov d (.tmp x)⟩
@[reducible] def qk (d : Nat) (v : Value) : GO := ⟨none, .mov d (.const v)⟩
@[reducible] def qf (d x k : Nat) : GO := ⟨none, .fld d (.tmp x) k⟩
@[reducible] def ql (d x : Nat) : GO := ⟨none, .load1 d (.tmp x)⟩
@[reducible] def qV (d n x : Nat) : GO := ⟨none, .loadn d n (.tmp x)⟩
@[reducible] def qn (d x : Nat) : GO := ⟨none, .nilc d (.tmp x)⟩
@[reducible] def qL (d x : Nat) : GO := ⟨none, .len d (.tmp x)⟩
@[reducible] def qs (x y : Nat) : GO := ⟨none, .store1 (.tmp x) (.tmp y)⟩
@[reducible] def qw (n x y : Nat) : GO := ⟨none, .storen n (.tmp x) (.tmp y)⟩
@[reducible] def qi (d es x y : Nat) : GO := ⟨none, .idx d es (.tmp x) (.tmp y)⟩
@[reducible] def qx (d x k : Nat) : GO := ⟨none, .ext d (.tmp x) k⟩
@[reducible] def qb (d T x : Nat) : GO := ⟨none, .box d T (.tmp x)⟩
@[reducible] def qt (d : Nat) (o : BinOp) (T x y : Nat) : GO := ⟨none, .bin d o T (.tmp x) (.tmp y)⟩
@[reducible] def qj (d : Nat) (o : BinOp) (T x : Nat) (n : Int) : GO := ⟨none, .bin d o T (.tmp x) (.const (.int .i64 n))⟩
@[reducible] def qg (s : Nat) (b : Bool) (o : GO) : GO := ⟨some (s, b), o.2⟩
@[reducible] def vi (n : Int) : Value := .int .i64 n
@[reducible] def vn : Value := .slice none 0 0
end Go.Lir
namespace Go.Proofs.Ytanlkfeogoganaa
open Go.Lir
set_option maxRecDepth 100000

/- 5 -/
def Qcj : List GO := [qb 2 24 0, qk 4 (.bool false)]
def Qci : List GO := [⟨none, .call (some 13) 30 []⟩, ⟨none, .un 14 .not (.tmp 13)⟩]
def Qch : List GO := [qk 4 (.bool false)]
def Qcg : List GO := [qV 15 1 2, ⟨none, .call (some 16) 11 [(.tmp 15)]⟩, qm 17 16, qg 17 false (qm 18 1), qg 17 false (qL 19 18), qg 17 false (qj 20 .gtr 3 19 25000), ⟨none, .pick 21 (.tmp 17) (.const (.bool true)) (.tmp 20)⟩]
def Qcf : List GO := [qk 4 (.bool true)]
def Qce : List GO := [qV 23 1 2, ⟨none, .call (some 24) 31 [(.tmp 23)]⟩, qm 22 24, qx 25 22 0, qx 26 22 1, ⟨none, .alloc 6 47 [(vi 0), (vi 0)]⟩, qm 5 25, qw 2 6 26]
def Qcd : List GO := [qf 27 6 0, ql 28 27, qj 29 .eql 3 28 0]
def Qcc : List GO := [qm 31 5, ⟨none, .call (some 32) 32 [(.tmp 31)]⟩, qm 30 32, qx 33 30 0, qx 34 30 1, ⟨none, .alloc 7 24 [vn]⟩, ⟨none, .alloc 8 47 [(vi 0), (vi 0)]⟩, qw 1 7 33, qw 2 8 34]
def Qcb : List GO := [qf 35 8 0, ql 36 35, qj 37 .neq 3 36 0, qm 38 37, qg 38 false (qV 39 1 7), qg 38 false (qV 40 1 2), ⟨some (38, false), .call (some 41) 27 [(.tmp 39), (.tmp 40)]⟩, ⟨some (38, false), .un 42 .not (.tmp 41)⟩, ⟨none, .pick 43 (.tmp 38) (.const (.bool true)) (.tmp 42)⟩]
def Qca : List GO := [qk 4 (.bool false)]
def QaW : List GO := [qm 45 1, ⟨none, .call (some 46) 32 [(.tmp 45)]⟩, qm 44 46, qx 47 44 0, qx 48 44 1, ⟨none, .alloc 9 24 [vn]⟩, ⟨none, .alloc 10 47 [(vi 0), (vi 0)]⟩, qw 1 9 47, qw 2 10 48]
def QaV : List GO := [qf 49 10 0, ql 50 49, qj 51 .neq 3 50 0]
def QaU : List GO := [qk 4 (.bool true)]
def QaT : List GO := [qV 53 1 9, ⟨none, .call (some 54) 31 [(.tmp 53)]⟩, qm 52 54, qx 55 52 0, qx 56 52 1, ⟨none, .alloc 12 47 [(vi 0), (vi 0)]⟩, qm 11 55, qw 2 12 56]
def QaS : List GO := [qf 57 12 0, ql 58 57, qj 59 .eql 3 58 0, qm 60 59, qg 60 true (qm 61 11), qg 60 true (qm 62 1), ⟨some (60, true), .call (some 63) 33 [(.tmp 61), (.tmp 62)]⟩, ⟨none, .pick 64 (.tmp 60) (.tmp 63) (.const (.bool false))⟩, qm 4 64]
def Law_CodecBack_lc : LC := (.seq (.ops Qcj) (.seq (.seq (.ops Qci) (.cond (.tmp 14) (.seq (.ops Qch) .ret) .skip)) (.seq (.seq (.ops Qcg) (.cond (.tmp 21) (.seq (.ops Qcf) .ret) .skip)) (.seq (.ops Qce) (.seq (.seq (.ops Qcd) (.cond (.tmp 29) (.seq (.ops Qcc) (.seq (.ops Qcb) (.cond (.tmp 43) (.seq (.ops Qca) .ret) .skip))) .skip)) (.seq (.ops QaW) (.seq (.seq (.ops QaV) (.cond (.tmp 51) (.seq (.ops QaU) .ret) .skip)) (.seq (.ops QaT) (.seq (.ops QaS) .ret)))))))))
@[reducible] def QB : FuncId := 5
theorem QaX : lowF Try.prog Try.f5 = some Law_CodecBack_lc := by kernel_rfl
theorem Qck {a0 a1 : Value} {w : World} {R : Ending → World → Prop} (h : Law_CodecBack_lc.wp Try.prog (retQ Try.prog [.tmp 4] R) (Qc [a0, a1]) w) : Calls Try.prog QB ⟨[a0, a1]⟩ w R :=
  Q4 Try.func5 QaX (by kernel_rfl) (by kernel_rfl) h

/- 6 -/
/- 30 -/
def QaQ : List GO := [qk 0 (.bool false)]
def QaP : List GO := [⟨none, .call (some 6) 45 []⟩, ⟨none, .call (some 7) 31 [(.tmp 6)]⟩, qm 5 7, qx 8 5 0, qx 9 5 1, ⟨none, .alloc 2 47 [(vi 0), (vi 0)]⟩, qm 1 8, qw 2 2 9]
def QaO : List GO := [⟨none, .call (some 11) 32 [(.const vn)]⟩, qm 10 11, qx 12 10 0, qx 13 10 1, ⟨none, .alloc 3 24 [vn]⟩, ⟨none, .alloc 4 47 [(vi 0), (vi 0)]⟩, qw 1 3 12, qw 2 4 13]
def QaN : List GO := [qf 14 2 0, ql 15 14, qj 16 .eql 3 15 0, qm 17 16, qg 17 true (qm 18 1), qg 17 true (qL 19 18), qg 17 true (qj 20 .eql 3 19 17), ⟨none, .pick 21 (.tmp 17) (.tmp 20) (.const (.bool false))⟩, qm 22 21, qg 22 true (qm 23 1), ⟨some (22, true), .idx 24 1 (.tmp 23) (.const (vi 3))⟩, qg 22 true (ql 25 24), ⟨some (22, true), .bin 26 .eql 5 (.tmp 25) (.const (.int .u8 2))⟩, ⟨none, .pick 27 (.tmp 22) (.tmp 26) (.const (.bool false))⟩, qm 28 27, qg 28 true (qf 29 4 0), qg 28 true (ql 30 29), qg 28 true (qj 31 .eql 3 30 5), ⟨none, .pick 32 (.tmp 28) (.tmp 31) (.const (.bool false))⟩, qm 33 32, ⟨some (33, true), .buildS 34 5 9 [(.int .u8 0), (.int .u8 0), (.int .u8 0), (.int .u8 0), (.int .u8 0), (.int .u8 0), (.int .u8 0), (.int .u8 0), (.int .u8 0)] [(0, (1, (.const (.int .u8 49)))), (1, (1, (.const (.int .u8 50)))), (2, (1, (.const (.int .u8 51)))), (3, (1, (.const (.int .u8 52)))), (4, (1, (.const (.int .u8 53)))), (5, (1, (.const (.int .u8 54)))), (6, (1, (.const (.int .u8 55)))), (7, (1, (.const (.int .u8 56)))), (8, (1, (.const (.int .u8 57))))]⟩, ⟨some (33, true), .raw ⟨(some 35), (.convert 50 50 (.tmp 34)), 50, "", #[], none⟩⟩, ⟨some (33, true), .call (some 36) 72 [(.tmp 35)]⟩, ⟨some (33, true), .bin 37 .eql 108 (.tmp 36) (.const (.int .u32 3421780262))⟩, ⟨none, .pick 38 (.tmp 33) (.tmp 37) (.const (.bool false))⟩, qm 0 38]
def Law_codecBegun_lc : LC := (.seq (.ops QaQ) (.seq (.ops QaP) (.seq (.ops QaO) (.seq (.ops QaN) .ret))))
@[reducible] def Q7x : FuncId := 30
theorem Q9I : lowF Try.prog Try.f30 = some Law_codecBegun_lc := by kernel_rfl
theorem QaR {w : World} {R : Ending → World → Prop} (h : Law_codecBegun_lc.wp Try.prog (retQ Try.prog [.tmp 0] R) (Qc []) w) : Calls Try.prog Q7x ⟨[]⟩ w R :=
  Q4 Try.func30 Q9I (by kernel_rfl) (by kernel_rfl) h

/- 31 -/
def Qdy : List GO := [qb 1 24 0, qk 2 vn, ⟨none, .alloc 3 47 [(vi 0), (vi 0)]⟩]
def Qdx : List GO := [qV 13 1 1, ⟨none, .call (some 14) 25 [(.tmp 13)]⟩, ⟨none, .alloc 4 47 [(vi 0), (vi 0)]⟩, qw 2 4 14]
def Qdw : List GO := [qf 15 4 0, ql 16 15, qj 17 .neq 3 16 0]
def Qdv : List GO := [qV 18 2 4, qk 2 vn, qw 2 3 18]
def QdA : List (List Nat) := [[],[],[0,1,0,1]]
def Qdu : List GO := [⟨none, .buildS 19 5 3 [(.int .u8 0), (.int .u8 0), (.int .u8 0)] [(0, (1, (.const (.int .u8 67)))), (1, (1, (.const (.int .u8 72)))), (2, (1, (.const (.int .u8 1))))]⟩, ⟨none, .raw ⟨(some 20), (.convert 50 50 (.tmp 19)), 50, "", #[], none⟩⟩, ⟨none, .build 21 [vn] [(0, (1, (.tmp 20)))]⟩, qb 22 112 21, qm 5 22]
def Qdt : List GO := [qm 23 5, qf 24 1 0, ql 25 24, qL 26 25, ⟨none, .buildS 27 3 1 [(vi 0)] [(0, (1, (.tmp 26)))]⟩, ⟨none, .call (some 28) 73 [(.tmp 23), (.tmp 27)]⟩]
def Qds : List GO := [qf 29 1 0, ql 30 29, qL 31 30, qk 32 (vi 0)]
def Qdr : List GO := [qt 33 .lss 3 32 31]
def Qdq : List GO := [qi 34 4 30 32, qV 35 4 34, ⟨none, .alloc 7 31 [(vi 0), vn, vn, vn]⟩, qw 4 7 35]
def Qdp : List GO := [qm 36 5, qf 37 7 0, ql 38 37, ⟨none, .buildS 39 3 1 [(vi 0)] [(0, (1, (.tmp 38)))]⟩, ⟨none, .call (some 40) 73 [(.tmp 36), (.tmp 39)]⟩]
def Qbu : List GO := [qm 41 5, qf 42 7 1, ql 43 42, ⟨none, .call (some 44) 74 [(.tmp 41), (.tmp 43)]⟩]
def Qbt : List GO := [qm 45 5, qf 46 7 2, ql 47 46, ⟨none, .call (some 48) 74 [(.tmp 45), (.tmp 47)]⟩]
def Qbs : List GO := [qm 49 5, qf 50 7 3, ql 51 50, qL 52 51, ⟨none, .buildS 53 3 1 [(vi 0)] [(0, (1, (.tmp 52)))]⟩, ⟨none, .call (some 54) 73 [(.tmp 49), (.tmp 53)]⟩]
def Qbr : List GO := [qf 55 7 3, ql 56 55, qL 57 56, qk 58 (vi 0)]
def Qbq : List GO := [qt 59 .lss 3 58 57]
def Qbp : List GO := [qi 60 12 56 58, qV 61 12 60, ⟨none, .alloc 9 77 [(vi 0), vn, vn, (vi 0), (vi 0), (vi 0), vn, vn, (vi 0), vn, vn, vn]⟩, qw 12 9 61]
def Qbo : List GO := [qm 62 5, qf 63 9 0, ql 64 63, ⟨none, .buildS 65 3 1 [(vi 0)] [(0, (1, (.tmp 64)))]⟩, ⟨none, .call (some 66) 73 [(.tmp 62), (.tmp 65)]⟩]
def Qbn : List GO := [qm 67 5, qf 68 9 1, ql 69 68, ⟨none, .call (some 70) 74 [(.tmp 67), (.tmp 69)]⟩]
def Qbm : List GO := [qm 71 5, qf 72 9 2, ql 73 72, qL 74 73, ⟨none, .buildS 75 3 1 [(vi 0)] [(0, (1, (.tmp 74)))]⟩, ⟨none, .call (some 76) 73 [(.tmp 71), (.tmp 75)]⟩]
def Qbl : List GO := [qf 77 9 2, ql 78 77, qL 79 78, qk 80 (vi 0)]
def Qbk : List GO := [qt 81 .lss 3 80 79]
def Qbj : List GO := [qi 82 8 78 80, qV 83 8 82, ⟨none, .alloc 11 27 [(vi 0), (vi 0), (vi 0), (vi 0), (vi 0), (vi 0), vn, vn]⟩, qw 8 11 83]
def Qbi : List GO := [qm 84 5, qV 85 8 11, ⟨none, .call (some 86) 75 [(.tmp 84), (.tmp 85)]⟩]
def Qbh : List GO := [qj 87 .add 3 80 1, qm 80 87]
def Q4G : LC := (.seq (.ops Qbk) (.seq (.cond (.tmp 81) .skip (.exit 4)) (.seq (.block 5 (.seq (.ops Qbj) (.ops Qbi))) (.ops Qbh))))
def Qbg : List GO := [qm 88 5, qf 89 9 3, qV 90 9 89, ⟨none, .call (some 91) 76 [(.tmp 88), (.tmp 90)]⟩]
def Qbf : List GO := [qj 92 .add 3 58 1, qm 58 92]
def Q4H : LC := (.seq (.ops Qbq) (.seq (.cond (.tmp 59) .skip (.exit 2)) (.seq (.block 3 (.seq (.ops Qbp) (.seq (.ops Qbo) (.seq (.ops Qbn) (.seq (.ops Qbm) (.seq (.seq (.ops Qbl) (.block 4 (.loop Q4G))) (.ops Qbg))))))) (.ops Qbf))))
def Qbe : List GO := [qj 93 .add 3 32 1, qm 32 93]
def Q6i : LC := (.seq (.ops Qdr) (.seq (.cond (.tmp 33) .skip (.exit 0)) (.seq (.block 1 (.seq (.ops Qdq) (.seq (.ops Qdp) (.seq (.ops Qbu) (.seq (.ops Qbt) (.seq (.ops Qbs) (.seq (.ops Qbr) (.block 2 (.loop Q4H))))))))) (.ops Qbe))))
def Qbd : List GO := [qm 94 5, qn 95 94, qf 96 95 0, ql 97 96, qL 98 97, qj 99 .add 3 98 4, qj 100 .gtr 3 99 20000]
def Qbc : List GO := [⟨none, .build 101 [(vi 0), (vi 0)] [(0, (1, (.const (vi 2)))), (1, (1, (.const (vi (-1)))))]⟩, qk 2 vn, qw 2 3 101]
def Qbb : List GO := [qm 102 5, qn 103 102, qf 104 103 0, ql 105 104, ⟨none, .call (some 106) 72 [(.tmp 105)]⟩, qm 12 106]
def Qba : List GO := [qm 107 5, qn 108 107, qf 109 108 0, ql 110 109, qm 111 12, ⟨none, .conv 112 .u8 (.tmp 111)⟩, qm 113 12, ⟨none, .bin 114 .shr 108 (.tmp 113) (.const (.int .u64 8))⟩, ⟨none, .conv 115 .u8 (.tmp 114)⟩, qm 116 12, ⟨none, .bin 117 .shr 108 (.tmp 116) (.const (.int .u64 16))⟩, ⟨none, .conv 118 .u8 (.tmp 117)⟩, qm 119 12, ⟨none, .bin 120 .shr 108 (.tmp 119) (.const (.int .u64 24))⟩, ⟨none, .conv 121 .u8 (.tmp 120)⟩, ⟨none, .buildS 122 5 4 [(.int .u8 0), (.int .u8 0), (.int .u8 0), (.int .u8 0)] [(0, (1, (.tmp 112))), (1, (1, (.tmp 115))), (2, (1, (.tmp 118))), (3, (1, (.tmp 121)))]⟩, ⟨none, .raw ⟨(some 123), (.call ⟨(.builtin .append), #[(.tmp 110), (.tmp 122)], #[50, 50]⟩), 50, "", #[], none⟩⟩, ⟨none, .build 124 [(vi 0), (vi 0)] []⟩, qm 2 123, qw 2 3 124]
def codec_Encode_lc : LC := (.seq (.ops Qdy) (.seq (.seq (.ops Qdx) (.seq (.ops Qdw) (.cond (.tmp 17) (.seq (.draw Qdv QdA) .ret) .skip))) (.seq (.ops Qdu) (.seq (.ops Qdt) (.seq (.seq (.ops Qds) (.block 0 (.loop Q6i))) (.seq (.seq (.ops Qbd) (.cond (.tmp 100) (.seq (.ops Qbc) .ret) .skip)) (.seq (.ops Qbb) (.seq (.ops Qba) .ret))))))))
@[reducible] def Q1u : FuncId := 31
theorem Qbv : lowF Try.prog Try.f31 = some codec_Encode_lc := by kernel_rfl
theorem Qdz {a0 : Value} {w : World} {R : Ending → World → Prop} (h : codec_Encode_lc.wp Try.prog (retQ Try.prog [.tmp 2, .cell 3 47] R) (Qc [a0]) w) : Calls Try.prog Q1u ⟨[a0]⟩ w R :=
  Q4 Try.func31 Qbv (by kernel_rfl) (by kernel_rfl) h

/- 32 -/
def QdK : List GO := [⟨none, .alloc 2 24 [vn]⟩, ⟨none, .alloc 3 47 [(vi 0), (vi 0)]⟩]
def QdJ : List GO := [⟨none, .mkfn 8 77 [(.tmp 2), (.tmp 3)]⟩]
def QdI : List GO := []
def QdH : List GO := [qm 9 0, qL 10 9, qj 11 .sub 3 10 4, qm 4 11]
def QdG : List GO := [qm 12 4, qj 13 .lss 3 12 3]
def QdF : List GO := [qV 14 1 2, qm 15 0, qL 16 15, ⟨none, .build 17 [(vi 0), (vi 0)] [(0, (1, (.const (vi 5)))), (1, (1, (.tmp 16)))]⟩, qw 1 2 14, qw 2 3 17]
def QdE : List GO := [qm 18 0, qL 19 18, qj 20 .gtr 3 19 20000]
def QdD : List GO := [qV 21 1 2, ⟨none, .build 22 [(vi 0), (vi 0)] [(0, (1, (.const (vi 2)))), (1, (1, (.const (vi 20000))))]⟩, qw 1 2 21, qw 2 3 22]
def QdC : List GO := [qm 23 0, ⟨none, .sub 24 1 (.tmp 23) none (some (.const (vi 3))) none⟩, ⟨none, .raw ⟨(some 25), (.convert 50 9 (.tmp 24)), 9, "", #[], none⟩⟩, ⟨none, .bin 26 .neq 9 (.tmp 25) (.const (.string ⟨#[67, 72, 1]⟩))⟩]
def QdB : List GO := [qV 27 1 2, ⟨none, .build 28 [(vi 0), (vi 0)] [(0, (1, (.const (vi 4)))), (1, (1, (.const (vi 0))))]⟩, qw 1 2 27, qw 2 3 28]
def QbG : List GO := [qm 29 0, qm 30 4, qi 31 1 29 30, ql 32 31, ⟨none, .conv 33 .u32 (.tmp 32)⟩, qm 34 0, qm 35 4, qj 36 .add 3 35 1, qi 37 1 34 36, ql 38 37, ⟨none, .conv 39 .u32 (.tmp 38)⟩, ⟨none, .bin 40 .shl 108 (.tmp 39) (.const (.int .u64 8))⟩, qt 41 .or 108 33 40, qm 42 0, qm 43 4, qj 44 .add 3 43 2, qi 45 1 42 44, ql 46 45, ⟨none, .conv 47 .u32 (.tmp 46)⟩, ⟨none, .bin 48 .shl 108 (.tmp 47) (.const (.int .u64 16))⟩, qt 49 .or 108 41 48, qm 50 0, qm 51 4, qj 52 .add 3 51 3, qi 53 1 50 52, ql 54 53, ⟨none, .conv 55 .u32 (.tmp 54)⟩, ⟨none, .bin 56 .shl 108 (.tmp 55) (.const (.int .u64 24))⟩, qt 57 .or 108 49 56, qm 5 57]
def QbJ : List (List Nat) := [[],[],[0,1],[2],[3],[],[],[6],[5,7],[8],[9],[10],[4,11],[],[],[14],[13,15],[16],[17],[18],[12,19],[],[],[22],[21,23],[24],[25],[26],[20,27],[28,0,1,2,3,4,5,6,7,8,9,10,11,12,13,14,15,16,17,18,19,20,21,22,23,24,25,26,27,28]]
def QbF : List GO := [qm 58 0, qm 59 4, ⟨none, .sub 60 1 (.tmp 58) none (some (.tmp 59)) none⟩, ⟨none, .call (some 61) 72 [(.tmp 60)]⟩, qm 62 5, qt 63 .neq 108 61 62]
def QbE : List GO := [qV 64 1 2, qm 65 4, ⟨none, .build 66 [(vi 0), (vi 0)] [(0, (1, (.const (vi 16)))), (1, (1, (.tmp 65)))]⟩, qw 1 2 64, qw 2 3 66]
def QbD : List GO := [qm 67 0, qm 68 4, ⟨none, .sub 69 1 (.tmp 67) none (some (.tmp 68)) none⟩, ⟨none, .build 70 [vn, (vi 0)] [(0, (1, (.tmp 69))), (1, (1, (.const (vi 3))))]⟩, qb 71 120 70, qm 6 71]
def QbC : List GO := [qm 72 6, qm 73 6, ⟨none, .raw ⟨(some 74), (.makeFunc (.func 79) #[(.tmp 73)] #[]), 122, "", #[], none⟩⟩, ⟨none, .call (some 75) 78 [(.tmp 72), (.tmp 74)]⟩, qf 76 2 0, qs 76 75]
def QbB : List GO := [qm 77 6, qn 78 77, qf 79 78 1, ql 80 79, qm 81 4, qt 82 .lss 3 80 81]
def QbA : List GO := [⟨none, .build 83 [vn] []⟩, qm 84 6, qn 85 84, qf 86 85 1, ql 87 86, ⟨none, .build 88 [(vi 0), (vi 0)] [(0, (1, (.const (vi 4)))), (1, (1, (.tmp 87)))]⟩, qw 1 2 83, qw 2 3 88]
def QbI : List (List Nat) := [[],[],[1],[2],[3],[4],[0,0],[5,6,0,1,2,3,4,5,6]]
def Qbz : List GO := [qV 89 1 2, ⟨none, .call (some 90) 25 [(.tmp 89)]⟩, ⟨none, .alloc 7 47 [(vi 0), (vi 0)]⟩, qw 2 7 90]
def Qby : List GO := [qf 91 7 0, ql 92 91, qj 93 .neq 3 92 0]
def Qbx : List GO := [⟨none, .build 94 [vn] []⟩, qm 95 4, ⟨none, .build 96 [(vi 0), (vi 0)] [(0, (1, (.const (vi 3)))), (1, (1, (.tmp 95)))]⟩, qw 1 2 94, qw 2 3 96]
def Qbw : List GO := [qV 97 1 2, ⟨none, .build 98 [(vi 0), (vi 0)] []⟩, qw 1 2 97, qw 2 3 98]
def codec_Decode_ld : LD := (.seq (.pl (.ops QdK)) (.seq (.sp QdJ (.dfr none (.tmp 8)) QdI) (.pl (.seq (.ops QdH) (.seq (.seq (.ops QdG) (.cond (.tmp 13) (.seq (.ops QdF) .ret) .skip)) (.seq (.seq (.ops QdE) (.cond (.tmp 20) (.seq (.ops QdD) .ret) .skip)) (.seq (.seq (.ops QdC) (.cond (.tmp 26) (.seq (.ops QdB) .ret) .skip)) (.seq (.draw QbG QbJ) (.seq (.seq (.ops QbF) (.cond (.tmp 63) (.seq (.ops QbE) .ret) .skip)) (.seq (.ops QbD) (.seq (.ops QbC) (.seq (.seq (.ops QbB) (.cond (.tmp 82) (.seq (.draw QbA QbI) .ret) .skip)) (.seq (.seq (.ops Qbz) (.seq (.ops Qby) (.cond (.tmp 93) (.seq (.ops Qbx) .ret) .skip))) (.seq (.ops Qbw) .ret))))))))))))))
@[reducible] def Q1j : FuncId := 32
theorem QbH : QjG Try.prog Try.f32 = some codec_Decode_ld := by kernel_rfl
theorem QdL {a0 : Value} {w : World} {R : Ending → World → Prop} (h : codec_Decode_ld.wpD Try.prog (retD Try.prog [.cell 2 24, .cell 3 47] R) [] (Qc [a0]) w) : Calls Try.prog Q1j ⟨[a0]⟩ w R :=
  QgO Try.func32 QbH (by kernel_rfl) (by kernel_rfl) h
/- 33 -/
def Qfp : List GO := [qk 4 (.bool false)]
def Qfo : List GO := [qm 5 0, ⟨none, .raw ⟨(some 6), (.convert 50 9 (.tmp 5)), 9, "", #[], none⟩⟩, qm 7 1, ⟨none, .raw ⟨(some 8), (.convert 50 9 (.tmp 7)), 9, "", #[], none⟩⟩, qt 9 .eql 9 6 8, qm 4 9]
def R_SameBytes_lc : LC := (.seq (.ops Qfp) (.seq (.ops Qfo) .ret))
@[reducible] def Qel : FuncId := 33
theorem Qek : lowF Try.prog Try.f33 = some R_SameBytes_lc := by kernel_rfl
theorem Qfq {a0 a1 : Value} {w : World} {R : Ending → World → Prop} (h : R_SameBytes_lc.wp Try.prog (retQ Try.prog [.tmp 4] R) (Qc [a0, a1]) w) : Calls Try.prog Qel ⟨[a0, a1]⟩ w R :=
  Q4 Try.func33 Qek (by kernel_rfl) (by kernel_rfl) h

/- 72 -/
def QhZ : List GO := [qk 2 (.int .u32 0)]
def QhY : List GO := [qk 3 (.int .u32 4294967295)]
def QhX : List GO := [qm 6 0, qL 7 6, qk 8 (vi 0)]
def QhW : List GO := [qt 9 .lss 3 8 7]
def QhV : List GO := [qi 10 1 6 8, ql 11 10, qm 5 11]
def QhU : List GO := [qm 12 3, qm 13 5, ⟨none, .conv 14 .u32 (.tmp 13)⟩, qt 15 .xor 108 12 14, qm 3 15]
def QhT : List GO := [qk 16 (vi 0)]
def QhS : List GO := [qj 17 .lss 3 16 8]
def QhR : List GO := [qm 18 3, ⟨none, .bin 19 .shr 108 (.tmp 18) (.const (.int .u64 1))⟩, qm 20 3, ⟨none, .bin 21 .and 108 (.tmp 20) (.const (.int .u32 1))⟩, ⟨none, .un 22 .neg (.tmp 21)⟩, ⟨none, .bin 23 .and 108 (.const (.int .u32 3988292384)) (.tmp 22)⟩, qt 24 .xor 108 19 23, qm 3 24]
def QhQ : List GO := [qj 25 .add 3 16 1, qm 16 25]
def Qb5 : LC := (.seq (.ops QhS) (.seq (.cond (.tmp 17) .skip (.exit 2)) (.seq (.block 3 (.ops QhR)) (.ops QhQ))))
def Qgu : List GO := [qj 26 .add 3 8 1, qm 8 26]
def Qb6 : LC := (.seq (.ops QhW) (.seq (.cond (.tmp 9) .skip (.exit 0)) (.seq (.block 1 (.seq (.ops QhV) (.seq (.ops QhU) (.seq (.ops QhT) (.block 2 (.loop Qb5)))))) (.ops Qgu))))
def Qgt : List GO := [qm 27 3, ⟨none, .un 28 .xor (.tmp 27)⟩, qm 2 28]
def codec_Sum_lc : LC := (.seq (.ops QhZ) (.seq (.ops QhY) (.seq (.seq (.ops QhX) (.block 0 (.loop Qb6))) (.seq (.ops Qgt) .ret))))
@[reducible] def Qi1 : FuncId := 72
theorem Qgv : lowF Try.prog Try.f72 = some codec_Sum_lc := by kernel_rfl
theorem Qi0 {a0 : Value} {w : World} {R : Ending → World → Prop} (h : codec_Sum_lc.wp Try.prog (retQ Try.prog [.tmp 2] R) (Qc [a0]) w) : Calls Try.prog Qi1 ⟨[a0]⟩ w R :=
  Q4 Try.func72 Qgv (by kernel_rfl) (by kernel_rfl) h

/- 73 -/
def Q7K : List GO := [qm 6 1, qL 7 6, qk 8 (vi 0)]
def Q7J : List GO := [qt 9 .lss 3 8 7]
def Q7I : List GO := [qi 10 1 6 8, ql 11 10, qm 5 11]
def Q7H : List GO := [qm 12 0, qm 13 5, ⟨none, .buildS 14 2 1 [(vi 0)] [(0, (1, (.tmp 13)))]⟩, ⟨none, .call (some 15) 104 [(.tmp 12), (.tmp 14)]⟩]
def Q7G : List GO := [qj 16 .add 3 8 1, qm 8 16]
def Q3a : LC := (.seq (.ops Q7J) (.seq (.cond (.tmp 9) .skip (.exit 0)) (.seq (.block 1 (.seq (.ops Q7I) (.ops Q7H))) (.ops Q7G))))
def codec_writer_int_lc : LC := (.seq (.ops Q7K) (.block 0 (.loop Q3a)))
@[reducible] def Q2L : FuncId := 73
theorem Q6K : lowF Try.prog Try.f73 = some codec_writer_int_lc := by kernel_rfl
theorem Q7L {a0 a1 : Value} {w : World} {R : Ending → World → Prop} (h : codec_writer_int_lc.wp Try.prog (retQ Try.prog [] R) (Qc [a0, a1]) w) : Calls Try.prog Q2L ⟨[a0, a1]⟩ w R :=
  Q4 Try.func73 Q6K (by kernel_rfl) (by kernel_rfl) h

/- 74 -/
def Q5I : List GO := [qm 6 0, qm 7 1, qL 8 7, ⟨none, .buildS 9 3 1 [(vi 0)] [(0, (1, (.tmp 8)))]⟩, ⟨none, .call (some 10) 73 [(.tmp 6), (.tmp 9)]⟩]
def Q5H : List GO := [qm 11 1, qL 12 11, qk 13 (vi 0)]
def Q5G : List GO := [qt 14 .lss 3 13 12]
def Q5F : List GO := [qi 15 3 11 13, qV 16 3 15, ⟨none, .alloc 5 65 [(vi 0), (vi 0), vn]⟩, qw 3 5 16]
def Q5E : List GO := [qm 17 0, qf 18 5 0, ql 19 18, ⟨none, .buildS 20 3 1 [(vi 0)] [(0, (1, (.tmp 19)))]⟩, ⟨none, .call (some 21) 73 [(.tmp 17), (.tmp 20)]⟩]
def Q5D : List GO := [qf 22 5 0, ql 23 22, qj 24 .neq 3 23 1]
def Q5C : List GO := [qm 25 0, qf 26 5 1, ql 27 26, ⟨none, .buildS 28 3 1 [(vi 0)] [(0, (1, (.tmp 27)))]⟩, ⟨none, .call (some 29) 73 [(.tmp 25), (.tmp 28)]⟩]
def Q5B : List GO := [qf 30 5 0, ql 31 30, qj 32 .eql 3 31 3]
def Q5A : List GO := [qm 33 0, qf 34 5 2, ql 35 34, ⟨none, .call (some 36) 74 [(.tmp 33), (.tmp 35)]⟩]
def Q5z : List GO := [qj 37 .add 3 13 1, qm 13 37]
def Q2C : LC := (.seq (.ops Q5G) (.seq (.cond (.tmp 14) .skip (.exit 0)) (.seq (.block 1 (.seq (.ops Q5F) (.seq (.ops Q5E) (.seq (.seq (.ops Q5D) (.cond (.tmp 24) (.ops Q5C) .skip)) (.seq (.ops Q5B) (.cond (.tmp 32) (.ops Q5A) .skip)))))) (.ops Q5z))))
def codec_writer_types_lc : LC := (.seq (.ops Q5I) (.seq (.ops Q5H) (.block 0 (.loop Q2C))))
@[reducible] def Qt : FuncId := 74
theorem Q4M : lowF Try.prog Try.f74 = some codec_writer_types_lc := by kernel_rfl
theorem Q5J {a0 a1 : Value} {w : World} {R : Ending → World → Prop} (h : codec_writer_types_lc.wp Try.prog (retQ Try.prog [] R) (Qc [a0, a1]) w) : Calls Try.prog Qt ⟨[a0, a1]⟩ w R :=
  Q4 Try.func74 Q4M (by kernel_rfl) (by kernel_rfl) h

/- 75 -/
def Q7V : List GO := [qb 3 27 1]
def Q7U : List GO := [qf 7 3 0, ql 8 7, ⟨none, .call (some 9) 105 [(.tmp 8)]⟩, qm 4 9]
def Q7T : List GO := [qm 10 0, qf 11 3 0, ql 12 11, ⟨none, .buildS 13 3 1 [(vi 0)] [(0, (1, (.tmp 12)))]⟩, ⟨none, .call (some 14) 73 [(.tmp 10), (.tmp 13)]⟩]
def Q7S : List GO := [qf 15 3 1, ql 16 15, qf 17 3 2, ql 18 17, qf 19 3 3, ql 20 19, qf 21 3 4, ql 22 21, ⟨none, .buildS 23 3 4 [(vi 0), (vi 0), (vi 0), (vi 0)] [(0, (1, (.tmp 16))), (1, (1, (.tmp 18))), (2, (1, (.tmp 20))), (3, (1, (.tmp 22)))]⟩, qL 24 23, qk 25 (vi 0)]
def Q7R : List GO := [qt 26 .lss 3 25 24]
def Q7Q : List GO := [qm 27 25, qi 28 1 23 25, ql 29 28, qm 5 27, qm 6 29]
def Q7P : List GO := [qm 30 4, qm 31 5, qt 32 .shr 3 30 31, qj 33 .and 3 32 1, qj 34 .eql 3 33 1]
def Q7O : List GO := [qm 35 0, qm 36 6, ⟨none, .buildS 37 3 1 [(vi 0)] [(0, (1, (.tmp 36)))]⟩, ⟨none, .call (some 38) 73 [(.tmp 35), (.tmp 37)]⟩]
def Q7N : List GO := [qj 39 .add 3 25 1, qm 25 39]
def Q3b : LC := (.seq (.ops Q7R) (.seq (.cond (.tmp 26) .skip (.exit 0)) (.seq (.block 1 (.seq (.ops Q7Q) (.seq (.ops Q7P) (.cond (.tmp 34) (.ops Q7O) .skip)))) (.ops Q7N))))
def Q7M : List GO := [qm 40 4, qj 41 .and 3 40 64, qj 42 .neq 3 41 0]
def Q6P : List GO := [qm 43 0, qf 44 3 5, ql 45 44, ⟨none, .buildS 46 2 1 [(vi 0)] [(0, (1, (.tmp 45)))]⟩, ⟨none, .call (some 47) 104 [(.tmp 43), (.tmp 46)]⟩]
def Q6O : List GO := [qm 48 4, qj 49 .and 3 48 16, qj 50 .neq 3 49 0]
def Q6N : List GO := [qm 51 0, qf 52 3 6, ql 53 52, ⟨none, .call (some 54) 106 [(.tmp 51), (.tmp 53)]⟩]
def Q6M : List GO := [qm 55 4, qj 56 .and 3 55 32, qj 57 .neq 3 56 0]
def Q6L : List GO := [qm 58 0, qf 59 3 7, ql 60 59, ⟨none, .call (some 61) 106 [(.tmp 58), (.tmp 60)]⟩]
def codec_writer_ins_lc : LC := (.seq (.ops Q7V) (.seq (.ops Q7U) (.seq (.ops Q7T) (.seq (.seq (.ops Q7S) (.block 0 (.loop Q3b))) (.seq (.seq (.ops Q7M) (.cond (.tmp 42) (.ops Q6P) .skip)) (.seq (.seq (.ops Q6O) (.cond (.tmp 50) (.ops Q6N) .skip)) (.seq (.ops Q6M) (.cond (.tmp 57) (.ops Q6L) .skip))))))))
@[reducible] def Qx : FuncId := 75
theorem Q6Q : lowF Try.prog Try.f75 = some codec_writer_ins_lc := by kernel_rfl
theorem Q7W {a0 a1 : Value} {w : World} {R : Ending → World → Prop} (h : codec_writer_ins_lc.wp Try.prog (retQ Try.prog [] R) (Qc [a0, a1]) w) : Calls Try.prog Qx ⟨[a0, a1]⟩ w R :=
  Q4 Try.func75 Q6Q (by kernel_rfl) (by kernel_rfl) h

/- 76 -/
def Q86 : List GO := [qb 3 35 1]
def Q85 : List GO := [qm 4 0, qf 5 3 0, ql 6 5, ⟨none, .buildS 7 3 1 [(vi 0)] [(0, (1, (.tmp 6)))]⟩, ⟨none, .call (some 8) 73 [(.tmp 4), (.tmp 7)]⟩]
def Q84 : List GO := [qf 9 3 0, ql 10 9]
def Q83 : List GO := [qj 12 .eql 3 10 1, qm 11 12]
def Q82 : List GO := [qm 13 0, qf 14 3 2, qV 15 3 14, ⟨none, .call (some 16) 107 [(.tmp 13), (.tmp 15)]⟩]
def Q81 : List GO := [qj 18 .eql 3 10 2, qm 17 18]
def Q80 : List GO := [qm 19 0, qf 20 3 1, ql 21 20, ⟨none, .buildS 22 3 1 [(vi 0)] [(0, (1, (.tmp 21)))]⟩, ⟨none, .call (some 23) 73 [(.tmp 19), (.tmp 22)]⟩]
def Q7Z : List GO := [qm 24 0, qf 25 3 2, qV 26 3 25, ⟨none, .call (some 27) 107 [(.tmp 24), (.tmp 26)]⟩]
def Q7Y : List GO := [qm 28 0, qf 29 3 5, qV 30 3 29, ⟨none, .call (some 31) 107 [(.tmp 28), (.tmp 30)]⟩]
def Q7X : List GO := [qj 33 .eql 3 10 3, qm 32 33]
def Q6R : List GO := [qm 34 0, qf 35 3 8, ql 36 35, ⟨none, .call (some 37) 106 [(.tmp 34), (.tmp 36)]⟩]
def codec_writer_end_lc : LC := (.seq (.ops Q86) (.seq (.ops Q85) (.seq (.ops Q84) (.block 0 (.seq (.ops Q83) (.cond (.tmp 11) (.ops Q82) (.seq (.ops Q81) (.cond (.tmp 17) (.seq (.ops Q80) (.seq (.ops Q7Z) (.ops Q7Y))) (.seq (.ops Q7X) (.cond (.tmp 32) (.ops Q6R) .skip))))))))))
@[reducible] def QP : FuncId := 76
theorem Q6S : lowF Try.prog Try.f76 = some codec_writer_end_lc := by kernel_rfl
theorem Q87 {a0 a1 : Value} {w : World} {R : Ending → World → Prop} (h : codec_writer_end_lc.wp Try.prog (retQ Try.prog [] R) (Qc [a0, a1]) w) : Calls Try.prog QP ⟨[a0, a1]⟩ w R :=
  Q4 Try.func76 Q6S (by kernel_rfl) (by kernel_rfl) h

/- 77 -/
def Qad : List GO := []
def Qac : List GO := [qm 2 5]
def Qab : List GO := [qm 6 2, ⟨none, .bin 7 .neq 20 (.tmp 6) (.const .nilIface)⟩]
def Qaa : List GO := [qm 9 2, ⟨none, .raw ⟨(some 10), (.typeAssert (.tmp 9) 20 116 true), 117, "", #[], none⟩⟩, qm 8 10, qx 11 8 0, qx 12 8 1, ⟨none, .alloc 3 116 [(vi 0), (vi 0)]⟩, qw 2 3 11, qm 4 12]
def Qa9 : List GO := [qm 13 4, ⟨none, .un 14 .not (.tmp 13)⟩]
def Qa8 : List GO := [qm 15 2, ⟨none, .raw ⟨none, (.panic (.tmp 15)), 0, "", #[], none⟩⟩]
def Qa7 : List GO := [⟨none, .build 16 [vn] []⟩, qV 17 2 3, qw 1 0 16, qw 2 1 17]
def Qae : List (List Nat) := [[],[],[0,0],[1,2,0,1,2]]
def codec_Decode_1_ld : LD := (.seq (.sp Qad (.rcv (some 5)) Qac) (.pl (.seq (.ops Qab) (.cond (.tmp 7) (.seq (.ops Qaa) (.seq (.seq (.ops Qa9) (.cond (.tmp 14) (.ops Qa8) .skip)) (.draw Qa7 Qae))) .skip))))
@[reducible] def Q3M : FuncId := 77
theorem Q9i : QjG Try.prog Try.f77 = some codec_Decode_1_ld := by kernel_rfl
theorem Q3s {a0 a1 : Value} {u : FrameMode} {w : World} {R : Ending → FrameMode → World → Prop} (h : codec_Decode_1_ld.wpR Try.prog (retR Try.prog [] R) u (Qc [a0, a1]) w) : CallsD Try.prog Q3M ⟨[a0, a1]⟩ u w R :=
  QeY Try.func77 Q9i (by kernel_rfl) (by kernel_rfl) h

/- 104 -/
def Q6F : List GO := [qm 7 1, qL 8 7, qk 9 (vi 0)]
def Q6E : List GO := [qt 10 .lss 3 9 8]
def Q6D : List GO := [qi 11 1 7 9, ql 12 11, qm 5 12]
def Q6C : List GO := [qm 13 5, ⟨none, .conv 14 .u64 (.tmp 13)⟩, ⟨none, .bin 15 .shl 155 (.tmp 14) (.const (.int .u64 1))⟩, qm 16 5, ⟨none, .bin 17 .shr 2 (.tmp 16) (.const (.int .u64 63))⟩, ⟨none, .conv 18 .u64 (.tmp 17)⟩, qt 19 .xor 155 15 18, qm 6 19]
def Q6B : List GO := [qm 20 6, ⟨none, .bin 21 .geq 155 (.tmp 20) (.const (.int .u64 128))⟩]
def Q6A : List GO := [qm 24 0, qm 25 0, qn 26 25, qf 27 26 0, ql 28 27, qm 29 6, ⟨none, .conv 30 .u8 (.tmp 29)⟩, ⟨none, .bin 31 .or 5 (.tmp 30) (.const (.int .u8 128))⟩, ⟨none, .buildS 32 5 1 [(.int .u8 0)] [(0, (1, (.tmp 31)))]⟩, ⟨none, .raw ⟨(some 33), (.call ⟨(.builtin .append), #[(.tmp 28), (.tmp 32)], #[50, 50]⟩), 50, "", #[], none⟩⟩, qn 34 24, qf 35 34 0, qs 35 33]
def Q6z : List GO := [qm 22 6, ⟨none, .bin 23 .shr 155 (.tmp 22) (.const (.int .u64 7))⟩, qm 6 23]
def Q2O : LC := (.seq (.seq (.ops Q6B) (.cond (.tmp 21) .skip (.exit 2))) (.seq (.block 3 (.ops Q6A)) (.ops Q6z)))
def Q6y : List GO := [qm 36 0, qm 37 0, qn 38 37, qf 39 38 0, ql 40 39, qm 41 6, ⟨none, .conv 42 .u8 (.tmp 41)⟩, ⟨none, .buildS 43 5 1 [(.int .u8 0)] [(0, (1, (.tmp 42)))]⟩, ⟨none, .raw ⟨(some 44), (.call ⟨(.builtin .append), #[(.tmp 40), (.tmp 43)], #[50, 50]⟩), 50, "", #[], none⟩⟩, qn 45 36, qf 46 45 0, qs 46 44]
def Q6x : List GO := [qj 47 .add 3 9 1, qm 9 47]
def Q2P : LC := (.seq (.ops Q6E) (.seq (.cond (.tmp 10) .skip (.exit 0)) (.seq (.block 1 (.seq (.ops Q6D) (.seq (.ops Q6C) (.seq (.block 2 (.loop Q2O)) (.ops Q6y))))) (.ops Q6x))))
def codec_writer_long_lc : LC := (.seq (.ops Q6F) (.block 0 (.loop Q2P)))
@[reducible] def Q2s : FuncId := 104
theorem Q5L : lowF Try.prog Try.f104 = some codec_writer_long_lc := by kernel_rfl
theorem Q6G {a0 a1 : Value} {w : World} {R : Ending → World → Prop} (h : codec_writer_long_lc.wp Try.prog (retQ Try.prog [] R) (Qc [a0, a1]) w) : Calls Try.prog Q2s ⟨[a0, a1]⟩ w R :=
  Q4 Try.func104 Q5L (by kernel_rfl) (by kernel_rfl) h

/- 105 -/
def Qdn : List GO := [qk 2 (vi 0)]
def Qdm : List GO := [qm 3 0, qj 4 .lss 3 3 0, qm 5 4, qg 5 false (qm 6 0), qg 5 false (qj 7 .gtr 3 6 14), ⟨none, .pick 8 (.tmp 5) (.const (.bool true)) (.tmp 7)⟩]
def Qdl : List GO := [qk 2 (vi 0)]
def Qdk : List GO := [⟨none, .build 9 [(vi 0), (vi 0), (vi 0), (vi 0), (vi 0), (vi 0), (vi 0), (vi 0), (vi 0), (vi 0), (vi 0), (vi 0), (vi 0), (vi 0), (vi 0)] [(0, (1, (.const (vi 0)))), (1, (1, (.const (vi 64)))), (2, (1, (.const (vi 11)))), (3, (1, (.const (vi 0)))), (4, (1, (.const (vi 1)))), (5, (1, (.const (vi 33)))), (6, (1, (.const (vi 9)))), (7, (1, (.const (vi 11)))), (8, (1, (.const (vi 3)))), (9, (1, (.const (vi 3)))), (10, (1, (.const (vi 7)))), (11, (1, (.const (vi 1)))), (12, (1, (.const (vi 0)))), (13, (1, (.const (vi 1)))), (14, (1, (.const (vi 56))))]⟩, qm 10 0, ⟨none, .raw ⟨(some 11), (.index 156 (.tmp 9) (.tmp 10)), 3, "", #[], none⟩⟩, qm 2 11]
def codec_fields_lc : LC := (.seq (.ops Qdn) (.seq (.seq (.ops Qdm) (.cond (.tmp 8) (.seq (.ops Qdl) .ret) .skip)) (.seq (.ops Qdk) .ret)))
@[reducible] def Q3r : FuncId := 105
theorem Qb9 : lowF Try.prog Try.f105 = some codec_fields_lc := by kernel_rfl
theorem Qdo {a0 : Value} {w : World} {R : Ending → World → Prop} (h : codec_fields_lc.wp Try.prog (retQ Try.prog [.tmp 2] R) (Qc [a0]) w) : Calls Try.prog Q3r ⟨[a0]⟩ w R :=
  Q4 Try.func105 Qb9 (by kernel_rfl) (by kernel_rfl) h

/- 106 -/
def Q6I : List GO := [qm 4 0, qm 5 1, qL 6 5, ⟨none, .buildS 7 3 1 [(vi 0)] [(0, (1, (.tmp 6)))]⟩, ⟨none, .call (some 8) 73 [(.tmp 4), (.tmp 7)]⟩]
def Q6H : List GO := [qm 9 0, qm 10 1, ⟨none, .call (some 11) 73 [(.tmp 9), (.tmp 10)]⟩]
def codec_writer_ints_lc : LC := (.seq (.ops Q6I) (.ops Q6H))
@[reducible] def Q3R : FuncId := 106
theorem Q5M : lowF Try.prog Try.f106 = some codec_writer_ints_lc := by kernel_rfl
theorem Q6J {a0 a1 : Value} {w : World} {R : Ending → World → Prop} (h : codec_writer_ints_lc.wp Try.prog (retQ Try.prog [] R) (Qc [a0, a1]) w) : Calls Try.prog Q3R ⟨[a0, a1]⟩ w R :=
  Q4 Try.func106 Q5M (by kernel_rfl) (by kernel_rfl) h

/- 107 -/
def Q98 : List GO := [qb 3 33 1]
def Q97 : List GO := [qm 4 0, qf 5 3 0, ql 6 5, ⟨none, .buildS 7 3 1 [(vi 0)] [(0, (1, (.tmp 6)))]⟩, ⟨none, .call (some 8) 73 [(.tmp 4), (.tmp 7)]⟩]
def Q96 : List GO := [qm 9 0, qf 10 3 1, ql 11 10, ⟨none, .call (some 12) 106 [(.tmp 9), (.tmp 11)]⟩]
def Q95 : List GO := [qm 13 0, qf 14 3 2, ql 15 14, ⟨none, .call (some 16) 106 [(.tmp 13), (.tmp 15)]⟩]
def codec_writer_to_lc : LC := (.seq (.ops Q98) (.seq (.ops Q97) (.seq (.ops Q96) (.ops Q95))))
@[reducible] def Q5K : FuncId := 107
theorem Q7F : lowF Try.prog Try.f107 = some codec_writer_to_lc := by kernel_rfl
theorem Q99 {a0 a1 : Value} {w : World} {R : Ending → World → Prop} (h : codec_writer_to_lc.wp Try.prog (retQ Try.prog [] R) (Qc [a0, a1]) w) : Calls Try.prog Q5K ⟨[a0, a1]⟩ w R :=
  Q4 Try.func107 Q7F (by kernel_rfl) (by kernel_rfl) h

end Go.Proofs.Ytanlkfeogoganaa
