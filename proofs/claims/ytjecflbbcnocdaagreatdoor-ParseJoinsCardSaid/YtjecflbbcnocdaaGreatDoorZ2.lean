/- Lemmas of the proof, part 2: what the functions of the program do (contracts), and what follows. -/
import Derived.Test.YtjecflbbcnocdaaGreatDoorZ1
import Derived.Laws.IdiomStrings
import Derived.Recover
import Derived.Test.YtjecflbbcnocdaaGreatDoorProg
namespace Go.Lir

theorem SlR.turn {H H' : Heap} {es : Nat} {v : Value} {F G : Nat → Prop} {css : List (List Value)} (h : SlR H es v F css) (hs : ∀ b, F b → b < H.size → G b ∧ H'[b]? = H[b]?) : SlR H' es v G css := by
  obtain ⟨h0, a, cap, hv, hlc, hc | ⟨b, off, ha, hF, hb, hat⟩⟩ := h
  · exact ⟨h0, a, cap, hv, hlc, .inl hc⟩
  · obtain ⟨h1, h2⟩ := hs b hF hb
    refine ⟨h0, a, cap, hv, hlc, .inr ⟨b, off, ha, h1, ?_, fun m c hm => (hat m c hm).of_same h2⟩⟩
    rcases Nat.lt_or_ge b H'.size with h | h
    · exact h
    · rw [Array.getElem?_eq_none h, Array.getElem?_eq_getElem hb] at h2; cases h2

/-- A kind of data: what cells (that lie in K, and what they lead to) say. -/
structure Rep (α : Type) where
  es : Nat
  pos : 0 < es
  R : Heap → (Nat → Prop) → List Value → α → Prop
  len : ∀ {H : Heap} {K : Nat → Prop} {cs : List Value} {x : α}, R H K cs x → cs.length = es
  one : ∀ {H : Heap} {K : Nat → Prop} {cs : List Value} {x : α}, R H K cs x → ∀ u ∈ cs, oneC u = true
  turn : ∀ {H H' : Heap} {K K' : Nat → Prop} {cs : List Value} {x : α}, R H K cs x → (∀ b, K b → b < H.size → K' b ∧ H'[b]? = H[b]?) → R H' K' cs x

section
variable {α β : Type}
/-- Rows of cells that are the parts of a list. -/
def Rep.LR (r : Rep α) (H : Heap) (K : Nat → Prop) (css : List (List Value)) (l : List α) : Prop := css.length = l.length ∧ ∀ (m : Nat) (x : α), l[m]? = some x → ∃ d, css[m]? = some d ∧ r.R H K d x
/-- A slice that reads as the list. -/
def Rep.SR (r : Rep α) (H : Heap) (K : Nat → Prop) (v : Value) (l : List α) : Prop := ∃ css, SlR H r.es v K css ∧ r.LR H K css l ∧ l.length ≤ 140737488355328
theorem Rep.LR.turn {r : Rep α} {H H' : Heap} {K K' : Nat → Prop} {css : List (List Value)} {l : List α} (h : r.LR H K css l) (hs : ∀ b, K b → b < H.size → K' b ∧ H'[b]? = H[b]?) : r.LR H' K' css l :=
  ⟨h.1, fun m x hx => by obtain ⟨d, h1, h2⟩ := h.2 m x hx; exact ⟨d, h1, r.turn h2 hs⟩⟩
theorem Rep.SR.turn {r : Rep α} {H H' : Heap} {K K' : Nat → Prop} {v : Value} {l : List α} (h : r.SR H K v l) (hs : ∀ b, K b → b < H.size → K' b ∧ H'[b]? = H[b]?) : r.SR H' K' v l := by
  obtain ⟨css, h1, h2, h3⟩ := h
  exact ⟨css, h1.turn hs, h2.turn hs, h3⟩
theorem Rep.LR.nil (r : Rep α) (H : Heap) (K : Nat → Prop) : r.LR H K [] [] := ⟨rfl, by simp⟩
theorem Rep.LR.push {r : Rep α} {H : Heap} {K : Nat → Prop} {css : List (List Value)} {l : List α} {d : List Value} {x : α} (h : r.LR H K css l) (hd : r.R H K d x) : r.LR H K (css ++ [d]) (l ++ [x]) := by
  refine ⟨by simp [h.1], fun m y hy => ?_⟩
  rcases Nat.lt_or_ge m l.length with hm | hm
  · rw [List.getElem?_append_left hm] at hy
    rw [List.getElem?_append_left (by rw [h.1]; exact hm)]
    exact h.2 m y hy
  · rw [List.getElem?_append_right hm] at hy
    rw [List.getElem?_append_right (by rw [h.1]; exact hm), h.1]
    obtain ⟨i, hi⟩ : ∃ i, m - l.length = i := ⟨_, rfl⟩
    rw [hi] at hy ⊢
    cases i with
    | zero => simp only [List.getElem?_cons_zero, Option.some.injEq] at hy; subst hy; exact ⟨d, rfl, hd⟩
    | succ i => simp at hy
theorem Rep.LR.append {r : Rep α} {H : Heap} {K : Nat → Prop} {css css2 : List (List Value)} {l l2 : List α} (h : r.LR H K css l) (h2 : r.LR H K css2 l2) : r.LR H K (css ++ css2) (l ++ l2) := by
  refine ⟨by simp [h.1, h2.1], fun m y hy => ?_⟩
  rcases Nat.lt_or_ge m l.length with hm | hm
  · rw [List.getElem?_append_left hm] at hy
    rw [List.getElem?_append_left (by rw [h.1]; exact hm)]
    exact h.2 m y hy
  · rw [List.getElem?_append_right hm] at hy
    rw [List.getElem?_append_right (by rw [h.1]; exact hm), h.1]
    exact h2.2 _ y hy
theorem Rep.LR.set {r : Rep α} {H : Heap} {K : Nat → Prop} {css : List (List Value)} {l : List α} {d : List Value} {x : α} {i : Nat} (h : r.LR H K css l) (hd : r.R H K d x) : r.LR H K (css.set i d) (l.set i x) := by
  refine ⟨by simp [h.1], fun m y hy => ?_⟩
  rw [List.getElem?_set] at hy ⊢
  by_cases he : i = m
  · rw [if_pos he] at hy ⊢
    rw [h.1]
    split at hy
    · rename_i hm; rw [if_pos hm]; cases hy; exact ⟨d, rfl, hd⟩
    · cases hy
  · rw [if_neg he] at hy ⊢
    exact h.2 m y hy
theorem Rep.LR.sub {r : Rep α} {H : Heap} {K : Nat → Prop} {css : List (List Value)} {l : List α} (h : r.LR H K css l) (i j : Nat) : r.LR H K ((css.take j).drop i) ((l.take j).drop i) := by
  refine ⟨by simp [h.1], fun m y hy => ?_⟩
  rw [List.getElem?_drop] at hy ⊢
  have hlt := (List.getElem?_eq_some_iff.1 hy).1
  rw [List.length_take] at hlt
  rw [List.getElem?_take_of_lt (by omega)] at hy ⊢
  exact h.2 _ y hy
theorem Rep.LR.one {r : Rep α} {H : Heap} {K : Nat → Prop} {css : List (List Value)} {l : List α} (h : r.LR H K css l) : ∀ c ∈ css, ∀ u ∈ c, oneC u = true := by
  intro c hc
  obtain ⟨m, hm⟩ := List.mem_iff_getElem?.1 hc
  have hlt := (List.getElem?_eq_some_iff.1 hm).1
  obtain ⟨d, h1, h2⟩ := h.2 m _ (List.getElem?_eq_getElem (by rw [← h.1]; exact hlt))
  rw [hm] at h1; cases h1
  exact r.one h2
theorem Rep.SR.oneC {r : Rep α} {H : Heap} {K : Nat → Prop} {v : Value} {l : List α} (h : r.SR H K v l) : Go.Lir.oneC v = true := by
  obtain ⟨css, h1, _⟩ := h; exact SlR.oneC h1
theorem Rep.SR.nil (r : Rep α) (H : Heap) (K : Nat → Prop) : r.SR H K (.slice none 0 0) [] := ⟨[], ⟨by simp, none, 0, rfl, Nat.le_refl _, .inl rfl⟩, .nil r H K, by simp⟩
theorem Rep.SR.len {r : Rep α} {H : Heap} {K : Nat → Prop} {v : Value} {l : List α} (h : r.SR H K v l) : l.length ≤ 140737488355328 := by obtain ⟨_, _, _, h⟩ := h; exact h
theorem Rep.SR.shape {r : Rep α} {H : Heap} {K : Nat → Prop} {v : Value} {l : List α} (h : r.SR H K v l) : ∃ a c, v = .slice a l.length c := by
  obtain ⟨css, h1, h2, _⟩ := h
  obtain ⟨a, c, hv⟩ := SlR.shape h1
  exact ⟨a, c, by rw [← h2.1]; exact hv⟩

def Rep.lit (f : α → Value) (hf : ∀ x, oneC (f x) = true) : Rep α where
  es := 1
  pos := by decide
  R := fun _ _ cs x => cs = [f x]
  len := by rintro _ _ _ _ rfl; rfl
  one := by rintro _ _ _ x rfl u hu; simp at hu; subst hu; exact hf x
  turn := fun h _ => h
def intR : Rep Int := Rep.lit (fun n => .int .i64 n) (fun _ => rfl)
def strR : Rep ByteArray := Rep.lit (fun b => .string b) (fun _ => rfl)
def Rep.list (r : Rep α) : Rep (List α) where
  es := 1
  pos := by decide
  R := fun H K cs l => ∃ v, cs = [v] ∧ r.SR H K v l
  len := by rintro _ _ _ _ ⟨v, rfl, _⟩; rfl
  one := by rintro _ _ _ _ ⟨v, rfl, h⟩ u hu; simp at hu; subst hu; exact h.oneC
  turn := by rintro _ _ _ _ _ _ ⟨v, rfl, h⟩ hs; exact ⟨v, rfl, h.turn hs⟩
def Rep.and (r : Rep α) (p : α → Prop) : Rep α where
  es := r.es
  pos := r.pos
  R := fun H K cs x => r.R H K cs x ∧ p x
  len := fun h => r.len h.1
  one := fun h => r.one h.1
  turn := fun h hs => ⟨r.turn h.1 hs, h.2⟩
def tyR : Rep Ty where
  es := 3
  pos := by decide
  R := fun H K cs t => ∃ n, tyRd H K n cs t
  len := by rintro _ _ _ _ ⟨n, h⟩; exact h.len
  one := by
    rintro _ _ _ _ ⟨n, h⟩
    cases n with
    | zero => exact h.elim
    | succ n =>
      obtain ⟨v, css, rfl, h2, _⟩ := h
      intro u hu; simp at hu
      rcases hu with rfl | rfl | rfl
      · rfl
      · rfl
      · exact SlR.oneC h2
  turn := by rintro _ _ _ _ _ _ ⟨n, h⟩ hs; exact ⟨n, h.turn fun v css hv => hv.turn hs⟩
theorem Q1b {H : Heap} {K : Nat → Prop} {cs : List Value} {t : Ty} (h : tyR.R H K cs t) : ∃ v, cs = [.int .i64 t.kind, .int .i64 t.r, v] ∧ tyR.SR H K v t.l := by
  obtain ⟨n, h⟩ := h
  cases n with
  | zero => exact h.elim
  | succ n =>
    obtain ⟨v, css, h1, h2, h3, h4, h5⟩ := h
    exact ⟨v, h1, css, h2, ⟨h3, fun m x hx => by obtain ⟨d, h6, h7⟩ := h5 m x hx; exact ⟨d, h6, n, h7⟩⟩, h4⟩
theorem Q8Z {H : Heap} {K : Nat → Prop} {k r : Int} {v : Value} {l : List Ty} (h : tyR.SR H K v l) : tyR.R H K [.int .i64 k, .int .i64 r, v] (.mk k r l) := by
  obtain ⟨css, h1, h2, h3⟩ := h
  obtain ⟨n, hn⟩ := Qlq (xs := List.range l.length) (R := fun n m => ∀ x, l[m]? = some x → ∃ d, css[m]? = some d ∧ tyRd H K n d x) (fun n m i hnm hr x hx => by obtain ⟨d, h1, h2⟩ := hr x hx; exact ⟨d, h1, h2.more hnm⟩) (fun m hm => by
    have hlt := List.mem_range.1 hm
    obtain ⟨d, h4, n, h5⟩ := h2.2 m _ (List.getElem?_eq_getElem hlt)
    exact ⟨n, fun x hx => by rw [List.getElem?_eq_getElem hlt] at hx; cases hx; exact ⟨d, h4, h5⟩⟩)
  exact ⟨n + 1, v, css, rfl, h1, h2.1, h3, fun m x hx => hn m (List.mem_range.2 (List.getElem?_eq_some_iff.1 hx).1) x hx⟩

/-! what is only read -/
abbrev Rep.at (r : Rep α) (c : Cx) (cs : List Value) (x : α) : Prop := r.R c.H0 c.K cs x
abbrev Rep.sl (r : Rep α) (c : Cx) (v : Value) (l : List α) : Prop := r.SR c.H0 c.K v l
abbrev Rep.ls (r : Rep α) (c : Cx) (css : List (List Value)) (l : List α) : Prop := r.LR c.H0 c.K css l
theorem Cx.Le.turn {c c' : Cx} (h : c.Le c') : ∀ b, c.K b → b < c.H0.size → c'.K b ∧ c'.H0[b]? = c.H0[b]? := fun b hb _ => h.K b hb
theorem Rep.R.up {r : Rep α} {c c' : Cx} {cs : List Value} {x : α} (h : r.at c cs x) (hle : c.Le c') : r.at c' cs x := r.turn h hle.turn
theorem Rep.SR.up {r : Rep α} {c c' : Cx} {v : Value} {l : List α} (h : r.sl c v l) (hle : c.Le c') : r.sl c' v l := Rep.SR.turn h hle.turn
theorem Rep.LR.up {r : Rep α} {c c' : Cx} {v : List (List Value)} {l : List α} (h : r.ls c v l) (hle : c.Le c') : r.ls c' v l := Rep.LR.turn h hle.turn
/-- From here on an own list is only read. -/
theorem St.freezeL {r : Rep α} {c : Cx} {w : World} {L : List Res} {T : TypeId} {es : Nat} {v : Value} {css : List (List Value)} {l : List α} (h : St c w (sl T es v css :: L)) (hl : r.ls c css l) (hes : r.es = es) (hm : l.length ≤ 140737488355328) : ∃ c', c.Le c' ∧ St c' w L ∧ r.sl c' v l := by
  subst hes
  obtain ⟨c', h1, h2, h3⟩ := h.freezeS
  exact ⟨c', h1, h2, css, h3, hl.up h1, hm⟩
theorem Rep.SR.ints {c : Cx} {v : Value} {l : List Int} (h : intR.sl c v l) : FzS c 1 v (l.map icell) := by
  obtain ⟨css, h1, h2, h3⟩ := h
  have : css = l.map icell := by
    apply List.ext_getElem?
    intro m
    rw [List.getElem?_map]
    rcases Nat.lt_or_ge m l.length with hm | hm
    · obtain ⟨d, h4, h5⟩ := h2.2 m _ (List.getElem?_eq_getElem hm)
      have h5 : d = [_] := h5
      rw [h4, List.getElem?_eq_getElem hm, h5]; rfl
    · rw [List.getElem?_eq_none (by rw [h2.1]; exact hm), List.getElem?_eq_none hm]; rfl
  rw [this] at h1; exact h1
theorem FzS.ints {c : Cx} {v : Value} {l : List Int} (h : FzS c 1 v (l.map icell)) (hm : l.length ≤ 140737488355328) : intR.sl c v l :=
  ⟨_, h, ⟨by simp, fun m x hx => ⟨icell x, by rw [List.getElem?_map, hx]; rfl, rfl⟩⟩, hm⟩

section
variable {P : Program} {l : List GO} {Q : QT} {ρ : Env} {w : World} {c : Cx} {L : List Res} {r : Rep α} {xs : List α} {v : Value} {es : Nat}
theorem Q1K {d m : Nat} {x y : Operand} {k : IntKind} (hx : ρ.ev x = v) (hy : ρ.ev y = .int k (m : Int)) (hK : r.sl c v xs) (hes : r.es = es) (hn : m < xs.length)
    (h : ∀ b o cs a, AtK c b o cs → xs[m]? = some a → r.at c cs a → Q3 P l Q (upd ρ d (.pointer (some ⟨b, o, none⟩))) w) : Q3 P (⟨none, .idx d es x y⟩ :: l) Q ρ w := by
  subst hes
  obtain ⟨css, h1, h2, h3⟩ := hK
  obtain ⟨cs, h4, h5⟩ := h2.2 m _ (List.getElem?_eq_getElem hn)
  exact s_idxK (m := m) hx hy h1 h4 fun b o hb => h b o cs _ hb (List.getElem?_eq_getElem hn) h5
theorem Q6 {l : List α} {m : Nat} {x : α} (h : l[m]? = some x) : l.drop m = x :: l.drop (m + 1) := by
  obtain ⟨hm, rfl⟩ := List.getElem?_eq_some_iff.1 h
  exact List.drop_eq_getElem_cons hm
theorem QjW {l : List α} {m : Nat} {x : α} (h : l[m]? = some x) : l.take (m + 1) = l.take m ++ [x] := by
  rw [List.take_add_one, h]; rfl
theorem Qd3 {cs : List Value} {n : Int} (h : intR.at c cs n) : cs = [.int .i64 n] := h
theorem Qiu : ∀ {L : List Res} {i : Nat} {a a' : Res}, nth L i = some a → nth (L.set i a') i = some a'
  | [], _, _, _, h => by cases h
  | _ :: _, 0, _, _, _ => rfl
  | _ :: L, i + 1, _, _, h => Qiu (L := L) (i := i) h
/-- append of one element that was just built. -/
theorem s_appR1 {T T' d Ts Ts2 Ty nb i k b : Nat} {z : List Value} {x y : Operand} {ds : List Value} {css : List (List Value)} {a : α} (hel : Q3Q P Ts = some (T, es, nb, z))
    (hts : ∃ e2, P.underlying Ts2 = some (.slice e2)) (hS : St c w L) (hx : ρ.ev x = v) (hy : ρ.ev y = .slice (some ⟨b, 0, none⟩) 1 1) (hi : nth L i = some (Go.Lir.sl T es v css)) (hk : nth L k = some (blk b T' ds)) (hls : r.ls c css xs) (ha : r.at c ds a) (hes : r.es = es) (hb : (xs.length + 1) * nb ≤ 140737488355328)
    (h : ∀ v' w' css', r.ls c css' (xs ++ [a]) → oneC v' = true → St c w' (L.set i (Go.Lir.sl T es v' css')) → Q3 P l Q (upd ρ d v') w') : Q3 P (⟨none, .raw ⟨some d, .call ⟨.builtin .append, #[x, y], #[Ts, Ts2]⟩, Ty, "", #[], none⟩⟩ :: l) Q ρ w :=
  s_appE hel (.inl hts) hS hx hy hi (hS.srcB hk ((r.len ha).trans hes) (r.one ha)) (by rw [hls.1]; exact hb) fun v' w' hS' => h v' w' _ (hls.push ha) (hS'.oneC (Qiu hi)) hS'
/-- append of a list that is read. -/
theorem s_appRK {T d Ts Ts2 Ty nb i : Nat} {z : List Value} {x y : Operand} {v2 : Value} {css : List (List Value)} {ys : List α} (hel : Q3Q P Ts = some (T, es, nb, z))
    (hts : ∃ e2, P.underlying Ts2 = some (.slice e2)) (hS : St c w L) (hx : ρ.ev x = v) (hy : ρ.ev y = v2) (hi : nth L i = some (Go.Lir.sl T es v css)) (hls : r.ls c css xs) (hK : r.sl c v2 ys) (hes : r.es = es) (hb : (xs.length + ys.length) * nb ≤ 140737488355328)
    (h : ∀ v' w' css', r.ls c css' (xs ++ ys) → oneC v' = true → St c w' (L.set i (Go.Lir.sl T es v' css')) → Q3 P l Q (upd ρ d v') w') : Q3 P (⟨none, .raw ⟨some d, .call ⟨.builtin .append, #[x, y], #[Ts, Ts2]⟩, Ty, "", #[], none⟩⟩ :: l) Q ρ w := by
  subst hes
  obtain ⟨css2, h1, h2, h3⟩ := hK
  exact s_appE hel (.inl hts) hS hx hy hi (FzS.src h1 hS h2.one) (by rw [hls.1, h2.1]; exact hb) fun v' w' hS' => h v' w' _ (hls.append h2) (hS'.oneC (Qiu hi)) hS'
/-- A call of a function value, without and with what it holds. -/
theorem QnI {d : Nat} {x : Operand} {os : List Operand} {f : FuncId} {args : List Value} {S : Value → World → Prop} (hx : ρ.ev x = .func (.func f) #[] #[]) (hf : Q38 P f = true) (hxs : os.map ρ.ev = args) (hc : Rets P f args w S)
    (h : ∀ v w', S v w' → Q3 P l Q (upd ρ d v) w') : Q3 P (⟨none, .callv (some d) x os⟩ :: l) Q ρ w := by
  unfold Q38 at hf
  rw [Option.any_eq_true] at hf
  obtain ⟨fn, h1, h2⟩ := hf
  rw [Bool.and_eq_true, Bool.not_eq_true'] at h2
  refine QnP (cap := []) hx h1 h2.1 h2.2 (by rw [hxs, List.append_nil]) hc ?_
  rintro e w' ⟨v, rfl, hv⟩
  exact h v w' hv
theorem Qkm {d : Nat} {x : Operand} {b o : Nat} {cs : List Value} {u : Value} (hS : St c w L) (ha : AtK c b o cs) (hx : ρ.ev x = .pointer (some ⟨b, o, none⟩)) (hu : cs[0]? = some u) : gqv P ρ w ⟨none, .load1 d x⟩ u := Qiw (j := 0) hS ha hx hu
theorem Qhs {d n : Nat} {x : Operand} {b o : Nat} {cs us : List Value} (hS : St c w L) (ha : AtK c b o cs) (hx : ρ.ev x = .pointer (some ⟨b, o, none⟩)) (hu : cs.take n = us) (hl : us.length = n) : gqv P ρ w ⟨none, .loadn d n x⟩ (.agg ⟨us⟩) := QdT (j := 0) hS ha hx hu hl
/-- A whole block is written anew. -/
theorem QnH {n i b T : Nat} {x y : Operand} {cs us : List Value} (hS : St c w L) (hx : ρ.ev x = .pointer (some ⟨b, 0, none⟩)) (hy : ρ.ev y = .agg ⟨us⟩) (hn : us.length = n) (hi : nth L i = some (blk b T cs)) (hc : cs.length = n) (h1 : ∀ u ∈ us, oneC u = true)
    (h : ∀ w', St c w' (L.set i (blk b T us)) → Q3 P l Q ρ w') : Q3 P (⟨none, .storen n x y⟩ :: l) Q ρ w :=
  Qk4 hS hx hy hn hi (by omega) h1 (by simp; omega) h
theorem Qar : ∀ {a b : List GO} {Q : QT} {ρ : Env} {w : World}, Q3 P a (QF (Q3 P b Q) Q) ρ w → Q3 P (a ++ b) Q ρ w
  | [], _, _, _, _, h => h
  | ⟨none, o⟩ :: a, b, Q, ρ, w, h => by
    simp only [List.cons_append, Q3] at h ⊢
    exact Qa1 (fun ρ w h => Qar h) (fun e ρ w hn h => by cases e <;> first | exact h | exact absurd rfl hn) h
  | ⟨some (s, b'), o⟩ :: a, b, Q, ρ, w, h => by
    simp only [List.cons_append, Q3] at h ⊢
    split
    · rename_i hw
      rw [if_pos hw] at h
      exact Qa1 (fun ρ w h => Qar h) (fun e ρ w hn h => by cases e <;> first | exact h | exact absurd rfl hn) h
    · rename_i hw
      rw [if_neg hw] at h
      exact Qar h
/-- An assertion between two parts of a row of operations. -/
theorem s_cut {l : List GO} (n : Nat) (J : Env → World → Prop) (ha : Q3 P (l.take n) (QF J Q) ρ w) (hb : ∀ ρ w, J ρ w → Q3 P (l.drop n) Q ρ w) : Q3 P l Q ρ w := by
  rw [← List.take_append_drop n l]
  exact Qar (Qbq (Q7h hb fun _ _ _ h => h) ha)
theorem s_lenL {d : Nat} {x : Operand} (hx : ρ.ev x = v) (hK : r.sl c v xs) (h : Q3 P l Q (upd ρ d (.int .i64 xs.length)) w) : Q3 P (⟨none, .len d x⟩ :: l) Q ρ w := by
  obtain ⟨css, h1, h2, h3⟩ := hK
  exact s_lenKn hx h1 h2.1 h
theorem s_subL {d : Nat} {x : Operand} {lo hi mx : Option Operand} {l' h' : Nat} (hx : ρ.ev x = v) (hK : r.sl c v xs) (hes : r.es = es) (hmx : mx = none) (hh : bnd ρ xs.length hi h') (hl : bnd ρ 0 lo l') (h2 : h' ≤ xs.length) (h3 : l' ≤ h')
    (h : ∀ v', r.sl c v' ((xs.take h').drop l') → Q3 P l Q (upd ρ d v') w) : Q3 P (⟨none, .sub d es x lo hi mx⟩ :: l) Q ρ w := by
  subst hes
  obtain ⟨css, h1, g2, g3⟩ := hK
  exact s_subK hx h1 hmx (by rw [g2.1]; exact hh) hl (by rw [g2.1]; exact h2) h3 fun v' hv => h v' ⟨_, hv, g2.sub _ _, by simp; omega⟩
end
end

/-! ### data that came in -/
section
variable {P : Program} {T e : TypeId} {α β : Type}
/-- What a codec reads, seen as a kind of data. -/
def Cod.rep (c : Cod P T α) (r : Rep β) (hs : c.es = r.es) (h : ∀ (H : Heap) cs x, c.rd H cs x → ∃ y, r.R H (· < H.size) cs y) : Cod P T β where
  es := r.es
  rd := fun H cs y => r.R H (· < H.size) cs y
  size := by rw [← hs]; exact c.size
  len := fun _ _ _ h => r.len h
  stay := fun H H' cs x hx hH => r.turn hx fun b hb hlt => by
    have := hH b hlt
    refine ⟨?_, this⟩
    rcases Nat.lt_or_ge b H'.size with h | h
    · exact h
    · rw [Array.getElem?_eq_none h, Array.getElem?_eq_getElem hlt] at this; cases this
  open_ := fun enc w fuel cs y hy hfit => by
    obtain ⟨x, hx⟩ := c.open_ enc w fuel cs y hy hfit
    exact h _ _ _ hx
/-- A list of a kind of data. -/
theorem list_rd {r : Rep α} {n : Nat} {H : Heap} {cs : List Value} {xs : List α} (hn : r.es = n)
    (h : ∃ v css, cs = [v] ∧ SlR H n v (fun _ => True) css ∧ css.length = xs.length ∧ xs.length ≤ 140737488355328 ∧ ∀ (m : Nat) (x : α), xs[m]? = some x → ∃ d, css[m]? = some d ∧ r.R H (· < H.size) d x) : r.list.R H (· < H.size) cs xs := by
  obtain ⟨v, css, rfl, h1, h2, h3, h4⟩ := h
  subst hn
  exact ⟨v, rfl, css, SlR.mono h1 fun b hb _ => hb, ⟨h2, h4⟩, h3⟩
def Cod.listOf (c : Cod P e β) (r : Rep β) (hs : c.es = r.es) (h : ∀ (H : Heap) cs x, c.rd H cs x → r.R H (· < H.size) cs x) (ht : P.underlying T = some (.slice e)) (h1 : P.cellsOf T = 1) (hby : decide (0 < P.bytesOf e) = true) : Cod P T (List β) :=
  Cod.rep (Cod.slice c ht h1 (by rw [hs]; exact r.pos) hby) r.list rfl fun H cs x hx => ⟨x, list_rd hs.symm (by
    obtain ⟨v, css, g1, g2, g3, g4, g5⟩ := hx
    exact ⟨v, css, g1, g2, g3, g4, fun m y hy => by obtain ⟨d, g6, g7⟩ := g5 m y hy; exact ⟨d, g6, h _ _ _ g7⟩⟩)⟩
/-- A kind of data by itself: the codec's reading is the kind's. -/
structure Cod.Of (P : Program) (T : TypeId) {α : Type} (r : Rep α) where
  cod : Cod P T α
  es : cod.es = r.es
  rd : ∀ (H : Heap) cs x, cod.rd H cs x → r.R H (· < H.size) cs x
def Cod.of (c : Cod P T α) (r : Rep β) (hs : c.es = r.es) (h : ∀ (H : Heap) cs x, c.rd H cs x → ∃ y, r.R H (· < H.size) cs y) : Cod.Of P T r := ⟨Cod.rep c r hs h, rfl, fun _ _ _ h => h⟩
def Cod.Of.list {r : Rep α} (c : Cod.Of P e r) (ht : P.underlying T = some (.slice e)) (h1 : P.cellsOf T = 1) (hby : decide (0 < P.bytesOf e) = true) : Cod.Of P T r.list := ⟨Cod.listOf c.cod r c.es c.rd ht h1 hby, rfl, fun _ _ _ h => h⟩
def Cod.Of.int (ht : P.underlying T = some (.int .i64)) (hs : P.cellsOf T = 1) : Cod.Of P T intR := Cod.of (Cod.int .i64 ht hs) intR rfl fun _ _ x h => ⟨x, h.1⟩
def Cod.Of.ty {TL t0 t1 : TypeId} (h0 : fieldAt P T 0 = some (0, 1, t0)) (h1 : fieldAt P T 1 = some (1, 1, t1)) (h2 : fieldAt P T 2 = some (2, 1, TL)) (hi0 : P.underlying t0 = some (.int .i64)) (hi1 : P.underlying t1 = some (.int .i64)) (hT : P.cellsOf T = 3) (hTL : P.underlying TL = some (.slice T)) (hby : decide (0 < P.bytesOf T) = true) : Cod.Of P T tyR :=
  ⟨Cod.ty h0 h1 h2 hi0 hi1 hT hTL hby, rfl, fun _ _ _ h => h⟩
theorem Cod.Of.top {r : Rep α} (c : Cod.Of P T r) {w : World} {cs : List Value} {x : α} (h : c.cod.rd w.heap cs x) : r.at (Cx.top w) cs x := c.rd _ _ _ h
end
end Go.Lir
namespace Go.Lir
def QjV (b : UInt8) : List Value := [.int .u8 (b.toNat : Int)]
def u8R : Rep UInt8 := Rep.lit (fun b => .int .u8 (b.toNat : Int)) (fun _ => rfl)
theorem u8R_out {c : Cx} {cs : List Value} {b : UInt8} (h : u8R.at c cs b) : cs = [.int .u8 (b.toNat : Int)] := h
theorem u8R_ls {c : Cx} (l : List UInt8) : u8R.ls c (l.map QjV) l := ⟨by simp, fun m x hx => ⟨QjV x, by rw [List.getElem?_map, hx]; rfl, rfl⟩⟩
theorem Rep.LR.u8 {r : Rep UInt8} {H : Heap} {K : Nat → Prop} {css : List (List Value)} {l : List UInt8} (hr : r = u8R) (h : r.LR H K css l) : css = l.map QjV := by
  subst hr
  apply List.ext_getElem?
  intro m
  rw [List.getElem?_map]
  rcases Nat.lt_or_ge m l.length with hm | hm
  · obtain ⟨d, h4, h5⟩ := h.2 m _ (List.getElem?_eq_getElem hm)
    have h5 : d = [_] := h5
    rw [h4, List.getElem?_eq_getElem hm, h5]; rfl
  · rw [List.getElem?_eq_none (by rw [h.1]; exact hm), List.getElem?_eq_none hm]; rfl
section
variable {P : Program} {l : List GO} {Q : QT} {ρ : Env} {w : World} {c : Cx} {L : List Res} {v : Value}
theorem Ql9 (s : List UInt8) : (s.map QjV).flatten = s.map fun b => Value.int .u8 (b.toNat : Int) := by
  induction s with
  | nil => rfl
  | cons b s ih => simp [QjV, ih]
/-- []byte(s) -/
theorem s_bytes {d src dst e Ty : Nat} {x : Operand} {s : ByteArray} (hs : P.underlying src = some .string) (hd : P.underlying dst = some (.slice e)) (he : P.underlying e = some (.int .u8)) (hS : St c w L) (hx : ρ.ev x = .string s)
    (h : ∀ v' w', St c w' (sl e 1 v' (s.data.toList.map QjV) :: L) → Q3 P l Q (upd ρ d v') w') : Q3 P (⟨none, .raw ⟨some d, .convert src dst x, Ty, "", #[], none⟩⟩ :: l) Q ρ w := by
  have hr := run_bytes_of_string (P := P) w src dst e s hs hd he
  have hge := grownCap_ge w s.size 0 e
  generalize hcap : grownCap w s.size 0 e = cap at hr hge
  refine Q10 (v := .slice (some ⟨w.heap.size, 0, none⟩) s.size cap) (w' := w.drew.alloc (.cells (bytesRow s cap) e ((bytesRow s cap).size, (bytesRow s cap).size + 1))) ?_ ?_
  · simp only [execOp, hx, Sem.run_bind, hr, Result.andThen_ok, Sem.run_pure]
  · have hsz : s.data.size = s.size := rfl
    have hrow : (bytesRow s cap).size = cap := by simp [bytesRow]; omega
    refine h _ _ (hS.new (F' := (· = w.heap.size)) ?_ (((Fr.refl NF w).drew').then0 (Qax w.drew _)) fun b hb => by omega)
    refine ⟨by intro q hq; obtain ⟨b, _, rfl⟩ := List.mem_map.1 hq; rfl, .inr ⟨w.heap.size, 0, cap, (bytesRow s cap).toList, ?_, ?_, ?_, ?_, ?_, fun _ => Iff.rfl⟩⟩
    · have : (List.map QjV s.data.toList).length = s.size := by rw [List.length_map, Array.length_toList]; rfl
      rw [this]
    · have : (List.map QjV s.data.toList).length = s.size := by rw [List.length_map, Array.length_toList]; rfl
      rw [this]; exact hge
    · refine ⟨((bytesRow s cap).size, (bytesRow s cap).size + 1), ?_, ?_⟩
      · show (w.heap.push _)[w.heap.size]? = _
        rw [Array.getElem?_push_size]
      · refine ⟨fun i h1 h2 => ?_, by simp⟩
        simp only [Array.length_toList] at *; omega
    · simp [hrow]
    · intro i hi
      rw [Ql9]
      simp only [List.length_map, Array.length_toList, Nat.mul_one] at hi
      rw [Nat.zero_add, Array.getElem?_toList, bytesRow_at s cap i hi, List.getElem?_map, Array.getElem?_toList, Array.getElem?_eq_getElem hi]; rfl
/-- A part of an array that is a value. -/
theorem Qk6 {d T Ty e n : Nat} {x y : Operand} {k : IntKind} {m : Int} {cs : List Value} {u : Value} (hT : P.underlying T = some (.array n e)) (he : Q3I P e = true) (hsz : Q4i P e = some 1) (hx : ρ.ev x = .agg ⟨cs⟩) (hy : ρ.ev y = .int k m) (h0 : 0 ≤ m) (hm : m < n) (hu : cs[m.toNat]? = some u)
    (h : Q3 P l Q (upd ρ d u) w) : Q3 P (⟨none, .raw ⟨some d, .index T x y, Ty, "", #[], none⟩⟩ :: l) Q ρ w := by
  refine Q10 (v := u) (w' := w) ?_ h
  simp only [execOp, hx, hy, Instr.index, Sem.run_bind, asIntOf, Sem.run_pure, Result.andThen_ok, Qe P T _ w hT]
  rw [if_pos ⟨h0, hm⟩]
  simp only [Sem.run_bind, Q19 P e 1 w hsz, Result.andThen_ok, Nat.mul_one, Qi6 P e ⟨cs⟩ _ _ w he (by simpa using hu)]
end
end Go.Lir
namespace Go.Lir

/-! ### A call that returns, or panics with one value -/

def Fins (P : Program) (f : FuncId) (args : List Value) (w : World) (S T : Value → World → Prop) : Prop :=
  Calls P f ⟨args⟩ w fun e w' => (∃ v, e = .returned v ∧ S v w') ∨ (∃ v, e = .panicked [{ v := v, recovered := false }] ∧ T v w')

theorem Fins.mono {P : Program} {f : FuncId} {args : List Value} {w : World} {S S' T T' : Value → World → Prop} (h : Fins P f args w S T) (hs : ∀ v w', S v w' → S' v w') (ht : ∀ v w', T v w' → T' v w') : Fins P f args w S' T' :=
  Calls.mono h fun _ _ h => h.elim (fun ⟨v, he, hv⟩ => .inl ⟨v, he, hs _ _ hv⟩) (fun ⟨v, he, hv⟩ => .inr ⟨v, he, ht _ _ hv⟩)
theorem Rets.ends {P : Program} {f : FuncId} {args : List Value} {w : World} {S T : Value → World → Prop} (h : Rets P f args w S) : Fins P f args w S T :=
  Calls.mono h fun _ _ h => .inl h
section
variable {P : Program} {l : List GO} {Q : QT} {ρ : Env} {w : World}
theorem Qmm {d : Nat} {f : FuncId} {xs : List Operand} {args : List Value} {S T : Value → World → Prop} (hxs : xs.map ρ.ev = args) (hc : Fins P f args w S T)
    (hp : ∀ v w', T v w' → Q (.panic [{ v := v, recovered := false }]) ρ w') (h : ∀ v w', S v w' → Q3 P l Q (upd ρ d v) w') : Q3 P (⟨none, .call (some d) f xs⟩ :: l) Q ρ w := by
  subst hxs
  refine Calls.mono hc fun e w' h' => ?_
  rcases h' with ⟨v, he, hs⟩ | ⟨v, he, hs⟩
  · subst he; exact h v w' hs
  · subst he; exact hp v w' hs
theorem s_mkb {d : Nat} {Ty : TypeId} {f : FuncId} {fs : Array Operand} {u : List Value} (hu : fs.toList.map ρ.ev = u) (h : Q3 P l Q (upd ρ d (.func (.func f) ⟨u⟩ #[])) w) : Q3 P (⟨none, .raw ⟨some d, .makeFunc (.func f) fs #[], Ty, "", #[], none⟩⟩ :: l) Q ρ w := by
  subst hu
  have e : (⟨fs.toList.map ρ.ev⟩ : Array Value) = fs.map ρ.ev := by apply Array.ext'; simp
  show Q5I P ⟨some d, .makeFunc (.func f) fs #[], Ty, "", #[], none⟩ ρ w (Q3 P l Q) Q
  refine Q10 (v := .func (.func f) ⟨fs.toList.map ρ.ev⟩ #[]) (w' := w) ?_ (by exact h)
  rw [e]
  simp [execOp, Instr.makeFunc]
/-- A function value, with what it is called with if nothing else is. -/
def FnV (fv : Value) (g : FuncId) (args : List Value) : Prop := ∃ a b, fv = .func (.func g) ⟨a⟩ ⟨b⟩ ∧ args = a ++ b
theorem QnO {d : Nat} {x : Operand} {fv : Value} {f : FuncId} {args : List Value} {S T : Value → World → Prop} (hx : ρ.ev x = fv) (hv : FnV fv f args) (hf : Q38 P f = true) (hc : Fins P f args w S T)
    (hp : ∀ v w', T v w' → Q (.panic [{ v := v, recovered := false }]) ρ w') (h : ∀ v w', S v w' → Q3 P l Q (upd ρ d v) w') : Q3 P (⟨none, .callv (some d) x []⟩ :: l) Q ρ w := by
  unfold Q38 at hf
  rw [Option.any_eq_true] at hf
  obtain ⟨fn, h1, h2⟩ := hf
  rw [Bool.and_eq_true, Bool.not_eq_true'] at h2
  obtain ⟨a, b, rfl, rfl⟩ := hv
  refine ⟨f, ⟨a⟩, ⟨b⟩, fn, hx, h1, h2.1, h2.2, ?_⟩
  have : (Array.mk a ++ Array.mk (List.map ρ.ev []) ++ Array.mk b : Array Value) = ⟨a ++ b⟩ := by simp
  rw [this]
  refine Calls.mono hc fun e w' h' => ?_
  rcases h' with ⟨v, rfl, hs⟩ | ⟨v, rfl, hs⟩
  · exact h v w' hs
  · exact hp v w' hs
theorem Qo {K : KT} {ch : List PanicEntry} (h : Q (.panic ch) ρ w) : QF K Q (.panic ch) ρ w := h
theorem Qp {id : Nat} {ch : List PanicEntry} (h : Q (.panic ch) ρ w) : QK id Q (.panic ch) ρ w := h
theorem QG {rs : List ResultVar} {R : Ending → World → Prop} {ch : List PanicEntry} (h : R (.panicked ch) w) : retQ P rs R (.panic ch) ρ w := h
theorem QnJ {d : Option Nat} {x : Operand} {Ty T : TypeId} {v : Value} (hx : ρ.ev x = .iface T v) (h : Q (.panic [{ v := .iface T v, recovered := false }]) ρ w) : Q3 P (⟨none, .raw ⟨d, .panic x, Ty, "", #[], none⟩⟩ :: l) Q ρ w := by
  refine (?_ : Q5I P _ ρ w _ Q)
  unfold Q5I
  have e : (execOp ρ.ev ⟨d, .panic x, Ty, "", #[], none⟩).run P w = .halt (.panic (.iface T v)) w := by
    simp [execOp, Instr.panic, hx, goPanic, Sem.run]
  rw [e]; exact h
theorem s_assert {d : Nat} {x : Operand} {Ty T xT : TypeId} {v : Value} {D : TypeDesc} (hd : P.underlying T = some D) (hi : ∀ m, D ≠ .interface m) (hx : ρ.ev x = .iface T v)
    (h : Q3 P l Q (upd ρ d (.tuple #[v, .bool true])) w) : Q3 P (⟨none, .raw ⟨some d, .typeAssert x xT T true, Ty, "", #[], none⟩⟩ :: l) Q ρ w := by
  refine Q10 (v := .tuple #[v, .bool true]) (w' := w) ?_ h
  simp only [execOp, Instr.typeAssert, hx, Sem.run_bind, Qe P T D w hd, Result.andThen_ok]
  cases D <;> first | (exact absurd rfl (hi _)) | simp
end

/-! ### Deferred calls: lowered code in which one is put off -/

inductive LSp where
  | dfr (d : Option Nat) (x : Operand)
  | rcv (d : Option Nat)

inductive LD where
  | pl (c : LC)
  | seq (a b : LD)
  | sp (l1 : List GO) (o : LSp) (l2 : List GO)

def spOf (o : Oper) : Option LSp := match o.guard, o.op with
  | none, .defer ⟨.value x, xs, _⟩ => if xs.size = 0 then some (.dfr o.dst x) else none
  | none, .call ⟨.builtin .recover, xs, _⟩ => if xs.size = 0 then some (.rcv o.dst) else none
  | _, _ => none
def hasSp : Code → Bool
  | .seq a b => hasSp a || hasSp b
  | .region _ ops _ => ops.toList.any fun o => (spOf o).isSome
  | _ => false
def Qdw : List Oper → Option (List Oper × Oper × LSp × List Oper)
  | [] => none
  | o :: r => match spOf o with
    | some s => some ([], o, s, r)
    | none => (Qdw r).map fun p => (o :: p.1, p.2)
def lowD (P : Program) (n : Nat) : Code → LD
  | .seq a b => if hasSp a || hasSp b then .seq (lowD P n a) (lowD P n b) else .pl (Q3t P n (.seq a b))
  | .region id ops false => match Qdw ops.toList with
    | some (l1, o, s, l2) => if ops.toList.all (okG n ops) then .sp (l1.map (Q2X P ops)) s (l2.map (Q2X P ops)) else .pl .bad
    | none => .pl (Q3t P n (.region id ops false))
  | c => .pl (Q3t P n c)
def Qn4 (P : Program) (fn : Func) : Option LD := fn.body.map (lowD P fn.ntmps)

def LD.wpD (P : Program) : LD → (List Deferred → QT) → List Deferred → Env → World → Prop
  | .pl c, Q, ds, ρ, w => c.wp P (Q ds) ρ w
  | .seq a b, Q, ds, ρ, w => a.wpD P (fun ds' => QF (b.wpD P Q ds') (Q ds')) ds ρ w
  | .sp l1 (.dfr d x) l2, Q, ds, ρ, w => Q3 P l1 (QF (fun ρ w => ∃ f cap, ρ.ev x = .func (.func f) #[] cap ∧ Q3 P l2 (Q (⟨.fn (.func f) cap, #[]⟩ :: ds)) (updo ρ d undef) w) (Q ds)) ρ w
  | _, _, _, _, _ => False

theorem Q6l : ∀ {ops l1 l2 : List Oper} {o : Oper} {s : LSp}, Qdw ops = some (l1, o, s, l2) → ops = l1 ++ o :: l2 ∧ spOf o = some s
  | [], _, _, _, _, h => by simp [Qdw] at h
  | o' :: r, l1, l2, o, s, h => by
    rw [Qdw] at h
    cases hs : spOf o' with
    | some s' =>
      simp only [hs, Option.some.injEq, Prod.mk.injEq] at h
      obtain ⟨rfl, rfl, rfl, rfl⟩ := h
      exact ⟨rfl, hs⟩
    | none =>
      simp only [hs, Option.map_eq_some_iff] at h
      obtain ⟨⟨a, b, c, d⟩, h1, h2⟩ := h
      simp only [Prod.mk.injEq] at h2
      obtain ⟨rfl, rfl, rfl, rfl⟩ := h2
      obtain ⟨h3, h4⟩ := Q6l h1
      exact ⟨by rw [h3]; rfl, h4⟩

theorem Qb7 {P : Program} {o : Oper} {a : Act} {K K' : Act → World → Prop} {Q Q' : Exit → Act → World → Prop} (hk : ∀ a w, K a w → K' a w) (hp : ∀ ch a w, Q (.panic ch) a w → Q' (.panic ch) a w) (ho : LetsOut Q → LetsOut Q') (r : Result Next) (h : o.upon P a K Q r) : o.upon P a K' Q' r := by
  cases r with
  | ok n w =>
    cases n <;> first | exact hk _ _ h | exact h | skip
    · refine Calls.mono h fun e w h => ?_
      cases e <;> first | exact hk _ _ h | exact hp _ _ _ h | exact ho h
    · exact Rows.mono h fun v w h => hk _ _ h
  | halt x w => cases x <;> first | exact hp _ _ _ h | exact h

theorem Q3U {P : Program} {ops : Array Oper} {Q : Exit → Act → World → Prop} {l2 : List Nat} : ∀ (l1 : List Nat) (a : Act) (w : World),
    wpOps P ops (Exit.then (wpOps P ops Q l2) Q) l1 a w → wpOps P ops Q (l1 ++ l2) a w
  | [], a, w, h => h
  | i :: l1, a, w, h => by
    simp only [List.cons_append, wpOps] at h ⊢
    cases ho : ops[i]? with
    | none => simp only [ho] at h ⊢; exact Q3U l1 a w h
    | some o =>
      simp only [ho] at h ⊢
      split
      · rename_i hw
        rw [if_pos hw] at h
        rcases h with h | ⟨h1, h2⟩
        · exact .inl (Qb7 (fun a w h => Q3U l1 a w h) (fun ch a w h => h) (fun h => h) _ h)
        · exact .inr ⟨h1, h2⟩
      · rename_i hw
        rw [if_neg hw] at h
        exact Q3U l1 _ w h
theorem Q3G {P : Program} {ops : Array Oper} {Q Q' : Exit → Act → World → Prop} (hq : ∀ e a w, Q e a w → Q' e a w) : ∀ (l : List Nat) (a : Act) (w : World), wpOps P ops Q l a w → wpOps P ops Q' l a w
  | [], a, w, h => hq _ _ _ h
  | i :: l, a, w, h => by
    simp only [wpOps] at h ⊢
    have ho' : LetsOut Q → LetsOut Q' := fun ⟨a, w, h⟩ => ⟨a, w, hq _ _ _ h⟩
    cases ho : ops[i]? with
    | none => simp only [ho] at h ⊢; exact Q3G hq l a w h
    | some o =>
      simp only [ho] at h ⊢
      split
      · rename_i hw
        rw [if_pos hw] at h
        rcases h with h | ⟨h1, h2⟩
        · exact .inl (Qb7 (fun a w h => Q3G hq l a w h) (fun ch a w h => hq _ _ _ h) ho' _ h)
        · exact .inr ⟨h1, ho' h2⟩
      · rename_i hw
        rw [if_neg hw] at h
        exact Q3G hq l _ w h

def liftD (n : Nat) (Q : List Deferred → QT) : Exit → Act → World → Prop := fun e a w => ∃ ds, Qki n ds (Q ds) e a w

theorem Qka {α : Type} {ops l1 l2 : List α} {o : α} (h : ops = l1 ++ o :: l2) : List.range ops.length = List.range l1.length ++ l1.length :: (List.range l2.length).map (l1.length + 1 + ·) := by
  subst h
  apply List.ext_getElem
  · simp
  · intro i h1 h2
    rw [List.getElem_range]
    rcases Nat.lt_trichotomy i l1.length with h | h | h
    · rw [List.getElem_append_left (by simpa using h), List.getElem_range]
    · subst h; rw [List.getElem_append_right (by simp)]; simp
    · rw [List.getElem_append_right (by simpa using Nat.le_of_lt h)]
      simp only [List.length_range]
      rw [List.getElem_cons]
      rw [dif_neg (by omega), List.getElem_map, List.getElem_range]; omega
theorem QnC {α β : Type} {ops l1 l2 : List α} {o : α} (g : α → β) (h : ops = l1 ++ o :: l2) : ((List.range l2.length).map (l1.length + 1 + ·)).filterMap (fun i => (ops[i]?).map g) = l2.map g := by
  subst h
  rw [List.filterMap_map]
  have : ∀ i, ((fun i => ((l1 ++ o :: l2)[i]?).map g) ∘ (l1.length + 1 + ·)) i = (l2[i]?).map g := by
    intro i
    simp only [Function.comp]
    rw [List.getElem?_append_right (by omega)]
    rw [show l1.length + 1 + i - l1.length = i + 1 by omega, List.getElem?_cons_succ]
  rw [Q2M (fun i _ => this i)]
  have := Q3J g l2 []
  simpa [List.range_eq_range'] using this
theorem Qmg {α β : Type} {ops l1 l2 : List α} {o : α} (g : α → β) (h : ops = l1 ++ o :: l2) : (List.range l1.length).filterMap (fun i => (ops[i]?).map g) = l1.map g := by
  subst h
  have : ∀ i ∈ List.range l1.length, ((l1 ++ o :: l2)[i]?).map g = (l1[i]?).map g := by
    intro i hi
    rw [List.getElem?_append_left (by simpa using hi)]
  rw [Q2M this]
  have := Q3J g l1 []
  simpa [List.range_eq_range'] using this

theorem Qn5 {P : Program} {n : Nat} : ∀ (c : Code) (Q : List Deferred → QT) (ds : List Deferred) (ρ : Env) (a : Act) (w : World), Rel n ρ ds a → (lowD P n c).wpD P Q ds ρ w → c.wp P (liftD n Q) a w := by
  have hpl : ∀ (c : Code) (Q : List Deferred → QT) (ds : List Deferred) (ρ : Env) (a : Act) (w : World), Rel n ρ ds a → (Q3t P n c).wp P (Q ds) ρ w → c.wp P (liftD n Q) a w := fun c Q ds ρ a w hr h =>
    wp_mono (Q74 c _ ρ a w hr h) fun e a w h => ⟨ds, h⟩
  intro c
  induction c with
  | seq x y ihx ihy =>
    intro Q ds ρ a w hr h
    rw [lowD] at h
    split at h
    · refine wp_seq ?_
      refine wp_mono (ihx _ ds ρ a w hr h) ?_
      rintro e a w ⟨ds', ρ', hr', h'⟩
      cases e with
      | normal => exact ihy _ ds' ρ' a w hr' h'
      | _ => exact ⟨ds', ρ', hr', h'⟩
    · exact hpl _ Q ds ρ a w hr h
  | region id ops draw =>
    intro Q ds ρ a w hr h
    cases draw with
    | true => exact hpl _ Q ds ρ a w hr h
    | false =>
      rw [lowD] at h
      split at h
      · rename_i l1 o s l2 hs
        obtain ⟨hops, hsp⟩ := Q6l hs
        split at h
        · rename_i hall
          have hok : ∀ i o, ops[i]? = some o → okG n ops o = true := fun i o hi => List.all_eq_true.1 hall o (by rw [← Array.getElem?_toList] at hi; exact List.mem_of_getElem? hi)
          have hsz : ops.size = ops.toList.length := by simp
          have hgm : ∀ (l : List Nat), (l.filterMap fun i => (ops[i]?).map (Q2X P ops)) = l.filterMap fun i => (ops.toList[i]?).map (Q2X P ops) := fun l => by simp
          have hlen : ops.toList.length = l1.length + 1 + l2.length := by rw [hops]; simp; omega
          have hrange : ∀ (l : List Nat), (∀ i ∈ l, i < ops.size) → ∀ i ∈ l, ∃ o, ops[i]? = some o ∧ okG n ops o = true := fun l hl i hi => ⟨ops[i]'(hl i hi), by simp [hl i hi], hok i _ (by simp [hl i hi])⟩
          refine wp_region ?_
          rw [hsz, Qka hops]
          refine Q3U _ _ _ ?_
          cases s with
          | rcv d => exact h.elim
          | dfr d x =>
            have h1 := Q7m (Q := QF (fun ρ w => ∃ f cap, ρ.ev x = .func (.func f) #[] cap ∧ Q3 P (l2.map (Q2X P ops)) (Q (⟨.fn (.func f) cap, #[]⟩ :: ds)) (updo ρ d undef) w) (Q ds)) (ds := ds) (List.range l1.length) ρ a w hr
              (hrange _ fun i hi => by rw [hsz, hlen]; have := List.mem_range.1 hi; omega) (by rw [hgm, Qmg _ hops]; exact h)
            refine Q3G ?_ _ _ _ h1
            rintro e a w ⟨ρ', hr', h'⟩
            cases e with
            | normal =>
              obtain ⟨f, cap, hf, h'⟩ := h'
              have hoi : ops[l1.length]? = some o := by rw [← Array.getElem?_toList, hops]; simp
              refine (?_ : wpOps P ops _ (l1.length :: _) a w)
              simp only [wpOps, hoi]
              have hg : o.guard = none ∧ ∃ ts, ∃ xs : Array Operand, o.op = .defer ⟨.value x, xs, ts⟩ ∧ xs.size = 0 ∧ o.dst = d := by
                unfold spOf at hsp
                split at hsp
                · rename_i x' xs' ts' hg ho
                  split at hsp
                  · rename_i hx0
                    simp only [Option.some.injEq, LSp.dfr.injEq] at hsp
                    obtain ⟨g1, g2⟩ := hsp
                    subst g2
                    exact ⟨hg, ts', xs', ho, hx0, g1⟩
                  · cases hsp
                · split at hsp <;> cases hsp
                · cases hsp
              obtain ⟨hgd, ts, xs, hop, hxs, hd⟩ := hg
              have hxs' : xs = #[] := Array.eq_empty_of_size_eq_zero hxs
              subst hxs'
              rw [if_pos (by simp [Region.wanted, hgd])]
              refine .inl ?_
              unfold Oper.wp
              have e1 : (execOp a.eval o).run P w = .ok (.defer ⟨.fn (.func f) cap, #[]⟩) w := by
                simp [execOp, hop, resolve, hr'.ev, hf, Deferred.ofValue]
              rw [e1, Oper.upon_defer, hd]
              have hdn := Qbr (hok _ o hoi)
              rw [hd] at hdn
              have hr2 : Rel n (updo ρ' d undef) (⟨.fn (.func f) cap, #[]⟩ :: ds) ({ a with defers := ⟨.fn (.func f) cap, #[]⟩ :: a.defers }.put d undef) := by
                have hr3 : Rel n ρ' (⟨.fn (.func f) cap, #[]⟩ :: ds) { a with defers := ⟨.fn (.func f) cap, #[]⟩ :: a.defers } := ⟨hr'.1, hr'.2.1, by simp [hr'.2.2]⟩
                exact hr3.put d undef hdn
              have h2 := Q7m (Q := Q (⟨.fn (.func f) cap, #[]⟩ :: ds)) (ds := ⟨.fn (.func f) cap, #[]⟩ :: ds) _ _ _ w hr2
                (hrange ((List.range l2.length).map (l1.length + 1 + ·)) fun i hi => by rw [hsz, hlen]; rw [List.mem_map] at hi; obtain ⟨j, hj, rfl⟩ := hi; have := List.mem_range.1 hj; omega) (by rw [hgm, QnC _ hops]; exact h')
              exact Q3G (fun e a w h => ⟨_, h⟩) _ _ _ h2
            | _ => exact ⟨ds, ρ', hr', h'⟩
        · exact h.elim
      · exact hpl _ Q ds ρ a w hr h
  | _ => exact hpl _

/-- What becomes of a function's end, its deferred calls still to come. -/
def Q4m (P : Program) (rs : List ResultVar) (ρ : Env) (R : Ending → World → Prop) : List Deferred → FrameMode → World → Prop
  | [], .returning, w => Q1E P w ρ rs [] fun v => R (.returned v) w
  | [], .panicking chain, w => R (.panicked chain) w
  | [], .run, _ => False
  | d :: ds, u, w => u ≠ .run ∧ ∃ f cap, d = ⟨.fn (.func f) cap, #[]⟩ ∧ Q38 P f = true ∧ CallsD P f cap u w fun
      | .returned _, u', w' => Q4m P rs ρ R ds (settle u') w'
      | .panicked chain, u', w' => Q4m P rs ρ R ds (raised u' chain) w'
      | .outgrown, _, w' => R .outgrown w'
def retD (P : Program) (rs : List ResultVar) (R : Ending → World → Prop) (ds : List Deferred) : QT
  | .normal, ρ, w | .ret, ρ, w => Q4m P rs ρ R ds .returning w
  | .panic chain, ρ, w => Q4m P rs ρ R ds (.panicking chain) w
  | .outgrown, _, w => R .outgrown w
  | _, _, _ => False

theorem Q3O {P : Program} {fn : Func} {tmps : Array Value} {ρ : Env} {R : Ending → World → Prop} (ht : ∀ i, tmps.getD i undef = ρ i) : ∀ (ds : List Deferred) (u : FrameMode) (w : World),
    Q4m P fn.results.toList ρ R ds u w → Leaves P fn tmps R ds u w
  | [], .returning, w, h => by obtain ⟨v, h1, h2⟩ := Q2S ht h; exact ⟨v, h1, h2⟩
  | [], .panicking _, w, h => h
  | [], .run, w, h => h.elim
  | d :: ds, u, w, h => by
    obtain ⟨hu, f, cap, rfl, hf, hc⟩ := h
    unfold Q38 at hf
    rw [Option.any_eq_true] at hf
    obtain ⟨fn', h1, h2⟩ := hf
    rw [Bool.and_eq_true, Bool.not_eq_true'] at h2
    refine leaves_cons hu (f := f) (args := cap) ?_ ?_
    · simp only [invoke]
      rw [Qcd _ h1 h2.1 h2.2]; simp
    · refine hc.mono ?_
      intro e u' w' h
      cases e with
      | returned v => exact Q3O ht ds _ _ h
      | panicked ch => exact Q3O ht ds _ _ h
      | outgrown => exact h

theorem QiZ {P : Program} {f : FuncId} {fn : Func} {args : List Value} {w : World} {R : Ending → World → Prop} {ld : LD} {rs : List ResultVar}
    (hf : P.funcs[f]? = some fn) (hl : Qn4 P fn = some ld) (hrs : fn.results.toList = rs) (hn : Nat.ble args.length fn.ntmps = true)
    (h : ld.wpD P (retD P rs R) [] (Qi args) w) : Calls P f ⟨args⟩ w R := by
  unfold Qn4 at hl
  cases hb : fn.body with
  | none => simp [hb] at hl
  | some c =>
    simp only [hb, Option.map_some, Option.some.injEq] at hl
    subst hl hrs
    refine calls_of_wp_defers hf hb ?_
    have hn' : args.length ≤ fn.ntmps := Nat.le_of_ble_eq_true hn
    refine wp_mono (Qn5 c _ [] _ _ _ (QbU ⟨args⟩ fn.ntmps hn' []) h) ?_
    rintro e a w ⟨ds, ρ, hr, h⟩
    have hd := hr.2.2
    cases e with
    | normal => exact (hd ▸ Q3O hr.2.1 ds _ _ h : Leaves P fn a.tmps R a.defers .returning w)
    | ret => exact (hd ▸ Q3O hr.2.1 ds _ _ h : Leaves P fn a.tmps R a.defers .returning w)
    | panic ch => exact (hd ▸ Q3O hr.2.1 ds _ _ h : Leaves P fn a.tmps R a.defers (.panicking ch) w)
    | outgrown => exact h
    | exit => exact h
    | goto => exact h

/-! ### The deferred function: lowered code that recovers -/

def recM : FrameMode → Value × FrameMode
  | .panicking ({ v := v, recovered := false, goexit := false } :: older) => (v, .panicking ({ v := v, recovered := true } :: older))
  | u => (.nilIface, u)

def LD.wpR (P : Program) : LD → (FrameMode → QT) → FrameMode → Env → World → Prop
  | .pl c, Q, u, ρ, w => c.wp P (Q u) ρ w
  | .seq a b, Q, u, ρ, w => a.wpR P (fun u' => QF (b.wpR P Q u') (Q u')) u ρ w
  | .sp l1 (.rcv d) l2, Q, u, ρ, w => Q3 P l1 (QF (fun ρ w => Q3 P l2 (Q (recM u).2) (updo ρ d (recM u).1) w) (Q u)) ρ w
  | _, _, _, _, _ => False

def liftR (n : Nat) (c₀ : Frame) (cs : List Frame) (Q : FrameMode → QT) : Exit → Act → List Frame → World → Prop :=
  fun e a cs' w => ∃ u, cs' = { c₀ with mode := u } :: cs ∧ Qki n [] (Q u) e a w

theorem Qle (c₀ : Frame) (cs : List Frame) (u : FrameMode) : (match recoverD ({ c₀ with mode := u } :: cs) with
    | some (v, cs') => (v, cs')
    | none => (.nilIface, { c₀ with mode := u } :: cs)) = ((recM u).1, { c₀ with mode := (recM u).2 } :: cs) := by
  unfold recoverD recM
  dsimp only
  split <;> rename_i h
  · split at h
    · rename_i hm
      simp only [Option.some.injEq, Prod.mk.injEq] at h
      obtain ⟨rfl, rfl⟩ := h
      rfl
    · cases h
  · split at h
    · cases h
    · rename_i hm
      split
      · rename_i hm'
        exact absurd rfl (hm _ _)
      · rfl

theorem QdS {P : Program} {n : Nat} {ops : Array Oper} {Q : QT} {QS : Exit → Act → List Frame → World → Prop} {cs : List Frame} {rest : List Nat} (hn : ∀ a w, Qki n [] Q .normal a w → wpOpsS P ops QS rest a cs w) (hq : ∀ e a w, e ≠ .normal → Qki n [] Q e a w → QS e a cs w) : ∀ (l : List Nat) (ρ : Env) (a : Act) (w : World), Rel n ρ [] a →
    (∀ i ∈ l, ∃ o, ops[i]? = some o ∧ okG n ops o = true) →
    Q3 P (l.filterMap fun i => (ops[i]?).map (Q2X P ops)) Q ρ w → wpOpsS P ops QS (l ++ rest) a cs w := by
  intro l
  induction l with
  | nil => intro ρ a w hr _ h; exact hn a w ⟨ρ, hr, h⟩
  | cons i l ih =>
    intro ρ a w hr hok h
    obtain ⟨o, ho, hg⟩ := hok i (by simp)
    have hok' : ∀ i ∈ l, ∃ o, ops[i]? = some o ∧ okG n ops o = true := fun i hi => hok i (by simp [hi])
    simp only [List.filterMap_cons, ho, Option.map_some] at h
    have h' := Qca hr hg _ Q w h
    simp only [List.cons_append, wpOpsS, ho]
    split
    · rename_i hw
      rw [if_pos hw] at h'
      have h1 := Qk9 (ds := []) hr (Qbr hg) (QdR h')
      have h2 := Qb7 (Q' := fun e a' w' => QS e a' cs w') (K' := fun a' w' => wpOpsS P ops QS (l ++ rest) a' cs w') (fun a w ⟨ρ, hr, h⟩ => ih ρ a w hr hok' h) (fun ch a w h => hq _ a w (by simp) h) (fun ⟨a, w, h⟩ => ⟨a, w, hq _ a w (by simp) h⟩) _ h1
      split
      · rename_i w' hrun
        rw [hrun] at h2
        exact h2.elim
      · rename_i r hrun
        exact h2
    · rename_i hw
      rw [if_neg hw] at h'
      exact ih _ _ w (hr.put _ _ (Qbr hg)) hok' h'

theorem Qn3 {P : Program} {n : Nat} {c₀ : Frame} {cs : List Frame} : ∀ (c : Code) (Q : FrameMode → QT) (u : FrameMode) (ρ : Env) (a : Act) (w : World), Rel n ρ [] a → (lowD P n c).wpR P Q u ρ w → c.wpS P (liftR n c₀ cs Q) a ({ c₀ with mode := u } :: cs) w := by
  have hpl : ∀ (c : Code) (Q : FrameMode → QT) (u : FrameMode) (ρ : Env) (a : Act) (w : World), Rel n ρ [] a → (Q3t P n c).wp P (Q u) ρ w → c.wpS P (liftR n c₀ cs Q) a ({ c₀ with mode := u } :: cs) w := fun c Q u ρ a w hr h =>
    wpS_of_wp (wp_mono (Q74 c _ ρ a w hr h) fun e a w h => ⟨u, rfl, h⟩)
  intro c
  induction c with
  | seq x y ihx ihy =>
    intro Q u ρ a w hr h
    rw [lowD] at h
    split at h
    · refine wpS_seq ?_
      intro b k hb hro
      obtain ⟨e, a', cs', w', ⟨u', rfl, ρ', hr', h'⟩, harr⟩ := ihx _ u ρ a w hr h b k hb hro
      refine ⟨e, a', _, w', ?_, harr⟩
      cases e with
      | normal => exact ihy _ u' ρ' a' w' hr' h'
      | _ => exact ⟨u', rfl, ρ', hr', h'⟩
    · exact hpl _ Q u ρ a w hr h
  | region id ops draw =>
    intro Q u ρ a w hr h
    cases draw with
    | true => exact hpl _ Q u ρ a w hr h
    | false =>
      rw [lowD] at h
      split at h
      · rename_i l1 o s l2 hs
        obtain ⟨hops, hsp⟩ := Q6l hs
        split at h
        · rename_i hall
          have hok : ∀ i o, ops[i]? = some o → okG n ops o = true := fun i o hi => List.all_eq_true.1 hall o (by rw [← Array.getElem?_toList] at hi; exact List.mem_of_getElem? hi)
          have hsz : ops.size = ops.toList.length := by simp
          have hgm : ∀ (l : List Nat), (l.filterMap fun i => (ops[i]?).map (Q2X P ops)) = l.filterMap fun i => (ops.toList[i]?).map (Q2X P ops) := fun l => by simp
          have hlen : ops.toList.length = l1.length + 1 + l2.length := by rw [hops]; simp; omega
          have hrange : ∀ (l : List Nat), (∀ i ∈ l, i < ops.size) → ∀ i ∈ l, ∃ o, ops[i]? = some o ∧ okG n ops o = true := fun l hl i hi => ⟨ops[i]'(hl i hi), by simp [hl i hi], hok i _ (by simp [hl i hi])⟩
          refine wpS_region ?_
          rw [hsz, Qka hops]
          cases s with
          | dfr d x => exact h.elim
          | rcv d =>
            refine QdS (Q := QF (fun ρ w => Q3 P (l2.map (Q2X P ops)) (Q (recM u).2) (updo ρ d (recM u).1) w) (Q u)) ?_ ?_ (List.range l1.length) ρ a w hr
              (hrange _ fun i hi => by rw [hsz, hlen]; have := List.mem_range.1 hi; omega) (by rw [hgm, Qmg _ hops]; exact h)
            · rintro a w ⟨ρ', hr', h'⟩
              have hoi : ops[l1.length]? = some o := by rw [← Array.getElem?_toList, hops]; simp
              have hg : o.guard = none ∧ ∃ ts, ∃ xs : Array Operand, o.op = .call ⟨.builtin .recover, xs, ts⟩ ∧ xs.size = 0 ∧ o.dst = d := by
                unfold spOf at hsp
                split at hsp
                · split at hsp <;> cases hsp
                · rename_i xs' ts' hg ho
                  split at hsp
                  · rename_i hx0
                    simp only [Option.some.injEq, LSp.rcv.injEq] at hsp
                    exact ⟨hg, ts', xs', ho, hx0, hsp⟩
                  · cases hsp
                · cases hsp
              obtain ⟨hgd, ts, xs, hop, hxs, hd⟩ := hg
              have hxs' : xs = #[] := Array.eq_empty_of_size_eq_zero hxs
              subst hxs'
              refine (?_ : wpOpsS P ops _ (l1.length :: _) a _ w)
              simp only [wpOpsS, hoi]
              rw [if_pos (by simp [Region.wanted, hgd])]
              have e1 : (execOp a.eval o).run P w = .ok .recover w := by
                simp [execOp, hop, resolve, invoke, builtin]
              rw [e1]
              have hdn := Qbr (hok _ o hoi)
              rw [hd] at hdn
              have hr2 : Rel n (updo ρ' d (recM u).1) [] (a.put d (recM u).1) := hr'.put d _ hdn
              have hrec := Qle c₀ cs u
              have key : wpOpsS P ops (liftR n c₀ cs Q) ((List.range l2.length).map (l1.length + 1 + ·)) (a.put o.dst (recM u).1) ({ c₀ with mode := (recM u).2 } :: cs) w := by
                rw [hd]
                have h2 := QdS (Q := Q (recM u).2) (QS := liftR n c₀ cs Q) (cs := { c₀ with mode := (recM u).2 } :: cs) (rest := []) (fun a w h => ⟨_, rfl, h⟩) (fun e a w _ h => ⟨_, rfl, h⟩) ((List.range l2.length).map (l1.length + 1 + ·)) _ _ w hr2
                  (hrange _ fun i hi => by rw [hsz, hlen]; rw [List.mem_map] at hi; obtain ⟨j, hj, rfl⟩ := hi; have := List.mem_range.1 hj; omega) (by rw [hgm, QnC _ hops]; exact h')
                rwa [List.append_nil] at h2
              dsimp only
              split
              · rename_i v cs' hrd
                rw [hrd] at hrec
                simp only [Prod.mk.injEq] at hrec
                rw [hrec.1, hrec.2]; exact key
              · rename_i hrd
                rw [hrd] at hrec
                simp only [Prod.mk.injEq] at hrec
                have e3 : ({ c₀ with mode := u } :: cs : List Frame) = { c₀ with mode := (recM u).2 } :: cs := hrec.2
                rw [hrec.1, e3]; exact key
            · rintro e a w he ⟨ρ', hr', h'⟩
              refine ⟨u, rfl, ρ', hr', ?_⟩
              cases e <;> first | exact h' | exact absurd rfl he
        · exact h.elim
      · exact hpl _ Q u ρ a w hr h
  | _ => exact hpl _

def retR (P : Program) (rs : List ResultVar) (R : Ending → FrameMode → World → Prop) (u : FrameMode) : QT
  | .normal, ρ, w | .ret, ρ, w => Q1E P w ρ rs [] fun v => R (.returned v) u w
  | .panic chain, _, w => R (.panicked chain) u w
  | .outgrown, _, w => R .outgrown u w
  | _, _, _ => False

theorem Qg8 {P : Program} {f : FuncId} {fn : Func} {args : List Value} {u : FrameMode} {w : World} {R : Ending → FrameMode → World → Prop} {ld : LD} {rs : List ResultVar}
    (hf : P.funcs[f]? = some fn) (hl : Qn4 P fn = some ld) (hrs : fn.results.toList = rs) (hn : Nat.ble args.length fn.ntmps = true)
    (h : ld.wpR P (retR P rs R) u (Qi args) w) : CallsD P f ⟨args⟩ u w R := by
  unfold Qn4 at hl
  cases hb : fn.body with
  | none => simp [hb] at hl
  | some c =>
    simp only [hb, Option.map_some, Option.some.injEq] at hl
    subst hl hrs
    refine callsD_of_wpS hf hb ?_
    intro c₀ cs hu
    have hn' : args.length ≤ fn.ntmps := Nat.le_of_ble_eq_true hn
    have h1 := Qn3 (c₀ := c₀) (cs := cs) c _ u _ _ w (QbU ⟨args⟩ fn.ntmps hn' []) h
    have hc : ({ c₀ with mode := u } : Frame) = c₀ := by subst hu; rfl
    rw [hc] at h1
    intro b k hb hro
    obtain ⟨e, a, cs', w', ⟨u', rfl, ρ, hr, h2⟩, harr⟩ := h1 b k hb hro
    refine ⟨e, a, _, w', ?_, harr⟩
    cases e with
    | normal => obtain ⟨v, h3, h4⟩ := Q2S hr.2.1 h2; exact ⟨hr.2.2, u', rfl, v, h3, h4⟩
    | ret => obtain ⟨v, h3, h4⟩ := Q2S hr.2.1 h2; exact ⟨hr.2.2, u', rfl, v, h3, h4⟩
    | panic ch => exact ⟨hr.2.2, u', rfl, h2⟩
    | outgrown => exact ⟨u', h2⟩
    | exit => exact h2
    | goto => exact h2

/-! ### Steps -/
section
variable {P : Program} {ρ : Env} {w : World} {u : FrameMode} {ds : List Deferred}
theorem d_pl {c : LC} {Q : List Deferred → QT} (h : c.wp P (Q ds) ρ w) : (LD.pl c).wpD P Q ds ρ w := h
theorem QlA {a b : LD} {Q : List Deferred → QT} (h : a.wpD P (fun ds' => QF (b.wpD P Q ds') (Q ds')) ds ρ w) : (LD.seq a b).wpD P Q ds ρ w := h
theorem d_sp {l1 l2 : List GO} {d : Option Nat} {x : Operand} {Q : List Deferred → QT} (h : Q3 P l1 (QF (fun ρ w => ∃ f cap, ρ.ev x = .func (.func f) #[] cap ∧ Q3 P l2 (Q (⟨.fn (.func f) cap, #[]⟩ :: ds)) (updo ρ d undef) w) (Q ds)) ρ w) : (LD.sp l1 (.dfr d x) l2).wpD P Q ds ρ w := h
theorem r_pl {c : LC} {Q : FrameMode → QT} (h : c.wp P (Q u) ρ w) : (LD.pl c).wpR P Q u ρ w := h
theorem r_seq {a b : LD} {Q : FrameMode → QT} (h : a.wpR P (fun u' => QF (b.wpR P Q u') (Q u')) u ρ w) : (LD.seq a b).wpR P Q u ρ w := h
theorem r_sp {l1 l2 : List GO} {d : Option Nat} {Q : FrameMode → QT} (h : Q3 P l1 (QF (fun ρ w => Q3 P l2 (Q (recM u).2) (updo ρ d (recM u).1) w) (Q u)) ρ w) : (LD.sp l1 (.rcv d) l2).wpR P Q u ρ w := h
/-- A deferred function, called in a mode: it returns. -/
def Defs (P : Program) (f : FuncId) (args : List Value) (u : FrameMode) (w : World) (S : FrameMode → World → Prop) : Prop :=
  CallsD P f ⟨args⟩ u w fun e u' w' => (∃ v, e = .returned v) ∧ S u' w'
theorem Qau {rs : List ResultVar} {R : Ending → World → Prop} {f : FuncId} {cap : List Value} {S : FrameMode → World → Prop} (hu : u ≠ .run) (hf : Q38 P f = true) (hc : Defs P f cap u w S)
    (h : ∀ u' w', S u' w' → Q4m P rs ρ R [] (settle u') w') : Q4m P rs ρ R [⟨.fn (.func f) ⟨cap⟩, #[]⟩] u w := by
  refine ⟨hu, f, ⟨cap⟩, rfl, hf, hc.mono ?_⟩
  rintro e u' w' ⟨⟨v, rfl⟩, hs⟩
  exact h u' w' hs
theorem Qmq {rs : List ResultVar} {R : Ending → World → Prop} (h : Q4m P rs ρ R ds .returning w) : retD P rs R ds .ret ρ w := h
theorem q_panD {rs : List ResultVar} {R : Ending → World → Prop} {ch : List PanicEntry} (h : Q4m P rs ρ R ds (.panicking ch) w) : retD P rs R ds (.panic ch) ρ w := h
theorem Q3C {rs : List ResultVar} {R : Ending → World → Prop} (h : retQ P rs R .ret ρ w) : Q4m P rs ρ R [] .returning w := h
theorem q_endR {rs : List ResultVar} {R : Ending → FrameMode → World → Prop} (h : retQ P rs (fun e w => R e u w) .normal ρ w) : retR P rs R u .normal ρ w := h
end
end Go.Lir
namespace Go.Lir
section
variable {P : Program} {l : List GO} {Q : QT} {ρ : Env} {w : World} {f : FuncId} {S T : Value → World → Prop}

theorem s_ends_1 {d : Nat} {u0 : Value} {x0 : Operand} (h0 : ρ.ev x0 = u0) (hc : Fins P f [u0] w S T) (hp : ∀ v w', T v w' → Q (.panic [{ v := v, recovered := false }]) ρ w') (h : ∀ v w', S v w' → Q3 P l Q (upd ρ d v) w') : Q3 P (⟨none, .call (some d) f [x0]⟩ :: l) Q ρ w := by
  subst h0; exact Qmm (by rfl) hc hp h
theorem s_ends_2 {d : Nat} {u0 u1 : Value} {x0 x1 : Operand} (h0 : ρ.ev x0 = u0) (h1 : ρ.ev x1 = u1) (hc : Fins P f [u0, u1] w S T) (hp : ∀ v w', T v w' → Q (.panic [{ v := v, recovered := false }]) ρ w') (h : ∀ v w', S v w' → Q3 P l Q (upd ρ d v) w') : Q3 P (⟨none, .call (some d) f [x0, x1]⟩ :: l) Q ρ w := by
  subst h0 h1; exact Qmm (by rfl) hc hp h
theorem s_ends_3 {d : Nat} {u0 u1 u2 : Value} {x0 x1 x2 : Operand} (h0 : ρ.ev x0 = u0) (h1 : ρ.ev x1 = u1) (h2 : ρ.ev x2 = u2) (hc : Fins P f [u0, u1, u2] w S T) (hp : ∀ v w', T v w' → Q (.panic [{ v := v, recovered := false }]) ρ w') (h : ∀ v w', S v w' → Q3 P l Q (upd ρ d v) w') : Q3 P (⟨none, .call (some d) f [x0, x1, x2]⟩ :: l) Q ρ w := by
  subst h0 h1 h2; exact Qmm (by rfl) hc hp h
theorem s_ends_4 {d : Nat} {u0 u1 u2 u3 : Value} {x0 x1 x2 x3 : Operand} (h0 : ρ.ev x0 = u0) (h1 : ρ.ev x1 = u1) (h2 : ρ.ev x2 = u2) (h3 : ρ.ev x3 = u3) (hc : Fins P f [u0, u1, u2, u3] w S T) (hp : ∀ v w', T v w' → Q (.panic [{ v := v, recovered := false }]) ρ w') (h : ∀ v w', S v w' → Q3 P l Q (upd ρ d v) w') : Q3 P (⟨none, .call (some d) f [x0, x1, x2, x3]⟩ :: l) Q ρ w := by
  subst h0 h1 h2 h3; exact Qmm (by rfl) hc hp h
theorem Qcl (k : Nat) {Ty : TypeId} {ms : Array (String × TypeId)} {w0 : World} (ht : P.underlying Ty = some (.interface ms)) : (Op.equalIn (k + 1) Ty .nilIface .nilIface).run P w0 = .ok true w0 := by
  simp only [Op.equalIn, Sem.run_bind, Qe P Ty _ w0 ht, Result.andThen_ok]
  simp [Sem.run_pure]
theorem QfC {Ty : TypeId} {ms : Array (String × TypeId)} {w0 : World} (ht : P.underlying Ty = some (.interface ms)) : (Op.equal Ty .nilIface .nilIface).run P w0 = .ok true w0 := Qcl 9999 ht
theorem Qbb (k : Nat) {Ty U : TypeId} {v : Value} {ms : Array (String × TypeId)} {w0 : World} (ht : P.underlying Ty = some (.interface ms)) : (Op.equalIn (k + 1) Ty (.iface U v) .nilIface).run P w0 = .ok false w0 := by
  simp only [Op.equalIn, Sem.run_bind, Qe P Ty _ w0 ht, Result.andThen_ok]
  simp [Sem.run_pure]
theorem QdD {Ty U : TypeId} {v : Value} {ms : Array (String × TypeId)} {w0 : World} (ht : P.underlying Ty = some (.interface ms)) : (Op.equal Ty (.iface U v) .nilIface).run P w0 = .ok false w0 := Qbb 9999 ht
/-- e != nil -/
theorem Qml {d : Nat} {Ty : TypeId} {x : Operand} {ms : Array (String × TypeId)} (ht : P.underlying Ty = some (.interface ms)) (hx : ρ.ev x = .nilIface) (h : Q3 P l Q (upd ρ d (.bool false)) w) : Q3 P (⟨none, .bin d .neq Ty x (.const .nilIface)⟩ :: l) Q ρ w :=
  ⟨_, fun w0 => by rw [hx]; simp [Env.ev, eqGuard, binOp, QfC ht], h⟩
theorem Qmk {d : Nat} {Ty U : TypeId} {v : Value} {x : Operand} {ms : Array (String × TypeId)} (ht : P.underlying Ty = some (.interface ms)) (hx : ρ.ev x = .iface U v) (h : Q3 P l Q (upd ρ d (.bool true)) w) : Q3 P (⟨none, .bin d .neq Ty x (.const .nilIface)⟩ :: l) Q ρ w :=
  ⟨_, fun w0 => by rw [hx]; simp [Env.ev, eqGuard, binOp, QdD ht], h⟩
/-- Three things to the front. -/
theorem St.pick3 {c : Cx} {L L1 L2 L3 : List Res} {r1 r2 r3 : Res} (h : St c w L) (p1 : Pick L r1 L1) (p2 : Pick L1 r2 L2) (p3 : Pick L2 r3 L3) : St c w (r1 :: r2 :: r3 :: L3) :=
  h.perm (p1.perm.trans (List.Perm.cons _ (p2.perm.trans (List.Perm.cons _ p3.perm))))
end
end Go.Lir
namespace Go.Lir
set_option linter.unusedVariables false
/-- What is left to be shown, apart from what is known. -/
structure Bx (K : Prop) : Prop where
  o : K
section
variable {K G : Prop}
theorem zn (k : K) (h : Bx K → G := by
  intro K9
  refine Q4V ?_
  (repeat (first | refine Q2f ?_ | refine Qaa ?_))
  exact K9.o) : G := h ⟨k⟩
theorem zcn (k : K) (h : Bx K → G := by
  intro K9
  refine s_cnil ?_
  (repeat (first | refine Q2f ?_ | refine Qaa ?_))
  exact K9.o) : G := h ⟨k⟩
theorem zsk (k : K) (h : Bx K → G := by
  intro K9
  refine s_skip ?_
  (repeat (first | refine Q2f ?_ | refine Qaa ?_))
  exact K9.o) : G := h ⟨k⟩
theorem zex (k : K) (h : Bx K → G := by
  intro K9
  refine s_exit ?_
  (repeat (first | refine s_exitQ ?_ | refine s_exitT ?_ | refine s_exitB rfl ?_ | refine Q2f ?_ | refine Qaa ?_))
  exact K9.o) : G := h ⟨k⟩
theorem zr (k : K) (h : Bx K → G := by
  intro K9
  refine s_ret ?_
  (repeat (first | refine s_retT ?_ | refine s_retB ?_))
  exact K9.o) : G := h ⟨k⟩
theorem zy {A : Prop} (k : G) (h : A := by
  repeat (first
    | exact fun _ h => (List.not_mem_nil h).elim
    | refine List.forall_mem_cons.2 ⟨by first | exact QmA hS rfl (NthP.nth (by repeat constructor)) rfl | exact Qkl hS rfl (NthP.nth (by repeat constructor)) rfl rfl | exact Qkm hS (by assumption) rfl rfl | exact Qhs hS (by assumption) rfl rfl rfl | exact Qiw hS (by assumption) rfl rfl | exact QdT hS (by assumption) rfl rfl rfl | exact gq_skip rfl rfl | exact Qbx rfl (QmA hS rfl (NthP.nth (by repeat constructor)) rfl) | exact Qbx rfl (Qkl hS rfl (NthP.nth (by repeat constructor)) rfl rfl) | exact Qbx rfl (Qkm hS (by assumption) rfl rfl) | exact Qbx rfl (Qhs hS (by assumption) rfl rfl rfl) | exact Qbx rfl (Qiw hS (by assumption) rfl rfl) | exact Qbx rfl (QdT hS (by assumption) rfl rfl rfl), ?_⟩)) : A ∧ G := ⟨h, k⟩
end
section
variable {P : Program} {l : List GO} {Q : QT} {ρ : Env} {w : World} {c : Cx} {L : List Res} {i : Nat} {T es : Nat} {v : Value} {css : List (List Value)}
theorem zt {K : KT} (h : K ρ w) : Q3 P [] (QF K Q) ρ w := Q4V (Q2f h)
theorem St.ns {L' : List Res} (h : St c w L) (e : L = L' := by (conv => lhs; simp only [List.set_cons_zero, List.set_cons_succ]); first | done | exact rfl) : St c w L' := e ▸ h
theorem zm {d : Nat} {x : Operand} {v : Value} (h : Q3 P l Q (upd ρ d v) w) (hx : ρ.ev x = v := by (conv => lhs; whnf); first | done | exact rfl) : Q3 P (⟨none, .mov d x⟩ :: l) Q ρ w := s_mov hx h
theorem zpt {d : Nat} {c x y : Operand} {v : Value} (h : Q3 P l Q (upd ρ d v) w) (hc : ρ.ev c = .bool true := by exact rfl) (hx : ρ.ev x = v := by (conv => lhs; whnf); first | done | exact rfl) : Q3 P (⟨none, .pick d c x y⟩ :: l) Q ρ w := s_pick_t hc hx h
theorem zpf {d : Nat} {c x y : Operand} {v : Value} (h : Q3 P l Q (upd ρ d v) w) (hc : ρ.ev c = .bool false := by exact rfl) (hx : ρ.ev y = v := by (conv => lhs; whnf); first | done | exact rfl) : Q3 P (⟨none, .pick d c x y⟩ :: l) Q ρ w := s_pick_f hc hx h
theorem zki {d : Nat} {T : TypeId} {x : Operand} {v : Value} (h : Q3 P l Q (upd ρ d (.iface T v)) w) (hx : ρ.ev x = v := by (conv => lhs; whnf); first | done | exact rfl) : Q3 P (⟨none, .mki d T x⟩ :: l) Q ρ w := s_mki hx h
theorem zl {d : Nat} {x : Operand} {b o : Nat} {cs : List Value} {u : Value} (hS : St c w L) (h : Q3 P l Q (upd ρ d u) w) (hx : ρ.ev x = .pointer (some ⟨b, o, none⟩) := by exact rfl) (hi : nth L i = some (blk b T cs) := by exact NthP.nth (by repeat constructor)) (hu : cs[o]? = some u := by exact rfl) : Q3 P (⟨none, .load1 d x⟩ :: l) Q ρ w := s_loadB hS hx hi hu h
theorem zlk {d : Nat} {x : Operand} {b o : Nat} {cs : List Value} {u : Value} (hS : St c w L) (h : Q3 P l Q (upd ρ d u) w) (ha : AtK c b o cs := by assumption) (hx : ρ.ev x = .pointer (some ⟨b, o, none⟩) := by exact rfl) (hu : cs[0]? = some u := by exact rfl) : Q3 P (⟨none, .load1 d x⟩ :: l) Q ρ w := s_loadK hS ha hx hu h
theorem zlj {d : Nat} {x : Operand} {b o j : Nat} {cs : List Value} {u : Value} (hS : St c w L) (h : Q3 P l Q (upd ρ d u) w) (ha : AtK c b o cs := by assumption) (hx : ρ.ev x = .pointer (some ⟨b, o + j, none⟩) := by exact rfl) (hu : cs[j]? = some u := by exact rfl) : Q3 P (⟨none, .load1 d x⟩ :: l) Q ρ w := s_loadKj hS ha hx hu h
theorem zv {d n : Nat} {x : Operand} {b o : Nat} {cs us : List Value} (hS : St c w L) (h : Q3 P l Q (upd ρ d (.agg ⟨us⟩)) w) (hx : ρ.ev x = .pointer (some ⟨b, o, none⟩) := by exact rfl) (hi : nth L i = some (blk b T cs) := by exact NthP.nth (by repeat constructor)) (hu : (cs.drop o).take n = us := by exact rfl) (hl : us.length = n := by exact rfl) : Q3 P (⟨none, .loadn d n x⟩ :: l) Q ρ w := s_loadnB hS hx hi hu hl h
theorem zvk {d n : Nat} {x : Operand} {b o : Nat} {cs : List Value} (hS : St c w L) (h : Q3 P l Q (upd ρ d (.agg ⟨cs⟩)) w) (ha : AtK c b o cs := by assumption) (hx : ρ.ev x = .pointer (some ⟨b, o, none⟩) := by exact rfl) (hl : cs.length = n := by exact rfl) : Q3 P (⟨none, .loadn d n x⟩ :: l) Q ρ w := s_loadnK hS ha hx hl h
theorem zad {d : Nat} {T : TypeId} {x y : Operand} {a b : Int} (h : Q3 P l Q (upd ρ d (.int .i64 (a + b))) w) (hx : ρ.ev x = .int .i64 a := by exact rfl) (hy : ρ.ev y = .int .i64 b := by exact rfl) (h1 : -9223372036854775808 ≤ a + b := by omega) (h2 : a + b ≤ 9223372036854775807 := by omega) : Q3 P (⟨none, .bin d .add T x y⟩ :: l) Q ρ w := s_add hx hy h1 h2 h
theorem zsu {d : Nat} {T : TypeId} {x y : Operand} {a b : Int} (h : Q3 P l Q (upd ρ d (.int .i64 (a - b))) w) (hx : ρ.ev x = .int .i64 a := by exact rfl) (hy : ρ.ev y = .int .i64 b := by exact rfl) (h1 : -9223372036854775808 ≤ a - b := by omega) (h2 : a - b ≤ 9223372036854775807 := by omega) : Q3 P (⟨none, .bin d .sub T x y⟩ :: l) Q ρ w := s_subi hx hy h1 h2 h
theorem zmu {d : Nat} {T : TypeId} {x y : Operand} {a b : Int} (h : Q3 P l Q (upd ρ d (.int .i64 (a * b))) w) (hx : ρ.ev x = .int .i64 a := by exact rfl) (hy : ρ.ev y = .int .i64 b := by exact rfl) (h1 : -9223372036854775808 ≤ a * b := by omega) (h2 : a * b ≤ 9223372036854775807 := by omega) : Q3 P (⟨none, .bin d .mul T x y⟩ :: l) Q ρ w := s_mul hx hy h1 h2 h
theorem Q26 {d : Nat} {T : TypeId} {x y : Operand} {k : IntKind} {a b : Int} (h : Q3 P l Q (upd ρ d (.bool true)) w) (hx : ρ.ev x = .int k a := by exact rfl) (hy : ρ.ev y = .int k b := by exact rfl) (hp : a < b := by omega) : Q3 P (⟨none, .bin d .lss T x y⟩ :: l) Q ρ w := s_lss_t hx hy hp h
theorem Q27 {d : Nat} {T : TypeId} {x y : Operand} {k : IntKind} {a b : Int} (h : Q3 P l Q (upd ρ d (.bool false)) w) (hx : ρ.ev x = .int k a := by exact rfl) (hy : ρ.ev y = .int k b := by exact rfl) (hp : ¬ (a < b) := by omega) : Q3 P (⟨none, .bin d .lss T x y⟩ :: l) Q ρ w := s_lss_f hx hy hp h
theorem Qw {d : Nat} {T : TypeId} {x y : Operand} {k : IntKind} {a b : Int} (h : Q3 P l Q (upd ρ d (.bool true)) w) (hx : ρ.ev x = .int k a := by exact rfl) (hy : ρ.ev y = .int k b := by exact rfl) (hp : a = b := by omega) : Q3 P (⟨none, .bin d .eql T x y⟩ :: l) Q ρ w := Q9g hx hy hp h
theorem Qy {d : Nat} {T : TypeId} {x y : Operand} {k : IntKind} {a b : Int} (h : Q3 P l Q (upd ρ d (.bool false)) w) (hx : ρ.ev x = .int k a := by exact rfl) (hy : ρ.ev y = .int k b := by exact rfl) (hp : ¬ (a = b) := by omega) : Q3 P (⟨none, .bin d .eql T x y⟩ :: l) Q ρ w := QdA hx hy hp h
theorem Q12 {d : Nat} {T : TypeId} {x y : Operand} {k : IntKind} {a b : Int} (h : Q3 P l Q (upd ρ d (.bool true)) w) (hx : ρ.ev x = .int k a := by exact rfl) (hy : ρ.ev y = .int k b := by exact rfl) (hp : a ≠ b := by omega) : Q3 P (⟨none, .bin d .neq T x y⟩ :: l) Q ρ w := s_neq_t hx hy hp h
theorem Q18 {d : Nat} {T : TypeId} {x y : Operand} {k : IntKind} {a b : Int} (h : Q3 P l Q (upd ρ d (.bool false)) w) (hx : ρ.ev x = .int k a := by exact rfl) (hy : ρ.ev y = .int k b := by exact rfl) (hp : ¬ (a ≠ b) := by omega) : Q3 P (⟨none, .bin d .neq T x y⟩ :: l) Q ρ w := s_neq_f hx hy hp h
theorem QQ {d : Nat} {T : TypeId} {x y : Operand} {k : IntKind} {a b : Int} (h : Q3 P l Q (upd ρ d (.bool true)) w) (hx : ρ.ev x = .int k a := by exact rfl) (hy : ρ.ev y = .int k b := by exact rfl) (hp : b < a := by omega) : Q3 P (⟨none, .bin d .gtr T x y⟩ :: l) Q ρ w := Q9f hx hy hp h
theorem Q11 {d : Nat} {T : TypeId} {x y : Operand} {k : IntKind} {a b : Int} (h : Q3 P l Q (upd ρ d (.bool false)) w) (hx : ρ.ev x = .int k a := by exact rfl) (hy : ρ.ev y = .int k b := by exact rfl) (hp : ¬ (b < a) := by omega) : Q3 P (⟨none, .bin d .gtr T x y⟩ :: l) Q ρ w := Qdz hx hy hp h
theorem Qb5 {d : Nat} {T : TypeId} {x y : Operand} {k : IntKind} {a b : Int} (h : Q3 P l Q (upd ρ d (.bool true)) w) (hx : ρ.ev x = .int k a := by exact rfl) (hy : ρ.ev y = .int k b := by exact rfl) (hp : b ≤ a := by omega) : Q3 P (⟨none, .bin d .geq T x y⟩ :: l) Q ρ w := s_geq_t hx hy hp h
theorem Qb6 {d : Nat} {T : TypeId} {x y : Operand} {k : IntKind} {a b : Int} (h : Q3 P l Q (upd ρ d (.bool false)) w) (hx : ρ.ev x = .int k a := by exact rfl) (hy : ρ.ev y = .int k b := by exact rfl) (hp : ¬ (b ≤ a) := by omega) : Q3 P (⟨none, .bin d .geq T x y⟩ :: l) Q ρ w := s_geq_f hx hy hp h
theorem zleqt {d : Nat} {T : TypeId} {x y : Operand} {k : IntKind} {a b : Int} (h : Q3 P l Q (upd ρ d (.bool true)) w) (hx : ρ.ev x = .int k a := by exact rfl) (hy : ρ.ev y = .int k b := by exact rfl) (hp : a ≤ b := by omega) : Q3 P (⟨none, .bin d .leq T x y⟩ :: l) Q ρ w := s_leq_t hx hy hp h
theorem zleqf {d : Nat} {T : TypeId} {x y : Operand} {k : IntKind} {a b : Int} (h : Q3 P l Q (upd ρ d (.bool false)) w) (hx : ρ.ev x = .int k a := by exact rfl) (hy : ρ.ev y = .int k b := by exact rfl) (hp : ¬ (a ≤ b) := by omega) : Q3 P (⟨none, .bin d .leq T x y⟩ :: l) Q ρ w := s_leq_f hx hy hp h
theorem zst {x y : Operand} {b o : Nat} {cs : List Value} {u : Value} (hS : St c w L) (h : ∀ w', St c w' (L.set i (blk b T (cs.set o u))) → Q3 P l Q ρ w') (hx : ρ.ev x = .pointer (some ⟨b, o, none⟩) := by exact rfl) (hy : ρ.ev y = u := by (conv => lhs; whnf); first | done | exact rfl) (hi : nth L i = some (blk b T cs) := by exact NthP.nth (by repeat constructor)) (ho : o < cs.length := by simp) (h1 : oneC u = true := by first | rfl | assumption | exact hS.oneC (NthP.nth (by repeat constructor)) | exact SlR.oneC (by assumption)) : Q3 P (⟨none, .store1 x y⟩ :: l) Q ρ w := s_storeB hS hx hy hi ho h1 h
theorem zb {d : Nat} {x : Operand} {cs : List Value} (hS : St c w L) (h : ∀ b w', St c w' (blk b T cs :: L) → Q3 P l Q (upd ρ d (.pointer (some ⟨b, 0, none⟩))) w') (hx : ρ.ev x = v := by (conv => lhs; whnf); first | done | exact rfl) (hc : v.cells = ⟨cs⟩ := by rfl) : Q3 P (⟨none, .box d T x⟩ :: l) Q ρ w := s_boxB hS hx hc h
theorem zsn {n i b T : Nat} {x y : Operand} {cs us : List Value} (hS : St c w L) (h : ∀ w', St c w' (L.set i (blk b T us)) → Q3 P l Q ρ w') (hx : ρ.ev x = .pointer (some ⟨b, 0, none⟩) := by exact rfl) (hy : ρ.ev y = .agg ⟨us⟩ := by exact rfl) (hn : us.length = n := by rfl) (hi : nth L i = some (blk b T cs) := by exact NthP.nth (by repeat constructor)) (hc : cs.length = n := by rfl) (h1 : ∀ u ∈ us, oneC u = true := by first | (simp [oneC]; done) | assumption | exact Rep.one _ (by assumption) | (simp only [List.take_succ_cons, List.take_zero, List.drop_zero, List.mem_cons, List.not_mem_nil, or_false, forall_eq_or_imp, forall_eq]; ((try refine And.intro ?_ ?_) <;> try refine And.intro ?_ ?_) <;> first | rfl | assumption)) : Q3 P (⟨none, .storen n x y⟩ :: l) Q ρ w := QnH hS hx hy hn hi hc h1 h
theorem zsm {n : Nat} {x y : Operand} {b o : Nat} {cs us cs' : List Value} (hS : St c w L) (h : ∀ w', St c w' (L.set i (blk b T cs')) → Q3 P l Q ρ w') (hx : ρ.ev x = .pointer (some ⟨b, o, none⟩) := by exact rfl) (hy : ρ.ev y = .agg ⟨us⟩ := by exact rfl) (hn : us.length = n := by rfl) (hi : nth L i = some (blk b T cs) := by exact NthP.nth (by repeat constructor)) (ho : o + n ≤ cs.length := by simp) (h1 : ∀ u ∈ us, oneC u = true := by first | (simp [oneC]; done) | assumption | exact Rep.one _ (by assumption) | (simp only [List.take_succ_cons, List.take_zero, List.drop_zero, List.mem_cons, List.not_mem_nil, or_false, forall_eq_or_imp, forall_eq]; ((try refine And.intro ?_ ?_) <;> try refine And.intro ?_ ?_) <;> first | rfl | assumption)) (hc : cs.take o ++ (us ++ cs.drop (o + n)) = cs' := by (conv => lhs; simp only [List.take_succ_cons, List.take_zero, List.drop_succ_cons, List.drop_zero, List.cons_append, List.nil_append]); first | done | exact rfl) : Q3 P (⟨none, .storen n x y⟩ :: l) Q ρ w := Qk4 hS hx hy hn hi ho h1 hc h
theorem zf {t : Nat} {R : Ending → World → Prop} {v : Value} (h : R (.returned v) w) (hv : ρ t = v := by (conv => lhs; whnf); first | done | exact rfl) : retQ P [.tmp t] R .ret ρ w := q_ret1 hv h
theorem zb0 {d : Nat} {z : List Value} (cs : List Value) (h : Q3 P l Q (upd ρ d (.agg ⟨cs⟩)) w) (hf : Q3A z [] = some cs := by rfl) : Q3 P (⟨none, .build d z []⟩ :: l) Q ρ w := s_build0  hf h
theorem zb1 {d : Nat} {z : List Value} {o0 n0 : Nat} {x0 : Operand} {v0 : Value} (cs : List Value) (h : Q3 P l Q (upd ρ d (.agg ⟨cs⟩)) w) (h0 : ρ.ev x0 = v0 := by (conv => lhs; whnf); first | done | exact rfl) (hf : Q3A z [(o0, n0, v0)] = some cs := by rfl) : Q3 P (⟨none, .build d z [(o0, n0, x0)]⟩ :: l) Q ρ w := s_build1 h0 hf h
theorem zB1 {d : Nat} {T : TypeId} {n : Nat} {z : List Value} {o0 n0 : Nat} {x0 : Operand} {v0 : Value} (hS : St c w L) (cs : List Value) (h : ∀ b w', St c w' (blk b T cs :: L) → Q3 P l Q (upd ρ d (.slice (some ⟨b, 0, none⟩) n n)) w') (h0 : ρ.ev x0 = v0 := by (conv => lhs; whnf); first | done | exact rfl) (hf : Q3A z [(o0, n0, v0)] = some cs := by rfl) : Q3 P (⟨none, .buildS d T n z [(o0, n0, x0)]⟩ :: l) Q ρ w := QnR h0 hf fun b w' hb hf1 _ hk => h b w' (hS.laid hb hf1 hk)
theorem zb2 {d : Nat} {z : List Value} {o0 n0 : Nat} {x0 : Operand} {v0 : Value} {o1 n1 : Nat} {x1 : Operand} {v1 : Value} (cs : List Value) (h : Q3 P l Q (upd ρ d (.agg ⟨cs⟩)) w) (h0 : ρ.ev x0 = v0 := by (conv => lhs; whnf); first | done | exact rfl) (h1 : ρ.ev x1 = v1 := by (conv => lhs; whnf); first | done | exact rfl) (hf : Q3A z [(o0, n0, v0), (o1, n1, v1)] = some cs := by rfl) : Q3 P (⟨none, .build d z [(o0, n0, x0), (o1, n1, x1)]⟩ :: l) Q ρ w := Qmn h0 h1 hf h
theorem zb3 {d : Nat} {z : List Value} {o0 n0 : Nat} {x0 : Operand} {v0 : Value} {o1 n1 : Nat} {x1 : Operand} {v1 : Value} {o2 n2 : Nat} {x2 : Operand} {v2 : Value} (cs : List Value) (h : Q3 P l Q (upd ρ d (.agg ⟨cs⟩)) w) (h0 : ρ.ev x0 = v0 := by (conv => lhs; whnf); first | done | exact rfl) (h1 : ρ.ev x1 = v1 := by (conv => lhs; whnf); first | done | exact rfl) (h2 : ρ.ev x2 = v2 := by (conv => lhs; whnf); first | done | exact rfl) (hf : Q3A z [(o0, n0, v0), (o1, n1, v1), (o2, n2, v2)] = some cs := by rfl) : Q3 P (⟨none, .build d z [(o0, n0, x0), (o1, n1, x1), (o2, n2, x2)]⟩ :: l) Q ρ w := s_build3 h0 h1 h2 hf h
theorem zb4 {d : Nat} {z : List Value} {o0 n0 : Nat} {x0 : Operand} {v0 : Value} {o1 n1 : Nat} {x1 : Operand} {v1 : Value} {o2 n2 : Nat} {x2 : Operand} {v2 : Value} {o3 n3 : Nat} {x3 : Operand} {v3 : Value} (cs : List Value) (h : Q3 P l Q (upd ρ d (.agg ⟨cs⟩)) w) (h0 : ρ.ev x0 = v0 := by (conv => lhs; whnf); first | done | exact rfl) (h1 : ρ.ev x1 = v1 := by (conv => lhs; whnf); first | done | exact rfl) (h2 : ρ.ev x2 = v2 := by (conv => lhs; whnf); first | done | exact rfl) (h3 : ρ.ev x3 = v3 := by (conv => lhs; whnf); first | done | exact rfl) (hf : Q3A z [(o0, n0, v0), (o1, n1, v1), (o2, n2, v2), (o3, n3, v3)] = some cs := by rfl) : Q3 P (⟨none, .build d z [(o0, n0, x0), (o1, n1, x1), (o2, n2, x2), (o3, n3, x3)]⟩ :: l) Q ρ w := s_build4 h0 h1 h2 h3 hf h
theorem zb10 {d : Nat} {z : List Value} {o0 n0 : Nat} {x0 : Operand} {v0 : Value} {o1 n1 : Nat} {x1 : Operand} {v1 : Value} {o2 n2 : Nat} {x2 : Operand} {v2 : Value} {o3 n3 : Nat} {x3 : Operand} {v3 : Value} {o4 n4 : Nat} {x4 : Operand} {v4 : Value} {o5 n5 : Nat} {x5 : Operand} {v5 : Value} {o6 n6 : Nat} {x6 : Operand} {v6 : Value} {o7 n7 : Nat} {x7 : Operand} {v7 : Value} {o8 n8 : Nat} {x8 : Operand} {v8 : Value} {o9 n9 : Nat} {x9 : Operand} {v9 : Value} (cs : List Value) (h : Q3 P l Q (upd ρ d (.agg ⟨cs⟩)) w) (h0 : ρ.ev x0 = v0 := by (conv => lhs; whnf); first | done | exact rfl) (h1 : ρ.ev x1 = v1 := by (conv => lhs; whnf); first | done | exact rfl) (h2 : ρ.ev x2 = v2 := by (conv => lhs; whnf); first | done | exact rfl) (h3 : ρ.ev x3 = v3 := by (conv => lhs; whnf); first | done | exact rfl) (h4 : ρ.ev x4 = v4 := by (conv => lhs; whnf); first | done | exact rfl) (h5 : ρ.ev x5 = v5 := by (conv => lhs; whnf); first | done | exact rfl) (h6 : ρ.ev x6 = v6 := by (conv => lhs; whnf); first | done | exact rfl) (h7 : ρ.ev x7 = v7 := by (conv => lhs; whnf); first | done | exact rfl) (h8 : ρ.ev x8 = v8 := by (conv => lhs; whnf); first | done | exact rfl) (h9 : ρ.ev x9 = v9 := by (conv => lhs; whnf); first | done | exact rfl) (hf : Q3A z [(o0, n0, v0), (o1, n1, v1), (o2, n2, v2), (o3, n3, v3), (o4, n4, v4), (o5, n5, v5), (o6, n6, v6), (o7, n7, v7), (o8, n8, v8), (o9, n9, v9)] = some cs := by rfl) : Q3 P (⟨none, .build d z [(o0, n0, x0), (o1, n1, x1), (o2, n2, x2), (o3, n3, x3), (o4, n4, x4), (o5, n5, x5), (o6, n6, x6), (o7, n7, x7), (o8, n8, x8), (o9, n9, x9)]⟩ :: l) Q ρ w := QnS h0 h1 h2 h3 h4 h5 h6 h7 h8 h9 hf h
theorem zD {gs : List GO} {es : List (List Nat)} (C : List CI) (h : Q3 P (C.map fun c => gat gs c.1) Q ρ w.drew) (hok : Qcg gs es C = true := by kernel_rfl) (hpl : (C.all fun c => match c.2 with | some (some _) => false | _ => true) = true := by kernel_rfl) : (LC.draw gs es).wp P Q ρ w := s_draw C hok hpl h
theorem zC {gs : List GO} {es : List (List Nat)} (C : List CI) (h : Q1L P gs C Q ρ w.drew) (hok : Qcg gs es C = true := by kernel_rfl) : (LC.draw gs es).wp P Q ρ w := s_canon C hok h
theorem zR0 {d : Nat} {f : FuncId} {S : Value → World → Prop} (c : Rets P f [] w S) (h : ∀ v w', S v w' → Q3 P l Q (upd ρ d v) w') : Q3 P (⟨none, .call (some d) f []⟩ :: l) Q ρ w := s_rets_0  c h
theorem zR1 {d : Nat} {f : FuncId} {x0 : Operand} {u0 : Value} {S : Value → World → Prop} (h0 : ρ.ev x0 = u0 := by (conv => lhs; whnf); first | done | exact rfl) (c : Rets P f [u0] w S) (h : ∀ v w', S v w' → Q3 P l Q (upd ρ d v) w') : Q3 P (⟨none, .call (some d) f [x0]⟩ :: l) Q ρ w := s_rets_1 h0 c h
theorem zE1 {d : Nat} {f : FuncId} {x0 : Operand} {u0 : Value} {S T : Value → World → Prop} (h0 : ρ.ev x0 = u0 := by (conv => lhs; whnf); first | done | exact rfl) (c : Fins P f [u0] w S T) (p : ∀ v w', T v w' → Q (.panic [{ v := v, recovered := false }]) ρ w') (h : ∀ v w', S v w' → Q3 P l Q (upd ρ d v) w') : Q3 P (⟨none, .call (some d) f [x0]⟩ :: l) Q ρ w := s_ends_1 h0 c p h
theorem zR2 {d : Nat} {f : FuncId} {x0 x1 : Operand} {u0 u1 : Value} {S : Value → World → Prop} (h0 : ρ.ev x0 = u0 := by (conv => lhs; whnf); first | done | exact rfl) (h1 : ρ.ev x1 = u1 := by (conv => lhs; whnf); first | done | exact rfl) (c : Rets P f [u0, u1] w S) (h : ∀ v w', S v w' → Q3 P l Q (upd ρ d v) w') : Q3 P (⟨none, .call (some d) f [x0, x1]⟩ :: l) Q ρ w := s_rets_2 h0 h1 c h
theorem zE2 {d : Nat} {f : FuncId} {x0 x1 : Operand} {u0 u1 : Value} {S T : Value → World → Prop} (h0 : ρ.ev x0 = u0 := by (conv => lhs; whnf); first | done | exact rfl) (h1 : ρ.ev x1 = u1 := by (conv => lhs; whnf); first | done | exact rfl) (c : Fins P f [u0, u1] w S T) (p : ∀ v w', T v w' → Q (.panic [{ v := v, recovered := false }]) ρ w') (h : ∀ v w', S v w' → Q3 P l Q (upd ρ d v) w') : Q3 P (⟨none, .call (some d) f [x0, x1]⟩ :: l) Q ρ w := s_ends_2 h0 h1 c p h
theorem zR3 {d : Nat} {f : FuncId} {x0 x1 x2 : Operand} {u0 u1 u2 : Value} {S : Value → World → Prop} (h0 : ρ.ev x0 = u0 := by (conv => lhs; whnf); first | done | exact rfl) (h1 : ρ.ev x1 = u1 := by (conv => lhs; whnf); first | done | exact rfl) (h2 : ρ.ev x2 = u2 := by (conv => lhs; whnf); first | done | exact rfl) (c : Rets P f [u0, u1, u2] w S) (h : ∀ v w', S v w' → Q3 P l Q (upd ρ d v) w') : Q3 P (⟨none, .call (some d) f [x0, x1, x2]⟩ :: l) Q ρ w := s_rets_3 h0 h1 h2 c h
theorem zE3 {d : Nat} {f : FuncId} {x0 x1 x2 : Operand} {u0 u1 u2 : Value} {S T : Value → World → Prop} (h0 : ρ.ev x0 = u0 := by (conv => lhs; whnf); first | done | exact rfl) (h1 : ρ.ev x1 = u1 := by (conv => lhs; whnf); first | done | exact rfl) (h2 : ρ.ev x2 = u2 := by (conv => lhs; whnf); first | done | exact rfl) (c : Fins P f [u0, u1, u2] w S T) (p : ∀ v w', T v w' → Q (.panic [{ v := v, recovered := false }]) ρ w') (h : ∀ v w', S v w' → Q3 P l Q (upd ρ d v) w') : Q3 P (⟨none, .call (some d) f [x0, x1, x2]⟩ :: l) Q ρ w := s_ends_3 h0 h1 h2 c p h
theorem zR4 {d : Nat} {f : FuncId} {x0 x1 x2 x3 : Operand} {u0 u1 u2 u3 : Value} {S : Value → World → Prop} (h0 : ρ.ev x0 = u0 := by (conv => lhs; whnf); first | done | exact rfl) (h1 : ρ.ev x1 = u1 := by (conv => lhs; whnf); first | done | exact rfl) (h2 : ρ.ev x2 = u2 := by (conv => lhs; whnf); first | done | exact rfl) (h3 : ρ.ev x3 = u3 := by (conv => lhs; whnf); first | done | exact rfl) (c : Rets P f [u0, u1, u2, u3] w S) (h : ∀ v w', S v w' → Q3 P l Q (upd ρ d v) w') : Q3 P (⟨none, .call (some d) f [x0, x1, x2, x3]⟩ :: l) Q ρ w := s_rets_4 h0 h1 h2 h3 c h
theorem zE4 {d : Nat} {f : FuncId} {x0 x1 x2 x3 : Operand} {u0 u1 u2 u3 : Value} {S T : Value → World → Prop} (h0 : ρ.ev x0 = u0 := by (conv => lhs; whnf); first | done | exact rfl) (h1 : ρ.ev x1 = u1 := by (conv => lhs; whnf); first | done | exact rfl) (h2 : ρ.ev x2 = u2 := by (conv => lhs; whnf); first | done | exact rfl) (h3 : ρ.ev x3 = u3 := by (conv => lhs; whnf); first | done | exact rfl) (c : Fins P f [u0, u1, u2, u3] w S T) (p : ∀ v w', T v w' → Q (.panic [{ v := v, recovered := false }]) ρ w') (h : ∀ v w', S v w' → Q3 P l Q (upd ρ d v) w') : Q3 P (⟨none, .call (some d) f [x0, x1, x2, x3]⟩ :: l) Q ρ w := s_ends_4 h0 h1 h2 h3 c p h
variable {α : Type} {r : Rep α} {xs : List α}
theorem zL {d : Nat} {x : Operand} (h : Q3 P l Q (upd ρ d (.int .i64 xs.length)) w) (hx : ρ.ev x = v := by (conv => lhs; whnf); first | done | exact rfl) (hK : r.sl c v xs := by assumption) : Q3 P (⟨none, .len d x⟩ :: l) Q ρ w := s_lenL hx hK h
theorem zi {d m : Nat} {x y : Operand} {k : IntKind} (h : ∀ b o cs a, AtK c b o cs → xs[m]? = some a → r.at c cs a → Q3 P l Q (upd ρ d (.pointer (some ⟨b, o, none⟩))) w) (hx : ρ.ev x = v := by (conv => lhs; whnf); first | done | exact rfl) (hy : ρ.ev y = .int k (m : Int) := by exact rfl) (hK : r.sl c v xs := by assumption) (hes : r.es = es := by exact rfl) (hn : m < xs.length := by first | omega | (simp; omega)) : Q3 P (⟨none, .idx d es x y⟩ :: l) Q ρ w := Q1K hx hy hK hes hn h
theorem za {T T' d Ts Ts2 Ty nb i k b : Nat} {z : List Value} {x y : Operand} {ds : List Value} {css : List (List Value)} {a : α} (hel : Q3Q P Ts = some (T, es, nb, z)) (hts : ∃ e2, P.underlying Ts2 = some (.slice e2)) (hS : St c w L) (h : ∀ v' w' css', r.ls c css' (xs ++ [a]) → oneC v' = true → St c w' (L.set i (Go.Lir.sl T es v' css')) → Q3 P l Q (upd ρ d v') w') (hx : ρ.ev x = v := by (conv => lhs; whnf); first | done | exact rfl) (hy : ρ.ev y = .slice (some ⟨b, 0, none⟩) 1 1 := by (conv => lhs; whnf); first | done | exact rfl) (hi : nth L i = some (Go.Lir.sl T es v css) := by exact NthP.nth (by repeat constructor)) (hk : nth L k = some (blk b T' ds) := by exact NthP.nth (by repeat constructor)) (hls : r.ls c css xs := by assumption) (ha : r.at c ds a := by first | assumption | exact rfl) (hes : r.es = es := by exact rfl) (hb : (xs.length + 1) * nb ≤ 140737488355328 := by first | omega | (simp only [List.length_take]; omega) | (simp; omega)) : Q3 P (⟨none, .raw ⟨some d, .call ⟨.builtin .append, #[x, y], #[Ts, Ts2]⟩, Ty, "", #[], none⟩⟩ :: l) Q ρ w := s_appR1 hel hts hS hx hy hi hk hls ha hes hb h
theorem zak {T d Ts Ts2 Ty nb i : Nat} {z : List Value} {x y : Operand} {v2 : Value} {css : List (List Value)} {ys : List α} (hel : Q3Q P Ts = some (T, es, nb, z)) (hts : ∃ e2, P.underlying Ts2 = some (.slice e2)) (hS : St c w L) (h : ∀ v' w' css', r.ls c css' (xs ++ ys) → oneC v' = true → St c w' (L.set i (Go.Lir.sl T es v' css')) → Q3 P l Q (upd ρ d v') w') (hx : ρ.ev x = v := by (conv => lhs; whnf); first | done | exact rfl) (hy : ρ.ev y = v2 := by (conv => lhs; whnf); first | done | exact rfl) (hi : nth L i = some (Go.Lir.sl T es v css) := by exact NthP.nth (by repeat constructor)) (hls : r.ls c css xs := by assumption) (hK : r.sl c v2 ys := by assumption) (hes : r.es = es := by exact rfl) (hb : (xs.length + ys.length) * nb ≤ 140737488355328 := by first | omega | (simp only [List.length_take]; omega) | (simp; omega)) : Q3 P (⟨none, .raw ⟨some d, .call ⟨.builtin .append, #[x, y], #[Ts, Ts2]⟩, Ty, "", #[], none⟩⟩ :: l) Q ρ w := s_appRK hel hts hS hx hy hi hls hK hes hb h
def evs (ρ : Env) (ts : List Nat) : List (Nat × Value) := ts.map fun t => (t, ρ t)
theorem QoP (ρ : Env) : evs ρ [] = [] := rfl
theorem QoQ {t : Nat} {ts : List Nat} {u : Value} {A : List (Nat × Value)} (h : ρ t = u) (h2 : evs ρ ts = A) : evs ρ (t :: ts) = (t, u) :: A := by subst h h2; rfl
theorem zh {A : List (Nat × Value)} (h : Has ρ A := by repeat' (first | exact trivial | refine And.intro rfl ?_)) : Has ρ A := h
theorem env2 {A B : List (Nat × Value)} (h : Has ρ A) (h2 : Has ρ B) : ∃ ρ', ρ = updl (updl ρ' B) A := ⟨ρ, by rw [QjU h2, QjU h]⟩
theorem zo {a : LC} (ts : List Nat) {A : List (Nat × Value)} (I : List (Nat × Value) → Env → World → Prop) (μ : Env → World → Nat) (h0 : I A ρ w) (h : ∀ ρ w, I A ρ w → a.wp P (QF (fun ρ' w' => I A ρ' w' ∧ μ ρ' w' < μ ρ w) Q) ρ w) (hA : evs ρ ts = A := by (repeat (apply QoQ; · ((conv => lhs; whnf); first | done | exact rfl))); exact QoP _) : (LC.loop a).wp P Q ρ w := s_loop (I A) μ h0 h
theorem zM {a b : LC} (ts : List Nat) {A : List (Nat × Value)} (I : List (Nat × Value) → Env → World → Prop) (ha : a.wp P (QF (I A) Q) ρ w) (hb : ∀ ρ w, I A ρ w → b.wp P Q ρ w) (hA : evs ρ ts = A := by (repeat (apply QoQ; · ((conv => lhs; whnf); first | done | exact rfl))); exact QoP _) : (LC.seq a b).wp P Q ρ w := s_mid (I A) ha hb
theorem zoL {a : LC} (hS : St c w L) (ts : List Nat) {A : List (Nat × Value)} (I : List (Nat × Value) → List Res → Env → World → Prop) (μ : Env → World → Nat) (h0 : I A L ρ w) (h : ∀ ρ w, I A L ρ w → a.wp P (QF (fun ρ' w' => I A L ρ' w' ∧ μ ρ' w' < μ ρ w) Q) ρ w) (hA : evs ρ ts = A := by (repeat (apply QoQ; · ((conv => lhs; whnf); first | done | exact rfl))); exact QoP _) : (LC.loop a).wp P Q ρ w := s_loop (I A L) μ h0 h
theorem zML {a b : LC} (hS : St c w L) (ts : List Nat) {A : List (Nat × Value)} (I : List (Nat × Value) → List Res → Env → World → Prop) (ha : a.wp P (QF (I A L) Q) ρ w) (hb : ∀ ρ w, I A L ρ w → b.wp P Q ρ w) (hA : evs ρ ts = A := by (repeat (apply QoQ; · ((conv => lhs; whnf); first | done | exact rfl))); exact QoP _) : (LC.seq a b).wp P Q ρ w := s_mid (I A L) ha hb
theorem zKL {l : List GO} (hS : St c w L) (n : Nat) (ts : List Nat) {A : List (Nat × Value)} (I : List (Nat × Value) → List Res → Env → World → Prop) (ha : Q3 P (l.take n) (QF (I A L) Q) ρ w) (hb : ∀ ρ w, I A L ρ w → Q3 P (l.drop n) Q ρ w) (hA : evs ρ ts = A := by (repeat (apply QoQ; · ((conv => lhs; whnf); first | done | exact rfl))); exact QoP _) : Q3 P l Q ρ w := s_cut n (I A L) ha hb
theorem St.sp {L' : List Res} (h : St c w L) (e : SubP L' L := by (repeat constructor); first | done | fail) : St c w L' := h.subP e
theorem fd {r' : Res} (h : NthP L i r' := by repeat constructor) : nth L i = some r' := h.nth
theorem vw {a b : Value} (h : a = b := by (conv => lhs; whnf); first | done | exact rfl) : a = b := h
theorem St.p3 {L1 L2 L3 : List Res} {r1 r2 r3 : Res} (h : St c w L) (p1 : Pick L r1 L1 := by repeat constructor) (p2 : Pick L1 r2 L2 := by repeat constructor) (p3 : Pick L2 r3 L3 := by repeat constructor) : St c w (r1 :: r2 :: r3 :: L3) := h.pick3 p1 p2 p3
end
end Go.Lir
namespace Go.Lir
@[reducible] def qm (d x : Nat) : GO := ⟨none, .mov d (.tmp x)⟩
@[reducible] def qk (d : Nat) (v : Value) : GO := ⟨none, .mov d (.const v)⟩
@[reducible] def qf (d x k : Nat) : GO := ⟨none, .fld d (.tmp x) k⟩
@[reducible] def ql (d x : Nat) : GO := ⟨none, .load1 d (.tmp x)⟩
@[reducible] def qV (d n x : Nat) : GO := ⟨none, .loadn d n (.tmp x)⟩
@[reducible] def qn (d x : Nat) : GO := ⟨none, .nilc d (.tmp x)⟩
@[reducible] def qL (d x : Nat) : GO := ⟨none, .len d (.tmp x)⟩
@[reducible] def qs (x y : Nat) : GO := ⟨none, .store1 (.tmp x) (.tmp y)⟩
@[reducible] def qw (n x y : Nat) : GO := ⟨none, .storen n (.tmp x) (.tmp y)⟩
@[reducible] def qi (d es x y : Nat) : GO := ⟨none, .idx d es (.tmp x) (.tmp y)⟩
@[reducible] def qx (d x k : Nat) : GO := ⟨none, .ext d (.tmp x) k⟩
@[reducible] def qb (d T x : Nat) : GO := ⟨none, .box d T (.tmp x)⟩
@[reducible] def qt (d : Nat) (o : BinOp) (T x y : Nat) : GO := ⟨none, .bin d o T (.tmp x) (.tmp y)⟩
@[reducible] def qj (d : Nat) (o : BinOp) (T x : Nat) (n : Int) : GO := ⟨none, .bin d o T (.tmp x) (.const (.int .i64 n))⟩
@[reducible] def qg (s : Nat) (b : Bool) (o : GO) : GO := ⟨some (s, b), o.2⟩
@[reducible] def vi (n : Int) : Value := .int .i64 n
@[reducible] def vn : Value := .slice none 0 0
end Go.Lir
namespace Go.Proofs.YtjecflbbcnocdaaGreatDoor
open Go.Lir
set_option maxRecDepth 100000

/- 3 -/
/- 4 -/
/- 5 -/
def Qc9 : List GO := [qk 4 (.bool false)]
def Qc8 : List GO := [⟨none, .call (some 13) 13 []⟩, ⟨none, .un 14 .not (.tmp 13)⟩]
def Qc7 : List GO := [qk 4 (.bool false)]
def Qc6 : List GO := [qm 15 0, ⟨none, .slen 16 (.tmp 15)⟩, qm 17 1, ⟨none, .slen 18 (.tmp 17)⟩, qt 19 .add 3 16 18, qj 20 .gtr 3 19 39000]
def Qc5 : List GO := [qk 4 (.bool true)]
def Qc4 : List GO := [qm 22 0, ⟨none, .call (some 23) 14 [(.tmp 22)]⟩, qm 21 23, qx 24 21 0, qx 25 21 1, ⟨none, .alloc 5 24 [vn]⟩, ⟨none, .alloc 6 29 [(vi 0), (vi 0)]⟩, qw 1 5 24, qw 2 6 25]
def Qc3 : List GO := [qm 27 1, ⟨none, .call (some 28) 14 [(.tmp 27)]⟩, qm 26 28, qx 29 26 0, qx 30 26 1, ⟨none, .alloc 7 24 [vn]⟩, ⟨none, .alloc 8 29 [(vi 0), (vi 0)]⟩, qw 1 7 29, qw 2 8 30]
def Qc2 : List GO := [qf 31 6 0, ql 32 31, qj 33 .neq 3 32 0, qm 34 33, qg 34 false (qf 35 8 0), qg 34 false (ql 36 35), qg 34 false (qj 37 .neq 3 36 0), ⟨none, .pick 38 (.tmp 34) (.const (.bool true)) (.tmp 37)⟩]
def Qc1 : List GO := [qk 4 (.bool true)]
def Qc0 : List GO := [qm 40 0, ⟨none, .bin 41 .add 9 (.tmp 40) (.const (.string ⟨#[10]⟩))⟩, qm 42 1, qt 43 .add 9 41 42, ⟨none, .call (some 44) 14 [(.tmp 43)]⟩, qm 39 44, qx 45 39 0, qx 46 39 1, ⟨none, .alloc 9 24 [vn]⟩, ⟨none, .alloc 10 29 [(vi 0), (vi 0)]⟩, qw 1 9 45, qw 2 10 46]
def Qb2 : List GO := [⟨none, .alloc 11 24 [vn]⟩]
def Qb1 : List GO := [qf 47 11 0, ql 48 47, qf 49 5 0, ql 50 49, ⟨none, .raw ⟨(some 51), (.call ⟨(.builtin .append), #[(.tmp 48), (.tmp 50)], #[22, 22]⟩), 22, "", #[], none⟩⟩, qf 52 7 0, ql 53 52, ⟨none, .raw ⟨(some 54), (.call ⟨(.builtin .append), #[(.tmp 51), (.tmp 53)], #[22, 22]⟩), 22, "", #[], none⟩⟩, qf 55 11 0, qs 55 54]
def Qb4 : List (List Nat) := [[],[0],[],[2],[1,3],[],[5],[4,6,4],[0,1,2,3,4,5,6,7],[8,7,7,0,1,2,3,4,5,6,7]]
def Qb0 : List GO := [qV 56 1 11, ⟨none, .call (some 57) 20 [(.tmp 56)]⟩, ⟨none, .alloc 12 29 [(vi 0), (vi 0)]⟩, qw 2 12 57]
def QaZ : List GO := [qV 58 2 10, qV 59 2 12, qt 60 .eql 29 58 59, qm 61 60, qg 61 true (qf 62 12 0), qg 61 true (ql 63 62), qg 61 true (qj 64 .neq 3 63 0), qg 61 true (qm 65 64), qg 65 false (qV 66 1 9), qg 65 false (qV 67 1 11), ⟨some (65, false), .call (some 68) 12 [(.tmp 66), (.tmp 67)]⟩, ⟨some (61, true), .pick 69 (.tmp 65) (.const (.bool true)) (.tmp 68)⟩, ⟨none, .pick 70 (.tmp 61) (.tmp 69) (.const (.bool false))⟩, qm 4 70]
def Law_ParseJoins_lc : LC := (.seq (.ops Qc9) (.seq (.seq (.ops Qc8) (.cond (.tmp 14) (.seq (.ops Qc7) .ret) .skip)) (.seq (.seq (.ops Qc6) (.cond (.tmp 20) (.seq (.ops Qc5) .ret) .skip)) (.seq (.ops Qc4) (.seq (.ops Qc3) (.seq (.seq (.ops Qc2) (.cond (.tmp 38) (.seq (.ops Qc1) .ret) .skip)) (.seq (.ops Qc0) (.seq (.ops Qb2) (.seq (.draw Qb1 Qb4) (.seq (.ops Qb0) (.seq (.ops QaZ) .ret)))))))))))
@[reducible] def QB : FuncId := 5
theorem Qb3 : lowF Tryz.prog Tryz.f5 = some Law_ParseJoins_lc := by kernel_rfl
theorem Q2m {a0 a1 : Value} {w : World} {R : Ending → World → Prop} (h : Law_ParseJoins_lc.wp Tryz.prog (retQ Tryz.prog [.tmp 4] R) (Qi [a0, a1]) w) : Calls Tryz.prog QB ⟨[a0, a1]⟩ w R :=
  Q7 Tryz.func5 Qb3 (by kernel_rfl) (by kernel_rfl) h

/- 6 -/
/- 7 -/
/- 8 -/
/- 9 -/
/- 10 -/
/- 11 -/
/- 12 -/
def QeI : List GO := [qb 2 24 0, qb 3 24 1, qk 4 (.bool false)]
def QeH : List GO := [qf 9 2 0, ql 10 9, qL 11 10, qf 12 3 0, ql 13 12, qL 14 13, qt 15 .neq 3 11 14]
def QeG : List GO := [qk 4 (.bool false)]
def QeF : List GO := [qk 5 (vi 0)]
def QeE : List GO := [qm 16 5, qf 17 2 0, ql 18 17, qL 19 18, qt 20 .lss 3 16 19]
def QeD : List GO := [qf 23 2 0, ql 24 23, qm 25 5, qi 26 4 24 25, qV 27 4 26, qf 28 3 0, ql 29 28, qm 30 5, qi 31 4 29 30, qV 32 4 31, ⟨none, .alloc 6 43 [(vi 0), vn, vn, vn]⟩, ⟨none, .alloc 7 43 [(vi 0), vn, vn, vn]⟩, qw 4 6 27, qw 4 7 32]
def QeK : List (List Nat) := [[],[0],[],[1,2],[3],[],[5],[],[6,7],[8],[],[],[10,4,0,1,2,3,4,10,11],[11,9,12,0,1,2,3,4,5,6,7,8,9,10,11,12]]
def QeC : List GO := [qf 33 6 0, ql 34 33, qf 35 7 0, ql 36 35, qt 37 .neq 3 34 36, qm 38 37, qg 38 false (qf 39 6 1), qg 38 false (ql 40 39), qg 38 false (qf 41 7 1), qg 38 false (ql 42 41), ⟨some (38, false), .call (some 43) 32 [(.tmp 40), (.tmp 42)]⟩, ⟨some (38, false), .un 44 .not (.tmp 43)⟩, ⟨none, .pick 45 (.tmp 38) (.const (.bool true)) (.tmp 44)⟩, qm 46 45, qg 46 false (qf 47 6 2), qg 46 false (ql 48 47), qg 46 false (qf 49 7 2), qg 46 false (ql 50 49), ⟨some (46, false), .call (some 51) 32 [(.tmp 48), (.tmp 50)]⟩, ⟨some (46, false), .un 52 .not (.tmp 51)⟩, ⟨none, .pick 53 (.tmp 46) (.const (.bool true)) (.tmp 52)⟩, qm 54 53, qg 54 false (qf 55 6 3), qg 54 false (ql 56 55), qg 54 false (qL 57 56), qg 54 false (qf 58 7 3), qg 54 false (ql 59 58), qg 54 false (qL 60 59), qg 54 false (qt 61 .neq 3 57 60), ⟨none, .pick 62 (.tmp 54) (.const (.bool true)) (.tmp 61)⟩]
def QeB : List GO := [qk 4 (.bool false)]
def QeA : List GO := [qk 8 (vi 0)]
def Qez : List GO := [qm 63 8, qf 64 6 3, ql 65 64, qL 66 65, qt 67 .lss 3 63 66]
def QcU : List GO := [qf 70 6 3, ql 71 70, qm 72 8, qi 73 12 71 72, qV 74 12 73, qf 75 7 3, ql 76 75, qm 77 8, qi 78 12 76 77, qV 79 12 78, ⟨none, .call (some 80) 33 [(.tmp 74), (.tmp 79)]⟩, ⟨none, .un 81 .not (.tmp 80)⟩]
def QcW : List (List Nat) := [[],[0],[],[1,2],[3],[],[5],[],[6,7],[8],[4,9],[10]]
def QcT : List GO := [qk 4 (.bool false)]
def QcS : List GO := [qm 68 8, qj 69 .add 3 68 1, qm 8 69]
def Q3S : LC := (.seq (.seq (.ops Qez) (.cond (.tmp 67) .skip (.exit 2))) (.seq (.block 3 (.seq (.draw QcU QcW) (.cond (.tmp 81) (.seq (.ops QcT) .ret) .skip))) (.ops QcS)))
def QcR : List GO := [qm 21 5, qj 22 .add 3 21 1, qm 5 22]
def Q7d : LC := (.seq (.seq (.ops QeE) (.cond (.tmp 20) .skip (.exit 0))) (.seq (.block 1 (.seq (.draw QeD QeK) (.seq (.seq (.ops QeC) (.cond (.tmp 62) (.seq (.ops QeB) .ret) .skip)) (.seq (.ops QeA) (.block 2 (.loop Q3S)))))) (.ops QcR)))
def QcQ : List GO := [qk 4 (.bool true)]
def R_SameModule_lc : LC := (.seq (.ops QeI) (.seq (.seq (.ops QeH) (.cond (.tmp 15) (.seq (.ops QeG) .ret) .skip)) (.seq (.seq (.ops QeF) (.block 0 (.loop Q7d))) (.seq (.ops QcQ) .ret))))
@[reducible] def Q15 : FuncId := 12
theorem QcV : lowF Tryz.prog Tryz.f12 = some R_SameModule_lc := by kernel_rfl
theorem QeJ {a0 a1 : Value} {w : World} {R : Ending → World → Prop} (h : R_SameModule_lc.wp Tryz.prog (retQ Tryz.prog [.tmp 4] R) (Qi [a0, a1]) w) : Calls Tryz.prog Q15 ⟨[a0, a1]⟩ w R :=
  Q7 Tryz.func12 QcV (by kernel_rfl) (by kernel_rfl) h

/- 13 -/
def QbY : List GO := [qk 0 (.bool false)]
def QbX : List GO := [⟨none, .call (some 4) 14 [(.const (.string ⟨#[102, 117, 110, 99, 32, 48, 32, 40, 41, 32, 45, 62, 32, 40, 105, 110, 116, 41, 32, 123, 32, 98, 108, 111, 99, 107, 32, 48, 32, 40, 41, 32, 123, 32, 110, 117, 109, 32, 53, 59, 32, 114, 101, 116, 32, 40, 48, 41, 59, 32, 125, 32, 125]⟩))]⟩, qm 3 4, qx 5 3 0, qx 6 3 1, ⟨none, .alloc 1 24 [vn]⟩, ⟨none, .alloc 2 29 [(vi 0), (vi 0)]⟩, qw 1 1 5, qw 2 2 6]
def QbW : List GO := [qf 7 2 0, ql 8 7, qj 9 .eql 3 8 0, qm 10 9, qg 10 true (qf 11 1 0), qg 10 true (ql 12 11), qg 10 true (qL 13 12), qg 10 true (qj 14 .eql 3 13 1), ⟨none, .pick 15 (.tmp 10) (.tmp 14) (.const (.bool false))⟩, qm 16 15, qg 16 true (qf 17 1 0), qg 16 true (ql 18 17), ⟨some (16, true), .idx 19 4 (.tmp 18) (.const (vi 0))⟩, qg 16 true (qf 20 19 2), qg 16 true (ql 21 20), qg 16 true (qL 22 21), qg 16 true (qj 23 .eql 3 22 1), ⟨none, .pick 24 (.tmp 16) (.tmp 23) (.const (.bool false))⟩, qm 25 24, qg 25 true (qf 26 1 0), qg 25 true (ql 27 26), ⟨some (25, true), .idx 28 4 (.tmp 27) (.const (vi 0))⟩, qg 25 true (qf 29 28 3), qg 25 true (ql 30 29), ⟨some (25, true), .idx 31 12 (.tmp 30) (.const (vi 0))⟩, qg 25 true (qf 32 31 2), qg 25 true (ql 33 32), ⟨some (25, true), .idx 34 8 (.tmp 33) (.const (vi 0))⟩, qg 25 true (qf 35 34 5), qg 25 true (ql 36 35), qg 25 true (qj 37 .eql 2 36 5), ⟨none, .pick 38 (.tmp 25) (.tmp 37) (.const (.bool false))⟩, qm 39 38, ⟨some (39, true), .call (some 40) 16 [(.const (vi 14))]⟩, ⟨some (39, true), .bin 41 .eql 9 (.tmp 40) (.const (.string ⟨#[99, 97, 108, 108]⟩))⟩, ⟨none, .pick 42 (.tmp 39) (.tmp 41) (.const (.bool false))⟩, qm 43 42, ⟨some (43, true), .call (some 44) 18 [(.const (vi 0))]⟩, ⟨some (43, true), .bin 45 .eql 9 (.tmp 44) (.const (.string ⟨#[]⟩))⟩, ⟨none, .pick 46 (.tmp 43) (.tmp 45) (.const (.bool false))⟩, qm 0 46]
def Law_parseBegun_lc : LC := (.seq (.ops QbY) (.seq (.ops QbX) (.seq (.ops QbW) .ret)))
@[reducible] def Q9c : FuncId := 13
theorem QaY : lowF Tryz.prog Tryz.f13 = some Law_parseBegun_lc := by kernel_rfl
theorem QbZ {w : World} {R : Ending → World → Prop} (h : Law_parseBegun_lc.wp Tryz.prog (retQ Tryz.prog [.tmp 0] R) (Qi []) w) : Calls Tryz.prog Q9c ⟨[]⟩ w R :=
  Q7 Tryz.func13 QaY (by kernel_rfl) (by kernel_rfl) h

/- 14 -/
def QfN : List GO := [⟨none, .alloc 2 24 [vn]⟩, ⟨none, .alloc 3 29 [(vi 0), (vi 0)]⟩]
def QfM : List GO := [qm 8 0, ⟨none, .call (some 9) 34 [(.tmp 8)]⟩, qm 7 9, qx 10 7 0, qx 11 7 1, qm 4 10, qw 2 3 11]
def QfL : List GO := [qf 12 3 0, ql 13 12, qj 14 .neq 3 13 0]
def QfK : List GO := [⟨none, .build 15 [vn] []⟩, qV 16 2 3, qw 1 2 15, qw 2 3 16]
def QfP : List (List Nat) := [[],[],[0,0],[1,2,0,1,2]]
def QfJ : List GO := [⟨none, .mkfn 17 35 [(.tmp 2), (.tmp 3)]⟩]
def QfI : List GO := []
def QfH : List GO := [qm 18 4, qm 19 0, ⟨none, .slen 20 (.tmp 19)⟩, ⟨none, .build 21 [vn, (vi 0)] [(0, (1, (.tmp 18))), (1, (1, (.tmp 20)))]⟩, qb 22 70 21, qm 5 22]
def QfG : List GO := [qm 23 5, qn 24 23, qf 25 24 0, ql 26 25, qL 27 26, qj 28 .gtr 3 27 0]
def QfF : List GO := [qf 29 2 0, ql 30 29, qm 31 5, ⟨none, .call (some 32) 36 [(.tmp 31)]⟩, ⟨none, .buildS 33 43 1 [(vi 0), vn, vn, vn] [(0, (4, (.tmp 32)))]⟩, ⟨none, .raw ⟨(some 34), (.call ⟨(.builtin .append), #[(.tmp 30), (.tmp 33)], #[22, 22]⟩), 22, "", #[], none⟩⟩, qf 35 2 0, qs 35 34]
def QfO : List (List Nat) := [[],[0],[],[2],[3],[1,4,3],[0,1,2,3,4,5],[6,5,5,0,1,2,3,4,5]]
def Q93 : LC := (.seq (.seq (.ops QfG) (.cond (.tmp 28) .skip (.exit 0))) (.block 1 (.draw QfF QfO)))
def QfE : List GO := [qV 36 1 2, ⟨none, .call (some 37) 26 [(.tmp 36)]⟩, ⟨none, .alloc 6 29 [(vi 0), (vi 0)]⟩, qw 2 6 37]
def QdK : List GO := [qf 38 6 0, ql 39 38, qj 40 .neq 3 39 0]
def QdJ : List GO := [⟨none, .build 41 [vn] []⟩, qV 42 2 6, qw 1 2 41, qw 2 3 42]
def QdM : List (List Nat) := [[],[],[0,0],[1,2,0,1,2]]
def QdI : List GO := [qV 43 1 2, ⟨none, .build 44 [(vi 0), (vi 0)] []⟩, qw 1 2 43, qw 2 3 44]
def parse_Parse_ld : LD := (.seq (.pl (.ops QfN)) (.seq (.pl (.ops QfM)) (.seq (.pl (.seq (.ops QfL) (.cond (.tmp 14) (.seq (.draw QfK QfP) .ret) .skip))) (.seq (.sp QfJ (.dfr none (.tmp 17)) QfI) (.pl (.seq (.ops QfH) (.seq (.block 0 (.loop Q93)) (.seq (.seq (.ops QfE) (.seq (.ops QdK) (.cond (.tmp 40) (.seq (.draw QdJ QdM) .ret) .skip))) (.seq (.ops QdI) .ret)))))))))
@[reducible] def Q1z : FuncId := 14
theorem QdL : Qn4 Tryz.prog Tryz.f14 = some parse_Parse_ld := by kernel_rfl
theorem Q92 {a0 : Value} {w : World} {R : Ending → World → Prop} (h : parse_Parse_ld.wpD Tryz.prog (retD Tryz.prog [.cell 2 24, .cell 3 29] R) [] (Qi [a0]) w) : Calls Tryz.prog Q1z ⟨[a0]⟩ w R :=
  QiZ Tryz.func14 QdL (by kernel_rfl) (by kernel_rfl) h
/- 15 -/
/- 16 -/
def Qln : List GO := [qk 2 (.string ⟨#[]⟩)]
def Qlm : List GO := [qm 3 0, qj 4 .lss 3 3 0, qm 5 4, qg 5 false (qm 6 0), qg 5 false (qj 7 .gtr 3 6 14), ⟨none, .pick 8 (.tmp 5) (.const (.bool true)) (.tmp 7)⟩]
def Qll : List GO := [qk 2 (.string ⟨#[]⟩)]
def Qlk : List GO := [⟨none, .build 9 [(.string ⟨#[]⟩), (.string ⟨#[]⟩), (.string ⟨#[]⟩), (.string ⟨#[]⟩), (.string ⟨#[]⟩), (.string ⟨#[]⟩), (.string ⟨#[]⟩), (.string ⟨#[]⟩), (.string ⟨#[]⟩), (.string ⟨#[]⟩), (.string ⟨#[]⟩), (.string ⟨#[]⟩), (.string ⟨#[]⟩), (.string ⟨#[]⟩), (.string ⟨#[]⟩)] [(0, (1, (.const (.string ⟨#[]⟩)))), (1, (1, (.const (.string ⟨#[110, 117, 109]⟩)))), (2, (1, (.const (.string ⟨#[98, 105, 110]⟩)))), (3, (1, (.const (.string ⟨#[110, 101, 119]⟩)))), (4, (1, (.const (.string ⟨#[102, 114, 101, 101]⟩)))), (5, (1, (.const (.string ⟨#[116, 117, 112, 108, 101]⟩)))), (6, (1, (.const (.string ⟨#[103, 101, 116]⟩)))), (7, (1, (.const (.string ⟨#[115, 101, 116]⟩)))), (8, (1, (.const (.string ⟨#[97, 114, 114, 97, 121]⟩)))), (9, (1, (.const (.string ⟨#[108, 111, 97, 100]⟩)))), (10, (1, (.const (.string ⟨#[115, 116, 111, 114, 101]⟩)))), (11, (1, (.const (.string ⟨#[108, 101, 110]⟩)))), (12, (1, (.const (.string ⟨#[105, 110]⟩)))), (13, (1, (.const (.string ⟨#[111, 117, 116]⟩)))), (14, (1, (.const (.string ⟨#[99, 97, 108, 108]⟩))))]⟩, qm 10 0, ⟨none, .raw ⟨(some 11), (.index 85 (.tmp 9) (.tmp 10)), 9, "", #[], none⟩⟩, qm 2 11]
def parse_Op_lc : LC := (.seq (.ops Qln) (.seq (.seq (.ops Qlm) (.cond (.tmp 8) (.seq (.ops Qll) .ret) .skip)) (.seq (.ops Qlk) .ret)))
@[reducible] def Qms : FuncId := 16
theorem Qkc : lowF Tryz.prog Tryz.f16 = some parse_Op_lc := by kernel_rfl
theorem Q9J {a0 : Value} {w : World} {R : Ending → World → Prop} (h : parse_Op_lc.wp Tryz.prog (retQ Tryz.prog [.tmp 2] R) (Qi [a0]) w) : Calls Tryz.prog Qms ⟨[a0]⟩ w R :=
  Q7 Tryz.func16 Qkc (by kernel_rfl) (by kernel_rfl) h

/- 17 -/
/- 18 -/
def Qin : List GO := [qk 2 (.string ⟨#[]⟩)]
def Qim : List GO := [qm 3 0, qj 4 .lss 3 3 0, qm 5 4, qg 5 false (qm 6 0), qg 5 false (qj 7 .gtr 3 6 9), ⟨none, .pick 8 (.tmp 5) (.const (.bool true)) (.tmp 7)⟩]
def Qil : List GO := [qk 2 (.string ⟨#[]⟩)]
def Qik : List GO := [⟨none, .build 9 [(.string ⟨#[]⟩), (.string ⟨#[]⟩), (.string ⟨#[]⟩), (.string ⟨#[]⟩), (.string ⟨#[]⟩), (.string ⟨#[]⟩), (.string ⟨#[]⟩), (.string ⟨#[]⟩), (.string ⟨#[]⟩), (.string ⟨#[]⟩)] [(0, (1, (.const (.string ⟨#[]⟩)))), (1, (1, (.const (.string ⟨#[97, 100, 100]⟩)))), (2, (1, (.const (.string ⟨#[115, 117, 98]⟩)))), (3, (1, (.const (.string ⟨#[109, 117, 108]⟩)))), (4, (1, (.const (.string ⟨#[100, 105, 118]⟩)))), (5, (1, (.const (.string ⟨#[109, 111, 100]⟩)))), (6, (1, (.const (.string ⟨#[108, 101, 115, 115]⟩)))), (7, (1, (.const (.string ⟨#[101, 113]⟩)))), (8, (1, (.const (.string ⟨#[97, 110, 100]⟩)))), (9, (1, (.const (.string ⟨#[120, 111, 114]⟩))))]⟩, qm 10 0, ⟨none, .raw ⟨(some 11), (.index 87 (.tmp 9) (.tmp 10)), 9, "", #[], none⟩⟩, qm 2 11]
def parse_Kind_lc : LC := (.seq (.ops Qin) (.seq (.seq (.ops Qim) (.cond (.tmp 8) (.seq (.ops Qil) .ret) .skip)) (.seq (.ops Qik) .ret)))
@[reducible] def Qhp : FuncId := 18
theorem QfQ : lowF Tryz.prog Tryz.f18 = some parse_Kind_lc := by kernel_rfl
theorem Q54 {a0 : Value} {w : World} {R : Ending → World → Prop} (h : parse_Kind_lc.wp Tryz.prog (retQ Tryz.prog [.tmp 2] R) (Qi [a0]) w) : Calls Tryz.prog Qhp ⟨[a0]⟩ w R :=
  Q7 Tryz.func18 QfQ (by kernel_rfl) (by kernel_rfl) h

/- 19 -/
/- 20 -/
def Qhf : List GO := [qb 1 24 0, ⟨none, .alloc 2 29 [(vi 0), (vi 0)]⟩]
def Qhe : List GO := [qf 11 1 0, ql 12 11, qL 13 12, qj 14 .lss 3 13 1, qm 15 14, qg 15 false (qf 16 1 0), qg 15 false (ql 17 16), qg 15 false (qL 18 17), qg 15 false (qj 19 .gtr 3 18 8), ⟨none, .pick 20 (.tmp 15) (.const (.bool true)) (.tmp 19)⟩]
def Qhd : List GO := [⟨none, .call (some 21) 30 [(.const (vi 2)), (.const (vi (-1)))]⟩, qw 2 2 21]
def Qhc : List GO := [qk 3 (vi 0)]
def Qhb : List GO := [qm 22 3, qf 23 1 0, ql 24 23, qL 25 24, qt 26 .lss 3 22 25]
def Qha : List GO := [qf 29 1 0, ql 30 29, qm 31 3, qi 32 4 30 31, qV 33 4 32, ⟨none, .alloc 4 43 [(vi 0), vn, vn, vn]⟩, qw 4 4 33]
def Qh9 : List GO := [qf 34 4 0, ql 35 34, qj 36 .lss 3 35 0, qm 37 36, qg 37 false (qf 38 4 0), qg 37 false (ql 39 38), qg 37 false (qj 40 .gtr 3 39 6), ⟨none, .pick 41 (.tmp 37) (.const (.bool true)) (.tmp 40)⟩]
def Qh8 : List GO := [qm 42 3, ⟨none, .call (some 43) 45 [(.tmp 42)]⟩, ⟨none, .call (some 44) 30 [(.const (vi 1)), (.tmp 43)]⟩, qw 2 2 44]
def Qh7 : List GO := [qf 45 4 1, ql 46 45, qf 47 4 0, ql 48 47, ⟨none, .call (some 49) 46 [(.tmp 46), (.tmp 48)]⟩, qm 5 49]
def Qh6 : List GO := [qm 50 5, qj 51 .neq 3 50 0]
def Qf7 : List GO := [qm 52 5, qm 53 3, ⟨none, .call (some 54) 45 [(.tmp 53)]⟩, ⟨none, .call (some 55) 30 [(.tmp 52), (.tmp 54)]⟩, qw 2 2 55]
def Qf6 : List GO := [qf 56 4 2, ql 57 56, qf 58 4 0, ql 59 58, ⟨none, .call (some 60) 46 [(.tmp 57), (.tmp 59)]⟩, qm 6 60]
def Qf5 : List GO := [qm 61 6, qj 62 .neq 3 61 0]
def Qf4 : List GO := [qm 63 6, qm 64 3, ⟨none, .call (some 65) 45 [(.tmp 64)]⟩, ⟨none, .call (some 66) 30 [(.tmp 63), (.tmp 65)]⟩, qw 2 2 66]
def Qf3 : List GO := [qf 67 4 3, ql 68 67, qL 69 68, qj 70 .lss 3 69 1, qm 71 70, qg 71 false (qf 72 4 3), qg 71 false (ql 73 72), qg 71 false (qL 74 73), qg 71 false (qj 75 .gtr 3 74 12), ⟨none, .pick 76 (.tmp 71) (.const (.bool true)) (.tmp 75)⟩]
def Qf2 : List GO := [qm 77 3, ⟨none, .call (some 78) 45 [(.tmp 77)]⟩, ⟨none, .call (some 79) 30 [(.const (vi 2)), (.tmp 78)]⟩, qw 2 2 79]
def Qf1 : List GO := [qm 80 3, qj 81 .eql 3 80 0]
def Qf0 : List GO := [qf 82 4 0, ql 83 82, qj 84 .eql 3 83 0, qm 85 84, qg 85 true (qf 86 4 1), qg 85 true (ql 87 86), qg 85 true (qL 88 87), qg 85 true (qj 89 .eql 3 88 0), ⟨none, .pick 90 (.tmp 85) (.tmp 89) (.const (.bool false))⟩, qm 7 90]
def QeZ : List GO := [qk 8 (vi 0)]
def QeY : List GO := [qm 91 8, qf 92 4 2, ql 93 92, qL 94 93, qt 95 .lss 3 91 94]
def QeX : List GO := [qm 98 7, qm 99 98, qg 99 true (qf 100 4 2), qg 99 true (ql 101 100), qg 99 true (qm 102 8), qg 99 true (qi 103 3 101 102), qg 99 true (qf 104 103 0), qg 99 true (ql 105 104), qg 99 true (qj 106 .eql 3 105 1), ⟨none, .pick 107 (.tmp 99) (.tmp 106) (.const (.bool false))⟩, qm 7 107]
def QeW : List GO := [qm 96 8, qj 97 .add 3 96 1, qm 8 97]
def Q7f : LC := (.seq (.seq (.ops QeY) (.cond (.tmp 95) .skip (.exit 2))) (.seq (.block 3 (.ops QeX)) (.ops QeW)))
def QeV : List GO := [qm 108 7, ⟨none, .un 109 .not (.tmp 108)⟩]
def QeU : List GO := [qm 110 3, ⟨none, .call (some 111) 45 [(.tmp 110)]⟩, ⟨none, .call (some 112) 30 [(.const (vi 18)), (.tmp 111)]⟩, qw 2 2 112]
def QeT : List GO := [qk 9 (vi 0)]
def QeS : List GO := [qm 113 9, qf 114 4 3, ql 115 114, qL 116 115, qt 117 .lss 3 113 116]
def QeR : List GO := [qV 120 1 1, qm 121 3, qm 122 9, ⟨none, .call (some 123) 47 [(.tmp 120), (.tmp 121), (.tmp 122)]⟩, ⟨none, .alloc 10 29 [(vi 0), (vi 0)]⟩, qw 2 10 123]
def QeQ : List GO := [qf 124 10 0, ql 125 124, qj 126 .neq 3 125 0]
def QeP : List GO := [qV 127 2 10, qw 2 2 127]
def QeO : List GO := [qm 118 9, qj 119 .add 3 118 1, qm 9 119]
def Q7e : LC := (.seq (.seq (.ops QeS) (.cond (.tmp 117) .skip (.exit 4))) (.seq (.block 5 (.seq (.ops QeR) (.seq (.ops QeQ) (.cond (.tmp 126) (.seq (.ops QeP) .ret) .skip)))) (.ops QeO)))
def QeN : List GO := [qm 27 3, qj 28 .add 3 27 1, qm 3 28]
def Q9b : LC := (.seq (.seq (.ops Qhb) (.cond (.tmp 26) .skip (.exit 0))) (.seq (.block 1 (.seq (.ops Qha) (.seq (.seq (.ops Qh9) (.cond (.tmp 41) (.seq (.ops Qh8) .ret) .skip)) (.seq (.seq (.ops Qh7) (.seq (.ops Qh6) (.cond (.tmp 51) (.seq (.ops Qf7) .ret) .skip))) (.seq (.seq (.ops Qf6) (.seq (.ops Qf5) (.cond (.tmp 62) (.seq (.ops Qf4) .ret) .skip))) (.seq (.seq (.ops Qf3) (.cond (.tmp 76) (.seq (.ops Qf2) .ret) .skip)) (.seq (.seq (.ops Qf1) (.cond (.tmp 81) (.seq (.ops Qf0) (.seq (.seq (.ops QeZ) (.block 2 (.loop Q7f))) (.seq (.ops QeV) (.cond (.tmp 109) (.seq (.ops QeU) .ret) .skip)))) .skip)) (.seq (.ops QeT) (.block 4 (.loop Q7e)))))))))) (.ops QeN)))
def QeM : List GO := [⟨none, .build 128 [(vi 0), (vi 0)] []⟩, qw 2 2 128]
def R_CodeFault_lc : LC := (.seq (.ops Qhf) (.seq (.seq (.ops Qhe) (.cond (.tmp 20) (.seq (.ops Qhd) .ret) .skip)) (.seq (.seq (.ops Qhc) (.block 0 (.loop Q9b))) (.seq (.ops QeM) .ret))))
@[reducible] def QJ : FuncId := 20
theorem Qf8 : lowF Tryz.prog Tryz.f20 = some R_CodeFault_lc := by kernel_rfl
theorem Qhg {a0 : Value} {w : World} {R : Ending → World → Prop} (h : R_CodeFault_lc.wp Tryz.prog (retQ Tryz.prog [.cell 2 29] R) (Qi [a0]) w) : Calls Tryz.prog QJ ⟨[a0]⟩ w R :=
  Q7 Tryz.func20 Qf8 (by kernel_rfl) (by kernel_rfl) h

/- 21 -/
/- 22 -/
/- 23 -/
/- 24 -/
/- 25 -/
/- 26 -/
def QiX : List GO := [qb 1 24 0, ⟨none, .alloc 2 29 [(vi 0), (vi 0)]⟩]
def QiW : List GO := [qV 7 1 1, ⟨none, .build 8 [vn, (vi 0), (vi 0), (vi 0)] [(0, (1, (.tmp 7))), (3, (1, (.const (vi (-1)))))]⟩, qb 9 97 8, qm 3 9]
def QiV : List GO := [qm 10 3, qf 11 1 0, ql 12 11, qL 13 12, qj 14 .eql 3 13 0, qm 15 14, qg 15 false (qf 16 1 0), qg 15 false (ql 17 16), qg 15 false (qL 18 17), qg 15 false (qj 19 .gtr 3 18 8), ⟨none, .pick 20 (.tmp 15) (.const (.bool true)) (.tmp 19)⟩, ⟨none, .call (some 21) 50 [(.tmp 10), (.tmp 20), (.const (vi 2))]⟩]
def QiU : List GO := [qk 4 (vi 0)]
def QiT : List GO := [qm 22 4, qf 23 1 0, ql 24 23, qL 25 24, qt 26 .lss 3 22 25, qm 27 26, qg 27 true (qm 28 3), qg 27 true (qn 29 28), qg 27 true (qf 30 29 1), qg 27 true (qf 31 30 0), qg 27 true (ql 32 31), qg 27 true (qj 33 .eql 3 32 0), ⟨none, .pick 34 (.tmp 27) (.tmp 33) (.const (.bool false))⟩]
def QiS : List GO := [qf 37 1 0, ql 38 37, qm 39 4, qi 40 4 38 39, qV 41 4 40, ⟨none, .alloc 5 43 [(vi 0), vn, vn, vn]⟩, qw 4 5 41]
def QiR : List GO := [qm 42 3, qm 43 4, ⟨none, .call (some 44) 51 [(.tmp 43)]⟩, qn 45 42, qf 46 45 3, qs 46 44]
def QiQ : List GO := [qm 47 3, qf 48 5 0, ql 49 48, qj 50 .lss 3 49 0, qm 51 50, qg 51 false (qf 52 5 0), qg 51 false (ql 53 52), qg 51 false (qj 54 .gtr 3 53 6), ⟨none, .pick 55 (.tmp 51) (.const (.bool true)) (.tmp 54)⟩, ⟨none, .call (some 56) 50 [(.tmp 47), (.tmp 55), (.const (vi 1))]⟩]
def QiP : List GO := [qm 57 3, qf 58 5 1, ql 59 58, qf 60 5 0, ql 61 60, ⟨none, .call (some 62) 52 [(.tmp 57), (.tmp 59), (.tmp 61)]⟩]
def QiO : List GO := [qm 63 3, qf 64 5 2, ql 65 64, qf 66 5 0, ql 67 66, ⟨none, .call (some 68) 52 [(.tmp 63), (.tmp 65), (.tmp 67)]⟩]
def Qg5 : List GO := [qm 69 3, qf 70 5 3, ql 71 70, qL 72 71, qj 73 .eql 3 72 0, qm 74 73, qg 74 false (qf 75 5 3), qg 74 false (ql 76 75), qg 74 false (qL 77 76), qg 74 false (qj 78 .gtr 3 77 12), ⟨none, .pick 79 (.tmp 74) (.const (.bool true)) (.tmp 78)⟩, ⟨none, .call (some 80) 50 [(.tmp 69), (.tmp 79), (.const (vi 2))]⟩]
def Qg4 : List GO := [qm 81 3, qm 82 4, qj 83 .eql 3 82 0, qm 84 83, qg 84 true (qf 85 5 0), qg 84 true (ql 86 85), qg 84 true (qj 87 .gtr 3 86 0), qg 84 true (qm 88 87), qg 88 false (qf 89 5 1), qg 88 false (ql 90 89), qg 88 false (qL 91 90), qg 88 false (qj 92 .gtr 3 91 0), ⟨some (84, true), .pick 93 (.tmp 88) (.const (.bool true)) (.tmp 92)⟩, qg 84 true (qm 94 93), qg 94 false (qf 95 5 2), qg 94 false (ql 96 95), ⟨some (94, false), .call (some 97) 53 [(.tmp 96), (.func 54)]⟩, ⟨some (84, true), .pick 98 (.tmp 94) (.const (.bool true)) (.tmp 97)⟩, ⟨none, .pick 99 (.tmp 84) (.tmp 98) (.const (.bool false))⟩, ⟨none, .call (some 100) 50 [(.tmp 81), (.tmp 99), (.const (vi 18))]⟩]
def Qg3 : List GO := [qk 6 (vi 0)]
def Qg2 : List GO := [qm 101 6, qf 102 5 3, ql 103 102, qL 104 103, qt 105 .lss 3 101 104, qm 106 105, qg 106 true (qm 107 3), qg 106 true (qn 108 107), qg 106 true (qf 109 108 1), qg 106 true (qf 110 109 0), qg 106 true (ql 111 110), qg 106 true (qj 112 .eql 3 111 0), ⟨none, .pick 113 (.tmp 106) (.tmp 112) (.const (.bool false))⟩]
def Qg1 : List GO := [qm 116 3, qm 117 4, qm 118 6, ⟨none, .call (some 119) 55 [(.tmp 116), (.tmp 117), (.tmp 118)]⟩]
def Qg0 : List GO := [qm 114 6, qj 115 .add 3 114 1, qm 6 115]
def Q98 : LC := (.seq (.seq (.ops Qg2) (.cond (.tmp 113) .skip (.exit 2))) (.seq (.block 3 (.ops Qg1)) (.ops Qg0)))
def QfZ : List GO := [qm 35 4, qj 36 .add 3 35 1, qm 4 36]
def QaS : LC := (.seq (.seq (.ops QiT) (.cond (.tmp 34) .skip (.exit 0))) (.seq (.block 1 (.seq (.ops QiS) (.seq (.ops QiR) (.seq (.ops QiQ) (.seq (.ops QiP) (.seq (.ops QiO) (.seq (.ops Qg5) (.seq (.ops Qg4) (.seq (.ops Qg3) (.block 2 (.loop Q98))))))))))) (.ops QfZ)))
def QfY : List GO := [qm 120 3, qn 121 120, qf 122 121 1, qV 123 2 122, qw 2 2 123]
def code_Check_lc : LC := (.seq (.ops QiX) (.seq (.ops QiW) (.seq (.ops QiV) (.seq (.seq (.ops QiU) (.block 0 (.loop QaS))) (.seq (.ops QfY) .ret)))))
@[reducible] def Q3D : FuncId := 26
theorem Qg6 : lowF Tryz.prog Tryz.f26 = some code_Check_lc := by kernel_rfl
theorem QiY {a0 : Value} {w : World} {R : Ending → World → Prop} (h : code_Check_lc.wp Tryz.prog (retQ Tryz.prog [.cell 2 29] R) (Qi [a0]) w) : Calls Tryz.prog Q3D ⟨[a0]⟩ w R :=
  Q7 Tryz.func26 Qg6 (by kernel_rfl) (by kernel_rfl) h

/- 27 -/
/- 28 -/
/- 29 -/
/- 30 -/
def R_F_r0 : List GO := [⟨none, .alloc 4 29 [(vi 0), (vi 0)]⟩]
def R_F_r1 : List GO := [qm 5 0, qm 6 1, ⟨none, .build 7 [(vi 0), (vi 0)] [(0, (1, (.tmp 5))), (1, (1, (.tmp 6)))]⟩, qw 2 4 7]
def R_F_lc : LC := (.seq (.ops R_F_r0) (.seq (.ops R_F_r1) .ret))
@[reducible] def R_F : FuncId := 30
theorem R_F_low : lowF Tryz.prog Tryz.f30 = some R_F_lc := by kernel_rfl
theorem R_F_in {a0 a1 : Value} {w : World} {R : Ending → World → Prop} (h : R_F_lc.wp Tryz.prog (retQ Tryz.prog [.cell 4 29] R) (Qi [a0, a1]) w) : Calls Tryz.prog R_F ⟨[a0, a1]⟩ w R :=
  Q7 Tryz.func30 R_F_low (by kernel_rfl) (by kernel_rfl) h

/- 31 -/
/- 32 -/
def QgK : List GO := [qk 4 (.bool false)]
def QgJ : List GO := [qm 6 0, qL 7 6, qm 8 1, qL 9 8, qt 10 .neq 3 7 9]
def QgI : List GO := [qk 4 (.bool false)]
def QgH : List GO := [qk 5 (vi 0)]
def QgG : List GO := [qm 11 5, qm 12 0, qL 13 12, qt 14 .lss 3 11 13]
def QgF : List GO := [qm 17 0, qm 18 5, qi 19 3 17 18, qV 20 3 19, qm 21 1, qm 22 5, qi 23 3 21 22, qV 24 3 23, ⟨none, .call (some 25) 68 [(.tmp 20), (.tmp 24)]⟩, ⟨none, .un 26 .not (.tmp 25)⟩]
def QgM : List (List Nat) := [[],[],[0,1],[2],[],[],[4,5],[6],[3,7],[8]]
def QgE : List GO := [qk 4 (.bool false)]
def QgD : List GO := [qm 15 5, qj 16 .add 3 15 1, qm 5 16]
def Q9a : LC := (.seq (.seq (.ops QgG) (.cond (.tmp 14) .skip (.exit 0))) (.seq (.block 1 (.seq (.draw QgF QgM) (.cond (.tmp 26) (.seq (.ops QgE) .ret) .skip))) (.ops QgD)))
def QgC : List GO := [qk 4 (.bool true)]
def R_SameTypes_lc : LC := (.seq (.ops QgK) (.seq (.seq (.ops QgJ) (.cond (.tmp 10) (.seq (.ops QgI) .ret) .skip)) (.seq (.seq (.ops QgH) (.block 0 (.loop Q9a))) (.seq (.ops QgC) .ret))))
@[reducible] def Q2N : FuncId := 32
theorem Qey : lowF Tryz.prog Tryz.f32 = some R_SameTypes_lc := by kernel_rfl
theorem QgL {a0 a1 : Value} {w : World} {R : Ending → World → Prop} (h : R_SameTypes_lc.wp Tryz.prog (retQ Tryz.prog [.tmp 4] R) (Qi [a0, a1]) w) : Calls Tryz.prog Q2N ⟨[a0, a1]⟩ w R :=
  Q7 Tryz.func32 Qey (by kernel_rfl) (by kernel_rfl) h

/- 33 -/
def Qgt : List GO := [qb 2 52 0, qb 3 52 1, qk 4 (.bool false)]
def Qgs : List GO := [qf 6 2 0, ql 7 6, qf 8 3 0, ql 9 8, qt 10 .neq 3 7 9, qm 11 10, qg 11 false (qf 12 2 1), qg 11 false (ql 13 12), qg 11 false (qf 14 3 1), qg 11 false (ql 15 14), ⟨some (11, false), .call (some 16) 32 [(.tmp 13), (.tmp 15)]⟩, ⟨some (11, false), .un 17 .not (.tmp 16)⟩, ⟨none, .pick 18 (.tmp 11) (.const (.bool true)) (.tmp 17)⟩, qm 19 18, qg 19 false (qf 20 2 2), qg 19 false (ql 21 20), qg 19 false (qL 22 21), qg 19 false (qf 23 3 2), qg 19 false (ql 24 23), qg 19 false (qL 25 24), qg 19 false (qt 26 .neq 3 22 25), ⟨none, .pick 27 (.tmp 19) (.const (.bool true)) (.tmp 26)⟩]
def Qgr : List GO := [qk 4 (.bool false)]
def Qgq : List GO := [qk 5 (vi 0)]
def Qgp : List GO := [qm 28 5, qf 29 2 2, ql 30 29, qL 31 30, qt 32 .lss 3 28 31]
def Qgo : List GO := [qf 35 2 2, ql 36 35, qm 37 5, qi 38 8 36 37, qV 39 8 38, qf 40 3 2, ql 41 40, qm 42 5, qi 43 8 41 42, qV 44 8 43, ⟨none, .call (some 45) 69 [(.tmp 39), (.tmp 44)]⟩, ⟨none, .un 46 .not (.tmp 45)⟩]
def Qgv : List (List Nat) := [[],[0],[],[1,2],[3],[],[5],[],[6,7],[8],[4,9],[10]]
def Qgn : List GO := [qk 4 (.bool false)]
def Qgm : List GO := [qm 33 5, qj 34 .add 3 33 1, qm 5 34]
def Q99 : LC := (.seq (.seq (.ops Qgp) (.cond (.tmp 32) .skip (.exit 0))) (.seq (.block 1 (.seq (.draw Qgo Qgv) (.cond (.tmp 46) (.seq (.ops Qgn) .ret) .skip))) (.ops Qgm)))
def Qgl : List GO := [qf 47 2 3, qf 48 47 0, ql 49 48, qf 50 3 3, qf 51 50 0, ql 52 51, qt 53 .eql 3 49 52, qm 54 53, qg 54 true (qf 55 2 3), qg 54 true (qf 56 55 1), qg 54 true (ql 57 56), qg 54 true (qf 58 3 3), qg 54 true (qf 59 58 1), qg 54 true (ql 60 59), qg 54 true (qt 61 .eql 3 57 60), ⟨none, .pick 62 (.tmp 54) (.tmp 61) (.const (.bool false))⟩, qm 63 62, qg 63 true (qf 64 2 3), qg 63 true (qf 65 64 2), qg 63 true (qV 66 3 65), qg 63 true (qf 67 3 3), qg 63 true (qf 68 67 2), qg 63 true (qV 69 3 68), ⟨some (63, true), .call (some 70) 70 [(.tmp 66), (.tmp 69)]⟩, ⟨none, .pick 71 (.tmp 63) (.tmp 70) (.const (.bool false))⟩, qm 72 71, qg 72 true (qf 73 2 3), qg 72 true (qf 74 73 5), qg 72 true (qV 75 3 74), qg 72 true (qf 76 3 3), qg 72 true (qf 77 76 5), qg 72 true (qV 78 3 77), ⟨some (72, true), .call (some 79) 70 [(.tmp 75), (.tmp 78)]⟩, ⟨none, .pick 80 (.tmp 72) (.tmp 79) (.const (.bool false))⟩, qm 81 80, qg 81 true (qf 82 2 3), qg 81 true (qf 83 82 8), qg 81 true (ql 84 83), qg 81 true (qf 85 3 3), qg 81 true (qf 86 85 8), qg 81 true (ql 87 86), ⟨some (81, true), .call (some 88) 71 [(.tmp 84), (.tmp 87)]⟩, ⟨none, .pick 89 (.tmp 81) (.tmp 88) (.const (.bool false))⟩, qm 4 89]
def R_sameBlock_lc : LC := (.seq (.ops Qgt) (.seq (.seq (.ops Qgs) (.cond (.tmp 27) (.seq (.ops Qgr) .ret) .skip)) (.seq (.seq (.ops Qgq) (.block 0 (.loop Q99))) (.seq (.ops Qgl) .ret))))
@[reducible] def Q3g : FuncId := 33
theorem Qel : lowF Tryz.prog Tryz.f33 = some R_sameBlock_lc := by kernel_rfl
theorem Qgu {a0 a1 : Value} {w : World} {R : Ending → World → Prop} (h : R_sameBlock_lc.wp Tryz.prog (retQ Tryz.prog [.tmp 4] R) (Qi [a0, a1]) w) : Calls Tryz.prog Q3g ⟨[a0, a1]⟩ w R :=
  Q7 Tryz.func33 Qel (by kernel_rfl) (by kernel_rfl) h

/- 34 -/
def Qi1 : List GO := [qk 2 vn, ⟨none, .alloc 3 29 [(vi 0), (vi 0)]⟩]
def Qi0 : List GO := [qm 9 0, ⟨none, .slen 10 (.tmp 9)⟩, qj 11 .gtr 3 10 40000]
def QhZ : List GO := [⟨none, .build 12 [(vi 0), (vi 0)] [(0, (1, (.const (vi 2)))), (1, (1, (.const (vi 40000))))]⟩, qk 2 vn, qw 2 3 12]
def QhY : List GO := [qm 13 0, ⟨none, .build 14 [(.string ⟨#[]⟩), (vi 0)] [(0, (1, (.tmp 13)))]⟩, qb 15 124 14, qm 4 15]
def QhX : List GO := [qk 5 vn]
def QhW : List GO := [qm 16 4, ⟨none, .call (some 17) 72 [(.tmp 16)]⟩]
def QhV : List GO := [qm 18 4, qn 19 18, qf 20 19 1, ql 21 20, qm 22 0, ⟨none, .slen 23 (.tmp 22)⟩, qt 24 .lss 3 21 23]
def QhU : List GO := [qm 27 4, qn 28 27, qf 29 28 1, ql 30 29, qm 6 30]
def QhT : List GO := [qm 32 4, ⟨none, .call (some 33) 73 [(.tmp 32)]⟩, qm 31 33, qx 34 31 0, qx 35 31 1, ⟨none, .alloc 7 126 [(vi 0), (.string ⟨#[]⟩), (.bool false), (vi 0)]⟩, qw 4 7 34, qm 8 35]
def QhS : List GO := [qm 36 8, qj 37 .neq 3 36 0]
def Qfz : List GO := [qm 38 8, qm 39 6, ⟨none, .build 40 [(vi 0), (vi 0)] [(0, (1, (.tmp 38))), (1, (1, (.tmp 39)))]⟩, qk 2 vn, qw 2 3 40]
def Qfy : List GO := [qm 41 5, qV 42 4 7, ⟨none, .buildS 43 126 1 [(vi 0), (.string ⟨#[]⟩), (.bool false), (vi 0)] [(0, (4, (.tmp 42)))]⟩, ⟨none, .raw ⟨(some 44), (.call ⟨(.builtin .append), #[(.tmp 41), (.tmp 43)], #[63, 63]⟩), 63, "", #[], none⟩⟩, qm 5 44]
def Qfx : List GO := [qm 25 4, ⟨none, .call (some 26) 72 [(.tmp 25)]⟩]
def Qa6 : LC := (.seq (.seq (.ops QhV) (.cond (.tmp 24) .skip (.exit 0))) (.seq (.block 1 (.seq (.ops QhU) (.seq (.ops QhT) (.seq (.seq (.ops QhS) (.cond (.tmp 37) (.seq (.ops Qfz) .ret) .skip)) (.ops Qfy))))) (.ops Qfx)))
def Qfw : List GO := [qm 45 5, ⟨none, .build 46 [(vi 0), (vi 0)] []⟩, qm 2 45, qw 2 3 46]
def token_Scan_lc : LC := (.seq (.ops Qi1) (.seq (.seq (.ops Qi0) (.cond (.tmp 11) (.seq (.ops QhZ) .ret) .skip)) (.seq (.ops QhY) (.seq (.ops QhX) (.seq (.seq (.ops QhW) (.block 0 (.loop Qa6))) (.seq (.ops Qfw) .ret))))))
@[reducible] def Q3b : FuncId := 34
theorem QfA : lowF Tryz.prog Tryz.f34 = some token_Scan_lc := by kernel_rfl
theorem Qa5 {a0 : Value} {w : World} {R : Ending → World → Prop} (h : token_Scan_lc.wp Tryz.prog (retQ Tryz.prog [.tmp 2, .cell 3 29] R) (Qi [a0]) w) : Calls Tryz.prog Q3b ⟨[a0]⟩ w R :=
  Q7 Tryz.func34 QfA (by kernel_rfl) (by kernel_rfl) h

/- 35 -/
def Qcs : List GO := []
def Qcr : List GO := [qm 2 5]
def Qcq : List GO := [qm 6 2, ⟨none, .bin 7 .neq 20 (.tmp 6) (.const .nilIface)⟩]
def Qcp : List GO := [qm 9 2, ⟨none, .raw ⟨(some 10), (.typeAssert (.tmp 9) 20 66 true), 67, "", #[], none⟩⟩, qm 8 10, qx 11 8 0, qx 12 8 1, ⟨none, .alloc 3 66 [(vi 0), (vi 0)]⟩, qw 2 3 11, qm 4 12]
def Qco : List GO := [qm 13 4, ⟨none, .un 14 .not (.tmp 13)⟩]
def Qcn : List GO := [qm 15 2, ⟨none, .raw ⟨none, (.panic (.tmp 15)), 0, "", #[], none⟩⟩]
def Qcm : List GO := [⟨none, .build 16 [vn] []⟩, qV 17 2 3, qw 1 0 16, qw 2 1 17]
def Qct : List (List Nat) := [[],[],[0,0],[1,2,0,1,2]]
def parse_Parse_1_ld : LD := (.seq (.sp Qcs (.rcv (some 5)) Qcr) (.pl (.seq (.ops Qcq) (.cond (.tmp 7) (.seq (.ops Qcp) (.seq (.seq (.ops Qco) (.cond (.tmp 14) (.ops Qcn) .skip)) (.draw Qcm Qct))) .skip))))
@[reducible] def Q53 : FuncId := 35
theorem Qbp : Qn4 Tryz.prog Tryz.f35 = some parse_Parse_1_ld := by kernel_rfl
theorem Q4G {a0 a1 : Value} {u : FrameMode} {w : World} {R : Ending → FrameMode → World → Prop} (h : parse_Parse_1_ld.wpR Tryz.prog (retR Tryz.prog [] R) u (Qi [a0, a1]) w) : CallsD Tryz.prog Q53 ⟨[a0, a1]⟩ u w R :=
  Qg8 Tryz.func35 Qbp (by kernel_rfl) (by kernel_rfl) h

/- 36 -/
def Q4C : List GO := [⟨none, .alloc 2 43 [(vi 0), vn, vn, vn]⟩]
def Q4B : List GO := [qm 4 0, ⟨none, .buildS 5 9 1 [(.string ⟨#[]⟩)] [(0, (1, (.const (.string ⟨#[102, 117, 110, 99]⟩))))]⟩, ⟨none, .call (some 6) 74 [(.tmp 4), (.tmp 5)]⟩]
def Q4A : List GO := [qm 7 0, ⟨none, .call (some 8) 75 [(.tmp 7)]⟩, ⟨none, .build 9 [(vi 0), vn, vn, vn] [(0, (1, (.tmp 8)))]⟩, ⟨none, .alloc 3 43 [(vi 0), vn, vn, vn]⟩, qw 4 3 9]
def Q4z : List GO := [qm 10 0, ⟨none, .call (some 11) 76 [(.tmp 10)]⟩, qf 12 3 1, qs 12 11]
def Q4y : List GO := [qm 13 0, ⟨none, .buildS 14 9 1 [(.string ⟨#[]⟩)] [(0, (1, (.const (.string ⟨#[45, 62]⟩))))]⟩, ⟨none, .call (some 15) 74 [(.tmp 13), (.tmp 14)]⟩]
def Q4x : List GO := [qm 16 0, ⟨none, .call (some 17) 76 [(.tmp 16)]⟩, qf 18 3 2, qs 18 17]
def Q4w : List GO := [qm 19 0, ⟨none, .buildS 20 9 1 [(.string ⟨#[]⟩)] [(0, (1, (.const (.string ⟨#[123]⟩))))]⟩, ⟨none, .call (some 21) 74 [(.tmp 19), (.tmp 20)]⟩]
def Q4v : List GO := [qm 22 0, ⟨none, .call (some 23) 77 [(.tmp 22), (.const (.string ⟨#[98, 108, 111, 99, 107]⟩))]⟩]
def Q4u : List GO := [qf 24 3 3, ql 25 24, qm 26 0, ⟨none, .call (some 27) 78 [(.tmp 26)]⟩, ⟨none, .buildS 28 52 1 [(vi 0), vn, vn, (vi 0), (vi 0), (vi 0), vn, vn, (vi 0), vn, vn, vn] [(0, (12, (.tmp 27)))]⟩, ⟨none, .raw ⟨(some 29), (.call ⟨(.builtin .append), #[(.tmp 25), (.tmp 28)], #[41, 41]⟩), 41, "", #[], none⟩⟩, qf 30 3 3, qs 30 29]
def Q4E : List (List Nat) := [[],[0],[],[2],[3],[1,4,3],[0,1,2,3,4,5],[6,5,5,0,1,2,3,4,5]]
def Q2O : LC := (.seq (.seq (.ops Q4v) (.cond (.tmp 23) .skip (.exit 0))) (.block 1 (.draw Q4u Q4E)))
def Q4t : List GO := [qm 31 0, ⟨none, .buildS 32 9 1 [(.string ⟨#[]⟩)] [(0, (1, (.const (.string ⟨#[125]⟩))))]⟩, ⟨none, .call (some 33) 74 [(.tmp 31), (.tmp 32)]⟩]
def Q4j : List GO := [qV 34 4 3, qw 4 2 34]
def parse_parser_function_lc : LC := (.seq (.ops Q4C) (.seq (.ops Q4B) (.seq (.ops Q4A) (.seq (.ops Q4z) (.seq (.ops Q4y) (.seq (.ops Q4x) (.seq (.ops Q4w) (.seq (.block 0 (.loop Q2O)) (.seq (.ops Q4t) (.seq (.ops Q4j) .ret))))))))))
@[reducible] def Q1J : FuncId := 36
theorem Q4k : lowF Tryz.prog Tryz.f36 = some parse_parser_function_lc := by kernel_rfl
theorem Q4D {a0 : Value} {w : World} {R : Ending → World → Prop} (h : parse_parser_function_lc.wp Tryz.prog (retQ Tryz.prog [.cell 2 43] R) (Qi [a0]) w) : Calls Tryz.prog Q1J ⟨[a0]⟩ w R :=
  Q7 Tryz.func36 Q4k (by kernel_rfl) (by kernel_rfl) h

/- 37 -/
/- 38 -/
/- 39 -/
/- 40 -/
/- 41 -/
/- 42 -/
/- 43 -/
/- 44 -/
/- 45 -/
def Qm7 : List GO := [qk 2 (vi 0)]
def Qm6 : List GO := [qm 3 0, ⟨none, .bin 4 .mul 3 (.const (vi 10000)) (.tmp 3)⟩, qj 5 .add 3 4 9999, qm 2 5]
def R_AtFunc_lc : LC := (.seq (.ops Qm7) (.seq (.ops Qm6) .ret))
@[reducible] def QmL : FuncId := 45
theorem Ql1 : lowF Tryz.prog Tryz.f45 = some R_AtFunc_lc := by kernel_rfl
theorem Qm8 {a0 : Value} {w : World} {R : Ending → World → Prop} (h : R_AtFunc_lc.wp Tryz.prog (retQ Tryz.prog [.tmp 2] R) (Qi [a0]) w) : Calls Tryz.prog QmL ⟨[a0]⟩ w R :=
  Q7 Tryz.func45 Ql1 (by kernel_rfl) (by kernel_rfl) h

/- 46 -/
def Qjc : List GO := [qk 4 (vi 0)]
def Qjb : List GO := [qm 7 0, qL 8 7, qj 9 .gtr 3 8 8]
def Qja : List GO := [qk 4 (vi 2)]
def Qj9 : List GO := [qk 5 (vi 0)]
def Qj8 : List GO := [qm 10 5, qm 11 0, qL 12 11, qt 13 .lss 3 10 12]
def Qj7 : List GO := [qm 16 0, qm 17 5, qi 18 3 16 17, qV 19 3 18, qm 20 1, ⟨none, .call (some 21) 90 [(.tmp 19), (.tmp 20)]⟩, qm 6 21]
def Qj6 : List GO := [qm 22 6, qj 23 .neq 3 22 0]
def Qj5 : List GO := [qm 24 6, qm 4 24]
def Qj4 : List GO := [qm 14 5, qj 15 .add 3 14 1, qm 5 15]
def QaV : LC := (.seq (.seq (.ops Qj8) (.cond (.tmp 13) .skip (.exit 0))) (.seq (.block 1 (.seq (.ops Qj7) (.seq (.ops Qj6) (.cond (.tmp 23) (.seq (.ops Qj5) .ret) .skip)))) (.ops Qj4)))
def Qj3 : List GO := [qk 4 (vi 0)]
def R_listForm_lc : LC := (.seq (.ops Qjc) (.seq (.seq (.ops Qjb) (.cond (.tmp 9) (.seq (.ops Qja) .ret) .skip)) (.seq (.seq (.ops Qj9) (.block 0 (.loop QaV))) (.seq (.ops Qj3) .ret))))
@[reducible] def Q3E : FuncId := 46
theorem Qgw : lowF Tryz.prog Tryz.f46 = some R_listForm_lc := by kernel_rfl
theorem Qjd {a0 a1 : Value} {w : World} {R : Ending → World → Prop} (h : R_listForm_lc.wp Tryz.prog (retQ Tryz.prog [.tmp 4] R) (Qi [a0, a1]) w) : Calls Tryz.prog Q3E ⟨[a0, a1]⟩ w R :=
  Q7 Tryz.func46 Qgw (by kernel_rfl) (by kernel_rfl) h

/- 47 -/
def Qev : List GO := [qb 3 24 0, ⟨none, .alloc 6 29 [(vi 0), (vi 0)]⟩]
def Qeu : List GO := [qf 13 3 0, ql 14 13, qm 15 1, qi 16 4 14 15, qV 17 4 16, ⟨none, .alloc 7 43 [(vi 0), vn, vn, vn]⟩, qw 4 7 17]
def Qet : List GO := [qf 18 7 3, ql 19 18, qm 20 2, qi 21 12 19 20, qV 22 12 21, ⟨none, .alloc 8 52 [(vi 0), vn, vn, (vi 0), (vi 0), (vi 0), vn, vn, (vi 0), vn, vn, vn]⟩, qw 12 8 22]
def Qes : List GO := [qf 23 8 0, ql 24 23, qf 25 7 0, ql 26 25, qt 27 .lss 3 24 26, qm 28 27, qg 28 false (qf 29 8 0), qg 28 false (ql 30 29), qg 28 false (qj 31 .gtr 3 30 16), ⟨none, .pick 32 (.tmp 28) (.const (.bool true)) (.tmp 31)⟩]
def Qer : List GO := [qm 33 1, qm 34 2, ⟨none, .call (some 35) 91 [(.tmp 33), (.tmp 34)]⟩, ⟨none, .call (some 36) 30 [(.const (vi 1)), (.tmp 35)]⟩, qw 2 6 36]
def Qeq : List GO := [qf 37 8 1, ql 38 37, qf 39 8 0, ql 40 39, ⟨none, .call (some 41) 46 [(.tmp 38), (.tmp 40)]⟩, qm 9 41]
def Qep : List GO := [qm 42 9, qj 43 .neq 3 42 0]
def Qeo : List GO := [qm 44 9, qm 45 1, qm 46 2, ⟨none, .call (some 47) 91 [(.tmp 45), (.tmp 46)]⟩, ⟨none, .call (some 48) 30 [(.tmp 44), (.tmp 47)]⟩, qw 2 6 48]
def Qen : List GO := [qm 49 2, qj 50 .eql 3 49 0, qm 51 50, qg 51 true (qf 52 8 0), qg 51 true (ql 53 52), qg 51 true (qf 54 7 0), qg 51 true (ql 55 54), qg 51 true (qt 56 .neq 3 53 55), qg 51 true (qm 57 56), qg 57 false (qf 58 8 1), qg 57 false (ql 59 58), qg 57 false (qf 60 7 1), qg 57 false (ql 61 60), ⟨some (57, false), .call (some 62) 32 [(.tmp 59), (.tmp 61)]⟩, ⟨some (57, false), .un 63 .not (.tmp 62)⟩, ⟨some (51, true), .pick 64 (.tmp 57) (.const (.bool true)) (.tmp 63)⟩, ⟨none, .pick 65 (.tmp 51) (.tmp 64) (.const (.bool false))⟩]
def Qem : List GO := [qm 66 1, qm 67 2, ⟨none, .call (some 68) 91 [(.tmp 66), (.tmp 67)]⟩, ⟨none, .call (some 69) 30 [(.const (vi 9)), (.tmp 68)]⟩, qw 2 6 69]
def QcN : List GO := [qf 70 8 2, ql 71 70, qL 72 71, qj 73 .gtr 3 72 40]
def QcM : List GO := [qm 74 1, qm 75 2, ⟨none, .call (some 76) 91 [(.tmp 74), (.tmp 75)]⟩, ⟨none, .call (some 77) 30 [(.const (vi 2)), (.tmp 76)]⟩, qw 2 6 77]
def QcL : List GO := [qk 10 (vi 0)]
def QcK : List GO := [qm 78 10, qf 79 8 2, ql 80 79, qL 81 80, qt 82 .lss 3 78 81]
def QcJ : List GO := [qV 85 1 3, qf 86 8 2, ql 87 86, qm 88 10, qi 89 8 87 88, qV 90 8 89, ⟨none, .call (some 91) 92 [(.tmp 85), (.tmp 90)]⟩, qm 11 91]
def QcP : List (List Nat) := [[],[],[1],[],[2,3],[4],[0,5],[6,6,0,1,2,3,4,5,6]]
def QcI : List GO := [qm 92 11, qj 93 .neq 3 92 0]
def QcH : List GO := [qm 94 11, qm 95 1, qm 96 2, qm 97 10, ⟨none, .call (some 98) 93 [(.tmp 95), (.tmp 96), (.tmp 97)]⟩, ⟨none, .call (some 99) 30 [(.tmp 94), (.tmp 98)]⟩, qw 2 6 99]
def QcG : List GO := [qm 83 10, qj 84 .add 3 83 1, qm 10 84]
def Q5f : LC := (.seq (.seq (.ops QcK) (.cond (.tmp 82) .skip (.exit 0))) (.seq (.block 1 (.seq (.draw QcJ QcP) (.seq (.ops QcI) (.cond (.tmp 93) (.seq (.ops QcH) .ret) .skip)))) (.ops QcG)))
def QcF : List GO := [qV 100 4 7, qf 101 8 3, qV 102 9 101, ⟨none, .call (some 103) 94 [(.tmp 100), (.tmp 102)]⟩, qm 12 103]
def QcE : List GO := [qm 104 12, qj 105 .neq 3 104 0]
def QcD : List GO := [qm 106 12, qm 107 1, qm 108 2, ⟨none, .call (some 109) 95 [(.tmp 107), (.tmp 108)]⟩, ⟨none, .call (some 110) 30 [(.tmp 106), (.tmp 109)]⟩, qw 2 6 110]
def QcC : List GO := [⟨none, .build 111 [(vi 0), (vi 0)] []⟩, qw 2 6 111]
def R_blockFault_lc : LC := (.seq (.ops Qev) (.seq (.ops Qeu) (.seq (.ops Qet) (.seq (.seq (.ops Qes) (.cond (.tmp 32) (.seq (.ops Qer) .ret) .skip)) (.seq (.seq (.ops Qeq) (.seq (.ops Qep) (.cond (.tmp 43) (.seq (.ops Qeo) .ret) .skip))) (.seq (.seq (.ops Qen) (.cond (.tmp 65) (.seq (.ops Qem) .ret) .skip)) (.seq (.seq (.ops QcN) (.cond (.tmp 73) (.seq (.ops QcM) .ret) .skip)) (.seq (.seq (.ops QcL) (.block 0 (.loop Q5f))) (.seq (.seq (.ops QcF) (.seq (.ops QcE) (.cond (.tmp 105) (.seq (.ops QcD) .ret) .skip))) (.seq (.ops QcC) .ret))))))))))
@[reducible] def QP : FuncId := 47
theorem QcO : lowF Tryz.prog Tryz.f47 = some R_blockFault_lc := by kernel_rfl
theorem Qew {a0 a1 a2 : Value} {w : World} {R : Ending → World → Prop} (h : R_blockFault_lc.wp Tryz.prog (retQ Tryz.prog [.cell 6 29] R) (Qi [a0, a1, a2]) w) : Calls Tryz.prog QP ⟨[a0, a1, a2]⟩ w R :=
  Q7 Tryz.func47 QcO (by kernel_rfl) (by kernel_rfl) h

/- 48 -/
/- 49 -/
/- 50 -/
def QaQ : List GO := [qm 6 1, qm 7 6, qg 7 true (qm 8 0), qg 7 true (qn 9 8), qg 7 true (qf 10 9 1), qg 7 true (qf 11 10 0), qg 7 true (ql 12 11), qg 7 true (qj 13 .eql 3 12 0), ⟨none, .pick 14 (.tmp 7) (.tmp 13) (.const (.bool false))⟩]
def QaP : List GO := [qm 15 0, qm 16 2, qm 17 0, qn 18 17, qf 19 18 3, ql 20 19, ⟨none, .build 21 [(vi 0), (vi 0)] [(0, (1, (.tmp 16))), (1, (1, (.tmp 20)))]⟩, qn 22 15, qf 23 22 1, qw 2 23 21]
def code_judge_fail_lc : LC := (.seq (.ops QaQ) (.cond (.tmp 14) (.ops QaP) .skip))
@[reducible] def Q33 : FuncId := 50
theorem Q9O : lowF Tryz.prog Tryz.f50 = some code_judge_fail_lc := by kernel_rfl
theorem Q32 {a0 a1 a2 : Value} {w : World} {R : Ending → World → Prop} (h : code_judge_fail_lc.wp Tryz.prog (retQ Tryz.prog [] R) (Qi [a0, a1, a2]) w) : Calls Tryz.prog Q33 ⟨[a0, a1, a2]⟩ w R :=
  Q7 Tryz.func50 Q9O (by kernel_rfl) (by kernel_rfl) h

/- 51 -/
def QfV : List GO := [qk 2 (vi 0)]
def QfU : List GO := [qm 3 0, qj 4 .mul 3 3 10000, qj 5 .add 3 4 9999, qm 2 5]
def code_FuncAt_lc : LC := (.seq (.ops QfV) (.seq (.ops QfU) .ret))
@[reducible] def Qe2 : FuncId := 51
theorem Qe1 : lowF Tryz.prog Tryz.f51 = some code_FuncAt_lc := by kernel_rfl
theorem QfW {a0 : Value} {w : World} {R : Ending → World → Prop} (h : code_FuncAt_lc.wp Tryz.prog (retQ Tryz.prog [.tmp 2] R) (Qi [a0]) w) : Calls Tryz.prog Qe2 ⟨[a0]⟩ w R :=
  Q7 Tryz.func51 Qe1 (by kernel_rfl) (by kernel_rfl) h

/- 52 -/
def QaG : List GO := [qm 9 0, qm 10 1, qL 11 10, qj 12 .gtr 3 11 8, ⟨none, .call (some 13) 50 [(.tmp 9), (.tmp 12), (.const (vi 2))]⟩]
def QaF : List GO := [qm 14 1, qL 15 14, qk 16 (vi 0)]
def QaE : List GO := [qt 17 .lss 3 16 15]
def QaD : List GO := [qi 18 3 14 16, qV 19 3 18, ⟨none, .alloc 7 91 [(vi 0), (vi 0), vn]⟩, qw 3 7 19]
def QaC : List GO := [qV 20 3 7, qm 21 2, ⟨none, .call (some 22) 97 [(.tmp 20), (.tmp 21)]⟩, qm 8 22]
def QaB : List GO := [qm 23 0, qm 24 8, qj 25 .neq 3 24 0, qm 26 8, ⟨none, .call (some 27) 50 [(.tmp 23), (.tmp 25), (.tmp 26)]⟩]
def QaA : List GO := [qj 28 .add 3 16 1, qm 16 28]
def Q44 : LC := (.seq (.ops QaE) (.seq (.cond (.tmp 17) .skip (.exit 0)) (.seq (.block 1 (.seq (.ops QaD) (.seq (.ops QaC) (.ops QaB)))) (.ops QaA))))
def code_judge_list_lc : LC := (.seq (.ops QaG) (.seq (.ops QaF) (.block 0 (.loop Q44))))
@[reducible] def Q78 : FuncId := 52
theorem Q9N : lowF Tryz.prog Tryz.f52 = some code_judge_list_lc := by kernel_rfl
theorem QaH {a0 a1 a2 : Value} {w : World} {R : Ending → World → Prop} (h : code_judge_list_lc.wp Tryz.prog (retQ Tryz.prog [] R) (Qi [a0, a1, a2]) w) : Calls Tryz.prog Q78 ⟨[a0, a1, a2]⟩ w R :=
  Q7 Tryz.func52 Q9N (by kernel_rfl) (by kernel_rfl) h

/- 53 -/
def Q29 : List GO := [qk 4 (.bool false)]
def Q28 : List GO := [qm 5 0, qm 6 1, ⟨none, .call (some 7) 98 [(.tmp 5), (.tmp 6)]⟩, qj 8 .geq 3 7 0, qm 4 8]
def slices_ContainsFunc_api_Type_api_Type_lc : LC := (.seq (.ops Q29) (.seq (.ops Q28) .ret))
@[reducible] def Q1s : FuncId := 53
theorem Q1Y : lowF Tryz.prog Tryz.f53 = some slices_ContainsFunc_api_Type_api_Type_lc := by kernel_rfl
theorem Q2a {a0 a1 : Value} {w : World} {R : Ending → World → Prop} (h : slices_ContainsFunc_api_Type_api_Type_lc.wp Tryz.prog (retQ Tryz.prog [.tmp 4] R) (Qi [a0, a1]) w) : Calls Tryz.prog Q1s ⟨[a0, a1]⟩ w R :=
  Q7 Tryz.func53 Q1Y (by kernel_rfl) (by kernel_rfl) h

/- 54 -/
def Qe4 : List GO := [qb 1 91 0, qk 2 (.bool false)]
def Qe3 : List GO := [qf 3 1 0, ql 4 3, qj 5 .neq 3 4 1, qm 2 5]
def code_Check_1_lc : LC := (.seq (.ops Qe4) (.seq (.ops Qe3) .ret))
@[reducible] def Q45 : FuncId := 54
theorem Qcz : lowF Tryz.prog Tryz.f54 = some code_Check_1_lc := by kernel_rfl
theorem Qe5 {a0 : Value} {w : World} {R : Ending → World → Prop} (h : code_Check_1_lc.wp Tryz.prog (retQ Tryz.prog [.tmp 2] R) (Qi [a0]) w) : Calls Tryz.prog Q45 ⟨[a0]⟩ w R :=
  Q7 Tryz.func54 Qcz (by kernel_rfl) (by kernel_rfl) h

/- 55 -/
def Q9Y : List GO := [qm 9 0, qn 10 9, qf 11 10 0, qf 12 11 0, ql 13 12, qm 14 1, qi 15 4 13 14, qV 16 4 15, ⟨none, .alloc 6 43 [(vi 0), vn, vn, vn]⟩, qw 4 6 16]
def Q9X : List GO := [qf 17 6 3, ql 18 17, qm 19 2, qi 20 12 18 19, qV 21 12 20, ⟨none, .alloc 7 52 [(vi 0), vn, vn, (vi 0), (vi 0), (vi 0), vn, vn, (vi 0), vn, vn, vn]⟩, qw 12 7 21]
def Q9W : List GO := [qm 22 0, qm 23 1, qm 24 2, ⟨none, .call (some 25) 99 [(.tmp 23), (.tmp 24)]⟩, qn 26 22, qf 27 26 3, qs 27 25]
def Q9V : List GO := [qm 28 0, qf 29 7 0, ql 30 29, qf 31 6 0, ql 32 31, qt 33 .lss 3 30 32, qm 34 33, qg 34 false (qf 35 7 0), qg 34 false (ql 36 35), qg 34 false (qj 37 .gtr 3 36 16), ⟨none, .pick 38 (.tmp 34) (.const (.bool true)) (.tmp 37)⟩, ⟨none, .call (some 39) 50 [(.tmp 28), (.tmp 38), (.const (vi 1))]⟩]
def Q9U : List GO := [qm 40 0, qf 41 7 1, ql 42 41, qf 43 7 0, ql 44 43, ⟨none, .call (some 45) 52 [(.tmp 40), (.tmp 42), (.tmp 44)]⟩]
def Q9T : List GO := [qm 46 0, qm 47 2, qj 48 .eql 3 47 0, qm 49 48, qg 49 true (qf 50 7 0), qg 49 true (ql 51 50), qg 49 true (qf 52 6 0), qg 49 true (ql 53 52), qg 49 true (qt 54 .neq 3 51 53), qg 49 true (qm 55 54), qg 55 false (qf 56 7 1), qg 55 false (ql 57 56), qg 55 false (qf 58 6 1), qg 55 false (ql 59 58), ⟨some (55, false), .call (some 60) 100 [(.tmp 57), (.tmp 59), (.func 101)]⟩, ⟨some (55, false), .un 61 .not (.tmp 60)⟩, ⟨some (49, true), .pick 62 (.tmp 55) (.const (.bool true)) (.tmp 61)⟩, ⟨none, .pick 63 (.tmp 49) (.tmp 62) (.const (.bool false))⟩, ⟨none, .call (some 64) 50 [(.tmp 46), (.tmp 63), (.const (vi 9))]⟩]
def Q9S : List GO := [qm 65 0, qf 66 7 2, ql 67 66, qL 68 67, qj 69 .gtr 3 68 40, ⟨none, .call (some 70) 50 [(.tmp 65), (.tmp 69), (.const (vi 2))]⟩]
def Q9R : List GO := [qk 8 (vi 0)]
def Q9Q : List GO := [qm 71 8, qf 72 7 2, ql 73 72, qL 74 73, qt 75 .lss 3 71 74, qm 76 75, qg 76 true (qm 77 0), qg 76 true (qn 78 77), qg 76 true (qf 79 78 1), qg 76 true (qf 80 79 0), qg 76 true (ql 81 80), qg 76 true (qj 82 .eql 3 81 0), ⟨none, .pick 83 (.tmp 76) (.tmp 82) (.const (.bool false))⟩]
def Q9P : List GO := [qm 86 0, qm 87 1, qm 88 2, qm 89 8, ⟨none, .call (some 90) 102 [(.tmp 87), (.tmp 88), (.tmp 89)]⟩, qn 91 86, qf 92 91 3, qs 92 90]
def Q8V : List GO := [qm 93 0, qf 94 7 2, ql 95 94, qm 96 8, qi 97 8 95 96, qV 98 8 97, ⟨none, .call (some 99) 103 [(.tmp 93), (.tmp 98)]⟩]
def Q8U : List GO := [qm 84 8, qj 85 .add 3 84 1, qm 8 85]
def Q3R : LC := (.seq (.seq (.ops Q9Q) (.cond (.tmp 83) .skip (.exit 0))) (.seq (.block 1 (.seq (.ops Q9P) (.ops Q8V))) (.ops Q8U)))
def Q8T : List GO := [qm 100 0, qm 101 1, qm 102 2, ⟨none, .call (some 103) 104 [(.tmp 101), (.tmp 102)]⟩, qn 104 100, qf 105 104 3, qs 105 103]
def Q8S : List GO := [qm 106 0, qV 107 4 6, qf 108 7 3, qV 109 9 108, ⟨none, .call (some 110) 105 [(.tmp 106), (.tmp 107), (.tmp 109)]⟩]
def code_judge_block_lc : LC := (.seq (.ops Q9Y) (.seq (.ops Q9X) (.seq (.ops Q9W) (.seq (.ops Q9V) (.seq (.ops Q9U) (.seq (.ops Q9T) (.seq (.ops Q9S) (.seq (.seq (.ops Q9R) (.block 0 (.loop Q3R))) (.seq (.ops Q8T) (.ops Q8S))))))))))
@[reducible] def Q2G : FuncId := 55
theorem Q8W : lowF Tryz.prog Tryz.f55 = some code_judge_block_lc := by kernel_rfl
theorem Q9Z {a0 a1 a2 : Value} {w : World} {R : Ending → World → Prop} (h : code_judge_block_lc.wp Tryz.prog (retQ Tryz.prog [] R) (Qi [a0, a1, a2]) w) : Calls Tryz.prog Q2G ⟨[a0, a1, a2]⟩ w R :=
  Q7 Tryz.func55 Q8W (by kernel_rfl) (by kernel_rfl) h

/- 56 -/
/- 57 -/
/- 58 -/
/- 59 -/
/- 60 -/
/- 61 -/
/- 62 -/
/- 63 -/
@[reducible] def strconv_Itoa : FuncId := 63
/- 64 -/
/- 65 -/
/- 66 -/
/- 67 -/
/- 68 -/
def Qjf : List GO := [qb 2 91 0, qb 3 91 1, qk 4 (.bool false)]
def Qje : List GO := [qf 5 2 0, ql 6 5, qf 7 3 0, ql 8 7, qt 9 .eql 3 6 8, qm 10 9, qg 10 true (qf 11 2 1), qg 10 true (ql 12 11), qg 10 true (qf 13 3 1), qg 10 true (ql 14 13), qg 10 true (qt 15 .eql 3 12 14), ⟨none, .pick 16 (.tmp 10) (.tmp 15) (.const (.bool false))⟩, qm 17 16, qg 17 true (qf 18 2 2), qg 17 true (ql 19 18), qg 17 true (qf 20 3 2), qg 17 true (ql 21 20), ⟨some (17, true), .call (some 22) 32 [(.tmp 19), (.tmp 21)]⟩, ⟨none, .pick 23 (.tmp 17) (.tmp 22) (.const (.bool false))⟩, qm 4 23]
def R_SameType_lc : LC := (.seq (.ops Qjf) (.seq (.ops Qje) .ret))
@[reducible] def QbV : FuncId := 68
theorem QgN : lowF Tryz.prog Tryz.f68 = some R_SameType_lc := by kernel_rfl
theorem Qjg {a0 a1 : Value} {w : World} {R : Ending → World → Prop} (h : R_SameType_lc.wp Tryz.prog (retQ Tryz.prog [.tmp 4] R) (Qi [a0, a1]) w) : Calls Tryz.prog QbV ⟨[a0, a1]⟩ w R :=
  Q7 Tryz.func68 QgN (by kernel_rfl) (by kernel_rfl) h

/- 69 -/
def QkA : List GO := [qb 2 54 0, qb 3 54 1, qk 4 (.bool false)]
def Qkz : List GO := [qf 5 2 0, ql 6 5, qf 7 3 0, ql 8 7, qt 9 .eql 3 6 8, qm 10 9, qg 10 true (qf 11 2 1), qg 10 true (ql 12 11), qg 10 true (qf 13 3 1), qg 10 true (ql 14 13), qg 10 true (qt 15 .eql 3 12 14), ⟨none, .pick 16 (.tmp 10) (.tmp 15) (.const (.bool false))⟩, qm 17 16, qg 17 true (qf 18 2 2), qg 17 true (ql 19 18), qg 17 true (qf 20 3 2), qg 17 true (ql 21 20), qg 17 true (qt 22 .eql 3 19 21), ⟨none, .pick 23 (.tmp 17) (.tmp 22) (.const (.bool false))⟩, qm 24 23, qg 24 true (qf 25 2 3), qg 24 true (ql 26 25), qg 24 true (qf 27 3 3), qg 24 true (ql 28 27), qg 24 true (qt 29 .eql 3 26 28), ⟨none, .pick 30 (.tmp 24) (.tmp 29) (.const (.bool false))⟩, qm 31 30, qg 31 true (qf 32 2 4), qg 31 true (ql 33 32), qg 31 true (qf 34 3 4), qg 31 true (ql 35 34), qg 31 true (qt 36 .eql 3 33 35), ⟨none, .pick 37 (.tmp 31) (.tmp 36) (.const (.bool false))⟩, qm 38 37, qg 38 true (qf 39 2 5), qg 38 true (ql 40 39), qg 38 true (qf 41 3 5), qg 38 true (ql 42 41), qg 38 true (qt 43 .eql 2 40 42), ⟨none, .pick 44 (.tmp 38) (.tmp 43) (.const (.bool false))⟩, qm 45 44, qg 45 true (qf 46 2 6), qg 45 true (ql 47 46), qg 45 true (qf 48 3 6), qg 45 true (ql 49 48), ⟨some (45, true), .call (some 50) 71 [(.tmp 47), (.tmp 49)]⟩, ⟨none, .pick 51 (.tmp 45) (.tmp 50) (.const (.bool false))⟩, qm 52 51, qg 52 true (qf 53 2 7), qg 52 true (ql 54 53), qg 52 true (qf 55 3 7), qg 52 true (ql 56 55), ⟨some (52, true), .call (some 57) 71 [(.tmp 54), (.tmp 56)]⟩, ⟨none, .pick 58 (.tmp 52) (.tmp 57) (.const (.bool false))⟩, qm 4 58]
def R_sameIns_lc : LC := (.seq (.ops QkA) (.seq (.ops Qkz) .ret))
@[reducible] def QkC : FuncId := 69
theorem Qj2 : lowF Tryz.prog Tryz.f69 = some R_sameIns_lc := by kernel_rfl
theorem QkB {a0 a1 : Value} {w : World} {R : Ending → World → Prop} (h : R_sameIns_lc.wp Tryz.prog (retQ Tryz.prog [.tmp 4] R) (Qi [a0, a1]) w) : Calls Tryz.prog QkC ⟨[a0, a1]⟩ w R :=
  Q7 Tryz.func69 Qj2 (by kernel_rfl) (by kernel_rfl) h

/- 70 -/
def QlS : List GO := [qb 2 48 0, qb 3 48 1, qk 4 (.bool false)]
def QlR : List GO := [qf 5 2 0, ql 6 5, qf 7 3 0, ql 8 7, qt 9 .eql 3 6 8, qm 10 9, qg 10 true (qf 11 2 1), qg 10 true (ql 12 11), qg 10 true (qf 13 3 1), qg 10 true (ql 14 13), ⟨some (10, true), .call (some 15) 71 [(.tmp 12), (.tmp 14)]⟩, ⟨none, .pick 16 (.tmp 10) (.tmp 15) (.const (.bool false))⟩, qm 17 16, qg 17 true (qf 18 2 2), qg 17 true (ql 19 18), qg 17 true (qf 20 3 2), qg 17 true (ql 21 20), ⟨some (17, true), .call (some 22) 71 [(.tmp 19), (.tmp 21)]⟩, ⟨none, .pick 23 (.tmp 17) (.tmp 22) (.const (.bool false))⟩, qm 4 23]
def R_sameTo_lc : LC := (.seq (.ops QlS) (.seq (.ops QlR) .ret))
@[reducible] def QmK : FuncId := 70
theorem Qky : lowF Tryz.prog Tryz.f70 = some R_sameTo_lc := by kernel_rfl
theorem QlT {a0 a1 : Value} {w : World} {R : Ending → World → Prop} (h : R_sameTo_lc.wp Tryz.prog (retQ Tryz.prog [.tmp 4] R) (Qi [a0, a1]) w) : Calls Tryz.prog QmK ⟨[a0, a1]⟩ w R :=
  Q7 Tryz.func70 Qky (by kernel_rfl) (by kernel_rfl) h

/- 71 -/
def Qjp : List GO := [qk 4 (.bool false)]
def Qjo : List GO := [qm 6 0, qL 7 6, qm 8 1, qL 9 8, qt 10 .neq 3 7 9]
def Qjn : List GO := [qk 4 (.bool false)]
def Qjm : List GO := [qk 5 (vi 0)]
def Qjl : List GO := [qm 11 5, qm 12 0, qL 13 12, qt 14 .lss 3 11 13]
def Qjk : List GO := [qm 17 0, qm 18 5, qi 19 1 17 18, ql 20 19, qm 21 1, qm 22 5, qi 23 1 21 22, ql 24 23, qt 25 .neq 3 20 24]
def Qjr : List (List Nat) := [[],[],[0,1],[2],[],[],[4,5],[6],[3,7]]
def Qjj : List GO := [qk 4 (.bool false)]
def Qji : List GO := [qm 15 5, qj 16 .add 3 15 1, qm 5 16]
def QaW : LC := (.seq (.seq (.ops Qjl) (.cond (.tmp 14) .skip (.exit 0))) (.seq (.block 1 (.seq (.draw Qjk Qjr) (.cond (.tmp 25) (.seq (.ops Qjj) .ret) .skip))) (.ops Qji)))
def Qjh : List GO := [qk 4 (.bool true)]
def R_SameInts_lc : LC := (.seq (.ops Qjp) (.seq (.seq (.ops Qjo) (.cond (.tmp 10) (.seq (.ops Qjn) .ret) .skip)) (.seq (.seq (.ops Qjm) (.block 0 (.loop QaW))) (.seq (.ops Qjh) .ret))))
@[reducible] def Q3F : FuncId := 71
theorem QgO : lowF Tryz.prog Tryz.f71 = some R_SameInts_lc := by kernel_rfl
theorem Qjq {a0 a1 : Value} {w : World} {R : Ending → World → Prop} (h : R_SameInts_lc.wp Tryz.prog (retQ Tryz.prog [.tmp 4] R) (Qi [a0, a1]) w) : Calls Tryz.prog Q3F ⟨[a0, a1]⟩ w R :=
  Q7 Tryz.func71 QgO (by kernel_rfl) (by kernel_rfl) h

/- 72 -/
def Q5E : List GO := [qk 2 (.bool false)]
def Q5D : List GO := [qm 4 0, qn 5 4, qf 6 5 1, ql 7 6, qm 8 0, qn 9 8, qf 10 9 0, ql 11 10, ⟨none, .slen 12 (.tmp 11)⟩, qt 13 .lss 3 7 12]
def Q5H : List (List Nat) := [[],[0],[1],[2],[],[4],[5],[6],[7],[3,8]]
def Q5C : List GO := [qm 21 0, qn 22 21, qf 23 22 0, ql 24 23, qm 25 0, qn 26 25, qf 27 26 1, ql 28 27, ⟨none, .sidx 29 (.tmp 24) (.tmp 28)⟩, qm 3 29]
def Q5G : List (List Nat) := [[],[0],[1],[2],[],[4],[5],[6],[3,7],[8,0,1,2,3,4,5,6,7,8]]
def Q5B : List GO := [qm 31 3, ⟨none, .bin 32 .eql 5 (.tmp 31) (.const (.int .u8 10))⟩, qm 30 32]
def Q5A : List GO := [qk 2 (.bool false)]
def Q5z : List GO := [qm 34 2, qm 35 34, qg 35 false (qm 36 3), ⟨some (35, false), .bin 37 .eql 5 (.tmp 36) (.const (.int .u8 32))⟩, ⟨none, .pick 38 (.tmp 35) (.const (.bool true)) (.tmp 37)⟩, qm 39 38, qg 39 false (qm 40 3), ⟨some (39, false), .bin 41 .eql 5 (.tmp 40) (.const (.int .u8 9))⟩, ⟨none, .pick 42 (.tmp 39) (.const (.bool true)) (.tmp 41)⟩, qm 43 42, qg 43 false (qm 44 3), ⟨some (43, false), .bin 45 .eql 5 (.tmp 44) (.const (.int .u8 13))⟩, ⟨none, .pick 46 (.tmp 43) (.const (.bool true)) (.tmp 45)⟩, qm 33 46]
def Q5y : List GO := [qm 48 3, ⟨none, .bin 49 .eql 5 (.tmp 48) (.const (.int .u8 35))⟩, qm 47 49]
def Q5x : List GO := [qk 2 (.bool true)]
def Q5w : List GO := [qm 14 0, qn 15 14, qf 16 15 1, ql 17 16, qj 18 .add 3 17 1, qn 19 14, qf 20 19 1, qs 20 18]
def Q36 : LC := (.seq (.seq (.draw Q5D Q5H) (.cond (.tmp 13) .skip (.exit 0))) (.seq (.block 1 (.seq (.draw Q5C Q5G) (.block 2 (.seq (.ops Q5B) (.cond (.tmp 30) (.ops Q5A) (.seq (.ops Q5z) (.cond (.tmp 33) .skip (.seq (.ops Q5y) (.cond (.tmp 47) (.ops Q5x) .ret))))))))) (.ops Q5w)))
def token_scanner_blank_lc : LC := (.seq (.ops Q5E) (.block 0 (.loop Q36)))
@[reducible] def QA : FuncId := 72
theorem Q4T : lowF Tryz.prog Tryz.f72 = some token_scanner_blank_lc := by kernel_rfl
theorem Q5F {a0 : Value} {w : World} {R : Ending → World → Prop} (h : token_scanner_blank_lc.wp Tryz.prog (retQ Tryz.prog [] R) (Qi [a0]) w) : Calls Tryz.prog QA ⟨[a0]⟩ w R :=
  Q7 Tryz.func72 Q4T (by kernel_rfl) (by kernel_rfl) h

/- 73 -/
def Q6f : List GO := [⟨none, .alloc 2 126 [(vi 0), (.string ⟨#[]⟩), (.bool false), (vi 0)]⟩, qk 3 (vi 0)]
def Q6e : List GO := [qm 6 0, qn 7 6, qf 8 7 1, ql 9 8, qm 4 9]
def Q6d : List GO := [qm 10 0, qn 11 10, qf 12 11 0, ql 13 12, qm 14 4, ⟨none, .sidx 15 (.tmp 13) (.tmp 14)⟩, qm 5 15]
def Q6c : List GO := [qm 17 5, ⟨none, .call (some 18) 116 [(.tmp 17)]⟩, qm 16 18]
def Q6b : List GO := [qm 19 4, qm 20 0, ⟨none, .call (some 21) 117 [(.tmp 20), (.func 116)]⟩, ⟨none, .build 22 [(vi 0), (.string ⟨#[]⟩), (.bool false), (vi 0)] [(0, (1, (.tmp 19))), (1, (1, (.tmp 21)))]⟩, qw 4 2 22, qk 3 (vi 0)]
def Q6a : List GO := [qm 24 5, ⟨none, .call (some 25) 118 [(.tmp 24)]⟩, qm 23 25]
def Q69 : List GO := [qm 26 0, qm 27 4, ⟨none, .call (some 28) 119 [(.tmp 26), (.tmp 27), (.const (.string ⟨#[]⟩))]⟩, qx 29 28 0, qx 30 28 1, qw 4 2 29, qm 3 30]
def Q68 : List GO := [qm 32 0, qn 33 32, qf 34 33 0, ql 35 34, qm 36 4, ⟨none, .ssub 37 (.tmp 35) (some (.tmp 36)) none⟩, ⟨none, .call (some 38) 120 [(.tmp 37), (.const (.string ⟨#[45, 62]⟩))]⟩, qm 31 38]
def Q67 : List GO := [qm 39 0, qn 40 39, qf 41 40 1, ql 42 41, qj 43 .add 3 42 2, qn 44 39, qf 45 44 1, qs 45 43]
def Q66 : List GO := [qm 46 4, ⟨none, .build 47 [(vi 0), (.string ⟨#[]⟩), (.bool false), (vi 0)] [(0, (1, (.tmp 46))), (1, (1, (.const (.string ⟨#[45, 62]⟩))))]⟩, qw 4 2 47, qk 3 (vi 0)]
def Q5u : List GO := [qm 49 5, ⟨none, .bin 50 .eql 5 (.tmp 49) (.const (.int .u8 45))⟩, qm 51 50, qg 51 true (qm 52 4), qg 51 true (qj 53 .add 3 52 1), qg 51 true (qm 54 0), qg 51 true (qn 55 54), qg 51 true (qf 56 55 0), qg 51 true (ql 57 56), ⟨some (51, true), .slen 58 (.tmp 57)⟩, qg 51 true (qt 59 .lss 3 53 58), ⟨none, .pick 60 (.tmp 51) (.tmp 59) (.const (.bool false))⟩, qm 61 60, qg 61 true (qm 62 0), qg 61 true (qn 63 62), qg 61 true (qf 64 63 0), qg 61 true (ql 65 64), qg 61 true (qm 66 4), qg 61 true (qj 67 .add 3 66 1), ⟨some (61, true), .sidx 68 (.tmp 65) (.tmp 67)⟩, ⟨some (61, true), .call (some 69) 118 [(.tmp 68)]⟩, ⟨none, .pick 70 (.tmp 61) (.tmp 69) (.const (.bool false))⟩, qm 48 70]
def Q5t : List GO := [qm 71 0, qn 72 71, qf 73 72 1, ql 74 73, qj 75 .add 3 74 1, qn 76 71, qf 77 76 1, qs 77 75]
def Q5s : List GO := [qm 78 0, qm 79 4, ⟨none, .call (some 80) 119 [(.tmp 78), (.tmp 79), (.const (.string ⟨#[45]⟩))]⟩, qx 81 80 0, qx 82 80 1, qw 4 2 81, qm 3 82]
def Q5r : List GO := [qm 84 5, ⟨none, .bin 85 .neq 5 (.tmp 84) (.const (.int .u8 45))⟩, qm 86 85, qg 86 true (qm 87 5), ⟨some (86, true), .call (some 88) 121 [(.const (.string ⟨#[40, 41, 123, 125, 60, 62, 44, 59, 45]⟩)), (.tmp 87)]⟩, qg 86 true (qj 89 .geq 3 88 0), ⟨none, .pick 90 (.tmp 86) (.tmp 89) (.const (.bool false))⟩, qm 83 90]
def Q5q : List GO := [qm 91 0, qn 92 91, qf 93 92 1, ql 94 93, qj 95 .add 3 94 1, qn 96 91, qf 97 96 1, qs 97 95]
def Q5p : List GO := [qm 98 4, qm 99 0, qn 100 99, qf 101 100 0, ql 102 101, qm 103 4, qm 104 4, qj 105 .add 3 104 1, ⟨none, .ssub 106 (.tmp 102) (some (.tmp 103)) (some (.tmp 105))⟩, ⟨none, .build 107 [(vi 0), (.string ⟨#[]⟩), (.bool false), (vi 0)] [(0, (1, (.tmp 98))), (1, (1, (.tmp 106)))]⟩, qw 4 2 107, qk 3 (vi 0)]
def Q5o : List GO := [⟨none, .build 108 [(vi 0), (.string ⟨#[]⟩), (.bool false), (vi 0)] []⟩, qw 4 2 108, qk 3 (vi 6)]
def token_scanner_next_lc : LC := (.seq (.ops Q6f) (.seq (.ops Q6e) (.seq (.seq (.ops Q6d) (.block 0 (.seq (.ops Q6c) (.cond (.tmp 16) (.seq (.ops Q6b) .ret) (.seq (.ops Q6a) (.cond (.tmp 23) (.seq (.ops Q69) .ret) (.seq (.ops Q68) (.cond (.tmp 31) (.seq (.ops Q67) (.seq (.ops Q66) .ret)) (.seq (.ops Q5u) (.cond (.tmp 48) (.seq (.ops Q5t) (.seq (.ops Q5s) .ret)) (.seq (.ops Q5r) (.cond (.tmp 83) (.seq (.ops Q5q) (.seq (.ops Q5p) .ret)) .skip)))))))))))) (.seq (.ops Q5o) .ret))))
@[reducible] def Qv : FuncId := 73
theorem Q5v : lowF Tryz.prog Tryz.f73 = some token_scanner_next_lc := by kernel_rfl
theorem Q6g {a0 : Value} {w : World} {R : Ending → World → Prop} (h : token_scanner_next_lc.wp Tryz.prog (retQ Tryz.prog [.cell 2 126, .tmp 3] R) (Qi [a0]) w) : Calls Tryz.prog Qv ⟨[a0]⟩ w R :=
  Q7 Tryz.func73 Q5v (by kernel_rfl) (by kernel_rfl) h

/- 74 -/
def Q7E : List GO := [qm 6 1, qL 7 6, qk 8 (vi 0)]
def Q7D : List GO := [qt 9 .lss 3 8 7]
def Q7C : List GO := [qi 10 1 6 8, ql 11 10, qm 5 11]
def Q7B : List GO := [qm 12 0, qm 13 5, ⟨none, .call (some 14) 77 [(.tmp 12), (.tmp 13)]⟩, ⟨none, .un 15 .not (.tmp 14)⟩]
def Q7A : List GO := [qm 16 0, ⟨none, .call (some 17) 122 [(.tmp 16), (.const (vi 4))]⟩]
def Q7z : List GO := [qm 18 0, ⟨none, .call (some 19) 123 [(.tmp 18)]⟩]
def Q7y : List GO := [qj 20 .add 3 8 1, qm 8 20]
def Q3r : LC := (.seq (.ops Q7D) (.seq (.cond (.tmp 9) .skip (.exit 0)) (.seq (.block 1 (.seq (.ops Q7C) (.seq (.seq (.ops Q7B) (.cond (.tmp 15) (.ops Q7A) .skip)) (.ops Q7z)))) (.ops Q7y))))
def parse_parser_want_lc : LC := (.seq (.ops Q7E) (.block 0 (.loop Q3r)))
@[reducible] def Q1P : FuncId := 74
theorem Q6u : lowF Tryz.prog Tryz.f74 = some parse_parser_want_lc := by kernel_rfl
theorem Q7F {a0 a1 : Value} {w : World} {R : Ending → World → Prop} (h : parse_parser_want_lc.wp Tryz.prog (retQ Tryz.prog [] R) (Qi [a0, a1]) w) : Calls Tryz.prog Q1P ⟨[a0, a1]⟩ w R :=
  Q7 Tryz.func74 Q6u (by kernel_rfl) (by kernel_rfl) h

/- 75 -/
def Q9x : List GO := [qk 2 (vi 0)]
def Q9w : List GO := [qm 3 0, qn 4 3, qf 5 4 0, ql 6 5, qL 7 6, qj 8 .gtr 3 7 0, qm 9 8, qg 9 true (qm 10 0), qg 9 true (qn 11 10), qg 9 true (qf 12 11 0), qg 9 true (ql 13 12), ⟨some (9, true), .idx 14 4 (.tmp 13) (.const (vi 0))⟩, qg 9 true (qf 15 14 2), qg 9 true (ql 16 15), ⟨none, .pick 17 (.tmp 9) (.tmp 16) (.const (.bool false))⟩, qm 18 17, qg 18 true (qm 19 0), qg 18 true (qn 20 19), qg 18 true (qf 21 20 0), qg 18 true (ql 22 21), ⟨some (18, true), .idx 23 4 (.tmp 22) (.const (vi 0))⟩, qg 18 true (qf 24 23 3), qg 18 true (ql 25 24), qg 18 true (qj 26 .lss 2 25 0), qg 18 true (qm 27 26), qg 27 false (qm 28 0), qg 27 false (qn 29 28), qg 27 false (qf 30 29 0), qg 27 false (ql 31 30), ⟨some (27, false), .idx 32 4 (.tmp 31) (.const (vi 0))⟩, qg 27 false (qf 33 32 3), qg 27 false (ql 34 33), qg 27 false (qj 35 .gtr 2 34 1000000), ⟨some (18, true), .pick 36 (.tmp 27) (.const (.bool true)) (.tmp 35)⟩, ⟨none, .pick 37 (.tmp 18) (.tmp 36) (.const (.bool false))⟩]
def Q9v : List GO := [qm 38 0, ⟨none, .call (some 39) 122 [(.tmp 38), (.const (vi 8))]⟩]
def Q9u : List GO := [qm 40 0, ⟨none, .call (some 41) 124 [(.tmp 40)]⟩, qm 2 41]
def parse_parser_num_lc : LC := (.seq (.ops Q9x) (.seq (.seq (.ops Q9w) (.cond (.tmp 37) (.ops Q9v) .skip)) (.seq (.ops Q9u) .ret)))
@[reducible] def Q1I : FuncId := 75
theorem Q7Q : lowF Tryz.prog Tryz.f75 = some parse_parser_num_lc := by kernel_rfl
theorem Q2H {a0 : Value} {w : World} {R : Ending → World → Prop} (h : parse_parser_num_lc.wp Tryz.prog (retQ Tryz.prog [.tmp 2] R) (Qi [a0]) w) : Calls Tryz.prog Q1I ⟨[a0]⟩ w R :=
  Q7 Tryz.func75 Q7Q (by kernel_rfl) (by kernel_rfl) h

/- 76 -/
def Q6w : List GO := [qb 1 68 0, qk 2 vn]
def Q6v : List GO := [ql 3 1, ⟨none, .mkfn 4 126 [(.tmp 1)]⟩, ⟨none, .call (some 5) 125 [(.tmp 3), (.const (.string ⟨#[40]⟩)), (.const (.string ⟨#[41]⟩)), (.tmp 4)]⟩, qm 2 5]
def parse_parser_types_lc : LC := (.seq (.ops Q6w) (.seq (.ops Q6v) .ret))
@[reducible] def Q3Y : FuncId := 76
theorem Q5J : lowF Tryz.prog Tryz.f76 = some parse_parser_types_lc := by kernel_rfl
theorem Q6x {a0 : Value} {w : World} {R : Ending → World → Prop} (h : parse_parser_types_lc.wp Tryz.prog (retQ Tryz.prog [.tmp 2] R) (Qi [a0]) w) : Calls Tryz.prog Q3Y ⟨[a0]⟩ w R :=
  Q7 Tryz.func76 Q5J (by kernel_rfl) (by kernel_rfl) h

/- 77 -/
def Qak : List GO := [qk 4 (.bool false)]
def Qaj : List GO := [qm 5 0, qn 6 5, qf 7 6 0, ql 8 7, qL 9 8, qj 10 .gtr 3 9 0, qm 11 10, qg 11 true (qm 12 0), qg 11 true (qn 13 12), qg 11 true (qf 14 13 0), qg 11 true (ql 15 14), ⟨some (11, true), .idx 16 4 (.tmp 15) (.const (vi 0))⟩, qg 11 true (qf 17 16 2), qg 11 true (ql 18 17), ⟨some (11, true), .un 19 .not (.tmp 18)⟩, ⟨none, .pick 20 (.tmp 11) (.tmp 19) (.const (.bool false))⟩, qm 21 20, qg 21 true (qm 22 0), qg 21 true (qn 23 22), qg 21 true (qf 24 23 0), qg 21 true (ql 25 24), ⟨some (21, true), .idx 26 4 (.tmp 25) (.const (vi 0))⟩, qg 21 true (qf 27 26 1), qg 21 true (ql 28 27), qg 21 true (qm 29 1), qg 21 true (qt 30 .eql 9 28 29), ⟨none, .pick 31 (.tmp 21) (.tmp 30) (.const (.bool false))⟩, qm 4 31]
def parse_parser_is_lc : LC := (.seq (.ops Qak) (.seq (.ops Qaj) .ret))
@[reducible] def Q3L : FuncId := 77
theorem Q9y : lowF Tryz.prog Tryz.f77 = some parse_parser_is_lc := by kernel_rfl
theorem Q2U {a0 a1 : Value} {w : World} {R : Ending → World → Prop} (h : parse_parser_is_lc.wp Tryz.prog (retQ Tryz.prog [.tmp 4] R) (Qi [a0, a1]) w) : Calls Tryz.prog Q3L ⟨[a0, a1]⟩ w R :=
  Q7 Tryz.func77 Q9y (by kernel_rfl) (by kernel_rfl) h

/- 78 -/
def Q6W : List GO := [⟨none, .alloc 2 52 [(vi 0), vn, vn, (vi 0), (vi 0), (vi 0), vn, vn, (vi 0), vn, vn, vn]⟩]
def Q6V : List GO := [qm 6 0, ⟨none, .buildS 7 9 1 [(.string ⟨#[]⟩)] [(0, (1, (.const (.string ⟨#[98, 108, 111, 99, 107]⟩))))]⟩, ⟨none, .call (some 8) 74 [(.tmp 6), (.tmp 7)]⟩]
def Q6U : List GO := [qm 9 0, ⟨none, .call (some 10) 75 [(.tmp 9)]⟩, ⟨none, .build 11 [(vi 0), vn, vn, (vi 0), (vi 0), (vi 0), vn, vn, (vi 0), vn, vn, vn] [(0, (1, (.tmp 10)))]⟩, ⟨none, .alloc 3 52 [(vi 0), vn, vn, (vi 0), (vi 0), (vi 0), vn, vn, (vi 0), vn, vn, vn]⟩, qw 12 3 11]
def Q6T : List GO := [qm 12 0, ⟨none, .call (some 13) 76 [(.tmp 12)]⟩, qf 14 3 1, qs 14 13]
def Q6S : List GO := [qm 15 0, ⟨none, .buildS 16 9 1 [(.string ⟨#[]⟩)] [(0, (1, (.const (.string ⟨#[123]⟩))))]⟩, ⟨none, .call (some 17) 74 [(.tmp 15), (.tmp 16)]⟩]
def Q6R : List GO := [qm 19 0, ⟨none, .call (some 20) 128 [(.tmp 19)]⟩, qm 18 20, qx 21 18 0, qx 22 18 1, ⟨none, .alloc 4 54 [(vi 0), (vi 0), (vi 0), (vi 0), (vi 0), (vi 0), vn, vn]⟩, qw 8 4 21, qm 5 22]
def Q6Q : List GO := [qm 23 5]
def Q6P : List GO := [qf 29 3 2, ql 30 29, qV 31 8 4, ⟨none, .buildS 32 54 1 [(vi 0), (vi 0), (vi 0), (vi 0), (vi 0), (vi 0), vn, vn] [(0, (8, (.tmp 31)))]⟩, ⟨none, .raw ⟨(some 33), (.call ⟨(.builtin .append), #[(.tmp 30), (.tmp 32)], #[45, 45]⟩), 45, "", #[], none⟩⟩, qf 34 3 2, qs 34 33]
def Q6O : List GO := [qV 35 8 4]
def Q6N : List GO := [⟨none, .alloc 4 54 [(vi 0), (vi 0), (vi 0), (vi 0), (vi 0), (vi 0), vn, vn]⟩, qw 8 4 35]
def Q5O : List GO := [qm 25 0, ⟨none, .call (some 26) 128 [(.tmp 25)]⟩, qm 24 26, qx 27 24 0, qx 28 24 1, qw 8 4 27, qm 5 28]
def Q3k : LC := (.seq (.seq (.ops Q6Q) (.cond (.tmp 23) .skip (.exit 0))) (.seq (.block 1 (.ops Q6P)) (.seq (.seq (.ops Q6O) (.ops Q6N)) (.ops Q5O))))
def Q5N : List GO := [qm 36 0, ⟨none, .call (some 37) 129 [(.tmp 36)]⟩, qf 38 3 3, qw 9 38 37]
def Q5M : List GO := [qm 39 0, ⟨none, .buildS 40 9 1 [(.string ⟨#[]⟩)] [(0, (1, (.const (.string ⟨#[125]⟩))))]⟩, ⟨none, .call (some 41) 74 [(.tmp 39), (.tmp 40)]⟩]
def Q5L : List GO := [qV 42 12 3, qw 12 2 42]
def parse_parser_block_lc : LC := (.seq (.ops Q6W) (.seq (.ops Q6V) (.seq (.ops Q6U) (.seq (.ops Q6T) (.seq (.ops Q6S) (.seq (.seq (.ops Q6R) (.block 0 (.loop Q3k))) (.seq (.ops Q5N) (.seq (.ops Q5M) (.seq (.ops Q5L) .ret)))))))))
@[reducible] def Q21 : FuncId := 78
theorem Q5P : lowF Tryz.prog Tryz.f78 = some parse_parser_block_lc := by kernel_rfl
theorem Q6X {a0 : Value} {w : World} {R : Ending → World → Prop} (h : parse_parser_block_lc.wp Tryz.prog (retQ Tryz.prog [.cell 2 52] R) (Qi [a0]) w) : Calls Tryz.prog Q21 ⟨[a0]⟩ w R :=
  Q7 Tryz.func78 Q5P (by kernel_rfl) (by kernel_rfl) h

/- 79 -/
/- 80 -/
/- 81 -/
/- 82 -/
/- 83 -/
/- 84 -/
/- 85 -/
/- 86 -/
/- 87 -/
/- 88 -/
/- 89 -/
/- 90 -/
def QgA : List GO := [qb 2 91 0, qk 4 (vi 0)]
def Qgz : List GO := [qV 5 3 2, ⟨none, .call (some 6) 131 [(.tmp 5), (.const (vi 4))]⟩, qj 7 .gtr 3 6 4]
def Qgy : List GO := [qk 4 (vi 19)]
def Qgx : List GO := [qV 8 3 2, qm 9 1, ⟨none, .call (some 10) 132 [(.tmp 8), (.tmp 9)]⟩, qm 4 10]
def R_TypeFault_lc : LC := (.seq (.ops QgA) (.seq (.seq (.ops Qgz) (.cond (.tmp 7) (.seq (.ops Qgy) .ret) .skip)) (.seq (.ops Qgx) .ret)))
@[reducible] def Q5a : FuncId := 90
theorem Qex : lowF Tryz.prog Tryz.f90 = some R_TypeFault_lc := by kernel_rfl
theorem QgB {a0 a1 : Value} {w : World} {R : Ending → World → Prop} (h : R_TypeFault_lc.wp Tryz.prog (retQ Tryz.prog [.tmp 4] R) (Qi [a0, a1]) w) : Calls Tryz.prog Q5a ⟨[a0, a1]⟩ w R :=
  Q7 Tryz.func90 Qex (by kernel_rfl) (by kernel_rfl) h

/- 91 -/
def Ql3 : List GO := [qk 4 (vi 0)]
def Ql2 : List GO := [qm 5 0, ⟨none, .bin 6 .mul 3 (.const (vi 10000)) (.tmp 5)⟩, qm 7 1, ⟨none, .bin 8 .mul 3 (.const (vi 100)) (.tmp 7)⟩, qt 9 .add 3 6 8, qj 10 .add 3 9 90, qm 4 10]
def R_AtBlock_lc : LC := (.seq (.ops Ql3) (.seq (.ops Ql2) .ret))
@[reducible] def Ql5 : FuncId := 91
theorem QjS : lowF Tryz.prog Tryz.f91 = some R_AtBlock_lc := by kernel_rfl
theorem Ql4 {a0 a1 : Value} {w : World} {R : Ending → World → Prop} (h : R_AtBlock_lc.wp Tryz.prog (retQ Tryz.prog [.tmp 4] R) (Qi [a0, a1]) w) : Calls Tryz.prog Ql5 ⟨[a0, a1]⟩ w R :=
  Q7 Tryz.func91 QjS (by kernel_rfl) (by kernel_rfl) h

/- 92 -/
def QkM : List GO := [qb 2 24 0, qb 3 54 1, qk 4 (vi 0)]
def QkL : List GO := [qf 8 3 0, ql 9 8, ⟨none, .call (some 10) 114 [(.tmp 9)]⟩, qm 7 10, qx 11 7 0, qx 12 7 1, ⟨none, .alloc 5 156 [(.bool false), (.bool false), (.bool false), (.bool false), (.bool false), (.bool false), (.bool false)]⟩, qw 7 5 11, qm 6 12]
def QkK : List GO := [qm 13 6, ⟨none, .un 14 .not (.tmp 13)⟩]
def QkJ : List GO := [qk 4 (vi 3)]
def QkI : List GO := [qf 15 5 0, ql 16 15, ⟨none, .un 17 .not (.tmp 16)⟩, qm 18 17, qg 18 true (qf 19 3 1), qg 18 true (ql 20 19), qg 18 true (qj 21 .neq 3 20 0), ⟨none, .pick 22 (.tmp 18) (.tmp 21) (.const (.bool false))⟩, qm 23 22, qg 23 false (qf 24 5 1), qg 23 false (ql 25 24), ⟨some (23, false), .un 26 .not (.tmp 25)⟩, qg 23 false (qm 27 26), qg 27 true (qf 28 3 2), qg 27 true (ql 29 28), qg 27 true (qj 30 .neq 3 29 0), ⟨some (23, false), .pick 31 (.tmp 27) (.tmp 30) (.const (.bool false))⟩, ⟨none, .pick 32 (.tmp 23) (.const (.bool true)) (.tmp 31)⟩, qm 33 32, qg 33 false (qf 34 5 2), qg 33 false (ql 35 34), ⟨some (33, false), .un 36 .not (.tmp 35)⟩, qg 33 false (qm 37 36), qg 37 true (qf 38 3 3), qg 37 true (ql 39 38), qg 37 true (qj 40 .neq 3 39 0), ⟨some (33, false), .pick 41 (.tmp 37) (.tmp 40) (.const (.bool false))⟩, ⟨none, .pick 42 (.tmp 33) (.const (.bool true)) (.tmp 41)⟩, qm 43 42, qg 43 false (qf 44 5 3), qg 43 false (ql 45 44), ⟨some (43, false), .un 46 .not (.tmp 45)⟩, qg 43 false (qm 47 46), qg 47 true (qf 48 3 4), qg 47 true (ql 49 48), qg 47 true (qj 50 .neq 3 49 0), ⟨some (43, false), .pick 51 (.tmp 47) (.tmp 50) (.const (.bool false))⟩, ⟨none, .pick 52 (.tmp 43) (.const (.bool true)) (.tmp 51)⟩, qm 53 52, qg 53 false (qf 54 5 4), qg 53 false (ql 55 54), ⟨some (53, false), .un 56 .not (.tmp 55)⟩, qg 53 false (qm 57 56), qg 57 true (qf 58 3 5), qg 57 true (ql 59 58), qg 57 true (qj 60 .neq 2 59 0), ⟨some (53, false), .pick 61 (.tmp 57) (.tmp 60) (.const (.bool false))⟩, ⟨none, .pick 62 (.tmp 53) (.const (.bool true)) (.tmp 61)⟩, qm 63 62, qg 63 false (qf 64 5 5), qg 63 false (ql 65 64), ⟨some (63, false), .un 66 .not (.tmp 65)⟩, qg 63 false (qm 67 66), qg 67 true (qf 68 3 6), qg 67 true (ql 69 68), qg 67 true (qL 70 69), qg 67 true (qj 71 .gtr 3 70 0), ⟨some (63, false), .pick 72 (.tmp 67) (.tmp 71) (.const (.bool false))⟩, ⟨none, .pick 73 (.tmp 63) (.const (.bool true)) (.tmp 72)⟩, qm 74 73, qg 74 false (qf 75 5 6), qg 74 false (ql 76 75), ⟨some (74, false), .un 77 .not (.tmp 76)⟩, qg 74 false (qm 78 77), qg 78 true (qf 79 3 7), qg 78 true (ql 80 79), qg 78 true (qL 81 80), qg 78 true (qj 82 .gtr 3 81 0), ⟨some (74, false), .pick 83 (.tmp 78) (.tmp 82) (.const (.bool false))⟩, ⟨none, .pick 84 (.tmp 74) (.const (.bool true)) (.tmp 83)⟩]
def QkH : List GO := [qk 4 (vi 4)]
def QkG : List GO := [qf 85 3 0, ql 86 85]
def QkF : List GO := [qj 88 .eql 3 86 2, qm 87 88]
def QkE : List GO := [qf 89 3 4, ql 90 89, qj 91 .lss 3 90 1, qm 92 91, qg 92 false (qf 93 3 4), qg 92 false (ql 94 93), qg 92 false (qj 95 .gtr 3 94 9), ⟨none, .pick 96 (.tmp 92) (.const (.bool true)) (.tmp 95)⟩]
def QkD : List GO := [qk 4 (vi 1)]
def QjE : List GO := [qj 98 .eql 3 86 5, qm 97 98]
def QjD : List GO := [qf 99 3 7, ql 100 99, qL 101 100, qj 102 .gtr 3 101 8]
def QjC : List GO := [qk 4 (vi 2)]
def QjB : List GO := [qj 104 .eql 3 86 6, qm 103 104]
def QjA : List GO := [qj 105 .eql 3 86 7, qm 103 105]
def Qjz : List GO := [qf 106 3 4, ql 107 106, qj 108 .lss 3 107 0, qm 109 108, qg 109 false (qf 110 3 4), qg 109 false (ql 111 110), qg 109 false (qj 112 .gtr 3 111 7), ⟨none, .pick 113 (.tmp 109) (.const (.bool true)) (.tmp 112)⟩]
def Qjy : List GO := [qk 4 (vi 1)]
def Qjx : List GO := [qj 115 .eql 3 86 14, qm 114 115]
def Qjw : List GO := [qf 116 3 4, ql 117 116, qj 118 .lss 3 117 0, qm 119 118, qg 119 false (qf 120 3 4), qg 119 false (ql 121 120), qg 119 false (qf 122 2 0), qg 119 false (ql 123 122), qg 119 false (qL 124 123), qg 119 false (qt 125 .geq 3 121 124), ⟨none, .pick 126 (.tmp 119) (.const (.bool true)) (.tmp 125)⟩]
def Qjv : List GO := [qk 4 (vi 1)]
def Qju : List GO := [qf 127 3 6, ql 128 127, qL 129 128, qj 130 .gtr 3 129 6, qm 131 130, qg 131 false (qf 132 3 7), qg 131 false (ql 133 132), qg 131 false (qL 134 133), qg 131 false (qj 135 .gtr 3 134 8), ⟨none, .pick 136 (.tmp 131) (.const (.bool true)) (.tmp 135)⟩]
def Qjt : List GO := [qk 4 (vi 2)]
def Qjs : List GO := [qk 4 (vi 0)]
def R_InsForm_lc : LC := (.seq (.ops QkM) (.seq (.ops QkL) (.seq (.seq (.ops QkK) (.cond (.tmp 14) (.seq (.ops QkJ) .ret) .skip)) (.seq (.seq (.ops QkI) (.cond (.tmp 84) (.seq (.ops QkH) .ret) .skip)) (.seq (.seq (.ops QkG) (.block 0 (.seq (.ops QkF) (.cond (.tmp 87) (.seq (.ops QkE) (.cond (.tmp 96) (.seq (.ops QkD) .ret) .skip)) (.seq (.ops QjE) (.cond (.tmp 97) (.seq (.ops QjD) (.cond (.tmp 102) (.seq (.ops QjC) .ret) .skip)) (.seq (.seq (.ops QjB) (.cond (.tmp 103) .skip (.ops QjA))) (.cond (.tmp 103) (.seq (.ops Qjz) (.cond (.tmp 113) (.seq (.ops Qjy) .ret) .skip)) (.seq (.ops Qjx) (.cond (.tmp 114) (.seq (.seq (.ops Qjw) (.cond (.tmp 126) (.seq (.ops Qjv) .ret) .skip)) (.seq (.ops Qju) (.cond (.tmp 136) (.seq (.ops Qjt) .ret) .skip))) .skip)))))))))) (.seq (.ops Qjs) .ret))))))
@[reducible] def QD : FuncId := 92
theorem QjF : lowF Tryz.prog Tryz.f92 = some R_InsForm_lc := by kernel_rfl
theorem QkN {a0 a1 : Value} {w : World} {R : Ending → World → Prop} (h : R_InsForm_lc.wp Tryz.prog (retQ Tryz.prog [.tmp 4] R) (Qi [a0, a1]) w) : Calls Tryz.prog QD ⟨[a0, a1]⟩ w R :=
  Q7 Tryz.func92 QjF (by kernel_rfl) (by kernel_rfl) h

/- 93 -/
def Qnf : List GO := [qk 6 (vi 0)]
def Qne : List GO := [qm 7 0, ⟨none, .bin 8 .mul 3 (.const (vi 10000)) (.tmp 7)⟩, qm 9 1, ⟨none, .bin 10 .mul 3 (.const (vi 100)) (.tmp 9)⟩, qt 11 .add 3 8 10, qm 12 2, qt 13 .add 3 11 12, qm 6 13]
def R_AtIns_lc : LC := (.seq (.ops Qnf) (.seq (.ops Qne) .ret))
@[reducible] def Qp5 : FuncId := 93
theorem Qm5 : lowF Tryz.prog Tryz.f93 = some R_AtIns_lc := by kernel_rfl
theorem Qng {a0 a1 a2 : Value} {w : World} {R : Ending → World → Prop} (h : R_AtIns_lc.wp Tryz.prog (retQ Tryz.prog [.tmp 6] R) (Qi [a0, a1, a2]) w) : Calls Tryz.prog Qp5 ⟨[a0, a1, a2]⟩ w R :=
  Q7 Tryz.func93 Qm5 (by kernel_rfl) (by kernel_rfl) h

/- 94 -/
def QkX : List GO := [qb 2 43 0, qb 3 50 1, qk 4 (vi 0)]
def QkW : List GO := [qf 6 3 0, ql 7 6, qj 8 .lss 3 7 1, qm 9 8, qg 9 false (qf 10 3 0), qg 9 false (ql 11 10), qg 9 false (qj 12 .gtr 3 11 3), ⟨none, .pick 13 (.tmp 9) (.const (.bool true)) (.tmp 12)⟩]
def QkV : List GO := [qk 4 (vi 3)]
def QkU : List GO := [qf 14 3 1, ql 15 14, qj 16 .neq 3 15 0, qm 17 16, qg 17 true (qf 18 3 0), qg 17 true (ql 19 18), qg 17 true (qj 20 .neq 3 19 2), ⟨none, .pick 21 (.tmp 17) (.tmp 20) (.const (.bool false))⟩, qm 22 21, qg 22 false (qf 23 3 8), qg 22 false (ql 24 23), qg 22 false (qL 25 24), qg 22 false (qj 26 .gtr 3 25 0), qg 22 false (qm 27 26), qg 27 true (qf 28 3 0), qg 27 true (ql 29 28), qg 27 true (qj 30 .neq 3 29 3), ⟨some (22, false), .pick 31 (.tmp 27) (.tmp 30) (.const (.bool false))⟩, ⟨none, .pick 32 (.tmp 22) (.const (.bool true)) (.tmp 31)⟩]
def QkT : List GO := [qk 4 (vi 4)]
def QkS : List GO := [qf 33 3 8, ql 34 33, qL 35 34, qj 36 .gtr 3 35 8]
def QkR : List GO := [qk 4 (vi 2)]
def QkQ : List GO := [qV 37 4 2, qf 38 3 2, qV 39 3 38, qf 40 3 0, ql 41 40, qj 42 .neq 3 41 3, ⟨none, .call (some 43) 133 [(.tmp 37), (.tmp 39), (.tmp 42)]⟩, qm 5 43]
def QkP : List GO := [qm 44 5, qj 45 .neq 3 44 0]
def QkO : List GO := [qm 46 5, qm 4 46]
def QjQ : List GO := [qV 47 4 2, qf 48 3 5, qV 49 3 48, qf 50 3 0, ql 51 50, qj 52 .eql 3 51 2, ⟨none, .call (some 53) 133 [(.tmp 47), (.tmp 49), (.tmp 52)]⟩, qm 4 53]
def R_EndForm_lc : LC := (.seq (.ops QkX) (.seq (.seq (.ops QkW) (.cond (.tmp 13) (.seq (.ops QkV) .ret) .skip)) (.seq (.seq (.ops QkU) (.cond (.tmp 32) (.seq (.ops QkT) .ret) .skip)) (.seq (.seq (.ops QkS) (.cond (.tmp 36) (.seq (.ops QkR) .ret) .skip)) (.seq (.seq (.ops QkQ) (.seq (.ops QkP) (.cond (.tmp 45) (.seq (.ops QkO) .ret) .skip))) (.seq (.ops QjQ) .ret))))))
@[reducible] def Q2D : FuncId := 94
theorem QjR : lowF Tryz.prog Tryz.f94 = some R_EndForm_lc := by kernel_rfl
theorem QkY {a0 a1 : Value} {w : World} {R : Ending → World → Prop} (h : R_EndForm_lc.wp Tryz.prog (retQ Tryz.prog [.tmp 4] R) (Qi [a0, a1]) w) : Calls Tryz.prog Q2D ⟨[a0, a1]⟩ w R :=
  Q7 Tryz.func94 QjR (by kernel_rfl) (by kernel_rfl) h

/- 95 -/
def Qni : List GO := [qk 4 (vi 0)]
def Qnh : List GO := [qm 5 0, ⟨none, .bin 6 .mul 3 (.const (vi 10000)) (.tmp 5)⟩, qm 7 1, ⟨none, .bin 8 .mul 3 (.const (vi 100)) (.tmp 7)⟩, qt 9 .add 3 6 8, qj 10 .add 3 9 91, qm 4 10]
def R_AtEnd_lc : LC := (.seq (.ops Qni) (.seq (.ops Qnh) .ret))
@[reducible] def Qp6 : FuncId := 95
theorem Qm9 : lowF Tryz.prog Tryz.f95 = some R_AtEnd_lc := by kernel_rfl
theorem Qnj {a0 a1 : Value} {w : World} {R : Ending → World → Prop} (h : R_AtEnd_lc.wp Tryz.prog (retQ Tryz.prog [.tmp 4] R) (Qi [a0, a1]) w) : Calls Tryz.prog Qp6 ⟨[a0, a1]⟩ w R :=
  Q7 Tryz.func95 Qm9 (by kernel_rfl) (by kernel_rfl) h

/- 96 -/
/- 97 -/
def Qfr : List GO := [qb 2 91 0, qk 4 (vi 0)]
def Qfq : List GO := [qV 5 3 2, ⟨none, .call (some 6) 134 [(.tmp 5), (.const (vi 4))]⟩, ⟨none, .un 7 .not (.tmp 6)⟩]
def Qfp : List GO := [qk 4 (vi 19)]
def Qfo : List GO := [qV 8 3 2, qm 9 1, ⟨none, .call (some 10) 135 [(.tmp 8), (.tmp 9)]⟩, qm 4 10]
def types_Check_lc : LC := (.seq (.ops Qfr) (.seq (.seq (.ops Qfq) (.cond (.tmp 7) (.seq (.ops Qfp) .ret) .skip)) (.seq (.ops Qfo) .ret)))
@[reducible] def Q4K : FuncId := 97
theorem Qdp : lowF Tryz.prog Tryz.f97 = some types_Check_lc := by kernel_rfl
theorem Qfs {a0 a1 : Value} {w : World} {R : Ending → World → Prop} (h : types_Check_lc.wp Tryz.prog (retQ Tryz.prog [.tmp 4] R) (Qi [a0, a1]) w) : Calls Tryz.prog Q4K ⟨[a0, a1]⟩ w R :=
  Q7 Tryz.func97 Qdp (by kernel_rfl) (by kernel_rfl) h

/- 98 -/
def Q2v : List GO := [qk 4 (vi 0)]
def Q2u : List GO := [qm 6 0, qL 7 6, qk 8 (vi 0)]
def Q2t : List GO := [qt 9 .lss 3 8 7]
def Q2s : List GO := [qm 10 8, qm 5 10]
def Q2r : List GO := [qm 11 1, qm 12 0, qm 13 5, qi 14 3 12 13, qV 15 3 14, ⟨none, .callv (some 16) (.tmp 11) [(.tmp 15)]⟩]
def Q2q : List GO := [qm 17 5, qm 4 17]
def Q2p : List GO := [qj 18 .add 3 8 1, qm 8 18]
def Q1r : LC := (.seq (.ops Q2t) (.seq (.cond (.tmp 9) .skip (.exit 0)) (.seq (.block 1 (.seq (.ops Q2s) (.seq (.ops Q2r) (.cond (.tmp 16) (.seq (.ops Q2q) .ret) .skip)))) (.ops Q2p))))
def Q2o : List GO := [qk 4 (vi (-1))]
def slices_IndexFunc_api_Type_api_Type_lc : LC := (.seq (.ops Q2v) (.seq (.seq (.ops Q2u) (.block 0 (.loop Q1r))) (.seq (.ops Q2o) .ret)))
@[reducible] def QI : FuncId := 98
theorem Q2j : lowF Tryz.prog Tryz.f98 = some slices_IndexFunc_api_Type_api_Type_lc := by kernel_rfl
theorem Q2w {a0 a1 : Value} {w : World} {R : Ending → World → Prop} (h : slices_IndexFunc_api_Type_api_Type_lc.wp Tryz.prog (retQ Tryz.prog [.tmp 4] R) (Qi [a0, a1]) w) : Calls Tryz.prog QI ⟨[a0, a1]⟩ w R :=
  Q7 Tryz.func98 Q2j (by kernel_rfl) (by kernel_rfl) h

/- 99 -/
def Qe7 : List GO := [qk 4 (vi 0)]
def Qe6 : List GO := [qm 5 0, qj 6 .mul 3 5 10000, qm 7 1, qj 8 .mul 3 7 100, qt 9 .add 3 6 8, qj 10 .add 3 9 90, qm 4 10]
def code_BlockAt_lc : LC := (.seq (.ops Qe7) (.seq (.ops Qe6) .ret))
@[reducible] def Qch : FuncId := 99
theorem QcA : lowF Tryz.prog Tryz.f99 = some code_BlockAt_lc := by kernel_rfl
theorem Qe8 {a0 a1 : Value} {w : World} {R : Ending → World → Prop} (h : code_BlockAt_lc.wp Tryz.prog (retQ Tryz.prog [.tmp 4] R) (Qi [a0, a1]) w) : Calls Tryz.prog Qch ⟨[a0, a1]⟩ w R :=
  Q7 Tryz.func99 QcA (by kernel_rfl) (by kernel_rfl) h

/- 100 -/
def Q1n : List GO := [qk 6 (.bool false)]
def Q1m : List GO := [qm 10 0, qL 11 10, qm 12 1, qL 13 12, qt 14 .neq 3 11 13]
def Q1l : List GO := [qk 6 (.bool false)]
def Q1k : List GO := [qm 15 0, qL 16 15, qk 17 (vi 0)]
def Q1j : List GO := [qt 18 .lss 3 17 16]
def Q1i : List GO := [qm 19 17, qi 20 3 15 17, qV 21 3 20, ⟨none, .alloc 8 91 [(vi 0), (vi 0), vn]⟩, qm 7 19, qw 3 8 21]
def Q1h : List GO := [qm 22 1, qm 23 7, qi 24 3 22 23, qV 25 3 24, ⟨none, .alloc 9 91 [(vi 0), (vi 0), vn]⟩, qw 3 9 25]
def Q1g : List GO := [qm 26 2, qV 27 3 8, qV 28 3 9, ⟨none, .callv (some 29) (.tmp 26) [(.tmp 27), (.tmp 28)]⟩, ⟨none, .un 30 .not (.tmp 29)⟩]
def Q1f : List GO := [qk 6 (.bool false)]
def Q1e : List GO := [qj 31 .add 3 17 1, qm 17 31]
def QH : LC := (.seq (.ops Q1j) (.seq (.cond (.tmp 18) .skip (.exit 0)) (.seq (.block 1 (.seq (.ops Q1i) (.seq (.ops Q1h) (.seq (.ops Q1g) (.cond (.tmp 30) (.seq (.ops Q1f) .ret) .skip))))) (.ops Q1e))))
def Q1c : List GO := [qk 6 (.bool true)]
def slices_EqualFunc_api_Type_api_Type_api_Type_api_Type_lc : LC := (.seq (.ops Q1n) (.seq (.seq (.ops Q1m) (.cond (.tmp 14) (.seq (.ops Q1l) .ret) .skip)) (.seq (.seq (.ops Q1k) (.block 0 (.loop QH))) (.seq (.ops Q1c) .ret))))
@[reducible] def Qf : FuncId := 100
theorem Q1d : lowF Tryz.prog Tryz.f100 = some slices_EqualFunc_api_Type_api_Type_api_Type_api_Type_lc := by kernel_rfl
theorem Q1o {a0 a1 a2 : Value} {w : World} {R : Ending → World → Prop} (h : slices_EqualFunc_api_Type_api_Type_api_Type_api_Type_lc.wp Tryz.prog (retQ Tryz.prog [.tmp 6] R) (Qi [a0, a1, a2]) w) : Calls Tryz.prog Qf ⟨[a0, a1, a2]⟩ w R :=
  Q7 Tryz.func100 Q1d (by kernel_rfl) (by kernel_rfl) h

/- 101 -/
def QhQ : List GO := [qb 2 91 0, qb 3 91 1, qk 4 (.bool false)]
def QhP : List GO := [qf 5 2 0, ql 6 5, qf 7 3 0, ql 8 7, qt 9 .eql 3 6 8, qm 10 9, qg 10 true (qf 11 2 1), qg 10 true (ql 12 11), qg 10 true (qf 13 3 1), qg 10 true (ql 14 13), qg 10 true (qt 15 .eql 3 12 14), ⟨none, .pick 16 (.tmp 10) (.tmp 15) (.const (.bool false))⟩, qm 17 16, qg 17 true (qf 18 2 2), qg 17 true (ql 19 18), qg 17 true (qf 20 3 2), qg 17 true (ql 21 20), ⟨some (17, true), .call (some 22) 100 [(.tmp 19), (.tmp 21), (.func 101)]⟩, ⟨none, .pick 23 (.tmp 17) (.tmp 22) (.const (.bool false))⟩, qm 4 23]
def types_Same_lc : LC := (.seq (.ops QhQ) (.seq (.ops QhP) .ret))
@[reducible] def Qhi : FuncId := 101
theorem Qfn : lowF Tryz.prog Tryz.f101 = some types_Same_lc := by kernel_rfl
theorem QhR {a0 a1 : Value} {w : World} {R : Ending → World → Prop} (h : types_Same_lc.wp Tryz.prog (retQ Tryz.prog [.tmp 4] R) (Qi [a0, a1]) w) : Calls Tryz.prog Qhi ⟨[a0, a1]⟩ w R :=
  Q7 Tryz.func101 Qfn (by kernel_rfl) (by kernel_rfl) h

/- 102 -/
def QiJ : List GO := [qk 6 (vi 0)]
def QiI : List GO := [qm 7 0, qj 8 .mul 3 7 10000, qm 9 1, qj 10 .mul 3 9 100, qt 11 .add 3 8 10, qm 12 2, qt 13 .add 3 11 12, qm 6 13]
def code_InsAt_lc : LC := (.seq (.ops QiJ) (.seq (.ops QiI) .ret))
@[reducible] def Qhv : FuncId := 102
theorem QfT : lowF Tryz.prog Tryz.f102 = some code_InsAt_lc := by kernel_rfl
theorem QiK {a0 a1 a2 : Value} {w : World} {R : Ending → World → Prop} (h : code_InsAt_lc.wp Tryz.prog (retQ Tryz.prog [.tmp 6] R) (Qi [a0, a1, a2]) w) : Calls Tryz.prog Qhv ⟨[a0, a1, a2]⟩ w R :=
  Q7 Tryz.func102 QfT (by kernel_rfl) (by kernel_rfl) h

/- 103 -/
def QbL : List GO := [qb 3 54 1]
def QbK : List GO := [qm 5 0, qf 6 3 0, ql 7 6, qj 8 .lss 3 7 1, qm 9 8, qg 9 false (qf 10 3 0), qg 9 false (ql 11 10), qg 9 false (qj 12 .gtr 3 11 14), ⟨none, .pick 13 (.tmp 9) (.const (.bool true)) (.tmp 12)⟩, ⟨none, .call (some 14) 50 [(.tmp 5), (.tmp 13), (.const (vi 3))]⟩]
def QbJ : List GO := [qf 15 3 0, ql 16 15, ⟨none, .call (some 17) 136 [(.tmp 16)]⟩, qm 4 17]
def QbI : List GO := [qm 18 0, qm 19 4, ⟨none, .call (some 20) 137 [(.tmp 19), (.const (.int .u8 97))]⟩, ⟨none, .un 21 .not (.tmp 20)⟩, qm 22 21, qg 22 true (qf 23 3 1), qg 22 true (ql 24 23), qg 22 true (qj 25 .neq 3 24 0), ⟨none, .pick 26 (.tmp 22) (.tmp 25) (.const (.bool false))⟩, qm 27 26, qg 27 false (qm 28 4), ⟨some (27, false), .call (some 29) 137 [(.tmp 28), (.const (.int .u8 98))]⟩, ⟨some (27, false), .un 30 .not (.tmp 29)⟩, qg 27 false (qm 31 30), qg 31 true (qf 32 3 2), qg 31 true (ql 33 32), qg 31 true (qj 34 .neq 3 33 0), ⟨some (27, false), .pick 35 (.tmp 31) (.tmp 34) (.const (.bool false))⟩, ⟨none, .pick 36 (.tmp 27) (.const (.bool true)) (.tmp 35)⟩, qm 37 36, qg 37 false (qm 38 4), ⟨some (37, false), .call (some 39) 137 [(.tmp 38), (.const (.int .u8 99))]⟩, ⟨some (37, false), .un 40 .not (.tmp 39)⟩, qg 37 false (qm 41 40), qg 41 true (qf 42 3 3), qg 41 true (ql 43 42), qg 41 true (qj 44 .neq 3 43 0), ⟨some (37, false), .pick 45 (.tmp 41) (.tmp 44) (.const (.bool false))⟩, ⟨none, .pick 46 (.tmp 37) (.const (.bool true)) (.tmp 45)⟩, qm 47 46, qg 47 false (qm 48 4), ⟨some (47, false), .call (some 49) 137 [(.tmp 48), (.const (.int .u8 107))]⟩, ⟨some (47, false), .un 50 .not (.tmp 49)⟩, qg 47 false (qm 51 50), qg 51 true (qf 52 3 4), qg 51 true (ql 53 52), qg 51 true (qj 54 .neq 3 53 0), ⟨some (47, false), .pick 55 (.tmp 51) (.tmp 54) (.const (.bool false))⟩, ⟨none, .pick 56 (.tmp 47) (.const (.bool true)) (.tmp 55)⟩, qm 57 56, qg 57 false (qm 58 4), ⟨some (57, false), .call (some 59) 137 [(.tmp 58), (.const (.int .u8 110))]⟩, ⟨some (57, false), .un 60 .not (.tmp 59)⟩, qg 57 false (qm 61 60), qg 61 true (qf 62 3 5), qg 61 true (ql 63 62), qg 61 true (qj 64 .neq 2 63 0), ⟨some (57, false), .pick 65 (.tmp 61) (.tmp 64) (.const (.bool false))⟩, ⟨none, .pick 66 (.tmp 57) (.const (.bool true)) (.tmp 65)⟩, qm 67 66, qg 67 false (qm 68 4), ⟨some (67, false), .call (some 69) 137 [(.tmp 68), (.const (.int .u8 103))]⟩, ⟨some (67, false), .un 70 .not (.tmp 69)⟩, qg 67 false (qm 71 70), qg 71 true (qf 72 3 6), qg 71 true (ql 73 72), qg 71 true (qL 74 73), qg 71 true (qj 75 .gtr 3 74 0), ⟨some (67, false), .pick 76 (.tmp 71) (.tmp 75) (.const (.bool false))⟩, ⟨none, .pick 77 (.tmp 67) (.const (.bool true)) (.tmp 76)⟩, qm 78 77, qg 78 false (qm 79 4), ⟨some (78, false), .call (some 80) 137 [(.tmp 79), (.const (.int .u8 114))]⟩, ⟨some (78, false), .un 81 .not (.tmp 80)⟩, qg 78 false (qm 82 81), qg 82 true (qf 83 3 7), qg 82 true (ql 84 83), qg 82 true (qL 85 84), qg 82 true (qj 86 .gtr 3 85 0), ⟨some (78, false), .pick 87 (.tmp 82) (.tmp 86) (.const (.bool false))⟩, ⟨none, .pick 88 (.tmp 78) (.const (.bool true)) (.tmp 87)⟩, ⟨none, .call (some 89) 50 [(.tmp 18), (.tmp 88), (.const (vi 4))]⟩]
def QbH : List GO := [qf 90 3 0, ql 91 90]
def QbG : List GO := [qj 93 .eql 3 91 2, qm 92 93]
def QbF : List GO := [qm 94 0, qf 95 3 4, ql 96 95, qj 97 .lss 3 96 1, qm 98 97, qg 98 false (qf 99 3 4), qg 98 false (ql 100 99), qg 98 false (qj 101 .gtr 3 100 9), ⟨none, .pick 102 (.tmp 98) (.const (.bool true)) (.tmp 101)⟩, ⟨none, .call (some 103) 50 [(.tmp 94), (.tmp 102), (.const (vi 1))]⟩]
def QbE : List GO := [qj 105 .eql 3 91 5, qm 104 105]
def QbD : List GO := [qm 106 0, qf 107 3 7, ql 108 107, qL 109 108, qj 110 .gtr 3 109 8, ⟨none, .call (some 111) 50 [(.tmp 106), (.tmp 110), (.const (vi 2))]⟩]
def QbC : List GO := [qj 113 .eql 3 91 6, qm 112 113]
def QaM : List GO := [qj 114 .eql 3 91 7, qm 112 114]
def QaL : List GO := [qm 115 0, qf 116 3 4, ql 117 116, qj 118 .lss 3 117 0, qm 119 118, qg 119 false (qf 120 3 4), qg 119 false (ql 121 120), qg 119 false (qj 122 .geq 3 121 8), ⟨none, .pick 123 (.tmp 119) (.const (.bool true)) (.tmp 122)⟩, ⟨none, .call (some 124) 50 [(.tmp 115), (.tmp 123), (.const (vi 1))]⟩]
def QaK : List GO := [qj 126 .eql 3 91 14, qm 125 126]
def QaJ : List GO := [qm 127 0, qf 128 3 4, ql 129 128, qj 130 .lss 3 129 0, qm 131 130, qg 131 false (qf 132 3 4), qg 131 false (ql 133 132), qg 131 false (qm 134 0), qg 131 false (qn 135 134), qg 131 false (qf 136 135 0), qg 131 false (qf 137 136 0), qg 131 false (ql 138 137), qg 131 false (qL 139 138), qg 131 false (qt 140 .geq 3 133 139), ⟨none, .pick 141 (.tmp 131) (.const (.bool true)) (.tmp 140)⟩, ⟨none, .call (some 142) 50 [(.tmp 127), (.tmp 141), (.const (vi 1))]⟩]
def QaO : List (List Nat) := [[],[],[1],[2],[3],[4],[5,4],[4],[7,4],[8,4],[9,4],[10,4],[11,4],[6,12,4],[4,13],[0,14,4]]
def QaI : List GO := [qm 143 0, qf 144 3 6, ql 145 144, qL 146 145, qj 147 .gtr 3 146 6, qm 148 147, qg 148 false (qf 149 3 7), qg 148 false (ql 150 149), qg 148 false (qL 151 150), qg 148 false (qj 152 .gtr 3 151 8), ⟨none, .pick 153 (.tmp 148) (.const (.bool true)) (.tmp 152)⟩, ⟨none, .call (some 154) 50 [(.tmp 143), (.tmp 153), (.const (vi 2))]⟩]
def code_judge_ins_lc : LC := (.seq (.ops QbL) (.seq (.ops QbK) (.seq (.ops QbJ) (.seq (.ops QbI) (.seq (.ops QbH) (.block 0 (.seq (.ops QbG) (.cond (.tmp 92) (.ops QbF) (.seq (.ops QbE) (.cond (.tmp 104) (.ops QbD) (.seq (.seq (.ops QbC) (.cond (.tmp 112) .skip (.ops QaM))) (.cond (.tmp 112) (.ops QaL) (.seq (.ops QaK) (.cond (.tmp 125) (.seq (.draw QaJ QaO) (.ops QaI)) .skip))))))))))))))
@[reducible] def QM : FuncId := 103
theorem QaN : lowF Tryz.prog Tryz.f103 = some code_judge_ins_lc := by kernel_rfl
theorem QbM {a0 a1 : Value} {w : World} {R : Ending → World → Prop} (h : code_judge_ins_lc.wp Tryz.prog (retQ Tryz.prog [] R) (Qi [a0, a1]) w) : Calls Tryz.prog QM ⟨[a0, a1]⟩ w R :=
  Q7 Tryz.func103 QaN (by kernel_rfl) (by kernel_rfl) h

/- 104 -/
def QiM : List GO := [qk 4 (vi 0)]
def QiL : List GO := [qm 5 0, qj 6 .mul 3 5 10000, qm 7 1, qj 8 .mul 3 7 100, qt 9 .add 3 6 8, qj 10 .add 3 9 91, qm 4 10]
def code_EndAt_lc : LC := (.seq (.ops QiM) (.seq (.ops QiL) .ret))
@[reducible] def Qhw : FuncId := 104
theorem QfX : lowF Tryz.prog Tryz.f104 = some code_EndAt_lc := by kernel_rfl
theorem QiN {a0 a1 : Value} {w : World} {R : Ending → World → Prop} (h : code_EndAt_lc.wp Tryz.prog (retQ Tryz.prog [.tmp 4] R) (Qi [a0, a1]) w) : Calls Tryz.prog Qhw ⟨[a0, a1]⟩ w R :=
  Q7 Tryz.func104 QfX (by kernel_rfl) (by kernel_rfl) h

/- 105 -/
def QbS : List GO := [qb 4 43 1, qb 5 50 2]
def QbR : List GO := [qm 6 0, qf 7 5 0, ql 8 7, qj 9 .lss 3 8 1, qm 10 9, qg 10 false (qf 11 5 0), qg 10 false (ql 12 11), qg 10 false (qj 13 .gtr 3 12 3), ⟨none, .pick 14 (.tmp 10) (.const (.bool true)) (.tmp 13)⟩, ⟨none, .call (some 15) 50 [(.tmp 6), (.tmp 14), (.const (vi 3))]⟩]
def QbQ : List GO := [qm 16 0, qf 17 5 0, ql 18 17, qj 19 .neq 3 18 2, qm 20 19, qg 20 true (qf 21 5 1), qg 20 true (ql 22 21), qg 20 true (qj 23 .neq 3 22 0), ⟨none, .pick 24 (.tmp 20) (.tmp 23) (.const (.bool false))⟩, qm 25 24, qg 25 false (qf 26 5 0), qg 25 false (ql 27 26), qg 25 false (qj 28 .neq 3 27 3), qg 25 false (qm 29 28), qg 29 true (qf 30 5 8), qg 29 true (ql 31 30), qg 29 true (qL 32 31), qg 29 true (qj 33 .gtr 3 32 0), ⟨some (25, false), .pick 34 (.tmp 29) (.tmp 33) (.const (.bool false))⟩, ⟨none, .pick 35 (.tmp 25) (.const (.bool true)) (.tmp 34)⟩, ⟨none, .call (some 36) 50 [(.tmp 16), (.tmp 35), (.const (vi 4))]⟩]
def QbP : List GO := [qm 37 0, qf 38 5 8, ql 39 38, qL 40 39, qj 41 .gtr 3 40 8, ⟨none, .call (some 42) 50 [(.tmp 37), (.tmp 41), (.const (vi 2))]⟩]
def QbO : List GO := [qm 43 0, qV 44 4 4, qf 45 5 2, qV 46 3 45, qf 47 5 0, ql 48 47, qj 49 .neq 3 48 3, ⟨none, .call (some 50) 138 [(.tmp 43), (.tmp 44), (.tmp 46), (.tmp 49)]⟩]
def QbN : List GO := [qm 51 0, qV 52 4 4, qf 53 5 5, qV 54 3 53, qf 55 5 0, ql 56 55, qj 57 .eql 3 56 2, ⟨none, .call (some 58) 138 [(.tmp 51), (.tmp 52), (.tmp 54), (.tmp 57)]⟩]
def code_judge_end_lc : LC := (.seq (.ops QbS) (.seq (.ops QbR) (.seq (.ops QbQ) (.seq (.ops QbP) (.seq (.ops QbO) (.ops QbN))))))
@[reducible] def Q97 : FuncId := 105
theorem QaR : lowF Tryz.prog Tryz.f105 = some code_judge_end_lc := by kernel_rfl
theorem QbT {a0 a1 a2 : Value} {w : World} {R : Ending → World → Prop} (h : code_judge_end_lc.wp Tryz.prog (retQ Tryz.prog [] R) (Qi [a0, a1, a2]) w) : Calls Tryz.prog Q97 ⟨[a0, a1, a2]⟩ w R :=
  Q7 Tryz.func105 QaR (by kernel_rfl) (by kernel_rfl) h

/- 106 -/
/- 107 -/
/- 108 -/
@[reducible] def strings_Join : FuncId := 108
/- 109 -/
def Q7v : List GO := [qk 4 (.string ⟨#[]⟩)]
def Q7u : List GO := [qm 5 0, qm 6 1, ⟨none, .call (some 7) 141 [(.tmp 5), (.tmp 6)]⟩, qm 4 7]
def strconv_FormatInt_lc : LC := (.seq (.ops Q7v) (.seq (.ops Q7u) .ret))
@[reducible] def Qba : FuncId := 109
theorem Q6k : lowF Tryz.prog Tryz.f109 = some strconv_FormatInt_lc := by kernel_rfl
theorem Q7w {a0 a1 : Value} {w : World} {R : Ending → World → Prop} (h : strconv_FormatInt_lc.wp Tryz.prog (retQ Tryz.prog [.tmp 4] R) (Qi [a0, a1]) w) : Calls Tryz.prog Qba ⟨[a0, a1]⟩ w R :=
  Q7 Tryz.func109 Q6k (by kernel_rfl) (by kernel_rfl) h

/- 110 -/
/- 111 -/
/- 112 -/
/- 113 -/
/- 114 -/
def QjP : List GO := [⟨none, .alloc 2 156 [(.bool false), (.bool false), (.bool false), (.bool false), (.bool false), (.bool false), (.bool false)]⟩, qk 3 (.bool false)]
def QjO : List GO := [qm 4 0]
def QjN : List GO := [qj 6 .eql 3 4 1, qm 5 6]
def QjM : List GO := [⟨none, .build 7 [(.bool false), (.bool false), (.bool false), (.bool false), (.bool false), (.bool false), (.bool false)] [(4, (1, (.const (.bool true))))]⟩, qw 7 2 7, qk 3 (.bool true)]
def QjL : List GO := [qj 9 .eql 3 4 2, qm 8 9]
def QjK : List GO := [qj 10 .eql 3 4 7, qm 8 10]
def QjJ : List GO := [⟨none, .build 11 [(.bool false), (.bool false), (.bool false), (.bool false), (.bool false), (.bool false), (.bool false)] [(0, (1, (.const (.bool true)))), (1, (1, (.const (.bool true)))), (3, (1, (.const (.bool true))))]⟩, qw 7 2 11, qk 3 (.bool true)]
def QjI : List GO := [qj 13 .eql 3 4 3, qm 12 13]
def QjH : List GO := [qj 14 .eql 3 4 12, qm 12 14]
def QjG : List GO := [⟨none, .build 15 [(.bool false), (.bool false), (.bool false), (.bool false), (.bool false), (.bool false), (.bool false)] []⟩, qw 7 2 15, qk 3 (.bool true)]
def Qh4 : List GO := [qj 17 .eql 3 4 4, qm 16 17]
def Qh3 : List GO := [qj 18 .eql 3 4 11, qm 16 18]
def Qh2 : List GO := [qj 19 .eql 3 4 13, qm 16 19]
def Qh1 : List GO := [⟨none, .build 20 [(.bool false), (.bool false), (.bool false), (.bool false), (.bool false), (.bool false), (.bool false)] [(0, (1, (.const (.bool true))))]⟩, qw 7 2 20, qk 3 (.bool true)]
def Qh0 : List GO := [qj 22 .eql 3 4 5, qm 21 22]
def QgZ : List GO := [⟨none, .build 23 [(.bool false), (.bool false), (.bool false), (.bool false), (.bool false), (.bool false), (.bool false)] [(0, (1, (.const (.bool true)))), (6, (1, (.const (.bool true))))]⟩, qw 7 2 23, qk 3 (.bool true)]
def QgY : List GO := [qj 25 .eql 3 4 6, qm 24 25]
def QgX : List GO := [⟨none, .build 26 [(.bool false), (.bool false), (.bool false), (.bool false), (.bool false), (.bool false), (.bool false)] [(0, (1, (.const (.bool true)))), (3, (1, (.const (.bool true))))]⟩, qw 7 2 26, qk 3 (.bool true)]
def QgW : List GO := [qj 28 .eql 3 4 8, qm 27 28]
def QgV : List GO := [qj 29 .eql 3 4 9, qm 27 29]
def QgU : List GO := [⟨none, .build 30 [(.bool false), (.bool false), (.bool false), (.bool false), (.bool false), (.bool false), (.bool false)] [(0, (1, (.const (.bool true)))), (1, (1, (.const (.bool true))))]⟩, qw 7 2 30, qk 3 (.bool true)]
def QgT : List GO := [qj 32 .eql 3 4 10, qm 31 32]
def QgS : List GO := [⟨none, .build 33 [(.bool false), (.bool false), (.bool false), (.bool false), (.bool false), (.bool false), (.bool false)] [(0, (1, (.const (.bool true)))), (1, (1, (.const (.bool true)))), (2, (1, (.const (.bool true))))]⟩, qw 7 2 33, qk 3 (.bool true)]
def QgR : List GO := [qj 35 .eql 3 4 14, qm 34 35]
def QgQ : List GO := [⟨none, .build 36 [(.bool false), (.bool false), (.bool false), (.bool false), (.bool false), (.bool false), (.bool false)] [(3, (1, (.const (.bool true)))), (5, (1, (.const (.bool true)))), (6, (1, (.const (.bool true))))]⟩, qw 7 2 36, qk 3 (.bool true)]
def QgP : List GO := [⟨none, .build 37 [(.bool false), (.bool false), (.bool false), (.bool false), (.bool false), (.bool false), (.bool false)] []⟩, qw 7 2 37, qk 3 (.bool false)]
def R_FieldsOf_lc : LC := (.seq (.ops QjP) (.seq (.seq (.ops QjO) (.block 0 (.seq (.ops QjN) (.cond (.tmp 5) (.seq (.ops QjM) .ret) (.seq (.seq (.ops QjL) (.cond (.tmp 8) .skip (.ops QjK))) (.cond (.tmp 8) (.seq (.ops QjJ) .ret) (.seq (.seq (.ops QjI) (.cond (.tmp 12) .skip (.ops QjH))) (.cond (.tmp 12) (.seq (.ops QjG) .ret) (.seq (.seq (.ops Qh4) (.cond (.tmp 16) .skip (.seq (.ops Qh3) (.cond (.tmp 16) .skip (.ops Qh2))))) (.cond (.tmp 16) (.seq (.ops Qh1) .ret) (.seq (.ops Qh0) (.cond (.tmp 21) (.seq (.ops QgZ) .ret) (.seq (.ops QgY) (.cond (.tmp 24) (.seq (.ops QgX) .ret) (.seq (.seq (.ops QgW) (.cond (.tmp 27) .skip (.ops QgV))) (.cond (.tmp 27) (.seq (.ops QgU) .ret) (.seq (.ops QgT) (.cond (.tmp 31) (.seq (.ops QgS) .ret) (.seq (.ops QgR) (.cond (.tmp 34) (.seq (.ops QgQ) .ret) .skip)))))))))))))))))))) (.seq (.ops QgP) .ret)))
@[reducible] def Qd : FuncId := 114
theorem Qh5 : lowF Tryz.prog Tryz.f114 = some R_FieldsOf_lc := by kernel_rfl
theorem QaX {a0 : Value} {w : World} {R : Ending → World → Prop} (h : R_FieldsOf_lc.wp Tryz.prog (retQ Tryz.prog [.cell 2 156, .tmp 3] R) (Qi [a0]) w) : Calls Tryz.prog Qd ⟨[a0]⟩ w R :=
  Q7 Tryz.func114 Qh5 (by kernel_rfl) (by kernel_rfl) h

/- 115 -/
/- 116 -/
def Qdr : List GO := [qk 2 (.bool false)]
def Qdq : List GO := [qm 3 0, ⟨none, .bin 4 .geq 5 (.tmp 3) (.const (.int .u8 97))⟩, qm 5 4, qg 5 true (qm 6 0), ⟨some (5, true), .bin 7 .leq 5 (.tmp 6) (.const (.int .u8 122))⟩, ⟨none, .pick 8 (.tmp 5) (.tmp 7) (.const (.bool false))⟩, qm 2 8]
def token_letter_lc : LC := (.seq (.ops Qdr) (.seq (.ops Qdq) .ret))
@[reducible] def Qcc : FuncId := 116
theorem Qck : lowF Tryz.prog Tryz.f116 = some token_letter_lc := by kernel_rfl
theorem Qds {a0 : Value} {w : World} {R : Ending → World → Prop} (h : token_letter_lc.wp Tryz.prog (retQ Tryz.prog [.tmp 2] R) (Qi [a0]) w) : Calls Tryz.prog Qcc ⟨[a0]⟩ w R :=
  Q7 Tryz.func116 Qck (by kernel_rfl) (by kernel_rfl) h

/- 117 -/
def Q5k : List GO := [qk 4 (.string ⟨#[]⟩)]
def Q5j : List GO := [qm 6 0, qn 7 6, qf 8 7 1, ql 9 8, qm 5 9]
def Q5i : List GO := [qm 10 0, qn 11 10, qf 12 11 1, ql 13 12, qm 14 0, qn 15 14, qf 16 15 0, ql 17 16, ⟨none, .slen 18 (.tmp 17)⟩, qt 19 .lss 3 13 18, qm 20 19, qg 20 true (qm 21 1), qg 20 true (qm 22 0), qg 20 true (qn 23 22), qg 20 true (qf 24 23 0), qg 20 true (ql 25 24), qg 20 true (qm 26 0), qg 20 true (qn 27 26), qg 20 true (qf 28 27 1), qg 20 true (ql 29 28), ⟨some (20, true), .sidx 30 (.tmp 25) (.tmp 29)⟩, ⟨some (20, true), .callv (some 31) (.tmp 21) [(.tmp 30)]⟩, ⟨none, .pick 32 (.tmp 20) (.tmp 31) (.const (.bool false))⟩]
def Q5n : List (List Nat) := [[],[0],[1],[2],[],[4],[5],[6],[7],[3,8],[9],[10],[10],[12,10],[13,10],[14,10],[10],[16,10],[17,10],[18,10],[15,19,10],[11,20,10,10],[10,21]]
def Q5h : List GO := [qm 33 0, qn 34 33, qf 35 34 1, ql 36 35, qj 37 .add 3 36 1, qn 38 33, qf 39 38 1, qs 39 37]
def Q35 : LC := (.seq (.seq (.draw Q5i Q5n) (.cond (.tmp 32) .skip (.exit 0))) (.block 1 (.ops Q5h)))
def Q5g : List GO := [qm 40 0, qn 41 40, qf 42 41 0, ql 43 42, qm 44 5, qm 45 0, qn 46 45, qf 47 46 1, ql 48 47, ⟨none, .ssub 49 (.tmp 43) (some (.tmp 44)) (some (.tmp 48))⟩, qm 4 49]
def Q5m : List (List Nat) := [[],[0],[1],[2],[],[],[5],[6],[7],[3,4,8],[9,0,1,2,3,4,5,6,7,8,9]]
def token_scanner_while_lc : LC := (.seq (.ops Q5k) (.seq (.ops Q5j) (.seq (.block 0 (.loop Q35)) (.seq (.draw Q5g Q5m) .ret))))
@[reducible] def Q1S : FuncId := 117
theorem Q4L : lowF Tryz.prog Tryz.f117 = some token_scanner_while_lc := by kernel_rfl
theorem Q5l {a0 a1 : Value} {w : World} {R : Ending → World → Prop} (h : token_scanner_while_lc.wp Tryz.prog (retQ Tryz.prog [.tmp 4] R) (Qi [a0, a1]) w) : Calls Tryz.prog Q1S ⟨[a0, a1]⟩ w R :=
  Q7 Tryz.func117 Q4L (by kernel_rfl) (by kernel_rfl) h

/- 118 -/
def Qfu : List GO := [qk 2 (.bool false)]
def Qft : List GO := [qm 3 0, ⟨none, .bin 4 .geq 5 (.tmp 3) (.const (.int .u8 48))⟩, qm 5 4, qg 5 true (qm 6 0), ⟨some (5, true), .bin 7 .leq 5 (.tmp 6) (.const (.int .u8 57))⟩, ⟨none, .pick 8 (.tmp 5) (.tmp 7) (.const (.bool false))⟩, qm 2 8]
def token_digit_lc : LC := (.seq (.ops Qfu) (.seq (.ops Qft) .ret))
@[reducible] def Qdu : FuncId := 118
theorem Qdt : lowF Tryz.prog Tryz.f118 = some token_digit_lc := by kernel_rfl
theorem Qfv {a0 : Value} {w : World} {R : Ending → World → Prop} (h : token_digit_lc.wp Tryz.prog (retQ Tryz.prog [.tmp 2] R) (Qi [a0]) w) : Calls Tryz.prog Qdu ⟨[a0]⟩ w R :=
  Q7 Tryz.func118 Qdt (by kernel_rfl) (by kernel_rfl) h

/- 119 -/
def Q4R : List GO := [⟨none, .alloc 6 126 [(vi 0), (.string ⟨#[]⟩), (.bool false), (vi 0)]⟩, qk 7 (vi 0)]
def Q4Q : List GO := [qm 11 2, qm 12 0, ⟨none, .call (some 13) 117 [(.tmp 12), (.func 118)]⟩, qt 14 .add 9 11 13, qm 8 14]
def Q4P : List GO := [qm 16 8, ⟨none, .call (some 17) 130 [(.tmp 16), (.const (vi 10)), (.const (vi 64))]⟩, qm 15 17, qx 18 15 0, qx 19 15 1, qm 9 18, qm 10 19]
def Q4O : List GO := [qm 20 10, ⟨none, .bin 21 .neq 109 (.tmp 20) (.const .nilIface)⟩, qm 22 21, qg 22 false (qm 23 9), ⟨some (22, false), .call (some 24) 109 [(.tmp 23), (.const (vi 10))]⟩, qg 22 false (qm 25 8), qg 22 false (qt 26 .neq 9 24 25), ⟨none, .pick 27 (.tmp 22) (.const (.bool true)) (.tmp 26)⟩]
def Q4N : List GO := [⟨none, .build 28 [(vi 0), (.string ⟨#[]⟩), (.bool false), (vi 0)] []⟩, qw 4 6 28, qk 7 (vi 8)]
def Q4M : List GO := [qm 29 1, qm 30 8, qm 31 9, ⟨none, .build 32 [(vi 0), (.string ⟨#[]⟩), (.bool false), (vi 0)] [(0, (1, (.tmp 29))), (1, (1, (.tmp 30))), (2, (1, (.const (.bool true)))), (3, (1, (.tmp 31)))]⟩, qw 4 6 32, qk 7 (vi 0)]
def token_scanner_number_lc : LC := (.seq (.ops Q4R) (.seq (.ops Q4Q) (.seq (.ops Q4P) (.seq (.seq (.ops Q4O) (.cond (.tmp 27) (.seq (.ops Q4N) .ret) .skip)) (.seq (.ops Q4M) .ret)))))
@[reducible] def Q1N : FuncId := 119
theorem Q4p : lowF Tryz.prog Tryz.f119 = some token_scanner_number_lc := by kernel_rfl
theorem Q4S {a0 a1 a2 : Value} {w : World} {R : Ending → World → Prop} (h : token_scanner_number_lc.wp Tryz.prog (retQ Tryz.prog [.cell 6 126, .tmp 7] R) (Qi [a0, a1, a2]) w) : Calls Tryz.prog Q1N ⟨[a0, a1, a2]⟩ w R :=
  Q7 Tryz.func119 Q4p (by kernel_rfl) (by kernel_rfl) h

/- 120 -/
def Q7s : List GO := [qk 4 (.bool false)]
def Q7r : List GO := [qm 5 0, qm 6 1, ⟨none, .call (some 7) 142 [(.tmp 5), (.tmp 6)]⟩, qm 4 7]
def strings_HasPrefix_lc : LC := (.seq (.ops Q7s) (.seq (.ops Q7r) .ret))
@[reducible] def Qb9 : FuncId := 120
theorem Q6j : lowF Tryz.prog Tryz.f120 = some strings_HasPrefix_lc := by kernel_rfl
theorem Q7t {a0 a1 : Value} {w : World} {R : Ending → World → Prop} (h : strings_HasPrefix_lc.wp Tryz.prog (retQ Tryz.prog [.tmp 4] R) (Qi [a0, a1]) w) : Calls Tryz.prog Qb9 ⟨[a0, a1]⟩ w R :=
  Q7 Tryz.func120 Q6j (by kernel_rfl) (by kernel_rfl) h

/- 121 -/
@[reducible] def strings_IndexByte : FuncId := 121
/- 122 -/
def Q8G : List GO := [qm 5 0, qn 6 5, qf 7 6 1, ql 8 7, qm 4 8]
def Q8F : List GO := [qm 9 0, qn 10 9, qf 11 10 0, ql 12 11, qL 13 12, qj 14 .gtr 3 13 0]
def Q8E : List GO := [qm 15 0, qn 16 15, qf 17 16 0, ql 18 17, ⟨none, .idx 19 4 (.tmp 18) (.const (vi 0))⟩, qf 20 19 0, ql 21 20, qm 4 21]
def Q8D : List GO := [qm 22 1, qj 23 .eql 3 22 4]
def Q8C : List GO := [qk 1 (vi 5)]
def Q8B : List GO := [qm 24 1, qm 25 4, ⟨none, .build 26 [(vi 0), (vi 0)] [(0, (1, (.tmp 24))), (1, (1, (.tmp 25)))]⟩, ⟨none, .mki 27 66 (.tmp 26)⟩, ⟨none, .raw ⟨none, (.panic (.tmp 27)), 0, "", #[], none⟩⟩]
def parse_parser_fail_lc : LC := (.seq (.ops Q8G) (.seq (.seq (.ops Q8F) (.cond (.tmp 14) (.ops Q8E) (.seq (.ops Q8D) (.cond (.tmp 23) (.ops Q8C) .skip)))) (.ops Q8B)))
@[reducible] def Q2k : FuncId := 122
theorem Q6F : lowF Tryz.prog Tryz.f122 = some parse_parser_fail_lc := by kernel_rfl
theorem Q3s {a0 a1 : Value} {w : World} {R : Ending → World → Prop} (h : parse_parser_fail_lc.wp Tryz.prog (retQ Tryz.prog [] R) (Qi [a0, a1]) w) : Calls Tryz.prog Q2k ⟨[a0, a1]⟩ w R :=
  Q7 Tryz.func122 Q6F (by kernel_rfl) (by kernel_rfl) h

/- 123 -/
def Q7U : List GO := [⟨none, .alloc 2 126 [(vi 0), (.string ⟨#[]⟩), (.bool false), (vi 0)]⟩]
def Q7T : List GO := [qm 4 0, qn 5 4, qf 6 5 0, ql 7 6, ⟨none, .idx 8 4 (.tmp 7) (.const (vi 0))⟩, qV 9 4 8, ⟨none, .alloc 3 126 [(vi 0), (.string ⟨#[]⟩), (.bool false), (vi 0)]⟩, qw 4 3 9]
def Q7S : List GO := [qm 10 0, qm 11 0, qn 12 11, qf 13 12 0, ql 14 13, ⟨none, .sub 15 4 (.tmp 14) (some (.const (vi 1))) none none⟩, qn 16 10, qf 17 16 0, qs 17 15]
def Q7R : List GO := [qV 18 4 3, qw 4 2 18]
def parse_parser_next_lc : LC := (.seq (.ops Q7U) (.seq (.ops Q7T) (.seq (.ops Q7S) (.seq (.ops Q7R) .ret))))
@[reducible] def Q1u : FuncId := 123
theorem Q6D : lowF Tryz.prog Tryz.f123 = some parse_parser_next_lc := by kernel_rfl
theorem Q7V {a0 : Value} {w : World} {R : Ending → World → Prop} (h : parse_parser_next_lc.wp Tryz.prog (retQ Tryz.prog [.cell 2 126] R) (Qi [a0]) w) : Calls Tryz.prog Q1u ⟨[a0]⟩ w R :=
  Q7 Tryz.func123 Q6D (by kernel_rfl) (by kernel_rfl) h

/- 124 -/
def Q7Z : List GO := [qk 2 (vi 0)]
def Q7Y : List GO := [qm 3 0, qn 4 3, qf 5 4 0, ql 6 5, qL 7 6, qj 8 .eql 3 7 0, qm 9 8, qg 9 false (qm 10 0), qg 9 false (qn 11 10), qg 9 false (qf 12 11 0), qg 9 false (ql 13 12), ⟨some (9, false), .idx 14 4 (.tmp 13) (.const (vi 0))⟩, qg 9 false (qf 15 14 2), qg 9 false (ql 16 15), ⟨some (9, false), .un 17 .not (.tmp 16)⟩, ⟨none, .pick 18 (.tmp 9) (.const (.bool true)) (.tmp 17)⟩]
def Q7X : List GO := [qm 19 0, ⟨none, .call (some 20) 122 [(.tmp 19), (.const (vi 4))]⟩]
def Q7W : List GO := [qm 21 0, ⟨none, .call (some 22) 123 [(.tmp 21)]⟩, ⟨none, .fldv 23 (.tmp 22) 3⟩, qm 2 23]
def parse_parser_long_lc : LC := (.seq (.ops Q7Z) (.seq (.seq (.ops Q7Y) (.cond (.tmp 18) (.ops Q7X) .skip)) (.seq (.ops Q7W) .ret)))
@[reducible] def Q4s : FuncId := 124
theorem Q6E : lowF Tryz.prog Tryz.f124 = some parse_parser_long_lc := by kernel_rfl
theorem Q2y {a0 : Value} {w : World} {R : Ending → World → Prop} (h : parse_parser_long_lc.wp Tryz.prog (retQ Tryz.prog [.tmp 2] R) (Qi [a0]) w) : Calls Tryz.prog Q4s ⟨[a0]⟩ w R :=
  Q7 Tryz.func124 Q6E (by kernel_rfl) (by kernel_rfl) h

/- 125 -/
def Q5Z : List GO := [qk 8 vn]
def Q5Y : List GO := [qm 10 0, qm 11 1, ⟨none, .buildS 12 9 1 [(.string ⟨#[]⟩)] [(0, (1, (.tmp 11)))]⟩, ⟨none, .call (some 13) 74 [(.tmp 10), (.tmp 12)]⟩]
def Q5X : List GO := [qk 9 vn]
def Q5W : List GO := [qm 14 0, qm 15 2, ⟨none, .call (some 16) 77 [(.tmp 14), (.tmp 15)]⟩, ⟨none, .un 17 .not (.tmp 16)⟩]
def Q5V : List GO := [qm 18 9, qL 19 18, qj 20 .gtr 3 19 0]
def Q5U : List GO := [qm 21 0, ⟨none, .buildS 22 9 1 [(.string ⟨#[]⟩)] [(0, (1, (.const (.string ⟨#[44]⟩))))]⟩, ⟨none, .call (some 23) 74 [(.tmp 21), (.tmp 22)]⟩]
def Q5T : List GO := [qm 24 9, qm 25 3, ⟨none, .callv (some 26) (.tmp 25) []⟩, ⟨none, .buildS 27 91 1 [(vi 0), (vi 0), vn] [(0, (3, (.tmp 26)))]⟩, ⟨none, .raw ⟨(some 28), (.call ⟨(.builtin .append), #[(.tmp 24), (.tmp 27)], #[40, 40]⟩), 40, "", #[], none⟩⟩, qm 9 28]
def Q5S : List GO := [qm 29 9, qL 30 29, qj 31 .gtr 3 30 100]
def Q5R : List GO := [qm 32 0, ⟨none, .call (some 33) 122 [(.tmp 32), (.const (vi 2))]⟩]
def Q37 : LC := (.seq (.seq (.ops Q5W) (.cond (.tmp 17) .skip (.exit 0))) (.block 1 (.seq (.seq (.ops Q5V) (.cond (.tmp 20) (.ops Q5U) .skip)) (.seq (.ops Q5T) (.seq (.ops Q5S) (.cond (.tmp 31) (.ops Q5R) .skip))))))
def Q5Q : List GO := [qm 34 0, qm 35 2, ⟨none, .buildS 36 9 1 [(.string ⟨#[]⟩)] [(0, (1, (.tmp 35)))]⟩, ⟨none, .call (some 37) 74 [(.tmp 34), (.tmp 36)]⟩]
def Q51 : List GO := [qm 38 9, qm 8 38]
def parse_list_api_Type_lc : LC := (.seq (.ops Q5Z) (.seq (.ops Q5Y) (.seq (.ops Q5X) (.seq (.block 0 (.loop Q37)) (.seq (.ops Q5Q) (.seq (.ops Q51) .ret))))))
@[reducible] def QE : FuncId := 125
theorem Q52 : lowF Tryz.prog Tryz.f125 = some parse_list_api_Type_lc := by kernel_rfl
theorem Q60 {a0 a1 a2 a3 : Value} {w : World} {R : Ending → World → Prop} (h : parse_list_api_Type_lc.wp Tryz.prog (retQ Tryz.prog [.tmp 8] R) (Qi [a0, a1, a2, a3]) w) : Calls Tryz.prog QE ⟨[a0, a1, a2, a3]⟩ w R :=
  Q7 Tryz.func125 Q52 (by kernel_rfl) (by kernel_rfl) h

/- 126 -/
def Q4Z : List GO := [⟨none, .alloc 1 91 [(vi 0), (vi 0), vn]⟩]
def Q4Y : List GO := [ql 2 0, ⟨none, .call (some 3) 127 [(.tmp 2), (.const (vi 0))]⟩, qw 3 1 3]
def parse_parser_types_1_lc : LC := (.seq (.ops Q4Z) (.seq (.ops Q4Y) .ret))
@[reducible] def Q2x : FuncId := 126
theorem Q4q : lowF Tryz.prog Tryz.f126 = some parse_parser_types_1_lc := by kernel_rfl
theorem Q50 {a0 : Value} {w : World} {R : Ending → World → Prop} (h : parse_parser_types_1_lc.wp Tryz.prog (retQ Tryz.prog [.cell 1 91] R) (Qi [a0]) w) : Calls Tryz.prog Q2x ⟨[a0]⟩ w R :=
  Q7 Tryz.func126 Q4q (by kernel_rfl) (by kernel_rfl) h

/- 127 -/
def Q9s : List GO := [qb 2 68 0, qb 3 3 1, ⟨none, .alloc 4 91 [(vi 0), (vi 0), vn]⟩]
def Q9r : List GO := [ql 6 3, qj 7 .gtr 3 6 4]
def Q9q : List GO := [ql 8 2, ⟨none, .call (some 9) 122 [(.tmp 8), (.const (vi 19))]⟩]
def Q9p : List GO := [ql 11 2, ⟨none, .call (some 12) 77 [(.tmp 11), (.const (.string ⟨#[105, 110, 116]⟩))]⟩, qm 10 12]
def Q9o : List GO := [ql 13 2, ⟨none, .call (some 14) 123 [(.tmp 13)]⟩]
def Q9n : List GO := [⟨none, .build 15 [(vi 0), (vi 0), vn] [(0, (1, (.const (vi 1))))]⟩, qw 3 4 15]
def Q9m : List GO := [ql 17 2, ⟨none, .call (some 18) 77 [(.tmp 17), (.const (.string ⟨#[104, 97, 110, 100, 108, 101]⟩))]⟩, qm 16 18]
def Q9l : List GO := [ql 19 2, ⟨none, .call (some 20) 123 [(.tmp 19)]⟩]
def Q9k : List GO := [ql 21 2, ⟨none, .call (some 22) 75 [(.tmp 21)]⟩, ⟨none, .build 23 [(vi 0), (vi 0), vn] [(0, (1, (.const (vi 2)))), (1, (1, (.tmp 22)))]⟩, qw 3 4 23]
def Q9j : List GO := [ql 25 2, ⟨none, .call (some 26) 77 [(.tmp 25), (.const (.string ⟨#[97, 114, 114, 97, 121]⟩))]⟩, qm 24 26]
def Q7L : List GO := [ql 27 2, ⟨none, .call (some 28) 123 [(.tmp 27)]⟩]
def Q7K : List GO := [ql 29 2, ⟨none, .call (some 30) 75 [(.tmp 29)]⟩, ⟨none, .build 31 [(vi 0), (vi 0), vn] [(0, (1, (.const (vi 4)))), (1, (1, (.tmp 30)))]⟩, qw 3 4 31]
def Q7J : List GO := [ql 32 2, ⟨none, .buildS 33 9 1 [(.string ⟨#[]⟩)] [(0, (1, (.const (.string ⟨#[116, 117, 112, 108, 101]⟩))))]⟩, ⟨none, .call (some 34) 74 [(.tmp 32), (.tmp 33)]⟩]
def Q7I : List GO := [ql 35 2, ⟨none, .call (some 36) 75 [(.tmp 35)]⟩, ⟨none, .build 37 [(vi 0), (vi 0), vn] [(0, (1, (.const (vi 3)))), (1, (1, (.tmp 36)))]⟩, ⟨none, .alloc 5 91 [(vi 0), (vi 0), vn]⟩, qw 3 5 37]
def Q7H : List GO := [ql 38 2, ⟨none, .mkfn 39 144 [(.tmp 2), (.tmp 3)]⟩, ⟨none, .call (some 40) 125 [(.tmp 38), (.const (.string ⟨#[40]⟩)), (.const (.string ⟨#[41]⟩)), (.tmp 39)]⟩, qf 41 5 2, qs 41 40]
def Q7G : List GO := [qV 42 3 5, qw 3 4 42]
def parse_parser_typ_lc : LC := (.seq (.ops Q9s) (.seq (.seq (.ops Q9r) (.cond (.tmp 7) (.ops Q9q) .skip)) (.seq (.block 0 (.seq (.ops Q9p) (.cond (.tmp 10) (.seq (.ops Q9o) (.seq (.ops Q9n) .ret)) (.seq (.ops Q9m) (.cond (.tmp 16) (.seq (.ops Q9l) (.seq (.ops Q9k) .ret)) (.seq (.ops Q9j) (.cond (.tmp 24) (.seq (.ops Q7L) (.seq (.ops Q7K) .ret)) .skip))))))) (.seq (.ops Q7J) (.seq (.ops Q7I) (.seq (.ops Q7H) (.seq (.ops Q7G) .ret)))))))
@[reducible] def QW : FuncId := 127
theorem Q7M : lowF Tryz.prog Tryz.f127 = some parse_parser_typ_lc := by kernel_rfl
theorem Q3K {a0 a1 : Value} {w : World} {R : Ending → World → Prop} (h : parse_parser_typ_lc.wp Tryz.prog (retQ Tryz.prog [.cell 4 91] R) (Qi [a0, a1]) w) : Calls Tryz.prog QW ⟨[a0, a1]⟩ w R :=
  Q7 Tryz.func127 Q7M (by kernel_rfl) (by kernel_rfl) h

/- 128 -/
def Q9I : List GO := [⟨none, .alloc 2 54 [(vi 0), (vi 0), (vi 0), (vi 0), (vi 0), (vi 0), vn, vn]⟩, qk 3 (.bool false)]
def Q9H : List GO := [qm 5 0, qn 6 5, qf 7 6 0, ql 8 7, qL 9 8, qj 10 .eql 3 9 0, qm 11 10, qg 11 false (qm 12 0), qg 11 false (qn 13 12), qg 11 false (qf 14 13 0), qg 11 false (ql 15 14), ⟨some (11, false), .idx 16 4 (.tmp 15) (.const (vi 0))⟩, qg 11 false (qf 17 16 2), qg 11 false (ql 18 17), ⟨none, .pick 19 (.tmp 11) (.const (.bool true)) (.tmp 18)⟩]
def Q9G : List GO := [⟨none, .build 20 [(vi 0), (vi 0), (vi 0), (vi 0), (vi 0), (vi 0), vn, vn] []⟩, qw 8 2 20, qk 3 (.bool false)]
def Q9F : List GO := [qm 21 0, qn 22 21, qf 23 22 0, ql 24 23, ⟨none, .idx 25 4 (.tmp 24) (.const (vi 0))⟩, qf 26 25 1, ql 27 26, ⟨none, .call (some 28) 145 [(.tmp 27), (.const (vi 14)), (.func 16)]⟩, ⟨none, .build 29 [(vi 0), (vi 0), (vi 0), (vi 0), (vi 0), (vi 0), vn, vn] [(0, (1, (.tmp 28)))]⟩, ⟨none, .alloc 4 54 [(vi 0), (vi 0), (vi 0), (vi 0), (vi 0), (vi 0), vn, vn]⟩, qw 8 4 29]
def Q9E : List GO := [qf 30 4 0, ql 31 30, qj 32 .eql 3 31 0]
def Q9D : List GO := [⟨none, .build 33 [(vi 0), (vi 0), (vi 0), (vi 0), (vi 0), (vi 0), vn, vn] []⟩, qw 8 2 33, qk 3 (.bool false)]
def Q9C : List GO := [qm 34 0, ⟨none, .call (some 35) 123 [(.tmp 34)]⟩]
def Q9B : List GO := [qf 36 4 0, ql 37 36]
def Q9A : List GO := [qj 39 .eql 3 37 1, qm 38 39]
def Q9z : List GO := [qm 40 0, ⟨none, .call (some 41) 124 [(.tmp 40)]⟩, qf 42 4 5, qs 42 41]
def Q8z : List GO := [qj 44 .eql 3 37 2, qm 43 44]
def Q8y : List GO := [qm 45 0, qn 46 45, qf 47 46 0, ql 48 47, qL 49 48, qj 50 .gtr 3 49 0, qm 51 50, qg 51 true (qm 52 0), qg 51 true (qn 53 52), qg 51 true (qf 54 53 0), qg 51 true (ql 55 54), ⟨some (51, true), .idx 56 4 (.tmp 55) (.const (vi 0))⟩, qg 51 true (qf 57 56 2), qg 51 true (ql 58 57), ⟨some (51, true), .un 59 .not (.tmp 58)⟩, ⟨none, .pick 60 (.tmp 51) (.tmp 59) (.const (.bool false))⟩]
def Q8x : List GO := [qm 61 0, qn 62 61, qf 63 62 0, ql 64 63, ⟨none, .idx 65 4 (.tmp 64) (.const (vi 0))⟩, qf 66 65 1, ql 67 66, ⟨none, .call (some 68) 145 [(.tmp 67), (.const (vi 9)), (.func 18)]⟩, qf 69 4 4, qs 69 68]
def Q8w : List GO := [qf 70 4 4, ql 71 70, qj 72 .eql 3 71 0]
def Q8v : List GO := [qm 73 0, ⟨none, .call (some 74) 122 [(.tmp 73), (.const (vi 4))]⟩]
def Q8u : List GO := [qm 75 0, ⟨none, .call (some 76) 123 [(.tmp 75)]⟩]
def Q8t : List GO := [qm 77 0, ⟨none, .call (some 78) 75 [(.tmp 77)]⟩, qf 79 4 1, qs 79 78]
def Q8s : List GO := [qm 80 0, ⟨none, .call (some 81) 75 [(.tmp 80)]⟩, qf 82 4 2, qs 82 81]
def Q8r : List GO := [qj 84 .eql 3 37 4, qm 83 84]
def Q8q : List GO := [qj 85 .eql 3 37 11, qm 83 85]
def Q8p : List GO := [qj 86 .eql 3 37 13, qm 83 86]
def Q8o : List GO := [qm 87 0, ⟨none, .call (some 88) 75 [(.tmp 87)]⟩, qf 89 4 1, qs 89 88]
def Q8n : List GO := [qj 91 .eql 3 37 5, qm 90 91]
def Q8m : List GO := [qm 92 0, ⟨none, .call (some 93) 75 [(.tmp 92)]⟩, qf 94 4 1, qs 94 93]
def Q8l : List GO := [qm 95 0, ⟨none, .call (some 96) 146 [(.tmp 95), (.const (.string ⟨#[40]⟩)), (.const (.string ⟨#[41]⟩))]⟩, qf 97 4 7, qs 97 96]
def Q8k : List GO := [qj 99 .eql 3 37 6, qm 98 99]
def Q8j : List GO := [qm 100 0, ⟨none, .call (some 101) 75 [(.tmp 100)]⟩, qf 102 4 1, qs 102 101]
def Q8i : List GO := [qm 103 0, ⟨none, .call (some 104) 75 [(.tmp 103)]⟩, qf 105 4 4, qs 105 104]
def Q8h : List GO := [qj 107 .eql 3 37 7, qm 106 107]
def Q8g : List GO := [qm 108 0, ⟨none, .call (some 109) 75 [(.tmp 108)]⟩, qf 110 4 1, qs 110 109]
def Q8f : List GO := [qm 111 0, ⟨none, .call (some 112) 75 [(.tmp 111)]⟩, qf 113 4 4, qs 113 112]
def Q8e : List GO := [qm 114 0, ⟨none, .call (some 115) 75 [(.tmp 114)]⟩, qf 116 4 2, qs 116 115]
def Q8d : List GO := [qj 118 .eql 3 37 8, qm 117 118]
def Q8c : List GO := [qj 119 .eql 3 37 9, qm 117 119]
def Q8b : List GO := [qm 120 0, ⟨none, .call (some 121) 75 [(.tmp 120)]⟩, qf 122 4 1, qs 122 121]
def Q8a : List GO := [qm 123 0, ⟨none, .call (some 124) 75 [(.tmp 123)]⟩, qf 125 4 2, qs 125 124]
def Q89 : List GO := [qj 127 .eql 3 37 10, qm 126 127]
def Q88 : List GO := [qm 128 0, ⟨none, .call (some 129) 75 [(.tmp 128)]⟩, qf 130 4 1, qs 130 129]
def Q87 : List GO := [qm 131 0, ⟨none, .call (some 132) 75 [(.tmp 131)]⟩, qf 133 4 2, qs 133 132]
def Q86 : List GO := [qm 134 0, ⟨none, .call (some 135) 75 [(.tmp 134)]⟩, qf 136 4 3, qs 136 135]
def Q85 : List GO := [qj 138 .eql 3 37 14, qm 137 138]
def Q84 : List GO := [qm 139 0, ⟨none, .call (some 140) 75 [(.tmp 139)]⟩, qf 141 4 4, qs 141 140]
def Q83 : List GO := [qm 142 0, ⟨none, .call (some 143) 146 [(.tmp 142), (.const (.string ⟨#[60]⟩)), (.const (.string ⟨#[62]⟩))]⟩, qf 144 4 6, qs 144 143]
def Q82 : List GO := [qm 145 0, ⟨none, .call (some 146) 146 [(.tmp 145), (.const (.string ⟨#[40]⟩)), (.const (.string ⟨#[41]⟩))]⟩, qf 147 4 7, qs 147 146]
def Q81 : List GO := [qm 148 0, ⟨none, .buildS 149 9 1 [(.string ⟨#[]⟩)] [(0, (1, (.const (.string ⟨#[59]⟩))))]⟩, ⟨none, .call (some 150) 74 [(.tmp 148), (.tmp 149)]⟩]
def Q80 : List GO := [qV 151 8 4, qw 8 2 151, qk 3 (.bool true)]
def parse_parser_ins_lc : LC := (.seq (.ops Q9I) (.seq (.seq (.ops Q9H) (.cond (.tmp 19) (.seq (.ops Q9G) .ret) .skip)) (.seq (.ops Q9F) (.seq (.seq (.ops Q9E) (.cond (.tmp 32) (.seq (.ops Q9D) .ret) .skip)) (.seq (.ops Q9C) (.seq (.seq (.ops Q9B) (.block 0 (.seq (.ops Q9A) (.cond (.tmp 38) (.ops Q9z) (.seq (.ops Q8z) (.cond (.tmp 43) (.seq (.seq (.ops Q8y) (.cond (.tmp 60) (.ops Q8x) .skip)) (.seq (.seq (.ops Q8w) (.cond (.tmp 72) (.ops Q8v) .skip)) (.seq (.ops Q8u) (.seq (.ops Q8t) (.ops Q8s))))) (.seq (.seq (.ops Q8r) (.cond (.tmp 83) .skip (.seq (.ops Q8q) (.cond (.tmp 83) .skip (.ops Q8p))))) (.cond (.tmp 83) (.ops Q8o) (.seq (.ops Q8n) (.cond (.tmp 90) (.seq (.ops Q8m) (.ops Q8l)) (.seq (.ops Q8k) (.cond (.tmp 98) (.seq (.ops Q8j) (.ops Q8i)) (.seq (.ops Q8h) (.cond (.tmp 106) (.seq (.ops Q8g) (.seq (.ops Q8f) (.ops Q8e))) (.seq (.seq (.ops Q8d) (.cond (.tmp 117) .skip (.ops Q8c))) (.cond (.tmp 117) (.seq (.ops Q8b) (.ops Q8a)) (.seq (.ops Q89) (.cond (.tmp 126) (.seq (.ops Q88) (.seq (.ops Q87) (.ops Q86))) (.seq (.ops Q85) (.cond (.tmp 137) (.seq (.ops Q84) (.seq (.ops Q83) (.ops Q82))) .skip)))))))))))))))))))) (.seq (.ops Q81) (.seq (.ops Q80) .ret))))))))
@[reducible] def Q8 : FuncId := 128
theorem Q8A : lowF Tryz.prog Tryz.f128 = some parse_parser_ins_lc := by kernel_rfl
theorem Q2I {a0 : Value} {w : World} {R : Ending → World → Prop} (h : parse_parser_ins_lc.wp Tryz.prog (retQ Tryz.prog [.cell 2 54, .tmp 3] R) (Qi [a0]) w) : Calls Tryz.prog Q8 ⟨[a0]⟩ w R :=
  Q7 Tryz.func128 Q8A (by kernel_rfl) (by kernel_rfl) h

/- 129 -/
def Q8Q : List GO := [⟨none, .alloc 2 50 [(vi 0), (vi 0), (vi 0), vn, vn, (vi 0), vn, vn, vn]⟩]
def Q8P : List GO := [⟨none, .alloc 3 50 [(vi 0), (vi 0), (vi 0), vn, vn, (vi 0), vn, vn, vn]⟩]
def Q8O : List GO := [qm 11 0, ⟨none, .call (some 12) 77 [(.tmp 11), (.const (.string ⟨#[106, 117, 109, 112]⟩))]⟩, qm 10 12]
def Q8N : List GO := [qm 13 0, ⟨none, .call (some 14) 123 [(.tmp 13)]⟩]
def Q8M : List GO := [qm 15 0, ⟨none, .call (some 16) 147 [(.tmp 15)]⟩, ⟨none, .build 17 [(vi 0), (vi 0), (vi 0), vn, vn, (vi 0), vn, vn, vn] [(0, (1, (.const (vi 1)))), (2, (3, (.tmp 16)))]⟩, qw 9 3 17]
def Q8L : List GO := [qm 19 0, ⟨none, .call (some 20) 77 [(.tmp 19), (.const (.string ⟨#[105, 102]⟩))]⟩, qm 18 20]
def Q8K : List GO := [qm 21 0, ⟨none, .call (some 22) 123 [(.tmp 21)]⟩]
def Q8J : List GO := [qm 23 0, ⟨none, .call (some 24) 75 [(.tmp 23)]⟩, ⟨none, .build 25 [(vi 0), (vi 0), (vi 0), vn, vn, (vi 0), vn, vn, vn] [(0, (1, (.const (vi 2)))), (1, (1, (.tmp 24)))]⟩, qw 9 3 25]
def Q8I : List GO := [qm 26 0, ⟨none, .buildS 27 9 1 [(.string ⟨#[]⟩)] [(0, (1, (.const (.string ⟨#[116, 111]⟩))))]⟩, ⟨none, .call (some 28) 74 [(.tmp 26), (.tmp 27)]⟩]
def Q8H : List GO := [qm 29 0, ⟨none, .call (some 30) 147 [(.tmp 29)]⟩, qf 31 3 2, qw 3 31 30]
def Q6L : List GO := [qm 32 0, ⟨none, .buildS 33 9 1 [(.string ⟨#[]⟩)] [(0, (1, (.const (.string ⟨#[101, 108, 115, 101]⟩))))]⟩, ⟨none, .call (some 34) 74 [(.tmp 32), (.tmp 33)]⟩]
def Q6K : List GO := [qm 35 0, ⟨none, .call (some 36) 147 [(.tmp 35)]⟩, qf 37 3 5, qw 3 37 36]
def Q6J : List GO := [qm 4 0, ⟨none, .buildS 5 9 1 [(.string ⟨#[]⟩)] [(0, (1, (.const (.string ⟨#[114, 101, 116]⟩))))]⟩, ⟨none, .call (some 6) 74 [(.tmp 4), (.tmp 5)]⟩]
def Q6I : List GO := [qm 7 0, ⟨none, .call (some 8) 146 [(.tmp 7), (.const (.string ⟨#[40]⟩)), (.const (.string ⟨#[41]⟩))]⟩, ⟨none, .build 9 [(vi 0), (vi 0), (vi 0), vn, vn, (vi 0), vn, vn, vn] [(0, (1, (.const (vi 3)))), (8, (1, (.tmp 8)))]⟩, qw 9 3 9]
def Q6H : List GO := [qm 38 0, ⟨none, .buildS 39 9 1 [(.string ⟨#[]⟩)] [(0, (1, (.const (.string ⟨#[59]⟩))))]⟩, ⟨none, .call (some 40) 74 [(.tmp 38), (.tmp 39)]⟩]
def Q6G : List GO := [qV 41 9 3, qw 9 2 41]
def parse_parser_ends_lc : LC := (.seq (.ops Q8Q) (.seq (.ops Q8P) (.seq (.block 0 (.seq (.ops Q8O) (.cond (.tmp 10) (.seq (.ops Q8N) (.ops Q8M)) (.seq (.ops Q8L) (.cond (.tmp 18) (.seq (.ops Q8K) (.seq (.ops Q8J) (.seq (.ops Q8I) (.seq (.ops Q8H) (.seq (.ops Q6L) (.ops Q6K)))))) (.seq (.ops Q6J) (.ops Q6I))))))) (.seq (.ops Q6H) (.seq (.ops Q6G) .ret)))))
@[reducible] def Q1v : FuncId := 129
theorem Q6M : lowF Tryz.prog Tryz.f129 = some parse_parser_ends_lc := by kernel_rfl
theorem Q8R {a0 : Value} {w : World} {R : Ending → World → Prop} (h : parse_parser_ends_lc.wp Tryz.prog (retQ Tryz.prog [.cell 2 50] R) (Qi [a0]) w) : Calls Tryz.prog Q1v ⟨[a0]⟩ w R :=
  Q7 Tryz.func129 Q6M (by kernel_rfl) (by kernel_rfl) h

/- 130 -/
/- 131 -/
def Qm3 : List GO := [qb 2 91 0, qk 4 (vi 0)]
def Qm2 : List GO := [qk 5 (vi 0)]
def Qm1 : List GO := [qk 6 (vi 0)]
def Qm0 : List GO := [qm 8 6, qf 9 2 2, ql 10 9, qL 11 10, qt 12 .lss 3 8 11, qm 13 12, qg 13 true (qm 14 5), qg 13 true (qm 15 1), qg 13 true (qt 16 .leq 3 14 15), ⟨none, .pick 17 (.tmp 13) (.tmp 16) (.const (.bool false))⟩]
def QlZ : List GO := [qm 20 1, qj 21 .eql 3 20 0]
def QlY : List GO := [qk 4 (vi 1)]
def QlX : List GO := [qf 22 2 2, ql 23 22, qm 24 6, qi 25 3 23 24, qV 26 3 25, qm 27 1, qj 28 .sub 3 27 1, ⟨none, .call (some 29) 131 [(.tmp 26), (.tmp 28)]⟩, ⟨none, .bin 30 .add 3 (.const (vi 1)) (.tmp 29)⟩, qm 7 30]
def QlW : List GO := [qm 31 7, qm 32 5, qt 33 .gtr 3 31 32]
def QlV : List GO := [qm 34 7, qm 5 34]
def QlU : List GO := [qm 18 6, qj 19 .add 3 18 1, qm 6 19]
def QeL : LC := (.seq (.seq (.ops Qm0) (.cond (.tmp 17) .skip (.exit 0))) (.seq (.block 1 (.seq (.seq (.ops QlZ) (.cond (.tmp 21) (.seq (.ops QlY) .ret) .skip)) (.seq (.ops QlX) (.seq (.ops QlW) (.cond (.tmp 33) (.ops QlV) .skip))))) (.ops QlU)))
def QkZ : List GO := [qm 35 5, qm 4 35]
def R_DeepOf_lc : LC := (.seq (.ops Qm3) (.seq (.ops Qm2) (.seq (.seq (.ops Qm1) (.block 0 (.loop QeL))) (.seq (.ops QkZ) .ret))))
@[reducible] def Q47 : FuncId := 131
theorem Ql0 : lowF Tryz.prog Tryz.f131 = some R_DeepOf_lc := by kernel_rfl
theorem Qm4 {a0 a1 : Value} {w : World} {R : Ending → World → Prop} (h : R_DeepOf_lc.wp Tryz.prog (retQ Tryz.prog [.tmp 4] R) (Qi [a0, a1]) w) : Calls Tryz.prog Q47 ⟨[a0, a1]⟩ w R :=
  Q7 Tryz.func131 Ql0 (by kernel_rfl) (by kernel_rfl) h

/- 132 -/
def Qgj : List GO := [qb 2 91 0, qk 4 (vi 0)]
def Qgi : List GO := [qf 7 2 0, ql 8 7, qj 9 .lss 3 8 1, qm 10 9, qg 10 false (qf 11 2 0), qg 10 false (ql 12 11), qg 10 false (qj 13 .gtr 3 12 4), ⟨none, .pick 14 (.tmp 10) (.const (.bool true)) (.tmp 13)⟩]
def Qgh : List GO := [qk 4 (vi 3)]
def Qgg : List GO := [qf 15 2 0, ql 16 15, qj 17 .eql 3 16 1, qm 18 17, qg 18 true (qf 19 2 1), qg 18 true (ql 20 19), qg 18 true (qj 21 .neq 3 20 0), ⟨none, .pick 22 (.tmp 18) (.tmp 21) (.const (.bool false))⟩, qm 23 22, qg 23 false (qf 24 2 0), qg 23 false (ql 25 24), qg 23 false (qj 26 .neq 3 25 3), qg 23 false (qm 27 26), qg 27 true (qf 28 2 2), qg 27 true (ql 29 28), qg 27 true (qL 30 29), qg 27 true (qj 31 .gtr 3 30 0), ⟨some (23, false), .pick 32 (.tmp 27) (.tmp 31) (.const (.bool false))⟩, ⟨none, .pick 33 (.tmp 23) (.const (.bool true)) (.tmp 32)⟩]
def Qgf : List GO := [qk 4 (vi 4)]
def Qge : List GO := [qf 34 2 2, ql 35 34, qL 36 35, qj 37 .gtr 3 36 8]
def Qgd : List GO := [qk 4 (vi 2)]
def Qgc : List GO := [qf 38 2 0, ql 39 38, qj 40 .neq 3 39 1, qm 41 40, qg 41 true (qf 42 2 1), qg 41 true (ql 43 42), qg 41 true (qj 44 .lss 3 43 0), qg 41 true (qm 45 44), qg 45 false (qf 46 2 1), qg 45 false (ql 47 46), qg 45 false (qm 48 1), qg 45 false (qt 49 .geq 3 47 48), ⟨some (41, true), .pick 50 (.tmp 45) (.const (.bool true)) (.tmp 49)⟩, ⟨none, .pick 51 (.tmp 41) (.tmp 50) (.const (.bool false))⟩]
def Qgb : List GO := [qk 4 (vi 1)]
def Qga : List GO := [qk 5 (vi 0)]
def Qei : List GO := [qm 52 5, qf 53 2 2, ql 54 53, qL 55 54, qt 56 .lss 3 52 55]
def Qeh : List GO := [qf 59 2 2, ql 60 59, qm 61 5, qi 62 3 60 61, qV 63 3 62, qm 64 1, ⟨none, .call (some 65) 132 [(.tmp 63), (.tmp 64)]⟩, qm 6 65]
def Qeg : List GO := [qm 66 6, qj 67 .neq 3 66 0]
def Qef : List GO := [qm 68 6, qm 4 68]
def Qee : List GO := [qm 57 5, qj 58 .add 3 57 1, qm 5 58]
def Q7c : LC := (.seq (.seq (.ops Qei) (.cond (.tmp 56) .skip (.exit 0))) (.seq (.block 1 (.seq (.ops Qeh) (.seq (.ops Qeg) (.cond (.tmp 67) (.seq (.ops Qef) .ret) .skip)))) (.ops Qee)))
def Qed : List GO := [qk 4 (vi 0)]
def R_typeFault_lc : LC := (.seq (.ops Qgj) (.seq (.seq (.ops Qgi) (.cond (.tmp 14) (.seq (.ops Qgh) .ret) .skip)) (.seq (.seq (.ops Qgg) (.cond (.tmp 33) (.seq (.ops Qgf) .ret) .skip)) (.seq (.seq (.ops Qge) (.cond (.tmp 37) (.seq (.ops Qgd) .ret) .skip)) (.seq (.seq (.ops Qgc) (.cond (.tmp 51) (.seq (.ops Qgb) .ret) .skip)) (.seq (.seq (.ops Qga) (.block 0 (.loop Q7c))) (.seq (.ops Qed) .ret)))))))
@[reducible] def Q1p : FuncId := 132
theorem Qej : lowF Tryz.prog Tryz.f132 = some R_typeFault_lc := by kernel_rfl
theorem Qgk {a0 a1 : Value} {w : World} {R : Ending → World → Prop} (h : R_typeFault_lc.wp Tryz.prog (retQ Tryz.prog [.tmp 4] R) (Qi [a0, a1]) w) : Calls Tryz.prog Q1p ⟨[a0, a1]⟩ w R :=
  Q7 Tryz.func132 Qej (by kernel_rfl) (by kernel_rfl) h

/- 133 -/
def QlQ : List GO := [qb 3 43 0, qb 4 48 1, qk 6 (vi 0)]
def QlP : List GO := [qm 7 2, ⟨none, .un 8 .not (.tmp 7)⟩]
def QlO : List GO := [qf 9 4 0, ql 10 9, qj 11 .neq 3 10 0, qm 12 11, qg 12 false (qf 13 4 1), qg 12 false (ql 14 13), qg 12 false (qL 15 14), qg 12 false (qf 16 4 2), qg 12 false (ql 17 16), qg 12 false (qL 18 17), qg 12 false (qt 19 .add 3 15 18), qg 12 false (qj 20 .gtr 3 19 0), ⟨none, .pick 21 (.tmp 12) (.const (.bool true)) (.tmp 20)⟩]
def QlN : List GO := [qk 6 (vi 4)]
def QlM : List GO := [qk 6 (vi 0)]
def QlL : List GO := [qf 22 4 0, ql 23 22, qj 24 .lss 3 23 0, qm 25 24, qg 25 false (qf 26 4 0), qg 25 false (ql 27 26), qg 25 false (qf 28 3 3), qg 25 false (ql 29 28), qg 25 false (qL 30 29), qg 25 false (qt 31 .geq 3 27 30), ⟨none, .pick 32 (.tmp 25) (.const (.bool true)) (.tmp 31)⟩]
def QlK : List GO := [qk 6 (vi 1)]
def QlJ : List GO := [qf 33 4 1, ql 34 33, qL 35 34, qj 36 .gtr 3 35 16, qm 37 36, qg 37 false (qf 38 4 2), qg 37 false (ql 39 38), qg 37 false (qL 40 39), qg 37 false (qj 41 .gtr 3 40 8), ⟨none, .pick 42 (.tmp 37) (.const (.bool true)) (.tmp 41)⟩]
def QlI : List GO := [qk 6 (vi 2)]
def QlH : List GO := [qk 6 (vi 0)]
def R_toForm_lc : LC := (.seq (.ops QlQ) (.seq (.seq (.ops QlP) (.cond (.tmp 8) (.seq (.seq (.ops QlO) (.cond (.tmp 21) (.seq (.ops QlN) .ret) .skip)) (.seq (.ops QlM) .ret)) .skip)) (.seq (.seq (.ops QlL) (.cond (.tmp 32) (.seq (.ops QlK) .ret) .skip)) (.seq (.seq (.ops QlJ) (.cond (.tmp 42) (.seq (.ops QlI) .ret) .skip)) (.seq (.ops QlH) .ret)))))
@[reducible] def Q46 : FuncId := 133
theorem Qkx : lowF Tryz.prog Tryz.f133 = some R_toForm_lc := by kernel_rfl
theorem Qek {a0 a1 a2 : Value} {w : World} {R : Ending → World → Prop} (h : R_toForm_lc.wp Tryz.prog (retQ Tryz.prog [.tmp 6] R) (Qi [a0, a1, a2]) w) : Calls Tryz.prog Q46 ⟨[a0, a1, a2]⟩ w R :=
  Q7 Tryz.func133 Qkx (by kernel_rfl) (by kernel_rfl) h

/- 134 -/
def QhN : List GO := [qb 2 91 0, qk 4 (.bool false)]
def QhM : List GO := [qm 7 1, qj 8 .lss 3 7 0]
def QhL : List GO := [qk 4 (.bool false)]
def QhK : List GO := [qf 9 2 2, ql 10 9, qL 11 10, qk 12 (vi 0)]
def QhJ : List GO := [qt 13 .lss 3 12 11]
def QhI : List GO := [qi 14 3 10 12, qV 15 3 14, ⟨none, .alloc 6 91 [(vi 0), (vi 0), vn]⟩, qw 3 6 15]
def QhH : List GO := [qV 16 3 6, qm 17 1, qj 18 .sub 3 17 1, ⟨none, .call (some 19) 134 [(.tmp 16), (.tmp 18)]⟩, ⟨none, .un 20 .not (.tmp 19)⟩]
def QhG : List GO := [qk 4 (.bool false)]
def QhF : List GO := [qj 21 .add 3 12 1, qm 12 21]
def Qa4 : LC := (.seq (.ops QhJ) (.seq (.cond (.tmp 13) .skip (.exit 0)) (.seq (.block 1 (.seq (.ops QhI) (.seq (.ops QhH) (.cond (.tmp 20) (.seq (.ops QhG) .ret) .skip)))) (.ops QhF))))
def QhE : List GO := [qk 4 (.bool true)]
def types_deep_lc : LC := (.seq (.ops QhN) (.seq (.seq (.ops QhM) (.cond (.tmp 8) (.seq (.ops QhL) .ret) .skip)) (.seq (.seq (.ops QhK) (.block 0 (.loop Qa4))) (.seq (.ops QhE) .ret))))
@[reducible] def Q3B : FuncId := 134
theorem Qfm : lowF Tryz.prog Tryz.f134 = some types_deep_lc := by kernel_rfl
theorem QhO {a0 a1 : Value} {w : World} {R : Ending → World → Prop} (h : types_deep_lc.wp Tryz.prog (retQ Tryz.prog [.tmp 4] R) (Qi [a0, a1]) w) : Calls Tryz.prog Q3B ⟨[a0, a1]⟩ w R :=
  Q7 Tryz.func134 Qfm (by kernel_rfl) (by kernel_rfl) h

/- 135 -/
def Qfk : List GO := [qb 2 91 0, qk 4 (vi 0)]
def Qfj : List GO := [qf 8 2 0, ql 9 8]
def Qfi : List GO := [qj 11 .eql 3 9 1, qm 10 11]
def Qfh : List GO := [qf 12 2 1, ql 13 12, qj 14 .neq 3 13 0, qm 15 14, qg 15 false (qf 16 2 2), qg 15 false (ql 17 16), qg 15 false (qL 18 17), qg 15 false (qj 19 .gtr 3 18 0), ⟨none, .pick 20 (.tmp 15) (.const (.bool true)) (.tmp 19)⟩]
def Qfg : List GO := [qk 4 (vi 4)]
def Qff : List GO := [qk 4 (vi 0)]
def Qfe : List GO := [qj 22 .eql 3 9 2, qm 21 22]
def Qfd : List GO := [qj 23 .eql 3 9 4, qm 21 23]
def Qfc : List GO := [qf 24 2 2, ql 25 24, qL 26 25, qj 27 .gtr 3 26 0]
def Qfb : List GO := [qk 4 (vi 4)]
def Qdn : List GO := [qj 29 .eql 3 9 3, qm 28 29]
def Qdm : List GO := [qf 30 2 2, ql 31 30, qL 32 31, qj 33 .gtr 3 32 8]
def Qdl : List GO := [qk 4 (vi 2)]
def Qdk : List GO := [qk 4 (vi 3)]
def Qdj : List GO := [qf 34 2 1, ql 35 34, qj 36 .lss 3 35 0, qm 37 36, qg 37 false (qf 38 2 1), qg 37 false (ql 39 38), qg 37 false (qm 40 1), qg 37 false (qt 41 .geq 3 39 40), ⟨none, .pick 42 (.tmp 37) (.const (.bool true)) (.tmp 41)⟩]
def Qdi : List GO := [qk 4 (vi 1)]
def Qdh : List GO := [qf 43 2 2, ql 44 43, qL 45 44, qk 46 (vi 0)]
def Qdg : List GO := [qt 47 .lss 3 46 45]
def Qdf : List GO := [qi 48 3 44 46, qV 49 3 48, ⟨none, .alloc 6 91 [(vi 0), (vi 0), vn]⟩, qw 3 6 49]
def Qde : List GO := [qV 50 3 6, qm 51 1, ⟨none, .call (some 52) 135 [(.tmp 50), (.tmp 51)]⟩, qm 7 52]
def Qdd : List GO := [qm 53 7, qj 54 .neq 3 53 0]
def Qdc : List GO := [qm 55 7, qm 4 55]
def Qdb : List GO := [qj 56 .add 3 46 1, qm 46 56]
def Q65 : LC := (.seq (.ops Qdg) (.seq (.cond (.tmp 47) .skip (.exit 1)) (.seq (.block 2 (.seq (.ops Qdf) (.seq (.ops Qde) (.seq (.ops Qdd) (.cond (.tmp 54) (.seq (.ops Qdc) .ret) .skip))))) (.ops Qdb))))
def Qda : List GO := [qk 4 (vi 0)]
def types_wrong_lc : LC := (.seq (.ops Qfk) (.seq (.seq (.ops Qfj) (.block 0 (.seq (.ops Qfi) (.cond (.tmp 10) (.seq (.seq (.ops Qfh) (.cond (.tmp 20) (.seq (.ops Qfg) .ret) .skip)) (.seq (.ops Qff) .ret)) (.seq (.seq (.ops Qfe) (.cond (.tmp 21) .skip (.ops Qfd))) (.cond (.tmp 21) (.seq (.ops Qfc) (.cond (.tmp 27) (.seq (.ops Qfb) .ret) .skip)) (.seq (.ops Qdn) (.cond (.tmp 28) (.seq (.ops Qdm) (.cond (.tmp 33) (.seq (.ops Qdl) .ret) .skip)) (.seq (.ops Qdk) .ret))))))))) (.seq (.seq (.ops Qdj) (.cond (.tmp 42) (.seq (.ops Qdi) .ret) .skip)) (.seq (.seq (.ops Qdh) (.block 1 (.loop Q65))) (.seq (.ops Qda) .ret)))))
@[reducible] def QC : FuncId := 135
theorem Qdo : lowF Tryz.prog Tryz.f135 = some types_wrong_lc := by kernel_rfl
theorem Qfl {a0 a1 : Value} {w : World} {R : Ending → World → Prop} (h : types_wrong_lc.wp Tryz.prog (retQ Tryz.prog [.tmp 4] R) (Qi [a0, a1]) w) : Calls Tryz.prog QC ⟨[a0, a1]⟩ w R :=
  Q7 Tryz.func135 Qdo (by kernel_rfl) (by kernel_rfl) h

/- 136 -/
def QlE : List GO := [qk 2 (.string ⟨#[]⟩)]
def QlD : List GO := [qm 3 0, qj 4 .lss 3 3 1, qm 5 4, qg 5 false (qm 6 0), qg 5 false (qj 7 .gtr 3 6 14), ⟨none, .pick 8 (.tmp 5) (.const (.bool true)) (.tmp 7)⟩]
def QlC : List GO := [qk 2 (.string ⟨#[]⟩)]
def QlB : List GO := [⟨none, .build 9 [(.string ⟨#[]⟩), (.string ⟨#[]⟩), (.string ⟨#[]⟩), (.string ⟨#[]⟩), (.string ⟨#[]⟩), (.string ⟨#[]⟩), (.string ⟨#[]⟩), (.string ⟨#[]⟩), (.string ⟨#[]⟩), (.string ⟨#[]⟩), (.string ⟨#[]⟩), (.string ⟨#[]⟩), (.string ⟨#[]⟩), (.string ⟨#[]⟩), (.string ⟨#[]⟩)] [(0, (1, (.const (.string ⟨#[]⟩)))), (1, (1, (.const (.string ⟨#[110]⟩)))), (2, (1, (.const (.string ⟨#[97, 98, 107]⟩)))), (3, (1, (.const (.string ⟨#[]⟩)))), (4, (1, (.const (.string ⟨#[97]⟩)))), (5, (1, (.const (.string ⟨#[97, 114]⟩)))), (6, (1, (.const (.string ⟨#[97, 107]⟩)))), (7, (1, (.const (.string ⟨#[97, 98, 107]⟩)))), (8, (1, (.const (.string ⟨#[97, 98]⟩)))), (9, (1, (.const (.string ⟨#[97, 98]⟩)))), (10, (1, (.const (.string ⟨#[97, 98, 99]⟩)))), (11, (1, (.const (.string ⟨#[97]⟩)))), (12, (1, (.const (.string ⟨#[]⟩)))), (13, (1, (.const (.string ⟨#[97]⟩)))), (14, (1, (.const (.string ⟨#[107, 103, 114]⟩))))]⟩, qm 10 0, ⟨none, .raw ⟨(some 11), (.index 85 (.tmp 9) (.tmp 10)), 9, "", #[], none⟩⟩, qm 2 11]
def code_has_lc : LC := (.seq (.ops QlE) (.seq (.seq (.ops QlD) (.cond (.tmp 8) (.seq (.ops QlC) .ret) .skip)) (.seq (.ops QlB) .ret)))
@[reducible] def QmF : FuncId := 136
theorem Qku : lowF Tryz.prog Tryz.f136 = some code_has_lc := by kernel_rfl
theorem Qe0 {a0 : Value} {w : World} {R : Ending → World → Prop} (h : code_has_lc.wp Tryz.prog (retQ Tryz.prog [.tmp 2] R) (Qi [a0]) w) : Calls Tryz.prog QmF ⟨[a0]⟩ w R :=
  Q7 Tryz.func136 Qku (by kernel_rfl) (by kernel_rfl) h

/- 137 -/
def Qkr : List GO := [qk 4 (.bool false)]
def Qkq : List GO := [qm 5 0, ⟨none, .raw ⟨(some 6), (.convert 9 105 (.tmp 5)), 105, "", #[], none⟩⟩, qm 7 1, ⟨none, .call (some 8) 150 [(.tmp 6), (.tmp 7)]⟩, qm 4 8]
def code_with_lc : LC := (.seq (.ops Qkr) (.seq (.ops Qkq) .ret))
@[reducible] def Qkt : FuncId := 137
theorem QiH : lowF Tryz.prog Tryz.f137 = some code_with_lc := by kernel_rfl
theorem Qks {a0 a1 : Value} {w : World} {R : Ending → World → Prop} (h : code_with_lc.wp Tryz.prog (retQ Tryz.prog [.tmp 4] R) (Qi [a0, a1]) w) : Calls Tryz.prog Qkt ⟨[a0, a1]⟩ w R :=
  Q7 Tryz.func137 QiH (by kernel_rfl) (by kernel_rfl) h

/- 138 -/
def Qcy : List GO := [qb 5 43 1, qb 6 48 2]
def Qcx : List GO := [qm 8 3, ⟨none, .un 9 .not (.tmp 8)⟩]
def Qcw : List GO := [qm 10 0, qf 11 6 0, ql 12 11, qj 13 .neq 3 12 0, qm 14 13, qg 14 false (qf 15 6 1), qg 14 false (ql 16 15), qg 14 false (qL 17 16), qg 14 false (qj 18 .gtr 3 17 0), ⟨none, .pick 19 (.tmp 14) (.const (.bool true)) (.tmp 18)⟩, qm 20 19, qg 20 false (qf 21 6 2), qg 20 false (ql 22 21), qg 20 false (qL 23 22), qg 20 false (qj 24 .gtr 3 23 0), ⟨none, .pick 25 (.tmp 20) (.const (.bool true)) (.tmp 24)⟩, ⟨none, .call (some 26) 50 [(.tmp 10), (.tmp 25), (.const (vi 4))]⟩]
def Qcv : List GO := [qm 27 0, qf 28 6 0, ql 29 28, qj 30 .lss 3 29 0, qm 31 30, qg 31 false (qf 32 6 0), qg 31 false (ql 33 32), qg 31 false (qf 34 5 3), qg 31 false (ql 35 34), qg 31 false (qL 36 35), qg 31 false (qt 37 .geq 3 33 36), ⟨none, .pick 38 (.tmp 31) (.const (.bool true)) (.tmp 37)⟩, ⟨none, .call (some 39) 50 [(.tmp 27), (.tmp 38), (.const (vi 1))]⟩]
def Qcu : List GO := [qm 40 0, qf 41 6 1, ql 42 41, qL 43 42, qj 44 .gtr 3 43 16, qm 45 44, qg 45 false (qf 46 6 2), qg 45 false (ql 47 46), qg 45 false (qL 48 47), qg 45 false (qj 49 .gtr 3 48 8), ⟨none, .pick 50 (.tmp 45) (.const (.bool true)) (.tmp 49)⟩, ⟨none, .call (some 51) 50 [(.tmp 40), (.tmp 50), (.const (vi 2))]⟩]
def code_judge_to_lc : LC := (.seq (.ops Qcy) (.seq (.seq (.ops Qcx) (.cond (.tmp 9) (.seq (.ops Qcw) .ret) .skip)) (.seq (.ops Qcv) (.ops Qcu))))
@[reducible] def Qaz : FuncId := 138
theorem QbB : lowF Tryz.prog Tryz.f138 = some code_judge_to_lc := by kernel_rfl
theorem Q5d {a0 a1 a2 a3 : Value} {w : World} {R : Ending → World → Prop} (h : code_judge_to_lc.wp Tryz.prog (retQ Tryz.prog [] R) (Qi [a0, a1, a2, a3]) w) : Calls Tryz.prog Qaz ⟨[a0, a1, a2, a3]⟩ w R :=
  Q7 Tryz.func138 QbB (by kernel_rfl) (by kernel_rfl) h

/- 142 -/
def Q2Z : List GO := [qk 4 (.bool false)]
def Q2Y : List GO := [qm 5 0, ⟨none, .slen 6 (.tmp 5)⟩, qm 7 1, ⟨none, .slen 8 (.tmp 7)⟩, qt 9 .geq 3 6 8, qm 10 9, qg 10 true (qm 11 0), qg 10 true (qm 12 1), ⟨some (10, true), .slen 13 (.tmp 12)⟩, ⟨some (10, true), .ssub 14 (.tmp 11) none (some (.tmp 13))⟩, qg 10 true (qm 15 1), qg 10 true (qt 16 .eql 9 14 15), ⟨none, .pick 17 (.tmp 10) (.tmp 16) (.const (.bool false))⟩, qm 4 17]
def internal_stringslite_HasPrefix_lc : LC := (.seq (.ops Q2Z) (.seq (.ops Q2Y) .ret))
@[reducible] def Q3l : FuncId := 142
theorem Q2R : lowF Tryz.prog Tryz.f142 = some internal_stringslite_HasPrefix_lc := by kernel_rfl
theorem Q30 {a0 a1 : Value} {w : World} {R : Ending → World → Prop} (h : internal_stringslite_HasPrefix_lc.wp Tryz.prog (retQ Tryz.prog [.tmp 4] R) (Qi [a0, a1]) w) : Calls Tryz.prog Q3l ⟨[a0, a1]⟩ w R :=
  Q7 Tryz.func142 Q2R (by kernel_rfl) (by kernel_rfl) h

/- 144 -/
def Q6z : List GO := [⟨none, .alloc 2 91 [(vi 0), (vi 0), vn]⟩]
def Q6y : List GO := [ql 3 0, ql 4 1, qj 5 .add 3 4 1, ⟨none, .call (some 6) 127 [(.tmp 3), (.tmp 5)]⟩, qw 3 2 6]
def parse_parser_typ_1_lc : LC := (.seq (.ops Q6z) (.seq (.ops Q6y) .ret))
@[reducible] def Q2T : FuncId := 144
theorem Q5K : lowF Tryz.prog Tryz.f144 = some parse_parser_typ_1_lc := by kernel_rfl
theorem Q6A {a0 a1 : Value} {w : World} {R : Ending → World → Prop} (h : parse_parser_typ_1_lc.wp Tryz.prog (retQ Tryz.prog [.cell 2 91] R) (Qi [a0, a1]) w) : Calls Tryz.prog Q2T ⟨[a0, a1]⟩ w R :=
  Q7 Tryz.func144 Q5K (by kernel_rfl) (by kernel_rfl) h

/- 145 -/
def Qii : List GO := [qk 6 (vi 0)]
def Qih : List GO := [qk 7 (vi 1)]
def Qig : List GO := [qm 8 7, qm 9 1, qt 10 .leq 3 8 9]
def Qif : List GO := [qm 13 2, qm 14 7, ⟨none, .callv (some 15) (.tmp 13) [(.tmp 14)]⟩, qm 16 0, qt 17 .eql 9 15 16]
def Qie : List GO := [qm 18 7, qm 6 18]
def Qid : List GO := [qm 11 7, qj 12 .add 3 11 1, qm 7 12]
def Qan : LC := (.seq (.seq (.ops Qig) (.cond (.tmp 10) .skip (.exit 0))) (.seq (.block 1 (.seq (.ops Qif) (.cond (.tmp 17) (.seq (.ops Qie) .ret) .skip))) (.ops Qid)))
def Qic : List GO := [qk 6 (vi 0)]
def parse_find_lc : LC := (.seq (.ops Qii) (.seq (.seq (.ops Qih) (.block 0 (.loop Qan))) (.seq (.ops Qic) .ret)))
@[reducible] def Q7l : FuncId := 145
theorem QfD : lowF Tryz.prog Tryz.f145 = some parse_find_lc := by kernel_rfl
theorem Qij {a0 a1 a2 : Value} {w : World} {R : Ending → World → Prop} (h : parse_find_lc.wp Tryz.prog (retQ Tryz.prog [.tmp 6] R) (Qi [a0, a1, a2]) w) : Calls Tryz.prog Q7l ⟨[a0, a1, a2]⟩ w R :=
  Q7 Tryz.func145 QfD (by kernel_rfl) (by kernel_rfl) h

/- 146 -/
def Q7O : List GO := [qk 6 vn]
def Q7N : List GO := [qm 7 0, qm 8 1, qm 9 2, qm 10 0, ⟨none, .raw ⟨(some 11), (.makeFunc (.func 75) #[(.tmp 10)] #[]), 79, "", #[], none⟩⟩, ⟨none, .call (some 12) 157 [(.tmp 7), (.tmp 8), (.tmp 9), (.tmp 11)]⟩, qm 6 12]
def parse_parser_nums_lc : LC := (.seq (.ops Q7O) (.seq (.ops Q7N) .ret))
@[reducible] def Q4r : FuncId := 146
theorem Q6C : lowF Tryz.prog Tryz.f146 = some parse_parser_nums_lc := by kernel_rfl
theorem Q7P {a0 a1 a2 : Value} {w : World} {R : Ending → World → Prop} (h : parse_parser_nums_lc.wp Tryz.prog (retQ Tryz.prog [.tmp 6] R) (Qi [a0, a1, a2]) w) : Calls Tryz.prog Q4r ⟨[a0, a1, a2]⟩ w R :=
  Q7 Tryz.func146 Q6C (by kernel_rfl) (by kernel_rfl) h

/- 147 -/
def Qah : List GO := [⟨none, .alloc 2 48 [(vi 0), vn, vn]⟩]
def Qag : List GO := [qm 4 0, ⟨none, .call (some 5) 75 [(.tmp 4)]⟩, ⟨none, .build 6 [(vi 0), vn, vn] [(0, (1, (.tmp 5)))]⟩, ⟨none, .alloc 3 48 [(vi 0), vn, vn]⟩, qw 3 3 6]
def Qaf : List GO := [qm 7 0, ⟨none, .call (some 8) 146 [(.tmp 7), (.const (.string ⟨#[60]⟩)), (.const (.string ⟨#[62]⟩))]⟩, qf 9 3 1, qs 9 8]
def Qae : List GO := [qm 10 0, ⟨none, .call (some 11) 146 [(.tmp 10), (.const (.string ⟨#[40]⟩)), (.const (.string ⟨#[41]⟩))]⟩, qf 12 3 2, qs 12 11]
def Qad : List GO := [qV 13 3 3, qw 3 2 13]
def parse_parser_to_lc : LC := (.seq (.ops Qah) (.seq (.ops Qag) (.seq (.ops Qaf) (.seq (.ops Qae) (.seq (.ops Qad) .ret)))))
@[reducible] def Q6B : FuncId := 147
theorem Q9t : lowF Tryz.prog Tryz.f147 = some parse_parser_to_lc := by kernel_rfl
theorem Qai {a0 : Value} {w : World} {R : Ending → World → Prop} (h : parse_parser_to_lc.wp Tryz.prog (retQ Tryz.prog [.cell 2 48] R) (Qi [a0]) w) : Calls Tryz.prog Q6B ⟨[a0]⟩ w R :=
  Q7 Tryz.func147 Q9t (by kernel_rfl) (by kernel_rfl) h

/- 150 -/
def Q3w : List GO := [qk 4 (.bool false)]
def Q3v : List GO := [qm 5 0, qm 6 1, ⟨none, .call (some 7) 163 [(.tmp 5), (.tmp 6)]⟩, qj 8 .geq 3 7 0, qm 4 8]
def slices_Contains_byte_byte_lc : LC := (.seq (.ops Q3w) (.seq (.ops Q3v) .ret))
@[reducible] def Q2B : FuncId := 150
theorem Q3m : lowF Tryz.prog Tryz.f150 = some slices_Contains_byte_byte_lc := by kernel_rfl
theorem Q3x {a0 a1 : Value} {w : World} {R : Ending → World → Prop} (h : slices_Contains_byte_byte_lc.wp Tryz.prog (retQ Tryz.prog [.tmp 4] R) (Qi [a0, a1]) w) : Calls Tryz.prog Q2B ⟨[a0, a1]⟩ w R :=
  Q7 Tryz.func150 Q3m (by kernel_rfl) (by kernel_rfl) h

/- 157 -/
def Qbn : List GO := [qk 8 vn]
def Qbm : List GO := [qm 10 0, qm 11 1, ⟨none, .buildS 12 9 1 [(.string ⟨#[]⟩)] [(0, (1, (.tmp 11)))]⟩, ⟨none, .call (some 13) 74 [(.tmp 10), (.tmp 12)]⟩]
def Qbl : List GO := [qk 9 vn]
def Qbk : List GO := [qm 14 0, qm 15 2, ⟨none, .call (some 16) 77 [(.tmp 14), (.tmp 15)]⟩, ⟨none, .un 17 .not (.tmp 16)⟩]
def Qbj : List GO := [qm 18 9, qL 19 18, qj 20 .gtr 3 19 0]
def Qbi : List GO := [qm 21 0, ⟨none, .buildS 22 9 1 [(.string ⟨#[]⟩)] [(0, (1, (.const (.string ⟨#[44]⟩))))]⟩, ⟨none, .call (some 23) 74 [(.tmp 21), (.tmp 22)]⟩]
def Qbh : List GO := [qm 24 9, qm 25 3, ⟨none, .callv (some 26) (.tmp 25) []⟩, ⟨none, .buildS 27 3 1 [(vi 0)] [(0, (1, (.tmp 26)))]⟩, ⟨none, .raw ⟨(some 28), (.call ⟨(.builtin .append), #[(.tmp 24), (.tmp 27)], #[46, 46]⟩), 46, "", #[], none⟩⟩, qm 9 28]
def Qbg : List GO := [qm 29 9, qL 30 29, qj 31 .gtr 3 30 100]
def Qbf : List GO := [qm 32 0, ⟨none, .call (some 33) 122 [(.tmp 32), (.const (vi 2))]⟩]
def Q4F : LC := (.seq (.seq (.ops Qbk) (.cond (.tmp 17) .skip (.exit 0))) (.block 1 (.seq (.seq (.ops Qbj) (.cond (.tmp 20) (.ops Qbi) .skip)) (.seq (.ops Qbh) (.seq (.ops Qbg) (.cond (.tmp 31) (.ops Qbf) .skip))))))
def Qbe : List GO := [qm 34 0, qm 35 2, ⟨none, .buildS 36 9 1 [(.string ⟨#[]⟩)] [(0, (1, (.tmp 35)))]⟩, ⟨none, .call (some 37) 74 [(.tmp 34), (.tmp 36)]⟩]
def Qal : List GO := [qm 38 9, qm 8 38]
def parse_list_int_lc : LC := (.seq (.ops Qbn) (.seq (.ops Qbm) (.seq (.ops Qbl) (.seq (.block 0 (.loop Q4F)) (.seq (.ops Qbe) (.seq (.ops Qal) .ret))))))
@[reducible] def Q1t : FuncId := 157
theorem Qam : lowF Tryz.prog Tryz.f157 = some parse_list_int_lc := by kernel_rfl
theorem Qbo {a0 a1 a2 a3 : Value} {w : World} {R : Ending → World → Prop} (h : parse_list_int_lc.wp Tryz.prog (retQ Tryz.prog [.tmp 8] R) (Qi [a0, a1, a2, a3]) w) : Calls Tryz.prog Q1t ⟨[a0, a1, a2, a3]⟩ w R :=
  Q7 Tryz.func157 Qam (by kernel_rfl) (by kernel_rfl) h

/- 163 -/
def Q4g : List GO := [qk 4 (vi 0)]
def Q4f : List GO := [qm 6 0, qL 7 6, qk 8 (vi 0)]
def Q4e : List GO := [qt 9 .lss 3 8 7]
def Q4d : List GO := [qm 10 8, qm 5 10]
def Q4c : List GO := [qm 11 1, qm 12 0, qm 13 5, qi 14 1 12 13, ql 15 14, qt 16 .eql 5 11 15]
def Q4b : List GO := [qm 17 5, qm 4 17]
def Q4a : List GO := [qj 18 .add 3 8 1, qm 8 18]
def Q2A : LC := (.seq (.ops Q4e) (.seq (.cond (.tmp 9) .skip (.exit 0)) (.seq (.block 1 (.seq (.ops Q4d) (.seq (.ops Q4c) (.cond (.tmp 16) (.seq (.ops Q4b) .ret) .skip)))) (.ops Q4a))))
def Q49 : List GO := [qk 4 (vi (-1))]
def slices_Index_byte_byte_lc : LC := (.seq (.ops Q4g) (.seq (.seq (.ops Q4f) (.block 0 (.loop Q2A))) (.seq (.ops Q49) .ret)))
@[reducible] def Q1D : FuncId := 163
theorem Q3T : lowF Tryz.prog Tryz.f163 = some slices_Index_byte_byte_lc := by kernel_rfl
theorem Q4h {a0 a1 : Value} {w : World} {R : Ending → World → Prop} (h : slices_Index_byte_byte_lc.wp Tryz.prog (retQ Tryz.prog [.tmp 4] R) (Qi [a0, a1]) w) : Calls Tryz.prog Q1D ⟨[a0, a1]⟩ w R :=
  Q7 Tryz.func163 Q3T (by kernel_rfl) (by kernel_rfl) h

end Go.Proofs.YtjecflbbcnocdaaGreatDoor
namespace Go.Proofs.YtjecflbbcnocdaaGreatDoor
open Go.Lir
set_option maxRecDepth 100000
theorem Qay : Q3Q Tryz.prog 22 = some (43, 4, 80, [(.int .i64 0), (.slice none 0 0), (.slice none 0 0), (.slice none 0 0)]) := by kernel_rfl
theorem QhC : ∃ e2, Tryz.prog.underlying 22 = some (.slice e2) := ⟨43, by kernel_rfl⟩
theorem el_T40 : Q3Q Tryz.prog 40 = some (91, 3, 40, [(.int .i64 0), (.int .i64 0), (.slice none 0 0)]) := by kernel_rfl
theorem u_T40 : ∃ e2, Tryz.prog.underlying 40 = some (.slice e2) := ⟨91, by kernel_rfl⟩
theorem el_T41 : Q3Q Tryz.prog 41 = some (52, 12, 208, [(.int .i64 0), (.slice none 0 0), (.slice none 0 0), (.int .i64 0), (.int .i64 0), (.int .i64 0), (.slice none 0 0), (.slice none 0 0), (.int .i64 0), (.slice none 0 0), (.slice none 0 0), (.slice none 0 0)]) := by kernel_rfl
theorem u_T41 : ∃ e2, Tryz.prog.underlying 41 = some (.slice e2) := ⟨52, by kernel_rfl⟩
theorem el_T45 : Q3Q Tryz.prog 45 = some (54, 8, 96, [(.int .i64 0), (.int .i64 0), (.int .i64 0), (.int .i64 0), (.int .i64 0), (.int .i64 0), (.slice none 0 0), (.slice none 0 0)]) := by kernel_rfl
theorem u_T45 : ∃ e2, Tryz.prog.underlying 45 = some (.slice e2) := ⟨54, by kernel_rfl⟩
theorem el_T46 : Q3Q Tryz.prog 46 = some (3, 1, 8, [(.int .i64 0)]) := by kernel_rfl
theorem u_T46 : ∃ e2, Tryz.prog.underlying 46 = some (.slice e2) := ⟨3, by kernel_rfl⟩
theorem el_T63 : Q3Q Tryz.prog 63 = some (126, 4, 40, [(.int .i64 0), (.string ⟨#[]⟩), (.bool false), (.int .i64 0)]) := by kernel_rfl
theorem u_T63 : ∃ e2, Tryz.prog.underlying 63 = some (.slice e2) := ⟨126, by kernel_rfl⟩
end Go.Proofs.YtjecflbbcnocdaaGreatDoor
namespace Go.Lir
set_option linter.unusedVariables false
mutual
/-- typeSize -/
def Ty.size : Ty → Int → Int
  | .mk _ _ l, left => Tys.size l (left - 1)
def Tys.size : List Ty → Int → Int
  | [], left => left
  | x :: l, left => if 0 ≤ left then Tys.size l (x.size left) else left
end
theorem Tys.size_neg : ∀ (l : List Ty) {left : Int}, left < 0 → Tys.size l left = left
  | [], _, _ => by simp [Tys.size]
  | x :: l, left, h => by rw [Tys.size, if_neg (by omega)]
mutual
/-- deep -/
def Ty.deepB : Ty → Int → Bool
  | .mk _ _ l, left => if left < 0 then false else Tys.deepB l (left - 1)
def Tys.deepB : List Ty → Int → Bool
  | [], _ => true
  | x :: l, left => x.deepB left && Tys.deepB l left
end
mutual
/-- DeepOf -/
def Ty.depth : Ty → Int → Int
  | .mk _ _ l, most => Tys.depth l most 0
def Tys.depth : List Ty → Int → Int → Int
  | [], _, n => n
  | x :: l, most, n => if n ≤ most then (if most = 0 then 1 else Tys.depth l most (if n < 1 + x.depth (most - 1) then 1 + x.depth (most - 1) else n)) else n
end
mutual
theorem Ty.depth_iff : ∀ (t : Ty) {most : Int}, 0 ≤ most → (t.depth most ≤ most ↔ t.deepB most = true)
  | .mk _ _ l, most, h => by
    rw [Ty.depth, Ty.deepB, if_neg (by omega), Tys.depth_iff l h]
    exact ⟨fun h => h.2, fun h2 => ⟨h, h2⟩⟩
theorem Tys.depth_iff : ∀ (l : List Ty) {most n : Int}, 0 ≤ most → (Tys.depth l most n ≤ most ↔ n ≤ most ∧ Tys.deepB l (most - 1) = true)
  | [], most, n, h => by rw [Tys.depth, Tys.deepB]; simp
  | x :: l, most, n, h => by
    rw [Tys.depth, Tys.deepB]
    by_cases hn : n ≤ most
    · rw [if_pos hn]
      by_cases h0 : most = 0
      · rw [if_pos h0]
        have : x.deepB (most - 1) = false := by obtain ⟨k, r, l2⟩ := x; rw [Ty.deepB, if_pos (by omega)]
        rw [this]; simp; omega
      · rw [if_neg h0, Tys.depth_iff l h]
        have := Ty.depth_iff x (most := most - 1) (by omega)
        rw [Bool.and_eq_true, ← this]
        constructor
        · rintro ⟨h1, h2⟩; split at h1 <;> exact ⟨by omega, by omega, h2⟩
        · rintro ⟨h1, h2, h3⟩; refine ⟨?_, h3⟩; split <;> omega
    · rw [if_neg hn]
      exact ⟨fun h => absurd h hn, fun h => h.1⟩
end
mutual
/-- Same -/
def Ty.same : Ty → Ty → Bool
  | .mk k r l, .mk k2 r2 l2 => decide (k = k2) && decide (r = r2) && Tys.same l l2
def Tys.same : List Ty → List Ty → Bool
  | [], [] => true
  | x :: l, y :: m => x.same y && Tys.same l m
  | [], _ :: _ => false
  | _ :: _, [] => false
end
mutual
theorem Ty.same_iff : ∀ (t u : Ty), t.same u = true ↔ t = u
  | .mk k r l, .mk k2 r2 l2 => by
    rw [Ty.same, Bool.and_eq_true, Bool.and_eq_true, Tys.same_iff l l2]
    simp only [decide_eq_true_eq, Ty.mk.injEq, and_assoc]
theorem Tys.same_iff : ∀ (l m : List Ty), Tys.same l m = true ↔ l = m
  | [], [] => by simp [Tys.same]
  | x :: l, y :: m => by rw [Tys.same, Bool.and_eq_true, Ty.same_iff x y, Tys.same_iff l m]; simp
  | [], _ :: _ => by simp [Tys.same]
  | _ :: _, [] => by simp [Tys.same]
end
instance : DecidableEq Ty := fun t u => decidable_of_iff _ (Ty.same_iff t u)
mutual
/-- wrong, typeFault -/
def Ty.wrong (fields : Nat) : Ty → Int → Int
  | .mk k r l, regs =>
    if k < 1 ∨ 4 < k then 3 else if k = 1 ∧ r ≠ 0 ∨ k ≠ 3 ∧ 0 < l.length then 4 else if fields < l.length then 2 else if k ≠ 1 ∧ (r < 0 ∨ regs ≤ r) then 1 else Tys.wrong fields l regs
def Tys.wrong (fields : Nat) : List Ty → Int → Int
  | [], _ => 0
  | x :: l, regs => if x.wrong fields regs ≠ 0 then x.wrong fields regs else Tys.wrong fields l regs
end
mutual
/-- Rename -/
def Ty.ren : Ty → List Int → Option Ty
  | .mk k r l, to => if k ≠ 1 ∧ (r < 0 ∨ (to.length : Int) ≤ r ∨ to.getD r.toNat 0 < 0) then none else
    match Tys.ren l to with
    | none => none
    | some m => some (.mk k (if k ≠ 1 then to.getD r.toNat 0 else r) m)
def Tys.ren : List Ty → List Int → Option (List Ty)
  | [], _ => some []
  | x :: l, to => match x.ren to with
    | none => none
    | some y => match Tys.ren l to with
      | none => none
      | some m => some (y :: m)
end
mutual
/-- Two renamings one behind the other are one. -/
theorem Ty.ren_ren {f g h : List Int} (hfg : ∀ i : Nat, i < f.length → 0 ≤ f.getD i 0 ∧ f.getD i 0 < g.length ∧ 0 ≤ g.getD (f.getD i 0).toNat 0 ∧ i < h.length ∧ h.getD i 0 = g.getD (f.getD i 0).toNat 0) :
    ∀ (t u : Ty), t.ren f = some u → ∃ v, u.ren g = some v ∧ t.ren h = some v
  | .mk k r l, u, ht => by
    rw [Ty.ren] at ht
    split at ht
    · cases ht
    · rename_i hc
      cases hl : Tys.ren l f with
      | none => rw [hl] at ht; cases ht
      | some m =>
        rw [hl] at ht
        simp only [Option.some.injEq] at ht
        obtain ⟨m2, h1, h2⟩ := Tys.ren_ren hfg l m hl
        subst ht
        by_cases hk : k = 1
        · refine ⟨.mk k r m2, ?_, ?_⟩
          · rw [Ty.ren, if_neg (by omega), h1]; simp [hk]
          · rw [Ty.ren, if_neg (by omega), h2]; simp [hk]
        · have := hfg r.toNat (by omega)
          refine ⟨.mk k (g.getD (f.getD r.toNat 0).toNat 0) m2, ?_, ?_⟩
          · rw [Ty.ren, if_pos hk, if_neg (by omega), h1]; simp [hk]
          · rw [Ty.ren, if_neg (by omega), h2]; simp only [if_pos hk, this.2.2.2.2]
theorem Tys.ren_ren {f g h : List Int} (hfg : ∀ i : Nat, i < f.length → 0 ≤ f.getD i 0 ∧ f.getD i 0 < g.length ∧ 0 ≤ g.getD (f.getD i 0).toNat 0 ∧ i < h.length ∧ h.getD i 0 = g.getD (f.getD i 0).toNat 0) :
    ∀ (t u : List Ty), Tys.ren t f = some u → ∃ v, Tys.ren u g = some v ∧ Tys.ren t h = some v
  | [], u, ht => by rw [Tys.ren] at ht; cases ht; exact ⟨[], by rw [Tys.ren], by rw [Tys.ren]⟩
  | x :: l, u, ht => by
    rw [Tys.ren] at ht
    cases hx : x.ren f with
    | none => rw [hx] at ht; cases ht
    | some y =>
      rw [hx] at ht
      cases hl : Tys.ren l f with
      | none => rw [hl] at ht; cases ht
      | some m =>
        rw [hl] at ht
        simp only [Option.some.injEq] at ht
        subst ht
        obtain ⟨y2, a1, a2⟩ := Ty.ren_ren hfg x y hx
        obtain ⟨m2, b1, b2⟩ := Tys.ren_ren hfg l m hl
        exact ⟨y2 :: m2, by rw [Tys.ren, a1, b1], by rw [Tys.ren, a2, b2]⟩
end
mutual
/-- What is renamed is as right as it was, if the renaming stays below the number of regions. -/
theorem Ty.ren_wrong {fields : Nat} {f : List Int} (hf : ∀ i : Nat, i < f.length → 0 ≤ f.getD i 0 ∧ f.getD i 0 < f.length) : ∀ (t u : Ty), t.ren f = some u → u.wrong fields f.length = t.wrong fields f.length
  | .mk k r l, u, ht => by
    rw [Ty.ren] at ht
    split at ht
    · cases ht
    · rename_i hc
      cases hl : Tys.ren l f with
      | none => rw [hl] at ht; cases ht
      | some m =>
        rw [hl] at ht
        simp only [Option.some.injEq] at ht
        subst ht
        obtain ⟨h1, h2⟩ := Tys.ren_wrong (fields := fields) hf l m hl
        by_cases hk : k = 1
        · rw [Ty.wrong, Ty.wrong, h1, h2]; simp [hk]
        · have := hf r.toNat (by omega)
          rw [Ty.wrong, Ty.wrong, h1, h2]
          simp only [if_pos hk]
          rw [if_neg (show ¬ (k ≠ 1 ∧ (f.getD r.toNat 0 < 0 ∨ (f.length : Int) ≤ f.getD r.toNat 0)) by omega), if_neg (show ¬ (k ≠ 1 ∧ (r < 0 ∨ (f.length : Int) ≤ r)) by omega)]
          simp [hk]
theorem Tys.ren_wrong {fields : Nat} {f : List Int} (hf : ∀ i : Nat, i < f.length → 0 ≤ f.getD i 0 ∧ f.getD i 0 < f.length) : ∀ (t u : List Ty), Tys.ren t f = some u → u.length = t.length ∧ Tys.wrong fields u f.length = Tys.wrong fields t f.length
  | [], u, ht => by rw [Tys.ren] at ht; cases ht; exact ⟨rfl, rfl⟩
  | x :: l, u, ht => by
    rw [Tys.ren] at ht
    cases hx : x.ren f with
    | none => rw [hx] at ht; cases ht
    | some y =>
      rw [hx] at ht
      cases hl : Tys.ren l f with
      | none => rw [hl] at ht; cases ht
      | some m =>
        rw [hl] at ht
        simp only [Option.some.injEq] at ht
        subst ht
        obtain ⟨h1, h2⟩ := Tys.ren_wrong (fields := fields) hf l m hl
        exact ⟨by simp [h1], by rw [Tys.wrong, Tys.wrong, Ty.ren_wrong hf x y hx, h2]⟩
end
mutual
/-- What cannot be renamed is wrong. -/
theorem Ty.ren_none {fields : Nat} {f : List Int} (hf : ∀ i : Nat, i < f.length → 0 ≤ f.getD i 0) : ∀ (t : Ty), t.ren f = none → t.wrong fields f.length ≠ 0
  | .mk k r l, ht => by
    rw [Ty.wrong]
    rw [Ty.ren] at ht
    split
    · decide
    · split
      · decide
      · split
        · decide
        · split
          · decide
          · rename_i h1 h2 h3 h4
            have hc : ¬ (k ≠ 1 ∧ (r < 0 ∨ (f.length : Int) ≤ r ∨ f.getD r.toNat 0 < 0)) := by
              rintro ⟨a, b⟩
              have := hf r.toNat
              omega
            rw [if_neg hc] at ht
            cases hl : Tys.ren l f with
            | none => exact Tys.ren_none hf l hl
            | some m => rw [hl] at ht; cases ht
theorem Tys.ren_none {fields : Nat} {f : List Int} (hf : ∀ i : Nat, i < f.length → 0 ≤ f.getD i 0) : ∀ (t : List Ty), Tys.ren t f = none → Tys.wrong fields t f.length ≠ 0
  | [], ht => by rw [Tys.ren] at ht; cases ht
  | x :: l, ht => by
    rw [Tys.ren] at ht
    rw [Tys.wrong]
    split
    · rename_i h; exact h
    · rename_i h
      cases hx : x.ren f with
      | none => exact absurd hx (fun hx => h (Ty.ren_none hf x hx))
      | some y =>
        rw [hx] at ht
        cases hl : Tys.ren l f with
        | none => exact Tys.ren_none hf l hl
        | some m => rw [hl] at ht; cases ht
end
mutual
theorem Ty.ren_deep {f : List Int} : ∀ (t u : Ty) (left : Int), t.ren f = some u → u.deepB left = t.deepB left
  | .mk k r l, u, left, ht => by
    rw [Ty.ren] at ht
    split at ht
    · cases ht
    · cases hl : Tys.ren l f with
      | none => rw [hl] at ht; cases ht
      | some m =>
        rw [hl] at ht
        simp only [Option.some.injEq] at ht
        subst ht
        rw [Ty.deepB, Ty.deepB, Tys.ren_deep l m (left - 1) hl]
theorem Tys.ren_deep {f : List Int} : ∀ (t u : List Ty) (left : Int), Tys.ren t f = some u → Tys.deepB u left = Tys.deepB t left
  | [], u, _, ht => by rw [Tys.ren] at ht; cases ht; rfl
  | x :: l, u, left, ht => by
    rw [Tys.ren] at ht
    cases hx : x.ren f with
    | none => rw [hx] at ht; cases ht
    | some y =>
      rw [hx] at ht
      cases hl : Tys.ren l f with
      | none => rw [hl] at ht; cases ht
      | some m =>
        rw [hl] at ht
        simp only [Option.some.injEq] at ht
        subst ht
        rw [Tys.deepB, Tys.deepB, Ty.ren_deep x y left hx, Tys.ren_deep l m left hl]
end
mutual
/-- The renaming that leaves all as it is. -/
theorem Ty.ren_id {f : List Int} (hf : ∀ i : Nat, i < f.length → f.getD i 0 = i) : ∀ (t u : Ty), t.ren f = some u → u = t
  | .mk k r l, u, ht => by
    rw [Ty.ren] at ht
    split at ht
    · cases ht
    · rename_i hc
      cases hl : Tys.ren l f with
      | none => rw [hl] at ht; cases ht
      | some m =>
        rw [hl] at ht
        simp only [Option.some.injEq] at ht
        subst ht
        rw [Tys.ren_id hf l m hl]
        by_cases hk : k = 1
        · simp [hk]
        · have := hf r.toNat (by omega)
          rw [if_pos hk, this, Int.toNat_of_nonneg (by omega)]
theorem Tys.ren_id {f : List Int} (hf : ∀ i : Nat, i < f.length → f.getD i 0 = i) : ∀ (t u : List Ty), Tys.ren t f = some u → u = t
  | [], u, ht => by rw [Tys.ren] at ht; cases ht; rfl
  | x :: l, u, ht => by
    rw [Tys.ren] at ht
    cases hx : x.ren f with
    | none => rw [hx] at ht; cases ht
    | some y =>
      rw [hx] at ht
      cases hl : Tys.ren l f with
      | none => rw [hl] at ht; cases ht
      | some m =>
        rw [hl] at ht
        simp only [Option.some.injEq] at ht
        subst ht
        rw [Ty.ren_id hf x y hx, Tys.ren_id hf l m hl]
end
/-- By the parts. -/
theorem Ty.ind {p : Ty → Prop} (h : ∀ k r l, (∀ x ∈ l, p x) → p (.mk k r l)) : ∀ t, p t
  | .mk k r l => h k r l fun x hx => Ty.ind h x
termination_by t => SizeOf.sizeOf t
decreasing_by
  have := List.sizeOf_lt_of_mem hx
  simp only [Ty.mk.sizeOf_spec]
  omega
mutual
theorem Ty.size_rng : ∀ (t : Ty) {left : Int}, 0 ≤ left → -1 ≤ t.size left ∧ t.size left < left
  | .mk _ _ l, left, h => by
    rw [Ty.size]
    have := Tys.size_rng l (left := left - 1) (by omega)
    omega
theorem Tys.size_rng : ∀ (l : List Ty) {left : Int}, -1 ≤ left → -1 ≤ Tys.size l left ∧ Tys.size l left ≤ left
  | [], left, h => by rw [Tys.size]; omega
  | x :: l, left, h => by
    rw [Tys.size]
    split
    · rename_i h0
      have h1 := Ty.size_rng x h0
      have h2 := Tys.size_rng l (left := x.size left) h1.1
      omega
    · omega
end
mutual
theorem Ty.size_mono : ∀ (t : Ty) {a b : Int}, a ≤ b → -1 ≤ a → t.size a ≤ t.size b
  | .mk _ _ l, a, b, h, ha => by
    rw [Ty.size, Ty.size]
    by_cases h0 : 0 ≤ a
    · exact Tys.size_mono l (by omega) (by omega)
    · rw [Tys.size_neg l (by omega)]
      by_cases hb : 0 ≤ b
      · have := Tys.size_rng l (left := b - 1) (by omega); omega
      · rw [Tys.size_neg l (by omega)]; omega
theorem Tys.size_mono : ∀ (l : List Ty) {a b : Int}, a ≤ b → -1 ≤ a → Tys.size l a ≤ Tys.size l b
  | [], a, b, h, _ => by rw [Tys.size, Tys.size]; exact h
  | x :: l, a, b, h, ha => by
    by_cases h0 : 0 ≤ a
    · rw [Tys.size, Tys.size, if_pos h0, if_pos (by omega)]
      exact Tys.size_mono l (Ty.size_mono x h ha) (Ty.size_rng x h0).1
    · rw [Tys.size_neg _ (by omega)]
      have := Tys.size_rng (x :: l) (left := b) (by omega); omega
end
/-- What is not too great has few parts, and none of them is too great. -/
theorem Tys.size_len : ∀ (l : List Ty) {left : Int}, 0 ≤ Tys.size l left → -1 ≤ left → (l.length : Int) ≤ left ∧ ∀ x ∈ l, 0 ≤ x.size left
  | [], left, h, _ => by rw [Tys.size] at h; simp; exact h
  | x :: l, left, h, hl => by
    rw [Tys.size] at h
    split at h
    · rename_i h0
      have h1 := Ty.size_rng x h0
      have h2 := Tys.size_len l h h1.1
      have h3 := Tys.size_rng l (left := x.size left) h1.1
      refine ⟨by simp only [List.length_cons]; omega, fun y hy => ?_⟩
      rcases List.mem_cons.1 hy with rfl | hy
      · omega
      · exact Int.le_trans (h2.2 y hy) (Ty.size_mono y (by omega) h1.1)
    · omega
/-- Check, TypeFault -/
def Ty.fault (t : Ty) (regs : Int) : Int := if t.deepB 4 = false then 19 else t.wrong 8 regs
mutual
theorem Ty.depth_rng : ∀ (t : Ty) {most : Int}, 0 ≤ most → 0 ≤ t.depth most ∧ t.depth most ≤ most + 1
  | .mk _ _ l, most, h => by
    rw [Ty.depth]
    exact Tys.depth_rng l h (by omega) (by omega)
theorem Tys.depth_rng : ∀ (l : List Ty) {most n : Int}, 0 ≤ most → 0 ≤ n → n ≤ most + 1 → 0 ≤ Tys.depth l most n ∧ Tys.depth l most n ≤ most + 1
  | [], most, n, _, h1, h2 => by rw [Tys.depth]; omega
  | x :: l, most, n, h, h1, h2 => by
    rw [Tys.depth]
    split
    · split
      · omega
      · have := Ty.depth_rng x (most := most - 1) (by omega)
        exact Tys.depth_rng l h (by split <;> omega) (by split <;> omega)
    · omega
end
/-- No list of parts is long. -/
inductive Ty.Short : Ty → Prop where
  | mk {k r : Int} {l : List Ty} : l.length ≤ 100000 → (∀ x ∈ l, x.Short) → Ty.Short (.mk k r l)
theorem Ty.Short.parts {k r : Int} {l : List Ty} (h : (Ty.mk k r l).Short) : l.length ≤ 100000 ∧ ∀ x ∈ l, x.Short := by
  cases h with | mk h1 h2 => exact ⟨h1, h2⟩
theorem Ty.short_of_size : ∀ (t : Ty) {n : Int}, n ≤ 100000 → 0 ≤ n → 0 ≤ t.size n → t.Short := by
  intro t
  induction t using Ty.ind with
  | h k r l ih =>
    intro n h1 h0 h
    rw [Ty.size] at h
    obtain ⟨h2, h3⟩ := Tys.size_len l h (by omega)
    refine .mk (by omega) fun x hx => ?_
    have hp := h3 x hx
    have hl := List.length_pos_of_mem hx
    exact ih x hx (n := n - 1) (by omega) (by omega) hp
/-- GreatType, greatTypes -/
def Ty.great (t : Ty) : Bool := decide (t.size 2000 < 0)
def Tys.great (l : List Ty) : Bool := decide (200 < l.length) || l.any Ty.great
theorem Ty.short_of_great {t : Ty} (h : t.great = false) : t.Short := Ty.short_of_size t (n := 2000) (by omega) (by omega) (by unfold Ty.great at h; simp at h; exact h)
theorem Tys.short_of_great {l : List Ty} (h : Tys.great l = false) : l.length ≤ 200 ∧ ∀ x ∈ l, x.Short := by
  unfold Tys.great at h
  rw [Bool.or_eq_false_iff] at h
  refine ⟨by have := of_decide_eq_false h.1; omega, fun x hx => Ty.short_of_great ?_⟩
  cases hg : x.great with
  | false => rfl
  | true => have := List.any_eq_true.2 ⟨x, hx, hg⟩; rw [h.2] at this; cases this
end Go.Lir
namespace Go.Lir
structure Ins where
  op : Int
  a : Int
  b : Int
  c : Int
  k : Int
  n : Int
  regs : List Int
  args : List Int
structure To where
  block : Int
  regs : List Int
  args : List Int
structure Tail where
  op : Int
  a : Int
  yes : To
  no : To
  args : List Int
structure Block where
  regs : Int
  params : List Ty
  code : List Ins
  fin : Tail
deriving instance DecidableEq for Ins
deriving instance DecidableEq for To
deriving instance DecidableEq for Tail
deriving instance DecidableEq for Block
structure Fun where
  regs : Int
  params : List Ty
  results : List Ty
  blocks : List Block
structure Module where
  funcs : List Fun
deriving instance DecidableEq for Fun
deriving instance DecidableEq for Module

theorem Fun.eq_of {x y : Fun} (h1 : x.regs = y.regs) (h2 : x.params = y.params) (h3 : x.results = y.results) (h4 : x.blocks = y.blocks) : x = y := by
  cases x; cases y; simp_all
/-! ### no list is long -/
def Ins.Short (x : Ins) : Prop := x.regs.length ≤ 100000 ∧ x.args.length ≤ 100000
def To.Short (x : To) : Prop := x.regs.length ≤ 100000 ∧ x.args.length ≤ 100000
def Tail.Short (x : Tail) : Prop := x.yes.Short ∧ x.no.Short ∧ x.args.length ≤ 100000
def Tys.Short (l : List Ty) : Prop := l.length ≤ 100000 ∧ ∀ t ∈ l, t.Short
def Block.Short (x : Block) : Prop := Tys.Short x.params ∧ x.code.length ≤ 100000 ∧ (∀ i ∈ x.code, i.Short) ∧ x.fin.Short
def Fun.Short (x : Fun) : Prop := Tys.Short x.params ∧ Tys.Short x.results ∧ x.blocks.length ≤ 100000 ∧ ∀ b ∈ x.blocks, b.Short
def Module.Short (x : Module) : Prop := x.funcs.length ≤ 100000 ∧ ∀ f ∈ x.funcs, f.Short
theorem Qj0 {α : Type} {l : List α} {p : α → Prop} {j : Nat} {x : α} (h : ∀ y ∈ l.take j, p y) (hx : l[j]? = some x) (hp : p x) : ∀ y ∈ l.take (j + 1), p y := by
  intro y hy
  rw [List.take_add_one, hx] at hy
  rcases List.mem_append.1 hy with hy | hy
  · exact h y hy
  · simp at hy; subst hy; exact hp
theorem all_take {α : Type} {l : List α} {p : α → Prop} {j : Nat} (h : ∀ y ∈ l.take j, p y) (hj : l.length ≤ j) : ∀ y ∈ l, p y := by
  rw [List.take_of_length_le hj] at h; exact h
def insR : Rep Ins where
  es := 8
  pos := by decide
  R := fun H K cs x => ∃ vr va, cs = [.int .i64 x.op, .int .i64 x.a, .int .i64 x.b, .int .i64 x.c, .int .i64 x.k, .int .i64 x.n, vr, va] ∧ intR.SR H K vr x.regs ∧ intR.SR H K va x.args
  len := by rintro _ _ _ _ ⟨vr, va, rfl, _⟩; rfl
  one := by
    rintro _ _ _ _ ⟨vr, va, rfl, h1, h2⟩ u hu
    simp at hu
    rcases hu with rfl | rfl | rfl | rfl | rfl | rfl | rfl | rfl <;> first | rfl | exact h1.oneC | exact h2.oneC
  turn := by rintro _ _ _ _ _ _ ⟨vr, va, rfl, h1, h2⟩ hs; exact ⟨vr, va, rfl, h1.turn hs, h2.turn hs⟩
def toR : Rep To where
  es := 3
  pos := by decide
  R := fun H K cs x => ∃ vr va, cs = [.int .i64 x.block, vr, va] ∧ intR.SR H K vr x.regs ∧ intR.SR H K va x.args
  len := by rintro _ _ _ _ ⟨vr, va, rfl, _⟩; rfl
  one := by
    rintro _ _ _ _ ⟨vr, va, rfl, h1, h2⟩ u hu
    simp at hu
    rcases hu with rfl | rfl | rfl <;> first | rfl | exact h1.oneC | exact h2.oneC
  turn := by rintro _ _ _ _ _ _ ⟨vr, va, rfl, h1, h2⟩ hs; exact ⟨vr, va, rfl, h1.turn hs, h2.turn hs⟩
def endR : Rep Tail where
  es := 9
  pos := by decide
  R := fun H K cs x => ∃ v1 v2 v3 v4 v5, cs = [.int .i64 x.op, .int .i64 x.a, .int .i64 x.yes.block, v1, v2, .int .i64 x.no.block, v3, v4, v5] ∧ intR.SR H K v1 x.yes.regs ∧ intR.SR H K v2 x.yes.args ∧ intR.SR H K v3 x.no.regs ∧ intR.SR H K v4 x.no.args ∧ intR.SR H K v5 x.args
  len := by rintro _ _ _ _ ⟨_, _, _, _, _, rfl, _⟩; rfl
  one := by
    rintro _ _ _ _ ⟨_, _, _, _, _, rfl, h1, h2, h3, h4, h5⟩ u hu
    simp at hu
    rcases hu with rfl | rfl | rfl | rfl | rfl | rfl | rfl | rfl | rfl <;> first | rfl | exact h1.oneC | exact h2.oneC | exact h3.oneC | exact h4.oneC | exact h5.oneC
  turn := by rintro _ _ _ _ _ _ ⟨_, _, _, _, _, rfl, h1, h2, h3, h4, h5⟩ hs; exact ⟨_, _, _, _, _, rfl, h1.turn hs, h2.turn hs, h3.turn hs, h4.turn hs, h5.turn hs⟩
def blockR : Rep Block where
  es := 12
  pos := by decide
  R := fun H K cs x => ∃ vp vc ce, cs = .int .i64 x.regs :: vp :: vc :: ce ∧ tyR.SR H K vp x.params ∧ insR.SR H K vc x.code ∧ endR.R H K ce x.fin
  len := by rintro _ _ _ _ ⟨_, _, ce, rfl, _, _, h⟩; have := endR.len h; simp [this, endR]
  one := by
    rintro _ _ _ _ ⟨_, _, ce, rfl, h1, h2, h3⟩ u hu
    simp at hu
    rcases hu with rfl | rfl | rfl | hu
    · rfl
    · exact h1.oneC
    · exact h2.oneC
    · exact endR.one h3 u hu
  turn := by rintro _ _ _ _ _ _ ⟨_, _, _, rfl, h1, h2, h3⟩ hs; exact ⟨_, _, _, rfl, h1.turn hs, h2.turn hs, endR.turn h3 hs⟩
def funcR : Rep Fun where
  es := 4
  pos := by decide
  R := fun H K cs x => ∃ vp vr vb, cs = [.int .i64 x.regs, vp, vr, vb] ∧ tyR.SR H K vp x.params ∧ tyR.SR H K vr x.results ∧ blockR.SR H K vb x.blocks
  len := by rintro _ _ _ _ ⟨_, _, _, rfl, _⟩; rfl
  one := by
    rintro _ _ _ _ ⟨_, _, _, rfl, h1, h2, h3⟩ u hu
    simp at hu
    rcases hu with rfl | rfl | rfl | rfl <;> first | rfl | exact h1.oneC | exact h2.oneC | exact h3.oneC
  turn := by rintro _ _ _ _ _ _ ⟨_, _, _, rfl, h1, h2, h3⟩ hs; exact ⟨_, _, _, rfl, h1.turn hs, h2.turn hs, h3.turn hs⟩
def modR : Rep Module where
  es := 1
  pos := by decide
  R := fun H K cs x => ∃ vf, cs = [vf] ∧ funcR.SR H K vf x.funcs
  len := by rintro _ _ _ _ ⟨_, rfl, _⟩; rfl
  one := by
    rintro _ _ _ _ ⟨_, rfl, h1⟩ u hu
    simp at hu; subst hu; exact h1.oneC
  turn := by rintro _ _ _ _ _ _ ⟨_, rfl, h1⟩ hs; exact ⟨_, rfl, h1.turn hs⟩

theorem Q3i {c : Cx} {cs : List Value} {x : Ins} (h : insR.at c cs x) : ∃ vr va, cs = [.int .i64 x.op, .int .i64 x.a, .int .i64 x.b, .int .i64 x.c, .int .i64 x.k, .int .i64 x.n, vr, va] ∧ intR.sl c vr x.regs ∧ intR.sl c va x.args := h
theorem Q9d {c : Cx} {cs : List Value} {x : To} (h : toR.at c cs x) : ∃ vr va, cs = [.int .i64 x.block, vr, va] ∧ intR.sl c vr x.regs ∧ intR.sl c va x.args := h
theorem Qd5 {c : Cx} {cs : List Value} {x : Tail} (h : endR.at c cs x) : ∃ v1 v2 v3 v4 v5, cs = [.int .i64 x.op, .int .i64 x.a, .int .i64 x.yes.block, v1, v2, .int .i64 x.no.block, v3, v4, v5] ∧ intR.sl c v1 x.yes.regs ∧ intR.sl c v2 x.yes.args ∧ intR.sl c v3 x.no.regs ∧ intR.sl c v4 x.no.args ∧ intR.sl c v5 x.args := h
theorem Q1X {c : Cx} {cs : List Value} {x : Block} (h : blockR.at c cs x) : ∃ vp vc v1 v2 v3 v4 v5, cs = [.int .i64 x.regs, vp, vc, .int .i64 x.fin.op, .int .i64 x.fin.a, .int .i64 x.fin.yes.block, v1, v2, .int .i64 x.fin.no.block, v3, v4, v5] ∧ tyR.sl c vp x.params ∧ insR.sl c vc x.code ∧ intR.sl c v1 x.fin.yes.regs ∧ intR.sl c v2 x.fin.yes.args ∧ intR.sl c v3 x.fin.no.regs ∧ intR.sl c v4 x.fin.no.args ∧ intR.sl c v5 x.fin.args := by
  obtain ⟨vp, vc, ce, rfl, h1, h2, v1, v2, v3, v4, v5, rfl, h3⟩ := h
  exact ⟨vp, vc, v1, v2, v3, v4, v5, rfl, h1, h2, h3⟩
theorem QoW {c : Cx} {x : Block} {vp vc v1 v2 v3 v4 v5 : Value} (h1 : tyR.sl c vp x.params) (h2 : insR.sl c vc x.code) (h3 : intR.sl c v1 x.fin.yes.regs) (h4 : intR.sl c v2 x.fin.yes.args) (h5 : intR.sl c v3 x.fin.no.regs) (h6 : intR.sl c v4 x.fin.no.args) (h7 : intR.sl c v5 x.fin.args) :
    blockR.at c [.int .i64 x.regs, vp, vc, .int .i64 x.fin.op, .int .i64 x.fin.a, .int .i64 x.fin.yes.block, v1, v2, .int .i64 x.fin.no.block, v3, v4, v5] x := ⟨vp, vc, _, rfl, h1, h2, v1, v2, v3, v4, v5, rfl, h3, h4, h5, h6, h7⟩
theorem Q1B {c : Cx} {cs : List Value} {x : Fun} (h : funcR.at c cs x) : ∃ vp vr vb, cs = [.int .i64 x.regs, vp, vr, vb] ∧ tyR.sl c vp x.params ∧ tyR.sl c vr x.results ∧ blockR.sl c vb x.blocks := h
theorem Q41 {c : Cx} {cs : List Value} {x : Module} (h : modR.at c cs x) : ∃ vf, cs = [vf] ∧ funcR.sl c vf x.funcs := h

/-! ### codecs -/
section
variable {P : Program} {T : TypeId}
/-- A field as a kind of data. -/
theorem Cod.Of.part {α : Type} {r : Rep α} (c : Cod.Of P T r) {H : Heap} {cs : List Value} {x : α} (h : c.cod.rd H cs x) : r.R H (· < H.size) cs x := c.rd _ _ _ h
def Cod.Of.to {TI TL : TypeId} (ci : Cod.Of P TI intR) (cl : Cod.Of P TL intR.list) (h0 : fieldAt P T 0 = some (0, 1, TI)) (h1 : fieldAt P T 1 = some (1, 1, TL)) (h2 : fieldAt P T 2 = some (2, 1, TL)) (hT : P.cellsOf T = 3) : Cod.Of P T toR :=
  Cod.of (Fld.cod (Fld.more ci.cod h0 (Fld.more cl.cod h1 (Fld.more cl.cod h2 Fld.none))) h0 3 hT) toR rfl fun H cs x h => by
    obtain ⟨hl, g0, g1, g2, _⟩ := h
    match cs, hl with
    | [a, b, c], _ =>
      have e0 : [a] = [_] := ci.part g0
      obtain ⟨v1, e1, s1⟩ := cl.part g1
      obtain ⟨v2, e2, s2⟩ := cl.part g2
      replace e1 : [b] = [v1] := e1
      replace e2 : [c] = [v2] := e2
      simp only [List.cons.injEq, and_true] at e0 e1 e2
      subst e0 e1 e2
      exact ⟨⟨x.1, x.2.1, x.2.2.1⟩, b, c, rfl, s1, s2⟩
def Cod.Of.block {TI TL TC TE : TypeId} (ci : Cod.Of P TI intR) (cl : Cod.Of P TL tyR.list) (cc : Cod.Of P TC insR.list) (ce : Cod.Of P TE endR) (h0 : fieldAt P T 0 = some (0, 1, TI)) (h1 : fieldAt P T 1 = some (1, 1, TL)) (h2 : fieldAt P T 2 = some (2, 1, TC)) (h3 : fieldAt P T 3 = some (3, 9, TE)) (hT : P.cellsOf T = 12) : Cod.Of P T blockR :=
  Cod.of (Fld.cod (Fld.more ci.cod h0 (Fld.more cl.cod h1 (Fld.more cc.cod h2 (Fld.more ce.cod h3 Fld.none)))) h0 12 hT) blockR rfl fun H cs x h => by
    obtain ⟨hl, g0, g1, g2, g3, _⟩ := h
    match cs, hl with
    | [a0, a1, a2, a3, a4, a5, a6, a7, a8, a9, a10, a11], _ =>
      have e0 : [a0] = [_] := ci.part g0
      obtain ⟨v1, e1, s1⟩ := cl.part g1
      obtain ⟨v2, e2, s2⟩ := cc.part g2
      have s3 := ce.part g3
      replace e1 : [a1] = _ := e1
      replace e2 : [a2] = _ := e2
      replace s3 : endR.R H (· < H.size) [a3, a4, a5, a6, a7, a8, a9, a10, a11] x.2.2.2.1 := s3
      simp only [List.cons.injEq, and_true] at e0 e1 e2
      subst e0 e1 e2
      exact ⟨⟨x.1, x.2.1, x.2.2.1, x.2.2.2.1⟩, _, _, _, rfl, s1, s2, s3⟩
def Cod.Of.func {TI TL TB : TypeId} (ci : Cod.Of P TI intR) (cl : Cod.Of P TL tyR.list) (cb : Cod.Of P TB blockR.list) (h0 : fieldAt P T 0 = some (0, 1, TI)) (h1 : fieldAt P T 1 = some (1, 1, TL)) (h2 : fieldAt P T 2 = some (2, 1, TL)) (h3 : fieldAt P T 3 = some (3, 1, TB)) (hT : P.cellsOf T = 4) : Cod.Of P T funcR :=
  Cod.of (Fld.cod (Fld.more ci.cod h0 (Fld.more cl.cod h1 (Fld.more cl.cod h2 (Fld.more cb.cod h3 Fld.none)))) h0 4 hT) funcR rfl fun H cs x h => by
    obtain ⟨hl, g0, g1, g2, g3, _⟩ := h
    match cs, hl with
    | [a0, a1, a2, a3], _ =>
      have e0 : [a0] = [_] := ci.part g0
      obtain ⟨v1, e1, s1⟩ := cl.part g1
      obtain ⟨v2, e2, s2⟩ := cl.part g2
      obtain ⟨v3, e3, s3⟩ := cb.part g3
      replace e1 : [a1] = _ := e1
      replace e2 : [a2] = _ := e2
      replace e3 : [a3] = _ := e3
      simp only [List.cons.injEq, and_true] at e0 e1 e2 e3
      subst e0 e1 e2 e3
      exact ⟨⟨x.1, x.2.1, x.2.2.1, x.2.2.2.1⟩, _, _, _, rfl, s1, s2, s3⟩
end
end Go.Lir
