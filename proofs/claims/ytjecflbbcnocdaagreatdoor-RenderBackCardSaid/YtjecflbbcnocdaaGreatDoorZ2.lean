/- Lemmas of the proof, part 2: what the functions of the program do (contracts), and what follows. -/
import Derived.Test.YtjecflbbcnocdaaGreatDoorZ1
import Derived.Laws.IdiomStrings
import Derived.Lib.Strings
import Derived.Test.YtjecflbbcnocdaaGreatDoorProg
import Derived.Recover
namespace Go.Lir

theorem SlR.turn {H H' : Heap} {es : Nat} {v : Value} {F G : Nat → Prop} {css : List (List Value)} (h : SlR H es v F css) (hs : ∀ b, F b → b < H.size → G b ∧ H'[b]? = H[b]?) : SlR H' es v G css := by
  obtain ⟨h0, a, cap, hv, hlc, hc | ⟨b, off, ha, hF, hb, hat⟩⟩ := h
  · exact ⟨h0, a, cap, hv, hlc, .inl hc⟩
  · obtain ⟨h1, h2⟩ := hs b hF hb
    refine ⟨h0, a, cap, hv, hlc, .inr ⟨b, off, ha, h1, ?_, fun m c hm => (hat m c hm).of_same h2⟩⟩
    rcases Nat.lt_or_ge b H'.size with h | h
    · exact h
    · rw [Array.getElem?_eq_none h, Array.getElem?_eq_getElem hb] at h2; cases h2

/-- A kind of data: what cells (that lie in K, and what they lead to) say. -/
structure Rep (α : Type) where
  es : Nat
  pos : 0 < es
  R : Heap → (Nat → Prop) → List Value → α → Prop
  len : ∀ {H : Heap} {K : Nat → Prop} {cs : List Value} {x : α}, R H K cs x → cs.length = es
  one : ∀ {H : Heap} {K : Nat → Prop} {cs : List Value} {x : α}, R H K cs x → ∀ u ∈ cs, oneC u = true
  turn : ∀ {H H' : Heap} {K K' : Nat → Prop} {cs : List Value} {x : α}, R H K cs x → (∀ b, K b → b < H.size → K' b ∧ H'[b]? = H[b]?) → R H' K' cs x

section
variable {α β : Type}
/-- Rows of cells that are the parts of a list. -/
def Rep.LR (r : Rep α) (H : Heap) (K : Nat → Prop) (css : List (List Value)) (l : List α) : Prop := css.length = l.length ∧ ∀ (m : Nat) (x : α), l[m]? = some x → ∃ d, css[m]? = some d ∧ r.R H K d x
/-- A slice that reads as the list. -/
def Rep.SR (r : Rep α) (H : Heap) (K : Nat → Prop) (v : Value) (l : List α) : Prop := ∃ css, SlR H r.es v K css ∧ r.LR H K css l ∧ l.length ≤ 140737488355328
theorem Rep.LR.turn {r : Rep α} {H H' : Heap} {K K' : Nat → Prop} {css : List (List Value)} {l : List α} (h : r.LR H K css l) (hs : ∀ b, K b → b < H.size → K' b ∧ H'[b]? = H[b]?) : r.LR H' K' css l :=
  ⟨h.1, fun m x hx => by obtain ⟨d, h1, h2⟩ := h.2 m x hx; exact ⟨d, h1, r.turn h2 hs⟩⟩
theorem Rep.SR.turn {r : Rep α} {H H' : Heap} {K K' : Nat → Prop} {v : Value} {l : List α} (h : r.SR H K v l) (hs : ∀ b, K b → b < H.size → K' b ∧ H'[b]? = H[b]?) : r.SR H' K' v l := by
  obtain ⟨css, h1, h2, h3⟩ := h
  exact ⟨css, h1.turn hs, h2.turn hs, h3⟩
theorem Rep.LR.nil (r : Rep α) (H : Heap) (K : Nat → Prop) : r.LR H K [] [] := ⟨rfl, by simp⟩
theorem Rep.LR.push {r : Rep α} {H : Heap} {K : Nat → Prop} {css : List (List Value)} {l : List α} {d : List Value} {x : α} (h : r.LR H K css l) (hd : r.R H K d x) : r.LR H K (css ++ [d]) (l ++ [x]) := by
  refine ⟨by simp [h.1], fun m y hy => ?_⟩
  rcases Nat.lt_or_ge m l.length with hm | hm
  · rw [List.getElem?_append_left hm] at hy
    rw [List.getElem?_append_left (by rw [h.1]; exact hm)]
    exact h.2 m y hy
  · rw [List.getElem?_append_right hm] at hy
    rw [List.getElem?_append_right (by rw [h.1]; exact hm), h.1]
    obtain ⟨i, hi⟩ : ∃ i, m - l.length = i := ⟨_, rfl⟩
    rw [hi] at hy ⊢
    cases i with
    | zero => simp only [List.getElem?_cons_zero, Option.some.injEq] at hy; subst hy; exact ⟨d, rfl, hd⟩
    | succ i => simp at hy
theorem Rep.LR.append {r : Rep α} {H : Heap} {K : Nat → Prop} {css css2 : List (List Value)} {l l2 : List α} (h : r.LR H K css l) (h2 : r.LR H K css2 l2) : r.LR H K (css ++ css2) (l ++ l2) := by
  refine ⟨by simp [h.1, h2.1], fun m y hy => ?_⟩
  rcases Nat.lt_or_ge m l.length with hm | hm
  · rw [List.getElem?_append_left hm] at hy
    rw [List.getElem?_append_left (by rw [h.1]; exact hm)]
    exact h.2 m y hy
  · rw [List.getElem?_append_right hm] at hy
    rw [List.getElem?_append_right (by rw [h.1]; exact hm), h.1]
    exact h2.2 _ y hy
theorem Rep.LR.set {r : Rep α} {H : Heap} {K : Nat → Prop} {css : List (List Value)} {l : List α} {d : List Value} {x : α} {i : Nat} (h : r.LR H K css l) (hd : r.R H K d x) : r.LR H K (css.set i d) (l.set i x) := by
  refine ⟨by simp [h.1], fun m y hy => ?_⟩
  rw [List.getElem?_set] at hy ⊢
  by_cases he : i = m
  · rw [if_pos he] at hy ⊢
    rw [h.1]
    split at hy
    · rename_i hm; rw [if_pos hm]; cases hy; exact ⟨d, rfl, hd⟩
    · cases hy
  · rw [if_neg he] at hy ⊢
    exact h.2 m y hy
theorem Rep.LR.sub {r : Rep α} {H : Heap} {K : Nat → Prop} {css : List (List Value)} {l : List α} (h : r.LR H K css l) (i j : Nat) : r.LR H K ((css.take j).drop i) ((l.take j).drop i) := by
  refine ⟨by simp [h.1], fun m y hy => ?_⟩
  rw [List.getElem?_drop] at hy ⊢
  have hlt := (List.getElem?_eq_some_iff.1 hy).1
  rw [List.length_take] at hlt
  rw [List.getElem?_take_of_lt (by omega)] at hy ⊢
  exact h.2 _ y hy
theorem Rep.LR.one {r : Rep α} {H : Heap} {K : Nat → Prop} {css : List (List Value)} {l : List α} (h : r.LR H K css l) : ∀ c ∈ css, ∀ u ∈ c, oneC u = true := by
  intro c hc
  obtain ⟨m, hm⟩ := List.mem_iff_getElem?.1 hc
  have hlt := (List.getElem?_eq_some_iff.1 hm).1
  obtain ⟨d, h1, h2⟩ := h.2 m _ (List.getElem?_eq_getElem (by rw [← h.1]; exact hlt))
  rw [hm] at h1; cases h1
  exact r.one h2
theorem Rep.SR.oneC {r : Rep α} {H : Heap} {K : Nat → Prop} {v : Value} {l : List α} (h : r.SR H K v l) : Go.Lir.oneC v = true := by
  obtain ⟨css, h1, _⟩ := h; exact SlR.oneC h1
theorem Rep.SR.nil (r : Rep α) (H : Heap) (K : Nat → Prop) : r.SR H K (.slice none 0 0) [] := ⟨[], ⟨by simp, none, 0, rfl, Nat.le_refl _, .inl rfl⟩, .nil r H K, by simp⟩
theorem Rep.SR.len {r : Rep α} {H : Heap} {K : Nat → Prop} {v : Value} {l : List α} (h : r.SR H K v l) : l.length ≤ 140737488355328 := by obtain ⟨_, _, _, h⟩ := h; exact h
theorem Rep.SR.shape {r : Rep α} {H : Heap} {K : Nat → Prop} {v : Value} {l : List α} (h : r.SR H K v l) : ∃ a c, v = .slice a l.length c := by
  obtain ⟨css, h1, h2, _⟩ := h
  obtain ⟨a, c, hv⟩ := SlR.shape h1
  exact ⟨a, c, by rw [← h2.1]; exact hv⟩

def Rep.lit (f : α → Value) (hf : ∀ x, oneC (f x) = true) : Rep α where
  es := 1
  pos := by decide
  R := fun _ _ cs x => cs = [f x]
  len := by rintro _ _ _ _ rfl; rfl
  one := by rintro _ _ _ x rfl u hu; simp at hu; subst hu; exact hf x
  turn := fun h _ => h
def intR : Rep Int := Rep.lit (fun n => .int .i64 n) (fun _ => rfl)
def strR : Rep ByteArray := Rep.lit (fun b => .string b) (fun _ => rfl)
def Rep.list (r : Rep α) : Rep (List α) where
  es := 1
  pos := by decide
  R := fun H K cs l => ∃ v, cs = [v] ∧ r.SR H K v l
  len := by rintro _ _ _ _ ⟨v, rfl, _⟩; rfl
  one := by rintro _ _ _ _ ⟨v, rfl, h⟩ u hu; simp at hu; subst hu; exact h.oneC
  turn := by rintro _ _ _ _ _ _ ⟨v, rfl, h⟩ hs; exact ⟨v, rfl, h.turn hs⟩
def Rep.and (r : Rep α) (p : α → Prop) : Rep α where
  es := r.es
  pos := r.pos
  R := fun H K cs x => r.R H K cs x ∧ p x
  len := fun h => r.len h.1
  one := fun h => r.one h.1
  turn := fun h hs => ⟨r.turn h.1 hs, h.2⟩
def tyR : Rep Ty where
  es := 3
  pos := by decide
  R := fun H K cs t => ∃ n, tyRd H K n cs t
  len := by rintro _ _ _ _ ⟨n, h⟩; exact h.len
  one := by
    rintro _ _ _ _ ⟨n, h⟩
    cases n with
    | zero => exact h.elim
    | succ n =>
      obtain ⟨v, css, rfl, h2, _⟩ := h
      intro u hu; simp at hu
      rcases hu with rfl | rfl | rfl
      · rfl
      · rfl
      · exact SlR.oneC h2
  turn := by rintro _ _ _ _ _ _ ⟨n, h⟩ hs; exact ⟨n, h.turn fun v css hv => hv.turn hs⟩
theorem QV {H : Heap} {K : Nat → Prop} {cs : List Value} {t : Ty} (h : tyR.R H K cs t) : ∃ v, cs = [.int .i64 t.kind, .int .i64 t.r, v] ∧ tyR.SR H K v t.l := by
  obtain ⟨n, h⟩ := h
  cases n with
  | zero => exact h.elim
  | succ n =>
    obtain ⟨v, css, h1, h2, h3, h4, h5⟩ := h
    exact ⟨v, h1, css, h2, ⟨h3, fun m x hx => by obtain ⟨d, h6, h7⟩ := h5 m x hx; exact ⟨d, h6, n, h7⟩⟩, h4⟩
theorem Q9n {H : Heap} {K : Nat → Prop} {k r : Int} {v : Value} {l : List Ty} (h : tyR.SR H K v l) : tyR.R H K [.int .i64 k, .int .i64 r, v] (.mk k r l) := by
  obtain ⟨css, h1, h2, h3⟩ := h
  obtain ⟨n, hn⟩ := QmO (xs := List.range l.length) (R := fun n m => ∀ x, l[m]? = some x → ∃ d, css[m]? = some d ∧ tyRd H K n d x) (fun n m i hnm hr x hx => by obtain ⟨d, h1, h2⟩ := hr x hx; exact ⟨d, h1, h2.more hnm⟩) (fun m hm => by
    have hlt := List.mem_range.1 hm
    obtain ⟨d, h4, n, h5⟩ := h2.2 m _ (List.getElem?_eq_getElem hlt)
    exact ⟨n, fun x hx => by rw [List.getElem?_eq_getElem hlt] at hx; cases hx; exact ⟨d, h4, h5⟩⟩)
  exact ⟨n + 1, v, css, rfl, h1, h2.1, h3, fun m x hx => hn m (List.mem_range.2 (List.getElem?_eq_some_iff.1 hx).1) x hx⟩

/-! what is only read -/
abbrev Rep.at (r : Rep α) (c : Cx) (cs : List Value) (x : α) : Prop := r.R c.H0 c.K cs x
abbrev Rep.sl (r : Rep α) (c : Cx) (v : Value) (l : List α) : Prop := r.SR c.H0 c.K v l
abbrev Rep.ls (r : Rep α) (c : Cx) (css : List (List Value)) (l : List α) : Prop := r.LR c.H0 c.K css l
theorem Cx.Le.turn {c c' : Cx} (h : c.Le c') : ∀ b, c.K b → b < c.H0.size → c'.K b ∧ c'.H0[b]? = c.H0[b]? := fun b hb _ => h.K b hb
theorem Rep.R.up {r : Rep α} {c c' : Cx} {cs : List Value} {x : α} (h : r.at c cs x) (hle : c.Le c') : r.at c' cs x := r.turn h hle.turn
theorem Rep.SR.up {r : Rep α} {c c' : Cx} {v : Value} {l : List α} (h : r.sl c v l) (hle : c.Le c') : r.sl c' v l := Rep.SR.turn h hle.turn
theorem Rep.LR.up {r : Rep α} {c c' : Cx} {v : List (List Value)} {l : List α} (h : r.ls c v l) (hle : c.Le c') : r.ls c' v l := Rep.LR.turn h hle.turn
/-- From here on an own list is only read. -/
theorem St.freezeL {r : Rep α} {c : Cx} {w : World} {L : List Res} {T : TypeId} {es : Nat} {v : Value} {css : List (List Value)} {l : List α} (h : St c w (sl T es v css :: L)) (hl : r.ls c css l) (hes : r.es = es) (hm : l.length ≤ 140737488355328) : ∃ c', c.Le c' ∧ St c' w L ∧ r.sl c' v l := by
  subst hes
  obtain ⟨c', h1, h2, h3⟩ := h.freezeS
  exact ⟨c', h1, h2, css, h3, hl.up h1, hm⟩
theorem Rep.SR.ints {c : Cx} {v : Value} {l : List Int} (h : intR.sl c v l) : FzS c 1 v (l.map QmU) := by
  obtain ⟨css, h1, h2, h3⟩ := h
  have : css = l.map QmU := by
    apply List.ext_getElem?
    intro m
    rw [List.getElem?_map]
    rcases Nat.lt_or_ge m l.length with hm | hm
    · obtain ⟨d, h4, h5⟩ := h2.2 m _ (List.getElem?_eq_getElem hm)
      have h5 : d = [_] := h5
      rw [h4, List.getElem?_eq_getElem hm, h5]; rfl
    · rw [List.getElem?_eq_none (by rw [h2.1]; exact hm), List.getElem?_eq_none hm]; rfl
  rw [this] at h1; exact h1
theorem FzS.ints {c : Cx} {v : Value} {l : List Int} (h : FzS c 1 v (l.map QmU)) (hm : l.length ≤ 140737488355328) : intR.sl c v l :=
  ⟨_, h, ⟨by simp, fun m x hx => ⟨QmU x, by rw [List.getElem?_map, hx]; rfl, rfl⟩⟩, hm⟩

section
variable {P : Program} {l : List GO} {Q : QT} {ρ : Env} {w : World} {c : Cx} {L : List Res} {r : Rep α} {xs : List α} {v : Value} {es : Nat}
theorem Q1O {d m : Nat} {x y : Operand} {k : IntKind} (hx : ρ.ev x = v) (hy : ρ.ev y = .int k (m : Int)) (hK : r.sl c v xs) (hes : r.es = es) (hn : m < xs.length)
    (h : ∀ b o cs a, AtK c b o cs → xs[m]? = some a → r.at c cs a → Q3 P l Q (upd ρ d (.pointer (some ⟨b, o, none⟩))) w) : Q3 P (⟨none, .idx d es x y⟩ :: l) Q ρ w := by
  subst hes
  obtain ⟨css, h1, h2, h3⟩ := hK
  obtain ⟨cs, h4, h5⟩ := h2.2 m _ (List.getElem?_eq_getElem hn)
  exact s_idxK (m := m) hx hy h1 h4 fun b o hb => h b o cs _ hb (List.getElem?_eq_getElem hn) h5
theorem Q7 {l : List α} {m : Nat} {x : α} (h : l[m]? = some x) : l.drop m = x :: l.drop (m + 1) := by
  obtain ⟨hm, rfl⟩ := List.getElem?_eq_some_iff.1 h
  exact List.drop_eq_getElem_cons hm
theorem Q3P {l : List α} {m : Nat} {x : α} (h : l[m]? = some x) : l.take (m + 1) = l.take m ++ [x] := by
  rw [List.take_add_one, h]; rfl
theorem Q7H {cs : List Value} {n : Int} (h : intR.at c cs n) : cs = [.int .i64 n] := h
theorem Qet : ∀ {L : List Res} {i : Nat} {a a' : Res}, nth L i = some a → nth (L.set i a') i = some a'
  | [], _, _, _, h => by cases h
  | _ :: _, 0, _, _, _ => rfl
  | _ :: L, i + 1, _, _, h => Qet (L := L) (i := i) h
/-- append of one element that was just built. -/
theorem s_appR1 {T T' d Ts Ts2 Ty nb i k b : Nat} {z : List Value} {x y : Operand} {ds : List Value} {css : List (List Value)} {a : α} (hel : Q2F P Ts = some (T, es, nb, z))
    (hts : ∃ e2, P.underlying Ts2 = some (.slice e2)) (hS : St c w L) (hx : ρ.ev x = v) (hy : ρ.ev y = .slice (some ⟨b, 0, none⟩) 1 1) (hi : nth L i = some (Go.Lir.sl T es v css)) (hk : nth L k = some (blk b T' ds)) (hls : r.ls c css xs) (ha : r.at c ds a) (hes : r.es = es) (hb : (xs.length + 1) * nb ≤ 140737488355328)
    (h : ∀ v' w' css', r.ls c css' (xs ++ [a]) → oneC v' = true → St c w' (L.set i (Go.Lir.sl T es v' css')) → Q3 P l Q (upd ρ d v') w') : Q3 P (⟨none, .raw ⟨some d, .call ⟨.builtin .append, #[x, y], #[Ts, Ts2]⟩, Ty, "", #[], none⟩⟩ :: l) Q ρ w :=
  Qnl hel (.inl hts) hS hx hy hi (hS.srcB hk ((r.len ha).trans hes) (r.one ha)) (by rw [hls.1]; exact hb) fun v' w' hS' => h v' w' _ (hls.push ha) (hS'.oneC (Qet hi)) hS'
/-- append of a list that is read. -/
theorem s_appRK {T d Ts Ts2 Ty nb i : Nat} {z : List Value} {x y : Operand} {v2 : Value} {css : List (List Value)} {ys : List α} (hel : Q2F P Ts = some (T, es, nb, z))
    (hts : ∃ e2, P.underlying Ts2 = some (.slice e2)) (hS : St c w L) (hx : ρ.ev x = v) (hy : ρ.ev y = v2) (hi : nth L i = some (Go.Lir.sl T es v css)) (hls : r.ls c css xs) (hK : r.sl c v2 ys) (hes : r.es = es) (hb : (xs.length + ys.length) * nb ≤ 140737488355328)
    (h : ∀ v' w' css', r.ls c css' (xs ++ ys) → oneC v' = true → St c w' (L.set i (Go.Lir.sl T es v' css')) → Q3 P l Q (upd ρ d v') w') : Q3 P (⟨none, .raw ⟨some d, .call ⟨.builtin .append, #[x, y], #[Ts, Ts2]⟩, Ty, "", #[], none⟩⟩ :: l) Q ρ w := by
  subst hes
  obtain ⟨css2, h1, h2, h3⟩ := hK
  exact Qnl hel (.inl hts) hS hx hy hi (FzS.src h1 hS h2.one) (by rw [hls.1, h2.1]; exact hb) fun v' w' hS' => h v' w' _ (hls.append h2) (hS'.oneC (Qet hi)) hS'
/-- append of an own list. -/
theorem s_appRS {T T2 d Ts Ts2 Ty nb i k : Nat} {z : List Value} {x y : Operand} {v2 : Value} {css css2 : List (List Value)} {ys : List α} (hel : Q2F P Ts = some (T, es, nb, z))
    (hts : ∃ e2, P.underlying Ts2 = some (.slice e2)) (hS : St c w L) (hx : ρ.ev x = v) (hy : ρ.ev y = v2) (hi : nth L i = some (Go.Lir.sl T es v css)) (hk : nth L k = some (Go.Lir.sl T2 es v2 css2)) (hls : r.ls c css xs) (hls2 : r.ls c css2 ys) (hb : (xs.length + ys.length) * nb ≤ 140737488355328)
    (h : ∀ v' w' css', r.ls c css' (xs ++ ys) → oneC v' = true → St c w' (L.set i (Go.Lir.sl T es v' css')) → Q3 P l Q (upd ρ d v') w') : Q3 P (⟨none, .raw ⟨some d, .call ⟨.builtin .append, #[x, y], #[Ts, Ts2]⟩, Ty, "", #[], none⟩⟩ :: l) Q ρ w :=
  Qnl hel (.inl hts) hS hx hy hi (hS.srcS hk hls2.one) (by rw [hls.1, hls2.1]; exact hb) fun v' w' hS' => h v' w' _ (hls.append hls2) (hS'.oneC (Qet hi)) hS'
/-- A call of a function value, without and with what it holds. -/
theorem QoE {d : Nat} {x : Operand} {os : List Operand} {f : FuncId} {args : List Value} {S : Value → World → Prop} (hx : ρ.ev x = .func (.func f) #[] #[]) (hf : Q2E P f = true) (hxs : os.map ρ.ev = args) (hc : Rets P f args w S)
    (h : ∀ v w', S v w' → Q3 P l Q (upd ρ d v) w') : Q3 P (⟨none, .callv (some d) x os⟩ :: l) Q ρ w := by
  unfold Q2E at hf
  rw [Option.any_eq_true] at hf
  obtain ⟨fn, h1, h2⟩ := hf
  rw [Bool.and_eq_true, Bool.not_eq_true'] at h2
  refine Qmy (cap := []) hx h1 h2.1 h2.2 (by rw [hxs, List.append_nil]) hc ?_
  rintro e w' ⟨v, rfl, hv⟩
  exact h v w' hv
theorem Q3E {d : Nat} {x : Operand} {os : List Operand} {f : FuncId} {args cap : List Value} {S : Value → World → Prop} (hx : ρ.ev x = .func (.func f) #[] ⟨cap⟩) (hf : Q2E P f = true) (hxs : os.map ρ.ev ++ cap = args) (hc : Rets P f args w S)
    (h : ∀ v w', S v w' → Q3 P l Q (upd ρ d v) w') : Q3 P (⟨none, .callv (some d) x os⟩ :: l) Q ρ w := by
  unfold Q2E at hf
  rw [Option.any_eq_true] at hf
  obtain ⟨fn, h1, h2⟩ := hf
  rw [Bool.and_eq_true, Bool.not_eq_true'] at h2
  refine Qmy hx h1 h2.1 h2.2 hxs hc ?_
  rintro e w' ⟨v, rfl, hv⟩
  exact h v w' hv
theorem Qm1 {d : Nat} {x : Operand} {b o : Nat} {cs : List Value} {u : Value} (hS : St c w L) (ha : AtK c b o cs) (hx : ρ.ev x = .pointer (some ⟨b, o, none⟩)) (hu : cs[0]? = some u) : gqv P ρ w ⟨none, .load1 d x⟩ u := QkC (j := 0) hS ha hx hu
theorem QiM {d n : Nat} {x : Operand} {b o : Nat} {cs us : List Value} (hS : St c w L) (ha : AtK c b o cs) (hx : ρ.ev x = .pointer (some ⟨b, o, none⟩)) (hu : cs.take n = us) (hl : us.length = n) : gqv P ρ w ⟨none, .loadn d n x⟩ (.agg ⟨us⟩) := QfR (j := 0) hS ha hx hu hl
/-- A whole block is written anew. -/
theorem QoC {n i b T : Nat} {x y : Operand} {cs us : List Value} (hS : St c w L) (hx : ρ.ev x = .pointer (some ⟨b, 0, none⟩)) (hy : ρ.ev y = .agg ⟨us⟩) (hn : us.length = n) (hi : nth L i = some (blk b T cs)) (hc : cs.length = n) (h1 : ∀ u ∈ us, oneC u = true)
    (h : ∀ w', St c w' (L.set i (blk b T us)) → Q3 P l Q ρ w') : Q3 P (⟨none, .storen n x y⟩ :: l) Q ρ w :=
  QlB hS hx hy hn hi (by omega) h1 (by simp; omega) h
theorem Qbe : ∀ {a b : List GO} {Q : QT} {ρ : Env} {w : World}, Q3 P a (Qt (Q3 P b Q) Q) ρ w → Q3 P (a ++ b) Q ρ w
  | [], _, _, _, _, h => h
  | ⟨none, o⟩ :: a, b, Q, ρ, w, h => by
    simp only [List.cons_append, Q3] at h ⊢
    exact Qay (fun ρ w h => Qbe h) (fun e ρ w hn h => by cases e <;> first | exact h | exact absurd rfl hn) h
  | ⟨some (s, b'), o⟩ :: a, b, Q, ρ, w, h => by
    simp only [List.cons_append, Q3] at h ⊢
    split
    · rename_i hw
      rw [if_pos hw] at h
      exact Qay (fun ρ w h => Qbe h) (fun e ρ w hn h => by cases e <;> first | exact h | exact absurd rfl hn) h
    · rename_i hw
      rw [if_neg hw] at h
      exact Qbe h
/-- An assertion between two parts of a row of operations. -/
theorem s_cut {l : List GO} (n : Nat) (J : Env → World → Prop) (ha : Q3 P (l.take n) (Qt J Q) ρ w) (hb : ∀ ρ w, J ρ w → Q3 P (l.drop n) Q ρ w) : Q3 P l Q ρ w := by
  rw [← List.take_append_drop n l]
  exact Qbe (Qcs (Q7D hb fun _ _ _ h => h) ha)
theorem s_lenL {d : Nat} {x : Operand} (hx : ρ.ev x = v) (hK : r.sl c v xs) (h : Q3 P l Q (upd ρ d (.int .i64 xs.length)) w) : Q3 P (⟨none, .len d x⟩ :: l) Q ρ w := by
  obtain ⟨css, h1, h2, h3⟩ := hK
  exact s_lenKn hx h1 h2.1 h
theorem s_subL {d : Nat} {x : Operand} {lo hi mx : Option Operand} {l' h' : Nat} (hx : ρ.ev x = v) (hK : r.sl c v xs) (hes : r.es = es) (hmx : mx = none) (hh : bnd ρ xs.length hi h') (hl : bnd ρ 0 lo l') (h2 : h' ≤ xs.length) (h3 : l' ≤ h')
    (h : ∀ v', r.sl c v' ((xs.take h').drop l') → Q3 P l Q (upd ρ d v') w) : Q3 P (⟨none, .sub d es x lo hi mx⟩ :: l) Q ρ w := by
  subst hes
  obtain ⟨css, h1, g2, g3⟩ := hK
  exact s_subK hx h1 hmx (by rw [g2.1]; exact hh) hl (by rw [g2.1]; exact h2) h3 fun v' hv => h v' ⟨_, hv, g2.sub _ _, by simp; omega⟩
end
end

/-! ### data that came in -/
section
variable {P : Program} {T e : TypeId} {α β : Type}
/-- What a codec reads, seen as a kind of data. -/
def Cod.rep (c : Cod P T α) (r : Rep β) (hs : c.es = r.es) (h : ∀ (H : Heap) cs x, c.rd H cs x → ∃ y, r.R H (· < H.size) cs y) : Cod P T β where
  es := r.es
  rd := fun H cs y => r.R H (· < H.size) cs y
  size := by rw [← hs]; exact c.size
  len := fun _ _ _ h => r.len h
  stay := fun H H' cs x hx hH => r.turn hx fun b hb hlt => by
    have := hH b hlt
    refine ⟨?_, this⟩
    rcases Nat.lt_or_ge b H'.size with h | h
    · exact h
    · rw [Array.getElem?_eq_none h, Array.getElem?_eq_getElem hlt] at this; cases this
  open_ := fun enc w fuel cs y hy hfit => by
    obtain ⟨x, hx⟩ := c.open_ enc w fuel cs y hy hfit
    exact h _ _ _ hx
/-- A list of a kind of data. -/
theorem list_rd {r : Rep α} {n : Nat} {H : Heap} {cs : List Value} {xs : List α} (hn : r.es = n)
    (h : ∃ v css, cs = [v] ∧ SlR H n v (fun _ => True) css ∧ css.length = xs.length ∧ xs.length ≤ 140737488355328 ∧ ∀ (m : Nat) (x : α), xs[m]? = some x → ∃ d, css[m]? = some d ∧ r.R H (· < H.size) d x) : r.list.R H (· < H.size) cs xs := by
  obtain ⟨v, css, rfl, h1, h2, h3, h4⟩ := h
  subst hn
  exact ⟨v, rfl, css, SlR.mono h1 fun b hb _ => hb, ⟨h2, h4⟩, h3⟩
def Cod.listOf (c : Cod P e β) (r : Rep β) (hs : c.es = r.es) (h : ∀ (H : Heap) cs x, c.rd H cs x → r.R H (· < H.size) cs x) (ht : P.underlying T = some (.slice e)) (h1 : P.cellsOf T = 1) (hby : decide (0 < P.bytesOf e) = true) : Cod P T (List β) :=
  Cod.rep (Cod.slice c ht h1 (by rw [hs]; exact r.pos) hby) r.list rfl fun H cs x hx => ⟨x, list_rd hs.symm (by
    obtain ⟨v, css, g1, g2, g3, g4, g5⟩ := hx
    exact ⟨v, css, g1, g2, g3, g4, fun m y hy => by obtain ⟨d, g6, g7⟩ := g5 m y hy; exact ⟨d, g6, h _ _ _ g7⟩⟩)⟩
/-- A kind of data by itself: the codec's reading is the kind's. -/
structure Cod.Of (P : Program) (T : TypeId) {α : Type} (r : Rep α) where
  cod : Cod P T α
  es : cod.es = r.es
  rd : ∀ (H : Heap) cs x, cod.rd H cs x → r.R H (· < H.size) cs x
def Cod.of (c : Cod P T α) (r : Rep β) (hs : c.es = r.es) (h : ∀ (H : Heap) cs x, c.rd H cs x → ∃ y, r.R H (· < H.size) cs y) : Cod.Of P T r := ⟨Cod.rep c r hs h, rfl, fun _ _ _ h => h⟩
def Cod.Of.list {r : Rep α} (c : Cod.Of P e r) (ht : P.underlying T = some (.slice e)) (h1 : P.cellsOf T = 1) (hby : decide (0 < P.bytesOf e) = true) : Cod.Of P T r.list := ⟨Cod.listOf c.cod r c.es c.rd ht h1 hby, rfl, fun _ _ _ h => h⟩
def Cod.Of.int (ht : P.underlying T = some (.int .i64)) (hs : P.cellsOf T = 1) : Cod.Of P T intR := Cod.of (Cod.int .i64 ht hs) intR rfl fun _ _ x h => ⟨x, h.1⟩
def Cod.Of.ty {TL t0 t1 : TypeId} (h0 : fieldAt P T 0 = some (0, 1, t0)) (h1 : fieldAt P T 1 = some (1, 1, t1)) (h2 : fieldAt P T 2 = some (2, 1, TL)) (hi0 : P.underlying t0 = some (.int .i64)) (hi1 : P.underlying t1 = some (.int .i64)) (hT : P.cellsOf T = 3) (hTL : P.underlying TL = some (.slice T)) (hby : decide (0 < P.bytesOf T) = true) : Cod.Of P T tyR :=
  ⟨Cod.ty h0 h1 h2 hi0 hi1 hT hTL hby, rfl, fun _ _ _ h => h⟩
theorem Cod.Of.top {r : Rep α} (c : Cod.Of P T r) {w : World} {cs : List Value} {x : α} (h : c.cod.rd w.heap cs x) : r.at (Cx.top w) cs x := c.rd _ _ _ h
end
end Go.Lir
namespace Go.Lir
def Q2H (b : UInt8) : List Value := [.int .u8 (b.toNat : Int)]
def u8R : Rep UInt8 := Rep.lit (fun b => .int .u8 (b.toNat : Int)) (fun _ => rfl)
theorem u8R_out {c : Cx} {cs : List Value} {b : UInt8} (h : u8R.at c cs b) : cs = [.int .u8 (b.toNat : Int)] := h
theorem u8R_ls {c : Cx} (l : List UInt8) : u8R.ls c (l.map Q2H) l := ⟨by simp, fun m x hx => ⟨Q2H x, by rw [List.getElem?_map, hx]; rfl, rfl⟩⟩
theorem Rep.LR.u8 {r : Rep UInt8} {H : Heap} {K : Nat → Prop} {css : List (List Value)} {l : List UInt8} (hr : r = u8R) (h : r.LR H K css l) : css = l.map Q2H := by
  subst hr
  apply List.ext_getElem?
  intro m
  rw [List.getElem?_map]
  rcases Nat.lt_or_ge m l.length with hm | hm
  · obtain ⟨d, h4, h5⟩ := h.2 m _ (List.getElem?_eq_getElem hm)
    have h5 : d = [_] := h5
    rw [h4, List.getElem?_eq_getElem hm, h5]; rfl
  · rw [List.getElem?_eq_none (by rw [h.1]; exact hm), List.getElem?_eq_none hm]; rfl
section
variable {P : Program} {l : List GO} {Q : QT} {ρ : Env} {w : World} {c : Cx} {L : List Res} {v : Value}
theorem Qmp (s : List UInt8) : (s.map Q2H).flatten = s.map fun b => Value.int .u8 (b.toNat : Int) := by
  induction s with
  | nil => rfl
  | cons b s ih => simp [Q2H, ih]
/-- []byte(s) -/
theorem s_bytes {d src dst e Ty : Nat} {x : Operand} {s : ByteArray} (hs : P.underlying src = some .string) (hd : P.underlying dst = some (.slice e)) (he : P.underlying e = some (.int .u8)) (hS : St c w L) (hx : ρ.ev x = .string s)
    (h : ∀ v' w', St c w' (sl e 1 v' (s.data.toList.map Q2H) :: L) → Q3 P l Q (upd ρ d v') w') : Q3 P (⟨none, .raw ⟨some d, .convert src dst x, Ty, "", #[], none⟩⟩ :: l) Q ρ w := by
  have hr := run_bytes_of_string (P := P) w src dst e s hs hd he
  have hge := grownCap_ge w s.size 0 e
  generalize hcap : grownCap w s.size 0 e = cap at hr hge
  refine QD (v := .slice (some ⟨w.heap.size, 0, none⟩) s.size cap) (w' := w.drew.alloc (.cells (bytesRow s cap) e ((bytesRow s cap).size, (bytesRow s cap).size + 1))) ?_ ?_
  · simp only [execOp, hx, Sem.run_bind, hr, Result.andThen_ok, Sem.run_pure]
  · have hsz : s.data.size = s.size := rfl
    have hrow : (bytesRow s cap).size = cap := by simp [bytesRow]; omega
    refine h _ _ (hS.new (F' := (· = w.heap.size)) ?_ (((Fr.refl NF w).drew').then0 (Qbm w.drew _)) fun b hb => by omega)
    refine ⟨by intro q hq; obtain ⟨b, _, rfl⟩ := List.mem_map.1 hq; rfl, .inr ⟨w.heap.size, 0, cap, (bytesRow s cap).toList, ?_, ?_, ?_, ?_, ?_, fun _ => Iff.rfl⟩⟩
    · have : (List.map Q2H s.data.toList).length = s.size := by rw [List.length_map, Array.length_toList]; rfl
      rw [this]
    · have : (List.map Q2H s.data.toList).length = s.size := by rw [List.length_map, Array.length_toList]; rfl
      rw [this]; exact hge
    · refine ⟨((bytesRow s cap).size, (bytesRow s cap).size + 1), ?_, ?_⟩
      · show (w.heap.push _)[w.heap.size]? = _
        rw [Array.getElem?_push_size]
      · refine ⟨fun i h1 h2 => ?_, by simp⟩
        simp only [Array.length_toList] at *; omega
    · simp [hrow]
    · intro i hi
      rw [Qmp]
      simp only [List.length_map, Array.length_toList, Nat.mul_one] at hi
      rw [Nat.zero_add, Array.getElem?_toList, bytesRow_at s cap i hi, List.getElem?_map, Array.getElem?_toList, Array.getElem?_eq_getElem hi]; rfl
/-- A part of an array that is a value. -/
theorem QlD {d T Ty e n : Nat} {x y : Operand} {k : IntKind} {m : Int} {cs : List Value} {u : Value} (hT : P.underlying T = some (.array n e)) (he : Q6J P e = true) (hsz : Q3n P e = some 1) (hx : ρ.ev x = .agg ⟨cs⟩) (hy : ρ.ev y = .int k m) (h0 : 0 ≤ m) (hm : m < n) (hu : cs[m.toNat]? = some u)
    (h : Q3 P l Q (upd ρ d u) w) : Q3 P (⟨none, .raw ⟨some d, .index T x y, Ty, "", #[], none⟩⟩ :: l) Q ρ w := by
  refine QD (v := u) (w' := w) ?_ h
  simp only [execOp, hx, hy, Instr.index, Sem.run_bind, asIntOf, Sem.run_pure, Result.andThen_ok, Qb P T _ w hT]
  rw [if_pos ⟨h0, hm⟩]
  simp only [Sem.run_bind, QP P e 1 w hsz, Result.andThen_ok, Nat.mul_one, Qnm P e ⟨cs⟩ _ _ w he (by simpa using hu)]
end
end Go.Lir
namespace Go.Lir
set_option linter.unusedVariables false
mutual
/-- typeSize -/
def Ty.size : Ty → Int → Int
  | .mk _ _ l, left => Tys.size l (left - 1)
def Tys.size : List Ty → Int → Int
  | [], left => left
  | x :: l, left => if 0 ≤ left then Tys.size l (x.size left) else left
end
theorem Tys.size_neg : ∀ (l : List Ty) {left : Int}, left < 0 → Tys.size l left = left
  | [], _, _ => by simp [Tys.size]
  | x :: l, left, h => by rw [Tys.size, if_neg (by omega)]
mutual
/-- deep -/
def Ty.deepB : Ty → Int → Bool
  | .mk _ _ l, left => if left < 0 then false else Tys.deepB l (left - 1)
def Tys.deepB : List Ty → Int → Bool
  | [], _ => true
  | x :: l, left => x.deepB left && Tys.deepB l left
end
mutual
/-- DeepOf -/
def Ty.depth : Ty → Int → Int
  | .mk _ _ l, most => Tys.depth l most 0
def Tys.depth : List Ty → Int → Int → Int
  | [], _, n => n
  | x :: l, most, n => if n ≤ most then (if most = 0 then 1 else Tys.depth l most (if n < 1 + x.depth (most - 1) then 1 + x.depth (most - 1) else n)) else n
end
mutual
theorem Ty.depth_iff : ∀ (t : Ty) {most : Int}, 0 ≤ most → (t.depth most ≤ most ↔ t.deepB most = true)
  | .mk _ _ l, most, h => by
    rw [Ty.depth, Ty.deepB, if_neg (by omega), Tys.depth_iff l h]
    exact ⟨fun h => h.2, fun h2 => ⟨h, h2⟩⟩
theorem Tys.depth_iff : ∀ (l : List Ty) {most n : Int}, 0 ≤ most → (Tys.depth l most n ≤ most ↔ n ≤ most ∧ Tys.deepB l (most - 1) = true)
  | [], most, n, h => by rw [Tys.depth, Tys.deepB]; simp
  | x :: l, most, n, h => by
    rw [Tys.depth, Tys.deepB]
    by_cases hn : n ≤ most
    · rw [if_pos hn]
      by_cases h0 : most = 0
      · rw [if_pos h0]
        have : x.deepB (most - 1) = false := by obtain ⟨k, r, l2⟩ := x; rw [Ty.deepB, if_pos (by omega)]
        rw [this]; simp; omega
      · rw [if_neg h0, Tys.depth_iff l h]
        have := Ty.depth_iff x (most := most - 1) (by omega)
        rw [Bool.and_eq_true, ← this]
        constructor
        · rintro ⟨h1, h2⟩; split at h1 <;> exact ⟨by omega, by omega, h2⟩
        · rintro ⟨h1, h2, h3⟩; refine ⟨?_, h3⟩; split <;> omega
    · rw [if_neg hn]
      exact ⟨fun h => absurd h hn, fun h => h.1⟩
end
mutual
/-- Same -/
def Ty.same : Ty → Ty → Bool
  | .mk k r l, .mk k2 r2 l2 => decide (k = k2) && decide (r = r2) && Tys.same l l2
def Tys.same : List Ty → List Ty → Bool
  | [], [] => true
  | x :: l, y :: m => x.same y && Tys.same l m
  | [], _ :: _ => false
  | _ :: _, [] => false
end
mutual
theorem Ty.same_iff : ∀ (t u : Ty), t.same u = true ↔ t = u
  | .mk k r l, .mk k2 r2 l2 => by
    rw [Ty.same, Bool.and_eq_true, Bool.and_eq_true, Tys.same_iff l l2]
    simp only [decide_eq_true_eq, Ty.mk.injEq, and_assoc]
theorem Tys.same_iff : ∀ (l m : List Ty), Tys.same l m = true ↔ l = m
  | [], [] => by simp [Tys.same]
  | x :: l, y :: m => by rw [Tys.same, Bool.and_eq_true, Ty.same_iff x y, Tys.same_iff l m]; simp
  | [], _ :: _ => by simp [Tys.same]
  | _ :: _, [] => by simp [Tys.same]
end
instance : DecidableEq Ty := fun t u => decidable_of_iff _ (Ty.same_iff t u)
mutual
/-- wrong, typeFault -/
def Ty.wrong (fields : Nat) : Ty → Int → Int
  | .mk k r l, regs =>
    if k < 1 ∨ 4 < k then 3 else if k = 1 ∧ r ≠ 0 ∨ k ≠ 3 ∧ 0 < l.length then 4 else if fields < l.length then 2 else if k ≠ 1 ∧ (r < 0 ∨ regs ≤ r) then 1 else Tys.wrong fields l regs
def Tys.wrong (fields : Nat) : List Ty → Int → Int
  | [], _ => 0
  | x :: l, regs => if x.wrong fields regs ≠ 0 then x.wrong fields regs else Tys.wrong fields l regs
end
mutual
/-- Rename -/
def Ty.ren : Ty → List Int → Option Ty
  | .mk k r l, to => if k ≠ 1 ∧ (r < 0 ∨ (to.length : Int) ≤ r ∨ to.getD r.toNat 0 < 0) then none else
    match Tys.ren l to with
    | none => none
    | some m => some (.mk k (if k ≠ 1 then to.getD r.toNat 0 else r) m)
def Tys.ren : List Ty → List Int → Option (List Ty)
  | [], _ => some []
  | x :: l, to => match x.ren to with
    | none => none
    | some y => match Tys.ren l to with
      | none => none
      | some m => some (y :: m)
end
mutual
/-- Two renamings one behind the other are one. -/
theorem Ty.ren_ren {f g h : List Int} (hfg : ∀ i : Nat, i < f.length → 0 ≤ f.getD i 0 ∧ f.getD i 0 < g.length ∧ 0 ≤ g.getD (f.getD i 0).toNat 0 ∧ i < h.length ∧ h.getD i 0 = g.getD (f.getD i 0).toNat 0) :
    ∀ (t u : Ty), t.ren f = some u → ∃ v, u.ren g = some v ∧ t.ren h = some v
  | .mk k r l, u, ht => by
    rw [Ty.ren] at ht
    split at ht
    · cases ht
    · rename_i hc
      cases hl : Tys.ren l f with
      | none => rw [hl] at ht; cases ht
      | some m =>
        rw [hl] at ht
        simp only [Option.some.injEq] at ht
        obtain ⟨m2, h1, h2⟩ := Tys.ren_ren hfg l m hl
        subst ht
        by_cases hk : k = 1
        · refine ⟨.mk k r m2, ?_, ?_⟩
          · rw [Ty.ren, if_neg (by omega), h1]; simp [hk]
          · rw [Ty.ren, if_neg (by omega), h2]; simp [hk]
        · have := hfg r.toNat (by omega)
          refine ⟨.mk k (g.getD (f.getD r.toNat 0).toNat 0) m2, ?_, ?_⟩
          · rw [Ty.ren, if_pos hk, if_neg (by omega), h1]; simp [hk]
          · rw [Ty.ren, if_neg (by omega), h2]; simp only [if_pos hk, this.2.2.2.2]
theorem Tys.ren_ren {f g h : List Int} (hfg : ∀ i : Nat, i < f.length → 0 ≤ f.getD i 0 ∧ f.getD i 0 < g.length ∧ 0 ≤ g.getD (f.getD i 0).toNat 0 ∧ i < h.length ∧ h.getD i 0 = g.getD (f.getD i 0).toNat 0) :
    ∀ (t u : List Ty), Tys.ren t f = some u → ∃ v, Tys.ren u g = some v ∧ Tys.ren t h = some v
  | [], u, ht => by rw [Tys.ren] at ht; cases ht; exact ⟨[], by rw [Tys.ren], by rw [Tys.ren]⟩
  | x :: l, u, ht => by
    rw [Tys.ren] at ht
    cases hx : x.ren f with
    | none => rw [hx] at ht; cases ht
    | some y =>
      rw [hx] at ht
      cases hl : Tys.ren l f with
      | none => rw [hl] at ht; cases ht
      | some m =>
        rw [hl] at ht
        simp only [Option.some.injEq] at ht
        subst ht
        obtain ⟨y2, a1, a2⟩ := Ty.ren_ren hfg x y hx
        obtain ⟨m2, b1, b2⟩ := Tys.ren_ren hfg l m hl
        exact ⟨y2 :: m2, by rw [Tys.ren, a1, b1], by rw [Tys.ren, a2, b2]⟩
end
mutual
/-- What is renamed is as right as it was, if the renaming stays below the number of regions. -/
theorem Ty.ren_wrong {fields : Nat} {f : List Int} (hf : ∀ i : Nat, i < f.length → 0 ≤ f.getD i 0 ∧ f.getD i 0 < f.length) : ∀ (t u : Ty), t.ren f = some u → u.wrong fields f.length = t.wrong fields f.length
  | .mk k r l, u, ht => by
    rw [Ty.ren] at ht
    split at ht
    · cases ht
    · rename_i hc
      cases hl : Tys.ren l f with
      | none => rw [hl] at ht; cases ht
      | some m =>
        rw [hl] at ht
        simp only [Option.some.injEq] at ht
        subst ht
        obtain ⟨h1, h2⟩ := Tys.ren_wrong (fields := fields) hf l m hl
        by_cases hk : k = 1
        · rw [Ty.wrong, Ty.wrong, h1, h2]; simp [hk]
        · have := hf r.toNat (by omega)
          rw [Ty.wrong, Ty.wrong, h1, h2]
          simp only [if_pos hk]
          rw [if_neg (show ¬ (k ≠ 1 ∧ (f.getD r.toNat 0 < 0 ∨ (f.length : Int) ≤ f.getD r.toNat 0)) by omega), if_neg (show ¬ (k ≠ 1 ∧ (r < 0 ∨ (f.length : Int) ≤ r)) by omega)]
          simp [hk]
theorem Tys.ren_wrong {fields : Nat} {f : List Int} (hf : ∀ i : Nat, i < f.length → 0 ≤ f.getD i 0 ∧ f.getD i 0 < f.length) : ∀ (t u : List Ty), Tys.ren t f = some u → u.length = t.length ∧ Tys.wrong fields u f.length = Tys.wrong fields t f.length
  | [], u, ht => by rw [Tys.ren] at ht; cases ht; exact ⟨rfl, rfl⟩
  | x :: l, u, ht => by
    rw [Tys.ren] at ht
    cases hx : x.ren f with
    | none => rw [hx] at ht; cases ht
    | some y =>
      rw [hx] at ht
      cases hl : Tys.ren l f with
      | none => rw [hl] at ht; cases ht
      | some m =>
        rw [hl] at ht
        simp only [Option.some.injEq] at ht
        subst ht
        obtain ⟨h1, h2⟩ := Tys.ren_wrong (fields := fields) hf l m hl
        exact ⟨by simp [h1], by rw [Tys.wrong, Tys.wrong, Ty.ren_wrong hf x y hx, h2]⟩
end
mutual
/-- What cannot be renamed is wrong. -/
theorem Ty.ren_none {fields : Nat} {f : List Int} (hf : ∀ i : Nat, i < f.length → 0 ≤ f.getD i 0) : ∀ (t : Ty), t.ren f = none → t.wrong fields f.length ≠ 0
  | .mk k r l, ht => by
    rw [Ty.wrong]
    rw [Ty.ren] at ht
    split
    · decide
    · split
      · decide
      · split
        · decide
        · split
          · decide
          · rename_i h1 h2 h3 h4
            have hc : ¬ (k ≠ 1 ∧ (r < 0 ∨ (f.length : Int) ≤ r ∨ f.getD r.toNat 0 < 0)) := by
              rintro ⟨a, b⟩
              have := hf r.toNat
              omega
            rw [if_neg hc] at ht
            cases hl : Tys.ren l f with
            | none => exact Tys.ren_none hf l hl
            | some m => rw [hl] at ht; cases ht
theorem Tys.ren_none {fields : Nat} {f : List Int} (hf : ∀ i : Nat, i < f.length → 0 ≤ f.getD i 0) : ∀ (t : List Ty), Tys.ren t f = none → Tys.wrong fields t f.length ≠ 0
  | [], ht => by rw [Tys.ren] at ht; cases ht
  | x :: l, ht => by
    rw [Tys.ren] at ht
    rw [Tys.wrong]
    split
    · rename_i h; exact h
    · rename_i h
      cases hx : x.ren f with
      | none => exact absurd hx (fun hx => h (Ty.ren_none hf x hx))
      | some y =>
        rw [hx] at ht
        cases hl : Tys.ren l f with
        | none => exact Tys.ren_none hf l hl
        | some m => rw [hl] at ht; cases ht
end
mutual
theorem Ty.ren_deep {f : List Int} : ∀ (t u : Ty) (left : Int), t.ren f = some u → u.deepB left = t.deepB left
  | .mk k r l, u, left, ht => by
    rw [Ty.ren] at ht
    split at ht
    · cases ht
    · cases hl : Tys.ren l f with
      | none => rw [hl] at ht; cases ht
      | some m =>
        rw [hl] at ht
        simp only [Option.some.injEq] at ht
        subst ht
        rw [Ty.deepB, Ty.deepB, Tys.ren_deep l m (left - 1) hl]
theorem Tys.ren_deep {f : List Int} : ∀ (t u : List Ty) (left : Int), Tys.ren t f = some u → Tys.deepB u left = Tys.deepB t left
  | [], u, _, ht => by rw [Tys.ren] at ht; cases ht; rfl
  | x :: l, u, left, ht => by
    rw [Tys.ren] at ht
    cases hx : x.ren f with
    | none => rw [hx] at ht; cases ht
    | some y =>
      rw [hx] at ht
      cases hl : Tys.ren l f with
      | none => rw [hl] at ht; cases ht
      | some m =>
        rw [hl] at ht
        simp only [Option.some.injEq] at ht
        subst ht
        rw [Tys.deepB, Tys.deepB, Ty.ren_deep x y left hx, Tys.ren_deep l m left hl]
end
mutual
/-- The renaming that leaves all as it is. -/
theorem Ty.ren_id {f : List Int} (hf : ∀ i : Nat, i < f.length → f.getD i 0 = i) : ∀ (t u : Ty), t.ren f = some u → u = t
  | .mk k r l, u, ht => by
    rw [Ty.ren] at ht
    split at ht
    · cases ht
    · rename_i hc
      cases hl : Tys.ren l f with
      | none => rw [hl] at ht; cases ht
      | some m =>
        rw [hl] at ht
        simp only [Option.some.injEq] at ht
        subst ht
        rw [Tys.ren_id hf l m hl]
        by_cases hk : k = 1
        · simp [hk]
        · have := hf r.toNat (by omega)
          rw [if_pos hk, this, Int.toNat_of_nonneg (by omega)]
theorem Tys.ren_id {f : List Int} (hf : ∀ i : Nat, i < f.length → f.getD i 0 = i) : ∀ (t u : List Ty), Tys.ren t f = some u → u = t
  | [], u, ht => by rw [Tys.ren] at ht; cases ht; rfl
  | x :: l, u, ht => by
    rw [Tys.ren] at ht
    cases hx : x.ren f with
    | none => rw [hx] at ht; cases ht
    | some y =>
      rw [hx] at ht
      cases hl : Tys.ren l f with
      | none => rw [hl] at ht; cases ht
      | some m =>
        rw [hl] at ht
        simp only [Option.some.injEq] at ht
        subst ht
        rw [Ty.ren_id hf x y hx, Tys.ren_id hf l m hl]
end
/-- By the parts. -/
theorem Ty.ind {p : Ty → Prop} (h : ∀ k r l, (∀ x ∈ l, p x) → p (.mk k r l)) : ∀ t, p t
  | .mk k r l => h k r l fun x hx => Ty.ind h x
termination_by t => SizeOf.sizeOf t
decreasing_by
  have := List.sizeOf_lt_of_mem hx
  simp only [Ty.mk.sizeOf_spec]
  omega
mutual
theorem Ty.size_rng : ∀ (t : Ty) {left : Int}, 0 ≤ left → -1 ≤ t.size left ∧ t.size left < left
  | .mk _ _ l, left, h => by
    rw [Ty.size]
    have := Tys.size_rng l (left := left - 1) (by omega)
    omega
theorem Tys.size_rng : ∀ (l : List Ty) {left : Int}, -1 ≤ left → -1 ≤ Tys.size l left ∧ Tys.size l left ≤ left
  | [], left, h => by rw [Tys.size]; omega
  | x :: l, left, h => by
    rw [Tys.size]
    split
    · rename_i h0
      have h1 := Ty.size_rng x h0
      have h2 := Tys.size_rng l (left := x.size left) h1.1
      omega
    · omega
end
mutual
theorem Ty.size_mono : ∀ (t : Ty) {a b : Int}, a ≤ b → -1 ≤ a → t.size a ≤ t.size b
  | .mk _ _ l, a, b, h, ha => by
    rw [Ty.size, Ty.size]
    by_cases h0 : 0 ≤ a
    · exact Tys.size_mono l (by omega) (by omega)
    · rw [Tys.size_neg l (by omega)]
      by_cases hb : 0 ≤ b
      · have := Tys.size_rng l (left := b - 1) (by omega); omega
      · rw [Tys.size_neg l (by omega)]; omega
theorem Tys.size_mono : ∀ (l : List Ty) {a b : Int}, a ≤ b → -1 ≤ a → Tys.size l a ≤ Tys.size l b
  | [], a, b, h, _ => by rw [Tys.size, Tys.size]; exact h
  | x :: l, a, b, h, ha => by
    by_cases h0 : 0 ≤ a
    · rw [Tys.size, Tys.size, if_pos h0, if_pos (by omega)]
      exact Tys.size_mono l (Ty.size_mono x h ha) (Ty.size_rng x h0).1
    · rw [Tys.size_neg _ (by omega)]
      have := Tys.size_rng (x :: l) (left := b) (by omega); omega
end
/-- What is not too great has few parts, and none of them is too great. -/
theorem Tys.size_len : ∀ (l : List Ty) {left : Int}, 0 ≤ Tys.size l left → -1 ≤ left → (l.length : Int) ≤ left ∧ ∀ x ∈ l, 0 ≤ x.size left
  | [], left, h, _ => by rw [Tys.size] at h; simp; exact h
  | x :: l, left, h, hl => by
    rw [Tys.size] at h
    split at h
    · rename_i h0
      have h1 := Ty.size_rng x h0
      have h2 := Tys.size_len l h h1.1
      have h3 := Tys.size_rng l (left := x.size left) h1.1
      refine ⟨by simp only [List.length_cons]; omega, fun y hy => ?_⟩
      rcases List.mem_cons.1 hy with rfl | hy
      · omega
      · exact Int.le_trans (h2.2 y hy) (Ty.size_mono y (by omega) h1.1)
    · omega
/-- Check, TypeFault -/
def Ty.fault (t : Ty) (regs : Int) : Int := if t.deepB 4 = false then 19 else t.wrong 8 regs
mutual
theorem Ty.depth_rng : ∀ (t : Ty) {most : Int}, 0 ≤ most → 0 ≤ t.depth most ∧ t.depth most ≤ most + 1
  | .mk _ _ l, most, h => by
    rw [Ty.depth]
    exact Tys.depth_rng l h (by omega) (by omega)
theorem Tys.depth_rng : ∀ (l : List Ty) {most n : Int}, 0 ≤ most → 0 ≤ n → n ≤ most + 1 → 0 ≤ Tys.depth l most n ∧ Tys.depth l most n ≤ most + 1
  | [], most, n, _, h1, h2 => by rw [Tys.depth]; omega
  | x :: l, most, n, h, h1, h2 => by
    rw [Tys.depth]
    split
    · split
      · omega
      · have := Ty.depth_rng x (most := most - 1) (by omega)
        exact Tys.depth_rng l h (by split <;> omega) (by split <;> omega)
    · omega
end
/-- No list of parts is long. -/
inductive Ty.Short : Ty → Prop where
  | mk {k r : Int} {l : List Ty} : l.length ≤ 100000 → (∀ x ∈ l, x.Short) → Ty.Short (.mk k r l)
theorem Ty.Short.parts {k r : Int} {l : List Ty} (h : (Ty.mk k r l).Short) : l.length ≤ 100000 ∧ ∀ x ∈ l, x.Short := by
  cases h with | mk h1 h2 => exact ⟨h1, h2⟩
theorem Ty.short_of_size : ∀ (t : Ty) {n : Int}, n ≤ 100000 → 0 ≤ n → 0 ≤ t.size n → t.Short := by
  intro t
  induction t using Ty.ind with
  | h k r l ih =>
    intro n h1 h0 h
    rw [Ty.size] at h
    obtain ⟨h2, h3⟩ := Tys.size_len l h (by omega)
    refine .mk (by omega) fun x hx => ?_
    have hp := h3 x hx
    have hl := List.length_pos_of_mem hx
    exact ih x hx (n := n - 1) (by omega) (by omega) hp
/-- GreatType, greatTypes -/
def Ty.great (t : Ty) : Bool := decide (t.size 2000 < 0)
def Tys.great (l : List Ty) : Bool := decide (200 < l.length) || l.any Ty.great
theorem Ty.short_of_great {t : Ty} (h : t.great = false) : t.Short := Ty.short_of_size t (n := 2000) (by omega) (by omega) (by unfold Ty.great at h; simp at h; exact h)
theorem Tys.short_of_great {l : List Ty} (h : Tys.great l = false) : l.length ≤ 200 ∧ ∀ x ∈ l, x.Short := by
  unfold Tys.great at h
  rw [Bool.or_eq_false_iff] at h
  refine ⟨by have := of_decide_eq_false h.1; omega, fun x hx => Ty.short_of_great ?_⟩
  cases hg : x.great with
  | false => rfl
  | true => have := List.any_eq_true.2 ⟨x, hx, hg⟩; rw [h.2] at this; cases this
end Go.Lir
namespace Go.Lir
structure Ins where
  op : Int
  a : Int
  b : Int
  c : Int
  k : Int
  n : Int
  regs : List Int
  args : List Int
structure To where
  block : Int
  regs : List Int
  args : List Int
structure Tail where
  op : Int
  a : Int
  yes : To
  no : To
  args : List Int
structure Block where
  regs : Int
  params : List Ty
  code : List Ins
  fin : Tail
deriving instance DecidableEq for Ins
deriving instance DecidableEq for To
deriving instance DecidableEq for Tail
deriving instance DecidableEq for Block
structure Fun where
  regs : Int
  params : List Ty
  results : List Ty
  blocks : List Block
structure Module where
  funcs : List Fun
deriving instance DecidableEq for Fun
deriving instance DecidableEq for Module

theorem Fun.eq_of {x y : Fun} (h1 : x.regs = y.regs) (h2 : x.params = y.params) (h3 : x.results = y.results) (h4 : x.blocks = y.blocks) : x = y := by
  cases x; cases y; simp_all
/-! ### no list is long -/
def Ins.Short (x : Ins) : Prop := x.regs.length ≤ 100000 ∧ x.args.length ≤ 100000
def To.Short (x : To) : Prop := x.regs.length ≤ 100000 ∧ x.args.length ≤ 100000
def Tail.Short (x : Tail) : Prop := x.yes.Short ∧ x.no.Short ∧ x.args.length ≤ 100000
def Tys.Short (l : List Ty) : Prop := l.length ≤ 100000 ∧ ∀ t ∈ l, t.Short
def Block.Short (x : Block) : Prop := Tys.Short x.params ∧ x.code.length ≤ 100000 ∧ (∀ i ∈ x.code, i.Short) ∧ x.fin.Short
def Fun.Short (x : Fun) : Prop := Tys.Short x.params ∧ Tys.Short x.results ∧ x.blocks.length ≤ 100000 ∧ ∀ b ∈ x.blocks, b.Short
def Module.Short (x : Module) : Prop := x.funcs.length ≤ 100000 ∧ ∀ f ∈ x.funcs, f.Short
theorem Tys.Short.of_great {l : List Ty} (h : Tys.great l = false) : Tys.Short l := by
  have := Tys.short_of_great h
  exact ⟨by omega, this.2⟩
theorem QbM {α : Type} {l : List α} {p : α → Prop} {j : Nat} {x : α} (h : ∀ y ∈ l.take j, p y) (hx : l[j]? = some x) (hp : p x) : ∀ y ∈ l.take (j + 1), p y := by
  intro y hy
  rw [List.take_add_one, hx] at hy
  rcases List.mem_append.1 hy with hy | hy
  · exact h y hy
  · simp at hy; subst hy; exact hp
theorem Qez {α : Type} {l : List α} {p : α → Prop} {j : Nat} (h : ∀ y ∈ l.take j, p y) (hj : l.length ≤ j) : ∀ y ∈ l, p y := by
  rw [List.take_of_length_le hj] at h; exact h
def insR : Rep Ins where
  es := 8
  pos := by decide
  R := fun H K cs x => ∃ vr va, cs = [.int .i64 x.op, .int .i64 x.a, .int .i64 x.b, .int .i64 x.c, .int .i64 x.k, .int .i64 x.n, vr, va] ∧ intR.SR H K vr x.regs ∧ intR.SR H K va x.args
  len := by rintro _ _ _ _ ⟨vr, va, rfl, _⟩; rfl
  one := by
    rintro _ _ _ _ ⟨vr, va, rfl, h1, h2⟩ u hu
    simp at hu
    rcases hu with rfl | rfl | rfl | rfl | rfl | rfl | rfl | rfl <;> first | rfl | exact h1.oneC | exact h2.oneC
  turn := by rintro _ _ _ _ _ _ ⟨vr, va, rfl, h1, h2⟩ hs; exact ⟨vr, va, rfl, h1.turn hs, h2.turn hs⟩
def toR : Rep To where
  es := 3
  pos := by decide
  R := fun H K cs x => ∃ vr va, cs = [.int .i64 x.block, vr, va] ∧ intR.SR H K vr x.regs ∧ intR.SR H K va x.args
  len := by rintro _ _ _ _ ⟨vr, va, rfl, _⟩; rfl
  one := by
    rintro _ _ _ _ ⟨vr, va, rfl, h1, h2⟩ u hu
    simp at hu
    rcases hu with rfl | rfl | rfl <;> first | rfl | exact h1.oneC | exact h2.oneC
  turn := by rintro _ _ _ _ _ _ ⟨vr, va, rfl, h1, h2⟩ hs; exact ⟨vr, va, rfl, h1.turn hs, h2.turn hs⟩
def endR : Rep Tail where
  es := 9
  pos := by decide
  R := fun H K cs x => ∃ v1 v2 v3 v4 v5, cs = [.int .i64 x.op, .int .i64 x.a, .int .i64 x.yes.block, v1, v2, .int .i64 x.no.block, v3, v4, v5] ∧ intR.SR H K v1 x.yes.regs ∧ intR.SR H K v2 x.yes.args ∧ intR.SR H K v3 x.no.regs ∧ intR.SR H K v4 x.no.args ∧ intR.SR H K v5 x.args
  len := by rintro _ _ _ _ ⟨_, _, _, _, _, rfl, _⟩; rfl
  one := by
    rintro _ _ _ _ ⟨_, _, _, _, _, rfl, h1, h2, h3, h4, h5⟩ u hu
    simp at hu
    rcases hu with rfl | rfl | rfl | rfl | rfl | rfl | rfl | rfl | rfl <;> first | rfl | exact h1.oneC | exact h2.oneC | exact h3.oneC | exact h4.oneC | exact h5.oneC
  turn := by rintro _ _ _ _ _ _ ⟨_, _, _, _, _, rfl, h1, h2, h3, h4, h5⟩ hs; exact ⟨_, _, _, _, _, rfl, h1.turn hs, h2.turn hs, h3.turn hs, h4.turn hs, h5.turn hs⟩
def blockR : Rep Block where
  es := 12
  pos := by decide
  R := fun H K cs x => ∃ vp vc ce, cs = .int .i64 x.regs :: vp :: vc :: ce ∧ tyR.SR H K vp x.params ∧ insR.SR H K vc x.code ∧ endR.R H K ce x.fin
  len := by rintro _ _ _ _ ⟨_, _, ce, rfl, _, _, h⟩; have := endR.len h; simp [this, endR]
  one := by
    rintro _ _ _ _ ⟨_, _, ce, rfl, h1, h2, h3⟩ u hu
    simp at hu
    rcases hu with rfl | rfl | rfl | hu
    · rfl
    · exact h1.oneC
    · exact h2.oneC
    · exact endR.one h3 u hu
  turn := by rintro _ _ _ _ _ _ ⟨_, _, _, rfl, h1, h2, h3⟩ hs; exact ⟨_, _, _, rfl, h1.turn hs, h2.turn hs, endR.turn h3 hs⟩
def funcR : Rep Fun where
  es := 4
  pos := by decide
  R := fun H K cs x => ∃ vp vr vb, cs = [.int .i64 x.regs, vp, vr, vb] ∧ tyR.SR H K vp x.params ∧ tyR.SR H K vr x.results ∧ blockR.SR H K vb x.blocks
  len := by rintro _ _ _ _ ⟨_, _, _, rfl, _⟩; rfl
  one := by
    rintro _ _ _ _ ⟨_, _, _, rfl, h1, h2, h3⟩ u hu
    simp at hu
    rcases hu with rfl | rfl | rfl | rfl <;> first | rfl | exact h1.oneC | exact h2.oneC | exact h3.oneC
  turn := by rintro _ _ _ _ _ _ ⟨_, _, _, rfl, h1, h2, h3⟩ hs; exact ⟨_, _, _, rfl, h1.turn hs, h2.turn hs, h3.turn hs⟩
def modR : Rep Module where
  es := 1
  pos := by decide
  R := fun H K cs x => ∃ vf, cs = [vf] ∧ funcR.SR H K vf x.funcs
  len := by rintro _ _ _ _ ⟨_, rfl, _⟩; rfl
  one := by
    rintro _ _ _ _ ⟨_, rfl, h1⟩ u hu
    simp at hu; subst hu; exact h1.oneC
  turn := by rintro _ _ _ _ _ _ ⟨_, rfl, h1⟩ hs; exact ⟨_, rfl, h1.turn hs⟩

theorem Q2p {c : Cx} {cs : List Value} {x : Ins} (h : insR.at c cs x) : ∃ vr va, cs = [.int .i64 x.op, .int .i64 x.a, .int .i64 x.b, .int .i64 x.c, .int .i64 x.k, .int .i64 x.n, vr, va] ∧ intR.sl c vr x.regs ∧ intR.sl c va x.args := h
theorem Q9D {c : Cx} {cs : List Value} {x : To} (h : toR.at c cs x) : ∃ vr va, cs = [.int .i64 x.block, vr, va] ∧ intR.sl c vr x.regs ∧ intR.sl c va x.args := h
theorem Qex {c : Cx} {cs : List Value} {x : Tail} (h : endR.at c cs x) : ∃ v1 v2 v3 v4 v5, cs = [.int .i64 x.op, .int .i64 x.a, .int .i64 x.yes.block, v1, v2, .int .i64 x.no.block, v3, v4, v5] ∧ intR.sl c v1 x.yes.regs ∧ intR.sl c v2 x.yes.args ∧ intR.sl c v3 x.no.regs ∧ intR.sl c v4 x.no.args ∧ intR.sl c v5 x.args := h
theorem Q1B {c : Cx} {cs : List Value} {x : Block} (h : blockR.at c cs x) : ∃ vp vc v1 v2 v3 v4 v5, cs = [.int .i64 x.regs, vp, vc, .int .i64 x.fin.op, .int .i64 x.fin.a, .int .i64 x.fin.yes.block, v1, v2, .int .i64 x.fin.no.block, v3, v4, v5] ∧ tyR.sl c vp x.params ∧ insR.sl c vc x.code ∧ intR.sl c v1 x.fin.yes.regs ∧ intR.sl c v2 x.fin.yes.args ∧ intR.sl c v3 x.fin.no.regs ∧ intR.sl c v4 x.fin.no.args ∧ intR.sl c v5 x.fin.args := by
  obtain ⟨vp, vc, ce, rfl, h1, h2, v1, v2, v3, v4, v5, rfl, h3⟩ := h
  exact ⟨vp, vc, v1, v2, v3, v4, v5, rfl, h1, h2, h3⟩
theorem Qmc {c : Cx} {x : Block} {vp vc v1 v2 v3 v4 v5 : Value} (h1 : tyR.sl c vp x.params) (h2 : insR.sl c vc x.code) (h3 : intR.sl c v1 x.fin.yes.regs) (h4 : intR.sl c v2 x.fin.yes.args) (h5 : intR.sl c v3 x.fin.no.regs) (h6 : intR.sl c v4 x.fin.no.args) (h7 : intR.sl c v5 x.fin.args) :
    blockR.at c [.int .i64 x.regs, vp, vc, .int .i64 x.fin.op, .int .i64 x.fin.a, .int .i64 x.fin.yes.block, v1, v2, .int .i64 x.fin.no.block, v3, v4, v5] x := ⟨vp, vc, _, rfl, h1, h2, v1, v2, v3, v4, v5, rfl, h3, h4, h5, h6, h7⟩
theorem Q1K {c : Cx} {cs : List Value} {x : Fun} (h : funcR.at c cs x) : ∃ vp vr vb, cs = [.int .i64 x.regs, vp, vr, vb] ∧ tyR.sl c vp x.params ∧ tyR.sl c vr x.results ∧ blockR.sl c vb x.blocks := h
theorem Q3G {c : Cx} {cs : List Value} {x : Module} (h : modR.at c cs x) : ∃ vf, cs = [vf] ∧ funcR.sl c vf x.funcs := h

/-! ### codecs -/
section
variable {P : Program} {T : TypeId}
/-- A field as a kind of data. -/
theorem Cod.Of.part {α : Type} {r : Rep α} (c : Cod.Of P T r) {H : Heap} {cs : List Value} {x : α} (h : c.cod.rd H cs x) : r.R H (· < H.size) cs x := c.rd _ _ _ h
def Cod.Of.to {TI TL : TypeId} (ci : Cod.Of P TI intR) (cl : Cod.Of P TL intR.list) (h0 : fieldAt P T 0 = some (0, 1, TI)) (h1 : fieldAt P T 1 = some (1, 1, TL)) (h2 : fieldAt P T 2 = some (2, 1, TL)) (hT : P.cellsOf T = 3) : Cod.Of P T toR :=
  Cod.of (Fld.cod (Fld.more ci.cod h0 (Fld.more cl.cod h1 (Fld.more cl.cod h2 Fld.none))) h0 3 hT) toR rfl fun H cs x h => by
    obtain ⟨hl, g0, g1, g2, _⟩ := h
    match cs, hl with
    | [a, b, c], _ =>
      have e0 : [a] = [_] := ci.part g0
      obtain ⟨v1, e1, s1⟩ := cl.part g1
      obtain ⟨v2, e2, s2⟩ := cl.part g2
      replace e1 : [b] = [v1] := e1
      replace e2 : [c] = [v2] := e2
      simp only [List.cons.injEq, and_true] at e0 e1 e2
      subst e0 e1 e2
      exact ⟨⟨x.1, x.2.1, x.2.2.1⟩, b, c, rfl, s1, s2⟩
def Cod.Of.ins {TI TL TN : TypeId} (ci : Cod.Of P TI intR) (cn : Cod.Of P TN intR) (cl : Cod.Of P TL intR.list) (h0 : fieldAt P T 0 = some (0, 1, TI)) (h1 : fieldAt P T 1 = some (1, 1, TI)) (h2 : fieldAt P T 2 = some (2, 1, TI)) (h3 : fieldAt P T 3 = some (3, 1, TI)) (h4 : fieldAt P T 4 = some (4, 1, TI)) (h5 : fieldAt P T 5 = some (5, 1, TN)) (h6 : fieldAt P T 6 = some (6, 1, TL)) (h7 : fieldAt P T 7 = some (7, 1, TL)) (hT : P.cellsOf T = 8) : Cod.Of P T insR :=
  Cod.of (Fld.cod (Fld.more ci.cod h0 (Fld.more ci.cod h1 (Fld.more ci.cod h2 (Fld.more ci.cod h3 (Fld.more ci.cod h4 (Fld.more cn.cod h5 (Fld.more cl.cod h6 (Fld.more cl.cod h7 Fld.none)))))))) h0 8 hT) insR rfl fun H cs x h => by
    obtain ⟨hl, g0, g1, g2, g3, g4, g5, g6, g7, _⟩ := h
    match cs, hl with
    | [a0, a1, a2, a3, a4, a5, a6, a7], _ =>
      have e0 : [a0] = [_] := ci.part g0
      have e1 : [a1] = [_] := ci.part g1
      have e2 : [a2] = [_] := ci.part g2
      have e3 : [a3] = [_] := ci.part g3
      have e4 : [a4] = [_] := ci.part g4
      have e5 : [a5] = [_] := cn.part g5
      obtain ⟨v1, e6, s1⟩ := cl.part g6
      obtain ⟨v2, e7, s2⟩ := cl.part g7
      replace e6 : [a6] = [v1] := e6
      replace e7 : [a7] = [v2] := e7
      simp only [List.cons.injEq, and_true] at e0 e1 e2 e3 e4 e5 e6 e7
      subst e0 e1 e2 e3 e4 e5 e6 e7
      exact ⟨⟨x.1, x.2.1, x.2.2.1, x.2.2.2.1, x.2.2.2.2.1, x.2.2.2.2.2.1, x.2.2.2.2.2.2.1, x.2.2.2.2.2.2.2.1⟩, _, _, rfl, s1, s2⟩
def Cod.Of.block {TI TL TC TE : TypeId} (ci : Cod.Of P TI intR) (cl : Cod.Of P TL tyR.list) (cc : Cod.Of P TC insR.list) (ce : Cod.Of P TE endR) (h0 : fieldAt P T 0 = some (0, 1, TI)) (h1 : fieldAt P T 1 = some (1, 1, TL)) (h2 : fieldAt P T 2 = some (2, 1, TC)) (h3 : fieldAt P T 3 = some (3, 9, TE)) (hT : P.cellsOf T = 12) : Cod.Of P T blockR :=
  Cod.of (Fld.cod (Fld.more ci.cod h0 (Fld.more cl.cod h1 (Fld.more cc.cod h2 (Fld.more ce.cod h3 Fld.none)))) h0 12 hT) blockR rfl fun H cs x h => by
    obtain ⟨hl, g0, g1, g2, g3, _⟩ := h
    match cs, hl with
    | [a0, a1, a2, a3, a4, a5, a6, a7, a8, a9, a10, a11], _ =>
      have e0 : [a0] = [_] := ci.part g0
      obtain ⟨v1, e1, s1⟩ := cl.part g1
      obtain ⟨v2, e2, s2⟩ := cc.part g2
      have s3 := ce.part g3
      replace e1 : [a1] = _ := e1
      replace e2 : [a2] = _ := e2
      replace s3 : endR.R H (· < H.size) [a3, a4, a5, a6, a7, a8, a9, a10, a11] x.2.2.2.1 := s3
      simp only [List.cons.injEq, and_true] at e0 e1 e2
      subst e0 e1 e2
      exact ⟨⟨x.1, x.2.1, x.2.2.1, x.2.2.2.1⟩, _, _, _, rfl, s1, s2, s3⟩
def Cod.Of.func {TI TL TB : TypeId} (ci : Cod.Of P TI intR) (cl : Cod.Of P TL tyR.list) (cb : Cod.Of P TB blockR.list) (h0 : fieldAt P T 0 = some (0, 1, TI)) (h1 : fieldAt P T 1 = some (1, 1, TL)) (h2 : fieldAt P T 2 = some (2, 1, TL)) (h3 : fieldAt P T 3 = some (3, 1, TB)) (hT : P.cellsOf T = 4) : Cod.Of P T funcR :=
  Cod.of (Fld.cod (Fld.more ci.cod h0 (Fld.more cl.cod h1 (Fld.more cl.cod h2 (Fld.more cb.cod h3 Fld.none)))) h0 4 hT) funcR rfl fun H cs x h => by
    obtain ⟨hl, g0, g1, g2, g3, _⟩ := h
    match cs, hl with
    | [a0, a1, a2, a3], _ =>
      have e0 : [a0] = [_] := ci.part g0
      obtain ⟨v1, e1, s1⟩ := cl.part g1
      obtain ⟨v2, e2, s2⟩ := cl.part g2
      obtain ⟨v3, e3, s3⟩ := cb.part g3
      replace e1 : [a1] = _ := e1
      replace e2 : [a2] = _ := e2
      replace e3 : [a3] = _ := e3
      simp only [List.cons.injEq, and_true] at e0 e1 e2 e3
      subst e0 e1 e2 e3
      exact ⟨⟨x.1, x.2.1, x.2.2.1, x.2.2.2.1⟩, _, _, _, rfl, s1, s2, s3⟩
end
end Go.Lir
namespace Go.Lir
set_option linter.unusedVariables false
/-- What the program makes of a number ahead of writing it. -/
def zigI (n : Int) : Int := bitI .xor .u64 (IntKind.u64.wrap (IntKind.u64.wrap n * 2 ^ (min (1 : Int).toNat IntKind.u64.bits))) (IntKind.u64.wrap (n.fdiv (2 ^ (min (63 : Int).toNat IntKind.i64.bits))))
def zig (n : Int) : Nat := (zigI n).toNat
/-- The low bits first, seven at a time. -/
def leb : Nat → Nat → List UInt8
  | 0, _ => []
  | k + 1, u => if u < 128 then [UInt8.ofNat u] else UInt8.ofNat (u % 128 + 128) :: leb k (u / 128)
theorem Qpn : ∀ (k u : Nat), (leb k u).length ≤ k
  | 0, _ => by simp [leb]
  | k + 1, u => by
    rw [leb]
    split
    · simp
    · have := Qpn k (u / 128)
      simp only [List.length_cons]; omega
def Q6o (n : Int) : List UInt8 := leb 10 (zig n)
def Qnu (l : List Int) : List UInt8 := l.flatMap Q6o
theorem QM (n : Int) : (Q6o n).length ≤ 10 := Qpn 10 _
theorem QiJ : ∀ (l : List Int), (Qnu l).length ≤ 10 * l.length
  | [] => by simp [Qnu]
  | n :: l => by
    have h1 := QM n
    have h2 := QiJ l
    simp only [Qnu, List.flatMap_cons, List.length_append, List.length_cons] at h2 ⊢
    omega
/-- A list of numbers, its length ahead of it. -/
def QmS (l : List Int) : List UInt8 := Q6o l.length ++ Qnu l
mutual
def Ty.bts : Ty → List UInt8
  | .mk k r l => Q6o k ++ (if k ≠ 1 then Q6o r else []) ++ (if k = 3 then Q6o l.length ++ Tys.bts l else [])
def Tys.bts : List Ty → List UInt8
  | [] => []
  | x :: l => x.bts ++ Tys.bts l
end
/-- A list of types, its length ahead of it. -/
def tysB (l : List Ty) : List UInt8 := Q6o l.length ++ Tys.bts l
def To.bts (t : To) : List UInt8 := Q6o t.block ++ QmS t.regs ++ QmS t.args
def Tail.bts (e : Tail) : List UInt8 := Q6o e.op ++ (if e.op = 1 then e.yes.bts else if e.op = 2 then Q6o e.a ++ e.yes.bts ++ e.no.bts else if e.op = 3 then QmS e.args else [])
/-- Which parts an instruction has. -/
def QfV (op : Int) : Nat := if op < 0 ∨ 14 < op then 0 else [0, 64, 11, 0, 1, 33, 9, 11, 3, 3, 7, 1, 0, 1, 56].getD op.toNat 0
def regsB (h : Nat) : Nat → List Int → List UInt8
  | _, [] => []
  | k, n :: l => (if h / 2 ^ k % 2 = 1 then Q6o n else []) ++ regsB h (k + 1) l
def Ins.bts (x : Ins) : List UInt8 := Q6o x.op ++ regsB (QfV x.op) 0 [x.a, x.b, x.c, x.k] ++ (if QfV x.op / 64 % 2 = 1 then Q6o x.n else []) ++ (if QfV x.op / 16 % 2 = 1 then QmS x.regs else []) ++ (if QfV x.op / 32 % 2 = 1 then QmS x.args else [])
end Go.Lir
namespace Go.Lir
set_option linter.unusedVariables false
mutual
def Ty.nodes : Ty → Nat
  | .mk _ _ l => 1 + Tys.nodes l
def Tys.nodes : List Ty → Nat
  | [] => 0
  | x :: l => x.nodes + Tys.nodes l
end
mutual
theorem Ty.size_nodes : ∀ (t : Ty) {n : Int}, 0 ≤ t.size n → t.size n = n - t.nodes
  | .mk k r l, n, h => by
    rw [Ty.size] at h ⊢
    rw [Tys.size_nodes l h, Ty.nodes]
    omega
theorem Tys.size_nodes : ∀ (l : List Ty) {n : Int}, 0 ≤ Tys.size l n → Tys.size l n = n - Tys.nodes l
  | [], n, h => by rw [Tys.size, Tys.nodes]; omega
  | x :: l, n, h => by
    rw [Tys.size] at h ⊢
    by_cases hn : 0 ≤ n
    · rw [if_pos hn] at h ⊢
      have hx : 0 ≤ x.size n := by
        rcases Int.lt_or_le (x.size n) 0 with h1 | h1
        · rw [Tys.size_neg l h1] at h; omega
        · exact h1
      rw [Tys.size_nodes l h, Ty.size_nodes x hx, Tys.nodes]
      omega
    · rw [if_neg hn] at h; omega
end
theorem Ty.nodes_of_great {t : Ty} (h : t.great = false) : t.nodes ≤ 2000 := by
  unfold Ty.great at h
  simp at h
  have := Ty.size_nodes t h
  omega
theorem Tys.nodes_mem : ∀ {l : List Ty} {x : Ty}, x ∈ l → x.nodes ≤ Tys.nodes l
  | y :: l, x, h => by
    rw [Tys.nodes]
    rcases List.mem_cons.1 h with rfl | h
    · omega
    · have := Tys.nodes_mem h; omega
theorem Ty.nodes_pos (t : Ty) : 1 ≤ t.nodes := by obtain ⟨k, r, l⟩ := t; rw [Ty.nodes]; omega
theorem Tys.nodes_len : ∀ (l : List Ty), l.length ≤ Tys.nodes l
  | [] => by simp
  | x :: l => by have := Tys.nodes_len l; have := x.nodes_pos; rw [Tys.nodes, List.length_cons]; omega
end Go.Lir
namespace Go.Lir
set_option linter.unusedVariables false
/-- One bit. -/
def crcStep (c : BitVec 32) : BitVec 32 := (c >>> 1) ^^^ (3988292384#32 &&& -(c &&& 1#32))
def crcN : Nat → BitVec 32 → BitVec 32
  | 0, c => c
  | k + 1, c => crcN k (crcStep c)
/-- One byte. -/
def crcByte (c : BitVec 32) (x : UInt8) : BitVec 32 := crcN 8 (c ^^^ BitVec.ofNat 32 x.toNat)
def crcOf (bs : List UInt8) : BitVec 32 := 4294967295#32 ^^^ bs.foldl crcByte 4294967295#32
section
variable {P : Program} {l : List GO} {Q : QT} {ρ : Env} {w : World}
end
end Go.Lir
namespace Go.Lir
set_option linter.unusedVariables false
def Block.bts (b : Block) : List UInt8 := Q6o b.regs ++ tysB b.params ++ Q6o b.code.length ++ b.code.flatMap Ins.bts ++ b.fin.bts
def Fun.bts (f : Fun) : List UInt8 := Q6o f.regs ++ tysB f.params ++ tysB f.results ++ Q6o f.blocks.length ++ f.blocks.flatMap Block.bts
def Module.body (m : Module) : List UInt8 := [67, 72, 1] ++ Q6o m.funcs.length ++ m.funcs.flatMap Fun.bts
def Ins.Few (x : Ins) : Prop := x.regs.length ≤ 300 ∧ x.args.length ≤ 300
def To.Few (x : To) : Prop := x.regs.length ≤ 300 ∧ x.args.length ≤ 300
def Tail.Few (x : Tail) : Prop := x.yes.Few ∧ x.no.Few ∧ x.args.length ≤ 300
def Block.Few (b : Block) : Prop := Tys.great b.params = false ∧ b.code.length ≤ 200 ∧ (∀ i ∈ b.code, i.Few) ∧ b.fin.Few
def Fun.Few (f : Fun) : Prop := Tys.great f.params = false ∧ Tys.great f.results = false ∧ f.blocks.length ≤ 30 ∧ ∀ b ∈ f.blocks, b.Few
def Module.Few (m : Module) : Prop := m.funcs.length ≤ 20 ∧ ∀ f ∈ m.funcs, f.Few
theorem QnD {α : Type} {f : α → List UInt8} {c : Nat} : ∀ {l : List α}, (∀ x ∈ l, (f x).length ≤ c) → (l.flatMap f).length ≤ l.length * c
  | [], _ => by simp
  | x :: l, h => by
    have h1 := h x (List.mem_cons_self ..)
    have h2 := QnD (l := l) fun y hy => h y (List.mem_cons_of_mem _ hy)
    rw [List.flatMap_cons, List.length_append, List.length_cons, Nat.succ_mul]
    omega
theorem Qm2 {α : Type} {f : α → List UInt8} {c n : Nat} {l : List α} (h : ∀ x ∈ l, (f x).length ≤ c) (hn : l.length ≤ n) : (l.flatMap f).length ≤ n * c :=
  Nat.le_trans (QnD h) (Nat.mul_le_mul_right c hn)
mutual
theorem Ty.bts_len : ∀ (t : Ty), t.bts.length ≤ 30 * t.nodes
  | .mk k r l => by
    have h1 := Tys.bts_len l
    have h2 := QM k
    have h3 := QM r
    have h4 := QM l.length
    rw [Ty.bts, Ty.nodes]
    simp only [List.length_append]
    split <;> split <;> simp only [List.length_append, List.length_nil] <;> omega
theorem Tys.bts_len : ∀ (l : List Ty), (Tys.bts l).length ≤ 30 * Tys.nodes l
  | [] => by simp [Tys.bts]
  | x :: l => by
    have h1 := Ty.bts_len x
    have h2 := Tys.bts_len l
    rw [Tys.bts, Tys.nodes, List.length_append]
    omega
end
theorem Tys.nodes_few : ∀ {l : List Ty}, (∀ x ∈ l, x.nodes ≤ 2000) → Tys.nodes l ≤ 2000 * l.length
  | [], _ => by simp [Tys.nodes]
  | x :: l, h => by
    have h1 := h x (List.mem_cons_self ..)
    have h2 := Tys.nodes_few (l := l) fun y hy => h y (List.mem_cons_of_mem _ hy)
    rw [Tys.nodes, List.length_cons]
    omega
theorem QiZ {l : List Ty} (h : Tys.great l = false) : (tysB l).length ≤ 12000010 := by
  unfold Tys.great at h
  rw [Bool.or_eq_false_iff] at h
  have hl : l.length ≤ 200 := by have := of_decide_eq_false h.1; omega
  have h1 := Tys.bts_len l
  have h2 := Tys.nodes_few (l := l) fun x hx => Ty.nodes_of_great (by have := List.any_eq_false.1 h.2 x hx; simpa using this)
  have h3 := QM l.length
  unfold tysB
  rw [List.length_append]
  omega
theorem Q7r {l : List Int} (h : l.length ≤ 300) : (QmS l).length ≤ 3010 := by
  have h1 := QiJ l
  have h2 := QM l.length
  unfold QmS
  rw [List.length_append]
  omega
theorem To.bts_few {x : To} (h : x.Few) : x.bts.length ≤ 6030 := by
  have h1 := Q7r h.1
  have h2 := Q7r h.2
  have h3 := QM x.block
  unfold To.bts
  simp only [List.length_append]
  omega
theorem Tail.bts_few {x : Tail} (h : x.Few) : x.bts.length ≤ 13000 := by
  have h1 := To.bts_few h.1
  have h2 := To.bts_few h.2.1
  have h3 := Q7r h.2.2
  have h4 := QM x.op
  have h5 := QM x.a
  unfold Tail.bts
  rw [List.length_append]
  split
  · omega
  · split
    · simp only [List.length_append]; omega
    · split
      · omega
      · simp only [List.length_nil]; omega
theorem Ins.bts_few {x : Ins} (h : x.Few) : x.bts.length ≤ 6110 := by
  have h1 := Q7r h.1
  have h2 := Q7r h.2
  have h3 := QM x.op
  have h4 := QM x.n
  have ha := QM x.a
  have hb := QM x.b
  have hc := QM x.c
  have hk := QM x.k
  have h5 : (regsB (QfV x.op) 0 [x.a, x.b, x.c, x.k]).length ≤ 40 := by
    simp only [regsB, List.length_append, List.length_nil]
    split <;> split <;> split <;> split <;> (try simp only [List.length_nil]) <;> omega
  unfold Ins.bts
  simp only [List.length_append]
  split <;> split <;> split <;> (try simp only [List.length_nil]) <;> omega
theorem Block.bts_few {b : Block} (h : b.Few) : b.bts.length ≤ 14000000 := by
  have h1 := QiZ h.1
  have h2 := Qm2 (f := Ins.bts) (c := 6110) (fun x hx => Ins.bts_few (h.2.2.1 x hx)) h.2.1
  have h3 := Tail.bts_few h.2.2.2
  have h4 := QM b.regs
  have h5 := QM b.code.length
  unfold Block.bts
  simp only [List.length_append]
  omega
theorem Fun.bts_few {f : Fun} (h : f.Few) : f.bts.length ≤ 450000000 := by
  have h1 := QiZ h.1
  have h2 := QiZ h.2.1
  have h3 := Qm2 (f := Block.bts) (c := 14000000) (fun x hx => Block.bts_few (h.2.2.2 x hx)) h.2.2.1
  have h4 := QM f.regs
  have h5 := QM f.blocks.length
  unfold Fun.bts
  simp only [List.length_append]
  omega
end Go.Lir
namespace Go.Lir
set_option linter.unusedVariables false
abbrev Flt := Int × Int
/-- The first fault. -/
def orF (a b : Flt) : Flt := if a.1 = 0 ∧ b.1 ≠ 0 then b else a
def mkF (c at' : Int) : Flt := if c = 0 then (0, 0) else (c, at')
theorem Q40 (a b c : Flt) : orF (orF a b) c = orF a (orF b c) := by
  unfold orF
  by_cases h1 : a.1 = 0 <;> by_cases h2 : b.1 = 0 <;> by_cases h3 : c.1 = 0 <;> simp [h1, h2, h3]
theorem Qo1 {a b : Flt} (h : a.1 ≠ 0) : orF a b = a := by unfold orF; rw [if_neg (fun h' => h h'.1)]
theorem Qo0 {a b : Flt} (h : b.1 = 0) : orF a b = a := by unfold orF; rw [if_neg (fun h' => h'.2 h)]
theorem orF_0 {b : Flt} (h : b.1 = 0 → b = (0, 0)) : orF (0, 0) b = b := by
  unfold orF
  by_cases hb : b.1 = 0
  · rw [h hb]; rfl
  · rw [if_pos ⟨rfl, hb⟩]
theorem mkF_0 (at' : Int) : mkF 0 at' = (0, 0) := rfl
theorem mkF_c {c at' : Int} (h : c ≠ 0) : mkF c at' = (c, at') := if_neg h
theorem Q7p (c at' : Int) : (mkF c at').1 = c := by unfold mkF; split <;> simp_all
theorem mkF_z (c at' : Int) : (mkF c at').1 = 0 → mkF c at' = (0, 0) := by rw [Q7p]; rintro rfl; rfl
/-- Two codes at one place: the first that is not 0. -/
def orC (a b : Int) : Int := if a ≠ 0 then a else b
theorem Q2R {g : Flt} {a b at' : Int} : orF (orF g (mkF a at')) (mkF b at') = orF g (mkF (orC a b) at') := by
  rw [Q40]
  congr 1
  unfold orC orF
  by_cases h : a = 0
  · subst h
    by_cases hb : b = 0
    · subst hb; rfl
    · simp [mkF, hb]
  · simp [mkF, h]

/-! which fields an instruction has -/
def fA (op : Int) : Bool := decide (op = 2 ∨ op = 4 ∨ op = 5 ∨ op = 6 ∨ op = 7 ∨ op = 8 ∨ op = 9 ∨ op = 10 ∨ op = 11 ∨ op = 13)
def fB (op : Int) : Bool := decide (op = 2 ∨ op = 7 ∨ op = 8 ∨ op = 9 ∨ op = 10)
def fC (op : Int) : Bool := decide (op = 10)
def fK (op : Int) : Bool := decide (op = 2 ∨ op = 6 ∨ op = 7 ∨ op = 14)
def fN (op : Int) : Bool := decide (op = 1)
def fG (op : Int) : Bool := decide (op = 14)
def fR (op : Int) : Bool := decide (op = 5 ∨ op = 14)
/-- A field that the kind has not is not 0. -/
def Ins.odd (x : Ins) : Prop := (fA x.op = false ∧ x.a ≠ 0) ∨ (fB x.op = false ∧ x.b ≠ 0) ∨ (fC x.op = false ∧ x.c ≠ 0) ∨ (fK x.op = false ∧ x.k ≠ 0) ∨ (fN x.op = false ∧ x.n ≠ 0) ∨ (fG x.op = false ∧ 0 < x.regs.length) ∨ (fR x.op = false ∧ 0 < x.args.length)
instance (x : Ins) : Decidable x.odd := by unfold Ins.odd; infer_instance
/-- What stands behind the form, kind by kind. -/
def Q2u (n : Nat) (x : Ins) : Int :=
  if x.op = 2 then (if x.k < 1 ∨ 9 < x.k then 1 else 0)
  else if x.op = 5 then (if 8 < x.args.length then 2 else 0)
  else if x.op = 6 ∨ x.op = 7 then (if x.k < 0 ∨ 8 ≤ x.k then 1 else 0)
  else if x.op = 14 then (if x.k < 0 ∨ (n : Int) ≤ x.k then 1 else if 6 < x.regs.length ∨ 8 < x.args.length then 2 else 0)
  else 0
def Q1Q (n : Nat) (x : Ins) : Int := if x.op < 1 ∨ 14 < x.op then 3 else if x.odd then 4 else Q2u n x
def Q1J (n : Nat) (t : To) (is : Bool) : Int :=
  if is = false then (if t.block ≠ 0 ∨ 0 < t.regs.length ∨ 0 < t.args.length then 4 else 0)
  else if t.block < 0 ∨ (n : Int) ≤ t.block then 1 else if 16 < t.regs.length ∨ 8 < t.args.length then 2 else 0
def Q2y (n : Nat) (e : Tail) : Int :=
  if e.op < 1 ∨ 3 < e.op then 3
  else if e.op ≠ 2 ∧ e.a ≠ 0 ∨ e.op ≠ 3 ∧ 0 < e.args.length then 4
  else if 8 < e.args.length then 2
  else orC (Q1J n e.yes (decide (e.op ≠ 3))) (Q1J n e.no (decide (e.op = 2)))
def Q58 (regs : Int) : List Ty → Int
  | [] => 0
  | t :: l => orC (t.fault regs) (Q58 regs l)
def QC (l : List Ty) (regs : Int) : Int := if 8 < l.length then 2 else Q58 regs l
def Q45 (f : Nat) : Int := f * 10000 + 9999
def Q4C (f b : Nat) : Int := f * 10000 + b * 100 + 90
def Qn4 (f b : Nat) : Int := f * 10000 + b * 100 + 91
def QpW (f b i : Nat) : Int := f * 10000 + b * 100 + i
/-- The instructions from the i-th on. -/
def Q3h (n f b : Nat) : Nat → List Ins → Flt
  | _, [] => (0, 0)
  | i, x :: l => orF (mkF (Q1Q n x) (QpW f b i)) (Q3h n f b (i + 1) l)
def Q2Z (x : Fun) (b : Nat) (y : Block) : Int :=
  if y.regs < x.regs ∨ 16 < y.regs then 1
  else if QC y.params y.regs ≠ 0 then QC y.params y.regs
  else if b = 0 ∧ (y.regs ≠ x.regs ∨ y.params ≠ x.params) then 9
  else if 40 < y.code.length then 2 else 0
def Q54 (n f : Nat) (x : Fun) (b : Nat) (y : Block) : Flt := orF (mkF (Q2Z x b y) (Q4C f b)) (orF (Q3h n f b 0 y.code) (mkF (Q2y x.blocks.length y.fin) (Qn4 f b)))
def Q21 (n f : Nat) (x : Fun) : Nat → List Block → Flt
  | _, [] => (0, 0)
  | b, y :: l => orF (Q54 n f x b y) (Q21 n f x (b + 1) l)
def Q5w (f : Nat) (x : Fun) : Int :=
  if x.regs < 0 ∨ 6 < x.regs then 1
  else if QC x.params x.regs ≠ 0 then QC x.params x.regs
  else if QC x.results x.regs ≠ 0 then QC x.results x.regs
  else if x.blocks.length < 1 ∨ 12 < x.blocks.length then 2
  else if f = 0 ∧ (0 < x.regs ∨ 0 < x.params.length ∨ ∃ t ∈ x.results, t.kind ≠ 1) then 18 else 0
def Qew (n f : Nat) (x : Fun) : Flt := orF (mkF (Q5w f x) (Q45 f)) (Q21 n f x 0 x.blocks)
def Q42 (n : Nat) : Nat → List Fun → Flt
  | _, [] => (0, 0)
  | f, x :: l => orF (Qew n f x) (Q42 n (f + 1) l)
def Module.fault (m : Module) : Flt := orF (mkF (if m.funcs.length < 1 ∨ 8 < m.funcs.length then 2 else 0) (-1)) (Q42 m.funcs.length 0 m.funcs)
/-! has -/
def hasTab : List ByteArray := [⟨#[]⟩, ⟨#[110]⟩, ⟨#[97, 98, 107]⟩, ⟨#[]⟩, ⟨#[97]⟩, ⟨#[97, 114]⟩, ⟨#[97, 107]⟩, ⟨#[97, 98, 107]⟩, ⟨#[97, 98]⟩, ⟨#[97, 98]⟩, ⟨#[97, 98, 99]⟩, ⟨#[97]⟩, ⟨#[]⟩, ⟨#[97]⟩, ⟨#[107, 103, 114]⟩]
def hasF (op : Int) : ByteArray := if op < 1 ∨ 14 < op then ⟨#[]⟩ else hasTab.getD op.toNat ⟨#[]⟩
def Q1b (s : ByteArray) (c : Nat) : Bool := s.data.toList.any fun b => decide (b.toNat = c)
theorem op_cases {op : Int} (h1 : ¬ op < 1) (h2 : ¬ 14 < op) : op = 1 ∨ op = 2 ∨ op = 3 ∨ op = 4 ∨ op = 5 ∨ op = 6 ∨ op = 7 ∨ op = 8 ∨ op = 9 ∨ op = 10 ∨ op = 11 ∨ op = 12 ∨ op = 13 ∨ op = 14 := by omega
theorem with_all (op : Int) (h : ¬ (op < 1 ∨ 14 < op)) : Q1b (hasF op) 97 = fA op ∧ Q1b (hasF op) 98 = fB op ∧ Q1b (hasF op) 99 = fC op ∧ Q1b (hasF op) 107 = fK op ∧ Q1b (hasF op) 110 = fN op ∧ Q1b (hasF op) 103 = fG op ∧ Q1b (hasF op) 114 = fR op := by
  rcases op_cases (op := op) (by omega) (by omega) with rfl | rfl | rfl | rfl | rfl | rfl | rfl | rfl | rfl | rfl | rfl | rfl | rfl | rfl <;> decide
end Go.Lir
namespace Go.Lir
set_option linter.unusedVariables false
abbrev Got (α : Type) := Except Flt (α × List UInt8)
/-! ### What is read was written so -/
end Go.Lir
namespace Go.Lir
section
variable {P : Program} {l : List GO} {Q : QT} {ρ : Env} {w : World}
theorem Qkg {a b T T' : Nat} {R : Ending → World → Prop} {p o p' o' : Nat} {v v' : Value} (ha : ρ a = .pointer (some ⟨p, o, none⟩)) (hv : Qmn P w ⟨p, o, none⟩ T v) (ha' : ρ b = .pointer (some ⟨p', o', none⟩)) (hv' : Qmn P w ⟨p', o', none⟩ T' v') (h : R (.returned (.tuple #[v, v'])) w) : retQ P [.cell a T, .cell b T'] R .ret ρ w :=
  ⟨_, v, ha, hv, _, v', ha', hv', h⟩
end
end Go.Lir
namespace Go.Lir
def crc4 (c : BitVec 32) : List UInt8 := [UInt8.ofNat c.toNat, UInt8.ofNat (c >>> 8).toNat, UInt8.ofNat (c >>> 16).toNat, UInt8.ofNat (c >>> 24).toNat]
def Module.enc (m : Module) : List UInt8 := m.body ++ crc4 (crcOf m.body)
end Go.Lir
namespace Go.Lir
section
variable {bs : List UInt8} {at0 i u : Nat} {x : UInt8} {X : Got Nat}
end
end Go.Lir
namespace Go.Lir
section
variable {α : Type}
variable {f : List UInt8 → Got α} {N k n0 : Nat} {n : Int} {xs : List α} {r r1 r2 r3 : List UInt8} {a : α} {e : Flt} {X : Got (List α)}
end
end Go.Lir
namespace Go.Lir
section
variable {bs r : List UInt8} {N : Nat} {e : Flt} {l : List Fun}
end
end Go.Lir
namespace Go.Lir
set_option linter.unusedVariables false
section
variable {α β : Type} {M n : Nat}
def Goodp (M : Nat) (f : List UInt8 → Got α) (p : α → Prop) : Prop := ∀ r x r', r.length ≤ M → f r = .ok (x, r') → p x ∧ r'.length ≤ r.length
theorem Goodp.weak {f : List UInt8 → Got α} {p q : α → Prop} (h : Goodp M f p) (hq : ∀ x, p x → q x) : Goodp M f q := fun r x r' h1 h2 => ⟨hq x (h r x r' h1 h2).1, (h r x r' h1 h2).2⟩
end
end Go.Lir
namespace Go.Lir
section
variable {n : Nat} {r r1 r2 r3 r4 : List UInt8} {e : Flt} {op a : Int} {yes no : To} {l : List Int}
variable {h j : Nat} {x : Int × Int × Int × Int} {y : Int} {X : Got (Int × Int × Int × Int)}
end
end Go.Lir
namespace Go.Lir
set_option linter.unusedVariables false
section
variable {α : Type} {n : Nat}
def InI (x : Int) : Prop := -9223372036854775808 ≤ x ∧ x ≤ 9223372036854775807
end
end Go.Lir
namespace Go.Lir
set_option linter.unusedVariables false
def hasB (l : List Bool) (r : Int) : Bool := decide (0 ≤ r) && decide (r < l.length) && l.getD r.toNat false

/-! ### What both answer is the same -/

end Go.Lir
namespace Go.Lir
set_option linter.unusedVariables false
/-- Which regions are held, which values there are. -/
structure JS where
  h : List Bool
  l : List Ty
deriving instance DecidableEq for JS
def ebind {α β : Type} (x : Except Int α) (f : α → Except Int β) : Except Int β := match x with
  | .error e => .error e
  | .ok a => f a
def jput (s : JS) (t : Ty) : Except Int JS := if s.l.length = 80 then .error 2 else .ok ⟨s.h, s.l ++ [t]⟩
def number : Ty := .mk 1 0 []
/-! ### What is true of it -/
theorem jput_ok {s s' : JS} {t : Ty} (h : jput s t = .ok s') : s.l.length ≠ 80 ∧ s'.h = s.h ∧ s'.l = s.l ++ [t] := by
  unfold jput at h
  split at h
  · cases h
  · rename_i hk; cases h; exact ⟨hk, rfl, rfl⟩
/-- How an instruction that is let by changes what is known. -/
structure JStep (x : Ins) (s s' : JS) : Prop where
  len : s.l.length ≤ 80 → s'.l.length ≤ 80
  pre : ∃ more, s'.l = s.l ++ more ∧ (x.op ≠ 14 → more.length ≤ 1) ∧ (x.op = 3 → more.length = 1) ∧ (x.op = 4 → more = [])
  new : x.op = 3 → s'.h = s.h ++ [true] ∧ s.h.length ≠ 16
  free : x.op = 4 → ∃ t, 0 ≤ x.a ∧ s.l[x.a.toNat]? = some t ∧ t.kind = 2 ∧ hasB s.h t.r = true ∧ s'.h = s.h.set t.r.toNat false
  else_ : x.op ≠ 3 → x.op ≠ 4 → s'.h = s.h
section
variable {s : JS} {regs l : List Int} {want : List Ty} {k : Nat} {x c : Int} {u u' t : Ty}
end
section
variable {m : Module} {f : Fun} {s : JS} {x : Ins}
end
section
variable {f : Fun} {s : JS} {t : To} {b : Block} {e : Tail}
end
/-! ### A code that is told is not 0 -/
def NZ {α : Type} (x : Except Int α) : Prop := ∀ c, x = .error c → c ≠ 0
theorem NZ.e {α : Type} {c : Int} (h : c ≠ 0) : NZ (.error c : Except Int α) := fun _ h' => by cases h'; exact h
theorem NZ.o {α : Type} (a : α) : NZ (.ok a : Except Int α) := fun _ h' => by cases h'
theorem NZ.bind {α β : Type} {x : Except Int α} {f : α → Except Int β} (h1 : NZ x) (h2 : ∀ a, x = .ok a → NZ (f a)) : NZ (ebind x f) := by
  cases x with
  | error e => exact fun c h => by cases h; exact h1 _ rfl
  | ok a => exact h2 a rfl
end Go.Lir
namespace Go.Lir
set_option linter.unusedVariables false
/-! ### A module of the right form -/
theorem Qbd {a b : Flt} (h : (orF a b).1 = 0) : a.1 = 0 ∧ b.1 = 0 := by
  unfold orF at h
  split at h
  · rename_i hc; exact absurd h hc.2
  · rename_i hc
    refine ⟨h, ?_⟩
    exact Classical.byContradiction fun hb => hc ⟨h, hb⟩
theorem QbH {n f b : Nat} : ∀ {l : List Ins} {i : Nat}, (Q3h n f b i l).1 = 0 → ∀ x ∈ l, Q1Q n x = 0
  | [], _, _, x, hx => by cases hx
  | y :: l, i, h, x, hx => by
    rw [Q3h] at h
    obtain ⟨h1, h2⟩ := Qbd h
    rw [Q7p] at h1
    rcases List.mem_cons.1 hx with rfl | hx
    · exact h1
    · exact QbH h2 x hx
theorem Q7z {n f : Nat} {x : Fun} : ∀ {l : List Block} {b0 : Nat}, (Q21 n f x b0 l).1 = 0 → ∀ (b : Nat) (y : Block), l[b]? = some y → (Q54 n f x (b0 + b) y).1 = 0
  | [], _, _, b, y, hy => by cases hy
  | z :: l, b0, h, b, y, hy => by
    rw [Q21] at h
    obtain ⟨h1, h2⟩ := Qbd h
    cases b with
    | zero => rw [List.getElem?_cons_zero] at hy; cases hy; exact h1
    | succ b => rw [List.getElem?_cons_succ] at hy; rw [show b0 + (b + 1) = b0 + 1 + b by omega]; exact Q7z h2 b y hy
theorem Q5v {n : Nat} : ∀ {l : List Fun} {f0 : Nat}, (Q42 n f0 l).1 = 0 → ∀ (f : Nat) (x : Fun), l[f]? = some x → (Qew n (f0 + f) x).1 = 0
  | [], _, _, b, y, hy => by cases hy
  | z :: l, b0, h, b, y, hy => by
    rw [Q42] at h
    obtain ⟨h1, h2⟩ := Qbd h
    cases b with
    | zero => rw [List.getElem?_cons_zero] at hy; cases hy; exact h1
    | succ b => rw [List.getElem?_cons_succ] at hy; rw [show b0 + (b + 1) = b0 + 1 + b by omega]; exact Q5v h2 b y hy
theorem Qm3 {m : Module} (h : m.fault.1 = 0) {f : Nat} {x : Fun} (hx : m.funcs[f]? = some x) : Q5w f x = 0 := by
  have h1 := Q5v (Qbd h).2 f x hx
  rw [Nat.zero_add] at h1
  have h2 := (Qbd h1).1
  rwa [Q7p] at h2
theorem QfX {m : Module} (h : m.fault.1 = 0) {f b : Nat} {x : Fun} {y : Block} (hx : m.funcs[f]? = some x) (hy : x.blocks[b]? = some y) : Q2Z x b y = 0 ∧ (∀ i ∈ y.code, Q1Q m.funcs.length i = 0) ∧ Q2y x.blocks.length y.fin = 0 := by
  have h1 := Q5v (Qbd h).2 f x hx
  have h2 := Q7z (Qbd h1).2 b y hy
  obtain ⟨h3, h4⟩ := Qbd h2
  obtain ⟨h5, h6⟩ := Qbd h4
  rw [Q7p] at h3 h6
  rw [Nat.zero_add] at h3
  exact ⟨h3, QbH h5, h6⟩
theorem Qgc {x : Fun} {b : Nat} {y : Block} (h : Q2Z x b y = 0) : x.regs ≤ y.regs ∧ y.regs ≤ 16 ∧ QC y.params y.regs = 0 ∧ (b = 0 → y.regs = x.regs ∧ y.params = x.params) ∧ y.code.length ≤ 40 := by
  unfold Q2Z at h
  split at h
  · cases h
  · rename_i h1
    split at h
    · rename_i h2; exact absurd h h2
    · rename_i h2
      split at h
      · cases h
      · rename_i h3
        split at h
        · cases h
        · refine ⟨by omega, by omega, Classical.not_not.1 h2, fun hb => ?_, by omega⟩
          refine ⟨Classical.byContradiction fun hr => h3 ⟨hb, .inl hr⟩, Classical.byContradiction fun hr => h3 ⟨hb, .inr hr⟩⟩
theorem QfW {f : Nat} {x : Fun} (h : Q5w f x = 0) : 0 ≤ x.regs ∧ x.regs ≤ 6 ∧ QC x.params x.regs = 0 ∧ QC x.results x.regs = 0 ∧ 1 ≤ x.blocks.length ∧ x.blocks.length ≤ 12 := by
  unfold Q5w at h
  split at h
  · cases h
  · rename_i h1
    split at h
    · rename_i h2; exact absurd h h2
    · rename_i h2
      split at h
      · rename_i h3; exact absurd h h3
      · rename_i h3
        split at h
        · cases h
        · exact ⟨by omega, by omega, Classical.not_not.1 h2, Classical.not_not.1 h3, by omega, by omega⟩
theorem orC_z {a b : Int} (h : orC a b = 0) : a = 0 ∧ b = 0 := by
  unfold orC at h
  split at h
  · rename_i h1; exact absurd h h1
  · rename_i h1; exact ⟨Classical.not_not.1 h1, h⟩
theorem Q9C {r : Int} : ∀ {l : List Ty}, Q58 r l = 0 → ∀ t ∈ l, t.fault r = 0
  | [], _, t, ht => by cases ht
  | x :: l, h, t, ht => by
    rw [Q58] at h
    obtain ⟨h1, h2⟩ := orC_z h
    rcases List.mem_cons.1 ht with rfl | ht
    · exact h1
    · exact Q9C h2 t ht
/-! ### What is renamed is short -/
theorem Ty.Short.part {t : Ty} (h : t.Short) : ∀ u ∈ t.l, u.Short := by
  obtain ⟨k, r, l⟩ := t
  exact h.parts.2
/-! ### What stays so -/
structure JGood (s : JS) : Prop where
  n : s.l.length ≤ 80
  h : s.h.length ≤ 16
  s : ∀ t ∈ s.l, t.Short
theorem JGood.put {s s' : JS} {t : Ty} (hg : JGood s) (ht : t.Short) (h : jput s t = .ok s') : JGood s' := by
  obtain ⟨h1, h2, h3⟩ := jput_ok h
  refine ⟨by rw [h3, List.length_append]; have := hg.n; simp only [List.length_cons, List.length_nil]; omega, by rw [h2]; exact hg.h, fun u hu => ?_⟩
  rw [h3] at hu
  rcases List.mem_append.1 hu with hu | hu
  · exact hg.s u hu
  · simp at hu; subst hu; exact ht
/-! ### What was freed -/
/-! ### What is held, as a list -/
end Go.Lir
namespace Go.Lir
set_option linter.unusedVariables false
variable {α : Type}
/-- A kind of data of which more is known. -/
def Rep.an (r : Rep α) (p : α → Prop) : Rep α where
  es := r.es
  pos := r.pos
  R := fun H K cs x => r.R H K cs x ∧ p x
  len := fun h => r.len h.1
  one := fun h => r.one h.1
  turn := fun h hs => ⟨r.turn h.1 hs, h.2⟩
theorem Rep.an_SR {r : Rep α} {p : α → Prop} {H : Heap} {K : Nat → Prop} {v : Value} {l : List α} (h : (r.an p).SR H K v l) : r.SR H K v l ∧ ∀ x ∈ l, p x := by
  obtain ⟨css, h1, ⟨h2, h3⟩, h4⟩ := h
  refine ⟨⟨css, h1, ⟨h2, fun m x hx => ?_⟩, h4⟩, fun x hx => ?_⟩
  · obtain ⟨d, e1, e2⟩ := h3 m x hx; exact ⟨d, e1, e2.1⟩
  · obtain ⟨m, hm⟩ := List.mem_iff_getElem?.1 hx
    obtain ⟨d, e1, e2⟩ := h3 m x hm; exact e2.2
def To.InR (t : To) : Prop := InI t.block ∧ (∀ n ∈ t.regs, InI n) ∧ ∀ n ∈ t.args, InI n
def Ins.InR (x : Ins) : Prop := (InI x.op ∧ InI x.a ∧ InI x.b ∧ InI x.c ∧ InI x.k ∧ InI x.n) ∧ (∀ n ∈ x.regs, InI n) ∧ ∀ n ∈ x.args, InI n
def Tail.InR (x : Tail) : Prop := InI x.op ∧ InI x.a ∧ x.yes.InR ∧ x.no.InR ∧ ∀ n ∈ x.args, InI n
def Block.InR (x : Block) : Prop := InI x.regs ∧ (∀ t ∈ x.params, t.InR) ∧ (∀ i ∈ x.code, i.InR) ∧ x.fin.InR
def Fun.InR (x : Fun) : Prop := InI x.regs ∧ (∀ t ∈ x.params, t.InR) ∧ (∀ t ∈ x.results, t.InR) ∧ ∀ b ∈ x.blocks, b.InR
def Module.InR (m : Module) : Prop := ∀ f ∈ m.funcs, f.InR
section
variable {P : Program} {T e : TypeId}
def Cod.Of.intI (ht : P.underlying T = some (.int .i64)) (hs : P.cellsOf T = 1) : Cod.Of P T (intR.an InI) := Cod.of (Cod.int .i64 ht hs) (intR.an InI) rfl fun _ _ x h => ⟨x, h.1, Qoj h.2⟩
def Cod.Of.tyI {TL t0 t1 : TypeId} (h0 : fieldAt P T 0 = some (0, 1, t0)) (h1 : fieldAt P T 1 = some (1, 1, t1)) (h2 : fieldAt P T 2 = some (2, 1, TL)) (hi0 : P.underlying t0 = some (.int .i64)) (hi1 : P.underlying t1 = some (.int .i64)) (hT : P.cellsOf T = 3) (hTL : P.underlying TL = some (.slice T)) (hby : decide (0 < P.bytesOf T) = true) : Cod.Of P T (tyR.an Ty.InR) :=
  ⟨Cod.tyInt h0 h1 h2 hi0 hi1 hT hTL hby, rfl, fun _ _ _ h => h⟩
def Cod.Of.toI {TI TL : TypeId} (ci : Cod.Of P TI (intR.an InI)) (cl : Cod.Of P TL (intR.an InI).list) (h0 : fieldAt P T 0 = some (0, 1, TI)) (h1 : fieldAt P T 1 = some (1, 1, TL)) (h2 : fieldAt P T 2 = some (2, 1, TL)) (hT : P.cellsOf T = 3) : Cod.Of P T (toR.an To.InR) :=
  Cod.of (Fld.cod (Fld.more ci.cod h0 (Fld.more cl.cod h1 (Fld.more cl.cod h2 Fld.none))) h0 3 hT) (toR.an To.InR) rfl fun H cs x h => by
    obtain ⟨hl, g0, g1, g2, _⟩ := h
    match cs, hl with
    | [a, b, c], _ =>
      obtain ⟨e0, n0⟩ : [a] = [_] ∧ InI _ := ci.part g0
      obtain ⟨v1, e1, s1⟩ := cl.part g1; obtain ⟨s1, q1⟩ := Rep.an_SR s1
      obtain ⟨v2, e2, s2⟩ := cl.part g2; obtain ⟨s2, q2⟩ := Rep.an_SR s2
      replace e1 : [b] = [v1] := e1
      replace e2 : [c] = [v2] := e2
      simp only [List.cons.injEq, and_true] at e0 e1 e2
      subst e0 e1 e2
      exact ⟨⟨x.1, x.2.1, x.2.2.1⟩, ⟨b, c, rfl, s1, s2⟩, n0, q1, q2⟩
def Cod.Of.insI {TI TL TN : TypeId} (ci : Cod.Of P TI (intR.an InI)) (cn : Cod.Of P TN (intR.an InI)) (cl : Cod.Of P TL (intR.an InI).list) (h0 : fieldAt P T 0 = some (0, 1, TI)) (h1 : fieldAt P T 1 = some (1, 1, TI)) (h2 : fieldAt P T 2 = some (2, 1, TI)) (h3 : fieldAt P T 3 = some (3, 1, TI)) (h4 : fieldAt P T 4 = some (4, 1, TI)) (h5 : fieldAt P T 5 = some (5, 1, TN)) (h6 : fieldAt P T 6 = some (6, 1, TL)) (h7 : fieldAt P T 7 = some (7, 1, TL)) (hT : P.cellsOf T = 8) : Cod.Of P T (insR.an Ins.InR) :=
  Cod.of (Fld.cod (Fld.more ci.cod h0 (Fld.more ci.cod h1 (Fld.more ci.cod h2 (Fld.more ci.cod h3 (Fld.more ci.cod h4 (Fld.more cn.cod h5 (Fld.more cl.cod h6 (Fld.more cl.cod h7 Fld.none)))))))) h0 8 hT) (insR.an Ins.InR) rfl fun H cs x h => by
    obtain ⟨hl, g0, g1, g2, g3, g4, g5, g6, g7, _⟩ := h
    match cs, hl with
    | [a0, a1, a2, a3, a4, a5, a6, a7], _ =>
      obtain ⟨e0, n0⟩ : [a0] = [_] ∧ InI _ := ci.part g0
      obtain ⟨e1, n1⟩ : [a1] = [_] ∧ InI _ := ci.part g1
      obtain ⟨e2, n2⟩ : [a2] = [_] ∧ InI _ := ci.part g2
      obtain ⟨e3, n3⟩ : [a3] = [_] ∧ InI _ := ci.part g3
      obtain ⟨e4, n4⟩ : [a4] = [_] ∧ InI _ := ci.part g4
      obtain ⟨e5, n5⟩ : [a5] = [_] ∧ InI _ := cn.part g5
      obtain ⟨v1, e6, s1⟩ := cl.part g6; obtain ⟨s1, q1⟩ := Rep.an_SR s1
      obtain ⟨v2, e7, s2⟩ := cl.part g7; obtain ⟨s2, q2⟩ := Rep.an_SR s2
      replace e6 : [a6] = [v1] := e6
      replace e7 : [a7] = [v2] := e7
      simp only [List.cons.injEq, and_true] at e0 e1 e2 e3 e4 e5 e6 e7
      subst e0 e1 e2 e3 e4 e5 e6 e7
      exact ⟨⟨x.1, x.2.1, x.2.2.1, x.2.2.2.1, x.2.2.2.2.1, x.2.2.2.2.2.1, x.2.2.2.2.2.2.1, x.2.2.2.2.2.2.2.1⟩, ⟨_, _, rfl, s1, s2⟩, ⟨n0, n1, n2, n3, n4, n5⟩, q1, q2⟩
def Cod.Of.endpI {TI TL TT : TypeId} (ci : Cod.Of P TI (intR.an InI)) (cl : Cod.Of P TL (intR.an InI).list) (ct : Cod.Of P TT (toR.an To.InR)) (h0 : fieldAt P T 0 = some (0, 1, TI)) (h1 : fieldAt P T 1 = some (1, 1, TI)) (h2 : fieldAt P T 2 = some (2, 3, TT)) (h3 : fieldAt P T 3 = some (5, 3, TT)) (h4 : fieldAt P T 4 = some (8, 1, TL)) (hT : P.cellsOf T = 9) : Cod.Of P T (endR.an Tail.InR) :=
  Cod.of (Fld.cod (Fld.more ci.cod h0 (Fld.more ci.cod h1 (Fld.more ct.cod h2 (Fld.more ct.cod h3 (Fld.more cl.cod h4 Fld.none))))) h0 9 hT) (endR.an Tail.InR) rfl fun H cs x h => by
    obtain ⟨hl, g0, g1, g2, g3, g4, _⟩ := h
    match cs, hl with
    | [a0, a1, a2, a3, a4, a5, a6, a7, a8], _ =>
      obtain ⟨e0, n0⟩ : [a0] = [_] ∧ InI _ := ci.part g0
      obtain ⟨e1, n1⟩ : [a1] = [_] ∧ InI _ := ci.part g1
      obtain ⟨⟨v1, v2, e2, s1, s2⟩, n2⟩ := ct.part g2
      obtain ⟨⟨v3, v4, e3, s3, s4⟩, n3⟩ := ct.part g3
      obtain ⟨v5, e4, s5⟩ := cl.part g4; obtain ⟨s5, q5⟩ := Rep.an_SR s5
      replace e2 : [a2, a3, a4] = _ := e2
      replace e3 : [a5, a6, a7] = _ := e3
      replace e4 : [a8] = _ := e4
      simp only [List.cons.injEq, and_true] at e0 e1 e2 e3 e4
      obtain ⟨q2, q3, q4⟩ := e2
      obtain ⟨q5, q6, q7⟩ := e3
      subst e0 e1 q2 q3 q4 q5 q6 q7 e4
      exact ⟨⟨x.1, x.2.1, x.2.2.1, x.2.2.2.1, x.2.2.2.2.1⟩, ⟨_, _, _, _, _, rfl, s1, s2, s3, s4, s5⟩, n0, n1, n2, n3, q5⟩
def Cod.Of.blockI {TI TL TC TE : TypeId} (ci : Cod.Of P TI (intR.an InI)) (cl : Cod.Of P TL (tyR.an Ty.InR).list) (cc : Cod.Of P TC (insR.an Ins.InR).list) (ce : Cod.Of P TE (endR.an Tail.InR)) (h0 : fieldAt P T 0 = some (0, 1, TI)) (h1 : fieldAt P T 1 = some (1, 1, TL)) (h2 : fieldAt P T 2 = some (2, 1, TC)) (h3 : fieldAt P T 3 = some (3, 9, TE)) (hT : P.cellsOf T = 12) : Cod.Of P T (blockR.an Block.InR) :=
  Cod.of (Fld.cod (Fld.more ci.cod h0 (Fld.more cl.cod h1 (Fld.more cc.cod h2 (Fld.more ce.cod h3 Fld.none)))) h0 12 hT) (blockR.an Block.InR) rfl fun H cs x h => by
    obtain ⟨hl, g0, g1, g2, g3, _⟩ := h
    match cs, hl with
    | [a0, a1, a2, a3, a4, a5, a6, a7, a8, a9, a10, a11], _ =>
      obtain ⟨e0, n0⟩ : [a0] = [_] ∧ InI _ := ci.part g0
      obtain ⟨v1, e1, s1⟩ := cl.part g1; obtain ⟨s1, q1⟩ := Rep.an_SR s1
      obtain ⟨v2, e2, s2⟩ := cc.part g2; obtain ⟨s2, q2⟩ := Rep.an_SR s2
      obtain ⟨s3, n3⟩ := ce.part g3
      replace e1 : [a1] = _ := e1
      replace e2 : [a2] = _ := e2
      replace s3 : endR.R H (· < H.size) [a3, a4, a5, a6, a7, a8, a9, a10, a11] x.2.2.2.1 := s3
      simp only [List.cons.injEq, and_true] at e0 e1 e2
      subst e0 e1 e2
      exact ⟨⟨x.1, x.2.1, x.2.2.1, x.2.2.2.1⟩, ⟨_, _, _, rfl, s1, s2, s3⟩, n0, q1, q2, n3⟩
def Cod.Of.funcI {TI TL TB : TypeId} (ci : Cod.Of P TI (intR.an InI)) (cl : Cod.Of P TL (tyR.an Ty.InR).list) (cb : Cod.Of P TB (blockR.an Block.InR).list) (h0 : fieldAt P T 0 = some (0, 1, TI)) (h1 : fieldAt P T 1 = some (1, 1, TL)) (h2 : fieldAt P T 2 = some (2, 1, TL)) (h3 : fieldAt P T 3 = some (3, 1, TB)) (hT : P.cellsOf T = 4) : Cod.Of P T (funcR.an Fun.InR) :=
  Cod.of (Fld.cod (Fld.more ci.cod h0 (Fld.more cl.cod h1 (Fld.more cl.cod h2 (Fld.more cb.cod h3 Fld.none)))) h0 4 hT) (funcR.an Fun.InR) rfl fun H cs x h => by
    obtain ⟨hl, g0, g1, g2, g3, _⟩ := h
    match cs, hl with
    | [a0, a1, a2, a3], _ =>
      obtain ⟨e0, n0⟩ : [a0] = [_] ∧ InI _ := ci.part g0
      obtain ⟨v1, e1, s1⟩ := cl.part g1; obtain ⟨s1, q1⟩ := Rep.an_SR s1
      obtain ⟨v2, e2, s2⟩ := cl.part g2; obtain ⟨s2, q2⟩ := Rep.an_SR s2
      obtain ⟨v3, e3, s3⟩ := cb.part g3; obtain ⟨s3, q3⟩ := Rep.an_SR s3
      replace e1 : [a1] = _ := e1
      replace e2 : [a2] = _ := e2
      replace e3 : [a3] = _ := e3
      simp only [List.cons.injEq, and_true] at e0 e1 e2 e3
      subst e0 e1 e2 e3
      exact ⟨⟨x.1, x.2.1, x.2.2.1, x.2.2.2.1⟩, ⟨_, _, _, rfl, s1, s2, s3⟩, n0, q1, q2, q3⟩
def Cod.Of.modI {TF : TypeId} (cf : Cod.Of P TF (funcR.an Fun.InR).list) (h0 : fieldAt P T 0 = some (0, 1, TF)) (hT : P.cellsOf T = 1) : Cod.Of P T (modR.an Module.InR) :=
  Cod.of (Fld.cod (Fld.more cf.cod h0 Fld.none) h0 1 hT) (modR.an Module.InR) rfl fun H cs x h => by
    obtain ⟨hl, g0, _⟩ := h
    match cs, hl with
    | [a0], _ =>
      obtain ⟨v1, e1, s1⟩ := cf.part g0; obtain ⟨s1, q1⟩ := Rep.an_SR s1
      replace e1 : [a0] = _ := e1
      simp only [List.cons.injEq, and_true] at e1
      subst e1
      exact ⟨⟨x.1⟩, ⟨_, rfl, s1⟩, q1⟩
end
/-! ### of the right form: read as written -/
theorem Qdm {fields : Nat} {n : Int} : ∀ {l : List Ty}, Tys.wrong fields l n = 0 → ∀ t ∈ l, t.wrong fields n = 0
  | [], _, t, ht => by cases ht
  | x :: l, h, t, ht => by
    rw [Tys.wrong] at h
    split at h
    · rename_i h0; exact absurd h h0
    · rename_i h0
      rcases List.mem_cons.1 ht with rfl | ht
      · exact Classical.not_not.1 h0
      · exact Qdm h t ht
theorem Ty.wrong_parts {k r n : Int} {l : List Ty} {fields : Nat} (h : (Ty.mk k r l).wrong fields n = 0) : (1 ≤ k ∧ k ≤ 4) ∧ (k = 1 → r = 0) ∧ (k ≠ 3 → l.length = 0) ∧ l.length ≤ fields ∧ ∀ t ∈ l, t.wrong fields n = 0 := by
  rw [Ty.wrong] at h
  split at h; · cases h
  split at h; · cases h
  split at h; · cases h
  split at h; · cases h
  exact ⟨by omega, by omega, by omega, by omega, Qdm h⟩
theorem QkJ : ∀ {l : List Ty} {left : Int}, Tys.deepB l left = true → ∀ t ∈ l, t.deepB left = true
  | [], _, _, t, ht => by cases ht
  | x :: l, left, h, t, ht => by
    rw [Tys.deepB, Bool.and_eq_true] at h
    rcases List.mem_cons.1 ht with rfl | ht
    · exact h.1
    · exact QkJ h.2 t ht
/-! ### few parts are short lists -/
end Go.Lir
namespace Go.Proofs.YtjecflbbcnocdaaGreatDoor
open Go.Lir
def Qoe : Cod.Of Tryz.prog 3 (intR.an InI) := Cod.Of.intI (by kernel_rfl) (by kernel_rfl)
def cLongI : Cod.Of Tryz.prog 2 (intR.an InI) := Cod.Of.intI (by kernel_rfl) (by kernel_rfl)
def QpO : Cod.Of Tryz.prog 46 (intR.an InI).list := Cod.Of.list Qoe (by kernel_rfl) (by kernel_rfl) (by kernel_rfl)
def cTyI : Cod.Of Tryz.prog 91 (tyR.an Ty.InR) := Cod.Of.tyI (TL := 40) (t0 := 3) (t1 := 3) (by kernel_rfl) (by kernel_rfl) (by kernel_rfl) (by kernel_rfl) (by kernel_rfl) (by kernel_rfl) (by kernel_rfl) (by kernel_rfl)
def cTysI : Cod.Of Tryz.prog 40 (tyR.an Ty.InR).list := Cod.Of.list cTyI (by kernel_rfl) (by kernel_rfl) (by kernel_rfl)
def cInsI : Cod.Of Tryz.prog 54 (insR.an Ins.InR) := Cod.Of.insI Qoe cLongI QpO (by kernel_rfl) (by kernel_rfl) (by kernel_rfl) (by kernel_rfl) (by kernel_rfl) (by kernel_rfl) (by kernel_rfl) (by kernel_rfl) (by kernel_rfl)
def cInssI : Cod.Of Tryz.prog 45 (insR.an Ins.InR).list := Cod.Of.list cInsI (by kernel_rfl) (by kernel_rfl) (by kernel_rfl)
def cToI : Cod.Of Tryz.prog 48 (toR.an To.InR) := Cod.Of.toI Qoe QpO (by kernel_rfl) (by kernel_rfl) (by kernel_rfl) (by kernel_rfl)
def cEndI : Cod.Of Tryz.prog 50 (endR.an Tail.InR) := Cod.Of.endpI Qoe QpO cToI (by kernel_rfl) (by kernel_rfl) (by kernel_rfl) (by kernel_rfl) (by kernel_rfl) (by kernel_rfl)
def cBlockI : Cod.Of Tryz.prog 52 (blockR.an Block.InR) := Cod.Of.blockI Qoe cTysI cInssI cEndI (by kernel_rfl) (by kernel_rfl) (by kernel_rfl) (by kernel_rfl) (by kernel_rfl)
def cBlocksI : Cod.Of Tryz.prog 41 (blockR.an Block.InR).list := Cod.Of.list cBlockI (by kernel_rfl) (by kernel_rfl) (by kernel_rfl)
def cFuncI : Cod.Of Tryz.prog 43 (funcR.an Fun.InR) := Cod.Of.funcI Qoe cTysI cBlocksI (by kernel_rfl) (by kernel_rfl) (by kernel_rfl) (by kernel_rfl) (by kernel_rfl)
def cFuncsI : Cod.Of Tryz.prog 22 (funcR.an Fun.InR).list := Cod.Of.list cFuncI (by kernel_rfl) (by kernel_rfl) (by kernel_rfl)
def cModI : Cod.Of Tryz.prog 24 (modR.an Module.InR) := Cod.Of.modI cFuncsI (by kernel_rfl) (by kernel_rfl)
end Go.Proofs.YtjecflbbcnocdaaGreatDoor
namespace Go.Lir

/-! ### A call that returns, or panics with one value -/

def Fins (P : Program) (f : FuncId) (args : List Value) (w : World) (S T : Value → World → Prop) : Prop :=
  Calls P f ⟨args⟩ w fun e w' => (∃ v, e = .returned v ∧ S v w') ∨ (∃ v, e = .panicked [{ v := v, recovered := false }] ∧ T v w')

theorem Fins.mono {P : Program} {f : FuncId} {args : List Value} {w : World} {S S' T T' : Value → World → Prop} (h : Fins P f args w S T) (hs : ∀ v w', S v w' → S' v w') (ht : ∀ v w', T v w' → T' v w') : Fins P f args w S' T' :=
  Calls.mono h fun _ _ h => h.elim (fun ⟨v, he, hv⟩ => .inl ⟨v, he, hs _ _ hv⟩) (fun ⟨v, he, hv⟩ => .inr ⟨v, he, ht _ _ hv⟩)
theorem Rets.ends {P : Program} {f : FuncId} {args : List Value} {w : World} {S T : Value → World → Prop} (h : Rets P f args w S) : Fins P f args w S T :=
  Calls.mono h fun _ _ h => .inl h
section
variable {P : Program} {l : List GO} {Q : QT} {ρ : Env} {w : World}
theorem Qnj {d : Nat} {f : FuncId} {xs : List Operand} {args : List Value} {S T : Value → World → Prop} (hxs : xs.map ρ.ev = args) (hc : Fins P f args w S T)
    (hp : ∀ v w', T v w' → Q (.panic [{ v := v, recovered := false }]) ρ w') (h : ∀ v w', S v w' → Q3 P l Q (upd ρ d v) w') : Q3 P (⟨none, .call (some d) f xs⟩ :: l) Q ρ w := by
  subst hxs
  refine Calls.mono hc fun e w' h' => ?_
  rcases h' with ⟨v, he, hs⟩ | ⟨v, he, hs⟩
  · subst he; exact h v w' hs
  · subst he; exact hp v w' hs
theorem s_mkb {d : Nat} {Ty : TypeId} {f : FuncId} {fs : Array Operand} {u : List Value} (hu : fs.toList.map ρ.ev = u) (h : Q3 P l Q (upd ρ d (.func (.func f) ⟨u⟩ #[])) w) : Q3 P (⟨none, .raw ⟨some d, .makeFunc (.func f) fs #[], Ty, "", #[], none⟩⟩ :: l) Q ρ w := by
  subst hu
  have e : (⟨fs.toList.map ρ.ev⟩ : Array Value) = fs.map ρ.ev := by apply Array.ext'; simp
  show Q65 P ⟨some d, .makeFunc (.func f) fs #[], Ty, "", #[], none⟩ ρ w (Q3 P l Q) Q
  refine QD (v := .func (.func f) ⟨fs.toList.map ρ.ev⟩ #[]) (w' := w) ?_ (by exact h)
  rw [e]
  simp [execOp, Instr.makeFunc]
/-- A function value, with what it is called with if nothing else is. -/
def FnV (fv : Value) (g : FuncId) (args : List Value) : Prop := ∃ a b, fv = .func (.func g) ⟨a⟩ ⟨b⟩ ∧ args = a ++ b
theorem QoK {d : Nat} {x : Operand} {fv : Value} {f : FuncId} {args : List Value} {S T : Value → World → Prop} (hx : ρ.ev x = fv) (hv : FnV fv f args) (hf : Q2E P f = true) (hc : Fins P f args w S T)
    (hp : ∀ v w', T v w' → Q (.panic [{ v := v, recovered := false }]) ρ w') (h : ∀ v w', S v w' → Q3 P l Q (upd ρ d v) w') : Q3 P (⟨none, .callv (some d) x []⟩ :: l) Q ρ w := by
  unfold Q2E at hf
  rw [Option.any_eq_true] at hf
  obtain ⟨fn, h1, h2⟩ := hf
  rw [Bool.and_eq_true, Bool.not_eq_true'] at h2
  obtain ⟨a, b, rfl, rfl⟩ := hv
  refine ⟨f, ⟨a⟩, ⟨b⟩, fn, hx, h1, h2.1, h2.2, ?_⟩
  have : (Array.mk a ++ Array.mk (List.map ρ.ev []) ++ Array.mk b : Array Value) = ⟨a ++ b⟩ := by simp
  rw [this]
  refine Calls.mono hc fun e w' h' => ?_
  rcases h' with ⟨v, rfl, hs⟩ | ⟨v, rfl, hs⟩
  · exact h v w' hs
  · exact hp v w' hs
theorem Qk {K : KT} {ch : List PanicEntry} (h : Q (.panic ch) ρ w) : Qt K Q (.panic ch) ρ w := h
theorem Ql {id : Nat} {ch : List PanicEntry} (h : Q (.panic ch) ρ w) : QA id Q (.panic ch) ρ w := h
theorem Qw {rs : List ResultVar} {R : Ending → World → Prop} {ch : List PanicEntry} (h : R (.panicked ch) w) : retQ P rs R (.panic ch) ρ w := h
theorem QoF {d : Option Nat} {x : Operand} {Ty T : TypeId} {v : Value} (hx : ρ.ev x = .iface T v) (h : Q (.panic [{ v := .iface T v, recovered := false }]) ρ w) : Q3 P (⟨none, .raw ⟨d, .panic x, Ty, "", #[], none⟩⟩ :: l) Q ρ w := by
  refine (?_ : Q65 P _ ρ w _ Q)
  unfold Q65
  have e : (execOp ρ.ev ⟨d, .panic x, Ty, "", #[], none⟩).run P w = .halt (.panic (.iface T v)) w := by
    simp [execOp, Instr.panic, hx, goPanic, Sem.run]
  rw [e]; exact h
theorem s_assert {d : Nat} {x : Operand} {Ty T xT : TypeId} {v : Value} {D : TypeDesc} (hd : P.underlying T = some D) (hi : ∀ m, D ≠ .interface m) (hx : ρ.ev x = .iface T v)
    (h : Q3 P l Q (upd ρ d (.tuple #[v, .bool true])) w) : Q3 P (⟨none, .raw ⟨some d, .typeAssert x xT T true, Ty, "", #[], none⟩⟩ :: l) Q ρ w := by
  refine QD (v := .tuple #[v, .bool true]) (w' := w) ?_ h
  simp only [execOp, Instr.typeAssert, hx, Sem.run_bind, Qb P T D w hd, Result.andThen_ok]
  cases D <;> first | (exact absurd rfl (hi _)) | simp
end

/-! ### Deferred calls: lowered code in which one is put off -/

inductive LSp where
  | dfr (d : Option Nat) (x : Operand)
  | rcv (d : Option Nat)

inductive LD where
  | pl (c : LC)
  | seq (a b : LD)
  | sp (l1 : List GO) (o : LSp) (l2 : List GO)

def spOf (o : Oper) : Option LSp := match o.guard, o.op with
  | none, .defer ⟨.value x, xs, _⟩ => if xs.size = 0 then some (.dfr o.dst x) else none
  | none, .call ⟨.builtin .recover, xs, _⟩ => if xs.size = 0 then some (.rcv o.dst) else none
  | _, _ => none
def hasSp : Code → Bool
  | .seq a b => hasSp a || hasSp b
  | .region _ ops _ => ops.toList.any fun o => (spOf o).isSome
  | _ => false
def QeZ : List Oper → Option (List Oper × Oper × LSp × List Oper)
  | [] => none
  | o :: r => match spOf o with
    | some s => some ([], o, s, r)
    | none => (QeZ r).map fun p => (o :: p.1, p.2)
def lowD (P : Program) (n : Nat) : Code → LD
  | .seq a b => if hasSp a || hasSp b then .seq (lowD P n a) (lowD P n b) else .pl (Q3w P n (.seq a b))
  | .region id ops false => match QeZ ops.toList with
    | some (l1, o, s, l2) => if ops.toList.all (okG n ops) then .sp (l1.map (Q2S P ops)) s (l2.map (Q2S P ops)) else .pl .bad
    | none => .pl (Q3w P n (.region id ops false))
  | c => .pl (Q3w P n c)
def Qo5 (P : Program) (fn : Func) : Option LD := fn.body.map (lowD P fn.ntmps)

def LD.wpD (P : Program) : LD → (List Deferred → QT) → List Deferred → Env → World → Prop
  | .pl c, Q, ds, ρ, w => c.wp P (Q ds) ρ w
  | .seq a b, Q, ds, ρ, w => a.wpD P (fun ds' => Qt (b.wpD P Q ds') (Q ds')) ds ρ w
  | .sp l1 (.dfr d x) l2, Q, ds, ρ, w => Q3 P l1 (Qt (fun ρ w => ∃ f cap, ρ.ev x = .func (.func f) #[] cap ∧ Q3 P l2 (Q (⟨.fn (.func f) cap, #[]⟩ :: ds)) (updo ρ d undef) w) (Q ds)) ρ w
  | _, _, _, _, _ => False

theorem Q6G : ∀ {ops l1 l2 : List Oper} {o : Oper} {s : LSp}, QeZ ops = some (l1, o, s, l2) → ops = l1 ++ o :: l2 ∧ spOf o = some s
  | [], _, _, _, _, h => by simp [QeZ] at h
  | o' :: r, l1, l2, o, s, h => by
    rw [QeZ] at h
    cases hs : spOf o' with
    | some s' =>
      simp only [hs, Option.some.injEq, Prod.mk.injEq] at h
      obtain ⟨rfl, rfl, rfl, rfl⟩ := h
      exact ⟨rfl, hs⟩
    | none =>
      simp only [hs, Option.map_eq_some_iff] at h
      obtain ⟨⟨a, b, c, d⟩, h1, h2⟩ := h
      simp only [Prod.mk.injEq] at h2
      obtain ⟨rfl, rfl, rfl, rfl⟩ := h2
      obtain ⟨h3, h4⟩ := Q6G h1
      exact ⟨by rw [h3]; rfl, h4⟩

theorem QbV {P : Program} {o : Oper} {a : Act} {K K' : Act → World → Prop} {Q Q' : Exit → Act → World → Prop} (hk : ∀ a w, K a w → K' a w) (hp : ∀ ch a w, Q (.panic ch) a w → Q' (.panic ch) a w) (ho : LetsOut Q → LetsOut Q') (r : Result Next) (h : o.upon P a K Q r) : o.upon P a K' Q' r := by
  cases r with
  | ok n w =>
    cases n <;> first | exact hk _ _ h | exact h | skip
    · refine Calls.mono h fun e w h => ?_
      cases e <;> first | exact hk _ _ h | exact hp _ _ _ h | exact ho h
    · exact Rows.mono h fun v w h => hk _ _ h
  | halt x w => cases x <;> first | exact hp _ _ _ h | exact h

theorem Q49 {P : Program} {ops : Array Oper} {Q : Exit → Act → World → Prop} {l2 : List Nat} : ∀ (l1 : List Nat) (a : Act) (w : World),
    wpOps P ops (Exit.then (wpOps P ops Q l2) Q) l1 a w → wpOps P ops Q (l1 ++ l2) a w
  | [], a, w, h => h
  | i :: l1, a, w, h => by
    simp only [List.cons_append, wpOps] at h ⊢
    cases ho : ops[i]? with
    | none => simp only [ho] at h ⊢; exact Q49 l1 a w h
    | some o =>
      simp only [ho] at h ⊢
      split
      · rename_i hw
        rw [if_pos hw] at h
        rcases h with h | ⟨h1, h2⟩
        · exact .inl (QbV (fun a w h => Q49 l1 a w h) (fun ch a w h => h) (fun h => h) _ h)
        · exact .inr ⟨h1, h2⟩
      · rename_i hw
        rw [if_neg hw] at h
        exact Q49 l1 _ w h
theorem Q3N {P : Program} {ops : Array Oper} {Q Q' : Exit → Act → World → Prop} (hq : ∀ e a w, Q e a w → Q' e a w) : ∀ (l : List Nat) (a : Act) (w : World), wpOps P ops Q l a w → wpOps P ops Q' l a w
  | [], a, w, h => hq _ _ _ h
  | i :: l, a, w, h => by
    simp only [wpOps] at h ⊢
    have ho' : LetsOut Q → LetsOut Q' := fun ⟨a, w, h⟩ => ⟨a, w, hq _ _ _ h⟩
    cases ho : ops[i]? with
    | none => simp only [ho] at h ⊢; exact Q3N hq l a w h
    | some o =>
      simp only [ho] at h ⊢
      split
      · rename_i hw
        rw [if_pos hw] at h
        rcases h with h | ⟨h1, h2⟩
        · exact .inl (QbV (fun a w h => Q3N hq l a w h) (fun ch a w h => hq _ _ _ h) ho' _ h)
        · exact .inr ⟨h1, ho' h2⟩
      · rename_i hw
        rw [if_neg hw] at h
        exact Q3N hq l _ w h

def liftD (n : Nat) (Q : List Deferred → QT) : Exit → Act → World → Prop := fun e a w => ∃ ds, QlV n ds (Q ds) e a w

theorem QlO {α : Type} {ops l1 l2 : List α} {o : α} (h : ops = l1 ++ o :: l2) : List.range ops.length = List.range l1.length ++ l1.length :: (List.range l2.length).map (l1.length + 1 + ·) := by
  subst h
  apply List.ext_getElem
  · simp
  · intro i h1 h2
    rw [List.getElem_range]
    rcases Nat.lt_trichotomy i l1.length with h | h | h
    · rw [List.getElem_append_left (by simpa using h), List.getElem_range]
    · subst h; rw [List.getElem_append_right (by simp)]; simp
    · rw [List.getElem_append_right (by simpa using Nat.le_of_lt h)]
      simp only [List.length_range]
      rw [List.getElem_cons]
      rw [dif_neg (by omega), List.getElem_map, List.getElem_range]; omega
theorem Qow {α β : Type} {ops l1 l2 : List α} {o : α} (g : α → β) (h : ops = l1 ++ o :: l2) : ((List.range l2.length).map (l1.length + 1 + ·)).filterMap (fun i => (ops[i]?).map g) = l2.map g := by
  subst h
  rw [List.filterMap_map]
  have : ∀ i, ((fun i => ((l1 ++ o :: l2)[i]?).map g) ∘ (l1.length + 1 + ·)) i = (l2[i]?).map g := by
    intro i
    simp only [Function.comp]
    rw [List.getElem?_append_right (by omega)]
    rw [show l1.length + 1 + i - l1.length = i + 1 by omega, List.getElem?_cons_succ]
  rw [Q2x (fun i _ => this i)]
  have := Q3U g l2 []
  simpa [List.range_eq_range'] using this
theorem Qnf {α β : Type} {ops l1 l2 : List α} {o : α} (g : α → β) (h : ops = l1 ++ o :: l2) : (List.range l1.length).filterMap (fun i => (ops[i]?).map g) = l1.map g := by
  subst h
  have : ∀ i ∈ List.range l1.length, ((l1 ++ o :: l2)[i]?).map g = (l1[i]?).map g := by
    intro i hi
    rw [List.getElem?_append_left (by simpa using hi)]
  rw [Q2x this]
  have := Q3U g l1 []
  simpa [List.range_eq_range'] using this

theorem Qo6 {P : Program} {n : Nat} : ∀ (c : Code) (Q : List Deferred → QT) (ds : List Deferred) (ρ : Env) (a : Act) (w : World), Rel n ρ ds a → (lowD P n c).wpD P Q ds ρ w → c.wp P (liftD n Q) a w := by
  have hpl : ∀ (c : Code) (Q : List Deferred → QT) (ds : List Deferred) (ρ : Env) (a : Act) (w : World), Rel n ρ ds a → (Q3w P n c).wp P (Q ds) ρ w → c.wp P (liftD n Q) a w := fun c Q ds ρ a w hr h =>
    wp_mono (Q7q c _ ρ a w hr h) fun e a w h => ⟨ds, h⟩
  intro c
  induction c with
  | seq x y ihx ihy =>
    intro Q ds ρ a w hr h
    rw [lowD] at h
    split at h
    · refine wp_seq ?_
      refine wp_mono (ihx _ ds ρ a w hr h) ?_
      rintro e a w ⟨ds', ρ', hr', h'⟩
      cases e with
      | normal => exact ihy _ ds' ρ' a w hr' h'
      | _ => exact ⟨ds', ρ', hr', h'⟩
    · exact hpl _ Q ds ρ a w hr h
  | region id ops draw =>
    intro Q ds ρ a w hr h
    cases draw with
    | true => exact hpl _ Q ds ρ a w hr h
    | false =>
      rw [lowD] at h
      split at h
      · rename_i l1 o s l2 hs
        obtain ⟨hops, hsp⟩ := Q6G hs
        split at h
        · rename_i hall
          have hok : ∀ i o, ops[i]? = some o → okG n ops o = true := fun i o hi => List.all_eq_true.1 hall o (by rw [← Array.getElem?_toList] at hi; exact List.mem_of_getElem? hi)
          have hsz : ops.size = ops.toList.length := by simp
          have hgm : ∀ (l : List Nat), (l.filterMap fun i => (ops[i]?).map (Q2S P ops)) = l.filterMap fun i => (ops.toList[i]?).map (Q2S P ops) := fun l => by simp
          have hlen : ops.toList.length = l1.length + 1 + l2.length := by rw [hops]; simp; omega
          have hrange : ∀ (l : List Nat), (∀ i ∈ l, i < ops.size) → ∀ i ∈ l, ∃ o, ops[i]? = some o ∧ okG n ops o = true := fun l hl i hi => ⟨ops[i]'(hl i hi), by simp [hl i hi], hok i _ (by simp [hl i hi])⟩
          refine wp_region ?_
          rw [hsz, QlO hops]
          refine Q49 _ _ _ ?_
          cases s with
          | rcv d => exact h.elim
          | dfr d x =>
            have h1 := Q7G (Q := Qt (fun ρ w => ∃ f cap, ρ.ev x = .func (.func f) #[] cap ∧ Q3 P (l2.map (Q2S P ops)) (Q (⟨.fn (.func f) cap, #[]⟩ :: ds)) (updo ρ d undef) w) (Q ds)) (ds := ds) (List.range l1.length) ρ a w hr
              (hrange _ fun i hi => by rw [hsz, hlen]; have := List.mem_range.1 hi; omega) (by rw [hgm, Qnf _ hops]; exact h)
            refine Q3N ?_ _ _ _ h1
            rintro e a w ⟨ρ', hr', h'⟩
            cases e with
            | normal =>
              obtain ⟨f, cap, hf, h'⟩ := h'
              have hoi : ops[l1.length]? = some o := by rw [← Array.getElem?_toList, hops]; simp
              refine (?_ : wpOps P ops _ (l1.length :: _) a w)
              simp only [wpOps, hoi]
              have hg : o.guard = none ∧ ∃ ts, ∃ xs : Array Operand, o.op = .defer ⟨.value x, xs, ts⟩ ∧ xs.size = 0 ∧ o.dst = d := by
                unfold spOf at hsp
                split at hsp
                · rename_i x' xs' ts' hg ho
                  split at hsp
                  · rename_i hx0
                    simp only [Option.some.injEq, LSp.dfr.injEq] at hsp
                    obtain ⟨g1, g2⟩ := hsp
                    subst g2
                    exact ⟨hg, ts', xs', ho, hx0, g1⟩
                  · cases hsp
                · split at hsp <;> cases hsp
                · cases hsp
              obtain ⟨hgd, ts, xs, hop, hxs, hd⟩ := hg
              have hxs' : xs = #[] := Array.eq_empty_of_size_eq_zero hxs
              subst hxs'
              rw [if_pos (by simp [Region.wanted, hgd])]
              refine .inl ?_
              unfold Oper.wp
              have e1 : (execOp a.eval o).run P w = .ok (.defer ⟨.fn (.func f) cap, #[]⟩) w := by
                simp [execOp, hop, resolve, hr'.ev, hf, Deferred.ofValue]
              rw [e1, Oper.upon_defer, hd]
              have hdn := Qct (hok _ o hoi)
              rw [hd] at hdn
              have hr2 : Rel n (updo ρ' d undef) (⟨.fn (.func f) cap, #[]⟩ :: ds) ({ a with defers := ⟨.fn (.func f) cap, #[]⟩ :: a.defers }.put d undef) := by
                have hr3 : Rel n ρ' (⟨.fn (.func f) cap, #[]⟩ :: ds) { a with defers := ⟨.fn (.func f) cap, #[]⟩ :: a.defers } := ⟨hr'.1, hr'.2.1, by simp [hr'.2.2]⟩
                exact hr3.put d undef hdn
              have h2 := Q7G (Q := Q (⟨.fn (.func f) cap, #[]⟩ :: ds)) (ds := ⟨.fn (.func f) cap, #[]⟩ :: ds) _ _ _ w hr2
                (hrange ((List.range l2.length).map (l1.length + 1 + ·)) fun i hi => by rw [hsz, hlen]; rw [List.mem_map] at hi; obtain ⟨j, hj, rfl⟩ := hi; have := List.mem_range.1 hj; omega) (by rw [hgm, Qow _ hops]; exact h')
              exact Q3N (fun e a w h => ⟨_, h⟩) _ _ _ h2
            | _ => exact ⟨ds, ρ', hr', h'⟩
        · exact h.elim
      · exact hpl _ Q ds ρ a w hr h
  | _ => exact hpl _

/-- What becomes of a function's end, its deferred calls still to come. -/
def Q4B (P : Program) (rs : List ResultVar) (ρ : Env) (R : Ending → World → Prop) : List Deferred → FrameMode → World → Prop
  | [], .returning, w => Q1m P w ρ rs [] fun v => R (.returned v) w
  | [], .panicking chain, w => R (.panicked chain) w
  | [], .run, _ => False
  | d :: ds, u, w => u ≠ .run ∧ ∃ f cap, d = ⟨.fn (.func f) cap, #[]⟩ ∧ Q2E P f = true ∧ CallsD P f cap u w fun
      | .returned _, u', w' => Q4B P rs ρ R ds (settle u') w'
      | .panicked chain, u', w' => Q4B P rs ρ R ds (raised u' chain) w'
      | .outgrown, _, w' => R .outgrown w'
def retD (P : Program) (rs : List ResultVar) (R : Ending → World → Prop) (ds : List Deferred) : QT
  | .normal, ρ, w | .ret, ρ, w => Q4B P rs ρ R ds .returning w
  | .panic chain, ρ, w => Q4B P rs ρ R ds (.panicking chain) w
  | .outgrown, _, w => R .outgrown w
  | _, _, _ => False

theorem Q41 {P : Program} {fn : Func} {tmps : Array Value} {ρ : Env} {R : Ending → World → Prop} (ht : ∀ i, tmps.getD i undef = ρ i) : ∀ (ds : List Deferred) (u : FrameMode) (w : World),
    Q4B P fn.results.toList ρ R ds u w → Leaves P fn tmps R ds u w
  | [], .returning, w, h => by obtain ⟨v, h1, h2⟩ := Q2N ht h; exact ⟨v, h1, h2⟩
  | [], .panicking _, w, h => h
  | [], .run, w, h => h.elim
  | d :: ds, u, w, h => by
    obtain ⟨hu, f, cap, rfl, hf, hc⟩ := h
    unfold Q2E at hf
    rw [Option.any_eq_true] at hf
    obtain ⟨fn', h1, h2⟩ := hf
    rw [Bool.and_eq_true, Bool.not_eq_true'] at h2
    refine leaves_cons hu (f := f) (args := cap) ?_ ?_
    · simp only [invoke]
      rw [Qdo _ h1 h2.1 h2.2]; simp
    · refine hc.mono ?_
      intro e u' w' h
      cases e with
      | returned v => exact Q41 ht ds _ _ h
      | panicked ch => exact Q41 ht ds _ _ h
      | outgrown => exact h

theorem Ql2 {P : Program} {f : FuncId} {fn : Func} {args : List Value} {w : World} {R : Ending → World → Prop} {ld : LD} {rs : List ResultVar}
    (hf : P.funcs[f]? = some fn) (hl : Qo5 P fn = some ld) (hrs : fn.results.toList = rs) (hn : Nat.ble args.length fn.ntmps = true)
    (h : ld.wpD P (retD P rs R) [] (Qg args) w) : Calls P f ⟨args⟩ w R := by
  unfold Qo5 at hl
  cases hb : fn.body with
  | none => simp [hb] at hl
  | some c =>
    simp only [hb, Option.map_some, Option.some.injEq] at hl
    subst hl hrs
    refine calls_of_wp_defers hf hb ?_
    have hn' : args.length ≤ fn.ntmps := Nat.le_of_ble_eq_true hn
    refine wp_mono (Qo6 c _ [] _ _ _ (QcW ⟨args⟩ fn.ntmps hn' []) h) ?_
    rintro e a w ⟨ds, ρ, hr, h⟩
    have hd := hr.2.2
    cases e with
    | normal => exact (hd ▸ Q41 hr.2.1 ds _ _ h : Leaves P fn a.tmps R a.defers .returning w)
    | ret => exact (hd ▸ Q41 hr.2.1 ds _ _ h : Leaves P fn a.tmps R a.defers .returning w)
    | panic ch => exact (hd ▸ Q41 hr.2.1 ds _ _ h : Leaves P fn a.tmps R a.defers (.panicking ch) w)
    | outgrown => exact h
    | exit => exact h
    | goto => exact h

/-! ### The deferred function: lowered code that recovers -/

def recM : FrameMode → Value × FrameMode
  | .panicking ({ v := v, recovered := false, goexit := false } :: older) => (v, .panicking ({ v := v, recovered := true } :: older))
  | u => (.nilIface, u)

def LD.wpR (P : Program) : LD → (FrameMode → QT) → FrameMode → Env → World → Prop
  | .pl c, Q, u, ρ, w => c.wp P (Q u) ρ w
  | .seq a b, Q, u, ρ, w => a.wpR P (fun u' => Qt (b.wpR P Q u') (Q u')) u ρ w
  | .sp l1 (.rcv d) l2, Q, u, ρ, w => Q3 P l1 (Qt (fun ρ w => Q3 P l2 (Q (recM u).2) (updo ρ d (recM u).1) w) (Q u)) ρ w
  | _, _, _, _, _ => False

def liftR (n : Nat) (c₀ : Frame) (cs : List Frame) (Q : FrameMode → QT) : Exit → Act → List Frame → World → Prop :=
  fun e a cs' w => ∃ u, cs' = { c₀ with mode := u } :: cs ∧ QlV n [] (Q u) e a w

theorem Qmz (c₀ : Frame) (cs : List Frame) (u : FrameMode) : (match recoverD ({ c₀ with mode := u } :: cs) with
    | some (v, cs') => (v, cs')
    | none => (.nilIface, { c₀ with mode := u } :: cs)) = ((recM u).1, { c₀ with mode := (recM u).2 } :: cs) := by
  unfold recoverD recM
  dsimp only
  split <;> rename_i h
  · split at h
    · rename_i hm
      simp only [Option.some.injEq, Prod.mk.injEq] at h
      obtain ⟨rfl, rfl⟩ := h
      rfl
    · cases h
  · split at h
    · cases h
    · rename_i hm
      split
      · rename_i hm'
        exact absurd rfl (hm _ _)
      · rfl

theorem QfQ {P : Program} {n : Nat} {ops : Array Oper} {Q : QT} {QS : Exit → Act → List Frame → World → Prop} {cs : List Frame} {rest : List Nat} (hn : ∀ a w, QlV n [] Q .normal a w → wpOpsS P ops QS rest a cs w) (hq : ∀ e a w, e ≠ .normal → QlV n [] Q e a w → QS e a cs w) : ∀ (l : List Nat) (ρ : Env) (a : Act) (w : World), Rel n ρ [] a →
    (∀ i ∈ l, ∃ o, ops[i]? = some o ∧ okG n ops o = true) →
    Q3 P (l.filterMap fun i => (ops[i]?).map (Q2S P ops)) Q ρ w → wpOpsS P ops QS (l ++ rest) a cs w := by
  intro l
  induction l with
  | nil => intro ρ a w hr _ h; exact hn a w ⟨ρ, hr, h⟩
  | cons i l ih =>
    intro ρ a w hr hok h
    obtain ⟨o, ho, hg⟩ := hok i (by simp)
    have hok' : ∀ i ∈ l, ∃ o, ops[i]? = some o ∧ okG n ops o = true := fun i hi => hok i (by simp [hi])
    simp only [List.filterMap_cons, ho, Option.map_some] at h
    have h' := Qdl hr hg _ Q w h
    simp only [List.cons_append, wpOpsS, ho]
    split
    · rename_i hw
      rw [if_pos hw] at h'
      have h1 := QlN (ds := []) hr (Qct hg) (QfP h')
      have h2 := QbV (Q' := fun e a' w' => QS e a' cs w') (K' := fun a' w' => wpOpsS P ops QS (l ++ rest) a' cs w') (fun a w ⟨ρ, hr, h⟩ => ih ρ a w hr hok' h) (fun ch a w h => hq _ a w (by simp) h) (fun ⟨a, w, h⟩ => ⟨a, w, hq _ a w (by simp) h⟩) _ h1
      split
      · rename_i w' hrun
        rw [hrun] at h2
        exact h2.elim
      · rename_i r hrun
        exact h2
    · rename_i hw
      rw [if_neg hw] at h'
      exact ih _ _ w (hr.put _ _ (Qct hg)) hok' h'

theorem Qo4 {P : Program} {n : Nat} {c₀ : Frame} {cs : List Frame} : ∀ (c : Code) (Q : FrameMode → QT) (u : FrameMode) (ρ : Env) (a : Act) (w : World), Rel n ρ [] a → (lowD P n c).wpR P Q u ρ w → c.wpS P (liftR n c₀ cs Q) a ({ c₀ with mode := u } :: cs) w := by
  have hpl : ∀ (c : Code) (Q : FrameMode → QT) (u : FrameMode) (ρ : Env) (a : Act) (w : World), Rel n ρ [] a → (Q3w P n c).wp P (Q u) ρ w → c.wpS P (liftR n c₀ cs Q) a ({ c₀ with mode := u } :: cs) w := fun c Q u ρ a w hr h =>
    wpS_of_wp (wp_mono (Q7q c _ ρ a w hr h) fun e a w h => ⟨u, rfl, h⟩)
  intro c
  induction c with
  | seq x y ihx ihy =>
    intro Q u ρ a w hr h
    rw [lowD] at h
    split at h
    · refine wpS_seq ?_
      intro b k hb hro
      obtain ⟨e, a', cs', w', ⟨u', rfl, ρ', hr', h'⟩, harr⟩ := ihx _ u ρ a w hr h b k hb hro
      refine ⟨e, a', _, w', ?_, harr⟩
      cases e with
      | normal => exact ihy _ u' ρ' a' w' hr' h'
      | _ => exact ⟨u', rfl, ρ', hr', h'⟩
    · exact hpl _ Q u ρ a w hr h
  | region id ops draw =>
    intro Q u ρ a w hr h
    cases draw with
    | true => exact hpl _ Q u ρ a w hr h
    | false =>
      rw [lowD] at h
      split at h
      · rename_i l1 o s l2 hs
        obtain ⟨hops, hsp⟩ := Q6G hs
        split at h
        · rename_i hall
          have hok : ∀ i o, ops[i]? = some o → okG n ops o = true := fun i o hi => List.all_eq_true.1 hall o (by rw [← Array.getElem?_toList] at hi; exact List.mem_of_getElem? hi)
          have hsz : ops.size = ops.toList.length := by simp
          have hgm : ∀ (l : List Nat), (l.filterMap fun i => (ops[i]?).map (Q2S P ops)) = l.filterMap fun i => (ops.toList[i]?).map (Q2S P ops) := fun l => by simp
          have hlen : ops.toList.length = l1.length + 1 + l2.length := by rw [hops]; simp; omega
          have hrange : ∀ (l : List Nat), (∀ i ∈ l, i < ops.size) → ∀ i ∈ l, ∃ o, ops[i]? = some o ∧ okG n ops o = true := fun l hl i hi => ⟨ops[i]'(hl i hi), by simp [hl i hi], hok i _ (by simp [hl i hi])⟩
          refine wpS_region ?_
          rw [hsz, QlO hops]
          cases s with
          | dfr d x => exact h.elim
          | rcv d =>
            refine QfQ (Q := Qt (fun ρ w => Q3 P (l2.map (Q2S P ops)) (Q (recM u).2) (updo ρ d (recM u).1) w) (Q u)) ?_ ?_ (List.range l1.length) ρ a w hr
              (hrange _ fun i hi => by rw [hsz, hlen]; have := List.mem_range.1 hi; omega) (by rw [hgm, Qnf _ hops]; exact h)
            · rintro a w ⟨ρ', hr', h'⟩
              have hoi : ops[l1.length]? = some o := by rw [← Array.getElem?_toList, hops]; simp
              have hg : o.guard = none ∧ ∃ ts, ∃ xs : Array Operand, o.op = .call ⟨.builtin .recover, xs, ts⟩ ∧ xs.size = 0 ∧ o.dst = d := by
                unfold spOf at hsp
                split at hsp
                · split at hsp <;> cases hsp
                · rename_i xs' ts' hg ho
                  split at hsp
                  · rename_i hx0
                    simp only [Option.some.injEq, LSp.rcv.injEq] at hsp
                    exact ⟨hg, ts', xs', ho, hx0, hsp⟩
                  · cases hsp
                · cases hsp
              obtain ⟨hgd, ts, xs, hop, hxs, hd⟩ := hg
              have hxs' : xs = #[] := Array.eq_empty_of_size_eq_zero hxs
              subst hxs'
              refine (?_ : wpOpsS P ops _ (l1.length :: _) a _ w)
              simp only [wpOpsS, hoi]
              rw [if_pos (by simp [Region.wanted, hgd])]
              have e1 : (execOp a.eval o).run P w = .ok .recover w := by
                simp [execOp, hop, resolve, invoke, builtin]
              rw [e1]
              have hdn := Qct (hok _ o hoi)
              rw [hd] at hdn
              have hr2 : Rel n (updo ρ' d (recM u).1) [] (a.put d (recM u).1) := hr'.put d _ hdn
              have hrec := Qmz c₀ cs u
              have key : wpOpsS P ops (liftR n c₀ cs Q) ((List.range l2.length).map (l1.length + 1 + ·)) (a.put o.dst (recM u).1) ({ c₀ with mode := (recM u).2 } :: cs) w := by
                rw [hd]
                have h2 := QfQ (Q := Q (recM u).2) (QS := liftR n c₀ cs Q) (cs := { c₀ with mode := (recM u).2 } :: cs) (rest := []) (fun a w h => ⟨_, rfl, h⟩) (fun e a w _ h => ⟨_, rfl, h⟩) ((List.range l2.length).map (l1.length + 1 + ·)) _ _ w hr2
                  (hrange _ fun i hi => by rw [hsz, hlen]; rw [List.mem_map] at hi; obtain ⟨j, hj, rfl⟩ := hi; have := List.mem_range.1 hj; omega) (by rw [hgm, Qow _ hops]; exact h')
                rwa [List.append_nil] at h2
              dsimp only
              split
              · rename_i v cs' hrd
                rw [hrd] at hrec
                simp only [Prod.mk.injEq] at hrec
                rw [hrec.1, hrec.2]; exact key
              · rename_i hrd
                rw [hrd] at hrec
                simp only [Prod.mk.injEq] at hrec
                have e3 : ({ c₀ with mode := u } :: cs : List Frame) = { c₀ with mode := (recM u).2 } :: cs := hrec.2
                rw [hrec.1, e3]; exact key
            · rintro e a w he ⟨ρ', hr', h'⟩
              refine ⟨u, rfl, ρ', hr', ?_⟩
              cases e <;> first | exact h' | exact absurd rfl he
        · exact h.elim
      · exact hpl _ Q u ρ a w hr h
  | _ => exact hpl _

def retR (P : Program) (rs : List ResultVar) (R : Ending → FrameMode → World → Prop) (u : FrameMode) : QT
  | .normal, ρ, w | .ret, ρ, w => Q1m P w ρ rs [] fun v => R (.returned v) u w
  | .panic chain, _, w => R (.panicked chain) u w
  | .outgrown, _, w => R .outgrown u w
  | _, _, _ => False

theorem Qi7 {P : Program} {f : FuncId} {fn : Func} {args : List Value} {u : FrameMode} {w : World} {R : Ending → FrameMode → World → Prop} {ld : LD} {rs : List ResultVar}
    (hf : P.funcs[f]? = some fn) (hl : Qo5 P fn = some ld) (hrs : fn.results.toList = rs) (hn : Nat.ble args.length fn.ntmps = true)
    (h : ld.wpR P (retR P rs R) u (Qg args) w) : CallsD P f ⟨args⟩ u w R := by
  unfold Qo5 at hl
  cases hb : fn.body with
  | none => simp [hb] at hl
  | some c =>
    simp only [hb, Option.map_some, Option.some.injEq] at hl
    subst hl hrs
    refine callsD_of_wpS hf hb ?_
    intro c₀ cs hu
    have hn' : args.length ≤ fn.ntmps := Nat.le_of_ble_eq_true hn
    have h1 := Qo4 (c₀ := c₀) (cs := cs) c _ u _ _ w (QcW ⟨args⟩ fn.ntmps hn' []) h
    have hc : ({ c₀ with mode := u } : Frame) = c₀ := by subst hu; rfl
    rw [hc] at h1
    intro b k hb hro
    obtain ⟨e, a, cs', w', ⟨u', rfl, ρ, hr, h2⟩, harr⟩ := h1 b k hb hro
    refine ⟨e, a, _, w', ?_, harr⟩
    cases e with
    | normal => obtain ⟨v, h3, h4⟩ := Q2N hr.2.1 h2; exact ⟨hr.2.2, u', rfl, v, h3, h4⟩
    | ret => obtain ⟨v, h3, h4⟩ := Q2N hr.2.1 h2; exact ⟨hr.2.2, u', rfl, v, h3, h4⟩
    | panic ch => exact ⟨hr.2.2, u', rfl, h2⟩
    | outgrown => exact ⟨u', h2⟩
    | exit => exact h2
    | goto => exact h2

/-! ### Steps -/
section
variable {P : Program} {ρ : Env} {w : World} {u : FrameMode} {ds : List Deferred}
theorem d_pl {c : LC} {Q : List Deferred → QT} (h : c.wp P (Q ds) ρ w) : (LD.pl c).wpD P Q ds ρ w := h
theorem d_seq {a b : LD} {Q : List Deferred → QT} (h : a.wpD P (fun ds' => Qt (b.wpD P Q ds') (Q ds')) ds ρ w) : (LD.seq a b).wpD P Q ds ρ w := h
theorem d_sp {l1 l2 : List GO} {d : Option Nat} {x : Operand} {Q : List Deferred → QT} (h : Q3 P l1 (Qt (fun ρ w => ∃ f cap, ρ.ev x = .func (.func f) #[] cap ∧ Q3 P l2 (Q (⟨.fn (.func f) cap, #[]⟩ :: ds)) (updo ρ d undef) w) (Q ds)) ρ w) : (LD.sp l1 (.dfr d x) l2).wpD P Q ds ρ w := h
theorem r_pl {c : LC} {Q : FrameMode → QT} (h : c.wp P (Q u) ρ w) : (LD.pl c).wpR P Q u ρ w := h
theorem r_seq {a b : LD} {Q : FrameMode → QT} (h : a.wpR P (fun u' => Qt (b.wpR P Q u') (Q u')) u ρ w) : (LD.seq a b).wpR P Q u ρ w := h
theorem r_sp {l1 l2 : List GO} {d : Option Nat} {Q : FrameMode → QT} (h : Q3 P l1 (Qt (fun ρ w => Q3 P l2 (Q (recM u).2) (updo ρ d (recM u).1) w) (Q u)) ρ w) : (LD.sp l1 (.rcv d) l2).wpR P Q u ρ w := h
/-- A deferred function, called in a mode: it returns. -/
def Defs (P : Program) (f : FuncId) (args : List Value) (u : FrameMode) (w : World) (S : FrameMode → World → Prop) : Prop :=
  CallsD P f ⟨args⟩ u w fun e u' w' => (∃ v, e = .returned v) ∧ S u' w'
theorem Qbh {rs : List ResultVar} {R : Ending → World → Prop} {f : FuncId} {cap : List Value} {S : FrameMode → World → Prop} (hu : u ≠ .run) (hf : Q2E P f = true) (hc : Defs P f cap u w S)
    (h : ∀ u' w', S u' w' → Q4B P rs ρ R [] (settle u') w') : Q4B P rs ρ R [⟨.fn (.func f) ⟨cap⟩, #[]⟩] u w := by
  refine ⟨hu, f, ⟨cap⟩, rfl, hf, hc.mono ?_⟩
  rintro e u' w' ⟨⟨v, rfl⟩, hs⟩
  exact h u' w' hs
theorem QoU {rs : List ResultVar} {R : Ending → World → Prop} (h : Q4B P rs ρ R ds .returning w) : retD P rs R ds .ret ρ w := h
theorem q_panD {rs : List ResultVar} {R : Ending → World → Prop} {ch : List PanicEntry} (h : Q4B P rs ρ R ds (.panicking ch) w) : retD P rs R ds (.panic ch) ρ w := h
theorem Q51 {rs : List ResultVar} {R : Ending → World → Prop} (h : retQ P rs R .ret ρ w) : Q4B P rs ρ R [] .returning w := h
theorem q_endR {rs : List ResultVar} {R : Ending → FrameMode → World → Prop} (h : retQ P rs (fun e w => R e u w) .normal ρ w) : retR P rs R u .normal ρ w := h
end
end Go.Lir
namespace Go.Lir
section
variable {P : Program} {l : List GO} {Q : QT} {ρ : Env} {w : World} {f : FuncId} {S T : Value → World → Prop}

theorem s_ends_1 {d : Nat} {u0 : Value} {x0 : Operand} (h0 : ρ.ev x0 = u0) (hc : Fins P f [u0] w S T) (hp : ∀ v w', T v w' → Q (.panic [{ v := v, recovered := false }]) ρ w') (h : ∀ v w', S v w' → Q3 P l Q (upd ρ d v) w') : Q3 P (⟨none, .call (some d) f [x0]⟩ :: l) Q ρ w := by
  subst h0; exact Qnj (by rfl) hc hp h
theorem s_ends_2 {d : Nat} {u0 u1 : Value} {x0 x1 : Operand} (h0 : ρ.ev x0 = u0) (h1 : ρ.ev x1 = u1) (hc : Fins P f [u0, u1] w S T) (hp : ∀ v w', T v w' → Q (.panic [{ v := v, recovered := false }]) ρ w') (h : ∀ v w', S v w' → Q3 P l Q (upd ρ d v) w') : Q3 P (⟨none, .call (some d) f [x0, x1]⟩ :: l) Q ρ w := by
  subst h0 h1; exact Qnj (by rfl) hc hp h
theorem s_ends_3 {d : Nat} {u0 u1 u2 : Value} {x0 x1 x2 : Operand} (h0 : ρ.ev x0 = u0) (h1 : ρ.ev x1 = u1) (h2 : ρ.ev x2 = u2) (hc : Fins P f [u0, u1, u2] w S T) (hp : ∀ v w', T v w' → Q (.panic [{ v := v, recovered := false }]) ρ w') (h : ∀ v w', S v w' → Q3 P l Q (upd ρ d v) w') : Q3 P (⟨none, .call (some d) f [x0, x1, x2]⟩ :: l) Q ρ w := by
  subst h0 h1 h2; exact Qnj (by rfl) hc hp h
theorem s_ends_4 {d : Nat} {u0 u1 u2 u3 : Value} {x0 x1 x2 x3 : Operand} (h0 : ρ.ev x0 = u0) (h1 : ρ.ev x1 = u1) (h2 : ρ.ev x2 = u2) (h3 : ρ.ev x3 = u3) (hc : Fins P f [u0, u1, u2, u3] w S T) (hp : ∀ v w', T v w' → Q (.panic [{ v := v, recovered := false }]) ρ w') (h : ∀ v w', S v w' → Q3 P l Q (upd ρ d v) w') : Q3 P (⟨none, .call (some d) f [x0, x1, x2, x3]⟩ :: l) Q ρ w := by
  subst h0 h1 h2 h3; exact Qnj (by rfl) hc hp h
theorem QdD (k : Nat) {Ty : TypeId} {ms : Array (String × TypeId)} {w0 : World} (ht : P.underlying Ty = some (.interface ms)) : (Op.equalIn (k + 1) Ty .nilIface .nilIface).run P w0 = .ok true w0 := by
  simp only [Op.equalIn, Sem.run_bind, Qb P Ty _ w0 ht, Result.andThen_ok]
  simp [Sem.run_pure]
theorem Qhc {Ty : TypeId} {ms : Array (String × TypeId)} {w0 : World} (ht : P.underlying Ty = some (.interface ms)) : (Op.equal Ty .nilIface .nilIface).run P w0 = .ok true w0 := QdD 9999 ht
theorem Qc2 (k : Nat) {Ty U : TypeId} {v : Value} {ms : Array (String × TypeId)} {w0 : World} (ht : P.underlying Ty = some (.interface ms)) : (Op.equalIn (k + 1) Ty (.iface U v) .nilIface).run P w0 = .ok false w0 := by
  simp only [Op.equalIn, Sem.run_bind, Qb P Ty _ w0 ht, Result.andThen_ok]
  simp [Sem.run_pure]
theorem Qf6 {Ty U : TypeId} {v : Value} {ms : Array (String × TypeId)} {w0 : World} (ht : P.underlying Ty = some (.interface ms)) : (Op.equal Ty (.iface U v) .nilIface).run P w0 = .ok false w0 := Qc2 9999 ht
/-- e != nil -/
theorem Qni {d : Nat} {Ty : TypeId} {x : Operand} {ms : Array (String × TypeId)} (ht : P.underlying Ty = some (.interface ms)) (hx : ρ.ev x = .nilIface) (h : Q3 P l Q (upd ρ d (.bool false)) w) : Q3 P (⟨none, .bin d .neq Ty x (.const .nilIface)⟩ :: l) Q ρ w :=
  ⟨_, fun w0 => by rw [hx]; simp [Env.ev, eqGuard, binOp, Qhc ht], h⟩
theorem Qnh {d : Nat} {Ty U : TypeId} {v : Value} {x : Operand} {ms : Array (String × TypeId)} (ht : P.underlying Ty = some (.interface ms)) (hx : ρ.ev x = .iface U v) (h : Q3 P l Q (upd ρ d (.bool true)) w) : Q3 P (⟨none, .bin d .neq Ty x (.const .nilIface)⟩ :: l) Q ρ w :=
  ⟨_, fun w0 => by rw [hx]; simp [Env.ev, eqGuard, binOp, Qf6 ht], h⟩
/-- Three things to the front. -/
theorem St.pick3 {c : Cx} {L L1 L2 L3 : List Res} {r1 r2 r3 : Res} (h : St c w L) (p1 : Pick L r1 L1) (p2 : Pick L1 r2 L2) (p3 : Pick L2 r3 L3) : St c w (r1 :: r2 :: r3 :: L3) :=
  h.perm (p1.perm.trans (List.Perm.cons _ (p2.perm.trans (List.Perm.cons _ p3.perm))))
end
end Go.Lir
namespace Go.Lir
set_option linter.unusedVariables false
/-- What is left to be shown, apart from what is known. -/
structure Bx (K : Prop) : Prop where
  o : K
section
variable {K G : Prop}
theorem zn (k : K) (h : Bx K → G := by
  intro K9
  refine Qf1 ?_
  (repeat (first | refine Q3R ?_ | refine QaE ?_))
  exact K9.o) : G := h ⟨k⟩
theorem zcn (k : K) (h : Bx K → G := by
  intro K9
  refine s_cnil ?_
  (repeat (first | refine Q3R ?_ | refine QaE ?_))
  exact K9.o) : G := h ⟨k⟩
theorem zsk (k : K) (h : Bx K → G := by
  intro K9
  refine s_skip ?_
  (repeat (first | refine Q3R ?_ | refine QaE ?_))
  exact K9.o) : G := h ⟨k⟩
theorem zex (k : K) (h : Bx K → G := by
  intro K9
  refine s_exit ?_
  (repeat (first | refine s_exitQ ?_ | refine s_exitT ?_ | refine s_exitB rfl ?_ | refine Q3R ?_ | refine QaE ?_))
  exact K9.o) : G := h ⟨k⟩
theorem zr (k : K) (h : Bx K → G := by
  intro K9
  refine s_ret ?_
  (repeat (first | refine s_retT ?_ | refine s_retB ?_))
  exact K9.o) : G := h ⟨k⟩
theorem zy {A : Prop} (k : G) (h : A := by
  repeat (first
    | exact fun _ h => (List.not_mem_nil h).elim
    | refine List.forall_mem_cons.2 ⟨by first | exact Qnz hS rfl (NthP.nth (by repeat constructor)) rfl | exact Qm0 hS rfl (NthP.nth (by repeat constructor)) rfl rfl | exact Qm1 hS (by assumption) rfl rfl | exact QiM hS (by assumption) rfl rfl rfl | exact QkC hS (by assumption) rfl rfl | exact QfR hS (by assumption) rfl rfl rfl | exact gq_skip rfl rfl | exact Qcx rfl (Qnz hS rfl (NthP.nth (by repeat constructor)) rfl) | exact Qcx rfl (Qm0 hS rfl (NthP.nth (by repeat constructor)) rfl rfl) | exact Qcx rfl (Qm1 hS (by assumption) rfl rfl) | exact Qcx rfl (QiM hS (by assumption) rfl rfl rfl) | exact Qcx rfl (QkC hS (by assumption) rfl rfl) | exact Qcx rfl (QfR hS (by assumption) rfl rfl rfl), ?_⟩)) : A ∧ G := ⟨h, k⟩
end
section
variable {P : Program} {l : List GO} {Q : QT} {ρ : Env} {w : World} {c : Cx} {L : List Res} {i : Nat} {T es : Nat} {v : Value} {css : List (List Value)}
theorem zt {K : KT} (h : K ρ w) : Q3 P [] (Qt K Q) ρ w := Qf1 (Q3R h)
theorem St.ns {L' : List Res} (h : St c w L) (e : L = L' := by (conv => lhs; simp only [List.set_cons_zero, List.set_cons_succ]); first | done | exact rfl) : St c w L' := e ▸ h
theorem zm {d : Nat} {x : Operand} {v : Value} (h : Q3 P l Q (upd ρ d v) w) (hx : ρ.ev x = v := by (conv => lhs; whnf); first | done | exact rfl) : Q3 P (⟨none, .mov d x⟩ :: l) Q ρ w := s_mov hx h
theorem zpt {d : Nat} {c x y : Operand} {v : Value} (h : Q3 P l Q (upd ρ d v) w) (hc : ρ.ev c = .bool true := by exact rfl) (hx : ρ.ev x = v := by (conv => lhs; whnf); first | done | exact rfl) : Q3 P (⟨none, .pick d c x y⟩ :: l) Q ρ w := s_pick_t hc hx h
theorem zpf {d : Nat} {c x y : Operand} {v : Value} (h : Q3 P l Q (upd ρ d v) w) (hc : ρ.ev c = .bool false := by exact rfl) (hx : ρ.ev y = v := by (conv => lhs; whnf); first | done | exact rfl) : Q3 P (⟨none, .pick d c x y⟩ :: l) Q ρ w := s_pick_f hc hx h
theorem zki {d : Nat} {T : TypeId} {x : Operand} {v : Value} (h : Q3 P l Q (upd ρ d (.iface T v)) w) (hx : ρ.ev x = v := by (conv => lhs; whnf); first | done | exact rfl) : Q3 P (⟨none, .mki d T x⟩ :: l) Q ρ w := s_mki hx h
theorem zl {d : Nat} {x : Operand} {b o : Nat} {cs : List Value} {u : Value} (hS : St c w L) (h : Q3 P l Q (upd ρ d u) w) (hx : ρ.ev x = .pointer (some ⟨b, o, none⟩) := by exact rfl) (hi : nth L i = some (blk b T cs) := by exact NthP.nth (by repeat constructor)) (hu : cs[o]? = some u := by exact rfl) : Q3 P (⟨none, .load1 d x⟩ :: l) Q ρ w := s_loadB hS hx hi hu h
theorem zlk {d : Nat} {x : Operand} {b o : Nat} {cs : List Value} {u : Value} (hS : St c w L) (h : Q3 P l Q (upd ρ d u) w) (ha : AtK c b o cs := by assumption) (hx : ρ.ev x = .pointer (some ⟨b, o, none⟩) := by exact rfl) (hu : cs[0]? = some u := by exact rfl) : Q3 P (⟨none, .load1 d x⟩ :: l) Q ρ w := s_loadK hS ha hx hu h
theorem zlj {d : Nat} {x : Operand} {b o j : Nat} {cs : List Value} {u : Value} (hS : St c w L) (h : Q3 P l Q (upd ρ d u) w) (ha : AtK c b o cs := by assumption) (hx : ρ.ev x = .pointer (some ⟨b, o + j, none⟩) := by exact rfl) (hu : cs[j]? = some u := by exact rfl) : Q3 P (⟨none, .load1 d x⟩ :: l) Q ρ w := s_loadKj hS ha hx hu h
theorem zv {d n : Nat} {x : Operand} {b o : Nat} {cs us : List Value} (hS : St c w L) (h : Q3 P l Q (upd ρ d (.agg ⟨us⟩)) w) (hx : ρ.ev x = .pointer (some ⟨b, o, none⟩) := by exact rfl) (hi : nth L i = some (blk b T cs) := by exact NthP.nth (by repeat constructor)) (hu : (cs.drop o).take n = us := by exact rfl) (hl : us.length = n := by exact rfl) : Q3 P (⟨none, .loadn d n x⟩ :: l) Q ρ w := s_loadnB hS hx hi hu hl h
theorem zvk {d n : Nat} {x : Operand} {b o : Nat} {cs : List Value} (hS : St c w L) (h : Q3 P l Q (upd ρ d (.agg ⟨cs⟩)) w) (ha : AtK c b o cs := by assumption) (hx : ρ.ev x = .pointer (some ⟨b, o, none⟩) := by exact rfl) (hl : cs.length = n := by exact rfl) : Q3 P (⟨none, .loadn d n x⟩ :: l) Q ρ w := s_loadnK hS ha hx hl h
theorem zLe {d n : Nat} {x : Operand} (hS : St c w L) (h : Q3 P l Q (upd ρ d (.int .i64 n)) w) (hx : ρ.ev x = v := by (conv => lhs; whnf); first | done | exact rfl) (hi : nth L i = some (sl T es v css) := by exact NthP.nth (by repeat constructor)) (hn : css.length = n := by first | exact List.length_map _ | rfl) : Q3 P (⟨none, .len d x⟩ :: l) Q ρ w := Qc0 hS hx hi hn h
theorem zad {d : Nat} {T : TypeId} {x y : Operand} {a b : Int} (h : Q3 P l Q (upd ρ d (.int .i64 (a + b))) w) (hx : ρ.ev x = .int .i64 a := by exact rfl) (hy : ρ.ev y = .int .i64 b := by exact rfl) (h1 : -9223372036854775808 ≤ a + b := by omega) (h2 : a + b ≤ 9223372036854775807 := by omega) : Q3 P (⟨none, .bin d .add T x y⟩ :: l) Q ρ w := s_add hx hy h1 h2 h
theorem zsu {d : Nat} {T : TypeId} {x y : Operand} {a b : Int} (h : Q3 P l Q (upd ρ d (.int .i64 (a - b))) w) (hx : ρ.ev x = .int .i64 a := by exact rfl) (hy : ρ.ev y = .int .i64 b := by exact rfl) (h1 : -9223372036854775808 ≤ a - b := by omega) (h2 : a - b ≤ 9223372036854775807 := by omega) : Q3 P (⟨none, .bin d .sub T x y⟩ :: l) Q ρ w := s_subi hx hy h1 h2 h
theorem zmu {d : Nat} {T : TypeId} {x y : Operand} {a b : Int} (h : Q3 P l Q (upd ρ d (.int .i64 (a * b))) w) (hx : ρ.ev x = .int .i64 a := by exact rfl) (hy : ρ.ev y = .int .i64 b := by exact rfl) (h1 : -9223372036854775808 ≤ a * b := by omega) (h2 : a * b ≤ 9223372036854775807 := by omega) : Q3 P (⟨none, .bin d .mul T x y⟩ :: l) Q ρ w := s_mul hx hy h1 h2 h
theorem Q3i {d : Nat} {T : TypeId} {x y : Operand} {k : IntKind} {a b : Int} (h : Q3 P l Q (upd ρ d (.bool true)) w) (hx : ρ.ev x = .int k a := by exact rfl) (hy : ρ.ev y = .int k b := by exact rfl) (hp : a < b := by omega) : Q3 P (⟨none, .bin d .lss T x y⟩ :: l) Q ρ w := s_lss_t hx hy hp h
theorem Q3j {d : Nat} {T : TypeId} {x y : Operand} {k : IntKind} {a b : Int} (h : Q3 P l Q (upd ρ d (.bool false)) w) (hx : ρ.ev x = .int k a := by exact rfl) (hy : ρ.ev y = .int k b := by exact rfl) (hp : ¬ (a < b) := by omega) : Q3 P (⟨none, .bin d .lss T x y⟩ :: l) Q ρ w := s_lss_f hx hy hp h
theorem QB {d : Nat} {T : TypeId} {x y : Operand} {k : IntKind} {a b : Int} (h : Q3 P l Q (upd ρ d (.bool true)) w) (hx : ρ.ev x = .int k a := by exact rfl) (hy : ρ.ev y = .int k b := by exact rfl) (hp : a = b := by omega) : Q3 P (⟨none, .bin d .eql T x y⟩ :: l) Q ρ w := Qmx hx hy hp h
theorem QF {d : Nat} {T : TypeId} {x y : Operand} {k : IntKind} {a b : Int} (h : Q3 P l Q (upd ρ d (.bool false)) w) (hx : ρ.ev x = .int k a := by exact rfl) (hy : ρ.ev y = .int k b := by exact rfl) (hp : ¬ (a = b) := by omega) : Q3 P (⟨none, .bin d .eql T x y⟩ :: l) Q ρ w := Qf3 hx hy hp h
theorem Q2L {d : Nat} {T : TypeId} {x y : Operand} {k : IntKind} {a b : Int} (h : Q3 P l Q (upd ρ d (.bool true)) w) (hx : ρ.ev x = .int k a := by exact rfl) (hy : ρ.ev y = .int k b := by exact rfl) (hp : a ≠ b := by omega) : Q3 P (⟨none, .bin d .neq T x y⟩ :: l) Q ρ w := s_neq_t hx hy hp h
theorem Q2M {d : Nat} {T : TypeId} {x y : Operand} {k : IntKind} {a b : Int} (h : Q3 P l Q (upd ρ d (.bool false)) w) (hx : ρ.ev x = .int k a := by exact rfl) (hy : ρ.ev y = .int k b := by exact rfl) (hp : ¬ (a ≠ b) := by omega) : Q3 P (⟨none, .bin d .neq T x y⟩ :: l) Q ρ w := s_neq_f hx hy hp h
theorem QW {d : Nat} {T : TypeId} {x y : Operand} {k : IntKind} {a b : Int} (h : Q3 P l Q (upd ρ d (.bool true)) w) (hx : ρ.ev x = .int k a := by exact rfl) (hy : ρ.ev y = .int k b := by exact rfl) (hp : b < a := by omega) : Q3 P (⟨none, .bin d .gtr T x y⟩ :: l) Q ρ w := Q9F hx hy hp h
theorem Q1g {d : Nat} {T : TypeId} {x y : Operand} {k : IntKind} {a b : Int} (h : Q3 P l Q (upd ρ d (.bool false)) w) (hx : ρ.ev x = .int k a := by exact rfl) (hy : ρ.ev y = .int k b := by exact rfl) (hp : ¬ (b < a) := by omega) : Q3 P (⟨none, .bin d .gtr T x y⟩ :: l) Q ρ w := Qf2 hx hy hp h
theorem Qdy {d : Nat} {T : TypeId} {x y : Operand} {k : IntKind} {a b : Int} (h : Q3 P l Q (upd ρ d (.bool true)) w) (hx : ρ.ev x = .int k a := by exact rfl) (hy : ρ.ev y = .int k b := by exact rfl) (hp : b ≤ a := by omega) : Q3 P (⟨none, .bin d .geq T x y⟩ :: l) Q ρ w := s_geq_t hx hy hp h
theorem Qdz {d : Nat} {T : TypeId} {x y : Operand} {k : IntKind} {a b : Int} (h : Q3 P l Q (upd ρ d (.bool false)) w) (hx : ρ.ev x = .int k a := by exact rfl) (hy : ρ.ev y = .int k b := by exact rfl) (hp : ¬ (b ≤ a) := by omega) : Q3 P (⟨none, .bin d .geq T x y⟩ :: l) Q ρ w := s_geq_f hx hy hp h
theorem zleqt {d : Nat} {T : TypeId} {x y : Operand} {k : IntKind} {a b : Int} (h : Q3 P l Q (upd ρ d (.bool true)) w) (hx : ρ.ev x = .int k a := by exact rfl) (hy : ρ.ev y = .int k b := by exact rfl) (hp : a ≤ b := by omega) : Q3 P (⟨none, .bin d .leq T x y⟩ :: l) Q ρ w := s_leq_t hx hy hp h
theorem zleqf {d : Nat} {T : TypeId} {x y : Operand} {k : IntKind} {a b : Int} (h : Q3 P l Q (upd ρ d (.bool false)) w) (hx : ρ.ev x = .int k a := by exact rfl) (hy : ρ.ev y = .int k b := by exact rfl) (hp : ¬ (a ≤ b) := by omega) : Q3 P (⟨none, .bin d .leq T x y⟩ :: l) Q ρ w := s_leq_f hx hy hp h
theorem zst {x y : Operand} {b o : Nat} {cs : List Value} {u : Value} (hS : St c w L) (h : ∀ w', St c w' (L.set i (blk b T (cs.set o u))) → Q3 P l Q ρ w') (hx : ρ.ev x = .pointer (some ⟨b, o, none⟩) := by exact rfl) (hy : ρ.ev y = u := by (conv => lhs; whnf); first | done | exact rfl) (hi : nth L i = some (blk b T cs) := by exact NthP.nth (by repeat constructor)) (ho : o < cs.length := by simp) (h1 : oneC u = true := by first | rfl | assumption | exact hS.oneC (NthP.nth (by repeat constructor)) | exact SlR.oneC (by assumption)) : Q3 P (⟨none, .store1 x y⟩ :: l) Q ρ w := s_storeB hS hx hy hi ho h1 h
theorem zb {d : Nat} {x : Operand} {cs : List Value} (hS : St c w L) (h : ∀ b w', St c w' (blk b T cs :: L) → Q3 P l Q (upd ρ d (.pointer (some ⟨b, 0, none⟩))) w') (hx : ρ.ev x = v := by (conv => lhs; whnf); first | done | exact rfl) (hc : v.cells = ⟨cs⟩ := by rfl) : Q3 P (⟨none, .box d T x⟩ :: l) Q ρ w := s_boxB hS hx hc h
theorem zsn {n i b T : Nat} {x y : Operand} {cs us : List Value} (hS : St c w L) (h : ∀ w', St c w' (L.set i (blk b T us)) → Q3 P l Q ρ w') (hx : ρ.ev x = .pointer (some ⟨b, 0, none⟩) := by exact rfl) (hy : ρ.ev y = .agg ⟨us⟩ := by exact rfl) (hn : us.length = n := by rfl) (hi : nth L i = some (blk b T cs) := by exact NthP.nth (by repeat constructor)) (hc : cs.length = n := by rfl) (h1 : ∀ u ∈ us, oneC u = true := by first | (simp [oneC]; done) | assumption | exact Rep.one _ (by assumption) | (simp only [List.take_succ_cons, List.take_zero, List.drop_zero, List.mem_cons, List.not_mem_nil, or_false, forall_eq_or_imp, forall_eq]; ((try refine And.intro ?_ ?_) <;> try refine And.intro ?_ ?_) <;> first | rfl | assumption)) : Q3 P (⟨none, .storen n x y⟩ :: l) Q ρ w := QoC hS hx hy hn hi hc h1 h
theorem zsm {n : Nat} {x y : Operand} {b o : Nat} {cs us cs' : List Value} (hS : St c w L) (h : ∀ w', St c w' (L.set i (blk b T cs')) → Q3 P l Q ρ w') (hx : ρ.ev x = .pointer (some ⟨b, o, none⟩) := by exact rfl) (hy : ρ.ev y = .agg ⟨us⟩ := by exact rfl) (hn : us.length = n := by rfl) (hi : nth L i = some (blk b T cs) := by exact NthP.nth (by repeat constructor)) (ho : o + n ≤ cs.length := by simp) (h1 : ∀ u ∈ us, oneC u = true := by first | (simp [oneC]; done) | assumption | exact Rep.one _ (by assumption) | (simp only [List.take_succ_cons, List.take_zero, List.drop_zero, List.mem_cons, List.not_mem_nil, or_false, forall_eq_or_imp, forall_eq]; ((try refine And.intro ?_ ?_) <;> try refine And.intro ?_ ?_) <;> first | rfl | assumption)) (hc : cs.take o ++ (us ++ cs.drop (o + n)) = cs' := by (conv => lhs; simp only [List.take_succ_cons, List.take_zero, List.drop_succ_cons, List.drop_zero, List.cons_append, List.nil_append]); first | done | exact rfl) : Q3 P (⟨none, .storen n x y⟩ :: l) Q ρ w := QlB hS hx hy hn hi ho h1 hc h
theorem zf {t : Nat} {R : Ending → World → Prop} {v : Value} (h : R (.returned v) w) (hv : ρ t = v := by (conv => lhs; whnf); first | done | exact rfl) : retQ P [.tmp t] R .ret ρ w := q_ret1 hv h
theorem zf2 {t u : Nat} {R : Ending → World → Prop} {v v' : Value} (h : R (.returned (.tuple #[v, v'])) w) (hv : ρ t = v := by (conv => lhs; whnf); first | done | exact rfl) (hv' : ρ u = v' := by (conv => lhs; whnf); first | done | exact rfl) : retQ P [.tmp t, .tmp u] R .ret ρ w := q_ret2 hv hv' h
theorem zb0 {d : Nat} {z : List Value} (cs : List Value) (h : Q3 P l Q (upd ρ d (.agg ⟨cs⟩)) w) (hf : Q30 z [] = some cs := by rfl) : Q3 P (⟨none, .build d z []⟩ :: l) Q ρ w := s_build0  hf h
theorem zb1 {d : Nat} {z : List Value} {o0 n0 : Nat} {x0 : Operand} {v0 : Value} (cs : List Value) (h : Q3 P l Q (upd ρ d (.agg ⟨cs⟩)) w) (h0 : ρ.ev x0 = v0 := by (conv => lhs; whnf); first | done | exact rfl) (hf : Q30 z [(o0, n0, v0)] = some cs := by rfl) : Q3 P (⟨none, .build d z [(o0, n0, x0)]⟩ :: l) Q ρ w := s_build1 h0 hf h
theorem zB1 {d : Nat} {T : TypeId} {n : Nat} {z : List Value} {o0 n0 : Nat} {x0 : Operand} {v0 : Value} (hS : St c w L) (cs : List Value) (h : ∀ b w', St c w' (blk b T cs :: L) → Q3 P l Q (upd ρ d (.slice (some ⟨b, 0, none⟩) n n)) w') (h0 : ρ.ev x0 = v0 := by (conv => lhs; whnf); first | done | exact rfl) (hf : Q30 z [(o0, n0, v0)] = some cs := by rfl) : Q3 P (⟨none, .buildS d T n z [(o0, n0, x0)]⟩ :: l) Q ρ w := Qf4 h0 hf fun b w' hb hf1 _ hk => h b w' (hS.laid hb hf1 hk)
theorem zb2 {d : Nat} {z : List Value} {o0 n0 : Nat} {x0 : Operand} {v0 : Value} {o1 n1 : Nat} {x1 : Operand} {v1 : Value} (cs : List Value) (h : Q3 P l Q (upd ρ d (.agg ⟨cs⟩)) w) (h0 : ρ.ev x0 = v0 := by (conv => lhs; whnf); first | done | exact rfl) (h1 : ρ.ev x1 = v1 := by (conv => lhs; whnf); first | done | exact rfl) (hf : Q30 z [(o0, n0, v0), (o1, n1, v1)] = some cs := by rfl) : Q3 P (⟨none, .build d z [(o0, n0, x0), (o1, n1, x1)]⟩ :: l) Q ρ w := Qnk h0 h1 hf h
theorem zB2 {d : Nat} {T : TypeId} {n : Nat} {z : List Value} {o0 n0 : Nat} {x0 : Operand} {v0 : Value} {o1 n1 : Nat} {x1 : Operand} {v1 : Value} (hS : St c w L) (cs : List Value) (h : ∀ b w', St c w' (blk b T cs :: L) → Q3 P l Q (upd ρ d (.slice (some ⟨b, 0, none⟩) n n)) w') (h0 : ρ.ev x0 = v0 := by (conv => lhs; whnf); first | done | exact rfl) (h1 : ρ.ev x1 = v1 := by (conv => lhs; whnf); first | done | exact rfl) (hf : Q30 z [(o0, n0, v0), (o1, n1, v1)] = some cs := by rfl) : Q3 P (⟨none, .buildS d T n z [(o0, n0, x0), (o1, n1, x1)]⟩ :: l) Q ρ w := QlE h0 h1 hf fun b w' hb hf1 _ hk => h b w' (hS.laid hb hf1 hk)
theorem zB3 {d : Nat} {T : TypeId} {n : Nat} {z : List Value} {o0 n0 : Nat} {x0 : Operand} {v0 : Value} {o1 n1 : Nat} {x1 : Operand} {v1 : Value} {o2 n2 : Nat} {x2 : Operand} {v2 : Value} (hS : St c w L) (cs : List Value) (h : ∀ b w', St c w' (blk b T cs :: L) → Q3 P l Q (upd ρ d (.slice (some ⟨b, 0, none⟩) n n)) w') (h0 : ρ.ev x0 = v0 := by (conv => lhs; whnf); first | done | exact rfl) (h1 : ρ.ev x1 = v1 := by (conv => lhs; whnf); first | done | exact rfl) (h2 : ρ.ev x2 = v2 := by (conv => lhs; whnf); first | done | exact rfl) (hf : Q30 z [(o0, n0, v0), (o1, n1, v1), (o2, n2, v2)] = some cs := by rfl) : Q3 P (⟨none, .buildS d T n z [(o0, n0, x0), (o1, n1, x1), (o2, n2, x2)]⟩ :: l) Q ρ w := QoN h0 h1 h2 hf fun b w' hb hf1 _ hk => h b w' (hS.laid hb hf1 hk)
theorem zb4 {d : Nat} {z : List Value} {o0 n0 : Nat} {x0 : Operand} {v0 : Value} {o1 n1 : Nat} {x1 : Operand} {v1 : Value} {o2 n2 : Nat} {x2 : Operand} {v2 : Value} {o3 n3 : Nat} {x3 : Operand} {v3 : Value} (cs : List Value) (h : Q3 P l Q (upd ρ d (.agg ⟨cs⟩)) w) (h0 : ρ.ev x0 = v0 := by (conv => lhs; whnf); first | done | exact rfl) (h1 : ρ.ev x1 = v1 := by (conv => lhs; whnf); first | done | exact rfl) (h2 : ρ.ev x2 = v2 := by (conv => lhs; whnf); first | done | exact rfl) (h3 : ρ.ev x3 = v3 := by (conv => lhs; whnf); first | done | exact rfl) (hf : Q30 z [(o0, n0, v0), (o1, n1, v1), (o2, n2, v2), (o3, n3, v3)] = some cs := by rfl) : Q3 P (⟨none, .build d z [(o0, n0, x0), (o1, n1, x1), (o2, n2, x2), (o3, n3, x3)]⟩ :: l) Q ρ w := s_build4 h0 h1 h2 h3 hf h
theorem zB4 {d : Nat} {T : TypeId} {n : Nat} {z : List Value} {o0 n0 : Nat} {x0 : Operand} {v0 : Value} {o1 n1 : Nat} {x1 : Operand} {v1 : Value} {o2 n2 : Nat} {x2 : Operand} {v2 : Value} {o3 n3 : Nat} {x3 : Operand} {v3 : Value} (hS : St c w L) (cs : List Value) (h : ∀ b w', St c w' (blk b T cs :: L) → Q3 P l Q (upd ρ d (.slice (some ⟨b, 0, none⟩) n n)) w') (h0 : ρ.ev x0 = v0 := by (conv => lhs; whnf); first | done | exact rfl) (h1 : ρ.ev x1 = v1 := by (conv => lhs; whnf); first | done | exact rfl) (h2 : ρ.ev x2 = v2 := by (conv => lhs; whnf); first | done | exact rfl) (h3 : ρ.ev x3 = v3 := by (conv => lhs; whnf); first | done | exact rfl) (hf : Q30 z [(o0, n0, v0), (o1, n1, v1), (o2, n2, v2), (o3, n3, v3)] = some cs := by rfl) : Q3 P (⟨none, .buildS d T n z [(o0, n0, x0), (o1, n1, x1), (o2, n2, x2), (o3, n3, x3)]⟩ :: l) Q ρ w := QoM h0 h1 h2 h3 hf fun b w' hb hf1 _ hk => h b w' (hS.laid hb hf1 hk)
theorem zb10 {d : Nat} {z : List Value} {o0 n0 : Nat} {x0 : Operand} {v0 : Value} {o1 n1 : Nat} {x1 : Operand} {v1 : Value} {o2 n2 : Nat} {x2 : Operand} {v2 : Value} {o3 n3 : Nat} {x3 : Operand} {v3 : Value} {o4 n4 : Nat} {x4 : Operand} {v4 : Value} {o5 n5 : Nat} {x5 : Operand} {v5 : Value} {o6 n6 : Nat} {x6 : Operand} {v6 : Value} {o7 n7 : Nat} {x7 : Operand} {v7 : Value} {o8 n8 : Nat} {x8 : Operand} {v8 : Value} {o9 n9 : Nat} {x9 : Operand} {v9 : Value} (cs : List Value) (h : Q3 P l Q (upd ρ d (.agg ⟨cs⟩)) w) (h0 : ρ.ev x0 = v0 := by (conv => lhs; whnf); first | done | exact rfl) (h1 : ρ.ev x1 = v1 := by (conv => lhs; whnf); first | done | exact rfl) (h2 : ρ.ev x2 = v2 := by (conv => lhs; whnf); first | done | exact rfl) (h3 : ρ.ev x3 = v3 := by (conv => lhs; whnf); first | done | exact rfl) (h4 : ρ.ev x4 = v4 := by (conv => lhs; whnf); first | done | exact rfl) (h5 : ρ.ev x5 = v5 := by (conv => lhs; whnf); first | done | exact rfl) (h6 : ρ.ev x6 = v6 := by (conv => lhs; whnf); first | done | exact rfl) (h7 : ρ.ev x7 = v7 := by (conv => lhs; whnf); first | done | exact rfl) (h8 : ρ.ev x8 = v8 := by (conv => lhs; whnf); first | done | exact rfl) (h9 : ρ.ev x9 = v9 := by (conv => lhs; whnf); first | done | exact rfl) (hf : Q30 z [(o0, n0, v0), (o1, n1, v1), (o2, n2, v2), (o3, n3, v3), (o4, n4, v4), (o5, n5, v5), (o6, n6, v6), (o7, n7, v7), (o8, n8, v8), (o9, n9, v9)] = some cs := by rfl) : Q3 P (⟨none, .build d z [(o0, n0, x0), (o1, n1, x1), (o2, n2, x2), (o3, n3, x3), (o4, n4, x4), (o5, n5, x5), (o6, n6, x6), (o7, n7, x7), (o8, n8, x8), (o9, n9, x9)]⟩ :: l) Q ρ w := QoO h0 h1 h2 h3 h4 h5 h6 h7 h8 h9 hf h
theorem zD {gs : List GO} {es : List (List Nat)} (C : List CI) (h : Q3 P (C.map fun c => gat gs c.1) Q ρ w.drew) (hok : Qdu gs es C = true := by kernel_rfl) (hpl : (C.all fun c => match c.2 with | some (some _) => false | _ => true) = true := by kernel_rfl) : (LC.draw gs es).wp P Q ρ w := s_draw C hok hpl h
theorem zC {gs : List GO} {es : List (List Nat)} (C : List CI) (h : Q1x P gs C Q ρ w.drew) (hok : Qdu gs es C = true := by kernel_rfl) : (LC.draw gs es).wp P Q ρ w := s_canon C hok h
theorem zR0 {d : Nat} {f : FuncId} {S : Value → World → Prop} (c : Rets P f [] w S) (h : ∀ v w', S v w' → Q3 P l Q (upd ρ d v) w') : Q3 P (⟨none, .call (some d) f []⟩ :: l) Q ρ w := s_rets_0  c h
theorem zR1 {d : Nat} {f : FuncId} {x0 : Operand} {u0 : Value} {S : Value → World → Prop} (h0 : ρ.ev x0 = u0 := by (conv => lhs; whnf); first | done | exact rfl) (c : Rets P f [u0] w S) (h : ∀ v w', S v w' → Q3 P l Q (upd ρ d v) w') : Q3 P (⟨none, .call (some d) f [x0]⟩ :: l) Q ρ w := s_rets_1 h0 c h
theorem zE1 {d : Nat} {f : FuncId} {x0 : Operand} {u0 : Value} {S T : Value → World → Prop} (h0 : ρ.ev x0 = u0 := by (conv => lhs; whnf); first | done | exact rfl) (c : Fins P f [u0] w S T) (p : ∀ v w', T v w' → Q (.panic [{ v := v, recovered := false }]) ρ w') (h : ∀ v w', S v w' → Q3 P l Q (upd ρ d v) w') : Q3 P (⟨none, .call (some d) f [x0]⟩ :: l) Q ρ w := s_ends_1 h0 c p h
theorem zR2 {d : Nat} {f : FuncId} {x0 x1 : Operand} {u0 u1 : Value} {S : Value → World → Prop} (h0 : ρ.ev x0 = u0 := by (conv => lhs; whnf); first | done | exact rfl) (h1 : ρ.ev x1 = u1 := by (conv => lhs; whnf); first | done | exact rfl) (c : Rets P f [u0, u1] w S) (h : ∀ v w', S v w' → Q3 P l Q (upd ρ d v) w') : Q3 P (⟨none, .call (some d) f [x0, x1]⟩ :: l) Q ρ w := s_rets_2 h0 h1 c h
theorem zE2 {d : Nat} {f : FuncId} {x0 x1 : Operand} {u0 u1 : Value} {S T : Value → World → Prop} (h0 : ρ.ev x0 = u0 := by (conv => lhs; whnf); first | done | exact rfl) (h1 : ρ.ev x1 = u1 := by (conv => lhs; whnf); first | done | exact rfl) (c : Fins P f [u0, u1] w S T) (p : ∀ v w', T v w' → Q (.panic [{ v := v, recovered := false }]) ρ w') (h : ∀ v w', S v w' → Q3 P l Q (upd ρ d v) w') : Q3 P (⟨none, .call (some d) f [x0, x1]⟩ :: l) Q ρ w := s_ends_2 h0 h1 c p h
theorem zR3 {d : Nat} {f : FuncId} {x0 x1 x2 : Operand} {u0 u1 u2 : Value} {S : Value → World → Prop} (h0 : ρ.ev x0 = u0 := by (conv => lhs; whnf); first | done | exact rfl) (h1 : ρ.ev x1 = u1 := by (conv => lhs; whnf); first | done | exact rfl) (h2 : ρ.ev x2 = u2 := by (conv => lhs; whnf); first | done | exact rfl) (c : Rets P f [u0, u1, u2] w S) (h : ∀ v w', S v w' → Q3 P l Q (upd ρ d v) w') : Q3 P (⟨none, .call (some d) f [x0, x1, x2]⟩ :: l) Q ρ w := s_rets_3 h0 h1 h2 c h
theorem zE3 {d : Nat} {f : FuncId} {x0 x1 x2 : Operand} {u0 u1 u2 : Value} {S T : Value → World → Prop} (h0 : ρ.ev x0 = u0 := by (conv => lhs; whnf); first | done | exact rfl) (h1 : ρ.ev x1 = u1 := by (conv => lhs; whnf); first | done | exact rfl) (h2 : ρ.ev x2 = u2 := by (conv => lhs; whnf); first | done | exact rfl) (c : Fins P f [u0, u1, u2] w S T) (p : ∀ v w', T v w' → Q (.panic [{ v := v, recovered := false }]) ρ w') (h : ∀ v w', S v w' → Q3 P l Q (upd ρ d v) w') : Q3 P (⟨none, .call (some d) f [x0, x1, x2]⟩ :: l) Q ρ w := s_ends_3 h0 h1 h2 c p h
theorem zR4 {d : Nat} {f : FuncId} {x0 x1 x2 x3 : Operand} {u0 u1 u2 u3 : Value} {S : Value → World → Prop} (h0 : ρ.ev x0 = u0 := by (conv => lhs; whnf); first | done | exact rfl) (h1 : ρ.ev x1 = u1 := by (conv => lhs; whnf); first | done | exact rfl) (h2 : ρ.ev x2 = u2 := by (conv => lhs; whnf); first | done | exact rfl) (h3 : ρ.ev x3 = u3 := by (conv => lhs; whnf); first | done | exact rfl) (c : Rets P f [u0, u1, u2, u3] w S) (h : ∀ v w', S v w' → Q3 P l Q (upd ρ d v) w') : Q3 P (⟨none, .call (some d) f [x0, x1, x2, x3]⟩ :: l) Q ρ w := s_rets_4 h0 h1 h2 h3 c h
theorem zE4 {d : Nat} {f : FuncId} {x0 x1 x2 x3 : Operand} {u0 u1 u2 u3 : Value} {S T : Value → World → Prop} (h0 : ρ.ev x0 = u0 := by (conv => lhs; whnf); first | done | exact rfl) (h1 : ρ.ev x1 = u1 := by (conv => lhs; whnf); first | done | exact rfl) (h2 : ρ.ev x2 = u2 := by (conv => lhs; whnf); first | done | exact rfl) (h3 : ρ.ev x3 = u3 := by (conv => lhs; whnf); first | done | exact rfl) (c : Fins P f [u0, u1, u2, u3] w S T) (p : ∀ v w', T v w' → Q (.panic [{ v := v, recovered := false }]) ρ w') (h : ∀ v w', S v w' → Q3 P l Q (upd ρ d v) w') : Q3 P (⟨none, .call (some d) f [x0, x1, x2, x3]⟩ :: l) Q ρ w := s_ends_4 h0 h1 h2 h3 c p h
variable {α : Type} {r : Rep α} {xs : List α}
theorem zL {d : Nat} {x : Operand} (h : Q3 P l Q (upd ρ d (.int .i64 xs.length)) w) (hx : ρ.ev x = v := by (conv => lhs; whnf); first | done | exact rfl) (hK : r.sl c v xs := by assumption) : Q3 P (⟨none, .len d x⟩ :: l) Q ρ w := s_lenL hx hK h
theorem zi {d m : Nat} {x y : Operand} {k : IntKind} (h : ∀ b o cs a, AtK c b o cs → xs[m]? = some a → r.at c cs a → Q3 P l Q (upd ρ d (.pointer (some ⟨b, o, none⟩))) w) (hx : ρ.ev x = v := by (conv => lhs; whnf); first | done | exact rfl) (hy : ρ.ev y = .int k (m : Int) := by exact rfl) (hK : r.sl c v xs := by assumption) (hes : r.es = es := by exact rfl) (hn : m < xs.length := by first | omega | (simp; omega)) : Q3 P (⟨none, .idx d es x y⟩ :: l) Q ρ w := Q1O hx hy hK hes hn h
theorem za {T T' d Ts Ts2 Ty nb i k b : Nat} {z : List Value} {x y : Operand} {ds : List Value} {css : List (List Value)} {a : α} (hel : Q2F P Ts = some (T, es, nb, z)) (hts : ∃ e2, P.underlying Ts2 = some (.slice e2)) (hS : St c w L) (h : ∀ v' w' css', r.ls c css' (xs ++ [a]) → oneC v' = true → St c w' (L.set i (Go.Lir.sl T es v' css')) → Q3 P l Q (upd ρ d v') w') (hx : ρ.ev x = v := by (conv => lhs; whnf); first | done | exact rfl) (hy : ρ.ev y = .slice (some ⟨b, 0, none⟩) 1 1 := by (conv => lhs; whnf); first | done | exact rfl) (hi : nth L i = some (Go.Lir.sl T es v css) := by exact NthP.nth (by repeat constructor)) (hk : nth L k = some (blk b T' ds) := by exact NthP.nth (by repeat constructor)) (hls : r.ls c css xs := by assumption) (ha : r.at c ds a := by first | assumption | exact rfl) (hes : r.es = es := by exact rfl) (hb : (xs.length + 1) * nb ≤ 140737488355328 := by first | omega | (simp only [List.length_take]; omega) | (simp; omega)) : Q3 P (⟨none, .raw ⟨some d, .call ⟨.builtin .append, #[x, y], #[Ts, Ts2]⟩, Ty, "", #[], none⟩⟩ :: l) Q ρ w := s_appR1 hel hts hS hx hy hi hk hls ha hes hb h
theorem zak {T d Ts Ts2 Ty nb i : Nat} {z : List Value} {x y : Operand} {v2 : Value} {css : List (List Value)} {ys : List α} (hel : Q2F P Ts = some (T, es, nb, z)) (hts : ∃ e2, P.underlying Ts2 = some (.slice e2)) (hS : St c w L) (h : ∀ v' w' css', r.ls c css' (xs ++ ys) → oneC v' = true → St c w' (L.set i (Go.Lir.sl T es v' css')) → Q3 P l Q (upd ρ d v') w') (hx : ρ.ev x = v := by (conv => lhs; whnf); first | done | exact rfl) (hy : ρ.ev y = v2 := by (conv => lhs; whnf); first | done | exact rfl) (hi : nth L i = some (Go.Lir.sl T es v css) := by exact NthP.nth (by repeat constructor)) (hls : r.ls c css xs := by assumption) (hK : r.sl c v2 ys := by assumption) (hes : r.es = es := by exact rfl) (hb : (xs.length + ys.length) * nb ≤ 140737488355328 := by first | omega | (simp only [List.length_take]; omega) | (simp; omega)) : Q3 P (⟨none, .raw ⟨some d, .call ⟨.builtin .append, #[x, y], #[Ts, Ts2]⟩, Ty, "", #[], none⟩⟩ :: l) Q ρ w := s_appRK hel hts hS hx hy hi hls hK hes hb h
theorem zas {T T2 d Ts Ts2 Ty nb i k : Nat} {z : List Value} {x y : Operand} {v2 : Value} {css css2 : List (List Value)} {ys : List α} (hel : Q2F P Ts = some (T, es, nb, z)) (hts : ∃ e2, P.underlying Ts2 = some (.slice e2)) (hS : St c w L) (h : ∀ v' w' css', r.ls c css' (xs ++ ys) → oneC v' = true → St c w' (L.set i (Go.Lir.sl T es v' css')) → Q3 P l Q (upd ρ d v') w') (hx : ρ.ev x = v := by (conv => lhs; whnf); first | done | exact rfl) (hy : ρ.ev y = v2 := by (conv => lhs; whnf); first | done | exact rfl) (hi : nth L i = some (Go.Lir.sl T es v css) := by exact NthP.nth (by repeat constructor)) (hk : nth L k = some (Go.Lir.sl T2 es v2 css2) := by exact NthP.nth (by repeat constructor)) (hls : r.ls c css xs := by assumption) (hls2 : r.ls c css2 ys := by assumption) (hb : (xs.length + ys.length) * nb ≤ 140737488355328 := by first | omega | (simp only [List.length_take]; omega) | (simp; omega)) : Q3 P (⟨none, .raw ⟨some d, .call ⟨.builtin .append, #[x, y], #[Ts, Ts2]⟩, Ty, "", #[], none⟩⟩ :: l) Q ρ w := s_appRS hel hts hS hx hy hi hk hls hls2 hb h
def evs (ρ : Env) (ts : List Nat) : List (Nat × Value) := ts.map fun t => (t, ρ t)
theorem QpH (ρ : Env) : evs ρ [] = [] := rfl
theorem QpI {t : Nat} {ts : List Nat} {u : Value} {A : List (Nat × Value)} (h : ρ t = u) (h2 : evs ρ ts = A) : evs ρ (t :: ts) = (t, u) :: A := by subst h h2; rfl
theorem zh {A : List (Nat × Value)} (h : Has ρ A := by repeat' (first | exact trivial | refine And.intro rfl ?_)) : Has ρ A := h
theorem env2 {A B : List (Nat × Value)} (h : Has ρ A) (h2 : Has ρ B) : ∃ ρ', ρ = updl (updl ρ' B) A := ⟨ρ, by rw [Qlu h2, Qlu h]⟩
theorem zo {a : LC} (ts : List Nat) {A : List (Nat × Value)} (I : List (Nat × Value) → Env → World → Prop) (μ : Env → World → Nat) (h0 : I A ρ w) (h : ∀ ρ w, I A ρ w → a.wp P (Qt (fun ρ' w' => I A ρ' w' ∧ μ ρ' w' < μ ρ w) Q) ρ w) (hA : evs ρ ts = A := by (repeat (apply QpI; · ((conv => lhs; whnf); first | done | exact rfl))); exact QpH _) : (LC.loop a).wp P Q ρ w := s_loop (I A) μ h0 h
theorem zM {a b : LC} (ts : List Nat) {A : List (Nat × Value)} (I : List (Nat × Value) → Env → World → Prop) (ha : a.wp P (Qt (I A) Q) ρ w) (hb : ∀ ρ w, I A ρ w → b.wp P Q ρ w) (hA : evs ρ ts = A := by (repeat (apply QpI; · ((conv => lhs; whnf); first | done | exact rfl))); exact QpH _) : (LC.seq a b).wp P Q ρ w := s_mid (I A) ha hb
theorem zoL {a : LC} (hS : St c w L) (ts : List Nat) {A : List (Nat × Value)} (I : List (Nat × Value) → List Res → Env → World → Prop) (μ : Env → World → Nat) (h0 : I A L ρ w) (h : ∀ ρ w, I A L ρ w → a.wp P (Qt (fun ρ' w' => I A L ρ' w' ∧ μ ρ' w' < μ ρ w) Q) ρ w) (hA : evs ρ ts = A := by (repeat (apply QpI; · ((conv => lhs; whnf); first | done | exact rfl))); exact QpH _) : (LC.loop a).wp P Q ρ w := s_loop (I A L) μ h0 h
theorem zML {a b : LC} (hS : St c w L) (ts : List Nat) {A : List (Nat × Value)} (I : List (Nat × Value) → List Res → Env → World → Prop) (ha : a.wp P (Qt (I A L) Q) ρ w) (hb : ∀ ρ w, I A L ρ w → b.wp P Q ρ w) (hA : evs ρ ts = A := by (repeat (apply QpI; · ((conv => lhs; whnf); first | done | exact rfl))); exact QpH _) : (LC.seq a b).wp P Q ρ w := s_mid (I A L) ha hb
theorem zKL {l : List GO} (hS : St c w L) (n : Nat) (ts : List Nat) {A : List (Nat × Value)} (I : List (Nat × Value) → List Res → Env → World → Prop) (ha : Q3 P (l.take n) (Qt (I A L) Q) ρ w) (hb : ∀ ρ w, I A L ρ w → Q3 P (l.drop n) Q ρ w) (hA : evs ρ ts = A := by (repeat (apply QpI; · ((conv => lhs; whnf); first | done | exact rfl))); exact QpH _) : Q3 P l Q ρ w := s_cut n (I A L) ha hb
theorem St.sp {L' : List Res} (h : St c w L) (e : SubP L' L := by (repeat constructor); first | done | fail) : St c w L' := h.subP e
theorem fd {r' : Res} (h : NthP L i r' := by repeat constructor) : nth L i = some r' := h.nth
theorem vw {a b : Value} (h : a = b := by (conv => lhs; whnf); first | done | exact rfl) : a = b := h
theorem St.p3 {L1 L2 L3 : List Res} {r1 r2 r3 : Res} (h : St c w L) (p1 : Pick L r1 L1 := by repeat constructor) (p2 : Pick L1 r2 L2 := by repeat constructor) (p3 : Pick L2 r3 L3 := by repeat constructor) : St c w (r1 :: r2 :: r3 :: L3) := h.pick3 p1 p2 p3
end
end Go.Lir
namespace Go.Lir
@[reducible] def qm (d x : Nat) : GO := ⟨none, .mov d (.tmp x)⟩
@[reducible] def qk (d : Nat) (v : Value) : GO := ⟨none, .mov d (.const v)⟩
@[reducible] def qf (d x k : Nat) : GO := ⟨none, .fld d (.tmp x) k⟩
@[reducible] def ql (d x : Nat) : GO := ⟨none, .load1 d (.tmp x)⟩
@[reducible] def qV (d n x : Nat) : GO := ⟨none, .loadn d n (.tmp x)⟩
@[reducible] def qn (d x : Nat) : GO := ⟨none, .nilc d (.tmp x)⟩
@[reducible] def qL (d x : Nat) : GO := ⟨none, .len d (.tmp x)⟩
@[reducible] def qs (x y : Nat) : GO := ⟨none, .store1 (.tmp x) (.tmp y)⟩
@[reducible] def qw (n x y : Nat) : GO := ⟨none, .storen n (.tmp x) (.tmp y)⟩
@[reducible] def qi (d es x y : Nat) : GO := ⟨none, .idx d es (.tmp x) (.tmp y)⟩
@[reducible] def qx (d x k : Nat) : GO := ⟨none, .ext d (.tmp x) k⟩
@[reducible] def qb (d T x : Nat) : GO := ⟨none, .box d T (.tmp x)⟩
@[reducible] def qt (d : Nat) (o : BinOp) (T x y : Nat) : GO := ⟨none, .bin d o T (.tmp x) (.tmp y)⟩
@[reducible] def qj (d : Nat) (o : BinOp) (T x : Nat) (n : Int) : GO := ⟨none, .bin d o T (.tmp x) (.const (.int .i64 n))⟩
@[reducible] def qg (s : Nat) (b : Bool) (o : GO) : GO := ⟨some (s, b), o.2⟩
@[reducible] def vi (n : Int) : Value := .int .i64 n
@[reducible] def vn : Value := .slice none 0 0
end Go.Lir
